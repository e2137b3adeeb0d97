/- Part of a proof: see the last text. -/
import Derived.Test.YtbcnbofkgkheeaaZk18
import Derived.Test.YtbcnbofkgkheeaaZk17
import Derived.Test.YtbcnbofkgkheeaaZk16
namespace Go.Proofs.Ytbcnbofkgkheeaa
open Go.RowKit
open Go.Ev (sy)
set_option linter.unusedVariables false
set_option linter.unusedSimpArgs false
set_option maxRecDepth 8000
structure DeadI where
 a0:Int
 a1:Int
 a2:Int
 a3:Int
 a4:Int
 a5:Int
 a6:Int
 nx:Int
 was:Int
 g:Int
def deadC (a:DeadI) (dem:Bool) : List Value :=
 .int .i64 a.a0::.int .i64 a.a1::.int .i64 a.a2::.int .i64 a.a3::.int .i64 a.a4::.int .i64 a.a5::.int .i64 a.a6::.int .u64 a.nx::.bool dem::.int .i64 0::.int .u64 a.was::.pointer none::cond dem [] [.int .i64 a.g]
def deadA (dem:Bool) (bx:Nat) : Ev.Asr:=Ev.exA (fun _:DeadI=>True) (fun a=>Ev.blkA bx (deadC a dem) (kickT dem))
structure XS where
 dem:Bool
 live:Option (Cfg×Nat×KickS)
def XS.st (x:XS) : Nat:=match x.live with | some (_,_,k)=>k.st | none=>0
def XS.kicked (x:XS) : Bool:=match x.live with | some (_,_,k)=>k.put.isSome | none=>false
def XS.over (x:XS) : List Int:=match x.live with | some (_,_,k)=>k.over | none=>[]
def XS.step (x:XS) (m:MemM) : XS×MemM:=match x.live with | some (c,p,k)=>(⟨x.dem,some (c,p,(kickStep c p k m).1)⟩,(kickStep c p k m).2) | none=>(x,m)
def XS.Ok (x:XS) (m:MemM) : Prop:=match x.live with | some (c,p,k)=>k.dem=x.dem∧p < c.n∧KickOk c k∧MemOk c m | none=>True
structure MemB (m:MemM) : Prop where
 len:m.cells.length≤564
 u:∀ x ∈ m.cells,U64 x
theorem MemB.tick {m:MemM} (h:MemB m) : MemB m.tick:=⟨h.len,h.u⟩
theorem MemB.put {m:MemM} (h:MemB m) (a:Nat) {v:Int} (hv:U64 v) : MemB (m.put a v) :=
 ⟨by simp only [MemM.put,List.length_set]; exact h.len,fun x hx=>by
  rcases List.mem_or_eq_of_mem_set hx with hx | rfl
  ·exact h.u x hx
  ·exact hv⟩
theorem kickStep_done {c:Cfg} {p:Nat} {k:KickS} {m:MemM} (h:k.st=0) : kickStep c p k m=(k,m):=by
 obtain ⟨dem,gg,st,was,put⟩:=k
 have e:st=0:=h
 subst e
 rfl
theorem kickStep_dem {c:Cfg} {p:Nat} {k:KickS} {m:MemM} : (kickStep c p k m).1.dem=k.dem:=by
 unfold kickStep
 split
 ·rfl
 ·split
  ·rfl
  ·split <;> rfl
 ·split <;> rfl
 ·rfl
def xP (bx:Nat) (x:XS) : Ev.Asr:=match x.live with | some (c,p,k)=>machA c p bx k | none=>deadA x.dem bx
def xA (bx:Nat) (x:XS) : Ev.Asr where
 p:=fun _ F w=>(xP bx x).p (fun _=>none) F w
 keep:=fun _ F w w' hk h=>(xP bx x).keep (fun _=>none) F w w' hk h
 mono:=fun _ _ _ _ _ h=>h
def xW (x:XS) (v:Value) : Ev.Asr where
 p:=fun ι F w=>∃ bp,v=.pointer (some ⟨bp,0,none⟩)∧(xA bp x).p ι F w
 keep:=fun ι F w w' hk ⟨bp,e,h⟩=>⟨bp,e,(xA bp x).keep ι F w w' hk h⟩
 mono:=fun ι κ F w hle ⟨bp,e,h⟩=>⟨bp,e,(xA bp x).mono ι κ F w hle h⟩
theorem hold_xW {x:XS} {v:Value} {ctx:Ev.Ctx} {l:List Ev.Asr} {w:World} (h:Ev.Hold ctx (xW x v::l) w) : ∃ bp,v=.pointer (some ⟨bp,0,none⟩)∧Ev.Hold ctx (xA bp x::l) w :=
 h.headE (b:=fun bp=>xA bp x) (p:=fun bp=>v=.pointer (some ⟨bp,0,none⟩)) (fun F ⟨bp,e,h⟩=>⟨bp,e,h⟩)
theorem xW_hold {x:XS} {bp:Nat} {ctx:Ev.Ctx} {l:List Ev.Asr} {w:World} (h:Ev.Hold ctx (xA bp x::l) w) : Ev.Hold ctx (xW x (.pointer (some ⟨bp,0,none⟩))::l) w :=
 h.head (fun F h=>⟨bp,rfl,h⟩)
theorem dead_x {dem:Bool} {bx:Nat} {a:DeadI} {ctx:Ev.Ctx} {l:List Ev.Asr} {w:World} (h:Ev.Hold ctx (Ev.blkA bx (deadC a dem) (kickT dem)::l) w) : Ev.Hold ctx (xA bx ⟨dem,none⟩::l) w:=Ev.Hold.putX (a:=fun a:DeadI=>Ev.blkA bx (deadC a dem) (kickT dem)) a trivial h
theorem x_dead {dem:Bool} {bx:Nat} {ctx:Ev.Ctx} {l:List Ev.Asr} {w:World} (h:Ev.Hold ctx (xA bx ⟨dem,none⟩::l) w) : ∃ a:DeadI,Ev.Hold ctx (Ev.blkA bx (deadC a dem) (kickT dem)::l) w:=by
 obtain ⟨a,_,h1⟩:=Ev.Hold.getX (a:=fun a:DeadI=>Ev.blkA bx (deadC a dem) (kickT dem)) h
 exact ⟨a,h1⟩
theorem xd_kicked {w:World} {F:Nat→Prop} {x:XS} {bx:Nat} {m:MemM} (hd:x.dem=true) (hx:x.Ok m) (h:Ev.Now [xA bx x] F w) :
  Calls Try.prog 120 #[.pointer (some ⟨bx,0,none⟩)] w fun e w'=>e=.returned (.bool x.kicked)∧Ev.Hold ⟨w,F⟩ [xA bx x] w':=by
 obtain ⟨dem,live⟩:=x
 have hd':dem=true:=hd
 subst hd'
 cases live with
 | none =>
  obtain ⟨a,hh⟩:=x_dead (Ev.Hold.start h)
  obtain ⟨F',n1,n2,n3⟩:=hh.ex
  exact startP (ndC ⟨w,F',a.a0,a.a1,a.a2,a.a3,a.a4,a.a5,a.a6,a.nx,0,a.was,a.g,.pointer none,rfl,bx,0,Nat.zero_le _⟩) (by kernel_rfl) n1 (by simp) (by simp) (fun κ w1 h1=>⟨rfl,dead_x (dem:=true) (a:=a) (h1.into (l:=[]) n2 n3)⟩)
 | some y =>
  obtain ⟨c,p,k⟩:=y
  obtain ⟨h1,h2,h3,h4⟩:=hx
  exact demote_kicked h2 h1 h3 h
theorem xd_over {w:World} {F:Nat→Prop} {x:XS} {bx:Nat} {m:MemM} (hd:x.dem=true) (hx:x.Ok m) (h:Ev.Now [xA bx x] F w) :
  Calls Try.prog 121 #[.pointer (some ⟨bx,0,none⟩)] w fun e w'=>∃ v cd,Ev.dec cd=v∧e=.returned v∧Ev.Hold ⟨w,F⟩ [isA v x.over,xA bx x] w':=by
 obtain ⟨dem,live⟩:=x
 have hd':dem=true:=hd
 subst hd'
 cases live with
 | none =>
  obtain ⟨a,hh⟩:=x_dead (Ev.Hold.start h)
  obtain ⟨F',n1,n2,n3⟩:=hh.ex
  exact startP (ndE ⟨w,F',a.a0,a.a1,a.a2,a.a3,a.a4,a.a5,a.a6,a.nx,0,a.was,a.g,.pointer none,rfl,bx,0,Nat.zero_le _⟩) (by kernel_rfl) n1 (by simp) (by simp) (fun κ w1 h1=>⟨_,_,Ev.dec_slice0,rfl,(dead_x (dem:=true) (a:=a) (h1.into (l:=[]) n2 n3)).nilSl (e := 3) (sz:=1)⟩)
 | some y =>
  obtain ⟨c,p,k⟩:=y
  obtain ⟨h1,h2,h3,h4⟩:=hx
  exact demote_over h2 h1 h3 h
theorem xd_step {w:World} {F:Nat→Prop} {x:XS} {bx bm:Nat} {m:MemM} (hd:x.dem=true) (hx:x.Ok m) (h:Ev.Now [xA bx x,memA bm m] F w) :
  Calls Try.prog 122 #[.pointer (some ⟨bx,0,none⟩),.pointer (some ⟨bm,0,none⟩)] w fun e w'=>e=.returned (.bool (decide ((x.step m).1.st=0)))∧Ev.Hold ⟨w,F⟩ [xA bx (x.step m).1,memA bm (x.step m).2] w':=by
 obtain ⟨dem,live⟩:=x
 have hd':dem=true:=hd
 subst hd'
 cases live with
 | none =>
  obtain ⟨a,hh⟩:=x_dead (Ev.Hold.start h)
  obtain ⟨F',n1,n2,n3⟩:=hh.ex
  obtain ⟨F1,F2,k1,k2,k3,k4⟩:=Ev.now_split (l:=[Ev.blkA bx (deadC a true) (kickT true)]) n1
  refine startP (ndZ ⟨w,F1,a.a0,a.a1,a.a2,a.a3,a.a4,a.a5,a.a6,a.nx,0,a.was,a.g,.pointer none,rfl,bx,bm,Nat.zero_le _⟩) (by kernel_rfl) k1 (by simp) (by simp) (fun κ w1 h1=>⟨rfl,?_⟩)
  exact dead_x (dem:=true) (a:=a) ((h1.frame k2 k3).into (l:=[]) n2 (fun j hj=>n3 j ((k4 j).2 hj)))
 | some y =>
  obtain ⟨c,p,k⟩:=y
  obtain ⟨h1,h2,h3,h4⟩:=hx
  by_cases h0:k.st=0
  ·show Calls _ _ _ _ (fun e w'=>e=.returned (.bool (decide ((kickStep c p k m).1.st=0)))∧Ev.Hold ⟨w,F⟩ [machA c p bx (kickStep c p k m).1,memA bm (kickStep c p k m).2] w')
   rw [kickStep_done h0]
   obtain ⟨pv,lpv,rest,hh,hback⟩:=mach_any (Ev.Hold.start h)
   obtain ⟨F',n1,n2,n3⟩:=hh.ex
   obtain ⟨F1,F2,k1,k2,k3,k4⟩:=Ev.now_split (l:=[Ev.blkA bx (kickC c p k pv) (kickT k.dem)]) n1
   obtain ⟨dem,gg,st,was,put⟩:=k
   have e0:st=0:=h0
   subst e0
   have e1:dem=true:=h1
   subst e1
   refine startP (ndZ ⟨w,F1,c.n,c.q,c.g,c.m,c.t,c.s,p,KickS.nx ⟨true,gg,0,was,put⟩,0,was,gg,pv,lpv,bx,bm,h3.st⟩) (by kernel_rfl) k1 (by simp) (by simp) (fun κ w1 h1=>⟨rfl,?_⟩)
   exact hback w1 ((h1.frame k2 k3).into (l:=[]) n2 (fun j hj=>n3 j ((k4 j).2 hj)))
  ·exact demote_step h2 h1 h3 h0 h4 h
theorem xr_kicked {w:World} {F:Nat→Prop} {x:XS} {bx:Nat} {m:MemM} (hd:x.dem=false) (hx:x.Ok m) (h:Ev.Now [xA bx x] F w) :
  Calls Try.prog 50 #[.pointer (some ⟨bx,0,none⟩)] w fun e w'=>e=.returned (.bool x.kicked)∧Ev.Hold ⟨w,F⟩ [xA bx x] w':=by
 obtain ⟨dem,live⟩:=x
 have hd':dem=false:=hd
 subst hd'
 cases live with
 | none =>
  obtain ⟨a,hh⟩:=x_dead (Ev.Hold.start h)
  obtain ⟨F',n1,n2,n3⟩:=hh.ex
  exact startP (nrC ⟨w,F',a.a0,a.a1,a.a2,a.a3,a.a4,a.a5,a.a6,a.nx,0,a.was,a.g,.pointer none,rfl,bx,0,Nat.zero_le _⟩) (by kernel_rfl) n1 (by simp) (by simp) (fun κ w1 h1=>⟨rfl,dead_x (dem:=false) (a:=a) (h1.into (l:=[]) n2 n3)⟩)
 | some y =>
  obtain ⟨c,p,k⟩:=y
  obtain ⟨h1,h2,h3,h4⟩:=hx
  exact ready_kicked h2 h1 h3 h
theorem xr_over {w:World} {F:Nat→Prop} {x:XS} {bx:Nat} {m:MemM} (hd:x.dem=false) (hx:x.Ok m) (h:Ev.Now [xA bx x] F w) :
  Calls Try.prog 29 #[.pointer (some ⟨bx,0,none⟩)] w fun e w'=>∃ v cd,Ev.dec cd=v∧e=.returned v∧Ev.Hold ⟨w,F⟩ [isA v x.over,xA bx x] w':=by
 obtain ⟨dem,live⟩:=x
 have hd':dem=false:=hd
 subst hd'
 cases live with
 | none =>
  obtain ⟨a,hh⟩:=x_dead (Ev.Hold.start h)
  obtain ⟨F',n1,n2,n3⟩:=hh.ex
  exact startP (nrE ⟨w,F',a.a0,a.a1,a.a2,a.a3,a.a4,a.a5,a.a6,a.nx,0,a.was,a.g,.pointer none,rfl,bx,0,Nat.zero_le _⟩) (by kernel_rfl) n1 (by simp) (by simp) (fun κ w1 h1=>⟨_,_,Ev.dec_slice0,rfl,(dead_x (dem:=false) (a:=a) (h1.into (l:=[]) n2 n3)).nilSl (e := 3) (sz:=1)⟩)
 | some y =>
  obtain ⟨c,p,k⟩:=y
  obtain ⟨h1,h2,h3,h4⟩:=hx
  exact ready_over h2 h1 h3 h
theorem xr_step {w:World} {F:Nat→Prop} {x:XS} {bx bm:Nat} {m:MemM} (hd:x.dem=false) (hx:x.Ok m) (h:Ev.Now [xA bx x,memA bm m] F w) :
  Calls Try.prog 90 #[.pointer (some ⟨bx,0,none⟩),.pointer (some ⟨bm,0,none⟩)] w fun e w'=>e=.returned (.bool (decide ((x.step m).1.st=0)))∧Ev.Hold ⟨w,F⟩ [xA bx (x.step m).1,memA bm (x.step m).2] w':=by
 obtain ⟨dem,live⟩:=x
 have hd':dem=false:=hd
 subst hd'
 cases live with
 | none =>
  obtain ⟨a,hh⟩:=x_dead (Ev.Hold.start h)
  obtain ⟨F',n1,n2,n3⟩:=hh.ex
  obtain ⟨F1,F2,k1,k2,k3,k4⟩:=Ev.now_split (l:=[Ev.blkA bx (deadC a false) (kickT false)]) n1
  refine startP (nrZ ⟨w,F1,a.a0,a.a1,a.a2,a.a3,a.a4,a.a5,a.a6,a.nx,0,a.was,a.g,.pointer none,rfl,bx,bm,Nat.zero_le _⟩) (by kernel_rfl) k1 (by simp) (by simp) (fun κ w1 h1=>⟨rfl,?_⟩)
  exact dead_x (dem:=false) (a:=a) ((h1.frame k2 k3).into (l:=[]) n2 (fun j hj=>n3 j ((k4 j).2 hj)))
 | some y =>
  obtain ⟨c,p,k⟩:=y
  obtain ⟨h1,h2,h3,h4⟩:=hx
  by_cases h0:k.st=0
  ·show Calls _ _ _ _ (fun e w'=>e=.returned (.bool (decide ((kickStep c p k m).1.st=0)))∧Ev.Hold ⟨w,F⟩ [machA c p bx (kickStep c p k m).1,memA bm (kickStep c p k m).2] w')
   rw [kickStep_done h0]
   obtain ⟨pv,lpv,rest,hh,hback⟩:=mach_any (Ev.Hold.start h)
   obtain ⟨F',n1,n2,n3⟩:=hh.ex
   obtain ⟨F1,F2,k1,k2,k3,k4⟩:=Ev.now_split (l:=[Ev.blkA bx (kickC c p k pv) (kickT k.dem)]) n1
   obtain ⟨dem,gg,st,was,put⟩:=k
   have e0:st=0:=h0
   subst e0
   have e1:dem=false:=h1
   subst e1
   refine startP (nrZ ⟨w,F1,c.n,c.q,c.g,c.m,c.t,c.s,p,KickS.nx ⟨false,gg,0,was,put⟩,0,was,gg,pv,lpv,bx,bm,h3.st⟩) (by kernel_rfl) k1 (by simp) (by simp) (fun κ w1 h1=>⟨rfl,?_⟩)
   exact hback w1 ((h1.frame k2 k3).into (l:=[]) n2 (fun j hj=>n3 j ((k4 j).2 hj)))
  ·exact ready_step h2 h1 h3 h0 h4 h
def newD (c:Cfg) (p:Nat) : XS:=⟨true,some (c,p,⟨true,0,1,0,none⟩)⟩
def newR (c:Cfg) (p:Nat) (g:Int) : XS:=⟨false,some (c,p,⟨false,g,1,0,none⟩)⟩
section
variable {w:World} {F:Nat→Prop}
theorem newD_ok (c:Cfg) {p:Nat} (hp:p < c.n) (h:Ev.Now [] F w) : Calls Try.prog 21 #[c.v,.int .i64 (p:Int)] w fun e w'=>∃ v cd,Ev.dec cd=v∧e=.returned v∧Ev.Hold ⟨w,F⟩ [xW (newD c p) v] w':=by
 refine startP (nwdok w F c p hp) (by kernel_rfl) h (by simp) (by simp) (fun κ w1 h1=>⟨_,_,Ev.dec_ptr _ _,rfl,xW_hold ?_⟩)
 exact none_mach (c:=c) (p:=p) (k:=⟨true,0,1,0,none⟩) rfl h1
theorem newR_ok (c:Cfg) {p:Nat} (hp:p < c.n) (g:Int) (hg:0≤g∧g≤9223372036854775807) (h:Ev.Now [] F w) : Calls Try.prog 18 #[c.v,.int .i64 (p:Int),.int .i64 g] w fun e w'=>∃ v cd,Ev.dec cd=v∧e=.returned v∧Ev.Hold ⟨w,F⟩ [xW (newR c p g) v] w':=by
 refine startP (nwrok w F c p hp g hg) (by kernel_rfl) h (by simp) (by simp) (fun κ w1 h1=>⟨_,_,Ev.dec_ptr _ _,rfl,xW_hold ?_⟩)
 exact none_mach (c:=c) (p:=p) (k:=⟨false,g,1,0,none⟩) rfl h1
end
end Go.Proofs.Ytbcnbofkgkheeaa
namespace Go.Proofs.Ytbcnbofkgkheeaa
open Go.RowKit
open Go.Ev (sy iz uz wz iN uN wN pz dv fc fn ak vk vd kn pc cc cr cm cd fr)
set_option linter.unusedVariables false
set_option linter.unusedSimpArgs false
set_option maxRecDepth 8000
attribute [local irreducible] Ev.wpL
theorem bt_or {t:TypeId} {ox oy:Operand} {k:IntKind} {x y z:Int} (h:bits .or k x y=z) : (do eqGuard .or t ox oy (.int k x) (.int k y); binOp .or t (.int k x) (.int k y) : Sem Value)=pure (.int k z):=by
  rw [Ev.guard_int]
  show binOp .or t (.int k x) (.int k y)=_
  subst h
  simp only [binOp]
  rw [if_neg (fun h=>h rfl)]
  rfl
theorem bt_shl32 {t:TypeId} {ox oy:Operand} {x:Int} (h:0≤x∧x < 4294967296) : (do eqGuard .shl t ox oy (.int .u64 x) (.int .u64 32); binOp .shl t (.int .u64 x) (.int .u64 32) : Sem Value)=pure (.int .u64 (x * 4294967296)):=by
  rw [Ev.guard_int]
  show binOp .shl t (.int .u64 x) (.int .u64 32)=_
  have e:IntKind.u64.wrap (x * 4294967296)=x * 4294967296:=wrapU (by omega) (by omega)
  simp only [binOp]
  have e2:Op.shift .shl .u64 x .u64 32=pure (.int .u64 (IntKind.u64.wrap (x * 2 ^ 32))):=rfl
  rw [e2,show x * 2 ^ 32=x * 4294967296 by rfl,e]
theorem byte_at {w:World} {bv:Value} {bs:List Int} (hs:Ev.SlR 1 bv bs.length (u8s bs) w) (hb:bs.length≤1000) (hz:∀ i,0≤bs.getD i 0∧bs.getD i 0 < 256) (ix:Nat) (hi:ix≤1000000) : Calls Try.prog 33 #[bv,.int .i64 (ix:Int)] w fun e w2=>e=.returned (.int .i64 (bs.getD ix 0))∧Below w.heap.size w w2:=by
 rcases Nat.lt_or_ge ix bs.length with h | h
 ·exact start0 (r:=.int .i64 (bs.getD ix 0)) (by kernel_rfl) (by simp) (by simp) (bAtY w bv hs.leaf bs hs (by omega) ix hi h (hz ix))
 ·rw [show bs.getD ix 0=0 by simp [List.getD_eq_getElem?_getD,List.getElem?_eq_none h]]
  exact start0 (r:=.int .i64 0) (by kernel_rfl) (by simp) (by simp) (bAtN w bv hs.leaf bs hs (by omega) ix hi h)
structure FilP where
 W0:World
 F0:Nat→Prop
 c:Cfg
 bv:Value
 bs:List Int
 hs:Ev.SlR 1 bv bs.length (u8s bs) W0
 hoff:Ev.OffX F0 bv
 hb:bs.length≤1000
 hz:∀ i,0≤bs.getD i 0∧bs.getD i 0 < 256
theorem FilP.z (s:FilP) : (1≤s.c.n∧s.c.n≤8)∧(2≤s.c.q∧s.c.q≤64)∧s.c.off s.c.n≤560∧s.bs.length≤1000:=⟨s.c.nb,s.c.qb,s.c.off_max,s.hb⟩
structure FinP where
 W0:World
 F0:Nat→Prop
 c:Cf
 hc:c.ok=false
 bv:Value
 bs:List Int
 hs:Ev.SlR 1 bv bs.length (u8s bs) W0
 hoff:Ev.OffX F0 bv
abbrev fi1a0 (s:FilP) : Value:=(.agg #[(iN (s.c.n)),(iN (s.c.q)),(iz (s.c.g)),(iz (s.c.m)),(iz (s.c.t)),(iz (s.c.s))])
abbrev fi1a7:List (Nat×Value):=[(1,sy 0),(2,.pointer (some ⟨400,0,none⟩)),(4,.slice none 0 0),(5,.complex .f32 407 0),(6,.int .i64 0)]
abbrev fi1a24 (ov:Value) (us:List Int) : List Ev.Asr:=[Ev.slA 30 1 (ov) (us.length) (u64s us)]
abbrev fi1a25:List Ev.Blk:=[(4,[sy 3,sy 4,sy 5,sy 6,sy 7,sy 8],23)]
abbrev fi1a26:List (Nat×Value):=[(1,sy 0),(2,.pointer (some ⟨4,0,none⟩)),(4,.slice none 0 0),(5,sy 1),(6,sy 2)]
abbrev fi1a27 (s:FilP) (ov:Value) (b2:Nat) (p:Nat) : List (Nat×Value):=[(1,(s.bv)),(2,(pz b2)),(4,(.slice none 0 0)),(5,(ov)),(6,(iN (p)))]
abbrev fi1a28 (s:FilP) (b2:Nat) : Ev.Asr:=Ev.blkA b2 [(iN (s.c.n)),(iN (s.c.q)),(iz (s.c.g)),(iz (s.c.m)),(iz (s.c.t)),(iz (s.c.s))] 23
abbrev fi1a29 (s:FilP) (ov:Value) (us:List Int) (b2:Nat) : List Ev.Asr:=[(fi1a28 s b2),Ev.slA 30 1 (ov) (us.length) (u64s us)]
abbrev fi1a34:List Ev.Blk:=[(4,[sy 6,sy 7,sy 8,sy 9,sy 10,sy 11],23)]
abbrev fi1a44 (s:FilP) (ov:Value) (us:List Int) (p:Nat) (h:Int) (ix:Nat) : Ev.Asr:=Ev.slA 30 1 (ov) (us.length) ((u64s us).set ((s.c.slot p (IntKind.u32.wrap (h+(ix:Int)))) * 1) (uz (IntKind.u64.wrap ((((p) * 100:Nat) : Int)+((ix:Nat) : Int)))))
abbrev fi1a53:List (Nat×Value):=[(1,sy 0),(2,.pointer (some ⟨4,0,none⟩)),(4,.slice none 0 0),(5,sy 1),(6,sy 10)]
abbrev fi1a65:List (Nat×Value):=[(1,sy 0),(2,.pointer (some ⟨4,0,none⟩)),(4,.slice none 0 0),(5,sy 1),(6,sy 9)]
theorem fiA (s:FilP) : Ev.Pie Try.prog 10 [] 0 3 148 ⟨s.W0,s.F0⟩ [(0,(fi1a0 s)),(1,(s.bv))] [] .normal (fun κ:Ev.Ren=>[(1,(s.bv)),(2,(pz ((κ 400).getD 0))),(4,(.slice none 0 0)),(5,(dv κ 407)),(6,(.int .i64 0))]) (fun κ:Ev.Ren=>[Ev.blkA ((κ 400).getD 0) [(iN (s.c.n)),(iN (s.c.q)),(iz (s.c.g)),(iz (s.c.m)),(iz (s.c.t)),(iz (s.c.s))] 23,Ev.slA 30 1 (dv κ 407) (4+s.c.off s.c.n) (List.replicate (4+s.c.off s.c.n) (.int .u64 0))]):=(tr (c:=⟨s.W0,s.F0⟩) (kn [s.bv,iN (s.c.n),iN (s.c.q),iz (s.c.g),iz (s.c.m),iz (s.c.t),iz (s.c.s),iN (4+s.c.off s.c.n)] (fc s.hs.leaf fr) [] [] [] fn fn fn s.W0 s.F0 [[],[Ev.atD 407 (fun v=>Ev.slA 30 1 v (4+s.c.off s.c.n) (List.replicate (4+s.c.off s.c.n) (.int .u64 0)))]] [⟨[19,29],[sy 7,sy 7],none,0,some 407,.complex .f32 407 0,some 1⟩] [⟨24,[.agg #[sy 1,sy 2,sy 3,sy 4,sy 5,sy 6]],0,none,sy 7,none⟩]) (fc (by obtain ⟨i,i1,i2,i3,i4⟩:=infU64; have z:=s.z; exact Ev.mk_slice rfl rfl (Ev.isSym rfl) (Ev.isSym rfl) Try.underlying29 i1 i2 i3 rfl (by rw [i4]; omega) (by unfold maxLen; omega)) fn) (fc (pc rfl (fun w hb=>cells_ok s.c w)) fn) rfl [] [] [(400,[sy 1,sy 2,sy 3,sy 4,sy 5,sy 6],23)] 1 rfl rfl [(0,.agg #[sy 1,sy 2,sy 3,sy 4,sy 5,sy 6]),(1,sy 0)] fi1a7 .normal).conv (fun κ w=>⟨(fun _ h=>h),(fun _ h=>Ev.undy (a:=fun v=>Ev.slA 30 1 v (4+s.c.off s.c.n) (List.replicate (4+s.c.off s.c.n) (.int .u64 0))) (fun _ _ _ _ _ h=>h) h),trivial⟩)
theorem fiC (s:FilP) (ov:Value) (lov:Ev.leafV ov=true) (us:List Int) (hu:us.length=4+s.c.off s.c.n) (b2 p:Nat) (hp:p < s.c.n) : Ev.Pie Try.prog 10 [6,0] 0 2 148 ⟨s.W0,s.F0⟩ (fi1a27 s ov b2 p) (fi1a29 s ov us b2) .normal (fun κ:Ev.Ren=>(fi1a27 s ov b2 p)) (fun κ:Ev.Ren=>(fi1a29 s ov us b2)):=(tr (c:=⟨s.W0,s.F0⟩) (kn [s.bv,ov,iN (p),iN (s.c.n),iN (s.c.q),iz (s.c.g),iz (s.c.m),iz (s.c.t),iz (s.c.s)] (fc s.hs.leaf (fc (by assumption) fr)) [(.lss,sy 2,sy 3,.bool true)] [] [] (fc (fun _ _ _=>Ev.bt_lss (by have z:=s.z; first | (simp; done) | (simp; omega))) fn) fn fn s.W0 s.F0 [(fi1a24 ov us)] [] [⟨32,[.agg #[sy 3,sy 4,sy 5,sy 6,sy 7,sy 8]],0,none,.bool true,none⟩]) fn (fc (pc rfl (fun w hb=>s.c.right w)) fn) rfl [(4,b2)] fi1a25 fi1a25 0 rfl rfl fi1a26 fi1a26 .normal)
theorem fiE (s:FilP) (ov:Value) (lov:Ev.leafV ov=true) (us:List Int) (hu:us.length=4+s.c.off s.c.n) (b2 p:Nat) (hp:¬ p < s.c.n) : Ev.Pie Try.prog 10 [6,0] 0 2 148 ⟨s.W0,s.F0⟩ (fi1a27 s ov b2 p) (fi1a29 s ov us b2) (.exit 0) (fun κ:Ev.Ren=>(fi1a27 s ov b2 p)) (fun κ:Ev.Ren=>(fi1a29 s ov us b2)):=(tr (c:=⟨s.W0,s.F0⟩) (kn [s.bv,ov,iN (p),iN (s.c.n),iN (s.c.q),iz (s.c.g),iz (s.c.m),iz (s.c.t),iz (s.c.s)] (fc s.hs.leaf (fc (by assumption) fr)) [(.lss,sy 2,sy 3,.bool false)] [] [] (fc (fun _ _ _=>Ev.bt_lss (by have z:=s.z; first | (simp; done) | (simp; omega))) fn) fn fn s.W0 s.F0 [(fi1a24 ov us)] [] []) fn fn rfl [(4,b2)] fi1a25 fi1a25 0 rfl rfl fi1a26 fi1a26 (.exit 0))
theorem fiHy (s:FilP) (ov:Value) (lov:Ev.leafV ov=true) (us:List Int) (hu:us.length=4+s.c.off s.c.n) (b2 p:Nat) (hp:p < s.c.n) (h1:((s.bs.getD (4 * (p)) 0).tmod 5)=0) : Ev.Pie Try.prog 10 [6,0,4] 0 3 148 ⟨s.W0,s.F0⟩ (fi1a27 s ov b2 p) (fi1a29 s ov us b2) .normal (fun κ:Ev.Ren=>[(1,(s.bv)),(2,(pz b2)),(4,(.slice none 0 0)),(5,(ov)),(6,(iN (p))),(7,(wz (IntKind.u32.wrap ((IntKind.u32.wrap (0 - (IntKind.u32.wrap ((s.bs.getD (4 * (p)) 0).tmod 7)))) - 1))))]) (fun κ:Ev.Ren=>(fi1a29 s ov us b2)):=(tr (c:=⟨s.W0,s.F0⟩) (kn [s.bv,ov,iN (p),iN (s.c.n),iN (s.c.q),iz (s.c.g),iz (s.c.m),iz (s.c.t),iz (s.c.s),iN (4 * (p)),iz (s.bs.getD (4 * (p)) 0),iz ((s.bs.getD (4 * (p)) 0).tmod 7),wz (IntKind.u32.wrap ((s.bs.getD (4 * (p)) 0).tmod 7)),iz ((s.bs.getD (4 * (p)) 0).tmod 5),wz (IntKind.u32.wrap (0 - (IntKind.u32.wrap ((s.bs.getD (4 * (p)) 0).tmod 7)))),wz (IntKind.u32.wrap ((IntKind.u32.wrap (0 - (IntKind.u32.wrap ((s.bs.getD (4 * (p)) 0).tmod 7)))) - 1))] (fc s.hs.leaf (fc (by assumption) fr)) [(.mul,.int .i64 4,sy 2,sy 9),(.rem,sy 10,.int .i64 7,sy 11),(.rem,sy 10,.int .i64 5,sy 13),(.eql,sy 13,.int .i64 0,.bool true),(.sub,sy 14,.int .u32 1,sy 15)] [(.neg,sy 12,sy 14)] [(.u32,sy 11,sy 12)] (fc (fun _ _ _=>Ev.bt_mul (by have z:=s.z; have y:=s.c.z hp; have q7:=hu; rw [wrap_ok (by omega) (by omega)]; omega)) (fc (fun _ _ _=>Ev.bt_rem (by decide) rfl) (fc (fun _ _ _=>Ev.bt_rem (by decide) rfl) (fc (fun _ _ _=>Ev.bt_eql (by have z:=s.z; have y:=s.c.z hp; have q7:=hu; first | (simpa using h1) | (simp; omega))) (fc (fun _ _ _=>Ev.bt_sub rfl) fn))))) (fc (Ev.ut_neg rfl) fn) (fc ⟨.i64,_,rfl,rfl⟩ fn) s.W0 s.F0 [(fi1a24 ov us)] [] [⟨33,[sy 0,sy 9],0,none,sy 10,none⟩]) fn (fc (pc (args:=[(s.bv),(iN (4 * (p)))]) rfl (fun w hb=>byte_at (s.hs.old hb s.hoff) s.hb s.hz (4 * (p)) (by have z:=s.z; have y:=s.c.z hp; have q7:=hu; omega))) fn) rfl [(4,b2)] fi1a25 fi1a25 0 rfl rfl fi1a26 [(1,sy 0),(2,.pointer (some ⟨4,0,none⟩)),(4,.slice none 0 0),(5,sy 1),(6,sy 2),(7,sy 15)] .normal)
theorem fiHn (s:FilP) (ov:Value) (lov:Ev.leafV ov=true) (us:List Int) (hu:us.length=4+s.c.off s.c.n) (b2 p:Nat) (hp:p < s.c.n) (h1:¬ ((s.bs.getD (4 * (p)) 0).tmod 5)=0) : Ev.Pie Try.prog 10 [6,0,4] 0 3 148 ⟨s.W0,s.F0⟩ (fi1a27 s ov b2 p) (fi1a29 s ov us b2) .normal (fun κ:Ev.Ren=>[(1,(s.bv)),(2,(pz b2)),(4,(.slice none 0 0)),(5,(ov)),(6,(iN (p))),(7,(wz (IntKind.u32.wrap ((s.bs.getD (4 * (p)) 0).tmod 7))))]) (fun κ:Ev.Ren=>(fi1a29 s ov us b2)):=(tr (c:=⟨s.W0,s.F0⟩) (kn [s.bv,ov,iN (p),iN (s.c.n),iN (s.c.q),iz (s.c.g),iz (s.c.m),iz (s.c.t),iz (s.c.s),iN (4 * (p)),iz (s.bs.getD (4 * (p)) 0),iz ((s.bs.getD (4 * (p)) 0).tmod 7),wz (IntKind.u32.wrap ((s.bs.getD (4 * (p)) 0).tmod 7)),iz ((s.bs.getD (4 * (p)) 0).tmod 5)] (fc s.hs.leaf (fc (by assumption) fr)) [(.mul,.int .i64 4,sy 2,sy 9),(.rem,sy 10,.int .i64 7,sy 11),(.rem,sy 10,.int .i64 5,sy 13),(.eql,sy 13,.int .i64 0,.bool false)] [] [(.u32,sy 11,sy 12)] (fc (fun _ _ _=>Ev.bt_mul (by have z:=s.z; have y:=s.c.z hp; have q7:=hu; rw [wrap_ok (by omega) (by omega)]; omega)) (fc (fun _ _ _=>Ev.bt_rem (by decide) rfl) (fc (fun _ _ _=>Ev.bt_rem (by decide) rfl) (fc (fun _ _ _=>Ev.bt_eql (by have z:=s.z; have y:=s.c.z hp; have q7:=hu; first | (simpa using h1) | (simp; omega))) fn)))) fn (fc ⟨.i64,_,rfl,rfl⟩ fn) s.W0 s.F0 [(fi1a24 ov us)] [] [⟨33,[sy 0,sy 9],0,none,sy 10,none⟩]) fn (fc (pc (args:=[(s.bv),(iN (4 * (p)))]) rfl (fun w hb=>byte_at (s.hs.old hb s.hoff) s.hb s.hz (4 * (p)) (by have z:=s.z; have y:=s.c.z hp; have q7:=hu; omega))) fn) rfl [(4,b2)] fi1a25 fi1a25 0 rfl rfl fi1a26 [(1,sy 0),(2,.pointer (some ⟨4,0,none⟩)),(4,.slice none 0 0),(5,sy 1),(6,sy 2),(7,sy 12)] .normal)
theorem fiW (s:FilP) (ov:Value) (lov:Ev.leafV ov=true) (us:List Int) (hu:us.length=4+s.c.off s.c.n) (b2 p:Nat) (hp:p < s.c.n) (h:Int) (hh:0≤h∧h < 4294967296) (nn:Nat) (hnn:(s.bs.getD (4 * p+1) 0).tmod ((s.c.q+1:Nat) : Int)=(nn:Int)) (hnq:nn≤s.c.q) : Ev.Pie Try.prog 10 [6,0,4] 3 3 148 ⟨s.W0,s.F0⟩ [(1,(s.bv)),(2,(pz b2)),(4,(.slice none 0 0)),(5,(ov)),(6,(iN (p))),(7,(wz (h)))] (fi1a29 s ov us b2) .normal (fun κ:Ev.Ren=>[(1,(s.bv)),(2,(pz b2)),(4,(.slice none 0 0)),(5,(ov)),(6,(iN (p))),(7,(wz (h))),(8,(wN (nn))),(9,(.int .u32 0))]) (fun κ:Ev.Ren=>[(fi1a28 s b2),Ev.slA 30 1 (ov) (us.length) ((u64s us).set ((s.c.word p) * 1) (uz (packW h (IntKind.u32.wrap (h+((nn:Nat) : Int))))))]):=(tr (c:=⟨s.W0,s.F0⟩) (kn [s.bv,ov,Ev.ptrR (ov) ((s.c.word p) * 1),iz (s.bs.getD (4 * (p)+1) 0),wz (h),iN (p),iN (s.c.n),iN (s.c.q),iz (s.c.g),iz (s.c.m),iz (s.c.t),iz (s.c.s),uz (h),uz (h * 4294967296),iN (nn),wN (nn),wz (IntKind.u32.wrap (h+((nn:Nat) : Int))),uz (IntKind.u32.wrap (h+((nn:Nat) : Int))),uz (packW h (IntKind.u32.wrap (h+((nn:Nat) : Int)))),iN ((s.c.q)+1),iN (4 * (p)),iN ((4 * (p))+1),iz (s.bs.getD ((4 * (p))+1) 0),iN (s.c.word p)] (fc s.hs.leaf (fc (by assumption) (fc (Ev.ptrR_leaf _ _) fr))) [(.mul,.int .i64 4,sy 5,sy 20),(.add,sy 20,.int .i64 1,sy 21),(.add,sy 7,.int .i64 1,sy 19),(.rem,sy 22,sy 19,sy 14),(.shl,sy 12,.int .u64 32,sy 13),(.add,sy 4,sy 15,sy 16),(.or,sy 13,sy 17,sy 18)] [] [(.u32,sy 14,sy 15),(.u64,sy 4,sy 12),(.u64,sy 16,sy 17)] (fc (fun _ _ _=>Ev.bt_mul (by have z:=s.z; have y:=s.c.z hp; have q7:=hu; rw [wrap_ok (by omega) (by omega)]; omega)) (fc (fun _ _ _=>Ev.bt_add (by have z:=s.z; have y:=s.c.z hp; have q7:=hu; rw [wrap_ok (by omega) (by omega)]; omega)) (fc (fun _ _ _=>Ev.bt_add (by have z:=s.z; have y:=s.c.z hp; have q7:=hu; rw [wrap_ok (by omega) (by omega)]; omega)) (fc (fun _ _ _=>Ev.bt_rem (by omega) hnn) (fc (fun _ _ _=>bt_shl32 hh) (fc (fun _ _ _=>Ev.bt_add rfl) (fc (fun _ _ _=>bt_or (bits_or h _ hh (by have z:=s.z; rw [wrap32]; omega))) fn))))))) fn (fc (Ev.ct_in rfl rfl (by have z:=s.z; rw [wrap32]; omega)) (fc (Ev.ct_in rfl rfl (wrapU (by have z:=s.z; omega) (by have z:=s.z; omega))) (fc (Ev.ct_in rfl rfl (wrapU (wrap_nn _) (by have z:=s.z; rw [wrap32]; omega))) fn))) s.W0 s.F0 [(fi1a24 ov us),[Ev.slA 30 1 (ov) (us.length) ((u64s us).set ((s.c.word p) * 1) (uz (packW h (IntKind.u32.wrap (h+((nn:Nat) : Int))))))]] [⟨[3,29],[sy 1,sy 23],none,0,none,sy 2,none⟩,⟨[2,30],[sy 2,sy 18],none,0,none,undef,some 1⟩] [⟨33,[sy 0,sy 21],0,none,sy 22,none⟩,⟨26,[.agg #[sy 6,sy 7,sy 8,sy 9,sy 10,sy 11],sy 5],0,none,sy 23,none⟩]) (fc (by obtain ⟨i,i1,i2,i3,i4⟩:=infU64; have z:=s.z; have y:=s.c.z hp; have q7:=hu; exact Ev.sl_index (ci:=1) (j:=(s.c.word p)) rfl rfl Try.underlying29 i1 i2 rfl rfl (by omega) rfl) (fc (by have z:=s.z; have y:=s.c.z hp; have q7:=hu; exact Ev.sl_store (ci:=1) (m:=(s.c.word p) * 1) (x:=(uz (packW h (IntKind.u32.wrap (h+((nn:Nat) : Int)))))) rfl rfl rfl storeU64 (by simp; omega) rfl (Ev.isSym rfl) rfl) fn)) (fc (pc (args:=[(s.bv),(iN ((4 * (p))+1))]) rfl (fun w hb=>byte_at (s.hs.old hb s.hoff) s.hb s.hz ((4 * (p))+1) (by have z:=s.z; have y:=s.c.z hp; have q7:=hu; omega))) (fc (pc rfl (fun w hb=>word_ok s.c p hp w)) fn)) rfl [(4,b2)] fi1a34 fi1a34 1 rfl rfl [(1,sy 0),(2,.pointer (some ⟨4,0,none⟩)),(4,.slice none 0 0),(5,sy 1),(6,sy 5),(7,sy 4)] [(1,sy 0),(2,.pointer (some ⟨4,0,none⟩)),(4,.slice none 0 0),(5,sy 1),(6,sy 5),(7,sy 4),(8,sy 15),(9,.int .u32 0)] .normal)
theorem fiS (s:FilP) (ov:Value) (lov:Ev.leafV ov=true) (us:List Int) (hu:us.length=4+s.c.off s.c.n) (b2 p:Nat) (hp:p < s.c.n) (h:Int) (hh:0≤h∧h < 4294967296) (nn:Nat) (hnq:nn≤s.c.q) (ix:Nat) (hi:ix < nn) : Ev.Pie Try.prog 10 [6,0,4,12,0] 0 4 148 ⟨s.W0,s.F0⟩ [(1,(s.bv)),(2,(pz b2)),(4,(.slice none 0 0)),(5,(ov)),(6,(iN (p))),(7,(wz (h))),(8,(wN (nn))),(9,(wN (ix)))] (fi1a29 s ov us b2) .normal (fun κ:Ev.Ren=>[(1,(s.bv)),(2,(pz b2)),(4,(.slice none 0 0)),(5,(ov)),(6,(iN (p))),(7,(wz (h))),(8,(wN (nn))),(9,(wN ((ix)+1)))]) (fun κ:Ev.Ren=>[(fi1a28 s b2),(fi1a44 s ov us p h ix)]):=(tr (c:=⟨s.W0,s.F0⟩) (kn [s.bv,ov,Ev.ptrR (ov) ((s.c.slot p (IntKind.u32.wrap (h+(ix:Int)))) * 1),wN (ix),uN (ix),uN ((p) * 100),iN ((p) * 100),wN ((ix)+1),wz (h),wz (IntKind.u32.wrap (h+(ix:Int))),wN (nn),iN (p),iN (s.c.n),iN (s.c.q),iz (s.c.g),iz (s.c.m),iz (s.c.t),iz (s.c.s),iN (s.c.slot p (IntKind.u32.wrap (h+(ix:Int)))),uz (IntKind.u64.wrap ((((p) * 100:Nat) : Int)+((ix:Nat) : Int)))] (fc s.hs.leaf (fc (by assumption) (fc (Ev.ptrR_leaf _ _) fr))) [(.lss,sy 3,sy 10,.bool true),(.add,sy 8,sy 3,sy 9),(.mul,sy 11,.int .i64 100,sy 6),(.add,sy 5,sy 4,sy 19),(.add,sy 3,.int .u32 1,sy 7)] [] [(.u64,sy 6,sy 5),(.u64,sy 3,sy 4)] (fc (fun _ _ _=>Ev.bt_lss (by have z:=s.z; have y:=s.c.z hp; have q7:=hu; have q8:=s.c.slotI_lt (IntKind.u32.wrap (h+(ix:Int))); have q9:s.c.slot p (IntKind.u32.wrap (h+(ix:Int)))=4+s.c.off p+(6+s.c.slotI (IntKind.u32.wrap (h+(ix:Int)))):=rfl; first | (simp; done) | (simp; omega))) (fc (fun _ _ _=>Ev.bt_add rfl) (fc (fun _ _ _=>Ev.bt_mul (by have z:=s.z; have y:=s.c.z hp; have q7:=hu; have q8:=s.c.slotI_lt (IntKind.u32.wrap (h+(ix:Int))); have q9:s.c.slot p (IntKind.u32.wrap (h+(ix:Int)))=4+s.c.off p+(6+s.c.slotI (IntKind.u32.wrap (h+(ix:Int)))):=rfl; rw [wrap_ok (by omega) (by omega)]; omega)) (fc (fun _ _ _=>Ev.bt_add rfl) (fc (fun _ _ _=>Ev.bt_add (by have z:=s.z; rw [wrap32]; omega)) fn))))) fn (fc (Ev.ct_in rfl rfl (wrapU (by have z:=s.z; omega) (by have z:=s.z; omega))) (fc (Ev.ct_in rfl rfl (wrapU (by have z:=s.z; omega) (by have z:=s.z; omega))) fn)) s.W0 s.F0 [(fi1a24 ov us),[(fi1a44 s ov us p h ix)]] [⟨[3,29],[sy 1,sy 18],none,0,none,sy 2,none⟩,⟨[2,30],[sy 2,sy 19],none,0,none,undef,some 1⟩] [⟨27,[.agg #[sy 12,sy 13,sy 14,sy 15,sy 16,sy 17],sy 11,sy 9],0,none,sy 18,none⟩]) (fc (by obtain ⟨i,i1,i2,i3,i4⟩:=infU64; have z:=s.z; have y:=s.c.z hp; have q7:=hu; have q8:=s.c.slotI_lt (IntKind.u32.wrap (h+(ix:Int))); have q9:s.c.slot p (IntKind.u32.wrap (h+(ix:Int)))=4+s.c.off p+(6+s.c.slotI (IntKind.u32.wrap (h+(ix:Int)))):=rfl; exact Ev.sl_index (ci:=1) (j:=(s.c.slot p (IntKind.u32.wrap (h+(ix:Int))))) rfl rfl Try.underlying29 i1 i2 rfl rfl (by omega) rfl) (fc (by have z:=s.z; have y:=s.c.z hp; have q7:=hu; have q8:=s.c.slotI_lt (IntKind.u32.wrap (h+(ix:Int))); have q9:s.c.slot p (IntKind.u32.wrap (h+(ix:Int)))=4+s.c.off p+(6+s.c.slotI (IntKind.u32.wrap (h+(ix:Int)))):=rfl; exact Ev.sl_store (ci:=1) (m:=(s.c.slot p (IntKind.u32.wrap (h+(ix:Int)))) * 1) (x:=(uz (IntKind.u64.wrap ((((p) * 100:Nat) : Int)+((ix:Nat) : Int))))) rfl rfl rfl storeU64 (by simp; omega) rfl (Ev.isSym rfl) rfl) fn)) (fc (pc (args:=[(fi1a0 s),(iN (p)),(wz (IntKind.u32.wrap (h+(ix:Int))))]) rfl (fun w hb=>slot_ok s.c p hp (IntKind.u32.wrap (h+(ix:Int))) (wrap_nn _) w)) fn) rfl [(4,b2)] [(4,[sy 12,sy 13,sy 14,sy 15,sy 16,sy 17],23)] [(4,[sy 12,sy 13,sy 14,sy 15,sy 16,sy 17],23)] 1 rfl rfl [(1,sy 0),(2,.pointer (some ⟨4,0,none⟩)),(4,.slice none 0 0),(5,sy 1),(6,sy 11),(7,sy 8),(8,sy 10),(9,sy 3)] [(1,sy 0),(2,.pointer (some ⟨4,0,none⟩)),(4,.slice none 0 0),(5,sy 1),(6,sy 11),(7,sy 8),(8,sy 10),(9,sy 7)] .normal)
theorem fiT (s:FilP) (ov:Value) (lov:Ev.leafV ov=true) (us:List Int) (hu:us.length=4+s.c.off s.c.n) (b2 p:Nat) (hp:p < s.c.n) (h:Int) (hh:0≤h∧h < 4294967296) (nn:Nat) (hnq:nn≤s.c.q) (ix:Nat) (hi:¬ ix < nn) : Ev.Pie Try.prog 10 [6,0,4,12,0] 0 4 148 ⟨s.W0,s.F0⟩ [(1,(s.bv)),(2,(pz b2)),(4,(.slice none 0 0)),(5,(ov)),(6,(iN (p))),(7,(wz (h))),(8,(wN (nn))),(9,(wN (ix)))] (fi1a29 s ov us b2) (.exit 2) (fun κ:Ev.Ren=>(fi1a27 s ov b2 p)) (fun κ:Ev.Ren=>(fi1a29 s ov us b2)):=(tr (c:=⟨s.W0,s.F0⟩) (kn [s.bv,ov,wz (h),wN (nn),wN (ix),iN (p),iN (s.c.n),iN (s.c.q),iz (s.c.g),iz (s.c.m),iz (s.c.t),iz (s.c.s)] (fc s.hs.leaf (fc (by assumption) fr)) [(.lss,sy 4,sy 3,.bool false)] [] [] (fc (fun _ _ _=>Ev.bt_lss (by have z:=s.z; have y:=s.c.z hp; have q7:=hu; first | (simp; done) | (simp; omega))) fn) fn fn s.W0 s.F0 [(fi1a24 ov us)] [] []) fn fn rfl [(4,b2)] fi1a34 fi1a34 0 rfl rfl [(1,sy 0),(2,.pointer (some ⟨4,0,none⟩)),(4,.slice none 0 0),(5,sy 1),(6,sy 5),(7,sy 2),(8,sy 3),(9,sy 4)] [(1,sy 0),(2,.pointer (some ⟨4,0,none⟩)),(4,.slice none 0 0),(5,sy 1),(6,sy 5)] (.exit 2))
theorem fiRy (s:FilP) (ov:Value) (lov:Ev.leafV ov=true) (us:List Int) (hu:us.length=4+s.c.off s.c.n) (b2 p:Nat) (hp:p < s.c.n) (h1:((s.bs.getD ((4 * (p))+2) 0).tmod 3)=0) : Ev.Pie Try.prog 10 [6,0,4] 7 6 148 ⟨s.W0,s.F0⟩ (fi1a27 s ov b2 p) (fi1a29 s ov us b2) .normal (fun κ:Ev.Ren=>(fi1a27 s ov b2 p)) (fun κ:Ev.Ren=>[(fi1a28 s b2),Ev.slA 30 1 (ov) (us.length) ((((((u64s us).set ((s.c.word p+1) * 1) (uN ((p) * 100+91))).set ((s.c.word p+2) * 1) (uz (IntKind.u64.wrap ((IntKind.i64.wrap ((s.bs.getD ((4 * (p))+2) 0).tdiv 3)).tmod 3)))).set ((s.c.word p+3) * 1) (uz (IntKind.u64.wrap ((s.bs.getD ((4 * (p))+3) 0).tmod 9)))).set ((s.c.word p+4) * 1) (uz (IntKind.u64.wrap ((IntKind.i64.wrap ((s.bs.getD ((4 * (p))+3) 0).tdiv 9)).tmod 4)))).set ((s.c.word p+5) * 1) (uz (IntKind.u64.wrap ((IntKind.i64.wrap ((s.bs.getD ((4 * (p))+3) 0).tdiv 36)).tmod 2))))]):=(tr (c:=⟨s.W0,s.F0⟩) (kn [s.bv,ov,Ev.ptrR (ov) ((s.c.word p+1) * 1),Ev.ptrR (ov) ((s.c.word p+2) * 1),Ev.ptrR (ov) ((s.c.word p+3) * 1),Ev.ptrR (ov) ((s.c.word p+4) * 1),Ev.ptrR (ov) ((s.c.word p+5) * 1),iN ((p) * 100),uN ((p) * 100),uN ((p) * 100+91),iN (p),iN (s.c.n),iN (s.c.q),iz (s.c.g),iz (s.c.m),iz (s.c.t),iz (s.c.s),iN (4 * (p)),iN ((4 * (p))+2),iz (s.bs.getD ((4 * (p))+2) 0),iz ((s.bs.getD ((4 * (p))+2) 0).tmod 3),iN (s.c.word p+1),iN (s.c.word p+2),iz (IntKind.i64.wrap ((s.bs.getD ((4 * (p))+2) 0).tdiv 3)),iz ((IntKind.i64.wrap ((s.bs.getD ((4 * (p))+2) 0).tdiv 3)).tmod 3),uz (IntKind.u64.wrap ((IntKind.i64.wrap ((s.bs.getD ((4 * (p))+2) 0).tdiv 3)).tmod 3)),iN (s.c.word p+3),iN ((4 * (p))+3),iz (s.bs.getD ((4 * (p))+3) 0),iz ((s.bs.getD ((4 * (p))+3) 0).tmod 9),uz (IntKind.u64.wrap ((s.bs.getD ((4 * (p))+3) 0).tmod 9)),iN (s.c.word p+4),iz (IntKind.i64.wrap ((s.bs.getD ((4 * (p))+3) 0).tdiv 9)),iz ((IntKind.i64.wrap ((s.bs.getD ((4 * (p))+3) 0).tdiv 9)).tmod 4),uz (IntKind.u64.wrap ((IntKind.i64.wrap ((s.bs.getD ((4 * (p))+3) 0).tdiv 9)).tmod 4)),iN (s.c.word p+5),iz (IntKind.i64.wrap ((s.bs.getD ((4 * (p))+3) 0).tdiv 36)),iz ((IntKind.i64.wrap ((s.bs.getD ((4 * (p))+3) 0).tdiv 36)).tmod 2),uz (IntKind.u64.wrap ((IntKind.i64.wrap ((s.bs.getD ((4 * (p))+3) 0).tdiv 36)).tmod 2))] (fc s.hs.leaf (fc (by assumption) (fc (Ev.ptrR_leaf _ _) (fc (Ev.ptrR_leaf _ _) (fc (Ev.ptrR_leaf _ _) (fc (Ev.ptrR_leaf _ _) (fc (Ev.ptrR_leaf _ _) fr))))))) [(.mul,.int .i64 4,sy 10,sy 17),(.add,sy 17,.int .i64 2,sy 18),(.rem,sy 19,.int .i64 3,sy 20),(.eql,sy 20,.int .i64 0,.bool true),(.mul,sy 10,.int .i64 100,sy 7),(.add,sy 8,.int .u64 91,sy 9),(.quo,sy 19,.int .i64 3,sy 23),(.rem,sy 23,.int .i64 3,sy 24),(.add,sy 17,.int .i64 3,sy 27),(.rem,sy 28,.int .i64 9,sy 29),(.quo,sy 28,.int .i64 9,sy 32),(.rem,sy 32,.int .i64 4,sy 33),(.quo,sy 28,.int .i64 36,sy 36),(.rem,sy 36,.int .i64 2,sy 37)] [] [(.u64,sy 7,sy 8),(.u64,sy 24,sy 25),(.u64,sy 29,sy 30),(.u64,sy 33,sy 34),(.u64,sy 37,sy 38)] (fc (fun _ _ _=>Ev.bt_mul (by have z:=s.z; have y:=s.c.z hp; have q7:=hu; rw [wrap_ok (by omega) (by omega)]; omega)) (fc (fun _ _ _=>Ev.bt_add (by have z:=s.z; have y:=s.c.z hp; have q7:=hu; rw [wrap_ok (by omega) (by omega)]; omega)) (fc (fun _ _ _=>Ev.bt_rem (by decide) rfl) (fc (fun _ _ _=>Ev.bt_eql (by have z:=s.z; have y:=s.c.z hp; have q7:=hu; first | (simpa using h1) | (simp; omega))) (fc (fun _ _ _=>Ev.bt_mul (by have z:=s.z; have y:=s.c.z hp; have q7:=hu; rw [wrap_ok (by omega) (by omega)]; omega)) (fc (fun _ _ _=>Ev.bt_add (wrapU (by have z:=s.z; omega) (by have z:=s.z; omega))) (fc (fun _ _ _=>Ev.bt_quo (by decide) rfl) (fc (fun _ _ _=>Ev.bt_rem (by decide) rfl) (fc (fun _ _ _=>Ev.bt_add (by have z:=s.z; have y:=s.c.z hp; have q7:=hu; rw [wrap_ok (by omega) (by omega)]; omega)) (fc (fun _ _ _=>Ev.bt_rem (by decide) rfl) (fc (fun _ _ _=>Ev.bt_quo (by decide) rfl) (fc (fun _ _ _=>Ev.bt_rem (by decide) rfl) (fc (fun _ _ _=>Ev.bt_quo (by decide) rfl) (fc (fun _ _ _=>Ev.bt_rem (by decide) rfl) fn)))))))))))))) fn (fc (Ev.ct_in rfl rfl (wrapU (by have z:=s.z; omega) (by have z:=s.z; omega))) (fc ⟨.i64,_,rfl,rfl⟩ (fc ⟨.i64,_,rfl,rfl⟩ (fc ⟨.i64,_,rfl,rfl⟩ (fc ⟨.i64,_,rfl,rfl⟩ fn))))) s.W0 s.F0 [(fi1a24 ov us),[Ev.slA 30 1 (ov) (us.length) ((u64s us).set ((s.c.word p+1) * 1) (uN ((p) * 100+91)))],[Ev.slA 30 1 (ov) (us.length) (((u64s us).set ((s.c.word p+1) * 1) (uN ((p) * 100+91))).set ((s.c.word p+2) * 1) (uz (IntKind.u64.wrap ((IntKind.i64.wrap ((s.bs.getD ((4 * (p))+2) 0).tdiv 3)).tmod 3))))],[Ev.slA 30 1 (ov) (us.length) ((((u64s us).set ((s.c.word p+1) * 1) (uN ((p) * 100+91))).set ((s.c.word p+2) * 1) (uz (IntKind.u64.wrap ((IntKind.i64.wrap ((s.bs.getD ((4 * (p))+2) 0).tdiv 3)).tmod 3)))).set ((s.c.word p+3) * 1) (uz (IntKind.u64.wrap ((s.bs.getD ((4 * (p))+3) 0).tmod 9))))],[Ev.slA 30 1 (ov) (us.length) (((((u64s us).set ((s.c.word p+1) * 1) (uN ((p) * 100+91))).set ((s.c.word p+2) * 1) (uz (IntKind.u64.wrap ((IntKind.i64.wrap ((s.bs.getD ((4 * (p))+2) 0).tdiv 3)).tmod 3)))).set ((s.c.word p+3) * 1) (uz (IntKind.u64.wrap ((s.bs.getD ((4 * (p))+3) 0).tmod 9)))).set ((s.c.word p+4) * 1) (uz (IntKind.u64.wrap ((IntKind.i64.wrap ((s.bs.getD ((4 * (p))+3) 0).tdiv 9)).tmod 4))))],[Ev.slA 30 1 (ov) (us.length) ((((((u64s us).set ((s.c.word p+1) * 1) (uN ((p) * 100+91))).set ((s.c.word p+2) * 1) (uz (IntKind.u64.wrap ((IntKind.i64.wrap ((s.bs.getD ((4 * (p))+2) 0).tdiv 3)).tmod 3)))).set ((s.c.word p+3) * 1) (uz (IntKind.u64.wrap ((s.bs.getD ((4 * (p))+3) 0).tmod 9)))).set ((s.c.word p+4) * 1) (uz (IntKind.u64.wrap ((IntKind.i64.wrap ((s.bs.getD ((4 * (p))+3) 0).tdiv 9)).tmod 4)))).set ((s.c.word p+5) * 1) (uz (IntKind.u64.wrap ((IntKind.i64.wrap ((s.bs.getD ((4 * (p))+3) 0).tdiv 36)).tmod 2))))]] [⟨[3,29],[sy 1,sy 21],none,0,none,sy 2,none⟩,⟨[2,30],[sy 2,sy 9],none,0,none,undef,some 1⟩,⟨[3,29],[sy 1,sy 22],none,1,none,sy 3,none⟩,⟨[2,30],[sy 3,sy 25],none,1,none,undef,some 2⟩,⟨[3,29],[sy 1,sy 26],none,2,none,sy 4,none⟩,⟨[2,30],[sy 4,sy 30],none,2,none,undef,some 3⟩,⟨[3,29],[sy 1,sy 31],none,3,none,sy 5,none⟩,⟨[2,30],[sy 5,sy 34],none,3,none,undef,some 4⟩,⟨[3,29],[sy 1,sy 35],none,4,none,sy 6,none⟩,⟨[2,30],[sy 6,sy 38],none,4,none,undef,some 5⟩] [⟨33,[sy 0,sy 18],0,none,sy 19,none⟩,⟨13,[.agg #[sy 11,sy 12,sy 13,sy 14,sy 15,sy 16],sy 10],0,none,sy 21,none⟩,⟨34,[.agg #[sy 11,sy 12,sy 13,sy 14,sy 15,sy 16],sy 10],1,none,sy 22,none⟩,⟨33,[sy 0,sy 18],1,none,sy 19,none⟩,⟨35,[.agg #[sy 11,sy 12,sy 13,sy 14,sy 15,sy 16],sy 10],2,none,sy 26,none⟩,⟨33,[sy 0,sy 27],2,none,sy 28,none⟩,⟨36,[.agg #[sy 11,sy 12,sy 13,sy 14,sy 15,sy 16],sy 10],3,none,sy 31,none⟩,⟨33,[sy 0,sy 27],3,none,sy 28,none⟩,⟨37,[.agg #[sy 11,sy 12,sy 13,sy 14,sy 15,sy 16],sy 10],4,none,sy 35,none⟩,⟨33,[sy 0,sy 27],4,none,sy 28,none⟩]) (fc (by obtain ⟨i,i1,i2,i3,i4⟩:=infU64; have z:=s.z; have y:=s.c.z hp; have q7:=hu; exact Ev.sl_index (ci:=1) (j:=(s.c.word p+1)) rfl rfl Try.underlying29 i1 i2 rfl rfl (by omega) rfl) (fc (by have z:=s.z; have y:=s.c.z hp; have q7:=hu; exact Ev.sl_store (ci:=1) (m:=(s.c.word p+1) * 1) (x:=(uN ((p) * 100+91))) rfl rfl rfl storeU64 (by simp; omega) rfl (Ev.isSym rfl) rfl) (fc (by obtain ⟨i,i1,i2,i3,i4⟩:=infU64; have z:=s.z; have y:=s.c.z hp; have q7:=hu; exact Ev.sl_index (ci:=1) (j:=(s.c.word p+2)) rfl rfl Try.underlying29 i1 i2 rfl rfl (by omega) rfl) (fc (by have z:=s.z; have y:=s.c.z hp; have q7:=hu; exact Ev.sl_store (ci:=1) (m:=(s.c.word p+2) * 1) (x:=(uz (IntKind.u64.wrap ((IntKind.i64.wrap ((s.bs.getD ((4 * (p))+2) 0).tdiv 3)).tmod 3)))) rfl rfl rfl storeU64 (by simp; omega) rfl (Ev.isSym rfl) rfl) (fc (by obtain ⟨i,i1,i2,i3,i4⟩:=infU64; have z:=s.z; have y:=s.c.z hp; have q7:=hu; exact Ev.sl_index (ci:=1) (j:=(s.c.word p+3)) rfl rfl Try.underlying29 i1 i2 rfl rfl (by omega) rfl) (fc (by have z:=s.z; have y:=s.c.z hp; have q7:=hu; exact Ev.sl_store (ci:=1) (m:=(s.c.word p+3) * 1) (x:=(uz (IntKind.u64.wrap ((s.bs.getD ((4 * (p))+3) 0).tmod 9)))) rfl rfl rfl storeU64 (by simp; omega) rfl (Ev.isSym rfl) rfl) (fc (by obtain ⟨i,i1,i2,i3,i4⟩:=infU64; have z:=s.z; have y:=s.c.z hp; have q7:=hu; exact Ev.sl_index (ci:=1) (j:=(s.c.word p+4)) rfl rfl Try.underlying29 i1 i2 rfl rfl (by omega) rfl) (fc (by have z:=s.z; have y:=s.c.z hp; have q7:=hu; exact Ev.sl_store (ci:=1) (m:=(s.c.word p+4) * 1) (x:=(uz (IntKind.u64.wrap ((IntKind.i64.wrap ((s.bs.getD ((4 * (p))+3) 0).tdiv 9)).tmod 4)))) rfl rfl rfl storeU64 (by simp; omega) rfl (Ev.isSym rfl) rfl) (fc (by obtain ⟨i,i1,i2,i3,i4⟩:=infU64; have z:=s.z; have y:=s.c.z hp; have q7:=hu; exact Ev.sl_index (ci:=1) (j:=(s.c.word p+5)) rfl rfl Try.underlying29 i1 i2 rfl rfl (by omega) rfl) (fc (by have z:=s.z; have y:=s.c.z hp; have q7:=hu; exact Ev.sl_store (ci:=1) (m:=(s.c.word p+5) * 1) (x:=(uz (IntKind.u64.wrap ((IntKind.i64.wrap ((s.bs.getD ((4 * (p))+3) 0).tdiv 36)).tmod 2)))) rfl rfl rfl storeU64 (by simp; omega) rfl (Ev.isSym rfl) rfl) fn)))))))))) (fc (pc (args:=[(s.bv),(iN ((4 * (p))+2))]) rfl (fun w hb=>byte_at (s.hs.old hb s.hoff) s.hb s.hz ((4 * (p))+2) (by have z:=s.z; have y:=s.c.z hp; have q7:=hu; omega))) (fc (pc rfl (fun w hb=>next_ok s.c p hp w)) (fc (pc rfl (fun w hb=>stat_ok s.c p hp w)) (fc (pc (args:=[(s.bv),(iN ((4 * (p))+2))]) rfl (fun w hb=>byte_at (s.hs.old hb s.hoff) s.hb s.hz ((4 * (p))+2) (by have z:=s.z; have y:=s.c.z hp; have q7:=hu; omega))) (fc (pc rfl (fun w hb=>tick_ok s.c p hp w)) (fc (pc (args:=[(s.bv),(iN ((4 * (p))+3))]) rfl (fun w hb=>byte_at (s.hs.old hb s.hoff) s.hb s.hz ((4 * (p))+3) (by have z:=s.z; have y:=s.c.z hp; have q7:=hu; omega))) (fc (pc rfl (fun w hb=>sys_ok s.c p hp w)) (fc (pc (args:=[(s.bv),(iN ((4 * (p))+3))]) rfl (fun w hb=>byte_at (s.hs.old hb s.hoff) s.hb s.hz ((4 * (p))+3) (by have z:=s.z; have y:=s.c.z hp; have q7:=hu; omega))) (fc (pc rfl (fun w hb=>flag_ok s.c p hp w)) (fc (pc (args:=[(s.bv),(iN ((4 * (p))+3))]) rfl (fun w hb=>byte_at (s.hs.old hb s.hoff) s.hb s.hz ((4 * (p))+3) (by have z:=s.z; have y:=s.c.z hp; have q7:=hu; omega))) fn)))))))))) rfl [(4,b2)] [(4,[sy 11,sy 12,sy 13,sy 14,sy 15,sy 16],23)] [(4,[sy 11,sy 12,sy 13,sy 14,sy 15,sy 16],23)] 5 rfl rfl fi1a53 fi1a53 .normal)
theorem fiRn (s:FilP) (ov:Value) (lov:Ev.leafV ov=true) (us:List Int) (hu:us.length=4+s.c.off s.c.n) (b2 p:Nat) (hp:p < s.c.n) (h1:¬ ((s.bs.getD ((4 * (p))+2) 0).tmod 3)=0) : Ev.Pie Try.prog 10 [6,0,4] 7 6 148 ⟨s.W0,s.F0⟩ (fi1a27 s ov b2 p) (fi1a29 s ov us b2) .normal (fun κ:Ev.Ren=>(fi1a27 s ov b2 p)) (fun κ:Ev.Ren=>[(fi1a28 s b2),Ev.slA 30 1 (ov) (us.length) (((((u64s us).set ((s.c.word p+2) * 1) (uz (IntKind.u64.wrap ((IntKind.i64.wrap ((s.bs.getD ((4 * (p))+2) 0).tdiv 3)).tmod 3)))).set ((s.c.word p+3) * 1) (uz (IntKind.u64.wrap ((s.bs.getD ((4 * (p))+3) 0).tmod 9)))).set ((s.c.word p+4) * 1) (uz (IntKind.u64.wrap ((IntKind.i64.wrap ((s.bs.getD ((4 * (p))+3) 0).tdiv 9)).tmod 4)))).set ((s.c.word p+5) * 1) (uz (IntKind.u64.wrap ((IntKind.i64.wrap ((s.bs.getD ((4 * (p))+3) 0).tdiv 36)).tmod 2))))]):=(tr (c:=⟨s.W0,s.F0⟩) (kn [s.bv,ov,Ev.ptrR (ov) ((s.c.word p+2) * 1),Ev.ptrR (ov) ((s.c.word p+3) * 1),Ev.ptrR (ov) ((s.c.word p+4) * 1),Ev.ptrR (ov) ((s.c.word p+5) * 1),iN ((p) * 100),uN ((p) * 100),uN ((p) * 100+91),iN (p),iN (s.c.n),iN (s.c.q),iz (s.c.g),iz (s.c.m),iz (s.c.t),iz (s.c.s),iN (4 * (p)),iN ((4 * (p))+2),iz (s.bs.getD ((4 * (p))+2) 0),iz ((s.bs.getD ((4 * (p))+2) 0).tmod 3),iN (s.c.word p+2),iz (IntKind.i64.wrap ((s.bs.getD ((4 * (p))+2) 0).tdiv 3)),iz ((IntKind.i64.wrap ((s.bs.getD ((4 * (p))+2) 0).tdiv 3)).tmod 3),uz (IntKind.u64.wrap ((IntKind.i64.wrap ((s.bs.getD ((4 * (p))+2) 0).tdiv 3)).tmod 3)),iN (s.c.word p+3),iN ((4 * (p))+3),iz (s.bs.getD ((4 * (p))+3) 0),iz ((s.bs.getD ((4 * (p))+3) 0).tmod 9),uz (IntKind.u64.wrap ((s.bs.getD ((4 * (p))+3) 0).tmod 9)),iN (s.c.word p+4),iz (IntKind.i64.wrap ((s.bs.getD ((4 * (p))+3) 0).tdiv 9)),iz ((IntKind.i64.wrap ((s.bs.getD ((4 * (p))+3) 0).tdiv 9)).tmod 4),uz (IntKind.u64.wrap ((IntKind.i64.wrap ((s.bs.getD ((4 * (p))+3) 0).tdiv 9)).tmod 4)),iN (s.c.word p+5),iz (IntKind.i64.wrap ((s.bs.getD ((4 * (p))+3) 0).tdiv 36)),iz ((IntKind.i64.wrap ((s.bs.getD ((4 * (p))+3) 0).tdiv 36)).tmod 2),uz (IntKind.u64.wrap ((IntKind.i64.wrap ((s.bs.getD ((4 * (p))+3) 0).tdiv 36)).tmod 2))] (fc s.hs.leaf (fc (by assumption) (fc (Ev.ptrR_leaf _ _) (fc (Ev.ptrR_leaf _ _) (fc (Ev.ptrR_leaf _ _) (fc (Ev.ptrR_leaf _ _) fr)))))) [(.mul,.int .i64 4,sy 9,sy 16),(.add,sy 16,.int .i64 2,sy 17),(.rem,sy 18,.int .i64 3,sy 19),(.eql,sy 19,.int .i64 0,.bool false),(.quo,sy 18,.int .i64 3,sy 21),(.rem,sy 21,.int .i64 3,sy 22),(.add,sy 16,.int .i64 3,sy 25),(.rem,sy 26,.int .i64 9,sy 27),(.quo,sy 26,.int .i64 9,sy 30),(.rem,sy 30,.int .i64 4,sy 31),(.quo,sy 26,.int .i64 36,sy 34),(.rem,sy 34,.int .i64 2,sy 35)] [] [(.u64,sy 22,sy 23),(.u64,sy 27,sy 28),(.u64,sy 31,sy 32),(.u64,sy 35,sy 36)] (fc (fun _ _ _=>Ev.bt_mul (by have z:=s.z; have y:=s.c.z hp; have q7:=hu; rw [wrap_ok (by omega) (by omega)]; omega)) (fc (fun _ _ _=>Ev.bt_add (by have z:=s.z; have y:=s.c.z hp; have q7:=hu; rw [wrap_ok (by omega) (by omega)]; omega)) (fc (fun _ _ _=>Ev.bt_rem (by decide) rfl) (fc (fun _ _ _=>Ev.bt_eql (by have z:=s.z; have y:=s.c.z hp; have q7:=hu; first | (simpa using h1) | (simp; omega))) (fc (fun _ _ _=>Ev.bt_quo (by decide) rfl) (fc (fun _ _ _=>Ev.bt_rem (by decide) rfl) (fc (fun _ _ _=>Ev.bt_add (by have z:=s.z; have y:=s.c.z hp; have q7:=hu; rw [wrap_ok (by omega) (by omega)]; omega)) (fc (fun _ _ _=>Ev.bt_rem (by decide) rfl) (fc (fun _ _ _=>Ev.bt_quo (by decide) rfl) (fc (fun _ _ _=>Ev.bt_rem (by decide) rfl) (fc (fun _ _ _=>Ev.bt_quo (by decide) rfl) (fc (fun _ _ _=>Ev.bt_rem (by decide) rfl) fn)))))))))))) fn (fc ⟨.i64,_,rfl,rfl⟩ (fc ⟨.i64,_,rfl,rfl⟩ (fc ⟨.i64,_,rfl,rfl⟩ (fc ⟨.i64,_,rfl,rfl⟩ fn)))) s.W0 s.F0 [(fi1a24 ov us),[Ev.slA 30 1 (ov) (us.length) ((u64s us).set ((s.c.word p+2) * 1) (uz (IntKind.u64.wrap ((IntKind.i64.wrap ((s.bs.getD ((4 * (p))+2) 0).tdiv 3)).tmod 3))))],[Ev.slA 30 1 (ov) (us.length) (((u64s us).set ((s.c.word p+2) * 1) (uz (IntKind.u64.wrap ((IntKind.i64.wrap ((s.bs.getD ((4 * (p))+2) 0).tdiv 3)).tmod 3)))).set ((s.c.word p+3) * 1) (uz (IntKind.u64.wrap ((s.bs.getD ((4 * (p))+3) 0).tmod 9))))],[Ev.slA 30 1 (ov) (us.length) ((((u64s us).set ((s.c.word p+2) * 1) (uz (IntKind.u64.wrap ((IntKind.i64.wrap ((s.bs.getD ((4 * (p))+2) 0).tdiv 3)).tmod 3)))).set ((s.c.word p+3) * 1) (uz (IntKind.u64.wrap ((s.bs.getD ((4 * (p))+3) 0).tmod 9)))).set ((s.c.word p+4) * 1) (uz (IntKind.u64.wrap ((IntKind.i64.wrap ((s.bs.getD ((4 * (p))+3) 0).tdiv 9)).tmod 4))))],[Ev.slA 30 1 (ov) (us.length) (((((u64s us).set ((s.c.word p+2) * 1) (uz (IntKind.u64.wrap ((IntKind.i64.wrap ((s.bs.getD ((4 * (p))+2) 0).tdiv 3)).tmod 3)))).set ((s.c.word p+3) * 1) (uz (IntKind.u64.wrap ((s.bs.getD ((4 * (p))+3) 0).tmod 9)))).set ((s.c.word p+4) * 1) (uz (IntKind.u64.wrap ((IntKind.i64.wrap ((s.bs.getD ((4 * (p))+3) 0).tdiv 9)).tmod 4)))).set ((s.c.word p+5) * 1) (uz (IntKind.u64.wrap ((IntKind.i64.wrap ((s.bs.getD ((4 * (p))+3) 0).tdiv 36)).tmod 2))))]] [⟨[3,29],[sy 1,sy 20],none,0,none,sy 2,none⟩,⟨[2,30],[sy 2,sy 23],none,0,none,undef,some 1⟩,⟨[3,29],[sy 1,sy 24],none,1,none,sy 3,none⟩,⟨[2,30],[sy 3,sy 28],none,1,none,undef,some 2⟩,⟨[3,29],[sy 1,sy 29],none,2,none,sy 4,none⟩,⟨[2,30],[sy 4,sy 32],none,2,none,undef,some 3⟩,⟨[3,29],[sy 1,sy 33],none,3,none,sy 5,none⟩,⟨[2,30],[sy 5,sy 36],none,3,none,undef,some 4⟩] [⟨33,[sy 0,sy 17],0,none,sy 18,none⟩,⟨34,[.agg #[sy 10,sy 11,sy 12,sy 13,sy 14,sy 15],sy 9],0,none,sy 20,none⟩,⟨35,[.agg #[sy 10,sy 11,sy 12,sy 13,sy 14,sy 15],sy 9],1,none,sy 24,none⟩,⟨33,[sy 0,sy 25],1,none,sy 26,none⟩,⟨36,[.agg #[sy 10,sy 11,sy 12,sy 13,sy 14,sy 15],sy 9],2,none,sy 29,none⟩,⟨33,[sy 0,sy 25],2,none,sy 26,none⟩,⟨37,[.agg #[sy 10,sy 11,sy 12,sy 13,sy 14,sy 15],sy 9],3,none,sy 33,none⟩,⟨33,[sy 0,sy 25],3,none,sy 26,none⟩]) (fc (by obtain ⟨i,i1,i2,i3,i4⟩:=infU64; have z:=s.z; have y:=s.c.z hp; have q7:=hu; exact Ev.sl_index (ci:=1) (j:=(s.c.word p+2)) rfl rfl Try.underlying29 i1 i2 rfl rfl (by omega) rfl) (fc (by have z:=s.z; have y:=s.c.z hp; have q7:=hu; exact Ev.sl_store (ci:=1) (m:=(s.c.word p+2) * 1) (x:=(uz (IntKind.u64.wrap ((IntKind.i64.wrap ((s.bs.getD ((4 * (p))+2) 0).tdiv 3)).tmod 3)))) rfl rfl rfl storeU64 (by simp; omega) rfl (Ev.isSym rfl) rfl) (fc (by obtain ⟨i,i1,i2,i3,i4⟩:=infU64; have z:=s.z; have y:=s.c.z hp; have q7:=hu; exact Ev.sl_index (ci:=1) (j:=(s.c.word p+3)) rfl rfl Try.underlying29 i1 i2 rfl rfl (by omega) rfl) (fc (by have z:=s.z; have y:=s.c.z hp; have q7:=hu; exact Ev.sl_store (ci:=1) (m:=(s.c.word p+3) * 1) (x:=(uz (IntKind.u64.wrap ((s.bs.getD ((4 * (p))+3) 0).tmod 9)))) rfl rfl rfl storeU64 (by simp; omega) rfl (Ev.isSym rfl) rfl) (fc (by obtain ⟨i,i1,i2,i3,i4⟩:=infU64; have z:=s.z; have y:=s.c.z hp; have q7:=hu; exact Ev.sl_index (ci:=1) (j:=(s.c.word p+4)) rfl rfl Try.underlying29 i1 i2 rfl rfl (by omega) rfl) (fc (by have z:=s.z; have y:=s.c.z hp; have q7:=hu; exact Ev.sl_store (ci:=1) (m:=(s.c.word p+4) * 1) (x:=(uz (IntKind.u64.wrap ((IntKind.i64.wrap ((s.bs.getD ((4 * (p))+3) 0).tdiv 9)).tmod 4)))) rfl rfl rfl storeU64 (by simp; omega) rfl (Ev.isSym rfl) rfl) (fc (by obtain ⟨i,i1,i2,i3,i4⟩:=infU64; have z:=s.z; have y:=s.c.z hp; have q7:=hu; exact Ev.sl_index (ci:=1) (j:=(s.c.word p+5)) rfl rfl Try.underlying29 i1 i2 rfl rfl (by omega) rfl) (fc (by have z:=s.z; have y:=s.c.z hp; have q7:=hu; exact Ev.sl_store (ci:=1) (m:=(s.c.word p+5) * 1) (x:=(uz (IntKind.u64.wrap ((IntKind.i64.wrap ((s.bs.getD ((4 * (p))+3) 0).tdiv 36)).tmod 2)))) rfl rfl rfl storeU64 (by simp; omega) rfl (Ev.isSym rfl) rfl) fn)))))))) (fc (pc (args:=[(s.bv),(iN ((4 * (p))+2))]) rfl (fun w hb=>byte_at (s.hs.old hb s.hoff) s.hb s.hz ((4 * (p))+2) (by have z:=s.z; have y:=s.c.z hp; have q7:=hu; omega))) (fc (pc rfl (fun w hb=>stat_ok s.c p hp w)) (fc (pc rfl (fun w hb=>tick_ok s.c p hp w)) (fc (pc (args:=[(s.bv),(iN ((4 * (p))+3))]) rfl (fun w hb=>byte_at (s.hs.old hb s.hoff) s.hb s.hz ((4 * (p))+3) (by have z:=s.z; have y:=s.c.z hp; have q7:=hu; omega))) (fc (pc rfl (fun w hb=>sys_ok s.c p hp w)) (fc (pc (args:=[(s.bv),(iN ((4 * (p))+3))]) rfl (fun w hb=>byte_at (s.hs.old hb s.hoff) s.hb s.hz ((4 * (p))+3) (by have z:=s.z; have y:=s.c.z hp; have q7:=hu; omega))) (fc (pc rfl (fun w hb=>flag_ok s.c p hp w)) (fc (pc (args:=[(s.bv),(iN ((4 * (p))+3))]) rfl (fun w hb=>byte_at (s.hs.old hb s.hoff) s.hb s.hz ((4 * (p))+3) (by have z:=s.z; have y:=s.c.z hp; have q7:=hu; omega))) fn)))))))) rfl [(4,b2)] [(4,[sy 10,sy 11,sy 12,sy 13,sy 14,sy 15],23)] [(4,[sy 10,sy 11,sy 12,sy 13,sy 14,sy 15],23)] 4 rfl rfl fi1a65 fi1a65 .normal)
theorem fiP (s:FilP) (ov:Value) (lov:Ev.leafV ov=true) (us:List Int) (hu:us.length=4+s.c.off s.c.n) (b2 p:Nat) (hp:p < s.c.n) : Ev.Pie Try.prog 10 [6,0] 3 1 148 ⟨s.W0,s.F0⟩ (fi1a27 s ov b2 p) (fi1a29 s ov us b2) .normal (fun κ:Ev.Ren=>[(1,(s.bv)),(2,(pz b2)),(4,(.slice none 0 0)),(5,(ov)),(6,(iN ((p)+1)))]) (fun κ:Ev.Ren=>(fi1a29 s ov us b2)):=(tr (c:=⟨s.W0,s.F0⟩) (kn [s.bv,ov,iN (p),iN (s.c.n),iN (s.c.q),iz (s.c.g),iz (s.c.m),iz (s.c.t),iz (s.c.s),iN ((p)+1)] (fc s.hs.leaf (fc (by assumption) fr)) [(.add,sy 2,.int .i64 1,sy 9)] [] [] (fc (fun _ _ _=>Ev.bt_add (by have z:=s.z; have y:=s.c.z hp; have q7:=hu; rw [wrap_ok (by omega) (by omega)]; omega)) fn) fn fn s.W0 s.F0 [(fi1a24 ov us)] [] []) fn fn rfl [(4,b2)] fi1a25 fi1a25 0 rfl rfl fi1a26 fi1a65 .normal)
theorem fiZ (s:FilP) (ov:Value) (lov:Ev.leafV ov=true) (us:List Int) (hu:us.length=4+s.c.off s.c.n) (b2 p:Nat) : Ev.PieE Try.prog 10 [] 4 148 ⟨s.W0,s.F0⟩ [(4,(.slice none 0 0)),(5,(ov))] (fi1a29 s ov us b2) (fun κ:Ev.Ren=>(ov)) (fun κ:Ev.Ren=>(fi1a29 s ov us b2)):=(trE (c:=⟨s.W0,s.F0⟩) 2 (kn [s.bv,ov,iN (p),iN (s.c.n),iN (s.c.q),iz (s.c.g),iz (s.c.m),iz (s.c.t),iz (s.c.s)] (fc s.hs.leaf (fc (by assumption) fr)) [] [] [] fn fn fn s.W0 s.F0 [(fi1a24 ov us)] [] []) fn fn rfl [(4,b2)] fi1a25 fi1a25 0 rfl rfl [(4,.slice none 0 0),(5,sy 1)] (sy 1))
end Go.Proofs.Ytbcnbofkgkheeaa
