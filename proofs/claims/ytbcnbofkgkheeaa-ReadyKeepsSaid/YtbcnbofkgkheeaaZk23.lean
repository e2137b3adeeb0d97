/- 'ReadyKeeps' returns true, whatever its arguments are (at most 40 bytes, and at most 30 takes, are looked at), and leaves them as they were. -/
import Derived.Test.YtbcnbofkgkheeaaZk22
import Derived.Test.YtbcnbofkgkheeaaZk16
namespace Go.Proofs.Ytbcnbofkgkheeaa
open Go.RowKit
set_option linter.unusedVariables false
set_option linter.unusedSimpArgs false
def LInv (s:KL) (nx:Int) (l0:List Int) (n:Nat) (done:Bool) (x:XS) (m:MemM) (gone:List Int) : Prop :=
 ∃ k pend b,x.live=some (s.c,s.p,k)∧k.dem=x.dem∧KickOk s.c k∧MemOk s.c m∧szW (ld m (s.c.word s.p))≤(s.c.q:Int)∧KInv s.c s.p nx k m pend∧l0=gone++ring s.c s.p m++pend∧k.nx=(if x.dem=true then 0 else 1000) ∧
  (done=true→k.st=0)∧(done=false→k.st ≠ 0∧KBud s.c s.p k m b∧b+6 * (s.zs.length - n)+n≤188)
theorem LInv.ok {s:KL} {nx:Int} {l0 gone:List Int} {n:Nat} {done:Bool} {x:XS} {m:MemM} (h:LInv s nx l0 n done x m gone) : x.Ok m:=by
 obtain ⟨k,pend,b,h1,h2,h3,h4,_⟩:=h
 unfold XS.Ok
 rw [h1]
 exact ⟨h2,s.hp,h3,h4⟩
theorem LInv.mem {s:KL} {nx:Int} {l0 gone:List Int} {n:Nat} {done:Bool} {x:XS} {m:MemM} (h:LInv s nx l0 n done x m gone) : MemOk s.c m∧szW (ld m (s.c.word s.p))≤(s.c.q:Int):=by
 obtain ⟨k,pend,b,h1,h2,h3,h4,h5,_⟩:=h
 exact ⟨h4,h5⟩
theorem LInv.n {s:KL} {nx:Int} {l0 gone:List Int} {n:Nat} {x:XS} {m:MemM} (h:LInv s nx l0 n false x m gone) : n < 200:=by
 obtain ⟨k,pend,b,h1,h2,h3,h4,h5,h6,h7,h8,h9,h10⟩:=h
 have:=(h10 rfl).2.2
 omega
theorem LInv.len {s:KL} {nx:Int} {l0 gone:List Int} {n:Nat} {done:Bool} {x:XS} {m:MemM} (h:LInv s nx l0 n done x m gone) : gone.length≤l0.length:=by
 obtain ⟨k,pend,b,h1,h2,h3,h4,h5,h6,h7,_⟩:=h
 rw [h7]
 simp only [List.length_append]
 omega
theorem KickS.nx_step {c:Cfg} {p:Nat} {k:KickS} {m:MemM} : (kickStep c p k m).1.nx=k.nx:=by
 unfold kickStep
 split
 ·rfl
 ·split
  ·rfl
  ·split <;> rfl
 ·split <;> rfl
 ·rfl
theorem linv_start {s:KL} (h30:s.zs.length≤30) {m:MemM} (hm:MemOk s.c m) (hsz:szW (ld m (s.c.word s.p))≤(s.c.q:Int)) {x:XS} {g:Int} (hx:x.live=some (s.c,s.p,⟨x.dem,g,1,0,none⟩)) (hg:x.dem=false→g=999) :
  LInv s (ld m (s.c.word s.p+1)) (ring s.c s.p m++stoodL (ld m (s.c.word s.p+1))) 0 false x m []:=by
 have hq:=s.z
 refine ⟨_,_,8,hx,rfl,⟨(by show 1≤3; decide),fun h=>?_,(by show U64 0; unfold U64; omega),(fun y hy=>by cases hy),fun _=>rfl,(fun h=>by cases h),(fun h=>by cases h)⟩,hm,hsz,.inl ⟨rfl,rfl,rfl,rfl⟩,rfl,?_,(fun h=>by cases h),fun _=>⟨(by show (1:Nat) ≠ 0; decide),⟨fun _=>by omega,(fun h=>by cases h),(fun y hy=>by cases hy)⟩,by omega⟩⟩
 ·have:=hg h
  show 0≤g∧g≤9223372036854775807
  omega
 ·show (if x.dem=true then 0 else g+1)=_
  cases hd:x.dem with
  | true=>rfl
  | false=>rw [hg hd]; rfl
theorem linv_step {s:KL} {nx:Int} (hnx:0≤nx∧nx < 4294967296) {l0 gone:List Int} {n:Nat} {x:XS} {m:MemM} (h:LInv s nx l0 n false x m gone) :
  (MemOk s.c (x.step m).2∧szW (ld (x.step m).2 (s.c.word s.p))≤(s.c.q:Int))∧(x.step m).1.dem=x.dem ∧
  (decide ((x.step m).1.st=0)=true→LInv s nx l0 (n+1) true (x.step m).1 (x.step m).2 gone) ∧
  (decide ((x.step m).1.st=0)=false→¬ n < s.zs.length→LInv s nx l0 (n+1) false (x.step m).1 (x.step m).2 gone) ∧
  (decide ((x.step m).1.st=0)=false→n < s.zs.length→∀ t,LInv s nx l0 (n+1) false (x.step m).1 (thS s.c s.p (x.step m).2 (thN s.c s.p (x.step m).2 t)) (gone++(ring s.c s.p (x.step m).2).take (thN s.c s.p (x.step m).2 t))):=by
 have hq:=s.z
 have hq2:=s.c.qb
 obtain ⟨dem,live⟩:=x
 obtain ⟨k,pend,b,h1,h2,h3,h4,h5,h6,h7,h8,h9,h10⟩:=h
 obtain ⟨j1,j2,j3⟩:=h10 rfl
 replace h1:live=some (s.c,s.p,k):=h1
 subst h1
 obtain ⟨pend',i1,i2,i3,i4,i5⟩:=kick_keeps s.hp h4 hnx h3 h6 h5 j1 j2
 obtain ⟨o1,o2⟩:=kickStep_ok s.hp h3 h4
 have hd:(kickStep s.c s.p k m).1.dem=dem:=kickStep_dem.trans h2
 have hn2:(kickStep s.c s.p k m).1.nx=(if dem=true then 0 else 1000):=KickS.nx_step.trans h8
 have e1:(XS.step ⟨dem,some (s.c,s.p,k)⟩ m)=(⟨dem,some (s.c,s.p,(kickStep s.c s.p k m).1)⟩,(kickStep s.c s.p k m).2):=rfl
 rw [e1]
 have est:∀ v:Bool,decide ((XS.st ⟨dem,some (s.c,s.p,(kickStep s.c s.p k m).1)⟩)=0)=v→decide ((kickStep s.c s.p k m).1.st=0)=v:=fun v h=>h
 refine ⟨⟨o2,i2⟩,rfl,fun hz=>?_,fun hz hn=>?_,fun hz hn t=>?_⟩
 ·refine ⟨_,pend',0,rfl,hd,o1,o2,i2,i1,?_,hn2,fun _=>of_decide_eq_true (est _ hz),(fun h=>by cases h)⟩
  rw [h7,List.append_assoc,i3,List.append_assoc]
 ·have hz':=of_decide_eq_false (est _ hz)
  refine ⟨_,pend',b - 1,rfl,hd,o1,o2,i2,i1,?_,hn2,(fun h=>by cases h),fun _=>⟨hz',i4 hz',by omega⟩⟩
  rw [h7,List.append_assoc,i3,List.append_assoc]
 ·have hz':=of_decide_eq_false (est _ hz)
  have hle:=thN_le s.c s.p (kickStep s.c s.p k m).2 t
  show LInv s nx l0 (n+1) false _ (thS s.c s.p (kickStep s.c s.p k m).2 (thN s.c s.p (kickStep s.c s.p k m).2 t)) (gone++(ring s.c s.p (kickStep s.c s.p k m).2).take (thN s.c s.p (kickStep s.c s.p k m).2 t))
  generalize thN s.c s.p (kickStep s.c s.p k m).2 t=r at *
  by_cases hr:r=0
  ·subst hr
   have e2:thS s.c s.p (kickStep s.c s.p k m).2 0=(kickStep s.c s.p k m).2:=rfl
   rw [e2]
   refine ⟨_,pend',b - 1,rfl,hd,o1,o2,i2,i1,?_,hn2,(fun h=>by cases h),fun _=>⟨hz',i4 hz',by omega⟩⟩
   rw [h7,List.take_zero,List.append_nil,List.append_assoc,i3,List.append_assoc]
  ·have e2:thS s.c s.p (kickStep s.c s.p k m).2 r=thM s.c s.p (kickStep s.c s.p k m).2 r:=if_neg hr
   rw [e2]
   have kt:=kick_thief s.hp o2 i1 hle (i4 hz') hz'
   refine ⟨_,pend',_,rfl,hd,o1,th_ok s.hp o2 r,?_,kt.1,?_,hn2,(fun h=>by cases h),fun _=>⟨hz',kt.2,by omega⟩⟩
   ·rw [th_sz s.hp o2 hle]
    exact Int.le_trans (Int.sub_le_self _ (Int.natCast_nonneg r)) i2
   ·rw [h7,List.append_assoc,i3]
    have hr2:=ring_th s.hp o2 hle
    rw [List.append_assoc gone,← hr2,List.append_assoc]
theorem linv_end {s:KL} {nx:Int} {l0 gone:List Int} {n:Nat} {x:XS} {m:MemM} (h:LInv s nx l0 n true x m gone) :
  ld m (s.c.word s.p+1)=(if x.dem=true then 0 else 1000)∧l0=gone++ring s.c s.p m++x.over∧x.kicked = !decide (nx=0)∧(x.over=[]∨∃ l,x.over=l++[nx - 1])∧(nx=0→x.over=[]):=by
 obtain ⟨dem,live⟩:=x
 obtain ⟨k,pend,b,h1,h2,h3,h4,h5,h6,h7,h8,h9,h10⟩:=h
 replace h1:live=some (s.c,s.p,k):=h1
 subst h1
 obtain ⟨e1,e2,e3,e4⟩:=kick_end h6 (h9 rfl)
 refine ⟨e1.trans h8,?_,e3,e4,fun hz=>?_⟩
 ·rw [h7,e2]
  rfl
 ·have e5:k.put.isSome=false:=by rw [e3,hz]; rfl
  show k.over=[]
  obtain ⟨dm,gg,st,was,put⟩:=k
  cases put with
  | none=>rfl
  | some y=>cases e5
end Go.Proofs.Ytbcnbofkgkheeaa
namespace Go.Proofs.Ytbcnbofkgkheeaa
open Go.RowKit
open Go.Ev (iz iN pz)
set_option linter.unusedVariables false
set_option linter.unusedSimpArgs false
set_option maxRecDepth 8000
attribute [local irreducible] Ev.wpL
abbrev kW (s:KL) : Ev.Ctx:=⟨s.W,fun _=>False⟩
abbrev kC (s:KL) (b5:Nat) : Ev.Asr:=Ev.blkA b5 [iN s.c.n,iN s.c.q,iz s.c.g,iz s.c.m,iz s.c.t,iz s.c.s] 23
abbrev kI (v:Value) (xs:List Int) : Ev.Asr:=Ev.slA 3 1 v xs.length (ints xs)
abbrev kT (dv:Value) (s:KL) (b5 bm:Nat) (al:Value) (nx:Int) (l:List (Nat×Value)) : List (Nat×Value):=(1,iN s.p)::(2,dv)::(4,s.lv)::(5,pz b5)::(11,pz bm)::(13,al)::(14,iz (nx - 1))::l
abbrev kR (s:KL) : Ending→World→Prop:=fun e w'=>e=.returned (.bool true)∧Below s.W.heap.size s.W w'
noncomputable abbrev kB (s:KL) : Exit→Act→World→Prop:=bodyPostM Fence.wide 0 Try.prog (Ev.fnOf Try.prog 3) (kR s)
noncomputable abbrev kS (p:List Nat) (i:Nat):=Ev.stm Try.prog 3 p i
abbrev kQ0 (s:KL) (b5 bm bx:Nat) (al:Value) (lal:Ev.leafV al=true) (l0:List Int) (nx:Int) (xv:Value) (lxv:Ev.leafV xv=true) (x:XS) (m:MemM) (gv:Value) (lgv:Ev.leafV gv=true) (gone:List Int) (n:Nat) (h1:l0.length≤10000∧gone.length≤10000∧0≤nx∧nx < 4294967296) : KQ :=
 ⟨s,b5,bm,bx,al,lal,l0,nx,xv,lxv,x,m,gv,lgv,gone,n,.slice none 0 0,rfl,[],.slice none 0 0,rfl,[],h1.1,h1.2.1,Nat.zero_le _,Nat.zero_le _,h1.2.2⟩
theorem keeps_tail_d (s:KL) {b5 bm bx:Nat} {al gv:Value} {l0 gone:List Int} (hl0:l0.length≤64) {nx:Int} (hnx:0≤nx∧nx < 4294967296) {x:XS} {m:MemM} {n:Nat} (hI:LInv s nx l0 n true x m gone) (hdem:x.dem=true) {A:Act} {w:World}
  (h:Ev.At (kW s) 150 (kT (.bool true) s b5 bm al nx [(15,.iface 60 (pz bx)),(16,gv),(17,.bool true)]) [kC s b5,kI al l0,xA bx x,memA bm m,kI gv gone] A w) : Ev.wpL Try.prog (kS [] 15) (kB s) A w:=by
 have lgv:Ev.leafV gv=true:=hold_leaf (h.hold.sel [4] (by kernel_rfl))
 have lal:Ev.leafV al=true:=hold_leaf (h.hold.sel [1] (by kernel_rfl))
 have hgl:=hI.len
 obtain ⟨e1,e2,e3,e4,e5⟩:=linv_end hI
 have hrl:=ring_le hI.mem.2
 have hol:x.over.length≤64:=by
  have:=congrArg List.length e2
  simp only [List.length_append] at this
  omega
 have lxv:Ev.leafV (.iface 60 (pz bx))=true:=rfl
 refine klHd (kQ0 s b5 bm bx al lal l0 nx _ lxv x m gv lgv gone n ⟨by omega,by omega,hnx⟩) hI.ok hdem A w _ h ?_
 intro κ A1 w1 h1
 dsimp only at h1
 have lov:Ev.leafV (Ev.dv κ 403)=true:=Ev.dec_leaf _
 have lwv:Ev.leafV (Ev.dv κ 407)=true:=Ev.dec_leaf _
 generalize Ev.dv κ 403=ov at h1 lov
 generalize Ev.dv κ 407=wv at h1 lwv
 refine klId ⟨s,b5,bm,bx,al,lal,l0,nx,_,lxv,x,m,gv,lgv,gone,n,ov,lov,x.over,wv,lwv,gone,by omega,by omega,by omega,by omega,hnx⟩ hI.mem.1 hI.mem.2 A1 w1 _ (h1.to (fun q hq=>hq) (fun hh=>hh.sel [0,3,2,4,1,6] (by kernel_rfl))) ?_
 intro κ2 A2 w2 h2
 dsimp only at h2
 have lwv2:Ev.leafV (Ev.dv κ2 407)=true:=Ev.dec_leaf _
 generalize Ev.dv κ2 407=wv2 at h2 lwv2
 refine klJd ⟨s,b5,bm,bx,al,lal,l0,nx,_,lxv,x,m,gv,lgv,gone,n,ov,lov,x.over,wv2,lwv2,gone++ring s.c s.p m,by omega,by omega,by omega,by rw [List.length_append]; omega,hnx⟩ A2 w2 _ (h2.to (fun q hq=>hq) (fun hh=>(isA_app (hh.sel [6,0,3,4,2,5] (by kernel_rfl))).sel [1,2,3,4,5,0] (by kernel_rfl))) ?_
 intro κ3 A3 w3 h3
 dsimp only at h3
 have lwv3:Ev.leafV (Ev.dv κ3 403)=true:=Ev.dec_leaf _
 generalize Ev.dv κ3 403=wv3 at h3 lwv3
 let q:KQ:=⟨s,b5,bm,bx,al,lal,l0,nx,_,lxv,x,m,gv,lgv,gone,n,ov,lov,x.over,wv3,lwv3,gone++ring s.c s.p m++x.over,by omega,by omega,by omega,by rw [← e2]; omega,hnx⟩
 have hm:=(hI.mem.1.get (hI.mem.1.lt_next s.hp)).1
 rw [e1,hdem] at hm
 have h4:Ev.At (kW s) 150 (kT (.bool true) s b5 bm al nx [(15,.iface 60 (pz bx)),(17,.bool true),(19,ov),(20,wv3)]) [kC s b5,kI al l0,xA bx x,memA bm m,kI ov x.over,kI wv3 (gone++ring s.c s.p m++x.over)] A3 w3:=h3.to (fun q hq=>hq) (fun hh=>(isA_app (hh.sel [5,0,1,2,3,4] (by kernel_rfl))).sel [1,2,3,4,5,0] (by kernel_rfl))
 have fin:∀ {l:List Ev.Asr} {w':World},Ev.Hold (kW s) l w'→kR s (.returned (.bool true)) w':=fun hh=>⟨rfl,hh.below (fun _ h=>h)⟩
 by_cases hz:nx=0
 ·have e6:=e5 hz
  refine klKda q hI.ok hdem (by rw [e3,hz]; rfl) hm hz e2.symm hl0 (by show x.over.length=0; rw [e6]; rfl) A3 w3 _ h4 (fun κ4 w4 h5=>fin h5)
 ·rcases e4 with e6 | ⟨l,e6⟩
  ·refine klKdb q hI.ok hdem (by rw [e3]; simp [hz]) hm hz e2.symm hl0 (by show x.over.length=0; rw [e6]; rfl) A3 w3 _ h4 (fun κ4 w4 h5=>fin h5)
  ·refine klKdc q hI.ok hdem (by rw [e3]; simp [hz]) hm hz e2.symm hl0 (by show 0 < x.over.length; rw [e6]; simp) (by show x.over[x.over.length - 1]? = some (nx - 1); rw [e6]; simp) A3 w3 _ h4 (fun κ4 w4 h5=>fin h5)
theorem keeps_loop_d (s:KL) {b5 bm bx:Nat} {al:Value} {l0:List Int} (hl0:l0.length≤64) {nx:Int} (hnx:0≤nx∧nx < 4294967296) {x:XS} {m:MemM} (hI:LInv s nx l0 0 false x m []) (hdem:x.dem=true) {A:Act} {w:World}
  (h:Ev.At (kW s) 150 (kT (.bool true) s b5 bm al nx [(15,.iface 60 (pz bx)),(16,.slice none 0 0),(17,.bool false),(18,.int .i64 0)]) [kC s b5,kI al l0,xA bx x,memA bm m,kI (.slice none 0 0) []] A w) : Ev.wpL Try.prog (kS [] 14) (kB s) A w:=by
 have lal:Ev.leafV al=true:=hold_leaf (h.hold.sel [1] (by kernel_rfl))
 have lxv:Ev.leafV (.iface 60 (pz bx))=true:=rfl
 refine Ev.in_block (id:=0) (by kernel_rfl) ?_
 refine Ev.loop_st (by kernel_rfl) (fun (y:Nat×Bool×XS×MemM×Value×List Int) A w'=>Ev.At (kW s) 150 (kT (.bool true) s b5 bm al nx [(15,.iface 60 (pz bx)),(16,y.2.2.2.2.1),(17,.bool y.2.1),(18,iN y.1)]) [kC s b5,kI al l0,xA bx y.2.2.1,memA bm y.2.2.2.1,kI y.2.2.2.2.1 y.2.2.2.2.2] A w'∧LInv s nx l0 y.1 y.2.1 y.2.2.1 y.2.2.2.1 y.2.2.2.2.2∧y.2.2.1.dem=true) (fun y=>200 - y.1) (x:=(0,false,x,m,.slice none 0 0,[])) ⟨h,hI,hdem⟩ ?_
 clear h hI hdem A w x m
 rintro ⟨n,done,x,m,gv,gone⟩ A w ⟨h,hI,hdem⟩
 replace hI:LInv s nx l0 n done x m gone:=hI
 replace hdem:x.dem=true:=hdem
 replace h:Ev.At (kW s) 150 (kT (.bool true) s b5 bm al nx [(15,.iface 60 (pz bx)),(16,gv),(17,.bool done),(18,iN n)]) [kC s b5,kI al l0,xA bx x,memA bm m,kI gv gone] A w:=h
 have lgv:Ev.leafV gv=true:=hold_leaf (h.hold.sel [4] (by kernel_rfl))
 have hgl:=hI.len
 cases done with
 | true =>
  by_cases hn:n < 200
  ·refine klX1d (kQ0 s b5 bm bx al lal l0 nx _ lxv x m gv lgv gone n ⟨by omega,by omega,hnx⟩) hn A w _ h ?_
   intro κ A1 w1 h1
   exact keeps_tail_d s hl0 hnx hI hdem h1
  ·refine klX2d (kQ0 s b5 bm bx al lal l0 nx _ lxv x m gv lgv gone n ⟨by omega,by omega,hnx⟩) hn A w _ h ?_
   intro κ A1 w1 h1
   exact keeps_tail_d s hl0 hnx hI hdem h1
 | false =>
  have hn:=hI.n
  obtain ⟨⟨j1,j2⟩,j3,j4,j5,j6⟩:=linv_step hnx hI
  refine klEd (kQ0 s b5 bm bx al lal l0 nx _ lxv x m gv lgv gone n ⟨by omega,by omega,hnx⟩) hn A w _ h ?_
  intro κ A1 w1 h1
  refine Ev.in_block (id:=1) (by kernel_rfl) ?_
  have hd2:(x.step m).1.dem=true:=j3.trans hdem
  cases hz:decide ((x.step m).1.st=0) with
  | true =>
   by_cases hin:n < s.zs.length
   ·refine klFdz1 (kQ0 s b5 bm bx al lal l0 nx _ lxv x m gv lgv gone n ⟨by omega,by omega,hnx⟩) hI.ok hdem hz hin A1 w1 _ h1 ?_
    intro κ2 A2 w2 h2
    refine Ev.wpL_nil (by kernel_rfl) ?_
    refine klGzd (kQ0 s b5 bm bx al lal l0 nx _ lxv (x.step m).1 (x.step m).2 gv lgv gone n ⟨by omega,by omega,hnx⟩) hn A2 w2 _ (h2.to (fun q hq=>hq) (fun hh=>hh.sel [0,3,1,2,4] (by kernel_rfl))) ?_
    intro κ3 A3 w3 h3
    exact Ev.wpL_nil (by kernel_rfl) ⟨(n+1,true,(x.step m).1,(x.step m).2,gv,gone),⟨h3,j4 hz,hd2⟩,by show 200 - (n+1) < 200 - n; omega⟩
   ·refine klFdz2 (kQ0 s b5 bm bx al lal l0 nx _ lxv x m gv lgv gone n ⟨by omega,by omega,hnx⟩) hI.ok hdem hz hin A1 w1 _ h1 ?_
    intro κ2 A2 w2 h2
    refine Ev.wpL_nil (by kernel_rfl) ?_
    refine klGzd (kQ0 s b5 bm bx al lal l0 nx _ lxv (x.step m).1 (x.step m).2 gv lgv gone n ⟨by omega,by omega,hnx⟩) hn A2 w2 _ (h2.to (fun q hq=>hq) (fun hh=>hh.sel [0,3,1,2,4] (by kernel_rfl))) ?_
    intro κ3 A3 w3 h3
    exact Ev.wpL_nil (by kernel_rfl) ⟨(n+1,true,(x.step m).1,(x.step m).2,gv,gone),⟨h3,j4 hz,hd2⟩,by show 200 - (n+1) < 200 - n; omega⟩
  | false =>
   by_cases hin:n < s.zs.length
   ·have j7:=j6 hz hin (s.zs.getD n 0).toNat
    have hgl2:=j7.len
    refine klFdn1 (kQ0 s b5 bm bx al lal l0 nx _ lxv x m gv lgv gone n ⟨by omega,by omega,hnx⟩) hI.ok hdem hz hin j1 j2 A1 w1 _ h1 ?_
    intro κ2 A2 w2 h2
    dsimp only at h2
    have lgv2:Ev.leafV (Ev.dv κ2 411)=true:=Ev.dec_leaf _
    generalize Ev.dv κ2 411=gv2 at h2 lgv2
    refine Ev.wpL_nil (by kernel_rfl) ?_
    refine klGd (kQ0 s b5 bm bx al lal l0 nx _ lxv (x.step m).1 (thS s.c s.p (x.step m).2 (thN s.c s.p (x.step m).2 (s.zs.getD n 0).toNat)) gv2 lgv2 (gone++(ring s.c s.p (x.step m).2).take (thN s.c s.p (x.step m).2 (s.zs.getD n 0).toNat)) n ⟨by omega,by omega,hnx⟩) hn A2 w2 _ (h2.to (fun q hq=>hq) (fun hh=>(isA_app (hh.sel [5,0,4,3,2] (by kernel_rfl))).sel [1,2,3,4,0] (by kernel_rfl))) ?_
    intro κ3 A3 w3 h3
    exact Ev.wpL_nil (by kernel_rfl) ⟨(n+1,false,(x.step m).1,_,gv2,_),⟨h3,j7,hd2⟩,by show 200 - (n+1) < 200 - n; omega⟩
   ·refine klFdn2 (kQ0 s b5 bm bx al lal l0 nx _ lxv x m gv lgv gone n ⟨by omega,by omega,hnx⟩) hI.ok hdem hz hin A1 w1 _ h1 ?_
    intro κ2 A2 w2 h2
    refine Ev.wpL_nil (by kernel_rfl) ?_
    refine klGd (kQ0 s b5 bm bx al lal l0 nx _ lxv (x.step m).1 (x.step m).2 gv lgv gone n ⟨by omega,by omega,hnx⟩) hn A2 w2 _ (h2.to (fun q hq=>hq) (fun hh=>hh.sel [0,3,1,2,4] (by kernel_rfl))) ?_
    intro κ3 A3 w3 h3
    exact Ev.wpL_nil (by kernel_rfl) ⟨(n+1,false,(x.step m).1,(x.step m).2,gv,gone),⟨h3,j5 hz hin,hd2⟩,by show 200 - (n+1) < 200 - n; omega⟩
theorem keeps_walk_d (s:KL) (h40:s.bs.length≤40) (h30:s.zs.length≤30) : Calls Try.prog 3 #[s.c0.v,iz s.p0,.bool true,s.bv,s.lv] s.W (kR s):=by
 have hz:=s.z
 refine Ev.con_start (N:=150) (tm:=[(0,s.c0.v),(1,iz s.p0),(2,.bool true),(3,s.bv),(4,s.lv)]) (by kernel_rfl) (Ev.now_nil s.W) (by simp) (by simp) (fun A hA=>?_)
 refine klAd s h40 h30 A s.W _ hA ?_
 intro κ A1 w1 h1
 dsimp only at h1
 generalize (κ 400).getD 0=b5 at h1
 generalize Ev.dv κ 411=tv at h1
 have ht:=h1.tm
 obtain ⟨us,hg,hh⟩:=Ev.Hold.getX (a:=fun us:List Int=>Ev.grp [memV (Ev.subV 0 tv) ⟨us,((4+s.c.off s.c.n:Nat) : Int)⟩,Ev.slA 30 1 (Ev.subV 1 tv) us.length (u64s us)]) (h1.hold.sel [1,0] (by kernel_rfl))
 obtain ⟨bm,e4,hh2⟩:=hold_memV hh.open
 rw [e4] at ht
 generalize hmm:(⟨us,((4+s.c.off s.c.n:Nat) : Int)⟩ : MemM)=m at hh2
 have hm:MemOk s.c m:=by rw [← hmm]; exact ⟨hg.len,hg.u⟩
 have hsz:szW (ld m (s.c.word s.p))≤(s.c.q:Int):=by rw [← hmm]; exact (hg.ring s.p s.hp).1
 have hnx:0≤ld m (s.c.word s.p+1)∧ld m (s.c.word s.p+1) < 4294967296:=⟨((hm.get (hm.lt_next s.hp)).2).1,by rw [← hmm]; exact (hg.ring s.p s.hp).2⟩
 have hw:=(hm.get (hm.lt_next s.hp)).1
 have hrl:(ring s.c s.p m).length≤8:=by
  have:=sz_bd (ld m (s.c.word s.p))
  rw [ring_len]
  omega
 have h2:Ev.At (kW s) 150 [(1,iN s.p),(2,.bool true),(4,s.lv),(5,pz b5),(11,pz bm)] [kC s b5,memA bm m] A1 w1:=⟨h1.sz,h1.df,ht,hh2.sel [2,0] (by kernel_rfl)⟩
 obtain ⟨nx,hnxe⟩ : ∃ nx,nx=ld m (s.c.word s.p+1):=⟨_,rfl⟩
 rw [← hnxe] at hnx hw
 refine klBd (kQ0 s b5 bm 0 (.slice none 0 0) rfl [] nx (.slice none 0 0) rfl ⟨true,none⟩ m (.slice none 0 0) rfl [] 0 ⟨by simp,by simp,hnx⟩) hm hsz A1 w1 _ h2 ?_
 intro κ3 A3 w3 h3
 dsimp only at h3
 have lal:Ev.leafV (Ev.dv κ3 403)=true:=Ev.dec_leaf _
 generalize Ev.dv κ3 403=al at h3 lal
 have rest:∀ (al2:Value) (A4:Act) (w4:World),Ev.At (kW s) 150 (kT (.bool true) s b5 bm al2 nx []) [kC s b5,kI al2 (ring s.c s.p m++stoodL nx),memA bm m.tick] A4 w4→Ev.wpL Try.prog (kS [] 10) (kB s) A4 w4:=by
  intro al2 A4 w4 h4
  have lal2:Ev.leafV al2=true:=hold_leaf (h4.hold.sel [1] (by kernel_rfl))
  have hll:(ring s.c s.p m++stoodL nx).length≤64:=by
   rw [List.length_append]
   unfold stoodL
   split <;> simp <;> omega
  refine klDd (kQ0 s b5 bm 0 al2 lal2 (ring s.c s.p m++stoodL nx) nx (.slice none 0 0) rfl ⟨true,none⟩ m.tick (.slice none 0 0) rfl [] 0 ⟨by omega,by simp,hnx⟩) A4 w4 _ h4 ?_
  intro κ5 A5 w5 h5
  dsimp only at h5
  have ht:=h5.tm
  obtain ⟨bx,e5,hh⟩:=hold_xW (h5.hold.sel [1,0,2,3] (by kernel_rfl))
  rw [e5] at ht
  have hI:LInv s nx (ring s.c s.p m++stoodL nx) 0 false (newD s.c s.p) m.tick []:=by
   have e6:=linv_start (s:=s) h30 hm.tick hsz (x:=newD s.c s.p) rfl (by simp [newD,newR])
   rw [show ld m.tick (s.c.word s.p+1)=nx from hnxe.symm] at e6
   exact e6
  exact keeps_loop_d s hll hnx hI rfl (A:=A5) (w:=w5) ⟨h5.sz,h5.df,ht,(hh.nilSl (e := 3) (sz:=1)).sel [2,3,1,4,0] (by kernel_rfl)⟩
 by_cases h0:nx=0
 ·refine klCNd (kQ0 s b5 bm 0 al lal (ring s.c s.p m) nx (.slice none 0 0) rfl ⟨true,none⟩ m (.slice none 0 0) rfl [] 0 ⟨by omega,by simp,hnx⟩) hw h0 A3 w3 _ h3 ?_
  intro κ4 A4 w4 h4
  refine rest al A4 w4 (h4.to (fun q hq=>hq) (fun hh=>?_))
  have e:stoodL nx=[]:=if_pos h0
  rw [e,List.append_nil]
  exact hh.sel [0,2,1] (by kernel_rfl)
 ·refine klCYd (kQ0 s b5 bm 0 al lal (ring s.c s.p m) nx (.slice none 0 0) rfl ⟨true,none⟩ m (.slice none 0 0) rfl [] 0 ⟨by omega,by simp,hnx⟩) hw h0 A3 w3 _ h3 ?_
  intro κ4 A4 w4 h4
  refine rest _ A4 w4 (h4.to (fun q hq=>hq) (fun hh=>?_))
  have e:stoodL nx=[nx - 1]:=if_neg h0
  rw [e]
  exact (isA_app (ys:=[nx - 1]) (hh.sel [2,0,1] (by kernel_rfl))).sel [1,0,2] (by kernel_rfl)
theorem keeps_tail_r (s:KL) {b5 bm bx:Nat} {al gv:Value} {l0 gone:List Int} (hl0:l0.length≤64) {nx:Int} (hnx:0≤nx∧nx < 4294967296) {x:XS} {m:MemM} {n:Nat} (hI:LInv s nx l0 n true x m gone) (hdem:x.dem=false) {A:Act} {w:World}
  (h:Ev.At (kW s) 150 (kT (.bool false) s b5 bm al nx [(15,.iface 50 (pz bx)),(16,gv),(17,.bool true)]) [kC s b5,kI al l0,xA bx x,memA bm m,kI gv gone] A w) : Ev.wpL Try.prog (kS [] 15) (kB s) A w:=by
 have lgv:Ev.leafV gv=true:=hold_leaf (h.hold.sel [4] (by kernel_rfl))
 have lal:Ev.leafV al=true:=hold_leaf (h.hold.sel [1] (by kernel_rfl))
 have hgl:=hI.len
 obtain ⟨e1,e2,e3,e4,e5⟩:=linv_end hI
 have hrl:=ring_le hI.mem.2
 have hol:x.over.length≤64:=by
  have:=congrArg List.length e2
  simp only [List.length_append] at this
  omega
 have lxv:Ev.leafV (.iface 50 (pz bx))=true:=rfl
 refine klHr (kQ0 s b5 bm bx al lal l0 nx _ lxv x m gv lgv gone n ⟨by omega,by omega,hnx⟩) hI.ok hdem A w _ h ?_
 intro κ A1 w1 h1
 dsimp only at h1
 have lov:Ev.leafV (Ev.dv κ 403)=true:=Ev.dec_leaf _
 have lwv:Ev.leafV (Ev.dv κ 407)=true:=Ev.dec_leaf _
 generalize Ev.dv κ 403=ov at h1 lov
 generalize Ev.dv κ 407=wv at h1 lwv
 refine klIr ⟨s,b5,bm,bx,al,lal,l0,nx,_,lxv,x,m,gv,lgv,gone,n,ov,lov,x.over,wv,lwv,gone,by omega,by omega,by omega,by omega,hnx⟩ hI.mem.1 hI.mem.2 A1 w1 _ (h1.to (fun q hq=>hq) (fun hh=>hh.sel [0,3,2,4,1,6] (by kernel_rfl))) ?_
 intro κ2 A2 w2 h2
 dsimp only at h2
 have lwv2:Ev.leafV (Ev.dv κ2 407)=true:=Ev.dec_leaf _
 generalize Ev.dv κ2 407=wv2 at h2 lwv2
 refine klJr ⟨s,b5,bm,bx,al,lal,l0,nx,_,lxv,x,m,gv,lgv,gone,n,ov,lov,x.over,wv2,lwv2,gone++ring s.c s.p m,by omega,by omega,by omega,by rw [List.length_append]; omega,hnx⟩ A2 w2 _ (h2.to (fun q hq=>hq) (fun hh=>(isA_app (hh.sel [6,0,3,4,2,5] (by kernel_rfl))).sel [1,2,3,4,5,0] (by kernel_rfl))) ?_
 intro κ3 A3 w3 h3
 dsimp only at h3
 have lwv3:Ev.leafV (Ev.dv κ3 403)=true:=Ev.dec_leaf _
 generalize Ev.dv κ3 403=wv3 at h3 lwv3
 let q:KQ:=⟨s,b5,bm,bx,al,lal,l0,nx,_,lxv,x,m,gv,lgv,gone,n,ov,lov,x.over,wv3,lwv3,gone++ring s.c s.p m++x.over,by omega,by omega,by omega,by rw [← e2]; omega,hnx⟩
 have hm:=(hI.mem.1.get (hI.mem.1.lt_next s.hp)).1
 rw [e1,hdem] at hm
 have h4:Ev.At (kW s) 150 (kT (.bool false) s b5 bm al nx [(15,.iface 50 (pz bx)),(17,.bool true),(19,ov),(20,wv3)]) [kC s b5,kI al l0,xA bx x,memA bm m,kI ov x.over,kI wv3 (gone++ring s.c s.p m++x.over)] A3 w3:=h3.to (fun q hq=>hq) (fun hh=>(isA_app (hh.sel [5,0,1,2,3,4] (by kernel_rfl))).sel [1,2,3,4,5,0] (by kernel_rfl))
 have fin:∀ {l:List Ev.Asr} {w':World},Ev.Hold (kW s) l w'→kR s (.returned (.bool true)) w':=fun hh=>⟨rfl,hh.below (fun _ h=>h)⟩
 by_cases hz:nx=0
 ·have e6:=e5 hz
  refine klKra q hI.ok hdem (by rw [e3,hz]; rfl) hm hz e2.symm hl0 (by show x.over.length=0; rw [e6]; rfl) A3 w3 _ h4 (fun κ4 w4 h5=>fin h5)
 ·rcases e4 with e6 | ⟨l,e6⟩
  ·refine klKrb q hI.ok hdem (by rw [e3]; simp [hz]) hm hz e2.symm hl0 (by show x.over.length=0; rw [e6]; rfl) A3 w3 _ h4 (fun κ4 w4 h5=>fin h5)
  ·refine klKrc q hI.ok hdem (by rw [e3]; simp [hz]) hm hz e2.symm hl0 (by show 0 < x.over.length; rw [e6]; simp) (by show x.over[x.over.length - 1]? = some (nx - 1); rw [e6]; simp) A3 w3 _ h4 (fun κ4 w4 h5=>fin h5)
theorem keeps_loop_r (s:KL) {b5 bm bx:Nat} {al:Value} {l0:List Int} (hl0:l0.length≤64) {nx:Int} (hnx:0≤nx∧nx < 4294967296) {x:XS} {m:MemM} (hI:LInv s nx l0 0 false x m []) (hdem:x.dem=false) {A:Act} {w:World}
  (h:Ev.At (kW s) 150 (kT (.bool false) s b5 bm al nx [(15,.iface 50 (pz bx)),(16,.slice none 0 0),(17,.bool false),(18,.int .i64 0)]) [kC s b5,kI al l0,xA bx x,memA bm m,kI (.slice none 0 0) []] A w) : Ev.wpL Try.prog (kS [] 14) (kB s) A w:=by
 have lal:Ev.leafV al=true:=hold_leaf (h.hold.sel [1] (by kernel_rfl))
 have lxv:Ev.leafV (.iface 50 (pz bx))=true:=rfl
 refine Ev.in_block (id:=0) (by kernel_rfl) ?_
 refine Ev.loop_st (by kernel_rfl) (fun (y:Nat×Bool×XS×MemM×Value×List Int) A w'=>Ev.At (kW s) 150 (kT (.bool false) s b5 bm al nx [(15,.iface 50 (pz bx)),(16,y.2.2.2.2.1),(17,.bool y.2.1),(18,iN y.1)]) [kC s b5,kI al l0,xA bx y.2.2.1,memA bm y.2.2.2.1,kI y.2.2.2.2.1 y.2.2.2.2.2] A w'∧LInv s nx l0 y.1 y.2.1 y.2.2.1 y.2.2.2.1 y.2.2.2.2.2∧y.2.2.1.dem=false) (fun y=>200 - y.1) (x:=(0,false,x,m,.slice none 0 0,[])) ⟨h,hI,hdem⟩ ?_
 clear h hI hdem A w x m
 rintro ⟨n,done,x,m,gv,gone⟩ A w ⟨h,hI,hdem⟩
 replace hI:LInv s nx l0 n done x m gone:=hI
 replace hdem:x.dem=false:=hdem
 replace h:Ev.At (kW s) 150 (kT (.bool false) s b5 bm al nx [(15,.iface 50 (pz bx)),(16,gv),(17,.bool done),(18,iN n)]) [kC s b5,kI al l0,xA bx x,memA bm m,kI gv gone] A w:=h
 have lgv:Ev.leafV gv=true:=hold_leaf (h.hold.sel [4] (by kernel_rfl))
 have hgl:=hI.len
 cases done with
 | true =>
  by_cases hn:n < 200
  ·refine klX1r (kQ0 s b5 bm bx al lal l0 nx _ lxv x m gv lgv gone n ⟨by omega,by omega,hnx⟩) hn A w _ h ?_
   intro κ A1 w1 h1
   exact keeps_tail_r s hl0 hnx hI hdem h1
  ·refine klX2r (kQ0 s b5 bm bx al lal l0 nx _ lxv x m gv lgv gone n ⟨by omega,by omega,hnx⟩) hn A w _ h ?_
   intro κ A1 w1 h1
   exact keeps_tail_r s hl0 hnx hI hdem h1
 | false =>
  have hn:=hI.n
  obtain ⟨⟨j1,j2⟩,j3,j4,j5,j6⟩:=linv_step hnx hI
  refine klEr (kQ0 s b5 bm bx al lal l0 nx _ lxv x m gv lgv gone n ⟨by omega,by omega,hnx⟩) hn A w _ h ?_
  intro κ A1 w1 h1
  refine Ev.in_block (id:=1) (by kernel_rfl) ?_
  have hd2:(x.step m).1.dem=false:=j3.trans hdem
  cases hz:decide ((x.step m).1.st=0) with
  | true =>
   by_cases hin:n < s.zs.length
   ·refine klFrz1 (kQ0 s b5 bm bx al lal l0 nx _ lxv x m gv lgv gone n ⟨by omega,by omega,hnx⟩) hI.ok hdem hz hin A1 w1 _ h1 ?_
    intro κ2 A2 w2 h2
    refine Ev.wpL_nil (by kernel_rfl) ?_
    refine klGzr (kQ0 s b5 bm bx al lal l0 nx _ lxv (x.step m).1 (x.step m).2 gv lgv gone n ⟨by omega,by omega,hnx⟩) hn A2 w2 _ (h2.to (fun q hq=>hq) (fun hh=>hh.sel [0,3,1,2,4] (by kernel_rfl))) ?_
    intro κ3 A3 w3 h3
    exact Ev.wpL_nil (by kernel_rfl) ⟨(n+1,true,(x.step m).1,(x.step m).2,gv,gone),⟨h3,j4 hz,hd2⟩,by show 200 - (n+1) < 200 - n; omega⟩
   ·refine klFrz2 (kQ0 s b5 bm bx al lal l0 nx _ lxv x m gv lgv gone n ⟨by omega,by omega,hnx⟩) hI.ok hdem hz hin A1 w1 _ h1 ?_
    intro κ2 A2 w2 h2
    refine Ev.wpL_nil (by kernel_rfl) ?_
    refine klGzr (kQ0 s b5 bm bx al lal l0 nx _ lxv (x.step m).1 (x.step m).2 gv lgv gone n ⟨by omega,by omega,hnx⟩) hn A2 w2 _ (h2.to (fun q hq=>hq) (fun hh=>hh.sel [0,3,1,2,4] (by kernel_rfl))) ?_
    intro κ3 A3 w3 h3
    exact Ev.wpL_nil (by kernel_rfl) ⟨(n+1,true,(x.step m).1,(x.step m).2,gv,gone),⟨h3,j4 hz,hd2⟩,by show 200 - (n+1) < 200 - n; omega⟩
  | false =>
   by_cases hin:n < s.zs.length
   ·have j7:=j6 hz hin (s.zs.getD n 0).toNat
    have hgl2:=j7.len
    refine klFrn1 (kQ0 s b5 bm bx al lal l0 nx _ lxv x m gv lgv gone n ⟨by omega,by omega,hnx⟩) hI.ok hdem hz hin j1 j2 A1 w1 _ h1 ?_
    intro κ2 A2 w2 h2
    dsimp only at h2
    have lgv2:Ev.leafV (Ev.dv κ2 411)=true:=Ev.dec_leaf _
    generalize Ev.dv κ2 411=gv2 at h2 lgv2
    refine Ev.wpL_nil (by kernel_rfl) ?_
    refine klGr (kQ0 s b5 bm bx al lal l0 nx _ lxv (x.step m).1 (thS s.c s.p (x.step m).2 (thN s.c s.p (x.step m).2 (s.zs.getD n 0).toNat)) gv2 lgv2 (gone++(ring s.c s.p (x.step m).2).take (thN s.c s.p (x.step m).2 (s.zs.getD n 0).toNat)) n ⟨by omega,by omega,hnx⟩) hn A2 w2 _ (h2.to (fun q hq=>hq) (fun hh=>(isA_app (hh.sel [5,0,4,3,2] (by kernel_rfl))).sel [1,2,3,4,0] (by kernel_rfl))) ?_
    intro κ3 A3 w3 h3
    exact Ev.wpL_nil (by kernel_rfl) ⟨(n+1,false,(x.step m).1,_,gv2,_),⟨h3,j7,hd2⟩,by show 200 - (n+1) < 200 - n; omega⟩
   ·refine klFrn2 (kQ0 s b5 bm bx al lal l0 nx _ lxv x m gv lgv gone n ⟨by omega,by omega,hnx⟩) hI.ok hdem hz hin A1 w1 _ h1 ?_
    intro κ2 A2 w2 h2
    refine Ev.wpL_nil (by kernel_rfl) ?_
    refine klGr (kQ0 s b5 bm bx al lal l0 nx _ lxv (x.step m).1 (x.step m).2 gv lgv gone n ⟨by omega,by omega,hnx⟩) hn A2 w2 _ (h2.to (fun q hq=>hq) (fun hh=>hh.sel [0,3,1,2,4] (by kernel_rfl))) ?_
    intro κ3 A3 w3 h3
    exact Ev.wpL_nil (by kernel_rfl) ⟨(n+1,false,(x.step m).1,(x.step m).2,gv,gone),⟨h3,j5 hz hin,hd2⟩,by show 200 - (n+1) < 200 - n; omega⟩
theorem keeps_walk_r (s:KL) (h40:s.bs.length≤40) (h30:s.zs.length≤30) : Calls Try.prog 3 #[s.c0.v,iz s.p0,.bool false,s.bv,s.lv] s.W (kR s):=by
 have hz:=s.z
 refine Ev.con_start (N:=150) (tm:=[(0,s.c0.v),(1,iz s.p0),(2,.bool false),(3,s.bv),(4,s.lv)]) (by kernel_rfl) (Ev.now_nil s.W) (by simp) (by simp) (fun A hA=>?_)
 refine klAr s h40 h30 A s.W _ hA ?_
 intro κ A1 w1 h1
 dsimp only at h1
 generalize (κ 400).getD 0=b5 at h1
 generalize Ev.dv κ 411=tv at h1
 have ht:=h1.tm
 obtain ⟨us,hg,hh⟩:=Ev.Hold.getX (a:=fun us:List Int=>Ev.grp [memV (Ev.subV 0 tv) ⟨us,((4+s.c.off s.c.n:Nat) : Int)⟩,Ev.slA 30 1 (Ev.subV 1 tv) us.length (u64s us)]) (h1.hold.sel [1,0] (by kernel_rfl))
 obtain ⟨bm,e4,hh2⟩:=hold_memV hh.open
 rw [e4] at ht
 generalize hmm:(⟨us,((4+s.c.off s.c.n:Nat) : Int)⟩ : MemM)=m at hh2
 have hm:MemOk s.c m:=by rw [← hmm]; exact ⟨hg.len,hg.u⟩
 have hsz:szW (ld m (s.c.word s.p))≤(s.c.q:Int):=by rw [← hmm]; exact (hg.ring s.p s.hp).1
 have hnx:0≤ld m (s.c.word s.p+1)∧ld m (s.c.word s.p+1) < 4294967296:=⟨((hm.get (hm.lt_next s.hp)).2).1,by rw [← hmm]; exact (hg.ring s.p s.hp).2⟩
 have hw:=(hm.get (hm.lt_next s.hp)).1
 have hrl:(ring s.c s.p m).length≤8:=by
  have:=sz_bd (ld m (s.c.word s.p))
  rw [ring_len]
  omega
 have h2:Ev.At (kW s) 150 [(1,iN s.p),(2,.bool false),(4,s.lv),(5,pz b5),(11,pz bm)] [kC s b5,memA bm m] A1 w1:=⟨h1.sz,h1.df,ht,hh2.sel [2,0] (by kernel_rfl)⟩
 obtain ⟨nx,hnxe⟩ : ∃ nx,nx=ld m (s.c.word s.p+1):=⟨_,rfl⟩
 rw [← hnxe] at hnx hw
 refine klBr (kQ0 s b5 bm 0 (.slice none 0 0) rfl [] nx (.slice none 0 0) rfl ⟨true,none⟩ m (.slice none 0 0) rfl [] 0 ⟨by simp,by simp,hnx⟩) hm hsz A1 w1 _ h2 ?_
 intro κ3 A3 w3 h3
 dsimp only at h3
 have lal:Ev.leafV (Ev.dv κ3 403)=true:=Ev.dec_leaf _
 generalize Ev.dv κ3 403=al at h3 lal
 have rest:∀ (al2:Value) (A4:Act) (w4:World),Ev.At (kW s) 150 (kT (.bool false) s b5 bm al2 nx []) [kC s b5,kI al2 (ring s.c s.p m++stoodL nx),memA bm m.tick] A4 w4→Ev.wpL Try.prog (kS [] 10) (kB s) A4 w4:=by
  intro al2 A4 w4 h4
  have lal2:Ev.leafV al2=true:=hold_leaf (h4.hold.sel [1] (by kernel_rfl))
  have hll:(ring s.c s.p m++stoodL nx).length≤64:=by
   rw [List.length_append]
   unfold stoodL
   split <;> simp <;> omega
  refine klDr (kQ0 s b5 bm 0 al2 lal2 (ring s.c s.p m++stoodL nx) nx (.slice none 0 0) rfl ⟨true,none⟩ m.tick (.slice none 0 0) rfl [] 0 ⟨by omega,by simp,hnx⟩) A4 w4 _ h4 ?_
  intro κ5 A5 w5 h5
  dsimp only at h5
  have ht:=h5.tm
  obtain ⟨bx,e5,hh⟩:=hold_xW (h5.hold.sel [1,0,2,3] (by kernel_rfl))
  rw [e5] at ht
  have hI:LInv s nx (ring s.c s.p m++stoodL nx) 0 false (newR s.c s.p 999) m.tick []:=by
   have e6:=linv_start (s:=s) h30 hm.tick hsz (x:=newR s.c s.p 999) rfl (by simp [newD,newR])
   rw [show ld m.tick (s.c.word s.p+1)=nx from hnxe.symm] at e6
   exact e6
  exact keeps_loop_r s hll hnx hI rfl (A:=A5) (w:=w5) ⟨h5.sz,h5.df,ht,(hh.nilSl (e := 3) (sz:=1)).sel [2,3,1,4,0] (by kernel_rfl)⟩
 by_cases h0:nx=0
 ·refine klCNr (kQ0 s b5 bm 0 al lal (ring s.c s.p m) nx (.slice none 0 0) rfl ⟨true,none⟩ m (.slice none 0 0) rfl [] 0 ⟨by omega,by simp,hnx⟩) hw h0 A3 w3 _ h3 ?_
  intro κ4 A4 w4 h4
  refine rest al A4 w4 (h4.to (fun q hq=>hq) (fun hh=>?_))
  have e:stoodL nx=[]:=if_pos h0
  rw [e,List.append_nil]
  exact hh.sel [0,2,1] (by kernel_rfl)
 ·refine klCYr (kQ0 s b5 bm 0 al lal (ring s.c s.p m) nx (.slice none 0 0) rfl ⟨true,none⟩ m (.slice none 0 0) rfl [] 0 ⟨by omega,by simp,hnx⟩) hw h0 A3 w3 _ h3 ?_
  intro κ4 A4 w4 h4
  refine rest _ A4 w4 (h4.to (fun q hq=>hq) (fun hh=>?_))
  have e:stoodL nx=[nx - 1]:=if_neg h0
  rw [e]
  exact (isA_app (ys:=[nx - 1]) (hh.sel [2,0,1] (by kernel_rfl))).sel [1,0,2] (by kernel_rfl)
end Go.Proofs.Ytbcnbofkgkheeaa
namespace Go.Proofs.Ytbcnbofkgkheeaa
open Go.ChangeShapes Go.WideShapes Go.ChangeAt Go.RowKit Go.Deep
set_option linter.unusedVariables false
set_option linter.unusedSimpArgs false
set_option maxRecDepth 100000
theorem readyKeeps_walk (s:KL) (dem:Bool) : Calls Try.prog 3 #[s.c0.v,.int .i64 s.p0,.bool dem,s.bv,s.lv] s.W fun e w'=>e=.returned (.bool true)∧Below s.W.heap.size s.W w':=by
 cases dem with
 | true =>
  by_cases h40:s.bs.length > 40
  ·exact run0 (klL1d s h40) (by kernel_rfl) (by simp) (by simp)
  by_cases h30:s.zs.length > 30
  ·exact run0 (klL2d s h40 h30) (by kernel_rfl) (by simp) (by simp)
  exact keeps_walk_d s (by omega) (by omega)
 | false =>
  by_cases h40:s.bs.length > 40
  ·exact run0 (klL1r s h40) (by kernel_rfl) (by simp) (by simp)
  by_cases h30:s.zs.length > 30
  ·exact run0 (klL2r s h40 h30) (by kernel_rfl) (by simp) (by simp)
  exact keeps_walk_r s (by omega) (by omega)
theorem readyKeeps_contract (H:Type) (enc:TypeId×Value→H) (W:World) (base:Nat) (args:Array Value) (ds gs:List (DataW H)) (before:List MemPlace)
  (hval:∀ (j:Nat) t v,Try.f3.params[j]? = some t→args[j]? = some v→Value.okWide Try.prog W .any base t v)
  (hW:DataW.Whole enc Try.prog Try.f3.params.toList Rows.readyKeepsSpec.vars false W args.toList ds gs before) :
  Calls Try.prog 3 args W fun e W'=>∃ v,e=.returned v∧Rows.readyKeepsSpec.post enc Try.prog Try.f3 false true false false W args v W':=by
 have hW':=hW
 obtain ⟨p,q,hA0,hV,rfl,hfz,hnd⟩:=hW
 have hA:DataW.TrodAll enc Try.prog W 0 (fun _=>true) true Try.f3.params.toList args.toList ds p:=hA0
 rw [Try.params3] at hA hval
 obtain ⟨v0,vs0,d0,ds0,p0,q0,hargs0,rfl,rfl,h0,r0⟩:=trodAll_cons hA
 obtain ⟨v1,vs1,d1,ds1,p1,q1,rfl,rfl,rfl,h1,r1⟩:=trodAll_cons r0
 obtain ⟨v2,vs2,d2,ds2,p2,q2,rfl,rfl,rfl,h2,r2⟩:=trodAll_cons r1
 obtain ⟨v3,vs3,d3,ds3,p3,q3,rfl,rfl,rfl,h3,r3⟩:=trodAll_cons r2
 obtain ⟨v4,vs4,d4,ds4,p4,q4,rfl,rfl,rfl,h4,r4⟩:=trodAll_cons r3
 obtain ⟨rfl,rfl,rfl⟩:=trodAll_nil r4
 obtain rfl:args = #[v0,v1,v2,v3,v4]:=by cases args; simp_all
 obtain ⟨c,rfl⟩:=open_config (hval 0 _ v0 rfl rfl) h0
 obtain ⟨p,rfl,rfl,rfl,wp⟩:=open_int Try.underlying3 (hval 1 _ v1 rfl rfl) h1
 obtain ⟨dem,rfl,rfl,rfl⟩:=open_bool Try.underlying4 (hval 2 _ v2 rfl rfl) h2
 obtain ⟨bs,hs,hz⟩:=open_bytes (hval 3 _ v3 rfl rfl) h3
 obtain ⟨zs,hl,hzb⟩:=open_bytes (hval 4 _ v4 rfl rfl) h4
 refine (readyKeeps_walk ⟨W,v4,zs,hl,hzb,v3,bs,hs,hz,c,p⟩ dem).mono fun x W' ⟨he,hb⟩=>?_
 subst he
 exact ⟨_,rfl,law_post laidOut hW' rfl (by kernel_rfl) Try.underlying4 rfl (by
  rw [Try.params3]
  intro t ht
  simp only [List.mem_cons,List.not_mem_nil,or_false] at ht
  rcases ht with rfl | rfl | rfl | rfl | rfl <;> exact ⟨by kernel_rfl,of_decide_eq_true (by kernel_rfl)⟩) hb⟩
set_option maxRecDepth 100000 in
theorem readyKeeps_lifted (os:Os) (started:os.Started) (H:Type) (enc:TypeId×Value→H) :
  ReturnsInHanded {} Try.checked os 3 .any (Rows.readyKeepsSpec.pre6 enc Try.prog Try.f3 Rows.readyKeepsRow.domain false) (Rows.readyKeepsSpec.post enc Try.prog Try.f3 false true false false):=by
 refine returnsInHanded_of_change (C:=Try.checked) own started (by kernel_rfl) Try.func3
  (ChangeSpec.witness6 (enc:=enc) (C:=Try.checked) false ⟨#[],#[.agg #[.int .i64 0,.int .i64 0,.int .i64 0,.int .i64 0,.int .i64 0,.int .i64 0],.int .i64 0,.bool false,.slice none 0 0,.slice none 0 0],[]⟩ 8 (by kernel_rfl) (by kernel_rfl) (by kernel_rfl) (by kernel_rfl)) ?_
 intro W base args ds gs before hval hW _ _
 exact readyKeeps_contract H enc W base args ds gs before hval hW
theorem readyKeeps_holds:Rows.ReadyKeepsSaid :=
 OpenClaim.holds_of_wide 3 Try.f3 rfl rfl rfl rfl rfl rfl rfl ⟨rfl,rfl,rfl,rfl,rfl⟩ rfl rfl rfl rfl rfl (by kernel_rfl) Try.func3 (by kernel_rfl)
  (of_decide_eq_true (by kernel_rfl)) (by unfold Func.isWrapper; first | (rw [if_pos (by decide +kernel)]; kernel_rfl) | (rw [if_neg (by decide +kernel)]; exact ⟨rfl,rfl⟩))
  (fun os started H enc _=>readyKeeps_lifted os started H enc)
end Go.Proofs.Ytbcnbofkgkheeaa
