/- Part of a proof: see the last text. -/
import Derived.Test.YtbcnbofkgkheeaaGreatZn27
import Derived.Test.YtbcnbofkgkheeaaGreatZn21
import Derived.Test.YtbcnbofkgkheeaaGreatZn22
import Derived.Test.YtbcnbofkgkheeaaGreatZn19
import Derived.Test.YtbcnbofkgkheeaaGreatZn15
import Derived.Test.YtbcnbofkgkheeaaGreatZn16
set_option linter.unusedSimpArgs false
set_option linter.unusedVariables false
namespace Go.Proofs.YtbcnbofkgkheeaaGreat
open Go.Ev Go.Proofs.Tryz
open Go.RowKit
open Go.Ev (sy)
set_option maxRecDepth 8000
def dW(c:aT)(p:Nat)(o:Option cU)(i:Nat):Int :=
 match o with
 | none=>0
 | some x=>if 0<=x.gg then (match i with | 12=>c.n | 13=>c.q | 14=>c.g | 15=>c.m | 16=>c.t | 17=>c.s | 18=>p | 19=>x.gg | 20=>x.st | _=>x.w) else 0
def du(c:aT)(p:Nat)(k:aI)(i:Nat):Int :=
 match i with | 0=>c.n | 1=>c.q | 2=>c.g | 3=>c.m | 4=>c.t | 5=>c.s | 6=>p | 7=>k.gg | 9=>k.st | 10=>k.was | i=>dW c p k.put i
def XS.yi(x:XS)(i:Nat):Int:=match x.live with | some (c,p,k)=>du c p k i | none=>0
def XS.dm(x:XS):Bool:=match x.live with | some (_,_,k)=>k.aJ | none=>false
def XS.ts(x:XS):List Int:=match x.live with | some (_,_,k)=>(match k.put with | some y=>y.ts | none=>[]) | none=>[]
def XS.hs(x:XS):List Int:=match x.live with | some (_,_,k)=>(match k.put with | some y=>y.hs | none=>[]) | none=>[]
def yV(x:XS)(tk hd:Value):Array Value:=#[.int .i64 (x.yi 0),.int .i64 (x.yi 1),.int .i64 (x.yi 2),.int .i64 (x.yi 3),.int .i64 (x.yi 4),.int .i64 (x.yi 5),.int .i64 (x.yi 6),.int .i64 (x.yi 7),.bool x.dm,.int .i64 (x.yi 9),.int .u64 (x.yi 10),.bool x.aA,.int .i64 (x.yi 12),.int .i64 (x.yi 13),.int .i64 (x.yi 14),.int .i64 (x.yi 15),.int .i64 (x.yi 16),.int .i64 (x.yi 17),.int .i64 (x.yi 18),.int .i64 (x.yi 19),.int .i64 (x.yi 20),.int .u64 (x.yi 21),tk,hd]
theorem DK{c:aT}{p:Nat}{x:cU}{m:aG} : (af c p x m).1.gg=x.gg:=by
 unfold af
 split
 ·rfl
 ·rfl
 ·split<;>rfl
 ·rfl
 ·split<;>rfl
 ·rfl
section
variable{w:World}{F:Nat->Prop}
theorem QK{x:XS}{m:aG}(hx:x.Ok m)(hm:ip m){rv tk hd:Value}(h:bI [cA rv m,aw tk x.ts,aw hd x.hs] F w) :
  Calls prog 39 #[.agg (yV x tk hd),.agg #[rv,.int .u64 m.ops]] w λe w'=>∃ v cd,Ev.dec cd=v/\e=.returned (.tuple #[.agg (yV (x.step m).1 (am 1 v) (am 2 v)),.agg #[am 0 v,.int .u64 (x.step m).2.ops]])/\ah ⟨w,F⟩ [cA (am 0 v) (x.step m).2,aw (am 1 v) (x.step m).1.ts,aw (am 2 v) (x.step m).1.hs] w':=by
 have hst:=ah.start h;have lrv:ai rv=true:=aN hst;have cx:ai tk=true:=aN (hst.sel [1]);have cQ:ai hd=true:=aN (hst.sel [2]);have hb:=hm.len;have fin:∀ {x':XS} {m':aG} {rv' tk' hd':Value} {r:Value} {w1:World},r=.tuple #[.agg (yV x' tk' hd'),.agg #[rv',.int .u64 m'.ops]]->ah ⟨w,F⟩ [cA rv' m',aw tk' x'.ts,aw hd' x'.hs] w1->∃ v cd,Ev.dec cd=v/\Ending.returned r=.returned (.tuple #[.agg (yV x' (am 1 v) (am 2 v)),.agg #[am 0 v,.int .u64 m'.ops]])/\ah ⟨w,F⟩ [cA (am 0 v) m',aw (am 1 v) x'.ts,aw (am 2 v) x'.hs] w1:=by
  intro x' m' rv' tk' hd' r w1 hr hh;obtain⟨v,cd,e,e0,e1,e2⟩:=SQ hh;refine⟨v,cd,e,by rw[hr,e0,e1,e2],?_⟩;rw[e0,e1,e2];exact hh
 have vD:∀ (a:Nat) (v:Int),(m.put a v).cells.length=m.cells.length:=λa v=>by show(m.cells.set a v).length=_;simp
 obtain⟨xd,live⟩:=x;cases live with
 | none =>
  let s:RD:=⟨w,F,rv,tk,hd,lrv,cx,cQ,m,[],[]⟩
  exact aB (yX s) (by kernel_rfl) h (by simp) (by simp[s,yV,XS.yi,XS.dm,XS.aA]) (λκ w1 h1=>fin (x':=⟨xd,none⟩) (m':=m) (by rfl) h1)
 | some y =>
  obtain⟨c,p,k⟩:=y;obtain⟨h1,hp,hk,hmc⟩:=hx;have hw:=hmc.get (hmc.lt_next hp);have hl:=hmc.len;have XT:=hk.gg;have Ve:=hk.was;have Vf:=hk.st;have SR:=hk.Np;have hp3:=hk.p3;have hput:=hk.put;obtain⟨aJ,gg,st,was,put⟩:=k
  let s:RK:=⟨w,F,c,p,hp,gg,was,Ve,rv,tk,hd,lrv,cx,cQ,m,XS.ts ⟨xd,some (c,p,⟨aJ,gg,st,was,put⟩)⟩,XS.hs ⟨xd,some (c,p,⟨aJ,gg,st,was,put⟩)⟩,hl,by omega,dW c p put 12,dW c p put 13,dW c p put 14,dW c p put 15,dW c p put 16,dW c p put 17,dW c p put 18,dW c p put 19,dW c p put 20,dW c p put 21⟩
  match st,Vf with
  | 0,_ =>
   show Calls _ _ _ _ (λe w'=>∃ v cd,Ev.dec cd=v/\e=.returned (.tuple #[.agg (yV ⟨xd,some (c,p,(ae c p ⟨aJ,gg,0,was,put⟩ m).1)⟩ (am 1 v) (am 2 v)),.agg #[am 0 v,.int .u64 (ae c p ⟨aJ,gg,0,was,put⟩ m).2.ops]])/\ah ⟨w,F⟩ [cA (am 0 v) (ae c p ⟨aJ,gg,0,was,put⟩ m).2,aw (am 1 v) (XS.ts ⟨xd,some (c,p,(ae c p ⟨aJ,gg,0,was,put⟩ m).1)⟩),aw (am 2 v) (XS.hs ⟨xd,some (c,p,(ae c p ⟨aJ,gg,0,was,put⟩ m).1)⟩)] w');rw[j_ rfl];cases aJ with
   | true =>
    cases put with
    | none=>exact aB (U1 s) (by kernel_rfl) h (by simp) (by simp[s,yV,XS.yi,XS.dm,XS.aA,du,dW]) (λκ w1 h1=>fin (x':=⟨xd,some (c,p,⟨true,gg,0,was,none⟩)⟩) (m':=m) (by rfl) h1)
    | some y=>exact aB (U0 s) (by kernel_rfl) h (by simp) (by simp[s,yV,XS.yi,XS.dm,XS.aA,du,dW]) (λκ w1 h1=>fin (x':=⟨xd,some (c,p,⟨true,gg,0,was,some y⟩)⟩) (m':=m) (by rfl) h1)
   | false =>
    cases put with
    | none=>exact aB (U3 s) (by kernel_rfl) h (by simp) (by simp[s,yV,XS.yi,XS.dm,XS.aA,du,dW]) (λκ w1 h1=>fin (x':=⟨xd,some (c,p,⟨false,gg,0,was,none⟩)⟩) (m':=m) (by rfl) h1)
    | some y=>exact aB (U2 s) (by kernel_rfl) h (by simp) (by simp[s,yV,XS.yi,XS.dm,XS.aA,du,dW]) (λκ w1 h1=>fin (x':=⟨xd,some (c,p,⟨false,gg,0,was,some y⟩)⟩) (m':=m) (by rfl) h1)
  | 1,_ =>
   have e:put=none:=SR (.inl rfl);subst e;cases aJ with
   | true =>
    by_cases hz:ld m (c.word p+1)=0
    ·
     show Calls _ _ _ _ (λe w'=>∃ v cd,Ev.dec cd=v/\e=.returned (.tuple #[.agg (yV ⟨xd,some (c,p,(ae c p ⟨true,gg,1,was,none⟩ m).1)⟩ (am 1 v) (am 2 v)),.agg #[am 0 v,.int .u64 (ae c p ⟨true,gg,1,was,none⟩ m).2.ops]])/\ah ⟨w,F⟩ [cA (am 0 v) (ae c p ⟨true,gg,1,was,none⟩ m).2,aw (am 1 v) (XS.ts ⟨xd,some (c,p,(ae c p ⟨true,gg,1,was,none⟩ m).1)⟩),aw (am 2 v) (XS.hs ⟨xd,some (c,p,(ae c p ⟨true,gg,1,was,none⟩ m).1)⟩)] w');rw[show ae c p ⟨true,gg,1,was,none⟩ m=(⟨true,gg,0,ld m (c.word p+1),none⟩,m.tick) by simp[ae,hz]];refine aB (U4 s _ hw.2 hw.1 hz) (by kernel_rfl) h (by simp) (by simp[s,yV,XS.yi,XS.dm,XS.aA,du,dW]) (λκ w1 h1=>fin (x':=⟨xd,some (c,p,⟨true,gg,0,ld m (c.word p+1),none⟩)⟩) (m':=m.tick) (by first | rfl | (simp only[yV,XS.yi,XS.dm,XS.aA,du,dW];rfl)) ?_);exact h1
    ·
     show Calls _ _ _ _ (λe w'=>∃ v cd,Ev.dec cd=v/\e=.returned (.tuple #[.agg (yV ⟨xd,some (c,p,(ae c p ⟨true,gg,1,was,none⟩ m).1)⟩ (am 1 v) (am 2 v)),.agg #[am 0 v,.int .u64 (ae c p ⟨true,gg,1,was,none⟩ m).2.ops]])/\ah ⟨w,F⟩ [cA (am 0 v) (ae c p ⟨true,gg,1,was,none⟩ m).2,aw (am 1 v) (XS.ts ⟨xd,some (c,p,(ae c p ⟨true,gg,1,was,none⟩ m).1)⟩),aw (am 2 v) (XS.hs ⟨xd,some (c,p,(ae c p ⟨true,gg,1,was,none⟩ m).1)⟩)] w');rw[show ae c p ⟨true,gg,1,was,none⟩ m=(⟨true,gg,2,ld m (c.word p+1),none⟩,m.tick) by simp only[ae];rw[if_neg (λh=>hz h.2)]];refine aB (U5 s _ hw.2 hw.1 hz) (by kernel_rfl) h (by simp) (by simp[s,yV,XS.yi,XS.dm,XS.aA,du,dW]) (λκ w1 h1=>fin (x':=⟨xd,some (c,p,⟨true,gg,2,ld m (c.word p+1),none⟩)⟩) (m':=m.tick) (by first | rfl | (simp only[yV,XS.yi,XS.dm,XS.aA,du,dW];rfl)) ?_);exact h1
   | false =>
    show Calls _ _ _ _ (λe w'=>∃ v cd,Ev.dec cd=v/\e=.returned (.tuple #[.agg (yV ⟨xd,some (c,p,(ae c p ⟨false,gg,1,was,none⟩ m).1)⟩ (am 1 v) (am 2 v)),.agg #[am 0 v,.int .u64 (ae c p ⟨false,gg,1,was,none⟩ m).2.ops]])/\ah ⟨w,F⟩ [cA (am 0 v) (ae c p ⟨false,gg,1,was,none⟩ m).2,aw (am 1 v) (XS.ts ⟨xd,some (c,p,(ae c p ⟨false,gg,1,was,none⟩ m).1)⟩),aw (am 2 v) (XS.hs ⟨xd,some (c,p,(ae c p ⟨false,gg,1,was,none⟩ m).1)⟩)] w');rw[show ae c p ⟨false,gg,1,was,none⟩ m=(⟨false,gg,2,ld m (c.word p+1),none⟩,m.tick) by simp only[ae];rw[if_neg (λh=>by cases h.1)]];refine aB (XR s _ hw.2 hw.1) (by kernel_rfl) h (by simp) (by simp[s,yV,XS.yi,XS.dm,XS.aA,du,dW]) (λκ w1 h1=>fin (x':=⟨xd,some (c,p,⟨false,gg,2,ld m (c.word p+1),none⟩)⟩) (m':=m.tick) (by first | rfl | (simp only[yV,XS.yi,XS.dm,XS.aA,du,dW];rfl)) ?_);exact h1
  | 2,_ =>
   have e:put=none:=SR (.inr rfl);subst e;cases aJ with
   | true =>
    by_cases hz:was=0
    ·have hz2:¬ was≠0:=λh=>h hz
     show Calls _ _ _ _ (λe w'=>∃ v cd,Ev.dec cd=v/\e=.returned (.tuple #[.agg (yV ⟨xd,some (c,p,(ae c p ⟨true,gg,2,was,none⟩ m).1)⟩ (am 1 v) (am 2 v)),.agg #[am 0 v,.int .u64 (ae c p ⟨true,gg,2,was,none⟩ m).2.ops]])/\ah ⟨w,F⟩ [cA (am 0 v) (ae c p ⟨true,gg,2,was,none⟩ m).2,aw (am 1 v) (XS.ts ⟨xd,some (c,p,(ae c p ⟨true,gg,2,was,none⟩ m).1)⟩),aw (am 2 v) (XS.hs ⟨xd,some (c,p,(ae c p ⟨true,gg,2,was,none⟩ m).1)⟩)] w');rw[show ae c p ⟨true,gg,2,was,none⟩ m=(⟨true,gg,0,was,none⟩,m.put (c.word p+1) (aI.nx ⟨true,gg,2,was,none⟩)) by simp only[ae];rw[if_pos hz]];refine aB (U6 s hz2) (by kernel_rfl) h (by simp) (by simp[s,yV,XS.yi,XS.dm,XS.aA,du,dW]) (λκ w1 h1=>fin (x':=⟨xd,some (c,p,⟨true,gg,0,was,none⟩)⟩) (m':=m.put (c.word p+1) (aI.nx ⟨true,gg,2,was,none⟩)) (by first | rfl | (simp only[yV,XS.yi,XS.dm,XS.aA,du,dW];rfl)) ?_);show ah _ [aD _ 1 _ (m.put _ _).cells.length _,_,_] _;rw[vD];exact h1
    ·by_cases hg:0<=IntKind.i64.wrap (was-1)
     ·
      show Calls _ _ _ _ (λe w'=>∃ v cd,Ev.dec cd=v/\e=.returned (.tuple #[.agg (yV ⟨xd,some (c,p,(ae c p ⟨true,gg,2,was,none⟩ m).1)⟩ (am 1 v) (am 2 v)),.agg #[am 0 v,.int .u64 (ae c p ⟨true,gg,2,was,none⟩ m).2.ops]])/\ah ⟨w,F⟩ [cA (am 0 v) (ae c p ⟨true,gg,2,was,none⟩ m).2,aw (am 1 v) (XS.ts ⟨xd,some (c,p,(ae c p ⟨true,gg,2,was,none⟩ m).1)⟩),aw (am 2 v) (XS.hs ⟨xd,some (c,p,(ae c p ⟨true,gg,2,was,none⟩ m).1)⟩)] w');rw[show ae c p ⟨true,gg,2,was,none⟩ m=(⟨true,gg,3,was,some ⟨1,IntKind.i64.wrap (was-1),0,[],[IntKind.i64.wrap (was-1)]⟩⟩,m.put (c.word p+1) (aI.nx ⟨true,gg,2,was,none⟩)) by simp only[ae];rw[if_neg hz,if_pos hg]];refine aB (U7 s hz hg) (by kernel_rfl) h (by simp) (by simp[s,yV,XS.yi,XS.dm,XS.aA,du,dW,if_pos hg]) (λκ w1 h1=>fin (x':=⟨xd,some (c,p,⟨true,gg,3,was,some ⟨1,IntKind.i64.wrap (was-1),0,[],[IntKind.i64.wrap (was-1)]⟩⟩)⟩) (m':=m.put (c.word p+1) (aI.nx ⟨true,gg,2,was,none⟩)) (by first | rfl | (simp only[yV,XS.yi,XS.dm,XS.aA,du,dW,if_pos hg];rfl)) ?_);show ah _ [aD _ 1 _ (m.put _ _).cells.length _,_,_] _;rw[vD];exact((jN (h1.sel [0,1])).cJ (e := 3) (sz:=1)).sel [2,0,1]
     ·
      show Calls _ _ _ _ (λe w'=>∃ v cd,Ev.dec cd=v/\e=.returned (.tuple #[.agg (yV ⟨xd,some (c,p,(ae c p ⟨true,gg,2,was,none⟩ m).1)⟩ (am 1 v) (am 2 v)),.agg #[am 0 v,.int .u64 (ae c p ⟨true,gg,2,was,none⟩ m).2.ops]])/\ah ⟨w,F⟩ [cA (am 0 v) (ae c p ⟨true,gg,2,was,none⟩ m).2,aw (am 1 v) (XS.ts ⟨xd,some (c,p,(ae c p ⟨true,gg,2,was,none⟩ m).1)⟩),aw (am 2 v) (XS.hs ⟨xd,some (c,p,(ae c p ⟨true,gg,2,was,none⟩ m).1)⟩)] w');rw[show ae c p ⟨true,gg,2,was,none⟩ m=(⟨true,gg,0,was,some ⟨0,IntKind.i64.wrap (was-1),0,[],[]⟩⟩,m.put (c.word p+1) (aI.nx ⟨true,gg,2,was,none⟩)) by simp only[ae];rw[if_neg hz,if_neg hg]];refine aB (U8 s hz hg) (by kernel_rfl) h (by simp) (by simp[s,yV,XS.yi,XS.dm,XS.aA,du,dW,if_neg hg]) (λκ w1 h1=>fin (x':=⟨xd,some (c,p,⟨true,gg,0,was,some ⟨0,IntKind.i64.wrap (was-1),0,[],[]⟩⟩)⟩) (m':=m.put (c.word p+1) (aI.nx ⟨true,gg,2,was,none⟩)) (by first | rfl | (simp only[yV,XS.yi,XS.dm,XS.aA,du,dW,if_neg hg];rfl)) ?_);show ah _ [aD _ 1 _ (m.put _ _).cells.length _,_,_] _;rw[vD];exact(((h1.sel [0]).cJ (e := 3) (sz:=1)).cJ (e := 3) (sz:=1)).sel [2,0,1]
   | false =>
    have hgg:0<=s.gg/\s.gg<=9223372036854775807:=XT rfl
    by_cases hz:was=0
    ·have hz2:¬ was≠0:=λh=>h hz
     show Calls _ _ _ _ (λe w'=>∃ v cd,Ev.dec cd=v/\e=.returned (.tuple #[.agg (yV ⟨xd,some (c,p,(ae c p ⟨false,gg,2,was,none⟩ m).1)⟩ (am 1 v) (am 2 v)),.agg #[am 0 v,.int .u64 (ae c p ⟨false,gg,2,was,none⟩ m).2.ops]])/\ah ⟨w,F⟩ [cA (am 0 v) (ae c p ⟨false,gg,2,was,none⟩ m).2,aw (am 1 v) (XS.ts ⟨xd,some (c,p,(ae c p ⟨false,gg,2,was,none⟩ m).1)⟩),aw (am 2 v) (XS.hs ⟨xd,some (c,p,(ae c p ⟨false,gg,2,was,none⟩ m).1)⟩)] w');rw[show ae c p ⟨false,gg,2,was,none⟩ m=(⟨false,gg,0,was,none⟩,m.put (c.word p+1) (aI.nx ⟨false,gg,2,was,none⟩)) by simp only[ae];rw[if_pos hz]];refine aB (U9 s hgg hz2) (by kernel_rfl) h (by simp) (by simp[s,yV,XS.yi,XS.dm,XS.aA,du,dW]) (λκ w1 h1=>fin (x':=⟨xd,some (c,p,⟨false,gg,0,was,none⟩)⟩) (m':=m.put (c.word p+1) (aI.nx ⟨false,gg,2,was,none⟩)) (by first | rfl | (simp only[yV,XS.yi,XS.dm,XS.aA,du,dW];rfl)) ?_);show ah _ [aD _ 1 _ (m.put _ _).cells.length _,_,_] _;rw[vD];exact h1
    ·by_cases hg:0<=IntKind.i64.wrap (was-1)
     ·
      show Calls _ _ _ _ (λe w'=>∃ v cd,Ev.dec cd=v/\e=.returned (.tuple #[.agg (yV ⟨xd,some (c,p,(ae c p ⟨false,gg,2,was,none⟩ m).1)⟩ (am 1 v) (am 2 v)),.agg #[am 0 v,.int .u64 (ae c p ⟨false,gg,2,was,none⟩ m).2.ops]])/\ah ⟨w,F⟩ [cA (am 0 v) (ae c p ⟨false,gg,2,was,none⟩ m).2,aw (am 1 v) (XS.ts ⟨xd,some (c,p,(ae c p ⟨false,gg,2,was,none⟩ m).1)⟩),aw (am 2 v) (XS.hs ⟨xd,some (c,p,(ae c p ⟨false,gg,2,was,none⟩ m).1)⟩)] w');rw[show ae c p ⟨false,gg,2,was,none⟩ m=(⟨false,gg,3,was,some ⟨1,IntKind.i64.wrap (was-1),0,[],[IntKind.i64.wrap (was-1)]⟩⟩,m.put (c.word p+1) (aI.nx ⟨false,gg,2,was,none⟩)) by simp only[ae];rw[if_neg hz,if_pos hg]];refine aB (U_ s hgg hz hg) (by kernel_rfl) h (by simp) (by simp[s,yV,XS.yi,XS.dm,XS.aA,du,dW,if_pos hg]) (λκ w1 h1=>fin (x':=⟨xd,some (c,p,⟨false,gg,3,was,some ⟨1,IntKind.i64.wrap (was-1),0,[],[IntKind.i64.wrap (was-1)]⟩⟩)⟩) (m':=m.put (c.word p+1) (aI.nx ⟨false,gg,2,was,none⟩)) (by first | rfl | (simp only[yV,XS.yi,XS.dm,XS.aA,du,dW,if_pos hg];rfl)) ?_);show ah _ [aD _ 1 _ (m.put _ _).cells.length _,_,_] _;rw[vD];exact((jN (h1.sel [0,1])).cJ (e := 3) (sz:=1)).sel [2,0,1]
     ·
      show Calls _ _ _ _ (λe w'=>∃ v cd,Ev.dec cd=v/\e=.returned (.tuple #[.agg (yV ⟨xd,some (c,p,(ae c p ⟨false,gg,2,was,none⟩ m).1)⟩ (am 1 v) (am 2 v)),.agg #[am 0 v,.int .u64 (ae c p ⟨false,gg,2,was,none⟩ m).2.ops]])/\ah ⟨w,F⟩ [cA (am 0 v) (ae c p ⟨false,gg,2,was,none⟩ m).2,aw (am 1 v) (XS.ts ⟨xd,some (c,p,(ae c p ⟨false,gg,2,was,none⟩ m).1)⟩),aw (am 2 v) (XS.hs ⟨xd,some (c,p,(ae c p ⟨false,gg,2,was,none⟩ m).1)⟩)] w');rw[show ae c p ⟨false,gg,2,was,none⟩ m=(⟨false,gg,0,was,some ⟨0,IntKind.i64.wrap (was-1),0,[],[]⟩⟩,m.put (c.word p+1) (aI.nx ⟨false,gg,2,was,none⟩)) by simp only[ae];rw[if_neg hz,if_neg hg]];refine aB (U' s hgg hz hg) (by kernel_rfl) h (by simp) (by simp[s,yV,XS.yi,XS.dm,XS.aA,du,dW,if_neg hg]) (λκ w1 h1=>fin (x':=⟨xd,some (c,p,⟨false,gg,0,was,some ⟨0,IntKind.i64.wrap (was-1),0,[],[]⟩⟩)⟩) (m':=m.put (c.word p+1) (aI.nx ⟨false,gg,2,was,none⟩)) (by first | rfl | (simp only[yV,XS.yi,XS.dm,XS.aA,du,dW,if_neg hg];rfl)) ?_);show ah _ [aD _ 1 _ (m.put _ _).cells.length _,_,_] _;rw[vD];exact(((h1.sel [0]).cJ (e := 3) (sz:=1)).cJ (e := 3) (sz:=1)).sel [2,0,1]
  | 3,_ =>
   obtain⟨y,e,hy0⟩:=hp3 rfl;have e':put=some y:=e;subst e';have hy:=hput y rfl;have hyg:=(hy.gg hy0).1;have BL:0<=(af c p y m).1.gg:=by rw[DK];exact hyg
   cases aJ with
   | true =>
    by_cases hz:(af c p y m).1.st=0
    ·have hz2:((((af c p y m).1.st:Nat):Int)=0):=by omega
     show Calls _ _ _ _ (λe w'=>∃ v cd,Ev.dec cd=v/\e=.returned (.tuple #[.agg (yV ⟨xd,some (c,p,(ae c p ⟨true,gg,3,was,some y⟩ m).1)⟩ (am 1 v) (am 2 v)),.agg #[am 0 v,.int .u64 (ae c p ⟨true,gg,3,was,some y⟩ m).2.ops]])/\ah ⟨w,F⟩ [cA (am 0 v) (ae c p ⟨true,gg,3,was,some y⟩ m).2,aw (am 1 v) (XS.ts ⟨xd,some (c,p,(ae c p ⟨true,gg,3,was,some y⟩ m).1)⟩),aw (am 2 v) (XS.hs ⟨xd,some (c,p,(ae c p ⟨true,gg,3,was,some y⟩ m).1)⟩)] w');rw[show ae c p ⟨true,gg,3,was,some y⟩ m=(⟨true,gg,0,was,some (af c p y m).1⟩,(af c p y m).2) by simp only[ae];rw[if_pos hz]];refine aB (Va s y hy hy0 hmc hz2) (by kernel_rfl) h (by simp) (by simp[s,yV,XS.yi,XS.dm,XS.aA,du,dW,if_pos hyg,if_pos BL]) (λκ w1 h1=>fin (x':=⟨xd,some (c,p,⟨true,gg,0,was,some (af c p y m).1⟩)⟩) (m':=(af c p y m).2) (by first | rfl | (simp only[yV,XS.yi,XS.dm,XS.aA,du,dW,if_pos hyg,if_pos BL];rfl)) ?_);exact h1
    ·have hz2:¬ ((((af c p y m).1.st:Nat):Int)=0):=by omega
     show Calls _ _ _ _ (λe w'=>∃ v cd,Ev.dec cd=v/\e=.returned (.tuple #[.agg (yV ⟨xd,some (c,p,(ae c p ⟨true,gg,3,was,some y⟩ m).1)⟩ (am 1 v) (am 2 v)),.agg #[am 0 v,.int .u64 (ae c p ⟨true,gg,3,was,some y⟩ m).2.ops]])/\ah ⟨w,F⟩ [cA (am 0 v) (ae c p ⟨true,gg,3,was,some y⟩ m).2,aw (am 1 v) (XS.ts ⟨xd,some (c,p,(ae c p ⟨true,gg,3,was,some y⟩ m).1)⟩),aw (am 2 v) (XS.hs ⟨xd,some (c,p,(ae c p ⟨true,gg,3,was,some y⟩ m).1)⟩)] w');rw[show ae c p ⟨true,gg,3,was,some y⟩ m=(⟨true,gg,3,was,some (af c p y m).1⟩,(af c p y m).2) by simp only[ae];rw[if_neg hz]];refine aB (Vb s y hy hy0 hmc hz2) (by kernel_rfl) h (by simp) (by simp[s,yV,XS.yi,XS.dm,XS.aA,du,dW,if_pos hyg,if_pos BL]) (λκ w1 h1=>fin (x':=⟨xd,some (c,p,⟨true,gg,3,was,some (af c p y m).1⟩)⟩) (m':=(af c p y m).2) (by first | rfl | (simp only[yV,XS.yi,XS.dm,XS.aA,du,dW,if_pos hyg,if_pos BL];rfl)) ?_);exact h1
   | false =>
    by_cases hz:(af c p y m).1.st=0
    ·have hz2:((((af c p y m).1.st:Nat):Int)=0):=by omega
     show Calls _ _ _ _ (λe w'=>∃ v cd,Ev.dec cd=v/\e=.returned (.tuple #[.agg (yV ⟨xd,some (c,p,(ae c p ⟨false,gg,3,was,some y⟩ m).1)⟩ (am 1 v) (am 2 v)),.agg #[am 0 v,.int .u64 (ae c p ⟨false,gg,3,was,some y⟩ m).2.ops]])/\ah ⟨w,F⟩ [cA (am 0 v) (ae c p ⟨false,gg,3,was,some y⟩ m).2,aw (am 1 v) (XS.ts ⟨xd,some (c,p,(ae c p ⟨false,gg,3,was,some y⟩ m).1)⟩),aw (am 2 v) (XS.hs ⟨xd,some (c,p,(ae c p ⟨false,gg,3,was,some y⟩ m).1)⟩)] w');rw[show ae c p ⟨false,gg,3,was,some y⟩ m=(⟨false,gg,0,was,some (af c p y m).1⟩,(af c p y m).2) by simp only[ae];rw[if_pos hz]];refine aB (Vc s y hy hy0 hmc hz2) (by kernel_rfl) h (by simp) (by simp[s,yV,XS.yi,XS.dm,XS.aA,du,dW,if_pos hyg,if_pos BL]) (λκ w1 h1=>fin (x':=⟨xd,some (c,p,⟨false,gg,0,was,some (af c p y m).1⟩)⟩) (m':=(af c p y m).2) (by first | rfl | (simp only[yV,XS.yi,XS.dm,XS.aA,du,dW,if_pos hyg,if_pos BL];rfl)) ?_);exact h1
    ·have hz2:¬ ((((af c p y m).1.st:Nat):Int)=0):=by omega
     show Calls _ _ _ _ (λe w'=>∃ v cd,Ev.dec cd=v/\e=.returned (.tuple #[.agg (yV ⟨xd,some (c,p,(ae c p ⟨false,gg,3,was,some y⟩ m).1)⟩ (am 1 v) (am 2 v)),.agg #[am 0 v,.int .u64 (ae c p ⟨false,gg,3,was,some y⟩ m).2.ops]])/\ah ⟨w,F⟩ [cA (am 0 v) (ae c p ⟨false,gg,3,was,some y⟩ m).2,aw (am 1 v) (XS.ts ⟨xd,some (c,p,(ae c p ⟨false,gg,3,was,some y⟩ m).1)⟩),aw (am 2 v) (XS.hs ⟨xd,some (c,p,(ae c p ⟨false,gg,3,was,some y⟩ m).1)⟩)] w');rw[show ae c p ⟨false,gg,3,was,some y⟩ m=(⟨false,gg,3,was,some (af c p y m).1⟩,(af c p y m).2) by simp only[ae];rw[if_neg hz]];refine aB (Vd s y hy hy0 hmc hz2) (by kernel_rfl) h (by simp) (by simp[s,yV,XS.yi,XS.dm,XS.aA,du,dW,if_pos hyg,if_pos BL]) (λκ w1 h1=>fin (x':=⟨xd,some (c,p,⟨false,gg,3,was,some (af c p y m).1⟩)⟩) (m':=(af c p y m).2) (by first | rfl | (simp only[yV,XS.yi,XS.dm,XS.aA,du,dW,if_pos hyg,if_pos BL];rfl)) ?_);exact h1
end
structure bu where
 on:Bool
 at':Int
 v:Int
def bu.cells(k:bu):List Value:=[.bool k.on,.int .i64 k.at',.int .u64 k.v]
theorem nr(ps:List bu){j i:Nat}{k:bu}(h:ps[j]? = some k)(hi:i<3):(ps.flatMap bu.cells)[j*3+i]? = k.cells[i]?:=by
 induction ps generalizing j with
 | nil=>cases h
 | cons q ps ih =>
  rw[List.flatMap_cons]
  match j with
  | 0 =>
   cases h;rw[List.getElem?_append_left (by simp[bu.cells];omega)];simp
  | j+1 =>
   have hq:q.cells.length=3:=rfl;rw[List.getElem?_append_right (by rw[hq];omega),hq,show(j+1)*3+i-3=j*3+i by omega];exact ih h
theorem uy:lj prog 4:=by
 intro b o x w h;simp[Instr.loadAt,Instr.sureAddr,loadVar,isAgg,run_underlying underlying4,h]
theorem sg:∃ i,prog.info? 32 = some i/\i.size=3/\True/\True:=by
 have h:(prog.info? 32).map (λi=>i.size)=some 3:=by kernel_rfl
 cases hi:prog.info? 32 with
 | none=>rw[hi]at h;cases h
 | some i =>
  rw[hi]at h;exact⟨i,rfl,by simpa using h,trivial,trivial⟩
theorem Fh:∃ i,prog.info? 4 = some i/\i.size=1/\i.zero=some (.bool false)/\i.bytes=1:=tY (by kernel_rfl)
theorem yQ(b o:Nat)(w:World):(Instr.fieldAt 32 (.pointer (some ⟨b,o,none⟩)) 0).run prog w=.ok (.pointer (some ⟨b,o+0,none⟩)) w:=by
 simp[Instr.fieldAt,run_underlying underlying32,Instr.sureAddr,fieldPlace,iF]
theorem K4(b o:Nat)(w:World):(Instr.fieldAt 32 (.pointer (some ⟨b,o,none⟩)) 1).run prog w=.ok (.pointer (some ⟨b,o+1,none⟩)) w:=by
 obtain⟨i,i1,i2,_⟩:=Fh;obtain⟨j,j1,j2,_⟩:=b0;simp[Instr.fieldAt,run_underlying underlying32,Instr.sureAddr,fieldPlace,sizeOf,typeInfo,i1,i2,j1,j2,iF]
theorem K5(b o:Nat)(w:World):(Instr.fieldAt 32 (.pointer (some ⟨b,o,none⟩)) 2).run prog w=.ok (.pointer (some ⟨b,o+2,none⟩)) w:=by
 obtain⟨i,i1,i2,_⟩:=Fh;obtain⟨j,j1,j2,_⟩:=b0;obtain⟨k,k1,k2,_⟩:=cK;simp[Instr.fieldAt,run_underlying underlying32,Instr.sureAddr,fieldPlace,sizeOf,typeInfo,i1,i2,j1,j2,k1,k2,iF]
theorem XS.fv{x:XS}{m:aG}(h:x.Ok m):x.hs.length<=64:=by
 obtain⟨xd,live⟩:=x;cases live with
 | none=>exact Nat.zero_le _
 | some y =>
  obtain⟨c,p,k⟩:=y;obtain⟨aJ,gg,st,was,put⟩:=k;cases put with
  | none=>exact Nat.zero_le _
  | some z=>exact(h.2.2.1.put z rfl).hs
theorem XS.O2(x:XS):x.yi 9=((x.st:Nat):Int):=by
 obtain⟨xd,live⟩:=x;cases live with
 | none=>rfl
 | some y=>rfl
theorem XS.hZ{x:XS}{m:aG}(h:x.Ok m)(h0:x.yi 20=0):x.over=x.hs:=by
 obtain⟨xd,live⟩:=x;cases live with
 | none=>rfl
 | some y =>
  obtain⟨c,p,k⟩:=y;obtain⟨aJ,gg,st,was,put⟩:=k;cases put with
  | none=>rfl
  | some z =>
   have hz:=h.2.2.1.put z rfl;have e:z.st=0:=by
    refine Classical.byContradiction λhh=>?_
    have hg:=(hz.gg hh).1;replace h0:(if 0<=z.gg then ((z.st:Nat):Int) else 0)=0:=h0;rw[if_pos hg]at h0;omega
   show(if z.st=0 then z.hs else [])=z.hs;rw[if_pos e]
theorem XS.yR{x:XS}{m:aG}(h:x.Ok m)(h0:¬ x.yi 20=0):x.over=[]:=by
 obtain⟨xd,live⟩:=x;cases live with
 | none=>exact absurd rfl h0
 | some y =>
  obtain⟨c,p,k⟩:=y;obtain⟨aJ,gg,st,was,put⟩:=k;cases put with
  | none=>rfl
  | some z =>
   have e:z.st≠0:=by
    intro hh;refine h0 ?_;show(if 0<=z.gg then ((z.st:Nat):Int) else 0)=0;rw[hh]
    split<;>rfl
   show(if z.st=0 then z.hs else [])=[];rw[if_neg e]
theorem XS.gi{x:XS}(h:x.dm=true\/(x.yi 9≠1/\x.yi 9≠2)):x.hands=x.hs:=by
 obtain⟨xd,live⟩:=x;cases live with
 | none=>rfl
 | some y =>
  obtain⟨c,p,k⟩:=y;obtain⟨aJ,gg,st,was,put⟩:=k;show(if aJ=false/\(st=1\/st=2) then [gg] else aI.holds ⟨aJ,gg,st,was,put⟩)=_
  rw[if_neg (λhh=>by
   rcases h with h | h
   ·have h':aJ=true:=h
    rw[hh.1]at h';cases h'
   ·have h1:((st:Nat):Int)≠1:=h.1
    have h2:((st:Nat):Int)≠2:=h.2
    omega)]
  rfl
theorem XS.qW{x:XS}(h:x.dm=false)(h1:x.yi 9=1\/x.yi 9=2):x.hands=[x.yi 7]:=by
 obtain⟨xd,live⟩:=x;cases live with
 | none=>rcases h1 with h1 | h1<;>cases h1
 | some y =>
  obtain⟨c,p,k⟩:=y;obtain⟨aJ,gg,st,was,put⟩:=k;have hd:aJ=false:=h;have hs:((st:Nat):Int)=1\/((st:Nat):Int)=2:=h1;show(if aJ=false/\(st=1\/st=2) then [gg] else aI.holds ⟨aJ,gg,st,was,put⟩)=[gg];rw[if_pos ⟨hd,by omega⟩]
theorem Nz(c:aT)(p:Nat)(x:cU)(m:aG):(af c p x m).2.ops=m.ops\/(af c p x m).2.ops=IntKind.u64.wrap (m.ops+1):=by
 unfold af
 split
 ·exact .inr rfl
 ·exact .inr rfl
 ·split<;>exact .inr rfl
 ·exact .inr rfl
 ·split<;>exact .inr rfl
 ·exact .inl rfl
theorem K6(c:aT)(p:Nat)(k:aI)(m:aG):(ae c p k m).2.ops=m.ops\/(ae c p k m).2.ops=IntKind.u64.wrap (m.ops+1):=by
 unfold ae
 split
 ·exact .inr rfl
 ·split
  ·exact .inr rfl
  ·split<;>exact .inr rfl
 ·split
  ·exact Nz _ _ _ _
  ·exact .inl rfl
 ·exact .inl rfl
theorem XS.dK(x:XS){m:aG}(h:0<=m.ops/\m.ops<=100000):m.ops<=(x.step m).2.ops/\(x.step m).2.ops<=m.ops+1:=by
 obtain⟨xd,live⟩:=x;have e:IntKind.u64.wrap (m.ops+1)=m.ops+1:=uj (by omega) (by omega);cases live with
 | none=>show m.ops<=m.ops/\m.ops<=m.ops+1;omega
 | some y =>
  obtain⟨c,p,k⟩:=y;have h1:(XS.step ⟨xd,some (c,p,k)⟩ m).2.ops=m.ops\/(XS.step ⟨xd,some (c,p,k)⟩ m).2.ops=IntKind.u64.wrap (m.ops+1):=K6 c p k m;rcases h1 with h1 | h1<;>omega
section
variable{w:World}{F:Nat->Prop}
theorem eJ{bm:Nat}{m:aG}{rv:Value}(lr:ai rv=true)(hx:m.cells.length<=1000000)(h:bI [aj bm m,cA rv m] F w) :
  Calls prog 38 #[.pointer (some ⟨bm,0,none⟩),.agg #[rv,.int .u64 m.ops]] w λe w'=>e=.returned (.bool true)/\ah ⟨w,F⟩ [aj bm m,cA rv m] w' :=
 aB (sm w F bm m rv lr hx) (by kernel_rfl) h (by simp) (by simp) (λκ w1 h1=>⟨rfl,h1.sel [1,0]⟩)
theorem dN{a b:Value}{xs ys:List Int}(e:xs=ys)(hl:ys.length<=64)(h:bI [aw a xs,aw b ys] F w) :
  Calls prog 26 #[a,b] w λe w'=>e=.returned (.bool true)/\ah ⟨w,F⟩ [aw a xs,aw b ys] w':=by
 subst e;exact qF (aN (ah.start h)) (aN ((ah.start h).sel [1])) (by omega) h
theorem BM{a:Value}{xs:List Int}(e:xs=[])(h:bI [aw a xs] F w) :
  Calls prog 26 #[a,.slice none 0 0] w λe w'=>e=.returned (.bool true)/\ah ⟨w,F⟩ [aw a xs] w':=by
 subst e;obtain⟨F',n1,n2,n3⟩:=(((ah.start h).cJ (e := 3) (sz:=1)).sel [1,0]).ex;refine(qF (xs:=[]) (aN (ah.start n1)) rfl (Nat.zero_le _) n1).mono ?_;rintro e w' ⟨rfl,hh⟩;exact⟨rfl,(hh.into (l:=[]) n2 n3).sel [0]⟩
def Cf.cn(c:Cf):Nat:=if c.ok then (4+c.n*(6+c.q)).toNat else 0
def aT.cf(c:aT):Cf:=⟨c.n,c.q,c.g,c.m,c.t,c.s⟩
theorem O4(c:aT):c.cf.ok=true:=c.h
theorem SS(c:aT):c.cf.cn=4+c.off c.n:=by
 unfold Cf.cn;rw[if_pos (O4 c)];show(4+(c.n:Int)*(6+(c.q:Int))).toNat=4+c.n*(6+c.q);have e:(4+(c.n:Int)*(6+(c.q:Int)))=((4+c.n*(6+c.q):Nat):Int):=by simp
 rw[e];rfl
structure Fi(c:Cf)(us:List Int):Prop where
 len:us.length=c.cn
 le:us.length<=564
 u:∀ x ∈ us,c7 x
 good:∀ d:aT,c=d.cf->eD d us
abbrev vE(c:Cf)(v:Value):aC:=Me (Fi c) (λus=>aD 28 1 v us.length (aF us))
theorem uA(c:Cf){bv:Value}{bs:List Int}(hs:lT 1 bv bs.length (hJ bs) w)(hb:bs.length<=1000)(hz:∀ i,0<=bs.getD i 0/\bs.getD i 0<256)(h:bI [] F w) :
  Calls prog 20 #[c.v,bv] w λe w'=>∃ v cd,Ev.dec cd=v/\e=.returned v/\ah ⟨w,F⟩ [vE c v] w':=by
 cases hc:c.ok with
 | false =>
  refine(Gz c hc hs h).mono ?_;rintro e w' ⟨v,cd,e1,rfl,hh⟩;refine⟨v,cd,e1,rfl,ah.vu (a:=λus:List Int=>aD 28 1 v us.length (aF us)) [] ⟨by unfold Cf.cn;rw[hc];rfl,Nat.zero_le _,λx hx=>(by cases hx),λd e=>?_⟩ hh⟩;rw[e,O4]at hc;cases hc
 | true =>
  obtain⟨d,rfl⟩:=Cf.cfg hc;refine(wx d hs hb hz h).mono ?_;rintro e w' ⟨v,cd,us,hg,e1,rfl,hh⟩;refine⟨v,cd,e1,rfl,ah.vu (a:=λus:List Int=>aD 28 1 v us.length (aF us)) us ⟨?_,?_,hg.u,λd' e=>?_⟩ hh⟩
  ·exact hg.len.trans (SS d).symm
  ·have:=hg.len
   have:=d.gL;omega
  ·obtain⟨n,q,g,m,t,s,hd⟩:=d
   obtain⟨n',q',g',m',t',s',hd'⟩:=d';simp only[aT.cf,Cf.mk.injEq]at e;obtain⟨e1,e2,e3,e4,e5,e6⟩:=e;obtain rfl:n=n':=by omega
   obtain rfl:q=q':=by omega
   subst e3 e4 e5 e6;exact hg
abbrev vF(c:Cf)(v:Value):aC:=Me (Fi c) (λus=>b_ [nG (am 0 v) ⟨us,((c.cn:Nat):Int)⟩,aD 28 1 (am 1 v) us.length (aF us)])
theorem wF(c:Cf){cv:Value}(h:bI [vE c cv] F w) :
  Calls prog 19 #[cv] w λe w'=>∃ v cd,Ev.dec cd=v/\e=.returned (.tuple #[am 0 v,.agg #[am 1 v,.int .u64 ((c.cn:Nat):Int)]])/\ah ⟨w,F⟩ [vF c v] w':=by
 obtain⟨us,hg,hh⟩:=ah.vt (a:=λus:List Int=>aD 28 1 cv us.length (aF us)) (ah.start h);obtain⟨F',n1,n2,n3⟩:=hh.ex;have hle:=hg.le;refine(BD (aN hh) (by omega) n1).mono ?_;rintro e w' ⟨v,cd,e1,rfl,h1⟩;have hl:=hg.len;refine⟨v,cd,e1,by rw[hl],ah.vu (a:=λus:List Int=>b_ [nG (am 0 v) ⟨us,((c.cn:Nat):Int)⟩,aD 28 1 (am 1 v) us.length (aF us)]) us hg (ah.shut (m:=[]) ?_)⟩;rw[hl]at h1;have h2:=h1.into (l:=[]) n2 n3;rw[← hl]at h2 ⊢;exact h2
end
end Go.Proofs.YtbcnbofkgkheeaaGreat
namespace Go.Proofs.YtbcnbofkgkheeaaGreat
open Go.Ev Go.Proofs.Tryz
open Go.RowKit
open Go.Ev (sy iz uz wz iN uN wN pz dv fc fn ak vk vd kn pc cc cr cm cd fr)
set_option maxRecDepth 8000
attribute [local irreducible] dL
structure PL where
 W0:World
 F0:Nat->Prop
 lv:Value
 ps:List bu
 hl:lT 3 lv ps.length (ps.flatMap bu.cells) W0
 hoff:qA F0 lv
 hlen:ps.length<=60
 hv:∀ k ∈ ps,c7 k.v
 c:Cf
 bv:Value
 bs:List Int
 hs:lT 1 bv bs.length (hJ bs) W0
 O5:qA F0 bv
 hb:bs.length<=1000
 hz:∀ i,0<=bs.getD i 0/\bs.getD i 0<256
structure PQ where
 s:PL
 xv:Value
 dA:ai xv=true
 yb:Nat
 bm:Nat
 br:Nat
 n:Nat
 R:List aC
 j:Nat
 vh:Value
 DL:ai vh=true
 vo:Value
 DM:ai vo=true
 us:List Int
 Mf:us.length<=1000
 k0:Nat
 bx:Nat
 x:XS
 m:aG
 rv:Value
 lrv:ai rv=true
 tk:Value
 cx:ai tk=true
 hd:Value
 cQ:ai hd=true
 k:bu
theorem PQ.z(q:PQ):q.s.ps.length<=60/\q.us.length<=1000:=⟨q.s.hlen,q.Mf⟩
def yL(x:XS)(d k:Bool)(tk hd:Value):List Value:=[.int .i64 (x.yi 0),.int .i64 (x.yi 1),.int .i64 (x.yi 2),.int .i64 (x.yi 3),.int .i64 (x.yi 4),.int .i64 (x.yi 5),.int .i64 (x.yi 6),.int .i64 (x.yi 7),.bool d,.int .i64 (x.yi 9),.int .u64 (x.yi 10),.bool k,.int .i64 (x.yi 12),.int .i64 (x.yi 13),.int .i64 (x.yi 14),.int .i64 (x.yi 15),.int .i64 (x.yi 16),.int .i64 (x.yi 17),.int .i64 (x.yi 18),.int .i64 (x.yi 19),.int .i64 (x.yi 20),.int .u64 (x.yi 21),tk,hd]
theorem ST(x:XS)(tk hd:Value):(yL x x.dm x.aA tk hd).toArray=yV x tk hd:=rfl
abbrev O6(q:PQ):Value:=(.agg #[iz q.s.c.n,iz q.s.c.q,iz q.s.c.g,iz q.s.c.m,iz q.s.c.t,iz q.s.c.s])
abbrev O7:List (Nat×Value):=[(0,sy 1),(4,sy 2),(6,.pointer (some ⟨400,0,none⟩)),(10,.bool false),(11,.complex .f32 415 2),(12,.pointer (some ⟨416,0,none⟩)),(13,iz 0)]
abbrev mL:List (Nat×Value):=[(0,sy 1),(4,sy 2),(6,sy 41),(10,.bool false),(11,sy 42),(12,sy 43),(13,sy 44)]
abbrev mM(q:PQ):List (Nat×Value):=[(0,(q.xv)),(4,(q.s.lv)),(6,pz q.yb),(10,.bool false),(11,pz q.bm),(12,pz q.br),(13,iN q.n)]
abbrev uB:List (Nat×Value):=[(0,sy 1),(4,sy 2),(6,sy 41),(10,.bool false),(11,sy 42),(12,sy 43),(13,sy 44),(14,sy 46)]
abbrev uC(q:PQ):List (Nat×Value):=[(0,(q.xv)),(4,(q.s.lv)),(6,pz q.yb),(10,.bool false),(11,pz q.bm),(12,pz q.br),(13,iN q.n),(14,iN q.j)]
abbrev K7:List (Nat×Value):=[(0,sy 1),(4,sy 2),(6,sy 41),(10,.bool false),(11,sy 42),(12,sy 43),(13,sy 44),(14,sy 46),(15,sy 3),(16,sy 4),(17,sy 48)]
abbrev uD(q:PQ):List aC:=[b_ q.R,aD 3 1 q.vh q.us.length (aO q.us)]
abbrev K8(q:PQ):List aC:=[b_ q.R,aD 3 1 (q.vh) (q.us.length) ((aO q.us).set ((q.k0)*1) (iz 77))]
abbrev K9(q:PQ):List (Nat×Value):=[(0,(q.xv)),(4,(q.s.lv)),(6,pz q.yb),(10,.bool false),(11,pz q.bm),(12,pz q.br),(13,iN q.n),(14,iN q.j),(15,(q.vh)),(16,(q.vo)),(17,iN q.k0)]
abbrev K_:List (Nat×Value):=[(0,sy 1),(4,sy 2),(6,sy 41),(10,.bool false),(11,sy 42),(12,sy 43),(13,sy 44),(14,sy 46),(16,sy 4)]
abbrev La(q:PQ):List (Nat×Value):=[(0,(q.xv)),(4,(q.s.lv)),(6,pz q.yb),(10,.bool false),(11,pz q.bm),(12,pz q.br),(13,iN q.n),(14,iN q.j),(16,(q.vo))]
abbrev Lb:List (Nat×Value):=[(0,sy 1),(4,sy 2),(6,sy 41),(10,.bool false),(11,sy 42),(12,sy 43),(13,sy 44),(14,sy 46),(16,sy 4),(18,sy 48)]
abbrev uE(q:PQ):List aC:=[b_ q.R,aD 3 1 q.vo q.us.length (aO q.us)]
abbrev Lc(q:PQ):List aC:=[b_ q.R,aD 3 1 (q.vo) (q.us.length) ((aO q.us).set ((q.k0)*1) (iz 77))]
abbrev Ld(q:PQ):List (Nat×Value):=[(0,(q.xv)),(4,(q.s.lv)),(6,pz q.yb),(10,.bool false),(11,pz q.bm),(12,pz q.br),(13,iN q.n),(14,iN q.j),(16,(q.vo)),(18,iN q.k0)]
abbrev bL(q:PQ):List Value:=[q.s.bv,q.xv,q.s.lv,q.vh,q.vo,dx (q.vh) ((q.k0)*1),dx (q.vo) ((q.k0)*1),q.tk,q.hd,q.rv,dx (q.s.lv) ((q.n)*3),dx (q.s.lv) ((q.n)*3+0),dx (q.s.lv) ((q.n)*3+1),dx (q.s.lv) ((q.n)*3+2),iz (q.x.yi 0),iz (q.x.yi 1),iz (q.x.yi 2),iz (q.x.yi 3),iz (q.x.yi 4),iz (q.x.yi 5),iz (q.x.yi 6),iz (q.x.yi 7),iz (q.x.yi 9),uz (q.x.yi 10),iz (q.x.yi 12),iz (q.x.yi 13),iz (q.x.yi 14),iz (q.x.yi 15),iz (q.x.yi 16),iz (q.x.yi 17),iz (q.x.yi 18),iz (q.x.yi 19),iz (q.x.yi 20),uz (q.x.yi 21),iz (q.s.c.n),iz (q.s.c.q),iz (q.s.c.g),iz (q.s.c.m),iz (q.s.c.t),iz (q.s.c.s),uN (q.s.c.cn),pz q.yb,pz q.bm,pz q.br,iN (q.n),iN (q.s.ps.length),iN (q.j),iN ((q.j)+1),iN (q.k0),iN (q.us.length),iN ((q.k0)+1),iN ((q.n)+1),pz q.bx,uz (q.m.ops),iz ((q.x.step q.m).1.yi 0),iz ((q.x.step q.m).1.yi 1),iz ((q.x.step q.m).1.yi 2),iz ((q.x.step q.m).1.yi 3),iz ((q.x.step q.m).1.yi 4),iz ((q.x.step q.m).1.yi 5),iz ((q.x.step q.m).1.yi 6),iz ((q.x.step q.m).1.yi 7),iz ((q.x.step q.m).1.yi 9),uz ((q.x.step q.m).1.yi 10),iz ((q.x.step q.m).1.yi 12),iz ((q.x.step q.m).1.yi 13),iz ((q.x.step q.m).1.yi 14),iz ((q.x.step q.m).1.yi 15),iz ((q.x.step q.m).1.yi 16),iz ((q.x.step q.m).1.yi 17),iz ((q.x.step q.m).1.yi 18),iz ((q.x.step q.m).1.yi 19),iz ((q.x.step q.m).1.yi 20),uz ((q.x.step q.m).1.yi 21),uz ((q.x.step q.m).2.ops),uz (q.m.ops+1),iN (q.m.cells.length),iz (q.k.at'),iN ((pick q.k.at' (q.m.cells.length:Int)).toNat),uz (q.k.v),uz (IntKind.u64.wrap (q.m.ops+1))]
theorem bO(q:PQ):∀ x ∈ bL q,ai x=true:=(fc q.s.hs.leaf (fc q.dA (fc q.s.hl.leaf (fc q.DL (fc q.DM (fc (aX _ _) (fc (aX _ _) (fc q.cx (fc q.cQ (fc q.lrv (fc (aX _ _) (fc (aX _ _) (fc (aX _ _) (fc (aX _ _) fr))))))))))))))
theorem Vg(q:PQ):bV prog 13 [] 0 3 157 ⟨q.s.W0,q.s.F0⟩ [(0,(q.xv)),(1,(.agg #[iz (q.x.yi 0),iz (q.x.yi 1),iz (q.x.yi 2),iz (q.x.yi 3),iz (q.x.yi 4),iz (q.x.yi 5),iz (q.x.yi 6),iz (q.x.yi 7),.bool true,iz (q.x.yi 9),uz (q.x.yi 10),.bool false,iz (q.x.yi 12),iz (q.x.yi 13),iz (q.x.yi 14),iz (q.x.yi 15),iz (q.x.yi 16),iz (q.x.yi 17),iz (q.x.yi 18),iz (q.x.yi 19),iz (q.x.yi 20),uz (q.x.yi 21),.slice none 0 0,.slice none 0 0])),(2,O6 q),(3,(q.s.bv)),(4,(q.s.lv))] [b_ q.R] .normal (λκ:ag=>[(0,(q.xv)),(4,(q.s.lv)),(6,(pz ((κ 400).getD 0))),(10,.bool false),(11,(am 0 (dv κ 415))),(12,(pz ((κ 416).getD 0))),(13,iz 0)]) (λκ:ag=>[aH ((κ 400).getD 0) (yL q.x true false (.slice none 0 0) (.slice none 0 0)) 49,aH ((κ 416).getD 0) [(am 1 (dv κ 415)),uN q.s.c.cn] 58,vF q.s.c (dv κ 415),b_ q.R]):=(tr (c:=⟨q.s.W0,q.s.F0⟩) (kn (bL q) (bO q) [] [] [] fn fn fn q.s.W0 q.s.F0 [[b_ q.R],[bP 411 (λv=>vE q.s.c v),b_ q.R],[bP 415 (λv=>vF q.s.c v),b_ q.R]] [] [⟨20,[.agg #[sy 34,sy 35,sy 36,sy 37,sy 38,sy 39],sy 0],0,some 411,.complex .f32 411 0,some 1⟩,⟨19,[.complex .f32 411 0],1,some 415,.tuple #[.complex .f32 415 2,.agg #[.complex .f32 415 3,sy 40]],some 2⟩]) fn (fc (cd rfl [λv=>vE q.s.c v] [] [0] (λw F ho hn hF=>uA q.s.c (q.s.hs.old ho q.s.O5) q.s.hb q.s.hz hn)) (fc (r7 (c:=⟨q.s.W0,q.s.F0⟩) (fp:=[bP 411 (λv=>vE q.s.c v)]) (lp:=λv=>[vE q.s.c v]) (args:=λv=>[v]) (ret:=λv=>.tuple #[am 0 v,.agg #[am 1 v,.int .u64 ((q.s.c.cn:Nat):Int)]]) [λv=>vF q.s.c v] [0] [1] rfl rfl rfl rfl (cS (λ_ _ _ _ _ h=>h) bZ) (bw (ak (by kernel_rfl) (by kernel_rfl))) (λι cd hcd=>(vd hcd (by kernel_rfl) (by kernel_rfl))) (λv w F ho hn hF=>wF q.s.c hn)) fn)) rfl [] [] [(400,[sy 14,sy 15,sy 16,sy 17,sy 18,sy 19,sy 20,sy 21,.bool true,sy 22,sy 23,.bool false,sy 24,sy 25,sy 26,sy 27,sy 28,sy 29,sy 30,sy 31,sy 32,sy 33,.slice none 0 0,.slice none 0 0],49),(416,[.complex .f32 415 3,sy 40],58)] 2 rfl rfl [(0,sy 1),(1,.agg #[sy 14,sy 15,sy 16,sy 17,sy 18,sy 19,sy 20,sy 21,.bool true,sy 22,sy 23,.bool false,sy 24,sy 25,sy 26,sy 27,sy 28,sy 29,sy 30,sy 31,sy 32,sy 33,.slice none 0 0,.slice none 0 0]),(2,.agg #[sy 34,sy 35,sy 36,sy 37,sy 38,sy 39]),(3,sy 0),(4,sy 2)] O7 .normal).conv (λκ w=>⟨(λ_ h=>h),(λ_ h=>h),(λ_ h=>aS (a:=λv=>vF q.s.c v) (λ_ _ _ _ _ h=>h) h),(λ_ h=>h),trivial⟩)
theorem Vh(q:PQ):bV prog 13 [] 0 3 157 ⟨q.s.W0,q.s.F0⟩ [(0,(q.xv)),(1,(.agg #[iz (q.x.yi 0),iz (q.x.yi 1),iz (q.x.yi 2),iz (q.x.yi 3),iz (q.x.yi 4),iz (q.x.yi 5),iz (q.x.yi 6),iz (q.x.yi 7),.bool false,iz (q.x.yi 9),uz (q.x.yi 10),.bool false,iz (q.x.yi 12),iz (q.x.yi 13),iz (q.x.yi 14),iz (q.x.yi 15),iz (q.x.yi 16),iz (q.x.yi 17),iz (q.x.yi 18),iz (q.x.yi 19),iz (q.x.yi 20),uz (q.x.yi 21),.slice none 0 0,.slice none 0 0])),(2,O6 q),(3,(q.s.bv)),(4,(q.s.lv))] [b_ q.R] .normal (λκ:ag=>[(0,(q.xv)),(4,(q.s.lv)),(6,(pz ((κ 400).getD 0))),(10,.bool false),(11,(am 0 (dv κ 415))),(12,(pz ((κ 416).getD 0))),(13,iz 0)]) (λκ:ag=>[aH ((κ 400).getD 0) (yL q.x false false (.slice none 0 0) (.slice none 0 0)) 49,aH ((κ 416).getD 0) [(am 1 (dv κ 415)),uN q.s.c.cn] 58,vF q.s.c (dv κ 415),b_ q.R]):=(tr (c:=⟨q.s.W0,q.s.F0⟩) (kn (bL q) (bO q) [] [] [] fn fn fn q.s.W0 q.s.F0 [[b_ q.R],[bP 411 (λv=>vE q.s.c v),b_ q.R],[bP 415 (λv=>vF q.s.c v),b_ q.R]] [] [⟨20,[.agg #[sy 34,sy 35,sy 36,sy 37,sy 38,sy 39],sy 0],0,some 411,.complex .f32 411 0,some 1⟩,⟨19,[.complex .f32 411 0],1,some 415,.tuple #[.complex .f32 415 2,.agg #[.complex .f32 415 3,sy 40]],some 2⟩]) fn (fc (cd rfl [λv=>vE q.s.c v] [] [0] (λw F ho hn hF=>uA q.s.c (q.s.hs.old ho q.s.O5) q.s.hb q.s.hz hn)) (fc (r7 (c:=⟨q.s.W0,q.s.F0⟩) (fp:=[bP 411 (λv=>vE q.s.c v)]) (lp:=λv=>[vE q.s.c v]) (args:=λv=>[v]) (ret:=λv=>.tuple #[am 0 v,.agg #[am 1 v,.int .u64 ((q.s.c.cn:Nat):Int)]]) [λv=>vF q.s.c v] [0] [1] rfl rfl rfl rfl (cS (λ_ _ _ _ _ h=>h) bZ) (bw (ak (by kernel_rfl) (by kernel_rfl))) (λι cd hcd=>(vd hcd (by kernel_rfl) (by kernel_rfl))) (λv w F ho hn hF=>wF q.s.c hn)) fn)) rfl [] [] [(400,[sy 14,sy 15,sy 16,sy 17,sy 18,sy 19,sy 20,sy 21,.bool false,sy 22,sy 23,.bool false,sy 24,sy 25,sy 26,sy 27,sy 28,sy 29,sy 30,sy 31,sy 32,sy 33,.slice none 0 0,.slice none 0 0],49),(416,[.complex .f32 415 3,sy 40],58)] 2 rfl rfl [(0,sy 1),(1,.agg #[sy 14,sy 15,sy 16,sy 17,sy 18,sy 19,sy 20,sy 21,.bool false,sy 22,sy 23,.bool false,sy 24,sy 25,sy 26,sy 27,sy 28,sy 29,sy 30,sy 31,sy 32,sy 33,.slice none 0 0,.slice none 0 0]),(2,.agg #[sy 34,sy 35,sy 36,sy 37,sy 38,sy 39]),(3,sy 0),(4,sy 2)] O7 .normal).conv (λκ w=>⟨(λ_ h=>h),(λ_ h=>h),(λ_ h=>aS (a:=λv=>vF q.s.c v) (λ_ _ _ _ _ h=>h) h),(λ_ h=>h),trivial⟩)
theorem XU(q:PQ)(h:q.n<=q.s.ps.length):bV prog 13 [6,0] 0 2 157 ⟨q.s.W0,q.s.F0⟩ (mM q) [b_ q.R] .normal (λκ:ag=>(mM q)) (λκ:ag=>[b_ q.R]):=(tr (c:=⟨q.s.W0,q.s.F0⟩) (kn (bL q) (bO q) [(.leq,sy 44,sy 45,.bool true)] [] [] (fc (λ_ _ _=>oo (by have z:=q.z;first|(simp;done)|(simp;omega))) fn) fn fn q.s.W0 q.s.F0 [[b_ q.R]] [⟨[10,23],[sy 2],none,0,none,sy 45,none⟩] []) (fc (bt (ci:=0) rfl rfl q.s.hl underlying23 rfl rfl) fn) fn rfl [] [] [] 0 rfl rfl mL mL .normal)
theorem Vi(q:PQ):bV prog 13 [6,0,4] 0 1 157 ⟨q.s.W0,q.s.F0⟩ (mM q) [b_ q.R] .normal (λκ:ag=>[(0,(q.xv)),(4,(q.s.lv)),(6,pz q.yb),(10,.bool false),(11,pz q.bm),(12,pz q.br),(13,iN q.n),(14,iz 0)]) (λκ:ag=>[b_ q.R]):=(tr (c:=⟨q.s.W0,q.s.F0⟩) (kn (bL q) (bO q) [] [] [] fn fn fn q.s.W0 q.s.F0 [[b_ q.R]] [] []) fn fn rfl [] [] [] 0 rfl rfl mL [(0,sy 1),(4,sy 2),(6,sy 41),(10,.bool false),(11,sy 42),(12,sy 43),(13,sy 44),(14,iz 0)] .normal)
theorem Vj(q:PQ)(h:q.j<2):bV prog 13 [6,0,4,2,0] 0 2 157 ⟨q.s.W0,q.s.F0⟩ (uC q) [b_ q.R] .normal (λκ:ag=>(uC q)) (λκ:ag=>[b_ q.R]):=(tr (c:=⟨q.s.W0,q.s.F0⟩) (kn (bL q) (bO q) [(.lss,sy 46,iz 2,.bool true)] [] [] (fc (λ_ _ _=>aQ (by have z:=q.z;first|(simp;done)|(simp;omega))) fn) fn fn q.s.W0 q.s.F0 [[b_ q.R]] [] []) fn fn rfl [] [] [] 0 rfl rfl uB uB .normal)
theorem Vk(q:PQ)(h:¬ q.j<2):bV prog 13 [6,0,4,2,0] 0 2 157 ⟨q.s.W0,q.s.F0⟩ (uC q) [b_ q.R] (.exit 2) (λκ:ag=>(mM q)) (λκ:ag=>[b_ q.R]):=(tr (c:=⟨q.s.W0,q.s.F0⟩) (kn (bL q) (bO q) [(.lss,sy 46,iz 2,.bool false)] [] [] (fc (λ_ _ _=>aQ (by have z:=q.z;first|(simp;done)|(simp;omega))) fn) fn fn q.s.W0 q.s.F0 [[b_ q.R]] [] []) fn fn rfl [] [] [] 0 rfl rfl uB mL (.exit 2))
theorem Vl(q:PQ)(h:q.j<2):bV prog 13 [6,0,4,2,0] 3 1 157 ⟨q.s.W0,q.s.F0⟩ (uC q) [b_ q.R] .normal (λκ:ag=>[(0,(q.xv)),(4,(q.s.lv)),(6,pz q.yb),(10,.bool false),(11,pz q.bm),(12,pz q.br),(13,iN q.n),(14,(iN ((q.j)+1)))]) (λκ:ag=>[b_ q.R]):=(tr (c:=⟨q.s.W0,q.s.F0⟩) (kn (bL q) (bO q) [(.add,sy 46,iz 1,sy 47)] [] [] (fc (λ_ _ _=>ax (by have z:=q.z;rw[ap (by omega) (by omega)];omega)) fn) fn fn q.s.W0 q.s.F0 [[b_ q.R]] [] []) fn fn rfl [] [] [] 0 rfl rfl uB [(0,sy 1),(4,sy 2),(6,sy 41),(10,.bool false),(11,sy 42),(12,sy 43),(13,sy 44),(14,sy 47)] .normal)
theorem SU(q:PQ)(hq:q.k0<q.us.length):bV prog 13 [6,0,4,2,0,4,8,0] 0 4 157 ⟨q.s.W0,q.s.F0⟩ (K9 q) (uD q) .normal (λκ:ag=>[(0,(q.xv)),(4,(q.s.lv)),(6,pz q.yb),(10,.bool false),(11,pz q.bm),(12,pz q.br),(13,iN q.n),(14,iN q.j),(15,(q.vh)),(16,(q.vo)),(17,(iN ((q.k0)+1)))]) (λκ:ag=>(K8 q)):=by have z:=q.z;obtain⟨i,i1,i2,i3,i4⟩:=b0;exact(tr (c:=⟨q.s.W0,q.s.F0⟩) (kn (bL q) (bO q) [(.lss,sy 48,sy 49,.bool true),(.add,sy 48,iz 1,sy 50)] [] [] (fc (λ_ _ _=>aQ (by first|(simp;done)|(simp;omega))) (fc (λ_ _ _=>ax (by rw[ap (by omega) (by omega)];omega)) fn)) fn fn q.s.W0 q.s.F0 [uD q,K8 q] [⟨[10,45],[sy 3],none,0,none,sy 49,none⟩,⟨[3,45],[sy 3,sy 48],none,0,none,sy 5,none⟩,⟨[2,3],[sy 5,iz 77],none,0,none,undef,some 1⟩] []) (fc (by exact bT (ci:=2) rfl rfl underlying45 i2 rfl rfl) (fc (by exact bJ (ci:=2) (j:=(q.k0)) rfl rfl underlying45 i1 i2 rfl rfl (by omega) rfl) (fc (by exact c6 (ci:=2) (m:=(q.k0)*1) (x:=(iz 77)) rfl rfl rfl Bi (by simp;omega) rfl dR rfl) fn))) fn rfl [] [] [] 1 rfl rfl K7 [(0,sy 1),(4,sy 2),(6,sy 41),(10,.bool false),(11,sy 42),(12,sy 43),(13,sy 44),(14,sy 46),(15,sy 3),(16,sy 4),(17,sy 50)] .normal)
theorem SV(q:PQ)(hq:¬ q.k0<q.us.length):bV prog 13 [6,0,4,2,0,4,8,0] 0 2 157 ⟨q.s.W0,q.s.F0⟩ (K9 q) (uD q) (.exit 4) (λκ:ag=>(La q)) (λκ:ag=>(uD q)):=(tr (c:=⟨q.s.W0,q.s.F0⟩) (kn (bL q) (bO q) [(.lss,sy 48,sy 49,.bool false)] [] [] (fc (λ_ _ _=>aQ (by have z:=q.z;first|(simp;done)|(simp;omega))) fn) fn fn q.s.W0 q.s.F0 [uD q] [⟨[10,45],[sy 3],none,0,none,sy 49,none⟩] []) (fc (by obtain⟨i,i1,i2,i3,i4⟩:=b0;exact bT (ci:=2) rfl rfl underlying45 i2 rfl rfl) fn) fn rfl [] [] [] 0 rfl rfl K7 K_ (.exit 4))
theorem XV(q:PQ):bV prog 13 [6,0,4,2,0,4] 5 1 157 ⟨q.s.W0,q.s.F0⟩ (La q) [b_ q.R] .normal (λκ:ag=>[(0,(q.xv)),(4,(q.s.lv)),(6,pz q.yb),(10,.bool false),(11,pz q.bm),(12,pz q.br),(13,iN q.n),(14,iN q.j),(16,(q.vo)),(18,iz 0)]) (λκ:ag=>[b_ q.R]):=(tr (c:=⟨q.s.W0,q.s.F0⟩) (kn (bL q) (bO q) [] [] [] fn fn fn q.s.W0 q.s.F0 [[b_ q.R]] [] []) fn fn rfl [] [] [] 0 rfl rfl K_ [(0,sy 1),(4,sy 2),(6,sy 41),(10,.bool false),(11,sy 42),(12,sy 43),(13,sy 44),(14,sy 46),(16,sy 4),(18,iz 0)] .normal)
theorem SW(q:PQ)(hq:q.k0<q.us.length):bV prog 13 [6,0,4,2,0,4,12,0] 0 4 157 ⟨q.s.W0,q.s.F0⟩ (Ld q) (uE q) .normal (λκ:ag=>[(0,(q.xv)),(4,(q.s.lv)),(6,pz q.yb),(10,.bool false),(11,pz q.bm),(12,pz q.br),(13,iN q.n),(14,iN q.j),(16,(q.vo)),(18,(iN ((q.k0)+1)))]) (λκ:ag=>(Lc q)):=by have z:=q.z;obtain⟨i,i1,i2,i3,i4⟩:=b0;exact(tr (c:=⟨q.s.W0,q.s.F0⟩) (kn (bL q) (bO q) [(.lss,sy 48,sy 49,.bool true),(.add,sy 48,iz 1,sy 50)] [] [] (fc (λ_ _ _=>aQ (by first|(simp;done)|(simp;omega))) (fc (λ_ _ _=>ax (by rw[ap (by omega) (by omega)];omega)) fn)) fn fn q.s.W0 q.s.F0 [uE q,Lc q] [⟨[10,45],[sy 4],none,0,none,sy 49,none⟩,⟨[3,45],[sy 4,sy 48],none,0,none,sy 6,none⟩,⟨[2,3],[sy 6,iz 77],none,0,none,undef,some 1⟩] []) (fc (by exact bT (ci:=2) rfl rfl underlying45 i2 rfl rfl) (fc (by exact bJ (ci:=2) (j:=(q.k0)) rfl rfl underlying45 i1 i2 rfl rfl (by omega) rfl) (fc (by exact c6 (ci:=2) (m:=(q.k0)*1) (x:=(iz 77)) rfl rfl rfl Bi (by simp;omega) rfl dR rfl) fn))) fn rfl [] [] [] 1 rfl rfl Lb [(0,sy 1),(4,sy 2),(6,sy 41),(10,.bool false),(11,sy 42),(12,sy 43),(13,sy 44),(14,sy 46),(16,sy 4),(18,sy 50)] .normal)
theorem SX(q:PQ)(hq:¬ q.k0<q.us.length):bV prog 13 [6,0,4,2,0,4,12,0] 0 2 157 ⟨q.s.W0,q.s.F0⟩ (Ld q) (uE q) (.exit 6) (λκ:ag=>(uC q)) (λκ:ag=>(uE q)):=(tr (c:=⟨q.s.W0,q.s.F0⟩) (kn (bL q) (bO q) [(.lss,sy 48,sy 49,.bool false)] [] [] (fc (λ_ _ _=>aQ (by have z:=q.z;first|(simp;done)|(simp;omega))) fn) fn fn q.s.W0 q.s.F0 [uE q] [⟨[10,45],[sy 4],none,0,none,sy 49,none⟩] []) (fc (by obtain⟨i,i1,i2,i3,i4⟩:=b0;exact bT (ci:=2) rfl rfl underlying45 i2 rfl rfl) fn) fn rfl [] [] [] 0 rfl rfl Lb uB (.exit 6))
theorem Vm(q:PQ)(h:q.n=q.s.ps.length):bV prog 13 [6,0,4] 4 2 157 ⟨q.s.W0,q.s.F0⟩ (mM q) [b_ q.R] .ret (λκ:ag=>[(10,.bool true)]) (λκ:ag=>[b_ q.R]):=(tr (c:=⟨q.s.W0,q.s.F0⟩) (kn (bL q) (bO q) [(.eql,sy 44,sy 45,.bool true)] [] [] (fc (λ_ _ _=>aM (by have z:=q.z;first|(simp;done)|(simp;omega))) fn) fn fn q.s.W0 q.s.F0 [[b_ q.R]] [⟨[10,23],[sy 2],none,0,none,sy 45,none⟩] []) (fc (bt (ci:=0) rfl rfl q.s.hl underlying23 rfl rfl) fn) fn rfl [] [] [] 0 rfl rfl mL [(10,.bool true)] .ret)
theorem Vn(q:PQ)(h:q.n<q.s.ps.length):bV prog 13 [6,0,4] 4 2 157 ⟨q.s.W0,q.s.F0⟩ (mM q) [b_ q.R] .normal (λκ:ag=>(mM q)) (λκ:ag=>[b_ q.R]):=(tr (c:=⟨q.s.W0,q.s.F0⟩) (kn (bL q) (bO q) [(.eql,sy 44,sy 45,.bool false)] [] [] (fc (λ_ _ _=>aM (by have z:=q.z;first|(simp;done)|(simp;omega))) fn) fn fn q.s.W0 q.s.F0 [[b_ q.R]] [⟨[10,23],[sy 2],none,0,none,sy 45,none⟩] []) (fc (bt (ci:=0) rfl rfl q.s.hl underlying23 rfl rfl) fn) fn rfl [] [] [] 0 rfl rfl mL mL .normal)
theorem XW(q:PQ)(h:q.n<q.s.ps.length):bV prog 13 [6,0] 3 1 157 ⟨q.s.W0,q.s.F0⟩ (mM q) [b_ q.R] .normal (λκ:ag=>[(0,(q.xv)),(4,(q.s.lv)),(6,pz q.yb),(10,.bool false),(11,pz q.bm),(12,pz q.br),(13,(iN ((q.n)+1)))]) (λκ:ag=>[b_ q.R]):=(tr (c:=⟨q.s.W0,q.s.F0⟩) (kn (bL q) (bO q) [(.add,sy 44,iz 1,sy 51)] [] [] (fc (λ_ _ _=>ax (by have z:=q.z;rw[ap (by omega) (by omega)];omega)) fn) fn fn q.s.W0 q.s.F0 [[b_ q.R]] [] []) fn fn rfl [] [] [] 0 rfl rfl mL [(0,sy 1),(4,sy 2),(6,sy 41),(10,.bool false),(11,sy 42),(12,sy 43),(13,sy 51)] .normal)
end Go.Proofs.YtbcnbofkgkheeaaGreat
