/- Part of a proof: see the last text. -/
import Derived.Test.YtbcnbofkgkheeaaGreatZn11
set_option linter.unusedSimpArgs false
set_option linter.unusedVariables false
namespace Go.Proofs.YtbcnbofkgkheeaaGreat
open Go.Ev Go.Proofs.Tryz
open Go.RowKit
open Go.Ev (sy)
structure MP where
 (o c1 c2 c3 c4 c5:Int)
 (lg cl:Value)
 (a n:Nat)
 (x v u:Int)
 cells:List Int
 hl:ai lg=true
 hc:ai cl=true
 hn:n<=256
 ha:a<cells.length
 hx:cells[a]=x
 ha2:(a:Int)<=9223372036854775807
theorem g8(cl:Value)(a:Nat):ai (jE cl a)=true:=by
 unfold jE
 split<;>rfl
def vW(z:MP)(hcut:z.n<256):Nat->Value
 | 0=>.int .u64 z.o
 | 1=>.int .u64 z.c1
 | 2=>.int .u64 z.c2
 | 3=>.int .u64 z.c3
 | 4=>.int .u64 z.c4
 | 5=>.int .u64 z.c5
 | 6=>z.lg
 | 7=>z.cl
 | 8=>.int .i64 (z.a:Int)
 | 9=>.int .u64 z.x
 | 10=>jE z.cl z.a
 | 11=>.int .u64 (IntKind.u64.wrap (z.o+1))
 | 12=>.int .u64 (IntKind.u64.wrap (z.c1+1))
 | 13=>.int .i64 (z.cells.length:Int)
 | 14=>.int .i64 ((z.n:Int)+1)
 | 15=>.int .u64 z.v
 | 16=>.int .u64 z.u
 | _=>.int .i64 0
theorem RX(z:MP)(hcut:z.n<256):∀ j9,ai (vW z hcut j9)=true:=by
 intro j9;unfold vW
 split<;>first | rfl | assumption | exact z.hl | exact z.hc | exact g8 _ _
def H5:List gn:=[(.geq,sy 8,.int .i64 0,.bool true),(.lss,sy 8,sy 13,.bool true),(.add,sy 0,.int .u64 1,sy 11),(.add,sy 1,.int .u64 1,sy 12),(.gtr,sy 14,.int .i64 256,.bool false)]
theorem MV(z:MP)(hcut:z.n<256):∀ q ∈ H5,jg (vW z hcut) q:=by
 intro q hq;simp only[H5,List.mem_cons,List.not_mem_nil,or_false]at hq;rcases hq with rfl | rfl | rfl | rfl | rfl
 ·intro t ox oy;exact bG (by first|(simp;done)|(simp;omega))
 ·intro t ox oy;exact aQ (by simpa using z.ha)
 ·intro t ox oy;exact ax rfl
 ·intro t ox oy;exact ax rfl
 ·intro t ox oy;exact a_ (by first|(simp;done)|(simp;omega))
def Oo:List gW:=[]
theorem MW(z:MP)(hcut:z.n<256):∀ q ∈ Oo,jD (vW z hcut) q:=by
 intro q hq;cases hq
def Oq:List gX:=[]
theorem MX(z:MP)(hcut:z.n<256):∀ q ∈ Oq,jh (vW z hcut) q:=by
 intro q hq;cases hq
def Ot:List jf:=[]
@[reducible] def vX(z:MP)(hcut:z.n<256):Ev.Kn:={ val:=vW z hcut,leaf:=RX z hcut,bs:=H5,us:=Oo,cs:=Oq,ks:=Ot,hb:=MV z hcut,hu:=MW z hcut,hc:=MX z hcut,gs:=[dX (.st z.lg) z.n z.cl z.cells,dX (.st z.lg) z.n z.cl (z.cells.set z.a z.x),dX (.dy 415) (z.n+1) z.cl (z.cells.set z.a z.x)],ops:=[⟨[10,56],[sy 7],none,0,none,sy 13,none⟩,⟨[3,56],[sy 7,sy 8],none,0,none,sy 10,none⟩,⟨[1,28],[sy 10],none,0,none,sy 9,none⟩,⟨[2,28],[sy 10,sy 9],none,0,none,undef,some 1⟩,⟨[11,101,101],[sy 6],some (4,1,[.int .i64 1,sy 8,sy 9,sy 9]),1,some 415,.complex .f32 415 0,some 2⟩,⟨[10,101],[.complex .f32 415 0],none,2,none,sy 14,none⟩],cls:=[] }
theorem PK(z:MP)(hcut:z.n<256):@Ev.di (vX z hcut).sig prog:=by
 refine Ev.Kn.ok (vX z hcut) ?_ ?_ ?_
 ·intro q hq
  cases hq
 ·intro q hq
  simp only[vX,Ot,List.mem_cons,List.not_mem_nil,or_false]at hq;rcases hq with rfl | rfl | rfl | rfl | rfl | rfl
  ·exact jF rfl rfl rfl
  ·exact fK rfl rfl rfl rfl z.ha
  ·exact gZ rfl rfl z.ha (by show Value.int .u64 z.x=_;rw[z.hx])
  ·exact fL rfl rfl rfl z.ha rfl
  ·exact g7 rfl rfl rfl z.hn rfl
  ·exact eZ rfl rfl
 ·intro q hq
  cases hq
theorem RY(z:MP)(hcut:z.n<256):cZ prog (λB=>ji (sy 9) [(4,[sy 11,sy 12,sy 2,sy 3,sy 4,sy 5,.complex .f32 415 0,sy 7],105)] (some 2) (@Ev.dG (vX z hcut).sig B (@Ev.tn (vX z hcut).sig B 200) 22 [.pointer (some ⟨4,0,none⟩),sy 8] (fB [(4,.cells ([sy 0,sy 1,sy 2,sy 3,sy 4,sy 5,sy 6,sy 7]:List Value).toArray 105 (0,0)),(3,jr 0)] 100)))=true:=by kernel_rfl
def km(z:MP)(hcut:z.n=256):Nat->Value
 | 0=>.int .u64 z.o
 | 1=>.int .u64 z.c1
 | 2=>.int .u64 z.c2
 | 3=>.int .u64 z.c3
 | 4=>.int .u64 z.c4
 | 5=>.int .u64 z.c5
 | 6=>z.lg
 | 7=>z.cl
 | 8=>.int .i64 (z.a:Int)
 | 9=>.int .u64 z.x
 | 10=>jE z.cl z.a
 | 11=>.int .u64 (IntKind.u64.wrap (z.o+1))
 | 12=>.int .u64 (IntKind.u64.wrap (z.c1+1))
 | 13=>.int .i64 (z.cells.length:Int)
 | 14=>.int .i64 ((z.n:Int)+1)
 | 15=>.int .u64 z.v
 | 16=>.int .u64 z.u
 | _=>.int .i64 0
theorem H6(z:MP)(hcut:z.n=256):∀ j9,ai (km z hcut j9)=true:=by
 intro j9;unfold km
 split<;>first | rfl | assumption | exact z.hl | exact z.hc | exact g8 _ _
def tG:List gn:=[(.geq,sy 8,.int .i64 0,.bool true),(.lss,sy 8,sy 13,.bool true),(.add,sy 0,.int .u64 1,sy 11),(.add,sy 1,.int .u64 1,sy 12),(.gtr,sy 14,.int .i64 256,.bool true)]
theorem CB(z:MP)(hcut:z.n=256):∀ q ∈ tG,jg (km z hcut) q:=by
 intro q hq;simp only[tG,List.mem_cons,List.not_mem_nil,or_false]at hq;rcases hq with rfl | rfl | rfl | rfl | rfl
 ·intro t ox oy;exact bG (by first|(simp;done)|(simp;omega))
 ·intro t ox oy;exact aQ (by simpa using z.ha)
 ·intro t ox oy;exact ax rfl
 ·intro t ox oy;exact ax rfl
 ·intro t ox oy;exact a_ (by first|(simp;done)|(simp;omega))
def AB:List gW:=[]
theorem CD(z:MP)(hcut:z.n=256):∀ q ∈ AB,jD (km z hcut) q:=by
 intro q hq;cases hq
def AC:List gX:=[]
theorem CF(z:MP)(hcut:z.n=256):∀ q ∈ AC,jh (km z hcut) q:=by
 intro q hq;cases hq
def AE:List jf:=[]
@[reducible] def ko(z:MP)(hcut:z.n=256):Ev.Kn:={ val:=km z hcut,leaf:=H6 z hcut,bs:=tG,us:=AB,cs:=AC,ks:=AE,hb:=CB z hcut,hu:=CD z hcut,hc:=CF z hcut,gs:=[dX (.st z.lg) z.n z.cl z.cells,dX (.st z.lg) z.n z.cl (z.cells.set z.a z.x),dX (.dy 415) (z.n+1) z.cl (z.cells.set z.a z.x),dX (.dy 419) z.n z.cl (z.cells.set z.a z.x)],ops:=[⟨[10,56],[sy 7],none,0,none,sy 13,none⟩,⟨[3,56],[sy 7,sy 8],none,0,none,sy 10,none⟩,⟨[1,28],[sy 10],none,0,none,sy 9,none⟩,⟨[2,28],[sy 10,sy 9],none,0,none,undef,some 1⟩,⟨[11,101,101],[sy 6],some (4,1,[.int .i64 1,sy 8,sy 9,sy 9]),1,some 415,.complex .f32 415 0,some 2⟩,⟨[10,101],[.complex .f32 415 0],none,2,none,sy 14,none⟩,⟨[4,101,1,0,0],[.complex .f32 415 0,.int .i64 1],none,2,some 419,.complex .f32 419 0,some 3⟩],cls:=[] }
theorem Gd(z:MP)(hcut:z.n=256):@Ev.di (ko z hcut).sig prog:=by
 refine Ev.Kn.ok (ko z hcut) ?_ ?_ ?_
 ·intro q hq
  cases hq
 ·intro q hq
  simp only[ko,AE,List.mem_cons,List.not_mem_nil,or_false]at hq;rcases hq with rfl | rfl | rfl | rfl | rfl | rfl | rfl
  ·exact jF rfl rfl rfl
  ·exact fK rfl rfl rfl rfl z.ha
  ·exact gZ rfl rfl z.ha (by show Value.int .u64 z.x=_;rw[z.hx])
  ·exact fL rfl rfl rfl z.ha rfl
  ·exact g7 rfl rfl rfl z.hn rfl
  ·exact eZ rfl rfl
  ·exact rV rfl rfl
 ·intro q hq
  cases hq
theorem H7(z:MP)(hcut:z.n=256):cZ prog (λB=>ji (sy 9) [(4,[sy 11,sy 12,sy 2,sy 3,sy 4,sy 5,.complex .f32 419 0,sy 7],105)] (some 3) (@Ev.dG (ko z hcut).sig B (@Ev.tn (ko z hcut).sig B 200) 22 [.pointer (some ⟨4,0,none⟩),sy 8] (fB [(4,.cells ([sy 0,sy 1,sy 2,sy 3,sy 4,sy 5,sy 6,sy 7]:List Value).toArray 105 (0,0)),(3,jr 0)] 100)))=true:=by kernel_rfl
def qs(z:MP)(hcut:z.n<256):Nat->Value
 | 0=>.int .u64 z.o
 | 1=>.int .u64 z.c1
 | 2=>.int .u64 z.c2
 | 3=>.int .u64 z.c3
 | 4=>.int .u64 z.c4
 | 5=>.int .u64 z.c5
 | 6=>z.lg
 | 7=>z.cl
 | 8=>.int .i64 (z.a:Int)
 | 9=>.int .u64 z.x
 | 10=>jE z.cl z.a
 | 11=>.int .u64 (IntKind.u64.wrap (z.o+1))
 | 12=>.int .u64 (IntKind.u64.wrap (z.c2+1))
 | 13=>.int .i64 (z.cells.length:Int)
 | 14=>.int .i64 ((z.n:Int)+1)
 | 15=>.int .u64 z.v
 | 16=>.int .u64 z.u
 | _=>.int .i64 0
theorem PN(z:MP)(hcut:z.n<256):∀ j9,ai (qs z hcut j9)=true:=by
 intro j9;unfold qs
 split<;>first | rfl | assumption | exact z.hl | exact z.hc | exact g8 _ _
def CG:List gn:=[(.geq,sy 8,.int .i64 0,.bool true),(.lss,sy 8,sy 13,.bool true),(.add,sy 0,.int .u64 1,sy 11),(.add,sy 2,.int .u64 1,sy 12),(.gtr,sy 14,.int .i64 256,.bool false)]
theorem H8(z:MP)(hcut:z.n<256):∀ q ∈ CG,jg (qs z hcut) q:=by
 intro q hq;simp only[CG,List.mem_cons,List.not_mem_nil,or_false]at hq;rcases hq with rfl | rfl | rfl | rfl | rfl
 ·intro t ox oy;exact bG (by first|(simp;done)|(simp;omega))
 ·intro t ox oy;exact aQ (by simpa using z.ha)
 ·intro t ox oy;exact ax rfl
 ·intro t ox oy;exact ax rfl
 ·intro t ox oy;exact a_ (by first|(simp;done)|(simp;omega))
def H9:List gW:=[]
theorem H_(z:MP)(hcut:z.n<256):∀ q ∈ H9,jD (qs z hcut) q:=by
 intro q hq;cases hq
def Ia:List gX:=[]
theorem Ib(z:MP)(hcut:z.n<256):∀ q ∈ Ia,jh (qs z hcut) q:=by
 intro q hq;cases hq
def Ic:List jf:=[]
@[reducible] def qt(z:MP)(hcut:z.n<256):Ev.Kn:={ val:=qs z hcut,leaf:=PN z hcut,bs:=CG,us:=H9,cs:=Ia,ks:=Ic,hb:=H8 z hcut,hu:=H_ z hcut,hc:=Ib z hcut,gs:=[dX (.st z.lg) z.n z.cl z.cells,dX (.st z.lg) z.n z.cl (z.cells.set z.a z.v),dX (.dy 419) (z.n+1) z.cl (z.cells.set z.a z.v)],ops:=[⟨[10,56],[sy 7],none,0,none,sy 13,none⟩,⟨[3,56],[sy 7,sy 8],none,0,none,sy 10,none⟩,⟨[1,28],[sy 10],none,0,none,sy 9,none⟩,⟨[2,28],[sy 10,sy 15],none,0,none,undef,some 1⟩,⟨[11,101,101],[sy 6],some (4,1,[.int .i64 2,sy 8,sy 9,sy 15]),1,some 419,.complex .f32 419 0,some 2⟩,⟨[10,101],[.complex .f32 419 0],none,2,none,sy 14,none⟩],cls:=[] }
theorem MY(z:MP)(hcut:z.n<256):@Ev.di (qt z hcut).sig prog:=by
 refine Ev.Kn.ok (qt z hcut) ?_ ?_ ?_
 ·intro q hq
  cases hq
 ·intro q hq
  simp only[qt,Ic,List.mem_cons,List.not_mem_nil,or_false]at hq;rcases hq with rfl | rfl | rfl | rfl | rfl | rfl
  ·exact jF rfl rfl rfl
  ·exact fK rfl rfl rfl rfl z.ha
  ·exact gZ rfl rfl z.ha (by show Value.int .u64 z.x=_;rw[z.hx])
  ·exact fL rfl rfl rfl z.ha rfl
  ·exact g7 rfl rfl rfl z.hn rfl
  ·exact eZ rfl rfl
 ·intro q hq
  cases hq
theorem PO(z:MP)(hcut:z.n<256):cZ prog (λB=>ji (.tuple #[]) [(4,[sy 11,sy 1,sy 12,sy 3,sy 4,sy 5,.complex .f32 419 0,sy 7],105)] (some 2) (@Ev.dG (qt z hcut).sig B (@Ev.tn (qt z hcut).sig B 200) 30 [.pointer (some ⟨4,0,none⟩),sy 8,sy 15] (fB [(4,.cells ([sy 0,sy 1,sy 2,sy 3,sy 4,sy 5,sy 6,sy 7]:List Value).toArray 105 (0,0)),(3,jr 0)] 100)))=true:=by kernel_rfl
def iU(z:MP)(hcut:z.n=256):Nat->Value
 | 0=>.int .u64 z.o
 | 1=>.int .u64 z.c1
 | 2=>.int .u64 z.c2
 | 3=>.int .u64 z.c3
 | 4=>.int .u64 z.c4
 | 5=>.int .u64 z.c5
 | 6=>z.lg
 | 7=>z.cl
 | 8=>.int .i64 (z.a:Int)
 | 9=>.int .u64 z.x
 | 10=>jE z.cl z.a
 | 11=>.int .u64 (IntKind.u64.wrap (z.o+1))
 | 12=>.int .u64 (IntKind.u64.wrap (z.c2+1))
 | 13=>.int .i64 (z.cells.length:Int)
 | 14=>.int .i64 ((z.n:Int)+1)
 | 15=>.int .u64 z.v
 | 16=>.int .u64 z.u
 | _=>.int .i64 0
theorem Ge(z:MP)(hcut:z.n=256):∀ j9,ai (iU z hcut j9)=true:=by
 intro j9;unfold iU
 split<;>first | rfl | assumption | exact z.hl | exact z.hc | exact g8 _ _
def qu:List gn:=[(.geq,sy 8,.int .i64 0,.bool true),(.lss,sy 8,sy 13,.bool true),(.add,sy 0,.int .u64 1,sy 11),(.add,sy 2,.int .u64 1,sy 12),(.gtr,sy 14,.int .i64 256,.bool true)]
theorem AF(z:MP)(hcut:z.n=256):∀ q ∈ qu,jg (iU z hcut) q:=by
 intro q hq;simp only[qu,List.mem_cons,List.not_mem_nil,or_false]at hq;rcases hq with rfl | rfl | rfl | rfl | rfl
 ·intro t ox oy;exact bG (by first|(simp;done)|(simp;omega))
 ·intro t ox oy;exact aQ (by simpa using z.ha)
 ·intro t ox oy;exact ax rfl
 ·intro t ox oy;exact ax rfl
 ·intro t ox oy;exact a_ (by first|(simp;done)|(simp;omega))
def vY:List gW:=[]
theorem AG(z:MP)(hcut:z.n=256):∀ q ∈ vY,jD (iU z hcut) q:=by
 intro q hq;cases hq
def vZ:List gX:=[]
theorem AH(z:MP)(hcut:z.n=256):∀ q ∈ vZ,jh (iU z hcut) q:=by
 intro q hq;cases hq
def v3:List jf:=[]
@[reducible] def iV(z:MP)(hcut:z.n=256):Ev.Kn:={ val:=iU z hcut,leaf:=Ge z hcut,bs:=qu,us:=vY,cs:=vZ,ks:=v3,hb:=AF z hcut,hu:=AG z hcut,hc:=AH z hcut,gs:=[dX (.st z.lg) z.n z.cl z.cells,dX (.st z.lg) z.n z.cl (z.cells.set z.a z.v),dX (.dy 419) (z.n+1) z.cl (z.cells.set z.a z.v),dX (.dy 423) z.n z.cl (z.cells.set z.a z.v)],ops:=[⟨[10,56],[sy 7],none,0,none,sy 13,none⟩,⟨[3,56],[sy 7,sy 8],none,0,none,sy 10,none⟩,⟨[1,28],[sy 10],none,0,none,sy 9,none⟩,⟨[2,28],[sy 10,sy 15],none,0,none,undef,some 1⟩,⟨[11,101,101],[sy 6],some (4,1,[.int .i64 2,sy 8,sy 9,sy 15]),1,some 419,.complex .f32 419 0,some 2⟩,⟨[10,101],[.complex .f32 419 0],none,2,none,sy 14,none⟩,⟨[4,101,1,0,0],[.complex .f32 419 0,.int .i64 1],none,2,some 423,.complex .f32 423 0,some 3⟩],cls:=[] }
theorem CH(z:MP)(hcut:z.n=256):@Ev.di (iV z hcut).sig prog:=by
 refine Ev.Kn.ok (iV z hcut) ?_ ?_ ?_
 ·intro q hq
  cases hq
 ·intro q hq
  simp only[iV,v3,List.mem_cons,List.not_mem_nil,or_false]at hq;rcases hq with rfl | rfl | rfl | rfl | rfl | rfl | rfl
  ·exact jF rfl rfl rfl
  ·exact fK rfl rfl rfl rfl z.ha
  ·exact gZ rfl rfl z.ha (by show Value.int .u64 z.x=_;rw[z.hx])
  ·exact fL rfl rfl rfl z.ha rfl
  ·exact g7 rfl rfl rfl z.hn rfl
  ·exact eZ rfl rfl
  ·exact rV rfl rfl
 ·intro q hq
  cases hq
theorem Gf(z:MP)(hcut:z.n=256):cZ prog (λB=>ji (.tuple #[]) [(4,[sy 11,sy 1,sy 12,sy 3,sy 4,sy 5,.complex .f32 423 0,sy 7],105)] (some 3) (@Ev.dG (iV z hcut).sig B (@Ev.tn (iV z hcut).sig B 200) 30 [.pointer (some ⟨4,0,none⟩),sy 8,sy 15] (fB [(4,.cells ([sy 0,sy 1,sy 2,sy 3,sy 4,sy 5,sy 6,sy 7]:List Value).toArray 105 (0,0)),(3,jr 0)] 100)))=true:=by kernel_rfl
def mX(z:MP)(hcut:z.n<256)(hy:z.x=z.u):Nat->Value
 | 0=>.int .u64 z.o
 | 1=>.int .u64 z.c1
 | 2=>.int .u64 z.c2
 | 3=>.int .u64 z.c3
 | 4=>.int .u64 z.c4
 | 5=>.int .u64 z.c5
 | 6=>z.lg
 | 7=>z.cl
 | 8=>.int .i64 (z.a:Int)
 | 9=>.int .u64 z.x
 | 10=>jE z.cl z.a
 | 11=>.int .u64 (IntKind.u64.wrap (z.o+1))
 | 12=>.int .u64 (IntKind.u64.wrap (z.c3+1))
 | 13=>.int .i64 (z.cells.length:Int)
 | 14=>.int .i64 ((z.n:Int)+1)
 | 15=>.int .u64 z.v
 | 16=>.int .u64 z.u
 | _=>.int .i64 0
theorem MZ(z:MP)(hcut:z.n<256)(hy:z.x=z.u):∀ j9,ai (mX z hcut hy j9)=true:=by
 intro j9;unfold mX
 split<;>first | rfl | assumption | exact z.hl | exact z.hc | exact g8 _ _
def xL:List gn:=[(.geq,sy 8,.int .i64 0,.bool true),(.lss,sy 8,sy 13,.bool true),(.add,sy 0,.int .u64 1,sy 11),(.add,sy 3,.int .u64 1,sy 12),(.gtr,sy 14,.int .i64 256,.bool false),(.neq,sy 9,sy 16,.bool false)]
theorem Gg(z:MP)(hcut:z.n<256)(hy:z.x=z.u):∀ q ∈ xL,jg (mX z hcut hy) q:=by
 intro q hq;simp only[xL,List.mem_cons,List.not_mem_nil,or_false]at hq;rcases hq with rfl | rfl | rfl | rfl | rfl | rfl
 ·intro t ox oy;exact bG (by first|(simp;done)|(simp;omega))
 ·intro t ox oy;exact aQ (by simpa using z.ha)
 ·intro t ox oy;exact ax rfl
 ·intro t ox oy;exact ax rfl
 ·intro t ox oy;exact a_ (by first|(simp;done)|(simp;omega))
 ·intro t ox oy;exact eY (by first|(simp;done)|(simp;omega))
def En:List gW:=[]
theorem Gh(z:MP)(hcut:z.n<256)(hy:z.x=z.u):∀ q ∈ En,jD (mX z hcut hy) q:=by
 intro q hq;cases hq
def Eo:List gX:=[]
theorem Gi(z:MP)(hcut:z.n<256)(hy:z.x=z.u):∀ q ∈ Eo,jh (mX z hcut hy) q:=by
 intro q hq;cases hq
def Ep:List jf:=[]
@[reducible] def mY(z:MP)(hcut:z.n<256)(hy:z.x=z.u):Ev.Kn:={ val:=mX z hcut hy,leaf:=MZ z hcut hy,bs:=xL,us:=En,cs:=Eo,ks:=Ep,hb:=Gg z hcut hy,hu:=Gh z hcut hy,hc:=Gi z hcut hy,gs:=[dX (.st z.lg) z.n z.cl z.cells,dX (.st z.lg) z.n z.cl (z.cells.set z.a z.v),dX (.dy 423) (z.n+1) z.cl (z.cells.set z.a z.v)],ops:=[⟨[10,56],[sy 7],none,0,none,sy 13,none⟩,⟨[3,56],[sy 7,sy 8],none,0,none,sy 10,none⟩,⟨[1,28],[sy 10],none,0,none,sy 9,none⟩,⟨[2,28],[sy 10,sy 15],none,0,none,undef,some 1⟩,⟨[11,101,101],[sy 6],some (4,1,[.int .i64 3,sy 8,sy 9,sy 15]),1,some 423,.complex .f32 423 0,some 2⟩,⟨[10,101],[.complex .f32 423 0],none,2,none,sy 14,none⟩],cls:=[] }
theorem Id(z:MP)(hcut:z.n<256)(hy:z.x=z.u):@Ev.di (mY z hcut hy).sig prog:=by
 refine Ev.Kn.ok (mY z hcut hy) ?_ ?_ ?_
 ·intro q hq
  cases hq
 ·intro q hq
  simp only[mY,Ep,List.mem_cons,List.not_mem_nil,or_false]at hq;rcases hq with rfl | rfl | rfl | rfl | rfl | rfl
  ·exact jF rfl rfl rfl
  ·exact fK rfl rfl rfl rfl z.ha
  ·exact gZ rfl rfl z.ha (by show Value.int .u64 z.x=_;rw[z.hx])
  ·exact fL rfl rfl rfl z.ha rfl
  ·exact g7 rfl rfl rfl z.hn rfl
  ·exact eZ rfl rfl
 ·intro q hq
  cases hq
theorem M0(z:MP)(hcut:z.n<256)(hy:z.x=z.u):cZ prog (λB=>ji (.bool true) [(4,[sy 11,sy 1,sy 2,sy 12,sy 4,sy 5,.complex .f32 423 0,sy 7],105)] (some 2) (@Ev.dG (mY z hcut hy).sig B (@Ev.tn (mY z hcut hy).sig B 200) 116 [.pointer (some ⟨4,0,none⟩),sy 8,sy 16,sy 15] (fB [(4,.cells ([sy 0,sy 1,sy 2,sy 3,sy 4,sy 5,sy 6,sy 7]:List Value).toArray 105 (0,0)),(3,jr 0)] 100)))=true:=by kernel_rfl
def gC(z:MP)(hcut:z.n=256)(hy:z.x=z.u):Nat->Value
 | 0=>.int .u64 z.o
 | 1=>.int .u64 z.c1
 | 2=>.int .u64 z.c2
 | 3=>.int .u64 z.c3
 | 4=>.int .u64 z.c4
 | 5=>.int .u64 z.c5
 | 6=>z.lg
 | 7=>z.cl
 | 8=>.int .i64 (z.a:Int)
 | 9=>.int .u64 z.x
 | 10=>jE z.cl z.a
 | 11=>.int .u64 (IntKind.u64.wrap (z.o+1))
 | 12=>.int .u64 (IntKind.u64.wrap (z.c3+1))
 | 13=>.int .i64 (z.cells.length:Int)
 | 14=>.int .i64 ((z.n:Int)+1)
 | 15=>.int .u64 z.v
 | 16=>.int .u64 z.u
 | _=>.int .i64 0
theorem CI(z:MP)(hcut:z.n=256)(hy:z.x=z.u):∀ j9,ai (gC z hcut hy j9)=true:=by
 intro j9;unfold gC
 split<;>first | rfl | assumption | exact z.hl | exact z.hc | exact g8 _ _
def oq:List gn:=[(.geq,sy 8,.int .i64 0,.bool true),(.lss,sy 8,sy 13,.bool true),(.add,sy 0,.int .u64 1,sy 11),(.add,sy 3,.int .u64 1,sy 12),(.gtr,sy 14,.int .i64 256,.bool true),(.neq,sy 9,sy 16,.bool false)]
theorem xM(z:MP)(hcut:z.n=256)(hy:z.x=z.u):∀ q ∈ oq,jg (gC z hcut hy) q:=by
 intro q hq;simp only[oq,List.mem_cons,List.not_mem_nil,or_false]at hq;rcases hq with rfl | rfl | rfl | rfl | rfl | rfl
 ·intro t ox oy;exact bG (by first|(simp;done)|(simp;omega))
 ·intro t ox oy;exact aQ (by simpa using z.ha)
 ·intro t ox oy;exact ax rfl
 ·intro t ox oy;exact ax rfl
 ·intro t ox oy;exact a_ (by first|(simp;done)|(simp;omega))
 ·intro t ox oy;exact eY (by first|(simp;done)|(simp;omega))
def tH:List gW:=[]
theorem xN(z:MP)(hcut:z.n=256)(hy:z.x=z.u):∀ q ∈ tH,jD (gC z hcut hy) q:=by
 intro q hq;cases hq
def tI:List gX:=[]
theorem xO(z:MP)(hcut:z.n=256)(hy:z.x=z.u):∀ q ∈ tI,jh (gC z hcut hy) q:=by
 intro q hq;cases hq
def tJ:List jf:=[]
@[reducible] def gD(z:MP)(hcut:z.n=256)(hy:z.x=z.u):Ev.Kn:={ val:=gC z hcut hy,leaf:=CI z hcut hy,bs:=oq,us:=tH,cs:=tI,ks:=tJ,hb:=xM z hcut hy,hu:=xN z hcut hy,hc:=xO z hcut hy,gs:=[dX (.st z.lg) z.n z.cl z.cells,dX (.st z.lg) z.n z.cl (z.cells.set z.a z.v),dX (.dy 423) (z.n+1) z.cl (z.cells.set z.a z.v),dX (.dy 427) z.n z.cl (z.cells.set z.a z.v)],ops:=[⟨[10,56],[sy 7],none,0,none,sy 13,none⟩,⟨[3,56],[sy 7,sy 8],none,0,none,sy 10,none⟩,⟨[1,28],[sy 10],none,0,none,sy 9,none⟩,⟨[2,28],[sy 10,sy 15],none,0,none,undef,some 1⟩,⟨[11,101,101],[sy 6],some (4,1,[.int .i64 3,sy 8,sy 9,sy 15]),1,some 423,.complex .f32 423 0,some 2⟩,⟨[10,101],[.complex .f32 423 0],none,2,none,sy 14,none⟩,⟨[4,101,1,0,0],[.complex .f32 423 0,.int .i64 1],none,2,some 427,.complex .f32 427 0,some 3⟩],cls:=[] }
theorem AI(z:MP)(hcut:z.n=256)(hy:z.x=z.u):@Ev.di (gD z hcut hy).sig prog:=by
 refine Ev.Kn.ok (gD z hcut hy) ?_ ?_ ?_
 ·intro q hq
  cases hq
 ·intro q hq
  simp only[gD,tJ,List.mem_cons,List.not_mem_nil,or_false]at hq;rcases hq with rfl | rfl | rfl | rfl | rfl | rfl | rfl
  ·exact jF rfl rfl rfl
  ·exact fK rfl rfl rfl rfl z.ha
  ·exact gZ rfl rfl z.ha (by show Value.int .u64 z.x=_;rw[z.hx])
  ·exact fL rfl rfl rfl z.ha rfl
  ·exact g7 rfl rfl rfl z.hn rfl
  ·exact eZ rfl rfl
  ·exact rV rfl rfl
 ·intro q hq
  cases hq
theorem CJ(z:MP)(hcut:z.n=256)(hy:z.x=z.u):cZ prog (λB=>ji (.bool true) [(4,[sy 11,sy 1,sy 2,sy 12,sy 4,sy 5,.complex .f32 427 0,sy 7],105)] (some 3) (@Ev.dG (gD z hcut hy).sig B (@Ev.tn (gD z hcut hy).sig B 200) 116 [.pointer (some ⟨4,0,none⟩),sy 8,sy 16,sy 15] (fB [(4,.cells ([sy 0,sy 1,sy 2,sy 3,sy 4,sy 5,sy 6,sy 7]:List Value).toArray 105 (0,0)),(3,jr 0)] 100)))=true:=by kernel_rfl
def qv(z:MP)(hcut:z.n<256)(hy:z.x≠z.u):Nat->Value
 | 0=>.int .u64 z.o
 | 1=>.int .u64 z.c1
 | 2=>.int .u64 z.c2
 | 3=>.int .u64 z.c3
 | 4=>.int .u64 z.c4
 | 5=>.int .u64 z.c5
 | 6=>z.lg
 | 7=>z.cl
 | 8=>.int .i64 (z.a:Int)
 | 9=>.int .u64 z.x
 | 10=>jE z.cl z.a
 | 11=>.int .u64 (IntKind.u64.wrap (z.o+1))
 | 12=>.int .u64 (IntKind.u64.wrap (z.c4+1))
 | 13=>.int .i64 (z.cells.length:Int)
 | 14=>.int .i64 ((z.n:Int)+1)
 | 15=>.int .u64 z.v
 | 16=>.int .u64 z.u
 | _=>.int .i64 0
theorem PR(z:MP)(hcut:z.n<256)(hy:z.x≠z.u):∀ j9,ai (qv z hcut hy j9)=true:=by
 intro j9;unfold qv
 split<;>first | rfl | assumption | exact z.hl | exact z.hc | exact g8 _ _
def CK:List gn:=[(.geq,sy 8,.int .i64 0,.bool true),(.lss,sy 8,sy 13,.bool true),(.add,sy 0,.int .u64 1,sy 11),(.add,sy 4,.int .u64 1,sy 12),(.gtr,sy 14,.int .i64 256,.bool false),(.neq,sy 9,sy 16,.bool true)]
theorem Ie(z:MP)(hcut:z.n<256)(hy:z.x≠z.u):∀ q ∈ CK,jg (qv z hcut hy) q:=by
 intro q hq;simp only[CK,List.mem_cons,List.not_mem_nil,or_false]at hq;rcases hq with rfl | rfl | rfl | rfl | rfl | rfl
 ·intro t ox oy;exact bG (by first|(simp;done)|(simp;omega))
 ·intro t ox oy;exact aQ (by simpa using z.ha)
 ·intro t ox oy;exact ax rfl
 ·intro t ox oy;exact ax rfl
 ·intro t ox oy;exact a_ (by first|(simp;done)|(simp;omega))
 ·intro t ox oy;exact eY (by first|(simp;done)|(simp;omega))
def If:List gW:=[]
theorem Ig(z:MP)(hcut:z.n<256)(hy:z.x≠z.u):∀ q ∈ If,jD (qv z hcut hy) q:=by
 intro q hq;cases hq
def Ih:List gX:=[]
theorem Ii(z:MP)(hcut:z.n<256)(hy:z.x≠z.u):∀ q ∈ Ih,jh (qv z hcut hy) q:=by
 intro q hq;cases hq
def Ij:List jf:=[]
@[reducible] def qw(z:MP)(hcut:z.n<256)(hy:z.x≠z.u):Ev.Kn:={ val:=qv z hcut hy,leaf:=PR z hcut hy,bs:=CK,us:=If,cs:=Ih,ks:=Ij,hb:=Ie z hcut hy,hu:=Ig z hcut hy,hc:=Ii z hcut hy,gs:=[dX (.st z.lg) z.n z.cl z.cells,dX (.st z.lg) z.n z.cl (z.cells.set z.a z.x),dX (.dy 423) (z.n+1) z.cl (z.cells.set z.a z.x)],ops:=[⟨[10,56],[sy 7],none,0,none,sy 13,none⟩,⟨[3,56],[sy 7,sy 8],none,0,none,sy 10,none⟩,⟨[1,28],[sy 10],none,0,none,sy 9,none⟩,⟨[2,28],[sy 10,sy 9],none,0,none,undef,some 1⟩,⟨[11,101,101],[sy 6],some (4,1,[.int .i64 3,sy 8,sy 9,sy 9]),1,some 423,.complex .f32 423 0,some 2⟩,⟨[10,101],[.complex .f32 423 0],none,2,none,sy 14,none⟩],cls:=[] }
theorem M1(z:MP)(hcut:z.n<256)(hy:z.x≠z.u):@Ev.di (qw z hcut hy).sig prog:=by
 refine Ev.Kn.ok (qw z hcut hy) ?_ ?_ ?_
 ·intro q hq
  cases hq
 ·intro q hq
  simp only[qw,Ij,List.mem_cons,List.not_mem_nil,or_false]at hq;rcases hq with rfl | rfl | rfl | rfl | rfl | rfl
  ·exact jF rfl rfl rfl
  ·exact fK rfl rfl rfl rfl z.ha
  ·exact gZ rfl rfl z.ha (by show Value.int .u64 z.x=_;rw[z.hx])
  ·exact fL rfl rfl rfl z.ha rfl
  ·exact g7 rfl rfl rfl z.hn rfl
  ·exact eZ rfl rfl
 ·intro q hq
  cases hq
theorem PS(z:MP)(hcut:z.n<256)(hy:z.x≠z.u):cZ prog (λB=>ji (.bool false) [(4,[sy 11,sy 1,sy 2,sy 3,sy 12,sy 5,.complex .f32 423 0,sy 7],105)] (some 2) (@Ev.dG (qw z hcut hy).sig B (@Ev.tn (qw z hcut hy).sig B 200) 116 [.pointer (some ⟨4,0,none⟩),sy 8,sy 16,sy 15] (fB [(4,.cells ([sy 0,sy 1,sy 2,sy 3,sy 4,sy 5,sy 6,sy 7]:List Value).toArray 105 (0,0)),(3,jr 0)] 100)))=true:=by kernel_rfl
def iW(z:MP)(hcut:z.n=256)(hy:z.x≠z.u):Nat->Value
 | 0=>.int .u64 z.o
 | 1=>.int .u64 z.c1
 | 2=>.int .u64 z.c2
 | 3=>.int .u64 z.c3
 | 4=>.int .u64 z.c4
 | 5=>.int .u64 z.c5
 | 6=>z.lg
 | 7=>z.cl
 | 8=>.int .i64 (z.a:Int)
 | 9=>.int .u64 z.x
 | 10=>jE z.cl z.a
 | 11=>.int .u64 (IntKind.u64.wrap (z.o+1))
 | 12=>.int .u64 (IntKind.u64.wrap (z.c4+1))
 | 13=>.int .i64 (z.cells.length:Int)
 | 14=>.int .i64 ((z.n:Int)+1)
 | 15=>.int .u64 z.v
 | 16=>.int .u64 z.u
 | _=>.int .i64 0
theorem Gj(z:MP)(hcut:z.n=256)(hy:z.x≠z.u):∀ j9,ai (iW z hcut hy j9)=true:=by
 intro j9;unfold iW
 split<;>first | rfl | assumption | exact z.hl | exact z.hc | exact g8 _ _
def qx:List gn:=[(.geq,sy 8,.int .i64 0,.bool true),(.lss,sy 8,sy 13,.bool true),(.add,sy 0,.int .u64 1,sy 11),(.add,sy 4,.int .u64 1,sy 12),(.gtr,sy 14,.int .i64 256,.bool true),(.neq,sy 9,sy 16,.bool true)]
theorem AJ(z:MP)(hcut:z.n=256)(hy:z.x≠z.u):∀ q ∈ qx,jg (iW z hcut hy) q:=by
 intro q hq;simp only[qx,List.mem_cons,List.not_mem_nil,or_false]at hq;rcases hq with rfl | rfl | rfl | rfl | rfl | rfl
 ·intro t ox oy;exact bG (by first|(simp;done)|(simp;omega))
 ·intro t ox oy;exact aQ (by simpa using z.ha)
 ·intro t ox oy;exact ax rfl
 ·intro t ox oy;exact ax rfl
 ·intro t ox oy;exact a_ (by first|(simp;done)|(simp;omega))
 ·intro t ox oy;exact eY (by first|(simp;done)|(simp;omega))
def v4:List gW:=[]
theorem AK(z:MP)(hcut:z.n=256)(hy:z.x≠z.u):∀ q ∈ v4,jD (iW z hcut hy) q:=by
 intro q hq;cases hq
def v5:List gX:=[]
theorem AL(z:MP)(hcut:z.n=256)(hy:z.x≠z.u):∀ q ∈ v5,jh (iW z hcut hy) q:=by
 intro q hq;cases hq
def v6:List jf:=[]
@[reducible] def iX(z:MP)(hcut:z.n=256)(hy:z.x≠z.u):Ev.Kn:={ val:=iW z hcut hy,leaf:=Gj z hcut hy,bs:=qx,us:=v4,cs:=v5,ks:=v6,hb:=AJ z hcut hy,hu:=AK z hcut hy,hc:=AL z hcut hy,gs:=[dX (.st z.lg) z.n z.cl z.cells,dX (.st z.lg) z.n z.cl (z.cells.set z.a z.x),dX (.dy 423) (z.n+1) z.cl (z.cells.set z.a z.x),dX (.dy 427) z.n z.cl (z.cells.set z.a z.x)],ops:=[⟨[10,56],[sy 7],none,0,none,sy 13,none⟩,⟨[3,56],[sy 7,sy 8],none,0,none,sy 10,none⟩,⟨[1,28],[sy 10],none,0,none,sy 9,none⟩,⟨[2,28],[sy 10,sy 9],none,0,none,undef,some 1⟩,⟨[11,101,101],[sy 6],some (4,1,[.int .i64 3,sy 8,sy 9,sy 9]),1,some 423,.complex .f32 423 0,some 2⟩,⟨[10,101],[.complex .f32 423 0],none,2,none,sy 14,none⟩,⟨[4,101,1,0,0],[.complex .f32 423 0,.int .i64 1],none,2,some 427,.complex .f32 427 0,some 3⟩],cls:=[] }
theorem CL(z:MP)(hcut:z.n=256)(hy:z.x≠z.u):@Ev.di (iX z hcut hy).sig prog:=by
 refine Ev.Kn.ok (iX z hcut hy) ?_ ?_ ?_
 ·intro q hq
  cases hq
 ·intro q hq
  simp only[iX,v6,List.mem_cons,List.not_mem_nil,or_false]at hq;rcases hq with rfl | rfl | rfl | rfl | rfl | rfl | rfl
  ·exact jF rfl rfl rfl
  ·exact fK rfl rfl rfl rfl z.ha
  ·exact gZ rfl rfl z.ha (by show Value.int .u64 z.x=_;rw[z.hx])
  ·exact fL rfl rfl rfl z.ha rfl
  ·exact g7 rfl rfl rfl z.hn rfl
  ·exact eZ rfl rfl
  ·exact rV rfl rfl
 ·intro q hq
  cases hq
theorem Gk(z:MP)(hcut:z.n=256)(hy:z.x≠z.u):cZ prog (λB=>ji (.bool false) [(4,[sy 11,sy 1,sy 2,sy 3,sy 12,sy 5,.complex .f32 427 0,sy 7],105)] (some 3) (@Ev.dG (iX z hcut hy).sig B (@Ev.tn (iX z hcut hy).sig B 200) 116 [.pointer (some ⟨4,0,none⟩),sy 8,sy 16,sy 15] (fB [(4,.cells ([sy 0,sy 1,sy 2,sy 3,sy 4,sy 5,sy 6,sy 7]:List Value).toArray 105 (0,0)),(3,jr 0)] 100)))=true:=by kernel_rfl
structure aG where
 cells:List Int
 ops:Int
def jj(bm:Nat)(m:aG)(F:Nat->Prop)(w:World):Prop :=
 ∃ (c1 c2 c3 c4 c5:Int) (lg cl:Value) (n:Nat) (G:Nat->Prop),n<=256/\w.heap[bm]? = some (.cells #[.int .u64 m.ops,.int .u64 c1,.int .u64 c2,.int .u64 c3,.int .u64 c4,.int .u64 c5,lg,cl] 105 (0,0))/\
  k_ (.st lg) n cl m.cells (λ_=>none) G w/\¬ G bm/\∀ j,F j↔j=bm\/G j
def Grow(F F':Nat->Prop)(w w':World):Prop:=Ev.Turn F w w'/\∀ j,F' j->j<w'.heap.size/\(F j\/w.heap.size<=j)
theorem jG{lg:Value}{n:Nat}{cl:Value}{cells:List Int}{ι κ:ag}{F:Nat->Prop}{w:World}(h:k_ (.st lg) n cl cells ι F w):k_ (.st lg) n cl cells κ F w:=h
theorem pm{lg:LV}{n:Nat}{cl:Value}{cells:List Int}{ι:ag}{F:Nat->Prop}{w:World}(h:k_ lg n cl cells ι F w):∀ j,F j->j<w.heap.size:=by
 obtain⟨v,xl,Fl,Fc,h1,h2,h3,h4,h5⟩:=h;intro j hj;rcases(h5 j).1 hj with hj | hj
 ·exact h2.lt j hj
 ·exact h3.lt j hj
theorem mZ{lg:Value}{n:Nat}{cl:Value}{cells:List Int}{ι:ag}{F:Nat->Prop}{w:World}(h:k_ (.st lg) n cl cells ι F w):ai lg=true/\ai cl=true:=by
 obtain⟨v,xl,Fl,Fc,h1,h2,h3,h4,h5⟩:=h;have h1':v=lg:=h1;subst h1';exact⟨h2.leaf,h3.leaf⟩
theorem M2{d:Nat}{n:Nat}{cl:Value}{cells:List Int}{κ:ag}{F:Nat->Prop}{w:World}(h:k_ (.dy d) n cl cells κ F w):k_ (.st (Ev.dec ((κ d).getD 0))) n cl cells (λ_=>none) F w:=by
 obtain⟨v,xl,Fl,Fc,⟨c,e1,e2⟩,h2,h3,h4,h5⟩:=h;refine⟨v,xl,Fl,Fc,?_,h2,h3,h4,h5⟩;show v=_;rw[e1,← e2];rfl
section
variable[aP]
theorem f5{ι:ag} : cN ι [] []:=⟨rfl,λi v v' h=>by simp at h⟩
theorem bq{ι:ag}{x x':Value}{l l':List Value}(h:ao ι x x')(k:cN ι l l'):cN ι (x::l) (x'::l'):=by
 refine⟨by simp[k.1],λi v v' h1 h2=>?_⟩
 match i with
 | 0=>simp at h1 h2;subst h1 h2;exact h
 | i+1=>exact k.2 i v v' (by simpa using h1) (by simpa using h2)
theorem jH{ι:ag}{l l':List Value}(h:cN ι l l'):bh ι l.toArray l'.toArray:=⟨by simp[h.1],λi v v' h1 h2=>h.2 i v v' (by simpa using h1) (by simpa using h2)⟩
theorem syms(ι:ag)(ms:List Nat):cN ι (ms.map sy) (ms.map aP.val):=by
 induction ms with
 | nil=>exact f5
 | cons m ms ih=>exact bq (.sym m 0 _ rfl) ih
end
theorem Ik{bm:Nat}{m:aG}{F:Nat->Prop}{w:World}(h:jj bm m F w):∀ j,F j->j<w.heap.size:=by
 obtain⟨c1,c2,c3,c4,c5,lg,cl,n,G,h1,h2,h3,h4,h5⟩:=h;intro j hj;rcases(h5 j).1 hj with rfl | hj
 ·exact(Array.getElem?_eq_some_iff.1 h2).1
 ·exact pm h3 j hj
theorem tK{bm:Nat}{m:aG}{F:Nat->Prop}{w w':World}(h:jj bm m F w)(hk:∀ j,F j->w'.heap[j]? = w.heap[j]?):jj bm m F w':=by
 obtain⟨c1,c2,c3,c4,c5,lg,cl,n,G,h1,h2,h3,h4,h5⟩:=h;exact⟨c1,c2,c3,c4,c5,lg,cl,n,G,h1,by rw[hk bm ((h5 bm).2 (.inl rfl))];exact h2,(dX (.st lg) n cl m.cells).keep _ _ _ _ (λj hj=>hk j ((h5 j).2 (.inr hj))) h3,h4,h5⟩
theorem g9{bm:Nat}{m m':aG}{F G F1:Nat->Prop}{w w1:World}{c1 c2 c3 c4 c5:Int}{cl:Value}{n d:Nat}{κ:ag}(hF:∀ j,F j↔j=bm\/G j)(hG:∀ j,G j->j<w.heap.size)(hn:n<=256)
  (hb:w1.heap[bm]? = some (.cells #[.int .u64 m'.ops,.int .u64 c1,.int .u64 c2,.int .u64 c3,.int .u64 c4,.int .u64 c5,Ev.dec ((κ d).getD 0),cl] 105 (0,0))) (h:k_ (.dy d) n cl m'.cells κ F1 w1) (mg:¬ F1 bm)
  (hF1:∀ j,F1 j->j<w1.heap.size/\(G j\/w.heap.size<=j)) (ht:Ev.Turn (λj=>j=bm\/G j) w w1) (Gl:bm<w.heap.size):∃ F',jj bm m' F' w1/\Grow F F' w w1:=by
 refine⟨λj=>j=bm\/F1 j,⟨c1,c2,c3,c4,c5,_,cl,n,F1,hn,hb,M2 h,mg,λj=>Iff.rfl⟩,⟨ht.os,ht.tape,ht.output,ht.size,λk hk hnf=>ht.block k hk (λhh=>hnf ((hF k).2 hh))⟩,λj hj=>?_⟩;rcases hj with rfl | hj
 ·exact⟨Nat.lt_of_lt_of_le Gl ht.size,.inl ((hF j).2 (.inl rfl))⟩
 ·exact⟨(hF1 j hj).1,(hF1 j hj).2.imp (λh=>(hF j).2 (.inr h)) id⟩
theorem Gm{bm:Nat}{m:aG}{F:Nat->Prop}{w:World}(h:jj bm m F w){a:Nat}(ha:a<m.cells.length)(ha2:(a:Int)<=9223372036854775807) :
  Calls prog 22 #[.pointer (some ⟨bm,0,none⟩),.int .i64 (a:Int)] w λe w'=>∃ F',e=.returned (.int .u64 m.cells[a])/\jj bm ⟨m.cells,IntKind.u64.wrap (m.ops+1)⟩ F' w'/\Grow F F' w w':=by
 obtain⟨c1,c2,c3,c4,c5,lg,cl,n,G,h1,h2,h3,h4,h5⟩:=h;obtain⟨l1,l2⟩:=mZ h3;have hG:=pm h3;have Gl:=(Array.getElem?_eq_some_iff.1 h2).1
 by_cases hcut:n=256
 ·letI:aP:=(ko ⟨m.ops,c1,c2,c3,c4,c5,lg,cl,a,n,m.cells[a],0,0,m.cells,l1,l2,h1,ha,rfl,ha2⟩ hcut).sig
  refine(gY Tryz.codeOk (Gd ⟨m.ops,c1,c2,c3,c4,c5,lg,cl,a,n,m.cells[a],0,0,m.cells,l1,l2,h1,ha,rfl,ha2⟩ hcut) cR (args:=#[.pointer (some ⟨4,0,none⟩),sy 8]) (bm:=bm) (F:=G) (cs:=[sy 0,sy 1,sy 2,sy 3,sy 4,sy 5,sy 6,sy 7]) (H7 ⟨m.ops,c1,c2,c3,c4,c5,lg,cl,a,n,m.cells[a],0,0,m.cells,l1,l2,h1,ha,rfl,ha2⟩ hcut) (by decide) h2 (syms _ [0,1,2,3,4,5,6,7]) ⟨_,rfl,jG h3⟩ hG h4 (jH (bq (.ptr 4 0 bm rfl) (bq (.sym 8 0 _ rfl) f5))) (by kernel_rfl)).mono ?_;rintro e w1 ⟨κ,v',rfl,hv,k4,hb1,⟨F1,⟨PT,q1,q2⟩,mg,hF1⟩,ht⟩;cases q1
  obtain⟨F',r1,r2⟩:=g9 (m:=m) (m':=⟨m.cells,IntKind.u64.wrap (m.ops+1)⟩) (d:=419) h5 hG (show n<=256 by omega) hb1 (by
   have q3:k_ (.dy 419) (n) cl (m.cells.set a m.cells[a]) κ F1 w1:=q2;rw[List.set_getElem_self]at q3
   exact q3) mg hF1 ht Gl
  exact⟨F',by rw[xK hv];rfl,r1,r2⟩
 have hcut:n<256:=by omega
 letI:aP:=(vX ⟨m.ops,c1,c2,c3,c4,c5,lg,cl,a,n,m.cells[a],0,0,m.cells,l1,l2,h1,ha,rfl,ha2⟩ hcut).sig;refine(gY Tryz.codeOk (PK ⟨m.ops,c1,c2,c3,c4,c5,lg,cl,a,n,m.cells[a],0,0,m.cells,l1,l2,h1,ha,rfl,ha2⟩ hcut) cR (args:=#[.pointer (some ⟨4,0,none⟩),sy 8]) (bm:=bm) (F:=G) (cs:=[sy 0,sy 1,sy 2,sy 3,sy 4,sy 5,sy 6,sy 7]) (RY ⟨m.ops,c1,c2,c3,c4,c5,lg,cl,a,n,m.cells[a],0,0,m.cells,l1,l2,h1,ha,rfl,ha2⟩ hcut) (by decide) h2 (syms _ [0,1,2,3,4,5,6,7]) ⟨_,rfl,jG h3⟩ hG h4 (jH (bq (.ptr 4 0 bm rfl) (bq (.sym 8 0 _ rfl) f5))) (by kernel_rfl)).mono ?_;rintro e w1 ⟨κ,v',rfl,hv,k4,hb1,⟨F1,⟨PT,q1,q2⟩,mg,hF1⟩,ht⟩;cases q1
 obtain⟨F',r1,r2⟩:=g9 (m:=m) (m':=⟨m.cells,IntKind.u64.wrap (m.ops+1)⟩) (d:=415) h5 hG (show n+1<=256 by omega) hb1 (by
  have q3:k_ (.dy 415) (n+1) cl (m.cells.set a m.cells[a]) κ F1 w1:=q2;rw[List.set_getElem_self]at q3
  exact q3) mg hF1 ht Gl
 exact⟨F',by rw[xK hv];rfl,r1,r2⟩
theorem PU{bm:Nat}{m:aG}{F:Nat->Prop}{w:World}(h:jj bm m F w){a:Nat}(ha:a<m.cells.length)(ha2:(a:Int)<=9223372036854775807)(u v:Int)(hy:m.cells[a]≠u) :
  Calls prog 116 #[.pointer (some ⟨bm,0,none⟩),.int .i64 (a:Int),.int .u64 u,.int .u64 v] w λe w'=>∃ F',e=.returned (.bool false)/\jj bm ⟨m.cells,IntKind.u64.wrap (m.ops+1)⟩ F' w'/\Grow F F' w w':=by
 obtain⟨c1,c2,c3,c4,c5,lg,cl,n,G,h1,h2,h3,h4,h5⟩:=h;obtain⟨l1,l2⟩:=mZ h3;have hG:=pm h3;have Gl:=(Array.getElem?_eq_some_iff.1 h2).1
 by_cases hcut:n=256
 ·letI:aP:=(iX ⟨m.ops,c1,c2,c3,c4,c5,lg,cl,a,n,m.cells[a],v,u,m.cells,l1,l2,h1,ha,rfl,ha2⟩ hcut hy).sig
  refine(gY Tryz.codeOk (CL ⟨m.ops,c1,c2,c3,c4,c5,lg,cl,a,n,m.cells[a],v,u,m.cells,l1,l2,h1,ha,rfl,ha2⟩ hcut hy) cR (args:=#[.pointer (some ⟨4,0,none⟩),sy 8,sy 16,sy 15]) (bm:=bm) (F:=G) (cs:=[sy 0,sy 1,sy 2,sy 3,sy 4,sy 5,sy 6,sy 7]) (Gk ⟨m.ops,c1,c2,c3,c4,c5,lg,cl,a,n,m.cells[a],v,u,m.cells,l1,l2,h1,ha,rfl,ha2⟩ hcut hy) (by decide) h2 (syms _ [0,1,2,3,4,5,6,7]) ⟨_,rfl,jG h3⟩ hG h4 (jH (bq (.ptr 4 0 bm rfl) (bq (.sym 8 0 _ rfl) (bq (.sym 16 0 _ rfl) (bq (.sym 15 0 _ rfl) f5))))) (by kernel_rfl)).mono ?_;rintro e w1 ⟨κ,v',rfl,hv,k4,hb1,⟨F1,⟨PT,q1,q2⟩,mg,hF1⟩,ht⟩;cases q1
  obtain⟨F',r1,r2⟩:=g9 (m:=m) (m':=⟨m.cells,IntKind.u64.wrap (m.ops+1)⟩) (d:=427) h5 hG (show n<=256 by omega) hb1 (by
   have q3:k_ (.dy 427) (n) cl (m.cells.set a m.cells[a]) κ F1 w1:=q2;rw[List.set_getElem_self]at q3
   exact q3) mg hF1 ht Gl
  exact⟨F',by cases hv;rfl,r1,r2⟩
 have hcut:n<256:=by omega
 letI:aP:=(qw ⟨m.ops,c1,c2,c3,c4,c5,lg,cl,a,n,m.cells[a],v,u,m.cells,l1,l2,h1,ha,rfl,ha2⟩ hcut hy).sig;refine(gY Tryz.codeOk (M1 ⟨m.ops,c1,c2,c3,c4,c5,lg,cl,a,n,m.cells[a],v,u,m.cells,l1,l2,h1,ha,rfl,ha2⟩ hcut hy) cR (args:=#[.pointer (some ⟨4,0,none⟩),sy 8,sy 16,sy 15]) (bm:=bm) (F:=G) (cs:=[sy 0,sy 1,sy 2,sy 3,sy 4,sy 5,sy 6,sy 7]) (PS ⟨m.ops,c1,c2,c3,c4,c5,lg,cl,a,n,m.cells[a],v,u,m.cells,l1,l2,h1,ha,rfl,ha2⟩ hcut hy) (by decide) h2 (syms _ [0,1,2,3,4,5,6,7]) ⟨_,rfl,jG h3⟩ hG h4 (jH (bq (.ptr 4 0 bm rfl) (bq (.sym 8 0 _ rfl) (bq (.sym 16 0 _ rfl) (bq (.sym 15 0 _ rfl) f5))))) (by kernel_rfl)).mono ?_;rintro e w1 ⟨κ,v',rfl,hv,k4,hb1,⟨F1,⟨PT,q1,q2⟩,mg,hF1⟩,ht⟩;cases q1
 obtain⟨F',r1,r2⟩:=g9 (m:=m) (m':=⟨m.cells,IntKind.u64.wrap (m.ops+1)⟩) (d:=423) h5 hG (show n+1<=256 by omega) hb1 (by
  have q3:k_ (.dy 423) (n+1) cl (m.cells.set a m.cells[a]) κ F1 w1:=q2;rw[List.set_getElem_self]at q3
  exact q3) mg hF1 ht Gl
 exact⟨F',by cases hv;rfl,r1,r2⟩
theorem M3{bm:Nat}{m:aG}{F:Nat->Prop}{w:World}(h:jj bm m F w){a:Nat}(ha:a<m.cells.length)(ha2:(a:Int)<=9223372036854775807)(u v:Int)(hy:m.cells[a]=u) :
  Calls prog 116 #[.pointer (some ⟨bm,0,none⟩),.int .i64 (a:Int),.int .u64 u,.int .u64 v] w λe w'=>∃ F',e=.returned (.bool true)/\jj bm ⟨m.cells.set a v,IntKind.u64.wrap (m.ops+1)⟩ F' w'/\Grow F F' w w':=by
 obtain⟨c1,c2,c3,c4,c5,lg,cl,n,G,h1,h2,h3,h4,h5⟩:=h;obtain⟨l1,l2⟩:=mZ h3;have hG:=pm h3;have Gl:=(Array.getElem?_eq_some_iff.1 h2).1
 by_cases hcut:n=256
 ·letI:aP:=(gD ⟨m.ops,c1,c2,c3,c4,c5,lg,cl,a,n,m.cells[a],v,u,m.cells,l1,l2,h1,ha,rfl,ha2⟩ hcut hy).sig
  refine(gY Tryz.codeOk (AI ⟨m.ops,c1,c2,c3,c4,c5,lg,cl,a,n,m.cells[a],v,u,m.cells,l1,l2,h1,ha,rfl,ha2⟩ hcut hy) cR (args:=#[.pointer (some ⟨4,0,none⟩),sy 8,sy 16,sy 15]) (bm:=bm) (F:=G) (cs:=[sy 0,sy 1,sy 2,sy 3,sy 4,sy 5,sy 6,sy 7]) (CJ ⟨m.ops,c1,c2,c3,c4,c5,lg,cl,a,n,m.cells[a],v,u,m.cells,l1,l2,h1,ha,rfl,ha2⟩ hcut hy) (by decide) h2 (syms _ [0,1,2,3,4,5,6,7]) ⟨_,rfl,jG h3⟩ hG h4 (jH (bq (.ptr 4 0 bm rfl) (bq (.sym 8 0 _ rfl) (bq (.sym 16 0 _ rfl) (bq (.sym 15 0 _ rfl) f5))))) (by kernel_rfl)).mono ?_;rintro e w1 ⟨κ,v',rfl,hv,k4,hb1,⟨F1,⟨PT,q1,q2⟩,mg,hF1⟩,ht⟩;cases q1
  obtain⟨F',r1,r2⟩:=g9 (m:=m) (m':=⟨m.cells.set a v,IntKind.u64.wrap (m.ops+1)⟩) (d:=427) h5 hG (show n<=256 by omega) hb1 (by
   have q3:k_ (.dy 427) (n) cl (m.cells.set a v) κ F1 w1:=q2
   exact q3) mg hF1 ht Gl
  exact⟨F',by cases hv;rfl,r1,r2⟩
 have hcut:n<256:=by omega
 letI:aP:=(mY ⟨m.ops,c1,c2,c3,c4,c5,lg,cl,a,n,m.cells[a],v,u,m.cells,l1,l2,h1,ha,rfl,ha2⟩ hcut hy).sig;refine(gY Tryz.codeOk (Id ⟨m.ops,c1,c2,c3,c4,c5,lg,cl,a,n,m.cells[a],v,u,m.cells,l1,l2,h1,ha,rfl,ha2⟩ hcut hy) cR (args:=#[.pointer (some ⟨4,0,none⟩),sy 8,sy 16,sy 15]) (bm:=bm) (F:=G) (cs:=[sy 0,sy 1,sy 2,sy 3,sy 4,sy 5,sy 6,sy 7]) (M0 ⟨m.ops,c1,c2,c3,c4,c5,lg,cl,a,n,m.cells[a],v,u,m.cells,l1,l2,h1,ha,rfl,ha2⟩ hcut hy) (by decide) h2 (syms _ [0,1,2,3,4,5,6,7]) ⟨_,rfl,jG h3⟩ hG h4 (jH (bq (.ptr 4 0 bm rfl) (bq (.sym 8 0 _ rfl) (bq (.sym 16 0 _ rfl) (bq (.sym 15 0 _ rfl) f5))))) (by kernel_rfl)).mono ?_;rintro e w1 ⟨κ,v',rfl,hv,k4,hb1,⟨F1,⟨PT,q1,q2⟩,mg,hF1⟩,ht⟩;cases q1
 obtain⟨F',r1,r2⟩:=g9 (m:=m) (m':=⟨m.cells.set a v,IntKind.u64.wrap (m.ops+1)⟩) (d:=423) h5 hG (show n+1<=256 by omega) hb1 (by
  have q3:k_ (.dy 423) (n+1) cl (m.cells.set a v) κ F1 w1:=q2
  exact q3) mg hF1 ht Gl
 exact⟨F',by cases hv;rfl,r1,r2⟩
theorem CM{bm:Nat}{m:aG}{F:Nat->Prop}{w:World}(h:jj bm m F w){a:Nat}(ha:a<m.cells.length)(ha2:(a:Int)<=9223372036854775807)(v:Int) :
  Calls prog 30 #[.pointer (some ⟨bm,0,none⟩),.int .i64 (a:Int),.int .u64 v] w λe w'=>∃ F',e=.returned (.tuple #[])/\jj bm ⟨m.cells.set a v,IntKind.u64.wrap (m.ops+1)⟩ F' w'/\Grow F F' w w':=by
 obtain⟨c1,c2,c3,c4,c5,lg,cl,n,G,h1,h2,h3,h4,h5⟩:=h;obtain⟨l1,l2⟩:=mZ h3;have hG:=pm h3;have Gl:=(Array.getElem?_eq_some_iff.1 h2).1
 by_cases hcut:n=256
 ·letI:aP:=(iV ⟨m.ops,c1,c2,c3,c4,c5,lg,cl,a,n,m.cells[a],v,0,m.cells,l1,l2,h1,ha,rfl,ha2⟩ hcut).sig
  refine(gY Tryz.codeOk (CH ⟨m.ops,c1,c2,c3,c4,c5,lg,cl,a,n,m.cells[a],v,0,m.cells,l1,l2,h1,ha,rfl,ha2⟩ hcut) cR (args:=#[.pointer (some ⟨4,0,none⟩),sy 8,sy 15]) (bm:=bm) (F:=G) (cs:=[sy 0,sy 1,sy 2,sy 3,sy 4,sy 5,sy 6,sy 7]) (Gf ⟨m.ops,c1,c2,c3,c4,c5,lg,cl,a,n,m.cells[a],v,0,m.cells,l1,l2,h1,ha,rfl,ha2⟩ hcut) (by decide) h2 (syms _ [0,1,2,3,4,5,6,7]) ⟨_,rfl,jG h3⟩ hG h4 (jH (bq (.ptr 4 0 bm rfl) (bq (.sym 8 0 _ rfl) (bq (.sym 15 0 _ rfl) f5)))) (by kernel_rfl)).mono ?_;rintro e w1 ⟨κ,v',rfl,hv,k4,hb1,⟨F1,⟨PT,q1,q2⟩,mg,hF1⟩,ht⟩;cases q1
  obtain⟨F',r1,r2⟩:=g9 (m:=m) (m':=⟨m.cells.set a v,IntKind.u64.wrap (m.ops+1)⟩) (d:=423) h5 hG (show n<=256 by omega) hb1 (by
   have q3:k_ (.dy 423) (n) cl (m.cells.set a v) κ F1 w1:=q2
   exact q3) mg hF1 ht Gl
  exact⟨F',by cases hv with | tuple f f1 hf _=>rw[Array.eq_empty_of_size_eq_zero hf.symm],r1,r2⟩
 have hcut:n<256:=by omega
 letI:aP:=(qt ⟨m.ops,c1,c2,c3,c4,c5,lg,cl,a,n,m.cells[a],v,0,m.cells,l1,l2,h1,ha,rfl,ha2⟩ hcut).sig;refine(gY Tryz.codeOk (MY ⟨m.ops,c1,c2,c3,c4,c5,lg,cl,a,n,m.cells[a],v,0,m.cells,l1,l2,h1,ha,rfl,ha2⟩ hcut) cR (args:=#[.pointer (some ⟨4,0,none⟩),sy 8,sy 15]) (bm:=bm) (F:=G) (cs:=[sy 0,sy 1,sy 2,sy 3,sy 4,sy 5,sy 6,sy 7]) (PO ⟨m.ops,c1,c2,c3,c4,c5,lg,cl,a,n,m.cells[a],v,0,m.cells,l1,l2,h1,ha,rfl,ha2⟩ hcut) (by decide) h2 (syms _ [0,1,2,3,4,5,6,7]) ⟨_,rfl,jG h3⟩ hG h4 (jH (bq (.ptr 4 0 bm rfl) (bq (.sym 8 0 _ rfl) (bq (.sym 15 0 _ rfl) f5)))) (by kernel_rfl)).mono ?_;rintro e w1 ⟨κ,v',rfl,hv,k4,hb1,⟨F1,⟨PT,q1,q2⟩,mg,hF1⟩,ht⟩;cases q1
 obtain⟨F',r1,r2⟩:=g9 (m:=m) (m':=⟨m.cells.set a v,IntKind.u64.wrap (m.ops+1)⟩) (d:=419) h5 hG (show n+1<=256 by omega) hb1 (by
  have q3:k_ (.dy 419) (n+1) cl (m.cells.set a v) κ F1 w1:=q2
  exact q3) mg hF1 ht Gl
 exact⟨F',by cases hv with | tuple f f1 hf _=>rw[Array.eq_empty_of_size_eq_zero hf.symm],r1,r2⟩
end Go.Proofs.YtbcnbofkgkheeaaGreat
