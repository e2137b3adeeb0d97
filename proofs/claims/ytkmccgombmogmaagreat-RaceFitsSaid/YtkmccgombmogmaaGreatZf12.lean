/- Part of a proof: see the last text. -/
import Derived.Test.YtkmccgombmogmaaGreatZf11
set_option linter.unusedSimpArgs false
set_option linter.unusedVariables false
namespace Go.Proofs.YtkmccgombmogmaaGreat
open Go.Ev Go.Proofs.Tryz
open Go.RowKit
open Go.Ev (sy)
structure MP where
 (o c1 c2 c3 c4 c5:Int)
 (lg cl:Value)
 (a n:Nat)
 (x v u:Int)
 cells:List Int
 hl:aT lg=true
 hc:aT cl=true
 hn:n<=256
 ha:a<cells.length
 hx:cells[a]=x
 ha2:(a:Int)<=9223372036854775807
theorem g7(cl:Value)(a:Nat):aT (jF cl a)=true:=by
 unfold jF
 split<;>rfl
def uh(z:MP)(hcut:z.n<256):Nat->Value
 | 0=>.int .u64 z.o
 | 1=>.int .u64 z.c1
 | 2=>.int .u64 z.c2
 | 3=>.int .u64 z.c3
 | 4=>.int .u64 z.c4
 | 5=>.int .u64 z.c5
 | 6=>z.lg
 | 7=>z.cl
 | 8=>.int .i64 (z.a:Int)
 | 9=>.int .u64 z.x
 | 10=>jF z.cl z.a
 | 11=>.int .u64 (IntKind.u64.wrap (z.o+1))
 | 12=>.int .u64 (IntKind.u64.wrap (z.c1+1))
 | 13=>.int .i64 (z.cells.length:Int)
 | 14=>.int .i64 ((z.n:Int)+1)
 | 15=>.int .u64 z.v
 | 16=>.int .u64 z.u
 | _=>.int .i64 0
theorem OB(z:MP)(hcut:z.n<256):∀ j9,aT (uh z hcut j9)=true:=by
 intro j9;unfold uh
 split<;>first | rfl | assumption | exact z.hl | exact z.hc | exact g7 _ _
def Fz:List jC:=[(.geq,sy 8,.int .i64 0,.bool true),(.lss,sy 8,sy 13,.bool true),(.add,sy 0,.int .u64 1,sy 11),(.add,sy 1,.int .u64 1,sy 12),(.gtr,sy 14,.int .i64 256,.bool false)]
theorem JH(z:MP)(hcut:z.n<256):∀ q ∈ Fz,lY (uh z hcut) q:=by
 intro q hq;simp only[Fz,List.mem_cons,List.not_mem_nil,or_false]at hq;rcases hq with rfl | rfl | rfl | rfl | rfl
 ·intro t ox oy;exact ft (by first|(simp;done)|(simp;omega))
 ·intro t ox oy;exact a_ (by simpa using z.ha)
 ·intro t ox oy;exact aQ rfl
 ·intro t ox oy;exact aQ rfl
 ·intro t ox oy;exact ip (by first|(simp;done)|(simp;omega))
def Lq:List jD:=[]
theorem JI(z:MP)(hcut:z.n<256):∀ q ∈ Lq,lZ (uh z hcut) q:=by
 intro q hq;cases hq
def Lr:List jE:=[]
theorem JJ(z:MP)(hcut:z.n<256):∀ q ∈ Lr,lE (uh z hcut) q:=by
 intro q hq;cases hq
def Ls:List lD:=[]
@[reducible] def ui(z:MP)(hcut:z.n<256):Ev.Kn:={ val:=uh z hcut,leaf:=OB z hcut,bs:=Fz,us:=Lq,cs:=Lr,ks:=Ls,hb:=JH z hcut,hu:=JI z hcut,hc:=JJ z hcut,gs:=[ew (.st z.lg) z.n z.cl z.cells,ew (.st z.lg) z.n z.cl (z.cells.set z.a z.x),ew (.dy 415) (z.n+1) z.cl (z.cells.set z.a z.x)],ops:=[⟨[10,50],[sy 7],none,0,none,sy 13,none⟩,⟨[3,50],[sy 7,sy 8],none,0,none,sy 10,none⟩,⟨[1,51],[sy 10],none,0,none,sy 9,none⟩,⟨[2,51],[sy 10,sy 9],none,0,none,undef,some 1⟩,⟨[11,133,133],[sy 6],some (4,1,[.int .i64 1,sy 8,sy 9,sy 9]),1,some 415,.complex .f32 415 0,some 2⟩,⟨[10,133],[.complex .f32 415 0],none,2,none,sy 14,none⟩],cls:=[] }
theorem MJ(z:MP)(hcut:z.n<256):@Ev.dR (ui z hcut).sig prog:=by
 refine Ev.Kn.ok (ui z hcut) ?_ ?_ ?_
 ·intro q hq
  cases hq
 ·intro q hq
  simp only[ui,Ls,List.mem_cons,List.not_mem_nil,or_false]at hq;rcases hq with rfl | rfl | rfl | rfl | rfl | rfl
  ·exact jG rfl rfl rfl
  ·exact fQ rfl rfl rfl rfl z.ha
  ·exact gY rfl rfl z.ha (by show Value.int .u64 z.x=_;rw[z.hx])
  ·exact fR rfl rfl rfl z.ha rfl
  ·exact gZ rfl rfl rfl z.hn rfl
  ·exact fa rfl rfl
 ·intro q hq
  cases hq
theorem OC(z:MP)(hcut:z.n<256):dS prog (λB=>jm (sy 9) [(4,[sy 11,sy 12,sy 2,sy 3,sy 4,sy 5,.complex .f32 415 0,sy 7],137)] (some 2) (@Ev.eF (ui z hcut).sig B (@Ev.tO (ui z hcut).sig B 200) 150 [.pointer (some ⟨4,0,none⟩),sy 8] (fB [(4,.cells ([sy 0,sy 1,sy 2,sy 3,sy 4,sy 5,sy 6,sy 7]:List Value).toArray 137 (0,0)),(3,iG 0)] 100)))=true:=by kernel_rfl
def kc(z:MP)(hcut:z.n=256):Nat->Value
 | 0=>.int .u64 z.o
 | 1=>.int .u64 z.c1
 | 2=>.int .u64 z.c2
 | 3=>.int .u64 z.c3
 | 4=>.int .u64 z.c4
 | 5=>.int .u64 z.c5
 | 6=>z.lg
 | 7=>z.cl
 | 8=>.int .i64 (z.a:Int)
 | 9=>.int .u64 z.x
 | 10=>jF z.cl z.a
 | 11=>.int .u64 (IntKind.u64.wrap (z.o+1))
 | 12=>.int .u64 (IntKind.u64.wrap (z.c1+1))
 | 13=>.int .i64 (z.cells.length:Int)
 | 14=>.int .i64 ((z.n:Int)+1)
 | 15=>.int .u64 z.v
 | 16=>.int .u64 z.u
 | _=>.int .i64 0
theorem FA(z:MP)(hcut:z.n=256):∀ j9,aT (kc z hcut j9)=true:=by
 intro j9;unfold kc
 split<;>first | rfl | assumption | exact z.hl | exact z.hc | exact g7 _ _
def rS:List jC:=[(.geq,sy 8,.int .i64 0,.bool true),(.lss,sy 8,sy 13,.bool true),(.add,sy 0,.int .u64 1,sy 11),(.add,sy 1,.int .u64 1,sy 12),(.gtr,sy 14,.int .i64 256,.bool true)]
theorem Ar(z:MP)(hcut:z.n=256):∀ q ∈ rS,lY (kc z hcut) q:=by
 intro q hq;simp only[rS,List.mem_cons,List.not_mem_nil,or_false]at hq;rcases hq with rfl | rfl | rfl | rfl | rfl
 ·intro t ox oy;exact ft (by first|(simp;done)|(simp;omega))
 ·intro t ox oy;exact a_ (by simpa using z.ha)
 ·intro t ox oy;exact aQ rfl
 ·intro t ox oy;exact aQ rfl
 ·intro t ox oy;exact ip (by first|(simp;done)|(simp;omega))
def yp:List jD:=[]
theorem As(z:MP)(hcut:z.n=256):∀ q ∈ yp,lZ (kc z hcut) q:=by
 intro q hq;cases hq
def yq:List jE:=[]
theorem Au(z:MP)(hcut:z.n=256):∀ q ∈ yq,lE (kc z hcut) q:=by
 intro q hq;cases hq
def yr:List lD:=[]
@[reducible] def ke(z:MP)(hcut:z.n=256):Ev.Kn:={ val:=kc z hcut,leaf:=FA z hcut,bs:=rS,us:=yp,cs:=yq,ks:=yr,hb:=Ar z hcut,hu:=As z hcut,hc:=Au z hcut,gs:=[ew (.st z.lg) z.n z.cl z.cells,ew (.st z.lg) z.n z.cl (z.cells.set z.a z.x),ew (.dy 415) (z.n+1) z.cl (z.cells.set z.a z.x),ew (.dy 419) z.n z.cl (z.cells.set z.a z.x)],ops:=[⟨[10,50],[sy 7],none,0,none,sy 13,none⟩,⟨[3,50],[sy 7,sy 8],none,0,none,sy 10,none⟩,⟨[1,51],[sy 10],none,0,none,sy 9,none⟩,⟨[2,51],[sy 10,sy 9],none,0,none,undef,some 1⟩,⟨[11,133,133],[sy 6],some (4,1,[.int .i64 1,sy 8,sy 9,sy 9]),1,some 415,.complex .f32 415 0,some 2⟩,⟨[10,133],[.complex .f32 415 0],none,2,none,sy 14,none⟩,⟨[4,133,1,0,0],[.complex .f32 415 0,.int .i64 1],none,2,some 419,.complex .f32 419 0,some 3⟩],cls:=[] }
theorem Dh(z:MP)(hcut:z.n=256):@Ev.dR (ke z hcut).sig prog:=by
 refine Ev.Kn.ok (ke z hcut) ?_ ?_ ?_
 ·intro q hq
  cases hq
 ·intro q hq
  simp only[ke,yr,List.mem_cons,List.not_mem_nil,or_false]at hq;rcases hq with rfl | rfl | rfl | rfl | rfl | rfl | rfl
  ·exact jG rfl rfl rfl
  ·exact fQ rfl rfl rfl rfl z.ha
  ·exact gY rfl rfl z.ha (by show Value.int .u64 z.x=_;rw[z.hx])
  ·exact fR rfl rfl rfl z.ha rfl
  ·exact gZ rfl rfl rfl z.hn rfl
  ·exact fa rfl rfl
  ·exact qO rfl rfl
 ·intro q hq
  cases hq
theorem FB(z:MP)(hcut:z.n=256):dS prog (λB=>jm (sy 9) [(4,[sy 11,sy 12,sy 2,sy 3,sy 4,sy 5,.complex .f32 419 0,sy 7],137)] (some 3) (@Ev.eF (ke z hcut).sig B (@Ev.tO (ke z hcut).sig B 200) 150 [.pointer (some ⟨4,0,none⟩),sy 8] (fB [(4,.cells ([sy 0,sy 1,sy 2,sy 3,sy 4,sy 5,sy 6,sy 7]:List Value).toArray 137 (0,0)),(3,iG 0)] 100)))=true:=by kernel_rfl
def pK(z:MP)(hcut:z.n<256):Nat->Value
 | 0=>.int .u64 z.o
 | 1=>.int .u64 z.c1
 | 2=>.int .u64 z.c2
 | 3=>.int .u64 z.c3
 | 4=>.int .u64 z.c4
 | 5=>.int .u64 z.c5
 | 6=>z.lg
 | 7=>z.cl
 | 8=>.int .i64 (z.a:Int)
 | 9=>.int .u64 z.x
 | 10=>jF z.cl z.a
 | 11=>.int .u64 (IntKind.u64.wrap (z.o+1))
 | 12=>.int .u64 (IntKind.u64.wrap (z.c2+1))
 | 13=>.int .i64 (z.cells.length:Int)
 | 14=>.int .i64 ((z.n:Int)+1)
 | 15=>.int .u64 z.v
 | 16=>.int .u64 z.u
 | _=>.int .i64 0
theorem MK(z:MP)(hcut:z.n<256):∀ j9,aT (pK z hcut j9)=true:=by
 intro j9;unfold pK
 split<;>first | rfl | assumption | exact z.hl | exact z.hc | exact g7 _ _
def Av:List jC:=[(.geq,sy 8,.int .i64 0,.bool true),(.lss,sy 8,sy 13,.bool true),(.add,sy 0,.int .u64 1,sy 11),(.add,sy 2,.int .u64 1,sy 12),(.gtr,sy 14,.int .i64 256,.bool false)]
theorem FC(z:MP)(hcut:z.n<256):∀ q ∈ Av,lY (pK z hcut) q:=by
 intro q hq;simp only[Av,List.mem_cons,List.not_mem_nil,or_false]at hq;rcases hq with rfl | rfl | rfl | rfl | rfl
 ·intro t ox oy;exact ft (by first|(simp;done)|(simp;omega))
 ·intro t ox oy;exact a_ (by simpa using z.ha)
 ·intro t ox oy;exact aQ rfl
 ·intro t ox oy;exact aQ rfl
 ·intro t ox oy;exact ip (by first|(simp;done)|(simp;omega))
def FD:List jD:=[]
theorem FE(z:MP)(hcut:z.n<256):∀ q ∈ FD,lZ (pK z hcut) q:=by
 intro q hq;cases hq
def FF:List jE:=[]
theorem FG(z:MP)(hcut:z.n<256):∀ q ∈ FF,lE (pK z hcut) q:=by
 intro q hq;cases hq
def FH:List lD:=[]
@[reducible] def pL(z:MP)(hcut:z.n<256):Ev.Kn:={ val:=pK z hcut,leaf:=MK z hcut,bs:=Av,us:=FD,cs:=FF,ks:=FH,hb:=FC z hcut,hu:=FE z hcut,hc:=FG z hcut,gs:=[ew (.st z.lg) z.n z.cl z.cells,ew (.st z.lg) z.n z.cl (z.cells.set z.a z.v),ew (.dy 419) (z.n+1) z.cl (z.cells.set z.a z.v)],ops:=[⟨[10,50],[sy 7],none,0,none,sy 13,none⟩,⟨[3,50],[sy 7,sy 8],none,0,none,sy 10,none⟩,⟨[1,51],[sy 10],none,0,none,sy 9,none⟩,⟨[2,51],[sy 10,sy 15],none,0,none,undef,some 1⟩,⟨[11,133,133],[sy 6],some (4,1,[.int .i64 2,sy 8,sy 9,sy 15]),1,some 419,.complex .f32 419 0,some 2⟩,⟨[10,133],[.complex .f32 419 0],none,2,none,sy 14,none⟩],cls:=[] }
theorem JK(z:MP)(hcut:z.n<256):@Ev.dR (pL z hcut).sig prog:=by
 refine Ev.Kn.ok (pL z hcut) ?_ ?_ ?_
 ·intro q hq
  cases hq
 ·intro q hq
  simp only[pL,FH,List.mem_cons,List.not_mem_nil,or_false]at hq;rcases hq with rfl | rfl | rfl | rfl | rfl | rfl
  ·exact jG rfl rfl rfl
  ·exact fQ rfl rfl rfl rfl z.ha
  ·exact gY rfl rfl z.ha (by show Value.int .u64 z.x=_;rw[z.hx])
  ·exact fR rfl rfl rfl z.ha rfl
  ·exact gZ rfl rfl rfl z.hn rfl
  ·exact fa rfl rfl
 ·intro q hq
  cases hq
theorem ML(z:MP)(hcut:z.n<256):dS prog (λB=>jm (.tuple #[]) [(4,[sy 11,sy 1,sy 12,sy 3,sy 4,sy 5,.complex .f32 419 0,sy 7],137)] (some 2) (@Ev.eF (pL z hcut).sig B (@Ev.tO (pL z hcut).sig B 200) 147 [.pointer (some ⟨4,0,none⟩),sy 8,sy 15] (fB [(4,.cells ([sy 0,sy 1,sy 2,sy 3,sy 4,sy 5,sy 6,sy 7]:List Value).toArray 137 (0,0)),(3,iG 0)] 100)))=true:=by kernel_rfl
def iX(z:MP)(hcut:z.n=256):Nat->Value
 | 0=>.int .u64 z.o
 | 1=>.int .u64 z.c1
 | 2=>.int .u64 z.c2
 | 3=>.int .u64 z.c3
 | 4=>.int .u64 z.c4
 | 5=>.int .u64 z.c5
 | 6=>z.lg
 | 7=>z.cl
 | 8=>.int .i64 (z.a:Int)
 | 9=>.int .u64 z.x
 | 10=>jF z.cl z.a
 | 11=>.int .u64 (IntKind.u64.wrap (z.o+1))
 | 12=>.int .u64 (IntKind.u64.wrap (z.c2+1))
 | 13=>.int .i64 (z.cells.length:Int)
 | 14=>.int .i64 ((z.n:Int)+1)
 | 15=>.int .u64 z.v
 | 16=>.int .u64 z.u
 | _=>.int .i64 0
theorem Di(z:MP)(hcut:z.n=256):∀ j9,aT (iX z hcut j9)=true:=by
 intro j9;unfold iX
 split<;>first | rfl | assumption | exact z.hl | exact z.hc | exact g7 _ _
def pM:List jC:=[(.geq,sy 8,.int .i64 0,.bool true),(.lss,sy 8,sy 13,.bool true),(.add,sy 0,.int .u64 1,sy 11),(.add,sy 2,.int .u64 1,sy 12),(.gtr,sy 14,.int .i64 256,.bool true)]
theorem yu(z:MP)(hcut:z.n=256):∀ q ∈ pM,lY (iX z hcut) q:=by
 intro q hq;simp only[pM,List.mem_cons,List.not_mem_nil,or_false]at hq;rcases hq with rfl | rfl | rfl | rfl | rfl
 ·intro t ox oy;exact ft (by first|(simp;done)|(simp;omega))
 ·intro t ox oy;exact a_ (by simpa using z.ha)
 ·intro t ox oy;exact aQ rfl
 ·intro t ox oy;exact aQ rfl
 ·intro t ox oy;exact ip (by first|(simp;done)|(simp;omega))
def uj:List jD:=[]
theorem yv(z:MP)(hcut:z.n=256):∀ q ∈ uj,lZ (iX z hcut) q:=by
 intro q hq;cases hq
def uk:List jE:=[]
theorem yw(z:MP)(hcut:z.n=256):∀ q ∈ uk,lE (iX z hcut) q:=by
 intro q hq;cases hq
def um:List lD:=[]
@[reducible] def iY(z:MP)(hcut:z.n=256):Ev.Kn:={ val:=iX z hcut,leaf:=Di z hcut,bs:=pM,us:=uj,cs:=uk,ks:=um,hb:=yu z hcut,hu:=yv z hcut,hc:=yw z hcut,gs:=[ew (.st z.lg) z.n z.cl z.cells,ew (.st z.lg) z.n z.cl (z.cells.set z.a z.v),ew (.dy 419) (z.n+1) z.cl (z.cells.set z.a z.v),ew (.dy 423) z.n z.cl (z.cells.set z.a z.v)],ops:=[⟨[10,50],[sy 7],none,0,none,sy 13,none⟩,⟨[3,50],[sy 7,sy 8],none,0,none,sy 10,none⟩,⟨[1,51],[sy 10],none,0,none,sy 9,none⟩,⟨[2,51],[sy 10,sy 15],none,0,none,undef,some 1⟩,⟨[11,133,133],[sy 6],some (4,1,[.int .i64 2,sy 8,sy 9,sy 15]),1,some 419,.complex .f32 419 0,some 2⟩,⟨[10,133],[.complex .f32 419 0],none,2,none,sy 14,none⟩,⟨[4,133,1,0,0],[.complex .f32 419 0,.int .i64 1],none,2,some 423,.complex .f32 423 0,some 3⟩],cls:=[] }
theorem Aw(z:MP)(hcut:z.n=256):@Ev.dR (iY z hcut).sig prog:=by
 refine Ev.Kn.ok (iY z hcut) ?_ ?_ ?_
 ·intro q hq
  cases hq
 ·intro q hq
  simp only[iY,um,List.mem_cons,List.not_mem_nil,or_false]at hq;rcases hq with rfl | rfl | rfl | rfl | rfl | rfl | rfl
  ·exact jG rfl rfl rfl
  ·exact fQ rfl rfl rfl rfl z.ha
  ·exact gY rfl rfl z.ha (by show Value.int .u64 z.x=_;rw[z.hx])
  ·exact fR rfl rfl rfl z.ha rfl
  ·exact gZ rfl rfl rfl z.hn rfl
  ·exact fa rfl rfl
  ·exact qO rfl rfl
 ·intro q hq
  cases hq
theorem Dj(z:MP)(hcut:z.n=256):dS prog (λB=>jm (.tuple #[]) [(4,[sy 11,sy 1,sy 12,sy 3,sy 4,sy 5,.complex .f32 423 0,sy 7],137)] (some 3) (@Ev.eF (iY z hcut).sig B (@Ev.tO (iY z hcut).sig B 200) 147 [.pointer (some ⟨4,0,none⟩),sy 8,sy 15] (fB [(4,.cells ([sy 0,sy 1,sy 2,sy 3,sy 4,sy 5,sy 6,sy 7]:List Value).toArray 137 (0,0)),(3,iG 0)] 100)))=true:=by kernel_rfl
def mG(z:MP)(hcut:z.n<256)(hy:z.x=z.u):Nat->Value
 | 0=>.int .u64 z.o
 | 1=>.int .u64 z.c1
 | 2=>.int .u64 z.c2
 | 3=>.int .u64 z.c3
 | 4=>.int .u64 z.c4
 | 5=>.int .u64 z.c5
 | 6=>z.lg
 | 7=>z.cl
 | 8=>.int .i64 (z.a:Int)
 | 9=>.int .u64 z.x
 | 10=>jF z.cl z.a
 | 11=>.int .u64 (IntKind.u64.wrap (z.o+1))
 | 12=>.int .u64 (IntKind.u64.wrap (z.c3+1))
 | 13=>.int .i64 (z.cells.length:Int)
 | 14=>.int .i64 ((z.n:Int)+1)
 | 15=>.int .u64 z.v
 | 16=>.int .u64 z.u
 | _=>.int .i64 0
theorem JL(z:MP)(hcut:z.n<256)(hy:z.x=z.u):∀ j9,aT (mG z hcut hy j9)=true:=by
 intro j9;unfold mG
 split<;>first | rfl | assumption | exact z.hl | exact z.hc | exact g7 _ _
def v7:List jC:=[(.geq,sy 8,.int .i64 0,.bool true),(.lss,sy 8,sy 13,.bool true),(.add,sy 0,.int .u64 1,sy 11),(.add,sy 3,.int .u64 1,sy 12),(.gtr,sy 14,.int .i64 256,.bool false),(.neq,sy 9,sy 16,.bool false)]
theorem Dk(z:MP)(hcut:z.n<256)(hy:z.x=z.u):∀ q ∈ v7,lY (mG z hcut hy) q:=by
 intro q hq;simp only[v7,List.mem_cons,List.not_mem_nil,or_false]at hq;rcases hq with rfl | rfl | rfl | rfl | rfl | rfl
 ·intro t ox oy;exact ft (by first|(simp;done)|(simp;omega))
 ·intro t ox oy;exact a_ (by simpa using z.ha)
 ·intro t ox oy;exact aQ rfl
 ·intro t ox oy;exact aQ rfl
 ·intro t ox oy;exact ip (by first|(simp;done)|(simp;omega))
 ·intro t ox oy;exact l3 (by first|(simp;done)|(simp;omega))
def BX:List jD:=[]
theorem Dl(z:MP)(hcut:z.n<256)(hy:z.x=z.u):∀ q ∈ BX,lZ (mG z hcut hy) q:=by
 intro q hq;cases hq
def BY:List jE:=[]
theorem Dm(z:MP)(hcut:z.n<256)(hy:z.x=z.u):∀ q ∈ BY,lE (mG z hcut hy) q:=by
 intro q hq;cases hq
def BZ:List lD:=[]
@[reducible] def mH(z:MP)(hcut:z.n<256)(hy:z.x=z.u):Ev.Kn:={ val:=mG z hcut hy,leaf:=JL z hcut hy,bs:=v7,us:=BX,cs:=BY,ks:=BZ,hb:=Dk z hcut hy,hu:=Dl z hcut hy,hc:=Dm z hcut hy,gs:=[ew (.st z.lg) z.n z.cl z.cells,ew (.st z.lg) z.n z.cl (z.cells.set z.a z.v),ew (.dy 423) (z.n+1) z.cl (z.cells.set z.a z.v)],ops:=[⟨[10,50],[sy 7],none,0,none,sy 13,none⟩,⟨[3,50],[sy 7,sy 8],none,0,none,sy 10,none⟩,⟨[1,51],[sy 10],none,0,none,sy 9,none⟩,⟨[2,51],[sy 10,sy 15],none,0,none,undef,some 1⟩,⟨[11,133,133],[sy 6],some (4,1,[.int .i64 3,sy 8,sy 9,sy 15]),1,some 423,.complex .f32 423 0,some 2⟩,⟨[10,133],[.complex .f32 423 0],none,2,none,sy 14,none⟩],cls:=[] }
theorem FI(z:MP)(hcut:z.n<256)(hy:z.x=z.u):@Ev.dR (mH z hcut hy).sig prog:=by
 refine Ev.Kn.ok (mH z hcut hy) ?_ ?_ ?_
 ·intro q hq
  cases hq
 ·intro q hq
  simp only[mH,BZ,List.mem_cons,List.not_mem_nil,or_false]at hq;rcases hq with rfl | rfl | rfl | rfl | rfl | rfl
  ·exact jG rfl rfl rfl
  ·exact fQ rfl rfl rfl rfl z.ha
  ·exact gY rfl rfl z.ha (by show Value.int .u64 z.x=_;rw[z.hx])
  ·exact fR rfl rfl rfl z.ha rfl
  ·exact gZ rfl rfl rfl z.hn rfl
  ·exact fa rfl rfl
 ·intro q hq
  cases hq
theorem JM(z:MP)(hcut:z.n<256)(hy:z.x=z.u):dS prog (λB=>jm (.bool true) [(4,[sy 11,sy 1,sy 2,sy 12,sy 4,sy 5,.complex .f32 423 0,sy 7],137)] (some 2) (@Ev.eF (mH z hcut hy).sig B (@Ev.tO (mH z hcut hy).sig B 200) 154 [.pointer (some ⟨4,0,none⟩),sy 8,sy 16,sy 15] (fB [(4,.cells ([sy 0,sy 1,sy 2,sy 3,sy 4,sy 5,sy 6,sy 7]:List Value).toArray 137 (0,0)),(3,iG 0)] 100)))=true:=by kernel_rfl
def gG(z:MP)(hcut:z.n=256)(hy:z.x=z.u):Nat->Value
 | 0=>.int .u64 z.o
 | 1=>.int .u64 z.c1
 | 2=>.int .u64 z.c2
 | 3=>.int .u64 z.c3
 | 4=>.int .u64 z.c4
 | 5=>.int .u64 z.c5
 | 6=>z.lg
 | 7=>z.cl
 | 8=>.int .i64 (z.a:Int)
 | 9=>.int .u64 z.x
 | 10=>jF z.cl z.a
 | 11=>.int .u64 (IntKind.u64.wrap (z.o+1))
 | 12=>.int .u64 (IntKind.u64.wrap (z.c3+1))
 | 13=>.int .i64 (z.cells.length:Int)
 | 14=>.int .i64 ((z.n:Int)+1)
 | 15=>.int .u64 z.v
 | 16=>.int .u64 z.u
 | _=>.int .i64 0
theorem Ay(z:MP)(hcut:z.n=256)(hy:z.x=z.u):∀ j9,aT (gG z hcut hy j9)=true:=by
 intro j9;unfold gG
 split<;>first | rfl | assumption | exact z.hl | exact z.hc | exact g7 _ _
def nK:List jC:=[(.geq,sy 8,.int .i64 0,.bool true),(.lss,sy 8,sy 13,.bool true),(.add,sy 0,.int .u64 1,sy 11),(.add,sy 3,.int .u64 1,sy 12),(.gtr,sy 14,.int .i64 256,.bool true),(.neq,sy 9,sy 16,.bool false)]
theorem v8(z:MP)(hcut:z.n=256)(hy:z.x=z.u):∀ q ∈ nK,lY (gG z hcut hy) q:=by
 intro q hq;simp only[nK,List.mem_cons,List.not_mem_nil,or_false]at hq;rcases hq with rfl | rfl | rfl | rfl | rfl | rfl
 ·intro t ox oy;exact ft (by first|(simp;done)|(simp;omega))
 ·intro t ox oy;exact a_ (by simpa using z.ha)
 ·intro t ox oy;exact aQ rfl
 ·intro t ox oy;exact aQ rfl
 ·intro t ox oy;exact ip (by first|(simp;done)|(simp;omega))
 ·intro t ox oy;exact l3 (by first|(simp;done)|(simp;omega))
def rT:List jD:=[]
theorem v9(z:MP)(hcut:z.n=256)(hy:z.x=z.u):∀ q ∈ rT,lZ (gG z hcut hy) q:=by
 intro q hq;cases hq
def rU:List jE:=[]
theorem wh(z:MP)(hcut:z.n=256)(hy:z.x=z.u):∀ q ∈ rU,lE (gG z hcut hy) q:=by
 intro q hq;cases hq
def rV:List lD:=[]
@[reducible] def gH(z:MP)(hcut:z.n=256)(hy:z.x=z.u):Ev.Kn:={ val:=gG z hcut hy,leaf:=Ay z hcut hy,bs:=nK,us:=rT,cs:=rU,ks:=rV,hb:=v8 z hcut hy,hu:=v9 z hcut hy,hc:=wh z hcut hy,gs:=[ew (.st z.lg) z.n z.cl z.cells,ew (.st z.lg) z.n z.cl (z.cells.set z.a z.v),ew (.dy 423) (z.n+1) z.cl (z.cells.set z.a z.v),ew (.dy 427) z.n z.cl (z.cells.set z.a z.v)],ops:=[⟨[10,50],[sy 7],none,0,none,sy 13,none⟩,⟨[3,50],[sy 7,sy 8],none,0,none,sy 10,none⟩,⟨[1,51],[sy 10],none,0,none,sy 9,none⟩,⟨[2,51],[sy 10,sy 15],none,0,none,undef,some 1⟩,⟨[11,133,133],[sy 6],some (4,1,[.int .i64 3,sy 8,sy 9,sy 15]),1,some 423,.complex .f32 423 0,some 2⟩,⟨[10,133],[.complex .f32 423 0],none,2,none,sy 14,none⟩,⟨[4,133,1,0,0],[.complex .f32 423 0,.int .i64 1],none,2,some 427,.complex .f32 427 0,some 3⟩],cls:=[] }
theorem yx(z:MP)(hcut:z.n=256)(hy:z.x=z.u):@Ev.dR (gH z hcut hy).sig prog:=by
 refine Ev.Kn.ok (gH z hcut hy) ?_ ?_ ?_
 ·intro q hq
  cases hq
 ·intro q hq
  simp only[gH,rV,List.mem_cons,List.not_mem_nil,or_false]at hq;rcases hq with rfl | rfl | rfl | rfl | rfl | rfl | rfl
  ·exact jG rfl rfl rfl
  ·exact fQ rfl rfl rfl rfl z.ha
  ·exact gY rfl rfl z.ha (by show Value.int .u64 z.x=_;rw[z.hx])
  ·exact fR rfl rfl rfl z.ha rfl
  ·exact gZ rfl rfl rfl z.hn rfl
  ·exact fa rfl rfl
  ·exact qO rfl rfl
 ·intro q hq
  cases hq
theorem Az(z:MP)(hcut:z.n=256)(hy:z.x=z.u):dS prog (λB=>jm (.bool true) [(4,[sy 11,sy 1,sy 2,sy 12,sy 4,sy 5,.complex .f32 427 0,sy 7],137)] (some 3) (@Ev.eF (gH z hcut hy).sig B (@Ev.tO (gH z hcut hy).sig B 200) 154 [.pointer (some ⟨4,0,none⟩),sy 8,sy 16,sy 15] (fB [(4,.cells ([sy 0,sy 1,sy 2,sy 3,sy 4,sy 5,sy 6,sy 7]:List Value).toArray 137 (0,0)),(3,iG 0)] 100)))=true:=by kernel_rfl
def pN(z:MP)(hcut:z.n<256)(hy:z.x≠z.u):Nat->Value
 | 0=>.int .u64 z.o
 | 1=>.int .u64 z.c1
 | 2=>.int .u64 z.c2
 | 3=>.int .u64 z.c3
 | 4=>.int .u64 z.c4
 | 5=>.int .u64 z.c5
 | 6=>z.lg
 | 7=>z.cl
 | 8=>.int .i64 (z.a:Int)
 | 9=>.int .u64 z.x
 | 10=>jF z.cl z.a
 | 11=>.int .u64 (IntKind.u64.wrap (z.o+1))
 | 12=>.int .u64 (IntKind.u64.wrap (z.c4+1))
 | 13=>.int .i64 (z.cells.length:Int)
 | 14=>.int .i64 ((z.n:Int)+1)
 | 15=>.int .u64 z.v
 | 16=>.int .u64 z.u
 | _=>.int .i64 0
theorem MN(z:MP)(hcut:z.n<256)(hy:z.x≠z.u):∀ j9,aT (pN z hcut hy j9)=true:=by
 intro j9;unfold pN
 split<;>first | rfl | assumption | exact z.hl | exact z.hc | exact g7 _ _
def AA:List jC:=[(.geq,sy 8,.int .i64 0,.bool true),(.lss,sy 8,sy 13,.bool true),(.add,sy 0,.int .u64 1,sy 11),(.add,sy 4,.int .u64 1,sy 12),(.gtr,sy 14,.int .i64 256,.bool false),(.neq,sy 9,sy 16,.bool true)]
theorem FJ(z:MP)(hcut:z.n<256)(hy:z.x≠z.u):∀ q ∈ AA,lY (pN z hcut hy) q:=by
 intro q hq;simp only[AA,List.mem_cons,List.not_mem_nil,or_false]at hq;rcases hq with rfl | rfl | rfl | rfl | rfl | rfl
 ·intro t ox oy;exact ft (by first|(simp;done)|(simp;omega))
 ·intro t ox oy;exact a_ (by simpa using z.ha)
 ·intro t ox oy;exact aQ rfl
 ·intro t ox oy;exact aQ rfl
 ·intro t ox oy;exact ip (by first|(simp;done)|(simp;omega))
 ·intro t ox oy;exact l3 (by first|(simp;done)|(simp;omega))
def FK:List jD:=[]
theorem FL(z:MP)(hcut:z.n<256)(hy:z.x≠z.u):∀ q ∈ FK,lZ (pN z hcut hy) q:=by
 intro q hq;cases hq
def FM:List jE:=[]
theorem FN(z:MP)(hcut:z.n<256)(hy:z.x≠z.u):∀ q ∈ FM,lE (pN z hcut hy) q:=by
 intro q hq;cases hq
def FO:List lD:=[]
@[reducible] def pO(z:MP)(hcut:z.n<256)(hy:z.x≠z.u):Ev.Kn:={ val:=pN z hcut hy,leaf:=MN z hcut hy,bs:=AA,us:=FK,cs:=FM,ks:=FO,hb:=FJ z hcut hy,hu:=FL z hcut hy,hc:=FN z hcut hy,gs:=[ew (.st z.lg) z.n z.cl z.cells,ew (.st z.lg) z.n z.cl (z.cells.set z.a z.x),ew (.dy 423) (z.n+1) z.cl (z.cells.set z.a z.x)],ops:=[⟨[10,50],[sy 7],none,0,none,sy 13,none⟩,⟨[3,50],[sy 7,sy 8],none,0,none,sy 10,none⟩,⟨[1,51],[sy 10],none,0,none,sy 9,none⟩,⟨[2,51],[sy 10,sy 9],none,0,none,undef,some 1⟩,⟨[11,133,133],[sy 6],some (4,1,[.int .i64 3,sy 8,sy 9,sy 9]),1,some 423,.complex .f32 423 0,some 2⟩,⟨[10,133],[.complex .f32 423 0],none,2,none,sy 14,none⟩],cls:=[] }
theorem JN(z:MP)(hcut:z.n<256)(hy:z.x≠z.u):@Ev.dR (pO z hcut hy).sig prog:=by
 refine Ev.Kn.ok (pO z hcut hy) ?_ ?_ ?_
 ·intro q hq
  cases hq
 ·intro q hq
  simp only[pO,FO,List.mem_cons,List.not_mem_nil,or_false]at hq;rcases hq with rfl | rfl | rfl | rfl | rfl | rfl
  ·exact jG rfl rfl rfl
  ·exact fQ rfl rfl rfl rfl z.ha
  ·exact gY rfl rfl z.ha (by show Value.int .u64 z.x=_;rw[z.hx])
  ·exact fR rfl rfl rfl z.ha rfl
  ·exact gZ rfl rfl rfl z.hn rfl
  ·exact fa rfl rfl
 ·intro q hq
  cases hq
theorem MO(z:MP)(hcut:z.n<256)(hy:z.x≠z.u):dS prog (λB=>jm (.bool false) [(4,[sy 11,sy 1,sy 2,sy 3,sy 12,sy 5,.complex .f32 423 0,sy 7],137)] (some 2) (@Ev.eF (pO z hcut hy).sig B (@Ev.tO (pO z hcut hy).sig B 200) 154 [.pointer (some ⟨4,0,none⟩),sy 8,sy 16,sy 15] (fB [(4,.cells ([sy 0,sy 1,sy 2,sy 3,sy 4,sy 5,sy 6,sy 7]:List Value).toArray 137 (0,0)),(3,iG 0)] 100)))=true:=by kernel_rfl
def iZ(z:MP)(hcut:z.n=256)(hy:z.x≠z.u):Nat->Value
 | 0=>.int .u64 z.o
 | 1=>.int .u64 z.c1
 | 2=>.int .u64 z.c2
 | 3=>.int .u64 z.c3
 | 4=>.int .u64 z.c4
 | 5=>.int .u64 z.c5
 | 6=>z.lg
 | 7=>z.cl
 | 8=>.int .i64 (z.a:Int)
 | 9=>.int .u64 z.x
 | 10=>jF z.cl z.a
 | 11=>.int .u64 (IntKind.u64.wrap (z.o+1))
 | 12=>.int .u64 (IntKind.u64.wrap (z.c4+1))
 | 13=>.int .i64 (z.cells.length:Int)
 | 14=>.int .i64 ((z.n:Int)+1)
 | 15=>.int .u64 z.v
 | 16=>.int .u64 z.u
 | _=>.int .i64 0
theorem Dp(z:MP)(hcut:z.n=256)(hy:z.x≠z.u):∀ j9,aT (iZ z hcut hy j9)=true:=by
 intro j9;unfold iZ
 split<;>first | rfl | assumption | exact z.hl | exact z.hc | exact g7 _ _
def pP:List jC:=[(.geq,sy 8,.int .i64 0,.bool true),(.lss,sy 8,sy 13,.bool true),(.add,sy 0,.int .u64 1,sy 11),(.add,sy 4,.int .u64 1,sy 12),(.gtr,sy 14,.int .i64 256,.bool true),(.neq,sy 9,sy 16,.bool true)]
theorem yy(z:MP)(hcut:z.n=256)(hy:z.x≠z.u):∀ q ∈ pP,lY (iZ z hcut hy) q:=by
 intro q hq;simp only[pP,List.mem_cons,List.not_mem_nil,or_false]at hq;rcases hq with rfl | rfl | rfl | rfl | rfl | rfl
 ·intro t ox oy;exact ft (by first|(simp;done)|(simp;omega))
 ·intro t ox oy;exact a_ (by simpa using z.ha)
 ·intro t ox oy;exact aQ rfl
 ·intro t ox oy;exact aQ rfl
 ·intro t ox oy;exact ip (by first|(simp;done)|(simp;omega))
 ·intro t ox oy;exact l3 (by first|(simp;done)|(simp;omega))
def uo:List jD:=[]
theorem yz(z:MP)(hcut:z.n=256)(hy:z.x≠z.u):∀ q ∈ uo,lZ (iZ z hcut hy) q:=by
 intro q hq;cases hq
def uq:List jE:=[]
theorem yA(z:MP)(hcut:z.n=256)(hy:z.x≠z.u):∀ q ∈ uq,lE (iZ z hcut hy) q:=by
 intro q hq;cases hq
def ur:List lD:=[]
@[reducible] def i6(z:MP)(hcut:z.n=256)(hy:z.x≠z.u):Ev.Kn:={ val:=iZ z hcut hy,leaf:=Dp z hcut hy,bs:=pP,us:=uo,cs:=uq,ks:=ur,hb:=yy z hcut hy,hu:=yz z hcut hy,hc:=yA z hcut hy,gs:=[ew (.st z.lg) z.n z.cl z.cells,ew (.st z.lg) z.n z.cl (z.cells.set z.a z.x),ew (.dy 423) (z.n+1) z.cl (z.cells.set z.a z.x),ew (.dy 427) z.n z.cl (z.cells.set z.a z.x)],ops:=[⟨[10,50],[sy 7],none,0,none,sy 13,none⟩,⟨[3,50],[sy 7,sy 8],none,0,none,sy 10,none⟩,⟨[1,51],[sy 10],none,0,none,sy 9,none⟩,⟨[2,51],[sy 10,sy 9],none,0,none,undef,some 1⟩,⟨[11,133,133],[sy 6],some (4,1,[.int .i64 3,sy 8,sy 9,sy 9]),1,some 423,.complex .f32 423 0,some 2⟩,⟨[10,133],[.complex .f32 423 0],none,2,none,sy 14,none⟩,⟨[4,133,1,0,0],[.complex .f32 423 0,.int .i64 1],none,2,some 427,.complex .f32 427 0,some 3⟩],cls:=[] }
theorem AB(z:MP)(hcut:z.n=256)(hy:z.x≠z.u):@Ev.dR (i6 z hcut hy).sig prog:=by
 refine Ev.Kn.ok (i6 z hcut hy) ?_ ?_ ?_
 ·intro q hq
  cases hq
 ·intro q hq
  simp only[i6,ur,List.mem_cons,List.not_mem_nil,or_false]at hq;rcases hq with rfl | rfl | rfl | rfl | rfl | rfl | rfl
  ·exact jG rfl rfl rfl
  ·exact fQ rfl rfl rfl rfl z.ha
  ·exact gY rfl rfl z.ha (by show Value.int .u64 z.x=_;rw[z.hx])
  ·exact fR rfl rfl rfl z.ha rfl
  ·exact gZ rfl rfl rfl z.hn rfl
  ·exact fa rfl rfl
  ·exact qO rfl rfl
 ·intro q hq
  cases hq
theorem Dq(z:MP)(hcut:z.n=256)(hy:z.x≠z.u):dS prog (λB=>jm (.bool false) [(4,[sy 11,sy 1,sy 2,sy 3,sy 12,sy 5,.complex .f32 427 0,sy 7],137)] (some 3) (@Ev.eF (i6 z hcut hy).sig B (@Ev.tO (i6 z hcut hy).sig B 200) 154 [.pointer (some ⟨4,0,none⟩),sy 8,sy 16,sy 15] (fB [(4,.cells ([sy 0,sy 1,sy 2,sy 3,sy 4,sy 5,sy 6,sy 7]:List Value).toArray 137 (0,0)),(3,iG 0)] 100)))=true:=by kernel_rfl
structure bO where
 cells:List Int
 ops:Int
def jn(bm:Nat)(m:bO)(F:Nat->Prop)(w:World):Prop :=
 ∃ (c1 c2 c3 c4 c5:Int) (lg cl:Value) (n:Nat) (G:Nat->Prop),n<=256/\w.heap[bm]? = some (.cells #[.int .u64 m.ops,.int .u64 c1,.int .u64 c2,.int .u64 c3,.int .u64 c4,.int .u64 c5,lg,cl] 137 (0,0))/\
  kU (.st lg) n cl m.cells (λ_=>none) G w/\¬ G bm/\∀ j,F j↔j=bm\/G j
def Grow(F F':Nat->Prop)(w w':World):Prop:=Ev.Turn F w w'/\∀ j,F' j->j<w'.heap.size/\(F j\/w.heap.size<=j)
theorem jH{lg:Value}{n:Nat}{cl:Value}{cells:List Int}{ι κ:am}{F:Nat->Prop}{w:World}(h:kU (.st lg) n cl cells ι F w):kU (.st lg) n cl cells κ F w:=h
theorem oG{lg:LV}{n:Nat}{cl:Value}{cells:List Int}{ι:am}{F:Nat->Prop}{w:World}(h:kU lg n cl cells ι F w):∀ j,F j->j<w.heap.size:=by
 obtain⟨v,xl,Fl,Fc,h1,h2,h3,h4,h5⟩:=h;intro j hj;rcases(h5 j).1 hj with hj | hj
 ·exact h2.lt j hj
 ·exact h3.lt j hj
theorem mI{lg:Value}{n:Nat}{cl:Value}{cells:List Int}{ι:am}{F:Nat->Prop}{w:World}(h:kU (.st lg) n cl cells ι F w):aT lg=true/\aT cl=true:=by
 obtain⟨v,xl,Fl,Fc,h1,h2,h3,h4,h5⟩:=h;have h1':v=lg:=h1;subst h1';exact⟨h2.leaf,h3.leaf⟩
theorem JO{d:Nat}{n:Nat}{cl:Value}{cells:List Int}{κ:am}{F:Nat->Prop}{w:World}(h:kU (.dy d) n cl cells κ F w):kU (.st (Ev.dec ((κ d).getD 0))) n cl cells (λ_=>none) F w:=by
 obtain⟨v,xl,Fl,Fc,⟨c,e1,e2⟩,h2,h3,h4,h5⟩:=h;refine⟨v,xl,Fl,Fc,?_,h2,h3,h4,h5⟩;show v=_;rw[e1,← e2];rfl
section
variable[bB]
theorem gk{ι:am} : dW ι [] []:=⟨rfl,λi v v' h=>by simp at h⟩
theorem b8{ι:am}{x x':Value}{l l':List Value}(h:aq ι x x')(k:dW ι l l'):dW ι (x::l) (x'::l'):=by
 refine⟨by simp[k.1],λi v v' h1 h2=>?_⟩
 match i with
 | 0=>simp at h1 h2;subst h1 h2;exact h
 | i+1=>exact k.2 i v v' (by simpa using h1) (by simpa using h2)
theorem jI{ι:am}{l l':List Value}(h:dW ι l l'):bZ ι l.toArray l'.toArray:=⟨by simp[h.1],λi v v' h1 h2=>h.2 i v v' (by simpa using h1) (by simpa using h2)⟩
theorem syms(ι:am)(ms:List Nat):dW ι (ms.map sy) (ms.map bB.val):=by
 induction ms with
 | nil=>exact gk
 | cons m ms ih=>exact b8 (.sym m 0 _ rfl) ih
end
theorem FP{bm:Nat}{m:bO}{F:Nat->Prop}{w:World}(h:jn bm m F w):∀ j,F j->j<w.heap.size:=by
 obtain⟨c1,c2,c3,c4,c5,lg,cl,n,G,h1,h2,h3,h4,h5⟩:=h;intro j hj;rcases(h5 j).1 hj with rfl | hj
 ·exact(Array.getElem?_eq_some_iff.1 h2).1
 ·exact oG h3 j hj
theorem rW{bm:Nat}{m:bO}{F:Nat->Prop}{w w':World}(h:jn bm m F w)(hk:∀ j,F j->w'.heap[j]? = w.heap[j]?):jn bm m F w':=by
 obtain⟨c1,c2,c3,c4,c5,lg,cl,n,G,h1,h2,h3,h4,h5⟩:=h;exact⟨c1,c2,c3,c4,c5,lg,cl,n,G,h1,by rw[hk bm ((h5 bm).2 (.inl rfl))];exact h2,(ew (.st lg) n cl m.cells).keep _ _ _ _ (λj hj=>hk j ((h5 j).2 (.inr hj))) h3,h4,h5⟩
theorem g8{bm:Nat}{m m':bO}{F G F1:Nat->Prop}{w w1:World}{c1 c2 c3 c4 c5:Int}{cl:Value}{n d:Nat}{κ:am}(hF:∀ j,F j↔j=bm\/G j)(hG:∀ j,G j->j<w.heap.size)(hn:n<=256)
  (hb:w1.heap[bm]? = some (.cells #[.int .u64 m'.ops,.int .u64 c1,.int .u64 c2,.int .u64 c3,.int .u64 c4,.int .u64 c5,Ev.dec ((κ d).getD 0),cl] 137 (0,0))) (h:kU (.dy d) n cl m'.cells κ F1 w1) (l6:¬ F1 bm)
  (hF1:∀ j,F1 j->j<w1.heap.size/\(G j\/w.heap.size<=j)) (ht:Ev.Turn (λj=>j=bm\/G j) w w1) (Dr:bm<w.heap.size):∃ F',jn bm m' F' w1/\Grow F F' w w1:=by
 refine⟨λj=>j=bm\/F1 j,⟨c1,c2,c3,c4,c5,_,cl,n,F1,hn,hb,JO h,l6,λj=>Iff.rfl⟩,⟨ht.os,ht.tape,ht.output,ht.size,λk hk hnf=>ht.block k hk (λhh=>hnf ((hF k).2 hh))⟩,λj hj=>?_⟩;rcases hj with rfl | hj
 ·exact⟨Nat.lt_of_lt_of_le Dr ht.size,.inl ((hF j).2 (.inl rfl))⟩
 ·exact⟨(hF1 j hj).1,(hF1 j hj).2.imp (λh=>(hF j).2 (.inr h)) id⟩
theorem Ds{bm:Nat}{m:bO}{F:Nat->Prop}{w:World}(h:jn bm m F w){a:Nat}(ha:a<m.cells.length)(ha2:(a:Int)<=9223372036854775807) :
  Calls prog 150 #[.pointer (some ⟨bm,0,none⟩),.int .i64 (a:Int)] w λe w'=>∃ F',e=.returned (.int .u64 m.cells[a])/\jn bm ⟨m.cells,IntKind.u64.wrap (m.ops+1)⟩ F' w'/\Grow F F' w w':=by
 obtain⟨c1,c2,c3,c4,c5,lg,cl,n,G,h1,h2,h3,h4,h5⟩:=h;obtain⟨l1,l2⟩:=mI h3;have hG:=oG h3;have Dr:=(Array.getElem?_eq_some_iff.1 h2).1
 by_cases hcut:n=256
 ·letI:bB:=(ke ⟨m.ops,c1,c2,c3,c4,c5,lg,cl,a,n,m.cells[a],0,0,m.cells,l1,l2,h1,ha,rfl,ha2⟩ hcut).sig
  refine(gX Tryz.codeOk (Dh ⟨m.ops,c1,c2,c3,c4,c5,lg,cl,a,n,m.cells[a],0,0,m.cells,l1,l2,h1,ha,rfl,ha2⟩ hcut) dO (args:=#[.pointer (some ⟨4,0,none⟩),sy 8]) (bm:=bm) (F:=G) (cs:=[sy 0,sy 1,sy 2,sy 3,sy 4,sy 5,sy 6,sy 7]) (FB ⟨m.ops,c1,c2,c3,c4,c5,lg,cl,a,n,m.cells[a],0,0,m.cells,l1,l2,h1,ha,rfl,ha2⟩ hcut) (by decide) h2 (syms _ [0,1,2,3,4,5,6,7]) ⟨_,rfl,jH h3⟩ hG h4 (jI (b8 (.ptr 4 0 bm rfl) (b8 (.sym 8 0 _ rfl) gk))) (by kernel_rfl)).mono ?_;rintro e w1 ⟨κ,v',rfl,hv,k4,hb1,⟨F1,⟨MQ,q1,q2⟩,l6,hF1⟩,ht⟩;cases q1
  obtain⟨F',r1,r2⟩:=g8 (m:=m) (m':=⟨m.cells,IntKind.u64.wrap (m.ops+1)⟩) (d:=419) h5 hG (show n<=256 by omega) hb1 (by
   have q3:kU (.dy 419) (n) cl (m.cells.set a m.cells[a]) κ F1 w1:=q2;rw[List.set_getElem_self]at q3
   exact q3) l6 hF1 ht Dr
  exact⟨F',by rw[v6 hv];rfl,r1,r2⟩
 have hcut:n<256:=by omega
 letI:bB:=(ui ⟨m.ops,c1,c2,c3,c4,c5,lg,cl,a,n,m.cells[a],0,0,m.cells,l1,l2,h1,ha,rfl,ha2⟩ hcut).sig;refine(gX Tryz.codeOk (MJ ⟨m.ops,c1,c2,c3,c4,c5,lg,cl,a,n,m.cells[a],0,0,m.cells,l1,l2,h1,ha,rfl,ha2⟩ hcut) dO (args:=#[.pointer (some ⟨4,0,none⟩),sy 8]) (bm:=bm) (F:=G) (cs:=[sy 0,sy 1,sy 2,sy 3,sy 4,sy 5,sy 6,sy 7]) (OC ⟨m.ops,c1,c2,c3,c4,c5,lg,cl,a,n,m.cells[a],0,0,m.cells,l1,l2,h1,ha,rfl,ha2⟩ hcut) (by decide) h2 (syms _ [0,1,2,3,4,5,6,7]) ⟨_,rfl,jH h3⟩ hG h4 (jI (b8 (.ptr 4 0 bm rfl) (b8 (.sym 8 0 _ rfl) gk))) (by kernel_rfl)).mono ?_;rintro e w1 ⟨κ,v',rfl,hv,k4,hb1,⟨F1,⟨MQ,q1,q2⟩,l6,hF1⟩,ht⟩;cases q1
 obtain⟨F',r1,r2⟩:=g8 (m:=m) (m':=⟨m.cells,IntKind.u64.wrap (m.ops+1)⟩) (d:=415) h5 hG (show n+1<=256 by omega) hb1 (by
  have q3:kU (.dy 415) (n+1) cl (m.cells.set a m.cells[a]) κ F1 w1:=q2;rw[List.set_getElem_self]at q3
  exact q3) l6 hF1 ht Dr
 exact⟨F',by rw[v6 hv];rfl,r1,r2⟩
theorem MR{bm:Nat}{m:bO}{F:Nat->Prop}{w:World}(h:jn bm m F w){a:Nat}(ha:a<m.cells.length)(ha2:(a:Int)<=9223372036854775807)(u v:Int)(hy:m.cells[a]≠u) :
  Calls prog 154 #[.pointer (some ⟨bm,0,none⟩),.int .i64 (a:Int),.int .u64 u,.int .u64 v] w λe w'=>∃ F',e=.returned (.bool false)/\jn bm ⟨m.cells,IntKind.u64.wrap (m.ops+1)⟩ F' w'/\Grow F F' w w':=by
 obtain⟨c1,c2,c3,c4,c5,lg,cl,n,G,h1,h2,h3,h4,h5⟩:=h;obtain⟨l1,l2⟩:=mI h3;have hG:=oG h3;have Dr:=(Array.getElem?_eq_some_iff.1 h2).1
 by_cases hcut:n=256
 ·letI:bB:=(i6 ⟨m.ops,c1,c2,c3,c4,c5,lg,cl,a,n,m.cells[a],v,u,m.cells,l1,l2,h1,ha,rfl,ha2⟩ hcut hy).sig
  refine(gX Tryz.codeOk (AB ⟨m.ops,c1,c2,c3,c4,c5,lg,cl,a,n,m.cells[a],v,u,m.cells,l1,l2,h1,ha,rfl,ha2⟩ hcut hy) dO (args:=#[.pointer (some ⟨4,0,none⟩),sy 8,sy 16,sy 15]) (bm:=bm) (F:=G) (cs:=[sy 0,sy 1,sy 2,sy 3,sy 4,sy 5,sy 6,sy 7]) (Dq ⟨m.ops,c1,c2,c3,c4,c5,lg,cl,a,n,m.cells[a],v,u,m.cells,l1,l2,h1,ha,rfl,ha2⟩ hcut hy) (by decide) h2 (syms _ [0,1,2,3,4,5,6,7]) ⟨_,rfl,jH h3⟩ hG h4 (jI (b8 (.ptr 4 0 bm rfl) (b8 (.sym 8 0 _ rfl) (b8 (.sym 16 0 _ rfl) (b8 (.sym 15 0 _ rfl) gk))))) (by kernel_rfl)).mono ?_;rintro e w1 ⟨κ,v',rfl,hv,k4,hb1,⟨F1,⟨MQ,q1,q2⟩,l6,hF1⟩,ht⟩;cases q1
  obtain⟨F',r1,r2⟩:=g8 (m:=m) (m':=⟨m.cells,IntKind.u64.wrap (m.ops+1)⟩) (d:=427) h5 hG (show n<=256 by omega) hb1 (by
   have q3:kU (.dy 427) (n) cl (m.cells.set a m.cells[a]) κ F1 w1:=q2;rw[List.set_getElem_self]at q3
   exact q3) l6 hF1 ht Dr
  exact⟨F',by cases hv;rfl,r1,r2⟩
 have hcut:n<256:=by omega
 letI:bB:=(pO ⟨m.ops,c1,c2,c3,c4,c5,lg,cl,a,n,m.cells[a],v,u,m.cells,l1,l2,h1,ha,rfl,ha2⟩ hcut hy).sig;refine(gX Tryz.codeOk (JN ⟨m.ops,c1,c2,c3,c4,c5,lg,cl,a,n,m.cells[a],v,u,m.cells,l1,l2,h1,ha,rfl,ha2⟩ hcut hy) dO (args:=#[.pointer (some ⟨4,0,none⟩),sy 8,sy 16,sy 15]) (bm:=bm) (F:=G) (cs:=[sy 0,sy 1,sy 2,sy 3,sy 4,sy 5,sy 6,sy 7]) (MO ⟨m.ops,c1,c2,c3,c4,c5,lg,cl,a,n,m.cells[a],v,u,m.cells,l1,l2,h1,ha,rfl,ha2⟩ hcut hy) (by decide) h2 (syms _ [0,1,2,3,4,5,6,7]) ⟨_,rfl,jH h3⟩ hG h4 (jI (b8 (.ptr 4 0 bm rfl) (b8 (.sym 8 0 _ rfl) (b8 (.sym 16 0 _ rfl) (b8 (.sym 15 0 _ rfl) gk))))) (by kernel_rfl)).mono ?_;rintro e w1 ⟨κ,v',rfl,hv,k4,hb1,⟨F1,⟨MQ,q1,q2⟩,l6,hF1⟩,ht⟩;cases q1
 obtain⟨F',r1,r2⟩:=g8 (m:=m) (m':=⟨m.cells,IntKind.u64.wrap (m.ops+1)⟩) (d:=423) h5 hG (show n+1<=256 by omega) hb1 (by
  have q3:kU (.dy 423) (n+1) cl (m.cells.set a m.cells[a]) κ F1 w1:=q2;rw[List.set_getElem_self]at q3
  exact q3) l6 hF1 ht Dr
 exact⟨F',by cases hv;rfl,r1,r2⟩
theorem JP{bm:Nat}{m:bO}{F:Nat->Prop}{w:World}(h:jn bm m F w){a:Nat}(ha:a<m.cells.length)(ha2:(a:Int)<=9223372036854775807)(u v:Int)(hy:m.cells[a]=u) :
  Calls prog 154 #[.pointer (some ⟨bm,0,none⟩),.int .i64 (a:Int),.int .u64 u,.int .u64 v] w λe w'=>∃ F',e=.returned (.bool true)/\jn bm ⟨m.cells.set a v,IntKind.u64.wrap (m.ops+1)⟩ F' w'/\Grow F F' w w':=by
 obtain⟨c1,c2,c3,c4,c5,lg,cl,n,G,h1,h2,h3,h4,h5⟩:=h;obtain⟨l1,l2⟩:=mI h3;have hG:=oG h3;have Dr:=(Array.getElem?_eq_some_iff.1 h2).1
 by_cases hcut:n=256
 ·letI:bB:=(gH ⟨m.ops,c1,c2,c3,c4,c5,lg,cl,a,n,m.cells[a],v,u,m.cells,l1,l2,h1,ha,rfl,ha2⟩ hcut hy).sig
  refine(gX Tryz.codeOk (yx ⟨m.ops,c1,c2,c3,c4,c5,lg,cl,a,n,m.cells[a],v,u,m.cells,l1,l2,h1,ha,rfl,ha2⟩ hcut hy) dO (args:=#[.pointer (some ⟨4,0,none⟩),sy 8,sy 16,sy 15]) (bm:=bm) (F:=G) (cs:=[sy 0,sy 1,sy 2,sy 3,sy 4,sy 5,sy 6,sy 7]) (Az ⟨m.ops,c1,c2,c3,c4,c5,lg,cl,a,n,m.cells[a],v,u,m.cells,l1,l2,h1,ha,rfl,ha2⟩ hcut hy) (by decide) h2 (syms _ [0,1,2,3,4,5,6,7]) ⟨_,rfl,jH h3⟩ hG h4 (jI (b8 (.ptr 4 0 bm rfl) (b8 (.sym 8 0 _ rfl) (b8 (.sym 16 0 _ rfl) (b8 (.sym 15 0 _ rfl) gk))))) (by kernel_rfl)).mono ?_;rintro e w1 ⟨κ,v',rfl,hv,k4,hb1,⟨F1,⟨MQ,q1,q2⟩,l6,hF1⟩,ht⟩;cases q1
  obtain⟨F',r1,r2⟩:=g8 (m:=m) (m':=⟨m.cells.set a v,IntKind.u64.wrap (m.ops+1)⟩) (d:=427) h5 hG (show n<=256 by omega) hb1 (by
   have q3:kU (.dy 427) (n) cl (m.cells.set a v) κ F1 w1:=q2
   exact q3) l6 hF1 ht Dr
  exact⟨F',by cases hv;rfl,r1,r2⟩
 have hcut:n<256:=by omega
 letI:bB:=(mH ⟨m.ops,c1,c2,c3,c4,c5,lg,cl,a,n,m.cells[a],v,u,m.cells,l1,l2,h1,ha,rfl,ha2⟩ hcut hy).sig;refine(gX Tryz.codeOk (FI ⟨m.ops,c1,c2,c3,c4,c5,lg,cl,a,n,m.cells[a],v,u,m.cells,l1,l2,h1,ha,rfl,ha2⟩ hcut hy) dO (args:=#[.pointer (some ⟨4,0,none⟩),sy 8,sy 16,sy 15]) (bm:=bm) (F:=G) (cs:=[sy 0,sy 1,sy 2,sy 3,sy 4,sy 5,sy 6,sy 7]) (JM ⟨m.ops,c1,c2,c3,c4,c5,lg,cl,a,n,m.cells[a],v,u,m.cells,l1,l2,h1,ha,rfl,ha2⟩ hcut hy) (by decide) h2 (syms _ [0,1,2,3,4,5,6,7]) ⟨_,rfl,jH h3⟩ hG h4 (jI (b8 (.ptr 4 0 bm rfl) (b8 (.sym 8 0 _ rfl) (b8 (.sym 16 0 _ rfl) (b8 (.sym 15 0 _ rfl) gk))))) (by kernel_rfl)).mono ?_;rintro e w1 ⟨κ,v',rfl,hv,k4,hb1,⟨F1,⟨MQ,q1,q2⟩,l6,hF1⟩,ht⟩;cases q1
 obtain⟨F',r1,r2⟩:=g8 (m:=m) (m':=⟨m.cells.set a v,IntKind.u64.wrap (m.ops+1)⟩) (d:=423) h5 hG (show n+1<=256 by omega) hb1 (by
  have q3:kU (.dy 423) (n+1) cl (m.cells.set a v) κ F1 w1:=q2
  exact q3) l6 hF1 ht Dr
 exact⟨F',by cases hv;rfl,r1,r2⟩
theorem AC{bm:Nat}{m:bO}{F:Nat->Prop}{w:World}(h:jn bm m F w){a:Nat}(ha:a<m.cells.length)(ha2:(a:Int)<=9223372036854775807)(v:Int) :
  Calls prog 147 #[.pointer (some ⟨bm,0,none⟩),.int .i64 (a:Int),.int .u64 v] w λe w'=>∃ F',e=.returned (.tuple #[])/\jn bm ⟨m.cells.set a v,IntKind.u64.wrap (m.ops+1)⟩ F' w'/\Grow F F' w w':=by
 obtain⟨c1,c2,c3,c4,c5,lg,cl,n,G,h1,h2,h3,h4,h5⟩:=h;obtain⟨l1,l2⟩:=mI h3;have hG:=oG h3;have Dr:=(Array.getElem?_eq_some_iff.1 h2).1
 by_cases hcut:n=256
 ·letI:bB:=(iY ⟨m.ops,c1,c2,c3,c4,c5,lg,cl,a,n,m.cells[a],v,0,m.cells,l1,l2,h1,ha,rfl,ha2⟩ hcut).sig
  refine(gX Tryz.codeOk (Aw ⟨m.ops,c1,c2,c3,c4,c5,lg,cl,a,n,m.cells[a],v,0,m.cells,l1,l2,h1,ha,rfl,ha2⟩ hcut) dO (args:=#[.pointer (some ⟨4,0,none⟩),sy 8,sy 15]) (bm:=bm) (F:=G) (cs:=[sy 0,sy 1,sy 2,sy 3,sy 4,sy 5,sy 6,sy 7]) (Dj ⟨m.ops,c1,c2,c3,c4,c5,lg,cl,a,n,m.cells[a],v,0,m.cells,l1,l2,h1,ha,rfl,ha2⟩ hcut) (by decide) h2 (syms _ [0,1,2,3,4,5,6,7]) ⟨_,rfl,jH h3⟩ hG h4 (jI (b8 (.ptr 4 0 bm rfl) (b8 (.sym 8 0 _ rfl) (b8 (.sym 15 0 _ rfl) gk)))) (by kernel_rfl)).mono ?_;rintro e w1 ⟨κ,v',rfl,hv,k4,hb1,⟨F1,⟨MQ,q1,q2⟩,l6,hF1⟩,ht⟩;cases q1
  obtain⟨F',r1,r2⟩:=g8 (m:=m) (m':=⟨m.cells.set a v,IntKind.u64.wrap (m.ops+1)⟩) (d:=423) h5 hG (show n<=256 by omega) hb1 (by
   have q3:kU (.dy 423) (n) cl (m.cells.set a v) κ F1 w1:=q2
   exact q3) l6 hF1 ht Dr
  exact⟨F',by cases hv with | tuple f f1 hf _=>rw[Array.eq_empty_of_size_eq_zero hf.symm],r1,r2⟩
 have hcut:n<256:=by omega
 letI:bB:=(pL ⟨m.ops,c1,c2,c3,c4,c5,lg,cl,a,n,m.cells[a],v,0,m.cells,l1,l2,h1,ha,rfl,ha2⟩ hcut).sig;refine(gX Tryz.codeOk (JK ⟨m.ops,c1,c2,c3,c4,c5,lg,cl,a,n,m.cells[a],v,0,m.cells,l1,l2,h1,ha,rfl,ha2⟩ hcut) dO (args:=#[.pointer (some ⟨4,0,none⟩),sy 8,sy 15]) (bm:=bm) (F:=G) (cs:=[sy 0,sy 1,sy 2,sy 3,sy 4,sy 5,sy 6,sy 7]) (ML ⟨m.ops,c1,c2,c3,c4,c5,lg,cl,a,n,m.cells[a],v,0,m.cells,l1,l2,h1,ha,rfl,ha2⟩ hcut) (by decide) h2 (syms _ [0,1,2,3,4,5,6,7]) ⟨_,rfl,jH h3⟩ hG h4 (jI (b8 (.ptr 4 0 bm rfl) (b8 (.sym 8 0 _ rfl) (b8 (.sym 15 0 _ rfl) gk)))) (by kernel_rfl)).mono ?_;rintro e w1 ⟨κ,v',rfl,hv,k4,hb1,⟨F1,⟨MQ,q1,q2⟩,l6,hF1⟩,ht⟩;cases q1
 obtain⟨F',r1,r2⟩:=g8 (m:=m) (m':=⟨m.cells.set a v,IntKind.u64.wrap (m.ops+1)⟩) (d:=419) h5 hG (show n+1<=256 by omega) hb1 (by
  have q3:kU (.dy 419) (n+1) cl (m.cells.set a v) κ F1 w1:=q2
  exact q3) l6 hF1 ht Dr
 exact⟨F',by cases hv with | tuple f f1 hf _=>rw[Array.eq_empty_of_size_eq_zero hf.symm],r1,r2⟩
end Go.Proofs.YtkmccgombmogmaaGreat
