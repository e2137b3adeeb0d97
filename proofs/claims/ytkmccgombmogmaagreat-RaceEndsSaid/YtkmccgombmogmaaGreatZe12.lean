/- Part of a proof: see the last text. -/
import Derived.Test.YtkmccgombmogmaaGreatZe11
set_option linter.unusedSimpArgs false
set_option linter.unusedVariables false
namespace Go.Proofs.YtkmccgombmogmaaGreat
open Go.Ev Go.Proofs.Tryz
open Go.RowKit
open Go.Ev (sy)
structure MP where
 (o c1 c2 c3 c4 c5:Int)
 (lg cl:Value)
 (a n:Nat)
 (x v u:Int)
 cells:List Int
 hl:aV lg=true
 hc:aV cl=true
 hn:n<=256
 ha:a<cells.length
 hx:cells[a]=x
 ha2:(a:Int)<=9223372036854775807
theorem gP(cl:Value)(a:Nat):aV (jr cl a)=true:=by
 unfold jr
 split<;>rfl
def tQ(z:MP)(hcut:z.n<256):Nat->Value
 | 0=>.int .u64 z.o
 | 1=>.int .u64 z.c1
 | 2=>.int .u64 z.c2
 | 3=>.int .u64 z.c3
 | 4=>.int .u64 z.c4
 | 5=>.int .u64 z.c5
 | 6=>z.lg
 | 7=>z.cl
 | 8=>.int .i64 (z.a:Int)
 | 9=>.int .u64 z.x
 | 10=>jr z.cl z.a
 | 11=>.int .u64 (IntKind.u64.wrap (z.o+1))
 | 12=>.int .u64 (IntKind.u64.wrap (z.c1+1))
 | 13=>.int .i64 (z.cells.length:Int)
 | 14=>.int .i64 ((z.n:Int)+1)
 | 15=>.int .u64 z.v
 | 16=>.int .u64 z.u
 | _=>.int .i64 0
theorem Nw(z:MP)(hcut:z.n<256):∀ j9,aV (tQ z hcut j9)=true:=by
 intro j9;unfold tQ
 split<;>first | rfl | assumption | exact z.hl | exact z.hc | exact gP _ _
def E0:List jn:=[(.geq,sy 8,.int .i64 0,.bool true),(.lss,sy 8,sy 13,.bool true),(.add,sy 0,.int .u64 1,sy 11),(.add,sy 1,.int .u64 1,sy 12),(.gtr,sy 14,.int .i64 256,.bool false)]
theorem IH(z:MP)(hcut:z.n<256):∀ q ∈ E0,lK (tQ z hcut) q:=by
 intro q hq;simp only[E0,List.mem_cons,List.not_mem_nil,or_false]at hq;rcases hq with rfl | rfl | rfl | rfl | rfl
 ·intro t ox oy;exact fe (by first|(simp;done)|(simp;omega))
 ·intro t ox oy;exact aU (by simpa using z.ha)
 ·intro t ox oy;exact aN rfl
 ·intro t ox oy;exact aN rfl
 ·intro t ox oy;exact hE (by first|(simp;done)|(simp;omega))
def Ke:List jo:=[]
theorem II(z:MP)(hcut:z.n<256):∀ q ∈ Ke,lL (tQ z hcut) q:=by
 intro q hq;cases hq
def Kf:List jq:=[]
theorem IJ(z:MP)(hcut:z.n<256):∀ q ∈ Kf,k_ (tQ z hcut) q:=by
 intro q hq;cases hq
def Kg:List kZ:=[]
@[reducible] def tR(z:MP)(hcut:z.n<256):Ev.Kn:={ val:=tQ z hcut,leaf:=Nw z hcut,bs:=E0,us:=Ke,cs:=Kf,ks:=Kg,hb:=IH z hcut,hu:=II z hcut,hc:=IJ z hcut,gs:=[dZ (.st z.lg) z.n z.cl z.cells,dZ (.st z.lg) z.n z.cl (z.cells.set z.a z.x),dZ (.dy 415) (z.n+1) z.cl (z.cells.set z.a z.x)],ops:=[⟨[10,50],[sy 7],none,0,none,sy 13,none⟩,⟨[3,50],[sy 7,sy 8],none,0,none,sy 10,none⟩,⟨[1,51],[sy 10],none,0,none,sy 9,none⟩,⟨[2,51],[sy 10,sy 9],none,0,none,undef,some 1⟩,⟨[11,133,133],[sy 6],some (4,1,[.int .i64 1,sy 8,sy 9,sy 9]),1,some 415,.complex .f32 415 0,some 2⟩,⟨[10,133],[.complex .f32 415 0],none,2,none,sy 14,none⟩],cls:=[] }
theorem Lz(z:MP)(hcut:z.n<256):@Ev.dH (tR z hcut).sig prog:=by
 refine Ev.Kn.ok (tR z hcut) ?_ ?_ ?_
 ·intro q hq
  cases hq
 ·intro q hq
  simp only[tR,Kg,List.mem_cons,List.not_mem_nil,or_false]at hq;rcases hq with rfl | rfl | rfl | rfl | rfl | rfl
  ·exact jt rfl rfl rfl
  ·exact fC rfl rfl rfl rfl z.ha
  ·exact gN rfl rfl z.ha (by show Value.int .u64 z.x=_;rw[z.hx])
  ·exact fD rfl rfl rfl z.ha rfl
  ·exact gO rfl rfl rfl z.hn rfl
  ·exact eO rfl rfl
 ·intro q hq
  cases hq
theorem Nx(z:MP)(hcut:z.n<256):d9 prog (λB=>i7 (sy 9) [(4,[sy 11,sy 12,sy 2,sy 3,sy 4,sy 5,.complex .f32 415 0,sy 7],137)] (some 2) (@Ev.en (tR z hcut).sig B (@Ev.tq (tR z hcut).sig B 200) 150 [.pointer (some ⟨4,0,none⟩),sy 8] (fi [(4,.cells ([sy 0,sy 1,sy 2,sy 3,sy 4,sy 5,sy 6,sy 7]:List Value).toArray 137 (0,0)),(3,il 0)] 100)))=true:=by kernel_rfl
def jN(z:MP)(hcut:z.n=256):Nat->Value
 | 0=>.int .u64 z.o
 | 1=>.int .u64 z.c1
 | 2=>.int .u64 z.c2
 | 3=>.int .u64 z.c3
 | 4=>.int .u64 z.c4
 | 5=>.int .u64 z.c5
 | 6=>z.lg
 | 7=>z.cl
 | 8=>.int .i64 (z.a:Int)
 | 9=>.int .u64 z.x
 | 10=>jr z.cl z.a
 | 11=>.int .u64 (IntKind.u64.wrap (z.o+1))
 | 12=>.int .u64 (IntKind.u64.wrap (z.c1+1))
 | 13=>.int .i64 (z.cells.length:Int)
 | 14=>.int .i64 ((z.n:Int)+1)
 | 15=>.int .u64 z.v
 | 16=>.int .u64 z.u
 | _=>.int .i64 0
theorem E1(z:MP)(hcut:z.n=256):∀ j9,aV (jN z hcut j9)=true:=by
 intro j9;unfold jN
 split<;>first | rfl | assumption | exact z.hl | exact z.hc | exact gP _ _
def rz:List jn:=[(.geq,sy 8,.int .i64 0,.bool true),(.lss,sy 8,sy 13,.bool true),(.add,sy 0,.int .u64 1,sy 11),(.add,sy 1,.int .u64 1,sy 12),(.gtr,sy 14,.int .i64 256,.bool true)]
theorem zX(z:MP)(hcut:z.n=256):∀ q ∈ rz,lK (jN z hcut) q:=by
 intro q hq;simp only[rz,List.mem_cons,List.not_mem_nil,or_false]at hq;rcases hq with rfl | rfl | rfl | rfl | rfl
 ·intro t ox oy;exact fe (by first|(simp;done)|(simp;omega))
 ·intro t ox oy;exact aU (by simpa using z.ha)
 ·intro t ox oy;exact aN rfl
 ·intro t ox oy;exact aN rfl
 ·intro t ox oy;exact hE (by first|(simp;done)|(simp;omega))
def xS:List jo:=[]
theorem zY(z:MP)(hcut:z.n=256):∀ q ∈ xS,lL (jN z hcut) q:=by
 intro q hq;cases hq
def xT:List jq:=[]
theorem zZ(z:MP)(hcut:z.n=256):∀ q ∈ xT,k_ (jN z hcut) q:=by
 intro q hq;cases hq
def xU:List kZ:=[]
@[reducible] def jO(z:MP)(hcut:z.n=256):Ev.Kn:={ val:=jN z hcut,leaf:=E1 z hcut,bs:=rz,us:=xS,cs:=xT,ks:=xU,hb:=zX z hcut,hu:=zY z hcut,hc:=zZ z hcut,gs:=[dZ (.st z.lg) z.n z.cl z.cells,dZ (.st z.lg) z.n z.cl (z.cells.set z.a z.x),dZ (.dy 415) (z.n+1) z.cl (z.cells.set z.a z.x),dZ (.dy 419) z.n z.cl (z.cells.set z.a z.x)],ops:=[⟨[10,50],[sy 7],none,0,none,sy 13,none⟩,⟨[3,50],[sy 7,sy 8],none,0,none,sy 10,none⟩,⟨[1,51],[sy 10],none,0,none,sy 9,none⟩,⟨[2,51],[sy 10,sy 9],none,0,none,undef,some 1⟩,⟨[11,133,133],[sy 6],some (4,1,[.int .i64 1,sy 8,sy 9,sy 9]),1,some 415,.complex .f32 415 0,some 2⟩,⟨[10,133],[.complex .f32 415 0],none,2,none,sy 14,none⟩,⟨[4,133,1,0,0],[.complex .f32 415 0,.int .i64 1],none,2,some 419,.complex .f32 419 0,some 3⟩],cls:=[] }
theorem CP(z:MP)(hcut:z.n=256):@Ev.dH (jO z hcut).sig prog:=by
 refine Ev.Kn.ok (jO z hcut) ?_ ?_ ?_
 ·intro q hq
  cases hq
 ·intro q hq
  simp only[jO,xU,List.mem_cons,List.not_mem_nil,or_false]at hq;rcases hq with rfl | rfl | rfl | rfl | rfl | rfl | rfl
  ·exact jt rfl rfl rfl
  ·exact fC rfl rfl rfl rfl z.ha
  ·exact gN rfl rfl z.ha (by show Value.int .u64 z.x=_;rw[z.hx])
  ·exact fD rfl rfl rfl z.ha rfl
  ·exact gO rfl rfl rfl z.hn rfl
  ·exact eO rfl rfl
  ·exact qr rfl rfl
 ·intro q hq
  cases hq
theorem E2(z:MP)(hcut:z.n=256):d9 prog (λB=>i7 (sy 9) [(4,[sy 11,sy 12,sy 2,sy 3,sy 4,sy 5,.complex .f32 419 0,sy 7],137)] (some 3) (@Ev.en (jO z hcut).sig B (@Ev.tq (jO z hcut).sig B 200) 150 [.pointer (some ⟨4,0,none⟩),sy 8] (fi [(4,.cells ([sy 0,sy 1,sy 2,sy 3,sy 4,sy 5,sy 6,sy 7]:List Value).toArray 137 (0,0)),(3,il 0)] 100)))=true:=by kernel_rfl
def po(z:MP)(hcut:z.n<256):Nat->Value
 | 0=>.int .u64 z.o
 | 1=>.int .u64 z.c1
 | 2=>.int .u64 z.c2
 | 3=>.int .u64 z.c3
 | 4=>.int .u64 z.c4
 | 5=>.int .u64 z.c5
 | 6=>z.lg
 | 7=>z.cl
 | 8=>.int .i64 (z.a:Int)
 | 9=>.int .u64 z.x
 | 10=>jr z.cl z.a
 | 11=>.int .u64 (IntKind.u64.wrap (z.o+1))
 | 12=>.int .u64 (IntKind.u64.wrap (z.c2+1))
 | 13=>.int .i64 (z.cells.length:Int)
 | 14=>.int .i64 ((z.n:Int)+1)
 | 15=>.int .u64 z.v
 | 16=>.int .u64 z.u
 | _=>.int .i64 0
theorem LA(z:MP)(hcut:z.n<256):∀ j9,aV (po z hcut j9)=true:=by
 intro j9;unfold po
 split<;>first | rfl | assumption | exact z.hl | exact z.hc | exact gP _ _
def z6:List jn:=[(.geq,sy 8,.int .i64 0,.bool true),(.lss,sy 8,sy 13,.bool true),(.add,sy 0,.int .u64 1,sy 11),(.add,sy 2,.int .u64 1,sy 12),(.gtr,sy 14,.int .i64 256,.bool false)]
theorem E3(z:MP)(hcut:z.n<256):∀ q ∈ z6,lK (po z hcut) q:=by
 intro q hq;simp only[z6,List.mem_cons,List.not_mem_nil,or_false]at hq;rcases hq with rfl | rfl | rfl | rfl | rfl
 ·intro t ox oy;exact fe (by first|(simp;done)|(simp;omega))
 ·intro t ox oy;exact aU (by simpa using z.ha)
 ·intro t ox oy;exact aN rfl
 ·intro t ox oy;exact aN rfl
 ·intro t ox oy;exact hE (by first|(simp;done)|(simp;omega))
def E4:List jo:=[]
theorem E5(z:MP)(hcut:z.n<256):∀ q ∈ E4,lL (po z hcut) q:=by
 intro q hq;cases hq
def E6:List jq:=[]
theorem E7(z:MP)(hcut:z.n<256):∀ q ∈ E6,k_ (po z hcut) q:=by
 intro q hq;cases hq
def E8:List kZ:=[]
@[reducible] def pq(z:MP)(hcut:z.n<256):Ev.Kn:={ val:=po z hcut,leaf:=LA z hcut,bs:=z6,us:=E4,cs:=E6,ks:=E8,hb:=E3 z hcut,hu:=E5 z hcut,hc:=E7 z hcut,gs:=[dZ (.st z.lg) z.n z.cl z.cells,dZ (.st z.lg) z.n z.cl (z.cells.set z.a z.v),dZ (.dy 419) (z.n+1) z.cl (z.cells.set z.a z.v)],ops:=[⟨[10,50],[sy 7],none,0,none,sy 13,none⟩,⟨[3,50],[sy 7,sy 8],none,0,none,sy 10,none⟩,⟨[1,51],[sy 10],none,0,none,sy 9,none⟩,⟨[2,51],[sy 10,sy 15],none,0,none,undef,some 1⟩,⟨[11,133,133],[sy 6],some (4,1,[.int .i64 2,sy 8,sy 9,sy 15]),1,some 419,.complex .f32 419 0,some 2⟩,⟨[10,133],[.complex .f32 419 0],none,2,none,sy 14,none⟩],cls:=[] }
theorem IK(z:MP)(hcut:z.n<256):@Ev.dH (pq z hcut).sig prog:=by
 refine Ev.Kn.ok (pq z hcut) ?_ ?_ ?_
 ·intro q hq
  cases hq
 ·intro q hq
  simp only[pq,E8,List.mem_cons,List.not_mem_nil,or_false]at hq;rcases hq with rfl | rfl | rfl | rfl | rfl | rfl
  ·exact jt rfl rfl rfl
  ·exact fC rfl rfl rfl rfl z.ha
  ·exact gN rfl rfl z.ha (by show Value.int .u64 z.x=_;rw[z.hx])
  ·exact fD rfl rfl rfl z.ha rfl
  ·exact gO rfl rfl rfl z.hn rfl
  ·exact eO rfl rfl
 ·intro q hq
  cases hq
theorem LB(z:MP)(hcut:z.n<256):d9 prog (λB=>i7 (.tuple #[]) [(4,[sy 11,sy 1,sy 12,sy 3,sy 4,sy 5,.complex .f32 419 0,sy 7],137)] (some 2) (@Ev.en (pq z hcut).sig B (@Ev.tq (pq z hcut).sig B 200) 147 [.pointer (some ⟨4,0,none⟩),sy 8,sy 15] (fi [(4,.cells ([sy 0,sy 1,sy 2,sy 3,sy 4,sy 5,sy 6,sy 7]:List Value).toArray 137 (0,0)),(3,il 0)] 100)))=true:=by kernel_rfl
def iH(z:MP)(hcut:z.n=256):Nat->Value
 | 0=>.int .u64 z.o
 | 1=>.int .u64 z.c1
 | 2=>.int .u64 z.c2
 | 3=>.int .u64 z.c3
 | 4=>.int .u64 z.c4
 | 5=>.int .u64 z.c5
 | 6=>z.lg
 | 7=>z.cl
 | 8=>.int .i64 (z.a:Int)
 | 9=>.int .u64 z.x
 | 10=>jr z.cl z.a
 | 11=>.int .u64 (IntKind.u64.wrap (z.o+1))
 | 12=>.int .u64 (IntKind.u64.wrap (z.c2+1))
 | 13=>.int .i64 (z.cells.length:Int)
 | 14=>.int .i64 ((z.n:Int)+1)
 | 15=>.int .u64 z.v
 | 16=>.int .u64 z.u
 | _=>.int .i64 0
theorem CQ(z:MP)(hcut:z.n=256):∀ j9,aV (iH z hcut j9)=true:=by
 intro j9;unfold iH
 split<;>first | rfl | assumption | exact z.hl | exact z.hc | exact gP _ _
def pu:List jn:=[(.geq,sy 8,.int .i64 0,.bool true),(.lss,sy 8,sy 13,.bool true),(.add,sy 0,.int .u64 1,sy 11),(.add,sy 2,.int .u64 1,sy 12),(.gtr,sy 14,.int .i64 256,.bool true)]
theorem xV(z:MP)(hcut:z.n=256):∀ q ∈ pu,lK (iH z hcut) q:=by
 intro q hq;simp only[pu,List.mem_cons,List.not_mem_nil,or_false]at hq;rcases hq with rfl | rfl | rfl | rfl | rfl
 ·intro t ox oy;exact fe (by first|(simp;done)|(simp;omega))
 ·intro t ox oy;exact aU (by simpa using z.ha)
 ·intro t ox oy;exact aN rfl
 ·intro t ox oy;exact aN rfl
 ·intro t ox oy;exact hE (by first|(simp;done)|(simp;omega))
def tS:List jo:=[]
theorem xW(z:MP)(hcut:z.n=256):∀ q ∈ tS,lL (iH z hcut) q:=by
 intro q hq;cases hq
def tT:List jq:=[]
theorem xX(z:MP)(hcut:z.n=256):∀ q ∈ tT,k_ (iH z hcut) q:=by
 intro q hq;cases hq
def tU:List kZ:=[]
@[reducible] def iI(z:MP)(hcut:z.n=256):Ev.Kn:={ val:=iH z hcut,leaf:=CQ z hcut,bs:=pu,us:=tS,cs:=tT,ks:=tU,hb:=xV z hcut,hu:=xW z hcut,hc:=xX z hcut,gs:=[dZ (.st z.lg) z.n z.cl z.cells,dZ (.st z.lg) z.n z.cl (z.cells.set z.a z.v),dZ (.dy 419) (z.n+1) z.cl (z.cells.set z.a z.v),dZ (.dy 423) z.n z.cl (z.cells.set z.a z.v)],ops:=[⟨[10,50],[sy 7],none,0,none,sy 13,none⟩,⟨[3,50],[sy 7,sy 8],none,0,none,sy 10,none⟩,⟨[1,51],[sy 10],none,0,none,sy 9,none⟩,⟨[2,51],[sy 10,sy 15],none,0,none,undef,some 1⟩,⟨[11,133,133],[sy 6],some (4,1,[.int .i64 2,sy 8,sy 9,sy 15]),1,some 419,.complex .f32 419 0,some 2⟩,⟨[10,133],[.complex .f32 419 0],none,2,none,sy 14,none⟩,⟨[4,133,1,0,0],[.complex .f32 419 0,.int .i64 1],none,2,some 423,.complex .f32 423 0,some 3⟩],cls:=[] }
theorem z7(z:MP)(hcut:z.n=256):@Ev.dH (iI z hcut).sig prog:=by
 refine Ev.Kn.ok (iI z hcut) ?_ ?_ ?_
 ·intro q hq
  cases hq
 ·intro q hq
  simp only[iI,tU,List.mem_cons,List.not_mem_nil,or_false]at hq;rcases hq with rfl | rfl | rfl | rfl | rfl | rfl | rfl
  ·exact jt rfl rfl rfl
  ·exact fC rfl rfl rfl rfl z.ha
  ·exact gN rfl rfl z.ha (by show Value.int .u64 z.x=_;rw[z.hx])
  ·exact fD rfl rfl rfl z.ha rfl
  ·exact gO rfl rfl rfl z.hn rfl
  ·exact eO rfl rfl
  ·exact qr rfl rfl
 ·intro q hq
  cases hq
theorem CR(z:MP)(hcut:z.n=256):d9 prog (λB=>i7 (.tuple #[]) [(4,[sy 11,sy 1,sy 12,sy 3,sy 4,sy 5,.complex .f32 423 0,sy 7],137)] (some 3) (@Ev.en (iI z hcut).sig B (@Ev.tq (iI z hcut).sig B 200) 147 [.pointer (some ⟨4,0,none⟩),sy 8,sy 15] (fi [(4,.cells ([sy 0,sy 1,sy 2,sy 3,sy 4,sy 5,sy 6,sy 7]:List Value).toArray 137 (0,0)),(3,il 0)] 100)))=true:=by kernel_rfl
def mb(z:MP)(hcut:z.n<256)(hy:z.x=z.u):Nat->Value
 | 0=>.int .u64 z.o
 | 1=>.int .u64 z.c1
 | 2=>.int .u64 z.c2
 | 3=>.int .u64 z.c3
 | 4=>.int .u64 z.c4
 | 5=>.int .u64 z.c5
 | 6=>z.lg
 | 7=>z.cl
 | 8=>.int .i64 (z.a:Int)
 | 9=>.int .u64 z.x
 | 10=>jr z.cl z.a
 | 11=>.int .u64 (IntKind.u64.wrap (z.o+1))
 | 12=>.int .u64 (IntKind.u64.wrap (z.c3+1))
 | 13=>.int .i64 (z.cells.length:Int)
 | 14=>.int .i64 ((z.n:Int)+1)
 | 15=>.int .u64 z.v
 | 16=>.int .u64 z.u
 | _=>.int .i64 0
theorem IL(z:MP)(hcut:z.n<256)(hy:z.x=z.u):∀ j9,aV (mb z hcut hy j9)=true:=by
 intro j9;unfold mb
 split<;>first | rfl | assumption | exact z.hl | exact z.hc | exact gP _ _
def vE:List jn:=[(.geq,sy 8,.int .i64 0,.bool true),(.lss,sy 8,sy 13,.bool true),(.add,sy 0,.int .u64 1,sy 11),(.add,sy 3,.int .u64 1,sy 12),(.gtr,sy 14,.int .i64 256,.bool false),(.neq,sy 9,sy 16,.bool false)]
theorem CS(z:MP)(hcut:z.n<256)(hy:z.x=z.u):∀ q ∈ vE,lK (mb z hcut hy) q:=by
 intro q hq;simp only[vE,List.mem_cons,List.not_mem_nil,or_false]at hq;rcases hq with rfl | rfl | rfl | rfl | rfl | rfl
 ·intro t ox oy;exact fe (by first|(simp;done)|(simp;omega))
 ·intro t ox oy;exact aU (by simpa using z.ha)
 ·intro t ox oy;exact aN rfl
 ·intro t ox oy;exact aN rfl
 ·intro t ox oy;exact hE (by first|(simp;done)|(simp;omega))
 ·intro t ox oy;exact pn (by first|(simp;done)|(simp;omega))
def Bv:List jo:=[]
theorem CT(z:MP)(hcut:z.n<256)(hy:z.x=z.u):∀ q ∈ Bv,lL (mb z hcut hy) q:=by
 intro q hq;cases hq
def Bw:List jq:=[]
theorem CU(z:MP)(hcut:z.n<256)(hy:z.x=z.u):∀ q ∈ Bw,k_ (mb z hcut hy) q:=by
 intro q hq;cases hq
def Bx:List kZ:=[]
@[reducible] def mc(z:MP)(hcut:z.n<256)(hy:z.x=z.u):Ev.Kn:={ val:=mb z hcut hy,leaf:=IL z hcut hy,bs:=vE,us:=Bv,cs:=Bw,ks:=Bx,hb:=CS z hcut hy,hu:=CT z hcut hy,hc:=CU z hcut hy,gs:=[dZ (.st z.lg) z.n z.cl z.cells,dZ (.st z.lg) z.n z.cl (z.cells.set z.a z.v),dZ (.dy 423) (z.n+1) z.cl (z.cells.set z.a z.v)],ops:=[⟨[10,50],[sy 7],none,0,none,sy 13,none⟩,⟨[3,50],[sy 7,sy 8],none,0,none,sy 10,none⟩,⟨[1,51],[sy 10],none,0,none,sy 9,none⟩,⟨[2,51],[sy 10,sy 15],none,0,none,undef,some 1⟩,⟨[11,133,133],[sy 6],some (4,1,[.int .i64 3,sy 8,sy 9,sy 15]),1,some 423,.complex .f32 423 0,some 2⟩,⟨[10,133],[.complex .f32 423 0],none,2,none,sy 14,none⟩],cls:=[] }
theorem E9(z:MP)(hcut:z.n<256)(hy:z.x=z.u):@Ev.dH (mc z hcut hy).sig prog:=by
 refine Ev.Kn.ok (mc z hcut hy) ?_ ?_ ?_
 ·intro q hq
  cases hq
 ·intro q hq
  simp only[mc,Bx,List.mem_cons,List.not_mem_nil,or_false]at hq;rcases hq with rfl | rfl | rfl | rfl | rfl | rfl
  ·exact jt rfl rfl rfl
  ·exact fC rfl rfl rfl rfl z.ha
  ·exact gN rfl rfl z.ha (by show Value.int .u64 z.x=_;rw[z.hx])
  ·exact fD rfl rfl rfl z.ha rfl
  ·exact gO rfl rfl rfl z.hn rfl
  ·exact eO rfl rfl
 ·intro q hq
  cases hq
theorem IP(z:MP)(hcut:z.n<256)(hy:z.x=z.u):d9 prog (λB=>i7 (.bool true) [(4,[sy 11,sy 1,sy 2,sy 12,sy 4,sy 5,.complex .f32 423 0,sy 7],137)] (some 2) (@Ev.en (mc z hcut hy).sig B (@Ev.tq (mc z hcut hy).sig B 200) 154 [.pointer (some ⟨4,0,none⟩),sy 8,sy 16,sy 15] (fi [(4,.cells ([sy 0,sy 1,sy 2,sy 3,sy 4,sy 5,sy 6,sy 7]:List Value).toArray 137 (0,0)),(3,il 0)] 100)))=true:=by kernel_rfl
def gq(z:MP)(hcut:z.n=256)(hy:z.x=z.u):Nat->Value
 | 0=>.int .u64 z.o
 | 1=>.int .u64 z.c1
 | 2=>.int .u64 z.c2
 | 3=>.int .u64 z.c3
 | 4=>.int .u64 z.c4
 | 5=>.int .u64 z.c5
 | 6=>z.lg
 | 7=>z.cl
 | 8=>.int .i64 (z.a:Int)
 | 9=>.int .u64 z.x
 | 10=>jr z.cl z.a
 | 11=>.int .u64 (IntKind.u64.wrap (z.o+1))
 | 12=>.int .u64 (IntKind.u64.wrap (z.c3+1))
 | 13=>.int .i64 (z.cells.length:Int)
 | 14=>.int .i64 ((z.n:Int)+1)
 | 15=>.int .u64 z.v
 | 16=>.int .u64 z.u
 | _=>.int .i64 0
theorem z8(z:MP)(hcut:z.n=256)(hy:z.x=z.u):∀ j9,aV (gq z hcut hy j9)=true:=by
 intro j9;unfold gq
 split<;>first | rfl | assumption | exact z.hl | exact z.hc | exact gP _ _
def np:List jn:=[(.geq,sy 8,.int .i64 0,.bool true),(.lss,sy 8,sy 13,.bool true),(.add,sy 0,.int .u64 1,sy 11),(.add,sy 3,.int .u64 1,sy 12),(.gtr,sy 14,.int .i64 256,.bool true),(.neq,sy 9,sy 16,.bool false)]
theorem vF(z:MP)(hcut:z.n=256)(hy:z.x=z.u):∀ q ∈ np,lK (gq z hcut hy) q:=by
 intro q hq;simp only[np,List.mem_cons,List.not_mem_nil,or_false]at hq;rcases hq with rfl | rfl | rfl | rfl | rfl | rfl
 ·intro t ox oy;exact fe (by first|(simp;done)|(simp;omega))
 ·intro t ox oy;exact aU (by simpa using z.ha)
 ·intro t ox oy;exact aN rfl
 ·intro t ox oy;exact aN rfl
 ·intro t ox oy;exact hE (by first|(simp;done)|(simp;omega))
 ·intro t ox oy;exact pn (by first|(simp;done)|(simp;omega))
def rA:List jo:=[]
theorem vG(z:MP)(hcut:z.n=256)(hy:z.x=z.u):∀ q ∈ rA,lL (gq z hcut hy) q:=by
 intro q hq;cases hq
def rB:List jq:=[]
theorem vH(z:MP)(hcut:z.n=256)(hy:z.x=z.u):∀ q ∈ rB,k_ (gq z hcut hy) q:=by
 intro q hq;cases hq
def rC:List kZ:=[]
@[reducible] def gu(z:MP)(hcut:z.n=256)(hy:z.x=z.u):Ev.Kn:={ val:=gq z hcut hy,leaf:=z8 z hcut hy,bs:=np,us:=rA,cs:=rB,ks:=rC,hb:=vF z hcut hy,hu:=vG z hcut hy,hc:=vH z hcut hy,gs:=[dZ (.st z.lg) z.n z.cl z.cells,dZ (.st z.lg) z.n z.cl (z.cells.set z.a z.v),dZ (.dy 423) (z.n+1) z.cl (z.cells.set z.a z.v),dZ (.dy 427) z.n z.cl (z.cells.set z.a z.v)],ops:=[⟨[10,50],[sy 7],none,0,none,sy 13,none⟩,⟨[3,50],[sy 7,sy 8],none,0,none,sy 10,none⟩,⟨[1,51],[sy 10],none,0,none,sy 9,none⟩,⟨[2,51],[sy 10,sy 15],none,0,none,undef,some 1⟩,⟨[11,133,133],[sy 6],some (4,1,[.int .i64 3,sy 8,sy 9,sy 15]),1,some 423,.complex .f32 423 0,some 2⟩,⟨[10,133],[.complex .f32 423 0],none,2,none,sy 14,none⟩,⟨[4,133,1,0,0],[.complex .f32 423 0,.int .i64 1],none,2,some 427,.complex .f32 427 0,some 3⟩],cls:=[] }
theorem xY(z:MP)(hcut:z.n=256)(hy:z.x=z.u):@Ev.dH (gu z hcut hy).sig prog:=by
 refine Ev.Kn.ok (gu z hcut hy) ?_ ?_ ?_
 ·intro q hq
  cases hq
 ·intro q hq
  simp only[gu,rC,List.mem_cons,List.not_mem_nil,or_false]at hq;rcases hq with rfl | rfl | rfl | rfl | rfl | rfl | rfl
  ·exact jt rfl rfl rfl
  ·exact fC rfl rfl rfl rfl z.ha
  ·exact gN rfl rfl z.ha (by show Value.int .u64 z.x=_;rw[z.hx])
  ·exact fD rfl rfl rfl z.ha rfl
  ·exact gO rfl rfl rfl z.hn rfl
  ·exact eO rfl rfl
  ·exact qr rfl rfl
 ·intro q hq
  cases hq
theorem z9(z:MP)(hcut:z.n=256)(hy:z.x=z.u):d9 prog (λB=>i7 (.bool true) [(4,[sy 11,sy 1,sy 2,sy 12,sy 4,sy 5,.complex .f32 427 0,sy 7],137)] (some 3) (@Ev.en (gu z hcut hy).sig B (@Ev.tq (gu z hcut hy).sig B 200) 154 [.pointer (some ⟨4,0,none⟩),sy 8,sy 16,sy 15] (fi [(4,.cells ([sy 0,sy 1,sy 2,sy 3,sy 4,sy 5,sy 6,sy 7]:List Value).toArray 137 (0,0)),(3,il 0)] 100)))=true:=by kernel_rfl
def pv(z:MP)(hcut:z.n<256)(hy:z.x≠z.u):Nat->Value
 | 0=>.int .u64 z.o
 | 1=>.int .u64 z.c1
 | 2=>.int .u64 z.c2
 | 3=>.int .u64 z.c3
 | 4=>.int .u64 z.c4
 | 5=>.int .u64 z.c5
 | 6=>z.lg
 | 7=>z.cl
 | 8=>.int .i64 (z.a:Int)
 | 9=>.int .u64 z.x
 | 10=>jr z.cl z.a
 | 11=>.int .u64 (IntKind.u64.wrap (z.o+1))
 | 12=>.int .u64 (IntKind.u64.wrap (z.c4+1))
 | 13=>.int .i64 (z.cells.length:Int)
 | 14=>.int .i64 ((z.n:Int)+1)
 | 15=>.int .u64 z.v
 | 16=>.int .u64 z.u
 | _=>.int .i64 0
theorem LC(z:MP)(hcut:z.n<256)(hy:z.x≠z.u):∀ j9,aV (pv z hcut hy j9)=true:=by
 intro j9;unfold pv
 split<;>first | rfl | assumption | exact z.hl | exact z.hc | exact gP _ _
def z_:List jn:=[(.geq,sy 8,.int .i64 0,.bool true),(.lss,sy 8,sy 13,.bool true),(.add,sy 0,.int .u64 1,sy 11),(.add,sy 4,.int .u64 1,sy 12),(.gtr,sy 14,.int .i64 256,.bool false),(.neq,sy 9,sy 16,.bool true)]
theorem E_(z:MP)(hcut:z.n<256)(hy:z.x≠z.u):∀ q ∈ z_,lK (pv z hcut hy) q:=by
 intro q hq;simp only[z_,List.mem_cons,List.not_mem_nil,or_false]at hq;rcases hq with rfl | rfl | rfl | rfl | rfl | rfl
 ·intro t ox oy;exact fe (by first|(simp;done)|(simp;omega))
 ·intro t ox oy;exact aU (by simpa using z.ha)
 ·intro t ox oy;exact aN rfl
 ·intro t ox oy;exact aN rfl
 ·intro t ox oy;exact hE (by first|(simp;done)|(simp;omega))
 ·intro t ox oy;exact pn (by first|(simp;done)|(simp;omega))
def E':List jo:=[]
theorem Fd(z:MP)(hcut:z.n<256)(hy:z.x≠z.u):∀ q ∈ E',lL (pv z hcut hy) q:=by
 intro q hq;cases hq
def Fe:List jq:=[]
theorem Ff(z:MP)(hcut:z.n<256)(hy:z.x≠z.u):∀ q ∈ Fe,k_ (pv z hcut hy) q:=by
 intro q hq;cases hq
def Fh:List kZ:=[]
@[reducible] def pw(z:MP)(hcut:z.n<256)(hy:z.x≠z.u):Ev.Kn:={ val:=pv z hcut hy,leaf:=LC z hcut hy,bs:=z_,us:=E',cs:=Fe,ks:=Fh,hb:=E_ z hcut hy,hu:=Fd z hcut hy,hc:=Ff z hcut hy,gs:=[dZ (.st z.lg) z.n z.cl z.cells,dZ (.st z.lg) z.n z.cl (z.cells.set z.a z.x),dZ (.dy 423) (z.n+1) z.cl (z.cells.set z.a z.x)],ops:=[⟨[10,50],[sy 7],none,0,none,sy 13,none⟩,⟨[3,50],[sy 7,sy 8],none,0,none,sy 10,none⟩,⟨[1,51],[sy 10],none,0,none,sy 9,none⟩,⟨[2,51],[sy 10,sy 9],none,0,none,undef,some 1⟩,⟨[11,133,133],[sy 6],some (4,1,[.int .i64 3,sy 8,sy 9,sy 9]),1,some 423,.complex .f32 423 0,some 2⟩,⟨[10,133],[.complex .f32 423 0],none,2,none,sy 14,none⟩],cls:=[] }
theorem IQ(z:MP)(hcut:z.n<256)(hy:z.x≠z.u):@Ev.dH (pw z hcut hy).sig prog:=by
 refine Ev.Kn.ok (pw z hcut hy) ?_ ?_ ?_
 ·intro q hq
  cases hq
 ·intro q hq
  simp only[pw,Fh,List.mem_cons,List.not_mem_nil,or_false]at hq;rcases hq with rfl | rfl | rfl | rfl | rfl | rfl
  ·exact jt rfl rfl rfl
  ·exact fC rfl rfl rfl rfl z.ha
  ·exact gN rfl rfl z.ha (by show Value.int .u64 z.x=_;rw[z.hx])
  ·exact fD rfl rfl rfl z.ha rfl
  ·exact gO rfl rfl rfl z.hn rfl
  ·exact eO rfl rfl
 ·intro q hq
  cases hq
theorem LD(z:MP)(hcut:z.n<256)(hy:z.x≠z.u):d9 prog (λB=>i7 (.bool false) [(4,[sy 11,sy 1,sy 2,sy 3,sy 12,sy 5,.complex .f32 423 0,sy 7],137)] (some 2) (@Ev.en (pw z hcut hy).sig B (@Ev.tq (pw z hcut hy).sig B 200) 154 [.pointer (some ⟨4,0,none⟩),sy 8,sy 16,sy 15] (fi [(4,.cells ([sy 0,sy 1,sy 2,sy 3,sy 4,sy 5,sy 6,sy 7]:List Value).toArray 137 (0,0)),(3,il 0)] 100)))=true:=by kernel_rfl
def iJ(z:MP)(hcut:z.n=256)(hy:z.x≠z.u):Nat->Value
 | 0=>.int .u64 z.o
 | 1=>.int .u64 z.c1
 | 2=>.int .u64 z.c2
 | 3=>.int .u64 z.c3
 | 4=>.int .u64 z.c4
 | 5=>.int .u64 z.c5
 | 6=>z.lg
 | 7=>z.cl
 | 8=>.int .i64 (z.a:Int)
 | 9=>.int .u64 z.x
 | 10=>jr z.cl z.a
 | 11=>.int .u64 (IntKind.u64.wrap (z.o+1))
 | 12=>.int .u64 (IntKind.u64.wrap (z.c4+1))
 | 13=>.int .i64 (z.cells.length:Int)
 | 14=>.int .i64 ((z.n:Int)+1)
 | 15=>.int .u64 z.v
 | 16=>.int .u64 z.u
 | _=>.int .i64 0
theorem CV(z:MP)(hcut:z.n=256)(hy:z.x≠z.u):∀ j9,aV (iJ z hcut hy j9)=true:=by
 intro j9;unfold iJ
 split<;>first | rfl | assumption | exact z.hl | exact z.hc | exact gP _ _
def px:List jn:=[(.geq,sy 8,.int .i64 0,.bool true),(.lss,sy 8,sy 13,.bool true),(.add,sy 0,.int .u64 1,sy 11),(.add,sy 4,.int .u64 1,sy 12),(.gtr,sy 14,.int .i64 256,.bool true),(.neq,sy 9,sy 16,.bool true)]
theorem xZ(z:MP)(hcut:z.n=256)(hy:z.x≠z.u):∀ q ∈ px,lK (iJ z hcut hy) q:=by
 intro q hq;simp only[px,List.mem_cons,List.not_mem_nil,or_false]at hq;rcases hq with rfl | rfl | rfl | rfl | rfl | rfl
 ·intro t ox oy;exact fe (by first|(simp;done)|(simp;omega))
 ·intro t ox oy;exact aU (by simpa using z.ha)
 ·intro t ox oy;exact aN rfl
 ·intro t ox oy;exact aN rfl
 ·intro t ox oy;exact hE (by first|(simp;done)|(simp;omega))
 ·intro t ox oy;exact pn (by first|(simp;done)|(simp;omega))
def tV:List jo:=[]
theorem x4(z:MP)(hcut:z.n=256)(hy:z.x≠z.u):∀ q ∈ tV,lL (iJ z hcut hy) q:=by
 intro q hq;cases hq
def tW:List jq:=[]
theorem x5(z:MP)(hcut:z.n=256)(hy:z.x≠z.u):∀ q ∈ tW,k_ (iJ z hcut hy) q:=by
 intro q hq;cases hq
def tX:List kZ:=[]
@[reducible] def iK(z:MP)(hcut:z.n=256)(hy:z.x≠z.u):Ev.Kn:={ val:=iJ z hcut hy,leaf:=CV z hcut hy,bs:=px,us:=tV,cs:=tW,ks:=tX,hb:=xZ z hcut hy,hu:=x4 z hcut hy,hc:=x5 z hcut hy,gs:=[dZ (.st z.lg) z.n z.cl z.cells,dZ (.st z.lg) z.n z.cl (z.cells.set z.a z.x),dZ (.dy 423) (z.n+1) z.cl (z.cells.set z.a z.x),dZ (.dy 427) z.n z.cl (z.cells.set z.a z.x)],ops:=[⟨[10,50],[sy 7],none,0,none,sy 13,none⟩,⟨[3,50],[sy 7,sy 8],none,0,none,sy 10,none⟩,⟨[1,51],[sy 10],none,0,none,sy 9,none⟩,⟨[2,51],[sy 10,sy 9],none,0,none,undef,some 1⟩,⟨[11,133,133],[sy 6],some (4,1,[.int .i64 3,sy 8,sy 9,sy 9]),1,some 423,.complex .f32 423 0,some 2⟩,⟨[10,133],[.complex .f32 423 0],none,2,none,sy 14,none⟩,⟨[4,133,1,0,0],[.complex .f32 423 0,.int .i64 1],none,2,some 427,.complex .f32 427 0,some 3⟩],cls:=[] }
theorem Aa(z:MP)(hcut:z.n=256)(hy:z.x≠z.u):@Ev.dH (iK z hcut hy).sig prog:=by
 refine Ev.Kn.ok (iK z hcut hy) ?_ ?_ ?_
 ·intro q hq
  cases hq
 ·intro q hq
  simp only[iK,tX,List.mem_cons,List.not_mem_nil,or_false]at hq;rcases hq with rfl | rfl | rfl | rfl | rfl | rfl | rfl
  ·exact jt rfl rfl rfl
  ·exact fC rfl rfl rfl rfl z.ha
  ·exact gN rfl rfl z.ha (by show Value.int .u64 z.x=_;rw[z.hx])
  ·exact fD rfl rfl rfl z.ha rfl
  ·exact gO rfl rfl rfl z.hn rfl
  ·exact eO rfl rfl
  ·exact qr rfl rfl
 ·intro q hq
  cases hq
theorem CW(z:MP)(hcut:z.n=256)(hy:z.x≠z.u):d9 prog (λB=>i7 (.bool false) [(4,[sy 11,sy 1,sy 2,sy 3,sy 12,sy 5,.complex .f32 427 0,sy 7],137)] (some 3) (@Ev.en (iK z hcut hy).sig B (@Ev.tq (iK z hcut hy).sig B 200) 154 [.pointer (some ⟨4,0,none⟩),sy 8,sy 16,sy 15] (fi [(4,.cells ([sy 0,sy 1,sy 2,sy 3,sy 4,sy 5,sy 6,sy 7]:List Value).toArray 137 (0,0)),(3,il 0)] 100)))=true:=by kernel_rfl
structure bw where
 cells:List Int
 ops:Int
def i9(bm:Nat)(m:bw)(F:Nat->Prop)(w:World):Prop :=
 ∃ (c1 c2 c3 c4 c5:Int) (lg cl:Value) (n:Nat) (G:Nat->Prop),n<=256/\w.heap[bm]? = some (.cells #[.int .u64 m.ops,.int .u64 c1,.int .u64 c2,.int .u64 c3,.int .u64 c4,.int .u64 c5,lg,cl] 137 (0,0))/\
  kI (.st lg) n cl m.cells (λ_=>none) G w/\¬ G bm/\∀ j,F j↔j=bm\/G j
def Grow(F F':Nat->Prop)(w w':World):Prop:=Ev.Turn F w w'/\∀ j,F' j->j<w'.heap.size/\(F j\/w.heap.size<=j)
theorem ju{lg:Value}{n:Nat}{cl:Value}{cells:List Int}{ι κ:am}{F:Nat->Prop}{w:World}(h:kI (.st lg) n cl cells ι F w):kI (.st lg) n cl cells κ F w:=h
theorem oe{lg:LV}{n:Nat}{cl:Value}{cells:List Int}{ι:am}{F:Nat->Prop}{w:World}(h:kI lg n cl cells ι F w):∀ j,F j->j<w.heap.size:=by
 obtain⟨v,xl,Fl,Fc,h1,h2,h3,h4,h5⟩:=h;intro j hj;rcases(h5 j).1 hj with hj | hj
 ·exact h2.lt j hj
 ·exact h3.lt j hj
theorem me{lg:Value}{n:Nat}{cl:Value}{cells:List Int}{ι:am}{F:Nat->Prop}{w:World}(h:kI (.st lg) n cl cells ι F w):aV lg=true/\aV cl=true:=by
 obtain⟨v,xl,Fl,Fc,h1,h2,h3,h4,h5⟩:=h;have h1':v=lg:=h1;subst h1';exact⟨h2.leaf,h3.leaf⟩
theorem IU{d:Nat}{n:Nat}{cl:Value}{cells:List Int}{κ:am}{F:Nat->Prop}{w:World}(h:kI (.dy d) n cl cells κ F w):kI (.st (Ev.dec ((κ d).getD 0))) n cl cells (λ_=>none) F w:=by
 obtain⟨v,xl,Fl,Fc,⟨c,e1,e2⟩,h2,h3,h4,h5⟩:=h;refine⟨v,xl,Fl,Fc,?_,h2,h3,h4,h5⟩;show v=_;rw[e1,← e2];rfl
section
variable[bg]
theorem fT{ι:am} : dL ι [] []:=⟨rfl,λi v v' h=>by simp at h⟩
theorem bS{ι:am}{x x':Value}{l l':List Value}(h:ao ι x x')(k:dL ι l l'):dL ι (x::l) (x'::l'):=by
 refine⟨by simp[k.1],λi v v' h1 h2=>?_⟩
 match i with
 | 0=>simp at h1 h2;subst h1 h2;exact h
 | i+1=>exact k.2 i v v' (by simpa using h1) (by simpa using h2)
theorem jv{ι:am}{l l':List Value}(h:dL ι l l'):bN ι l.toArray l'.toArray:=⟨by simp[h.1],λi v v' h1 h2=>h.2 i v v' (by simpa using h1) (by simpa using h2)⟩
theorem syms(ι:am)(ms:List Nat):dL ι (ms.map sy) (ms.map bg.val):=by
 induction ms with
 | nil=>exact fT
 | cons m ms ih=>exact bS (.sym m 0 _ rfl) ih
end
theorem Fi{bm:Nat}{m:bw}{F:Nat->Prop}{w:World}(h:i9 bm m F w):∀ j,F j->j<w.heap.size:=by
 obtain⟨c1,c2,c3,c4,c5,lg,cl,n,G,h1,h2,h3,h4,h5⟩:=h;intro j hj;rcases(h5 j).1 hj with rfl | hj
 ·exact(Array.getElem?_eq_some_iff.1 h2).1
 ·exact oe h3 j hj
theorem rD{bm:Nat}{m:bw}{F:Nat->Prop}{w w':World}(h:i9 bm m F w)(hk:∀ j,F j->w'.heap[j]? = w.heap[j]?):i9 bm m F w':=by
 obtain⟨c1,c2,c3,c4,c5,lg,cl,n,G,h1,h2,h3,h4,h5⟩:=h;exact⟨c1,c2,c3,c4,c5,lg,cl,n,G,h1,by rw[hk bm ((h5 bm).2 (.inl rfl))];exact h2,(dZ (.st lg) n cl m.cells).keep _ _ _ _ (λj hj=>hk j ((h5 j).2 (.inr hj))) h3,h4,h5⟩
theorem gQ{bm:Nat}{m m':bw}{F G F1:Nat->Prop}{w w1:World}{c1 c2 c3 c4 c5:Int}{cl:Value}{n d:Nat}{κ:am}(hF:∀ j,F j↔j=bm\/G j)(hG:∀ j,G j->j<w.heap.size)(hn:n<=256)
  (hb:w1.heap[bm]? = some (.cells #[.int .u64 m'.ops,.int .u64 c1,.int .u64 c2,.int .u64 c3,.int .u64 c4,.int .u64 c5,Ev.dec ((κ d).getD 0),cl] 137 (0,0))) (h:kI (.dy d) n cl m'.cells κ F1 w1) (lN:¬ F1 bm)
  (hF1:∀ j,F1 j->j<w1.heap.size/\(G j\/w.heap.size<=j)) (ht:Ev.Turn (λj=>j=bm\/G j) w w1) (CX:bm<w.heap.size):∃ F',i9 bm m' F' w1/\Grow F F' w w1:=by
 refine⟨λj=>j=bm\/F1 j,⟨c1,c2,c3,c4,c5,_,cl,n,F1,hn,hb,IU h,lN,λj=>Iff.rfl⟩,⟨ht.os,ht.tape,ht.output,ht.size,λk hk hnf=>ht.block k hk (λhh=>hnf ((hF k).2 hh))⟩,λj hj=>?_⟩;rcases hj with rfl | hj
 ·exact⟨Nat.lt_of_lt_of_le CX ht.size,.inl ((hF j).2 (.inl rfl))⟩
 ·exact⟨(hF1 j hj).1,(hF1 j hj).2.imp (λh=>(hF j).2 (.inr h)) id⟩
theorem CY{bm:Nat}{m:bw}{F:Nat->Prop}{w:World}(h:i9 bm m F w){a:Nat}(ha:a<m.cells.length)(ha2:(a:Int)<=9223372036854775807) :
  Calls prog 150 #[.pointer (some ⟨bm,0,none⟩),.int .i64 (a:Int)] w λe w'=>∃ F',e=.returned (.int .u64 m.cells[a])/\i9 bm ⟨m.cells,IntKind.u64.wrap (m.ops+1)⟩ F' w'/\Grow F F' w w':=by
 obtain⟨c1,c2,c3,c4,c5,lg,cl,n,G,h1,h2,h3,h4,h5⟩:=h;obtain⟨l1,l2⟩:=me h3;have hG:=oe h3;have CX:=(Array.getElem?_eq_some_iff.1 h2).1
 by_cases hcut:n=256
 ·letI:bg:=(jO ⟨m.ops,c1,c2,c3,c4,c5,lg,cl,a,n,m.cells[a],0,0,m.cells,l1,l2,h1,ha,rfl,ha2⟩ hcut).sig
  refine(gM Tryz.codeOk (CP ⟨m.ops,c1,c2,c3,c4,c5,lg,cl,a,n,m.cells[a],0,0,m.cells,l1,l2,h1,ha,rfl,ha2⟩ hcut) dD (args:=#[.pointer (some ⟨4,0,none⟩),sy 8]) (bm:=bm) (F:=G) (cs:=[sy 0,sy 1,sy 2,sy 3,sy 4,sy 5,sy 6,sy 7]) (E2 ⟨m.ops,c1,c2,c3,c4,c5,lg,cl,a,n,m.cells[a],0,0,m.cells,l1,l2,h1,ha,rfl,ha2⟩ hcut) (by decide) h2 (syms _ [0,1,2,3,4,5,6,7]) ⟨_,rfl,ju h3⟩ hG h4 (jv (bS (.ptr 4 0 bm rfl) (bS (.sym 8 0 _ rfl) fT))) (by kernel_rfl)).mono ?_;rintro e w1 ⟨κ,v',rfl,hv,k4,hb1,⟨F1,⟨LE,q1,q2⟩,lN,hF1⟩,ht⟩;cases q1
  obtain⟨F',r1,r2⟩:=gQ (m:=m) (m':=⟨m.cells,IntKind.u64.wrap (m.ops+1)⟩) (d:=419) h5 hG (show n<=256 by omega) hb1 (by
   have q3:kI (.dy 419) (n) cl (m.cells.set a m.cells[a]) κ F1 w1:=q2;rw[List.set_getElem_self]at q3
   exact q3) lN hF1 ht CX
  exact⟨F',by rw[vD hv];rfl,r1,r2⟩
 have hcut:n<256:=by omega
 letI:bg:=(tR ⟨m.ops,c1,c2,c3,c4,c5,lg,cl,a,n,m.cells[a],0,0,m.cells,l1,l2,h1,ha,rfl,ha2⟩ hcut).sig;refine(gM Tryz.codeOk (Lz ⟨m.ops,c1,c2,c3,c4,c5,lg,cl,a,n,m.cells[a],0,0,m.cells,l1,l2,h1,ha,rfl,ha2⟩ hcut) dD (args:=#[.pointer (some ⟨4,0,none⟩),sy 8]) (bm:=bm) (F:=G) (cs:=[sy 0,sy 1,sy 2,sy 3,sy 4,sy 5,sy 6,sy 7]) (Nx ⟨m.ops,c1,c2,c3,c4,c5,lg,cl,a,n,m.cells[a],0,0,m.cells,l1,l2,h1,ha,rfl,ha2⟩ hcut) (by decide) h2 (syms _ [0,1,2,3,4,5,6,7]) ⟨_,rfl,ju h3⟩ hG h4 (jv (bS (.ptr 4 0 bm rfl) (bS (.sym 8 0 _ rfl) fT))) (by kernel_rfl)).mono ?_;rintro e w1 ⟨κ,v',rfl,hv,k4,hb1,⟨F1,⟨LE,q1,q2⟩,lN,hF1⟩,ht⟩;cases q1
 obtain⟨F',r1,r2⟩:=gQ (m:=m) (m':=⟨m.cells,IntKind.u64.wrap (m.ops+1)⟩) (d:=415) h5 hG (show n+1<=256 by omega) hb1 (by
  have q3:kI (.dy 415) (n+1) cl (m.cells.set a m.cells[a]) κ F1 w1:=q2;rw[List.set_getElem_self]at q3
  exact q3) lN hF1 ht CX
 exact⟨F',by rw[vD hv];rfl,r1,r2⟩
theorem LG{bm:Nat}{m:bw}{F:Nat->Prop}{w:World}(h:i9 bm m F w){a:Nat}(ha:a<m.cells.length)(ha2:(a:Int)<=9223372036854775807)(u v:Int)(hy:m.cells[a]≠u) :
  Calls prog 154 #[.pointer (some ⟨bm,0,none⟩),.int .i64 (a:Int),.int .u64 u,.int .u64 v] w λe w'=>∃ F',e=.returned (.bool false)/\i9 bm ⟨m.cells,IntKind.u64.wrap (m.ops+1)⟩ F' w'/\Grow F F' w w':=by
 obtain⟨c1,c2,c3,c4,c5,lg,cl,n,G,h1,h2,h3,h4,h5⟩:=h;obtain⟨l1,l2⟩:=me h3;have hG:=oe h3;have CX:=(Array.getElem?_eq_some_iff.1 h2).1
 by_cases hcut:n=256
 ·letI:bg:=(iK ⟨m.ops,c1,c2,c3,c4,c5,lg,cl,a,n,m.cells[a],v,u,m.cells,l1,l2,h1,ha,rfl,ha2⟩ hcut hy).sig
  refine(gM Tryz.codeOk (Aa ⟨m.ops,c1,c2,c3,c4,c5,lg,cl,a,n,m.cells[a],v,u,m.cells,l1,l2,h1,ha,rfl,ha2⟩ hcut hy) dD (args:=#[.pointer (some ⟨4,0,none⟩),sy 8,sy 16,sy 15]) (bm:=bm) (F:=G) (cs:=[sy 0,sy 1,sy 2,sy 3,sy 4,sy 5,sy 6,sy 7]) (CW ⟨m.ops,c1,c2,c3,c4,c5,lg,cl,a,n,m.cells[a],v,u,m.cells,l1,l2,h1,ha,rfl,ha2⟩ hcut hy) (by decide) h2 (syms _ [0,1,2,3,4,5,6,7]) ⟨_,rfl,ju h3⟩ hG h4 (jv (bS (.ptr 4 0 bm rfl) (bS (.sym 8 0 _ rfl) (bS (.sym 16 0 _ rfl) (bS (.sym 15 0 _ rfl) fT))))) (by kernel_rfl)).mono ?_;rintro e w1 ⟨κ,v',rfl,hv,k4,hb1,⟨F1,⟨LE,q1,q2⟩,lN,hF1⟩,ht⟩;cases q1
  obtain⟨F',r1,r2⟩:=gQ (m:=m) (m':=⟨m.cells,IntKind.u64.wrap (m.ops+1)⟩) (d:=427) h5 hG (show n<=256 by omega) hb1 (by
   have q3:kI (.dy 427) (n) cl (m.cells.set a m.cells[a]) κ F1 w1:=q2;rw[List.set_getElem_self]at q3
   exact q3) lN hF1 ht CX
  exact⟨F',by cases hv;rfl,r1,r2⟩
 have hcut:n<256:=by omega
 letI:bg:=(pw ⟨m.ops,c1,c2,c3,c4,c5,lg,cl,a,n,m.cells[a],v,u,m.cells,l1,l2,h1,ha,rfl,ha2⟩ hcut hy).sig;refine(gM Tryz.codeOk (IQ ⟨m.ops,c1,c2,c3,c4,c5,lg,cl,a,n,m.cells[a],v,u,m.cells,l1,l2,h1,ha,rfl,ha2⟩ hcut hy) dD (args:=#[.pointer (some ⟨4,0,none⟩),sy 8,sy 16,sy 15]) (bm:=bm) (F:=G) (cs:=[sy 0,sy 1,sy 2,sy 3,sy 4,sy 5,sy 6,sy 7]) (LD ⟨m.ops,c1,c2,c3,c4,c5,lg,cl,a,n,m.cells[a],v,u,m.cells,l1,l2,h1,ha,rfl,ha2⟩ hcut hy) (by decide) h2 (syms _ [0,1,2,3,4,5,6,7]) ⟨_,rfl,ju h3⟩ hG h4 (jv (bS (.ptr 4 0 bm rfl) (bS (.sym 8 0 _ rfl) (bS (.sym 16 0 _ rfl) (bS (.sym 15 0 _ rfl) fT))))) (by kernel_rfl)).mono ?_;rintro e w1 ⟨κ,v',rfl,hv,k4,hb1,⟨F1,⟨LE,q1,q2⟩,lN,hF1⟩,ht⟩;cases q1
 obtain⟨F',r1,r2⟩:=gQ (m:=m) (m':=⟨m.cells,IntKind.u64.wrap (m.ops+1)⟩) (d:=423) h5 hG (show n+1<=256 by omega) hb1 (by
  have q3:kI (.dy 423) (n+1) cl (m.cells.set a m.cells[a]) κ F1 w1:=q2;rw[List.set_getElem_self]at q3
  exact q3) lN hF1 ht CX
 exact⟨F',by cases hv;rfl,r1,r2⟩
theorem IV{bm:Nat}{m:bw}{F:Nat->Prop}{w:World}(h:i9 bm m F w){a:Nat}(ha:a<m.cells.length)(ha2:(a:Int)<=9223372036854775807)(u v:Int)(hy:m.cells[a]=u) :
  Calls prog 154 #[.pointer (some ⟨bm,0,none⟩),.int .i64 (a:Int),.int .u64 u,.int .u64 v] w λe w'=>∃ F',e=.returned (.bool true)/\i9 bm ⟨m.cells.set a v,IntKind.u64.wrap (m.ops+1)⟩ F' w'/\Grow F F' w w':=by
 obtain⟨c1,c2,c3,c4,c5,lg,cl,n,G,h1,h2,h3,h4,h5⟩:=h;obtain⟨l1,l2⟩:=me h3;have hG:=oe h3;have CX:=(Array.getElem?_eq_some_iff.1 h2).1
 by_cases hcut:n=256
 ·letI:bg:=(gu ⟨m.ops,c1,c2,c3,c4,c5,lg,cl,a,n,m.cells[a],v,u,m.cells,l1,l2,h1,ha,rfl,ha2⟩ hcut hy).sig
  refine(gM Tryz.codeOk (xY ⟨m.ops,c1,c2,c3,c4,c5,lg,cl,a,n,m.cells[a],v,u,m.cells,l1,l2,h1,ha,rfl,ha2⟩ hcut hy) dD (args:=#[.pointer (some ⟨4,0,none⟩),sy 8,sy 16,sy 15]) (bm:=bm) (F:=G) (cs:=[sy 0,sy 1,sy 2,sy 3,sy 4,sy 5,sy 6,sy 7]) (z9 ⟨m.ops,c1,c2,c3,c4,c5,lg,cl,a,n,m.cells[a],v,u,m.cells,l1,l2,h1,ha,rfl,ha2⟩ hcut hy) (by decide) h2 (syms _ [0,1,2,3,4,5,6,7]) ⟨_,rfl,ju h3⟩ hG h4 (jv (bS (.ptr 4 0 bm rfl) (bS (.sym 8 0 _ rfl) (bS (.sym 16 0 _ rfl) (bS (.sym 15 0 _ rfl) fT))))) (by kernel_rfl)).mono ?_;rintro e w1 ⟨κ,v',rfl,hv,k4,hb1,⟨F1,⟨LE,q1,q2⟩,lN,hF1⟩,ht⟩;cases q1
  obtain⟨F',r1,r2⟩:=gQ (m:=m) (m':=⟨m.cells.set a v,IntKind.u64.wrap (m.ops+1)⟩) (d:=427) h5 hG (show n<=256 by omega) hb1 (by
   have q3:kI (.dy 427) (n) cl (m.cells.set a v) κ F1 w1:=q2
   exact q3) lN hF1 ht CX
  exact⟨F',by cases hv;rfl,r1,r2⟩
 have hcut:n<256:=by omega
 letI:bg:=(mc ⟨m.ops,c1,c2,c3,c4,c5,lg,cl,a,n,m.cells[a],v,u,m.cells,l1,l2,h1,ha,rfl,ha2⟩ hcut hy).sig;refine(gM Tryz.codeOk (E9 ⟨m.ops,c1,c2,c3,c4,c5,lg,cl,a,n,m.cells[a],v,u,m.cells,l1,l2,h1,ha,rfl,ha2⟩ hcut hy) dD (args:=#[.pointer (some ⟨4,0,none⟩),sy 8,sy 16,sy 15]) (bm:=bm) (F:=G) (cs:=[sy 0,sy 1,sy 2,sy 3,sy 4,sy 5,sy 6,sy 7]) (IP ⟨m.ops,c1,c2,c3,c4,c5,lg,cl,a,n,m.cells[a],v,u,m.cells,l1,l2,h1,ha,rfl,ha2⟩ hcut hy) (by decide) h2 (syms _ [0,1,2,3,4,5,6,7]) ⟨_,rfl,ju h3⟩ hG h4 (jv (bS (.ptr 4 0 bm rfl) (bS (.sym 8 0 _ rfl) (bS (.sym 16 0 _ rfl) (bS (.sym 15 0 _ rfl) fT))))) (by kernel_rfl)).mono ?_;rintro e w1 ⟨κ,v',rfl,hv,k4,hb1,⟨F1,⟨LE,q1,q2⟩,lN,hF1⟩,ht⟩;cases q1
 obtain⟨F',r1,r2⟩:=gQ (m:=m) (m':=⟨m.cells.set a v,IntKind.u64.wrap (m.ops+1)⟩) (d:=423) h5 hG (show n+1<=256 by omega) hb1 (by
  have q3:kI (.dy 423) (n+1) cl (m.cells.set a v) κ F1 w1:=q2
  exact q3) lN hF1 ht CX
 exact⟨F',by cases hv;rfl,r1,r2⟩
theorem Ab{bm:Nat}{m:bw}{F:Nat->Prop}{w:World}(h:i9 bm m F w){a:Nat}(ha:a<m.cells.length)(ha2:(a:Int)<=9223372036854775807)(v:Int) :
  Calls prog 147 #[.pointer (some ⟨bm,0,none⟩),.int .i64 (a:Int),.int .u64 v] w λe w'=>∃ F',e=.returned (.tuple #[])/\i9 bm ⟨m.cells.set a v,IntKind.u64.wrap (m.ops+1)⟩ F' w'/\Grow F F' w w':=by
 obtain⟨c1,c2,c3,c4,c5,lg,cl,n,G,h1,h2,h3,h4,h5⟩:=h;obtain⟨l1,l2⟩:=me h3;have hG:=oe h3;have CX:=(Array.getElem?_eq_some_iff.1 h2).1
 by_cases hcut:n=256
 ·letI:bg:=(iI ⟨m.ops,c1,c2,c3,c4,c5,lg,cl,a,n,m.cells[a],v,0,m.cells,l1,l2,h1,ha,rfl,ha2⟩ hcut).sig
  refine(gM Tryz.codeOk (z7 ⟨m.ops,c1,c2,c3,c4,c5,lg,cl,a,n,m.cells[a],v,0,m.cells,l1,l2,h1,ha,rfl,ha2⟩ hcut) dD (args:=#[.pointer (some ⟨4,0,none⟩),sy 8,sy 15]) (bm:=bm) (F:=G) (cs:=[sy 0,sy 1,sy 2,sy 3,sy 4,sy 5,sy 6,sy 7]) (CR ⟨m.ops,c1,c2,c3,c4,c5,lg,cl,a,n,m.cells[a],v,0,m.cells,l1,l2,h1,ha,rfl,ha2⟩ hcut) (by decide) h2 (syms _ [0,1,2,3,4,5,6,7]) ⟨_,rfl,ju h3⟩ hG h4 (jv (bS (.ptr 4 0 bm rfl) (bS (.sym 8 0 _ rfl) (bS (.sym 15 0 _ rfl) fT)))) (by kernel_rfl)).mono ?_;rintro e w1 ⟨κ,v',rfl,hv,k4,hb1,⟨F1,⟨LE,q1,q2⟩,lN,hF1⟩,ht⟩;cases q1
  obtain⟨F',r1,r2⟩:=gQ (m:=m) (m':=⟨m.cells.set a v,IntKind.u64.wrap (m.ops+1)⟩) (d:=423) h5 hG (show n<=256 by omega) hb1 (by
   have q3:kI (.dy 423) (n) cl (m.cells.set a v) κ F1 w1:=q2
   exact q3) lN hF1 ht CX
  exact⟨F',by cases hv with | tuple f f1 hf _=>rw[Array.eq_empty_of_size_eq_zero hf.symm],r1,r2⟩
 have hcut:n<256:=by omega
 letI:bg:=(pq ⟨m.ops,c1,c2,c3,c4,c5,lg,cl,a,n,m.cells[a],v,0,m.cells,l1,l2,h1,ha,rfl,ha2⟩ hcut).sig;refine(gM Tryz.codeOk (IK ⟨m.ops,c1,c2,c3,c4,c5,lg,cl,a,n,m.cells[a],v,0,m.cells,l1,l2,h1,ha,rfl,ha2⟩ hcut) dD (args:=#[.pointer (some ⟨4,0,none⟩),sy 8,sy 15]) (bm:=bm) (F:=G) (cs:=[sy 0,sy 1,sy 2,sy 3,sy 4,sy 5,sy 6,sy 7]) (LB ⟨m.ops,c1,c2,c3,c4,c5,lg,cl,a,n,m.cells[a],v,0,m.cells,l1,l2,h1,ha,rfl,ha2⟩ hcut) (by decide) h2 (syms _ [0,1,2,3,4,5,6,7]) ⟨_,rfl,ju h3⟩ hG h4 (jv (bS (.ptr 4 0 bm rfl) (bS (.sym 8 0 _ rfl) (bS (.sym 15 0 _ rfl) fT)))) (by kernel_rfl)).mono ?_;rintro e w1 ⟨κ,v',rfl,hv,k4,hb1,⟨F1,⟨LE,q1,q2⟩,lN,hF1⟩,ht⟩;cases q1
 obtain⟨F',r1,r2⟩:=gQ (m:=m) (m':=⟨m.cells.set a v,IntKind.u64.wrap (m.ops+1)⟩) (d:=419) h5 hG (show n+1<=256 by omega) hb1 (by
  have q3:kI (.dy 419) (n+1) cl (m.cells.set a v) κ F1 w1:=q2
  exact q3) lN hF1 ht CX
 exact⟨F',by cases hv with | tuple f f1 hf _=>rw[Array.eq_empty_of_size_eq_zero hf.symm],r1,r2⟩
end Go.Proofs.YtkmccgombmogmaaGreat
