/- Part of a proof: see the last text. -/
import Derived.Test.YtbcnbofkgkheeaaGreatZn16
import Derived.Test.YtbcnbofkgkheeaaGreatZn15
import Derived.Test.YtbcnbofkgkheeaaGreatRows
import Derived.WalkKit
import Derived.ProofKit
import Derived.OpenShut
import Derived.Carry
import Derived.Deep.Fields
import Derived.Deep.Slices
import Derived.ChangeSame
set_option linter.unusedSimpArgs false
set_option linter.unusedVariables false
namespace Go.Proofs.YtbcnbofkgkheeaaGreat
open Go.Ev Go.Proofs.Tryz
open Go.RowKit
open Go.Ev (sy iz uz wz iN uN wN pz dv fc fn ak vk vd kn pc cc cr cm cd fr)
set_option maxRecDepth 8000
attribute [local irreducible] dL
def hJ(xs:List Int):List Value:=xs.map (Value.int .u8)
theorem C1(xs:List Int){i:Nat}(h:i<xs.length):(hJ xs)[i]? = some (.int .u8 (xs.getD i 0)):=by
 simp[hJ,List.getElem?_map,List.getElem?_eq_getElem h,List.getD_eq_getElem?_getD]
theorem wb:∃ i,prog.info? 5 = some i/\i.size=1/\i.zero=some (.int .u8 0)/\i.bytes=1:=tY (by kernel_rfl)
theorem C2:lj prog 5:=by
 intro b o x w h;simp[Instr.loadAt,Instr.sureAddr,loadVar,isAgg,run_underlying underlying5,h]
def z6:List Value:=[.int .i64 0,.int .i64 0,.int .i64 0,.int .i64 0,.int .i64 0,.int .i64 0]
def aT.l(c:aT):List Value:=[.int .i64 (c.n:Int),.int .i64 (c.q:Int),.int .i64 c.g,.int .i64 c.m,.int .i64 c.t,.int .i64 c.s]
def R7:List Value:=z6++[.int .i64 0,.int .i64 0,.int .i64 0,.int .u64 0,.slice none 0 0,.slice none 0 0]
def nW:List Value:=z6++[.int .i64 0,.int .i64 0,.bool false,.int .i64 0,.int .u64 0,.bool false]++R7
def Nl(c:aT)(p:Nat)(aJ:Bool)(g:Int):List Value:=c.l++[.int .i64 (p:Int),.int .i64 g,.bool aJ,.int .i64 1,.int .u64 0,.bool false]++R7
abbrev EG(c:aT)(p:Nat):Value:=(.agg #[iN c.n,iN c.q,iz c.g,iz c.m,iz c.t,iz c.s,iN p])
abbrev t6:List (Nat×Value):=[(0,.agg #[sy 0,sy 1,sy 2,sy 3,sy 4,sy 5]),(1,sy 6)]
abbrev EH(c:aT):Value:=(.agg #[iN c.n,iN c.q,iz c.g,iz c.m,iz c.t,iz c.s])
abbrev Bn(c:aT)(p:Nat):List (Nat×Value):=[(0,EH c),(1,iN p)]
abbrev EI(c:Cf):Value:=(.agg #[iz c.n,iz c.q,iz c.g,iz c.m,iz c.t,iz c.s])
abbrev t7:Value:=(.agg #[iz 0,iz 0,iz 0,iz 0,iz 0,iz 0,iz 0,iz 0,.bool false,iz 0,.int .u64 0,.bool false,iz 0,iz 0,iz 0,iz 0,iz 0,iz 0,iz 0,iz 0,iz 0,.int .u64 0,.slice none 0 0,.slice none 0 0])
abbrev x7:List (Nat×Value):=[(0,.agg #[sy 0,sy 1,sy 2,sy 3,sy 4,sy 5]),(1,sy 6),(2,sy 7)]
abbrev IV(c:aT)(p:Nat)(gg:Int):List (Nat×Value):=[(0,EH c),(1,iN p),(2,iz gg)]
theorem Qh(W:World)(c:aT)(p:Nat)(hp:p<c.n):aK prog 45 [] 0 9 ⟨W,λ_=>False⟩ (Bn c p) [] (λκ:ag=>(iN (4+c.off p+2))) (λκ:ag=>[]):=(bU (c:=⟨W,λ_=>False⟩) 4 (kn [iN (c.n),iN (c.q),iz (c.g),iz (c.m),iz (c.t),iz (c.s),iN (p),iN (4+c.off p+2)] fr [] [] [] fn fn fn W (λ_=>False) [[]] [] [⟨12,[.agg #[sy 0,sy 1,sy 2,sy 3,sy 4,sy 5,sy 6],iz 2],0,none,sy 7,none⟩]) fn (fc (pc (args:=[(EG c p),iz 2]) rfl (λw hb=>nU c p (2) hp (by have q0:=c.z hp;omega) w)) fn) rfl [] [] [] 0 rfl rfl t6 (sy 7))
theorem Qi(W:World)(c:aT)(p:Nat)(hp:p<c.n):aK prog 46 [] 0 9 ⟨W,λ_=>False⟩ (Bn c p) [] (λκ:ag=>(iN (4+c.off p+3))) (λκ:ag=>[]):=(bU (c:=⟨W,λ_=>False⟩) 4 (kn [iN (c.n),iN (c.q),iz (c.g),iz (c.m),iz (c.t),iz (c.s),iN (p),iN (4+c.off p+3)] fr [] [] [] fn fn fn W (λ_=>False) [[]] [] [⟨12,[.agg #[sy 0,sy 1,sy 2,sy 3,sy 4,sy 5,sy 6],iz 3],0,none,sy 7,none⟩]) fn (fc (pc (args:=[(EG c p),iz 3]) rfl (λw hb=>nU c p (3) hp (by have q0:=c.z hp;omega) w)) fn) rfl [] [] [] 0 rfl rfl t6 (sy 7))
theorem R8(W:World)(c:aT)(p:Nat)(hp:p<c.n):aK prog 47 [] 0 9 ⟨W,λ_=>False⟩ (Bn c p) [] (λκ:ag=>(iN (4+c.off p+4))) (λκ:ag=>[]):=(bU (c:=⟨W,λ_=>False⟩) 4 (kn [iN (c.n),iN (c.q),iz (c.g),iz (c.m),iz (c.t),iz (c.s),iN (p),iN (4+c.off p+4)] fr [] [] [] fn fn fn W (λ_=>False) [[]] [] [⟨12,[.agg #[sy 0,sy 1,sy 2,sy 3,sy 4,sy 5,sy 6],iz 4],0,none,sy 7,none⟩]) fn (fc (pc (args:=[(EG c p),iz 4]) rfl (λw hb=>nU c p (4) hp (by have q0:=c.z hp;omega) w)) fn) rfl [] [] [] 0 rfl rfl t6 (sy 7))
theorem Qj(W:World)(c:aT)(p:Nat)(hp:p<c.n):aK prog 48 [] 0 9 ⟨W,λ_=>False⟩ (Bn c p) [] (λκ:ag=>(iN (4+c.off p+5))) (λκ:ag=>[]):=(bU (c:=⟨W,λ_=>False⟩) 4 (kn [iN (c.n),iN (c.q),iz (c.g),iz (c.m),iz (c.t),iz (c.s),iN (p),iN (4+c.off p+5)] fr [] [] [] fn fn fn W (λ_=>False) [[]] [] [⟨12,[.agg #[sy 0,sy 1,sy 2,sy 3,sy 4,sy 5,sy 6],iz 5],0,none,sy 7,none⟩]) fn (fc (pc (args:=[(EG c p),iz 5]) rfl (λw hb=>nU c p (5) hp (by have q0:=c.z hp;omega) w)) fn) rfl [] [] [] 0 rfl rfl t6 (sy 7))
theorem R9(W:World)(c:Cf):aK prog 16 [] 0 16 ⟨W,λ_=>False⟩ [(0,EI c)] [] (λκ:ag=>(EI c)) (λκ:ag=>[]):=(bU (c:=⟨W,λ_=>False⟩) 3 (kn [iz (c.n),iz (c.q),iz (c.g),iz (c.m),iz (c.t),iz (c.s)] fr [] [] [] fn fn fn W (λ_=>False) [[]] [] []) fn fn rfl [] [] [] 0 rfl rfl [(0,.agg #[sy 0,sy 1,sy 2,sy 3,sy 4,sy 5])] (.agg #[sy 0,sy 1,sy 2,sy 3,sy 4,sy 5]))
theorem Uo(W:World)(bv:Value)(lb:ai bv=true)(bs:List Int)(hs:lT 1 bv bs.length (hJ bs) W)(hb:bs.length<=1000000)(ix:Nat)(hi:ix<=1000000)(hq:bs.length<=ix):aK prog 44 [] 0 14 ⟨W,λ_=>False⟩ [(0,(bv)),(1,iN ix)] [] (λκ:ag=>(iz 0)) (λκ:ag=>[]):=(bU (c:=⟨W,λ_=>False⟩) 5 (kn [bv,iN (ix),iN (bs.length)] (fc hs.leaf fr) [(.geq,sy 1,sy 2,.bool true)] [] [] (fc (λ_ _ _=>bG (by first|(simp;done)|(simp;omega))) fn) fn fn W (λ_=>False) [[]] [⟨[10,22],[sy 0],none,0,none,sy 2,none⟩] []) (fc (bt (ci:=0) rfl rfl hs underlying22 rfl rfl) fn) fn rfl [] [] [] 0 rfl rfl [(0,sy 0),(1,sy 1)] (iz 0))
theorem Up(W:World)(bv:Value)(lb:ai bv=true)(bs:List Int)(hs:lT 1 bv bs.length (hJ bs) W)(hb:bs.length<=1000000)(ix:Nat)(hi:ix<=1000000)(hq:ix<bs.length)(hz:0<=bs.getD ix 0/\bs.getD ix 0<256):aK prog 44 [] 0 14 ⟨W,λ_=>False⟩ [(0,(bv)),(1,iN ix)] [] (λκ:ag=>(iz (bs.getD ix 0))) (λκ:ag=>[]):=(bU (c:=⟨W,λ_=>False⟩) 5 (kn [bv,dx (bv) ((ix)*1),.int .u8 (bs.getD ix 0),iz (bs.getD ix 0),iN (ix),iN (bs.length)] (fc hs.leaf (fc (aX _ _) fr)) [(.geq,sy 4,sy 5,.bool false)] [] [(.i64,sy 2,sy 3)] (fc (λ_ _ _=>bG (by first|(simp;done)|(simp;omega))) fn) fn (fc (bF rfl rfl (ap (by omega) (by omega))) fn) W (λ_=>False) [[]] [⟨[10,22],[sy 0],none,0,none,sy 5,none⟩,⟨[3,22],[sy 0,sy 4],none,0,none,sy 1,none⟩,⟨[1,5],[sy 1],none,0,none,sy 2,none⟩] []) (fc (bt (ci:=0) rfl rfl hs underlying22 rfl rfl) (fc (by obtain⟨i,i1,i2,i3,i4⟩:=wb;exact jk (ci:=0) (j:=(ix)) rfl rfl hs underlying22 i1 i2 rfl rfl (by omega) rfl) (fc (m0 (ci:=0) (m:=(ix)*1) (x:=.int .u8 (bs.getD ix 0)) rfl rfl hs C2 (by rw[Nat.mul_one];exact C1 bs (by omega)) rfl rfl (fF _)) fn))) fn rfl [] [] [] 0 rfl rfl [(0,sy 0),(1,sy 4)] (sy 3))
theorem R_(W:World)(c:aT)(p:Nat)(hp:p<c.n):aK prog 18 [] 0 13 ⟨W,λ_=>False⟩ (Bn c p) [] (λκ:ag=>(.agg #[iN c.n,iN c.q,iz c.g,iz c.m,iz c.t,iz c.s,iN p,iz 0,.bool true,iz 1,.int .u64 0,.bool false,iz 0,iz 0,iz 0,iz 0,iz 0,iz 0,iz 0,iz 0,iz 0,.int .u64 0,.slice none 0 0,.slice none 0 0])) (λκ:ag=>[]):=(bU (c:=⟨W,λ_=>False⟩) 5 (kn [iN (c.n),iN (c.q),iz (c.g),iz (c.m),iz (c.t),iz (c.s),iN (p)] fr [] [] [] fn fn fn W (λ_=>False) [[]] [] [⟨42,[.agg #[sy 0,sy 1,sy 2,sy 3,sy 4,sy 5],sy 6],0,none,.bool true,none⟩]) fn (fc (pc rfl (λw hb=>jn c p hp w)) fn) rfl [] [] [] 0 rfl rfl t6 (.agg #[sy 0,sy 1,sy 2,sy 3,sy 4,sy 5,sy 6,iz 0,.bool true,iz 1,.int .u64 0,.bool false,iz 0,iz 0,iz 0,iz 0,iz 0,iz 0,iz 0,iz 0,iz 0,.int .u64 0,.slice none 0 0,.slice none 0 0]))
theorem Sb(W:World)(c:Cf)(p:Int)(hc:c.ok=false):aK prog 18 [] 0 13 ⟨W,λ_=>False⟩ [(0,EI c),(1,iz p)] [] (λκ:ag=>t7) (λκ:ag=>[]):=(bU (c:=⟨W,λ_=>False⟩) 5 (kn [iz (c.n),iz (c.q),iz (c.g),iz (c.m),iz (c.t),iz (c.s),iz (p)] fr [] [] [] fn fn fn W (λ_=>False) [[]] [] [⟨42,[.agg #[sy 0,sy 1,sy 2,sy 3,sy 4,sy 5],sy 6],0,none,.bool false,none⟩]) fn (fc (pc rfl (λw hb=>Bm c p hc w)) fn) rfl [] [] [] 0 rfl rfl t6 (.agg #[iz 0,iz 0,iz 0,iz 0,iz 0,iz 0,iz 0,iz 0,.bool false,iz 0,.int .u64 0,.bool false,iz 0,iz 0,iz 0,iz 0,iz 0,iz 0,iz 0,iz 0,iz 0,.int .u64 0,.slice none 0 0,.slice none 0 0]))
theorem Qk(W:World)(c:aT)(p:Int)(hp:¬ (0<=p/\p<c.n)):aK prog 18 [] 0 13 ⟨W,λ_=>False⟩ [(0,EH c),(1,iz p)] [] (λκ:ag=>t7) (λκ:ag=>[]):=(bU (c:=⟨W,λ_=>False⟩) 5 (kn [iN (c.n),iN (c.q),iz (c.g),iz (c.m),iz (c.t),iz (c.s),iz (p)] fr [] [] [] fn fn fn W (λ_=>False) [[]] [] [⟨42,[.agg #[sy 0,sy 1,sy 2,sy 3,sy 4,sy 5],sy 6],0,none,.bool false,none⟩]) fn (fc (pc rfl (λw hb=>wa c p hp w)) fn) rfl [] [] [] 0 rfl rfl t6 (.agg #[iz 0,iz 0,iz 0,iz 0,iz 0,iz 0,iz 0,iz 0,.bool false,iz 0,.int .u64 0,.bool false,iz 0,iz 0,iz 0,iz 0,iz 0,iz 0,iz 0,iz 0,iz 0,.int .u64 0,.slice none 0 0,.slice none 0 0]))
theorem Sc(W:World)(c:aT)(p:Nat)(hp:p<c.n)(gg:Int)(hg:0<=gg):aK prog 15 [] 0 20 ⟨W,λ_=>False⟩ (IV c p gg) [] (λκ:ag=>(.agg #[iN c.n,iN c.q,iz c.g,iz c.m,iz c.t,iz c.s,iN p,iz gg,.bool false,iz 1,.int .u64 0,.bool false,iz 0,iz 0,iz 0,iz 0,iz 0,iz 0,iz 0,iz 0,iz 0,.int .u64 0,.slice none 0 0,.slice none 0 0])) (λκ:ag=>[]):=(bU (c:=⟨W,λ_=>False⟩) 5 (kn [iN (c.n),iN (c.q),iz (c.g),iz (c.m),iz (c.t),iz (c.s),iN (p),iz (gg)] fr [(.lss,sy 7,iz 0,.bool false)] [] [] (fc (λ_ _ _=>aQ (by have q0:=c.z hp;first|(simp;done)|(simp;omega))) fn) fn fn W (λ_=>False) [[]] [] [⟨42,[.agg #[sy 0,sy 1,sy 2,sy 3,sy 4,sy 5],sy 6],0,none,.bool true,none⟩]) fn (fc (pc rfl (λw hb=>jn c p hp w)) fn) rfl [] [] [] 0 rfl rfl x7 (.agg #[sy 0,sy 1,sy 2,sy 3,sy 4,sy 5,sy 6,sy 7,.bool false,iz 1,.int .u64 0,.bool false,iz 0,iz 0,iz 0,iz 0,iz 0,iz 0,iz 0,iz 0,iz 0,.int .u64 0,.slice none 0 0,.slice none 0 0]))
theorem Ql(W:World)(c:aT)(p:Nat)(hp:p<c.n)(gg:Int)(hg:¬ 0<=gg):aK prog 15 [] 0 20 ⟨W,λ_=>False⟩ (IV c p gg) [] (λκ:ag=>t7) (λκ:ag=>[]):=(bU (c:=⟨W,λ_=>False⟩) 5 (kn [iN (c.n),iN (c.q),iz (c.g),iz (c.m),iz (c.t),iz (c.s),iN (p),iz (gg)] fr [(.lss,sy 7,iz 0,.bool true)] [] [] (fc (λ_ _ _=>aQ (by have q0:=c.z hp;first|(simp;done)|(simp;omega))) fn) fn fn W (λ_=>False) [[]] [] [⟨42,[.agg #[sy 0,sy 1,sy 2,sy 3,sy 4,sy 5],sy 6],0,none,.bool true,none⟩]) fn (fc (pc rfl (λw hb=>jn c p hp w)) fn) rfl [] [] [] 0 rfl rfl x7 (.agg #[iz 0,iz 0,iz 0,iz 0,iz 0,iz 0,iz 0,iz 0,.bool false,iz 0,.int .u64 0,.bool false,iz 0,iz 0,iz 0,iz 0,iz 0,iz 0,iz 0,iz 0,iz 0,.int .u64 0,.slice none 0 0,.slice none 0 0]))
theorem Sd(W:World)(c:Cf)(p:Int)(hc:c.ok=false)(gg:Int):aK prog 15 [] 0 20 ⟨W,λ_=>False⟩ [(0,EI c),(1,iz p),(2,iz gg)] [] (λκ:ag=>t7) (λκ:ag=>[]):=(bU (c:=⟨W,λ_=>False⟩) 5 (kn [iz (c.n),iz (c.q),iz (c.g),iz (c.m),iz (c.t),iz (c.s),iz (p),iz (gg)] fr [] [] [] fn fn fn W (λ_=>False) [[]] [] [⟨42,[.agg #[sy 0,sy 1,sy 2,sy 3,sy 4,sy 5],sy 6],0,none,.bool false,none⟩]) fn (fc (pc rfl (λw hb=>Bm c p hc w)) fn) rfl [] [] [] 0 rfl rfl x7 (.agg #[iz 0,iz 0,iz 0,iz 0,iz 0,iz 0,iz 0,iz 0,.bool false,iz 0,.int .u64 0,.bool false,iz 0,iz 0,iz 0,iz 0,iz 0,iz 0,iz 0,iz 0,iz 0,.int .u64 0,.slice none 0 0,.slice none 0 0]))
theorem Qm(W:World)(c:aT)(p:Int)(hp:¬ (0<=p/\p<c.n))(gg:Int):aK prog 15 [] 0 20 ⟨W,λ_=>False⟩ [(0,EH c),(1,iz p),(2,iz gg)] [] (λκ:ag=>t7) (λκ:ag=>[]):=(bU (c:=⟨W,λ_=>False⟩) 5 (kn [iN (c.n),iN (c.q),iz (c.g),iz (c.m),iz (c.t),iz (c.s),iz (p),iz (gg)] fr [] [] [] fn fn fn W (λ_=>False) [[]] [] [⟨42,[.agg #[sy 0,sy 1,sy 2,sy 3,sy 4,sy 5],sy 6],0,none,.bool false,none⟩]) fn (fc (pc rfl (λw hb=>wa c p hp w)) fn) rfl [] [] [] 0 rfl rfl x7 (.agg #[iz 0,iz 0,iz 0,iz 0,iz 0,iz 0,iz 0,iz 0,.bool false,iz 0,.int .u64 0,.bool false,iz 0,iz 0,iz 0,iz 0,iz 0,iz 0,iz 0,iz 0,iz 0,.int .u64 0,.slice none 0 0,.slice none 0 0]))
theorem EJ(c:aT)(p:Nat)(hp:p<c.n)(w:World):Calls prog 45 #[c.v,.int .i64 (p:Int)] w λe w'=>e=.returned (.int .i64 ((c.word p+2:Nat):Int))/\Below w.heap.size w w' :=
 cw (r:=.int .i64 ((c.word p+2:Nat):Int)) (by kernel_rfl) (by simp) (by simp) (Qh w c p hp)
theorem EK(c:aT)(p:Nat)(hp:p<c.n)(w:World):Calls prog 46 #[c.v,.int .i64 (p:Int)] w λe w'=>e=.returned (.int .i64 ((c.word p+3:Nat):Int))/\Below w.heap.size w w' :=
 cw (r:=.int .i64 ((c.word p+3:Nat):Int)) (by kernel_rfl) (by simp) (by simp) (Qi w c p hp)
theorem IW(c:aT)(p:Nat)(hp:p<c.n)(w:World):Calls prog 47 #[c.v,.int .i64 (p:Int)] w λe w'=>e=.returned (.int .i64 ((c.word p+4:Nat):Int))/\Below w.heap.size w w' :=
 cw (r:=.int .i64 ((c.word p+4:Nat):Int)) (by kernel_rfl) (by simp) (by simp) (R8 w c p hp)
theorem EL(c:aT)(p:Nat)(hp:p<c.n)(w:World):Calls prog 48 #[c.v,.int .i64 (p:Int)] w λe w'=>e=.returned (.int .i64 ((c.word p+5:Nat):Int))/\Below w.heap.size w w' :=
 cw (r:=.int .i64 ((c.word p+5:Nat):Int)) (by kernel_rfl) (by simp) (by simp) (Qj w c p hp)
theorem iK(c:Cf)(w:World):Calls prog 16 #[c.v] w λe w'=>e=.returned c.v/\Below w.heap.size w w' :=
 cw (r:=c.v) (by kernel_rfl) (by simp) (by simp) (R9 w c)
theorem IX(c:aT)(p:Nat)(hp:p<c.n)(w:World):Calls prog 18 #[c.v,.int .i64 (p:Int)] w λe w'=>e=.returned (.agg (Nl c p true 0).toArray)/\Below w.heap.size w w' :=
 cw (r:=.agg (Nl c p true 0).toArray) (by kernel_rfl) (by simp) (by simp) (R_ w c p hp)
theorem IY(c:Cf)(p:Int)(hc:c.ok=false)(w:World):Calls prog 18 #[c.v,.int .i64 p] w λe w'=>e=.returned (.agg (nW).toArray)/\Below w.heap.size w w' :=
 cw (r:=.agg (nW).toArray) (by kernel_rfl) (by simp) (by simp) (Sb w c p hc)
theorem Gu(c:aT)(p:Int)(hp:¬ (0<=p/\p<c.n))(w:World):Calls prog 18 #[c.v,.int .i64 p] w λe w'=>e=.returned (.agg (nW).toArray)/\Below w.heap.size w w' :=
 cw (r:=.agg (nW).toArray) (by kernel_rfl) (by simp) (by simp) (Qk w c p hp)
theorem IZ(c:aT)(p:Nat)(hp:p<c.n)(gg:Int)(hg:0<=gg)(w:World):Calls prog 15 #[c.v,.int .i64 (p:Int),.int .i64 gg] w λe w'=>e=.returned (.agg (Nl c p false gg).toArray)/\Below w.heap.size w w' :=
 cw (r:=.agg (Nl c p false gg).toArray) (by kernel_rfl) (by simp) (by simp) (Sc w c p hp gg hg)
theorem Gv(c:aT)(p:Nat)(hp:p<c.n)(gg:Int)(hg:¬ 0<=gg)(w:World):Calls prog 15 #[c.v,.int .i64 (p:Int),.int .i64 gg] w λe w'=>e=.returned (.agg (nW).toArray)/\Below w.heap.size w w' :=
 cw (r:=.agg (nW).toArray) (by kernel_rfl) (by simp) (by simp) (Ql w c p hp gg hg)
theorem Bo(c:Cf)(p:Int)(hc:c.ok=false)(gg:Int)(w:World):Calls prog 15 #[c.v,.int .i64 p,.int .i64 gg] w λe w'=>e=.returned (.agg (nW).toArray)/\Below w.heap.size w w' :=
 cw (r:=.agg (nW).toArray) (by kernel_rfl) (by simp) (by simp) (Sd w c p hc gg)
theorem wc(c:aT)(p:Int)(hp:¬ (0<=p/\p<c.n))(gg:Int)(w:World):Calls prog 15 #[c.v,.int .i64 p,.int .i64 gg] w λe w'=>e=.returned (.agg (nW).toArray)/\Below w.heap.size w w' :=
 cw (r:=.agg (nW).toArray) (by kernel_rfl) (by simp) (by simp) (Qm w c p hp gg)
end Go.Proofs.YtbcnbofkgkheeaaGreat
namespace Go.Proofs.YtbcnbofkgkheeaaGreat
open Go.Ev Go.Proofs.Tryz
open Go.ChangeShapes Go.WideShapes Go.ChangeAt Go.RowKit Go.Deep
section
variable{H:Type}{enc:TypeId×Value->H}{P:Program}
theorem vv(hl:laidOutB P=true){W W':World}(hb:Below W.heap.size W W'):∀ (ts:List TypeId) (vs:List Value) (ds:List (DataW H)) (ps:List MemPlace),
  DataW.TrodAll enc P W 0 (λ_=>true) true ts vs ds ps->(∀ t ∈ ts,P.readableRec t=true/\t<P.types.size)->(∀ x ∈ ps,x.block<W.heap.size)->
  DataW.TrodAll enc P W' 0 (λb=>decide (b<W.heap.size)) true ts vs ds ps:=by
 intro ts
 induction ts with
 | nil =>
  intro vs ds ps h _ _;obtain⟨rfl,rfl,rfl⟩:=trodAll_nil h;exact trodAll_mk0
 | cons t ts ih =>
  intro vs ds ps h hr hlt;obtain⟨v,vs',d,ds',p,q,rfl,rfl,rfl,h1,h2⟩:=trodAll_cons h;exact trodAll_cons_mk ((hb.trod hl (hr t (List.mem_cons_self ..)).1 (hr t (List.mem_cons_self ..)).2 h1 (λx hx=>hlt x (List.mem_append_left _ hx))))
   (ih vs' ds' q h2 (λt' ht'=>hr t' (List.mem_cons_of_mem _ ht')) (λx hx=>hlt x (List.mem_append_right _ hx)))
theorem I0{f:Func}{s:ChangeSpec}{W W':World}{args:Array Value}{ds gs:List (DataW H)}{before:List MemPlace}{tb:TypeId}(hl:laidOutB P=true)
  (hW:DataW.Whole enc P f.params.toList s.vars false W args.toList ds gs before) (hvars:s.vars=[]) (hres:f.resultTypes = #[tb]) (Se:P.underlying tb=some .bool)
  (hfn:s.fn H ds = { results:=[.lit (.bool true)],args:=ds }) (hread:∀ t ∈ f.params.toList,P.readableRec t=true/\t<P.types.size) (hb:Below W.heap.size W W') :
  s.post enc P f false true false false W args (.bool true) W':=by
 have hW0:=hW;obtain⟨p,q,hA,hV,hpq,hz,hn⟩:=hW;rw[hvars]at hV;obtain⟨rfl,rfl⟩:=trodVars_none hV;have hlt:∀ x ∈ before,x.block<W.heap.size:=λx hx=>hW0.lt x hx
 have hpl:before=p:=by rw[hpq,List.append_nil]
 refine⟨ds,[],before,[],p,[],hW0,?_,?_,?_,?_,λh=>by cases h⟩
 ·rw[List.append_nil,hfn,hres]
  exact trodAll_mk1 (shut_bool Se true)
 ·rw[List.append_nil,hfn]
  exact vv hl hb _ _ _ _ hA hread (λx hx=>hlt x (by rw[hpl];exact hx))
 ·rw[hvars,List.append_nil,hfn]
  rfl
 ·exact World.keptBut_mono (λx hx=>⟨hx,.inr (.inl (by rw[hpl]at hx;exact hx))⟩) (hb.frame (· ∈ before))
end
end Go.Proofs.YtbcnbofkgkheeaaGreat
namespace Go.Proofs.YtbcnbofkgkheeaaGreat
open Go.Ev Go.Proofs.Tryz
open Go.ChangeShapes Go.WideShapes Go.ChangeAt Go.RowKit Go.Deep
set_option maxRecDepth 100000
theorem own:ownKnob prog.godebug=none:=by kernel_rfl
theorem laidOut:laidOutB prog=true:=by kernel_rfl
theorem mE{W:World}{N:Nat}{f:FuncId}{args:Array Value}{tm:List (Nat×Value)}{r:Value}(h:aK prog f [] 0 N ⟨W,λ_=>False⟩ tm [] (λκ:ag=>r) (λκ:ag=>[]))(hN:cZ prog (λB=>kp B f [] (λfn _=>Nat.beq fn.ntmps N))=true)(ha:args.size<=N)(ht:∀ p ∈ tm,args[p.1]? = some p.2):Calls prog f args W λe w'=>e=.returned r/\Below W.heap.size W w' :=
 cF hN (iJ W) ha ht (λA hA=>h A W _ hA (λκ w1 h1=>⟨rfl,h1.below (λ_ h=>h)⟩))
end Go.Proofs.YtbcnbofkgkheeaaGreat
namespace Go.Proofs.YtbcnbofkgkheeaaGreat
open Go.Ev Go.Proofs.Tryz
open Go.RowKit
open Go.Ev (sy iz uz wz iN uN wN pz dv fc fn ak vk vd kn pc cc cr cm cd fr)
set_option maxRecDepth 8000
attribute [local irreducible] dL
abbrev EM(rv:Value)(xs:List Int):aC:=aD 28 1 (rv) (xs.length) (aF xs)
theorem WA(W0:World)(F0:Nat->Prop)(rv:Value)(lr:ai rv=true)(xs:List Int)(hx:xs.length<=1000000)(ops:Int)(a:Nat)(ha:a<xs.length)(y:Int):bV prog 62 [] 0 3 21 ⟨W0,F0⟩ [(0,(.agg #[rv,uz ops])),(1,iN a),(2,uz y)] [(EM rv xs)] .normal (λκ:ag=>[(1,iN a),(2,uz y),(3,(pz ((κ 400).getD 0))),(6,(pz ((κ 404).getD 0))),(7,dv κ 411)]) (λκ:ag=>[aH ((κ 400).getD 0) [rv,uz ops] 58,aH ((κ 404).getD 0) [.slice none 0 0,.int .u64 0] 58,(EM rv xs),aD 28 1 (dv κ 411) (xs.length) (aF xs)]):=(tr (c:=⟨W0,F0⟩) (kn [rv,uz (ops),iN (a),uz (y)] (fc (by assumption) fr) [] [] [] fn fn fn W0 F0 [[(EM rv xs)],[(EM rv xs),bP 411 (λv=>aD 28 1 v (xs.length) (aF xs))]] [⟨[11,56,56],[.slice none 0 0,sy 0],none,0,some 411,.complex .f32 411 0,some 1⟩] []) (fc (by obtain⟨i,i1,i2,i3,i4⟩:=cK;exact m7 rfl rfl ou (.inl rfl) rfl (tT (ci:=1) rfl rfl) underlying56 underlying56 i1 i2 i3 (by rw[i2];rfl) (by rw[i4];omega) (by omega) dq) fn) fn rfl [] [] [(400,[sy 0,sy 1],58),(404,[.slice none 0 0,.int .u64 0],58)] 1 rfl rfl [(0,.agg #[sy 0,sy 1]),(1,sy 2),(2,sy 3)] [(1,sy 2),(2,sy 3),(3,.pointer (some ⟨400,0,none⟩)),(6,.pointer (some ⟨404,0,none⟩)),(7,.complex .f32 411 0)] .normal).conv (λκ w=>⟨(λ_ h=>h),(λ_ h=>h),(λ_ h=>h),(λ_ h=>aS (a:=λv=>aD 28 1 v (xs.length) (aF xs)) (λ_ _ _ _ _ h=>h) h),trivial⟩)
theorem WB(W0:World)(F0:Nat->Prop)(rv:Value)(lr:ai rv=true)(xs:List Int)(hx:xs.length<=1000000)(ops:Int)(a:Nat)(ha:a<xs.length)(y:Int)(al:Value)(la:ai al=true)(b3 b6:Nat):aK prog 62 [] 3 21 ⟨W0,F0⟩ [(1,iN a),(2,uz y),(3,pz b3),(6,pz b6),(7,(al))] [aH b3 [rv,uz ops] 58,aH b6 [.slice none 0 0,.int .u64 0] 58,aD 28 1 (al) (xs.length) (aF xs)] (λκ:ag=>(.agg #[al,(uz (IntKind.u64.wrap ((ops)+1)))])) (λκ:ag=>[aH b3 [rv,uz ops] 58,aH b6 [al,(uz (IntKind.u64.wrap ((ops)+1)))] 58,aD 28 1 (al) (xs.length) ((aF xs).set ((a)*1) (uz y))]):=(bU (c:=⟨W0,F0⟩) 3 (kn [al,rv,dx (al) ((a)*1),iN (a),uz (y),uz (ops),uz (IntKind.u64.wrap ((ops)+1))] (fc (by assumption) (fc (by assumption) (fc (aX _ _) fr))) [(.add,sy 5,.int .u64 1,sy 6)] [] [] (fc (λ_ _ _=>ax rfl) fn) fn fn W0 F0 [[aD 28 1 (al) (xs.length) (aF xs)],[aD 28 1 (al) (xs.length) ((aF xs).set ((a)*1) (uz y))]] [⟨[3,56],[sy 0,sy 3],none,0,none,sy 2,none⟩,⟨[2,28],[sy 2,sy 4],none,0,none,undef,some 1⟩] []) (fc (by obtain⟨i,i1,i2,i3,i4⟩:=cK;exact bJ (ci:=1) (j:=(a)) rfl rfl underlying56 i1 i2 rfl rfl (by omega) rfl) (fc (c6 (ci:=1) (m:=(a)*1) (x:=(uz y)) rfl rfl rfl storeU64 (by simp;omega) rfl (cI rfl) rfl) fn)) fn rfl [(4,b3),(8,b6)] [(4,[sy 1,sy 5],58),(8,[.slice none 0 0,.int .u64 0],58)] [(4,[sy 1,sy 5],58),(8,[sy 0,sy 6],58)] 1 rfl rfl [(1,sy 3),(2,sy 4),(3,.pointer (some ⟨4,0,none⟩)),(6,.pointer (some ⟨8,0,none⟩)),(7,sy 0)] (.agg #[sy 0,sy 6]))
end Go.Proofs.YtbcnbofkgkheeaaGreat
namespace Go.Proofs.YtbcnbofkgkheeaaGreat
open Go.Ev Go.Proofs.Tryz
open Go.RowKit
open Go.Ev (sy)
set_option maxRecDepth 8000
theorem EN{w:World}{F:Nat->Prop}{rv:Value}(lr:ai rv=true){xs:List Int}(hn:xs.length<=1000000)(ops:Int){a:Nat}(ha:a<xs.length)(v:Int)(h:bI [aD 28 1 rv xs.length (aF xs)] F w) :
  Calls prog 62 #[.agg #[rv,.int .u64 ops],.int .i64 (a:Int),.int .u64 v] w λe w'=>∃ al cd,Ev.dec cd=al/\e=.returned (.agg #[al,.int .u64 (IntKind.u64.wrap (ops+1))])/\ah ⟨w,F⟩ [aD 28 1 al xs.length (aF (xs.set a v))] w':=by
 refine cF (N:=21) (tm:=[(0,.agg #[rv,.int .u64 ops]),(1,.int .i64 (a:Int)),(2,.int .u64 v)]) (by kernel_rfl) h (by simp) (by simp) (λA hA=>?_);refine WA w F rv lr xs hn ops a ha v A w _ hA ?_;intro κ A1 w1 h1;refine WB w F rv lr xs hn ops a ha v (Ev.dec ((κ 411).getD 0)) (aN (h1.hold.sel [3])) ((κ 400).getD 0) ((κ 404).getD 0) A1 w1 _ (h1.to (λp hp=>hp) (λhh=>hh.sel [0,1,3])) ?_;intro κ2 w2 h2;refine⟨_,_,rfl,rfl,?_⟩;rw[← mB];exact h2.sel [2]
end Go.Proofs.YtbcnbofkgkheeaaGreat
namespace Go.Proofs.YtbcnbofkgkheeaaGreat
open Go.Ev Go.Proofs.Tryz
open Go.RowKit
open Go.Ev (sy iz uz wz iN uN wN pz dv fc fn ak vk vd kn pc cc cr cm cd fr)
set_option maxRecDepth 8000
attribute [local irreducible] dL
abbrev nX(rv:Value)(xs:List Int):List aC:=[aD 28 1 (rv) (xs.length) (aF xs)]
theorem WC(W0:World)(F0:Nat->Prop)(rv:Value)(lr:ai rv=true)(xs:List Int)(hx:xs.length<=1000000)(ops:Int)(a:Nat)(ha:a<xs.length):aK prog 58 [] 0 22 ⟨W0,F0⟩ [(0,(.agg #[rv,uz ops])),(1,iN a)] (nX rv xs) (λκ:ag=>(.tuple #[(.agg #[rv,(uz (IntKind.u64.wrap ((ops)+1)))]),uz (xs[a])])) (λκ:ag=>(nX rv xs)):=by obtain⟨i,i1,i2,i3,i4⟩:=cK;exact(bU (c:=⟨W0,F0⟩) 6 (kn [rv,dx (rv) ((a)*1),uz (ops),iN (a),iN (xs.length),uz (IntKind.u64.wrap ((ops)+1)),uz (xs[a])] (fc (by assumption) (fc (aX _ _) fr)) [(.geq,sy 3,iz 0,.bool true),(.lss,sy 3,sy 4,.bool true),(.add,sy 2,.int .u64 1,sy 5)] [] [] (fc (λ_ _ _=>bG (by first|(simp;done)|(simp;omega))) (fc (λ_ _ _=>aQ (by first|(simp;done)|(simp;omega))) (fc (λ_ _ _=>ax rfl) fn))) fn fn W0 F0 [(nX rv xs)] [⟨[10,56],[sy 0],none,0,none,sy 4,none⟩,⟨[3,56],[sy 0,sy 3],none,0,none,sy 1,none⟩,⟨[1,28],[sy 1],none,0,none,sy 6,none⟩] []) (fc (by exact bT (ci:=1) rfl rfl underlying56 i2 rfl rfl) (fc (by exact bJ (ci:=1) (j:=(a)) rfl rfl underlying56 i1 i2 rfl rfl (by omega) rfl) (fc (fi (ci:=1) (m:=(a)*1) (x:=(uz (xs[a]))) rfl rfl loadU64 (by simp[aF,List.getElem?_map,List.getElem?_eq_getElem ha]) (by simp;omega) rfl (λι=>(vk (by kernel_rfl) (by kernel_rfl)))) fn))) fn rfl [] [] [] 0 rfl rfl [(0,.agg #[sy 0,sy 2]),(1,sy 3)] (.tuple #[.agg #[sy 0,sy 5],sy 6]))
theorem WD(W0:World)(F0:Nat->Prop)(rv:Value)(lr:ai rv=true)(xs:List Int)(hx:xs.length<=1000000)(ops:Int)(a:Nat)(ha:a<xs.length)(y:Int):aK prog 40 [] 0 16 ⟨W0,F0⟩ [(0,(.agg #[rv,uz ops])),(1,iN a),(2,uz y)] (nX rv xs) (λκ:ag=>(.agg #[dv κ 415,(.int .u64 (IntKind.u64.wrap (ops+1)))])) (λκ:ag=>[aD 28 1 (dv κ 415) xs.length (aF (xs.set a y))]):=(bU (c:=⟨W0,F0⟩) 6 (kn [rv,uz (ops),iN (a),uz (y),iN (xs.length),.int .u64 (IntKind.u64.wrap (ops+1))] (fc (by assumption) fr) [(.geq,sy 2,iz 0,.bool true),(.lss,sy 2,sy 4,.bool true)] [] [] (fc (λ_ _ _=>bG (by first|(simp;done)|(simp;omega))) (fc (λ_ _ _=>aQ (by first|(simp;done)|(simp;omega))) fn)) fn fn W0 F0 [(nX rv xs),[bP 415 (λv=>aD 28 1 v xs.length (aF (xs.set a y)))]] [⟨[10,56],[sy 0],none,0,none,sy 4,none⟩] [⟨62,[.agg #[sy 0,sy 1],sy 2,sy 3],0,some 415,.agg #[.complex .f32 415 0,sy 5],some 1⟩]) (fc (by obtain⟨i,i1,i2,i3,i4⟩:=cK;exact bT (ci:=1) rfl rfl underlying56 i2 rfl rfl) fn) (fc (cd rfl [λv=>aD 28 1 v xs.length (aF (xs.set a y))] [0] [] (λw F ho hn hF=>EN lr hx ops ha y hn)) fn) rfl [] [] [] 1 rfl rfl [(0,.agg #[sy 0,sy 1]),(1,sy 2),(2,sy 3)] (.agg #[.complex .f32 415 0,sy 5])).conv (λκ w=>⟨(λ_ h=>aS (a:=λv=>aD 28 1 v xs.length (aF (xs.set a y))) (λ_ _ _ _ _ h=>h) h),trivial⟩)
theorem Uq(W0:World)(F0:Nat->Prop)(rv:Value)(lr:ai rv=true)(xs:List Int)(hx:xs.length<=1000000)(ops:Int)(a:Nat)(ha:a<xs.length)(u y:Int)(h1:(xs[a])≠(u)):aK prog 72 [] 0 32 ⟨W0,F0⟩ [(0,(.agg #[rv,uz ops])),(1,iN a),(2,uz u),(3,uz y)] (nX rv xs) (λκ:ag=>(.tuple #[(.agg #[rv,(uz (IntKind.u64.wrap ((ops)+1)))]),.bool false])) (λκ:ag=>(nX rv xs)):=by obtain⟨i,i1,i2,i3,i4⟩:=cK;exact(bU (c:=⟨W0,F0⟩) 9 (kn [rv,dx (rv) ((a)*1),uz (ops),iN (a),uz (u),uz (y),iN (xs.length),uz (xs[a]),uz (IntKind.u64.wrap ((ops)+1)),.int .u64 (IntKind.u64.wrap (ops+1))] (fc (by assumption) (fc (aX _ _) fr)) [(.geq,sy 3,iz 0,.bool true),(.lss,sy 3,sy 6,.bool true),(.neq,sy 7,sy 4,.bool true),(.add,sy 2,.int .u64 1,sy 8)] [] [] (fc (λ_ _ _=>bG (by first|(simp;done)|(simp;omega))) (fc (λ_ _ _=>aQ (by first|(simp;done)|(simp;omega))) (fc (λ_ _ _=>eY (by first|(simpa using h1)|(simp;omega))) (fc (λ_ _ _=>ax rfl) fn)))) fn fn W0 F0 [(nX rv xs)] [⟨[10,56],[sy 0],none,0,none,sy 6,none⟩,⟨[3,56],[sy 0,sy 3],none,0,none,sy 1,none⟩,⟨[1,28],[sy 1],none,0,none,sy 7,none⟩] []) (fc (by exact bT (ci:=1) rfl rfl underlying56 i2 rfl rfl) (fc (by exact bJ (ci:=1) (j:=(a)) rfl rfl underlying56 i1 i2 rfl rfl (by omega) rfl) (fc (fi (ci:=1) (m:=(a)*1) (x:=(uz (xs[a]))) rfl rfl loadU64 (by simp[aF,List.getElem?_map,List.getElem?_eq_getElem ha]) (by simp;omega) rfl (λι=>(vk (by kernel_rfl) (by kernel_rfl)))) fn))) fn rfl [] [] [] 0 rfl rfl [(0,.agg #[sy 0,sy 2]),(1,sy 3),(2,sy 4),(3,sy 5)] (.tuple #[.agg #[sy 0,sy 8],.bool false]))
theorem Ur(W0:World)(F0:Nat->Prop)(rv:Value)(lr:ai rv=true)(xs:List Int)(hx:xs.length<=1000000)(ops:Int)(a:Nat)(ha:a<xs.length)(u y:Int)(h1:¬ (xs[a])≠(u)):aK prog 72 [] 0 32 ⟨W0,F0⟩ [(0,(.agg #[rv,uz ops])),(1,iN a),(2,uz u),(3,uz y)] (nX rv xs) (λκ:ag=>(.tuple #[(.agg #[dv κ 415,(.int .u64 (IntKind.u64.wrap (ops+1)))]),.bool true])) (λκ:ag=>[aD 28 1 (dv κ 415) xs.length (aF (xs.set a y))]):=by obtain⟨i,i1,i2,i3,i4⟩:=cK;exact(bU (c:=⟨W0,F0⟩) 9 (kn [rv,dx (rv) ((a)*1),uz (ops),iN (a),uz (u),uz (y),iN (xs.length),uz (xs[a]),uz (IntKind.u64.wrap ((ops)+1)),.int .u64 (IntKind.u64.wrap (ops+1))] (fc (by assumption) (fc (aX _ _) fr)) [(.geq,sy 3,iz 0,.bool true),(.lss,sy 3,sy 6,.bool true),(.neq,sy 7,sy 4,.bool false)] [] [] (fc (λ_ _ _=>bG (by first|(simp;done)|(simp;omega))) (fc (λ_ _ _=>aQ (by first|(simp;done)|(simp;omega))) (fc (λ_ _ _=>eY (by first|(simpa using h1)|(simp;omega))) fn))) fn fn W0 F0 [(nX rv xs),[bP 415 (λv=>aD 28 1 v xs.length (aF (xs.set a y)))]] [⟨[10,56],[sy 0],none,0,none,sy 6,none⟩,⟨[3,56],[sy 0,sy 3],none,0,none,sy 1,none⟩,⟨[1,28],[sy 1],none,0,none,sy 7,none⟩] [⟨62,[.agg #[sy 0,sy 2],sy 3,sy 5],0,some 415,.agg #[.complex .f32 415 0,sy 9],some 1⟩]) (fc (by exact bT (ci:=1) rfl rfl underlying56 i2 rfl rfl) (fc (by exact bJ (ci:=1) (j:=(a)) rfl rfl underlying56 i1 i2 rfl rfl (by omega) rfl) (fc (fi (ci:=1) (m:=(a)*1) (x:=(uz (xs[a]))) rfl rfl loadU64 (by simp[aF,List.getElem?_map,List.getElem?_eq_getElem ha]) (by simp;omega) rfl (λι=>(vk (by kernel_rfl) (by kernel_rfl)))) fn))) (fc (cd rfl [λv=>aD 28 1 v xs.length (aF (xs.set a y))] [0] [] (λw F ho hn hF=>EN lr hx ops ha y hn)) fn) rfl [] [] [] 1 rfl rfl [(0,.agg #[sy 0,sy 2]),(1,sy 3),(2,sy 4),(3,sy 5)] (.tuple #[.agg #[.complex .f32 415 0,sy 9],.bool true])).conv (λκ w=>⟨(λ_ h=>aS (a:=λv=>aD 28 1 v xs.length (aF (xs.set a y))) (λ_ _ _ _ _ h=>h) h),trivial⟩)
end Go.Proofs.YtbcnbofkgkheeaaGreat
namespace Go.Proofs.YtbcnbofkgkheeaaGreat
open Go.Ev Go.Proofs.Tryz
open Go.RowKit
open Go.Ev (sy)
set_option maxRecDepth 8000
section
variable{w:World}{F:Nat->Prop}{rv:Value}{xs:List Int}{a:Nat}
theorem jo(lr:ai rv=true)(hx:xs.length<=1000000)(ops:Int){x:Int}(ha:xs[a]? = some x)(h:bI [aD 28 1 rv xs.length (aF xs)] F w) :
  Calls prog 58 #[.agg #[rv,.int .u64 ops],.int .i64 (a:Int)] w λe w'=>e=.returned (.tuple #[.agg #[rv,.int .u64 (IntKind.u64.wrap (ops+1))],.int .u64 x])/\ah ⟨w,F⟩ [aD 28 1 rv xs.length (aF xs)] w':=by
 obtain⟨hb,rfl⟩:=List.getElem?_eq_some_iff.1 ha;exact aB (WC w F rv lr xs hx ops a hb) (by kernel_rfl) h (by simp) (by simp) (λκ w1 h1=>⟨rfl,h1⟩)
theorem fj(lr:ai rv=true)(hx:xs.length<=1000000)(ops:Int)(ha:a<xs.length)(v:Int)(h:bI [aD 28 1 rv xs.length (aF xs)] F w) :
  Calls prog 40 #[.agg #[rv,.int .u64 ops],.int .i64 (a:Int),.int .u64 v] w λe w'=>∃ al cd,Ev.dec cd=al/\e=.returned (.agg #[al,.int .u64 (IntKind.u64.wrap (ops+1))])/\ah ⟨w,F⟩ [aD 28 1 al xs.length (aF (xs.set a v))] w' :=
 aB (WD w F rv lr xs hx ops a ha v) (by kernel_rfl) h (by simp) (by simp) (λκ w1 h1=>⟨_,_,rfl,rfl,h1⟩)
theorem EO(lr:ai rv=true)(hx:xs.length<=1000000)(ops:Int){x:Int}(ha:xs[a]? = some x)(u v:Int)(hu:x≠u)(h:bI [aD 28 1 rv xs.length (aF xs)] F w) :
  Calls prog 72 #[.agg #[rv,.int .u64 ops],.int .i64 (a:Int),.int .u64 u,.int .u64 v] w λe w'=>e=.returned (.tuple #[.agg #[rv,.int .u64 (IntKind.u64.wrap (ops+1))],.bool false])/\ah ⟨w,F⟩ [aD 28 1 rv xs.length (aF xs)] w':=by
 obtain⟨hb,rfl⟩:=List.getElem?_eq_some_iff.1 ha;exact aB (Uq w F rv lr xs hx ops a hb u v hu) (by kernel_rfl) h (by simp) (by simp) (λκ w1 h1=>⟨rfl,h1⟩)
theorem Bp(lr:ai rv=true)(hx:xs.length<=1000000)(ops:Int){x:Int}(ha:xs[a]? = some x)(u v:Int)(hu:x=u)(h:bI [aD 28 1 rv xs.length (aF xs)] F w) :
  Calls prog 72 #[.agg #[rv,.int .u64 ops],.int .i64 (a:Int),.int .u64 u,.int .u64 v] w λe w'=>∃ al cd,Ev.dec cd=al/\e=.returned (.tuple #[.agg #[al,.int .u64 (IntKind.u64.wrap (ops+1))],.bool true])/\ah ⟨w,F⟩ [aD 28 1 al xs.length (aF (xs.set a v))] w':=by
 obtain⟨hb,rfl⟩:=List.getElem?_eq_some_iff.1 ha;exact aB (Ur w F rv lr xs hx ops a hb u v (by simp[hu])) (by kernel_rfl) h (by simp) (by simp) (λκ w1 h1=>⟨_,_,rfl,rfl,h1⟩)
end
end Go.Proofs.YtbcnbofkgkheeaaGreat
