/- Part of a proof: see the last text. -/
import Derived.Test.YtkmccgombmogmaaGreatZf20
import Derived.Test.YtkmccgombmogmaaGreatZf19
set_option linter.unusedSimpArgs false
set_option linter.unusedVariables false
namespace Go.Proofs.YtkmccgombmogmaaGreat
open Go.Ev Go.Proofs.Tryz
open Go.RowKit
open Go.Ev (sy)
set_option maxRecDepth 8000
structure kC where
 w:Int
 sl:List Int
def bf(c:aU)(x:kC)(i:Nat):Int:=x.sl.getD (c.ae ((aj x.w+(i:Int))%4294967296)) 0
def bj(c:aU)(x:kC):List Int:=(List.range (aW x.w).toNat).map (bf c x)
structure eU(c:aU)(x:kC):Prop where
 w:fv x.w
 sl:x.sl.length=c.q
 sz:aW x.w<=(c.q:Int)
def Ni(b:Nat)(x:kC)(sv:Value):aF:=aE b [.int .u64 x.w,sv] 141
def ib(c:aU)(b:Nat)(x:kC):aF:=Dw (λsv:Value=>aT sv=true) (λsv=>Ge [Ni b x sv,bT 3 1 sv c.q (aX x.sl)])
section
variable{w:World}{F:Nat->Prop}{c:aU}{b:Nat}{x:kC}{ctx:dt}{l:List aF}
theorem ln(h:af ctx (ib c b x::l) w):∃ sv,aT sv=true/\af ctx (Ni b x sv::bT 3 1 sv c.q (aX x.sl)::l) w:=by
 obtain⟨sv,hl,hh⟩:=h.qD;exact⟨sv,hl,hh.open⟩
theorem kp{sv:Value}(hl:aT sv=true)(h:af ctx (Ni b x sv::bT 3 1 sv c.q (aX x.sl)::l) w):af ctx (ib c b x::l) w :=
 af.r8 sv hl (af.shut h)
theorem bS(i:Nat):x.sl.getD (c.ae (IntKind.u32.wrap (aj x.w+(i:Int)))) 0=bf c x i:=by
 unfold bf;rw[cy]
theorem Hm(hq:c.q<=8)(hx:eU c x)(h:cL [ib c b x] F w) :
  Calls prog 44 #[.pointer (some ⟨b,0,none⟩)] w λe w'=>∃ v,aT v=true/\e=.returned v/\af ⟨w,F⟩ [bJ v (bj c x),ib c b x] w':=by
 obtain⟨sv,oU,hh⟩:=ln (af.start h);obtain⟨F',n1,n2,n3⟩:=hh.ex
 let s:DP:=⟨w,F',c,x.w,hx.w,b,sv,oU,x.sl,hx.sl⟩
 have into:∀ {l:List aF} {w1:World},af ⟨w,F'⟩ l w1->af ⟨w,F⟩ l w1:=λhh=>hh.into (l:=[]) n2 n3
 have hb:=cD x.w;have hs:=hx.sz;obtain⟨k,hk⟩:∃ k:Nat,aW x.w=(k:Int):=⟨(aW x.w).toNat,by omega⟩;have Tf:k<=8:=by omega
 have ea:bj c x=(List.range k).map (bf c x):=by unfold bj;rw[hk];rfl
 have fin:∀ (u:Value) (w1:World),af ⟨w,F⟩ [Ni b x sv,bT 3 1 sv c.q (aX x.sl),bJ u (bj c x)] w1->aT u=true/\af ⟨w,F⟩ [bJ u (bj c x),ib c b x] w1:=by
  intro u w1 h1;have h2:af ⟨w,F⟩ [ib c b x,bJ u (bj c x)] w1:=kp oU h1;exact⟨dm (h2.sel [1]),h2.sel [1,0]⟩
 match k,Tf with
 | 0,_ =>
  refine bh (Q6 s hk) (by kernel_rfl) n1 (by simp) (by simp[s]) (λκ w1 h1=>?_);have h2:=((into h1).d8 (e := 3) (sz:=1)).sel [1,2,0];obtain⟨q1,q2⟩:=fin (.slice none 0 0) w1 (by rw[ea];exact h2);exact⟨_,q1,rfl,q2⟩
 | 1,_ =>
  refine bh (Q7 s hk) (by kernel_rfl) n1 (by simp) (by simp[s]) (λκ w1 h1=>?_);have h2:=(into h1).sel [0,1,2]
  obtain⟨q1,q2⟩:=fin _ w1 (by
   have e1:bj c x=[bf c x 0]:=by rw[ea];rfl
   have e2:bJ (Ev.dec ((κ 427).getD 0)) ([bf c x 0])=bT 3 1 (Ev.dec ((κ 427).getD 0)) (1) ([Value.int .i64 (x.sl.getD (c.ae (IntKind.u32.wrap (aj x.w+0))) 0)]):=by simp only[show x.sl.getD (c.ae (IntKind.u32.wrap (aj x.w+0))) 0=bf c x 0 from bS 0];rfl
   rw[e1,e2]
   exact h2)
  exact⟨_,q1,rfl,q2⟩
 | 2,_ =>
  refine bh (Q8 s hk) (by kernel_rfl) n1 (by simp) (by simp[s]) (λκ w1 h1=>?_);have h2:=(into h1).sel [0,1,2]
  obtain⟨q1,q2⟩:=fin _ w1 (by
   have e1:bj c x=[bf c x 0]++[bf c x 1]:=by rw[ea];rfl
   have e2:bJ (Ev.dec ((κ 435).getD 0)) ([bf c x 0]++[bf c x 1])=bT 3 1 (Ev.dec ((κ 435).getD 0)) (1+1) ([Value.int .i64 (x.sl.getD (c.ae (IntKind.u32.wrap (aj x.w+0))) 0)]++[Value.int .i64 (x.sl.getD (c.ae (IntKind.u32.wrap (aj x.w+1))) 0)]):=by simp only[show x.sl.getD (c.ae (IntKind.u32.wrap (aj x.w+0))) 0=bf c x 0 from bS 0,show x.sl.getD (c.ae (IntKind.u32.wrap (aj x.w+1))) 0=bf c x 1 from bS 1];rfl
   rw[e1,e2]
   exact h2)
  exact⟨_,q1,rfl,q2⟩
 | 3,_ =>
  refine bh (Q9 s hk) (by kernel_rfl) n1 (by simp) (by simp[s]) (λκ w1 h1=>?_);have h2:=(into h1).sel [0,1,2]
  obtain⟨q1,q2⟩:=fin _ w1 (by
   have e1:bj c x=[bf c x 0]++[bf c x 1]++[bf c x 2]:=by rw[ea];rfl
   have e2:bJ (Ev.dec ((κ 443).getD 0)) ([bf c x 0]++[bf c x 1]++[bf c x 2])=bT 3 1 (Ev.dec ((κ 443).getD 0)) (1+1+1) ([Value.int .i64 (x.sl.getD (c.ae (IntKind.u32.wrap (aj x.w+0))) 0)]++[Value.int .i64 (x.sl.getD (c.ae (IntKind.u32.wrap (aj x.w+1))) 0)]++[Value.int .i64 (x.sl.getD (c.ae (IntKind.u32.wrap (aj x.w+2))) 0)]):=by simp only[show x.sl.getD (c.ae (IntKind.u32.wrap (aj x.w+0))) 0=bf c x 0 from bS 0,show x.sl.getD (c.ae (IntKind.u32.wrap (aj x.w+1))) 0=bf c x 1 from bS 1,show x.sl.getD (c.ae (IntKind.u32.wrap (aj x.w+2))) 0=bf c x 2 from bS 2];rfl
   rw[e1,e2]
   exact h2)
  exact⟨_,q1,rfl,q2⟩
 | 4,_ =>
  refine bh (Q_ s hk) (by kernel_rfl) n1 (by simp) (by simp[s]) (λκ w1 h1=>?_);have h2:=(into h1).sel [0,1,2]
  obtain⟨q1,q2⟩:=fin _ w1 (by
   have e1:bj c x=[bf c x 0]++[bf c x 1]++[bf c x 2]++[bf c x 3]:=by rw[ea];rfl
   have e2:bJ (Ev.dec ((κ 451).getD 0)) ([bf c x 0]++[bf c x 1]++[bf c x 2]++[bf c x 3])=bT 3 1 (Ev.dec ((κ 451).getD 0)) (1+1+1+1) ([Value.int .i64 (x.sl.getD (c.ae (IntKind.u32.wrap (aj x.w+0))) 0)]++[Value.int .i64 (x.sl.getD (c.ae (IntKind.u32.wrap (aj x.w+1))) 0)]++[Value.int .i64 (x.sl.getD (c.ae (IntKind.u32.wrap (aj x.w+2))) 0)]++[Value.int .i64 (x.sl.getD (c.ae (IntKind.u32.wrap (aj x.w+3))) 0)]):=by simp only[show x.sl.getD (c.ae (IntKind.u32.wrap (aj x.w+0))) 0=bf c x 0 from bS 0,show x.sl.getD (c.ae (IntKind.u32.wrap (aj x.w+1))) 0=bf c x 1 from bS 1,show x.sl.getD (c.ae (IntKind.u32.wrap (aj x.w+2))) 0=bf c x 2 from bS 2,show x.sl.getD (c.ae (IntKind.u32.wrap (aj x.w+3))) 0=bf c x 3 from bS 3];rfl
   rw[e1,e2]
   exact h2)
  exact⟨_,q1,rfl,q2⟩
 | 5,_ =>
  refine bh (Q' s hk) (by kernel_rfl) n1 (by simp) (by simp[s]) (λκ w1 h1=>?_);have h2:=(into h1).sel [0,1,2]
  obtain⟨q1,q2⟩:=fin _ w1 (by
   have e1:bj c x=[bf c x 0]++[bf c x 1]++[bf c x 2]++[bf c x 3]++[bf c x 4]:=by rw[ea];rfl
   have e2:bJ (Ev.dec ((κ 459).getD 0)) ([bf c x 0]++[bf c x 1]++[bf c x 2]++[bf c x 3]++[bf c x 4])=bT 3 1 (Ev.dec ((κ 459).getD 0)) (1+1+1+1+1) ([Value.int .i64 (x.sl.getD (c.ae (IntKind.u32.wrap (aj x.w+0))) 0)]++[Value.int .i64 (x.sl.getD (c.ae (IntKind.u32.wrap (aj x.w+1))) 0)]++[Value.int .i64 (x.sl.getD (c.ae (IntKind.u32.wrap (aj x.w+2))) 0)]++[Value.int .i64 (x.sl.getD (c.ae (IntKind.u32.wrap (aj x.w+3))) 0)]++[Value.int .i64 (x.sl.getD (c.ae (IntKind.u32.wrap (aj x.w+4))) 0)]):=by simp only[show x.sl.getD (c.ae (IntKind.u32.wrap (aj x.w+0))) 0=bf c x 0 from bS 0,show x.sl.getD (c.ae (IntKind.u32.wrap (aj x.w+1))) 0=bf c x 1 from bS 1,show x.sl.getD (c.ae (IntKind.u32.wrap (aj x.w+2))) 0=bf c x 2 from bS 2,show x.sl.getD (c.ae (IntKind.u32.wrap (aj x.w+3))) 0=bf c x 3 from bS 3,show x.sl.getD (c.ae (IntKind.u32.wrap (aj x.w+4))) 0=bf c x 4 from bS 4];rfl
   rw[e1,e2]
   exact h2)
  exact⟨_,q1,rfl,q2⟩
 | 6,_ =>
  refine bh (Ra s hk) (by kernel_rfl) n1 (by simp) (by simp[s]) (λκ w1 h1=>?_);have h2:=(into h1).sel [0,1,2]
  obtain⟨q1,q2⟩:=fin _ w1 (by
   have e1:bj c x=[bf c x 0]++[bf c x 1]++[bf c x 2]++[bf c x 3]++[bf c x 4]++[bf c x 5]:=by rw[ea];rfl
   have e2:bJ (Ev.dec ((κ 467).getD 0)) ([bf c x 0]++[bf c x 1]++[bf c x 2]++[bf c x 3]++[bf c x 4]++[bf c x 5])=bT 3 1 (Ev.dec ((κ 467).getD 0)) (1+1+1+1+1+1) ([Value.int .i64 (x.sl.getD (c.ae (IntKind.u32.wrap (aj x.w+0))) 0)]++[Value.int .i64 (x.sl.getD (c.ae (IntKind.u32.wrap (aj x.w+1))) 0)]++[Value.int .i64 (x.sl.getD (c.ae (IntKind.u32.wrap (aj x.w+2))) 0)]++[Value.int .i64 (x.sl.getD (c.ae (IntKind.u32.wrap (aj x.w+3))) 0)]++[Value.int .i64 (x.sl.getD (c.ae (IntKind.u32.wrap (aj x.w+4))) 0)]++[Value.int .i64 (x.sl.getD (c.ae (IntKind.u32.wrap (aj x.w+5))) 0)]):=by simp only[show x.sl.getD (c.ae (IntKind.u32.wrap (aj x.w+0))) 0=bf c x 0 from bS 0,show x.sl.getD (c.ae (IntKind.u32.wrap (aj x.w+1))) 0=bf c x 1 from bS 1,show x.sl.getD (c.ae (IntKind.u32.wrap (aj x.w+2))) 0=bf c x 2 from bS 2,show x.sl.getD (c.ae (IntKind.u32.wrap (aj x.w+3))) 0=bf c x 3 from bS 3,show x.sl.getD (c.ae (IntKind.u32.wrap (aj x.w+4))) 0=bf c x 4 from bS 4,show x.sl.getD (c.ae (IntKind.u32.wrap (aj x.w+5))) 0=bf c x 5 from bS 5];rfl
   rw[e1,e2]
   exact h2)
  exact⟨_,q1,rfl,q2⟩
 | 7,_ =>
  refine bh (Rb s hk) (by kernel_rfl) n1 (by simp) (by simp[s]) (λκ w1 h1=>?_);have h2:=(into h1).sel [0,1,2]
  obtain⟨q1,q2⟩:=fin _ w1 (by
   have e1:bj c x=[bf c x 0]++[bf c x 1]++[bf c x 2]++[bf c x 3]++[bf c x 4]++[bf c x 5]++[bf c x 6]:=by rw[ea];rfl
   have e2:bJ (Ev.dec ((κ 475).getD 0)) ([bf c x 0]++[bf c x 1]++[bf c x 2]++[bf c x 3]++[bf c x 4]++[bf c x 5]++[bf c x 6])=bT 3 1 (Ev.dec ((κ 475).getD 0)) (1+1+1+1+1+1+1) ([Value.int .i64 (x.sl.getD (c.ae (IntKind.u32.wrap (aj x.w+0))) 0)]++[Value.int .i64 (x.sl.getD (c.ae (IntKind.u32.wrap (aj x.w+1))) 0)]++[Value.int .i64 (x.sl.getD (c.ae (IntKind.u32.wrap (aj x.w+2))) 0)]++[Value.int .i64 (x.sl.getD (c.ae (IntKind.u32.wrap (aj x.w+3))) 0)]++[Value.int .i64 (x.sl.getD (c.ae (IntKind.u32.wrap (aj x.w+4))) 0)]++[Value.int .i64 (x.sl.getD (c.ae (IntKind.u32.wrap (aj x.w+5))) 0)]++[Value.int .i64 (x.sl.getD (c.ae (IntKind.u32.wrap (aj x.w+6))) 0)]):=by simp only[show x.sl.getD (c.ae (IntKind.u32.wrap (aj x.w+0))) 0=bf c x 0 from bS 0,show x.sl.getD (c.ae (IntKind.u32.wrap (aj x.w+1))) 0=bf c x 1 from bS 1,show x.sl.getD (c.ae (IntKind.u32.wrap (aj x.w+2))) 0=bf c x 2 from bS 2,show x.sl.getD (c.ae (IntKind.u32.wrap (aj x.w+3))) 0=bf c x 3 from bS 3,show x.sl.getD (c.ae (IntKind.u32.wrap (aj x.w+4))) 0=bf c x 4 from bS 4,show x.sl.getD (c.ae (IntKind.u32.wrap (aj x.w+5))) 0=bf c x 5 from bS 5,show x.sl.getD (c.ae (IntKind.u32.wrap (aj x.w+6))) 0=bf c x 6 from bS 6];rfl
   rw[e1,e2]
   exact h2)
  exact⟨_,q1,rfl,q2⟩
 | 8,_ =>
  refine bh (Rc s hk) (by kernel_rfl) n1 (by simp) (by simp[s]) (λκ w1 h1=>?_);have h2:=(into h1).sel [0,1,2]
  obtain⟨q1,q2⟩:=fin _ w1 (by
   have e1:bj c x=[bf c x 0]++[bf c x 1]++[bf c x 2]++[bf c x 3]++[bf c x 4]++[bf c x 5]++[bf c x 6]++[bf c x 7]:=by rw[ea];rfl
   have e2:bJ (Ev.dec ((κ 483).getD 0)) ([bf c x 0]++[bf c x 1]++[bf c x 2]++[bf c x 3]++[bf c x 4]++[bf c x 5]++[bf c x 6]++[bf c x 7])=bT 3 1 (Ev.dec ((κ 483).getD 0)) (1+1+1+1+1+1+1+1) ([Value.int .i64 (x.sl.getD (c.ae (IntKind.u32.wrap (aj x.w+0))) 0)]++[Value.int .i64 (x.sl.getD (c.ae (IntKind.u32.wrap (aj x.w+1))) 0)]++[Value.int .i64 (x.sl.getD (c.ae (IntKind.u32.wrap (aj x.w+2))) 0)]++[Value.int .i64 (x.sl.getD (c.ae (IntKind.u32.wrap (aj x.w+3))) 0)]++[Value.int .i64 (x.sl.getD (c.ae (IntKind.u32.wrap (aj x.w+4))) 0)]++[Value.int .i64 (x.sl.getD (c.ae (IntKind.u32.wrap (aj x.w+5))) 0)]++[Value.int .i64 (x.sl.getD (c.ae (IntKind.u32.wrap (aj x.w+6))) 0)]++[Value.int .i64 (x.sl.getD (c.ae (IntKind.u32.wrap (aj x.w+7))) 0)]):=by simp only[show x.sl.getD (c.ae (IntKind.u32.wrap (aj x.w+0))) 0=bf c x 0 from bS 0,show x.sl.getD (c.ae (IntKind.u32.wrap (aj x.w+1))) 0=bf c x 1 from bS 1,show x.sl.getD (c.ae (IntKind.u32.wrap (aj x.w+2))) 0=bf c x 2 from bS 2,show x.sl.getD (c.ae (IntKind.u32.wrap (aj x.w+3))) 0=bf c x 3 from bS 3,show x.sl.getD (c.ae (IntKind.u32.wrap (aj x.w+4))) 0=bf c x 4 from bS 4,show x.sl.getD (c.ae (IntKind.u32.wrap (aj x.w+5))) 0=bf c x 5 from bS 5,show x.sl.getD (c.ae (IntKind.u32.wrap (aj x.w+6))) 0=bf c x 6 from bS 6,show x.sl.getD (c.ae (IntKind.u32.wrap (aj x.w+7))) 0=bf c x 7 from bS 7];rfl
   rw[e1,e2]
   exact h2)
  exact⟨_,q1,rfl,q2⟩
end
end Go.Proofs.YtkmccgombmogmaaGreat
namespace Go.Proofs.YtkmccgombmogmaaGreat
open Go.Ev Go.Proofs.Tryz
open Go.RowKit
open Go.Ev (sy iz uz wz iN uN wN pz dv fc fn ak vk vd kn pc cc cr cm cd fr)
set_option maxRecDepth 8000
attribute [local irreducible] kA
def lJ(c:aU)(p:Nat)(x:gu)(v:Value):aF where
 p:=λι F w=>∃ bp,v=.pointer (some ⟨bp,0,none⟩)/\(ez c p bp x).p ι F w
 keep:=λι F w w' hk ⟨bp,e,h⟩=>⟨bp,e,(ez c p bp x).keep ι F w w' hk h⟩
 mono:=λι κ F w hle ⟨bp,e,h⟩=>⟨bp,e,(ez c p bp x).mono ι κ F w hle h⟩
structure TP where
 W0:World
 F0:Nat->Prop
 c:aU
 p:Nat
 v:Nat
 hp:p<c.n
 hv:v<c.n
 w:Int
 hw:fv w
 bv:Value
 fi:aT bv=true
 bt:List Int
 hbt:bt.length<=64
 bp:Nat
 bm:Nat
 bl:Nat
 m:bO
 hl:m.cells.length=4+c.off c.n
theorem uH(s:TP){ly:gu}(hlo:km ly)(hl0:ly.st≠0)(hmo:bY s.c s.m){b:Bool}(hd:decide ((az s.c s.p ly s.m).1.st=0)=b){F:Nat->Prop}{w:World}(h:cL [ez s.c s.p s.bl ly,aN s.bm s.m] F w) :
  Calls prog 170 #[.pointer (some ⟨s.bl,0,none⟩),.pointer (some ⟨s.bm,0,none⟩)] w λe w'=>e=.returned (.bool b)/\af ⟨w,F⟩ [ez s.c s.p s.bl (az s.c s.p ly s.m).1,aN s.bm (az s.c s.p ly s.m).2] w':=by
 rw[← hd];exact Hh s.hp hlo hl0 hmo h
theorem iT{n:Int}(h:0<=n/\n<4294967296):0<=cJ n/\cJ n<4294967296:=by unfold cJ;omega
theorem y_(s:TP){F:Nat->Prop}{w:World}(hb1:0<s.bt.length)(hg:∀ g ∈ s.bt,0<=g)(h:cL [bT 3 1 s.bv s.bt.length (aX s.bt)] F w) :
  Calls prog 172 #[s.c.v,.int .i64 (s.p:Int),Ev.cutV 1 (iC s.bv) 1 s.bt.length] w λe w'=>∃ u cd,Ev.dec cd=u/\e=.returned u/\af ⟨w,F⟩ [lJ s.c s.p ⟨1,0,0,0,s.bt.drop 1⟩ u,bT 3 1 s.bv s.bt.length (aX s.bt)] w':=by
 obtain⟨Fa,h1,h2⟩:=k_ h;have h3:=(dT.ro (dT.full h1 hb1)).cut (lo:=1) (hi:=s.bt.length) hb1 (Nat.le_refl _);have e1:((aX s.bt).drop (1*1)).take ((s.bt.length-1)*1)=aX (s.bt.drop 1):=by
  rw[Nat.mul_one,Nat.mul_one,uF,List.take_of_length_le (by simp[aX])]
 rw[e1]at h3;have e2:(s.bt.drop 1).length=s.bt.length-1:=List.length_drop;rw[← e2]at h3;refine(Km s.hp h3 (λg hm=>hg g (List.mem_of_mem_drop hm)) (by have:=s.hbt;omega) h).mono ?_;rintro e w' ⟨b,rfl,hh⟩;exact⟨_,_,qG _ _,rfl,hh.head (λF h=>⟨b,rfl,h⟩)⟩
abbrev LJ(s:TP):Value:=(.agg #[iN s.c.n,iN s.c.q,iz s.c.g,iz s.c.m,iz s.c.t,iz s.c.s])
abbrev Hn:List iA:=[(4,[sy 11,sy 1,sy 12,sy 13,sy 14,sy 15,.pointer none,sy 16,sy 17,iz 1,sy 18,sy 0,iz 0],156)]
abbrev LK:List iA:=[(4,[sy 11,sy 1,sy 12,sy 13,sy 14,sy 15,.pointer none,sy 16,sy 17,iz 0,sy 21,.complex .f32 407 0,iz 0],156)]
abbrev uI:List (Nat×Value):=[(0,.pointer (some ⟨4,0,none⟩)),(1,sy 19)]
abbrev fV(s:TP):aF:=bT 3 1 (s.bv) (s.bt.length) (aX s.bt)
abbrev qr(s:TP):List aF:=[aN s.bm s.m,fV s]
abbrev uJ(s:TP):List aF:=[aN s.bm s.m.tick,fV s]
abbrev Ho(s:TP):List aF:=[aN s.bm s.m.tick,fV s,jS 407 (λv=>bT 3 1 v 0 [])]
abbrev nk(s:TP):List (Nat×Value):=[(0,pz s.bp),(1,pz s.bm)]
abbrev A0(s:TP):List aF:=[aE s.bp [iN s.c.n,iN s.c.q,iz s.c.g,iz s.c.m,iz s.c.t,iz s.c.s,(.pointer none),iN s.p,iN s.v,iz 1,uz s.w,s.bv,iz 0] 156,aN s.bm s.m,fV s]
abbrev Hp:List iA:=[(4,[sy 11,sy 1,sy 12,sy 13,sy 14,sy 15,.pointer none,sy 16,sy 17,iz 2,sy 18,sy 0,iz 0],156)]
abbrev Hq(s:TP)(x:Int):List aF:=[aN s.bm s.m.tick,jS 411 (λv=>bT 3 1 v (s.bt.length+1) ((aX s.bt)++[(iz (IntKind.i64.wrap (x)))]))]
abbrev Hr(s:TP):List aF:=[aE s.bp [iN s.c.n,iN s.c.q,iz s.c.g,iz s.c.m,iz s.c.t,iz s.c.s,(.pointer none),iN s.p,iN s.v,iz 2,uz s.w,s.bv,iz 0] 156,aN s.bm s.m,fV s]
abbrev A4(s:TP):List aF:=[aE s.bp [iN s.c.n,iN s.c.q,iz s.c.g,iz s.c.m,iz s.c.t,iz s.c.s,(.pointer none),iN s.p,iN s.v,iz 3,uz s.w,s.bv,iz 0] 156,aN s.bm s.m,fV s]
abbrev Hs:List iA:=[(4,[sy 13,sy 3,sy 14,sy 15,sy 16,sy 17,.pointer none,sy 18,sy 19,iz 3,sy 20,sy 0,iz 0],156)]
abbrev wO:List (Nat×Value):=[(0,.pointer (some ⟨4,0,none⟩)),(1,sy 21)]
abbrev wP(s:TP):aF:=aN s.bm (s.m.put (s.c.word s.v) (fM s.w (cJ (aW s.w))))
abbrev Ht(s:TP):List aF:=[wP s,fV s]
abbrev Hu(s:TP):List aF:=[jS 407 (λv=>lJ s.c s.p ⟨1,0,0,0,s.bt.drop 1⟩ v),fV s,wP s]
abbrev A5:List iA:=[(4,[sy 11,sy 1,sy 12,sy 13,sy 14,sy 15,sy 16,sy 17,sy 18,iz 4,sy 19,sy 0,sy 20],156)]
abbrev Hv(s:TP)(ly:gu):List aF:=[ez s.c s.p s.bl (az s.c s.p ly s.m).1,aN s.bm ((az s.c s.p ly s.m).2),fV s]
abbrev Hw(s:TP)(mn:Nat):aF:=aE s.bp [iN s.c.n,iN s.c.q,iz s.c.g,iz s.c.m,iz s.c.t,iz s.c.s,pz s.bl,iN s.p,iN s.v,iz 4,uz s.w,s.bv,iN mn] 156
abbrev Hx(s:TP)(ly:gu)(mn:Nat):List aF:=[(Hw s mn),aN s.bm s.m,fV s,ez s.c s.p s.bl ly]
theorem Tg(s:TP)(x:Int)(hxu:fv x)(hxa:s.m.cells[s.c.word s.v]? = some x)(h1:(aW (x))=0):cw prog 166 [] 0 43 ⟨s.W0,s.F0⟩ (nk s) (A0 s) (λκ:am=>(.bool true)) (λκ:am=>[aE s.bp [iN s.c.n,iN s.c.q,iz s.c.g,iz s.c.m,iz s.c.t,iz s.c.s,(.pointer none),iN s.p,iN s.v,iz 0,uz x,dv κ 407,iz 0] 156,aN s.bm s.m.tick,fV s,bT 3 1 (dv κ 407) 0 []]):=by have q0:=s.c.z s.hv;have q6:=s.hl;have q7:=s.hbt;exact(eP (c:=⟨s.W0,s.F0⟩) 7 (kn [s.bv,iN (s.c.q),iN (s.c.q / 2),wN (s.c.q / 2),wN (s.c.q),wz (cJ (aW s.w)),iz (cJ (aW s.w)),iN (s.bt.length),wN (s.bt.length),wz (aj (s.w)),wz (IntKind.u32.wrap (aj s.w+((s.bt.length:Nat):Int))),iN (s.c.n),iz (s.c.g),iz (s.c.m),iz (s.c.t),iz (s.c.s),iN (s.p),iN (s.v),uz (s.w),pz s.bm,iN (s.c.word s.v),uz (x),wz (aW (x))] (fc s.fi fr) [(.eql,sy 22,.int .u32 0,.bool true)] [] [] (fc (λ_ _ _=>cZ (by first|(simpa using h1)|(simp;omega))) fn) fn fn s.W0 s.F0 [qr s,uJ s,Ho s] [⟨[19,35],[iz 0,sy 1],none,1,some 407,.complex .f32 407 0,some 2⟩] [⟨40,[.agg #[sy 11,sy 1,sy 12,sy 13,sy 14,sy 15],sy 17],0,none,sy 20,none⟩,⟨150,[sy 19,sy 20],0,none,sy 21,some 1⟩,⟨42,[sy 21],2,none,sy 22,none⟩]) (fc (by obtain⟨i,i1,i2,i3,i4⟩:=b_;exact sg rfl rfl (g_ rfl) underlying35 i1 i2 i3 rfl (by rw[i4];omega) (by unfold maxLen;omega)) fn) (fc (pc rfl (λw hb=>cM s.c s.v s.hv w)) (fc (cc rfl [aN s.bm s.m.tick] [0] [1] (λw F ho hn hF=>dk hn hxa (fK hxa (by omega)))) (fc (pc (args:=[uz x]) rfl (λw hb=>ag (cG _ hxu w))) fn))) rfl [(4,s.bp)] Hn LK 2 rfl rfl uI (.bool true)).conv (λκ w=>⟨(λ_ h=>h),(λ_ h=>h),(λ_ h=>h),(λ_ h=>fJ (a:=λv=>bT 3 1 v 0 []) (λ_ _ _ _ _ h=>h) h),trivial⟩)
theorem Ti(s:TP)(x:Int)(hxu:fv x)(hxa:s.m.cells[s.c.word s.v]? = some x)(h1:¬ (aW (x))=0)(h2:(aW (x))>((s.c.q:Nat):Int)):cw prog 166 [] 0 43 ⟨s.W0,s.F0⟩ (nk s) (A0 s) (λκ:am=>(.bool true)) (λκ:am=>[aE s.bp [iN s.c.n,iN s.c.q,iz s.c.g,iz s.c.m,iz s.c.t,iz s.c.s,(.pointer none),iN s.p,iN s.v,iz 0,uz x,dv κ 407,iz 0] 156,aN s.bm s.m.tick,fV s,bT 3 1 (dv κ 407) 0 []]):=by have q0:=s.c.z s.hv;have q6:=s.hl;have q7:=s.hbt;exact(eP (c:=⟨s.W0,s.F0⟩) 7 (kn [s.bv,iN (s.c.q),iN (s.c.q / 2),wN (s.c.q / 2),wN (s.c.q),wz (cJ (aW s.w)),iz (cJ (aW s.w)),iN (s.bt.length),wN (s.bt.length),wz (aj (s.w)),wz (IntKind.u32.wrap (aj s.w+((s.bt.length:Nat):Int))),iN (s.c.n),iz (s.c.g),iz (s.c.m),iz (s.c.t),iz (s.c.s),iN (s.p),iN (s.v),uz (s.w),pz s.bm,iN (s.c.word s.v),uz (x),wz (aW (x))] (fc s.fi fr) [(.eql,sy 22,.int .u32 0,.bool false),(.gtr,sy 22,sy 4,.bool true)] [] [(.u32,sy 1,sy 4)] (fc (λ_ _ _=>cZ (by first|(simpa using h1)|(simp;omega))) (fc (λ_ _ _=>ip (by first|(simpa using h2)|(simp;omega))) fn)) fn (fc (cF rfl rfl (by have q2:=s.c.qb;rw[cy];omega)) fn) s.W0 s.F0 [qr s,uJ s,Ho s] [⟨[19,35],[iz 0,sy 1],none,1,some 407,.complex .f32 407 0,some 2⟩] [⟨40,[.agg #[sy 11,sy 1,sy 12,sy 13,sy 14,sy 15],sy 17],0,none,sy 20,none⟩,⟨150,[sy 19,sy 20],0,none,sy 21,some 1⟩,⟨42,[sy 21],2,none,sy 22,none⟩]) (fc (by obtain⟨i,i1,i2,i3,i4⟩:=b_;exact sg rfl rfl (g_ rfl) underlying35 i1 i2 i3 rfl (by rw[i4];omega) (by unfold maxLen;omega)) fn) (fc (pc rfl (λw hb=>cM s.c s.v s.hv w)) (fc (cc rfl [aN s.bm s.m.tick] [0] [1] (λw F ho hn hF=>dk hn hxa (fK hxa (by omega)))) (fc (pc (args:=[uz x]) rfl (λw hb=>ag (cG _ hxu w))) fn))) rfl [(4,s.bp)] Hn LK 2 rfl rfl uI (.bool true)).conv (λκ w=>⟨(λ_ h=>h),(λ_ h=>h),(λ_ h=>h),(λ_ h=>fJ (a:=λv=>bT 3 1 v 0 []) (λ_ _ _ _ _ h=>h) h),trivial⟩)
theorem Tj(s:TP)(x:Int)(hxu:fv x)(hxa:s.m.cells[s.c.word s.v]? = some x)(h1:¬ (aW (x))=0)(h2:¬ (aW (x))>((s.c.q:Nat):Int)):cw prog 166 [] 0 43 ⟨s.W0,s.F0⟩ (nk s) (A0 s) (λκ:am=>(.bool false)) (λκ:am=>[aE s.bp [iN s.c.n,iN s.c.q,iz s.c.g,iz s.c.m,iz s.c.t,iz s.c.s,(.pointer none),iN s.p,iN s.v,iz 2,uz x,dv κ 407,iz 0] 156,aN s.bm s.m.tick,fV s,bT 3 1 (dv κ 407) 0 []]):=by have q0:=s.c.z s.hv;have q6:=s.hl;have q7:=s.hbt;exact(eP (c:=⟨s.W0,s.F0⟩) 7 (kn [s.bv,iN (s.c.q),iN (s.c.q / 2),wN (s.c.q / 2),wN (s.c.q),wz (cJ (aW s.w)),iz (cJ (aW s.w)),iN (s.bt.length),wN (s.bt.length),wz (aj (s.w)),wz (IntKind.u32.wrap (aj s.w+((s.bt.length:Nat):Int))),iN (s.c.n),iz (s.c.g),iz (s.c.m),iz (s.c.t),iz (s.c.s),iN (s.p),iN (s.v),uz (s.w),pz s.bm,iN (s.c.word s.v),uz (x),wz (aW (x))] (fc s.fi fr) [(.eql,sy 22,.int .u32 0,.bool false),(.gtr,sy 22,sy 4,.bool false)] [] [(.u32,sy 1,sy 4)] (fc (λ_ _ _=>cZ (by first|(simpa using h1)|(simp;omega))) (fc (λ_ _ _=>ip (by first|(simpa using h2)|(simp;omega))) fn)) fn (fc (cF rfl rfl (by have q2:=s.c.qb;rw[cy];omega)) fn) s.W0 s.F0 [qr s,uJ s,Ho s] [⟨[19,35],[iz 0,sy 1],none,1,some 407,.complex .f32 407 0,some 2⟩] [⟨40,[.agg #[sy 11,sy 1,sy 12,sy 13,sy 14,sy 15],sy 17],0,none,sy 20,none⟩,⟨150,[sy 19,sy 20],0,none,sy 21,some 1⟩,⟨42,[sy 21],2,none,sy 22,none⟩]) (fc (by obtain⟨i,i1,i2,i3,i4⟩:=b_;exact sg rfl rfl (g_ rfl) underlying35 i1 i2 i3 rfl (by rw[i4];omega) (by unfold maxLen;omega)) fn) (fc (pc rfl (λw hb=>cM s.c s.v s.hv w)) (fc (cc rfl [aN s.bm s.m.tick] [0] [1] (λw F ho hn hF=>dk hn hxa (fK hxa (by omega)))) (fc (pc (args:=[uz x]) rfl (λw hb=>ag (cG _ hxu w))) fn))) rfl [(4,s.bp)] Hn [(4,[sy 11,sy 1,sy 12,sy 13,sy 14,sy 15,.pointer none,sy 16,sy 17,iz 2,sy 21,.complex .f32 407 0,iz 0],156)] 2 rfl rfl uI (.bool false)).conv (λκ w=>⟨(λ_ h=>h),(λ_ h=>h),(λ_ h=>h),(λ_ h=>fJ (a:=λv=>bT 3 1 v 0 []) (λ_ _ _ _ _ h=>h) h),trivial⟩)
theorem std(s:TP)(x:Int)(hxu:fv x)(hxa:s.m.cells[s.c.slot s.v (IntKind.u32.wrap (aj s.w+((s.bt.length:Nat):Int)))]? = some x)(h1:((s.bt.length+1:Nat):Int)=(cJ (aW s.w))):cw prog 166 [] 0 43 ⟨s.W0,s.F0⟩ (nk s) (Hr s) (λκ:am=>(.bool false)) (λκ:am=>[aE s.bp [iN s.c.n,iN s.c.q,iz s.c.g,iz s.c.m,iz s.c.t,iz s.c.s,(.pointer none),iN s.p,iN s.v,iz 3,uz s.w,dv κ 411,iz 0] 156,aN s.bm s.m.tick,bT 3 1 (dv κ 411) (s.bt.length+1) ((aX s.bt)++[(iz (IntKind.i64.wrap (x)))])]):=by have q0:=s.c.z s.hv;have q6:=s.hl;have q7:=s.hbt;obtain⟨i,i1,i2,i3,i4⟩:=b_;exact(eP (c:=⟨s.W0,s.F0⟩) 7 (kn [s.bv,iN (s.c.q),iN (s.c.q / 2),wN (s.c.q / 2),wN (s.c.q),wz (cJ (aW s.w)),iz (cJ (aW s.w)),iN (s.bt.length),wN (s.bt.length),wz (aj (s.w)),wz (IntKind.u32.wrap (aj s.w+((s.bt.length:Nat):Int))),iN (s.c.n),iz (s.c.g),iz (s.c.m),iz (s.c.t),iz (s.c.s),iN (s.p),iN (s.v),uz (s.w),pz s.bm,iN (s.c.slot s.v (IntKind.u32.wrap (aj s.w+((s.bt.length:Nat):Int)))),uz (x),iz (IntKind.i64.wrap (x)),iN (s.bt.length+1),wz (aW (s.w))] (fc s.fi fr) [(.add,sy 9,sy 8,sy 10),(.eql,sy 23,sy 6,.bool true)] [] [(.u32,sy 7,sy 8),(.i64,sy 21,sy 22),(.i64,sy 5,sy 6)] (fc (λ_ _ _=>aQ rfl) (fc (λ_ _ _=>cZ (by first|(simpa using h1)|(simp;omega))) fn)) fn (fc (cF rfl rfl (by rw[cy];omega)) (fc ⟨.u64,_,rfl,rfl⟩ (fc (cF rfl rfl (by have:=iT (cD s.w);exact bx (by omega) (by omega))) fn))) s.W0 s.F0 [qr s,uJ s,(Hq s x)] [⟨[10,35],[sy 0],none,0,none,sy 7,none⟩,⟨[11,35,35],[sy 0],some (1,1,[sy 22]),1,some 411,.complex .f32 411 0,some 2⟩,⟨[10,35],[.complex .f32 411 0],none,2,none,sy 23,none⟩] [⟨73,[sy 18],0,none,sy 9,none⟩,⟨43,[.agg #[sy 11,sy 1,sy 12,sy 13,sy 14,sy 15],sy 17,sy 10],0,none,sy 20,none⟩,⟨150,[sy 19,sy 20],0,none,sy 21,some 1⟩,⟨42,[sy 18],2,none,sy 24,none⟩,⟨117,[sy 24],2,none,sy 5,none⟩]) (fc (by exact bC (ci:=2) rfl rfl underlying35 i2 rfl rfl) (fc (by exact kf (ci:=2) (m:=1) (cs:=[(iz (IntKind.i64.wrap (x)))]) rfl rfl rfl underlying35 underlying35 i1 i2 (by omega) i3 (by rw[i2];rfl) (by rw[i4];omega) (by omega) rfl rfl (ak (by kernel_rfl) (by kernel_rfl))) (fc (by exact qR (ci:=2) rfl rfl underlying35 i2 rfl) fn))) (fc (pc (args:=[uz s.w]) rfl (λw hb=>ag (cC _ s.hw w))) (fc (pc (args:=[LJ s,iN s.v,(wz (IntKind.u32.wrap (aj s.w+((s.bt.length:Nat):Int))))]) rfl (λw hb=>iO s.c s.v s.hv (IntKind.u32.wrap (aj s.w+((s.bt.length:Nat):Int))) (by first | exact lh _ | exact(bR s.hw).1) w)) (fc (cc rfl [aN s.bm s.m.tick] [0] [1] (λw F ho hn hF=>dk hn hxa (fK hxa (by omega)))) (fc (pc (args:=[uz s.w]) rfl (λw hb=>ag (cG _ s.hw w))) (fc (pc (args:=[(wz (aW (s.w)))]) rfl (λw hb=>ag (pV _ (cD _) w))) fn))))) rfl [(4,s.bp)] Hp [(4,[sy 11,sy 1,sy 12,sy 13,sy 14,sy 15,.pointer none,sy 16,sy 17,iz 3,sy 18,.complex .f32 411 0,iz 0],156)] 2 rfl rfl uI (.bool false)).conv (λκ w=>⟨(λ_ h=>h),(λ_ h=>h),(λ_ h=>fJ (a:=λv=>bT 3 1 v (s.bt.length+1) ((aX s.bt)++[(iz (IntKind.i64.wrap (x)))])) (λ_ _ _ _ _ h=>h) h),trivial⟩)
theorem Tk(s:TP)(x:Int)(hxu:fv x)(hxa:s.m.cells[s.c.slot s.v (IntKind.u32.wrap (aj s.w+((s.bt.length:Nat):Int)))]? = some x)(h1:¬ ((s.bt.length+1:Nat):Int)=(cJ (aW s.w))):cw prog 166 [] 0 43 ⟨s.W0,s.F0⟩ (nk s) (Hr s) (λκ:am=>(.bool false)) (λκ:am=>[aE s.bp [iN s.c.n,iN s.c.q,iz s.c.g,iz s.c.m,iz s.c.t,iz s.c.s,(.pointer none),iN s.p,iN s.v,iz 2,uz s.w,dv κ 411,iz 0] 156,aN s.bm s.m.tick,bT 3 1 (dv κ 411) (s.bt.length+1) ((aX s.bt)++[(iz (IntKind.i64.wrap (x)))])]):=by have q0:=s.c.z s.hv;have q6:=s.hl;have q7:=s.hbt;obtain⟨i,i1,i2,i3,i4⟩:=b_;exact(eP (c:=⟨s.W0,s.F0⟩) 7 (kn [s.bv,iN (s.c.q),iN (s.c.q / 2),wN (s.c.q / 2),wN (s.c.q),wz (cJ (aW s.w)),iz (cJ (aW s.w)),iN (s.bt.length),wN (s.bt.length),wz (aj (s.w)),wz (IntKind.u32.wrap (aj s.w+((s.bt.length:Nat):Int))),iN (s.c.n),iz (s.c.g),iz (s.c.m),iz (s.c.t),iz (s.c.s),iN (s.p),iN (s.v),uz (s.w),pz s.bm,iN (s.c.slot s.v (IntKind.u32.wrap (aj s.w+((s.bt.length:Nat):Int)))),uz (x),iz (IntKind.i64.wrap (x)),iN (s.bt.length+1),wz (aW (s.w))] (fc s.fi fr) [(.add,sy 9,sy 8,sy 10),(.eql,sy 23,sy 6,.bool false)] [] [(.u32,sy 7,sy 8),(.i64,sy 21,sy 22),(.i64,sy 5,sy 6)] (fc (λ_ _ _=>aQ rfl) (fc (λ_ _ _=>cZ (by first|(simpa using h1)|(simp;omega))) fn)) fn (fc (cF rfl rfl (by rw[cy];omega)) (fc ⟨.u64,_,rfl,rfl⟩ (fc (cF rfl rfl (by have:=iT (cD s.w);exact bx (by omega) (by omega))) fn))) s.W0 s.F0 [qr s,uJ s,(Hq s x)] [⟨[10,35],[sy 0],none,0,none,sy 7,none⟩,⟨[11,35,35],[sy 0],some (1,1,[sy 22]),1,some 411,.complex .f32 411 0,some 2⟩,⟨[10,35],[.complex .f32 411 0],none,2,none,sy 23,none⟩] [⟨73,[sy 18],0,none,sy 9,none⟩,⟨43,[.agg #[sy 11,sy 1,sy 12,sy 13,sy 14,sy 15],sy 17,sy 10],0,none,sy 20,none⟩,⟨150,[sy 19,sy 20],0,none,sy 21,some 1⟩,⟨42,[sy 18],2,none,sy 24,none⟩,⟨117,[sy 24],2,none,sy 5,none⟩]) (fc (by exact bC (ci:=2) rfl rfl underlying35 i2 rfl rfl) (fc (by exact kf (ci:=2) (m:=1) (cs:=[(iz (IntKind.i64.wrap (x)))]) rfl rfl rfl underlying35 underlying35 i1 i2 (by omega) i3 (by rw[i2];rfl) (by rw[i4];omega) (by omega) rfl rfl (ak (by kernel_rfl) (by kernel_rfl))) (fc (by exact qR (ci:=2) rfl rfl underlying35 i2 rfl) fn))) (fc (pc (args:=[uz s.w]) rfl (λw hb=>ag (cC _ s.hw w))) (fc (pc (args:=[LJ s,iN s.v,(wz (IntKind.u32.wrap (aj s.w+((s.bt.length:Nat):Int))))]) rfl (λw hb=>iO s.c s.v s.hv (IntKind.u32.wrap (aj s.w+((s.bt.length:Nat):Int))) (by first | exact lh _ | exact(bR s.hw).1) w)) (fc (cc rfl [aN s.bm s.m.tick] [0] [1] (λw F ho hn hF=>dk hn hxa (fK hxa (by omega)))) (fc (pc (args:=[uz s.w]) rfl (λw hb=>ag (cG _ s.hw w))) (fc (pc (args:=[(wz (aW (s.w)))]) rfl (λw hb=>ag (pV _ (cD _) w))) fn))))) rfl [(4,s.bp)] Hp [(4,[sy 11,sy 1,sy 12,sy 13,sy 14,sy 15,.pointer none,sy 16,sy 17,iz 2,sy 18,.complex .f32 411 0,iz 0],156)] 2 rfl rfl uI (.bool false)).conv (λκ w=>⟨(λ_ h=>h),(λ_ h=>h),(λ_ h=>fJ (a:=λv=>bT 3 1 v (s.bt.length+1) ((aX s.bt)++[(iz (IntKind.i64.wrap (x)))])) (λ_ _ _ _ _ h=>h) h),trivial⟩)
theorem Tl(s:TP)(x:Int)(hxu:fv x)(hxa:s.m.cells[s.c.word s.v]? = some x)(hc:x≠s.w):cw prog 166 [] 0 43 ⟨s.W0,s.F0⟩ (nk s) (A4 s) (λκ:am=>(.bool false)) (λκ:am=>[aE s.bp [iN s.c.n,iN s.c.q,iz s.c.g,iz s.c.m,iz s.c.t,iz s.c.s,(.pointer none),iN s.p,iN s.v,iz 1,uz s.w,.slice none 0 0,iz 0] 156,aN s.bm s.m.tick,fV s]):=(eP (c:=⟨s.W0,s.F0⟩) 7 (kn [s.bv,iN (s.c.q),iN (s.c.q / 2),wN (s.c.q / 2),wN (s.c.q),wz (cJ (aW s.w)),iz (cJ (aW s.w)),iN (s.bt.length),wN (s.bt.length),wz (aj (s.w)),wz (IntKind.u32.wrap (aj s.w+((s.bt.length:Nat):Int))),iN (s.c.n),iz (s.c.g),iz (s.c.m),iz (s.c.t),iz (s.c.s),iN (s.p),iN (s.v),uz (s.w),pz s.bm,iN (s.c.word s.v),wz (aW (s.w)),uz (fM s.w (cJ (aW s.w)))] (fc s.fi fr) [] [] [(.i64,sy 5,sy 6),(.u32,sy 6,sy 5)] fn fn (fc (cF rfl rfl (by have:=iT (cD s.w);exact bx (by omega) (by omega))) (fc (cF rfl rfl (by have:=iT (cD s.w);rw[cy];omega)) fn)) s.W0 s.F0 [qr s,uJ s] [] [⟨40,[.agg #[sy 11,sy 1,sy 12,sy 13,sy 14,sy 15],sy 17],0,none,sy 20,none⟩,⟨42,[sy 18],0,none,sy 21,none⟩,⟨117,[sy 21],0,none,sy 5,none⟩,⟨115,[sy 18,sy 5],0,none,sy 22,none⟩,⟨154,[sy 19,sy 20,sy 18,sy 22],0,none,.bool false,some 1⟩]) fn (fc (pc rfl (λw hb=>cM s.c s.v s.hv w)) (fc (pc (args:=[uz s.w]) rfl (λw hb=>ag (cG _ s.hw w))) (fc (pc (args:=[(wz (aW (s.w)))]) rfl (λw hb=>ag (pV _ (cD _) w))) (fc (pc (args:=[uz s.w,(wz (cJ (aW s.w)))]) rfl (λw hb=>ag (uy _ (cJ (aW s.w)) s.hw w))) (fc (cc rfl [aN s.bm s.m.tick] [0] [1] (λw F ho hn hF=>oO hn hxa (by have q0:=s.c.z s.hv;have q6:=s.hl;have q7:=s.hbt;omega) s.w (fM s.w (cJ (aW s.w))) hc)) fn))))) rfl [(4,s.bp)] [(4,[sy 11,sy 1,sy 12,sy 13,sy 14,sy 15,.pointer none,sy 16,sy 17,iz 3,sy 18,sy 0,iz 0],156)] [(4,[sy 11,sy 1,sy 12,sy 13,sy 14,sy 15,.pointer none,sy 16,sy 17,iz 1,sy 18,.slice none 0 0,iz 0],156)] 1 rfl rfl uI (.bool false))
theorem Tn(s:TP)(x:Int)(hxu:fv x)(hxa:s.m.cells[s.c.word s.v]? = some x)(hc:x=s.w)(hb1:0<s.bt.length)(hg:∀ g ∈ s.bt,0<=g)(h1:((s.bt.length:Nat):Int)=1):cw prog 166 [] 0 43 ⟨s.W0,s.F0⟩ (nk s) (A4 s) (λκ:am=>(.bool true)) (λκ:am=>[aE s.bp [iN s.c.n,iN s.c.q,iz s.c.g,iz s.c.m,iz s.c.t,iz s.c.s,dv κ 407,iN s.p,iN s.v,iz 0,uz s.w,(iC (s.bv)),iN s.bt.length] 156,lJ s.c s.p ⟨1,0,0,0,s.bt.drop 1⟩ (dv κ 407),fV s,wP s]):=by have q0:=s.c.z s.hv;have q6:=s.hl;have q7:=s.hbt;obtain⟨i,i1,i2,i3,i4⟩:=b_;exact(eP (c:=⟨s.W0,s.F0⟩) 7 (kn [s.bv,iC (s.bv),Ev.cutV 1 (iC (s.bv)) 1 (s.bt.length),iN (s.c.q),iN (s.c.q / 2),wN (s.c.q / 2),wN (s.c.q),wz (cJ (aW s.w)),iz (cJ (aW s.w)),iN (s.bt.length),wN (s.bt.length),wz (aj (s.w)),wz (IntKind.u32.wrap (aj s.w+((s.bt.length:Nat):Int))),iN (s.c.n),iz (s.c.g),iz (s.c.m),iz (s.c.t),iz (s.c.s),iN (s.p),iN (s.v),uz (s.w),pz s.bm,iN (s.c.word s.v),wz (aW (s.w)),uz (fM s.w (cJ (aW s.w)))] (fc s.fi (fc (by first | assumption | exact s.fi | exact dZ s.fi | exact gJ (dZ s.fi)) (fc (by first | assumption | exact s.fi | exact dZ s.fi | exact gJ (dZ s.fi)) fr))) [(.eql,sy 9,iz 1,.bool true)] [] [(.i64,sy 7,sy 8),(.u32,sy 8,sy 7)] (fc (λ_ _ _=>cZ (by first|(simpa using h1)|(simp;omega))) fn) fn (fc (cF rfl rfl (by have:=iT (cD s.w);exact bx (by omega) (by omega))) (fc (cF rfl rfl (by have:=iT (cD s.w);rw[cy];omega)) fn)) s.W0 s.F0 [qr s,Ht s,Hu s] [⟨[10,35],[sy 0],none,1,none,sy 9,none⟩,⟨[4,35,0,1,1],[sy 0,sy 9,sy 9],none,1,none,sy 1,none⟩,⟨[4,35,1,0,0],[sy 1,iz 1],none,1,none,sy 2,none⟩] [⟨40,[.agg #[sy 13,sy 3,sy 14,sy 15,sy 16,sy 17],sy 19],0,none,sy 22,none⟩,⟨42,[sy 20],0,none,sy 23,none⟩,⟨117,[sy 23],0,none,sy 7,none⟩,⟨115,[sy 20,sy 7],0,none,sy 24,none⟩,⟨154,[sy 21,sy 22,sy 20,sy 24],0,none,.bool true,some 1⟩,⟨172,[.agg #[sy 13,sy 3,sy 14,sy 15,sy 16,sy 17],sy 18,sy 2],1,some 407,.complex .f32 407 0,some 2⟩]) (fc (by exact bC (ci:=2) rfl rfl underlying35 i2 rfl rfl) (fc (by exact Ci (ci:=2) rfl rfl hb1 underlying35 i1 rfl rfl rfl rfl) (fc (by exact GM (ci:=2) (lo:=1) rfl rfl hb1 underlying35 i1 i2 rfl rfl hb1 rfl) fn))) (fc (pc rfl (λw hb=>cM s.c s.v s.hv w)) (fc (pc (args:=[uz s.w]) rfl (λw hb=>ag (cG _ s.hw w))) (fc (pc (args:=[(wz (aW (s.w)))]) rfl (λw hb=>ag (pV _ (cD _) w))) (fc (pc (args:=[uz s.w,(wz (cJ (aW s.w)))]) rfl (λw hb=>ag (uy _ (cJ (aW s.w)) s.hw w))) (fc (cc rfl [aN s.bm (s.m.put (s.c.word s.v) (fM s.w (cJ (aW s.w))))] [0] [1] (λw F ho hn hF=>kg hn hxa (by omega) s.w (fM s.w (cJ (aW s.w))) hc)) (fc (cm rfl [λv=>lJ s.c s.p ⟨1,0,0,0,s.bt.drop 1⟩ v] [bT 3 1 (s.bv) (s.bt.length) (aX s.bt)] [1] [0] (λw F ho hn hF=>y_ s hb1 hg hn)) fn)))))) rfl [(4,s.bp)] Hs [(4,[sy 13,sy 3,sy 14,sy 15,sy 16,sy 17,.complex .f32 407 0,sy 18,sy 19,iz 0,sy 20,sy 1,sy 9],156)] 2 rfl rfl wO (.bool true)).conv (λκ w=>⟨(λ_ h=>h),(λ_ h=>fJ (a:=λv=>lJ s.c s.p ⟨1,0,0,0,s.bt.drop 1⟩ v) (λ_ _ _ _ _ h=>h) h),(λ_ h=>h),(λ_ h=>h),trivial⟩)
theorem Tp(s:TP)(x:Int)(hxu:fv x)(hxa:s.m.cells[s.c.word s.v]? = some x)(hc:x=s.w)(hb1:0<s.bt.length)(hg:∀ g ∈ s.bt,0<=g)(h1:¬ ((s.bt.length:Nat):Int)=1):cw prog 166 [] 0 43 ⟨s.W0,s.F0⟩ (nk s) (A4 s) (λκ:am=>(.bool false)) (λκ:am=>[aE s.bp [iN s.c.n,iN s.c.q,iz s.c.g,iz s.c.m,iz s.c.t,iz s.c.s,dv κ 407,iN s.p,iN s.v,iz 4,uz s.w,(iC (s.bv)),iN s.bt.length] 156,lJ s.c s.p ⟨1,0,0,0,s.bt.drop 1⟩ (dv κ 407),fV s,wP s]):=by have q0:=s.c.z s.hv;have q6:=s.hl;have q7:=s.hbt;obtain⟨i,i1,i2,i3,i4⟩:=b_;exact(eP (c:=⟨s.W0,s.F0⟩) 7 (kn [s.bv,iC (s.bv),Ev.cutV 1 (iC (s.bv)) 1 (s.bt.length),iN (s.c.q),iN (s.c.q / 2),wN (s.c.q / 2),wN (s.c.q),wz (cJ (aW s.w)),iz (cJ (aW s.w)),iN (s.bt.length),wN (s.bt.length),wz (aj (s.w)),wz (IntKind.u32.wrap (aj s.w+((s.bt.length:Nat):Int))),iN (s.c.n),iz (s.c.g),iz (s.c.m),iz (s.c.t),iz (s.c.s),iN (s.p),iN (s.v),uz (s.w),pz s.bm,iN (s.c.word s.v),wz (aW (s.w)),uz (fM s.w (cJ (aW s.w)))] (fc s.fi (fc (by first | assumption | exact s.fi | exact dZ s.fi | exact gJ (dZ s.fi)) (fc (by first | assumption | exact s.fi | exact dZ s.fi | exact gJ (dZ s.fi)) fr))) [(.eql,sy 9,iz 1,.bool false)] [] [(.i64,sy 7,sy 8),(.u32,sy 8,sy 7)] (fc (λ_ _ _=>cZ (by first|(simpa using h1)|(simp;omega))) fn) fn (fc (cF rfl rfl (by have:=iT (cD s.w);exact bx (by omega) (by omega))) (fc (cF rfl rfl (by have:=iT (cD s.w);rw[cy];omega)) fn)) s.W0 s.F0 [qr s,Ht s,Hu s] [⟨[10,35],[sy 0],none,1,none,sy 9,none⟩,⟨[4,35,0,1,1],[sy 0,sy 9,sy 9],none,1,none,sy 1,none⟩,⟨[4,35,1,0,0],[sy 1,iz 1],none,1,none,sy 2,none⟩] [⟨40,[.agg #[sy 13,sy 3,sy 14,sy 15,sy 16,sy 17],sy 19],0,none,sy 22,none⟩,⟨42,[sy 20],0,none,sy 23,none⟩,⟨117,[sy 23],0,none,sy 7,none⟩,⟨115,[sy 20,sy 7],0,none,sy 24,none⟩,⟨154,[sy 21,sy 22,sy 20,sy 24],0,none,.bool true,some 1⟩,⟨172,[.agg #[sy 13,sy 3,sy 14,sy 15,sy 16,sy 17],sy 18,sy 2],1,some 407,.complex .f32 407 0,some 2⟩]) (fc (by exact bC (ci:=2) rfl rfl underlying35 i2 rfl rfl) (fc (by exact Ci (ci:=2) rfl rfl hb1 underlying35 i1 rfl rfl rfl rfl) (fc (by exact GM (ci:=2) (lo:=1) rfl rfl hb1 underlying35 i1 i2 rfl rfl hb1 rfl) fn))) (fc (pc rfl (λw hb=>cM s.c s.v s.hv w)) (fc (pc (args:=[uz s.w]) rfl (λw hb=>ag (cG _ s.hw w))) (fc (pc (args:=[(wz (aW (s.w)))]) rfl (λw hb=>ag (pV _ (cD _) w))) (fc (pc (args:=[uz s.w,(wz (cJ (aW s.w)))]) rfl (λw hb=>ag (uy _ (cJ (aW s.w)) s.hw w))) (fc (cc rfl [aN s.bm (s.m.put (s.c.word s.v) (fM s.w (cJ (aW s.w))))] [0] [1] (λw F ho hn hF=>kg hn hxa (by omega) s.w (fM s.w (cJ (aW s.w))) hc)) (fc (cm rfl [λv=>lJ s.c s.p ⟨1,0,0,0,s.bt.drop 1⟩ v] [bT 3 1 (s.bv) (s.bt.length) (aX s.bt)] [1] [0] (λw F ho hn hF=>y_ s hb1 hg hn)) fn)))))) rfl [(4,s.bp)] Hs [(4,[sy 13,sy 3,sy 14,sy 15,sy 16,sy 17,.complex .f32 407 0,sy 18,sy 19,iz 4,sy 20,sy 1,sy 9],156)] 2 rfl rfl wO (.bool false)).conv (λκ w=>⟨(λ_ h=>h),(λ_ h=>fJ (a:=λv=>lJ s.c s.p ⟨1,0,0,0,s.bt.drop 1⟩ v) (λ_ _ _ _ _ h=>h) h),(λ_ h=>h),(λ_ h=>h),trivial⟩)
theorem Ts(s:TP)(ly:gu)(mn:Nat)(hlo:km ly)(hl0:ly.st≠0)(hmo:bY s.c s.m)(hd:decide ((az s.c s.p ly s.m).1.st=0)=true):cw prog 166 [] 0 43 ⟨s.W0,s.F0⟩ (nk s) (Hx s ly mn) (λκ:am=>(.bool true)) (λκ:am=>[aE s.bp [iN s.c.n,iN s.c.q,iz s.c.g,iz s.c.m,iz s.c.t,iz s.c.s,pz s.bl,iN s.p,iN s.v,iz 0,uz s.w,s.bv,iN mn] 156,ez s.c s.p s.bl (az s.c s.p ly s.m).1,aN s.bm ((az s.c s.p ly s.m).2),fV s]):=(eP (c:=⟨s.W0,s.F0⟩) 7 (kn [s.bv,iN (s.c.q),iN (s.c.q / 2),wN (s.c.q / 2),wN (s.c.q),wz (cJ (aW s.w)),iz (cJ (aW s.w)),iN (s.bt.length),wN (s.bt.length),wz (aj (s.w)),wz (IntKind.u32.wrap (aj s.w+((s.bt.length:Nat):Int))),iN (s.c.n),iz (s.c.g),iz (s.c.m),iz (s.c.t),iz (s.c.s),pz s.bl,iN (s.p),iN (s.v),uz (s.w),iN (mn),pz s.bm] (fc s.fi fr) [] [] [] fn fn fn s.W0 s.F0 [[aN s.bm s.m,fV s,ez s.c s.p s.bl ly],(Hv s ly)] [] [⟨170,[sy 16,sy 21],0,none,.bool true,some 1⟩]) fn (fc (cc rfl [ez s.c s.p s.bl (az s.c s.p ly s.m).1,aN s.bm ((az s.c s.p ly s.m).2)] [2,0] [1] (λw F ho hn hF=>uH s hlo hl0 hmo hd hn)) fn) rfl [(4,s.bp)] A5 [(4,[sy 11,sy 1,sy 12,sy 13,sy 14,sy 15,sy 16,sy 17,sy 18,iz 0,sy 19,sy 0,sy 20],156)] 1 rfl rfl wO (.bool true))
theorem Tt(s:TP)(ly:gu)(mn:Nat)(hlo:km ly)(hl0:ly.st≠0)(hmo:bY s.c s.m)(hd:decide ((az s.c s.p ly s.m).1.st=0)=false):cw prog 166 [] 0 43 ⟨s.W0,s.F0⟩ (nk s) (Hx s ly mn) (λκ:am=>(.bool false)) (λκ:am=>[(Hw s mn),ez s.c s.p s.bl (az s.c s.p ly s.m).1,aN s.bm ((az s.c s.p ly s.m).2),fV s]):=(eP (c:=⟨s.W0,s.F0⟩) 7 (kn [s.bv,iN (s.c.q),iN (s.c.q / 2),wN (s.c.q / 2),wN (s.c.q),wz (cJ (aW s.w)),iz (cJ (aW s.w)),iN (s.bt.length),wN (s.bt.length),wz (aj (s.w)),wz (IntKind.u32.wrap (aj s.w+((s.bt.length:Nat):Int))),iN (s.c.n),iz (s.c.g),iz (s.c.m),iz (s.c.t),iz (s.c.s),pz s.bl,iN (s.p),iN (s.v),uz (s.w),iN (mn),pz s.bm] (fc s.fi fr) [] [] [] fn fn fn s.W0 s.F0 [[aN s.bm s.m,fV s,ez s.c s.p s.bl ly],(Hv s ly)] [] [⟨170,[sy 16,sy 21],0,none,.bool false,some 1⟩]) fn (fc (cc rfl [ez s.c s.p s.bl (az s.c s.p ly s.m).1,aN s.bm ((az s.c s.p ly s.m).2)] [2,0] [1] (λw F ho hn hF=>uH s hlo hl0 hmo hd hn)) fn) rfl [(4,s.bp)] A5 A5 1 rfl rfl wO (.bool false))
end Go.Proofs.YtkmccgombmogmaaGreat
namespace Go.Proofs.YtkmccgombmogmaaGreat
open Go.Ev Go.Proofs.Tryz
open Go.RowKit
open Go.Ev (sy)
set_option maxRecDepth 8000
structure bP where
 st:Nat
 w:Int
 bt:List Int
 ly:Option gu
def bP.many(x:bP):Nat:=match x.ly with | none=>0 | some _=>x.bt.length
def ai(c:aU)(p v:Nat)(x:bP)(m:bO):bP×bO :=
 match x.st with
 | 1=>(⟨if aW (ld m (c.word v))=0\/(c.q:Int)<aW (ld m (c.word v)) then 0 else 2,ld m (c.word v),[],none⟩,m.tick)
 | 2=>(⟨if ((x.bt.length+1:Nat):Int)=cJ (aW x.w) then 3 else 2,x.w,x.bt++[IntKind.i64.wrap (ld m (c.slot v ((aj x.w+(x.bt.length:Int))%4294967296)))],none⟩,m.tick)
 | 3=>if ld m (c.word v)=x.w then (⟨if x.bt.length=1 then 0 else 4,x.w,x.bt,some ⟨1,0,0,0,x.bt.drop 1⟩⟩,m.put (c.word v) (fM x.w (cJ (aW x.w)))) else (⟨1,x.w,[],none⟩,m.tick)
 | 4=>match x.ly with
  | some l=>(⟨if (az c p l m).1.st=0 then 0 else 4,x.w,x.bt,some (az c p l m).1⟩,(az c p l m).2)
  | none=>(x,m)
 | _=>(x,m)
structure A6(x:gu):Prop where
 w:fv x.w
 b:x.k<=64/\x.n<=64
 ls:x.ls.length<=64
 gs:∀ g ∈ x.ls,Gn g
theorem km.base{x:gu}(h:km x):A6 x:=⟨h.w,h.b,h.ls,h.gs⟩
structure fH(x:bP):Prop where
 st:x.st<5
 w:fv x.w
 bt:x.bt.length<=64
 gs:∀ g ∈ x.bt,Gn g
 one:x.st=1->x.bt=[]
 no:x.st=1\/x.st=2\/x.st=3->x.ly=none
 two:x.st=2->(x.bt.length:Int)<cJ (aW x.w)/\cJ (aW x.w)<=64
 three:x.st=3->0<x.bt.length
 four:x.st=4->∃ l,x.ly=some l/\km l/\l.st≠0
 lay:∀ l,x.ly=some l->A6 l/\0<x.bt.length
def lr(c:aU)(m:bO):Prop:=∀ p,p<c.n->∀ i,Gn (ld m (c.slot p i))
theorem oY{g:Int}(h:Gn g):IntKind.i64.wrap g=g:=bx (by have:=h.1;omega) h.2
def eQ(c:aU)(p v bp:Nat)(x:bP)(bv lp:Value):aF:=aE bp [.int .i64 (c.n:Int),.int .i64 (c.q:Int),.int .i64 c.g,.int .i64 c.m,.int .i64 c.t,.int .i64 c.s,lp,.int .i64 (p:Int),.int .i64 (v:Int),.int .i64 (x.st:Int),.int .u64 x.w,bv,.int .i64 (x.many:Int)] 156
def sm(c:aU)(p v bp:Nat)(x:bP)(e:Value×Value):List aF :=
 match x.ly with
 | none=>[eQ c p v bp x e.1 (.pointer none),bJ e.1 x.bt]
 | some l=>[eQ c p v bp x e.1 e.2,bJ e.1 x.bt,lJ c p l e.2]
def c8(c:aU)(p v bp:Nat)(x:bP):aF:=Dw (λe:Value×Value=>aT e.1=true) (λe=>Ge (sm c p v bp x e))
theorem bK{ctx:dt}{a b:aF}{l:List aF}{w:World}(h:af ctx (a::b::l) w):af ctx (b::a::l) w:=by
 obtain⟨F,h1,h2,h3⟩:=h.ex;obtain⟨Fa,Fr,k1,k2,k3,k4⟩:=bI h1;obtain⟨Fb,Fl,m1,m2,m3,m4⟩:=bI k2;have q1:=bW k1 m2 (λj hj=>h1.lt j ((k4 j).2 (.inl hj))) (λj hj hf=>k3 j hj ((m4 j).2 (.inr hf)));have q2:=bW m1 q1 (λj hj=>k2.lt j ((m4 j).2 (.inl hj))) (λj hj hf=>hf.elim (λhf=>k3 j hf ((m4 j).2 (.inl hj))) (m3 j hj));refine⟨F,cP q2 (λj=>?_),h2,h3⟩;rw[k4 j,m4 j];constructor
 ·rintro(h | h | h)
  ·exact .inr (.inl h)
  ·exact .inl h
  ·exact .inr (.inr h)
 ·rintro(h | h | h)
  ·exact .inr (.inl h)
  ·exact .inl h
  ·exact .inr (.inr h)
theorem A7{ctx:dt}{a:aF}{l m:List aF}{w:World}(hm:∀ F,cL l F w->cL m F w)(h:af ctx (a::l) w):af ctx (a::m) w:=by
 obtain⟨F,h1,h2,h3⟩:=h.ex;obtain⟨Fa,Fr,k1,k2,k3,k4⟩:=bI h1;have q1:=bW k1 (hm _ k2) (λj hj=>h1.lt j ((k4 j).2 (.inl hj))) k3;exact⟨F,cP q1 (λj=>(k4 j).symm),h2,h3⟩
theorem za{a b:aF}{l:List aF}{F:Nat->Prop}{w:World}(h:cL (a::b::l) F w):cL (b::a::l) F w:=by
 obtain⟨Fa,Fr,k1,k2,k3,k4⟩:=bI h;obtain⟨Fb,Fl,m1,m2,m3,m4⟩:=bI k2;have q1:=bW k1 m2 (λj hj=>h.lt j ((k4 j).2 (.inl hj))) (λj hj hf=>k3 j hj ((m4 j).2 (.inr hf)));have q2:=bW m1 q1 (λj hj=>k2.lt j ((m4 j).2 (.inl hj))) (λj hj hf=>hf.elim (λhf=>k3 j hf ((m4 j).2 (.inl hj))) (m3 j hj));refine cP q2 (λj=>?_);rw[k4 j,m4 j];constructor
 ·rintro(h | h | h)
  ·exact .inr (.inl h)
  ·exact .inl h
  ·exact .inr (.inr h)
 ·rintro(h | h | h)
  ·exact .inr (.inl h)
  ·exact .inl h
  ·exact .inr (.inr h)
section
variable{w:World}{F:Nat->Prop}{c:aU}{p v:Nat}{bp:Nat}{x:bP}{ctx:dt}{l:List aF}
theorem gL(h0:x.ly=none)(h:af ctx (c8 c p v bp x::l) w):∃ bv,aT bv=true/\af ctx (eQ c p v bp x bv (.pointer none)::bJ bv x.bt::l) w:=by
 obtain⟨⟨bv,lp⟩,hl,hh⟩:=h.qD;have h2:=hh.open;simp only[sm,h0]at h2;exact⟨bv,hl,h2⟩
theorem dJ{bv:Value}(h0:x.ly=none)(hl:aT bv=true)(h:af ctx (eQ c p v bp x bv (.pointer none)::bJ bv x.bt::l) w):af ctx (c8 c p v bp x::l) w:=by
 refine af.r8 (bv,.pointer none) hl (af.shut ?_);simp only[sm,h0];exact h
theorem hZ{ls:gu}(h0:x.ly=some ls)(h:af ctx (c8 c p v bp x::l) w):∃ bv bl,aT bv=true/\af ctx (ez c p bl ls::eQ c p v bp x bv (.pointer (some ⟨bl,0,none⟩))::bJ bv x.bt::l) w:=by
 obtain⟨⟨bv,lp⟩,hl,hh⟩:=h.qD;have h2:=hh.open;simp only[sm,h0]at h2;have h3:af ctx (lJ c p ls lp::eQ c p v bp x bv lp::bJ bv x.bt::l) w:=bK (A7 (λF hn=>za hn) h2);obtain⟨bl,e,h4⟩:=h3.yL (b:=λbl=>ez c p bl ls) (p:=λbl=>lp=.pointer (some ⟨bl,0,none⟩)) (λF ⟨bp,e,h⟩=>⟨bp,e,h⟩);rw[e]at h4;exact⟨bv,bl,hl,h4⟩
theorem dG{ls:gu}{bv lp:Value}(h0:x.ly=some ls)(hl:aT bv=true)(h:af ctx (eQ c p v bp x bv lp::bJ bv x.bt::lJ c p ls lp::l) w):af ctx (c8 c p v bp x::l) w:=by
 refine af.r8 (bv,lp) hl (af.shut ?_);simp only[sm,h0];exact h
theorem A8(hp:p<c.n)(hv:v<c.n)(hx:fH x)(h0:x.st≠0){m:bO}(hm:bY c m)(hsl:lr c m){bm:Nat}(h:cL [c8 c p v bp x,aN bm m] F w) :
  Calls prog 166 #[.pointer (some ⟨bp,0,none⟩),.pointer (some ⟨bm,0,none⟩)] w λe w'=>e=.returned (.bool (decide ((ai c p v x m).1.st=0)))/\af ⟨w,F⟩ [c8 c p v bp (ai c p v x m).1,aN bm (ai c p v x m).2] w':=by
 have hw:=hm.get (hm.fG hv);have hno:=hx.no;have hone:=hx.one;have Ko:=hx.two;have sw:=hx.three;have LL:=hx.four;have hgs:=hx.gs;have hbt:=hx.bt;have hxw:=hx.w;obtain⟨st,ww,bt,ly⟩:=x;dsimp only at hno hone Ko sw LL hgs hbt hxw h0
 match st,hx.st with
 | 0,_=>exact absurd rfl h0
 | 1,_ =>
  obtain rfl:ly=none:=hno (.inl rfl);obtain rfl:bt=[]:=hone rfl;obtain⟨bv,fi,hh⟩:=gL rfl (af.start h);obtain⟨F',n1,n2,n3⟩:=(hh.sel [0,2,1]).ex
  let s:TP:=⟨w,F',c,p,v,hp,hv,ww,hxw,bv,fi,[],hbt,bp,bm,0,m,hm.len⟩
  have into:∀ {l:List aF} {w1:World},af ⟨w,F'⟩ l w1->af ⟨w,F⟩ l w1:=λhh=>hh.into (l:=[]) n2 n3
  have fin:∀ (st:Nat) (u:Value) (w1:World),af ⟨w,F⟩ [eQ c p v bp ⟨st,ld m (c.word v),[],none⟩ u (.pointer none),aN bm m.tick,bJ u []] w1->af ⟨w,F⟩ [c8 c p v bp ⟨st,ld m (c.word v),[],none⟩,aN bm m.tick] w1:=λst u w1 h2 =>
   dJ rfl (dm (h2.sel [2])) (h2.sel [0,2,1])
  by_cases hz:aW (ld m (c.word v))=0
  ·rw[show ai c p v ⟨1,ww,[],none⟩ m=(⟨0,ld m (c.word v),[],none⟩,m.tick) by simp only[ai,if_pos (Or.inl hz)]]
   exact bh (Tg s _ hw.2 hw.1 hz) (by kernel_rfl) n1 (by simp) (by simp[s]) (λκ w1 h1=>⟨rfl,fin _ _ _ ((into h1).sel [0,1,3])⟩)
  ·by_cases hq:(c.q:Int)<aW (ld m (c.word v))
   ·rw[show ai c p v ⟨1,ww,[],none⟩ m=(⟨0,ld m (c.word v),[],none⟩,m.tick) by simp only[ai,if_pos (Or.inr hq)]]
    exact bh (Ti s _ hw.2 hw.1 hz hq) (by kernel_rfl) n1 (by simp) (by simp[s]) (λκ w1 h1=>⟨rfl,fin _ _ _ ((into h1).sel [0,1,3])⟩)
   ·rw[show ai c p v ⟨1,ww,[],none⟩ m=(⟨2,ld m (c.word v),[],none⟩,m.tick) by simp only[ai,if_neg (not_or.2 ⟨hz,hq⟩)]]
    exact bh (Tj s _ hw.2 hw.1 hz hq) (by kernel_rfl) n1 (by simp) (by simp[s]) (λκ w1 h1=>⟨rfl,fin _ _ _ ((into h1).sel [0,1,3])⟩)
 | 2,_ =>
  obtain rfl:ly=none:=hno (.inr (.inl rfl));obtain⟨bv,fi,hh⟩:=gL rfl (af.start h);obtain⟨F',n1,n2,n3⟩:=(hh.sel [0,2,1]).ex
  let s:TP:=⟨w,F',c,p,v,hp,hv,ww,hxw,bv,fi,bt,hbt,bp,bm,0,m,hm.len⟩
  have into:∀ {l:List aF} {w1:World},af ⟨w,F'⟩ l w1->af ⟨w,F⟩ l w1:=λhh=>hh.into (l:=[]) n2 n3
  have hwr:IntKind.u32.wrap (aj ww+((bt.length:Nat):Int))=(aj ww+(bt.length:Int))%4294967296:=cy _;have hc:=hm.get (hm.iP hv (IntKind.u32.wrap (aj ww+((bt.length:Nat):Int))))
  by_cases hk:((bt.length+1:Nat):Int)=cJ (aW ww)
  ·rw[show ai c p v ⟨2,ww,bt,none⟩ m=(⟨3,ww,bt++[IntKind.i64.wrap (ld m (c.slot v ((aj ww+(bt.length:Int))%4294967296)))],none⟩,m.tick) by simp only[ai,if_pos hk]]
   rw[← hwr];refine bh (std s _ hc.2 hc.1 hk) (by kernel_rfl) n1 (by simp) (by simp[s]) (λκ w1 h1=>⟨rfl,?_⟩);have h2:=into h1;rw[← mc]at h2;exact dJ rfl (dm (h2.sel [2])) (h2.sel [0,2,1])
  ·rw[show ai c p v ⟨2,ww,bt,none⟩ m=(⟨2,ww,bt++[IntKind.i64.wrap (ld m (c.slot v ((aj ww+(bt.length:Int))%4294967296)))],none⟩,m.tick) by simp only[ai,if_neg hk]]
   rw[← hwr];refine bh (Tk s _ hc.2 hc.1 hk) (by kernel_rfl) n1 (by simp) (by simp[s]) (λκ w1 h1=>⟨rfl,?_⟩);have h2:=into h1;rw[← mc]at h2;exact dJ rfl (dm (h2.sel [2])) (h2.sel [0,2,1])
 | 3,_ =>
  obtain rfl:ly=none:=hno (.inr (.inr rfl));obtain⟨bv,fi,hh⟩:=gL rfl (af.start h);obtain⟨F',n1,n2,n3⟩:=(hh.sel [0,2,1]).ex
  let s:TP:=⟨w,F',c,p,v,hp,hv,ww,hxw,bv,fi,bt,hbt,bp,bm,0,m,hm.len⟩
  have into:∀ {l:List aF} {w1:World},af ⟨w,F'⟩ l w1->af ⟨w,F⟩ l w1:=λhh=>hh.into (l:=[]) n2 n3
  have hb1:=sw rfl
  by_cases hc:ld m (c.word v)=ww
  ·have hg:∀ g ∈ bt,0<=g:=λg hm=>(hgs g hm).1
   by_cases h1:bt.length=1
   ·rw[show ai c p v ⟨3,ww,bt,none⟩ m=(⟨0,ww,bt,some ⟨1,0,0,0,bt.drop 1⟩⟩,m.put (c.word v) (fM ww (cJ (aW ww)))) by simp only[ai,if_pos hc,if_pos h1]]
    refine bh (Tn s _ hw.2 hw.1 hc hb1 hg (by show((bt.length:Nat):Int)=1;omega)) (by kernel_rfl) n1 (by simp) (by simp[s]) (λκ w1 h1=>⟨rfl,?_⟩);have h2:=((into h1).sel [2,0,1,3]).full hb1;exact dG rfl (dZ fi) (h2.sel [1,0,2,3])
   ·rw[show ai c p v ⟨3,ww,bt,none⟩ m=(⟨4,ww,bt,some ⟨1,0,0,0,bt.drop 1⟩⟩,m.put (c.word v) (fM ww (cJ (aW ww)))) by simp only[ai,if_pos hc,if_neg h1]]
    refine bh (Tp s _ hw.2 hw.1 hc hb1 hg (by show ¬ ((bt.length:Nat):Int)=1;omega)) (by kernel_rfl) n1 (by simp) (by simp[s]) (λκ w1 h1=>⟨rfl,?_⟩);have h2:=((into h1).sel [2,0,1,3]).full hb1;exact dG rfl (dZ fi) (h2.sel [1,0,2,3])
  ·rw[show ai c p v ⟨3,ww,bt,none⟩ m=(⟨1,ww,[],none⟩,m.tick) by simp only[ai,if_neg hc]]
   refine bh (Tl s _ hw.2 hw.1 hc) (by kernel_rfl) n1 (by simp) (by simp[s]) (λκ w1 h1=>⟨rfl,?_⟩);have h2:=(((into h1).sel [0,1]).d8 (e := 3) (sz:=1));exact dJ rfl rfl (h2.sel [1,0,2])
 | 4,_ =>
  obtain⟨ls,rfl,hlo,hl0⟩:=LL rfl;obtain⟨bv,bl,fi,hh⟩:=hZ rfl (af.start h);obtain⟨F',n1,n2,n3⟩:=(hh.sel [1,3,2,0]).ex
  let s:TP:=⟨w,F',c,p,v,hp,hv,ww,hxw,bv,fi,bt,hbt,bp,bm,bl,m,hm.len⟩
  have into:∀ {l:List aF} {w1:World},af ⟨w,F'⟩ l w1->af ⟨w,F⟩ l w1:=λhh=>hh.into (l:=[]) n2 n3
  by_cases hd:(az c p ls m).1.st=0
  ·rw[show ai c p v ⟨4,ww,bt,some ls⟩ m=(⟨0,ww,bt,some (az c p ls m).1⟩,(az c p ls m).2) by simp only[ai,if_pos hd]]
   refine bh (Ts s ls bt.length hlo hl0 hm (by simpa using hd)) (by kernel_rfl) n1 (by simp) (by simp[s]) (λκ w1 h1=>⟨rfl,?_⟩);have h2:af ⟨w,F⟩ _ w1:=((into h1).sel [1,0,3,2]).head (b:=lJ c p (az c p ls m).1 (.pointer (some ⟨bl,0,none⟩))) (λF h=>⟨bl,rfl,h⟩);exact dG rfl fi (h2.sel [1,2,0,3])
  ·rw[show ai c p v ⟨4,ww,bt,some ls⟩ m=(⟨4,ww,bt,some (az c p ls m).1⟩,(az c p ls m).2) by simp only[ai,if_neg hd]]
   refine bh (Tt s ls bt.length hlo hl0 hm (by simpa using hd)) (by kernel_rfl) n1 (by simp) (by simp[s]) (λκ w1 h1=>⟨rfl,?_⟩);have h2:af ⟨w,F⟩ _ w1:=((into h1).sel [1,0,3,2]).head (b:=lJ c p (az c p ls m).1 (.pointer (some ⟨bl,0,none⟩))) (λF h=>⟨bl,rfl,h⟩);exact dG rfl fi (h2.sel [1,2,0,3])
end
end Go.Proofs.YtkmccgombmogmaaGreat
