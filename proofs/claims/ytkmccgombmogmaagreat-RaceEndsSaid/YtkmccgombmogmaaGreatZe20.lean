/- Part of a proof: see the last text. -/
import Derived.Test.YtkmccgombmogmaaGreatZe19
import Derived.Test.YtkmccgombmogmaaGreatZe18
set_option linter.unusedSimpArgs false
set_option linter.unusedVariables false
namespace Go.Proofs.YtkmccgombmogmaaGreat
open Go.Ev Go.Proofs.Tryz
open Go.RowKit
open Go.Ev (sy)
set_option maxRecDepth 8000
structure ki where
 w:Int
 sl:List Int
def aR(c:aP)(x:ki)(i:Nat):Int:=x.sl.getD (c.ae ((aj x.w+(i:Int))%4294967296)) 0
def aX(c:aP)(x:ki):List Int:=(List.range (aO x.w).toNat).map (aR c x)
structure eR(c:aP)(x:ki):Prop where
 w:fg x.w
 sl:x.sl.length=c.q
 sz:aO x.w<=(c.q:Int)
def Ma(b:Nat)(x:ki)(sv:Value):aG:=aH b [.int .u64 x.w,sv] 141
def hZ(c:aP)(b:Nat)(x:ki):aG:=C2 (λsv:Value=>aV sv=true) (λsv=>FF [Ma b x sv,bQ 3 1 sv c.q (bu x.sl)])
section
variable{w:World}{F:Nat->Prop}{c:aP}{b:Nat}{x:ki}{ctx:dc}{l:List aG}
theorem kQ(h:af ctx (hZ c b x::l) w):∃ sv,aV sv=true/\af ctx (Ma b x sv::bQ 3 1 sv c.q (bu x.sl)::l) w:=by
 obtain⟨sv,hl,hh⟩:=h.qh;exact⟨sv,hl,hh.open⟩
theorem jW{sv:Value}(hl:aV sv=true)(h:af ctx (Ma b x sv::bQ 3 1 sv c.q (bu x.sl)::l) w):af ctx (hZ c b x::l) w :=
 af.rJ sv hl (af.shut h)
theorem bK(i:Nat):x.sl.getD (c.ae (IntKind.u32.wrap (aj x.w+(i:Int)))) 0=aR c x i:=by
 unfold aR;rw[b7]
theorem GN(hq:c.q<=8)(hx:eR c x)(h:cG [hZ c b x] F w) :
  Calls prog 44 #[.pointer (some ⟨b,0,none⟩)] w λe w'=>∃ v,aV v=true/\e=.returned v/\af ⟨w,F⟩ [cf v (aX c x),hZ c b x] w':=by
 obtain⟨sv,oG,hh⟩:=kQ (af.start h);obtain⟨F',n1,n2,n3⟩:=hh.ex
 let s:DP:=⟨w,F',c,x.w,hx.w,b,sv,oG,x.sl,hx.sl⟩
 have into:∀ {l:List aG} {w1:World},af ⟨w,F'⟩ l w1->af ⟨w,F⟩ l w1:=λhh=>hh.into (l:=[]) n2 n3
 have hb:=cu x.w;have hs:=hx.sz;obtain⟨k,hk⟩:∃ k:Nat,aO x.w=(k:Int):=⟨(aO x.w).toNat,by omega⟩;have QG:k<=8:=by omega
 have ea:aX c x=(List.range k).map (aR c x):=by unfold aX;rw[hk];rfl
 have fin:∀ (u:Value) (w1:World),af ⟨w,F⟩ [Ma b x sv,bQ 3 1 sv c.q (bu x.sl),cf u (aX c x)] w1->aV u=true/\af ⟨w,F⟩ [cf u (aX c x),hZ c b x] w1:=by
  intro u w1 h1;have h2:af ⟨w,F⟩ [hZ c b x,cf u (aX c x)] w1:=jW oG h1;exact⟨dK (h2.sel [1]),h2.sel [1,0]⟩
 match k,QG with
 | 0,_ =>
  refine a_ (PJ s hk) (by kernel_rfl) n1 (by simp) (by simp[s]) (λκ w1 h1=>?_);have h2:=((into h1).eC (e := 3) (sz:=1)).sel [1,2,0];obtain⟨q1,q2⟩:=fin (.slice none 0 0) w1 (by rw[ea];exact h2);exact⟨_,q1,rfl,q2⟩
 | 1,_ =>
  refine a_ (PK s hk) (by kernel_rfl) n1 (by simp) (by simp[s]) (λκ w1 h1=>?_);have h2:=(into h1).sel [0,1,2]
  obtain⟨q1,q2⟩:=fin _ w1 (by
   have e1:aX c x=[aR c x 0]:=by rw[ea];rfl
   have e2:cf (Ev.dec ((κ 427).getD 0)) ([aR c x 0])=bQ 3 1 (Ev.dec ((κ 427).getD 0)) (1) ([Value.int .i64 (x.sl.getD (c.ae (IntKind.u32.wrap (aj x.w+0))) 0)]):=by simp only[show x.sl.getD (c.ae (IntKind.u32.wrap (aj x.w+0))) 0=aR c x 0 from bK 0];rfl
   rw[e1,e2]
   exact h2)
  exact⟨_,q1,rfl,q2⟩
 | 2,_ =>
  refine a_ (PN s hk) (by kernel_rfl) n1 (by simp) (by simp[s]) (λκ w1 h1=>?_);have h2:=(into h1).sel [0,1,2]
  obtain⟨q1,q2⟩:=fin _ w1 (by
   have e1:aX c x=[aR c x 0]++[aR c x 1]:=by rw[ea];rfl
   have e2:cf (Ev.dec ((κ 435).getD 0)) ([aR c x 0]++[aR c x 1])=bQ 3 1 (Ev.dec ((κ 435).getD 0)) (1+1) ([Value.int .i64 (x.sl.getD (c.ae (IntKind.u32.wrap (aj x.w+0))) 0)]++[Value.int .i64 (x.sl.getD (c.ae (IntKind.u32.wrap (aj x.w+1))) 0)]):=by simp only[show x.sl.getD (c.ae (IntKind.u32.wrap (aj x.w+0))) 0=aR c x 0 from bK 0,show x.sl.getD (c.ae (IntKind.u32.wrap (aj x.w+1))) 0=aR c x 1 from bK 1];rfl
   rw[e1,e2]
   exact h2)
  exact⟨_,q1,rfl,q2⟩
 | 3,_ =>
  refine a_ (PO s hk) (by kernel_rfl) n1 (by simp) (by simp[s]) (λκ w1 h1=>?_);have h2:=(into h1).sel [0,1,2]
  obtain⟨q1,q2⟩:=fin _ w1 (by
   have e1:aX c x=[aR c x 0]++[aR c x 1]++[aR c x 2]:=by rw[ea];rfl
   have e2:cf (Ev.dec ((κ 443).getD 0)) ([aR c x 0]++[aR c x 1]++[aR c x 2])=bQ 3 1 (Ev.dec ((κ 443).getD 0)) (1+1+1) ([Value.int .i64 (x.sl.getD (c.ae (IntKind.u32.wrap (aj x.w+0))) 0)]++[Value.int .i64 (x.sl.getD (c.ae (IntKind.u32.wrap (aj x.w+1))) 0)]++[Value.int .i64 (x.sl.getD (c.ae (IntKind.u32.wrap (aj x.w+2))) 0)]):=by simp only[show x.sl.getD (c.ae (IntKind.u32.wrap (aj x.w+0))) 0=aR c x 0 from bK 0,show x.sl.getD (c.ae (IntKind.u32.wrap (aj x.w+1))) 0=aR c x 1 from bK 1,show x.sl.getD (c.ae (IntKind.u32.wrap (aj x.w+2))) 0=aR c x 2 from bK 2];rfl
   rw[e1,e2]
   exact h2)
  exact⟨_,q1,rfl,q2⟩
 | 4,_ =>
  refine a_ (PQ s hk) (by kernel_rfl) n1 (by simp) (by simp[s]) (λκ w1 h1=>?_);have h2:=(into h1).sel [0,1,2]
  obtain⟨q1,q2⟩:=fin _ w1 (by
   have e1:aX c x=[aR c x 0]++[aR c x 1]++[aR c x 2]++[aR c x 3]:=by rw[ea];rfl
   have e2:cf (Ev.dec ((κ 451).getD 0)) ([aR c x 0]++[aR c x 1]++[aR c x 2]++[aR c x 3])=bQ 3 1 (Ev.dec ((κ 451).getD 0)) (1+1+1+1) ([Value.int .i64 (x.sl.getD (c.ae (IntKind.u32.wrap (aj x.w+0))) 0)]++[Value.int .i64 (x.sl.getD (c.ae (IntKind.u32.wrap (aj x.w+1))) 0)]++[Value.int .i64 (x.sl.getD (c.ae (IntKind.u32.wrap (aj x.w+2))) 0)]++[Value.int .i64 (x.sl.getD (c.ae (IntKind.u32.wrap (aj x.w+3))) 0)]):=by simp only[show x.sl.getD (c.ae (IntKind.u32.wrap (aj x.w+0))) 0=aR c x 0 from bK 0,show x.sl.getD (c.ae (IntKind.u32.wrap (aj x.w+1))) 0=aR c x 1 from bK 1,show x.sl.getD (c.ae (IntKind.u32.wrap (aj x.w+2))) 0=aR c x 2 from bK 2,show x.sl.getD (c.ae (IntKind.u32.wrap (aj x.w+3))) 0=aR c x 3 from bK 3];rfl
   rw[e1,e2]
   exact h2)
  exact⟨_,q1,rfl,q2⟩
 | 5,_ =>
  refine a_ (PR s hk) (by kernel_rfl) n1 (by simp) (by simp[s]) (λκ w1 h1=>?_);have h2:=(into h1).sel [0,1,2]
  obtain⟨q1,q2⟩:=fin _ w1 (by
   have e1:aX c x=[aR c x 0]++[aR c x 1]++[aR c x 2]++[aR c x 3]++[aR c x 4]:=by rw[ea];rfl
   have e2:cf (Ev.dec ((κ 459).getD 0)) ([aR c x 0]++[aR c x 1]++[aR c x 2]++[aR c x 3]++[aR c x 4])=bQ 3 1 (Ev.dec ((κ 459).getD 0)) (1+1+1+1+1) ([Value.int .i64 (x.sl.getD (c.ae (IntKind.u32.wrap (aj x.w+0))) 0)]++[Value.int .i64 (x.sl.getD (c.ae (IntKind.u32.wrap (aj x.w+1))) 0)]++[Value.int .i64 (x.sl.getD (c.ae (IntKind.u32.wrap (aj x.w+2))) 0)]++[Value.int .i64 (x.sl.getD (c.ae (IntKind.u32.wrap (aj x.w+3))) 0)]++[Value.int .i64 (x.sl.getD (c.ae (IntKind.u32.wrap (aj x.w+4))) 0)]):=by simp only[show x.sl.getD (c.ae (IntKind.u32.wrap (aj x.w+0))) 0=aR c x 0 from bK 0,show x.sl.getD (c.ae (IntKind.u32.wrap (aj x.w+1))) 0=aR c x 1 from bK 1,show x.sl.getD (c.ae (IntKind.u32.wrap (aj x.w+2))) 0=aR c x 2 from bK 2,show x.sl.getD (c.ae (IntKind.u32.wrap (aj x.w+3))) 0=aR c x 3 from bK 3,show x.sl.getD (c.ae (IntKind.u32.wrap (aj x.w+4))) 0=aR c x 4 from bK 4];rfl
   rw[e1,e2]
   exact h2)
  exact⟨_,q1,rfl,q2⟩
 | 6,_ =>
  refine a_ (PS s hk) (by kernel_rfl) n1 (by simp) (by simp[s]) (λκ w1 h1=>?_);have h2:=(into h1).sel [0,1,2]
  obtain⟨q1,q2⟩:=fin _ w1 (by
   have e1:aX c x=[aR c x 0]++[aR c x 1]++[aR c x 2]++[aR c x 3]++[aR c x 4]++[aR c x 5]:=by rw[ea];rfl
   have e2:cf (Ev.dec ((κ 467).getD 0)) ([aR c x 0]++[aR c x 1]++[aR c x 2]++[aR c x 3]++[aR c x 4]++[aR c x 5])=bQ 3 1 (Ev.dec ((κ 467).getD 0)) (1+1+1+1+1+1) ([Value.int .i64 (x.sl.getD (c.ae (IntKind.u32.wrap (aj x.w+0))) 0)]++[Value.int .i64 (x.sl.getD (c.ae (IntKind.u32.wrap (aj x.w+1))) 0)]++[Value.int .i64 (x.sl.getD (c.ae (IntKind.u32.wrap (aj x.w+2))) 0)]++[Value.int .i64 (x.sl.getD (c.ae (IntKind.u32.wrap (aj x.w+3))) 0)]++[Value.int .i64 (x.sl.getD (c.ae (IntKind.u32.wrap (aj x.w+4))) 0)]++[Value.int .i64 (x.sl.getD (c.ae (IntKind.u32.wrap (aj x.w+5))) 0)]):=by simp only[show x.sl.getD (c.ae (IntKind.u32.wrap (aj x.w+0))) 0=aR c x 0 from bK 0,show x.sl.getD (c.ae (IntKind.u32.wrap (aj x.w+1))) 0=aR c x 1 from bK 1,show x.sl.getD (c.ae (IntKind.u32.wrap (aj x.w+2))) 0=aR c x 2 from bK 2,show x.sl.getD (c.ae (IntKind.u32.wrap (aj x.w+3))) 0=aR c x 3 from bK 3,show x.sl.getD (c.ae (IntKind.u32.wrap (aj x.w+4))) 0=aR c x 4 from bK 4,show x.sl.getD (c.ae (IntKind.u32.wrap (aj x.w+5))) 0=aR c x 5 from bK 5];rfl
   rw[e1,e2]
   exact h2)
  exact⟨_,q1,rfl,q2⟩
 | 7,_ =>
  refine a_ (PT s hk) (by kernel_rfl) n1 (by simp) (by simp[s]) (λκ w1 h1=>?_);have h2:=(into h1).sel [0,1,2]
  obtain⟨q1,q2⟩:=fin _ w1 (by
   have e1:aX c x=[aR c x 0]++[aR c x 1]++[aR c x 2]++[aR c x 3]++[aR c x 4]++[aR c x 5]++[aR c x 6]:=by rw[ea];rfl
   have e2:cf (Ev.dec ((κ 475).getD 0)) ([aR c x 0]++[aR c x 1]++[aR c x 2]++[aR c x 3]++[aR c x 4]++[aR c x 5]++[aR c x 6])=bQ 3 1 (Ev.dec ((κ 475).getD 0)) (1+1+1+1+1+1+1) ([Value.int .i64 (x.sl.getD (c.ae (IntKind.u32.wrap (aj x.w+0))) 0)]++[Value.int .i64 (x.sl.getD (c.ae (IntKind.u32.wrap (aj x.w+1))) 0)]++[Value.int .i64 (x.sl.getD (c.ae (IntKind.u32.wrap (aj x.w+2))) 0)]++[Value.int .i64 (x.sl.getD (c.ae (IntKind.u32.wrap (aj x.w+3))) 0)]++[Value.int .i64 (x.sl.getD (c.ae (IntKind.u32.wrap (aj x.w+4))) 0)]++[Value.int .i64 (x.sl.getD (c.ae (IntKind.u32.wrap (aj x.w+5))) 0)]++[Value.int .i64 (x.sl.getD (c.ae (IntKind.u32.wrap (aj x.w+6))) 0)]):=by simp only[show x.sl.getD (c.ae (IntKind.u32.wrap (aj x.w+0))) 0=aR c x 0 from bK 0,show x.sl.getD (c.ae (IntKind.u32.wrap (aj x.w+1))) 0=aR c x 1 from bK 1,show x.sl.getD (c.ae (IntKind.u32.wrap (aj x.w+2))) 0=aR c x 2 from bK 2,show x.sl.getD (c.ae (IntKind.u32.wrap (aj x.w+3))) 0=aR c x 3 from bK 3,show x.sl.getD (c.ae (IntKind.u32.wrap (aj x.w+4))) 0=aR c x 4 from bK 4,show x.sl.getD (c.ae (IntKind.u32.wrap (aj x.w+5))) 0=aR c x 5 from bK 5,show x.sl.getD (c.ae (IntKind.u32.wrap (aj x.w+6))) 0=aR c x 6 from bK 6];rfl
   rw[e1,e2]
   exact h2)
  exact⟨_,q1,rfl,q2⟩
 | 8,_ =>
  refine a_ (PU s hk) (by kernel_rfl) n1 (by simp) (by simp[s]) (λκ w1 h1=>?_);have h2:=(into h1).sel [0,1,2]
  obtain⟨q1,q2⟩:=fin _ w1 (by
   have e1:aX c x=[aR c x 0]++[aR c x 1]++[aR c x 2]++[aR c x 3]++[aR c x 4]++[aR c x 5]++[aR c x 6]++[aR c x 7]:=by rw[ea];rfl
   have e2:cf (Ev.dec ((κ 483).getD 0)) ([aR c x 0]++[aR c x 1]++[aR c x 2]++[aR c x 3]++[aR c x 4]++[aR c x 5]++[aR c x 6]++[aR c x 7])=bQ 3 1 (Ev.dec ((κ 483).getD 0)) (1+1+1+1+1+1+1+1) ([Value.int .i64 (x.sl.getD (c.ae (IntKind.u32.wrap (aj x.w+0))) 0)]++[Value.int .i64 (x.sl.getD (c.ae (IntKind.u32.wrap (aj x.w+1))) 0)]++[Value.int .i64 (x.sl.getD (c.ae (IntKind.u32.wrap (aj x.w+2))) 0)]++[Value.int .i64 (x.sl.getD (c.ae (IntKind.u32.wrap (aj x.w+3))) 0)]++[Value.int .i64 (x.sl.getD (c.ae (IntKind.u32.wrap (aj x.w+4))) 0)]++[Value.int .i64 (x.sl.getD (c.ae (IntKind.u32.wrap (aj x.w+5))) 0)]++[Value.int .i64 (x.sl.getD (c.ae (IntKind.u32.wrap (aj x.w+6))) 0)]++[Value.int .i64 (x.sl.getD (c.ae (IntKind.u32.wrap (aj x.w+7))) 0)]):=by simp only[show x.sl.getD (c.ae (IntKind.u32.wrap (aj x.w+0))) 0=aR c x 0 from bK 0,show x.sl.getD (c.ae (IntKind.u32.wrap (aj x.w+1))) 0=aR c x 1 from bK 1,show x.sl.getD (c.ae (IntKind.u32.wrap (aj x.w+2))) 0=aR c x 2 from bK 2,show x.sl.getD (c.ae (IntKind.u32.wrap (aj x.w+3))) 0=aR c x 3 from bK 3,show x.sl.getD (c.ae (IntKind.u32.wrap (aj x.w+4))) 0=aR c x 4 from bK 4,show x.sl.getD (c.ae (IntKind.u32.wrap (aj x.w+5))) 0=aR c x 5 from bK 5,show x.sl.getD (c.ae (IntKind.u32.wrap (aj x.w+6))) 0=aR c x 6 from bK 6,show x.sl.getD (c.ae (IntKind.u32.wrap (aj x.w+7))) 0=aR c x 7 from bK 7];rfl
   rw[e1,e2]
   exact h2)
  exact⟨_,q1,rfl,q2⟩
end
end Go.Proofs.YtkmccgombmogmaaGreat
namespace Go.Proofs.YtkmccgombmogmaaGreat
open Go.Ev Go.Proofs.Tryz
open Go.RowKit
open Go.Ev (sy iz uz wz iN uN wN pz dv fc fn ak vk vd kn pc cc cr cm cd fr)
set_option maxRecDepth 8000
attribute [local irreducible] og
def lm(c:aP)(p:Nat)(x:fJ)(v:Value):aG where
 p:=λι F w=>∃ bp,v=.pointer (some ⟨bp,0,none⟩)/\(d7 c p bp x).p ι F w
 keep:=λι F w w' hk ⟨bp,e,h⟩=>⟨bp,e,(d7 c p bp x).keep ι F w w' hk h⟩
 mono:=λι κ F w hle ⟨bp,e,h⟩=>⟨bp,e,(d7 c p bp x).mono ι κ F w hle h⟩
structure TP where
 W0:World
 F0:Nat->Prop
 c:aP
 p:Nat
 v:Nat
 hp:p<c.n
 hv:v<c.n
 w:Int
 hw:fg w
 bv:Value
 eU:aV bv=true
 bt:List Int
 hbt:bt.length<=64
 bp:Nat
 bm:Nat
 bl:Nat
 m:bw
 hl:m.cells.length=4+c.off c.n
theorem ug(s:TP){ly:fJ}(hlo:jV ly)(hl0:ly.st≠0)(hmo:bT s.c s.m){b:Bool}(hd:decide ((av s.c s.p ly s.m).1.st=0)=b){F:Nat->Prop}{w:World}(h:cG [d7 s.c s.p s.bl ly,aK s.bm s.m] F w) :
  Calls prog 170 #[.pointer (some ⟨s.bl,0,none⟩),.pointer (some ⟨s.bm,0,none⟩)] w λe w'=>e=.returned (.bool b)/\af ⟨w,F⟩ [d7 s.c s.p s.bl (av s.c s.p ly s.m).1,aK s.bm (av s.c s.p ly s.m).2] w':=by
 rw[← hd];exact GJ s.hp hlo hl0 hmo h
theorem iC{n:Int}(h:0<=n/\n<4294967296):0<=cj n/\cj n<4294967296:=by unfold cj;omega
theorem yF(s:TP){F:Nat->Prop}{w:World}(hb1:0<s.bt.length)(hg:∀ g ∈ s.bt,0<=g)(h:cG [bQ 3 1 s.bv s.bt.length (bu s.bt)] F w) :
  Calls prog 172 #[s.c.v,.int .i64 (s.p:Int),Ev.cutV 1 (ig s.bv) 1 s.bt.length] w λe w'=>∃ u cd,Ev.dec cd=u/\e=.returned u/\af ⟨w,F⟩ [lm s.c s.p ⟨1,0,0,0,s.bt.drop 1⟩ u,bQ 3 1 s.bv s.bt.length (bu s.bt)] w':=by
 obtain⟨Fa,h1,h2⟩:=kM h;have h3:=(dQ.ro (dQ.full h1 hb1)).cut (lo:=1) (hi:=s.bt.length) hb1 (Nat.le_refl _);have e1:((bu s.bt).drop (1*1)).take ((s.bt.length-1)*1)=bu (s.bt.drop 1):=by
  rw[Nat.mul_one,Nat.mul_one,ue,List.take_of_length_le (by simp[bu])]
 rw[e1]at h3;have e2:(s.bt.drop 1).length=s.bt.length-1:=List.length_drop;rw[← e2]at h3;refine(Jo s.hp h3 (λg hm=>hg g (List.mem_of_mem_drop hm)) (by have:=s.hbt;omega) h).mono ?_;rintro e w' ⟨b,rfl,hh⟩;exact⟨_,_,qj _ _,rfl,hh.head (λF h=>⟨b,rfl,h⟩)⟩
abbrev Kz(s:TP):Value:=(.agg #[iN s.c.n,iN s.c.q,iz s.c.g,iz s.c.m,iz s.c.t,iz s.c.s])
abbrev GT:List ic:=[(4,[sy 11,sy 1,sy 12,sy 13,sy 14,sy 15,.pointer none,sy 16,sy 17,iz 1,sy 18,sy 0,iz 0],156)]
abbrev KB:List ic:=[(4,[sy 11,sy 1,sy 12,sy 13,sy 14,sy 15,.pointer none,sy 16,sy 17,iz 0,sy 21,.complex .f32 407 0,iz 0],156)]
abbrev uh:List (Nat×Value):=[(0,.pointer (some ⟨4,0,none⟩)),(1,sy 19)]
abbrev fH(s:TP):aG:=bQ 3 1 (s.bv) (s.bt.length) (bu s.bt)
abbrev p8(s:TP):List aG:=[aK s.bm s.m,fH s]
abbrev ui(s:TP):List aG:=[aK s.bm s.m.tick,fH s]
abbrev GU(s:TP):List aG:=[aK s.bm s.m.tick,fH s,jE 407 (λv=>bQ 3 1 v 0 [])]
abbrev mT(s:TP):List (Nat×Value):=[(0,pz s.bp),(1,pz s.bm)]
abbrev Av(s:TP):List aG:=[aH s.bp [iN s.c.n,iN s.c.q,iz s.c.g,iz s.c.m,iz s.c.t,iz s.c.s,(.pointer none),iN s.p,iN s.v,iz 1,uz s.w,s.bv,iz 0] 156,aK s.bm s.m,fH s]
abbrev GV:List ic:=[(4,[sy 11,sy 1,sy 12,sy 13,sy 14,sy 15,.pointer none,sy 16,sy 17,iz 2,sy 18,sy 0,iz 0],156)]
abbrev GX(s:TP)(x:Int):List aG:=[aK s.bm s.m.tick,jE 411 (λv=>bQ 3 1 v (s.bt.length+1) ((bu s.bt)++[(iz (IntKind.i64.wrap (x)))]))]
abbrev GY(s:TP):List aG:=[aH s.bp [iN s.c.n,iN s.c.q,iz s.c.g,iz s.c.m,iz s.c.t,iz s.c.s,(.pointer none),iN s.p,iN s.v,iz 2,uz s.w,s.bv,iz 0] 156,aK s.bm s.m,fH s]
abbrev Aw(s:TP):List aG:=[aH s.bp [iN s.c.n,iN s.c.q,iz s.c.g,iz s.c.m,iz s.c.t,iz s.c.s,(.pointer none),iN s.p,iN s.v,iz 3,uz s.w,s.bv,iz 0] 156,aK s.bm s.m,fH s]
abbrev GZ:List ic:=[(4,[sy 13,sy 3,sy 14,sy 15,sy 16,sy 17,.pointer none,sy 18,sy 19,iz 3,sy 20,sy 0,iz 0],156)]
abbrev v7:List (Nat×Value):=[(0,.pointer (some ⟨4,0,none⟩)),(1,sy 21)]
abbrev v8(s:TP):aG:=aK s.bm (s.m.put (s.c.word s.v) (fq s.w (cj (aO s.w))))
abbrev G0(s:TP):List aG:=[v8 s,fH s]
abbrev G5(s:TP):List aG:=[jE 407 (λv=>lm s.c s.p ⟨1,0,0,0,s.bt.drop 1⟩ v),fH s,v8 s]
abbrev Ay:List ic:=[(4,[sy 11,sy 1,sy 12,sy 13,sy 14,sy 15,sy 16,sy 17,sy 18,iz 4,sy 19,sy 0,sy 20],156)]
abbrev G6(s:TP)(ly:fJ):List aG:=[d7 s.c s.p s.bl (av s.c s.p ly s.m).1,aK s.bm ((av s.c s.p ly s.m).2),fH s]
abbrev G7(s:TP)(mn:Nat):aG:=aH s.bp [iN s.c.n,iN s.c.q,iz s.c.g,iz s.c.m,iz s.c.t,iz s.c.s,pz s.bl,iN s.p,iN s.v,iz 4,uz s.w,s.bv,iN mn] 156
abbrev G8(s:TP)(ly:fJ)(mn:Nat):List aG:=[(G7 s mn),aK s.bm s.m,fH s,d7 s.c s.p s.bl ly]
theorem R2(s:TP)(x:Int)(hxu:fg x)(hxa:s.m.cells[s.c.word s.v]? = some x)(h1:(aO (x))=0):ce prog 166 [] 0 43 ⟨s.W0,s.F0⟩ (mT s) (Av s) (λκ:am=>(.bool true)) (λκ:am=>[aH s.bp [iN s.c.n,iN s.c.q,iz s.c.g,iz s.c.m,iz s.c.t,iz s.c.s,(.pointer none),iN s.p,iN s.v,iz 0,uz x,dv κ 407,iz 0] 156,aK s.bm s.m.tick,fH s,bQ 3 1 (dv κ 407) 0 []]):=by have q0:=s.c.z s.hv;have q6:=s.hl;have q7:=s.hbt;exact(eH (c:=⟨s.W0,s.F0⟩) 7 (kn [s.bv,iN (s.c.q),iN (s.c.q / 2),wN (s.c.q / 2),wN (s.c.q),wz (cj (aO s.w)),iz (cj (aO s.w)),iN (s.bt.length),wN (s.bt.length),wz (aj (s.w)),wz (IntKind.u32.wrap (aj s.w+((s.bt.length:Nat):Int))),iN (s.c.n),iz (s.c.g),iz (s.c.m),iz (s.c.t),iz (s.c.s),iN (s.p),iN (s.v),uz (s.w),pz s.bm,iN (s.c.word s.v),uz (x),wz (aO (x))] (fc s.eU fr) [(.eql,sy 22,.int .u32 0,.bool true)] [] [] (fc (λ_ _ _=>cO (by first|(simpa using h1)|(simp;omega))) fn) fn fn s.W0 s.F0 [p8 s,ui s,GU s] [⟨[19,35],[iz 0,sy 1],none,1,some 407,.complex .f32 407 0,some 2⟩] [⟨40,[.agg #[sy 11,sy 1,sy 12,sy 13,sy 14,sy 15],sy 17],0,none,sy 20,none⟩,⟨150,[sy 19,sy 20],0,none,sy 21,some 1⟩,⟨42,[sy 21],2,none,sy 22,none⟩]) (fc (by obtain⟨i,i1,i2,i3,i4⟩:=bY;exact rM rfl rfl (gS rfl) underlying35 i1 i2 i3 rfl (by rw[i4];omega) (by unfold maxLen;omega)) fn) (fc (pc rfl (λw hb=>cD s.c s.v s.hv w)) (fc (cc rfl [aK s.bm s.m.tick] [0] [1] (λw F ho hn hF=>cZ hn hxa (fp hxa (by omega)))) (fc (pc (args:=[uz x]) rfl (λw hb=>ag (cz _ hxu w))) fn))) rfl [(4,s.bp)] GT KB 2 rfl rfl uh (.bool true)).conv (λκ w=>⟨(λ_ h=>h),(λ_ h=>h),(λ_ h=>h),(λ_ h=>fW (a:=λv=>bQ 3 1 v 0 []) (λ_ _ _ _ _ h=>h) h),trivial⟩)
theorem R3(s:TP)(x:Int)(hxu:fg x)(hxa:s.m.cells[s.c.word s.v]? = some x)(h1:¬ (aO (x))=0)(h2:(aO (x))>((s.c.q:Nat):Int)):ce prog 166 [] 0 43 ⟨s.W0,s.F0⟩ (mT s) (Av s) (λκ:am=>(.bool true)) (λκ:am=>[aH s.bp [iN s.c.n,iN s.c.q,iz s.c.g,iz s.c.m,iz s.c.t,iz s.c.s,(.pointer none),iN s.p,iN s.v,iz 0,uz x,dv κ 407,iz 0] 156,aK s.bm s.m.tick,fH s,bQ 3 1 (dv κ 407) 0 []]):=by have q0:=s.c.z s.hv;have q6:=s.hl;have q7:=s.hbt;exact(eH (c:=⟨s.W0,s.F0⟩) 7 (kn [s.bv,iN (s.c.q),iN (s.c.q / 2),wN (s.c.q / 2),wN (s.c.q),wz (cj (aO s.w)),iz (cj (aO s.w)),iN (s.bt.length),wN (s.bt.length),wz (aj (s.w)),wz (IntKind.u32.wrap (aj s.w+((s.bt.length:Nat):Int))),iN (s.c.n),iz (s.c.g),iz (s.c.m),iz (s.c.t),iz (s.c.s),iN (s.p),iN (s.v),uz (s.w),pz s.bm,iN (s.c.word s.v),uz (x),wz (aO (x))] (fc s.eU fr) [(.eql,sy 22,.int .u32 0,.bool false),(.gtr,sy 22,sy 4,.bool true)] [] [(.u32,sy 1,sy 4)] (fc (λ_ _ _=>cO (by first|(simpa using h1)|(simp;omega))) (fc (λ_ _ _=>hE (by first|(simpa using h2)|(simp;omega))) fn)) fn (fc (cx rfl rfl (by have q2:=s.c.qb;rw[b7];omega)) fn) s.W0 s.F0 [p8 s,ui s,GU s] [⟨[19,35],[iz 0,sy 1],none,1,some 407,.complex .f32 407 0,some 2⟩] [⟨40,[.agg #[sy 11,sy 1,sy 12,sy 13,sy 14,sy 15],sy 17],0,none,sy 20,none⟩,⟨150,[sy 19,sy 20],0,none,sy 21,some 1⟩,⟨42,[sy 21],2,none,sy 22,none⟩]) (fc (by obtain⟨i,i1,i2,i3,i4⟩:=bY;exact rM rfl rfl (gS rfl) underlying35 i1 i2 i3 rfl (by rw[i4];omega) (by unfold maxLen;omega)) fn) (fc (pc rfl (λw hb=>cD s.c s.v s.hv w)) (fc (cc rfl [aK s.bm s.m.tick] [0] [1] (λw F ho hn hF=>cZ hn hxa (fp hxa (by omega)))) (fc (pc (args:=[uz x]) rfl (λw hb=>ag (cz _ hxu w))) fn))) rfl [(4,s.bp)] GT KB 2 rfl rfl uh (.bool true)).conv (λκ w=>⟨(λ_ h=>h),(λ_ h=>h),(λ_ h=>h),(λ_ h=>fW (a:=λv=>bQ 3 1 v 0 []) (λ_ _ _ _ _ h=>h) h),trivial⟩)
theorem R4(s:TP)(x:Int)(hxu:fg x)(hxa:s.m.cells[s.c.word s.v]? = some x)(h1:¬ (aO (x))=0)(h2:¬ (aO (x))>((s.c.q:Nat):Int)):ce prog 166 [] 0 43 ⟨s.W0,s.F0⟩ (mT s) (Av s) (λκ:am=>(.bool false)) (λκ:am=>[aH s.bp [iN s.c.n,iN s.c.q,iz s.c.g,iz s.c.m,iz s.c.t,iz s.c.s,(.pointer none),iN s.p,iN s.v,iz 2,uz x,dv κ 407,iz 0] 156,aK s.bm s.m.tick,fH s,bQ 3 1 (dv κ 407) 0 []]):=by have q0:=s.c.z s.hv;have q6:=s.hl;have q7:=s.hbt;exact(eH (c:=⟨s.W0,s.F0⟩) 7 (kn [s.bv,iN (s.c.q),iN (s.c.q / 2),wN (s.c.q / 2),wN (s.c.q),wz (cj (aO s.w)),iz (cj (aO s.w)),iN (s.bt.length),wN (s.bt.length),wz (aj (s.w)),wz (IntKind.u32.wrap (aj s.w+((s.bt.length:Nat):Int))),iN (s.c.n),iz (s.c.g),iz (s.c.m),iz (s.c.t),iz (s.c.s),iN (s.p),iN (s.v),uz (s.w),pz s.bm,iN (s.c.word s.v),uz (x),wz (aO (x))] (fc s.eU fr) [(.eql,sy 22,.int .u32 0,.bool false),(.gtr,sy 22,sy 4,.bool false)] [] [(.u32,sy 1,sy 4)] (fc (λ_ _ _=>cO (by first|(simpa using h1)|(simp;omega))) (fc (λ_ _ _=>hE (by first|(simpa using h2)|(simp;omega))) fn)) fn (fc (cx rfl rfl (by have q2:=s.c.qb;rw[b7];omega)) fn) s.W0 s.F0 [p8 s,ui s,GU s] [⟨[19,35],[iz 0,sy 1],none,1,some 407,.complex .f32 407 0,some 2⟩] [⟨40,[.agg #[sy 11,sy 1,sy 12,sy 13,sy 14,sy 15],sy 17],0,none,sy 20,none⟩,⟨150,[sy 19,sy 20],0,none,sy 21,some 1⟩,⟨42,[sy 21],2,none,sy 22,none⟩]) (fc (by obtain⟨i,i1,i2,i3,i4⟩:=bY;exact rM rfl rfl (gS rfl) underlying35 i1 i2 i3 rfl (by rw[i4];omega) (by unfold maxLen;omega)) fn) (fc (pc rfl (λw hb=>cD s.c s.v s.hv w)) (fc (cc rfl [aK s.bm s.m.tick] [0] [1] (λw F ho hn hF=>cZ hn hxa (fp hxa (by omega)))) (fc (pc (args:=[uz x]) rfl (λw hb=>ag (cz _ hxu w))) fn))) rfl [(4,s.bp)] GT [(4,[sy 11,sy 1,sy 12,sy 13,sy 14,sy 15,.pointer none,sy 16,sy 17,iz 2,sy 21,.complex .f32 407 0,iz 0],156)] 2 rfl rfl uh (.bool false)).conv (λκ w=>⟨(λ_ h=>h),(λ_ h=>h),(λ_ h=>h),(λ_ h=>fW (a:=λv=>bQ 3 1 v 0 []) (λ_ _ _ _ _ h=>h) h),trivial⟩)
theorem std(s:TP)(x:Int)(hxu:fg x)(hxa:s.m.cells[s.c.slot s.v (IntKind.u32.wrap (aj s.w+((s.bt.length:Nat):Int)))]? = some x)(h1:((s.bt.length+1:Nat):Int)=(cj (aO s.w))):ce prog 166 [] 0 43 ⟨s.W0,s.F0⟩ (mT s) (GY s) (λκ:am=>(.bool false)) (λκ:am=>[aH s.bp [iN s.c.n,iN s.c.q,iz s.c.g,iz s.c.m,iz s.c.t,iz s.c.s,(.pointer none),iN s.p,iN s.v,iz 3,uz s.w,dv κ 411,iz 0] 156,aK s.bm s.m.tick,bQ 3 1 (dv κ 411) (s.bt.length+1) ((bu s.bt)++[(iz (IntKind.i64.wrap (x)))])]):=by have q0:=s.c.z s.hv;have q6:=s.hl;have q7:=s.hbt;obtain⟨i,i1,i2,i3,i4⟩:=bY;exact(eH (c:=⟨s.W0,s.F0⟩) 7 (kn [s.bv,iN (s.c.q),iN (s.c.q / 2),wN (s.c.q / 2),wN (s.c.q),wz (cj (aO s.w)),iz (cj (aO s.w)),iN (s.bt.length),wN (s.bt.length),wz (aj (s.w)),wz (IntKind.u32.wrap (aj s.w+((s.bt.length:Nat):Int))),iN (s.c.n),iz (s.c.g),iz (s.c.m),iz (s.c.t),iz (s.c.s),iN (s.p),iN (s.v),uz (s.w),pz s.bm,iN (s.c.slot s.v (IntKind.u32.wrap (aj s.w+((s.bt.length:Nat):Int)))),uz (x),iz (IntKind.i64.wrap (x)),iN (s.bt.length+1),wz (aO (s.w))] (fc s.eU fr) [(.add,sy 9,sy 8,sy 10),(.eql,sy 23,sy 6,.bool true)] [] [(.u32,sy 7,sy 8),(.i64,sy 21,sy 22),(.i64,sy 5,sy 6)] (fc (λ_ _ _=>aN rfl) (fc (λ_ _ _=>cO (by first|(simpa using h1)|(simp;omega))) fn)) fn (fc (cx rfl rfl (by rw[b7];omega)) (fc ⟨.u64,_,rfl,rfl⟩ (fc (cx rfl rfl (by have:=iC (cu s.w);exact aW (by omega) (by omega))) fn))) s.W0 s.F0 [p8 s,ui s,(GX s x)] [⟨[10,35],[sy 0],none,0,none,sy 7,none⟩,⟨[11,35,35],[sy 0],some (1,1,[sy 22]),1,some 411,.complex .f32 411 0,some 2⟩,⟨[10,35],[.complex .f32 411 0],none,2,none,sy 23,none⟩] [⟨73,[sy 18],0,none,sy 9,none⟩,⟨43,[.agg #[sy 11,sy 1,sy 12,sy 13,sy 14,sy 15],sy 17,sy 10],0,none,sy 20,none⟩,⟨150,[sy 19,sy 20],0,none,sy 21,some 1⟩,⟨42,[sy 18],2,none,sy 24,none⟩,⟨117,[sy 24],2,none,sy 5,none⟩]) (fc (by exact bx (ci:=2) rfl rfl underlying35 i2 rfl rfl) (fc (by exact jP (ci:=2) (m:=1) (cs:=[(iz (IntKind.i64.wrap (x)))]) rfl rfl rfl underlying35 underlying35 i1 i2 (by omega) i3 (by rw[i2];rfl) (by rw[i4];omega) (by omega) rfl rfl (ak (by kernel_rfl) (by kernel_rfl))) (fc (by exact qx (ci:=2) rfl rfl underlying35 i2 rfl) fn))) (fc (pc (args:=[uz s.w]) rfl (λw hb=>ag (ct _ s.hw w))) (fc (pc (args:=[Kz s,iN s.v,(wz (IntKind.u32.wrap (aj s.w+((s.bt.length:Nat):Int))))]) rfl (λw hb=>iA s.c s.v s.hv (IntKind.u32.wrap (aj s.w+((s.bt.length:Nat):Int))) (by first | exact kN _ | exact(bJ s.hw).1) w)) (fc (cc rfl [aK s.bm s.m.tick] [0] [1] (λw F ho hn hF=>cZ hn hxa (fp hxa (by omega)))) (fc (pc (args:=[uz s.w]) rfl (λw hb=>ag (cz _ s.hw w))) (fc (pc (args:=[(wz (aO (s.w)))]) rfl (λw hb=>ag (pD _ (cu _) w))) fn))))) rfl [(4,s.bp)] GV [(4,[sy 11,sy 1,sy 12,sy 13,sy 14,sy 15,.pointer none,sy 16,sy 17,iz 3,sy 18,.complex .f32 411 0,iz 0],156)] 2 rfl rfl uh (.bool false)).conv (λκ w=>⟨(λ_ h=>h),(λ_ h=>h),(λ_ h=>fW (a:=λv=>bQ 3 1 v (s.bt.length+1) ((bu s.bt)++[(iz (IntKind.i64.wrap (x)))])) (λ_ _ _ _ _ h=>h) h),trivial⟩)
theorem R5(s:TP)(x:Int)(hxu:fg x)(hxa:s.m.cells[s.c.slot s.v (IntKind.u32.wrap (aj s.w+((s.bt.length:Nat):Int)))]? = some x)(h1:¬ ((s.bt.length+1:Nat):Int)=(cj (aO s.w))):ce prog 166 [] 0 43 ⟨s.W0,s.F0⟩ (mT s) (GY s) (λκ:am=>(.bool false)) (λκ:am=>[aH s.bp [iN s.c.n,iN s.c.q,iz s.c.g,iz s.c.m,iz s.c.t,iz s.c.s,(.pointer none),iN s.p,iN s.v,iz 2,uz s.w,dv κ 411,iz 0] 156,aK s.bm s.m.tick,bQ 3 1 (dv κ 411) (s.bt.length+1) ((bu s.bt)++[(iz (IntKind.i64.wrap (x)))])]):=by have q0:=s.c.z s.hv;have q6:=s.hl;have q7:=s.hbt;obtain⟨i,i1,i2,i3,i4⟩:=bY;exact(eH (c:=⟨s.W0,s.F0⟩) 7 (kn [s.bv,iN (s.c.q),iN (s.c.q / 2),wN (s.c.q / 2),wN (s.c.q),wz (cj (aO s.w)),iz (cj (aO s.w)),iN (s.bt.length),wN (s.bt.length),wz (aj (s.w)),wz (IntKind.u32.wrap (aj s.w+((s.bt.length:Nat):Int))),iN (s.c.n),iz (s.c.g),iz (s.c.m),iz (s.c.t),iz (s.c.s),iN (s.p),iN (s.v),uz (s.w),pz s.bm,iN (s.c.slot s.v (IntKind.u32.wrap (aj s.w+((s.bt.length:Nat):Int)))),uz (x),iz (IntKind.i64.wrap (x)),iN (s.bt.length+1),wz (aO (s.w))] (fc s.eU fr) [(.add,sy 9,sy 8,sy 10),(.eql,sy 23,sy 6,.bool false)] [] [(.u32,sy 7,sy 8),(.i64,sy 21,sy 22),(.i64,sy 5,sy 6)] (fc (λ_ _ _=>aN rfl) (fc (λ_ _ _=>cO (by first|(simpa using h1)|(simp;omega))) fn)) fn (fc (cx rfl rfl (by rw[b7];omega)) (fc ⟨.u64,_,rfl,rfl⟩ (fc (cx rfl rfl (by have:=iC (cu s.w);exact aW (by omega) (by omega))) fn))) s.W0 s.F0 [p8 s,ui s,(GX s x)] [⟨[10,35],[sy 0],none,0,none,sy 7,none⟩,⟨[11,35,35],[sy 0],some (1,1,[sy 22]),1,some 411,.complex .f32 411 0,some 2⟩,⟨[10,35],[.complex .f32 411 0],none,2,none,sy 23,none⟩] [⟨73,[sy 18],0,none,sy 9,none⟩,⟨43,[.agg #[sy 11,sy 1,sy 12,sy 13,sy 14,sy 15],sy 17,sy 10],0,none,sy 20,none⟩,⟨150,[sy 19,sy 20],0,none,sy 21,some 1⟩,⟨42,[sy 18],2,none,sy 24,none⟩,⟨117,[sy 24],2,none,sy 5,none⟩]) (fc (by exact bx (ci:=2) rfl rfl underlying35 i2 rfl rfl) (fc (by exact jP (ci:=2) (m:=1) (cs:=[(iz (IntKind.i64.wrap (x)))]) rfl rfl rfl underlying35 underlying35 i1 i2 (by omega) i3 (by rw[i2];rfl) (by rw[i4];omega) (by omega) rfl rfl (ak (by kernel_rfl) (by kernel_rfl))) (fc (by exact qx (ci:=2) rfl rfl underlying35 i2 rfl) fn))) (fc (pc (args:=[uz s.w]) rfl (λw hb=>ag (ct _ s.hw w))) (fc (pc (args:=[Kz s,iN s.v,(wz (IntKind.u32.wrap (aj s.w+((s.bt.length:Nat):Int))))]) rfl (λw hb=>iA s.c s.v s.hv (IntKind.u32.wrap (aj s.w+((s.bt.length:Nat):Int))) (by first | exact kN _ | exact(bJ s.hw).1) w)) (fc (cc rfl [aK s.bm s.m.tick] [0] [1] (λw F ho hn hF=>cZ hn hxa (fp hxa (by omega)))) (fc (pc (args:=[uz s.w]) rfl (λw hb=>ag (cz _ s.hw w))) (fc (pc (args:=[(wz (aO (s.w)))]) rfl (λw hb=>ag (pD _ (cu _) w))) fn))))) rfl [(4,s.bp)] GV [(4,[sy 11,sy 1,sy 12,sy 13,sy 14,sy 15,.pointer none,sy 16,sy 17,iz 2,sy 18,.complex .f32 411 0,iz 0],156)] 2 rfl rfl uh (.bool false)).conv (λκ w=>⟨(λ_ h=>h),(λ_ h=>h),(λ_ h=>fW (a:=λv=>bQ 3 1 v (s.bt.length+1) ((bu s.bt)++[(iz (IntKind.i64.wrap (x)))])) (λ_ _ _ _ _ h=>h) h),trivial⟩)
theorem R6(s:TP)(x:Int)(hxu:fg x)(hxa:s.m.cells[s.c.word s.v]? = some x)(hc:x≠s.w):ce prog 166 [] 0 43 ⟨s.W0,s.F0⟩ (mT s) (Aw s) (λκ:am=>(.bool false)) (λκ:am=>[aH s.bp [iN s.c.n,iN s.c.q,iz s.c.g,iz s.c.m,iz s.c.t,iz s.c.s,(.pointer none),iN s.p,iN s.v,iz 1,uz s.w,.slice none 0 0,iz 0] 156,aK s.bm s.m.tick,fH s]):=(eH (c:=⟨s.W0,s.F0⟩) 7 (kn [s.bv,iN (s.c.q),iN (s.c.q / 2),wN (s.c.q / 2),wN (s.c.q),wz (cj (aO s.w)),iz (cj (aO s.w)),iN (s.bt.length),wN (s.bt.length),wz (aj (s.w)),wz (IntKind.u32.wrap (aj s.w+((s.bt.length:Nat):Int))),iN (s.c.n),iz (s.c.g),iz (s.c.m),iz (s.c.t),iz (s.c.s),iN (s.p),iN (s.v),uz (s.w),pz s.bm,iN (s.c.word s.v),wz (aO (s.w)),uz (fq s.w (cj (aO s.w)))] (fc s.eU fr) [] [] [(.i64,sy 5,sy 6),(.u32,sy 6,sy 5)] fn fn (fc (cx rfl rfl (by have:=iC (cu s.w);exact aW (by omega) (by omega))) (fc (cx rfl rfl (by have:=iC (cu s.w);rw[b7];omega)) fn)) s.W0 s.F0 [p8 s,ui s] [] [⟨40,[.agg #[sy 11,sy 1,sy 12,sy 13,sy 14,sy 15],sy 17],0,none,sy 20,none⟩,⟨42,[sy 18],0,none,sy 21,none⟩,⟨117,[sy 21],0,none,sy 5,none⟩,⟨115,[sy 18,sy 5],0,none,sy 22,none⟩,⟨154,[sy 19,sy 20,sy 18,sy 22],0,none,.bool false,some 1⟩]) fn (fc (pc rfl (λw hb=>cD s.c s.v s.hv w)) (fc (pc (args:=[uz s.w]) rfl (λw hb=>ag (cz _ s.hw w))) (fc (pc (args:=[(wz (aO (s.w)))]) rfl (λw hb=>ag (pD _ (cu _) w))) (fc (pc (args:=[uz s.w,(wz (cj (aO s.w)))]) rfl (λw hb=>ag (t8 _ (cj (aO s.w)) s.hw w))) (fc (cc rfl [aK s.bm s.m.tick] [0] [1] (λw F ho hn hF=>ou hn hxa (by have q0:=s.c.z s.hv;have q6:=s.hl;have q7:=s.hbt;omega) s.w (fq s.w (cj (aO s.w))) hc)) fn))))) rfl [(4,s.bp)] [(4,[sy 11,sy 1,sy 12,sy 13,sy 14,sy 15,.pointer none,sy 16,sy 17,iz 3,sy 18,sy 0,iz 0],156)] [(4,[sy 11,sy 1,sy 12,sy 13,sy 14,sy 15,.pointer none,sy 16,sy 17,iz 1,sy 18,.slice none 0 0,iz 0],156)] 1 rfl rfl uh (.bool false))
theorem R7(s:TP)(x:Int)(hxu:fg x)(hxa:s.m.cells[s.c.word s.v]? = some x)(hc:x=s.w)(hb1:0<s.bt.length)(hg:∀ g ∈ s.bt,0<=g)(h1:((s.bt.length:Nat):Int)=1):ce prog 166 [] 0 43 ⟨s.W0,s.F0⟩ (mT s) (Aw s) (λκ:am=>(.bool true)) (λκ:am=>[aH s.bp [iN s.c.n,iN s.c.q,iz s.c.g,iz s.c.m,iz s.c.t,iz s.c.s,dv κ 407,iN s.p,iN s.v,iz 0,uz s.w,(ig (s.bv)),iN s.bt.length] 156,lm s.c s.p ⟨1,0,0,0,s.bt.drop 1⟩ (dv κ 407),fH s,v8 s]):=by have q0:=s.c.z s.hv;have q6:=s.hl;have q7:=s.hbt;obtain⟨i,i1,i2,i3,i4⟩:=bY;exact(eH (c:=⟨s.W0,s.F0⟩) 7 (kn [s.bv,ig (s.bv),Ev.cutV 1 (ig (s.bv)) 1 (s.bt.length),iN (s.c.q),iN (s.c.q / 2),wN (s.c.q / 2),wN (s.c.q),wz (cj (aO s.w)),iz (cj (aO s.w)),iN (s.bt.length),wN (s.bt.length),wz (aj (s.w)),wz (IntKind.u32.wrap (aj s.w+((s.bt.length:Nat):Int))),iN (s.c.n),iz (s.c.g),iz (s.c.m),iz (s.c.t),iz (s.c.s),iN (s.p),iN (s.v),uz (s.w),pz s.bm,iN (s.c.word s.v),wz (aO (s.w)),uz (fq s.w (cj (aO s.w)))] (fc s.eU (fc (by first | assumption | exact s.eU | exact dO s.eU | exact gx (dO s.eU)) (fc (by first | assumption | exact s.eU | exact dO s.eU | exact gx (dO s.eU)) fr))) [(.eql,sy 9,iz 1,.bool true)] [] [(.i64,sy 7,sy 8),(.u32,sy 8,sy 7)] (fc (λ_ _ _=>cO (by first|(simpa using h1)|(simp;omega))) fn) fn (fc (cx rfl rfl (by have:=iC (cu s.w);exact aW (by omega) (by omega))) (fc (cx rfl rfl (by have:=iC (cu s.w);rw[b7];omega)) fn)) s.W0 s.F0 [p8 s,G0 s,G5 s] [⟨[10,35],[sy 0],none,1,none,sy 9,none⟩,⟨[4,35,0,1,1],[sy 0,sy 9,sy 9],none,1,none,sy 1,none⟩,⟨[4,35,1,0,0],[sy 1,iz 1],none,1,none,sy 2,none⟩] [⟨40,[.agg #[sy 13,sy 3,sy 14,sy 15,sy 16,sy 17],sy 19],0,none,sy 22,none⟩,⟨42,[sy 20],0,none,sy 23,none⟩,⟨117,[sy 23],0,none,sy 7,none⟩,⟨115,[sy 20,sy 7],0,none,sy 24,none⟩,⟨154,[sy 21,sy 22,sy 20,sy 24],0,none,.bool true,some 1⟩,⟨172,[.agg #[sy 13,sy 3,sy 14,sy 15,sy 16,sy 17],sy 18,sy 2],1,some 407,.complex .f32 407 0,some 2⟩]) (fc (by exact bx (ci:=2) rfl rfl underlying35 i2 rfl rfl) (fc (by exact BJ (ci:=2) rfl rfl hb1 underlying35 i1 rfl rfl rfl rfl) (fc (by exact Gg (ci:=2) (lo:=1) rfl rfl hb1 underlying35 i1 i2 rfl rfl hb1 rfl) fn))) (fc (pc rfl (λw hb=>cD s.c s.v s.hv w)) (fc (pc (args:=[uz s.w]) rfl (λw hb=>ag (cz _ s.hw w))) (fc (pc (args:=[(wz (aO (s.w)))]) rfl (λw hb=>ag (pD _ (cu _) w))) (fc (pc (args:=[uz s.w,(wz (cj (aO s.w)))]) rfl (λw hb=>ag (t8 _ (cj (aO s.w)) s.hw w))) (fc (cc rfl [aK s.bm (s.m.put (s.c.word s.v) (fq s.w (cj (aO s.w))))] [0] [1] (λw F ho hn hF=>jR hn hxa (by omega) s.w (fq s.w (cj (aO s.w))) hc)) (fc (cm rfl [λv=>lm s.c s.p ⟨1,0,0,0,s.bt.drop 1⟩ v] [bQ 3 1 (s.bv) (s.bt.length) (bu s.bt)] [1] [0] (λw F ho hn hF=>yF s hb1 hg hn)) fn)))))) rfl [(4,s.bp)] GZ [(4,[sy 13,sy 3,sy 14,sy 15,sy 16,sy 17,.complex .f32 407 0,sy 18,sy 19,iz 0,sy 20,sy 1,sy 9],156)] 2 rfl rfl v7 (.bool true)).conv (λκ w=>⟨(λ_ h=>h),(λ_ h=>fW (a:=λv=>lm s.c s.p ⟨1,0,0,0,s.bt.drop 1⟩ v) (λ_ _ _ _ _ h=>h) h),(λ_ h=>h),(λ_ h=>h),trivial⟩)
theorem R8(s:TP)(x:Int)(hxu:fg x)(hxa:s.m.cells[s.c.word s.v]? = some x)(hc:x=s.w)(hb1:0<s.bt.length)(hg:∀ g ∈ s.bt,0<=g)(h1:¬ ((s.bt.length:Nat):Int)=1):ce prog 166 [] 0 43 ⟨s.W0,s.F0⟩ (mT s) (Aw s) (λκ:am=>(.bool false)) (λκ:am=>[aH s.bp [iN s.c.n,iN s.c.q,iz s.c.g,iz s.c.m,iz s.c.t,iz s.c.s,dv κ 407,iN s.p,iN s.v,iz 4,uz s.w,(ig (s.bv)),iN s.bt.length] 156,lm s.c s.p ⟨1,0,0,0,s.bt.drop 1⟩ (dv κ 407),fH s,v8 s]):=by have q0:=s.c.z s.hv;have q6:=s.hl;have q7:=s.hbt;obtain⟨i,i1,i2,i3,i4⟩:=bY;exact(eH (c:=⟨s.W0,s.F0⟩) 7 (kn [s.bv,ig (s.bv),Ev.cutV 1 (ig (s.bv)) 1 (s.bt.length),iN (s.c.q),iN (s.c.q / 2),wN (s.c.q / 2),wN (s.c.q),wz (cj (aO s.w)),iz (cj (aO s.w)),iN (s.bt.length),wN (s.bt.length),wz (aj (s.w)),wz (IntKind.u32.wrap (aj s.w+((s.bt.length:Nat):Int))),iN (s.c.n),iz (s.c.g),iz (s.c.m),iz (s.c.t),iz (s.c.s),iN (s.p),iN (s.v),uz (s.w),pz s.bm,iN (s.c.word s.v),wz (aO (s.w)),uz (fq s.w (cj (aO s.w)))] (fc s.eU (fc (by first | assumption | exact s.eU | exact dO s.eU | exact gx (dO s.eU)) (fc (by first | assumption | exact s.eU | exact dO s.eU | exact gx (dO s.eU)) fr))) [(.eql,sy 9,iz 1,.bool false)] [] [(.i64,sy 7,sy 8),(.u32,sy 8,sy 7)] (fc (λ_ _ _=>cO (by first|(simpa using h1)|(simp;omega))) fn) fn (fc (cx rfl rfl (by have:=iC (cu s.w);exact aW (by omega) (by omega))) (fc (cx rfl rfl (by have:=iC (cu s.w);rw[b7];omega)) fn)) s.W0 s.F0 [p8 s,G0 s,G5 s] [⟨[10,35],[sy 0],none,1,none,sy 9,none⟩,⟨[4,35,0,1,1],[sy 0,sy 9,sy 9],none,1,none,sy 1,none⟩,⟨[4,35,1,0,0],[sy 1,iz 1],none,1,none,sy 2,none⟩] [⟨40,[.agg #[sy 13,sy 3,sy 14,sy 15,sy 16,sy 17],sy 19],0,none,sy 22,none⟩,⟨42,[sy 20],0,none,sy 23,none⟩,⟨117,[sy 23],0,none,sy 7,none⟩,⟨115,[sy 20,sy 7],0,none,sy 24,none⟩,⟨154,[sy 21,sy 22,sy 20,sy 24],0,none,.bool true,some 1⟩,⟨172,[.agg #[sy 13,sy 3,sy 14,sy 15,sy 16,sy 17],sy 18,sy 2],1,some 407,.complex .f32 407 0,some 2⟩]) (fc (by exact bx (ci:=2) rfl rfl underlying35 i2 rfl rfl) (fc (by exact BJ (ci:=2) rfl rfl hb1 underlying35 i1 rfl rfl rfl rfl) (fc (by exact Gg (ci:=2) (lo:=1) rfl rfl hb1 underlying35 i1 i2 rfl rfl hb1 rfl) fn))) (fc (pc rfl (λw hb=>cD s.c s.v s.hv w)) (fc (pc (args:=[uz s.w]) rfl (λw hb=>ag (cz _ s.hw w))) (fc (pc (args:=[(wz (aO (s.w)))]) rfl (λw hb=>ag (pD _ (cu _) w))) (fc (pc (args:=[uz s.w,(wz (cj (aO s.w)))]) rfl (λw hb=>ag (t8 _ (cj (aO s.w)) s.hw w))) (fc (cc rfl [aK s.bm (s.m.put (s.c.word s.v) (fq s.w (cj (aO s.w))))] [0] [1] (λw F ho hn hF=>jR hn hxa (by omega) s.w (fq s.w (cj (aO s.w))) hc)) (fc (cm rfl [λv=>lm s.c s.p ⟨1,0,0,0,s.bt.drop 1⟩ v] [bQ 3 1 (s.bv) (s.bt.length) (bu s.bt)] [1] [0] (λw F ho hn hF=>yF s hb1 hg hn)) fn)))))) rfl [(4,s.bp)] GZ [(4,[sy 13,sy 3,sy 14,sy 15,sy 16,sy 17,.complex .f32 407 0,sy 18,sy 19,iz 4,sy 20,sy 1,sy 9],156)] 2 rfl rfl v7 (.bool false)).conv (λκ w=>⟨(λ_ h=>h),(λ_ h=>fW (a:=λv=>lm s.c s.p ⟨1,0,0,0,s.bt.drop 1⟩ v) (λ_ _ _ _ _ h=>h) h),(λ_ h=>h),(λ_ h=>h),trivial⟩)
theorem R9(s:TP)(ly:fJ)(mn:Nat)(hlo:jV ly)(hl0:ly.st≠0)(hmo:bT s.c s.m)(hd:decide ((av s.c s.p ly s.m).1.st=0)=true):ce prog 166 [] 0 43 ⟨s.W0,s.F0⟩ (mT s) (G8 s ly mn) (λκ:am=>(.bool true)) (λκ:am=>[aH s.bp [iN s.c.n,iN s.c.q,iz s.c.g,iz s.c.m,iz s.c.t,iz s.c.s,pz s.bl,iN s.p,iN s.v,iz 0,uz s.w,s.bv,iN mn] 156,d7 s.c s.p s.bl (av s.c s.p ly s.m).1,aK s.bm ((av s.c s.p ly s.m).2),fH s]):=(eH (c:=⟨s.W0,s.F0⟩) 7 (kn [s.bv,iN (s.c.q),iN (s.c.q / 2),wN (s.c.q / 2),wN (s.c.q),wz (cj (aO s.w)),iz (cj (aO s.w)),iN (s.bt.length),wN (s.bt.length),wz (aj (s.w)),wz (IntKind.u32.wrap (aj s.w+((s.bt.length:Nat):Int))),iN (s.c.n),iz (s.c.g),iz (s.c.m),iz (s.c.t),iz (s.c.s),pz s.bl,iN (s.p),iN (s.v),uz (s.w),iN (mn),pz s.bm] (fc s.eU fr) [] [] [] fn fn fn s.W0 s.F0 [[aK s.bm s.m,fH s,d7 s.c s.p s.bl ly],(G6 s ly)] [] [⟨170,[sy 16,sy 21],0,none,.bool true,some 1⟩]) fn (fc (cc rfl [d7 s.c s.p s.bl (av s.c s.p ly s.m).1,aK s.bm ((av s.c s.p ly s.m).2)] [2,0] [1] (λw F ho hn hF=>ug s hlo hl0 hmo hd hn)) fn) rfl [(4,s.bp)] Ay [(4,[sy 11,sy 1,sy 12,sy 13,sy 14,sy 15,sy 16,sy 17,sy 18,iz 0,sy 19,sy 0,sy 20],156)] 1 rfl rfl v7 (.bool true))
theorem R_(s:TP)(ly:fJ)(mn:Nat)(hlo:jV ly)(hl0:ly.st≠0)(hmo:bT s.c s.m)(hd:decide ((av s.c s.p ly s.m).1.st=0)=false):ce prog 166 [] 0 43 ⟨s.W0,s.F0⟩ (mT s) (G8 s ly mn) (λκ:am=>(.bool false)) (λκ:am=>[(G7 s mn),d7 s.c s.p s.bl (av s.c s.p ly s.m).1,aK s.bm ((av s.c s.p ly s.m).2),fH s]):=(eH (c:=⟨s.W0,s.F0⟩) 7 (kn [s.bv,iN (s.c.q),iN (s.c.q / 2),wN (s.c.q / 2),wN (s.c.q),wz (cj (aO s.w)),iz (cj (aO s.w)),iN (s.bt.length),wN (s.bt.length),wz (aj (s.w)),wz (IntKind.u32.wrap (aj s.w+((s.bt.length:Nat):Int))),iN (s.c.n),iz (s.c.g),iz (s.c.m),iz (s.c.t),iz (s.c.s),pz s.bl,iN (s.p),iN (s.v),uz (s.w),iN (mn),pz s.bm] (fc s.eU fr) [] [] [] fn fn fn s.W0 s.F0 [[aK s.bm s.m,fH s,d7 s.c s.p s.bl ly],(G6 s ly)] [] [⟨170,[sy 16,sy 21],0,none,.bool false,some 1⟩]) fn (fc (cc rfl [d7 s.c s.p s.bl (av s.c s.p ly s.m).1,aK s.bm ((av s.c s.p ly s.m).2)] [2,0] [1] (λw F ho hn hF=>ug s hlo hl0 hmo hd hn)) fn) rfl [(4,s.bp)] Ay Ay 1 rfl rfl v7 (.bool false))
end Go.Proofs.YtkmccgombmogmaaGreat
namespace Go.Proofs.YtkmccgombmogmaaGreat
open Go.Ev Go.Proofs.Tryz
open Go.RowKit
open Go.Ev (sy)
set_option maxRecDepth 8000
structure bD where
 st:Nat
 w:Int
 bt:List Int
 ly:Option fJ
def bD.many(x:bD):Nat:=match x.ly with | none=>0 | some _=>x.bt.length
def ai(c:aP)(p v:Nat)(x:bD)(m:bw):bD×bw :=
 match x.st with
 | 1=>(⟨if aO (ld m (c.word v))=0\/(c.q:Int)<aO (ld m (c.word v)) then 0 else 2,ld m (c.word v),[],none⟩,m.tick)
 | 2=>(⟨if ((x.bt.length+1:Nat):Int)=cj (aO x.w) then 3 else 2,x.w,x.bt++[IntKind.i64.wrap (ld m (c.slot v ((aj x.w+(x.bt.length:Int))%4294967296)))],none⟩,m.tick)
 | 3=>if ld m (c.word v)=x.w then (⟨if x.bt.length=1 then 0 else 4,x.w,x.bt,some ⟨1,0,0,0,x.bt.drop 1⟩⟩,m.put (c.word v) (fq x.w (cj (aO x.w)))) else (⟨1,x.w,[],none⟩,m.tick)
 | 4=>match x.ly with
  | some l=>(⟨if (av c p l m).1.st=0 then 0 else 4,x.w,x.bt,some (av c p l m).1⟩,(av c p l m).2)
  | none=>(x,m)
 | _=>(x,m)
structure Az(x:fJ):Prop where
 w:fg x.w
 b:x.k<=64/\x.n<=64
 ls:x.ls.length<=64
 gs:∀ g ∈ x.ls,Gn g
theorem jV.base{x:fJ}(h:jV x):Az x:=⟨h.w,h.b,h.ls,h.gs⟩
structure eZ(x:bD):Prop where
 st:x.st<5
 w:fg x.w
 bt:x.bt.length<=64
 gs:∀ g ∈ x.bt,Gn g
 one:x.st=1->x.bt=[]
 no:x.st=1\/x.st=2\/x.st=3->x.ly=none
 two:x.st=2->(x.bt.length:Int)<cj (aO x.w)/\cj (aO x.w)<=64
 three:x.st=3->0<x.bt.length
 four:x.st=4->∃ l,x.ly=some l/\jV l/\l.st≠0
 lay:∀ l,x.ly=some l->Az l/\0<x.bt.length
def kR(c:aP)(m:bw):Prop:=∀ p,p<c.n->∀ i,Gn (ld m (c.slot p i))
theorem kS{g:Int}(h:Gn g):IntKind.i64.wrap g=g:=aW (by have:=h.1;omega) h.2
def eB(c:aP)(p v bp:Nat)(x:bD)(bv lp:Value):aG:=aH bp [.int .i64 (c.n:Int),.int .i64 (c.q:Int),.int .i64 c.g,.int .i64 c.m,.int .i64 c.t,.int .i64 c.s,lp,.int .i64 (p:Int),.int .i64 (v:Int),.int .i64 (x.st:Int),.int .u64 x.w,bv,.int .i64 (x.many:Int)] 156
def rQ(c:aP)(p v bp:Nat)(x:bD)(e:Value×Value):List aG :=
 match x.ly with
 | none=>[eB c p v bp x e.1 (.pointer none),cf e.1 x.bt]
 | some l=>[eB c p v bp x e.1 e.2,cf e.1 x.bt,lm c p l e.2]
def cP(c:aP)(p v bp:Nat)(x:bD):aG:=C2 (λe:Value×Value=>aV e.1=true) (λe=>FF (rQ c p v bp x e))
theorem bU{ctx:dc}{a b:aG}{l:List aG}{w:World}(h:af ctx (a::b::l) w):af ctx (b::a::l) w:=by
 obtain⟨F,h1,h2,h3⟩:=h.ex;obtain⟨Fa,Fr,k1,k2,k3,k4⟩:=bI h1;obtain⟨Fb,Fl,m1,m2,m3,m4⟩:=bI k2;have q1:=bP k1 m2 (λj hj=>h1.lt j ((k4 j).2 (.inl hj))) (λj hj hf=>k3 j hj ((m4 j).2 (.inr hf)));have q2:=bP m1 q1 (λj hj=>k2.lt j ((m4 j).2 (.inl hj))) (λj hj hf=>hf.elim (λhf=>k3 j hf ((m4 j).2 (.inl hj))) (m3 j hj));refine⟨F,cF q2 (λj=>?_),h2,h3⟩;rw[k4 j,m4 j];constructor
 ·rintro(h | h | h)
  ·exact .inr (.inl h)
  ·exact .inl h
  ·exact .inr (.inr h)
 ·rintro(h | h | h)
  ·exact .inr (.inl h)
  ·exact .inl h
  ·exact .inr (.inr h)
theorem AA{ctx:dc}{a:aG}{l m:List aG}{w:World}(hm:∀ F,cG l F w->cG m F w)(h:af ctx (a::l) w):af ctx (a::m) w:=by
 obtain⟨F,h1,h2,h3⟩:=h.ex;obtain⟨Fa,Fr,k1,k2,k3,k4⟩:=bI h1;have q1:=bP k1 (hm _ k2) (λj hj=>h1.lt j ((k4 j).2 (.inl hj))) k3;exact⟨F,cF q1 (λj=>(k4 j).symm),h2,h3⟩
theorem yG{a b:aG}{l:List aG}{F:Nat->Prop}{w:World}(h:cG (a::b::l) F w):cG (b::a::l) F w:=by
 obtain⟨Fa,Fr,k1,k2,k3,k4⟩:=bI h;obtain⟨Fb,Fl,m1,m2,m3,m4⟩:=bI k2;have q1:=bP k1 m2 (λj hj=>h.lt j ((k4 j).2 (.inl hj))) (λj hj hf=>k3 j hj ((m4 j).2 (.inr hf)));have q2:=bP m1 q1 (λj hj=>k2.lt j ((m4 j).2 (.inl hj))) (λj hj hf=>hf.elim (λhf=>k3 j hf ((m4 j).2 (.inl hj))) (m3 j hj));refine cF q2 (λj=>?_);rw[k4 j,m4 j];constructor
 ·rintro(h | h | h)
  ·exact .inr (.inl h)
  ·exact .inl h
  ·exact .inr (.inr h)
 ·rintro(h | h | h)
  ·exact .inr (.inl h)
  ·exact .inl h
  ·exact .inr (.inr h)
section
variable{w:World}{F:Nat->Prop}{c:aP}{p v:Nat}{bp:Nat}{x:bD}{ctx:dc}{l:List aG}
theorem gC(h0:x.ly=none)(h:af ctx (cP c p v bp x::l) w):∃ bv,aV bv=true/\af ctx (eB c p v bp x bv (.pointer none)::cf bv x.bt::l) w:=by
 obtain⟨⟨bv,lp⟩,hl,hh⟩:=h.qh;have h2:=hh.open;simp only[rQ,h0]at h2;exact⟨bv,hl,h2⟩
theorem dw{bv:Value}(h0:x.ly=none)(hl:aV bv=true)(h:af ctx (eB c p v bp x bv (.pointer none)::cf bv x.bt::l) w):af ctx (cP c p v bp x::l) w:=by
 refine af.rJ (bv,.pointer none) hl (af.shut ?_);simp only[rQ,h0];exact h
theorem gV{ls:fJ}(h0:x.ly=some ls)(h:af ctx (cP c p v bp x::l) w):∃ bv bl,aV bv=true/\af ctx (d7 c p bl ls::eB c p v bp x bv (.pointer (some ⟨bl,0,none⟩))::cf bv x.bt::l) w:=by
 obtain⟨⟨bv,lp⟩,hl,hh⟩:=h.qh;have h2:=hh.open;simp only[rQ,h0]at h2;have h3:af ctx (lm c p ls lp::eB c p v bp x bv lp::cf bv x.bt::l) w:=bU (AA (λF hn=>yG hn) h2);obtain⟨bl,e,h4⟩:=h3.yi (b:=λbl=>d7 c p bl ls) (p:=λbl=>lp=.pointer (some ⟨bl,0,none⟩)) (λF ⟨bp,e,h⟩=>⟨bp,e,h⟩);rw[e]at h4;exact⟨bv,bl,hl,h4⟩
theorem dt{ls:fJ}{bv lp:Value}(h0:x.ly=some ls)(hl:aV bv=true)(h:af ctx (eB c p v bp x bv lp::cf bv x.bt::lm c p ls lp::l) w):af ctx (cP c p v bp x::l) w:=by
 refine af.rJ (bv,lp) hl (af.shut ?_);simp only[rQ,h0];exact h
theorem AB(hp:p<c.n)(hv:v<c.n)(hx:eZ x)(h0:x.st≠0){m:bw}(hm:bT c m)(hsl:kR c m){bm:Nat}(h:cG [cP c p v bp x,aK bm m] F w) :
  Calls prog 166 #[.pointer (some ⟨bp,0,none⟩),.pointer (some ⟨bm,0,none⟩)] w λe w'=>e=.returned (.bool (decide ((ai c p v x m).1.st=0)))/\af ⟨w,F⟩ [cP c p v bp (ai c p v x m).1,aK bm (ai c p v x m).2] w':=by
 have hw:=hm.get (hm.fl hv);have hno:=hx.no;have hone:=hx.one;have De:=hx.two;have nA:=hx.three;have BN:=hx.four;have hgs:=hx.gs;have hbt:=hx.bt;have hxw:=hx.w;obtain⟨st,ww,bt,ly⟩:=x;dsimp only at hno hone De nA BN hgs hbt hxw h0
 match st,hx.st with
 | 0,_=>exact absurd rfl h0
 | 1,_ =>
  obtain rfl:ly=none:=hno (.inl rfl);obtain rfl:bt=[]:=hone rfl;obtain⟨bv,eU,hh⟩:=gC rfl (af.start h);obtain⟨F',n1,n2,n3⟩:=(hh.sel [0,2,1]).ex
  let s:TP:=⟨w,F',c,p,v,hp,hv,ww,hxw,bv,eU,[],hbt,bp,bm,0,m,hm.len⟩
  have into:∀ {l:List aG} {w1:World},af ⟨w,F'⟩ l w1->af ⟨w,F⟩ l w1:=λhh=>hh.into (l:=[]) n2 n3
  have fin:∀ (st:Nat) (u:Value) (w1:World),af ⟨w,F⟩ [eB c p v bp ⟨st,ld m (c.word v),[],none⟩ u (.pointer none),aK bm m.tick,cf u []] w1->af ⟨w,F⟩ [cP c p v bp ⟨st,ld m (c.word v),[],none⟩,aK bm m.tick] w1:=λst u w1 h2 =>
   dw rfl (dK (h2.sel [2])) (h2.sel [0,2,1])
  by_cases hz:aO (ld m (c.word v))=0
  ·rw[show ai c p v ⟨1,ww,[],none⟩ m=(⟨0,ld m (c.word v),[],none⟩,m.tick) by simp only[ai,if_pos (Or.inl hz)]]
   exact a_ (R2 s _ hw.2 hw.1 hz) (by kernel_rfl) n1 (by simp) (by simp[s]) (λκ w1 h1=>⟨rfl,fin _ _ _ ((into h1).sel [0,1,3])⟩)
  ·by_cases hq:(c.q:Int)<aO (ld m (c.word v))
   ·rw[show ai c p v ⟨1,ww,[],none⟩ m=(⟨0,ld m (c.word v),[],none⟩,m.tick) by simp only[ai,if_pos (Or.inr hq)]]
    exact a_ (R3 s _ hw.2 hw.1 hz hq) (by kernel_rfl) n1 (by simp) (by simp[s]) (λκ w1 h1=>⟨rfl,fin _ _ _ ((into h1).sel [0,1,3])⟩)
   ·rw[show ai c p v ⟨1,ww,[],none⟩ m=(⟨2,ld m (c.word v),[],none⟩,m.tick) by simp only[ai,if_neg (not_or.2 ⟨hz,hq⟩)]]
    exact a_ (R4 s _ hw.2 hw.1 hz hq) (by kernel_rfl) n1 (by simp) (by simp[s]) (λκ w1 h1=>⟨rfl,fin _ _ _ ((into h1).sel [0,1,3])⟩)
 | 2,_ =>
  obtain rfl:ly=none:=hno (.inr (.inl rfl));obtain⟨bv,eU,hh⟩:=gC rfl (af.start h);obtain⟨F',n1,n2,n3⟩:=(hh.sel [0,2,1]).ex
  let s:TP:=⟨w,F',c,p,v,hp,hv,ww,hxw,bv,eU,bt,hbt,bp,bm,0,m,hm.len⟩
  have into:∀ {l:List aG} {w1:World},af ⟨w,F'⟩ l w1->af ⟨w,F⟩ l w1:=λhh=>hh.into (l:=[]) n2 n3
  have hwr:IntKind.u32.wrap (aj ww+((bt.length:Nat):Int))=(aj ww+(bt.length:Int))%4294967296:=b7 _;have hc:=hm.get (hm.iB hv (IntKind.u32.wrap (aj ww+((bt.length:Nat):Int))))
  by_cases hk:((bt.length+1:Nat):Int)=cj (aO ww)
  ·rw[show ai c p v ⟨2,ww,bt,none⟩ m=(⟨3,ww,bt++[IntKind.i64.wrap (ld m (c.slot v ((aj ww+(bt.length:Int))%4294967296)))],none⟩,m.tick) by simp only[ai,if_pos hk]]
   rw[← hwr];refine a_ (std s _ hc.2 hc.1 hk) (by kernel_rfl) n1 (by simp) (by simp[s]) (λκ w1 h1=>⟨rfl,?_⟩);have h2:=into h1;rw[← lS]at h2;exact dw rfl (dK (h2.sel [2])) (h2.sel [0,2,1])
  ·rw[show ai c p v ⟨2,ww,bt,none⟩ m=(⟨2,ww,bt++[IntKind.i64.wrap (ld m (c.slot v ((aj ww+(bt.length:Int))%4294967296)))],none⟩,m.tick) by simp only[ai,if_neg hk]]
   rw[← hwr];refine a_ (R5 s _ hc.2 hc.1 hk) (by kernel_rfl) n1 (by simp) (by simp[s]) (λκ w1 h1=>⟨rfl,?_⟩);have h2:=into h1;rw[← lS]at h2;exact dw rfl (dK (h2.sel [2])) (h2.sel [0,2,1])
 | 3,_ =>
  obtain rfl:ly=none:=hno (.inr (.inr rfl));obtain⟨bv,eU,hh⟩:=gC rfl (af.start h);obtain⟨F',n1,n2,n3⟩:=(hh.sel [0,2,1]).ex
  let s:TP:=⟨w,F',c,p,v,hp,hv,ww,hxw,bv,eU,bt,hbt,bp,bm,0,m,hm.len⟩
  have into:∀ {l:List aG} {w1:World},af ⟨w,F'⟩ l w1->af ⟨w,F⟩ l w1:=λhh=>hh.into (l:=[]) n2 n3
  have hb1:=nA rfl
  by_cases hc:ld m (c.word v)=ww
  ·have hg:∀ g ∈ bt,0<=g:=λg hm=>(hgs g hm).1
   by_cases h1:bt.length=1
   ·rw[show ai c p v ⟨3,ww,bt,none⟩ m=(⟨0,ww,bt,some ⟨1,0,0,0,bt.drop 1⟩⟩,m.put (c.word v) (fq ww (cj (aO ww)))) by simp only[ai,if_pos hc,if_pos h1]]
    refine a_ (R7 s _ hw.2 hw.1 hc hb1 hg (by show((bt.length:Nat):Int)=1;omega)) (by kernel_rfl) n1 (by simp) (by simp[s]) (λκ w1 h1=>⟨rfl,?_⟩);have h2:=((into h1).sel [2,0,1,3]).full hb1;exact dt rfl (dO eU) (h2.sel [1,0,2,3])
   ·rw[show ai c p v ⟨3,ww,bt,none⟩ m=(⟨4,ww,bt,some ⟨1,0,0,0,bt.drop 1⟩⟩,m.put (c.word v) (fq ww (cj (aO ww)))) by simp only[ai,if_pos hc,if_neg h1]]
    refine a_ (R8 s _ hw.2 hw.1 hc hb1 hg (by show ¬ ((bt.length:Nat):Int)=1;omega)) (by kernel_rfl) n1 (by simp) (by simp[s]) (λκ w1 h1=>⟨rfl,?_⟩);have h2:=((into h1).sel [2,0,1,3]).full hb1;exact dt rfl (dO eU) (h2.sel [1,0,2,3])
  ·rw[show ai c p v ⟨3,ww,bt,none⟩ m=(⟨1,ww,[],none⟩,m.tick) by simp only[ai,if_neg hc]]
   refine a_ (R6 s _ hw.2 hw.1 hc) (by kernel_rfl) n1 (by simp) (by simp[s]) (λκ w1 h1=>⟨rfl,?_⟩);have h2:=(((into h1).sel [0,1]).eC (e := 3) (sz:=1));exact dw rfl rfl (h2.sel [1,0,2])
 | 4,_ =>
  obtain⟨ls,rfl,hlo,hl0⟩:=BN rfl;obtain⟨bv,bl,eU,hh⟩:=gV rfl (af.start h);obtain⟨F',n1,n2,n3⟩:=(hh.sel [1,3,2,0]).ex
  let s:TP:=⟨w,F',c,p,v,hp,hv,ww,hxw,bv,eU,bt,hbt,bp,bm,bl,m,hm.len⟩
  have into:∀ {l:List aG} {w1:World},af ⟨w,F'⟩ l w1->af ⟨w,F⟩ l w1:=λhh=>hh.into (l:=[]) n2 n3
  by_cases hd:(av c p ls m).1.st=0
  ·rw[show ai c p v ⟨4,ww,bt,some ls⟩ m=(⟨0,ww,bt,some (av c p ls m).1⟩,(av c p ls m).2) by simp only[ai,if_pos hd]]
   refine a_ (R9 s ls bt.length hlo hl0 hm (by simpa using hd)) (by kernel_rfl) n1 (by simp) (by simp[s]) (λκ w1 h1=>⟨rfl,?_⟩);have h2:af ⟨w,F⟩ _ w1:=((into h1).sel [1,0,3,2]).head (b:=lm c p (av c p ls m).1 (.pointer (some ⟨bl,0,none⟩))) (λF h=>⟨bl,rfl,h⟩);exact dt rfl eU (h2.sel [1,2,0,3])
  ·rw[show ai c p v ⟨4,ww,bt,some ls⟩ m=(⟨4,ww,bt,some (av c p ls m).1⟩,(av c p ls m).2) by simp only[ai,if_neg hd]]
   refine a_ (R_ s ls bt.length hlo hl0 hm (by simpa using hd)) (by kernel_rfl) n1 (by simp) (by simp[s]) (λκ w1 h1=>⟨rfl,?_⟩);have h2:af ⟨w,F⟩ _ w1:=((into h1).sel [1,0,3,2]).head (b:=lm c p (av c p ls m).1 (.pointer (some ⟨bl,0,none⟩))) (λF h=>⟨bl,rfl,h⟩);exact dt rfl eU (h2.sel [1,2,0,3])
end
end Go.Proofs.YtkmccgombmogmaaGreat
