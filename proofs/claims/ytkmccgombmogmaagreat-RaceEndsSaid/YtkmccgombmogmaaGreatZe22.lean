/- Part of a proof: see the last text. -/
import Derived.Test.YtkmccgombmogmaaGreatZe20
import Derived.Test.YtkmccgombmogmaaGreatZe21
import Derived.Test.YtkmccgombmogmaaGreatZe18
import Derived.Test.YtkmccgombmogmaaGreatZe17
import Derived.Test.YtkmccgombmogmaaGreatZe16
import Derived.Deep.RegionHeld3
import Derived.Deep.RegionWith
import Derived.Lib.AppendZerosOnto
set_option linter.unusedSimpArgs false
set_option linter.unusedVariables false
namespace Go.Proofs.YtkmccgombmogmaaGreat
open Go.Ev Go.Proofs.Tryz
open Go.RowKit
open Go.Ev (sy iz uz wz iN uN wN pz dv fc fn ak vk vd kn pc cc cr cm cd fr)
set_option maxRecDepth 8000
attribute [local irreducible] og
theorem AC{w:World}{F:Nat->Prop}{c:aP}{p:Nat}(hp:p<c.n){ly:fJ}(hl:Az ly){m:bw}(hm:bT c m){bl:Nat}(h:cG [d7 c p bl ly] F w) :
  Calls prog 118 #[.pointer (some ⟨bl,0,none⟩)] w λe w'=>∃ u cd,Ev.dec cd=u/\e=.returned u/\af ⟨w,F⟩ [cf u ly.ls,d7 c p bl ly] w':=by
 refine(uf hp hl.w hl.b hl.ls hm h).mono ?_;rintro e w' ⟨v,_,rfl,hh⟩;obtain⟨cd,hcd⟩:=Jk hh;exact⟨v,cd,hcd,rfl,hh⟩
abbrev mU:List ic:=[(4,[sy 1,sy 2,sy 3,sy 4,sy 5,sy 6,.pointer none,sy 7,sy 8,sy 9,sy 10,sy 0,iz 0],156)]
abbrev mV:List (Nat×Value):=[(0,.pointer (some ⟨4,0,none⟩))]
abbrev fI(bv:Value)(bt:List Int):aG:=bQ 3 1 (bv) (bt.length) (bu bt)
abbrev oK(bv:Value)(bt:List Int):List aG:=[(fI bv bt)]
abbrev KE(c:aP)(p:Nat)(v:Nat)(bp:Nat)(st:Nat)(ww:Int)(bv:Value)(bt:List Int):List aG:=[aH bp [iN c.n,iN c.q,iz c.g,iz c.m,iz c.t,iz c.s,(.pointer none),iN p,iN v,iN st,uz ww,bv,iz 0] 156,(fI bv bt)]
abbrev pF:List ic:=[(4,[sy 1,sy 2,sy 3,sy 4,sy 5,sy 6,sy 7,sy 8,sy 9,sy 10,sy 11,sy 0,sy 12],156)]
abbrev Hc(c:aP)(p:Nat)(v:Nat)(bp:Nat)(st:Nat)(ww:Int)(bv:Value)(bt:List Int)(bl:Nat):List aG:=[aH bp [iN c.n,iN c.q,iz c.g,iz c.m,iz c.t,iz c.s,pz bl,iN p,iN v,iN st,uz ww,bv,iN bt.length] 156,(fI bv bt)]
abbrev Hd:List ic:=[(4,[sy 2,sy 3,sy 4,sy 5,sy 6,sy 7,sy 8,sy 9,sy 10,iz 0,sy 11,sy 0,sy 12],156)]
abbrev AE(c:aP)(p:Nat)(v:Nat)(bp:Nat)(ww:Int)(bv:Value)(bt:List Int)(bl:Nat):aG:=aH bp [iN c.n,iN c.q,iz c.g,iz c.m,iz c.t,iz c.s,pz bl,iN p,iN v,iz 0,uz ww,bv,iN bt.length] 156
abbrev He(c:aP)(p:Nat)(v:Nat)(bp:Nat)(ww:Int)(bv:Value)(bt:List Int)(bl:Nat):List aG:=[(AE c p v bp ww bv bt bl),(fI bv bt)]
abbrev Hf:List ic:=[(4,[sy 1,sy 2,sy 3,sy 4,sy 5,sy 6,sy 7,sy 8,sy 9,iz 0,sy 10,sy 0,sy 11],156)]
theorem Sc(W0:World)(F0:Nat->Prop)(c:aP)(p v:Nat)(hp:p<c.n)(hv:v<c.n)(hpv:p≠v)(h1:((p:Nat):Int)≠((v:Nat):Int)):ce prog 35 [] 0 32 ⟨W0,F0⟩ [(0,(.agg #[iN c.n,iN c.q,iz c.g,iz c.m,iz c.t,iz c.s])),(1,iN p),(2,iN v)] [] (λκ:am=>(pz ((κ 404).getD 0))) (λκ:am=>[aH ((κ 404).getD 0) [iN c.n,iN c.q,iz c.g,iz c.m,iz c.t,iz c.s,(.pointer none),iN p,iN v,iz 1,.int .u64 0,.slice none 0 0,iz 0] 156]):=by have q0:=c.z hp;have qv:=c.z hv;exact(eH (c:=⟨W0,F0⟩) 6 (kn [iN (c.n),iN (c.q),iz (c.g),iz (c.m),iz (c.t),iz (c.s),iN (p),iN (v),iN (c.word p),iN (c.word v)] fr [(.geq,sy 8,iz 0,.bool true),(.geq,sy 9,iz 0,.bool true),(.neq,sy 6,sy 7,.bool true)] [] [] (fc (λ_ _ _=>fe (by first|(simp;done)|(simp;omega))) (fc (λ_ _ _=>fe (by first|(simp;done)|(simp;omega))) (fc (λ_ _ _=>pn (by first|(simpa using h1)|(simp;omega))) fn))) fn fn W0 F0 [[]] [] [⟨40,[.agg #[sy 0,sy 1,sy 2,sy 3,sy 4,sy 5],sy 6],0,none,sy 8,none⟩,⟨40,[.agg #[sy 0,sy 1,sy 2,sy 3,sy 4,sy 5],sy 7],0,none,sy 9,none⟩]) fn (fc (pc rfl (λw hb=>cD c p hp w)) (fc (pc rfl (λw hb=>cD c v hv w)) fn)) rfl [] [] [(404,[sy 0,sy 1,sy 2,sy 3,sy 4,sy 5,.pointer none,sy 6,sy 7,iz 1,.int .u64 0,.slice none 0 0,iz 0],156)] 0 rfl rfl [(0,.agg #[sy 0,sy 1,sy 2,sy 3,sy 4,sy 5]),(1,sy 6),(2,sy 7)] (.pointer (some ⟨404,0,none⟩)))
theorem smA(W0:World)(F0:Nat->Prop)(c:aP)(p v:Nat)(hp:p<c.n)(hv:v<c.n)(bp st:Nat)(ww:Int)(bv:Value)(eU:aV bv=true)(bt:List Int)(hbt:bt.length<=64):ce prog 100 [] 0 9 ⟨W0,F0⟩ [(0,pz bp)] (KE c p v bp st ww bv bt) (λκ:am=>(iz 0)) (λκ:am=>(KE c p v bp st ww bv bt)):=(eH (c:=⟨W0,F0⟩) 5 (kn [bv,iN (c.n),iN (c.q),iz (c.g),iz (c.m),iz (c.t),iz (c.s),iN (p),iN (v),iN (st),uz (ww)] (fc (by assumption) fr) [] [] [] fn fn fn W0 F0 [(oK bv bt)] [] []) fn fn rfl [(4,bp)] mU mU 0 rfl rfl mV (iz 0))
theorem Sd(W0:World)(F0:Nat->Prop)(c:aP)(p v:Nat)(hp:p<c.n)(hv:v<c.n)(bp st:Nat)(ww:Int)(bv:Value)(eU:aV bv=true)(bt:List Int)(hbt:bt.length<=64)(bl:Nat):ce prog 100 [] 0 9 ⟨W0,F0⟩ [(0,pz bp)] (Hc c p v bp st ww bv bt bl) (λκ:am=>(iN bt.length)) (λκ:am=>(Hc c p v bp st ww bv bt bl)):=(eH (c:=⟨W0,F0⟩) 5 (kn [bv,iN (c.n),iN (c.q),iz (c.g),iz (c.m),iz (c.t),iz (c.s),pz bl,iN (p),iN (v),iN (st),uz (ww),iN (bt.length)] (fc (by assumption) fr) [] [] [] fn fn fn W0 F0 [(oK bv bt)] [] []) fn fn rfl [(4,bp)] pF pF 0 rfl rfl mV (sy 12))
theorem Se(W0:World)(F0:Nat->Prop)(c:aP)(p v:Nat)(hp:p<c.n)(hv:v<c.n)(bp st:Nat)(ww:Int)(bv:Value)(eU:aV bv=true)(bt:List Int)(hbt:bt.length<=64)(h1:((st:Nat):Int)=0):ce prog 165 [] 0 18 ⟨W0,F0⟩ [(0,pz bp)] [aH bp [iN c.n,iN c.q,iz c.g,iz c.m,iz c.t,iz c.s,(.pointer none),iN p,iN v,iN st,uz ww,bv,iz 0] 156,(fI bv bt)] (λκ:am=>(.tuple #[iz 0,.bool false])) (λκ:am=>[aH bp [iN c.n,iN c.q,iz c.g,iz c.m,iz c.t,iz c.s,(.pointer none),iN p,iN v,iN st,uz ww,bv,iz 0] 156,(fI bv bt)]):=(eH (c:=⟨W0,F0⟩) 5 (kn [bv,iN (c.n),iN (c.q),iz (c.g),iz (c.m),iz (c.t),iz (c.s),iN (p),iN (v),iN (st),uz (ww)] (fc (by assumption) fr) [(.eql,sy 9,iz 0,.bool true)] [] [] (fc (λ_ _ _=>cO (by have q0:=c.z hp;have qv:=c.z hv;first|(simpa using h1)|(simp;omega))) fn) fn fn W0 F0 [(oK bv bt)] [] []) fn fn rfl [(4,bp)] mU mU 0 rfl rfl mV (.tuple #[iz 0,.bool false]))
theorem Sf(W0:World)(F0:Nat->Prop)(c:aP)(p v:Nat)(hp:p<c.n)(hv:v<c.n)(bp st:Nat)(ww:Int)(bv:Value)(eU:aV bv=true)(bt:List Int)(hbt:bt.length<=64)(h1:¬ ((st:Nat):Int)=0):ce prog 165 [] 0 18 ⟨W0,F0⟩ [(0,pz bp)] [aH bp [iN c.n,iN c.q,iz c.g,iz c.m,iz c.t,iz c.s,(.pointer none),iN p,iN v,iN st,uz ww,bv,iz 0] 156,(fI bv bt)] (λκ:am=>(.tuple #[iz 0,.bool false])) (λκ:am=>[aH bp [iN c.n,iN c.q,iz c.g,iz c.m,iz c.t,iz c.s,(.pointer none),iN p,iN v,iN st,uz ww,bv,iz 0] 156,(fI bv bt)]):=(eH (c:=⟨W0,F0⟩) 5 (kn [bv,iN (c.n),iN (c.q),iz (c.g),iz (c.m),iz (c.t),iz (c.s),iN (p),iN (v),iN (st),uz (ww)] (fc (by assumption) fr) [(.eql,sy 9,iz 0,.bool false)] [] [] (fc (λ_ _ _=>cO (by have q0:=c.z hp;have qv:=c.z hv;first|(simpa using h1)|(simp;omega))) fn) fn fn W0 F0 [(oK bv bt)] [] []) fn fn rfl [(4,bp)] mU mU 0 rfl rfl mV (.tuple #[iz 0,.bool false]))
theorem Sg(W0:World)(F0:Nat->Prop)(c:aP)(p v:Nat)(hp:p<c.n)(hv:v<c.n)(bp st:Nat)(ww:Int)(bv:Value)(eU:aV bv=true)(bt:List Int)(hbt:bt.length<=64)(bl:Nat)(g0:Int)(he:bt[0]? = some g0)(h1:¬ ((bt.length:Nat):Int)=0):ce prog 165 [] 0 18 ⟨W0,F0⟩ [(0,pz bp)] (He c p v bp ww bv bt bl) (λκ:am=>(.tuple #[iz g0,.bool true])) (λκ:am=>(He c p v bp ww bv bt bl)):=by have q0:=c.z hp;have qv:=c.z hv;exact(eH (c:=⟨W0,F0⟩) 5 (kn [bv,cY (bv) (0*1),iN (c.n),iN (c.q),iz (c.g),iz (c.m),iz (c.t),iz (c.s),pz bl,iN (p),iN (v),uz (ww),iN (bt.length),iz (g0)] (fc (by assumption) (fc (aJ _ _) fr)) [(.eql,sy 12,iz 0,.bool false)] [] [] (fc (λ_ _ _=>cO (by first|(simpa using h1)|(simp;omega))) fn) fn fn W0 F0 [(oK bv bt)] [⟨[3,35],[sy 0,iz 0],none,0,none,sy 1,none⟩,⟨[1,3],[sy 1],none,0,none,sy 13,none⟩] []) (fc (by obtain⟨i,i1,i2,i3,i4⟩:=bY;exact C' (ci:=1) (j:=0) rfl rfl underlying35 i1 i2 rfl Fz (by omega) rfl) (fc (by exact bB (ci:=1) (m:=0*1) (x:=(iz g0)) rfl rfl bC (by simp[bu,he]) (by simp;omega) rfl (λι=>(vk (by kernel_rfl) (by kernel_rfl)))) fn)) fn rfl [(4,bp)] Hd Hd 0 rfl rfl mV (.tuple #[sy 13,.bool true]))
theorem Sh(W0:World)(F0:Nat->Prop)(c:aP)(p v:Nat)(hp:p<c.n)(hv:v<c.n)(bp st:Nat)(ww:Int)(bv:Value)(eU:aV bv=true)(bt:List Int)(hbt:bt.length<=64)(bl:Nat)(h1:¬ ((st:Nat):Int)=0):ce prog 165 [] 0 18 ⟨W0,F0⟩ [(0,pz bp)] [aH bp [iN c.n,iN c.q,iz c.g,iz c.m,iz c.t,iz c.s,pz bl,iN p,iN v,iN st,uz ww,bv,iN bt.length] 156,(fI bv bt)] (λκ:am=>(.tuple #[iz 0,.bool false])) (λκ:am=>[aH bp [iN c.n,iN c.q,iz c.g,iz c.m,iz c.t,iz c.s,pz bl,iN p,iN v,iN st,uz ww,bv,iN bt.length] 156,(fI bv bt)]):=(eH (c:=⟨W0,F0⟩) 5 (kn [bv,iN (c.n),iN (c.q),iz (c.g),iz (c.m),iz (c.t),iz (c.s),pz bl,iN (p),iN (v),iN (st),uz (ww),iN (bt.length)] (fc (by assumption) fr) [(.eql,sy 10,iz 0,.bool false)] [] [] (fc (λ_ _ _=>cO (by have q0:=c.z hp;have qv:=c.z hv;first|(simpa using h1)|(simp;omega))) fn) fn fn W0 F0 [(oK bv bt)] [] []) fn fn rfl [(4,bp)] pF pF 0 rfl rfl mV (.tuple #[iz 0,.bool false]))
theorem PZ(W0:World)(F0:Nat->Prop)(c:aP)(p v:Nat)(hp:p<c.n)(hv:v<c.n)(bp st:Nat)(ww:Int)(bv:Value)(eU:aV bv=true)(bt:List Int)(hbt:bt.length<=64)(h1:((st:Nat):Int)=0):ce prog 70 [] 0 16 ⟨W0,F0⟩ [(0,pz bp)] [aH bp [iN c.n,iN c.q,iz c.g,iz c.m,iz c.t,iz c.s,(.pointer none),iN p,iN v,iN st,uz ww,bv,iz 0] 156,(fI bv bt)] (λκ:am=>(.slice none 0 0)) (λκ:am=>[aH bp [iN c.n,iN c.q,iz c.g,iz c.m,iz c.t,iz c.s,(.pointer none),iN p,iN v,iN st,uz ww,bv,iz 0] 156,(fI bv bt)]):=(eH (c:=⟨W0,F0⟩) 5 (kn [bv,iN (c.n),iN (c.q),iz (c.g),iz (c.m),iz (c.t),iz (c.s),iN (p),iN (v),iN (st),uz (ww)] (fc (by assumption) fr) [(.eql,sy 9,iz 0,.bool true)] [] [] (fc (λ_ _ _=>cO (by have q0:=c.z hp;have qv:=c.z hv;first|(simpa using h1)|(simp;omega))) fn) fn fn W0 F0 [(oK bv bt)] [] []) fn fn rfl [(4,bp)] mU mU 0 rfl rfl mV (.slice none 0 0))
theorem P0(W0:World)(F0:Nat->Prop)(c:aP)(p v:Nat)(hp:p<c.n)(hv:v<c.n)(bp st:Nat)(ww:Int)(bv:Value)(eU:aV bv=true)(bt:List Int)(hbt:bt.length<=64)(h1:¬ ((st:Nat):Int)=0):ce prog 70 [] 0 16 ⟨W0,F0⟩ [(0,pz bp)] [aH bp [iN c.n,iN c.q,iz c.g,iz c.m,iz c.t,iz c.s,(.pointer none),iN p,iN v,iN st,uz ww,bv,iz 0] 156,(fI bv bt)] (λκ:am=>(.slice none 0 0)) (λκ:am=>[aH bp [iN c.n,iN c.q,iz c.g,iz c.m,iz c.t,iz c.s,(.pointer none),iN p,iN v,iN st,uz ww,bv,iz 0] 156,(fI bv bt)]):=(eH (c:=⟨W0,F0⟩) 5 (kn [bv,iN (c.n),iN (c.q),iz (c.g),iz (c.m),iz (c.t),iz (c.s),iN (p),iN (v),iN (st),uz (ww)] (fc (by assumption) fr) [(.eql,sy 9,iz 0,.bool false)] [] [] (fc (λ_ _ _=>cO (by have q0:=c.z hp;have qv:=c.z hv;first|(simpa using h1)|(simp;omega))) fn) fn fn W0 F0 [(oK bv bt)] [] []) fn fn rfl [(4,bp)] mU mU 0 rfl rfl mV (.slice none 0 0))
theorem P1(W0:World)(F0:Nat->Prop)(c:aP)(p v:Nat)(hp:p<c.n)(hv:v<c.n)(bp st:Nat)(ww:Int)(bv:Value)(eU:aV bv=true)(bt:List Int)(hbt:bt.length<=64)(bl:Nat)(ly:fJ)(hlb:Az ly)(m:bw)(hm:bT c m)(h1:¬ ((bt.length:Nat):Int)=0):ce prog 70 [] 0 16 ⟨W0,F0⟩ [(0,pz bp)] [(AE c p v bp ww bv bt bl),(fI bv bt),d7 c p bl ly] (λκ:am=>(dv κ 407)) (λκ:am=>[(AE c p v bp ww bv bt bl),cf (dv κ 407) ly.ls,d7 c p bl ly,(fI bv bt)]):=(eH (c:=⟨W0,F0⟩) 5 (kn [bv,iN (c.n),iN (c.q),iz (c.g),iz (c.m),iz (c.t),iz (c.s),pz bl,iN (p),iN (v),uz (ww),iN (bt.length)] (fc (by assumption) fr) [(.eql,sy 11,iz 0,.bool false)] [] [] (fc (λ_ _ _=>cO (by have q0:=c.z hp;have qv:=c.z hv;first|(simpa using h1)|(simp;omega))) fn) fn fn W0 F0 [[(fI bv bt),d7 c p bl ly],[jE 407 (λv=>cf v ly.ls),d7 c p bl ly,(fI bv bt)]] [] [⟨118,[sy 7],0,some 407,.complex .f32 407 0,some 1⟩]) fn (fc (cm rfl [λv=>cf v ly.ls] [d7 c p bl ly] [1] [0] (λw F ho hn hF=>AC hp hlb hm hn)) fn) rfl [(4,bp)] Hf Hf 1 rfl rfl mV (.complex .f32 407 0)).conv (λκ w=>⟨(λ_ h=>h),(λ_ h=>fW (a:=λv=>cf v ly.ls) (λ_ _ _ _ _ h=>h) h),(λ_ h=>h),(λ_ h=>h),trivial⟩)
theorem P2(W0:World)(F0:Nat->Prop)(c:aP)(p v:Nat)(hp:p<c.n)(hv:v<c.n)(bp st:Nat)(ww:Int)(bv:Value)(eU:aV bv=true)(bt:List Int)(hbt:bt.length<=64)(bl:Nat)(h1:¬ ((st:Nat):Int)=0):ce prog 70 [] 0 16 ⟨W0,F0⟩ [(0,pz bp)] [aH bp [iN c.n,iN c.q,iz c.g,iz c.m,iz c.t,iz c.s,pz bl,iN p,iN v,iN st,uz ww,bv,iN bt.length] 156,(fI bv bt)] (λκ:am=>(.slice none 0 0)) (λκ:am=>[aH bp [iN c.n,iN c.q,iz c.g,iz c.m,iz c.t,iz c.s,pz bl,iN p,iN v,iN st,uz ww,bv,iN bt.length] 156,(fI bv bt)]):=(eH (c:=⟨W0,F0⟩) 5 (kn [bv,iN (c.n),iN (c.q),iz (c.g),iz (c.m),iz (c.t),iz (c.s),pz bl,iN (p),iN (v),iN (st),uz (ww),iN (bt.length)] (fc (by assumption) fr) [(.eql,sy 10,iz 0,.bool false)] [] [] (fc (λ_ _ _=>cO (by have q0:=c.z hp;have qv:=c.z hv;first|(simpa using h1)|(simp;omega))) fn) fn fn W0 F0 [(oK bv bt)] [] []) fn fn rfl [(4,bp)] pF pF 0 rfl rfl mV (.slice none 0 0))
end Go.Proofs.YtkmccgombmogmaaGreat
namespace Go.Proofs.YtkmccgombmogmaaGreat
open Go.Ev Go.Proofs.Tryz
open Go.RowKit
open Go.Ev (sy)
set_option maxRecDepth 8000
def dX:bD:=⟨1,0,[],none⟩
theorem yK:eZ dX:=⟨by decide,⟨by decide,by decide⟩,by decide,λg h=>(by cases h),λ_=>rfl,λ_=>rfl,λh=>(by cases h),λh=>(by cases h),λh=>(by cases h),λl h=>(by cases h)⟩
def bD.got(x:bD):Int×Bool:=if x.st=0 then (match x.ly with | some _=>(x.bt.getD 0 0,true) | none=>(0,false)) else (0,false)
def bD.left(x:bD):List Int:=if x.st=0 then (match x.ly with | some l=>l.ls | none=>[]) else []
theorem iD{c:aP}{p v:Nat}(hp:p<c.n)(hv:v<c.n){x:bD}{m:bw}(hx:eZ x)(hm:bT c m)(hsl:kR c m):eZ (ai c p v x m).1/\bT c (ai c p v x m).2:=by
 have hw:=hm.get (hm.fl hv);obtain⟨st,w,bt,ly⟩:=x;obtain⟨k1,k2,k3,k4,k5,k6,k7,k8,k9,ka⟩:=hx;dsimp only at k1 k2 k3 k4 k5 k6 k7 k8 k9 ka
 match st,k1 with
 | 0,_ =>
  have q:eZ ⟨0,w,bt,ly⟩:=⟨by simp,k2,k3,k4,k5,k6,k7,k8,k9,ka⟩;exact⟨q,hm⟩
 | 1,_ =>
  refine⟨⟨?_,hw.2,Nat.zero_le _,λg h=>(by cases h),λ_=>rfl,λ_=>rfl,?_,?_,?_,λl h=>(by cases h)⟩,hm.tick⟩
  ·simp only[ai];split<;>decide
  ·intro e
   simp only[ai]at e ⊢
   split at e
   ·cases e
   ·rename_i hq
    have hb:=cu (ld m (c.word v));have hq2:=c.qb;unfold cj;simp only[List.length_nil];omega
  ·intro e
   simp only[ai]at e
   split at e<;>cases e
  ·intro e
   simp only[ai]at e
   split at e<;>cases e
 | 2,_ =>
  have hc:=hm.get (hm.iB hv ((aj w+(bt.length:Int))%4294967296));have hg:=hsl v hv ((aj w+(bt.length:Int))%4294967296);obtain⟨t1,t2⟩:=k7 rfl;refine⟨⟨?_,k2,?_,?_,?_,λ_=>rfl,?_,?_,?_,λl h=>(by cases h)⟩,hm.tick⟩
  ·simp only[ai];split<;>decide
  ·simp only[ai,List.length_append,List.length_singleton];omega
  ·intro g hgm
   simp only[ai]at hgm;rcases List.mem_append.1 hgm with h | h
   ·exact k4 g h
   ·rw[List.mem_singleton.1 h,kS hg]
    exact hg
  ·intro e
   simp only[ai]at e
   split at e<;>cases e
  ·intro e
   simp only[ai]at e ⊢
   split at e
   ·cases e
   ·rename_i hk
    refine⟨?_,t2⟩;simp only[List.length_append,List.length_singleton];omega
  ·intro e
   simp only[ai,List.length_append,List.length_singleton];omega
  ·intro e
   simp only[ai]at e
   split at e<;>cases e
 | 3,_ =>
  have hb1:=k8 rfl;have hlb:Az ⟨1,0,0,0,bt.drop 1⟩:=⟨⟨Int.le_refl 0,by show(0:Int)<18446744073709551616;decide⟩,⟨Nat.zero_le _,Nat.zero_le _⟩,by simp only[List.length_drop];omega,λg h=>k4 g (List.mem_of_mem_drop h)⟩;simp only[ai]
  split
  ·refine⟨⟨?_,k2,k3,k4,?_,?_,?_,?_,?_,?_⟩,hm.put _ (yA k2 _)⟩
   ·dsimp only;split<;>decide
   ·intro e;dsimp only at e;split at e<;>cases e
   ·intro e
    dsimp only at e
    split at e
    ·rcases e with e | e | e<;>cases e
    ·rcases e with e | e | e<;>cases e
   ·intro e;dsimp only at e;split at e<;>cases e
   ·intro e;dsimp only at e;split at e<;>cases e
   ·intro e
    dsimp only at e
    split at e
    ·cases e
    ·rename_i h1
     refine⟨_,rfl,⟨by simp,hlb.w,hlb.b,hlb.ls,λ_ h=>?_,λh=>(by cases h),λh=>(by rcases h with h | h<;>cases h),hlb.gs⟩,by simp⟩;have:(bt.drop 1).length=0:=by dsimp only at h;rw[h];rfl
     rw[List.length_drop]at this;omega
   ·intro l h
    cases h;exact⟨hlb,hb1⟩
  ·exact⟨⟨by simp,k2,Nat.zero_le _,λg h=>(by cases h),λ_=>rfl,λ_=>rfl,λh=>(by cases h),λh=>(by cases h),λh=>(by cases h),λl h=>(by cases h)⟩,hm.tick⟩
 | 4,_ =>
  obtain⟨l,rfl,hlo,hl0⟩:=k9 rfl;obtain⟨q1,q2⟩:=rO hp hlo hm;obtain⟨b1,b2⟩:=ka l rfl;simp only[ai];refine⟨⟨?_,k2,k3,k4,?_,?_,?_,?_,?_,?_⟩,q2⟩
  ·dsimp only;split<;>decide
  ·intro e;dsimp only at e;split at e<;>cases e
  ·intro e
   dsimp only at e
   split at e
   ·rcases e with e | e | e<;>cases e
   ·rcases e with e | e | e<;>cases e
  ·intro e;dsimp only at e;split at e<;>cases e
  ·intro e;dsimp only at e;split at e<;>cases e
  ·intro e
   dsimp only at e
   split at e
   ·cases e
   ·rename_i h1
    exact⟨_,rfl,q1,h1⟩
  ·intro l' h
   cases h;exact⟨q1.base,b2⟩
section
variable{w:World}{F:Nat->Prop}{c:aP}{p v:Nat}{bp:Nat}{x:bD}{m:bw}
theorem Dg(hp:p<c.n)(hv:v<c.n)(hpv:p≠v)(h:cG [] F w) :
  Calls prog 35 #[c.v,.int .i64 (p:Int),.int .i64 (v:Int)] w λe w'=>∃ b,e=.returned (.pointer (some ⟨b,0,none⟩))/\af ⟨w,F⟩ [cP c p v b dX] w':=by
 refine a_ (Sc w F c p v hp hv hpv (by omega)) (by kernel_rfl) h (by simp) (by simp) (λκ w1 h1=>⟨_,rfl,?_⟩);have h2:=h1.eC (e := 3) (sz:=1);exact dw rfl rfl (h2.sel [1,0])
theorem rR(hp:p<c.n)(hv:v<c.n)(hx:eZ x)(h:cG [cP c p v bp x] F w) :
  Calls prog 100 #[.pointer (some ⟨bp,0,none⟩)] w λe w'=>e=.returned (.int .i64 (x.many:Int))/\af ⟨w,F⟩ [cP c p v bp x] w':=by
 have hbt:=hx.bt;obtain⟨st,ww,bt,ly⟩:=x;cases ly with
 | none =>
  obtain⟨bv,eU,hh⟩:=gC rfl (af.start h);obtain⟨F',n1,n2,n3⟩:=hh.ex;exact a_ (smA w F' c p v hp hv bp st ww bv eU bt hbt) (by kernel_rfl) n1 (by simp) (by simp) (λκ w1 h1=>⟨rfl,dw rfl eU (h1.into (l:=[]) n2 n3)⟩)
 | some l =>
  obtain⟨bv,bl,eU,hh⟩:=gV rfl (af.start h);obtain⟨F',n1,n2,n3⟩:=(hh.sel [1,2,0]).ex;obtain⟨F1,F2,k1,k2,k3,k4⟩:=cL (l:=[eB c p v bp ⟨st,ww,bt,some l⟩ bv (.pointer (some ⟨bl,0,none⟩)),cf bv bt]) n1;refine a_ (Sd w F1 c p v hp hv bp st ww bv eU bt hbt bl) (by kernel_rfl) k1 (by simp) (by simp) (λκ w1 h1=>⟨rfl,?_⟩);have h2:=(h1.frame k2 k3).into (l:=[]) n2 (λj hj=>n3 j ((k4 j).2 hj));have h3:af ⟨w,F⟩ _ w1:=(h2.sel [2,0,1]).head (b:=lm c p l (.pointer (some ⟨bl,0,none⟩))) (λF h=>⟨bl,rfl,h⟩);exact dt rfl eU (h3.sel [1,2,0])
theorem Dh(hp:p<c.n)(hv:v<c.n)(hx:eZ x)(h:cG [cP c p v bp x] F w) :
  Calls prog 165 #[.pointer (some ⟨bp,0,none⟩)] w λe w'=>e=.returned (.tuple #[.int .i64 x.got.1,.bool x.got.2])/\af ⟨w,F⟩ [cP c p v bp x] w':=by
 have hbt:=hx.bt;have Hg:=hx.lay;obtain⟨st,ww,bt,ly⟩:=x;cases ly with
 | none =>
  obtain⟨bv,eU,hh⟩:=gC rfl (af.start h);obtain⟨F',n1,n2,n3⟩:=hh.ex
  by_cases h0:st=0
  ·refine a_ (Se w F' c p v hp hv bp st ww bv eU bt hbt (by omega)) (by kernel_rfl) n1 (by simp) (by simp) (λκ w1 h1=>⟨?_,dw rfl eU (h1.into (l:=[]) n2 n3)⟩)
   simp[bD.got,h0]
  ·refine a_ (Sf w F' c p v hp hv bp st ww bv eU bt hbt (by omega)) (by kernel_rfl) n1 (by simp) (by simp) (λκ w1 h1=>⟨?_,dw rfl eU (h1.into (l:=[]) n2 n3)⟩)
   simp[bD.got,h0]
 | some l =>
  obtain⟨bv,bl,eU,hh⟩:=gV rfl (af.start h);obtain⟨F',n1,n2,n3⟩:=(hh.sel [1,2,0]).ex;obtain⟨F1,F2,k1,k2,k3,k4⟩:=cL (l:=[eB c p v bp ⟨st,ww,bt,some l⟩ bv (.pointer (some ⟨bl,0,none⟩)),cf bv bt]) n1;have fin:∀ w1,af ⟨w,F1⟩ [eB c p v bp ⟨st,ww,bt,some l⟩ bv (.pointer (some ⟨bl,0,none⟩)),cf bv bt] w1->af ⟨w,F⟩ [cP c p v bp ⟨st,ww,bt,some l⟩] w1:=by
   intro w1 h1;have h2:=(h1.frame k2 k3).into (l:=[]) n2 (λj hj=>n3 j ((k4 j).2 hj));have h3:af ⟨w,F⟩ _ w1:=(h2.sel [2,0,1]).head (b:=lm c p l (.pointer (some ⟨bl,0,none⟩))) (λF h=>⟨bl,rfl,h⟩);exact dt rfl eU (h3.sel [1,2,0])
  by_cases h0:st=0
  ·subst h0
   have hb:=(Hg l rfl).2;dsimp only at hb;have he:bt[0]? = some (bt.getD 0 0):=by
    rw[List.getD_eq_getElem?_getD,List.getElem?_eq_getElem hb];rfl
   refine a_ (Sg w F1 c p v hp hv bp 0 ww bv eU bt hbt bl _ he (by omega)) (by kernel_rfl) k1 (by simp) (by simp) (λκ w1 h1=>⟨?_,fin _ h1⟩);simp[bD.got]
  ·refine a_ (Sh w F1 c p v hp hv bp st ww bv eU bt hbt bl (by omega)) (by kernel_rfl) k1 (by simp) (by simp) (λκ w1 h1=>⟨?_,fin _ h1⟩)
   simp[bD.got,h0]
theorem rS(hp:p<c.n)(hv:v<c.n)(hx:eZ x)(hm:bT c m)(h:cG [cP c p v bp x] F w) :
  Calls prog 70 #[.pointer (some ⟨bp,0,none⟩)] w λe w'=>∃ u,aV u=true/\e=.returned u/\af ⟨w,F⟩ [cf u x.left,cP c p v bp x] w':=by
 have hbt:=hx.bt;have Hg:=hx.lay;obtain⟨st,ww,bt,ly⟩:=x;cases ly with
 | none =>
  obtain⟨bv,eU,hh⟩:=gC rfl (af.start h);obtain⟨F',n1,n2,n3⟩:=hh.ex;have e0:(⟨st,ww,bt,none⟩:bD).left=[]:=by simp[bD.left]
  rw[e0]
  by_cases h0:st=0
  ·exact a_ (PZ w F' c p v hp hv bp st ww bv eU bt hbt (by omega)) (by kernel_rfl) n1 (by simp) (by simp) (λκ w1 h1=>⟨_,rfl,rfl,(dw rfl eU (h1.into (l:=[]) n2 n3)).eC (e := 3) (sz:=1)⟩)
  ·exact a_ (P0 w F' c p v hp hv bp st ww bv eU bt hbt (by omega)) (by kernel_rfl) n1 (by simp) (by simp) (λκ w1 h1=>⟨_,rfl,rfl,(dw rfl eU (h1.into (l:=[]) n2 n3)).eC (e := 3) (sz:=1)⟩)
 | some l =>
  obtain⟨bv,bl,eU,hh⟩:=gV rfl (af.start h);obtain⟨F',n1,n2,n3⟩:=(hh.sel [1,2,0]).ex
  by_cases h0:st=0
  ·subst h0
   obtain⟨hlb,hb⟩:=Hg l rfl;dsimp only at hb;refine a_ (P1 w F' c p v hp hv bp 0 ww bv eU bt hbt bl l hlb m hm (by omega)) (by kernel_rfl) n1 (by simp) (by simp) (λκ w1 h1=>?_);have h2:=h1.into (l:=[]) n2 n3;have h3:af ⟨w,F⟩ _ w1:=(h2.sel [2,0,3,1]).head (b:=lm c p l (.pointer (some ⟨bl,0,none⟩))) (λF h=>⟨bl,rfl,h⟩);have h4:af ⟨w,F⟩ [cP c p v bp ⟨0,ww,bt,some l⟩,cf (Ev.dec ((κ 407).getD 0)) l.ls] w1:=dt rfl eU (h3.sel [1,2,0,3]);have h5:=h4.sel [1,0];have e0:(⟨0,ww,bt,some l⟩:bD).left=l.ls:=by simp[bD.left]
   rw[e0];exact⟨_,dK h5,rfl,h5⟩
  ·obtain⟨F1,F2,k1,k2,k3,k4⟩:=cL (l:=[eB c p v bp ⟨st,ww,bt,some l⟩ bv (.pointer (some ⟨bl,0,none⟩)),cf bv bt]) n1
   have e0:(⟨st,ww,bt,some l⟩:bD).left=[]:=by simp[bD.left,h0]
   rw[e0];refine a_ (P2 w F1 c p v hp hv bp st ww bv eU bt hbt bl (by omega)) (by kernel_rfl) k1 (by simp) (by simp) (λκ w1 h1=>⟨_,rfl,rfl,?_⟩);have h2:=(h1.frame k2 k3).into (l:=[]) n2 (λj hj=>n3 j ((k4 j).2 hj));have h3:af ⟨w,F⟩ _ w1:=(h2.sel [2,0,1]).head (b:=lm c p l (.pointer (some ⟨bl,0,none⟩))) (λF h=>⟨bl,rfl,h⟩);exact(dt rfl eU (h3.sel [1,2,0])).eC (e := 3) (sz:=1)
end
end Go.Proofs.YtkmccgombmogmaaGreat
namespace Go.Proofs.YtkmccgombmogmaaGreat
open Go.Ev Go.Proofs.Tryz
open Go.RowKit
set_option maxRecDepth 8000
theorem dS{F:Fence}{n:Nat}{P:Program}{w w':World}{ops:Array Oper}{rest:List Oper}{o:Oper}{a:Act}{Q:Exit->Act->World->Prop}{v':Value}
  (hg:o.guard=none) (s x:Operand) (t:TypeId) (hop:o.op=Op.call { callee:=Callee.builtin Builtin.append,args:=#[s,x],argTypes:=#[t,t] }) (hrun:(Builtin.append_ #[t,t] o.type #[a.eval s,a.eval x]).run P w=.ok v' w')
  (hK:wpListIn F n P ops Q rest (a.put o.dst v') w'):wpListIn F n P ops Q (o::rest) a w:=by
 refine wpListIn_plain hg λK hK'=>?_
 unfold Oper.wpIn;refine⟨?_,?_⟩
 ·simp[Oper.about,hop,resolve,Target.leads,Sem.run_pure]
 ·rw[Oper.semAt_plain F _ _ (by rw[hop];intro c hc';cases hc')]
  simp[execOp,hop,resolve,invoke,builtin,hrun,Result.andThen];exact hK' _ _ hK
theorem lT{F:Fence}{n:Nat}{P:Program}{w w':World}{ops:Array Oper}{rest:List Oper}{o:Oper}{a:Act}{Q:Exit->Act->World->Prop}{v':Value}
  (hg:o.guard=none) (s x:Operand) (ts:Array TypeId) (hop:o.op=Op.call { callee:=Callee.builtin Builtin.append,args:=#[s,x],argTypes:=ts }) (hrun:(Builtin.append_ ts o.type #[a.eval s,a.eval x]).run P w=.ok v' w')
  (hK:wpListIn F n P ops Q rest (a.put o.dst v') w'):wpListIn F n P ops Q (o::rest) a w:=by
 refine wpListIn_plain hg λK hK'=>?_
 unfold Oper.wpIn;refine⟨?_,?_⟩
 ·simp[Oper.about,hop,resolve,Target.leads,Sem.run_pure]
 ·rw[Oper.semAt_plain F _ _ (by rw[hop];intro c hc';cases hc')]
  simp[execOp,hop,resolve,invoke,builtin,hrun,Result.andThen];exact hK' _ _ hK
theorem wb{P:Program}{W:World}{base:Nat}(t ty e:TypeId){i:TypeInfo}{z:Value}{size bytes:Nat}(ht:P.underlying t=some (.slice e))(hi:P.info? e=some i)(hz:i.zero=some z)(hsize:i.size=size)(hby:i.bytes=bytes)(hzs:z.cells.size=size)(hsz:0<size){v u:Value}{n m:Nat}{xs ys:List Value}
  (hr:W.ownsRow base e size v n xs) (hu:jd size u m ys W) (h1:∀ u ∈ ys,u.oneCell'=true) (h63:n+m<=maxLen) (hb:(n+m)*bytes<=140737488355328) (hbase:base<=W.heap.size) :
  ∃ v' w',(Builtin.append_ #[t,t] ty #[v,u]).run P W=.ok v' w'/\w'.ownsRow base e size v' (n+m) (xs++ys)/\W.grownBy w' v.ownBlock:=by
 obtain⟨hl,⟨h0,a,c,rfl⟩ | ⟨b,off,c,rfl,_,hc⟩⟩:=hu
 ·subst h0
  have hy:ys=[]:=List.eq_nil_of_length_eq_zero (by rw[hl];simp);subst hy;cases a with
  | none =>
   obtain⟨a,c',hnc,rfl⟩:∃ a c,n<=c/\v=.slice a n c:=by
    rcases hr.2 with ⟨rfl,rfl⟩ | ⟨g,cap,cur,rfl,_,_,h,_⟩
    ·exact⟨_,_,Nat.le_refl _,rfl⟩
    ·exact⟨_,_,h,rfl⟩
   exact⟨_,_,run_append_nothing W t t ty e i ht hi a n c' hnc _ (Src.ofNil _ ht c),by simpa using hr,⟨rfl,rfl,rfl,Nat.le_refl _,λ_ _ _=>rfl⟩⟩
  | some a =>
   obtain⟨v',w',r1,r2,r3,_⟩:=run_append_own (P:=P) W base t ty e i z size bytes ht hi hz hsize hby hzs hsz v n xs hr a 0 c [] hl (λj u h=>by simp at h) h1 h63 hb hbase;exact⟨v',w',r1,r2,r3⟩
 ·obtain⟨v',w',r1,r2,r3,_⟩:=run_append_own (P:=P) W base t ty e i z size bytes ht hi hz hsize hby hzs hsz v n xs hr ⟨b,off,none⟩ m c ys hl (λj u h=>by
   have hj:=(List.getElem?_eq_some_iff.1 h).1
   rw[show(⟨b,off,none⟩:Addr).add j=⟨b,off+j,none⟩ from fB b off j,hc j (by omega),h]) h1 h63 hb hbase
  exact⟨v',w',r1,r2,r3⟩
theorem Below.grownBy{W W':World}(h:Below W.heap.size W W'):W.grownBy W' none:=⟨h.os,h.tape,h.output,h.size,λk hk _=>h.block k hk⟩
theorem Hh{w w':World}{n:Nat}{e:TypeId}{sz k:Nat}{v:Value}{xs:List Value}(h:w.ownsRow n e sz v k xs)(hb:Below w.heap.size w w'):w'.ownsRow n e sz v k xs:=by
 refine h.kept (Below.grownBy hb) ?_;cases v.ownBlock with
 | none=>exact .inl rfl
 | some b=>exact .inr (by simp)
theorem gW{sz n:Nat}{v:Value}{xs:List Value}{w w':World}(h:jd sz v n xs w)(hb:Below w.heap.size w w'):jd sz v n xs w':=by
 obtain⟨e1,e2 | ⟨b,off,c,e3,⟨e4,e5⟩,e6⟩⟩:=h
 ·exact⟨e1,.inl e2⟩
 ·exact⟨e1,.inr ⟨b,off,c,e3,⟨Nat.lt_of_lt_of_le e4 hb.size,e5⟩,λj hj=>(hb.cell (p:=⟨b,off+j,none⟩) e4).trans (e6 j hj)⟩⟩
section
open Ev
variable{ctx:dc}{w w':World}{l lp rest:List aG}
theorem cQ(lp:List aG)(h:af ctx (lp++rest) w):∃ F,cG lp F w/\∀ (lq:List aG) (w':World),af ⟨w,F⟩ lq w'->af ctx (lq++rest) w':=by
 obtain⟨F',m1,m2,m3⟩:=h.ex;obtain⟨G1,G2,q1,q2,q3,q4⟩:=cL (l:=lp) m1;exact⟨G1,q1,λlq w' hh=>(hh.frame q2 q3).into (l:=[]) m2 (λj hj=>m3 j ((q4 j).2 hj))⟩
theorem bA(h:af ctx l w)(hb:Below w.heap.size w w'):af ctx l w':=by
 obtain⟨F',m1,m2,m3⟩:=h.ex;exact⟨F',fV m1 (λj hj=>hb.block j (m1.lt j hj)) hb.size,⟨hb.os.trans m2.os,hb.tape.trans m2.tape,hb.output.trans m2.output,Nat.le_trans m2.size hb.size,λj hj hx=>(hb.block j (Nat.lt_of_lt_of_le hj m2.size)).trans (m2.block j hj hx)⟩,m3⟩
theorem mr(h:af ctx (l++rest) w):af ctx (rest++l) w:=by
 obtain⟨F',m1,m2,m3⟩:=h.ex;obtain⟨G1,G2,q1,q2,q3,q4⟩:=cL m1;exact⟨F',cF (eQ q2 q1 (λj h1 h2=>q3 j h2 h1)) (λj=>by rw[q4 j];exact Or.comm),m2,m3⟩
theorem Hj{a:aG}{l1 l2:List aG}(h:af ctx (l1++a::l2) w):af ctx (a::(l1++l2)) w:=by
 obtain⟨F',m1,m2,m3⟩:=h.ex;obtain⟨G1,G2,q1,q2,q3,q4⟩:=cL m1;obtain⟨Fa,Fl,k1,k2,k3,k4⟩:=bI q2;have r1:=eQ q1 k2 (λj h1 h2=>q3 j h1 ((k4 j).2 (.inr h2)));have r2:=bP k1 r1 (λj hj=>q2.lt j ((k4 j).2 (.inl hj))) (λj hj hh=>hh.elim (λhh=>q3 j hh ((k4 j).2 (.inl hj))) (k3 j hj));refine⟨F',cF r2 (λj=>?_),m2,m3⟩;rw[q4 j,k4 j];constructor
 ·rintro(h | h | h)
  ·exact .inr (.inl h)
  ·exact .inl h
  ·exact .inr (.inr h)
 ·rintro(h | h | h)
  ·exact .inr (.inl h)
  ·exact .inl h
  ·exact .inr (.inr h)
theorem Di{a:aG}{l1 l2:List aG}(h:af ctx (a::(l1++l2)) w):af ctx (l1++a::l2) w:=by
 have h1:af ctx ((l1++l2)++[a]) w:=mr (l:=[a]) h;rw[List.append_assoc]at h1;have h2:af ctx ((l2++[a])++l1) w:=mr h1;obtain⟨F',m1,m2,m3⟩:=h2.ex;obtain⟨G1,G2,q1,q2,q3,q4⟩:=cL m1;have q1':af ⟨w,G1⟩ (l2++[a]) w:=af.start q1;obtain⟨F3,n1,n2,n3⟩:=(mr (l:=l2) (rest:=[a]) q1').ex;have h3:af ctx ((a::l2)++l1) w:=by
  obtain⟨G3,G4,s1,s2,s3,s4⟩:=cL (l:=l2) q1;have t1:cG ([a]++l2) (λj=>G4 j\/G3 j) w:=eQ s2 s1 (λj h1 h2=>s3 j h2 h1);have t2:=eQ t1 q2 (λj h1 h2=>q3 j ((s4 j).2 h1.symm) h2);refine⟨F',cF t2 (λj=>?_),m2,m3⟩;rw[q4 j,s4 j];exact⟨λh=>h.elim (λh=>.inl h.symm) .inr,λh=>h.elim (λh=>.inl h.symm) .inr⟩
 exact mr h3
theorem Hk{i:Nat}{a:aG}(hi:l[i]? = some a)(h:af ctx (l++rest) w):af ctx (a::(l.eraseIdx i++rest)) w:=by
 obtain⟨hlt,rfl⟩:=List.getElem?_eq_some_iff.1 hi;have e1:l=l.take i++l[i]::l.drop (i+1):=by rw[← List.drop_eq_getElem_cons hlt,List.take_append_drop]
 have h1:af ctx (l.take i++l[i]::(l.drop (i+1)++rest)) w:=by
  have e2:l.take i++l[i]::(l.drop (i+1)++rest)=(l.take i++l[i]::l.drop (i+1))++rest:=by rw[List.append_assoc,List.cons_append]
  rw[e2,← e1];exact h
 have h2:=Hj h1;rw[List.eraseIdx_eq_take_drop_succ,List.append_assoc];exact h2
theorem Js{i:Nat}{a:aG}(hi:i<l.length)(h:af ctx (a::(l.eraseIdx i++rest)) w):af ctx (l.set i a++rest) w:=by
 rw[List.eraseIdx_eq_take_drop_succ,List.append_assoc]at h;have h2:=Di h;rw[List.set_eq_take_append_cons_drop,if_pos hi,List.append_assoc];exact h2
theorem Dj{b off c n sz i:Nat}{e:TypeId}{xs:List Value}(v:Value)(hi:i<n*sz)(h:af ctx (bQ e sz (.slice (some ⟨b,off,none⟩) n c) n xs::l) w):af ctx (bQ e sz (.slice (some ⟨b,off,none⟩) n c) n (xs.set i v)::l) (w.setCell ⟨b,off+i,none⟩ v):=by
 obtain⟨F,h1,h2,h3⟩:=h.ex;obtain⟨Fa,Fl,⟨kl,k0⟩,k2,k3,k4⟩:=bI h1;rcases k0 with ⟨_,rfl,_⟩ | ⟨b',off',c',arr,ev,hF,hb,hx,hs,hc⟩
 ·simp at hi
 cases ev;have hsz:(w.setCell ⟨b,off+i,none⟩ v).heap.size=w.heap.size:=by simp[World.setCell]
 have hoff:∀ j,j≠b->(w.setCell ⟨b,off+i,none⟩ v).heap[j]? = w.heap[j]?:=λj hj=>Below.heap_setCell w ⟨b,off+i,none⟩ v j hj
 have hb2:=As hb (off+i) v;have hcs:n*sz<=c*sz:=Nat.mul_le_mul_right sz hc;have hl2:cG l Fl (w.setCell ⟨b,off+i,none⟩ v):=fV k2 (λj hj=>hoff j (λe=>k3 j ((hF j).2 e) hj)) (by rw[hsz];exact Nat.le_refl _);have hA:(bQ e sz (.slice (some ⟨b,off,none⟩) n c) n (xs.set i v)).p (λ_=>none) Fa (w.setCell ⟨b,off+i,none⟩ v):=by
  refine⟨by rw[List.length_set];exact kl,.inr ⟨b,off,c,_,rfl,hF,hb2,λj hj=>?_,by rw[Array.size_setIfInBounds];exact hs,hc⟩⟩;rw[Array.getElem?_setIfInBounds]
  by_cases e0:i=j
  ·subst e0
   rw[if_pos rfl,if_pos (by omega),List.getElem?_set_self (by omega)]
  ·rw[if_neg (by omega),hx j hj,List.getElem?_set_ne e0]
 have q:=bP (a:=bQ e sz (.slice (some ⟨b,off,none⟩) n c) n (xs.set i v)) (Fa:=Fa) hA hl2 (λj hj=>by rw[hsz];exact h1.lt j ((k4 j).2 (.inl hj))) k3;have Ns:F b:=(k4 b).2 (.inl ((hF b).2 rfl));refine⟨F,cF q (λj=>(k4 j).symm),⟨h2.os,h2.tape,h2.output,by rw[hsz];exact h2.size,λj hj hx=>?_⟩,h3⟩;rw[hoff j (λe=>?_)]
 ·exact h2.block j hj hx
 ·subst e
  rcases h3 j Ns with h | h
  ·exact hx h
  ·omega
end
theorem c8{sz n:Nat}{v:Value}{xs:List Value}{w:World}(h:jd sz v n xs w):∃ a k,v=.slice a n k:=by
 rcases h.2 with ⟨e,a,k,rfl⟩ | ⟨b,off,k,rfl,_⟩
 ·exact⟨a,k,by rw[e]⟩
 ·exact⟨_,k,rfl⟩
theorem rT{n k:Nat}{a:Option Addr}{xs:List Int}{w:World}(h:jd 1 (.slice a n k) n (bu xs) w){j:Nat}(hj:j<n):∃ b off,a=some ⟨b,off,none⟩/\w.cell? ⟨b,off+j,none⟩=some (.int .i64 (xs.getD j 0)):=by
 obtain⟨hl,⟨h0,_⟩ | ⟨b,off,c,hv,_,hc⟩⟩:=h
 ·omega
 ·cases hv
  refine⟨b,off,rfl,?_⟩;rw[hc j (by omega)];have:j<xs.length:=by simp[bu]at hl;omega
  simp[bu,List.getD_eq_getElem?_getD,this]
theorem AF(xs ys:List Int)(hl:xs.length=ys.length)(h:∀ j,j<xs.length->xs.getD j 0=ys.getD j 0):xs=ys:=by
 apply List.ext_getElem hl;intro i h1 h2;have:=h i h1;simpa[List.getD_eq_getElem?_getD,h1,h2] using this
set_option maxHeartbeats 1000000 in
theorem lU(m:Nat)(u v:Value)(xs ys:List Int)(w:World)(hu:jd 1 u xs.length (bu xs) w)(hv:jd 1 v ys.length (bu ys) w)(hn:xs.length<=100000) :
  CallsIn Fence.wide m prog 37 #[u,v] w λe w'=>e=.returned (.bool (decide (xs=ys)))/\Below w.heap.size w w':=by
 refine callsIn_of_wp func37 rfl trivial ?_ rfl;simp only[ntmps37,List.size_toArray,List.length_cons,List.length_nil,Nat.reduceAdd,Nat.reduceSub,Array.replicate_succ,Array.replicate_zero,List.push_toArray,List.append_toArray,List.nil_append,List.cons_append];obtain⟨a,ca,rfl⟩:=c8 hu;obtain⟨b,cb,rfl⟩:=c8 hv
 by_cases hl:xs.length=ys.length
 ·have v5:(xs.length:Int)=(ys.length:Int):=by omega
  gi_wp2
  gi_loopw [13] (λp wr=>∃ k:Nat,p=.int .i64 (k:Int)/\k<=xs.length/\Below w.heap.size w wr/\∀ j,j<k->xs.getD j 0=ys.getD j 0) (λp _=>xs.length-(intOf p).toNat)
  case atStart=>exact⟨0,rfl,Nat.zero_le _,Below.refl _ _,λj hj=>absurd hj (Nat.not_lt_zero _)⟩
  case round =>
   obtain⟨k,rfl,hk,hB,heq⟩:=hrel;have A:Aside (∀ j,j<k->xs.getD j 0=ys.getD j 0):=heq;clear heq
   by_cases hlt:k<xs.length
   ·have P3:(k:Int)<(xs.length:Int):=by omega
    obtain⟨b1,o1,rfl,g1⟩:=rT (gW hu hB) hlt;obtain⟨b2,o2,rfl,g2⟩:=rT (gW hv hB) (by omega:k<ys.length);obtain⟨x,hx⟩:∃ x,xs.getD k 0=x:=⟨_,rfl⟩;obtain⟨y,hy⟩:∃ y,ys.getD k 0=y:=⟨_,rfl⟩;rw[hx]at g1;rw[hy]at g2;have S2:(k:Int)<(ys.length:Int):=by omega
    gi_wp2
    refine wpIn_wide.2 ?_;have hBd:Below w.heap.size w wr.drew:=hB.drew
    go_region_held3 (λw'=>w'.cell? ⟨b1,o1+k,none⟩=some (.int .i64 x)/\w'.cell? ⟨b2,o2+k,none⟩=some (.int .i64 y)/\Below w.heap.size w w') ((exact⟨g1,g2,hBd⟩)) ((first | (fail)))
    by_cases hxy:x=y
    ·subst hxy
     gi_wp2
     refine⟨⟨k+1,rfl,by omega,hBd,λj hj=>?_⟩,by simp[intOf];omega⟩
     by_cases e:j=k
     ·subst e
      rw[hx,hy]
     ·exact A.out j (by omega)
    ·gi_wp2
     refine bodyPost_ret (results_tmp rfl _ _ _) rfl ⟨?_,hBd⟩;have:¬ xs=ys:=λe=>hxy (by rw[← hx,← hy,e])
     simp[this]
   ·obtain rfl:k=xs.length:=by omega
    have P3:¬ ((xs.length:Nat):Int)<(xs.length:Int):=by omega
    gi_wp2
    refine bodyPost_ret (results_tmp rfl _ _ _) rfl ⟨?_,hB⟩;have:xs=ys:=AF xs ys hl A.out;simp[this]
 ·have v5:¬ (xs.length:Int)=(ys.length:Int):=by omega
  gi_wp2
  refine bodyPost_ret (results_tmp rfl _ _ _) rfl ⟨?_,Below.refl _ _⟩;have:¬ xs=ys:=λe=>hl (by rw[e])
  simp[this]
set_option maxHeartbeats 1000000 in
theorem Jt(m:Nat)(n:Nat)(w:World)(hn:n<=1000000) :
  CallsIn Fence.wide m prog 119 #[.slice none 0 0,.int .i64 (n:Int)] w λe w'=>∃ v,e=.returned v/\w'.ownsRow w.heap.size 3 1 v 0 []/\Below w.heap.size w w':=by
 refine callsIn_of_wp func119 rfl trivial ?_ rfl;simp only[ntmps119,List.size_toArray,List.length_cons,List.length_nil,Nat.reduceAdd,Nat.reduceSub,Array.replicate_succ,Array.replicate_zero,List.push_toArray,List.append_toArray,List.nil_append,List.cons_append];have h1:¬ ((n:Int)<0):=by omega
 have h2:IntKind.i64.wrap ((0:Int)-0)=0:=by decide
 have h3:IntKind.i64.wrap ((n:Int)-0)=(n:Int):=aW (by omega) (by omega);obtain⟨i0,hi,hz1,hz0,hz2⟩:=bY
 by_cases h0:n=0
 ·subst h0
  have h4:¬ (((0:Nat):Int)>0):=by omega
  gi_wp2
  exact bodyPost_ret (results_tmp rfl _ _ _) rfl ⟨_,rfl,World.ownsRow_nil _ _ _ _,Below.refl _ _⟩
 ·have h4:(n:Int)>0:=by omega
  have h5:((0:Nat)+n)=n:=Nat.zero_add n;have hrz:∀ ty,(Builtin.append_ #[35,3] ty #[.slice none 0 0,.int .i64 (n:Int)]).run prog w=.ok (.slice (some ⟨w.heap.size,0,none⟩) (0+n) (grownCap w (0+n) 0 3)) _:=λty=>Lib.run_append_grow_zeros w 35 3 ty 3 i0 (.int .i64 0) .i64 .i64 underlying35 underlying3 hi hz0 none 0 0 [] (run_firstCells_none w.drew i0.size 0 0 0) n (by omega) (by omega) (by omega) (by omega) (by rw[hz2];omega) (growslice_fits (by omega) (by rw[hz2];omega))
  have hG:=grownCap_ge w (0+n) 0 3;obtain⟨G,QI⟩:∃ G,grownCap w (0+n) 0 3 = G:=⟨_,rfl⟩;rw[QI]at hrz hG;simp only[h5]at hrz hG
  gi_wp2_with (gi_at_builtin;refine lT rfl _ _ _ rfl (hrz _) ?_)
  have Si:G<=maxLen:=QI▸grownCap_le_maxLen w (0+n) 0 3 (by unfold maxLen;omega);have hB:Below w.heap.size w (w.alloc (Obj.cells (Builtin.zeroCells #[Value.int .i64 0] n++Builtin.zeroCells #[Value.int .i64 0] (G-n)) 3)).drew:=((Below.refl _ w).alloc (Nat.le_refl _) _).drew;refine bodyPost_ret (results_tmp rfl _ _ _) rfl ⟨_,rfl,⟨rfl,.inr ⟨w.heap.size,G,_,rfl,Nat.le_refl _,World.alloc_heap_new w _,Nat.zero_le _,Si,?_,by simp⟩⟩,hB⟩;rw[Array.size_append,size_zeroCells,size_zeroCells];simp;omega
def cat(L:Nat->List Int)(n:Nat):List Int:=((List.range n).map L).flatten
theorem rU(L:Nat->List Int)(n:Nat):cat L (n+1)=cat L n++L n:=by
 unfold cat;rw[List.range_succ,List.map_append,List.flatten_append];simp
theorem pG{w w0 w':World}{base:Nat}{e:TypeId}{sz n:Nat}{v:Value}{xs:List Value}(hr:w.ownsRow base e sz v n xs)(h:Below base w0 w)(hb:base<=w.heap.size)(hg:w.grownBy w' v.ownBlock):Below base w0 w' :=
 h.grown hg hb (λk hk=>by
  rcases hr.2 with ⟨rfl,_⟩ | ⟨g,cap,cur,rfl,h1,_⟩
  ·cases hk
  ·cases hk
   exact h1)
theorem jQ(l:List Int):∀ u ∈ bu l,u.oneCell'=true:=by
 intro u h;obtain⟨n,_,rfl⟩:=List.mem_map.1 h;rfl
set_option maxHeartbeats 2000000 in
theorem Dk(m:Nat)(b n:Nat)(u:Nat->Value)(L:Nat->List Int)(w:World)(hn:n<=100)(hc:∀ k,k<n->w.cell? ⟨b,k,none⟩=some (u k))(hs:∀ k,k<n->jd 1 (u k) (L k).length (bu (L k)) w/\(L k).length<=1000)(hb:b<w.heap.size) :
  CallsIn Fence.wide m prog 116 #[.slice (some ⟨b,0,none⟩) n n] w λe w'=>∃ v,e=.returned v/\w'.ownsRow w.heap.size 3 1 v (cat L n).length (bu (cat L n))/\Below w.heap.size w w':=by
 refine callsIn_of_wp func116 rfl trivial ?_ rfl;simp only[ntmps116,List.size_toArray,List.length_cons,List.length_nil,Nat.reduceAdd,Nat.reduceSub,Array.replicate_succ,Array.replicate_zero,List.push_toArray,List.append_toArray,List.nil_append,List.cons_append];have hlen:∀ k,k<=n->(cat L k).length<=k*1000:=by
  intro k
  induction k with
  | zero=>intro _;simp[cat]
  | succ k ih =>
   intro h;rw[rU,List.length_append];have:=ih (by omega);have:=(hs k (by omega)).2;omega
 have A:Aside ((∀ k,k<n->w.cell? ⟨b,k,none⟩=some (u k))/\(∀ k,k<n->jd 1 (u k) (L k).length (bu (L k)) w/\(L k).length<=1000)/\(∀ k,k<=n->(cat L k).length<=k*1000)):=⟨hc,hs,hlen⟩;clear hc hs hlen
 gi_wp2
 gi_loopw [3,11] (λq p wr=>∃ k:Nat,p=.int .i64 (k:Int)/\q=.int .i64 ((cat L k).length:Int)/\k<=n/\wr=w) (λ_ p _=>n-(intOf p).toNat)
 case atStart=>exact⟨0,rfl,rfl,Nat.zero_le _,by first | rfl | trivial⟩
 case round =>
  obtain⟨k,rfl,rfl,hk,hW⟩:=hrel;replace hW:=hW.symm;subst hW
  by_cases hlt:k<n
  ·have v5:(k:Int)<(n:Int):=by omega
   have hck:=A.out.1 k hlt;obtain⟨hsk,hlk⟩:=A.out.2.1 k hlt;obtain⟨a,ca,P4⟩:=c8 hsk;rw[P4]at hck;have hcl:=A.out.2.2 k hk;have e1:IntKind.i64.wrap (((cat L k).length:Int)+((L k).length:Int))=((cat L (k+1)).length:Int):=by
    rw[rU,List.length_append,aW (by omega) (by omega)];omega
   have e2:¬ ((cat L (k+1)).length:Int)<0:=by omega
   gi_wp2
   exact⟨⟨k+1,rfl,rfl,by omega,by first | rfl | trivial⟩,by simp[intOf];omega⟩
  ·obtain rfl:k=n:=by omega
   have v5:¬ ((k:Nat):Int)<(k:Int):=by omega
   have hcl:=A.out.2.2 k (Nat.le_refl _)
   gi_wp2
   refine⟨trivial,λh=>by simp[Fence.wide]at h,(Jt (m-1) (cat L k).length w (by omega)).mono ?_⟩;rintro e w1 ⟨v1,rfl,o1,b1⟩
   gi_wp2
   gi_loopw [6,27] (λq p wr=>∃ j:Nat,p=.int .i64 (j:Int)/\j<=k/\wr.ownsRow w.heap.size 3 1 q (cat L j).length (bu (cat L j))/\Below w.heap.size w wr) (λ_ p _=>k-(intOf p).toNat)
   case atStart=>exact⟨0,rfl,Nat.zero_le _,o1,b1⟩
   case round =>
    obtain⟨j,rfl,hj,ho,hB⟩:=hrel
    by_cases hlt:j<k
    ·have v5:(j:Int)<(k:Int):=by omega
     have hck:=A.out.1 j hlt;obtain⟨hsk,hlk⟩:=A.out.2.1 j hlt;obtain⟨a,ca,P4⟩:=c8 hsk;rw[P4]at hck hsk;have Sj:wr.cell? ⟨b,j,none⟩=some (.slice a (L j).length ca):=(hB.cell (p:=⟨b,j,none⟩) hb).trans hck;have hcl:=A.out.2.2 j (by omega);obtain⟨i0,hi,hz1,hz0,hz2⟩:=bY;have hbs:=hB.size;obtain⟨v',w2,q1,q2,q3⟩:=wb 35 35 3 underlying35 hi hz0 hz1 hz2 rfl (by decide) ho (gW hsk hB) (jQ (L j)) (by unfold maxLen;omega) (by omega) hbs
     gi_wp2_with (gi_at_builtin;refine dS rfl _ _ _ rfl q1 ?_)
     refine⟨⟨j+1,rfl,by omega,?_,pG ho hB hbs q3⟩,by simp[intOf];omega⟩;rw[rU,List.length_append];simpa[bu] using q2
    ·obtain rfl:j=k:=by omega
     have v5:¬ ((j:Nat):Int)<(j:Int):=by omega
     gi_wp2
     refine bodyPost_ret (results_tmp rfl _ _ _) rfl ⟨_,rfl,?_,?_⟩
     ·exact ho
     ·exact hB
def ep(x:Int):List Int:=if 65536<aO x then [] else (List.range (aO x).toNat).map (λi:Nat=>(aj x+(i:Int))%4294967296)
def wc(xs:List Int):List Value:=xs.map (Value.int .u32)
theorem Mb:∃ i,prog.info? 95 = some i/\i.size=1/\i.zero=some (.int .u32 0)/\i.bytes=4:=Al (by kernel_rfl)
set_option maxHeartbeats 2000000 in
theorem Dl(m:Nat)(x:Int)(hx:fg x)(w:World) :
  CallsIn Fence.wide m prog 41 #[.int .u64 x,.int .u32 0,.int .u32 (aO x)] w λe w'=>∃ v,e=.returned v/\w'.ownsRow w.heap.size 95 1 v (ep x).length (wc (ep x))/\Below w.heap.size w w':=by
 refine callsIn_of_wp func41 rfl trivial ?_ rfl;simp only[ntmps41,List.size_toArray,List.length_cons,List.length_nil,Nat.reduceAdd,Nat.reduceSub,Array.replicate_succ,Array.replicate_zero,List.push_toArray,List.append_toArray,List.nil_append,List.cons_append];have hbd:=cu x;have S3:=bJ hx
 gi_wp2
 refine⟨trivial,λh=>by simp[Fence.wide]at h,(callsIn_wide.2 (cz x hx w)).mono ?_⟩;rintro e _ ⟨rfl,rfl⟩
 by_cases hbig:65536<aO x
 ·have e0:ep x=[]:=by simp[ep,hbig]
  have hb2:aO x>65536:=hbig
  gi_wp2
  refine bodyPost_ret (results_tmp rfl _ _ _) rfl ⟨_,rfl,?_,Below.refl _ _⟩;rw[e0];exact World.ownsRow_nil _ _ _ _
 ·have hb2:¬ aO x>65536:=hbig
  obtain⟨n,hn⟩:∃ n:Nat,aO x=(n:Int):=⟨(aO x).toNat,by omega⟩;have e0:ep x=(List.range n).map (λi:Nat=>(aj x+(i:Int))%4294967296):=by unfold ep;rw[if_neg hbig,hn];rfl
  rw[hn]at hb2 ⊢
  by_cases hz:n=0
  ·subst hz
   have h00:(0:Int)≥((0:Nat):Int):=by omega
   gi_wp2
   refine bodyPost_ret (results_tmp rfl _ _ _) rfl ⟨_,rfl,?_,Below.refl _ _⟩;rw[e0];exact World.ownsRow_nil _ _ _ _
  ·have h00:¬ (0:Int)≥(n:Int):=by omega
   have e1:IntKind.u32.wrap ((n:Int)-0)=(n:Int):=by rw[b7];omega
   have e2:min (n:Int) (n:Int)=(n:Int):=by omega
   gi_wp2
   gi_loopw [6,23] (λq p wr=>∃ k:Nat,p=.int .u32 (k:Int)/\k<=n/\wr.ownsRow w.heap.size 95 1 q k (wc ((List.range k).map (λi:Nat=>(aj x+(i:Int))%4294967296)))/\Below w.heap.size w wr) (λ_ p _=>n-(intOf p).toNat)
   case atStart=>exact⟨0,rfl,Nat.zero_le _,World.ownsRow_nil _ _ _ _,Below.refl _ _⟩
   case round =>
    obtain⟨k,rfl,hk,ho,hB⟩:=hrel
    by_cases hlt:k<n
    ·have v5:(k:Int)<(n:Int):=by omega
     have e3:IntKind.u32.wrap (aj x+0)=aj x:=by rw[b7];omega
     have e4:IntKind.u32.wrap (aj x+(k:Int))=(aj x+(k:Int))%4294967296:=b7 _;have e5:IntKind.u32.wrap ((k:Int)+1)=((k+1:Nat):Int):=by rw[b7];omega
     gi_wp2
     refine⟨trivial,λh=>by simp[Fence.wide]at h,(callsIn_wide.2 (ct x hx wr)).mono ?_⟩;rintro e w3 ⟨rfl,rfl⟩;obtain⟨i0,hi,hz1,hz0,hz2⟩:=Mb;obtain⟨g,hg⟩:∃ g,(aj x+(k:Int))%4294967296=g:=⟨_,rfl⟩;rw[hg]at e4;obtain⟨W4,OD⟩:∃ W4,wr.alloc (.cells #[.int .u32 g] 95)=W4:=⟨_,rfl⟩;have hB4:Below w.heap.size w W4:=by rw[← OD];exact hB.alloc hB.size _
     have hsr:jd 1 (.slice (some ⟨wr.heap.size,0,none⟩) 1 1) 1 [.int .u32 g] W4:=⟨rfl,.inr ⟨_,0,1,rfl,⟨by rw[← OD];simp,Nat.le_refl _⟩,λj hj=>by
      obtain rfl:j=0:=by omega
      rw[← OD]
      exact cell_of (World.alloc_heap_new wr _) 0 _ rfl⟩⟩
     have Ky:=ho.alloc (.cells #[.int .u32 g] 95);rw[OD]at Ky;obtain⟨v',w2,q1,q2,q3⟩:=wb 93 93 95 underlying93 hi hz0 hz1 hz2 rfl (by decide) Ky hsr (by simp[Value.oneCell']) (by unfold maxLen;omega) (by omega) hB4.size
     gi_wp2_with (gi_at_builtin;refine dS rfl _ _ _ rfl q1 ?_)
     refine⟨⟨k+1,rfl,by omega,?_,pG Ky hB4 hB4.size q3⟩,by simp[intOf];omega⟩;rw[List.range_succ,List.map_append];simpa[wc,hg] using q2
    ·obtain rfl:k=n:=by omega
     have v5:¬ ((k:Nat):Int)<(k:Int):=by omega
     gi_wp2
     refine bodyPost_ret (results_tmp rfl _ _ _) rfl ⟨_,rfl,?_,hB⟩;exact ho
end Go.Proofs.YtkmccgombmogmaaGreat
