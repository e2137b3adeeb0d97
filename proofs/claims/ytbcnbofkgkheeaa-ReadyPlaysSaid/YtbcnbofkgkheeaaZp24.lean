/- Part of a proof: see the last text. -/
import Derived.Test.YtbcnbofkgkheeaaZp22
import Derived.Test.YtbcnbofkgkheeaaZp23
import Derived.Test.YtbcnbofkgkheeaaZp18
import Derived.Test.YtbcnbofkgkheeaaZp15
import Derived.Test.YtbcnbofkgkheeaaZp17
namespace Go.Proofs.Ytbcnbofkgkheeaa
open Go.RowKit
open Go.Ev (sy)
set_option linter.unusedVariables false
set_option linter.unusedSimpArgs false
set_option maxRecDepth 8000
structure PokeS where
 on:Bool
 at':Int
 v:Int
def PokeS.cells (k:PokeS) : List Value:=[.bool k.on,.int .i64 k.at',.int .u64 k.v]
theorem poke_at (ps:List PokeS) {j i:Nat} {k:PokeS} (h:ps[j]? = some k) (hi:i < 3) : (ps.flatMap PokeS.cells)[j * 3+i]? = k.cells[i]?:=by
 induction ps generalizing j with
 | nil=>cases h
 | cons q ps ih =>
  rw [List.flatMap_cons]
  match j with
  | 0 =>
   cases h
   rw [List.getElem?_append_left (by simp [PokeS.cells]; omega)]
   simp
  | j+1 =>
   have hq:q.cells.length=3:=rfl
   rw [List.getElem?_append_right (by rw [hq]; omega),hq,show (j+1) * 3+i - 3=j * 3+i by omega]
   exact ih h
theorem loadBool:Ev.LoadOne Try.prog 4:=by
 intro b o x w h
 simp [Instr.loadAt,Instr.sureAddr,loadVar,isAgg,run_underlying Try.underlying4,h]
theorem infPoke:∃ i,Try.prog.info? 86 = some i∧i.size=3∧True∧True:=by
 have h:(Try.prog.info? 86).map (fun i=>i.size)=some 3:=by kernel_rfl
 cases hi:Try.prog.info? 86 with
 | none=>rw [hi] at h; cases h
 | some i =>
  rw [hi] at h
  exact ⟨i,rfl,by simpa using h,trivial,trivial⟩
theorem infBool:∃ i,Try.prog.info? 4 = some i∧i.size=1∧i.zero=some (.bool false)∧i.bytes=1:=info_z (by kernel_rfl)
theorem fieldDo (b o:Nat) (w:World) : (Instr.fieldAt 86 (.pointer (some ⟨b,o,none⟩)) 0).run Try.prog w=.ok (.pointer (some ⟨b,o+0,none⟩)) w:=by
 simp [Instr.fieldAt,run_underlying Try.underlying86,Instr.sureAddr,fieldPlace,Ev.addMk]
theorem fieldAt1 (b o:Nat) (w:World) : (Instr.fieldAt 86 (.pointer (some ⟨b,o,none⟩)) 1).run Try.prog w=.ok (.pointer (some ⟨b,o+1,none⟩)) w:=by
 obtain ⟨i,i1,i2,_⟩:=infBool
 obtain ⟨j,j1,j2,_⟩:=infInt
 simp [Instr.fieldAt,run_underlying Try.underlying86,Instr.sureAddr,fieldPlace,sizeOf,typeInfo,i1,i2,j1,j2,Ev.addMk]
theorem fieldV (b o:Nat) (w:World) : (Instr.fieldAt 86 (.pointer (some ⟨b,o,none⟩)) 2).run Try.prog w=.ok (.pointer (some ⟨b,o+2,none⟩)) w:=by
 obtain ⟨i,i1,i2,_⟩:=infBool
 obtain ⟨j,j1,j2,_⟩:=infInt
 obtain ⟨k,k1,k2,_⟩:=infU64
 simp [Instr.fieldAt,run_underlying Try.underlying86,Instr.sureAddr,fieldPlace,sizeOf,typeInfo,i1,i2,j1,j2,k1,k2,Ev.addMk]
theorem XS.hs_len {x:XS} {m:MemM} (h:x.Ok m) : x.hs.length≤64:=by
 obtain ⟨xd,live⟩:=x
 cases live with
 | none=>exact Nat.zero_le _
 | some y =>
  obtain ⟨c,p,k⟩:=y
  obtain ⟨dem,gg,st,was,put⟩:=k
  cases put with
  | none=>exact Nat.zero_le _
  | some z=>exact (h.2.2.1.put z rfl).hs
theorem XS.st_yi (x:XS) : x.yi 9=((x.st:Nat) : Int):=by
 obtain ⟨xd,live⟩:=x
 cases live with
 | none=>rfl
 | some y=>rfl
theorem XS.over_yes {x:XS} {m:MemM} (h:x.Ok m) (h0:x.yi 20=0) : x.over=x.hs:=by
 obtain ⟨xd,live⟩:=x
 cases live with
 | none=>rfl
 | some y =>
  obtain ⟨c,p,k⟩:=y
  obtain ⟨dem,gg,st,was,put⟩:=k
  cases put with
  | none=>rfl
  | some z =>
   have hz:=h.2.2.1.put z rfl
   have e:z.st=0:=by
    refine Classical.byContradiction fun hh=>?_
    have hg:=(hz.gg hh).1
    replace h0:(if 0≤z.gg then ((z.st:Nat) : Int) else 0)=0:=h0
    rw [if_pos hg] at h0
    omega
   show (if z.st=0 then z.hs else [])=z.hs
   rw [if_pos e]
theorem XS.over_no {x:XS} {m:MemM} (h:x.Ok m) (h0:¬ x.yi 20=0) : x.over=[]:=by
 obtain ⟨xd,live⟩:=x
 cases live with
 | none=>exact absurd rfl h0
 | some y =>
  obtain ⟨c,p,k⟩:=y
  obtain ⟨dem,gg,st,was,put⟩:=k
  cases put with
  | none=>rfl
  | some z =>
   have e:z.st ≠ 0:=by
    intro hh
    refine h0 ?_
    show (if 0≤z.gg then ((z.st:Nat) : Int) else 0)=0
    rw [hh]
    split <;> rfl
   show (if z.st=0 then z.hs else [])=[]
   rw [if_neg e]
theorem XS.hands_is {x:XS} (h:x.dm=true∨(x.yi 9 ≠ 1∧x.yi 9 ≠ 2)) : x.hands=x.hs:=by
 obtain ⟨xd,live⟩:=x
 cases live with
 | none=>rfl
 | some y =>
  obtain ⟨c,p,k⟩:=y
  obtain ⟨dem,gg,st,was,put⟩:=k
  show (if dem=false∧(st=1∨st=2) then [gg] else KickS.holds ⟨dem,gg,st,was,put⟩)=_
  rw [if_neg (fun hh=>by
   rcases h with h | h
   ·have h':dem=true:=h
    rw [hh.1] at h'
    cases h'
   ·have h1:((st:Nat) : Int) ≠ 1:=h.1
    have h2:((st:Nat) : Int) ≠ 2:=h.2
    omega)]
  rfl
theorem XS.hands_one {x:XS} (h:x.dm=false) (h1:x.yi 9=1∨x.yi 9=2) : x.hands=[x.yi 7]:=by
 obtain ⟨xd,live⟩:=x
 cases live with
 | none=>rcases h1 with h1 | h1 <;> cases h1
 | some y =>
  obtain ⟨c,p,k⟩:=y
  obtain ⟨dem,gg,st,was,put⟩:=k
  have hd:dem=false:=h
  have hs:((st:Nat) : Int)=1∨((st:Nat) : Int)=2:=h1
  show (if dem=false∧(st=1∨st=2) then [gg] else KickS.holds ⟨dem,gg,st,was,put⟩)=[gg]
  rw [if_pos ⟨hd,by omega⟩]
theorem put_ops (c:Cfg) (p:Nat) (x:PutS) (m:MemM) : (putStep c p x m).2.ops=m.ops∨(putStep c p x m).2.ops=IntKind.u64.wrap (m.ops+1):=by
 unfold putStep
 split
 ·exact .inr rfl
 ·exact .inr rfl
 ·split <;> exact .inr rfl
 ·exact .inr rfl
 ·split <;> exact .inr rfl
 ·exact .inl rfl
theorem kick_ops (c:Cfg) (p:Nat) (k:KickS) (m:MemM) : (kickStep c p k m).2.ops=m.ops∨(kickStep c p k m).2.ops=IntKind.u64.wrap (m.ops+1):=by
 unfold kickStep
 split
 ·exact .inr rfl
 ·split
  ·exact .inr rfl
  ·split <;> exact .inr rfl
 ·split
  ·exact put_ops _ _ _ _
  ·exact .inl rfl
 ·exact .inl rfl
theorem XS.ops_le (x:XS) {m:MemM} (h:0≤m.ops∧m.ops≤100000) : m.ops≤(x.step m).2.ops∧(x.step m).2.ops≤m.ops+1:=by
 obtain ⟨xd,live⟩:=x
 have e:IntKind.u64.wrap (m.ops+1)=m.ops+1:=wrapu_ok (by omega) (by omega)
 cases live with
 | none=>show m.ops≤m.ops∧m.ops≤m.ops+1; omega
 | some y =>
  obtain ⟨c,p,k⟩:=y
  have h1:(XS.step ⟨xd,some (c,p,k)⟩ m).2.ops=m.ops∨(XS.step ⟨xd,some (c,p,k)⟩ m).2.ops=IntKind.u64.wrap (m.ops+1):=kick_ops c p k m
  rcases h1 with h1 | h1 <;> omega
section
variable {w:World} {F:Nat→Prop}
theorem same_memC {bm:Nat} {m:MemM} {rv:Value} (lr:Ev.leafV rv=true) (hx:m.cells.length≤1000000) (h:Ev.Now [memA bm m,cA rv m] F w) :
  Calls Try.prog 44 #[.pointer (some ⟨bm,0,none⟩),.agg #[rv,.int .u64 m.ops]] w fun e w'=>e=.returned (.bool true)∧Ev.Hold ⟨w,F⟩ [memA bm m,cA rv m] w' :=
 startP (sm w F bm m rv lr hx) (by kernel_rfl) h (by simp) (by simp) (fun κ w1 h1=>⟨rfl,h1.sel [1,0] (by kernel_rfl)⟩)
theorem same_is {a b:Value} {xs ys:List Int} (e:xs=ys) (hl:ys.length≤64) (h:Ev.Now [isA a xs,isA b ys] F w) :
  Calls Try.prog 16 #[a,b] w fun e w'=>e=.returned (.bool true)∧Ev.Hold ⟨w,F⟩ [isA a xs,isA b ys] w':=by
 subst e
 exact same_ints (hold_leaf (Ev.Hold.start h)) (hold_leaf ((Ev.Hold.start h).sel [1] (by kernel_rfl))) (by omega) h
theorem same_nil {a:Value} {xs:List Int} (e:xs=[]) (h:Ev.Now [isA a xs] F w) :
  Calls Try.prog 16 #[a,.slice none 0 0] w fun e w'=>e=.returned (.bool true)∧Ev.Hold ⟨w,F⟩ [isA a xs] w':=by
 subst e
 obtain ⟨F',n1,n2,n3⟩:=(((Ev.Hold.start h).nilSl (e := 3) (sz:=1)).sel [1,0] (by kernel_rfl)).ex
 refine (same_ints (xs:=[]) (hold_leaf (Ev.Hold.start n1)) rfl (Nat.zero_le _) n1).mono ?_
 rintro e w' ⟨rfl,hh⟩
 exact ⟨rfl,(hh.into (l:=[]) n2 n3).sel [0] (by kernel_rfl)⟩
def Cf.cn (c:Cf) : Nat:=if c.ok then (4+c.n * (6+c.q)).toNat else 0
def Cfg.cf (c:Cfg) : Cf:=⟨c.n,c.q,c.g,c.m,c.t,c.s⟩
theorem cf_ok (c:Cfg) : c.cf.ok=true:=c.h
theorem cf_cn (c:Cfg) : c.cf.cn=4+c.off c.n:=by
 unfold Cf.cn
 rw [if_pos (cf_ok c)]
 show (4+(c.n:Int) * (6+(c.q:Int))).toNat=4+c.n * (6+c.q)
 have e:(4+(c.n:Int) * (6+(c.q:Int)))=((4+c.n * (6+c.q) : Nat) : Int):=by simp
 rw [e]
 rfl
structure GoodF (c:Cf) (us:List Int) : Prop where
 len:us.length=c.cn
 le:us.length≤564
 u:∀ x ∈ us,U64 x
 good:∀ d:Cfg,c=d.cf→GoodC d us
abbrev filA (c:Cf) (v:Value) : Ev.Asr:=Ev.exA (GoodF c) (fun us=>Ev.slA 30 1 v us.length (u64s us))
theorem filled_any (c:Cf) {bv:Value} {bs:List Int} (hs:Ev.SlR 1 bv bs.length (u8s bs) w) (hb:bs.length≤1000) (hz:∀ i,0≤bs.getD i 0∧bs.getD i 0 < 256) (h:Ev.Now [] F w) :
  Calls Try.prog 10 #[c.v,bv] w fun e w'=>∃ v cd,Ev.dec cd=v∧e=.returned v∧Ev.Hold ⟨w,F⟩ [filA c v] w':=by
 cases hc:c.ok with
 | false =>
  refine (filled_no c hc hs h).mono ?_
  rintro e w' ⟨v,cd,e1,rfl,hh⟩
  refine ⟨v,cd,e1,rfl,Ev.Hold.putX (a:=fun us:List Int=>Ev.slA 30 1 v us.length (u64s us)) [] ⟨by unfold Cf.cn; rw [hc]; rfl,Nat.zero_le _,fun x hx=>(by cases hx),fun d e=>?_⟩ hh⟩
  rw [e,cf_ok] at hc
  cases hc
 | true =>
  obtain ⟨d,rfl⟩:=Cf.cfg hc
  refine (filled_ok d hs hb hz h).mono ?_
  rintro e w' ⟨v,cd,us,hg,e1,rfl,hh⟩
  refine ⟨v,cd,e1,rfl,Ev.Hold.putX (a:=fun us:List Int=>Ev.slA 30 1 v us.length (u64s us)) us ⟨?_,?_,hg.u,fun d' e=>?_⟩ hh⟩
  ·exact hg.len.trans (cf_cn d).symm
  ·have:=hg.len
   have:=d.off_max
   omega
  ·obtain ⟨n,q,g,m,t,s,hd⟩:=d
   obtain ⟨n',q',g',m',t',s',hd'⟩:=d'
   simp only [Cfg.cf,Cf.mk.injEq] at e
   obtain ⟨e1,e2,e3,e4,e5,e6⟩:=e
   obtain rfl:n=n':=by omega
   obtain rfl:q=q':=by omega
   subst e3 e4 e5 e6
   exact hg
abbrev twoA (c:Cf) (v:Value) : Ev.Asr:=Ev.exA (GoodF c) (fun us=>Ev.grp [memV (Ev.subV 0 v) ⟨us,((c.cn:Nat) : Int)⟩,Ev.slA 30 1 (Ev.subV 1 v) us.length (u64s us)])
theorem docs_memX (c:Cf) {cv:Value} (h:Ev.Now [filA c cv] F w) :
  Calls Try.prog 9 #[cv] w fun e w'=>∃ v cd,Ev.dec cd=v∧e=.returned (.tuple #[Ev.subV 0 v,.agg #[Ev.subV 1 v,.int .u64 ((c.cn:Nat) : Int)]])∧Ev.Hold ⟨w,F⟩ [twoA c v] w':=by
 obtain ⟨us,hg,hh⟩:=Ev.Hold.getX (a:=fun us:List Int=>Ev.slA 30 1 cv us.length (u64s us)) (Ev.Hold.start h)
 obtain ⟨F',n1,n2,n3⟩:=hh.ex
 have hle:=hg.le
 refine (docs_mem (hold_leaf hh) (by omega) n1).mono ?_
 rintro e w' ⟨v,cd,e1,rfl,h1⟩
 have hl:=hg.len
 refine ⟨v,cd,e1,by rw [hl],Ev.Hold.putX (a:=fun us:List Int=>Ev.grp [memV (Ev.subV 0 v) ⟨us,((c.cn:Nat) : Int)⟩,Ev.slA 30 1 (Ev.subV 1 v) us.length (u64s us)]) us hg (Ev.Hold.shut (m:=[]) ?_)⟩
 rw [hl] at h1
 have h2:=h1.into (l:=[]) n2 n3
 rw [← hl] at h2 ⊢
 exact h2
end
end Go.Proofs.Ytbcnbofkgkheeaa
namespace Go.Proofs.Ytbcnbofkgkheeaa
open Go.RowKit
open Go.Ev (sy iz uz wz iN uN wN pz dv fc fn ak vk vd kn pc cc cr cm cd fr)
set_option linter.unusedVariables false
set_option linter.unusedSimpArgs false
set_option maxRecDepth 8000
attribute [local irreducible] Ev.wpL
structure PL where
 W0:World
 F0:Nat→Prop
 lv:Value
 ps:List PokeS
 hl:Ev.SlR 3 lv ps.length (ps.flatMap PokeS.cells) W0
 hoff:Ev.OffX F0 lv
 hlen:ps.length≤60
 hv:∀ k ∈ ps,U64 k.v
 c:Cf
 bv:Value
 bs:List Int
 hs:Ev.SlR 1 bv bs.length (u8s bs) W0
 hoffb:Ev.OffX F0 bv
 hb:bs.length≤1000
 hz:∀ i,0≤bs.getD i 0∧bs.getD i 0 < 256
structure PQ where
 s:PL
 xv:Value
 lxv:Ev.leafV xv=true
 yb:Nat
 bm:Nat
 br:Nat
 n:Nat
 R:List Ev.Asr
 j:Nat
 vh:Value
 lvh:Ev.leafV vh=true
 vo:Value
 lvo:Ev.leafV vo=true
 us:List Int
 hus:us.length≤1000
 k0:Nat
 bx:Nat
 x:XS
 m:MemM
 rv:Value
 lrv:Ev.leafV rv=true
 tk:Value
 ltk:Ev.leafV tk=true
 hd:Value
 lhd:Ev.leafV hd=true
 k:PokeS
theorem PQ.z (q:PQ) : q.s.ps.length≤60∧q.us.length≤1000:=⟨q.s.hlen,q.hus⟩
def yL (x:XS) (d k:Bool) (tk hd:Value) : List Value:=[.int .i64 (x.yi 0),.int .i64 (x.yi 1),.int .i64 (x.yi 2),.int .i64 (x.yi 3),.int .i64 (x.yi 4),.int .i64 (x.yi 5),.int .i64 (x.yi 6),.int .i64 (x.yi 7),.bool d,.int .i64 (x.yi 9),.int .u64 (x.yi 10),.bool k,.int .i64 (x.yi 12),.int .i64 (x.yi 13),.int .i64 (x.yi 14),.int .i64 (x.yi 15),.int .i64 (x.yi 16),.int .i64 (x.yi 17),.int .i64 (x.yi 18),.int .i64 (x.yi 19),.int .i64 (x.yi 20),.int .u64 (x.yi 21),tk,hd]
theorem yL_is (x:XS) (tk hd:Value) : (yL x x.dm x.kicked tk hd).toArray=yV x tk hd:=rfl
abbrev pl1a7 (q:PQ) : Value:=(.agg #[(iz (q.s.c.n)),(iz (q.s.c.q)),(iz (q.s.c.g)),(iz (q.s.c.m)),(iz (q.s.c.t)),(iz (q.s.c.s))])
abbrev pl1a9:List (Nat×Value):=[(0,sy 1),(4,sy 2),(6,.pointer (some ⟨400,0,none⟩)),(10,.bool false),(11,.complex .f32 415 2),(12,.pointer (some ⟨416,0,none⟩)),(13,.int .i64 0)]
abbrev pl1a14:List (Nat×Value):=[(0,sy 1),(4,sy 2),(6,sy 41),(10,.bool false),(11,sy 42),(12,sy 43),(13,sy 44)]
abbrev pl1a15 (q:PQ) : List (Nat×Value):=[(0,(q.xv)),(4,(q.s.lv)),(6,(pz q.yb)),(10,(.bool false)),(11,(pz q.bm)),(12,(pz q.br)),(13,(iN (q.n)))]
abbrev pl1a18:List (Nat×Value):=[(0,sy 1),(4,sy 2),(6,sy 41),(10,.bool false),(11,sy 42),(12,sy 43),(13,sy 44),(14,sy 46)]
abbrev pl1a19 (q:PQ) : List (Nat×Value):=[(0,(q.xv)),(4,(q.s.lv)),(6,(pz q.yb)),(10,(.bool false)),(11,(pz q.bm)),(12,(pz q.br)),(13,(iN (q.n))),(14,(iN (q.j)))]
abbrev pl1a22:List (Nat×Value):=[(0,sy 1),(4,sy 2),(6,sy 41),(10,.bool false),(11,sy 42),(12,sy 43),(13,sy 44),(14,sy 46),(15,sy 3),(16,sy 4),(17,sy 48)]
abbrev pl1a24 (q:PQ) : List Ev.Asr:=[Ev.grp q.R,Ev.slA 3 1 q.vh q.us.length (ints q.us)]
abbrev pl1a26 (q:PQ) : List Ev.Asr:=[Ev.grp q.R,Ev.slA 3 1 (q.vh) (q.us.length) ((ints q.us).set ((q.k0) * 1) (.int .i64 77))]
abbrev pl1a27 (q:PQ) : List (Nat×Value):=[(0,(q.xv)),(4,(q.s.lv)),(6,(pz q.yb)),(10,(.bool false)),(11,(pz q.bm)),(12,(pz q.br)),(13,(iN (q.n))),(14,(iN (q.j))),(15,(q.vh)),(16,(q.vo)),(17,(iN (q.k0)))]
abbrev pl1a30:List (Nat×Value):=[(0,sy 1),(4,sy 2),(6,sy 41),(10,.bool false),(11,sy 42),(12,sy 43),(13,sy 44),(14,sy 46),(16,sy 4)]
abbrev pl1a31 (q:PQ) : List (Nat×Value):=[(0,(q.xv)),(4,(q.s.lv)),(6,(pz q.yb)),(10,(.bool false)),(11,(pz q.bm)),(12,(pz q.br)),(13,(iN (q.n))),(14,(iN (q.j))),(16,(q.vo))]
abbrev pl1a34:List (Nat×Value):=[(0,sy 1),(4,sy 2),(6,sy 41),(10,.bool false),(11,sy 42),(12,sy 43),(13,sy 44),(14,sy 46),(16,sy 4),(18,sy 48)]
abbrev pl1a36 (q:PQ) : List Ev.Asr:=[Ev.grp q.R,Ev.slA 3 1 q.vo q.us.length (ints q.us)]
abbrev pl1a38 (q:PQ) : List Ev.Asr:=[Ev.grp q.R,Ev.slA 3 1 (q.vo) (q.us.length) ((ints q.us).set ((q.k0) * 1) (.int .i64 77))]
abbrev pl1a39 (q:PQ) : List (Nat×Value):=[(0,(q.xv)),(4,(q.s.lv)),(6,(pz q.yb)),(10,(.bool false)),(11,(pz q.bm)),(12,(pz q.br)),(13,(iN (q.n))),(14,(iN (q.j))),(16,(q.vo)),(18,(iN (q.k0)))]
abbrev pq_vs (q:PQ) : List Value:=[q.s.bv,q.xv,q.s.lv,q.vh,q.vo,Ev.ptrR (q.vh) ((q.k0) * 1),Ev.ptrR (q.vo) ((q.k0) * 1),q.tk,q.hd,q.rv,Ev.ptrR (q.s.lv) ((q.n) * 3),Ev.ptrR (q.s.lv) ((q.n) * 3+0),Ev.ptrR (q.s.lv) ((q.n) * 3+1),Ev.ptrR (q.s.lv) ((q.n) * 3+2),iz (q.x.yi 0),iz (q.x.yi 1),iz (q.x.yi 2),iz (q.x.yi 3),iz (q.x.yi 4),iz (q.x.yi 5),iz (q.x.yi 6),iz (q.x.yi 7),iz (q.x.yi 9),uz (q.x.yi 10),iz (q.x.yi 12),iz (q.x.yi 13),iz (q.x.yi 14),iz (q.x.yi 15),iz (q.x.yi 16),iz (q.x.yi 17),iz (q.x.yi 18),iz (q.x.yi 19),iz (q.x.yi 20),uz (q.x.yi 21),iz (q.s.c.n),iz (q.s.c.q),iz (q.s.c.g),iz (q.s.c.m),iz (q.s.c.t),iz (q.s.c.s),uN (q.s.c.cn),pz q.yb,pz q.bm,pz q.br,iN (q.n),iN (q.s.ps.length),iN (q.j),iN ((q.j)+1),iN (q.k0),iN (q.us.length),iN ((q.k0)+1),iN ((q.n)+1),pz q.bx,uz (q.m.ops),iz ((q.x.step q.m).1.yi 0),iz ((q.x.step q.m).1.yi 1),iz ((q.x.step q.m).1.yi 2),iz ((q.x.step q.m).1.yi 3),iz ((q.x.step q.m).1.yi 4),iz ((q.x.step q.m).1.yi 5),iz ((q.x.step q.m).1.yi 6),iz ((q.x.step q.m).1.yi 7),iz ((q.x.step q.m).1.yi 9),uz ((q.x.step q.m).1.yi 10),iz ((q.x.step q.m).1.yi 12),iz ((q.x.step q.m).1.yi 13),iz ((q.x.step q.m).1.yi 14),iz ((q.x.step q.m).1.yi 15),iz ((q.x.step q.m).1.yi 16),iz ((q.x.step q.m).1.yi 17),iz ((q.x.step q.m).1.yi 18),iz ((q.x.step q.m).1.yi 19),iz ((q.x.step q.m).1.yi 20),uz ((q.x.step q.m).1.yi 21),uz ((q.x.step q.m).2.ops),uz (q.m.ops+1),iN (q.m.cells.length),iz (q.k.at'),iN ((pick q.k.at' (q.m.cells.length:Int)).toNat),uz (q.k.v),uz (IntKind.u64.wrap (q.m.ops+1))]
theorem pq_lf (q:PQ) : ∀ x ∈ pq_vs q,Ev.leafV x=true:=(fc q.s.hs.leaf (fc q.lxv (fc q.s.hl.leaf (fc q.lvh (fc q.lvo (fc (Ev.ptrR_leaf _ _) (fc (Ev.ptrR_leaf _ _) (fc q.ltk (fc q.lhd (fc q.lrv (fc (Ev.ptrR_leaf _ _) (fc (Ev.ptrR_leaf _ _) (fc (Ev.ptrR_leaf _ _) (fc (Ev.ptrR_leaf _ _) fr))))))))))))))
theorem plAt (q:PQ) : Ev.Pie Try.prog 17 [] 0 3 157 ⟨q.s.W0,q.s.F0⟩ [(0,(q.xv)),(1,(.agg #[(iz (q.x.yi 0)),(iz (q.x.yi 1)),(iz (q.x.yi 2)),(iz (q.x.yi 3)),(iz (q.x.yi 4)),(iz (q.x.yi 5)),(iz (q.x.yi 6)),(iz (q.x.yi 7)),(.bool true),(iz (q.x.yi 9)),(uz (q.x.yi 10)),(.bool false),(iz (q.x.yi 12)),(iz (q.x.yi 13)),(iz (q.x.yi 14)),(iz (q.x.yi 15)),(iz (q.x.yi 16)),(iz (q.x.yi 17)),(iz (q.x.yi 18)),(iz (q.x.yi 19)),(iz (q.x.yi 20)),(uz (q.x.yi 21)),(.slice none 0 0),(.slice none 0 0)])),(2,(pl1a7 q)),(3,(q.s.bv)),(4,(q.s.lv))] [Ev.grp q.R] .normal (fun κ:Ev.Ren=>[(0,(q.xv)),(4,(q.s.lv)),(6,(pz ((κ 400).getD 0))),(10,(.bool false)),(11,(Ev.subV 0 (dv κ 415))),(12,(pz ((κ 416).getD 0))),(13,(.int .i64 0))]) (fun κ:Ev.Ren=>[Ev.blkA ((κ 400).getD 0) (yL q.x true false (.slice none 0 0) (.slice none 0 0)) 56,Ev.blkA ((κ 416).getD 0) [(Ev.subV 1 (dv κ 415)),(uN (q.s.c.cn))] 32,twoA q.s.c (dv κ 415),Ev.grp q.R]):=(tr (c:=⟨q.s.W0,q.s.F0⟩) (kn (pq_vs q) (pq_lf q) [] [] [] fn fn fn q.s.W0 q.s.F0 [[Ev.grp q.R],[Ev.atD 411 (fun v=>filA q.s.c v),Ev.grp q.R],[Ev.atD 415 (fun v=>twoA q.s.c v),Ev.grp q.R]] [] [⟨10,[.agg #[sy 34,sy 35,sy 36,sy 37,sy 38,sy 39],sy 0],0,some 411,.complex .f32 411 0,some 1⟩,⟨9,[.complex .f32 411 0],1,some 415,.tuple #[.complex .f32 415 2,.agg #[.complex .f32 415 3,sy 40]],some 2⟩]) fn (fc (cd rfl [fun v=>filA q.s.c v] [] [0] (fun w F ho hn hF=>filled_any q.s.c (q.s.hs.old ho q.s.hoffb) q.s.hb q.s.hz hn)) (fc (Ev.gc_ofDD (c:=⟨q.s.W0,q.s.F0⟩) (lpd:=[Ev.atD 411 (fun v=>filA q.s.c v)]) (lp:=fun v=>[filA q.s.c v]) (args:=fun v=>[v]) (ret:=fun v=>.tuple #[Ev.subV 0 v,.agg #[Ev.subV 1 v,.int .u64 ((q.s.c.cn:Nat) : Int)]]) [fun v=>twoA q.s.c v] [0] [1] rfl rfl rfl rfl (Ev.hf_at (fun _ _ _ _ _ h=>h) Ev.hf_nil) (Ev.argD_here (ak (by kernel_rfl) (by kernel_rfl))) (fun ι cd hcd=>(vd hcd (by kernel_rfl) (by kernel_rfl))) (fun v w F ho hn hF=>docs_memX q.s.c hn)) fn)) rfl [] [] [(400,[sy 14,sy 15,sy 16,sy 17,sy 18,sy 19,sy 20,sy 21,.bool true,sy 22,sy 23,.bool false,sy 24,sy 25,sy 26,sy 27,sy 28,sy 29,sy 30,sy 31,sy 32,sy 33,.slice none 0 0,.slice none 0 0],56),(416,[.complex .f32 415 3,sy 40],32)] 2 rfl rfl [(0,sy 1),(1,.agg #[sy 14,sy 15,sy 16,sy 17,sy 18,sy 19,sy 20,sy 21,.bool true,sy 22,sy 23,.bool false,sy 24,sy 25,sy 26,sy 27,sy 28,sy 29,sy 30,sy 31,sy 32,sy 33,.slice none 0 0,.slice none 0 0]),(2,.agg #[sy 34,sy 35,sy 36,sy 37,sy 38,sy 39]),(3,sy 0),(4,sy 2)] pl1a9 .normal).conv (fun κ w=>⟨(fun _ h=>h),(fun _ h=>h),(fun _ h=>Ev.undy (a:=fun v=>twoA q.s.c v) (fun _ _ _ _ _ h=>h) h),(fun _ h=>h),trivial⟩)
theorem plAf (q:PQ) : Ev.Pie Try.prog 17 [] 0 3 157 ⟨q.s.W0,q.s.F0⟩ [(0,(q.xv)),(1,(.agg #[(iz (q.x.yi 0)),(iz (q.x.yi 1)),(iz (q.x.yi 2)),(iz (q.x.yi 3)),(iz (q.x.yi 4)),(iz (q.x.yi 5)),(iz (q.x.yi 6)),(iz (q.x.yi 7)),(.bool false),(iz (q.x.yi 9)),(uz (q.x.yi 10)),(.bool false),(iz (q.x.yi 12)),(iz (q.x.yi 13)),(iz (q.x.yi 14)),(iz (q.x.yi 15)),(iz (q.x.yi 16)),(iz (q.x.yi 17)),(iz (q.x.yi 18)),(iz (q.x.yi 19)),(iz (q.x.yi 20)),(uz (q.x.yi 21)),(.slice none 0 0),(.slice none 0 0)])),(2,(pl1a7 q)),(3,(q.s.bv)),(4,(q.s.lv))] [Ev.grp q.R] .normal (fun κ:Ev.Ren=>[(0,(q.xv)),(4,(q.s.lv)),(6,(pz ((κ 400).getD 0))),(10,(.bool false)),(11,(Ev.subV 0 (dv κ 415))),(12,(pz ((κ 416).getD 0))),(13,(.int .i64 0))]) (fun κ:Ev.Ren=>[Ev.blkA ((κ 400).getD 0) (yL q.x false false (.slice none 0 0) (.slice none 0 0)) 56,Ev.blkA ((κ 416).getD 0) [(Ev.subV 1 (dv κ 415)),(uN (q.s.c.cn))] 32,twoA q.s.c (dv κ 415),Ev.grp q.R]):=(tr (c:=⟨q.s.W0,q.s.F0⟩) (kn (pq_vs q) (pq_lf q) [] [] [] fn fn fn q.s.W0 q.s.F0 [[Ev.grp q.R],[Ev.atD 411 (fun v=>filA q.s.c v),Ev.grp q.R],[Ev.atD 415 (fun v=>twoA q.s.c v),Ev.grp q.R]] [] [⟨10,[.agg #[sy 34,sy 35,sy 36,sy 37,sy 38,sy 39],sy 0],0,some 411,.complex .f32 411 0,some 1⟩,⟨9,[.complex .f32 411 0],1,some 415,.tuple #[.complex .f32 415 2,.agg #[.complex .f32 415 3,sy 40]],some 2⟩]) fn (fc (cd rfl [fun v=>filA q.s.c v] [] [0] (fun w F ho hn hF=>filled_any q.s.c (q.s.hs.old ho q.s.hoffb) q.s.hb q.s.hz hn)) (fc (Ev.gc_ofDD (c:=⟨q.s.W0,q.s.F0⟩) (lpd:=[Ev.atD 411 (fun v=>filA q.s.c v)]) (lp:=fun v=>[filA q.s.c v]) (args:=fun v=>[v]) (ret:=fun v=>.tuple #[Ev.subV 0 v,.agg #[Ev.subV 1 v,.int .u64 ((q.s.c.cn:Nat) : Int)]]) [fun v=>twoA q.s.c v] [0] [1] rfl rfl rfl rfl (Ev.hf_at (fun _ _ _ _ _ h=>h) Ev.hf_nil) (Ev.argD_here (ak (by kernel_rfl) (by kernel_rfl))) (fun ι cd hcd=>(vd hcd (by kernel_rfl) (by kernel_rfl))) (fun v w F ho hn hF=>docs_memX q.s.c hn)) fn)) rfl [] [] [(400,[sy 14,sy 15,sy 16,sy 17,sy 18,sy 19,sy 20,sy 21,.bool false,sy 22,sy 23,.bool false,sy 24,sy 25,sy 26,sy 27,sy 28,sy 29,sy 30,sy 31,sy 32,sy 33,.slice none 0 0,.slice none 0 0],56),(416,[.complex .f32 415 3,sy 40],32)] 2 rfl rfl [(0,sy 1),(1,.agg #[sy 14,sy 15,sy 16,sy 17,sy 18,sy 19,sy 20,sy 21,.bool false,sy 22,sy 23,.bool false,sy 24,sy 25,sy 26,sy 27,sy 28,sy 29,sy 30,sy 31,sy 32,sy 33,.slice none 0 0,.slice none 0 0]),(2,.agg #[sy 34,sy 35,sy 36,sy 37,sy 38,sy 39]),(3,sy 0),(4,sy 2)] pl1a9 .normal).conv (fun κ w=>⟨(fun _ h=>h),(fun _ h=>h),(fun _ h=>Ev.undy (a:=fun v=>twoA q.s.c v) (fun _ _ _ _ _ h=>h) h),(fun _ h=>h),trivial⟩)
theorem plC (q:PQ) (h:q.n≤q.s.ps.length) : Ev.Pie Try.prog 17 [6,0] 0 2 157 ⟨q.s.W0,q.s.F0⟩ (pl1a15 q) [Ev.grp q.R] .normal (fun κ:Ev.Ren=>(pl1a15 q)) (fun κ:Ev.Ren=>[Ev.grp q.R]):=(tr (c:=⟨q.s.W0,q.s.F0⟩) (kn (pq_vs q) (pq_lf q) [(.leq,sy 44,sy 45,.bool true)] [] [] (fc (fun _ _ _=>Ev.bt_leq (by have z:=q.z; first | (simp; done) | (simp; omega))) fn) fn fn q.s.W0 q.s.F0 [[Ev.grp q.R]] [⟨[10,48],[sy 2],none,0,none,sy 45,none⟩] []) (fc (Ev.ro_len (ci:=0) rfl rfl q.s.hl Try.underlying48 rfl rfl) fn) fn rfl [] [] [] 0 rfl rfl pl1a14 pl1a14 .normal)
theorem plT0 (q:PQ) : Ev.Pie Try.prog 17 [6,0,4] 0 1 157 ⟨q.s.W0,q.s.F0⟩ (pl1a15 q) [Ev.grp q.R] .normal (fun κ:Ev.Ren=>[(0,(q.xv)),(4,(q.s.lv)),(6,(pz q.yb)),(10,(.bool false)),(11,(pz q.bm)),(12,(pz q.br)),(13,(iN (q.n))),(14,(.int .i64 0))]) (fun κ:Ev.Ren=>[Ev.grp q.R]):=(tr (c:=⟨q.s.W0,q.s.F0⟩) (kn (pq_vs q) (pq_lf q) [] [] [] fn fn fn q.s.W0 q.s.F0 [[Ev.grp q.R]] [] []) fn fn rfl [] [] [] 0 rfl rfl pl1a14 [(0,sy 1),(4,sy 2),(6,sy 41),(10,.bool false),(11,sy 42),(12,sy 43),(13,sy 44),(14,.int .i64 0)] .normal)
theorem plT1 (q:PQ) (h:q.j < 2) : Ev.Pie Try.prog 17 [6,0,4,2,0] 0 2 157 ⟨q.s.W0,q.s.F0⟩ (pl1a19 q) [Ev.grp q.R] .normal (fun κ:Ev.Ren=>(pl1a19 q)) (fun κ:Ev.Ren=>[Ev.grp q.R]):=(tr (c:=⟨q.s.W0,q.s.F0⟩) (kn (pq_vs q) (pq_lf q) [(.lss,sy 46,.int .i64 2,.bool true)] [] [] (fc (fun _ _ _=>Ev.bt_lss (by have z:=q.z; first | (simp; done) | (simp; omega))) fn) fn fn q.s.W0 q.s.F0 [[Ev.grp q.R]] [] []) fn fn rfl [] [] [] 0 rfl rfl pl1a18 pl1a18 .normal)
theorem plT2 (q:PQ) (h:¬ q.j < 2) : Ev.Pie Try.prog 17 [6,0,4,2,0] 0 2 157 ⟨q.s.W0,q.s.F0⟩ (pl1a19 q) [Ev.grp q.R] (.exit 2) (fun κ:Ev.Ren=>(pl1a15 q)) (fun κ:Ev.Ren=>[Ev.grp q.R]):=(tr (c:=⟨q.s.W0,q.s.F0⟩) (kn (pq_vs q) (pq_lf q) [(.lss,sy 46,.int .i64 2,.bool false)] [] [] (fc (fun _ _ _=>Ev.bt_lss (by have z:=q.z; first | (simp; done) | (simp; omega))) fn) fn fn q.s.W0 q.s.F0 [[Ev.grp q.R]] [] []) fn fn rfl [] [] [] 0 rfl rfl pl1a18 pl1a14 (.exit 2))
theorem plT3 (q:PQ) (h:q.j < 2) : Ev.Pie Try.prog 17 [6,0,4,2,0] 3 1 157 ⟨q.s.W0,q.s.F0⟩ (pl1a19 q) [Ev.grp q.R] .normal (fun κ:Ev.Ren=>[(0,(q.xv)),(4,(q.s.lv)),(6,(pz q.yb)),(10,(.bool false)),(11,(pz q.bm)),(12,(pz q.br)),(13,(iN (q.n))),(14,(iN ((q.j)+1)))]) (fun κ:Ev.Ren=>[Ev.grp q.R]):=(tr (c:=⟨q.s.W0,q.s.F0⟩) (kn (pq_vs q) (pq_lf q) [(.add,sy 46,.int .i64 1,sy 47)] [] [] (fc (fun _ _ _=>Ev.bt_add (by have z:=q.z; rw [wrap_ok (by omega) (by omega)]; omega)) fn) fn fn q.s.W0 q.s.F0 [[Ev.grp q.R]] [] []) fn fn rfl [] [] [] 0 rfl rfl pl1a18 [(0,sy 1),(4,sy 2),(6,sy 41),(10,.bool false),(11,sy 42),(12,sy 43),(13,sy 44),(14,sy 47)] .normal)
theorem plSaY (q:PQ) (hq:q.k0 < q.us.length) : Ev.Pie Try.prog 17 [6,0,4,2,0,4,8,0] 0 4 157 ⟨q.s.W0,q.s.F0⟩ (pl1a27 q) (pl1a24 q) .normal (fun κ:Ev.Ren=>[(0,(q.xv)),(4,(q.s.lv)),(6,(pz q.yb)),(10,(.bool false)),(11,(pz q.bm)),(12,(pz q.br)),(13,(iN (q.n))),(14,(iN (q.j))),(15,(q.vh)),(16,(q.vo)),(17,(iN ((q.k0)+1)))]) (fun κ:Ev.Ren=>(pl1a26 q)):=(tr (c:=⟨q.s.W0,q.s.F0⟩) (kn (pq_vs q) (pq_lf q) [(.lss,sy 48,sy 49,.bool true),(.add,sy 48,.int .i64 1,sy 50)] [] [] (fc (fun _ _ _=>Ev.bt_lss (by have z:=q.z; first | (simp; done) | (simp; omega))) (fc (fun _ _ _=>Ev.bt_add (by have z:=q.z; rw [wrap_ok (by omega) (by omega)]; omega)) fn)) fn fn q.s.W0 q.s.F0 [(pl1a24 q),(pl1a26 q)] [⟨[10,36],[sy 3],none,0,none,sy 49,none⟩,⟨[3,36],[sy 3,sy 48],none,0,none,sy 5,none⟩,⟨[2,3],[sy 5,.int .i64 77],none,0,none,undef,some 1⟩] []) (fc (by obtain ⟨i,i1,i2,i3,i4⟩:=infInt; exact Ev.sl_len (ci:=2) rfl rfl Try.underlying36 i2 rfl rfl) (fc (by obtain ⟨i,i1,i2,i3,i4⟩:=infInt; have z:=q.z; exact Ev.sl_index (ci:=2) (j:=(q.k0)) rfl rfl Try.underlying36 i1 i2 rfl rfl (by omega) rfl) (fc (by have z:=q.z; exact Ev.sl_store (ci:=2) (m:=(q.k0) * 1) (x:=(.int .i64 77)) rfl rfl rfl storeInt (by simp; omega) rfl Ev.isInt rfl) fn))) fn rfl [] [] [] 1 rfl rfl pl1a22 [(0,sy 1),(4,sy 2),(6,sy 41),(10,.bool false),(11,sy 42),(12,sy 43),(13,sy 44),(14,sy 46),(15,sy 3),(16,sy 4),(17,sy 50)] .normal)
theorem plSaN (q:PQ) (hq:¬ q.k0 < q.us.length) : Ev.Pie Try.prog 17 [6,0,4,2,0,4,8,0] 0 2 157 ⟨q.s.W0,q.s.F0⟩ (pl1a27 q) (pl1a24 q) (.exit 4) (fun κ:Ev.Ren=>(pl1a31 q)) (fun κ:Ev.Ren=>(pl1a24 q)):=(tr (c:=⟨q.s.W0,q.s.F0⟩) (kn (pq_vs q) (pq_lf q) [(.lss,sy 48,sy 49,.bool false)] [] [] (fc (fun _ _ _=>Ev.bt_lss (by have z:=q.z; first | (simp; done) | (simp; omega))) fn) fn fn q.s.W0 q.s.F0 [(pl1a24 q)] [⟨[10,36],[sy 3],none,0,none,sy 49,none⟩] []) (fc (by obtain ⟨i,i1,i2,i3,i4⟩:=infInt; exact Ev.sl_len (ci:=2) rfl rfl Try.underlying36 i2 rfl rfl) fn) fn rfl [] [] [] 0 rfl rfl pl1a22 pl1a30 (.exit 4))
theorem plS (q:PQ) : Ev.Pie Try.prog 17 [6,0,4,2,0,4] 5 1 157 ⟨q.s.W0,q.s.F0⟩ (pl1a31 q) [Ev.grp q.R] .normal (fun κ:Ev.Ren=>[(0,(q.xv)),(4,(q.s.lv)),(6,(pz q.yb)),(10,(.bool false)),(11,(pz q.bm)),(12,(pz q.br)),(13,(iN (q.n))),(14,(iN (q.j))),(16,(q.vo)),(18,(.int .i64 0))]) (fun κ:Ev.Ren=>[Ev.grp q.R]):=(tr (c:=⟨q.s.W0,q.s.F0⟩) (kn (pq_vs q) (pq_lf q) [] [] [] fn fn fn q.s.W0 q.s.F0 [[Ev.grp q.R]] [] []) fn fn rfl [] [] [] 0 rfl rfl pl1a30 [(0,sy 1),(4,sy 2),(6,sy 41),(10,.bool false),(11,sy 42),(12,sy 43),(13,sy 44),(14,sy 46),(16,sy 4),(18,.int .i64 0)] .normal)
theorem plSbY (q:PQ) (hq:q.k0 < q.us.length) : Ev.Pie Try.prog 17 [6,0,4,2,0,4,12,0] 0 4 157 ⟨q.s.W0,q.s.F0⟩ (pl1a39 q) (pl1a36 q) .normal (fun κ:Ev.Ren=>[(0,(q.xv)),(4,(q.s.lv)),(6,(pz q.yb)),(10,(.bool false)),(11,(pz q.bm)),(12,(pz q.br)),(13,(iN (q.n))),(14,(iN (q.j))),(16,(q.vo)),(18,(iN ((q.k0)+1)))]) (fun κ:Ev.Ren=>(pl1a38 q)):=(tr (c:=⟨q.s.W0,q.s.F0⟩) (kn (pq_vs q) (pq_lf q) [(.lss,sy 48,sy 49,.bool true),(.add,sy 48,.int .i64 1,sy 50)] [] [] (fc (fun _ _ _=>Ev.bt_lss (by have z:=q.z; first | (simp; done) | (simp; omega))) (fc (fun _ _ _=>Ev.bt_add (by have z:=q.z; rw [wrap_ok (by omega) (by omega)]; omega)) fn)) fn fn q.s.W0 q.s.F0 [(pl1a36 q),(pl1a38 q)] [⟨[10,36],[sy 4],none,0,none,sy 49,none⟩,⟨[3,36],[sy 4,sy 48],none,0,none,sy 6,none⟩,⟨[2,3],[sy 6,.int .i64 77],none,0,none,undef,some 1⟩] []) (fc (by obtain ⟨i,i1,i2,i3,i4⟩:=infInt; exact Ev.sl_len (ci:=2) rfl rfl Try.underlying36 i2 rfl rfl) (fc (by obtain ⟨i,i1,i2,i3,i4⟩:=infInt; have z:=q.z; exact Ev.sl_index (ci:=2) (j:=(q.k0)) rfl rfl Try.underlying36 i1 i2 rfl rfl (by omega) rfl) (fc (by have z:=q.z; exact Ev.sl_store (ci:=2) (m:=(q.k0) * 1) (x:=(.int .i64 77)) rfl rfl rfl storeInt (by simp; omega) rfl Ev.isInt rfl) fn))) fn rfl [] [] [] 1 rfl rfl pl1a34 [(0,sy 1),(4,sy 2),(6,sy 41),(10,.bool false),(11,sy 42),(12,sy 43),(13,sy 44),(14,sy 46),(16,sy 4),(18,sy 50)] .normal)
theorem plSbN (q:PQ) (hq:¬ q.k0 < q.us.length) : Ev.Pie Try.prog 17 [6,0,4,2,0,4,12,0] 0 2 157 ⟨q.s.W0,q.s.F0⟩ (pl1a39 q) (pl1a36 q) (.exit 6) (fun κ:Ev.Ren=>(pl1a19 q)) (fun κ:Ev.Ren=>(pl1a36 q)):=(tr (c:=⟨q.s.W0,q.s.F0⟩) (kn (pq_vs q) (pq_lf q) [(.lss,sy 48,sy 49,.bool false)] [] [] (fc (fun _ _ _=>Ev.bt_lss (by have z:=q.z; first | (simp; done) | (simp; omega))) fn) fn fn q.s.W0 q.s.F0 [(pl1a36 q)] [⟨[10,36],[sy 4],none,0,none,sy 49,none⟩] []) (fc (by obtain ⟨i,i1,i2,i3,i4⟩:=infInt; exact Ev.sl_len (ci:=2) rfl rfl Try.underlying36 i2 rfl rfl) fn) fn rfl [] [] [] 0 rfl rfl pl1a34 pl1a18 (.exit 6))
theorem plE1 (q:PQ) (h:q.n=q.s.ps.length) : Ev.Pie Try.prog 17 [6,0,4] 4 2 157 ⟨q.s.W0,q.s.F0⟩ (pl1a15 q) [Ev.grp q.R] .ret (fun κ:Ev.Ren=>[(10,(.bool true))]) (fun κ:Ev.Ren=>[Ev.grp q.R]):=(tr (c:=⟨q.s.W0,q.s.F0⟩) (kn (pq_vs q) (pq_lf q) [(.eql,sy 44,sy 45,.bool true)] [] [] (fc (fun _ _ _=>Ev.bt_eql (by have z:=q.z; first | (simp; done) | (simp; omega))) fn) fn fn q.s.W0 q.s.F0 [[Ev.grp q.R]] [⟨[10,48],[sy 2],none,0,none,sy 45,none⟩] []) (fc (Ev.ro_len (ci:=0) rfl rfl q.s.hl Try.underlying48 rfl rfl) fn) fn rfl [] [] [] 0 rfl rfl pl1a14 [(10,.bool true)] .ret)
theorem plE2 (q:PQ) (h:q.n < q.s.ps.length) : Ev.Pie Try.prog 17 [6,0,4] 4 2 157 ⟨q.s.W0,q.s.F0⟩ (pl1a15 q) [Ev.grp q.R] .normal (fun κ:Ev.Ren=>(pl1a15 q)) (fun κ:Ev.Ren=>[Ev.grp q.R]):=(tr (c:=⟨q.s.W0,q.s.F0⟩) (kn (pq_vs q) (pq_lf q) [(.eql,sy 44,sy 45,.bool false)] [] [] (fc (fun _ _ _=>Ev.bt_eql (by have z:=q.z; first | (simp; done) | (simp; omega))) fn) fn fn q.s.W0 q.s.F0 [[Ev.grp q.R]] [⟨[10,48],[sy 2],none,0,none,sy 45,none⟩] []) (fc (Ev.ro_len (ci:=0) rfl rfl q.s.hl Try.underlying48 rfl rfl) fn) fn rfl [] [] [] 0 rfl rfl pl1a14 pl1a14 .normal)
theorem plI (q:PQ) (h:q.n < q.s.ps.length) : Ev.Pie Try.prog 17 [6,0] 3 1 157 ⟨q.s.W0,q.s.F0⟩ (pl1a15 q) [Ev.grp q.R] .normal (fun κ:Ev.Ren=>[(0,(q.xv)),(4,(q.s.lv)),(6,(pz q.yb)),(10,(.bool false)),(11,(pz q.bm)),(12,(pz q.br)),(13,(iN ((q.n)+1)))]) (fun κ:Ev.Ren=>[Ev.grp q.R]):=(tr (c:=⟨q.s.W0,q.s.F0⟩) (kn (pq_vs q) (pq_lf q) [(.add,sy 44,.int .i64 1,sy 51)] [] [] (fc (fun _ _ _=>Ev.bt_add (by have z:=q.z; rw [wrap_ok (by omega) (by omega)]; omega)) fn) fn fn q.s.W0 q.s.F0 [[Ev.grp q.R]] [] []) fn fn rfl [] [] [] 0 rfl rfl pl1a14 [(0,sy 1),(4,sy 2),(6,sy 41),(10,.bool false),(11,sy 42),(12,sy 43),(13,sy 51)] .normal)
end Go.Proofs.Ytbcnbofkgkheeaa
