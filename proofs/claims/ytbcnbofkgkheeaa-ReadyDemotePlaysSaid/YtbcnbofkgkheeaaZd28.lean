/- 'ReadyDemotePlays' returns true, whatever its arguments are (pokes of at most 60 steps, and at most 40 bytes, are looked at), and leaves them as they were. -/
import Derived.Test.YtbcnbofkgkheeaaRows
import Derived.WalkKit
import Derived.ProofKit
import Derived.OpenShut
import Derived.Carry
import Derived.Deep.Fields
import Derived.Test.YtbcnbofkgkheeaaZd27
import Derived.Deep.Slices
import Derived.ChangeSame
namespace Go.Proofs.Ytbcnbofkgkheeaa
open Go.ChangeShapes Go.WideShapes Go.ChangeAt Go.RowKit Go.Deep
set_option linter.unusedVariables false
section
variable {H:Type} {enc:TypeId×Value→H} {P:Program}
theorem trodAll_below (hl:laidOutB P=true) {W W':World} (hb:Below W.heap.size W W') : ∀ (ts:List TypeId) (vs:List Value) (ds:List (DataW H)) (ps:List MemPlace),
  DataW.TrodAll enc P W 0 (fun _=>true) true ts vs ds ps→(∀ t ∈ ts,P.readableRec t=true∧t < P.types.size)→(∀ x ∈ ps,x.block < W.heap.size) →
  DataW.TrodAll enc P W' 0 (fun b=>decide (b < W.heap.size)) true ts vs ds ps:=by
 intro ts
 induction ts with
 | nil =>
  intro vs ds ps h _ _
  obtain ⟨rfl,rfl,rfl⟩:=trodAll_nil h
  exact trodAll_mk0
 | cons t ts ih =>
  intro vs ds ps h hr hlt
  obtain ⟨v,vs',d,ds',p,q,rfl,rfl,rfl,h1,h2⟩:=trodAll_cons h
  exact trodAll_cons_mk ((hb.trod hl (hr t (List.mem_cons_self ..)).1 (hr t (List.mem_cons_self ..)).2 h1 (fun x hx=>hlt x (List.mem_append_left _ hx))))
   (ih vs' ds' q h2 (fun t' ht'=>hr t' (List.mem_cons_of_mem _ ht')) (fun x hx=>hlt x (List.mem_append_right _ hx)))
theorem law_post {f:Func} {s:ChangeSpec} {W W':World} {args:Array Value} {ds gs:List (DataW H)} {before:List MemPlace} {tb:TypeId} (hl:laidOutB P=true)
  (hW:DataW.Whole enc P f.params.toList s.vars false W args.toList ds gs before) (hvars:s.vars=[]) (hres:f.resultTypes = #[tb]) (hbool:P.underlying tb=some .bool)
  (hfn:s.fn H ds = { results:=[.lit (.bool true)],args:=ds }) (hread:∀ t ∈ f.params.toList,P.readableRec t=true∧t < P.types.size) (hb:Below W.heap.size W W') :
  s.post enc P f false true false false W args (.bool true) W':=by
 have hW0:=hW
 obtain ⟨p,q,hA,hV,hpq,hz,hn⟩:=hW
 rw [hvars] at hV
 obtain ⟨rfl,rfl⟩:=trodVars_none hV
 have hlt:∀ x ∈ before,x.block < W.heap.size:=fun x hx=>hW0.lt x hx
 have hpl:before=p:=by rw [hpq,List.append_nil]
 refine ⟨ds,[],before,[],p,[],hW0,?_,?_,?_,?_,fun h=>by cases h⟩
 ·rw [List.append_nil,hfn,hres]
  exact trodAll_mk1 (shut_bool hbool true)
 ·rw [List.append_nil,hfn]
  exact trodAll_below hl hb _ _ _ _ hA hread (fun x hx=>hlt x (by rw [hpl]; exact hx))
 ·rw [hvars,List.append_nil,hfn]
  rfl
 ·exact World.keptBut_mono (fun x hx=>⟨hx,.inr (.inl (by rw [hpl] at hx; exact hx))⟩) (hb.frame (· ∈ before))
theorem open_cells {W:World} {base b0:Nat} {spare:Nat→Bool} {held:Bool} {r:Reach} {t:TypeId} {fs:Array Field} {v:Value} {d:DataW H} {p:List MemPlace} (hs:P.underlying t=some (.struct fs)) (hone:oneCellFields P fs=true) (hC:P.cellsOf t=fs.size)
  (hv:Value.okWide P W r b0 t v) (h:DataW.Trod enc P W base spare held t v d p) :
  ∃ cs:Array Value,v=.agg cs∧cs.size=fs.size∧∀ (j:Nat) (f:Field),fs[j]? = some f→∃ n x y,cs[j]? = some x∧DataW.trod enc P W base spare held n f.type [x]=some y:=by
 obtain ⟨cs,rfl,hsz⟩:=okWide_struct hs hv
 obtain ⟨fuel,hf⟩:=h
 obtain ⟨ys,n,hn,hy,hlen,hyl,hfs⟩:=DataW.trod_struct hs hf
 rw [hC] at hsz
 refine ⟨cs,rfl,hsz,fun j f hj=>?_⟩
 obtain ⟨ho,hk⟩:=hone_of hone j f hj
 have hjl:j < cs.size:=by rw [hsz]; exact (Array.getElem?_eq_some_iff.1 hj).1
 have h1:=hfs j f hj
 have hjy:j < ys.length:=by rw [hyl]; exact (Array.getElem?_eq_some_iff.1 hj).1
 have hys:ys[j]? = some (ys[j]'hjy):=List.getElem?_eq_getElem hjy
 have hc:(((Value.agg cs).cells.toList.drop f.offset).take (P.cellsOf f.type))=[cs[j]]:=by
  rw [ho,hk]
  show ((cs.toList.drop j).take 1)=_
  rw [List.drop_eq_getElem_cons (by simpa using hjl)]
  rfl
 refine ⟨n,cs[j],ys[j]'hjy,Array.getElem?_eq_getElem hjl,?_⟩
 rw [← hc,← hys]
 exact h1
end
end Go.Proofs.Ytbcnbofkgkheeaa
namespace Go.Proofs.Ytbcnbofkgkheeaa
open Go.ChangeShapes Go.WideShapes Go.ChangeAt Go.RowKit Go.Deep
set_option linter.unusedVariables false
set_option linter.unusedSimpArgs false
set_option maxRecDepth 100000
section
variable {H:Type} {enc:TypeId×Value→H} {w:World}
theorem cell_lt {a:Addr} {v:Value} (h:w.cell? a=some v) : a.block < w.heap.size:=by
 unfold World.cell? at h
 cases hb:w.heap[a.block]? with
 | none=>rw [hb] at h; cases h
 | some o=>exact (Array.getElem?_eq_some_iff.1 hb).1
theorem add_none {b off n:Nat} : (⟨b,off,none⟩ : Addr).add n=⟨b,off+n,none⟩:=Ev.addMk b off n
theorem u8_bd {n:Int} (h:(Lit.int .u8 n).wf=true) : 0≤n∧n < 256:=by
 simp [Lit.wf,IntKind.min,IntKind.max,IntKind.signed,IntKind.bits] at h
 omega
theorem u64_bd {n:Int} (h:(Lit.int .u64 n).wf=true) : U64 n:=by
 simp [Lit.wf,IntKind.min,IntKind.max,IntKind.signed,IntKind.bits] at h
 unfold U64
 omega
theorem open_bytes {v:Value} {d:DataW H} {ps:List MemPlace} {r:Reach} {b0:Nat} (hv:Value.okWide Try.prog w r b0 24 v) (h:DataW.Trod enc Try.prog w 0 (fun _=>true) true 24 v d ps) :
  ∃ zs:List Int,Ev.SlR 1 v zs.length (u8s zs) w∧∀ i,0≤zs.getD i 0∧zs.getD i 0 < 256:=by
 obtain ⟨a0,n0,c0,rfl⟩:=okWide_slice Try.underlying24 hv
 obtain ⟨fuel,hf⟩:=h
 have key:∀ zs:List Int,(∀ z ∈ zs,0≤z∧z < 256)→∀ i,0≤zs.getD i 0∧zs.getD i 0 < 256:=fun zs hz i=>by
  rcases Nat.lt_or_ge i zs.length with h | h
  ·rw [List.getD_eq_getElem?_getD,List.getElem?_eq_getElem h]
   exact hz _ (List.getElem_mem h)
  ·rw [List.getD_eq_getElem?_getD,List.getElem?_eq_none h]
   decide
 rcases open_ints Try.underlying24 Try.underlying5 (by kernel_rfl) hf with ⟨hcs,_⟩ | ⟨a,len,cap,zs,hcs,_,hl,_,hz,_,hc,hwz⟩
 ·simp [Value.cells] at hcs
  obtain ⟨rfl,rfl,rfl⟩:=hcs
  exact ⟨[],⟨rfl,.inl ⟨rfl,_,_,rfl⟩⟩,key [] (fun z hz=>by cases hz)⟩
 ·simp [Value.cells] at hcs
  obtain ⟨rfl,rfl,rfl⟩:=hcs
  simp only [if_true] at hz
  have hlen:(zs.take n0).length=n0:=by rw [List.length_take]; omega
  refine ⟨zs.take n0,⟨by simp [u8s],?_⟩,key _ (fun z hm=>u8_bd (hwz z (List.mem_of_mem_take hm)))⟩
  rw [hlen]
  rcases Nat.eq_zero_or_pos n0 with h0 | h0
  ·subst h0
   exact .inl ⟨rfl,some a,_,rfl⟩
  ·have h1:=hc 0 (by omega)
   have hs:a.spot=none:=by simpa [Addr.add] using World.cell?_spot h1
   obtain ⟨b,off,spot⟩:=a
   simp only at hs
   subst hs
   have hb:b < w.heap.size:=by
    have:=cell_lt h1
    rw [add_none] at this
    exact this
   refine .inr ⟨b,off,_,rfl,⟨hb,hl⟩,fun j hj=>?_⟩
   have h2:=hc j (by omega)
   rw [add_none] at h2
   rw [h2]
   simp only [u8s]
   rw [List.getElem?_map,List.getElem?_take,if_pos (by omega),List.getElem?_eq_getElem (by omega)]
   simp [List.getD_eq_getElem?_getD,List.getElem?_eq_getElem (show j < zs.length by omega)]
theorem open_poke {fuel:Nat} {cs:List Value} {x:DataW H×List MemPlace} (h:DataW.trod enc Try.prog w 0 (fun _=>true) true fuel 86 cs=some x) : ∃ s:PokeS,cs=s.cells∧U64 s.v:=by
 obtain ⟨ys,n,_,_,hlen,hyl,hf⟩:=DataW.trod_struct Try.underlying86 h
 have hC:Try.prog.cellsOf 86 = 3:=by kernel_rfl
 rw [hC] at hlen
 match cs,hlen with
 | [c0,c1,c2],_ =>
  have k0:=hf 0 _ rfl
  have k1:=hf 1 _ rfl
  have k2:=hf 2 _ rfl
  have one:∀ t:TypeId,Try.prog.cellsOf t=1→∀ (c:Value) (l:List Value),(c::l).take (Try.prog.cellsOf t)=[c]:=fun t ht c l=>by rw [ht]; rfl
  have i1:Try.prog.cellsOf 4 = 1:=by kernel_rfl
  have i2:Try.prog.cellsOf 3 = 1:=by kernel_rfl
  have i3:Try.prog.cellsOf 30 = 1:=by kernel_rfl
  have g:∀ i,i < 3→∃ y,ys[i]? = some y:=fun i hi=>⟨_,List.getElem?_eq_getElem (by rw [hyl]; exact hi)⟩
  obtain ⟨y0,e0⟩:=g 0 (by omega)
  obtain ⟨y1,e1⟩:=g 1 (by omega)
  obtain ⟨y2,e2⟩:=g 2 (by omega)
  replace k0:DataW.trod enc Try.prog w 0 (fun _=>true) true n 4 [c0]=some y0:=by rw [← e0,← k0,← one _ i1 c0 [c1,c2]]; rfl
  replace k1:DataW.trod enc Try.prog w 0 (fun _=>true) true n 3 [c1]=some y1:=by rw [← e1,← k1,← one _ i2 c1 [c2]]; rfl
  replace k2:DataW.trod enc Try.prog w 0 (fun _=>true) true n 30 [c2]=some y2:=by rw [← e2,← k2,← one _ i3 c2 []]; rfl
  obtain ⟨m0,q0,_⟩:=DataW.trod_bool Try.underlying4 k0
  obtain ⟨m1,q1,_,w1⟩:=DataW.trod_int Try.underlying3 k1
  obtain ⟨m2,q2,_,w2⟩:=DataW.trod_int Try.underlying30 k2
  simp only [List.cons.injEq,and_true] at q0 q1 q2
  subst q0 q1 q2
  exact ⟨⟨m0,m1,m2⟩,rfl,u64_bd w2⟩
theorem pokes_of {n:Nat} {Q:Nat→PokeS→Prop} (h:∀ i,i < n→∃ s,Q i s) : ∃ ss:List PokeS,ss.length=n∧∀ (i:Nat) s,ss[i]? = some s→Q i s:=by
 induction n with
 | zero=>exact ⟨[],rfl,fun i s h=>by cases h⟩
 | succ n ih =>
  obtain ⟨ss,h1,h2⟩:=ih (fun i hi=>h i (by omega))
  obtain ⟨s,hs⟩:=h n (by omega)
  refine ⟨ss++[s],by simp [h1],fun i x hx=>?_⟩
  rcases Nat.lt_or_ge i ss.length with hi | hi
  ·rw [List.getElem?_append_left hi] at hx
   exact h2 i x hx
  ·rw [List.getElem?_append_right hi] at hx
   cases hk:i - ss.length with
   | zero =>
    rw [hk] at hx
    cases hx
    obtain rfl:i=n:=by omega
    exact hs
   | succ m=>rw [hk] at hx; cases hx
theorem pokes_len (ss:List PokeS) : (ss.flatMap PokeS.cells).length=ss.length * 3:=by
 induction ss with
 | nil=>rfl
 | cons s ss ih=>rw [List.flatMap_cons,List.length_append,ih,List.length_cons]; simp [PokeS.cells]; omega
theorem open_pokes {v:Value} {d:DataW H} {ps:List MemPlace} {r:Reach} {b0:Nat} (hv:Value.okWide Try.prog w r b0 48 v) (h:DataW.Trod enc Try.prog w 0 (fun _=>true) true 48 v d ps) :
  ∃ ss:List PokeS,Ev.SlR 3 v ss.length (ss.flatMap PokeS.cells) w∧∀ s ∈ ss,U64 s.v:=by
 have hC:Try.prog.cellsOf 86 = 3:=by kernel_rfl
 obtain ⟨a0,n0,c0,rfl⟩:=okWide_slice Try.underlying48 hv
 obtain ⟨fuel,hf⟩:=h
 rcases open_slice Try.underlying48 hf with ⟨hcs,_⟩ | ⟨a,len,cap,m,n,D,Pl,hcs,_,hl,_,hm,_,hi⟩
 ·simp [Value.cells] at hcs
  obtain ⟨rfl,rfl,rfl⟩:=hcs
  exact ⟨[],⟨rfl,.inl ⟨rfl,_,_,rfl⟩⟩,fun s hs=>by cases hs⟩
 ·simp [Value.cells] at hcs
  obtain ⟨rfl,rfl,rfl⟩:=hcs
  simp only [if_true] at hm
  subst hm
  rw [hC] at hi
  obtain ⟨ss,h1,h2⟩:=pokes_of (n:=n0) (Q:=fun i s=>w.cells? 0 (a.add (i * 3)) 3=some s.cells∧U64 s.v) (fun i hlt=>by
   obtain ⟨cs',hc,ht⟩:=hi i (by omega)
   obtain ⟨s,rfl,h3⟩:=open_poke ht
   exact ⟨s,hc,h3⟩)
  refine ⟨ss,?_,fun s hs=>?_⟩
  ·refine ⟨pokes_len ss,?_⟩
   rw [h1]
   rcases Nat.eq_zero_or_pos n0 with h0 | h0
   ·subst h0
    exact .inl ⟨rfl,_,_,rfl⟩
   ·have hat:∀ i s,ss[i]? = some s→∀ j,j < 3→w.cell? ((a.add (i * 3)).add j)=s.cells[j]?:=fun i s hs j hj=>(World.cells?_some (h2 i s hs).1).2.2 j hj
    have e0:=hat 0 ss[0] (List.getElem?_eq_getElem (by omega)) 0 (by omega)
    have hs:a.spot=none:=by
     have:=World.cell?_spot (e0.trans (show _=some (Value.bool ss[0].on) from rfl))
     simpa [Addr.add] using this
    have hb:=cell_lt (e0.trans (show _=some (Value.bool ss[0].on) from rfl))
    obtain ⟨b,off,spot⟩:=a
    simp only at hs
    subst hs
    rw [add_none,add_none] at hb
    refine .inr ⟨b,off,_,rfl,⟨hb,hl⟩,fun j hj=>?_⟩
    have hq:j / 3 < ss.length:=by omega
    have e1:=hat (j / 3) ss[j / 3] (List.getElem?_eq_getElem hq) (j % 3) (by omega)
    rw [add_none,add_none] at e1
    rw [show off+j=off+j / 3 * 3+j % 3 by omega,e1]
    have e3:=poke_at ss (j:=j / 3) (i:=j % 3) (List.getElem?_eq_getElem hq) (by omega)
    rw [show j / 3 * 3+j % 3=j by omega] at e3
    exact e3.symm
  ·obtain ⟨i,hi,e⟩:=List.getElem_of_mem hs
   exact (h2 i s (by rw [List.getElem?_eq_getElem hi,e])).2
theorem open_config {base b0:Nat} {spare:Nat→Bool} {held:Bool} {r:Reach} {v:Value} {d:DataW H} {p:List MemPlace}
  (hv:Value.okWide Try.prog w r b0 23 v) (h:DataW.Trod enc Try.prog w base spare held 23 v d p) : ∃ c:Cf,v=c.v:=by
 obtain ⟨cs,rfl,hsz,hf⟩:=open_cells Try.underlying23 (by kernel_rfl) (by kernel_rfl) hv h
 obtain ⟨l⟩:=cs
 have hl:l.length=6:=hsz
 match l,hl with
 | [c0,c1,c2,c3,c4,c5],_ =>
  obtain ⟨n0,y0,z0,hy0,hz0⟩:=hf 0 _ rfl
  cases hy0
  obtain ⟨m0,hm0,_,_⟩:=DataW.trod_int Try.underlying3 hz0
  cases hm0
  obtain ⟨n1,y1,z1,hy1,hz1⟩:=hf 1 _ rfl
  cases hy1
  obtain ⟨m1,hm1,_,_⟩:=DataW.trod_int Try.underlying3 hz1
  cases hm1
  obtain ⟨n2,y2,z2,hy2,hz2⟩:=hf 2 _ rfl
  cases hy2
  obtain ⟨m2,hm2,_,_⟩:=DataW.trod_int Try.underlying3 hz2
  cases hm2
  obtain ⟨n3,y3,z3,hy3,hz3⟩:=hf 3 _ rfl
  cases hy3
  obtain ⟨m3,hm3,_,_⟩:=DataW.trod_int Try.underlying3 hz3
  cases hm3
  obtain ⟨n4,y4,z4,hy4,hz4⟩:=hf 4 _ rfl
  cases hy4
  obtain ⟨m4,hm4,_,_⟩:=DataW.trod_int Try.underlying3 hz4
  cases hm4
  obtain ⟨n5,y5,z5,hy5,hz5⟩:=hf 5 _ rfl
  cases hy5
  obtain ⟨m5,hm5,_,_⟩:=DataW.trod_int Try.underlying3 hz5
  cases hm5
  exact ⟨⟨m0,m1,m2,m3,m4,m5⟩,rfl⟩
end
theorem own:ownKnob Try.prog.godebug=none:=by kernel_rfl
theorem laidOut:laidOutB Try.prog=true:=by kernel_rfl
theorem run0 {W:World} {N:Nat} {f:FuncId} {args:Array Value} {tm:List (Nat×Value)} {r:Value} (h:Ev.PieE Try.prog f [] 0 N ⟨W,fun _=>False⟩ tm [] (fun κ:Ev.Ren=>r) (fun κ:Ev.Ren=>[])) (hN:Ev.withB Try.prog (fun B=>Ev.segB B f [] (fun fn _=>Nat.beq fn.ntmps N))=true) (ha:args.size≤N) (ht:∀ p ∈ tm,args[p.1]? = some p.2) : Calls Try.prog f args W fun e w'=>e=.returned r∧Below W.heap.size W w' :=
 Ev.con_start hN (Ev.now_nil W) ha ht (fun A hA=>h A W _ hA (fun κ w1 h1=>⟨rfl,h1.below (fun _ h=>h)⟩))
end Go.Proofs.Ytbcnbofkgkheeaa
namespace Go.Proofs.Ytbcnbofkgkheeaa
open Go.ChangeShapes Go.WideShapes Go.ChangeAt Go.RowKit Go.Deep
set_option linter.unusedVariables false
set_option linter.unusedSimpArgs false
set_option maxRecDepth 100000
theorem readyDemotePlays_walk (s:LP) (c:Cf) (p:Int) : Calls Try.prog 5 #[c.v,.int .i64 p,s.bv,s.lv] s.W fun e w'=>e=.returned (.bool true)∧Below s.W.heap.size s.W w':=by
 by_cases h60:s.ps.length > 60
 ·exact run0 (lwdL1 s c p h60) (by kernel_rfl) (by simp) (by simp)
 by_cases h40:s.bs.length > 40
 ·exact run0 (lwdL2 s c p h60 h40) (by kernel_rfl) (by simp) (by simp)
 replace h60:s.ps.length≤60:=by omega
 replace h40:s.bs.length≤40:=by omega
 cases hc:c.ok with
 | false=>exact run0 (lwdno s c p hc h60 h40) (by kernel_rfl) (by simp) (by simp)
 | true =>
  obtain ⟨d,rfl⟩:=Cf.cfg hc
  by_cases hp:0≤p∧p < (d.n:Int)
  ·obtain ⟨q,rfl⟩:=Int.eq_ofNat_of_zero_le hp.1
   exact run0 (lwdok s d q (by omega) h60 h40) (by kernel_rfl) (by simp) (by simp)
  ·exact run0 (lwdoff s d p hp h60 h40) (by kernel_rfl) (by simp) (by simp)
theorem readyDemotePlays_contract (H:Type) (enc:TypeId×Value→H) (W:World) (base:Nat) (args:Array Value) (ds gs:List (DataW H)) (before:List MemPlace)
  (hval:∀ (j:Nat) t v,Try.f5.params[j]? = some t→args[j]? = some v→Value.okWide Try.prog W .any base t v)
  (hW:DataW.Whole enc Try.prog Try.f5.params.toList Rows.readyDemotePlaysSpec.vars false W args.toList ds gs before) :
  Calls Try.prog 5 args W fun e W'=>∃ v,e=.returned v∧Rows.readyDemotePlaysSpec.post enc Try.prog Try.f5 false true false false W args v W':=by
 have hW':=hW
 obtain ⟨p,q,hA0,hV,rfl,hfz,hnd⟩:=hW
 have hA:DataW.TrodAll enc Try.prog W 0 (fun _=>true) true Try.f5.params.toList args.toList ds p:=hA0
 rw [Try.params5] at hA hval
 obtain ⟨v0,vs0,d0,ds0,p0,q0,hargs0,rfl,rfl,h0,r0⟩:=trodAll_cons hA
 obtain ⟨v1,vs1,d1,ds1,p1,q1,rfl,rfl,rfl,h1,r1⟩:=trodAll_cons r0
 obtain ⟨v2,vs2,d2,ds2,p2,q2,rfl,rfl,rfl,h2,r2⟩:=trodAll_cons r1
 obtain ⟨v3,vs3,d3,ds3,p3,q3,rfl,rfl,rfl,h3,r3⟩:=trodAll_cons r2
 obtain ⟨rfl,rfl,rfl⟩:=trodAll_nil r3
 obtain rfl:args = #[v0,v1,v2,v3]:=by cases args; simp_all
 obtain ⟨c,rfl⟩:=open_config (hval 0 _ v0 rfl rfl) h0
 obtain ⟨p,rfl,rfl,rfl,wp⟩:=open_int Try.underlying3 (hval 1 _ v1 rfl rfl) h1
 obtain ⟨bs,hs,hz⟩:=open_bytes (hval 2 _ v2 rfl rfl) h2
 obtain ⟨ss,hl,hv⟩:=open_pokes (hval 3 _ v3 rfl rfl) h3
 refine (readyDemotePlays_walk ⟨W,v3,ss,hl,hv,v2,bs,hs,hz⟩ c p).mono fun x W' ⟨he,hb⟩=>?_
 subst he
 exact ⟨_,rfl,law_post laidOut hW' rfl (by kernel_rfl) Try.underlying4 rfl (by
  rw [Try.params5]
  intro t ht
  simp only [List.mem_cons,List.not_mem_nil,or_false] at ht
  rcases ht with rfl | rfl | rfl | rfl <;> exact ⟨by kernel_rfl,of_decide_eq_true (by kernel_rfl)⟩) hb⟩
set_option maxRecDepth 100000 in
theorem readyDemotePlays_lifted (os:Os) (started:os.Started) (H:Type) (enc:TypeId×Value→H) :
  ReturnsInHanded {} Try.checked os 5 .any (Rows.readyDemotePlaysSpec.pre6 enc Try.prog Try.f5 Rows.readyDemotePlaysRow.domain false) (Rows.readyDemotePlaysSpec.post enc Try.prog Try.f5 false true false false):=by
 refine returnsInHanded_of_change (C:=Try.checked) own started (by kernel_rfl) Try.func5
  (ChangeSpec.witness6 (enc:=enc) (C:=Try.checked) false ⟨#[],#[.agg #[.int .i64 0,.int .i64 0,.int .i64 0,.int .i64 0,.int .i64 0,.int .i64 0],.int .i64 0,.slice none 0 0,.slice none 0 0],[]⟩ 8 (by kernel_rfl) (by kernel_rfl) (by kernel_rfl) (by kernel_rfl)) ?_
 intro W base args ds gs before hval hW _ _
 exact readyDemotePlays_contract H enc W base args ds gs before hval hW
theorem readyDemotePlays_holds:Rows.ReadyDemotePlaysSaid :=
 OpenClaim.holds_of_wide 5 Try.f5 rfl rfl rfl rfl rfl rfl rfl ⟨rfl,rfl,rfl,rfl,rfl⟩ rfl rfl rfl rfl rfl (by kernel_rfl) Try.func5 (by kernel_rfl)
  (of_decide_eq_true (by kernel_rfl)) (by unfold Func.isWrapper; first | (rw [if_pos (by decide +kernel)]; kernel_rfl) | (rw [if_neg (by decide +kernel)]; exact ⟨rfl,rfl⟩))
  (fun os started H enc _=>readyDemotePlays_lifted os started H enc)
end Go.Proofs.Ytbcnbofkgkheeaa
