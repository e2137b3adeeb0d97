/- 'ActOthers' returns true, whatever its arguments are (at most 100 moves are looked at), and leaves them as they were. -/
import Derived.Test.YtankbefdlbcdnaaZo22
import Derived.Test.YtankbefdlbcdnaaZo23
import Derived.Deep.Slices
import Derived.ChangeSame
namespace Go.Proofs.Ytankbefdlbcdnaa
open Go.ChangeShapes Go.WideShapes Go.ChangeAt Go.RowKit Go.Deep
open Go.Ev (iz iN)
set_option linter.unusedVariables false
set_option linter.unusedSimpArgs false
set_option maxRecDepth 100000
theorem move_get (ps:List MoveS) {j i:Nat} {k:MoveS} (h:ps[j]? = some k) (hi:i < 3) : (ps.flatMap MoveS.cells)[j * 3+i]? = k.cells[i]?:=by
 obtain ⟨tl,e⟩:=mv_drop h
 rw [← List.getElem?_drop,e,List.getElem?_append_left (by simp [MoveS.cells]; omega)]
section
variable {w:World}
theorem cell_lt {a:Addr} {v:Value} (h:w.cell? a=some v) : a.block < w.heap.size:=by
 unfold World.cell? at h
 cases hb:w.heap[a.block]? with
 | none=>rw [hb] at h; cases h
 | some o=>exact (Array.getElem?_eq_some_iff.1 hb).1
theorem add_none {b off n:Nat} : (⟨b,off,none⟩ : Addr).add n=⟨b,off+n,none⟩:=Ev.addMk b off n
theorem u8_bd {n:Int} (h:(Lit.int .u8 n).wf=true) : 0≤n∧n < 256:=by
 simp [Lit.wf,IntKind.min,IntKind.max,IntKind.signed,IntKind.bits] at h
 omega
end
section
variable {H:Type} {enc:TypeId×Value→H} {w:World}
theorem open_move {fuel:Nat} {cs:List Value} {x:DataW H×List MemPlace} (h:DataW.trod enc Try.prog w 0 (fun _=>true) true fuel 35 cs=some x) : ∃ s:MoveS,cs=s.cells:=by
 obtain ⟨ys,n,_,_,hlen,hyl,hf⟩:=DataW.trod_struct Try.underlying35 h
 have hC:Try.prog.cellsOf 35 = 3:=by kernel_rfl
 rw [hC] at hlen
 match cs,hlen with
 | [c0,c1,c2],_ =>
  have k0:=hf 0 _ rfl
  have k1:=hf 1 _ rfl
  have k2:=hf 2 _ rfl
  have one:∀ t:TypeId,Try.prog.cellsOf t=1→∀ (c:Value) (l:List Value),(c::l).take (Try.prog.cellsOf t)=[c]:=fun t ht c l=>by rw [ht]; rfl
  have i1:Try.prog.cellsOf 3 = 1:=by kernel_rfl
  have i2:Try.prog.cellsOf 5 = 1:=by kernel_rfl
  have i3:Try.prog.cellsOf 4 = 1:=by kernel_rfl
  have g:∀ i,i < 3→∃ y,ys[i]? = some y:=fun i hi=>⟨_,List.getElem?_eq_getElem (by rw [hyl]; exact hi)⟩
  obtain ⟨y0,e0⟩:=g 0 (by omega)
  obtain ⟨y1,e1⟩:=g 1 (by omega)
  obtain ⟨y2,e2⟩:=g 2 (by omega)
  replace k0:DataW.trod enc Try.prog w 0 (fun _=>true) true n 3 [c0]=some y0:=by rw [← e0,← k0,← one _ i1 c0 [c1,c2]]; rfl
  replace k1:DataW.trod enc Try.prog w 0 (fun _=>true) true n 5 [c1]=some y1:=by rw [← e1,← k1,← one _ i2 c1 [c2]]; rfl
  replace k2:DataW.trod enc Try.prog w 0 (fun _=>true) true n 4 [c2]=some y2:=by rw [← e2,← k2,← one _ i3 c2 []]; rfl
  obtain ⟨m0,q0,_⟩:=DataW.trod_int Try.underlying3 k0
  obtain ⟨m1,q1,_,w1⟩:=DataW.trod_int Try.underlying5 k1
  obtain ⟨m2,q2,_⟩:=DataW.trod_bool Try.underlying4 k2
  simp only [List.cons.injEq,and_true] at q0 q1 q2
  subst q0 q1 q2
  have hb:=u8_bd w1
  exact ⟨⟨m0,m1.toNat,m2,by omega⟩,by show [iz m0,.int .u8 m1,.bool m2]=[iz m0,.int .u8 ((m1.toNat:Nat) : Int),.bool m2]; rw [show ((m1.toNat:Nat) : Int)=m1 by omega]⟩
theorem moves_of {n:Nat} {Q:Nat→MoveS→Prop} (h:∀ i,i < n→∃ s,Q i s) : ∃ ss:List MoveS,ss.length=n∧∀ (i:Nat) s,ss[i]? = some s→Q i s:=by
 induction n with
 | zero=>exact ⟨[],rfl,fun i s h=>by cases h⟩
 | succ n ih =>
  obtain ⟨ss,h1,h2⟩:=ih (fun i hi=>h i (by omega))
  obtain ⟨s,hs⟩:=h n (by omega)
  refine ⟨ss++[s],by simp [h1],fun i x hx=>?_⟩
  rcases Nat.lt_or_ge i ss.length with hi | hi
  ·rw [List.getElem?_append_left hi] at hx
   exact h2 i x hx
  ·rw [List.getElem?_append_right hi] at hx
   cases hk:i - ss.length with
   | zero =>
    rw [hk] at hx
    cases hx
    obtain rfl:i=n:=by omega
    exact hs
   | succ m=>rw [hk] at hx; cases hx
theorem moves_len (ss:List MoveS) : (ss.flatMap MoveS.cells).length=ss.length * 3:=by
 induction ss with
 | nil=>rfl
 | cons s ss ih=>rw [List.flatMap_cons,List.length_append,ih,List.length_cons]; simp [MoveS.cells]; omega
theorem open_moves {v:Value} {d:DataW H} {ps:List MemPlace} {r:Reach} {b0:Nat} (hv:Value.okWide Try.prog w r b0 22 v) (h:DataW.Trod enc Try.prog w 0 (fun _=>true) true 22 v d ps) :
  ∃ ss:List MoveS,Ev.SlR 3 v ss.length (ss.flatMap MoveS.cells) w:=by
 have hC:Try.prog.cellsOf 35 = 3:=by kernel_rfl
 obtain ⟨a0,n0,c0,rfl⟩:=okWide_slice Try.underlying22 hv
 obtain ⟨fuel,hf⟩:=h
 rcases open_slice Try.underlying22 hf with ⟨hcs,_⟩ | ⟨a,len,cap,m,n,D,Pl,hcs,_,hl,_,hm,_,hi⟩
 ·simp [Value.cells] at hcs
  obtain ⟨rfl,rfl,rfl⟩:=hcs
  exact ⟨[],⟨rfl,.inl ⟨rfl,_,_,rfl⟩⟩⟩
 ·simp [Value.cells] at hcs
  obtain ⟨rfl,rfl,rfl⟩:=hcs
  simp only [if_true] at hm
  subst hm
  rw [hC] at hi
  obtain ⟨ss,h1,h2⟩:=moves_of (n:=n0) (Q:=fun i s=>w.cells? 0 (a.add (i * 3)) 3=some s.cells) (fun i hlt=>by
   obtain ⟨cs',hc,ht⟩:=hi i (by omega)
   obtain ⟨s,rfl⟩:=open_move ht
   exact ⟨s,hc⟩)
  refine ⟨ss,?_⟩
  ·refine ⟨moves_len ss,?_⟩
   rw [h1]
   rcases Nat.eq_zero_or_pos n0 with h0 | h0
   ·subst h0
    exact .inl ⟨rfl,_,_,rfl⟩
   ·have hat:∀ i s,ss[i]? = some s→∀ j,j < 3→w.cell? ((a.add (i * 3)).add j)=s.cells[j]?:=fun i s hs j hj=>(World.cells?_some (h2 i s hs)).2.2 j hj
    have e0:=hat 0 ss[0] (List.getElem?_eq_getElem (by omega)) 0 (by omega)
    have hs:a.spot=none:=by
     have:=World.cell?_spot (e0.trans (show _=some (iz ss[0].g) from rfl))
     simpa [Addr.add] using this
    have hb:=cell_lt (e0.trans (show _=some (iz ss[0].g) from rfl))
    obtain ⟨b,off,spot⟩:=a
    simp only at hs
    subst hs
    rw [add_none,add_none] at hb
    refine .inr ⟨b,off,_,rfl,⟨hb,hl⟩,fun j hj=>?_⟩
    have hq:j / 3 < ss.length:=by omega
    have e1:=hat (j / 3) ss[j / 3] (List.getElem?_eq_getElem hq) (j % 3) (by omega)
    rw [add_none,add_none] at e1
    rw [show off+j=off+j / 3 * 3+j % 3 by omega,e1]
    have e3:=move_get ss (j:=j / 3) (i:=j % 3) (List.getElem?_eq_getElem hq) (by omega)
    rw [show j / 3 * 3+j % 3=j by omega] at e3
    exact e3.symm
end
end Go.Proofs.Ytankbefdlbcdnaa
namespace Go.Proofs.Ytankbefdlbcdnaa
open Go.ChangeShapes Go.WideShapes Go.ChangeAt Go.RowKit Go.Deep
set_option linter.unusedVariables false
set_option linter.unusedSimpArgs false
set_option maxRecDepth 100000
theorem own:ownKnob Try.prog.godebug=none:=by kernel_rfl
theorem laidOut:laidOutB Try.prog=true:=by kernel_rfl
theorem u8_nat {n:Int} (h:(Lit.int .u8 n).wf=true) : ∃ m:Nat,n=(m:Int)∧m < 256:=⟨n.toNat,by have:=u8_bd h; omega,by have:=u8_bd h; omega⟩
theorem actOthers_contract (H:Type) (enc:TypeId×Value→H) (W:World) (base:Nat) (args:Array Value) (ds gs:List (DataW H)) (before:List MemPlace)
  (hval:∀ (j:Nat) t v,Try.f3.params[j]? = some t→args[j]? = some v→Value.okWide Try.prog W .any base t v)
  (hW:DataW.Whole enc Try.prog Try.f3.params.toList Rows.actOthersSpec.vars false W args.toList ds gs before) :
  Calls Try.prog 3 args W fun e W'=>∃ v,e=.returned v∧Rows.actOthersSpec.post enc Try.prog Try.f3 false true false false W args v W':=by
 have hW':=hW
 obtain ⟨p,q,hA0,hV,rfl,hfz,hnd⟩:=hW
 have hA:DataW.TrodAll enc Try.prog W 0 (fun _=>true) true Try.f3.params.toList args.toList ds p:=hA0
 rw [Try.params3] at hA hval
 obtain ⟨v0,vs0,d0,ds0,p0,q0,hargs0,rfl,rfl,h0,r0⟩:=trodAll_cons hA
 obtain ⟨v1,vs1,d1,ds1,p1,q1,rfl,rfl,rfl,h1,r1⟩:=trodAll_cons r0
 obtain ⟨v2,vs2,d2,ds2,p2,q2,rfl,rfl,rfl,h2,r2⟩:=trodAll_cons r1
 obtain ⟨rfl,rfl,rfl⟩:=trodAll_nil r2
 obtain rfl:args = #[v0,v1,v2]:=by cases args; simp_all
 obtain ⟨z0,rfl,rfl,rfl,wz⟩:=open_int Try.underlying5 (hval 0 _ v0 rfl rfl) h0
 obtain ⟨c0,rfl,rfl,rfl,wc⟩:=open_int Try.underlying5 (hval 1 _ v1 rfl rfl) h1
 obtain ⟨ls,hl⟩:=open_moves (hval 2 _ v2 rfl rfl) h2
 obtain ⟨z,rfl,hz⟩:=u8_nat wz
 obtain ⟨c,rfl,hc⟩:=u8_nat wc
 refine (actOthers_walk W v2 ls hl z c hz hc).mono fun x W' ⟨he,hb⟩=>?_
 subst he
 exact ⟨_,rfl,law_post laidOut hW' rfl (by kernel_rfl) Try.underlying4 rfl (by
  rw [Try.params3]
  intro t ht
  simp only [List.mem_cons,List.not_mem_nil,or_false] at ht
  rcases ht with rfl | rfl | rfl <;> exact ⟨by kernel_rfl,of_decide_eq_true (by kernel_rfl)⟩) hb⟩
set_option maxRecDepth 100000 in
theorem actOthers_lifted (os:Os) (started:os.Started) (H:Type) (enc:TypeId×Value→H) :
  ReturnsInHanded {} Try.checked os 3 .any (Rows.actOthersSpec.pre6 enc Try.prog Try.f3 Rows.actOthersRow.domain false) (Rows.actOthersSpec.post enc Try.prog Try.f3 false true false false):=by
 refine returnsInHanded_of_change (C:=Try.checked) own started (by kernel_rfl) Try.func3
  (ChangeSpec.witness6 (enc:=enc) (C:=Try.checked) false ⟨#[],#[.int .u8 0,.int .u8 0,.slice none 0 0],[]⟩ 8 (by kernel_rfl) (by kernel_rfl) (by kernel_rfl) (by kernel_rfl)) ?_
 intro W base args ds gs before hval hW _ _
 exact actOthers_contract H enc W base args ds gs before hval hW
theorem actOthers_holds:Rows.ActOthersSaid :=
 OpenClaim.holds_of_wide 3 Try.f3 rfl rfl rfl rfl rfl rfl rfl ⟨rfl,rfl,rfl,rfl,rfl⟩ rfl rfl rfl rfl rfl (by kernel_rfl) Try.func3 (by kernel_rfl)
  (of_decide_eq_true (by kernel_rfl)) (by unfold Func.isWrapper; first | (rw [if_pos (by decide +kernel)]; kernel_rfl) | (rw [if_neg (by decide +kernel)]; exact ⟨rfl,rfl⟩))
  (fun os started H enc _=>actOthers_lifted os started H enc)
end Go.Proofs.Ytankbefdlbcdnaa
