/- Part of a proof: see the last text. -/
import Derived.Test.YtkmccgombmogmaaGreatZk2
import Derived.Deep.RegionHeld
import Derived.Deep.MidRow
import Derived.Test.YtkmccgombmogmaaGreatZk12
import Derived.Test.YtkmccgombmogmaaGreatRows
import Derived.WalkKit
import Derived.ProofKit
import Derived.Test.YtkmccgombmogmaaGreatZk1
import Derived.Test.YtkmccgombmogmaaGreatZk3
namespace Go.Proofs.YtkmccgombmogmaaGreat
open Go.RowKit
set_option linter.unusedVariables false
set_option linter.unusedSimpArgs false
set_option maxRecDepth 8000
theorem reg2 {ctx:Ev.Ctx} {r:List Ev.Asr} {id:Nat} {ops:Array Oper} {o0 o1 o2 o3:Oper} {Q:Exit→Act→World→Prop} {a:Act} {w:World} {t1 t2 T1 T2 U1 U2:TypeId} {D1 D2:TypeDesc} {b1 b2 c1 c2:Nat} {L1 L2 M1 M2:List Value} {x0 x1 x2 x3 y2 y3:Operand}
  (hh:Ev.Hold ctx (Ev.blkA b1 L1 T1::Ev.blkA b2 L2 T2::Ev.blkA c1 M1 U1::Ev.blkA c2 M2 U2::r) w)
  (h:∀ w',Ev.Hold ctx (Ev.blkA b1 L1 T1::Ev.blkA b2 L2 T2::Ev.blkA c1 L1 U1::Ev.blkA c2 L2 U2::r) w'→Q .normal ((((a.put o0.dst (.agg L1.toArray)).put o1.dst (.agg L2.toArray)).put o2.dst undef).put o3.dst undef) w')
  (hu1:Tryz.prog.underlying t1=some D1) (hu2:Tryz.prog.underlying t2=some D2)
  (ho:ops = #[o0,o1,o2,o3]) (k0:o0.op=.load t1 x0) (k1:o1.op=.load t2 x1) (k2:o2.op=.store t1 x2 y2) (k3:o3.op=.store t2 x3 y3)
  (z0:a.eval x0=.pointer (some ⟨b1,0,none⟩)) (z1:(a.put o0.dst (.agg L1.toArray)).eval x1=.pointer (some ⟨b2,0,none⟩))
  (z2:((a.put o0.dst (.agg L1.toArray)).put o1.dst (.agg L2.toArray)).eval x2=.pointer (some ⟨c1,0,none⟩)) (z2':((a.put o0.dst (.agg L1.toArray)).put o1.dst (.agg L2.toArray)).eval y2=.agg L1.toArray)
  (z3:(((a.put o0.dst (.agg L1.toArray)).put o1.dst (.agg L2.toArray)).put o2.dst undef).eval x3=.pointer (some ⟨c2,0,none⟩)) (z3':(((a.put o0.dst (.agg L1.toArray)).put o1.dst (.agg L2.toArray)).put o2.dst undef).eval y3=.agg L2.toArray)
  (g0:o0.guard=none:=by rfl) (g1:o1.guard=none:=by rfl) (g2:o2.guard=none:=by rfl) (g3:o3.guard=none:=by rfl)
  (hc1:∀ x ∈ L1,x.oneCell'=true:=by simp [Value.oneCell']) (hc2:∀ x ∈ L2,x.oneCell'=true:=by simp [Value.oneCell'])
  (hd1:D1.isRow=true:=by rfl) (hd2:D2.isRow=true:=by rfl)
  (hi1:(Tryz.prog.info? t1).map (·.size)=some L1.length:=by kernel_rfl) (hi2:(Tryz.prog.info? t2).map (·.size)=some L2.length:=by kernel_rfl) (hl1:L1.length=M1.length:=by rfl) (hl2:L2.length=M2.length:=by rfl)
  (hQ0:∀ c a w,Q (.panic c) (a.put o0.dst (.agg L1.toArray)) w→Q (.panic c) a w:=by exact fun _ _ _ h=>h) (hQ1:∀ c a w,Q (.panic c) (a.put o1.dst (.agg L2.toArray)) w→Q (.panic c) a w:=by exact fun _ _ _ h=>h)
  (n0:Region.noSelect ops=true:=by kernel_rfl) (f0:Region.free .any ops #[false,false,false,false] 0=true:=by kernel_rfl) (r0:(Region.ready .any ops #[false,false,false,false]).contains 0=true:=by kernel_rfl)
  (f1:Region.free .any ops #[true,false,false,false] 1=true:=by kernel_rfl) (r1:(Region.ready .any ops #[true,false,false,false]).contains 1=true:=by kernel_rfl)
  (r2:Region.ready .any ops #[true,true,false,false]=[2]:=by kernel_rfl) (r3:Region.ready .any ops #[true,true,true,false]=[3]:=by kernel_rfl) (r4:Region.ready .any ops #[true,true,true,true]=[]:=by kernel_rfl) : (Code.region id ops true).wp Tryz.prog Q a w:=by
 have want:∀ (o:Oper) (a:Act),o.guard=none→Region.wanted o (yielded ops a.tmps)=true:=fun o a hg=>by simp [Region.wanted,hg]
 have hS:∀ {M1 M2:List Value} {W:World},Ev.Hold ctx (Ev.blkA b1 L1 T1::Ev.blkA b2 L2 T2::Ev.blkA c1 M1 U1::Ev.blkA c2 M2 U2::r) W→W.rangeAt b1 0 L1∧W.rangeAt b2 0 L2:=fun hh=>⟨rng_all hh,rng_all (hold_drop (r:=[_]) hh)⟩
 have hd:=hold_keep hh (Below.refl _ w).drew
 have p0:ops[0]? = some o0:=by rw [ho]; rfl
 have p1:ops[1]? = some o1:=by rw [ho]; rfl
 have p2:ops[2]? = some o2:=by rw [ho]; rfl
 have p3:ops[3]? = some o3:=by rw [ho]; rfl
 have hsz:ops.size=4:=by rw [ho]; rfl
 refine wp_region_held_drew (S:=fun w'=>w'.rangeAt b1 0 L1∧w'.rangeAt b2 0 L2) (by kernel_rfl) (hS hd) (fun hHeld=>?_)
 rw [hsz]
 refine wpAnyH_take (i:=0) (v:=.agg L1.toArray) p0 n0 f0 r0 hQ0 (yieldsIf_load_mid (want _ _ g0) t1 x0 k0 b1 0 z0 L1 _ (fun w hw=>hw.1) hu1 hd1 hi1) hHeld ?_
 refine wpAnyH_take (i:=1) (v:=.agg L2.toArray) p1 n0 f1 r1 hQ1 (yieldsIf_load_mid (want _ _ g1) t2 x1 k1 b2 0 z1 L2 _ (fun w hw=>hw.2) hu2 hd2 hi2) hHeld ?_
 obtain ⟨wB,sB,hB⟩:=st_all (t:=t1) (cs':=L1) (hold_up [_,_] hd) hl1 hc1 hi1
 replace hB:=hold_dn [_,_] hB
 obtain ⟨wC,sC,hC⟩:=st_all (t:=t2) (cs':=L2) (hold_up [_,_,_] hB) hl2 hc2 hi2
 replace hC:=hold_dn [_,_,_] hC
 refine wpAnyH_ready (rs:=[2]) r2 (by simp) (AllReadyH.cons p2 (fun K hK=>?_) AllReadyH.nil)
 rw [if_pos (want _ _ g2)]
 refine wp_store_run _ _ _ k2 sB z2 z2' ?_
 refine hK.out _ _ (hS hB) (fun hHeld=>?_)
 refine wpAnyH_ready (rs:=[3]) r3 (by simp) (AllReadyH.cons p3 (fun K hK=>?_) AllReadyH.nil)
 rw [if_pos (want _ _ g3)]
 refine wp_store_run _ _ _ k3 sC z3 z3' ?_
 refine hK.out _ _ (hS hC) (fun hHeld=>?_)
 exact wpAnyH_done r4 (h _ hC) _
theorem post_cell2 {P:Program} {fn:Func} {R:Ending→World→Prop} {a:Act} {w:World} {v v1:Value} {tm tm1:Tmp} {t t1:TypeId} {ad ad1:Addr} (hres:fn.results = #[.cell tm t,.cell tm1 t1]) (ha:a.tmps.getD tm undef=.pointer (some ad)) (ha1:a.tmps.getD tm1 undef=.pointer (some ad1)) (hd:a.defers=[]) (hl:(loadVar t ad).run P w=.ok v w) (hl1:(loadVar t1 ad1).run P w=.ok v1 w) (hR:R (.returned (.tuple #[v,v1])) w) : bodyPost P fn R .ret a w:=by
 refine bodyPost_ret ?_ hd hR
 have ha':a.tmps[tm]?.getD undef=.pointer (some ad):=by simpa using ha
 have ha1':a.tmps[tm1]?.getD undef=.pointer (some ad1):=by simpa using ha1
 simp [results,hres,ha',ha1',Go.asAddr,hl,hl1]
end Go.Proofs.YtkmccgombmogmaaGreat
namespace Go.Proofs.YtkmccgombmogmaaGreat
open Go.RowKit
set_option linter.unusedVariables false
set_option linter.unusedSimpArgs false
set_option maxRecDepth 8000
theorem infAct:∃ i z,Tryz.prog.info? 45 = some i∧i.size=4∧i.zero=some z∧z.cells.size=i.size∧i.bytes=32:=info_of (z:=.agg #[.int .i64 0,.int .i64 0,.int .i64 0,.int .i64 0]) (by kernel_rfl) (by kernel_rfl)
section
variable {ctx:Ev.Ctx} {w:World} {r:List Ev.Asr} {a:Option Addr} {n k b:Nat} {xs cs:List Value}
theorem appAct (hl:cs.length=4) (h1:∀ x ∈ cs,x.oneCell'=true) (hn:n < 240) (ho:Ev.Off0 (.slice a n k)) (hc:∀ j u,cs[j]? = some u→w.cell? ⟨b,j,none⟩=some u) (h:Ev.Hold ctx (Ev.slA 45 4 (.slice a n k) n xs::r) w) :
  ∃ a' k' w',(Builtin.append_ #[43,43] 43 #[.slice a n k,.slice (some ⟨b,0,none⟩) 1 1]).run Tryz.prog w=.ok (.slice a' (n+1) k') w'∧Ev.Off0 (.slice a' (n+1) k')∧Ev.Hold ctx (Ev.slA 45 4 (.slice a' (n+1) k') (n+1) (xs++cs)::r) w':=by
 obtain ⟨i,z,hi,hz4,hz,hzz,hby⟩:=infAct
 have hsrc:Src Tryz.prog i.size 43 (.slice (some ⟨b,0,none⟩) 1 1) 1 cs w:=by
  refine Src.ofSlice w Tryz.underlying43 ⟨b,0,none⟩ 1 1 _ (by rw [hz4,hl]) (fun j y hj=>?_) h1
  rw [Ev.addMk,Nat.zero_add]
  exact hc j y hj
 have h':Ev.Hold ctx (Ev.slA 45 i.size (.slice a n k) n xs::r) w:=by rw [hz4]; exact h
 obtain ⟨v',w',q1,q2,q3⟩:=h'.app0 (t := 43) (u := 43) (ty := 43) Tryz.underlying43 hi hz hzz hsrc (by rw [hby]; omega) (by omega) ho
 rw [hz4] at q2
 obtain ⟨a',k',rfl⟩ : ∃ a' k',v'=.slice a' (n+1) k':=by
  rcases (hold_slr q2).2 with ⟨e,_⟩ | ⟨b2,off,c2,e,_⟩
  ·omega
  ·exact ⟨_,_,e⟩
 exact ⟨a',k',w',q1,q3,q2⟩
def NumL (n:Nat) (L:List Value) : Prop:=∀ j,j < n→∃ u:Nat,u < 100003∧L[j]? = some (.int .i64 (u:Int))
theorem numL_app {L:List Value} {n p kd v g:Nat} (h:NumL (n * 4) L) (hl:L.length=n * 4) (h0:p < 100003) (h1:kd < 100003) (h2:v < 100003) (h3:g < 100003) : NumL ((n+1) * 4) (L++[.int .i64 (p:Int),.int .i64 (kd:Int),.int .i64 (v:Int),.int .i64 (g:Int)]):=by
 intro j hj
 by_cases hlt:j < n * 4
 ·rw [List.getElem?_append_left (by omega)]
  exact h j hlt
 ·rw [List.getElem?_append_right (by omega)]
  obtain ⟨q,hq⟩ : ∃ q,j - L.length=q:=⟨_,rfl⟩
  rw [hq]
  have:q=0∨q=1∨q=2∨q=3:=by omega
  rcases this with rfl | rfl | rfl | rfl
  ·exact ⟨p,h0,rfl⟩
  ·exact ⟨kd,h1,rfl⟩
  ·exact ⟨v,h2,rfl⟩
  ·exact ⟨g,h3,rfl⟩
theorem NumL.take {n m:Nat} {L:List Value} (h:NumL n L) (hm:m≤n) : NumL m (L.take m):=fun j hj=>by
 rw [List.getElem?_take_of_lt hj]
 exact h j (by omega)
theorem NumL.top {n:Nat} {L:List Value} (h:NumL n L) : ∀ j,j < n→∃ i:Int,i≤9223372036854775807∧L[j]? = some (.int .i64 i):=fun j hj=>by
 obtain ⟨u,hu,e⟩:=h j hj
 exact ⟨u,by omega,e⟩
theorem NumL.any {n:Nat} {L:List Value} (h:NumL n L) : ∀ j,j < n→∃ i:Int,L[j]? = some (.int .i64 i):=fun j hj=>by
 obtain ⟨u,hu,e⟩:=h j hj
 exact ⟨u,e⟩
end
def kindN (j:Nat) : Nat:=if j < 3 then 1 else if j=3 then 2 else 3
theorem kindN_lt (j:Nat) : kindN j < 100003:=by unfold kindN; split <;> (try split) <;> omega
abbrev kindsL:List Value:=[.int .i64 1,.int .i64 1,.int .i64 1,.int .i64 2,.int .i64 3]
theorem kindN_at {j:Nat} (h:j < 5) : kindsL[j]? = some (.int .i64 (kindN j:Int)):=by
 have:j=0∨j=1∨j=2∨j=3∨j=4:=by omega
 rcases this with rfl | rfl | rfl | rfl | rfl <;> rfl
end Go.Proofs.YtkmccgombmogmaaGreat
namespace Go.Proofs.YtkmccgombmogmaaGreat
open Go.RowKit
set_option linter.unusedVariables false
def pick (n m:Int) : Int:=((n.tmod m)+m).tmod m
theorem tmod_gt (n m:Int) (h:0 < m) : -m < n.tmod m:=by
 rcases Int.le_total 0 n with h0 | h0
 ·have:=Int.tmod_nonneg m h0
  omega
 ·have e:n.tmod m = -((-n).tmod m):=by rw [Int.neg_tmod,Int.neg_neg]
  have:=Int.tmod_lt_of_pos (-n) h
  omega
theorem pick_bd (n m:Int) (h:0 < m) : 0≤pick n m∧pick n m < m:=by
 unfold pick
 have h1:=Int.tmod_lt_of_pos (n.tmod m+m) h
 have h2:-m < n.tmod m:=tmod_gt n m h
 exact ⟨Int.tmod_nonneg _ (by omega),h1⟩
set_option maxHeartbeats 400000 in
theorem pick_any (n m:Int) (h:0 < m) (hm:m≤1000000) (w:World) :
  Calls Tryz.prog 14 #[.int .i64 n,.int .i64 m] w fun e w'=>e=.returned (.int .i64 (pick n m))∧Below w.heap.size w w':=by
 have hne:m ≠ 0:=by omega
 have h1:-m < n.tmod m:=tmod_gt n m h
 have h2:n.tmod m < m:=Int.tmod_lt_of_pos n h
 have hw:IntKind.i64.wrap (n.tmod m+m)=n.tmod m+m:=IntWalk.i64_in _ (by omega)
 go_enter Tryz.func14,Tryz.ntmps14
 go_wp2
 go_ret
 refine ⟨?_,Below.refl _ _⟩
 simp_all [pick]
 rw [Int.tmod_eq_emod_of_nonneg (a:=n.tmod m+m) (by omega),Int.add_emod_right]
end Go.Proofs.YtkmccgombmogmaaGreat
namespace Go.Proofs.YtkmccgombmogmaaGreat
open Go.RowKit
open Go.Ev (iz uz iN)
set_option linter.unusedVariables false
set_option linter.unusedSimpArgs false
set_option maxRecDepth 8000
theorem pickN (i:Int) (n:Nat) (h:0 < n) (hn:n≤1000000) (w:World) : Calls Tryz.prog 14 #[.int .i64 i,.int .i64 (n:Int)] w fun e w'=>e=.returned (.int .i64 (((pick i (n:Int)).toNat:Nat) : Int))∧Below w.heap.size w w':=by
 have hb:=pick_bd i n (by omega)
 have e:(((pick i (n:Int)).toNat:Nat) : Int)=pick i n:=by omega
 rw [e]
 exact pick_any i n (by omega) (by omega) w
theorem pickN_lt (i:Int) (n:Nat) (h:0 < n) : (pick i (n:Int)).toNat < n:=by
 have:=pick_bd i n (by omega)
 omega
def made (c:Cf) : Cfg where
 n:=1+(pick c.n 4).toNat
 q:=2 * 2 ^ (pick c.q 3).toNat
 g:=((1+(pick c.g 20).toNat:Nat) : Int)
 m:=((1+(pick c.n 4).toNat+1+(pick c.m 3).toNat:Nat) : Int)
 t:=((2+(pick c.t 6).toNat:Nat) : Int)
 s:=(((pick c.s 3).toNat:Nat) : Int)
 h:=by
  have h1:=pickN_lt c.n 4 (by omega)
  have h2:=pickN_lt c.q 3 (by omega)
  have h3:=pickN_lt c.g 20 (by omega)
  have h4:=pickN_lt c.m 3 (by omega)
  have h5:=pickN_lt c.t 6 (by omega)
  have h6:=pickN_lt c.s 3 (by omega)
  replace h1:(pick c.n 4).toNat < 4:=h1
  replace h2:(pick c.q 3).toNat < 3:=h2
  replace h3:(pick c.g 20).toNat < 20:=h3
  replace h4:(pick c.m 3).toNat < 3:=h4
  replace h5:(pick c.t 6).toNat < 6:=h5
  replace h6:(pick c.s 3).toNat < 3:=h6
  have hq:(2 * 2 ^ (pick c.q 3).toNat:Nat)=2∨(2 * 2 ^ (pick c.q 3).toNat:Nat)=4∨(2 * 2 ^ (pick c.q 3).toNat:Nat)=8:=by
   generalize (pick c.q 3).toNat=k at *
   match k,h2 with
   | 0,_=>exact .inl rfl
   | 1,_=>exact .inr (.inl rfl)
   | 2,_=>exact .inr (.inr rfl)
  simp only [rightB,wi,Bool.and_eq_true,Bool.or_eq_true,decide_eq_true_eq,beq_iff_eq]
  omega
theorem made_q8 (c:Cf) : (made c).q=2∨(made c).q=4∨(made c).q=8:=by
 have h2:=pickN_lt c.q 3 (by omega)
 replace h2:(pick c.q 3).toNat < 3:=h2
 show (2 * 2 ^ (pick c.q 3).toNat:Nat)=2∨(2 * 2 ^ (pick c.q 3).toNat:Nat)=4∨(2 * 2 ^ (pick c.q 3).toNat:Nat)=8
 generalize (pick c.q 3).toNat=k at *
 match k,h2 with
 | 0,_=>exact .inl rfl
 | 1,_=>exact .inr (.inl rfl)
 | 2,_=>exact .inr (.inr rfl)
theorem pickL (i m:Int) (h:0 < m) (hm:m≤1000000) : ∃ k:Nat,(pick i m).toNat=k∧(k:Int) < m∧∀ w,Calls Tryz.prog 14 #[.int .i64 i,.int .i64 m] w fun e w'=>e=.returned (.int .i64 (k:Int))∧Below w.heap.size w w':=by
 have hb:=pick_bd i m h
 refine ⟨_,rfl,by omega,fun w=>?_⟩
 have e:(((pick i m).toNat:Nat) : Int)=pick i m:=by omega
 rw [e]
 exact pick_any i m h hm w
set_option maxHeartbeats 8000000 in
theorem made_in (n:Nat) (c:Cf) {ctx:Ev.Ctx} {r:List Ev.Asr} {w:World} (h:Ev.Hold ctx r w) : CallsIn Fence.wide n Tryz.prog 9 #[c.v] w fun e w'=>e=.returned (made c).v∧Ev.Hold ctx r w':=by
 obtain ⟨k1,e1,b1,p1⟩:=pickL c.n 4 (by decide) (by decide)
 obtain ⟨k2,e2,b2,p2⟩:=pickL c.q 3 (by decide) (by decide)
 obtain ⟨k3,e3,b3,p3⟩:=pickL c.g 20 (by decide) (by decide)
 obtain ⟨k4,e4,b4,p4⟩:=pickL c.m 3 (by decide) (by decide)
 obtain ⟨k5,e5,b5,p5⟩:=pickL c.t 6 (by decide) (by decide)
 obtain ⟨k6,e6,b6,p6⟩:=pickL c.s 3 (by decide) (by decide)
 obtain ⟨q2,hq2⟩ : ∃ q2:Nat,2 * 2 ^ k2=q2:=⟨_,rfl⟩
 have hv:(made c).v=.agg #[.int .i64 (1+(k1:Int)),.int .i64 (q2:Int),.int .i64 (1+(k3:Int)),.int .i64 (1+(k1:Int)+1+(k4:Int)),.int .i64 (2+(k5:Int)),.int .i64 (k6:Int)]:=by
  simp only [Cfg.v,made,e1,e2,e3,e4,e5,e6,hq2]
  simp
 rw [hv]
 obtain ⟨b,W1,hb,hW1,g1⟩:=newN [.int .i64 c.n,.int .i64 c.q,.int .i64 c.g,.int .i64 c.m,.int .i64 c.t,.int .i64 c.s] 23 h
 obtain ⟨b2',W2,hb2,hW2,g2⟩:=newN [.int .i64 0,.int .i64 0,.int .i64 0,.int .i64 0,.int .i64 0,.int .i64 0] 23 g1
 have x0:=blkc (hold_up [_] g2) 0 _
 have a1:IntKind.i64.wrap (1+(k1:Int))=1+(k1:Int):=wrap_ok (by omega) (by omega)
 have a3:IntKind.i64.wrap (1+(k3:Int))=1+(k3:Int):=wrap_ok (by omega) (by omega)
 have a4:IntKind.i64.wrap (1+(k1:Int)+1)=1+(k1:Int)+1:=wrap_ok (by omega) (by omega)
 have a5:IntKind.i64.wrap (1+(k1:Int)+1+(k4:Int))=1+(k1:Int)+1+(k4:Int):=wrap_ok (by omega) (by omega)
 have a6:IntKind.i64.wrap (2+(k5:Int))=2+(k5:Int):=wrap_ok (by omega) (by omega)
 have hS:∀ {l:List Ev.Asr} {W:World},Ev.Hold ctx (Ev.blkA b [.int .i64 c.n,.int .i64 c.q,.int .i64 c.g,.int .i64 c.m,.int .i64 c.t,.int .i64 c.s] 23 :: l) W→W.cell? ⟨b,1,none⟩=some (.int .i64 c.q)∧W.cell? ⟨b,2,none⟩=some (.int .i64 c.g)∧W.cell? ⟨b,3,none⟩=some (.int .i64 c.m)∧W.cell? ⟨b,4,none⟩=some (.int .i64 c.t)∧W.cell? ⟨b,5,none⟩=some (.int .i64 c.s):=fun hh=>⟨blkc hh 1 _,blkc hh 2 _,blkc hh 3 _,blkc hh 4 _,blkc hh 5 _⟩
 have hshl:IntKind.i64.wrap (2 * 2 ^ k2)=(q2:Int):=by
  subst hq2
  match k2,b2 with
  | 0,_=>rfl
  | 1,_=>rfl
  | 2,_=>rfl
 refine wen Tryz.func9 30 ?_
 gi_wp2
 refine wcw (p1 _) ?_
 rintro e w3 ⟨rfl,b3'⟩
 have g3:=hold_keep g2 b3'
 have gd:=hold_keep (hold_up [_] g3) (Below.refl _ _).drew
 gi_upto_region 2 with fail
 refine wpIn_wide.2 ?_
 refine wp_region_held_drew (S:=fun W=>W.cell? ⟨b,1,none⟩=some (.int .i64 c.q)∧W.cell? ⟨b,2,none⟩=some (.int .i64 c.g)∧W.cell? ⟨b,3,none⟩=some (.int .i64 c.m)∧W.cell? ⟨b,4,none⟩=some (.int .i64 c.t)∧W.cell? ⟨b,5,none⟩=some (.int .i64 c.s)) (by kernel_rfl) (hS gd) (fun hHeld=>?_)
 (refine wpAnyH_take (i:=0) (v:=(.int .i64 (1+(k1:Int)))) rfl (by kernel_rfl) (by kernel_rfl) (by kernel_rfl) (fun _ _ _ h=>h) (Or.inl ⟨by rfl,fun w hSw=>by (try dsimp only at hSw); go_simp; (try with_reducible rfl)⟩) (by assumption) ?_; (try simp only [Act.put,List.getElem_toArray,List.getElem_cons_succ,List.getElem_cons_zero,List.setIfInBounds_toArray,List.set_cons_zero,List.set_cons_succ]))
 (refine wpAnyH_take (i:=1) (v:=(.pointer (some ⟨b,1,none⟩))) rfl (by kernel_rfl) (by kernel_rfl) (by kernel_rfl) (fun _ _ _ h=>h) (Or.inl ⟨by rfl,fun w hSw=>by (try dsimp only at hSw); go_simp; (try with_reducible rfl)⟩) (by assumption) ?_; (try simp only [Act.put,List.getElem_toArray,List.getElem_cons_succ,List.getElem_cons_zero,List.setIfInBounds_toArray,List.set_cons_zero,List.set_cons_succ]))
 (refine wpAnyH_take (i:=2) (v:=(.int .i64 c.q)) rfl (by kernel_rfl) (by kernel_rfl) (by kernel_rfl) (fun _ _ _ h=>h) (Or.inl ⟨by rfl,fun w hSw=>by (try dsimp only at hSw); go_simp; (try with_reducible rfl)⟩) (by assumption) ?_; (try simp only [Act.put,List.getElem_toArray,List.getElem_cons_succ,List.getElem_cons_zero,List.setIfInBounds_toArray,List.set_cons_zero,List.set_cons_succ]))
 (refine wpAnyH_take (i:=5) (v:=(.pointer (some ⟨b,2,none⟩))) rfl (by kernel_rfl) (by kernel_rfl) (by kernel_rfl) (fun _ _ _ h=>h) (Or.inl ⟨by rfl,fun w hSw=>by (try dsimp only at hSw); go_simp; (try with_reducible rfl)⟩) (by assumption) ?_; (try simp only [Act.put,List.getElem_toArray,List.getElem_cons_succ,List.getElem_cons_zero,List.setIfInBounds_toArray,List.set_cons_zero,List.set_cons_succ]))
 (refine wpAnyH_take (i:=6) (v:=(.int .i64 c.g)) rfl (by kernel_rfl) (by kernel_rfl) (by kernel_rfl) (fun _ _ _ h=>h) (Or.inl ⟨by rfl,fun w hSw=>by (try dsimp only at hSw); go_simp; (try with_reducible rfl)⟩) (by assumption) ?_; (try simp only [Act.put,List.getElem_toArray,List.getElem_cons_succ,List.getElem_cons_zero,List.setIfInBounds_toArray,List.set_cons_zero,List.set_cons_succ]))
 (refine wpAnyH_take (i:=9) (v:=(.int .i64 (1+(k1:Int)))) rfl (by kernel_rfl) (by kernel_rfl) (by kernel_rfl) (fun _ _ _ h=>h) (Or.inl ⟨by rfl,fun w hSw=>by (try dsimp only at hSw); go_simp; (try with_reducible rfl)⟩) (by assumption) ?_; (try simp only [Act.put,List.getElem_toArray,List.getElem_cons_succ,List.getElem_cons_zero,List.setIfInBounds_toArray,List.set_cons_zero,List.set_cons_succ]))
 (refine wpAnyH_take (i:=10) (v:=(.int .i64 (1+(k1:Int)+1))) rfl (by kernel_rfl) (by kernel_rfl) (by kernel_rfl) (fun _ _ _ h=>h) (Or.inl ⟨by rfl,fun w hSw=>by (try dsimp only at hSw); go_simp; (try with_reducible rfl)⟩) (by assumption) ?_; (try simp only [Act.put,List.getElem_toArray,List.getElem_cons_succ,List.getElem_cons_zero,List.setIfInBounds_toArray,List.set_cons_zero,List.set_cons_succ]))
 (refine wpAnyH_take (i:=11) (v:=(.pointer (some ⟨b,3,none⟩))) rfl (by kernel_rfl) (by kernel_rfl) (by kernel_rfl) (fun _ _ _ h=>h) (Or.inl ⟨by rfl,fun w hSw=>by (try dsimp only at hSw); go_simp; (try with_reducible rfl)⟩) (by assumption) ?_; (try simp only [Act.put,List.getElem_toArray,List.getElem_cons_succ,List.getElem_cons_zero,List.setIfInBounds_toArray,List.set_cons_zero,List.set_cons_succ]))
 (refine wpAnyH_take (i:=12) (v:=(.int .i64 c.m)) rfl (by kernel_rfl) (by kernel_rfl) (by kernel_rfl) (fun _ _ _ h=>h) (Or.inl ⟨by rfl,fun w hSw=>by (try dsimp only at hSw); go_simp; (try with_reducible rfl)⟩) (by assumption) ?_; (try simp only [Act.put,List.getElem_toArray,List.getElem_cons_succ,List.getElem_cons_zero,List.setIfInBounds_toArray,List.set_cons_zero,List.set_cons_succ]))
 (refine wpAnyH_take (i:=15) (v:=(.pointer (some ⟨b,4,none⟩))) rfl (by kernel_rfl) (by kernel_rfl) (by kernel_rfl) (fun _ _ _ h=>h) (Or.inl ⟨by rfl,fun w hSw=>by (try dsimp only at hSw); go_simp; (try with_reducible rfl)⟩) (by assumption) ?_; (try simp only [Act.put,List.getElem_toArray,List.getElem_cons_succ,List.getElem_cons_zero,List.setIfInBounds_toArray,List.set_cons_zero,List.set_cons_succ]))
 (refine wpAnyH_take (i:=16) (v:=(.int .i64 c.t)) rfl (by kernel_rfl) (by kernel_rfl) (by kernel_rfl) (fun _ _ _ h=>h) (Or.inl ⟨by rfl,fun w hSw=>by (try dsimp only at hSw); go_simp; (try with_reducible rfl)⟩) (by assumption) ?_; (try simp only [Act.put,List.getElem_toArray,List.getElem_cons_succ,List.getElem_cons_zero,List.setIfInBounds_toArray,List.set_cons_zero,List.set_cons_succ]))
 (refine wpAnyH_take (i:=19) (v:=(.pointer (some ⟨b,5,none⟩))) rfl (by kernel_rfl) (by kernel_rfl) (by kernel_rfl) (fun _ _ _ h=>h) (Or.inl ⟨by rfl,fun w hSw=>by (try dsimp only at hSw); go_simp; (try with_reducible rfl)⟩) (by assumption) ?_; (try simp only [Act.put,List.getElem_toArray,List.getElem_cons_succ,List.getElem_cons_zero,List.setIfInBounds_toArray,List.set_cons_zero,List.set_cons_succ]))
 (refine wpAnyH_take (i:=20) (v:=(.int .i64 c.s)) rfl (by kernel_rfl) (by kernel_rfl) (by kernel_rfl) (fun _ _ _ h=>h) (Or.inl ⟨by rfl,fun w hSw=>by (try dsimp only at hSw); go_simp; (try with_reducible rfl)⟩) (by assumption) ?_; (try simp only [Act.put,List.getElem_toArray,List.getElem_cons_succ,List.getElem_cons_zero,List.setIfInBounds_toArray,List.set_cons_zero,List.set_cons_succ]))
 (refine wpAnyH_ready (rs:=[3]) (by kernel_rfl) (by simp) ?_; refine AllReadyH.cons rfl (fun K hK=>?_) AllReadyH.nil; go_simp)
 (with_reducible refine (p2 w3.drew).mono ?_)
 rintro e w4 ⟨rfl,b4⟩
 have h4:=hold_keep gd b4
 (refine Shut.out hK _ _ (hS h4) (fun hHeld=>?_); clear hK; (try simp only [Act.put,List.getElem_toArray,List.getElem_cons_succ,List.getElem_cons_zero,List.setIfInBounds_toArray,List.set_cons_zero,List.set_cons_succ]))
 (refine wpAnyH_take (i:=4) (v:=(.int .i64 (q2:Int))) rfl (by kernel_rfl) (by kernel_rfl) (by kernel_rfl) (fun _ _ _ h=>h) (Or.inl ⟨by rfl,fun w hSw=>by (try dsimp only at hSw); go_simp; (try with_reducible rfl)⟩) (by assumption) ?_; (try simp only [Act.put,List.getElem_toArray,List.getElem_cons_succ,List.getElem_cons_zero,List.setIfInBounds_toArray,List.set_cons_zero,List.set_cons_succ]))
 (refine wpAnyH_ready (rs:=[7]) (by kernel_rfl) (by simp) ?_; refine AllReadyH.cons rfl (fun K hK=>?_) AllReadyH.nil; go_simp)
 (with_reducible refine (p3 w4).mono ?_)
 rintro e w5 ⟨rfl,b5⟩
 have h5:=hold_keep h4 b5
 (refine Shut.out hK _ _ (hS h5) (fun hHeld=>?_); clear hK; (try simp only [Act.put,List.getElem_toArray,List.getElem_cons_succ,List.getElem_cons_zero,List.setIfInBounds_toArray,List.set_cons_zero,List.set_cons_succ]))
 (refine wpAnyH_take (i:=8) (v:=(.int .i64 (1+(k3:Int)))) rfl (by kernel_rfl) (by kernel_rfl) (by kernel_rfl) (fun _ _ _ h=>h) (Or.inl ⟨by rfl,fun w hSw=>by (try dsimp only at hSw); go_simp; (try with_reducible rfl)⟩) (by assumption) ?_; (try simp only [Act.put,List.getElem_toArray,List.getElem_cons_succ,List.getElem_cons_zero,List.setIfInBounds_toArray,List.set_cons_zero,List.set_cons_succ]))
 (refine wpAnyH_ready (rs:=[13]) (by kernel_rfl) (by simp) ?_; refine AllReadyH.cons rfl (fun K hK=>?_) AllReadyH.nil; go_simp)
 (with_reducible refine (p4 w5).mono ?_)
 rintro e w6 ⟨rfl,b6⟩
 have h6:=hold_keep h5 b6
 (refine Shut.out hK _ _ (hS h6) (fun hHeld=>?_); clear hK; (try simp only [Act.put,List.getElem_toArray,List.getElem_cons_succ,List.getElem_cons_zero,List.setIfInBounds_toArray,List.set_cons_zero,List.set_cons_succ]))
 (refine wpAnyH_take (i:=14) (v:=(.int .i64 (1+(k1:Int)+1+(k4:Int)))) rfl (by kernel_rfl) (by kernel_rfl) (by kernel_rfl) (fun _ _ _ h=>h) (Or.inl ⟨by rfl,fun w hSw=>by (try dsimp only at hSw); go_simp; (try with_reducible rfl)⟩) (by assumption) ?_; (try simp only [Act.put,List.getElem_toArray,List.getElem_cons_succ,List.getElem_cons_zero,List.setIfInBounds_toArray,List.set_cons_zero,List.set_cons_succ]))
 (refine wpAnyH_ready (rs:=[17]) (by kernel_rfl) (by simp) ?_; refine AllReadyH.cons rfl (fun K hK=>?_) AllReadyH.nil; go_simp)
 (with_reducible refine (p5 w6).mono ?_)
 rintro e w7 ⟨rfl,b7⟩
 have h7:=hold_keep h6 b7
 (refine Shut.out hK _ _ (hS h7) (fun hHeld=>?_); clear hK; (try simp only [Act.put,List.getElem_toArray,List.getElem_cons_succ,List.getElem_cons_zero,List.setIfInBounds_toArray,List.set_cons_zero,List.set_cons_succ]))
 (refine wpAnyH_take (i:=18) (v:=(.int .i64 (2+(k5:Int)))) rfl (by kernel_rfl) (by kernel_rfl) (by kernel_rfl) (fun _ _ _ h=>h) (Or.inl ⟨by rfl,fun w hSw=>by (try dsimp only at hSw); go_simp; (try with_reducible rfl)⟩) (by assumption) ?_; (try simp only [Act.put,List.getElem_toArray,List.getElem_cons_succ,List.getElem_cons_zero,List.setIfInBounds_toArray,List.set_cons_zero,List.set_cons_succ]))
 (refine wpAnyH_ready (rs:=[21]) (by kernel_rfl) (by simp) ?_; refine AllReadyH.cons rfl (fun K hK=>?_) AllReadyH.nil; go_simp)
 (with_reducible refine (p6 w7).mono ?_)
 rintro e w8 ⟨rfl,b8⟩
 have h8:=hold_keep h7 b8
 (refine Shut.out hK _ _ (hS h8) (fun hHeld=>?_); clear hK; (try simp only [Act.put,List.getElem_toArray,List.getElem_cons_succ,List.getElem_cons_zero,List.setIfInBounds_toArray,List.set_cons_zero,List.set_cons_succ]))
 (refine wpAnyH_ready (rs:=[22]) (by kernel_rfl) (by simp) ?_; refine AllReadyH.cons rfl (fun K hK=>?_) AllReadyH.nil; go_simp)
 (refine Shut.out hK _ _ (hS h8) (fun hHeld=>?_); clear hK; (try simp only [Act.put,List.getElem_toArray,List.getElem_cons_succ,List.getElem_cons_zero,List.setIfInBounds_toArray,List.set_cons_zero,List.set_cons_succ]))
 obtain ⟨wB,rB,gB⟩:=st_all (t := 23) (cs':=[.int .i64 (1+(k1:Int)),.int .i64 (q2:Int),.int .i64 (1+(k3:Int)),.int .i64 (1+(k1:Int)+1+(k4:Int)),.int .i64 (2+(k5:Int)),.int .i64 (k6:Int)]) (hold_up [_] h8) rfl (by simp [Value.oneCell']) (by kernel_rfl)
 refine wpAnyH_ready (rs:=[23]) (by kernel_rfl) (by simp) ?_
 refine AllReadyH.cons rfl (fun K hK=>?_) AllReadyH.nil
 rw [if_pos (by rfl)]
 refine wp_store_run _ _ _ rfl rB rfl rfl ?_
 replace gB:=hold_dn [_] gB
 (refine Shut.out hK _ _ (hS gB) (fun hHeld=>?_); clear hK; (try simp only [Act.put,List.getElem_toArray,List.getElem_cons_succ,List.getElem_cons_zero,List.setIfInBounds_toArray,List.set_cons_zero,List.set_cons_succ]))
 refine wpAnyH_done (by kernel_rfl) ?_ _
 gi_wp2
 refine post_cell rfl rfl rfl (lv_all (hold_up [_] gB) Tryz.underlying23 rfl (by kernel_rfl)) ⟨rfl,?_⟩
 exact hold_drop (r:=[_,_]) gB
theorem made_ok (c:Cf) (w:World) : Calls Tryz.prog 9 #[c.v] w fun e w'=>e=.returned (made c).v∧Below w.heap.size w w' :=
 callsIn_wide.1 ((made_in 0 c (ctx:=⟨w,fun _=>False⟩) (r:=[]) (Ev.Hold.start (Ev.now_nil w))).mono fun e w' h=>⟨h.1,h.2.below (fun _ h=>h)⟩)
end Go.Proofs.YtkmccgombmogmaaGreat
namespace Go.Proofs.YtkmccgombmogmaaGreat
open Go.RowKit
set_option linter.unusedVariables false
set_option linter.unusedSimpArgs false
set_option maxRecDepth 8000
abbrev yes (w:World) : Ending→World→Prop:=fun e w'=>e=.returned (.bool true)∧Below w.heap.size w w'
def PlaysC:Prop:=∀ (m:Nat) (c0:Cf) {a0:Option Addr} {N k0:Nat} {L:List Value} {w:World},Ev.SlR 4 (.slice a0 N k0) N L w→(∀ j,j < N * 4→∃ i:Int,i≤9223372036854775807∧L[j]? = some (.int .i64 i))→CallsIn Fence.wide m Tryz.prog 5 #[c0.v,.slice a0 N k0] w (yes w)
def FitsC:Prop:=∀ (m:Nat) (c0:Cf) {a0:Option Addr} {N k0:Nat} {L:List Value} {w:World},Ev.SlR 4 (.slice a0 N k0) N L w→(∀ j,j < N * 4→∃ i:Int,L[j]? = some (.int .i64 i))→CallsIn Fence.wide m Tryz.prog 4 #[c0.v,.slice a0 N k0] w (yes w)
def EndsC:Prop:=∀ (m:Nat) (c0:Cf) {a0:Option Addr} {N k0:Nat} {L:List Value} {w:World} (pp kd cv cg:Int),Ev.SlR 1 (.slice a0 N k0) N L w→(∀ j,j < N→∃ i:Int,0≤i∧i≤255∧L[j]? = some (.int .u8 i))→CallsIn Fence.wide m Tryz.prog 3 #[c0.v,.slice a0 N k0,.int .i64 pp,.agg #[.int .i64 kd,.int .i64 cv,.int .i64 cg]] w (yes w)
def NoneC:Prop:=∀ (m:Nat) (p kd cv cg:Int) (w:World),CallsIn Fence.wide m Tryz.prog 6 #[.int .i64 p,.agg #[.int .i64 kd,.int .i64 cv,.int .i64 cg]] w (yes w)
def WorksC:Prop:=∀ (m:Nat) (w:World),CallsIn Fence.wide m Tryz.prog 8 #[] w (yes w)
theorem bytes3 {ctx:Ev.Ctx} {r:List Ev.Asr} {W:World} {b:Nat} {x y z:Int} (h:Ev.Hold ctx (Ev.blkA b [.int .u8 x,.int .u8 y,.int .u8 z] 5 :: r) W) : Ev.SlR 1 (.slice (some ⟨b,0,none⟩) 3 3) 3 [.int .u8 x,.int .u8 y,.int .u8 z] W :=
 ⟨rfl,.inr ⟨b,0,3,rfl,⟨(Array.getElem?_eq_some_iff.1 (hold_blk h)).1,Nat.le_refl _⟩,fun j hj=>by
  rw [Nat.zero_add]
  have:j=0∨j=1∨j=2:=by omega
  rcases this with rfl | rfl | rfl
  ·exact blkc h 0 _
  ·exact blkc h 1 _
  ·exact blkc h 2 _⟩⟩
theorem byte3 {x y:Int} (h0:0≤x) (h1:x≤255) (h2:0≤y) (h3:y≤255) : ∀ j,j < 3→∃ i:Int,0≤i∧i≤255∧[Value.int .u8 x,.int .u8 y,.int .u8 3][j]? = some (.int .u8 i):=by
 intro j hj
 have:j=0∨j=1∨j=2:=by omega
 rcases this with rfl | rfl | rfl
 ·exact ⟨_,h0,h1,rfl⟩
 ·exact ⟨_,h2,h3,rfl⟩
 ·exact ⟨3,by omega,by omega,rfl⟩
abbrev oddI:List Int:=[-1,1,0,0,9,2,0,0,0,4,0,0,0,1,0,-1,0,3,0,0,0,3,9,0,0,3,-1,0,0,0,0,0]
abbrev oddL:List Value:=[.int .i64 (-1),.int .i64 1,.int .i64 0,.int .i64 0,.int .i64 9,.int .i64 2,.int .i64 0,.int .i64 0,.int .i64 0,.int .i64 4,.int .i64 0,.int .i64 0,.int .i64 0,.int .i64 1,.int .i64 0,.int .i64 (-1),.int .i64 0,.int .i64 3,.int .i64 0,.int .i64 0,.int .i64 0,.int .i64 3,.int .i64 9,.int .i64 0,.int .i64 0,.int .i64 3,.int .i64 (-1),.int .i64 0,.int .i64 0,.int .i64 0,.int .i64 0,.int .i64 0]
theorem odd_slr {ctx:Ev.Ctx} {r:List Ev.Asr} {W:World} {b:Nat} (h:Ev.Hold ctx (Ev.blkA b oddL 45 :: r) W) : Ev.SlR 4 (.slice (some ⟨b,0,none⟩) 8 8) 8 oddL W :=
 ⟨rfl,.inr ⟨b,0,8,rfl,⟨(Array.getElem?_eq_some_iff.1 (hold_blk h)).1,Nat.le_refl _⟩,fun j hj=>by
  rw [Nat.zero_add]
  have hj':j < oddL.length:=hj
  exact (blkc h j _ (List.getElem?_eq_getElem hj')).trans (List.getElem?_eq_getElem hj').symm⟩⟩
theorem odd_int:∀ j,j < 8 * 4→∃ i:Int,i≤9223372036854775807∧oddL[j]? = some (.int .i64 i):=by
 intro j hj
 have hm:oddL=oddI.map (.int .i64):=rfl
 have hj':j < oddI.length:=hj
 refine ⟨oddI[j],?_,by rw [hm,List.getElem?_map,List.getElem?_eq_getElem hj']; rfl⟩
 have:∀ x ∈ oddI,x≤9223372036854775807:=by decide
 exact this _ (List.getElem_mem hj')
set_option maxHeartbeats 4000000 in
theorem known_in (hP:PlaysC) (hF:FitsC) (hE:EndsC) (hN:NoneC) (hWk:WorksC) (m:Nat) (w:World) : CallsIn Fence.wide m Tryz.prog 7 #[] w (yes w):=by
 have h0:Ev.Hold ⟨w,fun _=>False⟩ [] w:=Ev.Hold.start (Ev.now_nil w)
 refine wen Tryz.func7 114 ?_
 gi_wp2
 gi_loopw [1,2] (fun kv nv wr=>∃ k n:Nat,kv=.int .i64 (k:Int)∧nv=.int .i64 (n:Int)∧k < 100003∧n≤40∧Ev.Hold ⟨w,fun _=>False⟩ [] wr) (fun _ nv _=>40 - (intOf nv).toNat)
 case atStart=>exact ⟨1,0,rfl,rfl,by omega,by omega,h0⟩
 case round =>
  clear h0
  obtain ⟨k,n,rfl,rfl,hk,hn,hH⟩:=hrel
  by_cases hn40:n < 40
  ·have hnI:(n:Int) < 40:=by omega
   gi_wp2
   gi_loopw [1,3,4] (fun kv lv iv wr=>∃ (k i:Nat) (a:Option Addr) (cc:Nat) (L:List Value),kv=.int .i64 (k:Int)∧lv=.slice a i cc∧iv=.int .i64 (i:Int)∧k < 100003∧i≤240∧Ev.Off0 (.slice a i cc)∧NumL (i * 4) L∧Ev.Hold ⟨w,fun _=>False⟩ [Ev.slA 45 4 (.slice a i cc) i L] wr) (fun _ _ iv _=>240 - (intOf iv).toNat)
   case atStart=>exact ⟨k,0,none,0,[],rfl,rfl,rfl,hk,by omega,.inl rfl,fun j hj=>by omega,hH.nilSl (e := 45) (sz:=4)⟩
   case round =>
    clear hH hk
    obtain ⟨k,i,a,cc,L,rfl,rfl,rfl,hk,hi,ho,hL,hH⟩:=hrel
    by_cases hi240:i < 240
    ·have hiI:(i:Int) < 240:=by omega
     have l3:k / 4 % 5 < 5:=by omega
     have hkd:=kindN_at l3
     have hkl:=kindN_lt (k / 4 % 5)
     obtain ⟨kd,hkdd⟩ : ∃ kd,kindN (k / 4 % 5)=kd:=⟨_,rfl⟩
     rw [hkdd] at hkd hkl
     clear hkdd
     have hLl:=(hold_slr hH).1
     obtain ⟨b1,W1,hb1,hW1,q1⟩:=newN kindsL 3 hH
     have cj:W1.cell? ⟨b1,k / 4 % 5,none⟩=some (.int .i64 (kd:Int)):=blkc q1 _ _ hkd
     obtain ⟨b2,W2,hb2,hW2,q2⟩:=newN [.int .i64 ((k:Int) % 4),.int .i64 (kd:Int),.int .i64 ((k:Int) / 20 % 4),.int .i64 ((k:Int) % 100)] 45 q1
     obtain ⟨a',k',w3,r1,ho3,q3⟩:=appAct (b:=b2) (cs:=[.int .i64 ((k:Int) % 4),.int .i64 (kd:Int),.int .i64 ((k:Int) / 20 % 4),.int .i64 ((k:Int) % 100)]) rfl (by simp [Value.oneCell']) hi240 ho (fun j u hj=>blkc q2 j u hj) (hold_up [_,_] q2)
     gi_wp2_with (gi_at_builtin; refine wpListIn_append_run rfl _ _ _ rfl r1 ?_)
     exact ⟨⟨(k * 31+7 * i+11) % 100003,i+1,a',k',L++[.int .i64 ((k:Int) % 4),.int .i64 (kd:Int),.int .i64 ((k:Int) / 20 % 4),.int .i64 ((k:Int) % 100)],rfl,rfl,rfl,by omega,by omega,ho3,numL_app (p:=k % 4) (v:=k / 20 % 4) (g:=k % 100) hL hLl (by omega) hkl (by omega) (by omega),hold_drop (r:=[_,_]) (hold_dn [_,_] q3)⟩,by simp [intOf]; omega⟩
    ·have hiI:¬ (i:Int) < 240:=by omega
     obtain ⟨b5,W5,hb5,hW5,g1⟩:=newN [.int .i64 0,.int .i64 0,.int .i64 0,.int .i64 0,.int .i64 0,.int .i64 0] 23 hH
     obtain ⟨W6,s6,g2⟩:=st_all (t := 23) (cs':=[.int .i64 ((k:Int) % 4),.int .i64 ((n:Int) % 3),.int .i64 9,.int .i64 1,.int .i64 2,.int .i64 0]) g1 rfl (by simp [Value.oneCell']) (by kernel_rfl)
     have ld5:=ld_all g2 Tryz.underlying23 rfl (by kernel_rfl)
     gi_wp2_with (first | refine wpListIn_store_run rfl _ _ _ rfl s6 rfl rfl ?_ | refine wpListIn_load_run rfl _ _ rfl ld5 rfl ?_)
     refine wcw (made_ok ⟨(k:Int) % 4,(n:Int) % 3,9,1,2,0⟩ _) ?_
     rintro e w7 ⟨rfl,B7⟩
     obtain ⟨d,hd⟩ : ∃ d,made ⟨(k:Int) % 4,(n:Int) % 3,9,1,2,0⟩=d:=⟨_,rfl⟩
     rw [hd]
     clear hd
     have g3:=hold_keep g2 B7
     obtain ⟨b6,W8,hb6,hW8,g4⟩:=newN [.int .i64 0,.int .i64 0,.int .i64 0,.int .i64 0,.int .i64 0,.int .i64 0] 23 g3
     obtain ⟨W9,s9,g5⟩:=st_all (t := 23) (cs':=[.int .i64 (d.n:Int),.int .i64 (d.q:Int),.int .i64 d.g,.int .i64 d.m,.int .i64 d.t,.int .i64 d.s]) g4 rfl (by simp [Value.oneCell']) (by kernel_rfl)
     have g6:=hold_keep g5 (Below.refl _ _).drew
     have ld6:=ld_all g6 Tryz.underlying23 rfl (by kernel_rfl)
     gi_wp2_with (first | refine wpListIn_store_run rfl _ _ _ rfl s9 rfl rfl ?_ | refine wpListIn_load_run rfl _ _ rfl ld6 rfl ?_)
     obtain rfl:i=240:=by omega
     obtain ⟨bl,rfl⟩ : ∃ bl,a=some ⟨bl,0,none⟩:=by
      rcases (hold_slr hH).2 with ⟨e,_⟩ | ⟨b2,off,c2,e,_⟩
      ·omega
      ·rcases ho with h0 | ⟨b3,n3,c3,h0⟩
       ·rw [h0] at e; cases e
       ·cases h0; exact ⟨_,rfl⟩
     have hcc:240≤cc:=by
      rcases (hold_slr hH).2 with ⟨e,_⟩ | ⟨b2,off,c2,e,h2,_⟩
      ·omega
      ·cases e; exact h2.2
     have hcI:(100:Int)≤(cc:Int):=by omega
     have hcells:∀ {r:List Ev.Asr} {W:World},Ev.Hold ⟨w,fun _=>False⟩ (Ev.slA 45 4 (.slice (some ⟨bl,0,none⟩) 240 cc) 240 L::r) W→bl < W.heap.size∧∀ j,j < 960→W.cell? ⟨bl,j,none⟩=L[j]?:=fun hh=>by
      rcases (hold_slr hh).2 with ⟨e,_⟩ | ⟨b2,off,c2,e,h2,h3⟩
      ·omega
      ·cases e
       exact ⟨h2.1,fun j hj=>by have:=h3 j (by omega); rwa [Nat.zero_add] at this⟩
     obtain ⟨u1,_,hu1⟩:=hL (n * 4+1) (by omega)
     obtain ⟨u2,_,hu2⟩:=hL (n * 4+2) (by omega)
     obtain ⟨u3,_,hu3⟩:=hL (n * 4+3) (by omega)
     obtain ⟨v1,_,hv1⟩:=hL 1 (by omega)
     obtain ⟨v2,_,hv2⟩:=hL 2 (by omega)
     obtain ⟨v3,_,hv3⟩:=hL 3 (by omega)
     have hS:∀ {r:List Ev.Asr} {W:World},Ev.Hold ⟨w,fun _=>False⟩ (Ev.blkA b6 [.int .i64 (d.n:Int),.int .i64 (d.q:Int),.int .i64 d.g,.int .i64 d.m,.int .i64 d.t,.int .i64 d.s] 23 :: Ev.blkA b5 [.int .i64 ((k:Int) % 4),.int .i64 ((n:Int) % 3),.int .i64 9,.int .i64 1,.int .i64 2,.int .i64 0] 23 :: Ev.slA 45 4 (.slice (some ⟨bl,0,none⟩) 240 cc) 240 L::r) W→(W.cell? ⟨b6,0,none⟩=some (.int .i64 (d.n:Int))∧W.cell? ⟨b6,1,none⟩=some (.int .i64 (d.q:Int))∧W.cell? ⟨b6,2,none⟩=some (.int .i64 d.g)∧W.cell? ⟨b6,3,none⟩=some (.int .i64 d.m)∧W.cell? ⟨b6,4,none⟩=some (.int .i64 d.t)∧W.cell? ⟨b6,5,none⟩=some (.int .i64 d.s))∧(W.cell? ⟨b5,0,none⟩=some (.int .i64 ((k:Int) % 4))∧W.cell? ⟨b5,1,none⟩=some (.int .i64 ((n:Int) % 3))∧W.cell? ⟨b5,2,none⟩=some (.int .i64 9)∧W.cell? ⟨b5,3,none⟩=some (.int .i64 1)∧W.cell? ⟨b5,4,none⟩=some (.int .i64 2)∧W.cell? ⟨b5,5,none⟩=some (.int .i64 0))∧(W.cell? ⟨bl,n * 4+1,none⟩=some (.int .i64 (u1:Int))∧W.cell? ⟨bl,n * 4+2,none⟩=some (.int .i64 (u2:Int))∧W.cell? ⟨bl,n * 4+3,none⟩=some (.int .i64 (u3:Int)))∧(W.cell? ⟨bl,1,none⟩=some (.int .i64 (v1:Int))∧W.cell? ⟨bl,2,none⟩=some (.int .i64 (v2:Int))∧W.cell? ⟨bl,3,none⟩=some (.int .i64 (v3:Int))):=fun hh =>
      have hl:=(hcells (hold_up [_,_] hh)).2
      have h5:=hold_up [_] hh
      ⟨⟨blkc hh 0 _,blkc hh 1 _,blkc hh 2 _,blkc hh 3 _,blkc hh 4 _,blkc hh 5 _⟩,⟨blkc h5 0 _,blkc h5 1 _,blkc h5 2 _,blkc h5 3 _,blkc h5 4 _,blkc h5 5 _⟩,⟨(hl _ (by omega)).trans hu1,(hl _ (by omega)).trans hu2,(hl _ (by omega)).trans hu3⟩,⟨(hl _ (by omega)).trans hv1,(hl _ (by omega)).trans hv2,(hl _ (by omega)).trans hv3⟩⟩
     have hLl:=(hold_slr hH).1
     have hsl:∀ {r:List Ev.Asr} {W:World},Ev.Hold ⟨w,fun _=>False⟩ (Ev.slA 45 4 (.slice (some ⟨bl,0,none⟩) 240 cc) 240 L::r) W→Ev.SlR 4 (.slice (some ⟨bl,0,none⟩) 100 cc) 100 (L.take (100 * 4)) W:=fun hh =>
      ⟨by rw [List.length_take,hLl]; rfl,.inr ⟨bl,0,cc,rfl,⟨(hcells hh).1,by omega⟩,fun j hj=>by rw [List.getElem?_take_of_lt hj,Nat.zero_add]; exact (hcells hh).2 j (by omega)⟩⟩
     have h7:0≤IntKind.u8.wrap ((k:Int).tmod 7)∧IntKind.u8.wrap ((k:Int).tmod 7)≤255:=by unfold IntKind.wrap; simp [IntKind.signed,IntKind.bits]; omega
     have fun8:IntKind.u8.wrap (n:Int)=(n:Int):=by unfold IntKind.wrap; simp [IntKind.signed,IntKind.bits]; omega
     have hn240:(n:Int) < 240:=by omega
     have hnn:((n:Int)).toNat=n:=by omega
     have hn0:0≤(n:Int):=by omega
     clear s6 s9 ld5 ld6 g1 g2 g3 g4 g5 hb5 hW5 hb6 hW8 B7
     refine wpIn_wide.2 ?_
     go_region_held3 (fun W=>(W.cell? ⟨b6,0,none⟩=some (.int .i64 (d.n:Int))∧W.cell? ⟨b6,1,none⟩=some (.int .i64 (d.q:Int))∧W.cell? ⟨b6,2,none⟩=some (.int .i64 d.g)∧W.cell? ⟨b6,3,none⟩=some (.int .i64 d.m)∧W.cell? ⟨b6,4,none⟩=some (.int .i64 d.t)∧W.cell? ⟨b6,5,none⟩=some (.int .i64 d.s))∧(W.cell? ⟨b5,0,none⟩=some (.int .i64 ((k:Int) % 4))∧W.cell? ⟨b5,1,none⟩=some (.int .i64 ((n:Int) % 3))∧W.cell? ⟨b5,2,none⟩=some (.int .i64 9)∧W.cell? ⟨b5,3,none⟩=some (.int .i64 1)∧W.cell? ⟨b5,4,none⟩=some (.int .i64 2)∧W.cell? ⟨b5,5,none⟩=some (.int .i64 0))∧(W.cell? ⟨bl,n * 4+1,none⟩=some (.int .i64 (u1:Int))∧W.cell? ⟨bl,n * 4+2,none⟩=some (.int .i64 (u2:Int))∧W.cell? ⟨bl,n * 4+3,none⟩=some (.int .i64 (u3:Int)))∧(W.cell? ⟨bl,1,none⟩=some (.int .i64 (v1:Int))∧W.cell? ⟨bl,2,none⟩=some (.int .i64 (v2:Int))∧W.cell? ⟨bl,3,none⟩=some (.int .i64 (v3:Int))))
      ((first | exact hS g6 | exact hS g10 | exact hS g11 | exact hS (hold_drop (r:=[_]) g11n) | exact hS g12 | exact hS g13 | fail))
      ((first
       | (go_at_call 5; have hcon:=callsIn_wide.1 (hP 0 ⟨d.n,d.q,d.g,d.m,d.t,d.s⟩ (hsl (hold_up [_,_] g6)) (hL.take (m:=100 * 4) (by omega)).top); (with_reducible refine hcon.mono ?_); clear hcon; rintro e w10 ⟨rfl,B10⟩; have g10:=hold_keep g6 B10)
       | (go_at_call 4; have hcon:=callsIn_wide.1 (hF 0 ⟨(k:Int) % 4,(n:Int) % 3,9,1,2,0⟩ (hold_slr (hold_up [_,_] g10)) hL.any); (with_reducible refine hcon.mono ?_); clear hcon; rintro e w11 ⟨rfl,B11⟩; have g11:=hold_keep g10 B11; (obtain ⟨b7,W11,hb7,hW11,g11n⟩:=newN [.int .u8 (IntKind.u8.wrap ((k:Int).tmod 7)),.int .u8 (n:Int),.int .u8 3] 5 g11); subst hb7 hW11)
       | (go_at_call 3; have hcon:=callsIn_wide.1 (hE 0 ⟨(k:Int) % 4,(n:Int) % 3,9,1,2,0⟩ ((k:Int).tmod 3) (u1:Int) (u2:Int) (u3:Int) (bytes3 g11n) (byte3 h7.1 h7.2 (by omega) (by omega))); (with_reducible refine hcon.mono ?_); clear hcon; rintro e w12 ⟨rfl,B12⟩; have g12:=hold_keep (hold_drop (r:=[_]) g11n) B12)
       | (go_at_call 6; have hcon:=callsIn_wide.1 (hN 0 (n:Int) (v1:Int) (v2:Int) (v3:Int) w12); (with_reducible refine hcon.mono ?_); clear hcon; rintro e w13 ⟨rfl,B13⟩; have g13:=hold_keep g12 B13)))
     gi_wp2
     exact ⟨⟨k,n+1,rfl,rfl,hk,by omega,hold_drop (r:=[_,_,_]) g13⟩,by simp [intOf]; omega⟩
  ·have hnI:¬ (n:Int) < 40:=by omega
   obtain ⟨b1,W1,hb1,hW1,q1⟩:=newN oddL 45 hH
   gi_wp2
   refine wcw (made_ok ⟨1,0,0,0,0,0⟩ _) ?_
   rintro e w2 ⟨rfl,B2⟩
   obtain ⟨d,hd⟩ : ∃ d,made ⟨1,0,0,0,0,0⟩=d:=⟨_,rfl⟩
   rw [hd]
   clear hd
   have q2:=hold_keep q1 B2
   gi_wp2
   refine wcl (hP (m - 1) ⟨d.n,d.q,d.g,d.m,d.t,d.s⟩ (odd_slr q2) odd_int) ?_
   rintro e w3 ⟨rfl,B3⟩
   have q3:=hold_keep q2 B3
   gi_wp2
   refine wcl (hP (m - 1) ⟨0,0,0,0,0,0⟩ (odd_slr q3) odd_int) ?_
   rintro e w4 ⟨rfl,B4⟩
   have q4:=hold_keep q3 B4
   gi_wp2
   refine wcl (hWk (m - 1) _) ?_
   rintro e w5 ⟨rfl,B5⟩
   gi_wp2
   exact bodyPost_ret (results_tmp rfl _ _ _) rfl ⟨rfl,(hold_keep q4 B5).below (fun _=>id)⟩
end Go.Proofs.YtkmccgombmogmaaGreat
namespace Go.Proofs.YtkmccgombmogmaaGreat
open Go.RowKit
set_option linter.unusedVariables false
set_option linter.unusedSimpArgs false
end Go.Proofs.YtkmccgombmogmaaGreat
