/- Part of a proof: see the last text. -/
import Derived.Test.YtkmccgombmogmaaGreatZk9
import Derived.Test.YtkmccgombmogmaaGreatZk3
import Derived.Test.YtkmccgombmogmaaGreatZk1
namespace Go.Proofs.YtkmccgombmogmaaGreat
open Go.RowKit
set_option linter.unusedVariables false
set_option linter.unusedSimpArgs false
set_option maxRecDepth 8000
theorem wp_invoke {P:Program} {w:World} {o:Oper} {a:Act} {K:Act→World→Prop} {Q:Exit→Act→World→Prop} (rv:Operand) (name:String) (args:Array Operand) (ts:Array TypeId) (hop:o.op=Op.call { callee:=Callee.invoke rv name,args:=args,argTypes:=ts }) {f:FuncId} {ar:Array Value} {R:Ending→World→Prop}
  (hrun:(callMethod (a.eval rv) name (args.map a.eval)).run P w=.ok (.enter f ar) w) (hC:Calls P f ar w R)
  (hK:∀ e w',R e w'→∃ v,e=.returned v∧K (a.put o.dst v) w') : o.wp P a w K Q:=by
 unfold Oper.wp
 have e:(execOp a.eval o).run P w=.ok (.enter f ar) w:=by
  unfold execOp
  simp only [hop,resolve,Sem.run_bind,Sem.run_pure,Result.andThen_ok,invoke]
  have e1:(#[a.eval rv]++args.map a.eval)[0]? = some (a.eval rv):=by
   rw [Array.getElem?_append_left (by simp)]
   rfl
  have e2:(#[a.eval rv]++args.map a.eval).extract 1 (#[a.eval rv]++args.map a.eval).size=args.map a.eval:=by
   rw [Array.extract_append]
   simp
  rw [e1,e2]
  exact hrun
 rw [e]
 refine hC.mono (fun e w' hr=>?_)
 obtain ⟨v,rfl,k⟩:=hK e w' hr
 exact k
section
variable (b:Nat) (ar:Array Value) (w:World)
theorem inv_putStep:(callMethod (.iface 81 (.pointer (some ⟨b,0,none⟩))) "Step" ar).run Tryz.prog w=.ok (.enter 138 (#[.pointer (some ⟨b,0,none⟩)]++ar)) w:=by kernel_rfl
theorem inv_getStep:(callMethod (.iface 83 (.pointer (some ⟨b,0,none⟩))) "Step" ar).run Tryz.prog w=.ok (.enter 161 (#[.pointer (some ⟨b,0,none⟩)]++ar)) w:=by kernel_rfl
theorem inv_stealStep:(callMethod (.iface 85 (.pointer (some ⟨b,0,none⟩))) "Step" ar).run Tryz.prog w=.ok (.enter 166 (#[.pointer (some ⟨b,0,none⟩)]++ar)) w:=by kernel_rfl
end
section
variable (b:Nat) (w:World)
theorem meth_putHands:(method 343 81 (.pointer (some ⟨b,0,none⟩)) "Hands").run Tryz.prog w=.ok (137,.pointer (some ⟨b,0,none⟩)) w:=by kernel_rfl
theorem meth_getHands:(method 343 83 (.pointer (some ⟨b,0,none⟩)) "Hands").run Tryz.prog w=.ok (160,.pointer (some ⟨b,0,none⟩)) w:=by kernel_rfl
theorem meth_getGot:(method 343 83 (.pointer (some ⟨b,0,none⟩)) "Got").run Tryz.prog w=.ok (68,.pointer (some ⟨b,0,none⟩)) w:=by kernel_rfl
theorem meth_stealHands:(method 343 85 (.pointer (some ⟨b,0,none⟩)) "Hands").run Tryz.prog w=.ok (99,.pointer (some ⟨b,0,none⟩)) w:=by kernel_rfl
theorem meth_stealGot:(method 343 85 (.pointer (some ⟨b,0,none⟩)) "Got").run Tryz.prog w=.ok (165,.pointer (some ⟨b,0,none⟩)) w:=by kernel_rfl
end
def flat7 (f:Nat→List Value) (n:Nat) : List Value:=(List.range n).flatMap f
theorem flat7_len {f:Nat→List Value} (hf:∀ q,(f q).length=7) (n:Nat) : (flat7 f n).length=n * 7:=by
 induction n with
 | zero=>rfl
 | succ n ih =>
  unfold flat7 at ih ⊢
  rw [List.range_succ,List.flatMap_append,List.length_append,ih]
  simp [hf]
  omega
theorem flat7_succ (f:Nat→List Value) (n:Nat) : flat7 f (n+1)=flat7 f n++f n:=by
 unfold flat7
 rw [List.range_succ,List.flatMap_append]
 simp
theorem flat7_get {f:Nat→List Value} (hf:∀ q,(f q).length=7) {n p j:Nat} (hp:p < n) (hj:j < 7) : (flat7 f n)[p * 7+j]? = (f p)[j]?:=by
 induction n with
 | zero=>omega
 | succ n ih =>
  rw [flat7_succ]
  by_cases h:p < n
  ·rw [List.getElem?_append_left (by rw [flat7_len hf]; omega),ih h]
  ·obtain rfl:p=n:=by omega
   rw [List.getElem?_append_right (by rw [flat7_len hf]; omega),flat7_len hf,show p * 7+j - p * 7=j by omega]
theorem flat7_congr {f g:Nat→List Value} {n:Nat} (h:∀ q,q < n→f q=g q) : flat7 f n=flat7 g n:=by
 unfold flat7
 rw [List.flatMap_def,List.flatMap_def]
 congr 1
 apply List.map_congr_left
 intro q hq
 exact h q (List.mem_range.1 hq)
theorem flat7_set {f:Nat→List Value} (hf:∀ q,(f q).length=7) {n p j:Nat} (hp:p < n) (hj:j < 7) (v:Value) : (flat7 f n).set (p * 7+j) v=flat7 (fun q=>if q=p then (f q).set j v else f q) n:=by
 induction n with
 | zero=>omega
 | succ n ih =>
  rw [flat7_succ,flat7_succ]
  by_cases h:p < n
  ·rw [List.set_append_left _ _ (by rw [flat7_len hf]; omega),ih h,if_neg (by omega)]
  ·obtain rfl:p=n:=by omega
   rw [List.set_append_right _ _ (by rw [flat7_len hf]; omega),flat7_len hf,show p * 7+j - p * 7=j by omega,if_pos rfl]
   congr 1
   exact flat7_congr (fun q hq=>by rw [if_neg (by omega)])
def macA (c:Cfg) (p:Nat) (mv:Value) : Option MacS→Ev.Asr
 | none=>Ev.exA (fun _:Unit=>mv=.nilIface) (fun _=>Ev.nilA)
 | some (.put u)=>Ev.exA (fun bp:Nat=>mv=.iface 81 (.pointer (some ⟨bp,0,none⟩))) (fun bp=>putA c p bp u)
 | some (.get u)=>Ev.exA (fun bp:Nat=>mv=.iface 83 (.pointer (some ⟨bp,0,none⟩))) (fun bp=>getA c p bp u)
 | some (.steal v u)=>Ev.exA (fun bp:Nat=>mv=.iface 85 (.pointer (some ⟨bp,0,none⟩))) (fun bp=>stealA c p v bp u)
structure OwnV where
 d:Nat
 mv:Value
 rv:Value
def ownA (c:Cfg) (p:Nat) (o:OwnS) (e:OwnV) : Ev.Asr:=Ev.grp [dqA c e.d o.dq,macA c p e.mv o.mac,isA e.rv o.rs]
def ownRow (o:OwnS) (e:OwnV) : List Value:=[.int .i64 o.kd,.int .i64 o.cv,.int .i64 o.cg,e.mv,.pointer (some ⟨e.d,0,none⟩),.bool o.gn,e.rv]
def rowAt (l:List OwnS) (es:Nat→OwnV) (q:Nat) : List Value:=match l[q]? with | some o=>ownRow o (es q) | none=>List.replicate 7 undef
theorem rowAt_len (l:List OwnS) (es:Nat→OwnV) (q:Nat) : (rowAt l es q).length=7:=by
 unfold rowAt
 cases l[q]? <;> rfl
structure RB where
 br:Nat
 bm:Nat
 bo:Nat
 cp:Nat
def raceV (b:RB) (c:Cfg) (x:RaceS) : Ev.Asr:=Ev.blkA b.br [.int .i64 (c.n:Int),.int .i64 (c.q:Int),.int .i64 c.g,.int .i64 c.m,.int .i64 c.t,.int .i64 c.s,.pointer (some ⟨b.bm,0,none⟩),.slice (some ⟨b.bo,0,none⟩) c.n b.cp,.int .i64 x.pts,.bool x.bad] 73
def rowsA (b:RB) (c:Cfg) (l:List OwnS) (es:Nat→OwnV) : Ev.Asr:=Ev.slA 80 7 (.slice (some ⟨b.bo,0,none⟩) c.n b.cp) c.n (flat7 (rowAt l es) c.n)
def ownP (c:Cfg) (l:List OwnS) (es:Nat→OwnV) (q:Nat) : Ev.Asr:=match l[q]? with | some o=>ownA c q o (es q) | none=>Ev.nilA
def ownsL (c:Cfg) (l:List OwnS) (es:Nat→OwnV) : List Ev.Asr:=(List.range c.n).map (ownP c l es)
def raceT (b:RB) (c:Cfg) (x:RaceS) (es:Nat→OwnV) : List Ev.Asr:=[raceV b c x,memA b.bm x.m,rowsA b c x.ow es]
def raceL (b:RB) (c:Cfg) (x:RaceS) (es:Nat→OwnV) : List Ev.Asr:=raceT b c x es++ownsL c x.ow es
def raceA (b:RB) (c:Cfg) (x:RaceS) : Ev.Asr:=Ev.exA (fun _:Nat→OwnV=>True) (fun es=>Ev.grp (raceL b c x es))
section
variable {ctx:Ev.Ctx} {w:World} {l:List Ev.Asr} {b:RB} {c:Cfg} {x:RaceS} {es:Nat→OwnV}
theorem race_open (h:Ev.Hold ctx (raceA b c x::l) w) : ∃ es,Ev.Hold ctx (raceL b c x es++l) w:=by
 obtain ⟨es,_,hh⟩:=h.getX
 exact ⟨es,hh.open⟩
theorem race_close (h:Ev.Hold ctx (raceL b c x es++l) w) : Ev.Hold ctx (raceA b c x::l) w:=Ev.Hold.putX es trivial (Ev.Hold.shut h)
end
def esAt (es:Nat→OwnV) (p:Nat) (e:OwnV) : Nat→OwnV:=fun q=>if q=p then e else es q
theorem esAt_self (es:Nat→OwnV) (p:Nat) (e:OwnV) : esAt es p e p=e:=if_pos rfl
theorem esAt_ne {es:Nat→OwnV} {p q:Nat} {e:OwnV} (h:q ≠ p) : esAt es p e q=es q:=if_neg h
theorem esAt_id (es:Nat→OwnV) (p:Nat) : esAt es p (es p)=es:=by
 funext q
 unfold esAt
 split
 ·next h=>rw [h]
 ·rfl
section
variable {ctx:Ev.Ctx} {w:World} {r:List Ev.Asr} {b:RB} {c:Cfg} {l:List OwnS} {es:Nat→OwnV} {p:Nat} {o o':OwnS} {e':OwnV}
theorem owns_get (hp:p < c.n) (ho:l[p]? = some o) : (ownsL c l es)[p]? = some (ownA c p o (es p)):=by
 unfold ownsL ownP
 rw [List.getElem?_map,List.getElem?_range hp]
 simp [ho]
theorem owns_len:(ownsL c l es).length=c.n:=by simp [ownsL]
theorem owns_set (hp:p < c.n) (hl:p < l.length) : (ownsL c l es).set p (ownA c p o' e')=ownsL c (l.set p o') (esAt es p e'):=by
 apply List.ext_getElem?
 intro q
 by_cases h:q=p
 ·subst h
  rw [List.getElem?_set_self (by rw [owns_len]; exact hp),owns_get hp (List.getElem?_set_self hl),esAt_self]
 ·rw [List.getElem?_set_ne (Ne.symm h)]
  unfold ownsL ownP
  rw [List.getElem?_map,List.getElem?_map]
  cases hr:(List.range c.n)[q]? with
  | none=>rfl
  | some q' =>
   have:q'=q:=by
    have h1:=(List.getElem?_eq_some_iff.1 hr).2
    simpa using h1.symm
   subst this
   simp only [Option.map_some,List.getElem?_set_ne (Ne.symm h),esAt_ne h]
theorem own_out (hp:p < c.n) (ho:l[p]? = some o) (h:Ev.Hold ctx (ownsL c l es++r) w) : Ev.Hold ctx (ownA c p o (es p)::((ownsL c l es).eraseIdx p++r)) w:=hold_out (owns_get hp ho) h
theorem own_in (hp:p < c.n) (hl:p < l.length) (h:Ev.Hold ctx (ownA c p o' e'::((ownsL c l es).eraseIdx p++r)) w) : Ev.Hold ctx (ownsL c (l.set p o') (esAt es p e')++r) w:=by
 have:=hold_in (l:=ownsL c l es) (by rw [owns_len]; exact hp) h
 rwa [owns_set hp hl] at this
theorem row_flat (hl:p < l.length) (hp:p < c.n) (ho:l[p]? = some o) (j:Nat) (hj:j < 7) (v:Value) (h:(ownRow o (es p)).set j v=ownRow o' e') : (flat7 (rowAt l es) c.n).set (p * 7+j) v=flat7 (rowAt (l.set p o') (esAt es p e')) c.n:=by
 rw [flat7_set (rowAt_len l es) hp hj]
 apply flat7_congr
 intro q hq
 by_cases e:q=p
 ·subst e
  rw [if_pos rfl]
  unfold rowAt
  rw [ho,List.getElem?_set_self hl,esAt_self]
  exact h
 ·rw [if_neg e]
  unfold rowAt
  rw [List.getElem?_set_ne (Ne.symm e),esAt_ne e]
theorem rows_set (hl:p < l.length) (hp:p < c.n) (ho:l[p]? = some o) (j:Nat) (hj:j < 7) (v:Value) (hr:(ownRow o (es p)).set j v=ownRow o' e') (h:Ev.Hold ctx (rowsA b c l es::r) w) : Ev.Hold ctx (rowsA b c (l.set p o') (esAt es p e')::r) (w.setCell ⟨b.bo,p * 7+j,none⟩ v):=by
 have:=hold_setS (i:=p * 7+j) v (by omega) h
 rw [Nat.zero_add] at this
 unfold rowsA
 rw [← row_flat hl hp ho j hj v hr]
 exact this
theorem rows_cell (hp:p < c.n) (ho:l[p]? = some o) (h:Ev.Hold ctx (rowsA b c l es::r) w) {j:Nat} {v:Value} (hj:(ownRow o (es p))[j]? = some v) : w.cell? ⟨b.bo,p * 7+j,none⟩=some v:=by
 have hj7:j < 7:=(List.getElem?_eq_some_iff.1 hj).1
 obtain ⟨_,⟨h0,_⟩ | ⟨b',off,c',e,_,hc⟩⟩:=hold_slr h
 ·have:=c.nb
  omega
 ·cases e
  have:=hc (p * 7+j) (by omega)
  rw [Nat.zero_add] at this
  rw [this,flat7_get (rowAt_len l es) hp hj7]
  unfold rowAt
  rw [ho]
  exact hj
end
end Go.Proofs.YtkmccgombmogmaaGreat
namespace Go.Proofs.YtkmccgombmogmaaGreat
open Go.RowKit
set_option linter.unusedVariables false
set_option linter.unusedSimpArgs false
set_option maxRecDepth 8000
def raceC (b:RB) (c:Cfg) (x:RaceS) : Array Value:=#[.int .i64 (c.n:Int),.int .i64 (c.q:Int),.int .i64 c.g,.int .i64 c.m,.int .i64 c.t,.int .i64 c.s,.pointer (some ⟨b.bm,0,none⟩),.slice (some ⟨b.bo,0,none⟩) c.n b.cp,.int .i64 x.pts,.bool x.bad]
theorem there_in (m:Nat) {b:RB} {c:Cfg} {x:RaceS} {w:World} (hb:w.heap[b.br]? = some (Obj.cells (raceC b c x) 73 (0,0))) (p:Int) :
  CallsIn Fence.wide m Tryz.prog 32 #[.pointer (some ⟨b.br,0,none⟩),.int .i64 p] w fun e w'=>e=.returned (.bool (decide (0≤p∧p < (c.n:Int))))∧w'=w:=by
 refine callsIn_of_wp Tryz.func32 rfl trivial ?_ rfl
 simp only [Tryz.ntmps32,List.size_toArray,List.length_cons,List.length_nil,Nat.reduceAdd,Nat.reduceSub,Array.replicate_succ,Array.replicate_zero,List.push_toArray,List.append_toArray,List.nil_append,List.cons_append]
 have e7:w.cell? ⟨b.br,7,none⟩=some (.slice (some ⟨b.bo,0,none⟩) c.n b.cp):=cell_of hb 7 _ rfl
 obtain ⟨bz,hbz⟩ : ∃ bz,decide (0≤p∧p < (c.n:Int))=bz:=⟨_,rfl⟩
 rw [hbz]
 by_cases h1:0≤p
 ·have hg:p ≥ 0:=h1
  by_cases h2:p < (c.n:Int)
  ·obtain rfl:bz=true:=by rw [← hbz]; simp [h1,h2]
   clear hbz
   gi_wp2
   exact bodyPost_ret (results_tmp rfl _ _ _) rfl ⟨rfl,rfl⟩
  ·obtain rfl:bz=false:=by rw [← hbz]; simp [h2]
   clear hbz
   gi_wp2
   exact bodyPost_ret (results_tmp rfl _ _ _) rfl ⟨rfl,rfl⟩
 ·have hg:¬ p ≥ 0:=h1
  obtain rfl:bz=false:=by rw [← hbz]; simp [h1]
  clear hbz
  gi_wp2
  exact bodyPost_ret (results_tmp rfl _ _ _) rfl ⟨rfl,rfl⟩
def MvB (mv:Value) (bz:Bool) : Prop:=(mv=.nilIface∧bz=false)∨∃ t v,mv=.iface t v∧bz=true
theorem busy_in (m:Nat) {b:RB} {c:Cfg} {x:RaceS} {w:World} (hb:w.heap[b.br]? = some (Obj.cells (raceC b c x) 73 (0,0))) {p:Nat} (hp:p < c.n) {mv:Value} {bz:Bool} (hc:w.cell? ⟨b.bo,p * 7+3,none⟩=some mv) (hm:MvB mv bz) :
  CallsIn Fence.wide m Tryz.prog 12 #[.pointer (some ⟨b.br,0,none⟩),.int .i64 (p:Int)] w fun e w'=>e=.returned (.bool bz)∧w'=w:=by
 refine callsIn_of_wp Tryz.func12 rfl trivial ?_ rfl
 simp only [Tryz.ntmps12,List.size_toArray,List.length_cons,List.length_nil,Nat.reduceAdd,Nat.reduceSub,Array.replicate_succ,Array.replicate_zero,List.push_toArray,List.append_toArray,List.nil_append,List.cons_append]
 have e7:w.cell? ⟨b.br,7,none⟩=some (.slice (some ⟨b.bo,0,none⟩) c.n b.cp):=cell_of hb 7 _ rfl
 have hpI:(p:Int) < (c.n:Int):=by omega
 have ed:decide (0≤(p:Int)∧(p:Int) < (c.n:Int))=true:=by simp [hp]
 gi_wp2
 refine ⟨trivial,fun h=>by simp [Fence.wide] at h,(there_in (m - 1) hb (p:Int)).mono ?_⟩
 rintro e w' ⟨rfl,rfl⟩
 rw [ed]
 rcases hm with ⟨rfl,rfl⟩ | ⟨t,v,rfl,rfl⟩
 ·gi_wp2
  exact bodyPost_ret (results_tmp rfl _ _ _) rfl ⟨rfl,rfl⟩
 ·gi_wp2
  exact bodyPost_ret (results_tmp rfl _ _ _) rfl ⟨rfl,rfl⟩
end Go.Proofs.YtkmccgombmogmaaGreat
namespace Go.Proofs.YtkmccgombmogmaaGreat
open Go.RowKit
set_option linter.unusedVariables false
set_option linter.unusedSimpArgs false
set_option maxRecDepth 8000
theorem u64_cell {n:Nat} {a:Option Addr} {k:Nat} {xs:List Int} {w:World} (h:Ev.SlR 1 (.slice a n k) n (u64s xs) w) {j:Nat} (hj:j < n) : ∃ b off,a=some ⟨b,off,none⟩∧w.cell? ⟨b,off+j,none⟩=some (.int .u64 (xs.getD j 0)):=by
 obtain ⟨hl,⟨h0,_⟩ | ⟨b,off,c,hv,_,hc⟩⟩:=h
 ·omega
 ·cases hv
  refine ⟨b,off,rfl,?_⟩
  rw [hc j (by omega)]
  have:j < xs.length:=by simp [u64s] at hl; omega
  simp [u64s,List.getD_eq_getElem?_getD,this]
theorem u32_cell {n:Nat} {a:Option Addr} {k:Nat} {xs:List Int} {w:World} (h:Ev.SlR 1 (.slice a n k) n (u32s xs) w) {j:Nat} (hj:j < n) : ∃ b off,a=some ⟨b,off,none⟩∧w.cell? ⟨b,off+j,none⟩=some (.int .u32 (xs.getD j 0)):=by
 obtain ⟨hl,⟨h0,_⟩ | ⟨b,off,c,hv,_,hc⟩⟩:=h
 ·omega
 ·cases hv
  refine ⟨b,off,rfl,?_⟩
  rw [hc j (by omega)]
  have:j < xs.length:=by simp [u32s] at hl; omega
  simp [u32s,List.getD_eq_getElem?_getD,this]
theorem slr_ownU {w:World} {n k:Nat} {v:Value} {l:List Int} (h:w.ownsRow n 95 1 v k (u32s l)) : Ev.SlR 1 v k (u32s l) w:=by
 refine ⟨h.1,?_⟩
 have h0:=h
 rcases h.2 with ⟨rfl,e⟩ | ⟨g,cap,cur,rfl,_,hg,hcap,_⟩
 ·exact .inl ⟨e,_,_,rfl⟩
 ·refine .inr ⟨g,0,cap,rfl,⟨(Array.getElem?_eq_some_iff.1 hg).1,hcap⟩,fun j hj=>?_⟩
  have hj':j < (u32s l).length:=by rw [h0.1]; exact hj
  have:=h0.cells (g:=g) rfl j _ (List.getElem?_eq_getElem hj')
  rw [show (⟨g,0,none⟩ : Addr).add j=⟨g,0+j,none⟩ from Ev.addMk g 0 j] at this
  rw [this,List.getElem?_eq_getElem hj']
theorem places_bd {x:Int} : (placesW x).length≤65536∧∀ j,0≤(placesW x).getD j 0:=by
 have hzb:=szW_bd x
 refine ⟨?_,fun j=>?_⟩
 ·unfold placesW
  split
  ·simp
  ·simp; omega
 ·rw [List.getD_eq_getElem?_getD]
  cases h:(placesW x)[j]? with
  | none=>exact Int.le_refl 0
  | some g =>
   have hmem:=List.mem_of_getElem? h
   unfold placesW at hmem
   split at hmem
   ·cases hmem
   ·obtain ⟨i,_,ei⟩:=List.mem_map.1 hmem
    show 0≤g
    rw [← ei]
    exact Int.emod_nonneg _ (by decide)
set_option maxHeartbeats 4000000 in
theorem ring_in (m:Nat) {b:RB} {c:Cfg} {x:RaceS} {p:Nat} (hp:p < c.n) (hm:MemOk c x.m) {F:Nat→Prop} {w:World} (h:Ev.Now [raceV b c x,memA b.bm x.m] F w) :
  CallsIn Fence.wide m Tryz.prog 15 #[.pointer (some ⟨b.br,0,none⟩),.int .i64 (p:Int)] w fun e w'=>∃ v,Ev.leafV v=true∧e=.returned v∧Ev.Hold ⟨w,F⟩ [isA v (ringL c x.m p),raceV b c x,memA b.bm x.m] w':=by
 refine callsIn_of_wp Tryz.func15 rfl trivial ?_ rfl
 simp only [Tryz.ntmps15,List.size_toArray,List.length_cons,List.length_nil,Nat.reduceAdd,Nat.reduceSub,Array.replicate_succ,Array.replicate_zero,List.push_toArray,List.append_toArray,List.nil_append,List.cons_append]
 have hb:=hold_blk (Ev.Hold.start h)
 have e6:w.cell? ⟨b.br,6,none⟩=some (.pointer (some ⟨b.bm,0,none⟩)):=cell_of hb 6 _ rfl
 have ed:decide (0≤(p:Int)∧(p:Int) < (c.n:Int))=true:=by simp [hp]
 obtain ⟨F1,k1,back⟩:=hold_fr (ctx:=⟨w,F⟩) (rest:=[raceV b c x]) [memA b.bm x.m] ((Ev.Hold.start h).sel [1,0] (by kernel_rfl))
 have hbig:x.m.cells.length≤1000000:=by have:=hm.big; omega
 gi_wp2
 refine ⟨trivial,fun h=>by simp [Fence.wide] at h,(there_in (m - 1) hb (p:Int)).mono ?_⟩
 rintro e w' ⟨rfl,rfl⟩
 rw [ed]
 gi_wp2
 refine ⟨trivial,fun h=>by simp [Fence.wide] at h,(mem_all (m - 1) hbig k1).mono ?_⟩
 rintro e w2 ⟨v,lv,rfl,hh⟩
 have hH:=back _ _ hh
 have hsl:=hold_slr hH
 obtain ⟨a0,c0,rfl⟩:=slr_val hsl
 have hb2:=hold_blk (hH.sel [2] (by kernel_rfl))
 have e0:w2.cell? ⟨b.br,0,none⟩=some (.int .i64 (c.n:Int)):=cell_of hb2 0 _ rfl
 have e1:w2.cell? ⟨b.br,1,none⟩=some (.int .i64 (c.q:Int)):=cell_of hb2 1 _ rfl
 have e2:w2.cell? ⟨b.br,2,none⟩=some (.int .i64 c.g):=cell_of hb2 2 _ rfl
 have e3:w2.cell? ⟨b.br,3,none⟩=some (.int .i64 c.m):=cell_of hb2 3 _ rfl
 have e4:w2.cell? ⟨b.br,4,none⟩=some (.int .i64 c.t):=cell_of hb2 4 _ rfl
 have e5:w2.cell? ⟨b.br,5,none⟩=some (.int .i64 c.s):=cell_of hb2 5 _ rfl
 obtain ⟨L,hL⟩ : ∃ L,x.m.cells.length=L:=⟨_,rfl⟩
 rw [hL] at hsl
 have hwl:=hm.lt_word hp
 rw [hL] at hwl ⊢
 have hwlI:((c.word p:Nat) : Int) < (L:Int):=by omega
 gi_wp2
 refine ⟨trivial,fun h=>by simp [Fence.wide] at h,(callsIn_wide.2 (word_ok c p hp w2)).mono ?_⟩
 rintro e w3 ⟨rfl,B3⟩
 have hH3:=hold_keep hH B3
 obtain ⟨ba,oa,rfl,g0⟩:=u64_cell (slr_stay hsl B3) hwl
 have hwd:x.m.cells.getD (c.word p) 0=wd c x.m p:=rfl
 rw [hwd] at g0
 have hwu:U64 (wd c x.m p):=(hm.get (hm.lt_word hp)).2
 have hzb:=szW_bd (wd c x.m p)
 gi_wp2
 refine ⟨trivial,fun h=>by simp [Fence.wide] at h,(callsIn_wide.2 (wLen (wd c x.m p) hwu w3)).mono ?_⟩
 rintro e w4 ⟨rfl,rfl⟩
 gi_wp2
 refine ⟨trivial,fun h=>by simp [Fence.wide] at h,(places_in (m - 1) (wd c x.m p) hwu w3).mono ?_⟩
 rintro e w5 ⟨vp,rfl,op,B5⟩
 obtain ⟨ap,cp,rfl⟩:=own_val op
 have hH5:=hold_keep hH3 B5
 obtain ⟨pb1,pb2⟩:=places_bd (x:=wd c x.m p)
 have hrl:ringL c x.m p=(placesW (wd c x.m p)).map (fun i=>IntKind.i64.wrap (ld x.m (c.slot p i))):=rfl
 obtain ⟨f,hf⟩ : ∃ f:Int→Int,(fun i=>IntKind.i64.wrap (ld x.m (c.slot p i)))=f:=⟨_,rfl⟩
 rw [hf] at hrl
 obtain ⟨PL,hPL⟩ : ∃ PL,placesW (wd c x.m p)=PL:=⟨_,rfl⟩
 rw [hPL] at op pb1 pb2 hrl ⊢
 obtain ⟨N,hN⟩ : ∃ N,PL.length=N:=⟨_,rfl⟩
 rw [hN] at op pb1 ⊢
 have A:Aside (∀ j,0≤PL.getD j 0):=pb2
 clear pb2
 gi_wp2
 gi_loopw [4,32] (fun q r wr=>∃ k:Nat,r=.int .i64 (k:Int)∧k≤N∧wr.ownsRow w5.heap.size 3 1 q k (ints ((PL.take k).map f))∧Below w5.heap.size w5 wr) (fun _ r _=>N - (intOf r).toNat)
 case atStart=>exact ⟨0,rfl,Nat.zero_le _,World.ownsRow_nil _ _ _ _,Below.refl _ _⟩
 case round =>
  obtain ⟨k,rfl,hk,ho,hB⟩:=hrel
  by_cases hlt:k < N
  ·have hlI:(k:Int) < (N:Int):=by omega
   obtain ⟨b1,o1,rfl,g1⟩:=u32_cell (slr_stay (slr_ownU op) hB) hlt
   obtain ⟨i,hi⟩ : ∃ i,PL.getD k 0=i:=⟨_,rfl⟩
   have hi0:=A.out k
   rw [hi] at g1 hi0
   have hHr:=hold_keep hH5 hB
   have hbr:=hold_blk (hHr.sel [2] (by kernel_rfl))
   have e0:wr.cell? ⟨b.br,0,none⟩=some (.int .i64 (c.n:Int)):=cell_of hbr 0 _ rfl
   have e1:wr.cell? ⟨b.br,1,none⟩=some (.int .i64 (c.q:Int)):=cell_of hbr 1 _ rfl
   have e2:wr.cell? ⟨b.br,2,none⟩=some (.int .i64 c.g):=cell_of hbr 2 _ rfl
   have e3:wr.cell? ⟨b.br,3,none⟩=some (.int .i64 c.m):=cell_of hbr 3 _ rfl
   have e4:wr.cell? ⟨b.br,4,none⟩=some (.int .i64 c.t):=cell_of hbr 4 _ rfl
   have e5:wr.cell? ⟨b.br,5,none⟩=some (.int .i64 c.s):=cell_of hbr 5 _ rfl
   gi_wp2
   refine ⟨trivial,fun h=>by simp [Fence.wide] at h,(callsIn_wide.2 (slot_ok c p hp i hi0 wr)).mono ?_⟩
   rintro e w6 ⟨rfl,B6⟩
   have hB6:Below w5.heap.size w5 w6:=hB.trans (B6.mono hB.size)
   have hsl2:c.slot p i < L:=by rw [← hL]; exact hm.lt_slot hp i
   have hslI:((c.slot p i:Nat) : Int) < (L:Int):=by omega
   obtain ⟨b2,o2,hv2,g2⟩:=u64_cell (slr_stay (slr_stay (slr_stay hsl B3) B5) hB6) hsl2
   cases hv2
   obtain ⟨z,hz⟩ : ∃ z,x.m.cells.getD (c.slot p i) 0=z:=⟨_,rfl⟩
   obtain ⟨y,hy⟩ : ∃ y,wrap64 z=y:=⟨_,rfl⟩
   have hy2:IntKind.i64.wrap z=y:=by rw [← hy]; rw [IntKind.wrap_i64]; unfold wrap64; rfl
   rw [hz] at g2
   have ho6:=own_stay ho B6
   obtain ⟨W7,hW7⟩ : ∃ W7,w6.alloc (.cells #[.int .i64 y] 3)=W7:=⟨_,rfl⟩
   have hB7:Below w5.heap.size w5 W7:=by rw [← hW7]; exact hB6.alloc hB6.size _
   have hsr:Ev.SlR 1 (.slice (some ⟨w6.heap.size,0,none⟩) 1 1) 1 [.int .i64 y] W7:=⟨rfl,.inr ⟨_,0,1,rfl,⟨by rw [← hW7]; simp,Nat.le_refl _⟩,fun j hj=>by
    obtain rfl:j=0:=by omega
    rw [← hW7]
    exact cell_of (World.alloc_heap_new w6 _) 0 _ rfl⟩⟩
   have ho7:=ho6.alloc (.cells #[.int .i64 y] 3)
   rw [hW7] at ho7
   obtain ⟨i0,hi',hz1,hz0,hz2⟩:=infInt
   obtain ⟨v',w8,q1,q2,q3⟩:=app_slr 35 35 3 Tryz.underlying35 hi' hz0 hz1 hz2 rfl (by decide) ho7 hsr (by simp [Value.oneCell']) (by unfold maxLen; omega) (by omega) hB7.size
   gi_wp2_with (gi_at_builtin; refine wpListIn_append_run rfl _ _ _ rfl q1 ?_)
   refine ⟨⟨k+1,rfl,by omega,?_,below_own ho7 hB7 hB7.size q3⟩,by simp [intOf]; omega⟩
   have hky:((PL.take (k+1)).map f)=(PL.take k).map f++[y]:=by
    have hkl:k < PL.length:=by omega
    rw [List.take_add_one,List.getElem?_eq_getElem hkl,List.map_append]
    congr 1
    have:PL[k]=i:=by rw [← hi,List.getD_eq_getElem?_getD,List.getElem?_eq_getElem hkl]; rfl
    rw [this,← hy2,← hz,← hf]
    rfl
   rw [hky]
   simpa [ints] using q2
  ·obtain rfl:k=N:=by omega
   have hlI:¬ ((k:Nat) : Int) < (k:Int):=by omega
   have hHr:=hold_keep hH5 hB
   gi_wp2
   rw [show PL.take k=PL by rw [← hN,List.take_length]] at ho
   have hfin:=(hold_own hH5 ho hB).sel [0,3,2] (by kernel_rfl)
   have e9:isA u4 (PL.map f)=Ev.slA 3 1 u4 k (ints (PL.map f)):=by
    unfold isA
    rw [List.length_map,hN]
   refine bodyPost_ret (results_tmp rfl _ _ _) rfl ⟨_,hold_leaf hfin,rfl,?_⟩
   first | rw [hrl,e9] | rw [e9]
   exact hfin
end Go.Proofs.YtkmccgombmogmaaGreat
namespace Go.Proofs.YtkmccgombmogmaaGreat
open Go.RowKit
set_option linter.unusedVariables false
set_option linter.unusedSimpArgs false
set_option maxRecDepth 8000
def ownL (c:Cfg) (p:Nat) (o:OwnS) (e:OwnV) : List Ev.Asr:=[dqA c e.d o.dq,macA c p e.mv o.mac,isA e.rv o.rs]
section
variable {ctx:Ev.Ctx} {w:World} {r:List Ev.Asr} {c:Cfg} {l:List OwnS} {es:Nat→OwnV} {p:Nat} {o:OwnS}
theorem own_fr (a:List Ev.Asr) (hp:p < c.n) (hl:p < l.length) (ho:l[p]? = some o) (h:Ev.Hold ctx (ownsL c l es++(a++r)) w) :
  ∃ F,Ev.Now (ownL c p o (es p)++a) F w∧∀ (o':OwnS) (e':OwnV) (m:List Ev.Asr) (w':World),Ev.Hold ⟨w,F⟩ (ownL c p o' e'++m) w'→Ev.Hold ctx (ownsL c (l.set p o') (esAt es p e')++(m++r)) w':=by
 have h1:=(own_out hp ho h).open
 have h2:Ev.Hold ctx ((ownL c p o (es p)++a)++((ownsL c l es).eraseIdx p++r)) w:=by
  refine hold_perm ?_ h1
  show (ownL c p o (es p)++_).Perm _
  rw [List.append_assoc]
  refine List.Perm.append_left _ ?_
  rw [← List.append_assoc,← List.append_assoc]
  exact List.perm_append_comm.append_right _
 obtain ⟨F,k1,back⟩:=hold_fr _ h2
 refine ⟨F,k1,fun o' e' m w' hh=>?_⟩
 have h3:=back _ _ hh
 have h4:Ev.Hold ctx (ownL c p o' e'++((ownsL c l es).eraseIdx p++(m++r))) w':=by
  refine hold_perm ?_ h3
  rw [List.append_assoc]
  refine List.Perm.append_left _ ?_
  rw [← List.append_assoc,← List.append_assoc]
  exact List.perm_append_comm.append_right _
 exact own_in hp hl (Ev.Hold.shut h4)
end
theorem own_fr0 {ctx:Ev.Ctx} {w:World} {r:List Ev.Asr} {c:Cfg} {l:List OwnS} {es:Nat→OwnV} {p:Nat} {o:OwnS} (a:List Ev.Asr) (hp:p < c.n) (hl:p < l.length) (ho:l[p]? = some o) (h:Ev.Hold ctx (ownsL c l es++(a++r)) w) :
  ∃ F,Ev.Now (ownL c p o (es p)++a) F w∧∀ (m:List Ev.Asr) (w':World),Ev.Hold ⟨w,F⟩ (ownL c p o (es p)++m) w'→Ev.Hold ctx (ownsL c l es++(m++r)) w':=by
 obtain ⟨F,k1,k2⟩:=own_fr a hp hl ho h
 refine ⟨F,k1,fun m w' hh=>?_⟩
 have:=k2 o (es p) m w' hh
 rw [esAt_id] at this
 rwa [show l.set p o=l from by
  obtain ⟨h1,h2⟩:=List.getElem?_eq_some_iff.1 ho
  rw [← h2]
  exact List.set_getElem_self h1] at this
theorem mac_none {ctx:Ev.Ctx} {w:World} {r:List Ev.Asr} {c:Cfg} {p:Nat} {mv:Value} (h:Ev.Hold ctx (macA c p mv none::r) w) : mv=.nilIface:=by
 obtain ⟨_,e,_⟩:=h.getX
 exact e
theorem mac_put {ctx:Ev.Ctx} {w:World} {r:List Ev.Asr} {c:Cfg} {p:Nat} {mv:Value} {u:PutS} (h:Ev.Hold ctx (macA c p mv (some (.put u))::r) w) : ∃ bp,mv=.iface 81 (.pointer (some ⟨bp,0,none⟩))∧Ev.Hold ctx (putA c p bp u::r) w:=h.getX
theorem mac_get {ctx:Ev.Ctx} {w:World} {r:List Ev.Asr} {c:Cfg} {p:Nat} {mv:Value} {u:GetS} (h:Ev.Hold ctx (macA c p mv (some (.get u))::r) w) : ∃ bp,mv=.iface 83 (.pointer (some ⟨bp,0,none⟩))∧Ev.Hold ctx (getA c p bp u::r) w:=h.getX
theorem mac_steal {ctx:Ev.Ctx} {w:World} {r:List Ev.Asr} {c:Cfg} {p v:Nat} {mv:Value} {u:StealS} (h:Ev.Hold ctx (macA c p mv (some (.steal v u))::r) w) : ∃ bp,mv=.iface 85 (.pointer (some ⟨bp,0,none⟩))∧Ev.Hold ctx (stealA c p v bp u::r) w:=h.getX
theorem put_mac {ctx:Ev.Ctx} {w:World} {r:List Ev.Asr} {c:Cfg} {p bp:Nat} {u:PutS} (h:Ev.Hold ctx (putA c p bp u::r) w) : Ev.Hold ctx (macA c p (.iface 81 (.pointer (some ⟨bp,0,none⟩))) (some (.put u))::r) w:=Ev.Hold.putX (a:=fun bp=>putA c p bp u) bp rfl h
theorem get_mac {ctx:Ev.Ctx} {w:World} {r:List Ev.Asr} {c:Cfg} {p bp:Nat} {u:GetS} (h:Ev.Hold ctx (getA c p bp u::r) w) : Ev.Hold ctx (macA c p (.iface 83 (.pointer (some ⟨bp,0,none⟩))) (some (.get u))::r) w:=Ev.Hold.putX (a:=fun bp=>getA c p bp u) bp rfl h
theorem steal_mac {ctx:Ev.Ctx} {w:World} {r:List Ev.Asr} {c:Cfg} {p v bp:Nat} {u:StealS} (h:Ev.Hold ctx (stealA c p v bp u::r) w) : Ev.Hold ctx (macA c p (.iface 85 (.pointer (some ⟨bp,0,none⟩))) (some (.steal v u))::r) w:=Ev.Hold.putX (a:=fun bp=>stealA c p v bp u) bp rfl h
theorem mac_val {ctx:Ev.Ctx} {w:World} {r:List Ev.Asr} {c:Cfg} {p:Nat} {mv:Value} {M:Option MacS} (h:Ev.Hold ctx (macA c p mv M::r) w) : MvB mv M.isSome:=by
 match M with
 | none=>exact .inl ⟨mac_none h,rfl⟩
 | some (.put u)=>obtain ⟨bp,e,_⟩:=mac_put h; exact .inr ⟨_,_,e,rfl⟩
 | some (.get u)=>obtain ⟨bp,e,_⟩:=mac_get h; exact .inr ⟨_,_,e,rfl⟩
 | some (.steal v u)=>obtain ⟨bp,e,_⟩:=mac_steal h; exact .inr ⟨_,_,e,rfl⟩
theorem put_hands_in (m:Nat) {w:World} {F:Nat→Prop} {c:Cfg} {p:Nat} (hp:p < c.n) {x:PutS} (hx:PutOk c x) {bp:Nat} (h:Ev.Now [putA c p bp x] F w) : CallsIn Fence.wide m Tryz.prog 137 #[.pointer (some ⟨bp,0,none⟩)] w fun e w'=>∃ v,e=.returned v∧Ev.Hold ⟨w,F⟩ [isA v x.hs,putA c p bp x] w' :=
 hands_put m hx.hs (Ev.Hold.start h)
theorem now_first {a:Ev.Asr} {l:List Ev.Asr} {F:Nat→Prop} {w:World} (h:Ev.Hold ⟨w,F⟩ (a::l) w) : ∃ F1,Ev.Now [a] F1 w∧∀ m w',Ev.Hold ⟨w,F1⟩ m w'→Ev.Hold ⟨w,F⟩ (m++l) w':=hold_fr (lp:=[a]) h
theorem mac_hands (n:Nat) {c:Cfg} {p:Nat} (hp:p < c.n) {M:MacS} (hM:MacOk c p M) {mm:MemM} (hm:MemOk c mm) {mv:Value} {F:Nat→Prop} {w:World} (h:Ev.Now [macA c p mv (some M)] F w) :
  ∃ T bp f,mv=.iface T (.pointer (some ⟨bp,0,none⟩))∧(∀ w,(method 343 T (.pointer (some ⟨bp,0,none⟩)) "Hands").run Tryz.prog w=.ok (f,.pointer (some ⟨bp,0,none⟩)) w)∧(∀ ar w,(callFunc f ar).run Tryz.prog w=.ok (.enter f ar) w)∧CallsIn Fence.wide n Tryz.prog f #[.pointer (some ⟨bp,0,none⟩)] w fun e w'=>∃ v,e=.returned v∧Ev.Hold ⟨w,F⟩ [macA c p mv (some M),isA v M.hands] w':=by
 cases M with
 | put u =>
  obtain ⟨bp,rfl,hh⟩:=mac_put (Ev.Hold.start h)
  obtain ⟨F1,k1,back⟩:=now_first hh
  refine ⟨_,bp,_,rfl,fun w=>meth_putHands bp w,fun ar w=>by kernel_rfl,(put_hands_in n hp hM k1).mono (fun e w' ⟨v,e1,h2⟩=>⟨v,e1,?_⟩)⟩
  exact put_mac ((back _ _ h2).sel [1,0] (by kernel_rfl))
 | get u =>
  obtain ⟨bp,rfl,hh⟩:=mac_get (Ev.Hold.start h)
  obtain ⟨F1,k1,back⟩:=now_first hh
  refine ⟨_,bp,_,rfl,fun w=>meth_getHands bp w,fun ar w=>by kernel_rfl,(hands_get n (Ev.Hold.start k1)).mono (fun e w' ⟨v,e1,h2⟩=>⟨v,e1,?_⟩)⟩
  exact get_mac ((back _ _ h2).sel [1,0] (by kernel_rfl))
 | steal v u =>
  obtain ⟨bp,rfl,hh⟩:=mac_steal (Ev.Hold.start h)
  obtain ⟨F1,k1,back⟩:=now_first hh
  refine ⟨_,bp,_,rfl,fun w=>meth_stealHands bp w,fun ar w=>by kernel_rfl,(steal_hands n hp hM.2.1 hM.1 hm k1).mono (fun e w' ⟨v,lv,e1,h2⟩=>⟨v,e1,?_⟩)⟩
  exact steal_mac ((back _ _ h2).sel [1,0] (by kernel_rfl))
theorem mac_step {c:Cfg} {p:Nat} (hp:p < c.n) {M:MacS} (hM:MacOk c p M) (h0:M.st ≠ 0) {mm:MemM} (hm:MemOk c mm) (hs:SlotsOk c mm) {mv:Value} {bm:Nat} {F:Nat→Prop} {w:World} (h:Ev.Now [macA c p mv (some M),memA bm mm] F w) :
  ∃ T bp f,mv=.iface T (.pointer (some ⟨bp,0,none⟩))∧(∀ w,(callMethod (.iface T (.pointer (some ⟨bp,0,none⟩))) "Step" #[.pointer (some ⟨bm,0,none⟩)]).run Tryz.prog w=.ok (.enter f #[.pointer (some ⟨bp,0,none⟩),.pointer (some ⟨bm,0,none⟩)]) w)∧Calls Tryz.prog f #[.pointer (some ⟨bp,0,none⟩),.pointer (some ⟨bm,0,none⟩)] w fun e w'=>e=.returned (.bool (decide ((M.step c p mm).1.st=0)))∧Ev.Hold ⟨w,F⟩ [macA c p mv (some (M.step c p mm).1),memA bm (M.step c p mm).2] w':=by
 cases M with
 | put u =>
  obtain ⟨bp,rfl,hh⟩:=mac_put (Ev.Hold.start h)
  obtain ⟨F1,k1,back⟩:=hold_fr (rest:=[]) [putA c p bp u,memA bm mm] hh
  exact ⟨_,bp,_,rfl,fun w=>inv_putStep bp _ w,(put_step hp hM h0 hm k1).mono (fun e w' ⟨e1,h2⟩=>⟨e1,put_mac (back _ _ h2)⟩)⟩
 | get u =>
  obtain ⟨bp,rfl,hh⟩:=mac_get (Ev.Hold.start h)
  obtain ⟨F1,k1,back⟩:=hold_fr (rest:=[]) [getA c p bp u,memA bm mm] hh
  exact ⟨_,bp,_,rfl,fun w=>inv_getStep bp _ w,(get_step hp hM h0 hm k1).mono (fun e w' ⟨e1,h2⟩=>⟨e1,get_mac (back _ _ h2)⟩)⟩
 | steal v u =>
  obtain ⟨bp,rfl,hh⟩:=mac_steal (Ev.Hold.start h)
  obtain ⟨F1,k1,back⟩:=hold_fr (rest:=[]) [stealA c p v bp u,memA bm mm] hh
  exact ⟨_,bp,_,rfl,fun w=>inv_stealStep bp _ w,(steal_step hp hM.2.1 hM.1 h0 hm k1).mono (fun e w' ⟨e1,h2⟩=>⟨e1,steal_mac (back _ _ h2)⟩)⟩
end Go.Proofs.YtkmccgombmogmaaGreat
namespace Go.Proofs.YtkmccgombmogmaaGreat
open Go.RowKit
set_option linter.unusedVariables false
set_option linter.unusedSimpArgs false
set_option maxRecDepth 8000
section
variable {ctx:Ev.Ctx} {w:World} {r:List Ev.Asr} {b:RB} {c:Cfg} {x:RaceS} {es:Nat→OwnV}
theorem race_blk (h:Ev.Hold ctx (raceL b c x es++r) w) : w.heap[b.br]? = some (Obj.cells (raceC b c x) 73 (0,0)):=hold_blk h
theorem race_rows (h:Ev.Hold ctx (raceL b c x es++r) w) : Ev.Hold ctx (rowsA b c x.ow es::(raceV b c x::memA b.bm x.m::(ownsL c x.ow es++r))) w:=by
 refine hold_perm ?_ h
 show (raceV b c x::memA b.bm x.m::rowsA b c x.ow es::(ownsL c x.ow es++r)).Perm _
 exact ((List.Perm.swap _ _ _).cons _).trans (List.Perm.swap _ _ _)
theorem race_owns (h:Ev.Hold ctx (raceL b c x es++r) w) : Ev.Hold ctx (ownsL c x.ow es++(raceT b c x es++r)) w:=by
 refine hold_perm ?_ h
 show ((raceT b c x es++ownsL c x.ow es)++r).Perm _
 rw [← List.append_assoc]
 exact List.perm_append_comm.append_right _
theorem owns_race (h:Ev.Hold ctx (ownsL c x.ow es++(raceT b c x es++r)) w) : Ev.Hold ctx (raceL b c x es++r) w:=by
 refine hold_perm ?_ h
 show List.Perm _ ((raceT b c x es++ownsL c x.ow es)++r)
 rw [← List.append_assoc]
 exact List.perm_append_comm.append_right _
end
set_option maxHeartbeats 1000000 in
theorem deque_in (m:Nat) {b:RB} {c:Cfg} {x:RaceS} {es:Nat→OwnV} {p:Nat} {o:OwnS} (hq:c.q≤8) (hp:p < c.n) (ho:x.ow[p]? = some o) (hd:DqOk c o.dq) {F:Nat→Prop} {w:World} (h:Ev.Now (raceL b c x es) F w) :
  CallsIn Fence.wide m Tryz.prog 18 #[.pointer (some ⟨b.br,0,none⟩),.int .i64 (p:Int)] w fun e w'=>∃ v,Ev.leafV v=true∧e=.returned v∧Ev.Hold ⟨w,F⟩ (raceL b c x es++[isA v (dqAll c o.dq)]) w':=by
 refine callsIn_of_wp Tryz.func18 rfl trivial ?_ rfl
 simp only [Tryz.ntmps18,List.size_toArray,List.length_cons,List.length_nil,Nat.reduceAdd,Nat.reduceSub,Array.replicate_succ,Array.replicate_zero,List.push_toArray,List.append_toArray,List.nil_append,List.cons_append]
 have hst:Ev.Hold ⟨w,F⟩ (raceL b c x es++[]) w:=by rw [List.append_nil]; exact Ev.Hold.start h
 have hb:=race_blk hst
 have e7:w.cell? ⟨b.br,7,none⟩=some (.slice (some ⟨b.bo,0,none⟩) c.n b.cp):=cell_of hb 7 _ rfl
 have e4:w.cell? ⟨b.bo,p * 7+4,none⟩=some (.pointer (some ⟨(es p).d,0,none⟩)):=rows_cell hp ho (race_rows hst) rfl
 have ed:decide (0≤(p:Int)∧(p:Int) < (c.n:Int))=true:=by simp [hp]
 have hpI:(p:Int) < (c.n:Int):=by omega
 have hlt:p < x.ow.length:=(List.getElem?_eq_some_iff.1 ho).1
 obtain ⟨F1,k1,back⟩:=own_fr0 (r:=raceT b c x es++[]) [] hp hlt ho (race_owns hst)
 rw [List.append_nil] at k1
 obtain ⟨F2,k2,back2⟩:=now_first (Ev.Hold.start k1)
 gi_wp2
 refine ⟨trivial,fun h=>by simp [Fence.wide] at h,(there_in (m - 1) hb (p:Int)).mono ?_⟩
 rintro e w' ⟨rfl,rfl⟩
 rw [ed]
 gi_wp2
 refine ⟨trivial,fun h=>by simp [Fence.wide] at h,(callsIn_wide.2 (dq_all hq hd k2)).mono ?_⟩
 rintro e w2 ⟨v,lv,rfl,hh⟩
 have h3:=back [isA v (dqAll c o.dq)] _ ((back2 _ _ hh).sel [1,2,3,0] (by kernel_rfl))
 gi_wp2
 refine bodyPost_ret (results_tmp rfl _ _ _) rfl ⟨_,lv,rfl,?_⟩
 have h4:Ev.Hold ⟨w',F⟩ (ownsL c x.ow es++(raceT b c x es++[isA v (dqAll c o.dq)])) w2:=by
  refine hold_perm ?_ h3
  refine List.Perm.append_left _ ?_
  rw [List.append_nil]
  exact List.perm_append_comm
 exact owns_race h4
set_option maxHeartbeats 1000000 in
theorem hands_in (m:Nat) {b:RB} {c:Cfg} {x:RaceS} {es:Nat→OwnV} {p:Nat} {o:OwnS} (hp:p < c.n) (ho:x.ow[p]? = some o) (hm:MemOk c x.m) (hM:∀ M,o.mac=some M→MacOk c p M) {F:Nat→Prop} {w:World} (h:Ev.Now (raceL b c x es) F w) :
  CallsIn Fence.wide m Tryz.prog 19 #[.pointer (some ⟨b.br,0,none⟩),.int .i64 (p:Int)] w fun e w'=>∃ v,Ev.leafV v=true∧e=.returned v∧Ev.Hold ⟨w,F⟩ (raceL b c x es++[isA v (handsO o)]) w':=by
 refine callsIn_of_wp Tryz.func19 rfl trivial ?_ rfl
 simp only [Tryz.ntmps19,List.size_toArray,List.length_cons,List.length_nil,Nat.reduceAdd,Nat.reduceSub,Array.replicate_succ,Array.replicate_zero,List.push_toArray,List.append_toArray,List.nil_append,List.cons_append]
 have hst:Ev.Hold ⟨w,F⟩ (raceL b c x es++[]) w:=by rw [List.append_nil]; exact Ev.Hold.start h
 have hb:=race_blk hst
 have e7:w.cell? ⟨b.br,7,none⟩=some (.slice (some ⟨b.bo,0,none⟩) c.n b.cp):=cell_of hb 7 _ rfl
 obtain ⟨mv,hmv⟩ : ∃ mv,(es p).mv=mv:=⟨_,rfl⟩
 have e3:w.cell? ⟨b.bo,p * 7+3,none⟩=some mv:=rows_cell hp ho (race_rows hst) (by rw [← hmv]; rfl)
 have hpI:(p:Int) < (c.n:Int):=by omega
 have hlt:p < x.ow.length:=(List.getElem?_eq_some_iff.1 ho).1
 obtain ⟨F1,k1,back⟩:=own_fr0 (r:=raceT b c x es++[]) [] hp hlt ho (race_owns hst)
 rw [List.append_nil] at k1
 have k1':Ev.Hold ⟨w,F1⟩ [macA c p mv o.mac,dqA c (es p).d o.dq,isA (es p).rv o.rs] w:=by
  rw [← hmv]
  exact (Ev.Hold.start k1).sel [1,0,2] (by kernel_rfl)
 have hmvb:=mac_val k1'
 gi_wp2
 refine ⟨trivial,fun h=>by simp [Fence.wide] at h,(busy_in (m - 1) hb hp e3 hmvb).mono ?_⟩
 rintro e w' ⟨rfl,rfl⟩
 cases hmac:o.mac with
 | none =>
  have h2:Ev.Hold ⟨w',F⟩ ([Ev.slA 3 1 (.slice none 0 0) 0 []]++raceL b c x es) w':=(Ev.Hold.start h).nilSl (e := 3) (sz:=1)
  have eh:handsO o=[]:=by simp [handsO,hmac]
  gi_wp2
  refine bodyPost_ret (results_tmp rfl _ _ _) rfl ⟨.slice none 0 0,rfl,rfl,?_⟩
  rw [eh]
  exact hold_perm List.perm_append_comm h2
 | some M =>
  have eh:handsO o=M.hands:=by simp [handsO,hmac]
  rw [hmac] at k1'
  obtain ⟨F2,k2,back2⟩:=now_first k1'
  obtain ⟨T,bp,f,rfl,hmt,hcf,hcall⟩:=mac_hands (m - 1) hp (hM M hmac) hm k2
  clear hmvb
  replace hmt:=hmt w'
  gi_wp2
  refine ⟨trivial,fun h=>by simp [Fence.wide] at h,hcall.mono ?_⟩
  rintro e w2 ⟨v,rfl,hh⟩
  have h3:Ev.Hold ⟨w',F1⟩ (ownL c p o (es p)++[isA v M.hands]) w2:=by
   have h4:=(back2 _ _ hh).sel [2,0,3,1] (by kernel_rfl)
   unfold ownL
   rw [hmac,hmv]
   exact h4
  have lv:=hold_leaf ((back2 _ _ hh).sel [1] (by kernel_rfl))
  have h5:=back [isA v M.hands] _ h3
  gi_wp2
  refine bodyPost_ret (results_tmp rfl _ _ _) rfl ⟨_,lv,rfl,?_⟩
  rw [eh]
  have h6:Ev.Hold ⟨w',F⟩ (ownsL c x.ow es++(raceT b c x es++[isA v M.hands])) w2:=by
   refine hold_perm ?_ h5
   refine List.Perm.append_left _ ?_
   rw [List.append_nil]
   exact List.perm_append_comm
  exact owns_race h6
end Go.Proofs.YtkmccgombmogmaaGreat
namespace Go.Proofs.YtkmccgombmogmaaGreat
open Go.RowKit
set_option linter.unusedVariables false
set_option linter.unusedSimpArgs false
set_option maxRecDepth 8000
theorem holds_in (m:Nat) {b:RB} {c:Cfg} {x:RaceS} (is:Bool) {F:Nat→Prop} {w:World} (h:Ev.Now [raceV b c x] F w) :
  CallsIn Fence.wide m Tryz.prog 64 #[.pointer (some ⟨b.br,0,none⟩),.bool is] w fun e w'=>e=.returned (.tuple #[])∧Ev.Hold ⟨w,F⟩ [raceV b c (x.holds is)] w':=by
 refine callsIn_of_wp Tryz.func64 rfl trivial ?_ rfl
 simp only [Tryz.ntmps64,List.size_toArray,List.length_cons,List.length_nil,Nat.reduceAdd,Nat.reduceSub,Array.replicate_succ,Array.replicate_zero,List.push_toArray,List.append_toArray,List.nil_append,List.cons_append]
 have hst:=Ev.Hold.start h
 have hb:=hold_blk hst
 have e8:w.cell? ⟨b.br,8,none⟩=some (.int .i64 x.pts):=cell_of hb 8 _ rfl
 have f8:w.frozen? ⟨b.br,8,none⟩=false:=froz_of hb 8
 have h2:=hold_set 8 (.int .i64 (IntKind.i64.wrap (x.pts+1))) hst
 obtain ⟨y,hy⟩ : ∃ y,IntKind.i64.wrap (x.pts+1)=y:=⟨_,rfl⟩
 have hy2:wrap64 (x.pts+1)=y:=by rw [← hy,IntKind.wrap_i64]; unfold wrap64; rfl
 rw [hy] at h2
 obtain ⟨w2,hw2⟩ : ∃ w2,w.setCell ⟨b.br,8,none⟩ (.int .i64 y)=w2:=⟨_,rfl⟩
 rw [hw2] at h2
 have hb2:=hold_blk h2
 have e9:w2.cell? ⟨b.br,9,none⟩=some (.bool x.bad):=cell_of hb2 9 _ rfl
 have f9:w2.frozen? ⟨b.br,9,none⟩=false:=froz_of hb2 9
 have h3:=hold_set 9 (.bool (x.bad || !is)) h2
 have hx:Ev.Hold ⟨w,F⟩ [raceV b c (x.holds is)] (w2.setCell ⟨b.br,9,none⟩ (.bool (x.bad || !is))):=by
  unfold raceV RaceS.holds
  rw [hy]
  exact h3
 cases hbad:x.bad with
 | false =>
  rw [hbad] at e9 hx
  gi_wp2
  exact bodyPost_end (results_none rfl _ _ _) rfl ⟨rfl,by simpa using hx⟩
 | true =>
  rw [hbad] at e9 hx
  gi_wp2
  exact bodyPost_end (results_none rfl _ _ _) rfl ⟨rfl,by simpa using hx⟩
theorem own_mac {ctx:Ev.Ctx} {w:World} {r:List Ev.Asr} {b:RB} {c:Cfg} {x:RaceS} {es:Nat→OwnV} {p:Nat} {o:OwnS} (hp:p < c.n) (ho:x.ow[p]? = some o) (h:Ev.Hold ctx (r++raceL b c x es) w) :
  ∃ F,Ev.Now [macA c p (es p).mv o.mac] F w∧∀ (m:List Ev.Asr) (w':World),Ev.Hold ⟨w,F⟩ (macA c p (es p).mv o.mac::m) w'→Ev.Hold ctx (r++(m++raceL b c x es)) w':=by
 have hlt:p < x.ow.length:=(List.getElem?_eq_some_iff.1 ho).1
 obtain ⟨F1,k1,back⟩:=own_fr0 (r:=raceT b c x es++r) [] hp hlt ho (race_owns (hold_perm List.perm_append_comm h))
 rw [List.append_nil] at k1
 have k1':Ev.Hold ⟨w,F1⟩ [macA c p (es p).mv o.mac,dqA c (es p).d o.dq,isA (es p).rv o.rs] w:=(Ev.Hold.start k1).sel [1,0,2] (by kernel_rfl)
 obtain ⟨F2,k2,back2⟩:=now_first k1'
 refine ⟨F2,k2,fun m w' hh=>?_⟩
 have h1:Ev.Hold ⟨w,F1⟩ (ownL c p o (es p)++m) w':=hold_perm (perm_of (fun f=>by simp only [ownL,List.cons_append,List.map_append,List.map_cons,List.map_nil,List.sum_append,List.sum_cons,List.sum_nil,List.nil_append]; omega)) (back2 _ _ hh)
 exact hold_perm (perm_of (fun f=>by simp only [raceL,List.map_append,List.sum_append]; omega)) (back m w' h1)
section
variable (b:Nat) (w:World)
theorem ta_pp:(Instr.typeAssert (.iface 81 (.pointer (some ⟨b,0,none⟩))) 78 81 true).run Tryz.prog w=.ok (.tuple #[.pointer (some ⟨b,0,none⟩),.bool true]) w:=by kernel_rfl
theorem ta_ps:(Instr.typeAssert (.iface 81 (.pointer (some ⟨b,0,none⟩))) 78 85 true).run Tryz.prog w=.ok (.tuple #[.pointer none,.bool false]) w:=by kernel_rfl
theorem ta_gp:(Instr.typeAssert (.iface 83 (.pointer (some ⟨b,0,none⟩))) 78 81 true).run Tryz.prog w=.ok (.tuple #[.pointer none,.bool false]) w:=by kernel_rfl
theorem ta_gg:(Instr.typeAssert (.iface 83 (.pointer (some ⟨b,0,none⟩))) 78 83 true).run Tryz.prog w=.ok (.tuple #[.pointer (some ⟨b,0,none⟩),.bool true]) w:=by kernel_rfl
theorem ta_gs:(Instr.typeAssert (.iface 83 (.pointer (some ⟨b,0,none⟩))) 78 85 true).run Tryz.prog w=.ok (.tuple #[.pointer none,.bool false]) w:=by kernel_rfl
theorem ta_gi:(Instr.typeAssert (.iface 83 (.pointer (some ⟨b,0,none⟩))) 78 161 true).run Tryz.prog w=.ok (.tuple #[.iface 83 (.pointer (some ⟨b,0,none⟩)),.bool true]) w:=by kernel_rfl
theorem ta_sp:(Instr.typeAssert (.iface 85 (.pointer (some ⟨b,0,none⟩))) 78 81 true).run Tryz.prog w=.ok (.tuple #[.pointer none,.bool false]) w:=by kernel_rfl
theorem ta_sg:(Instr.typeAssert (.iface 85 (.pointer (some ⟨b,0,none⟩))) 78 83 true).run Tryz.prog w=.ok (.tuple #[.pointer none,.bool false]) w:=by kernel_rfl
theorem ta_ss:(Instr.typeAssert (.iface 85 (.pointer (some ⟨b,0,none⟩))) 78 85 true).run Tryz.prog w=.ok (.tuple #[.pointer (some ⟨b,0,none⟩),.bool true]) w:=by kernel_rfl
theorem ta_si:(Instr.typeAssert (.iface 85 (.pointer (some ⟨b,0,none⟩))) 78 161 true).run Tryz.prog w=.ok (.tuple #[.iface 85 (.pointer (some ⟨b,0,none⟩)),.bool true]) w:=by kernel_rfl
end
theorem loadOut (w:World) (B:Nat) (x0 x1 x2:Value) (hb:w.heap[B]? = some (Obj.cells #[x0,x1,x2] 37 (0,0))) : (loadVar 37 ⟨B,0,none⟩).run Tryz.prog w=.ok (.agg #[x0,x1,x2]) w:=by
 have hc:∀ (k:Nat) (v:Value),#[x0,x1,x2][k]? = some v→w.cell? ⟨B,k,none⟩=some v:=fun k v hk=>by simp only [World.cell?,hb]; simpa using hk
 obtain ⟨i,i1,i2⟩ : ∃ i,Tryz.prog.info? 37 = some i∧i.size=3:=by
  cases h':Tryz.prog.info? 37 with
  | none =>
   have:(Tryz.prog.info? 37).map (·.size)=some 3:=by kernel_rfl
   rw [h'] at this
   cases this
  | some i =>
   have:(Tryz.prog.info? 37).map (·.size)=some 3:=by kernel_rfl
   rw [h'] at this
   exact ⟨i,rfl,Option.some.inj this⟩
 simp [loadVar,isAgg,run_underlying Tryz.underlying37,sizeOf,typeInfo,i1,i2,loadCells,loadCellsFrom,Addr.add,hc 0 x0 rfl,hc 1 x1 rfl,hc 2 x2 rfl]
theorem out_facts {ctx:Ev.Ctx} {l:List Ev.Asr} {w:World} {B3 B2:Nat} {x0 x1 x2:Value} (h:Ev.Hold ctx (Ev.blkA B3 [x0,x1,x2] 37 :: Ev.blkA B2 [.int .i64 0,.int .i64 0,.slice none 0 0] 37 :: l) w) :
  w.cell? ⟨B3,0,none⟩=some x0∧w.cell? ⟨B3,1,none⟩=some x1∧w.cell? ⟨B3,2,none⟩=some x2∧w.cell? ⟨B2,0,none⟩=some (.int .i64 0)∧w.cell? ⟨B2,1,none⟩=some (.int .i64 0)∧w.cell? ⟨B2,2,none⟩=some (.slice none 0 0)∧w.frozen? ⟨B2,0,none⟩=false∧w.frozen? ⟨B2,1,none⟩=false∧w.frozen? ⟨B2,2,none⟩=false ∧
  Ev.Hold ctx l (((w.setCell ⟨B2,0,none⟩ x0).setCell ⟨B2,1,none⟩ x1).setCell ⟨B2,2,none⟩ x2)∧(loadVar 37 ⟨B2,0,none⟩).run Tryz.prog (((w.setCell ⟨B2,0,none⟩ x0).setCell ⟨B2,1,none⟩ x1).setCell ⟨B2,2,none⟩ x2)=.ok (.agg #[x0,x1,x2]) (((w.setCell ⟨B2,0,none⟩ x0).setCell ⟨B2,1,none⟩ x1).setCell ⟨B2,2,none⟩ x2):=by
 have b3:=hold_blk h
 have h8:=hold_swap h
 have b2:=hold_blk h8
 have h9:=hold_set 2 x2 (hold_set 1 x1 (hold_set 0 x0 h8))
 refine ⟨cell_of b3 0 _ rfl,cell_of b3 1 _ rfl,cell_of b3 2 _ rfl,cell_of b2 0 _ rfl,cell_of b2 1 _ rfl,cell_of b2 2 _ rfl,froz_of b2 0,froz_of b2 1,froz_of b2 2,?_,loadOut _ _ _ _ _ (hold_blk h9)⟩
 obtain ⟨F',m1,m2,m3⟩:=h9.ex
 obtain ⟨G1,G2,q1,q2,q3,q4⟩:=Ev.now_split (l:=[_,_]) m1
 exact ⟨G2,q2,m2,fun j hj=>m3 j ((q4 j).2 (.inr hj))⟩
theorem mac_over_put (n:Nat) {c:Cfg} {p:Nat} (hp:p < c.n) {u:PutS} (hx:PutOk c u) {bp:Nat} {F:Nat→Prop} {w:World} (h:Ev.Now [putA c p bp u] F w) : CallsIn Fence.wide n Tryz.prog 66 #[.pointer (some ⟨bp,0,none⟩)] w fun e w'=>∃ v,e=.returned v∧Ev.Hold ⟨w,F⟩ [isA v (if u.st=0 then u.hs else []),putA c p bp u] w' :=
 over_put n hx.hs (Ev.Hold.start h)
set_option maxHeartbeats 2000000 in
theorem outcome_in (m:Nat) {b:RB} {c:Cfg} {x:RaceS} {es:Nat→OwnV} {p:Nat} {o:OwnS} {M:MacS} (hp:p < c.n) (ho:x.ow[p]? = some o) (hM:o.mac=some M) (hok:MacOk c p M) (hm:MemOk c x.m) {F:Nat→Prop} {w:World} (h:Ev.Now (raceL b c x es) F w) :
  CallsIn Fence.wide m Tryz.prog 38 #[.pointer (some ⟨b.bo,p * 7,none⟩)] w fun e w'=>∃ v,Ev.leafV v=true∧e=.returned (.agg #[.int .i64 o.kd,.int .i64 M.got,v])∧Ev.Hold ⟨w,F⟩ (raceL b c x es++[isA v M.over]) w':=by
 refine callsIn_of_wp Tryz.func38 rfl trivial ?_ rfl
 simp only [Tryz.ntmps38,List.size_toArray,List.length_cons,List.length_nil,Nat.reduceAdd,Nat.reduceSub,Array.replicate_succ,Array.replicate_zero,List.push_toArray,List.append_toArray,List.nil_append,List.cons_append]
 have hst:Ev.Hold ⟨w,F⟩ (raceL b c x es++[]) w:=by rw [List.append_nil]; exact Ev.Hold.start h
 obtain ⟨mv,hmv⟩ : ∃ mv,(es p).mv=mv:=⟨_,rfl⟩
 have e0:w.cell? ⟨b.bo,p * 7,none⟩=some (.int .i64 o.kd):=rows_cell (j:=0) hp ho (race_rows hst) rfl
 have e3:w.cell? ⟨b.bo,p * 7+3,none⟩=some mv:=rows_cell hp ho (race_rows hst) (by rw [← hmv]; rfl)
 have hlt:p < x.ow.length:=(List.getElem?_eq_some_iff.1 ho).1
 obtain ⟨W1,hW1⟩ : ∃ W1,w.alloc (.cells #[.int .i64 0,.int .i64 0,.slice none 0 0] 37)=W1:=⟨_,rfl⟩
 obtain ⟨W2,hW2⟩ : ∃ W2,W1.alloc (.cells #[.int .i64 0,.int .i64 0,.slice none 0 0] 37)=W2:=⟨_,rfl⟩
 have h1:Ev.Hold ⟨w,F⟩ (Ev.blkA w.heap.size [.int .i64 0,.int .i64 0,.slice none 0 0] 37 :: raceL b c x es) W1:=by rw [← hW1]; exact hold_new _ _ (Ev.Hold.start h)
 have h2:Ev.Hold ⟨w,F⟩ (Ev.blkA W1.heap.size [.int .i64 0,.int .i64 0,.slice none 0 0] 37 :: Ev.blkA w.heap.size [.int .i64 0,.int .i64 0,.slice none 0 0] 37 :: raceL b c x es) W2:=by rw [← hW2]; exact hold_new _ _ h1
 have hB1:Below w.heap.size w W1:=by rw [← hW1]; exact (Below.refl _ w).alloc (Nat.le_refl _) _
 have hB2:Below w.heap.size w W2:=by rw [← hW2]; exact hB1.alloc hB1.size _
 have d0:W1.cell? ⟨b.bo,p * 7,none⟩=some (.int .i64 o.kd):=cell_low hB1 e0
 have d3:W2.cell? ⟨b.bo,p * 7+3,none⟩=some mv:=cell_low hB2 e3
 have hb2:=hold_blk h2
 have f0:W2.frozen? ⟨W1.heap.size,0,none⟩=false:=froz_of hb2 0
 have f1:W2.frozen? ⟨W1.heap.size,1,none⟩=false:=froz_of hb2 1
 have f2:W2.frozen? ⟨W1.heap.size,2,none⟩=false:=froz_of hb2 2
 have q0:W2.cell? ⟨W1.heap.size,0,none⟩=some (.int .i64 0):=cell_of hb2 0 _ rfl
 have q1:W2.cell? ⟨W1.heap.size,1,none⟩=some (.int .i64 0):=cell_of hb2 1 _ rfl
 have q2:W2.cell? ⟨W1.heap.size,2,none⟩=some (.slice none 0 0):=cell_of hb2 2 _ rfl
 clear e0 e3
 obtain ⟨W3,hW3⟩ : ∃ W3,((W2.setCell ⟨W1.heap.size,0,none⟩ (.int .i64 o.kd)).setCell ⟨W1.heap.size,1,none⟩ (.int .i64 (-1))).setCell ⟨W1.heap.size,2,none⟩ (.slice none 0 0)=W3:=⟨_,rfl⟩
 have h3:Ev.Hold ⟨w,F⟩ (Ev.blkA W1.heap.size [.int .i64 o.kd,.int .i64 (-1),.slice none 0 0] 37 :: Ev.blkA w.heap.size [.int .i64 0,.int .i64 0,.slice none 0 0] 37 :: raceL b c x es) W3:=by
  rw [← hW3]
  exact hold_set 2 (.slice none 0 0) (hold_set 1 (.int .i64 (-1)) (hold_set 0 (.int .i64 o.kd) h2))
 have rowc:∀ (r:List Ev.Asr) (w':World),Ev.Hold ⟨w,F⟩ (r++raceL b c x es) w'→w'.cell? ⟨b.bo,p * 7+3,none⟩=some mv:=fun r w' hh=>rows_cell hp ho (race_rows (hold_perm List.perm_append_comm hh)) (by rw [← hmv]; rfl)
 have c3:W3.cell? ⟨b.bo,p * 7+3,none⟩=some mv:=rowc [_,_] _ h3
 have fin:∀ (v:Value) (l:List Int) (w':World),Ev.Hold ⟨w,F⟩ ([isA v l]++raceL b c x es) w'→Ev.Hold ⟨w,F⟩ (raceL b c x es++[isA v l]) w':=fun v l w' hh=>hold_perm List.perm_append_comm hh
 obtain ⟨F2,k2,back⟩:=own_mac (r:=[Ev.blkA W1.heap.size [.int .i64 o.kd,.int .i64 (-1),.slice none 0 0] 37,Ev.blkA w.heap.size [.int .i64 0,.int .i64 0,.slice none 0 0] 37]) hp ho h3
 rw [hmv,hM] at k2 back
 cases M with
 | put u =>
  obtain ⟨bp,rfl,hp1⟩:=mac_put (Ev.Hold.start k2)
  obtain ⟨F3,k3,back3⟩:=now_first hp1
  have a1:=ta_pp bp
  have a2:=ta_ps bp
  gi_wp2
  refine ⟨trivial,fun h=>by simp [Fence.wide] at h,(mac_over_put (m - 1) hp hok k3).mono ?_⟩
  rintro e w4 ⟨v,rfl,hh⟩
  have h6:=back [isA v (MacS.put u).over] w4 (put_mac ((back3 _ _ hh).sel [1,0] (by kernel_rfl)))
  obtain ⟨a,ca,rfl⟩:=slr_val (hold_slr (h6.sel [2] (by kernel_rfl)))
  have g0:w4.frozen? ⟨W1.heap.size,2,none⟩=false:=froz_of (hold_blk h6) 2
  have c0:w4.cell? ⟨W1.heap.size,2,none⟩=some (.slice none 0 0):=cell_of (hold_blk h6) 2 _ rfl
  have h7:=hold_set 2 (.slice a (MacS.put u).over.length ca) h6
  obtain ⟨w5,hw5⟩ : ∃ w5,w4.setCell ⟨W1.heap.size,2,none⟩ (.slice a (MacS.put u).over.length ca)=w5:=⟨_,rfl⟩
  rw [hw5] at h7
  have d3:=rowc [_,_,_] w5 h7
  obtain ⟨m0,m1,m2,n0,n1,n2,l0,l1,l2,hfin,hload⟩:=out_facts h7
  gi_wp2
  exact post_cell rfl rfl rfl hload ⟨_,rfl,rfl,fin _ _ _ hfin⟩
 | get u =>
  obtain ⟨bp,rfl,hp1⟩:=mac_get (Ev.Hold.start k2)
  obtain ⟨F3,k3,back3⟩:=now_first hp1
  have a1:=ta_gp bp
  have a2:=ta_gi bp
  have a3:=ta_gs bp
  have a4:=meth_getGot bp W3
  gi_wp2
  refine ⟨trivial,fun h=>by simp [Fence.wide] at h,(got_get (m - 1) (Ev.Hold.start k3)).mono ?_⟩
  rintro e w4 ⟨rfl,hh⟩
  have h6:=back [] w4 (get_mac (back3 _ _ hh))
  have c0:w4.cell? ⟨W1.heap.size,1,none⟩=some (.int .i64 (-1)):=cell_of (hold_blk h6) 1 _ rfl
  have g0:w4.frozen? ⟨W1.heap.size,1,none⟩=false:=froz_of (hold_blk h6) 1
  have d4:=rowc [_,_] w4 h6
  cases hhas:u.has with
  | false =>
   obtain ⟨m0,m1,m2,n0,n1,n2,l0,l1,l2,hfin,hload⟩:=out_facts h6
   have hg:(MacS.get u).got = -1:=by simp [MacS.got,hhas]
   gi_wp2
   refine post_cell rfl rfl rfl hload ⟨_,rfl,by rw [hg],?_⟩
   exact fin (.slice none 0 0) [] _ (hfin.nilSl (e := 3) (sz:=1))
  | true =>
   have h7:=hold_set 1 (.int .i64 u.sn) h6
   obtain ⟨w5,hw5⟩ : ∃ w5,w4.setCell ⟨W1.heap.size,1,none⟩ (.int .i64 u.sn)=w5:=⟨_,rfl⟩
   rw [hw5] at h7
   have d3:=rowc [_,_] w5 h7
   obtain ⟨m0,m1,m2,n0,n1,n2,l0,l1,l2,hfin,hload⟩:=out_facts h7
   have hg:(MacS.get u).got=u.sn:=by simp [MacS.got,hhas]
   gi_wp2
   refine post_cell rfl rfl rfl hload ⟨_,rfl,by rw [hg],?_⟩
   exact fin (.slice none 0 0) [] _ (hfin.nilSl (e := 3) (sz:=1))
 | steal v u =>
  obtain ⟨bp,rfl,hp1⟩:=mac_steal (Ev.Hold.start k2)
  obtain ⟨F3,k3,back3⟩:=now_first hp1
  have a1:=ta_sp bp
  have a2:=ta_si bp
  have a3:=ta_ss bp
  have a4:=meth_stealGot bp W3
  gi_wp2
  refine ⟨trivial,fun h=>by simp [Fence.wide] at h,(got_steal (m - 1) hok.1 (Ev.Hold.start k3)).mono ?_⟩
  rintro e w4 ⟨rfl,hh⟩
  have h6:=back [] w4 (steal_mac (back3 _ _ hh))
  have c0:w4.cell? ⟨W1.heap.size,1,none⟩=some (.int .i64 (-1)):=cell_of (hold_blk h6) 1 _ rfl
  have g0:w4.frozen? ⟨W1.heap.size,1,none⟩=false:=froz_of (hold_blk h6) 1
  have d4:=rowc [_,_] w4 h6
  have tail:∀ (g:Int) (w5:World),Ev.Hold ⟨w,F⟩ (Ev.blkA W1.heap.size [.int .i64 o.kd,.int .i64 g,.slice none 0 0] 37 :: Ev.blkA w.heap.size [.int .i64 0,.int .i64 0,.slice none 0 0] 37 :: raceL b c x es) w5 →
    CallsIn Fence.wide (m - 1) Tryz.prog 70 #[.pointer (some ⟨bp,0,none⟩)] w5 fun e w6=>∃ a ca,e=.returned (.slice a (MacS.steal v u).over.length ca)∧Ev.Hold ⟨w,F⟩ (Ev.blkA W1.heap.size [.int .i64 o.kd,.int .i64 g,.slice none 0 0] 37 :: Ev.blkA w.heap.size [.int .i64 0,.int .i64 0,.slice none 0 0] 37 :: isA (.slice a (MacS.steal v u).over.length ca) (MacS.steal v u).over::raceL b c x es) w6:=fun g w5 h5=>by
   obtain ⟨F4,k4,back4⟩:=own_mac (r:=[Ev.blkA W1.heap.size [.int .i64 o.kd,.int .i64 g,.slice none 0 0] 37,Ev.blkA w.heap.size [.int .i64 0,.int .i64 0,.slice none 0 0] 37]) hp ho h5
   rw [hmv,hM] at k4 back4
   obtain ⟨bp',e',hp4⟩:=mac_steal (Ev.Hold.start k4)
   cases e'
   obtain ⟨F5,k5,back5⟩:=now_first hp4
   refine (left_steal (m - 1) hok.1 (Ev.Hold.start k5)).mono ?_
   rintro e w6 ⟨u',rfl,hh6⟩
   have h7:=back4 [isA u' u.left] w6 (steal_mac ((back5 _ _ hh6).sel [1,0] (by kernel_rfl)))
   obtain ⟨a,ca,rfl⟩:=slr_val (hold_slr (h7.sel [2] (by kernel_rfl)))
   exact ⟨a,ca,rfl,h7⟩
  cases hgot:u.got.2 with
  | false =>
   have hg:(MacS.steal v u).got = -1:=by simp [MacS.got,hgot]
   gi_wp2
   refine ⟨trivial,fun h=>by simp [Fence.wide] at h,(tail (-1) w4 h6).mono ?_⟩
   rintro e w6 ⟨a,ca,rfl,h7⟩
   have g1:w6.frozen? ⟨W1.heap.size,2,none⟩=false:=froz_of (hold_blk h7) 2
   have c1:w6.cell? ⟨W1.heap.size,2,none⟩=some (.slice none 0 0):=cell_of (hold_blk h7) 2 _ rfl
   have h8:=hold_set 2 (.slice a (MacS.steal v u).over.length ca) h7
   obtain ⟨w7,hw7⟩ : ∃ w7,w6.setCell ⟨W1.heap.size,2,none⟩ (.slice a (MacS.steal v u).over.length ca)=w7:=⟨_,rfl⟩
   rw [hw7] at h8
   obtain ⟨m0,m1,m2,n0,n1,n2,l0,l1,l2,hfin,hload⟩:=out_facts h8
   gi_wp2
   exact post_cell rfl rfl rfl hload ⟨_,rfl,by rw [hg],fin _ _ _ hfin⟩
  | true =>
   have hg:(MacS.steal v u).got=u.got.1:=by simp [MacS.got,hgot]
   have h7:=hold_set 1 (.int .i64 u.got.1) h6
   obtain ⟨w5,hw5⟩ : ∃ w5,w4.setCell ⟨W1.heap.size,1,none⟩ (.int .i64 u.got.1)=w5:=⟨_,rfl⟩
   rw [hw5] at h7
   have d3:=rowc [_,_] w5 h7
   gi_wp2
   refine ⟨trivial,fun h=>by simp [Fence.wide] at h,(tail u.got.1 w5 h7).mono ?_⟩
   rintro e w6 ⟨a,ca,rfl,h7⟩
   have g1:w6.frozen? ⟨W1.heap.size,2,none⟩=false:=froz_of (hold_blk h7) 2
   have c1:w6.cell? ⟨W1.heap.size,2,none⟩=some (.slice none 0 0):=cell_of (hold_blk h7) 2 _ rfl
   have h8:=hold_set 2 (.slice a (MacS.steal v u).over.length ca) h7
   obtain ⟨w7,hw7⟩ : ∃ w7,w6.setCell ⟨W1.heap.size,2,none⟩ (.slice a (MacS.steal v u).over.length ca)=w7:=⟨_,rfl⟩
   rw [hw7] at h8
   obtain ⟨m0,m1,m2,n0,n1,n2,l0,l1,l2,hfin,hload⟩:=out_facts h8
   gi_wp2
   exact post_cell rfl rfl rfl hload ⟨_,rfl,by rw [hg],fin _ _ _ hfin⟩
end Go.Proofs.YtkmccgombmogmaaGreat
