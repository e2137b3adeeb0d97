/- Part of a proof: see the last text. -/
import Derived.Test.YtankbefdlbcdnaaZo14
import Derived.WalkSpells
import Derived.Great.BuildSlice
namespace Go.Ev
open Go.RowKit
set_option linter.unusedVariables false
set_option linter.unusedSimpArgs false
set_option linter.unusedSectionVars false
def arrV (b n:Nat) : Value:=.slice (some ⟨b,0,none⟩) n n
section
variable {k:Kn} {P:Program} {g g':Nat} {l:List Asr} {ci:Nat} {t e:TypeId} {n sz m:Nat} {v:Value} {xs:List Value} {sP sQ sI:Nat}
theorem sl_arr {kd:IntKind} {j q N:Nat} {i:TypeInfo} {e':TypeId} (hg:k.gs[g]? = some (star l)) (hi:l[ci]? = some (slA e sz v n xs)) (hm:m < n * sz) (ht:P.underlying t=some (.array N e')) (hinf:P.info? e'=some i) (hsz:i.size=q) (hP:k.val sP=ptrR v m) (hI:k.val sI=.int kd (j:Int)) (hj:j < N) (hQ:k.val sQ=ptrR v (m+j * q)) : GTrue k P ⟨[3,t],[sy sP,sy sI],none,g,none,sy sQ,none⟩:=by
 refine GTrue.index k ?_
 letI:Sig:=k.sig
 intro ι F w d x' y' qq hx hy
 obtain ⟨Fs,ff,hS,hf,h1⟩:=star_ask hg hi qq
 rw [vsymR hx,vsymR hy,hP,hI]
 obtain ⟨b,off,c,rfl,_,_⟩:=slv_ptr h1 hm
 refine ⟨.pointer (some ⟨b,off+(m+j * q),none⟩),w,?_,rsymR (by rw [hQ]; rfl),Below.refl _ _⟩
 have hc:(0:Int)≤(j:Int)∧(j:Int) < (N:Int):=⟨by omega,by omega⟩
 subst hsz
 simp [ptrR,Instr.indexAt,Instr.sureAddr,run_underlying ht,hc,sizeOf,typeInfo,hinf,addMk,asIntOf,Nat.add_assoc]
 intro h
 omega
theorem isNilm:IsV k (.map none) (.map none):=fun ι x' hx=>by
 letI:Sig:=k.sig
 cases hx
 rfl
theorem app_nils {d1 e' m:Nat} {u:TypeId} {i:TypeInfo} {z:Value} {c cs:List Value} (hg:k.gs[g]? = some (star l)) (hg':k.gs[g']? = some (star (l++[atD d1 (fun v'=>slA e sz v' m cs)]))) (ht:P.underlying t=some (.slice e)) (hu:P.underlying u=some (.slice e')) (hinf:P.info? e=some i) (hsz:i.size=sz) (h0:0 < sz) (hz:i.zero=some z) (hzs:z.cells.size=i.size)
  (hb:m * i.bytes≤140737488355328) (hnm:m≤1000000000) (hm:c.length=m * sz) (hc:∀ ι c',(letI:Sig:=k.sig; LRel ι c c')→c'=cs) : GTrue k P ⟨[11,t,u],[.slice none 0 0],some (sz,1,c),g,some d1,.complex .f32 d1 0,some g'⟩:=by
 subst hsz
 refine GTrue.append k ?_
 letI:Sig:=k.sig
 intro ι F w d x' y' c' m' ty q hx hcr hcm ho hr hl
 have hmm:m'=m:=Nat.eq_of_mul_eq_mul_right h0 (by rw [← hcm,hm])
 subst hmm
 obtain rfl:=q.name d1 rfl
 obtain ⟨b,q1,q2⟩:=q.st
 rw [hg] at q1
 cases q1
 rw [isNils _ _ hx]
 have hs:Src P i.size u y' m' c' w:=⟨.inl ⟨_,hu⟩,hl,hr w rfl,hr w.drew rfl,by rw [← hcr.1]; exact hm,one_all hcr ho⟩
 have h1:SlV e i.size (.slice none 0 0) 0 [] (fun _=>False) w:=SlV.nil e i.size w
 obtain ⟨v2,w2,F2,r1,r2,r3,r4⟩:=SlV.append (ty:=ty) h1 ht hinf hz hzs hs (by rw [Nat.zero_add]; exact hb) (by omega)
 rw [hc _ _ hcr,Nat.zero_add,List.nil_append] at r2
 obtain ⟨cc,hcc⟩:=r2.code
 have hup:(ι.upd d1 cc) d1=some cc:=by simp [Ren.upd]
 exact ⟨v2,w2,r1,grow_end hg' q2 q.lt (ask_fresh q) cc ⟨cc,hup,by rw [hcc]; exact r2⟩ ⟨r3.os,r3.tape,r3.output,r3.size,fun j hj=>r3.block j hj (fun h=>h)⟩ (fun j hj=>⟨(r4 j hj).1,(r4 j hj).2.elim (fun h=>h.elim) id⟩) (.dyn d1 cc v2 hup hcc)⟩
theorem build_one {d1:Nat} {i:TypeInfo} {z x v1:Value} (hg:k.gs[g]? = some (star l)) (hg':k.gs[g']? = some (star (l++[atD d1 (fun v'=>slA e 1 v' 1 [v1])]))) (ht:P.underlying t=some (.slice e)) (hinf:P.info? e=some i) (hsz:i.size=1) (hz:i.zero=some z) (hzs:z.cells = #[z]) (hV:IsV k x v1) (h1:v1.cells = #[v1]) : GTrue k P ⟨[24,t],[x],none,g,some d1,.complex .f32 d1 0,some g'⟩:=by
 refine GTrue.build1 k ?_
 letI:Sig:=k.sig
 intro ι F w d x' q hx
 obtain rfl:=q.name d1 rfl
 obtain ⟨b,q1,q2⟩:=q.st
 rw [hg] at q1
 cases q1
 rw [hV _ _ hx]
 have r1:=Go.run_buildSlice w t e 1 #[(0,v1)] #[v1] i z ht hinf hz (by rw [hsz]; decide) (by rw [hsz]; decide) (by simp [Instr.fill,hsz,h1]; rw [show Array.range 1 = #[0] from rfl]; simp)
 have hsl:SlV e 1 (.slice (some ⟨w.heap.size,0,none⟩) 1 1) 1 [v1] (fun j=>j=w.heap.size) (w.alloc (.cells #[v1] e)):=by
  refine ⟨rfl,.inr ⟨w.heap.size,0,1,#[v1],rfl,fun _=>Iff.rfl,by unfold World.alloc; simp,fun j hj=>?_,by simp,Nat.le_refl _⟩⟩
  match j,hj with
  | 0,_=>rfl
 obtain ⟨cc,hcc⟩:=hsl.code
 have hup:(ι.upd d1 cc) d1=some cc:=by simp [Ren.upd]
 exact ⟨_,_,r1,grow_end hg' q2 q.lt (ask_fresh q) cc ⟨cc,hup,by rw [hcc]; exact hsl⟩ ((Below.refl _ _).alloc (Nat.le_refl _) _) (fun j hj=>⟨hsl.lt j hj,by rw [hj]; exact Nat.le_refl _⟩) (.dyn d1 cc _ hup hcc)⟩
theorem dec_one (c:Nat) : (dec c).oneCell'=true:=by
 unfold dec
 split <;> rfl
theorem sl_storeD {d2:Nat} (hg:k.gs[g]? = some (star l)) (hi:l[ci]? = some (slA e sz v n xs)) (hg':k.gs[g']? = some (star (l.set ci (atD d2 (fun u=>slA e sz v n (xs.set m u)))))) (hL:StoreOne P t) (hn:m < n * sz) (hP:k.val sP=ptrR v m) : GTrue k P ⟨[2,t],[sy sP,.complex .f32 d2 0],none,g,none,undef,some g'⟩:=by
 refine GTrue.store k ?_
 letI:Sig:=k.sig
 intro ι F w d x' y' q hx hy
 obtain ⟨Fs,ff,hS,hf,h1⟩:=star_ask hg hi q
 obtain ⟨c2,e5,rfl⟩:=vdynR hy
 rw [vsymR hx,hP]
 obtain ⟨b,off,c,e1,e2,e0,e3,e4⟩:=slv_ptr h1 hn
 rw [e2]
 have hlt:m < xs.length:=by rw [h1.1]; exact hn
 rw [List.getElem?_eq_getElem hlt] at e3
 have hset:=SlV.set (b:=b) (off:=off) (c:=c) h1 e1 hn (dec c2)
 exact ⟨_,hL b (off+m) (dec c2) _ w e3 e4 (dec_one c2),one_end hg' hS q.lt hf (ask_fresh q) 0 ⟨c2,Ren.upd_le (b:=0) (ask_fresh q) _ _ e5,hset⟩ (turn_set e0) (fun j hj=>⟨Nat.lt_of_lt_of_le (h1.lt j hj) (turn_set (x:=dec c2) (o:=off+m) e0).size,.inl hj⟩) (undef_rel _)⟩
theorem map_eql {s b:Nat} (hv:k.val s=.map (some b)) {kT e:TypeId} (ht:P.underlying t=some (.map kT e)) : GTrue k P ⟨[20,t],[sy s,.map none],none,g,none,.bool false,none⟩:=by
 letI:Sig:=k.sig
 intro o hk ev ι F w d hl _ h1 h2 h3 h4
 obtain ⟨x,y,z,ho⟩:=gk_eql hk
 rw [ho] at hl
 obtain ⟨x',y',e,hx,hy⟩:=ops2 hl
 simp [Op.operands] at e
 obtain ⟨rfl,rfl⟩:=e
 refine ⟨.value (.bool false),.bool false,w,?_,.inl rfl,.bool _,Below.refl _ _⟩
 unfold execOp
 rw [ho]
 simp only
 rw [vsymR hx,hv,isNilm _ _ hy]
 simp [eqGuard,run_eql_map_nil w t _ _ (some b) ht]
end
theorem e_nil {k:Kn} {P:Program} {g sK:Nat} {t kT e:TypeId} {β:Type} {val:β→Value} {dat:β→DataW Unit} {R:Value→Option (DataW Unit×List MemPlace)} {z:β} (M:EM P t kT e val dat R z) {i:Int} {a:Value} (hK:k.val sK=.int .i64 i) (hw:wfI i) (hV:∀ ι,letI:Sig:=k.sig; VRel ι a (val z)) : GTrue k P ⟨[5,t,1],[.map none,sy sK],none,g,none,.tuple #[a,.bool false],none⟩:=by
 refine GTrue.lookup k (b:=true) rfl ?_
 letI:Sig:=k.sig
 intro ι F w d x' y' q hx' hy
 rw [isNilm _ _ hx',vsymR hy,hK]
 refine ⟨.tuple #[val z,.bool false],w,?_,rtup2' (hV ι) boolV',Below.refl _ _⟩
 have hc:=(E_keyed M).check w true (E_key M hw)
 have hf:(Instr.findKey kT (.int .i64 i) []).run P w=.ok none w:=by
  rcases (E_keyed M).find w (E_key M hw) [] (by simp) with ⟨h,_⟩ | ⟨j,e,_,h,_⟩
  ·exact h
  ·simp at h
 simp [Instr.lookup,run_underlying M.ht,hc,hf,M.hz w,Result.andThen]
theorem mk_mapE {k:Kn} {P:Program} {g g':Nat} {l:List Asr} {t kT:TypeId} {β:Type} {dat:β→DataW Unit} {R:Value→Option (DataW Unit×List MemPlace)} {z:β} {d1:Nat} (hg:k.gs[g]? = some (star l)) (hg':k.gs[g']? = some (star (l++[atD d1 (fun v=>emV P kT dat R z v 0 (fun _=>none))]))) : GTrue k P ⟨[18,t],[],none,g,some d1,.complex .f32 d1 0,some g'⟩:=by
 letI:Sig:=k.sig
 intro o hk ev ι F w d hv _ h1 h2 h3 h4
 have ho:=gk_makeMap hk
 obtain ⟨b,q1,q2⟩:=h1
 rw [hg] at q1
 cases q1
 obtain rfl:=h4 d1 rfl
 have hd:ι d1=none:=h3.elim id (fun h=>by cases h)
 refine ⟨.value (.map (some w.heap.size)),.map (some w.heap.size),w.alloc (.map #[] 0),?_,.inl rfl,?_⟩
 ·simp [execOp,ho,Instr.makeMap,newObj]
  rfl
 ·have hup:(ι.upd d1 (prn 2 w.heap.size)) d1=some (prn 2 w.heap.size):=by simp [Ren.upd]
  refine grow_end hg' q2 h2 hd (prn 2 w.heap.size) (f':=fun j=>j=w.heap.size) ⟨_,hup,w.heap.size,dec_map _,fun j=>Iff.rfl,.map [],World.ownsMap_made w P kT _,rfl,fun i hi=>?_⟩ ((Below.refl _ _).alloc (Nat.le_refl _) _) (fun x hx=>⟨by rw [hx]; simp,by rw [hx]; exact Nat.le_refl _⟩) (.dyn d1 _ _ hup (dec_map _))
  exact ⟨rfl,rfl⟩
end Go.Ev
namespace Go.Proofs.Ytankbefdlbcdnaa
open Go.RowKit
open Go.Ev (sy)
set_option linter.unusedVariables false
set_option linter.unusedSimpArgs false
theorem wfI_of {i:Int} (h1:-9223372036854775808≤i) (h2:i≤9223372036854775807) : Ev.wfI i:=by
 unfold Ev.wfI Lit.wf
 simp [IntKind.min,IntKind.max,IntKind.signed,IntKind.bits]
 omega
structure Lk where
 a:Int
 b:Int
 x:Bool
 y:Bool
def Lk.v (k:Lk) : Value:=.agg #[.int .i64 k.a,.int .i64 k.b,.bool k.x,.bool k.y]
def Lk.d (k:Lk) : DataW Unit:=.agg [.lit (.int .i64 k.a),.lit (.int .i64 k.b),.lit (.bool k.x),.lit (.bool k.y)]
def lkR:Value→Option (DataW Unit×List MemPlace)
 | .agg ⟨[.int .i64 a,.int .i64 b,.bool x,.bool y]⟩=>some (.agg [.lit (.int .i64 a),.lit (.int .i64 b),.lit (.bool x),.lit (.bool y)],[])
 | _=>none
abbrev lk0:Lk:=⟨0,0,false,false⟩
theorem infLink:∃ i,Try.prog.info? 130 = some i∧i.size=4∧i.zero=some (.agg #[.int .i64 0,.int .i64 0,.bool false,.bool false])∧i.bytes=24:=info_z (by kernel_rfl)
theorem lkM:Ev.EM Try.prog 72 3 130 Lk.v Lk.d lkR lk0 where
 ht:=Try.underlying72
 hk:=Try.underlying3
 hz:=fun w=>by
  obtain ⟨i,i1,i2,i3,i4⟩:=infLink
  exact @Ev.run_zeroValue' Ev.noSig _ _ _ _ i1 i3 w
 hR:=fun x=>rfl
 inv:=fun v x ps h=>by
  unfold lkR at h
  split at h
  ·simp only [Lk.d,Option.some.injEq,Prod.mk.injEq,DataW.agg.injEq,List.cons.injEq,DataW.lit.injEq,Lit.int.injEq,Lit.bool.injEq,true_and,and_true] at h
   obtain ⟨⟨rfl,rfl,rfl,rfl⟩,_⟩:=h
   rfl
  ·cases h
abbrev lkA (b n:Nat) (f:Int→Option Lk) : Ev.Asr:=Ev.emA Try.prog 3 Lk.d lkR lk0 b n f
abbrev lkV (v:Value) (n:Nat) (f:Int→Option Lk) : Ev.Asr:=Ev.emV Try.prog 3 Lk.d lkR lk0 v n f
theorem fldLine0:∀ b o w,(Instr.fieldAt 74 (.pointer (some ⟨b,o,none⟩)) 0).run Try.prog w=.ok (.pointer (some ⟨b,o+0,none⟩)) w:=fun b o w=>by kernel_rfl
theorem fldLine1:∀ b o w,(Instr.fieldAt 74 (.pointer (some ⟨b,o,none⟩)) 1).run Try.prog w=.ok (.pointer (some ⟨b,o+1,none⟩)) w:=fun b o w=>by kernel_rfl
theorem fldLine2:∀ b o w,(Instr.fieldAt 74 (.pointer (some ⟨b,o,none⟩)) 2).run Try.prog w=.ok (.pointer (some ⟨b,o+2,none⟩)) w:=fun b o w=>by kernel_rfl
theorem fldOne0:∀ b o w,(Instr.fieldAt 76 (.pointer (some ⟨b,o,none⟩)) 0).run Try.prog w=.ok (.pointer (some ⟨b,o+0,none⟩)) w:=fun b o w=>by kernel_rfl
theorem fldOne1:∀ b o w,(Instr.fieldAt 76 (.pointer (some ⟨b,o,none⟩)) 1).run Try.prog w=.ok (.pointer (some ⟨b,o+3,none⟩)) w:=fun b o w=>by kernel_rfl
theorem fldSem0:∀ b o w,(Instr.fieldAt 79 (.pointer (some ⟨b,o,none⟩)) 0).run Try.prog w=.ok (.pointer (some ⟨b,o+0,none⟩)) w:=fun b o w=>by kernel_rfl
theorem fldSem1:∀ b o w,(Instr.fieldAt 79 (.pointer (some ⟨b,o,none⟩)) 1).run Try.prog w=.ok (.pointer (some ⟨b,o+64,none⟩)) w:=fun b o w=>by kernel_rfl
theorem fldSem2:∀ b o w,(Instr.fieldAt 79 (.pointer (some ⟨b,o,none⟩)) 2).run Try.prog w=.ok (.pointer (some ⟨b,o+65,none⟩)) w:=fun b o w=>by kernel_rfl
theorem loadMapL:Ev.LoadOne Try.prog 72:=by
 intro b o x w h
 simp [Instr.loadAt,Instr.sureAddr,loadVar,isAgg,run_underlying Try.underlying72,h]
theorem loadMapI:Ev.LoadOne Try.prog 71:=by
 intro b o x w h
 simp [Instr.loadAt,Instr.sureAddr,loadVar,isAgg,run_underlying Try.underlying71,h]
theorem storeMapL:Ev.StoreOne Try.prog 72:=by
 intro b o x x0 w h hf hc
 simp [Instr.storeAt,Instr.sureAddr,storeVar,isAgg,run_underlying Try.underlying72,h,cells_one hc,storeCells,run_store _ _ _ _ _ hc,hf,Ev.addMk]
end Go.Proofs.Ytankbefdlbcdnaa
namespace Go.Proofs.Ytankbefdlbcdnaa
open Go.RowKit
open Go.Ev (sy iz uz wz iN uN wN pz dv fc fn ak vk vd kn pc cc cr cm cd fr)
set_option linter.unusedVariables false
set_option linter.unusedSimpArgs false
set_option maxRecDepth 8000
attribute [local irreducible] Ev.wpL
structure FQ where
 W0:World
 F0:Nat→Prop
 bs:Nat
 xs:List Value
 m:Nat
 bl:Nat
 n:Nat
 f:Int→Option Lk
 x:Int
 ka:Int
 kb:Int
 hd:Int
 tl:Int
 h:m+4≤66∧n≤4096∧0≤x∧x < 4096
theorem FQ.z (q:FQ) : q.m+4≤66∧q.n≤4096∧0≤q.x∧q.x < 4096:=q.h
abbrev ff1a1 (q:FQ) : List Ev.Asr:=[Ev.slA 79 1 (Ev.arrV q.bs 66) 66 (q.xs)]
abbrev ff1a2 (q:FQ) : List (Nat×Value):=[(0,(Ev.ptrR (Ev.arrV q.bs 66) (q.m)))]
abbrev ff1a3 (q:FQ) : List Ev.Asr:=[Ev.slA 79 1 (Ev.arrV q.bs 66) 66 (q.xs),lkA q.bl (q.n) (q.f)]
abbrev ff1a4 (q:FQ) : List (Nat×Value):=[(0,(Ev.ptrR (Ev.arrV q.bs 66) (q.m))),(1,(iz (q.x)))]
theorem ffHasN (q:FQ) (h0:q.xs[q.m+0]? = some (.map none)) : Ev.PieE Try.prog 79 [] 0 19 ⟨q.W0,q.F0⟩ (ff1a4 q) (ff1a1 q) (fun κ:Ev.Ren=>(.bool false)) (fun κ:Ev.Ren=>(ff1a1 q)):=(trE (c:=⟨q.W0,q.F0⟩) 20 (kn [Ev.ptrR (Ev.arrV q.bs 66) (q.m),Ev.ptrR (Ev.arrV q.bs 66) (q.m+0),Ev.arrV q.bs 66,iz (q.x)] (fc (Ev.ptrR_leaf _ _) (fc (Ev.ptrR_leaf _ _) fr)) [] [] [] fn fn fn q.W0 q.F0 [(ff1a1 q)] [⟨[20,113],[sy 0,.pointer none],none,0,none,.bool false,none⟩,⟨[9],[sy 0],none,0,none,sy 0,none⟩,⟨[7,74,0],[sy 0],none,0,none,sy 1,none⟩,⟨[1,72],[sy 1],none,0,none,.map none,none⟩,⟨[5,72,1],[.map none,sy 3],none,0,none,.tuple #[.agg #[.int .i64 0,.int .i64 0,.bool false,.bool false],.bool false],none⟩] []) (fc (Ev.ptr_eql rfl (by kernel_rfl)) (fc (Ev.blk_nil rfl) (fc (by have z:=q.z; exact Ev.sl_field (ci:=1) (fo:=0) rfl rfl (by omega) fldLine0 rfl rfl) (fc (by have z:=q.z; exact Ev.sl_load (ci:=1) (m:=q.m+0) (x:=(.map none)) rfl rfl loadMapL h0 (by simp; omega) rfl (fun ι=>(vk (by kernel_rfl) (by kernel_rfl)))) (fc (by have z:=q.z; exact Ev.e_nil lkM rfl (by first | assumption | exact wfI_of (by omega) (by omega)) (fun ι=>(vk (by kernel_rfl) (by kernel_rfl)))) fn))))) fn rfl [] [] [] 0 rfl rfl [(0,sy 0),(1,sy 3)] (.bool false))
theorem ffHasM (q:FQ) (h0:q.xs[q.m+0]? = some (.map (some q.bl))) (hx:q.f q.x=none) : Ev.PieE Try.prog 79 [] 0 19 ⟨q.W0,q.F0⟩ (ff1a4 q) (ff1a3 q) (fun κ:Ev.Ren=>(.bool false)) (fun κ:Ev.Ren=>(ff1a3 q)):=(trE (c:=⟨q.W0,q.F0⟩) 20 (kn [Ev.ptrR (Ev.arrV q.bs 66) (q.m),Ev.ptrR (Ev.arrV q.bs 66) (q.m+0),Ev.arrV q.bs 66,iz (q.x),.map (some q.bl)] (fc (Ev.ptrR_leaf _ _) (fc (Ev.ptrR_leaf _ _) fr)) [] [] [] fn fn fn q.W0 q.F0 [(ff1a3 q)] [⟨[20,113],[sy 0,.pointer none],none,0,none,.bool false,none⟩,⟨[9],[sy 0],none,0,none,sy 0,none⟩,⟨[7,74,0],[sy 0],none,0,none,sy 1,none⟩,⟨[1,72],[sy 1],none,0,none,sy 4,none⟩,⟨[5,72,1],[sy 4,sy 3],none,0,none,.tuple #[.agg #[.int .i64 0,.int .i64 0,.bool false,.bool false],.bool false],none⟩] []) (fc (Ev.ptr_eql rfl (by kernel_rfl)) (fc (Ev.blk_nil rfl) (fc (by have z:=q.z; exact Ev.sl_field (ci:=1) (fo:=0) rfl rfl (by omega) fldLine0 rfl rfl) (fc (by have z:=q.z; exact Ev.sl_load (ci:=1) (m:=q.m+0) (x:=(.map (some q.bl))) rfl rfl loadMapL h0 (by simp; omega) rfl (fun ι=>(vk (by kernel_rfl) (by kernel_rfl)))) (fc (by have z:=q.z; exact Ev.e_ok lkM (ci:=2) (x:=lk0) rfl rfl rfl rfl (by first | assumption | exact wfI_of (by omega) (by omega)) (by rw [hx]; rfl) (by rw [hx]; rfl) (fun ι=>(vk (by kernel_rfl) (by kernel_rfl)))) fn))))) fn rfl [] [] [] 0 rfl rfl [(0,sy 0),(1,sy 3)] (.bool false))
theorem ffHasY0 (q:FQ) (h0:q.xs[q.m+0]? = some (.map (some q.bl))) (hx:q.f q.x=some ⟨q.ka,q.kb,false,false⟩) : Ev.PieE Try.prog 79 [] 0 19 ⟨q.W0,q.F0⟩ (ff1a4 q) (ff1a3 q) (fun κ:Ev.Ren=>(.bool true)) (fun κ:Ev.Ren=>(ff1a3 q)):=(trE (c:=⟨q.W0,q.F0⟩) 20 (kn [Ev.ptrR (Ev.arrV q.bs 66) (q.m),Ev.ptrR (Ev.arrV q.bs 66) (q.m+0),Ev.arrV q.bs 66,iz (q.x),.map (some q.bl),iz (q.ka),iz (q.kb)] (fc (Ev.ptrR_leaf _ _) (fc (Ev.ptrR_leaf _ _) fr)) [] [] [] fn fn fn q.W0 q.F0 [(ff1a3 q)] [⟨[20,113],[sy 0,.pointer none],none,0,none,.bool false,none⟩,⟨[9],[sy 0],none,0,none,sy 0,none⟩,⟨[7,74,0],[sy 0],none,0,none,sy 1,none⟩,⟨[1,72],[sy 1],none,0,none,sy 4,none⟩,⟨[5,72,1],[sy 4,sy 3],none,0,none,.tuple #[.agg #[sy 5,sy 6,.bool false,.bool false],.bool true],none⟩] []) (fc (Ev.ptr_eql rfl (by kernel_rfl)) (fc (Ev.blk_nil rfl) (fc (by have z:=q.z; exact Ev.sl_field (ci:=1) (fo:=0) rfl rfl (by omega) fldLine0 rfl rfl) (fc (by have z:=q.z; exact Ev.sl_load (ci:=1) (m:=q.m+0) (x:=(.map (some q.bl))) rfl rfl loadMapL h0 (by simp; omega) rfl (fun ι=>(vk (by kernel_rfl) (by kernel_rfl)))) (fc (by have z:=q.z; exact Ev.e_ok lkM (ci:=2) (x:=⟨q.ka,q.kb,false,false⟩) rfl rfl rfl rfl (by first | assumption | exact wfI_of (by omega) (by omega)) (by rw [hx]; rfl) (by rw [hx]; rfl) (fun ι=>(vk (by kernel_rfl) (by kernel_rfl)))) fn))))) fn rfl [] [] [] 0 rfl rfl [(0,sy 0),(1,sy 3)] (.bool true))
theorem ffHasY1 (q:FQ) (h0:q.xs[q.m+0]? = some (.map (some q.bl))) (hx:q.f q.x=some ⟨q.ka,q.kb,false,true⟩) : Ev.PieE Try.prog 79 [] 0 19 ⟨q.W0,q.F0⟩ (ff1a4 q) (ff1a3 q) (fun κ:Ev.Ren=>(.bool true)) (fun κ:Ev.Ren=>(ff1a3 q)):=(trE (c:=⟨q.W0,q.F0⟩) 20 (kn [Ev.ptrR (Ev.arrV q.bs 66) (q.m),Ev.ptrR (Ev.arrV q.bs 66) (q.m+0),Ev.arrV q.bs 66,iz (q.x),.map (some q.bl),iz (q.ka),iz (q.kb)] (fc (Ev.ptrR_leaf _ _) (fc (Ev.ptrR_leaf _ _) fr)) [] [] [] fn fn fn q.W0 q.F0 [(ff1a3 q)] [⟨[20,113],[sy 0,.pointer none],none,0,none,.bool false,none⟩,⟨[9],[sy 0],none,0,none,sy 0,none⟩,⟨[7,74,0],[sy 0],none,0,none,sy 1,none⟩,⟨[1,72],[sy 1],none,0,none,sy 4,none⟩,⟨[5,72,1],[sy 4,sy 3],none,0,none,.tuple #[.agg #[sy 5,sy 6,.bool false,.bool true],.bool true],none⟩] []) (fc (Ev.ptr_eql rfl (by kernel_rfl)) (fc (Ev.blk_nil rfl) (fc (by have z:=q.z; exact Ev.sl_field (ci:=1) (fo:=0) rfl rfl (by omega) fldLine0 rfl rfl) (fc (by have z:=q.z; exact Ev.sl_load (ci:=1) (m:=q.m+0) (x:=(.map (some q.bl))) rfl rfl loadMapL h0 (by simp; omega) rfl (fun ι=>(vk (by kernel_rfl) (by kernel_rfl)))) (fc (by have z:=q.z; exact Ev.e_ok lkM (ci:=2) (x:=⟨q.ka,q.kb,false,true⟩) rfl rfl rfl rfl (by first | assumption | exact wfI_of (by omega) (by omega)) (by rw [hx]; rfl) (by rw [hx]; rfl) (fun ι=>(vk (by kernel_rfl) (by kernel_rfl)))) fn))))) fn rfl [] [] [] 0 rfl rfl [(0,sy 0),(1,sy 3)] (.bool true))
theorem ffHeadN (q:FQ) (h0:q.xs[q.m+0]? = some (.map none)) : Ev.PieE Try.prog 68 [] 0 11 ⟨q.W0,q.F0⟩ (ff1a2 q) (ff1a1 q) (fun κ:Ev.Ren=>(.tuple #[(.int .i64 0),(.bool false)])) (fun κ:Ev.Ren=>(ff1a1 q)):=(trE (c:=⟨q.W0,q.F0⟩) 20 (kn [Ev.ptrR (Ev.arrV q.bs 66) (q.m),Ev.ptrR (Ev.arrV q.bs 66) (q.m+0),Ev.arrV q.bs 66] (fc (Ev.ptrR_leaf _ _) (fc (Ev.ptrR_leaf _ _) fr)) [] [] [] fn fn fn q.W0 q.F0 [(ff1a1 q)] [⟨[20,113],[sy 0,.pointer none],none,0,none,.bool false,none⟩,⟨[9],[sy 0],none,0,none,sy 0,none⟩,⟨[7,74,0],[sy 0],none,0,none,sy 1,none⟩,⟨[1,72],[sy 1],none,0,none,.map none,none⟩] []) (fc (Ev.ptr_eql rfl (by kernel_rfl)) (fc (Ev.blk_nil rfl) (fc (by have z:=q.z; exact Ev.sl_field (ci:=1) (fo:=0) rfl rfl (by omega) fldLine0 rfl rfl) (fc (by have z:=q.z; exact Ev.sl_load (ci:=1) (m:=q.m+0) (x:=(.map none)) rfl rfl loadMapL h0 (by simp; omega) rfl (fun ι=>(vk (by kernel_rfl) (by kernel_rfl)))) fn)))) fn rfl [] [] [] 0 rfl rfl [(0,sy 0)] (.tuple #[.int .i64 0,.bool false]))
theorem ffHeadZ (q:FQ) (h0:q.xs[q.m+0]? = some (.map (some q.bl))) (hn:q.n=0) : Ev.PieE Try.prog 68 [] 0 11 ⟨q.W0,q.F0⟩ (ff1a2 q) (ff1a3 q) (fun κ:Ev.Ren=>(.tuple #[(.int .i64 0),(.bool false)])) (fun κ:Ev.Ren=>(ff1a3 q)):=(trE (c:=⟨q.W0,q.F0⟩) 20 (kn [Ev.ptrR (Ev.arrV q.bs 66) (q.m),Ev.ptrR (Ev.arrV q.bs 66) (q.m+0),Ev.arrV q.bs 66,.map (some q.bl),iN (q.n)] (fc (Ev.ptrR_leaf _ _) (fc (Ev.ptrR_leaf _ _) fr)) [(.eql,sy 4,.int .i64 0,.bool true)] [] [] (fc (fun _ _ _=>Ev.bt_eql (by have z:=q.z; first | (simp; done) | (simp; omega))) fn) fn fn q.W0 q.F0 [(ff1a3 q)] [⟨[20,113],[sy 0,.pointer none],none,0,none,.bool false,none⟩,⟨[9],[sy 0],none,0,none,sy 0,none⟩,⟨[7,74,0],[sy 0],none,0,none,sy 1,none⟩,⟨[1,72],[sy 1],none,0,none,sy 3,none⟩,⟨[10,72],[sy 3],none,0,none,sy 4,none⟩] []) (fc (Ev.ptr_eql rfl (by kernel_rfl)) (fc (Ev.blk_nil rfl) (fc (by have z:=q.z; exact Ev.sl_field (ci:=1) (fo:=0) rfl rfl (by omega) fldLine0 rfl rfl) (fc (by have z:=q.z; exact Ev.sl_load (ci:=1) (m:=q.m+0) (x:=(.map (some q.bl))) rfl rfl loadMapL h0 (by simp; omega) rfl (fun ι=>(vk (by kernel_rfl) (by kernel_rfl)))) (fc (Ev.e_len lkM (ci:=2) rfl rfl rfl rfl) fn))))) fn rfl [] [] [] 0 rfl rfl [(0,sy 0)] (.tuple #[.int .i64 0,.bool false]))
theorem ffHeadP (q:FQ) (h0:q.xs[q.m+0]? = some (.map (some q.bl))) (hn:0 < q.n) (h1:q.xs[q.m+1]? = some (.int .i64 q.hd)) : Ev.PieE Try.prog 68 [] 0 11 ⟨q.W0,q.F0⟩ (ff1a2 q) (ff1a3 q) (fun κ:Ev.Ren=>(.tuple #[(iz (q.hd)),(.bool true)])) (fun κ:Ev.Ren=>(ff1a3 q)):=(trE (c:=⟨q.W0,q.F0⟩) 20 (kn [Ev.ptrR (Ev.arrV q.bs 66) (q.m),Ev.ptrR (Ev.arrV q.bs 66) (q.m+0),Ev.ptrR (Ev.arrV q.bs 66) (q.m+1),Ev.arrV q.bs 66,.map (some q.bl),iN (q.n),iz (q.hd)] (fc (Ev.ptrR_leaf _ _) (fc (Ev.ptrR_leaf _ _) (fc (Ev.ptrR_leaf _ _) fr))) [(.eql,sy 5,.int .i64 0,.bool false)] [] [] (fc (fun _ _ _=>Ev.bt_eql (by have z:=q.z; first | (simp; done) | (simp; omega))) fn) fn fn q.W0 q.F0 [(ff1a3 q)] [⟨[20,113],[sy 0,.pointer none],none,0,none,.bool false,none⟩,⟨[9],[sy 0],none,0,none,sy 0,none⟩,⟨[7,74,0],[sy 0],none,0,none,sy 1,none⟩,⟨[1,72],[sy 1],none,0,none,sy 4,none⟩,⟨[10,72],[sy 4],none,0,none,sy 5,none⟩,⟨[7,74,1],[sy 0],none,0,none,sy 2,none⟩,⟨[1,3],[sy 2],none,0,none,sy 6,none⟩] []) (fc (Ev.ptr_eql rfl (by kernel_rfl)) (fc (Ev.blk_nil rfl) (fc (by have z:=q.z; exact Ev.sl_field (ci:=1) (fo:=0) rfl rfl (by omega) fldLine0 rfl rfl) (fc (by have z:=q.z; exact Ev.sl_load (ci:=1) (m:=q.m+0) (x:=(.map (some q.bl))) rfl rfl loadMapL h0 (by simp; omega) rfl (fun ι=>(vk (by kernel_rfl) (by kernel_rfl)))) (fc (Ev.e_len lkM (ci:=2) rfl rfl rfl rfl) (fc (by have z:=q.z; exact Ev.sl_field (ci:=1) (fo:=1) rfl rfl (by omega) fldLine1 rfl rfl) (fc (by have z:=q.z; exact Ev.sl_load (ci:=1) (m:=q.m+1) (x:=(iz (q.hd))) rfl rfl loadInt h1 (by simp; omega) rfl (fun ι=>(vk (by kernel_rfl) (by kernel_rfl)))) fn))))))) fn rfl [] [] [] 0 rfl rfl [(0,sy 0)] (.tuple #[sy 6,.bool true]))
end Go.Proofs.Ytankbefdlbcdnaa
namespace Go.Proofs.Ytankbefdlbcdnaa
open Go.RowKit
open Go.Ev (iz iN pz)
set_option linter.unusedVariables false
set_option linter.unusedSimpArgs false
theorem get_ne {xs:List Value} {a b:Nat} {x v:Value} (hne:a ≠ b) (h:xs[b]? = some v) : (xs.set a x)[b]? = some v:=by
 rw [List.getElem?_set_ne hne]
 exact h
abbrev sA (bs:Nat) (xs:List Value) : Ev.Asr:=Ev.slA 79 1 (Ev.arrV bs 66) 66 xs
abbrev sP (bs m:Nat) : Value:=Ev.ptrR (Ev.arrV bs 66) m
def oV:Option Nat→Value
 | none=>.map none
 | some b=>.map (some b)
def lnA (o:Option Nat) (n:Nat) (f:Int→Option Lk) : Ev.Asr:=match o with
 | none=>Ev.nilA
 | some b=>lkA b n f
section
variable {w:World} {F:Nat→Prop} {bs m:Nat} {xs:List Value} {n:Nat} {f:Int→Option Lk}
abbrev fq (w:World) (F:Nat→Prop) (bs m:Nat) (xs:List Value) (b n:Nat) (f:Int→Option Lk) (x ka kb hd tl:Int) (h:m+4≤66∧n≤4096∧0≤x∧x < 4096) : FQ:=⟨w,F,bs,xs,m,b,n,f,x,ka,kb,hd,tl,h⟩
theorem has_n (hm:m+4≤66) {x:Int} (hx:0≤x∧x < 4096) (h0:xs[m]? = some (.map none)) (h:Ev.Now [sA bs xs] F w) :
  Calls Try.prog 79 #[sP bs m,iz x] w fun e w'=>e=.returned (.bool false)∧Ev.Hold ⟨w,F⟩ [sA bs xs] w' :=
 startP (ffHasN (fq w F bs m xs 0 0 (fun _=>none) x 0 0 0 0 ⟨hm,by decide,hx⟩) h0) (by kernel_rfl) h (by simp) (by simp) (fun κ w1 h1=>⟨rfl,h1⟩)
theorem has_no (b:Nat) (hm:m+4≤66) (hn:n≤4096) {x:Int} (hx:0≤x∧x < 4096) (h0:xs[m]? = some (.map (some b))) (hf:f x=none) (h:Ev.Now [sA bs xs,lkA b n f] F w) :
  Calls Try.prog 79 #[sP bs m,iz x] w fun e w'=>e=.returned (.bool false)∧Ev.Hold ⟨w,F⟩ [sA bs xs,lkA b n f] w' :=
 startP (ffHasM (fq w F bs m xs b n f x 0 0 0 0 ⟨hm,hn,hx⟩) h0 hf) (by kernel_rfl) h (by simp) (by simp) (fun κ w1 h1=>⟨rfl,h1⟩)
theorem has_yes (b:Nat) (hm:m+4≤66) (hn:n≤4096) {x ka kb:Int} {y:Bool} (hx:0≤x∧x < 4096) (h0:xs[m]? = some (.map (some b))) (hf:f x=some ⟨ka,kb,false,y⟩) (h:Ev.Now [sA bs xs,lkA b n f] F w) :
  Calls Try.prog 79 #[sP bs m,iz x] w fun e w'=>e=.returned (.bool true)∧Ev.Hold ⟨w,F⟩ [sA bs xs,lkA b n f] w':=by
 cases y with
 | false=>exact startP (ffHasY0 (fq w F bs m xs b n f x ka kb 0 0 ⟨hm,hn,hx⟩) h0 hf) (by kernel_rfl) h (by simp) (by simp) (fun κ w1 h1=>⟨rfl,h1⟩)
 | true=>exact startP (ffHasY1 (fq w F bs m xs b n f x ka kb 0 0 ⟨hm,hn,hx⟩) h0 hf) (by kernel_rfl) h (by simp) (by simp) (fun κ w1 h1=>⟨rfl,h1⟩)
theorem head_n (hm:m+4≤66) (h0:xs[m]? = some (.map none)) (h:Ev.Now [sA bs xs] F w) :
  Calls Try.prog 68 #[sP bs m] w fun e w'=>e=.returned (.tuple #[.int .i64 0,.bool false])∧Ev.Hold ⟨w,F⟩ [sA bs xs] w' :=
 startP (ffHeadN (fq w F bs m xs 0 0 (fun _=>none) 0 0 0 0 0 ⟨hm,by decide,by decide,by decide⟩) h0) (by kernel_rfl) h (by simp) (by simp) (fun κ w1 h1=>⟨rfl,h1⟩)
theorem head_z (b:Nat) (hm:m+4≤66) (h0:xs[m]? = some (.map (some b))) (h:Ev.Now [sA bs xs,lkA b 0 f] F w) :
  Calls Try.prog 68 #[sP bs m] w fun e w'=>e=.returned (.tuple #[.int .i64 0,.bool false])∧Ev.Hold ⟨w,F⟩ [sA bs xs,lkA b 0 f] w' :=
 startP (ffHeadZ (fq w F bs m xs b 0 f 0 0 0 0 0 ⟨hm,by decide,by decide,by decide⟩) h0 rfl) (by kernel_rfl) h (by simp) (by simp) (fun κ w1 h1=>⟨rfl,h1⟩)
theorem head_p (b:Nat) (hm:m+4≤66) (hn:n≤4096) (hp:0 < n) {hd:Int} (h0:xs[m]? = some (.map (some b))) (h1:xs[m+1]? = some (.int .i64 hd)) (h:Ev.Now [sA bs xs,lkA b n f] F w) :
  Calls Try.prog 68 #[sP bs m] w fun e w'=>e=.returned (.tuple #[iz hd,.bool true])∧Ev.Hold ⟨w,F⟩ [sA bs xs,lkA b n f] w' :=
 startP (ffHeadP (fq w F bs m xs b n f 0 0 0 hd 0 ⟨hm,hn,by decide,by decide⟩) h0 hp h1) (by kernel_rfl) h (by simp) (by simp) (fun κ w1 h1=>⟨rfl,h1⟩)
end
end Go.Proofs.Ytankbefdlbcdnaa
namespace Go.Proofs.Ytankbefdlbcdnaa
open Go.RowKit
open Go.Ev (sy iz uz wz iN uN wN pz dv fc fn ak vk vd kn pc cc cr cm cd fr)
set_option linter.unusedVariables false
set_option linter.unusedSimpArgs false
set_option maxRecDepth 8000
attribute [local irreducible] Ev.wpL
structure FP where
 W0:World
 F0:Nat→Prop
 bs:Nat
 xs:List Value
 m:Nat
 bl:Nat
 n:Nat
 f:Int→Option Lk
 x:Int
 lv:Value
 llv:Ev.leafV lv=true
 b2:Nat
 ka:Int
 kb:Int
 tl:Int
 h:m+4≤66∧n≤4096∧0≤x∧x < 4096
theorem FP.z (q:FP) : q.m+4≤66∧q.n≤4096∧0≤q.x∧q.x < 4096:=q.h
abbrev ff3a0 (q:FP) : Ev.Asr:=Ev.slA 79 1 (Ev.arrV q.bs 66) 66 (q.xs)
abbrev ff3a1 (q:FP) : Ev.Asr:=Ev.slA 3 1 (q.lv) (1) ([.int .i64 q.x])
abbrev ff3a2 (q:FP) : List Ev.Asr:=[(ff3a0 q),(ff3a1 q)]
abbrev ff3a9 (q:FP) : List Ev.Asr:=[(ff3a0 q),lkA q.b2 (0) (fun _=>none),(ff3a1 q)]
abbrev ff3a10 (q:FP) : Ev.Asr:=lkA q.b2 (0+1) (Ev.updE (fun _=>none) ((q.x)) (some (⟨0,0,false,false⟩ : Lk)))
abbrev ff3a11 (q:FP) : List Ev.Asr:=[(ff3a0 q),(ff3a10 q),(ff3a1 q)]
abbrev ff3a13 (q:FP) : List Ev.Asr:=[(ff3a0 q),lkA q.bl (q.n) (q.f),(ff3a1 q)]
abbrev ff3a15 (q:FP) : List Ev.Asr:=[(ff3a0 q),lkA q.bl (q.n) (q.f),lkA q.b2 (0) (fun _=>none),(ff3a1 q)]
abbrev ff3a16 (q:FP) : List Ev.Asr:=[(ff3a0 q),lkA q.bl (q.n) (q.f),(ff3a10 q),(ff3a1 q)]
theorem fgAN (q:FP) : Ev.Pie Try.prog 76 [] 0 2 33 ⟨q.W0,q.F0⟩ [(0,(Ev.ptrR (Ev.arrV q.bs 66) (q.m))),(1,(q.lv))] (ff3a2 q) .normal (fun κ:Ev.Ren=>[(0,(Ev.ptrR (Ev.arrV q.bs 66) (q.m))),(1,(q.lv)),(5,(dv κ 403))]) (fun κ:Ev.Ren=>[(ff3a0 q),(ff3a1 q),lkV (dv κ 403) 0 (fun _=>none)]):=(tr (c:=⟨q.W0,q.F0⟩) (kn [Ev.ptrR (Ev.arrV q.bs 66) (q.m),q.lv,Ev.arrV q.bs 66] (fc (Ev.ptrR_leaf _ _) (fc q.llv fr)) [] [] [] fn fn fn q.W0 q.F0 [(ff3a2 q),[(ff3a0 q),(ff3a1 q),Ev.atD 403 (fun v=>lkV v 0 (fun _=>none))]] [⟨[18,72],[],none,0,some 403,.complex .f32 403 0,some 1⟩] []) (fc (Ev.mk_mapE rfl rfl) fn) fn rfl [] [] [] 1 rfl rfl [(0,sy 0),(1,sy 1)] [(0,sy 0),(1,sy 1),(5,.complex .f32 403 0)] .normal).conv (fun κ w=>⟨(fun _ h=>h),(fun _ h=>h),(fun _ h=>Ev.undy (a:=fun v=>lkV v 0 (fun _=>none)) (fun _ _ _ _ _ h=>h) h),trivial⟩)
theorem fgBN (q:FP) (h0:q.xs[q.m]? = some (.map none)) : Ev.PieE Try.prog 76 [] 2 33 ⟨q.W0,q.F0⟩ [(0,(Ev.ptrR (Ev.arrV q.bs 66) (q.m))),(1,(q.lv)),(5,(.map (some q.b2)))] (ff3a9 q) (fun κ:Ev.Ren=>(.bool true)) (fun κ:Ev.Ren=>(ff3a11 q)):=(trE (c:=⟨q.W0,q.F0⟩) 20 (kn [Ev.ptrR (Ev.arrV q.bs 66) (q.m),q.lv,Ev.ptrR (q.lv) (0 * 1),Ev.arrV q.bs 66,.map (some q.b2),iN (1),iz (q.x)] (fc (Ev.ptrR_leaf _ _) (fc q.llv (fc (Ev.ptrR_leaf _ _) fr))) [(.lss,.int .i64 0,sy 5,.bool true),(.lss,.int .i64 1,sy 5,.bool false)] [] [] (fc (fun _ _ _=>Ev.bt_lss (by have z:=q.z; first | (simp; done) | (simp; omega))) (fc (fun _ _ _=>Ev.bt_lss (by have z:=q.z; first | (simp; done) | (simp; omega))) fn)) fn fn q.W0 q.F0 [(ff3a9 q),(ff3a9 q),(ff3a11 q)] [⟨[10,37],[sy 1],none,0,none,sy 5,none⟩,⟨[3,37],[sy 1,.int .i64 0],none,0,none,sy 2,none⟩,⟨[1,3],[sy 2],none,0,none,sy 6,none⟩,⟨[5,72,1],[sy 4,sy 6],none,0,none,.tuple #[.agg #[.int .i64 0,.int .i64 0,.bool false,.bool false],.bool false],none⟩,⟨[6,72],[sy 4,sy 6,.agg #[.int .i64 0,.int .i64 0,.bool false,.bool false]],none,1,none,undef,some 2⟩] [⟨79,[sy 0,sy 6],0,none,.bool false,some 1⟩]) (fc (by obtain ⟨i,i1,i2,i3,i4⟩:=infInt; exact Ev.sl_len (ci:=3) rfl rfl Try.underlying37 i2 rfl rfl) (fc (by obtain ⟨i,i1,i2,i3,i4⟩:=infInt; have z:=q.z; exact Ev.sl_indexL (ci:=3) (j:=0) rfl rfl Try.underlying37 i1 i2 rfl Ev.isInt (by omega) rfl) (fc (by have z:=q.z; exact Ev.sl_load (ci:=3) (m:=0 * 1) (x:=(iz (q.x))) rfl rfl loadInt rfl (by decide) rfl (fun ι=>(vk (by kernel_rfl) (by kernel_rfl)))) (fc (by have z:=q.z; exact Ev.e_ok lkM (ci:=2) (x:=lk0) rfl rfl rfl rfl (by first | assumption | exact wfI_of (by omega) (by omega)) rfl rfl (fun ι=>(vk (by kernel_rfl) (by kernel_rfl)))) (fc (by have z:=q.z; exact Ev.e_put lkM (ci:=2) (x:=(⟨0,0,false,false⟩ : Lk)) rfl rfl rfl rfl rfl rfl (by first | assumption | exact wfI_of (by omega) (by omega)) (by unfold maxLen; omega) (Ev.isAgg (Ev.args_cons Ev.isInt (Ev.args_cons Ev.isInt (Ev.args_cons Ev.isBool (Ev.args_cons Ev.isBool Ev.args_nil)))))) fn))))) (fc (cc rfl [Ev.slA 79 1 (Ev.arrV q.bs 66) 66 (q.xs)] [0] [1,2] (fun w F ho hn hF=>has_n q.z.1 q.z.2.2 h0 hn)) fn) rfl [] [] [] 2 rfl rfl [(0,sy 0),(1,sy 1),(5,sy 4)] (.bool true))
theorem fgAM (q:FP) : Ev.Pie Try.prog 76 [] 0 2 33 ⟨q.W0,q.F0⟩ [(0,(Ev.ptrR (Ev.arrV q.bs 66) (q.m))),(1,(q.lv))] (ff3a13 q) .normal (fun κ:Ev.Ren=>[(0,(Ev.ptrR (Ev.arrV q.bs 66) (q.m))),(1,(q.lv)),(5,(dv κ 403))]) (fun κ:Ev.Ren=>[(ff3a0 q),lkA q.bl (q.n) (q.f),(ff3a1 q),lkV (dv κ 403) 0 (fun _=>none)]):=(tr (c:=⟨q.W0,q.F0⟩) (kn [Ev.ptrR (Ev.arrV q.bs 66) (q.m),q.lv,Ev.arrV q.bs 66] (fc (Ev.ptrR_leaf _ _) (fc q.llv fr)) [] [] [] fn fn fn q.W0 q.F0 [(ff3a13 q),[(ff3a0 q),lkA q.bl (q.n) (q.f),(ff3a1 q),Ev.atD 403 (fun v=>lkV v 0 (fun _=>none))]] [⟨[18,72],[],none,0,some 403,.complex .f32 403 0,some 1⟩] []) (fc (Ev.mk_mapE rfl rfl) fn) fn rfl [] [] [] 1 rfl rfl [(0,sy 0),(1,sy 1)] [(0,sy 0),(1,sy 1),(5,.complex .f32 403 0)] .normal).conv (fun κ w=>⟨(fun _ h=>h),(fun _ h=>h),(fun _ h=>h),(fun _ h=>Ev.undy (a:=fun v=>lkV v 0 (fun _=>none)) (fun _ _ _ _ _ h=>h) h),trivial⟩)
theorem fgBM (q:FP) (h0:q.xs[q.m]? = some (.map (some q.bl))) (hx:q.f q.x=none) : Ev.PieE Try.prog 76 [] 2 33 ⟨q.W0,q.F0⟩ [(0,(Ev.ptrR (Ev.arrV q.bs 66) (q.m))),(1,(q.lv)),(5,(.map (some q.b2)))] (ff3a15 q) (fun κ:Ev.Ren=>(.bool true)) (fun κ:Ev.Ren=>(ff3a16 q)):=(trE (c:=⟨q.W0,q.F0⟩) 20 (kn [Ev.ptrR (Ev.arrV q.bs 66) (q.m),q.lv,Ev.ptrR (q.lv) (0 * 1),Ev.arrV q.bs 66,.map (some q.b2),iN (1),iz (q.x)] (fc (Ev.ptrR_leaf _ _) (fc q.llv (fc (Ev.ptrR_leaf _ _) fr))) [(.lss,.int .i64 0,sy 5,.bool true),(.lss,.int .i64 1,sy 5,.bool false)] [] [] (fc (fun _ _ _=>Ev.bt_lss (by have z:=q.z; first | (simp; done) | (simp; omega))) (fc (fun _ _ _=>Ev.bt_lss (by have z:=q.z; first | (simp; done) | (simp; omega))) fn)) fn fn q.W0 q.F0 [(ff3a15 q),(ff3a15 q),(ff3a16 q)] [⟨[10,37],[sy 1],none,0,none,sy 5,none⟩,⟨[3,37],[sy 1,.int .i64 0],none,0,none,sy 2,none⟩,⟨[1,3],[sy 2],none,0,none,sy 6,none⟩,⟨[5,72,1],[sy 4,sy 6],none,0,none,.tuple #[.agg #[.int .i64 0,.int .i64 0,.bool false,.bool false],.bool false],none⟩,⟨[6,72],[sy 4,sy 6,.agg #[.int .i64 0,.int .i64 0,.bool false,.bool false]],none,1,none,undef,some 2⟩] [⟨79,[sy 0,sy 6],0,none,.bool false,some 1⟩]) (fc (by obtain ⟨i,i1,i2,i3,i4⟩:=infInt; exact Ev.sl_len (ci:=4) rfl rfl Try.underlying37 i2 rfl rfl) (fc (by obtain ⟨i,i1,i2,i3,i4⟩:=infInt; have z:=q.z; exact Ev.sl_indexL (ci:=4) (j:=0) rfl rfl Try.underlying37 i1 i2 rfl Ev.isInt (by omega) rfl) (fc (by have z:=q.z; exact Ev.sl_load (ci:=4) (m:=0 * 1) (x:=(iz (q.x))) rfl rfl loadInt rfl (by decide) rfl (fun ι=>(vk (by kernel_rfl) (by kernel_rfl)))) (fc (by have z:=q.z; exact Ev.e_ok lkM (ci:=3) (x:=lk0) rfl rfl rfl rfl (by first | assumption | exact wfI_of (by omega) (by omega)) rfl rfl (fun ι=>(vk (by kernel_rfl) (by kernel_rfl)))) (fc (by have z:=q.z; exact Ev.e_put lkM (ci:=3) (x:=(⟨0,0,false,false⟩ : Lk)) rfl rfl rfl rfl rfl rfl (by first | assumption | exact wfI_of (by omega) (by omega)) (by unfold maxLen; omega) (Ev.isAgg (Ev.args_cons Ev.isInt (Ev.args_cons Ev.isInt (Ev.args_cons Ev.isBool (Ev.args_cons Ev.isBool Ev.args_nil)))))) fn))))) (fc (cc rfl [Ev.slA 79 1 (Ev.arrV q.bs 66) 66 (q.xs),lkA q.bl (q.n) (q.f)] [0,1] [2,3] (fun w F ho hn hF=>has_no q.bl q.z.1 q.z.2.1 q.z.2.2 h0 hx hn)) fn) rfl [] [] [] 2 rfl rfl [(0,sy 0),(1,sy 1),(5,sy 4)] (.bool true))
end Go.Proofs.Ytankbefdlbcdnaa
namespace Go.Proofs.Ytankbefdlbcdnaa
open Go.RowKit
open Go.Ev (iz iN pz)
set_option linter.unusedVariables false
set_option linter.unusedSimpArgs false
attribute [local irreducible] Ev.wpL
abbrev oneA (lv:Value) (x:Int) : Ev.Asr:=Ev.slA 3 1 lv 1 [.int .i64 x]
section
variable {w:World} {F:Nat→Prop} {bs m:Nat} {xs:List Value} {n:Nat} {f:Int→Option Lk} {x:Int} {lv:Value}
theorem hold_map {c:Ev.Ctx} {v:Value} {n:Nat} {f:Int→Option Lk} {l:List Ev.Asr} {w:World} (h:Ev.Hold c (lkV v n f::l) w) : ∃ b,v=.map (some b)∧Ev.Hold c (lkA b n f::l) w :=
 Ev.Hold.headE (b:=fun b=>lkA b n f) (p:=fun b=>v=.map (some b)) h (fun G ⟨b,e,h1⟩=>⟨b,e,h1⟩)
abbrev fp (w:World) (F:Nat→Prop) (bs m:Nat) (xs:List Value) (b n:Nat) (f:Int→Option Lk) (x:Int) (lv:Value) (llv:Ev.leafV lv=true) (b2:Nat) (ka kb tl:Int) (h:m+4≤66∧n≤4096∧0≤x∧x < 4096) : FP:=⟨w,F,bs,xs,m,b,n,f,x,lv,llv,b2,ka,kb,tl,h⟩
theorem head_zn (b:Nat) (hm:m+4≤66) (hz:n=0) (h0:xs[m]? = some (.map (some b))) (h:Ev.Now [sA bs xs,lkA b n f] F w) :
  Calls Try.prog 68 #[sP bs m] w fun e w'=>e=.returned (.tuple #[.int .i64 0,.bool false])∧Ev.Hold ⟨w,F⟩ [sA bs xs,lkA b n f] w':=by
 subst hz
 exact head_z b hm h0 h
theorem fits_n (hm:m+4≤66) (hx:0≤x∧x < 4096) (h0:xs[m]? = some (.map none)) (h:Ev.Now [sA bs xs,oneA lv x] F w) :
  Calls Try.prog 76 #[sP bs m,lv] w fun e w'=>e=.returned (.bool true)∧Ev.Hold ⟨w,F⟩ [sA bs xs,oneA lv x] w':=by
 have llv:Ev.leafV lv=true:=hold_leaf ((Ev.Hold.start h).sel [1] (by kernel_rfl))
 refine Ev.con_start (N:=33) (tm:=[(0,sP bs m),(1,lv)]) (by kernel_rfl) h (by simp) (by simp) (fun A hA=>?_)
 refine fgAN (fp w F bs m xs 0 0 (fun _=>none) x lv llv 0 0 0 0 ⟨hm,by decide,hx⟩) A w _ hA ?_
 intro κ A1 w1 h1
 dsimp only at h1
 have ht:=h1.tm
 obtain ⟨b2,e2,hh⟩:=hold_map (h1.hold.sel [2,0,1] (by kernel_rfl))
 rw [e2] at ht
 refine fgBN (fp w F bs m xs 0 0 (fun _=>none) x lv llv b2 0 0 0 ⟨hm,by decide,hx⟩) h0 A1 w1 _ ⟨h1.sz,h1.df,ht,hh.sel [1,0,2] (by kernel_rfl)⟩ ?_
 intro κ2 w2 h2
 exact ⟨rfl,h2.sel [0,2] (by kernel_rfl)⟩
theorem fits_m (b:Nat) (hm:m+4≤66) (hn:n≤4096) (hx:0≤x∧x < 4096) (h0:xs[m]? = some (.map (some b))) (hf:f x=none) (h:Ev.Now [sA bs xs,lkA b n f,oneA lv x] F w) :
  Calls Try.prog 76 #[sP bs m,lv] w fun e w'=>e=.returned (.bool true)∧Ev.Hold ⟨w,F⟩ [sA bs xs,lkA b n f,oneA lv x] w':=by
 have llv:Ev.leafV lv=true:=hold_leaf ((Ev.Hold.start h).sel [2] (by kernel_rfl))
 refine Ev.con_start (N:=33) (tm:=[(0,sP bs m),(1,lv)]) (by kernel_rfl) h (by simp) (by simp) (fun A hA=>?_)
 refine fgAM (fp w F bs m xs b n f x lv llv 0 0 0 0 ⟨hm,hn,hx⟩) A w _ hA ?_
 intro κ A1 w1 h1
 dsimp only at h1
 have ht:=h1.tm
 obtain ⟨b2,e2,hh⟩:=hold_map (h1.hold.sel [3,0,1,2] (by kernel_rfl))
 rw [e2] at ht
 refine fgBM (fp w F bs m xs b n f x lv llv b2 0 0 0 ⟨hm,hn,hx⟩) h0 hf A1 w1 _ ⟨h1.sz,h1.df,ht,hh.sel [1,2,0,3] (by kernel_rfl)⟩ ?_
 intro κ2 w2 h2
 exact ⟨rfl,h2.sel [0,1,3] (by kernel_rfl)⟩
end
end Go.Proofs.Ytankbefdlbcdnaa
