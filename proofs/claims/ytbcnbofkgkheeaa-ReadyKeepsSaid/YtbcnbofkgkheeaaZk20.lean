/- Part of a proof: see the last text. -/
import Derived.Test.YtbcnbofkgkheeaaZk19
import Derived.Test.YtbcnbofkgkheeaaZk17
import Derived.Test.YtbcnbofkgkheeaaZk16
import Derived.Test.YtbcnbofkgkheeaaZk15
namespace Go.Proofs.Ytbcnbofkgkheeaa
open Go.RowKit
open Go.Ev (sy)
set_option linter.unusedVariables false
set_option linter.unusedSimpArgs false
set_option maxRecDepth 8000
structure GoodC (c:Cfg) (us:List Int) : Prop where
 len:us.length=4+c.off c.n
 u:∀ x ∈ us,U64 x
 ring:∀ p,p < c.n→szW (us.getD (c.word p) 0)≤(c.q:Int)∧us.getD (c.word p+1) 0 < 4294967296
theorem off_inj {s p p' d e:Nat} (hd:d < s) (he:e < s) (h:p * s+d=p' * s+e) : p=p'∧d=e:=by
 rcases Nat.lt_or_ge p p' with hl | hl
 ·have:=Nat.mul_le_mul_right s (show p+1≤p' from hl)
  rw [Nat.succ_mul] at this
  omega
 ·rcases Nat.lt_or_ge p' p with hl2 | hl2
  ·have:=Nat.mul_le_mul_right s (show p'+1≤p from hl2)
   rw [Nat.succ_mul] at this
   omega
  ·obtain rfl:p=p':=by omega
   exact ⟨rfl,by omega⟩
theorem word_inj (c:Cfg) {p p' d e:Nat} (hd:d < 6+c.q) (he:e < 6+c.q) (h:c.word p+d=c.word p'+e) : p=p'∧d=e :=
 off_inj (s:=6+c.q) hd he (by unfold Cfg.word Cfg.off at h; omega)
theorem getD_set (xs:List Int) (a b:Nat) (v:Int) (h:a ≠ b) : (xs.set a v).getD b 0=xs.getD b 0:=by
 rw [List.getD_eq_getElem?_getD,List.getElem?_set_ne h,← List.getD_eq_getElem?_getD]
theorem getD_self (xs:List Int) (a:Nat) (v:Int) (h:a < xs.length) : (xs.set a v).getD a 0=v:=by
 rw [List.getD_eq_getElem?_getD,List.getElem?_set_self h]
 rfl
theorem mem_set_u {xs:List Int} {a:Nat} {v:Int} (h:∀ x ∈ xs,U64 x) (hv:U64 v) : ∀ x ∈ xs.set a v,U64 x:=fun x hx=>by
 rcases List.mem_or_eq_of_mem_set hx with hx | rfl
 ·exact h x hx
 ·exact hv
theorem wrapU_u (n:Int) : U64 (IntKind.u64.wrap n):=by
 unfold U64 IntKind.wrap
 simp [IntKind.signed,IntKind.bits]
 omega
section
variable {c:Cfg} {us:List Int} {p:Nat}
theorem GoodC.word (h:GoodC c us) (hp:p < c.n) {g:Int} (hg:0≤g∧g < 4294967296) {nn:Nat} (hn:nn≤c.q) : GoodC c (us.set (c.word p) (packW g (IntKind.u32.wrap (g+((nn:Nat) : Int))))):=by
 have hq:=c.qb
 have ho:=c.off_le hp
 have hl:=h.len
 rw [wrap32]
 refine ⟨by rw [List.length_set]; exact hl,mem_set_u h.u (by unfold U64 packW; omega),fun p' hp'=>?_⟩
 by_cases e:p=p'
 ·subst e
  rw [getD_self _ _ _ (by unfold Cfg.word; omega),getD_set _ _ _ _ (by omega)]
  refine ⟨?_,(h.ring p hp).2⟩
  unfold szW tlW hdW packW
  omega
 ·rw [getD_set _ (c.word p) (c.word p') _ (fun hh=>e (word_inj c (d:=0) (e:=0) (by omega) (by omega) hh).1),getD_set _ (c.word p) (c.word p'+1) _ (fun hh=>e (word_inj c (d:=0) (e:=1) (by omega) (by omega) hh).1)]
  exact h.ring p' hp'
theorem GoodC.next (h:GoodC c us) (hp:p < c.n) {v:Int} (hv:0≤v∧v < 4294967296) : GoodC c (us.set (c.word p+1) v):=by
 have hq:=c.qb
 have ho:=c.off_le hp
 have hl:=h.len
 refine ⟨by rw [List.length_set]; exact hl,mem_set_u h.u (by unfold U64; omega),fun p' hp'=>?_⟩
 by_cases e:p=p'
 ·subst e
  rw [getD_self _ _ _ (by unfold Cfg.word; omega),getD_set _ _ _ _ (by omega)]
  exact ⟨(h.ring p hp).1,hv.2⟩
 ·rw [getD_set _ (c.word p+1) (c.word p') _ (fun hh=>e (word_inj c (d:=1) (e:=0) (by omega) (by omega) hh).1),getD_set _ _ _ _ (fun hh=>e (word_inj c (d:=1) (e:=1) (by omega) (by omega) hh).1)]
  exact h.ring p' hp'
theorem GoodC.else (h:GoodC c us) (hp:p < c.n) {d:Nat} (hd:2≤d∧d < 6+c.q) {v:Int} (hv:U64 v) : GoodC c (us.set (c.word p+d) v):=by
 have hq:=c.qb
 refine ⟨by rw [List.length_set]; exact h.len,mem_set_u h.u hv,fun p' hp'=>?_⟩
 rw [getD_set _ (c.word p+d) (c.word p') _ (fun hh=>by have:=(word_inj c (d:=d) (e:=0) (by omega) (by omega) hh).2; omega),getD_set _ _ _ _ (fun hh=>by have:=(word_inj c (d:=d) (e:=1) (by omega) (by omega) hh).2; omega)]
 exact h.ring p' hp'
end
theorem good0 (c:Cfg) : GoodC c (List.replicate (4+c.off c.n) 0):=by
 have g:∀ a,(List.replicate (4+c.off c.n) (0:Int)).getD a 0=0:=fun a=>by
  rw [List.getD_eq_getElem?_getD,List.getElem?_replicate]
  split <;> rfl
 refine ⟨by simp,fun x hx=>?_,fun p _=>?_⟩
 ·rw [List.eq_of_mem_replicate hx]
  unfold U64
  omega
 ·rw [g,g]
  have:szW 0=0:=by decide
  rw [this]
  omega
theorem now_off {w:World} {F:Nat→Prop} (h:Ev.Now [] F w) (v:Value) : Ev.OffX F v:=by
 obtain ⟨⟨Fs,h1,h2,h3,h4⟩,h5⟩:=h
 have e:F=fun _=>False:=by
  funext j
  refine propext ⟨fun hj=>?_,fun hj=>hj.elim⟩
  obtain ⟨i,f,k1,k2⟩:=(h4 j).1 hj
  have:Fs=[]:=List.eq_nil_of_length_eq_zero h1
  rw [this] at k1
  cases k1
 rw [e]
 exact Ev.offNone v
abbrev FilP.tm (s:FilP) (ov:Value) (b2 p:Nat) : List (Nat×Value):=[(1,s.bv),(2,.pointer (some ⟨b2,0,none⟩)),(4,.slice none 0 0),(5,ov),(6,.int .i64 ((p:Nat) : Int))]
abbrev FilP.ps (s:FilP) (ov:Value) (b2:Nat) (us:List Int) : List Ev.Asr:=[Ev.blkA b2 [.int .i64 (s.c.n:Int),.int .i64 (s.c.q:Int),.int .i64 s.c.g,.int .i64 s.c.m,.int .i64 s.c.t,.int .i64 s.c.s] 23,Ev.slA 30 1 ov us.length (u64s us)]
section
variable (s:FilP) (ov:Value) {b2 p:Nat} {Q:Exit→Act→World→Prop} {A:Act} {w:World}
theorem set1 {us:List Int} {a:Nat} {v:Int} {l:List Ev.Asr} {ctx:Ev.Ctx} {x:Ev.Asr} (h:Ev.Hold ctx (x::Ev.slA 30 1 ov us.length ((u64s us).set (a * 1) (.int .u64 v))::l) w) : Ev.Hold ctx (x::Ev.slA 30 1 ov (us.set a v).length (u64s (us.set a v))::l) w:=by
 rw [List.length_set,← u64s_set]
 exact h
theorem fil_in {us us':List Int} {A1:Act} {w1:World} {tm:List (Nat×Value)} (hl:us'.length=us.length) (h:Ev.At ⟨s.W0,s.F0⟩ 148 tm [Ev.blkA b2 [.int .i64 (s.c.n:Int),.int .i64 (s.c.q:Int),.int .i64 s.c.g,.int .i64 s.c.m,.int .i64 s.c.t,.int .i64 s.c.s] 23,Ev.slA 30 1 ov us.length (u64s us')] A1 w1) : Ev.At ⟨s.W0,s.F0⟩ 148 tm (s.ps ov b2 us') A1 w1:=by
 unfold FilP.ps
 rw [hl]
 exact h
theorem fil_tail (lov:Ev.leafV ov=true) (hp:p < s.c.n) {us:List Int} (hu:GoodC s.c us) (h:Ev.At ⟨s.W0,s.F0⟩ 148 (s.tm ov b2 p) (s.ps ov b2 us) A w)
  (hok:∀ us' A1 w1,GoodC s.c us'→Ev.At ⟨s.W0,s.F0⟩ 148 (s.tm ov b2 p) (s.ps ov b2 us') A1 w1→Ev.wpL Try.prog (Ev.stm Try.prog 10 [6,0,4] 13) Q A1 w1) :
  Ev.wpL Try.prog (Ev.stm Try.prog 10 [6,0,4] 7) Q A w:=by
 have hq:=s.c.qb
 have hn:=s.c.nb
 by_cases hb2:((s.bs.getD ((4 * p)+2) 0).tmod 3)=0
 ·refine fiRy s ov lov us hu.len b2 p hp hb2 A w _ h ?_
  intro κ A1 w1 h1
  dsimp only at h1
  simp only [u64s_set] at h1
  refine hok _ A1 w1 ?_ (fil_in s ov ?_ h1)
  ·exact ((((hu.next hp (v:=((p * 100+91:Nat) : Int)) (by omega)).else hp (d:=2) (by omega) (wrapU_u _)).else hp (d:=3) (by omega) (wrapU_u _)).else hp (d:=4) (by omega) (wrapU_u _)).else hp (d:=5) (by omega) (wrapU_u _)
  ·simp only [List.length_set]
 ·refine fiRn s ov lov us hu.len b2 p hp hb2 A w _ h ?_
  intro κ A1 w1 h1
  dsimp only at h1
  simp only [u64s_set] at h1
  refine hok _ A1 w1 ?_ (fil_in s ov ?_ h1)
  ·exact (((hu.else hp (d:=2) (by omega) (wrapU_u _)).else hp (d:=3) (by omega) (wrapU_u _)).else hp (d:=4) (by omega) (wrapU_u _)).else hp (d:=5) (by omega) (wrapU_u _)
  ·simp only [List.length_set]
theorem fil_ring (lov:Ev.leafV ov=true) (hp:p < s.c.n) {us:List Int} (hu:GoodC s.c us) {g:Int} (hg:0≤g∧g < 4294967296) {nn:Nat} (hn:nn≤s.c.q) (h:Ev.At ⟨s.W0,s.F0⟩ 148 (s.tm ov b2 p++[(7,.int .u32 g),(8,.int .u32 ((nn:Nat) : Int)),(9,.int .u32 0)]) (s.ps ov b2 us) A w)
  (hok:∀ us' A1 w1,GoodC s.c us'→Ev.At ⟨s.W0,s.F0⟩ 148 (s.tm ov b2 p) (s.ps ov b2 us') A1 w1→Ev.wpL Try.prog (Ev.stm Try.prog 10 [6,0,4] 7) Q A1 w1) :
  Ev.wpL Try.prog (Ev.stm Try.prog 10 [6,0,4] 6) Q A w:=by
 have hq:=s.c.qb
 refine Ev.in_block (id:=2) (by kernel_rfl) ?_
 refine Ev.loop_st (by kernel_rfl) (fun (x:Nat×List Int) A w=>Ev.At ⟨s.W0,s.F0⟩ 148 (s.tm ov b2 p++[(7,.int .u32 g),(8,.int .u32 ((nn:Nat) : Int)),(9,.int .u32 ((x.1:Nat) : Int))]) (s.ps ov b2 x.2) A w∧x.1≤nn∧GoodC s.c x.2) (fun x=>nn - x.1) (x:=(0,us)) ⟨h,Nat.zero_le _,hu⟩ ?_
 clear h hu
 rintro ⟨ix,us⟩ A w ⟨h,hx,hu⟩
 replace hx:ix≤nn:=hx
 replace hu:GoodC s.c us:=hu
 by_cases hlt:ix < nn
 ·refine fiS s ov lov us hu.len b2 p hp g hg nn hn ix hlt A w _ h ?_
  intro κ A1 w1 h1
  have hs:=s.c.slotI_lt (IntKind.u32.wrap (g+(ix:Int)))
  have e:s.c.slot p (IntKind.u32.wrap (g+(ix:Int)))=s.c.word p+(6+s.c.slotI (IntKind.u32.wrap (g+(ix:Int)))):=rfl
  refine Ev.wpL_nil (by kernel_rfl) ⟨(ix+1,us.set (s.c.slot p (IntKind.u32.wrap (g+(ix:Int)))) (IntKind.u64.wrap (((p * 100:Nat) : Int)+((ix:Nat) : Int)))),⟨h1.to (fun q hq=>hq) (fun hh=>set1 ov hh),hlt,?_⟩,by show nn - (ix+1) < nn - ix; omega⟩
  show GoodC s.c (us.set (s.c.slot p _) _)
  rw [e]
  exact hu.else hp (by omega) (wrapU_u _)
 ·refine fiT s ov lov us hu.len b2 p hp g hg nn hn ix hlt A w _ h ?_
  intro κ A1 w1 h1
  exact hok us A1 w1 hu h1
theorem fil_body (lov:Ev.leafV ov=true) (hp:p < s.c.n) {us:List Int} (hu:GoodC s.c us) (h:Ev.At ⟨s.W0,s.F0⟩ 148 (s.tm ov b2 p) (s.ps ov b2 us) A w)
  (hok:∀ us' A1 w1,GoodC s.c us'→Ev.At ⟨s.W0,s.F0⟩ 148 (s.tm ov b2 p) (s.ps ov b2 us') A1 w1→Ev.wpL Try.prog (Ev.stm Try.prog 10 [6,0,4] 13) Q A1 w1) :
  Ev.wpL Try.prog (Ev.stm Try.prog 10 [6,0,4] 0) Q A w:=by
 have hq:=s.c.qb
 have rest:∀ (g:Int) (hg:0≤g∧g < 4294967296) A1 w1,Ev.At ⟨s.W0,s.F0⟩ 148 (s.tm ov b2 p++[(7,.int .u32 g)]) (s.ps ov b2 us) A1 w1→Ev.wpL Try.prog (Ev.stm Try.prog 10 [6,0,4] 3) Q A1 w1:=by
  intro g hg A1 w1 h1
  have hz:=s.hz (4 * p+1)
  have hm:0≤(s.bs.getD (4 * p+1) 0).tmod ((s.c.q+1:Nat) : Int)∧(s.bs.getD (4 * p+1) 0).tmod ((s.c.q+1:Nat) : Int) < ((s.c.q+1:Nat) : Int):=⟨Int.tmod_nonneg _ hz.1,Int.tmod_lt_of_pos _ (by omega)⟩
  obtain ⟨nn,hnn⟩:=Int.eq_ofNat_of_zero_le hm.1
  have hnq:nn≤s.c.q:=by have:=hm.2; rw [hnn] at this; omega
  refine fiW s ov lov us hu.len b2 p hp g hg nn hnn hnq A1 w1 _ h1 ?_
  intro κ A2 w2 h2
  exact fil_ring s ov lov hp (hu.word hp hg hnq) hg hnq (h2.to (fun q hq=>hq) (fun hh=>set1 ov hh)) (fun us' A3 w3 hu' h3=>fil_tail s ov lov hp hu' h3 hok)
 have b32:∀ n:Int,0≤IntKind.u32.wrap n∧IntKind.u32.wrap n < 4294967296:=fun n=>by rw [wrap32]; omega
 by_cases hb:((s.bs.getD (4 * p) 0).tmod 5)=0
 ·refine fiHy s ov lov us hu.len b2 p hp hb A w _ h ?_
  intro κ A1 w1 h1
  exact rest _ (b32 _) A1 w1 h1
 ·refine fiHn s ov lov us hu.len b2 p hp hb A w _ h ?_
  intro κ A1 w1 h1
  exact rest _ (b32 _) A1 w1 h1
end
theorem filled_ok {w:World} {F:Nat→Prop} (c:Cfg) {bv:Value} {bs:List Int} (hs:Ev.SlR 1 bv bs.length (u8s bs) w) (hb:bs.length≤1000) (hz:∀ i,0≤bs.getD i 0∧bs.getD i 0 < 256) (h:Ev.Now [] F w) :
  Calls Try.prog 10 #[c.v,bv] w fun e w'=>∃ v cd us,GoodC c us∧Ev.dec cd=v∧e=.returned v∧Ev.Hold ⟨w,F⟩ [Ev.slA 30 1 v us.length (u64s us)] w':=by
 let s:FilP:=⟨w,F,c,bv,bs,hs,now_off h bv,hb,hz⟩
 refine Ev.con_start (N:=148) (tm:=[(0,c.v),(1,bv)]) (by kernel_rfl) h (by simp) (by simp) (fun A hA=>?_)
 refine fiA s A w _ hA ?_
 intro κ A1 w1 h1
 dsimp only at h1
 have lov:Ev.leafV (Ev.dv κ 407)=true:=Ev.dec_leaf _
 have eov:∃ cd,Ev.dec cd=Ev.dv κ 407:=⟨_,rfl⟩
 generalize (κ 400).getD 0=b2 at h1
 generalize Ev.dv κ 407=ov at h1 lov eov
 refine Ev.in_block (id:=0) (by kernel_rfl) ?_
 refine Ev.loop_st (by kernel_rfl) (fun (x:Nat×List Int) A w'=>Ev.At ⟨w,F⟩ 148 [(1,bv),(2,.pointer (some ⟨b2,0,none⟩)),(4,.slice none 0 0),(5,ov),(6,.int .i64 ((x.1:Nat) : Int))] [Ev.blkA b2 [.int .i64 (c.n:Int),.int .i64 (c.q:Int),.int .i64 c.g,.int .i64 c.m,.int .i64 c.t,.int .i64 c.s] 23,Ev.slA 30 1 ov x.2.length (u64s x.2)] A w'∧x.1≤c.n∧GoodC c x.2) (fun x=>c.n - x.1) (x:=(0,List.replicate (4+c.off c.n) 0)) ⟨h1.to (fun q hq=>hq) (fun hh=>?_),Nat.zero_le _,good0 c⟩ ?_
 ·have e:(List.replicate (4+c.off c.n) (0:Int)).length=4+c.off c.n:=by simp
  simp only [e,u64s_rep]
  exact hh
 clear h1 hA A1 w1
 rintro ⟨p,us⟩ A1 w1 ⟨h1,hp,hu⟩
 replace hp:p≤c.n:=hp
 replace hu:GoodC c us:=hu
 by_cases hlt:p < c.n
 ·refine fiC s ov lov us hu.len b2 p hlt A1 w1 _ h1 ?_
  intro κ' A2 w2 h2
  refine Ev.in_block (id:=1) (by kernel_rfl) ?_
  refine fil_body s ov lov hlt hu h2 (fun us' A3 w3 hu' h3=>?_)
  refine Ev.wpL_nil (by kernel_rfl) ?_
  refine fiP s ov lov us' hu'.len b2 p hlt A3 w3 _ h3 ?_
  intro κ4 A4 w4 h4
  exact Ev.wpL_nil (by kernel_rfl) ⟨(p+1,us'),⟨h4,hlt,hu'⟩,by show c.n - (p+1) < c.n - p; omega⟩
 ·obtain rfl:p=c.n:=by omega
  refine fiE s ov lov us hu.len b2 _ hlt A1 w1 _ h1 ?_
  intro κ' A2 w2 h2
  refine fiZ s ov lov us hu.len b2 c.n A2 w2 _ (h2.to (fun q hq=>by simp at hq ⊢; rcases hq with rfl | rfl <;> simp) (fun hh=>hh)) ?_
  intro κ'' w3 h3
  obtain ⟨cd,ecd⟩:=eov
  exact ⟨_,_,_,hu,ecd,rfl,h3.sel [1] (by kernel_rfl)⟩
end Go.Proofs.Ytbcnbofkgkheeaa
namespace Go.Proofs.Ytbcnbofkgkheeaa
open Go.RowKit
open Go.Ev (sy iz uz wz iN uN wN pz dv fc fn ak vk vd kn pc cc cr cm cd fr)
set_option linter.unusedVariables false
set_option linter.unusedSimpArgs false
set_option maxRecDepth 8000
attribute [local irreducible] Ev.wpL
abbrev dm1a1 (cv:Value) (us:List Int) : Ev.Asr:=Ev.slA 30 1 (cv) (us.length) (u64s us)
abbrev dm1a12 (m:MemM) (rv:Value) : Ev.Asr:=Ev.slA 30 1 (rv) (m.cells.length) (u64s m.cells)
abbrev dm1a13 (cv:Value) (us:List Int) (bm:Nat) (m:MemM) (rv:Value) : List Ev.Asr:=[(dm1a1 cv us),memA bm m,(dm1a12 m rv)]
abbrev dm1a20 (cv:Value) (us:List Int) (bm:Nat) (b5:Nat) (b3:Nat) (m:MemM) (rv:Value) : List Ev.Asr:=[Ev.blkA b5 [(rv),(uz (m.ops))] 32,Ev.blkA b3 [(.slice none 0 0),(.int .u64 0)] 32,(dm1a1 cv us),memA bm m,(dm1a12 m rv)]
abbrev dm1a23:List Ev.Blk:=[(4,[sy 1,sy 4],32),(8,[.slice none 0 0,.int .u64 0],32)]
abbrev dm1a25:List (Nat×Value):=[(0,sy 0),(3,.pointer (some ⟨8,0,none⟩)),(4,sy 2),(5,.pointer (some ⟨4,0,none⟩))]
theorem dmA (W0:World) (F0:Nat→Prop) (cv:Value) (lcv:Ev.leafV cv=true) (us:List Int) (hu:us.length≤1000) : Ev.Pie Try.prog 9 [] 0 3 42 ⟨W0,F0⟩ [(0,(cv))] [(dm1a1 cv us)] .normal (fun κ:Ev.Ren=>[(0,(cv)),(3,(pz ((κ 400).getD 0))),(4,(dv κ 407)),(5,(pz ((κ 412).getD 0))),(6,(.int .i64 0))]) (fun κ:Ev.Ren=>[Ev.blkA ((κ 400).getD 0) [(.slice none 0 0),(.int .u64 0)] 32,Ev.blkA ((κ 412).getD 0) [(dv κ 411),(.int .u64 0)] 32,Ev.slA 30 1 (dv κ 411) us.length (u64s (List.replicate us.length 0)),memV (dv κ 407) ⟨List.replicate us.length 0,0⟩,(dm1a1 cv us)]):=(tr (c:=⟨W0,F0⟩) (kn [cv,iN (us.length)] (fc (by assumption) fr) [] [] [] fn fn fn W0 F0 [[(dm1a1 cv us)],[Ev.atD 407 (fun v=>memV v ⟨List.replicate us.length 0,0⟩),(dm1a1 cv us)],[Ev.atD 411 (fun v=>Ev.slA 30 1 v us.length (u64s (List.replicate us.length 0))),Ev.atD 407 (fun v=>memV v ⟨List.replicate us.length 0,0⟩),(dm1a1 cv us)]] [⟨[10,29],[sy 0],none,0,none,sy 1,none⟩,⟨[10,29],[sy 0],none,1,none,sy 1,none⟩] [⟨23,[sy 1],0,some 407,.complex .f32 407 0,some 1⟩,⟨30,[sy 1],1,some 411,.agg #[.complex .f32 411 0,.int .u64 0],some 2⟩]) (fc (by obtain ⟨i,i1,i2,i3,i4⟩:=infU64; exact Ev.sl_len (ci:=1) rfl rfl Try.underlying29 i2 rfl rfl) (fc (by obtain ⟨i,i1,i2,i3,i4⟩:=infU64; exact Ev.sl_len (ci:=2) rfl rfl Try.underlying29 i2 rfl rfl) fn)) (fc (by have q1:=hu; exact cd rfl [fun v=>memV v ⟨List.replicate us.length 0,0⟩] [] [0] (fun w F ho hn hF=>mem_newH (by omega) hn)) (fc (by have q1:=hu; exact cd rfl [fun v=>Ev.slA 30 1 v us.length (u64s (List.replicate us.length 0))] [] [0,1] (fun w F ho hn hF=>rNew_ok (by omega) hn)) fn)) rfl [] [] [(400,[.slice none 0 0,.int .u64 0],32),(412,[.complex .f32 411 0,.int .u64 0],32)] 2 rfl rfl [(0,sy 0)] [(0,sy 0),(3,.pointer (some ⟨400,0,none⟩)),(4,.complex .f32 407 0),(5,.pointer (some ⟨412,0,none⟩)),(6,.int .i64 0)] .normal).conv (fun κ w=>⟨(fun _ h=>h),(fun _ h=>h),(fun _ h=>Ev.undy (a:=fun v=>Ev.slA 30 1 v us.length (u64s (List.replicate us.length 0))) (fun _ _ _ _ _ h=>h) h),(fun _ h=>Ev.undy (a:=fun v=>memV v ⟨List.replicate us.length 0,0⟩) (fun _ _ _ _ _ h=>h) h),(fun _ h=>h),trivial⟩)
theorem dmB (W0:World) (F0:Nat→Prop) (cv:Value) (lcv:Ev.leafV cv=true) (us:List Int) (hu:us.length≤1000) (bm b5 b3:Nat) (m:MemM) (rv:Value) (lrv:Ev.leafV rv=true) (hm:m.cells.length=us.length) (j:Nat) (hj:j < us.length) (x:Int) (hx:us[j]? = some x) : Ev.Pie Try.prog 9 [6,0] 0 4 42 ⟨W0,F0⟩ [(0,(cv)),(3,(pz b3)),(4,(pz bm)),(5,(pz b5)),(6,(iN (j)))] (dm1a20 cv us bm b5 b3 m rv) .normal (fun κ:Ev.Ren=>[(0,(cv)),(3,(pz b3)),(4,(pz bm)),(5,(pz b5)),(6,(iN ((j)+1)))]) (fun κ:Ev.Ren=>[Ev.blkA b5 [(dv κ 407),(uz (IntKind.u64.wrap (m.ops+1)))] 32,Ev.blkA b3 [(.slice none 0 0),(.int .u64 0)] 32,Ev.slA 30 1 (dv κ 407) m.cells.length (u64s (m.cells.set j x)),memA bm (m.put j x),(dm1a1 cv us)]):=(tr (c:=⟨W0,F0⟩) (kn [cv,rv,Ev.ptrR (cv) ((j) * 1),pz bm,iN (j),uz (m.ops),iN (us.length),iN (m.cells.length),uz (x),uz (IntKind.u64.wrap (m.ops+1)),iN ((j)+1)] (fc (by assumption) (fc (by assumption) (fc (Ev.ptrR_leaf _ _) fr))) [(.lss,sy 4,sy 6,.bool true),(.lss,sy 4,sy 7,.bool true),(.add,sy 4,.int .i64 1,sy 10)] [] [] (fc (fun _ _ _=>Ev.bt_lss (by have q1:=hu; have q2:=hm; first | (simp; done) | (simp; omega))) (fc (fun _ _ _=>Ev.bt_lss (by have q1:=hu; have q2:=hm; first | (simp; done) | (simp; omega))) (fc (fun _ _ _=>Ev.bt_add (by have q1:=hu; have q2:=hm; rw [wrap_ok (by omega) (by omega)]; omega)) fn))) fn fn W0 F0 [(dm1a13 cv us bm m rv),[memA bm (m.put j x),(dm1a1 cv us),(dm1a12 m rv)],[Ev.atD 407 (fun v=>Ev.slA 30 1 v m.cells.length (u64s (m.cells.set j x))),memA bm (m.put j x),(dm1a1 cv us)]] [⟨[10,29],[sy 0],none,0,none,sy 6,none⟩,⟨[10,29],[sy 1],none,0,none,sy 7,none⟩,⟨[3,29],[sy 0,sy 4],none,0,none,sy 2,none⟩,⟨[1,30],[sy 2],none,0,none,sy 8,none⟩,⟨[3,29],[sy 0,sy 4],none,1,none,sy 2,none⟩,⟨[1,30],[sy 2],none,1,none,sy 8,none⟩] [⟨25,[sy 3,sy 4,sy 8],0,none,.tuple #[],some 1⟩,⟨31,[.agg #[sy 1,sy 5],sy 4,sy 8],1,some 407,.agg #[.complex .f32 407 0,sy 9],some 2⟩]) (fc (by obtain ⟨i,i1,i2,i3,i4⟩:=infU64; exact Ev.sl_len (ci:=1) rfl rfl Try.underlying29 i2 rfl rfl) (fc (by obtain ⟨i,i1,i2,i3,i4⟩:=infU64; exact Ev.sl_len (ci:=3) rfl rfl Try.underlying29 i2 rfl rfl) (fc (by obtain ⟨i,i1,i2,i3,i4⟩:=infU64; have q1:=hu; have q2:=hm; exact Ev.sl_index (ci:=1) (j:=(j)) rfl rfl Try.underlying29 i1 i2 rfl rfl (by omega) rfl) (fc (by have q1:=hu; have q2:=hm; exact Ev.sl_load (ci:=1) (m:=(j) * 1) (x:=(uz (x))) rfl rfl loadU64 (by simp [u64s,List.getElem?_map,hx]) (by simp; omega) rfl (fun ι=>(vk (by kernel_rfl) (by kernel_rfl)))) (fc (by obtain ⟨i,i1,i2,i3,i4⟩:=infU64; have q1:=hu; have q2:=hm; exact Ev.sl_index (ci:=2) (j:=(j)) rfl rfl Try.underlying29 i1 i2 rfl rfl (by omega) rfl) (fc (by have q1:=hu; have q2:=hm; exact Ev.sl_load (ci:=2) (m:=(j) * 1) (x:=(uz (x))) rfl rfl loadU64 (by simp [u64s,List.getElem?_map,hx]) (by simp; omega) rfl (fun ι=>(vk (by kernel_rfl) (by kernel_rfl)))) fn)))))) (fc (cc rfl [memA bm (m.put j x)] [1] [0,2] (fun w F ho hn hF=>mem_storeH hn (by have q1:=hu; have q2:=hm; omega) (by have q1:=hu; have q2:=hm; omega) x)) (fc (cd rfl [fun v=>Ev.slA 30 1 v m.cells.length (u64s (m.cells.set j x))] [2] [0,1] (fun w F ho hn hF=>rStore_ok lrv (by have q1:=hu; have q2:=hm; omega) m.ops (by have q1:=hu; have q2:=hm; omega) x hn)) fn)) rfl [(4,b5),(8,b3)] [(4,[sy 1,sy 5],32),(8,[.slice none 0 0,.int .u64 0],32)] [(4,[.complex .f32 407 0,sy 9],32),(8,[.slice none 0 0,.int .u64 0],32)] 2 rfl rfl [(0,sy 0),(3,.pointer (some ⟨8,0,none⟩)),(4,sy 3),(5,.pointer (some ⟨4,0,none⟩)),(6,sy 4)] [(0,sy 0),(3,.pointer (some ⟨8,0,none⟩)),(4,sy 3),(5,.pointer (some ⟨4,0,none⟩)),(6,sy 10)] .normal).conv (fun κ w=>⟨(fun _ h=>h),(fun _ h=>h),(fun _ h=>Ev.undy (a:=fun v=>Ev.slA 30 1 v m.cells.length (u64s (m.cells.set j x))) (fun _ _ _ _ _ h=>h) h),(fun _ h=>h),(fun _ h=>h),trivial⟩)
theorem dmC (W0:World) (F0:Nat→Prop) (cv:Value) (lcv:Ev.leafV cv=true) (us:List Int) (hu:us.length≤1000) (bm b5 b3:Nat) (m:MemM) (rv:Value) (lrv:Ev.leafV rv=true) (hm:m.cells.length=us.length) (j:Nat) (hj:j=us.length) : Ev.Pie Try.prog 9 [6,0] 0 4 42 ⟨W0,F0⟩ [(0,(cv)),(3,(pz b3)),(4,(pz bm)),(5,(pz b5)),(6,(iN (j)))] (dm1a20 cv us bm b5 b3 m rv) (.exit 0) (fun κ:Ev.Ren=>[(0,(cv)),(3,(pz b3)),(4,(pz bm)),(5,(pz b5))]) (fun κ:Ev.Ren=>(dm1a20 cv us bm b5 b3 m rv)):=(tr (c:=⟨W0,F0⟩) (kn [cv,rv,pz bm,iN (j),uz (m.ops),iN (us.length)] (fc (by assumption) (fc (by assumption) fr)) [(.lss,sy 3,sy 5,.bool false)] [] [] (fc (fun _ _ _=>Ev.bt_lss (by have q1:=hu; have q2:=hm; first | (simp; done) | (simp; omega))) fn) fn fn W0 F0 [(dm1a13 cv us bm m rv)] [⟨[10,29],[sy 0],none,0,none,sy 5,none⟩] []) (fc (by obtain ⟨i,i1,i2,i3,i4⟩:=infU64; exact Ev.sl_len (ci:=1) rfl rfl Try.underlying29 i2 rfl rfl) fn) fn rfl [(4,b5),(8,b3)] dm1a23 dm1a23 0 rfl rfl [(0,sy 0),(3,.pointer (some ⟨8,0,none⟩)),(4,sy 2),(5,.pointer (some ⟨4,0,none⟩)),(6,sy 3)] dm1a25 (.exit 0))
theorem dmD (W0:World) (F0:Nat→Prop) (cv:Value) (lcv:Ev.leafV cv=true) (us:List Int) (hu:us.length≤1000) (bm b5 b3:Nat) (m:MemM) (rv:Value) (lrv:Ev.leafV rv=true) (hm:m.cells.length=us.length) (j:Nat) : Ev.PieE Try.prog 9 [] 4 42 ⟨W0,F0⟩ [(0,(cv)),(3,(pz b3)),(4,(pz bm)),(5,(pz b5))] (dm1a20 cv us bm b5 b3 m rv) (fun κ:Ev.Ren=>(.tuple #[(pz bm),(.agg #[(rv),(uz (m.ops))])])) (fun κ:Ev.Ren=>[Ev.blkA b5 [(rv),(uz (m.ops))] 32,Ev.blkA b3 [(rv),(uz (m.ops))] 32,(dm1a1 cv us),memA bm m,(dm1a12 m rv)]):=(trE (c:=⟨W0,F0⟩) 2 (kn [cv,rv,pz bm,iN (j),uz (m.ops)] (fc (by assumption) (fc (by assumption) fr)) [] [] [] fn fn fn W0 F0 [(dm1a13 cv us bm m rv)] [] []) fn fn rfl [(4,b5),(8,b3)] dm1a23 [(4,[sy 1,sy 4],32),(8,[sy 1,sy 4],32)] 0 rfl rfl dm1a25 (.tuple #[sy 2,.agg #[sy 1,sy 4]]))
end Go.Proofs.Ytbcnbofkgkheeaa
namespace Go.Proofs.Ytbcnbofkgkheeaa
open Go.RowKit
open Go.Ev (sy)
set_option linter.unusedVariables false
set_option linter.unusedSimpArgs false
set_option maxRecDepth 8000
theorem wrapu_ok {n:Int} (h1:0≤n) (h2:n≤18446744073709551615) : IntKind.u64.wrap n=n:=by
 unfold IntKind.wrap
 simp [IntKind.signed,IntKind.bits]
 omega
theorem hold_code {c:Ev.Ctx} {e:TypeId} {sz n:Nat} {v:Value} {xs:List Value} {l:List Ev.Asr} {w:World} (h:Ev.Hold c (Ev.slA e sz v n xs::l) w) : ∃ cd,Ev.dec cd=v:=by
 obtain ⟨f,hf⟩:=h.first
 exact Ev.SlV.code hf
theorem docs_mem {w:World} {F:Nat→Prop} {cv:Value} (lcv:Ev.leafV cv=true) {us:List Int} (hu:us.length≤1000) (h:Ev.Now [Ev.slA 30 1 cv us.length (u64s us)] F w) :
  Calls Try.prog 9 #[cv] w fun e w'=>∃ v cd,Ev.dec cd=v∧e=.returned (.tuple #[Ev.subV 0 v,.agg #[Ev.subV 1 v,.int .u64 ((us.length:Nat) : Int)]])∧Ev.Hold ⟨w,F⟩ [memV (Ev.subV 0 v) ⟨us,((us.length:Nat) : Int)⟩,Ev.slA 30 1 (Ev.subV 1 v) us.length (u64s us)] w':=by
 refine Ev.con_start (N:=42) (tm:=[(0,cv)]) (by kernel_rfl) h (by simp) (by simp) (fun A hA=>?_)
 refine dmA w F cv lcv us hu A w _ hA ?_
 intro κ A1 w1 h1
 dsimp only at h1
 have hsel:=h1.hold.sel [3,0,1,2,4] (by kernel_rfl)
 obtain ⟨bm,e4,h2⟩:=hold_memV hsel
 have ht:=h1.tm
 rw [e4] at ht
 generalize (κ 400).getD 0=b3 at ht h2
 generalize (κ 412).getD 0=b5 at ht h2
 refine Ev.in_block (id:=0) (by kernel_rfl) ?_
 refine Ev.loop_st (by kernel_rfl) (fun (x:Nat×MemM×Value) A w'=>Ev.At ⟨w,F⟩ 42 [(0,cv),(3,.pointer (some ⟨b3,0,none⟩)),(4,.pointer (some ⟨bm,0,none⟩)),(5,.pointer (some ⟨b5,0,none⟩)),(6,.int .i64 ((x.1:Nat) : Int))] [Ev.blkA b5 [x.2.2,.int .u64 x.2.1.ops] 32,Ev.blkA b3 [.slice none 0 0,.int .u64 0] 32,Ev.slA 30 1 cv us.length (u64s us),memA bm x.2.1,Ev.slA 30 1 x.2.2 x.2.1.cells.length (u64s x.2.1.cells)] A w'∧x.1≤us.length∧x.2.1.cells.length=us.length∧x.2.1.ops=((x.1:Nat) : Int)∧∀ i,i < x.1→x.2.1.cells[i]? = us[i]?) (fun x=>us.length - x.1) (x:=(0,⟨List.replicate us.length 0,0⟩,Ev.dec ((κ 411).getD 0))) ⟨⟨h1.sz,h1.df,ht,?_⟩,Nat.zero_le _,by simp,rfl,fun i hi=>absurd hi (Nat.not_lt_zero _)⟩ ?_
 ·have h3:=h2.sel [2,1,4,0,3] (by kernel_rfl)
  have e:(List.replicate us.length (0:Int)).length=us.length:=by simp
  simp only [e]
  exact h3
 clear ht h2 hsel e4 h1 hA A1 w1
 rintro ⟨j,m,rv⟩ A1 w1 ⟨h1,hj,hm,ho,hc⟩
 replace hj:j≤us.length:=hj
 replace hm:m.cells.length=us.length:=hm
 replace ho:m.ops=((j:Nat) : Int):=ho
 replace hc:∀ i,i < j→m.cells[i]? = us[i]?:=hc
 have lrv:Ev.leafV rv=true:=hold_leaf (h1.hold.sel [4] (by kernel_rfl))
 by_cases hlt:j < us.length
 ·refine dmB w F cv lcv us hu bm b5 b3 m rv lrv hm j hlt us[j] (List.getElem?_eq_getElem hlt) A1 w1 _ h1 ?_
  intro κ' A2 w2 h2
  refine Ev.wpL_nil (by kernel_rfl) ⟨(j+1,m.put j us[j],Ev.dec ((κ' 407).getD 0)),⟨⟨h2.sz,h2.df,h2.tm,?_⟩,hlt,by show (m.cells.set j us[j]).length=_; simp [hm],?_,fun i hi=>?_⟩,by show us.length - (j+1) < us.length - j; omega⟩
  ·have h3:=h2.hold.sel [0,1,4,3,2] (by kernel_rfl)
   have e:(m.put j us[j]).cells.length=m.cells.length:=by show (m.cells.set j us[j]).length=_; simp
   simp only [e]
   exact h3
  ·show IntKind.u64.wrap (m.ops+1)=((j+1:Nat) : Int)
   rw [ho,wrapu_ok (by omega) (by omega)]
   omega
  ·show (m.cells.set j us[j])[i]? = us[i]?
   replace hi:i < j+1:=hi
   rcases Nat.lt_or_ge i j with h | h
   ·rw [List.getElem?_set_ne (by omega)]
    exact hc i h
   ·obtain rfl:i=j:=by omega
    rw [List.getElem?_set_self (by omega),List.getElem?_eq_getElem hlt]
 ·obtain rfl:j=us.length:=by omega
  have ec:m.cells=us:=by
   apply List.ext_getElem?
   intro i
   rcases Nat.lt_or_ge i us.length with h | h
   ·exact hc i h
   ·rw [List.getElem?_eq_none (by omega),List.getElem?_eq_none h]
  obtain ⟨cs,ops⟩:=m
  replace ec:cs=us:=ec
  replace ho:ops=_:=ho
  subst ec
  subst ho
  refine dmC w F cv lcv cs hu bm b5 b3 ⟨cs,_⟩ rv lrv hm cs.length rfl A1 w1 _ h1 ?_
  intro κ' A2 w2 h2
  refine dmD w F cv lcv cs hu bm b5 b3 ⟨cs,_⟩ rv lrv hm cs.length A2 w2 _ h2 ?_
  intro κ'' w3 h3
  obtain ⟨cd,ecd⟩:=hold_code (h3.sel [4] (by kernel_rfl))
  refine ⟨_,_,Ev.dec_u64 (Ev.prn (Ev.prn 1 (Ev.prn bm 0)) (Ev.prn cd 0)),?_,?_⟩
  ·rw [Ev.subV0,Ev.subV1,Ev.dec_ptr,ecd]
  ·rw [Ev.subV0,Ev.subV1,Ev.dec_ptr,ecd]
   exact memV_hold (h3.sel [3,4] (by kernel_rfl))
end Go.Proofs.Ytbcnbofkgkheeaa
namespace Go.Proofs.Ytbcnbofkgkheeaa
open Go.RowKit
set_option linter.unusedVariables false
set_option linter.unusedSimpArgs false
def plc (c:Cfg) (p:Nat) (n:Int) : Nat:=c.word p+(6+(n % (c.q:Int)).toNat)
theorem q_pow (c:Cfg) (n:Int) : (n % 4294967296) % (c.q:Int)=n % (c.q:Int):=by
 have h:=(right_parts c.h).2.1
 rcases h with h | h | h | h | h | h <;> rw [h] <;> omega
theorem slot_plc (c:Cfg) (p:Nat) (n:Int) : c.slot p (n % 4294967296)=plc c p n:=by
 unfold Cfg.slot plc Cfg.slotI Cfg.word
 rw [q_pow]
theorem slot_plc0 (c:Cfg) (p:Nat) (n:Int) : c.slot p n=plc c p n:=by
 unfold Cfg.slot plc Cfg.slotI Cfg.word
 omega
theorem plc_inj (c:Cfg) {p:Nat} {a b:Int} (h:plc c p a=plc c p b) : a % (c.q:Int)=b % (c.q:Int):=by
 have hq:=c.qb.1
 have h1:=Int.emod_nonneg a (show (c.q:Int) ≠ 0 by omega)
 have h2:=Int.emod_nonneg b (show (c.q:Int) ≠ 0 by omega)
 unfold plc at h
 omega
theorem plc_ne (c:Cfg) {p:Nat} {a b:Int} (h1:0 < b - a) (h2:b - a < (c.q:Int)) : plc c p b ≠ plc c p a:=by
 intro h
 have:=plc_inj c h
 have hd:(b - a) % (c.q:Int)=0:=Int.emod_eq_emod_iff_emod_sub_eq_zero.1 this
 rw [Int.emod_eq_of_lt (by omega) h2] at hd
 omega
theorem plc_low (c:Cfg) (p:Nat) (n:Int) : c.word p+6≤plc c p n:=by unfold plc; omega
def gAt (c:Cfg) (p:Nat) (m:MemM) (n:Int) : Int:=IntKind.i64.wrap (ld m (plc c p n))
def ringL (c:Cfg) (p:Nat) (m:MemM) (h:Int) (n:Nat) : List Int:=(List.range n).map (fun i:Nat=>gAt c p m (h+(i:Int)))
def ring (c:Cfg) (p:Nat) (m:MemM) : List Int:=ringL c p m (hdW (ld m (c.word p))) (szW (ld m (c.word p))).toNat
theorem ringL_len (c:Cfg) (p:Nat) (m:MemM) (h:Int) (n:Nat) : (ringL c p m h n).length=n:=by simp [ringL]
theorem ringL_succ (c:Cfg) (p:Nat) (m:MemM) (h:Int) (n:Nat) : ringL c p m h (n+1)=ringL c p m h n++[gAt c p m (h+(n:Int))]:=by
 unfold ringL
 rw [List.range_succ,List.map_append]
 rfl
theorem ringL_app (c:Cfg) (p:Nat) (m:MemM) (h:Int) (a b:Nat) : ringL c p m h (a+b)=ringL c p m h a++ringL c p m (h+(a:Int)) b:=by
 induction b with
 | zero=>simp [ringL]
 | succ b ih =>
  rw [← Nat.add_assoc,ringL_succ,ih,ringL_succ,List.append_assoc]
  congr 3
  congr 1
  omega
theorem ringL_same {c:Cfg} {p:Nat} {m m':MemM} {h:Int} {n:Nat} (e:∀ i,i < n→ld m' (plc c p (h+(i:Int)))=ld m (plc c p (h+(i:Int)))) : ringL c p m' h n=ringL c p m h n:=by
 unfold ringL
 apply List.map_congr_left
 intro i hi
 unfold gAt
 rw [e i (List.mem_range.1 hi)]
theorem gAt_mod {c:Cfg} {p:Nat} {m:MemM} {a b:Int} (h:a % (c.q:Int)=b % (c.q:Int)) : gAt c p m a=gAt c p m b:=by
 unfold gAt plc
 rw [h]
theorem ringL_mod {c:Cfg} {p:Nat} {m:MemM} {a b:Int} {n:Nat} (h:a % (c.q:Int)=b % (c.q:Int)) : ringL c p m a n=ringL c p m b n:=by
 unfold ringL
 apply List.map_congr_left
 intro i _
 apply gAt_mod
 rw [Int.add_emod,h,← Int.add_emod]
theorem ld_put_ne {m:MemM} {a b:Nat} {v:Int} (h:a ≠ b) : ld (m.put a v) b=ld m b:=getD_set _ _ _ _ h
theorem ld_put {m:MemM} {a:Nat} {v:Int} (h:a < m.cells.length) : ld (m.put a v) a=v:=getD_self _ _ _ h
theorem sz_bd (x:Int) : 0≤szW x:=by unfold szW; omega
section
variable {c:Cfg} {p:Nat} (hp:p < c.n) {m:MemM} (hm:MemOk c m)
theorem ring_len:(ring c p m).length=(szW (ld m (c.word p))).toNat:=ringL_len ..
theorem ring_next (v:Int) : ring c p (m.put (c.word p+1) v)=ring c p m:=by
 unfold ring
 rw [ld_put_ne (by omega)]
 refine ringL_same (fun i _=>ld_put_ne ?_)
 have:=plc_low c p (hdW (ld m (c.word p))+(i:Int))
 omega
theorem ring_lay {t:Int} (ht:tlW (ld m (c.word p))=t) (hs:szW (ld m (c.word p)) < (c.q:Int)) (v:Int) : ring c p (m.put (c.slot p t) v)=ring c p m:=by
 have hlow:=plc_low c p t
 unfold ring
 rw [slot_plc0,ld_put_ne (by omega)]
 refine ringL_same (fun i hi=>ld_put_ne ?_)
 have hsz:szW (ld m (c.word p))=(tlW (ld m (c.word p)) - hdW (ld m (c.word p))) % 4294967296:=rfl
 have h0:=sz_bd (ld m (c.word p))
 rw [← slot_plc0,← slot_plc0,slot_plc0,← slot_plc c p t]
 intro h
 have e1:plc c p t=plc c p (hdW (ld m (c.word p))+szW (ld m (c.word p))):=by
  unfold plc
  congr 3
  rw [← q_pow c t,← q_pow c (hdW (ld m (c.word p))+szW (ld m (c.word p)))]
  congr 1
  rw [hsz,← ht]
  omega
 rw [slot_plc,slot_plc0,e1] at h
 exact plc_ne c (a:=hdW (ld m (c.word p))+(i:Int)) (b:=hdW (ld m (c.word p))+szW (ld m (c.word p))) (by omega) (by omega) h
end
end Go.Proofs.Ytbcnbofkgkheeaa
namespace Go.Proofs.Ytbcnbofkgkheeaa
open Go.RowKit
set_option linter.unusedVariables false
set_option linter.unusedSimpArgs false
set_option linter.unusedSectionVars false
theorem hd_mv {x:Int} (h:U64 x) (d:Int) : hdW (mvW x d)=hdW x:=by
 have:=hdW_bd h
 unfold mvW packW
 generalize hdW x=a at *
 unfold hdW
 omega
theorem tl_mv (x:Int) (d:Int) : tlW (mvW x d)=(tlW x+d) % 4294967296:=by
 unfold mvW packW
 generalize tlW x=a
 generalize hdW x=b
 unfold tlW
 omega
theorem hd_pack {a b:Int} (hb:0≤b∧b < 4294967296) : hdW (packW a b)=a:=by
 unfold hdW packW
 omega
theorem tl_pack {a b:Int} (hb:0≤b∧b < 4294967296) : tlW (packW a b)=b:=by
 unfold tlW packW
 omega
theorem tl_of (x:Int) : tlW x=(hdW x+szW x) % 4294967296:=by
 have:=tlW_bd x
 unfold szW
 omega
theorem sz_mv {x:Int} (h:U64 x) {d:Int} (h1:0≤szW x+d) (h2:szW x+d < 4294967296) : szW (mvW x d)=szW x+d:=by
 have e:szW (mvW x d)=((tlW x+d) % 4294967296 - hdW x) % 4294967296:=by
  unfold szW
  rw [hd_mv h,tl_mv]
 rw [e]
 have e2:szW x=(tlW x - hdW x) % 4294967296:=rfl
 omega
theorem mod_q (c:Cfg) {a b:Int} (h:a % 4294967296=b % 4294967296) : a % (c.q:Int)=b % (c.q:Int):=by
 rw [← q_pow c a,← q_pow c b,h]
section
variable {c:Cfg} {p:Nat} (hp:p < c.n) {m:MemM} (hm:MemOk c m)
include hp hm
theorem gAt_word (v:Int) (n:Int) : gAt c p (m.put (c.word p) v) n=gAt c p m n:=by
 have:=plc_low c p n
 unfold gAt
 rw [ld_put_ne (by omega)]
theorem ringL_word (v:Int) (h:Int) (n:Nat) : ringL c p (m.put (c.word p) v) h n=ringL c p m h n:=by
 unfold ringL
 exact List.map_congr_left (fun i _=>gAt_word hp hm v _)
theorem ring_swing (hs:szW (ld m (c.word p)) < (c.q:Int)) : ring c p (m.put (c.word p) (mvW (ld m (c.word p)) 1))=ring c p m++[gAt c p m (tlW (ld m (c.word p)))]:=by
 have hu:=(hm.get (hm.lt_word hp)).2
 have hq:=c.qb
 have h0:=sz_bd (ld m (c.word p))
 unfold ring
 rw [ld_put (hm.lt_word hp),hd_mv hu,sz_mv hu (by omega) (by omega),ringL_word hp hm,show (szW (ld m (c.word p))+1).toNat=(szW (ld m (c.word p))).toNat+1 by omega,ringL_succ]
 congr 2
 refine gAt_mod ?_
 have e:=tl_of (ld m (c.word p))
 rw [show ((szW (ld m (c.word p))).toNat:Int)=szW (ld m (c.word p)) by omega]
 exact mod_q c (by omega)
theorem ring_cut {k:Nat} (hs:(k:Int)≤szW (ld m (c.word p))) : ring c p m=ring c p (m.put (c.word p) (mvW (ld m (c.word p)) (-(k:Int))))++(List.range k).map (fun i:Nat=>gAt c p m (tlW (ld m (c.word p)) - (k:Int)+(i:Int))):=by
 have hu:=(hm.get (hm.lt_word hp)).2
 have hb:szW (ld m (c.word p)) < 4294967296:=by unfold szW; omega
 unfold ring
 rw [ld_put (hm.lt_word hp),hd_mv hu,sz_mv hu (by omega) (by omega),ringL_word hp hm]
 obtain ⟨n,hn⟩:=Int.eq_ofNat_of_zero_le (show 0≤szW (ld m (c.word p)) - (k:Int) by omega)
 rw [show (szW (ld m (c.word p))).toNat=n+k by omega,show (szW (ld m (c.word p)) + -(k:Int)).toNat=n by omega,ringL_app]
 congr 1
 refine List.map_congr_left (fun i _=>gAt_mod ?_)
 have e:=tl_of (ld m (c.word p))
 exact mod_q c (by omega)
def thM (c:Cfg) (p:Nat) (m:MemM) (n:Nat) : MemM:=m.tick.put (c.word p) (packW ((hdW (ld m (c.word p))+(n:Int)) % 4294967296) (tlW (ld m (c.word p))))
omit hp hm in
theorem th_u (c:Cfg) (p:Nat) (m:MemM) (n:Nat) : U64 (packW ((hdW (ld m (c.word p))+(n:Int)) % 4294967296) (tlW (ld m (c.word p)))):=by
 have:=tlW_bd (ld m (c.word p))
 unfold U64 packW
 omega
theorem th_ok (n:Nat) : MemOk c (thM c p m n):=hm.tick.put _ (th_u c p m n)
theorem th_word (n:Nat) : ld (thM c p m n) (c.word p)=packW ((hdW (ld m (c.word p))+(n:Int)) % 4294967296) (tlW (ld m (c.word p))):=ld_put (hm.tick.lt_word hp)
theorem th_tl (n:Nat) : tlW (ld (thM c p m n) (c.word p))=tlW (ld m (c.word p)):=by
 rw [th_word hp hm,tl_pack (tlW_bd _)]
theorem th_sz {n:Nat} (hn:(n:Int)≤szW (ld m (c.word p))) : szW (ld (thM c p m n) (c.word p))=szW (ld m (c.word p)) - (n:Int):=by
 rw [th_word hp hm]
 have hb:=tlW_bd (ld m (c.word p))
 have e:szW (packW ((hdW (ld m (c.word p))+(n:Int)) % 4294967296) (tlW (ld m (c.word p))))=(tlW (ld m (c.word p)) - (hdW (ld m (c.word p))+(n:Int)) % 4294967296) % 4294967296:=by
  unfold szW
  rw [tl_pack hb,hd_pack hb]
 rw [e]
 have e2:szW (ld m (c.word p))=(tlW (ld m (c.word p)) - hdW (ld m (c.word p))) % 4294967296:=rfl
 omega
omit hp hm in
theorem th_else {a:Nat} (ha:c.word p ≠ a) (n:Nat) : ld (thM c p m n) a=ld m a:=ld_put_ne ha
theorem th_gAt (n:Nat) (i:Int) : gAt c p (thM c p m n) i=gAt c p m i:=gAt_word hp hm.tick _ i
theorem ring_th {n:Nat} (hn:(n:Int)≤szW (ld m (c.word p))) : ring c p m=(ring c p m).take n++ring c p (thM c p m n):=by
 have hb:=tlW_bd (ld m (c.word p))
 have e:ring c p (thM c p m n)=(ring c p m).drop n:=by
  obtain ⟨k,hk⟩:=Int.eq_ofNat_of_zero_le (show 0≤szW (ld m (c.word p)) - (n:Int) by omega)
  unfold ring
  rw [th_sz hp hm hn,th_word hp hm,hd_pack hb,show (szW (ld m (c.word p)) - (n:Int)).toNat=k by omega,show (szW (ld m (c.word p))).toNat=n+k by omega,ringL_app,List.drop_left' (ringL_len ..)]
  have e2:∀ h:Int,ringL c p (thM c p m n) h k=ringL c p m h k:=fun h=>List.map_congr_left (fun i _=>th_gAt hp hm n _)
  rw [e2]
  exact ringL_mod (q_pow c _)
 rw [e,List.take_append_drop]
end
end Go.Proofs.Ytbcnbofkgkheeaa
namespace Go.Proofs.Ytbcnbofkgkheeaa
open Go.RowKit
set_option linter.unusedVariables false
set_option linter.unusedSimpArgs false
set_option linter.unusedSectionVars false
abbrev wd (c:Cfg) (p:Nat) (m:MemM) : Int:=ld m (c.word p)
def tkL (c:Cfg) (p:Nat) (m:MemM) (w:Int) (n:Nat) : List Int:=(List.range n).map (fun i:Nat=>gAt c p m (tlW w - ((c.q / 2:Nat) : Int)+(i:Int)))
def PInv (c:Cfg) (p:Nat) (x:PutS) (m:MemM) : Prop :=
 x.st=1∨(tlW x.w=tlW (wd c p m)∧szW (wd c p m)≤szW x.w ∧
  ((x.st=2∧szW x.w < (c.q:Int))∨(x.st=3∧szW x.w < (c.q:Int)∧ld m (c.slot p (tlW x.w))=x.gg) ∨
   ((x.st=4∨(x.st=5∧x.ts.length=c.q / 2))∧(c.q:Int)≤szW x.w∧x.ts=tkL c p m x.w x.ts.length)))
def prem (c:Cfg) (x:PutS) : Nat:=match x.st with | 1=>c.q / 2+2 | 2=>2 | 3=>1 | 4=>c.q / 2 - x.ts.length+1 | 5=>1 | _=>0
def PBud (c:Cfg) (p:Nat) (x:PutS) (m:MemM) (b:Nat) : Prop:=prem c x≤b∧(2≤x.st→wd c p m ≠ x.w→prem c x+(c.q / 2+2)≤b)
theorem gg_wrap {g:Int} (h:0≤g∧g < 4294967296) : IntKind.i64.wrap g=g:=wrap_ok (by omega) (by omega)
theorem tkL_succ (c:Cfg) (p:Nat) (m:MemM) (w:Int) (n:Nat) : tkL c p m w (n+1)=tkL c p m w n++[gAt c p m (tlW w - ((c.q / 2:Nat) : Int)+(n:Int))]:=by
 unfold tkL
 rw [List.range_succ,List.map_append]
 rfl
theorem tkI_at (c:Cfg) (p:Nat) (m:MemM) (w:Int) (n:Nat) : IntKind.i64.wrap (ld m (c.slot p (tkI c w n)))=gAt c p m (tlW w - ((c.q / 2:Nat) : Int)+(n:Int)):=by
 unfold tkI gAt
 rw [slot_plc]
section
variable {c:Cfg} {p:Nat} (hp:p < c.n) {m:MemM} (hm:MemOk c m)
include hp hm
theorem next_word (v:Int) : ld (m.put (c.word p) v) (c.word p+1)=ld m (c.word p+1):=ld_put_ne (by omega)
theorem next_slot (t v:Int) : ld (m.put (c.slot p t) v) (c.word p+1)=ld m (c.word p+1):=by
 rw [slot_plc0]
 have:=plc_low c p t
 exact ld_put_ne (by omega)
theorem word_slot (t v:Int) : ld (m.put (c.slot p t) v) (c.word p)=ld m (c.word p):=by
 rw [slot_plc0]
 have:=plc_low c p t
 exact ld_put_ne (by omega)
theorem put_keeps {x:PutS} {b:Nat} (h0:x.st ≠ 0) (hx:PutOk c x) (hi:PInv c p x m) (hsz:szW (wd c p m)≤(c.q:Int)) (hg:0≤x.gg∧x.gg < 4294967296) (hh:x.hs=[x.gg]) (hb:PBud c p x m b) :
  ld (putStep c p x m).2 (c.word p+1)=ld m (c.word p+1)∧szW (wd c p (putStep c p x m).2)≤(c.q:Int) ∧
  (((putStep c p x m).1.st ≠ 0∧(putStep c p x m).1.gg=x.gg∧(putStep c p x m).1.hs=[x.gg]∧PInv c p (putStep c p x m).1 (putStep c p x m).2∧ring c p (putStep c p x m).2=ring c p m∧PBud c p (putStep c p x m).1 (putStep c p x m).2 (b - 1)∧0 < b) ∨
   ((putStep c p x m).1.st=0∧((putStep c p x m).1.hs=[]∨∃ l,(putStep c p x m).1.hs=l++[x.gg])∧ring c p m++[x.gg]=ring c p (putStep c p x m).2++(putStep c p x m).1.hs)):=by
 have hq:=c.qb
 have hu:=(hm.get (hm.lt_word hp)).2
 obtain ⟨st,gg,w,ts,hs⟩:=x
 obtain ⟨hb1,hb2⟩:=hb
 replace hg:0≤gg∧gg < 4294967296:=hg
 replace hh:hs=[gg]:=hh
 replace h0:st ≠ 0:=h0
 have hst:st≤5:=hx.st
 have htl:ts.length≤c.q / 2:=hx.ts
 have ht4:st=4→ts.length < c.q / 2:=hx.t4
 subst hh
 match st,hst with
 | 0,_=>exact absurd rfl h0
 | 1,_ =>
  have e1:c.q / 2+2≤b:=hb1
  refine ⟨rfl,hsz,.inl ⟨?_,rfl,rfl,?_,rfl,?_,by omega⟩⟩
  ·show (if (c.q:Int)≤szW (wd c p m) then 4 else 2) ≠ 0
   split <;> decide
  ·refine .inr ⟨rfl,Int.le_refl _,?_⟩
   by_cases hf:(c.q:Int)≤szW (wd c p m)
   ·refine .inr (.inr ⟨.inl ?_,hf,rfl⟩)
    show (if (c.q:Int)≤szW (wd c p m) then 4 else 2)=4
    rw [if_pos hf]
   ·refine .inl ⟨?_,by show szW (wd c p m) < _; omega⟩
    show (if (c.q:Int)≤szW (wd c p m) then 4 else 2)=2
    rw [if_neg hf]
  ·refine ⟨?_,fun _ hne=>absurd rfl hne⟩
   show prem c ⟨if (c.q:Int)≤szW (wd c p m) then 4 else 2,gg,wd c p m,[],[gg]⟩≤b - 1
   split
   ·show c.q / 2 - 0+1≤b - 1
    omega
   ·show 2≤b - 1
    omega
 | 2,_ =>
  have e1:2≤b:=hb1
  rcases hi with hi | ⟨i1,i2,⟨_,i3⟩ | ⟨i3,_⟩ | ⟨i3 | ⟨i3,_⟩,_⟩⟩
  ·exact absurd (show (2:Nat)=1 from hi) (by decide)
  ·replace i1:tlW w=tlW (wd c p m):=i1
   replace i2:szW (wd c p m)≤szW w:=i2
   replace i3:szW w < (c.q:Int):=i3
   have ew:=word_slot hp hm (tlW w) gg
   refine ⟨next_slot hp hm _ _,?_,.inl ⟨show (3:Nat) ≠ 0 by decide,rfl,rfl,.inr ⟨?_,?_,.inr (.inl ⟨rfl,i3,?_⟩)⟩,?_,⟨show 1≤b - 1 by omega,fun _ hne=>?_⟩,by omega⟩⟩
   ·show szW (ld (m.put (c.slot p (tlW w)) gg) (c.word p))≤_
    rw [ew]
    exact hsz
   ·show tlW w=tlW (ld (m.put (c.slot p (tlW w)) gg) (c.word p))
    rw [ew]
    exact i1
   ·show szW (ld (m.put (c.slot p (tlW w)) gg) (c.word p))≤szW w
    rw [ew]
    exact i2
   ·exact ld_put (hm.lt_slot hp _)
   ·show ring c p (m.put (c.slot p (tlW w)) gg)=ring c p m
    exact ring_lay i1.symm (by show szW (wd c p m) < _; omega) gg
   ·replace hne:ld (m.put (c.slot p (tlW w)) gg) (c.word p) ≠ w:=hne
    rw [ew] at hne
    have:=hb2 (show 2≤2 by decide) hne
    replace this:2+(c.q / 2+2)≤b:=this
    show 1+(c.q / 2+2)≤b - 1
    omega
  ·exact absurd (show (2:Nat)=3 from i3) (by decide)
  ·exact absurd (show (2:Nat)=4 from i3) (by decide)
  ·exact absurd (show (2:Nat)=5 from i3) (by decide)
 | 3,_ =>
  have e1:1≤b:=hb1
  rcases hi with hi | ⟨i1,i2,⟨i3,_⟩ | ⟨_,i3,i4⟩ | ⟨i3 | ⟨i3,_⟩,_⟩⟩
  ·exact absurd (show (3:Nat)=1 from hi) (by decide)
  ·exact absurd (show (3:Nat)=2 from i3) (by decide)
  ·replace i1:tlW w=tlW (wd c p m):=i1
   replace i2:szW (wd c p m)≤szW w:=i2
   replace i3:szW w < (c.q:Int):=i3
   replace i4:ld m (c.slot p (tlW w))=gg:=i4
   by_cases hw:ld m (c.word p)=w
   ·have es:putStep c p ⟨3,gg,w,ts,[gg]⟩ m=(⟨0,gg,w,ts,[]⟩,m.put (c.word p) (mvW w 1)):=if_pos hw
    rw [es]
    subst hw
    have e0:=sz_bd (ld m (c.word p))
    refine ⟨next_word hp hm _,?_,.inr ⟨rfl,.inl rfl,?_⟩⟩
    ·show szW (ld (m.put (c.word p) _) (c.word p))≤_
     rw [ld_put (hm.lt_word hp),sz_mv hu (by omega) (by omega)]
     omega
    ·show _=ring c p (m.put (c.word p) (mvW (ld m (c.word p)) 1))++[]
     rw [List.append_nil,ring_swing hp hm i3]
     congr 2
     unfold gAt
     rw [← slot_plc0,i4,gg_wrap hg]
   ·have es:putStep c p ⟨3,gg,w,ts,[gg]⟩ m=(⟨1,gg,w,ts,[gg]⟩,m.tick):=if_neg hw
    rw [es]
    have:=hb2 (show 2≤3 by decide) hw
    replace this:1+(c.q / 2+2)≤b:=this
    exact ⟨rfl,hsz,.inl ⟨show (1:Nat) ≠ 0 by decide,rfl,rfl,.inl rfl,rfl,⟨show c.q / 2+2≤b - 1 by omega,fun h2=>absurd h2 (show ¬ 2≤1 by decide)⟩,by omega⟩⟩
  ·exact absurd (show (3:Nat)=4 from i3) (by decide)
  ·exact absurd (show (3:Nat)=5 from i3) (by decide)
 | 4,_ =>
  have e1:c.q / 2 - ts.length+1≤b:=hb1
  have h4:=ht4 rfl
  rcases hi with hi | ⟨i1,i2,⟨i3,_⟩ | ⟨i3,_⟩ | ⟨i3,i4,i5⟩⟩
  ·exact absurd (show (4:Nat)=1 from hi) (by decide)
  ·exact absurd (show (4:Nat)=2 from i3) (by decide)
  ·exact absurd (show (4:Nat)=3 from i3) (by decide)
  ·replace i5:ts=tkL c p m w ts.length:=i5
   have h2:c.q / 2 - ts.length+1+(c.q / 2+2)≤b∨wd c p m=w:=by
    by_cases hw:wd c p m=w
    ·exact .inr hw
    ·exact .inl (hb2 (show 2≤4 by decide) hw)
   refine ⟨rfl,hsz,.inl ⟨?_,rfl,rfl,.inr ⟨i1,i2,.inr (.inr ⟨?_,i4,?_⟩)⟩,rfl,?_,by omega⟩⟩
   ·show (if ts.length+1=c.q / 2 then 5 else 4) ≠ 0
    split <;> decide
   ·show (if ts.length+1=c.q / 2 then 5 else 4)=4∨((if ts.length+1=c.q / 2 then 5 else 4)=5∧(ts++[_]).length=c.q / 2)
    split
    ·exact .inr ⟨rfl,by simpa using ‹_›⟩
    ·exact .inl rfl
   ·show ts++[IntKind.i64.wrap (ld m (c.slot p (tkI c w ts.length)))]=tkL c p m w (ts++[_]).length
    rw [List.length_append,List.length_singleton,tkL_succ,← i5,tkI_at]
   ·refine ⟨?_,fun _ hne=>?_⟩
    ·show prem c ⟨if ts.length+1=c.q / 2 then 5 else 4,gg,w,ts++[_],[gg]⟩≤b - 1
     split
     ·show 1≤b - 1
      omega
     ·show c.q / 2 - (ts++[_]).length+1≤b - 1
      rw [List.length_append,List.length_singleton]
      omega
    ·have h3:=h2.resolve_right (fun h=>hne h)
     show prem c ⟨if ts.length+1=c.q / 2 then 5 else 4,gg,w,ts++[_],[gg]⟩+(c.q / 2+2)≤b - 1
     split
     ·show 1+(c.q / 2+2)≤b - 1
      omega
     ·show c.q / 2 - (ts++[_]).length+1+(c.q / 2+2)≤b - 1
      rw [List.length_append,List.length_singleton]
      omega
 | 5,_ =>
  have e1:1≤b:=hb1
  rcases hi with hi | ⟨i1,i2,⟨i3,_⟩ | ⟨i3,_⟩ | ⟨i3 | ⟨_,i3⟩,i4,i5⟩⟩
  ·exact absurd (show (5:Nat)=1 from hi) (by decide)
  ·exact absurd (show (5:Nat)=2 from i3) (by decide)
  ·exact absurd (show (5:Nat)=3 from i3) (by decide)
  ·exact absurd (show (5:Nat)=4 from i3) (by decide)
  ·replace i3:ts.length=c.q / 2:=i3
   replace i4:(c.q:Int)≤szW w:=i4
   replace i5:ts=tkL c p m w ts.length:=i5
   by_cases hw:ld m (c.word p)=w
   ·have es:putStep c p ⟨5,gg,w,ts,[gg]⟩ m=(⟨0,gg,w,ts,ts++[gg]⟩,m.put (c.word p) (mvW w (-((c.q / 2:Nat) : Int)))):=if_pos hw
    rw [es]
    subst hw
    have hk:((c.q / 2:Nat) : Int)≤szW (ld m (c.word p)):=by omega
    have hb0:szW (ld m (c.word p)) < 4294967296:=by unfold szW; omega
    refine ⟨next_word hp hm _,?_,.inr ⟨rfl,.inr ⟨ts,rfl⟩,?_⟩⟩
    ·show szW (ld (m.put (c.word p) _) (c.word p))≤_
     rw [ld_put (hm.lt_word hp),sz_mv hu (by omega) (by omega)]
     replace hsz:szW (ld m (c.word p))≤(c.q:Int):=hsz
     omega
    ·show _=ring c p (m.put (c.word p) (mvW (ld m (c.word p)) (-((c.q / 2:Nat) : Int))))++(ts++[gg])
     have hr:=ring_cut hp hm hk
     rw [i3] at i5
     rw [← List.append_assoc]
     refine congrArg (· ++ [gg]) ?_
     rw [i5]
     exact hr
   ·have es:putStep c p ⟨5,gg,w,ts,[gg]⟩ m=(⟨1,gg,w,ts,[gg]⟩,m.tick):=if_neg hw
    rw [es]
    have:=hb2 (show 2≤5 by decide) hw
    replace this:1+(c.q / 2+2)≤b:=this
    exact ⟨rfl,hsz,.inl ⟨show (1:Nat) ≠ 0 by decide,rfl,rfl,.inl rfl,rfl,⟨show c.q / 2+2≤b - 1 by omega,fun h2=>absurd h2 (show ¬ 2≤1 by decide)⟩,by omega⟩⟩
theorem put_thief {x:PutS} {b n:Nat} (hi:PInv c p x m) (hn:(n:Int)≤szW (wd c p m)) (hb:PBud c p x m b) : PInv c p x (thM c p m n)∧PBud c p x (thM c p m n) (b+(c.q / 2+2)):=by
 have hlo:=plc_low c p
 refine ⟨?_,⟨Nat.le_trans hb.1 (Nat.le_add_right _ _),fun _ _=>Nat.add_le_add_right hb.1 _⟩⟩
 rcases hi with hi | ⟨i1,i2,i3⟩
 ·exact .inl hi
 ·refine .inr ⟨?_,?_,?_⟩
  ·show _=tlW (ld (thM c p m n) (c.word p))
   rw [th_tl hp hm]
   exact i1
  ·show szW (ld (thM c p m n) (c.word p))≤_
   rw [th_sz hp hm hn]
   exact Int.le_trans (Int.sub_le_self _ (Int.natCast_nonneg n)) i2
  ·rcases i3 with i3 | ⟨j1,j2,j3⟩ | ⟨j1,j2,j3⟩
   ·exact .inl i3
   ·refine .inr (.inl ⟨j1,j2,?_⟩)
    rw [slot_plc0] at j3 ⊢
    have:=hlo (tlW x.w)
    rw [th_else (by omega)]
    exact j3
   ·refine .inr (.inr ⟨j1,j2,?_⟩)
    rw [j3]
    unfold tkL
    simp only [List.length_map,List.length_range]
    exact List.map_congr_left (fun i _=>(th_gAt hp hm n _).symm)
end
end Go.Proofs.Ytbcnbofkgkheeaa
namespace Go.Proofs.Ytbcnbofkgkheeaa
open Go.RowKit
set_option linter.unusedVariables false
set_option linter.unusedSimpArgs false
set_option linter.unusedSectionVars false
def stoodL (nx:Int) : List Int:=if nx=0 then [] else [nx - 1]
def KInv (c:Cfg) (p:Nat) (nx:Int) (k:KickS) (m:MemM) (pend:List Int) : Prop :=
 (k.st=1∧k.put=none∧ld m (c.word p+1)=nx∧pend=stoodL nx) ∨
 (k.st=2∧k.put=none∧k.was=nx∧pend=stoodL nx) ∨
 (k.st=0∧k.put=none∧nx=0∧ld m (c.word p+1)=k.nx∧pend=[]) ∨
 (nx ≠ 0∧ld m (c.word p+1)=k.nx∧∃ x,k.put=some x ∧
  ((k.st=3∧x.st ≠ 0∧x.gg=nx - 1∧x.hs=[x.gg]∧PInv c p x m∧pend=[nx - 1]) ∨
   (k.st=0∧x.st=0∧(x.hs=[]∨∃ l,x.hs=l++[nx - 1])∧pend=x.hs)))
def KBud (c:Cfg) (p:Nat) (k:KickS) (m:MemM) (b:Nat) : Prop :=
 (k.st=1→c.q / 2+4≤b)∧(k.st=2→c.q / 2+3≤b)∧∀ x,k.put=some x→PBud c p x m b
theorem prem_pos {c:Cfg} {x:PutS} (h0:x.st ≠ 0) (h:x.st≤5) : 0 < prem c x:=by
 obtain ⟨st,gg,w,ts,hs⟩:=x
 match st,h with
 | 0,_=>exact absurd rfl h0
 | 1,_=>exact Nat.succ_pos _
 | 2,_=>exact Nat.succ_pos _
 | 3,_=>exact Nat.succ_pos _
 | 4,_=>exact Nat.succ_pos _
 | 5,_=>exact Nat.succ_pos _
section
variable {c:Cfg} {p:Nat} (hp:p < c.n) {m:MemM} (hm:MemOk c m)
include hp hm
theorem word_next (v:Int) : wd c p (m.put (c.word p+1) v)=wd c p m:=ld_put_ne (by omega)
theorem kick_keeps {k:KickS} {nx:Int} {pend:List Int} {b:Nat} (hnx:0≤nx∧nx < 4294967296) (hk:KickOk c k) (hi:KInv c p nx k m pend) (hsz:szW (wd c p m)≤(c.q:Int)) (h0:k.st ≠ 0) (hb:KBud c p k m b) :
  ∃ pend',KInv c p nx (kickStep c p k m).1 (kickStep c p k m).2 pend'∧szW (wd c p (kickStep c p k m).2)≤(c.q:Int)∧ring c p m++pend=ring c p (kickStep c p k m).2++pend'∧((kickStep c p k m).1.st ≠ 0→KBud c p (kickStep c p k m).1 (kickStep c p k m).2 (b - 1))∧0 < b:=by
 have hq:=c.qb
 obtain ⟨dem,gg,st,was,put⟩:=k
 obtain ⟨hb1,hb2,hb3⟩:=hb
 rcases hi with ⟨i1,i2,i3,i4⟩ | ⟨i1,i2,i3,i4⟩ | ⟨i1,_⟩ | ⟨i1,i2,x,i3,⟨i4,i5,i6,i7,i8,i9⟩ | ⟨i4,_⟩⟩
 ·replace i1:st=1:=i1
  replace i2:put=none:=i2
  subst i1 i2
  have:=hb1 rfl
  by_cases hd:dem=true∧ld m (c.word p+1)=0
  ·have es:kickStep c p ⟨dem,gg,1,was,none⟩ m=(⟨dem,gg,0,ld m (c.word p+1),none⟩,m.tick):=by
    show ((⟨dem,gg,if dem=true∧ld m (c.word p+1)=0 then 0 else 2,ld m (c.word p+1),none⟩ : KickS),m.tick)=_
    rw [if_pos hd]
   rw [es]
   have hz:nx=0:=by rw [← i3]; exact hd.2
   refine ⟨[],.inr (.inr (.inl ⟨rfl,rfl,hz,?_,rfl⟩)),hsz,?_,fun h=>absurd rfl h,by omega⟩
   ·show ld m (c.word p+1)=if dem=true then 0 else gg+1
    rw [if_pos hd.1]
    exact hd.2
   ·rw [i4]
    unfold stoodL
    rw [if_pos hz]
    rfl
  ·have es:kickStep c p ⟨dem,gg,1,was,none⟩ m=(⟨dem,gg,2,ld m (c.word p+1),none⟩,m.tick):=by
    show ((⟨dem,gg,if dem=true∧ld m (c.word p+1)=0 then 0 else 2,ld m (c.word p+1),none⟩ : KickS),m.tick)=_
    rw [if_neg hd]
   rw [es]
   exact ⟨pend,.inr (.inl ⟨rfl,rfl,i3,i4⟩),hsz,rfl,fun _=>⟨fun h=>absurd (show (2:Nat)=1 from h) (by decide),fun _=>by omega,fun x hx=>by cases hx⟩,by omega⟩
 ·replace i1:st=2:=i1
  replace i2:put=none:=i2
  replace i3:was=nx:=i3
  subst i1 i2 i3
  have:=hb2 rfl
  have hnx2:ld (m.put (c.word p+1) (KickS.nx ⟨dem,gg,2,was,none⟩)) (c.word p+1)=KickS.nx ⟨dem,gg,2,was,none⟩:=ld_put (hm.lt_next hp)
  have hw:=word_next hp hm (KickS.nx ⟨dem,gg,2,was,none⟩)
  by_cases hz:was=0
  ·have es:kickStep c p ⟨dem,gg,2,was,none⟩ m=(⟨dem,gg,0,was,none⟩,m.put (c.word p+1) (KickS.nx ⟨dem,gg,2,was,none⟩)):=if_pos hz
   rw [es]
   refine ⟨[],.inr (.inr (.inl ⟨rfl,rfl,hz,hnx2,rfl⟩)),?_,?_,fun h=>absurd rfl h,by omega⟩
   ·show szW (wd c p (m.put _ _))≤_
    rw [hw]
    exact hsz
   ·rw [i4,ring_next]
    unfold stoodL
    rw [if_pos hz]
  ·have hg:IntKind.i64.wrap (was - 1)=was - 1:=gg_wrap (by omega)
   have es:kickStep c p ⟨dem,gg,2,was,none⟩ m=(⟨dem,gg,3,was,some ⟨1,was - 1,0,[],[was - 1]⟩⟩,m.put (c.word p+1) (KickS.nx ⟨dem,gg,2,was,none⟩)):=by
    have e1:kickStep c p ⟨dem,gg,2,was,none⟩ m=_:=(if_neg hz).trans (if_pos (by rw [hg]; omega))
    rw [e1,hg]
   rw [es]
   refine ⟨[was - 1],.inr (.inr (.inr ⟨hz,hnx2,_,rfl,.inl ⟨rfl,by show (1:Nat) ≠ 0; decide,rfl,rfl,.inl rfl,rfl⟩⟩)),?_,?_,fun _=>⟨fun h=>absurd (show (3:Nat)=1 from h) (by decide),fun h=>absurd (show (3:Nat)=2 from h) (by decide),fun x hx=>?_⟩,by omega⟩
   ·show szW (wd c p (m.put _ _))≤_
    rw [hw]
    exact hsz
   ·rw [i4,ring_next]
    unfold stoodL
    rw [if_neg hz]
   ·cases hx
    exact ⟨show c.q / 2+2≤b - 1 by omega,fun h=>absurd (show 2≤1 from h) (by decide)⟩
 ·exact absurd i1 h0
 ·replace i4:st=3:=i4
  replace i3:put=some x:=i3
  subst i4 i3
  have hx:=hk.put x rfl
  obtain ⟨k1,k2,k3⟩:=put_keeps hp hm i5 hx i8 hsz (by omega) i7 (hb3 x rfl)
  have es:kickStep c p ⟨dem,gg,3,was,some x⟩ m=(⟨dem,gg,if (putStep c p x m).1.st=0 then 0 else 3,was,some (putStep c p x m).1⟩,(putStep c p x m).2):=rfl
  rw [es]
  have hn2:ld (putStep c p x m).2 (c.word p+1)=KickS.nx ⟨dem,gg,3,was,some x⟩:=k1.trans i2
  rcases k3 with ⟨j1,j2,j3,j4,j5,j6,j7⟩ | ⟨j1,j2,j3⟩
  ·rw [if_neg j1]
   refine ⟨[nx - 1],.inr (.inr (.inr ⟨i1,hn2,_,rfl,.inl ⟨rfl,j1,j2.trans i6,by rw [j3,j2],j4,rfl⟩⟩)),k2,?_,fun _=>⟨fun h=>absurd (show (3:Nat)=1 from h) (by decide),fun h=>absurd (show (3:Nat)=2 from h) (by decide),fun y hy=>?_⟩,j7⟩
   ·rw [i9,j5]
   ·cases hy
    exact j6
  ·rw [if_pos j1]
   refine ⟨_,.inr (.inr (.inr ⟨i1,hn2,_,rfl,.inr ⟨rfl,j1,?_,rfl⟩⟩)),k2,?_,fun h=>absurd rfl h,?_⟩
   ·rw [i6] at j2
    exact j2
   ·rw [i9,← j3,i6]
   ·exact Nat.lt_of_lt_of_le (prem_pos i5 hx.st) (hb3 x rfl).1
 ·exact absurd i4 h0
theorem kick_thief {k:KickS} {nx:Int} {pend:List Int} {b n:Nat} (hi:KInv c p nx k m pend) (hn:(n:Int)≤szW (wd c p m)) (hb:KBud c p k m b) (h0:k.st ≠ 0) : KInv c p nx k (thM c p m n) pend∧KBud c p k (thM c p m n) (b+(c.q / 2+2)):=by
 have hnx:ld (thM c p m n) (c.word p+1)=ld m (c.word p+1):=th_else (by omega) n
 obtain ⟨hb1,hb2,hb3⟩:=hb
 rcases hi with ⟨i1,i2,i3,i4⟩ | ⟨i1,i2,i3,i4⟩ | ⟨i1,_⟩ | ⟨i1,i2,x,i3,⟨i4,i5,i6,i7,i8,i9⟩ | ⟨i4,_⟩⟩
 ·exact ⟨.inl ⟨i1,i2,hnx.trans i3,i4⟩,fun h=>Nat.le_trans (hb1 h) (Nat.le_add_right _ _),fun h=>Nat.le_trans (hb2 h) (Nat.le_add_right _ _),fun x hx=>by rw [i2] at hx; cases hx⟩
 ·exact ⟨.inr (.inl ⟨i1,i2,i3,i4⟩),fun h=>Nat.le_trans (hb1 h) (Nat.le_add_right _ _),fun h=>Nat.le_trans (hb2 h) (Nat.le_add_right _ _),fun x hx=>by rw [i2] at hx; cases hx⟩
 ·exact absurd i1 h0
 ·have h2:=put_thief hp hm i8 hn (hb3 x i3)
  exact ⟨.inr (.inr (.inr ⟨i1,hnx.trans i2,x,i3,.inl ⟨i4,i5,i6,i7,h2.1,i9⟩⟩)),fun h=>Nat.le_trans (hb1 h) (Nat.le_add_right _ _),fun h=>Nat.le_trans (hb2 h) (Nat.le_add_right _ _),fun y hy=>by
   rw [i3] at hy
   cases hy
   exact h2.2⟩
 ·exact absurd i4 h0
end
theorem kick_end {c:Cfg} {p:Nat} {k:KickS} {m:MemM} {nx:Int} {pend:List Int} (hi:KInv c p nx k m pend) (h0:k.st=0) : ld m (c.word p+1)=k.nx∧pend=k.over∧(k.put.isSome = !decide (nx=0))∧(k.over=[]∨∃ l,k.over=l++[nx - 1]):=by
 obtain ⟨dem,gg,st,was,put⟩:=k
 rcases hi with ⟨i1,_⟩ | ⟨i1,_⟩ | ⟨i1,i2,i3,i4,i5⟩ | ⟨i1,i2,x,i3,⟨i4,_⟩ | ⟨i4,i5,i6,i7⟩⟩
 ·rw [h0] at i1
  cases i1
 ·rw [h0] at i1
  cases i1
 ·replace i2:put=none:=i2
  subst i2
  exact ⟨i4,i5,by simp [i3],.inl rfl⟩
 ·rw [h0] at i4
  cases i4
 ·replace i3:put=some x:=i3
  subst i3
  have eo:KickS.over ⟨dem,gg,st,was,some x⟩=x.hs:=if_pos i5
  rw [eo]
  exact ⟨i2,i7,by simp [i1],i6⟩
end Go.Proofs.Ytbcnbofkgkheeaa
namespace Go.Ev
open Go.RowKit
set_option linter.unusedVariables false
set_option linter.unusedSimpArgs false
set_option linter.unusedSectionVars false
section
variable {k:Kn} {P:Program} {g g':Nat} {l:List Asr} {ci:Nat} {t u e:TypeId} {sL sS sB sV n sz m hi:Nat} {v vs:Value} {xs cs:List Value} {i:TypeInfo} {z:Value}
theorem sl_hi {kd:IntKind} (hg:k.gs[g]? = some (star l)) (hc:l[ci]? = some (slA e sz v n xs)) (ht:P.underlying t=some (.slice e)) (hinf:P.info? e=some i) (hsz:i.size=sz) (hL:k.val sL=v) (hB:k.val sB=.int kd (hi:Int)) (h2:hi≤n) (hV:k.val sV=cutV sz v 0 hi) : GTrue k P ⟨[4,t,0,1,0],[sy sL,sy sB],none,g,none,sy sV,none⟩:=by
 refine GTrue.sliceHi k ?_
 letI:Sig:=k.sig
 intro ι F w d x' y' q hx hy
 obtain ⟨Fs,ff,hS,hf,h1⟩:=star_ask hg hc q
 rw [vsymR hx,vsymR hy,hL,hB]
 exact ⟨_,w,cut_run (kd:=kd) (.inl ⟨rfl,rfl⟩) rfl (SlV.ro h1) ht hinf hsz (Nat.zero_le _) h2 w,rsymR hV,Below.refl _ _⟩
theorem SlV.cut0 {F:Nat→Prop} {w:World} (h:SlV e sz v n xs F w) (h2:hi≤n) : SlV e sz (cutV sz v 0 hi) hi (xs.take (hi * sz)) F w:=by
 obtain ⟨h1,h3⟩:=h
 have hle:=Nat.mul_le_mul_right sz h2
 refine ⟨by rw [List.length_take,h1]; omega,?_⟩
 rcases h3 with ⟨he,rfl,hF⟩ | ⟨b,off,c,arr,rfl,hF,hb0,hx,hs,hnc⟩
 ·obtain rfl:hi=0:=by omega
  refine .inl ⟨?_,rfl,hF⟩
  rcases he with rfl | ⟨b,off,rfl⟩
  ·exact .inl rfl
  ·exact .inr ⟨b,off,rfl⟩
 ·refine .inr ⟨b,off,c,arr,?_,hF,hb0,fun k hk=>?_,hs,by omega⟩
  ·unfold cutV
   simp only [addMk,Nat.zero_mul,Nat.add_zero,Nat.sub_zero,ite_self]
  ·rw [hx k (by omega),List.getElem?_take,if_pos hk]
theorem Hold.cut0 {c:Ctx} {l:List Asr} {w:World} (h:Hold c (slA e sz v n xs::l) w) (h2:hi≤n) : Hold c (slA e sz (cutV sz v 0 hi) hi (xs.take (hi * sz))::l) w:=h.head (fun F h=>SlV.cut0 h h2)
theorem sl_app2 {d1 e':Nat} {y:Value} (hg:k.gs[g]? = some (star l)) (hi:l[ci]? = some (slA e sz v n xs)) (hg':k.gs[g']? = some (star (l.set ci (atD d1 (fun v'=>slA e sz v' (n+m) (xs++cs)))))) (hL:k.val sL=v) (rd:letI:Sig:=k.sig; ∀ ι F w d y',Ask k g (some d1) (some g') ι F w d→VRel ι y y'→SlR sz y' m cs w) (ht:P.underlying t=some (.slice e)) (hu:P.underlying u=some (.slice e')) (hinf:P.info? e=some i) (hsz:i.size=sz) (hz:i.zero=some z) (hzs:z.cells.size=i.size)
  (hb:(n+m) * i.bytes≤140737488355328) (hnm:n+m≤1000000000) (h1:∀ x ∈ cs,x.oneCell'=true) : GTrue k P ⟨[11,t,u],[sy sL,y],none,g,some d1,.complex .f32 d1 0,some g'⟩:=by
 subst hsz
 refine GTrue.append2 ?_
 letI:Sig:=k.sig
 intro ι F w d x' y' ty q hxr hyr
 have hsr:=rd ι F w d y' q hyr
 obtain ⟨Fs,ff,hS',hf,h1'⟩:=star_ask hg hi q
 obtain rfl:=q.name d1 rfl
 rw [vsymR hxr,hL]
 obtain ⟨v2,w2,F2,r1,r2,r3,r4⟩:=SlV.append (ty:=ty) h1' ht hinf hz hzs (hsr.src hu h1) hb hnm
 obtain ⟨cc,hcc⟩:=r2.code
 have hup:(ι.upd d1 cc) d1=some cc:=by simp [Ren.upd]
 exact ⟨v2,w2,r1,one_end hg' hS' q.lt hf (ask_fresh q) cc ⟨cc,hup,by rw [hcc]; exact r2⟩ r3 r4 (.dyn d1 cc v2 hup hcc)⟩
theorem rdS {d0 ng:Option Nat} (hg:k.gs[g]? = some (star l)) (hi:l[ci]? = some (slA e sz v m xs)) (hS:k.val sS=v) : letI:Sig:=k.sig; ∀ ι F w d y',Ask k g d0 ng ι F w d→VRel ι (sy sS) y'→SlR sz y' m xs w:=by
 letI:Sig:=k.sig
 intro ι F w d y' q h
 rw [vsymR h,hS]
 exact rd_sl hg hi ι F w d q
theorem rdD {d2:Nat} {d0 ng:Option Nat} (hg:k.gs[g]? = some (star l)) (hi:l[ci]? = some (atD d2 (fun v=>slA e sz v m xs))) : letI:Sig:=k.sig; ∀ ι F w d y',Ask k g d0 ng ι F w d→VRel ι (.complex .f32 d2 0) y'→SlR sz y' m xs w:=by
 letI:Sig:=k.sig
 intro ι F w d y' q h
 obtain ⟨Fs,ff,hS,hf,c,h0,h1⟩:=star_ask hg hi q
 obtain ⟨c',e0,e1⟩:=vdynR h
 rw [h0] at e0
 cases e0
 rw [← e1]
 exact SlV.ro h1
end
end Go.Ev
