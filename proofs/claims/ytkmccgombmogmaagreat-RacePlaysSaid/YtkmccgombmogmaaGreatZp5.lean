/- Part of a proof: see the last text. -/
import Derived.Test.YtkmccgombmogmaaGreatZp4
import Derived.Test.YtkmccgombmogmaaGreatZp3
import Derived.LoopNIn
import Derived.LoopIn
import Derived.OrdersIn
import Derived.WalkKit
import Derived.OrdersHeld
import Derived.Test.YtkmccgombmogmaaGreatRows
import Derived.Test.YtkmccgombmogmaaGreatZp1
namespace Go.Proofs.YtkmccgombmogmaaGreat
open Go.RowKit
set_option linter.unusedVariables false
set_option linter.unusedSimpArgs false
set_option maxRecDepth 8000
structure LayS where
 st:Nat
 w:Int
 k:Nat
 n:Nat
 ls:List Int
def roomN (c:Cfg) (l:List Int) (v:Int) : Nat:=min l.length (c.q - min (szW v).toNat c.q)
def layStep (c:Cfg) (p:Nat) (x:LayS) (m:MemM) : LayS×MemM :=
 match x.st with
 | 0=>(x,m)
 | 1=>(⟨if roomN c x.ls (ld m (c.word p))=0 then 0 else 2,ld m (c.word p),0,roomN c x.ls (ld m (c.word p)),x.ls⟩,m.tick)
 | 2=>(⟨if x.k+1=x.n then 3 else 2,x.w,x.k+1,x.n,x.ls⟩,m.put (c.slot p ((tlW x.w+(x.k:Int)) % 4294967296)) (x.ls.getD x.k 0))
 | _=>if ld m (c.word p)=x.w then (⟨0,x.w,x.k,x.n,x.ls.drop x.n⟩,m.put (c.word p) (mvW x.w (x.n:Int))) else (⟨1,x.w,x.k,x.n,x.ls⟩,m.tick)
abbrev Gn (g:Int) : Prop:=0≤g∧g≤9223372036854775807
structure LayOk (x:LayS) : Prop where
 st:x.st < 4
 w:U64 x.w
 b:x.k≤64∧x.n≤64
 ls:x.ls.length≤64
 ne:x.st ≠ 0→x.ls ≠ []
 two:x.st=2→x.k < x.n
 le:x.st=2∨x.st=3→x.n≤x.ls.length
 gs:∀ g ∈ x.ls,Gn g
theorem LayOk.el {x:LayS} (h:LayOk x) (h2:x.st=2) : x.ls[x.k]? = some (x.ls.getD x.k 0)∧Gn (x.ls.getD x.k 0):=by
 have h3:=h.two h2
 have h4:=h.le (.inl h2)
 have h5:x.k < x.ls.length:=by omega
 have e:x.ls.getD x.k 0=x.ls[x.k]:=by rw [List.getD_eq_getElem?_getD,List.getElem?_eq_getElem h5]; rfl
 rw [e]
 exact ⟨List.getElem?_eq_getElem h5,h.gs _ (List.getElem_mem h5)⟩
theorem gn_u {g:Int} (h:Gn g) : U64 g:=⟨h.1,by have:=h.2; omega⟩
theorem roomN_le (c:Cfg) (l:List Int) (v:Int) : roomN c l v≤l.length:=Nat.min_le_left _ _
theorem layStep_ok {c:Cfg} {p:Nat} {x:LayS} {m:MemM} (hp:p < c.n) (hx:LayOk x) (hm:MemOk c m) : LayOk (layStep c p x m).1∧MemOk c (layStep c p x m).2:=by
 have hel:=hx.el
 obtain ⟨st,w,k,n,ls⟩:=x
 obtain ⟨h1,h2,h3,h4,h5,h6,h7,h8⟩:=hx
 dsimp only at h1 h2 h3 h4 h5 h6 h7 h8 hel
 have hw:=hm.get (hm.lt_word hp)
 match st,h1 with
 | 0,_ =>
  have q:LayOk ⟨0,w,k,n,ls⟩:=⟨by simp,h2,h3,h4,h5,h6,h7,h8⟩
  exact ⟨q,hm⟩
 | 1,_ =>
  have hr:=roomN_le c ls (ld m (c.word p))
  refine ⟨⟨?_,hw.2,⟨Nat.zero_le _,?_⟩,h4,fun _=>h5 (by simp),?_,?_,h8⟩,hm.tick⟩
  ·simp only [layStep]; split <;> omega
  ·simp only [layStep]; omega
  ·intro e
   simp only [layStep] at e ⊢
   split at e
   ·cases e
   ·omega
  ·intro _
   simp only [layStep]
   exact hr
 | 2,_ =>
  have k1:=h6 rfl
  have k2:=h7 (.inl rfl)
  refine ⟨⟨?_,h2,?_,h4,fun _=>h5 (by simp),?_,fun _=>k2,h8⟩,hm.put _ (gn_u (hel rfl).2)⟩
  ·simp only [layStep]; split <;> omega
  ·simp only [layStep]; omega
  ·intro e
   simp only [layStep] at e ⊢
   split at e
   ·cases e
   ·omega
 | 3,_ =>
  simp only [layStep]
  split
  ·exact ⟨⟨by simp,h2,h3,by rw [List.length_drop]; omega,fun h=>absurd rfl h,fun h=>(by cases h),fun h=>(by rcases h with h | h <;> cases h),fun g hg=>h8 g (List.mem_of_mem_drop hg)⟩,hm.put _ (mvW_u h2 _)⟩
  ·exact ⟨⟨by simp,h2,h3,h4,fun _=>h5 (by simp),fun h=>(by cases h),fun h=>(by rcases h with h | h <;> cases h),h8⟩,hm.tick⟩
def layV (c:Cfg) (p bp:Nat) (x:LayS) (lf:Value) : Ev.Asr:=Ev.blkA bp [.int .i64 (c.n:Int),.int .i64 (c.q:Int),.int .i64 c.g,.int .i64 c.m,.int .i64 c.t,.int .i64 c.s,.int .i64 (p:Int),.int .i64 (x.st:Int),.int .u64 x.w,.int .u32 (x.k:Int),.int .u32 (x.n:Int),lf] 203
def layA (c:Cfg) (p bp:Nat) (x:LayS) : Ev.Asr:=Ev.exA (fun lf:Value=>Ev.leafV lf=true) (fun lf=>Ev.grp [layV c p bp x lf,isA lf x.ls])
section
variable {w:World} {F:Nat→Prop} {c:Cfg} {p:Nat}
theorem lay_open {bp:Nat} {x:LayS} {ctx:Ev.Ctx} {l:List Ev.Asr} (h:Ev.Hold ctx (layA c p bp x::l) w) : ∃ lf,Ev.leafV lf=true∧Ev.Hold ctx (layV c p bp x lf::isA lf x.ls::l) w:=by
 obtain ⟨lf,llf,hh⟩:=h.getX
 exact ⟨lf,llf,hh.open⟩
theorem lay_close {bp:Nat} {x:LayS} {lf:Value} {ctx:Ev.Ctx} {l:List Ev.Asr} (llf:Ev.leafV lf=true) (h:Ev.Hold ctx (layV c p bp x lf::isA lf x.ls::l) w) : Ev.Hold ctx (layA c p bp x::l) w :=
 Ev.Hold.putX lf llf (Ev.Hold.shut h)
theorem ints_drop (l:List Int) (n:Nat) : (ints l).drop n=ints (l.drop n):=by simp [ints]
end
section
variable {ctx:Ev.Ctx} {w:World} {r:List Ev.Asr} {c:Cfg} {p bp bm:Nat} {mm:MemM} {st w0:Int} {k n0:Nat} {lf:Value} {ls:List Int}
abbrev laB (c:Cfg) (p bp:Nat) (st w0:Int) (k n0:Nat) (lf:Value) : Ev.Asr:=Ev.blkA bp (cpL c p [.int .i64 st,.int .u64 w0,.int .u32 (k:Int),.int .u32 (n0:Int),lf]) 203
theorem ldone (n:Nat) {st:Int} (h:w.cell? ⟨bp,7,none⟩=some (.int .i64 st)) : CallsIn Fence.wide n Tryz.prog 173 #[.pointer (some ⟨bp,0,none⟩)] w fun e w'=>e=.returned (.bool (decide (st=0)))∧w'=w:=by
 have hb:(st == 0)=decide (st=0):=by
  by_cases e:st=0 <;> simp [e]
 refine wen Tryz.func173 12 ?_
 gi_wp2
 exact bodyPost_ret (results_tmp rfl _ _ _) rfl ⟨by simp,rfl⟩
theorem room_w (c:Cfg) (ls:List Int) (x:Int) (hl:ls.length≤64) : IntKind.i64.wrap (min (szW x) (c.q:Int))=min (szW x) (c.q:Int)∧IntKind.i64.wrap ((c.q:Int) - min (szW x) (c.q:Int))=(c.q:Int) - min (szW x) (c.q:Int)∧IntKind.u32.wrap (min (ls.length:Int) ((c.q:Int) - min (szW x) (c.q:Int)))=((roomN c ls x:Nat) : Int)∧IntKind.u32.wrap (c.q:Int)=(c.q:Int):=by
 have h1:=szW_bd x
 have h2:=c.qb
 refine ⟨wrap_ok (by omega) (by omega),wrap_ok (by omega) (by omega),?_,by rw [wrap32]; omega⟩
 unfold roomN
 rw [wrap32]
 omega
theorem llook (n:Nat) (hp:p < c.n) (hm:MemOk c mm) (hl:ls.length≤64) (h:Ev.Hold ctx (laB c p bp st w0 k n0 lf::memA bm mm::isA lf ls::r) w) :
  CallsIn Fence.wide n Tryz.prog 174 #[.pointer (some ⟨bp,0,none⟩),.pointer (some ⟨bm,0,none⟩)] w fun e w'=>e=.returned (.tuple #[])∧Ev.Hold ctx (laB c p bp (if roomN c ls (ld mm (c.word p))=0 then 0 else 2) (ld mm (c.word p)) 0 (roomN c ls (ld mm (c.word p))) lf::memA bm mm.tick::isA lf ls::r) w':=by
 obtain ⟨x,hx⟩ : ∃ x,ld mm (c.word p)=x:=⟨_,rfl⟩
 have hrg:=rgload (n - 1) hp hm h
 rw [hx] at hrg ⊢
 obtain ⟨ea,eb,ec,ed⟩:=room_w c ls x hl
 obtain ⟨rm,hrm⟩ : ∃ rm,roomN c ls x=rm:=⟨_,rfl⟩
 obtain ⟨y,hy⟩ : ∃ y:Int,(if rm=0 then 0 else 2)=y:=⟨_,rfl⟩
 have hq:(rm=0∧y=0)∨(¬ rm=0∧y=2):=by
  by_cases e:rm=0
  ·exact .inl ⟨e,by rw [← hy,if_pos e]⟩
  ·exact .inr ⟨e,by rw [← hy,if_neg e]⟩
 rw [hrm] at ec ⊢
 rw [hy]
 clear hy hrm
 obtain ⟨av,ak,rfl⟩:=slr_val (hold_slr (hold_drop (r:=[_,_]) h))
 refine wen Tryz.func174 48 ?_
 gi_wp2
 refine wcl (hrg) ?_
 rintro e w1 ⟨rfl,h1⟩
 have h1d:=hold_keep h1 (Below.refl _ _).drew
 have x10:=blkc h1d 10 _
 have f10:=froz_of (hold_blk h1d) 10
 have h2:=hold_keep (hold_set 10 (.int .u32 (rm:Int)) h1) (Below.refl _ _).drew
 gi_upto_region 1 with fail
 refine wpIn_wide.2 ?_
 go_region_held3 (fun W=>cpC c p bp W∧W.cell? ⟨bp,11,none⟩=some (.slice av ls.length ak)) ((first | exact ⟨cpc h1d,blkc h1d 11 _⟩ | exact ⟨cpc h2,blkc h2 11 _⟩ | fail)) (fail)
 obtain ⟨W2,hW2⟩ : ∃ W2,(w1.setCell ⟨bp,10,none⟩ (.int .u32 (rm:Int))).drew=W2:=⟨_,rfl⟩
 rw [hW2] at h2 ⊢
 clear hW2
 have x7:=blkc h2 7 _
 have f7:=froz_of (hold_blk h2) 7
 have h3:=hold_set 7 (.int .i64 2) h2
 have z10:=blkc h3 10 _
 rcases hq with ⟨hq,rfl⟩ | ⟨hq,rfl⟩
 ·have hb:((rm:Int) == 0)=true:=by simp; omega
  have y7:=blkc h3 7 _
  have g7:=froz_of (hold_blk h3) 7
  have h4:=hold_set 7 (.int .i64 0) h3
  gi_wp2
  exact bodyPost_end (results_none rfl _ _ _) rfl ⟨rfl,h4⟩
 ·have hb:((rm:Int) == 0)=false:=by simp; omega
  gi_wp2
  exact bodyPost_end (results_none rfl _ _ _) rfl ⟨rfl,h3⟩
theorem lay1 (n:Nat) (hp:p < c.n) (hm:MemOk c mm) (hl:ls.length≤64) (hne:ls.length ≠ 0) (h:Ev.Hold ctx (laB c p bp 1 w0 k n0 lf::memA bm mm::isA lf ls::r) w) :
  CallsIn Fence.wide n Tryz.prog 170 #[.pointer (some ⟨bp,0,none⟩),.pointer (some ⟨bm,0,none⟩)] w fun e w'=>e=.returned (.bool (decide (roomN c ls (ld mm (c.word p))=0)))∧Ev.Hold ctx (laB c p bp (if roomN c ls (ld mm (c.word p))=0 then 0 else 2) (ld mm (c.word p)) 0 (roomN c ls (ld mm (c.word p))) lf::memA bm mm.tick::isA lf ls::r) w':=by
 obtain ⟨av,ak,rfl⟩:=slr_val (hold_slr (hold_drop (r:=[_,_]) h))
 have hneb:((ls.length:Int) == 0)=false:=by
  have:¬ (ls.length:Int)=0:=by omega
  simpa using this
 have x7:=blkc h 7 _
 have x11:=blkc h 11 _
 refine wen Tryz.func170 115 ?_
 gi_wp2
 refine wcl (ldone (n - 1) x7) ?_
 rintro e w1 ⟨rfl,rfl⟩
 gi_wp2
 refine wcl (llook (n - 1) hp hm hl h) ?_
 rintro e w2 ⟨rfl,h1⟩
 have y7:=blkc h1 7 _
 by_cases e:roomN c ls (ld mm (c.word p))=0
 ·simp only [e,↓reduceIte] at h1 y7
  gi_wp2
  exact bodyPost_ret (results_tmp rfl _ _ _) rfl ⟨by simp [e],h1⟩
 ·simp only [e,↓reduceIte] at h1 y7
  gi_wp2
  exact bodyPost_ret (results_tmp rfl _ _ _) rfl ⟨by simp [e],h1⟩
theorem lay2 (n:Nat) (hp:p < c.n) (hm:MemOk c mm) (hw0:U64 w0) (hl:ls.length≤64) (hk:k < n0) (hn0:n0≤ls.length) {g:Int} (hg:ls[k]? = some g) (hgn:Gn g) (h:Ev.Hold ctx (laB c p bp 2 w0 k n0 lf::memA bm mm::isA lf ls::r) w) :
  CallsIn Fence.wide n Tryz.prog 170 #[.pointer (some ⟨bp,0,none⟩),.pointer (some ⟨bm,0,none⟩)] w fun e w'=>e=.returned (.bool false)∧Ev.Hold ctx (laB c p bp (if k+1=n0 then 3 else 2) w0 (k+1) n0 lf::memA bm (mm.put (c.slot p ((tlW w0+(k:Int)) % 4294967296)) g)::isA lf ls::r) w':=by
 obtain ⟨av,off,ak,hv,hc,-⟩:=sl_some (hold_drop (r:=[_,_]) h) (by omega) (by decide)
 subst hv
 have e1:IntKind.i64.wrap (k:Int)=(k:Int):=wrap_ok (by omega) (by omega)
 have e2:IntKind.u32.wrap ((k:Int)+1)=(k:Int)+1:=by rw [wrap32]; omega
 have e3:IntKind.u32.wrap (k:Int)=(k:Int):=by rw [wrap32]; omega
 have e4:IntKind.u64.wrap g=g:=by rw [IntKind.wrap_u64]; have:=hgn.1; have:=hgn.2; omega
 have hkI:(k:Int) < (ls.length:Int):=by omega
 obtain ⟨hx,ha⟩:=hm.at_ (hm.lt_slot hp ((tlW w0+(k:Int)) % 4294967296))
 have hneb:((ls.length:Int) == 0)=false:=by
  have:¬ (ls.length:Int)=0:=by omega
  simpa using this
 have x7:=blkc h 7 _
 have x11:=blkc h 11 _
 refine wen Tryz.func170 115 ?_
 gi_wp2
 refine wcl (ldone (n - 1) x7) ?_
 rintro e w1 ⟨rfl,rfl⟩
 clear hc
 have hS:∀ {l:List Ev.Asr} {W:World} {M:MemM},Ev.Hold ctx (laB c p bp 2 w0 k n0 (.slice (some ⟨av,off,none⟩) ls.length ak)::memA bm M::isA (.slice (some ⟨av,off,none⟩) ls.length ak) ls::l) W→W.cell? ⟨bp,9,none⟩=some (.int .u32 (k:Int))∧W.cell? ⟨bp,11,none⟩=some (.slice (some ⟨av,off,none⟩) ls.length ak)∧W.cell? ⟨av,off+k,none⟩=some (.int .i64 g):=fun hh=>by
  obtain ⟨_,_,_,hv,hc,_⟩:=sl_some (hold_drop (r:=[_,_]) hh) (by omega) (by decide)
  cases hv
  refine ⟨blkc hh 9 _,blkc hh 11 _,?_⟩
  rw [hc k (by omega)]
  simp [ints,hg]
 have hd1:=hold_keep h (Below.refl _ _).drew
 have hs:=rgslot 0 hp hw0 (k:Int) hd1
 rw [e3,wrap32] at hs
 gi_upto_region 8 with fail
 refine wpIn_wide.2 ?_
 go_region_held3 (fun W=>W.cell? ⟨bp,9,none⟩=some (.int .u32 (k:Int))∧W.cell? ⟨bp,11,none⟩=some (.slice (some ⟨av,off,none⟩) ls.length ak)∧W.cell? ⟨av,off+k,none⟩=some (.int .i64 g)) ((first | exact hS hd1 | exact hS h2 | exact hS h3 | fail)) ((first
  | (have hcon:=callsIn_wide.1 hs; (with_reducible refine hcon.mono ?_); clear hcon; rintro e w1 ⟨rfl,h2⟩)
  | (have hcon:=callsIn_wide.1 (store_in 0 hx ha g (hold_swap h2)); (with_reducible refine hcon.mono ?_); clear hcon; rintro e w1 ⟨rfl,h3⟩; replace h3:=hold_swap h3)))
 clear e1 e3 e4 hS hs hd1 h
 have x9:=blkc h3 9 _
 have f9:=froz_of (hold_blk h3) 9
 have h4:=hold_set 9 (.int .u32 ((k:Int)+1)) h3
 gi_upto_region 10 with fail
 have h5:=hold_keep h4 (Below.refl _ _).drew
 refine wpIn_wide.2 ?_
 have S0:_∧_:=⟨blkc h5 9 _,blkc h5 10 _⟩
 go_region_held3 (fun W=>W.cell? ⟨bp,9,none⟩=some (.int .u32 ((k:Int)+1))∧W.cell? ⟨bp,10,none⟩=some (.int .u32 (n0:Int))) (exact S0) (fail)
 obtain ⟨W5,hW5⟩ : ∃ W5,(w1.setCell ⟨bp,9,none⟩ (.int .u32 ((k:Int)+1))).drew=W5:=⟨_,rfl⟩
 rw [hW5] at h5 ⊢
 clear hW5
 have y7:=blkc h5 7 _
 have g7:=froz_of (hold_blk h5) 7
 by_cases e:k+1=n0
 ·have hb:((k:Int)+1 == (n0:Int))=true:=by simp; omega
  subst e
  have h6:=hold_set 7 (.int .i64 3) h5
  have z7:=blkc h6 7 _
  gi_wp2
  exact bodyPost_ret (results_tmp rfl _ _ _) rfl ⟨rfl,h6⟩
 ·have hb:((k:Int)+1 == (n0:Int))=false:=by simp; omega
  gi_wp2
  exact bodyPost_ret (results_tmp rfl _ _ _) rfl ⟨rfl,h5⟩
theorem lay3 (n:Nat) (hp:p < c.n) (hm:MemOk c mm) (hw0:U64 w0) (hl:ls.length≤64) (hne:ls.length ≠ 0) (hn0:n0≤ls.length) (h:Ev.Hold ctx (laB c p bp 3 w0 k n0 lf::memA bm mm::isA lf ls::r) w) :
  CallsIn Fence.wide n Tryz.prog 170 #[.pointer (some ⟨bp,0,none⟩),.pointer (some ⟨bm,0,none⟩)] w fun e w'=>∃ lf',e=.returned (.bool (decide (ld mm (c.word p)=w0)))∧Ev.Hold ctx (laB c p bp (if ld mm (c.word p)=w0 then 0 else 1) w0 k n0 lf'::memA bm (if ld mm (c.word p)=w0 then mm.put (c.word p) (mvW w0 (n0:Int)) else mm.tick)::isA lf' (if ld mm (c.word p)=w0 then ls.drop n0 else ls)::r) w':=by
 obtain ⟨av,ak,rfl⟩:=slr_val (hold_slr (hold_drop (r:=[_,_]) h))
 have hneb:((ls.length:Int) == 0)=false:=by
  have:¬ (ls.length:Int)=0:=by omega
  simpa using this
 have x7:=blkc h 7 _
 have x11:=blkc h 11 _
 refine wen Tryz.func170 115 ?_
 gi_wp2
 refine wcl (ldone (n - 1) x7) ?_
 rintro e w1 ⟨rfl,rfl⟩
 have hd1:=hold_keep h (Below.refl _ _).drew
 have hc:=rgchange 0 hp hm (mvW w0 (n0:Int)) hd1
 by_cases he:ld mm (c.word p)=w0
 all_goals
  simp only [he,if_pos,if_neg,decide_true,decide_false,↓reduceIte] at hc
  gi_upto_region 12 with fail
  refine wpIn_wide.2 ?_
  go_region_held3 (fun W=>W.cell? ⟨bp,8,none⟩=some (.int .u64 w0)∧W.cell? ⟨bp,10,none⟩=some (.int .u32 (n0:Int))) ((first | exact ⟨blkc hd1 8 _,blkc hd1 10 _⟩ | exact ⟨blkc h2 8 _,blkc h2 10 _⟩ | fail)) ((first
   | (have hcon:=wGrow w0 (n0:Int) hw0 w1.drew; (with_reducible refine hcon.mono ?_); clear hcon; rintro e w1 ⟨rfl,rfl⟩)
   | (have hcon:=callsIn_wide.1 hc; (with_reducible refine hcon.mono ?_); clear hcon; rintro e w2 ⟨rfl,h2⟩)))
 ·obtain ⟨i0,hi,hz1,hz0,hz2⟩:=infInt
  have hsl:=hold_slr (hold_drop (r:=[_,_]) h2)
  have hcut:∀ W,(Instr.sliceAt 35 (.slice av ls.length ak) (some (.int .u32 (n0:Int))) none none).run Tryz.prog W=.ok (Ev.cutV 1 (.slice av ls.length ak) n0 ls.length) W:=fun W=>Ev.cut_runLo hsl Tryz.underlying35 hi hz1 hn0 W
  have h3:=(hold_up [_,_] h2).cutLo (lo:=n0) hn0
  rw [show Ev.slA 3 1 (Ev.cutV 1 (.slice av ls.length ak) n0 ls.length) (ls.length - n0) ((ints ls).drop (n0 * 1))=isA (Ev.cutV 1 (.slice av ls.length ak) n0 ls.length) (ls.drop n0) by unfold isA; rw [Nat.mul_one,ints_drop,List.length_drop]] at h3
  obtain ⟨a2,k2,e2⟩:=slr_val (hold_slr h3)
  rw [e2] at h3
  simp only [e2] at hcut
  replace h3:=hold_keep (hsel [_,_,_] h3 [1,2,0]) (Below.refl _ _).drew
  obtain ⟨N,hN⟩ : ∃ N,(ls.drop n0).length=N:=⟨_,rfl⟩
  rw [hN] at hcut h3
  have x11:=blkc h3 11 _
  have f11:=froz_of (hold_blk h3) 11
  have h4:=hold_set 11 (.slice a2 N k2) h3
  clear hc hd1 h e2 hN
  gi_upto_region 13 with fail
  refine wpIn_wide.2 ?_
  refine wp_region_noPanic ?_
  refine wp_region_B (fun W=>W.cell? ⟨bp,10,none⟩=some (.int .u32 (n0:Int))∧W.cell? ⟨bp,11,none⟩=some (.slice av ls.length ak)) 10 (by kernel_rfl) ?_ (fun hHeld=>?_)
  ·(try dsimp only); (exact ⟨blkc h3 10 _,blkc h3 11 _⟩)
  refine takeB0 (i:=0) (v:=?_) (Or.inl ⟨by kernel_rfl,?_⟩) (by assumption) ?_
  rotate_left
  ·intro w _; go_simp; try with_reducible rfl
  try simp only [Act.put,List.setIfInBounds_toArray,List.set_cons_zero,List.set_cons_succ]
  refine takeB0 (i:=1) (v:=?_) (Or.inl ⟨by kernel_rfl,?_⟩) (by assumption) ?_
  rotate_left
  ·intro w _; go_simp; try with_reducible rfl
  try simp only [Act.put,List.setIfInBounds_toArray,List.set_cons_zero,List.set_cons_succ]
  refine takeB0 (i:=2) (v:=?_) (Or.inl ⟨by kernel_rfl,?_⟩) (by assumption) ?_
  rotate_left
  ·intro w _; go_simp; try with_reducible rfl
  try simp only [Act.put,List.setIfInBounds_toArray,List.set_cons_zero,List.set_cons_succ]
  refine takeB0 (i:=3) (v:=?_) (Or.inl ⟨by kernel_rfl,?_⟩) (by assumption) ?_
  rotate_left
  ·intro w _; go_simp; try with_reducible rfl
  try simp only [Act.put,List.setIfInBounds_toArray,List.set_cons_zero,List.set_cons_succ]
  refine takeB (i:=4) (v:=?_) (Or.inl ⟨by kernel_rfl,?_⟩) (by assumption) ?_
  rotate_left
  ·intro w hSw; (try dsimp only at hSw); go_simp; try with_reducible rfl
  try simp only [Act.put,List.setIfInBounds_toArray,List.set_cons_zero,List.set_cons_succ]
  refine takeB0 (i:=5) (v:=?_) (Or.inl ⟨by kernel_rfl,?_⟩) (by assumption) ?_
  rotate_left
  ·intro w _; go_simp; try with_reducible rfl
  try simp only [Act.put,List.setIfInBounds_toArray,List.set_cons_zero,List.set_cons_succ]
  refine takeB0 (i:=6) (v:=?_) (Or.inl ⟨by kernel_rfl,?_⟩) (by assumption) ?_
  rotate_left
  ·intro w _; go_simp; try with_reducible rfl
  try simp only [Act.put,List.setIfInBounds_toArray,List.set_cons_zero,List.set_cons_succ]
  refine takeB0 (i:=7) (v:=?_) (Or.inl ⟨by kernel_rfl,?_⟩) (by assumption) ?_
  rotate_left
  ·intro w _; go_simp; try with_reducible rfl
  try simp only [Act.put,List.setIfInBounds_toArray,List.set_cons_zero,List.set_cons_succ]
  refine takeB (i:=8) (v:=?_) (Or.inl ⟨by kernel_rfl,?_⟩) (by assumption) ?_
  rotate_left
  ·intro w hSw; (try dsimp only at hSw); go_simp; try with_reducible rfl
  try simp only [Act.put,List.setIfInBounds_toArray,List.set_cons_zero,List.set_cons_succ]
  refine takeB0 (i:=9) (v:=?_) (Or.inl ⟨by kernel_rfl,?_⟩) (by assumption) ?_
  rotate_left
  ·intro w _; go_simp; try with_reducible rfl
  try simp only [Act.put,List.setIfInBounds_toArray,List.set_cons_zero,List.set_cons_succ]
  refine lastB (i:=10) (ho:=rfl) (fun K hK=>?_)
  go_simp
  refine hK.out _ _ ?_
  clear hK K
  try simp only [Act.put,List.setIfInBounds_toArray,List.set_cons_zero,List.set_cons_succ]
  refine lastB (i:=11) (ho:=rfl) (fun K hK=>?_)
  go_simp
  refine hK.out _ _ ?_
  clear hK K
  try simp only [Act.put,List.setIfInBounds_toArray,List.set_cons_zero,List.set_cons_succ]
  refine lastB (i:=12) (ho:=rfl) (fun K hK=>?_)
  go_simp
  refine hK.out _ _ ?_
  clear hK K
  try simp only [Act.put,List.setIfInBounds_toArray,List.set_cons_zero,List.set_cons_succ]
  refine (doneB (h:=?_) (hr:=by kernel_rfl)) _
  refine NoPanic.normal ?_
  replace h4:Ev.Hold ctx _ (w2.setCell ⟨bp,11,none⟩ (.slice a2 N k2)).drew:=h4
  obtain ⟨W5,hW5⟩ : ∃ W5,(w2.setCell ⟨bp,11,none⟩ (.slice a2 N k2)).drew=W5:=⟨_,rfl⟩
  rw [hW5] at h4 ⊢
  clear hW5
  have y7:=blkc h4 7 _
  gi_wp2
  exact bodyPost_ret (results_tmp rfl _ _ _) rfl ⟨rfl,_,hsel [_,_,_] h4 [0,1,2]⟩
 ·have y7:=blkc h2 7 _
  gi_wp2
  exact bodyPost_ret (results_tmp rfl _ _ _) rfl ⟨rfl,_,h2⟩
theorem lay_stepH (n:Nat) (hp:p < c.n) {x:LayS} (hx:LayOk x) (h0:x.st ≠ 0) (hm:MemOk c mm) (h:Ev.Hold ctx (layA c p bp x::memA bm mm::r) w) :
  CallsIn Fence.wide n Tryz.prog 170 #[.pointer (some ⟨bp,0,none⟩),.pointer (some ⟨bm,0,none⟩)] w fun e w'=>e=.returned (.bool (decide ((layStep c p x mm).1.st=0)))∧Ev.Hold ctx (layA c p bp (layStep c p x mm).1::memA bm (layStep c p x mm).2::r) w':=by
 obtain ⟨lf,llf,hh⟩:=lay_open h
 replace hh:=hsel [_,_,_] hh [0,2,1]
 have hel:=hx.el
 have hne:x.ls.length ≠ 0:=fun e=>hx.ne h0 (List.eq_nil_of_length_eq_zero e)
 obtain ⟨st,ww,k,n0,ls⟩:=x
 match st,hx.st with
 | 0,_=>exact absurd rfl h0
 | 1,_ =>
  refine (lay1 n hp hm hx.ls hne hh).mono ?_
  rintro e w1 ⟨rfl,h1⟩
  refine ⟨?_,lay_close (lf:=lf) llf ?_⟩
  ·simp only [layStep]
   split <;> simp [*]
  ·by_cases e:roomN c ls (ld mm (c.word p))=0
   all_goals
    simp only [layStep,e,↓reduceIte] at h1 ⊢
    exact hsel [_,_,_] h1 [0,2,1]
 | 2,_ =>
  refine (lay2 n hp hm hx.w hx.ls (hx.two rfl) (hx.le (.inl rfl)) (hel rfl).1 (hel rfl).2 hh).mono ?_
  rintro e w1 ⟨rfl,h1⟩
  by_cases e:k+1=n0
  all_goals
   simp only [layStep,e,↓reduceIte] at h1 ⊢
   exact ⟨rfl,lay_close (lf:=lf) llf (hsel [_,_,_] h1 [0,2,1])⟩
 | 3,_ =>
  refine (lay3 n hp hm hx.w hx.ls hne (hx.le (.inr rfl)) hh).mono ?_
  rintro e w1 ⟨lf',rfl,h1⟩
  have lf2:=hold_leaf (hold_drop (r:=[_,_]) h1)
  by_cases e:ld mm (c.word p)=ww
  all_goals
   simp only [layStep,e,↓reduceIte] at h1 ⊢
   exact ⟨by first | rfl | trivial,lay_close (lf:=lf') lf2 (hsel [_,_,_] h1 [0,2,1])⟩
theorem hands_lay (n:Nat) {x:LayS} (hx:x.ls.length≤64) (h:Ev.Hold ctx (layA c p bp x::r) w) :
  CallsIn Fence.wide n Tryz.prog 118 #[.pointer (some ⟨bp,0,none⟩)] w fun e w'=>∃ v,e=.returned v∧Ev.Hold ctx (isA v x.ls::layA c p bp x::r) w':=by
 obtain ⟨lf,llf,hh⟩:=lay_open h
 have x11:=blkc hh 11 _
 refine wen Tryz.func118 9 ?_
 gi_wp2
 refine wcl (iclone (n - 1) (by omega) (hold_swap hh)) ?_
 rintro e w1 ⟨v,rfl,h2⟩
 gi_wp2
 exact bodyPost_ret (results_tmp rfl _ _ _) rfl ⟨v,rfl,hold_swap (lay_close llf (hsel [_,_,_] h2 [2,1,0]))⟩
theorem from_ok {c:Cfg} {p:Nat} (hp:p < c.n) (w:World) : Calls Tryz.prog 63 #[c.v,.int .i64 (p:Int)] w fun e w'=>e=.returned (.agg (cpL c p [.int .i64 1,.int .u64 0,.int .u32 0]).toArray)∧Below w.heap.size w w' :=
 (callsIn_wide.1 (pfrom 0 hp (Ev.Hold.start (Ev.now_nil w)))).mono fun e w' h=>⟨h.1,h.2.below (fun _ h=>h)⟩
end
end Go.Proofs.YtkmccgombmogmaaGreat
namespace Go.Proofs.YtkmccgombmogmaaGreat
open Go.RowKit
set_option linter.unusedVariables false
set_option linter.unusedSimpArgs false
set_option maxRecDepth 8000
theorem room_full {c:Cfg} {ls:List Int} {v:Int} (h:¬ szW v < (c.q:Int)) : roomN c ls v=0:=by
 unfold roomN
 omega
theorem room_some {c:Cfg} {ls:List Int} {v:Int} (h:szW v < (c.q:Int)) : ((roomN c ls v:Nat) : Int)=min ((ls.length:Nat) : Int) (((c.q:Nat) : Int) - szW v):=by
 have:=szW_bd v
 unfold roomN
 omega
abbrev l9L (c:Cfg) (p:Nat) (st w0 n k:Int) (lf:Value) : List Value:=cpL c p [lf,.int .i64 st,.int .u64 w0,.int .i64 n,.int .i64 k]
def l9 (c:Cfg) (p:Nat) (x:LayS) (lf:Value) : Array Value:=(l9L c p (x.st:Int) x.w (x.n:Int) (x.k:Int) lf).toArray
abbrev l9Z:List Value:=[.int .i64 0,.int .i64 0,.int .i64 0,.int .i64 0,.int .i64 0,.int .i64 0,.int .i64 0,.slice none 0 0,.int .i64 0,.int .u64 0,.int .i64 0,.int .i64 0]
section
variable {ctx:Ev.Ctx} {w:World} {r:List Ev.Asr} {c:Cfg} {p:Nat} {m:MemM} {rv lf:Value}
abbrev HL (c:Cfg) (p b1 b2 b3 b4:Nat) (L:List Value) (rv:Value) (cs:List Int) (ops:Int) (lf:Value) (ls:List Int) (r:List Ev.Asr) : List Ev.Asr:=Ev.blkA b1 L 110 :: m06 b2 rv ops::Ev.blkA b3 l9Z 110 :: m06 b4 (.slice none 0 0) 0::uA rv cs::isA lf ls::r
abbrev Lay9 (ctx:Ev.Ctx) (r:List Ev.Asr) (c:Cfg) (p:Nat) (m:MemM) (rv lf:Value) (x:LayS) (n:Nat) (w:World) : Prop:=CallsIn Fence.wide n Tryz.prog 111 #[.agg (l9 c p x lf),.agg #[rv,.int .u64 m.ops]] w fun e w'=>∃ v lf',e=.returned (.tuple #[.agg (l9 c p (layStep c p x m).1 lf'),.agg #[v,.int .u64 (layStep c p x m).2.ops]])∧Ev.Hold ctx (uA v (layStep c p x m).2.cells::isA lf' (layStep c p x m).1.ls::r) w'
end
end Go.Proofs.YtkmccgombmogmaaGreat
namespace Go.Proofs.YtkmccgombmogmaaGreat
open Go.RowKit
set_option linter.unusedVariables false
set_option linter.unusedSimpArgs false
set_option maxRecDepth 8000
section
variable {ctx:Ev.Ctx} {w:World} {r:List Ev.Asr} {c:Cfg} {p:Nat} {bt:Value} {bs:List Int}
abbrev cfL (c:Cfg) : List Value:=[.int .i64 (c.n:Int),.int .i64 (c.q:Int),.int .i64 c.g,.int .i64 c.m,.int .i64 c.t,.int .i64 c.s]
theorem cut1 (hb:1≤bs.length) (h:Ev.Hold ctx (isA bt bs::r) w) : Ev.SlR 1 (Ev.cutV 1 bt 1 bs.length) (bs.drop 1).length (ints (bs.drop 1)) w:=by
 have hs:=(hold_slr h).cut (lo:=1) (hi:=bs.length) hb (Nat.le_refl _)
 have e1:((ints bs).drop (1 * 1)).take ((bs.length - 1) * 1)=ints (bs.drop 1):=by
  rw [Nat.mul_one,Nat.mul_one,ints_drop,List.take_of_length_le]
  simp [ints]
 rwa [e1,show bs.length - 1=(bs.drop 1).length by simp] at hs
set_option maxHeartbeats 2000000 in
theorem newlay_at (n:Nat) (hp:p < c.n) (hb:1≤bs.length) (hl:bs.length≤64) (hg:∀ g ∈ bs,Gn g) (h:Ev.Hold ctx (isA bt bs::r) w) :
  CallsIn Fence.wide n Tryz.prog 110 #[c.v,.int .i64 (p:Int),Ev.cutV 1 bt 1 bs.length] w fun e w'=>∃ v,e=.returned (.agg (l9 c p ⟨1,0,0,0,bs.drop 1⟩ v))∧Ev.Hold ctx (isA v (bs.drop 1)::isA bt bs::r) w':=by
 have hC:∀ {R:List Ev.Asr} {W:World},Ev.Hold ctx (isA bt bs::R) W→Ev.SlR 1 (Ev.cutV 1 bt 1 bs.length) (bs.drop 1).length (ints (bs.drop 1)) W:=fun hh=>cut1 hb hh
 obtain ⟨L,hL⟩ : ∃ L,bs.drop 1=L:=⟨_,rfl⟩
 have hLl:L.length≤63:=by rw [← hL,List.length_drop]; omega
 have hLg:∀ g ∈ L,Gn g:=fun g hh=>hg g (List.mem_of_mem_drop (by rw [hL]; exact hh))
 rw [hL] at hC ⊢
 obtain ⟨a0,k0,e0⟩:=slr_val (hC h)
 rw [e0] at hC ⊢
 clear e0 hL
 obtain ⟨b0,W1,hb1,hW1,q1⟩:=newN (cfL c) 49 h
 obtain ⟨b6,W2,hb2,hW2,q2⟩:=newN l9Z 110 q1
 have d0:=ld_all (hold_up [_] q2) Tryz.underlying49 rfl (by kernel_rfl)
 refine wen Tryz.func110 35 ?_
 gi_wp2_with (refine wpListIn_load_run rfl _ _ rfl d0 rfl ?_)
 refine wcw (there_ok c p hp _) ?_
 rintro e w1 ⟨rfl,bl1⟩
 have q3:=hold_keep q2 bl1
 obtain ⟨b7,W3,hb3,hW3,q4⟩:=newN l9Z 110 q3
 obtain ⟨W4,s4,q5⟩:=st_all (t := 110) (cs':=l9L c p 1 0 0 0 (.slice none 0 0)) q4 rfl (by simp [Value.oneCell']) (by kernel_rfl)
 have d1:=ld_all (hold_up [_] q3) Tryz.underlying49 rfl (by kernel_rfl)
 have q6:Ev.Hold ctx (Ev.blkA b7 (l9L c p 1 0 0 0 (.slice none 0 0)) 110 :: isA (.slice none 0 0) (L.take 0)::Ev.blkA b6 l9Z 110 :: isA bt bs::r) W4:=hsel [_,_,_,_,_] (q5.nilSl (e := 3) (sz:=1)) [1,0,2,4]
 clear hW1 hW2 hb1 hb2 d0 q1 q2 q3 q4
 gi_upto_region 4 with (first | refine wpListIn_load_run rfl _ _ rfl d1 rfl ?_ | refine wpListIn_store_run rfl _ _ _ rfl s4 rfl rfl ?_)
 clear hW3 hb3 d1 s4 q5
 gi_wp2
 gi_loopw [8] (fun q wr=>∃ (k:Nat) (a:Option Addr) (cc:Nat),q=.int .i64 (k:Int)∧k≤L.length∧Ev.Hold ctx (Ev.blkA b7 (l9L c p 1 0 0 0 (.slice a k cc)) 110 :: isA (.slice a k cc) (L.take k)::Ev.blkA b6 l9Z 110 :: isA bt bs::r) wr) (fun q _=>L.length - (intOf q).toNat)
 case atStart=>exact ⟨0,none,0,rfl,Nat.zero_le _,q6⟩
 case round =>
  obtain ⟨k,a,cc,rfl,hk,hH⟩:=hrel
  by_cases hlt:k < L.length
  ·have hlI:(k:Int) < (L.length:Int):=by omega
   have hw:IntKind.i64.wrap ((k:Int)+1)=(k:Int)+1:=wrap_ok (by omega) (by omega)
   obtain ⟨bb,oo,rfl,g1⟩:=slr_cell (hC (hold_drop (r:=[_,_,_]) hH)) hlt
   obtain ⟨x,hx⟩ : ∃ x,L.getD k 0=x:=⟨_,rfl⟩
   have hx0:0≤x:=by rw [← hx,List.getD_eq_getElem?_getD,List.getElem?_eq_getElem hlt]; exact (hLg _ (List.getElem_mem hlt)).1
   have hE:∀ {q1 q2 q3:Ev.Asr} {R:List Ev.Asr} {W:World},Ev.Hold ctx (q1::q2::q3::isA bt bs::R) W→W.cell? ⟨bb,oo+k,none⟩=some (.int .i64 x):=fun hh=>by
    obtain ⟨_,_,hv,g⟩:=slr_cell (hC (hold_drop (r:=[_,_,_]) hh)) hlt
    cases hv
    rw [g,hx]
   rw [hx] at g1
   have hd:=hold_keep hH (Below.refl _ _).drew
   have h3:=hold_new [.int .i64 x] 3 hd
   obtain ⟨a5,k5,w5,r5,h5⟩:=iapp1 x (by rw [List.length_take]; omega) (hold_up [_] hd)
   rw [List.length_take,Nat.min_eq_left hk] at r5 h5
   replace h5:=hold_up [_] h5
   have c7:=blkc h5 7 _
   have f7:=froz_of (hold_blk h5) 7
   have h6:=hold_set 7 (.slice a5 (k+1) k5) h5
   have e:L.take (k+1)=L.take k++[x]:=by
    rw [List.take_add_one,List.getElem?_eq_getElem hlt,← hx,List.getD_eq_getElem?_getD,List.getElem?_eq_getElem hlt]
    rfl
   have h7:Ev.Hold ctx (Ev.blkA b7 (l9L c p 1 0 0 0 (.slice a5 (k+1) k5)) 110 :: isA (.slice a5 (k+1) k5) (L.take (k+1))::Ev.blkA b6 l9Z 110 :: isA bt bs::r) (w5.setCell ⟨b7,7,none⟩ (.slice a5 (k+1) k5)):=by rw [e]; exact h6
   clear e
   have e7:=blkc hd 7 _
   have e7x:(wr.alloc (.cells #[.int .i64 x] 3)).drew.cell? ⟨b7,7,none⟩=some (.slice a k cc):=blkc (hold_up [_] h3) 7 _
   have S6:=hE h6
   gi_upto_region 8 with fail
   refine wpIn_wide.2 ?_
   refine wp_region_noPanic ?_
   refine wp_region_B (fun W=>W.cell? ⟨bb,oo+k,none⟩=some (.int .i64 x)∧W.cell? ⟨b7,7,none⟩=some (.slice a k cc)) 8 (by kernel_rfl) ?_ (fun hHeld=>?_)
   ·(try dsimp only); (first | exact ⟨hE hd,blkc hd 7 _⟩ | exact ⟨hE (hold_drop (r:=[_]) h3),blkc (hold_up [_] h3) 7 _⟩ | exact ⟨hE h5,blkc h5 7 _⟩)
   refine takeB0 (i:=0) (v:=?_) (Or.inl ⟨by kernel_rfl,?_⟩) (by assumption) ?_
   rotate_left
   ·intro w _; go_simp; try with_reducible rfl
   try simp only [Act.put,List.setIfInBounds_toArray,List.set_cons_zero,List.set_cons_succ]
   refine takeB (i:=1) (v:=?_) (Or.inl ⟨by kernel_rfl,?_⟩) (by assumption) ?_
   rotate_left
   ·intro w hSw; (try dsimp only at hSw); go_simp; try with_reducible rfl
   try simp only [Act.put,List.setIfInBounds_toArray,List.set_cons_zero,List.set_cons_succ]
   refine takeB0 (i:=2) (v:=?_) (Or.inl ⟨by kernel_rfl,?_⟩) (by assumption) ?_
   rotate_left
   ·intro w _; go_simp; try with_reducible rfl
   try simp only [Act.put,List.setIfInBounds_toArray,List.set_cons_zero,List.set_cons_succ]
   refine takeB0 (i:=3) (v:=?_) (Or.inl ⟨by kernel_rfl,?_⟩) (by assumption) ?_
   rotate_left
   ·intro w _; go_simp; try with_reducible rfl
   try simp only [Act.put,List.setIfInBounds_toArray,List.set_cons_zero,List.set_cons_succ]
   refine takeB0 (i:=4) (v:=?_) (Or.inl ⟨by kernel_rfl,?_⟩) (by assumption) ?_
   rotate_left
   ·intro w _; go_simp; try with_reducible rfl
   try simp only [Act.put,List.setIfInBounds_toArray,List.set_cons_zero,List.set_cons_succ]
   refine takeB (i:=5) (v:=?_) (Or.inl ⟨by kernel_rfl,?_⟩) (by assumption) ?_
   rotate_left
   ·intro w hSw; (try dsimp only at hSw); go_simp; try with_reducible rfl
   try simp only [Act.put,List.setIfInBounds_toArray,List.set_cons_zero,List.set_cons_succ]
   refine nextB (i:=6) (ho:=rfl) (fun K hK=>?_)
   go_simp
   refine hK.out _ _ ?_ (fun hHeld=>?_)
   ·(try dsimp only); (first | exact ⟨hE hd,blkc hd 7 _⟩ | exact ⟨hE (hold_drop (r:=[_]) h3),blkc (hold_up [_] h3) 7 _⟩ | exact ⟨hE h5,blkc h5 7 _⟩)
   clear hK K
   try simp only [Act.put,List.setIfInBounds_toArray,List.set_cons_zero,List.set_cons_succ]
   refine nextB (i:=7) (ho:=rfl) (fun K hK=>?_)
   (rw [if_pos (by rfl)]; refine wp_append_run _ _ _ rfl r5 ?_)
   refine hK.out _ _ ?_ (fun hHeld=>?_)
   ·(try dsimp only); (first | exact ⟨hE hd,blkc hd 7 _⟩ | exact ⟨hE (hold_drop (r:=[_]) h3),blkc (hold_up [_] h3) 7 _⟩ | exact ⟨hE h5,blkc h5 7 _⟩)
   clear hK K
   try simp only [Act.put,List.setIfInBounds_toArray,List.set_cons_zero,List.set_cons_succ]
   refine lastB (i:=8) (ho:=rfl) (fun K hK=>?_)
   go_simp
   refine hK.out _ _ ?_
   clear hK K
   try simp only [Act.put,List.setIfInBounds_toArray,List.set_cons_zero,List.set_cons_succ]
   refine lastB (i:=9) (ho:=rfl) (fun K hK=>?_)
   go_simp
   refine hK.out _ _ ?_
   clear hK K
   try simp only [Act.put,List.setIfInBounds_toArray,List.set_cons_zero,List.set_cons_succ]
   refine (doneB (h:=?_) (hr:=by kernel_rfl)) _
   refine NoPanic.normal ?_
   all_goals
    gi_wp2
    exact ⟨⟨k+1,a5,k5,rfl,hlt,h7⟩,by simp [intOf]; omega⟩
  ·obtain rfl:k=L.length:=by omega
   have hlI:¬ ((L.length:Nat) : Int) < (L.length:Int):=by omega
   rw [List.take_length] at hH
   have d7:=ld_all hH Tryz.underlying110 rfl (by kernel_rfl)
   obtain ⟨W6,s6,h6⟩:=st_all (t := 110) (cs':=l9L c p 1 0 0 0 (.slice a L.length cc)) (hold_up [_,_] hH) rfl (by simp [Value.oneCell']) (by kernel_rfl)
   gi_wp2_with (first | refine wpListIn_load_run rfl _ _ rfl d7 rfl ?_ | refine wpListIn_store_run rfl _ _ _ rfl s6 rfl rfl ?_)
   exact post_cell rfl rfl rfl (lv_all h6 Tryz.underlying110 rfl (by kernel_rfl)) ⟨_,rfl,hsel [_,_,_,_] h6 [2,3]⟩
end
end Go.Proofs.YtkmccgombmogmaaGreat
namespace Go.Proofs.YtkmccgombmogmaaGreat
open Go.RowKit
set_option linter.unusedVariables false
set_option linter.unusedSimpArgs false
section
variable {n:Nat} {P:Program} {ops:Array Oper} {Q:Exit→Act→World→Prop} {md:Region.Mode} {S:World→Prop} {i j:Nat} {oi oj:Oper} {v:Value} {K:Act→World→Prop} {a:Act} {w:World}
theorem put_under (hj:ops[j]? = some oj) (hap:oi.apart ops oj=true) (hsi:∀ cs b,oi.op ≠ .select cs b) (hsj:∀ cs b,oj.op ≠ .select cs b)
  (hQ:∀ c a w,Q (.panic c) (a.put oi.dst v) w→Q (.panic c) a w) (hy:YieldsIf P ops S oi v a) (h:wpOpIn Fence.wide n P ops Q j K (a.put oi.dst v) w) :
  wpOpIn Fence.wide n P ops Q j (fun a' w'=>YieldsIf P ops S oi v a'∧K (a'.put oi.dst v) w') a w:=by
 obtain ⟨d1,d2,d3⟩:=Oper.apart_spec hap
 have go:∀ u,K ((a.put oi.dst v).put oj.dst u)=K ((a.put oj.dst u).put oi.dst v):=fun u=>by rw [Act.put_comm a v u d2]
 have st:∀ (b:Act) u,YieldsIf P ops S oi v b→YieldsIf P ops S oi v (b.put oj.dst u):=fun b u hb=>hb.of_same (execOp_put oi hsi b oj.dst u d3) (wanted_put oi b oj.dst u d3)
 unfold wpOpIn at h ⊢
 simp only [hj] at h ⊢
 rw [wanted_put oj a oi.dst v d1] at h
 by_cases hw:Region.wanted oj (yielded ops a.tmps)=true
 ·rw [if_pos hw] at h ⊢
  unfold Oper.wpIn at h ⊢
  refine ⟨fun _ _=>trivial,?_⟩
  have h:=h.2
  rw [show Fence.wide.round=none from rfl,Oper.semAt_none] at h ⊢
  rw [execOp_put oj hsj a oi.dst v d1] at h
  generalize (execOp a.eval oj).run P w=res at h ⊢
  match res with
  | .ok (.value u) w'=>exact ⟨st a u hy,by simpa only [Oper.uponIn,go] using h⟩
  | .ok .skip w'=>exact ⟨st a undef hy,by simpa only [Oper.uponIn,go] using h⟩
  | .ok (.defer d) w' =>
   refine ⟨st _ undef (hy.of_same rfl rfl),?_⟩
   simp only [Oper.uponIn] at h ⊢
   rw [← Act.put_comm _ v undef d2,← Act.put_defers]
   exact h
  | .ok (.enter f args) w' =>
   simp only [Oper.uponIn] at h ⊢
   refine ⟨h.1,CallsIn.mono h.2 fun e w'' he=>?_⟩
   match e with
   | .returned u=>exact ⟨st a u hy,by simpa only [go] using he⟩
   | .panicked c=>exact hQ _ _ _ he
   | .outgrown=>exact he
  | .ok (.row r args) w' =>
   simp only [Oper.uponIn] at h ⊢
   exact ⟨h.1,RowsIn.mono h.2 fun u w'' he=>⟨st a u hy,by simpa only [go] using he⟩⟩
  | .ok (.round l f tmps asg body) w' =>
   simp only [Oper.uponIn] at h ⊢
   refine ⟨h.1,RoundIn.mono h.2 fun e w'' he=>?_⟩
   match e with
   | .returned u=>exact ⟨st a u hy,by simpa only [go] using he⟩
   | .panicked c=>exact hQ _ _ _ he
   | .outgrown=>exact he
  | .halt (.panic u) w'=>exact hQ _ _ _ (by simpa only [Oper.uponIn] using h)
  | .halt x w'=>cases x <;> simp only [Oper.uponIn] at h ⊢ <;> first | exact h | exact hQ _ _ _ h
 ·rw [if_neg hw] at h ⊢
  exact ⟨fun _ _=>trivial,st a undef hy,by rw [← go]; exact h.2⟩
def AnyS (n:Nat) (P:Program) (md:Region.Mode) (ops:Array Oper) (Q:Exit→Act→World→Prop) (S:World→Prop) (T:Nat) : Nat→Array Bool→Act→World→Prop
 | 0,l,a,w=>Region.ready md ops l=[]∧Q .normal a w
 | k+1,l,a,w=>(Region.ready md ops l=[]→Q .normal a w)∧∀ i ∈ Region.ready md ops l,wpOpIn Fence.wide n P ops Q i (fun a' w'=>((l.setIfInBounds i true).getD T false=true∨S w')∧AnyS n P md ops Q S T k (l.setIfInBounds i true) a' w') a w
theorem AnyS.any {T:Nat} : ∀ (k:Nat) (l:Array Bool) (a:Act) (w:World),AnyS n P md ops Q S T k l a w→wpAnyIn Fence.wide n P md ops Q k l a w
 | 0,_,_,_,h=>h
 | k+1,_,_,_,h=>⟨h.1,fun i hi=>wpOpIn_mono (fun a' w' h'=>AnyS.any k _ a' w' h'.2) (h.2 i hi)⟩
theorem wants_if (hi:ops[i]? = some oi) (hy:YieldsIf P ops S oi v a) (hS:S w) (h:K (a.put oi.dst v) w) : wpOpIn Fence.wide n P ops Q i K a w:=by
 unfold wpOpIn
 simp only [hi]
 rcases hy with ⟨h1,h2⟩ | ⟨h1,rfl⟩
 ·rw [if_pos h1]
  unfold Oper.wpIn
  refine ⟨fun _ _=>trivial,?_⟩
  rw [show Fence.wide.round=none from rfl,Oper.semAt_none,h2 w hS]
  exact h
 ·rw [if_neg (by rw [h1]; decide)]
  exact ⟨fun _ _=>trivial,h⟩
def behind (md:Region.Mode) (ops:Array Oper) (i:Nat) (B:List Nat) : Bool:=B.all fun q=>q == i || (match ops[q]? with | some o=>o.after.any fun e=>Region.binds md e && B.contains e.on | none=>false)
theorem not_yet {B:List Nat} {l:Array Bool} (hB:behind md ops i B=true) (hl:∀ q ∈ B,l.getD q true=false) {q:Nat} (hq:q ∈ B) (hqi:q ≠ i) : ¬ q ∈ Region.ready md ops l:=by
 intro hr
 obtain ⟨_,o,ho,hall⟩:=mem_ready.1 hr
 have h1:=List.all_eq_true.1 hB q hq
 rw [ho] at h1
 simp only [Bool.or_eq_true,beq_iff_eq,Array.any_eq_true'] at h1
 rcases h1 with h1 | ⟨e,he,h2⟩
 ·exact hqi h1
 ·obtain ⟨h3,h4⟩:=Bool.and_eq_true_iff.1 h2
  have h5:=hl e.on (by simpa using h4)
  have h6:=hall e he h3
  rcases Nat.lt_or_ge e.on l.size with h | h
  ·simp [h] at h5 h6
   rw [h5] at h6
   cases h6
  ·simp [Array.getElem?_eq_none h] at h5
theorem AnyS.first {T:Nat} {B:List Nat} (hi:ops[i]? = some oi) (hsel:∀ (j:Nat) (o:Oper) cs b,ops[j]? = some o→o.op ≠ .select cs b) (hQ:∀ c a w,Q (.panic c) (a.put oi.dst v) w→Q (.panic c) a w) (hB:behind md ops i B=true) (hT:T ∈ B) (hTi:T ≠ i) :
  ∀ (k:Nat) (l:Array Bool) (a:Act) (w:World),(∀ j oj,ops[j]? = some oj→j ≠ i→l.getD j true=false→(∀ e ∈ oj.after,Region.binds md e=true→e.on ≠ i)→oi.apart ops oj=true)→(∀ q ∈ B,l.getD q true=false) →
   i ∈ Region.ready md ops l→YieldsIf P ops S oi v a→S w→AnyS n P md ops Q S T k (l.setIfInBounds i true) (a.put oi.dst v) w→AnyS n P md ops Q S T (k+1) l a w:=by
 intro k
 induction k with
 | zero =>
  intro l a w _ _ hr hy hS H
  refine ⟨fun e=>(by rw [e] at hr; cases hr),fun j hj=>?_⟩
  by_cases e:j=i
  ·subst e
   exact wants_if hi hy hS ⟨.inr hS,H⟩
  ·have:=ready_mono hj e
   rw [H.1] at this
   cases this
 | succ k ih =>
  intro l a w hf hl hr hy hS H
  refine ⟨fun e=>(by rw [e] at hr; cases hr),fun j hj=>?_⟩
  by_cases e:j=i
  ·subst e
   exact wants_if hi hy hS ⟨.inr hS,H⟩
  ·obtain ⟨hju,oj,hoj,hall⟩:=mem_ready.1 hj
   have hjB:¬ j ∈ B:=fun hm=>not_yet hB hl hm e hj
   have hl':∀ q ∈ B,(l.setIfInBounds j true).getD q true=false:=fun q hq=>by
    have hjq:j ≠ q:=fun e=>hjB (e ▸ hq)
    rw [getD_set_ne true hjq]
    exact hl q hq
   have hno:∀ e ∈ oj.after,Region.binds md e=true→e.on ≠ i:=fun ed he hb heq=>by
    have h1:=hall ed he hb
    have h0:=(mem_ready.1 hr).1
    rw [heq] at h1
    rcases Nat.lt_or_ge i l.size with h' | h'
    ·simp [h'] at h0 h1
     rw [h0] at h1
     cases h1
    ·simp [Array.getElem?_eq_none h'] at h1
   have hTl:¬ ((l.setIfInBounds i true).setIfInBounds j true).getD T false=true:=by
    have hjT:j ≠ T:=fun e=>hjB (e ▸ hT)
    rw [getD_set_ne false hjT,getD_set_ne false (Ne.symm hTi)]
    have h0:=hl T hT
    rcases Nat.lt_or_ge T l.size with h | h
    ·simp [h] at h0 ⊢
     exact h0
    ·simp [Array.getElem?_eq_none h] at h0
   refine wpOpIn_mono (fun a' w' h3=>?_) (put_under hoj (hf j oj hoj e hju hno) (fun cs b=>hsel i oi cs b hi) (fun cs b=>hsel j oj cs b hoj) hQ hy (H.2 j (ready_mono hj e)))
   have hS':S w':=h3.2.1.resolve_left hTl
   refine ⟨.inr hS',ih (l.setIfInBounds j true) a' w' (fun q oq hq hqi hun hn=>hf q oq hq hqi ?_ hn) hl' (ready_mono hr (Ne.symm e)) h3.1 hS' ?_⟩
   ·by_cases hjq:j=q
    ·subst hjq
     exact hju
    ·rwa [getD_set_ne true hjq] at hun
   ·rw [Array.setIfInBounds_comm _ _ e]
    exact h3.2.2
theorem AnyS.take {T:Nat} (B:List Nat) {k:Nat} {l:Array Bool} (hi:ops[i]? = some oi) (hs:Region.noSelect ops=true) (hf:Region.free md ops l i=true) (hr:(Region.ready md ops l).contains i=true) (hB:(behind md ops i B && B.contains T && !(T == i) && B.all fun q=>!l.getD q true)=true)
  (hQ:∀ c a w,Q (.panic c) (a.put oi.dst v) w→Q (.panic c) a w) (hy:YieldsIf P ops S oi v a) (hS:S w) (h:AnyS n P md ops Q S T k (l.setIfInBounds i true) (a.put oi.dst v) w) : AnyS n P md ops Q S T (k+1) l a w:=by
 simp only [Bool.and_eq_true] at hB
 obtain ⟨⟨⟨h1,h2⟩,h3⟩,h4⟩:=hB
 exact AnyS.first hi (Region.noSelect_spec hs) hQ h1 (by simpa using h2) (by simpa using h3) k l a w (Region.free_spec hi hf) (fun q hq=>by simpa using List.all_eq_true.1 h4 q hq) (by simpa using hr) hy hS h
theorem AnyS.one {T:Nat} {k:Nat} {l:Array Bool} (hr:Region.ready md ops l=[i]) (h:wpOpIn Fence.wide n P ops Q i (fun a' w'=>((l.setIfInBounds i true).getD T false=true∨S w')∧AnyS n P md ops Q S T k (l.setIfInBounds i true) a' w') a w) : AnyS n P md ops Q S T (k+1) l a w :=
 ⟨fun e=>(by rw [hr] at e; cases e),fun j hj=>by
  rw [hr,List.mem_singleton] at hj
  subst hj
  exact h⟩
theorem AnyS.done {T:Nat} {l:Array Bool} (hr:Region.ready md ops l=[]) (h:Q .normal a w) : ∀ k,AnyS n P md ops Q S T k l a w
 | 0=>⟨hr,h⟩
 | _+1=>⟨fun _=>h,by rw [hr]; simp⟩
theorem AnyS.region {T id:Nat} (hm:P.follows .mixedOrders=true) (h:AnyS n P .any ops Q S T ops.size (Array.replicate ops.size false) a w.drew) : (Code.region id ops true).wpIn Fence.wide n P Q a w :=
 wpIn_region_any hm (AnyS.any _ _ _ _ h)
theorem wants_op (hi:ops[i]? = some oi) (h1:Region.wanted oi (yielded ops a.tmps)=true) (h:oi.wpIn Fence.wide n P a w K Q) : wpOpIn Fence.wide n P ops Q i K a w:=by
 unfold wpOpIn
 simp only [hi]
 rw [if_pos h1]
 exact h
end
end Go.Proofs.YtkmccgombmogmaaGreat
namespace Go.Proofs.YtkmccgombmogmaaGreat
open Go.RowKit
set_option linter.unusedVariables false
set_option linter.unusedSimpArgs false
set_option maxRecDepth 8000
theorem Cfg.room (c:Cfg) : bits .and .i64 (c.q:Int) ((c.q:Int) - 1)=0:=by
 have h:=(right_parts c.h).2.1
 rcases h with h | h | h | h | h | h <;> (rw [h]; decide +kernel)
theorem bits_mod {q:Nat} (hq:q=2∨q=4∨q=8∨q=16∨q=32∨q=64) {i:Int} (hi:0≤i∧i < 4294967296) : bits .and .i64 i ((q:Int) - 1)=i % (q:Int):=by
 obtain ⟨n,rfl⟩:=Int.eq_ofNat_of_zero_le hi.1
 have h1:n < 4294967296:=by omega
 have key:∀ k:Nat,k≤6→q=2 ^ k→bits .and .i64 (n:Int) ((q:Int) - 1)=((n % q:Nat) : Int):=by
  intro k hk e
  have hq1:1≤q:=by rcases hq with h | h | h | h | h | h <;> omega
  have hq2:q≤64:=by rcases hq with h | h | h | h | h | h <;> omega
  have e1:((n:Int) % 18446744073709551616).toNat=n:=by omega
  have e2:(((q:Int) - 1) % 18446744073709551616).toNat=q - 1:=by omega
  have e3:n &&& (q - 1)=n % q:=by rw [e]; exact Nat.and_two_pow_sub_one_eq_mod n k
  have e4:(BitVec.ofInt 64 (n:Int) &&& BitVec.ofInt 64 ((q:Int) - 1)).toNat=n % q:=by
   simp only [BitVec.toNat_and,BitVec.toNat_ofInt]
   rw [show ((2 ^ 64:Nat) : Int)=18446744073709551616 by rfl,e1,e2,e3]
  show IntKind.i64.wrap ((BitVec.ofInt 64 (n:Int) &&& BitVec.ofInt 64 ((q:Int) - 1)).toNat:Int)=_
  rw [e4]
  have:=Nat.mod_lt n (show 0 < q by omega)
  exact wrap_ok (by omega) (by omega)
 have e5:((n % q:Nat) : Int)=(n:Int) % (q:Int):=Int.natCast_emod n q
 rw [← e5]
 rcases hq with h | h | h | h | h | h
 ·exact key 1 (by decide) h
 ·exact key 2 (by decide) h
 ·exact key 3 (by decide) h
 ·exact key 4 (by decide) h
 ·exact key 5 (by decide) h
 ·exact key 6 (by decide) h
theorem room_ok (c:Cfg) (w:World) : Calls Tryz.prog 61 #[.int .i64 (c.q:Int)] w fun e w'=>e=.returned (.bool true)∧w=w':=by
 have h1:=c.qb
 have h2:(2:Int)≤(c.q:Int):=by omega
 have h3:(c.q:Int)≤65536:=by omega
 have h4:IntKind.i64.wrap ((c.q:Int) - 1)=(c.q:Int) - 1:=wrap_ok (by omega) (by omega)
 have h5:=c.room
 go_enter Tryz.func61,Tryz.ntmps61
 go_wp2
 go_ret
 exact ⟨rfl,rfl⟩
theorem wslot_ok (c:Cfg) {i:Int} (hi:0≤i∧i < 4294967296) (w:World) : Calls Tryz.prog 106 #[.int .u32 i,.int .i64 (c.q:Int)] w fun e w'=>e=.returned (.int .i64 ((c.slotI i:Nat) : Int))∧w=w':=by
 have h1:=c.qb
 have h4:IntKind.i64.wrap ((c.q:Int) - 1)=(c.q:Int) - 1:=wrap_ok (by omega) (by omega)
 have h6:IntKind.i64.wrap i=i:=wrap_ok (by omega) (by omega)
 have h7:=(right_parts c.h).2.1
 have h5:=bits_mod (q:=c.q) (by omega) hi
 have h8:i % (c.q:Int)=((c.slotI i:Nat) : Int):=by
  have:=Int.emod_nonneg i (show (c.q:Int) ≠ 0 by omega)
  unfold Cfg.slotI
  omega
 go_enter Tryz.func106,Tryz.ntmps106
 go_wp2_with (first | (go_at_call 61; refine (room_ok c _).mono ?_; rintro e w' ⟨rfl,rfl⟩))
 go_ret
 exact ⟨rfl,rfl⟩
end Go.Proofs.YtkmccgombmogmaaGreat
