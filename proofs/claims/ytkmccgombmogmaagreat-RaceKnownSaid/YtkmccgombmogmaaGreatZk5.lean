/- Part of a proof: see the last text. -/
import Derived.Test.YtkmccgombmogmaaGreatZk4
import Derived.Test.YtkmccgombmogmaaGreatZk1
import Derived.WalkKit
import Derived.WalkSpells
import Derived.OwnWalkIn
import Derived.TacticsInMore
import Derived.LoopNIn
import Derived.LoopIn
namespace Go.Proofs.YtkmccgombmogmaaGreat
open Go.RowKit
set_option linter.unusedVariables false
set_option linter.unusedSimpArgs false
set_option maxRecDepth 8000
structure LayS where
 st:Nat
 w:Int
 k:Nat
 n:Nat
 ls:List Int
def roomN (c:Cfg) (l:List Int) (v:Int) : Nat:=min l.length (c.q - min (szW v).toNat c.q)
def layStep (c:Cfg) (p:Nat) (x:LayS) (m:MemM) : LayS×MemM :=
 match x.st with
 | 0=>(x,m)
 | 1=>(⟨if roomN c x.ls (ld m (c.word p))=0 then 0 else 2,ld m (c.word p),0,roomN c x.ls (ld m (c.word p)),x.ls⟩,m.tick)
 | 2=>(⟨if x.k+1=x.n then 3 else 2,x.w,x.k+1,x.n,x.ls⟩,m.put (c.slot p ((tlW x.w+(x.k:Int)) % 4294967296)) (x.ls.getD x.k 0))
 | _=>if ld m (c.word p)=x.w then (⟨0,x.w,x.k,x.n,x.ls.drop x.n⟩,m.put (c.word p) (mvW x.w (x.n:Int))) else (⟨1,x.w,x.k,x.n,x.ls⟩,m.tick)
abbrev Gn (g:Int) : Prop:=0≤g∧g≤9223372036854775807
structure LayOk (x:LayS) : Prop where
 st:x.st < 4
 w:U64 x.w
 b:x.k≤64∧x.n≤64
 ls:x.ls.length≤64
 ne:x.st ≠ 0→x.ls ≠ []
 two:x.st=2→x.k < x.n
 le:x.st=2∨x.st=3→x.n≤x.ls.length
 gs:∀ g ∈ x.ls,Gn g
theorem LayOk.el {x:LayS} (h:LayOk x) (h2:x.st=2) : x.ls[x.k]? = some (x.ls.getD x.k 0)∧Gn (x.ls.getD x.k 0):=by
 have h3:=h.two h2
 have h4:=h.le (.inl h2)
 have h5:x.k < x.ls.length:=by omega
 have e:x.ls.getD x.k 0=x.ls[x.k]:=by rw [List.getD_eq_getElem?_getD,List.getElem?_eq_getElem h5]; rfl
 rw [e]
 exact ⟨List.getElem?_eq_getElem h5,h.gs _ (List.getElem_mem h5)⟩
theorem gn_u {g:Int} (h:Gn g) : U64 g:=⟨h.1,by have:=h.2; omega⟩
theorem roomN_le (c:Cfg) (l:List Int) (v:Int) : roomN c l v≤l.length:=Nat.min_le_left _ _
theorem layStep_ok {c:Cfg} {p:Nat} {x:LayS} {m:MemM} (hp:p < c.n) (hx:LayOk x) (hm:MemOk c m) : LayOk (layStep c p x m).1∧MemOk c (layStep c p x m).2:=by
 have hel:=hx.el
 obtain ⟨st,w,k,n,ls⟩:=x
 obtain ⟨h1,h2,h3,h4,h5,h6,h7,h8⟩:=hx
 dsimp only at h1 h2 h3 h4 h5 h6 h7 h8 hel
 have hw:=hm.get (hm.lt_word hp)
 match st,h1 with
 | 0,_ =>
  have q:LayOk ⟨0,w,k,n,ls⟩:=⟨by simp,h2,h3,h4,h5,h6,h7,h8⟩
  exact ⟨q,hm⟩
 | 1,_ =>
  have hr:=roomN_le c ls (ld m (c.word p))
  refine ⟨⟨?_,hw.2,⟨Nat.zero_le _,?_⟩,h4,fun _=>h5 (by simp),?_,?_,h8⟩,hm.tick⟩
  ·simp only [layStep]; split <;> omega
  ·simp only [layStep]; omega
  ·intro e
   simp only [layStep] at e ⊢
   split at e
   ·cases e
   ·omega
  ·intro _
   simp only [layStep]
   exact hr
 | 2,_ =>
  have k1:=h6 rfl
  have k2:=h7 (.inl rfl)
  refine ⟨⟨?_,h2,?_,h4,fun _=>h5 (by simp),?_,fun _=>k2,h8⟩,hm.put _ (gn_u (hel rfl).2)⟩
  ·simp only [layStep]; split <;> omega
  ·simp only [layStep]; omega
  ·intro e
   simp only [layStep] at e ⊢
   split at e
   ·cases e
   ·omega
 | 3,_ =>
  simp only [layStep]
  split
  ·exact ⟨⟨by simp,h2,h3,by rw [List.length_drop]; omega,fun h=>absurd rfl h,fun h=>(by cases h),fun h=>(by rcases h with h | h <;> cases h),fun g hg=>h8 g (List.mem_of_mem_drop hg)⟩,hm.put _ (mvW_u h2 _)⟩
  ·exact ⟨⟨by simp,h2,h3,h4,fun _=>h5 (by simp),fun h=>(by cases h),fun h=>(by rcases h with h | h <;> cases h),h8⟩,hm.tick⟩
def layV (c:Cfg) (p bp:Nat) (x:LayS) (lf:Value) : Ev.Asr:=Ev.blkA bp [.int .i64 (c.n:Int),.int .i64 (c.q:Int),.int .i64 c.g,.int .i64 c.m,.int .i64 c.t,.int .i64 c.s,.int .i64 (p:Int),.int .i64 (x.st:Int),.int .u64 x.w,.int .u32 (x.k:Int),.int .u32 (x.n:Int),lf] 203
def layA (c:Cfg) (p bp:Nat) (x:LayS) : Ev.Asr:=Ev.exA (fun lf:Value=>Ev.leafV lf=true) (fun lf=>Ev.grp [layV c p bp x lf,isA lf x.ls])
section
variable {w:World} {F:Nat→Prop} {c:Cfg} {p:Nat}
theorem lay_open {bp:Nat} {x:LayS} {ctx:Ev.Ctx} {l:List Ev.Asr} (h:Ev.Hold ctx (layA c p bp x::l) w) : ∃ lf,Ev.leafV lf=true∧Ev.Hold ctx (layV c p bp x lf::isA lf x.ls::l) w:=by
 obtain ⟨lf,llf,hh⟩:=h.getX
 exact ⟨lf,llf,hh.open⟩
theorem lay_close {bp:Nat} {x:LayS} {lf:Value} {ctx:Ev.Ctx} {l:List Ev.Asr} (llf:Ev.leafV lf=true) (h:Ev.Hold ctx (layV c p bp x lf::isA lf x.ls::l) w) : Ev.Hold ctx (layA c p bp x::l) w :=
 Ev.Hold.putX lf llf (Ev.Hold.shut h)
theorem ints_drop (l:List Int) (n:Nat) : (ints l).drop n=ints (l.drop n):=by simp [ints]
end
section
variable {ctx:Ev.Ctx} {w:World} {r:List Ev.Asr} {c:Cfg} {p bp bm:Nat} {mm:MemM} {st w0:Int} {k n0:Nat} {lf:Value} {ls:List Int}
abbrev laB (c:Cfg) (p bp:Nat) (st w0:Int) (k n0:Nat) (lf:Value) : Ev.Asr:=Ev.blkA bp (cpL c p [.int .i64 st,.int .u64 w0,.int .u32 (k:Int),.int .u32 (n0:Int),lf]) 203
theorem ldone (n:Nat) {st:Int} (h:w.cell? ⟨bp,7,none⟩=some (.int .i64 st)) : CallsIn Fence.wide n Tryz.prog 173 #[.pointer (some ⟨bp,0,none⟩)] w fun e w'=>e=.returned (.bool (decide (st=0)))∧w'=w:=by
 have hb:(st == 0)=decide (st=0):=by
  by_cases e:st=0 <;> simp [e]
 refine wen Tryz.func173 12 ?_
 gi_wp2
 exact bodyPost_ret (results_tmp rfl _ _ _) rfl ⟨by simp,rfl⟩
theorem room_w (c:Cfg) (ls:List Int) (x:Int) (hl:ls.length≤64) : IntKind.i64.wrap (min (szW x) (c.q:Int))=min (szW x) (c.q:Int)∧IntKind.i64.wrap ((c.q:Int) - min (szW x) (c.q:Int))=(c.q:Int) - min (szW x) (c.q:Int)∧IntKind.u32.wrap (min (ls.length:Int) ((c.q:Int) - min (szW x) (c.q:Int)))=((roomN c ls x:Nat) : Int)∧IntKind.u32.wrap (c.q:Int)=(c.q:Int):=by
 have h1:=szW_bd x
 have h2:=c.qb
 refine ⟨wrap_ok (by omega) (by omega),wrap_ok (by omega) (by omega),?_,by rw [wrap32]; omega⟩
 unfold roomN
 rw [wrap32]
 omega
theorem llook (n:Nat) (hp:p < c.n) (hm:MemOk c mm) (hl:ls.length≤64) (h:Ev.Hold ctx (laB c p bp st w0 k n0 lf::memA bm mm::isA lf ls::r) w) :
  CallsIn Fence.wide n Tryz.prog 174 #[.pointer (some ⟨bp,0,none⟩),.pointer (some ⟨bm,0,none⟩)] w fun e w'=>e=.returned (.tuple #[])∧Ev.Hold ctx (laB c p bp (if roomN c ls (ld mm (c.word p))=0 then 0 else 2) (ld mm (c.word p)) 0 (roomN c ls (ld mm (c.word p))) lf::memA bm mm.tick::isA lf ls::r) w':=by
 obtain ⟨x,hx⟩ : ∃ x,ld mm (c.word p)=x:=⟨_,rfl⟩
 have hrg:=rgload (n - 1) hp hm h
 rw [hx] at hrg ⊢
 obtain ⟨ea,eb,ec,ed⟩:=room_w c ls x hl
 obtain ⟨rm,hrm⟩ : ∃ rm,roomN c ls x=rm:=⟨_,rfl⟩
 obtain ⟨y,hy⟩ : ∃ y:Int,(if rm=0 then 0 else 2)=y:=⟨_,rfl⟩
 have hq:(rm=0∧y=0)∨(¬ rm=0∧y=2):=by
  by_cases e:rm=0
  ·exact .inl ⟨e,by rw [← hy,if_pos e]⟩
  ·exact .inr ⟨e,by rw [← hy,if_neg e]⟩
 rw [hrm] at ec ⊢
 rw [hy]
 clear hy hrm
 obtain ⟨av,ak,rfl⟩:=slr_val (hold_slr (hold_drop (r:=[_,_]) h))
 refine wen Tryz.func174 48 ?_
 gi_wp2
 refine wcl (hrg) ?_
 rintro e w1 ⟨rfl,h1⟩
 have h1d:=hold_keep h1 (Below.refl _ _).drew
 have x10:=blkc h1d 10 _
 have f10:=froz_of (hold_blk h1d) 10
 have h2:=hold_keep (hold_set 10 (.int .u32 (rm:Int)) h1) (Below.refl _ _).drew
 gi_upto_region 1 with fail
 refine wpIn_wide.2 ?_
 go_region_held3 (fun W=>cpC c p bp W∧W.cell? ⟨bp,11,none⟩=some (.slice av ls.length ak)) ((first | exact ⟨cpc h1d,blkc h1d 11 _⟩ | exact ⟨cpc h2,blkc h2 11 _⟩ | fail)) (fail)
 obtain ⟨W2,hW2⟩ : ∃ W2,(w1.setCell ⟨bp,10,none⟩ (.int .u32 (rm:Int))).drew=W2:=⟨_,rfl⟩
 rw [hW2] at h2 ⊢
 clear hW2
 have x7:=blkc h2 7 _
 have f7:=froz_of (hold_blk h2) 7
 have h3:=hold_set 7 (.int .i64 2) h2
 have z10:=blkc h3 10 _
 rcases hq with ⟨hq,rfl⟩ | ⟨hq,rfl⟩
 ·have hb:((rm:Int) == 0)=true:=by simp; omega
  have y7:=blkc h3 7 _
  have g7:=froz_of (hold_blk h3) 7
  have h4:=hold_set 7 (.int .i64 0) h3
  gi_wp2
  exact bodyPost_end (results_none rfl _ _ _) rfl ⟨rfl,h4⟩
 ·have hb:((rm:Int) == 0)=false:=by simp; omega
  gi_wp2
  exact bodyPost_end (results_none rfl _ _ _) rfl ⟨rfl,h3⟩
theorem lay1 (n:Nat) (hp:p < c.n) (hm:MemOk c mm) (hl:ls.length≤64) (hne:ls.length ≠ 0) (h:Ev.Hold ctx (laB c p bp 1 w0 k n0 lf::memA bm mm::isA lf ls::r) w) :
  CallsIn Fence.wide n Tryz.prog 170 #[.pointer (some ⟨bp,0,none⟩),.pointer (some ⟨bm,0,none⟩)] w fun e w'=>e=.returned (.bool (decide (roomN c ls (ld mm (c.word p))=0)))∧Ev.Hold ctx (laB c p bp (if roomN c ls (ld mm (c.word p))=0 then 0 else 2) (ld mm (c.word p)) 0 (roomN c ls (ld mm (c.word p))) lf::memA bm mm.tick::isA lf ls::r) w':=by
 obtain ⟨av,ak,rfl⟩:=slr_val (hold_slr (hold_drop (r:=[_,_]) h))
 have hneb:((ls.length:Int) == 0)=false:=by
  have:¬ (ls.length:Int)=0:=by omega
  simpa using this
 have x7:=blkc h 7 _
 have x11:=blkc h 11 _
 refine wen Tryz.func170 115 ?_
 gi_wp2
 refine wcl (ldone (n - 1) x7) ?_
 rintro e w1 ⟨rfl,rfl⟩
 gi_wp2
 refine wcl (llook (n - 1) hp hm hl h) ?_
 rintro e w2 ⟨rfl,h1⟩
 have y7:=blkc h1 7 _
 by_cases e:roomN c ls (ld mm (c.word p))=0
 ·simp only [e,↓reduceIte] at h1 y7
  gi_wp2
  exact bodyPost_ret (results_tmp rfl _ _ _) rfl ⟨by simp [e],h1⟩
 ·simp only [e,↓reduceIte] at h1 y7
  gi_wp2
  exact bodyPost_ret (results_tmp rfl _ _ _) rfl ⟨by simp [e],h1⟩
theorem lay2 (n:Nat) (hp:p < c.n) (hm:MemOk c mm) (hw0:U64 w0) (hl:ls.length≤64) (hk:k < n0) (hn0:n0≤ls.length) {g:Int} (hg:ls[k]? = some g) (hgn:Gn g) (h:Ev.Hold ctx (laB c p bp 2 w0 k n0 lf::memA bm mm::isA lf ls::r) w) :
  CallsIn Fence.wide n Tryz.prog 170 #[.pointer (some ⟨bp,0,none⟩),.pointer (some ⟨bm,0,none⟩)] w fun e w'=>e=.returned (.bool false)∧Ev.Hold ctx (laB c p bp (if k+1=n0 then 3 else 2) w0 (k+1) n0 lf::memA bm (mm.put (c.slot p ((tlW w0+(k:Int)) % 4294967296)) g)::isA lf ls::r) w':=by
 obtain ⟨av,off,ak,hv,hc,-⟩:=sl_some (hold_drop (r:=[_,_]) h) (by omega) (by decide)
 subst hv
 have e1:IntKind.i64.wrap (k:Int)=(k:Int):=wrap_ok (by omega) (by omega)
 have e2:IntKind.u32.wrap ((k:Int)+1)=(k:Int)+1:=by rw [wrap32]; omega
 have e3:IntKind.u32.wrap (k:Int)=(k:Int):=by rw [wrap32]; omega
 have e4:IntKind.u64.wrap g=g:=by rw [IntKind.wrap_u64]; have:=hgn.1; have:=hgn.2; omega
 have hkI:(k:Int) < (ls.length:Int):=by omega
 obtain ⟨hx,ha⟩:=hm.at_ (hm.lt_slot hp ((tlW w0+(k:Int)) % 4294967296))
 have hneb:((ls.length:Int) == 0)=false:=by
  have:¬ (ls.length:Int)=0:=by omega
  simpa using this
 have x7:=blkc h 7 _
 have x11:=blkc h 11 _
 refine wen Tryz.func170 115 ?_
 gi_wp2
 refine wcl (ldone (n - 1) x7) ?_
 rintro e w1 ⟨rfl,rfl⟩
 clear hc
 have hS:∀ {l:List Ev.Asr} {W:World} {M:MemM},Ev.Hold ctx (laB c p bp 2 w0 k n0 (.slice (some ⟨av,off,none⟩) ls.length ak)::memA bm M::isA (.slice (some ⟨av,off,none⟩) ls.length ak) ls::l) W→W.cell? ⟨bp,9,none⟩=some (.int .u32 (k:Int))∧W.cell? ⟨bp,11,none⟩=some (.slice (some ⟨av,off,none⟩) ls.length ak)∧W.cell? ⟨av,off+k,none⟩=some (.int .i64 g):=fun hh=>by
  obtain ⟨_,_,_,hv,hc,_⟩:=sl_some (hold_drop (r:=[_,_]) hh) (by omega) (by decide)
  cases hv
  refine ⟨blkc hh 9 _,blkc hh 11 _,?_⟩
  rw [hc k (by omega)]
  simp [ints,hg]
 have hd1:=hold_keep h (Below.refl _ _).drew
 have hs:=rgslot 0 hp hw0 (k:Int) hd1
 rw [e3,wrap32] at hs
 gi_upto_region 8 with fail
 refine wpIn_wide.2 ?_
 go_region_held3 (fun W=>W.cell? ⟨bp,9,none⟩=some (.int .u32 (k:Int))∧W.cell? ⟨bp,11,none⟩=some (.slice (some ⟨av,off,none⟩) ls.length ak)∧W.cell? ⟨av,off+k,none⟩=some (.int .i64 g)) ((first | exact hS hd1 | exact hS h2 | exact hS h3 | fail)) ((first
  | (have hcon:=callsIn_wide.1 hs; (with_reducible refine hcon.mono ?_); clear hcon; rintro e w1 ⟨rfl,h2⟩)
  | (have hcon:=callsIn_wide.1 (store_in 0 hx ha g (hold_swap h2)); (with_reducible refine hcon.mono ?_); clear hcon; rintro e w1 ⟨rfl,h3⟩; replace h3:=hold_swap h3)))
 clear e1 e3 e4 hS hs hd1 h
 have x9:=blkc h3 9 _
 have f9:=froz_of (hold_blk h3) 9
 have h4:=hold_set 9 (.int .u32 ((k:Int)+1)) h3
 gi_upto_region 10 with fail
 have h5:=hold_keep h4 (Below.refl _ _).drew
 refine wpIn_wide.2 ?_
 have S0:_∧_:=⟨blkc h5 9 _,blkc h5 10 _⟩
 go_region_held3 (fun W=>W.cell? ⟨bp,9,none⟩=some (.int .u32 ((k:Int)+1))∧W.cell? ⟨bp,10,none⟩=some (.int .u32 (n0:Int))) (exact S0) (fail)
 obtain ⟨W5,hW5⟩ : ∃ W5,(w1.setCell ⟨bp,9,none⟩ (.int .u32 ((k:Int)+1))).drew=W5:=⟨_,rfl⟩
 rw [hW5] at h5 ⊢
 clear hW5
 have y7:=blkc h5 7 _
 have g7:=froz_of (hold_blk h5) 7
 by_cases e:k+1=n0
 ·have hb:((k:Int)+1 == (n0:Int))=true:=by simp; omega
  subst e
  have h6:=hold_set 7 (.int .i64 3) h5
  have z7:=blkc h6 7 _
  gi_wp2
  exact bodyPost_ret (results_tmp rfl _ _ _) rfl ⟨rfl,h6⟩
 ·have hb:((k:Int)+1 == (n0:Int))=false:=by simp; omega
  gi_wp2
  exact bodyPost_ret (results_tmp rfl _ _ _) rfl ⟨rfl,h5⟩
theorem lay3 (n:Nat) (hp:p < c.n) (hm:MemOk c mm) (hw0:U64 w0) (hl:ls.length≤64) (hne:ls.length ≠ 0) (hn0:n0≤ls.length) (h:Ev.Hold ctx (laB c p bp 3 w0 k n0 lf::memA bm mm::isA lf ls::r) w) :
  CallsIn Fence.wide n Tryz.prog 170 #[.pointer (some ⟨bp,0,none⟩),.pointer (some ⟨bm,0,none⟩)] w fun e w'=>∃ lf',e=.returned (.bool (decide (ld mm (c.word p)=w0)))∧Ev.Hold ctx (laB c p bp (if ld mm (c.word p)=w0 then 0 else 1) w0 k n0 lf'::memA bm (if ld mm (c.word p)=w0 then mm.put (c.word p) (mvW w0 (n0:Int)) else mm.tick)::isA lf' (if ld mm (c.word p)=w0 then ls.drop n0 else ls)::r) w':=by
 obtain ⟨av,ak,rfl⟩:=slr_val (hold_slr (hold_drop (r:=[_,_]) h))
 have hneb:((ls.length:Int) == 0)=false:=by
  have:¬ (ls.length:Int)=0:=by omega
  simpa using this
 have x7:=blkc h 7 _
 have x11:=blkc h 11 _
 refine wen Tryz.func170 115 ?_
 gi_wp2
 refine wcl (ldone (n - 1) x7) ?_
 rintro e w1 ⟨rfl,rfl⟩
 have hd1:=hold_keep h (Below.refl _ _).drew
 have hc:=rgchange 0 hp hm (mvW w0 (n0:Int)) hd1
 by_cases he:ld mm (c.word p)=w0
 all_goals
  simp only [he,if_pos,if_neg,decide_true,decide_false,↓reduceIte] at hc
  gi_upto_region 12 with fail
  refine wpIn_wide.2 ?_
  go_region_held3 (fun W=>W.cell? ⟨bp,8,none⟩=some (.int .u64 w0)∧W.cell? ⟨bp,10,none⟩=some (.int .u32 (n0:Int))) ((first | exact ⟨blkc hd1 8 _,blkc hd1 10 _⟩ | exact ⟨blkc h2 8 _,blkc h2 10 _⟩ | fail)) ((first
   | (have hcon:=wGrow w0 (n0:Int) hw0 w1.drew; (with_reducible refine hcon.mono ?_); clear hcon; rintro e w1 ⟨rfl,rfl⟩)
   | (have hcon:=callsIn_wide.1 hc; (with_reducible refine hcon.mono ?_); clear hcon; rintro e w2 ⟨rfl,h2⟩)))
 ·obtain ⟨i0,hi,hz1,hz0,hz2⟩:=infInt
  have hsl:=hold_slr (hold_drop (r:=[_,_]) h2)
  have hcut:∀ W,(Instr.sliceAt 35 (.slice av ls.length ak) (some (.int .u32 (n0:Int))) none none).run Tryz.prog W=.ok (Ev.cutV 1 (.slice av ls.length ak) n0 ls.length) W:=fun W=>Ev.cut_runLo hsl Tryz.underlying35 hi hz1 hn0 W
  have h3:=(hold_up [_,_] h2).cutLo (lo:=n0) hn0
  rw [show Ev.slA 3 1 (Ev.cutV 1 (.slice av ls.length ak) n0 ls.length) (ls.length - n0) ((ints ls).drop (n0 * 1))=isA (Ev.cutV 1 (.slice av ls.length ak) n0 ls.length) (ls.drop n0) by unfold isA; rw [Nat.mul_one,ints_drop,List.length_drop]] at h3
  obtain ⟨a2,k2,e2⟩:=slr_val (hold_slr h3)
  rw [e2] at h3
  simp only [e2] at hcut
  replace h3:=hold_keep (hsel [_,_,_] h3 [1,2,0]) (Below.refl _ _).drew
  obtain ⟨N,hN⟩ : ∃ N,(ls.drop n0).length=N:=⟨_,rfl⟩
  rw [hN] at hcut h3
  have x11:=blkc h3 11 _
  have f11:=froz_of (hold_blk h3) 11
  have h4:=hold_set 11 (.slice a2 N k2) h3
  clear hc hd1 h e2 hN
  gi_upto_region 13 with fail
  refine wpIn_wide.2 ?_
  refine wp_region_noPanic ?_
  refine wp_region_B (fun W=>W.cell? ⟨bp,10,none⟩=some (.int .u32 (n0:Int))∧W.cell? ⟨bp,11,none⟩=some (.slice av ls.length ak)) 10 (by kernel_rfl) ?_ (fun hHeld=>?_)
  ·(try dsimp only); (exact ⟨blkc h3 10 _,blkc h3 11 _⟩)
  refine takeB0 (i:=0) (v:=?_) (Or.inl ⟨by kernel_rfl,?_⟩) (by assumption) ?_
  rotate_left
  ·intro w _; go_simp; try with_reducible rfl
  try simp only [Act.put,List.setIfInBounds_toArray,List.set_cons_zero,List.set_cons_succ]
  refine takeB0 (i:=1) (v:=?_) (Or.inl ⟨by kernel_rfl,?_⟩) (by assumption) ?_
  rotate_left
  ·intro w _; go_simp; try with_reducible rfl
  try simp only [Act.put,List.setIfInBounds_toArray,List.set_cons_zero,List.set_cons_succ]
  refine takeB0 (i:=2) (v:=?_) (Or.inl ⟨by kernel_rfl,?_⟩) (by assumption) ?_
  rotate_left
  ·intro w _; go_simp; try with_reducible rfl
  try simp only [Act.put,List.setIfInBounds_toArray,List.set_cons_zero,List.set_cons_succ]
  refine takeB0 (i:=3) (v:=?_) (Or.inl ⟨by kernel_rfl,?_⟩) (by assumption) ?_
  rotate_left
  ·intro w _; go_simp; try with_reducible rfl
  try simp only [Act.put,List.setIfInBounds_toArray,List.set_cons_zero,List.set_cons_succ]
  refine takeB (i:=4) (v:=?_) (Or.inl ⟨by kernel_rfl,?_⟩) (by assumption) ?_
  rotate_left
  ·intro w hSw; (try dsimp only at hSw); go_simp; try with_reducible rfl
  try simp only [Act.put,List.setIfInBounds_toArray,List.set_cons_zero,List.set_cons_succ]
  refine takeB0 (i:=5) (v:=?_) (Or.inl ⟨by kernel_rfl,?_⟩) (by assumption) ?_
  rotate_left
  ·intro w _; go_simp; try with_reducible rfl
  try simp only [Act.put,List.setIfInBounds_toArray,List.set_cons_zero,List.set_cons_succ]
  refine takeB0 (i:=6) (v:=?_) (Or.inl ⟨by kernel_rfl,?_⟩) (by assumption) ?_
  rotate_left
  ·intro w _; go_simp; try with_reducible rfl
  try simp only [Act.put,List.setIfInBounds_toArray,List.set_cons_zero,List.set_cons_succ]
  refine takeB0 (i:=7) (v:=?_) (Or.inl ⟨by kernel_rfl,?_⟩) (by assumption) ?_
  rotate_left
  ·intro w _; go_simp; try with_reducible rfl
  try simp only [Act.put,List.setIfInBounds_toArray,List.set_cons_zero,List.set_cons_succ]
  refine takeB (i:=8) (v:=?_) (Or.inl ⟨by kernel_rfl,?_⟩) (by assumption) ?_
  rotate_left
  ·intro w hSw; (try dsimp only at hSw); go_simp; try with_reducible rfl
  try simp only [Act.put,List.setIfInBounds_toArray,List.set_cons_zero,List.set_cons_succ]
  refine takeB0 (i:=9) (v:=?_) (Or.inl ⟨by kernel_rfl,?_⟩) (by assumption) ?_
  rotate_left
  ·intro w _; go_simp; try with_reducible rfl
  try simp only [Act.put,List.setIfInBounds_toArray,List.set_cons_zero,List.set_cons_succ]
  refine lastB (i:=10) (ho:=rfl) (fun K hK=>?_)
  go_simp
  refine hK.out _ _ ?_
  clear hK K
  try simp only [Act.put,List.setIfInBounds_toArray,List.set_cons_zero,List.set_cons_succ]
  refine lastB (i:=11) (ho:=rfl) (fun K hK=>?_)
  go_simp
  refine hK.out _ _ ?_
  clear hK K
  try simp only [Act.put,List.setIfInBounds_toArray,List.set_cons_zero,List.set_cons_succ]
  refine lastB (i:=12) (ho:=rfl) (fun K hK=>?_)
  go_simp
  refine hK.out _ _ ?_
  clear hK K
  try simp only [Act.put,List.setIfInBounds_toArray,List.set_cons_zero,List.set_cons_succ]
  refine (doneB (h:=?_) (hr:=by kernel_rfl)) _
  refine NoPanic.normal ?_
  replace h4:Ev.Hold ctx _ (w2.setCell ⟨bp,11,none⟩ (.slice a2 N k2)).drew:=h4
  obtain ⟨W5,hW5⟩ : ∃ W5,(w2.setCell ⟨bp,11,none⟩ (.slice a2 N k2)).drew=W5:=⟨_,rfl⟩
  rw [hW5] at h4 ⊢
  clear hW5
  have y7:=blkc h4 7 _
  gi_wp2
  exact bodyPost_ret (results_tmp rfl _ _ _) rfl ⟨rfl,_,hsel [_,_,_] h4 [0,1,2]⟩
 ·have y7:=blkc h2 7 _
  gi_wp2
  exact bodyPost_ret (results_tmp rfl _ _ _) rfl ⟨rfl,_,h2⟩
theorem lay_stepH (n:Nat) (hp:p < c.n) {x:LayS} (hx:LayOk x) (h0:x.st ≠ 0) (hm:MemOk c mm) (h:Ev.Hold ctx (layA c p bp x::memA bm mm::r) w) :
  CallsIn Fence.wide n Tryz.prog 170 #[.pointer (some ⟨bp,0,none⟩),.pointer (some ⟨bm,0,none⟩)] w fun e w'=>e=.returned (.bool (decide ((layStep c p x mm).1.st=0)))∧Ev.Hold ctx (layA c p bp (layStep c p x mm).1::memA bm (layStep c p x mm).2::r) w':=by
 obtain ⟨lf,llf,hh⟩:=lay_open h
 replace hh:=hsel [_,_,_] hh [0,2,1]
 have hel:=hx.el
 have hne:x.ls.length ≠ 0:=fun e=>hx.ne h0 (List.eq_nil_of_length_eq_zero e)
 obtain ⟨st,ww,k,n0,ls⟩:=x
 match st,hx.st with
 | 0,_=>exact absurd rfl h0
 | 1,_ =>
  refine (lay1 n hp hm hx.ls hne hh).mono ?_
  rintro e w1 ⟨rfl,h1⟩
  refine ⟨?_,lay_close (lf:=lf) llf ?_⟩
  ·simp only [layStep]
   split <;> simp [*]
  ·by_cases e:roomN c ls (ld mm (c.word p))=0
   all_goals
    simp only [layStep,e,↓reduceIte] at h1 ⊢
    exact hsel [_,_,_] h1 [0,2,1]
 | 2,_ =>
  refine (lay2 n hp hm hx.w hx.ls (hx.two rfl) (hx.le (.inl rfl)) (hel rfl).1 (hel rfl).2 hh).mono ?_
  rintro e w1 ⟨rfl,h1⟩
  by_cases e:k+1=n0
  all_goals
   simp only [layStep,e,↓reduceIte] at h1 ⊢
   exact ⟨rfl,lay_close (lf:=lf) llf (hsel [_,_,_] h1 [0,2,1])⟩
 | 3,_ =>
  refine (lay3 n hp hm hx.w hx.ls hne (hx.le (.inr rfl)) hh).mono ?_
  rintro e w1 ⟨lf',rfl,h1⟩
  have lf2:=hold_leaf (hold_drop (r:=[_,_]) h1)
  by_cases e:ld mm (c.word p)=ww
  all_goals
   simp only [layStep,e,↓reduceIte] at h1 ⊢
   exact ⟨by first | rfl | trivial,lay_close (lf:=lf') lf2 (hsel [_,_,_] h1 [0,2,1])⟩
theorem hands_lay (n:Nat) {x:LayS} (hx:x.ls.length≤64) (h:Ev.Hold ctx (layA c p bp x::r) w) :
  CallsIn Fence.wide n Tryz.prog 118 #[.pointer (some ⟨bp,0,none⟩)] w fun e w'=>∃ v,e=.returned v∧Ev.Hold ctx (isA v x.ls::layA c p bp x::r) w':=by
 obtain ⟨lf,llf,hh⟩:=lay_open h
 have x11:=blkc hh 11 _
 refine wen Tryz.func118 9 ?_
 gi_wp2
 refine wcl (iclone (n - 1) (by omega) (hold_swap hh)) ?_
 rintro e w1 ⟨v,rfl,h2⟩
 gi_wp2
 exact bodyPost_ret (results_tmp rfl _ _ _) rfl ⟨v,rfl,hold_swap (lay_close llf (hsel [_,_,_] h2 [2,1,0]))⟩
theorem from_ok {c:Cfg} {p:Nat} (hp:p < c.n) (w:World) : Calls Tryz.prog 63 #[c.v,.int .i64 (p:Int)] w fun e w'=>e=.returned (.agg (cpL c p [.int .i64 1,.int .u64 0,.int .u32 0]).toArray)∧Below w.heap.size w w' :=
 (callsIn_wide.1 (pfrom 0 hp (Ev.Hold.start (Ev.now_nil w)))).mono fun e w' h=>⟨h.1,h.2.below (fun _ h=>h)⟩
end
end Go.Proofs.YtkmccgombmogmaaGreat
namespace Go.Proofs.YtkmccgombmogmaaGreat
open Go.RowKit
set_option linter.unusedVariables false
set_option linter.unusedSimpArgs false
set_option maxRecDepth 8000
theorem neg_in (m:Nat) (g:Int) (w:World) : CallsIn Fence.wide m Tryz.prog 176 #[.int .i64 g] w fun e w'=>e=.returned (.bool (decide (g < 0)))∧w'=w:=by
 refine callsIn_of_wp Tryz.func176 rfl trivial ?_ rfl
 simp only [Tryz.ntmps176,List.size_toArray,List.length_cons,List.length_nil,Nat.reduceAdd,Nat.reduceSub,Array.replicate_succ,Array.replicate_zero,List.push_toArray,List.append_toArray,List.nil_append,List.cons_append]
 gi_wp2
 exact bodyPost_ret (results_tmp rfl _ _ _) rfl ⟨rfl,rfl⟩
abbrev fnV (f:FuncId) : Value:=.func (.func f) #[] #[]
set_option maxHeartbeats 1000000 in
theorem idxf_in (m:Nat) (v:Value) (l:List Int) (w:World) (hl:Ev.SlR 1 v l.length (ints l) w) (hg:∀ g ∈ l,0≤g) (hn:l.length≤1000) : CallsIn Fence.wide m Tryz.prog 177 #[v,fnV 176] w fun e w'=>e=.returned (.int .i64 (-1))∧w'=w:=by
 refine callsIn_of_wp Tryz.func177 rfl trivial ?_ rfl
 simp only [Tryz.ntmps177,List.size_toArray,List.length_cons,List.length_nil,Nat.reduceAdd,Nat.reduceSub,Array.replicate_succ,Array.replicate_zero,List.push_toArray,List.append_toArray,List.nil_append,List.cons_append]
 obtain ⟨a0,c0,rfl⟩ : ∃ a c,v=.slice a l.length c:=by
  rcases hl.2 with ⟨e,a,c,rfl⟩ | ⟨b,off,c,rfl,_⟩
  ·exact ⟨a,c,by rw [e]⟩
  ·exact ⟨_,c,rfl⟩
 dsimp only [fnV]
 gi_wp2
 gi_loopw [8] (fun p wr=>∃ k:Nat,p=.int .i64 (k:Int)∧k≤l.length∧wr=w) (fun p _=>l.length - (intOf p).toNat)
 case atStart=>exact ⟨0,rfl,Nat.zero_le _,by first | rfl | trivial⟩
 case round =>
  obtain ⟨k,rfl,hk,hW⟩:=hrel
  replace hW:=hW.symm
  subst hW
  by_cases hlt:k < l.length
  ·have hlI:(k:Int) < (l.length:Int):=by omega
   rcases hl.2 with ⟨e,_⟩ | ⟨b,off,c,hv,_,hc⟩
   ·omega
   cases hv
   have hck:w.cell? ⟨b,off+k,none⟩=some (.int .i64 l[k]):=by
    rw [hc k (by omega)]
    simp [ints,hlt]
   have hgk:=hg _ (List.getElem_mem hlt)
   obtain ⟨x,hx⟩ : ∃ x,l[k]=x:=⟨_,rfl⟩
   rw [hx] at hck hgk
   clear hc
   gi_wp2
   refine ⟨trivial,fun h=>by simp [Fence.wide] at h,(neg_in (m - 1) x w).mono ?_⟩
   rintro e w2 ⟨rfl,rfl⟩
   have hd:decide (x < 0)=false:=by simpa using hgk
   rw [hd]
   gi_wp2
   exact ⟨⟨k+1,rfl,by omega,by first | rfl | trivial⟩,by simp [intOf]; omega⟩
  ·obtain rfl:k=l.length:=by omega
   have hlI:¬ ((l.length:Nat) : Int) < (l.length:Int):=by omega
   gi_wp2
   exact bodyPost_ret (results_tmp rfl _ _ _) rfl ⟨rfl,rfl⟩
theorem delf_in (m:Nat) (v:Value) (l:List Int) (w:World) (hl:Ev.SlR 1 v l.length (ints l) w) (hg:∀ g ∈ l,0≤g) (hn:l.length≤1000) : CallsIn Fence.wide m Tryz.prog 175 #[v,fnV 176] w fun e w'=>e=.returned v∧w'=w:=by
 refine callsIn_of_wp Tryz.func175 rfl trivial ?_ rfl
 simp only [Tryz.ntmps175,List.size_toArray,List.length_cons,List.length_nil,Nat.reduceAdd,Nat.reduceSub,Array.replicate_succ,Array.replicate_zero,List.push_toArray,List.append_toArray,List.nil_append,List.cons_append]
 gi_wp2
 refine ⟨trivial,fun h=>by simp [Fence.wide] at h,(idxf_in (m - 1) v l w hl hg hn).mono ?_⟩
 rintro e w2 ⟨rfl,rfl⟩
 gi_wp2
 exact bodyPost_ret (results_tmp rfl _ _ _) rfl ⟨rfl,rfl⟩
end Go.Proofs.YtkmccgombmogmaaGreat
namespace Go.Proofs.YtkmccgombmogmaaGreat
open Go.RowKit
set_option linter.unusedVariables false
set_option linter.unusedSimpArgs false
set_option maxRecDepth 8000
theorem own_two {l:List Ev.Asr} {e T:TypeId} {v':Value} {cs:List Value} {b n:Nat} {xs:List Value} {F:Nat→Prop} {w w':World} (h:Ev.Now l F w) (hb0:w'.heap[b]? = some (Obj.cells cs.toArray T (0,0))) (hbn:w.heap.size≤b) (ho:w'.ownsRow w.heap.size e 1 v' n xs) (hne:v'.ownBlock ≠ some b) (hb:Below w.heap.size w w') :
  Ev.Hold ⟨w,F⟩ (Ev.blkA b cs T::Ev.slA e 1 v' n xs::l) w':=by
 obtain ⟨hl,ho⟩:=ho
 have key:∃ Fn,Ev.SlV e 1 v' n xs Fn w'∧∀ j,Fn j→w.heap.size≤j∧j ≠ b:=by
  rcases ho with ⟨rfl,rfl⟩ | ⟨g,cap,cur,rfl,hg,hh,h1,h2,h3,h4⟩
  ·have:xs=[]:=List.eq_nil_of_length_eq_zero (by rw [hl])
   subst this
   exact ⟨fun _=>False,Ev.SlV.nil e 1 w',fun _ h=>h.elim⟩
  ·refine ⟨fun j=>j=g,⟨hl,.inr ⟨g,0,cap,cur,rfl,fun _=>Iff.rfl,hh,fun i hi=>?_,by rw [h3]; omega,h1⟩⟩,fun j hj=>by rw [hj]; exact ⟨hg,fun e=>hne (by rw [← e]; rfl)⟩⟩
   rw [← h4,Nat.zero_add,List.getElem?_take_of_lt hi]
   simp
 obtain ⟨Fn,k1,k2⟩:=key
 have hk:Ev.Now l F w':=Ev.now_keep h (fun j hj=>hb.block j (h.lt j hj)) hb.size
 have hc:=Ev.now_cons (a:=Ev.slA e 1 v' n xs) k1 hk (fun j hj=>Ev.SlV.lt k1 j hj) (fun j hj hf=>by
  have:=h.lt j hf
  have:=(k2 j hj).1
  omega)
 have hbl:b < w'.heap.size:=(Array.getElem?_eq_some_iff.1 hb0).1
 refine ⟨⟨_,Ev.now_cons (a:=Ev.blkA b cs T) (Fa:=fun j=>j=b) ⟨fun _=>Iff.rfl,hb0⟩ hc (fun j hj=>by rw [hj]; exact hbl) (fun j hj hf=>?_),⟨hb.os,hb.tape,hb.output,hb.size,fun j hj _=>hb.block j hj⟩,fun j hj=>?_⟩⟩
 ·rcases hf with hf | hf
  ·exact (k2 j hf).2 hj
  ·have:=h.lt j hf
   omega
 ·rcases hj with hj | hj | hj
  ·exact .inr (by rw [hj]; exact hbn)
  ·exact .inr (k2 j hj).1
  ·exact .inl hj
theorem own_off {w:World} {n:Nat} {e:TypeId} {sz k:Nat} {v:Value} {xs:List Value} (h:w.ownsRow n e sz v k xs) (a:Addr) (u:Value) (hn:v.ownBlock ≠ some a.block) : (w.setCell a u).ownsRow n e sz v k xs:=by
 obtain ⟨h1,h2 | ⟨g,cap,cur,rfl,b,r,q⟩⟩:=h
 ·exact ⟨h1,.inl h2⟩
 ·refine ⟨h1,.inr ⟨g,cap,cur,rfl,b,(Below.heap_setCell w a u g (fun e=>hn (by rw [← e]; rfl))).trans r,q⟩⟩
theorem clone_sl {v:Value} {l:List Int} {w:World} (hl:Ev.SlR 1 v l.length (ints l) w) (hn:l.length≤1000000) : Calls Tryz.prog 97 #[v] w fun e w'=>∃ v',e=.returned v'∧w'.ownsRow w.heap.size 3 1 v' l.length (ints l)∧Below w.heap.size w w':=by
 obtain ⟨h1,⟨e,a,c,rfl⟩ | ⟨b,off,c,rfl,_,hc⟩⟩:=hl
 ·have:l=[]:=List.eq_nil_of_length_eq_zero e
  subst this
  cases a with
  | none =>
   refine (clone_int_nil 0 c w).mono ?_
   rintro e w' ⟨rfl,rfl⟩
   exact ⟨_,rfl,World.ownsRow_nil _ _ _ _,Below.refl _ _⟩
  | some ad=>exact clone_int_at ad 0 c [] w rfl (by omega) (fun u h=>by cases h) (fun j u h=>by simp at h)
 ·exact clone_int_at ⟨b,off,none⟩ l.length c (ints l) w (by simp [ints]) hn Ev.one_ints (fun j u h=>by
   have hj:=(List.getElem?_eq_some_iff.1 h).1
   rw [show (⟨b,off,none⟩ : Addr).add j=⟨b,off+j,none⟩ from Ev.addMk b off j,hc j (by simp [ints] at hj; omega),h])
theorem slr_own {w:World} {n k:Nat} {v:Value} {l:List Int} (h:w.ownsRow n 3 1 v l.length (ints l)) : Ev.SlR 1 v l.length (ints l) w:=by
 refine ⟨h.1,?_⟩
 have h0:=h
 rcases h.2 with ⟨rfl,e⟩ | ⟨g,cap,cur,rfl,_,hg,hcap,_⟩
 ·exact .inl ⟨e,_,_,rfl⟩
 ·refine .inr ⟨g,0,cap,rfl,⟨(Array.getElem?_eq_some_iff.1 hg).1,hcap⟩,fun j hj=>?_⟩
  have hj':j < (ints l).length:=by simp [ints]; omega
  have:=h0.cells (g:=g) rfl j _ (List.getElem?_eq_getElem hj')
  rw [show (⟨g,0,none⟩ : Addr).add j=⟨g,0+j,none⟩ from Ev.addMk g 0 j] at this
  rw [this,List.getElem?_eq_getElem hj']
set_option maxHeartbeats 2000000 in
theorem newlay_in (m:Nat) {c:Cfg} {p:Nat} (hp:p < c.n) (v:Value) (l:List Int) (w:World) (hl:Ev.SlR 1 v l.length (ints l) w) (hg:∀ g ∈ l,0≤g) (hn:l.length≤64) :
  CallsIn Fence.wide m Tryz.prog 172 #[c.v,.int .i64 (p:Int),v] w fun e w'=>∃ b v',e=.returned (.pointer (some ⟨b,0,none⟩))∧w.heap.size≤b∧w'.heap[b]? = some (Obj.cells #[.int .i64 (c.n:Int),.int .i64 (c.q:Int),.int .i64 c.g,.int .i64 c.m,.int .i64 c.t,.int .i64 c.s,.int .i64 (p:Int),.int .i64 1,.int .u64 0,.int .u32 0,.int .u32 0,v'] 203 (0,0))∧w'.ownsRow w.heap.size 3 1 v' l.length (ints l)∧v'.ownBlock ≠ some b∧Below w.heap.size w w':=by
 refine callsIn_of_wp Tryz.func172 rfl trivial ?_ rfl
 simp only [Tryz.ntmps172,List.size_toArray,List.length_cons,List.length_nil,Nat.reduceAdd,Nat.reduceSub,Array.replicate_succ,Array.replicate_zero,List.push_toArray,List.append_toArray,List.nil_append,List.cons_append]
 obtain ⟨W1,hW1⟩ : ∃ W1,w.alloc (.cells #[.int .i64 (c.n:Int),.int .i64 (c.q:Int),.int .i64 c.g,.int .i64 c.m,.int .i64 c.t,.int .i64 c.s] 23)=W1:=⟨_,rfl⟩
 have hB1:Below w.heap.size w W1:=by rw [← hW1]; exact (Below.refl _ w).alloc (Nat.le_refl _) _
 have hs1:w.heap.size≤W1.heap.size:=hB1.size
 have h1:W1.heap[w.heap.size]? = some (Obj.cells #[.int .i64 (c.n:Int),.int .i64 (c.q:Int),.int .i64 c.g,.int .i64 c.m,.int .i64 c.t,.int .i64 c.s] 23 (0,0)):=by rw [← hW1]; exact World.alloc_heap_new _ _
 have d0:=cell_of h1 0 _ rfl
 have d1:=cell_of h1 1 _ rfl
 have d2:=cell_of h1 2 _ rfl
 have d3:=cell_of h1 3 _ rfl
 have d4:=cell_of h1 4 _ rfl
 have d5:=cell_of h1 5 _ rfl
 gi_wp2
 refine ⟨trivial,fun h=>by simp [Fence.wide] at h,(callsIn_wide.2 (from_ok hp W1)).mono ?_⟩
 rintro e w2 ⟨rfl,hb2⟩
 have hB2:Below w.heap.size w w2:=hB1.trans (hb2.mono hs1)
 have hs2:w.heap.size≤w2.heap.size:=hB2.size
 obtain ⟨W3,hW3⟩ : ∃ W3,w2.alloc (.cells #[.int .i64 (c.n:Int),.int .i64 (c.q:Int),.int .i64 c.g,.int .i64 c.m,.int .i64 c.t,.int .i64 c.s,.int .i64 (p:Int),.int .i64 1,.int .u64 0,.int .u32 0,.int .u32 0,.slice none 0 0] 203)=W3:=⟨_,rfl⟩
 have hB3:Below w.heap.size w W3:=by rw [← hW3]; exact hB2.alloc hs2 _
 have hs3:w.heap.size≤W3.heap.size:=hB3.size
 have h3:W3.heap[w2.heap.size]? = some (Obj.cells #[.int .i64 (c.n:Int),.int .i64 (c.q:Int),.int .i64 c.g,.int .i64 c.m,.int .i64 c.t,.int .i64 c.s,.int .i64 (p:Int),.int .i64 1,.int .u64 0,.int .u32 0,.int .u32 0,.slice none 0 0] 203 (0,0)):=by rw [← hW3]; exact World.alloc_heap_new _ _
 have hl3:=(Array.getElem?_eq_some_iff.1 h3).1
 have c7:=cell_of h3 7 _ rfl
 clear d0 d1 d2 d3 d4 d5
 have hl3':Ev.SlR 1 v l.length (ints l) W3:=by
  obtain ⟨e1,e2 | ⟨b,off,c,e3,⟨e4,e5⟩,e6⟩⟩:=hl
  ·exact ⟨e1,.inl e2⟩
  ·exact ⟨e1,.inr ⟨b,off,c,e3,⟨Nat.lt_of_lt_of_le e4 hs3,e5⟩,fun j hj=>(hB3.cell (p:=⟨b,off+j,none⟩) e4).trans (e6 j hj)⟩⟩
 gi_wp2
 refine ⟨trivial,fun h=>by simp [Fence.wide] at h,(callsIn_wide.2 (clone_sl hl3' (by omega))).mono ?_⟩
 rintro e w4 ⟨v4,rfl,ho4,hb4⟩
 gi_wp2
 refine ⟨trivial,fun h=>by simp [Fence.wide] at h,(delf_in (m - 1) v4 l w4 (slr_own (k:=0) ho4) hg (by omega)).mono ?_⟩
 rintro e w5 ⟨rfl,rfl⟩
 have h4:=(hb4.block _ hl3).trans h3
 have c11:=cell_of h4 11 _ rfl
 have f11:=froz_of h4 11
 obtain ⟨a4,k4,rfl⟩ : ∃ a k,v4=.slice a l.length k:=by
  rcases ho4.2 with ⟨rfl,e⟩ | ⟨g,cap,cur,rfl,_⟩
  ·exact ⟨none,0,by rw [e]⟩
  ·exact ⟨_,cap,rfl⟩
 gi_wp2
 have h5:=set_at h4 11 (.slice a4 l.length k4)
 simp only [List.setIfInBounds_toArray,List.set_cons_zero,List.set_cons_succ] at h5
 have hne:(Value.slice a4 l.length k4).ownBlock ≠ some w2.heap.size:=by
  intro e
  have:=(ho4.lt _ e).1
  omega
 refine bodyPost_ret (results_tmp rfl _ _ _) rfl ⟨w2.heap.size,_,rfl,hs2,h5,?_,hne,?_⟩
 ·refine own_off ?_ _ _ hne
  obtain ⟨o1,o2 | ⟨g,cap,cur,oa,ob,oc⟩⟩:=ho4
  ·exact ⟨o1,.inl o2⟩
  ·exact ⟨o1,.inr ⟨g,cap,cur,oa,Nat.le_trans hs3 ob,oc⟩⟩
 ·exact (hB3.trans (hb4.mono hs3)).setCell hs2 _
theorem lay_new {c:Cfg} {p:Nat} (hp:p < c.n) {v:Value} {l:List Int} {ls:List Ev.Asr} {F:Nat→Prop} {w:World} (hl:Ev.SlR 1 v l.length (ints l) w) (hg:∀ g ∈ l,0≤g) (hn:l.length≤64) (h:Ev.Now ls F w) :
  Calls Tryz.prog 172 #[c.v,.int .i64 (p:Int),v] w fun e w'=>∃ b,e=.returned (.pointer (some ⟨b,0,none⟩))∧Ev.Hold ⟨w,F⟩ (layA c p b ⟨1,0,0,0,l⟩::ls) w':=by
 refine (callsIn_wide.1 (newlay_in 0 hp v l w hl hg hn)).mono ?_
 rintro e w' ⟨b,v',rfl,hb0,hb1,ho,hne,hb⟩
 have h2:=own_two (cs:=[.int .i64 (c.n:Int),.int .i64 (c.q:Int),.int .i64 c.g,.int .i64 c.m,.int .i64 c.t,.int .i64 c.s,.int .i64 (p:Int),.int .i64 1,.int .u64 0,.int .u32 0,.int .u32 0,v']) h hb1 hb0 ho hne hb
 have llf:Ev.leafV v'=true:=by
  rcases ho.2 with ⟨rfl,_⟩ | ⟨g,cap,cur,rfl,_⟩ <;> rfl
 exact ⟨b,rfl,lay_close llf h2⟩
end Go.Proofs.YtkmccgombmogmaaGreat
namespace Go.Proofs.YtkmccgombmogmaaGreat
open Go.RowKit
set_option linter.unusedVariables false
set_option linter.unusedSimpArgs false
set_option maxRecDepth 8000
structure GetS where
 st:Nat
 w:Int
 sn:Int
 has:Bool
def getStep (c:Cfg) (p:Nat) (x:GetS) (m:MemM) : GetS×MemM :=
 match x.st with
 | 1=>let v:=ld m (c.word p); if szW v=0∨(c.q:Int) < szW v then (⟨0,v,x.sn,x.has⟩,m.tick) else (⟨2,v,x.sn,x.has⟩,m.tick)
 | 2=>(⟨3,x.w,IntKind.i64.wrap (ld m (c.slot p (hdW x.w))),x.has⟩,m.tick)
 | 3=>if ld m (c.word p)=x.w then (⟨0,x.w,x.sn,true⟩,m.put (c.word p) (gnW x.w 1)) else (⟨1,x.w,x.sn,x.has⟩,m.tick)
 | _=>(x,m)
structure GetOk (x:GetS) : Prop where
 st:x.st < 4
 w:U64 x.w
 has:x.st ≠ 0→x.has=false
theorem getStep_ok {c:Cfg} {p:Nat} {x:GetS} {m:MemM} (hp:p < c.n) (hx:GetOk x) (hm:MemOk c m) : GetOk (getStep c p x m).1∧MemOk c (getStep c p x m).2:=by
 obtain ⟨st,w,sn,has⟩:=x
 obtain ⟨h1,h2,h3⟩:=hx
 have hw:=hm.get (hm.lt_word hp)
 match st,h1,h3 with
 | 0,_,h3=>exact ⟨⟨by simp [getStep],h2,h3⟩,hm⟩
 | 1,_,h3 =>
  simp only [getStep]
  split
  ·exact ⟨⟨by simp,hw.2,fun h=>absurd rfl h⟩,hm.tick⟩
  ·exact ⟨⟨by simp,hw.2,fun _=>h3 (by simp)⟩,hm.tick⟩
 | 2,_,h3=>exact ⟨⟨by simp [getStep],h2,fun _=>h3 (by simp)⟩,hm.tick⟩
 | 3,_,h3 =>
  simp only [getStep]
  split
  ·exact ⟨⟨by simp,h2,fun h=>absurd rfl h⟩,hm.put _ (gnW_u h2 1)⟩
  ·exact ⟨⟨by simp,h2,fun _=>h3 (by simp)⟩,hm.tick⟩
def getV (c:Cfg) (p bp:Nat) (x:GetS) (tr:Int) : Ev.Asr:=Ev.blkA bp [.int .i64 (c.n:Int),.int .i64 (c.q:Int),.int .i64 c.g,.int .i64 c.m,.int .i64 c.t,.int .i64 c.s,.int .i64 (p:Int),.int .i64 (x.st:Int),.int .u64 x.w,.int .i64 x.sn,.bool x.has,.int .i64 tr] 150
def getA (c:Cfg) (p bp:Nat) (x:GetS) : Ev.Asr:=Ev.exA (fun _:Int=>True) (fun tr=>getV c p bp x tr)
section
variable {w:World} {F:Nat→Prop} {c:Cfg} {p:Nat}
theorem get_open {bp:Nat} {x:GetS} {ctx:Ev.Ctx} {l:List Ev.Asr} (h:Ev.Hold ctx (getA c p bp x::l) w) : ∃ tr,Ev.Hold ctx (getV c p bp x tr::l) w:=by
 obtain ⟨tr,_,hh⟩:=h.getX
 exact ⟨tr,hh⟩
theorem get_close {bp:Nat} {x:GetS} {tr:Int} {ctx:Ev.Ctx} {l:List Ev.Asr} (h:Ev.Hold ctx (getV c p bp x tr::l) w) : Ev.Hold ctx (getA c p bp x::l) w :=
 Ev.Hold.putX tr trivial h
end
def newGet:GetS:=⟨1,0,0,false⟩
section
variable {ctx:Ev.Ctx} {w:World} {r:List Ev.Asr} {c:Cfg} {p bp bm:Nat} {mm:MemM} {st w0 sn tr:Int} {has:Bool}
abbrev geB (c:Cfg) (p bp:Nat) (st w0 sn:Int) (has:Bool) (tr:Int) : Ev.Asr:=Ev.blkA bp (cpL c p [.int .i64 st,.int .u64 w0,.int .i64 sn,.bool has,.int .i64 tr]) 150
theorem gdone (n:Nat) (h:w.cell? ⟨bp,7,none⟩=some (.int .i64 st)) : CallsIn Fence.wide n Tryz.prog 159 #[.pointer (some ⟨bp,0,none⟩)] w fun e w'=>e=.returned (.bool (decide (st=0)))∧w'=w:=by
 have hb:(st == 0)=decide (st=0):=by
  by_cases e:st=0 <;> simp [e]
 refine wen Tryz.func159 11 ?_
 gi_wp2
 exact bodyPost_ret (results_tmp rfl _ _ _) rfl ⟨by simp,rfl⟩
theorem glook (n:Nat) (hp:p < c.n) (hm:MemOk c mm) (h:Ev.Hold ctx (geB c p bp st w0 sn has tr::memA bm mm::r) w) :
  CallsIn Fence.wide n Tryz.prog 162 #[.pointer (some ⟨bp,0,none⟩),.pointer (some ⟨bm,0,none⟩)] w fun e w'=>e=.returned (.int .i64 (if szW (ld mm (c.word p))=0∨(c.q:Int) < szW (ld mm (c.word p)) then 0 else 2))∧Ev.Hold ctx (geB c p bp st (ld mm (c.word p)) sn has tr::memA bm mm.tick::r) w':=by
 obtain ⟨hx,ha⟩:=hm.at_ (hm.lt_word hp)
 have hu:=(hm.get (hm.lt_word hp)).2
 obtain ⟨x,hxe⟩ : ∃ x,ld mm (c.word p)=x:=⟨_,rfl⟩
 rw [hxe] at hx hu ⊢
 have hq:IntKind.u32.wrap (c.q:Int)=(c.q:Int):=by have:=c.qb; rw [wrap32]; omega
 obtain ⟨y,hy⟩ : ∃ y:Int,(if szW x=0∨(c.q:Int) < szW x then 0 else 2)=y:=⟨_,rfl⟩
 have hy2:(szW x=0∧y=0)∨(¬ szW x=0∧(c.q:Int) < szW x∧y=0)∨(¬ szW x=0∧¬ (c.q:Int) < szW x∧y=2):=by
  split at hy <;> omega
 rw [hy]
 clear hy hxe
 have hd:=hold_keep h (Below.refl _ _).drew
 refine wen Tryz.func162 35 ?_
 gi_upto_region 1 with fail
 refine wpIn_wide.2 ?_
 go_region_held3 (cpC c p bp) ((first | exact cpc hd | exact cpc h1 | exact cpc h2 | exact cpc (hold_set 8 (.int .u64 x) h2) | fail)) ((first
  | (have hcon:=word_ok c p hp w.drew; (with_reducible refine hcon.mono ?_); clear hcon; rintro e w1 ⟨rfl,b1⟩; have h1:=hold_keep hd b1)
  | (have hcon:=callsIn_wide.1 (load_in 0 hx ha (hold_swap h1)); (with_reducible refine hcon.mono ?_); clear hcon; rintro e w2 ⟨rfl,h2⟩; replace h2:=hold_swap h2; have x8:=blkc h2 8 _; have f8:=froz_of (hold_blk h2) 8)))
 have h3:=hold_set 8 (.int .u64 x) h2
 have y8:=blkc h3 8 _
 have y1:=blkc h3 1 _
 gi_wp2
 refine wcw (wLen _ hu _) ?_
 rintro e w3 ⟨rfl,rfl⟩
 rcases hy2 with ⟨e,rfl⟩ | ⟨e,e2,rfl⟩ | ⟨e,e2,rfl⟩
 ·have hb:(szW x == 0)=true:=by simpa using e
  gi_wp2
  exact bodyPost_ret (results_tmp rfl _ _ _) rfl ⟨rfl,h3⟩
 ·have hb:(szW x == 0)=false:=by simpa using e
  gi_wp2
  exact bodyPost_ret (results_tmp rfl _ _ _) rfl ⟨rfl,h3⟩
 ·have hb:(szW x == 0)=false:=by simpa using e
  gi_wp2
  exact bodyPost_ret (results_tmp rfl _ _ _) rfl ⟨rfl,h3⟩
theorem gcopy (n:Nat) (hp:p < c.n) (hm:MemOk c mm) (hw0:U64 w0) (h:Ev.Hold ctx (geB c p bp st w0 sn has tr::memA bm mm::r) w) :
  CallsIn Fence.wide n Tryz.prog 163 #[.pointer (some ⟨bp,0,none⟩),.pointer (some ⟨bm,0,none⟩)] w fun e w'=>e=.returned (.int .i64 3)∧Ev.Hold ctx (geB c p bp st w0 (IntKind.i64.wrap (ld mm (c.slot p (hdW w0)))) has tr::memA bm mm.tick::r) w':=by
 obtain ⟨hx,ha⟩:=hm.at_ (hm.lt_slot hp (hdW w0))
 obtain ⟨x,hxe⟩ : ∃ x,ld mm (c.slot p (hdW w0))=x:=⟨_,rfl⟩
 rw [hxe] at hx ⊢
 obtain ⟨y,hy⟩ : ∃ y:Int,IntKind.i64.wrap x=y:=⟨_,rfl⟩
 rw [hy]
 have hd:=hold_keep h (Below.refl _ _).drew
 refine wen Tryz.func163 23 ?_
 gi_upto_region 1 with fail
 refine wpIn_wide.2 ?_
 go_region_held3 (fun W=>cpC c p bp W∧W.cell? ⟨bp,8,none⟩=some (.int .u64 w0)) ((first | exact ⟨cpc hd,blkc hd 8 _⟩ | exact ⟨cpc h1,blkc h1 8 _⟩ | exact ⟨cpc h2,blkc h2 8 _⟩ | exact ⟨cpc (hold_set 9 (.int .i64 y) h2),blkc (hold_set 9 (.int .i64 y) h2) 8 _⟩ | fail)) ((first
  | (have hcon:=wHead w0 hw0 w.drew; (with_reducible refine hcon.mono ?_); clear hcon; rintro e w1 ⟨rfl,rfl⟩)
  | (have hcon:=slot_ok c p hp (hdW w0) (hdW_bd hw0).1 w.drew; (with_reducible refine hcon.mono ?_); clear hcon; rintro e w1 ⟨rfl,b1⟩; have h1:=hold_keep hd b1)
  | (have hcon:=callsIn_wide.1 (load_in 0 hx ha (hold_swap h1)); (with_reducible refine hcon.mono ?_); clear hcon; rintro e w2 ⟨rfl,h2⟩; replace h2:=hold_swap h2; have x9:=blkc h2 9 _; have f9:=froz_of (hold_blk h2) 9)))
 gi_wp2
 exact bodyPost_ret (results_tmp rfl _ _ _) rfl ⟨rfl,hold_set 9 (.int .i64 y) h2⟩
theorem ggain (n:Nat) (hp:p < c.n) (hm:MemOk c mm) (hw0:U64 w0) (h:Ev.Hold ctx (geB c p bp st w0 sn has tr::memA bm mm::r) w) :
  CallsIn Fence.wide n Tryz.prog 164 #[.pointer (some ⟨bp,0,none⟩),.pointer (some ⟨bm,0,none⟩)] w fun e w'=>e=.returned (.int .i64 (if ld mm (c.word p)=w0 then 0 else 1))∧∃ tr',Ev.Hold ctx (geB c p bp st w0 sn (decide (ld mm (c.word p)=w0)) tr'::memA bm (if ld mm (c.word p)=w0 then mm.put (c.word p) (gnW w0 1) else mm.tick)::r) w':=by
 obtain ⟨hx,ha⟩:=hm.at_ (hm.lt_word hp)
 have hd:=hold_keep h (Below.refl _ _).drew
 have hcas:∀ {W:World},Ev.Hold ctx (geB c p bp st w0 sn has tr::memA bm mm::r) W→_:=fun hh=>callsIn_wide.1 (cas_in 0 hx ha w0 (gnW w0 1) (hold_swap hh))
 by_cases he:ld mm (c.word p)=w0
 all_goals
  simp only [he,if_pos,if_neg,decide_true,decide_false,↓reduceIte] at hcas ⊢
  refine wen Tryz.func164 37 ?_
  gi_upto_region 1 with fail
  refine wpIn_wide.2 ?_
  go_region_held3 (fun W=>cpC c p bp W∧W.cell? ⟨bp,8,none⟩=some (.int .u64 w0)) ((first | exact ⟨cpc hd,blkc hd 8 _⟩ | exact ⟨cpc h1,blkc h1 8 _⟩ | exact ⟨cpc h2,blkc h2 8 _⟩ | exact ⟨cpc h3,blkc h3 8 _⟩ | fail)) ((first
   | (have hcon:=word_ok c p hp w.drew; (with_reducible refine hcon.mono ?_); clear hcon; rintro e w1 ⟨rfl,b1⟩; have h1:=hold_keep hd b1)
   | (have hcon:=wGain w0 1 hw0 w1; (with_reducible refine hcon.mono ?_); clear hcon; rintro e w2 ⟨rfl,rfl⟩)
   | (have hcon:=hcas h1; (with_reducible refine hcon.mono ?_); clear hcon; rintro e w3 ⟨rfl,h2⟩; replace h2:=hold_swap h2; have x10:=blkc h2 10 _; have f10:=froz_of (hold_blk h2) 10; have h3:=hold_set 10 (.bool (decide (ld mm (c.word p)=w0))) h2; simp only [he,decide_true,decide_false] at h3)))
 ·have y10:=blkc h3 10 _
  gi_wp2
  exact bodyPost_ret (results_tmp rfl _ _ _) rfl ⟨rfl,tr,h3⟩
 ·have y10:=blkc h3 10 _
  have y11:=blkc h3 11 _
  have g11:=froz_of (hold_blk h3) 11
  obtain ⟨t2,ht2⟩ : ∃ t2,IntKind.i64.wrap (tr+1)=t2:=⟨_,rfl⟩
  have h4:=hold_set 11 (.int .i64 t2) h3
  gi_wp2
  exact bodyPost_ret (results_tmp rfl _ _ _) rfl ⟨rfl,t2,h4⟩
abbrev gwL:List Value:=[.nilFunc,.func (.func 162) #[] #[],.func (.func 163) #[] #[],.func (.func 164) #[] #[]]
set_option maxHeartbeats 1000000 in
theorem gstep (n:Nat) {st:Nat} (h1:1≤st∧st≤3) {f:FuncId} (hf:gwL[st]? = some (.func (.func f) #[] #[])) {Q:Int→World→Prop} (hc:∀ W l,Ev.Hold ctx (geB c p bp (st:Int) w0 sn has tr::memA bm mm::l::r) W→Calls Tryz.prog f #[.pointer (some ⟨bp,0,none⟩),.pointer (some ⟨bm,0,none⟩)] W fun e w'=>∃ st2,e=.returned (.int .i64 st2)∧(∃ v,w'.cell? ⟨bp,7,none⟩=some v)∧w'.frozen? ⟨bp,7,none⟩=false∧(w'.setCell ⟨bp,7,none⟩ (.int .i64 st2)).cell? ⟨bp,7,none⟩=some (.int .i64 st2)∧Q st2 (w'.setCell ⟨bp,7,none⟩ (.int .i64 st2)))
  (h:Ev.Hold ctx (geB c p bp (st:Int) w0 sn has tr::memA bm mm::r) w) : CallsIn Fence.wide n Tryz.prog 161 #[.pointer (some ⟨bp,0,none⟩),.pointer (some ⟨bm,0,none⟩)] w fun e w'=>∃ st2,e=.returned (.bool (decide (st2=0)))∧Q st2 w':=by
 have hdn:=gdone (n - 1) (blkc h 7 _)
 obtain ⟨b1,W1,hb1,hW1,g1⟩:=newN [.nilFunc,.nilFunc,.nilFunc,.nilFunc] 238 h
 obtain ⟨W2,s2,g2⟩:=st_all (t := 238) (cs':=gwL) g1 rfl (by simp [Value.oneCell']) (by kernel_rfl)
 have q7:=blkc (hold_up [_] g2) 7 _
 have q0:=blkc g2 1 _
 have q1:=blkc g2 2 _
 have q2:=blkc g2 3 _
 replace g2:=hsel [_,_,_] g2 [1,2,0]
 obtain rfl | rfl | rfl:st=1∨st=2∨st=3:=by omega
 all_goals
  cases hf
  refine wen Tryz.func161 24 ?_
  gi_wp2
  refine wcl (hdn) ?_
  rintro e w1 ⟨rfl,rfl⟩
  gi_wp2_with (refine wpListIn_store_run rfl _ _ _ rfl s2 rfl rfl ?_)
  refine wcw (hc W2 _ g2) ?_
  rintro e w3 ⟨st2,rfl,⟨v7,z7⟩,f7,y7,hQ⟩
  have hb:(st2 == 0)=decide (st2=0):=by
   by_cases e:st2=0 <;> simp [e]
  gi_wp2
  exact bodyPost_ret (results_tmp rfl _ _ _) rfl ⟨st2,by simp,hQ⟩
theorem get_stepH (n:Nat) (hp:p < c.n) {x:GetS} (hx:GetOk x) (h0:x.st ≠ 0) (hm:MemOk c mm) (h:Ev.Hold ctx (getA c p bp x::memA bm mm::r) w) :
  CallsIn Fence.wide n Tryz.prog 161 #[.pointer (some ⟨bp,0,none⟩),.pointer (some ⟨bm,0,none⟩)] w fun e w'=>e=.returned (.bool (decide ((getStep c p x mm).1.st=0)))∧Ev.Hold ctx (getA c p bp (getStep c p x mm).1::memA bm (getStep c p x mm).2::r) w':=by
 obtain ⟨tr,hh⟩:=get_open h
 obtain ⟨st,ww,sn,has⟩:=x
 obtain rfl:has=false:=hx.has h0
 have hst:st < 4:=hx.st
 have hw0:U64 ww:=hx.w
 replace h0:st ≠ 0:=h0
 have fin:∀ {st2 w2 sn2 tr2:Int} {has2:Bool} {M:MemM} {l:Ev.Asr} {W:World} {y:GetS},Ev.Hold ctx (geB c p bp (st:Int) w2 sn2 has2 tr2::memA bm M::l::r) W→y=⟨y.st,w2,sn2,has2⟩→st2=(y.st:Int) →
   (∃ v,W.cell? ⟨bp,7,none⟩=some v)∧W.frozen? ⟨bp,7,none⟩=false∧(W.setCell ⟨bp,7,none⟩ (.int .i64 st2)).cell? ⟨bp,7,none⟩=some (.int .i64 st2)∧(decide (st2=0)=decide (y.st=0)∧Ev.Hold ctx (getA c p bp y::memA bm M::r) (W.setCell ⟨bp,7,none⟩ (.int .i64 st2))):=fun {st2 w2 sn2 tr2 has2 M l W y} hW hy hs=>by
  have h1:=hold_set 7 (.int .i64 st2) hW
  refine ⟨⟨_,blkc hW 7 _⟩,froz_of (hold_blk hW) 7,blkc h1 7 _,?_,get_close (tr:=tr2) ?_⟩
  ·rw [hs]
   simp
  ·rw [hy]
   subst hs
   exact hsel [_,_,_] h1 [0,1]
 have key:∀ W l f,gwL[st]? = some (.func (.func f) #[] #[])→Ev.Hold ctx (geB c p bp (st:Int) ww sn false tr::memA bm mm::l::r) W→Calls Tryz.prog f #[.pointer (some ⟨bp,0,none⟩),.pointer (some ⟨bm,0,none⟩)] W fun e w'=>∃ st2,e=.returned (.int .i64 st2)∧(∃ v,w'.cell? ⟨bp,7,none⟩=some v)∧w'.frozen? ⟨bp,7,none⟩=false∧(w'.setCell ⟨bp,7,none⟩ (.int .i64 st2)).cell? ⟨bp,7,none⟩=some (.int .i64 st2)∧(decide (st2=0)=decide ((getStep c p ⟨st,ww,sn,false⟩ mm).1.st=0)∧Ev.Hold ctx (getA c p bp (getStep c p ⟨st,ww,sn,false⟩ mm).1::memA bm (getStep c p ⟨st,ww,sn,false⟩ mm).2::r) (w'.setCell ⟨bp,7,none⟩ (.int .i64 st2))):=by
  intro W l f hf hW
  obtain rfl | rfl | rfl:st=1∨st=2∨st=3:=by omega
  all_goals cases hf
  ·refine callsIn_wide.1 ((glook 0 hp hm hW).mono ?_)
   rintro e w1 ⟨rfl,h1⟩
   by_cases e:szW (ld mm (c.word p))=0∨(c.q:Int) < szW (ld mm (c.word p))
   ·rw [if_pos e,show getStep c p ⟨1,ww,sn,false⟩ mm=(⟨0,ld mm (c.word p),sn,false⟩,mm.tick) by simp only [getStep,if_pos e]]
    exact ⟨0,rfl,fin (y:=⟨0,_,_,_⟩) h1 rfl rfl⟩
   ·rw [if_neg e,show getStep c p ⟨1,ww,sn,false⟩ mm=(⟨2,ld mm (c.word p),sn,false⟩,mm.tick) by simp only [getStep,if_neg e]]
    exact ⟨2,rfl,fin (y:=⟨2,_,_,_⟩) h1 rfl rfl⟩
  ·refine callsIn_wide.1 ((gcopy 0 hp hm hw0 hW).mono ?_)
   rintro e w1 ⟨rfl,h1⟩
   exact ⟨3,rfl,fin (y:=⟨3,_,_,_⟩) h1 rfl rfl⟩
  ·refine callsIn_wide.1 ((ggain 0 hp hm hw0 hW).mono ?_)
   rintro e w1 ⟨rfl,tr',h1⟩
   by_cases e:ld mm (c.word p)=ww
   ·rw [show getStep c p ⟨3,ww,sn,false⟩ mm=(⟨0,ww,sn,true⟩,mm.put (c.word p) (gnW ww 1)) by simp only [getStep,if_pos e]]
    rw [if_pos e,decide_eq_true e] at h1
    rw [if_pos e]
    exact ⟨0,rfl,fin (y:=⟨0,_,_,_⟩) h1 rfl rfl⟩
   ·rw [show getStep c p ⟨3,ww,sn,false⟩ mm=(⟨1,ww,sn,false⟩,mm.tick) by simp only [getStep,if_neg e]]
    rw [if_neg e,decide_eq_false e] at h1
    rw [if_neg e]
    exact ⟨1,rfl,fin (y:=⟨1,_,_,_⟩) h1 rfl rfl⟩
 obtain ⟨f,hf⟩ : ∃ f,gwL[st]? = some (.func (.func f) #[] #[]):=by
  obtain rfl | rfl | rfl:st=1∨st=2∨st=3:=by omega
  all_goals exact ⟨_,rfl⟩
 refine (gstep (Q:=fun st2 W=>decide (st2=0)=decide ((getStep c p ⟨st,ww,sn,false⟩ mm).1.st=0)∧Ev.Hold ctx (getA c p bp (getStep c p ⟨st,ww,sn,false⟩ mm).1::memA bm (getStep c p ⟨st,ww,sn,false⟩ mm).2::r) W) n (by omega) hf (fun W l hW=>key W l f hf hW) hh).mono ?_
 rintro e w1 ⟨st2,rfl,h1,h2⟩
 exact ⟨by rw [h1],h2⟩
theorem got_get (n:Nat) {x:GetS} (h:Ev.Hold ctx (getA c p bp x::r) w) :
  CallsIn Fence.wide n Tryz.prog 68 #[.pointer (some ⟨bp,0,none⟩)] w fun e w'=>e=.returned (.tuple #[.int .i64 (if x.has then x.sn else 0),.bool x.has])∧Ev.Hold ctx (getA c p bp x::r) w':=by
 obtain ⟨tr,hh⟩:=get_open h
 obtain ⟨st,ww,sn,has⟩:=x
 have x9:=blkc hh 9 _
 have x10:=blkc hh 10 _
 cases has
 all_goals
  refine wen Tryz.func68 16 ?_
  gi_wp2
  exact bodyPost_ret (results_two rfl _) rfl ⟨rfl,get_close hh⟩
theorem hands_get (n:Nat) {x:GetS} (h:Ev.Hold ctx (getA c p bp x::r) w) :
  CallsIn Fence.wide n Tryz.prog 160 #[.pointer (some ⟨bp,0,none⟩)] w fun e w'=>∃ v,e=.returned v∧Ev.Hold ctx (isA v (if x.has then [x.sn] else [])::getA c p bp x::r) w':=by
 have hg:=got_get (n - 1) h
 obtain ⟨st,ww,sn,has⟩:=x
 cases has
 all_goals
  refine wen Tryz.func160 13 ?_
  gi_wp2
  refine wcl (hg) ?_
  rintro e w1 ⟨rfl,h1⟩
 ·gi_wp2
  exact bodyPost_ret (results_tmp rfl _ _ _) rfl ⟨.slice none 0 0,rfl,h1.nilSl⟩
 ·have h2:=blk_isA (hold_new [.int .i64 sn] 3 h1)
  gi_wp2
  exact bodyPost_ret (results_tmp rfl _ _ _) rfl ⟨.slice (some ⟨w1.heap.size,0,none⟩) 1 1,rfl,h2⟩
theorem rgetnew (n:Nat) (hp:p < c.n) (h:Ev.Hold ctx r w) :
  CallsIn Fence.wide n Tryz.prog 34 #[c.v,.int .i64 (p:Int)] w fun e w'=>∃ bp,e=.returned (.pointer (some ⟨bp,0,none⟩))∧Ev.Hold ctx (getA c p bp newGet::r) w':=by
 obtain ⟨b1,W1,hb1,hW1,g1⟩:=newN [.int .i64 (c.n:Int),.int .i64 (c.q:Int),.int .i64 c.g,.int .i64 c.m,.int .i64 c.t,.int .i64 c.s] 23 h
 obtain ⟨k0,k1,k2,k3,k4,k5⟩:=cf6c (l:=[]) g1
 refine wen Tryz.func34 13 ?_
 gi_wp2
 refine wcw (word_ok c p hp _) ?_
 rintro e w2 ⟨rfl,b2⟩
 have h0:(0:Int)≤((c.word p:Nat) : Int):=by omega
 have g2:=hold_keep g1 b2
 clear k0 k1 k2 k3 k4 k5 hb1 hW1
 obtain ⟨k0,k1,k2,k3,k4,k5⟩:=cf6c (l:=[]) g2
 obtain ⟨b3,W3,hb3,hW3,g3⟩:=newN (cpL c p [.int .i64 1,.int .u64 0,.int .i64 0,.bool false,.int .i64 0]) 150 g2
 gi_wp2
 exact bodyPost_ret (results_tmp rfl _ _ _) rfl ⟨b3,rfl,get_close (x:=newGet) (tr:=0) (hsel [_,_] g3 [0])⟩
end
end Go.Proofs.YtkmccgombmogmaaGreat
