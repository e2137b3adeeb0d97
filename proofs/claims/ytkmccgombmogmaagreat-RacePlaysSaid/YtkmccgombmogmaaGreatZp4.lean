/- Part of a proof: see the last text. -/
import Derived.Test.YtkmccgombmogmaaGreatZp3
import Derived.Test.YtkmccgombmogmaaGreatZp2
import Derived.Test.YtkmccgombmogmaaGreatZp1
namespace Go.Proofs.YtkmccgombmogmaaGreat
open Go.RowKit
set_option linter.unusedVariables false
set_option linter.unusedSimpArgs false
set_option maxRecDepth 8000
section
variable {ctx:Ev.Ctx} {w:World} {r:List Ev.Asr} {c:Cfg} {p bp:Nat}
theorem iclone (n:Nat) {v:Value} {xs:List Int} (hn:xs.length≤1000000) (h:Ev.Hold ctx (isA v xs::r) w) :
  CallsIn Fence.wide n Tryz.prog 97 #[v] w fun e w'=>∃ v',e=.returned v'∧Ev.Hold ctx (isA v' xs::isA v xs::r) w':=by
 obtain ⟨F1,k1,back⟩:=hold_fr [_] h
 refine (callsIn_wide.2 (clone_int hn (one_ints xs) k1)).mono ?_
 rintro e w1 ⟨v',_,-,rfl,h1⟩
 exact ⟨v',rfl,back _ _ h1⟩
theorem cf6c {b:Nat} {l:List Value} {T:TypeId} (h:Ev.Hold ctx (Ev.blkA b (.int .i64 (c.n:Int)::.int .i64 (c.q:Int)::.int .i64 c.g::.int .i64 c.m::.int .i64 c.t::.int .i64 c.s::l) T::r) w) : w.cell? ⟨b,0,none⟩=some (.int .i64 (c.n:Int))∧w.cell? ⟨b,1,none⟩=some (.int .i64 (c.q:Int))∧w.cell? ⟨b,2,none⟩=some (.int .i64 c.g)∧w.cell? ⟨b,3,none⟩=some (.int .i64 c.m)∧w.cell? ⟨b,4,none⟩=some (.int .i64 c.t)∧w.cell? ⟨b,5,none⟩=some (.int .i64 c.s):=⟨blkc h 0 _,blkc h 1 _,blkc h 2 _,blkc h 3 _,blkc h 4 _,blkc h 5 _⟩
theorem pfrom (n:Nat) (hp:p < c.n) (h:Ev.Hold ctx r w) :
  CallsIn Fence.wide n Tryz.prog 63 #[c.v,.int .i64 (p:Int)] w fun e w'=>e=.returned (.agg (cpL c p [.int .i64 1,.int .u64 0,.int .u32 0]).toArray)∧Ev.Hold ctx r w':=by
 obtain ⟨b1,W1,hb1,hW1,g1⟩:=newN [.int .i64 (c.n:Int),.int .i64 (c.q:Int),.int .i64 c.g,.int .i64 c.m,.int .i64 c.t,.int .i64 c.s] 23 h
 obtain ⟨b2,W2,hb2,hW2,g2⟩:=newN [.int .i64 0,.int .i64 0,.int .i64 0,.int .i64 0,.int .i64 0,.int .i64 0,.int .i64 0,.int .i64 0,.int .u64 0,.int .u32 0] 145 g1
 obtain ⟨b3,W3,hb3,hW3,g3⟩:=newN [.int .i64 0,.int .i64 0,.int .i64 0,.int .i64 0,.int .i64 0,.int .i64 0,.int .i64 0,.int .i64 0,.int .u64 0,.int .u32 0] 145 g2
 obtain ⟨k0,k1,k2,k3,k4,k5⟩:=cf6c (l:=[]) (hold_up [_] g2)
 obtain ⟨W4,s4,g4⟩:=st_all (t := 145) (cs':=cpL c p [.int .i64 0,.int .u64 0,.int .u32 0]) g3 rfl (by simp [Value.oneCell']) (by kernel_rfl)
 obtain ⟨k0,k1,k2,k3,k4,k5⟩:=cf6c (l:=[]) (hold_up [_,_] g4)
 refine wen Tryz.func63 13 ?_
 gi_wp2_with (refine wpListIn_store_run rfl _ _ _ rfl s4 rfl rfl ?_)
 refine wcw (word_ok c p hp _) ?_
 rintro e w5 ⟨rfl,b5⟩
 have g5:=hold_keep g4 b5
 have x7:=blkc g5 7 _
 have f7:=froz_of (hold_blk g5) 7
 have h0:(0:Int)≤((c.word p:Nat) : Int):=by omega
 have g6:=hold_set 7 (.int .i64 1) g5
 have l6:=ld_all (t := 145) g6 Tryz.underlying145 rfl (by kernel_rfl)
 obtain ⟨W7,s7,g7⟩:=st_all (t := 145) (cs':=cpL c p [.int .i64 1,.int .u64 0,.int .u32 0]) (hold_up [_] g6) rfl (by simp [Value.oneCell']) (by kernel_rfl)
 gi_wp2_with (first | refine wpListIn_store_run rfl _ _ _ rfl s7 rfl rfl ?_ | refine wpListIn_load_run rfl _ _ rfl l6 rfl ?_)
 exact post_cell rfl rfl rfl (lv_all g7 Tryz.underlying145 rfl (by kernel_rfl)) ⟨rfl,hold_drop (r:=[_,_,_]) g7⟩
def newPut (gg:Int) : PutS:=if 0≤gg then ⟨1,gg,0,[],[gg]⟩ else ⟨0,gg,0,[],[]⟩
theorem rputnew (n:Nat) (hp:p < c.n) {gg:Int} (hg:0≤gg) (h:Ev.Hold ctx r w) :
  CallsIn Fence.wide n Tryz.prog 33 #[c.v,.int .i64 (p:Int),.int .i64 gg] w fun e w'=>∃ bp,e=.returned (.pointer (some ⟨bp,0,none⟩))∧Ev.Hold ctx (putA c p bp (newPut gg)::r) w':=by
 obtain ⟨b1,W1,hb1,hW1,g1⟩:=newN [.int .i64 (c.n:Int),.int .i64 (c.q:Int),.int .i64 c.g,.int .i64 c.m,.int .i64 c.t,.int .i64 c.s] 23 h
 obtain ⟨k0,k1,k2,k3,k4,k5⟩:=cf6c (l:=[]) g1
 refine wen Tryz.func33 29 ?_
 gi_wp2
 refine wcl (pfrom (n - 1) hp g1) ?_
 rintro e w2 ⟨rfl,g2⟩
 clear k0 k1 k2 k3 k4 k5
 obtain ⟨b3,W3,hb3,hW3,g3⟩:=newN (cpL c p [.int .i64 1,.int .u64 0,.int .u32 0,.int .i64 gg,.slice none 0 0,.slice none 0 0]) 148 g2
 have x7:=blkc g3 7 _
 obtain ⟨b4,W4,hb4,hW4,g4⟩:=newN [.int .i64 gg] 3 g3
 have x12:=blkc (hold_up [_] g4) 12 _
 have f12:=froz_of (hold_blk (hold_up [_] g4)) 12
 have g5:=hold_set 12 (.slice (some ⟨b4,0,none⟩) 1 1) (hold_up [_] g4)
 gi_wp2
 refine bodyPost_ret (results_tmp rfl _ _ _) rfl ⟨b3,rfl,?_⟩
 rw [newPut,if_pos hg]
 have g6:=(blk_isA (hsel [_,_,_] g5 [1,0])).nilSl (e := 3) (sz:=1)
 exact put_close (k:=0) (Nat.succ_ne_zero _) rfl (hsel [_,_,_] g6 [2,1,0])
theorem hands_put (n:Nat) {x:PutS} (hx:x.hs.length≤64) (h:Ev.Hold ctx (putA c p bp x::r) w) :
  CallsIn Fence.wide n Tryz.prog 137 #[.pointer (some ⟨bp,0,none⟩)] w fun e w'=>∃ v,e=.returned v∧Ev.Hold ctx (isA v x.hs::putA c p bp x::r) w':=by
 have key:∃ hd l k tk,Ev.Hold ctx (isA hd x.hs::pB c p bp (x.st:Int) x.w k x.gg tk hd::(l++r)) w∧∀ W v,Ev.Hold ctx (isA v x.hs::isA hd x.hs::pB c p bp (x.st:Int) x.w k x.gg tk hd::(l++r)) W→Ev.Hold ctx (isA v x.hs::putA c p bp x::r) W:=by
  by_cases h0:x.st=0
  ·obtain ⟨k,tk,hd,ltk,-,hh⟩:=put_open0 h0 h
   exact ⟨hd,[],k,tk,hold_swap hh,fun W v hW=>hold_swap (put_close0 h0 ltk (hsel [_,_,_] hW [2,1,0]))⟩
  ·obtain ⟨k,tk,hd,ltk,-,hh⟩:=put_open h0 h
   exact ⟨hd,[isA tk x.ts],k,tk,hold_swap hh,fun W v hW=>hold_swap (put_close h0 ltk (hsel [_,_,_,_] hW [2,1,3,0]))⟩
 obtain ⟨hd,l,k,tk,h1,back⟩:=key
 have x12:=blkc (hold_up [_] h1) 12 _
 refine wen Tryz.func137 9 ?_
 gi_wp2
 refine wcl (iclone (n - 1) (by omega) h1) ?_
 rintro e w1 ⟨v,rfl,h2⟩
 gi_wp2
 exact bodyPost_ret (results_tmp rfl _ _ _) rfl ⟨v,rfl,back _ _ h2⟩
theorem over_put (n:Nat) {x:PutS} (hx:x.hs.length≤64) (h:Ev.Hold ctx (putA c p bp x::r) w) :
  CallsIn Fence.wide n Tryz.prog 66 #[.pointer (some ⟨bp,0,none⟩)] w fun e w'=>∃ v,e=.returned v∧Ev.Hold ctx (isA v (if x.st=0 then x.hs else [])::putA c p bp x::r) w':=by
 have hA:=h
 by_cases h0:x.st=0
 ·obtain ⟨k,tk,hd,ltk,-,hh⟩:=put_open0 h0 h
  have x7:w.cell? ⟨bp,7,none⟩=some (.int .i64 0):=by rw [show (0:Int)=(x.st:Int) by omega]; exact blkc hh 7 _
  have x12:=blkc hh 12 _
  refine wen Tryz.func66 17 ?_
  gi_wp2
  refine wcl (iclone (n - 1) (by omega) (hold_swap hh)) ?_
  rintro e w1 ⟨v,rfl,h2⟩
  gi_wp2
  refine bodyPost_ret (results_tmp rfl _ _ _) rfl ⟨v,rfl,?_⟩
  exact hold_swap (put_close0 h0 ltk (hsel [_,_,_] h2 [2,1,0]))
 ·obtain ⟨k,tk,hd,ltk,-,hh⟩:=put_open h0 h
  obtain ⟨st,hst⟩ : ∃ st:Int,(x.st:Int)=st:=⟨_,rfl⟩
  have x7:w.cell? ⟨bp,7,none⟩=some (.int .i64 st):=by rw [← hst]; exact blkc hh 7 _
  have hb:(st != 0)=true:=by simp; omega
  refine wen Tryz.func66 17 ?_
  gi_wp2
  exact bodyPost_ret (results_tmp rfl _ _ _) rfl ⟨.slice none 0 0,rfl,hA.nilSl⟩
end
end Go.Proofs.YtkmccgombmogmaaGreat
namespace Go.Proofs.YtkmccgombmogmaaGreat
open Go.RowKit
set_option linter.unusedVariables false
set_option linter.unusedSimpArgs false
def gnW (x d:Int) : Int:=packW ((hdW x+d) % 4294967296) (tlW x)
theorem wGain (x n:Int) (h:U64 x) (w:World) : Calls Tryz.prog 115 #[.int .u64 x,.int .u32 n] w fun e w'=>e=.returned (.int .u64 (gnW x n))∧w=w':=by
 go_enter Tryz.func115,Tryz.ntmps115
 go_wp2_with (first | (go_at_call 74; refine (wTail x h _).mono ?_; rintro e w' ⟨rfl,rfl⟩) | (go_at_call 73; refine (wHead x h _).mono ?_; rintro e w' ⟨rfl,rfl⟩) | (go_at_call 114; refine (wPack ((hdW x+n) % 4294967296) (tlW x) (by omega) (tlW_bd x) _).mono ?_; rintro e w' ⟨rfl,rfl⟩))
 go_ret
 exact ⟨rfl,rfl⟩
def oldN (n:Int) : Int:=n - n / 2
theorem wOlder (n:Int) (h:0≤n∧n < 4294967296) (w:World) : Calls Tryz.prog 117 #[.int .u32 n] w fun e w'=>e=.returned (.int .u32 (oldN n))∧w=w':=by
 have e1:n.tdiv 2=n / 2:=Int.tdiv_eq_ediv_of_nonneg h.1
 have e2:IntKind.u32.wrap (n / 2)=n / 2:=by rw [wrap32]; omega
 have e3:IntKind.u32.wrap (n - n / 2)=n - n / 2:=by rw [wrap32]; omega
 go_enter Tryz.func117,Tryz.ntmps117
 go_wp2
 go_ret
 refine ⟨?_,rfl⟩
 simp [oldN,e1,e2,e3]
theorem gnW_u {x:Int} (h:U64 x) (d:Int) : U64 (gnW x d):=by
 have:=tlW_bd x
 unfold gnW packW U64
 omega
end Go.Proofs.YtkmccgombmogmaaGreat
namespace Go.Proofs.YtkmccgombmogmaaGreat
open Go.RowKit
set_option linter.unusedVariables false
set_option linter.unusedSimpArgs false
set_option maxRecDepth 8000
structure GetS where
 st:Nat
 w:Int
 sn:Int
 has:Bool
def getStep (c:Cfg) (p:Nat) (x:GetS) (m:MemM) : GetS×MemM :=
 match x.st with
 | 1=>let v:=ld m (c.word p); if szW v=0∨(c.q:Int) < szW v then (⟨0,v,x.sn,x.has⟩,m.tick) else (⟨2,v,x.sn,x.has⟩,m.tick)
 | 2=>(⟨3,x.w,IntKind.i64.wrap (ld m (c.slot p (hdW x.w))),x.has⟩,m.tick)
 | 3=>if ld m (c.word p)=x.w then (⟨0,x.w,x.sn,true⟩,m.put (c.word p) (gnW x.w 1)) else (⟨1,x.w,x.sn,x.has⟩,m.tick)
 | _=>(x,m)
structure GetOk (x:GetS) : Prop where
 st:x.st < 4
 w:U64 x.w
 has:x.st ≠ 0→x.has=false
theorem getStep_ok {c:Cfg} {p:Nat} {x:GetS} {m:MemM} (hp:p < c.n) (hx:GetOk x) (hm:MemOk c m) : GetOk (getStep c p x m).1∧MemOk c (getStep c p x m).2:=by
 obtain ⟨st,w,sn,has⟩:=x
 obtain ⟨h1,h2,h3⟩:=hx
 have hw:=hm.get (hm.lt_word hp)
 match st,h1,h3 with
 | 0,_,h3=>exact ⟨⟨by simp [getStep],h2,h3⟩,hm⟩
 | 1,_,h3 =>
  simp only [getStep]
  split
  ·exact ⟨⟨by simp,hw.2,fun h=>absurd rfl h⟩,hm.tick⟩
  ·exact ⟨⟨by simp,hw.2,fun _=>h3 (by simp)⟩,hm.tick⟩
 | 2,_,h3=>exact ⟨⟨by simp [getStep],h2,fun _=>h3 (by simp)⟩,hm.tick⟩
 | 3,_,h3 =>
  simp only [getStep]
  split
  ·exact ⟨⟨by simp,h2,fun h=>absurd rfl h⟩,hm.put _ (gnW_u h2 1)⟩
  ·exact ⟨⟨by simp,h2,fun _=>h3 (by simp)⟩,hm.tick⟩
def getV (c:Cfg) (p bp:Nat) (x:GetS) (tr:Int) : Ev.Asr:=Ev.blkA bp [.int .i64 (c.n:Int),.int .i64 (c.q:Int),.int .i64 c.g,.int .i64 c.m,.int .i64 c.t,.int .i64 c.s,.int .i64 (p:Int),.int .i64 (x.st:Int),.int .u64 x.w,.int .i64 x.sn,.bool x.has,.int .i64 tr] 150
def getA (c:Cfg) (p bp:Nat) (x:GetS) : Ev.Asr:=Ev.exA (fun _:Int=>True) (fun tr=>getV c p bp x tr)
section
variable {w:World} {F:Nat→Prop} {c:Cfg} {p:Nat}
theorem get_open {bp:Nat} {x:GetS} {ctx:Ev.Ctx} {l:List Ev.Asr} (h:Ev.Hold ctx (getA c p bp x::l) w) : ∃ tr,Ev.Hold ctx (getV c p bp x tr::l) w:=by
 obtain ⟨tr,_,hh⟩:=h.getX
 exact ⟨tr,hh⟩
theorem get_close {bp:Nat} {x:GetS} {tr:Int} {ctx:Ev.Ctx} {l:List Ev.Asr} (h:Ev.Hold ctx (getV c p bp x tr::l) w) : Ev.Hold ctx (getA c p bp x::l) w :=
 Ev.Hold.putX tr trivial h
end
def newGet:GetS:=⟨1,0,0,false⟩
section
variable {ctx:Ev.Ctx} {w:World} {r:List Ev.Asr} {c:Cfg} {p bp bm:Nat} {mm:MemM} {st w0 sn tr:Int} {has:Bool}
abbrev geB (c:Cfg) (p bp:Nat) (st w0 sn:Int) (has:Bool) (tr:Int) : Ev.Asr:=Ev.blkA bp (cpL c p [.int .i64 st,.int .u64 w0,.int .i64 sn,.bool has,.int .i64 tr]) 150
theorem gdone (n:Nat) (h:w.cell? ⟨bp,7,none⟩=some (.int .i64 st)) : CallsIn Fence.wide n Tryz.prog 159 #[.pointer (some ⟨bp,0,none⟩)] w fun e w'=>e=.returned (.bool (decide (st=0)))∧w'=w:=by
 have hb:(st == 0)=decide (st=0):=by
  by_cases e:st=0 <;> simp [e]
 refine wen Tryz.func159 11 ?_
 gi_wp2
 exact bodyPost_ret (results_tmp rfl _ _ _) rfl ⟨by simp,rfl⟩
theorem glook (n:Nat) (hp:p < c.n) (hm:MemOk c mm) (h:Ev.Hold ctx (geB c p bp st w0 sn has tr::memA bm mm::r) w) :
  CallsIn Fence.wide n Tryz.prog 162 #[.pointer (some ⟨bp,0,none⟩),.pointer (some ⟨bm,0,none⟩)] w fun e w'=>e=.returned (.int .i64 (if szW (ld mm (c.word p))=0∨(c.q:Int) < szW (ld mm (c.word p)) then 0 else 2))∧Ev.Hold ctx (geB c p bp st (ld mm (c.word p)) sn has tr::memA bm mm.tick::r) w':=by
 obtain ⟨hx,ha⟩:=hm.at_ (hm.lt_word hp)
 have hu:=(hm.get (hm.lt_word hp)).2
 obtain ⟨x,hxe⟩ : ∃ x,ld mm (c.word p)=x:=⟨_,rfl⟩
 rw [hxe] at hx hu ⊢
 have hq:IntKind.u32.wrap (c.q:Int)=(c.q:Int):=by have:=c.qb; rw [wrap32]; omega
 obtain ⟨y,hy⟩ : ∃ y:Int,(if szW x=0∨(c.q:Int) < szW x then 0 else 2)=y:=⟨_,rfl⟩
 have hy2:(szW x=0∧y=0)∨(¬ szW x=0∧(c.q:Int) < szW x∧y=0)∨(¬ szW x=0∧¬ (c.q:Int) < szW x∧y=2):=by
  split at hy <;> omega
 rw [hy]
 clear hy hxe
 have hd:=hold_keep h (Below.refl _ _).drew
 refine wen Tryz.func162 35 ?_
 gi_upto_region 1 with fail
 refine wpIn_wide.2 ?_
 go_region_held3 (cpC c p bp) ((first | exact cpc hd | exact cpc h1 | exact cpc h2 | exact cpc (hold_set 8 (.int .u64 x) h2) | fail)) ((first
  | (have hcon:=word_ok c p hp w.drew; (with_reducible refine hcon.mono ?_); clear hcon; rintro e w1 ⟨rfl,b1⟩; have h1:=hold_keep hd b1)
  | (have hcon:=callsIn_wide.1 (load_in 0 hx ha (hold_swap h1)); (with_reducible refine hcon.mono ?_); clear hcon; rintro e w2 ⟨rfl,h2⟩; replace h2:=hold_swap h2; have x8:=blkc h2 8 _; have f8:=froz_of (hold_blk h2) 8)))
 have h3:=hold_set 8 (.int .u64 x) h2
 have y8:=blkc h3 8 _
 have y1:=blkc h3 1 _
 gi_wp2
 refine wcw (wLen _ hu _) ?_
 rintro e w3 ⟨rfl,rfl⟩
 rcases hy2 with ⟨e,rfl⟩ | ⟨e,e2,rfl⟩ | ⟨e,e2,rfl⟩
 ·have hb:(szW x == 0)=true:=by simpa using e
  gi_wp2
  exact bodyPost_ret (results_tmp rfl _ _ _) rfl ⟨rfl,h3⟩
 ·have hb:(szW x == 0)=false:=by simpa using e
  gi_wp2
  exact bodyPost_ret (results_tmp rfl _ _ _) rfl ⟨rfl,h3⟩
 ·have hb:(szW x == 0)=false:=by simpa using e
  gi_wp2
  exact bodyPost_ret (results_tmp rfl _ _ _) rfl ⟨rfl,h3⟩
theorem gcopy (n:Nat) (hp:p < c.n) (hm:MemOk c mm) (hw0:U64 w0) (h:Ev.Hold ctx (geB c p bp st w0 sn has tr::memA bm mm::r) w) :
  CallsIn Fence.wide n Tryz.prog 163 #[.pointer (some ⟨bp,0,none⟩),.pointer (some ⟨bm,0,none⟩)] w fun e w'=>e=.returned (.int .i64 3)∧Ev.Hold ctx (geB c p bp st w0 (IntKind.i64.wrap (ld mm (c.slot p (hdW w0)))) has tr::memA bm mm.tick::r) w':=by
 obtain ⟨hx,ha⟩:=hm.at_ (hm.lt_slot hp (hdW w0))
 obtain ⟨x,hxe⟩ : ∃ x,ld mm (c.slot p (hdW w0))=x:=⟨_,rfl⟩
 rw [hxe] at hx ⊢
 obtain ⟨y,hy⟩ : ∃ y:Int,IntKind.i64.wrap x=y:=⟨_,rfl⟩
 rw [hy]
 have hd:=hold_keep h (Below.refl _ _).drew
 refine wen Tryz.func163 23 ?_
 gi_upto_region 1 with fail
 refine wpIn_wide.2 ?_
 go_region_held3 (fun W=>cpC c p bp W∧W.cell? ⟨bp,8,none⟩=some (.int .u64 w0)) ((first | exact ⟨cpc hd,blkc hd 8 _⟩ | exact ⟨cpc h1,blkc h1 8 _⟩ | exact ⟨cpc h2,blkc h2 8 _⟩ | exact ⟨cpc (hold_set 9 (.int .i64 y) h2),blkc (hold_set 9 (.int .i64 y) h2) 8 _⟩ | fail)) ((first
  | (have hcon:=wHead w0 hw0 w.drew; (with_reducible refine hcon.mono ?_); clear hcon; rintro e w1 ⟨rfl,rfl⟩)
  | (have hcon:=slot_ok c p hp (hdW w0) (hdW_bd hw0).1 w.drew; (with_reducible refine hcon.mono ?_); clear hcon; rintro e w1 ⟨rfl,b1⟩; have h1:=hold_keep hd b1)
  | (have hcon:=callsIn_wide.1 (load_in 0 hx ha (hold_swap h1)); (with_reducible refine hcon.mono ?_); clear hcon; rintro e w2 ⟨rfl,h2⟩; replace h2:=hold_swap h2; have x9:=blkc h2 9 _; have f9:=froz_of (hold_blk h2) 9)))
 gi_wp2
 exact bodyPost_ret (results_tmp rfl _ _ _) rfl ⟨rfl,hold_set 9 (.int .i64 y) h2⟩
theorem ggain (n:Nat) (hp:p < c.n) (hm:MemOk c mm) (hw0:U64 w0) (h:Ev.Hold ctx (geB c p bp st w0 sn has tr::memA bm mm::r) w) :
  CallsIn Fence.wide n Tryz.prog 164 #[.pointer (some ⟨bp,0,none⟩),.pointer (some ⟨bm,0,none⟩)] w fun e w'=>e=.returned (.int .i64 (if ld mm (c.word p)=w0 then 0 else 1))∧∃ tr',Ev.Hold ctx (geB c p bp st w0 sn (decide (ld mm (c.word p)=w0)) tr'::memA bm (if ld mm (c.word p)=w0 then mm.put (c.word p) (gnW w0 1) else mm.tick)::r) w':=by
 obtain ⟨hx,ha⟩:=hm.at_ (hm.lt_word hp)
 have hd:=hold_keep h (Below.refl _ _).drew
 have hcas:∀ {W:World},Ev.Hold ctx (geB c p bp st w0 sn has tr::memA bm mm::r) W→_:=fun hh=>callsIn_wide.1 (cas_in 0 hx ha w0 (gnW w0 1) (hold_swap hh))
 by_cases he:ld mm (c.word p)=w0
 all_goals
  simp only [he,if_pos,if_neg,decide_true,decide_false,↓reduceIte] at hcas ⊢
  refine wen Tryz.func164 37 ?_
  gi_upto_region 1 with fail
  refine wpIn_wide.2 ?_
  go_region_held3 (fun W=>cpC c p bp W∧W.cell? ⟨bp,8,none⟩=some (.int .u64 w0)) ((first | exact ⟨cpc hd,blkc hd 8 _⟩ | exact ⟨cpc h1,blkc h1 8 _⟩ | exact ⟨cpc h2,blkc h2 8 _⟩ | exact ⟨cpc h3,blkc h3 8 _⟩ | fail)) ((first
   | (have hcon:=word_ok c p hp w.drew; (with_reducible refine hcon.mono ?_); clear hcon; rintro e w1 ⟨rfl,b1⟩; have h1:=hold_keep hd b1)
   | (have hcon:=wGain w0 1 hw0 w1; (with_reducible refine hcon.mono ?_); clear hcon; rintro e w2 ⟨rfl,rfl⟩)
   | (have hcon:=hcas h1; (with_reducible refine hcon.mono ?_); clear hcon; rintro e w3 ⟨rfl,h2⟩; replace h2:=hold_swap h2; have x10:=blkc h2 10 _; have f10:=froz_of (hold_blk h2) 10; have h3:=hold_set 10 (.bool (decide (ld mm (c.word p)=w0))) h2; simp only [he,decide_true,decide_false] at h3)))
 ·have y10:=blkc h3 10 _
  gi_wp2
  exact bodyPost_ret (results_tmp rfl _ _ _) rfl ⟨rfl,tr,h3⟩
 ·have y10:=blkc h3 10 _
  have y11:=blkc h3 11 _
  have g11:=froz_of (hold_blk h3) 11
  obtain ⟨t2,ht2⟩ : ∃ t2,IntKind.i64.wrap (tr+1)=t2:=⟨_,rfl⟩
  have h4:=hold_set 11 (.int .i64 t2) h3
  gi_wp2
  exact bodyPost_ret (results_tmp rfl _ _ _) rfl ⟨rfl,t2,h4⟩
abbrev gwL:List Value:=[.nilFunc,.func (.func 162) #[] #[],.func (.func 163) #[] #[],.func (.func 164) #[] #[]]
set_option maxHeartbeats 1000000 in
theorem gstep (n:Nat) {st:Nat} (h1:1≤st∧st≤3) {f:FuncId} (hf:gwL[st]? = some (.func (.func f) #[] #[])) {Q:Int→World→Prop} (hc:∀ W l,Ev.Hold ctx (geB c p bp (st:Int) w0 sn has tr::memA bm mm::l::r) W→Calls Tryz.prog f #[.pointer (some ⟨bp,0,none⟩),.pointer (some ⟨bm,0,none⟩)] W fun e w'=>∃ st2,e=.returned (.int .i64 st2)∧(∃ v,w'.cell? ⟨bp,7,none⟩=some v)∧w'.frozen? ⟨bp,7,none⟩=false∧(w'.setCell ⟨bp,7,none⟩ (.int .i64 st2)).cell? ⟨bp,7,none⟩=some (.int .i64 st2)∧Q st2 (w'.setCell ⟨bp,7,none⟩ (.int .i64 st2)))
  (h:Ev.Hold ctx (geB c p bp (st:Int) w0 sn has tr::memA bm mm::r) w) : CallsIn Fence.wide n Tryz.prog 161 #[.pointer (some ⟨bp,0,none⟩),.pointer (some ⟨bm,0,none⟩)] w fun e w'=>∃ st2,e=.returned (.bool (decide (st2=0)))∧Q st2 w':=by
 have hdn:=gdone (n - 1) (blkc h 7 _)
 obtain ⟨b1,W1,hb1,hW1,g1⟩:=newN [.nilFunc,.nilFunc,.nilFunc,.nilFunc] 238 h
 obtain ⟨W2,s2,g2⟩:=st_all (t := 238) (cs':=gwL) g1 rfl (by simp [Value.oneCell']) (by kernel_rfl)
 have q7:=blkc (hold_up [_] g2) 7 _
 have q0:=blkc g2 1 _
 have q1:=blkc g2 2 _
 have q2:=blkc g2 3 _
 replace g2:=hsel [_,_,_] g2 [1,2,0]
 obtain rfl | rfl | rfl:st=1∨st=2∨st=3:=by omega
 all_goals
  cases hf
  refine wen Tryz.func161 24 ?_
  gi_wp2
  refine wcl (hdn) ?_
  rintro e w1 ⟨rfl,rfl⟩
  gi_wp2_with (refine wpListIn_store_run rfl _ _ _ rfl s2 rfl rfl ?_)
  refine wcw (hc W2 _ g2) ?_
  rintro e w3 ⟨st2,rfl,⟨v7,z7⟩,f7,y7,hQ⟩
  have hb:(st2 == 0)=decide (st2=0):=by
   by_cases e:st2=0 <;> simp [e]
  gi_wp2
  exact bodyPost_ret (results_tmp rfl _ _ _) rfl ⟨st2,by simp,hQ⟩
theorem get_stepH (n:Nat) (hp:p < c.n) {x:GetS} (hx:GetOk x) (h0:x.st ≠ 0) (hm:MemOk c mm) (h:Ev.Hold ctx (getA c p bp x::memA bm mm::r) w) :
  CallsIn Fence.wide n Tryz.prog 161 #[.pointer (some ⟨bp,0,none⟩),.pointer (some ⟨bm,0,none⟩)] w fun e w'=>e=.returned (.bool (decide ((getStep c p x mm).1.st=0)))∧Ev.Hold ctx (getA c p bp (getStep c p x mm).1::memA bm (getStep c p x mm).2::r) w':=by
 obtain ⟨tr,hh⟩:=get_open h
 obtain ⟨st,ww,sn,has⟩:=x
 obtain rfl:has=false:=hx.has h0
 have hst:st < 4:=hx.st
 have hw0:U64 ww:=hx.w
 replace h0:st ≠ 0:=h0
 have fin:∀ {st2 w2 sn2 tr2:Int} {has2:Bool} {M:MemM} {l:Ev.Asr} {W:World} {y:GetS},Ev.Hold ctx (geB c p bp (st:Int) w2 sn2 has2 tr2::memA bm M::l::r) W→y=⟨y.st,w2,sn2,has2⟩→st2=(y.st:Int) →
   (∃ v,W.cell? ⟨bp,7,none⟩=some v)∧W.frozen? ⟨bp,7,none⟩=false∧(W.setCell ⟨bp,7,none⟩ (.int .i64 st2)).cell? ⟨bp,7,none⟩=some (.int .i64 st2)∧(decide (st2=0)=decide (y.st=0)∧Ev.Hold ctx (getA c p bp y::memA bm M::r) (W.setCell ⟨bp,7,none⟩ (.int .i64 st2))):=fun {st2 w2 sn2 tr2 has2 M l W y} hW hy hs=>by
  have h1:=hold_set 7 (.int .i64 st2) hW
  refine ⟨⟨_,blkc hW 7 _⟩,froz_of (hold_blk hW) 7,blkc h1 7 _,?_,get_close (tr:=tr2) ?_⟩
  ·rw [hs]
   simp
  ·rw [hy]
   subst hs
   exact hsel [_,_,_] h1 [0,1]
 have key:∀ W l f,gwL[st]? = some (.func (.func f) #[] #[])→Ev.Hold ctx (geB c p bp (st:Int) ww sn false tr::memA bm mm::l::r) W→Calls Tryz.prog f #[.pointer (some ⟨bp,0,none⟩),.pointer (some ⟨bm,0,none⟩)] W fun e w'=>∃ st2,e=.returned (.int .i64 st2)∧(∃ v,w'.cell? ⟨bp,7,none⟩=some v)∧w'.frozen? ⟨bp,7,none⟩=false∧(w'.setCell ⟨bp,7,none⟩ (.int .i64 st2)).cell? ⟨bp,7,none⟩=some (.int .i64 st2)∧(decide (st2=0)=decide ((getStep c p ⟨st,ww,sn,false⟩ mm).1.st=0)∧Ev.Hold ctx (getA c p bp (getStep c p ⟨st,ww,sn,false⟩ mm).1::memA bm (getStep c p ⟨st,ww,sn,false⟩ mm).2::r) (w'.setCell ⟨bp,7,none⟩ (.int .i64 st2))):=by
  intro W l f hf hW
  obtain rfl | rfl | rfl:st=1∨st=2∨st=3:=by omega
  all_goals cases hf
  ·refine callsIn_wide.1 ((glook 0 hp hm hW).mono ?_)
   rintro e w1 ⟨rfl,h1⟩
   by_cases e:szW (ld mm (c.word p))=0∨(c.q:Int) < szW (ld mm (c.word p))
   ·rw [if_pos e,show getStep c p ⟨1,ww,sn,false⟩ mm=(⟨0,ld mm (c.word p),sn,false⟩,mm.tick) by simp only [getStep,if_pos e]]
    exact ⟨0,rfl,fin (y:=⟨0,_,_,_⟩) h1 rfl rfl⟩
   ·rw [if_neg e,show getStep c p ⟨1,ww,sn,false⟩ mm=(⟨2,ld mm (c.word p),sn,false⟩,mm.tick) by simp only [getStep,if_neg e]]
    exact ⟨2,rfl,fin (y:=⟨2,_,_,_⟩) h1 rfl rfl⟩
  ·refine callsIn_wide.1 ((gcopy 0 hp hm hw0 hW).mono ?_)
   rintro e w1 ⟨rfl,h1⟩
   exact ⟨3,rfl,fin (y:=⟨3,_,_,_⟩) h1 rfl rfl⟩
  ·refine callsIn_wide.1 ((ggain 0 hp hm hw0 hW).mono ?_)
   rintro e w1 ⟨rfl,tr',h1⟩
   by_cases e:ld mm (c.word p)=ww
   ·rw [show getStep c p ⟨3,ww,sn,false⟩ mm=(⟨0,ww,sn,true⟩,mm.put (c.word p) (gnW ww 1)) by simp only [getStep,if_pos e]]
    rw [if_pos e,decide_eq_true e] at h1
    rw [if_pos e]
    exact ⟨0,rfl,fin (y:=⟨0,_,_,_⟩) h1 rfl rfl⟩
   ·rw [show getStep c p ⟨3,ww,sn,false⟩ mm=(⟨1,ww,sn,false⟩,mm.tick) by simp only [getStep,if_neg e]]
    rw [if_neg e,decide_eq_false e] at h1
    rw [if_neg e]
    exact ⟨1,rfl,fin (y:=⟨1,_,_,_⟩) h1 rfl rfl⟩
 obtain ⟨f,hf⟩ : ∃ f,gwL[st]? = some (.func (.func f) #[] #[]):=by
  obtain rfl | rfl | rfl:st=1∨st=2∨st=3:=by omega
  all_goals exact ⟨_,rfl⟩
 refine (gstep (Q:=fun st2 W=>decide (st2=0)=decide ((getStep c p ⟨st,ww,sn,false⟩ mm).1.st=0)∧Ev.Hold ctx (getA c p bp (getStep c p ⟨st,ww,sn,false⟩ mm).1::memA bm (getStep c p ⟨st,ww,sn,false⟩ mm).2::r) W) n (by omega) hf (fun W l hW=>key W l f hf hW) hh).mono ?_
 rintro e w1 ⟨st2,rfl,h1,h2⟩
 exact ⟨by rw [h1],h2⟩
theorem got_get (n:Nat) {x:GetS} (h:Ev.Hold ctx (getA c p bp x::r) w) :
  CallsIn Fence.wide n Tryz.prog 68 #[.pointer (some ⟨bp,0,none⟩)] w fun e w'=>e=.returned (.tuple #[.int .i64 (if x.has then x.sn else 0),.bool x.has])∧Ev.Hold ctx (getA c p bp x::r) w':=by
 obtain ⟨tr,hh⟩:=get_open h
 obtain ⟨st,ww,sn,has⟩:=x
 have x9:=blkc hh 9 _
 have x10:=blkc hh 10 _
 cases has
 all_goals
  refine wen Tryz.func68 16 ?_
  gi_wp2
  exact bodyPost_ret (results_two rfl _) rfl ⟨rfl,get_close hh⟩
theorem hands_get (n:Nat) {x:GetS} (h:Ev.Hold ctx (getA c p bp x::r) w) :
  CallsIn Fence.wide n Tryz.prog 160 #[.pointer (some ⟨bp,0,none⟩)] w fun e w'=>∃ v,e=.returned v∧Ev.Hold ctx (isA v (if x.has then [x.sn] else [])::getA c p bp x::r) w':=by
 have hg:=got_get (n - 1) h
 obtain ⟨st,ww,sn,has⟩:=x
 cases has
 all_goals
  refine wen Tryz.func160 13 ?_
  gi_wp2
  refine wcl (hg) ?_
  rintro e w1 ⟨rfl,h1⟩
 ·gi_wp2
  exact bodyPost_ret (results_tmp rfl _ _ _) rfl ⟨.slice none 0 0,rfl,h1.nilSl⟩
 ·have h2:=blk_isA (hold_new [.int .i64 sn] 3 h1)
  gi_wp2
  exact bodyPost_ret (results_tmp rfl _ _ _) rfl ⟨.slice (some ⟨w1.heap.size,0,none⟩) 1 1,rfl,h2⟩
theorem rgetnew (n:Nat) (hp:p < c.n) (h:Ev.Hold ctx r w) :
  CallsIn Fence.wide n Tryz.prog 34 #[c.v,.int .i64 (p:Int)] w fun e w'=>∃ bp,e=.returned (.pointer (some ⟨bp,0,none⟩))∧Ev.Hold ctx (getA c p bp newGet::r) w':=by
 obtain ⟨b1,W1,hb1,hW1,g1⟩:=newN [.int .i64 (c.n:Int),.int .i64 (c.q:Int),.int .i64 c.g,.int .i64 c.m,.int .i64 c.t,.int .i64 c.s] 23 h
 obtain ⟨k0,k1,k2,k3,k4,k5⟩:=cf6c (l:=[]) g1
 refine wen Tryz.func34 13 ?_
 gi_wp2
 refine wcw (word_ok c p hp _) ?_
 rintro e w2 ⟨rfl,b2⟩
 have h0:(0:Int)≤((c.word p:Nat) : Int):=by omega
 have g2:=hold_keep g1 b2
 clear k0 k1 k2 k3 k4 k5 hb1 hW1
 obtain ⟨k0,k1,k2,k3,k4,k5⟩:=cf6c (l:=[]) g2
 obtain ⟨b3,W3,hb3,hW3,g3⟩:=newN (cpL c p [.int .i64 1,.int .u64 0,.int .i64 0,.bool false,.int .i64 0]) 150 g2
 gi_wp2
 exact bodyPost_ret (results_tmp rfl _ _ _) rfl ⟨b3,rfl,get_close (x:=newGet) (tr:=0) (hsel [_,_] g3 [0])⟩
end
end Go.Proofs.YtkmccgombmogmaaGreat
namespace Go.Proofs.YtkmccgombmogmaaGreat
open Go.RowKit
set_option linter.unusedVariables false
set_option linter.unusedSimpArgs false
end Go.Proofs.YtkmccgombmogmaaGreat
namespace Go.Proofs.YtkmccgombmogmaaGreat
open Go.RowKit
set_option linter.unusedVariables false
set_option linter.unusedSimpArgs false
set_option maxRecDepth 8000
abbrev g10L (c:Cfg) (p:Nat) (st w0 sn gt:Int) (has:Bool) (tr:Int) : List Value:=cpL c p [.int .i64 st,.int .u64 w0,.int .i64 sn,.int .i64 gt,.bool has,.int .i64 tr]
def g10 (c:Cfg) (p:Nat) (x:GetS) (gt tr:Int) : Array Value:=(g10L c p (x.st:Int) x.w x.sn gt x.has tr).toArray
abbrev g10Z:List Value:=[.int .i64 0,.int .i64 0,.int .i64 0,.int .i64 0,.int .i64 0,.int .i64 0,.int .i64 0,.int .i64 0,.int .u64 0,.int .i64 0,.int .i64 0,.bool false,.int .i64 0]
abbrev m06 (b:Nat) (rv:Value) (ops:Int) : Ev.Asr:=Ev.blkA b [rv,.int .u64 ops] 53
section
variable {ctx:Ev.Ctx} {w:World} {r:List Ev.Asr} {c:Cfg} {p:Nat} {m:MemM} {rv:Value}
abbrev H10 (c:Cfg) (p b1 b2 b3 b4:Nat) (L:List Value) (rv:Value) (cs:List Int) (ops:Int) (r:List Ev.Asr) : List Ev.Asr:=Ev.blkA b1 L 108 :: m06 b2 rv ops::Ev.blkA b3 g10Z 108 :: m06 b4 (.slice none 0 0) 0::uA rv cs::r
set_option maxHeartbeats 8000000 in
theorem get10H (n:Nat) (hp:p < c.n) {u:GetS} (hu:GetOk u) (h0:u.st ≠ 0) (hm:MemOk c m) (hz:szW (ld m (c.word p))≤(c.q:Int)) (gt tr:Int) (h:Ev.Hold ctx (uA rv m.cells::r) w) :
  CallsIn Fence.wide n Tryz.prog 55 #[.agg (g10 c p u gt tr),.agg #[rv,.int .u64 m.ops]] w fun e w'=>∃ v gt' tr',e=.returned (.tuple #[.agg (g10 c p (getStep c p u m).1 gt' tr'),.agg #[v,.int .u64 (getStep c p u m).2.ops]])∧((getStep c p u m).1.has=true→gt'=(getStep c p u m).1.sn)∧Ev.Hold ctx (uA v (getStep c p u m).2.cells::r) w':=by
 obtain ⟨av,ak,rfl⟩:=slr_val (hold_slr h)
 have hst:=hu.st
 have hw0:U64 u.w:=hu.w
 obtain ⟨st,w0,sn,has⟩:=u
 obtain rfl:has=false:=hu.has h0
 dsimp only at hst hw0 h0
 have hbig:=hm.big
 obtain ⟨b1,W1,hb1,hW1,q1⟩:=newN (g10L c p (st:Int) w0 sn gt false tr) 108 h
 obtain ⟨b2,W2,hb2,hW2,q2⟩:=newN [.slice av m.cells.length ak,.int .u64 m.ops] 53 q1
 obtain ⟨b3,W3,hb3,hW3,q3⟩:=newN g10Z 108 q2
 obtain ⟨b4,W4,hb4,hW4,q4⟩:=newN [.slice none 0 0,.int .u64 0] 53 q3
 have g0:Ev.Hold ctx (H10 c p b1 b2 b3 b4 (g10L c p (st:Int) w0 sn gt false tr) (.slice av m.cells.length ak) m.cells m.ops r) W4:=hsel [_,_,_,_,_] q4 [3,2,1,0,4]
 clear q1 q2 q3 q4
 have gd:=hold_keep g0 (Below.refl _ _).drew
 have hq:IntKind.u32.wrap (c.q:Int)=(c.q:Int):=by have:=c.qb; rw [wrap32]; omega
 obtain ⟨Y,hY⟩ : ∃ Y,getStep c p ⟨st,w0,sn,false⟩ m=Y:=⟨_,rfl⟩
 have eg:g10 c p ⟨st,w0,sn,false⟩ gt tr=(g10L c p (st:Int) w0 sn gt false tr).toArray:=rfl
 rw [eg,hY]
 clear eg
 refine wen Tryz.func55 97 ?_
 gi_upto_region 1 with fail
 refine wpIn_wide.2 ?_
 go_region_held3 (fun W=>W.cell? ⟨b1,8,none⟩=some (.int .u64 w0)) ((first | exact blkc gd 8 _ | fail)) ((first
  | (have hcon:=rHead w0 hw0 W4.drew; (with_reducible refine hcon.mono ?_); clear hcon; rintro e w1 ⟨rfl,rfl⟩)
  | (have hcon:=rTail w0 hw0 W4.drew; (with_reducible refine hcon.mono ?_); clear hcon; rintro e w1 ⟨rfl,rfl⟩)))
 clear hW1 hW2 hW3 hW4 hb1 hb2 hb3 hb4 g0
 obtain ⟨W5,hW5⟩ : ∃ W5,W4.drew=W5:=⟨_,rfl⟩
 rw [hW5] at gd ⊢
 clear hW5
 have x7:=blkc gd 7 _
 gi_upto_region 3 with fail
 have hd:=hold_keep gd (Below.refl _ _).drew
 have y0:=blkc (hold_up [_] hd) 0 _
 have y1:=blkc (hold_up [_] hd) 1 _
 obtain ⟨ops',ho'⟩ : ∃ o,IntKind.u64.wrap (m.ops+1)=o:=⟨_,rfl⟩
 obtain rfl | rfl | rfl:st=1∨st=2∨st=3:=by omega
 ·
  obtain ⟨x,hxe⟩ : ∃ x,ld m (c.word p)=x:=⟨_,rfl⟩
  obtain ⟨hx,-⟩:=hm.at_ (hm.lt_word hp)
  have hu:=(hm.get (hm.lt_word hp)).2
  rw [hxe] at hx hz hu
  gi_upto_region 4 with fail
  gi_cut [] from 13 (fun wx=>∃ rv',Ev.Hold ctx (H10 c p b1 b2 b3 b4 (g10L c p 1 x sn gt false tr) rv' m.cells ops' r) wx)
  case first =>
   refine wpIn_wide.2 ?_
   refine wp_region_noPanic ?_
   refine wp_region_B (fun W=>cpC c p b1 W∧W.cell? ⟨b2,0,none⟩=some (.slice av m.cells.length ak)∧W.cell? ⟨b2,1,none⟩=some (.int .u64 m.ops)) 10 (by kernel_rfl) ?_ (fun hHeld=>?_)
   ·(try dsimp only); (first | exact ⟨cpc hd,blkc (hold_up [_] hd) 0 _,blkc (hold_up [_] hd) 1 _⟩ | exact ⟨cpc h1,blkc (hold_up [_] h1) 0 _,blkc (hold_up [_] h1) 1 _⟩ | exact ⟨cpc h2,blkc (hold_up [_] h2) 0 _,blkc (hold_up [_] h2) 1 _⟩)
   refine takeB (i:=0) (v:=?_) (Or.inl ⟨by kernel_rfl,?_⟩) (by assumption) ?_
   rotate_left
   ·intro w hSw; (try dsimp only at hSw); go_simp; try with_reducible rfl
   try simp only [Act.put,List.setIfInBounds_toArray,List.set_cons_zero,List.set_cons_succ]
   refine takeB0 (i:=1) (v:=?_) (Or.inl ⟨by kernel_rfl,?_⟩) (by assumption) ?_
   rotate_left
   ·intro w _; go_simp; try with_reducible rfl
   try simp only [Act.put,List.setIfInBounds_toArray,List.set_cons_zero,List.set_cons_succ]
   refine takeB (i:=2) (v:=?_) (Or.inl ⟨by kernel_rfl,?_⟩) (by assumption) ?_
   rotate_left
   ·intro w hSw; (try dsimp only at hSw); go_simp; try with_reducible rfl
   try simp only [Act.put,List.setIfInBounds_toArray,List.set_cons_zero,List.set_cons_succ]
   refine takeB0 (i:=3) (v:=?_) (Or.inl ⟨by kernel_rfl,?_⟩) (by assumption) ?_
   rotate_left
   ·intro w _; go_simp; try with_reducible rfl
   try simp only [Act.put,List.setIfInBounds_toArray,List.set_cons_zero,List.set_cons_succ]
   refine takeB (i:=4) (v:=?_) (Or.inl ⟨by kernel_rfl,?_⟩) (by assumption) ?_
   rotate_left
   ·intro w hSw; (try dsimp only at hSw); go_simp; try with_reducible rfl
   try simp only [Act.put,List.setIfInBounds_toArray,List.set_cons_zero,List.set_cons_succ]
   refine nextB (i:=5) (ho:=rfl) (fun K hK=>?_)
   go_simp
   (have hcon:=rWord_ok c p hp W5.drew; (with_reducible refine hcon.mono ?_); clear hcon; rintro e w1 ⟨rfl,b1'⟩; have h1:=hold_keep hd b1'; have z0:=blkc (hold_up [_] h1) 0 _; have z1:=blkc (hold_up [_] h1) 1 _)
   first | refine hK.out _ _ ?_ (fun hHeld=>?_) | (go_wp2_with fail; refine hK.out _ _ ?_ (fun hHeld=>?_))
   ·(try dsimp only); (first | exact ⟨cpc hd,blkc (hold_up [_] hd) 0 _,blkc (hold_up [_] hd) 1 _⟩ | exact ⟨cpc h1,blkc (hold_up [_] h1) 0 _,blkc (hold_up [_] h1) 1 _⟩ | exact ⟨cpc h2,blkc (hold_up [_] h2) 0 _,blkc (hold_up [_] h2) 1 _⟩)
   clear hK K
   try simp only [Act.put,List.setIfInBounds_toArray,List.set_cons_zero,List.set_cons_succ]
   refine nextB (i:=6) (ho:=rfl) (fun K hK=>?_)
   go_simp
   (have hcon:=callsIn_wide.1 (rload_in 0 (ops:=m.ops) hx (hold_up [_,_,_,_] h1)); rw [ho'] at hcon; (with_reducible refine hcon.mono ?_); clear hcon; rintro e w2 ⟨rfl,h2⟩; replace h2:=hold_dn [_,_,_,_] h2; have x20:=blkc (hold_up [_] h2) 0 _; have x21:=blkc (hold_up [_] h2) 1 _; have f20:=froz_of (hold_blk (hold_up [_] h2)) 0; have f21:=froz_of (hold_blk (hold_up [_] h2)) 1; have h3:=hold_dn [_] (hold_set 1 (.int .u64 ops') (hold_set 0 (.slice av m.cells.length ak) (hold_up [_] h2))); have x8:=blkc h2 8 _; have f8:=froz_of (hold_blk h2) 8; have h4:=hold_set 8 (.int .u64 x) h3)
   first | refine hK.out _ _ ?_ (fun hHeld=>?_) | (go_wp2_with fail; refine hK.out _ _ ?_ (fun hHeld=>?_))
   ·(try dsimp only); (first | exact ⟨cpc hd,blkc (hold_up [_] hd) 0 _,blkc (hold_up [_] hd) 1 _⟩ | exact ⟨cpc h1,blkc (hold_up [_] h1) 0 _,blkc (hold_up [_] h1) 1 _⟩ | exact ⟨cpc h2,blkc (hold_up [_] h2) 0 _,blkc (hold_up [_] h2) 1 _⟩)
   clear hK K
   try simp only [Act.put,List.setIfInBounds_toArray,List.set_cons_zero,List.set_cons_succ]
   refine takeB0 (i:=7) (v:=?_) (Or.inl ⟨by kernel_rfl,?_⟩) (by assumption) ?_
   rotate_left
   ·intro w _; go_simp; try with_reducible rfl
   try simp only [Act.put,List.setIfInBounds_toArray,List.set_cons_zero,List.set_cons_succ]
   refine takeB0 (i:=8) (v:=?_) (Or.inl ⟨by kernel_rfl,?_⟩) (by assumption) ?_
   rotate_left
   ·intro w _; go_simp; try with_reducible rfl
   try simp only [Act.put,List.setIfInBounds_toArray,List.set_cons_zero,List.set_cons_succ]
   refine takeB0 (i:=9) (v:=?_) (Or.inl ⟨by kernel_rfl,?_⟩) (by assumption) ?_
   rotate_left
   ·intro w _; go_simp; try with_reducible rfl
   try simp only [Act.put,List.setIfInBounds_toArray,List.set_cons_zero,List.set_cons_succ]
   refine lastB (i:=10) (ho:=rfl) (fun K hK=>?_)
   go_simp
   refine hK.out _ _ ?_
   clear hK K
   try simp only [Act.put,List.setIfInBounds_toArray,List.set_cons_zero,List.set_cons_succ]
   refine lastB (i:=11) (ho:=rfl) (fun K hK=>?_)
   go_simp
   refine hK.out _ _ ?_
   clear hK K
   try simp only [Act.put,List.setIfInBounds_toArray,List.set_cons_zero,List.set_cons_succ]
   refine lastB (i:=12) (ho:=rfl) (fun K hK=>?_)
   go_simp
   refine hK.out _ _ ?_
   clear hK K
   try simp only [Act.put,List.setIfInBounds_toArray,List.set_cons_zero,List.set_cons_succ]
   refine (doneB (h:=?_) (hr:=by kernel_rfl)) _
   refine NoPanic.normal ?_
   all_goals
    gi_wp2
    gi_meet
    case rel=>exact ⟨_,h4⟩
  case rest =>
   obtain ⟨rv',g1⟩:=hcut
   obtain ⟨av',ak',rfl⟩:=slr_val (hold_slr (hold_drop (r:=[_,_,_,_]) g1))
   clear gd hx hd y0 y1
   have x8:=blkc g1 8 _
   have x1:=blkc g1 1 _
   have x7:=blkc g1 7 _
   have f7:=froz_of (hold_blk g1) 7
   have g2:=hold_set 7 (.int .i64 2) g1
   have y8:=blkc g2 1 _
   have y7:=blkc g2 7 _
   have i7:=froz_of (hold_blk g2) 7
   have g3:=hold_set 7 (.int .i64 0) g2
   gi_wp2
   refine wcw (rSize x hu _) ?_
   rintro e w6 ⟨rfl,rfl⟩
   by_cases e:szW x=0
   ·have hb:(szW x == 0)=true:=by simpa using e
    have hs:Aside (Y=(⟨0,x,sn,false⟩,⟨m.cells,ops'⟩)):=by show Y=_; rw [← hY]; simp only [getStep,hxe,if_pos (Or.inl e),MemM.tick,ho']
    gi_upto_region 23 with fail
    refine wpIn_wide.2 (reg2 g3 (fun w' hw'=>?_) Tryz.underlying108 Tryz.underlying53 rfl rfl rfl rfl rfl rfl rfl rfl rfl rfl rfl)
    gi_wp2
    exact post_cell2 rfl rfl rfl rfl (lv_all (hold_up [_,_] hw') Tryz.underlying108 rfl (by kernel_rfl)) (lv_all (hold_up [_,_,_] hw') Tryz.underlying53 rfl (by kernel_rfl)) (by rw [hs.out]; first | exact ⟨_,gt,tr,rfl,fun h=>(by cases h),hold_drop (r:=[_,_,_,_]) hw'⟩ | exact ⟨_,gt,⟨tr,rfl⟩,fun h=>(by cases h),hold_drop (r:=[_,_,_,_]) hw'⟩)
   ·have hb:(szW x == 0)=false:=by simpa using e
    have hs:Aside (Y=(⟨2,x,sn,false⟩,⟨m.cells,ops'⟩)):=by show Y=_; rw [← hY]; simp only [getStep,hxe,if_neg (not_or.2 ⟨e,show ¬ (c.q:Int) < szW x by omega⟩),MemM.tick,ho']
    gi_upto_region 23 with fail
    refine wpIn_wide.2 (reg2 g2 (fun w' hw'=>?_) Tryz.underlying108 Tryz.underlying53 rfl rfl rfl rfl rfl rfl rfl rfl rfl rfl rfl)
    gi_wp2
    exact post_cell2 rfl rfl rfl rfl (lv_all (hold_up [_,_] hw') Tryz.underlying108 rfl (by kernel_rfl)) (lv_all (hold_up [_,_,_] hw') Tryz.underlying53 rfl (by kernel_rfl)) (by rw [hs.out]; first | exact ⟨_,gt,tr,rfl,fun h=>(by cases h),hold_drop (r:=[_,_,_,_]) hw'⟩ | exact ⟨_,gt,⟨tr,rfl⟩,fun h=>(by cases h),hold_drop (r:=[_,_,_,_]) hw'⟩)
 ·
  obtain ⟨x,hxe⟩ : ∃ x,ld m (c.slot p (hdW w0))=x:=⟨_,rfl⟩
  obtain ⟨hx,-⟩:=hm.at_ (hm.lt_slot hp (hdW w0))
  rw [hxe] at hx
  have h00:=(hdW_bd hw0).1
  gi_upto_region 10 with fail
  gi_cut [9,10] from 13 (fun s9 s10 wx=>∃ b9,s9=.pointer (some ⟨b9,0,none⟩)∧s10=.int .u64 x∧Ev.Hold ctx (m06 b9 (.slice av m.cells.length ak) ops'::H10 c p b1 b2 b3 b4 (g10L c p 2 w0 sn gt false tr) (.slice av m.cells.length ak) m.cells m.ops r) wx)
  case first =>
   have hP:∀ {R:List Ev.Asr} {W:World},Ev.Hold ctx (Ev.blkA b1 (g10L c p 2 w0 sn gt false tr) 108 :: m06 b2 (.slice av m.cells.length ak) m.ops::R) W→cpC c p b1 W∧W.cell? ⟨b2,0,none⟩=some (.slice av m.cells.length ak)∧W.cell? ⟨b2,1,none⟩=some (.int .u64 m.ops):=fun hh=>⟨cpc hh,blkc (hold_up [_] hh) 0 _,blkc (hold_up [_] hh) 1 _⟩
   have hX:∀ {q:Ev.Asr} {R:List Ev.Asr} {W:World},Ev.Hold ctx (q::Ev.blkA b1 (g10L c p 2 w0 sn gt false tr) 108 :: m06 b2 (.slice av m.cells.length ak) m.ops::R) W→cpC c p b1 W∧W.cell? ⟨b2,0,none⟩=some (.slice av m.cells.length ak)∧W.cell? ⟨b2,1,none⟩=some (.int .u64 m.ops):=fun hh=>hP (hold_drop (r:=[_]) hh)
   have hdN:Ev.Hold ctx (m06 W5.heap.size (.slice none 0 0) 0::H10 c p b1 b2 b3 b4 (g10L c p 2 w0 sn gt false tr) (.slice av m.cells.length ak) m.cells m.ops r) (W5.alloc (.cells #[.slice none 0 0,.int .u64 0] 53)).drew:=hold_new [.slice none 0 0,.int .u64 0] 53 hd
   have cW:=rSlot_ok c p hp (hdW w0) h00
   have cL:∀ {R:List Ev.Asr} {W:World},Ev.Hold ctx (uA (.slice av m.cells.length ak) m.cells::R) W→_:=fun {R W} hh=>callsIn_wide.1 (rload_in (ctx:=ctx) (r:=R) (w:=W) 0 (ops:=m.ops) hx hh)
   rw [ho'] at cL
   refine wpIn_wide.2 ?_
   go_region_held3 (fun W=>cpC c p b1 W∧W.cell? ⟨b2,0,none⟩=some (.slice av m.cells.length ak)∧W.cell? ⟨b2,1,none⟩=some (.int .u64 m.ops)) ((first | exact hP hd | exact hX hdN | exact hP h1 | exact hX h1x | exact hX h1N | exact hP h2 | exact hX h2x | exact hX h2N | exact hX h4 | exact hX h4x | fail)) ((first
    | (have hcon:=cW W5.drew; (with_reducible refine hcon.mono ?_); clear hcon; rintro e w1 ⟨rfl,b1'⟩; (have h1:=hold_keep hd b1'; have h1N:=hold_new [.slice none 0 0,.int .u64 0] 53 h1))
    | (have hcon:=cW (W5.alloc (.cells #[.slice none 0 0,.int .u64 0] 53)).drew; (with_reducible refine hcon.mono ?_); clear hcon; rintro e w1 ⟨rfl,b1'⟩; have h1x:=hold_keep hdN b1')
    | (have hcon:=cL (hold_up [_,_,_,_] h1); (with_reducible refine hcon.mono ?_); clear hcon; rintro e w2 ⟨rfl,h2⟩; replace h2:=hold_dn [_,_,_,_] h2; have h2N:=hold_new [.slice none 0 0,.int .u64 0] 53 h2; have h4:=hold_new [.slice av m.cells.length ak,.int .u64 ops'] 53 h2)
    | (have hcon:=cL (hold_up [_,_,_,_,_] h1x); (with_reducible refine hcon.mono ?_); clear hcon; rintro e w2 ⟨rfl,h2⟩; have h2x:=hold_dn [_,_,_,_,_] h2; have x0:=blkc h2x 0 _; have x1:=blkc h2x 1 _; have f0:=froz_of (hold_blk h2x) 0; have f1:=froz_of (hold_blk h2x) 1; have h4x:=hold_set 1 (.int .u64 ops') (hold_set 0 (.slice av m.cells.length ak) h2x))
    | (have hcon:=cL (hold_up [_,_,_,_,_] h1N); (with_reducible refine hcon.mono ?_); clear hcon; rintro e w2 ⟨rfl,h2⟩; have h2x:=hold_dn [_,_,_,_,_] h2; have x0:=blkc h2x 0 _; have x1:=blkc h2x 1 _; have f0:=froz_of (hold_blk h2x) 0; have f1:=froz_of (hold_blk h2x) 1; have h4x:=hold_set 1 (.int .u64 ops') (hold_set 0 (.slice av m.cells.length ak) h2x))))
   all_goals
    gi_wp2
    gi_meet
    case rel=>first | exact ⟨_,rfl,rfl,h4⟩ | exact ⟨_,rfl,rfl,h4x⟩
  case rest =>
   obtain ⟨b9,rfl,rfl,g1⟩:=hcut
   clear gd hx hd y0 y1 x7
   have a0:=blkc g1 0 _
   have a1:=blkc g1 1 _
   replace g1:=hsel [_,_,_] g1 [1,2,0]
   have c0:=blkc (hold_up [_] g1) 0 _
   have c1:=blkc (hold_up [_] g1) 1 _
   have f0:=froz_of (hold_blk (hold_up [_] g1)) 0
   have f1:=froz_of (hold_blk (hold_up [_] g1)) 1
   have g2:=hold_dn [_] (hold_set 1 (.int .u64 ops') (hold_set 0 (.slice av m.cells.length ak) (hold_up [_] g1)))
   obtain ⟨y,hy⟩ : ∃ y:Int,IntKind.i64.wrap x=y:=⟨_,rfl⟩
   have x9:=blkc g2 9 _
   have f9:=froz_of (hold_blk g2) 9
   have g3:=hold_set 9 (.int .i64 y) g2
   have x7:=blkc g3 7 _
   have f7:=froz_of (hold_blk g3) 7
   have g4:=hold_set 7 (.int .i64 3) g3
   have g5:Ev.Hold ctx (H10 c p b1 b2 b3 b4 (g10L c p 3 w0 y gt false tr) (.slice av m.cells.length ak) m.cells ops' r) _:=hsel [_,_,_,_,_,_] g4 [0,1,3,4,5]
   have hs:Aside (Y=(⟨3,w0,y,false⟩,⟨m.cells,ops'⟩)):=by show Y=_; rw [← hY]; simp only [getStep,hxe,hy,MemM.tick,ho']
   gi_upto_region 23 with fail
   refine wpIn_wide.2 (reg2 g5 (fun w' hw'=>?_) Tryz.underlying108 Tryz.underlying53 rfl rfl rfl rfl rfl rfl rfl rfl rfl rfl rfl)
   gi_wp2
   exact post_cell2 rfl rfl rfl rfl (lv_all (hold_up [_,_] hw') Tryz.underlying108 rfl (by kernel_rfl)) (lv_all (hold_up [_,_,_] hw') Tryz.underlying53 rfl (by kernel_rfl)) (by rw [hs.out]; first | exact ⟨_,gt,tr,rfl,fun h=>(by cases h),hold_drop (r:=[_,_,_,_]) hw'⟩ | exact ⟨_,gt,⟨tr,rfl⟩,fun h=>(by cases h),hold_drop (r:=[_,_,_,_]) hw'⟩)
 ·
  obtain ⟨hx,-⟩:=hm.at_ (hm.lt_word hp)
  obtain ⟨x,hxe⟩ : ∃ x,ld m (c.word p)=x:=⟨_,rfl⟩
  rw [hxe] at hx
  obtain ⟨z,hz'⟩ : ∃ z,decide (x=w0)=z:=⟨_,rfl⟩
  obtain ⟨CS,hCS⟩ : ∃ CS,(if x=w0 then m.cells.set (c.word p) (gnW w0 1) else m.cells)=CS:=⟨_,rfl⟩
  have hlen:CS.length=m.cells.length:=by rw [← hCS]; split <;> simp
  have e3:IntKind.u32.wrap (hdW w0+1)=(hdW w0+1) % 4294967296:=wrap32 _
  gi_upto_region 15 with fail
  gi_cut [11,12] from 13 (fun s9 s10 wx=>∃ b9 a2 k2,s9=.pointer (some ⟨b9,0,none⟩)∧s10=.bool z∧Ev.Hold ctx (m06 b9 (.slice a2 m.cells.length k2) ops'::Ev.blkA b1 (g10L c p 3 w0 sn gt false tr) 108 :: m06 b2 (.slice av m.cells.length ak) m.ops::Ev.blkA b3 g10Z 108 :: m06 b4 (.slice none 0 0) 0::uA (.slice a2 m.cells.length k2) CS::r) wx)
  case first =>
   have hP:∀ {R:List Ev.Asr} {W:World},Ev.Hold ctx (Ev.blkA b1 (g10L c p 3 w0 sn gt false tr) 108 :: m06 b2 (.slice av m.cells.length ak) m.ops::R) W→cpC c p b1 W∧W.cell? ⟨b2,0,none⟩=some (.slice av m.cells.length ak)∧W.cell? ⟨b2,1,none⟩=some (.int .u64 m.ops)∧W.cell? ⟨b1,8,none⟩=some (.int .u64 w0):=fun hh=>⟨cpc hh,blkc (hold_up [_] hh) 0 _,blkc (hold_up [_] hh) 1 _,blkc hh 8 _⟩
   have hX:∀ {q:Ev.Asr} {R:List Ev.Asr} {W:World},Ev.Hold ctx (q::Ev.blkA b1 (g10L c p 3 w0 sn gt false tr) 108 :: m06 b2 (.slice av m.cells.length ak) m.ops::R) W→cpC c p b1 W∧W.cell? ⟨b2,0,none⟩=some (.slice av m.cells.length ak)∧W.cell? ⟨b2,1,none⟩=some (.int .u64 m.ops)∧W.cell? ⟨b1,8,none⟩=some (.int .u64 w0):=fun hh=>hP (hold_drop (r:=[_]) hh)
   have hdN:Ev.Hold ctx (m06 W5.heap.size (.slice none 0 0) 0::H10 c p b1 b2 b3 b4 (g10L c p 3 w0 sn gt false tr) (.slice av m.cells.length ak) m.cells m.ops r) (W5.alloc (.cells #[.slice none 0 0,.int .u64 0] 53)).drew:=hold_new [.slice none 0 0,.int .u64 0] 53 hd
   have cW:=rWord_ok c p hp
   have cP:=fun W=>rPack ((hdW w0+1) % 4294967296) (tlW w0) (by omega) (tlW_bd w0) W
   rw [show packW ((hdW w0+1) % 4294967296) (tlW w0)=gnW w0 1 from rfl] at cP
   have cL:∀ {R:List Ev.Asr} {W:World},Ev.Hold ctx (uA (.slice av m.cells.length ak) m.cells::R) W→Calls Tryz.prog 85 #[.agg #[.slice av m.cells.length ak,.int .u64 m.ops],.int .i64 ((c.word p:Nat) : Int),.int .u64 w0,.int .u64 (gnW w0 1)] W fun e w'=>∃ a2 k2,e=.returned (.tuple #[.agg #[.slice a2 m.cells.length k2,.int .u64 ops'],.bool z])∧Ev.Hold ctx (uA (.slice a2 m.cells.length k2) CS::R) w':=fun {R W} hh=>by
    refine (callsIn_wide.1 (rcas_in 0 (ops:=m.ops) (by omega) hx w0 (gnW w0 1) hh)).mono ?_
    rintro e w' ⟨al,rfl,h1⟩
    rw [hz',ho']
    rw [hCS] at h1
    obtain ⟨a2,k2,rfl⟩:=slr_val (hold_slr h1)
    rw [hlen] at h1 ⊢
    exact ⟨a2,k2,rfl,h1⟩
   refine wpIn_wide.2 ?_
   go_region_held3 (fun W=>cpC c p b1 W∧W.cell? ⟨b2,0,none⟩=some (.slice av m.cells.length ak)∧W.cell? ⟨b2,1,none⟩=some (.int .u64 m.ops)∧W.cell? ⟨b1,8,none⟩=some (.int .u64 w0)) ((first | exact hP hd | exact hX hdN | exact hP h1 | exact hX h1x | exact hX h1N | exact hP h2 | exact hX h2x | exact hX h2N | exact hX h4 | exact hX h4x | fail)) ((first
    | (have hcon:=cW W5.drew; (with_reducible refine hcon.mono ?_); clear hcon; rintro e w1 ⟨rfl,b1'⟩; (have h1:=hold_keep hd b1'; have h1N:=hold_new [.slice none 0 0,.int .u64 0] 53 h1))
    | (have hcon:=cW (W5.alloc (.cells #[.slice none 0 0,.int .u64 0] 53)).drew; (with_reducible refine hcon.mono ?_); clear hcon; rintro e w1 ⟨rfl,b1'⟩; have h1x:=hold_keep hdN b1')
    | (have hcon:=cP W5.drew; (with_reducible refine hcon.mono ?_); clear hcon; rintro e w1 ⟨rfl,hw1⟩; subst hw1)
    | (have hcon:=cP (W5.alloc (.cells #[.slice none 0 0,.int .u64 0] 53)).drew; (with_reducible refine hcon.mono ?_); clear hcon; rintro e w1 ⟨rfl,hw1⟩; subst hw1)
    | (have hcon:=cP w1; (with_reducible refine hcon.mono ?_); clear hcon; rintro e w1' ⟨rfl,hw1⟩; subst hw1)
    | (have hcon:=cP (w1.alloc (.cells #[.slice none 0 0,.int .u64 0] 53)); (with_reducible refine hcon.mono ?_); clear hcon; rintro e w1' ⟨rfl,hw1⟩; subst hw1)
    | (have hcon:=cL (hold_up [_,_,_,_] h1); (with_reducible refine hcon.mono ?_); clear hcon; rintro e w2 ⟨a2,k2,rfl,h2⟩; replace h2:=hold_dn [_,_,_,_] h2; have h2N:=hold_new [.slice none 0 0,.int .u64 0] 53 h2; have h4:=hold_new [.slice a2 m.cells.length k2,.int .u64 ops'] 53 h2)
    | (have hcon:=cL (hold_up [_,_,_,_,_] h1x); (with_reducible refine hcon.mono ?_); clear hcon; rintro e w2 ⟨a2,k2,rfl,h2⟩; have h2x:=hold_dn [_,_,_,_,_] h2; have x0:=blkc h2x 0 _; have x1:=blkc h2x 1 _; have f0:=froz_of (hold_blk h2x) 0; have f1:=froz_of (hold_blk h2x) 1; have h4x:=hold_set 1 (.int .u64 ops') (hold_set 0 (.slice a2 m.cells.length k2) h2x))
    | (have hcon:=cL (hold_up [_,_,_,_,_] h1N); (with_reducible refine hcon.mono ?_); clear hcon; rintro e w2 ⟨a2,k2,rfl,h2⟩; have h2x:=hold_dn [_,_,_,_,_] h2; have x0:=blkc h2x 0 _; have x1:=blkc h2x 1 _; have f0:=froz_of (hold_blk h2x) 0; have f1:=froz_of (hold_blk h2x) 1; have h4x:=hold_set 1 (.int .u64 ops') (hold_set 0 (.slice a2 m.cells.length k2) h2x))))
   all_goals
    gi_wp2
    gi_meet
    case rel=>first | exact ⟨_,_,_,rfl,rfl,h4⟩ | exact ⟨_,_,_,rfl,rfl,h4x⟩
  case rest =>
   obtain ⟨b9,a2,k2,rfl,rfl,g1⟩:=hcut
   clear gd hx hd y0 y1 x7
   have a0:=blkc g1 0 _
   have a1:=blkc g1 1 _
   replace g1:=hsel [_,_,_] g1 [1,2,0]
   have c0:=blkc (hold_up [_] g1) 0 _
   have c1:=blkc (hold_up [_] g1) 1 _
   have f0:=froz_of (hold_blk (hold_up [_] g1)) 0
   have f1:=froz_of (hold_blk (hold_up [_] g1)) 1
   have g2:=hold_dn [_] (hold_set 1 (.int .u64 ops') (hold_set 0 (.slice a2 m.cells.length k2) (hold_up [_] g1)))
   by_cases he:x=w0
   ·obtain rfl:true=z:=by rw [← hz']; simp [he]
    have x9:=blkc g2 9 _
    have x10:=blkc g2 10 _
    have f10:=froz_of (hold_blk g2) 10
    have g3:=hold_set 10 (.int .i64 sn) g2
    have x11:=blkc g3 11 _
    have f11:=froz_of (hold_blk g3) 11
    have g4:=hold_set 11 (.bool true) g3
    have x7:=blkc g4 7 _
    have f7:=froz_of (hold_blk g4) 7
    have g5:=hold_set 7 (.int .i64 0) g4
    have g6:Ev.Hold ctx (H10 c p b1 b2 b3 b4 (g10L c p 0 w0 sn sn true tr) (.slice a2 m.cells.length k2) CS ops' r) _:=hsel [_,_,_,_,_,_] g5 [0,1,3,4,5]
    have hs:Aside (Y=(⟨0,w0,sn,true⟩,⟨CS,ops'⟩)):=by show Y=_; rw [← hY,← hCS,if_pos he]; simp only [getStep,hxe,if_pos he,MemM.put,ho']
    clear hCS hz' hlen
    gi_upto_region 23 with fail
    refine wpIn_wide.2 (reg2 g6 (fun w' hw'=>?_) Tryz.underlying108 Tryz.underlying53 rfl rfl rfl rfl rfl rfl rfl rfl rfl rfl rfl)
    gi_wp2
    exact post_cell2 rfl rfl rfl rfl (lv_all (hold_up [_,_] hw') Tryz.underlying108 rfl (by kernel_rfl)) (lv_all (hold_up [_,_,_] hw') Tryz.underlying53 rfl (by kernel_rfl)) (by rw [hs.out]; first | exact ⟨_,sn,tr,rfl,fun _=>rfl,hold_drop (r:=[_,_,_,_]) hw'⟩ | exact ⟨_,sn,⟨tr,rfl⟩,fun _=>rfl,hold_drop (r:=[_,_,_,_]) hw'⟩)
   ·obtain rfl:false=z:=by rw [← hz']; simp [he]
    obtain ⟨tr2,ht2⟩ : ∃ t,IntKind.i64.wrap (tr+1)=t:=⟨_,rfl⟩
    have x12:=blkc g2 12 _
    have f12:=froz_of (hold_blk g2) 12
    have g4:=hold_set 12 (.int .i64 tr2) g2
    have x7:=blkc g4 7 _
    have f7:=froz_of (hold_blk g4) 7
    have g5:=hold_set 7 (.int .i64 1) g4
    have g6:Ev.Hold ctx (H10 c p b1 b2 b3 b4 (g10L c p 1 w0 sn gt false tr2) (.slice a2 m.cells.length k2) CS ops' r) _:=hsel [_,_,_,_,_,_] g5 [0,1,3,4,5]
    have hs:Aside (Y=(⟨1,w0,sn,false⟩,⟨CS,ops'⟩)):=by show Y=_; rw [← hY,← hCS,if_neg he]; simp only [getStep,hxe,if_neg he,MemM.tick,ho']
    clear hCS hz' hlen
    gi_upto_region 23 with fail
    refine wpIn_wide.2 (reg2 g6 (fun w' hw'=>?_) Tryz.underlying108 Tryz.underlying53 rfl rfl rfl rfl rfl rfl rfl rfl rfl rfl rfl)
    gi_wp2
    exact post_cell2 rfl rfl rfl rfl (lv_all (hold_up [_,_] hw') Tryz.underlying108 rfl (by kernel_rfl)) (lv_all (hold_up [_,_,_] hw') Tryz.underlying53 rfl (by kernel_rfl)) (by rw [hs.out]; first | exact ⟨_,gt,tr2,rfl,fun h=>(by cases h),hold_drop (r:=[_,_,_,_]) hw'⟩ | exact ⟨_,gt,⟨tr2,rfl⟩,fun h=>(by cases h),hold_drop (r:=[_,_,_,_]) hw'⟩)
end
end Go.Proofs.YtkmccgombmogmaaGreat
namespace Go.Proofs.YtkmccgombmogmaaGreat
open Go.RowKit
set_option linter.unusedVariables false
set_option linter.unusedSimpArgs false
set_option maxRecDepth 8000
abbrev p9L (c:Cfg) (p:Nat) (gg st w0:Int) (tk hd:Value) : List Value:=cpL c p [.int .i64 gg,.int .i64 st,.int .u64 w0,tk,hd]
def p9 (c:Cfg) (p:Nat) (x:PutS) (tk hd:Value) : Array Value:=(p9L c p x.gg (x.st:Int) x.w tk hd).toArray
abbrev p9Z:List Value:=[.int .i64 0,.int .i64 0,.int .i64 0,.int .i64 0,.int .i64 0,.int .i64 0,.int .i64 0,.int .i64 0,.int .i64 0,.int .u64 0,.slice none 0 0,.slice none 0 0]
section
variable {ctx:Ev.Ctx} {w:World} {r:List Ev.Asr} {c:Cfg} {p:Nat} {m:MemM} {rv tk hd:Value}
theorem hname {l:List Ev.Asr} {w:World} (h:Ev.Hold ctx l w) : ∃ V,V=w∧Ev.Hold ctx l V:=⟨w,rfl,h⟩
abbrev H9 (c:Cfg) (p b1 b2 b3 b4:Nat) (L:List Value) (rv:Value) (cs:List Int) (ops:Int) (tk hd:Value) (ts hs:List Int) (r:List Ev.Asr) : List Ev.Asr:=Ev.blkA b1 L 106 :: m06 b2 rv ops::Ev.blkA b3 p9Z 106 :: m06 b4 (.slice none 0 0) 0::uA rv cs::isA tk ts::isA hd hs::r
abbrev Put9 (ctx:Ev.Ctx) (r:List Ev.Asr) (c:Cfg) (p:Nat) (m:MemM) (rv tk hd:Value) (x:PutS) (n:Nat) (w:World) : Prop:=CallsIn Fence.wide n Tryz.prog 53 #[.agg (p9 c p x tk hd),.agg #[rv,.int .u64 m.ops]] w fun e w'=>∃ v tk' hd',e=.returned (.tuple #[.agg (p9 c p (putStep c p x m).1 tk' hd'),.agg #[v,.int .u64 (putStep c p x m).2.ops]])∧Ev.Hold ctx (uA v (putStep c p x m).2.cells::isA tk' (putStep c p x m).1.ts::isA hd' (putStep c p x m).1.hs::r) w'
end
end Go.Proofs.YtkmccgombmogmaaGreat
