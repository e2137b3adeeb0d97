/- Part of a proof: see the last text. -/
import Derived.Test.YtkmccgombmogmaaGreatZk5
import Derived.Test.YtkmccgombmogmaaGreatZk1
import Derived.Test.YtkmccgombmogmaaGreatZk2
import Derived.Laws.OwnMore
import Derived.Test.YtkmccgombmogmaaGreatZk4
namespace Go.Proofs.YtkmccgombmogmaaGreat
open Go.RowKit
set_option linter.unusedVariables false
set_option linter.unusedSimpArgs false
set_option maxRecDepth 8000
def layW (c:Cfg) (p:Nat) (x:LayS) (v:Value) : Ev.Asr where
 p:=fun ι F w=>∃ bp,v=.pointer (some ⟨bp,0,none⟩)∧(layA c p bp x).p ι F w
 keep:=fun ι F w w' hk ⟨bp,e,h⟩=>⟨bp,e,(layA c p bp x).keep ι F w w' hk h⟩
 mono:=fun ι κ F w hle ⟨bp,e,h⟩=>⟨bp,e,(layA c p bp x).mono ι κ F w hle h⟩
structure StealS where
 st:Nat
 w:Int
 bt:List Int
 ly:Option LayS
def StealS.many (x:StealS) : Nat:=match x.ly with | none=>0 | some _=>x.bt.length
def stealStep (c:Cfg) (p v:Nat) (x:StealS) (m:MemM) : StealS×MemM :=
 match x.st with
 | 1=>(⟨if szW (ld m (c.word v))=0∨(c.q:Int) < szW (ld m (c.word v)) then 0 else 2,ld m (c.word v),[],none⟩,m.tick)
 | 2=>(⟨if ((x.bt.length+1:Nat) : Int)=oldN (szW x.w) then 3 else 2,x.w,x.bt++[IntKind.i64.wrap (ld m (c.slot v ((hdW x.w+(x.bt.length:Int)) % 4294967296)))],none⟩,m.tick)
 | 3=>if ld m (c.word v)=x.w then (⟨if x.bt.length=1 then 0 else 4,x.w,x.bt,some ⟨1,0,0,0,x.bt.drop 1⟩⟩,m.put (c.word v) (gnW x.w (oldN (szW x.w)))) else (⟨1,x.w,[],none⟩,m.tick)
 | 4=>match x.ly with
  | some l=>(⟨if (layStep c p l m).1.st=0 then 0 else 4,x.w,x.bt,some (layStep c p l m).1⟩,(layStep c p l m).2)
  | none=>(x,m)
 | _=>(x,m)
structure LayB (x:LayS) : Prop where
 w:U64 x.w
 b:x.k≤64∧x.n≤64
 ls:x.ls.length≤64
 gs:∀ g ∈ x.ls,Gn g
theorem LayOk.base {x:LayS} (h:LayOk x) : LayB x:=⟨h.w,h.b,h.ls,h.gs⟩
structure StealOk (x:StealS) : Prop where
 st:x.st < 5
 w:U64 x.w
 bt:x.bt.length≤64
 gs:∀ g ∈ x.bt,Gn g
 one:x.st=1→x.bt=[]
 no:x.st=1∨x.st=2∨x.st=3→x.ly=none
 two:x.st=2→(x.bt.length:Int) < oldN (szW x.w)∧oldN (szW x.w)≤64
 three:x.st=3→0 < x.bt.length
 four:x.st=4→∃ l,x.ly=some l∧LayOk l∧l.st ≠ 0
 lay:∀ l,x.ly=some l→LayB l∧0 < x.bt.length
def SlotsOk (c:Cfg) (m:MemM) : Prop:=∀ p,p < c.n→∀ i,Gn (ld m (c.slot p i))
theorem gn_wrap {g:Int} (h:Gn g) : IntKind.i64.wrap g=g:=wrap_ok (by have:=h.1; omega) h.2
def stealV (c:Cfg) (p v bp:Nat) (x:StealS) (bv lp:Value) : Ev.Asr:=Ev.blkA bp [.int .i64 (c.n:Int),.int .i64 (c.q:Int),.int .i64 c.g,.int .i64 c.m,.int .i64 c.t,.int .i64 c.s,lp,.int .i64 (p:Int),.int .i64 (v:Int),.int .i64 (x.st:Int),.int .u64 x.w,bv,.int .i64 (x.many:Int)] 156
def stealL (c:Cfg) (p v bp:Nat) (x:StealS) (e:Value×Value) : List Ev.Asr :=
 match x.ly with
 | none=>[stealV c p v bp x e.1 (.pointer none),isA e.1 x.bt]
 | some l=>[stealV c p v bp x e.1 e.2,isA e.1 x.bt,layW c p l e.2]
def stealA (c:Cfg) (p v bp:Nat) (x:StealS) : Ev.Asr:=Ev.exA (fun e:Value×Value=>Ev.leafV e.1=true) (fun e=>Ev.grp (stealL c p v bp x e))
theorem hold_under {ctx:Ev.Ctx} {a:Ev.Asr} {l m:List Ev.Asr} {w:World} (hm:∀ F,Ev.Now l F w→Ev.Now m F w) (h:Ev.Hold ctx (a::l) w) : Ev.Hold ctx (a::m) w:=by
 obtain ⟨F,h1,h2,h3⟩:=h.ex
 obtain ⟨Fa,Fr,k1,k2,k3,k4⟩:=Ev.now_uncons h1
 have q1:=Ev.now_cons k1 (hm _ k2) (fun j hj=>h1.lt j ((k4 j).2 (.inl hj))) k3
 exact ⟨F,Ev.now_same q1 (fun j=>(k4 j).symm),h2,h3⟩
section
variable {w:World} {F:Nat→Prop} {c:Cfg} {p v:Nat} {bp:Nat} {x:StealS} {ctx:Ev.Ctx} {l:List Ev.Asr}
theorem steal_open (h0:x.ly=none) (h:Ev.Hold ctx (stealA c p v bp x::l) w) : ∃ bv,Ev.leafV bv=true∧Ev.Hold ctx (stealV c p v bp x bv (.pointer none)::isA bv x.bt::l) w:=by
 obtain ⟨⟨bv,lp⟩,hl,hh⟩:=h.getX
 have h2:=hh.open
 simp only [stealL,h0] at h2
 exact ⟨bv,hl,h2⟩
theorem steal_close {bv:Value} (h0:x.ly=none) (hl:Ev.leafV bv=true) (h:Ev.Hold ctx (stealV c p v bp x bv (.pointer none)::isA bv x.bt::l) w) : Ev.Hold ctx (stealA c p v bp x::l) w:=by
 refine Ev.Hold.putX (bv,.pointer none) hl (Ev.Hold.shut ?_)
 simp only [stealL,h0]
 exact h
theorem steal_open4 {ls:LayS} (h0:x.ly=some ls) (h:Ev.Hold ctx (stealA c p v bp x::l) w) : ∃ bv bl,Ev.leafV bv=true∧Ev.Hold ctx (layA c p bl ls::stealV c p v bp x bv (.pointer (some ⟨bl,0,none⟩))::isA bv x.bt::l) w:=by
 obtain ⟨⟨bv,lp⟩,hl,hh⟩:=h.getX
 have h2:=hh.open
 simp only [stealL,h0] at h2
 have h3:Ev.Hold ctx (layW c p ls lp::stealV c p v bp x bv lp::isA bv x.bt::l) w:=hold_swap (hold_under (fun F hn=>now_swap hn) h2)
 obtain ⟨bl,e,h4⟩:=h3.headE (b:=fun bl=>layA c p bl ls) (p:=fun bl=>lp=.pointer (some ⟨bl,0,none⟩)) (fun F ⟨bp,e,h⟩=>⟨bp,e,h⟩)
 rw [e] at h4
 exact ⟨bv,bl,hl,h4⟩
theorem steal_close4 {ls:LayS} {bv lp:Value} (h0:x.ly=some ls) (hl:Ev.leafV bv=true) (h:Ev.Hold ctx (stealV c p v bp x bv lp::isA bv x.bt::layW c p ls lp::l) w) : Ev.Hold ctx (stealA c p v bp x::l) w:=by
 refine Ev.Hold.putX (bv,lp) hl (Ev.Hold.shut ?_)
 simp only [stealL,h0]
 exact h
theorem steal_openX (h:Ev.Hold ctx (stealA c p v bp x::l) w) : ∃ bv lp ll,(x.ly=none→lp=.pointer none∧ll=[])∧(∀ ls,x.ly=some ls→ll=[layW c p ls lp])∧Ev.Hold ctx (stealV c p v bp x bv lp::isA bv x.bt::(ll++l)) w∧∀ (l':List Ev.Asr) W,Ev.Hold ctx (stealV c p v bp x bv lp::isA bv x.bt::(ll++l')) W→Ev.Hold ctx (stealA c p v bp x::l') W:=by
 cases hly:x.ly with
 | none =>
  obtain ⟨bv,hl,h1⟩:=steal_open hly h
  exact ⟨bv,.pointer none,[],fun _=>⟨rfl,rfl⟩,fun ls e=>(by cases e),h1,fun l' W hW=>steal_close hly hl hW⟩
 | some ls =>
  obtain ⟨⟨bv,lp⟩,hl,hh⟩:=h.getX
  have h2:=hh.open
  simp only [stealL,hly] at h2
  exact ⟨bv,lp,[layW c p ls lp],fun e=>(by cases e),fun ls' e=>(by cases e; rfl),h2,fun l' W hW=>steal_close4 hly hl hW⟩
end
section
variable {ctx:Ev.Ctx} {w:World} {r:List Ev.Asr} {c:Cfg} {p v bp bm:Nat} {mm:MemM} {st w0 mn:Int} {lp bv:Value} {bt:List Int}
abbrev seB (c:Cfg) (p v bp:Nat) (lp:Value) (st w0:Int) (bv:Value) (mn:Int) : Ev.Asr:=Ev.blkA bp [.int .i64 (c.n:Int),.int .i64 (c.q:Int),.int .i64 c.g,.int .i64 c.m,.int .i64 c.t,.int .i64 c.s,lp,.int .i64 (p:Int),.int .i64 (v:Int),.int .i64 st,.int .u64 w0,bv,.int .i64 mn] 156
abbrev seC (c:Cfg) (v b:Nat) (W:World) : Prop:=W.cell? ⟨b,0,none⟩=some (.int .i64 (c.n:Int))∧W.cell? ⟨b,1,none⟩=some (.int .i64 (c.q:Int))∧W.cell? ⟨b,2,none⟩=some (.int .i64 c.g)∧W.cell? ⟨b,3,none⟩=some (.int .i64 c.m)∧W.cell? ⟨b,4,none⟩=some (.int .i64 c.t)∧W.cell? ⟨b,5,none⟩=some (.int .i64 c.s)∧W.cell? ⟨b,8,none⟩=some (.int .i64 (v:Int))
theorem sec (h:Ev.Hold ctx (seB c p v bp lp st w0 bv mn::r) w) : seC c v bp w:=⟨blkc h 0 _,blkc h 1 _,blkc h 2 _,blkc h 3 _,blkc h 4 _,blkc h 5 _,blkc h 8 _⟩
theorem imk0 {n:Nat} (hn:n≤65536) (h:Ev.Hold ctx r w) : ∃ b w',(Instr.makeSlice 35 (.int .i64 0) (.int .i64 (n:Int))).run Tryz.prog w=.ok (.slice (some ⟨b,0,none⟩) 0 n) w'∧Ev.Hold ctx (isA (.slice (some ⟨b,0,none⟩) 0 n) []::r) w':=by
 obtain ⟨i,hi,hz1,hz0,hz2⟩:=infInt
 have r1:=run_make (P:=Tryz.prog) w 35 3 i (.int .i64 0) Tryz.underlying35 hi hz0 .i64 .i64 0 n (Int.le_refl _) (by omega) (by rw [hz2]; omega) (by omega)
 simp only [Int.toNat_natCast,Int.toNat_zero] at r1
 obtain ⟨cur,hcur⟩ : ∃ cur,madeCells (Value.int .i64 0).cells (n * i.size)=cur:=⟨_,rfl⟩
 rw [hcur] at r1
 have hcs:cur.size=n:=by rw [← hcur,hz1,Nat.mul_one]; exact size_madeCells _ _
 exact ⟨_,_,r1,(hold_new cur.toList 3 h).head (fun F ⟨k1,k2⟩=>⟨rfl,.inr ⟨_,0,n,cur,rfl,k1,by simpa using k2,fun j hj=>by simp at hj,by omega,Nat.zero_le _⟩⟩)⟩
theorem oldN_bd {n:Int} (h:0≤n∧n < 4294967296) : 0≤oldN n∧oldN n < 4294967296:=by unfold oldN; omega
theorem sdone (n:Nat) (h:w.cell? ⟨bp,9,none⟩=some (.int .i64 st)) : CallsIn Fence.wide n Tryz.prog 102 #[.pointer (some ⟨bp,0,none⟩)] w fun e w'=>e=.returned (.bool (decide (st=0)))∧w'=w:=by
 have hb:(st == 0)=decide (st=0):=by
  by_cases e:st=0 <;> simp [e]
 refine wen Tryz.func102 11 ?_
 gi_wp2
 exact bodyPost_ret (results_tmp rfl _ _ _) rfl ⟨by simp,rfl⟩
theorem shalf (n:Nat) (hw0:U64 w0) (h:w.cell? ⟨bp,10,none⟩=some (.int .u64 w0)) : CallsIn Fence.wide n Tryz.prog 171 #[.pointer (some ⟨bp,0,none⟩)] w fun e w'=>e=.returned (.int .i64 (oldN (szW w0)))∧w'=w:=by
 have hb:=szW_bd w0
 have ho:IntKind.i64.wrap (oldN (szW w0))=oldN (szW w0):=wrap_ok (by unfold oldN; omega) (by unfold oldN; omega)
 refine wen Tryz.func171 9 ?_
 gi_wp2
 refine wcw (wLen w0 hw0 _) ?_
 rintro e w1 ⟨rfl,rfl⟩
 gi_wp2
 refine wcw (wOlder (szW w0) hb _) ?_
 rintro e w1 ⟨rfl,rfl⟩
 gi_wp2
 exact bodyPost_ret (results_tmp rfl _ _ _) rfl ⟨rfl,rfl⟩
theorem smany (n:Nat) (h:w.cell? ⟨bp,12,none⟩=some (.int .i64 mn)) : CallsIn Fence.wide n Tryz.prog 100 #[.pointer (some ⟨bp,0,none⟩)] w fun e w'=>e=.returned (.int .i64 mn)∧w'=w:=by
 refine wen Tryz.func100 8 ?_
 gi_wp2
 exact bodyPost_ret (results_tmp rfl _ _ _) rfl ⟨rfl,rfl⟩
theorem slook (n:Nat) (hv:v < c.n) (hm:MemOk c mm) (h:Ev.Hold ctx (seB c p v bp lp st w0 bv mn::memA bm mm::r) w) :
  CallsIn Fence.wide n Tryz.prog 167 #[.pointer (some ⟨bp,0,none⟩),.pointer (some ⟨bm,0,none⟩)] w fun e w'=>e=.returned (.tuple #[])∧∃ bv',Ev.Hold ctx (seB c p v bp lp (if szW (ld mm (c.word v))=0∨(c.q:Int) < szW (ld mm (c.word v)) then 0 else 2) (ld mm (c.word v)) bv' mn::memA bm mm.tick::isA bv' []::r) w':=by
 obtain ⟨hx,ha⟩:=hm.at_ (hm.lt_word hv)
 have hu:=(hm.get (hm.lt_word hv)).2
 obtain ⟨x,hxe⟩ : ∃ x,ld mm (c.word v)=x:=⟨_,rfl⟩
 rw [hxe] at hx hu ⊢
 have z:=c.qb
 have hq:IntKind.u32.wrap (c.q:Int)=(c.q:Int):=by rw [wrap32]; omega
 obtain ⟨y,hy⟩ : ∃ y:Int,(if szW x=0∨(c.q:Int) < szW x then 0 else 2)=y:=⟨_,rfl⟩
 have hy2:(szW x=0∧y=0)∨(¬ szW x=0∧(c.q:Int) < szW x∧y=0)∨(¬ szW x=0∧¬ (c.q:Int) < szW x∧y=2):=by
  split at hy <;> omega
 rw [hy]
 clear hy hxe
 have hd:=hold_keep h (Below.refl _ _).drew
 refine wen Tryz.func167 49 ?_
 gi_upto_region 0 with fail
 refine wpIn_wide.2 ?_
 go_region_held3 (seC c v bp) ((first | exact sec hd | exact sec h1 | exact sec h2 | exact sec (hold_set 10 (.int .u64 x) h2) | fail)) ((first
  | (have hcon:=word_ok c v hv w.drew; (with_reducible refine hcon.mono ?_); clear hcon; rintro e w1 ⟨rfl,b1⟩; have h1:=hold_keep hd b1)
  | (have hcon:=callsIn_wide.1 (load_in 0 hx ha (hold_swap h1)); (with_reducible refine hcon.mono ?_); clear hcon; rintro e w2 ⟨rfl,h2⟩; replace h2:=hold_swap h2; have x8:=blkc h2 10 _; have f8:=froz_of (hold_blk h2) 10)))
 have h3:=hold_set 10 (.int .u64 x) h2
 have y1:=blkc h3 1 _
 obtain ⟨b4,W4,r4,h4⟩:=imk0 (n:=c.q) (by omega) h3
 replace h4:=hold_up [_] h4
 have x11:=blkc h4 11 _
 have f11:=froz_of (hold_blk h4) 11
 have h5:=hold_set 11 (.slice (some ⟨b4,0,none⟩) 0 c.q) h4
 have x9:=blkc h5 9 _
 have f9:=froz_of (hold_blk h5) 9
 have h6:=hold_set 9 (.int .i64 2) h5
 have z10:=blkc h6 10 _
 have z1:=blkc h6 1 _
 have z9:=blkc h6 9 _
 have g9:=froz_of (hold_blk h6) 9
 have h7:=hold_set 9 (.int .i64 0) h6
 gi_wp2
 refine wcw (wLen _ hu _) ?_
 rintro e w3 ⟨rfl,rfl⟩
 rcases hy2 with ⟨e,rfl⟩ | ⟨e,e2,rfl⟩ | ⟨e,e2,rfl⟩
 ·have hb:(szW x == 0)=true:=by simpa using e
  gi_wp2
  exact bodyPost_end (results_none rfl _ _ _) rfl ⟨rfl,_,hsel [_,_,_] h7 [0,2,1]⟩
 ·have hb:(szW x == 0)=false:=by simpa using e
  gi_wp2
  exact bodyPost_end (results_none rfl _ _ _) rfl ⟨rfl,_,hsel [_,_,_] h7 [0,2,1]⟩
 ·have hb:(szW x == 0)=false:=by simpa using e
  gi_wp2
  exact bodyPost_end (results_none rfl _ _ _) rfl ⟨rfl,_,hsel [_,_,_] h6 [0,2,1]⟩
end
end Go.Proofs.YtkmccgombmogmaaGreat
namespace Go.Proofs.YtkmccgombmogmaaGreat
open Go.RowKit
set_option linter.unusedVariables false
set_option linter.unusedSimpArgs false
set_option maxRecDepth 8000
set_option maxHeartbeats 1000000 in
theorem take_in (m:Nat) {c:Cfg} {b:Nat} {x:DqS} {F:Nat→Prop} {w:World} (hq:c.q≤8) (hx:DqOk c x) {n:Nat} (hn:n≤(dqAll c x).length) (h:Ev.Now [dqA c b x] F w) :
  CallsIn Fence.wide m Tryz.prog 98 #[.pointer (some ⟨b,0,none⟩),.int .i64 (n:Int)] w fun e w'=>∃ v,Ev.leafV v=true∧e=.returned v∧Ev.Hold ⟨w,F⟩ [isA v ((dqAll c x).take n),dqA c b ⟨gnW x.w (n:Int),x.sl⟩] w':=by
 refine callsIn_of_wp Tryz.func98 rfl trivial ?_ rfl
 simp only [Tryz.ntmps98,List.size_toArray,List.length_cons,List.length_nil,Nat.reduceAdd,Nat.reduceSub,Array.replicate_succ,Array.replicate_zero,List.push_toArray,List.append_toArray,List.nil_append,List.cons_append]
 have hlen:(dqAll c x).length≤8:=by
  have:=szW_bd x.w
  have:=hx.sz
  simp only [dqAll,List.length_map,List.length_range]
  omega
 gi_wp2
 refine ⟨trivial,fun h=>by simp [Fence.wide] at h,(callsIn_wide.2 (dq_all hq hx h)).mono ?_⟩
 rintro e w1 ⟨v,lv,rfl,hh⟩
 have hsl:=hold_slr hh
 obtain ⟨a0,c0,rfl⟩ : ∃ a k,v=.slice a (dqAll c x).length k:=by
  rcases hsl.2 with ⟨e,a,k,rfl⟩ | ⟨b,off,k,rfl,_⟩
  ·exact ⟨a,k,by rw [e]⟩
  ·exact ⟨_,k,rfl⟩
 have hcut:∀ w,(Instr.sliceAt 35 (.slice a0 (dqAll c x).length c0) none (some (.int .i64 (n:Int))) none).run Tryz.prog w=.ok (Ev.cutV 1 (.slice a0 (dqAll c x).length c0) 0 n) w:=by
  obtain ⟨i0,hi,hz1,hz0,hz2⟩:=infInt
  exact fun w=>Ev.cut_run (kd:=.i64) (.inl ⟨rfl,rfl⟩) rfl hsl Tryz.underlying35 hi hz1 (Nat.zero_le _) hn w
 obtain ⟨sv,lsv,h2⟩:=dq_open (hh.sel [1,0] (by kernel_rfl))
 have hb:=hold_blk h2
 have e0:=cell_of hb 0 _ rfl
 have f0:=froz_of hb 0
 gi_wp2
 refine ⟨trivial,fun h=>by simp [Fence.wide] at h,(callsIn_wide.2 (wGain x.w (n:Int) hx.w w1)).mono ?_⟩
 rintro e w2 ⟨rfl,rfl⟩
 gi_wp2
 have h3:=hold_set 0 (.int .u64 (gnW x.w (n:Int))) h2
 obtain ⟨w4,hw4⟩ : ∃ w4,w1.setCell ⟨b,0,none⟩ (.int .u64 (gnW x.w (n:Int)))=w4:=⟨_,rfl⟩
 rw [hw4] at h3
 have h4:Ev.Hold ⟨w,F⟩ [dqA c b ⟨gnW x.w (n:Int),x.sl⟩,isA (.slice a0 (dqAll c x).length c0) (dqAll c x)] w4:=dq_close (x:=⟨gnW x.w (n:Int),x.sl⟩) lsv h3
 have h5:=(h4.sel [1,0] (by kernel_rfl)).cut0 (hi:=n) hn
 have e5:Ev.slA 3 1 (Ev.cutV 1 (.slice a0 (dqAll c x).length c0) 0 n) n ((ints (dqAll c x)).take (n * 1))=isA (Ev.cutV 1 (.slice a0 (dqAll c x).length c0) 0 n) ((dqAll c x).take n):=by
  unfold isA
  rw [Nat.mul_one,List.length_take,Nat.min_eq_left hn]
  simp [ints,List.map_take]
 rw [e5] at h5
 rw [hw4]
 exact bodyPost_ret (results_tmp rfl _ _ _) rfl ⟨_,Ev.cutV_leaf rfl,rfl,h5⟩
theorem dqAll_len {c:Cfg} {x:DqS} (hx:DqOk c x) : ((dqAll c x).length:Int)=szW x.w:=by
 have:=szW_bd x.w
 simp only [dqAll,List.length_map,List.length_range]
 omega
theorem dlen_in (m:Nat) {c:Cfg} {b:Nat} {x:DqS} {F:Nat→Prop} {w:World} (hx:DqOk c x) (h:Ev.Now [dqA c b x] F w) :
  CallsIn Fence.wide m Tryz.prog 94 #[.pointer (some ⟨b,0,none⟩)] w fun e w'=>e=.returned (.int .i64 (szW x.w))∧w'=w:=by
 obtain ⟨sv,lsv,h2⟩:=dq_open (Ev.Hold.start h)
 have hb:=hold_blk h2
 have e0:=cell_of hb 0 _ rfl
 have hbd:=szW_bd x.w
 have hw:IntKind.i64.wrap (szW x.w)=szW x.w:=wrap_ok (by omega) (by omega)
 have hel:CallsIn Fence.wide (m - 1) Tryz.prog 112 #[.pointer (some ⟨b,0,none⟩)] w fun e w'=>e=.returned (.int .i64 (szW x.w))∧w'=w:=by
  refine callsIn_of_wp Tryz.func112 rfl trivial ?_ rfl
  simp only [Tryz.ntmps112,List.size_toArray,List.length_cons,List.length_nil,Nat.reduceAdd,Nat.reduceSub,Array.replicate_succ,Array.replicate_zero,List.push_toArray,List.append_toArray,List.nil_append,List.cons_append]
  gi_wp2
  refine ⟨trivial,fun h=>by simp [Fence.wide] at h,(callsIn_wide.2 (wLen x.w hx.w w)).mono ?_⟩
  rintro e w2 ⟨rfl,rfl⟩
  gi_wp2
  exact bodyPost_ret (results_tmp rfl _ _ _) rfl ⟨rfl,rfl⟩
 refine callsIn_of_wp Tryz.func94 rfl trivial ?_ rfl
 simp only [Tryz.ntmps94,List.size_toArray,List.length_cons,List.length_nil,Nat.reduceAdd,Nat.reduceSub,Array.replicate_succ,Array.replicate_zero,List.push_toArray,List.append_toArray,List.nil_append,List.cons_append]
 gi_wp2
 refine ⟨trivial,fun h=>by simp [Fence.wide] at h,hel.mono ?_⟩
 rintro e w2 ⟨rfl,rfl⟩
 gi_wp2
 exact bodyPost_ret (results_tmp rfl _ _ _) rfl ⟨rfl,rfl⟩
theorem dget_in (m:Nat) {c:Cfg} {b:Nat} {x:DqS} {F:Nat→Prop} {w:World} (hq:c.q≤8) (hx:DqOk c x) (h:Ev.Now [dqA c b x] F w) :
  CallsIn Fence.wide m Tryz.prog 67 #[.pointer (some ⟨b,0,none⟩)] w fun e w'=>e=.returned (.tuple #[.int .i64 ((dqAll c x).headD 0),.bool (decide (szW x.w ≠ 0))])∧Ev.Hold ⟨w,F⟩ [dqA c b (if szW x.w=0 then x else ⟨gnW x.w 1,x.sl⟩)] w':=by
 refine callsIn_of_wp Tryz.func67 rfl trivial ?_ rfl
 simp only [Tryz.ntmps67,List.size_toArray,List.length_cons,List.length_nil,Nat.reduceAdd,Nat.reduceSub,Array.replicate_succ,Array.replicate_zero,List.push_toArray,List.append_toArray,List.nil_append,List.cons_append]
 have hl:=dqAll_len hx
 gi_wp2
 refine ⟨trivial,fun h=>by simp [Fence.wide] at h,(dlen_in (m - 1) hx h).mono ?_⟩
 rintro e w1 ⟨rfl,rfl⟩
 by_cases h0:szW x.w=0
 ·have hzb:(szW x.w == 0)=true:=by simpa using h0
  have ea:dqAll c x=[]:=List.eq_nil_of_length_eq_zero (by omega)
  have hst:=Ev.Hold.start h
  gi_wp2
  exact bodyPost_ret (results_two rfl _) rfl ⟨rfl,hst⟩
 ·have hzb:(szW x.w == 0)=false:=by simpa using h0
  gi_wp2
  refine ⟨trivial,fun h=>by simp [Fence.wide] at h,(take_in (m - 1) (n:=1) hq hx (by omega) h).mono ?_⟩
  rintro e w2 ⟨v,lv,rfl,hh⟩
  have hsl:=hold_slr hh
  obtain ⟨g,rest,eg⟩ : ∃ g rest,dqAll c x=g::rest:=by
   cases ed:dqAll c x with
   | nil=>rw [ed] at hl; simp at hl; omega
   | cons g rest=>exact ⟨g,rest,rfl⟩
  rw [eg] at hsl
  obtain ⟨b2,off,k,rfl,hc⟩ : ∃ b2 off k,v=.slice (some ⟨b2,off,none⟩) 1 k∧w2.cell? ⟨b2,off,none⟩=some (.int .i64 g):=by
   rcases hsl.2 with ⟨e,a,k,rfl⟩ | ⟨b2,off,k,rfl,_,hc⟩
   ·simp at e
   ·exact ⟨b2,off,k,rfl,by have:=hc 0 (by simp); simpa [ints] using this⟩
  gi_wp2
  exact bodyPost_ret (results_two rfl _) rfl ⟨rfl,hh.sel [1] (by kernel_rfl)⟩
theorem dsteal_in (m:Nat) {c:Cfg} {b:Nat} {x:DqS} {F:Nat→Prop} {w:World} (hq:c.q≤8) (hx:DqOk c x) (h:Ev.Now [dqA c b x] F w) :
  CallsIn Fence.wide m Tryz.prog 101 #[.pointer (some ⟨b,0,none⟩)] w fun e w'=>∃ v,Ev.leafV v=true∧e=.returned v∧Ev.Hold ⟨w,F⟩ [isA v ((dqAll c x).take (oldN (szW x.w)).toNat),dqA c b ⟨if szW x.w=0 then x.w else gnW x.w (oldN (szW x.w)),x.sl⟩] w':=by
 refine callsIn_of_wp Tryz.func101 rfl trivial ?_ rfl
 simp only [Tryz.ntmps101,List.size_toArray,List.length_cons,List.length_nil,Nat.reduceAdd,Nat.reduceSub,Array.replicate_succ,Array.replicate_zero,List.push_toArray,List.append_toArray,List.nil_append,List.cons_append]
 have hl:=dqAll_len hx
 have hbd:=szW_bd x.w
 have hsz:=hx.sz
 gi_wp2
 refine ⟨trivial,fun h=>by simp [Fence.wide] at h,(dlen_in (m - 1) hx h).mono ?_⟩
 rintro e w1 ⟨rfl,rfl⟩
 by_cases h0:szW x.w=0
 ·have hzb:(szW x.w == 0)=true:=by simpa using h0
  have ea:dqAll c x=[]:=List.eq_nil_of_length_eq_zero (by omega)
  have hn:Ev.Hold ⟨w1,F⟩ [isA (.slice none 0 0) [],dqA c b ⟨x.w,x.sl⟩] w1:=(Ev.Hold.start h).nilSl (e := 3) (sz:=1)
  gi_wp2
  exact bodyPost_ret (results_tmp rfl _ _ _) rfl ⟨.slice none 0 0,rfl,rfl,hn⟩
 ·have hzb:(szW x.w == 0)=false:=by simpa using h0
  have ho:=oldN_bd hbd
  have hw:IntKind.i64.wrap (oldN (szW x.w))=oldN (szW x.w):=wrap_ok (by omega) (by omega)
  obtain ⟨n,hn⟩ : ∃ n:Nat,oldN (szW x.w)=(n:Int):=⟨(oldN (szW x.w)).toNat,by omega⟩
  have hnl:n≤(dqAll c x).length:=by
   have:oldN (szW x.w)≤szW x.w:=by unfold oldN; omega
   omega
  obtain ⟨sv,lsv,h2⟩:=dq_open (Ev.Hold.start h)
  have hb:=hold_blk h2
  have e0:=cell_of hb 0 _ rfl
  gi_wp2
  refine ⟨trivial,fun h=>by simp [Fence.wide] at h,(callsIn_wide.2 (wLen x.w hx.w w1)).mono ?_⟩
  rintro e w2 ⟨rfl,rfl⟩
  gi_wp2
  refine ⟨trivial,fun h=>by simp [Fence.wide] at h,(callsIn_wide.2 (wOlder (szW x.w) hbd w1)).mono ?_⟩
  rintro e w2 ⟨rfl,rfl⟩
  gi_wp2
  refine ⟨trivial,fun h=>by simp [Fence.wide] at h,(take_in (m - 1) hq hx hnl h).mono ?_⟩
  rintro e w2 ⟨v,lv,rfl,hh⟩
  gi_wp2
  exact bodyPost_ret (results_tmp rfl _ _ _) rfl ⟨_,lv,rfl,hh⟩
end Go.Proofs.YtkmccgombmogmaaGreat
namespace Go.Proofs.YtkmccgombmogmaaGreat
open Go.RowKit
set_option linter.unusedVariables false
set_option linter.unusedSimpArgs false
set_option maxRecDepth 8000
def dqGrow (c:Cfg) (x:DqS) (g:Int) : DqS:=⟨mvW x.w 1,x.sl.set (c.slotI (tlW x.w)) g⟩
def dqPut (c:Cfg) (x:DqS) (g:Int) : DqS×List Int:=if szW x.w < (c.q:Int) then (dqGrow c x g,[]) else (⟨mvW x.w (-((c.q / 2:Nat) : Int)),x.sl⟩,(dqAll c x).drop (c.q / 2)++[g])
theorem ints_set (l:List Int) (i:Nat) (g:Int) : (ints l).set (i * 1) (.int .i64 g)=ints (l.set i g):=by
 rw [Nat.mul_one]
 simp [ints,List.map_set]
section
variable {w:World} {F:Nat→Prop} {c:Cfg} {b:Nat} {x:DqS}
theorem dgrow_ok (hx:DqOk c x) (g:Int) (h:Ev.Now [dqA c b x] F w) :
  Calls Tryz.prog 95 #[.pointer (some ⟨b,0,none⟩),.int .i64 g] w fun e w'=>e=.returned (.tuple #[])∧Ev.Hold ⟨w,F⟩ [dqA c b (dqGrow c x g)] w':=by
 obtain ⟨sv,lsv,hh⟩:=dq_open (Ev.Hold.start h)
 have hq:=c.qb
 have hp:0≤tlW x.w∧tlW x.w < 4294967296:=tlW_bd x.w
 obtain ⟨si,hsi⟩ : ∃ si,c.slotI (tlW x.w)=si:=⟨_,rfl⟩
 have hsl:si < c.q:=by rw [← hsi]; exact c.slotI_lt _
 obtain ⟨bs,off,cc,hv,hc,hl⟩:=sl_some (hold_up [_] hh) (by omega) (by decide)
 subst hv
 have c0:=cell_of (hold_blk hh) 0 _ rfl
 have c1:=cell_of (hold_blk hh) 1 _ rfl
 have c2:=hc si (by omega)
 obtain ⟨ov,hov⟩ : ∃ ov,(ints x.sl)[si]? = some ov:=⟨_,List.getElem?_eq_getElem (by omega)⟩
 rw [hov] at c2
 have c3:w.frozen? ⟨bs,off+si,none⟩=false:=sl_froz (hold_up [_] hh) (by omega)
 have hw1:=fun W=>wTail x.w hx.w W
 have hw2:=fun W=>wslot_ok c hp W
 rw [hsi] at hw2
 go_enter Tryz.func95,Tryz.ntmps95
 go_upto_region 0 with fail
 have h2:=hold_setS (i:=si) (.int .i64 g) (by omega) (hold_up [_] hh)
 have hS0:w.drew.cell? ⟨b,0,none⟩=some (.int .u64 x.w)∧w.drew.cell? ⟨b,1,none⟩=some (.slice (some ⟨bs,off,none⟩) c.q cc):=⟨c0,c1⟩
 have hS1:(w.setCell ⟨bs,off+si,none⟩ (.int .i64 g)).drew.cell? ⟨b,0,none⟩=some (.int .u64 x.w)∧(w.setCell ⟨bs,off+si,none⟩ (.int .i64 g)).drew.cell? ⟨b,1,none⟩=some (.slice (some ⟨bs,off,none⟩) c.q cc):=⟨cell_of (hold_blk (hold_up [_] h2)) 0 _ rfl,cell_of (hold_blk (hold_up [_] h2)) 1 _ rfl⟩
 go_region_held3 (fun w'=>w'.cell? ⟨b,0,none⟩=some (.int .u64 x.w)∧w'.cell? ⟨b,1,none⟩=some (.slice (some ⟨bs,off,none⟩) c.q cc)) ((first | exact hS0 | exact hS1)) ((first | (refine (hw1 _).mono ?_; rintro e w' ⟨rfl,rfl⟩) | (refine (hw2 _).mono ?_; rintro e w' ⟨rfl,rfl⟩)))
 replace h2:=hold_keep h2 (Below.refl _ _).drew
 obtain ⟨W1,hW1⟩ : ∃ W1,(w.setCell ⟨bs,off+si,none⟩ (.int .i64 g)).drew=W1:=⟨_,rfl⟩
 rw [hW1] at h2 ⊢
 have h3:=hold_set 0 (.int .u64 (mvW x.w 1)) (hold_up [_] h2)
 replace c0:=cell_of (hold_blk (hold_up [_] h2)) 0 _ rfl
 have f0:=froz_of (hold_blk (hold_up [_] h2)) 0
 go_wp2_with ((go_at_call 113; refine (wGrow x.w 1 hx.w _).mono ?_; rintro e w' ⟨rfl,rfl⟩))
 refine bodyPost_end (results_none rfl _ _ _) rfl ⟨rfl,?_⟩
 rw [show (ints x.sl).set si (.int .i64 g)=(ints x.sl).set (si * 1) (.int .i64 g) by rw [Nat.mul_one],ints_set,← hsi] at h3
 exact dq_close (x:=dqGrow c x g) lsv h3
theorem dput_ok (hq:c.q=2∨c.q=4∨c.q=8) (hx:DqOk c x) (g:Int) (h:Ev.Now [dqA c b x] F w) :
  Calls Tryz.prog 65 #[.pointer (some ⟨b,0,none⟩),.int .i64 g] w fun e w'=>∃ v,Ev.leafV v=true∧e=.returned v∧Ev.Hold ⟨w,F⟩ [isA v (dqPut c x g).2,dqA c b (dqPut c x g).1] w':=by
 obtain ⟨sv,lsv,hh⟩:=dq_open (Ev.Hold.start h)
 have hb:=c.qb
 have hs:=hx.sz
 have hz:=szW_bd x.w
 obtain ⟨bs,off,cc,hv,-,hl⟩:=sl_some (hold_up [_] hh) (by omega) (by decide)
 subst hv
 replace hh:=hold_keep hh (Below.refl _ _).drew
 obtain ⟨W0,hW0⟩ : ∃ W0,w.drew=W0:=⟨_,rfl⟩
 rw [hW0] at hh
 have c0:=cell_of (hold_blk hh) 0 _ rfl
 have c1:=cell_of (hold_blk hh) 1 _ rfl
 have hn:=fun W h=>(callsIn_wide (n:=1)).1 (dlen_at (w:=W) (b:=b) 1 hx.w h)
 refine (callsIn_wide (n:=1)).1 ?_
 refine callsIn_of_wp Tryz.func65 rfl trivial ?_ rfl
 simp only [Tryz.ntmps65,List.size_toArray,List.length_cons,List.length_nil,Nat.reduceAdd,Nat.reduceSub,Array.replicate_succ,Array.replicate_zero,List.push_toArray,List.append_toArray,List.nil_append,List.cons_append]
 gi_upto_region 3 with fail
 refine wpIn_wide.2 ?_
 have hS0:W0.cell? ⟨b,0,none⟩=some (.int .u64 x.w)∧W0.cell? ⟨b,1,none⟩=some (.slice (some ⟨bs,off,none⟩) c.q cc):=⟨c0,c1⟩
 go_region_held3 (fun w'=>w'.cell? ⟨b,0,none⟩=some (.int .u64 x.w)∧w'.cell? ⟨b,1,none⟩=some (.slice (some ⟨bs,off,none⟩) c.q cc)) ((first | exact hS0 | (rw [hW0]; exact hS0))) ((first | (refine (hn _ hS0.1).mono ?_; rintro e w' ⟨rfl,hw'⟩; replace hw':=hw'.symm; subst hw')))
 by_cases hk:szW x.w < (c.q:Int)
 ·have ep:dqPut c x g=(dqGrow c x g,[]):=by simp only [dqPut,if_pos hk]
  obtain ⟨F',n1,back⟩:=hold_fr [dqA c b x] (rest:=[]) (dq_close lsv hh)
  gi_wp2
  refine ⟨trivial,(callsIn_wide.2 (dgrow_ok hx g n1)).mono ?_⟩
  rintro e w' ⟨rfl,h1⟩
  gi_wp2
  exact bodyPost_ret (results_tmp rfl _ _ _) rfl ⟨.slice none 0 0,rfl,rfl,by rw [ep]; exact (back _ _ h1).nilSl (e := 3) (sz:=1)⟩
 ·have hke:szW x.w=(c.q:Int):=by omega
  obtain ⟨W1,Bk,Bd,h1,hf,hcl⟩:=from_in 0 (k:=c.q / 2) hx.w (by omega) (by omega) hh
  have e2:((c.q / 2:Nat) : Int)=(c.q:Int) / 2:=by omega
  have e3:IntKind.u32.wrap ((c.q:Int) / 2)=(c.q:Int) / 2:=by
   rw [wrap32]
   omega
  rw [e2] at hf
  have ep:dqPut c x g=(⟨mvW x.w (-((c.q:Int) / 2)),x.sl⟩,(List.range ((szW x.w).toNat - c.q / 2)).map (fun i=>dqI c x.w x.sl (c.q / 2+i))++[g]):=by
   simp only [dqPut,if_neg hk,e2]
   unfold dqAll
   rw [← List.map_drop,List.range_eq_range',List.drop_range',List.range_eq_range',List.range'_eq_map_range,List.range'_eq_map_range,List.map_map,List.map_map]
   refine congrArg (fun z=>(_,z++[g])) (List.map_congr_left fun i _=>?_)
   show dqAt c x (0+c.q / 2 * 1+i)=dqI c x.w x.sl (c.q / 2+(0+i))
   rw [Nat.zero_add,Nat.mul_one,Nat.zero_add]
   rfl
  gi_wp2
  refine ⟨trivial,hf.mono ?_⟩
  rintro e w' ⟨rfl,hw'⟩
  subst hw'
  gi_wp2
  refine ⟨trivial,(hcl 0).mono ?_⟩
  rintro e w2 ⟨v,rfl,h2⟩
  have h3:=hold_swap (blk_isA (hold_new [.int .i64 g] 3 h2))
  obtain ⟨a3,k3,W3,r3,h4⟩:=aapp (t := 35) rfl (by simp; omega) h3
  obtain ⟨L,hL⟩ : ∃ L,(List.range ((szW x.w).toNat - c.q / 2)).map (fun i=>dqI c x.w x.sl (c.q / 2+i))++[g]=L:=⟨_,rfl⟩
  rw [hL] at r3 h4 ep
  have c4:=cell_of (hold_blk (hold_drop (r:=[_,_]) h4)) 0 _ rfl
  have f4:=froz_of (hold_blk (hold_drop (r:=[_,_]) h4)) 0
  have h5:=hold_set 0 (.int .u64 (mvW x.w (-((c.q:Int) / 2)))) (hold_up [_,_] h4)
  gi_wp2_with (gi_at_builtin; refine wpListIn_append_run rfl _ _ _ rfl r3 ?_)
  refine ⟨trivial,(callsIn_wide.2 (wDrop x.w ((c.q:Int) / 2) hx.w _)).mono ?_⟩
  rintro e w' ⟨rfl,hw'⟩
  subst hw'
  gi_wp2
  have h6:=Ev.Hold.sel (dq_close (c:=c) (x:=⟨mvW x.w (-((c.q:Int) / 2)),x.sl⟩) lsv (hold_swap (hold_up [_,_,_] h5))) [1,0] (by kernel_rfl)
  exact bodyPost_ret (results_tmp rfl _ _ _) rfl ⟨_,rfl,rfl,by rw [ep]; exact h6⟩
end
end Go.Proofs.YtkmccgombmogmaaGreat
namespace Go.Proofs.YtkmccgombmogmaaGreat
open Go.RowKit
set_option linter.unusedVariables false
set_option linter.unusedSimpArgs false
set_option maxRecDepth 8000
theorem mv_hd {x d:Int} (h:U64 x) : hdW (mvW x d)=hdW x:=by
 have:=hdW_bd h
 unfold mvW packW hdW at *
 omega
theorem mv_tl {x d:Int} (h:U64 x) : tlW (mvW x d)=(tlW x+d) % 4294967296:=by
 unfold mvW packW tlW
 omega
theorem mv_sz {x:Int} (h:U64 x) (h1:szW x+1 < 4294967296) : szW (mvW x 1)=szW x+1:=by
 have h2:=szW_bd x
 unfold szW at *
 rw [mv_hd h,mv_tl h]
 omega
theorem dqGrow_ok {c:Cfg} {x:DqS} (hx:DqOk c x) (h:szW x.w < (c.q:Int)) (g:Int) : DqOk c (dqGrow c x g)∧szW (dqGrow c x g).w=szW x.w+1:=by
 have hq:=c.qb
 have hs:szW (mvW x.w 1)=szW x.w+1:=mv_sz hx.w (by omega)
 exact ⟨⟨mvW_u hx.w 1,by simp only [dqGrow,List.length_set]; exact hx.sl,by show szW (mvW x.w 1)≤_; omega⟩,hs⟩
def dqLay (c:Cfg) (x:DqS) (l:List Int) : DqS:=l.foldl (dqGrow c) x
theorem dqLay_ok {c:Cfg} {x:DqS} (l:List Int) (hx:DqOk c x) (h:szW x.w+(l.length:Int)≤(c.q:Int)) : DqOk c (dqLay c x l)∧szW (dqLay c x l).w=szW x.w+(l.length:Int):=by
 induction l generalizing x with
 | nil=>exact ⟨hx,by simp [dqLay]⟩
 | cons g l ih =>
  simp only [List.length_cons] at h
  obtain ⟨h1,h2⟩:=dqGrow_ok hx (by omega) g
  obtain ⟨h3,h4⟩:=ih h1 (by omega)
  refine ⟨h3,?_⟩
  show szW (dqLay c (dqGrow c x g) l).w=_
  rw [h4,h2]
  simp only [List.length_cons]
  omega
def dqN (c:Cfg) (x:DqS) (l:List Int) : Nat:=min l.length (c.q - (szW x.w).toNat)
theorem droom_in (m:Nat) {c:Cfg} {b:Nat} {x:DqS} {F:Nat→Prop} {w:World} (h:Ev.Now [dqA c b x] F w) :
  CallsIn Fence.wide m Tryz.prog 93 #[.pointer (some ⟨b,0,none⟩)] w fun e w'=>e=.returned (.int .i64 (c.q:Int))∧w'=w:=by
 obtain ⟨sv,lsv,h2⟩:=dq_open (Ev.Hold.start h)
 have hb:=hold_blk h2
 have hsl:=hold_slr (hold_swap h2)
 obtain ⟨a0,c0,rfl⟩ : ∃ a k,sv=.slice a c.q k:=by
  rcases hsl.2 with ⟨e,a,k,rfl⟩ | ⟨b2,off,k,rfl,_⟩
  ·exact ⟨a,k,by rw [e]⟩
  ·exact ⟨_,k,rfl⟩
 have e1:=cell_of hb 1 _ rfl
 refine callsIn_of_wp Tryz.func93 rfl trivial ?_ rfl
 simp only [Tryz.ntmps93,List.size_toArray,List.length_cons,List.length_nil,Nat.reduceAdd,Nat.reduceSub,Array.replicate_succ,Array.replicate_zero,List.push_toArray,List.append_toArray,List.nil_append,List.cons_append]
 gi_wp2
 exact bodyPost_ret (results_tmp rfl _ _ _) rfl ⟨rfl,rfl⟩
set_option maxHeartbeats 1000000 in
theorem dlay_in (m:Nat) {c:Cfg} {b:Nat} {x:DqS} {lv:Value} {ls:List Int} {F:Nat→Prop} {w:World} (hx:DqOk c x) (hls:ls.length≤64) (h:Ev.Now [dqA c b x,isA lv ls] F w) :
  CallsIn Fence.wide m Tryz.prog 62 #[.pointer (some ⟨b,0,none⟩),lv] w fun e w'=>e=.returned (.int .i64 (dqN c x ls:Int))∧Ev.Hold ⟨w,F⟩ [dqA c b (dqLay c x (ls.take (dqN c x ls))),isA lv ls] w':=by
 refine callsIn_of_wp Tryz.func62 rfl trivial ?_ rfl
 simp only [Tryz.ntmps62,List.size_toArray,List.length_cons,List.length_nil,Nat.reduceAdd,Nat.reduceSub,Array.replicate_succ,Array.replicate_zero,List.push_toArray,List.append_toArray,List.nil_append,List.cons_append]
 obtain ⟨F1,F2,k1,k2,k3,k4⟩:=Ev.now_split (l:=[dqA c b x]) h
 have hsl:=hold_slr (Ev.Hold.start k2)
 obtain ⟨a0,c0,rfl⟩ : ∃ a k,lv=.slice a ls.length k:=by
  rcases hsl.2 with ⟨e,a,k,rfl⟩ | ⟨b2,off,k,rfl,_⟩
  ·exact ⟨a,k,by rw [e]⟩
  ·exact ⟨_,k,rfl⟩
 have hbd:=szW_bd x.w
 have hsz:=hx.sz
 have hqb:=c.qb
 have hw1:IntKind.i64.wrap ((c.q:Int) - szW x.w)=(c.q:Int) - szW x.w:=wrap_ok (by omega) (by omega)
 have hmin:min (ls.length:Int) ((c.q:Int) - szW x.w)=(dqN c x ls:Int):=by unfold dqN; omega
 have hnl:dqN c x ls≤ls.length:=Nat.min_le_left _ _
 have hnq:szW x.w+(dqN c x ls:Int)≤(c.q:Int):=by unfold dqN; omega
 obtain ⟨n,hn⟩ : ∃ n,dqN c x ls=n:=⟨_,rfl⟩
 rw [hn] at hmin hnl hnq ⊢
 obtain ⟨a1,c1,hcv⟩ : ∃ a1 c1,Ev.cutV 1 (.slice a0 ls.length c0) 0 n=.slice a1 n c1:=by
  cases a0 with
  | none=>exact ⟨none,c0 - 0,by simp [Ev.cutV]⟩
  | some a=>exact ⟨_,c0 - 0,by simp only [Ev.cutV,Nat.sub_zero]; rfl⟩
 have hcut:∀ w,(Instr.sliceAt 35 (.slice a0 ls.length c0) none (some (.int .i64 (n:Int))) none).run Tryz.prog w=.ok (.slice a1 n c1) w:=by
  obtain ⟨i0,hi,hz1,hz0,hz2⟩:=infInt
  intro w
  rw [← hcv]
  exact Ev.cut_run (kd:=.i64) (.inl ⟨rfl,rfl⟩) rfl hsl Tryz.underlying35 hi hz1 (Nat.zero_le _) hnl w
 have hst:=Ev.Hold.start h
 gi_wp2
 refine ⟨trivial,fun h=>by simp [Fence.wide] at h,(droom_in (m - 1) k1).mono ?_⟩
 rintro e w1 ⟨rfl,rfl⟩
 gi_wp2
 refine ⟨trivial,fun h=>by simp [Fence.wide] at h,(dlen_in (m - 1) hx k1).mono ?_⟩
 rintro e w2 ⟨rfl,rfl⟩
 gi_wp2
 gi_loopw [20] (fun p wr=>∃ k:Nat,p=.int .i64 (k:Int)∧k≤n∧Ev.Hold ⟨w2,F⟩ [dqA c b (dqLay c x (ls.take k)),isA (.slice a0 ls.length c0) ls] wr) (fun p _=>n - (intOf p).toNat)
 case atStart=>exact ⟨0,rfl,Nat.zero_le _,hst⟩
 case round =>
  obtain ⟨k,rfl,hk,hH⟩:=hrel
  by_cases hlt:k < n
  ·have hlI:(k:Int) < (n:Int):=by omega
   have hs2:=(hold_slr (hold_swap hH)).cut (lo:=0) (hi:=n) (Nat.zero_le _) hnl
   rw [hcv] at hs2
   rcases hs2.2 with ⟨e,_⟩ | ⟨b2,off,c2,hv,_,hc⟩
   ·omega
   cases hv
   have hck:wr.cell? ⟨b2,off+k,none⟩=some (.int .i64 ls[k]):=by
    rw [hc k (by omega)]
    simp [ints,List.getElem?_take,hlt,show k < ls.length by omega]
   obtain ⟨g,hg⟩ : ∃ g,ls[k]'(by omega)=g:=⟨_,rfl⟩
   rw [hg] at hck
   clear hc
   obtain ⟨o1,o2⟩:=dqLay_ok (ls.take k) hx (by rw [List.length_take]; omega)
   obtain ⟨F',m1,m2,m3⟩:=hH.ex
   obtain ⟨G1,G2,q1,q2,q3,q4⟩:=Ev.now_split (l:=[dqA c b (dqLay c x (ls.take k))]) m1
   gi_wp2
   refine ⟨trivial,fun h=>by simp [Fence.wide] at h,(callsIn_wide.2 (dgrow_ok o1 g q1)).mono ?_⟩
   rintro e w4 ⟨rfl,hh⟩
   have h4:Ev.Hold ⟨w2,F⟩ [dqA c b (dqGrow c (dqLay c x (ls.take k)) g),isA (.slice a0 ls.length c0) ls] w4:=(hh.frame q2 q3).into (l:=[]) m2 (fun j hj=>m3 j ((q4 j).2 hj))
   have e4:dqLay c x (ls.take (k+1))=dqGrow c (dqLay c x (ls.take k)) g:=by
    rw [List.take_add_one,List.getElem?_eq_getElem (by omega:k < ls.length),hg]
    simp [dqLay,List.foldl_append]
   gi_wp2
   refine ⟨⟨k+1,rfl,by omega,?_⟩,by simp [intOf]; omega⟩
   rw [e4]
   exact h4
  ·obtain rfl:k=n:=by omega
   have hlI:¬ ((k:Nat) : Int) < (k:Int):=by omega
   gi_wp2
   exact bodyPost_ret (results_tmp rfl _ _ _) rfl ⟨rfl,hH⟩
end Go.Proofs.YtkmccgombmogmaaGreat
namespace Go.Proofs.YtkmccgombmogmaaGreat
open Go.RowKit
set_option linter.unusedVariables false
set_option linter.unusedSimpArgs false
set_option maxRecDepth 8000
def newDq (c:Cfg) : DqS:=⟨0,List.replicate c.q 0⟩
theorem newDq_ok (c:Cfg) : DqOk c (newDq c):=⟨⟨Int.le_refl 0,by show (0:Int) < 18446744073709551616; decide⟩,by simp [newDq],by
 have:szW 0=0:=by decide
 show szW 0≤_
 omega⟩
set_option maxHeartbeats 1000000 in
theorem dnew_in (m:Nat) (c:Cfg) {F:Nat→Prop} {w:World} (h:Ev.Now [] F w) :
  CallsIn Fence.wide m Tryz.prog 31 #[.int .i64 (c.q:Int),.slice none 0 0] w fun e w'=>∃ b k,e=.returned (.tuple #[.pointer (some ⟨b,0,none⟩),.int k 0])∧Ev.Hold ⟨w,F⟩ [dqA c b (newDq c)] w':=by
 refine callsIn_of_wp Tryz.func31 rfl trivial ?_ rfl
 simp only [Tryz.ntmps31,List.size_toArray,List.length_cons,List.length_nil,Nat.reduceAdd,Nat.reduceSub,Array.replicate_succ,Array.replicate_zero,List.push_toArray,List.append_toArray,List.nil_append,List.cons_append]
 have hqb:=c.qb
 obtain ⟨i0,hi,hz1,hz0,hz2⟩:=infInt
 obtain ⟨w1,r1,r2,r3⟩:=run_make_full (P:=Tryz.prog) w w.heap.size 35 3 i0 (.int .i64 0) 1 Tryz.underlying35 hi hz0 hz1 .i64 .i64 c.q (by rw [hz2]; omega) (by unfold maxLen; omega) (Nat.le_refl _)
 have hB1:Below w.heap.size w w1:=Ev.grown_below r3
 have hrow:(madeCells (Value.int .i64 0).cells (c.q * 1)).toList=ints (List.replicate c.q 0):=by
  rw [Nat.mul_one]
  show (madeCells #[Value.int .i64 0] c.q).toList=_
  rw [toList_madeCells_one]
  simp [ints]
 rw [hrow] at r2
 obtain ⟨w2,hw2⟩ : ∃ w2,w1.alloc (.cells #[.int .u64 0,.slice (some ⟨w.heap.size,0,none⟩) c.q c.q] 141)=w2:=⟨_,rfl⟩
 have hB2:Below w.heap.size w w2:=by rw [← hw2]; exact hB1.alloc hB1.size _
 have hblk:w2.heap[w1.heap.size]? = some (Obj.cells #[.int .u64 0,.slice (some ⟨w.heap.size,0,none⟩) c.q c.q] 141 (0,0)):=by rw [← hw2]; exact World.alloc_heap_new _ _
 have hlt1:w.heap.size < w1.heap.size:=(r2.lt _ rfl).2
 have hown:w2.ownsRow w.heap.size 3 1 (.slice (some ⟨w.heap.size,0,none⟩) c.q c.q) c.q (ints (List.replicate c.q 0)):=by rw [← hw2]; exact r2.alloc _
 have hH:=own_two (cs:=[.int .u64 0,.slice (some ⟨w.heap.size,0,none⟩) c.q c.q]) h hblk hB1.size hown (by simp [Value.ownBlock]; omega) hB2
 have hD:Ev.Hold ⟨w,F⟩ [dqA c w1.heap.size (newDq c)] w2:=dq_close (x:=newDq c) rfl hH
 have hD2:=(hD.nilSl (e := 3) (sz:=1)).sel [1,0] (by kernel_rfl)
 obtain ⟨F',n1,n2,n3⟩:=hD2.ex
 gi_wp2
 refine ⟨trivial,fun h=>by simp [Fence.wide] at h,(callsIn_wide.2 (room_ok c w)).mono ?_⟩
 rintro e w' ⟨rfl,rfl⟩
 gi_wp2
 refine ⟨trivial,fun h=>by simp [Fence.wide] at h,(dlay_in (m - 1) (ls:=[]) (newDq_ok c) (by decide) n1).mono ?_⟩
 rintro e w3 ⟨rfl,hh⟩
 have h5:Ev.Hold ⟨w,F⟩ [dqA c w1.heap.size (newDq c)] w3:=(hh.into (l:=[]) n2 n3).sel [0] (by kernel_rfl)
 gi_wp2
 exact bodyPost_ret (results_two rfl _) rfl ⟨_,_,rfl,h5⟩
end Go.Proofs.YtkmccgombmogmaaGreat
namespace Go.Proofs.YtkmccgombmogmaaGreat
open Go.RowKit
set_option linter.unusedVariables false
set_option linter.unusedSimpArgs false
set_option maxRecDepth 8000
section
variable {ctx:Ev.Ctx} {w:World} {r:List Ev.Asr} {c:Cfg} {p v bp bm:Nat} {mm:MemM} {st w0 mn:Int} {lp bv:Value} {bt:List Int}
set_option maxHeartbeats 4000000 in
theorem scopy (n:Nat) (hv:v < c.n) (hm:MemOk c mm) (hw0:U64 w0) (hbt:bt.length≤64) (h:Ev.Hold ctx (seB c p v bp lp 2 w0 bv mn::memA bm mm::isA bv bt::r) w) :
  CallsIn Fence.wide n Tryz.prog 168 #[.pointer (some ⟨bp,0,none⟩),.pointer (some ⟨bm,0,none⟩)] w fun e w'=>e=.returned (.tuple #[])∧∃ bv',Ev.Hold ctx (seB c p v bp lp (if ((bt.length+1:Nat) : Int)=oldN (szW w0) then 3 else 2) w0 bv' mn::memA bm mm.tick::isA bv' (bt++[IntKind.i64.wrap (ld mm (c.slot v ((hdW w0+(bt.length:Int)) % 4294967296)))])::r) w':=by
 have z:=c.qb
 obtain ⟨s5,hs5⟩ : ∃ s5:Int,(if ((bt.length+1:Nat) : Int)=oldN (szW w0) then 3 else 2)=s5:=⟨_,rfl⟩
 have hq5:((bt.length:Int)+1=oldN (szW w0)∧s5=3)∨(¬ (bt.length:Int)+1=oldN (szW w0)∧s5=2):=by
  split at hs5 <;> omega
 rw [hs5]
 clear hs5
 obtain ⟨x,hxe⟩ : ∃ x,ld mm (c.slot v ((hdW w0+(bt.length:Int)) % 4294967296))=x:=⟨_,rfl⟩
 obtain ⟨hx,ha⟩:=hm.at_ (hm.lt_slot hv ((hdW w0+(bt.length:Int)) % 4294967296))
 have e2:IntKind.u32.wrap (bt.length:Int)=(bt.length:Int):=by rw [wrap32]; omega
 have e3:IntKind.u32.wrap (hdW w0+(bt.length:Int))=(hdW w0+(bt.length:Int)) % 4294967296:=wrap32 _
 obtain ⟨i,hi⟩ : ∃ i,(hdW w0+(bt.length:Int)) % 4294967296=i:=⟨_,rfl⟩
 have hi0:0≤i:=by omega
 rw [hi] at e3 hxe hx ha ⊢
 obtain ⟨ta,tc,rfl⟩:=slr_val (hold_slr (hold_drop (r:=[_,_]) h))
 have hd1:=hold_keep h (Below.refl _ _).drew
 have q0:=blkc hd1 11 _
 rw [hxe] at hx ⊢
 obtain ⟨y,hy⟩ : ∃ y,IntKind.i64.wrap x=y:=⟨_,rfl⟩
 rw [hy]
 clear hi hxe
 refine wen Tryz.func168 46 ?_
 gi_upto_region 0 with fail
 gi_cut [] from 2 (fun wx=>∃ bv',Ev.Hold ctx (seB c p v bp lp 2 w0 bv' mn::memA bm mm.tick::isA bv' (bt++[y])::r) wx)
 case first =>
  refine wpIn_wide.2 ?_
  refine wp_region_noPanic ?_
  refine wp_region_B (fun W=>seC c v bp W∧W.cell? ⟨bp,10,none⟩=some (.int .u64 w0)∧W.cell? ⟨bp,11,none⟩=some (.slice ta bt.length tc)) 31 (by kernel_rfl) ?_ (fun hHeld=>?_)
  ·(try dsimp only); (first | exact ⟨sec hd1,blkc hd1 10 _,blkc hd1 11 _⟩ | exact ⟨sec h2,blkc h2 10 _,blkc h2 11 _⟩ | exact ⟨sec h3,blkc h3 10 _,blkc h3 11 _⟩ | exact ⟨sec h4,blkc h4 10 _,blkc h4 11 _⟩ | exact ⟨sec h5,blkc h5 10 _,blkc h5 11 _⟩)
  refine takeB0 (i:=0) (v:=?_) (Or.inl ⟨by kernel_rfl,?_⟩) (by assumption) ?_
  rotate_left
  ·intro w _; go_simp; try with_reducible rfl
  try simp only [Act.put,List.setIfInBounds_toArray,List.set_cons_zero,List.set_cons_succ]
  refine takeB0 (i:=1) (v:=?_) (Or.inl ⟨by kernel_rfl,?_⟩) (by assumption) ?_
  rotate_left
  ·intro w _; go_simp; try with_reducible rfl
  try simp only [Act.put,List.setIfInBounds_toArray,List.set_cons_zero,List.set_cons_succ]
  refine takeB0 (i:=2) (v:=?_) (Or.inl ⟨by kernel_rfl,?_⟩) (by assumption) ?_
  rotate_left
  ·intro w _; go_simp; try with_reducible rfl
  try simp only [Act.put,List.setIfInBounds_toArray,List.set_cons_zero,List.set_cons_succ]
  refine takeB0 (i:=3) (v:=?_) (Or.inl ⟨by kernel_rfl,?_⟩) (by assumption) ?_
  rotate_left
  ·intro w _; go_simp; try with_reducible rfl
  try simp only [Act.put,List.setIfInBounds_toArray,List.set_cons_zero,List.set_cons_succ]
  refine takeB (i:=4) (v:=?_) (Or.inl ⟨by kernel_rfl,?_⟩) (by assumption) ?_
  rotate_left
  ·intro w hSw; (try dsimp only at hSw); go_simp; try with_reducible rfl
  try simp only [Act.put,List.setIfInBounds_toArray,List.set_cons_zero,List.set_cons_succ]
  refine takeB0 (i:=5) (v:=?_) (Or.inl ⟨by kernel_rfl,?_⟩) (by assumption) ?_
  rotate_left
  ·intro w _; go_simp; try with_reducible rfl
  try simp only [Act.put,List.setIfInBounds_toArray,List.set_cons_zero,List.set_cons_succ]
  refine takeB0 (i:=6) (v:=?_) (Or.inl ⟨by kernel_rfl,?_⟩) (by assumption) ?_
  rotate_left
  ·intro w _; go_simp; try with_reducible rfl
  try simp only [Act.put,List.setIfInBounds_toArray,List.set_cons_zero,List.set_cons_succ]
  refine takeB0 (i:=7) (v:=?_) (Or.inl ⟨by kernel_rfl,?_⟩) (by assumption) ?_
  rotate_left
  ·intro w _; go_simp; try with_reducible rfl
  try simp only [Act.put,List.setIfInBounds_toArray,List.set_cons_zero,List.set_cons_succ]
  refine takeB0 (i:=8) (v:=?_) (Or.inl ⟨by kernel_rfl,?_⟩) (by assumption) ?_
  rotate_left
  ·intro w _; go_simp; try with_reducible rfl
  try simp only [Act.put,List.setIfInBounds_toArray,List.set_cons_zero,List.set_cons_succ]
  refine takeB (i:=9) (v:=?_) (Or.inl ⟨by kernel_rfl,?_⟩) (by assumption) ?_
  rotate_left
  ·intro w hSw; (try dsimp only at hSw); go_simp; try with_reducible rfl
  try simp only [Act.put,List.setIfInBounds_toArray,List.set_cons_zero,List.set_cons_succ]
  refine takeB0 (i:=10) (v:=?_) (Or.inl ⟨by kernel_rfl,?_⟩) (by assumption) ?_
  rotate_left
  ·intro w _; go_simp; try with_reducible rfl
  try simp only [Act.put,List.setIfInBounds_toArray,List.set_cons_zero,List.set_cons_succ]
  refine takeB0 (i:=11) (v:=?_) (Or.inl ⟨by kernel_rfl,?_⟩) (by assumption) ?_
  rotate_left
  ·intro w _; go_simp; try with_reducible rfl
  try simp only [Act.put,List.setIfInBounds_toArray,List.set_cons_zero,List.set_cons_succ]
  refine takeB0 (i:=12) (v:=?_) (Or.inl ⟨by kernel_rfl,?_⟩) (by assumption) ?_
  rotate_left
  ·intro w _; go_simp; try with_reducible rfl
  try simp only [Act.put,List.setIfInBounds_toArray,List.set_cons_zero,List.set_cons_succ]
  refine takeB (i:=13) (v:=?_) (Or.inl ⟨by kernel_rfl,?_⟩) (by assumption) ?_
  rotate_left
  ·intro w hSw; (try dsimp only at hSw); go_simp; try with_reducible rfl
  try simp only [Act.put,List.setIfInBounds_toArray,List.set_cons_zero,List.set_cons_succ]
  refine takeB0 (i:=14) (v:=?_) (Or.inl ⟨by kernel_rfl,?_⟩) (by assumption) ?_
  rotate_left
  ·intro w _; go_simp; try with_reducible rfl
  try simp only [Act.put,List.setIfInBounds_toArray,List.set_cons_zero,List.set_cons_succ]
  refine takeB0 (i:=15) (v:=?_) (Or.inl ⟨by kernel_rfl,?_⟩) (by assumption) ?_
  rotate_left
  ·intro w _; go_simp; try with_reducible rfl
  try simp only [Act.put,List.setIfInBounds_toArray,List.set_cons_zero,List.set_cons_succ]
  refine takeB0 (i:=16) (v:=?_) (Or.inl ⟨by kernel_rfl,?_⟩) (by assumption) ?_
  rotate_left
  ·intro w _; go_simp; try with_reducible rfl
  try simp only [Act.put,List.setIfInBounds_toArray,List.set_cons_zero,List.set_cons_succ]
  refine takeB (i:=17) (v:=?_) (Or.inl ⟨by kernel_rfl,?_⟩) (by assumption) ?_
  rotate_left
  ·intro w hSw; (try dsimp only at hSw); go_simp; try with_reducible rfl
  try simp only [Act.put,List.setIfInBounds_toArray,List.set_cons_zero,List.set_cons_succ]
  refine takeB0 (i:=19) (v:=?_) (Or.inl ⟨by kernel_rfl,?_⟩) (by assumption) ?_
  rotate_left
  ·intro w _; go_simp; try with_reducible rfl
  try simp only [Act.put,List.setIfInBounds_toArray,List.set_cons_zero,List.set_cons_succ]
  refine takeB0 (i:=20) (v:=?_) (Or.inl ⟨by kernel_rfl,?_⟩) (by assumption) ?_
  rotate_left
  ·intro w _; go_simp; try with_reducible rfl
  try simp only [Act.put,List.setIfInBounds_toArray,List.set_cons_zero,List.set_cons_succ]
  refine takeB0 (i:=21) (v:=?_) (Or.inl ⟨by kernel_rfl,?_⟩) (by assumption) ?_
  rotate_left
  ·intro w _; go_simp; try with_reducible rfl
  try simp only [Act.put,List.setIfInBounds_toArray,List.set_cons_zero,List.set_cons_succ]
  refine takeB (i:=22) (v:=?_) (Or.inl ⟨by kernel_rfl,?_⟩) (by assumption) ?_
  rotate_left
  ·intro w hSw; (try dsimp only at hSw); go_simp; try with_reducible rfl
  try simp only [Act.put,List.setIfInBounds_toArray,List.set_cons_zero,List.set_cons_succ]
  refine takeB0 (i:=23) (v:=?_) (Or.inl ⟨by kernel_rfl,?_⟩) (by assumption) ?_
  rotate_left
  ·intro w _; go_simp; try with_reducible rfl
  try simp only [Act.put,List.setIfInBounds_toArray,List.set_cons_zero,List.set_cons_succ]
  refine takeB0 (i:=24) (v:=?_) (Or.inl ⟨by kernel_rfl,?_⟩) (by assumption) ?_
  rotate_left
  ·intro w _; go_simp; try with_reducible rfl
  try simp only [Act.put,List.setIfInBounds_toArray,List.set_cons_zero,List.set_cons_succ]
  refine nextB (i:=18) (ho:=rfl) (fun K hK=>?_)
  go_simp
  (have hcon:=wHead w0 hw0 w.drew; (with_reducible refine hcon.mono ?_); clear hcon; rintro e w1 ⟨rfl,rfl⟩)
  first | refine hK.out _ _ ?_ (fun hHeld=>?_) | (go_wp2_with fail; refine hK.out _ _ ?_ (fun hHeld=>?_))
  ·(try dsimp only); (first | exact ⟨sec hd1,blkc hd1 10 _,blkc hd1 11 _⟩ | exact ⟨sec h2,blkc h2 10 _,blkc h2 11 _⟩ | exact ⟨sec h3,blkc h3 10 _,blkc h3 11 _⟩ | exact ⟨sec h4,blkc h4 10 _,blkc h4 11 _⟩ | exact ⟨sec h5,blkc h5 10 _,blkc h5 11 _⟩)
  clear hK K
  try simp only [Act.put,List.setIfInBounds_toArray,List.set_cons_zero,List.set_cons_succ]
  refine takeB0 (i:=25) (v:=?_) (Or.inl ⟨by kernel_rfl,?_⟩) (by assumption) ?_
  rotate_left
  ·intro w _; go_simp; try with_reducible rfl
  try simp only [Act.put,List.setIfInBounds_toArray,List.set_cons_zero,List.set_cons_succ]
  refine nextB (i:=26) (ho:=rfl) (fun K hK=>?_)
  go_simp
  (have hcon:=slot_ok c v hv i hi0 w.drew; (with_reducible refine hcon.mono ?_); clear hcon; rintro e w1 ⟨rfl,b1⟩; have h2:=hold_keep hd1 b1; have q1:=blkc h2 11 _)
  first | refine hK.out _ _ ?_ (fun hHeld=>?_) | (go_wp2_with fail; refine hK.out _ _ ?_ (fun hHeld=>?_))
  ·(try dsimp only); (first | exact ⟨sec hd1,blkc hd1 10 _,blkc hd1 11 _⟩ | exact ⟨sec h2,blkc h2 10 _,blkc h2 11 _⟩ | exact ⟨sec h3,blkc h3 10 _,blkc h3 11 _⟩ | exact ⟨sec h4,blkc h4 10 _,blkc h4 11 _⟩ | exact ⟨sec h5,blkc h5 10 _,blkc h5 11 _⟩)
  clear hK K
  try simp only [Act.put,List.setIfInBounds_toArray,List.set_cons_zero,List.set_cons_succ]
  refine nextB (i:=27) (ho:=rfl) (fun K hK=>?_)
  go_simp
  (have hcon:=callsIn_wide.1 (load_in 0 hx ha (hold_swap h2)); (with_reducible refine hcon.mono ?_); clear hcon; rintro e w2 ⟨rfl,h3⟩; replace h3:=hold_swap h3; have q2:=blkc h3 11 _; have h4:=hold_new [.int .i64 y] 3 h3; replace h4:=hold_up [_] h4; have q3:=blkc h4 11 _; obtain ⟨a5,k5,w5,r5,h5⟩:=iapp1 y (by omega) (hold_up [_,_] h3); replace h5:=hold_up [_] h5; have q5:=blkc h5 11 _; have f5:=froz_of (hold_blk h5) 11; have h6:=hold_set 11 (.slice a5 (bt.length+1) k5) h5)
  first | refine hK.out _ _ ?_ (fun hHeld=>?_) | (go_wp2_with fail; refine hK.out _ _ ?_ (fun hHeld=>?_))
  ·(try dsimp only); (first | exact ⟨sec hd1,blkc hd1 10 _,blkc hd1 11 _⟩ | exact ⟨sec h2,blkc h2 10 _,blkc h2 11 _⟩ | exact ⟨sec h3,blkc h3 10 _,blkc h3 11 _⟩ | exact ⟨sec h4,blkc h4 10 _,blkc h4 11 _⟩ | exact ⟨sec h5,blkc h5 10 _,blkc h5 11 _⟩)
  clear hK K
  try simp only [Act.put,List.setIfInBounds_toArray,List.set_cons_zero,List.set_cons_succ]
  refine takeB0 (i:=28) (v:=?_) (Or.inl ⟨by kernel_rfl,?_⟩) (by assumption) ?_
  rotate_left
  ·intro w _; go_simp; try with_reducible rfl
  try simp only [Act.put,List.setIfInBounds_toArray,List.set_cons_zero,List.set_cons_succ]
  refine nextB (i:=29) (ho:=rfl) (fun K hK=>?_)
  go_simp
  refine hK.out _ _ ?_ (fun hHeld=>?_)
  ·(try dsimp only); (first | exact ⟨sec hd1,blkc hd1 10 _,blkc hd1 11 _⟩ | exact ⟨sec h2,blkc h2 10 _,blkc h2 11 _⟩ | exact ⟨sec h3,blkc h3 10 _,blkc h3 11 _⟩ | exact ⟨sec h4,blkc h4 10 _,blkc h4 11 _⟩ | exact ⟨sec h5,blkc h5 10 _,blkc h5 11 _⟩)
  clear hK K
  try simp only [Act.put,List.setIfInBounds_toArray,List.set_cons_zero,List.set_cons_succ]
  refine nextB (i:=30) (ho:=rfl) (fun K hK=>?_)
  (rw [if_pos (by rfl)]; refine wp_append_run _ _ _ rfl r5 ?_)
  refine hK.out _ _ ?_ (fun hHeld=>?_)
  ·(try dsimp only); (first | exact ⟨sec hd1,blkc hd1 10 _,blkc hd1 11 _⟩ | exact ⟨sec h2,blkc h2 10 _,blkc h2 11 _⟩ | exact ⟨sec h3,blkc h3 10 _,blkc h3 11 _⟩ | exact ⟨sec h4,blkc h4 10 _,blkc h4 11 _⟩ | exact ⟨sec h5,blkc h5 10 _,blkc h5 11 _⟩)
  clear hK K
  try simp only [Act.put,List.setIfInBounds_toArray,List.set_cons_zero,List.set_cons_succ]
  refine lastB (i:=31) (ho:=rfl) (fun K hK=>?_)
  go_simp
  refine hK.out _ _ ?_
  clear hK K
  try simp only [Act.put,List.setIfInBounds_toArray,List.set_cons_zero,List.set_cons_succ]
  refine lastB (i:=32) (ho:=rfl) (fun K hK=>?_)
  go_simp
  refine hK.out _ _ ?_
  clear hK K
  try simp only [Act.put,List.setIfInBounds_toArray,List.set_cons_zero,List.set_cons_succ]
  refine lastB (i:=33) (ho:=rfl) (fun K hK=>?_)
  go_simp
  refine hK.out _ _ ?_
  clear hK K
  try simp only [Act.put,List.setIfInBounds_toArray,List.set_cons_zero,List.set_cons_succ]
  refine (doneB (h:=?_) (hr:=by kernel_rfl)) _
  refine NoPanic.normal ?_
  all_goals
   gi_wp2
   gi_meet
   case rel=>exact ⟨_,hsel [_,_,_] h6 [0,2,1]⟩
 case rest =>
  obtain ⟨tk',h6⟩:=hcut
  obtain ⟨a5,k5,rfl⟩:=slr_val (hold_slr (hold_drop (r:=[_,_]) h6))
  have el:(bt++[y]).length=bt.length+1:=by simp
  rw [el] at h6
  clear hd1 h
  replace h6:=hold_keep h6 (Below.refl _ _).drew
  have hhf:=shalf (bp:=bp) 0 hw0 (blkc h6 10 _)
  have S0:=blkc h6 11 _
  gi_upto_region 1 with fail
  refine wpIn_wide.2 ?_
  go_region_held3 (fun W=>W.cell? ⟨bp,11,none⟩=some (.slice a5 (bt.length+1) k5)) (exact S0) ((first
   | (have hcon:=callsIn_wide.1 hhf; (with_reducible refine hcon.mono ?_); clear hcon; rintro e w1 ⟨rfl,hw1⟩; replace hw1:=hw1.symm; subst hw1)))
  have x9:=blkc h6 9 _
  have f9:=froz_of (hold_blk h6) 9
  rcases hq5 with ⟨hq,rfl⟩ | ⟨hq,rfl⟩
  ·have hb:((bt.length:Int)+1 == oldN (szW w0))=true:=by simp; omega
   have h7:=hold_set 9 (.int .i64 3) h6
   gi_wp2
   exact bodyPost_end (results_none rfl _ _ _) rfl ⟨rfl,_,h7⟩
  ·have hb:((bt.length:Int)+1 == oldN (szW w0))=false:=by simp; omega
   gi_wp2
   exact bodyPost_end (results_none rfl _ _ _) rfl ⟨rfl,_,h6⟩
end
end Go.Proofs.YtkmccgombmogmaaGreat
