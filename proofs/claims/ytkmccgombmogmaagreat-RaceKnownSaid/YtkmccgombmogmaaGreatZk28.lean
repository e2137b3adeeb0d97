/- 'RaceKnown' returns true. -/
import Derived.Test.YtkmccgombmogmaaGreatZk15
import Derived.Test.YtkmccgombmogmaaGreatZk27
import Derived.Test.YtkmccgombmogmaaGreatZk26
import Derived.Test.YtkmccgombmogmaaGreatZk13
namespace Go.Proofs.YtkmccgombmogmaaGreat
open Go.RowKit
set_option linter.unusedVariables false
set_option linter.unusedSimpArgs false
set_option maxRecDepth 8000
section
variable {c:Cfg} {x:RaceS} {B:Int} {p k:Nat} {kd g:Int} {ctx:Ev.Ctx} {w:World} {r:List Ev.Asr} {b:RB}
theorem own_at (hI:RaceI c B x) (hp:p < c.n) : ∃ o,x.ow[p]? = some o:=⟨_,List.getElem?_eq_getElem (by rw [hI.len]; exact hp)⟩
theorem abusyB (n:Nat) (hI:RaceI c B x) (hp:p < c.n) (h:Ev.Hold ctx (raceA b c x::r) w) :
  CallsIn Fence.wide n Tryz.prog 12 #[.pointer (some ⟨b.br,0,none⟩),.int .i64 (p:Int)] w fun e w'=>∃ d,e=.returned (.bool d)∧w'=w:=by
 obtain ⟨o,ho⟩:=own_at hI hp
 exact (abusy n hp ho h).mono (fun e w' ⟨h1,h2⟩=>⟨_,h1,h2⟩)
theorem abeginB (n:Nat) (hI:RaceI c B x) (hp:p < c.n) (kd cv cg:Int) (hg:Gn cg) (h:Ev.Hold ctx (raceA b c x::r) w) :
  CallsIn Fence.wide n Tryz.prog 11 #[.pointer (some ⟨b.br,0,none⟩),.int .i64 (p:Int),.agg #[.int .i64 kd,.int .i64 cv,.int .i64 cg]] w fun e w'=>∃ x2 er,e=.returned (.int .i64 er)∧RaceI c B x2∧Ev.Hold ctx (raceA b c x2::r) w':=by
 obtain ⟨o,ho⟩:=own_at hI hp
 refine (abegin n hI.len ho kd cv cg h).mono (fun e w' ⟨h1,h2⟩=>⟨_,_,h1,?_,h2⟩)
 unfold begRace
 cases hN:newMac c p kd cv cg with
 | none=>exact hI
 | some M =>
  dsimp only
  split
  ·exact hI
  ·next hM=>exact (race_begin hI ho (by simpa using hM) (.inl hg) hN).1
theorem astepB (n:Nat) (hI:RaceI c B x) (hB:B+8≤1073741824) (hp:p < c.n) (h:Ev.Hold ctx (raceA b c x::r) w) :
  CallsIn Fence.wide n Tryz.prog 13 #[.pointer (some ⟨b.br,0,none⟩),.int .i64 (p:Int)] w fun e w'=>∃ x2 v,e=.returned v∧RaceI c (B+8) x2∧Ev.Hold ctx (raceA b c x2::r) w':=by
 obtain ⟨o,ho⟩:=own_at hI hp
 cases hM:o.mac with
 | none=>exact (aidle n hp ho hM h).mono (fun e w' ⟨h1,h2⟩=>⟨x,_,h1,⟨⟨hI.R.mem,hI.R.sl,fun q hq=>(hI.R.w q hq).mono (by omega),hI.R.h8,hB⟩,hI.len,fun q oq hq=>⟨(hI.ow q oq hq).dq,(hI.ow q oq hq).rs,fun M hM=>by
   obtain ⟨m1,m2,m3⟩:=(hI.ow q oq hq).mac M hM
   have hq2:q < c.n:=by rw [← hI.len]; exact (List.getElem?_eq_some_iff.1 hq).1
   exact ⟨m1,m2.keep (own:=fun _=>False) hI.R (fun v _=>.none (fun _=>rfl) rfl) hq2 (fun h=>h),m3⟩⟩,hI.ok⟩,h2⟩)
 | some M =>
  refine (astep n hI hB ho hM h).mono ?_
  rintro e w' ⟨a,kc,h1,h2⟩
  exact ⟨_,_,h1,(race_step hI hB ho hM).1,hold_drop (r:=[_]) h2⟩
theorem abeginS (n:Nat) (hI:RaceI c B x) (hp:p < c.n) (kd cv cg:Int) (hg:Gn cg) (h:Ev.Hold ctx (raceA b c x::r) w) :
  CallsIn Fence.wide n Tryz.prog 11 #[.pointer (some ⟨b.br,0,none⟩),.int .i64 (p:Int),.agg #[.int .i64 kd,.int .i64 cv,.int .i64 cg]] w fun e w'=>∃ x2 er,e=.returned (.int .i64 er)∧Ev.Hold ctx (raceA b c x2::r) w' ∧
   (er=0→∃ v:Nat,v < c.n∧(v:Int)=(if kd=3 then cv else (p:Int))∧SoloI c B x2 p kd (if kd=1 then -1 else (rl c x2.m v).headD (-1)) (4+2 * c.q)):=by
 obtain ⟨o,ho⟩:=own_at hI hp
 refine (abegin n hI.len ho kd cv cg h).mono (fun e w' ⟨h1,h2⟩=>⟨_,_,h1,h2,fun h0=>?_⟩)
 unfold begErr at h0
 unfold begRace
 cases hN:newMac c p kd cv cg with
 | none=>rw [hN] at h0; cases h0
 | some M =>
  cases hM:o.mac with
  | some M2=>rw [hN,hM] at h0; cases h0
  | none =>
   have hS:=solo_begin hI ho hM (.inl hg) hN
   dsimp only
   rw [show (none:Option MacS).isSome=false from rfl]
   refine ⟨if kd=3 then cv.toNat else p,?_,?_,?_⟩
   ·split
    ·next h3 =>
     unfold newMac at hN
     rw [if_neg (by omega),if_neg (by omega)] at hN
     split at hN
     ·omega
     ·cases hN
    ·exact hp
   ·split
    ·next h3 =>
     unfold newMac at hN
     rw [if_neg (by omega),if_neg (by omega)] at hN
     split at hN
     ·rw [Int.toNat_of_nonneg (by omega)]
     ·cases hN
    ·rfl
   ·exact hS
theorem SoloI.cast {B':Int} {k':Nat} (h:SoloI c B x p kd g k) (hb:B=B') (hk:k=k') : SoloI c B' x p kd g k':=by
 subst hb hk
 exact h
theorem solo_own (hS:SoloI c B x p kd g k) : p < c.n:=by
 obtain ⟨hI,o,M,ho,_⟩:=hS
 rw [← hI.len]
 exact (List.getElem?_eq_some_iff.1 ho).1
theorem solo_pos (hS:SoloI c B x p kd g k) (hB:B+8≤1073741824) : 1≤k:=by
 have hS':=hS
 obtain ⟨hI,o,M,ho,hM,_⟩:=hS'
 exact (solo_step hS hB ho hM).1
theorem astepS (n:Nat) (hS:SoloI c B x p kd g k) (hB:B+8≤1073741824) (h:Ev.Hold ctx (raceA b c x::r) w) :
  CallsIn Fence.wide n Tryz.prog 13 #[.pointer (some ⟨b.br,0,none⟩),.int .i64 (p:Int)] w fun e w'=>∃ x2 kk gg l a kc d,e=.returned (.tuple #[.agg #[.int .i64 kk,.int .i64 gg,.slice a l.length kc],.bool d])∧Ev.Hold ctx (isA (.slice a l.length kc) l::raceA b c x2::r) w' ∧
   (d=false→SoloI c (B+8) x2 p kd g (k - 1))∧(d=true→kk=kd∧gg=g∧RaceI c (B+8) x2∧∃ o,x2.ow[p]? = some o∧o.mac=none):=by
 have hp:=solo_own hS
 have hS':=hS
 obtain ⟨hI,o,M,ho,hM,_⟩:=hS'
 obtain ⟨k1,k2,k3⟩:=solo_step hS hB ho hM
 obtain ⟨r1,r2,r3,r4,r5⟩:=race_step hI hB ho hM
 have hst:=astep n hI hB ho hM h
 refine hst.mono ?_
 rintro e w' ⟨a,kc,rfl,hh⟩
 refine ⟨_,_,_,_,a,kc,_,rfl,hh,fun hd=>?_,fun hd=>?_⟩
 ·rcases k3 with ⟨k3,_⟩ | ⟨_,k3⟩
  ·unfold raceStep at hd
   rw [if_pos k3] at hd
   cases hd
  ·exact k3
 ·rcases k3 with ⟨k3,k4⟩ | ⟨k3,_⟩
  ·obtain ⟨o1,s1,_⟩:=r4.self
   have e1:raceStep c x p o M=((atPoint c x p o M).own p (o1.now none),some ⟨o.kd,(M.step c p x.m).1.got,(M.step c p x.m).1.over⟩):=by
    unfold raceStep
    rw [if_pos k3,r3,s1]
   refine ⟨?_,?_,r1,o1.now none,?_,rfl⟩
   ·rw [e1]; exact k2
   ·rw [e1]; exact k4
   ·rw [e1]
    show ((atPoint c x p o M).ow.set p (o1.now none))[p]? = _
    rw [List.getElem?_set_self (by rw [r4.len]; exact hp)]
  ·unfold raceStep at hd
   rw [if_neg k3] at hd
   cases hd
end
end Go.Proofs.YtkmccgombmogmaaGreat
namespace Go.Proofs.YtkmccgombmogmaaGreat
open Go.RowKit
set_option linter.unusedVariables false
set_option linter.unusedSimpArgs false
set_option maxRecDepth 8000
section
variable {F:Fence} {n:Nat} {P:Program}
theorem split4 {s1 s2 s3 r:Code} {Q:Exit→Act→World→Prop} {K:Act→World→Prop} (h:∀ a w,(Code.seq s1 (Code.seq s2 (Code.seq s3 r))).wpIn F n P Q a w→K a w) :
  ∃ K2 K3 K4:Act→World→Prop,(∀ a w,r.wpIn F n P Q a w→K4 a w)∧(∀ a w,s3.wpIn F n P (Exit.then K4 Q) a w→K3 a w)∧(∀ a w,s2.wpIn F n P (Exit.then K3 Q) a w→K2 a w)∧(∀ a w,s1.wpIn F n P (Exit.then K2 Q) a w→K a w) :=
 ⟨_,_,r.wpIn F n P Q,fun _ _ h=>h,fun _ _ h1=>wpIn_seq h1,fun _ _ h1=>wpIn_seq h1,fun _ _ h1=>h _ _ (wpIn_seq h1)⟩
end
set_option maxHeartbeats 4000000 in
theorem ends_in (m:Nat) (c0:Cf) {a0:Option Addr} {N k0:Nat} {L:List Value} {w:World} (pp kd cv cg:Int) (hs:Ev.SlR 1 (.slice a0 N k0) N L w) (hL:∀ j,j < N→∃ i:Int,0≤i∧i≤255∧L[j]? = some (.int .u8 i)) (hWk:∀ (m:Nat) (w:World),CallsIn Fence.wide m Tryz.prog 8 #[] w fun e w'=>e=.returned (.bool true)∧Below w.heap.size w w') :
  CallsIn Fence.wide m Tryz.prog 3 #[c0.v,.slice a0 N k0,.int .i64 pp,.agg #[.int .i64 kd,.int .i64 cv,.int .i64 cg]] w fun e w'=>e=.returned (.bool true)∧Below w.heap.size w w':=by
 refine callsIn_of_wp Tryz.func3 rfl trivial ?_ rfl
 simp only [Tryz.ntmps3,List.size_toArray,List.length_cons,List.length_nil,Nat.reduceAdd,Nat.reduceSub,Array.replicate_succ,Array.replicate_zero,List.push_toArray,List.append_toArray,List.nil_append,List.cons_append]
 obtain ⟨W0,hW0⟩ : ∃ W0,w.alloc (.cells #[.int .i64 c0.n,.int .i64 c0.q,.int .i64 c0.g,.int .i64 c0.m,.int .i64 c0.t,.int .i64 c0.s] 23)=W0:=⟨_,rfl⟩
 obtain ⟨W1,hW1⟩ : ∃ W1,W0.alloc (.cells #[.int .i64 kd,.int .i64 cv,.int .i64 cg] 26)=W1:=⟨_,rfl⟩
 have h00:Ev.Hold ⟨w,fun _=>False⟩ [] w:=Ev.Hold.start (Ev.now_nil w)
 have h0:Ev.Hold ⟨w,fun _=>False⟩ [Ev.blkA w.heap.size [.int .i64 c0.n,.int .i64 c0.q,.int .i64 c0.g,.int .i64 c0.m,.int .i64 c0.t,.int .i64 c0.s] 23] W0:=by rw [← hW0]; exact hold_new _ _ h00
 obtain ⟨bc,hbc⟩ : ∃ bc,w.heap.size=bc:=⟨_,rfl⟩
 rw [hbc] at h0
 have h1:Ev.Hold ⟨w,fun _=>False⟩ [Ev.blkA W0.heap.size [.int .i64 kd,.int .i64 cv,.int .i64 cg] 26,Ev.blkA bc [.int .i64 c0.n,.int .i64 c0.q,.int .i64 c0.g,.int .i64 c0.m,.int .i64 c0.t,.int .i64 c0.s] 23] W1:=by rw [← hW1]; exact hold_new _ _ h0
 obtain ⟨bl,hbl⟩ : ∃ bl,W0.heap.size=bl:=⟨_,rfl⟩
 rw [hbl] at h1
 replace h1:=h1.sel [1,0] (by kernel_rfl)
 have hB1:=h1.below (fun _=>id)
 by_cases hl:N≤8
 rotate_left
 ·have hlI:(N:Int) > (8:Int):=by omega
  gi_wp2
  refine ⟨trivial,fun h=>by simp [Fence.wide] at h,(hWk _ _).mono ?_⟩
  rintro e w2 ⟨rfl,hb⟩
  gi_wp2
  exact bodyPost_ret (results_tmp rfl _ _ _) rfl ⟨rfl,hB1.trans (hb.mono hB1.size)⟩
 have hlI:¬ (N:Int) > (8:Int):=by omega
 have hcs:∀ (r:List Ev.Asr) (ctx:Ev.Ctx) (c:Cf) (bc:Nat) (w':World),Ev.Hold ctx (Ev.blkA bc [.int .i64 c.n,.int .i64 c.q,.int .i64 c.g,.int .i64 c.m,.int .i64 c.t,.int .i64 c.s] 23 :: r) w'→w'.cell? ⟨bc,0,none⟩=some (.int .i64 c.n)∧w'.cell? ⟨bc,1,none⟩=some (.int .i64 c.q)∧w'.cell? ⟨bc,2,none⟩=some (.int .i64 c.g)∧w'.cell? ⟨bc,3,none⟩=some (.int .i64 c.m)∧w'.cell? ⟨bc,4,none⟩=some (.int .i64 c.t)∧w'.cell? ⟨bc,5,none⟩=some (.int .i64 c.s)∧(∀ j,w'.frozen? ⟨bc,j,none⟩=false) :=
  fun r ctx c bc w' hh=>⟨cell_of (hold_blk hh) 0 _ rfl,cell_of (hold_blk hh) 1 _ rfl,cell_of (hold_blk hh) 2 _ rfl,cell_of (hold_blk hh) 3 _ rfl,cell_of (hold_blk hh) 4 _ rfl,cell_of (hold_blk hh) 5 _ rfl,fun j=>froz_of (hold_blk hh) j⟩
 obtain ⟨d0,d1,d2,d3,d4,d5,d6⟩:=hcs _ _ _ _ _ h1
 obtain ⟨c,hc⟩ : ∃ c:Cfg,made c0=c:=⟨_,rfl⟩
 have hq8:=made_q8 c0
 have hmade:=made_ok c0 W1
 rw [hc] at hq8 hmade
 clear hc
 gi_wp2
 refine ⟨trivial,fun h=>by simp [Fence.wide] at h,(callsIn_wide.2 hmade).mono ?_⟩
 clear hmade
 rintro e w2 ⟨rfl,B2⟩
 have h2:=hold_keep h1 B2
 obtain ⟨p0,p1,p2,p3,p4,p5,p6⟩:=hcs _ _ _ _ _ h2
 obtain ⟨f0,f1,f2,f3,f4,f5⟩ : w2.frozen? ⟨bc,0,none⟩=false∧w2.frozen? ⟨bc,1,none⟩=false∧w2.frozen? ⟨bc,2,none⟩=false∧w2.frozen? ⟨bc,3,none⟩=false∧w2.frozen? ⟨bc,4,none⟩=false∧w2.frozen? ⟨bc,5,none⟩=false:=⟨p6 _,p6 _,p6 _,p6 _,p6 _,p6 _⟩
 have h3:=hold_set 5 (.int .i64 c.s) (hold_set 4 (.int .i64 c.t) (hold_set 3 (.int .i64 c.m) (hold_set 2 (.int .i64 c.g) (hold_set 1 (.int .i64 (c.q:Int)) (hold_set 0 (.int .i64 (c.n:Int)) h2)))))
 clear d0 d1 d2 d3 d4 d5 d6 p6
 replace h3:Ev.Hold ⟨w,fun _=>False⟩ [Ev.blkA bc (confL c) 23,Ev.blkA bl [.int .i64 kd,.int .i64 cv,.int .i64 cg] 26] _:=h3
 gi_wp2
 refine ⟨trivial,fun h=>by simp [Fence.wide] at h,(anew (m - 1) c h3).mono ?_⟩
 rintro e w4 ⟨b,rfl,h4⟩
 have hI0:=(race_new c hq8).1
 obtain ⟨x0,hx0⟩ : ∃ x0,newRace c=x0:=⟨_,rfl⟩
 rw [hx0] at h4 hI0
 clear hx0 p0 p1 p2 p3 p4 p5 f0 f1 f2 f3 f4 f5 h0 h1 h2 h3 h00 B2 hB1 hbc hbl
 have hcN:∀ (x:RaceS) (r:List Ev.Asr) (w':World),Ev.Hold ⟨w,fun _=>False⟩ (raceA b c x::Ev.blkA bc (confL c) 23 :: r) w'→w'.cell? ⟨bc,0,none⟩=some (.int .i64 (c.n:Int))∧w'.cell? ⟨bc,1,none⟩=some (.int .i64 (c.q:Int)) :=
  fun x r w' hh=>⟨cell_of (hold_blk (hold_swap hh)) 0 _ rfl,cell_of (hold_blk (hold_swap hh)) 1 _ rfl⟩
 clear hcs
 have hnb:=c.nb
 have hq9:c.q≤8:=by omega
 gi_wp2
 gi_loopw [11,12] (fun nx qv wr=>∃ (q nxt:Nat) (x:RaceS),nx=.int .i64 (nxt:Int)∧qv=.int .i64 (q:Int)∧q≤N∧nxt≤8 * q∧(∃ B:Int,B≤80 * (nxt:Int)∧RaceI c B x)∧Ev.Hold ⟨w,fun _=>False⟩ [raceA b c x,Ev.blkA bc (confL c) 23,Ev.blkA bl [.int .i64 kd,.int .i64 cv,.int .i64 cg] 26] wr) (fun _ qv _=>N - (intOf qv).toNat)
 case atStart=>exact ⟨0,0,x0,rfl,rfl,Nat.zero_le _,Nat.le_refl _,⟨0,by omega,hI0⟩,h4⟩
 case round =>
  rename_i KA aA
  have hKA:∀ (x:RaceS) (nxt:Nat) (w':World) (B:Int) {z12 z13 z14 z38 z39 z40 z41 z42 z43 z44 z45 z46 z47 z48 z49 z50 z51 z52 z53 z54 z55 z56 z57 z58 z59 z60 z61 z62 z63 z64 z65 z66 z67 z68 z69 z70 z71 z72 z73 z74 z75 z76 z77 z78 z79 z80 z81:Value},nxt≤64→B≤5120→RaceI c B x→Ev.Hold ⟨w,fun _=>False⟩ [raceA b c x,Ev.blkA bc (confL c) 23,Ev.blkA bl [.int .i64 kd,.int .i64 cv,.int .i64 cg] 26] w'→KA { tmps:=#[c0.v,.slice a0 N k0,.int .i64 pp,.agg #[.int .i64 kd,.int .i64 cv,.int .i64 cg],.pointer (some ⟨bc,0,none⟩),undef,undef,.pointer (some ⟨bl,0,none⟩),.bool false,.pointer (some ⟨b.br,0,none⟩),.int .i64 0,.int .i64 (nxt:Int),z12,z13,z14,undef,undef,undef,undef,undef,undef,.slice a0 N k0,.int .i64 (N:Int),.bool false,undef,.agg #[.int .i64 c0.n,.int .i64 c0.q,.int .i64 c0.g,.int .i64 c0.m,.int .i64 c0.t,.int .i64 c0.s],c.v,.tuple #[.pointer (some ⟨b.br,0,none⟩),.int .i64 0],.agg #[.int .i64 (c.n:Int),.int .i64 (c.q:Int),.int .i64 c.g,.int .i64 c.m,.int .i64 c.t,.int .i64 c.s],.tuple #[.pointer (some ⟨b.br,0,none⟩),.int .i64 0],.pointer (some ⟨b.br,0,none⟩),.int .i64 0,.int .i64 0,.bool false,.bool false,.pointer (some ⟨b.br,0,none⟩),.bool false,.bool false,z38,z39,z40,z41,z42,z43,z44,z45,z46,z47,z48,z49,z50,z51,z52,z53,z54,z55,z56,z57,z58,z59,z60,z61,z62,z63,z64,z65,z66,z67,z68,z69,z70,z71,z72,z73,z74,z75,z76,z77,z78,z79,z80,z81,undef,undef,undef,undef,undef,undef,undef,undef,undef,undef,undef,undef,undef,undef,undef,undef,undef,undef,undef,undef,undef,undef,undef,undef,undef,undef,undef,undef,undef,undef,undef,undef,undef,undef,undef,undef,undef,undef,undef,undef,undef,undef,undef,undef,undef,undef,undef,undef,undef,undef,undef,undef,undef,undef,undef,undef,undef,undef,undef,undef,undef,undef,undef,undef,undef,undef,undef,undef,undef,undef,undef,undef],defers:=[] } w':=by
   intro x nxt w' B z12 z13 z14 z38 z39 z40 z41 z42 z43 z44 z45 z46 z47 z48 z49 z50 z51 z52 z53 z54 z55 z56 z57 z58 z59 z60 z61 z62 z63 z64 z65 z66 z67 z68 z69 z70 z71 z72 z73 z74 z75 z76 z77 z78 z79 z80 z81 hnx hB hI hH
   clear hrel hI0 h4
   have hpl:=pickN_lt pp c.n hnb.1
   have hpk:=pickN pp c.n hnb.1 (by omega) w'
   obtain ⟨p,hp⟩ : ∃ p,(pick pp (c.n:Int)).toNat=p:=⟨_,rfl⟩
   rw [hp] at hpl hpk
   clear hp
   obtain ⟨y0,y1⟩:=hcN _ _ _ hH
   gi_wp2
   refine ⟨trivial,fun h=>by simp [Fence.wide] at h,(callsIn_wide.2 hpk).mono ?_⟩
   clear hpk y0 y1
   rintro e w6 ⟨rfl,B6⟩
   have h6:Ev.Hold ⟨w,fun _=>False⟩ [Ev.blkA bl [.int .i64 kd,.int .i64 cv,.int .i64 cg] 26,raceA b c x,Ev.blkA bc (confL c) 23] w6:=(hold_keep hH B6).sel [2,0,1] (by kernel_rfl)
   have q0:w6.cell? ⟨bl,0,none⟩=some (.int .i64 kd):=cell_of (hold_blk h6) 0 _ rfl
   have q1:w6.cell? ⟨bl,1,none⟩=some (.int .i64 cv):=cell_of (hold_blk h6) 1 _ rfl
   have q2:w6.cell? ⟨bl,2,none⟩=some (.int .i64 cg):=cell_of (hold_blk h6) 2 _ rfl
   have q3:w6.frozen? ⟨bl,2,none⟩=false:=froz_of (hold_blk h6) 2
   have h7:=hold_set 2 (.int .i64 (nxt:Int)) h6
   have h8:Ev.Hold ⟨w,fun _=>False⟩ [raceA b c x,Ev.blkA bc (confL c) 23,Ev.blkA bl [.int .i64 kd,.int .i64 cv,.int .i64 (nxt:Int)] 26] _:=h7.sel [1,2,0] (by kernel_rfl)
   clear hH h6 h7
   gi_wp2
   refine ⟨trivial,fun h=>by simp [Fence.wide] at h,(abeginS (m - 1) hI hpl kd cv (nxt:Int) ⟨by omega,by omega⟩ h8).mono ?_⟩
   clear h8 q0 q1 q2 q3 hI
   rename_i K23 a23 K22 a22 KL aL
   obtain ⟨K25,K26,K27,s27,s26,s25,s24⟩:=split4 a23
   clear a23
   have hK27:∀ (x9:RaceS) (v:Nat) (w9:World) {z12 z13 z14 z38 z39 z40 z41 z42 z43 z44 z45 z46 z47 z48 z49 z50 z51 z52 z53 z54 z55 z56 z57 z58 z59 z60 z61 z62 z63 z64 z65 z66 z67 z68 z69 z70 z71 z72 z73 z74 z75 z76 z77 z78 z79 z80 z81 z82 z83 z84 z85 z86 z87 z88 z89 z90 z91 z92 z93 z94 z95 z96 z97 z98 z99:Value},v < c.n→SoloI c B x9 p kd (if kd=1 then -1 else (rl c x9.m v).headD (-1)) (4+2 * c.q)→Ev.Hold ⟨w,fun _=>False⟩ [raceA b c x9,Ev.blkA bc (confL c) 23,Ev.blkA bl [.int .i64 kd,.int .i64 cv,.int .i64 (nxt:Int)] 26] w9→K26 { tmps:=#[c0.v,.slice a0 N k0,.int .i64 (p:Int),.agg #[.int .i64 kd,.int .i64 cv,.int .i64 cg],.pointer (some ⟨bc,0,none⟩),undef,undef,.pointer (some ⟨bl,0,none⟩),.bool false,.pointer (some ⟨b.br,0,none⟩),.int .i64 0,.int .i64 (nxt:Int),z12,z13,z14,.int .i64 (v:Int),undef,undef,undef,undef,undef,.slice a0 N k0,.int .i64 (N:Int),.bool false,undef,.agg #[.int .i64 c0.n,.int .i64 c0.q,.int .i64 c0.g,.int .i64 c0.m,.int .i64 c0.t,.int .i64 c0.s],c.v,.tuple #[.pointer (some ⟨b.br,0,none⟩),.int .i64 0],.agg #[.int .i64 (c.n:Int),.int .i64 (c.q:Int),.int .i64 c.g,.int .i64 c.m,.int .i64 c.t,.int .i64 c.s],.tuple #[.pointer (some ⟨b.br,0,none⟩),.int .i64 0],.pointer (some ⟨b.br,0,none⟩),.int .i64 0,.int .i64 0,.bool false,.bool false,.pointer (some ⟨b.br,0,none⟩),.bool false,.bool false,z38,z39,z40,z41,z42,z43,z44,z45,z46,z47,z48,z49,z50,z51,z52,z53,z54,z55,z56,z57,z58,z59,z60,z61,z62,z63,z64,z65,z66,z67,z68,z69,z70,z71,z72,z73,z74,z75,z76,z77,z78,z79,z80,z81,z82,z83,z84,z85,z86,z87,z88,z89,z90,z91,z92,z93,z94,z95,z96,z97,z98,z99,undef,undef,undef,undef,undef,undef,undef,undef,undef,undef,undef,undef,undef,undef,undef,undef,undef,undef,undef,undef,undef,undef,undef,undef,undef,undef,undef,undef,undef,undef,undef,undef,undef,undef,undef,undef,undef,undef,undef,undef,undef,undef,undef,undef,undef,undef,undef,undef,undef,undef,undef,undef,undef,undef],defers:=[] } w9:=by
    intro x9 v w9 z12 z13 z14 z38 z39 z40 z41 z42 z43 z44 z45 z46 z47 z48 z49 z50 z51 z52 z53 z54 z55 z56 z57 z58 z59 z60 z61 z62 z63 z64 z65 z66 z67 z68 z69 z70 z71 z72 z73 z74 z75 z76 z77 z78 z79 z80 z81 z82 z83 z84 z85 z86 z87 z88 z89 z90 z91 z92 z93 z94 z95 z96 z97 z98 z99 hv hS h9
    clear s25 s24 a22 aL
    have hring:=aringR (m - 1) hS.I hv h9
    obtain ⟨ls,hls⟩ : ∃ ls,rl c x9.m v=ls:=⟨_,rfl⟩
    rw [hls] at hring hS
    clear hls
    gi_wp2
    refine ⟨trivial,fun h=>by simp [Fence.wide] at h,hring.mono ?_⟩
    clear hring
    rintro e w10 ⟨ar,kr,rfl,h10⟩
    obtain ⟨g,hg⟩ : ∃ g,(if kd=1 then -1 else ls.headD (-1))=g:=⟨_,rfl⟩
    rw [hg] at hS
    clear h9
    have A:Aside ((if kd=1 then -1 else ls.headD (-1))=g):=hg
    clear hg
    have h11:Ev.Hold ⟨w,fun _=>False⟩ [raceA b c x9,Ev.blkA bc (confL c) 23,Ev.blkA bl [.int .i64 kd,.int .i64 cv,.int .i64 (nxt:Int)] 26,isA (.slice ar ls.length kr) ls] w10:=h10.sel [1,2,3,0] (by kernel_rfl)
    clear h10
    gi_wp2
    gi_loopw [17] (fun nv wr=>∃ (n:Nat) (x:RaceS),nv=.int .i64 (n:Int)∧1≤n∧n≤5+2 * c.q∧SoloI c (B+8 * ((n - 1:Nat) : Int)) x p kd g (5+2 * c.q - n)∧Ev.Hold ⟨w,fun _=>False⟩ [raceA b c x,Ev.blkA bc (confL c) 23,Ev.blkA bl [.int .i64 kd,.int .i64 cv,.int .i64 (nxt:Int)] 26,isA (.slice ar ls.length kr) ls] wr) (fun nv _=>6+2 * c.q - (intOf nv).toNat)
    case atStart=>exact ⟨1,x9,rfl,by omega,by omega,hS.cast (by omega) (by omega),h11⟩
    case round =>
     clear h11 hS
     obtain ⟨n,x,rfl,hn1,hn2,hS,hH⟩:=hrel
     have hp1:=solo_pos hS (by omega)
     have hnI:(n:Int)≤4+2 * (c.q:Int):=by omega
     have z1:=(hcN _ _ _ hH).2
     gi_wp2
     refine ⟨trivial,fun h=>by simp [Fence.wide] at h,(astepS (m - 1) hS (by omega) hH).mono ?_⟩
     rintro e w12 ⟨x2,kk,gg,l,a2,k2,d,rfl,h12,hF,hD⟩
     clear z1 hH hS
     obtain ⟨W8,hW8⟩ : ∃ W8,w12.alloc (.cells #[.int .i64 kk,.int .i64 gg,.slice a2 l.length k2] 37)=W8:=⟨_,rfl⟩
     have h8:=hold_new [.int .i64 kk,.int .i64 gg,.slice a2 l.length k2] 37 h12
     obtain ⟨bo,hbo⟩ : ∃ bo,w12.heap.size=bo:=⟨_,rfl⟩
     rw [hbo,show w12.alloc (.cells [Value.int .i64 kk,.int .i64 gg,.slice a2 l.length k2].toArray 37)=W8 from hW8] at h8
     cases d with
     | false =>
      have hS2:=hF rfl
      clear hF hD
      have h9:Ev.Hold ⟨w,fun _=>False⟩ [raceA b c x2,Ev.blkA bc (confL c) 23,Ev.blkA bl [.int .i64 kd,.int .i64 cv,.int .i64 (nxt:Int)] 26,isA (.slice ar ls.length kr) ls] W8:=h8.sel [2,3,4,5] (by kernel_rfl)
      clear h8 h12
      gi_wp2
      exact ⟨⟨n+1,x2,rfl,by omega,by omega,hS2.cast (by omega) (by omega),h9⟩,by simp [intOf]; omega⟩
     | true =>
      obtain ⟨rfl,rfl,hI2,o2,ho2,hm2⟩:=hD rfl
      clear hF hD h12
      have h9:Ev.Hold ⟨w,fun _=>False⟩ [raceA b c x2,Ev.blkA bc (confL c) 23,Ev.blkA bl [.int .i64 kk,.int .i64 cv,.int .i64 (nxt:Int)] 26,isA (.slice ar ls.length kr) ls,Ev.blkA bo [.int .i64 kk,.int .i64 gg,.slice a2 l.length k2] 37] W8:=h8.sel [2,3,4,5,0] (by kernel_rfl)
      clear h8
      have hB9:=h9.below (fun _=>id)
      have hbz:∀ {r:List Ev.Asr} {W:World},Ev.Hold ⟨w,fun _=>False⟩ (raceA b c x2::r) W→CallsIn Fence.wide (m - 1) Tryz.prog 12 #[.pointer (some ⟨b.br,0,none⟩),.int .i64 (p:Int)] W fun e w'=>e=.returned (.bool false)∧w'=W:=fun hh=>by
       have:=abusy (m - 1) hpl ho2 hh
       rw [hm2] at this
       exact this
      have y0:W8.cell? ⟨bl,0,none⟩=some (.int .i64 kk):=cell_of (hold_blk (hold_drop (r:=[_,_]) h9)) 0 _ rfl
      have t0:W8.cell? ⟨bo,0,none⟩=some (.int .i64 kk):=cell_of (hold_blk (hold_drop (r:=[_,_,_,_]) h9)) 0 _ rfl
      have t1:W8.cell? ⟨bo,1,none⟩=some (.int .i64 gg):=cell_of (hold_blk (hold_drop (r:=[_,_,_,_]) h9)) 1 _ rfl
      have hsl:=hold_slr (hold_drop (r:=[_,_,_]) h9)
      by_cases hk1:kk=1
      ·have hgm:gg = -1:=by
        have:=A.out
        rw [if_pos hk1] at this
        exact this.symm
       subst hgm
       subst hk1
       gi_wp2
       refine ⟨trivial,fun h=>by simp [Fence.wide] at h,(afits (m - 1) hI2.ok h9).mono ?_⟩
       rintro e w15 ⟨rfl,hw15⟩
       replace hw15:=hw15.symm
       subst hw15
       gi_wp2
       refine ⟨trivial,fun h=>by simp [Fence.wide] at h,(hbz h9).mono ?_⟩
       rintro e w16 ⟨rfl,hw16⟩
       replace hw16:=hw16.symm
       subst hw16
       gi_wp2
       refine ⟨trivial,fun h=>by simp [Fence.wide] at h,(hWk _ _).mono ?_⟩
       rintro e w17 ⟨rfl,hb⟩
       gi_wp2
       exact bodyPost_ret (results_tmp rfl _ _ _) rfl ⟨rfl,hB9.trans (hb.mono hB9.size)⟩
      ·by_cases hl0:ls=[]
       ·have hgm:gg = -1:=by
         have:=A.out
         rw [if_neg hk1,hl0] at this
         exact this.symm
        subst hgm
        have hll:¬ (ls.length:Int) > 0:=by rw [hl0]; decide
        gi_wp2
        refine ⟨trivial,fun h=>by simp [Fence.wide] at h,(afits (m - 1) hI2.ok h9).mono ?_⟩
        rintro e w15 ⟨rfl,hw15⟩
        replace hw15:=hw15.symm
        subst hw15
        gi_wp2
        refine ⟨trivial,fun h=>by simp [Fence.wide] at h,(hbz h9).mono ?_⟩
        rintro e w16 ⟨rfl,hw16⟩
        replace hw16:=hw16.symm
        subst hw16
        gi_wp2
        refine ⟨trivial,fun h=>by simp [Fence.wide] at h,(hWk _ _).mono ?_⟩
        rintro e w17 ⟨rfl,hb⟩
        gi_wp2
        exact bodyPost_ret (results_tmp rfl _ _ _) rfl ⟨rfl,hB9.trans (hb.mono hB9.size)⟩
       ·have hpos:0 < ls.length:=List.length_pos_iff.2 hl0
        have hll:(ls.length:Int) > 0:=by omega
        obtain ⟨ba2,off2,har,hc0⟩:=slr_cell hsl hpos
        rw [Nat.add_zero] at hc0
        have hgm:ls.getD 0 0=gg:=by
         have:=A.out
         rw [if_neg hk1] at this
         rw [← this]
         cases ls with
         | nil=>exact absurd rfl hl0
         | cons a l=>rfl
        rw [hgm] at hc0
        subst har
        clear hgm
        gi_wp2
        refine ⟨trivial,fun h=>by simp [Fence.wide] at h,(afits (m - 1) hI2.ok h9).mono ?_⟩
        rintro e w15 ⟨rfl,hw15⟩
        replace hw15:=hw15.symm
        subst hw15
        gi_wp2
        refine ⟨trivial,fun h=>by simp [Fence.wide] at h,(hbz h9).mono ?_⟩
        rintro e w16 ⟨rfl,hw16⟩
        replace hw16:=hw16.symm
        subst hw16
        gi_wp2
        refine ⟨trivial,fun h=>by simp [Fence.wide] at h,(hWk _ _).mono ?_⟩
        rintro e w17 ⟨rfl,hb⟩
        gi_wp2
        exact bodyPost_ret (results_tmp rfl _ _ _) rfl ⟨rfl,hB9.trans (hb.mono hB9.size)⟩
   rintro e w9 ⟨x9,er,rfl,h9,hS⟩
   by_cases her:er=0
   rotate_left
   ·gi_wp2
    refine ⟨trivial,fun h=>by simp [Fence.wide] at h,(hWk _ _).mono ?_⟩
    rintro e w2 ⟨rfl,hb⟩
    have hB1:=h9.below (fun _=>id)
    gi_wp2
    exact bodyPost_ret (results_tmp rfl _ _ _) rfl ⟨rfl,hB1.trans (hb.mono hB1.size)⟩
   obtain ⟨v,hv,hvk,hS2⟩:=hS her
   clear hS
   subst her
   have j0:w9.cell? ⟨bl,0,none⟩=some (.int .i64 kd):=cell_of (hold_blk (hold_drop (r:=[_,_]) h9)) 0 _ rfl
   have j1:w9.cell? ⟨bl,1,none⟩=some (.int .i64 cv):=cell_of (hold_blk (hold_drop (r:=[_,_]) h9)) 1 _ rfl
   by_cases h3:kd=3
   ·rw [if_pos h3] at hvk
    subst h3
    have hvk2:=hvk.symm
    subst hvk2
    gi_wp2
    exact hK27 x9 v w9 hv hS2 h9
   ·rw [if_neg h3] at hvk
    obtain rfl:v=p:=by omega
    gi_wp2
    exact hK27 x9 v w9 hv hS2 h9
  obtain ⟨q,nxt,x,rfl,rfl,hq,hnx,⟨B,hB,hI⟩,hH⟩:=hrel
  obtain ⟨z0,z1⟩:=hcN _ _ _ hH
  by_cases hqn:q < c.n∧q < N
  ·obtain ⟨hqn,hqN⟩:=hqn
   have hqI:(q:Int) < (c.n:Int):=by omega
   have hqI2:(q:Int) < (N:Int):=by omega
   obtain ⟨u,hu0,hu1,hu⟩:=hL q hqN
   rcases hs.2 with ⟨e,_⟩ | ⟨ba,off,c1,hv,hb,hc⟩
   ·omega
   cases hv
   have hgt:∀ W:World,Below w.heap.size w W→W.cell? ⟨ba,off+q,none⟩=some (.int .u8 u):=fun W hW=>by
    rw [hW.cell (p:=⟨ba,off+q,none⟩) hb.1,hc q (by omega),hu]
   have hcc:∀ (x:RaceS) (r:List Ev.Asr) (w':World),Ev.Hold ⟨w,fun _=>False⟩ (raceA b c x::Ev.blkA bc (confL c) 23 :: r) w'→w'.cell? ⟨ba,off+q,none⟩=some (.int .u8 u)∧w'.cell? ⟨bc,1,none⟩=some (.int .i64 (c.q:Int)):=fun x r w' hh=>⟨hgt w' (hh.below (fun _=>id)),(hcN x r w' hh).2⟩
   clear hgt
   gi_wp2
   gi_loopw [11,13] (fun nx kv wr=>∃ (k nx':Nat) (x:RaceS),nx=.int .i64 (nx':Int)∧kv=.int .i64 (k:Int)∧k≤8∧nx'≤8 * q+k∧(∃ B:Int,B≤80 * (nx':Int)∧RaceI c B x)∧Ev.Hold ⟨w,fun _=>False⟩ [raceA b c x,Ev.blkA bc (confL c) 23,Ev.blkA bl [.int .i64 kd,.int .i64 cv,.int .i64 cg] 26] wr) (fun _ kv _=>8 - (intOf kv).toNat)
   case atStart=>exact ⟨0,nxt,x,rfl,rfl,by omega,by omega,⟨B,hB,hI⟩,hH⟩
   case round =>
    clear hH hI hB hnx z0 z1
    obtain ⟨k,nx,x,rfl,rfl,hk,hnx,⟨B,hB,hI⟩,hH⟩:=hrel
    have hd:=hold_keep hH ((Below.refl _ wr).drew)
    obtain ⟨y0,y1⟩:=hcc _ _ _ hd
    have hne0:¬ ((c.q:Int)+1=0):=by omega
    have hs0:u.tmod ((c.q:Int)+1) < (c.q:Int)+1:=Int.tmod_lt_of_pos _ (by omega)
    have hs1:0≤u.tmod ((c.q:Int)+1):=Int.tmod_nonneg _ hu0
    have hwu:IntKind.i64.wrap u=u:=wrap_ok (by omega) (by omega)
    have hwq:IntKind.i64.wrap ((c.q:Int)+1)=(c.q:Int)+1:=wrap_ok (by omega) (by omega)
    have hwr:IntKind.i64.wrap (u.tmod ((c.q:Int)+1))=u.tmod ((c.q:Int)+1):=wrap_ok (by omega) (by omega)
    by_cases hks:(k:Int) < u.tmod ((c.q:Int)+1)
    ·gi_wp2
     refine wpIn_wide.2 ?_
     go_region_held3 (fun w'=>w'.cell? ⟨ba,off+q,none⟩=some (.int .u8 u)∧w'.cell? ⟨bc,1,none⟩=some (.int .i64 (c.q:Int))) ((exact ⟨y0,y1⟩)) ((first | (fail)))
     have hk8:k < 8:=by omega
     clear y0 y1 hH
     gi_wp2
     refine ⟨trivial,fun h=>by simp [Fence.wide] at h,(abeginB (m - 1) hI hqn 1 0 (nx:Int) ⟨by omega,by omega⟩ hd).mono ?_⟩
     rintro e w6 ⟨x6,er,rfl,hI6,h6⟩
     clear hd
     gi_wp2
     gi_loopw [14] (fun iv wr=>∃ (i:Nat) (x:RaceS),iv=.int .i64 (i:Int)∧i≤9∧RaceI c (B+8 * (i:Int)) x∧Ev.Hold ⟨w,fun _=>False⟩ [raceA b c x,Ev.blkA bc (confL c) 23,Ev.blkA bl [.int .i64 kd,.int .i64 cv,.int .i64 cg] 26] wr) (fun iv _=>9 - (intOf iv).toNat)
     case atStart=>exact ⟨0,x6,rfl,by omega,by simpa using hI6,h6⟩
     case round =>
      clear h6 hI6 hI
      obtain ⟨i,x7,rfl,hi,hI7,h7⟩:=hrel
      by_cases hi9:i < 9
      ·have hiI:(i:Int) < 9:=by omega
       gi_wp2
       refine ⟨trivial,fun h=>by simp [Fence.wide] at h,(abusyB (m - 1) hI7 hqn h7).mono ?_⟩
       rintro e w8 ⟨d,rfl,rfl⟩
       cases d with
       | true =>
        gi_wp2
        refine ⟨trivial,fun h=>by simp [Fence.wide] at h,(astepB (m - 1) hI7 (by omega) hqn h7).mono ?_⟩
        rintro e w9 ⟨x9,v9,rfl,hI9,h9⟩
        gi_wp2
        exact ⟨⟨i+1,x9,rfl,by omega,by rw [show B+8 * ((i+1:Nat) : Int)=B+8 * (i:Int)+8 by omega]; exact hI9,h9⟩,by simp [intOf]; omega⟩
       | false =>
        gi_wp2
        exact ⟨⟨k+1,nx+1,x7,rfl,rfl,by omega,by omega,⟨_,by omega,hI7⟩,h7⟩,by simp [intOf]; omega⟩
      ·have hiI:¬ (i:Int) < 9:=by omega
       gi_wp2
       refine ⟨trivial,?_⟩
       gi_wp2
       exact ⟨⟨k+1,nx+1,x7,rfl,rfl,by omega,by omega,⟨_,by omega,hI7⟩,h7⟩,by simp [intOf]; omega⟩
    ·gi_wp2
     refine wpIn_wide.2 ?_
     go_region_held3 (fun w'=>w'.cell? ⟨ba,off+q,none⟩=some (.int .u8 u)∧w'.cell? ⟨bc,1,none⟩=some (.int .i64 (c.q:Int))) ((exact ⟨y0,y1⟩)) ((first | (fail)))
     clear y0 y1 hH
     gi_wp2
     exact ⟨⟨q+1,nx,x,rfl,rfl,by omega,by omega,⟨B,hB,hI⟩,hd⟩,by simp [intOf]; omega⟩
  ·have hn64:nxt≤64:=by omega
   by_cases hqn2:q < c.n
   ·have hqN2:¬ q < N:=fun h=>hqn ⟨hqn2,h⟩
    have hqI:(q:Int) < (c.n:Int):=by omega
    have hqI2:¬ (q:Int) < (N:Int):=by omega
    gi_wp2
    exact hKA x nxt wr B hn64 (by omega) hI hH
   ·have hqI:¬ (q:Int) < (c.n:Int):=by omega
    gi_wp2
    exact hKA x nxt wr B hn64 (by omega) hI hH
end Go.Proofs.YtkmccgombmogmaaGreat
namespace Go.Proofs.YtkmccgombmogmaaGreat
open Go.RowKit
set_option linter.unusedVariables false
set_option linter.unusedSimpArgs false
set_option maxRecDepth 8000
section
variable {w:World} {p:Int}
theorem there0 (n:Nat) (p:Int) (w:World) : CallsIn Fence.wide n Tryz.prog 32 #[.pointer none,.int .i64 p] w fun e w'=>e=.returned (.bool false)∧w'=w:=by
 refine wen Tryz.func32 18 ?_
 gi_wp2
 exact bodyPost_ret (results_tmp rfl _ _ _) rfl ⟨rfl,rfl⟩
theorem busy0 (n:Nat) (p:Int) (w:World) : CallsIn Fence.wide n Tryz.prog 12 #[.pointer none,.int .i64 p] w fun e w'=>e=.returned (.bool false)∧w'=w:=by
 refine wen Tryz.func12 17 ?_
 gi_wp2
 refine wcl (there0 (n - 1) p _) ?_
 rintro e w1 ⟨rfl,rfl⟩
 gi_wp2
 exact bodyPost_ret (results_tmp rfl _ _ _) rfl ⟨rfl,rfl⟩
theorem ring0 (n:Nat) (p:Int) (w:World) : CallsIn Fence.wide n Tryz.prog 15 #[.pointer none,.int .i64 p] w fun e w'=>e=.returned (.slice none 0 0)∧w'=w:=by
 refine wen Tryz.func15 50 ?_
 gi_wp2
 refine wcl (there0 (n - 1) p _) ?_
 rintro e w1 ⟨rfl,rfl⟩
 gi_wp2
 exact bodyPost_ret (results_tmp rfl _ _ _) rfl ⟨rfl,rfl⟩
theorem deque0 (n:Nat) (p:Int) (w:World) : CallsIn Fence.wide n Tryz.prog 18 #[.pointer none,.int .i64 p] w fun e w'=>e=.returned (.slice none 0 0)∧w'=w:=by
 refine wen Tryz.func18 16 ?_
 gi_wp2
 refine wcl (there0 (n - 1) p _) ?_
 rintro e w1 ⟨rfl,rfl⟩
 gi_wp2
 exact bodyPost_ret (results_tmp rfl _ _ _) rfl ⟨rfl,rfl⟩
theorem hands0 (n:Nat) (p:Int) (w:World) : CallsIn Fence.wide n Tryz.prog 19 #[.pointer none,.int .i64 p] w fun e w'=>e=.returned (.slice none 0 0)∧w'=w:=by
 refine wen Tryz.func19 16 ?_
 gi_wp2
 refine wcl (busy0 (n - 1) p _) ?_
 rintro e w1 ⟨rfl,rfl⟩
 gi_wp2
 exact bodyPost_ret (results_tmp rfl _ _ _) rfl ⟨rfl,rfl⟩
theorem points0 (n:Nat) (w:World) : CallsIn Fence.wide n Tryz.prog 28 #[.pointer none] w fun e w'=>e=.returned (.int .i64 0)∧w'=w:=by
 refine wen Tryz.func28 8 ?_
 gi_wp2
 exact bodyPost_ret (results_tmp rfl _ _ _) rfl ⟨rfl,rfl⟩
theorem fits0 (n:Nat) (w:World) : CallsIn Fence.wide n Tryz.prog 16 #[.pointer none] w fun e w'=>e=.returned (.bool true)∧w'=w:=by
 refine wen Tryz.func16 11 ?_
 gi_wp2
 exact bodyPost_ret (results_tmp rfl _ _ _) rfl ⟨rfl,rfl⟩
theorem begin0 (n:Nat) (p kd cv cg:Int) (w:World) : CallsIn Fence.wide n Tryz.prog 11 #[.pointer none,.int .i64 p,.agg #[.int .i64 kd,.int .i64 cv,.int .i64 cg]] w fun e w'=>e=.returned (.int .i64 1)∧Below w.heap.size w w':=by
 refine wen Tryz.func11 91 ?_
 gi_wp2
 exact bodyPost_ret (results_tmp rfl _ _ _) rfl ⟨rfl,below_new _⟩
theorem step0 (n:Nat) (p:Int) (w:World) : CallsIn Fence.wide n Tryz.prog 13 #[.pointer none,.int .i64 p] w fun e w'=>e=.returned (.tuple #[.agg #[.int .i64 0,.int .i64 0,.slice none 0 0],.bool false])∧Below w.heap.size w w':=by
 have h0:Ev.Hold ⟨w,fun _=>False⟩ [] w:=Ev.Hold.start (Ev.now_nil w)
 obtain ⟨b1,W1,hb1,hW1,q1⟩:=newN oZ3 37 h0
 obtain ⟨W2,s2,q2⟩:=st_all (t := 37) (cs':=oZ3) q1 rfl (by simp [Value.oneCell']) (by kernel_rfl)
 refine wen Tryz.func13 69 ?_
 gi_wp2
 refine wcl (busy0 (n - 1) p _) ?_
 rintro e w1 ⟨rfl,rfl⟩
 gi_wp2_with (refine wpListIn_store_run rfl _ _ _ rfl s2 rfl rfl ?_)
 exact post_cellT rfl rfl rfl (lv_all q2 Tryz.underlying37 rfl (by kernel_rfl)) ⟨rfl,q2.below (fun _=>id)⟩
set_option maxHeartbeats 4000000 in
theorem none_in (n:Nat) (p kd cv cg:Int) (w:World) : CallsIn Fence.wide n Tryz.prog 6 #[.int .i64 p,.agg #[.int .i64 kd,.int .i64 cv,.int .i64 cg]] w fun e w'=>e=.returned (.bool true)∧Below w.heap.size w w':=by
 have h0:Ev.Hold ⟨w,fun _=>False⟩ [] w:=Ev.Hold.start (Ev.now_nil w)
 obtain ⟨b1,W1,hb1,hW1,q1⟩:=newN [.int .i64 kd,.int .i64 cv,.int .i64 cg] 26 h0
 refine wen Tryz.func6 70 ?_
 gi_wp2
 refine wcl (step0 (n - 1) p _) ?_
 rintro e w1 ⟨rfl,B1⟩
 have q2:=hold_keep q1 B1
 obtain ⟨b2,W2,hb2,hW2,q3⟩:=newN oZ3 37 q2
 obtain ⟨W3,s3,q4⟩:=st_all (t := 37) (cs':=oZ3) q3 rfl (by simp [Value.oneCell']) (by kernel_rfl)
 have l1:=ld_all (hold_up [_] q4) Tryz.underlying26 rfl (by kernel_rfl)
 gi_wp2_with (first | refine wpListIn_store_run rfl _ _ _ rfl s3 rfl rfl ?_ | refine wpListIn_load_run rfl _ _ rfl l1 rfl ?_)
 refine wcl (begin0 (n - 1) p kd cv cg _) ?_
 rintro e w4 ⟨rfl,B4⟩
 have q5:=hold_keep q4 B4
 have z0:=blkc q5 0 _
 have z1:=blkc q5 1 _
 have z2:=blkc q5 2 _
 gi_wp2
 refine wcl (busy0 (n - 1) p _) ?_
 rintro e w5 ⟨rfl,rfl⟩
 gi_wp2
 refine wcl (ring0 (n - 1) p _) ?_
 rintro e w5 ⟨rfl,rfl⟩
 gi_wp2
 refine wcl (deque0 (n - 1) p _) ?_
 rintro e w5 ⟨rfl,rfl⟩
 gi_wp2
 refine wcl (hands0 (n - 1) p _) ?_
 rintro e w5 ⟨rfl,rfl⟩
 gi_wp2
 refine wcl (points0 (n - 1) _) ?_
 rintro e w5 ⟨rfl,rfl⟩
 gi_wp2
 refine wcl (fits0 (n - 1) _) ?_
 rintro e w5 ⟨rfl,rfl⟩
 gi_wp2
 refine wcw (works_any _) ?_
 rintro e w6 ⟨rfl,B6⟩
 gi_wp2
 exact bodyPost_ret (results_tmp rfl _ _ _) rfl ⟨rfl,(hold_keep q5 B6).below (fun _=>id)⟩
end
end Go.Proofs.YtkmccgombmogmaaGreat
namespace Go.Proofs.YtkmccgombmogmaaGreat
open Go.ChangeShapes Go.WideShapes Go.ChangeAt Go.RowKit Go.Deep
set_option linter.unusedVariables false
set_option linter.unusedSimpArgs false
set_option maxRecDepth 100000
theorem raceKnown_walk (w:World) : Calls Tryz.prog 7 #[] w (yes w) :=
 have hW:WorksC:=fun m w=>callsIn_wide.2 (works_any w)
 callsIn_wide.1 (known_in (fun m c0 _ _ _ _ _ hs hL=>plays_in m c0 hs hL hW) (fun m c0 _ _ _ _ _ hs hL=>fits_in m c0 hs hL hW) (fun m c0 _ _ _ _ _ pp kd cv cg hs hL=>ends_in m c0 pp kd cv cg hs hL hW) none_in hW 0 w)
theorem raceKnown_contract (H:Type) (enc:TypeId×Value→H) (W:World) (base:Nat) (args:Array Value) (ds gs:List (DataW H)) (before:List MemPlace)
  (hval:∀ (j:Nat) t v,Tryz.f7.params[j]? = some t→args[j]? = some v→Value.okWide Tryz.prog W .any base t v)
  (hW:DataW.Whole enc Tryz.prog Tryz.f7.params.toList Rows.raceKnownSpec.vars false W args.toList ds gs before) :
  Calls Tryz.prog 7 args W fun e W'=>∃ v,e=.returned v∧Rows.raceKnownSpec.post enc Tryz.prog Tryz.f7 false true false false W args v W':=by
 have hW':=hW
 obtain ⟨p,q,hA0,hV,rfl,hfz,hnd⟩:=hW
 have hA:DataW.TrodAll enc Tryz.prog W 0 (fun _=>true) true Tryz.f7.params.toList args.toList ds p:=hA0
 rw [Tryz.params7] at hA hval
 obtain ⟨hargs0,rfl,rfl⟩:=trodAll_nil hA
 obtain rfl:args = #[]:=by cases args; simp_all
 refine (raceKnown_walk W).mono fun x W' ⟨he,hb⟩=>?_
 subst he
 exact ⟨_,rfl,law_post laidOut hW' rfl (by kernel_rfl) Tryz.underlying4 rfl (by
  rw [Tryz.params7]
  intro t ht
  cases ht) hb⟩
set_option maxRecDepth 100000 in
theorem raceKnown_lifted (os:Os) (started:os.Started) (H:Type) (enc:TypeId×Value→H) :
  ReturnsInHanded {} Tryz.checked os 7 .any (Rows.raceKnownSpec.pre6 enc Tryz.prog Tryz.f7 Rows.raceKnownRow.domain false) (Rows.raceKnownSpec.post enc Tryz.prog Tryz.f7 false true false false):=by
 refine returnsInHanded_of_change (C:=Tryz.checked) own started (by kernel_rfl) Tryz.func7
  (ChangeSpec.witness6 (enc:=enc) (C:=Tryz.checked) false ⟨#[],#[],[]⟩ 8 (by kernel_rfl) (by kernel_rfl) (by kernel_rfl) (by kernel_rfl)) ?_
 intro W base args ds gs before hval hW _ _
 exact raceKnown_contract H enc W base args ds gs before hval hW
theorem raceKnown_holds:Rows.RaceKnownSaid :=
 OpenClaim.holds_of_wide 7 Tryz.f7 rfl rfl rfl rfl rfl rfl rfl ⟨rfl,rfl,rfl,rfl,rfl⟩ rfl rfl rfl rfl rfl (by kernel_rfl) Tryz.func7 (by kernel_rfl)
  (of_decide_eq_true (by kernel_rfl)) (by unfold Func.isWrapper; first | (rw [if_pos (by decide +kernel)]; kernel_rfl) | (rw [if_neg (by decide +kernel)]; exact ⟨rfl,rfl⟩))
  (fun os started H enc _=>raceKnown_lifted os started H enc)
end Go.Proofs.YtkmccgombmogmaaGreat
