/- Part of a proof: see the last text. -/
import Derived.Test.YtkmccgombmogmaaGreatZk15
import Derived.Test.YtkmccgombmogmaaGreatZk26
import Derived.Test.YtkmccgombmogmaaGreatRows
import Derived.WalkKit
import Derived.ProofKit
import Derived.OpenShut
import Derived.Carry
import Derived.Deep.Fields
import Derived.Test.YtkmccgombmogmaaGreatZk0
import Derived.Deep.Slices
import Derived.ChangeSame
import Derived.Test.YtkmccgombmogmaaGreatZk9
namespace Go.Proofs.YtkmccgombmogmaaGreat
open Go.RowKit
set_option linter.unusedVariables false
set_option linter.unusedSimpArgs false
set_option maxRecDepth 8000
section
variable {F:Fence} {n:Nat} {P:Program}
theorem split5 {s1 s2 s3 s4 r:Code} {Q:Exit→Act→World→Prop} {K:Act→World→Prop} (h:∀ a w,(Code.seq s1 (Code.seq s2 (Code.seq s3 (Code.seq s4 r)))).wpIn F n P Q a w→K a w) :
  ∃ K2 K3 K4 K5:Act→World→Prop,(∀ a w,r.wpIn F n P Q a w→K5 a w)∧(∀ a w,s4.wpIn F n P (Exit.then K5 Q) a w→K4 a w)∧(∀ a w,s3.wpIn F n P (Exit.then K4 Q) a w→K3 a w)∧(∀ a w,s2.wpIn F n P (Exit.then K3 Q) a w→K2 a w)∧(∀ a w,s1.wpIn F n P (Exit.then K2 Q) a w→K a w) :=
 ⟨_,_,_,r.wpIn F n P Q,fun _ _ h=>h,fun _ _ h1=>wpIn_seq h1,fun _ _ h1=>wpIn_seq h1,fun _ _ h1=>wpIn_seq h1,fun _ _ h1=>h _ _ (wpIn_seq h1)⟩
end
section
variable {c:Cfg} {x:RaceS} {B:Int} {k n:Nat}
def upR (c:Cfg) (x:RaceS) (k:Nat) : List Int:=(List.range k).flatMap (fun q=>rl c x.m q++handsAt x q)
theorem upR_all:allR c x=upR c x c.n:=rfl
theorem upR_zero:upR c x 0=[]:=rfl
theorem upR_succ:upR c x (k+1)=upR c x k++(rl c x.m k++handsAt x k):=by
 unfold upR
 rw [List.range_succ,List.flatMap_append,List.flatMap_singleton]
theorem upR_le (h:k≤n) : (upR c x k).length≤(upR c x n).length:=by
 obtain ⟨d,rfl⟩:=Nat.exists_eq_add_of_le h
 clear h
 induction d with
 | zero=>exact Nat.le_refl _
 | succ d ih =>
  rw [← Nat.add_assoc,upR_succ,List.length_append]
  omega
attribute [irreducible] upR
theorem own_facts (hI:RaceI c B x) {q:Nat} (hq:q < c.n) : ∃ o,x.ow[q]? = some o∧DqOk c o.dq∧ringL c x.m q=dqAll c o.dq∧ringL c x.m q=rl c x.m q∧handsAt x q=handsO o∧∀ M,o.mac=some M→MacOk c q M:=by
 have hl:q < x.ow.length:=by rw [hI.len]; exact hq
 refine ⟨x.ow[q],List.getElem?_eq_getElem hl,?_⟩
 have hO:=hI.ow q _ (List.getElem?_eq_getElem hl)
 have hs:∀ i,Gn (sl c x.m q i):=fun i=>hI.R.sl q hq i
 have h1:=hO.dq.same hs
 refine ⟨hO.dq.ok,h1,?_,?_,fun M h=>macI_ok (hO.mac M h).2.1⟩
 ·rw [h1,hO.dq.l]
 ·unfold handsAt handsL
  rw [List.getElem?_eq_getElem hl]
  rfl
variable {ctx:Ev.Ctx} {w:World} {r:List Ev.Asr} {b:RB} {p:Nat}
theorem aringR (n:Nat) (hI:RaceI c B x) (hp:p < c.n) (h:Ev.Hold ctx (raceA b c x::r) w) :
  CallsIn Fence.wide n Tryz.prog 15 #[.pointer (some ⟨b.br,0,none⟩),.int .i64 (p:Int)] w fun e w'=>∃ a k,e=.returned (.slice a (rl c x.m p).length k)∧Ev.Hold ctx (isA (.slice a (rl c x.m p).length k) (rl c x.m p)::raceA b c x::r) w':=by
 obtain ⟨o,ho,hd,h1,h2,h3,hM⟩:=own_facts hI hp
 have:=aring n hp hI.R.mem h
 rw [h2] at this
 exact this
theorem adequeR (n:Nat) (hI:RaceI c B x) (hp:p < c.n) (h:Ev.Hold ctx (raceA b c x::r) w) :
  CallsIn Fence.wide n Tryz.prog 18 #[.pointer (some ⟨b.br,0,none⟩),.int .i64 (p:Int)] w fun e w'=>∃ a k,e=.returned (.slice a (rl c x.m p).length k)∧Ev.Hold ctx (isA (.slice a (rl c x.m p).length k) (rl c x.m p)::raceA b c x::r) w':=by
 obtain ⟨o,ho,hd,h1,h2,h3,hM⟩:=own_facts hI hp
 have:=adeque n (by have:=hI.R.h8; omega) hp ho hd h
 rw [← h1,h2] at this
 exact this
theorem ahandsR (n:Nat) (hI:RaceI c B x) (hp:p < c.n) (h:Ev.Hold ctx (raceA b c x::r) w) :
  CallsIn Fence.wide n Tryz.prog 19 #[.pointer (some ⟨b.br,0,none⟩),.int .i64 (p:Int)] w fun e w'=>∃ a k,e=.returned (.slice a (handsAt x p).length k)∧Ev.Hold ctx (isA (.slice a (handsAt x p).length k) (handsAt x p)::raceA b c x::r) w':=by
 obtain ⟨o,ho,hd,h1,h2,h3,hM⟩:=own_facts hI hp
 have:=ahands n hp ho hI.R.mem hM h
 rw [← h3] at this
 exact this
end
section
variable {c:Cfg} {x:RaceS} {B:Int} {p:Nat} {o:OwnS} {M:MacS} {ctx:Ev.Ctx} {w:World} {r:List Ev.Asr} {b:RB}
theorem perm4 (A O l g:List Int) : (A++((O++l)++g)).Perm ((A++(l++g))++O):=by
 rw [List.append_assoc A,List.append_assoc O]
 exact List.Perm.append_left A List.perm_append_comm
theorem perm5 (A O g:List Int) : ((A++g)++O).Perm ((A++O)++g):=by
 rw [List.append_assoc,List.append_assoc]
 exact List.Perm.append_left A List.perm_append_comm
theorem nums_succ (n:Nat) : nums (n+1)=nums n++[(n:Int)]:=by simp [nums,List.range_succ]
theorem step_cases (hI:RaceI c B x) (hB:B+8≤1073741824) (ho:x.ow[p]? = some o) (hM:o.mac=some M) :
  ∃ x2 R,raceStep c x p o M=(x2,R)∧RaceI c (B+8) x2∧(R=none∧(allR c x).Perm (allR c x2)∨∃ k g l,R=some ⟨k,g,l⟩∧(allR c x).Perm (allR c x2++(l++if 0≤g then [g] else []))):=by
 obtain ⟨h1,h2,_⟩:=race_step hI hB ho hM
 refine ⟨(raceStep c x p o M).1,(raceStep c x p o M).2,rfl,h1,?_⟩
 by_cases h0:(M.step c p x.m).1.st=0
 ·refine .inr ⟨o.kd,(M.step c p x.m).1.got,(M.step c p x.m).1.over,?_,?_⟩
  ·unfold raceStep
   rw [if_pos h0]
  ·rw [if_pos h0] at h2
   exact h2
 ·refine .inl ⟨?_,?_⟩
  ·unfold raceStep
   rw [if_neg h0]
  ·rw [if_neg h0,List.append_nil] at h2
   exact h2
theorem astepR (n:Nat) (hI:RaceI c B x) (hB:B+8≤1073741824) (ho:x.ow[p]? = some o) (hM:o.mac=some M) (h:Ev.Hold ctx (raceA b c x::r) w) :
  CallsIn Fence.wide n Tryz.prog 13 #[.pointer (some ⟨b.br,0,none⟩),.int .i64 (p:Int)] w fun e w'=>∃ x2 kk gg l a k d,e=.returned (.tuple #[.agg #[.int .i64 kk,.int .i64 gg,.slice a l.length k],.bool d])∧RaceI c (B+8) x2∧(d=false→(allR c x).Perm (allR c x2))∧(d=true→(allR c x).Perm (allR c x2++(l++if 0≤gg then [gg] else [])))∧Ev.Hold ctx (isA (.slice a l.length k) l::raceA b c x2::r) w':=by
 obtain ⟨x2,R,hR,h1,h2⟩:=step_cases hI hB ho hM
 have h3:=astep n hI hB ho hM h
 rw [hR] at h3
 refine h3.mono ?_
 rintro e w' ⟨a,k,rfl,hh⟩
 rcases h2 with ⟨rfl,hp⟩ | ⟨kk,g,l,rfl,hp⟩
 ·exact ⟨x2,_,_,_,a,k,_,rfl,h1,fun _=>hp,fun h=>(by cases h),hh⟩
 ·exact ⟨x2,_,_,_,a,k,_,rfl,h1,fun h=>(by cases h),fun _=>hp,hh⟩
theorem begin_cases (hI:RaceI c B x) (ho:x.ow[p]? = some o) (hM:o.mac=none) (kd cv cg:Int) (hg:Gn cg) :
  ∃ x2 e o2,begErr c p o kd cv cg=e∧begRace c x p o kd cv cg=x2∧RaceI c B x2∧x2.ow[p]? = some o2∧(e ≠ 0∧allR c x2=allR c x∨e=0∧(allR c x2).Perm (allR c x++(if kd=1 then [cg] else []))):=by
 have hlt:p < x.ow.length:=(List.getElem?_eq_some_iff.1 ho).1
 unfold begErr begRace
 cases hN:newMac c p kd cv cg with
 | none=>exact ⟨x,2,o,rfl,rfl,hI,ho,.inl ⟨by decide,rfl⟩⟩
 | some M =>
  obtain ⟨h1,h2⟩:=race_begin hI ho hM (.inl hg) hN
  refine ⟨x.own p (o.beg kd cv cg M),0,o.beg kd cv cg M,?_,?_,h1,?_,.inr ⟨rfl,h2⟩⟩
  ·rw [hM]; rfl
  ·dsimp only
   rw [hM]
   rfl
  ·show (x.ow.set p _)[p]? = _
   rw [List.getElem?_set_self hlt]
theorem abeginR (n:Nat) (hI:RaceI c B x) (ho:x.ow[p]? = some o) (hM:o.mac=none) (kd cv cg:Int) (hg:Gn cg) (h:Ev.Hold ctx (raceA b c x::r) w) :
  CallsIn Fence.wide n Tryz.prog 11 #[.pointer (some ⟨b.br,0,none⟩),.int .i64 (p:Int),.agg #[.int .i64 kd,.int .i64 cv,.int .i64 cg]] w fun e w'=>∃ x2 er o2,e=.returned (.int .i64 er)∧RaceI c B x2∧x2.ow[p]? = some o2∧(er ≠ 0∧Aside (allR c x2=allR c x)∨er=0∧(allR c x2).Perm (allR c x++(if kd=1 then [cg] else [])))∧Ev.Hold ctx (raceA b c x2::r) w':=by
 obtain ⟨x2,e,o2,h1,h2,h3,h4,h5⟩:=begin_cases hI ho hM kd cv cg hg
 have hb:=abegin n hI.len ho kd cv cg h
 rw [h1,h2] at hb
 exact hb.mono (fun e' w' ⟨k1,k2⟩=>⟨x2,e,o2,k1,h3,h4,h5,k2⟩)
theorem aapp1 {t:TypeId} {u y:Value} {xs:List Int} {g:Int} (ht:t = 35) (hn:xs.length+1≤1000000) (hy:Src Tryz.prog 1 35 y 1 [.int .i64 g] w) (h:Ev.Hold ctx (isA u xs::r) w) :
  ∃ zs a k w',Aside (zs=xs++[g])∧(Builtin.append_ #[t,t] t #[u,y]).run Tryz.prog w=.ok (.slice a zs.length k) w'∧Ev.Hold ctx (isA (.slice a zs.length k) zs::r) w':=by
 subst ht
 obtain ⟨i,hi,hz,h0,hby⟩:=infInt
 obtain ⟨F',m1,m2,m3⟩:=h.ex
 obtain ⟨Fa,Fl,k1,k2,k3,k4⟩:=Ev.now_uncons m1
 have k1':Ev.SlV 3 i.size u xs.length (ints xs) Fa w:=by rw [hz]; exact k1
 have hsrc:Src Tryz.prog i.size 35 y 1 [.int .i64 g] w:=by rw [hz]; exact hy
 obtain ⟨v',w',G,r1,r2,r3,r4⟩:=Ev.SlV.append (ty := 35) k1' Tryz.underlying35 hi h0 (by rw [hz]; rfl) hsrc (by rw [hby]; omega) (by omega)
 have hFl:∀ j,Fl j→w'.heap[j]? = w.heap[j]?:=fun j hj=>r3.block j (k2.lt j hj) (fun hf=>k3 j hf hj)
 have q1:=Ev.now_keep k2 hFl r3.size
 have q0:(isA v' (xs++[g])).p (fun _=>none) G w':=by
  show Ev.SlV 3 1 v' (xs++[g]).length (ints (xs++[g])) G w'
  rw [hz] at r2
  rw [List.length_append,show ints (xs++[g])=ints xs++[.int .i64 g] by simp [ints]]
  exact r2
 have q2:=Ev.now_cons (a:=isA v' (xs++[g])) (Fa:=G) q0 q1 (fun j hj=>(r4 j hj).1) (fun j hj hl=>by
  rcases (r4 j hj).2 with h | h
  ·exact k3 j h hl
  ·have:=k2.lt j hl
   omega)
 have hfin:Ev.Hold ctx (isA v' (xs++[g])::r) w':=by
  refine ⟨_,q2,⟨r3.os.trans m2.os,r3.tape.trans m2.tape,r3.output.trans m2.output,Nat.le_trans m2.size r3.size,fun j hj hx=>?_⟩,fun j hj=>?_⟩
  ·refine (r3.block j (Nat.lt_of_lt_of_le hj m2.size) (fun hf=>?_)).trans (m2.block j hj hx)
   rcases m3 j ((k4 j).2 (.inl hf)) with h | h
   ·exact hx h
   ·omega
  ·rcases hj with hj | hj
   ·rcases (r4 j hj).2 with h | h
    ·exact m3 j ((k4 j).2 (.inl h))
    ·exact .inr (Nat.le_trans m2.size h)
   ·exact m3 j ((k4 j).2 (.inr hj))
 obtain ⟨a,k,rfl⟩:=slr_val (hold_slr hfin)
 exact ⟨_,a,k,w',(show _=_ from rfl),r1,hfin⟩
end
theorem aappZ {ctx:Ev.Ctx} {w:World} {r:List Ev.Asr} {t:TypeId} {u y:Value} {xs ys:List Int} (ht:t = 35) (hn:xs.length+ys.length≤1000000) (h:Ev.Hold ctx (isA u xs::isA y ys::r) w) :
  ∃ zs a k w',Aside (zs=xs++ys)∧(Builtin.append_ #[t,t] t #[u,y]).run Tryz.prog w=.ok (.slice a zs.length k) w'∧Ev.Hold ctx (isA (.slice a zs.length k) zs::isA y ys::r) w':=by
 obtain ⟨a,k,w',h1,h2⟩:=aapp ht hn h
 exact ⟨_,a,k,w',(show _=_ from rfl),h1,h2⟩
set_option maxHeartbeats 4000000 in
theorem fits_in (m:Nat) (c0:Cf) {a0:Option Addr} {N k0:Nat} {L:List Value} {w:World} (hs:Ev.SlR 4 (.slice a0 N k0) N L w) (hL:∀ j,j < N * 4→∃ i:Int,L[j]? = some (.int .i64 i)) (hWk:∀ (m:Nat) (w:World),CallsIn Fence.wide m Tryz.prog 8 #[] w fun e w'=>e=.returned (.bool true)∧Below w.heap.size w w') :
  CallsIn Fence.wide m Tryz.prog 4 #[c0.v,.slice a0 N k0] w fun e w'=>e=.returned (.bool true)∧Below w.heap.size w w':=by
 refine callsIn_of_wp Tryz.func4 rfl trivial ?_ rfl
 simp only [Tryz.ntmps4,List.size_toArray,List.length_cons,List.length_nil,Nat.reduceAdd,Nat.reduceSub,Array.replicate_succ,Array.replicate_zero,List.push_toArray,List.append_toArray,List.nil_append,List.cons_append]
 obtain ⟨W1,hW1⟩ : ∃ W1,w.alloc (.cells #[.int .i64 c0.n,.int .i64 c0.q,.int .i64 c0.g,.int .i64 c0.m,.int .i64 c0.t,.int .i64 c0.s] 23)=W1:=⟨_,rfl⟩
 have h0:Ev.Hold ⟨w,fun _=>False⟩ [] w:=Ev.Hold.start (Ev.now_nil w)
 have h1:Ev.Hold ⟨w,fun _=>False⟩ [Ev.blkA w.heap.size [.int .i64 c0.n,.int .i64 c0.q,.int .i64 c0.g,.int .i64 c0.m,.int .i64 c0.t,.int .i64 c0.s] 23] W1:=by rw [← hW1]; exact hold_new _ _ h0
 have hB1:=h1.below (fun _=>id)
 by_cases hl:N≤300
 rotate_left
 ·have hlI:(N:Int) > (300:Int):=by omega
  gi_wp2
  refine ⟨trivial,fun h=>by simp [Fence.wide] at h,(hWk _ _).mono ?_⟩
  rintro e w2 ⟨rfl,hb⟩
  gi_wp2
  exact bodyPost_ret (results_tmp rfl _ _ _) rfl ⟨rfl,hB1.trans (hb.mono hB1.size)⟩
 have hlI:¬ (N:Int) > (300:Int):=by omega
 have hcs:∀ (r:List Ev.Asr) (ctx:Ev.Ctx) (c:Cf) (bc:Nat) (w':World),Ev.Hold ctx (Ev.blkA bc [.int .i64 c.n,.int .i64 c.q,.int .i64 c.g,.int .i64 c.m,.int .i64 c.t,.int .i64 c.s] 23 :: r) w'→w'.cell? ⟨bc,0,none⟩=some (.int .i64 c.n)∧w'.cell? ⟨bc,1,none⟩=some (.int .i64 c.q)∧w'.cell? ⟨bc,2,none⟩=some (.int .i64 c.g)∧w'.cell? ⟨bc,3,none⟩=some (.int .i64 c.m)∧w'.cell? ⟨bc,4,none⟩=some (.int .i64 c.t)∧w'.cell? ⟨bc,5,none⟩=some (.int .i64 c.s)∧(∀ j,w'.frozen? ⟨bc,j,none⟩=false) :=
  fun r ctx c bc w' hh=>⟨cell_of (hold_blk hh) 0 _ rfl,cell_of (hold_blk hh) 1 _ rfl,cell_of (hold_blk hh) 2 _ rfl,cell_of (hold_blk hh) 3 _ rfl,cell_of (hold_blk hh) 4 _ rfl,cell_of (hold_blk hh) 5 _ rfl,fun j=>froz_of (hold_blk hh) j⟩
 obtain ⟨bc,hbc⟩ : ∃ bc,w.heap.size=bc:=⟨_,rfl⟩
 rw [hbc] at h1
 obtain ⟨d0,d1,d2,d3,d4,d5,d6⟩:=hcs _ _ _ _ _ h1
 obtain ⟨c,hc⟩ : ∃ c:Cfg,made c0=c:=⟨_,rfl⟩
 have hq8:=made_q8 c0
 have hmade:=made_ok c0 W1
 rw [hc] at hq8 hmade
 clear hc
 gi_wp2
 refine ⟨trivial,fun h=>by simp [Fence.wide] at h,(callsIn_wide.2 hmade).mono ?_⟩
 clear hmade
 rintro e w2 ⟨rfl,B2⟩
 have h2:=hold_keep h1 B2
 obtain ⟨p0,p1,p2,p3,p4,p5,p6⟩:=hcs _ _ _ _ _ h2
 obtain ⟨f0,f1,f2,f3,f4,f5⟩ : w2.frozen? ⟨bc,0,none⟩=false∧w2.frozen? ⟨bc,1,none⟩=false∧w2.frozen? ⟨bc,2,none⟩=false∧w2.frozen? ⟨bc,3,none⟩=false∧w2.frozen? ⟨bc,4,none⟩=false∧w2.frozen? ⟨bc,5,none⟩=false:=⟨p6 _,p6 _,p6 _,p6 _,p6 _,p6 _⟩
 have h3:=hold_set 5 (.int .i64 c.s) (hold_set 4 (.int .i64 c.t) (hold_set 3 (.int .i64 c.m) (hold_set 2 (.int .i64 c.g) (hold_set 1 (.int .i64 (c.q:Int)) (hold_set 0 (.int .i64 (c.n:Int)) h2)))))
 clear d0 d1 d2 d3 d4 d5 d6 p6
 replace h3:Ev.Hold ⟨w,fun _=>False⟩ [Ev.blkA bc (confL c) 23] _:=h3
 gi_wp2
 refine ⟨trivial,fun h=>by simp [Fence.wide] at h,(anew (m - 1) c h3).mono ?_⟩
 rintro e w4 ⟨b,rfl,h4⟩
 have h5:Ev.Hold ⟨w,fun _=>False⟩ [raceA b c (newRace c),Ev.blkA bc (confL c) 23,isA (.slice none 0 0) []] w4:=(h4.nilSl (e := 3) (sz:=1)).sel [1,2,0] (by kernel_rfl)
 clear p0 p1 p2 p3 p4 p5 f0 f1 f2 f3 f4 f5 h1 h2 h3 h4 B2 hB1 hbc
 have hcN:∀ (x:RaceS) (ov:Value) (out:List Int) (r:List Ev.Asr) (w':World),Ev.Hold ⟨w,fun _=>False⟩ (raceA b c x::Ev.blkA bc (confL c) 23 :: r) w'→w'.cell? ⟨bc,0,none⟩=some (.int .i64 (c.n:Int)) :=
  fun x ov out r w' hh=>cell_of (hold_blk (hold_swap hh)) 0 _ rfl
 clear hcs
 have hnb:=c.nb
 gi_wp2
 gi_loopw [7,8,9] (fun nx ov iv wr=>∃ (i nxt:Nat) (x:RaceS) (out:List Int),nx=.int .i64 (nxt:Int)∧iv=.int .i64 (i:Int)∧i≤N∧nxt≤i∧(∃ B:Int,B≤8 * (i:Int)∧RaceI c B x)∧(allR c x++out).Perm (nums nxt)∧Ev.Hold ⟨w,fun _=>False⟩ [raceA b c x,Ev.blkA bc (confL c) 23,isA ov out] wr) (fun _ _ iv _=>N - (intOf iv).toNat)
 case atStart=>exact ⟨0,0,newRace c,[],rfl,rfl,Nat.zero_le _,Nat.le_refl _,⟨0,by omega,(race_new c hq8).1⟩,by rw [(race_new c hq8).2]; exact List.Perm.refl _,h5⟩
 case round =>
  obtain ⟨i,nxt,x,out,rfl,rfl,hi,hni,⟨B,hB,hI⟩,hperm,hH⟩:=hrel
  obtain ⟨ao,ko,rfl⟩:=slr_val (hold_slr (hold_drop (r:=[_,_]) hH))
  by_cases hlt:i < N
  ·have hlI2:(i:Int) < (N:Int):=by omega
   rcases hs.2 with ⟨e,_⟩ | ⟨ba,off,c1,hv,hb,hc⟩
   ·omega
   cases hv
   have hgt:∀ (j:Nat),j < 4→∃ u:Int,∀ W:World,Below w.heap.size w W→W.cell? ⟨ba,off+i * 4+j,none⟩=some (.int .i64 u):=by
    intro j hj
    obtain ⟨u,hu⟩:=hL (i * 4+j) (by omega)
    refine ⟨u,fun W hW=>?_⟩
    rw [hW.cell (p:=⟨ba,off+i * 4+j,none⟩) hb.1,Nat.add_assoc,hc _ (by omega),hu]
   obtain ⟨aP,g0⟩:=hgt 0 (by decide)
   obtain ⟨aK,g1⟩:=hgt 1 (by decide)
   obtain ⟨aV,g2⟩:=hgt 2 (by decide)
   obtain ⟨aG,g3⟩:=hgt 3 (by decide)
   rw [Nat.add_zero] at g0
   have hcu:∀ W:World,Below w.heap.size w W→W.cell? ⟨ba,off+i * 4,none⟩=some (.int .i64 aP)∧W.cell? ⟨ba,off+i * 4+1,none⟩=some (.int .i64 aK)∧W.cell? ⟨ba,off+i * 4+2,none⟩=some (.int .i64 aV)∧W.cell? ⟨ba,off+i * 4+3,none⟩=some (.int .i64 aG):=fun W hW=>⟨g0 W hW,g1 W hW,g2 W hW,g3 W hW⟩
   clear g0 g1 g2 g3 hgt
   have hcc:∀ (x:RaceS) (r:List Ev.Asr) (w':World),Ev.Hold ⟨w,fun _=>False⟩ (raceA b c x::Ev.blkA bc (confL c) 23 :: r) w'→w'.cell? ⟨ba,off+i * 4,none⟩=some (.int .i64 aP)∧w'.cell? ⟨bc,0,none⟩=some (.int .i64 (c.n:Int)):=fun x r w' hh=>⟨(hcu w' (hh.below (fun _=>id))).1,hcN x .nilIface [] r w' hh⟩
   have hd:=hold_keep hH ((Below.refl _ wr).drew)
   have hpl:=pickN_lt aP c.n hnb.1
   obtain ⟨p,hp⟩ : ∃ p,(pick aP (c.n:Int)).toNat=p:=⟨_,rfl⟩
   rw [hp] at hpl
   obtain ⟨vv,hvv⟩ : ∃ vv,(pick aV (c.n:Int)).toNat=vv:=⟨_,rfl⟩
   have hpk:∀ W,Calls Tryz.prog 14 #[.int .i64 aP,.int .i64 (c.n:Int)] W fun e w'=>e=.returned (.int .i64 (p:Int))∧Below W.heap.size W w':=fun W=>by rw [← hp]; exact pickN aP c.n hnb.1 (by omega) W
   have hvk:∀ W,Calls Tryz.prog 14 #[.int .i64 aV,.int .i64 (c.n:Int)] W fun e w'=>e=.returned (.int .i64 (vv:Int))∧Below W.heap.size W w':=fun W=>by rw [← hvv]; exact pickN aV c.n hnb.1 (by omega) W
   clear hp hvv
   gi_wp2
   refine wpIn_wide.2 ?_
   go_region_held3 (fun w'=>w'.cell? ⟨ba,off+i * 4,none⟩=some (.int .i64 aP)∧w'.cell? ⟨bc,0,none⟩=some (.int .i64 (c.n:Int))) ((first | exact hcc _ _ _ hd | exact hcc _ _ _ h6 | fail)) ((first
    | (go_at_call 14; have hcon:=hpk wr.drew; (with_reducible refine hcon.mono ?_); clear hcon; rintro e w6 ⟨rfl,B6⟩; have h6:=hold_keep hd B6)))
   clear hd hH
   obtain ⟨q0,q1,q2,q3⟩:=hcu w6 (h6.below (fun _=>id))
   have c6:=hcN x .nilIface [] _ _ h6
   obtain ⟨W7,hW7⟩ : ∃ W7,w6.alloc (.cells #[.int .i64 aK,.int .i64 aV,.int .i64 aG] 26)=W7:=⟨_,rfl⟩
   have h7:Ev.Hold ⟨w,fun _=>False⟩ (Ev.blkA w6.heap.size [.int .i64 aK,.int .i64 aV,.int .i64 aG] 26 :: [raceA b c x,Ev.blkA bc (confL c) 23,isA (.slice ao out.length ko) out]) W7:=by rw [← hW7]; exact hold_new _ _ h6
   obtain ⟨bl,hbl⟩ : ∃ bl,w6.heap.size=bl:=⟨_,rfl⟩
   rw [hbl] at h7
   have hcB:∀ (r:List Ev.Asr) (a1 a2 a3:Int) (w':World),Ev.Hold ⟨w,fun _=>False⟩ (Ev.blkA bl [.int .i64 a1,.int .i64 a2,.int .i64 a3] 26 :: r) w'→w'.cell? ⟨bl,0,none⟩=some (.int .i64 a1)∧w'.cell? ⟨bl,1,none⟩=some (.int .i64 a2)∧w'.cell? ⟨bl,2,none⟩=some (.int .i64 a3)∧w'.frozen? ⟨bl,0,none⟩=false∧w'.frozen? ⟨bl,1,none⟩=false∧w'.frozen? ⟨bl,2,none⟩=false :=
    fun r a1 a2 a3 w' hh=>⟨cell_of (hold_blk hh) 0 _ rfl,cell_of (hold_blk hh) 1 _ rfl,cell_of (hold_blk hh) 2 _ rfl,froz_of (hold_blk hh) 0,froz_of (hold_blk hh) 1,froz_of (hold_blk hh) 2⟩
   obtain ⟨y0,y1,y2,y3,y4,y5⟩:=hcB _ _ _ _ _ h7
   have c7:=hcN x .nilIface [] _ _ (hold_drop (r:=[_]) h7)
   have h8:=hold_set 2 (.int .i64 (nxt:Int)) h7
   gi_wp2
   gi_wp2
   gi_wp2
   gi_wp2
   gi_wp2
   gi_wp2
   gi_wp2
   gi_wp2
   gi_wp2
   gi_wp2
   gi_wp2
   gi_wp2
   gi_wp2
   gi_wp2
   gi_wp2
   gi_wp2
   gi_wp2
   gi_wp2
   gi_wp2
   gi_wp2
   gi_wp2
   gi_wp2
   gi_wp2
   gi_wp2
   gi_wp2
   gi_wp2
   gi_wp2
   gi_wp2
   gi_wp2
   gi_wp2
   gi_wp2
   refine ⟨trivial,fun h=>by simp [Fence.wide] at h,(callsIn_wide.2 (hvk _)).mono ?_⟩
   rename_i K16 a16 KL aL
   obtain ⟨K18,K19,K21,K23,s23,s21,s19,s18,s16⟩:=split5 a16
   clear a16
   rintro e w9 ⟨rfl,B9⟩
   have h9:=hold_keep h8 B9
   clear h8 h7 h6 B6 B9 c7 c6 q0 q1 q2 q3 y0 y1 y2 y3 y4 y5 hpk hvk hcc hcu hc hb
   have hK23:∀ (x':RaceS) (ou:List Int) (nx:Nat) (oa:Option Addr) (ok:Nat) (w':World) (B':Int) {z4 z10 z11 z12 z13 z14 z15 z33 z34 z35 z36 z37 z38 z39 z40 z41 z42 z43 z44 z45 z46 z47 z48 z49 z50 z51 z52 z53 z54 z55 z56 z57 z58 z59 z60 z61 z62 z63 z64 z65 z66 z67 z68 z69 z70 z71 z72 z73 z74 z75 z76 z77 z78 z79 z80 z81 z82 z83 z84 z85 z86 z87 z88 z89 z90 z91 z92 z93 z94 z95 z96 z97 z98 z99 z100 z101 z102 z103 z104 z105 z106 z107 z108 z109 z110 z111 z112 z113 z114 z115 z116 z117 z118 z119 z120 z121 z122 z123 z124 z125 z126 z127 z128 z129 z130 z131 z132:Value},nx≤i+1→B'≤8 * (i:Int)+8→RaceI c B' x'→(allR c x'++ou).Perm (nums nx)→Ev.Hold ⟨w,fun _=>False⟩ [raceA b c x',Ev.blkA bc (confL c) 23,isA (.slice oa ou.length ok) ou] w'→K23 { tmps:=#[c0.v,.slice (some ⟨ba,off,none⟩) N k0,.pointer (some ⟨bc,0,none⟩),undef,z4,.pointer (some ⟨b.br,0,none⟩),.int .i64 0,.int .i64 (nx:Int),.slice oa ou.length ok,.int .i64 (i:Int),z10,z11,z12,z13,z14,z15,.slice (some ⟨ba,off,none⟩) N k0,.int .i64 (N:Int),.bool false,undef,.agg #[.int .i64 c0.n,.int .i64 c0.q,.int .i64 c0.g,.int .i64 c0.m,.int .i64 c0.t,.int .i64 c0.s],c.v,.tuple #[.pointer (some ⟨b.br,0,none⟩),.int .i64 0],.agg #[.int .i64 (c.n:Int),.int .i64 (c.q:Int),.int .i64 c.g,.int .i64 c.m,.int .i64 c.t,.int .i64 c.s],.tuple #[.pointer (some ⟨b.br,0,none⟩),.int .i64 0],.pointer (some ⟨b.br,0,none⟩),.int .i64 0,.int .i64 0,.bool false,.bool false,.pointer (some ⟨b.br,0,none⟩),.bool false,.bool false,z33,z34,z35,z36,z37,z38,z39,z40,z41,z42,z43,z44,z45,z46,z47,z48,z49,z50,z51,z52,z53,z54,z55,z56,z57,z58,z59,z60,z61,z62,z63,z64,z65,z66,z67,z68,z69,z70,z71,z72,z73,z74,z75,z76,z77,z78,z79,z80,z81,z82,z83,z84,z85,z86,z87,z88,z89,z90,z91,z92,z93,z94,z95,z96,z97,z98,z99,z100,z101,z102,z103,z104,z105,z106,z107,z108,z109,z110,z111,z112,z113,z114,z115,z116,z117,z118,z119,z120,z121,z122,z123,z124,z125,z126,z127,z128,z129,z130,z131,z132,undef],defers:=[] } w':=by
    intro x' ou nx oa ok w' B' z4 z10 z11 z12 z13 z14 z15 z33 z34 z35 z36 z37 z38 z39 z40 z41 z42 z43 z44 z45 z46 z47 z48 z49 z50 z51 z52 z53 z54 z55 z56 z57 z58 z59 z60 z61 z62 z63 z64 z65 z66 z67 z68 z69 z70 z71 z72 z73 z74 z75 z76 z77 z78 z79 z80 z81 z82 z83 z84 z85 z86 z87 z88 z89 z90 z91 z92 z93 z94 z95 z96 z97 z98 z99 z100 z101 z102 z103 z104 z105 z106 z107 z108 z109 z110 z111 z112 z113 z114 z115 z116 z117 z118 z119 z120 z121 z122 z123 z124 z125 z126 z127 z128 z129 z130 z131 z132 hnx hB' hI' hP hh
    clear h9 s21 s19 s18 s16 hI hperm
    have hT:(upR c x' c.n).length+ou.length≤301:=by
     have:=hP.length_eq
     rw [List.length_append,show (nums nx).length=nx by simp [nums],upR_all] at this
     omega
    gi_wp2
    refine ⟨trivial,fun h=>by simp [Fence.wide] at h,(afits (m - 1) hI'.ok hh).mono ?_⟩
    rintro e w7 ⟨rfl,hw7⟩
    replace hw7:=hw7.symm
    subst hw7
    have hn0:Ev.Hold ⟨w,fun _=>False⟩ [isA (.slice none 0 0) [],isA (.slice oa ou.length ok) ou,raceA b c x',Ev.blkA bc (confL c) 23] w':=(hh.nilSl (e := 3) (sz:=1)).sel [0,3,1,2] (by kernel_rfl)
    obtain ⟨a1,k1,w8,r1,g1⟩:=aapp (t := 35) rfl (by simp; omega) hn0
    rw [List.nil_append] at r1 g1
    have g2:Ev.Hold ⟨w,fun _=>False⟩ [raceA b c x',Ev.blkA bc (confL c) 23,isA (.slice oa ou.length ok) ou,isA (.slice a1 ou.length k1) ou] w8:=g1.sel [2,3,1,0] (by kernel_rfl)
    clear hn0 g1 hh
    gi_wp2_with (gi_at_builtin; refine wpListIn_append_run rfl _ _ _ rfl r1 ?_)
    clear r1
    gi_loopw [14,15] (fun av qv w3=>∃ (q:Nat) (al:List Int),qv=.int .i64 (q:Int)∧q≤c.n∧Aside (al=ou++upR c x' q)∧Ev.Hold ⟨w,fun _=>False⟩ [raceA b c x',Ev.blkA bc (confL c) 23,isA (.slice oa ou.length ok) ou,isA av al] w3) (fun _ qv _=>c.n - (intOf qv).toNat)
    case atStart=>exact ⟨0,ou,rfl,Nat.zero_le _,(show _=_ by rw [upR_zero,List.append_nil]),g2⟩
    case round =>
     obtain ⟨q,al,rfl,hq,hal,hH⟩:=hrel
     obtain ⟨aa,ka,rfl⟩:=slr_val (hold_slr (hold_drop (r:=[_,_,_]) hH))
     have cN:=hcN x' .nilIface [] _ _ hH
     by_cases hqn:q < c.n
     ·have hqI:(q:Int) < (c.n:Int):=Int.ofNat_lt.2 hqn
      have hL1:al.length+((rl c x'.m q).length+(handsAt x' q).length)≤301:=by
       have:=upR_le (c:=c) (x:=x') (k:=q+1) (n:=c.n) hqn
       rw [upR_succ,List.length_append,List.length_append] at this
       rw [hal.out,List.length_append]
       omega
      gi_wp2
      refine ⟨trivial,fun h=>by simp [Fence.wide] at h,(aringR (m - 1) hI' hqn hH).mono ?_⟩
      rintro e wa ⟨a2,k2,rfl,ha⟩
      gi_wp2
      refine ⟨trivial,fun h=>by simp [Fence.wide] at h,(adequeR (m - 1) hI' hqn (hold_swap ha)).mono ?_⟩
      rintro e wb ⟨a3,k3,rfl,hb⟩
      have hb1:Ev.Hold ⟨w,fun _=>False⟩ [isA (.slice a2 (rl c x'.m q).length k2) (rl c x'.m q),isA (.slice a3 (rl c x'.m q).length k3) (rl c x'.m q),raceA b c x',Ev.blkA bc (confL c) 23,isA (.slice oa ou.length ok) ou,isA (.slice aa al.length ka) al] wb:=hb.sel [2,0,1,3,4,5] (by kernel_rfl)
      gi_wp2
      refine ⟨trivial,fun h=>by simp [Fence.wide] at h,(asame (m - 1) (by omega) hb1).mono ?_⟩
      rintro e wc ⟨rfl,hc1⟩
      have hc2:=hold_drop (r:=[_,_]) hc1
      clear ha hb hb1 hc1 cN
      gi_wp2
      refine ⟨trivial,fun h=>by simp [Fence.wide] at h,(aringR (m - 1) hI' hqn hc2).mono ?_⟩
      rintro e wd ⟨a4,k4,rfl,hd1⟩
      have hd2:Ev.Hold ⟨w,fun _=>False⟩ [isA (.slice aa al.length ka) al,isA (.slice a4 (rl c x'.m q).length k4) (rl c x'.m q),raceA b c x',Ev.blkA bc (confL c) 23,isA (.slice oa ou.length ok) ou] wd:=hd1.sel [4,0,1,2,3] (by kernel_rfl)
      obtain ⟨al2,a5,k5,we,hal2,r2,he⟩:=aappZ (t := 35) rfl (by omega) hd2
      have hL2:al2.length+(handsAt x' q).length≤301:=by
       rw [hal2.out,List.length_append]
       omega
      have he2:Ev.Hold ⟨w,fun _=>False⟩ [raceA b c x',isA (.slice a5 al2.length k5) al2,Ev.blkA bc (confL c) 23,isA (.slice oa ou.length ok) ou] we:=he.sel [2,0,3,4] (by kernel_rfl)
      clear hd1 hd2 he hc2
      gi_wp2_with (gi_at_builtin; refine wpListIn_append_run rfl _ _ _ rfl r2 ?_)
      clear r2
      refine ⟨trivial,fun h=>by simp [Fence.wide] at h,(ahandsR (m - 1) hI' hqn he2).mono ?_⟩
      rintro e wf ⟨a6,k6,rfl,hf⟩
      have hf2:Ev.Hold ⟨w,fun _=>False⟩ [isA (.slice a5 al2.length k5) al2,isA (.slice a6 (handsAt x' q).length k6) (handsAt x' q),raceA b c x',Ev.blkA bc (confL c) 23,isA (.slice oa ou.length ok) ou] wf:=hf.sel [2,0,1,3,4] (by kernel_rfl)
      obtain ⟨al3,a7,k7,wg,hal3,r3,hg⟩:=aappZ (t := 35) rfl (by omega) hf2
      have hg2:Ev.Hold ⟨w,fun _=>False⟩ [raceA b c x',Ev.blkA bc (confL c) 23,isA (.slice oa ou.length ok) ou,isA (.slice a7 al3.length k7) al3] wg:=hg.sel [2,3,4,0] (by kernel_rfl)
      clear hf hf2 hg he2
      gi_wp2_with (gi_at_builtin; refine wpListIn_append_run rfl _ _ _ rfl r3 ?_)
      exact ⟨⟨q+1,al3,rfl,by omega,(show _=_ by rw [hal3.out,hal2.out,hal.out,upR_succ,List.append_assoc,List.append_assoc]),hg2⟩,by simp [intOf]; omega⟩
     ·obtain rfl:q=c.n:=by omega
      have hqI:¬ ((c.n:Nat) : Int) < (c.n:Int):=by omega
      have hz1:Ev.Hold ⟨w,fun _=>False⟩ ([isA (.slice aa al.length ka) al]++[raceA b c x',Ev.blkA bc (confL c) 23,isA (.slice oa ou.length ok) ou]) wr:=hH.sel [3,0,1,2] (by kernel_rfl)
      obtain ⟨F1,j1,back⟩:=hold_fr _ hz1
      have hnx5:nx≤100000:=by omega
      have hPe:al.Perm (nums nx):=by rw [hal.out,← upR_all]; exact List.perm_append_comm.trans hP
      gi_wp2
      refine ⟨trivial,fun h=>by simp [Fence.wide] at h,(once_in (m - 1) hPe hnx5 j1).mono ?_⟩
      rintro e wz ⟨rfl,hz⟩
      have hz2:=hold_drop (r:=[_]) (back _ _ hz)
      gi_wp2
      exact ⟨⟨i+1,nx,x',ou,rfl,rfl,by omega,hnx,⟨B',by omega,hI'⟩,hP,hz2⟩,by simp [intOf]; omega⟩
   clear s23
   have hK18:∀ (x':RaceS) (o':OwnS) (nx:Nat) (w':World) {z4 z12 z13 z14 z15 z33 z34 z35 z36 z37 z38 z39 z40 z41 z42 z43 z44 z45 z46 z47 z48 z49 z50 z51 z52 z53 z54 z55 z56 z57 z58 z59 z60 z61 z62 z63 z64 z65 z66 z67 z68 z69 z70 z71 z72 z73 z74 z75 z76 z77 z78 z79 z80 z81 z82 z83 z84 z85 z86 z87 z88 z89 z90 z91 z92 z93 z94 z95 z96 z97 z98 z99 z100 z101 z102 z103 z104 z105 z106 z107 z108 z109 z110 z111 z112 z113 z114 z115 z116 z117 z118 z119 z120 z121 z122 z123 z124 z125 z126 z127 z128 z129 z130 z131 z132:Value},nx≤i+1→x'.ow[p]? = some o'→RaceI c B x'→(allR c x'++out).Perm (nums nx)→Ev.Hold ⟨w,fun _=>False⟩ [raceA b c x',Ev.blkA bc (confL c) 23,isA (.slice ao out.length ko) out] w'→K18 { tmps:=#[c0.v,.slice (some ⟨ba,off,none⟩) N k0,.pointer (some ⟨bc,0,none⟩),undef,z4,.pointer (some ⟨b.br,0,none⟩),.int .i64 0,.int .i64 (nx:Int),.slice ao out.length ko,.int .i64 (i:Int),.int .i64 (p:Int),.pointer (some ⟨bl,0,none⟩),z12,z13,z14,z15,.slice (some ⟨ba,off,none⟩) N k0,.int .i64 (N:Int),.bool false,undef,.agg #[.int .i64 c0.n,.int .i64 c0.q,.int .i64 c0.g,.int .i64 c0.m,.int .i64 c0.t,.int .i64 c0.s],c.v,.tuple #[.pointer (some ⟨b.br,0,none⟩),.int .i64 0],.agg #[.int .i64 (c.n:Int),.int .i64 (c.q:Int),.int .i64 c.g,.int .i64 c.m,.int .i64 c.t,.int .i64 c.s],.tuple #[.pointer (some ⟨b.br,0,none⟩),.int .i64 0],.pointer (some ⟨b.br,0,none⟩),.int .i64 0,.int .i64 0,.bool false,.bool false,.pointer (some ⟨b.br,0,none⟩),.bool false,.bool false,z33,z34,z35,z36,z37,z38,z39,z40,z41,z42,z43,z44,z45,z46,z47,z48,z49,z50,z51,z52,z53,z54,z55,z56,z57,z58,z59,z60,z61,z62,z63,z64,z65,z66,z67,z68,z69,z70,z71,z72,z73,z74,z75,z76,z77,z78,z79,z80,z81,z82,z83,z84,z85,z86,z87,z88,z89,z90,z91,z92,z93,z94,z95,z96,z97,z98,z99,z100,z101,z102,z103,z104,z105,z106,z107,z108,z109,z110,z111,z112,z113,z114,z115,z116,z117,z118,z119,z120,z121,z122,z123,z124,z125,z126,z127,z128,z129,z130,z131,z132,undef],defers:=[] } w':=by
    intro x' o' nx w' z4 z12 z13 z14 z15 z33 z34 z35 z36 z37 z38 z39 z40 z41 z42 z43 z44 z45 z46 z47 z48 z49 z50 z51 z52 z53 z54 z55 z56 z57 z58 z59 z60 z61 z62 z63 z64 z65 z66 z67 z68 z69 z70 z71 z72 z73 z74 z75 z76 z77 z78 z79 z80 z81 z82 z83 z84 z85 z86 z87 z88 z89 z90 z91 z92 z93 z94 z95 z96 z97 z98 z99 z100 z101 z102 z103 z104 z105 z106 z107 z108 z109 z110 z111 z112 z113 z114 z115 z116 z117 z118 z119 z120 z121 z122 z123 z124 z125 z126 z127 z128 z129 z130 z131 z132 hnx ho hI' hP hh
    clear h9 s16 hI hperm
    have hT:(allR c x').length+out.length≤301:=by
     have:=hP.length_eq
     rw [List.length_append,show (nums nx).length=nx by simp [nums]] at this
     omega
    cases hM:o'.mac with
    | none =>
     gi_wp2
     refine ⟨trivial,fun h=>by simp [Fence.wide] at h,(aidle (m - 1) hpl ho hM hh).mono ?_⟩
     rintro e w7 ⟨rfl,h7⟩
     obtain ⟨W8,hW8⟩ : ∃ W8,w7.alloc (.cells #[.int .i64 0,.int .i64 0,.slice none 0 0] 37)=W8:=⟨_,rfl⟩
     obtain ⟨bo,hbo⟩ : ∃ bo,w7.heap.size=bo:=⟨_,rfl⟩
     have h8:=hold_new [.int .i64 0,.int .i64 0,.slice none 0 0] 37 h7
     rw [hbo,show w7.alloc (.cells [Value.int .i64 0,.int .i64 0,.slice none 0 0].toArray 37)=W8 from hW8] at h8
     have bt:=hold_blk h8
     have t0:W8.cell? ⟨bo,0,none⟩=some (.int .i64 0):=cell_of bt 0 _ rfl
     have t1:W8.cell? ⟨bo,1,none⟩=some (.int .i64 0):=cell_of bt 1 _ rfl
     have t2:W8.cell? ⟨bo,2,none⟩=some (.slice none 0 0):=cell_of bt 2 _ rfl
     have f0:W8.frozen? ⟨bo,0,none⟩=false:=froz_of bt 0
     have f1:W8.frozen? ⟨bo,1,none⟩=false:=froz_of bt 1
     have f2:W8.frozen? ⟨bo,2,none⟩=false:=froz_of bt 2
     have h9:=hold_drop (r:=[_]) (hold_set 2 (.slice none 0 0) (hold_set 1 (.int .i64 0) (hold_set 0 (.int .i64 0) h8)))
     gi_wp2
     exact hK23 x' out nx ao ko _ B hnx (by omega) hI' hP h9
    | some M =>
     gi_wp2
     refine ⟨trivial,fun h=>by simp [Fence.wide] at h,(astepR (m - 1) hI' (by omega) ho hM hh).mono ?_⟩
     rintro e w7 ⟨x2,kk,gg,l,a7,k7,d,rfl,hI2,hp1,hp2,h7⟩
     obtain ⟨W8,hW8⟩ : ∃ W8,w7.alloc (.cells #[.int .i64 kk,.int .i64 gg,.slice a7 l.length k7] 37)=W8:=⟨_,rfl⟩
     have h8:=hold_new [.int .i64 kk,.int .i64 gg,.slice a7 l.length k7] 37 h7
     obtain ⟨bo,hbo⟩ : ∃ bo,w7.heap.size=bo:=⟨_,rfl⟩
     rw [hbo,show w7.alloc (.cells [Value.int .i64 kk,.int .i64 gg,.slice a7 l.length k7].toArray 37)=W8 from hW8] at h8
     cases d with
     | false =>
      have hp:=hp1 rfl
      clear hp1 hp2
      have h9:=hold_drop (r:=[_,_]) h8
      gi_wp2
      exact hK23 x2 out nx ao ko W8 (B+8) hnx (by omega) hI2 ((hp.symm.append_right _).trans hP) h9
     | true =>
      have hp:=hp2 rfl
      clear hp1 hp2
      have hLl:out.length+l.length≤301:=by
       have:=hp.length_eq
       rw [List.length_append,List.length_append] at this
       omega
      have h9:Ev.Hold ⟨w,fun _=>False⟩ [isA (.slice ao out.length ko) out,isA (.slice a7 l.length k7) l,raceA b c x2,Ev.blkA bc (confL c) 23,Ev.blkA bo [.int .i64 kk,.int .i64 gg,.slice a7 l.length k7] 37] W8:=h8.sel [4,1,2,3,0] (by kernel_rfl)
      obtain ⟨ou,a9,k9,wv,hou,r1,g1⟩:=aappZ (t := 35) rfl (by omega) h9
      have y1:W8.cell? ⟨bo,1,none⟩=some (.int .i64 gg):=cell_of (hold_blk h8) 1 _ rfl
      have y2:W8.cell? ⟨bo,2,none⟩=some (.slice a7 l.length k7):=cell_of (hold_blk h8) 2 _ rfl
      have v1:wv.cell? ⟨bo,1,none⟩=some (.int .i64 gg):=cell_of (hold_blk (hold_drop (r:=[_,_,_,_]) g1)) 1 _ rfl
      have hol:ou.length≤301:=by rw [hou.out,List.length_append]; exact hLl
      have g2:Ev.Hold ⟨w,fun _=>False⟩ [raceA b c x2,Ev.blkA bc (confL c) 23,isA (.slice a9 ou.length k9) ou] wv:=g1.sel [2,3,0] (by kernel_rfl)
      by_cases hgg:0≤gg
      ·have hgI:gg ≥ 0:=hgg
       rw [if_pos hgg] at hp
       obtain ⟨W10,hW10⟩ : ∃ W10,wv.alloc (.cells #[.int .i64 gg] 3)=W10:=⟨_,rfl⟩
       obtain ⟨bu,hbu⟩ : ∃ bu,wv.heap.size=bu:=⟨_,rfl⟩
       have g3:Ev.Hold ⟨w,fun _=>False⟩ [isA (.slice a9 ou.length k9) ou,raceA b c x2,Ev.blkA bc (confL c) 23] W10:=by rw [← hW10]; exact (hold_drop (r:=[_]) (hold_new [.int .i64 gg] 3 g2)).sel [2,0,1] (by kernel_rfl)
       have hsrc:Src Tryz.prog 1 35 (.slice (some ⟨bu,0,none⟩) 1 1) 1 [.int .i64 gg] W10:=by
        refine Src.ofSlice W10 Tryz.underlying35 ⟨bu,0,none⟩ 1 1 _ rfl (fun j y hj=>?_) (fun y hy=>?_)
        ·rw [Ev.addMk,Nat.zero_add,← hW10,← hbu]
         exact cell_of (World.alloc_heap_new wv _) j y (by simpa using hj)
        ·simp only [List.mem_cons,List.not_mem_nil,or_false] at hy
         rw [hy]
         rfl
       obtain ⟨zs,a11,k11,wx,hzs,r2,g4⟩:=aapp1 (t := 35) rfl (by omega) hsrc g3
       have hPf:(allR c x2++zs).Perm (nums nx):=by
        rw [hzs.out,hou.out]
        exact (perm4 _ _ _ _).trans ((hp.symm.append_right _).trans hP)
       gi_wp2_with (gi_at_builtin; first | refine wpListIn_append_run rfl _ _ _ rfl r1 ?_ | refine wpListIn_append_run rfl _ _ _ rfl r2 ?_)
       exact hK23 x2 zs nx a11 k11 wx (B+8) hnx (by omega) hI2 hPf (g4.sel [1,2,0] (by kernel_rfl))
      ·have hgI:¬ gg ≥ 0:=hgg
       rw [if_neg hgg,List.append_nil] at hp
       have hPf:(allR c x2++ou).Perm (nums nx):=by
        rw [hou.out]
        refine List.Perm.trans ?_ ((hp.symm.append_right _).trans hP)
        rw [List.append_assoc]
        exact List.Perm.append_left _ List.perm_append_comm
       gi_wp2_with (gi_at_builtin; refine wpListIn_append_run rfl _ _ _ rfl r1 ?_)
       exact hK23 x2 ou nx a9 k9 wv (B+8) hnx (by omega) hI2 hPf g2
   clear s18 s19 s21 hK23
   have hGn:Gn (nxt:Int):=⟨by omega,by omega⟩
   obtain ⟨o,ho⟩ : ∃ o,x.ow[p]? = some o:=⟨_,List.getElem?_eq_getElem (by rw [hI.len]; exact hpl)⟩
   replace h9:Ev.Hold ⟨w,fun _=>False⟩ [Ev.blkA bl [.int .i64 aK,.int .i64 aV,.int .i64 (nxt:Int)] 26,raceA b c x,Ev.blkA bc (confL c) 23,isA (.slice ao out.length ko) out] w9:=h9
   obtain ⟨y0,y1,y2,y3,y4,y5⟩:=hcB _ _ _ _ _ h9
   have h10:Ev.Hold ⟨w,fun _=>False⟩ [Ev.blkA bl [.int .i64 aK,.int .i64 (vv:Int),.int .i64 (nxt:Int)] 26,raceA b c x,Ev.blkA bc (confL c) 23,isA (.slice ao out.length ko) out] (w9.setCell ⟨bl,1,none⟩ (.int .i64 (vv:Int))):=hold_set 1 _ h9
   have h11:=hold_swap h10
   have hbz:=abusy (m - 1) hpl ho h11
   cases hM:o.mac with
   | some M =>
    rw [hM] at hbz
    gi_wp2
    refine ⟨trivial,fun h=>by simp [Fence.wide] at h,hbz.mono ?_⟩
    rintro e w' ⟨rfl,hw'⟩
    subst hw'
    gi_wp2
    refine ⟨trivial,?_⟩
    gi_wp2
    exact hK18 x o nxt _ (by omega) ho hI hperm (hold_drop (r:=[_]) h10)
   | none =>
    rw [hM] at hbz
    gi_wp2
    refine ⟨trivial,fun h=>by simp [Fence.wide] at h,hbz.mono ?_⟩
    rintro e w' ⟨rfl,hw'⟩
    subst hw'
    gi_wp2
    refine ⟨trivial,fun h=>by simp [Fence.wide] at h,(abeginR (m - 1) hI ho hM aK vv nxt hGn h11).mono ?_⟩
    rintro e w12 ⟨x2,er,o2,rfl,hI2,ho2,hor,h12⟩
    have h13:Ev.Hold ⟨w,fun _=>False⟩ [raceA b c x2,Ev.blkA bc (confL c) 23,isA (.slice ao out.length ko) out] w12:=h12.sel [0,2,3] (by kernel_rfl)
    have e0:w12.cell? ⟨bl,0,none⟩=some (.int .i64 aK):=(hcB _ _ _ _ _ (hold_swap h12)).1
    clear y0 y1 y2 y3 y4 y5 h9 h10 h11 hbz
    rcases hor with ⟨hne,hall⟩ | ⟨hz,hp⟩
    ·gi_wp2
     exact hK18 x2 o2 nxt _ (by omega) ho2 hI2 (by rw [hall]; exact hperm) h13
    ·subst hz
     by_cases hk1:aK=1
     ·rw [if_pos hk1] at hp
      subst hk1
      gi_wp2
      exact hK18 x2 o2 (nxt+1) _ (by omega) ho2 hI2 (by rw [nums_succ]; exact (hp.append_right _).trans ((perm5 _ _ _).trans (hperm.append_right _))) h13
     ·rw [if_neg hk1,List.append_nil] at hp
      gi_wp2
      exact hK18 x2 o2 nxt _ (by omega) ho2 hI2 ((hp.append_right _).trans hperm) h13
  ·have hlI2:¬ (i:Int) < (N:Int):=by omega
   have hBl:=hH.below (fun _=>id)
   gi_wp2
   refine ⟨trivial,fun h=>by simp [Fence.wide] at h,(hWk _ _).mono ?_⟩
   rintro e w2 ⟨rfl,hb⟩
   gi_wp2
   exact bodyPost_ret (results_tmp rfl _ _ _) rfl ⟨rfl,hBl.trans (hb.mono hBl.size)⟩
end Go.Proofs.YtkmccgombmogmaaGreat
namespace Go.Proofs.YtkmccgombmogmaaGreat
open Go.ChangeShapes Go.WideShapes Go.ChangeAt Go.RowKit Go.Deep
set_option linter.unusedVariables false
section
variable {H:Type} {enc:TypeId×Value→H} {P:Program}
theorem trodAll_below (hl:laidOutB P=true) {W W':World} (hb:Below W.heap.size W W') : ∀ (ts:List TypeId) (vs:List Value) (ds:List (DataW H)) (ps:List MemPlace),
  DataW.TrodAll enc P W 0 (fun _=>true) true ts vs ds ps→(∀ t ∈ ts,P.readableRec t=true∧t < P.types.size)→(∀ x ∈ ps,x.block < W.heap.size) →
  DataW.TrodAll enc P W' 0 (fun b=>decide (b < W.heap.size)) true ts vs ds ps:=by
 intro ts
 induction ts with
 | nil =>
  intro vs ds ps h _ _
  obtain ⟨rfl,rfl,rfl⟩:=trodAll_nil h
  exact trodAll_mk0
 | cons t ts ih =>
  intro vs ds ps h hr hlt
  obtain ⟨v,vs',d,ds',p,q,rfl,rfl,rfl,h1,h2⟩:=trodAll_cons h
  exact trodAll_cons_mk ((hb.trod hl (hr t (List.mem_cons_self ..)).1 (hr t (List.mem_cons_self ..)).2 h1 (fun x hx=>hlt x (List.mem_append_left _ hx))))
   (ih vs' ds' q h2 (fun t' ht'=>hr t' (List.mem_cons_of_mem _ ht')) (fun x hx=>hlt x (List.mem_append_right _ hx)))
theorem law_post {f:Func} {s:ChangeSpec} {W W':World} {args:Array Value} {ds gs:List (DataW H)} {before:List MemPlace} {tb:TypeId} (hl:laidOutB P=true)
  (hW:DataW.Whole enc P f.params.toList s.vars false W args.toList ds gs before) (hvars:s.vars=[]) (hres:f.resultTypes = #[tb]) (hbool:P.underlying tb=some .bool)
  (hfn:s.fn H ds = { results:=[.lit (.bool true)],args:=ds }) (hread:∀ t ∈ f.params.toList,P.readableRec t=true∧t < P.types.size) (hb:Below W.heap.size W W') :
  s.post enc P f false true false false W args (.bool true) W':=by
 have hW0:=hW
 obtain ⟨p,q,hA,hV,hpq,hz,hn⟩:=hW
 rw [hvars] at hV
 obtain ⟨rfl,rfl⟩:=trodVars_none hV
 have hlt:∀ x ∈ before,x.block < W.heap.size:=fun x hx=>hW0.lt x hx
 have hpl:before=p:=by rw [hpq,List.append_nil]
 refine ⟨ds,[],before,[],p,[],hW0,?_,?_,?_,?_,fun h=>by cases h⟩
 ·rw [List.append_nil,hfn,hres]
  exact trodAll_mk1 (shut_bool hbool true)
 ·rw [List.append_nil,hfn]
  exact trodAll_below hl hb _ _ _ _ hA hread (fun x hx=>hlt x (by rw [hpl]; exact hx))
 ·rw [hvars,List.append_nil,hfn]
  rfl
 ·exact World.keptBut_mono (fun x hx=>⟨hx,.inr (.inl (by rw [hpl] at hx; exact hx))⟩) (hb.frame (· ∈ before))
end
end Go.Proofs.YtkmccgombmogmaaGreat
namespace Go.Proofs.YtkmccgombmogmaaGreat
open Go.ChangeShapes Go.WideShapes Go.ChangeAt Go.RowKit Go.Deep
set_option linter.unusedVariables false
end Go.Proofs.YtkmccgombmogmaaGreat
namespace Go.Proofs.YtkmccgombmogmaaGreat
open Go.ChangeShapes Go.WideShapes Go.ChangeAt Go.RowKit Go.Deep
open Go.Ev (iz iN)
set_option linter.unusedVariables false
set_option linter.unusedSimpArgs false
set_option maxRecDepth 100000
theorem own:ownKnob Tryz.prog.godebug=none:=by kernel_rfl
theorem laidOut:laidOutB Tryz.prog=true:=by kernel_rfl
end Go.Proofs.YtkmccgombmogmaaGreat
namespace Go.Proofs.YtkmccgombmogmaaGreat
open Go.RowKit
set_option linter.unusedVariables false
set_option linter.unusedSimpArgs false
structure GetQ (c:Cfg) (m:MemM) (p:Nat) (u:GetS) (g:Int) (n:Nat) : Prop where
 s1:u.st=1→3≤n∧g=(if szW (wd c m p)=0 then -1 else sl c m p (hdW (wd c m p)))
 s2:u.st=2→2≤n∧u.w=wd c m p∧g=sl c m p (hdW (wd c m p))
 s3:u.st=3→1≤n∧u.w=wd c m p∧u.sn=g
section
variable {c:Cfg} {m:MemM} {p:Nat} {u:GetS} {g:Int} {n:Nat} {B:Int}
theorem getQ_step (hR:Rings c B m) (hp:p < c.n) (h:GetQ c m p u g n) (hu:GetOk u) (h0:u.st ≠ 0) (hgn:∀ i,Gn (sl c m p i)) :
  ((getStep c p u m).1.st=0∧(MacS.get (getStep c p u m).1).got=g)∨((getStep c p u m).1.st ≠ 0∧1≤n∧GetQ c (getStep c p u m).2 p (getStep c p u m).1 g (n - 1)):=by
 obtain ⟨st,w,sn,has⟩:=u
 obtain ⟨h1,h2,h3⟩:=hu
 have hh:=h3 h0
 obtain ⟨s1,s2,s3⟩:=h
 dsimp only at *
 subst hh
 have hz:=(hR.w p hp).sz
 have hld:ld m (c.word p)=wd c m p:=rfl
 match st,h1 with
 | 0,_=>exact absurd rfl h0
 | 1,_ =>
  obtain ⟨k1,k2⟩:=s1 rfl
  simp only [getStep]
  rw [hld]
  by_cases e:szW (wd c m p)=0
  ·rw [if_pos (.inl e)]
   rw [if_pos e] at k2
   exact .inl ⟨rfl,by simp [MacS.got,k2]⟩
  ·rw [if_neg (by omega)]
   rw [if_neg e] at k2
   exact .inr ⟨by simp,by omega,⟨fun h=>by simp at h,fun _=>⟨by omega,rfl,k2⟩,fun h=>by simp at h⟩⟩
 | 2,_ =>
  obtain ⟨k1,k2,k3⟩:=s2 rfl
  subst k2
  refine .inr ⟨by simp [getStep],by omega,⟨fun h=>by simp [getStep] at h,fun h=>by simp [getStep] at h,fun _=>⟨by omega,rfl,?_⟩⟩⟩
  show IntKind.i64.wrap (sl c m p (hdW (wd c m p)))=g
  rw [gn_wrap (hgn _),k3]
 | 3,_ =>
  obtain ⟨k1,k2,k3⟩:=s3 rfl
  simp only [getStep]
  rw [hld,if_pos k2.symm]
  exact .inl ⟨rfl,by simp [MacS.got,k3]⟩
end
structure PutQ (c:Cfg) (m:MemM) (p:Nat) (u:PutS) (n:Nat) : Prop where
 s1:u.st=1→3≤n∧2+c.q / 2≤n
 s2:u.st=2→2≤n∧u.w=wd c m p
 s3:u.st=3→1≤n∧u.w=wd c m p
 s4:u.st=4→u.w=wd c m p∧u.ts.length < c.q / 2∧c.q / 2 - u.ts.length+1≤n
 s5:u.st=5→1≤n∧u.w=wd c m p
section
variable {c:Cfg} {m:MemM} {p:Nat} {u:PutS} {n:Nat} {B:Int}
theorem putQ_step (hR:Rings c B m) (hp:p < c.n) (h:PutQ c m p u n) (hu:u.st≤5) (h0:u.st ≠ 0) :
  (putStep c p u m).1.st=0∨((putStep c p u m).1.st ≠ 0∧1≤n∧PutQ c (putStep c p u m).2 p (putStep c p u m).1 (n - 1)):=by
 obtain ⟨st,gg,w,ts,hs⟩:=u
 obtain ⟨s1,s2,s3,s4,s5⟩:=h
 dsimp only at *
 have hld:ld m (c.word p)=wd c m p:=rfl
 have h8:=hR.h8
 match st,hu with
 | 0,_=>exact absurd rfl h0
 | 1,_ =>
  obtain ⟨k1,k2⟩:=s1 rfl
  simp only [putStep]
  rw [hld]
  by_cases e:(c.q:Int)≤szW (wd c m p)
  ·rw [if_pos e]
   exact .inr ⟨by simp,by omega,⟨fun h=>by simp at h,fun h=>by simp at h,fun h=>by simp at h,fun _=>⟨rfl,by simp only [List.length_nil]; omega,by simp only [List.length_nil]; omega⟩,fun h=>by simp at h⟩⟩
  ·rw [if_neg e]
   exact .inr ⟨by simp,by omega,⟨fun h=>by simp at h,fun _=>⟨by omega,rfl⟩,fun h=>by simp at h,fun h=>by simp at h,fun h=>by simp at h⟩⟩
 | 2,_ =>
  obtain ⟨k1,k2⟩:=s2 rfl
  refine .inr ⟨by simp [putStep],by omega,⟨fun h=>by simp [putStep] at h,fun h=>by simp [putStep] at h,fun _=>⟨by omega,?_⟩,fun h=>by simp [putStep] at h,fun h=>by simp [putStep] at h⟩⟩
  show w=wd c (m.put (c.slot p (tlW w)) gg) p
  rw [wd_puts hR.mem hp]
  exact k2
 | 3,_ =>
  obtain ⟨k1,k2⟩:=s3 rfl
  simp only [putStep]
  rw [hld,if_pos k2.symm]
  exact .inl rfl
 | 4,_ =>
  obtain ⟨k1,k2,k3⟩:=s4 rfl
  simp only [putStep]
  by_cases e:ts.length+1=c.q / 2
  ·rw [if_pos e]
   exact .inr ⟨by simp,by omega,⟨fun h=>by simp at h,fun h=>by simp at h,fun h=>by simp at h,fun h=>by simp at h,fun _=>⟨by omega,k1⟩⟩⟩
  ·rw [if_neg e]
   exact .inr ⟨by simp,by omega,⟨fun h=>by simp at h,fun h=>by simp at h,fun h=>by simp at h,fun _=>⟨k1,by simp only [List.length_append,List.length_cons,List.length_nil]; omega,by simp only [List.length_append,List.length_cons,List.length_nil]; omega⟩,fun h=>by simp at h⟩⟩
 | 5,_ =>
  obtain ⟨k1,k2⟩:=s5 rfl
  simp only [putStep]
  rw [hld,if_pos k2.symm]
  exact .inl rfl
end
end Go.Proofs.YtkmccgombmogmaaGreat
namespace Go.Proofs.YtkmccgombmogmaaGreat
open Go.RowKit
set_option linter.unusedVariables false
set_option linter.unusedSimpArgs false
structure LayQ (c:Cfg) (m:MemM) (p:Nat) (l:LayS) (n:Nat) : Prop where
 s1:l.st=1→2+l.ls.length≤n
 s2:l.st=2→l.w=wd c m p∧l.k < l.n∧l.n - l.k+1≤n
 s3:l.st=3→l.w=wd c m p∧1≤n
section
variable {c:Cfg} {m:MemM} {p:Nat} {l:LayS} {n:Nat} {B:Int}
theorem layQ_step (hR:Rings c B m) (hp:p < c.n) (h:LayQ c m p l n) (hu:l.st < 4) (h0:l.st ≠ 0) :
  1≤n∧((layStep c p l m).1.st=0∨((layStep c p l m).1.st ≠ 0∧LayQ c (layStep c p l m).2 p (layStep c p l m).1 (n - 1))):=by
 obtain ⟨st,w,k,b,ls⟩:=l
 obtain ⟨s1,s2,s3⟩:=h
 dsimp only at *
 have hld:ld m (c.word p)=wd c m p:=rfl
 match st,hu with
 | 0,_=>exact absurd rfl h0
 | 1,_ =>
  have k1:=s1 rfl
  refine ⟨by omega,?_⟩
  simp only [layStep]
  rw [hld]
  have hr:=roomN_le c ls (wd c m p)
  by_cases e:roomN c ls (wd c m p)=0
  ·rw [if_pos e]
   exact .inl rfl
  ·rw [if_neg e]
   exact .inr ⟨by simp,⟨fun h=>by simp at h,fun _=>⟨rfl,by show 0 < roomN _ _ _; omega,by show roomN _ _ _ - 0+1≤_; omega⟩,fun h=>by simp at h⟩⟩
 | 2,_ =>
  obtain ⟨k1,k2,k3⟩:=s2 rfl
  refine ⟨by omega,?_⟩
  have hw:∀ v,w=wd c (m.put (c.slot p ((tlW w+(k:Int)) % 4294967296)) v) p:=fun v=>by
   rw [wd_puts hR.mem hp]
   exact k1
  simp only [layStep]
  by_cases e:k+1=b
  ·rw [if_pos e]
   exact .inr ⟨by simp,⟨fun h=>by simp at h,fun h=>by simp at h,fun _=>⟨hw _,by omega⟩⟩⟩
  ·rw [if_neg e]
   exact .inr ⟨by simp,⟨fun h=>by simp at h,fun _=>⟨hw _,by show k+1 < b; omega,by show b - (k+1)+1≤_; omega⟩,fun h=>by simp at h⟩⟩
 | 3,_ =>
  obtain ⟨k1,k2⟩:=s3 rfl
  refine ⟨by omega,?_⟩
  simp only [layStep]
  rw [hld,if_pos k1.symm]
  exact .inl rfl
end
structure StealQ (c:Cfg) (m:MemM) (p v:Nat) (u:StealS) (g:Int) (n:Nat) : Prop where
 s1:u.st=1→3+2 * (oldN (szW (wd c m v))).toNat≤n∧g=(if szW (wd c m v)=0 then -1 else sl c m v (hdW (wd c m v)))
 s2:u.st=2→u.w=wd c m v∧2+2 * (oldN (szW u.w)).toNat≤n+u.bt.length∧(u.bt++[sl c m v (hdW u.w)]).headD 0=g
 s3:u.st=3→u.w=wd c m v∧2+u.bt.length≤n∧u.bt.headD 0=g
 s4:u.st=4→u.bt.headD 0=g∧∀ l,u.ly=some l→LayQ c m p l n
section
variable {c:Cfg} {m:MemM} {p v:Nat} {u:StealS} {g:Int} {n:Nat} {B:Int} {gn:Bool} {rs:List Int}
theorem stealQ_step (hR:Rings c B m) (hp:p < c.n) (hv:v < c.n) (h:StealQ c m p v u g n) (hu:StealOk u) (hI:StealI c B m p v u gn rs) (h0:u.st ≠ 0) :
  1≤n∧(((stealStep c p v u m).1.st=0∧(MacS.steal v (stealStep c p v u m).1).got=g)∨((stealStep c p v u m).1.st ≠ 0∧StealQ c (stealStep c p v u m).2 p v (stealStep c p v u m).1 g (n - 1))):=by
 have hno:=hu.no
 have hone:=hu.one
 have htwo:=hu.two
 have hthree:=hu.three
 have hfour:=hu.four
 have hlay:=hu.lay
 have his3:=hI.s3
 have hst:=hu.st
 obtain ⟨st,w,bt,ly⟩:=u
 obtain ⟨s1,s2,s3,s4⟩:=h
 dsimp only at *
 have hz:=(hR.w v hv).sz
 have hnn:=szW_nn (wd c m v)
 have hqb:=c.qb
 have hld:ld m (c.word v)=wd c m v:=rfl
 match st,hst with
 | 0,_=>exact absurd rfl h0
 | 1,_ =>
  obtain ⟨k1,k2⟩:=s1 rfl
  refine ⟨by omega,?_⟩
  simp only [stealStep]
  rw [hld]
  by_cases e:szW (wd c m v)=0
  ·rw [if_pos (.inl e)]
   rw [if_pos e] at k2
   exact .inl ⟨rfl,by rw [k2]; rfl⟩
  ·rw [if_neg (by omega)]
   rw [if_neg e] at k2
   exact .inr ⟨by simp,⟨fun h=>by simp at h,fun _=>⟨rfl,by show 2+2 * (oldN (szW (wd c m v))).toNat≤n - 1+0; omega,k2.symm⟩,fun h=>by simp at h,fun h=>by simp at h⟩⟩
 | 2,_ =>
  obtain ⟨k1,k2,k3⟩:=s2 rfl
  obtain ⟨t1,t2⟩:=htwo rfl
  refine ⟨by omega,?_⟩
  simp only [stealStep]
  have eg:IntKind.i64.wrap (ld m (c.slot v ((hdW w+(bt.length:Int)) % 4294967296)))=sl c m v (hdW w+(bt.length:Int)):=by
   rw [slot_mod,gn_wrap (hR.sl v hv _)]
  rw [eg]
  have hh:(bt++[sl c m v (hdW w+(bt.length:Int))]).headD 0=g:=by
   rw [← k3]
   cases bt with
   | nil=>simp
   | cons a l=>rfl
  have hl:(bt++[sl c m v (hdW w+(bt.length:Int))]).length=bt.length+1:=by simp
  by_cases e:((bt.length+1:Nat) : Int)=oldN (szW w)
  ·rw [if_pos e]
   exact .inr ⟨by simp,⟨fun h=>by simp at h,fun h=>by simp at h,fun _=>⟨k1,by dsimp only; rw [hl]; omega,hh⟩,fun h=>by simp at h⟩⟩
  ·rw [if_neg e]
   refine .inr ⟨by simp,⟨fun h=>by simp at h,fun _=>⟨k1,by dsimp only; rw [hl]; omega,?_⟩,fun h=>by simp at h,fun h=>by simp at h⟩⟩
   dsimp only
   rw [← hh]
   cases bt <;> rfl
 | 3,_ =>
  obtain ⟨k1,k2,k3⟩:=s3 rfl
  have hpos:=hthree rfl
  refine ⟨by omega,?_⟩
  simp only [stealStep]
  rw [hld,if_pos k1.symm]
  have hbt:bt.getD 0 0=g:=by
   rw [← k3]
   cases bt <;> rfl
  by_cases e:bt.length=1
  ·rw [if_pos e]
   refine .inl ⟨rfl,?_⟩
   show (if true=true then bt.getD 0 0 else -1)=g
   rw [if_pos rfl,hbt]
  ·rw [if_neg e]
   refine .inr ⟨by simp,⟨fun h=>by simp at h,fun h=>by simp at h,fun h=>by simp at h,fun _=>⟨k3,fun l hl=>?_⟩⟩⟩
   cases hl
   exact ⟨fun _=>by simp only [List.length_drop]; omega,fun h=>by simp at h,fun h=>by simp at h⟩
 | 4,_ =>
  obtain ⟨k1,k2⟩:=s4 rfl
  obtain ⟨l,rfl,hlo,hl0⟩:=hfour rfl
  obtain ⟨_,hpos⟩:=hlay l rfl
  obtain ⟨j1,j2⟩:=layQ_step hR hp (k2 l rfl) hlo.st hl0
  refine ⟨j1,?_⟩
  have hbt:bt.getD 0 0=g:=by
   rw [← k1]
   cases bt <;> rfl
  simp only [stealStep]
  by_cases e:(layStep c p l m).1.st=0
  ·rw [if_pos e]
   refine .inl ⟨rfl,?_⟩
   show (if true=true then bt.getD 0 0 else -1)=g
   rw [if_pos rfl,hbt]
  ·rw [if_neg e]
   rcases j2 with j2 | ⟨_,j2⟩
   ·exact absurd j2 e
   ·exact .inr ⟨by simp,⟨fun h=>by simp at h,fun h=>by simp at h,fun h=>by simp at h,fun _=>⟨k1,fun l2 hl2=>by cases hl2; exact j2⟩⟩⟩
end
def MacQ (c:Cfg) (m:MemM) (p:Nat) (M:MacS) (g:Int) (n:Nat) : Prop :=
 match M with
 | .put u=>g = -1∧PutQ c m p u n
 | .get u=>GetQ c m p u g n
 | .steal v u=>StealQ c m p v u g n
section
variable {c:Cfg} {m:MemM} {p:Nat} {M:MacS} {g:Int} {n:Nat} {B:Int} {gn:Bool} {rs:List Int}
theorem macQ_step (hR:Rings c B m) (hp:p < c.n) (h:MacQ c m p M g n) (hI:MacI c B m p M gn rs) (h0:M.st ≠ 0) :
  1≤n∧(((M.step c p m).1.st=0∧(M.step c p m).1.got=g)∨((M.step c p m).1.st ≠ 0∧MacQ c (M.step c p m).2 p (M.step c p m).1 g (n - 1))):=by
 have hgn:∀ i,Gn (sl c m p i):=hR.sl p hp
 cases M with
 | put u =>
  obtain ⟨e,h⟩:=h
  have hst:=hI.ok.st
  have h1:1≤n:=by
   have s1:=h.s1
   have s2:=h.s2
   have s3:=h.s3
   have s4:=h.s4
   have s5:=h.s5
   replace h0:u.st ≠ 0:=h0
   omega
  refine ⟨h1,?_⟩
  rcases putQ_step hR hp h hst h0 with k | ⟨k1,k2,k3⟩
  ·exact .inl ⟨k,e.symm⟩
  ·exact .inr ⟨k1,e,k3⟩
 | get u =>
  have hst:=hI.ok.st
  have h1:1≤n:=by
   have s1:=h.s1
   have s2:=h.s2
   have s3:=h.s3
   replace h0:u.st ≠ 0:=h0
   omega
  refine ⟨h1,?_⟩
  rcases getQ_step hR hp h hI.ok h0 hgn with k | ⟨k1,k2,k3⟩
  ·exact .inl k
  ·exact .inr ⟨k1,k3⟩
 | steal v u =>
  obtain ⟨h1,h2,h3⟩:=hI
  exact stealQ_step hR hp h1 h h3.ok h3 h0
theorem macQ_new {kd cv cg:Int} (hR:Rings c B m) (hp:p < c.n) (hN:newMac c p kd cv cg=some M) (hn:4+2 * c.q≤n) :
  MacQ c m p M (if kd=1 then -1 else (rl c m (if kd=3 then cv.toNat else p)).headD (-1)) n:=by
 have h8:=hR.h8
 have hhd:∀ q,q < c.n→(rl c m q).headD (-1)=(if szW (wd c m q)=0 then -1 else sl c m q (hdW (wd c m q))):=fun q hq=>by
  have:=szW_nn (wd c m q)
  by_cases e:szW (wd c m q)=0
  ·rw [if_pos e]
   unfold rl
   rw [e]
   rfl
  ·rw [if_neg e]
   unfold rl
   obtain ⟨k,hk⟩ : ∃ k,(szW (wd c m q)).toNat=1+k:=⟨(szW (wd c m q)).toNat - 1,by omega⟩
   rw [hk,win_add]
   simp [win]
 unfold newMac at hN
 split at hN
 ·next h1 =>
  cases hN
  have e:newPut cg=⟨1,cg,0,[],[cg]⟩:=if_pos h1.2
  rw [e,if_pos h1.1]
  exact ⟨rfl,⟨fun _=>by omega,fun h=>by simp at h,fun h=>by simp at h,fun h=>by simp at h,fun h=>by simp at h⟩⟩
 ·split at hN
  ·next h2 =>
   cases hN
   rw [if_neg (by omega),if_neg (by omega),hhd p hp]
   exact ⟨fun _=>⟨by omega,rfl⟩,fun h=>by simp [newGet] at h,fun h=>by simp [newGet] at h⟩
  ·split at hN
   ·next h3 =>
    cases hN
    obtain ⟨q1,q2,q3,q4⟩:=h3
    have hv:cv.toNat < c.n:=by omega
    rw [if_neg (by omega),if_pos q1,hhd _ hv]
    have hz:=(hR.w _ hv).sz
    have hnn:=szW_nn (wd c m cv.toNat)
    have ho:=oldN_b3 hnn.1
    exact ⟨fun _=>⟨by omega,rfl⟩,fun h=>by simp [newSteal] at h,fun h=>by simp [newSteal] at h,fun h=>by simp [newSteal] at h⟩
   ·cases hN
end
structure SoloI (c:Cfg) (B:Int) (x:RaceS) (p:Nat) (kd g:Int) (n:Nat) : Prop where
 I:RaceI c B x
 own:∃ o M,x.ow[p]? = some o∧o.mac=some M∧o.kd=kd∧MacQ c x.m p M g n
section
variable {c:Cfg} {B:Int} {x:RaceS} {p:Nat} {o:OwnS} {M:MacS} {kd g:Int} {n:Nat}
theorem solo_step (h:SoloI c B x p kd g n) (hB:B+8≤1073741824) (ho:x.ow[p]? = some o) (hM:o.mac=some M) :
  1≤n∧o.kd=kd∧(((M.step c p x.m).1.st=0∧(M.step c p x.m).1.got=g)∨((M.step c p x.m).1.st ≠ 0∧SoloI c (B+8) (raceStep c x p o M).1 p kd g (n - 1))):=by
 obtain ⟨hI,o2,M2,e1,e2,e3,e4⟩:=h
 rw [ho] at e1
 cases e1
 rw [hM] at e2
 cases e2
 have hlt:p < x.ow.length:=(List.getElem?_eq_some_iff.1 ho).1
 have hp:p < c.n:=by rw [← hI.len]; exact hlt
 obtain ⟨h0,hMI,hC⟩:=(hI.ow p o ho).mac M hM
 obtain ⟨k1,k2⟩:=macQ_step hI.R hp e4 hMI h0
 obtain ⟨r1,r2,r3,r4,r5⟩:=race_step hI hB ho hM
 refine ⟨k1,e3,?_⟩
 rcases k2 with k2 | ⟨k2,k3⟩
 ·exact .inl k2
 ·refine .inr ⟨k2,⟨r1,?_⟩⟩
  obtain ⟨o1,s1,s2,s3,s4,s5,s6,s7,s8⟩:=r4.self
  have er:(raceStep c x p o M).1=atPoint c x p o M:=by
   unfold raceStep
   rw [if_neg k2,r3]
  rw [er]
  refine ⟨o1,_,s1,s5,s2.trans e3,?_⟩
  rw [r4.mem]
  exact k3
theorem solo_begin {cv cg:Int} (hI:RaceI c B x) (ho:x.ow[p]? = some o) (hM:o.mac=none) (hg:Gn cg∨cg < 0) (hN:newMac c p kd cv cg=some M) :
  SoloI c B (x.own p (o.beg kd cv cg M)) p kd (if kd=1 then -1 else (rl c x.m (if kd=3 then cv.toNat else p)).headD (-1)) (4+2 * c.q):=by
 have hlt:p < x.ow.length:=(List.getElem?_eq_some_iff.1 ho).1
 have hp:p < c.n:=by rw [← hI.len]; exact hlt
 refine ⟨(race_begin hI ho hM hg hN).1,o.beg kd cv cg M,M,?_,rfl,rfl,macQ_new hI.R hp hN (Nat.le_refl _)⟩
 show (x.ow.set p _)[p]? = _
 rw [List.getElem?_set_self hlt]
end
end Go.Proofs.YtkmccgombmogmaaGreat
