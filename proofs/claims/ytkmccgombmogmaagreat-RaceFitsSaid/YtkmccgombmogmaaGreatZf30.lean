/- 'RaceFits' returns true, whatever its arguments are, and leaves them as they were. -/
import Derived.Test.YtkmccgombmogmaaGreatZf29
import Derived.Test.YtkmccgombmogmaaGreatRows
import Derived.WalkKit
import Derived.ProofKit
import Derived.OpenShut
import Derived.Carry
import Derived.Deep.Fields
import Derived.Test.YtkmccgombmogmaaGreatZf8
import Derived.Deep.Slices
import Derived.ChangeSame
set_option linter.unusedSimpArgs false
set_option linter.unusedVariables false
namespace Go.Proofs.YtkmccgombmogmaaGreat
open Go.Ev Go.Proofs.Tryz
open Go.RowKit
set_option maxRecDepth 8000
section
variable{F:Fence}{n:Nat}{P:Program}
theorem NA{s1 s2 s3 s4 r:Code}{Q:Exit->Act->World->Prop}{K:Act->World->Prop}(h:∀ a w,(Code.seq s1 (Code.seq s2 (Code.seq s3 (Code.seq s4 r)))).wpIn F n P Q a w->K a w) :
  ∃ K2 K3 K4 K5:Act->World->Prop,(∀ a w,r.wpIn F n P Q a w->K5 a w)/\(∀ a w,s4.wpIn F n P (Exit.then K5 Q) a w->K4 a w)/\(∀ a w,s3.wpIn F n P (Exit.then K4 Q) a w->K3 a w)/\(∀ a w,s2.wpIn F n P (Exit.then K3 Q) a w->K2 a w)/\(∀ a w,s1.wpIn F n P (Exit.then K2 Q) a w->K a w) :=
 ⟨_,_,_,r.wpIn F n P Q,λ_ _ h=>h,λ_ _ h1=>wpIn_seq h1,λ_ _ h1=>wpIn_seq h1,λ_ _ h1=>wpIn_seq h1,λ_ _ h1=>h _ _ (wpIn_seq h1)⟩
end
section
variable{c:aU}{x:aI}{B:Int}{k n:Nat}
def I7(c:aU)(x:aI)(k:Nat):List Int:=(List.range k).flatMap (λq=>rl c x.m q++cq x q)
theorem CH:fl c x=I7 c x c.n:=rfl
theorem Ik:I7 c x 0=[]:=rfl
theorem tf:I7 c x (k+1)=I7 c x k++(rl c x.m k++cq x k):=by
 unfold I7;rw[List.range_succ,List.flatMap_append,List.flatMap_singleton]
theorem NB(h:k<=n):(I7 c x k).length<=(I7 c x n).length:=by
 obtain⟨d,rfl⟩:=Nat.exists_eq_add_of_le h;clear h
 induction d with
 | zero=>exact Nat.le_refl _
 | succ d ih =>
  rw[← Nat.add_assoc,tf,List.length_append];omega
attribute [irreducible] I7
theorem p8(hI:en c B x){q:Nat}(hq:q<c.n):∃ o,x.ow[q]? = some o/\eU c o.dq/\iD c x.m q=bj c o.dq/\iD c x.m q=rl c x.m q/\cq x q=eI o/\∀ M,o.dE=some M->iE c q M:=by
 have hl:q<x.ow.length:=by rw[hI.len];exact hq
 refine⟨x.ow[q],List.getElem?_eq_getElem hl,?_⟩;have hO:=hI.ow q _ (List.getElem?_eq_getElem hl);have hs:∀ i,Gn (sl c x.m q i):=λi=>hI.R.sl q hq i
 have h1:=hO.dq.same hs;refine⟨hO.dq.ok,h1,?_,?_,λM h=>CD (hO.dE M h).2.1⟩
 ·rw[h1,hO.dq.l]
 ·unfold cq eo
  rw[List.getElem?_eq_getElem hl];rfl
variable{ctx:dt}{w:World}{r:List aF}{b:RB}{p:Nat}
theorem Il(n:Nat)(hI:en c B x)(hp:p<c.n)(h:af ctx (cj b c x::r) w) :
  CallsIn Fence.wide n prog 15 #[.pointer (some ⟨b.br,0,none⟩),.int .i64 (p:Int)] w λe w'=>∃ a k,e=.returned (.slice a (rl c x.m p).length k)/\af ctx (bJ (.slice a (rl c x.m p).length k) (rl c x.m p)::cj b c x::r) w':=by
 obtain⟨o,ho,hd,h1,h2,h3,hM⟩:=p8 hI hp;have:=Pg n hp hI.R.mem h;rw[h2]at this;exact this
theorem K1(n:Nat)(hI:en c B x)(hp:p<c.n)(h:af ctx (cj b c x::r) w) :
  CallsIn Fence.wide n prog 18 #[.pointer (some ⟨b.br,0,none⟩),.int .i64 (p:Int)] w λe w'=>∃ a k,e=.returned (.slice a (rl c x.m p).length k)/\af ctx (bJ (.slice a (rl c x.m p).length k) (rl c x.m p)::cj b c x::r) w':=by
 obtain⟨o,ho,hd,h1,h2,h3,hM⟩:=p8 hI hp;have:=Ny n (by have:=hI.R.h8;omega) hp ho hd h;rw[← h1,h2]at this;exact this
theorem K6(n:Nat)(hI:en c B x)(hp:p<c.n)(h:af ctx (cj b c x::r) w) :
  CallsIn Fence.wide n prog 19 #[.pointer (some ⟨b.br,0,none⟩),.int .i64 (p:Int)] w λe w'=>∃ a k,e=.returned (.slice a (cq x p).length k)/\af ctx (bJ (.slice a (cq x p).length k) (cq x p)::cj b c x::r) w':=by
 obtain⟨o,ho,hd,h1,h2,h3,hM⟩:=p8 hI hp;have:=Nz n hp ho hI.R.mem hM h;rw[← h3]at this;exact this
end
section
variable{c:aU}{x:aI}{B:Int}{p:Nat}{o:ct}{M:bV}{ctx:dt}{w:World}{r:List aF}{b:RB}
theorem Pk(A O l g:List Int):(A++((O++l)++g)).Perm ((A++(l++g))++O):=by
 rw[List.append_assoc A,List.append_assoc O];exact List.Perm.append_left A List.perm_append_comm
theorem Pm(A O g:List Int):((A++g)++O).Perm ((A++O)++g):=by
 rw[List.append_assoc,List.append_assoc];exact List.Perm.append_left A List.perm_append_comm
theorem Ea(n:Nat):nums (n+1)=nums n++[(n:Int)]:=by simp[nums,List.range_succ]
theorem Bp(hI:en c B x)(hB:B+8<=1073741824)(ho:x.ow[p]? = some o)(hM:o.dE=some M) :
  ∃ x2 R,cK c x p o M=(x2,R)/\en c (B+8) x2/\(R=none/\(fl c x).Perm (fl c x2)\/∃ k g l,R=some ⟨k,g,l⟩/\(fl c x).Perm (fl c x2++(l++if 0<=g then [g] else []))):=by
 obtain⟨h1,h2,_⟩:=uS hI hB ho hM;refine⟨(cK c x p o M).1,(cK c x p o M).2,rfl,h1,?_⟩
 by_cases h0:(M.step c p x.m).1.st=0
 ·refine .inr ⟨o.kd,(M.step c p x.m).1.got,(M.step c p x.m).1.over,?_,?_⟩
  ·unfold cK
   rw[if_pos h0]
  ·rw[if_pos h0]at h2
   exact h2
 ·refine .inl ⟨?_,?_⟩
  ·unfold cK
   rw[if_neg h0]
  ·rw[if_neg h0,List.append_nil]at h2
   exact h2
theorem NC(n:Nat)(hI:en c B x)(hB:B+8<=1073741824)(ho:x.ow[p]? = some o)(hM:o.dE=some M)(h:af ctx (cj b c x::r) w) :
  CallsIn Fence.wide n prog 13 #[.pointer (some ⟨b.br,0,none⟩),.int .i64 (p:Int)] w λe w'=>∃ x2 kk gg l a k d,e=.returned (.tuple #[.agg #[.int .i64 kk,.int .i64 gg,.slice a l.length k],.bool d])/\en c (B+8) x2/\(d=false->(fl c x).Perm (fl c x2))/\(d=true->(fl c x).Perm (fl c x2++(l++if 0<=gg then [gg] else [])))/\af ctx (bJ (.slice a l.length k) l::cj b c x2::r) w':=by
 obtain⟨x2,R,hR,h1,h2⟩:=Bp hI hB ho hM;have h3:=jg n hI hB ho hM h;rw[hR]at h3;refine h3.mono ?_;rintro e w' ⟨a,k,rfl,hh⟩;rcases h2 with ⟨rfl,hp⟩ | ⟨kk,g,l,rfl,hp⟩
 ·exact⟨x2,_,_,_,a,k,_,rfl,h1,λ_=>hp,λh=>(by cases h),hh⟩
 ·exact⟨x2,_,_,_,a,k,_,rfl,h1,λh=>(by cases h),λ_=>hp,hh⟩
theorem zw(hI:en c B x)(ho:x.ow[p]? = some o)(hM:o.dE=none)(kd cv cg:Int)(hg:Gn cg) :
  ∃ x2 e o2,dH c p o kd cv cg=e/\cY c x p o kd cv cg=x2/\en c B x2/\x2.ow[p]? = some o2/\(e≠0/\fl c x2=fl c x\/e=0/\(fl c x2).Perm (fl c x++(if kd=1 then [cg] else []))):=by
 have hlt:p<x.ow.length:=(List.getElem?_eq_some_iff.1 ho).1;unfold dH cY;cases hN:ep c p kd cv cg with
 | none=>exact⟨x,2,o,rfl,rfl,hI,ho,.inl ⟨by decide,rfl⟩⟩
 | some M =>
  obtain⟨h1,h2⟩:=Bg hI ho hM (.inl hg) hN;refine⟨x.own p (o.xi kd cv cg M),0,o.xi kd cv cg M,?_,?_,h1,?_,.inr ⟨rfl,h2⟩⟩
  ·rw[hM];rfl
  ·dsimp only
   rw[hM];rfl
  ·show(x.ow.set p _)[p]? = _
   rw[List.getElem?_set_self hlt]
theorem K7(n:Nat)(hI:en c B x)(ho:x.ow[p]? = some o)(hM:o.dE=none)(kd cv cg:Int)(hg:Gn cg)(h:af ctx (cj b c x::r) w) :
  CallsIn Fence.wide n prog 11 #[.pointer (some ⟨b.br,0,none⟩),.int .i64 (p:Int),.agg #[.int .i64 kd,.int .i64 cv,.int .i64 cg]] w λe w'=>∃ x2 er o2,e=.returned (.int .i64 er)/\en c B x2/\x2.ow[p]? = some o2/\(er≠0/\Aside (fl c x2=fl c x)\/er=0/\(fl c x2).Perm (fl c x++(if kd=1 then [cg] else [])))/\af ctx (cj b c x2::r) w':=by
 obtain⟨x2,e,o2,h1,h2,h3,h4,h5⟩:=zw hI ho hM kd cv cg hg;have hb:=Nx n hI.len ho kd cv cg h;rw[h1,h2]at hb;exact hb.mono (λe' w' ⟨k1,k2⟩=>⟨x2,e,o2,k1,h3,h4,h5,k2⟩)
theorem Pn{t:TypeId}{u y:Value}{xs:List Int}{g:Int}(ht:t = 35)(hn:xs.length+1<=1000000)(hy:Src prog 1 35 y 1 [.int .i64 g] w)(h:af ctx (bJ u xs::r) w) :
  ∃ zs a k w',Aside (zs=xs++[g])/\(Builtin.append_ #[t,t] t #[u,y]).run prog w=.ok (.slice a zs.length k) w'/\af ctx (bJ (.slice a zs.length k) zs::r) w':=by
 subst ht;obtain⟨i,hi,hz,h0,hby⟩:=b_;obtain⟨F',m1,m2,m3⟩:=h.ex;obtain⟨Fa,Fl,k1,k2,k3,k4⟩:=bI m1;have k1':dT 3 i.size u xs.length (aX xs) Fa w:=by rw[hz];exact k1
 have hsrc:Src prog i.size 35 y 1 [.int .i64 g] w:=by rw[hz];exact hy
 obtain⟨v',w',G,r1,r2,r3,r4⟩:=dT.append (ty := 35) k1' underlying35 hi h0 (by rw[hz];rfl) hsrc (by rw[hby];omega) (by omega);have MD:∀ j,Fl j->w'.heap[j]? = w.heap[j]?:=λj hj=>r3.block j (k2.lt j hj) (λhf=>k3 j hf hj)
 have q1:=fg k2 MD r3.size;have q0:(bJ v' (xs++[g])).p (λ_=>none) G w':=by
  show dT 3 1 v' (xs++[g]).length (aX (xs++[g])) G w';rw[hz]at r2;rw[List.length_append,show aX (xs++[g])=aX xs++[.int .i64 g] by simp[aX]];exact r2
 have q2:=bW (a:=bJ v' (xs++[g])) (Fa:=G) q0 q1 (λj hj=>(r4 j hj).1) (λj hj hl=>by
  rcases(r4 j hj).2 with h | h
  ·exact k3 j h hl
  ·have:=k2.lt j hl
   omega)
 have hfin:af ctx (bJ v' (xs++[g])::r) w':=by
  refine⟨_,q2,⟨r3.os.trans m2.os,r3.tape.trans m2.tape,r3.output.trans m2.output,Nat.le_trans m2.size r3.size,λj hj hx=>?_⟩,λj hj=>?_⟩
  ·refine(r3.block j (Nat.lt_of_lt_of_le hj m2.size) (λhf=>?_)).trans (m2.block j hj hx)
   rcases m3 j ((k4 j).2 (.inl hf)) with h | h
   ·exact hx h
   ·omega
  ·rcases hj with hj | hj
   ·rcases(r4 j hj).2 with h | h
    ·exact m3 j ((k4 j).2 (.inl h))
    ·exact .inr (Nat.le_trans m2.size h)
   ·exact m3 j ((k4 j).2 (.inr hj))
 obtain⟨a,k,rfl⟩:=cS (aZ hfin);exact⟨_,a,k,w',(show _=_ from rfl),r1,hfin⟩
end
theorem Io{ctx:dt}{w:World}{r:List aF}{t:TypeId}{u y:Value}{xs ys:List Int}(ht:t = 35)(hn:xs.length+ys.length<=1000000)(h:af ctx (bJ u xs::bJ y ys::r) w) :
  ∃ zs a k w',Aside (zs=xs++ys)/\(Builtin.append_ #[t,t] t #[u,y]).run prog w=.ok (.slice a zs.length k) w'/\af ctx (bJ (.slice a zs.length k) zs::bJ y ys::r) w':=by
 obtain⟨a,k,w',h1,h2⟩:=Pj ht hn h;exact⟨_,a,k,w',(show _=_ from rfl),h1,h2⟩
set_option maxHeartbeats 4000000 in
theorem K8(m:Nat)(c0:Cf){a0:Option Addr}{N k0:Nat}{L:List Value}{w:World}(hs:iM 4 (.slice a0 N k0) N L w)(hL:∀ j,j<N*4->∃ i:Int,L[j]? = some (.int .i64 i))(Si:∀ (m:Nat) (w:World),CallsIn Fence.wide m prog 8 #[] w λe w'=>e=.returned (.bool true)/\Below w.heap.size w w') :
  CallsIn Fence.wide m prog 4 #[c0.v,.slice a0 N k0] w λe w'=>e=.returned (.bool true)/\Below w.heap.size w w':=by
 refine callsIn_of_wp func4 rfl trivial ?_ rfl;simp only[ntmps4,List.size_toArray,List.length_cons,List.length_nil,Nat.reduceAdd,Nat.reduceSub,Array.replicate_succ,Array.replicate_zero,List.push_toArray,List.append_toArray,List.nil_append,List.cons_append];obtain⟨W1,hW1⟩:∃ W1,w.alloc (.cells #[.int .i64 c0.n,.int .i64 c0.q,.int .i64 c0.g,.int .i64 c0.m,.int .i64 c0.t,.int .i64 c0.s] 23)=W1:=⟨_,rfl⟩;have h0:af ⟨w,λ_=>False⟩ [] w:=af.start (kZ w);have h1:af ⟨w,λ_=>False⟩ [aE w.heap.size [.int .i64 c0.n,.int .i64 c0.q,.int .i64 c0.g,.int .i64 c0.m,.int .i64 c0.t,.int .i64 c0.s] 23] W1:=by rw[← hW1];exact eu _ _ h0
 have hB1:=h1.below (λ_=>id)
 by_cases hl:N<=300
 rotate_left
 ·have tU:(N:Int)>(300:Int):=by omega
  gi_wp2
  refine⟨trivial,λh=>by simp[Fence.wide]at h,(Si _ _).mono ?_⟩;rintro e w2 ⟨rfl,hb⟩
  gi_wp2
  exact bodyPost_ret (results_tmp rfl _ _ _) rfl ⟨rfl,hB1.trans (hb.mono hB1.size)⟩
 have tU:¬ (N:Int)>(300:Int):=by omega
 have hcs:∀ (r:List aF) (ctx:dt) (c:Cf) (bc:Nat) (w':World),af ctx (aE bc [.int .i64 c.n,.int .i64 c.q,.int .i64 c.g,.int .i64 c.m,.int .i64 c.t,.int .i64 c.s] 23 :: r) w'->w'.cell? ⟨bc,0,none⟩=some (.int .i64 c.n)/\w'.cell? ⟨bc,1,none⟩=some (.int .i64 c.q)/\w'.cell? ⟨bc,2,none⟩=some (.int .i64 c.g)/\w'.cell? ⟨bc,3,none⟩=some (.int .i64 c.m)/\w'.cell? ⟨bc,4,none⟩=some (.int .i64 c.t)/\w'.cell? ⟨bc,5,none⟩=some (.int .i64 c.s)/\(∀ j,w'.frozen? ⟨bc,j,none⟩=false) :=
  λr ctx c bc w' hh=>⟨cell_of (aA hh) 0 _ rfl,cell_of (aA hh) 1 _ rfl,cell_of (aA hh) 2 _ rfl,cell_of (aA hh) 3 _ rfl,cell_of (aA hh) 4 _ rfl,cell_of (aA hh) 5 _ rfl,λj=>cf (aA hh) j⟩
 obtain⟨bc,hbc⟩:∃ bc,w.heap.size=bc:=⟨_,rfl⟩;rw[hbc]at h1;obtain⟨d0,d1,d2,d3,d4,d5,d6⟩:=hcs _ _ _ _ _ h1;obtain⟨c,hc⟩:∃ c:aU,made c0=c:=⟨_,rfl⟩;have hq8:=KW c0;have Ip:=KY c0 W1;rw[hc]at hq8 Ip;clear hc
 gi_wp2
 refine⟨trivial,λh=>by simp[Fence.wide]at h,(callsIn_wide.2 Ip).mono ?_⟩;clear Ip;rintro e w2 ⟨rfl,B2⟩;have h2:=bH h1 B2;obtain⟨p0,p1,p2,p3,p4,p5,p6⟩:=hcs _ _ _ _ _ h2;obtain⟨f0,f1,f2,f3,f4,f5⟩:w2.frozen? ⟨bc,0,none⟩=false/\w2.frozen? ⟨bc,1,none⟩=false/\w2.frozen? ⟨bc,2,none⟩=false/\w2.frozen? ⟨bc,3,none⟩=false/\w2.frozen? ⟨bc,4,none⟩=false/\w2.frozen? ⟨bc,5,none⟩=false:=⟨p6 _,p6 _,p6 _,p6 _,p6 _,p6 _⟩;have h3:=bQ 5 (.int .i64 c.s) (bQ 4 (.int .i64 c.t) (bQ 3 (.int .i64 c.m) (bQ 2 (.int .i64 c.g) (bQ 1 (.int .i64 (c.q:Int)) (bQ 0 (.int .i64 (c.n:Int)) h2)))));clear d0 d1 d2 d3 d4 d5 d6 p6;replace h3:af ⟨w,λ_=>False⟩ [aE bc (cQ c) 23] _:=h3
 gi_wp2
 refine⟨trivial,λh=>by simp[Fence.wide]at h,(anew (m-1) c h3).mono ?_⟩;rintro e w4 ⟨b,rfl,h4⟩;have h5:af ⟨w,λ_=>False⟩ [cj b c (eJ c),aE bc (cQ c) 23,bJ (.slice none 0 0) []] w4:=(h4.d8 (e := 3) (sz:=1)).sel [1,2,0];clear p0 p1 p2 p3 p4 p5 f0 f1 f2 f3 f4 f5 h1 h2 h3 h4 B2 hB1 hbc;have P1:∀ (x:aI) (ov:Value) (out:List Int) (r:List aF) (w':World),af ⟨w,λ_=>False⟩ (cj b c x::aE bc (cQ c) 23 :: r) w'->w'.cell? ⟨bc,0,none⟩=some (.int .i64 (c.n:Int)) :=
  λx ov out r w' hh=>cell_of (aA (bK hh)) 0 _ rfl
 clear hcs;have hnb:=c.nb
 gi_wp2
 gi_loopw [7,8,9] (λnx ov iv wr=>∃ (i Eb:Nat) (x:aI) (out:List Int),nx=.int .i64 (Eb:Int)/\iv=.int .i64 (i:Int)/\i<=N/\Eb<=i/\(∃ B:Int,B<=8*(i:Int)/\en c B x)/\(fl c x++out).Perm (nums Eb)/\af ⟨w,λ_=>False⟩ [cj b c x,aE bc (cQ c) 23,bJ ov out] wr) (λ_ _ iv _=>N-(intOf iv).toNat)
 case atStart=>exact⟨0,0,eJ c,[],rfl,rfl,Nat.zero_le _,Nat.le_refl _,⟨0,by omega,(zi c hq8).1⟩,by rw[(zi c hq8).2];exact List.Perm.refl _,h5⟩
 case round =>
  obtain⟨i,Eb,x,out,rfl,rfl,hi,hni,⟨B,hB,hI⟩,hperm,hH⟩:=hrel;obtain⟨ao,ko,rfl⟩:=cS (aZ (aH (r:=[_,_]) hH))
  by_cases hlt:i<N
  ·have Nw:(i:Int)<(N:Int):=by omega
   rcases hs.2 with ⟨e,_⟩ | ⟨ba,off,c1,hv,hb,hc⟩
   ·omega
   cases hv;have hgt:∀ (j:Nat),j<4->∃ u:Int,∀ W:World,Below w.heap.size w W->W.cell? ⟨ba,off+i*4+j,none⟩=some (.int .i64 u):=by
    intro j hj;obtain⟨u,hu⟩:=hL (i*4+j) (by omega);refine⟨u,λW hW=>?_⟩;rw[hW.cell (p:=⟨ba,off+i*4+j,none⟩) hb.1,Nat.add_assoc,hc _ (by omega),hu]
   obtain⟨aP,g0⟩:=hgt 0 (by decide);obtain⟨aK,g1⟩:=hgt 1 (by decide);obtain⟨aV,g2⟩:=hgt 2 (by decide);obtain⟨aG,g3⟩:=hgt 3 (by decide);rw[Nat.add_zero]at g0;have RH:∀ W:World,Below w.heap.size w W->W.cell? ⟨ba,off+i*4,none⟩=some (.int .i64 aP)/\W.cell? ⟨ba,off+i*4+1,none⟩=some (.int .i64 aK)/\W.cell? ⟨ba,off+i*4+2,none⟩=some (.int .i64 aV)/\W.cell? ⟨ba,off+i*4+3,none⟩=some (.int .i64 aG):=λW hW=>⟨g0 W hW,g1 W hW,g2 W hW,g3 W hW⟩
   clear g0 g1 g2 g3 hgt;have hcc:∀ (x:aI) (r:List aF) (w':World),af ⟨w,λ_=>False⟩ (cj b c x::aE bc (cQ c) 23 :: r) w'->w'.cell? ⟨ba,off+i*4,none⟩=some (.int .i64 aP)/\w'.cell? ⟨bc,0,none⟩=some (.int .i64 (c.n:Int)):=λx r w' hh=>⟨(RH w' (hh.below (λ_=>id))).1,P1 x .nilIface [] r w' hh⟩
   have hd:=bH hH ((Below.refl _ wr).drew);have hpl:=aw aP c.n hnb.1;obtain⟨p,hp⟩:∃ p,(pick aP (c.n:Int)).toNat=p:=⟨_,rfl⟩;rw[hp]at hpl;obtain⟨vv,hvv⟩:∃ vv,(pick aV (c.n:Int)).toNat=vv:=⟨_,rfl⟩;have hpk:∀ W,Calls prog 14 #[.int .i64 aP,.int .i64 (c.n:Int)] W λe w'=>e=.returned (.int .i64 (p:Int))/\Below W.heap.size W w':=λW=>by rw[← hp];exact qw aP c.n hnb.1 (by omega) W
   have hvk:∀ W,Calls prog 14 #[.int .i64 aV,.int .i64 (c.n:Int)] W λe w'=>e=.returned (.int .i64 (vv:Int))/\Below W.heap.size W w':=λW=>by rw[← hvv];exact qw aV c.n hnb.1 (by omega) W
   clear hp hvv
   gi_wp2
   refine wpIn_wide.2 ?_
   go_region_held3 (λw'=>w'.cell? ⟨ba,off+i*4,none⟩=some (.int .i64 aP)/\w'.cell? ⟨bc,0,none⟩=some (.int .i64 (c.n:Int))) ((first | exact hcc _ _ _ hd | exact hcc _ _ _ h6 | fail)) ((first
    | (go_at_call 14;have hcon:=hpk wr.drew;(with_reducible refine hcon.mono ?_);clear hcon;rintro e w6 ⟨rfl,B6⟩;have h6:=bH hd B6)))
   clear hd hH;obtain⟨q0,q1,q2,q3⟩:=RH w6 (h6.below (λ_=>id));have c6:=P1 x .nilIface [] _ _ h6;obtain⟨W7,HZ⟩:∃ W7,w6.alloc (.cells #[.int .i64 aK,.int .i64 aV,.int .i64 aG] 26)=W7:=⟨_,rfl⟩;have h7:af ⟨w,λ_=>False⟩ (aE w6.heap.size [.int .i64 aK,.int .i64 aV,.int .i64 aG] 26 :: [cj b c x,aE bc (cQ c) 23,bJ (.slice ao out.length ko) out]) W7:=by rw[← HZ];exact eu _ _ h6
   obtain⟨bl,hbl⟩:∃ bl,w6.heap.size=bl:=⟨_,rfl⟩;rw[hbl]at h7;have hcB:∀ (r:List aF) (a1 a2 a3:Int) (w':World),af ⟨w,λ_=>False⟩ (aE bl [.int .i64 a1,.int .i64 a2,.int .i64 a3] 26 :: r) w'->w'.cell? ⟨bl,0,none⟩=some (.int .i64 a1)/\w'.cell? ⟨bl,1,none⟩=some (.int .i64 a2)/\w'.cell? ⟨bl,2,none⟩=some (.int .i64 a3)/\w'.frozen? ⟨bl,0,none⟩=false/\w'.frozen? ⟨bl,1,none⟩=false/\w'.frozen? ⟨bl,2,none⟩=false :=
    λr a1 a2 a3 w' hh=>⟨cell_of (aA hh) 0 _ rfl,cell_of (aA hh) 1 _ rfl,cell_of (aA hh) 2 _ rfl,cf (aA hh) 0,cf (aA hh) 1,cf (aA hh) 2⟩
   obtain⟨y0,y1,y2,y3,y4,y5⟩:=hcB _ _ _ _ _ h7;have c7:=P1 x .nilIface [] _ _ (aH (r:=[_]) h7);have h8:=bQ 2 (.int .i64 (Eb:Int)) h7
   gi_wp2
   gi_wp2
   gi_wp2
   gi_wp2
   gi_wp2
   gi_wp2
   gi_wp2
   gi_wp2
   gi_wp2
   gi_wp2
   gi_wp2
   gi_wp2
   gi_wp2
   gi_wp2
   gi_wp2
   gi_wp2
   gi_wp2
   gi_wp2
   gi_wp2
   gi_wp2
   gi_wp2
   gi_wp2
   gi_wp2
   gi_wp2
   gi_wp2
   gi_wp2
   gi_wp2
   gi_wp2
   gi_wp2
   gi_wp2
   gi_wp2
   refine⟨trivial,λh=>by simp[Fence.wide]at h,(callsIn_wide.2 (hvk _)).mono ?_⟩;rename_i Uu a16 KL aL;obtain⟨T1,Uv,Uw,T2,nq,Sj,Sk,Sl,s16⟩:=NA a16;clear a16;rintro e w9 ⟨rfl,B9⟩;have h9:=bH h8 B9;clear h8 h7 h6 B6 B9 c7 c6 q0 q1 q2 q3 y0 y1 y2 y3 y4 y5 hpk hvk hcc RH hc hb;have Iq:∀ (x':aI) (ou:List Int) (nx:Nat) (oa:Option Addr) (ok:Nat) (w':World) (B':Int) {z4 Sm Sn z12 Po Pp Pq z33 z34 z35 z36 z37 z38 z39 z40 z41 z42 z43 z44 z45 z46 z47 z48 z49 z50 z51 z52 z53 z54 z55 z56 z57 z58 z59 z60 z61 z62 z63 z64 z65 z66 z67 z68 z69 z70 z71 z72 z73 z74 z75 z76 z77 z78 z79 z80 Pr z82 z83 z84 z85 z86 z87 Ps z89 Pt z91 Pu z93 Pv Pw Px Py Pz PA Ir Iu Iv Iw Ix z105 Iy z107 Iz z109 IA IB IC IE IF IG z116 z117 IH z119 II IJ IK IL z124 IP IQ z127 IU IV z130 z131 IW:Value},nx<=i+1->B'<=8*(i:Int)+8->en c B' x'->(fl c x'++ou).Perm (nums nx)->af ⟨w,λ_=>False⟩ [cj b c x',aE bc (cQ c) 23,bJ (.slice oa ou.length ok) ou] w'->T2 { tmps:=#[c0.v,.slice (some ⟨ba,off,none⟩) N k0,.pointer (some ⟨bc,0,none⟩),undef,z4,.pointer (some ⟨b.br,0,none⟩),.int .i64 0,.int .i64 (nx:Int),.slice oa ou.length ok,.int .i64 (i:Int),Sm,Sn,z12,Po,Pp,Pq,.slice (some ⟨ba,off,none⟩) N k0,.int .i64 (N:Int),.bool false,undef,.agg #[.int .i64 c0.n,.int .i64 c0.q,.int .i64 c0.g,.int .i64 c0.m,.int .i64 c0.t,.int .i64 c0.s],c.v,.tuple #[.pointer (some ⟨b.br,0,none⟩),.int .i64 0],.agg #[.int .i64 (c.n:Int),.int .i64 (c.q:Int),.int .i64 c.g,.int .i64 c.m,.int .i64 c.t,.int .i64 c.s],.tuple #[.pointer (some ⟨b.br,0,none⟩),.int .i64 0],.pointer (some ⟨b.br,0,none⟩),.int .i64 0,.int .i64 0,.bool false,.bool false,.pointer (some ⟨b.br,0,none⟩),.bool false,.bool false,z33,z34,z35,z36,z37,z38,z39,z40,z41,z42,z43,z44,z45,z46,z47,z48,z49,z50,z51,z52,z53,z54,z55,z56,z57,z58,z59,z60,z61,z62,z63,z64,z65,z66,z67,z68,z69,z70,z71,z72,z73,z74,z75,z76,z77,z78,z79,z80,Pr,z82,z83,z84,z85,z86,z87,Ps,z89,Pt,z91,Pu,z93,Pv,Pw,Px,Py,Pz,PA,Ir,Iu,Iv,Iw,Ix,z105,Iy,z107,Iz,z109,IA,IB,IC,IE,IF,IG,z116,z117,IH,z119,II,IJ,IK,IL,z124,IP,IQ,z127,IU,IV,z130,z131,IW,undef],defers:=[] } w':=by
    intro x' ou nx oa ok w' B' z4 Sm Sn z12 Po Pp Pq z33 z34 z35 z36 z37 z38 z39 z40 z41 z42 z43 z44 z45 z46 z47 z48 z49 z50 z51 z52 z53 z54 z55 z56 z57 z58 z59 z60 z61 z62 z63 z64 z65 z66 z67 z68 z69 z70 z71 z72 z73 z74 z75 z76 z77 z78 z79 z80 Pr z82 z83 z84 z85 z86 z87 Ps z89 Pt z91 Pu z93 Pv Pw Px Py Pz PA Ir Iu Iv Iw Ix z105 Iy z107 Iz z109 IA IB IC IE IF IG z116 z117 IH z119 II IJ IK IL z124 IP IQ z127 IU IV z130 z131 IW hnx hB' hI' hP hh;clear h9 Sj Sk Sl s16 hI hperm;have hT:(I7 c x' c.n).length+ou.length<=301:=by
     have:=hP.length_eq;rw[List.length_append,show(nums nx).length=nx by simp[nums],CH]at this;omega
    gi_wp2
    refine⟨trivial,λh=>by simp[Fence.wide]at h,(Pf (m-1) hI'.ok hh).mono ?_⟩;rintro e w7 ⟨rfl,hw7⟩;replace hw7:=hw7.symm;subst hw7;have hn0:af ⟨w,λ_=>False⟩ [bJ (.slice none 0 0) [],bJ (.slice oa ou.length ok) ou,cj b c x',aE bc (cQ c) 23] w':=(hh.d8 (e := 3) (sz:=1)).sel [0,3,1,2];obtain⟨a1,k1,w8,r1,g1⟩:=Pj (t := 35) rfl (by simp;omega) hn0;rw[List.nil_append]at r1 g1;have g2:af ⟨w,λ_=>False⟩ [cj b c x',aE bc (cQ c) 23,bJ (.slice oa ou.length ok) ou,bJ (.slice a1 ou.length k1) ou] w8:=g1.sel [2,3,1,0];clear hn0 g1 hh
    gi_wp2_with (gi_at_builtin;refine ce rfl _ _ _ rfl r1 ?_)
    clear r1
    gi_loopw [14,15] (λav qv w3=>∃ (q:Nat) (al:List Int),qv=.int .i64 (q:Int)/\q<=c.n/\Aside (al=ou++I7 c x' q)/\af ⟨w,λ_=>False⟩ [cj b c x',aE bc (cQ c) 23,bJ (.slice oa ou.length ok) ou,bJ av al] w3) (λ_ qv _=>c.n-(intOf qv).toNat)
    case atStart=>exact⟨0,ou,rfl,Nat.zero_le _,(show _=_ by rw[Ik,List.append_nil]),g2⟩
    case round =>
     obtain⟨q,al,rfl,hq,hal,hH⟩:=hrel;obtain⟨aa,ka,rfl⟩:=cS (aZ (aH (r:=[_,_,_]) hH));have cN:=P1 x' .nilIface [] _ _ hH
     by_cases NN:q<c.n
     ·have T3:(q:Int)<(c.n:Int):=Int.ofNat_lt.2 NN
      have hL1:al.length+((rl c x'.m q).length+(cq x' q).length)<=301:=by
       have:=NB (c:=c) (x:=x') (k:=q+1) (n:=c.n) NN;rw[tf,List.length_append,List.length_append]at this;rw[hal.out,List.length_append];omega
      gi_wp2
      refine⟨trivial,λh=>by simp[Fence.wide]at h,(Il (m-1) hI' NN hH).mono ?_⟩;rintro e wa ⟨a2,k2,rfl,ha⟩
      gi_wp2
      refine⟨trivial,λh=>by simp[Fence.wide]at h,(K1 (m-1) hI' NN (bK ha)).mono ?_⟩;rintro e wb ⟨a3,k3,rfl,hb⟩;have hb1:af ⟨w,λ_=>False⟩ [bJ (.slice a2 (rl c x'.m q).length k2) (rl c x'.m q),bJ (.slice a3 (rl c x'.m q).length k3) (rl c x'.m q),cj b c x',aE bc (cQ c) 23,bJ (.slice oa ou.length ok) ou,bJ (.slice aa al.length ka) al] wb:=hb.sel [2,0,1,3,4,5]
      gi_wp2
      refine⟨trivial,λh=>by simp[Fence.wide]at h,(Ph (m-1) (by omega) hb1).mono ?_⟩;rintro e wc ⟨rfl,hc1⟩;have hc2:=aH (r:=[_,_]) hc1;clear ha hb hb1 hc1 cN
      gi_wp2
      refine⟨trivial,λh=>by simp[Fence.wide]at h,(Il (m-1) hI' NN hc2).mono ?_⟩;rintro e wd ⟨a4,k4,rfl,hd1⟩;have hd2:af ⟨w,λ_=>False⟩ [bJ (.slice aa al.length ka) al,bJ (.slice a4 (rl c x'.m q).length k4) (rl c x'.m q),cj b c x',aE bc (cQ c) 23,bJ (.slice oa ou.length ok) ou] wd:=hd1.sel [4,0,1,2,3];obtain⟨PB,a5,k5,we,PD,r2,he⟩:=Io (t := 35) rfl (by omega) hd2;have hL2:PB.length+(cq x' q).length<=301:=by
       rw[PD.out,List.length_append];omega
      have he2:af ⟨w,λ_=>False⟩ [cj b c x',bJ (.slice a5 PB.length k5) PB,aE bc (cQ c) 23,bJ (.slice oa ou.length ok) ou] we:=he.sel [2,0,3,4];clear hd1 hd2 he hc2
      gi_wp2_with (gi_at_builtin;refine ce rfl _ _ _ rfl r2 ?_)
      clear r2;refine⟨trivial,λh=>by simp[Fence.wide]at h,(K6 (m-1) hI' NN he2).mono ?_⟩;rintro e wf ⟨a6,k6,rfl,hf⟩;have hf2:af ⟨w,λ_=>False⟩ [bJ (.slice a5 PB.length k5) PB,bJ (.slice a6 (cq x' q).length k6) (cq x' q),cj b c x',aE bc (cQ c) 23,bJ (.slice oa ou.length ok) ou] wf:=hf.sel [2,0,1,3,4];obtain⟨RI,a7,k7,wg,RJ,r3,hg⟩:=Io (t := 35) rfl (by omega) hf2;have hg2:af ⟨w,λ_=>False⟩ [cj b c x',aE bc (cQ c) 23,bJ (.slice oa ou.length ok) ou,bJ (.slice a7 RI.length k7) RI] wg:=hg.sel [2,3,4,0];clear hf hf2 hg he2
      gi_wp2_with (gi_at_builtin;refine ce rfl _ _ _ rfl r3 ?_)
      exact⟨⟨q+1,RI,rfl,by omega,(show _=_ by rw[RJ.out,PD.out,hal.out,tf,List.append_assoc,List.append_assoc]),hg2⟩,by simp[intOf];omega⟩
     ·obtain rfl:q=c.n:=by omega
      have T3:¬ ((c.n:Nat):Int)<(c.n:Int):=by omega
      have hz1:af ⟨w,λ_=>False⟩ ([bJ (.slice aa al.length ka) al]++[cj b c x',aE bc (cQ c) 23,bJ (.slice oa ou.length ok) ou]) wr:=hH.sel [3,0,1,2];obtain⟨F1,j1,back⟩:=cU _ hz1;have RK:nx<=100000:=by omega
      have T4:al.Perm (nums nx):=by rw[hal.out,← CH];exact List.perm_append_comm.trans hP
      gi_wp2
      refine⟨trivial,λh=>by simp[Fence.wide]at h,(K0 (m-1) T4 RK j1).mono ?_⟩;rintro e wz ⟨rfl,hz⟩;have hz2:=aH (r:=[_]) (back _ _ hz)
      gi_wp2
      exact⟨⟨i+1,nx,x',ou,rfl,rfl,by omega,hnx,⟨B',by omega,hI'⟩,hP,hz2⟩,by simp[intOf];omega⟩
   clear nq;have K9:∀ (x':aI) (o':ct) (nx:Nat) (w':World) {z4 z12 Po Pp Pq z33 z34 z35 z36 z37 z38 z39 z40 z41 z42 z43 z44 z45 z46 z47 z48 z49 z50 z51 z52 z53 z54 z55 z56 z57 z58 z59 z60 z61 z62 z63 z64 z65 z66 z67 z68 z69 z70 z71 z72 z73 z74 z75 z76 z77 z78 z79 z80 Pr z82 z83 z84 z85 z86 z87 Ps z89 Pt z91 Pu z93 Pv Pw Px Py Pz PA Ir Iu Iv Iw Ix z105 Iy z107 Iz z109 IA IB IC IE IF IG z116 z117 IH z119 II IJ IK IL z124 IP IQ z127 IU IV z130 z131 IW:Value},nx<=i+1->x'.ow[p]? = some o'->en c B x'->(fl c x'++out).Perm (nums nx)->af ⟨w,λ_=>False⟩ [cj b c x',aE bc (cQ c) 23,bJ (.slice ao out.length ko) out] w'->T1 { tmps:=#[c0.v,.slice (some ⟨ba,off,none⟩) N k0,.pointer (some ⟨bc,0,none⟩),undef,z4,.pointer (some ⟨b.br,0,none⟩),.int .i64 0,.int .i64 (nx:Int),.slice ao out.length ko,.int .i64 (i:Int),.int .i64 (p:Int),.pointer (some ⟨bl,0,none⟩),z12,Po,Pp,Pq,.slice (some ⟨ba,off,none⟩) N k0,.int .i64 (N:Int),.bool false,undef,.agg #[.int .i64 c0.n,.int .i64 c0.q,.int .i64 c0.g,.int .i64 c0.m,.int .i64 c0.t,.int .i64 c0.s],c.v,.tuple #[.pointer (some ⟨b.br,0,none⟩),.int .i64 0],.agg #[.int .i64 (c.n:Int),.int .i64 (c.q:Int),.int .i64 c.g,.int .i64 c.m,.int .i64 c.t,.int .i64 c.s],.tuple #[.pointer (some ⟨b.br,0,none⟩),.int .i64 0],.pointer (some ⟨b.br,0,none⟩),.int .i64 0,.int .i64 0,.bool false,.bool false,.pointer (some ⟨b.br,0,none⟩),.bool false,.bool false,z33,z34,z35,z36,z37,z38,z39,z40,z41,z42,z43,z44,z45,z46,z47,z48,z49,z50,z51,z52,z53,z54,z55,z56,z57,z58,z59,z60,z61,z62,z63,z64,z65,z66,z67,z68,z69,z70,z71,z72,z73,z74,z75,z76,z77,z78,z79,z80,Pr,z82,z83,z84,z85,z86,z87,Ps,z89,Pt,z91,Pu,z93,Pv,Pw,Px,Py,Pz,PA,Ir,Iu,Iv,Iw,Ix,z105,Iy,z107,Iz,z109,IA,IB,IC,IE,IF,IG,z116,z117,IH,z119,II,IJ,IK,IL,z124,IP,IQ,z127,IU,IV,z130,z131,IW,undef],defers:=[] } w':=by
    intro x' o' nx w' z4 z12 Po Pp Pq z33 z34 z35 z36 z37 z38 z39 z40 z41 z42 z43 z44 z45 z46 z47 z48 z49 z50 z51 z52 z53 z54 z55 z56 z57 z58 z59 z60 z61 z62 z63 z64 z65 z66 z67 z68 z69 z70 z71 z72 z73 z74 z75 z76 z77 z78 z79 z80 Pr z82 z83 z84 z85 z86 z87 Ps z89 Pt z91 Pu z93 Pv Pw Px Py Pz PA Ir Iu Iv Iw Ix z105 Iy z107 Iz z109 IA IB IC IE IF IG z116 z117 IH z119 II IJ IK IL z124 IP IQ z127 IU IV z130 z131 IW hnx ho hI' hP hh;clear h9 s16 hI hperm;have hT:(fl c x').length+out.length<=301:=by
     have:=hP.length_eq;rw[List.length_append,show(nums nx).length=nx by simp[nums]]at this;omega
    cases hM:o'.dE with
    | none =>
     gi_wp2
     refine⟨trivial,λh=>by simp[Fence.wide]at h,(Pe (m-1) hpl ho hM hh).mono ?_⟩;rintro e w7 ⟨rfl,h7⟩;obtain⟨W8,Pc⟩:∃ W8,w7.alloc (.cells #[.int .i64 0,.int .i64 0,.slice none 0 0] 37)=W8:=⟨_,rfl⟩;obtain⟨bo,MU⟩:∃ bo,w7.heap.size=bo:=⟨_,rfl⟩;have h8:=eu [.int .i64 0,.int .i64 0,.slice none 0 0] 37 h7;rw[MU,show w7.alloc (.cells [Value.int .i64 0,.int .i64 0,.slice none 0 0].toArray 37)=W8 from Pc]at h8;have bt:=aA h8;have t0:W8.cell? ⟨bo,0,none⟩=some (.int .i64 0):=cell_of bt 0 _ rfl;have t1:W8.cell? ⟨bo,1,none⟩=some (.int .i64 0):=cell_of bt 1 _ rfl;have t2:W8.cell? ⟨bo,2,none⟩=some (.slice none 0 0):=cell_of bt 2 _ rfl;have f0:W8.frozen? ⟨bo,0,none⟩=false:=cf bt 0;have f1:W8.frozen? ⟨bo,1,none⟩=false:=cf bt 1;have f2:W8.frozen? ⟨bo,2,none⟩=false:=cf bt 2;have h9:=aH (r:=[_]) (bQ 2 (.slice none 0 0) (bQ 1 (.int .i64 0) (bQ 0 (.int .i64 0) h8)))
     gi_wp2
     exact Iq x' out nx ao ko _ B hnx (by omega) hI' hP h9
    | some M =>
     gi_wp2
     refine⟨trivial,λh=>by simp[Fence.wide]at h,(NC (m-1) hI' (by omega) ho hM hh).mono ?_⟩;rintro e w7 ⟨x2,kk,gg,l,a7,k7,d,rfl,hI2,hp1,hp2,h7⟩;obtain⟨W8,Pc⟩:∃ W8,w7.alloc (.cells #[.int .i64 kk,.int .i64 gg,.slice a7 l.length k7] 37)=W8:=⟨_,rfl⟩;have h8:=eu [.int .i64 kk,.int .i64 gg,.slice a7 l.length k7] 37 h7;obtain⟨bo,MU⟩:∃ bo,w7.heap.size=bo:=⟨_,rfl⟩;rw[MU,show w7.alloc (.cells [Value.int .i64 kk,.int .i64 gg,.slice a7 l.length k7].toArray 37)=W8 from Pc]at h8;cases d with
     | false =>
      have hp:=hp1 rfl;clear hp1 hp2;have h9:=aH (r:=[_,_]) h8
      gi_wp2
      exact Iq x2 out nx ao ko W8 (B+8) hnx (by omega) hI2 ((hp.symm.append_right _).trans hP) h9
     | true =>
      have hp:=hp2 rfl;clear hp1 hp2;have T5:out.length+l.length<=301:=by
       have:=hp.length_eq;rw[List.length_append,List.length_append]at this;omega
      have h9:af ⟨w,λ_=>False⟩ [bJ (.slice ao out.length ko) out,bJ (.slice a7 l.length k7) l,cj b c x2,aE bc (cQ c) 23,aE bo [.int .i64 kk,.int .i64 gg,.slice a7 l.length k7] 37] W8:=h8.sel [4,1,2,3,0];obtain⟨ou,a9,k9,wv,hou,r1,g1⟩:=Io (t := 35) rfl (by omega) h9;have y1:W8.cell? ⟨bo,1,none⟩=some (.int .i64 gg):=cell_of (aA h8) 1 _ rfl;have y2:W8.cell? ⟨bo,2,none⟩=some (.slice a7 l.length k7):=cell_of (aA h8) 2 _ rfl;have v1:wv.cell? ⟨bo,1,none⟩=some (.int .i64 gg):=cell_of (aA (aH (r:=[_,_,_,_]) g1)) 1 _ rfl;have hol:ou.length<=301:=by rw[hou.out,List.length_append];exact T5
      have g2:af ⟨w,λ_=>False⟩ [cj b c x2,aE bc (cQ c) 23,bJ (.slice a9 ou.length k9) ou] wv:=g1.sel [2,3,0]
      by_cases hgg:0<=gg
      ·have T6:gg≥0:=hgg
       rw[if_pos hgg]at hp;obtain⟨PE,PF⟩:∃ PE,wv.alloc (.cells #[.int .i64 gg] 3)=PE:=⟨_,rfl⟩;obtain⟨bu,hbu⟩:∃ bu,wv.heap.size=bu:=⟨_,rfl⟩;have g3:af ⟨w,λ_=>False⟩ [bJ (.slice a9 ou.length k9) ou,cj b c x2,aE bc (cQ c) 23] PE:=by rw[← PF];exact(aH (r:=[_]) (eu [.int .i64 gg] 3 g2)).sel [2,0,1]
       have hsrc:Src prog 1 35 (.slice (some ⟨bu,0,none⟩) 1 1) 1 [.int .i64 gg] PE:=by
        refine Src.ofSlice PE underlying35 ⟨bu,0,none⟩ 1 1 _ rfl (λj y hj=>?_) (λy hy=>?_)
        ·rw[fC,Nat.zero_add,← PF,← hbu]
         exact cell_of (World.alloc_heap_new wv _) j y (by simpa using hj)
        ·simp only[List.mem_cons,List.not_mem_nil,or_false]at hy
         rw[hy];rfl
       obtain⟨zs,Lp,k11,wx,hzs,r2,g4⟩:=Pn (t := 35) rfl (by omega) hsrc g3;have RL:(fl c x2++zs).Perm (nums nx):=by
        rw[hzs.out,hou.out];exact(Pk _ _ _ _).trans ((hp.symm.append_right _).trans hP)
       gi_wp2_with (gi_at_builtin;first | refine ce rfl _ _ _ rfl r1 ?_ | refine ce rfl _ _ _ rfl r2 ?_)
       exact Iq x2 zs nx Lp k11 wx (B+8) hnx (by omega) hI2 RL (g4.sel [1,2,0])
      ·have T6:¬ gg≥0:=hgg
       rw[if_neg hgg,List.append_nil]at hp;have RL:(fl c x2++ou).Perm (nums nx):=by
        rw[hou.out];refine List.Perm.trans ?_ ((hp.symm.append_right _).trans hP);rw[List.append_assoc];exact List.Perm.append_left _ List.perm_append_comm
       gi_wp2_with (gi_at_builtin;refine ce rfl _ _ _ rfl r1 ?_)
       exact Iq x2 ou nx a9 k9 wv (B+8) hnx (by omega) hI2 RL g2
   clear Sl Sk Sj Iq;have hGn:Gn (Eb:Int):=⟨by omega,by omega⟩;obtain⟨o,ho⟩:∃ o,x.ow[p]? = some o:=⟨_,List.getElem?_eq_getElem (by rw[hI.len];exact hpl)⟩;replace h9:af ⟨w,λ_=>False⟩ [aE bl [.int .i64 aK,.int .i64 aV,.int .i64 (Eb:Int)] 26,cj b c x,aE bc (cQ c) 23,bJ (.slice ao out.length ko) out] w9:=h9;obtain⟨y0,y1,y2,y3,y4,y5⟩:=hcB _ _ _ _ _ h9;have h10:af ⟨w,λ_=>False⟩ [aE bl [.int .i64 aK,.int .i64 (vv:Int),.int .i64 (Eb:Int)] 26,cj b c x,aE bc (cQ c) 23,bJ (.slice ao out.length ko) out] (w9.setCell ⟨bl,1,none⟩ (.int .i64 (vv:Int))):=bQ 1 _ h9;have h11:=bK h10;have hbz:=L7 (m-1) hpl ho h11;cases hM:o.dE with
   | some M =>
    rw[hM]at hbz
    gi_wp2
    refine⟨trivial,λh=>by simp[Fence.wide]at h,hbz.mono ?_⟩;rintro e w' ⟨rfl,hw'⟩;subst hw'
    gi_wp2
    refine⟨trivial,?_⟩
    gi_wp2
    exact K9 x o Eb _ (by omega) ho hI hperm (aH (r:=[_]) h10)
   | none =>
    rw[hM]at hbz
    gi_wp2
    refine⟨trivial,λh=>by simp[Fence.wide]at h,hbz.mono ?_⟩;rintro e w' ⟨rfl,hw'⟩;subst hw'
    gi_wp2
    refine⟨trivial,λh=>by simp[Fence.wide]at h,(K7 (m-1) hI ho hM aK vv Eb hGn h11).mono ?_⟩;rintro e So ⟨x2,er,o2,rfl,hI2,ho2,hor,h12⟩;have RM:af ⟨w,λ_=>False⟩ [cj b c x2,aE bc (cQ c) 23,bJ (.slice ao out.length ko) out] So:=h12.sel [0,2,3];have e0:So.cell? ⟨bl,0,none⟩=some (.int .i64 aK):=(hcB _ _ _ _ _ (bK h12)).1;clear y0 y1 y2 y3 y4 y5 h9 h10 h11 hbz;rcases hor with ⟨hne,hall⟩ | ⟨hz,hp⟩
    ·gi_wp2
     exact K9 x2 o2 Eb _ (by omega) ho2 hI2 (by rw[hall];exact hperm) RM
    ·subst hz
     by_cases hk1:aK=1
     ·rw[if_pos hk1]at hp
      subst hk1
      gi_wp2
      exact K9 x2 o2 (Eb+1) _ (by omega) ho2 hI2 (by rw[Ea];exact(hp.append_right _).trans ((Pm _ _ _).trans (hperm.append_right _))) RM
     ·rw[if_neg hk1,List.append_nil]at hp
      gi_wp2
      exact K9 x2 o2 Eb _ (by omega) ho2 hI2 ((hp.append_right _).trans hperm) RM
  ·have Nw:¬ (i:Int)<(N:Int):=by omega
   have hBl:=hH.below (λ_=>id)
   gi_wp2
   refine⟨trivial,λh=>by simp[Fence.wide]at h,(Si _ _).mono ?_⟩;rintro e w2 ⟨rfl,hb⟩
   gi_wp2
   exact bodyPost_ret (results_tmp rfl _ _ _) rfl ⟨rfl,hBl.trans (hb.mono hBl.size)⟩
end Go.Proofs.YtkmccgombmogmaaGreat
namespace Go.Proofs.YtkmccgombmogmaaGreat
open Go.Ev Go.Proofs.Tryz
open Go.ChangeShapes Go.WideShapes Go.ChangeAt Go.RowKit Go.Deep
section
variable{H:Type}{enc:TypeId×Value->H}{P:Program}
theorem t5(hl:laidOutB P=true){W W':World}(hb:Below W.heap.size W W'):∀ (ts:List TypeId) (vs:List Value) (ds:List (DataW H)) (ps:List MemPlace),
  DataW.TrodAll enc P W 0 (λ_=>true) true ts vs ds ps->(∀ t ∈ ts,P.readableRec t=true/\t<P.types.size)->(∀ x ∈ ps,x.block<W.heap.size)->
  DataW.TrodAll enc P W' 0 (λb=>decide (b<W.heap.size)) true ts vs ds ps:=by
 intro ts
 induction ts with
 | nil =>
  intro vs ds ps h _ _;obtain⟨rfl,rfl,rfl⟩:=trodAll_nil h;exact trodAll_mk0
 | cons t ts ih =>
  intro vs ds ps h hr hlt;obtain⟨v,vs',d,ds',p,q,rfl,rfl,rfl,h1,h2⟩:=trodAll_cons h;exact trodAll_cons_mk ((hb.trod hl (hr t (List.mem_cons_self ..)).1 (hr t (List.mem_cons_self ..)).2 h1 (λx hx=>hlt x (List.mem_append_left _ hx))))
   (ih vs' ds' q h2 (λt' ht'=>hr t' (List.mem_cons_of_mem _ ht')) (λx hx=>hlt x (List.mem_append_right _ hx)))
theorem IX{f:Func}{s:ChangeSpec}{W W':World}{args:Array Value}{ds gs:List (DataW H)}{before:List MemPlace}{tb:TypeId}(hl:laidOutB P=true)
  (hW:DataW.Whole enc P f.params.toList s.vars false W args.toList ds gs before) (hvars:s.vars=[]) (hres:f.resultTypes = #[tb]) (PG:P.underlying tb=some .bool)
  (hfn:s.fn H ds = { results:=[.lit (.bool true)],args:=ds }) (hread:∀ t ∈ f.params.toList,P.readableRec t=true/\t<P.types.size) (hb:Below W.heap.size W W') :
  s.post enc P f false true false false W args (.bool true) W':=by
 have hW0:=hW;obtain⟨p,q,hA,hV,hpq,hz,hn⟩:=hW;rw[hvars]at hV;obtain⟨rfl,rfl⟩:=trodVars_none hV;have hlt:∀ x ∈ before,x.block<W.heap.size:=λx hx=>hW0.lt x hx
 have hpl:before=p:=by rw[hpq,List.append_nil]
 refine⟨ds,[],before,[],p,[],hW0,?_,?_,?_,?_,λh=>by cases h⟩
 ·rw[List.append_nil,hfn,hres]
  exact trodAll_mk1 (shut_bool PG true)
 ·rw[List.append_nil,hfn]
  exact t5 hl hb _ _ _ _ hA hread (λx hx=>hlt x (by rw[hpl];exact hx))
 ·rw[hvars,List.append_nil,hfn]
  rfl
 ·exact World.keptBut_mono (λx hx=>⟨hx,.inr (.inl (by rw[hpl]at hx;exact hx))⟩) (hb.frame (· ∈ before))
theorem Bq{W:World}{base b0:Nat}{spare:Nat->Bool}{held:Bool}{r:Reach}{t:TypeId}{fs:Array Field}{v:Value}{d:DataW H}{p:List MemPlace}(hs:P.underlying t=some (.struct fs))(hone:oneCellFields P fs=true)(hC:P.cellsOf t=fs.size)
  (hv:Value.okWide P W r b0 t v) (h:DataW.Trod enc P W base spare held t v d p) :
  ∃ cs:Array Value,v=.agg cs/\cs.size=fs.size/\∀ (j:Nat) (f:Field),fs[j]? = some f->∃ n x y,cs[j]? = some x/\DataW.trod enc P W base spare held n f.type [x]=some y:=by
 obtain⟨cs,rfl,hsz⟩:=okWide_struct hs hv;obtain⟨fuel,hf⟩:=h;obtain⟨ys,n,hn,hy,hlen,hyl,hfs⟩:=DataW.trod_struct hs hf;rw[hC]at hsz;refine⟨cs,rfl,hsz,λj f hj=>?_⟩;obtain⟨ho,hk⟩:=hone_of hone j f hj;have hjl:j<cs.size:=by rw[hsz];exact(Array.getElem?_eq_some_iff.1 hj).1
 have h1:=hfs j f hj;have RN:j<ys.length:=by rw[hyl];exact(Array.getElem?_eq_some_iff.1 hj).1
 have hys:ys[j]? = some (ys[j]'RN):=List.getElem?_eq_getElem RN;have hc:(((Value.agg cs).cells.toList.drop f.offset).take (P.cellsOf f.type))=[cs[j]]:=by
  rw[ho,hk];show((cs.toList.drop j).take 1)=_;rw[List.drop_eq_getElem_cons (by simpa using hjl)];rfl
 refine⟨n,cs[j],ys[j]'RN,Array.getElem?_eq_getElem hjl,?_⟩;rw[← hc,← hys];exact h1
end
end Go.Proofs.YtkmccgombmogmaaGreat
namespace Go.Proofs.YtkmccgombmogmaaGreat
open Go.Ev Go.Proofs.Tryz
open Go.ChangeShapes Go.WideShapes Go.ChangeAt Go.RowKit Go.Deep
open Go.Ev (iz iN)
set_option maxRecDepth 100000
theorem own:ownKnob prog.godebug=none:=by kernel_rfl
theorem laidOut:laidOutB prog=true:=by kernel_rfl
structure jU where
 a:Int
 k:Int
 v:Int
 g:Int
def jU.cells(s:jU):List Value:=[iz s.a,iz s.k,iz s.v,iz s.g]
theorem IY{ms:List jU}{j:Nat}{m:jU}(h:ms[j]? = some m):∃ tl,(ms.flatMap jU.cells).drop (j*4)=m.cells++tl:=by
 induction ms generalizing j with
 | nil=>simp at h
 | cons q ms ih =>
  rw[List.flatMap_cons]
  match j with
  | 0 =>
   obtain rfl:q=m:=by simpa using h
   exact⟨ms.flatMap jU.cells,by simp⟩
  | j+1 =>
   obtain⟨tl,e⟩:=ih (j:=j) (by simpa using h);refine⟨tl,?_⟩;rw[show(j+1)*4=q.cells.length+j*4 by simp[jU.cells];omega,← List.drop_drop,List.drop_left,e]
theorem CI(ps:List jU){j i:Nat}{k:jU}(h:ps[j]? = some k)(hi:i<4):(ps.flatMap jU.cells)[j*4+i]? = k.cells[i]?:=by
 obtain⟨tl,e⟩:=IY h;rw[← List.getElem?_drop,e,List.getElem?_append_left (by simp[jU.cells];omega)]
theorem IZ(ss:List jU):(ss.flatMap jU.cells).length=ss.length*4:=by
 induction ss with
 | nil=>rfl
 | cons s ss ih=>rw[List.flatMap_cons,List.length_append,ih,List.length_cons];simp[jU.cells];omega
theorem I0(ss:List jU):∀ j,j<ss.length*4->∃ i:Int,(ss.flatMap jU.cells)[j]? = some (.int .i64 i):=by
 intro j hj;have hq:j / 4<ss.length:=by omega
 have e3:=CI ss (j:=j / 4) (i:=j%4) (List.getElem?_eq_getElem hq) (by omega);rw[show j / 4*4+j%4=j by omega]at e3;rw[e3];have:j%4=0\/j%4=1\/j%4=2\/j%4=3:=by omega
 rcases this with h | h | h | h<;>rw[h]<;>exact⟨_,rfl⟩
theorem K_{n:Nat}{Q:Nat->jU->Prop}(h:∀ i,i<n->∃ s,Q i s):∃ ss:List jU,ss.length=n/\∀ (i:Nat) s,ss[i]? = some s->Q i s:=by
 induction n with
 | zero=>exact⟨[],rfl,λi s h=>by cases h⟩
 | succ n ih =>
  obtain⟨ss,h1,h2⟩:=ih (λi hi=>h i (by omega));obtain⟨s,hs⟩:=h n (by omega);refine⟨ss++[s],by simp[h1],λi x hx=>?_⟩;rcases Nat.lt_or_ge i ss.length with hi | hi
  ·rw[List.getElem?_append_left hi]at hx
   exact h2 i x hx
  ·rw[List.getElem?_append_right hi]at hx
   cases hk:i-ss.length with
   | zero =>
    rw[hk]at hx;cases hx;obtain rfl:i=n:=by omega
    exact hs
   | succ m=>rw[hk]at hx;cases hx
section
variable{H:Type}{enc:TypeId×Value->H}{w:World}
theorem La{a:Addr}{v:Value}(h:w.cell? a=some v):a.block<w.heap.size:=by
 unfold World.cell? at h;cases hb:w.heap[a.block]? with
 | none=>rw[hb]at h;cases h
 | some o=>exact(Array.getElem?_eq_some_iff.1 hb).1
theorem pn{b off n:Nat} : (⟨b,off,none⟩:Addr).add n=⟨b,off+n,none⟩:=fC b off n
theorem pJ{fuel:Nat}{cs:List Value}{x:DataW H×List MemPlace}(h:DataW.trod enc prog w 0 (λ_=>true) true fuel 26 cs=some x):∃ k v g:Int,cs=[iz k,iz v,iz g]:=by
 obtain⟨ys,n,_,_,hlen,hyl,hf⟩:=DataW.trod_struct underlying26 h;have hC:prog.cellsOf 26 = 3:=by kernel_rfl
 rw[hC]at hlen
 match cs,hlen with
 | [c0,c1,c2],_ =>
  have k0:=hf 0 _ rfl;have k1:=hf 1 _ rfl;have k2:=hf 2 _ rfl;have one:∀ t:TypeId,prog.cellsOf t=1->∀ (c:Value) (l:List Value),(c::l).take (prog.cellsOf t)=[c]:=λt ht c l=>by rw[ht];rfl
  have i1:prog.cellsOf 3 = 1:=by kernel_rfl
  have g:∀ i,i<3->∃ y,ys[i]? = some y:=λi hi=>⟨_,List.getElem?_eq_getElem (by rw[hyl];exact hi)⟩
  obtain⟨y0,e0⟩:=g 0 (by omega);obtain⟨y1,e1⟩:=g 1 (by omega);obtain⟨y2,e2⟩:=g 2 (by omega);replace k0:DataW.trod enc prog w 0 (λ_=>true) true n 3 [c0]=some y0:=by rw[← e0,← k0,← one _ i1 c0 [c1,c2]];rfl
  replace k1:DataW.trod enc prog w 0 (λ_=>true) true n 3 [c1]=some y1:=by rw[← e1,← k1,← one _ i1 c1 [c2]];rfl
  replace k2:DataW.trod enc prog w 0 (λ_=>true) true n 3 [c2]=some y2:=by rw[← e2,← k2,← one _ i1 c2 []];rfl
  obtain⟨m0,q0,_⟩:=DataW.trod_int underlying3 k0;obtain⟨m1,q1,_⟩:=DataW.trod_int underlying3 k1;obtain⟨m2,q2,_⟩:=DataW.trod_int underlying3 k2;simp only[List.cons.injEq,and_true]at q0 q1 q2;subst q0 q1 q2;exact⟨m0,m1,m2,rfl⟩
theorem I1{fuel:Nat}{cs:List Value}{x:DataW H×List MemPlace}(h:DataW.trod enc prog w 0 (λ_=>true) true fuel 45 cs=some x):∃ s:jU,cs=s.cells:=by
 obtain⟨ys,n,_,_,hlen,hyl,hf⟩:=DataW.trod_struct underlying45 h;have hC:prog.cellsOf 45 = 4:=by kernel_rfl
 rw[hC]at hlen
 match cs,hlen with
 | [c0,c1,c2,c3],_ =>
  have k0:=hf 0 _ rfl;have k1:=hf 1 _ rfl;have i1:prog.cellsOf 3 = 1:=by kernel_rfl
  have i3:prog.cellsOf 26 = 3:=by kernel_rfl
  have g:∀ i,i<2->∃ y,ys[i]? = some y:=λi hi=>⟨_,List.getElem?_eq_getElem (by rw[hyl];exact hi)⟩
  obtain⟨y0,e0⟩:=g 0 (by omega);obtain⟨y1,e1⟩:=g 1 (by omega);have t1:[c0,c1,c2,c3].take (prog.cellsOf 3)=[c0]:=by rw[i1];rfl
  have t3:[c1,c2,c3].take (prog.cellsOf 26)=[c1,c2,c3]:=by rw[i3];rfl
  replace k0:DataW.trod enc prog w 0 (λ_=>true) true n 3 [c0]=some y0:=by rw[← e0,← k0,← t1];rfl
  replace k1:DataW.trod enc prog w 0 (λ_=>true) true n 26 [c1,c2,c3]=some y1:=by rw[← e1,← k1,← t3];rfl
  obtain⟨m0,q0,_⟩:=DataW.trod_int underlying3 k0;simp only[List.cons.injEq,and_true]at q0;subst q0;obtain⟨a1,a2,a3,q⟩:=pJ k1;rw[q];exact⟨⟨m0,a1,a2,a3⟩,rfl⟩
theorem Ec{v:Value}{d:DataW H}{ps:List MemPlace}{r:Reach}{b0:Nat}(hv:Value.okWide prog w r b0 43 v)(h:DataW.Trod enc prog w 0 (λ_=>true) true 43 v d ps) :
  ∃ (N:Nat) (L:List Value),iM 4 v N L w/\∀ j,j<N*4->∃ i:Int,L[j]? = some (.int .i64 i):=by
 suffices ∃ ss:List jU,iM 4 v ss.length (ss.flatMap jU.cells) w by
  obtain⟨ss,hs⟩:=this;exact⟨ss.length,_,hs,I0 ss⟩
 have hC:prog.cellsOf 45 = 4:=by kernel_rfl
 obtain⟨a0,n0,c0,rfl⟩:=okWide_slice underlying43 hv;obtain⟨fuel,hf⟩:=h;rcases open_slice underlying43 hf with ⟨hcs,_⟩ | ⟨a,len,cap,m,n,D,Pl,hcs,_,hl,_,hm,_,hi⟩
 ·simp[Value.cells]at hcs
  obtain⟨rfl,rfl,rfl⟩:=hcs;exact⟨[],⟨rfl,.inl ⟨rfl,_,_,rfl⟩⟩⟩
 ·simp[Value.cells]at hcs
  obtain⟨rfl,rfl,rfl⟩:=hcs;simp only[if_true]at hm;subst hm;rw[hC]at hi
  obtain⟨ss,h1,h2⟩:=K_ (n:=n0) (Q:=λi s=>w.cells? 0 (a.add (i*4)) 4=some s.cells) (λi hlt=>by
   obtain⟨cs',hc,ht⟩:=hi i (by omega);obtain⟨s,rfl⟩:=I1 ht
   exact⟨s,hc⟩)
  refine⟨ss,?_⟩
  ·refine⟨IZ ss,?_⟩
   rw[h1];rcases Nat.eq_zero_or_pos n0 with h0 | h0
   ·subst h0
    exact .inl ⟨rfl,_,_,rfl⟩
   ·have hat:∀ i s,ss[i]? = some s->∀ j,j<4->w.cell? ((a.add (i*4)).add j)=s.cells[j]?:=λi s hs j hj=>(World.cells?_some (h2 i s hs)).2.2 j hj
    have e0:=hat 0 ss[0] (List.getElem?_eq_getElem (by omega)) 0 (by omega);have hs:a.spot=none:=by
     have:=World.cell?_spot (e0.trans (show _=some (iz ss[0].a) from rfl));simpa[Addr.add] using this
    have hb:=La (e0.trans (show _=some (iz ss[0].a) from rfl));obtain⟨b,off,spot⟩:=a;simp only at hs;subst hs;rw[pn,pn]at hb;refine .inr ⟨b,off,_,rfl,⟨hb,hl⟩,λj hj=>?_⟩;have hq:j / 4<ss.length:=by omega
    have e1:=hat (j / 4) ss[j / 4] (List.getElem?_eq_getElem hq) (j%4) (by omega);rw[pn,pn]at e1;rw[show off+j=off+j / 4*4+j%4 by omega,e1];have e3:=CI ss (j:=j / 4) (i:=j%4) (List.getElem?_eq_getElem hq) (by omega);rw[show j / 4*4+j%4=j by omega]at e3;exact e3.symm
theorem zx{base b0:Nat}{spare:Nat->Bool}{held:Bool}{r:Reach}{v:Value}{d:DataW H}{p:List MemPlace}
  (hv:Value.okWide prog w r b0 23 v) (h:DataW.Trod enc prog w base spare held 23 v d p):∃ c:Cf,v=c.v:=by
 obtain⟨cs,rfl,hsz,hf⟩:=Bq underlying23 (by kernel_rfl) (by kernel_rfl) hv h;obtain⟨l⟩:=cs;have hl:l.length=6:=hsz
 match l,hl with
 | [c0,c1,c2,c3,c4,c5],_ =>
  obtain⟨n0,y0,z0,hy0,hz0⟩:=hf 0 _ rfl;cases hy0;obtain⟨m0,hm0,_,_⟩:=DataW.trod_int underlying3 hz0;cases hm0;obtain⟨n1,y1,z1,hy1,hz1⟩:=hf 1 _ rfl;cases hy1;obtain⟨m1,hm1,_,_⟩:=DataW.trod_int underlying3 hz1;cases hm1;obtain⟨n2,y2,z2,hy2,hz2⟩:=hf 2 _ rfl;cases hy2;obtain⟨m2,hm2,_,_⟩:=DataW.trod_int underlying3 hz2;cases hm2;obtain⟨n3,y3,z3,hy3,hz3⟩:=hf 3 _ rfl;cases hy3;obtain⟨m3,T7,_,_⟩:=DataW.trod_int underlying3 hz3;cases T7;obtain⟨n4,y4,z4,hy4,T8⟩:=hf 4 _ rfl;cases hy4;obtain⟨m4,T9,_,_⟩:=DataW.trod_int underlying3 T8;cases T9;obtain⟨n5,y5,z5,T_,T'⟩:=hf 5 _ rfl;cases T_;obtain⟨m5,Ua,_,_⟩:=DataW.trod_int underlying3 T';cases Ua;exact⟨⟨m0,m1,m2,m3,m4,m5⟩,rfl⟩
end
theorem po(H:Type)(enc:TypeId×Value->H)(W:World)(base:Nat)(args:Array Value)(ds gs:List (DataW H))(before:List MemPlace)
  (hval:∀ (j:Nat) t v,Tryz.f4.params[j]? = some t->args[j]? = some v->Value.okWide prog W .any base t v)
  (hW:DataW.Whole enc prog Tryz.f4.params.toList Rows.raceFitsSpec.vars false W args.toList ds gs before) :
  Calls prog 4 args W λe W'=>∃ v,e=.returned v/\Rows.raceFitsSpec.post enc prog Tryz.f4 false true false false W args v W':=by
 have hW':=hW;obtain⟨p,q,Ub,hV,rfl,hfz,hnd⟩:=hW;have hA:DataW.TrodAll enc prog W 0 (λ_=>true) true Tryz.f4.params.toList args.toList ds p:=Ub;rw[params4]at hA hval;obtain⟨v0,Ux,d0,ds0,p0,q0,RO,rfl,rfl,h0,r0⟩:=trodAll_cons hA;obtain⟨v1,vs1,d1,ds1,p1,q1,rfl,rfl,rfl,h1,r1⟩:=trodAll_cons r0;obtain⟨rfl,rfl,rfl⟩:=trodAll_nil r1;obtain rfl:args = #[v0,v1]:=by cases args;simp_all
 obtain⟨c0,rfl⟩:=zx (hval 0 _ v0 rfl rfl) h0;obtain⟨n,L,hl,hL⟩:=Ec (hval 1 _ v1 rfl rfl) h1;obtain⟨a0,k0,rfl⟩:=cS hl;refine(callsIn_wide.1 (K8 0 c0 hl hL (λm w=>callsIn_wide.2 (D_ w)))).mono λx W' ⟨he,hb⟩=>?_
 subst he
 exact⟨_,rfl,IX laidOut hW' rfl (by kernel_rfl) underlying4 rfl (by
  rw[params4];intro t ht;simp only[List.mem_cons,List.not_mem_nil,or_false]at ht
  rcases ht with rfl | rfl<;>exact⟨by kernel_rfl,of_decide_eq_true (by kernel_rfl)⟩) hb⟩
set_option maxRecDepth 100000 in
theorem qF(os:Os)(started:os.Started)(H:Type)(enc:TypeId×Value->H) :
  ReturnsInHanded {} Tryz.checked os 4 .any (Rows.raceFitsSpec.pre6 enc prog Tryz.f4 Rows.raceFitsRow.domain false) (Rows.raceFitsSpec.post enc prog Tryz.f4 false true false false):=by
 refine returnsInHanded_of_change (C:=Tryz.checked) own started (by kernel_rfl) func4
  (ChangeSpec.witness6 (enc:=enc) (C:=Tryz.checked) false ⟨#[],#[.agg #[.int .i64 0,.int .i64 0,.int .i64 0,.int .i64 0,.int .i64 0,.int .i64 0],.slice none 0 0],[]⟩ 8 (by kernel_rfl) (by kernel_rfl) (by kernel_rfl) (by kernel_rfl)) ?_
 intro W base args ds gs before hval hW _ _;exact po H enc W base args ds gs before hval hW
theorem raceFits_holds:Rows.RaceFitsSaid :=
 OpenClaim.holds_of_wide 4 Tryz.f4 rfl rfl rfl rfl rfl rfl rfl ⟨rfl,rfl,rfl,rfl,rfl⟩ rfl rfl rfl rfl rfl (by kernel_rfl) func4 (by kernel_rfl)
  (of_decide_eq_true (by kernel_rfl)) (by unfold Func.isWrapper;first | (rw[if_pos (by decide +kernel)];kernel_rfl) | (rw[if_neg (by decide +kernel)];exact⟨rfl,rfl⟩))
  (λos started H enc _=>qF os started H enc)
end Go.Proofs.YtkmccgombmogmaaGreat
