/- 'RaceEnds' returns true, whatever its arguments are, and leaves them as they were. -/
import Derived.Test.YtkmccgombmogmaaGreatZe28
set_option linter.unusedSimpArgs false
set_option linter.unusedVariables false
namespace Go.Proofs.YtkmccgombmogmaaGreat
open Go.Ev Go.Proofs.Tryz
open Go.RowKit
set_option maxRecDepth 8000
section
variable{c:aP}{x:aE}{B:Int}{p k:Nat}{kd g:Int}{ctx:dc}{w:World}{r:List aG}{b:RB}
theorem wy(hI:dR c B x)(hp:p<c.n):∃ o,x.ow[p]? = some o:=⟨_,List.getElem?_eq_getElem (by rw[hI.len];exact hp)⟩
theorem Ms(n:Nat)(hI:dR c B x)(hp:p<c.n)(h:af ctx (cC b c x::r) w) :
  CallsIn Fence.wide n prog 12 #[.pointer (some ⟨b.br,0,none⟩),.int .i64 (p:Int)] w λe w'=>∃ d,e=.returned (.bool d)/\w'=w:=by
 obtain⟨o,ho⟩:=wy hI hp;exact(HR n hp ho h).mono (λe w' ⟨h1,h2⟩=>⟨_,h1,h2⟩)
theorem J0(n:Nat)(hI:dR c B x)(hp:p<c.n)(kd cv cg:Int)(hg:Gn cg)(h:af ctx (cC b c x::r) w) :
  CallsIn Fence.wide n prog 11 #[.pointer (some ⟨b.br,0,none⟩),.int .i64 (p:Int),.agg #[.int .i64 kd,.int .i64 cv,.int .i64 cg]] w λe w'=>∃ x2 er,e=.returned (.int .i64 er)/\dR c B x2/\af ctx (cC b c x2::r) w':=by
 obtain⟨o,ho⟩:=wy hI hp;refine(HS n hI.len ho kd cv cg h).mono (λe w' ⟨h1,h2⟩=>⟨_,_,h1,?_,h2⟩);unfold cN;cases hN:db c p kd cv cg with
 | none=>exact hI
 | some M =>
  dsimp only
  split
  ·exact hI
  ·next hM=>exact(r_ hI ho (by simpa using hM) (.inl hg) hN).1
theorem Mt(n:Nat)(hI:dR c B x)(hB:B+8<=1073741824)(hp:p<c.n)(h:af ctx (cC b c x::r) w) :
  CallsIn Fence.wide n prog 13 #[.pointer (some ⟨b.br,0,none⟩),.int .i64 (p:Int)] w λe w'=>∃ x2 v,e=.returned v/\dR c (B+8) x2/\af ctx (cC b c x2::r) w':=by
 obtain⟨o,ho⟩:=wy hI hp;cases hM:o.dx with
 | none=>exact(N9 n hp ho hM h).mono (λe w' ⟨h1,h2⟩=>⟨x,_,h1,⟨⟨hI.R.mem,hI.R.sl,λq hq=>(hI.R.w q hq).mono (by omega),hI.R.h8,hB⟩,hI.len,λq oq hq=>⟨(hI.ow q oq hq).dq,(hI.ow q oq hq).rs,λM hM=>by
   obtain⟨m1,m2,m3⟩:=(hI.ow q oq hq).dx M hM;have hq2:q<c.n:=by rw[← hI.len];exact(List.getElem?_eq_some_iff.1 hq).1
   exact⟨m1,m2.keep (own:=λ_=>False) hI.R (λv _=>.none (λ_=>rfl) rfl) hq2 (λh=>h),m3⟩⟩,hI.ok⟩,h2⟩)
 | some M =>
  refine(ib n hI hB ho hM h).mono ?_;rintro e w' ⟨a,kc,h1,h2⟩;exact⟨_,_,h1,(mC hI hB ho hM).1,aI (r:=[_]) h2⟩
theorem J1(n:Nat)(hI:dR c B x)(hp:p<c.n)(kd cv cg:Int)(hg:Gn cg)(h:af ctx (cC b c x::r) w) :
  CallsIn Fence.wide n prog 11 #[.pointer (some ⟨b.br,0,none⟩),.int .i64 (p:Int),.agg #[.int .i64 kd,.int .i64 cv,.int .i64 cg]] w λe w'=>∃ x2 er,e=.returned (.int .i64 er)/\af ctx (cC b c x2::r) w'/\
   (er=0->∃ v:Nat,v<c.n/\(v:Int)=(if kd=3 then cv else (p:Int))/\kg c B x2 p kd (if kd=1 then -1 else (rl c x2.m v).headD (-1)) (4+2*c.q)):=by
 obtain⟨o,ho⟩:=wy hI hp;refine(HS n hI.len ho kd cv cg h).mono (λe w' ⟨h1,h2⟩=>⟨_,_,h1,h2,λh0=>?_⟩);unfold dG at h0;unfold cN;cases hN:db c p kd cv cg with
 | none=>rw[hN]at h0;cases h0
 | some M =>
  cases hM:o.dx with
  | some M2=>rw[hN,hM]at h0;cases h0
  | none =>
   have hS:=AV hI ho hM (.inl hg) hN;dsimp only;rw[show(none:Option bG).isSome=false from rfl];refine⟨if kd=3 then cv.toNat else p,?_,?_,?_⟩
   ·split
    ·next h3 =>
     unfold db at hN;rw[if_neg (by omega),if_neg (by omega)]at hN
     split at hN
     ·omega
     ·cases hN
    ·exact hp
   ·split
    ·next h3 =>
     unfold db at hN;rw[if_neg (by omega),if_neg (by omega)]at hN
     split at hN
     ·rw[Int.toNat_of_nonneg (by omega)]
     ·cases hN
    ·rfl
   ·exact hS
theorem kg.cast{B':Int}{k':Nat}(h:kg c B x p kd g k)(hb:B=B')(hk:k=k'):kg c B' x p kd g k':=by
 subst hb hk;exact h
theorem HW(hS:kg c B x p kd g k):p<c.n:=by
 obtain⟨hI,o,M,ho,_⟩:=hS;rw[← hI.len];exact(List.getElem?_eq_some_iff.1 ho).1
theorem HX(hS:kg c B x p kd g k)(hB:B+8<=1073741824):1<=k:=by
 have hS':=hS;obtain⟨hI,o,M,ho,hM,_⟩:=hS';exact(uy hS hB ho hM).1
theorem Mu(n:Nat)(hS:kg c B x p kd g k)(hB:B+8<=1073741824)(h:af ctx (cC b c x::r) w) :
  CallsIn Fence.wide n prog 13 #[.pointer (some ⟨b.br,0,none⟩),.int .i64 (p:Int)] w λe w'=>∃ x2 kk gg l a kc d,e=.returned (.tuple #[.agg #[.int .i64 kk,.int .i64 gg,.slice a l.length kc],.bool d])/\af ctx (cf (.slice a l.length kc) l::cC b c x2::r) w'/\
   (d=false->kg c (B+8) x2 p kd g (k-1))/\(d=true->kk=kd/\gg=g/\dR c (B+8) x2/\∃ o,x2.ow[p]? = some o/\o.dx=none):=by
 have hp:=HW hS;have hS':=hS;obtain⟨hI,o,M,ho,hM,_⟩:=hS';obtain⟨k1,k2,k3⟩:=uy hS hB ho hM;obtain⟨r1,r2,r3,r4,r5⟩:=mC hI hB ho hM;have hst:=ib n hI hB ho hM h;refine hst.mono ?_;rintro e w' ⟨a,kc,rfl,hh⟩;refine⟨_,_,_,_,a,kc,_,rfl,hh,λhd=>?_,λhd=>?_⟩
 ·rcases k3 with ⟨k3,_⟩ | ⟨_,k3⟩
  ·unfold b_ at hd
   rw[if_pos k3]at hd;cases hd
  ·exact k3
 ·rcases k3 with ⟨k3,k4⟩ | ⟨k3,_⟩
  ·obtain⟨o1,s1,_⟩:=r4.self
   have e1:b_ c x p o M=((iE c x p o M).own p (o1.now none),some ⟨o.kd,(M.step c p x.m).1.got,(M.step c p x.m).1.over⟩):=by
    unfold b_;rw[if_pos k3,r3,s1]
   refine⟨?_,?_,r1,o1.now none,?_,rfl⟩
   ·rw[e1];exact k2
   ·rw[e1];exact k4
   ·rw[e1]
    show((iE c x p o M).ow.set p (o1.now none))[p]? = _;rw[List.getElem?_set_self (by rw[r4.len];exact hp)]
  ·unfold b_ at hd
   rw[if_neg k3]at hd;cases hd
end
section
variable{F:Fence}{n:Nat}{P:Program}
theorem Mv{s1 s2 s3 r:Code}{Q:Exit->Act->World->Prop}{K:Act->World->Prop}(h:∀ a w,(Code.seq s1 (Code.seq s2 (Code.seq s3 r))).wpIn F n P Q a w->K a w) :
  ∃ K2 K3 K4:Act->World->Prop,(∀ a w,r.wpIn F n P Q a w->K4 a w)/\(∀ a w,s3.wpIn F n P (Exit.then K4 Q) a w->K3 a w)/\(∀ a w,s2.wpIn F n P (Exit.then K3 Q) a w->K2 a w)/\(∀ a w,s1.wpIn F n P (Exit.then K2 Q) a w->K a w) :=
 ⟨_,_,r.wpIn F n P Q,λ_ _ h=>h,λ_ _ h1=>wpIn_seq h1,λ_ _ h1=>wpIn_seq h1,λ_ _ h1=>h _ _ (wpIn_seq h1)⟩
end
set_option maxHeartbeats 4000000 in
theorem J2(m:Nat)(c0:Cf){a0:Option Addr}{N k0:Nat}{L:List Value}{w:World}(pp kd cv cg:Int)(hs:jd 1 (.slice a0 N k0) N L w)(hL:∀ j,j<N->∃ i:Int,0<=i/\i<=255/\L[j]? = some (.int .u8 i))(Ob:∀ (m:Nat) (w:World),CallsIn Fence.wide m prog 8 #[] w λe w'=>e=.returned (.bool true)/\Below w.heap.size w w') :
  CallsIn Fence.wide m prog 3 #[c0.v,.slice a0 N k0,.int .i64 pp,.agg #[.int .i64 kd,.int .i64 cv,.int .i64 cg]] w λe w'=>e=.returned (.bool true)/\Below w.heap.size w w':=by
 refine callsIn_of_wp func3 rfl trivial ?_ rfl;simp only[ntmps3,List.size_toArray,List.length_cons,List.length_nil,Nat.reduceAdd,Nat.reduceSub,Array.replicate_succ,Array.replicate_zero,List.push_toArray,List.append_toArray,List.nil_append,List.cons_append];obtain⟨W0,hW0⟩:∃ W0,w.alloc (.cells #[.int .i64 c0.n,.int .i64 c0.q,.int .i64 c0.g,.int .i64 c0.m,.int .i64 c0.t,.int .i64 c0.s] 23)=W0:=⟨_,rfl⟩;obtain⟨W1,hW1⟩:∃ W1,W0.alloc (.cells #[.int .i64 kd,.int .i64 cv,.int .i64 cg] 26)=W1:=⟨_,rfl⟩;have h00:af ⟨w,λ_=>False⟩ [] w:=af.start (kL w);have h0:af ⟨w,λ_=>False⟩ [aH w.heap.size [.int .i64 c0.n,.int .i64 c0.q,.int .i64 c0.g,.int .i64 c0.m,.int .i64 c0.t,.int .i64 c0.s] 23] W0:=by rw[← hW0];exact eT _ _ h00
 obtain⟨bc,hbc⟩:∃ bc,w.heap.size=bc:=⟨_,rfl⟩;rw[hbc]at h0;have h1:af ⟨w,λ_=>False⟩ [aH W0.heap.size [.int .i64 kd,.int .i64 cv,.int .i64 cg] 26,aH bc [.int .i64 c0.n,.int .i64 c0.q,.int .i64 c0.g,.int .i64 c0.m,.int .i64 c0.t,.int .i64 c0.s] 23] W1:=by rw[← hW1];exact eT _ _ h0
 obtain⟨bl,hbl⟩:∃ bl,W0.heap.size=bl:=⟨_,rfl⟩;rw[hbl]at h1;replace h1:=h1.sel [1,0];have hB1:=h1.below (λ_=>id)
 by_cases hl:N<=8
 rotate_left
 ·have v5:(N:Int)>(8:Int):=by omega
  gi_wp2
  refine⟨trivial,λh=>by simp[Fence.wide]at h,(Ob _ _).mono ?_⟩;rintro e w2 ⟨rfl,hb⟩
  gi_wp2
  exact bodyPost_ret (results_tmp rfl _ _ _) rfl ⟨rfl,hB1.trans (hb.mono hB1.size)⟩
 have v5:¬ (N:Int)>(8:Int):=by omega
 have hcs:∀ (r:List aG) (ctx:dc) (c:Cf) (bc:Nat) (w':World),af ctx (aH bc [.int .i64 c.n,.int .i64 c.q,.int .i64 c.g,.int .i64 c.m,.int .i64 c.t,.int .i64 c.s] 23 :: r) w'->w'.cell? ⟨bc,0,none⟩=some (.int .i64 c.n)/\w'.cell? ⟨bc,1,none⟩=some (.int .i64 c.q)/\w'.cell? ⟨bc,2,none⟩=some (.int .i64 c.g)/\w'.cell? ⟨bc,3,none⟩=some (.int .i64 c.m)/\w'.cell? ⟨bc,4,none⟩=some (.int .i64 c.t)/\w'.cell? ⟨bc,5,none⟩=some (.int .i64 c.s)/\(∀ j,w'.frozen? ⟨bc,j,none⟩=false) :=
  λr ctx c bc w' hh=>⟨cell_of (ax hh) 0 _ rfl,cell_of (ax hh) 1 _ rfl,cell_of (ax hh) 2 _ rfl,cell_of (ax hh) 3 _ rfl,cell_of (ax hh) 4 _ rfl,cell_of (ax hh) 5 _ rfl,λj=>cB (ax hh) j⟩
 obtain⟨d0,d1,d2,d3,d4,d5,d6⟩:=hcs _ _ _ _ _ h1;obtain⟨c,hc⟩:∃ c:aP,made c0=c:=⟨_,rfl⟩;have hq8:=JV c0;have HY:=JX c0 W1;rw[hc]at hq8 HY;clear hc
 gi_wp2
 refine⟨trivial,λh=>by simp[Fence.wide]at h,(callsIn_wide.2 HY).mono ?_⟩;clear HY;rintro e w2 ⟨rfl,B2⟩;have h2:=bA h1 B2;obtain⟨p0,p1,p2,p3,p4,p5,p6⟩:=hcs _ _ _ _ _ h2;obtain⟨f0,f1,f2,f3,f4,f5⟩:w2.frozen? ⟨bc,0,none⟩=false/\w2.frozen? ⟨bc,1,none⟩=false/\w2.frozen? ⟨bc,2,none⟩=false/\w2.frozen? ⟨bc,3,none⟩=false/\w2.frozen? ⟨bc,4,none⟩=false/\w2.frozen? ⟨bc,5,none⟩=false:=⟨p6 _,p6 _,p6 _,p6 _,p6 _,p6 _⟩;have h3:=bR 5 (.int .i64 c.s) (bR 4 (.int .i64 c.t) (bR 3 (.int .i64 c.m) (bR 2 (.int .i64 c.g) (bR 1 (.int .i64 (c.q:Int)) (bR 0 (.int .i64 (c.n:Int)) h2)))));clear d0 d1 d2 d3 d4 d5 d6 p6;replace h3:af ⟨w,λ_=>False⟩ [aH bc (cW c) 23,aH bl [.int .i64 kd,.int .i64 cv,.int .i64 cg] 26] _:=h3
 gi_wp2
 refine⟨trivial,λh=>by simp[Fence.wide]at h,(anew (m-1) c h3).mono ?_⟩;rintro e w4 ⟨b,rfl,h4⟩;have hI0:=(Hs c hq8).1;obtain⟨x0,hx0⟩:∃ x0,eD c=x0:=⟨_,rfl⟩;rw[hx0]at h4 hI0;clear hx0 p0 p1 p2 p3 p4 p5 f0 f1 f2 f3 f4 f5 h0 h1 h2 h3 h00 B2 hB1 hbc hbl;have OE:∀ (x:aE) (r:List aG) (w':World),af ⟨w,λ_=>False⟩ (cC b c x::aH bc (cW c) 23 :: r) w'->w'.cell? ⟨bc,0,none⟩=some (.int .i64 (c.n:Int))/\w'.cell? ⟨bc,1,none⟩=some (.int .i64 (c.q:Int)) :=
  λx r w' hh=>⟨cell_of (ax (bU hh)) 0 _ rfl,cell_of (ax (bU hh)) 1 _ rfl⟩
 clear hcs;have hnb:=c.nb;have Tc:c.q<=8:=by omega
 gi_wp2
 gi_loopw [11,12] (λnx qv wr=>∃ (q tC:Nat) (x:aE),nx=.int .i64 (tC:Int)/\qv=.int .i64 (q:Int)/\q<=N/\tC<=8*q/\(∃ B:Int,B<=80*(tC:Int)/\dR c B x)/\af ⟨w,λ_=>False⟩ [cC b c x,aH bc (cW c) 23,aH bl [.int .i64 kd,.int .i64 cv,.int .i64 cg] 26] wr) (λ_ qv _=>N-(intOf qv).toNat)
 case atStart=>exact⟨0,0,x0,rfl,rfl,Nat.zero_le _,Nat.le_refl _,⟨0,by omega,hI0⟩,h4⟩
 case round =>
  rename_i KA aA;have QY:∀ (x:aE) (tC:Nat) (w':World) (B:Int) {z12 Oc Od z38 z39 z40 z41 z42 z43 z44 z45 z46 z47 z48 z49 z50 z51 z52 z53 z54 z55 z56 z57 z58 z59 z60 z61 z62 z63 z64 z65 z66 z67 z68 z69 z70 z71 z72 z73 z74 z75 z76 z77 z78 z79 z80 Oe:Value},tC<=64->B<=5120->dR c B x->af ⟨w,λ_=>False⟩ [cC b c x,aH bc (cW c) 23,aH bl [.int .i64 kd,.int .i64 cv,.int .i64 cg] 26] w'->KA { tmps:=#[c0.v,.slice a0 N k0,.int .i64 pp,.agg #[.int .i64 kd,.int .i64 cv,.int .i64 cg],.pointer (some ⟨bc,0,none⟩),undef,undef,.pointer (some ⟨bl,0,none⟩),.bool false,.pointer (some ⟨b.br,0,none⟩),.int .i64 0,.int .i64 (tC:Int),z12,Oc,Od,undef,undef,undef,undef,undef,undef,.slice a0 N k0,.int .i64 (N:Int),.bool false,undef,.agg #[.int .i64 c0.n,.int .i64 c0.q,.int .i64 c0.g,.int .i64 c0.m,.int .i64 c0.t,.int .i64 c0.s],c.v,.tuple #[.pointer (some ⟨b.br,0,none⟩),.int .i64 0],.agg #[.int .i64 (c.n:Int),.int .i64 (c.q:Int),.int .i64 c.g,.int .i64 c.m,.int .i64 c.t,.int .i64 c.s],.tuple #[.pointer (some ⟨b.br,0,none⟩),.int .i64 0],.pointer (some ⟨b.br,0,none⟩),.int .i64 0,.int .i64 0,.bool false,.bool false,.pointer (some ⟨b.br,0,none⟩),.bool false,.bool false,z38,z39,z40,z41,z42,z43,z44,z45,z46,z47,z48,z49,z50,z51,z52,z53,z54,z55,z56,z57,z58,z59,z60,z61,z62,z63,z64,z65,z66,z67,z68,z69,z70,z71,z72,z73,z74,z75,z76,z77,z78,z79,z80,Oe,undef,undef,undef,undef,undef,undef,undef,undef,undef,undef,undef,undef,undef,undef,undef,undef,undef,undef,undef,undef,undef,undef,undef,undef,undef,undef,undef,undef,undef,undef,undef,undef,undef,undef,undef,undef,undef,undef,undef,undef,undef,undef,undef,undef,undef,undef,undef,undef,undef,undef,undef,undef,undef,undef,undef,undef,undef,undef,undef,undef,undef,undef,undef,undef,undef,undef,undef,undef,undef,undef,undef,undef],defers:=[] } w':=by
   intro x tC w' B z12 Oc Od z38 z39 z40 z41 z42 z43 z44 z45 z46 z47 z48 z49 z50 z51 z52 z53 z54 z55 z56 z57 z58 z59 z60 z61 z62 z63 z64 z65 z66 z67 z68 z69 z70 z71 z72 z73 z74 z75 z76 z77 z78 z79 z80 Oe hnx hB hI hH;clear hrel hI0 h4;have hpl:=au pp c.n hnb.1;have hpk:=sg pp c.n hnb.1 (by omega) w';obtain⟨p,hp⟩:∃ p,(pick pp (c.n:Int)).toNat=p:=⟨_,rfl⟩;rw[hp]at hpl hpk;clear hp;obtain⟨y0,y1⟩:=OE _ _ _ hH
   gi_wp2
   refine⟨trivial,λh=>by simp[Fence.wide]at h,(callsIn_wide.2 hpk).mono ?_⟩;clear hpk y0 y1;rintro e w6 ⟨rfl,B6⟩;have h6:af ⟨w,λ_=>False⟩ [aH bl [.int .i64 kd,.int .i64 cv,.int .i64 cg] 26,cC b c x,aH bc (cW c) 23] w6:=(bA hH B6).sel [2,0,1];have q0:w6.cell? ⟨bl,0,none⟩=some (.int .i64 kd):=cell_of (ax h6) 0 _ rfl;have q1:w6.cell? ⟨bl,1,none⟩=some (.int .i64 cv):=cell_of (ax h6) 1 _ rfl;have q2:w6.cell? ⟨bl,2,none⟩=some (.int .i64 cg):=cell_of (ax h6) 2 _ rfl;have q3:w6.frozen? ⟨bl,2,none⟩=false:=cB (ax h6) 2;have h7:=bR 2 (.int .i64 (tC:Int)) h6;have h8:af ⟨w,λ_=>False⟩ [cC b c x,aH bc (cW c) 23,aH bl [.int .i64 kd,.int .i64 cv,.int .i64 (tC:Int)] 26] _:=h7.sel [1,2,0];clear hH h6 h7
   gi_wp2
   refine⟨trivial,λh=>by simp[Fence.wide]at h,(J1 (m-1) hI hpl kd cv (tC:Int) ⟨by omega,by omega⟩ h8).mono ?_⟩;clear h8 q0 q1 q2 q3 hI;rename_i Td a23 Te a22 KL aL;obtain⟨Tf,SN,Tg,Ti,Tj,SO,s24⟩:=Mv a23;clear a23;have Og:∀ (x9:aE) (v:Nat) (w9:World) {z12 Oc Od z38 z39 z40 z41 z42 z43 z44 z45 z46 z47 z48 z49 z50 z51 z52 z53 z54 z55 z56 z57 z58 z59 z60 z61 z62 z63 z64 z65 z66 z67 z68 z69 z70 z71 z72 z73 z74 z75 z76 z77 z78 z79 z80 Oe z82 z83 z84 z85 z86 z87 QZ z89 Q0 z91 Q5 z93 Q6 Q7 Q8 Q9 Q_ Q':Value},v<c.n->kg c B x9 p kd (if kd=1 then -1 else (rl c x9.m v).headD (-1)) (4+2*c.q)->af ⟨w,λ_=>False⟩ [cC b c x9,aH bc (cW c) 23,aH bl [.int .i64 kd,.int .i64 cv,.int .i64 (tC:Int)] 26] w9->SN { tmps:=#[c0.v,.slice a0 N k0,.int .i64 (p:Int),.agg #[.int .i64 kd,.int .i64 cv,.int .i64 cg],.pointer (some ⟨bc,0,none⟩),undef,undef,.pointer (some ⟨bl,0,none⟩),.bool false,.pointer (some ⟨b.br,0,none⟩),.int .i64 0,.int .i64 (tC:Int),z12,Oc,Od,.int .i64 (v:Int),undef,undef,undef,undef,undef,.slice a0 N k0,.int .i64 (N:Int),.bool false,undef,.agg #[.int .i64 c0.n,.int .i64 c0.q,.int .i64 c0.g,.int .i64 c0.m,.int .i64 c0.t,.int .i64 c0.s],c.v,.tuple #[.pointer (some ⟨b.br,0,none⟩),.int .i64 0],.agg #[.int .i64 (c.n:Int),.int .i64 (c.q:Int),.int .i64 c.g,.int .i64 c.m,.int .i64 c.t,.int .i64 c.s],.tuple #[.pointer (some ⟨b.br,0,none⟩),.int .i64 0],.pointer (some ⟨b.br,0,none⟩),.int .i64 0,.int .i64 0,.bool false,.bool false,.pointer (some ⟨b.br,0,none⟩),.bool false,.bool false,z38,z39,z40,z41,z42,z43,z44,z45,z46,z47,z48,z49,z50,z51,z52,z53,z54,z55,z56,z57,z58,z59,z60,z61,z62,z63,z64,z65,z66,z67,z68,z69,z70,z71,z72,z73,z74,z75,z76,z77,z78,z79,z80,Oe,z82,z83,z84,z85,z86,z87,QZ,z89,Q0,z91,Q5,z93,Q6,Q7,Q8,Q9,Q_,Q',undef,undef,undef,undef,undef,undef,undef,undef,undef,undef,undef,undef,undef,undef,undef,undef,undef,undef,undef,undef,undef,undef,undef,undef,undef,undef,undef,undef,undef,undef,undef,undef,undef,undef,undef,undef,undef,undef,undef,undef,undef,undef,undef,undef,undef,undef,undef,undef,undef,undef,undef,undef,undef,undef],defers:=[] } w9:=by
    intro x9 v w9 z12 Oc Od z38 z39 z40 z41 z42 z43 z44 z45 z46 z47 z48 z49 z50 z51 z52 z53 z54 z55 z56 z57 z58 z59 z60 z61 z62 z63 z64 z65 z66 z67 z68 z69 z70 z71 z72 z73 z74 z75 z76 z77 z78 z79 z80 Oe z82 z83 z84 z85 z86 z87 QZ z89 Q0 z91 Q5 z93 Q6 Q7 Q8 Q9 Q_ Q' hv hS h9;clear SO s24 a22 aL;have hring:=Mn (m-1) hS.I hv h9;obtain⟨ls,hls⟩:∃ ls,rl c x9.m v=ls:=⟨_,rfl⟩;rw[hls]at hring hS;clear hls
    gi_wp2
    refine⟨trivial,λh=>by simp[Fence.wide]at h,hring.mono ?_⟩;clear hring;rintro e SQ ⟨ar,kr,rfl,h10⟩;obtain⟨g,hg⟩:∃ g,(if kd=1 then -1 else ls.headD (-1))=g:=⟨_,rfl⟩;rw[hg]at hS;clear h9;have A:Aside ((if kd=1 then -1 else ls.headD (-1))=g):=hg;clear hg;have h11:af ⟨w,λ_=>False⟩ [cC b c x9,aH bc (cW c) 23,aH bl [.int .i64 kd,.int .i64 cv,.int .i64 (tC:Int)] 26,cf (.slice ar ls.length kr) ls] SQ:=h10.sel [1,2,3,0];clear h10
    gi_wp2
    gi_loopw [17] (λnv wr=>∃ (n:Nat) (x:aE),nv=.int .i64 (n:Int)/\1<=n/\n<=5+2*c.q/\kg c (B+8*((n-1:Nat):Int)) x p kd g (5+2*c.q-n)/\af ⟨w,λ_=>False⟩ [cC b c x,aH bc (cW c) 23,aH bl [.int .i64 kd,.int .i64 cv,.int .i64 (tC:Int)] 26,cf (.slice ar ls.length kr) ls] wr) (λnv _=>6+2*c.q-(intOf nv).toNat)
    case atStart=>exact⟨1,x9,rfl,by omega,by omega,hS.cast (by omega) (by omega),h11⟩
    case round =>
     clear h11 hS;obtain⟨n,x,rfl,hn1,hn2,hS,hH⟩:=hrel;have hp1:=HX hS (by omega);have Tk:(n:Int)<=4+2*(c.q:Int):=by omega
     have z1:=(OE _ _ _ hH).2
     gi_wp2
     refine⟨trivial,λh=>by simp[Fence.wide]at h,(Mu (m-1) hS (by omega) hH).mono ?_⟩;rintro e Qo ⟨x2,kk,gg,l,a2,k2,d,rfl,h12,hF,hD⟩;clear z1 hH hS;obtain⟨W8,Ql⟩:∃ W8,Qo.alloc (.cells #[.int .i64 kk,.int .i64 gg,.slice a2 l.length k2] 37)=W8:=⟨_,rfl⟩;have h8:=eT [.int .i64 kk,.int .i64 gg,.slice a2 l.length k2] 37 h12;obtain⟨bo,Ny⟩:∃ bo,Qo.heap.size=bo:=⟨_,rfl⟩;rw[Ny,show Qo.alloc (.cells [Value.int .i64 kk,.int .i64 gg,.slice a2 l.length k2].toArray 37)=W8 from Ql]at h8;cases d with
     | false =>
      have hS2:=hF rfl;clear hF hD;have h9:af ⟨w,λ_=>False⟩ [cC b c x2,aH bc (cW c) 23,aH bl [.int .i64 kd,.int .i64 cv,.int .i64 (tC:Int)] 26,cf (.slice ar ls.length kr) ls] W8:=h8.sel [2,3,4,5];clear h8 h12
      gi_wp2
      exact⟨⟨n+1,x2,rfl,by omega,by omega,hS2.cast (by omega) (by omega),h9⟩,by simp[intOf];omega⟩
     | true =>
      obtain⟨rfl,rfl,hI2,o2,ho2,hm2⟩:=hD rfl;clear hF hD h12;have h9:af ⟨w,λ_=>False⟩ [cC b c x2,aH bc (cW c) 23,aH bl [.int .i64 kk,.int .i64 cv,.int .i64 (tC:Int)] 26,cf (.slice ar ls.length kr) ls,aH bo [.int .i64 kk,.int .i64 gg,.slice a2 l.length k2] 37] W8:=h8.sel [2,3,4,5,0];clear h8;have MH:=h9.below (λ_=>id);have hbz:∀ {r:List aG} {W:World},af ⟨w,λ_=>False⟩ (cC b c x2::r) W->CallsIn Fence.wide (m-1) prog 12 #[.pointer (some ⟨b.br,0,none⟩),.int .i64 (p:Int)] W λe w'=>e=.returned (.bool false)/\w'=W:=λhh=>by
       have:=HR (m-1) hpl ho2 hh;rw[hm2]at this;exact this
      have y0:W8.cell? ⟨bl,0,none⟩=some (.int .i64 kk):=cell_of (ax (aI (r:=[_,_]) h9)) 0 _ rfl;have t0:W8.cell? ⟨bo,0,none⟩=some (.int .i64 kk):=cell_of (ax (aI (r:=[_,_,_,_]) h9)) 0 _ rfl;have t1:W8.cell? ⟨bo,1,none⟩=some (.int .i64 gg):=cell_of (ax (aI (r:=[_,_,_,_]) h9)) 1 _ rfl;have hsl:=bk (aI (r:=[_,_,_]) h9)
      by_cases hk1:kk=1
      ·have hgm:gg = -1:=by
        have:=A.out;rw[if_pos hk1]at this;exact this.symm
       subst hgm;subst hk1
       gi_wp2
       refine⟨trivial,λh=>by simp[Fence.wide]at h,(HT (m-1) hI2.ok h9).mono ?_⟩;rintro e Ra ⟨rfl,si⟩;replace si:=si.symm;subst si
       gi_wp2
       refine⟨trivial,λh=>by simp[Fence.wide]at h,(hbz h9).mono ?_⟩;rintro e w16 ⟨rfl,hw16⟩;replace hw16:=hw16.symm;subst hw16
       gi_wp2
       refine⟨trivial,λh=>by simp[Fence.wide]at h,(Ob _ _).mono ?_⟩;rintro e Rb ⟨rfl,hb⟩
       gi_wp2
       exact bodyPost_ret (results_tmp rfl _ _ _) rfl ⟨rfl,MH.trans (hb.mono MH.size)⟩
      ·by_cases hl0:ls=[]
       ·have hgm:gg = -1:=by
         have:=A.out;rw[if_neg hk1,hl0]at this;exact this.symm
        subst hgm;have hll:¬ (ls.length:Int)>0:=by rw[hl0];decide
        gi_wp2
        refine⟨trivial,λh=>by simp[Fence.wide]at h,(HT (m-1) hI2.ok h9).mono ?_⟩;rintro e Ra ⟨rfl,si⟩;replace si:=si.symm;subst si
        gi_wp2
        refine⟨trivial,λh=>by simp[Fence.wide]at h,(hbz h9).mono ?_⟩;rintro e w16 ⟨rfl,hw16⟩;replace hw16:=hw16.symm;subst hw16
        gi_wp2
        refine⟨trivial,λh=>by simp[Fence.wide]at h,(Ob _ _).mono ?_⟩;rintro e Rb ⟨rfl,hb⟩
        gi_wp2
        exact bodyPost_ret (results_tmp rfl _ _ _) rfl ⟨rfl,MH.trans (hb.mono MH.size)⟩
       ·have hpos:0<ls.length:=List.length_pos_iff.2 hl0
        have hll:(ls.length:Int)>0:=by omega
        obtain⟨Tl,off2,har,hc0⟩:=rT hsl hpos;rw[Nat.add_zero]at hc0;have hgm:ls.getD 0 0=gg:=by
         have:=A.out;rw[if_neg hk1]at this;rw[← this];cases ls with
         | nil=>exact absurd rfl hl0
         | cons a l=>rfl
        rw[hgm]at hc0;subst har;clear hgm
        gi_wp2
        refine⟨trivial,λh=>by simp[Fence.wide]at h,(HT (m-1) hI2.ok h9).mono ?_⟩;rintro e Ra ⟨rfl,si⟩;replace si:=si.symm;subst si
        gi_wp2
        refine⟨trivial,λh=>by simp[Fence.wide]at h,(hbz h9).mono ?_⟩;rintro e w16 ⟨rfl,hw16⟩;replace hw16:=hw16.symm;subst hw16
        gi_wp2
        refine⟨trivial,λh=>by simp[Fence.wide]at h,(Ob _ _).mono ?_⟩;rintro e Rb ⟨rfl,hb⟩
        gi_wp2
        exact bodyPost_ret (results_tmp rfl _ _ _) rfl ⟨rfl,MH.trans (hb.mono MH.size)⟩
   rintro e w9 ⟨x9,er,rfl,h9,hS⟩
   by_cases her:er=0
   rotate_left
   ·gi_wp2
    refine⟨trivial,λh=>by simp[Fence.wide]at h,(Ob _ _).mono ?_⟩;rintro e w2 ⟨rfl,hb⟩;have hB1:=h9.below (λ_=>id)
    gi_wp2
    exact bodyPost_ret (results_tmp rfl _ _ _) rfl ⟨rfl,hB1.trans (hb.mono hB1.size)⟩
   obtain⟨v,hv,hvk,hS2⟩:=hS her;clear hS;subst her;have j0:w9.cell? ⟨bl,0,none⟩=some (.int .i64 kd):=cell_of (ax (aI (r:=[_,_]) h9)) 0 _ rfl;have j1:w9.cell? ⟨bl,1,none⟩=some (.int .i64 cv):=cell_of (ax (aI (r:=[_,_]) h9)) 1 _ rfl
   by_cases h3:kd=3
   ·rw[if_pos h3]at hvk
    subst h3;have Qp:=hvk.symm;subst Qp
    gi_wp2
    exact Og x9 v w9 hv hS2 h9
   ·rw[if_neg h3]at hvk
    obtain rfl:v=p:=by omega
    gi_wp2
    exact Og x9 v w9 hv hS2 h9
  obtain⟨q,tC,x,rfl,rfl,hq,hnx,⟨B,hB,hI⟩,hH⟩:=hrel;obtain⟨z0,z1⟩:=OE _ _ _ hH
  by_cases MI:q<c.n/\q<N
  ·obtain⟨MI,SR⟩:=MI
   have Rc:(q:Int)<(c.n:Int):=by omega
   have Qq:(q:Int)<(N:Int):=by omega
   obtain⟨u,hu0,hu1,hu⟩:=hL q SR;rcases hs.2 with ⟨e,_⟩ | ⟨ba,off,c1,hv,hb,hc⟩
   ·omega
   cases hv;have hgt:∀ W:World,Below w.heap.size w W->W.cell? ⟨ba,off+q,none⟩=some (.int .u8 u):=λW hW=>by
    rw[hW.cell (p:=⟨ba,off+q,none⟩) hb.1,hc q (by omega),hu]
   have hcc:∀ (x:aE) (r:List aG) (w':World),af ⟨w,λ_=>False⟩ (cC b c x::aH bc (cW c) 23 :: r) w'->w'.cell? ⟨ba,off+q,none⟩=some (.int .u8 u)/\w'.cell? ⟨bc,1,none⟩=some (.int .i64 (c.q:Int)):=λx r w' hh=>⟨hgt w' (hh.below (λ_=>id)),(OE x r w' hh).2⟩
   clear hgt
   gi_wp2
   gi_loopw [11,13] (λnx kv wr=>∃ (k nx':Nat) (x:aE),nx=.int .i64 (nx':Int)/\kv=.int .i64 (k:Int)/\k<=8/\nx'<=8*q+k/\(∃ B:Int,B<=80*(nx':Int)/\dR c B x)/\af ⟨w,λ_=>False⟩ [cC b c x,aH bc (cW c) 23,aH bl [.int .i64 kd,.int .i64 cv,.int .i64 cg] 26] wr) (λ_ kv _=>8-(intOf kv).toNat)
   case atStart=>exact⟨0,tC,x,rfl,rfl,by omega,by omega,⟨B,hB,hI⟩,hH⟩
   case round =>
    clear hH hI hB hnx z0 z1;obtain⟨k,nx,x,rfl,rfl,hk,hnx,⟨B,hB,hI⟩,hH⟩:=hrel;have hd:=bA hH ((Below.refl _ wr).drew);obtain⟨y0,y1⟩:=hcc _ _ _ hd;have hne0:¬ ((c.q:Int)+1=0):=by omega
    have hs0:u.tmod ((c.q:Int)+1)<(c.q:Int)+1:=Int.tmod_lt_of_pos _ (by omega);have hs1:0<=u.tmod ((c.q:Int)+1):=Int.tmod_nonneg _ hu0;have Qc:IntKind.i64.wrap u=u:=aW (by omega) (by omega);have hwq:IntKind.i64.wrap ((c.q:Int)+1)=(c.q:Int)+1:=aW (by omega) (by omega);have hwr:IntKind.i64.wrap (u.tmod ((c.q:Int)+1))=u.tmod ((c.q:Int)+1):=aW (by omega) (by omega)
    by_cases hks:(k:Int)<u.tmod ((c.q:Int)+1)
    ·gi_wp2
     refine wpIn_wide.2 ?_
     go_region_held3 (λw'=>w'.cell? ⟨ba,off+q,none⟩=some (.int .u8 u)/\w'.cell? ⟨bc,1,none⟩=some (.int .i64 (c.q:Int))) ((exact⟨y0,y1⟩)) ((first | (fail)))
     have QG:k<8:=by omega
     clear y0 y1 hH
     gi_wp2
     refine⟨trivial,λh=>by simp[Fence.wide]at h,(J0 (m-1) hI MI 1 0 (nx:Int) ⟨by omega,by omega⟩ hd).mono ?_⟩;rintro e w6 ⟨x6,er,rfl,Rd,h6⟩;clear hd
     gi_wp2
     gi_loopw [14] (λiv wr=>∃ (i:Nat) (x:aE),iv=.int .i64 (i:Int)/\i<=9/\dR c (B+8*(i:Int)) x/\af ⟨w,λ_=>False⟩ [cC b c x,aH bc (cW c) 23,aH bl [.int .i64 kd,.int .i64 cv,.int .i64 cg] 26] wr) (λiv _=>9-(intOf iv).toNat)
     case atStart=>exact⟨0,x6,rfl,by omega,by simpa using Rd,h6⟩
     case round =>
      clear h6 Rd hI;obtain⟨i,x7,rfl,hi,OG,h7⟩:=hrel
      by_cases hi9:i<9
      ·have SS:(i:Int)<9:=by omega
       gi_wp2
       refine⟨trivial,λh=>by simp[Fence.wide]at h,(Ms (m-1) OG MI h7).mono ?_⟩;rintro e w8 ⟨d,rfl,rfl⟩;cases d with
       | true =>
        gi_wp2
        refine⟨trivial,λh=>by simp[Fence.wide]at h,(Mt (m-1) OG (by omega) MI h7).mono ?_⟩;rintro e w9 ⟨x9,v9,rfl,ST,h9⟩
        gi_wp2
        exact⟨⟨i+1,x9,rfl,by omega,by rw[show B+8*((i+1:Nat):Int)=B+8*(i:Int)+8 by omega];exact ST,h9⟩,by simp[intOf];omega⟩
       | false =>
        gi_wp2
        exact⟨⟨k+1,nx+1,x7,rfl,rfl,by omega,by omega,⟨_,by omega,OG⟩,h7⟩,by simp[intOf];omega⟩
      ·have SS:¬ (i:Int)<9:=by omega
       gi_wp2
       refine⟨trivial,?_⟩
       gi_wp2
       exact⟨⟨k+1,nx+1,x7,rfl,rfl,by omega,by omega,⟨_,by omega,OG⟩,h7⟩,by simp[intOf];omega⟩
    ·gi_wp2
     refine wpIn_wide.2 ?_
     go_region_held3 (λw'=>w'.cell? ⟨ba,off+q,none⟩=some (.int .u8 u)/\w'.cell? ⟨bc,1,none⟩=some (.int .i64 (c.q:Int))) ((exact⟨y0,y1⟩)) ((first | (fail)))
     clear y0 y1 hH
     gi_wp2
     exact⟨⟨q+1,nx,x,rfl,rfl,by omega,by omega,⟨B,hB,hI⟩,hd⟩,by simp[intOf];omega⟩
  ·have Oh:tC<=64:=by omega
   by_cases Qr:q<c.n
   ·have SU:¬ q<N:=λh=>MI ⟨Qr,h⟩
    have Rc:(q:Int)<(c.n:Int):=by omega
    have Qq:¬ (q:Int)<(N:Int):=by omega
    gi_wp2
    exact QY x tC wr B Oh (by omega) hI hH
   ·have Rc:¬ (q:Int)<(c.n:Int):=by omega
    gi_wp2
    exact QY x tC wr B Oh (by omega) hI hH
end Go.Proofs.YtkmccgombmogmaaGreat
namespace Go.Proofs.YtkmccgombmogmaaGreat
open Go.Ev Go.Proofs.Tryz
open Go.ChangeShapes Go.WideShapes Go.ChangeAt Go.RowKit Go.Deep
open Go.Ev (iz iN)
set_option maxRecDepth 100000
section
variable{H:Type}{enc:TypeId×Value->H}{w:World}
def J3(xs:List Int):List Value:=xs.map (Value.int .u8)
theorem Mw{n:Int}(h:(Lit.int .u8 n).wf=true):0<=n/\n<256:=by
 simp[Lit.wf,IntKind.min,IntKind.max,IntKind.signed,IntKind.bits]at h;omega
theorem AW{v:Value}{d:DataW H}{ps:List MemPlace}{r:Reach}{b0:Nat}(hv:Value.okWide prog w r b0 24 v)(h:DataW.Trod enc prog w 0 (λ_=>true) true 24 v d ps) :
  ∃ zs:List Int,jd 1 v zs.length (J3 zs) w/\∀ i,0<=zs.getD i 0/\zs.getD i 0<256:=by
 obtain⟨a0,n0,c0,rfl⟩:=okWide_slice underlying24 hv;obtain⟨fuel,hf⟩:=h;have key:∀ zs:List Int,(∀ z ∈ zs,0<=z/\z<256)->∀ i,0<=zs.getD i 0/\zs.getD i 0<256:=λzs hz i=>by
  rcases Nat.lt_or_ge i zs.length with h | h
  ·rw[List.getD_eq_getElem?_getD,List.getElem?_eq_getElem h]
   exact hz _ (List.getElem_mem h)
  ·rw[List.getD_eq_getElem?_getD,List.getElem?_eq_none h]
   decide
 rcases open_ints underlying24 underlying5 (by kernel_rfl) hf with ⟨hcs,_⟩ | ⟨a,len,cap,zs,hcs,_,hl,_,hz,_,hc,hwz⟩
 ·simp[Value.cells]at hcs
  obtain⟨rfl,rfl,rfl⟩:=hcs;exact⟨[],⟨rfl,.inl ⟨rfl,_,_,rfl⟩⟩,key [] (λz hz=>by cases hz)⟩
 ·simp[Value.cells]at hcs
  obtain⟨rfl,rfl,rfl⟩:=hcs;simp only[if_true]at hz;have hlen:(zs.take n0).length=n0:=by rw[List.length_take];omega
  refine⟨zs.take n0,⟨by simp[J3],?_⟩,key _ (λz hm=>Mw (hwz z (List.mem_of_mem_take hm)))⟩;rw[hlen];rcases Nat.eq_zero_or_pos n0 with h0 | h0
  ·subst h0
   exact .inl ⟨rfl,some a,_,rfl⟩
  ·have h1:=hc 0 (by omega)
   have hs:a.spot=none:=by simpa[Addr.add] using World.cell?_spot h1
   obtain⟨b,off,spot⟩:=a;simp only at hs;subst hs;have hb:b<w.heap.size:=by
    have:=JY h1;rw[y9]at this;exact this
   refine .inr ⟨b,off,_,rfl,⟨hb,hl⟩,λj hj=>?_⟩;have h2:=hc j (by omega);rw[y9]at h2;rw[h2];simp only[J3];rw[List.getElem?_map,List.getElem?_take,if_pos (by omega),List.getElem?_eq_getElem (by omega)];simp[List.getD_eq_getElem?_getD,List.getElem?_eq_getElem (show j<zs.length by omega)]
theorem AX{base b0:Nat}{spare:Nat->Bool}{held:Bool}{r:Reach}{v:Value}{d:DataW H}{p:List MemPlace}
  (hv:Value.okWide prog w r b0 26 v) (h:DataW.Trod enc prog w base spare held 26 v d p):∃ a b c:Int,v=.agg #[.int .i64 a,.int .i64 b,.int .i64 c]:=by
 obtain⟨cs,rfl,hsz,hf⟩:=sh underlying26 (by kernel_rfl) (by kernel_rfl) hv h;obtain⟨l⟩:=cs;have hl:l.length=3:=hsz
 match l,hl with
 | [c0,c1,c2],_ =>
  obtain⟨n0,y0,z0,hy0,hz0⟩:=hf 0 _ rfl;cases hy0;obtain⟨m0,hm0,_,_⟩:=DataW.trod_int underlying3 hz0;cases hm0;obtain⟨n1,y1,z1,hy1,hz1⟩:=hf 1 _ rfl;cases hy1;obtain⟨m1,hm1,_,_⟩:=DataW.trod_int underlying3 hz1;cases hm1;obtain⟨n2,y2,z2,hy2,hz2⟩:=hf 2 _ rfl;cases hy2;obtain⟨m2,hm2,_,_⟩:=DataW.trod_int underlying3 hz2;cases hm2;exact⟨m0,m1,m2,rfl⟩
end
theorem oV(H:Type)(enc:TypeId×Value->H)(W:World)(base:Nat)(args:Array Value)(ds gs:List (DataW H))(before:List MemPlace)
  (hval:∀ (j:Nat) t v,Tryz.f3.params[j]? = some t->args[j]? = some v->Value.okWide prog W .any base t v)
  (hW:DataW.Whole enc prog Tryz.f3.params.toList Rows.raceEndsSpec.vars false W args.toList ds gs before) :
  Calls prog 3 args W λe W'=>∃ v,e=.returned v/\Rows.raceEndsSpec.post enc prog Tryz.f3 false true false false W args v W':=by
 have hW':=hW;obtain⟨p,q,SV,hV,rfl,hfz,hnd⟩:=hW;have hA:DataW.TrodAll enc prog W 0 (λ_=>true) true Tryz.f3.params.toList args.toList ds p:=SV;rw[params3]at hA hval;obtain⟨v0,Tn,d0,ds0,p0,q0,Qs,rfl,rfl,h0,r0⟩:=trodAll_cons hA;obtain⟨v1,vs1,d1,ds1,p1,q1,rfl,rfl,rfl,h1,r1⟩:=trodAll_cons r0;obtain⟨v2,vs2,d2,Tp,p2,q2,rfl,rfl,rfl,h2,r2⟩:=trodAll_cons r1;obtain⟨v3,vs3,d3,ds3,p3,q3,rfl,rfl,rfl,h3,r3⟩:=trodAll_cons r2;obtain⟨rfl,rfl,rfl⟩:=trodAll_nil r3;obtain rfl:args = #[v0,v1,v2,v3]:=by cases args;simp_all
 obtain⟨c0,rfl⟩:=y_ (hval 0 _ v0 rfl rfl) h0;obtain⟨zs,hl,hz⟩:=AW (hval 1 _ v1 rfl rfl) h1;obtain⟨a0,k0,rfl⟩:=c8 hl;obtain⟨i2,rfl⟩:=okWide_int underlying3 (hval 2 _ v2 rfl rfl);obtain⟨ka,va,ga,rfl⟩:=AX (hval 3 _ v3 rfl rfl) h3;refine(callsIn_wide.1 (J2 0 c0 i2 ka va ga hl (λj hj=>⟨zs.getD j 0,(hz j).1,by have:=(hz j).2;omega,by simp[J3,hj,List.getD_eq_getElem?_getD]⟩) (λm w=>callsIn_wide.2 (DG w)))).mono λx W' ⟨he,hb⟩=>?_
 subst he
 exact⟨_,rfl,HU laidOut hW' rfl (by kernel_rfl) underlying4 rfl (by
  rw[params3];intro t ht;simp only[List.mem_cons,List.not_mem_nil,or_false]at ht
  rcases ht with rfl | rfl | rfl | rfl<;>exact⟨by kernel_rfl,of_decide_eq_true (by kernel_rfl)⟩) hb⟩
set_option maxRecDepth 100000 in
theorem qi(os:Os)(started:os.Started)(H:Type)(enc:TypeId×Value->H) :
  ReturnsInHanded {} Tryz.checked os 3 .any (Rows.raceEndsSpec.pre6 enc prog Tryz.f3 Rows.raceEndsRow.domain false) (Rows.raceEndsSpec.post enc prog Tryz.f3 false true false false):=by
 refine returnsInHanded_of_change (C:=Tryz.checked) own started (by kernel_rfl) func3
  (ChangeSpec.witness6 (enc:=enc) (C:=Tryz.checked) false ⟨#[],#[.agg #[.int .i64 0,.int .i64 0,.int .i64 0,.int .i64 0,.int .i64 0,.int .i64 0],.slice none 0 0,.int .i64 0,.agg #[.int .i64 0,.int .i64 0,.int .i64 0]],[]⟩ 8 (by kernel_rfl) (by kernel_rfl) (by kernel_rfl) (by kernel_rfl)) ?_
 intro W base args ds gs before hval hW _ _;exact oV H enc W base args ds gs before hval hW
theorem raceEnds_holds:Rows.RaceEndsSaid :=
 OpenClaim.holds_of_wide 3 Tryz.f3 rfl rfl rfl rfl rfl rfl rfl ⟨rfl,rfl,rfl,rfl,rfl⟩ rfl rfl rfl rfl rfl (by kernel_rfl) func3 (by kernel_rfl)
  (of_decide_eq_true (by kernel_rfl)) (by unfold Func.isWrapper;first | (rw[if_pos (by decide +kernel)];kernel_rfl) | (rw[if_neg (by decide +kernel)];exact⟨rfl,rfl⟩))
  (λos started H enc _=>qi os started H enc)
end Go.Proofs.YtkmccgombmogmaaGreat
