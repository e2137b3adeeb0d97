/- Part of a proof: see the last text. -/
import Derived.Test.YtkmccgombmogmaaGreatZf28
import Derived.Test.YtkmccgombmogmaaGreatRows
import Derived.WalkKit
import Derived.ProofKit
import Derived.Test.YtkmccgombmogmaaGreatZf10
set_option linter.unusedSimpArgs false
set_option linter.unusedVariables false
namespace Go.Proofs.YtkmccgombmogmaaGreat
open Go.Ev Go.Proofs.Tryz
open Go.RowKit
set_option maxRecDepth 8000
theorem Nt:∃ i z,prog.info? 80 = some i/\i.size=7/\i.zero=some z/\z.cells.size=i.size/\i.bytes=80:=v3 (z:=.agg #[.int .i64 0,.int .i64 0,.int .i64 0,.nilIface,.pointer none,.bool false,.slice none 0 0]) (by kernel_rfl) (by kernel_rfl)
def lI(c:aU):List ct:=List.replicate c.n (gM c)
theorem uZ(c:aU){q:Nat}(h:q<c.n):(lI c)[q]? = some (gM c):=by simp[lI,h]
def fp(c:aU)(es:Nat->dC)(k:Nat):List aF:=(List.range k).map (DZ c (lI c) es)
theorem xe(c:aU)(es:Nat->dC){k:Nat}(hk:k<c.n):fp c es (k+1)=fp c es k++[Bh c k (gM c) (es k)]:=by
 unfold fp;rw[List.range_succ,List.map_append]
 congr 1
 simp[DZ,uZ c hk]
theorem Bm(c:aU)(es:Nat->dC)(k:Nat)(e:dC):fp c (jT es k e) k=fp c es k:=by
 unfold fp;apply List.map_congr_left;intro q hq;rw[List.mem_range]at hq;unfold DZ;rw[qV (by omega)]
theorem KT(c:aU)(es:Nat->dC){k:Nat}(hk:k<c.n)(e:dC):fh (rowAt (lI c) (jT es k e)) (k+1)=fh (rowAt (lI c) es) k++ownRow (gM c) e:=by
 rw[lx]
 congr 1
 ·apply mr
  intro q hq;unfold rowAt;rw[qV (by omega)]
 ·unfold rowAt
  rw[uZ c hk,eO]
theorem KU{ctx:dt}{w:World}{l:List aF}{c:aU}{p d:Nat}(h:af ctx (ib c d (kq c)::l) w):af ctx (Bh c p (gM c) ⟨d,.nilIface,.slice none 0 0⟩::l) w:=by
 have h1:af ctx (bJ (.slice none 0 0) []::ib c d (kq c)::l) w:=h.d8 (e := 3) (sz:=1);obtain⟨F',m1,m2,m3⟩:=h1.ex;have q:=bW (a:=fm c p .nilIface none) (Fa:=λ_=>False) ⟨(),rfl,λj hj=>hj⟩ m1 (λj hj=>hj.elim) (λj hj=>hj.elim);have h2:af ctx (fm c p .nilIface none::bJ (.slice none 0 0) []::ib c d (kq c)::l) w:=⟨F',cP q (λj=>⟨λh=>h.elim False.elim id,.inr⟩),m2,m3⟩;refine af.shut ?_;exact ax (cn (λf=>by simp only[gM,List.cons_append,List.nil_append,List.map_append,List.map_cons,List.map_nil,List.sum_append,List.sum_cons,List.sum_nil];omega)) h2
def cQ(c:aU):List Value:=[.int .i64 (c.n:Int),.int .i64 (c.q:Int),.int .i64 c.g,.int .i64 c.m,.int .i64 c.t,.int .i64 c.s]
set_option maxHeartbeats 4000000 in
theorem Nu(m:Nat)(c:aU){F:Nat->Prop}{w:World}(h:cL [] F w) :
  CallsIn Fence.wide m prog 10 #[c.v] w λe w'=>∃ b:RB,e=.returned (.tuple #[.pointer (some ⟨b.br,0,none⟩),.int .i64 0])/\af ⟨w,F⟩ [cj b c (eJ c)] w':=by
 refine callsIn_of_wp func10 rfl trivial ?_ rfl;simp only[ntmps10,List.size_toArray,List.length_cons,List.length_nil,Nat.reduceAdd,Nat.reduceSub,Array.replicate_succ,Array.replicate_zero,List.push_toArray,List.append_toArray,List.nil_append,List.cons_append];obtain⟨W1,hW1⟩:∃ W1,w.alloc (.cells #[.int .i64 (c.n:Int),.int .i64 (c.q:Int),.int .i64 c.g,.int .i64 c.m,.int .i64 c.t,.int .i64 c.s] 23)=W1:=⟨_,rfl⟩;have h1:af ⟨w,F⟩ ([aE w.heap.size (cQ c) 23]++[]) W1:=by rw[← hW1];exact eu (cQ c) _ (af.start h)
 have hcs:∀ (r:List aF) (w':World),af ⟨w,F⟩ (aE w.heap.size (cQ c) 23 :: r) w'->w'.cell? ⟨w.heap.size,0,none⟩=some (.int .i64 (c.n:Int))/\w'.cell? ⟨w.heap.size,1,none⟩=some (.int .i64 (c.q:Int))/\w'.cell? ⟨w.heap.size,2,none⟩=some (.int .i64 c.g)/\w'.cell? ⟨w.heap.size,3,none⟩=some (.int .i64 c.m)/\w'.cell? ⟨w.heap.size,4,none⟩=some (.int .i64 c.t)/\w'.cell? ⟨w.heap.size,5,none⟩=some (.int .i64 c.s):=λr w' hh=>⟨cell_of (aA hh) 0 _ rfl,cell_of (aA hh) 1 _ rfl,cell_of (aA hh) 2 _ rfl,cell_of (aA hh) 3 _ rfl,cell_of (aA hh) 4 _ rfl,cell_of (aA hh) 5 _ rfl⟩
 obtain⟨e0,e1,e2,e3,e4,e5⟩:=hcs _ _ h1
 gi_wp2
 refine⟨trivial,λh=>by simp[Fence.wide]at h,(callsIn_wide.2 (c.right W1)).mono ?_⟩;rintro e w2 ⟨rfl,B2⟩;have h2:=bH h1 B2;have Se:=bH h2 ((Below.refl _ w2).drew);clear e0 e1 e2 e3 e4 e5;have hcells:c.cells<=65536:=by have:=c.mM;unfold aU.cells;omega
 gi_wp2
 refine wpIn_wide.2 ?_
 go_region_held3 (λw'=>w'.cell? ⟨w.heap.size,0,none⟩=some (.int .i64 (c.n:Int))/\w'.cell? ⟨w.heap.size,1,none⟩=some (.int .i64 (c.q:Int))/\w'.cell? ⟨w.heap.size,2,none⟩=some (.int .i64 c.g)/\w'.cell? ⟨w.heap.size,3,none⟩=some (.int .i64 c.m)/\w'.cell? ⟨w.heap.size,4,none⟩=some (.int .i64 c.t)/\w'.cell? ⟨w.heap.size,5,none⟩=some (.int .i64 c.s)) ((first | exact hcs _ _ Se | exact hcs _ _ h3 | exact hcs _ _ h4 | exact hcs _ _ (bH h4 ((Below.refl _ _).alloc (Nat.le_refl _) _)) | fail)) ((first
  | (go_at_call 30;have hcon:=cells_ok c w2.drew;(with_reducible refine hcon.mono ?_);clear hcon;rintro e w3 ⟨rfl,B3⟩;have h3:=bH Se B3)
  | (go_at_call 29;obtain⟨F1,k1,back⟩:=cU (lp:=[]) h3;have hcon:=Gt hcells k1;(with_reducible refine hcon.mono ?_);clear hcon;rintro e w4 ⟨v,_,_,rfl,hh⟩;obtain⟨bm,rfl,Sf⟩:=DA hh;have h4':=back _ _ Sf;have h4:af ⟨w,F⟩ (aE w.heap.size (cQ c) 23 :: [aN bm ⟨List.replicate c.cells 0,0⟩]) w4:=bK h4';clear h4' back k1 hh Sf)))
 obtain⟨W5,Sg⟩:∃ W5,w4.alloc (.cells #[.int .i64 (c.n:Int),.int .i64 (c.q:Int),.int .i64 c.g,.int .i64 c.m,.int .i64 c.t,.int .i64 c.s,.pointer (some ⟨bm,0,none⟩),.slice none 0 0,.int .i64 0,.bool false] 73)=W5:=⟨_,rfl⟩;have h5:af ⟨w,F⟩ (aE w4.heap.size (cQ c++[.pointer (some ⟨bm,0,none⟩),.slice none 0 0,.int .i64 0,.bool false]) 73 :: aE w.heap.size (cQ c) 23 :: [aN bm ⟨List.replicate c.cells 0,0⟩]) W5:=by rw[← Sg];exact eu (cQ c++_) _ h4
 have h6:af ⟨w,F⟩ (bT 80 7 (.slice none 0 0) 0 (fh (rowAt (lI c) (λ_=>⟨0,.nilIface,.slice none 0 0⟩)) 0)::aE w4.heap.size (cQ c++[.pointer (some ⟨bm,0,none⟩),.slice none 0 0,.int .i64 0,.bool false]) 73 :: aE w.heap.size (cQ c) 23 :: aN bm ⟨List.replicate c.cells 0,0⟩::fp c (λ_=>⟨0,.nilIface,.slice none 0 0⟩) 0) W5:=h5.d8 (e := 80) (sz:=7);obtain⟨br,hbr⟩:∃ br,w4.heap.size=br:=⟨_,rfl⟩;obtain⟨bc,hbc⟩:∃ bc,w.heap.size=bc:=⟨_,rfl⟩;rw[Sg];rw[hbr,hbc]at h6;have hcs':∀ (r:List aF) (w':World),af ⟨w,F⟩ (aE bc (cQ c) 23 :: r) w'->w'.cell? ⟨bc,0,none⟩=some (.int .i64 (c.n:Int))/\w'.cell? ⟨bc,1,none⟩=some (.int .i64 (c.q:Int)):=λr w' hh=>⟨cell_of (aA hh) 0 _ rfl,cell_of (aA hh) 1 _ rfl⟩
 obtain⟨e0,_⟩:=hcs' _ _ (aH (r:=[_,_]) h6);rw[hbr,hbc];have hnb:=c.nb
 gi_wp2
 gi_loopw [18] (λq wr=>∃ (k:Nat) (es:Nat->dC) (a:Option Addr) (cc:Nat),q=.int .i64 (k:Int)/\k<=c.n/\zv (.slice a k cc)/\af ⟨w,F⟩ (bT 80 7 (.slice a k cc) k (fh (rowAt (lI c) es) k)::aE br (cQ c++[.pointer (some ⟨bm,0,none⟩),.slice a k cc,.int .i64 0,.bool false]) 73 :: aE bc (cQ c) 23 :: aN bm ⟨List.replicate c.cells 0,0⟩::fp c es k) wr) (λq _=>c.n-(intOf q).toNat)
 case atStart=>exact⟨0,_,none,0,rfl,Nat.zero_le _,.inl rfl,h6⟩
 case round =>
  obtain⟨k,es,a,cc,rfl,hk,ho0,hH⟩:=hrel
  by_cases hlt:k<c.n
  ·have tU:(k:Int)<(c.n:Int):=by omega
   obtain⟨g0,g1⟩:=hcs' _ _ (aH (r:=[_,_]) hH);obtain⟨F1,k1,back⟩:=cU (lp:=[]) hH
   gi_wp2
   refine⟨trivial,λh=>by simp[Fence.wide]at h,(Kr (m-1) c k1).mono ?_⟩;rintro e w6 ⟨d,kz,rfl,hd⟩;have h7:=back _ _ hd;have hbk:=aA (aH (r:=[_,_]) h7);have e7:w6.cell? ⟨br,7,none⟩=some (.slice a k cc):=cell_of hbk 7 _ rfl;obtain⟨W7,HZ⟩:∃ W7,w6.alloc (.cells #[.int .i64 0,.int .i64 0,.int .i64 0,.nilIface,.pointer (some ⟨d,0,none⟩),.bool false,.slice none 0 0] 80)=W7:=⟨_,rfl⟩;have OV:Below w6.heap.size w6 W7:=by rw[← HZ];exact(Below.refl _ w6).alloc (Nat.le_refl _) _
   have h8:af ⟨w,F⟩ (bT 80 7 (.slice a k cc) k (fh (rowAt (lI c) es) k)::aE br (cQ c++[.pointer (some ⟨bm,0,none⟩),.slice a k cc,.int .i64 0,.bool false]) 73 :: ib c d (kq c)::aE bc (cQ c) 23 :: aN bm ⟨List.replicate c.cells 0,0⟩::fp c es k) W7:=by
    refine bH (ax (cn (λf=>?_)) h7) OV;simp only[List.cons_append,List.nil_append,List.map_append,List.map_cons,List.map_nil,List.sum_append,List.sum_cons,List.sum_nil];omega
   obtain⟨io,zo,hi,N1,hz,hzz,hby⟩:=Nt;have hsrc:Src prog io.size 71 (.slice (some ⟨w6.heap.size,0,none⟩) 1 1) 1 (ownRow (gM c) ⟨d,.nilIface,.slice none 0 0⟩) W7:=by
    refine Src.ofSlice W7 underlying71 ⟨w6.heap.size,0,none⟩ 1 1 _ (by rw[N1];rfl) (λj y hj=>?_) (λy hy=>?_)
    ·rw[fC,Nat.zero_add,← HZ]
     exact cell_of (World.alloc_heap_new w6 _) j y (by simpa[ownRow,gM] using hj)
    ·simp only[ownRow,gM,List.mem_cons,List.not_mem_nil,or_false]at hy
     rcases hy with rfl | rfl | rfl | rfl | rfl | rfl | rfl<;>rfl
   have h8':af ⟨w,F⟩ (bT 80 io.size (.slice a k cc) k (fh (rowAt (lI c) es) k)::aE br (cQ c++[.pointer (some ⟨bm,0,none⟩),.slice a k cc,.int .i64 0,.bool false]) 73 :: ib c d (kq c)::aE bc (cQ c) 23 :: aN bm ⟨List.replicate c.cells 0,0⟩::fp c es k) W7:=by rw[N1];exact h8
   obtain⟨v',w8,q1,q2,q3⟩:=h8'.app0 (t := 71) (u := 71) (ty := 71) underlying71 hi hz hzz hsrc (by rw[hby];omega) (by omega) ho0;rw[N1,← KT c es hlt]at q2;obtain⟨a',cc',rfl⟩:∃ a' cc',v'=.slice a' (k+1) cc':=by
    rcases(aZ q2).2 with ⟨e,_⟩ | ⟨b2,off,c2,e,_⟩
    ·omega
    ·exact⟨_,_,e⟩
   have h9:=bK q2;have Sh:=aA h9;have f9:w8.frozen? ⟨br,7,none⟩=false:=cf Sh 7;have c9:w8.cell? ⟨br,7,none⟩=some (.slice a k cc):=cell_of Sh 7 _ rfl;have h10:=bQ 7 (.slice a' (k+1) cc') h9
   gi_wp2_with (gi_at_builtin;refine ce rfl _ _ _ rfl q1 ?_)
   refine⟨⟨k+1,jT es k ⟨d,.nilIface,.slice none 0 0⟩,a',cc',rfl,by omega,q3,?_⟩,by simp[intOf];omega⟩;rw[xe c _ hlt,Bm,eO];have h11:af ⟨w,F⟩ (ib c d (kq c)::(bT 80 7 (.slice a' (k+1) cc') (k+1) (fh (rowAt (lI c) (jT es k ⟨d,.nilIface,.slice none 0 0⟩)) (k+1))::aE br (cQ c++[.pointer (some ⟨bm,0,none⟩),.slice a' (k+1) cc',.int .i64 0,.bool false]) 73 :: aE bc (cQ c) 23 :: aN bm ⟨List.replicate c.cells 0,0⟩::fp c es k)) (w8.setCell ⟨br,7,none⟩ (.slice a' (k+1) cc')):=by
    refine ax (cn (λf=>?_)) h10;have e:List.set (cQ c++[Value.pointer (some ⟨bm,0,none⟩),.slice a k cc,.int .i64 0,.bool false]) 7 (.slice a' (k+1) cc')=cQ c++[.pointer (some ⟨bm,0,none⟩),.slice a' (k+1) cc',.int .i64 0,.bool false]:=rfl;rw[e];simp only[List.cons_append,List.nil_append,List.map_append,List.map_cons,List.map_nil,List.sum_append,List.sum_cons,List.sum_nil];omega
   have h12:=KU (p:=k) h11;refine ax (cn (λf=>?_)) h12;simp only[List.cons_append,List.nil_append,List.map_append,List.map_cons,List.map_nil,List.sum_append,List.sum_cons,List.sum_nil];omega
  ·obtain rfl:k=c.n:=by omega
   have tU:¬ ((c.n:Nat):Int)<(c.n:Int):=by omega
   obtain⟨bo,rfl⟩:∃ bo,a=some ⟨bo,0,none⟩:=by
    rcases(aZ hH).2 with ⟨e,_⟩ | ⟨b2,off,c2,e,_⟩
    ·omega
    ·rcases ho0 with h0 | ⟨b3,n3,c3,h0⟩
     ·rw[h0]at e;cases e
     ·cases h0;exact⟨_,rfl⟩
   gi_wp2
   refine bodyPost_ret (g9 rfl _) rfl ⟨⟨br,bm,bo,cc⟩,rfl,?_⟩;refine da (es:=es) (l:=[]) ?_;have h20:af ⟨w,F⟩ ([aE bc (cQ c) 23]++(bT 80 7 (.slice (some ⟨bo,0,none⟩) c.n cc) c.n (fh (rowAt (lI c) es) c.n)::aE br (cQ c++[.pointer (some ⟨bm,0,none⟩),.slice (some ⟨bo,0,none⟩) c.n cc,.int .i64 0,.bool false]) 73 :: aN bm ⟨List.replicate c.cells 0,0⟩::fp c es c.n)) wr:=by
    refine ax (cn (λf=>?_)) hH;simp only[List.cons_append,List.nil_append,List.map_append,List.map_cons,List.map_nil,List.sum_append,List.sum_cons,List.sum_nil];omega
   have e20:aB ⟨br,bm,bo,cc⟩ c (eJ c) es++[]=[aE br (cQ c++[.pointer (some ⟨bm,0,none⟩),.slice (some ⟨bo,0,none⟩) c.n cc,.int .i64 0,.bool false]) 73,aN bm ⟨List.replicate c.cells 0,0⟩,bT 80 7 (.slice (some ⟨bo,0,none⟩) c.n cc) c.n (fh (rowAt (lI c) es) c.n)]++fp c es c.n:=by
    rw[List.append_nil];rfl
   rw[e20];refine ax (cn (λf=>?_)) (aH h20);simp only[List.cons_append,List.nil_append,List.map_append,List.map_cons,List.map_nil,List.sum_append,List.sum_cons,List.sum_nil];omega
end Go.Proofs.YtkmccgombmogmaaGreat
namespace Go.Proofs.YtkmccgombmogmaaGreat
open Go.Ev Go.Proofs.Tryz
open Go.RowKit
def pick(n m:Int):Int:=((n.tmod m)+m).tmod m
theorem CF(n m:Int)(h:0<m):-m<n.tmod m:=by
 rcases Int.le_total 0 n with h0 | h0
 ·have:=Int.tmod_nonneg m h0
  omega
 ·have e:n.tmod m = -((-n).tmod m):=by rw[Int.neg_tmod,Int.neg_neg]
  have:=Int.tmod_lt_of_pos (-n) h;omega
theorem CG(n m:Int)(h:0<m):0<=pick n m/\pick n m<m:=by
 unfold pick;have h1:=Int.tmod_lt_of_pos (n.tmod m+m) h;have h2:-m<n.tmod m:=CF n m h;exact⟨Int.tmod_nonneg _ (by omega),h1⟩
set_option maxHeartbeats 400000 in
theorem Ih(n m:Int)(h:0<m)(hm:m<=1000000)(w:World) :
  Calls prog 14 #[.int .i64 n,.int .i64 m] w λe w'=>e=.returned (.int .i64 (pick n m))/\Below w.heap.size w w':=by
 have hne:m≠0:=by omega
 have h1:-m<n.tmod m:=CF n m h;have h2:n.tmod m<m:=Int.tmod_lt_of_pos n h;have hw:IntKind.i64.wrap (n.tmod m+m)=n.tmod m+m:=IntWalk.i64_in _ (by omega)
 go_enter func14,ntmps14
 go_wp2
 go_ret
 refine⟨?_,Below.refl _ _⟩;simp_all[pick];rw[Int.tmod_eq_emod_of_nonneg (a:=n.tmod m+m) (by omega),Int.add_emod_right]
end Go.Proofs.YtkmccgombmogmaaGreat
namespace Go.Proofs.YtkmccgombmogmaaGreat
open Go.Ev Go.Proofs.Tryz
open Go.RowKit
open Go.Ev (sy iz uz wz iN uN wN pz dv fc fn ak vk vd kn pc cc cr cm cd fr)
set_option maxRecDepth 8000
attribute [local irreducible] kA
theorem qw(i:Int)(n:Nat)(h:0<n)(hn:n<=1000000)(w:World):Calls prog 14 #[.int .i64 i,.int .i64 (n:Int)] w λe w'=>e=.returned (.int .i64 (((pick i (n:Int)).toNat:Nat):Int))/\Below w.heap.size w w':=by
 have hb:=CG i n (by omega);have e:(((pick i (n:Int)).toNat:Nat):Int)=pick i n:=by omega
 rw[e];exact Ih i n (by omega) (by omega) w
theorem aw(i:Int)(n:Nat)(h:0<n):(pick i (n:Int)).toNat<n:=by
 have:=CG i n (by omega);omega
def made(c:Cf):aU where
 n:=1+(pick c.n 4).toNat
 q:=2*2 ^ (pick c.q 3).toNat
 g:=((1+(pick c.g 20).toNat:Nat):Int)
 m:=((1+(pick c.n 4).toNat+1+(pick c.m 3).toNat:Nat):Int)
 t:=((2+(pick c.t 6).toNat:Nat):Int)
 s:=(((pick c.s 3).toNat:Nat):Int)
 h:=by
  have h1:=aw c.n 4 (by omega);have h2:=aw c.q 3 (by omega);have h3:=aw c.g 20 (by omega);have h4:=aw c.m 3 (by omega);have h5:=aw c.t 6 (by omega);have h6:=aw c.s 3 (by omega);replace h1:(pick c.n 4).toNat<4:=h1;replace h2:(pick c.q 3).toNat<3:=h2;replace h3:(pick c.g 20).toNat<20:=h3;replace h4:(pick c.m 3).toNat<3:=h4;replace h5:(pick c.t 6).toNat<6:=h5;replace h6:(pick c.s 3).toNat<3:=h6;have hq:(2*2 ^ (pick c.q 3).toNat:Nat)=2\/(2*2 ^ (pick c.q 3).toNat:Nat)=4\/(2*2 ^ (pick c.q 3).toNat:Nat)=8:=by
   generalize (pick c.q 3).toNat=k at *
   match k,h2 with
   | 0,_=>exact .inl rfl
   | 1,_=>exact .inr (.inl rfl)
   | 2,_=>exact .inr (.inr rfl)
  simp only[l8,wi,Bool.and_eq_true,Bool.or_eq_true,decide_eq_true_eq,beq_iff_eq];omega
theorem KW(c:Cf):(made c).q=2\/(made c).q=4\/(made c).q=8:=by
 have h2:=aw c.q 3 (by omega);replace h2:(pick c.q 3).toNat<3:=h2;show(2*2 ^ (pick c.q 3).toNat:Nat)=2\/(2*2 ^ (pick c.q 3).toNat:Nat)=4\/(2*2 ^ (pick c.q 3).toNat:Nat)=8;generalize (pick c.q 3).toNat=k at *
 match k,h2 with
 | 0,_=>exact .inl rfl
 | 1,_=>exact .inr (.inl rfl)
 | 2,_=>exact .inr (.inr rfl)
theorem KX{t:TypeId}{ox oy:Operand}{k:Nat}(h:k<3):(do eqGuard .shl t ox oy (.int .i64 2) (.int .i64 (k:Int));binOp .shl t (.int .i64 2) (.int .i64 (k:Int)):Sem Value)=pure (.int .i64 ((2*2 ^ k:Nat):Int)):=by
  rw[gE]
  match k,h with
  | 0,_=>rfl
  | 1,_=>rfl
  | 2,_=>rfl
theorem TY(W:World)(c:Cf):cw prog 9 [] 0 31 ⟨W,λ_=>False⟩ [(0,(.agg #[iz c.n,iz c.q,iz c.g,iz c.m,iz c.t,iz c.s]))] [] (λκ:am=>(.agg #[(iN (1+((pick c.n 4).toNat))),(iN (2*2 ^ (pick c.q 3).toNat)),(iN (1+((pick c.g 20).toNat))),(iN (((1+((pick c.n 4).toNat))+1)+((pick c.m 3).toNat))),(iN (2+((pick c.t 6).toNat))),(iN ((pick c.s 3).toNat))])) (λκ:am=>[]):=(eP (c:=⟨W,λ_=>False⟩) 4 (kn [iN ((pick c.q 3).toNat),iz (c.n),iz (c.q),iz (c.g),iz (c.m),iz (c.t),iz (c.s),iN (2*2 ^ (pick c.q 3).toNat),iN ((pick c.n 4).toNat),iN (1+((pick c.n 4).toNat)),iN ((pick c.g 20).toNat),iN (1+((pick c.g 20).toNat)),iN ((1+((pick c.n 4).toNat))+1),iN ((pick c.m 3).toNat),iN (((1+((pick c.n 4).toNat))+1)+((pick c.m 3).toNat)),iN ((pick c.t 6).toNat),iN (2+((pick c.t 6).toNat)),iN ((pick c.s 3).toNat)] fr [(.add,iz 1,sy 8,sy 9),(.shl,iz 2,sy 0,sy 7),(.add,iz 1,sy 10,sy 11),(.add,sy 9,iz 1,sy 12),(.add,sy 12,sy 13,sy 14),(.add,iz 2,sy 15,sy 16)] [] [] (fc (λ_ _ _=>aQ (by have h1:(pick c.n 4).toNat<4:=aw c.n 4 (by omega);have h2:(pick c.q 3).toNat<3:=aw c.q 3 (by omega);have h3:(pick c.g 20).toNat<20:=aw c.g 20 (by omega);have h4:(pick c.m 3).toNat<3:=aw c.m 3 (by omega);have h5:(pick c.t 6).toNat<6:=aw c.t 6 (by omega);have h6:(pick c.s 3).toNat<3:=aw c.s 3 (by omega);rw[bx (by omega) (by omega)];omega)) (fc (λ_ _ _=>KX (aw c.q 3 (by omega))) (fc (λ_ _ _=>aQ (by have h1:(pick c.n 4).toNat<4:=aw c.n 4 (by omega);have h2:(pick c.q 3).toNat<3:=aw c.q 3 (by omega);have h3:(pick c.g 20).toNat<20:=aw c.g 20 (by omega);have h4:(pick c.m 3).toNat<3:=aw c.m 3 (by omega);have h5:(pick c.t 6).toNat<6:=aw c.t 6 (by omega);have h6:(pick c.s 3).toNat<3:=aw c.s 3 (by omega);rw[bx (by omega) (by omega)];omega)) (fc (λ_ _ _=>aQ (by have h1:(pick c.n 4).toNat<4:=aw c.n 4 (by omega);have h2:(pick c.q 3).toNat<3:=aw c.q 3 (by omega);have h3:(pick c.g 20).toNat<20:=aw c.g 20 (by omega);have h4:(pick c.m 3).toNat<3:=aw c.m 3 (by omega);have h5:(pick c.t 6).toNat<6:=aw c.t 6 (by omega);have h6:(pick c.s 3).toNat<3:=aw c.s 3 (by omega);rw[bx (by omega) (by omega)];omega)) (fc (λ_ _ _=>aQ (by have h1:(pick c.n 4).toNat<4:=aw c.n 4 (by omega);have h2:(pick c.q 3).toNat<3:=aw c.q 3 (by omega);have h3:(pick c.g 20).toNat<20:=aw c.g 20 (by omega);have h4:(pick c.m 3).toNat<3:=aw c.m 3 (by omega);have h5:(pick c.t 6).toNat<6:=aw c.t 6 (by omega);have h6:(pick c.s 3).toNat<3:=aw c.s 3 (by omega);rw[bx (by omega) (by omega)];omega)) (fc (λ_ _ _=>aQ (by have h1:(pick c.n 4).toNat<4:=aw c.n 4 (by omega);have h2:(pick c.q 3).toNat<3:=aw c.q 3 (by omega);have h3:(pick c.g 20).toNat<20:=aw c.g 20 (by omega);have h4:(pick c.m 3).toNat<3:=aw c.m 3 (by omega);have h5:(pick c.t 6).toNat<6:=aw c.t 6 (by omega);have h6:(pick c.s 3).toNat<3:=aw c.s 3 (by omega);rw[bx (by omega) (by omega)];omega)) fn)))))) fn fn W (λ_=>False) [[]] [] [⟨14,[sy 1,iz 4],0,none,sy 8,none⟩,⟨14,[sy 2,iz 3],0,none,sy 0,none⟩,⟨14,[sy 3,iz 20],0,none,sy 10,none⟩,⟨14,[sy 4,iz 3],0,none,sy 13,none⟩,⟨14,[sy 5,iz 6],0,none,sy 15,none⟩,⟨14,[sy 6,iz 3],0,none,sy 17,none⟩]) fn (fc (by have h1:(pick c.n 4).toNat<4:=aw c.n 4 (by omega);have h2:(pick c.q 3).toNat<3:=aw c.q 3 (by omega);have h3:(pick c.g 20).toNat<20:=aw c.g 20 (by omega);have h4:(pick c.m 3).toNat<3:=aw c.m 3 (by omega);have h5:(pick c.t 6).toNat<6:=aw c.t 6 (by omega);have h6:(pick c.s 3).toNat<3:=aw c.s 3 (by omega);exact pc (args:=[iz c.n,iz 4]) rfl (λw hb=>qw (c.n) 4 (by omega) (by omega) w)) (fc (by have h1:(pick c.n 4).toNat<4:=aw c.n 4 (by omega);have h2:(pick c.q 3).toNat<3:=aw c.q 3 (by omega);have h3:(pick c.g 20).toNat<20:=aw c.g 20 (by omega);have h4:(pick c.m 3).toNat<3:=aw c.m 3 (by omega);have h5:(pick c.t 6).toNat<6:=aw c.t 6 (by omega);have h6:(pick c.s 3).toNat<3:=aw c.s 3 (by omega);exact pc (args:=[iz c.q,iz 3]) rfl (λw hb=>qw (c.q) 3 (by omega) (by omega) w)) (fc (by have h1:(pick c.n 4).toNat<4:=aw c.n 4 (by omega);have h2:(pick c.q 3).toNat<3:=aw c.q 3 (by omega);have h3:(pick c.g 20).toNat<20:=aw c.g 20 (by omega);have h4:(pick c.m 3).toNat<3:=aw c.m 3 (by omega);have h5:(pick c.t 6).toNat<6:=aw c.t 6 (by omega);have h6:(pick c.s 3).toNat<3:=aw c.s 3 (by omega);exact pc (args:=[iz c.g,iz 20]) rfl (λw hb=>qw (c.g) 20 (by omega) (by omega) w)) (fc (by have h1:(pick c.n 4).toNat<4:=aw c.n 4 (by omega);have h2:(pick c.q 3).toNat<3:=aw c.q 3 (by omega);have h3:(pick c.g 20).toNat<20:=aw c.g 20 (by omega);have h4:(pick c.m 3).toNat<3:=aw c.m 3 (by omega);have h5:(pick c.t 6).toNat<6:=aw c.t 6 (by omega);have h6:(pick c.s 3).toNat<3:=aw c.s 3 (by omega);exact pc (args:=[iz c.m,iz 3]) rfl (λw hb=>qw (c.m) 3 (by omega) (by omega) w)) (fc (by have h1:(pick c.n 4).toNat<4:=aw c.n 4 (by omega);have h2:(pick c.q 3).toNat<3:=aw c.q 3 (by omega);have h3:(pick c.g 20).toNat<20:=aw c.g 20 (by omega);have h4:(pick c.m 3).toNat<3:=aw c.m 3 (by omega);have h5:(pick c.t 6).toNat<6:=aw c.t 6 (by omega);have h6:(pick c.s 3).toNat<3:=aw c.s 3 (by omega);exact pc (args:=[iz c.t,iz 6]) rfl (λw hb=>qw (c.t) 6 (by omega) (by omega) w)) (fc (by have h1:(pick c.n 4).toNat<4:=aw c.n 4 (by omega);have h2:(pick c.q 3).toNat<3:=aw c.q 3 (by omega);have h3:(pick c.g 20).toNat<20:=aw c.g 20 (by omega);have h4:(pick c.m 3).toNat<3:=aw c.m 3 (by omega);have h5:(pick c.t 6).toNat<6:=aw c.t 6 (by omega);have h6:(pick c.s 3).toNat<3:=aw c.s 3 (by omega);exact pc (args:=[iz c.s,iz 3]) rfl (λw hb=>qw (c.s) 3 (by omega) (by omega) w)) fn)))))) rfl [] [] [] 0 rfl rfl [(0,.agg #[sy 1,sy 2,sy 3,sy 4,sy 5,sy 6])] (.agg #[sy 9,sy 7,sy 11,sy 14,sy 16,sy 17]))
theorem KY(c:Cf)(w:World):Calls prog 9 #[c.v] w λe w'=>e=.returned (made c).v/\Below w.heap.size w w' :=
 mL (by kernel_rfl) (kZ w) (by simp) (by simp) (λA hA=>TY w c A w _ hA (λκ w1 h1=>⟨rfl,h1.below (λ_ h=>h)⟩))
end Go.Proofs.YtkmccgombmogmaaGreat
namespace Go.Proofs.YtkmccgombmogmaaGreat
open Go.Ev Go.Proofs.Tryz
open Go.RowKit
set_option maxRecDepth 8000
theorem KZ:∃ i,prog.info? 4 = some i/\i.size=1/\i.zero=some (.bool false)/\i.bytes=1:=wF (by kernel_rfl)
def nums(n:Nat):List Int:=(List.range n).map (λi:Nat=>(i:Int))
def seen(l:List Int)(n k:Nat):List Value:=(List.range n).map (λi:Nat=>Value.bool (decide ((i:Int) ∈ l.take k)))
theorem Ii(l:List Int)(n k:Nat):(seen l n k).length=n:=by simp[seen]
theorem s7{l:List Int}{n k j:Nat}(h:j<n):(seen l n k)[j]? = some (.bool (decide ((j:Int) ∈ l.take k))):=by simp[seen,h]
theorem Ij{l:List Int}{n k j:Nat}(hk:k<l.length)(hj:l[k]=(j:Int))(hn:j<n):(seen l n k).set j (.bool true)=seen l n (k+1):=by
 apply List.ext_getElem?;intro i
 by_cases hi:i<n
 ·rw[s7 hi]
  have e:l.take (k+1)=l.take k++[(j:Int)]:=by rw[List.take_add_one,List.getElem?_eq_getElem hk,hj];rfl
  by_cases e2:j=i
  ·subst e2
   rw[List.getElem?_set_self (by rw[Ii];exact hn),e];simp
  ·rw[List.getElem?_set_ne e2,s7 hi,e]
   have:¬ (i:Int)=(j:Int):=by omega
   simp[this]
 ·rw[List.getElem?_eq_none (by simp[seen];omega),List.getElem?_eq_none (by simp[seen];omega)]
theorem Nv{ctx:dt}{l:List aF}{e:TypeId}{n:Nat}{v:Value}{xs:List Value}{w w':World}(h:af ctx l w)(ho:w'.ownsRow w.heap.size e 1 v n xs)(hb:Below w.heap.size w w'):af ctx (bT e 1 v n xs::l) w':=sG h ho hb
set_option maxHeartbeats 2000000 in
theorem K0(m:Nat){lv:Value}{l:List Int}{n:Nat}(hp:l.Perm (nums n))(hn:n<=100000){F:Nat->Prop}{w:World}(h:cL [bJ lv l] F w) :
  CallsIn Fence.wide m prog 20 #[lv,.int .i64 (n:Int)] w λe w'=>e=.returned (.bool true)/\af ⟨w,F⟩ [bJ lv l] w':=by
 refine callsIn_of_wp func20 rfl trivial ?_ rfl;simp only[ntmps20,List.size_toArray,List.length_cons,List.length_nil,Nat.reduceAdd,Nat.reduceSub,Array.replicate_succ,Array.replicate_zero,List.push_toArray,List.append_toArray,List.nil_append,List.cons_append];have hlen:l.length=n:=by rw[hp.length_eq];simp[nums]
 have hnd:l.Nodup:=hp.nodup_iff.2 (by
  unfold nums;rw[List.Nodup,List.pairwise_map]
  exact(List.nodup_range (n:=n)).imp (λhab e=>hab (by omega)))
 have hbd:∀ k (hk:k<l.length),∃ j:Nat,l[k]=(j:Int)/\j<n:=λk hk=>by
  have hm:l[k] ∈ nums n:=hp.mem_iff.1 (List.getElem_mem hk);unfold nums at hm;obtain⟨i,hi,ei⟩:=List.mem_map.1 hm;exact⟨i,ei.symm,List.mem_range.1 hi⟩
 have hst:=af.start h;obtain⟨a0,c0,rfl⟩:=cS (aZ hst);obtain⟨i0,hi,hz1,hz0,hz2⟩:=KZ;obtain⟨w1,r1,r2,r3⟩:=run_make_full (P:=prog) w w.heap.size 99 4 i0 (.bool false) 1 underlying99 hi hz0 hz1 .i64 .i64 n (by rw[hz2];omega) (by unfold maxLen;omega) (Nat.le_refl _);have hB1:Below w.heap.size w w1:=jL r3;have hrow:(madeCells (Value.bool false).cells (n*1)).toList=seen l n 0:=by
  rw[Nat.mul_one];show(madeCells #[Value.bool false] n).toList=_;rw[toList_madeCells_one];apply List.ext_getElem
  ·simp[seen]
  ·intro i h1 h2
   simp[seen]
 rw[hrow]at r2;have h1:=Nv hst r2 hB1;have tU:(l.length:Int)=(n:Int):=by omega
 have A:Aside ((∀ k (hk:k<l.length),∃ j:Nat,l[k]=(j:Int)/\j<n)/\l.Nodup):=⟨hbd,hnd⟩;clear hbd hnd hp;obtain⟨L,hL⟩:∃ L,l.length=L:=⟨_,rfl⟩;rw[hL]at tU hlen ⊢;have hst':iM 1 (.slice a0 L c0) L (aX l) w:=by rw[← hL];exact aZ hst
 gi_wp2
 gi_loopw [6] (λq wr=>∃ k:Nat,q=.int .i64 (k:Int)/\k<=L/\af ⟨w,F⟩ [bT 4 1 (.slice (some ⟨w.heap.size,0,none⟩) n n) n (seen l n k),bJ (.slice a0 L c0) l] wr) (λq _=>L-(intOf q).toNat)
 case atStart=>exact⟨0,rfl,Nat.zero_le _,by rw[← hL];exact h1⟩
 case round =>
  obtain⟨k,rfl,hk,hH⟩:=hrel
  by_cases hlt:k<L
  ·have Nw:(k:Int)<(L:Int):=by omega
   have hkl:k<l.length:=by omega
   obtain⟨j,hj,hjn⟩:=A.out.1 k hkl;have hs:iM 1 (.slice a0 l.length c0) l.length (aX l) wr:=by rw[hL];have:=aZ (bK hH);rwa [hL]at this
   obtain⟨b1,o1,rfl,g1⟩:=sE hs hkl;have NK:l.getD k 0=(j:Int):=by rw[List.getD_eq_getElem?_getD,List.getElem?_eq_getElem hkl];exact hj
   rw[NK]at g1;have Ut:(j:Int)<(n:Int):=by omega
   have hj0:¬ (j:Int)<0:=by omega
   have T0:¬ (j:Int)≥(n:Int):=by omega
   have hnm:¬ (j:Int) ∈ l.take k:=by
    rw[← hj];intro hm;obtain⟨i,hi,e⟩:=List.getElem_of_mem hm;rw[List.length_take]at hi;rw[List.getElem_take]at e;have hik:i<l.length:=by omega
    have:=(List.getElem?_inj (i:=i) (j:=k) hik A.out.2).1 (by rw[List.getElem?_eq_getElem hik,List.getElem?_eq_getElem hkl,e]);omega
   have c1:wr.cell? ⟨w.heap.size,j,none⟩=some (.bool false):=by
    rcases(aZ hH).2 with ⟨e,_⟩ | ⟨b2,off,c2,e,_,hc⟩
    ·omega
    ·cases e
     have:=hc j (by omega);rw[Nat.zero_add]at this;rw[this,s7 hjn,decide_eq_false hnm]
   have f1:wr.frozen? ⟨w.heap.size,j,none⟩=false:=by
    obtain⟨f,hf⟩:=hH.first
    obtain⟨_,⟨_,h0,_⟩ | ⟨b',off,c',arr,e,_,hb,_⟩⟩:=hf
    ·omega
    ·cases e
     exact cf hb j
   have h2:=uM (i:=j) (.bool true) (by omega) hH;rw[Nat.zero_add,Ij hkl hj hjn]at h2
   gi_wp2
   exact⟨⟨k+1,rfl,by omega,h2⟩,by simp[intOf];omega⟩
  ·obtain rfl:k=L:=by omega
   have hfin:af ⟨w,F⟩ [bJ (.slice a0 k c0) l] wr:=hH.sel [1];have Nw:¬ ((k:Nat):Int)<(k:Int):=by omega
   subst hlen
   gi_wp2
   exact bodyPost_ret (results_tmp rfl _ _ _) rfl ⟨rfl,hfin⟩
section
variable{ctx:dt}{w:World}{r:List aF}{b:RB}{c:aU}{x:aI}{p:Nat}{o:ct}{B:Int}{M:bV}
theorem s9(h:af ctx (cj b c x::r) w):∃ es,af ctx (r++aB b c x es) w:=by
 obtain⟨es,h1⟩:=pZ h;exact⟨es,ax List.perm_append_comm h1⟩
theorem Bn{es:Nat->dC}(h:af ctx (r++aB b c x es) w):af ctx (cj b c x::r) w:=da (ax List.perm_append_comm h)
theorem L7(n:Nat)(hp:p<c.n)(ho:x.ow[p]? = some o)(h:af ctx (cj b c x::r) w) :
  CallsIn Fence.wide n prog 12 #[.pointer (some ⟨b.br,0,none⟩),.int .i64 (p:Int)] w λe w'=>e=.returned (.bool o.dE.isSome)/\w'=w:=by
 obtain⟨es,h1⟩:=s9 h;obtain⟨F,k1,_⟩:=gR hp ho h1;exact wV n (cT h1) hp (cH hp ho h1 rfl) (wX (af.start k1))
theorem Nx(n:Nat)(hlen:x.ow.length=c.n)(ho:x.ow[p]? = some o)(kd cv cg:Int)(h:af ctx (cj b c x::r) w) :
  CallsIn Fence.wide n prog 11 #[.pointer (some ⟨b.br,0,none⟩),.int .i64 (p:Int),.agg #[.int .i64 kd,.int .i64 cv,.int .i64 cg]] w λe w'=>e=.returned (.int .i64 (dH c p o kd cv cg))/\af ctx (cj b c (cY c x p o kd cv cg)::r) w':=by
 obtain⟨F,k1,back⟩:=cU [cj b c x] h;exact(Ie n hlen ho kd cv cg k1).mono (λe w' ⟨e1,hh⟩=>⟨e1,back _ _ hh⟩)
theorem jg(n:Nat)(hI:en c B x)(hB:B+8<=1073741824)(ho:x.ow[p]? = some o)(hM:o.dE=some M)(h:af ctx (cj b c x::r) w) :
  CallsIn Fence.wide n prog 13 #[.pointer (some ⟨b.br,0,none⟩),.int .i64 (p:Int)] w λe w'=>∃ a k,e=.returned (.tuple #[.agg #[.int .i64 (nR.k (cK c x p o M).2),.int .i64 (nR.g (cK c x p o M).2),.slice a (nR.l (cK c x p o M).2).length k],.bool (cK c x p o M).2.isSome])/\af ctx (bJ (.slice a (nR.l (cK c x p o M).2).length k) (nR.l (cK c x p o M).2)::cj b c (cK c x p o M).1::r) w':=by
 obtain⟨F,k1,back⟩:=cU [cj b c x] h;refine(KN n hI hB ho hM k1).mono ?_;rintro e w' ⟨v,lv,rfl,hh⟩;obtain⟨a,k,rfl⟩:=cS (aZ hh);exact⟨a,k,rfl,back _ _ hh⟩
theorem Pe(n:Nat)(hp:p<c.n)(ho:x.ow[p]? = some o)(hM:o.dE=none)(h:af ctx (cj b c x::r) w) :
  CallsIn Fence.wide n prog 13 #[.pointer (some ⟨b.br,0,none⟩),.int .i64 (p:Int)] w λe w'=>e=.returned (.tuple #[.agg #[.int .i64 0,.int .i64 0,.slice none 0 0],.bool false])/\af ctx (cj b c x::r) w':=by
 refine callsIn_of_wp func13 rfl trivial ?_ rfl;simp only[ntmps13,List.size_toArray,List.length_cons,List.length_nil,Nat.reduceAdd,Nat.reduceSub,Array.replicate_succ,Array.replicate_zero,List.push_toArray,List.append_toArray,List.nil_append,List.cons_append];obtain⟨W1,hW1⟩:∃ W1,w.alloc (.cells #[.int .i64 0,.int .i64 0,.slice none 0 0] 37)=W1:=⟨_,rfl⟩;have h1:af ctx (aE w.heap.size [.int .i64 0,.int .i64 0,.slice none 0 0] 37 :: cj b c x::r) W1:=by rw[← hW1];exact eu _ _ h
 have hb:=L7 (n-1) hp ho (bK h1);rw[hM]at hb;have bt:=aA h1;have t0:W1.cell? ⟨w.heap.size,0,none⟩=some (.int .i64 0):=cell_of bt 0 _ rfl;have t1:W1.cell? ⟨w.heap.size,1,none⟩=some (.int .i64 0):=cell_of bt 1 _ rfl;have t2:W1.cell? ⟨w.heap.size,2,none⟩=some (.slice none 0 0):=cell_of bt 2 _ rfl;have f0:W1.frozen? ⟨w.heap.size,0,none⟩=false:=cf bt 0;have f1:W1.frozen? ⟨w.heap.size,1,none⟩=false:=cf bt 1;have f2:W1.frozen? ⟨w.heap.size,2,none⟩=false:=cf bt 2;have h9:=bQ 2 (.slice none 0 0) (bQ 1 (.int .i64 0) (bQ 0 (.int .i64 0) h1))
 gi_wp2
 refine⟨trivial,λh=>by simp[Fence.wide]at h,hb.mono ?_⟩;rintro e w' ⟨rfl,hw'⟩;replace hw':=hw'.symm;subst hw'
 gi_wp2
 exact nV rfl rfl rfl (wZ _ _ _ _ _ (aA h9)) ⟨rfl,aH (r:=[_]) h9⟩
theorem Pf(n:Nat)(hx:x.bad=false)(h:af ctx (cj b c x::r) w) :
  CallsIn Fence.wide n prog 16 #[.pointer (some ⟨b.br,0,none⟩)] w λe w'=>e=.returned (.bool true)/\w'=w:=by
 refine callsIn_of_wp func16 rfl trivial ?_ rfl;simp only[ntmps16,List.size_toArray,List.length_cons,List.length_nil,Nat.reduceAdd,Nat.reduceSub,Array.replicate_succ,Array.replicate_zero,List.push_toArray,List.append_toArray,List.nil_append,List.cons_append];obtain⟨es,h1⟩:=s9 h;have e9:w.cell? ⟨b.br,9,none⟩=some (.bool false):=cell_of (cT h1) 9 _ (by rw[← hx];rfl)
 gi_wp2
 exact bodyPost_ret (results_tmp rfl _ _ _) rfl ⟨rfl,rfl⟩
theorem Pg(n:Nat)(hp:p<c.n)(hm:bY c x.m)(h:af ctx (cj b c x::r) w) :
  CallsIn Fence.wide n prog 15 #[.pointer (some ⟨b.br,0,none⟩),.int .i64 (p:Int)] w λe w'=>∃ a k,e=.returned (.slice a (iD c x.m p).length k)/\af ctx (bJ (.slice a (iD c x.m p).length k) (iD c x.m p)::cj b c x::r) w':=by
 obtain⟨es,h1⟩:=s9 h;refine(zu n hp hm h1).mono ?_;rintro e w' ⟨a,k,rfl,hh⟩;exact⟨a,k,rfl,bK (Bn (r:=bJ _ _::r) hh)⟩
theorem Ny(n:Nat)(hq:c.q<=8)(hp:p<c.n)(ho:x.ow[p]? = some o)(hd:eU c o.dq)(h:af ctx (cj b c x::r) w) :
  CallsIn Fence.wide n prog 18 #[.pointer (some ⟨b.br,0,none⟩),.int .i64 (p:Int)] w λe w'=>∃ a k,e=.returned (.slice a (bj c o.dq).length k)/\af ctx (bJ (.slice a (bj c o.dq).length k) (bj c o.dq)::cj b c x::r) w':=by
 obtain⟨es,h1⟩:=s9 h;refine(uY n hq hp ho hd h1).mono ?_;rintro e w' ⟨a,k,rfl,hh⟩;exact⟨a,k,rfl,bK (Bn (r:=bJ _ _::r) hh)⟩
theorem Nz(n:Nat)(hp:p<c.n)(ho:x.ow[p]? = some o)(hm:bY c x.m)(hM:∀ M,o.dE=some M->iE c p M)(h:af ctx (cj b c x::r) w) :
  CallsIn Fence.wide n prog 19 #[.pointer (some ⟨b.br,0,none⟩),.int .i64 (p:Int)] w λe w'=>∃ a k,e=.returned (.slice a (eI o).length k)/\af ctx (bJ (.slice a (eI o).length k) (eI o)::cj b c x::r) w':=by
 obtain⟨es,h1⟩:=s9 h;refine(D6 n hp ho hm hM h1).mono ?_;rintro e w' ⟨a,k,rfl,hh⟩;exact⟨a,k,rfl,bK (Bn (r:=bJ _ _::r) hh)⟩
theorem anew(n:Nat)(c:aU)(h:af ctx r w) :
  CallsIn Fence.wide n prog 10 #[c.v] w λe w'=>∃ b:RB,e=.returned (.tuple #[.pointer (some ⟨b.br,0,none⟩),.int .i64 0])/\af ctx (cj b c (eJ c)::r) w':=by
 obtain⟨F,k1,back⟩:=cU (lp:=[]) (rest:=r) h;refine(Nu n c k1).mono ?_;rintro e w' ⟨b,rfl,hh⟩;exact⟨b,rfl,back _ _ hh⟩
theorem Ph(n:Nat){u v:Value}{xs:List Int}(hx:xs.length<=1000000)(h:af ctx (bJ u xs::bJ v xs::r) w) :
  CallsIn Fence.wide n prog 17 #[u,v] w λe w'=>e=.returned (.bool true)/\af ctx (bJ u xs::bJ v xs::r) w':=by
 obtain⟨F,k1,back⟩:=cU [bJ u xs,bJ v xs] h;exact(callsIn_wide.2 (DC (dm h) (dm (bK h)) hx k1)).mono (λe w' ⟨e1,hh⟩=>⟨e1,back _ _ hh⟩)
theorem Pj{t:TypeId}{u y:Value}{xs ys:List Int}(ht:t = 35)(hn:xs.length+ys.length<=1000000)(h:af ctx (bJ u xs::bJ y ys::r) w) :
  ∃ a k w',(Builtin.append_ #[t,t] t #[u,y]).run prog w=.ok (.slice a (xs++ys).length k) w'/\af ctx (bJ (.slice a (xs++ys).length k) (xs++ys)::bJ y ys::r) w':=by
 subst ht;obtain⟨i,hi,hz,h0,hby⟩:=b_;have hs:=aZ (bK h);obtain⟨F',m1,m2,m3⟩:=h.ex;obtain⟨Fa,Fl,k1,k2,k3,k4⟩:=bI m1;have k1':dT 3 i.size u xs.length (aX xs) Fa w:=by rw[hz];exact k1
 have hsrc:Src prog i.size 35 y ys.length (aX ys) w:=by rw[hz];exact hs.src underlying35 (hJ ys)
 obtain⟨v',w',G,r1,r2,r3,r4⟩:=dT.append (ty := 35) k1' underlying35 hi h0 (by rw[hz];rfl) hsrc (by rw[hby];omega) (by omega);have MD:∀ j,Fl j->w'.heap[j]? = w.heap[j]?:=λj hj=>r3.block j (k2.lt j hj) (λhf=>k3 j hf hj)
 have q1:=fg k2 MD r3.size;have q0:(bJ v' (xs++ys)).p (λ_=>none) G w':=by
  show dT 3 1 v' (xs++ys).length (aX (xs++ys)) G w';rw[hz]at r2;rw[List.length_append,show aX (xs++ys)=aX xs++aX ys by simp[aX]];exact r2
 have q2:=bW (a:=bJ v' (xs++ys)) (Fa:=G) q0 q1 (λj hj=>(r4 j hj).1) (λj hj hl=>by
  rcases(r4 j hj).2 with h | h
  ·exact k3 j h hl
  ·have:=k2.lt j hl
   omega)
 have hfin:af ctx (bJ v' (xs++ys)::bJ y ys::r) w':=by
  refine⟨_,q2,⟨r3.os.trans m2.os,r3.tape.trans m2.tape,r3.output.trans m2.output,Nat.le_trans m2.size r3.size,λj hj hx=>?_⟩,λj hj=>?_⟩
  ·refine(r3.block j (Nat.lt_of_lt_of_le hj m2.size) (λhf=>?_)).trans (m2.block j hj hx)
   rcases m3 j ((k4 j).2 (.inl hf)) with h | h
   ·exact hx h
   ·omega
  ·rcases hj with hj | hj
   ·rcases(r4 j hj).2 with h | h
    ·exact m3 j ((k4 j).2 (.inl h))
    ·exact .inr (Nat.le_trans m2.size h)
   ·exact m3 j ((k4 j).2 (.inr hj))
 obtain⟨a,k,rfl⟩:=cS (aZ hfin);exact⟨a,k,w',r1,hfin⟩
end
end Go.Proofs.YtkmccgombmogmaaGreat
namespace Go.Proofs.YtkmccgombmogmaaGreat
open Go.Ev Go.Proofs.Tryz
open Go.RowKit
theorem Bo:dS prog (λB=>Ev.isTrue (@Ev.eF dD B (@Ev.tO dD B 200) 8 [] Ev.s0))=true:=by kernel_rfl
theorem D_(w:World):Calls prog 8 #[] w λe w'=>e=.returned (.bool true)/\Below w.heap.size w w' :=
 @Ev.Dd dD _ Tryz.codeOk (@Ev.Oe dD _) dO 200 _ #[] _ Bo Mw w
end Go.Proofs.YtkmccgombmogmaaGreat
