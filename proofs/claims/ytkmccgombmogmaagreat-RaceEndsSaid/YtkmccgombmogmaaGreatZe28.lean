/- Part of a proof: see the last text. -/
import Derived.Test.YtkmccgombmogmaaGreatZe27
import Derived.Test.YtkmccgombmogmaaGreatRows
import Derived.WalkKit
import Derived.ProofKit
import Derived.Test.YtkmccgombmogmaaGreatZe10
import Derived.OpenShut
import Derived.Carry
import Derived.Deep.Fields
import Derived.Test.YtkmccgombmogmaaGreatZe8
import Derived.Deep.Slices
import Derived.ChangeSame
import Derived.Test.YtkmccgombmogmaaGreatZe24
set_option linter.unusedSimpArgs false
set_option linter.unusedVariables false
namespace Go.Proofs.YtkmccgombmogmaaGreat
open Go.Ev Go.Proofs.Tryz
open Go.RowKit
set_option maxRecDepth 8000
theorem Mj:∃ i z,prog.info? 80 = some i/\i.size=7/\i.zero=some z/\z.cells.size=i.size/\i.bytes=80:=vB (z:=.agg #[.int .i64 0,.int .i64 0,.int .i64 0,.nilIface,.pointer none,.bool false,.slice none 0 0]) (by kernel_rfl) (by kernel_rfl)
def lj(c:aP):List bX:=List.replicate c.n (gD c)
theorem ux(c:aP){q:Nat}(h:q<c.n):(lj c)[q]? = some (gD c):=by simp[lj,h]
def fa(c:aP)(es:Nat->dm)(k:Nat):List aG:=(List.range k).map (Du c (lj c) es)
theorem wx(c:aP)(es:Nat->dm){k:Nat}(hk:k<c.n):fa c es (k+1)=fa c es k++[AJ c k (gD c) (es k)]:=by
 unfold fa;rw[List.range_succ,List.map_append]
 congr 1
 simp[Du,ux c hk]
theorem AP(c:aP)(es:Nat->dm)(k:Nat)(e:dm):fa c (jF es k e) k=fa c es k:=by
 unfold fa;apply List.map_congr_left;intro q hq;rw[List.mem_range]at hq;unfold Du;rw[qA (by omega)]
theorem JT(c:aP)(es:Nat->dm){k:Nat}(hk:k<c.n)(e:dm):eS (rowAt (lj c) (jF es k e)) (k+1)=eS (rowAt (lj c) es) k++ownRow (gD c) e:=by
 rw[kV]
 congr 1
 ·apply lY
  intro q hq;unfold rowAt;rw[qA (by omega)]
 ·unfold rowAt
  rw[ux c hk,ez]
theorem JU{ctx:dc}{w:World}{l:List aG}{c:aP}{p d:Nat}(h:af ctx (hZ c d (jX c)::l) w):af ctx (AJ c p (gD c) ⟨d,.nilIface,.slice none 0 0⟩::l) w:=by
 have h1:af ctx (cf (.slice none 0 0) []::hZ c d (jX c)::l) w:=h.eC (e := 3) (sz:=1);obtain⟨F',m1,m2,m3⟩:=h1.ex;have q:=bP (a:=ft c p .nilIface none) (Fa:=λ_=>False) ⟨(),rfl,λj hj=>hj⟩ m1 (λj hj=>hj.elim) (λj hj=>hj.elim);have h2:af ctx (ft c p .nilIface none::cf (.slice none 0 0) []::hZ c d (jX c)::l) w:=⟨F',cF q (λj=>⟨λh=>h.elim False.elim id,.inr⟩),m2,m3⟩;refine af.shut ?_;exact ay (bV (λf=>by simp only[gD,List.cons_append,List.nil_append,List.map_append,List.map_cons,List.map_nil,List.sum_append,List.sum_cons,List.sum_nil];omega)) h2
def cW(c:aP):List Value:=[.int .i64 (c.n:Int),.int .i64 (c.q:Int),.int .i64 c.g,.int .i64 c.m,.int .i64 c.t,.int .i64 c.s]
set_option maxHeartbeats 4000000 in
theorem Ml(m:Nat)(c:aP){F:Nat->Prop}{w:World}(h:cG [] F w) :
  CallsIn Fence.wide m prog 10 #[c.v] w λe w'=>∃ b:RB,e=.returned (.tuple #[.pointer (some ⟨b.br,0,none⟩),.int .i64 0])/\af ⟨w,F⟩ [cC b c (eD c)] w':=by
 refine callsIn_of_wp func10 rfl trivial ?_ rfl;simp only[ntmps10,List.size_toArray,List.length_cons,List.length_nil,Nat.reduceAdd,Nat.reduceSub,Array.replicate_succ,Array.replicate_zero,List.push_toArray,List.append_toArray,List.nil_append,List.cons_append];obtain⟨W1,hW1⟩:∃ W1,w.alloc (.cells #[.int .i64 (c.n:Int),.int .i64 (c.q:Int),.int .i64 c.g,.int .i64 c.m,.int .i64 c.t,.int .i64 c.s] 23)=W1:=⟨_,rfl⟩;have h1:af ⟨w,F⟩ ([aH w.heap.size (cW c) 23]++[]) W1:=by rw[← hW1];exact eT (cW c) _ (af.start h)
 have hcs:∀ (r:List aG) (w':World),af ⟨w,F⟩ (aH w.heap.size (cW c) 23 :: r) w'->w'.cell? ⟨w.heap.size,0,none⟩=some (.int .i64 (c.n:Int))/\w'.cell? ⟨w.heap.size,1,none⟩=some (.int .i64 (c.q:Int))/\w'.cell? ⟨w.heap.size,2,none⟩=some (.int .i64 c.g)/\w'.cell? ⟨w.heap.size,3,none⟩=some (.int .i64 c.m)/\w'.cell? ⟨w.heap.size,4,none⟩=some (.int .i64 c.t)/\w'.cell? ⟨w.heap.size,5,none⟩=some (.int .i64 c.s):=λr w' hh=>⟨cell_of (ax hh) 0 _ rfl,cell_of (ax hh) 1 _ rfl,cell_of (ax hh) 2 _ rfl,cell_of (ax hh) 3 _ rfl,cell_of (ax hh) 4 _ rfl,cell_of (ax hh) 5 _ rfl⟩
 obtain⟨e0,e1,e2,e3,e4,e5⟩:=hcs _ _ h1
 gi_wp2
 refine⟨trivial,λh=>by simp[Fence.wide]at h,(callsIn_wide.2 (c.right W1)).mono ?_⟩;rintro e w2 ⟨rfl,B2⟩;have h2:=bA h1 B2;have QU:=bA h2 ((Below.refl _ w2).drew);clear e0 e1 e2 e3 e4 e5;have hcells:c.cells<=65536:=by have:=c.mg;unfold aP.cells;omega
 gi_wp2
 refine wpIn_wide.2 ?_
 go_region_held3 (λw'=>w'.cell? ⟨w.heap.size,0,none⟩=some (.int .i64 (c.n:Int))/\w'.cell? ⟨w.heap.size,1,none⟩=some (.int .i64 (c.q:Int))/\w'.cell? ⟨w.heap.size,2,none⟩=some (.int .i64 c.g)/\w'.cell? ⟨w.heap.size,3,none⟩=some (.int .i64 c.m)/\w'.cell? ⟨w.heap.size,4,none⟩=some (.int .i64 c.t)/\w'.cell? ⟨w.heap.size,5,none⟩=some (.int .i64 c.s)) ((first | exact hcs _ _ QU | exact hcs _ _ h3 | exact hcs _ _ h4 | exact hcs _ _ (bA h4 ((Below.refl _ _).alloc (Nat.le_refl _) _)) | fail)) ((first
  | (go_at_call 30;have hcon:=cells_ok c w2.drew;(with_reducible refine hcon.mono ?_);clear hcon;rintro e w3 ⟨rfl,B3⟩;have h3:=bA QU B3)
  | (go_at_call 29;obtain⟨F1,k1,back⟩:=cQ (lp:=[]) h3;have hcon:=FT hcells k1;(with_reducible refine hcon.mono ?_);clear hcon;rintro e w4 ⟨v,_,_,rfl,hh⟩;obtain⟨bm,rfl,QV⟩:=C7 hh;have h4':=back _ _ QV;have h4:af ⟨w,F⟩ (aH w.heap.size (cW c) 23 :: [aK bm ⟨List.replicate c.cells 0,0⟩]) w4:=bU h4';clear h4' back k1 hh QV)))
 obtain⟨W5,QW⟩:∃ W5,w4.alloc (.cells #[.int .i64 (c.n:Int),.int .i64 (c.q:Int),.int .i64 c.g,.int .i64 c.m,.int .i64 c.t,.int .i64 c.s,.pointer (some ⟨bm,0,none⟩),.slice none 0 0,.int .i64 0,.bool false] 73)=W5:=⟨_,rfl⟩;have h5:af ⟨w,F⟩ (aH w4.heap.size (cW c++[.pointer (some ⟨bm,0,none⟩),.slice none 0 0,.int .i64 0,.bool false]) 73 :: aH w.heap.size (cW c) 23 :: [aK bm ⟨List.replicate c.cells 0,0⟩]) W5:=by rw[← QW];exact eT (cW c++_) _ h4
 have h6:af ⟨w,F⟩ (bQ 80 7 (.slice none 0 0) 0 (eS (rowAt (lj c) (λ_=>⟨0,.nilIface,.slice none 0 0⟩)) 0)::aH w4.heap.size (cW c++[.pointer (some ⟨bm,0,none⟩),.slice none 0 0,.int .i64 0,.bool false]) 73 :: aH w.heap.size (cW c) 23 :: aK bm ⟨List.replicate c.cells 0,0⟩::fa c (λ_=>⟨0,.nilIface,.slice none 0 0⟩) 0) W5:=h5.eC (e := 80) (sz:=7);obtain⟨br,hbr⟩:∃ br,w4.heap.size=br:=⟨_,rfl⟩;obtain⟨bc,hbc⟩:∃ bc,w.heap.size=bc:=⟨_,rfl⟩;rw[QW];rw[hbr,hbc]at h6;have hcs':∀ (r:List aG) (w':World),af ⟨w,F⟩ (aH bc (cW c) 23 :: r) w'->w'.cell? ⟨bc,0,none⟩=some (.int .i64 (c.n:Int))/\w'.cell? ⟨bc,1,none⟩=some (.int .i64 (c.q:Int)):=λr w' hh=>⟨cell_of (ax hh) 0 _ rfl,cell_of (ax hh) 1 _ rfl⟩
 obtain⟨e0,_⟩:=hcs' _ _ (aI (r:=[_,_]) h6);rw[hbr,hbc];have hnb:=c.nb
 gi_wp2
 gi_loopw [18] (λq wr=>∃ (k:Nat) (es:Nat->dm) (a:Option Addr) (cc:Nat),q=.int .i64 (k:Int)/\k<=c.n/\y8 (.slice a k cc)/\af ⟨w,F⟩ (bQ 80 7 (.slice a k cc) k (eS (rowAt (lj c) es) k)::aH br (cW c++[.pointer (some ⟨bm,0,none⟩),.slice a k cc,.int .i64 0,.bool false]) 73 :: aH bc (cW c) 23 :: aK bm ⟨List.replicate c.cells 0,0⟩::fa c es k) wr) (λq _=>c.n-(intOf q).toNat)
 case atStart=>exact⟨0,_,none,0,rfl,Nat.zero_le _,.inl rfl,h6⟩
 case round =>
  obtain⟨k,es,a,cc,rfl,hk,ho0,hH⟩:=hrel
  by_cases hlt:k<c.n
  ·have v5:(k:Int)<(c.n:Int):=by omega
   obtain⟨g0,g1⟩:=hcs' _ _ (aI (r:=[_,_]) hH);obtain⟨F1,k1,back⟩:=cQ (lp:=[]) hH
   gi_wp2
   refine⟨trivial,λh=>by simp[Fence.wide]at h,(Jr (m-1) c k1).mono ?_⟩;rintro e w6 ⟨d,kz,rfl,hd⟩;have h7:=back _ _ hd;have hbk:=ax (aI (r:=[_,_]) h7);have e7:w6.cell? ⟨br,7,none⟩=some (.slice a k cc):=cell_of hbk 7 _ rfl;obtain⟨W7,JF⟩:∃ W7,w6.alloc (.cells #[.int .i64 0,.int .i64 0,.int .i64 0,.nilIface,.pointer (some ⟨d,0,none⟩),.bool false,.slice none 0 0] 80)=W7:=⟨_,rfl⟩;have NP:Below w6.heap.size w6 W7:=by rw[← JF];exact(Below.refl _ w6).alloc (Nat.le_refl _) _
   have h8:af ⟨w,F⟩ (bQ 80 7 (.slice a k cc) k (eS (rowAt (lj c) es) k)::aH br (cW c++[.pointer (some ⟨bm,0,none⟩),.slice a k cc,.int .i64 0,.bool false]) 73 :: hZ c d (jX c)::aH bc (cW c) 23 :: aK bm ⟨List.replicate c.cells 0,0⟩::fa c es k) W7:=by
    refine bA (ay (bV (λf=>?_)) h7) NP;simp only[List.cons_append,List.nil_append,List.map_append,List.map_cons,List.map_nil,List.sum_append,List.sum_cons,List.sum_nil];omega
   obtain⟨io,zo,hi,MW,hz,hzz,hby⟩:=Mj;have hsrc:Src prog io.size 71 (.slice (some ⟨w6.heap.size,0,none⟩) 1 1) 1 (ownRow (gD c) ⟨d,.nilIface,.slice none 0 0⟩) W7:=by
    refine Src.ofSlice W7 underlying71 ⟨w6.heap.size,0,none⟩ 1 1 _ (by rw[MW];rfl) (λj y hj=>?_) (λy hy=>?_)
    ·rw[fB,Nat.zero_add,← JF]
     exact cell_of (World.alloc_heap_new w6 _) j y (by simpa[ownRow,gD] using hj)
    ·simp only[ownRow,gD,List.mem_cons,List.not_mem_nil,or_false]at hy
     rcases hy with rfl | rfl | rfl | rfl | rfl | rfl | rfl<;>rfl
   have h8':af ⟨w,F⟩ (bQ 80 io.size (.slice a k cc) k (eS (rowAt (lj c) es) k)::aH br (cW c++[.pointer (some ⟨bm,0,none⟩),.slice a k cc,.int .i64 0,.bool false]) 73 :: hZ c d (jX c)::aH bc (cW c) 23 :: aK bm ⟨List.replicate c.cells 0,0⟩::fa c es k) W7:=by rw[MW];exact h8
   obtain⟨v',w8,q1,q2,q3⟩:=h8'.app0 (t := 71) (u := 71) (ty := 71) underlying71 hi hz hzz hsrc (by rw[hby];omega) (by omega) ho0;rw[MW,← JT c es hlt]at q2;obtain⟨a',cc',rfl⟩:∃ a' cc',v'=.slice a' (k+1) cc':=by
    rcases(bk q2).2 with ⟨e,_⟩ | ⟨b2,off,c2,e,_⟩
    ·omega
    ·exact⟨_,_,e⟩
   have h9:=bU q2;have QX:=ax h9;have f9:w8.frozen? ⟨br,7,none⟩=false:=cB QX 7;have c9:w8.cell? ⟨br,7,none⟩=some (.slice a k cc):=cell_of QX 7 _ rfl;have h10:=bR 7 (.slice a' (k+1) cc') h9
   gi_wp2_with (gi_at_builtin;refine dS rfl _ _ _ rfl q1 ?_)
   refine⟨⟨k+1,jF es k ⟨d,.nilIface,.slice none 0 0⟩,a',cc',rfl,by omega,q3,?_⟩,by simp[intOf];omega⟩;rw[wx c _ hlt,AP,ez];have h11:af ⟨w,F⟩ (hZ c d (jX c)::(bQ 80 7 (.slice a' (k+1) cc') (k+1) (eS (rowAt (lj c) (jF es k ⟨d,.nilIface,.slice none 0 0⟩)) (k+1))::aH br (cW c++[.pointer (some ⟨bm,0,none⟩),.slice a' (k+1) cc',.int .i64 0,.bool false]) 73 :: aH bc (cW c) 23 :: aK bm ⟨List.replicate c.cells 0,0⟩::fa c es k)) (w8.setCell ⟨br,7,none⟩ (.slice a' (k+1) cc')):=by
    refine ay (bV (λf=>?_)) h10;have e:List.set (cW c++[Value.pointer (some ⟨bm,0,none⟩),.slice a k cc,.int .i64 0,.bool false]) 7 (.slice a' (k+1) cc')=cW c++[.pointer (some ⟨bm,0,none⟩),.slice a' (k+1) cc',.int .i64 0,.bool false]:=rfl;rw[e];simp only[List.cons_append,List.nil_append,List.map_append,List.map_cons,List.map_nil,List.sum_append,List.sum_cons,List.sum_nil];omega
   have h12:=JU (p:=k) h11;refine ay (bV (λf=>?_)) h12;simp only[List.cons_append,List.nil_append,List.map_append,List.map_cons,List.map_nil,List.sum_append,List.sum_cons,List.sum_nil];omega
  ·obtain rfl:k=c.n:=by omega
   have v5:¬ ((c.n:Nat):Int)<(c.n:Int):=by omega
   obtain⟨bo,rfl⟩:∃ bo,a=some ⟨bo,0,none⟩:=by
    rcases(bk hH).2 with ⟨e,_⟩ | ⟨b2,off,c2,e,_⟩
    ·omega
    ·rcases ho0 with h0 | ⟨b3,n3,c3,h0⟩
     ·rw[h0]at e;cases e
     ·cases h0;exact⟨_,rfl⟩
   gi_wp2
   refine bodyPost_ret (gR rfl _) rfl ⟨⟨br,bm,bo,cc⟩,rfl,?_⟩;refine cR (es:=es) (l:=[]) ?_;have h20:af ⟨w,F⟩ ([aH bc (cW c) 23]++(bQ 80 7 (.slice (some ⟨bo,0,none⟩) c.n cc) c.n (eS (rowAt (lj c) es) c.n)::aH br (cW c++[.pointer (some ⟨bm,0,none⟩),.slice (some ⟨bo,0,none⟩) c.n cc,.int .i64 0,.bool false]) 73 :: aK bm ⟨List.replicate c.cells 0,0⟩::fa c es c.n)) wr:=by
    refine ay (bV (λf=>?_)) hH;simp only[List.cons_append,List.nil_append,List.map_append,List.map_cons,List.map_nil,List.sum_append,List.sum_cons,List.sum_nil];omega
   have e20:aF ⟨br,bm,bo,cc⟩ c (eD c) es++[]=[aH br (cW c++[.pointer (some ⟨bm,0,none⟩),.slice (some ⟨bo,0,none⟩) c.n cc,.int .i64 0,.bool false]) 73,aK bm ⟨List.replicate c.cells 0,0⟩,bQ 80 7 (.slice (some ⟨bo,0,none⟩) c.n cc) c.n (eS (rowAt (lj c) es) c.n)]++fa c es c.n:=by
    rw[List.append_nil];rfl
   rw[e20];refine ay (bV (λf=>?_)) (aI h20);simp only[List.cons_append,List.nil_append,List.map_append,List.map_cons,List.map_nil,List.sum_append,List.sum_cons,List.sum_nil];omega
end Go.Proofs.YtkmccgombmogmaaGreat
namespace Go.Proofs.YtkmccgombmogmaaGreat
open Go.Ev Go.Proofs.Tryz
open Go.RowKit
def pick(n m:Int):Int:=((n.tmod m)+m).tmod m
theorem Cb(n m:Int)(h:0<m):-m<n.tmod m:=by
 rcases Int.le_total 0 n with h0 | h0
 ·have:=Int.tmod_nonneg m h0
  omega
 ·have e:n.tmod m = -((-n).tmod m):=by rw[Int.neg_tmod,Int.neg_neg]
  have:=Int.tmod_lt_of_pos (-n) h;omega
theorem Cc(n m:Int)(h:0<m):0<=pick n m/\pick n m<m:=by
 unfold pick;have h1:=Int.tmod_lt_of_pos (n.tmod m+m) h;have h2:-m<n.tmod m:=Cb n m h;exact⟨Int.tmod_nonneg _ (by omega),h1⟩
set_option maxHeartbeats 400000 in
theorem HQ(n m:Int)(h:0<m)(hm:m<=1000000)(w:World) :
  Calls prog 14 #[.int .i64 n,.int .i64 m] w λe w'=>e=.returned (.int .i64 (pick n m))/\Below w.heap.size w w':=by
 have hne:m≠0:=by omega
 have h1:-m<n.tmod m:=Cb n m h;have h2:n.tmod m<m:=Int.tmod_lt_of_pos n h;have hw:IntKind.i64.wrap (n.tmod m+m)=n.tmod m+m:=IntWalk.i64_in _ (by omega)
 go_enter func14,ntmps14
 go_wp2
 go_ret
 refine⟨?_,Below.refl _ _⟩;simp_all[pick];rw[Int.tmod_eq_emod_of_nonneg (a:=n.tmod m+m) (by omega),Int.add_emod_right]
end Go.Proofs.YtkmccgombmogmaaGreat
namespace Go.Proofs.YtkmccgombmogmaaGreat
open Go.Ev Go.Proofs.Tryz
open Go.RowKit
open Go.Ev (sy iz uz wz iN uN wN pz dv fc fn ak vk vd kn pc cc cr cm cd fr)
set_option maxRecDepth 8000
attribute [local irreducible] og
theorem sg(i:Int)(n:Nat)(h:0<n)(hn:n<=1000000)(w:World):Calls prog 14 #[.int .i64 i,.int .i64 (n:Int)] w λe w'=>e=.returned (.int .i64 (((pick i (n:Int)).toNat:Nat):Int))/\Below w.heap.size w w':=by
 have hb:=Cc i n (by omega);have e:(((pick i (n:Int)).toNat:Nat):Int)=pick i n:=by omega
 rw[e];exact HQ i n (by omega) (by omega) w
theorem au(i:Int)(n:Nat)(h:0<n):(pick i (n:Int)).toNat<n:=by
 have:=Cc i n (by omega);omega
def made(c:Cf):aP where
 n:=1+(pick c.n 4).toNat
 q:=2*2 ^ (pick c.q 3).toNat
 g:=((1+(pick c.g 20).toNat:Nat):Int)
 m:=((1+(pick c.n 4).toNat+1+(pick c.m 3).toNat:Nat):Int)
 t:=((2+(pick c.t 6).toNat:Nat):Int)
 s:=(((pick c.s 3).toNat:Nat):Int)
 h:=by
  have h1:=au c.n 4 (by omega);have h2:=au c.q 3 (by omega);have h3:=au c.g 20 (by omega);have h4:=au c.m 3 (by omega);have h5:=au c.t 6 (by omega);have h6:=au c.s 3 (by omega);replace h1:(pick c.n 4).toNat<4:=h1;replace h2:(pick c.q 3).toNat<3:=h2;replace h3:(pick c.g 20).toNat<20:=h3;replace h4:(pick c.m 3).toNat<3:=h4;replace h5:(pick c.t 6).toNat<6:=h5;replace h6:(pick c.s 3).toNat<3:=h6;have hq:(2*2 ^ (pick c.q 3).toNat:Nat)=2\/(2*2 ^ (pick c.q 3).toNat:Nat)=4\/(2*2 ^ (pick c.q 3).toNat:Nat)=8:=by
   generalize (pick c.q 3).toNat=k at *
   match k,h2 with
   | 0,_=>exact .inl rfl
   | 1,_=>exact .inr (.inl rfl)
   | 2,_=>exact .inr (.inr rfl)
  simp only[lQ,wi,Bool.and_eq_true,Bool.or_eq_true,decide_eq_true_eq,beq_iff_eq];omega
theorem JV(c:Cf):(made c).q=2\/(made c).q=4\/(made c).q=8:=by
 have h2:=au c.q 3 (by omega);replace h2:(pick c.q 3).toNat<3:=h2;show(2*2 ^ (pick c.q 3).toNat:Nat)=2\/(2*2 ^ (pick c.q 3).toNat:Nat)=4\/(2*2 ^ (pick c.q 3).toNat:Nat)=8;generalize (pick c.q 3).toNat=k at *
 match k,h2 with
 | 0,_=>exact .inl rfl
 | 1,_=>exact .inr (.inl rfl)
 | 2,_=>exact .inr (.inr rfl)
theorem JW{t:TypeId}{ox oy:Operand}{k:Nat}(h:k<3):(do eqGuard .shl t ox oy (.int .i64 2) (.int .i64 (k:Int));binOp .shl t (.int .i64 2) (.int .i64 (k:Int)):Sem Value)=pure (.int .i64 ((2*2 ^ k:Nat):Int)):=by
  rw[gk]
  match k,h with
  | 0,_=>rfl
  | 1,_=>rfl
  | 2,_=>rfl
theorem SE(W:World)(c:Cf):ce prog 9 [] 0 31 ⟨W,λ_=>False⟩ [(0,(.agg #[iz c.n,iz c.q,iz c.g,iz c.m,iz c.t,iz c.s]))] [] (λκ:am=>(.agg #[(iN (1+((pick c.n 4).toNat))),(iN (2*2 ^ (pick c.q 3).toNat)),(iN (1+((pick c.g 20).toNat))),(iN (((1+((pick c.n 4).toNat))+1)+((pick c.m 3).toNat))),(iN (2+((pick c.t 6).toNat))),(iN ((pick c.s 3).toNat))])) (λκ:am=>[]):=(eH (c:=⟨W,λ_=>False⟩) 4 (kn [iN ((pick c.q 3).toNat),iz (c.n),iz (c.q),iz (c.g),iz (c.m),iz (c.t),iz (c.s),iN (2*2 ^ (pick c.q 3).toNat),iN ((pick c.n 4).toNat),iN (1+((pick c.n 4).toNat)),iN ((pick c.g 20).toNat),iN (1+((pick c.g 20).toNat)),iN ((1+((pick c.n 4).toNat))+1),iN ((pick c.m 3).toNat),iN (((1+((pick c.n 4).toNat))+1)+((pick c.m 3).toNat)),iN ((pick c.t 6).toNat),iN (2+((pick c.t 6).toNat)),iN ((pick c.s 3).toNat)] fr [(.add,iz 1,sy 8,sy 9),(.shl,iz 2,sy 0,sy 7),(.add,iz 1,sy 10,sy 11),(.add,sy 9,iz 1,sy 12),(.add,sy 12,sy 13,sy 14),(.add,iz 2,sy 15,sy 16)] [] [] (fc (λ_ _ _=>aN (by have h1:(pick c.n 4).toNat<4:=au c.n 4 (by omega);have h2:(pick c.q 3).toNat<3:=au c.q 3 (by omega);have h3:(pick c.g 20).toNat<20:=au c.g 20 (by omega);have h4:(pick c.m 3).toNat<3:=au c.m 3 (by omega);have h5:(pick c.t 6).toNat<6:=au c.t 6 (by omega);have h6:(pick c.s 3).toNat<3:=au c.s 3 (by omega);rw[aW (by omega) (by omega)];omega)) (fc (λ_ _ _=>JW (au c.q 3 (by omega))) (fc (λ_ _ _=>aN (by have h1:(pick c.n 4).toNat<4:=au c.n 4 (by omega);have h2:(pick c.q 3).toNat<3:=au c.q 3 (by omega);have h3:(pick c.g 20).toNat<20:=au c.g 20 (by omega);have h4:(pick c.m 3).toNat<3:=au c.m 3 (by omega);have h5:(pick c.t 6).toNat<6:=au c.t 6 (by omega);have h6:(pick c.s 3).toNat<3:=au c.s 3 (by omega);rw[aW (by omega) (by omega)];omega)) (fc (λ_ _ _=>aN (by have h1:(pick c.n 4).toNat<4:=au c.n 4 (by omega);have h2:(pick c.q 3).toNat<3:=au c.q 3 (by omega);have h3:(pick c.g 20).toNat<20:=au c.g 20 (by omega);have h4:(pick c.m 3).toNat<3:=au c.m 3 (by omega);have h5:(pick c.t 6).toNat<6:=au c.t 6 (by omega);have h6:(pick c.s 3).toNat<3:=au c.s 3 (by omega);rw[aW (by omega) (by omega)];omega)) (fc (λ_ _ _=>aN (by have h1:(pick c.n 4).toNat<4:=au c.n 4 (by omega);have h2:(pick c.q 3).toNat<3:=au c.q 3 (by omega);have h3:(pick c.g 20).toNat<20:=au c.g 20 (by omega);have h4:(pick c.m 3).toNat<3:=au c.m 3 (by omega);have h5:(pick c.t 6).toNat<6:=au c.t 6 (by omega);have h6:(pick c.s 3).toNat<3:=au c.s 3 (by omega);rw[aW (by omega) (by omega)];omega)) (fc (λ_ _ _=>aN (by have h1:(pick c.n 4).toNat<4:=au c.n 4 (by omega);have h2:(pick c.q 3).toNat<3:=au c.q 3 (by omega);have h3:(pick c.g 20).toNat<20:=au c.g 20 (by omega);have h4:(pick c.m 3).toNat<3:=au c.m 3 (by omega);have h5:(pick c.t 6).toNat<6:=au c.t 6 (by omega);have h6:(pick c.s 3).toNat<3:=au c.s 3 (by omega);rw[aW (by omega) (by omega)];omega)) fn)))))) fn fn W (λ_=>False) [[]] [] [⟨14,[sy 1,iz 4],0,none,sy 8,none⟩,⟨14,[sy 2,iz 3],0,none,sy 0,none⟩,⟨14,[sy 3,iz 20],0,none,sy 10,none⟩,⟨14,[sy 4,iz 3],0,none,sy 13,none⟩,⟨14,[sy 5,iz 6],0,none,sy 15,none⟩,⟨14,[sy 6,iz 3],0,none,sy 17,none⟩]) fn (fc (by have h1:(pick c.n 4).toNat<4:=au c.n 4 (by omega);have h2:(pick c.q 3).toNat<3:=au c.q 3 (by omega);have h3:(pick c.g 20).toNat<20:=au c.g 20 (by omega);have h4:(pick c.m 3).toNat<3:=au c.m 3 (by omega);have h5:(pick c.t 6).toNat<6:=au c.t 6 (by omega);have h6:(pick c.s 3).toNat<3:=au c.s 3 (by omega);exact pc (args:=[iz c.n,iz 4]) rfl (λw hb=>sg (c.n) 4 (by omega) (by omega) w)) (fc (by have h1:(pick c.n 4).toNat<4:=au c.n 4 (by omega);have h2:(pick c.q 3).toNat<3:=au c.q 3 (by omega);have h3:(pick c.g 20).toNat<20:=au c.g 20 (by omega);have h4:(pick c.m 3).toNat<3:=au c.m 3 (by omega);have h5:(pick c.t 6).toNat<6:=au c.t 6 (by omega);have h6:(pick c.s 3).toNat<3:=au c.s 3 (by omega);exact pc (args:=[iz c.q,iz 3]) rfl (λw hb=>sg (c.q) 3 (by omega) (by omega) w)) (fc (by have h1:(pick c.n 4).toNat<4:=au c.n 4 (by omega);have h2:(pick c.q 3).toNat<3:=au c.q 3 (by omega);have h3:(pick c.g 20).toNat<20:=au c.g 20 (by omega);have h4:(pick c.m 3).toNat<3:=au c.m 3 (by omega);have h5:(pick c.t 6).toNat<6:=au c.t 6 (by omega);have h6:(pick c.s 3).toNat<3:=au c.s 3 (by omega);exact pc (args:=[iz c.g,iz 20]) rfl (λw hb=>sg (c.g) 20 (by omega) (by omega) w)) (fc (by have h1:(pick c.n 4).toNat<4:=au c.n 4 (by omega);have h2:(pick c.q 3).toNat<3:=au c.q 3 (by omega);have h3:(pick c.g 20).toNat<20:=au c.g 20 (by omega);have h4:(pick c.m 3).toNat<3:=au c.m 3 (by omega);have h5:(pick c.t 6).toNat<6:=au c.t 6 (by omega);have h6:(pick c.s 3).toNat<3:=au c.s 3 (by omega);exact pc (args:=[iz c.m,iz 3]) rfl (λw hb=>sg (c.m) 3 (by omega) (by omega) w)) (fc (by have h1:(pick c.n 4).toNat<4:=au c.n 4 (by omega);have h2:(pick c.q 3).toNat<3:=au c.q 3 (by omega);have h3:(pick c.g 20).toNat<20:=au c.g 20 (by omega);have h4:(pick c.m 3).toNat<3:=au c.m 3 (by omega);have h5:(pick c.t 6).toNat<6:=au c.t 6 (by omega);have h6:(pick c.s 3).toNat<3:=au c.s 3 (by omega);exact pc (args:=[iz c.t,iz 6]) rfl (λw hb=>sg (c.t) 6 (by omega) (by omega) w)) (fc (by have h1:(pick c.n 4).toNat<4:=au c.n 4 (by omega);have h2:(pick c.q 3).toNat<3:=au c.q 3 (by omega);have h3:(pick c.g 20).toNat<20:=au c.g 20 (by omega);have h4:(pick c.m 3).toNat<3:=au c.m 3 (by omega);have h5:(pick c.t 6).toNat<6:=au c.t 6 (by omega);have h6:(pick c.s 3).toNat<3:=au c.s 3 (by omega);exact pc (args:=[iz c.s,iz 3]) rfl (λw hb=>sg (c.s) 3 (by omega) (by omega) w)) fn)))))) rfl [] [] [] 0 rfl rfl [(0,.agg #[sy 1,sy 2,sy 3,sy 4,sy 5,sy 6])] (.agg #[sy 9,sy 7,sy 11,sy 14,sy 16,sy 17]))
theorem JX(c:Cf)(w:World):Calls prog 9 #[c.v] w λe w'=>e=.returned (made c).v/\Below w.heap.size w w' :=
 pB (by kernel_rfl) (kL w) (by simp) (by simp) (λA hA=>SE w c A w _ hA (λκ w1 h1=>⟨rfl,h1.below (λ_ h=>h)⟩))
end Go.Proofs.YtkmccgombmogmaaGreat
namespace Go.Proofs.YtkmccgombmogmaaGreat
open Go.Ev Go.Proofs.Tryz
open Go.RowKit
set_option maxRecDepth 8000
def seen(l:List Int)(n k:Nat):List Value:=(List.range n).map (λi:Nat=>Value.bool (decide ((i:Int) ∈ l.take k)))
section
variable{ctx:dc}{w:World}{r:List aG}{b:RB}{c:aP}{x:aE}{p:Nat}{o:bX}{B:Int}{M:bG}
theorem AQ(h:af ctx (cC b c x::r) w):∃ es,af ctx (r++aF b c x es) w:=by
 obtain⟨es,h1⟩:=pH h;exact⟨es,ay List.perm_append_comm h1⟩
theorem Mm{es:Nat->dm}(h:af ctx (r++aF b c x es) w):af ctx (cC b c x::r) w:=cR (ay List.perm_append_comm h)
theorem HR(n:Nat)(hp:p<c.n)(ho:x.ow[p]? = some o)(h:af ctx (cC b c x::r) w) :
  CallsIn Fence.wide n prog 12 #[.pointer (some ⟨b.br,0,none⟩),.int .i64 (p:Int)] w λe w'=>e=.returned (.bool o.dx.isSome)/\w'=w:=by
 obtain⟨es,h1⟩:=AQ h;obtain⟨F,k1,_⟩:=gG hp ho h1;exact B0 n (cI h1) hp (cA hp ho h1 rfl) (B9 (af.start k1))
theorem HS(n:Nat)(hlen:x.ow.length=c.n)(ho:x.ow[p]? = some o)(kd cv cg:Int)(h:af ctx (cC b c x::r) w) :
  CallsIn Fence.wide n prog 11 #[.pointer (some ⟨b.br,0,none⟩),.int .i64 (p:Int),.agg #[.int .i64 kd,.int .i64 cv,.int .i64 cg]] w λe w'=>e=.returned (.int .i64 (dG c p o kd cv cg))/\af ctx (cC b c (cN c x p o kd cv cg)::r) w':=by
 obtain⟨F,k1,back⟩:=cQ [cC b c x] h;exact(HN n hlen ho kd cv cg k1).mono (λe w' ⟨e1,hh⟩=>⟨e1,back _ _ hh⟩)
theorem ib(n:Nat)(hI:dR c B x)(hB:B+8<=1073741824)(ho:x.ow[p]? = some o)(hM:o.dx=some M)(h:af ctx (cC b c x::r) w) :
  CallsIn Fence.wide n prog 13 #[.pointer (some ⟨b.br,0,none⟩),.int .i64 (p:Int)] w λe w'=>∃ a k,e=.returned (.tuple #[.agg #[.int .i64 (nB.k (b_ c x p o M).2),.int .i64 (nB.g (b_ c x p o M).2),.slice a (nB.l (b_ c x p o M).2).length k],.bool (b_ c x p o M).2.isSome])/\af ctx (cf (.slice a (nB.l (b_ c x p o M).2).length k) (nB.l (b_ c x p o M).2)::cC b c (b_ c x p o M).1::r) w':=by
 obtain⟨F,k1,back⟩:=cQ [cC b c x] h;refine(JN n hI hB ho hM k1).mono ?_;rintro e w' ⟨v,lv,rfl,hh⟩;obtain⟨a,k,rfl⟩:=c8 (bk hh);exact⟨a,k,rfl,back _ _ hh⟩
theorem N9(n:Nat)(hp:p<c.n)(ho:x.ow[p]? = some o)(hM:o.dx=none)(h:af ctx (cC b c x::r) w) :
  CallsIn Fence.wide n prog 13 #[.pointer (some ⟨b.br,0,none⟩),.int .i64 (p:Int)] w λe w'=>e=.returned (.tuple #[.agg #[.int .i64 0,.int .i64 0,.slice none 0 0],.bool false])/\af ctx (cC b c x::r) w':=by
 refine callsIn_of_wp func13 rfl trivial ?_ rfl;simp only[ntmps13,List.size_toArray,List.length_cons,List.length_nil,Nat.reduceAdd,Nat.reduceSub,Array.replicate_succ,Array.replicate_zero,List.push_toArray,List.append_toArray,List.nil_append,List.cons_append];obtain⟨W1,hW1⟩:∃ W1,w.alloc (.cells #[.int .i64 0,.int .i64 0,.slice none 0 0] 37)=W1:=⟨_,rfl⟩;have h1:af ctx (aH w.heap.size [.int .i64 0,.int .i64 0,.slice none 0 0] 37 :: cC b c x::r) W1:=by rw[← hW1];exact eT _ _ h
 have hb:=HR (n-1) hp ho (bU h1);rw[hM]at hb;have bt:=ax h1;have t0:W1.cell? ⟨w.heap.size,0,none⟩=some (.int .i64 0):=cell_of bt 0 _ rfl;have t1:W1.cell? ⟨w.heap.size,1,none⟩=some (.int .i64 0):=cell_of bt 1 _ rfl;have t2:W1.cell? ⟨w.heap.size,2,none⟩=some (.slice none 0 0):=cell_of bt 2 _ rfl;have f0:W1.frozen? ⟨w.heap.size,0,none⟩=false:=cB bt 0;have f1:W1.frozen? ⟨w.heap.size,1,none⟩=false:=cB bt 1;have f2:W1.frozen? ⟨w.heap.size,2,none⟩=false:=cB bt 2;have h9:=bR 2 (.slice none 0 0) (bR 1 (.int .i64 0) (bR 0 (.int .i64 0) h1))
 gi_wp2
 refine⟨trivial,λh=>by simp[Fence.wide]at h,hb.mono ?_⟩;rintro e w' ⟨rfl,hw'⟩;replace hw':=hw'.symm;subst hw'
 gi_wp2
 exact nF rfl rfl rfl (wl _ _ _ _ _ (ax h9)) ⟨rfl,aI (r:=[_]) h9⟩
theorem HT(n:Nat)(hx:x.bad=false)(h:af ctx (cC b c x::r) w) :
  CallsIn Fence.wide n prog 16 #[.pointer (some ⟨b.br,0,none⟩)] w λe w'=>e=.returned (.bool true)/\w'=w:=by
 refine callsIn_of_wp func16 rfl trivial ?_ rfl;simp only[ntmps16,List.size_toArray,List.length_cons,List.length_nil,Nat.reduceAdd,Nat.reduceSub,Array.replicate_succ,Array.replicate_zero,List.push_toArray,List.append_toArray,List.nil_append,List.cons_append];obtain⟨es,h1⟩:=AQ h;have e9:w.cell? ⟨b.br,9,none⟩=some (.bool false):=cell_of (cI h1) 9 _ (by rw[← hx];rfl)
 gi_wp2
 exact bodyPost_ret (results_tmp rfl _ _ _) rfl ⟨rfl,rfl⟩
theorem N_(n:Nat)(hp:p<c.n)(hm:bT c x.m)(h:af ctx (cC b c x::r) w) :
  CallsIn Fence.wide n prog 15 #[.pointer (some ⟨b.br,0,none⟩),.int .i64 (p:Int)] w λe w'=>∃ a k,e=.returned (.slice a (ii c x.m p).length k)/\af ctx (cf (.slice a (ii c x.m p).length k) (ii c x.m p)::cC b c x::r) w':=by
 obtain⟨es,h1⟩:=AQ h;refine(y7 n hp hm h1).mono ?_;rintro e w' ⟨a,k,rfl,hh⟩;exact⟨a,k,rfl,bU (Mm (r:=cf _ _::r) hh)⟩
theorem anew(n:Nat)(c:aP)(h:af ctx r w) :
  CallsIn Fence.wide n prog 10 #[c.v] w λe w'=>∃ b:RB,e=.returned (.tuple #[.pointer (some ⟨b.br,0,none⟩),.int .i64 0])/\af ctx (cC b c (eD c)::r) w':=by
 obtain⟨F,k1,back⟩:=cQ (lp:=[]) (rest:=r) h;refine(Ml n c k1).mono ?_;rintro e w' ⟨b,rfl,hh⟩;exact⟨b,rfl,back _ _ hh⟩
end
end Go.Proofs.YtkmccgombmogmaaGreat
namespace Go.Proofs.YtkmccgombmogmaaGreat
open Go.Ev Go.Proofs.Tryz
open Go.RowKit
theorem AS:d9 prog (λB=>Ev.isTrue (@Ev.en dk B (@Ev.tq dk B 200) 8 [] Ev.s0))=true:=by kernel_rfl
theorem DG(w:World):Calls prog 8 #[] w λe w'=>e=.returned (.bool true)/\Below w.heap.size w w' :=
 @Ev.CL dk _ Tryz.codeOk (@Ev.Nc dk _) dD 200 _ #[] _ AS Ll w
end Go.Proofs.YtkmccgombmogmaaGreat
namespace Go.Proofs.YtkmccgombmogmaaGreat
open Go.Ev Go.Proofs.Tryz
open Go.RowKit
set_option maxRecDepth 8000
section
variable{c:aP}{x:aE}{B:Int}{k n:Nat}
def SF(c:aP)(x:aE)(k:Nat):List Int:=(List.range k).flatMap (λq=>rl c x.m q++cJ x q)
attribute [irreducible] SF
theorem DH(hI:dR c B x){q:Nat}(hq:q<c.n):∃ o,x.ow[q]? = some o/\eR c o.dq/\ii c x.m q=aX c o.dq/\ii c x.m q=rl c x.m q/\cJ x q=nE o/\∀ M,o.dx=some M->li c q M:=by
 have hl:q<x.ow.length:=by rw[hI.len];exact hq
 refine⟨x.ow[q],List.getElem?_eq_getElem hl,?_⟩;have hO:=hI.ow q _ (List.getElem?_eq_getElem hl);have hs:∀ i,Gn (sl c x.m q i):=λi=>hI.R.sl q hq i
 have h1:=hO.dq.same hs;refine⟨hO.dq.ok,h1,?_,?_,λM h=>Ca (hO.dx M h).2.1⟩
 ·rw[h1,hO.dq.l]
 ·unfold cJ dY
  rw[List.getElem?_eq_getElem hl];rfl
variable{ctx:dc}{w:World}{r:List aG}{b:RB}{p:Nat}
theorem Mn(n:Nat)(hI:dR c B x)(hp:p<c.n)(h:af ctx (cC b c x::r) w) :
  CallsIn Fence.wide n prog 15 #[.pointer (some ⟨b.br,0,none⟩),.int .i64 (p:Int)] w λe w'=>∃ a k,e=.returned (.slice a (rl c x.m p).length k)/\af ctx (cf (.slice a (rl c x.m p).length k) (rl c x.m p)::cC b c x::r) w':=by
 obtain⟨o,ho,hd,h1,h2,h3,hM⟩:=DH hI hp;have:=N_ n hp hI.R.mem h;rw[h2]at this;exact this
end
end Go.Proofs.YtkmccgombmogmaaGreat
namespace Go.Proofs.YtkmccgombmogmaaGreat
open Go.Ev Go.Proofs.Tryz
open Go.ChangeShapes Go.WideShapes Go.ChangeAt Go.RowKit Go.Deep
section
variable{H:Type}{enc:TypeId×Value->H}{P:Program}
theorem tB(hl:laidOutB P=true){W W':World}(hb:Below W.heap.size W W'):∀ (ts:List TypeId) (vs:List Value) (ds:List (DataW H)) (ps:List MemPlace),
  DataW.TrodAll enc P W 0 (λ_=>true) true ts vs ds ps->(∀ t ∈ ts,P.readableRec t=true/\t<P.types.size)->(∀ x ∈ ps,x.block<W.heap.size)->
  DataW.TrodAll enc P W' 0 (λb=>decide (b<W.heap.size)) true ts vs ds ps:=by
 intro ts
 induction ts with
 | nil =>
  intro vs ds ps h _ _;obtain⟨rfl,rfl,rfl⟩:=trodAll_nil h;exact trodAll_mk0
 | cons t ts ih =>
  intro vs ds ps h hr hlt;obtain⟨v,vs',d,ds',p,q,rfl,rfl,rfl,h1,h2⟩:=trodAll_cons h;exact trodAll_cons_mk ((hb.trod hl (hr t (List.mem_cons_self ..)).1 (hr t (List.mem_cons_self ..)).2 h1 (λx hx=>hlt x (List.mem_append_left _ hx))))
   (ih vs' ds' q h2 (λt' ht'=>hr t' (List.mem_cons_of_mem _ ht')) (λx hx=>hlt x (List.mem_append_right _ hx)))
theorem HU{f:Func}{s:ChangeSpec}{W W':World}{args:Array Value}{ds gs:List (DataW H)}{before:List MemPlace}{tb:TypeId}(hl:laidOutB P=true)
  (hW:DataW.Whole enc P f.params.toList s.vars false W args.toList ds gs before) (hvars:s.vars=[]) (hres:f.resultTypes = #[tb]) (N':P.underlying tb=some .bool)
  (hfn:s.fn H ds = { results:=[.lit (.bool true)],args:=ds }) (hread:∀ t ∈ f.params.toList,P.readableRec t=true/\t<P.types.size) (hb:Below W.heap.size W W') :
  s.post enc P f false true false false W args (.bool true) W':=by
 have hW0:=hW;obtain⟨p,q,hA,hV,hpq,hz,hn⟩:=hW;rw[hvars]at hV;obtain⟨rfl,rfl⟩:=trodVars_none hV;have hlt:∀ x ∈ before,x.block<W.heap.size:=λx hx=>hW0.lt x hx
 have hpl:before=p:=by rw[hpq,List.append_nil]
 refine⟨ds,[],before,[],p,[],hW0,?_,?_,?_,?_,λh=>by cases h⟩
 ·rw[List.append_nil,hfn,hres]
  exact trodAll_mk1 (shut_bool N' true)
 ·rw[List.append_nil,hfn]
  exact tB hl hb _ _ _ _ hA hread (λx hx=>hlt x (by rw[hpl];exact hx))
 ·rw[hvars,List.append_nil,hfn]
  rfl
 ·exact World.keptBut_mono (λx hx=>⟨hx,.inr (.inl (by rw[hpl]at hx;exact hx))⟩) (hb.frame (· ∈ before))
theorem sh{W:World}{base b0:Nat}{spare:Nat->Bool}{held:Bool}{r:Reach}{t:TypeId}{fs:Array Field}{v:Value}{d:DataW H}{p:List MemPlace}(hs:P.underlying t=some (.struct fs))(hone:oneCellFields P fs=true)(hC:P.cellsOf t=fs.size)
  (hv:Value.okWide P W r b0 t v) (h:DataW.Trod enc P W base spare held t v d p) :
  ∃ cs:Array Value,v=.agg cs/\cs.size=fs.size/\∀ (j:Nat) (f:Field),fs[j]? = some f->∃ n x y,cs[j]? = some x/\DataW.trod enc P W base spare held n f.type [x]=some y:=by
 obtain⟨cs,rfl,hsz⟩:=okWide_struct hs hv;obtain⟨fuel,hf⟩:=h;obtain⟨ys,n,hn,hy,hlen,hyl,hfs⟩:=DataW.trod_struct hs hf;rw[hC]at hsz;refine⟨cs,rfl,hsz,λj f hj=>?_⟩;obtain⟨ho,hk⟩:=hone_of hone j f hj;have hjl:j<cs.size:=by rw[hsz];exact(Array.getElem?_eq_some_iff.1 hj).1
 have h1:=hfs j f hj;have Qn:j<ys.length:=by rw[hyl];exact(Array.getElem?_eq_some_iff.1 hj).1
 have hys:ys[j]? = some (ys[j]'Qn):=List.getElem?_eq_getElem Qn;have hc:(((Value.agg cs).cells.toList.drop f.offset).take (P.cellsOf f.type))=[cs[j]]:=by
  rw[ho,hk];show((cs.toList.drop j).take 1)=_;rw[List.drop_eq_getElem_cons (by simpa using hjl)];rfl
 refine⟨n,cs[j],ys[j]'Qn,Array.getElem?_eq_getElem hjl,?_⟩;rw[← hc,← hys];exact h1
end
end Go.Proofs.YtkmccgombmogmaaGreat
namespace Go.Proofs.YtkmccgombmogmaaGreat
open Go.Ev Go.Proofs.Tryz
open Go.ChangeShapes Go.WideShapes Go.ChangeAt Go.RowKit Go.Deep
open Go.Ev (iz iN)
set_option maxRecDepth 100000
theorem own:ownKnob prog.godebug=none:=by kernel_rfl
theorem laidOut:laidOutB prog=true:=by kernel_rfl
structure Oa where
 a:Int
 k:Int
 v:Int
 g:Int
def Oa.cells(s:Oa):List Value:=[iz s.a,iz s.k,iz s.v,iz s.g]
section
variable{H:Type}{enc:TypeId×Value->H}{w:World}
theorem JY{a:Addr}{v:Value}(h:w.cell? a=some v):a.block<w.heap.size:=by
 unfold World.cell? at h;cases hb:w.heap[a.block]? with
 | none=>rw[hb]at h;cases h
 | some o=>exact(Array.getElem?_eq_some_iff.1 hb).1
theorem y9{b off n:Nat} : (⟨b,off,none⟩:Addr).add n=⟨b,off+n,none⟩:=fB b off n
theorem tP{fuel:Nat}{cs:List Value}{x:DataW H×List MemPlace}(h:DataW.trod enc prog w 0 (λ_=>true) true fuel 26 cs=some x):∃ k v g:Int,cs=[iz k,iz v,iz g]:=by
 obtain⟨ys,n,_,_,hlen,hyl,hf⟩:=DataW.trod_struct underlying26 h;have hC:prog.cellsOf 26 = 3:=by kernel_rfl
 rw[hC]at hlen
 match cs,hlen with
 | [c0,c1,c2],_ =>
  have k0:=hf 0 _ rfl;have k1:=hf 1 _ rfl;have k2:=hf 2 _ rfl;have one:∀ t:TypeId,prog.cellsOf t=1->∀ (c:Value) (l:List Value),(c::l).take (prog.cellsOf t)=[c]:=λt ht c l=>by rw[ht];rfl
  have i1:prog.cellsOf 3 = 1:=by kernel_rfl
  have g:∀ i,i<3->∃ y,ys[i]? = some y:=λi hi=>⟨_,List.getElem?_eq_getElem (by rw[hyl];exact hi)⟩
  obtain⟨y0,e0⟩:=g 0 (by omega);obtain⟨y1,e1⟩:=g 1 (by omega);obtain⟨y2,e2⟩:=g 2 (by omega);replace k0:DataW.trod enc prog w 0 (λ_=>true) true n 3 [c0]=some y0:=by rw[← e0,← k0,← one _ i1 c0 [c1,c2]];rfl
  replace k1:DataW.trod enc prog w 0 (λ_=>true) true n 3 [c1]=some y1:=by rw[← e1,← k1,← one _ i1 c1 [c2]];rfl
  replace k2:DataW.trod enc prog w 0 (λ_=>true) true n 3 [c2]=some y2:=by rw[← e2,← k2,← one _ i1 c2 []];rfl
  obtain⟨m0,q0,_⟩:=DataW.trod_int underlying3 k0;obtain⟨m1,q1,_⟩:=DataW.trod_int underlying3 k1;obtain⟨m2,q2,_⟩:=DataW.trod_int underlying3 k2;simp only[List.cons.injEq,and_true]at q0 q1 q2;subst q0 q1 q2;exact⟨m0,m1,m2,rfl⟩
theorem y_{base b0:Nat}{spare:Nat->Bool}{held:Bool}{r:Reach}{v:Value}{d:DataW H}{p:List MemPlace}
  (hv:Value.okWide prog w r b0 23 v) (h:DataW.Trod enc prog w base spare held 23 v d p):∃ c:Cf,v=c.v:=by
 obtain⟨cs,rfl,hsz,hf⟩:=sh underlying23 (by kernel_rfl) (by kernel_rfl) hv h;obtain⟨l⟩:=cs;have hl:l.length=6:=hsz
 match l,hl with
 | [c0,c1,c2,c3,c4,c5],_ =>
  obtain⟨n0,y0,z0,hy0,hz0⟩:=hf 0 _ rfl;cases hy0;obtain⟨m0,hm0,_,_⟩:=DataW.trod_int underlying3 hz0;cases hm0;obtain⟨n1,y1,z1,hy1,hz1⟩:=hf 1 _ rfl;cases hy1;obtain⟨m1,hm1,_,_⟩:=DataW.trod_int underlying3 hz1;cases hm1;obtain⟨n2,y2,z2,hy2,hz2⟩:=hf 2 _ rfl;cases hy2;obtain⟨m2,hm2,_,_⟩:=DataW.trod_int underlying3 hz2;cases hm2;obtain⟨n3,y3,z3,hy3,hz3⟩:=hf 3 _ rfl;cases hy3;obtain⟨m3,SG,_,_⟩:=DataW.trod_int underlying3 hz3;cases SG;obtain⟨n4,y4,z4,hy4,SH⟩:=hf 4 _ rfl;cases hy4;obtain⟨m4,SI,_,_⟩:=DataW.trod_int underlying3 SH;cases SI;obtain⟨n5,y5,z5,SJ,SK⟩:=hf 5 _ rfl;cases SJ;obtain⟨m5,SL,_,_⟩:=DataW.trod_int underlying3 SK;cases SL;exact⟨⟨m0,m1,m2,m3,m4,m5⟩,rfl⟩
end
end Go.Proofs.YtkmccgombmogmaaGreat
namespace Go.Proofs.YtkmccgombmogmaaGreat
open Go.Ev Go.Proofs.Tryz
open Go.RowKit
structure Mp(c:aP)(m:bw)(p:Nat)(u:hY)(g:Int)(n:Nat):Prop where
 s1:u.st=1->3<=n/\g=(if aO (wd c m p)=0 then -1 else sl c m p (aj (wd c m p)))
 s2:u.st=2->2<=n/\u.w=wd c m p/\g=sl c m p (aj (wd c m p))
 s3:u.st=3->1<=n/\u.w=wd c m p/\u.sn=g
section
variable{c:aP}{m:bw}{p:Nat}{u:hY}{g:Int}{n:Nat}{B:Int}
theorem DI(hR:Rings c B m)(hp:p<c.n)(h:Mp c m p u g n)(hu:ud u)(h0:u.st≠0)(hgn:∀ i,Gn (sl c m p i)) :
  ((aC c p u m).1.st=0/\(bG.get (aC c p u m).1).got=g)\/((aC c p u m).1.st≠0/\1<=n/\Mp c (aC c p u m).2 p (aC c p u m).1 g (n-1)):=by
 obtain⟨st,w,sn,has⟩:=u;obtain⟨h1,h2,h3⟩:=hu;have hh:=h3 h0;obtain⟨s1,s2,s3⟩:=h;dsimp only at *;subst hh;have hz:=(hR.w p hp).sz;have hld:ld m (c.word p)=wd c m p:=rfl
 match st,h1 with
 | 0,_=>exact absurd rfl h0
 | 1,_ =>
  obtain⟨k1,k2⟩:=s1 rfl;simp only[aC];rw[hld]
  by_cases e:aO (wd c m p)=0
  ·rw[if_pos (.inl e)]
   rw[if_pos e]at k2;exact .inl ⟨rfl,by simp[bG.got,k2]⟩
  ·rw[if_neg (by omega)]
   rw[if_neg e]at k2;exact .inr ⟨by simp,by omega,⟨λh=>by simp at h,λ_=>⟨by omega,rfl,k2⟩,λh=>by simp at h⟩⟩
 | 2,_ =>
  obtain⟨k1,k2,k3⟩:=s2 rfl;subst k2;refine .inr ⟨by simp[aC],by omega,⟨λh=>by simp[aC]at h,λh=>by simp[aC]at h,λ_=>⟨by omega,rfl,?_⟩⟩⟩;show IntKind.i64.wrap (sl c m p (aj (wd c m p)))=g;rw[kS (hgn _),k3]
 | 3,_ =>
  obtain⟨k1,k2,k3⟩:=s3 rfl;simp only[aC];rw[hld,if_pos k2.symm];exact .inl ⟨rfl,by simp[bG.got,k3]⟩
end
structure Mq(c:aP)(m:bw)(p:Nat)(u:gy)(n:Nat):Prop where
 s1:u.st=1->3<=n/\2+c.q / 2<=n
 s2:u.st=2->2<=n/\u.w=wd c m p
 s3:u.st=3->1<=n/\u.w=wd c m p
 s4:u.st=4->u.w=wd c m p/\u.ts.length<c.q / 2/\c.q / 2-u.ts.length+1<=n
 s5:u.st=5->1<=n/\u.w=wd c m p
section
variable{c:aP}{m:bw}{p:Nat}{u:gy}{n:Nat}{B:Int}
theorem DJ(hR:Rings c B m)(hp:p<c.n)(h:Mq c m p u n)(hu:u.st<=5)(h0:u.st≠0) :
  (aB c p u m).1.st=0\/((aB c p u m).1.st≠0/\1<=n/\Mq c (aB c p u m).2 p (aB c p u m).1 (n-1)):=by
 obtain⟨st,gg,w,ts,hs⟩:=u;obtain⟨s1,s2,s3,s4,s5⟩:=h;dsimp only at *;have hld:ld m (c.word p)=wd c m p:=rfl;have h8:=hR.h8
 match st,hu with
 | 0,_=>exact absurd rfl h0
 | 1,_ =>
  obtain⟨k1,k2⟩:=s1 rfl;simp only[aB];rw[hld]
  by_cases e:(c.q:Int)<=aO (wd c m p)
  ·rw[if_pos e]
   exact .inr ⟨by simp,by omega,⟨λh=>by simp at h,λh=>by simp at h,λh=>by simp at h,λ_=>⟨rfl,by simp only[List.length_nil];omega,by simp only[List.length_nil];omega⟩,λh=>by simp at h⟩⟩
  ·rw[if_neg e]
   exact .inr ⟨by simp,by omega,⟨λh=>by simp at h,λ_=>⟨by omega,rfl⟩,λh=>by simp at h,λh=>by simp at h,λh=>by simp at h⟩⟩
 | 2,_ =>
  obtain⟨k1,k2⟩:=s2 rfl;refine .inr ⟨by simp[aB],by omega,⟨λh=>by simp[aB]at h,λh=>by simp[aB]at h,λ_=>⟨by omega,?_⟩,λh=>by simp[aB]at h,λh=>by simp[aB]at h⟩⟩;show w=wd c (m.put (c.slot p (cy w)) gg) p;rw[mB hR.mem hp];exact k2
 | 3,_ =>
  obtain⟨k1,k2⟩:=s3 rfl;simp only[aB];rw[hld,if_pos k2.symm];exact .inl rfl
 | 4,_ =>
  obtain⟨k1,k2,k3⟩:=s4 rfl;simp only[aB]
  by_cases e:ts.length+1=c.q / 2
  ·rw[if_pos e]
   exact .inr ⟨by simp,by omega,⟨λh=>by simp at h,λh=>by simp at h,λh=>by simp at h,λh=>by simp at h,λ_=>⟨by omega,k1⟩⟩⟩
  ·rw[if_neg e]
   exact .inr ⟨by simp,by omega,⟨λh=>by simp at h,λh=>by simp at h,λh=>by simp at h,λ_=>⟨k1,by simp only[List.length_append,List.length_cons,List.length_nil];omega,by simp only[List.length_append,List.length_cons,List.length_nil];omega⟩,λh=>by simp at h⟩⟩
 | 5,_ =>
  obtain⟨k1,k2⟩:=s5 rfl;simp only[aB];rw[hld,if_pos k2.symm];exact .inl rfl
end
structure Mr(c:aP)(m:bw)(p:Nat)(l:fJ)(n:Nat):Prop where
 s1:l.st=1->2+l.ls.length<=n
 s2:l.st=2->l.w=wd c m p/\l.k<l.n/\l.n-l.k+1<=n
 s3:l.st=3->l.w=wd c m p/\1<=n
section
variable{c:aP}{m:bw}{p:Nat}{l:fJ}{n:Nat}{B:Int}
theorem DK(hR:Rings c B m)(hp:p<c.n)(h:Mr c m p l n)(hu:l.st<4)(h0:l.st≠0) :
  1<=n/\((av c p l m).1.st=0\/((av c p l m).1.st≠0/\Mr c (av c p l m).2 p (av c p l m).1 (n-1))):=by
 obtain⟨st,w,k,b,ls⟩:=l;obtain⟨s1,s2,s3⟩:=h;dsimp only at *;have hld:ld m (c.word p)=wd c m p:=rfl
 match st,hu with
 | 0,_=>exact absurd rfl h0
 | 1,_ =>
  have k1:=s1 rfl;refine⟨by omega,?_⟩;simp only[av];rw[hld];have hr:=yD c ls (wd c m p)
  by_cases e:jU c ls (wd c m p)=0
  ·rw[if_pos e]
   exact .inl rfl
  ·rw[if_neg e]
   exact .inr ⟨by simp,⟨λh=>by simp at h,λ_=>⟨rfl,by show 0<jU _ _ _;omega,by show jU _ _ _-0+1<=_;omega⟩,λh=>by simp at h⟩⟩
 | 2,_ =>
  obtain⟨k1,k2,k3⟩:=s2 rfl;refine⟨by omega,?_⟩;have hw:∀ v,w=wd c (m.put (c.slot p ((cy w+(k:Int))%4294967296)) v) p:=λv=>by
   rw[mB hR.mem hp];exact k1
  simp only[av]
  by_cases e:k+1=b
  ·rw[if_pos e]
   exact .inr ⟨by simp,⟨λh=>by simp at h,λh=>by simp at h,λ_=>⟨hw _,by omega⟩⟩⟩
  ·rw[if_neg e]
   exact .inr ⟨by simp,⟨λh=>by simp at h,λ_=>⟨hw _,by show k+1<b;omega,by show b-(k+1)+1<=_;omega⟩,λh=>by simp at h⟩⟩
 | 3,_ =>
  obtain⟨k1,k2⟩:=s3 rfl;refine⟨by omega,?_⟩;simp only[av];rw[hld,if_pos k1.symm];exact .inl rfl
end
structure AU(c:aP)(m:bw)(p v:Nat)(u:bD)(g:Int)(n:Nat):Prop where
 s1:u.st=1->3+2*(cj (aO (wd c m v))).toNat<=n/\g=(if aO (wd c m v)=0 then -1 else sl c m v (aj (wd c m v)))
 s2:u.st=2->u.w=wd c m v/\2+2*(cj (aO u.w)).toNat<=n+u.bt.length/\(u.bt++[sl c m v (aj u.w)]).headD 0=g
 s3:u.st=3->u.w=wd c m v/\2+u.bt.length<=n/\u.bt.headD 0=g
 s4:u.st=4->u.bt.headD 0=g/\∀ l,u.ly=some l->Mr c m p l n
section
variable{c:aP}{m:bw}{p v:Nat}{u:bD}{g:Int}{n:Nat}{B:Int}{gn:Bool}{rs:List Int}
theorem za(hR:Rings c B m)(hp:p<c.n)(hv:v<c.n)(h:AU c m p v u g n)(hu:eZ u)(hI:lW c B m p v u gn rs)(h0:u.st≠0) :
  1<=n/\(((ai c p v u m).1.st=0/\(bG.steal v (ai c p v u m).1).got=g)\/((ai c p v u m).1.st≠0/\AU c (ai c p v u m).2 p v (ai c p v u m).1 g (n-1))):=by
 have hno:=hu.no;have hone:=hu.one;have De:=hu.two;have nA:=hu.three;have BN:=hu.four;have Hg:=hu.lay;have SM:=hI.s3;have hst:=hu.st;obtain⟨st,w,bt,ly⟩:=u;obtain⟨s1,s2,s3,s4⟩:=h;dsimp only at *;have hz:=(hR.w v hv).sz;have hnn:=rZ (wd c m v);have QH:=c.qb;have hld:ld m (c.word v)=wd c m v:=rfl
 match st,hst with
 | 0,_=>exact absurd rfl h0
 | 1,_ =>
  obtain⟨k1,k2⟩:=s1 rfl;refine⟨by omega,?_⟩;simp only[ai];rw[hld]
  by_cases e:aO (wd c m v)=0
  ·rw[if_pos (.inl e)]
   rw[if_pos e]at k2;exact .inl ⟨rfl,by rw[k2];rfl⟩
  ·rw[if_neg (by omega)]
   rw[if_neg e]at k2;exact .inr ⟨by simp,⟨λh=>by simp at h,λ_=>⟨rfl,by show 2+2*(cj (aO (wd c m v))).toNat<=n-1+0;omega,k2.symm⟩,λh=>by simp at h,λh=>by simp at h⟩⟩
 | 2,_ =>
  obtain⟨k1,k2,k3⟩:=s2 rfl;obtain⟨t1,t2⟩:=De rfl;refine⟨by omega,?_⟩;simp only[ai];have eg:IntKind.i64.wrap (ld m (c.slot v ((aj w+(bt.length:Int))%4294967296)))=sl c m v (aj w+(bt.length:Int)):=by
   rw[lV,kS (hR.sl v hv _)]
  rw[eg];have hh:(bt++[sl c m v (aj w+(bt.length:Int))]).headD 0=g:=by
   rw[← k3];cases bt with
   | nil=>simp
   | cons a l=>rfl
  have hl:(bt++[sl c m v (aj w+(bt.length:Int))]).length=bt.length+1:=by simp
  by_cases e:((bt.length+1:Nat):Int)=cj (aO w)
  ·rw[if_pos e]
   exact .inr ⟨by simp,⟨λh=>by simp at h,λh=>by simp at h,λ_=>⟨k1,by dsimp only;rw[hl];omega,hh⟩,λh=>by simp at h⟩⟩
  ·rw[if_neg e]
   refine .inr ⟨by simp,⟨λh=>by simp at h,λ_=>⟨k1,by dsimp only;rw[hl];omega,?_⟩,λh=>by simp at h,λh=>by simp at h⟩⟩;dsimp only;rw[← hh];cases bt<;>rfl
 | 3,_ =>
  obtain⟨k1,k2,k3⟩:=s3 rfl;have hpos:=nA rfl;refine⟨by omega,?_⟩;simp only[ai];rw[hld,if_pos k1.symm];have hbt:bt.getD 0 0=g:=by
   rw[← k3];cases bt<;>rfl
  by_cases e:bt.length=1
  ·rw[if_pos e]
   refine .inl ⟨rfl,?_⟩;show(if true=true then bt.getD 0 0 else -1)=g;rw[if_pos rfl,hbt]
  ·rw[if_neg e]
   refine .inr ⟨by simp,⟨λh=>by simp at h,λh=>by simp at h,λh=>by simp at h,λ_=>⟨k3,λl hl=>?_⟩⟩⟩;cases hl;exact⟨λ_=>by simp only[List.length_drop];omega,λh=>by simp at h,λh=>by simp at h⟩
 | 4,_ =>
  obtain⟨k1,k2⟩:=s4 rfl;obtain⟨l,rfl,hlo,hl0⟩:=BN rfl;obtain⟨_,hpos⟩:=Hg l rfl;obtain⟨j1,j2⟩:=DK hR hp (k2 l rfl) hlo.st hl0;refine⟨j1,?_⟩;have hbt:bt.getD 0 0=g:=by
   rw[← k1];cases bt<;>rfl
  simp only[ai]
  by_cases e:(av c p l m).1.st=0
  ·rw[if_pos e]
   refine .inl ⟨rfl,?_⟩;show(if true=true then bt.getD 0 0 else -1)=g;rw[if_pos rfl,hbt]
  ·rw[if_neg e]
   rcases j2 with j2 | ⟨_,j2⟩
   ·exact absurd j2 e
   ·exact .inr ⟨by simp,⟨λh=>by simp at h,λh=>by simp at h,λh=>by simp at h,λ_=>⟨k1,λl2 hl2=>by cases hl2;exact j2⟩⟩⟩
end
def JZ(c:aP)(m:bw)(p:Nat)(M:bG)(g:Int)(n:Nat):Prop :=
 match M with
 | .put u=>g = -1/\Mq c m p u n
 | .get u=>Mp c m p u g n
 | .steal v u=>AU c m p v u g n
section
variable{c:aP}{m:bw}{p:Nat}{M:bG}{g:Int}{n:Nat}{B:Int}{gn:Bool}{rs:List Int}
theorem DL(hR:Rings c B m)(hp:p<c.n)(h:JZ c m p M g n)(hI:yP c B m p M gn rs)(h0:M.st≠0) :
  1<=n/\(((M.step c p m).1.st=0/\(M.step c p m).1.got=g)\/((M.step c p m).1.st≠0/\JZ c (M.step c p m).2 p (M.step c p m).1 g (n-1))):=by
 have hgn:∀ i,Gn (sl c m p i):=hR.sl p hp;cases M with
 | put u =>
  obtain⟨e,h⟩:=h;have hst:=hI.ok.st;have h1:1<=n:=by
   have s1:=h.s1;have s2:=h.s2;have s3:=h.s3;have s4:=h.s4;have s5:=h.s5;replace h0:u.st≠0:=h0;omega
  refine⟨h1,?_⟩;rcases DJ hR hp h hst h0 with k | ⟨k1,k2,k3⟩
  ·exact .inl ⟨k,e.symm⟩
  ·exact .inr ⟨k1,e,k3⟩
 | get u =>
  have hst:=hI.ok.st;have h1:1<=n:=by
   have s1:=h.s1;have s2:=h.s2;have s3:=h.s3;replace h0:u.st≠0:=h0;omega
  refine⟨h1,?_⟩;rcases DI hR hp h hI.ok h0 hgn with k | ⟨k1,k2,k3⟩
  ·exact .inl k
  ·exact .inr ⟨k1,k3⟩
 | steal v u =>
  obtain⟨h1,h2,h3⟩:=hI;exact za hR hp h1 h h3.ok h3 h0
theorem HV{kd cv cg:Int}(hR:Rings c B m)(hp:p<c.n)(hN:db c p kd cv cg=some M)(hn:4+2*c.q<=n) :
  JZ c m p M (if kd=1 then -1 else (rl c m (if kd=3 then cv.toNat else p)).headD (-1)) n:=by
 have h8:=hR.h8;have hhd:∀ q,q<c.n->(rl c m q).headD (-1)=(if aO (wd c m q)=0 then -1 else sl c m q (aj (wd c m q))):=λq hq=>by
  have:=rZ (wd c m q)
  by_cases e:aO (wd c m q)=0
  ·rw[if_pos e]
   unfold rl;rw[e];rfl
  ·rw[if_neg e]
   unfold rl;obtain⟨k,hk⟩:∃ k,(aO (wd c m q)).toNat=1+k:=⟨(aO (wd c m q)).toNat-1,by omega⟩;rw[hk,mA];simp[win]
 unfold db at hN
 split at hN
 ·next h1 =>
  cases hN;have e:gB cg=⟨1,cg,0,[],[cg]⟩:=if_pos h1.2;rw[e,if_pos h1.1];exact⟨rfl,⟨λ_=>by omega,λh=>by simp at h,λh=>by simp at h,λh=>by simp at h,λh=>by simp at h⟩⟩
 ·split at hN
  ·next h2 =>
   cases hN;rw[if_neg (by omega),if_neg (by omega),hhd p hp];exact⟨λ_=>⟨by omega,rfl⟩,λh=>by simp[jb]at h,λh=>by simp[jb]at h⟩
  ·split at hN
   ·next h3 =>
    cases hN;obtain⟨q1,q2,q3,q4⟩:=h3;have hv:cv.toNat<c.n:=by omega
    rw[if_neg (by omega),if_pos q1,hhd _ hv];have hz:=(hR.w _ hv).sz;have hnn:=rZ (wd c m cv.toNat);have ho:=wj hnn.1;exact⟨λ_=>⟨by omega,rfl⟩,λh=>by simp[dX]at h,λh=>by simp[dX]at h,λh=>by simp[dX]at h⟩
   ·cases hN
end
structure kg(c:aP)(B:Int)(x:aE)(p:Nat)(kd g:Int)(n:Nat):Prop where
 I:dR c B x
 own:∃ o M,x.ow[p]? = some o/\o.dx=some M/\o.kd=kd/\JZ c x.m p M g n
section
variable{c:aP}{B:Int}{x:aE}{p:Nat}{o:bX}{M:bG}{kd g:Int}{n:Nat}
theorem uy(h:kg c B x p kd g n)(hB:B+8<=1073741824)(ho:x.ow[p]? = some o)(hM:o.dx=some M) :
  1<=n/\o.kd=kd/\(((M.step c p x.m).1.st=0/\(M.step c p x.m).1.got=g)\/((M.step c p x.m).1.st≠0/\kg c (B+8) (b_ c x p o M).1 p kd g (n-1))):=by
 obtain⟨hI,o2,M2,e1,e2,e3,e4⟩:=h;rw[ho]at e1;cases e1;rw[hM]at e2;cases e2;have hlt:p<x.ow.length:=(List.getElem?_eq_some_iff.1 ho).1;have hp:p<c.n:=by rw[← hI.len];exact hlt
 obtain⟨h0,wC,hC⟩:=(hI.ow p o ho).dx M hM;obtain⟨k1,k2⟩:=DL hI.R hp e4 wC h0;obtain⟨r1,r2,r3,r4,r5⟩:=mC hI hB ho hM;refine⟨k1,e3,?_⟩;rcases k2 with k2 | ⟨k2,k3⟩
 ·exact .inl k2
 ·refine .inr ⟨k2,⟨r1,?_⟩⟩
  obtain⟨o1,s1,s2,s3,s4,s5,s6,s7,s8⟩:=r4.self;have er:(b_ c x p o M).1=iE c x p o M:=by
   unfold b_;rw[if_neg k2,r3]
  rw[er];refine⟨o1,_,s1,s5,s2.trans e3,?_⟩;rw[r4.mem];exact k3
theorem AV{cv cg:Int}(hI:dR c B x)(ho:x.ow[p]? = some o)(hM:o.dx=none)(hg:Gn cg\/cg<0)(hN:db c p kd cv cg=some M) :
  kg c B (x.own p (o.wE kd cv cg M)) p kd (if kd=1 then -1 else (rl c x.m (if kd=3 then cv.toNat else p)).headD (-1)) (4+2*c.q):=by
 have hlt:p<x.ow.length:=(List.getElem?_eq_some_iff.1 ho).1;have hp:p<c.n:=by rw[← hI.len];exact hlt
 refine⟨(r_ hI ho hM hg hN).1,o.wE kd cv cg M,M,?_,rfl,rfl,HV hI.R hp hN (Nat.le_refl _)⟩;show(x.ow.set p _)[p]? = _;rw[List.getElem?_set_self hlt]
end
end Go.Proofs.YtkmccgombmogmaaGreat
