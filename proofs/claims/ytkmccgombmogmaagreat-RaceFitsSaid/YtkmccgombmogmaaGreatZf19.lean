/- Part of a proof: see the last text. -/
import Derived.Test.YtkmccgombmogmaaGreatZf18
import Derived.Test.YtkmccgombmogmaaGreatZf17
import Derived.Test.YtkmccgombmogmaaGreatZf15
set_option linter.unusedSimpArgs false
set_option linter.unusedVariables false
namespace Go.Proofs.YtkmccgombmogmaaGreat
open Go.Ev Go.Proofs.Tryz
open Go.RowKit
set_option maxRecDepth 8000
theorem Kj{c:aU}{p:Nat}(hp:p<c.n)(w:World):Calls prog 63 #[c.v,.int .i64 (p:Int)] w λe w'=>e=.returned (.agg #[.int .i64 (c.n:Int),.int .i64 (c.q:Int),.int .i64 c.g,.int .i64 c.m,.int .i64 c.t,.int .i64 c.s,.int .i64 (p:Int),.int .i64 1,.int .u64 0,.int .u32 0])/\Below w.heap.size w w':=by
 refine bh (Te w (λ_=>False) c p hp) (by kernel_rfl) (kZ w) (by simp) (by simp) (λκ w1 h1=>⟨rfl,h1.below (λ_ h=>h.elim)⟩)
theorem Cm{l:List aF}{e T:TypeId}{v':Value}{cs:List Value}{b n:Nat}{xs:List Value}{F:Nat->Prop}{w w':World}(h:cL l F w)(hb0:w'.heap[b]? = some (Obj.cells cs.toArray T (0,0)))(hbn:w.heap.size<=b)(ho:w'.ownsRow w.heap.size e 1 v' n xs)(hne:v'.ownBlock≠some b)(hb:Below w.heap.size w w') :
  af ⟨w,F⟩ (aE b cs T::bT e 1 v' n xs::l) w':=by
 obtain⟨hl,ho⟩:=ho;have key:∃ Fn,dT e 1 v' n xs Fn w'/\∀ j,Fn j->w.heap.size<=j/\j≠b:=by
  rcases ho with ⟨rfl,rfl⟩ | ⟨g,cap,cur,rfl,hg,hh,h1,h2,h3,h4⟩
  ·have:xs=[]:=List.eq_nil_of_length_eq_zero (by rw[hl])
   subst this;exact⟨λ_=>False,dT.nil e 1 w',λ_ h=>h.elim⟩
  ·refine⟨λj=>j=g,⟨hl,.inr ⟨g,0,cap,cur,rfl,λ_=>Iff.rfl,hh,λi hi=>?_,by rw[h3];omega,h1⟩⟩,λj hj=>by rw[hj];exact⟨hg,λe=>hne (by rw[← e];rfl)⟩⟩
   rw[← h4,Nat.zero_add,List.getElem?_take_of_lt hi];simp
 obtain⟨Fn,k1,k2⟩:=key;have hk:cL l F w':=fg h (λj hj=>hb.block j (h.lt j hj)) hb.size
 have hc:=bW (a:=bT e 1 v' n xs) k1 hk (λj hj=>dT.lt k1 j hj) (λj hj hf=>by
  have:=h.lt j hf;have:=(k2 j hj).1
  omega)
 have hbl:b<w'.heap.size:=(Array.getElem?_eq_some_iff.1 hb0).1;refine⟨⟨_,bW (a:=aE b cs T) (Fa:=λj=>j=b) ⟨λ_=>Iff.rfl,hb0⟩ hc (λj hj=>by rw[hj];exact hbl) (λj hj hf=>?_),⟨hb.os,hb.tape,hb.output,hb.size,λj hj _=>hb.block j hj⟩,λj hj=>?_⟩⟩
 ·rcases hf with hf | hf
  ·exact(k2 j hf).2 hj
  ·have:=h.lt j hf
   omega
 ·rcases hj with hj | hj | hj
  ·exact .inr (by rw[hj];exact hbn)
  ·exact .inr (k2 j hj).1
  ·exact .inl hj
theorem cell_of{W:World}{g:Nat}{xs:Array Value}{t:TypeId}{fr:Nat×Nat}(h:W.heap[g]? = some (Obj.cells xs t fr)):∀ (i:Nat) (u:Value),xs[i]? = some u->W.cell? ⟨g,i,none⟩=some u:=by
 intro i u hi;simp only[World.cell?,h];simpa using hi
theorem cf{W:World}{g:Nat}{xs:Array Value}{t:TypeId}(h:W.heap[g]? = some (Obj.cells xs t (0,0))):∀ (i:Nat),W.frozen? ⟨g,i,none⟩=false:=by
 intro i;simp[World.frozen?,h]
theorem AY{W:World}{g:Nat}{xs:Array Value}{t:TypeId}{fr:Nat×Nat}(h:W.heap[g]? = some (Obj.cells xs t fr))(i:Nat)(u:Value):(W.setCell ⟨g,i,none⟩ u).heap[g]? = some (Obj.cells (xs.setIfInBounds i u) t fr):=by
 simp[World.setCell,Array.getElem?_modify,h]
theorem Kk{w:World}{n:Nat}{e:TypeId}{sz k:Nat}{v:Value}{xs:List Value}(h:w.ownsRow n e sz v k xs)(a:Addr)(u:Value)(hn:v.ownBlock≠some a.block):(w.setCell a u).ownsRow n e sz v k xs:=by
 obtain⟨h1,h2 | ⟨g,cap,cur,rfl,b,r,q⟩⟩:=h
 ·exact⟨h1,.inl h2⟩
 ·refine⟨h1,.inr ⟨g,cap,cur,rfl,b,(Below.heap_setCell w a u g (λe=>hn (by rw[← e];rfl))).trans r,q⟩⟩
theorem Hj{v:Value}{l:List Int}{w:World}(hl:iM 1 v l.length (aX l) w)(hn:l.length<=1000000):Calls prog 97 #[v] w λe w'=>∃ v',e=.returned v'/\w'.ownsRow w.heap.size 3 1 v' l.length (aX l)/\Below w.heap.size w w':=by
 obtain⟨h1,⟨e,a,c,rfl⟩ | ⟨b,off,c,rfl,_,hc⟩⟩:=hl
 ·have:l=[]:=List.eq_nil_of_length_eq_zero e
  subst this;cases a with
  | none =>
   refine(nh 0 c w).mono ?_;rintro e w' ⟨rfl,rfl⟩;exact⟨_,rfl,World.ownsRow_nil _ _ _ _,Below.refl _ _⟩
  | some ad=>exact li ad 0 c [] w rfl (by omega) (λu h=>by cases h) (λj u h=>by simp at h)
 ·exact li ⟨b,off,none⟩ l.length c (aX l) w (by simp[aX]) hn hJ (λj u h=>by
   have hj:=(List.getElem?_eq_some_iff.1 h).1
   rw[show(⟨b,off,none⟩:Addr).add j=⟨b,off+j,none⟩ from fC b off j,hc j (by simp[aX]at hj;omega),h])
theorem Kl{w:World}{n k:Nat}{v:Value}{l:List Int}(h:w.ownsRow n 3 1 v l.length (aX l)):iM 1 v l.length (aX l) w:=by
 refine⟨h.1,?_⟩;have h0:=h;rcases h.2 with ⟨rfl,e⟩ | ⟨g,cap,cur,rfl,_,hg,hcap,_⟩
 ·exact .inl ⟨e,_,_,rfl⟩
 ·refine .inr ⟨g,0,cap,rfl,⟨(Array.getElem?_eq_some_iff.1 hg).1,hcap⟩,λj hj=>?_⟩
  have hj':j<(aX l).length:=by simp[aX];omega
  have:=h0.cells (g:=g) rfl j _ (List.getElem?_eq_getElem hj');rw[show(⟨g,0,none⟩:Addr).add j=⟨g,0+j,none⟩ from fC g 0 j]at this;rw[this,List.getElem?_eq_getElem hj']
set_option maxHeartbeats 2000000 in
theorem DL(m:Nat){c:aU}{p:Nat}(hp:p<c.n)(v:Value)(l:List Int)(w:World)(hl:iM 1 v l.length (aX l) w)(hg:∀ g ∈ l,0<=g)(hn:l.length<=64) :
  CallsIn Fence.wide m prog 172 #[c.v,.int .i64 (p:Int),v] w λe w'=>∃ b v',e=.returned (.pointer (some ⟨b,0,none⟩))/\w.heap.size<=b/\w'.heap[b]? = some (Obj.cells #[.int .i64 (c.n:Int),.int .i64 (c.q:Int),.int .i64 c.g,.int .i64 c.m,.int .i64 c.t,.int .i64 c.s,.int .i64 (p:Int),.int .i64 1,.int .u64 0,.int .u32 0,.int .u32 0,v'] 203 (0,0))/\w'.ownsRow w.heap.size 3 1 v' l.length (aX l)/\v'.ownBlock≠some b/\Below w.heap.size w w':=by
 refine callsIn_of_wp func172 rfl trivial ?_ rfl;simp only[ntmps172,List.size_toArray,List.length_cons,List.length_nil,Nat.reduceAdd,Nat.reduceSub,Array.replicate_succ,Array.replicate_zero,List.push_toArray,List.append_toArray,List.nil_append,List.cons_append];obtain⟨W1,hW1⟩:∃ W1,w.alloc (.cells #[.int .i64 (c.n:Int),.int .i64 (c.q:Int),.int .i64 c.g,.int .i64 c.m,.int .i64 c.t,.int .i64 c.s] 23)=W1:=⟨_,rfl⟩;have hB1:Below w.heap.size w W1:=by rw[← hW1];exact(Below.refl _ w).alloc (Nat.le_refl _) _
 have hs1:w.heap.size<=W1.heap.size:=hB1.size;have h1:W1.heap[w.heap.size]? = some (Obj.cells #[.int .i64 (c.n:Int),.int .i64 (c.q:Int),.int .i64 c.g,.int .i64 c.m,.int .i64 c.t,.int .i64 c.s] 23 (0,0)):=by rw[← hW1];exact World.alloc_heap_new _ _
 have d0:=cell_of h1 0 _ rfl;have d1:=cell_of h1 1 _ rfl;have d2:=cell_of h1 2 _ rfl;have d3:=cell_of h1 3 _ rfl;have d4:=cell_of h1 4 _ rfl;have d5:=cell_of h1 5 _ rfl
 gi_wp2
 refine⟨trivial,λh=>by simp[Fence.wide]at h,(callsIn_wide.2 (Kj hp W1)).mono ?_⟩;rintro e w2 ⟨rfl,hb2⟩;have hB2:Below w.heap.size w w2:=hB1.trans (hb2.mono hs1);have hs2:w.heap.size<=w2.heap.size:=hB2.size;obtain⟨W3,hW3⟩:∃ W3,w2.alloc (.cells #[.int .i64 (c.n:Int),.int .i64 (c.q:Int),.int .i64 c.g,.int .i64 c.m,.int .i64 c.t,.int .i64 c.s,.int .i64 (p:Int),.int .i64 1,.int .u64 0,.int .u32 0,.int .u32 0,.slice none 0 0] 203)=W3:=⟨_,rfl⟩;have hB3:Below w.heap.size w W3:=by rw[← hW3];exact hB2.alloc hs2 _
 have hs3:w.heap.size<=W3.heap.size:=hB3.size;have h3:W3.heap[w2.heap.size]? = some (Obj.cells #[.int .i64 (c.n:Int),.int .i64 (c.q:Int),.int .i64 c.g,.int .i64 c.m,.int .i64 c.t,.int .i64 c.s,.int .i64 (p:Int),.int .i64 1,.int .u64 0,.int .u32 0,.int .u32 0,.slice none 0 0] 203 (0,0)):=by rw[← hW3];exact World.alloc_heap_new _ _
 have hl3:=(Array.getElem?_eq_some_iff.1 h3).1;have c7:=cell_of h3 7 _ rfl;clear d0 d1 d2 d3 d4 d5;have Q5:iM 1 v l.length (aX l) W3:=by
  obtain⟨e1,e2 | ⟨b,off,c,e3,⟨e4,e5⟩,e6⟩⟩:=hl
  ·exact⟨e1,.inl e2⟩
  ·exact⟨e1,.inr ⟨b,off,c,e3,⟨Nat.lt_of_lt_of_le e4 hs3,e5⟩,λj hj=>(hB3.cell (p:=⟨b,off+j,none⟩) e4).trans (e6 j hj)⟩⟩
 gi_wp2
 refine⟨trivial,λh=>by simp[Fence.wide]at h,(callsIn_wide.2 (Hj Q5 (by omega))).mono ?_⟩;rintro e w4 ⟨v4,rfl,LI,hb4⟩
 gi_wp2
 refine⟨trivial,λh=>by simp[Fence.wide]at h,(Kh (m-1) v4 l w4 (Kl (k:=0) LI) hg (by omega)).mono ?_⟩;rintro e w5 ⟨rfl,rfl⟩;have h4:=(hb4.block _ hl3).trans h3;have c11:=cell_of h4 11 _ rfl;have f11:=cf h4 11;obtain⟨a4,k4,rfl⟩:∃ a k,v4=.slice a l.length k:=by
  rcases LI.2 with ⟨rfl,e⟩ | ⟨g,cap,cur,rfl,_⟩
  ·exact⟨none,0,by rw[e]⟩
  ·exact⟨_,cap,rfl⟩
 gi_wp2
 have h5:=AY h4 11 (.slice a4 l.length k4);simp only[List.setIfInBounds_toArray,List.set_cons_zero,List.set_cons_succ]at h5;have hne:(Value.slice a4 l.length k4).ownBlock≠some w2.heap.size:=by
  intro e;have:=(LI.lt _ e).1;omega
 refine bodyPost_ret (results_tmp rfl _ _ _) rfl ⟨w2.heap.size,_,rfl,hs2,h5,?_,hne,?_⟩
 ·refine Kk ?_ _ _ hne
  obtain⟨o1,o2 | ⟨g,cap,cur,oa,ob,oc⟩⟩:=LI
  ·exact⟨o1,.inl o2⟩
  ·exact⟨o1,.inr ⟨g,cap,cur,oa,Nat.le_trans hs3 ob,oc⟩⟩
 ·exact(hB3.trans (hb4.mono hs3)).setCell hs2 _
theorem Km{c:aU}{p:Nat}(hp:p<c.n){v:Value}{l:List Int}{ls:List aF}{F:Nat->Prop}{w:World}(hl:iM 1 v l.length (aX l) w)(hg:∀ g ∈ l,0<=g)(hn:l.length<=64)(h:cL ls F w) :
  Calls prog 172 #[c.v,.int .i64 (p:Int),v] w λe w'=>∃ b,e=.returned (.pointer (some ⟨b,0,none⟩))/\af ⟨w,F⟩ (ez c p b ⟨1,0,0,0,l⟩::ls) w':=by
 refine(callsIn_wide.1 (DL 0 hp v l w hl hg hn)).mono ?_;rintro e w' ⟨b,v',rfl,hb0,hb1,ho,hne,hb⟩;have h2:=Cm (cs:=[.int .i64 (c.n:Int),.int .i64 (c.q:Int),.int .i64 c.g,.int .i64 c.m,.int .i64 c.t,.int .i64 c.s,.int .i64 (p:Int),.int .i64 1,.int .u64 0,.int .u32 0,.int .u32 0,v']) h hb1 hb0 ho hne hb;have qp:aT v'=true:=by
  rcases ho.2 with ⟨rfl,_⟩ | ⟨g,cap,cur,rfl,_⟩<;>rfl
 exact⟨b,rfl,fU qp h2⟩
theorem aU.room(c:aU):bits .and .i64 (c.q:Int) ((c.q:Int)-1)=0:=by
 have h:=(hY c.h).2.1;rcases h with h | h | h | h | h | h<;>(rw[h];decide +kernel)
theorem Hk{q:Nat}(hq:q=2\/q=4\/q=8\/q=16\/q=32\/q=64){i:Int}(hi:0<=i/\i<4294967296):bits .and .i64 i ((q:Int)-1)=i%(q:Int):=by
 obtain⟨n,rfl⟩:=Int.eq_ofNat_of_zero_le hi.1;have h1:n<4294967296:=by omega
 have key:∀ k:Nat,k<=6->q=2 ^ k->bits .and .i64 (n:Int) ((q:Int)-1)=((n%q:Nat):Int):=by
  intro k hk e;have hq1:1<=q:=by rcases hq with h | h | h | h | h | h<;>omega
  have hq2:q<=64:=by rcases hq with h | h | h | h | h | h<;>omega
  have e1:((n:Int)%18446744073709551616).toNat=n:=by omega
  have e2:(((q:Int)-1)%18446744073709551616).toNat=q-1:=by omega
  have e3:n &&& (q-1)=n%q:=by rw[e];exact Nat.and_two_pow_sub_one_eq_mod n k
  have e4:(BitVec.ofInt 64 (n:Int) &&& BitVec.ofInt 64 ((q:Int)-1)).toNat=n%q:=by
   simp only[BitVec.toNat_and,BitVec.toNat_ofInt];rw[show((2 ^ 64:Nat):Int)=18446744073709551616 by rfl,e1,e2,e3]
  show IntKind.i64.wrap ((BitVec.ofInt 64 (n:Int) &&& BitVec.ofInt 64 ((q:Int)-1)).toNat:Int)=_;rw[e4];have:=Nat.mod_lt n (show 0<q by omega);exact bx (by omega) (by omega)
 have e5:((n%q:Nat):Int)=(n:Int)%(q:Int):=Int.natCast_emod n q;rw[← e5];rcases hq with h | h | h | h | h | h
 ·exact key 1 (by decide) h
 ·exact key 2 (by decide) h
 ·exact key 3 (by decide) h
 ·exact key 4 (by decide) h
 ·exact key 5 (by decide) h
 ·exact key 6 (by decide) h
theorem Cn(c:aU)(w:World):Calls prog 61 #[.int .i64 (c.q:Int)] w λe w'=>e=.returned (.bool true)/\w=w':=by
 have h1:=c.qb;have h2:(2:Int)<=(c.q:Int):=by omega
 have h3:(c.q:Int)<=65536:=by omega
 have h4:IntKind.i64.wrap ((c.q:Int)-1)=(c.q:Int)-1:=bx (by omega) (by omega);have h5:=c.room
 go_enter func61,ntmps61
 go_wp2
 go_ret
 exact⟨rfl,rfl⟩
theorem bk(c:aU){i:Int}(hi:0<=i/\i<4294967296)(w:World):Calls prog 106 #[.int .u32 i,.int .i64 (c.q:Int)] w λe w'=>e=.returned (.int .i64 ((c.ae i:Nat):Int))/\w=w':=by
 have h1:=c.qb;have h4:IntKind.i64.wrap ((c.q:Int)-1)=(c.q:Int)-1:=bx (by omega) (by omega);have h6:IntKind.i64.wrap i=i:=bx (by omega) (by omega);have h7:=(hY c.h).2.1;have h5:=Hk (q:=c.q) (by omega) hi;have h8:i%(c.q:Int)=((c.ae i:Nat):Int):=by
  have:=Int.emod_nonneg i (show(c.q:Int)≠0 by omega);unfold aU.ae;omega
 go_enter func106,ntmps106
 go_wp2_with (first | (go_at_call 61;refine(Cn c _).mono ?_;rintro e w' ⟨rfl,rfl⟩))
 go_ret
 exact⟨rfl,rfl⟩
end Go.Proofs.YtkmccgombmogmaaGreat
