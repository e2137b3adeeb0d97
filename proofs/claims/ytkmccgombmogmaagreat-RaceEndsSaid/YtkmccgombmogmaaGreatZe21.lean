/- Part of a proof: see the last text. -/
import Derived.Test.YtkmccgombmogmaaGreatZe20
import Derived.Laws.OwnMore
set_option linter.unusedSimpArgs false
set_option linter.unusedVariables false
namespace Go.Proofs.YtkmccgombmogmaaGreat
open Go.Ev Go.Proofs.Tryz
open Go.RowKit
set_option maxRecDepth 8000
theorem bR{ctx:dc}{b:Nat}{cs:List Value}{T:TypeId}{l:List aG}{w:World}(i:Nat)(v:Value)(h:af ctx (aH b cs T::l) w):af ctx (aH b (cs.set i v) T::l) (w.setCell ⟨b,i,none⟩ v):=by
 obtain⟨F,h1,h2,h3⟩:=h.ex;obtain⟨Fa,Fl,⟨k0,k1⟩,k2,k3,k4⟩:=bI h1;have hs:(w.setCell ⟨b,i,none⟩ v).heap.size=w.heap.size:=by simp[World.setCell]
 have hoff:∀ j,j≠b->(w.setCell ⟨b,i,none⟩ v).heap[j]? = w.heap[j]?:=λj hj=>Below.heap_setCell w ⟨b,i,none⟩ v j hj
 have hb:(w.setCell ⟨b,i,none⟩ v).heap[b]? = some (Obj.cells (cs.set i v).toArray T (0,0)):=by
  rw[As k1 i v];simp
 have hl2:cG l Fl (w.setCell ⟨b,i,none⟩ v):=fV k2 (λj hj=>hoff j (λe=>k3 j ((k0 j).2 e) hj)) (by rw[hs];exact Nat.le_refl _);have q:=bP (a:=aH b (cs.set i v) T) (Fa:=Fa) ⟨k0,hb⟩ hl2 (λj hj=>by rw[hs];exact h1.lt j ((k4 j).2 (.inl hj))) k3;have Ns:F b:=(k4 b).2 (.inl ((k0 b).2 rfl));refine⟨F,cF q (λj=>(k4 j).symm),⟨h2.os,h2.tape,h2.output,by rw[hs];exact h2.size,λj hj hx=>?_⟩,h3⟩;rw[hoff j (λe=>?_)]
 ·exact h2.block j hj hx
 ·subst e
  rcases h3 j Ns with h | h
  ·exact hx h
  ·omega
theorem gR{P:Program}{fn:Func}{w:World}{t1 t2:Tmp}(hres:fn.results = #[.tmp t1,.tmp t2])(tm:Array Value):(results fn tm).run P w=.ok (.tuple #[tm.getD t1 undef,tm.getD t2 undef]) w:=by
 simp[results,hres]
theorem ax{ctx:dc}{b:Nat}{cs:List Value}{T:TypeId}{l:List aG}{w:World}(h:af ctx (aH b cs T::l) w):w.heap[b]? = some (Obj.cells cs.toArray T (0,0)):=by
 obtain⟨F,h1,h2,h3⟩:=h.ex;obtain⟨Fa,Fl,⟨k0,k1⟩,k2,k3,k4⟩:=bI h1;exact k1
theorem bk{ctx:dc}{e:TypeId}{sz n:Nat}{v:Value}{xs:List Value}{l:List aG}{w:World}(h:af ctx (bQ e sz v n xs::l) w):jd sz v n xs w:=by
 obtain⟨f,hf⟩:=h.first
 exact dQ.ro hf
set_option maxHeartbeats 1000000 in
theorem BO(m:Nat){c:aP}{b:Nat}{x:ki}{F:Nat->Prop}{w:World}(hq:c.q<=8)(hx:eR c x){n:Nat}(hn:n<=(aX c x).length)(h:cG [hZ c b x] F w) :
  CallsIn Fence.wide m prog 98 #[.pointer (some ⟨b,0,none⟩),.int .i64 (n:Int)] w λe w'=>∃ v,aV v=true/\e=.returned v/\af ⟨w,F⟩ [cf v ((aX c x).take n),hZ c b ⟨fq x.w (n:Int),x.sl⟩] w':=by
 refine callsIn_of_wp func98 rfl trivial ?_ rfl;simp only[ntmps98,List.size_toArray,List.length_cons,List.length_nil,Nat.reduceAdd,Nat.reduceSub,Array.replicate_succ,Array.replicate_zero,List.push_toArray,List.append_toArray,List.nil_append,List.cons_append];have hlen:(aX c x).length<=8:=by
  have:=cu x.w;have:=hx.sz;simp only[aX,List.length_map,List.length_range];omega
 gi_wp2
 refine⟨trivial,λh=>by simp[Fence.wide]at h,(callsIn_wide.2 (GN hq hx h)).mono ?_⟩;rintro e w1 ⟨v,lv,rfl,hh⟩;have hsl:=bk hh;obtain⟨a0,c0,rfl⟩:∃ a k,v=.slice a (aX c x).length k:=by
  rcases hsl.2 with ⟨e,a,k,rfl⟩ | ⟨b,off,k,rfl,_⟩
  ·exact⟨a,k,by rw[e]⟩
  ·exact⟨_,k,rfl⟩
 have hcut:∀ w,(Instr.sliceAt 35 (.slice a0 (aX c x).length c0) none (some (.int .i64 (n:Int))) none).run prog w=.ok (Ev.cutV 1 (.slice a0 (aX c x).length c0) 0 n) w:=by
  obtain⟨i0,hi,hz1,hz0,hz2⟩:=bY;exact λw=>vV (kd:=.i64) (.inl ⟨rfl,rfl⟩) rfl hsl underlying35 hi hz1 (Nat.zero_le _) hn w
 obtain⟨sv,oG,h2⟩:=kQ (hh.sel [1,0]);have hb:=ax h2;have e0:=cell_of hb 0 _ rfl;have f0:=cB hb 0
 gi_wp2
 refine⟨trivial,λh=>by simp[Fence.wide]at h,(callsIn_wide.2 (t8 x.w (n:Int) hx.w w1)).mono ?_⟩;rintro e w2 ⟨rfl,rfl⟩
 gi_wp2
 have h3:=bR 0 (.int .u64 (fq x.w (n:Int))) h2;obtain⟨w4,hw4⟩:∃ w4,w1.setCell ⟨b,0,none⟩ (.int .u64 (fq x.w (n:Int)))=w4:=⟨_,rfl⟩;rw[hw4]at h3;have h4:af ⟨w,F⟩ [hZ c b ⟨fq x.w (n:Int),x.sl⟩,cf (.slice a0 (aX c x).length c0) (aX c x)] w4:=jW (x:=⟨fq x.w (n:Int),x.sl⟩) oG h3;have h5:=(h4.sel [1,0]).L3 (hi:=n) hn;have e5:bQ 3 1 (Ev.cutV 1 (.slice a0 (aX c x).length c0) 0 n) n ((bu (aX c x)).take (n*1))=cf (Ev.cutV 1 (.slice a0 (aX c x).length c0) 0 n) ((aX c x).take n):=by
  unfold cf;rw[Nat.mul_one,List.length_take,Nat.min_eq_left hn];simp[bu,List.map_take]
 rw[e5]at h5;rw[hw4];exact bodyPost_ret (results_tmp rfl _ _ _) rfl ⟨_,gx rfl,rfl,h5⟩
theorem uj{c:aP}{x:ki}(hx:eR c x):((aX c x).length:Int)=aO x.w:=by
 have:=cu x.w;simp only[aX,List.length_map,List.length_range];omega
theorem wa(m:Nat){c:aP}{b:Nat}{x:ki}{F:Nat->Prop}{w:World}(hx:eR c x)(h:cG [hZ c b x] F w) :
  CallsIn Fence.wide m prog 94 #[.pointer (some ⟨b,0,none⟩)] w λe w'=>e=.returned (.int .i64 (aO x.w))/\w'=w:=by
 obtain⟨sv,oG,h2⟩:=kQ (af.start h);have hb:=ax h2;have e0:=cell_of hb 0 _ rfl;have hbd:=cu x.w;have hw:IntKind.i64.wrap (aO x.w)=aO x.w:=aW (by omega) (by omega);have hel:CallsIn Fence.wide (m-1) prog 112 #[.pointer (some ⟨b,0,none⟩)] w λe w'=>e=.returned (.int .i64 (aO x.w))/\w'=w:=by
  refine callsIn_of_wp func112 rfl trivial ?_ rfl;simp only[ntmps112,List.size_toArray,List.length_cons,List.length_nil,Nat.reduceAdd,Nat.reduceSub,Array.replicate_succ,Array.replicate_zero,List.push_toArray,List.append_toArray,List.nil_append,List.cons_append]
  gi_wp2
  refine⟨trivial,λh=>by simp[Fence.wide]at h,(callsIn_wide.2 (cz x.w hx.w w)).mono ?_⟩;rintro e w2 ⟨rfl,rfl⟩
  gi_wp2
  exact bodyPost_ret (results_tmp rfl _ _ _) rfl ⟨rfl,rfl⟩
 refine callsIn_of_wp func94 rfl trivial ?_ rfl;simp only[ntmps94,List.size_toArray,List.length_cons,List.length_nil,Nat.reduceAdd,Nat.reduceSub,Array.replicate_succ,Array.replicate_zero,List.push_toArray,List.append_toArray,List.nil_append,List.cons_append]
 gi_wp2
 refine⟨trivial,λh=>by simp[Fence.wide]at h,hel.mono ?_⟩;rintro e w2 ⟨rfl,rfl⟩
 gi_wp2
 exact bodyPost_ret (results_tmp rfl _ _ _) rfl ⟨rfl,rfl⟩
theorem Jp(m:Nat){c:aP}{b:Nat}{x:ki}{F:Nat->Prop}{w:World}(hq:c.q<=8)(hx:eR c x)(h:cG [hZ c b x] F w) :
  CallsIn Fence.wide m prog 67 #[.pointer (some ⟨b,0,none⟩)] w λe w'=>e=.returned (.tuple #[.int .i64 ((aX c x).headD 0),.bool (decide (aO x.w≠0))])/\af ⟨w,F⟩ [hZ c b (if aO x.w=0 then x else ⟨fq x.w 1,x.sl⟩)] w':=by
 refine callsIn_of_wp func67 rfl trivial ?_ rfl;simp only[ntmps67,List.size_toArray,List.length_cons,List.length_nil,Nat.reduceAdd,Nat.reduceSub,Array.replicate_succ,Array.replicate_zero,List.push_toArray,List.append_toArray,List.nil_append,List.cons_append];have hl:=uj hx
 gi_wp2
 refine⟨trivial,λh=>by simp[Fence.wide]at h,(wa (m-1) hx h).mono ?_⟩;rintro e w1 ⟨rfl,rfl⟩
 by_cases h0:aO x.w=0
 ·have hzb:(aO x.w==0)=true:=by simpa using h0
  have ea:aX c x=[]:=List.eq_nil_of_length_eq_zero (by omega);have hst:=af.start h
  gi_wp2
  exact bodyPost_ret (gR rfl _) rfl ⟨rfl,hst⟩
 ·have hzb:(aO x.w==0)=false:=by simpa using h0
  gi_wp2
  refine⟨trivial,λh=>by simp[Fence.wide]at h,(BO (m-1) (n:=1) hq hx (by omega) h).mono ?_⟩;rintro e w2 ⟨v,lv,rfl,hh⟩;have hsl:=bk hh;obtain⟨g,rest,eg⟩:∃ g rest,aX c x=g::rest:=by
   cases ed:aX c x with
   | nil=>rw[ed]at hl;simp at hl;omega
   | cons g rest=>exact⟨g,rest,rfl⟩
  rw[eg]at hsl;obtain⟨b2,off,k,rfl,hc⟩:∃ b2 off k,v=.slice (some ⟨b2,off,none⟩) 1 k/\w2.cell? ⟨b2,off,none⟩=some (.int .i64 g):=by
   rcases hsl.2 with ⟨e,a,k,rfl⟩ | ⟨b2,off,k,rfl,_,hc⟩
   ·simp at e
   ·exact⟨b2,off,k,rfl,by have:=hc 0 (by simp);simpa[bu] using this⟩
  gi_wp2
  exact bodyPost_ret (gR rfl _) rfl ⟨rfl,hh.sel [1]⟩
theorem Df(m:Nat){c:aP}{b:Nat}{x:ki}{F:Nat->Prop}{w:World}(hq:c.q<=8)(hx:eR c x)(h:cG [hZ c b x] F w) :
  CallsIn Fence.wide m prog 101 #[.pointer (some ⟨b,0,none⟩)] w λe w'=>∃ v,aV v=true/\e=.returned v/\af ⟨w,F⟩ [cf v ((aX c x).take (cj (aO x.w)).toNat),hZ c b ⟨if aO x.w=0 then x.w else fq x.w (cj (aO x.w)),x.sl⟩] w':=by
 refine callsIn_of_wp func101 rfl trivial ?_ rfl;simp only[ntmps101,List.size_toArray,List.length_cons,List.length_nil,Nat.reduceAdd,Nat.reduceSub,Array.replicate_succ,Array.replicate_zero,List.push_toArray,List.append_toArray,List.nil_append,List.cons_append];have hl:=uj hx;have hbd:=cu x.w;have hsz:=hx.sz
 gi_wp2
 refine⟨trivial,λh=>by simp[Fence.wide]at h,(wa (m-1) hx h).mono ?_⟩;rintro e w1 ⟨rfl,rfl⟩
 by_cases h0:aO x.w=0
 ·have hzb:(aO x.w==0)=true:=by simpa using h0
  have ea:aX c x=[]:=List.eq_nil_of_length_eq_zero (by omega);have hn:af ⟨w1,F⟩ [cf (.slice none 0 0) [],hZ c b ⟨x.w,x.sl⟩] w1:=(af.start h).eC (e := 3) (sz:=1)
  gi_wp2
  exact bodyPost_ret (results_tmp rfl _ _ _) rfl ⟨.slice none 0 0,rfl,rfl,hn⟩
 ·have hzb:(aO x.w==0)=false:=by simpa using h0
  have ho:=iC hbd;have hw:IntKind.i64.wrap (cj (aO x.w))=cj (aO x.w):=aW (by omega) (by omega);obtain⟨n,hn⟩:∃ n:Nat,cj (aO x.w)=(n:Int):=⟨(cj (aO x.w)).toNat,by omega⟩;have hnl:n<=(aX c x).length:=by
   have:cj (aO x.w)<=aO x.w:=by unfold cj;omega
   omega
  obtain⟨sv,oG,h2⟩:=kQ (af.start h);have hb:=ax h2;have e0:=cell_of hb 0 _ rfl
  gi_wp2
  refine⟨trivial,λh=>by simp[Fence.wide]at h,(callsIn_wide.2 (cz x.w hx.w w1)).mono ?_⟩;rintro e w2 ⟨rfl,rfl⟩
  gi_wp2
  refine⟨trivial,λh=>by simp[Fence.wide]at h,(callsIn_wide.2 (pD (aO x.w) hbd w1)).mono ?_⟩;rintro e w2 ⟨rfl,rfl⟩
  gi_wp2
  refine⟨trivial,λh=>by simp[Fence.wide]at h,(BO (m-1) hq hx hnl h).mono ?_⟩;rintro e w2 ⟨v,lv,rfl,hh⟩
  gi_wp2
  exact bodyPost_ret (results_tmp rfl _ _ _) rfl ⟨_,lv,rfl,hh⟩
end Go.Proofs.YtkmccgombmogmaaGreat
namespace Go.Proofs.YtkmccgombmogmaaGreat
open Go.Ev Go.Proofs.Tryz
open Go.RowKit
open Go.Ev (sy iz uz wz iN uN wN pz dv fc fn ak vk vd kn pc cc cr cm cd fr)
set_option maxRecDepth 8000
attribute [local irreducible] og
abbrev jc(s:DP):aG:=bQ 3 1 (s.sv) (s.c.q) (bu s.sl)
abbrev yH(s:DP):List aG:=[jc s]
abbrev G9(s:DP)(g:Int):aG:=bQ 3 1 (s.sv) (s.c.q) ((bu s.sl).set ((s.c.ae (cy (s.w)))*1) (iz g))
abbrev yI(s:DP):List aG:=[aH s.bp [uz s.w,s.sv] 141,jc s]
abbrev G_(s:DP)(g:Int):List aG:=[aH s.bp [uz (dF s.w 1),s.sv] 141,(G9 s g)]
theorem Sb(s:DP)(g:Int):ce prog 95 [] 0 32 ⟨s.W0,s.F0⟩ [(0,pz s.bp),(1,iz g)] (yI s) (λκ:am=>(.tuple #[])) (λκ:am=>(G_ s g)):=by have q0:=s.c.qb;obtain⟨i,i1,i2,i3,i4⟩:=bY;exact(eH (c:=⟨s.W0,s.F0⟩) 2 (kn [s.sv,cY (s.sv) ((s.c.ae (cy (s.w)))*1),iz (g),uz (s.w),wz (cy (s.w)),iN (s.c.q),iN (s.c.ae (cy (s.w))),uz (dF s.w 1)] (fc s.oG (fc (aJ _ _) fr)) [] [] [] fn fn fn s.W0 s.F0 [yH s,[(G9 s g)]] [⟨[10,35],[sy 0],none,0,none,sy 5,none⟩,⟨[3,35],[sy 0,sy 6],none,0,none,sy 1,none⟩,⟨[2,3],[sy 1,sy 2],none,0,none,undef,some 1⟩] [⟨74,[sy 3],0,none,sy 4,none⟩,⟨106,[sy 4,sy 5],0,none,sy 6,none⟩,⟨113,[sy 3,.int .u32 1],1,none,sy 7,none⟩]) (fc (by exact bx (ci:=1) rfl rfl underlying35 i2 rfl rfl) (fc (by have z0:=s.c.az (cy (s.w));exact aS (ci:=1) (j:=(s.c.ae (cy (s.w)))) rfl rfl underlying35 i1 i2 rfl rfl (by omega) rfl) (fc (by have z0:=s.c.az (cy (s.w));exact yu (ci:=1) (m:=(s.c.ae (cy (s.w)))*1) (x:=(iz g)) rfl rfl rfl yw (by rw[Nat.mul_one,Nat.mul_one];exact s.c.az _) rfl (gS rfl) rfl) fn))) (fc (pc (args:=[uz s.w]) rfl (λw hb=>ag (lR _ s.hw w))) (fc (pc (args:=[(wz (cy (s.w))),iN s.c.q]) rfl (λw hb=>ag (aY s.c (i:=(cy (s.w))) (by first | exact bF _ | exact bJ s.hw | exact aQ _) w))) (fc (pc (args:=[uz s.w,.int .u32 1]) rfl (λw hb=>ag (t5 _ 1 s.hw w))) fn))) rfl [(4,s.bp)] [(4,[sy 3,sy 0],141)] [(4,[sy 7,sy 0],141)] 1 rfl rfl [(0,.pointer (some ⟨4,0,none⟩)),(1,sy 2)] (.tuple #[]))
theorem PV(s:DP)(g:Int)(hk:aO s.w<(s.c.q:Int)):ce prog 65 [] 0 48 ⟨s.W0,s.F0⟩ [(0,pz s.bp),(1,iz g)] (yI s) (λκ:am=>(.slice none 0 0)) (λκ:am=>(G_ s g)):=by have q0:=s.c.qb;have hk:=hk;obtain⟨i,i1,i2,i3,i4⟩:=bY;exact(eH (c:=⟨s.W0,s.F0⟩) 7 (kn [s.sv,cY (s.sv) ((s.c.ae (cy (s.w)))*1),wz (aO (s.w)),iz (g),uz (s.w),iz (aO (s.w)),iN (s.c.q),wz (cy (s.w)),iN (s.c.ae (cy (s.w))),uz (dF s.w 1)] (fc s.oG (fc (aJ _ _) fr)) [(.lss,sy 5,sy 6,.bool true)] [] [(.i64,sy 2,sy 5)] (fc (λ_ _ _=>aU (by have z0:=s.c.az (cy (s.w));first|(simp;done)|(simp;omega))) fn) fn (fc (cx rfl rfl (by have:=cu s.w;exact aW (by omega) (by omega))) fn) s.W0 s.F0 [yH s,[(G9 s g)]] [⟨[10,35],[sy 0],none,0,none,sy 6,none⟩,⟨[3,35],[sy 0,sy 8],none,0,none,sy 1,none⟩,⟨[2,3],[sy 1,sy 3],none,0,none,undef,some 1⟩] [⟨42,[sy 4],0,none,sy 2,none⟩,⟨74,[sy 4],0,none,sy 7,none⟩,⟨106,[sy 7,sy 6],0,none,sy 8,none⟩,⟨113,[sy 4,.int .u32 1],1,none,sy 9,none⟩]) (fc (by exact bx (ci:=1) rfl rfl underlying35 i2 rfl rfl) (fc (by have z0:=s.c.az (cy (s.w));exact aS (ci:=1) (j:=(s.c.ae (cy (s.w)))) rfl rfl underlying35 i1 i2 rfl rfl (by omega) rfl) (fc (by have z0:=s.c.az (cy (s.w));exact yu (ci:=1) (m:=(s.c.ae (cy (s.w)))*1) (x:=(iz g)) rfl rfl rfl yw (by rw[Nat.mul_one,Nat.mul_one];exact s.c.az _) rfl (gS rfl) rfl) fn))) (fc (pc (args:=[uz s.w]) rfl (λw hb=>ag (cz _ s.hw w))) (fc (pc (args:=[uz s.w]) rfl (λw hb=>ag (lR _ s.hw w))) (fc (pc (args:=[(wz (cy (s.w))),iN s.c.q]) rfl (λw hb=>ag (aY s.c (i:=(cy (s.w))) (by first | exact bF _ | exact bJ s.hw | exact aQ _) w))) (fc (pc (args:=[uz s.w,.int .u32 1]) rfl (λw hb=>ag (t5 _ 1 s.hw w))) fn)))) rfl [(4,s.bp)] [(4,[sy 4,sy 0],141)] [(4,[sy 9,sy 0],141)] 1 rfl rfl [(0,.pointer (some ⟨4,0,none⟩)),(1,sy 3)] (.slice none 0 0))
theorem PW(s:DP)(g:Int)(hq:s.c.q=2)(hk:aO s.w=2):ce prog 65 [] 0 48 ⟨s.W0,s.F0⟩ [(0,pz s.bp),(1,iz g)] (yI s) (λκ:am=>(dv κ 435)) (λκ:am=>[aH s.bp [(uz (dF s.w (-1))),s.sv] 141,jc s,bQ 3 1 (dv κ 435) (1+1) (([(iz (s.sl.getD ((s.c.ae (IntKind.u32.wrap (aj s.w+1)))) 0))])++[iz g])]):=by have q0:=s.c.qb;have hq:=hq;have hk:=hk;have z0:=s.ix;obtain⟨i,i1,i2,i3,i4⟩:=bY;exact(eH (c:=⟨s.W0,s.F0⟩) 7 (kn [s.sv,cY (s.sv) ((s.c.ae (IntKind.u32.wrap (aj s.w+1)))*1),wz (aO (s.w)),iz (aO (s.w)),iN (s.c.q),wz (aj (s.w)),wz (IntKind.u32.wrap (aj s.w+0)),wz (IntKind.u32.wrap (aj s.w+1)),wz (IntKind.u32.wrap (aj s.w+2)),wz (IntKind.u32.wrap (aj s.w+3)),wz (IntKind.u32.wrap (aj s.w+4)),wz (IntKind.u32.wrap (aj s.w+5)),wz (IntKind.u32.wrap (aj s.w+6)),wz (IntKind.u32.wrap (aj s.w+7)),wz (IntKind.u32.wrap (aj s.w+8)),iz (g),uz (s.w),iN (s.c.ae (IntKind.u32.wrap (aj s.w+1))),iz (s.sl.getD ((s.c.ae (IntKind.u32.wrap (aj s.w+1)))) 0),uz (dF s.w (-1))] (fc s.oG (fc (aJ _ _) fr)) [(.lss,sy 3,sy 4,.bool false),(.quo,sy 4,iz 2,iz 1),(.lss,iz 1,sy 3,.bool true),(.add,sy 5,.int .u32 1,sy 7),(.lss,iz 2,sy 3,.bool false)] [] [(.i64,sy 2,sy 3)] (fc (λ_ _ _=>aU (by first|(simp;done)|(simp;omega))) (fc (by intro t ox oy;rw[hq];exact nk (by decide) (by decide)) (fc (λ_ _ _=>aU (by first|(simp;done)|(simp;omega))) (fc (λ_ _ _=>aN rfl) (fc (λ_ _ _=>aU (by first|(simp;done)|(simp;omega))) fn))))) fn (fc (cx rfl rfl (by have:=cu s.w;exact aW (by omega) (by omega))) fn) s.W0 s.F0 [yH s,[jc s,jE 427 (λv=>bQ 3 1 v (1) ([(iz (s.sl.getD ((s.c.ae (IntKind.u32.wrap (aj s.w+1)))) 0))]))],[jc s,jE 435 (λv=>bQ 3 1 v (1+1) (([(iz (s.sl.getD ((s.c.ae (IntKind.u32.wrap (aj s.w+1)))) 0))])++[iz g]))]] [⟨[10,35],[sy 0],none,0,none,sy 4,none⟩,⟨[3,35],[sy 0,sy 17],none,0,none,sy 1,none⟩,⟨[1,3],[sy 1],none,0,none,sy 18,none⟩,⟨[11,35,35],[.slice none 0 0],some (1,1,[sy 18]),0,some 427,.complex .f32 427 0,some 1⟩,⟨[11,35,35],[.complex .f32 427 0],some (1,1,[sy 15]),1,some 435,.complex .f32 435 0,some 2⟩] [⟨42,[sy 16],0,none,sy 2,none⟩,⟨73,[sy 16],0,none,sy 5,none⟩,⟨106,[sy 7,sy 4],0,none,sy 17,none⟩,⟨42,[sy 16],1,none,sy 2,none⟩,⟨96,[sy 16,.int .u32 1],2,none,sy 19,none⟩]) (fc (by exact bx (ci:=1) rfl rfl underlying35 i2 rfl rfl) (fc (by exact aS (ci:=1) (j:=(s.c.ae (IntKind.u32.wrap (aj s.w+1)))) rfl rfl underlying35 i1 i2 rfl rfl (by omega) rfl) (fc (by exact bB (ci:=1) (m:=(s.c.ae (IntKind.u32.wrap (aj s.w+1)))*1) (x:=(iz (s.sl.getD ((s.c.ae (IntKind.u32.wrap (aj s.w+1)))) 0))) rfl rfl bC (by rw[Nat.mul_one];exact s.at _) (by rw[Nat.mul_one,Nat.mul_one];exact s.c.az _) rfl (λι=>(vk (by kernel_rfl) (by kernel_rfl)))) (fc (by exact dW (m:=1) (cs:=[(iz (s.sl.getD ((s.c.ae (IntKind.u32.wrap (aj s.w+1)))) 0))]) rfl rfl underlying35 underlying35 i1 i2 (by omega) i3 (by rw[i2];rfl) (by rw[i4];omega) (by omega) rfl (ak (by kernel_rfl) (by kernel_rfl))) (fc (by exact aT (ci:=2) (m:=1) (cs:=[iz g]) rfl rfl rfl underlying35 underlying35 i1 i2 (by omega) i3 (by rw[i2];rfl) (by rw[i4];omega) (by omega) rfl (ak (by kernel_rfl) (by kernel_rfl))) fn))))) (fc (pc (args:=[uz s.w]) rfl (λw hb=>ag (cz _ s.hw w))) (fc (pc (args:=[uz s.w]) rfl (λw hb=>ag (ct _ s.hw w))) (fc (pc (args:=[(wz (IntKind.u32.wrap (aj s.w+1))),iN s.c.q]) rfl (λw hb=>ag (aY s.c (i:=(IntKind.u32.wrap (aj s.w+1))) (by first | exact bF _ | exact bJ s.hw | exact aQ _) w))) (fc (pc (args:=[uz s.w]) rfl (λw hb=>ag (cz _ s.hw w))) (fc (pc (args:=[uz s.w,.int .u32 1]) rfl (λw hb=>ag (yx _ 1 s.hw w))) fn))))) rfl [(4,s.bp)] [(4,[sy 16,sy 0],141)] [(4,[sy 19,sy 0],141)] 2 rfl rfl [(0,.pointer (some ⟨4,0,none⟩)),(1,sy 15)] (.complex .f32 435 0)).conv (λκ w=>⟨(λ_ h=>h),(λ_ h=>h),(λ_ h=>fW (a:=λv=>bQ 3 1 v (1+1) (([(iz (s.sl.getD ((s.c.ae (IntKind.u32.wrap (aj s.w+1)))) 0))])++[iz g])) (λ_ _ _ _ _ h=>h) h),trivial⟩)
theorem PX(s:DP)(g:Int)(hq:s.c.q=4)(hk:aO s.w=4):ce prog 65 [] 0 48 ⟨s.W0,s.F0⟩ [(0,pz s.bp),(1,iz g)] (yI s) (λκ:am=>(dv κ 443)) (λκ:am=>[aH s.bp [(uz (dF s.w (-2))),s.sv] 141,jc s,bQ 3 1 (dv κ 443) (1+1+1) ((([(iz (s.sl.getD ((s.c.ae (IntKind.u32.wrap (aj s.w+2)))) 0))])++[(iz (s.sl.getD ((s.c.ae (IntKind.u32.wrap (aj s.w+3)))) 0))])++[iz g])]):=by have q0:=s.c.qb;have hq:=hq;have hk:=hk;have z0:=s.ix;obtain⟨i,i1,i2,i3,i4⟩:=bY;exact(eH (c:=⟨s.W0,s.F0⟩) 7 (kn [s.sv,cY (s.sv) ((s.c.ae (IntKind.u32.wrap (aj s.w+2)))*1),cY (s.sv) ((s.c.ae (IntKind.u32.wrap (aj s.w+3)))*1),wz (aO (s.w)),iz (aO (s.w)),iN (s.c.q),wz (aj (s.w)),wz (IntKind.u32.wrap (aj s.w+0)),wz (IntKind.u32.wrap (aj s.w+1)),wz (IntKind.u32.wrap (aj s.w+2)),wz (IntKind.u32.wrap (aj s.w+3)),wz (IntKind.u32.wrap (aj s.w+4)),wz (IntKind.u32.wrap (aj s.w+5)),wz (IntKind.u32.wrap (aj s.w+6)),wz (IntKind.u32.wrap (aj s.w+7)),wz (IntKind.u32.wrap (aj s.w+8)),iz (g),uz (s.w),iN (s.c.ae (IntKind.u32.wrap (aj s.w+2))),iz (s.sl.getD ((s.c.ae (IntKind.u32.wrap (aj s.w+2)))) 0),iN (s.c.ae (IntKind.u32.wrap (aj s.w+3))),iz (s.sl.getD ((s.c.ae (IntKind.u32.wrap (aj s.w+3)))) 0),uz (dF s.w (-2))] (fc s.oG (fc (aJ _ _) (fc (aJ _ _) fr))) [(.lss,sy 4,sy 5,.bool false),(.quo,sy 5,iz 2,iz 2),(.lss,iz 2,sy 4,.bool true),(.add,sy 6,.int .u32 2,sy 9),(.lss,iz 3,sy 4,.bool true),(.add,sy 6,.int .u32 3,sy 10),(.lss,iz 4,sy 4,.bool false)] [] [(.i64,sy 3,sy 4)] (fc (λ_ _ _=>aU (by first|(simp;done)|(simp;omega))) (fc (by intro t ox oy;rw[hq];exact nk (by decide) (by decide)) (fc (λ_ _ _=>aU (by first|(simp;done)|(simp;omega))) (fc (λ_ _ _=>aN rfl) (fc (λ_ _ _=>aU (by first|(simp;done)|(simp;omega))) (fc (λ_ _ _=>aN rfl) (fc (λ_ _ _=>aU (by first|(simp;done)|(simp;omega))) fn))))))) fn (fc (cx rfl rfl (by have:=cu s.w;exact aW (by omega) (by omega))) fn) s.W0 s.F0 [yH s,[jc s,jE 427 (λv=>bQ 3 1 v (1) ([(iz (s.sl.getD ((s.c.ae (IntKind.u32.wrap (aj s.w+2)))) 0))]))],[jc s,jE 435 (λv=>bQ 3 1 v (1+1) (([(iz (s.sl.getD ((s.c.ae (IntKind.u32.wrap (aj s.w+2)))) 0))])++[(iz (s.sl.getD ((s.c.ae (IntKind.u32.wrap (aj s.w+3)))) 0))]))],[jc s,jE 443 (λv=>bQ 3 1 v (1+1+1) ((([(iz (s.sl.getD ((s.c.ae (IntKind.u32.wrap (aj s.w+2)))) 0))])++[(iz (s.sl.getD ((s.c.ae (IntKind.u32.wrap (aj s.w+3)))) 0))])++[iz g]))]] [⟨[10,35],[sy 0],none,0,none,sy 5,none⟩,⟨[3,35],[sy 0,sy 18],none,0,none,sy 1,none⟩,⟨[1,3],[sy 1],none,0,none,sy 19,none⟩,⟨[11,35,35],[.slice none 0 0],some (1,1,[sy 19]),0,some 427,.complex .f32 427 0,some 1⟩,⟨[10,35],[sy 0],none,1,none,sy 5,none⟩,⟨[3,35],[sy 0,sy 20],none,1,none,sy 2,none⟩,⟨[1,3],[sy 2],none,1,none,sy 21,none⟩,⟨[11,35,35],[.complex .f32 427 0],some (1,1,[sy 21]),1,some 435,.complex .f32 435 0,some 2⟩,⟨[11,35,35],[.complex .f32 435 0],some (1,1,[sy 16]),2,some 443,.complex .f32 443 0,some 3⟩] [⟨42,[sy 17],0,none,sy 3,none⟩,⟨73,[sy 17],0,none,sy 6,none⟩,⟨106,[sy 9,sy 5],0,none,sy 18,none⟩,⟨42,[sy 17],1,none,sy 3,none⟩,⟨73,[sy 17],1,none,sy 6,none⟩,⟨106,[sy 10,sy 5],1,none,sy 20,none⟩,⟨42,[sy 17],2,none,sy 3,none⟩,⟨96,[sy 17,.int .u32 2],3,none,sy 22,none⟩]) (fc (by exact bx (ci:=1) rfl rfl underlying35 i2 rfl rfl) (fc (by exact aS (ci:=1) (j:=(s.c.ae (IntKind.u32.wrap (aj s.w+2)))) rfl rfl underlying35 i1 i2 rfl rfl (by omega) rfl) (fc (by exact bB (ci:=1) (m:=(s.c.ae (IntKind.u32.wrap (aj s.w+2)))*1) (x:=(iz (s.sl.getD ((s.c.ae (IntKind.u32.wrap (aj s.w+2)))) 0))) rfl rfl bC (by rw[Nat.mul_one];exact s.at _) (by rw[Nat.mul_one,Nat.mul_one];exact s.c.az _) rfl (λι=>(vk (by kernel_rfl) (by kernel_rfl)))) (fc (by exact dW (m:=1) (cs:=[(iz (s.sl.getD ((s.c.ae (IntKind.u32.wrap (aj s.w+2)))) 0))]) rfl rfl underlying35 underlying35 i1 i2 (by omega) i3 (by rw[i2];rfl) (by rw[i4];omega) (by omega) rfl (ak (by kernel_rfl) (by kernel_rfl))) (fc (by exact bx (ci:=1) rfl rfl underlying35 i2 rfl rfl) (fc (by exact aS (ci:=1) (j:=(s.c.ae (IntKind.u32.wrap (aj s.w+3)))) rfl rfl underlying35 i1 i2 rfl rfl (by omega) rfl) (fc (by exact bB (ci:=1) (m:=(s.c.ae (IntKind.u32.wrap (aj s.w+3)))*1) (x:=(iz (s.sl.getD ((s.c.ae (IntKind.u32.wrap (aj s.w+3)))) 0))) rfl rfl bC (by rw[Nat.mul_one];exact s.at _) (by rw[Nat.mul_one,Nat.mul_one];exact s.c.az _) rfl (λι=>(vk (by kernel_rfl) (by kernel_rfl)))) (fc (by exact aT (ci:=2) (m:=1) (cs:=[(iz (s.sl.getD ((s.c.ae (IntKind.u32.wrap (aj s.w+3)))) 0))]) rfl rfl rfl underlying35 underlying35 i1 i2 (by omega) i3 (by rw[i2];rfl) (by rw[i4];omega) (by omega) rfl (ak (by kernel_rfl) (by kernel_rfl))) (fc (by exact aT (ci:=2) (m:=1) (cs:=[iz g]) rfl rfl rfl underlying35 underlying35 i1 i2 (by omega) i3 (by rw[i2];rfl) (by rw[i4];omega) (by omega) rfl (ak (by kernel_rfl) (by kernel_rfl))) fn))))))))) (fc (pc (args:=[uz s.w]) rfl (λw hb=>ag (cz _ s.hw w))) (fc (pc (args:=[uz s.w]) rfl (λw hb=>ag (ct _ s.hw w))) (fc (pc (args:=[(wz (IntKind.u32.wrap (aj s.w+2))),iN s.c.q]) rfl (λw hb=>ag (aY s.c (i:=(IntKind.u32.wrap (aj s.w+2))) (by first | exact bF _ | exact bJ s.hw | exact aQ _) w))) (fc (pc (args:=[uz s.w]) rfl (λw hb=>ag (cz _ s.hw w))) (fc (pc (args:=[uz s.w]) rfl (λw hb=>ag (ct _ s.hw w))) (fc (pc (args:=[(wz (IntKind.u32.wrap (aj s.w+3))),iN s.c.q]) rfl (λw hb=>ag (aY s.c (i:=(IntKind.u32.wrap (aj s.w+3))) (by first | exact bF _ | exact bJ s.hw | exact aQ _) w))) (fc (pc (args:=[uz s.w]) rfl (λw hb=>ag (cz _ s.hw w))) (fc (pc (args:=[uz s.w,.int .u32 2]) rfl (λw hb=>ag (yx _ 2 s.hw w))) fn)))))))) rfl [(4,s.bp)] [(4,[sy 17,sy 0],141)] [(4,[sy 22,sy 0],141)] 3 rfl rfl [(0,.pointer (some ⟨4,0,none⟩)),(1,sy 16)] (.complex .f32 443 0)).conv (λκ w=>⟨(λ_ h=>h),(λ_ h=>h),(λ_ h=>fW (a:=λv=>bQ 3 1 v (1+1+1) ((([(iz (s.sl.getD ((s.c.ae (IntKind.u32.wrap (aj s.w+2)))) 0))])++[(iz (s.sl.getD ((s.c.ae (IntKind.u32.wrap (aj s.w+3)))) 0))])++[iz g])) (λ_ _ _ _ _ h=>h) h),trivial⟩)
theorem PY(s:DP)(g:Int)(hq:s.c.q=8)(hk:aO s.w=8):ce prog 65 [] 0 48 ⟨s.W0,s.F0⟩ [(0,pz s.bp),(1,iz g)] (yI s) (λκ:am=>(dv κ 459)) (λκ:am=>[aH s.bp [(uz (dF s.w (-4))),s.sv] 141,jc s,bQ 3 1 (dv κ 459) (1+1+1+1+1) ((((([(iz (s.sl.getD ((s.c.ae (IntKind.u32.wrap (aj s.w+4)))) 0))])++[(iz (s.sl.getD ((s.c.ae (IntKind.u32.wrap (aj s.w+5)))) 0))])++[(iz (s.sl.getD ((s.c.ae (IntKind.u32.wrap (aj s.w+6)))) 0))])++[(iz (s.sl.getD ((s.c.ae (IntKind.u32.wrap (aj s.w+7)))) 0))])++[iz g])]):=by have q0:=s.c.qb;have hq:=hq;have hk:=hk;have z0:=s.ix;obtain⟨i,i1,i2,i3,i4⟩:=bY;exact(eH (c:=⟨s.W0,s.F0⟩) 7 (kn [s.sv,cY (s.sv) ((s.c.ae (IntKind.u32.wrap (aj s.w+4)))*1),cY (s.sv) ((s.c.ae (IntKind.u32.wrap (aj s.w+5)))*1),cY (s.sv) ((s.c.ae (IntKind.u32.wrap (aj s.w+6)))*1),cY (s.sv) ((s.c.ae (IntKind.u32.wrap (aj s.w+7)))*1),wz (aO (s.w)),iz (aO (s.w)),iN (s.c.q),wz (aj (s.w)),wz (IntKind.u32.wrap (aj s.w+0)),wz (IntKind.u32.wrap (aj s.w+1)),wz (IntKind.u32.wrap (aj s.w+2)),wz (IntKind.u32.wrap (aj s.w+3)),wz (IntKind.u32.wrap (aj s.w+4)),wz (IntKind.u32.wrap (aj s.w+5)),wz (IntKind.u32.wrap (aj s.w+6)),wz (IntKind.u32.wrap (aj s.w+7)),wz (IntKind.u32.wrap (aj s.w+8)),iz (g),uz (s.w),iN (s.c.ae (IntKind.u32.wrap (aj s.w+4))),iz (s.sl.getD ((s.c.ae (IntKind.u32.wrap (aj s.w+4)))) 0),iN (s.c.ae (IntKind.u32.wrap (aj s.w+5))),iz (s.sl.getD ((s.c.ae (IntKind.u32.wrap (aj s.w+5)))) 0),iN (s.c.ae (IntKind.u32.wrap (aj s.w+6))),iz (s.sl.getD ((s.c.ae (IntKind.u32.wrap (aj s.w+6)))) 0),iN (s.c.ae (IntKind.u32.wrap (aj s.w+7))),iz (s.sl.getD ((s.c.ae (IntKind.u32.wrap (aj s.w+7)))) 0),uz (dF s.w (-4))] (fc s.oG (fc (aJ _ _) (fc (aJ _ _) (fc (aJ _ _) (fc (aJ _ _) fr))))) [(.lss,sy 6,sy 7,.bool false),(.quo,sy 7,iz 2,iz 4),(.lss,iz 4,sy 6,.bool true),(.add,sy 8,.int .u32 4,sy 13),(.lss,iz 5,sy 6,.bool true),(.add,sy 8,.int .u32 5,sy 14),(.lss,iz 6,sy 6,.bool true),(.add,sy 8,.int .u32 6,sy 15),(.lss,iz 7,sy 6,.bool true),(.add,sy 8,.int .u32 7,sy 16),(.lss,iz 8,sy 6,.bool false)] [] [(.i64,sy 5,sy 6)] (fc (λ_ _ _=>aU (by first|(simp;done)|(simp;omega))) (fc (by intro t ox oy;rw[hq];exact nk (by decide) (by decide)) (fc (λ_ _ _=>aU (by first|(simp;done)|(simp;omega))) (fc (λ_ _ _=>aN rfl) (fc (λ_ _ _=>aU (by first|(simp;done)|(simp;omega))) (fc (λ_ _ _=>aN rfl) (fc (λ_ _ _=>aU (by first|(simp;done)|(simp;omega))) (fc (λ_ _ _=>aN rfl) (fc (λ_ _ _=>aU (by first|(simp;done)|(simp;omega))) (fc (λ_ _ _=>aN rfl) (fc (λ_ _ _=>aU (by first|(simp;done)|(simp;omega))) fn))))))))))) fn (fc (cx rfl rfl (by have:=cu s.w;exact aW (by omega) (by omega))) fn) s.W0 s.F0 [yH s,[jc s,jE 427 (λv=>bQ 3 1 v (1) ([(iz (s.sl.getD ((s.c.ae (IntKind.u32.wrap (aj s.w+4)))) 0))]))],[jc s,jE 435 (λv=>bQ 3 1 v (1+1) (([(iz (s.sl.getD ((s.c.ae (IntKind.u32.wrap (aj s.w+4)))) 0))])++[(iz (s.sl.getD ((s.c.ae (IntKind.u32.wrap (aj s.w+5)))) 0))]))],[jc s,jE 443 (λv=>bQ 3 1 v (1+1+1) ((([(iz (s.sl.getD ((s.c.ae (IntKind.u32.wrap (aj s.w+4)))) 0))])++[(iz (s.sl.getD ((s.c.ae (IntKind.u32.wrap (aj s.w+5)))) 0))])++[(iz (s.sl.getD ((s.c.ae (IntKind.u32.wrap (aj s.w+6)))) 0))]))],[jc s,jE 451 (λv=>bQ 3 1 v (1+1+1+1) (((([(iz (s.sl.getD ((s.c.ae (IntKind.u32.wrap (aj s.w+4)))) 0))])++[(iz (s.sl.getD ((s.c.ae (IntKind.u32.wrap (aj s.w+5)))) 0))])++[(iz (s.sl.getD ((s.c.ae (IntKind.u32.wrap (aj s.w+6)))) 0))])++[(iz (s.sl.getD ((s.c.ae (IntKind.u32.wrap (aj s.w+7)))) 0))]))],[jc s,jE 459 (λv=>bQ 3 1 v (1+1+1+1+1) ((((([(iz (s.sl.getD ((s.c.ae (IntKind.u32.wrap (aj s.w+4)))) 0))])++[(iz (s.sl.getD ((s.c.ae (IntKind.u32.wrap (aj s.w+5)))) 0))])++[(iz (s.sl.getD ((s.c.ae (IntKind.u32.wrap (aj s.w+6)))) 0))])++[(iz (s.sl.getD ((s.c.ae (IntKind.u32.wrap (aj s.w+7)))) 0))])++[iz g]))]] [⟨[10,35],[sy 0],none,0,none,sy 7,none⟩,⟨[3,35],[sy 0,sy 20],none,0,none,sy 1,none⟩,⟨[1,3],[sy 1],none,0,none,sy 21,none⟩,⟨[11,35,35],[.slice none 0 0],some (1,1,[sy 21]),0,some 427,.complex .f32 427 0,some 1⟩,⟨[10,35],[sy 0],none,1,none,sy 7,none⟩,⟨[3,35],[sy 0,sy 22],none,1,none,sy 2,none⟩,⟨[1,3],[sy 2],none,1,none,sy 23,none⟩,⟨[11,35,35],[.complex .f32 427 0],some (1,1,[sy 23]),1,some 435,.complex .f32 435 0,some 2⟩,⟨[10,35],[sy 0],none,2,none,sy 7,none⟩,⟨[3,35],[sy 0,sy 24],none,2,none,sy 3,none⟩,⟨[1,3],[sy 3],none,2,none,sy 25,none⟩,⟨[11,35,35],[.complex .f32 435 0],some (1,1,[sy 25]),2,some 443,.complex .f32 443 0,some 3⟩,⟨[10,35],[sy 0],none,3,none,sy 7,none⟩,⟨[3,35],[sy 0,sy 26],none,3,none,sy 4,none⟩,⟨[1,3],[sy 4],none,3,none,sy 27,none⟩,⟨[11,35,35],[.complex .f32 443 0],some (1,1,[sy 27]),3,some 451,.complex .f32 451 0,some 4⟩,⟨[11,35,35],[.complex .f32 451 0],some (1,1,[sy 18]),4,some 459,.complex .f32 459 0,some 5⟩] [⟨42,[sy 19],0,none,sy 5,none⟩,⟨73,[sy 19],0,none,sy 8,none⟩,⟨106,[sy 13,sy 7],0,none,sy 20,none⟩,⟨42,[sy 19],1,none,sy 5,none⟩,⟨73,[sy 19],1,none,sy 8,none⟩,⟨106,[sy 14,sy 7],1,none,sy 22,none⟩,⟨42,[sy 19],2,none,sy 5,none⟩,⟨73,[sy 19],2,none,sy 8,none⟩,⟨106,[sy 15,sy 7],2,none,sy 24,none⟩,⟨42,[sy 19],3,none,sy 5,none⟩,⟨73,[sy 19],3,none,sy 8,none⟩,⟨106,[sy 16,sy 7],3,none,sy 26,none⟩,⟨42,[sy 19],4,none,sy 5,none⟩,⟨96,[sy 19,.int .u32 4],5,none,sy 28,none⟩]) (fc (by exact bx (ci:=1) rfl rfl underlying35 i2 rfl rfl) (fc (by exact aS (ci:=1) (j:=(s.c.ae (IntKind.u32.wrap (aj s.w+4)))) rfl rfl underlying35 i1 i2 rfl rfl (by omega) rfl) (fc (by exact bB (ci:=1) (m:=(s.c.ae (IntKind.u32.wrap (aj s.w+4)))*1) (x:=(iz (s.sl.getD ((s.c.ae (IntKind.u32.wrap (aj s.w+4)))) 0))) rfl rfl bC (by rw[Nat.mul_one];exact s.at _) (by rw[Nat.mul_one,Nat.mul_one];exact s.c.az _) rfl (λι=>(vk (by kernel_rfl) (by kernel_rfl)))) (fc (by exact dW (m:=1) (cs:=[(iz (s.sl.getD ((s.c.ae (IntKind.u32.wrap (aj s.w+4)))) 0))]) rfl rfl underlying35 underlying35 i1 i2 (by omega) i3 (by rw[i2];rfl) (by rw[i4];omega) (by omega) rfl (ak (by kernel_rfl) (by kernel_rfl))) (fc (by exact bx (ci:=1) rfl rfl underlying35 i2 rfl rfl) (fc (by exact aS (ci:=1) (j:=(s.c.ae (IntKind.u32.wrap (aj s.w+5)))) rfl rfl underlying35 i1 i2 rfl rfl (by omega) rfl) (fc (by exact bB (ci:=1) (m:=(s.c.ae (IntKind.u32.wrap (aj s.w+5)))*1) (x:=(iz (s.sl.getD ((s.c.ae (IntKind.u32.wrap (aj s.w+5)))) 0))) rfl rfl bC (by rw[Nat.mul_one];exact s.at _) (by rw[Nat.mul_one,Nat.mul_one];exact s.c.az _) rfl (λι=>(vk (by kernel_rfl) (by kernel_rfl)))) (fc (by exact aT (ci:=2) (m:=1) (cs:=[(iz (s.sl.getD ((s.c.ae (IntKind.u32.wrap (aj s.w+5)))) 0))]) rfl rfl rfl underlying35 underlying35 i1 i2 (by omega) i3 (by rw[i2];rfl) (by rw[i4];omega) (by omega) rfl (ak (by kernel_rfl) (by kernel_rfl))) (fc (by exact bx (ci:=1) rfl rfl underlying35 i2 rfl rfl) (fc (by exact aS (ci:=1) (j:=(s.c.ae (IntKind.u32.wrap (aj s.w+6)))) rfl rfl underlying35 i1 i2 rfl rfl (by omega) rfl) (fc (by exact bB (ci:=1) (m:=(s.c.ae (IntKind.u32.wrap (aj s.w+6)))*1) (x:=(iz (s.sl.getD ((s.c.ae (IntKind.u32.wrap (aj s.w+6)))) 0))) rfl rfl bC (by rw[Nat.mul_one];exact s.at _) (by rw[Nat.mul_one,Nat.mul_one];exact s.c.az _) rfl (λι=>(vk (by kernel_rfl) (by kernel_rfl)))) (fc (by exact aT (ci:=2) (m:=1) (cs:=[(iz (s.sl.getD ((s.c.ae (IntKind.u32.wrap (aj s.w+6)))) 0))]) rfl rfl rfl underlying35 underlying35 i1 i2 (by omega) i3 (by rw[i2];rfl) (by rw[i4];omega) (by omega) rfl (ak (by kernel_rfl) (by kernel_rfl))) (fc (by exact bx (ci:=1) rfl rfl underlying35 i2 rfl rfl) (fc (by exact aS (ci:=1) (j:=(s.c.ae (IntKind.u32.wrap (aj s.w+7)))) rfl rfl underlying35 i1 i2 rfl rfl (by omega) rfl) (fc (by exact bB (ci:=1) (m:=(s.c.ae (IntKind.u32.wrap (aj s.w+7)))*1) (x:=(iz (s.sl.getD ((s.c.ae (IntKind.u32.wrap (aj s.w+7)))) 0))) rfl rfl bC (by rw[Nat.mul_one];exact s.at _) (by rw[Nat.mul_one,Nat.mul_one];exact s.c.az _) rfl (λι=>(vk (by kernel_rfl) (by kernel_rfl)))) (fc (by exact aT (ci:=2) (m:=1) (cs:=[(iz (s.sl.getD ((s.c.ae (IntKind.u32.wrap (aj s.w+7)))) 0))]) rfl rfl rfl underlying35 underlying35 i1 i2 (by omega) i3 (by rw[i2];rfl) (by rw[i4];omega) (by omega) rfl (ak (by kernel_rfl) (by kernel_rfl))) (fc (by exact aT (ci:=2) (m:=1) (cs:=[iz g]) rfl rfl rfl underlying35 underlying35 i1 i2 (by omega) i3 (by rw[i2];rfl) (by rw[i4];omega) (by omega) rfl (ak (by kernel_rfl) (by kernel_rfl))) fn))))))))))))))))) (fc (pc (args:=[uz s.w]) rfl (λw hb=>ag (cz _ s.hw w))) (fc (pc (args:=[uz s.w]) rfl (λw hb=>ag (ct _ s.hw w))) (fc (pc (args:=[(wz (IntKind.u32.wrap (aj s.w+4))),iN s.c.q]) rfl (λw hb=>ag (aY s.c (i:=(IntKind.u32.wrap (aj s.w+4))) (by first | exact bF _ | exact bJ s.hw | exact aQ _) w))) (fc (pc (args:=[uz s.w]) rfl (λw hb=>ag (cz _ s.hw w))) (fc (pc (args:=[uz s.w]) rfl (λw hb=>ag (ct _ s.hw w))) (fc (pc (args:=[(wz (IntKind.u32.wrap (aj s.w+5))),iN s.c.q]) rfl (λw hb=>ag (aY s.c (i:=(IntKind.u32.wrap (aj s.w+5))) (by first | exact bF _ | exact bJ s.hw | exact aQ _) w))) (fc (pc (args:=[uz s.w]) rfl (λw hb=>ag (cz _ s.hw w))) (fc (pc (args:=[uz s.w]) rfl (λw hb=>ag (ct _ s.hw w))) (fc (pc (args:=[(wz (IntKind.u32.wrap (aj s.w+6))),iN s.c.q]) rfl (λw hb=>ag (aY s.c (i:=(IntKind.u32.wrap (aj s.w+6))) (by first | exact bF _ | exact bJ s.hw | exact aQ _) w))) (fc (pc (args:=[uz s.w]) rfl (λw hb=>ag (cz _ s.hw w))) (fc (pc (args:=[uz s.w]) rfl (λw hb=>ag (ct _ s.hw w))) (fc (pc (args:=[(wz (IntKind.u32.wrap (aj s.w+7))),iN s.c.q]) rfl (λw hb=>ag (aY s.c (i:=(IntKind.u32.wrap (aj s.w+7))) (by first | exact bF _ | exact bJ s.hw | exact aQ _) w))) (fc (pc (args:=[uz s.w]) rfl (λw hb=>ag (cz _ s.hw w))) (fc (pc (args:=[uz s.w,.int .u32 4]) rfl (λw hb=>ag (yx _ 4 s.hw w))) fn)))))))))))))) rfl [(4,s.bp)] [(4,[sy 19,sy 0],141)] [(4,[sy 28,sy 0],141)] 5 rfl rfl [(0,.pointer (some ⟨4,0,none⟩)),(1,sy 18)] (.complex .f32 459 0)).conv (λκ w=>⟨(λ_ h=>h),(λ_ h=>h),(λ_ h=>fW (a:=λv=>bQ 3 1 v (1+1+1+1+1) ((((([(iz (s.sl.getD ((s.c.ae (IntKind.u32.wrap (aj s.w+4)))) 0))])++[(iz (s.sl.getD ((s.c.ae (IntKind.u32.wrap (aj s.w+5)))) 0))])++[(iz (s.sl.getD ((s.c.ae (IntKind.u32.wrap (aj s.w+6)))) 0))])++[(iz (s.sl.getD ((s.c.ae (IntKind.u32.wrap (aj s.w+7)))) 0))])++[iz g])) (λ_ _ _ _ _ h=>h) h),trivial⟩)
end Go.Proofs.YtkmccgombmogmaaGreat
namespace Go.Proofs.YtkmccgombmogmaaGreat
open Go.Ev Go.Proofs.Tryz
open Go.RowKit
open Go.Ev (sy)
set_option maxRecDepth 8000
def dP(c:aP)(x:ki)(g:Int):ki:=⟨dF x.w 1,x.sl.set (c.ae (cy x.w)) g⟩
def cK(c:aP)(x:ki)(g:Int):ki×List Int:=if aO x.w<(c.q:Int) then (dP c x g,[]) else (⟨dF x.w (-((c.q / 2:Nat):Int)),x.sl⟩,(aX c x).drop (c.q / 2)++[g])
theorem ints_set(l:List Int)(i:Nat)(g:Int):(bu l).set (i*1) (.int .i64 g)=bu (l.set i g):=by
 rw[Nat.mul_one];simp[bu,List.map_set]
section
variable{w:World}{F:Nat->Prop}{c:aP}{b:Nat}{x:ki}
theorem G'(hx:eR c x)(g:Int)(h:cG [hZ c b x] F w) :
  Calls prog 95 #[.pointer (some ⟨b,0,none⟩),.int .i64 g] w λe w'=>e=.returned (.tuple #[])/\af ⟨w,F⟩ [hZ c b (dP c x g)] w':=by
 obtain⟨sv,oG,hh⟩:=kQ (af.start h);obtain⟨F',n1,n2,n3⟩:=hh.ex
 let s:DP:=⟨w,F',c,x.w,hx.w,b,sv,oG,x.sl,hx.sl⟩
 refine a_ (Sb s g) (by kernel_rfl) n1 (by simp) (by simp[s]) (λκ w1 h1=>⟨rfl,?_⟩);have h2:af ⟨w,F⟩ [Ma b (dP c x g) sv,bQ 3 1 sv c.q ((bu x.sl).set (c.ae (cy x.w)*1) (.int .i64 g))] w1:=h1.into (l:=[]) n2 n3;rw[ints_set]at h2;exact jW (x:=dP c x g) oG h2
theorem Jq(hq:c.q=2\/c.q=4\/c.q=8)(hx:eR c x)(g:Int)(h:cG [hZ c b x] F w) :
  Calls prog 65 #[.pointer (some ⟨b,0,none⟩),.int .i64 g] w λe w'=>∃ v,aV v=true/\e=.returned v/\af ⟨w,F⟩ [cf v (cK c x g).2,hZ c b (cK c x g).1] w':=by
 obtain⟨sv,oG,hh⟩:=kQ (af.start h);obtain⟨F',n1,n2,n3⟩:=hh.ex
 let s:DP:=⟨w,F',c,x.w,hx.w,b,sv,oG,x.sl,hx.sl⟩
 have into:∀ {l:List aG} {w1:World},af ⟨w,F'⟩ l w1->af ⟨w,F⟩ l w1:=λhh=>hh.into (l:=[]) n2 n3
 by_cases hk:aO x.w<(c.q:Int)
 ·rw[show cK c x g=(dP c x g,[]) by simp only[cK,if_pos hk]]
  refine a_ (PV s g hk) (by kernel_rfl) n1 (by simp) (by simp[s]) (λκ w1 h1=>⟨_,rfl,rfl,?_⟩);have h2:af ⟨w,F⟩ [Ma b (dP c x g) sv,bQ 3 1 sv c.q ((bu x.sl).set (c.ae (cy x.w)*1) (.int .i64 g))] w1:=into h1;rw[ints_set]at h2;have h3:af ⟨w,F⟩ [hZ c b (dP c x g)] w1:=jW (x:=dP c x g) oG h2;exact h3.eC (e := 3) (sz:=1)
 ·have hs:=hx.sz
  have hke:aO x.w=(c.q:Int):=by omega
  have fin:∀ (u:Value) (y:ki) (l:List Int) (w1:World),af ⟨w,F⟩ [Ma b y sv,bQ 3 1 sv c.q (bu y.sl),cf u l] w1->aV u=true/\af ⟨w,F⟩ [cf u l,hZ c b y] w1:=by
   intro u y l w1 h1;have h2:af ⟨w,F⟩ [hZ c b y,cf u l] w1:=jW oG h1;exact⟨dK (h2.sel [1]),h2.sel [1,0]⟩
  rcases hq with hq | hq | hq
  ·have ea:(cK c x g)=(⟨dF x.w (-1),x.sl⟩,[aR c x 1]++[g]):=by
    have e0:aX c x=(List.range 2).map (aR c x):=by unfold aX;rw[hke,hq];rfl
    simp only[cK,if_neg hk];rw[e0,hq];rfl
   rw[ea];refine a_ (PW s g hq (by rw[show aO s.w=aO x.w from rfl,hke,hq];rfl)) (by kernel_rfl) n1 (by simp) (by simp[s]) (λκ w1 h1=>?_);have h2:=into h1
   obtain⟨q1,q2⟩:=fin _ ⟨dF x.w (-1),x.sl⟩ ([aR c x 1]++[g]) w1 (by
    have e2:cf (Ev.dec ((κ 435).getD 0)) ([aR c x 1]++[g])=bQ 3 1 (Ev.dec ((κ 435).getD 0)) (1+1) ([Value.int .i64 (x.sl.getD (c.ae (IntKind.u32.wrap (aj x.w+1))) 0)]++[Value.int .i64 g]):=by simp only[show x.sl.getD (c.ae (IntKind.u32.wrap (aj x.w+1))) 0=aR c x 1 from bK 1];rfl
    rw[e2]
    exact h2)
   exact⟨_,q1,rfl,q2⟩
  ·have ea:(cK c x g)=(⟨dF x.w (-2),x.sl⟩,[aR c x 2]++[aR c x 3]++[g]):=by
    have e0:aX c x=(List.range 4).map (aR c x):=by unfold aX;rw[hke,hq];rfl
    simp only[cK,if_neg hk];rw[e0,hq];rfl
   rw[ea];refine a_ (PX s g hq (by rw[show aO s.w=aO x.w from rfl,hke,hq];rfl)) (by kernel_rfl) n1 (by simp) (by simp[s]) (λκ w1 h1=>?_);have h2:=into h1
   obtain⟨q1,q2⟩:=fin _ ⟨dF x.w (-2),x.sl⟩ ([aR c x 2]++[aR c x 3]++[g]) w1 (by
    have e2:cf (Ev.dec ((κ 443).getD 0)) ([aR c x 2]++[aR c x 3]++[g])=bQ 3 1 (Ev.dec ((κ 443).getD 0)) (1+1+1) ([Value.int .i64 (x.sl.getD (c.ae (IntKind.u32.wrap (aj x.w+2))) 0)]++[Value.int .i64 (x.sl.getD (c.ae (IntKind.u32.wrap (aj x.w+3))) 0)]++[Value.int .i64 g]):=by simp only[show x.sl.getD (c.ae (IntKind.u32.wrap (aj x.w+2))) 0=aR c x 2 from bK 2,show x.sl.getD (c.ae (IntKind.u32.wrap (aj x.w+3))) 0=aR c x 3 from bK 3];rfl
    rw[e2]
    exact h2)
   exact⟨_,q1,rfl,q2⟩
  ·have ea:(cK c x g)=(⟨dF x.w (-4),x.sl⟩,[aR c x 4]++[aR c x 5]++[aR c x 6]++[aR c x 7]++[g]):=by
    have e0:aX c x=(List.range 8).map (aR c x):=by unfold aX;rw[hke,hq];rfl
    simp only[cK,if_neg hk];rw[e0,hq];rfl
   rw[ea];refine a_ (PY s g hq (by rw[show aO s.w=aO x.w from rfl,hke,hq];rfl)) (by kernel_rfl) n1 (by simp) (by simp[s]) (λκ w1 h1=>?_);have h2:=into h1
   obtain⟨q1,q2⟩:=fin _ ⟨dF x.w (-4),x.sl⟩ ([aR c x 4]++[aR c x 5]++[aR c x 6]++[aR c x 7]++[g]) w1 (by
    have e2:cf (Ev.dec ((κ 459).getD 0)) ([aR c x 4]++[aR c x 5]++[aR c x 6]++[aR c x 7]++[g])=bQ 3 1 (Ev.dec ((κ 459).getD 0)) (1+1+1+1+1) ([Value.int .i64 (x.sl.getD (c.ae (IntKind.u32.wrap (aj x.w+4))) 0)]++[Value.int .i64 (x.sl.getD (c.ae (IntKind.u32.wrap (aj x.w+5))) 0)]++[Value.int .i64 (x.sl.getD (c.ae (IntKind.u32.wrap (aj x.w+6))) 0)]++[Value.int .i64 (x.sl.getD (c.ae (IntKind.u32.wrap (aj x.w+7))) 0)]++[Value.int .i64 g]):=by simp only[show x.sl.getD (c.ae (IntKind.u32.wrap (aj x.w+4))) 0=aR c x 4 from bK 4,show x.sl.getD (c.ae (IntKind.u32.wrap (aj x.w+5))) 0=aR c x 5 from bK 5,show x.sl.getD (c.ae (IntKind.u32.wrap (aj x.w+6))) 0=aR c x 6 from bK 6,show x.sl.getD (c.ae (IntKind.u32.wrap (aj x.w+7))) 0=aR c x 7 from bK 7];rfl
    rw[e2]
    exact h2)
   exact⟨_,q1,rfl,q2⟩
end
end Go.Proofs.YtkmccgombmogmaaGreat
namespace Go.Proofs.YtkmccgombmogmaaGreat
open Go.Ev Go.Proofs.Tryz
open Go.RowKit
set_option maxRecDepth 8000
theorem KC{x d:Int}(h:fg x):aj (dF x d)=aj x:=by
 have:=bJ h;unfold dF mQ aj at *;omega
theorem KD{x d:Int}(h:fg x):cy (dF x d)=(cy x+d)%4294967296:=by
 unfold dF mQ cy;omega
theorem NJ{x:Int}(h:fg x)(h1:aO x+1<4294967296):aO (dF x 1)=aO x+1:=by
 have h2:=cu x;unfold aO at *;rw[KC h,KD h];omega
theorem uk{c:aP}{x:ki}(hx:eR c x)(h:aO x.w<(c.q:Int))(g:Int):eR c (dP c x g)/\aO (dP c x g).w=aO x.w+1:=by
 have hq:=c.qb;have hs:aO (dF x.w 1)=aO x.w+1:=NJ hx.w (by omega);exact⟨⟨pY hx.w 1,by simp only[dP,List.length_set];exact hx.sl,by show aO (dF x.w 1)<=_;omega⟩,hs⟩
def cU(c:aP)(x:ki)(l:List Int):ki:=l.foldl (dP c) x
theorem Ha{c:aP}{x:ki}(l:List Int)(hx:eR c x)(h:aO x.w+(l.length:Int)<=(c.q:Int)):eR c (cU c x l)/\aO (cU c x l).w=aO x.w+(l.length:Int):=by
 induction l generalizing x with
 | nil=>exact⟨hx,by simp[cU]⟩
 | cons g l ih =>
  simp only[List.length_cons]at h;obtain⟨h1,h2⟩:=uk hx (by omega) g;obtain⟨h3,h4⟩:=ih h1 (by omega);refine⟨h3,?_⟩;show aO (cU c (dP c x g) l).w=_;rw[h4,h2];simp only[List.length_cons];omega
def tx(c:aP)(x:ki)(l:List Int):Nat:=min l.length (c.q-(aO x.w).toNat)
theorem Hb(m:Nat){c:aP}{b:Nat}{x:ki}{F:Nat->Prop}{w:World}(h:cG [hZ c b x] F w) :
  CallsIn Fence.wide m prog 93 #[.pointer (some ⟨b,0,none⟩)] w λe w'=>e=.returned (.int .i64 (c.q:Int))/\w'=w:=by
 obtain⟨sv,oG,h2⟩:=kQ (af.start h);have hb:=ax h2;have hsl:=bk (bU h2);obtain⟨a0,c0,rfl⟩:∃ a k,sv=.slice a c.q k:=by
  rcases hsl.2 with ⟨e,a,k,rfl⟩ | ⟨b2,off,k,rfl,_⟩
  ·exact⟨a,k,by rw[e]⟩
  ·exact⟨_,k,rfl⟩
 have e1:=cell_of hb 1 _ rfl;refine callsIn_of_wp func93 rfl trivial ?_ rfl;simp only[ntmps93,List.size_toArray,List.length_cons,List.length_nil,Nat.reduceAdd,Nat.reduceSub,Array.replicate_succ,Array.replicate_zero,List.push_toArray,List.append_toArray,List.nil_append,List.cons_append]
 gi_wp2
 exact bodyPost_ret (results_tmp rfl _ _ _) rfl ⟨rfl,rfl⟩
set_option maxHeartbeats 1000000 in
theorem BP(m:Nat){c:aP}{b:Nat}{x:ki}{lv:Value}{ls:List Int}{F:Nat->Prop}{w:World}(hx:eR c x)(hls:ls.length<=64)(h:cG [hZ c b x,cf lv ls] F w) :
  CallsIn Fence.wide m prog 62 #[.pointer (some ⟨b,0,none⟩),lv] w λe w'=>e=.returned (.int .i64 (tx c x ls:Int))/\af ⟨w,F⟩ [hZ c b (cU c x (ls.take (tx c x ls))),cf lv ls] w':=by
 refine callsIn_of_wp func62 rfl trivial ?_ rfl;simp only[ntmps62,List.size_toArray,List.length_cons,List.length_nil,Nat.reduceAdd,Nat.reduceSub,Array.replicate_succ,Array.replicate_zero,List.push_toArray,List.append_toArray,List.nil_append,List.cons_append];obtain⟨F1,F2,k1,k2,k3,k4⟩:=cL (l:=[hZ c b x]) h;have hsl:=bk (af.start k2);obtain⟨a0,c0,rfl⟩:∃ a k,lv=.slice a ls.length k:=by
  rcases hsl.2 with ⟨e,a,k,rfl⟩ | ⟨b2,off,k,rfl,_⟩
  ·exact⟨a,k,by rw[e]⟩
  ·exact⟨_,k,rfl⟩
 have hbd:=cu x.w;have hsz:=hx.sz;have QH:=c.qb;have hw1:IntKind.i64.wrap ((c.q:Int)-aO x.w)=(c.q:Int)-aO x.w:=aW (by omega) (by omega);have hmin:min (ls.length:Int) ((c.q:Int)-aO x.w)=(tx c x ls:Int):=by unfold tx;omega
 have hnl:tx c x ls<=ls.length:=Nat.min_le_left _ _;have hnq:aO x.w+(tx c x ls:Int)<=(c.q:Int):=by unfold tx;omega
 obtain⟨n,hn⟩:∃ n,tx c x ls=n:=⟨_,rfl⟩;rw[hn]at hmin hnl hnq ⊢;obtain⟨a1,c1,hcv⟩:∃ a1 c1,Ev.cutV 1 (.slice a0 ls.length c0) 0 n=.slice a1 n c1:=by
  cases a0 with
  | none=>exact⟨none,c0-0,by simp[Ev.cutV]⟩
  | some a=>exact⟨_,c0-0,by simp only[Ev.cutV,Nat.sub_zero];rfl⟩
 have hcut:∀ w,(Instr.sliceAt 35 (.slice a0 ls.length c0) none (some (.int .i64 (n:Int))) none).run prog w=.ok (.slice a1 n c1) w:=by
  obtain⟨i0,hi,hz1,hz0,hz2⟩:=bY;intro w;rw[← hcv];exact vV (kd:=.i64) (.inl ⟨rfl,rfl⟩) rfl hsl underlying35 hi hz1 (Nat.zero_le _) hnl w
 have hst:=af.start h
 gi_wp2
 refine⟨trivial,λh=>by simp[Fence.wide]at h,(Hb (m-1) k1).mono ?_⟩;rintro e w1 ⟨rfl,rfl⟩
 gi_wp2
 refine⟨trivial,λh=>by simp[Fence.wide]at h,(wa (m-1) hx k1).mono ?_⟩;rintro e w2 ⟨rfl,rfl⟩
 gi_wp2
 gi_loopw [20] (λp wr=>∃ k:Nat,p=.int .i64 (k:Int)/\k<=n/\af ⟨w2,F⟩ [hZ c b (cU c x (ls.take k)),cf (.slice a0 ls.length c0) ls] wr) (λp _=>n-(intOf p).toNat)
 case atStart=>exact⟨0,rfl,Nat.zero_le _,hst⟩
 case round =>
  obtain⟨k,rfl,hk,hH⟩:=hrel
  by_cases hlt:k<n
  ·have v5:(k:Int)<(n:Int):=by omega
   have hs2:=(bk (bU hH)).cut (lo:=0) (hi:=n) (Nat.zero_le _) hnl;rw[hcv]at hs2;rcases hs2.2 with ⟨e,_⟩ | ⟨b2,off,c2,hv,_,hc⟩
   ·omega
   cases hv;have hck:wr.cell? ⟨b2,off+k,none⟩=some (.int .i64 ls[k]):=by
    rw[hc k (by omega)];simp[bu,List.getElem?_take,hlt,show k<ls.length by omega]
   obtain⟨g,hg⟩:∃ g,ls[k]'(by omega)=g:=⟨_,rfl⟩;rw[hg]at hck;clear hc;obtain⟨o1,o2⟩:=Ha (ls.take k) hx (by rw[List.length_take];omega);obtain⟨F',m1,m2,m3⟩:=hH.ex;obtain⟨G1,G2,q1,q2,q3,q4⟩:=cL (l:=[hZ c b (cU c x (ls.take k))]) m1
   gi_wp2
   refine⟨trivial,λh=>by simp[Fence.wide]at h,(callsIn_wide.2 (G' o1 g q1)).mono ?_⟩;rintro e w4 ⟨rfl,hh⟩;have h4:af ⟨w2,F⟩ [hZ c b (dP c (cU c x (ls.take k)) g),cf (.slice a0 ls.length c0) ls] w4:=(hh.frame q2 q3).into (l:=[]) m2 (λj hj=>m3 j ((q4 j).2 hj));have e4:cU c x (ls.take (k+1))=dP c (cU c x (ls.take k)) g:=by
    rw[List.take_add_one,List.getElem?_eq_getElem (by omega:k<ls.length),hg];simp[cU,List.foldl_append]
   gi_wp2
   refine⟨⟨k+1,rfl,by omega,?_⟩,by simp[intOf];omega⟩;rw[e4];exact h4
  ·obtain rfl:k=n:=by omega
   have v5:¬ ((k:Nat):Int)<(k:Int):=by omega
   gi_wp2
   exact bodyPost_ret (results_tmp rfl _ _ _) rfl ⟨rfl,hH⟩
def jX(c:aP):ki:=⟨0,List.replicate c.q 0⟩
theorem yJ(c:aP):eR c (jX c):=⟨⟨Int.le_refl 0,by show(0:Int)<18446744073709551616;decide⟩,by simp[jX],by
 have:aO 0=0:=by decide
 show aO 0<=_
 omega⟩
set_option maxHeartbeats 1000000 in
theorem Jr(m:Nat)(c:aP){F:Nat->Prop}{w:World}(h:cG [] F w) :
  CallsIn Fence.wide m prog 31 #[.int .i64 (c.q:Int),.slice none 0 0] w λe w'=>∃ b k,e=.returned (.tuple #[.pointer (some ⟨b,0,none⟩),.int k 0])/\af ⟨w,F⟩ [hZ c b (jX c)] w':=by
 refine callsIn_of_wp func31 rfl trivial ?_ rfl;simp only[ntmps31,List.size_toArray,List.length_cons,List.length_nil,Nat.reduceAdd,Nat.reduceSub,Array.replicate_succ,Array.replicate_zero,List.push_toArray,List.append_toArray,List.nil_append,List.cons_append];have QH:=c.qb;obtain⟨i0,hi,hz1,hz0,hz2⟩:=bY;obtain⟨w1,r1,r2,r3⟩:=run_make_full (P:=prog) w w.heap.size 35 3 i0 (.int .i64 0) 1 underlying35 hi hz0 hz1 .i64 .i64 c.q (by rw[hz2];omega) (by unfold maxLen;omega) (Nat.le_refl _);have hB1:Below w.heap.size w w1:=lP r3;have hrow:(madeCells (Value.int .i64 0).cells (c.q*1)).toList=bu (List.replicate c.q 0):=by
  rw[Nat.mul_one];show(madeCells #[Value.int .i64 0] c.q).toList=_;rw[toList_madeCells_one];simp[bu]
 rw[hrow]at r2;obtain⟨w2,hw2⟩:∃ w2,w1.alloc (.cells #[.int .u64 0,.slice (some ⟨w.heap.size,0,none⟩) c.q c.q] 141)=w2:=⟨_,rfl⟩;have hB2:Below w.heap.size w w2:=by rw[← hw2];exact hB1.alloc hB1.size _
 have hblk:w2.heap[w1.heap.size]? = some (Obj.cells #[.int .u64 0,.slice (some ⟨w.heap.size,0,none⟩) c.q c.q] 141 (0,0)):=by rw[← hw2];exact World.alloc_heap_new _ _
 have hlt1:w.heap.size<w1.heap.size:=(r2.lt _ rfl).2;have hown:w2.ownsRow w.heap.size 3 1 (.slice (some ⟨w.heap.size,0,none⟩) c.q c.q) c.q (bu (List.replicate c.q 0)):=by rw[← hw2];exact r2.alloc _
 have hH:=BL (cs:=[.int .u64 0,.slice (some ⟨w.heap.size,0,none⟩) c.q c.q]) h hblk hB1.size hown (by simp[Value.ownBlock];omega) hB2;have hD:af ⟨w,F⟩ [hZ c w1.heap.size (jX c)] w2:=jW (x:=jX c) rfl hH;have hD2:=(hD.eC (e := 3) (sz:=1)).sel [1,0];obtain⟨F',n1,n2,n3⟩:=hD2.ex
 gi_wp2
 refine⟨trivial,λh=>by simp[Fence.wide]at h,(callsIn_wide.2 (BM c w)).mono ?_⟩;rintro e w' ⟨rfl,rfl⟩
 gi_wp2
 refine⟨trivial,λh=>by simp[Fence.wide]at h,(BP (m-1) (ls:=[]) (yJ c) (by decide) n1).mono ?_⟩;rintro e w3 ⟨rfl,hh⟩;have h5:af ⟨w,F⟩ [hZ c w1.heap.size (jX c)] w3:=(hh.into (l:=[]) n2 n3).sel [0]
 gi_wp2
 exact bodyPost_ret (gR rfl _) rfl ⟨_,_,rfl,h5⟩
end Go.Proofs.YtkmccgombmogmaaGreat
