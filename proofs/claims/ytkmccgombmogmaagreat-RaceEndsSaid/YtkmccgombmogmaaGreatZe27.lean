/- Part of a proof: see the last text. -/
import Derived.Test.YtkmccgombmogmaaGreatZe26
set_option linter.unusedSectionVars false
set_option linter.unusedSimpArgs false
set_option linter.unusedVariables false
namespace Go.Proofs.YtkmccgombmogmaaGreat
open Go.Ev Go.Proofs.Tryz
open Go.RowKit
set_option maxRecDepth 8000
def nB.k:Option nB->Int
 | none=>0
 | some o=>o.kd
def nB.g:Option nB->Int
 | none=>0
 | some o=>o.got
def nB.l:Option nB->List Int
 | none=>[]
 | some o=>o.over
theorem nF{P:Program}{fn:Func}{R:Ending->World->Prop}{a:Act}{w:World}{v:Value}{tm QQ:Tmp}{t:TypeId}{ad:Addr}(hres:fn.results = #[.cell tm t,.tmp QQ])(ha:a.tmps.getD tm undef=.pointer (some ad))(hd:a.defers=[])(hl:(loadVar t ad).run P w=.ok v w)(hR:R (.returned (.tuple #[v,a.tmps.getD QQ undef])) w):bodyPost P fn R .ret a w:=by
 refine bodyPost_ret ?_ hd hR;have ha':a.tmps[tm]?.getD undef=.pointer (some ad):=by simpa using ha
 simp[results,hres,ha',Go.asAddr,hl]
theorem HL{ctx:dc}{w:World}{r m:List aG}{c:aP}{p:Nat}{o:bX}{e:dm}(h:af ctx (fX c p o e++(r++m)) w):af ctx (fX c p (o.now none) ⟨e.d,.nilIface,e.rv⟩++(r++m)) w:=by
 have h1:af ctx ([ft c p e.mv o.dx]++(hZ c e.d o.dq::cf e.rv o.rs::(r++m))) w:=ay (bV (λf=>by simp only[fX,List.cons_append,List.nil_append,List.map_append,List.map_cons,List.map_nil,List.sum_append,List.sum_cons,List.sum_nil];omega)) h;obtain⟨F',m1,m2,m3⟩:=(aI h1).ex;have h3:af ctx (ft c p .nilIface none::hZ c e.d o.dq::cf e.rv o.rs::(r++m)) w:=by
  have q:=bP (a:=ft c p .nilIface none) (Fa:=λ_=>False) ⟨(),rfl,λj hj=>hj⟩ m1 (λj hj=>hj.elim) (λj hj=>hj.elim);exact⟨F',cF q (λj=>⟨λh=>h.elim False.elim id,.inr⟩),m2,m3⟩
 exact bU h3
theorem HM{ctx:dc}{w:World}{a:aG}{b:RB}{c:aP}{x:aE}{es:Nat->dm}(hx:x.bad=false)(h:af ctx ([a]++aF b c x es) w):af ctx ([a]++aF b c x es) (w.setCell ⟨b.br,9,none⟩ (.bool false)):=by
 have h1:af ctx (d_ b c x::a::([aK b.bm x.m,fb b c x.ow es]++cV c x.ow es)) w:=bU h;have h2:=bR 9 (.bool false) h1;have e:aH b.br (List.set [.int .i64 (c.n:Int),.int .i64 (c.q:Int),.int .i64 c.g,.int .i64 c.m,.int .i64 c.t,.int .i64 c.s,.pointer (some ⟨b.bm,0,none⟩),.slice (some ⟨b.bo,0,none⟩) c.n b.cp,.int .i64 x.pts,.bool x.bad] 9 (.bool false)) 73 = d_ b c x:=by
  unfold d_;rw[hx];rfl
 rw[e]at h2;exact bU h2
set_option maxHeartbeats 4000000 in
theorem JN(m:Nat){b:RB}{c:aP}{B:Int}{x:aE}{p:Nat}{o:bX}{M:bG}(hI:dR c B x)(hB:B+8<=1073741824)(ho:x.ow[p]? = some o)(hM:o.dx=some M){F:Nat->Prop}{w:World}(h:cG [cC b c x] F w) :
  CallsIn Fence.wide m prog 13 #[.pointer (some ⟨b.br,0,none⟩),.int .i64 (p:Int)] w λe w'=>∃ v,aV v=true/\e=.returned (.tuple #[.agg #[.int .i64 (nB.k (b_ c x p o M).2),.int .i64 (nB.g (b_ c x p o M).2),v],.bool (b_ c x p o M).2.isSome])/\af ⟨w,F⟩ [cf v (nB.l (b_ c x p o M).2),cC b c (b_ c x p o M).1] w':=by
 refine callsIn_of_wp func13 rfl trivial ?_ rfl;simp only[ntmps13,List.size_toArray,List.length_cons,List.length_nil,Nat.reduceAdd,Nat.reduceSub,Array.replicate_succ,Array.replicate_zero,List.push_toArray,List.append_toArray,List.nil_append,List.cons_append];obtain⟨es,hst⟩:=pH (af.start h);rw[List.append_nil]at hst;have hlt:p<x.ow.length:=(List.getElem?_eq_some_iff.1 ho).1;have hp:p<c.n:=by rw[← hI.len];exact hlt
 have Qb:(p:Int)<(c.n:Int):=by omega
 have hq8:c.q<=8:=by have:=hI.R.h8;omega
 obtain⟨h0,wC,hC⟩:=(hI.ow p o ho).dx M hM;obtain⟨r1,r2,r3,r4,r5⟩:=mC hI hB ho hM;obtain⟨W1,hW1⟩:∃ W1,w.alloc (.cells #[.int .i64 0,.int .i64 0,.slice none 0 0] 37)=W1:=⟨_,rfl⟩;have h1:af ⟨w,F⟩ ([aH w.heap.size [.int .i64 0,.int .i64 0,.slice none 0 0] 37]++aF b c x es) W1:=by rw[← hW1];exact eT _ _ hst
 obtain⟨mv,hmv⟩:∃ mv,(es p).mv=mv:=⟨_,rfl⟩;have hb1:=cI h1;have e7:W1.cell? ⟨b.br,7,none⟩=some (.slice (some ⟨b.bo,0,none⟩) c.n b.cp):=cell_of hb1 7 _ rfl;have e3:W1.cell? ⟨b.bo,p*7+3,none⟩=some mv:=cA hp ho h1 (by rw[← hmv];rfl);obtain⟨F1,k1,back⟩:=Mh hp ho (bA h1 ((Below.refl _ W1).drew));rw[hmv,hM]at k1;rw[hmv]at back;have N4:Qa mv true:=by
  have:=B9 (af.start k1);exact this
 obtain⟨T,bp,f,Qk,hinv,hcall⟩:=HA hp (Ca wC) h0 hI.R.mem hI.R.sl k1;have hpt:=HK hI ho hM;have hxs:aE.own ⟨(M.step c p x.m).2,x.ow,x.pts,x.bad⟩ p (o.now (some (M.step c p x.m).1))=wu c x p o M:=rfl;have hos:(wu c x p o M).ow[p]? = some (o.now (some (M.step c p x.m).1)):=List.getElem?_set_self hlt;have hpe:bj c (wu c x p o M) p (o.now (some (M.step c p x.m).1)) (M.step c p x.m).1=iE c x p o M:=rfl;obtain⟨bd,hbd⟩:∃ bd,decide ((M.step c p x.m).1.st=0)=bd:=⟨_,rfl⟩
 gi_wp2
 refine⟨trivial,λh=>by simp[Fence.wide]at h,(B0 (m-1) hb1 hp e3 N4).mono ?_⟩;rintro e w' ⟨rfl,hw'⟩;replace hw':=hw'.symm;subst hw';subst Qk;clear N4
 gi_wp2
 have hS1:∀ (x':aE) (o':bX) (r:List aG) (w':World),x'.ow[p]? = some o'->af ⟨w,F⟩ (r++aF b c x' es) w'->w'.cell? ⟨b.br,6,none⟩=some (.pointer (some ⟨b.bm,0,none⟩))/\w'.cell? ⟨b.bo,p*7+3,none⟩=some (.iface T (.pointer (some ⟨bp,0,none⟩))):=λx' o' r w' ho' hh=>⟨cell_of (cI hh) 6 _ rfl,cA hp ho' hh (by rw[← hmv];rfl)⟩
 have h1d:=bA h1 ((Below.refl _ W1).drew);refine wpIn_wide.2 ?_
 go_region_held3 (λw'=>w'.cell? ⟨b.br,6,none⟩=some (.pointer (some ⟨b.bm,0,none⟩))/\w'.cell? ⟨b.bo,p*7+3,none⟩=some (.iface T (.pointer (some ⟨bp,0,none⟩)))) ((first | exact hS1 _ _ _ _ ho h1d | exact hS1 _ _ _ _ hos h3 | fail)) ((first
  | (rw[if_pos (by rfl)];refine ut (.tmp 30) "Step" #[.tmp 28] _ rfl ?hr hcall ?hk;(case hr=>(simp only[List.map_toArray,List.map_cons,List.map_nil];exact hinv _));rintro e w3 ⟨rfl,hh⟩;refine⟨_,rfl,?_⟩;have h3:=back _ _ _ hh)
  | (refine ut (.tmp 30) "Step" #[.tmp 28] _ rfl ?hr hcall ?hk;(case hr=>(simp only[List.map_toArray,List.map_cons,List.map_nil];exact hinv _));rintro e w3 ⟨rfl,hh⟩;refine⟨_,rfl,?_⟩;have h3:=back _ _ _ hh)))
 rw[hxs]at h3;have N5:=DC (m-1) hp hos rfl hpt h3;rw[hbd,hpe]at N5
 gi_wp2
 refine⟨trivial,λh=>by simp[Fence.wide]at h,N5.mono ?_⟩;rintro e w4 ⟨rfl,es',h4⟩;obtain⟨x2,hx2⟩:∃ x2,iE c x p o M=x2:=⟨_,rfl⟩;rw[hx2]at h4 r4 r3;have KS:bT c x2.m:=by rw[r4.mem];exact r5.mem
 have hsame:∀ (q:Nat) oq,x2.ow[q]? = some oq->eR c oq.dq/\ii c x2.m q=aX c oq.dq:=λq oq hq=>by
  have:=yQ hI r4 r5.sl ho hq;rw[r4.mem];exact⟨this.1.ok,this.2⟩
 have S7:w4.cell? ⟨b.br,7,none⟩=some (.slice (some ⟨b.bo,0,none⟩) c.n b.cp):=cell_of (cI h4) 7 _ rfl;have hnb:=c.nb
 gi_wp2
 gi_loopw [41] (λq wr=>∃ k:Nat,q=.int .i64 (k:Int)/\k<=c.n/\af ⟨w,F⟩ ([aH w.heap.size [.int .i64 0,.int .i64 0,.slice none 0 0] 37]++aF b c x2 es') wr) (λq _=>c.n-(intOf q).toNat)
 case atStart=>exact⟨0,rfl,Nat.zero_le _,h4⟩
 case round =>
  obtain⟨k,rfl,hk,hH⟩:=hrel
  by_cases hkn:k<c.n
  ·have v5:(k:Int)<(c.n:Int):=by omega
   obtain⟨oq,hoq⟩:∃ oq,x2.ow[k]? = some oq:=⟨_,List.getElem?_eq_getElem (by rw[r4.len];exact hkn)⟩;obtain⟨hdk,QR⟩:=hsame k oq hoq;have e9:wr.cell? ⟨b.br,9,none⟩=some (.bool false):=cell_of (cI hH) 9 _ (by rw[← r4.bad];rfl);have hring:=y7 (m-1) hkn KS hH;rw[QR]at hring;clear QR
   gi_wp2
   refine⟨trivial,λh=>by simp[Fence.wide]at h,hring.mono ?_⟩;rintro e w5 ⟨a5,k5,rfl,h5⟩
   gi_wp2
   refine⟨trivial,λh=>by simp[Fence.wide]at h,(DB (m-1) (r:=cf _ _::[_]) hq8 hkn hoq hdk h5).mono ?_⟩;rintro e w6 ⟨a6,k6,rfl,h6'⟩;have h6:af ⟨w,F⟩ ([cf (.slice a6 (aX c oq.dq).length k6) (aX c oq.dq),cf (.slice a5 (aX c oq.dq).length k5) (aX c oq.dq),aH w.heap.size [.int .i64 0,.int .i64 0,.slice none 0 0] 37]++aF b c x2 es') w6:=h6';clear h6';have s6:=bk h6;have s5:=bk (bU h6);have N6:(aX c oq.dq).length<=100000:=by
    have:=hdk.sz;have:=c.qb;simp only[aX,List.length_map,List.length_range];omega
   have hcon:=lU (m-1) _ _ (aX c oq.dq) (aX c oq.dq) w6 s5 s6 N6;rw[decide_eq_true rfl]at hcon
   gi_wp2
   refine⟨trivial,λh=>by simp[Fence.wide]at h,?_⟩
   with_reducible refine hcon.mono ?_
   rintro e w7 ⟨rfl,B7⟩;have h7:af ⟨w,F⟩ ([aH w.heap.size [.int .i64 0,.int .i64 0,.slice none 0 0] 37]++aF b c x2 es') w7:=aI (r:=[cf (.slice a6 (aX c oq.dq).length k6) (aX c oq.dq),cf (.slice a5 (aX c oq.dq).length k5) (aX c oq.dq)]) (bA h6 B7);have f9:w7.frozen? ⟨b.br,9,none⟩=false:=cB (cI h7) 9;have c9:w7.cell? ⟨b.br,9,none⟩=some (.bool false):=cell_of (cI h7) 9 _ (by rw[← r4.bad];rfl);have h8:=HM r4.bad h7
   gi_wp2
   exact⟨⟨k+1,rfl,by omega,h8⟩,by simp[intOf];omega⟩
  ·obtain rfl:k=c.n:=by omega
   have v5:¬ ((c.n:Nat):Int)<(c.n:Int):=by omega
   have bt:=ax hH;have t0:wr.cell? ⟨w.heap.size,0,none⟩=some (.int .i64 0):=cell_of bt 0 _ rfl;have t1:wr.cell? ⟨w.heap.size,1,none⟩=some (.int .i64 0):=cell_of bt 1 _ rfl;have t2:wr.cell? ⟨w.heap.size,2,none⟩=some (.slice none 0 0):=cell_of bt 2 _ rfl;have f0:wr.frozen? ⟨w.heap.size,0,none⟩=false:=cB bt 0;have f1:wr.frozen? ⟨w.heap.size,1,none⟩=false:=cB bt 1;have f2:wr.frozen? ⟨w.heap.size,2,none⟩=false:=cB bt 2;cases bd with
   | false =>
    have hd0:¬ (M.step c p x.m).1.st=0:=of_decide_eq_false hbd;have er:b_ c x p o M=(x2,none):=by
     unfold b_;rw[if_neg hd0,r3]
    have h9:=bR 2 (.slice none 0 0) (bR 1 (.int .i64 0) (bR 0 (.int .i64 0) hH))
    gi_wp2
    refine nF rfl rfl rfl (wl _ _ _ _ _ (ax h9)) ?_
    first | rw[er] | skip
    refine⟨.slice none 0 0,rfl,rfl,?_⟩;exact(cR (l:=[]) (by rw[List.append_nil];exact aI (r:=[_]) h9)).eC (e := 3) (sz:=1)
   | true =>
    have hd0:(M.step c p x.m).1.st=0:=of_decide_eq_true hbd;obtain⟨o2,N7,SA,S8,S_,QS,S',Ta,Tb⟩:=r4.self;have er:b_ c x p o M=(x2.own p (o2.now none),some ⟨o.kd,(M.step c p x.m).1.got,(M.step c p x.m).1.over⟩):=by
     unfold b_;rw[if_pos hd0,r3,N7]
    gi_wp2
    refine⟨trivial,λh=>by simp[Fence.wide]at h,(JM (m-1) hp N7 QS (sd hI ho hM) KS hH).mono ?_⟩;rintro e w5 ⟨a5,k5,rfl,h5⟩;obtain⟨ov,hov⟩:∃ ov,Value.slice a5 (M.step c p x.m).1.over.length k5=ov:=⟨_,rfl⟩;obtain⟨gz,hgz⟩:∃ gz,(M.step c p x.m).1.got=gz:=⟨_,rfl⟩;obtain⟨lz,hlz⟩:∃ lz,(M.step c p x.m).1.over=lz:=⟨_,rfl⟩;rw[hov,hlz]at h5;rw[hgz,hlz]at er;rw[SA,hgz,hov];obtain⟨aa,nn,kk,e0⟩:∃ a n k,ov=.slice a n k:=⟨_,_,_,hov.symm⟩;clear hov;subst e0;obtain⟨W6,SB⟩:∃ W6,w5.alloc (.cells #[.int .i64 0,.int .i64 0,.slice none 0 0] 37)=W6:=⟨_,rfl⟩;have h6:af ⟨w,F⟩ ([aH w5.heap.size [.int .i64 0,.int .i64 0,.slice none 0 0] 37,cf (.slice aa nn kk) lz,aH w.heap.size [.int .i64 0,.int .i64 0,.slice none 0 0] 37]++aF b c x2 es') W6:=by rw[← SB];exact eT _ _ h5
    have b6:=ax h6;have n0:W6.cell? ⟨w5.heap.size,0,none⟩=some (.int .i64 0):=cell_of b6 0 _ rfl;have n1:W6.cell? ⟨w5.heap.size,1,none⟩=some (.int .i64 0):=cell_of b6 1 _ rfl;have n2:W6.cell? ⟨w5.heap.size,2,none⟩=some (.slice none 0 0):=cell_of b6 2 _ rfl;have l0:W6.frozen? ⟨w5.heap.size,0,none⟩=false:=cB b6 0;have l1:W6.frozen? ⟨w5.heap.size,1,none⟩=false:=cB b6 1;have l2:W6.frozen? ⟨w5.heap.size,2,none⟩=false:=cB b6 2;have h7:af ⟨w,F⟩ ([aH w5.heap.size [.int .i64 o.kd,.int .i64 gz,(.slice aa nn kk)] 37,cf (.slice aa nn kk) lz,aH w.heap.size [.int .i64 0,.int .i64 0,.slice none 0 0] 37]++aF b c x2 es') _:=bR 2 (.slice aa nn kk) (bR 1 (.int .i64 gz) (bR 0 (.int .i64 o.kd) h6));obtain⟨W7,JF⟩:∃ W7,((W6.setCell ⟨w5.heap.size,0,none⟩ (.int .i64 o.kd)).setCell ⟨w5.heap.size,1,none⟩ (.int .i64 gz)).setCell ⟨w5.heap.size,2,none⟩ (.slice aa nn kk)=W7:=⟨_,rfl⟩;rw[JF]at h7;obtain⟨Tq,vq,Mi⟩:∃ T v,(es' p).mv=.iface T v:=by
     obtain⟨bq,q⟩:=sc hp N7 QS h7;exact⟨_,_,q⟩
    have c3:W7.cell? ⟨b.bo,p*7+3,none⟩=some (.iface Tq vq):=cA hp N7 h7 (by rw[← Mi];rfl);have f3:W7.frozen? ⟨b.bo,p*7+3,none⟩=false:=cM h7 _;have h8:=dg (o':=o2.now none) (e':=⟨(es' p).d,.nilIface,(es' p).rv⟩) hp N7 3 (by decide) .nilIface rfl _ (λm w h=>HL h) h7;obtain⟨W8,Ql⟩:∃ W8,W7.setCell ⟨b.bo,p*7+3,none⟩ .nilIface=W8:=⟨_,rfl⟩;rw[Ql]at h8;have h8':af ⟨w,F⟩ ([aH w5.heap.size [.int .i64 o.kd,.int .i64 gz,(.slice aa nn kk)] 37,aH w.heap.size [.int .i64 0,.int .i64 0,.slice none 0 0] 37,cf (.slice aa nn kk) lz]++aF b c (x2.own p (o2.now none)) (jF es' p ⟨(es' p).d,.nilIface,(es' p).rv⟩)) W8:=ay (bV (λf=>by simp only[List.map_append,List.map_cons,List.map_nil,List.sum_append,List.sum_cons,List.sum_nil];omega)) h8;obtain⟨p0,p1,p2,s0,s1,s2,z0,z1,z2,hfin,hload⟩:=iR h8'
    gi_wp2
    refine nF rfl rfl rfl hload ?_
    first | rw[er] | skip
    refine⟨.slice aa nn kk,rfl,rfl,?_⟩;exact bU (cR (l:=[cf (.slice aa nn kk) lz]) (ay List.perm_append_comm hfin))
section
variable{ctx:dc}{w:World}{l:List aG}{c:aP}{p:Nat}
theorem JO(n:Nat)(hp:p<c.n){gg:Int}(hg:0<=gg)(h:af ctx l w) :
  CallsIn Fence.wide n prog 33 #[c.v,.int .i64 (p:Int),.int .i64 gg] w λe w'=>∃ bp,e=.returned (.pointer (some ⟨bp,0,none⟩))/\af ctx (gA c p bp (gB gg)::l) w':=by
 obtain⟨F,k1,back⟩:=cQ (lp:=[]) (rest:=l) h;refine(callsIn_wide.2 (Jg hp gg k1)).mono ?_;rintro e w' ⟨v,_,_,rfl,hh⟩;obtain⟨bp,rfl,h2⟩:=Da hh;exact⟨bp,rfl,back _ _ h2⟩
theorem JP(n:Nat)(hp:p<c.n)(h:af ctx l w) :
  CallsIn Fence.wide n prog 34 #[c.v,.int .i64 (p:Int)] w λe w'=>∃ bp,e=.returned (.pointer (some ⟨bp,0,none⟩))/\af ctx (je c p bp jb::l) w':=by
 obtain⟨F,k1,back⟩:=cQ (lp:=[]) (rest:=l) h;refine(callsIn_wide.2 (Jh hp k1)).mono ?_;rintro e w' ⟨v,rfl,hh⟩;obtain⟨bp,rfl,h2⟩:=Db hh;exact⟨bp,rfl,back _ _ h2⟩
theorem DE(n:Nat){v:Nat}(hp:p<c.n)(hv:v<c.n)(hpv:p≠v)(h:af ctx l w) :
  CallsIn Fence.wide n prog 35 #[c.v,.int .i64 (p:Int),.int .i64 (v:Int)] w λe w'=>∃ bp,e=.returned (.pointer (some ⟨bp,0,none⟩))/\af ctx (cP c p v bp dX::l) w':=by
 obtain⟨F,k1,back⟩:=cQ (lp:=[]) (rest:=l) h;refine(callsIn_wide.2 (Dg hp hv hpv k1)).mono ?_;rintro e w' ⟨b,rfl,h2⟩;exact⟨b,rfl,back _ _ h2⟩
end
theorem wv{ctx:dc}{w:World}{m:List aG}{c:aP}{p:Nat}{o:bX}{e:dm}{M:bG}{mv:Value}{kd cv cg:Int}{a:aG}(h:af ctx (fX c p ⟨kd,cv,cg,o.dx,o.dq,o.gn,o.rs⟩ e++(ft c p mv (some M)::a::m)) w):af ctx (fX c p ⟨kd,cv,cg,some M,o.dq,o.gn,o.rs⟩ ⟨e.d,mv,e.rv⟩++([a]++m)) w:=by
 have h1:af ctx ([ft c p e.mv o.dx]++(hZ c e.d o.dq::ft c p mv (some M)::cf e.rv o.rs::([a]++m))) w:=ay (bV (λf=>by simp only[fX,List.cons_append,List.nil_append,List.map_append,List.map_cons,List.map_nil,List.sum_append,List.sum_cons,List.sum_nil];omega)) h;exact aI h1
section
variable{ctx:dc}{w:World}{l m:List aG}{c:aP}{p v bp:Nat}{a:aG}
theorem JQ{u:gy}(h:af ctx (l++([gA c p bp u,a]++m)) w):af ctx (l++(ft c p (.iface 81 (.pointer (some ⟨bp,0,none⟩))) (some (.put u))::a::m)) w:=ay (bV (λf=>by simp only[List.cons_append,List.nil_append,List.map_append,List.map_cons,List.map_nil,List.sum_append,List.sum_cons,List.sum_nil];omega)) (qB (c:=c) (p:=p) (bp:=bp) (u:=u) (r:=l++a::m) (ay (bV (λf=>by simp only[List.cons_append,List.nil_append,List.map_append,List.map_cons,List.map_nil,List.sum_append,List.sum_cons,List.sum_nil];omega)) h))
theorem JR{u:hY}(h:af ctx (l++([je c p bp u,a]++m)) w):af ctx (l++(ft c p (.iface 83 (.pointer (some ⟨bp,0,none⟩))) (some (.get u))::a::m)) w:=ay (bV (λf=>by simp only[List.cons_append,List.nil_append,List.map_append,List.map_cons,List.map_nil,List.sum_append,List.sum_cons,List.sum_nil];omega)) (qC (c:=c) (p:=p) (bp:=bp) (u:=u) (r:=l++a::m) (ay (bV (λf=>by simp only[List.cons_append,List.nil_append,List.map_append,List.map_cons,List.map_nil,List.sum_append,List.sum_cons,List.sum_nil];omega)) h))
theorem DF{u:bD}(h:af ctx (l++([cP c p v bp u,a]++m)) w):af ctx (l++(ft c p (.iface 85 (.pointer (some ⟨bp,0,none⟩))) (some (.steal v u))::a::m)) w:=ay (bV (λf=>by simp only[List.cons_append,List.nil_append,List.map_append,List.map_cons,List.map_nil,List.sum_append,List.sum_cons,List.sum_nil];omega)) (j_ (c:=c) (p:=p) (bp:=bp) (v:=v) (u:=u) (r:=l++a::m) (ay (bV (λf=>by simp only[List.cons_append,List.nil_append,List.map_append,List.map_cons,List.map_nil,List.sum_append,List.sum_cons,List.sum_nil];omega)) h))
end
def dG(c:aP)(p:Nat)(o:bX)(kd cv cg:Int):Int:=if (db c p kd cv cg).isNone then 2 else if o.dx.isSome then 4 else 0
def cN(c:aP)(x:aE)(p:Nat)(o:bX)(kd cv cg:Int):aE:=match db c p kd cv cg with | none=>x | some M=>if o.dx.isSome then x else x.own p (o.wE kd cv cg M)
set_option maxHeartbeats 4000000 in
theorem HN(m:Nat){b:RB}{c:aP}{x:aE}{p:Nat}{o:bX}(hlen:x.ow.length=c.n)(ho:x.ow[p]? = some o)(kd cv cg:Int){F:Nat->Prop}{w:World}(h:cG [cC b c x] F w) :
  CallsIn Fence.wide m prog 11 #[.pointer (some ⟨b.br,0,none⟩),.int .i64 (p:Int),.agg #[.int .i64 kd,.int .i64 cv,.int .i64 cg]] w λe w'=>e=.returned (.int .i64 (dG c p o kd cv cg))/\af ⟨w,F⟩ [cC b c (cN c x p o kd cv cg)] w':=by
 refine callsIn_of_wp func11 rfl trivial ?_ rfl;simp only[ntmps11,List.size_toArray,List.length_cons,List.length_nil,Nat.reduceAdd,Nat.reduceSub,Array.replicate_succ,Array.replicate_zero,List.push_toArray,List.append_toArray,List.nil_append,List.cons_append];obtain⟨es,hst⟩:=pH (af.start h);rw[List.append_nil]at hst;have hlt:p<x.ow.length:=(List.getElem?_eq_some_iff.1 ho).1;have hp:p<c.n:=by rw[← hlen];exact hlt
 have Qb:(p:Int)<(c.n:Int):=by omega
 obtain⟨W1,hW1⟩:∃ W1,w.alloc (.cells #[.int .i64 kd,.int .i64 cv,.int .i64 cg] 26)=W1:=⟨_,rfl⟩;have h1:af ⟨w,F⟩ ([aH w.heap.size [.int .i64 kd,.int .i64 cv,.int .i64 cg] 26]++aF b c x es) W1:=by rw[← hW1];exact eT _ _ hst
 have hb1:=cI h1;have bt:=ax h1;have t0:W1.cell? ⟨w.heap.size,0,none⟩=some (.int .i64 kd):=cell_of bt 0 _ rfl;have t1:W1.cell? ⟨w.heap.size,1,none⟩=some (.int .i64 cv):=cell_of bt 1 _ rfl;have t2:W1.cell? ⟨w.heap.size,2,none⟩=some (.int .i64 cg):=cell_of bt 2 _ rfl;have ed:decide (0<=(p:Int)/\(p:Int)<(c.n:Int))=true:=by simp[hp]
 obtain⟨mv,hmv⟩:∃ mv,(es p).mv=mv:=⟨_,rfl⟩
 gi_wp2
 refine⟨trivial,λh=>by simp[Fence.wide]at h,(jZ (m-1) hb1 (p:Int)).mono ?_⟩;rintro e w' ⟨rfl,hw'⟩;replace hw':=hw'.symm;subst hw';rw[ed]
 by_cases hk1:kd=1
 ·subst hk1
  by_cases hg:0<=cg
  ·have hgg:cg≥0:=hg
   have hnew:db c p 1 cv cg=some (.put (gB cg)):=by simp[db,hg]
   have hd1:=bA h1 ((Below.refl _ W1).drew);have KQ:∀ (r:List aG) (w':World),af ⟨w,F⟩ ([aH w.heap.size [.int .i64 1,.int .i64 cv,.int .i64 cg] 26]++(r++aF b c x es)) w'->(w'.cell? ⟨b.br,0,none⟩=some (.int .i64 (c.n:Int))/\w'.cell? ⟨b.br,1,none⟩=some (.int .i64 (c.q:Int))/\w'.cell? ⟨b.br,2,none⟩=some (.int .i64 c.g)/\w'.cell? ⟨b.br,3,none⟩=some (.int .i64 c.m)/\w'.cell? ⟨b.br,4,none⟩=some (.int .i64 c.t)/\w'.cell? ⟨b.br,5,none⟩=some (.int .i64 c.s))/\w'.cell? ⟨w.heap.size,2,none⟩=some (.int .i64 cg):=λr w' hh=>⟨⟨cell_of (cI (aI hh)) 0 _ rfl,cell_of (cI (aI hh)) 1 _ rfl,cell_of (cI (aI hh)) 2 _ rfl,cell_of (cI (aI hh)) 3 _ rfl,cell_of (cI (aI hh)) 4 _ rfl,cell_of (cI (aI hh)) 5 _ rfl⟩,cell_of (ax hh) 2 _ rfl⟩
   gi_wp2
   refine wpIn_wide.2 ?_
   go_region_held3 (λw'=>(w'.cell? ⟨b.br,0,none⟩=some (.int .i64 (c.n:Int))/\w'.cell? ⟨b.br,1,none⟩=some (.int .i64 (c.q:Int))/\w'.cell? ⟨b.br,2,none⟩=some (.int .i64 c.g)/\w'.cell? ⟨b.br,3,none⟩=some (.int .i64 c.m)/\w'.cell? ⟨b.br,4,none⟩=some (.int .i64 c.t)/\w'.cell? ⟨b.br,5,none⟩=some (.int .i64 c.s))/\w'.cell? ⟨w.heap.size,2,none⟩=some (.int .i64 cg)) ((first | exact KQ [] _ hd1 | exact KQ [_] _ (bU h3) | fail)) ((first
    | (go_at_call 33;have hcon:=callsIn_wide.1 (JO 0 hp hg hd1);(with_reducible refine hcon.mono ?_);clear hcon;rintro e W3 ⟨bp,rfl,h3'⟩;have h3:af ⟨w,F⟩ ([gA c p bp (gB cg),aH w.heap.size [.int .i64 1,.int .i64 cv,.int .i64 cg] 26]++aF b c x es) W3:=h3';clear h3')))
   have e3:W3.cell? ⟨b.bo,p*7+3,none⟩=some mv:=cA hp ho h3 (by rw[← hmv];rfl);have e7:W3.cell? ⟨b.br,7,none⟩=some (.slice (some ⟨b.bo,0,none⟩) c.n b.cp):=cell_of (cI h3) 7 _ rfl;cases kf:o.dx with
   | some M0 =>
    obtain⟨Tq,vq,Mi⟩:∃ T v,mv=.iface T v:=by
     obtain⟨bq,q⟩:=sc hp ho kf h3;exact⟨_,_,hmv.symm.trans q⟩
    subst Mi
    gi_wp2
    refine bodyPost_ret (results_tmp rfl _ _ _) rfl ⟨?_,?_⟩
    ·rw[show dG c p o 1 cv cg=4 by simp[dG,hnew,kf]]
     rfl
    ·rw[show cN c x p o 1 cv cg=x by simp[cN,hnew,kf]]
     exact cR (l:=[]) (by rw[List.append_nil];exact aI h3)
   | none =>
    obtain rfl:mv=.nilIface:=by
     obtain⟨F9,k9,_⟩:=gG hp ho h3;rw[kf]at k9;exact hmv.symm.trans (oP (af.start k9))
    have HO:=ax (bU h3);have q0:W3.cell? ⟨w.heap.size,0,none⟩=some (.int .i64 1):=cell_of HO 0 _ rfl;have q1:W3.cell? ⟨w.heap.size,1,none⟩=some (.int .i64 cv):=cell_of HO 1 _ rfl;have q2:W3.cell? ⟨w.heap.size,2,none⟩=some (.int .i64 cg):=cell_of HO 2 _ rfl;have c0:W3.cell? ⟨b.bo,p*7,none⟩=some (.int .i64 o.kd):=cA (j:=0) hp ho h3 rfl;have c1:W3.cell? ⟨b.bo,p*7+1,none⟩=some (.int .i64 o.cv):=cA hp ho h3 rfl;have c2:W3.cell? ⟨b.bo,p*7+2,none⟩=some (.int .i64 o.cg):=cA hp ho h3 rfl;have c5:W3.cell? ⟨b.bo,p*7+5,none⟩=some (.bool o.gn):=cA hp ho h3 rfl;have f0:W3.frozen? ⟨b.bo,p*7,none⟩=false:=cM h3 _;have f1:W3.frozen? ⟨b.bo,p*7+1,none⟩=false:=cM h3 _;have f2:W3.frozen? ⟨b.bo,p*7+2,none⟩=false:=cM h3 _;have f3:W3.frozen? ⟨b.bo,p*7+3,none⟩=false:=cM h3 _;have f5:W3.frozen? ⟨b.bo,p*7+5,none⟩=false:=cM h3 _;have hl:∀ (x':aE) (o':bX),p<x'.ow.length->(x'.own p o').ow[p]? = some o':=λx' o' h=>List.getElem?_set_self h
    have hlen':∀ (o':bX),p<(x.own p o').ow.length:=λo'=>by
     show p<(x.ow.set p o').length;rw[List.length_set];exact hlt
    have g0:=dg (o':=⟨1,o.cv,o.cg,o.dx,o.dq,o.gn,o.rs⟩) (e':=es p) hp ho 0 (by decide) (.int .i64 1) rfl _ (λm w h=>h) h3;rw[eE]at g0;have g1:=dg (o':=⟨1,cv,o.cg,o.dx,o.dq,o.gn,o.rs⟩) (e':=es p) hp (hl x ⟨1,o.cv,o.cg,o.dx,o.dq,o.gn,o.rs⟩ hlt) 1 (by decide) (.int .i64 cv) rfl _ (λm w h=>h) g0;rw[eE,eF]at g1;have g2:=dg (o':=⟨1,cv,cg,o.dx,o.dq,o.gn,o.rs⟩) (e':=es p) hp (hl x ⟨1,cv,o.cg,o.dx,o.dq,o.gn,o.rs⟩ hlt) 2 (by decide) (.int .i64 cg) rfl _ (λm w h=>h) g1;rw[eE,eF]at g2;have g3:=dg (o':=⟨1,cv,cg,some (.put (gB cg)),o.dq,o.gn,o.rs⟩) (e':=⟨(es p).d,.iface 81 (.pointer (some ⟨bp,0,none⟩)),(es p).rv⟩) hp (hl x ⟨1,cv,cg,o.dx,o.dq,o.gn,o.rs⟩ hlt) 3 (by decide) (.iface 81 (.pointer (some ⟨bp,0,none⟩))) rfl [aH w.heap.size [.int .i64 1,.int .i64 cv,.int .i64 cg] 26] (λm w h=>wv (JQ h)) g2;rw[eF]at g3;have g5:=dg (o':=⟨1,cv,cg,some (.put (gB cg)),o.dq,false,o.rs⟩) (e':=⟨(es p).d,.iface 81 (.pointer (some ⟨bp,0,none⟩)),(es p).rv⟩) hp (hl x ⟨1,cv,cg,some (.put (gB cg)),o.dq,o.gn,o.rs⟩ hlt) 5 (by decide) (.bool false) (by rw[ez];rfl) [aH w.heap.size [.int .i64 1,.int .i64 cv,.int .i64 cg] 26] (λm w h=>by rw[ez]at h;exact h) g3;rw[eF]at g5
    gi_wp2
    refine bodyPost_ret (results_tmp rfl _ _ _) rfl ⟨?_,?_⟩
    ·rw[show dG c p o 1 cv cg=0 by simp[dG,hnew,kf]]
     rfl
    ·rw[show cN c x p o 1 cv cg=x.own p (o.wE 1 cv cg (.put (gB cg))) by simp[cN,hnew,kf]]
     exact cR (l:=[]) (by rw[List.append_nil];exact aI (r:=[_]) g5)
  ·have hgg:¬ cg≥0:=hg
   have hnew:db c p 1 cv cg=none:=by simp[db,hg]
   gi_wp2
   refine⟨trivial,?_⟩
   gi_wp2
   refine bodyPost_ret (results_tmp rfl _ _ _) rfl ⟨?_,?_⟩
   ·rw[show dG c p o 1 cv cg=2 by simp[dG,hnew]]
    rfl
   ·rw[show cN c x p o 1 cv cg=x by simp[cN,hnew]]
    exact cR (l:=[]) (by rw[List.append_nil];exact aI h1)
 ·have SC:¬ kd=1:=hk1
  by_cases hk2:kd=2
  ·subst hk2
   have hnew:db c p 2 cv cg=some (.get jb):=by simp[db]
   have e0:W1.cell? ⟨b.br,0,none⟩=some (.int .i64 (c.n:Int)):=cell_of hb1 0 _ rfl;have e1:W1.cell? ⟨b.br,1,none⟩=some (.int .i64 (c.q:Int)):=cell_of hb1 1 _ rfl;have e2:W1.cell? ⟨b.br,2,none⟩=some (.int .i64 c.g):=cell_of hb1 2 _ rfl;have e3':W1.cell? ⟨b.br,3,none⟩=some (.int .i64 c.m):=cell_of hb1 3 _ rfl;have e4:W1.cell? ⟨b.br,4,none⟩=some (.int .i64 c.t):=cell_of hb1 4 _ rfl;have e5:W1.cell? ⟨b.br,5,none⟩=some (.int .i64 c.s):=cell_of hb1 5 _ rfl
   gi_wp2
   refine⟨trivial,λh=>by simp[Fence.wide]at h,(JP (m-1) hp h1).mono ?_⟩;rintro e W3 ⟨bp,rfl,h3'⟩;have h3:af ⟨w,F⟩ ([je c p bp jb,aH w.heap.size [.int .i64 2,.int .i64 cv,.int .i64 cg] 26]++aF b c x es) W3:=h3';clear h3' e3';have e3:W3.cell? ⟨b.bo,p*7+3,none⟩=some mv:=cA hp ho h3 (by rw[← hmv];rfl);have e7:W3.cell? ⟨b.br,7,none⟩=some (.slice (some ⟨b.bo,0,none⟩) c.n b.cp):=cell_of (cI h3) 7 _ rfl;cases kf:o.dx with
   | some M0 =>
    obtain⟨Tq,vq,Mi⟩:∃ T v,mv=.iface T v:=by
     obtain⟨bq,q⟩:=sc hp ho kf h3;exact⟨_,_,hmv.symm.trans q⟩
    subst Mi
    gi_wp2
    refine bodyPost_ret (results_tmp rfl _ _ _) rfl ⟨?_,?_⟩
    ·rw[show dG c p o 2 cv cg=4 by simp[dG,hnew,kf]]
     rfl
    ·rw[show cN c x p o 2 cv cg=x by simp[cN,hnew,kf]]
     exact cR (l:=[]) (by rw[List.append_nil];exact aI h3)
   | none =>
    obtain rfl:mv=.nilIface:=by
     obtain⟨F9,k9,_⟩:=gG hp ho h3;rw[kf]at k9;exact hmv.symm.trans (oP (af.start k9))
    have HO:=ax (bU h3);have q0:W3.cell? ⟨w.heap.size,0,none⟩=some (.int .i64 2):=cell_of HO 0 _ rfl;have q1:W3.cell? ⟨w.heap.size,1,none⟩=some (.int .i64 cv):=cell_of HO 1 _ rfl;have q2:W3.cell? ⟨w.heap.size,2,none⟩=some (.int .i64 cg):=cell_of HO 2 _ rfl;have c0:W3.cell? ⟨b.bo,p*7,none⟩=some (.int .i64 o.kd):=cA (j:=0) hp ho h3 rfl;have c1:W3.cell? ⟨b.bo,p*7+1,none⟩=some (.int .i64 o.cv):=cA hp ho h3 rfl;have c2:W3.cell? ⟨b.bo,p*7+2,none⟩=some (.int .i64 o.cg):=cA hp ho h3 rfl;have c5:W3.cell? ⟨b.bo,p*7+5,none⟩=some (.bool o.gn):=cA hp ho h3 rfl;have f0:W3.frozen? ⟨b.bo,p*7,none⟩=false:=cM h3 _;have f1:W3.frozen? ⟨b.bo,p*7+1,none⟩=false:=cM h3 _;have f2:W3.frozen? ⟨b.bo,p*7+2,none⟩=false:=cM h3 _;have f3:W3.frozen? ⟨b.bo,p*7+3,none⟩=false:=cM h3 _;have f5:W3.frozen? ⟨b.bo,p*7+5,none⟩=false:=cM h3 _;have hl:∀ (x':aE) (o':bX),p<x'.ow.length->(x'.own p o').ow[p]? = some o':=λx' o' h=>List.getElem?_set_self h
    have hlen':∀ (o':bX),p<(x.own p o').ow.length:=λo'=>by
     show p<(x.ow.set p o').length;rw[List.length_set];exact hlt
    have g0:=dg (o':=⟨2,o.cv,o.cg,o.dx,o.dq,o.gn,o.rs⟩) (e':=es p) hp ho 0 (by decide) (.int .i64 2) rfl _ (λm w h=>h) h3;rw[eE]at g0;have g1:=dg (o':=⟨2,cv,o.cg,o.dx,o.dq,o.gn,o.rs⟩) (e':=es p) hp (hl x ⟨2,o.cv,o.cg,o.dx,o.dq,o.gn,o.rs⟩ hlt) 1 (by decide) (.int .i64 cv) rfl _ (λm w h=>h) g0;rw[eE,eF]at g1;have g2:=dg (o':=⟨2,cv,cg,o.dx,o.dq,o.gn,o.rs⟩) (e':=es p) hp (hl x ⟨2,cv,o.cg,o.dx,o.dq,o.gn,o.rs⟩ hlt) 2 (by decide) (.int .i64 cg) rfl _ (λm w h=>h) g1;rw[eE,eF]at g2;have g3:=dg (o':=⟨2,cv,cg,some (.get jb),o.dq,o.gn,o.rs⟩) (e':=⟨(es p).d,.iface 83 (.pointer (some ⟨bp,0,none⟩)),(es p).rv⟩) hp (hl x ⟨2,cv,cg,o.dx,o.dq,o.gn,o.rs⟩ hlt) 3 (by decide) (.iface 83 (.pointer (some ⟨bp,0,none⟩))) rfl [aH w.heap.size [.int .i64 2,.int .i64 cv,.int .i64 cg] 26] (λm w h=>wv (JR h)) g2;rw[eF]at g3;have g5:=dg (o':=⟨2,cv,cg,some (.get jb),o.dq,false,o.rs⟩) (e':=⟨(es p).d,.iface 83 (.pointer (some ⟨bp,0,none⟩)),(es p).rv⟩) hp (hl x ⟨2,cv,cg,some (.get jb),o.dq,o.gn,o.rs⟩ hlt) 5 (by decide) (.bool false) (by rw[ez];rfl) [aH w.heap.size [.int .i64 2,.int .i64 cv,.int .i64 cg] 26] (λm w h=>by rw[ez]at h;exact h) g3;rw[eF]at g5
    gi_wp2
    refine bodyPost_ret (results_tmp rfl _ _ _) rfl ⟨?_,?_⟩
    ·rw[show dG c p o 2 cv cg=0 by simp[dG,hnew,kf]]
     rfl
    ·rw[show cN c x p o 2 cv cg=x.own p (o.wE 2 cv cg (.get jb)) by simp[cN,hnew,kf]]
     exact cR (l:=[]) (by rw[List.append_nil];exact aI (r:=[_]) g5)
  ·by_cases hk3:kd=3
   ·subst hk3
    by_cases hv:0<=cv/\cv<(c.n:Int)
    ·obtain⟨v,rfl⟩:∃ v:Nat,cv=(v:Int):=⟨cv.toNat,by omega⟩
     have QT:v<c.n:=by omega
     have Qm:decide (0<=(v:Int)/\(v:Int)<(c.n:Int))=true:=by simp[QT]
     gi_wp2
     refine⟨trivial,λh=>by simp[Fence.wide]at h,(jZ (m-1) hb1 (v:Int)).mono ?_⟩;rintro e w' ⟨rfl,hw'⟩;replace hw':=hw'.symm;subst hw';rw[Qm]
     by_cases hvp:v=p
     ·subst hvp
      have hnew:db c v 3 (v:Int) cg=none:=by simp[db]
      have hne:((v:Int)==(v:Int))=true:=by simp
      gi_wp2
      refine bodyPost_ret (results_tmp rfl _ _ _) rfl ⟨?_,?_⟩
      ·rw[show dG c v o 3 (v:Int) cg=2 by simp[dG,hnew]]
       rfl
      ·rw[show cN c x v o 3 (v:Int) cg=x by simp[cN,hnew]]
       exact cR (l:=[]) (by rw[List.append_nil];exact aI h1)
     ·have hnew:db c p 3 (v:Int) cg=some (.steal v dX):=by
       unfold db;rw[if_neg (by omega),if_neg (by omega),if_pos ⟨rfl,by omega,by omega,by omega⟩];rfl
      have SD:¬ (v:Int)=(p:Int):=by omega
      have hd1:=bA h1 ((Below.refl _ W1).drew);have KQ:∀ (r:List aG) (w':World),af ⟨w,F⟩ ([aH w.heap.size [.int .i64 3,.int .i64 (v:Int),.int .i64 cg] 26]++(r++aF b c x es)) w'->(w'.cell? ⟨b.br,0,none⟩=some (.int .i64 (c.n:Int))/\w'.cell? ⟨b.br,1,none⟩=some (.int .i64 (c.q:Int))/\w'.cell? ⟨b.br,2,none⟩=some (.int .i64 c.g)/\w'.cell? ⟨b.br,3,none⟩=some (.int .i64 c.m)/\w'.cell? ⟨b.br,4,none⟩=some (.int .i64 c.t)/\w'.cell? ⟨b.br,5,none⟩=some (.int .i64 c.s))/\w'.cell? ⟨w.heap.size,1,none⟩=some (.int .i64 (v:Int)):=λr w' hh=>⟨⟨cell_of (cI (aI hh)) 0 _ rfl,cell_of (cI (aI hh)) 1 _ rfl,cell_of (cI (aI hh)) 2 _ rfl,cell_of (cI (aI hh)) 3 _ rfl,cell_of (cI (aI hh)) 4 _ rfl,cell_of (cI (aI hh)) 5 _ rfl⟩,cell_of (ax hh) 1 _ rfl⟩
      have N8:∀ w',af ⟨w,F⟩ ([aH w.heap.size [.int .i64 3,.int .i64 (v:Int),.int .i64 cg] 26]++aF b c x es) w'->CallsIn Fence.wide 0 prog 35 #[c.v,.int .i64 (p:Int),.int .i64 (v:Int)] w' λe w'=>∃ bp,e=.returned (.pointer (some ⟨bp,0,none⟩))/\af ⟨w,F⟩ ([cP c p v bp dX,aH w.heap.size [.int .i64 3,.int .i64 (v:Int),.int .i64 cg] 26]++aF b c x es) w':=λw' hh=>by
       exact DE 0 hp QT (λe=>hvp e.symm) hh
      gi_wp2
      refine wpIn_wide.2 ?_
      go_region_held3 (λw'=>(w'.cell? ⟨b.br,0,none⟩=some (.int .i64 (c.n:Int))/\w'.cell? ⟨b.br,1,none⟩=some (.int .i64 (c.q:Int))/\w'.cell? ⟨b.br,2,none⟩=some (.int .i64 c.g)/\w'.cell? ⟨b.br,3,none⟩=some (.int .i64 c.m)/\w'.cell? ⟨b.br,4,none⟩=some (.int .i64 c.t)/\w'.cell? ⟨b.br,5,none⟩=some (.int .i64 c.s))/\w'.cell? ⟨w.heap.size,1,none⟩=some (.int .i64 (v:Int))) ((first | exact KQ [] _ hd1 | exact KQ [_] _ (bU h3) | fail)) ((first
       | (go_at_call 35;have hcon:=callsIn_wide.1 (N8 _ hd1);(with_reducible refine hcon.mono ?_);clear hcon;rintro e W3 ⟨bp,rfl,h3⟩)))
      have e3:W3.cell? ⟨b.bo,p*7+3,none⟩=some mv:=cA hp ho h3 (by rw[← hmv];rfl);have e7:W3.cell? ⟨b.br,7,none⟩=some (.slice (some ⟨b.bo,0,none⟩) c.n b.cp):=cell_of (cI h3) 7 _ rfl;cases kf:o.dx with
      | some M0 =>
       obtain⟨Tq,vq,Mi⟩:∃ T v,mv=.iface T v:=by
        obtain⟨bq,q⟩:=sc hp ho kf h3;exact⟨_,_,hmv.symm.trans q⟩
       subst Mi
       gi_wp2
       refine bodyPost_ret (results_tmp rfl _ _ _) rfl ⟨?_,?_⟩
       ·rw[show dG c p o 3 (v:Int) cg=4 by simp[dG,hnew,kf]]
        rfl
       ·rw[show cN c x p o 3 (v:Int) cg=x by simp[cN,hnew,kf]]
        exact cR (l:=[]) (by rw[List.append_nil];exact aI h3)
      | none =>
       obtain rfl:mv=.nilIface:=by
        obtain⟨F9,k9,_⟩:=gG hp ho h3;rw[kf]at k9;exact hmv.symm.trans (oP (af.start k9))
       have HO:=ax (bU h3);have q0:W3.cell? ⟨w.heap.size,0,none⟩=some (.int .i64 3):=cell_of HO 0 _ rfl;have q1:W3.cell? ⟨w.heap.size,1,none⟩=some (.int .i64 (v:Int)):=cell_of HO 1 _ rfl;have q2:W3.cell? ⟨w.heap.size,2,none⟩=some (.int .i64 cg):=cell_of HO 2 _ rfl;have c0:W3.cell? ⟨b.bo,p*7,none⟩=some (.int .i64 o.kd):=cA (j:=0) hp ho h3 rfl;have c1:W3.cell? ⟨b.bo,p*7+1,none⟩=some (.int .i64 o.cv):=cA hp ho h3 rfl;have c2:W3.cell? ⟨b.bo,p*7+2,none⟩=some (.int .i64 o.cg):=cA hp ho h3 rfl;have c5:W3.cell? ⟨b.bo,p*7+5,none⟩=some (.bool o.gn):=cA hp ho h3 rfl;have f0:W3.frozen? ⟨b.bo,p*7,none⟩=false:=cM h3 _;have f1:W3.frozen? ⟨b.bo,p*7+1,none⟩=false:=cM h3 _;have f2:W3.frozen? ⟨b.bo,p*7+2,none⟩=false:=cM h3 _;have f3:W3.frozen? ⟨b.bo,p*7+3,none⟩=false:=cM h3 _;have f5:W3.frozen? ⟨b.bo,p*7+5,none⟩=false:=cM h3 _;have hl:∀ (x':aE) (o':bX),p<x'.ow.length->(x'.own p o').ow[p]? = some o':=λx' o' h=>List.getElem?_set_self h
       have hlen':∀ (o':bX),p<(x.own p o').ow.length:=λo'=>by
        show p<(x.ow.set p o').length;rw[List.length_set];exact hlt
       have g0:=dg (o':=⟨3,o.cv,o.cg,o.dx,o.dq,o.gn,o.rs⟩) (e':=es p) hp ho 0 (by decide) (.int .i64 3) rfl _ (λm w h=>h) h3;rw[eE]at g0;have g1:=dg (o':=⟨3,(v:Int),o.cg,o.dx,o.dq,o.gn,o.rs⟩) (e':=es p) hp (hl x ⟨3,o.cv,o.cg,o.dx,o.dq,o.gn,o.rs⟩ hlt) 1 (by decide) (.int .i64 (v:Int)) rfl _ (λm w h=>h) g0;rw[eE,eF]at g1;have g2:=dg (o':=⟨3,(v:Int),cg,o.dx,o.dq,o.gn,o.rs⟩) (e':=es p) hp (hl x ⟨3,(v:Int),o.cg,o.dx,o.dq,o.gn,o.rs⟩ hlt) 2 (by decide) (.int .i64 cg) rfl _ (λm w h=>h) g1;rw[eE,eF]at g2;have g3:=dg (o':=⟨3,(v:Int),cg,some (.steal v dX),o.dq,o.gn,o.rs⟩) (e':=⟨(es p).d,.iface 85 (.pointer (some ⟨bp,0,none⟩)),(es p).rv⟩) hp (hl x ⟨3,(v:Int),cg,o.dx,o.dq,o.gn,o.rs⟩ hlt) 3 (by decide) (.iface 85 (.pointer (some ⟨bp,0,none⟩))) rfl [aH w.heap.size [.int .i64 3,.int .i64 (v:Int),.int .i64 cg] 26] (λm w h=>wv (DF h)) g2;rw[eF]at g3;have g5:=dg (o':=⟨3,(v:Int),cg,some (.steal v dX),o.dq,false,o.rs⟩) (e':=⟨(es p).d,.iface 85 (.pointer (some ⟨bp,0,none⟩)),(es p).rv⟩) hp (hl x ⟨3,(v:Int),cg,some (.steal v dX),o.dq,o.gn,o.rs⟩ hlt) 5 (by decide) (.bool false) (by rw[ez];rfl) [aH w.heap.size [.int .i64 3,.int .i64 (v:Int),.int .i64 cg] 26] (λm w h=>by rw[ez]at h;exact h) g3;rw[eF]at g5
       gi_wp2
       refine bodyPost_ret (results_tmp rfl _ _ _) rfl ⟨?_,?_⟩
       ·rw[show dG c p o 3 (v:Int) cg=0 by simp[dG,hnew,kf]]
        rfl
       ·rw[show cN c x p o 3 (v:Int) cg=x.own p (o.wE 3 (v:Int) cg (.steal v dX)) by simp[cN,hnew,kf]]
        exact cR (l:=[]) (by rw[List.append_nil];exact aI (r:=[_]) g5)
    ·have Qm:decide (0<=cv/\cv<(c.n:Int))=false:=decide_eq_false hv
     have hnew:db c p 3 cv cg=none:=by
      unfold db;rw[if_neg (by omega),if_neg (by omega),if_neg (λh=>hv ⟨h.2.1,h.2.2.1⟩)]
     gi_wp2
     refine⟨trivial,λh=>by simp[Fence.wide]at h,(jZ (m-1) hb1 cv).mono ?_⟩;rintro e w' ⟨rfl,hw'⟩;replace hw':=hw'.symm;subst hw';rw[Qm]
     gi_wp2
     refine bodyPost_ret (results_tmp rfl _ _ _) rfl ⟨?_,?_⟩
     ·rw[show dG c p o 3 cv cg=2 by simp[dG,hnew]]
      rfl
     ·rw[show cN c x p o 3 cv cg=x by simp[cN,hnew]]
      exact cR (l:=[]) (by rw[List.append_nil];exact aI h1)
   ·have hnew:db c p kd cv cg=none:=by simp[db,hk1,hk2,hk3]
    gi_wp2
    refine⟨trivial,?_⟩
    gi_wp2
    refine bodyPost_ret (results_tmp rfl _ _ _) rfl ⟨?_,?_⟩
    ·rw[show dG c p o kd cv cg=2 by simp[dG,hnew]]
     rfl
    ·rw[show cN c x p o kd cv cg=x by simp[cN,hnew]]
     exact cR (l:=[]) (by rw[List.append_nil];exact aI h1)
end Go.Proofs.YtkmccgombmogmaaGreat
namespace Go.Ev
open Go.RowKit
def y8(v:Value):Prop:=v=.slice none 0 0\/∃ b n c,v=.slice (some ⟨b,0,none⟩) n c
theorem HP{b off n m c:Nat}(h:y8 (.slice (some ⟨b,off,none⟩) n c)):y8 (.slice (some ⟨b,off,none⟩) m c):=by
 rcases h with h | ⟨b',n',c',h⟩
 ·cases h
 ·cases h
  exact .inr ⟨_,_,_,rfl⟩
theorem dQ.JS{P:Program}{t u ty e:TypeId}{i:TypeInfo}{z:Value}{v y:Value}{n m:Nat}{xs cs:List Value}{F:Nat->Prop}{w:World}(h:dQ e i.size v n xs F w)(ht:P.underlying t=some (.slice e))(hi:P.info? e=some i)(hz:i.zero=some z)(hzs:z.cells.size=i.size)
  (hs:Src P i.size u y m cs w) (hb:(n+m)*i.bytes<=140737488355328) (hnm:n+m<=1000000000) (h0:y8 v) :
  ∃ v' w' F',(Builtin.append_ #[t,u] ty #[v,y]).run P w=.ok v' w'/\dQ e i.size v' (n+m) (xs++cs) F' w'/\Turn F w w'/\(∀ j,F' j->j<w'.heap.size/\(F j\/w.heap.size<=j))/\y8 v':=by
 obtain⟨hl,hv⟩:=h;have hcl:=hs.newsLen;have grow:∀ (base:Option Addr) (c:Nat),v=.slice base n c->c<n+m->(Builtin.firstCells i.size n (.slice base n c)).run P w.drew=.ok xs.toArray w.drew->
   ∃ v' w' F',(Builtin.append_ #[t,u] ty #[v,y]).run P w=.ok v' w'/\dQ e i.size v' (n+m) (xs++cs) F' w'/\Turn F w w'/\(∀ j,F' j->j<w'.heap.size/\(F j\/w.heap.size<=j))/\y8 v':=by
  intro base c hv0 hlt hold;have hrun:=run_append_grow_src (P:=P) w t u ty e i z ht hi hz base n c xs hold y m cs hs hlt (by omega) (growslice_fits hlt hb);have hcap:=grownCap_ge w (n+m) c e;generalize grownCap w (n+m) c e=cap at hrun hcap;refine⟨.slice (some ⟨w.heap.size,0,none⟩) (n+m) cap,w.drew.alloc (.cells ((xs++cs).toArray++Builtin.zeroCells z.cells (cap-(n+m))) e),(λj=>j=w.heap.size),by rw[hv0];exact hrun,⟨by rw[List.length_append,hl,hcl,Nat.add_mul],.inr ⟨w.heap.size,0,cap,(xs++cs).toArray++Builtin.zeroCells z.cells (cap-(n+m)),rfl,λ_=>Iff.rfl,?_,?_,?_,hcap⟩⟩,⟨rfl,rfl,rfl,by simp,λk hk _=>?_⟩,λj hj=>?_,.inr ⟨_,_,_,rfl⟩⟩
  ·show(w.heap.push _)[w.heap.size]? = _
   rw[Array.getElem?_push_size]
  ·intro k hk
   rw[Nat.zero_add,Array.getElem?_append_left (by simp[hl,hcl,← Nat.add_mul];exact hk)];simp
  ·have e2:(Builtin.zeroCells z.cells (cap-(n+m))).size=(cap-(n+m))*i.size:=by simp[Builtin.zeroCells,hzs]
   rw[Array.size_append,e2];simp only[List.size_toArray,List.length_append,hl,hcl];rw[Nat.zero_add,← Nat.add_mul,← Nat.add_mul];rw[show n+m+(cap-(n+m))=cap by omega];exact Nat.le_refl _
  ·exact Below.heap_alloc _ _ _ hk
  ·rw[hj]
   exact⟨by simp,.inr (Nat.le_refl _)⟩
 rcases hv with ⟨hv,rfl,hF⟩ | ⟨b,off,c,arr,hv,hF,hb0,hx,hsz,hnc⟩
 ·by_cases hm:m=0
  ·subst hm
   have hcs:cs=[]:=List.eq_nil_of_length_eq_zero (by rw[hcl];simp);subst hcs;refine⟨v,w,F,?_,⟨by simpa using hl,.inl ⟨hv,rfl,hF⟩⟩,⟨rfl,rfl,rfl,Nat.le_refl _,λ_ _ _=>rfl⟩,λj hj=>(hF j hj).elim,h0⟩;obtain⟨a,hv⟩:=hv.base;rw[hv];exact run_append_nothing w t u ty e i ht hi a 0 0 (Nat.le_refl _) y hs
  ·have hxs:xs=[]:=List.eq_nil_of_length_eq_zero (by rw[hl];simp)
   rcases hv with hv | ⟨b,off,hv⟩
   ·exact grow none 0 hv (by omega) (by rw[hxs];exact run_firstCells_none _ _ _ _ _)
   ·exact grow (some ⟨b,off,none⟩) 0 hv (by omega) (run_firstCells_some _ _ _ _ _ _ _ hl (λj x hj=>by rw[hxs]at hj;cases hj))
 ·by_cases hroom:n+m<=c
  ·have hnm':(n+m)*i.size<=c*i.size:=Nat.mul_le_mul_right _ hroom
   rw[Nat.add_mul]at hnm';have cell:∀ j,j<cs.length->∃ x,w.cell? ⟨b,off+n*i.size+j,none⟩=some x:=by
    intro j hj;have hlt:off+n*i.size+j<arr.size:=by omega
    exact⟨arr[off+n*i.size+j],by simp[World.cell?,hb0,Array.getElem?_eq_getElem hlt]⟩
   have hrun:=run_append_room_src (P:=P) w t u ty e i ht hi b off n c y m cs hs hroom (λj hj=>by obtain⟨x,hx⟩:=cell j hj;rw[hx];rfl) (λj hj=>by simp[World.frozen?,hb0]);obtain⟨cur,s1,s2,s3,s4⟩:=@jA dk _ _ cs (off+n*i.size) w arr hb0;refine⟨_,_,F,by rw[hv];exact hrun,⟨by rw[List.length_append,hl,hcl,Nat.add_mul],.inr ⟨b,off,c,cur,rfl,hF,s1,?_,by rw[s2];exact hsz,hroom⟩⟩,⟨?_,?_,?_,by rw[@setCells_size dk];exact Nat.le_refl _,λk _ hk=>@eK dk _ _ _ _ _ (λe=>hk ((hF k).2 e))⟩,λj hj=>⟨?_,.inl hj⟩,by rw[hv]at h0;exact HP h0⟩
   ·intro k hk
    by_cases hkn:k<n*i.size
    ·rw[s3 _ (by omega),hx k hkn,List.getElem?_append_left (by omega)]
    ·have e1:off+k=off+n*i.size+(k-n*i.size):=by omega
     rw[Nat.add_mul]at hk;have hlt2:k-n*i.size<cs.length:=by omega
     rw[List.getElem?_append_right (by omega),hl,e1,List.getElem?_eq_getElem hlt2];exact s4 _ _ (List.getElem?_eq_getElem hlt2) (by omega)
   ·exact(@da dk (base:=λ_=>False) (b:=b) (λh=>h) cs (off+n*i.size) w).os
   ·exact(@da dk (base:=λ_=>False) (b:=b) (λh=>h) cs (off+n*i.size) w).tape
   ·exact(@da dk (base:=λ_=>False) (b:=b) (λh=>h) cs (off+n*i.size) w).output
   ·rw[@setCells_size dk,(hF j).1 hj]
    exact(Array.getElem?_eq_some_iff.1 hb0).1
  ·refine grow (some ⟨b,off,none⟩) c hv (by omega) (run_firstCells_some _ _ _ _ _ _ _ hl (λj x hj=>?_))
   have hjl:j<n*i.size:=by
    rw[← hl];exact(List.getElem?_eq_some_iff.1 hj).1
   have:=hx j hjl;rw[hj]at this;show w.cell? ((⟨b,off,none⟩:Addr).add j)=some x;rw[fB];simp[World.cell?,hb0,this]
theorem af.app0{P:Program}{t u ty e:TypeId}{i:TypeInfo}{z:Value}{v y:Value}{n m:Nat}{xs cs:List Value}{ctx:dc}{l:List aG}{w:World}(h:af ctx (bQ e i.size v n xs::l) w)(ht:P.underlying t=some (.slice e))(hi:P.info? e=some i)(hz:i.zero=some z)(hzs:z.cells.size=i.size)
  (hs:Src P i.size u y m cs w) (hb:(n+m)*i.bytes<=140737488355328) (hnm:n+m<=1000000000) (h0:y8 v) :
  ∃ v' w',(Builtin.append_ #[t,u] ty #[v,y]).run P w=.ok v' w'/\af ctx (bQ e i.size v' (n+m) (xs++cs)::l) w'/\y8 v':=by
 obtain⟨F',m1,m2,m3⟩:=h.ex;obtain⟨Fa,Fl,k1,k2,k3,k4⟩:=bI m1;obtain⟨v',w',G,r1,r2,r3,r4,r5⟩:=dQ.JS (ty:=ty) k1 ht hi hz hzs hs hb hnm h0;have Pn:∀ j,Fl j->w'.heap[j]? = w.heap[j]?:=λj hj=>r3.block j (k2.lt j hj) (λhf=>k3 j hf hj)
 have h1:=fV k2 Pn r3.size
 have h2:=bP (a:=bQ e i.size v' (n+m) (xs++cs)) (Fa:=G) r2 h1 (λj hj=>(r4 j hj).1) (λj hj hl=>by
  rcases(r4 j hj).2 with h | h
  ·exact k3 j h hl
  ·have:=k2.lt j hl
   omega)
 refine⟨v',w',r1,⟨_,h2,⟨r3.os.trans m2.os,r3.tape.trans m2.tape,r3.output.trans m2.output,Nat.le_trans m2.size r3.size,λj hj hx=>?_⟩,λj hj=>?_⟩,r5⟩
 ·refine(r3.block j (Nat.lt_of_lt_of_le hj m2.size) (λhf=>?_)).trans (m2.block j hj hx)
  rcases m3 j ((k4 j).2 (.inl hf)) with h | h
  ·exact hx h
  ·omega
 ·rcases hj with hj | hj
  ·rcases(r4 j hj).2 with h | h
   ·exact m3 j ((k4 j).2 (.inl h))
   ·exact .inr (Nat.le_trans m2.size h)
  ·exact m3 j ((k4 j).2 (.inr hj))
end Go.Ev
