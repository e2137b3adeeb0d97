/- Part of a proof: see the last text. -/
import Derived.Test.YtkmccgombmogmaaGreatZe16
set_option linter.unusedSectionVars false
set_option linter.unusedSimpArgs false
set_option linter.unusedVariables false
namespace Go.Ev
open Go.RowKit
section
variable{k:Kn}{P:Program}{g:Nat}{l:List aG}{ci:Nat}{t e:TypeId}{sL sA sV n sz lo:Nat}{v:Value}{xs:List Value}{w0:World}{i:TypeInfo}{kd:IntKind}
theorem jT(hs:jd sz v n xs w0)(ht:P.underlying t=some (.slice e))(gw:P.info? e=some i)(hsz:i.size=sz)(h1:lo<=n)(w:World) :
  (Instr.sliceAt t v (some (.int kd (lo:Int))) none none).run P w=.ok (cutV sz v lo n) w:=by
 subst hsz;have hbd:∀ c:Nat,n<=c->(Instr.sliceBounds true n c (some (.int kd (lo:Int))) none none).run P w=.ok (lo,n,c) w:=by
  intro c hc;have e2:(lo:Int)<=(n:Int):=by omega
  simp[Instr.sliceBounds,run_sliceBound,e2]
 have hs':(Instr.sliceAt t v (some (.int kd (lo:Int))) none none).run P w=(Instr.slice t v (some (.int kd (lo:Int))) none none).run P w:=by
  simp[Instr.sliceAt,run_underlying ht]
 rw[hs'];obtain⟨hl,⟨rfl,a,c,rfl⟩ | ⟨b,off,c,rfl,⟨hb,hc⟩,hx⟩⟩:=hs
 ·obtain rfl:lo=0:=by omega
  cases a with
  | none =>
   simp only[Instr.slice,Sem.run_bind,run_underlying ht,Result.andThen];rw[hbd c (Nat.zero_le _)];simp[sizeOf,typeInfo,gw,cutV]
  | some a =>
   simp only[Instr.slice,Sem.run_bind,run_underlying ht,Result.andThen];rw[hbd c (Nat.zero_le _)]
   by_cases e0:c=0<;>simp[sizeOf,typeInfo,gw,cutV,e0]
 ·simp only[Instr.slice,Sem.run_bind,run_underlying ht,Result.andThen]
  rw[hbd c hc]
  by_cases e0:c=lo<;>simp[sizeOf,typeInfo,gw,cutV,e0]
theorem NG(hg:k.gs[g]? = some (star l))(hc:l[ci]? = some (bQ e sz v n xs))(ht:P.underlying t=some (.slice e))(gw:P.info? e=some i)(hsz:i.size=sz)(hL:k.val sL=v)(hA:k.val sA=.int kd (lo:Int))(h2:lo<=n)(hV:k.val sV=cutV sz v lo n):aZ k P ⟨[4,t,1,0,0],[sy sL,sy sA],none,g,none,sy sV,none⟩:=by
 refine aZ.vA k ?_;letI:bg:=k.sig;intro ι F w d x' y' q hx hy;obtain⟨Fs,ff,hS,hf,h1⟩:=eP hg hc q;rw[jw hx,jw hy,hL,hA];exact⟨_,w,jT (kd:=kd) (dQ.ro h1) ht gw hsz h2 w,oi hV,Below.refl _ _⟩
theorem dQ.yB{F:Nat->Prop}{w:World}(h:dQ e sz v n xs F w)(h2:lo<=n):dQ e sz (cutV sz v lo n) (n-lo) (xs.drop (lo*sz)) F w:=by
 obtain⟨h1,h3⟩:=h;have hle:=Nat.mul_le_mul_right sz h2;refine⟨by rw[List.length_drop,h1,Nat.sub_mul],?_⟩;rcases h3 with ⟨he,rfl,hF⟩ | ⟨b,off,c,arr,rfl,hF,hb0,hx,hs,hnc⟩
 ·obtain rfl:lo=0:=by omega
  refine .inl ⟨?_,rfl,hF⟩;rcases he with rfl | ⟨b,off,rfl⟩
  ·exact .inl rfl
  ·exact .inr ⟨b,off,by simp[cutV]⟩
 ·have e1:=Nat.mul_le_mul_right sz h2
  have e2:(n-lo)*sz=n*sz-lo*sz:=Nat.sub_mul ..;have e3:(c-lo)*sz=c*sz-lo*sz:=Nat.sub_mul ..;have e4:=Nat.mul_le_mul_right sz (Nat.le_trans h2 hnc)
  by_cases e0:c=lo
  ·refine .inr ⟨b,off,c-lo,arr,by simp only[cutV,if_pos e0],hF,hb0,λi hi=>?_,by omega,by omega⟩
   have:n=lo:=by omega
   subst this;simp at hi
  ·refine .inr ⟨b,off+lo*sz,c-lo,arr,by simp only[cutV,if_neg e0,fB],hF,hb0,λi hi=>?_,by omega,by omega⟩
   rw[Nat.add_assoc,hx _ (by omega),List.getElem?_drop]
theorem af.yB{c:dc}{l:List aG}{w:World}(h:af c (bQ e sz v n xs::l) w)(h2:lo<=n):af c (bQ e sz (cutV sz v lo n) (n-lo) (xs.drop (lo*sz))::l) w:=h.head (λF h=>dQ.yB h h2)
def ig(v:Value):Value :=
 match v with
 | .slice a n _=>.slice a n n
 | v=>v
theorem dO{v:Value}(h:aV v=true):aV (ig v)=true:=by
 unfold ig
 split
 ·rfl
 ·exact h
theorem BJ{sM:Nat}{kd':IntKind}(hg:k.gs[g]? = some (star l))(hi:l[ci]? = some (bQ e sz v n xs))(h0:0<n)(ht:P.underlying t=some (.slice e))(gw:P.info? e=some i)(hL:k.val sL=v)(hA:k.val sA=.int kd (n:Int))(hM:k.val sM=.int kd' (n:Int))(hV:k.val sV=ig v):aZ k P ⟨[4,t,0,1,1],[sy sL,sy sA,sy sM],none,g,none,sy sV,none⟩:=by
 refine aZ.slice3 ?_;letI:bg:=k.sig;intro ι F w d x' y' z' q hx hy hz;obtain⟨Fs,ff,hS,hf,h1⟩:=eP hg hi q;rw[jw hx,hL,jw hy,hA,jw hz,hM];refine⟨ig v,w,?_,oi hV,Below.refl _ _⟩;have hs:∀ v,(Instr.sliceAt t v none (some (.int kd (n:Int))) (some (.int kd' (n:Int)))).run P w=(Instr.slice t v none (some (.int kd (n:Int))) (some (.int kd' (n:Int)))).run P w:=λv=>by simp[Instr.sliceAt,run_underlying ht]
 rw[hs];obtain⟨_,⟨_,rfl,_⟩ | ⟨b,off,c,arr,rfl,_,_,_,_,hc⟩⟩:=h1
 ·omega
 ·have e1:(n:Int)<=(c:Int):=by omega
  have e2:¬ n=0:=by omega
  have hbd:(Instr.sliceBounds true n c none (some (.int kd (n:Int))) (some (.int kd' (n:Int)))).run P w=.ok (0,n,n) w:=by simp[Instr.sliceBounds,run_sliceBound,e1]
  simp only[Instr.slice,Sem.run_bind,run_underlying ht,Result.andThen];rw[hbd];simp[sizeOf,typeInfo,gw,ig,e2,fB]
theorem dQ.full{F:Nat->Prop}{w:World}(h:dQ e sz v n xs F w)(h0:0<n):dQ e sz (ig v) n xs F w:=by
 obtain⟨h1,⟨_,rfl,_⟩ | ⟨b,off,c,arr,rfl,hF,hb0,hx,hs,hnc⟩⟩:=h
 ·omega
 ·have:=Nat.mul_le_mul_right sz hnc
  exact⟨h1,.inr ⟨b,off,n,arr,rfl,hF,hb0,hx,by omega,Nat.le_refl _⟩⟩
theorem af.full{c:dc}{l:List aG}{w:World}(h:af c (bQ e sz v n xs::l) w)(h0:0<n):af c (bQ e sz (ig v) n xs::l) w:=h.head (λF h=>dQ.full h h0)
theorem Gg{c:Int}(hg:k.gs[g]? = some (star l))(hc:l[ci]? = some (bQ e sz v n xs))(h0:0<n)(ht:P.underlying t=some (.slice e))(gw:P.info? e=some i)(hsz:i.size=sz)(hL:k.val sL=ig v)(hA:c=(lo:Int))(h2:lo<=n)(hV:k.val sV=cutV sz (ig v) lo n):aZ k P ⟨[4,t,1,0,0],[sy sL,.int kd c],none,g,none,sy sV,none⟩:=by
 refine aZ.vA k ?_;letI:bg:=k.sig;intro ι F w d x' y' q hx hy;obtain⟨Fs,ff,hS,hf,h1⟩:=eP hg hc q;cases hy;rw[jw hx,hL,hA];exact⟨_,w,jT (kd:=kd) (dQ.ro (dQ.full h1 h0)) ht gw hsz h2 w,oi hV,Below.refl _ _⟩
theorem rM{g' d1:Nat}{kd':IntKind}{y z:Value}(hg:k.gs[g]? = some (star l))(hg':k.gs[g']? = some (star (l++[jE d1 (λv=>bQ e sz v 0 [])])))(hy:DN k y (.int kd' (n:Int)))(ht:P.underlying t=some (.slice e))(gw:P.info? e=some i)(hsz:i.size=sz)(hz:i.zero=some z)(hzs:z.cells.size=sz)(hb:i.bytes*n<=281474976710656)(hn:n<=maxLen):aZ k P ⟨[19,t],[.int kd 0,y],none,g,some d1,.complex .f32 d1 0,some g'⟩:=by
 refine aZ.make ?_;letI:bg:=k.sig;intro ι F w d x' y' q PB M9;obtain rfl:=q.name d1 rfl;obtain⟨b,q1,q2⟩:=q.st;rw[hg]at q1;cases q1;cases PB;rw[hy _ _ M9];have h63':(n:Int)<=9223372036854775807:=by
  have h:=hn;simp[maxLen]at h;omega
 have hb':(i.bytes:Int)*(n:Int)<=281474976710656:=by
  have h:((i.bytes*n:Nat):Int)<=281474976710656:=by omega
  rwa [Int.natCast_mul]at h
 have r1:=run_make (P:=P) w t e i z ht gw hz kd kd' 0 n (Int.le_refl _) (by omega) hb' h63';simp only[Int.toNat_natCast,Int.toNat_zero]at r1;obtain⟨cur,hcur⟩:∃ cur,madeCells z.cells (n*i.size)=cur:=⟨_,rfl⟩;rw[hcur]at r1;have hcs:cur.size=n*sz:=by rw[← hcur,hsz];exact size_madeCells _ _
 have hsl:dQ e sz (.slice (some ⟨w.heap.size,0,none⟩) 0 n) 0 [] (λj=>j=w.heap.size) (w.alloc (.cells cur e)) :=
  ⟨by simp,.inr ⟨w.heap.size,0,n,cur,rfl,λ_=>Iff.rfl,World.alloc_heap_new _ _,λj hj=>by simp at hj,by omega,Nat.zero_le _⟩⟩
 obtain⟨cc,hcc⟩:=hsl.code;have hup:(ι.upd d1 cc) d1=some cc:=by simp[am.upd]
 exact⟨_,_,r1,grow_end hg' q2 q.lt (iL q) cc ⟨cc,hup,by rw[hcc];exact hsl⟩ (lP (World.grownBy_alloc w _ none)) (λj hj=>⟨hsl.lt j hj,by rw[hj];exact Nat.le_refl _⟩) (.dyn d1 cc _ hup hcc)⟩
theorem dW{g' d1 e' m:Nat}{u:TypeId}{i:TypeInfo}{z:Value}{c cs:List Value}(hg:k.gs[g]? = some (star l))(hg':k.gs[g']? = some (star (l++[jE d1 (λv'=>bQ e sz v' m cs)])))(ht:P.underlying t=some (.slice e))(hu:P.underlying u=some (.slice e'))(gw:P.info? e=some i)(hsz:i.size=sz)(h0:0<sz)(hz:i.zero=some z)(hzs:z.cells.size=i.size)
  (hb:m*i.bytes<=140737488355328) (hnm:m<=1000000000) (hm:c.length=m*sz) (hc:∀ ι c',(letI:bg:=k.sig;dL ι c c')->c'=cs):aZ k P ⟨[11,t,u],[.slice none 0 0],some (sz,1,c),g,some d1,.complex .f32 d1 0,some g'⟩:=by
 subst hsz;refine aZ.append k ?_;letI:bg:=k.sig;intro ι F w d x' y' c' m' ty q hx hcr hcm ho hr hl;have hmm:m'=m:=Nat.eq_of_mul_eq_mul_right h0 (by rw[← hcm,hm]);subst hmm;obtain rfl:=q.name d1 rfl;obtain⟨b,q1,q2⟩:=q.st;rw[hg]at q1;cases q1;rw[LS _ _ hx];have hs:Src P i.size u y' m' c' w:=⟨.inl ⟨_,hu⟩,hl,hr w rfl,hr w.drew rfl,by rw[← hcr.1];exact hm,vU hcr ho⟩;have h1:dQ e i.size (.slice none 0 0) 0 [] (λ_=>False) w:=dQ.nil e i.size w;obtain⟨v2,w2,F2,r1,r2,r3,r4⟩:=dQ.append (ty:=ty) h1 ht gw hz hzs hs (by rw[Nat.zero_add];exact hb) (by omega);rw[hc _ _ hcr,Nat.zero_add,List.nil_append]at r2;obtain⟨cc,hcc⟩:=r2.code;have hup:(ι.upd d1 cc) d1=some cc:=by simp[am.upd]
 exact⟨v2,w2,r1,grow_end hg' q2 q.lt (iL q) cc ⟨cc,hup,by rw[hcc];exact r2⟩ ⟨r3.os,r3.tape,r3.output,r3.size,λj hj=>r3.block j hj (λh=>h)⟩ (λj hj=>⟨(r4 j hj).1,(r4 j hj).2.elim (λh=>h.elim) id⟩) (.dyn d1 cc v2 hup hcc)⟩
end
end Go.Ev
namespace Go.Proofs.YtkmccgombmogmaaGreat
open Go.Ev Go.Proofs.Tryz
open Go.RowKit
open Go.Ev (sy iz uz wz iN uN wN pz dv fc fn ak vk vd kn pc cc cr cm cd fr)
set_option maxRecDepth 8000
attribute [local irreducible] og
structure LP where
 W0:World
 F0:Nat->Prop
 c:aP
 p:Nat
 hp:p<c.n
 w:Int
 hw:fg w
 k:Nat
 n:Nat
 lf:Value
 pZ:aV lf=true
 ls:List Int
 bp:Nat
 bm:Nat
 m:bw
 hl:m.cells.length=4+c.off c.n
 hkb:k<=64/\n<=64
 hls:ls.length<=64
theorem LP.PE(s:LP):s.ls.length<=1000000:=by have:=s.hls;omega
def LP.a1(s:LP)(x:Int):Nat:=min (aO x).toNat s.c.q
def LP.rm(s:LP)(x:Int):Nat:=min s.ls.length (s.c.q-s.a1 x)
theorem cu(x:Int):0<=aO x/\aO x<4294967296:=by unfold aO;omega
theorem LP.NH(s:LP)(x:Int):s.a1 x<=s.c.q:=Nat.min_le_right _ _
theorem LP.Kl(s:LP)(x:Int):IntKind.i64.wrap (min (aO x) ((s.c.q:Nat):Int))=((s.a1 x:Nat):Int):=by
 have h1:=cu x;have h2:=s.c.qb;unfold LP.a1;rw[aW (by omega) (by omega)];omega
theorem LP.Km(s:LP)(x:Int):IntKind.i64.wrap (((s.c.q:Nat):Int)-((s.a1 x:Nat):Int))=((s.c.q-s.a1 x:Nat):Int):=by
 have h1:=s.NH x;have h2:=s.c.qb;rw[aW (by omega) (by omega)];omega
theorem LP.Ko(s:LP)(x:Int):IntKind.u32.wrap (min ((s.ls.length:Nat):Int) ((s.c.q-s.a1 x:Nat):Int))=((s.rm x:Nat):Int):=by
 have h1:=s.hls;unfold LP.rm;rw[b7];omega
abbrev Kp(s:LP):Value:=(.agg #[iN s.c.n,iN s.c.q,iz s.c.g,iz s.c.m,iz s.c.t,iz s.c.s])
abbrev Gh:List ic:=[(4,[sy 16,sy 1,sy 17,sy 18,sy 19,sy 20,sy 21,iz 1,sy 22,sy 5,sy 8,sy 0],203)]
abbrev Gi:List (Nat×Value):=[(0,.pointer (some ⟨4,0,none⟩)),(1,sy 23)]
abbrev ja(s:LP):aG:=bQ 3 1 (s.lf) (s.ls.length) (bu s.ls)
abbrev t9(s:LP):List aG:=[aK s.bm s.m,ja s]
abbrev Gj(s:LP):List aG:=[aK s.bm s.m.tick,ja s]
abbrev t_(s:LP):List (Nat×Value):=[(0,pz s.bp),(1,pz s.bm)]
abbrev Kq(s:LP):aG:=aH s.bp [iN s.c.n,iN s.c.q,iz s.c.g,iz s.c.m,iz s.c.t,iz s.c.s,iN s.p,iz 1,uz s.w,wN s.k,wN s.n,s.lf] 203
abbrev Gk(s:LP):List aG:=[Kq s,aK s.bm s.m,ja s]
abbrev Gl:List ic:=[(4,[sy 14,sy 2,sy 15,sy 16,sy 17,sy 18,sy 19,iz 2,sy 20,sy 6,sy 9,sy 0],203)]
abbrev Ar(s:LP)(el:Int):aG:=aK s.bm (s.m.put (s.c.slot s.p (IntKind.u32.wrap (cy s.w+((s.k:Nat):Int)))) (el))
abbrev Gm(s:LP)(el:Int):List aG:=[(Ar s el),ja s]
abbrev Gp(s:LP):List aG:=[aH s.bp [iN s.c.n,iN s.c.q,iz s.c.g,iz s.c.m,iz s.c.t,iz s.c.s,iN s.p,iz 2,uz s.w,wN s.k,wN s.n,s.lf] 203,aK s.bm s.m,ja s]
abbrev Gq(s:LP):List aG:=[aH s.bp [iN s.c.n,iN s.c.q,iz s.c.g,iz s.c.m,iz s.c.t,iz s.c.s,iN s.p,iz 3,uz s.w,wN s.k,wN s.n,s.lf] 203,aK s.bm s.m,ja s]
abbrev Gr:List ic:=[(4,[sy 1,sy 2,sy 3,sy 4,sy 5,sy 6,sy 7,sy 8,sy 9,sy 10,sy 11,sy 0],203)]
abbrev Gs(s:LP)(st:Nat):aG:=aH s.bp [iN s.c.n,iN s.c.q,iz s.c.g,iz s.c.m,iz s.c.t,iz s.c.s,iN s.p,iN st,uz s.w,wN s.k,wN s.n,s.lf] 203
theorem RH(s:LP)(x:Int)(hxu:fg x)(hxa:s.m.cells[s.c.word s.p]? = some x)(h1:¬ ((s.ls.length:Nat):Int)=0)(h2:((s.rm x:Nat):Int)=0):ce prog 170 [] 0 117 ⟨s.W0,s.F0⟩ (t_ s) (Gk s) (λκ:am=>(.bool true)) (λκ:am=>[aH s.bp [iN s.c.n,iN s.c.q,iz s.c.g,iz s.c.m,iz s.c.t,iz s.c.s,iN s.p,iz 0,uz x,.int .u32 0,wN (s.rm x),s.lf] 203,aK s.bm s.m.tick,ja s]):=by have q0:=s.c.z s.hp;have q6:=s.hl;have q7:=s.hkb;have q9:=s.hls;obtain⟨i,i1,i2,i3,i4⟩:=bY;exact(eH (c:=⟨s.W0,s.F0⟩) 4 (kn [s.lf,iN (s.c.q),iN (s.c.q / 2),wN (s.c.q / 2),wN (s.c.q),wN (s.k),iN (s.k),wN (s.k+1),wN (s.n),wz (cy (s.w)),wz (IntKind.u32.wrap (cy s.w+((s.k:Nat):Int))),wz (min (aO (x)) ((s.c.q:Nat):Int)),iN (s.a1 x),iN (s.c.q-s.a1 x),iz (min ((s.ls.length:Nat):Int) ((s.c.q-s.a1 x:Nat):Int)),wN (s.rm x),iN (s.c.n),iz (s.c.g),iz (s.c.m),iz (s.c.t),iz (s.c.s),iN (s.p),uz (s.w),pz s.bm,iN (s.ls.length),iN (s.c.word s.p),uz (x),wz (aO (x))] (fc s.pZ fr) [(.eql,sy 24,iz 0,.bool false),(.sub,sy 1,sy 12,sy 13),(.eql,sy 15,.int .u32 0,.bool true)] [] [(.u32,sy 1,sy 4),(.i64,sy 11,sy 12),(.u32,sy 14,sy 15)] (fc (λ_ _ _=>cO (by first|(simpa using h1)|(simp;omega))) (fc (λ_ _ _=>rh (s.Km x)) (fc (λ_ _ _=>cO (by first|(simpa using h2)|(simp;omega))) fn))) fn (fc (cx rfl rfl (by have q2:=s.c.qb;rw[b7];omega)) (fc (cx rfl rfl (s.Kl x)) (fc (cx rfl rfl (s.Ko x)) fn))) s.W0 s.F0 [t9 s,Gj s] [⟨[10,35],[sy 0],none,0,none,sy 24,none⟩,⟨[10,35],[sy 0],none,1,none,sy 24,none⟩,⟨[16,95,95],[sy 27,sy 4],none,1,none,sy 11,none⟩,⟨[16,3,3],[sy 24,sy 13],none,1,none,sy 14,none⟩] [⟨40,[.agg #[sy 16,sy 1,sy 17,sy 18,sy 19,sy 20],sy 21],0,none,sy 25,none⟩,⟨150,[sy 23,sy 25],0,none,sy 26,some 1⟩,⟨42,[sy 26],1,none,sy 27,none⟩]) (fc (by exact bx (ci:=2) rfl rfl underlying35 i2 rfl rfl) (fc (by exact bx (ci:=2) rfl rfl underlying35 i2 rfl rfl) (fc (om (kd:=.u32) (a:=(aO (x))) (b:=((s.c.q:Nat):Int)) (gS rfl) (gS rfl) rfl) (fc (om (kd:=.i64) (a:=((s.ls.length:Nat):Int)) (b:=((s.c.q-s.a1 x:Nat):Int)) (gS rfl) (gS rfl) rfl) fn)))) (fc (pc rfl (λw hb=>cD s.c s.p s.hp w)) (fc (cc rfl [aK s.bm s.m.tick] [0] [1] (λw F ho hn hF=>cZ hn hxa (fp hxa (by omega)))) (fc (pc (args:=[uz x]) rfl (λw hb=>ag (cz _ hxu w))) fn))) rfl [(4,s.bp)] Gh [(4,[sy 16,sy 1,sy 17,sy 18,sy 19,sy 20,sy 21,iz 0,sy 26,.int .u32 0,sy 15,sy 0],203)] 1 rfl rfl Gi (.bool true))
theorem RI(s:LP)(x:Int)(hxu:fg x)(hxa:s.m.cells[s.c.word s.p]? = some x)(h1:¬ ((s.ls.length:Nat):Int)=0)(h2:¬ ((s.rm x:Nat):Int)=0):ce prog 170 [] 0 117 ⟨s.W0,s.F0⟩ (t_ s) (Gk s) (λκ:am=>(.bool false)) (λκ:am=>[aH s.bp [iN s.c.n,iN s.c.q,iz s.c.g,iz s.c.m,iz s.c.t,iz s.c.s,iN s.p,iz 2,uz x,.int .u32 0,wN (s.rm x),s.lf] 203,aK s.bm s.m.tick,ja s]):=by have q0:=s.c.z s.hp;have q6:=s.hl;have q7:=s.hkb;have q9:=s.hls;obtain⟨i,i1,i2,i3,i4⟩:=bY;exact(eH (c:=⟨s.W0,s.F0⟩) 4 (kn [s.lf,iN (s.c.q),iN (s.c.q / 2),wN (s.c.q / 2),wN (s.c.q),wN (s.k),iN (s.k),wN (s.k+1),wN (s.n),wz (cy (s.w)),wz (IntKind.u32.wrap (cy s.w+((s.k:Nat):Int))),wz (min (aO (x)) ((s.c.q:Nat):Int)),iN (s.a1 x),iN (s.c.q-s.a1 x),iz (min ((s.ls.length:Nat):Int) ((s.c.q-s.a1 x:Nat):Int)),wN (s.rm x),iN (s.c.n),iz (s.c.g),iz (s.c.m),iz (s.c.t),iz (s.c.s),iN (s.p),uz (s.w),pz s.bm,iN (s.ls.length),iN (s.c.word s.p),uz (x),wz (aO (x))] (fc s.pZ fr) [(.eql,sy 24,iz 0,.bool false),(.sub,sy 1,sy 12,sy 13),(.eql,sy 15,.int .u32 0,.bool false)] [] [(.u32,sy 1,sy 4),(.i64,sy 11,sy 12),(.u32,sy 14,sy 15)] (fc (λ_ _ _=>cO (by first|(simpa using h1)|(simp;omega))) (fc (λ_ _ _=>rh (s.Km x)) (fc (λ_ _ _=>cO (by first|(simpa using h2)|(simp;omega))) fn))) fn (fc (cx rfl rfl (by have q2:=s.c.qb;rw[b7];omega)) (fc (cx rfl rfl (s.Kl x)) (fc (cx rfl rfl (s.Ko x)) fn))) s.W0 s.F0 [t9 s,Gj s] [⟨[10,35],[sy 0],none,0,none,sy 24,none⟩,⟨[10,35],[sy 0],none,1,none,sy 24,none⟩,⟨[16,95,95],[sy 27,sy 4],none,1,none,sy 11,none⟩,⟨[16,3,3],[sy 24,sy 13],none,1,none,sy 14,none⟩] [⟨40,[.agg #[sy 16,sy 1,sy 17,sy 18,sy 19,sy 20],sy 21],0,none,sy 25,none⟩,⟨150,[sy 23,sy 25],0,none,sy 26,some 1⟩,⟨42,[sy 26],1,none,sy 27,none⟩]) (fc (by exact bx (ci:=2) rfl rfl underlying35 i2 rfl rfl) (fc (by exact bx (ci:=2) rfl rfl underlying35 i2 rfl rfl) (fc (om (kd:=.u32) (a:=(aO (x))) (b:=((s.c.q:Nat):Int)) (gS rfl) (gS rfl) rfl) (fc (om (kd:=.i64) (a:=((s.ls.length:Nat):Int)) (b:=((s.c.q-s.a1 x:Nat):Int)) (gS rfl) (gS rfl) rfl) fn)))) (fc (pc rfl (λw hb=>cD s.c s.p s.hp w)) (fc (cc rfl [aK s.bm s.m.tick] [0] [1] (λw F ho hn hF=>cZ hn hxa (fp hxa (by omega)))) (fc (pc (args:=[uz x]) rfl (λw hb=>ag (cz _ hxu w))) fn))) rfl [(4,s.bp)] Gh [(4,[sy 16,sy 1,sy 17,sy 18,sy 19,sy 20,sy 21,iz 2,sy 26,.int .u32 0,sy 15,sy 0],203)] 1 rfl rfl Gi (.bool false))
theorem RJ(s:LP)(hk:s.k<s.n)(hn:s.n<=s.ls.length)(el:Int)(he:s.ls[s.k]? = some el)(hel:0<=el/\el<=9223372036854775807)(ha:s.c.slot s.p (IntKind.u32.wrap (cy s.w+((s.k:Nat):Int)))<s.m.cells.length)(h1:¬ ((s.ls.length:Nat):Int)=0)(h2:((s.k+1:Nat):Int)=((s.n:Nat):Int)):ce prog 170 [] 0 117 ⟨s.W0,s.F0⟩ (t_ s) (Gp s) (λκ:am=>(.bool false)) (λκ:am=>[aH s.bp [iN s.c.n,iN s.c.q,iz s.c.g,iz s.c.m,iz s.c.t,iz s.c.s,iN s.p,iz 3,uz s.w,wN (s.k+1),wN s.n,s.lf] 203,(Ar s el),ja s]):=by have q0:=s.c.z s.hp;have q6:=s.hl;have q7:=s.hkb;have q9:=s.hls;have q8:=hk;obtain⟨i,i1,i2,i3,i4⟩:=bY;exact(eH (c:=⟨s.W0,s.F0⟩) 4 (kn [s.lf,cY (s.lf) ((s.k)*1),iN (s.c.q),iN (s.c.q / 2),wN (s.c.q / 2),wN (s.c.q),wN (s.k),iN (s.k),wN (s.k+1),wN (s.n),wz (cy (s.w)),wz (IntKind.u32.wrap (cy s.w+((s.k:Nat):Int))),iz (el),uz (el),iN (s.c.n),iz (s.c.g),iz (s.c.m),iz (s.c.t),iz (s.c.s),iN (s.p),uz (s.w),pz s.bm,iN (s.ls.length),iN (s.c.slot s.p (IntKind.u32.wrap (cy s.w+((s.k:Nat):Int))))] (fc s.pZ (fc (aJ _ _) fr)) [(.eql,sy 22,iz 0,.bool false),(.add,sy 10,sy 6,sy 11),(.add,sy 6,.int .u32 1,sy 8),(.eql,sy 8,sy 9,.bool true)] [] [(.i64,sy 6,sy 7),(.u32,sy 7,sy 6),(.u64,sy 12,sy 13)] (fc (λ_ _ _=>cO (by have qa:=hn;first|(simpa using h1)|(simp;omega))) (fc (λ_ _ _=>aN rfl) (fc (λ_ _ _=>aN (by rw[b7];omega)) (fc (λ_ _ _=>cO (by have qa:=hn;first|(simpa using h2)|(simp;omega))) fn)))) fn (fc (cx rfl rfl (by exact aW (by omega) (by omega))) (fc (cx rfl rfl (by rw[b7];omega)) (fc (cx rfl rfl (FQ (by omega) (by omega))) fn))) s.W0 s.F0 [t9 s,(Gm s el)] [⟨[10,35],[sy 0],none,0,none,sy 22,none⟩,⟨[3,35],[sy 0,sy 6],none,0,none,sy 1,none⟩,⟨[1,3],[sy 1],none,0,none,sy 12,none⟩] [⟨74,[sy 20],0,none,sy 10,none⟩,⟨43,[.agg #[sy 14,sy 2,sy 15,sy 16,sy 17,sy 18],sy 19,sy 11],0,none,sy 23,none⟩,⟨147,[sy 21,sy 23,sy 13],0,none,.tuple #[],some 1⟩]) (fc (by exact bx (ci:=2) rfl rfl underlying35 i2 rfl rfl) (fc (by have qa:=hn;exact aS (ci:=2) (j:=(s.k)) rfl rfl underlying35 i1 i2 rfl rfl (by omega) rfl) (fc (by have qa:=hn;exact bB (ci:=2) (m:=(s.k)*1) (x:=(iz el)) rfl rfl bC (by rw[Nat.mul_one];simp[bu,he]) (by simp;omega) rfl (λι=>(vk (by kernel_rfl) (by kernel_rfl)))) fn))) (fc (pc (args:=[uz s.w]) rfl (λw hb=>ag (lR _ s.hw w))) (fc (pc (args:=[Kp s,iN s.p,(wz (IntKind.u32.wrap (cy s.w+((s.k:Nat):Int))))]) rfl (λw hb=>iA s.c s.p s.hp (IntKind.u32.wrap (cy s.w+((s.k:Nat):Int))) (by first | exact(bF _).1 | exact kN _) w)) (fc (cc rfl [aK s.bm (s.m.put (s.c.slot s.p (IntKind.u32.wrap (cy s.w+((s.k:Nat):Int)))) (el))] [0] [1] (λw F ho hn hF=>nu hn ha (by have qa:=hn;omega) (el))) fn))) rfl [(4,s.bp)] Gl [(4,[sy 14,sy 2,sy 15,sy 16,sy 17,sy 18,sy 19,iz 3,sy 20,sy 8,sy 9,sy 0],203)] 1 rfl rfl [(0,.pointer (some ⟨4,0,none⟩)),(1,sy 21)] (.bool false))
theorem RK(s:LP)(hk:s.k<s.n)(hn:s.n<=s.ls.length)(el:Int)(he:s.ls[s.k]? = some el)(hel:0<=el/\el<=9223372036854775807)(ha:s.c.slot s.p (IntKind.u32.wrap (cy s.w+((s.k:Nat):Int)))<s.m.cells.length)(h1:¬ ((s.ls.length:Nat):Int)=0)(h2:¬ ((s.k+1:Nat):Int)=((s.n:Nat):Int)):ce prog 170 [] 0 117 ⟨s.W0,s.F0⟩ (t_ s) (Gp s) (λκ:am=>(.bool false)) (λκ:am=>[aH s.bp [iN s.c.n,iN s.c.q,iz s.c.g,iz s.c.m,iz s.c.t,iz s.c.s,iN s.p,iz 2,uz s.w,wN (s.k+1),wN s.n,s.lf] 203,(Ar s el),ja s]):=by have q0:=s.c.z s.hp;have q6:=s.hl;have q7:=s.hkb;have q9:=s.hls;have q8:=hk;obtain⟨i,i1,i2,i3,i4⟩:=bY;exact(eH (c:=⟨s.W0,s.F0⟩) 4 (kn [s.lf,cY (s.lf) ((s.k)*1),iN (s.c.q),iN (s.c.q / 2),wN (s.c.q / 2),wN (s.c.q),wN (s.k),iN (s.k),wN (s.k+1),wN (s.n),wz (cy (s.w)),wz (IntKind.u32.wrap (cy s.w+((s.k:Nat):Int))),iz (el),uz (el),iN (s.c.n),iz (s.c.g),iz (s.c.m),iz (s.c.t),iz (s.c.s),iN (s.p),uz (s.w),pz s.bm,iN (s.ls.length),iN (s.c.slot s.p (IntKind.u32.wrap (cy s.w+((s.k:Nat):Int))))] (fc s.pZ (fc (aJ _ _) fr)) [(.eql,sy 22,iz 0,.bool false),(.add,sy 10,sy 6,sy 11),(.add,sy 6,.int .u32 1,sy 8),(.eql,sy 8,sy 9,.bool false)] [] [(.i64,sy 6,sy 7),(.u32,sy 7,sy 6),(.u64,sy 12,sy 13)] (fc (λ_ _ _=>cO (by have qa:=hn;first|(simpa using h1)|(simp;omega))) (fc (λ_ _ _=>aN rfl) (fc (λ_ _ _=>aN (by rw[b7];omega)) (fc (λ_ _ _=>cO (by have qa:=hn;first|(simpa using h2)|(simp;omega))) fn)))) fn (fc (cx rfl rfl (by exact aW (by omega) (by omega))) (fc (cx rfl rfl (by rw[b7];omega)) (fc (cx rfl rfl (FQ (by omega) (by omega))) fn))) s.W0 s.F0 [t9 s,(Gm s el)] [⟨[10,35],[sy 0],none,0,none,sy 22,none⟩,⟨[3,35],[sy 0,sy 6],none,0,none,sy 1,none⟩,⟨[1,3],[sy 1],none,0,none,sy 12,none⟩] [⟨74,[sy 20],0,none,sy 10,none⟩,⟨43,[.agg #[sy 14,sy 2,sy 15,sy 16,sy 17,sy 18],sy 19,sy 11],0,none,sy 23,none⟩,⟨147,[sy 21,sy 23,sy 13],0,none,.tuple #[],some 1⟩]) (fc (by exact bx (ci:=2) rfl rfl underlying35 i2 rfl rfl) (fc (by have qa:=hn;exact aS (ci:=2) (j:=(s.k)) rfl rfl underlying35 i1 i2 rfl rfl (by omega) rfl) (fc (by have qa:=hn;exact bB (ci:=2) (m:=(s.k)*1) (x:=(iz el)) rfl rfl bC (by rw[Nat.mul_one];simp[bu,he]) (by simp;omega) rfl (λι=>(vk (by kernel_rfl) (by kernel_rfl)))) fn))) (fc (pc (args:=[uz s.w]) rfl (λw hb=>ag (lR _ s.hw w))) (fc (pc (args:=[Kp s,iN s.p,(wz (IntKind.u32.wrap (cy s.w+((s.k:Nat):Int))))]) rfl (λw hb=>iA s.c s.p s.hp (IntKind.u32.wrap (cy s.w+((s.k:Nat):Int))) (by first | exact(bF _).1 | exact kN _) w)) (fc (cc rfl [aK s.bm (s.m.put (s.c.slot s.p (IntKind.u32.wrap (cy s.w+((s.k:Nat):Int)))) (el))] [0] [1] (λw F ho hn hF=>nu hn ha (by have qa:=hn;omega) (el))) fn))) rfl [(4,s.bp)] Gl [(4,[sy 14,sy 2,sy 15,sy 16,sy 17,sy 18,sy 19,iz 2,sy 20,sy 8,sy 9,sy 0],203)] 1 rfl rfl [(0,.pointer (some ⟨4,0,none⟩)),(1,sy 21)] (.bool false))
theorem RL(s:LP)(x:Int)(hxu:fg x)(hxa:s.m.cells[s.c.word s.p]? = some x)(hc:x≠s.w)(h1:¬ ((s.ls.length:Nat):Int)=0):ce prog 170 [] 0 117 ⟨s.W0,s.F0⟩ (t_ s) (Gq s) (λκ:am=>(.bool false)) (λκ:am=>[Kq s,aK s.bm s.m.tick,ja s]):=by have q0:=s.c.z s.hp;have q6:=s.hl;have q7:=s.hkb;have q9:=s.hls;exact(eH (c:=⟨s.W0,s.F0⟩) 4 (kn [s.lf,iN (s.c.q),iN (s.c.q / 2),wN (s.c.q / 2),wN (s.c.q),wN (s.k),iN (s.k),wN (s.k+1),wN (s.n),wz (cy (s.w)),wz (IntKind.u32.wrap (cy s.w+((s.k:Nat):Int))),wz (min (aO (x)) ((s.c.q:Nat):Int)),iN (s.a1 x),iN (s.c.q-s.a1 x),iz (min ((s.ls.length:Nat):Int) ((s.c.q-s.a1 x:Nat):Int)),wN (s.rm x),iN (s.c.n),iz (s.c.g),iz (s.c.m),iz (s.c.t),iz (s.c.s),iN (s.p),uz (s.w),pz s.bm,iN (s.ls.length),uz (dF s.w ((s.n:Nat):Int)),iN (s.c.word s.p)] (fc s.pZ fr) [(.eql,sy 24,iz 0,.bool false)] [] [] (fc (λ_ _ _=>cO (by first|(simpa using h1)|(simp;omega))) fn) fn fn s.W0 s.F0 [t9 s,Gj s] [⟨[10,35],[sy 0],none,0,none,sy 24,none⟩] [⟨113,[sy 22,sy 8],0,none,sy 25,none⟩,⟨40,[.agg #[sy 16,sy 1,sy 17,sy 18,sy 19,sy 20],sy 21],0,none,sy 26,none⟩,⟨154,[sy 23,sy 26,sy 22,sy 25],0,none,.bool false,some 1⟩]) (fc (by obtain⟨i,i1,i2,i3,i4⟩:=bY;exact bx (ci:=2) rfl rfl underlying35 i2 rfl rfl) fn) (fc (pc (args:=[uz s.w,wN s.n]) rfl (λw hb=>ag (t5 _ ((s.n:Nat):Int) s.hw w))) (fc (pc rfl (λw hb=>cD s.c s.p s.hp w)) (fc (cc rfl [aK s.bm s.m.tick] [0] [1] (λw F ho hn hF=>ou hn hxa (by omega) s.w (dF s.w ((s.n:Nat):Int)) hc)) fn))) rfl [(4,s.bp)] [(4,[sy 16,sy 1,sy 17,sy 18,sy 19,sy 20,sy 21,iz 3,sy 22,sy 5,sy 8,sy 0],203)] Gh 1 rfl rfl Gi (.bool false))
theorem RM(s:LP)(x:Int)(hxu:fg x)(hxa:s.m.cells[s.c.word s.p]? = some x)(hc:x=s.w)(hn:s.n<=s.ls.length)(h1:¬ ((s.ls.length:Nat):Int)=0):ce prog 170 [] 0 117 ⟨s.W0,s.F0⟩ (t_ s) (Gq s) (λκ:am=>(.bool true)) (λκ:am=>[aH s.bp [iN s.c.n,iN s.c.q,iz s.c.g,iz s.c.m,iz s.c.t,iz s.c.s,iN s.p,iz 0,uz s.w,wN s.k,wN s.n,(Ev.cutV 1 (s.lf) (s.n) (s.ls.length))] 203,aK s.bm (s.m.put (s.c.word s.p) (dF s.w ((s.n:Nat):Int))),ja s]):=by have q0:=s.c.z s.hp;have q6:=s.hl;have q7:=s.hkb;have q9:=s.hls;obtain⟨i,i1,i2,i3,i4⟩:=bY;exact(eH (c:=⟨s.W0,s.F0⟩) 4 (kn [s.lf,Ev.cutV 1 (s.lf) (s.n) (s.ls.length),iN (s.c.q),iN (s.c.q / 2),wN (s.c.q / 2),wN (s.c.q),wN (s.k),iN (s.k),wN (s.k+1),wN (s.n),wz (cy (s.w)),wz (IntKind.u32.wrap (cy s.w+((s.k:Nat):Int))),wz (min (aO (x)) ((s.c.q:Nat):Int)),iN (s.a1 x),iN (s.c.q-s.a1 x),iz (min ((s.ls.length:Nat):Int) ((s.c.q-s.a1 x:Nat):Int)),wN (s.rm x),iN (s.c.n),iz (s.c.g),iz (s.c.m),iz (s.c.t),iz (s.c.s),iN (s.p),uz (s.w),pz s.bm,iN (s.ls.length),uz (dF s.w ((s.n:Nat):Int)),iN (s.c.word s.p)] (fc s.pZ (fc (by first | assumption | exact s.pZ | exact gx s.pZ) fr)) [(.eql,sy 25,iz 0,.bool false)] [] [] (fc (λ_ _ _=>cO (by have qa:=hn;first|(simpa using h1)|(simp;omega))) fn) fn fn s.W0 s.F0 [t9 s,[aK s.bm (s.m.put (s.c.word s.p) (dF s.w ((s.n:Nat):Int))),ja s]] [⟨[10,35],[sy 0],none,0,none,sy 25,none⟩,⟨[4,35,1,0,0],[sy 0,sy 9],none,1,none,sy 1,none⟩] [⟨113,[sy 23,sy 9],0,none,sy 26,none⟩,⟨40,[.agg #[sy 17,sy 2,sy 18,sy 19,sy 20,sy 21],sy 22],0,none,sy 27,none⟩,⟨154,[sy 24,sy 27,sy 23,sy 26],0,none,.bool true,some 1⟩]) (fc (by exact bx (ci:=2) rfl rfl underlying35 i2 rfl rfl) (fc (by have qa:=hn;exact NG (ci:=2) (lo:=(s.n)) rfl rfl underlying35 i1 i2 rfl rfl (by omega) rfl) fn)) (fc (pc (args:=[uz s.w,wN s.n]) rfl (λw hb=>ag (t5 _ ((s.n:Nat):Int) s.hw w))) (fc (pc rfl (λw hb=>cD s.c s.p s.hp w)) (fc (cc rfl [aK s.bm (s.m.put (s.c.word s.p) (dF s.w ((s.n:Nat):Int)))] [0] [1] (λw F ho hn hF=>jR hn hxa (by have qa:=hn;omega) s.w (dF s.w ((s.n:Nat):Int)) hc)) fn))) rfl [(4,s.bp)] [(4,[sy 17,sy 2,sy 18,sy 19,sy 20,sy 21,sy 22,iz 3,sy 23,sy 6,sy 9,sy 0],203)] [(4,[sy 17,sy 2,sy 18,sy 19,sy 20,sy 21,sy 22,iz 0,sy 23,sy 6,sy 9,sy 1],203)] 1 rfl rfl [(0,.pointer (some ⟨4,0,none⟩)),(1,sy 24)] (.bool true))
theorem RN(s:LP)(st:Nat):ce prog 118 [] 0 10 ⟨s.W0,s.F0⟩ [(0,pz s.bp)] [(Gs s st),ja s] (λκ:am=>(dv κ 403)) (λκ:am=>[(Gs s st),bQ 3 1 (dv κ 403) s.ls.length (bu s.ls),bQ 3 1 (s.lf) (s.ls.length) (bu s.ls)]):=(eH (c:=⟨s.W0,s.F0⟩) 5 (kn [s.lf,iN (s.c.n),iN (s.c.q),iz (s.c.g),iz (s.c.m),iz (s.c.t),iz (s.c.s),iN (s.p),iN (st),uz (s.w),wN (s.k),wN (s.n)] (fc s.pZ fr) [] [] [] fn fn fn s.W0 s.F0 [[ja s],[jE 403 (λv=>bQ 3 1 v s.ls.length (bu s.ls)),jE 403 (λv=>bQ 3 1 (s.lf) (s.ls.length) (bu s.ls))]] [] [⟨97,[sy 0],0,some 403,.complex .f32 403 0,some 1⟩]) fn (fc (cd rfl [λv=>bQ 3 1 v s.ls.length (bu s.ls),λv=>bQ 3 1 (s.lf) (s.ls.length) (bu s.ls)] [0] [] (λw F ho hn hF=>t6 s.PE jQ hn)) fn) rfl [(4,s.bp)] Gr Gr 1 rfl rfl [(0,.pointer (some ⟨4,0,none⟩))] (.complex .f32 403 0)).conv (λκ w=>⟨(λ_ h=>h),(λ_ h=>fW (a:=λv=>bQ 3 1 v s.ls.length (bu s.ls)) (λ_ _ _ _ _ h=>h) h),(λ_ h=>fW (a:=λv=>bQ 3 1 (s.lf) (s.ls.length) (bu s.ls)) (λ_ _ _ _ _ h=>h) h),trivial⟩)
structure GP where
 W0:World
 F0:Nat->Prop
 c:aP
 p:Nat
 hp:p<c.n
 w:Int
 hw:fg w
 sn:Int
 tr:Int
 bp:Nat
 bm:Nat
 m:bw
 hl:m.cells.length=4+c.off c.n
abbrev Gt:List ic:=[(4,[sy 6,sy 0,sy 7,sy 8,sy 9,sy 10,sy 11,iz 1,sy 12,sy 13,.bool false,sy 4],150)]
abbrev Kr:List ic:=[(4,[sy 6,sy 0,sy 7,sy 8,sy 9,sy 10,sy 11,iz 0,sy 16,sy 13,.bool false,sy 4],150)]
abbrev ua:List (Nat×Value):=[(0,.pointer (some ⟨4,0,none⟩)),(1,sy 14)]
abbrev ub(s:GP):List (Nat×Value):=[(0,pz s.bp),(1,pz s.bm)]
abbrev Gu(s:GP):List aG:=[aH s.bp [iN s.c.n,iN s.c.q,iz s.c.g,iz s.c.m,iz s.c.t,iz s.c.s,iN s.p,iz 1,uz s.w,iz s.sn,.bool false,iz s.tr] 150,aK s.bm s.m]
abbrev Ks(s:GP)(x:Int):List aG:=[aH s.bp [iN s.c.n,iN s.c.q,iz s.c.g,iz s.c.m,iz s.c.t,iz s.c.s,iN s.p,iz 0,uz x,iz s.sn,.bool false,iz s.tr] 150,aK s.bm s.m.tick]
abbrev Gv:List ic:=[(4,[sy 6,sy 0,sy 7,sy 8,sy 9,sy 10,sy 11,iz 3,sy 12,sy 13,.bool false,sy 4],150)]
abbrev Gw(s:GP):List aG:=[aH s.bp [iN s.c.n,iN s.c.q,iz s.c.g,iz s.c.m,iz s.c.t,iz s.c.s,iN s.p,iz 3,uz s.w,iz s.sn,.bool false,iz s.tr] 150,aK s.bm s.m]
abbrev Gx:List ic:=[(4,[sy 0,sy 1,sy 2,sy 3,sy 4,sy 5,sy 6,sy 7,sy 8,sy 9,.bool false,sy 10],150)]
abbrev Gy:List (Nat×Value):=[(0,.pointer (some ⟨4,0,none⟩))]
abbrev Gz(c:aP)(p:Nat)(bp:Nat)(st:Nat)(ww:Int)(sn:Int)(tr:Int):List aG:=[aH bp [iN c.n,iN c.q,iz c.g,iz c.m,iz c.t,iz c.s,iN p,iN st,uz ww,iz sn,.bool false,iz tr] 150]
abbrev GD:List ic:=[(4,[sy 0,sy 1,sy 2,sy 3,sy 4,sy 5,sy 6,sy 7,sy 8,sy 9,.bool true,sy 10],150)]
abbrev GE(c:aP)(p:Nat)(bp:Nat)(st:Nat)(ww:Int)(sn:Int)(tr:Int):List aG:=[aH bp [iN c.n,iN c.q,iz c.g,iz c.m,iz c.t,iz c.s,iN p,iN st,uz ww,iz sn,.bool true,iz tr] 150]
theorem RO(s:GP)(x:Int)(hxu:fg x)(hxa:s.m.cells[s.c.word s.p]? = some x)(h1:(aO (x))=0):ce prog 161 [] 0 26 ⟨s.W0,s.F0⟩ (ub s) (Gu s) (λκ:am=>(.bool true)) (λκ:am=>(Ks s x)):=by have q0:=s.c.z s.hp;have q6:=s.hl;exact(eH (c:=⟨s.W0,s.F0⟩) 7 (kn [iN (s.c.q),iN (s.c.q / 2),wN (s.c.q / 2),wN (s.c.q),iz (s.tr),iz (IntKind.i64.wrap (s.tr+1)),iN (s.c.n),iz (s.c.g),iz (s.c.m),iz (s.c.t),iz (s.c.s),iN (s.p),uz (s.w),iz (s.sn),pz s.bm,iN (s.c.word s.p),uz (x),wz (aO (x))] fr [(.eql,sy 17,.int .u32 0,.bool true)] [] [] (fc (λ_ _ _=>cO (by first|(simpa using h1)|(simp;omega))) fn) fn fn s.W0 s.F0 [[aK s.bm s.m],[aK s.bm s.m.tick]] [] [⟨40,[.agg #[sy 6,sy 0,sy 7,sy 8,sy 9,sy 10],sy 11],0,none,sy 15,none⟩,⟨150,[sy 14,sy 15],0,none,sy 16,some 1⟩,⟨42,[sy 16],1,none,sy 17,none⟩]) fn (fc (pc rfl (λw hb=>cD s.c s.p s.hp w)) (fc (cc rfl [aK s.bm s.m.tick] [0] [] (λw F ho hn hF=>cZ hn hxa (fp hxa (by omega)))) (fc (pc (args:=[uz x]) rfl (λw hb=>ag (cz _ hxu w))) fn))) rfl [(4,s.bp)] Gt Kr 1 rfl rfl ua (.bool true))
theorem RP(s:GP)(x:Int)(hxu:fg x)(hxa:s.m.cells[s.c.word s.p]? = some x)(h1:¬ (aO (x))=0)(h2:(aO (x))>((s.c.q:Nat):Int)):ce prog 161 [] 0 26 ⟨s.W0,s.F0⟩ (ub s) (Gu s) (λκ:am=>(.bool true)) (λκ:am=>(Ks s x)):=by have q0:=s.c.z s.hp;have q6:=s.hl;exact(eH (c:=⟨s.W0,s.F0⟩) 7 (kn [iN (s.c.q),iN (s.c.q / 2),wN (s.c.q / 2),wN (s.c.q),iz (s.tr),iz (IntKind.i64.wrap (s.tr+1)),iN (s.c.n),iz (s.c.g),iz (s.c.m),iz (s.c.t),iz (s.c.s),iN (s.p),uz (s.w),iz (s.sn),pz s.bm,iN (s.c.word s.p),uz (x),wz (aO (x))] fr [(.eql,sy 17,.int .u32 0,.bool false),(.gtr,sy 17,sy 3,.bool true)] [] [(.u32,sy 0,sy 3)] (fc (λ_ _ _=>cO (by first|(simpa using h1)|(simp;omega))) (fc (λ_ _ _=>hE (by first|(simpa using h2)|(simp;omega))) fn)) fn (fc (cx rfl rfl (by have q2:=s.c.qb;rw[b7];omega)) fn) s.W0 s.F0 [[aK s.bm s.m],[aK s.bm s.m.tick]] [] [⟨40,[.agg #[sy 6,sy 0,sy 7,sy 8,sy 9,sy 10],sy 11],0,none,sy 15,none⟩,⟨150,[sy 14,sy 15],0,none,sy 16,some 1⟩,⟨42,[sy 16],1,none,sy 17,none⟩]) fn (fc (pc rfl (λw hb=>cD s.c s.p s.hp w)) (fc (cc rfl [aK s.bm s.m.tick] [0] [] (λw F ho hn hF=>cZ hn hxa (fp hxa (by omega)))) (fc (pc (args:=[uz x]) rfl (λw hb=>ag (cz _ hxu w))) fn))) rfl [(4,s.bp)] Gt Kr 1 rfl rfl ua (.bool true))
theorem RQ(s:GP)(x:Int)(hxu:fg x)(hxa:s.m.cells[s.c.word s.p]? = some x)(h1:¬ (aO (x))=0)(h2:¬ (aO (x))>((s.c.q:Nat):Int)):ce prog 161 [] 0 26 ⟨s.W0,s.F0⟩ (ub s) (Gu s) (λκ:am=>(.bool false)) (λκ:am=>[aH s.bp [iN s.c.n,iN s.c.q,iz s.c.g,iz s.c.m,iz s.c.t,iz s.c.s,iN s.p,iz 2,uz x,iz s.sn,.bool false,iz s.tr] 150,aK s.bm s.m.tick]):=by have q0:=s.c.z s.hp;have q6:=s.hl;exact(eH (c:=⟨s.W0,s.F0⟩) 7 (kn [iN (s.c.q),iN (s.c.q / 2),wN (s.c.q / 2),wN (s.c.q),iz (s.tr),iz (IntKind.i64.wrap (s.tr+1)),iN (s.c.n),iz (s.c.g),iz (s.c.m),iz (s.c.t),iz (s.c.s),iN (s.p),uz (s.w),iz (s.sn),pz s.bm,iN (s.c.word s.p),uz (x),wz (aO (x))] fr [(.eql,sy 17,.int .u32 0,.bool false),(.gtr,sy 17,sy 3,.bool false)] [] [(.u32,sy 0,sy 3)] (fc (λ_ _ _=>cO (by first|(simpa using h1)|(simp;omega))) (fc (λ_ _ _=>hE (by first|(simpa using h2)|(simp;omega))) fn)) fn (fc (cx rfl rfl (by have q2:=s.c.qb;rw[b7];omega)) fn) s.W0 s.F0 [[aK s.bm s.m],[aK s.bm s.m.tick]] [] [⟨40,[.agg #[sy 6,sy 0,sy 7,sy 8,sy 9,sy 10],sy 11],0,none,sy 15,none⟩,⟨150,[sy 14,sy 15],0,none,sy 16,some 1⟩,⟨42,[sy 16],1,none,sy 17,none⟩]) fn (fc (pc rfl (λw hb=>cD s.c s.p s.hp w)) (fc (cc rfl [aK s.bm s.m.tick] [0] [] (λw F ho hn hF=>cZ hn hxa (fp hxa (by omega)))) (fc (pc (args:=[uz x]) rfl (λw hb=>ag (cz _ hxu w))) fn))) rfl [(4,s.bp)] Gt [(4,[sy 6,sy 0,sy 7,sy 8,sy 9,sy 10,sy 11,iz 2,sy 16,sy 13,.bool false,sy 4],150)] 1 rfl rfl ua (.bool false))
theorem RR(s:GP)(x:Int)(hxu:fg x)(hxa:s.m.cells[s.c.slot s.p (aj s.w)]? = some x):ce prog 161 [] 0 26 ⟨s.W0,s.F0⟩ (ub s) [aH s.bp [iN s.c.n,iN s.c.q,iz s.c.g,iz s.c.m,iz s.c.t,iz s.c.s,iN s.p,iz 2,uz s.w,iz s.sn,.bool false,iz s.tr] 150,aK s.bm s.m] (λκ:am=>(.bool false)) (λκ:am=>[aH s.bp [iN s.c.n,iN s.c.q,iz s.c.g,iz s.c.m,iz s.c.t,iz s.c.s,iN s.p,iz 3,uz s.w,(iz (IntKind.i64.wrap (x))),.bool false,iz s.tr] 150,aK s.bm s.m.tick]):=(eH (c:=⟨s.W0,s.F0⟩) 7 (kn [iN (s.c.q),iN (s.c.q / 2),wN (s.c.q / 2),wN (s.c.q),iz (s.tr),iz (IntKind.i64.wrap (s.tr+1)),iN (s.c.n),iz (s.c.g),iz (s.c.m),iz (s.c.t),iz (s.c.s),iN (s.p),uz (s.w),iz (s.sn),pz s.bm,wz (aj (s.w)),iN (s.c.slot s.p (aj (s.w))),uz (x),iz (IntKind.i64.wrap (x))] fr [] [] [(.i64,sy 17,sy 18)] fn fn (fc ⟨.u64,_,rfl,rfl⟩ fn) s.W0 s.F0 [[aK s.bm s.m],[aK s.bm s.m.tick]] [] [⟨73,[sy 12],0,none,sy 15,none⟩,⟨43,[.agg #[sy 6,sy 0,sy 7,sy 8,sy 9,sy 10],sy 11,sy 15],0,none,sy 16,none⟩,⟨150,[sy 14,sy 16],0,none,sy 17,some 1⟩]) fn (fc (pc (args:=[uz s.w]) rfl (λw hb=>ag (ct _ s.hw w))) (fc (pc rfl (λw hb=>iA s.c s.p s.hp (aj (s.w)) (bJ s.hw).1 w)) (fc (cc rfl [aK s.bm s.m.tick] [0] [] (λw F ho hn hF=>cZ hn hxa (fp hxa (by have q0:=s.c.z s.hp;have q6:=s.hl;omega)))) fn))) rfl [(4,s.bp)] [(4,[sy 6,sy 0,sy 7,sy 8,sy 9,sy 10,sy 11,iz 2,sy 12,sy 13,.bool false,sy 4],150)] [(4,[sy 6,sy 0,sy 7,sy 8,sy 9,sy 10,sy 11,iz 3,sy 12,sy 18,.bool false,sy 4],150)] 1 rfl rfl ua (.bool false))
theorem RS(s:GP)(x:Int)(hxu:fg x)(hxa:s.m.cells[s.c.word s.p]? = some x)(hc:x≠s.w):ce prog 161 [] 0 26 ⟨s.W0,s.F0⟩ (ub s) (Gw s) (λκ:am=>(.bool false)) (λκ:am=>[aH s.bp [iN s.c.n,iN s.c.q,iz s.c.g,iz s.c.m,iz s.c.t,iz s.c.s,iN s.p,iz 1,uz s.w,iz s.sn,.bool false,(iz (IntKind.i64.wrap (s.tr+1)))] 150,aK s.bm s.m.tick]):=(eH (c:=⟨s.W0,s.F0⟩) 7 (kn [iN (s.c.q),iN (s.c.q / 2),wN (s.c.q / 2),wN (s.c.q),iz (s.tr),iz (IntKind.i64.wrap (s.tr+1)),iN (s.c.n),iz (s.c.g),iz (s.c.m),iz (s.c.t),iz (s.c.s),iN (s.p),uz (s.w),iz (s.sn),pz s.bm,iN (s.c.word s.p),uz (fq s.w 1)] fr [(.add,sy 4,iz 1,sy 5)] [] [] (fc (λ_ _ _=>aN rfl) fn) fn fn s.W0 s.F0 [[aK s.bm s.m],[aK s.bm s.m.tick]] [] [⟨40,[.agg #[sy 6,sy 0,sy 7,sy 8,sy 9,sy 10],sy 11],0,none,sy 15,none⟩,⟨115,[sy 12,.int .u32 1],0,none,sy 16,none⟩,⟨154,[sy 14,sy 15,sy 12,sy 16],0,none,.bool false,some 1⟩]) fn (fc (pc rfl (λw hb=>cD s.c s.p s.hp w)) (fc (pc (args:=[uz s.w,.int .u32 1]) rfl (λw hb=>ag (t8 _ 1 s.hw w))) (fc (cc rfl [aK s.bm s.m.tick] [0] [] (λw F ho hn hF=>ou hn hxa (by have q0:=s.c.z s.hp;have q6:=s.hl;omega) s.w (fq s.w 1) hc)) fn))) rfl [(4,s.bp)] Gv [(4,[sy 6,sy 0,sy 7,sy 8,sy 9,sy 10,sy 11,iz 1,sy 12,sy 13,.bool false,sy 5],150)] 1 rfl rfl ua (.bool false))
theorem RT(s:GP)(x:Int)(hxu:fg x)(hxa:s.m.cells[s.c.word s.p]? = some x)(hc:x=s.w):ce prog 161 [] 0 26 ⟨s.W0,s.F0⟩ (ub s) (Gw s) (λκ:am=>(.bool true)) (λκ:am=>[aH s.bp [iN s.c.n,iN s.c.q,iz s.c.g,iz s.c.m,iz s.c.t,iz s.c.s,iN s.p,iz 0,uz s.w,iz s.sn,.bool true,iz s.tr] 150,aK s.bm (s.m.put (s.c.word s.p) (fq s.w 1))]):=(eH (c:=⟨s.W0,s.F0⟩) 7 (kn [iN (s.c.q),iN (s.c.q / 2),wN (s.c.q / 2),wN (s.c.q),iz (s.tr),iz (IntKind.i64.wrap (s.tr+1)),iN (s.c.n),iz (s.c.g),iz (s.c.m),iz (s.c.t),iz (s.c.s),iN (s.p),uz (s.w),iz (s.sn),pz s.bm,iN (s.c.word s.p),uz (fq s.w 1)] fr [] [] [] fn fn fn s.W0 s.F0 [[aK s.bm s.m],[aK s.bm (s.m.put (s.c.word s.p) (fq s.w 1))]] [] [⟨40,[.agg #[sy 6,sy 0,sy 7,sy 8,sy 9,sy 10],sy 11],0,none,sy 15,none⟩,⟨115,[sy 12,.int .u32 1],0,none,sy 16,none⟩,⟨154,[sy 14,sy 15,sy 12,sy 16],0,none,.bool true,some 1⟩]) fn (fc (pc rfl (λw hb=>cD s.c s.p s.hp w)) (fc (pc (args:=[uz s.w,.int .u32 1]) rfl (λw hb=>ag (t8 _ 1 s.hw w))) (fc (cc rfl [aK s.bm (s.m.put (s.c.word s.p) (fq s.w 1))] [0] [] (λw F ho hn hF=>jR hn hxa (by have q0:=s.c.z s.hp;have q6:=s.hl;omega) s.w (fq s.w 1) hc)) fn))) rfl [(4,s.bp)] Gv [(4,[sy 6,sy 0,sy 7,sy 8,sy 9,sy 10,sy 11,iz 0,sy 12,sy 13,.bool true,sy 4],150)] 1 rfl rfl ua (.bool true))
theorem RU(W0:World)(F0:Nat->Prop)(c:aP)(p:Nat)(hp:p<c.n)  : ce prog 34 [] 0 15 ⟨W0,F0⟩ [(0,(.agg #[iN c.n,iN c.q,iz c.g,iz c.m,iz c.t,iz c.s])),(1,iN p)] [] (λκ:am=>(pz ((κ 404).getD 0))) (λκ:am=>[aH ((κ 404).getD 0) [iN c.n,iN c.q,iz c.g,iz c.m,iz c.t,iz c.s,iN p,iz 1,.int .u64 0,iz 0,.bool false,iz 0] 150]):=(eH (c:=⟨W0,F0⟩) 5 (kn [iN (c.n),iN (c.q),iz (c.g),iz (c.m),iz (c.t),iz (c.s),iN (p),iN (c.word p)] fr [(.lss,sy 7,iz 0,.bool false)] [] [] (fc (λ_ _ _=>aU (by have q0:=c.z hp;first|(simp;done)|(simp;omega))) fn) fn fn W0 F0 [[]] [] [⟨40,[.agg #[sy 0,sy 1,sy 2,sy 3,sy 4,sy 5],sy 6],0,none,sy 7,none⟩]) fn (fc (pc rfl (λw hb=>cD c p hp w)) fn) rfl [] [] [(404,[sy 0,sy 1,sy 2,sy 3,sy 4,sy 5,sy 6,iz 1,.int .u64 0,iz 0,.bool false,iz 0],150)] 0 rfl rfl [(0,.agg #[sy 0,sy 1,sy 2,sy 3,sy 4,sy 5]),(1,sy 6)] (.pointer (some ⟨404,0,none⟩)))
theorem RV(W0:World)(F0:Nat->Prop)(c:aP)(p:Nat)(hp:p<c.n)(bp st:Nat)(ww sn tr:Int):ce prog 68 [] 0 17 ⟨W0,F0⟩ [(0,pz bp)] (Gz c p bp st ww sn tr) (λκ:am=>(.tuple #[iz 0,.bool false])) (λκ:am=>(Gz c p bp st ww sn tr)):=(eH (c:=⟨W0,F0⟩) 5 (kn [iN (c.n),iN (c.q),iz (c.g),iz (c.m),iz (c.t),iz (c.s),iN (p),iN (st),uz (ww),iz (sn),iz (tr)] fr [] [] [] fn fn fn W0 F0 [[]] [] []) fn fn rfl [(4,bp)] Gx Gx 0 rfl rfl Gy (.tuple #[iz 0,.bool false]))
theorem RW(W0:World)(F0:Nat->Prop)(c:aP)(p:Nat)(hp:p<c.n)(bp st:Nat)(ww sn tr:Int):ce prog 68 [] 0 17 ⟨W0,F0⟩ [(0,pz bp)] (GE c p bp st ww sn tr) (λκ:am=>(.tuple #[iz sn,.bool true])) (λκ:am=>(GE c p bp st ww sn tr)):=(eH (c:=⟨W0,F0⟩) 5 (kn [iN (c.n),iN (c.q),iz (c.g),iz (c.m),iz (c.t),iz (c.s),iN (p),iN (st),uz (ww),iz (sn),iz (tr)] fr [] [] [] fn fn fn W0 F0 [[]] [] []) fn fn rfl [(4,bp)] GD GD 0 rfl rfl Gy (.tuple #[sy 9,.bool true]))
abbrev Kt(c:aP)(p:Nat)(gg:Int):List (Nat×Value):=[(0,(.agg #[iN c.n,iN c.q,iz c.g,iz c.m,iz c.t,iz c.s])),(1,iN p),(2,iz gg)]
abbrev Ku:List ic:=[(4,[sy 3,sy 4,sy 5,sy 6,sy 7,sy 8,sy 9,sy 2,sy 10,sy 11,sy 12,sy 0,sy 1],148)]
abbrev Kv:List (Nat×Value):=[(0,.pointer (some ⟨4,0,none⟩))]
abbrev Kw(hd:Value)(hs:List Int):List aG:=[bQ 3 1 (hd) (hs.length) (bu hs)]
abbrev L4(hd:Value)(hs:List Int):List aG:=[jE 403 (λv=>bQ 3 1 v hs.length (bu hs)),jE 403 (λv=>bQ 3 1 (hd) (hs.length) (bu hs))]
abbrev GF(c:aP)(p:Nat)(bp:Nat)(ww:Int)(k:Int)(gg:Int)(tk:Value)(hd:Value)(hs:List Int)(st:Nat):List aG:=[aH bp [iN c.n,iN c.q,iz c.g,iz c.m,iz c.t,iz c.s,iN p,iN st,uz ww,wz k,iz gg,tk,hd] 148,bQ 3 1 (hd) (hs.length) (bu hs)]
abbrev GG:List ic:=[(4,[sy 2,sy 3,sy 4,sy 5,sy 6,sy 7,sy 8,iz 0,sy 9,sy 10,sy 11,sy 0,sy 1],148)]
abbrev L5(c:aP)(p:Nat)(bp:Nat)(ww:Int)(k:Int)(gg:Int)(tk:Value)(hd:Value)(hs:List Int):List aG:=[aH bp [iN c.n,iN c.q,iz c.g,iz c.m,iz c.t,iz c.s,iN p,iz 0,uz ww,wz k,iz gg,tk,hd] 148,bQ 3 1 (hd) (hs.length) (bu hs)]
theorem RX(W0:World)(F0:Nat->Prop)(c:aP)(p:Nat)(hp:p<c.n)(gg:Int)(hg:0<=gg):ce prog 33 [] 0 32 ⟨W0,F0⟩ (Kt c p gg) [] (λκ:am=>(pz ((κ 416).getD 0))) (λκ:am=>[aH ((κ 416).getD 0) [iN c.n,iN c.q,iz c.g,iz c.m,iz c.t,iz c.s,iN p,iz 1,.int .u64 0,.int .u32 0,iz gg,.slice none 0 0,(.slice (some ⟨((κ 420).getD 0),0,none⟩) 1 1)] 148,aH ((κ 420).getD 0) [iz gg] 3]):=by have q0:=c.z hp;exact(eH (c:=⟨W0,F0⟩) 8 (kn [iN (c.n),iN (c.q),iz (c.g),iz (c.m),iz (c.t),iz (c.s),iN (p),iz (gg),iN (c.word p)] fr [(.geq,sy 8,iz 0,.bool true),(.lss,sy 7,iz 0,.bool false)] [] [] (fc (λ_ _ _=>fe (by first|(simp;done)|(simp;omega))) (fc (λ_ _ _=>aU (by first|(simp;done)|(simp;omega))) fn)) fn fn W0 F0 [[]] [] [⟨40,[.agg #[sy 0,sy 1,sy 2,sy 3,sy 4,sy 5],sy 6],0,none,sy 8,none⟩]) fn (fc (pc rfl (λw hb=>cD c p hp w)) fn) rfl [] [] [(416,[sy 0,sy 1,sy 2,sy 3,sy 4,sy 5,sy 6,iz 1,.int .u64 0,.int .u32 0,sy 7,.slice none 0 0,.slice (some ⟨420,0,none⟩) 1 1],148),(420,[sy 7],3)] 0 rfl rfl [(0,.agg #[sy 0,sy 1,sy 2,sy 3,sy 4,sy 5]),(1,sy 6),(2,sy 7)] (.pointer (some ⟨416,0,none⟩)))
theorem RY(W0:World)(F0:Nat->Prop)(c:aP)(p:Nat)(hp:p<c.n)(gg:Int)(hg:¬ 0<=gg):ce prog 33 [] 0 32 ⟨W0,F0⟩ (Kt c p gg) [] (λκ:am=>(pz ((κ 416).getD 0))) (λκ:am=>[aH ((κ 416).getD 0) [iN c.n,iN c.q,iz c.g,iz c.m,iz c.t,iz c.s,iN p,iz 0,.int .u64 0,.int .u32 0,iz gg,.slice none 0 0,.slice none 0 0] 148]):=by have q0:=c.z hp;exact(eH (c:=⟨W0,F0⟩) 8 (kn [iN (c.n),iN (c.q),iz (c.g),iz (c.m),iz (c.t),iz (c.s),iN (p),iz (gg),iN (c.word p)] fr [(.geq,sy 8,iz 0,.bool true),(.lss,sy 7,iz 0,.bool true)] [] [] (fc (λ_ _ _=>fe (by first|(simp;done)|(simp;omega))) (fc (λ_ _ _=>aU (by first|(simp;done)|(simp;omega))) fn)) fn fn W0 F0 [[]] [] [⟨40,[.agg #[sy 0,sy 1,sy 2,sy 3,sy 4,sy 5],sy 6],0,none,sy 8,none⟩]) fn (fc (pc rfl (λw hb=>cD c p hp w)) fn) rfl [] [] [(416,[sy 0,sy 1,sy 2,sy 3,sy 4,sy 5,sy 6,iz 0,.int .u64 0,.int .u32 0,sy 7,.slice none 0 0,.slice none 0 0],148)] 0 rfl rfl [(0,.agg #[sy 0,sy 1,sy 2,sy 3,sy 4,sy 5]),(1,sy 6),(2,sy 7)] (.pointer (some ⟨416,0,none⟩)))
theorem RZ(W0:World)(F0:Nat->Prop)(c:aP)(p:Nat)(hp:p<c.n)(bp:Nat)(ww k gg:Int)(tk hd:Value)(mF:aV tk=true)(wB:aV hd=true)(hs:List Int)(Kx:hs.length<=1000000):ce prog 66 [] 0 18 ⟨W0,F0⟩ [(0,pz bp)] (L5 c p bp ww k gg tk hd hs) (λκ:am=>(dv κ 403)) (λκ:am=>[aH bp [iN c.n,iN c.q,iz c.g,iz c.m,iz c.t,iz c.s,iN p,iz 0,uz ww,wz k,iz gg,tk,hd] 148,bQ 3 1 (dv κ 403) hs.length (bu hs),bQ 3 1 (hd) (hs.length) (bu hs)]):=(eH (c:=⟨W0,F0⟩) 5 (kn [tk,hd,iN (c.n),iN (c.q),iz (c.g),iz (c.m),iz (c.t),iz (c.s),iN (p),uz (ww),wz (k),iz (gg)] (fc (by assumption) (fc (by assumption) fr)) [] [] [] fn fn fn W0 F0 [(Kw hd hs),(L4 hd hs)] [] [⟨97,[sy 1],0,some 403,.complex .f32 403 0,some 1⟩]) fn (fc (cd rfl [λv=>bQ 3 1 v hs.length (bu hs),λv=>bQ 3 1 (hd) (hs.length) (bu hs)] [0] [] (λw F ho hn hF=>t6 Kx jQ hn)) fn) rfl [(4,bp)] GG GG 1 rfl rfl Kv (.complex .f32 403 0)).conv (λκ w=>⟨(λ_ h=>h),(λ_ h=>fW (a:=λv=>bQ 3 1 v hs.length (bu hs)) (λ_ _ _ _ _ h=>h) h),(λ_ h=>fW (a:=λv=>bQ 3 1 (hd) (hs.length) (bu hs)) (λ_ _ _ _ _ h=>h) h),trivial⟩)
theorem R0(W0:World)(F0:Nat->Prop)(c:aP)(p:Nat)(hp:p<c.n)(bp:Nat)(ww k gg:Int)(tk hd:Value)(mF:aV tk=true)(wB:aV hd=true)(hs:List Int)(Kx:hs.length<=1000000)(st:Nat)(hst:st≠0):ce prog 66 [] 0 18 ⟨W0,F0⟩ [(0,pz bp)] (GF c p bp ww k gg tk hd hs st) (λκ:am=>(.slice none 0 0)) (λκ:am=>(GF c p bp ww k gg tk hd hs st)):=(eH (c:=⟨W0,F0⟩) 5 (kn [tk,hd,iN (st),iN (c.n),iN (c.q),iz (c.g),iz (c.m),iz (c.t),iz (c.s),iN (p),uz (ww),wz (k),iz (gg)] (fc (by assumption) (fc (by assumption) fr)) [(.neq,sy 2,iz 0,.bool true)] [] [] (fc (λ_ _ _=>pn (by have q0:=c.z hp;first|(simp;done)|(simp;omega))) fn) fn fn W0 F0 [(Kw hd hs)] [] []) fn fn rfl [(4,bp)] Ku Ku 0 rfl rfl Kv (.slice none 0 0))
end Go.Proofs.YtkmccgombmogmaaGreat
namespace Go.Proofs.YtkmccgombmogmaaGreat
open Go.Ev Go.Proofs.Tryz
open Go.RowKit
structure oF where
 PF:Bool
 gg:Int
 st:Nat
 was:Int
 put:Option gy
def oF.nx(k:oF):Int:=if k.PF then 0 else k.gg+1
structure PG(c:aP)(k:oF):Prop where
 st:k.st<=3
 gg:k.PF=false->0<=k.gg/\k.gg<=9223372036854775807
 was:fg k.was
 put:∀ x,k.put=some x->oE c x
 S1:k.st=1\/k.st=2->k.put=none
 p3:k.st=3->∃ x,k.put=some x/\x.st≠0
 p0:k.st=0->∀ x,k.put=some x->x.st=0
def oF.holds(k:oF):List Int:=match k.put with | some x=>x.hs | none=>[]
def oF.hands(k:oF):List Int:=if k.PF=false/\(k.st=1\/k.st=2) then [k.gg] else k.holds
def oF.over(k:oF):List Int:=match k.put with | some x=>if x.st=0 then x.hs else [] | none=>[]
end Go.Proofs.YtkmccgombmogmaaGreat
namespace Go.Proofs.YtkmccgombmogmaaGreat
open Go.Ev Go.Proofs.Tryz
open Go.RowKit
open Go.Ev (sy)
set_option maxRecDepth 8000
theorem Jf{b:Nat}{x:Int}{c:dc}{l:List aG}{w:World}(h:af c (aH b [.int .i64 x] 3 :: l) w):af c (cf (.slice (some ⟨b,0,none⟩) 1 1) [x]::l) w :=
 h.head (λF ⟨h1,h2⟩=>⟨rfl,.inr ⟨b,0,1,_,rfl,h1,h2,λi hi=>by
  have:i=0:=by simp at hi;omega
  subst this
  rfl,Nat.le_refl _,Nat.le_refl _⟩⟩)
def L6(c:aP)(p:Nat)(x:gy)(v:Value):aG where
 p:=λι F w=>∃ bp,v=.pointer (some ⟨bp,0,none⟩)/\(gA c p bp x).p ι F w
 keep:=λι F w w' hk ⟨bp,e,h⟩=>⟨bp,e,(gA c p bp x).keep ι F w w' hk h⟩
 mono:=λι κ F w hle ⟨bp,e,h⟩=>⟨bp,e,(gA c p bp x).mono ι κ F w hle h⟩
theorem Da{c:aP}{p:Nat}{x:gy}{v:Value}{ctx:dc}{l:List aG}{w:World}(h:af ctx (L6 c p x v::l) w):∃ bp,v=.pointer (some ⟨bp,0,none⟩)/\af ctx (gA c p bp x::l) w :=
 h.yi (b:=λbp=>gA c p bp x) (p:=λbp=>v=.pointer (some ⟨bp,0,none⟩)) (λF ⟨bp,e,h⟩=>⟨bp,e,h⟩)
theorem uc{c:aP}{p bp:Nat}{x:gy}{ctx:dc}{l:List aG}{w:World}(h:af ctx (gA c p bp x::l) w):af ctx (L6 c p x (.pointer (some ⟨bp,0,none⟩))::l) w :=
 h.head (λF h=>⟨bp,rfl,h⟩)
def gB(gg:Int):gy:=if 0<=gg then ⟨1,gg,0,[],[gg]⟩ else ⟨0,gg,0,[],[]⟩
section
variable{w:World}{F:Nat->Prop}{c:aP}{p:Nat}
theorem Jg(hp:p<c.n)(gg:Int)(h:cG [] F w) :
  Calls prog 33 #[c.v,.int .i64 (p:Int),.int .i64 gg] w λe w'=>∃ v cd,Ev.dec cd=v/\e=.returned v/\af ⟨w,F⟩ [L6 c p (gB gg) v] w':=by
 by_cases hg:0<=gg
 ·refine a_ (RX w F c p hp gg hg) (by kernel_rfl) h (by simp) (by simp) (λκ w1 h1=>⟨_,_,qj _ _,rfl,uc ?_⟩)
  rw[gB,if_pos hg];have h2:=(Jf (h1.sel [1,0])).eC (e := 3) (sz:=1);exact eX (k:=0) (tk:=.slice none 0 0) (Nat.succ_ne_zero _) rfl (h2.sel [2,1,0])
 ·refine a_ (RY w F c p hp gg hg) (by kernel_rfl) h (by simp) (by simp) (λκ w1 h1=>⟨_,_,qj _ _,rfl,uc ?_⟩)
  rw[gB,if_neg hg];have h2:=h1.eC (e := 3) (sz:=1);exact kP (k:=0) (tk:=.slice none 0 0) (hd:=.slice none 0 0) rfl rfl (h2.sel [1,0])
theorem GH(hp:p<c.n){x:gy}(hx:oE c x){bp:Nat}(h:cG [gA c p bp x] F w) :
  Calls prog 66 #[.pointer (some ⟨bp,0,none⟩)] w λe w'=>∃ v cd,Ev.dec cd=v/\e=.returned v/\af ⟨w,F⟩ [cf v (if x.st=0 then x.hs else []),gA c p bp x] w':=by
 have QF:=hx.hs
 by_cases h0:x.st=0
 ·obtain⟨k,tk,hd,mF,wB,hh⟩:=C9 h0 (af.start h)
  obtain⟨F',n1,n2,n3⟩:=hh.ex;have n1':cG [aH bp [.int .i64 (c.n:Int),.int .i64 (c.q:Int),.int .i64 c.g,.int .i64 c.m,.int .i64 c.t,.int .i64 c.s,.int .i64 (p:Int),.int .i64 0,.int .u64 x.w,.int .u32 k,.int .i64 x.gg,tk,hd] 148,bQ 3 1 hd x.hs.length (bu x.hs)] F' w:=by
   have e:vZ c p bp x k tk hd=aH bp [.int .i64 (c.n:Int),.int .i64 (c.q:Int),.int .i64 c.g,.int .i64 c.m,.int .i64 c.t,.int .i64 c.s,.int .i64 (p:Int),.int .i64 0,.int .u64 x.w,.int .u32 k,.int .i64 x.gg,tk,hd] 148:=by unfold vZ;rw[h0];rfl
   rw[e]at n1;exact n1
  refine a_ (RZ w F' c p hp bp x.w k x.gg tk hd mF wB x.hs (by omega)) (by kernel_rfl) n1' (by simp) (by simp) (λκ w1 h1=>⟨_,_,rfl,rfl,?_⟩);rw[if_pos h0];have h2:=(h1.into (l:=[]) n2 n3).sel [0,2,1];have h3:af ⟨w,F⟩ [gA c p bp x,cf (Ev.dec ((κ 403).getD 0)) x.hs] w1:=by
   refine kP (k:=k) (tk:=tk) (hd:=hd) h0 mF ?_;unfold vZ;rw[h0];exact h2
  exact h3.sel [1,0]
 ·obtain⟨k,tk,hd,mF,wB,hh⟩:=yz h0 (af.start h)
  obtain⟨F',n1,n2,n3⟩:=hh.ex;obtain⟨F1,F2,k1,k2,k3,k4⟩:=cL (l:=[vZ c p bp x k tk hd,cf hd x.hs]) n1;refine a_ (R0 w F1 c p hp bp x.w k x.gg tk hd mF wB x.hs (by omega) x.st h0) (by kernel_rfl) k1 (by simp) (by simp) (λκ w1 h1=>⟨_,_,mW,rfl,?_⟩);have h2:=(h1.frame k2 k3).into (l:=[]) n2 (λj hj=>n3 j ((k4 j).2 hj));rw[if_neg h0];exact((eX (k:=k) (tk:=tk) (hd:=hd) h0 mF (h2.sel [0,1,2])).eC (e := 3) (sz:=1))
end
end Go.Proofs.YtkmccgombmogmaaGreat
