/- Part of a proof: see the last text. -/
import Derived.Test.YtankbefdlbcdnaaZd21
set_option linter.unusedSectionVars false
set_option linter.unusedSimpArgs false
set_option linter.unusedVariables false
namespace Go.Ev
open Go.RowKit
def rh(B:Nat->Prop):Value->Prop
 | .slice (some ⟨b,_,_⟩) n _=>0<n->B b
 | _=>True
theorem rh.mono{B C:Nat->Prop}{v:Value}(h:rh B v)(hB:∀ j,B j->C j):rh C v:=by
 unfold rh at *
 split
 ·exact λh0=>hB _ (h h0)
 ·trivial
def n9(B:Nat->Prop)(sz:Nat)(v:Value)(n:Nat)(xs:List Value)(w:World):Prop:=c7 sz v n xs w/\rh B v
section
variable{B C F:Nat->Prop}{sz n:Nat}{v:Value}{xs:List Value}{w w':World}{e:TypeId}
theorem n9.mono(h:n9 B sz v n xs w)(hB:∀ j,B j->C j):n9 C sz v n xs w:=⟨h.1,h.2.mono hB⟩
theorem n9.keep(h:n9 B sz v n xs w)(hk:∀ j,B j->w'.heap[j]? = w.heap[j]?):n9 B sz v n xs w':=by
 obtain⟨⟨h1,⟨h2,a,c,rfl⟩ | ⟨b,off,c,rfl,⟨hb,hc⟩,hx⟩⟩,h3⟩:=h
 ·exact⟨⟨h1,.inl ⟨h2,a,c,rfl⟩⟩,h3⟩
 ·rcases Nat.eq_zero_or_pos n with rfl | hn
  ·exact⟨⟨h1,.inl ⟨rfl,_,c,rfl⟩⟩,h3⟩
  ·have e:=hk b (h3 hn)
   have hb':b<w'.heap.size:=by
    rw[Array.getElem?_eq_getElem hb]at e;exact(Array.getElem?_eq_some_iff.1 e).1
   exact⟨⟨h1,.inr ⟨b,off,c,rfl,⟨hb',hc⟩,λj hj=>by rw[← hx j hj];simp only[World.cell?,e]⟩⟩,h3⟩
theorem n9.of(h:dG e sz v n xs F w):n9 F sz v n xs w:=by
 refine⟨dG.ro h,?_⟩;obtain⟨h1,⟨he,h2,_⟩ | ⟨b,off,c,arr,rfl,hF,hb0,hx,hsz,hnc⟩⟩:=h
 ·rcases he with rfl | ⟨b,off,rfl⟩
  ·trivial
  ·exact λh0=>absurd h0 (Nat.lt_irrefl 0)
 ·exact λ_=>(hF b).2 rfl
theorem rh.zero{a:Option Addr}{c:Nat} : rh B (.slice a 0 c):=by
 cases a with
 | none=>trivial
 | some a=>exact λh0=>absurd h0 (Nat.lt_irrefl 0)
theorem rh.at{a:Addr}{m c:Nat}(h:0<m->B a.block):rh B (.slice (some a) m c):=by
 obtain⟨b,o,s⟩:=a;exact h
theorem n9.cut{lo hi:Nat}(h:n9 B sz v n xs w)(h1:lo<=hi)(h2:hi<=n):n9 B sz (cutV sz v lo hi) (hi-lo) ((xs.drop (lo*sz)).take ((hi-lo)*sz)) w:=by
 refine⟨h.1.cut h1 h2,?_⟩;obtain⟨⟨_,⟨h3,a,c,rfl⟩ | ⟨b,off,c,rfl,_,_⟩⟩,h4⟩:=h
 ·have e:hi-lo=0:=by omega
  cases a with
  | none=>unfold cutV;trivial
  | some a =>
   unfold cutV;simp only[e];exact rh.zero
 ·unfold cutV
  refine rh.at (λh0=>?_)
  split
  ·exact h4 (by omega)
  ·rw[dY]
   exact h4 (by omega)
theorem n9.lt(h:n9 B sz v n xs w):rh (λj=>j<w.heap.size) v:=by
 obtain⟨⟨_,⟨h3,a,c,rfl⟩ | ⟨b,off,c,rfl,hb,_⟩⟩,h4⟩:=h
 ·cases a with
  | none=>trivial
  | some a=>exact λh0=>absurd h0 (Nat.lt_irrefl 0)
 ·exact λ_=>hb.1
theorem rh.and{v:Value}(h1:rh B v)(h2:rh C v):rh (λj=>B j/\C j) v:=by
 unfold rh at *
 split at h1<;>first | exact λh0=>⟨h1 h0,h2 h0⟩ | trivial
def AS(W:World)(B:Nat->Prop)(sz:Nat)(v:Value)(n:Nat)(xs:List Value)(F:Nat->Prop)(w:World):Prop:=n9 F sz v n xs w\/n9 B sz v n xs W
theorem AS.keep{W:World}(h:AS W B sz v n xs F w)(hk:∀ j,F j->w'.heap[j]? = w.heap[j]?):AS W B sz v n xs F w':=h.elim (λh=>.inl (h.keep hk)) .inr
theorem AS.one{W:World}(h:AS W B sz v n xs F w)(ho:eC W (λ_=>False) w)(hF:∀ j,F j->C j)(hB:∀ j,B j->C j):n9 C sz v n xs w:=by
 rcases h with h | h
 ·exact h.mono hF
 ·exact⟨c7.old h.1 ho (aH _),h.2.mono hB⟩
end
end Go.Ev
namespace Go.Ev
section
variable{k:Kn}{P:Program}{g g':Nat}{l:List aK}{ci:Nat}{t u e:TypeId}{sP sL sS sB sV n sz m hi:Nat}{v vs:Value}{xs cs:List Value}{i:TypeInfo}{z:Value}
theorem NV{d0 ng:Option Nat}{w0:World}{X:Nat->Prop}(hg:k.gs[g]? = some (star l))(hi:l[ci]? = some (cQ w0 X))(hs:c7 sz v m xs w0)(hX:fL X v)(hS:k.val sS=v):letI:aL:=k.sig;∀ ι F w d y',Ask k g d0 ng ι F w d->aw ι (sy sS) y'->c7 sz y' m xs w:=by
 letI:aL:=k.sig;intro ι F w d y' q h;rw[bH h,hS];exact qV hg hi hs hX ι F w d q
theorem vK{d0 d1 e':Nat}{y:Value}(hg:k.gs[g]? = some (star l))(hi:l[ci]? = some (ce d0 (λv=>aO e sz v n xs)))(hg':k.gs[g']? = some (star (l.set ci (ce d1 (λv'=>aO e sz v' (n+m) (xs++cs))))))(rd:letI:aL:=k.sig;∀ ι F w d y',Ask k g (some d1) (some g') ι F w d->aw ι y y'->c7 sz y' m cs w)(ht:P.underlying t=some (.slice e))(hu:P.underlying u=some (.slice e'))(cZ:P.info? e=some i)(hsz:i.size=sz)(hz:i.zero=some z)(hzs:z.cells.size=i.size)
  (hb:(n+m)*i.bytes<=140737488355328) (hnm:n+m<=1000000000) (h1:∀ x ∈ cs,x.oneCell'=true):aD k P ⟨[11,t,u],[.complex .f32 d0 0,y],none,g,some d1,.complex .f32 d1 0,some g'⟩:=by
 subst hsz;refine aD.zg ?_;letI:aL:=k.sig;intro ι F w d x' y' ty q H5 EZ;have hsr:=rd ι F w d y' q EZ;obtain⟨Fs,ff,hS',hf,c0,h0,h1'⟩:=a_ hg hi q;obtain rfl:=q.name d1 rfl;obtain⟨c',e0,e1⟩:=qW H5;rw[h0]at e0;cases e0;subst e1;obtain⟨v2,w2,F2,r1,r2,r3,r4⟩:=dG.append (ty:=ty) h1' ht cZ hz hzs (hsr.src hu h1) hb hnm;obtain⟨cc,hcc⟩:=r2.code;have hup:(ι.upd d1 cc) d1=some cc:=by simp[ag.upd]
 exact⟨v2,w2,r1,dS hg' hS' q.lt hf (bU q) cc ⟨cc,hup,by rw[hcc];exact r2⟩ r3 r4 (.dyn d1 cc v2 hup hcc)⟩
def vL(P:Program)(t:TypeId):Prop:=∀ b o x y (arr:Array Value) (e:TypeId) (w:World),w.heap[b]? = some (.cells arr e (0,0))->o+1<arr.size->x.oneCell'=true->y.oneCell'=true->(Instr.storeAt t (.pointer (some ⟨b,o,none⟩)) (.agg #[x,y])).run P w=.ok () ((w.setCell ⟨b,o,none⟩ x).setCell ⟨b,o+1,none⟩ y)
theorem zq{b o:Nat}{arr:Array Value}{e:TypeId}{w:World}(h:w.heap[b]? = some (.cells arr e (0,0)))(ho:o<arr.size):w.cell? ⟨b,o,none⟩=some arr[o]/\w.frozen? ⟨b,o,none⟩=false:=by
 constructor
 ·simp[World.cell?,h,ho]
 ·simp[World.frozen?,h]
theorem Turn.comp{F:Nat->Prop}{w w' w'':World}(h:Turn F w w')(h':Turn F w' w''):Turn F w w'':=⟨h'.os.trans h.os,h'.tape.trans h.tape,h'.output.trans h.output,Nat.le_trans h.size h'.size,λk hk hF=>(h'.block k (Nat.lt_of_lt_of_le hk h.size) hF).trans (h.block k hk hF)⟩
theorem vM{x y r:Value}(hg:k.gs[g]? = some (star l))(hi:l[ci]? = some (aO e sz v n xs))(hg':k.gs[g']? = some (star (l.set ci (aO e sz v n ((xs.set m x).set (m+1) y)))))(hL:vL P t)(hn:m+1<n*sz)(hP:k.val sP=au v m)(hV:oC k r (.agg #[x,y]))(hc:x.oneCell'=true)(hc2:y.oneCell'=true):aD k P ⟨[2,t],[sy sP,r],none,g,none,undef,some g'⟩:=by
 refine aD.store k ?_;letI:aL:=k.sig;intro ι F w d x' y' q hx hy;obtain⟨Fs,ff,hS,hf,h1⟩:=a_ hg hi q;have hV':=hV _ _ hy;rw[bH hx,hP,hV'];have h1':=h1;obtain⟨hl,⟨_,rfl,_⟩ | ⟨b,off,c,arr,e1,hF,hb0,hcs,hsz,hnc⟩⟩:=h1'
 ·simp at hn
 have e0:ff b:=(hF b).2 rfl;have e2:au v m=.pointer (some ⟨b,off+m,none⟩):=by rw[e1];rfl
 rw[e2];have hle:=Nat.mul_le_mul_right sz hnc;have hset:=dG.set (b:=b) (off:=off) (c:=c) (dG.set (b:=b) (off:=off) (c:=c) h1 e1 (by omega:m<n*sz) x) e1 hn y;have ht:=Turn.comp (iy (x:=x) (o:=off+m) (w:=w) e0) (iy (x:=y) (o:=off+(m+1)) e0);exact⟨_,hL b (off+m) x y _ _ w hb0 (by omega) hc hc2,dS hg' hS q.lt hf (bU q) 0 hset ht (λj hj=>⟨Nat.lt_of_lt_of_le (h1.lt j hj) ht.size,.inl hj⟩) (cB _)⟩
end
end Go.Ev
namespace Go.Ev
open Go.RowKit
section cuts
variable{k:Kn}{P:Program}{g ci:Nat}{l:List aK}{t e:TypeId}{sL sA sB sV n sz lo hi:Nat}{v CB:Value}{xs:List Value}{w0:World}{i:TypeInfo}{kd kd':IntKind}
theorem ri(hs:c7 sz v n xs w0)(ht:P.underlying t=some (.slice e))(cZ:P.info? e=some i)(hsz:i.size=sz)(h1:lo<=n)(w:World) :
  (Instr.sliceAt t v (some (.int kd (lo:Int))) none none).run P w=.ok (cutV sz v lo n) w:=by
 subst hsz;have hbd:∀ c:Nat,n<=c->(Instr.sliceBounds true n c (some (.int kd (lo:Int))) none none).run P w=.ok (lo,n,c) w:=by
  intro c hc;have e1:(lo:Int)<=(n:Int):=by omega
  simp[Instr.sliceBounds,run_sliceBound,e1]
 have hs':(Instr.sliceAt t v (some (.int kd (lo:Int))) none none).run P w=(Instr.slice t v (some (.int kd (lo:Int))) none none).run P w:=by
  simp[Instr.sliceAt,run_underlying ht]
 rw[hs'];obtain⟨hl,⟨rfl,a,c,rfl⟩ | ⟨b,off,c,rfl,⟨hb,hc⟩,hx⟩⟩:=hs
 ·obtain rfl:lo=0:=by omega
  cases a with
  | none =>
   simp only[Instr.slice,Sem.run_bind,run_underlying ht,Result.andThen];rw[hbd c (Nat.zero_le _)];simp[sizeOf,typeInfo,cZ,cutV]
  | some a =>
   simp only[Instr.slice,Sem.run_bind,run_underlying ht,Result.andThen];rw[hbd c (Nat.zero_le _)]
   by_cases e0:c=0<;>simp[sizeOf,typeInfo,cZ,cutV,e0]
 ·simp only[Instr.slice,Sem.run_bind,run_underlying ht,Result.andThen]
  rw[hbd c hc]
  by_cases e0:c=lo<;>simp[sizeOf,typeInfo,cZ,cutV,e0]
theorem JW(hs:c7 sz v n xs w0)(ht:P.underlying t=some (.slice e))(cZ:P.info? e=some i)(hsz:i.size=sz)(hL:k.val sL=v)(hA:oC k CB (.int kd (lo:Int)))(h1:lo<=n)(hV:k.val sV=cutV sz v lo n):aD k P ⟨[4,t,1,0,0],[sy sL,CB],none,g,none,sy sV,none⟩:=by
 refine aD.y8 k ?_;letI:aL:=k.sig;intro ι F w d x' y' q hx hy;rw[bH hx,hA _ _ hy,hL];exact⟨_,w,ri hs ht cZ hsz h1 w,eB hV,Below.refl _ _⟩
theorem JX(hg:k.gs[g]? = some (star l))(hc:l[ci]? = some (aO e sz v n xs))(ht:P.underlying t=some (.slice e))(cZ:P.info? e=some i)(hsz:i.size=sz)(hL:k.val sL=v)(hA:oC k CB (.int kd (lo:Int)))(h1:lo<=n)(hV:k.val sV=cutV sz v lo n):aD k P ⟨[4,t,1,0,0],[sy sL,CB],none,g,none,sy sV,none⟩:=by
 refine aD.y8 k ?_;letI:aL:=k.sig;intro ι F w d x' y' q hx hy;obtain⟨Fs,ff,hS,hf,h2⟩:=a_ hg hc q;rw[bH hx,hA _ _ hy,hL];exact⟨_,w,ri (dG.ro h2) ht cZ hsz h1 w,eB hV,Below.refl _ _⟩
theorem AU{y:Value}{j sP:Nat}{kd:IntKind}(hs:c7 sz v n xs w0)(ht:P.underlying t=some (.slice e))(cZ:P.info? e=some i)(hsz:i.size=sz)(hL:k.val sL=v)(hI:oC k y (.int kd (j:Int)))(hj:j<n)(hP:k.val sP=au v (j*sz)):aD k P ⟨[3,t],[sy sL,y],none,g,none,sy sP,none⟩:=by
 refine aD.index k ?_;letI:aL:=k.sig;intro ι F w d x' y' q hx hy;rw[bH hx,hI _ _ hy,hL];obtain⟨h1,⟨rfl,_⟩ | ⟨b,off,c,rfl,⟨hb,_⟩,hc⟩⟩:=hs
 ·omega
 ·refine⟨.pointer (some ⟨b,off+j*sz,none⟩),w,?_,eB hP,Below.refl _ _⟩
  have hc:(0:Int)<=(j:Int)/\(j:Int)<(n:Int):=⟨by omega,by omega⟩;simp[Instr.indexAt,run_underlying ht,hc,sizeOf,typeInfo,cZ,hsz,dY,asIntOf];intro h;omega
theorem DJ{w:World}(h:c7 sz v n xs w)(h1:lo<=n)(hn:0<n):∃ cd,dec cd=cutV sz v lo n:=by
 obtain⟨hl,⟨rfl,a,c,rfl⟩ | ⟨b,off,c,rfl,⟨hb,hc⟩,hx⟩⟩:=h
 ·exact absurd hn (Nat.lt_irrefl 0)
 ·show ∃ cd,dec cd=.slice (some (if c=lo then (⟨b,off,none⟩:Addr) else (⟨b,off,none⟩:Addr).add (lo*sz))) (n-lo) (c-lo)
  split
  ·exact⟨_,dU _ _ _ _⟩
  ·rw[dY]
   exact⟨_,dU _ _ _ _⟩
end cuts
end Go.Ev
namespace Go.Proofs.Ytankbefdlbcdnaa
open Go.Ev Go.Proofs.Try
open Go.RowKit
open Go.Ev (iz iN pz)
theorem mI:∃ i,prog.info? 93 = some i/\i.size=2/\i.zero=some (.agg #[.int .i64 0,.slice none 0 0])/\i.bytes=32:=pJ (by kernel_rfl)
theorem iG:gS prog 37:=by
 intro b o x w h;simp[Instr.loadAt,Instr.sureAddr,loadVar,isAgg,run_underlying underlying37,h]
theorem pU:∀ b o w,(Instr.fieldAt 93 (.pointer (some ⟨b,o,none⟩)) 0).run prog w=.ok (.pointer (some ⟨b,o+0,none⟩)) w:=λb o w=>by kernel_rfl
theorem nE:∀ b o w,(Instr.fieldAt 93 (.pointer (some ⟨b,o,none⟩)) 1).run prog w=.ok (.pointer (some ⟨b,o+1,none⟩)) w:=λb o w=>by kernel_rfl
theorem Gh:vL prog 93:=by
 intro b o x y arr e w h ho hx hy;obtain⟨c1,f1⟩:=zq (o:=o) h (by omega);obtain⟨c2,f2⟩:=zq (o:=o+1) (@Ev.heap_setCell_same cP w b o x arr e h) (by simpa using ho);have e1:(Value.agg #[x,y]).cells = #[x,y]:=rfl;obtain⟨i,i1,i2,_⟩:=mI;simp[Instr.storeAt,Instr.sureAddr,storeVar,isAgg,i1,i2,run_underlying underlying93,c1,c2,e1,storeCells,run_store _ _ _ _ _ hx,run_store _ _ _ _ _ hy,f1,f2,dY,sizeOf,typeInfo]
end Go.Proofs.Ytankbefdlbcdnaa
namespace Go.Proofs.Ytankbefdlbcdnaa
open Go.Ev Go.Proofs.Try
open Go.RowKit
open Go.Ev (sy iz uz wz iN uN wN pz dv fc fn ak vk vd kn pc cc cr cm cd fr)
set_option maxRecDepth 8000
attribute [local irreducible] dF
structure tx where
 W0:World
 v:Value
 l:List Int
 hv:c7 1 v l.length (aB l) W0
 v2:Value
 l2:List Int
 hv2:c7 1 v2 l2.length (aB l2) W0
 x:Int
 y:Int
 i:Nat
 h:l.length<=300/\l2.length<=300/\i<=300
theorem tx.z(q:tx):q.l.length<=300/\q.l2.length<=300/\q.i<=300:=q.h
structure oJ where
 W0:World
 vs:Value
 st:List Int
 hs:c7 1 vs st.length (aB st) W0
 vb:Value
 bn:List Int
 hb:c7 1 vb bn.length (aB bn) W0
 vr:Value
 rw:List Int
 hr:c7 1 vr rw.length (aB rw) W0
 j:Nat
 a:Nat
 b:Int
 nx:Nat
 x:Int
 h:st.length<=300/\bn.length<=300/\rw.length<=300/\j<=300/\a<5/\nx<5/\0<=b/\b<=1000000
theorem oJ.z(q:oJ):q.st.length<=300/\q.bn.length<=300/\q.rw.length<=300/\q.j<=300/\q.a<5/\q.nx<5/\0<=q.b/\q.b<=1000000:=q.h
structure R16 where
 W0:World
 v:Value
 K:Nat
 xs:List Value
 hv:c7 2 v K xs W0
 one:∀ x ∈ xs,x.oneCell'=true
 k:Nat
 c:Int
 wl:Value
 DK:aR wl=true
 lv:Value
 l:List Int
 hl:c7 1 lv l.length (aB l) W0
 ct:Int
 y:Int
 h:K<=4/\k<=40/\l.length<=300/\0<=ct/\ct<=1000000000
theorem R16.z(q:R16):q.K<=4/\q.k<=40/\q.l.length<=300/\0<=q.ct/\q.ct<=1000000000:=q.h
theorem bp{l:List Int}{i:Nat}{y:Int}(h:l[i]? = some y):(aB l)[i]? = some (iz y):=by
 unfold aB;rw[List.getElem?_map,h];rfl
theorem ic{v:Value}(h:aR v=true):v.oneCell'=true:=by
 cases v<;>first | rfl | cases h
abbrev xL(q:oJ):aK:=ce 415 (λv=>aO 3 1 v (q.st.length) (aB q.st))
abbrev DL(q:R16)(ov:Value):aK:=aO 93 2 (ov) (q.K) (((q.xs).set ((q.k)*2) (iz q.c)).set ((q.k)*2+1) (q.wl))
theorem NW(q:tx):dH prog 72 [] 0 2 19 ⟨q.W0,λ_=>False⟩ [(0,(q.v)),(1,iz q.x)] [] .normal (λκ:ag=>[(0,(q.v)),(1,iz q.x),(5,iz 0)]) (λκ:ag=>[]):=(tr (c:=⟨q.W0,λ_=>False⟩) (kn [q.v,iz (q.x)] (fc q.hv.leaf fr) [] [] [] fn fn fn q.W0 (λ_=>False) [[]] [] []) fn fn rfl [] [] [] 0 rfl rfl [(0,sy 0),(1,sy 1)] [(0,sy 0),(1,sy 1),(5,iz 0)] .normal)
theorem NY(q:tx)(hy:q.l[q.i]? = some q.y)(hi:q.i<q.l.length)(he:¬ q.y=q.x):dH prog 72 [4,0] 0 4 19 ⟨q.W0,λ_=>False⟩ [(0,(q.v)),(1,iz q.x),(5,iN q.i)] [] .normal (λκ:ag=>[(0,(q.v)),(1,iz q.x),(5,(iN ((q.i)+1)))]) (λκ:ag=>[]):=by have z:=q.z;exact(tr (c:=⟨q.W0,λ_=>False⟩) (kn [q.v,au (q.v) ((q.i)*1),iz (q.x),iN (q.i),iN (q.l.length),iz (q.y),iN ((q.i)+1)] (fc q.hv.leaf (fc (ae _ _) fr)) [(.lss,sy 3,sy 4,.bool true),(.eql,sy 5,sy 2,.bool false),(.add,sy 3,iz 1,sy 6)] [] [] (fc (λ_ _ _=>ax (by first|(simp;done)|(simp;omega))) (fc (λ_ _ _=>bL (by first|(simp;done)|(simp;omega))) (fc (λ_ _ _=>bM (by rw[aM (by omega) (by omega)];omega)) fn))) fn fn q.W0 (λ_=>False) [[]] [⟨[10,37],[sy 0],none,0,none,sy 4,none⟩,⟨[3,37],[sy 0,sy 3],none,0,none,sy 1,none⟩,⟨[1,3],[sy 1],none,0,none,sy 5,none⟩] []) (fc (bf (ci:=0) rfl rfl q.hv underlying37 rfl rfl) (fc (by obtain⟨i,i1,i2,i3,i4⟩:=aT;exact bj (ci:=0) (j:=(q.i)) rfl rfl q.hv underlying37 i1 i2 rfl rfl (by omega) rfl) (fc (by exact bq (ci:=0) (m:=(q.i)*1) (x:=iz (q.y)) rfl rfl q.hv aG (by rw[Nat.mul_one];exact bp hy) rfl rfl (aH _)) fn))) fn rfl [] [] [] 0 rfl rfl [(0,sy 0),(1,sy 2),(5,sy 3)] [(0,sy 0),(1,sy 2),(5,sy 6)] .normal)
theorem NZ(q:tx)(hi:¬ q.i<q.l.length):dH prog 72 [4,0] 0 4 19 ⟨q.W0,λ_=>False⟩ [(0,(q.v)),(1,iz q.x),(5,iN q.i)] [] (.exit 0) (λκ:ag=>[(0,(q.v))]) (λκ:ag=>[]):=(tr (c:=⟨q.W0,λ_=>False⟩) (kn [q.v,iz (q.x),iN (q.i),iN (q.l.length)] (fc q.hv.leaf fr) [(.lss,sy 2,sy 3,.bool false)] [] [] (fc (λ_ _ _=>ax (by have z:=q.z;first|(simp;done)|(simp;omega))) fn) fn fn q.W0 (λ_=>False) [[]] [⟨[10,37],[sy 0],none,0,none,sy 3,none⟩] []) (fc (bf (ci:=0) rfl rfl q.hv underlying37 rfl rfl) fn) fn rfl [] [] [] 0 rfl rfl [(0,sy 0),(1,sy 1),(5,sy 2)] [(0,sy 0)] (.exit 0))
theorem N0(q:tx):aI prog 72 [] 3 19 ⟨q.W0,λ_=>False⟩ [] [] (λκ:ag=>(.int .i64 (-1))) (λκ:ag=>[]):=(br (c:=⟨q.W0,λ_=>False⟩) 2 (kn [] fn [] [] [] fn fn fn q.W0 (λ_=>False) [[]] [] []) fn fn rfl [] [] [] 0 rfl rfl [] (.int .i64 (-1)))
theorem N1(q:tx):aI prog 73 [] 0 12 ⟨q.W0,λ_=>False⟩ [(0,(q.v)),(1,(q.v2))] [] (λκ:ag=>(dv κ 407)) (λκ:ag=>[aO 3 1 (dv κ 407) (q.l.length+q.l2.length) ((aB q.l)++(aB q.l2))]):=by have z:=q.z;obtain⟨i,i1,i2,i3,i4⟩:=aT;exact(br (c:=⟨q.W0,λ_=>False⟩) 40 (kn [q.v,q.v2] (fc q.hv.leaf (fc q.hv2.leaf fn)) [] [] [] fn fn fn q.W0 (λ_=>False) [[],[ce 403 (λv=>aO 3 1 v (q.l.length) (aB q.l))],[ce 407 (λv=>aO 3 1 v (q.l.length+q.l2.length) ((aB q.l)++(aB q.l2)))]] [⟨[11,37,37],[.slice none 0 0,sy 0],none,0,some 403,.complex .f32 403 0,some 1⟩,⟨[11,37,37],[.complex .f32 403 0,sy 1],none,1,some 407,.complex .f32 407 0,some 2⟩] []) (fc (by exact mA rfl rfl nl (.inl rfl) rfl (qV (ci:=0) rfl rfl q.hv (aH _)) underlying37 underlying37 i1 i2 i3 (by rw[i2];rfl) (by rw[i4];omega) (by omega) gy) (fc (by exact vK (ci:=1) (m:=q.l2.length) (cs:=aB q.l2) rfl rfl rfl (NV (ci:=0) rfl rfl q.hv2 (aH _) rfl) underlying37 underlying37 i1 i2 i3 (by rw[i2];rfl) (by rw[i4];omega) (by omega) gy) fn)) fn rfl [] [] [] 2 rfl rfl [(0,sy 0),(1,sy 1)] (.complex .f32 407 0)).conv (λκ w=>⟨(λ_ h=>bN (a:=λv=>aO 3 1 v (q.l.length+q.l2.length) ((aB q.l)++(aB q.l2))) (λ_ _ _ _ _ h=>h) h),trivial⟩)
theorem N2(q:oJ):aI prog 41 [] 0 23 ⟨q.W0,λ_=>False⟩ [(0,(.agg #[q.vs,q.vb,q.vr]))] [] (λκ:ag=>(.agg #[dv κ 415,dv κ 419,dv κ 423])) (λκ:ag=>[aO 3 1 (dv κ 415) (q.st.length) (aB q.st),aO 3 1 (dv κ 419) (q.bn.length) (aB q.bn),aO 3 1 (dv κ 423) (q.rw.length) (aB q.rw)]):=by have z:=q.z;obtain⟨i,i1,i2,i3,i4⟩:=aT;exact(br (c:=⟨q.W0,λ_=>False⟩) 40 (kn [q.vs,q.vb,q.vr] (fc q.hs.leaf (fc q.hb.leaf (fc q.hr.leaf fn))) [] [] [] fn fn fn q.W0 (λ_=>False) [[],[xL q],[xL q,ce 419 (λv=>aO 3 1 v (q.bn.length) (aB q.bn))],[xL q,ce 419 (λv=>aO 3 1 v (q.bn.length) (aB q.bn)),ce 423 (λv=>aO 3 1 v (q.rw.length) (aB q.rw))]] [⟨[11,37,37],[.slice none 0 0,sy 0],none,0,some 415,.complex .f32 415 0,some 1⟩,⟨[11,37,37],[.slice none 0 0,sy 1],none,1,some 419,.complex .f32 419 0,some 2⟩,⟨[11,37,37],[.slice none 0 0,sy 2],none,2,some 423,.complex .f32 423 0,some 3⟩] []) (fc (by exact mA rfl rfl nl (.inl rfl) rfl (qV (ci:=0) rfl rfl q.hs (aH _)) underlying37 underlying37 i1 i2 i3 (by rw[i2];rfl) (by rw[i4];omega) (by omega) gy) (fc (by exact mA rfl rfl nl (.inl rfl) rfl (qV (ci:=0) rfl rfl q.hb (aH _)) underlying37 underlying37 i1 i2 i3 (by rw[i2];rfl) (by rw[i4];omega) (by omega) gy) (fc (by exact mA rfl rfl nl (.inl rfl) rfl (qV (ci:=0) rfl rfl q.hr (aH _)) underlying37 underlying37 i1 i2 i3 (by rw[i2];rfl) (by rw[i4];omega) (by omega) gy) fn))) fn rfl [] [] [] 3 rfl rfl [(0,.agg #[sy 0,sy 1,sy 2])] (.agg #[.complex .f32 415 0,.complex .f32 419 0,.complex .f32 423 0])).conv (λκ w=>⟨(λ_ h=>bN (a:=λv=>aO 3 1 v (q.st.length) (aB q.st)) (λ_ _ _ _ _ h=>h) h),(λ_ h=>bN (a:=λv=>aO 3 1 v (q.bn.length) (aB q.bn)) (λ_ _ _ _ _ h=>h) h),(λ_ h=>bN (a:=λv=>aO 3 1 v (q.rw.length) (aB q.rw)) (λ_ _ _ _ _ h=>h) h),trivial⟩)
theorem N3(q:R16)(hk:q.k<q.K):dH prog 61 [] 0 3 16 ⟨q.W0,λ_=>False⟩ [(0,(q.v)),(1,iN q.k),(2,(.agg #[iz q.c,q.wl]))] [] .normal (λκ:ag=>[(1,iN q.k),(5,(pz ((κ 400).getD 0))),(6,.slice none 0 0),(7,dv κ 407)]) (λκ:ag=>[bv ((κ 400).getD 0) [iz q.c,q.wl] 93,aO 93 2 (dv κ 407) (q.K) (q.xs)]):=(tr (c:=⟨q.W0,λ_=>False⟩) (kn [q.v,q.wl,iN (q.k),iz (q.c)] (fc q.hv.leaf (fc q.DK fr)) [] [] [] fn fn fn q.W0 (λ_=>False) [[],[ce 407 (λv=>aO 93 2 v (q.K) (q.xs))]] [⟨[11,57,57],[.slice none 0 0,sy 0],none,0,some 407,.complex .f32 407 0,some 1⟩] []) (fc (by obtain⟨i,i1,i2,i3,i4⟩:=mI;have z:=q.z;exact mA rfl rfl nl (.inl rfl) rfl (qV (ci:=0) rfl rfl q.hv (aH _)) underlying57 underlying57 i1 i2 i3 (by rw[i2];rfl) (by rw[i4];omega) (by omega) q.one) fn) fn rfl [] [] [(400,[sy 3,sy 1],93)] 1 rfl rfl [(0,sy 0),(1,sy 2),(2,.agg #[sy 3,sy 1])] [(1,sy 2),(5,.pointer (some ⟨400,0,none⟩)),(6,.slice none 0 0),(7,.complex .f32 407 0)] .normal).conv (λκ w=>⟨(λ_ h=>h),(λ_ h=>bN (a:=λv=>aO 93 2 v (q.K) (q.xs)) (λ_ _ _ _ _ h=>h) h),trivial⟩)
theorem N4(q:R16)(hk:q.k<q.K)(ov:Value)(lo:aR ov=true)(b4:Nat):aI prog 61 [] 3 16 ⟨q.W0,λ_=>False⟩ [(1,iN q.k),(5,pz b4),(7,(ov))] [bv b4 [iz q.c,q.wl] 93,aO 93 2 (ov) (q.K) (q.xs)] (λκ:ag=>(ov)) (λκ:ag=>[bv b4 [iz q.c,q.wl] 93,(DL q ov)]):=by have z:=q.z;exact(br (c:=⟨q.W0,λ_=>False⟩) 40 (kn [ov,q.wl,au (ov) ((q.k)*2),iN (q.k),iz (q.c)] (fc (by assumption) (fc q.DK (fc (ae _ _) fr))) [] [] [] fn fn fn q.W0 (λ_=>False) [[aO 93 2 (ov) (q.K) (q.xs)],[(DL q ov)]] [⟨[3,57],[sy 0,sy 3],none,0,none,sy 2,none⟩,⟨[2,93],[sy 2,.agg #[sy 4,sy 1]],none,0,none,undef,some 1⟩] []) (fc (by obtain⟨i,i1,i2,i3,i4⟩:=mI;exact bZ (ci:=1) (j:=(q.k)) rfl rfl underlying57 i1 i2 rfl rfl (by omega) rfl) (fc (by exact vM (ci:=1) (m:=(q.k)*2) (x:=(iz q.c)) (y:=(q.wl)) rfl rfl rfl Gh (by omega) rfl (Ev.isAgg (ak (by kernel_rfl) (by kernel_rfl))) rfl (ic q.DK)) fn)) fn rfl [(4,b4)] [(4,[sy 4,sy 1],93)] [(4,[sy 4,sy 1],93)] 1 rfl rfl [(1,sy 3),(5,.pointer (some ⟨4,0,none⟩)),(7,sy 0)] (sy 0))
end Go.Proofs.Ytankbefdlbcdnaa
namespace Go.Proofs.Ytankbefdlbcdnaa
open Go.Ev Go.Proofs.Try
open Go.RowKit
open Go.Ev (iz iN pz)
attribute [local irreducible] dF
theorem eJ{F:Nat->Prop}{w:World}(h:bu [] F w):F=λ_=>False:=by
 obtain⟨⟨Fs,e1,e2,e3,e4⟩,_⟩:=h
 funext j
 refine propext ⟨λhj=>?_,λh=>h.elim⟩;obtain⟨i,f,k1,k2⟩:=(e4 j).1 hj;have:Fs=[]:=List.eq_nil_of_length_eq_zero e1;rw[this]at k1;cases k1
section
variable{w:World}{F:Nat->Prop}{v v2:Value}{l:List Int}{x:Int}
abbrev Ke(w:World)(v:Value)(l:List Int)(hv:c7 1 v l.length (aB l) w)(hl:l.length<=300)(x y:Int)(i:Nat)(hi:i<=300):tx:=⟨w,v,l,hv,v,l,hv,x,y,i,⟨hl,hl,hi⟩⟩
theorem vN(hs:c7 1 v l.length (aB l) w)(hl:l.length<=300)(hx:x ∉ l) :
  Calls prog 72 #[v,iz x] w λe w'=>e=.returned (iz (-1))/\Below w.heap.size w w':=by
 refine bx (N:=19) (tm:=[(0,v),(1,iz x)]) (by kernel_rfl) (aX w) (by simp) (by simp) (λA h=>?_);refine NW (Ke w v l hs hl x 0 0 (by decide)) A w _ h ?_;intro κ A1 w1 h1;refine cY (id:=0) (by kernel_rfl) ?_;refine eD (by kernel_rfl) (λ(k:Nat) A w'=>Ev.At ⟨w,λ_=>False⟩ 19 [(0,v),(1,iz x),(5,iN k)] [] A w'/\k<=l.length) (λk=>l.length-k) (x:=0) ⟨h1,Nat.zero_le _⟩ ?_;clear h1 h A A1 w1;rintro k A w1 ⟨h1,hk⟩
 by_cases hj:k<l.length
 ·have hy:l[k]? = some l[k]:=List.getElem?_eq_getElem hj
  have hne:¬ l[k]=x:=λe=>hx (e▸List.getElem_mem hj)
  refine NY (Ke w v l hs hl x l[k] k (by omega)) hy hj hne A w1 _ h1 ?_;intro κ2 A2 w2 h2;exact db (by kernel_rfl) ⟨k+1,⟨h2,by omega⟩,by omega⟩
 ·refine NZ (Ke w v l hs hl x 0 k (by omega)) hj A w1 _ h1 ?_
  intro κ2 A2 w2 h2;refine N0 (Ke w v l hs hl x 0 0 (by decide)) A2 w2 _ (h2.to (λq hq=>by cases hq) (λhh=>hh)) ?_;intro κ3 w3 h3;exact⟨rfl,h3.below (λ_ h=>h)⟩
theorem DM{l2:List Int}(hl:l.length<=300)(hl2:l2.length<=300)(hs:c7 1 v l.length (aB l) w)(hs2:c7 1 v2 l2.length (aB l2) w)(h:bu [] F w) :
  Calls prog 73 #[v,v2] w λe w'=>∃ u cd,Ev.dec cd=u/\e=.returned u/\ay ⟨w,F⟩ [aO 3 1 u (l.length+l2.length) (aB (l++l2))] w':=by
 obtain rfl:=eJ h;refine ao (N1 ⟨w,v,l,hs,v2,l2,hs2,0,0,0,⟨hl,hl2,by decide⟩⟩) (by kernel_rfl) h (by simp) (by simp) (λκ w1 hh=>⟨_,(κ 407).getD 0,rfl,rfl,?_⟩);have e:aB (l++l2)=aB l++aB l2:=by simp[aB]
 rw[e];exact hh
theorem join_one(hl:l.length<=300)(hs:c7 1 v l.length (aB l) w)(hs2:c7 1 v2 1 (aB [x]) w)(h:bu [] F w) :
  Calls prog 73 #[v,v2] w λe w'=>∃ u cd,Ev.dec cd=u/\e=.returned u/\ay ⟨w,F⟩ [aO 3 1 u (l.length+1) (aB (l++[x]))] w':=DM hl (by simp) hs hs2 h
theorem Gi{i:Nat}(h:c7 1 v2 1 (aB [x]) w)(hi:i=0):c7 1 (Ev.cutV 1 v2 i (i+1)) 1 (aB [x]) w:=by
 subst hi;exact h.cut (lo:=0) (hi:=1) (by decide) (by decide)
theorem rj{vs vb vr:Value}{st bn rw:List Int}(hs:c7 1 vs st.length (aB st) w)(hb:c7 1 vb bn.length (aB bn) w)(hr:c7 1 vr rw.length (aB rw) w)(h3:st.length<=300/\bn.length<=300/\rw.length<=300)(h:bu [] F w) :
  Calls prog 41 #[.agg #[vs,vb,vr]] w λe w'=>∃ u cd,Ev.dec cd=u/\e=.returned (.agg #[aq 0 u,aq 1 u,aq 2 u])/\ay ⟨w,F⟩ [aO 3 1 (aq 0 u) st.length (aB st),aO 3 1 (aq 1 u) bn.length (aB bn),aO 3 1 (aq 2 u) rw.length (aB rw)] w':=by
 obtain rfl:=eJ h
 let q:oJ:=⟨w,vs,st,hs,vb,bn,hb,vr,rw,hr,0,0,0,0,0,⟨h3.1,h3.2.1,h3.2.2,by decide,by decide,by decide,by decide,by decide⟩⟩
 refine ao (N2 q) (by kernel_rfl) h (by simp) (by simp[q]) (λκ w1 hh=>⟨_,_,iM (fb ((κ 415).getD 0) (fb ((κ 419).getD 0) ((κ 423).getD 0))),?_,?_⟩)
 ·rw[gI,gJ,kA]
 ·rw[gI,gJ,kA]
  exact hh
theorem oK{K k:Nat}{xs:List Value}{c:Int}{wl:Value}(hs:c7 2 v K xs w)(h1:∀ x ∈ xs,x.oneCell'=true)(hK:K<=4)(hk:k<K)(DK:aR wl=true)(h:bu [] F w) :
  Calls prog 61 #[v,iN k,.agg #[iz c,wl]] w λe w'=>∃ u cd,Ev.dec cd=u/\e=.returned u/\ay ⟨w,F⟩ [aO 93 2 u K ((xs.set (k*2) (iz c)).set (k*2+1) wl)] w':=by
 obtain rfl:=eJ h
 let q:R16:=⟨w,v,K,xs,hs,h1,k,c,wl,DK,.slice none 0 0,[],⟨rfl,.inl ⟨rfl,none,0,rfl⟩⟩,0,0,⟨hK,by omega,by decide,by decide,by decide⟩⟩
 refine bx (N:=16) (tm:=[(0,v),(1,iN k),(2,.agg #[iz c,wl])]) (by kernel_rfl) h (by simp) (by simp) (λA hA=>?_);refine N3 q hk A w _ hA ?_;intro κ A1 w1 g1;dsimp only at g1;have lo:aR (Ev.dv κ 407)=true:=cV _;obtain⟨cd,hcd⟩:∃ cd,Ev.dec cd=Ev.dv κ 407:=⟨_,rfl⟩;generalize Ev.dv κ 407=ov at g1 lo hcd;refine N4 q hk ov lo _ A1 w1 _ (g1.to (λq hq=>by simp at hq ⊢;rcases hq with rfl | rfl | rfl<;>simp) (λhh=>hh)) ?_;intro κ2 w2 g2;exact⟨ov,cd,hcd,rfl,g2.sel [1]⟩
end
end Go.Proofs.Ytankbefdlbcdnaa
namespace Go.Proofs.Ytankbefdlbcdnaa
open Go.Ev Go.Proofs.Try
open Go.RowKit
open Go.Ev (sy iz uz wz iN uN wN pz dv fc fn ak vk vd kn pc cc cr cm cd fr)
set_option maxRecDepth 8000
attribute [local irreducible] dF
abbrev nF(q:tx)(ov:Value):List aK:=[aO 3 1 (ov) ((q.l.length+1)) (aB (q.l++[q.x]))]
theorem N5(q:R16):dH prog 60 [] 0 2 21 ⟨q.W0,λ_=>False⟩ [(0,(q.v)),(1,iz q.c)] [] .normal (λκ:ag=>[(0,(q.v)),(1,iz q.c),(5,iz 0)]) (λκ:ag=>[]):=(tr (c:=⟨q.W0,λ_=>False⟩) (kn [q.v,iz (q.c)] (fc q.hv.leaf fr) [] [] [] fn fn fn q.W0 (λ_=>False) [[]] [] []) fn fn rfl [] [] [] 0 rfl rfl [(0,sy 0),(1,sy 1)] [(0,sy 0),(1,sy 1),(5,iz 0)] .normal)
theorem N6(q:R16)(hk:q.k<q.K)(hw:q.xs[q.k*2+1]? = some q.lv)(hg:q.c ∉ q.l):dH prog 60 [4,0] 0 4 21 ⟨q.W0,λ_=>False⟩ [(0,(q.v)),(1,iz q.c),(5,iN q.k)] [] .normal (λκ:ag=>[(0,(q.v)),(1,iz q.c),(5,(iN ((q.k)+1)))]) (λκ:ag=>[]):=by have z:=q.z;exact(tr (c:=⟨q.W0,λ_=>False⟩) (kn [q.v,au (q.v) ((q.k)*2),au (q.v) ((q.k)*2+1),q.lv,iz (q.c),iN (q.k),iN (q.K),iz (-1),iN ((q.k)+1)] (fc q.hv.leaf (fc (ae _ _) (fc (ae _ _) (fc q.hl.leaf fr)))) [(.lss,sy 5,sy 6,.bool true),(.geq,sy 7,iz 0,.bool false),(.add,sy 5,iz 1,sy 8)] [] [] (fc (λ_ _ _=>ax (by first|(simp;done)|(simp;omega))) (fc (λ_ _ _=>aP (by first|(simp;done)|(simp;omega))) (fc (λ_ _ _=>bM (by rw[aM (by omega) (by omega)];omega)) fn))) fn fn q.W0 (λ_=>False) [[]] [⟨[10,57],[sy 0],none,0,none,sy 6,none⟩,⟨[3,57],[sy 0,sy 5],none,0,none,sy 1,none⟩,⟨[7,93,1],[sy 1],none,0,none,sy 2,none⟩,⟨[1,37],[sy 2],none,0,none,sy 3,none⟩] [⟨72,[sy 3,sy 4],0,none,sy 7,none⟩]) (fc (bf (ci:=0) rfl rfl q.hv underlying57 rfl rfl) (fc (by obtain⟨i,i1,i2,i3,i4⟩:=mI;exact bj (ci:=0) (j:=(q.k)) rfl rfl q.hv underlying57 i1 i2 rfl rfl (by omega) rfl) (fc (by exact dA (fo:=1) rfl q.hv (by omega) nE rfl rfl) (fc (by exact bq (ci:=0) (m:=(q.k)*2+1) (x:=q.lv) rfl rfl q.hv iG hw rfl rfl (aH _)) fn)))) (fc (pc (args:=[q.lv,iz q.c]) rfl (λw hb=>vN (q.hl.old hb (aH _)) (by omega) hg)) fn) rfl [] [] [] 0 rfl rfl [(0,sy 0),(1,sy 4),(5,sy 5)] [(0,sy 0),(1,sy 4),(5,sy 8)] .normal)
theorem N7(q:R16)(hk:¬ q.k<q.K):dH prog 60 [4,0] 0 4 21 ⟨q.W0,λ_=>False⟩ [(0,(q.v)),(1,iz q.c),(5,iN q.k)] [] (.exit 0) (λκ:ag=>[(0,(q.v))]) (λκ:ag=>[]):=(tr (c:=⟨q.W0,λ_=>False⟩) (kn [q.v,iz (q.c),iN (q.k),iN (q.K)] (fc q.hv.leaf fr) [(.lss,sy 2,sy 3,.bool false)] [] [] (fc (λ_ _ _=>ax (by have z:=q.z;first|(simp;done)|(simp;omega))) fn) fn fn q.W0 (λ_=>False) [[]] [⟨[10,57],[sy 0],none,0,none,sy 3,none⟩] []) (fc (bf (ci:=0) rfl rfl q.hv underlying57 rfl rfl) fn) fn rfl [] [] [] 0 rfl rfl [(0,sy 0),(1,sy 1),(5,sy 2)] [(0,sy 0)] (.exit 0))
theorem N8(q:R16):aI prog 60 [] 3 21 ⟨q.W0,λ_=>False⟩ [] [] (λκ:ag=>(.int .i64 (-1))) (λκ:ag=>[]):=(br (c:=⟨q.W0,λ_=>False⟩) 2 (kn [] fn [] [] [] fn fn fn q.W0 (λ_=>False) [[]] [] []) fn fn rfl [] [] [] 0 rfl rfl [] (.int .i64 (-1)))
theorem N9(q:tx)(h1:c7 1 q.v2 1 (aB [q.x]) q.W0):dH prog 62 [] 0 3 31 ⟨q.W0,λ_=>False⟩ [(0,(q.v)),(1,(q.v2))] [] .normal (λκ:ag=>[(0,(q.v)),(1,(q.v2)),(6,(q.v)),(7,iz 0)]) (λκ:ag=>[]):=(tr (c:=⟨q.W0,λ_=>False⟩) (kn [q.v,q.v2] (fc q.hv.leaf (fc h1.leaf fn)) [] [] [] fn fn fn q.W0 (λ_=>False) [[]] [] []) fn fn rfl [] [] [] 0 rfl rfl [(0,sy 0),(1,sy 1)] [(0,sy 0),(1,sy 1),(6,sy 0),(7,iz 0)] .normal)
theorem N_(q:tx)(h1:c7 1 q.v2 1 (aB [q.x]) q.W0)(h0:q.i=0)(hg:q.x ∉ q.l):dH prog 62 [6,0] 0 4 31 ⟨q.W0,λ_=>False⟩ [(0,(q.v)),(1,(q.v2)),(6,(q.v)),(7,iN q.i)] [] .normal (λκ:ag=>[(0,(q.v)),(1,(q.v2)),(6,dv κ 403),(7,(iN ((q.i)+1)))]) (λκ:ag=>[aO 3 1 (dv κ 403) (q.l.length+1) (aB (q.l++[q.x]))]):=by have z:=q.z;obtain⟨i,i1,i2,i3,i4⟩:=aT;exact(tr (c:=⟨q.W0,λ_=>False⟩) (kn [q.v,q.v2,au (q.v2) ((q.i)*1),Ev.cutV 1 (q.v2) (q.i) ((q.i)+1),iN (q.i),iN (1),iz (q.x),iz (-1),iN ((q.i)+1)] (fc q.hv.leaf (fc h1.leaf (fc (ae _ _) (fc (by first | assumption | exact iB q.hv2.leaf | exact q.hv.leaf) fr)))) [(.lss,sy 4,sy 5,.bool true),(.geq,sy 7,iz 0,.bool false),(.add,sy 4,iz 1,sy 8)] [] [] (fc (λ_ _ _=>ax (by first|(simp;done)|(simp;omega))) (fc (λ_ _ _=>aP (by first|(simp;done)|(simp;omega))) (fc (λ_ _ _=>bM (by rw[aM (by omega) (by omega)];omega)) fn))) fn fn q.W0 (λ_=>False) [[],[ce 403 (λv=>aO 3 1 v (q.l.length+1) (aB (q.l++[q.x])))]] [⟨[10,37],[sy 1],none,0,none,sy 5,none⟩,⟨[3,37],[sy 1,sy 4],none,0,none,sy 2,none⟩,⟨[1,3],[sy 2],none,0,none,sy 6,none⟩,⟨[4,37,1,1,0],[sy 1,sy 4,sy 8],none,0,none,sy 3,none⟩] [⟨72,[sy 0,sy 6],0,none,sy 7,none⟩,⟨73,[sy 0,sy 3],0,some 403,.complex .f32 403 0,some 1⟩]) (fc (bf (ci:=0) rfl rfl h1 underlying37 rfl rfl) (fc (by exact bj (ci:=0) (j:=(q.i)) rfl rfl h1 underlying37 i1 i2 rfl rfl (by omega) rfl) (fc (by exact bq (ci:=0) (m:=(q.i)*1) (x:=iz (q.x)) rfl rfl h1 aG (by rw[h0];rfl) rfl rfl (aH _)) (fc (by exact FM (lo:=(q.i)) (hi:=((q.i)+1)) h1 underlying37 i1 i2 rfl rfl rfl (by omega) (by omega) rfl) fn)))) (fc (pc (args:=[q.v,iz q.x]) rfl (λw hb=>vN (q.hv.old hb (aH _)) (by omega) hg)) (fc (cd rfl [λv=>aO 3 1 v (q.l.length+1) (aB (q.l++[q.x]))] [] [] (λw F ho hn hF=>join_one (by omega) (q.hv.old ho (aH _)) ((Gi h1 h0).old ho (aH _)) hn)) fn)) rfl [] [] [] 1 rfl rfl [(0,sy 0),(1,sy 1),(6,sy 0),(7,sy 4)] [(0,sy 0),(1,sy 1),(6,.complex .f32 403 0),(7,sy 8)] .normal).conv (λκ w=>⟨(λ_ h=>bN (a:=λv=>aO 3 1 v (q.l.length+1) (aB (q.l++[q.x]))) (λ_ _ _ _ _ h=>h) h),trivial⟩)
theorem N'(q:tx)(h1:c7 1 q.v2 1 (aB [q.x]) q.W0)(ov:Value)(lo:aR ov=true):dH prog 62 [6,0] 0 4 31 ⟨q.W0,λ_=>False⟩ [(0,(q.v)),(1,(q.v2)),(6,(ov)),(7,iN (1))] (nF q ov) (.exit 0) (λκ:ag=>[(6,(ov))]) (λκ:ag=>(nF q ov)):=(tr (c:=⟨q.W0,λ_=>False⟩) (kn [q.v,q.v2,ov,iN (1)] (fc q.hv.leaf (fc h1.leaf (fc (by assumption) fr))) [(.lss,sy 3,sy 3,.bool false)] [] [] (fc (λ_ _ _=>ax (by have z:=q.z;first|(simp;done)|(simp;omega))) fn) fn fn q.W0 (λ_=>False) [(nF q ov)] [⟨[10,37],[sy 1],none,0,none,sy 3,none⟩] []) (fc (bf (ci:=0) rfl rfl h1 underlying37 rfl rfl) fn) fn rfl [] [] [] 0 rfl rfl [(0,sy 0),(1,sy 1),(6,sy 2),(7,sy 3)] [(6,sy 2)] (.exit 0))
theorem Oa(q:tx)(h1:c7 1 q.v2 1 (aB [q.x]) q.W0)(ov:Value)(lo:aR ov=true):aI prog 62 [] 4 31 ⟨q.W0,λ_=>False⟩ [(6,(ov))] (nF q ov) (λκ:ag=>(.tuple #[ov,iz 0])) (λκ:ag=>(nF q ov)):=(br (c:=⟨q.W0,λ_=>False⟩) 2 (kn [ov] (fc (by assumption) fn) [] [] [] fn fn fn q.W0 (λ_=>False) [(nF q ov)] [] []) fn fn rfl [] [] [] 0 rfl rfl [(6,sy 0)] (.tuple #[sy 0,iz 0]))
end Go.Proofs.Ytankbefdlbcdnaa
namespace Go.Proofs.Ytankbefdlbcdnaa
open Go.Ev Go.Proofs.Try
open Go.RowKit
open Go.Ev (iz iN pz)
attribute [local irreducible] dF
section
variable{w:World}{F:Nat->Prop}{v v2:Value}{l:List Int}{x:Int}
theorem DN(hl:l.length<=300)(hs:c7 1 v l.length (aB l) w)(h1:c7 1 v2 1 (aB [x]) w)(hx:x ∉ l)(h:bu [] F w) :
  Calls prog 62 #[v,v2] w λe w'=>∃ u cd,Ev.dec cd=u/\e=.returned (.tuple #[u,iz 0])/\ay ⟨w,F⟩ [aO 3 1 u (l.length+1) (aB (l++[x]))] w':=by
 obtain rfl:=eJ h
 let q:Nat->tx:=λi=>⟨w,v,l,hs,v2,[x],h1,x,0,if i<=300 then i else 0,⟨by omega,by simp,by split<;>omega⟩⟩
 refine bx (N:=31) (tm:=[(0,v),(1,v2)]) (by kernel_rfl) h (by simp) (by simp) (λA hA=>?_);refine N9 (q 0) h1 A w _ hA ?_;intro κ A1 w1 g1;refine cY (id:=0) (by kernel_rfl) ?_
 refine eD (by kernel_rfl) (λ(o:Option Nat) A w'=>match o with
  | none=>Ev.At ⟨w,λ_=>False⟩ 31 [(0,v),(1,v2),(6,v),(7,iN 0)] [] A w'
  | some cd=>Ev.At ⟨w,λ_=>False⟩ 31 [(0,v),(1,v2),(6,Ev.dec cd),(7,iN 1)] [aO 3 1 (Ev.dec cd) (l.length+1) (aB (l++[x]))] A w') (λo=>match o with | none=>1 | some _=>0) (x:=none) g1 ?_
 clear g1 hA A A1 w1;rintro o A w1 g1;cases o with
 | none =>
  refine N_ (q 0) h1 rfl hx A w1 _ g1 ?_;intro κ2 A2 w2 g2;exact db (by kernel_rfl) ⟨some ((κ2 403).getD 0),g2,Nat.zero_lt_one⟩
 | some cd =>
  have lo:aR (Ev.dec cd)=true:=cV _;refine N' (q 0) h1 (Ev.dec cd) lo A w1 _ g1 ?_;intro κ2 A2 w2 g2;refine Oa (q 0) h1 (Ev.dec cd) lo A2 w2 _ g2 ?_;intro κ3 w3 g3;exact⟨_,cd,rfl,rfl,g3⟩
theorem rk{K:Nat}{xs:List Value}{g:Int}(hs:c7 2 v K xs w)(hone:∀ x ∈ xs,x.oneCell'=true)(hK:K<=4)(hl:∀ k,k<K->∃ lv l,xs[k*2+1]? = some lv/\c7 1 lv l.length (aB l) w/\l.length<=300/\g ∉ l) :
  Calls prog 60 #[v,iz g] w λe w'=>e=.returned (iz (-1))/\Below w.heap.size w w':=by
 let q:Value->(l:List Int)->(lv:Value)->c7 1 lv l.length (aB l) w->l.length<=300->(k:Nat)->k<=40->R16:=λ_ l lv hl h3 k hk=>⟨w,v,K,xs,hs,hone,k,g,.int .i64 0,rfl,lv,l,hl,0,0,⟨hK,hk,h3,by decide,by decide⟩⟩
 have n0:c7 1 (.slice none 0 0) ([]:List Int).length (aB []) w:=⟨rfl,.inl ⟨rfl,none,0,rfl⟩⟩;refine bx (N:=21) (tm:=[(0,v),(1,iz g)]) (by kernel_rfl) (aX w) (by simp) (by simp) (λA h=>?_);refine N5 (q v [] _ n0 (by decide) 0 (by decide)) A w _ h ?_;intro κ A1 w1 h1;refine cY (id:=0) (by kernel_rfl) ?_;refine eD (by kernel_rfl) (λ(k:Nat) A w'=>Ev.At ⟨w,λ_=>False⟩ 21 [(0,v),(1,iz g),(5,iN k)] [] A w'/\k<=K) (λk=>K-k) (x:=0) ⟨h1,Nat.zero_le _⟩ ?_;clear h1 h A A1 w1;rintro k A w1 ⟨h1,hk⟩
 by_cases hj:k<K
 ·obtain⟨lv,l,e1,e2,e3,e4⟩:=hl k hj
  refine N6 (q v l lv e2 e3 k (by omega)) hj e1 e4 A w1 _ h1 ?_;intro κ2 A2 w2 h2;exact db (by kernel_rfl) ⟨k+1,⟨h2,by omega⟩,by omega⟩
 ·refine N7 (q v [] _ n0 (by decide) k (by omega)) hj A w1 _ h1 ?_
  intro κ2 A2 w2 h2;refine N8 (q v [] _ n0 (by decide) 0 (by decide)) A2 w2 _ (h2.to (λq hq=>by cases hq) (λhh=>hh)) ?_;intro κ3 w3 h3;exact⟨rfl,h3.below (λ_ h=>h)⟩
end
def cU(t:Tab):List Int:=t.gs.map (λp:Nat×Nat=>(p.1:Int))
def pV(t:Tab):List Int:=t.gs.map (λp:Nat×Nat=>(p.2:Int))
def iH(t:Tab):List Int:=t.fr.reverse.map (λj:Nat=>(j:Int))
def vO(v:Value):Prop:=∃ c,Ev.dec c=v
def iI(W:World)(B:Nat->Prop)(vs vb vr:Value)(t:Tab):aK where
 p:=λ_ F w=>AS W B 1 vs (cU t).length (aB (cU t)) F w/\AS W B 1 vb (pV t).length (aB (pV t)) F w/\AS W B 1 vr (iH t).length (aB (iH t)) F w/\vO vs/\vO vb/\vO vr
 keep:=λ_ F w w' hk ⟨a,b,c,d⟩=>⟨a.keep hk,b.keep hk,c.keep hk,d⟩
 mono:=λ_ _ _ _ _ h=>h
def oh(ct:Nat->Nat)(lv:Nat->Value):Nat->List Value
 | 0=>[]
 | k+1=>oh ct lv k++[iN (ct k),lv k]
theorem zr(ct:Nat->Nat)(lv:Nat->Value)(K:Nat):(oh ct lv K).length=K*2:=by
 induction K with
 | zero=>rfl
 | succ k ih=>unfold oh;rw[List.length_append,ih];simp;omega
theorem gD(ct:Nat->Nat)(lv:Nat->Value){K k:Nat}(hk:k<K):(oh ct lv K)[k*2]? = some (iN (ct k))/\(oh ct lv K)[k*2+1]? = some (lv k):=by
 induction K with
 | zero=>omega
 | succ n ih =>
  unfold oh;have hl:=zr ct lv n
  by_cases e:k=n
  ·subst e
   rw[List.getElem?_append_right (by omega),List.getElem?_append_right (by omega),hl,Nat.sub_self,show k*2+1-k*2=1 by omega];exact⟨rfl,rfl⟩
  ·rw[List.getElem?_append_left (by omega),List.getElem?_append_left (by omega)]
   exact ih (by omega)
theorem AV{ct IE:Nat->Nat}{lv LZ:Nat->Value}{K:Nat}(h:∀ k,k<K->ct k=IE k/\lv k=LZ k):oh ct lv K=oh IE LZ K:=by
 induction K with
 | zero=>rfl
 | succ n ih=>unfold oh;rw[ih (λk hk=>h k (by omega)),(h n (by omega)).1,(h n (by omega)).2]
theorem Gj(ct:Nat->Nat)(lv:Nat->Value){K k c:Nat}{v:Value}(hk:k<K):((oh ct lv K).set (k*2) (iN c)).set (k*2+1) v=oh (aZ ct k c) (aZ lv k v) K:=by
 induction K with
 | zero=>omega
 | succ n ih =>
  unfold oh;have hl:=zr ct lv n
  by_cases e:k=n
  ·subst e
   rw[List.set_append_right _ _ (by omega),List.set_append_right _ _ (by omega),hl,Nat.sub_self,show k*2+1-k*2=1 by omega];rw[AV (ct:=aZ ct k c) (IE:=ct) (lv:=aZ lv k v) (LZ:=lv) (λj hj=>⟨if_neg (by omega),if_neg (by omega)⟩)];simp[aZ]
  ·rw[List.set_append_left _ _ (by omega),List.set_append_left _ _ (by rw[List.length_set];omega),ih (by omega)]
   simp only[aZ,if_neg (λh:n=k=>e h.symm)]
theorem Gk(ct:Nat->Nat){lv:Nat->Value}{K:Nat}(h:∀ k,k<K->aR (lv k)=true):∀ x ∈ oh ct lv K,x.oneCell'=true:=by
 induction K with
 | zero=>intro x hx;cases hx
 | succ n ih =>
  intro x hx;unfold oh at hx;rw[List.mem_append]at hx;rcases hx with hx | hx
  ·exact ih (λk hk=>h k (by omega)) x hx
  ·simp at hx
   rcases hx with rfl | rfl
   ·rfl
   ·exact ic (h n (by omega))
def iL(W:World)(B:Nat->Prop)(v:Value)(s:Sem):aK where
 p:=λ_ F w=>∃ lv:Nat->Value,AS W B 2 v s.nn (oh s.ct lv s.nn) F w/\∀ k,k<s.nn->AS W B 1 (lv k) (s.ln k).length (aB (s.ln k)) F w
 keep:=λ_ F w w' hk ⟨lv,a,b⟩=>⟨lv,a.keep hk,λk h=>(b k h).keep hk⟩
 mono:=λ_ _ _ _ _ h=>h
end Go.Proofs.Ytankbefdlbcdnaa
namespace Go.Proofs.Ytankbefdlbcdnaa
open Go.Ev Go.Proofs.Try
open Go.RowKit
open Go.Ev (sy iz uz wz iN uN wN pz dv fc fn ak vk vd kn pc cc cr cm cd fr)
set_option maxRecDepth 8000
attribute [local irreducible] dF
theorem bm{w w1:World}{l:List aK}(h:ay ⟨w,λ_=>False⟩ l w1):Below w.heap.size w w1:=h.below (λ_ h=>h)
theorem L4(W0:World):aI prog 42 [] 0 38 ⟨W0,λ_=>False⟩ [(0,iz 0),(1,iz 0)] [] (λκ:ag=>(.bool false)) (λκ:ag=>[]):=(br (c:=⟨W0,λ_=>False⟩) 40 (kn [] fn [] [] [] fn fn fn W0 (λ_=>False) [[]] [] []) fn fn rfl [] [] [] 0 rfl rfl [(0,iz 0),(1,iz 0)] (.bool false))
theorem L5(W0:World):aI prog 42 [] 0 38 ⟨W0,λ_=>False⟩ [(0,iz 0),(1,iz 1)] [] (λκ:ag=>(.bool false)) (λκ:ag=>[]):=(br (c:=⟨W0,λ_=>False⟩) 40 (kn [] fn [] [] [] fn fn fn W0 (λ_=>False) [[]] [] []) fn fn rfl [] [] [] 0 rfl rfl [(0,iz 0),(1,iz 1)] (.bool false))
theorem L6(W0:World):aI prog 42 [] 0 38 ⟨W0,λ_=>False⟩ [(0,iz 0),(1,iz 2)] [] (λκ:ag=>(.bool false)) (λκ:ag=>[]):=(br (c:=⟨W0,λ_=>False⟩) 40 (kn [] fn [] [] [] fn fn fn W0 (λ_=>False) [[]] [] []) fn fn rfl [] [] [] 0 rfl rfl [(0,iz 0),(1,iz 2)] (.bool false))
theorem L7(W0:World):aI prog 42 [] 0 38 ⟨W0,λ_=>False⟩ [(0,iz 0),(1,iz 3)] [] (λκ:ag=>(.bool false)) (λκ:ag=>[]):=(br (c:=⟨W0,λ_=>False⟩) 40 (kn [] fn [] [] [] fn fn fn W0 (λ_=>False) [[]] [] []) fn fn rfl [] [] [] 0 rfl rfl [(0,iz 0),(1,iz 3)] (.bool false))
theorem L8(W0:World):aI prog 42 [] 0 38 ⟨W0,λ_=>False⟩ [(0,iz 0),(1,iz 4)] [] (λκ:ag=>(.bool false)) (λκ:ag=>[]):=(br (c:=⟨W0,λ_=>False⟩) 40 (kn [] fn [] [] [] fn fn fn W0 (λ_=>False) [[]] [] []) fn fn rfl [] [] [] 0 rfl rfl [(0,iz 0),(1,iz 4)] (.bool false))
theorem L9(W0:World):aI prog 42 [] 0 38 ⟨W0,λ_=>False⟩ [(0,iz 1),(1,iz 0)] [] (λκ:ag=>(.bool false)) (λκ:ag=>[]):=(br (c:=⟨W0,λ_=>False⟩) 40 (kn [] fn [] [] [] fn fn fn W0 (λ_=>False) [[]] [] []) fn fn rfl [] [] [] 0 rfl rfl [(0,iz 1),(1,iz 0)] (.bool false))
theorem L_(W0:World):aI prog 42 [] 0 38 ⟨W0,λ_=>False⟩ [(0,iz 1),(1,iz 1)] [] (λκ:ag=>(.bool false)) (λκ:ag=>[]):=(br (c:=⟨W0,λ_=>False⟩) 40 (kn [] fn [] [] [] fn fn fn W0 (λ_=>False) [[]] [] []) fn fn rfl [] [] [] 0 rfl rfl [(0,iz 1),(1,iz 1)] (.bool false))
theorem Ma(W0:World):aI prog 42 [] 0 38 ⟨W0,λ_=>False⟩ [(0,iz 1),(1,iz 2)] [] (λκ:ag=>(.bool true)) (λκ:ag=>[]):=(br (c:=⟨W0,λ_=>False⟩) 40 (kn [] fn [] [] [] fn fn fn W0 (λ_=>False) [[]] [] []) fn fn rfl [] [] [] 0 rfl rfl [(0,iz 1),(1,iz 2)] (.bool true))
theorem Mb(W0:World):aI prog 42 [] 0 38 ⟨W0,λ_=>False⟩ [(0,iz 1),(1,iz 3)] [] (λκ:ag=>(.bool false)) (λκ:ag=>[]):=(br (c:=⟨W0,λ_=>False⟩) 40 (kn [] fn [] [] [] fn fn fn W0 (λ_=>False) [[]] [] []) fn fn rfl [] [] [] 0 rfl rfl [(0,iz 1),(1,iz 3)] (.bool false))
theorem Mc(W0:World):aI prog 42 [] 0 38 ⟨W0,λ_=>False⟩ [(0,iz 1),(1,iz 4)] [] (λκ:ag=>(.bool false)) (λκ:ag=>[]):=(br (c:=⟨W0,λ_=>False⟩) 40 (kn [] fn [] [] [] fn fn fn W0 (λ_=>False) [[]] [] []) fn fn rfl [] [] [] 0 rfl rfl [(0,iz 1),(1,iz 4)] (.bool false))
theorem Md(W0:World):aI prog 42 [] 0 38 ⟨W0,λ_=>False⟩ [(0,iz 2),(1,iz 0)] [] (λκ:ag=>(.bool true)) (λκ:ag=>[]):=(br (c:=⟨W0,λ_=>False⟩) 40 (kn [] fn [] [] [] fn fn fn W0 (λ_=>False) [[]] [] []) fn fn rfl [] [] [] 0 rfl rfl [(0,iz 2),(1,iz 0)] (.bool true))
theorem Me(W0:World):aI prog 42 [] 0 38 ⟨W0,λ_=>False⟩ [(0,iz 2),(1,iz 1)] [] (λκ:ag=>(.bool true)) (λκ:ag=>[]):=(br (c:=⟨W0,λ_=>False⟩) 40 (kn [] fn [] [] [] fn fn fn W0 (λ_=>False) [[]] [] []) fn fn rfl [] [] [] 0 rfl rfl [(0,iz 2),(1,iz 1)] (.bool true))
theorem Mf(W0:World):aI prog 42 [] 0 38 ⟨W0,λ_=>False⟩ [(0,iz 2),(1,iz 2)] [] (λκ:ag=>(.bool false)) (λκ:ag=>[]):=(br (c:=⟨W0,λ_=>False⟩) 40 (kn [] fn [] [] [] fn fn fn W0 (λ_=>False) [[]] [] []) fn fn rfl [] [] [] 0 rfl rfl [(0,iz 2),(1,iz 2)] (.bool false))
theorem Mg(W0:World):aI prog 42 [] 0 38 ⟨W0,λ_=>False⟩ [(0,iz 2),(1,iz 3)] [] (λκ:ag=>(.bool true)) (λκ:ag=>[]):=(br (c:=⟨W0,λ_=>False⟩) 40 (kn [] fn [] [] [] fn fn fn W0 (λ_=>False) [[]] [] []) fn fn rfl [] [] [] 0 rfl rfl [(0,iz 2),(1,iz 3)] (.bool true))
theorem Mh(W0:World):aI prog 42 [] 0 38 ⟨W0,λ_=>False⟩ [(0,iz 2),(1,iz 4)] [] (λκ:ag=>(.bool true)) (λκ:ag=>[]):=(br (c:=⟨W0,λ_=>False⟩) 40 (kn [] fn [] [] [] fn fn fn W0 (λ_=>False) [[]] [] []) fn fn rfl [] [] [] 0 rfl rfl [(0,iz 2),(1,iz 4)] (.bool true))
theorem Mi(W0:World):aI prog 42 [] 0 38 ⟨W0,λ_=>False⟩ [(0,iz 3),(1,iz 0)] [] (λκ:ag=>(.bool false)) (λκ:ag=>[]):=(br (c:=⟨W0,λ_=>False⟩) 40 (kn [] fn [] [] [] fn fn fn W0 (λ_=>False) [[]] [] []) fn fn rfl [] [] [] 0 rfl rfl [(0,iz 3),(1,iz 0)] (.bool false))
theorem Mj(W0:World):aI prog 42 [] 0 38 ⟨W0,λ_=>False⟩ [(0,iz 3),(1,iz 1)] [] (λκ:ag=>(.bool true)) (λκ:ag=>[]):=(br (c:=⟨W0,λ_=>False⟩) 40 (kn [] fn [] [] [] fn fn fn W0 (λ_=>False) [[]] [] []) fn fn rfl [] [] [] 0 rfl rfl [(0,iz 3),(1,iz 1)] (.bool true))
theorem Ml(W0:World):aI prog 42 [] 0 38 ⟨W0,λ_=>False⟩ [(0,iz 3),(1,iz 2)] [] (λκ:ag=>(.bool false)) (λκ:ag=>[]):=(br (c:=⟨W0,λ_=>False⟩) 40 (kn [] fn [] [] [] fn fn fn W0 (λ_=>False) [[]] [] []) fn fn rfl [] [] [] 0 rfl rfl [(0,iz 3),(1,iz 2)] (.bool false))
theorem Mm(W0:World):aI prog 42 [] 0 38 ⟨W0,λ_=>False⟩ [(0,iz 3),(1,iz 3)] [] (λκ:ag=>(.bool false)) (λκ:ag=>[]):=(br (c:=⟨W0,λ_=>False⟩) 40 (kn [] fn [] [] [] fn fn fn W0 (λ_=>False) [[]] [] []) fn fn rfl [] [] [] 0 rfl rfl [(0,iz 3),(1,iz 3)] (.bool false))
theorem Mn(W0:World):aI prog 42 [] 0 38 ⟨W0,λ_=>False⟩ [(0,iz 3),(1,iz 4)] [] (λκ:ag=>(.bool false)) (λκ:ag=>[]):=(br (c:=⟨W0,λ_=>False⟩) 40 (kn [] fn [] [] [] fn fn fn W0 (λ_=>False) [[]] [] []) fn fn rfl [] [] [] 0 rfl rfl [(0,iz 3),(1,iz 4)] (.bool false))
theorem Mp(W0:World):aI prog 42 [] 0 38 ⟨W0,λ_=>False⟩ [(0,iz 4),(1,iz 0)] [] (λκ:ag=>(.bool false)) (λκ:ag=>[]):=(br (c:=⟨W0,λ_=>False⟩) 40 (kn [] fn [] [] [] fn fn fn W0 (λ_=>False) [[]] [] []) fn fn rfl [] [] [] 0 rfl rfl [(0,iz 4),(1,iz 0)] (.bool false))
theorem Mq(W0:World):aI prog 42 [] 0 38 ⟨W0,λ_=>False⟩ [(0,iz 4),(1,iz 1)] [] (λκ:ag=>(.bool true)) (λκ:ag=>[]):=(br (c:=⟨W0,λ_=>False⟩) 40 (kn [] fn [] [] [] fn fn fn W0 (λ_=>False) [[]] [] []) fn fn rfl [] [] [] 0 rfl rfl [(0,iz 4),(1,iz 1)] (.bool true))
theorem Mr(W0:World):aI prog 42 [] 0 38 ⟨W0,λ_=>False⟩ [(0,iz 4),(1,iz 2)] [] (λκ:ag=>(.bool true)) (λκ:ag=>[]):=(br (c:=⟨W0,λ_=>False⟩) 40 (kn [] fn [] [] [] fn fn fn W0 (λ_=>False) [[]] [] []) fn fn rfl [] [] [] 0 rfl rfl [(0,iz 4),(1,iz 2)] (.bool true))
theorem Ms(W0:World):aI prog 42 [] 0 38 ⟨W0,λ_=>False⟩ [(0,iz 4),(1,iz 3)] [] (λκ:ag=>(.bool false)) (λκ:ag=>[]):=(br (c:=⟨W0,λ_=>False⟩) 40 (kn [] fn [] [] [] fn fn fn W0 (λ_=>False) [[]] [] []) fn fn rfl [] [] [] 0 rfl rfl [(0,iz 4),(1,iz 3)] (.bool false))
theorem Mt(W0:World):aI prog 42 [] 0 38 ⟨W0,λ_=>False⟩ [(0,iz 4),(1,iz 4)] [] (λκ:ag=>(.bool false)) (λκ:ag=>[]):=(br (c:=⟨W0,λ_=>False⟩) 40 (kn [] fn [] [] [] fn fn fn W0 (λ_=>False) [[]] [] []) fn fn rfl [] [] [] 0 rfl rfl [(0,iz 4),(1,iz 4)] (.bool false))
theorem Hc(a b:Nat)(ha:a<5)(hb:b<5)(w:World) :
  Calls prog 42 #[.int .i64 (a:Int),.int .i64 (b:Int)] w λe w'=>e=.returned (.bool (hO a b))/\Below w.heap.size w w':=by
 match a,b,ha,hb with
 | 0,0,_,_=>exact ao (L4 w) (by kernel_rfl) (aX w) (by simp) (by simp) (λκ w1 hh=>⟨rfl,bm hh⟩)
 | 0,1,_,_=>exact ao (L5 w) (by kernel_rfl) (aX w) (by simp) (by simp) (λκ w1 hh=>⟨rfl,bm hh⟩)
 | 0,2,_,_=>exact ao (L6 w) (by kernel_rfl) (aX w) (by simp) (by simp) (λκ w1 hh=>⟨rfl,bm hh⟩)
 | 0,3,_,_=>exact ao (L7 w) (by kernel_rfl) (aX w) (by simp) (by simp) (λκ w1 hh=>⟨rfl,bm hh⟩)
 | 0,4,_,_=>exact ao (L8 w) (by kernel_rfl) (aX w) (by simp) (by simp) (λκ w1 hh=>⟨rfl,bm hh⟩)
 | 1,0,_,_=>exact ao (L9 w) (by kernel_rfl) (aX w) (by simp) (by simp) (λκ w1 hh=>⟨rfl,bm hh⟩)
 | 1,1,_,_=>exact ao (L_ w) (by kernel_rfl) (aX w) (by simp) (by simp) (λκ w1 hh=>⟨rfl,bm hh⟩)
 | 1,2,_,_=>exact ao (Ma w) (by kernel_rfl) (aX w) (by simp) (by simp) (λκ w1 hh=>⟨rfl,bm hh⟩)
 | 1,3,_,_=>exact ao (Mb w) (by kernel_rfl) (aX w) (by simp) (by simp) (λκ w1 hh=>⟨rfl,bm hh⟩)
 | 1,4,_,_=>exact ao (Mc w) (by kernel_rfl) (aX w) (by simp) (by simp) (λκ w1 hh=>⟨rfl,bm hh⟩)
 | 2,0,_,_=>exact ao (Md w) (by kernel_rfl) (aX w) (by simp) (by simp) (λκ w1 hh=>⟨rfl,bm hh⟩)
 | 2,1,_,_=>exact ao (Me w) (by kernel_rfl) (aX w) (by simp) (by simp) (λκ w1 hh=>⟨rfl,bm hh⟩)
 | 2,2,_,_=>exact ao (Mf w) (by kernel_rfl) (aX w) (by simp) (by simp) (λκ w1 hh=>⟨rfl,bm hh⟩)
 | 2,3,_,_=>exact ao (Mg w) (by kernel_rfl) (aX w) (by simp) (by simp) (λκ w1 hh=>⟨rfl,bm hh⟩)
 | 2,4,_,_=>exact ao (Mh w) (by kernel_rfl) (aX w) (by simp) (by simp) (λκ w1 hh=>⟨rfl,bm hh⟩)
 | 3,0,_,_=>exact ao (Mi w) (by kernel_rfl) (aX w) (by simp) (by simp) (λκ w1 hh=>⟨rfl,bm hh⟩)
 | 3,1,_,_=>exact ao (Mj w) (by kernel_rfl) (aX w) (by simp) (by simp) (λκ w1 hh=>⟨rfl,bm hh⟩)
 | 3,2,_,_=>exact ao (Ml w) (by kernel_rfl) (aX w) (by simp) (by simp) (λκ w1 hh=>⟨rfl,bm hh⟩)
 | 3,3,_,_=>exact ao (Mm w) (by kernel_rfl) (aX w) (by simp) (by simp) (λκ w1 hh=>⟨rfl,bm hh⟩)
 | 3,4,_,_=>exact ao (Mn w) (by kernel_rfl) (aX w) (by simp) (by simp) (λκ w1 hh=>⟨rfl,bm hh⟩)
 | 4,0,_,_=>exact ao (Mp w) (by kernel_rfl) (aX w) (by simp) (by simp) (λκ w1 hh=>⟨rfl,bm hh⟩)
 | 4,1,_,_=>exact ao (Mq w) (by kernel_rfl) (aX w) (by simp) (by simp) (λκ w1 hh=>⟨rfl,bm hh⟩)
 | 4,2,_,_=>exact ao (Mr w) (by kernel_rfl) (aX w) (by simp) (by simp) (λκ w1 hh=>⟨rfl,bm hh⟩)
 | 4,3,_,_=>exact ao (Ms w) (by kernel_rfl) (aX w) (by simp) (by simp) (λκ w1 hh=>⟨rfl,bm hh⟩)
 | 4,4,_,_=>exact ao (Mt w) (by kernel_rfl) (aX w) (by simp) (by simp) (λκ w1 hh=>⟨rfl,bm hh⟩)
end Go.Proofs.Ytankbefdlbcdnaa
