/- Part of a proof: see the last text. -/
import Derived.Test.YtkmccgombmogmaaGreatZf15
import Derived.Test.YtkmccgombmogmaaGreatZf16
set_option linter.unusedSectionVars false
set_option linter.unusedSimpArgs false
set_option linter.unusedVariables false
namespace Go.Proofs.YtkmccgombmogmaaGreat
open Go.Ev Go.Proofs.Tryz
open Go.RowKit
structure gK where
 st:Nat
 gg:Int
 w:Int
 ts:List Int
 hs:List Int
def ld(m:bO)(a:Nat):Int:=m.cells.getD a 0
def I5(c:aU)(w:Int)(n:Nat):Int:=(cI w-((c.q / 2:Nat):Int)+(n:Int))%4294967296
def aO(c:aU)(p:Nat)(x:gK)(m:bO):gK×bO :=
 match x.st with
 | 1=>(⟨if (c.q:Int)<=aW (ld m (c.word p)) then 4 else 2,x.gg,ld m (c.word p),[],x.hs⟩,m.tick)
 | 2=>(⟨3,x.gg,x.w,x.ts,x.hs⟩,m.put (c.slot p (cI x.w)) x.gg)
 | 3=>if ld m (c.word p)=x.w then (⟨0,x.gg,x.w,x.ts,[]⟩,m.put (c.word p) (dQ x.w 1)) else (⟨1,x.gg,x.w,x.ts,x.hs⟩,m.tick)
 | 4=>(⟨if x.ts.length+1=c.q / 2 then 5 else 4,x.gg,x.w,x.ts++[IntKind.i64.wrap (ld m (c.slot p (I5 c x.w x.ts.length)))],x.hs⟩,m.tick)
 | 5=>if ld m (c.word p)=x.w then (⟨0,x.gg,x.w,x.ts,x.ts++[x.gg]⟩,m.put (c.word p) (dQ x.w (-((c.q / 2:Nat):Int)))) else (⟨1,x.gg,x.w,x.ts,x.hs⟩,m.tick)
 | _=>(x,m)
structure mb(c:aU)(x:gK):Prop where
 st:x.st<=5
 gg:x.st≠0->0<=x.gg/\x.gg<=9223372036854775807
 w:fv x.w
 ts:x.ts.length<=c.q / 2
 t4:x.st=4->x.ts.length<c.q / 2
 hs:x.hs.length<=64
structure bY(c:aU)(m:bO):Prop where
 len:m.cells.length=4+c.off c.n
 u:∀ x ∈ m.cells,fv x
theorem bY.fG{c:aU}{m:bO}(h:bY c m){p:Nat}(hp:p<c.n):c.word p<m.cells.length:=by
 have:=c.nP hp;have:=h.len;unfold aU.word;omega
theorem bY.iP{c:aU}{m:bO}(h:bY c m){p:Nat}(hp:p<c.n)(i:Int):c.slot p i<m.cells.length:=by
 have:=c.nP hp;have:=h.len;have:=c.aC i;unfold aU.slot;omega
theorem bY.get{c:aU}{m:bO}(h:bY c m){a:Nat}(ha:a<m.cells.length):m.cells[a]? = some (ld m a)/\fv (ld m a):=by
 unfold ld;rw[List.getD_eq_getElem?_getD,List.getElem?_eq_getElem ha];exact⟨rfl,h.u _ (List.getElem_mem ha)⟩
theorem bY.tick{c:aU}{m:bO}(h:bY c m):bY c m.tick:=⟨h.len,h.u⟩
theorem bY.put{c:aU}{m:bO}(h:bY c m)(a:Nat){v:Int}(hv:fv v):bY c (m.put a v) :=
 ⟨by simp only[bO.put,List.length_set];exact h.len,λx hx=>by
  rcases List.mem_or_eq_of_mem_set hx with hx | rfl
  ·exact h.u x hx
  ·exact hv⟩
theorem qo{x:Int}(h:fv x)(d:Int):fv (dQ x d):=by
 have h1:=bR h;unfold dQ na fv;omega
theorem bY.big{c:aU}{m:bO}(h:bY c m):m.cells.length<=564:=by
 have:=c.mM;have:=h.len;omega
theorem sc{c:aU}{p:Nat}(hp:p<c.n){x:gK}{m:bO}(hx:mb c x)(hm:bY c m):mb c (aO c p x m).1/\bY c (aO c p x m).2:=by
 have hq:=c.qb;have hw:=hm.get (hm.fG hp);obtain⟨st,gg,w,ts,hs⟩:=x;have h1:st<=5:=hx.st;have h2:st≠0->0<=gg/\gg<=9223372036854775807:=hx.gg;have h3:fv w:=hx.w;have h4:ts.length<=c.q / 2:=hx.ts;have h5:st=4->ts.length<c.q / 2:=hx.t4;have h6:hs.length<=64:=hx.hs
 match st,h1 with
 | 0,_=>exact⟨hx,hm⟩
 | 1,_ =>
  refine⟨⟨?_,λ_=>h2 (by decide),hw.2,Nat.zero_le _,λ_=>?_,h6⟩,hm.tick⟩
  ·show(if (c.q:Int)<=aW (ld m (c.word p)) then 4 else 2)<=5
   split<;>decide
  ·show 0<c.q / 2
   omega
 | 2,_=>exact⟨⟨show 3<=5 by decide,λ_=>h2 (by decide),h3,h4,λh=>(by cases h),h6⟩,hm.put _ (show fv gg by have:=h2 (by decide);unfold fv;omega)⟩
 | 3,_ =>
  unfold aO;simp only
  split
  ·exact⟨⟨show 0<=5 by decide,λh=>absurd rfl h,h3,h4,λh=>(by cases h),Nat.zero_le _⟩,hm.put _ (qo h3 _)⟩
  ·exact⟨⟨show 1<=5 by decide,λ_=>h2 (by decide),h3,h4,λh=>(by cases h),h6⟩,hm.tick⟩
 | 4,_ =>
  have:=h5 rfl;refine⟨⟨?_,λ_=>h2 (by decide),h3,by show(ts++[_]).length<=_;rw[List.length_append];exact this,λh=>?_,h6⟩,hm.tick⟩
  ·show(if ts.length+1=c.q / 2 then 5 else 4)<=5
   split<;>decide
  ·replace h:(if ts.length+1=c.q / 2 then 5 else 4)=4:=h
   show(ts++[_]).length<c.q / 2;rw[List.length_append]
   split at h
   ·cases h
   ·show ts.length+1<c.q / 2
    omega
 | 5,_ =>
  unfold aO;simp only
  split
  ·exact⟨⟨show 0<=5 by decide,λh=>absurd rfl h,h3,h4,λh=>(by cases h),by show(ts++[gg]).length<=64;rw[List.length_append];simp;omega⟩,hm.put _ (qo h3 _)⟩
  ·exact⟨⟨show 1<=5 by decide,λ_=>h2 (by decide),h3,h4,λh=>(by cases h),h6⟩,hm.tick⟩
theorem GJ(c:aU)(w:Int)(n:Nat):IntKind.u32.wrap (cI w+IntKind.u32.wrap ((n:Int)-((c.q / 2:Nat):Int)))=I5 c w n:=by
 rw[cy,cy];unfold I5;omega
end Go.Proofs.YtkmccgombmogmaaGreat
namespace Go.Proofs.YtkmccgombmogmaaGreat
open Go.Ev Go.Proofs.Tryz
open Go.RowKit
open Go.Ev (sy)
set_option maxRecDepth 8000
def tT(c:aU)(p bp:Nat)(x:gK)(k:Int)(tk hd:Value):aF:=aE bp [.int .i64 (c.n:Int),.int .i64 (c.q:Int),.int .i64 c.g,.int .i64 c.m,.int .i64 c.t,.int .i64 c.s,.int .i64 (p:Int),.int .i64 (x.st:Int),.int .u64 x.w,.int .u32 k,.int .i64 x.gg,tk,hd] 148
def bJ(v:Value)(xs:List Int):aF:=bT 3 1 v xs.length (aX xs)
def GK(c:aU)(p bp:Nat)(x:gK)(e:Int×Value×Value):List aF:=tT c p bp x e.1 e.2.1 e.2.2::bJ e.2.2 x.hs::(if x.st=0 then [] else [bJ e.2.1 x.ts])
def fL(c:aU)(p bp:Nat)(x:gK):aF:=Dw (λe:Int×Value×Value=>aT e.2.1=true) (λe=>Ge (GK c p bp x e))
section
variable{c:aU}{p bp:Nat}{x:gK}{k:Int}{tk hd:Value}{ctx:dt}{w:World}{l:List aF}
theorem eN(h0:x.st≠0)(kB:aT tk=true)(h:af ctx (tT c p bp x k tk hd::bJ hd x.hs::bJ tk x.ts::l) w):af ctx (fL c p bp x::l) w:=by
 refine af.r8 (k,tk,hd) kB (af.shut ?_);simp only[GK,if_neg h0];exact h
theorem jq(h0:x.st=0)(kB:aT tk=true)(h:af ctx (tT c p bp x k tk hd::bJ hd x.hs::l) w):af ctx (fL c p bp x::l) w:=by
 refine af.r8 (k,tk,hd) kB (af.shut ?_);simp only[GK,if_pos h0];exact h
theorem sd(h0:x.st≠0)(h:af ctx (fL c p bp x::l) w):∃ k tk hd,aT tk=true/\aT hd=true/\af ctx (tT c p bp x k tk hd::bJ hd x.hs::bJ tk x.ts::l) w:=by
 obtain⟨⟨k,tk,hd⟩,kB,hh⟩:=h.qD;have h2:=hh.open;simp only[GK,if_neg h0]at h2;refine⟨k,tk,hd,kB,?_,h2⟩;obtain⟨F,n1,n2,n3⟩:=h2.ex;exact yZ n1 (i:=1) rfl
theorem ux(h0:x.st=0)(h:af ctx (fL c p bp x::l) w):∃ k tk hd,aT tk=true/\aT hd=true/\af ctx (tT c p bp x k tk hd::bJ hd x.hs::l) w:=by
 obtain⟨⟨k,tk,hd⟩,kB,hh⟩:=h.qD;have h2:=hh.open;simp only[GK,if_pos h0]at h2;refine⟨k,tk,hd,kB,?_,h2⟩;obtain⟨F,n1,n2,n3⟩:=h2.ex;exact yZ n1 (i:=1) rfl
end
theorem DE(ts:List Int)(v:Int):aX (ts++[v])=aX ts++[.int .i64 v]:=by simp[aX]
theorem mc(v:Value)(ts:List Int)(x:Int):bJ v (ts++[x])=bT 3 1 v (ts.length+1) (aX ts++[.int .i64 x]):=by
 unfold bJ;rw[DE,List.length_append];rfl
theorem GL{w:World}{F:Nat->Prop}{c:aU}{p:Nat}(hp:p<c.n){x:gK}(hx:mb c x)(h0:x.st≠0){m:bO}(hm:bY c m){bp bm:Nat}(h:cL [fL c p bp x,aN bm m] F w) :
  Calls prog 138 #[.pointer (some ⟨bp,0,none⟩),.pointer (some ⟨bm,0,none⟩)] w λe w'=>e=.returned (.bool (decide ((aO c p x m).1.st=0)))/\af ⟨w,F⟩ [fL c p bp (aO c p x m).1,aN bm (aO c p x m).2] w':=by
 obtain⟨k,tk,hd,kB,r9,hh⟩:=sd h0 (af.start h);obtain⟨F',n1,n2,n3⟩:=(hh.sel [0,3,2,1]).ex;have hw:=hm.get (hm.fG hp);obtain⟨st,gg,ww,ts,hs⟩:=x;have hgg:=hx.gg h0
 let s:SP:=⟨w,F',c,p,hp,gg,hgg,ww,hx.w,k,bp,bm,m,tk,hd,kB,r9,ts,hs,hm.len,by have:=hx.ts;have:=c.qb;show ts.length<=64;have e:ts.length<=c.q / 2:=hx.ts;omega⟩
 have into:∀ {l:List aF} {w1:World},af ⟨w,F'⟩ l w1->af ⟨w,F⟩ l w1:=λhh=>hh.into (l:=[]) n2 n3
 match st,hx.st with
 | 0,_=>exact absurd rfl h0
 | 1,_ =>
  by_cases hq:(c.q:Int)<=aW (ld m (c.word p))
  ·rw[show aO c p ⟨1,gg,ww,ts,hs⟩ m=(⟨4,gg,ld m (c.word p),[],hs⟩,m.tick) by simp only[aO,if_pos hq]]
   refine bh (SK s _ hw.2 hw.1 hq) (by kernel_rfl) n1 (by simp) (by simp[s]) (λκ w1 h1=>⟨rfl,?_⟩);exact eN (k:=0) (tk:=.slice none 0 0) (hd:=hd) (Nat.succ_ne_zero _) rfl (((into h1).d8 (e := 3) (sz:=1)).sel [1,4,0,2])
  ·rw[show aO c p ⟨1,gg,ww,ts,hs⟩ m=(⟨2,gg,ld m (c.word p),[],hs⟩,m.tick) by simp only[aO,if_neg hq]]
   refine bh (pub s _ hw.2 hw.1 hq) (by kernel_rfl) n1 (by simp) (by simp[s]) (λκ w1 h1=>⟨rfl,?_⟩);exact eN (k:=0) (tk:=.slice none 0 0) (hd:=hd) (Nat.succ_ne_zero _) rfl (((into h1).d8 (e := 3) (sz:=1)).sel [1,4,0,2])
 | 2,_ =>
  refine bh (SL s (hm.iP hp _)) (by kernel_rfl) n1 (by simp) (by simp[s]) (λκ w1 h1=>⟨rfl,?_⟩);exact eN (k:=k) (tk:=tk) (hd:=hd) (Nat.succ_ne_zero _) kB ((into h1).sel [0,3,2,1])
 | 3,_ =>
  by_cases hc:ld m (c.word p)=ww
  ·rw[show aO c p ⟨3,gg,ww,ts,hs⟩ m=(⟨0,gg,ww,ts,[]⟩,m.put (c.word p) (dQ ww 1)) by simp only[aO,if_pos hc]]
   refine bh (SN s _ hw.2 hw.1 hc) (by kernel_rfl) n1 (by simp) (by simp[s]) (λκ w1 h1=>⟨rfl,?_⟩);exact jq (k:=k) (tk:=tk) (hd:=.slice none 0 0) rfl kB (((into h1).d8 (e := 3) (sz:=1)).sel [1,0,2])
  ·rw[show aO c p ⟨3,gg,ww,ts,hs⟩ m=(⟨1,gg,ww,ts,hs⟩,m.tick) by simp only[aO,if_neg hc]]
   refine bh (SM s _ hw.2 hw.1 hc) (by kernel_rfl) n1 (by simp) (by simp[s]) (λκ w1 h1=>⟨rfl,?_⟩);exact eN (k:=k) (tk:=tk) (hd:=hd) (Nat.succ_ne_zero _) kB ((into h1).sel [0,3,2,1])
 | 4,_ =>
  have hsl:=hm.get (hm.iP hp (I5 c ww ts.length));have ha:m.cells[c.slot p s.i4]? = some (ld m (c.slot p (I5 c ww ts.length))):=by
   rw[show s.i4=I5 c ww ts.length from GJ c ww ts.length];exact hsl.1
  by_cases hq:ts.length+1=c.q / 2
  ·rw[show aO c p ⟨4,gg,ww,ts,hs⟩ m=(⟨5,gg,ww,ts++[IntKind.i64.wrap (ld m (c.slot p (I5 c ww ts.length)))],hs⟩,m.tick) by simp only[aO,if_pos hq]]
   refine bh (SO s _ hsl.2 ha (by show((ts.length+1:Nat):Int)=((c.q / 2:Nat):Int);rw[hq])) (by kernel_rfl) n1 (by simp) (by simp[s]) (λκ w1 h1=>⟨rfl,?_⟩);have h2:=into h1;rw[← mc]at h2;exact eN (k:=k) (hd:=hd) (Nat.succ_ne_zero _) (dm (h2.sel [2])) (h2.sel [0,3,2,1])
  ·rw[show aO c p ⟨4,gg,ww,ts,hs⟩ m=(⟨4,gg,ww,ts++[IntKind.i64.wrap (ld m (c.slot p (I5 c ww ts.length)))],hs⟩,m.tick) by simp only[aO,if_neg hq]]
   refine bh (SQ s _ hsl.2 ha (by show ¬ ((ts.length+1:Nat):Int)=((c.q / 2:Nat):Int);omega)) (by kernel_rfl) n1 (by simp) (by simp[s]) (λκ w1 h1=>⟨rfl,?_⟩);have h2:=into h1;rw[← mc]at h2;exact eN (k:=k) (hd:=hd) (Nat.succ_ne_zero _) (dm (h2.sel [2])) (h2.sel [0,3,2,1])
 | 5,_ =>
  by_cases hc:ld m (c.word p)=ww
  ·rw[show aO c p ⟨5,gg,ww,ts,hs⟩ m=(⟨0,gg,ww,ts,ts++[gg]⟩,m.put (c.word p) (dQ ww (-((c.q / 2:Nat):Int)))) by simp only[aO,if_pos hc]]
   refine bh (SS s _ hw.2 hw.1 hc) (by kernel_rfl) n1 (by simp) (by simp[s]) (λκ w1 h1=>⟨rfl,?_⟩);have h2:=into h1;rw[← mc]at h2;exact jq (k:=k) (tk:=tk) rfl kB (h2.sel [0,2,1])
  ·rw[show aO c p ⟨5,gg,ww,ts,hs⟩ m=(⟨1,gg,ww,ts,hs⟩,m.tick) by simp only[aO,if_neg hc]]
   refine bh (SR s _ hw.2 hw.1 hc) (by kernel_rfl) n1 (by simp) (by simp[s]) (λκ w1 h1=>⟨rfl,?_⟩);exact eN (k:=k) (tk:=tk) (hd:=hd) (Nat.succ_ne_zero _) kB ((into h1).sel [0,3,2,1])
end Go.Proofs.YtkmccgombmogmaaGreat
namespace Go.Proofs.YtkmccgombmogmaaGreat
open Go.Ev Go.Proofs.Tryz
open Go.RowKit
open Go.Ev (sy)
def fM(x d:Int):Int:=na ((aj x+d)%4294967296) (cI x)
theorem uy(x n:Int)(h:fv x)(w:World):Calls prog 115 #[.int .u64 x,.int .u32 n] w λe w'=>e=.returned (.int .u64 (fM x n))/\w=w':=by
 go_enter func115,ntmps115
 go_wp2_with (first | (go_at_call 74;refine(l9 x h _).mono ?_;rintro e w' ⟨rfl,rfl⟩) | (go_at_call 73;refine(cC x h _).mono ?_;rintro e w' ⟨rfl,rfl⟩) | (go_at_call 114;refine(Gm ((aj x+n)%4294967296) (cI x) (by omega) (bM x) _).mono ?_;rintro e w' ⟨rfl,rfl⟩))
 go_ret
 exact⟨rfl,rfl⟩
def cJ(n:Int):Int:=n-n / 2
theorem pV(n:Int)(h:0<=n/\n<4294967296)(w:World):Calls prog 117 #[.int .u32 n] w λe w'=>e=.returned (.int .u32 (cJ n))/\w=w':=by
 have e1:n.tdiv 2=n / 2:=Int.tdiv_eq_ediv_of_nonneg h.1;have e2:IntKind.u32.wrap (n / 2)=n / 2:=by rw[cy];omega
 have e3:IntKind.u32.wrap (n-n / 2)=n-n / 2:=by rw[cy];omega
 go_enter func117,ntmps117
 go_wp2
 go_ret
 refine⟨?_,rfl⟩;simp[cJ,e1,e2,e3]
theorem y6{x:Int}(h:fv x)(d:Int):fv (fM x d):=by
 have:=bM x;unfold fM na fv;omega
end Go.Proofs.YtkmccgombmogmaaGreat
namespace Go.Ev
open Go.RowKit
section
variable{k:Kn}{P:Program}{g g':Nat}{l:List aF}{ci:Nat}{t u e:TypeId}{sL sS sB sV n sz m hi:Nat}{v vs:Value}{xs cs:List Value}{i:TypeInfo}{z:Value}
theorem dT.Nb{F:Nat->Prop}{w:World}(h:dT e sz v n xs F w)(h2:hi<=n):dT e sz (cutV sz v 0 hi) hi (xs.take (hi*sz)) F w:=by
 obtain⟨h1,h3⟩:=h;have hle:=Nat.mul_le_mul_right sz h2;refine⟨by rw[List.length_take,h1];omega,?_⟩;rcases h3 with ⟨he,rfl,hF⟩ | ⟨b,off,c,arr,rfl,hF,hb0,hx,hs,hnc⟩
 ·obtain rfl:hi=0:=by omega
  refine .inl ⟨?_,rfl,hF⟩;rcases he with rfl | ⟨b,off,rfl⟩
  ·exact .inl rfl
  ·exact .inr ⟨b,off,rfl⟩
 ·refine .inr ⟨b,off,c,arr,?_,hF,hb0,λk hk=>?_,hs,by omega⟩
  ·unfold cutV
   simp only[fC,Nat.zero_mul,Nat.add_zero,Nat.sub_zero,ite_self]
  ·rw[hx k (by omega),List.getElem?_take,if_pos hk]
theorem af.Nb{c:dt}{l:List aF}{w:World}(h:af c (bT e sz v n xs::l) w)(h2:hi<=n):af c (bT e sz (cutV sz v 0 hi) hi (xs.take (hi*sz))::l) w:=h.head (λF h=>dT.Nb h h2)
end
section
variable{k:Kn}{P:Program}{g g':Nat}{l:List aF}{t e:TypeId}{n sz:Nat}{i:TypeInfo}{z:Value}{xs:List Value}
theorem DF{ci sL sP:Nat}{v y:Value}{kd:IntKind}{j:Nat}(hg:k.gs[g]? = some (star l))(hi:l[ci]? = some (bT e sz v n xs))(ht:P.underlying t=some (.slice e))(gI:P.info? e=some i)(hsz:i.size=sz)(hL:k.val sL=v)(hI:Ee k y (.int kd (j:Int)))(hj:j<n)(hP:k.val sP=dc v (j*sz)):bw k P ⟨[3,t],[sy sL,y],none,g,none,sy sP,none⟩:=by
 subst hsz;refine bw.index k ?_;letI:bB:=k.sig;intro ι F w d x' y' q hx hy;obtain⟨Fs,ff,hS,hf,h1⟩:=fb hg hi q;rw[jJ hx,hI _ _ hy,hL];obtain⟨b,off,c,e1,e2,_⟩:=dT.at (kd:=kd) h1 ht gI hj;exact⟨_,w,e2,oJ (by rw[hP,e1];rfl),Below.refl _ _⟩
end
section
variable{k:Kn}{P:Program}{g:Nat}{l:List aF}{ci:Nat}{t e:TypeId}{sL sA sV n sz lo:Nat}{v:Value}{xs:List Value}{w0:World}{i:TypeInfo}{kd:IntKind}
theorem kj(hs:iM sz v n xs w0)(ht:P.underlying t=some (.slice e))(gI:P.info? e=some i)(hsz:i.size=sz)(h1:lo<=n)(w:World) :
  (Instr.sliceAt t v (some (.int kd (lo:Int))) none none).run P w=.ok (cutV sz v lo n) w:=by
 subst hsz;have hbd:∀ c:Nat,n<=c->(Instr.sliceBounds true n c (some (.int kd (lo:Int))) none none).run P w=.ok (lo,n,c) w:=by
  intro c hc;have e2:(lo:Int)<=(n:Int):=by omega
  simp[Instr.sliceBounds,run_sliceBound,e2]
 have hs':(Instr.sliceAt t v (some (.int kd (lo:Int))) none none).run P w=(Instr.slice t v (some (.int kd (lo:Int))) none none).run P w:=by
  simp[Instr.sliceAt,run_underlying ht]
 rw[hs'];obtain⟨hl,⟨rfl,a,c,rfl⟩ | ⟨b,off,c,rfl,⟨hb,hc⟩,hx⟩⟩:=hs
 ·obtain rfl:lo=0:=by omega
  cases a with
  | none =>
   simp only[Instr.slice,Sem.run_bind,run_underlying ht,Result.andThen];rw[hbd c (Nat.zero_le _)];simp[sizeOf,typeInfo,gI,cutV]
  | some a =>
   simp only[Instr.slice,Sem.run_bind,run_underlying ht,Result.andThen];rw[hbd c (Nat.zero_le _)]
   by_cases e0:c=0<;>simp[sizeOf,typeInfo,gI,cutV,e0]
 ·simp only[Instr.slice,Sem.run_bind,run_underlying ht,Result.andThen]
  rw[hbd c hc]
  by_cases e0:c=lo<;>simp[sizeOf,typeInfo,gI,cutV,e0]
theorem OL(hg:k.gs[g]? = some (star l))(hc:l[ci]? = some (bT e sz v n xs))(ht:P.underlying t=some (.slice e))(gI:P.info? e=some i)(hsz:i.size=sz)(hL:k.val sL=v)(hA:k.val sA=.int kd (lo:Int))(h2:lo<=n)(hV:k.val sV=cutV sz v lo n):bw k P ⟨[4,t,1,0,0],[sy sL,sy sA],none,g,none,sy sV,none⟩:=by
 refine bw.vZ k ?_;letI:bB:=k.sig;intro ι F w d x' y' q hx hy;obtain⟨Fs,ff,hS,hf,h1⟩:=fb hg hc q;rw[jJ hx,jJ hy,hL,hA];exact⟨_,w,kj (kd:=kd) (dT.ro h1) ht gI hsz h2 w,oJ hV,Below.refl _ _⟩
theorem dT.y7{F:Nat->Prop}{w:World}(h:dT e sz v n xs F w)(h2:lo<=n):dT e sz (cutV sz v lo n) (n-lo) (xs.drop (lo*sz)) F w:=by
 obtain⟨h1,h3⟩:=h;have hle:=Nat.mul_le_mul_right sz h2;refine⟨by rw[List.length_drop,h1,Nat.sub_mul],?_⟩;rcases h3 with ⟨he,rfl,hF⟩ | ⟨b,off,c,arr,rfl,hF,hb0,hx,hs,hnc⟩
 ·obtain rfl:lo=0:=by omega
  refine .inl ⟨?_,rfl,hF⟩;rcases he with rfl | ⟨b,off,rfl⟩
  ·exact .inl rfl
  ·exact .inr ⟨b,off,by simp[cutV]⟩
 ·have e1:=Nat.mul_le_mul_right sz h2
  have e2:(n-lo)*sz=n*sz-lo*sz:=Nat.sub_mul ..;have e3:(c-lo)*sz=c*sz-lo*sz:=Nat.sub_mul ..;have e4:=Nat.mul_le_mul_right sz (Nat.le_trans h2 hnc)
  by_cases e0:c=lo
  ·refine .inr ⟨b,off,c-lo,arr,by simp only[cutV,if_pos e0],hF,hb0,λi hi=>?_,by omega,by omega⟩
   have:n=lo:=by omega
   subst this;simp at hi
  ·refine .inr ⟨b,off+lo*sz,c-lo,arr,by simp only[cutV,if_neg e0,fC],hF,hb0,λi hi=>?_,by omega,by omega⟩
   rw[Nat.add_assoc,hx _ (by omega),List.getElem?_drop]
theorem af.y7{c:dt}{l:List aF}{w:World}(h:af c (bT e sz v n xs::l) w)(h2:lo<=n):af c (bT e sz (cutV sz v lo n) (n-lo) (xs.drop (lo*sz))::l) w:=h.head (λF h=>dT.y7 h h2)
def iC(v:Value):Value :=
 match v with
 | .slice a n _=>.slice a n n
 | v=>v
theorem dZ{v:Value}(h:aT v=true):aT (iC v)=true:=by
 unfold iC
 split
 ·rfl
 ·exact h
theorem Ci{sM:Nat}{kd':IntKind}(hg:k.gs[g]? = some (star l))(hi:l[ci]? = some (bT e sz v n xs))(h0:0<n)(ht:P.underlying t=some (.slice e))(gI:P.info? e=some i)(hL:k.val sL=v)(hA:k.val sA=.int kd (n:Int))(hM:k.val sM=.int kd' (n:Int))(hV:k.val sV=iC v):bw k P ⟨[4,t,0,1,1],[sy sL,sy sA,sy sM],none,g,none,sy sV,none⟩:=by
 refine bw.slice3 ?_;letI:bB:=k.sig;intro ι F w d x' y' z' q hx hy hz;obtain⟨Fs,ff,hS,hf,h1⟩:=fb hg hi q;rw[jJ hx,hL,jJ hy,hA,jJ hz,hM];refine⟨iC v,w,?_,oJ hV,Below.refl _ _⟩;have hs:∀ v,(Instr.sliceAt t v none (some (.int kd (n:Int))) (some (.int kd' (n:Int)))).run P w=(Instr.slice t v none (some (.int kd (n:Int))) (some (.int kd' (n:Int)))).run P w:=λv=>by simp[Instr.sliceAt,run_underlying ht]
 rw[hs];obtain⟨_,⟨_,rfl,_⟩ | ⟨b,off,c,arr,rfl,_,_,_,_,hc⟩⟩:=h1
 ·omega
 ·have e1:(n:Int)<=(c:Int):=by omega
  have e2:¬ n=0:=by omega
  have hbd:(Instr.sliceBounds true n c none (some (.int kd (n:Int))) (some (.int kd' (n:Int)))).run P w=.ok (0,n,n) w:=by simp[Instr.sliceBounds,run_sliceBound,e1]
  simp only[Instr.slice,Sem.run_bind,run_underlying ht,Result.andThen];rw[hbd];simp[sizeOf,typeInfo,gI,iC,e2,fC]
theorem dT.full{F:Nat->Prop}{w:World}(h:dT e sz v n xs F w)(h0:0<n):dT e sz (iC v) n xs F w:=by
 obtain⟨h1,⟨_,rfl,_⟩ | ⟨b,off,c,arr,rfl,hF,hb0,hx,hs,hnc⟩⟩:=h
 ·omega
 ·have:=Nat.mul_le_mul_right sz hnc
  exact⟨h1,.inr ⟨b,off,n,arr,rfl,hF,hb0,hx,by omega,Nat.le_refl _⟩⟩
theorem af.full{c:dt}{l:List aF}{w:World}(h:af c (bT e sz v n xs::l) w)(h0:0<n):af c (bT e sz (iC v) n xs::l) w:=h.head (λF h=>dT.full h h0)
theorem GM{c:Int}(hg:k.gs[g]? = some (star l))(hc:l[ci]? = some (bT e sz v n xs))(h0:0<n)(ht:P.underlying t=some (.slice e))(gI:P.info? e=some i)(hsz:i.size=sz)(hL:k.val sL=iC v)(hA:c=(lo:Int))(h2:lo<=n)(hV:k.val sV=cutV sz (iC v) lo n):bw k P ⟨[4,t,1,0,0],[sy sL,.int kd c],none,g,none,sy sV,none⟩:=by
 refine bw.vZ k ?_;letI:bB:=k.sig;intro ι F w d x' y' q hx hy;obtain⟨Fs,ff,hS,hf,h1⟩:=fb hg hc q;cases hy;rw[jJ hx,hL,hA];exact⟨_,w,kj (kd:=kd) (dT.ro (dT.full h1 h0)) ht gI hsz h2 w,oJ hV,Below.refl _ _⟩
theorem sg{g' d1:Nat}{kd':IntKind}{y z:Value}(hg:k.gs[g]? = some (star l))(hg':k.gs[g']? = some (star (l++[jS d1 (λv=>bT e sz v 0 [])])))(hy:Ee k y (.int kd' (n:Int)))(ht:P.underlying t=some (.slice e))(gI:P.info? e=some i)(hsz:i.size=sz)(hz:i.zero=some z)(hzs:z.cells.size=sz)(hb:i.bytes*n<=281474976710656)(hn:n<=maxLen):bw k P ⟨[19,t],[.int kd 0,y],none,g,some d1,.complex .f32 d1 0,some g'⟩:=by
 refine bw.make ?_;letI:bB:=k.sig;intro ι F w d x' y' q QQ Oa;obtain rfl:=q.name d1 rfl;obtain⟨b,q1,q2⟩:=q.st;rw[hg]at q1;cases q1;cases QQ;rw[hy _ _ Oa];have h63':(n:Int)<=9223372036854775807:=by
  have h:=hn;simp[maxLen]at h;omega
 have hb':(i.bytes:Int)*(n:Int)<=281474976710656:=by
  have h:((i.bytes*n:Nat):Int)<=281474976710656:=by omega
  rwa [Int.natCast_mul]at h
 have r1:=run_make (P:=P) w t e i z ht gI hz kd kd' 0 n (Int.le_refl _) (by omega) hb' h63';simp only[Int.toNat_natCast,Int.toNat_zero]at r1;obtain⟨cur,hcur⟩:∃ cur,madeCells z.cells (n*i.size)=cur:=⟨_,rfl⟩;rw[hcur]at r1;have hcs:cur.size=n*sz:=by rw[← hcur,hsz];exact size_madeCells _ _
 have hsl:dT e sz (.slice (some ⟨w.heap.size,0,none⟩) 0 n) 0 [] (λj=>j=w.heap.size) (w.alloc (.cells cur e)) :=
  ⟨by simp,.inr ⟨w.heap.size,0,n,cur,rfl,λ_=>Iff.rfl,World.alloc_heap_new _ _,λj hj=>by simp at hj,by omega,Nat.zero_le _⟩⟩
 obtain⟨cc,hcc⟩:=hsl.code;have hup:(ι.upd d1 cc) d1=some cc:=by simp[am.upd]
 exact⟨_,_,r1,grow_end hg' q2 q.lt (i7 q) cc ⟨cc,hup,by rw[hcc];exact hsl⟩ (jL (World.grownBy_alloc w _ none)) (λj hj=>⟨hsl.lt j hj,by rw[hj];exact Nat.le_refl _⟩) (.dyn d1 cc _ hup hcc)⟩
theorem ek{g' d1 e' m:Nat}{u:TypeId}{i:TypeInfo}{z:Value}{c cs:List Value}(hg:k.gs[g]? = some (star l))(hg':k.gs[g']? = some (star (l++[jS d1 (λv'=>bT e sz v' m cs)])))(ht:P.underlying t=some (.slice e))(hu:P.underlying u=some (.slice e'))(gI:P.info? e=some i)(hsz:i.size=sz)(h0:0<sz)(hz:i.zero=some z)(hzs:z.cells.size=i.size)
  (hb:m*i.bytes<=140737488355328) (hnm:m<=1000000000) (hm:c.length=m*sz) (hc:∀ ι c',(letI:bB:=k.sig;dW ι c c')->c'=cs):bw k P ⟨[11,t,u],[.slice none 0 0],some (sz,1,c),g,some d1,.complex .f32 d1 0,some g'⟩:=by
 subst hsz;refine bw.append k ?_;letI:bB:=k.sig;intro ι F w d x' y' c' m' ty q hx hcr hcm ho hr hl;have hmm:m'=m:=Nat.eq_of_mul_eq_mul_right h0 (by rw[← hcm,hm]);subst hmm;obtain rfl:=q.name d1 rfl;obtain⟨b,q1,q2⟩:=q.st;rw[hg]at q1;cases q1;rw[M5 _ _ hx];have hs:Src P i.size u y' m' c' w:=⟨.inl ⟨_,hu⟩,hl,hr w rfl,hr w.drew rfl,by rw[← hcr.1];exact hm,wD hcr ho⟩;have h1:dT e i.size (.slice none 0 0) 0 [] (λ_=>False) w:=dT.nil e i.size w;obtain⟨v2,w2,F2,r1,r2,r3,r4⟩:=dT.append (ty:=ty) h1 ht gI hz hzs hs (by rw[Nat.zero_add];exact hb) (by omega);rw[hc _ _ hcr,Nat.zero_add,List.nil_append]at r2;obtain⟨cc,hcc⟩:=r2.code;have hup:(ι.upd d1 cc) d1=some cc:=by simp[am.upd]
 exact⟨v2,w2,r1,grow_end hg' q2 q.lt (i7 q) cc ⟨cc,hup,by rw[hcc];exact r2⟩ ⟨r3.os,r3.tape,r3.output,r3.size,λj hj=>r3.block j hj (λh=>h)⟩ (λj hj=>⟨(r4 j hj).1,(r4 j hj).2.elim (λh=>h.elim) id⟩) (.dyn d1 cc v2 hup hcc)⟩
end
end Go.Ev
namespace Go.Proofs.YtkmccgombmogmaaGreat
open Go.Ev Go.Proofs.Tryz
open Go.RowKit
open Go.Ev (sy iz uz wz iN uN wN pz dv fc fn ak vk vd kn pc cc cr cm cd fr)
set_option maxRecDepth 8000
attribute [local irreducible] kA
structure LP where
 W0:World
 F0:Nat->Prop
 c:aU
 p:Nat
 hp:p<c.n
 w:Int
 hw:fv w
 k:Nat
 n:Nat
 lf:Value
 qp:aT lf=true
 ls:List Int
 bp:Nat
 bm:Nat
 m:bO
 hl:m.cells.length=4+c.off c.n
 hkb:k<=64/\n<=64
 hls:ls.length<=64
theorem LP.QW(s:LP):s.ls.length<=1000000:=by have:=s.hls;omega
def LP.a1(s:LP)(x:Int):Nat:=min (aW x).toNat s.c.q
def LP.rm(s:LP)(x:Int):Nat:=min s.ls.length (s.c.q-s.a1 x)
theorem cD(x:Int):0<=aW x/\aW x<4294967296:=by unfold aW;omega
theorem LP.OM(s:LP)(x:Int):s.a1 x<=s.c.q:=Nat.min_le_right _ _
theorem LP.Lz(s:LP)(x:Int):IntKind.i64.wrap (min (aW x) ((s.c.q:Nat):Int))=((s.a1 x:Nat):Int):=by
 have h1:=cD x;have h2:=s.c.qb;unfold LP.a1;rw[bx (by omega) (by omega)];omega
theorem LP.LA(s:LP)(x:Int):IntKind.i64.wrap (((s.c.q:Nat):Int)-((s.a1 x:Nat):Int))=((s.c.q-s.a1 x:Nat):Int):=by
 have h1:=s.OM x;have h2:=s.c.qb;rw[bx (by omega) (by omega)];omega
theorem LP.LB(s:LP)(x:Int):IntKind.u32.wrap (min ((s.ls.length:Nat):Int) ((s.c.q-s.a1 x:Nat):Int))=((s.rm x:Nat):Int):=by
 have h1:=s.hls;unfold LP.rm;rw[cy];omega
abbrev LC(s:LP):Value:=(.agg #[iN s.c.n,iN s.c.q,iz s.c.g,iz s.c.m,iz s.c.t,iz s.c.s])
abbrev GN:List iA:=[(4,[sy 16,sy 1,sy 17,sy 18,sy 19,sy 20,sy 21,iz 1,sy 22,sy 5,sy 8,sy 0],203)]
abbrev GT:List (Nat×Value):=[(0,.pointer (some ⟨4,0,none⟩)),(1,sy 23)]
abbrev jr(s:LP):aF:=bT 3 1 (s.lf) (s.ls.length) (aX s.ls)
abbrev uA(s:LP):List aF:=[aN s.bm s.m,jr s]
abbrev GU(s:LP):List aF:=[aN s.bm s.m.tick,jr s]
abbrev uB(s:LP):List (Nat×Value):=[(0,pz s.bp),(1,pz s.bm)]
abbrev LD(s:LP):aF:=aE s.bp [iN s.c.n,iN s.c.q,iz s.c.g,iz s.c.m,iz s.c.t,iz s.c.s,iN s.p,iz 1,uz s.w,wN s.k,wN s.n,s.lf] 203
abbrev GV(s:LP):List aF:=[LD s,aN s.bm s.m,jr s]
abbrev GX:List iA:=[(4,[sy 14,sy 2,sy 15,sy 16,sy 17,sy 18,sy 19,iz 2,sy 20,sy 6,sy 9,sy 0],203)]
abbrev AU(s:LP)(el:Int):aF:=aN s.bm (s.m.put (s.c.slot s.p (IntKind.u32.wrap (cI s.w+((s.k:Nat):Int)))) (el))
abbrev GY(s:LP)(el:Int):List aF:=[(AU s el),jr s]
abbrev GZ(s:LP):List aF:=[aE s.bp [iN s.c.n,iN s.c.q,iz s.c.g,iz s.c.m,iz s.c.t,iz s.c.s,iN s.p,iz 2,uz s.w,wN s.k,wN s.n,s.lf] 203,aN s.bm s.m,jr s]
abbrev G0(s:LP):List aF:=[aE s.bp [iN s.c.n,iN s.c.q,iz s.c.g,iz s.c.m,iz s.c.t,iz s.c.s,iN s.p,iz 3,uz s.w,wN s.k,wN s.n,s.lf] 203,aN s.bm s.m,jr s]
abbrev G5:List iA:=[(4,[sy 1,sy 2,sy 3,sy 4,sy 5,sy 6,sy 7,sy 8,sy 9,sy 10,sy 11,sy 0],203)]
abbrev G6(s:LP)(st:Nat):aF:=aE s.bp [iN s.c.n,iN s.c.q,iz s.c.g,iz s.c.m,iz s.c.t,iz s.c.s,iN s.p,iN st,uz s.w,wN s.k,wN s.n,s.lf] 203
theorem ST(s:LP)(x:Int)(hxu:fv x)(hxa:s.m.cells[s.c.word s.p]? = some x)(h1:¬ ((s.ls.length:Nat):Int)=0)(h2:((s.rm x:Nat):Int)=0):cw prog 170 [] 0 117 ⟨s.W0,s.F0⟩ (uB s) (GV s) (λκ:am=>(.bool true)) (λκ:am=>[aE s.bp [iN s.c.n,iN s.c.q,iz s.c.g,iz s.c.m,iz s.c.t,iz s.c.s,iN s.p,iz 0,uz x,.int .u32 0,wN (s.rm x),s.lf] 203,aN s.bm s.m.tick,jr s]):=by have q0:=s.c.z s.hp;have q6:=s.hl;have q7:=s.hkb;have q9:=s.hls;obtain⟨i,i1,i2,i3,i4⟩:=b_;exact(eP (c:=⟨s.W0,s.F0⟩) 4 (kn [s.lf,iN (s.c.q),iN (s.c.q / 2),wN (s.c.q / 2),wN (s.c.q),wN (s.k),iN (s.k),wN (s.k+1),wN (s.n),wz (cI (s.w)),wz (IntKind.u32.wrap (cI s.w+((s.k:Nat):Int))),wz (min (aW (x)) ((s.c.q:Nat):Int)),iN (s.a1 x),iN (s.c.q-s.a1 x),iz (min ((s.ls.length:Nat):Int) ((s.c.q-s.a1 x:Nat):Int)),wN (s.rm x),iN (s.c.n),iz (s.c.g),iz (s.c.m),iz (s.c.t),iz (s.c.s),iN (s.p),uz (s.w),pz s.bm,iN (s.ls.length),iN (s.c.word s.p),uz (x),wz (aW (x))] (fc s.qp fr) [(.eql,sy 24,iz 0,.bool false),(.sub,sy 1,sy 12,sy 13),(.eql,sy 15,.int .u32 0,.bool true)] [] [(.u32,sy 1,sy 4),(.i64,sy 11,sy 12),(.u32,sy 14,sy 15)] (fc (λ_ _ _=>cZ (by first|(simpa using h1)|(simp;omega))) (fc (λ_ _ _=>rK (s.LA x)) (fc (λ_ _ _=>cZ (by first|(simpa using h2)|(simp;omega))) fn))) fn (fc (cF rfl rfl (by have q2:=s.c.qb;rw[cy];omega)) (fc (cF rfl rfl (s.Lz x)) (fc (cF rfl rfl (s.LB x)) fn))) s.W0 s.F0 [uA s,GU s] [⟨[10,35],[sy 0],none,0,none,sy 24,none⟩,⟨[10,35],[sy 0],none,1,none,sy 24,none⟩,⟨[16,95,95],[sy 27,sy 4],none,1,none,sy 11,none⟩,⟨[16,3,3],[sy 24,sy 13],none,1,none,sy 14,none⟩] [⟨40,[.agg #[sy 16,sy 1,sy 17,sy 18,sy 19,sy 20],sy 21],0,none,sy 25,none⟩,⟨150,[sy 23,sy 25],0,none,sy 26,some 1⟩,⟨42,[sy 26],1,none,sy 27,none⟩]) (fc (by exact bC (ci:=2) rfl rfl underlying35 i2 rfl rfl) (fc (by exact bC (ci:=2) rfl rfl underlying35 i2 rfl rfl) (fc (oL (kd:=.u32) (a:=(aW (x))) (b:=((s.c.q:Nat):Int)) (g_ rfl) (g_ rfl) rfl) (fc (oL (kd:=.i64) (a:=((s.ls.length:Nat):Int)) (b:=((s.c.q-s.a1 x:Nat):Int)) (g_ rfl) (g_ rfl) rfl) fn)))) (fc (pc rfl (λw hb=>cM s.c s.p s.hp w)) (fc (cc rfl [aN s.bm s.m.tick] [0] [1] (λw F ho hn hF=>dk hn hxa (fK hxa (by omega)))) (fc (pc (args:=[uz x]) rfl (λw hb=>ag (cG _ hxu w))) fn))) rfl [(4,s.bp)] GN [(4,[sy 16,sy 1,sy 17,sy 18,sy 19,sy 20,sy 21,iz 0,sy 26,.int .u32 0,sy 15,sy 0],203)] 1 rfl rfl GT (.bool true))
theorem SU(s:LP)(x:Int)(hxu:fv x)(hxa:s.m.cells[s.c.word s.p]? = some x)(h1:¬ ((s.ls.length:Nat):Int)=0)(h2:¬ ((s.rm x:Nat):Int)=0):cw prog 170 [] 0 117 ⟨s.W0,s.F0⟩ (uB s) (GV s) (λκ:am=>(.bool false)) (λκ:am=>[aE s.bp [iN s.c.n,iN s.c.q,iz s.c.g,iz s.c.m,iz s.c.t,iz s.c.s,iN s.p,iz 2,uz x,.int .u32 0,wN (s.rm x),s.lf] 203,aN s.bm s.m.tick,jr s]):=by have q0:=s.c.z s.hp;have q6:=s.hl;have q7:=s.hkb;have q9:=s.hls;obtain⟨i,i1,i2,i3,i4⟩:=b_;exact(eP (c:=⟨s.W0,s.F0⟩) 4 (kn [s.lf,iN (s.c.q),iN (s.c.q / 2),wN (s.c.q / 2),wN (s.c.q),wN (s.k),iN (s.k),wN (s.k+1),wN (s.n),wz (cI (s.w)),wz (IntKind.u32.wrap (cI s.w+((s.k:Nat):Int))),wz (min (aW (x)) ((s.c.q:Nat):Int)),iN (s.a1 x),iN (s.c.q-s.a1 x),iz (min ((s.ls.length:Nat):Int) ((s.c.q-s.a1 x:Nat):Int)),wN (s.rm x),iN (s.c.n),iz (s.c.g),iz (s.c.m),iz (s.c.t),iz (s.c.s),iN (s.p),uz (s.w),pz s.bm,iN (s.ls.length),iN (s.c.word s.p),uz (x),wz (aW (x))] (fc s.qp fr) [(.eql,sy 24,iz 0,.bool false),(.sub,sy 1,sy 12,sy 13),(.eql,sy 15,.int .u32 0,.bool false)] [] [(.u32,sy 1,sy 4),(.i64,sy 11,sy 12),(.u32,sy 14,sy 15)] (fc (λ_ _ _=>cZ (by first|(simpa using h1)|(simp;omega))) (fc (λ_ _ _=>rK (s.LA x)) (fc (λ_ _ _=>cZ (by first|(simpa using h2)|(simp;omega))) fn))) fn (fc (cF rfl rfl (by have q2:=s.c.qb;rw[cy];omega)) (fc (cF rfl rfl (s.Lz x)) (fc (cF rfl rfl (s.LB x)) fn))) s.W0 s.F0 [uA s,GU s] [⟨[10,35],[sy 0],none,0,none,sy 24,none⟩,⟨[10,35],[sy 0],none,1,none,sy 24,none⟩,⟨[16,95,95],[sy 27,sy 4],none,1,none,sy 11,none⟩,⟨[16,3,3],[sy 24,sy 13],none,1,none,sy 14,none⟩] [⟨40,[.agg #[sy 16,sy 1,sy 17,sy 18,sy 19,sy 20],sy 21],0,none,sy 25,none⟩,⟨150,[sy 23,sy 25],0,none,sy 26,some 1⟩,⟨42,[sy 26],1,none,sy 27,none⟩]) (fc (by exact bC (ci:=2) rfl rfl underlying35 i2 rfl rfl) (fc (by exact bC (ci:=2) rfl rfl underlying35 i2 rfl rfl) (fc (oL (kd:=.u32) (a:=(aW (x))) (b:=((s.c.q:Nat):Int)) (g_ rfl) (g_ rfl) rfl) (fc (oL (kd:=.i64) (a:=((s.ls.length:Nat):Int)) (b:=((s.c.q-s.a1 x:Nat):Int)) (g_ rfl) (g_ rfl) rfl) fn)))) (fc (pc rfl (λw hb=>cM s.c s.p s.hp w)) (fc (cc rfl [aN s.bm s.m.tick] [0] [1] (λw F ho hn hF=>dk hn hxa (fK hxa (by omega)))) (fc (pc (args:=[uz x]) rfl (λw hb=>ag (cG _ hxu w))) fn))) rfl [(4,s.bp)] GN [(4,[sy 16,sy 1,sy 17,sy 18,sy 19,sy 20,sy 21,iz 2,sy 26,.int .u32 0,sy 15,sy 0],203)] 1 rfl rfl GT (.bool false))
theorem SV(s:LP)(hk:s.k<s.n)(hn:s.n<=s.ls.length)(el:Int)(he:s.ls[s.k]? = some el)(hel:0<=el/\el<=9223372036854775807)(ha:s.c.slot s.p (IntKind.u32.wrap (cI s.w+((s.k:Nat):Int)))<s.m.cells.length)(h1:¬ ((s.ls.length:Nat):Int)=0)(h2:((s.k+1:Nat):Int)=((s.n:Nat):Int)):cw prog 170 [] 0 117 ⟨s.W0,s.F0⟩ (uB s) (GZ s) (λκ:am=>(.bool false)) (λκ:am=>[aE s.bp [iN s.c.n,iN s.c.q,iz s.c.g,iz s.c.m,iz s.c.t,iz s.c.s,iN s.p,iz 3,uz s.w,wN (s.k+1),wN s.n,s.lf] 203,(AU s el),jr s]):=by have q0:=s.c.z s.hp;have q6:=s.hl;have q7:=s.hkb;have q9:=s.hls;have q8:=hk;obtain⟨i,i1,i2,i3,i4⟩:=b_;exact(eP (c:=⟨s.W0,s.F0⟩) 4 (kn [s.lf,dc (s.lf) ((s.k)*1),iN (s.c.q),iN (s.c.q / 2),wN (s.c.q / 2),wN (s.c.q),wN (s.k),iN (s.k),wN (s.k+1),wN (s.n),wz (cI (s.w)),wz (IntKind.u32.wrap (cI s.w+((s.k:Nat):Int))),iz (el),uz (el),iN (s.c.n),iz (s.c.g),iz (s.c.m),iz (s.c.t),iz (s.c.s),iN (s.p),uz (s.w),pz s.bm,iN (s.ls.length),iN (s.c.slot s.p (IntKind.u32.wrap (cI s.w+((s.k:Nat):Int))))] (fc s.qp (fc (aJ _ _) fr)) [(.eql,sy 22,iz 0,.bool false),(.add,sy 10,sy 6,sy 11),(.add,sy 6,.int .u32 1,sy 8),(.eql,sy 8,sy 9,.bool true)] [] [(.i64,sy 6,sy 7),(.u32,sy 7,sy 6),(.u64,sy 12,sy 13)] (fc (λ_ _ _=>cZ (by have qa:=hn;first|(simpa using h1)|(simp;omega))) (fc (λ_ _ _=>aQ rfl) (fc (λ_ _ _=>aQ (by rw[cy];omega)) (fc (λ_ _ _=>cZ (by have qa:=hn;first|(simpa using h2)|(simp;omega))) fn)))) fn (fc (cF rfl rfl (by exact bx (by omega) (by omega))) (fc (cF rfl rfl (by rw[cy];omega)) (fc (cF rfl rfl (Gr (by omega) (by omega))) fn))) s.W0 s.F0 [uA s,(GY s el)] [⟨[10,35],[sy 0],none,0,none,sy 22,none⟩,⟨[3,35],[sy 0,sy 6],none,0,none,sy 1,none⟩,⟨[1,3],[sy 1],none,0,none,sy 12,none⟩] [⟨74,[sy 20],0,none,sy 10,none⟩,⟨43,[.agg #[sy 14,sy 2,sy 15,sy 16,sy 17,sy 18],sy 19,sy 11],0,none,sy 23,none⟩,⟨147,[sy 21,sy 23,sy 13],0,none,.tuple #[],some 1⟩]) (fc (by exact bC (ci:=2) rfl rfl underlying35 i2 rfl rfl) (fc (by have qa:=hn;exact aY (ci:=2) (j:=(s.k)) rfl rfl underlying35 i1 i2 rfl rfl (by omega) rfl) (fc (by have qa:=hn;exact bF (ci:=2) (m:=(s.k)*1) (x:=(iz el)) rfl rfl bG (by rw[Nat.mul_one];simp[aX,he]) (by simp;omega) rfl (λι=>(vk (by kernel_rfl) (by kernel_rfl)))) fn))) (fc (pc (args:=[uz s.w]) rfl (λw hb=>ag (l9 _ s.hw w))) (fc (pc (args:=[LC s,iN s.p,(wz (IntKind.u32.wrap (cI s.w+((s.k:Nat):Int))))]) rfl (λw hb=>iO s.c s.p s.hp (IntKind.u32.wrap (cI s.w+((s.k:Nat):Int))) (by first | exact(bM _).1 | exact lh _) w)) (fc (cc rfl [aN s.bm (s.m.put (s.c.slot s.p (IntKind.u32.wrap (cI s.w+((s.k:Nat):Int)))) (el))] [0] [1] (λw F ho hn hF=>nO hn ha (by have qa:=hn;omega) (el))) fn))) rfl [(4,s.bp)] GX [(4,[sy 14,sy 2,sy 15,sy 16,sy 17,sy 18,sy 19,iz 3,sy 20,sy 8,sy 9,sy 0],203)] 1 rfl rfl [(0,.pointer (some ⟨4,0,none⟩)),(1,sy 21)] (.bool false))
theorem SW(s:LP)(hk:s.k<s.n)(hn:s.n<=s.ls.length)(el:Int)(he:s.ls[s.k]? = some el)(hel:0<=el/\el<=9223372036854775807)(ha:s.c.slot s.p (IntKind.u32.wrap (cI s.w+((s.k:Nat):Int)))<s.m.cells.length)(h1:¬ ((s.ls.length:Nat):Int)=0)(h2:¬ ((s.k+1:Nat):Int)=((s.n:Nat):Int)):cw prog 170 [] 0 117 ⟨s.W0,s.F0⟩ (uB s) (GZ s) (λκ:am=>(.bool false)) (λκ:am=>[aE s.bp [iN s.c.n,iN s.c.q,iz s.c.g,iz s.c.m,iz s.c.t,iz s.c.s,iN s.p,iz 2,uz s.w,wN (s.k+1),wN s.n,s.lf] 203,(AU s el),jr s]):=by have q0:=s.c.z s.hp;have q6:=s.hl;have q7:=s.hkb;have q9:=s.hls;have q8:=hk;obtain⟨i,i1,i2,i3,i4⟩:=b_;exact(eP (c:=⟨s.W0,s.F0⟩) 4 (kn [s.lf,dc (s.lf) ((s.k)*1),iN (s.c.q),iN (s.c.q / 2),wN (s.c.q / 2),wN (s.c.q),wN (s.k),iN (s.k),wN (s.k+1),wN (s.n),wz (cI (s.w)),wz (IntKind.u32.wrap (cI s.w+((s.k:Nat):Int))),iz (el),uz (el),iN (s.c.n),iz (s.c.g),iz (s.c.m),iz (s.c.t),iz (s.c.s),iN (s.p),uz (s.w),pz s.bm,iN (s.ls.length),iN (s.c.slot s.p (IntKind.u32.wrap (cI s.w+((s.k:Nat):Int))))] (fc s.qp (fc (aJ _ _) fr)) [(.eql,sy 22,iz 0,.bool false),(.add,sy 10,sy 6,sy 11),(.add,sy 6,.int .u32 1,sy 8),(.eql,sy 8,sy 9,.bool false)] [] [(.i64,sy 6,sy 7),(.u32,sy 7,sy 6),(.u64,sy 12,sy 13)] (fc (λ_ _ _=>cZ (by have qa:=hn;first|(simpa using h1)|(simp;omega))) (fc (λ_ _ _=>aQ rfl) (fc (λ_ _ _=>aQ (by rw[cy];omega)) (fc (λ_ _ _=>cZ (by have qa:=hn;first|(simpa using h2)|(simp;omega))) fn)))) fn (fc (cF rfl rfl (by exact bx (by omega) (by omega))) (fc (cF rfl rfl (by rw[cy];omega)) (fc (cF rfl rfl (Gr (by omega) (by omega))) fn))) s.W0 s.F0 [uA s,(GY s el)] [⟨[10,35],[sy 0],none,0,none,sy 22,none⟩,⟨[3,35],[sy 0,sy 6],none,0,none,sy 1,none⟩,⟨[1,3],[sy 1],none,0,none,sy 12,none⟩] [⟨74,[sy 20],0,none,sy 10,none⟩,⟨43,[.agg #[sy 14,sy 2,sy 15,sy 16,sy 17,sy 18],sy 19,sy 11],0,none,sy 23,none⟩,⟨147,[sy 21,sy 23,sy 13],0,none,.tuple #[],some 1⟩]) (fc (by exact bC (ci:=2) rfl rfl underlying35 i2 rfl rfl) (fc (by have qa:=hn;exact aY (ci:=2) (j:=(s.k)) rfl rfl underlying35 i1 i2 rfl rfl (by omega) rfl) (fc (by have qa:=hn;exact bF (ci:=2) (m:=(s.k)*1) (x:=(iz el)) rfl rfl bG (by rw[Nat.mul_one];simp[aX,he]) (by simp;omega) rfl (λι=>(vk (by kernel_rfl) (by kernel_rfl)))) fn))) (fc (pc (args:=[uz s.w]) rfl (λw hb=>ag (l9 _ s.hw w))) (fc (pc (args:=[LC s,iN s.p,(wz (IntKind.u32.wrap (cI s.w+((s.k:Nat):Int))))]) rfl (λw hb=>iO s.c s.p s.hp (IntKind.u32.wrap (cI s.w+((s.k:Nat):Int))) (by first | exact(bM _).1 | exact lh _) w)) (fc (cc rfl [aN s.bm (s.m.put (s.c.slot s.p (IntKind.u32.wrap (cI s.w+((s.k:Nat):Int)))) (el))] [0] [1] (λw F ho hn hF=>nO hn ha (by have qa:=hn;omega) (el))) fn))) rfl [(4,s.bp)] GX [(4,[sy 14,sy 2,sy 15,sy 16,sy 17,sy 18,sy 19,iz 2,sy 20,sy 8,sy 9,sy 0],203)] 1 rfl rfl [(0,.pointer (some ⟨4,0,none⟩)),(1,sy 21)] (.bool false))
theorem SX(s:LP)(x:Int)(hxu:fv x)(hxa:s.m.cells[s.c.word s.p]? = some x)(hc:x≠s.w)(h1:¬ ((s.ls.length:Nat):Int)=0):cw prog 170 [] 0 117 ⟨s.W0,s.F0⟩ (uB s) (G0 s) (λκ:am=>(.bool false)) (λκ:am=>[LD s,aN s.bm s.m.tick,jr s]):=by have q0:=s.c.z s.hp;have q6:=s.hl;have q7:=s.hkb;have q9:=s.hls;exact(eP (c:=⟨s.W0,s.F0⟩) 4 (kn [s.lf,iN (s.c.q),iN (s.c.q / 2),wN (s.c.q / 2),wN (s.c.q),wN (s.k),iN (s.k),wN (s.k+1),wN (s.n),wz (cI (s.w)),wz (IntKind.u32.wrap (cI s.w+((s.k:Nat):Int))),wz (min (aW (x)) ((s.c.q:Nat):Int)),iN (s.a1 x),iN (s.c.q-s.a1 x),iz (min ((s.ls.length:Nat):Int) ((s.c.q-s.a1 x:Nat):Int)),wN (s.rm x),iN (s.c.n),iz (s.c.g),iz (s.c.m),iz (s.c.t),iz (s.c.s),iN (s.p),uz (s.w),pz s.bm,iN (s.ls.length),uz (dQ s.w ((s.n:Nat):Int)),iN (s.c.word s.p)] (fc s.qp fr) [(.eql,sy 24,iz 0,.bool false)] [] [] (fc (λ_ _ _=>cZ (by first|(simpa using h1)|(simp;omega))) fn) fn fn s.W0 s.F0 [uA s,GU s] [⟨[10,35],[sy 0],none,0,none,sy 24,none⟩] [⟨113,[sy 22,sy 8],0,none,sy 25,none⟩,⟨40,[.agg #[sy 16,sy 1,sy 17,sy 18,sy 19,sy 20],sy 21],0,none,sy 26,none⟩,⟨154,[sy 23,sy 26,sy 22,sy 25],0,none,.bool false,some 1⟩]) (fc (by obtain⟨i,i1,i2,i3,i4⟩:=b_;exact bC (ci:=2) rfl rfl underlying35 i2 rfl rfl) fn) (fc (pc (args:=[uz s.w,wN s.n]) rfl (λw hb=>ag (uv _ ((s.n:Nat):Int) s.hw w))) (fc (pc rfl (λw hb=>cM s.c s.p s.hp w)) (fc (cc rfl [aN s.bm s.m.tick] [0] [1] (λw F ho hn hF=>oO hn hxa (by omega) s.w (dQ s.w ((s.n:Nat):Int)) hc)) fn))) rfl [(4,s.bp)] [(4,[sy 16,sy 1,sy 17,sy 18,sy 19,sy 20,sy 21,iz 3,sy 22,sy 5,sy 8,sy 0],203)] GN 1 rfl rfl GT (.bool false))
theorem SY(s:LP)(x:Int)(hxu:fv x)(hxa:s.m.cells[s.c.word s.p]? = some x)(hc:x=s.w)(hn:s.n<=s.ls.length)(h1:¬ ((s.ls.length:Nat):Int)=0):cw prog 170 [] 0 117 ⟨s.W0,s.F0⟩ (uB s) (G0 s) (λκ:am=>(.bool true)) (λκ:am=>[aE s.bp [iN s.c.n,iN s.c.q,iz s.c.g,iz s.c.m,iz s.c.t,iz s.c.s,iN s.p,iz 0,uz s.w,wN s.k,wN s.n,(Ev.cutV 1 (s.lf) (s.n) (s.ls.length))] 203,aN s.bm (s.m.put (s.c.word s.p) (dQ s.w ((s.n:Nat):Int))),jr s]):=by have q0:=s.c.z s.hp;have q6:=s.hl;have q7:=s.hkb;have q9:=s.hls;obtain⟨i,i1,i2,i3,i4⟩:=b_;exact(eP (c:=⟨s.W0,s.F0⟩) 4 (kn [s.lf,Ev.cutV 1 (s.lf) (s.n) (s.ls.length),iN (s.c.q),iN (s.c.q / 2),wN (s.c.q / 2),wN (s.c.q),wN (s.k),iN (s.k),wN (s.k+1),wN (s.n),wz (cI (s.w)),wz (IntKind.u32.wrap (cI s.w+((s.k:Nat):Int))),wz (min (aW (x)) ((s.c.q:Nat):Int)),iN (s.a1 x),iN (s.c.q-s.a1 x),iz (min ((s.ls.length:Nat):Int) ((s.c.q-s.a1 x:Nat):Int)),wN (s.rm x),iN (s.c.n),iz (s.c.g),iz (s.c.m),iz (s.c.t),iz (s.c.s),iN (s.p),uz (s.w),pz s.bm,iN (s.ls.length),uz (dQ s.w ((s.n:Nat):Int)),iN (s.c.word s.p)] (fc s.qp (fc (by first | assumption | exact s.qp | exact gJ s.qp) fr)) [(.eql,sy 25,iz 0,.bool false)] [] [] (fc (λ_ _ _=>cZ (by have qa:=hn;first|(simpa using h1)|(simp;omega))) fn) fn fn s.W0 s.F0 [uA s,[aN s.bm (s.m.put (s.c.word s.p) (dQ s.w ((s.n:Nat):Int))),jr s]] [⟨[10,35],[sy 0],none,0,none,sy 25,none⟩,⟨[4,35,1,0,0],[sy 0,sy 9],none,1,none,sy 1,none⟩] [⟨113,[sy 23,sy 9],0,none,sy 26,none⟩,⟨40,[.agg #[sy 17,sy 2,sy 18,sy 19,sy 20,sy 21],sy 22],0,none,sy 27,none⟩,⟨154,[sy 24,sy 27,sy 23,sy 26],0,none,.bool true,some 1⟩]) (fc (by exact bC (ci:=2) rfl rfl underlying35 i2 rfl rfl) (fc (by have qa:=hn;exact OL (ci:=2) (lo:=(s.n)) rfl rfl underlying35 i1 i2 rfl rfl (by omega) rfl) fn)) (fc (pc (args:=[uz s.w,wN s.n]) rfl (λw hb=>ag (uv _ ((s.n:Nat):Int) s.hw w))) (fc (pc rfl (λw hb=>cM s.c s.p s.hp w)) (fc (cc rfl [aN s.bm (s.m.put (s.c.word s.p) (dQ s.w ((s.n:Nat):Int)))] [0] [1] (λw F ho hn hF=>kg hn hxa (by have qa:=hn;omega) s.w (dQ s.w ((s.n:Nat):Int)) hc)) fn))) rfl [(4,s.bp)] [(4,[sy 17,sy 2,sy 18,sy 19,sy 20,sy 21,sy 22,iz 3,sy 23,sy 6,sy 9,sy 0],203)] [(4,[sy 17,sy 2,sy 18,sy 19,sy 20,sy 21,sy 22,iz 0,sy 23,sy 6,sy 9,sy 1],203)] 1 rfl rfl [(0,.pointer (some ⟨4,0,none⟩)),(1,sy 24)] (.bool true))
theorem SZ(s:LP)(st:Nat):cw prog 118 [] 0 10 ⟨s.W0,s.F0⟩ [(0,pz s.bp)] [(G6 s st),jr s] (λκ:am=>(dv κ 403)) (λκ:am=>[(G6 s st),bT 3 1 (dv κ 403) s.ls.length (aX s.ls),bT 3 1 (s.lf) (s.ls.length) (aX s.ls)]):=(eP (c:=⟨s.W0,s.F0⟩) 5 (kn [s.lf,iN (s.c.n),iN (s.c.q),iz (s.c.g),iz (s.c.m),iz (s.c.t),iz (s.c.s),iN (s.p),iN (st),uz (s.w),wN (s.k),wN (s.n)] (fc s.qp fr) [] [] [] fn fn fn s.W0 s.F0 [[jr s],[jS 403 (λv=>bT 3 1 v s.ls.length (aX s.ls)),jS 403 (λv=>bT 3 1 (s.lf) (s.ls.length) (aX s.ls))]] [] [⟨97,[sy 0],0,some 403,.complex .f32 403 0,some 1⟩]) fn (fc (cd rfl [λv=>bT 3 1 v s.ls.length (aX s.ls),λv=>bT 3 1 (s.lf) (s.ls.length) (aX s.ls)] [0] [] (λw F ho hn hF=>pU s.QW hJ hn)) fn) rfl [(4,s.bp)] G5 G5 1 rfl rfl [(0,.pointer (some ⟨4,0,none⟩))] (.complex .f32 403 0)).conv (λκ w=>⟨(λ_ h=>h),(λ_ h=>fJ (a:=λv=>bT 3 1 v s.ls.length (aX s.ls)) (λ_ _ _ _ _ h=>h) h),(λ_ h=>fJ (a:=λv=>bT 3 1 (s.lf) (s.ls.length) (aX s.ls)) (λ_ _ _ _ _ h=>h) h),trivial⟩)
end Go.Proofs.YtkmccgombmogmaaGreat
