/- Part of a proof: see the last text. -/
import Derived.Test.YtkmccgombmogmaaGreatZe17
import Derived.WalkKit
import Derived.WalkSpells
import Derived.OwnWalkIn
import Derived.TacticsInMore
import Derived.LoopNIn
import Derived.LoopIn
import Derived.Test.YtkmccgombmogmaaGreatZe16
import Derived.Test.YtkmccgombmogmaaGreatZe15
set_option linter.unusedSimpArgs false
set_option linter.unusedVariables false
namespace Go.Proofs.YtkmccgombmogmaaGreat
open Go.Ev Go.Proofs.Tryz
open Go.RowKit
open Go.Ev (sy)
set_option maxRecDepth 8000
structure hY where
 st:Nat
 w:Int
 sn:Int
 has:Bool
def aC(c:aP)(p:Nat)(x:hY)(m:bw):hY×bw :=
 match x.st with
 | 1=>let v:=ld m (c.word p);if aO v=0\/(c.q:Int)<aO v then (⟨0,v,x.sn,x.has⟩,m.tick) else (⟨2,v,x.sn,x.has⟩,m.tick)
 | 2=>(⟨3,x.w,IntKind.i64.wrap (ld m (c.slot p (aj x.w))),x.has⟩,m.tick)
 | 3=>if ld m (c.word p)=x.w then (⟨0,x.w,x.sn,true⟩,m.put (c.word p) (fq x.w 1)) else (⟨1,x.w,x.sn,x.has⟩,m.tick)
 | _=>(x,m)
structure ud(x:hY):Prop where
 st:x.st<4
 w:fg x.w
 has:x.st≠0->x.has=false
theorem rN{c:aP}{p:Nat}{x:hY}{m:bw}(hp:p<c.n)(hx:ud x)(hm:bT c m):ud (aC c p x m).1/\bT c (aC c p x m).2:=by
 obtain⟨st,w,sn,has⟩:=x;obtain⟨h1,h2,h3⟩:=hx;have hw:=hm.get (hm.fl hp)
 match st,h1,h3 with
 | 0,_,h3=>exact⟨⟨by simp[aC],h2,h3⟩,hm⟩
 | 1,_,h3 =>
  simp only[aC]
  split
  ·exact⟨⟨by simp,hw.2,λh=>absurd rfl h⟩,hm.tick⟩
  ·exact⟨⟨by simp,hw.2,λ_=>h3 (by simp)⟩,hm.tick⟩
 | 2,_,h3=>exact⟨⟨by simp[aC],h2,λ_=>h3 (by simp)⟩,hm.tick⟩
 | 3,_,h3 =>
  simp only[aC]
  split
  ·exact⟨⟨by simp,h2,λh=>absurd rfl h⟩,hm.put _ (yA h2 1)⟩
  ·exact⟨⟨by simp,h2,λ_=>h3 (by simp)⟩,hm.tick⟩
def L7(c:aP)(p bp:Nat)(x:hY)(tr:Int):aG:=aH bp [.int .i64 (c.n:Int),.int .i64 (c.q:Int),.int .i64 c.g,.int .i64 c.m,.int .i64 c.t,.int .i64 c.s,.int .i64 (p:Int),.int .i64 (x.st:Int),.int .u64 x.w,.int .i64 x.sn,.bool x.has,.int .i64 tr] 150
def je(c:aP)(p bp:Nat)(x:hY):aG:=C2 (λ_:Int=>True) (λtr=>L7 c p bp x tr)
section
variable{w:World}{F:Nat->Prop}{c:aP}{p:Nat}
theorem yC{bp:Nat}{x:hY}{ctx:dc}{l:List aG}(h:af ctx (je c p bp x::l) w):∃ tr,af ctx (L7 c p bp x tr::l) w:=by
 obtain⟨tr,_,hh⟩:=h.qh;exact⟨tr,hh⟩
theorem eY{bp:Nat}{x:hY}{tr:Int}{ctx:dc}{l:List aG}(h:af ctx (L7 c p bp x tr::l) w):af ctx (je c p bp x::l) w :=
 af.rJ tr trivial h
theorem GI(hp:p<c.n){x:hY}(hx:ud x)(h0:x.st≠0){m:bw}(hm:bT c m){bp bm:Nat}(h:cG [je c p bp x,aK bm m] F w) :
  Calls prog 161 #[.pointer (some ⟨bp,0,none⟩),.pointer (some ⟨bm,0,none⟩)] w λe w'=>e=.returned (.bool (decide ((aC c p x m).1.st=0)))/\af ⟨w,F⟩ [je c p bp (aC c p x m).1,aK bm (aC c p x m).2] w':=by
 obtain⟨tr,hh⟩:=yC (af.start h);obtain⟨F',n1,n2,n3⟩:=hh.ex;have hw:=hm.get (hm.fl hp);obtain⟨st,ww,sn,has⟩:=x;obtain rfl:has=false:=hx.has h0
 let s:GP:=⟨w,F',c,p,hp,ww,hx.w,sn,tr,bp,bm,m,hm.len⟩
 have into:∀ {l:List aG} {w1:World},af ⟨w,F'⟩ l w1->af ⟨w,F⟩ l w1:=λhh=>hh.into (l:=[]) n2 n3
 match st,hx.st with
 | 0,_=>exact absurd rfl h0
 | 1,_ =>
  by_cases hz:aO (ld m (c.word p))=0
  ·rw[show aC c p ⟨1,ww,sn,false⟩ m=(⟨0,ld m (c.word p),sn,false⟩,m.tick) by simp only[aC,if_pos (Or.inl hz)]]
   exact a_ (RO s _ hw.2 hw.1 hz) (by kernel_rfl) n1 (by simp) (by simp[s]) (λκ w1 h1=>⟨rfl,eY (into h1)⟩)
  ·by_cases hq:(c.q:Int)<aO (ld m (c.word p))
   ·rw[show aC c p ⟨1,ww,sn,false⟩ m=(⟨0,ld m (c.word p),sn,false⟩,m.tick) by simp only[aC,if_pos (Or.inr hq)]]
    exact a_ (RP s _ hw.2 hw.1 hz hq) (by kernel_rfl) n1 (by simp) (by simp[s]) (λκ w1 h1=>⟨rfl,eY (into h1)⟩)
   ·rw[show aC c p ⟨1,ww,sn,false⟩ m=(⟨2,ld m (c.word p),sn,false⟩,m.tick) by simp only[aC,if_neg (not_or.2 ⟨hz,hq⟩)]]
    exact a_ (RQ s _ hw.2 hw.1 hz hq) (by kernel_rfl) n1 (by simp) (by simp[s]) (λκ w1 h1=>⟨rfl,eY (into h1)⟩)
 | 2,_ =>
  have hsl:=hm.get (hm.iB hp (aj ww));exact a_ (RR s _ hsl.2 hsl.1) (by kernel_rfl) n1 (by simp) (by simp[s]) (λκ w1 h1=>⟨rfl,eY (into h1)⟩)
 | 3,_ =>
  by_cases hc:ld m (c.word p)=ww
  ·rw[show aC c p ⟨3,ww,sn,false⟩ m=(⟨0,ww,sn,true⟩,m.put (c.word p) (fq ww 1)) by simp only[aC,if_pos hc]]
   exact a_ (RT s _ hw.2 hw.1 hc) (by kernel_rfl) n1 (by simp) (by simp[s]) (λκ w1 h1=>⟨rfl,eY (into h1)⟩)
  ·rw[show aC c p ⟨3,ww,sn,false⟩ m=(⟨1,ww,sn,false⟩,m.tick) by simp only[aC,if_neg hc]]
   exact a_ (RS s _ hw.2 hw.1 hc) (by kernel_rfl) n1 (by simp) (by simp[s]) (λκ w1 h1=>⟨rfl,eY (into h1)⟩)
def jb:hY:=⟨1,0,0,false⟩
def L8(c:aP)(p:Nat)(x:hY)(v:Value):aG where
 p:=λι F w=>∃ bp,v=.pointer (some ⟨bp,0,none⟩)/\(je c p bp x).p ι F w
 keep:=λι F w w' hk ⟨bp,e,h⟩=>⟨bp,e,(je c p bp x).keep ι F w w' hk h⟩
 mono:=λι κ F w hle ⟨bp,e,h⟩=>⟨bp,e,(je c p bp x).mono ι κ F w hle h⟩
theorem Db{x:hY}{v:Value}{ctx:dc}{l:List aG}(h:af ctx (L8 c p x v::l) w):∃ bp,v=.pointer (some ⟨bp,0,none⟩)/\af ctx (je c p bp x::l) w :=
 h.yi (b:=λbp=>je c p bp x) (p:=λbp=>v=.pointer (some ⟨bp,0,none⟩)) (λF ⟨bp,e,h⟩=>⟨bp,e,h⟩)
theorem Dc{bp:Nat}{x:hY}{ctx:dc}{l:List aG}(h:af ctx (je c p bp x::l) w):af ctx (L8 c p x (.pointer (some ⟨bp,0,none⟩))::l) w :=
 h.head (λF h=>⟨bp,rfl,h⟩)
theorem Jh(hp:p<c.n)(h:cG [] F w) :
  Calls prog 34 #[c.v,.int .i64 (p:Int)] w λe w'=>∃ v,e=.returned v/\af ⟨w,F⟩ [L8 c p jb v] w' :=
 a_ (RU w F c p hp) (by kernel_rfl) h (by simp) (by simp) (λκ w1 h1=>⟨_,rfl,Dc (eY (tr:=0) h1)⟩)
theorem BK(hp:p<c.n){x:hY}{bp:Nat}(h:cG [je c p bp x] F w) :
  Calls prog 68 #[.pointer (some ⟨bp,0,none⟩)] w λe w'=>e=.returned (.tuple #[.int .i64 (if x.has then x.sn else 0),.bool x.has])/\af ⟨w,F⟩ [je c p bp x] w':=by
 obtain⟨tr,hh⟩:=yC (af.start h);obtain⟨F',n1,n2,n3⟩:=hh.ex;obtain⟨st,ww,sn,has⟩:=x;have into:∀ {l:List aG} {w1:World},af ⟨w,F'⟩ l w1->af ⟨w,F⟩ l w1:=λhh=>hh.into (l:=[]) n2 n3
 cases has
 ·exact a_ (RV w F' c p hp bp st ww sn tr) (by kernel_rfl) n1 (by simp) (by simp) (λκ w1 h1=>⟨rfl,eY (into h1)⟩)
 ·exact a_ (RW w F' c p hp bp st ww sn tr) (by kernel_rfl) n1 (by simp) (by simp) (λκ w1 h1=>⟨rfl,eY (into h1)⟩)
end
structure fJ where
 st:Nat
 w:Int
 k:Nat
 n:Nat
 ls:List Int
def jU(c:aP)(l:List Int)(v:Int):Nat:=min l.length (c.q-min (aO v).toNat c.q)
def av(c:aP)(p:Nat)(x:fJ)(m:bw):fJ×bw :=
 match x.st with
 | 0=>(x,m)
 | 1=>(⟨if jU c x.ls (ld m (c.word p))=0 then 0 else 2,ld m (c.word p),0,jU c x.ls (ld m (c.word p)),x.ls⟩,m.tick)
 | 2=>(⟨if x.k+1=x.n then 3 else 2,x.w,x.k+1,x.n,x.ls⟩,m.put (c.slot p ((cy x.w+(x.k:Int))%4294967296)) (x.ls.getD x.k 0))
 | _=>if ld m (c.word p)=x.w then (⟨0,x.w,x.k,x.n,x.ls.drop x.n⟩,m.put (c.word p) (dF x.w (x.n:Int))) else (⟨1,x.w,x.k,x.n,x.ls⟩,m.tick)
abbrev Gn(g:Int):Prop:=0<=g/\g<=9223372036854775807
structure jV(x:fJ):Prop where
 st:x.st<4
 w:fg x.w
 b:x.k<=64/\x.n<=64
 ls:x.ls.length<=64
 ne:x.st≠0->x.ls≠[]
 two:x.st=2->x.k<x.n
 le:x.st=2\/x.st=3->x.n<=x.ls.length
 gs:∀ g ∈ x.ls,Gn g
theorem jV.el{x:fJ}(h:jV x)(h2:x.st=2):x.ls[x.k]? = some (x.ls.getD x.k 0)/\Gn (x.ls.getD x.k 0):=by
 have h3:=h.two h2;have h4:=h.le (.inl h2);have h5:x.k<x.ls.length:=by omega
 have e:x.ls.getD x.k 0=x.ls[x.k]:=by rw[List.getD_eq_getElem?_getD,List.getElem?_eq_getElem h5];rfl
 rw[e];exact⟨List.getElem?_eq_getElem h5,h.gs _ (List.getElem_mem h5)⟩
theorem NI{g:Int}(h:Gn g):fg g:=⟨h.1,by have:=h.2;omega⟩
theorem yD(c:aP)(l:List Int)(v:Int):jU c l v<=l.length:=Nat.min_le_left _ _
theorem rO{c:aP}{p:Nat}{x:fJ}{m:bw}(hp:p<c.n)(hx:jV x)(hm:bT c m):jV (av c p x m).1/\bT c (av c p x m).2:=by
 have hel:=hx.el;obtain⟨st,w,k,n,ls⟩:=x;obtain⟨h1,h2,h3,h4,h5,h6,h7,h8⟩:=hx;dsimp only at h1 h2 h3 h4 h5 h6 h7 h8 hel;have hw:=hm.get (hm.fl hp)
 match st,h1 with
 | 0,_ =>
  have q:jV ⟨0,w,k,n,ls⟩:=⟨by simp,h2,h3,h4,h5,h6,h7,h8⟩;exact⟨q,hm⟩
 | 1,_ =>
  have hr:=yD c ls (ld m (c.word p));refine⟨⟨?_,hw.2,⟨Nat.zero_le _,?_⟩,h4,λ_=>h5 (by simp),?_,?_,h8⟩,hm.tick⟩
  ·simp only[av];split<;>omega
  ·simp only[av];omega
  ·intro e
   simp only[av]at e ⊢
   split at e
   ·cases e
   ·omega
  ·intro _
   simp only[av];exact hr
 | 2,_ =>
  have k1:=h6 rfl;have k2:=h7 (.inl rfl);refine⟨⟨?_,h2,?_,h4,λ_=>h5 (by simp),?_,λ_=>k2,h8⟩,hm.put _ (NI (hel rfl).2)⟩
  ·simp only[av];split<;>omega
  ·simp only[av];omega
  ·intro e
   simp only[av]at e ⊢
   split at e
   ·cases e
   ·omega
 | 3,_ =>
  simp only[av]
  split
  ·exact⟨⟨by simp,h2,h3,by rw[List.length_drop];omega,λh=>absurd rfl h,λh=>(by cases h),λh=>(by rcases h with h | h<;>cases h),λg hg=>h8 g (List.mem_of_mem_drop hg)⟩,hm.put _ (pY h2 _)⟩
  ·exact⟨⟨by simp,h2,h3,h4,λ_=>h5 (by simp),λh=>(by cases h),λh=>(by rcases h with h | h<;>cases h),h8⟩,hm.tick⟩
def L9(c:aP)(p bp:Nat)(x:fJ)(lf:Value):aG:=aH bp [.int .i64 (c.n:Int),.int .i64 (c.q:Int),.int .i64 c.g,.int .i64 c.m,.int .i64 c.t,.int .i64 c.s,.int .i64 (p:Int),.int .i64 (x.st:Int),.int .u64 x.w,.int .u32 (x.k:Int),.int .u32 (x.n:Int),lf] 203
def d7(c:aP)(p bp:Nat)(x:fJ):aG:=C2 (λlf:Value=>aV lf=true) (λlf=>FF [L9 c p bp x lf,cf lf x.ls])
section
variable{w:World}{F:Nat->Prop}{c:aP}{p:Nat}
theorem yE{bp:Nat}{x:fJ}{ctx:dc}{l:List aG}(h:af ctx (d7 c p bp x::l) w):∃ lf,aV lf=true/\af ctx (L9 c p bp x lf::cf lf x.ls::l) w:=by
 obtain⟨lf,pZ,hh⟩:=h.qh;exact⟨lf,pZ,hh.open⟩
theorem fG{bp:Nat}{x:fJ}{lf:Value}{ctx:dc}{l:List aG}(pZ:aV lf=true)(h:af ctx (L9 c p bp x lf::cf lf x.ls::l) w):af ctx (d7 c p bp x::l) w :=
 af.rJ lf pZ (af.shut h)
theorem ue(l:List Int)(n:Nat):(bu l).drop n=bu (l.drop n):=by simp[bu]
theorem GJ(hp:p<c.n){x:fJ}(hx:jV x)(h0:x.st≠0){m:bw}(hm:bT c m){bp bm:Nat}(h:cG [d7 c p bp x,aK bm m] F w) :
  Calls prog 170 #[.pointer (some ⟨bp,0,none⟩),.pointer (some ⟨bm,0,none⟩)] w λe w'=>e=.returned (.bool (decide ((av c p x m).1.st=0)))/\af ⟨w,F⟩ [d7 c p bp (av c p x m).1,aK bm (av c p x m).2] w':=by
 obtain⟨lf,pZ,hh⟩:=yE (af.start h);obtain⟨F',n1,n2,n3⟩:=(hh.sel [0,2,1]).ex;have hw:=hm.get (hm.fl hp);have hel:=hx.el;have hne:¬ ((x.ls.length:Nat):Int)=0:=by
  have:=hx.ne h0;intro e;exact this (List.eq_nil_of_length_eq_zero (by omega))
 have hle:=hx.le;obtain⟨st,ww,k,n,ls⟩:=x;dsimp only at hel hne hle
 let s:LP:=⟨w,F',c,p,hp,ww,hx.w,k,n,lf,pZ,ls,bp,bm,m,hm.len,hx.b,hx.ls⟩
 have into:∀ {l:List aG} {w1:World},af ⟨w,F'⟩ l w1->af ⟨w,F⟩ l w1:=λhh=>hh.into (l:=[]) n2 n3
 match st,hx.st with
 | 0,_=>exact absurd rfl h0
 | 1,_ =>
  by_cases hr:jU c ls (ld m (c.word p))=0
  ·rw[show av c p ⟨1,ww,k,n,ls⟩ m=(⟨0,ld m (c.word p),0,jU c ls (ld m (c.word p)),ls⟩,m.tick) by simp only[av,if_pos hr]]
   exact a_ (RH s _ hw.2 hw.1 hne (by show((jU c ls (ld m (c.word p)):Nat):Int)=0;omega)) (by kernel_rfl) n1 (by simp) (by simp[s]) (λκ w1 h1=>⟨rfl,fG pZ ((into h1).sel [0,2,1])⟩)
  ·rw[show av c p ⟨1,ww,k,n,ls⟩ m=(⟨2,ld m (c.word p),0,jU c ls (ld m (c.word p)),ls⟩,m.tick) by simp only[av,if_neg hr]]
   exact a_ (RI s _ hw.2 hw.1 hne (by show ¬ ((jU c ls (ld m (c.word p)):Nat):Int)=0;omega)) (by kernel_rfl) n1 (by simp) (by simp[s]) (λκ w1 h1=>⟨rfl,fG pZ ((into h1).sel [0,2,1])⟩)
 | 2,_ =>
  have k1:=hx.two rfl;have k2:=hle (.inl rfl);dsimp only at k1;obtain⟨e1,e2⟩:=hel rfl;have hwr:IntKind.u32.wrap (cy ww+((k:Nat):Int))=(cy ww+(k:Int))%4294967296:=b7 _;have ha:c.slot p (IntKind.u32.wrap (cy ww+((k:Nat):Int)))<m.cells.length:=hm.iB hp _
  by_cases hk:k+1=n
  ·rw[show av c p ⟨2,ww,k,n,ls⟩ m=(⟨3,ww,k+1,n,ls⟩,m.put (c.slot p ((cy ww+(k:Int))%4294967296)) (ls.getD k 0)) by simp only[av,if_pos hk]]
   rw[← hwr];exact a_ (RJ s k1 k2 _ e1 e2 ha hne (by show((k+1:Nat):Int)=((n:Nat):Int);omega)) (by kernel_rfl) n1 (by simp) (by simp[s]) (λκ w1 h1=>⟨rfl,fG pZ ((into h1).sel [0,2,1])⟩)
  ·rw[show av c p ⟨2,ww,k,n,ls⟩ m=(⟨2,ww,k+1,n,ls⟩,m.put (c.slot p ((cy ww+(k:Int))%4294967296)) (ls.getD k 0)) by simp only[av,if_neg hk]]
   rw[← hwr];exact a_ (RK s k1 k2 _ e1 e2 ha hne (by show ¬ ((k+1:Nat):Int)=((n:Nat):Int);omega)) (by kernel_rfl) n1 (by simp) (by simp[s]) (λκ w1 h1=>⟨rfl,fG pZ ((into h1).sel [0,2,1])⟩)
 | 3,_ =>
  have k2:=hle (.inr rfl)
  by_cases hc:ld m (c.word p)=ww
  ·rw[show av c p ⟨3,ww,k,n,ls⟩ m=(⟨0,ww,k,n,ls.drop n⟩,m.put (c.word p) (dF ww (n:Int))) by simp only[av,if_pos hc]]
   refine a_ (RM s _ hw.2 hw.1 hc k2 hne) (by kernel_rfl) n1 (by simp) (by simp[s]) (λκ w1 h1=>⟨rfl,?_⟩);have h2:=((into h1).sel [2,0,1]).yB (lo:=n) k2;have e1:bQ 3 1 (Ev.cutV 1 lf n ls.length) (ls.length-n) ((bu ls).drop (n*1))=cf (Ev.cutV 1 lf n ls.length) (ls.drop n):=by
    unfold cf;rw[Nat.mul_one,ue,List.length_drop]
   rw[e1]at h2;exact fG (gx pZ) (h2.sel [1,0,2])
  ·rw[show av c p ⟨3,ww,k,n,ls⟩ m=(⟨1,ww,k,n,ls⟩,m.tick) by simp only[av,if_neg hc]]
   exact a_ (RL s _ hw.2 hw.1 hc hne) (by kernel_rfl) n1 (by simp) (by simp[s]) (λκ w1 h1=>⟨rfl,fG pZ ((into h1).sel [0,2,1])⟩)
theorem uf(hp:p<c.n){x:fJ}(hxw:fg x.w)(hxb:x.k<=64/\x.n<=64)(hxl:x.ls.length<=64){m:bw}(hm:bT c m){bp:Nat}(h:cG [d7 c p bp x] F w) :
  Calls prog 118 #[.pointer (some ⟨bp,0,none⟩)] w λe w'=>∃ v,aV v=true/\e=.returned v/\af ⟨w,F⟩ [cf v x.ls,d7 c p bp x] w':=by
 obtain⟨lf,pZ,hh⟩:=yE (af.start h);obtain⟨F',n1,n2,n3⟩:=hh.ex;obtain⟨st,ww,k,n,ls⟩:=x
 let s:LP:=⟨w,F',c,p,hp,ww,hxw,k,n,lf,pZ,ls,bp,0,m,hm.len,hxb,hxl⟩
 have into:∀ {l:List aG} {w1:World},af ⟨w,F'⟩ l w1->af ⟨w,F⟩ l w1:=λhh=>hh.into (l:=[]) n2 n3
 refine a_ (RN s st) (by kernel_rfl) n1 (by simp) (by simp[s]) (λκ w1 h1=>?_);have h2:=(into h1).sel [1,0,2];have h3:af ⟨w,F⟩ [d7 c p bp ⟨st,ww,k,n,ls⟩,cf (Ev.dec ((κ 403).getD 0)) ls] w1:=fG pZ (h2.sel [1,2,0]);exact⟨_,dK h2,rfl,h3.sel [1,0]⟩
end
end Go.Proofs.YtkmccgombmogmaaGreat
namespace Go.Proofs.YtkmccgombmogmaaGreat
open Go.Ev Go.Proofs.Tryz
open Go.RowKit
set_option maxRecDepth 8000
theorem L_(m:Nat)(g:Int)(w:World):CallsIn Fence.wide m prog 176 #[.int .i64 g] w λe w'=>e=.returned (.bool (decide (g<0)))/\w'=w:=by
 refine callsIn_of_wp func176 rfl trivial ?_ rfl;simp only[ntmps176,List.size_toArray,List.length_cons,List.length_nil,Nat.reduceAdd,Nat.reduceSub,Array.replicate_succ,Array.replicate_zero,List.push_toArray,List.append_toArray,List.nil_append,List.cons_append]
 gi_wp2
 exact bodyPost_ret (results_tmp rfl _ _ _) rfl ⟨rfl,rfl⟩
abbrev PH(f:FuncId):Value:=.func (.func f) #[] #[]
set_option maxHeartbeats 1000000 in
theorem Ji(m:Nat)(v:Value)(l:List Int)(w:World)(hl:jd 1 v l.length (bu l) w)(hg:∀ g ∈ l,0<=g)(hn:l.length<=1000):CallsIn Fence.wide m prog 177 #[v,PH 176] w λe w'=>e=.returned (.int .i64 (-1))/\w'=w:=by
 refine callsIn_of_wp func177 rfl trivial ?_ rfl;simp only[ntmps177,List.size_toArray,List.length_cons,List.length_nil,Nat.reduceAdd,Nat.reduceSub,Array.replicate_succ,Array.replicate_zero,List.push_toArray,List.append_toArray,List.nil_append,List.cons_append];obtain⟨a0,c0,rfl⟩:∃ a c,v=.slice a l.length c:=by
  rcases hl.2 with ⟨e,a,c,rfl⟩ | ⟨b,off,c,rfl,_⟩
  ·exact⟨a,c,by rw[e]⟩
  ·exact⟨_,c,rfl⟩
 dsimp only[PH]
 gi_wp2
 gi_loopw [8] (λp wr=>∃ k:Nat,p=.int .i64 (k:Int)/\k<=l.length/\wr=w) (λp _=>l.length-(intOf p).toNat)
 case atStart=>exact⟨0,rfl,Nat.zero_le _,by first | rfl | trivial⟩
 case round =>
  obtain⟨k,rfl,hk,hW⟩:=hrel;replace hW:=hW.symm;subst hW
  by_cases hlt:k<l.length
  ·have v5:(k:Int)<(l.length:Int):=by omega
   rcases hl.2 with ⟨e,_⟩ | ⟨b,off,c,hv,_,hc⟩
   ·omega
   cases hv;have hck:w.cell? ⟨b,off+k,none⟩=some (.int .i64 l[k]):=by
    rw[hc k (by omega)];simp[bu,hlt]
   have OC:=hg _ (List.getElem_mem hlt);obtain⟨x,hx⟩:∃ x,l[k]=x:=⟨_,rfl⟩;rw[hx]at hck OC;clear hc
   gi_wp2
   refine⟨trivial,λh=>by simp[Fence.wide]at h,(L_ (m-1) x w).mono ?_⟩;rintro e w2 ⟨rfl,rfl⟩;have hd:decide (x<0)=false:=by simpa using OC
   rw[hd]
   gi_wp2
   exact⟨⟨k+1,rfl,by omega,by first | rfl | trivial⟩,by simp[intOf];omega⟩
  ·obtain rfl:k=l.length:=by omega
   have v5:¬ ((l.length:Nat):Int)<(l.length:Int):=by omega
   gi_wp2
   exact bodyPost_ret (results_tmp rfl _ _ _) rfl ⟨rfl,rfl⟩
theorem Jj(m:Nat)(v:Value)(l:List Int)(w:World)(hl:jd 1 v l.length (bu l) w)(hg:∀ g ∈ l,0<=g)(hn:l.length<=1000):CallsIn Fence.wide m prog 175 #[v,PH 176] w λe w'=>e=.returned v/\w'=w:=by
 refine callsIn_of_wp func175 rfl trivial ?_ rfl;simp only[ntmps175,List.size_toArray,List.length_cons,List.length_nil,Nat.reduceAdd,Nat.reduceSub,Array.replicate_succ,Array.replicate_zero,List.push_toArray,List.append_toArray,List.nil_append,List.cons_append]
 gi_wp2
 refine⟨trivial,λh=>by simp[Fence.wide]at h,(Ji (m-1) v l w hl hg hn).mono ?_⟩;rintro e w2 ⟨rfl,rfl⟩
 gi_wp2
 exact bodyPost_ret (results_tmp rfl _ _ _) rfl ⟨rfl,rfl⟩
theorem Jk{v:Value}{xs:List Int}{ctx:dc}{l:List aG}{w:World}(h:af ctx (cf v xs::l) w):∃ cd,Ev.dec cd=v:=by
 obtain⟨f,hf⟩:=h.first
 rcases hf.2 with ⟨he,_⟩ | ⟨b,off,c,arr,rfl,_⟩
 ·rcases he with rfl | ⟨b,off,rfl⟩
  ·exact⟨_,mW⟩
  ·exact⟨_,l3 _ _ _ _⟩
 ·exact⟨_,l3 _ _ _ _⟩
end Go.Proofs.YtkmccgombmogmaaGreat
namespace Go.Proofs.YtkmccgombmogmaaGreat
open Go.Ev Go.Proofs.Tryz
open Go.RowKit
open Go.Ev (sy iz uz wz iN uN wN pz dv fc fn ak vk vd kn pc cc cr cm cd fr)
set_option maxRecDepth 8000
attribute [local irreducible] og
theorem R1(W0:World)(F0:Nat->Prop)(c:aP)(p:Nat)(hp:p<c.n):ce prog 63 [] 0 15 ⟨W0,F0⟩ [(0,(.agg #[iN c.n,iN c.q,iz c.g,iz c.m,iz c.t,iz c.s])),(1,iN p)] [] (λκ:am=>(.agg #[iN c.n,iN c.q,iz c.g,iz c.m,iz c.t,iz c.s,iN p,iz 1,.int .u64 0,.int .u32 0])) (λκ:am=>[]):=(eH (c:=⟨W0,F0⟩) 6 (kn [iN (c.n),iN (c.q),iz (c.g),iz (c.m),iz (c.t),iz (c.s),iN (p),iN (c.word p)] fr [(.geq,sy 7,iz 0,.bool true)] [] [] (fc (λ_ _ _=>fe (by have q0:=c.z hp;first|(simp;done)|(simp;omega))) fn) fn fn W0 F0 [[]] [] [⟨40,[.agg #[sy 0,sy 1,sy 2,sy 3,sy 4,sy 5],sy 6],0,none,sy 7,none⟩]) fn (fc (pc rfl (λw hb=>cD c p hp w)) fn) rfl [] [] [] 0 rfl rfl [(0,.agg #[sy 0,sy 1,sy 2,sy 3,sy 4,sy 5]),(1,sy 6)] (.agg #[sy 0,sy 1,sy 2,sy 3,sy 4,sy 5,sy 6,iz 1,.int .u64 0,.int .u32 0]))
end Go.Proofs.YtkmccgombmogmaaGreat
namespace Go.Proofs.YtkmccgombmogmaaGreat
open Go.Ev Go.Proofs.Tryz
open Go.RowKit
set_option maxRecDepth 8000
theorem Jl{c:aP}{p:Nat}(hp:p<c.n)(w:World):Calls prog 63 #[c.v,.int .i64 (p:Int)] w λe w'=>e=.returned (.agg #[.int .i64 (c.n:Int),.int .i64 (c.q:Int),.int .i64 c.g,.int .i64 c.m,.int .i64 c.t,.int .i64 c.s,.int .i64 (p:Int),.int .i64 1,.int .u64 0,.int .u32 0])/\Below w.heap.size w w':=by
 refine a_ (R1 w (λ_=>False) c p hp) (by kernel_rfl) (kL w) (by simp) (by simp) (λκ w1 h1=>⟨rfl,h1.below (λ_ h=>h.elim)⟩)
theorem BL{l:List aG}{e T:TypeId}{v':Value}{cs:List Value}{b n:Nat}{xs:List Value}{F:Nat->Prop}{w w':World}(h:cG l F w)(hb0:w'.heap[b]? = some (Obj.cells cs.toArray T (0,0)))(hbn:w.heap.size<=b)(ho:w'.ownsRow w.heap.size e 1 v' n xs)(hne:v'.ownBlock≠some b)(hb:Below w.heap.size w w') :
  af ⟨w,F⟩ (aH b cs T::bQ e 1 v' n xs::l) w':=by
 obtain⟨hl,ho⟩:=ho;have key:∃ Fn,dQ e 1 v' n xs Fn w'/\∀ j,Fn j->w.heap.size<=j/\j≠b:=by
  rcases ho with ⟨rfl,rfl⟩ | ⟨g,cap,cur,rfl,hg,hh,h1,h2,h3,h4⟩
  ·have:xs=[]:=List.eq_nil_of_length_eq_zero (by rw[hl])
   subst this;exact⟨λ_=>False,dQ.nil e 1 w',λ_ h=>h.elim⟩
  ·refine⟨λj=>j=g,⟨hl,.inr ⟨g,0,cap,cur,rfl,λ_=>Iff.rfl,hh,λi hi=>?_,by rw[h3];omega,h1⟩⟩,λj hj=>by rw[hj];exact⟨hg,λe=>hne (by rw[← e];rfl)⟩⟩
   rw[← h4,Nat.zero_add,List.getElem?_take_of_lt hi];simp
 obtain⟨Fn,k1,k2⟩:=key;have hk:cG l F w':=fV h (λj hj=>hb.block j (h.lt j hj)) hb.size
 have hc:=bP (a:=bQ e 1 v' n xs) k1 hk (λj hj=>dQ.lt k1 j hj) (λj hj hf=>by
  have:=h.lt j hf;have:=(k2 j hj).1
  omega)
 have hbl:b<w'.heap.size:=(Array.getElem?_eq_some_iff.1 hb0).1;refine⟨⟨_,bP (a:=aH b cs T) (Fa:=λj=>j=b) ⟨λ_=>Iff.rfl,hb0⟩ hc (λj hj=>by rw[hj];exact hbl) (λj hj hf=>?_),⟨hb.os,hb.tape,hb.output,hb.size,λj hj _=>hb.block j hj⟩,λj hj=>?_⟩⟩
 ·rcases hf with hf | hf
  ·exact(k2 j hf).2 hj
  ·have:=h.lt j hf
   omega
 ·rcases hj with hj | hj | hj
  ·exact .inr (by rw[hj];exact hbn)
  ·exact .inr (k2 j hj).1
  ·exact .inl hj
theorem cell_of{W:World}{g:Nat}{xs:Array Value}{t:TypeId}{fr:Nat×Nat}(h:W.heap[g]? = some (Obj.cells xs t fr)):∀ (i:Nat) (u:Value),xs[i]? = some u->W.cell? ⟨g,i,none⟩=some u:=by
 intro i u hi;simp only[World.cell?,h];simpa using hi
theorem cB{W:World}{g:Nat}{xs:Array Value}{t:TypeId}(h:W.heap[g]? = some (Obj.cells xs t (0,0))):∀ (i:Nat),W.frozen? ⟨g,i,none⟩=false:=by
 intro i;simp[World.frozen?,h]
theorem As{W:World}{g:Nat}{xs:Array Value}{t:TypeId}{fr:Nat×Nat}(h:W.heap[g]? = some (Obj.cells xs t fr))(i:Nat)(u:Value):(W.setCell ⟨g,i,none⟩ u).heap[g]? = some (Obj.cells (xs.setIfInBounds i u) t fr):=by
 simp[World.setCell,Array.getElem?_modify,h]
theorem Jm{w:World}{n:Nat}{e:TypeId}{sz k:Nat}{v:Value}{xs:List Value}(h:w.ownsRow n e sz v k xs)(a:Addr)(u:Value)(hn:v.ownBlock≠some a.block):(w.setCell a u).ownsRow n e sz v k xs:=by
 obtain⟨h1,h2 | ⟨g,cap,cur,rfl,b,r,q⟩⟩:=h
 ·exact⟨h1,.inl h2⟩
 ·refine⟨h1,.inr ⟨g,cap,cur,rfl,b,(Below.heap_setCell w a u g (λe=>hn (by rw[← e];rfl))).trans r,q⟩⟩
theorem GK{v:Value}{l:List Int}{w:World}(hl:jd 1 v l.length (bu l) w)(hn:l.length<=1000000):Calls prog 97 #[v] w λe w'=>∃ v',e=.returned v'/\w'.ownsRow w.heap.size 3 1 v' l.length (bu l)/\Below w.heap.size w w':=by
 obtain⟨h1,⟨e,a,c,rfl⟩ | ⟨b,off,c,rfl,_,hc⟩⟩:=hl
 ·have:l=[]:=List.eq_nil_of_length_eq_zero e
  subst this;cases a with
  | none =>
   refine(mR 0 c w).mono ?_;rintro e w' ⟨rfl,rfl⟩;exact⟨_,rfl,World.ownsRow_nil _ _ _ _,Below.refl _ _⟩
  | some ad=>exact kO ad 0 c [] w rfl (by omega) (λu h=>by cases h) (λj u h=>by simp at h)
 ·exact kO ⟨b,off,none⟩ l.length c (bu l) w (by simp[bu]) hn jQ (λj u h=>by
   have hj:=(List.getElem?_eq_some_iff.1 h).1
   rw[show(⟨b,off,none⟩:Addr).add j=⟨b,off+j,none⟩ from fB b off j,hc j (by simp[bu]at hj;omega),h])
theorem Jn{w:World}{n k:Nat}{v:Value}{l:List Int}(h:w.ownsRow n 3 1 v l.length (bu l)):jd 1 v l.length (bu l) w:=by
 refine⟨h.1,?_⟩;have h0:=h;rcases h.2 with ⟨rfl,e⟩ | ⟨g,cap,cur,rfl,_,hg,hcap,_⟩
 ·exact .inl ⟨e,_,_,rfl⟩
 ·refine .inr ⟨g,0,cap,rfl,⟨(Array.getElem?_eq_some_iff.1 hg).1,hcap⟩,λj hj=>?_⟩
  have hj':j<(bu l).length:=by simp[bu];omega
  have:=h0.cells (g:=g) rfl j _ (List.getElem?_eq_getElem hj');rw[show(⟨g,0,none⟩:Addr).add j=⟨g,0+j,none⟩ from fB g 0 j]at this;rw[this,List.getElem?_eq_getElem hj']
set_option maxHeartbeats 2000000 in
theorem Dd(m:Nat){c:aP}{p:Nat}(hp:p<c.n)(v:Value)(l:List Int)(w:World)(hl:jd 1 v l.length (bu l) w)(hg:∀ g ∈ l,0<=g)(hn:l.length<=64) :
  CallsIn Fence.wide m prog 172 #[c.v,.int .i64 (p:Int),v] w λe w'=>∃ b v',e=.returned (.pointer (some ⟨b,0,none⟩))/\w.heap.size<=b/\w'.heap[b]? = some (Obj.cells #[.int .i64 (c.n:Int),.int .i64 (c.q:Int),.int .i64 c.g,.int .i64 c.m,.int .i64 c.t,.int .i64 c.s,.int .i64 (p:Int),.int .i64 1,.int .u64 0,.int .u32 0,.int .u32 0,v'] 203 (0,0))/\w'.ownsRow w.heap.size 3 1 v' l.length (bu l)/\v'.ownBlock≠some b/\Below w.heap.size w w':=by
 refine callsIn_of_wp func172 rfl trivial ?_ rfl;simp only[ntmps172,List.size_toArray,List.length_cons,List.length_nil,Nat.reduceAdd,Nat.reduceSub,Array.replicate_succ,Array.replicate_zero,List.push_toArray,List.append_toArray,List.nil_append,List.cons_append];obtain⟨W1,hW1⟩:∃ W1,w.alloc (.cells #[.int .i64 (c.n:Int),.int .i64 (c.q:Int),.int .i64 c.g,.int .i64 c.m,.int .i64 c.t,.int .i64 c.s] 23)=W1:=⟨_,rfl⟩;have hB1:Below w.heap.size w W1:=by rw[← hW1];exact(Below.refl _ w).alloc (Nat.le_refl _) _
 have hs1:w.heap.size<=W1.heap.size:=hB1.size;have h1:W1.heap[w.heap.size]? = some (Obj.cells #[.int .i64 (c.n:Int),.int .i64 (c.q:Int),.int .i64 c.g,.int .i64 c.m,.int .i64 c.t,.int .i64 c.s] 23 (0,0)):=by rw[← hW1];exact World.alloc_heap_new _ _
 have d0:=cell_of h1 0 _ rfl;have d1:=cell_of h1 1 _ rfl;have d2:=cell_of h1 2 _ rfl;have d3:=cell_of h1 3 _ rfl;have d4:=cell_of h1 4 _ rfl;have d5:=cell_of h1 5 _ rfl
 gi_wp2
 refine⟨trivial,λh=>by simp[Fence.wide]at h,(callsIn_wide.2 (Jl hp W1)).mono ?_⟩;rintro e w2 ⟨rfl,hb2⟩;have hB2:Below w.heap.size w w2:=hB1.trans (hb2.mono hs1);have hs2:w.heap.size<=w2.heap.size:=hB2.size;obtain⟨W3,hW3⟩:∃ W3,w2.alloc (.cells #[.int .i64 (c.n:Int),.int .i64 (c.q:Int),.int .i64 c.g,.int .i64 c.m,.int .i64 c.t,.int .i64 c.s,.int .i64 (p:Int),.int .i64 1,.int .u64 0,.int .u32 0,.int .u32 0,.slice none 0 0] 203)=W3:=⟨_,rfl⟩;have hB3:Below w.heap.size w W3:=by rw[← hW3];exact hB2.alloc hs2 _
 have hs3:w.heap.size<=W3.heap.size:=hB3.size;have h3:W3.heap[w2.heap.size]? = some (Obj.cells #[.int .i64 (c.n:Int),.int .i64 (c.q:Int),.int .i64 c.g,.int .i64 c.m,.int .i64 c.t,.int .i64 c.s,.int .i64 (p:Int),.int .i64 1,.int .u64 0,.int .u32 0,.int .u32 0,.slice none 0 0] 203 (0,0)):=by rw[← hW3];exact World.alloc_heap_new _ _
 have hl3:=(Array.getElem?_eq_some_iff.1 h3).1;have c7:=cell_of h3 7 _ rfl;clear d0 d1 d2 d3 d4 d5;have PI:jd 1 v l.length (bu l) W3:=by
  obtain⟨e1,e2 | ⟨b,off,c,e3,⟨e4,e5⟩,e6⟩⟩:=hl
  ·exact⟨e1,.inl e2⟩
  ·exact⟨e1,.inr ⟨b,off,c,e3,⟨Nat.lt_of_lt_of_le e4 hs3,e5⟩,λj hj=>(hB3.cell (p:=⟨b,off+j,none⟩) e4).trans (e6 j hj)⟩⟩
 gi_wp2
 refine⟨trivial,λh=>by simp[Fence.wide]at h,(callsIn_wide.2 (GK PI (by omega))).mono ?_⟩;rintro e w4 ⟨v4,rfl,Ky,hb4⟩
 gi_wp2
 refine⟨trivial,λh=>by simp[Fence.wide]at h,(Jj (m-1) v4 l w4 (Jn (k:=0) Ky) hg (by omega)).mono ?_⟩;rintro e w5 ⟨rfl,rfl⟩;have h4:=(hb4.block _ hl3).trans h3;have c11:=cell_of h4 11 _ rfl;have f11:=cB h4 11;obtain⟨a4,k4,rfl⟩:∃ a k,v4=.slice a l.length k:=by
  rcases Ky.2 with ⟨rfl,e⟩ | ⟨g,cap,cur,rfl,_⟩
  ·exact⟨none,0,by rw[e]⟩
  ·exact⟨_,cap,rfl⟩
 gi_wp2
 have h5:=As h4 11 (.slice a4 l.length k4);simp only[List.setIfInBounds_toArray,List.set_cons_zero,List.set_cons_succ]at h5;have hne:(Value.slice a4 l.length k4).ownBlock≠some w2.heap.size:=by
  intro e;have:=(Ky.lt _ e).1;omega
 refine bodyPost_ret (results_tmp rfl _ _ _) rfl ⟨w2.heap.size,_,rfl,hs2,h5,?_,hne,?_⟩
 ·refine Jm ?_ _ _ hne
  obtain⟨o1,o2 | ⟨g,cap,cur,oa,ob,oc⟩⟩:=Ky
  ·exact⟨o1,.inl o2⟩
  ·exact⟨o1,.inr ⟨g,cap,cur,oa,Nat.le_trans hs3 ob,oc⟩⟩
 ·exact(hB3.trans (hb4.mono hs3)).setCell hs2 _
theorem Jo{c:aP}{p:Nat}(hp:p<c.n){v:Value}{l:List Int}{ls:List aG}{F:Nat->Prop}{w:World}(hl:jd 1 v l.length (bu l) w)(hg:∀ g ∈ l,0<=g)(hn:l.length<=64)(h:cG ls F w) :
  Calls prog 172 #[c.v,.int .i64 (p:Int),v] w λe w'=>∃ b,e=.returned (.pointer (some ⟨b,0,none⟩))/\af ⟨w,F⟩ (d7 c p b ⟨1,0,0,0,l⟩::ls) w':=by
 refine(callsIn_wide.1 (Dd 0 hp v l w hl hg hn)).mono ?_;rintro e w' ⟨b,v',rfl,hb0,hb1,ho,hne,hb⟩;have h2:=BL (cs:=[.int .i64 (c.n:Int),.int .i64 (c.q:Int),.int .i64 c.g,.int .i64 c.m,.int .i64 c.t,.int .i64 c.s,.int .i64 (p:Int),.int .i64 1,.int .u64 0,.int .u32 0,.int .u32 0,v']) h hb1 hb0 ho hne hb;have pZ:aV v'=true:=by
  rcases ho.2 with ⟨rfl,_⟩ | ⟨g,cap,cur,rfl,_⟩<;>rfl
 exact⟨b,rfl,fG pZ h2⟩
theorem aP.room(c:aP):bits .and .i64 (c.q:Int) ((c.q:Int)-1)=0:=by
 have h:=(gU c.h).2.1;rcases h with h | h | h | h | h | h<;>(rw[h];decide +kernel)
theorem GL{q:Nat}(hq:q=2\/q=4\/q=8\/q=16\/q=32\/q=64){i:Int}(hi:0<=i/\i<4294967296):bits .and .i64 i ((q:Int)-1)=i%(q:Int):=by
 obtain⟨n,rfl⟩:=Int.eq_ofNat_of_zero_le hi.1;have h1:n<4294967296:=by omega
 have key:∀ k:Nat,k<=6->q=2 ^ k->bits .and .i64 (n:Int) ((q:Int)-1)=((n%q:Nat):Int):=by
  intro k hk e;have hq1:1<=q:=by rcases hq with h | h | h | h | h | h<;>omega
  have hq2:q<=64:=by rcases hq with h | h | h | h | h | h<;>omega
  have e1:((n:Int)%18446744073709551616).toNat=n:=by omega
  have e2:(((q:Int)-1)%18446744073709551616).toNat=q-1:=by omega
  have e3:n &&& (q-1)=n%q:=by rw[e];exact Nat.and_two_pow_sub_one_eq_mod n k
  have e4:(BitVec.ofInt 64 (n:Int) &&& BitVec.ofInt 64 ((q:Int)-1)).toNat=n%q:=by
   simp only[BitVec.toNat_and,BitVec.toNat_ofInt];rw[show((2 ^ 64:Nat):Int)=18446744073709551616 by rfl,e1,e2,e3]
  show IntKind.i64.wrap ((BitVec.ofInt 64 (n:Int) &&& BitVec.ofInt 64 ((q:Int)-1)).toNat:Int)=_;rw[e4];have:=Nat.mod_lt n (show 0<q by omega);exact aW (by omega) (by omega)
 have e5:((n%q:Nat):Int)=(n:Int)%(q:Int):=Int.natCast_emod n q;rw[← e5];rcases hq with h | h | h | h | h | h
 ·exact key 1 (by decide) h
 ·exact key 2 (by decide) h
 ·exact key 3 (by decide) h
 ·exact key 4 (by decide) h
 ·exact key 5 (by decide) h
 ·exact key 6 (by decide) h
theorem BM(c:aP)(w:World):Calls prog 61 #[.int .i64 (c.q:Int)] w λe w'=>e=.returned (.bool true)/\w=w':=by
 have h1:=c.qb;have h2:(2:Int)<=(c.q:Int):=by omega
 have h3:(c.q:Int)<=65536:=by omega
 have h4:IntKind.i64.wrap ((c.q:Int)-1)=(c.q:Int)-1:=aW (by omega) (by omega);have h5:=c.room
 go_enter func61,ntmps61
 go_wp2
 go_ret
 exact⟨rfl,rfl⟩
theorem aY(c:aP){i:Int}(hi:0<=i/\i<4294967296)(w:World):Calls prog 106 #[.int .u32 i,.int .i64 (c.q:Int)] w λe w'=>e=.returned (.int .i64 ((c.ae i:Nat):Int))/\w=w':=by
 have h1:=c.qb;have h4:IntKind.i64.wrap ((c.q:Int)-1)=(c.q:Int)-1:=aW (by omega) (by omega);have h6:IntKind.i64.wrap i=i:=aW (by omega) (by omega);have h7:=(gU c.h).2.1;have h5:=GL (q:=c.q) (by omega) hi;have h8:i%(c.q:Int)=((c.ae i:Nat):Int):=by
  have:=Int.emod_nonneg i (show(c.q:Int)≠0 by omega);unfold aP.ae;omega
 go_enter func106,ntmps106
 go_wp2_with (first | (go_at_call 61;refine(BM c _).mono ?_;rintro e w' ⟨rfl,rfl⟩))
 go_ret
 exact⟨rfl,rfl⟩
end Go.Proofs.YtkmccgombmogmaaGreat
