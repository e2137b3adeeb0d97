/- Part of a proof: see the last text. -/
import Derived.Test.YtkmccgombmogmaaGreatZe25
set_option linter.unusedSimpArgs false
set_option linter.unusedVariables false
namespace Go.Proofs.YtkmccgombmogmaaGreat
open Go.Ev Go.Proofs.Tryz
open Go.RowKit
set_option maxRecDepth 8000
theorem uv{l:List bX}{es:Nat->dm}{p:Nat}{o o':bX}(ho:l[p]? = some o)(h:ownRow o' (es p)=ownRow o (es p)):rowAt (l.set p o') es=rowAt l es:=by
 funext q
 unfold rowAt
 by_cases e:q=p
 ·subst e
  rw[List.getElem?_set_self (List.getElem?_eq_some_iff.1 ho).1,ho];exact h
 ·rw[List.getElem?_set_ne (Ne.symm e)]
section
variable{ctx:dc}{w:World}{r:List aG}{b:RB}{c:aP}{x:aE}{es:Nat->dm}{p:Nat}{o:bX}
theorem wm(hp:p<c.n)(ho:x.ow[p]? = some o)(h:af ctx (r++aF b c x es) w) :
  ∃ F,cG (fX c p o (es p)) F w/\∀ (o':bX) (m:List aG) (w':World),ownRow o' (es p)=ownRow o (es p)->af ⟨w,F⟩ (fX c p o' (es p)++m) w'->af ctx (r++(m++aF b c (x.own p o') es)) w':=by
 have hlt:p<x.ow.length:=(List.getElem?_eq_some_iff.1 ho).1;obtain⟨F1,k1,back⟩:=AK (r:=gX b c x es++r) [] hp hlt ho (pI (ay List.perm_append_comm h));rw[List.append_nil]at k1;refine⟨F1,k1,λo' m w' hr hh=>?_⟩;have h1:=back o' (es p) m w' hh;rw[eE]at h1;have e:gX b c (x.own p o') es=gX b c x es:=by
  show[d_ b c x,aK b.bm x.m,fb b c (x.ow.set p o') es]=_;unfold fb;rw[uv ho hr];rfl
 refine ay (bV (λf=>?_)) h1;unfold aF;rw[e];simp only[aE.own,List.map_append,List.sum_append];omega
theorem AN(hp:p<c.n)(ho:x.ow[p]? = some o)(h:af ctx (r++aF b c x es) w) :
  ∃ F,cG [hZ c (es p).d o.dq] F w/\∀ (d:ki) (m:List aG) (w':World),af ⟨w,F⟩ (hZ c (es p).d d::m) w'->af ctx (r++(m++aF b c (x.own p (o.fh d)) es)) w':=by
 obtain⟨F1,k1,back⟩:=wm hp ho h;obtain⟨F2,k2,oS⟩:=eA (af.start k1);refine⟨F2,k2,λd m w' hh=>back (o.fh d) m w' rfl ?_⟩;exact ay (bV (λf=>by simp only[fX,bX.fh,List.cons_append,List.map_append,List.map_cons,List.map_nil,List.sum_append,List.sum_cons,List.sum_nil,List.nil_append];omega)) (oS _ _ hh)
theorem JG(hp:p<c.n)(ho:x.ow[p]? = some o)(h:af ctx (r++aF b c x es) w) :
  ∃ F,cG [hZ c (es p).d o.dq,cf (es p).rv o.rs] F w/\∀ (d:ki) (m:List aG) (w':World),af ⟨w,F⟩ (hZ c (es p).d d::cf (es p).rv o.rs::m) w'->af ctx (r++(m++aF b c (x.own p (o.fh d)) es)) w':=by
 obtain⟨F1,k1,back⟩:=wm hp ho h;have k1':af ⟨w,F1⟩ ([hZ c (es p).d o.dq,cf (es p).rv o.rs]++[ft c p (es p).mv o.dx]) w:=(af.start k1).sel [0,2,1];obtain⟨F2,k2,oS⟩:=cQ _ k1';refine⟨F2,k2,λd m w' hh=>back (o.fh d) m w' rfl ?_⟩;exact ay (bV (λf=>by simp only[fX,bX.fh,List.cons_append,List.map_append,List.map_cons,List.map_nil,List.sum_append,List.sum_cons,List.sum_nil,List.nil_append];omega)) (oS _ _ hh)
theorem Mf(h:af ctx (r++aF b c x es) w) :
  ∃ F,cG [d_ b c x] F w/\∀ (is:Bool) (w':World),af ⟨w,F⟩ [d_ b c (x.holds is)] w'->af ctx (r++aF b c (x.holds is) es) w':=by
 have h1:af ctx ([d_ b c x]++([aK b.bm x.m,fb b c x.ow es]++(cV c x.ow es++r))) w:=ay (bV (λf=>by simp only[aF,gX,List.map_append,List.map_cons,List.map_nil,List.sum_append,List.sum_cons,List.sum_nil];omega)) h;obtain⟨F,k1,back⟩:=cQ _ h1;refine⟨F,k1,λis w' hh=>?_⟩;exact ay (bV (λf=>by simp only[aF,gX,aE.holds,List.map_append,List.map_cons,List.map_nil,List.sum_append,List.sum_cons,List.sum_nil];omega)) (back _ _ hh)
theorem cI(h:af ctx (r++aF b c x es) w):w.heap[b.br]? = some (Obj.cells (BZ b c x) 73 (0,0)):=yX (ay List.perm_append_comm h)
theorem cA(hp:p<c.n)(ho:x.ow[p]? = some o)(h:af ctx (r++aF b c x es) w){j:Nat}{v:Value}(hj:(ownRow o (es p))[j]? = some v):w.cell? ⟨b.bo,p*7+j,none⟩=some v:=jY hp ho (iQ (ay List.perm_append_comm h)) hj
theorem Dy(hn:0<c.n)(h:af ctx (fb b c x.ow es::r) w)(j:Nat):w.frozen? ⟨b.bo,j,none⟩=false:=by
 obtain⟨f,hf⟩:=h.first
 obtain⟨_,⟨_,h0,_⟩ | ⟨b',off,c',arr,e,_,hb,_⟩⟩:=hf
 ·omega
 ·cases e
  exact cB hb j
theorem cM(h:af ctx (r++aF b c x es) w)(j:Nat):w.frozen? ⟨b.bo,j,none⟩=false:=Dy (x:=x) c.nb.1 (iQ (ay List.perm_append_comm h)) j
theorem dg(hp:p<c.n)(ho:x.ow[p]? = some o){o':bX}{e':dm}(j:Nat)(hj:j<7)(v:Value)(hr:(ownRow o (es p)).set j v=ownRow o' e')(r':List aG)(hown:∀ (m:List aG) (w:World),af ctx (fX c p o (es p)++(r++m)) w->af ctx (fX c p o' e'++(r'++m)) w)(h:af ctx (r++aF b c x es) w):af ctx (r'++aF b c (x.own p o') (jF es p e')) (w.setCell ⟨b.bo,p*7+j,none⟩ v):=by
 have hlt:p<x.ow.length:=(List.getElem?_eq_some_iff.1 ho).1;have h1:af ctx (fb b c x.ow es::([d_ b c x,aK b.bm x.m]++(cV c x.ow es++r))) w:=ay (bV (λf=>by simp only[aF,gX,List.map_append,List.map_cons,List.map_nil,List.sum_append,List.sum_cons,List.sum_nil];omega)) h;have h2:=Hw hlt hp ho j hj v hr h1;have h3:af ctx (cV c x.ow es++(r++[fb b c (x.ow.set p o') (jF es p e'),d_ b c x,aK b.bm x.m])) _:=ay (bV (λf=>by simp only[List.map_append,List.map_cons,List.map_nil,List.sum_append,List.sum_cons,List.sum_nil];omega)) h2;have h4:=(BY hp ho h3).open;have h5:af ctx (fX c p o (es p)++(r++((cV c x.ow es).eraseIdx p++[fb b c (x.ow.set p o') (jF es p e'),d_ b c x,aK b.bm x.m]))) _:=ay (bV (λf=>by simp only[fX,List.map_append,List.map_cons,List.map_nil,List.sum_append,List.sum_cons,List.sum_nil];omega)) h4;have h5':af ctx (fX c p o' e'++((cV c x.ow es).eraseIdx p++([fb b c (x.ow.set p o') (jF es p e'),d_ b c x,aK b.bm x.m]++r'))) _:=ay (bV (λf=>by simp only[fX,List.map_append,List.map_cons,List.map_nil,List.sum_append,List.sum_cons,List.sum_nil];omega)) (hown _ _ h5);have h6:=Hu hp hlt (af.shut h5');have e:aF b c (x.own p o') (jF es p e')=[d_ b c x,aK b.bm x.m,fb b c (x.ow.set p o') (jF es p e')]++cV c (x.ow.set p o') (jF es p e'):=rfl;rw[e];exact ay (bV (λf=>by simp only[ List.map_append,List.map_cons,List.map_nil,List.sum_append,List.sum_cons,List.sum_nil];omega)) h6
end
theorem AO{w:World}{a:Option Addr}{n k lo:Nat}{xs:List Value}(h:jd 1 (.slice a n k) n xs w)(hl:n=n):∃ ac cc,Ev.cutV 1 (.slice a n k) lo n=.slice ac (n-lo) cc:=by
 cases a with
 | none=>exact⟨none,k-lo,by simp[Ev.cutV]⟩
 | some a =>
  by_cases e:k=lo
  ·exact⟨_,k-lo,by simp only[Ev.cutV,if_pos e];rfl⟩
  ·exact⟨_,k-lo,by simp only[Ev.cutV,if_neg e];rfl⟩
theorem B_{l:List Int}{k1:Nat}{v:Value}(h:min 1 l.length=k1):bQ 3 1 v (l.length-k1) ((bu l).drop (k1*1))=cf v (l.drop 1):=by
 unfold cf;rw[Nat.mul_one];cases l with
 | nil =>
  have:k1=0:=by simpa using h.symm
  subst this;rfl
 | cons g l =>
  have:k1=1:=by simp at h;omega
  subst this;simp[bu]
theorem aI{ctx:dc}{r l:List aG}{w:World}(h:af ctx (r++l) w):af ctx l w:=by
 obtain⟨F',m1,m2,m3⟩:=h.ex;obtain⟨G1,G2,q1,q2,q3,q4⟩:=cL m1;exact⟨G2,q2,m2,λj hj=>m3 j ((q4 j).2 (.inr hj))⟩
theorem eF(x:aE)(p:Nat)(a b:bX):(x.own p a).own p b=x.own p b:=by
 unfold aE.own;simp only[List.set_set]
theorem yZ{ctx:dc}{w:World}{m:List aG}{c:aP}{p:Nat}{o:bX}{e:dm}{v:Value}{l:List Int}{gn:Bool}(h:af ctx (fX c p o e++([cf v l]++m)) w):af ctx (fX c p ⟨o.kd,o.cv,o.cg,o.dx,o.dq,gn,l⟩ ⟨e.d,e.mv,v⟩++([]++m)) w:=by
 have h1:af ctx ([cf e.rv o.rs]++(hZ c e.d o.dq::ft c p e.mv o.dx::cf v l::m)) w:=ay (bV (λf=>by simp only[fX,List.cons_append,List.nil_append,List.map_append,List.map_cons,List.map_nil,List.sum_append,List.sum_cons,List.sum_nil];omega)) h;exact aI h1
theorem oU{ctx:dc}{w:World}{r:List aG}{b:RB}{c:aP}{x:aE}{es:Nat->dm}{p:Nat}{o:bX}(hp:p<c.n)(ho:x.ow[p]? = some o)(h:af ctx (r++aF b c x es) w):jd 1 (es p).rv o.rs.length (bu o.rs) w:=by
 obtain⟨F1,k1,_⟩:=wm hp ho h;have k1':af ⟨w,F1⟩ [cf (es p).rv o.rs] w:=(af.start k1).sel [2];exact bk k1'
section
variable{b:RB}{c:aP}{x:aE}{es:Nat->dm}{p v:Nat}{o ov:bX}{u:bD}{bp:Nat}
theorem pJ{ctx:dc}{w:World}{r:List aG}(hp:p<c.n)(ho:x.ow[p]? = some o)(hM:o.dx=some (.steal v u))(hmv:(es p).mv=.iface 85 (.pointer (some ⟨bp,0,none⟩)))(h:af ctx (r++aF b c x es) w) :
  ∃ F,cG [cP c p v bp u] F w/\∀ (m:List aG) (w':World),af ⟨w,F⟩ (cP c p v bp u::m) w'->af ctx (r++(m++aF b c x es)) w':=by
 obtain⟨F2,k2,back⟩:=gG hp ho h;rw[hmv,hM]at k2 back;obtain⟨bp',e,hp1⟩:=iP (af.start k2);cases e;obtain⟨F3,k3,lZ⟩:=eA hp1;refine⟨F3,k3,λm w' hh=>back m w' (j_ ?_)⟩;have:=lZ _ _ hh;rw[List.append_nil]at this;exact this
theorem Dz(n:Nat){ctx:dc}{w:World}{r:List aG}(hp:p<c.n)(ho:x.ow[p]? = some o)(hM:o.dx=some (.steal v u))(hmv:(es p).mv=.iface 85 (.pointer (some ⟨bp,0,none⟩)))(hok:li c p (.steal v u))(hm:bT c x.m)(h:af ctx (r++aF b c x es) w) :
  CallsIn Fence.wide n prog 99 #[.pointer (some ⟨bp,0,none⟩)] w λe w'=>∃ a k,e=.returned (.slice a u.hands.length k)/\af ctx (r++([cf (.slice a u.hands.length k) u.hands]++aF b c x es)) w':=by
 obtain⟨F,k1,back⟩:=pJ hp ho hM hmv h;refine(yM n hp hok.2.1 hok.1 hm k1).mono ?_;rintro e w' ⟨z,lz,rfl,hh⟩;obtain⟨a,k,rfl⟩:=c8 (bk hh);exact⟨a,k,rfl,back [cf _ _] _ (hh.sel [1,0])⟩
theorem HD(n:Nat){ctx:dc}{w:World}{r:List aG}(hp:p<c.n)(ho:x.ow[p]? = some o)(hM:o.dx=some (.steal v u))(hmv:(es p).mv=.iface 85 (.pointer (some ⟨bp,0,none⟩)))(hok:li c p (.steal v u))(h:af ctx (r++aF b c x es) w) :
  CallsIn Fence.wide n prog 100 #[.pointer (some ⟨bp,0,none⟩)] w λe w'=>e=.returned (.int .i64 (u.many:Int))/\af ctx (r++aF b c x es) w':=by
 obtain⟨F,k1,back⟩:=pJ hp ho hM hmv h;exact(callsIn_wide.2 (rR hp hok.2.1 hok.1 k1)).mono (λe w' ⟨e1,hh⟩=>⟨e1,back [] _ hh⟩)
theorem HE(n:Nat){ctx:dc}{w:World}{r:List aG}(hp:p<c.n)(ho:x.ow[p]? = some o)(hM:o.dx=some (.steal v u))(hmv:(es p).mv=.iface 85 (.pointer (some ⟨bp,0,none⟩)))(hok:li c p (.steal v u))(hm:bT c x.m)(h:af ctx (r++aF b c x es) w) :
  CallsIn Fence.wide n prog 70 #[.pointer (some ⟨bp,0,none⟩)] w λe w'=>∃ a k,e=.returned (.slice a u.left.length k)/\af ctx (r++([cf (.slice a u.left.length k) u.left]++aF b c x es)) w':=by
 obtain⟨F,k1,back⟩:=pJ hp ho hM hmv h;refine(callsIn_wide.2 (rS hp hok.2.1 hok.1 hm k1)).mono ?_;rintro e w' ⟨z,lz,rfl,hh⟩;obtain⟨a,k,rfl⟩:=c8 (bk hh);exact⟨a,k,rfl,back [cf _ _] _ (hh.sel [1,0])⟩
theorem uw(n:Nat){ctx:dc}{w:World}{r:List aG}(hq:c.q<=8)(hv:v<c.n)(hov:x.ow[v]? = some ov)(hd:eR c ov.dq){dv:Nat}(hdv:(es v).d=dv)(h:af ctx (r++aF b c x es) w) :
  CallsIn Fence.wide n prog 101 #[.pointer (some ⟨dv,0,none⟩)] w λe w'=>∃ a k,e=.returned (.slice a (c6 c ov.dq).length k)/\af ctx (r++([cf (.slice a (c6 c ov.dq).length k) (c6 c ov.dq)]++aF b c (x.own v (ov.fh (cw ov.dq))) es)) w':=by
 obtain⟨F,k1,back⟩:=AN hv hov h;rw[hdv]at k1 back;refine(Df n hq hd k1).mono ?_;rintro e w' ⟨z,lz,rfl,hh⟩;obtain⟨a,k,rfl⟩:=c8 (bk hh);exact⟨a,k,rfl,back (cw ov.dq) [cf _ _] _ (hh.sel [1,0])⟩
theorem ke(n:Nat){ctx:dc}{w:World}{r:List aG}(is:Bool)(h:af ctx (r++aF b c x es) w) :
  CallsIn Fence.wide n prog 64 #[.pointer (some ⟨b.br,0,none⟩),.bool is] w λe w'=>e=.returned (.tuple #[])/\af ctx (r++aF b c (x.holds is) es) w':=by
 obtain⟨F,k1,back⟩:=Mf h;exact(HC n is k1).mono (λe w' ⟨e1,hh⟩=>⟨e1,back is _ hh⟩)
end
set_option maxHeartbeats 2000000 in
theorem DA(m:Nat){b:RB}{c:aP}{x:aE}{es:Nat->dm}{p v:Nat}{o ov:bX}{u:bD}{bp:Nat}(hq:c.q<=8)(hp:p<c.n)(ho:x.ow[p]? = some o)(hM:o.dx=some (.steal v u))(hmv:(es p).mv=.iface 85 (.pointer (some ⟨bp,0,none⟩)))(hcv:o.cv=(v:Int))(hok:li c p (.steal v u))(hm:bT c x.m)
  (hov:x.ow[v]? = some ov) (hdp:eR c o.dq) (hdv:eR c ov.dq) (hrs:o.rs.length<=64) (Sw:u.hands.length<=100) (Sx:u.left.length<=100) {F:Nat->Prop} {w:World} (h:cG (aF b c x es) F w) :
  CallsIn Fence.wide m prog 69 #[.pointer (some ⟨b.br,0,none⟩),.pointer (some ⟨b.bo,p*7,none⟩),.pointer (some ⟨bp,0,none⟩),.bool (decide (u.st=0))] w λe w'=>e=.returned (.tuple #[])/\∃ es',af ⟨w,F⟩ (aF b c (bj c x p o (.steal v u)) es') w':=by
 refine callsIn_of_wp func69 rfl trivial ?_ rfl;simp only[ntmps69,List.size_toArray,List.length_cons,List.length_nil,Nat.reduceAdd,Nat.reduceSub,Array.replicate_succ,Array.replicate_zero,List.push_toArray,List.append_toArray,List.nil_append,List.cons_append];have hst:af ⟨w,F⟩ ([]++aF b c x es) w:=af.start h;obtain⟨bd,hbd⟩:∃ bd,decide (u.st=0)=bd:=⟨_,rfl⟩;rw[hbd]
 gi_wp2
 refine⟨trivial,λh=>by simp[Fence.wide]at h,(Dz (m-1) hp ho hM hmv hok hm hst).mono ?_⟩;rintro e w1 ⟨ah,kh,rfl,h1⟩;rw[List.nil_append]at h1;have e5:w1.cell? ⟨b.bo,p*7+5,none⟩=some (.bool o.gn):=cA hp ho h1 rfl;obtain⟨ar,kr,Mg⟩:=c8 (oU hp ho hst);obtain⟨dv,wo⟩:∃ dv,(es v).d=dv:=⟨_,rfl⟩;have hvp:v≠p:=hok.2.2;have hv:v<c.n:=hok.2.1;have S6:(v:Int)<(c.n:Int):=by omega
 have Qg:v<x.ow.length:=(List.getElem?_eq_some_iff.1 hov).1;have N0:(x.own v (ov.fh (cw ov.dq))).ow[v]? = some (ov.fh (cw ov.dq)):=List.getElem?_set_self Qg;have ho1:(x.own v (ov.fh (cw ov.dq))).ow[p]? = some o:=by
  show(x.ow.set v _)[p]? = _;rw[List.getElem?_set_ne hvp,ho]
 have KQ:∀ (r:List aG) (w':World),af ⟨w,F⟩ (r++aF b c x es) w'->w'.cell? ⟨b.br,7,none⟩=some (.slice (some ⟨b.bo,0,none⟩) c.n b.cp)/\w'.cell? ⟨b.bo,p*7+1,none⟩=some (.int .i64 (v:Int))/\w'.cell? ⟨b.bo,v*7+4,none⟩=some (.pointer (some ⟨dv,0,none⟩)):=λr w' hh =>
  ⟨cell_of (cI hh) 7 _ rfl,cA hp ho hh (by rw[← hcv];rfl),cA hv hov hh (by rw[← wo];rfl)⟩
 have MF:∀ (r:List aG) (w':World),af ⟨w,F⟩ (r++aF b c (x.own v (ov.fh (cw ov.dq))) es) w'->w'.cell? ⟨b.br,7,none⟩=some (.slice (some ⟨b.bo,0,none⟩) c.n b.cp)/\w'.cell? ⟨b.bo,p*7+1,none⟩=some (.int .i64 (v:Int))/\w'.cell? ⟨b.bo,v*7+4,none⟩=some (.pointer (some ⟨dv,0,none⟩)):=λr w' hh =>
  ⟨cell_of (cI hh) 7 _ rfl,cA hp ho1 hh (by rw[← hcv];rfl),cA hv N0 hh (by rw[← wo];rfl)⟩
 have QO:∀ (r:List aG) (w':World),af ⟨w,F⟩ (r++aF b c ((x.own v (ov.fh (cw ov.dq))).holds (decide (c6 c ov.dq=u.hands))) es) w'->w'.cell? ⟨b.br,7,none⟩=some (.slice (some ⟨b.bo,0,none⟩) c.n b.cp)/\w'.cell? ⟨b.bo,p*7+1,none⟩=some (.int .i64 (v:Int))/\w'.cell? ⟨b.bo,v*7+4,none⟩=some (.pointer (some ⟨dv,0,none⟩)):=λr w' hh =>
  ⟨cell_of (cI hh) 7 _ rfl,cA (x:=(x.own v (ov.fh (cw ov.dq))).holds (decide (c6 c ov.dq=u.hands))) hp ho1 hh (by rw[← hcv];rfl),cA (x:=(x.own v (ov.fh (cw ov.dq))).holds (decide (c6 c ov.dq=u.hands))) hv N0 hh (by rw[← wo];rfl)⟩
 have Qh:(c6 c ov.dq).length<=100000:=by
  unfold c6 aX;have:=hdv.sz;have:=c.qb;simp;omega
 cases hgn:o.gn with
 | false =>
  rw[hgn]at e5;cases bd with
  | true =>
   have hu0:u.st=0:=of_decide_eq_true hbd;have h1d:=bA h1 ((Below.refl _ w1).drew)
   gi_wp2
   refine⟨trivial,?_⟩
   gi_wp2
   refine wpIn_wide.2 ?_
   go_region_held3 (λw'=>w'.cell? ⟨b.br,7,none⟩=some (.slice (some ⟨b.bo,0,none⟩) c.n b.cp)/\w'.cell? ⟨b.bo,p*7+1,none⟩=some (.int .i64 (v:Int))/\w'.cell? ⟨b.bo,v*7+4,none⟩=some (.pointer (some ⟨dv,0,none⟩))) ((first | exact KQ _ _ h1d | exact MF _ _ h3 | exact MF _ _ h4 | exact QO _ _ h5 | fail)) ((first
    | (go_at_call 101;have hcon:=callsIn_wide.1 (uw 0 hq hok.2.1 hov hdv wo h1d);(with_reducible refine hcon.mono ?_);clear hcon;rintro e w3 ⟨a3,k3,rfl,h3'⟩;have h3:af ⟨w,F⟩ ([cf (.slice ah u.hands.length kh) u.hands,cf (.slice a3 (c6 c ov.dq).length k3) (c6 c ov.dq)]++aF b c (x.own v (ov.fh (cw ov.dq))) es) w3:=h3';clear h3')
    | (go_at_call 37;have hcon:=callsIn_wide.1 (lU 0 _ _ (c6 c ov.dq) u.hands w3 (bk (bU h3)) (bk h3) (by omega));(with_reducible refine hcon.mono ?_);clear hcon;rintro e w4 ⟨rfl,B4⟩;have h4:=bA h3 B4)
    | (go_at_call 64;have hcon:=callsIn_wide.1 (ke 0 (decide (c6 c ov.dq=u.hands)) h4);(with_reducible refine hcon.mono ?_);clear hcon;rintro e w5 ⟨rfl,h5⟩)))
   obtain⟨k1,hk1⟩:∃ k1:Nat,min 1 u.hands.length=k1:=⟨_,rfl⟩;have hkle:k1<=u.hands.length:=by omega
   have hmin:min (1:Int) (u.hands.length:Int)=(k1:Int):=by omega
   obtain⟨ac,cc,HF⟩:=AO (lo:=k1) (bk h5) rfl;have hcut:∀ w,(Instr.sliceAt 35 (.slice ah u.hands.length kh) (some (.int .i64 (k1:Int))) none none).run prog w=.ok (.slice ac (u.hands.length-k1) cc) w:=by
    obtain⟨i0,hi,hz1,hz0,hz2⟩:=bY;intro w;rw[← HF];exact jT (kd:=.i64) (bk h5) underlying35 hi hz1 hkle w
   have h5':af ⟨w,F⟩ ([cf (.slice ac (u.hands.length-k1) cc) (u.hands.drop 1)]++aF b c ((x.own v (ov.fh (cw ov.dq))).holds (decide (c6 c ov.dq=u.hands))) es) w5:=by
    have q:=h5.yB hkle;rw[HF]at q;rw[B_ hk1]at q;exact aI (r:=[_]) (bU q)
   have f5:w5.frozen? ⟨b.bo,p*7+5,none⟩=false:=cM h5 _;have c5:w5.cell? ⟨b.bo,p*7+5,none⟩=some (.bool false):=cA (x:=(x.own v (ov.fh (cw ov.dq))).holds (decide (c6 c ov.dq=u.hands))) hp ho1 h5 (by rw[← hgn];rfl);have Sy:w5.frozen? ⟨b.bo,p*7+6,none⟩=false:=cM h5 _;have Sz:w5.cell? ⟨b.bo,p*7+6,none⟩=some (.slice ar o.rs.length kr):=cA (x:=(x.own v (ov.fh (cw ov.dq))).holds (decide (c6 c ov.dq=u.hands))) hp ho1 h5 (by rw[← Mg];rfl);have h6:=dg (x:=(x.own v (ov.fh (cw ov.dq))).holds (decide (c6 c ov.dq=u.hands))) (o':=⟨o.kd,o.cv,o.cg,o.dx,o.dq,true,o.rs⟩) (e':=es p) hp ho1 5 (by decide) (.bool true) rfl [cf (.slice ac (u.hands.length-k1) cc) (u.hands.drop 1)] (λm w h=>h) h5';have hlt1:p<((x.own v (ov.fh (cw ov.dq))).holds (decide (c6 c ov.dq=u.hands))).ow.length:=(List.getElem?_eq_some_iff.1 ho1).1;rw[eE]at h6;have NN:(((x.own v (ov.fh (cw ov.dq))).holds (decide (c6 c ov.dq=u.hands))).own p ⟨o.kd,o.cv,o.cg,o.dx,o.dq,true,o.rs⟩).ow[p]? = some ⟨o.kd,o.cv,o.cg,o.dx,o.dq,true,o.rs⟩:=List.getElem?_set_self hlt1;have h7:=dg (o':=⟨o.kd,o.cv,o.cg,o.dx,o.dq,true,u.hands.drop 1⟩) (e':=⟨(es p).d,(es p).mv,.slice ac (u.hands.length-k1) cc⟩) hp NN 6 (by decide) (.slice ac (u.hands.length-k1) cc) rfl [] (λm w h=>yZ h) h6;have h8:=bA h7 ((Below.refl _ _).drew);rw[List.nil_append,eF]at h8;have ex:bj c x p o (.steal v u)=(((x.own v (ov.fh (cw ov.dq))).holds (decide (c6 c ov.dq=u.hands))).own p ⟨o.kd,o.cv,o.cg,o.dx,o.dq,true,u.hands.drop 1⟩):=by
    simp only[bj];rw[if_pos ⟨hgn,.inl hu0⟩,hov];rfl
   rw[← ex]at h8
   gi_wp2
   refine wpIn_wide.2 ?_
   go_region_held3 (λ_=>True) (trivial) (fail)
   all_goals (gi_wp2;exact bodyPost_end (results_none rfl _ _ _) rfl ⟨rfl,_,h8⟩)
  | false =>
   gi_wp2
   refine⟨trivial,λh=>by simp[Fence.wide]at h,(HD (m-1) hp ho hM hmv hok h1).mono ?_⟩;rintro e w2 ⟨rfl,h2⟩
   by_cases KR:0<u.many
   ·have hgt:((u.many:Nat):Int)>0:=by omega
    have h1d:=bA h2 ((Below.refl _ w2).drew)
    gi_wp2
    refine wpIn_wide.2 ?_
    go_region_held3 (λw'=>w'.cell? ⟨b.br,7,none⟩=some (.slice (some ⟨b.bo,0,none⟩) c.n b.cp)/\w'.cell? ⟨b.bo,p*7+1,none⟩=some (.int .i64 (v:Int))/\w'.cell? ⟨b.bo,v*7+4,none⟩=some (.pointer (some ⟨dv,0,none⟩))) ((first | exact KQ _ _ h1d | exact MF _ _ h3 | exact MF _ _ h4 | exact QO _ _ h5 | fail)) ((first
     | (go_at_call 101;have hcon:=callsIn_wide.1 (uw 0 hq hok.2.1 hov hdv wo h1d);(with_reducible refine hcon.mono ?_);clear hcon;rintro e w3 ⟨a3,k3,rfl,h3'⟩;have h3:af ⟨w,F⟩ ([cf (.slice ah u.hands.length kh) u.hands,cf (.slice a3 (c6 c ov.dq).length k3) (c6 c ov.dq)]++aF b c (x.own v (ov.fh (cw ov.dq))) es) w3:=h3';clear h3')
     | (go_at_call 37;have hcon:=callsIn_wide.1 (lU 0 _ _ (c6 c ov.dq) u.hands w3 (bk (bU h3)) (bk h3) (by omega));(with_reducible refine hcon.mono ?_);clear hcon;rintro e w4 ⟨rfl,B4⟩;have h4:=bA h3 B4)
     | (go_at_call 64;have hcon:=callsIn_wide.1 (ke 0 (decide (c6 c ov.dq=u.hands)) h4);(with_reducible refine hcon.mono ?_);clear hcon;rintro e w5 ⟨rfl,h5⟩)))
    obtain⟨k1,hk1⟩:∃ k1:Nat,min 1 u.hands.length=k1:=⟨_,rfl⟩;have hkle:k1<=u.hands.length:=by omega
    have hmin:min (1:Int) (u.hands.length:Int)=(k1:Int):=by omega
    obtain⟨ac,cc,HF⟩:=AO (lo:=k1) (bk h5) rfl;have hcut:∀ w,(Instr.sliceAt 35 (.slice ah u.hands.length kh) (some (.int .i64 (k1:Int))) none none).run prog w=.ok (.slice ac (u.hands.length-k1) cc) w:=by
     obtain⟨i0,hi,hz1,hz0,hz2⟩:=bY;intro w;rw[← HF];exact jT (kd:=.i64) (bk h5) underlying35 hi hz1 hkle w
    have h5':af ⟨w,F⟩ ([cf (.slice ac (u.hands.length-k1) cc) (u.hands.drop 1)]++aF b c ((x.own v (ov.fh (cw ov.dq))).holds (decide (c6 c ov.dq=u.hands))) es) w5:=by
     have q:=h5.yB hkle;rw[HF]at q;rw[B_ hk1]at q;exact aI (r:=[_]) (bU q)
    have f5:w5.frozen? ⟨b.bo,p*7+5,none⟩=false:=cM h5 _;have c5:w5.cell? ⟨b.bo,p*7+5,none⟩=some (.bool false):=cA (x:=(x.own v (ov.fh (cw ov.dq))).holds (decide (c6 c ov.dq=u.hands))) hp ho1 h5 (by rw[← hgn];rfl);have Sy:w5.frozen? ⟨b.bo,p*7+6,none⟩=false:=cM h5 _;have Sz:w5.cell? ⟨b.bo,p*7+6,none⟩=some (.slice ar o.rs.length kr):=cA (x:=(x.own v (ov.fh (cw ov.dq))).holds (decide (c6 c ov.dq=u.hands))) hp ho1 h5 (by rw[← Mg];rfl);have h6:=dg (x:=(x.own v (ov.fh (cw ov.dq))).holds (decide (c6 c ov.dq=u.hands))) (o':=⟨o.kd,o.cv,o.cg,o.dx,o.dq,true,o.rs⟩) (e':=es p) hp ho1 5 (by decide) (.bool true) rfl [cf (.slice ac (u.hands.length-k1) cc) (u.hands.drop 1)] (λm w h=>h) h5';have hlt1:p<((x.own v (ov.fh (cw ov.dq))).holds (decide (c6 c ov.dq=u.hands))).ow.length:=(List.getElem?_eq_some_iff.1 ho1).1;rw[eE]at h6;have NN:(((x.own v (ov.fh (cw ov.dq))).holds (decide (c6 c ov.dq=u.hands))).own p ⟨o.kd,o.cv,o.cg,o.dx,o.dq,true,o.rs⟩).ow[p]? = some ⟨o.kd,o.cv,o.cg,o.dx,o.dq,true,o.rs⟩:=List.getElem?_set_self hlt1;have h7:=dg (o':=⟨o.kd,o.cv,o.cg,o.dx,o.dq,true,u.hands.drop 1⟩) (e':=⟨(es p).d,(es p).mv,.slice ac (u.hands.length-k1) cc⟩) hp NN 6 (by decide) (.slice ac (u.hands.length-k1) cc) rfl [] (λm w h=>yZ h) h6;have h8:=bA h7 ((Below.refl _ _).drew);rw[List.nil_append,eF]at h8;have ex:bj c x p o (.steal v u)=(((x.own v (ov.fh (cw ov.dq))).holds (decide (c6 c ov.dq=u.hands))).own p ⟨o.kd,o.cv,o.cg,o.dx,o.dq,true,u.hands.drop 1⟩):=by
     simp only[bj];rw[if_pos ⟨hgn,.inr KR⟩,hov];rfl
    rw[← ex]at h8
    gi_wp2
    refine wpIn_wide.2 ?_
    go_region_held3 (λ_=>True) (trivial) (fail)
    all_goals (gi_wp2;exact bodyPost_end (results_none rfl _ _ _) rfl ⟨rfl,_,h8⟩)
   ·have hgt:¬ ((u.many:Nat):Int)>0:=by omega
    have hu0:¬ u.st=0:=of_decide_eq_false hbd;have ex:bj c x p o (.steal v u)=x:=by
     simp only[bj];rw[if_neg (λh=>h.2.elim hu0 KR),if_neg hu0]
    gi_wp2
    refine bodyPost_end (results_none rfl _ _ _) rfl ⟨rfl,es,?_⟩;rw[ex];exact aI h2
 | true =>
  rw[hgn]at e5;cases bd with
  | false =>
   gi_wp2
   ·next g1 g2=>exact absurd g1 (by intro h;cases h)
   ·next g1 g2=>exact absurd g1 (by intro h;cases h)
   have hu0:¬ u.st=0:=of_decide_eq_false hbd;have ex:bj c x p o (.steal v u)=x:=by
    simp only[bj];rw[if_neg (λh=>by rw[hgn]at h;cases h.1),if_neg hu0]
   refine⟨trivial,?_⟩
   gi_wp2
   refine bodyPost_end (results_none rfl _ _ _) rfl ⟨rfl,es,?_⟩;rw[ex];exact aI h1
  | true =>
   gi_wp2
   ·next g1 g2=>exact absurd g1 (by intro h;cases h)
   ·next g1 g2=>exact absurd g1 (by intro h;cases h)
   have hu0:u.st=0:=of_decide_eq_true hbd;refine⟨trivial,?_⟩
   gi_wp2
   obtain⟨dp,N1⟩:∃ dp,(es p).d=dp:=⟨_,rfl⟩;obtain⟨n,hn⟩:∃ n,tx c o.dq o.rs=n:=⟨_,rfl⟩;have N2:n<=o.rs.length:=by rw[← hn];exact Nat.min_le_left _ _
   have h1':af ⟨w,F⟩ ([]++aF b c x es) w1:=aI h1;have hd5:=bA h1' ((Below.refl _ w1).drew);have hT:∀ (x':aE) (o':bX) (r:List aG) (w':World),x'.ow[p]? = some o'->o'.rs=o.rs->af ⟨w,F⟩ (r++aF b c x' es) w'->w'.cell? ⟨b.bo,p*7+4,none⟩=some (.pointer (some ⟨dp,0,none⟩))/\w'.cell? ⟨b.bo,p*7+6,none⟩=some (.slice ar o.rs.length kr):=λx' o' r w' ho' hr' hh=>⟨cA hp ho' hh (by rw[← N1];rfl),cA hp ho' hh (by rw[← Mg];rfl)⟩
   refine wpIn_wide.2 ?_
   go_region_held3 (λw'=>w'.cell? ⟨b.bo,p*7+4,none⟩=some (.pointer (some ⟨dp,0,none⟩))/\w'.cell? ⟨b.bo,p*7+6,none⟩=some (.slice ar o.rs.length kr)) ((first | exact hT _ _ _ _ ho rfl hd5 | exact hT _ _ _ _ ho2 rfl h3 | fail)) ((first
    | (go_at_call 62;obtain⟨F1,k1,back⟩:=JG hp ho hd5;rw[N1,Mg]at k1 back;have hcon:=callsIn_wide.1 (BP 0 hdp hrs k1);(with_reducible refine hcon.mono ?_);clear hcon;rintro e w3 ⟨rfl,hh⟩;rw[hn]at hh ⊢;have h3':=back _ [] _ hh;have h3:af ⟨w,F⟩ ([]++aF b c (x.own p (o.fh (cU c o.dq (o.rs.take n)))) es) w3:=h3';have ho2:(x.own p (o.fh (cU c o.dq (o.rs.take n)))).ow[p]? = some (o.fh (cU c o.dq (o.rs.take n))):=List.getElem?_set_self (List.getElem?_eq_some_iff.1 ho).1;clear back k1 h3' hh)))
   have hd6:=bA h3 ((Below.refl _ w3).drew);obtain⟨a9,k9,N3⟩:=AO (lo:=n) (by rw[← Mg];exact oU (o:=o.fh (cU c o.dq (o.rs.take n))) hp ho2 h3) rfl;have Qi:jd 1 (.slice ar o.rs.length kr) o.rs.length (bu o.rs) w3:=by rw[← Mg];exact oU (o:=o.fh (cU c o.dq (o.rs.take n))) hp ho2 h3
   have hcut:∀ w,(Instr.sliceAt 35 (.slice ar o.rs.length kr) (some (.int .i64 (n:Int))) none none).run prog w=.ok (.slice a9 (o.rs.length-n) k9) w:=by
    obtain⟨i0,hi,hz1,hz0,hz2⟩:=bY;intro w;rw[← N3];exact jT (kd:=.i64) Qi underlying35 hi hz1 N2 w
   have Qj:∀ (r:List aG) (w':World),af ⟨w,F⟩ (r++aF b c (x.own p (o.fh (cU c o.dq (o.rs.take n)))) es) w'->jd 1 (.slice a9 (o.rs.length-n) k9) (o.rs.drop n).length (bu (o.rs.drop n)) w':=λr w' hh=>by
    have q:jd 1 (.slice ar o.rs.length kr) o.rs.length (bu o.rs) w':=by rw[← Mg];exact oU (o:=o.fh (cU c o.dq (o.rs.take n))) hp ho2 hh
    have q2:=BQ q rfl N2 (Nat.le_refl _) N3
    rwa [List.take_of_length_le (by simp)]at q2
   have ex:bj c x p o (.steal v u)=(x.own p (o.fh (cU c o.dq (o.rs.take n)))).holds (decide (o.rs.drop n=u.left)):=by
    simp only[bj];rw[if_neg (λh=>by rw[hgn]at h;cases h.1),if_pos hu0,hn]
   have hdrop:(o.rs.drop n).length<=100000:=by rw[List.length_drop];omega
   gi_wp2
   refine wpIn_wide.2 ?_
   go_region_held3 (λw'=>w'.cell? ⟨b.bo,p*7+4,none⟩=some (.pointer (some ⟨dp,0,none⟩))/\w'.cell? ⟨b.bo,p*7+6,none⟩=some (.slice ar o.rs.length kr)) ((first | exact hT _ _ _ _ ho2 rfl hd6 | exact hT _ _ _ _ ho2 rfl h7 | exact hT _ _ _ _ ho2 rfl h8 | exact hT ((x.own p (o.fh (cU c o.dq (o.rs.take n)))).holds (decide (o.rs.drop n=u.left))) _ _ _ ho2 rfl h9 | fail)) ((first
    | (go_at_call 70;have hcon:=callsIn_wide.1 (HE 0 (x:=x.own p (o.fh (cU c o.dq (o.rs.take n)))) (o:=o.fh (cU c o.dq (o.rs.take n))) hp ho2 hM hmv hok hm hd6);(with_reducible refine hcon.mono ?_);clear hcon;rintro e w7 ⟨a7,k7,rfl,QP⟩;have h7:af ⟨w,F⟩ ([cf (.slice a7 u.left.length k7) u.left]++aF b c (x.own p (o.fh (cU c o.dq (o.rs.take n)))) es) w7:=QP;clear QP)
    | (go_at_call 37;have hcon:=callsIn_wide.1 (lU 0 _ _ (o.rs.drop n) u.left w7 (Qj _ _ h7) (bk h7) hdrop);(with_reducible refine hcon.mono ?_);clear hcon;rintro e w8 ⟨rfl,B8⟩;have h8:=bA h7 B8)
    | (go_at_call 64;have hcon:=callsIn_wide.1 (ke 0 (decide (o.rs.drop n=u.left)) h8);(with_reducible refine hcon.mono ?_);clear hcon;rintro e w9 ⟨rfl,h9⟩)))
   all_goals (gi_wp2;refine bodyPost_end (results_none rfl _ _ _) rfl ⟨rfl,es,?_⟩;rw[ex];exact aI h9)
section
variable{b:RB}{c:aP}{x:aE}{es:Nat->dm}{p:Nat}{o:bX}{bp:Nat}
theorem JH{u:gy}{ctx:dc}{w:World}{r:List aG}(hp:p<c.n)(ho:x.ow[p]? = some o)(hM:o.dx=some (.put u))(hmv:(es p).mv=.iface 81 (.pointer (some ⟨bp,0,none⟩)))(h:af ctx (r++aF b c x es) w) :
  ∃ F,cG [gA c p bp u] F w/\∀ (m:List aG) (w':World),af ⟨w,F⟩ (gA c p bp u::m) w'->af ctx (r++(m++aF b c x es)) w':=by
 obtain⟨F2,k2,back⟩:=gG hp ho h;rw[hmv,hM]at k2 back;obtain⟨bp',e,hp1⟩:=oQ (af.start k2);cases e;obtain⟨F3,k3,lZ⟩:=eA hp1;refine⟨F3,k3,λm w' hh=>back m w' (qB ?_)⟩;have:=lZ _ _ hh;rw[List.append_nil]at this;exact this
theorem JI{u:hY}{ctx:dc}{w:World}{r:List aG}(hp:p<c.n)(ho:x.ow[p]? = some o)(hM:o.dx=some (.get u))(hmv:(es p).mv=.iface 83 (.pointer (some ⟨bp,0,none⟩)))(h:af ctx (r++aF b c x es) w) :
  ∃ F,cG [je c p bp u] F w/\∀ (m:List aG) (w':World),af ⟨w,F⟩ (je c p bp u::m) w'->af ctx (r++(m++aF b c x es)) w':=by
 obtain⟨F2,k2,back⟩:=gG hp ho h;rw[hmv,hM]at k2 back;obtain⟨bp',e,hp1⟩:=oR (af.start k2);cases e;obtain⟨F3,k3,lZ⟩:=eA hp1;refine⟨F3,k3,λm w' hh=>back m w' (qC ?_)⟩;have:=lZ _ _ hh;rw[List.append_nil]at this;exact this
theorem JJ(n:Nat){ctx:dc}{w:World}{r:List aG}(hq:c.q=2\/c.q=4\/c.q=8)(hp:p<c.n)(ho:x.ow[p]? = some o)(hd:eR c o.dq){dv:Nat}(hdv:(es p).d=dv)(g:Int)(h:af ctx (r++aF b c x es) w) :
  CallsIn Fence.wide n prog 65 #[.pointer (some ⟨dv,0,none⟩),.int .i64 g] w λe w'=>∃ a k,e=.returned (.slice a (cK c o.dq g).2.length k)/\af ctx (r++([cf (.slice a (cK c o.dq g).2.length k) (cK c o.dq g).2]++aF b c (x.own p (o.fh (cK c o.dq g).1)) es)) w':=by
 obtain⟨F,k1,back⟩:=AN hp ho h;rw[hdv]at k1 back;refine(callsIn_wide.2 (Jq hq hd g k1)).mono ?_;rintro e w' ⟨z,lz,rfl,hh⟩;obtain⟨a,k,rfl⟩:=c8 (bk hh);exact⟨a,k,rfl,back _ [cf _ _] _ (hh.sel [1,0])⟩
theorem HG(n:Nat){u:gy}{ctx:dc}{w:World}{r:List aG}(hp:p<c.n)(ho:x.ow[p]? = some o)(hM:o.dx=some (.put u))(hmv:(es p).mv=.iface 81 (.pointer (some ⟨bp,0,none⟩)))(hok:oE c u)(hu0:u.st=0)(h:af ctx (r++aF b c x es) w) :
  CallsIn Fence.wide n prog 66 #[.pointer (some ⟨bp,0,none⟩)] w λe w'=>∃ a k,e=.returned (.slice a u.hs.length k)/\af ctx (r++([cf (.slice a u.hs.length k) u.hs]++aF b c x es)) w':=by
 obtain⟨F,k1,back⟩:=JH hp ho hM hmv h;refine(oT n hp hok k1).mono ?_;rintro e w' ⟨z,rfl,hh⟩;rw[if_pos hu0]at hh;obtain⟨a,k,rfl⟩:=c8 (bk hh);exact⟨a,k,rfl,back [cf _ _] _ (hh.sel [1,0])⟩
theorem JK(n:Nat){ctx:dc}{w:World}{r:List aG}(hq:c.q<=8)(hp:p<c.n)(ho:x.ow[p]? = some o)(hd:eR c o.dq){dv:Nat}(hdv:(es p).d=dv)(h:af ctx (r++aF b c x es) w) :
  CallsIn Fence.wide n prog 67 #[.pointer (some ⟨dv,0,none⟩)] w λe w'=>e=.returned (.tuple #[.int .i64 ((aX c o.dq).headD 0),.bool (decide (aO o.dq.w≠0))])/\af ctx (r++aF b c (x.own p (o.fh (lh o.dq))) es) w':=by
 obtain⟨F,k1,back⟩:=AN hp ho h;rw[hdv]at k1 back;refine(Jp n hq hd k1).mono ?_;rintro e w' ⟨rfl,hh⟩;exact⟨rfl,back (lh o.dq) [] _ hh⟩
theorem JL(n:Nat){u:hY}{ctx:dc}{w:World}{r:List aG}(hp:p<c.n)(ho:x.ow[p]? = some o)(hM:o.dx=some (.get u))(hmv:(es p).mv=.iface 83 (.pointer (some ⟨bp,0,none⟩)))(h:af ctx (r++aF b c x es) w) :
  CallsIn Fence.wide n prog 68 #[.pointer (some ⟨bp,0,none⟩)] w λe w'=>e=.returned (.tuple #[.int .i64 (if u.has then u.sn else 0),.bool u.has])/\af ctx (r++aF b c x es) w':=by
 obtain⟨F,k1,back⟩:=JI hp ho hM hmv h;exact(callsIn_wide.2 (BK hp k1)).mono (λe w' ⟨e1,hh⟩=>⟨e1,back [] _ hh⟩)
theorem sc{ctx:dc}{w:World}{r:List aG}{M:bG}(hp:p<c.n)(ho:x.ow[p]? = some o)(hM:o.dx=some M)(h:af ctx (r++aF b c x es) w):∃ bp,(es p).mv=.iface (match M with | .put _ => 81 | .get _ => 83 | .steal _ _ => 85) (.pointer (some ⟨bp,0,none⟩)):=by
 obtain⟨F2,k2,back⟩:=gG hp ho h;rw[hM]at k2;cases M with
 | put u=>obtain⟨bp,e,_⟩:=oQ (af.start k2);exact⟨bp,e⟩
 | get u=>obtain⟨bp,e,_⟩:=oR (af.start k2);exact⟨bp,e⟩
 | steal v u=>obtain⟨bp,e,_⟩:=iP (af.start k2);exact⟨bp,e⟩
end
structure wq(c:aP)(x:aE)(p:Nat)(o:bX)(M:bG):Prop where
 q:c.q=2\/c.q=4\/c.q=8
 mem:bT c x.m
 dx:li c p M
 dq:eR c o.dq
 rs:o.rs.length<=64
 get:∀ u,M=.get u->u.st=0->(aX c o.dq).headD 0=(if u.has then u.sn else 0)/\decide (aO o.dq.w≠0)=u.has
 steal:∀ v u,M=.steal v u->o.cv=(v:Int)/\u.hands.length<=100/\u.left.length<=100/\∃ ov,x.ow[v]? = some ov/\eR c ov.dq
set_option maxHeartbeats 2000000 in
theorem HI(m:Nat){b:RB}{c:aP}{x:aE}{es:Nat->dm}{p:Nat}{o:bX}{M:bG}(hp:p<c.n)(ho:x.ow[p]? = some o)(hM:o.dx=some M)(hok:wq c x p o M){F:Nat->Prop}{w:World}(h:cG (aF b c x es) F w) :
  CallsIn Fence.wide m prog 36 #[.pointer (some ⟨b.br,0,none⟩),.pointer (some ⟨b.bo,p*7,none⟩),.bool (decide (M.st=0))] w λe w'=>e=.returned (.tuple #[])/\∃ es',af ⟨w,F⟩ (aF b c (bj c x p o M) es') w':=by
 refine callsIn_of_wp func36 rfl trivial ?_ rfl;simp only[ntmps36,List.size_toArray,List.length_cons,List.length_nil,Nat.reduceAdd,Nat.reduceSub,Array.replicate_succ,Array.replicate_zero,List.push_toArray,List.append_toArray,List.nil_append,List.cons_append];have hst:af ⟨w,F⟩ ([]++aF b c x es) w:=af.start h;have hq8:c.q<=8:=by have:=hok.q;omega
 obtain⟨bp,hmv⟩:=sc hp ho hM hst;obtain⟨dv,wo⟩:∃ dv,(es p).d=dv:=⟨_,rfl⟩;obtain⟨bd,hbd⟩:∃ bd,decide (M.st=0)=bd:=⟨_,rfl⟩;rw[hbd];have hlt:p<x.ow.length:=(List.getElem?_eq_some_iff.1 ho).1;have hT:∀ (x':aE) (o':bX) (r:List aG) (w':World),x'.ow[p]? = some o'->o'.cg=o.cg->af ⟨w,F⟩ (r++aF b c x' es) w'->w'.cell? ⟨b.bo,p*7+4,none⟩=some (.pointer (some ⟨dv,0,none⟩))/\w'.cell? ⟨b.bo,p*7+2,none⟩=some (.int .i64 o.cg):=λx' o' r w' ho' hr' hh=>⟨cA hp ho' hh (by rw[← wo];rfl),cA hp ho' hh (by rw[← hr'];rfl)⟩
 cases M with
 | put u =>
  have y6:(es p).mv=.iface 81 (.pointer (some ⟨bp,0,none⟩)):=hmv;have e3:w.cell? ⟨b.bo,p*7+3,none⟩=some (.iface 81 (.pointer (some ⟨bp,0,none⟩))):=cA hp ho hst (by rw[← y6];rfl);have a1:=KK bp;cases bd with
  | false =>
   have hu0:¬ u.st=0:=of_decide_eq_false hbd
   gi_wp2
   refine bodyPost_end (results_none rfl _ _ _) rfl ⟨rfl,es,?_⟩;simp only[bj,if_neg hu0];exact aI hst
  | true =>
   have hu0:u.st=0:=of_decide_eq_true hbd;have hd4:=bA hst ((Below.refl _ w).drew);have hlen:(cK c o.dq o.cg).2.length<=100000:=by
    have:=hok.dq.sz;unfold cK
    split
    ·simp
    ·simp only[List.length_append,List.length_drop,aX,List.length_map,List.length_range,List.length_cons,List.length_nil]
     omega
   have ho1:(x.own p (o.fh (cK c o.dq o.cg).1)).ow[p]? = some (o.fh (cK c o.dq o.cg).1):=List.getElem?_set_self hlt
   gi_wp2
   refine wpIn_wide.2 ?_
   go_region_held3 (λw'=>w'.cell? ⟨b.bo,p*7+4,none⟩=some (.pointer (some ⟨dv,0,none⟩))/\w'.cell? ⟨b.bo,p*7+2,none⟩=some (.int .i64 o.cg)) ((first | exact hT _ _ _ _ ho rfl hd4 | exact hT _ _ _ _ ho1 rfl h3 | exact hT _ _ _ _ ho1 rfl h4 | exact hT _ _ _ _ ho1 rfl h5 | exact hT ((x.own p (o.fh (cK c o.dq o.cg).1)).holds (decide ((cK c o.dq o.cg).2=u.hs))) _ _ _ ho1 rfl h6 | fail)) ((first
    | (go_at_call 65;have hcon:=callsIn_wide.1 (JJ 0 hok.q hp ho hok.dq wo o.cg hd4);(with_reducible refine hcon.mono ?_);clear hcon;rintro e w3 ⟨a3,k3,rfl,h3'⟩;have h3:af ⟨w,F⟩ ([cf (.slice a3 (cK c o.dq o.cg).2.length k3) (cK c o.dq o.cg).2]++aF b c (x.own p (o.fh (cK c o.dq o.cg).1)) es) w3:=h3';clear h3')
    | (go_at_call 66;have hcon:=callsIn_wide.1 (HG 0 (x:=x.own p (o.fh (cK c o.dq o.cg).1)) (o:=o.fh (cK c o.dq o.cg).1) hp ho1 hM y6 hok.dx hu0 h3);(with_reducible refine hcon.mono ?_);clear hcon;rintro e w4 ⟨a4,k4,rfl,h4'⟩;have h4:af ⟨w,F⟩ ([cf (.slice a3 (cK c o.dq o.cg).2.length k3) (cK c o.dq o.cg).2,cf (.slice a4 u.hs.length k4) u.hs]++aF b c (x.own p (o.fh (cK c o.dq o.cg).1)) es) w4:=h4';clear h4')
    | (go_at_call 37;have hcon:=callsIn_wide.1 (lU 0 _ _ (cK c o.dq o.cg).2 u.hs w4 (bk h4) (bk (bU h4)) hlen);(with_reducible refine hcon.mono ?_);clear hcon;rintro e w5 ⟨rfl,B5⟩;have h5:=bA h4 B5)
    | (go_at_call 64;have hcon:=callsIn_wide.1 (ke 0 (decide ((cK c o.dq o.cg).2=u.hs)) h5);(with_reducible refine hcon.mono ?_);clear hcon;rintro e w6 ⟨rfl,h6⟩)))
   gi_wp2
   refine bodyPost_end (results_none rfl _ _ _) rfl ⟨rfl,es,?_⟩;simp only[bj,if_pos hu0];exact aI h6
 | get u =>
  have y6:(es p).mv=.iface 83 (.pointer (some ⟨bp,0,none⟩)):=hmv;have e3:w.cell? ⟨b.bo,p*7+3,none⟩=some (.iface 83 (.pointer (some ⟨bp,0,none⟩))):=cA hp ho hst (by rw[← y6];rfl);have a1:=KM bp;have a2:=NR bp;cases bd with
  | false =>
   have hu0:¬ u.st=0:=of_decide_eq_false hbd
   gi_wp2
   refine bodyPost_end (results_none rfl _ _ _) rfl ⟨rfl,es,?_⟩;simp only[bj,if_neg hu0];exact aI hst
  | true =>
   have hu0:u.st=0:=of_decide_eq_true hbd;obtain⟨e4,_⟩:=hT _ _ _ _ ho rfl hst;obtain⟨g1,g2⟩:=hok.get u rfl hu0;obtain⟨g,hg⟩:∃ g,(if u.has then u.sn else 0)=g:=⟨_,rfl⟩;obtain⟨bz,hbz⟩:∃ bz,u.has=bz:=⟨_,rfl⟩;rw[hg]at g1;rw[hbz]at g2;have ho1:(x.own p (o.fh (lh o.dq))).ow[p]? = some (o.fh (lh o.dq)):=List.getElem?_set_self hlt
   gi_wp2
   refine⟨trivial,λh=>by simp[Fence.wide]at h,(JK (m-1) hq8 hp ho hok.dq wo hst).mono ?_⟩;rintro e w3 ⟨rfl,h3⟩;rw[g1,g2]
   gi_wp2
   refine⟨trivial,λh=>by simp[Fence.wide]at h,(JL (m-1) (x:=x.own p (o.fh (lh o.dq))) (o:=o.fh (lh o.dq)) hp ho1 hM y6 h3).mono ?_⟩;rintro e w4 ⟨rfl,h4⟩;rw[hg,hbz];clear g1 g2 hg hbz;have hbb:(bz==bz)=true:=by simp
   have hee:(g==g)=true:=by simp
   gi_wp2
   refine⟨trivial,λh=>by simp[Fence.wide]at h,(ke (m-1) (x:=x.own p (o.fh (lh o.dq))) true h4).mono ?_⟩;rintro e w5 ⟨rfl,h5⟩
   gi_wp2
   refine bodyPost_end (results_none rfl _ _ _) rfl ⟨rfl,es,?_⟩;have ex:(decide ((aX c o.dq).headD 0=(if u.has then u.sn else 0))&&(decide (aO o.dq.w≠0)==u.has))=true:=by
    obtain⟨k1,k2⟩:=hok.get u rfl hu0;rw[k1,k2];simp
   simp only[bj,if_pos hu0,ex];exact aI h5
 | steal v u =>
  have y6:(es p).mv=.iface 85 (.pointer (some ⟨bp,0,none⟩)):=hmv;have e3:w.cell? ⟨b.bo,p*7+3,none⟩=some (.iface 85 (.pointer (some ⟨bp,0,none⟩))):=cA hp ho hst (by rw[← y6];rfl);have a1:=KN bp;have a2:=NU bp;have a3:=KO bp;obtain⟨s1,s2,s3,ov,s4,s5⟩:=hok.steal v u rfl;have hs:=DA (m-1) hq8 hp ho hM y6 s1 hok.dx hok.mem s4 hok.dq s5 hok.rs s2 s3 h;rw[show decide (u.st=0)=bd from hbd]at hs
  gi_wp2
  refine⟨trivial,λh=>by simp[Fence.wide]at h,hs.mono ?_⟩;rintro e w3 ⟨rfl,es',h3⟩
  gi_wp2
  exact bodyPost_end (results_none rfl _ _ _) rfl ⟨rfl,es',h3⟩
section
variable{c:aP}{B:Int}{x:aE}{p:Nat}{o:bX}{M:bG}
theorem Ca{gn:Bool}{rs:List Int}{m:bw}(h:yP c B m p M gn rs):li c p M:=by
 cases M with
 | put u=>exact r6.ok h
 | get u=>exact r7.ok h
 | steal v u=>exact⟨h.2.2.ok,h.1,h.2.1⟩
theorem HJ{u:bD}(h:eZ u):u.hands.length<=100/\u.left.length<=100:=by
 unfold bD.hands bD.left;cases hl:u.ly with
 | none =>
  refine⟨by simp,?_⟩
  split<;>simp
 | some l =>
  have:=(h.lay l hl).1.ls;refine⟨by simp only[List.length_append,List.length_take];omega,?_⟩
  split
  ·show l.ls.length<=100
   omega
  ·simp
theorem sd(hI:dR c B x)(ho:x.ow[p]? = some o)(hM:o.dx=some M):li c p (M.step c p x.m).1:=by
 have hlt:p<x.ow.length:=(List.getElem?_eq_some_iff.1 ho).1;have hp:p<c.n:=by rw[← hI.len];exact hlt
 obtain⟨h0,wC,hC⟩:=(hI.ow p o ho).dx M hM;cases M with
 | put u=>exact(rL hp (r6.ok wC) hI.R.mem).1
 | get u=>exact(rN hp (r7.ok wC) hI.R.mem).1
 | steal v u =>
  obtain⟨hv,hpv,MG⟩:=wC;exact⟨(iD hp hv MG.ok hI.R.mem hI.R.sl).1,hv,hpv⟩
def wu(c:aP)(x:aE)(p:Nat)(o:bX)(M:bG):aE:=aE.own ⟨(M.step c p x.m).2,x.ow,x.pts,x.bad⟩ p (o.now (some (M.step c p x.m).1))
theorem HK(hI:dR c B x)(ho:x.ow[p]? = some o)(hM:o.dx=some M):wq c (wu c x p o M) p (o.now (some (M.step c p x.m).1)) (M.step c p x.m).1:=by
 have hlt:p<x.ow.length:=(List.getElem?_eq_some_iff.1 ho).1;have hp:p<c.n:=by rw[← hI.len];exact hlt
 have hO:=hI.ow p o ho;obtain⟨h0,wC,hC⟩:=hO.dx M hM;refine⟨hI.R.h8,(r9 hI ho hM).1,sd hI ho hM,hO.dq.ok,hO.rs,λu hu hst=>?_,λv u hu=>?_⟩
 ·cases M with
  | put u'=>cases hu
  | get u' =>
   cases hu;obtain⟨_,_,_,_,k6⟩:=yO hI.R hp wC h0;obtain⟨_,j2,j3,_⟩:=k6 hst o.dq hO.dq;exact⟨j2,j3⟩
  | steal v u'=>cases hu
 ·cases M with
  | put u'=>cases hu
  | get u'=>cases hu
  | steal v' u' =>
   cases hu;obtain⟨hv,hpv,MG⟩:=wC;obtain⟨q1,q2⟩:=HJ (iD hp hv MG.ok hI.R.mem hI.R.sl).1;obtain⟨ov,hov⟩:∃ ov,x.ow[v]? = some ov:=⟨_,List.getElem?_eq_getElem (by rw[hI.len];exact hv)⟩;refine⟨hC.2,q1,q2,ov,?_,(hI.ow v ov hov).dq.ok⟩;show(x.ow.set p _)[v]? = _;rw[List.getElem?_set_ne (Ne.symm hpv),hov]
end
section
variable{ctx:dc}{w:World}{r:List aG}{b:RB}{c:aP}{x:aE}{es:Nat->dm}{p:Nat}{o:bX}
theorem Mh(hp:p<c.n)(ho:x.ow[p]? = some o)(h:af ctx (r++aF b c x es) w) :
  ∃ F,cG [ft c p (es p).mv o.dx,aK b.bm x.m] F w/\∀ (M':Option bG) (m':bw) (w':World),af ⟨w,F⟩ [ft c p (es p).mv M',aK b.bm m'] w'->af ctx (r++aF b c (aE.own ⟨m',x.ow,x.pts,x.bad⟩ p (o.now M')) es) w':=by
 have hlt:p<x.ow.length:=(List.getElem?_eq_some_iff.1 ho).1;have h1:af ctx (cV c x.ow es++([aK b.bm x.m]++([d_ b c x,fb b c x.ow es]++r))) w:=ay (bV (λf=>by simp only[aF,gX,List.map_append,List.map_cons,List.map_nil,List.sum_append,List.sum_cons,List.sum_nil];omega)) h;obtain⟨F1,k1,back⟩:=AK [aK b.bm x.m] hp hlt ho h1;have k2:af ⟨w,F1⟩ ([ft c p (es p).mv o.dx,aK b.bm x.m]++[hZ c (es p).d o.dq,cf (es p).rv o.rs]) w:=(af.start k1).sel [1,3,0,2];obtain⟨F2,k3,oS⟩:=cQ _ k2;refine⟨F2,k3,λM' m' w' hh=>?_⟩;have h2:af ⟨w,F1⟩ (fX c p (o.now M') (es p)++[aK b.bm m']) w':=(oS _ _ hh).sel [2,0,3,1];have h3:=back (o.now M') (es p) [aK b.bm m'] w' h2;rw[eE]at h3;have e:aF b c (aE.own ⟨m',x.ow,x.pts,x.bad⟩ p (o.now M')) es=[d_ b c x,aK b.bm m',fb b c x.ow es]++cV c (x.ow.set p (o.now M')) es:=by
  show[d_ b c x,aK b.bm m',fb b c (x.ow.set p (o.now M')) es]++cV c (x.ow.set p (o.now M')) es=_;unfold fb;rw[uv (o':=o.now M') ho rfl]
 rw[e];exact ay (bV (λf=>by simp only[List.map_append,List.map_cons,List.map_nil,List.sum_append,List.sum_cons,List.sum_nil];omega)) h3
theorem y7(n:Nat)(hp:p<c.n)(hm:bT c x.m)(h:af ctx (r++aF b c x es) w) :
  CallsIn Fence.wide n prog 15 #[.pointer (some ⟨b.br,0,none⟩),.int .i64 (p:Int)] w λe w'=>∃ a k,e=.returned (.slice a (ii c x.m p).length k)/\af ctx (cf (.slice a (ii c x.m p).length k) (ii c x.m p)::(r++aF b c x es)) w':=by
 have h1:af ctx ([d_ b c x,aK b.bm x.m]++([fb b c x.ow es]++(cV c x.ow es++r))) w:=ay (bV (λf=>by simp only[aF,gX,List.map_append,List.map_cons,List.map_nil,List.sum_append,List.sum_cons,List.sum_nil];omega)) h;obtain⟨F,k1,back⟩:=cQ _ h1;refine(JE n hp hm k1).mono ?_;rintro e w' ⟨v,lv,rfl,hh⟩;obtain⟨a,k,rfl⟩:=c8 (bk hh);refine⟨a,k,rfl,ay (bV (λf=>?_)) (back _ _ hh)⟩;simp only[aF,gX,List.map_append,List.map_cons,List.map_nil,List.sum_append,List.sum_cons,List.sum_nil];omega
theorem DB(n:Nat)(hq:c.q<=8)(hp:p<c.n)(ho:x.ow[p]? = some o)(hd:eR c o.dq)(h:af ctx (r++aF b c x es) w) :
  CallsIn Fence.wide n prog 18 #[.pointer (some ⟨b.br,0,none⟩),.int .i64 (p:Int)] w λe w'=>∃ a k,e=.returned (.slice a (aX c o.dq).length k)/\af ctx (cf (.slice a (aX c o.dq).length k) (aX c o.dq)::(r++aF b c x es)) w':=by
 obtain⟨F,k1,back⟩:=cQ _ (ay List.perm_append_comm h);refine(HB n hq hp ho hd k1).mono ?_;rintro e w' ⟨v,lv,rfl,hh⟩;have h2:af ⟨w,F⟩ ([cf v (aX c o.dq)]++aF b c x es) w':=ay List.perm_append_comm hh;obtain⟨a,k,rfl⟩:=c8 (bk h2);refine⟨a,k,rfl,ay (bV (λf=>?_)) (back _ _ h2)⟩;simp only[List.map_append,List.map_cons,List.map_nil,List.sum_append,List.sum_cons,List.sum_nil];omega
theorem DC(n:Nat){M:bG}(hp:p<c.n)(ho:x.ow[p]? = some o)(hM:o.dx=some M)(hok:wq c x p o M)(h:af ctx (r++aF b c x es) w) :
  CallsIn Fence.wide n prog 36 #[.pointer (some ⟨b.br,0,none⟩),.pointer (some ⟨b.bo,p*7,none⟩),.bool (decide (M.st=0))] w λe w'=>e=.returned (.tuple #[])/\∃ es',af ctx (r++aF b c (bj c x p o M) es') w':=by
 obtain⟨F,k1,back⟩:=cQ _ (ay List.perm_append_comm h);refine(HI n hp ho hM hok k1).mono ?_;rintro e w' ⟨rfl,es',hh⟩;exact⟨rfl,es',ay List.perm_append_comm (back _ _ hh)⟩
theorem JM(n:Nat){M:bG}(hp:p<c.n)(ho:x.ow[p]? = some o)(hM:o.dx=some M)(hok:li c p M)(hm:bT c x.m)(h:af ctx (r++aF b c x es) w) :
  CallsIn Fence.wide n prog 38 #[.pointer (some ⟨b.bo,p*7,none⟩)] w λe w'=>∃ a k,e=.returned (.agg #[.int .i64 o.kd,.int .i64 M.got,.slice a M.over.length k])/\af ctx (cf (.slice a M.over.length k) M.over::(r++aF b c x es)) w':=by
 obtain⟨F,k1,back⟩:=cQ _ (ay List.perm_append_comm h);refine(AL n hp ho hM hok hm k1).mono ?_;rintro e w' ⟨v,lv,rfl,hh⟩;have h2:af ⟨w,F⟩ ([cf v M.over]++aF b c x es) w':=ay List.perm_append_comm hh;obtain⟨a,k,rfl⟩:=c8 (bk h2);refine⟨a,k,rfl,ay (bV (λf=>?_)) (back _ _ h2)⟩;simp only[List.map_append,List.map_cons,List.map_nil,List.sum_append,List.sum_cons,List.sum_nil];omega
end
end Go.Proofs.YtkmccgombmogmaaGreat
