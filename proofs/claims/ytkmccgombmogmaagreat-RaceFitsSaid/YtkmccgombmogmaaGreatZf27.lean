/- Part of a proof: see the last text. -/
import Derived.Test.YtkmccgombmogmaaGreatZf26
set_option linter.unusedSimpArgs false
set_option linter.unusedVariables false
namespace Go.Proofs.YtkmccgombmogmaaGreat
open Go.Ev Go.Proofs.Tryz
open Go.RowKit
set_option maxRecDepth 8000
theorem uW{l:List ct}{es:Nat->dC}{p:Nat}{o o':ct}(ho:l[p]? = some o)(h:ownRow o' (es p)=ownRow o (es p)):rowAt (l.set p o') es=rowAt l es:=by
 funext q
 unfold rowAt
 by_cases e:q=p
 ·subst e
  rw[List.getElem?_set_self (List.getElem?_eq_some_iff.1 ho).1,ho];exact h
 ·rw[List.getElem?_set_ne (Ne.symm e)]
section
variable{ctx:dt}{w:World}{r:List aF}{b:RB}{c:aU}{x:aI}{es:Nat->dC}{p:Nat}{o:ct}
theorem w_(hp:p<c.n)(ho:x.ow[p]? = some o)(h:af ctx (r++aB b c x es) w) :
  ∃ F,cL (fN c p o (es p)) F w/\∀ (o':ct) (m:List aF) (w':World),ownRow o' (es p)=ownRow o (es p)->af ⟨w,F⟩ (fN c p o' (es p)++m) w'->af ctx (r++(m++aB b c (x.own p o') es)) w':=by
 have hlt:p<x.ow.length:=(List.getElem?_eq_some_iff.1 ho).1;obtain⟨F1,k1,back⟩:=Bi (r:=gq b c x es++r) [] hp hlt ho (mS (ax List.perm_append_comm h));rw[List.append_nil]at k1;refine⟨F1,k1,λo' m w' hr hh=>?_⟩;have h1:=back o' (es p) m w' hh;rw[eR]at h1;have e:gq b c (x.own p o') es=gq b c x es:=by
  show[eB b c x,aN b.bm x.m,fq b c (x.ow.set p o') es]=_;unfold fq;rw[uW ho hr];rfl
 refine ax (cn (λf=>?_)) h1;unfold aB;rw[e];simp only[aI.own,List.map_append,List.sum_append];omega
theorem Bk(hp:p<c.n)(ho:x.ow[p]? = some o)(h:af ctx (r++aB b c x es) w) :
  ∃ F,cL [ib c (es p).d o.dq] F w/\∀ (d:kC) (m:List aF) (w':World),af ⟨w,F⟩ (ib c (es p).d d::m) w'->af ctx (r++(m++aB b c (x.own p (o.fA d)) es)) w':=by
 obtain⟨F1,k1,back⟩:=w_ hp ho h;obtain⟨F2,k2,lH⟩:=dx (af.start k1);refine⟨F2,k2,λd m w' hh=>back (o.fA d) m w' rfl ?_⟩;exact ax (cn (λf=>by simp only[fN,ct.fA,List.cons_append,List.map_append,List.map_cons,List.map_nil,List.sum_append,List.sum_cons,List.sum_nil,List.nil_append];omega)) (lH _ _ hh)
theorem KF(hp:p<c.n)(ho:x.ow[p]? = some o)(h:af ctx (r++aB b c x es) w) :
  ∃ F,cL [ib c (es p).d o.dq,bJ (es p).rv o.rs] F w/\∀ (d:kC) (m:List aF) (w':World),af ⟨w,F⟩ (ib c (es p).d d::bJ (es p).rv o.rs::m) w'->af ctx (r++(m++aB b c (x.own p (o.fA d)) es)) w':=by
 obtain⟨F1,k1,back⟩:=w_ hp ho h;have k1':af ⟨w,F1⟩ ([ib c (es p).d o.dq,bJ (es p).rv o.rs]++[fm c p (es p).mv o.dE]) w:=(af.start k1).sel [0,2,1];obtain⟨F2,k2,lH⟩:=cU _ k1';refine⟨F2,k2,λd m w' hh=>back (o.fA d) m w' rfl ?_⟩;exact ax (cn (λf=>by simp only[fN,ct.fA,List.cons_append,List.map_append,List.map_cons,List.map_nil,List.sum_append,List.sum_cons,List.sum_nil,List.nil_append];omega)) (lH _ _ hh)
theorem Np(h:af ctx (r++aB b c x es) w) :
  ∃ F,cL [eB b c x] F w/\∀ (is:Bool) (w':World),af ⟨w,F⟩ [eB b c (x.holds is)] w'->af ctx (r++aB b c (x.holds is) es) w':=by
 have h1:af ctx ([eB b c x]++([aN b.bm x.m,fq b c x.ow es]++(db c x.ow es++r))) w:=ax (cn (λf=>by simp only[aB,gq,List.map_append,List.map_cons,List.map_nil,List.sum_append,List.sum_cons,List.sum_nil];omega)) h;obtain⟨F,k1,back⟩:=cU _ h1;refine⟨F,k1,λis w' hh=>?_⟩;exact ax (cn (λf=>by simp only[aB,gq,aI.holds,List.map_append,List.map_cons,List.map_nil,List.sum_append,List.sum_cons,List.sum_nil];omega)) (back _ _ hh)
theorem cT(h:af ctx (r++aB b c x es) w):w.heap[b.br]? = some (Obj.cells (CA b c x) 73 (0,0)):=sX (ax List.perm_append_comm h)
theorem cH(hp:p<c.n)(ho:x.ow[p]? = some o)(h:af ctx (r++aB b c x es) w){j:Nat}{v:Value}(hj:(ownRow o (es p))[j]? = some v):w.cell? ⟨b.bo,p*7+j,none⟩=some v:=ja hp ho (gO (ax List.perm_append_comm h)) hj
theorem D3(hn:0<c.n)(h:af ctx (fq b c x.ow es::r) w)(j:Nat):w.frozen? ⟨b.bo,j,none⟩=false:=by
 obtain⟨f,hf⟩:=h.first
 obtain⟨_,⟨_,h0,_⟩ | ⟨b',off,c',arr,e,_,hb,_⟩⟩:=hf
 ·omega
 ·cases e
  exact cf hb j
theorem cX(h:af ctx (r++aB b c x es) w)(j:Nat):w.frozen? ⟨b.bo,j,none⟩=false:=D3 (x:=x) c.nb.1 (gO (ax List.perm_append_comm h)) j
theorem dz(hp:p<c.n)(ho:x.ow[p]? = some o){o':ct}{e':dC}(j:Nat)(hj:j<7)(v:Value)(hr:(ownRow o (es p)).set j v=ownRow o' e')(r':List aF)(hown:∀ (m:List aF) (w:World),af ctx (fN c p o (es p)++(r++m)) w->af ctx (fN c p o' e'++(r'++m)) w)(h:af ctx (r++aB b c x es) w):af ctx (r'++aB b c (x.own p o') (jT es p e')) (w.setCell ⟨b.bo,p*7+j,none⟩ v):=by
 have hlt:p<x.ow.length:=(List.getElem?_eq_some_iff.1 ho).1;have h1:af ctx (fq b c x.ow es::([eB b c x,aN b.bm x.m]++(db c x.ow es++r))) w:=ax (cn (λf=>by simp only[aB,gq,List.map_append,List.map_cons,List.map_nil,List.sum_append,List.sum_cons,List.sum_nil];omega)) h;have h2:=HW hlt hp ho j hj v hr h1;have h3:af ctx (db c x.ow es++(r++[fq b c (x.ow.set p o') (jT es p e'),eB b c x,aN b.bm x.m])) _:=ax (cn (λf=>by simp only[List.map_append,List.map_cons,List.map_nil,List.sum_append,List.sum_cons,List.sum_nil];omega)) h2;have h4:=(Cz hp ho h3).open;have h5:af ctx (fN c p o (es p)++(r++((db c x.ow es).eraseIdx p++[fq b c (x.ow.set p o') (jT es p e'),eB b c x,aN b.bm x.m]))) _:=ax (cn (λf=>by simp only[fN,List.map_append,List.map_cons,List.map_nil,List.sum_append,List.sum_cons,List.sum_nil];omega)) h4;have h5':af ctx (fN c p o' e'++((db c x.ow es).eraseIdx p++([fq b c (x.ow.set p o') (jT es p e'),eB b c x,aN b.bm x.m]++r'))) _:=ax (cn (λf=>by simp only[fN,List.map_append,List.map_cons,List.map_nil,List.sum_append,List.sum_cons,List.sum_nil];omega)) (hown _ _ h5);have h6:=HU hp hlt (af.shut h5');have e:aB b c (x.own p o') (jT es p e')=[eB b c x,aN b.bm x.m,fq b c (x.ow.set p o') (jT es p e')]++db c (x.ow.set p o') (jT es p e'):=rfl;rw[e];exact ax (cn (λf=>by simp only[ List.map_append,List.map_cons,List.map_nil,List.sum_append,List.sum_cons,List.sum_nil];omega)) h6
end
theorem Bl{w:World}{a:Option Addr}{n k lo:Nat}{xs:List Value}(h:iM 1 (.slice a n k) n xs w)(hl:n=n):∃ ac cc,Ev.cutV 1 (.slice a n k) lo n=.slice ac (n-lo) cc:=by
 cases a with
 | none=>exact⟨none,k-lo,by simp[Ev.cutV]⟩
 | some a =>
  by_cases e:k=lo
  ·exact⟨_,k-lo,by simp only[Ev.cutV,if_pos e];rfl⟩
  ·exact⟨_,k-lo,by simp only[Ev.cutV,if_neg e];rfl⟩
theorem CB{l:List Int}{k1:Nat}{v:Value}(h:min 1 l.length=k1):bT 3 1 v (l.length-k1) ((aX l).drop (k1*1))=bJ v (l.drop 1):=by
 unfold bJ;rw[Nat.mul_one];cases l with
 | nil =>
  have:k1=0:=by simpa using h.symm
  subst this;rfl
 | cons g l =>
  have:k1=1:=by simp at h;omega
  subst this;simp[aX]
theorem aH{ctx:dt}{r l:List aF}{w:World}(h:af ctx (r++l) w):af ctx l w:=by
 obtain⟨F',m1,m2,m3⟩:=h.ex;obtain⟨G1,G2,q1,q2,q3,q4⟩:=cV m1;exact⟨G2,q2,m2,λj hj=>m3 j ((q4 j).2 (.inr hj))⟩
theorem eS(x:aI)(p:Nat)(a b:ct):(x.own p a).own p b=x.own p b:=by
 unfold aI.own;simp only[List.set_set]
theorem zr{ctx:dt}{w:World}{m:List aF}{c:aU}{p:Nat}{o:ct}{e:dC}{v:Value}{l:List Int}{gn:Bool}(h:af ctx (fN c p o e++([bJ v l]++m)) w):af ctx (fN c p ⟨o.kd,o.cv,o.cg,o.dE,o.dq,gn,l⟩ ⟨e.d,e.mv,v⟩++([]++m)) w:=by
 have h1:af ctx ([bJ e.rv o.rs]++(ib c e.d o.dq::fm c p e.mv o.dE::bJ v l::m)) w:=ax (cn (λf=>by simp only[fN,List.cons_append,List.nil_append,List.map_append,List.map_cons,List.map_nil,List.sum_append,List.sum_cons,List.sum_nil];omega)) h;exact aH h1
theorem pm{ctx:dt}{w:World}{r:List aF}{b:RB}{c:aU}{x:aI}{es:Nat->dC}{p:Nat}{o:ct}(hp:p<c.n)(ho:x.ow[p]? = some o)(h:af ctx (r++aB b c x es) w):iM 1 (es p).rv o.rs.length (aX o.rs) w:=by
 obtain⟨F1,k1,_⟩:=w_ hp ho h;have k1':af ⟨w,F1⟩ [bJ (es p).rv o.rs] w:=(af.start k1).sel [2];exact aZ k1'
section
variable{b:RB}{c:aU}{x:aI}{es:Nat->dC}{p v:Nat}{o ov:ct}{u:bP}{bp:Nat}
theorem p7{ctx:dt}{w:World}{r:List aF}(hp:p<c.n)(ho:x.ow[p]? = some o)(hM:o.dE=some (.steal v u))(hmv:(es p).mv=.iface 85 (.pointer (some ⟨bp,0,none⟩)))(h:af ctx (r++aB b c x es) w) :
  ∃ F,cL [c8 c p v bp u] F w/\∀ (m:List aF) (w':World),af ⟨w,F⟩ (c8 c p v bp u::m) w'->af ctx (r++(m++aB b c x es)) w':=by
 obtain⟨F2,k2,back⟩:=gR hp ho h;rw[hmv,hM]at k2 back;obtain⟨bp',e,hp1⟩:=gN (af.start k2);cases e;obtain⟨F3,k3,mt⟩:=dx hp1;refine⟨F3,k3,λm w' hh=>back m w' (jb ?_)⟩;have:=mt _ _ hh;rw[List.append_nil]at this;exact this
theorem D4(n:Nat){ctx:dt}{w:World}{r:List aF}(hp:p<c.n)(ho:x.ow[p]? = some o)(hM:o.dE=some (.steal v u))(hmv:(es p).mv=.iface 85 (.pointer (some ⟨bp,0,none⟩)))(hok:iE c p (.steal v u))(hm:bY c x.m)(h:af ctx (r++aB b c x es) w) :
  CallsIn Fence.wide n prog 99 #[.pointer (some ⟨bp,0,none⟩)] w λe w'=>∃ a k,e=.returned (.slice a u.hands.length k)/\af ctx (r++([bJ (.slice a u.hands.length k) u.hands]++aB b c x es)) w':=by
 obtain⟨F,k1,back⟩:=p7 hp ho hM hmv h;refine(qs n hp hok.2.1 hok.1 hm k1).mono ?_;rintro e w' ⟨z,lz,rfl,hh⟩;obtain⟨a,k,rfl⟩:=cS (aZ hh);exact⟨a,k,rfl,back [bJ _ _] _ (hh.sel [1,0])⟩
theorem H6(n:Nat){ctx:dt}{w:World}{r:List aF}(hp:p<c.n)(ho:x.ow[p]? = some o)(hM:o.dE=some (.steal v u))(hmv:(es p).mv=.iface 85 (.pointer (some ⟨bp,0,none⟩)))(hok:iE c p (.steal v u))(h:af ctx (r++aB b c x es) w) :
  CallsIn Fence.wide n prog 100 #[.pointer (some ⟨bp,0,none⟩)] w λe w'=>e=.returned (.int .i64 (u.many:Int))/\af ctx (r++aB b c x es) w':=by
 obtain⟨F,k1,back⟩:=p7 hp ho hM hmv h;exact(callsIn_wide.2 (sx hp hok.2.1 hok.1 k1)).mono (λe w' ⟨e1,hh⟩=>⟨e1,back [] _ hh⟩)
theorem H7(n:Nat){ctx:dt}{w:World}{r:List aF}(hp:p<c.n)(ho:x.ow[p]? = some o)(hM:o.dE=some (.steal v u))(hmv:(es p).mv=.iface 85 (.pointer (some ⟨bp,0,none⟩)))(hok:iE c p (.steal v u))(hm:bY c x.m)(h:af ctx (r++aB b c x es) w) :
  CallsIn Fence.wide n prog 70 #[.pointer (some ⟨bp,0,none⟩)] w λe w'=>∃ a k,e=.returned (.slice a u.left.length k)/\af ctx (r++([bJ (.slice a u.left.length k) u.left]++aB b c x es)) w':=by
 obtain⟨F,k1,back⟩:=p7 hp ho hM hmv h;refine(callsIn_wide.2 (sD hp hok.2.1 hok.1 hm k1)).mono ?_;rintro e w' ⟨z,lz,rfl,hh⟩;obtain⟨a,k,rfl⟩:=cS (aZ hh);exact⟨a,k,rfl,back [bJ _ _] _ (hh.sel [1,0])⟩
theorem uX(n:Nat){ctx:dt}{w:World}{r:List aF}(hq:c.q<=8)(hv:v<c.n)(hov:x.ow[v]? = some ov)(hd:eU c ov.dq){dv:Nat}(hdv:(es v).d=dv)(h:af ctx (r++aB b c x es) w) :
  CallsIn Fence.wide n prog 101 #[.pointer (some ⟨dv,0,none⟩)] w λe w'=>∃ a k,e=.returned (.slice a (dn c ov.dq).length k)/\af ctx (r++([bJ (.slice a (dn c ov.dq).length k) (dn c ov.dq)]++aB b c (x.own v (ov.fA (cE ov.dq))) es)) w':=by
 obtain⟨F,k1,back⟩:=Bk hv hov h;rw[hdv]at k1 back;refine(DM n hq hd k1).mono ?_;rintro e w' ⟨z,lz,rfl,hh⟩;obtain⟨a,k,rfl⟩:=cS (aZ hh);exact⟨a,k,rfl,back (cE ov.dq) [bJ _ _] _ (hh.sel [1,0])⟩
theorem ky(n:Nat){ctx:dt}{w:World}{r:List aF}(is:Bool)(h:af ctx (r++aB b c x es) w) :
  CallsIn Fence.wide n prog 64 #[.pointer (some ⟨b.br,0,none⟩),.bool is] w λe w'=>e=.returned (.tuple #[])/\af ctx (r++aB b c (x.holds is) es) w':=by
 obtain⟨F,k1,back⟩:=Np h;exact(H5 n is k1).mono (λe w' ⟨e1,hh⟩=>⟨e1,back is _ hh⟩)
end
set_option maxHeartbeats 2000000 in
theorem D5(m:Nat){b:RB}{c:aU}{x:aI}{es:Nat->dC}{p v:Nat}{o ov:ct}{u:bP}{bp:Nat}(hq:c.q<=8)(hp:p<c.n)(ho:x.ow[p]? = some o)(hM:o.dE=some (.steal v u))(hmv:(es p).mv=.iface 85 (.pointer (some ⟨bp,0,none⟩)))(hcv:o.cv=(v:Int))(hok:iE c p (.steal v u))(hm:bY c x.m)
  (hov:x.ow[v]? = some ov) (hdp:eU c o.dq) (hdv:eU c ov.dq) (hrs:o.rs.length<=64) (TO:u.hands.length<=100) (TQ:u.left.length<=100) {F:Nat->Prop} {w:World} (h:cL (aB b c x es) F w) :
  CallsIn Fence.wide m prog 69 #[.pointer (some ⟨b.br,0,none⟩),.pointer (some ⟨b.bo,p*7,none⟩),.pointer (some ⟨bp,0,none⟩),.bool (decide (u.st=0))] w λe w'=>e=.returned (.tuple #[])/\∃ es',af ⟨w,F⟩ (aB b c (bE c x p o (.steal v u)) es') w':=by
 refine callsIn_of_wp func69 rfl trivial ?_ rfl;simp only[ntmps69,List.size_toArray,List.length_cons,List.length_nil,Nat.reduceAdd,Nat.reduceSub,Array.replicate_succ,Array.replicate_zero,List.push_toArray,List.append_toArray,List.nil_append,List.cons_append];have hst:af ⟨w,F⟩ ([]++aB b c x es) w:=af.start h;obtain⟨bd,hbd⟩:∃ bd,decide (u.st=0)=bd:=⟨_,rfl⟩;rw[hbd]
 gi_wp2
 refine⟨trivial,λh=>by simp[Fence.wide]at h,(D4 (m-1) hp ho hM hmv hok hm hst).mono ?_⟩;rintro e w1 ⟨ah,kh,rfl,h1⟩;rw[List.nil_append]at h1;have e5:w1.cell? ⟨b.bo,p*7+5,none⟩=some (.bool o.gn):=cH hp ho h1 rfl;obtain⟨ar,kr,Nq⟩:=cS (pm hp ho hst);obtain⟨dv,xa⟩:∃ dv,(es v).d=dv:=⟨_,rfl⟩;have hvp:v≠p:=hok.2.2;have hv:v<c.n:=hok.2.1;have Um:(v:Int)<(c.n:Int):=by omega
 have RA:v<x.ow.length:=(List.getElem?_eq_some_iff.1 hov).1;have O7:(x.own v (ov.fA (cE ov.dq))).ow[v]? = some (ov.fA (cE ov.dq)):=List.getElem?_set_self RA;have ho1:(x.own v (ov.fA (cE ov.dq))).ow[p]? = some o:=by
  show(x.ow.set v _)[p]? = _;rw[List.getElem?_set_ne hvp,ho]
 have L4:∀ (r:List aF) (w':World),af ⟨w,F⟩ (r++aB b c x es) w'->w'.cell? ⟨b.br,7,none⟩=some (.slice (some ⟨b.bo,0,none⟩) c.n b.cp)/\w'.cell? ⟨b.bo,p*7+1,none⟩=some (.int .i64 (v:Int))/\w'.cell? ⟨b.bo,v*7+4,none⟩=some (.pointer (some ⟨dv,0,none⟩)):=λr w' hh =>
  ⟨cell_of (cT hh) 7 _ rfl,cH hp ho hh (by rw[← hcv];rfl),cH hv hov hh (by rw[← xa];rfl)⟩
 have NL:∀ (r:List aF) (w':World),af ⟨w,F⟩ (r++aB b c (x.own v (ov.fA (cE ov.dq))) es) w'->w'.cell? ⟨b.br,7,none⟩=some (.slice (some ⟨b.bo,0,none⟩) c.n b.cp)/\w'.cell? ⟨b.bo,p*7+1,none⟩=some (.int .i64 (v:Int))/\w'.cell? ⟨b.bo,v*7+4,none⟩=some (.pointer (some ⟨dv,0,none⟩)):=λr w' hh =>
  ⟨cell_of (cT hh) 7 _ rfl,cH hp ho1 hh (by rw[← hcv];rfl),cH hv O7 hh (by rw[← xa];rfl)⟩
 have R8:∀ (r:List aF) (w':World),af ⟨w,F⟩ (r++aB b c ((x.own v (ov.fA (cE ov.dq))).holds (decide (dn c ov.dq=u.hands))) es) w'->w'.cell? ⟨b.br,7,none⟩=some (.slice (some ⟨b.bo,0,none⟩) c.n b.cp)/\w'.cell? ⟨b.bo,p*7+1,none⟩=some (.int .i64 (v:Int))/\w'.cell? ⟨b.bo,v*7+4,none⟩=some (.pointer (some ⟨dv,0,none⟩)):=λr w' hh =>
  ⟨cell_of (cT hh) 7 _ rfl,cH (x:=(x.own v (ov.fA (cE ov.dq))).holds (decide (dn c ov.dq=u.hands))) hp ho1 hh (by rw[← hcv];rfl),cH (x:=(x.own v (ov.fA (cE ov.dq))).holds (decide (dn c ov.dq=u.hands))) hv O7 hh (by rw[← xa];rfl)⟩
 have RC:(dn c ov.dq).length<=100000:=by
  unfold dn bj;have:=hdv.sz;have:=c.qb;simp;omega
 cases hgn:o.gn with
 | false =>
  rw[hgn]at e5;cases bd with
  | true =>
   have hu0:u.st=0:=of_decide_eq_true hbd;have h1d:=bH h1 ((Below.refl _ w1).drew)
   gi_wp2
   refine⟨trivial,?_⟩
   gi_wp2
   refine wpIn_wide.2 ?_
   go_region_held3 (λw'=>w'.cell? ⟨b.br,7,none⟩=some (.slice (some ⟨b.bo,0,none⟩) c.n b.cp)/\w'.cell? ⟨b.bo,p*7+1,none⟩=some (.int .i64 (v:Int))/\w'.cell? ⟨b.bo,v*7+4,none⟩=some (.pointer (some ⟨dv,0,none⟩))) ((first | exact L4 _ _ h1d | exact NL _ _ h3 | exact NL _ _ h4 | exact R8 _ _ h5 | fail)) ((first
    | (go_at_call 101;have hcon:=callsIn_wide.1 (uX 0 hq hok.2.1 hov hdv xa h1d);(with_reducible refine hcon.mono ?_);clear hcon;rintro e w3 ⟨a3,k3,rfl,h3'⟩;have h3:af ⟨w,F⟩ ([bJ (.slice ah u.hands.length kh) u.hands,bJ (.slice a3 (dn c ov.dq).length k3) (dn c ov.dq)]++aB b c (x.own v (ov.fA (cE ov.dq))) es) w3:=h3';clear h3')
    | (go_at_call 37;have hcon:=callsIn_wide.1 (mf 0 _ _ (dn c ov.dq) u.hands w3 (aZ (bK h3)) (aZ h3) (by omega));(with_reducible refine hcon.mono ?_);clear hcon;rintro e w4 ⟨rfl,B4⟩;have h4:=bH h3 B4)
    | (go_at_call 64;have hcon:=callsIn_wide.1 (ky 0 (decide (dn c ov.dq=u.hands)) h4);(with_reducible refine hcon.mono ?_);clear hcon;rintro e w5 ⟨rfl,h5⟩)))
   obtain⟨k1,hk1⟩:∃ k1:Nat,min 1 u.hands.length=k1:=⟨_,rfl⟩;have hkle:k1<=u.hands.length:=by omega
   have hmin:min (1:Int) (u.hands.length:Int)=(k1:Int):=by omega
   obtain⟨ac,cc,H8⟩:=Bl (lo:=k1) (aZ h5) rfl;have hcut:∀ w,(Instr.sliceAt 35 (.slice ah u.hands.length kh) (some (.int .i64 (k1:Int))) none none).run prog w=.ok (.slice ac (u.hands.length-k1) cc) w:=by
    obtain⟨i0,hi,hz1,hz0,hz2⟩:=b_;intro w;rw[← H8];exact kj (kd:=.i64) (aZ h5) underlying35 hi hz1 hkle w
   have h5':af ⟨w,F⟩ ([bJ (.slice ac (u.hands.length-k1) cc) (u.hands.drop 1)]++aB b c ((x.own v (ov.fA (cE ov.dq))).holds (decide (dn c ov.dq=u.hands))) es) w5:=by
    have q:=h5.y7 hkle;rw[H8]at q;rw[CB hk1]at q;exact aH (r:=[_]) (bK q)
   have f5:w5.frozen? ⟨b.bo,p*7+5,none⟩=false:=cX h5 _;have c5:w5.cell? ⟨b.bo,p*7+5,none⟩=some (.bool false):=cH (x:=(x.own v (ov.fA (cE ov.dq))).holds (decide (dn c ov.dq=u.hands))) hp ho1 h5 (by rw[← hgn];rfl);have TR:w5.frozen? ⟨b.bo,p*7+6,none⟩=false:=cX h5 _;have TS:w5.cell? ⟨b.bo,p*7+6,none⟩=some (.slice ar o.rs.length kr):=cH (x:=(x.own v (ov.fA (cE ov.dq))).holds (decide (dn c ov.dq=u.hands))) hp ho1 h5 (by rw[← Nq];rfl);have h6:=dz (x:=(x.own v (ov.fA (cE ov.dq))).holds (decide (dn c ov.dq=u.hands))) (o':=⟨o.kd,o.cv,o.cg,o.dE,o.dq,true,o.rs⟩) (e':=es p) hp ho1 5 (by decide) (.bool true) rfl [bJ (.slice ac (u.hands.length-k1) cc) (u.hands.drop 1)] (λm w h=>h) h5';have hlt1:p<((x.own v (ov.fA (cE ov.dq))).holds (decide (dn c ov.dq=u.hands))).ow.length:=(List.getElem?_eq_some_iff.1 ho1).1;rw[eR]at h6;have OU:(((x.own v (ov.fA (cE ov.dq))).holds (decide (dn c ov.dq=u.hands))).own p ⟨o.kd,o.cv,o.cg,o.dE,o.dq,true,o.rs⟩).ow[p]? = some ⟨o.kd,o.cv,o.cg,o.dE,o.dq,true,o.rs⟩:=List.getElem?_set_self hlt1;have h7:=dz (o':=⟨o.kd,o.cv,o.cg,o.dE,o.dq,true,u.hands.drop 1⟩) (e':=⟨(es p).d,(es p).mv,.slice ac (u.hands.length-k1) cc⟩) hp OU 6 (by decide) (.slice ac (u.hands.length-k1) cc) rfl [] (λm w h=>zr h) h6;have h8:=bH h7 ((Below.refl _ _).drew);rw[List.nil_append,eS]at h8;have ex:bE c x p o (.steal v u)=(((x.own v (ov.fA (cE ov.dq))).holds (decide (dn c ov.dq=u.hands))).own p ⟨o.kd,o.cv,o.cg,o.dE,o.dq,true,u.hands.drop 1⟩):=by
    simp only[bE];rw[if_pos ⟨hgn,.inl hu0⟩,hov];rfl
   rw[← ex]at h8
   gi_wp2
   refine wpIn_wide.2 ?_
   go_region_held3 (λ_=>True) (trivial) (fail)
   all_goals (gi_wp2;exact bodyPost_end (results_none rfl _ _ _) rfl ⟨rfl,_,h8⟩)
  | false =>
   gi_wp2
   refine⟨trivial,λh=>by simp[Fence.wide]at h,(H6 (m-1) hp ho hM hmv hok h1).mono ?_⟩;rintro e w2 ⟨rfl,h2⟩
   by_cases L5:0<u.many
   ·have hgt:((u.many:Nat):Int)>0:=by omega
    have h1d:=bH h2 ((Below.refl _ w2).drew)
    gi_wp2
    refine wpIn_wide.2 ?_
    go_region_held3 (λw'=>w'.cell? ⟨b.br,7,none⟩=some (.slice (some ⟨b.bo,0,none⟩) c.n b.cp)/\w'.cell? ⟨b.bo,p*7+1,none⟩=some (.int .i64 (v:Int))/\w'.cell? ⟨b.bo,v*7+4,none⟩=some (.pointer (some ⟨dv,0,none⟩))) ((first | exact L4 _ _ h1d | exact NL _ _ h3 | exact NL _ _ h4 | exact R8 _ _ h5 | fail)) ((first
     | (go_at_call 101;have hcon:=callsIn_wide.1 (uX 0 hq hok.2.1 hov hdv xa h1d);(with_reducible refine hcon.mono ?_);clear hcon;rintro e w3 ⟨a3,k3,rfl,h3'⟩;have h3:af ⟨w,F⟩ ([bJ (.slice ah u.hands.length kh) u.hands,bJ (.slice a3 (dn c ov.dq).length k3) (dn c ov.dq)]++aB b c (x.own v (ov.fA (cE ov.dq))) es) w3:=h3';clear h3')
     | (go_at_call 37;have hcon:=callsIn_wide.1 (mf 0 _ _ (dn c ov.dq) u.hands w3 (aZ (bK h3)) (aZ h3) (by omega));(with_reducible refine hcon.mono ?_);clear hcon;rintro e w4 ⟨rfl,B4⟩;have h4:=bH h3 B4)
     | (go_at_call 64;have hcon:=callsIn_wide.1 (ky 0 (decide (dn c ov.dq=u.hands)) h4);(with_reducible refine hcon.mono ?_);clear hcon;rintro e w5 ⟨rfl,h5⟩)))
    obtain⟨k1,hk1⟩:∃ k1:Nat,min 1 u.hands.length=k1:=⟨_,rfl⟩;have hkle:k1<=u.hands.length:=by omega
    have hmin:min (1:Int) (u.hands.length:Int)=(k1:Int):=by omega
    obtain⟨ac,cc,H8⟩:=Bl (lo:=k1) (aZ h5) rfl;have hcut:∀ w,(Instr.sliceAt 35 (.slice ah u.hands.length kh) (some (.int .i64 (k1:Int))) none none).run prog w=.ok (.slice ac (u.hands.length-k1) cc) w:=by
     obtain⟨i0,hi,hz1,hz0,hz2⟩:=b_;intro w;rw[← H8];exact kj (kd:=.i64) (aZ h5) underlying35 hi hz1 hkle w
    have h5':af ⟨w,F⟩ ([bJ (.slice ac (u.hands.length-k1) cc) (u.hands.drop 1)]++aB b c ((x.own v (ov.fA (cE ov.dq))).holds (decide (dn c ov.dq=u.hands))) es) w5:=by
     have q:=h5.y7 hkle;rw[H8]at q;rw[CB hk1]at q;exact aH (r:=[_]) (bK q)
    have f5:w5.frozen? ⟨b.bo,p*7+5,none⟩=false:=cX h5 _;have c5:w5.cell? ⟨b.bo,p*7+5,none⟩=some (.bool false):=cH (x:=(x.own v (ov.fA (cE ov.dq))).holds (decide (dn c ov.dq=u.hands))) hp ho1 h5 (by rw[← hgn];rfl);have TR:w5.frozen? ⟨b.bo,p*7+6,none⟩=false:=cX h5 _;have TS:w5.cell? ⟨b.bo,p*7+6,none⟩=some (.slice ar o.rs.length kr):=cH (x:=(x.own v (ov.fA (cE ov.dq))).holds (decide (dn c ov.dq=u.hands))) hp ho1 h5 (by rw[← Nq];rfl);have h6:=dz (x:=(x.own v (ov.fA (cE ov.dq))).holds (decide (dn c ov.dq=u.hands))) (o':=⟨o.kd,o.cv,o.cg,o.dE,o.dq,true,o.rs⟩) (e':=es p) hp ho1 5 (by decide) (.bool true) rfl [bJ (.slice ac (u.hands.length-k1) cc) (u.hands.drop 1)] (λm w h=>h) h5';have hlt1:p<((x.own v (ov.fA (cE ov.dq))).holds (decide (dn c ov.dq=u.hands))).ow.length:=(List.getElem?_eq_some_iff.1 ho1).1;rw[eR]at h6;have OU:(((x.own v (ov.fA (cE ov.dq))).holds (decide (dn c ov.dq=u.hands))).own p ⟨o.kd,o.cv,o.cg,o.dE,o.dq,true,o.rs⟩).ow[p]? = some ⟨o.kd,o.cv,o.cg,o.dE,o.dq,true,o.rs⟩:=List.getElem?_set_self hlt1;have h7:=dz (o':=⟨o.kd,o.cv,o.cg,o.dE,o.dq,true,u.hands.drop 1⟩) (e':=⟨(es p).d,(es p).mv,.slice ac (u.hands.length-k1) cc⟩) hp OU 6 (by decide) (.slice ac (u.hands.length-k1) cc) rfl [] (λm w h=>zr h) h6;have h8:=bH h7 ((Below.refl _ _).drew);rw[List.nil_append,eS]at h8;have ex:bE c x p o (.steal v u)=(((x.own v (ov.fA (cE ov.dq))).holds (decide (dn c ov.dq=u.hands))).own p ⟨o.kd,o.cv,o.cg,o.dE,o.dq,true,u.hands.drop 1⟩):=by
     simp only[bE];rw[if_pos ⟨hgn,.inr L5⟩,hov];rfl
    rw[← ex]at h8
    gi_wp2
    refine wpIn_wide.2 ?_
    go_region_held3 (λ_=>True) (trivial) (fail)
    all_goals (gi_wp2;exact bodyPost_end (results_none rfl _ _ _) rfl ⟨rfl,_,h8⟩)
   ·have hgt:¬ ((u.many:Nat):Int)>0:=by omega
    have hu0:¬ u.st=0:=of_decide_eq_false hbd;have ex:bE c x p o (.steal v u)=x:=by
     simp only[bE];rw[if_neg (λh=>h.2.elim hu0 L5),if_neg hu0]
    gi_wp2
    refine bodyPost_end (results_none rfl _ _ _) rfl ⟨rfl,es,?_⟩;rw[ex];exact aH h2
 | true =>
  rw[hgn]at e5;cases bd with
  | false =>
   gi_wp2
   ·next g1 g2=>exact absurd g1 (by intro h;cases h)
   ·next g1 g2=>exact absurd g1 (by intro h;cases h)
   have hu0:¬ u.st=0:=of_decide_eq_false hbd;have ex:bE c x p o (.steal v u)=x:=by
    simp only[bE];rw[if_neg (λh=>by rw[hgn]at h;cases h.1),if_neg hu0]
   refine⟨trivial,?_⟩
   gi_wp2
   refine bodyPost_end (results_none rfl _ _ _) rfl ⟨rfl,es,?_⟩;rw[ex];exact aH h1
  | true =>
   gi_wp2
   ·next g1 g2=>exact absurd g1 (by intro h;cases h)
   ·next g1 g2=>exact absurd g1 (by intro h;cases h)
   have hu0:u.st=0:=of_decide_eq_true hbd;refine⟨trivial,?_⟩
   gi_wp2
   obtain⟨dp,O8⟩:∃ dp,(es p).d=dp:=⟨_,rfl⟩;obtain⟨n,hn⟩:∃ n,tV c o.dq o.rs=n:=⟨_,rfl⟩;have O9:n<=o.rs.length:=by rw[← hn];exact Nat.min_le_left _ _
   have h1':af ⟨w,F⟩ ([]++aB b c x es) w1:=aH h1;have hd5:=bH h1' ((Below.refl _ w1).drew);have hT:∀ (x':aI) (o':ct) (r:List aF) (w':World),x'.ow[p]? = some o'->o'.rs=o.rs->af ⟨w,F⟩ (r++aB b c x' es) w'->w'.cell? ⟨b.bo,p*7+4,none⟩=some (.pointer (some ⟨dp,0,none⟩))/\w'.cell? ⟨b.bo,p*7+6,none⟩=some (.slice ar o.rs.length kr):=λx' o' r w' ho' hr' hh=>⟨cH hp ho' hh (by rw[← O8];rfl),cH hp ho' hh (by rw[← Nq];rfl)⟩
   refine wpIn_wide.2 ?_
   go_region_held3 (λw'=>w'.cell? ⟨b.bo,p*7+4,none⟩=some (.pointer (some ⟨dp,0,none⟩))/\w'.cell? ⟨b.bo,p*7+6,none⟩=some (.slice ar o.rs.length kr)) ((first | exact hT _ _ _ _ ho rfl hd5 | exact hT _ _ _ _ ho2 rfl h3 | fail)) ((first
    | (go_at_call 62;obtain⟨F1,k1,back⟩:=KF hp ho hd5;rw[O8,Nq]at k1 back;have hcon:=callsIn_wide.1 (Cp 0 hdp hrs k1);(with_reducible refine hcon.mono ?_);clear hcon;rintro e w3 ⟨rfl,hh⟩;rw[hn]at hh ⊢;have h3':=back _ [] _ hh;have h3:af ⟨w,F⟩ ([]++aB b c (x.own p (o.fA (dh c o.dq (o.rs.take n)))) es) w3:=h3';have ho2:(x.own p (o.fA (dh c o.dq (o.rs.take n)))).ow[p]? = some (o.fA (dh c o.dq (o.rs.take n))):=List.getElem?_set_self (List.getElem?_eq_some_iff.1 ho).1;clear back k1 h3' hh)))
   have hd6:=bH h3 ((Below.refl _ w3).drew);obtain⟨a9,k9,O_⟩:=Bl (lo:=n) (by rw[← Nq];exact pm (o:=o.fA (dh c o.dq (o.rs.take n))) hp ho2 h3) rfl;have RD:iM 1 (.slice ar o.rs.length kr) o.rs.length (aX o.rs) w3:=by rw[← Nq];exact pm (o:=o.fA (dh c o.dq (o.rs.take n))) hp ho2 h3
   have hcut:∀ w,(Instr.sliceAt 35 (.slice ar o.rs.length kr) (some (.int .i64 (n:Int))) none none).run prog w=.ok (.slice a9 (o.rs.length-n) k9) w:=by
    obtain⟨i0,hi,hz1,hz0,hz2⟩:=b_;intro w;rw[← O_];exact kj (kd:=.i64) RD underlying35 hi hz1 O9 w
   have RE:∀ (r:List aF) (w':World),af ⟨w,F⟩ (r++aB b c (x.own p (o.fA (dh c o.dq (o.rs.take n)))) es) w'->iM 1 (.slice a9 (o.rs.length-n) k9) (o.rs.drop n).length (aX (o.rs.drop n)) w':=λr w' hh=>by
    have q:iM 1 (.slice ar o.rs.length kr) o.rs.length (aX o.rs) w':=by rw[← Nq];exact pm (o:=o.fA (dh c o.dq (o.rs.take n))) hp ho2 hh
    have q2:=Cq q rfl O9 (Nat.le_refl _) O_
    rwa [List.take_of_length_le (by simp)]at q2
   have ex:bE c x p o (.steal v u)=(x.own p (o.fA (dh c o.dq (o.rs.take n)))).holds (decide (o.rs.drop n=u.left)):=by
    simp only[bE];rw[if_neg (λh=>by rw[hgn]at h;cases h.1),if_pos hu0,hn]
   have hdrop:(o.rs.drop n).length<=100000:=by rw[List.length_drop];omega
   gi_wp2
   refine wpIn_wide.2 ?_
   go_region_held3 (λw'=>w'.cell? ⟨b.bo,p*7+4,none⟩=some (.pointer (some ⟨dp,0,none⟩))/\w'.cell? ⟨b.bo,p*7+6,none⟩=some (.slice ar o.rs.length kr)) ((first | exact hT _ _ _ _ ho2 rfl hd6 | exact hT _ _ _ _ ho2 rfl h7 | exact hT _ _ _ _ ho2 rfl h8 | exact hT ((x.own p (o.fA (dh c o.dq (o.rs.take n)))).holds (decide (o.rs.drop n=u.left))) _ _ _ ho2 rfl h9 | fail)) ((first
    | (go_at_call 70;have hcon:=callsIn_wide.1 (H7 0 (x:=x.own p (o.fA (dh c o.dq (o.rs.take n)))) (o:=o.fA (dh c o.dq (o.rs.take n))) hp ho2 hM hmv hok hm hd6);(with_reducible refine hcon.mono ?_);clear hcon;rintro e w7 ⟨a7,k7,rfl,R9⟩;have h7:af ⟨w,F⟩ ([bJ (.slice a7 u.left.length k7) u.left]++aB b c (x.own p (o.fA (dh c o.dq (o.rs.take n)))) es) w7:=R9;clear R9)
    | (go_at_call 37;have hcon:=callsIn_wide.1 (mf 0 _ _ (o.rs.drop n) u.left w7 (RE _ _ h7) (aZ h7) hdrop);(with_reducible refine hcon.mono ?_);clear hcon;rintro e w8 ⟨rfl,B8⟩;have h8:=bH h7 B8)
    | (go_at_call 64;have hcon:=callsIn_wide.1 (ky 0 (decide (o.rs.drop n=u.left)) h8);(with_reducible refine hcon.mono ?_);clear hcon;rintro e w9 ⟨rfl,h9⟩)))
   all_goals (gi_wp2;refine bodyPost_end (results_none rfl _ _ _) rfl ⟨rfl,es,?_⟩;rw[ex];exact aH h9)
section
variable{b:RB}{c:aU}{x:aI}{es:Nat->dC}{p:Nat}{o:ct}{bp:Nat}
theorem KG{u:gK}{ctx:dt}{w:World}{r:List aF}(hp:p<c.n)(ho:x.ow[p]? = some o)(hM:o.dE=some (.put u))(hmv:(es p).mv=.iface 81 (.pointer (some ⟨bp,0,none⟩)))(h:af ctx (r++aB b c x es) w) :
  ∃ F,cL [fL c p bp u] F w/\∀ (m:List aF) (w':World),af ⟨w,F⟩ (fL c p bp u::m) w'->af ctx (r++(m++aB b c x es)) w':=by
 obtain⟨F2,k2,back⟩:=gR hp ho h;rw[hmv,hM]at k2 back;obtain⟨bp',e,hp1⟩:=mQ (af.start k2);cases e;obtain⟨F3,k3,mt⟩:=dx hp1;refine⟨F3,k3,λm w' hh=>back m w' (pi ?_)⟩;have:=mt _ _ hh;rw[List.append_nil]at this;exact this
theorem KH{u:iQ}{ctx:dt}{w:World}{r:List aF}(hp:p<c.n)(ho:x.ow[p]? = some o)(hM:o.dE=some (.get u))(hmv:(es p).mv=.iface 83 (.pointer (some ⟨bp,0,none⟩)))(h:af ctx (r++aB b c x es) w) :
  ∃ F,cL [iR c p bp u] F w/\∀ (m:List aF) (w':World),af ⟨w,F⟩ (iR c p bp u::m) w'->af ctx (r++(m++aB b c x es)) w':=by
 obtain⟨F2,k2,back⟩:=gR hp ho h;rw[hmv,hM]at k2 back;obtain⟨bp',e,hp1⟩:=mR (af.start k2);cases e;obtain⟨F3,k3,mt⟩:=dx hp1;refine⟨F3,k3,λm w' hh=>back m w' (pj ?_)⟩;have:=mt _ _ hh;rw[List.append_nil]at this;exact this
theorem KI(n:Nat){ctx:dt}{w:World}{r:List aF}(hq:c.q=2\/c.q=4\/c.q=8)(hp:p<c.n)(ho:x.ow[p]? = some o)(hd:eU c o.dq){dv:Nat}(hdv:(es p).d=dv)(g:Int)(h:af ctx (r++aB b c x es) w) :
  CallsIn Fence.wide n prog 65 #[.pointer (some ⟨dv,0,none⟩),.int .i64 g] w λe w'=>∃ a k,e=.returned (.slice a (cW c o.dq g).2.length k)/\af ctx (r++([bJ (.slice a (cW c o.dq g).2.length k) (cW c o.dq g).2]++aB b c (x.own p (o.fA (cW c o.dq g).1)) es)) w':=by
 obtain⟨F,k1,back⟩:=Bk hp ho h;rw[hdv]at k1 back;refine(callsIn_wide.2 (Kq hq hd g k1)).mono ?_;rintro e w' ⟨z,lz,rfl,hh⟩;obtain⟨a,k,rfl⟩:=cS (aZ hh);exact⟨a,k,rfl,back _ [bJ _ _] _ (hh.sel [1,0])⟩
theorem H9(n:Nat){u:gK}{ctx:dt}{w:World}{r:List aF}(hp:p<c.n)(ho:x.ow[p]? = some o)(hM:o.dE=some (.put u))(hmv:(es p).mv=.iface 81 (.pointer (some ⟨bp,0,none⟩)))(hok:mb c u)(hu0:u.st=0)(h:af ctx (r++aB b c x es) w) :
  CallsIn Fence.wide n prog 66 #[.pointer (some ⟨bp,0,none⟩)] w λe w'=>∃ a k,e=.returned (.slice a u.hs.length k)/\af ctx (r++([bJ (.slice a u.hs.length k) u.hs]++aB b c x es)) w':=by
 obtain⟨F,k1,back⟩:=KG hp ho hM hmv h;refine(pk n hp hok k1).mono ?_;rintro e w' ⟨z,rfl,hh⟩;rw[if_pos hu0]at hh;obtain⟨a,k,rfl⟩:=cS (aZ hh);exact⟨a,k,rfl,back [bJ _ _] _ (hh.sel [1,0])⟩
theorem KJ(n:Nat){ctx:dt}{w:World}{r:List aF}(hq:c.q<=8)(hp:p<c.n)(ho:x.ow[p]? = some o)(hd:eU c o.dq){dv:Nat}(hdv:(es p).d=dv)(h:af ctx (r++aB b c x es) w) :
  CallsIn Fence.wide n prog 67 #[.pointer (some ⟨dv,0,none⟩)] w λe w'=>e=.returned (.tuple #[.int .i64 ((bj c o.dq).headD 0),.bool (decide (aW o.dq.w≠0))])/\af ctx (r++aB b c (x.own p (o.fA (lG o.dq))) es) w':=by
 obtain⟨F,k1,back⟩:=Bk hp ho h;rw[hdv]at k1 back;refine(Kp n hq hd k1).mono ?_;rintro e w' ⟨rfl,hh⟩;exact⟨rfl,back (lG o.dq) [] _ hh⟩
theorem KK(n:Nat){u:iQ}{ctx:dt}{w:World}{r:List aF}(hp:p<c.n)(ho:x.ow[p]? = some o)(hM:o.dE=some (.get u))(hmv:(es p).mv=.iface 83 (.pointer (some ⟨bp,0,none⟩)))(h:af ctx (r++aB b c x es) w) :
  CallsIn Fence.wide n prog 68 #[.pointer (some ⟨bp,0,none⟩)] w λe w'=>e=.returned (.tuple #[.int .i64 (if u.has then u.sn else 0),.bool u.has])/\af ctx (r++aB b c x es) w':=by
 obtain⟨F,k1,back⟩:=KH hp ho hM hmv h;exact(callsIn_wide.2 (Cl hp k1)).mono (λe w' ⟨e1,hh⟩=>⟨e1,back [] _ hh⟩)
theorem sY{ctx:dt}{w:World}{r:List aF}{M:bV}(hp:p<c.n)(ho:x.ow[p]? = some o)(hM:o.dE=some M)(h:af ctx (r++aB b c x es) w):∃ bp,(es p).mv=.iface (match M with | .put _ => 81 | .get _ => 83 | .steal _ _ => 85) (.pointer (some ⟨bp,0,none⟩)):=by
 obtain⟨F2,k2,back⟩:=gR hp ho h;rw[hM]at k2;cases M with
 | put u=>obtain⟨bp,e,_⟩:=mQ (af.start k2);exact⟨bp,e⟩
 | get u=>obtain⟨bp,e,_⟩:=mR (af.start k2);exact⟨bp,e⟩
 | steal v u=>obtain⟨bp,e,_⟩:=gN (af.start k2);exact⟨bp,e⟩
end
structure xb(c:aU)(x:aI)(p:Nat)(o:ct)(M:bV):Prop where
 q:c.q=2\/c.q=4\/c.q=8
 mem:bY c x.m
 dE:iE c p M
 dq:eU c o.dq
 rs:o.rs.length<=64
 get:∀ u,M=.get u->u.st=0->(bj c o.dq).headD 0=(if u.has then u.sn else 0)/\decide (aW o.dq.w≠0)=u.has
 steal:∀ v u,M=.steal v u->o.cv=(v:Int)/\u.hands.length<=100/\u.left.length<=100/\∃ ov,x.ow[v]? = some ov/\eU c ov.dq
set_option maxHeartbeats 2000000 in
theorem H_(m:Nat){b:RB}{c:aU}{x:aI}{es:Nat->dC}{p:Nat}{o:ct}{M:bV}(hp:p<c.n)(ho:x.ow[p]? = some o)(hM:o.dE=some M)(hok:xb c x p o M){F:Nat->Prop}{w:World}(h:cL (aB b c x es) F w) :
  CallsIn Fence.wide m prog 36 #[.pointer (some ⟨b.br,0,none⟩),.pointer (some ⟨b.bo,p*7,none⟩),.bool (decide (M.st=0))] w λe w'=>e=.returned (.tuple #[])/\∃ es',af ⟨w,F⟩ (aB b c (bE c x p o M) es') w':=by
 refine callsIn_of_wp func36 rfl trivial ?_ rfl;simp only[ntmps36,List.size_toArray,List.length_cons,List.length_nil,Nat.reduceAdd,Nat.reduceSub,Array.replicate_succ,Array.replicate_zero,List.push_toArray,List.append_toArray,List.nil_append,List.cons_append];have hst:af ⟨w,F⟩ ([]++aB b c x es) w:=af.start h;have hq8:c.q<=8:=by have:=hok.q;omega
 obtain⟨bp,hmv⟩:=sY hp ho hM hst;obtain⟨dv,xa⟩:∃ dv,(es p).d=dv:=⟨_,rfl⟩;obtain⟨bd,hbd⟩:∃ bd,decide (M.st=0)=bd:=⟨_,rfl⟩;rw[hbd];have hlt:p<x.ow.length:=(List.getElem?_eq_some_iff.1 ho).1;have hT:∀ (x':aI) (o':ct) (r:List aF) (w':World),x'.ow[p]? = some o'->o'.cg=o.cg->af ⟨w,F⟩ (r++aB b c x' es) w'->w'.cell? ⟨b.bo,p*7+4,none⟩=some (.pointer (some ⟨dv,0,none⟩))/\w'.cell? ⟨b.bo,p*7+2,none⟩=some (.int .i64 o.cg):=λx' o' r w' ho' hr' hh=>⟨cH hp ho' hh (by rw[← xa];rfl),cH hp ho' hh (by rw[← hr'];rfl)⟩
 cases M with
 | put u =>
  have zt:(es p).mv=.iface 81 (.pointer (some ⟨bp,0,none⟩)):=hmv;have e3:w.cell? ⟨b.bo,p*7+3,none⟩=some (.iface 81 (.pointer (some ⟨bp,0,none⟩))):=cH hp ho hst (by rw[← zt];rfl);have a1:=LX bp;cases bd with
  | false =>
   have hu0:¬ u.st=0:=of_decide_eq_false hbd
   gi_wp2
   refine bodyPost_end (results_none rfl _ _ _) rfl ⟨rfl,es,?_⟩;simp only[bE,if_neg hu0];exact aH hst
  | true =>
   have hu0:u.st=0:=of_decide_eq_true hbd;have hd4:=bH hst ((Below.refl _ w).drew);have hlen:(cW c o.dq o.cg).2.length<=100000:=by
    have:=hok.dq.sz;unfold cW
    split
    ·simp
    ·simp only[List.length_append,List.length_drop,bj,List.length_map,List.length_range,List.length_cons,List.length_nil]
     omega
   have ho1:(x.own p (o.fA (cW c o.dq o.cg).1)).ow[p]? = some (o.fA (cW c o.dq o.cg).1):=List.getElem?_set_self hlt
   gi_wp2
   refine wpIn_wide.2 ?_
   go_region_held3 (λw'=>w'.cell? ⟨b.bo,p*7+4,none⟩=some (.pointer (some ⟨dv,0,none⟩))/\w'.cell? ⟨b.bo,p*7+2,none⟩=some (.int .i64 o.cg)) ((first | exact hT _ _ _ _ ho rfl hd4 | exact hT _ _ _ _ ho1 rfl h3 | exact hT _ _ _ _ ho1 rfl h4 | exact hT _ _ _ _ ho1 rfl h5 | exact hT ((x.own p (o.fA (cW c o.dq o.cg).1)).holds (decide ((cW c o.dq o.cg).2=u.hs))) _ _ _ ho1 rfl h6 | fail)) ((first
    | (go_at_call 65;have hcon:=callsIn_wide.1 (KI 0 hok.q hp ho hok.dq xa o.cg hd4);(with_reducible refine hcon.mono ?_);clear hcon;rintro e w3 ⟨a3,k3,rfl,h3'⟩;have h3:af ⟨w,F⟩ ([bJ (.slice a3 (cW c o.dq o.cg).2.length k3) (cW c o.dq o.cg).2]++aB b c (x.own p (o.fA (cW c o.dq o.cg).1)) es) w3:=h3';clear h3')
    | (go_at_call 66;have hcon:=callsIn_wide.1 (H9 0 (x:=x.own p (o.fA (cW c o.dq o.cg).1)) (o:=o.fA (cW c o.dq o.cg).1) hp ho1 hM zt hok.dE hu0 h3);(with_reducible refine hcon.mono ?_);clear hcon;rintro e w4 ⟨a4,k4,rfl,h4'⟩;have h4:af ⟨w,F⟩ ([bJ (.slice a3 (cW c o.dq o.cg).2.length k3) (cW c o.dq o.cg).2,bJ (.slice a4 u.hs.length k4) u.hs]++aB b c (x.own p (o.fA (cW c o.dq o.cg).1)) es) w4:=h4';clear h4')
    | (go_at_call 37;have hcon:=callsIn_wide.1 (mf 0 _ _ (cW c o.dq o.cg).2 u.hs w4 (aZ h4) (aZ (bK h4)) hlen);(with_reducible refine hcon.mono ?_);clear hcon;rintro e w5 ⟨rfl,B5⟩;have h5:=bH h4 B5)
    | (go_at_call 64;have hcon:=callsIn_wide.1 (ky 0 (decide ((cW c o.dq o.cg).2=u.hs)) h5);(with_reducible refine hcon.mono ?_);clear hcon;rintro e w6 ⟨rfl,h6⟩)))
   gi_wp2
   refine bodyPost_end (results_none rfl _ _ _) rfl ⟨rfl,es,?_⟩;simp only[bE,if_pos hu0];exact aH h6
 | get u =>
  have zt:(es p).mv=.iface 83 (.pointer (some ⟨bp,0,none⟩)):=hmv;have e3:w.cell? ⟨b.bo,p*7+3,none⟩=some (.iface 83 (.pointer (some ⟨bp,0,none⟩))):=cH hp ho hst (by rw[← zt];rfl);have a1:=LY bp;have a2:=OX bp;cases bd with
  | false =>
   have hu0:¬ u.st=0:=of_decide_eq_false hbd
   gi_wp2
   refine bodyPost_end (results_none rfl _ _ _) rfl ⟨rfl,es,?_⟩;simp only[bE,if_neg hu0];exact aH hst
  | true =>
   have hu0:u.st=0:=of_decide_eq_true hbd;obtain⟨e4,_⟩:=hT _ _ _ _ ho rfl hst;obtain⟨g1,g2⟩:=hok.get u rfl hu0;obtain⟨g,hg⟩:∃ g,(if u.has then u.sn else 0)=g:=⟨_,rfl⟩;obtain⟨bz,hbz⟩:∃ bz,u.has=bz:=⟨_,rfl⟩;rw[hg]at g1;rw[hbz]at g2;have ho1:(x.own p (o.fA (lG o.dq))).ow[p]? = some (o.fA (lG o.dq)):=List.getElem?_set_self hlt
   gi_wp2
   refine⟨trivial,λh=>by simp[Fence.wide]at h,(KJ (m-1) hq8 hp ho hok.dq xa hst).mono ?_⟩;rintro e w3 ⟨rfl,h3⟩;rw[g1,g2]
   gi_wp2
   refine⟨trivial,λh=>by simp[Fence.wide]at h,(KK (m-1) (x:=x.own p (o.fA (lG o.dq))) (o:=o.fA (lG o.dq)) hp ho1 hM zt h3).mono ?_⟩;rintro e w4 ⟨rfl,h4⟩;rw[hg,hbz];clear g1 g2 hg hbz;have hbb:(bz==bz)=true:=by simp
   have hee:(g==g)=true:=by simp
   gi_wp2
   refine⟨trivial,λh=>by simp[Fence.wide]at h,(ky (m-1) (x:=x.own p (o.fA (lG o.dq))) true h4).mono ?_⟩;rintro e w5 ⟨rfl,h5⟩
   gi_wp2
   refine bodyPost_end (results_none rfl _ _ _) rfl ⟨rfl,es,?_⟩;have ex:(decide ((bj c o.dq).headD 0=(if u.has then u.sn else 0))&&(decide (aW o.dq.w≠0)==u.has))=true:=by
    obtain⟨k1,k2⟩:=hok.get u rfl hu0;rw[k1,k2];simp
   simp only[bE,if_pos hu0,ex];exact aH h5
 | steal v u =>
  have zt:(es p).mv=.iface 85 (.pointer (some ⟨bp,0,none⟩)):=hmv;have e3:w.cell? ⟨b.bo,p*7+3,none⟩=some (.iface 85 (.pointer (some ⟨bp,0,none⟩))):=cH hp ho hst (by rw[← zt];rfl);have a1:=LZ bp;have a2:=O1 bp;have a3:=L0 bp;obtain⟨s1,s2,s3,ov,s4,s5⟩:=hok.steal v u rfl;have hs:=D5 (m-1) hq8 hp ho hM zt s1 hok.dE hok.mem s4 hok.dq s5 hok.rs s2 s3 h;rw[show decide (u.st=0)=bd from hbd]at hs
  gi_wp2
  refine⟨trivial,λh=>by simp[Fence.wide]at h,hs.mono ?_⟩;rintro e w3 ⟨rfl,es',h3⟩
  gi_wp2
  exact bodyPost_end (results_none rfl _ _ _) rfl ⟨rfl,es',h3⟩
section
variable{c:aU}{B:Int}{x:aI}{p:Nat}{o:ct}{M:bV}
theorem CD{gn:Bool}{rs:List Int}{m:bO}(h:Bf c B m p M gn rs):iE c p M:=by
 cases M with
 | put u=>exact sR.ok h
 | get u=>exact sT.ok h
 | steal v u=>exact⟨h.2.2.ok,h.1,h.2.1⟩
theorem Ia{u:bP}(h:fH u):u.hands.length<=100/\u.left.length<=100:=by
 unfold bP.hands bP.left;cases hl:u.ly with
 | none =>
  refine⟨by simp,?_⟩
  split<;>simp
 | some l =>
  have:=(h.lay l hl).1.ls;refine⟨by simp only[List.length_append,List.length_take];omega,?_⟩
  split
  ·show l.ls.length<=100
   omega
  ·simp
theorem sZ(hI:en c B x)(ho:x.ow[p]? = some o)(hM:o.dE=some M):iE c p (M.step c p x.m).1:=by
 have hlt:p<x.ow.length:=(List.getElem?_eq_some_iff.1 ho).1;have hp:p<c.n:=by rw[← hI.len];exact hlt
 obtain⟨h0,zC,hC⟩:=(hI.ow p o ho).dE M hM;cases M with
 | put u=>exact(sc hp (sR.ok zC) hI.R.mem).1
 | get u=>exact(sh hp (sT.ok zC) hI.R.mem).1
 | steal v u =>
  obtain⟨hv,hpv,NM⟩:=zC;exact⟨(iU hp hv NM.ok hI.R.mem hI.R.sl).1,hv,hpv⟩
def xc(c:aU)(x:aI)(p:Nat)(o:ct)(M:bV):aI:=aI.own ⟨(M.step c p x.m).2,x.ow,x.pts,x.bad⟩ p (o.now (some (M.step c p x.m).1))
theorem Ib(hI:en c B x)(ho:x.ow[p]? = some o)(hM:o.dE=some M):xb c (xc c x p o M) p (o.now (some (M.step c p x.m).1)) (M.step c p x.m).1:=by
 have hlt:p<x.ow.length:=(List.getElem?_eq_some_iff.1 ho).1;have hp:p<c.n:=by rw[← hI.len];exact hlt
 have hO:=hI.ow p o ho;obtain⟨h0,zC,hC⟩:=hO.dE M hM;refine⟨hI.R.h8,(sU hI ho hM).1,sZ hI ho hM,hO.dq.ok,hO.rs,λu hu hst=>?_,λv u hu=>?_⟩
 ·cases M with
  | put u'=>cases hu
  | get u' =>
   cases hu;obtain⟨_,_,_,_,k6⟩:=zg hI.R hp zC h0;obtain⟨_,j2,j3,_⟩:=k6 hst o.dq hO.dq;exact⟨j2,j3⟩
  | steal v u'=>cases hu
 ·cases M with
  | put u'=>cases hu
  | get u'=>cases hu
  | steal v' u' =>
   cases hu;obtain⟨hv,hpv,NM⟩:=zC;obtain⟨q1,q2⟩:=Ia (iU hp hv NM.ok hI.R.mem hI.R.sl).1;obtain⟨ov,hov⟩:∃ ov,x.ow[v]? = some ov:=⟨_,List.getElem?_eq_getElem (by rw[hI.len];exact hv)⟩;refine⟨hC.2,q1,q2,ov,?_,(hI.ow v ov hov).dq.ok⟩;show(x.ow.set p _)[v]? = _;rw[List.getElem?_set_ne (Ne.symm hpv),hov]
end
section
variable{ctx:dt}{w:World}{r:List aF}{b:RB}{c:aU}{x:aI}{es:Nat->dC}{p:Nat}{o:ct}
theorem Nr(hp:p<c.n)(ho:x.ow[p]? = some o)(h:af ctx (r++aB b c x es) w) :
  ∃ F,cL [fm c p (es p).mv o.dE,aN b.bm x.m] F w/\∀ (M':Option bV) (m':bO) (w':World),af ⟨w,F⟩ [fm c p (es p).mv M',aN b.bm m'] w'->af ctx (r++aB b c (aI.own ⟨m',x.ow,x.pts,x.bad⟩ p (o.now M')) es) w':=by
 have hlt:p<x.ow.length:=(List.getElem?_eq_some_iff.1 ho).1;have h1:af ctx (db c x.ow es++([aN b.bm x.m]++([eB b c x,fq b c x.ow es]++r))) w:=ax (cn (λf=>by simp only[aB,gq,List.map_append,List.map_cons,List.map_nil,List.sum_append,List.sum_cons,List.sum_nil];omega)) h;obtain⟨F1,k1,back⟩:=Bi [aN b.bm x.m] hp hlt ho h1;have k2:af ⟨w,F1⟩ ([fm c p (es p).mv o.dE,aN b.bm x.m]++[ib c (es p).d o.dq,bJ (es p).rv o.rs]) w:=(af.start k1).sel [1,3,0,2];obtain⟨F2,k3,lH⟩:=cU _ k2;refine⟨F2,k3,λM' m' w' hh=>?_⟩;have h2:af ⟨w,F1⟩ (fN c p (o.now M') (es p)++[aN b.bm m']) w':=(lH _ _ hh).sel [2,0,3,1];have h3:=back (o.now M') (es p) [aN b.bm m'] w' h2;rw[eR]at h3;have e:aB b c (aI.own ⟨m',x.ow,x.pts,x.bad⟩ p (o.now M')) es=[eB b c x,aN b.bm m',fq b c x.ow es]++db c (x.ow.set p (o.now M')) es:=by
  show[eB b c x,aN b.bm m',fq b c (x.ow.set p (o.now M')) es]++db c (x.ow.set p (o.now M')) es=_;unfold fq;rw[uW (o':=o.now M') ho rfl]
 rw[e];exact ax (cn (λf=>by simp only[List.map_append,List.map_cons,List.map_nil,List.sum_append,List.sum_cons,List.sum_nil];omega)) h3
theorem zu(n:Nat)(hp:p<c.n)(hm:bY c x.m)(h:af ctx (r++aB b c x es) w) :
  CallsIn Fence.wide n prog 15 #[.pointer (some ⟨b.br,0,none⟩),.int .i64 (p:Int)] w λe w'=>∃ a k,e=.returned (.slice a (iD c x.m p).length k)/\af ctx (bJ (.slice a (iD c x.m p).length k) (iD c x.m p)::(r++aB b c x es)) w':=by
 have h1:af ctx ([eB b c x,aN b.bm x.m]++([fq b c x.ow es]++(db c x.ow es++r))) w:=ax (cn (λf=>by simp only[aB,gq,List.map_append,List.map_cons,List.map_nil,List.sum_append,List.sum_cons,List.sum_nil];omega)) h;obtain⟨F,k1,back⟩:=cU _ h1;refine(KE n hp hm k1).mono ?_;rintro e w' ⟨v,lv,rfl,hh⟩;obtain⟨a,k,rfl⟩:=cS (aZ hh);refine⟨a,k,rfl,ax (cn (λf=>?_)) (back _ _ hh)⟩;simp only[aB,gq,List.map_append,List.map_cons,List.map_nil,List.sum_append,List.sum_cons,List.sum_nil];omega
theorem uY(n:Nat)(hq:c.q<=8)(hp:p<c.n)(ho:x.ow[p]? = some o)(hd:eU c o.dq)(h:af ctx (r++aB b c x es) w) :
  CallsIn Fence.wide n prog 18 #[.pointer (some ⟨b.br,0,none⟩),.int .i64 (p:Int)] w λe w'=>∃ a k,e=.returned (.slice a (bj c o.dq).length k)/\af ctx (bJ (.slice a (bj c o.dq).length k) (bj c o.dq)::(r++aB b c x es)) w':=by
 obtain⟨F,k1,back⟩:=cU _ (ax List.perm_append_comm h);refine(H2 n hq hp ho hd k1).mono ?_;rintro e w' ⟨v,lv,rfl,hh⟩;have h2:af ⟨w,F⟩ ([bJ v (bj c o.dq)]++aB b c x es) w':=ax List.perm_append_comm hh;obtain⟨a,k,rfl⟩:=cS (aZ h2);refine⟨a,k,rfl,ax (cn (λf=>?_)) (back _ _ h2)⟩;simp only[List.map_append,List.map_cons,List.map_nil,List.sum_append,List.sum_cons,List.sum_nil];omega
theorem D6(n:Nat)(hp:p<c.n)(ho:x.ow[p]? = some o)(hm:bY c x.m)(hM:∀ M,o.dE=some M->iE c p M)(h:af ctx (r++aB b c x es) w) :
  CallsIn Fence.wide n prog 19 #[.pointer (some ⟨b.br,0,none⟩),.int .i64 (p:Int)] w λe w'=>∃ a k,e=.returned (.slice a (eI o).length k)/\af ctx (bJ (.slice a (eI o).length k) (eI o)::(r++aB b c x es)) w':=by
 obtain⟨F,k1,back⟩:=cU _ (ax List.perm_append_comm h);refine(H3 n hp ho hm hM k1).mono ?_;rintro e w' ⟨v,lv,rfl,hh⟩;have h2:af ⟨w,F⟩ ([bJ v (eI o)]++aB b c x es) w':=ax List.perm_append_comm hh;obtain⟨a,k,rfl⟩:=cS (aZ h2);refine⟨a,k,rfl,ax (cn (λf=>?_)) (back _ _ h2)⟩;simp only[List.map_append,List.map_cons,List.map_nil,List.sum_append,List.sum_cons,List.sum_nil];omega
theorem D7(n:Nat){M:bV}(hp:p<c.n)(ho:x.ow[p]? = some o)(hM:o.dE=some M)(hok:xb c x p o M)(h:af ctx (r++aB b c x es) w) :
  CallsIn Fence.wide n prog 36 #[.pointer (some ⟨b.br,0,none⟩),.pointer (some ⟨b.bo,p*7,none⟩),.bool (decide (M.st=0))] w λe w'=>e=.returned (.tuple #[])/\∃ es',af ctx (r++aB b c (bE c x p o M) es') w':=by
 obtain⟨F,k1,back⟩:=cU _ (ax List.perm_append_comm h);refine(H_ n hp ho hM hok k1).mono ?_;rintro e w' ⟨rfl,es',hh⟩;exact⟨rfl,es',ax List.perm_append_comm (back _ _ hh)⟩
theorem KM(n:Nat){M:bV}(hp:p<c.n)(ho:x.ow[p]? = some o)(hM:o.dE=some M)(hok:iE c p M)(hm:bY c x.m)(h:af ctx (r++aB b c x es) w) :
  CallsIn Fence.wide n prog 38 #[.pointer (some ⟨b.bo,p*7,none⟩)] w λe w'=>∃ a k,e=.returned (.agg #[.int .i64 o.kd,.int .i64 M.got,.slice a M.over.length k])/\af ctx (bJ (.slice a M.over.length k) M.over::(r++aB b c x es)) w':=by
 obtain⟨F,k1,back⟩:=cU _ (ax List.perm_append_comm h);refine(Bj n hp ho hM hok hm k1).mono ?_;rintro e w' ⟨v,lv,rfl,hh⟩;have h2:af ⟨w,F⟩ ([bJ v M.over]++aB b c x es) w':=ax List.perm_append_comm hh;obtain⟨a,k,rfl⟩:=cS (aZ h2);refine⟨a,k,rfl,ax (cn (λf=>?_)) (back _ _ h2)⟩;simp only[List.map_append,List.map_cons,List.map_nil,List.sum_append,List.sum_cons,List.sum_nil];omega
end
end Go.Proofs.YtkmccgombmogmaaGreat
