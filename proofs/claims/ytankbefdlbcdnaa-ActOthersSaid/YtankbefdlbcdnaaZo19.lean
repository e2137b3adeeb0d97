/- Part of a proof: see the last text. -/
import Derived.Test.YtankbefdlbcdnaaZo17
import Derived.Test.YtankbefdlbcdnaaZo18
namespace Go.Proofs.Ytankbefdlbcdnaa
open Go.RowKit
open Go.Ev (iz iN pz)
set_option linter.unusedVariables false
set_option linter.unusedSimpArgs false
def cOf (l:List Int) (f:Int→Option Lk) (i:Nat) : Int:=if i < l.length then l.getD i 0 else (lkOf f (l.getD (l.length - 1) 0)).b
theorem Rep.links {l:List Int} {hd tl:Int} {f:Int→Option Lk} (h:Rep l hd tl f) : ∀ i,i < l.length→f (cOf l f i)=some ⟨(lkOf f (cOf l f i)).a,cOf l f (i+1),decide (0 < i),decide (i+1 < l.length)⟩:=by
 intro i hi
 have hg:l[i]? = some (l.getD i 0):=by rw [List.getD_eq_getElem?_getD,List.getElem?_eq_getElem hi]; rfl
 have hc:cOf l f i=l.getD i 0:=if_pos hi
 obtain ⟨a,b,h1,h2,h3,h4⟩:=h.at' i _ hg
 rw [hc]
 unfold lkOf
 rw [h1,Option.getD_some]
 simp only [Option.some.injEq,Lk.mk.injEq,true_and,and_true]
 unfold cOf
 by_cases hi2:i+1 < l.length
 ·rw [if_pos hi2]
  exact h4 _ (by rw [List.getD_eq_getElem?_getD,List.getElem?_eq_getElem hi2]; rfl)
 ·rw [if_neg hi2,show l.length - 1=i by omega]
  unfold lkOf
  rw [h1,Option.getD_some]
theorem Rep.cOf_wf {l:List Int} {hd tl:Int} {f:Int→Option Lk} (h:Rep l hd tl f) (i:Nat) : Ev.wfI (cOf l f i):=by
 unfold cOf
 split
 ·rename_i hi
  have:=h.rng (l.getD i 0) (by rw [List.getD_eq_getElem?_getD,List.getElem?_eq_getElem hi]; exact List.getElem_mem hi)
  exact wfI_of (by omega) (by omega)
 ·unfold lkOf
  generalize l.getD (l.length - 1) 0=x
  cases hx:f x with
  | none=>exact wfI_of (by decide) (by decide)
  | some k =>
   by_cases hm:x ∈ l
   ·obtain ⟨j,hj⟩:=List.getElem?_of_mem hm
    obtain ⟨a,b,h1,h2,h3,_⟩:=h.at' j x hj
    rw [hx] at h1
    cases h1
    exact wfI_of (by show _≤b; omega) (by show b≤_; omega)
   ·rw [h.no x hm] at hx
    cases hx
section
variable {w:World} {F:Nat→Prop} {bs m b:Nat} {xs:List Value} {f:Int→Option Lk} {hd tl:Int}
abbrev fa (w:World) (F:Nat→Prop) (bs:Nat) (xs:List Value) (m b:Nat) (f:Int→Option Lk) (l:List Int) (hw:∀ i,Ev.wfI (cOf l f i)) (hm:m+4≤66) (hl:l.length≤12) : FA:=⟨w,F,bs,xs,m,b,l.length,f,fun i=>(lkOf f (cOf l f i)).a,cOf l f,hw,⟨hm,hl⟩⟩
abbrev isL (v:Value) (l:List Int) : Ev.Asr:=Ev.slA 3 1 v l.length (ints l)
theorem all_n (hm:m+4≤66) (h0:xs[m]? = some (.map none)) (h:Ev.Now [sA bs xs] F w) :
  Calls Try.prog 40 #[sP bs m] w fun e w'=>∃ v cd,Ev.dec cd=v∧e=.returned v∧Ev.Hold ⟨w,F⟩ [isL v [],sA bs xs] w' :=
 startP (faN ⟨w,F,bs,xs,m,0,0,fun _=>none,fun _=>0,fun _=>0,fun _=>wfI_of (by decide) (by decide),⟨hm,by decide⟩⟩ h0) (by kernel_rfl) h (by simp) (by simp) (fun κ w1 hh=>⟨_,_,Ev.dec_slice0,rfl,(hh.nilSl (e := 3) (sz:=1))⟩)
theorem all_m (l:List Int) (hm:m+4≤66) (hl:l.length≤12) (L:LnIs xs m (some b) l hd tl f) (h:Ev.Now [sA bs xs,lkA b l.length f] F w) :
  Calls Try.prog 40 #[sP bs m] w fun e w'=>∃ v cd,Ev.dec cd=v∧e=.returned v∧Ev.Hold ⟨w,F⟩ [isL v l,sA bs xs,lkA b l.length f] w':=by
 have hw:=L.rep.cOf_wf
 have hc:=L.rep.links
 match l,hl with
 | [],hl=>exact startP (fa0 (fa w F bs xs m b f [] hw hm hl) L.v rfl hc) (by kernel_rfl) h (by simp) (by simp) (fun κ w1 hh=>⟨_,_,Ev.dec_slice0,rfl,(hh.nilSl (e := 3) (sz:=1))⟩)
 | [x0],hl =>
  have e:=L.rep.hd x0 rfl
  subst e
  exact startP (fa1 (fa w F bs xs m b f [hd] hw hm hl) L.v rfl hc L.h) (by kernel_rfl) h (by simp) (by simp) (fun κ w1 hh=>⟨_,(κ 427).getD 0,rfl,rfl,hh.sel [2,0,1] (by kernel_rfl)⟩)
 | [x0,x1],hl =>
  have e:=L.rep.hd x0 rfl
  subst e
  exact startP (fa2 (fa w F bs xs m b f [hd,x1] hw hm hl) L.v rfl hc L.h) (by kernel_rfl) h (by simp) (by simp) (fun κ w1 hh=>⟨_,(κ 439).getD 0,rfl,rfl,hh.sel [2,0,1] (by kernel_rfl)⟩)
 | [x0,x1,x2],hl =>
  have e:=L.rep.hd x0 rfl
  subst e
  exact startP (fa3 (fa w F bs xs m b f [hd,x1,x2] hw hm hl) L.v rfl hc L.h) (by kernel_rfl) h (by simp) (by simp) (fun κ w1 hh=>⟨_,(κ 451).getD 0,rfl,rfl,hh.sel [2,0,1] (by kernel_rfl)⟩)
 | [x0,x1,x2,x3],hl =>
  have e:=L.rep.hd x0 rfl
  subst e
  exact startP (fa4 (fa w F bs xs m b f [hd,x1,x2,x3] hw hm hl) L.v rfl hc L.h) (by kernel_rfl) h (by simp) (by simp) (fun κ w1 hh=>⟨_,(κ 463).getD 0,rfl,rfl,hh.sel [2,0,1] (by kernel_rfl)⟩)
 | [x0,x1,x2,x3,x4],hl =>
  have e:=L.rep.hd x0 rfl
  subst e
  exact startP (fa5 (fa w F bs xs m b f [hd,x1,x2,x3,x4] hw hm hl) L.v rfl hc L.h) (by kernel_rfl) h (by simp) (by simp) (fun κ w1 hh=>⟨_,(κ 475).getD 0,rfl,rfl,hh.sel [2,0,1] (by kernel_rfl)⟩)
 | [x0,x1,x2,x3,x4,x5],hl =>
  have e:=L.rep.hd x0 rfl
  subst e
  exact startP (fa6 (fa w F bs xs m b f [hd,x1,x2,x3,x4,x5] hw hm hl) L.v rfl hc L.h) (by kernel_rfl) h (by simp) (by simp) (fun κ w1 hh=>⟨_,(κ 487).getD 0,rfl,rfl,hh.sel [2,0,1] (by kernel_rfl)⟩)
 | [x0,x1,x2,x3,x4,x5,x6],hl =>
  have e:=L.rep.hd x0 rfl
  subst e
  exact startP (fa7 (fa w F bs xs m b f [hd,x1,x2,x3,x4,x5,x6] hw hm hl) L.v rfl hc L.h) (by kernel_rfl) h (by simp) (by simp) (fun κ w1 hh=>⟨_,(κ 499).getD 0,rfl,rfl,hh.sel [2,0,1] (by kernel_rfl)⟩)
 | [x0,x1,x2,x3,x4,x5,x6,x7],hl =>
  have e:=L.rep.hd x0 rfl
  subst e
  exact startP (fa8 (fa w F bs xs m b f [hd,x1,x2,x3,x4,x5,x6,x7] hw hm hl) L.v rfl hc L.h) (by kernel_rfl) h (by simp) (by simp) (fun κ w1 hh=>⟨_,(κ 511).getD 0,rfl,rfl,hh.sel [2,0,1] (by kernel_rfl)⟩)
 | [x0,x1,x2,x3,x4,x5,x6,x7,x8],hl =>
  have e:=L.rep.hd x0 rfl
  subst e
  exact startP (fa9 (fa w F bs xs m b f [hd,x1,x2,x3,x4,x5,x6,x7,x8] hw hm hl) L.v rfl hc L.h) (by kernel_rfl) h (by simp) (by simp) (fun κ w1 hh=>⟨_,(κ 523).getD 0,rfl,rfl,hh.sel [2,0,1] (by kernel_rfl)⟩)
 | [x0,x1,x2,x3,x4,x5,x6,x7,x8,x9],hl =>
  have e:=L.rep.hd x0 rfl
  subst e
  exact startP (fa10 (fa w F bs xs m b f [hd,x1,x2,x3,x4,x5,x6,x7,x8,x9] hw hm hl) L.v rfl hc L.h) (by kernel_rfl) h (by simp) (by simp) (fun κ w1 hh=>⟨_,(κ 535).getD 0,rfl,rfl,hh.sel [2,0,1] (by kernel_rfl)⟩)
 | [x0,x1,x2,x3,x4,x5,x6,x7,x8,x9,x10],hl =>
  have e:=L.rep.hd x0 rfl
  subst e
  exact startP (fa11 (fa w F bs xs m b f [hd,x1,x2,x3,x4,x5,x6,x7,x8,x9,x10] hw hm hl) L.v rfl hc L.h) (by kernel_rfl) h (by simp) (by simp) (fun κ w1 hh=>⟨_,(κ 547).getD 0,rfl,rfl,hh.sel [2,0,1] (by kernel_rfl)⟩)
 | [x0,x1,x2,x3,x4,x5,x6,x7,x8,x9,x10,x11],hl =>
  have e:=L.rep.hd x0 rfl
  subst e
  exact startP (fa12 (fa w F bs xs m b f [hd,x1,x2,x3,x4,x5,x6,x7,x8,x9,x10,x11] hw hm hl) L.v rfl hc L.h) (by kernel_rfl) h (by simp) (by simp) (fun κ w1 hh=>⟨_,(κ 559).getD 0,rfl,rfl,hh.sel [2,0,1] (by kernel_rfl)⟩)
end
end Go.Proofs.Ytankbefdlbcdnaa
namespace Go.Proofs.Ytankbefdlbcdnaa
open Go.RowKit
open Go.Ev (iz iN pz)
set_option linter.unusedVariables false
set_option linter.unusedSimpArgs false
theorem mapI:Ev.IntMap Try.prog 71 3 3 where
 ht:=Try.underlying71
 hk:=Try.underlying3
 he:=Try.underlying3
 hz:=fun w=>by
  obtain ⟨i,i1,i2,i3,i4⟩:=infInt
  exact @Ev.run_zeroValue' Ev.noSig _ _ _ _ i1 i3 w
theorem infOne:∃ i,Try.prog.info? 76 = some i∧i.size=4∧True∧True:=by
 have h:(Try.prog.info? 76).map (fun i=>i.size)=some 4:=by kernel_rfl
 cases hi:Try.prog.info? 76 with
 | none=>rw [hi] at h; cases h
 | some i =>
  rw [hi] at h
  exact ⟨i,rfl,by simpa using h,trivial,trivial⟩
section
variable {w:World} {F:Nat→Prop} {bs m:Nat} {xs:List Value} {f:Int→Option Lk} {x hd tl:Int} {lv:Value} {l:List Int}
theorem push_nD (hm:m+4≤66) (hx:0≤x∧x < 4096) (hmx:m+3≤xs.length) (L:LnIs xs m none l hd tl f) (h:Ev.Now [sA bs xs,oneA lv x] F w) :
  Calls Try.prog 67 #[sP bs m,lv] w fun e w'=>∃ v cd,Ev.dec cd=v∧e=.returned (.int .i64 0)∧Ev.Hold ⟨w,F⟩ [sA bs (pushX (xs.set m v) m [] x),lkV v 1 (pushF [] tl (fun _=>none) x)] w' :=
 (push_n hm hx hmx L h).mono fun e w' ⟨b,he,hh⟩=>⟨.map (some b),_,Ev.dec_map b,he,((hh.sel [1,0] (by kernel_rfl)).head (b:=lkV (.map (some b)) 1 (pushF [] tl (fun _=>none) x)) (fun G h1=>⟨b,rfl,h1⟩)).sel [1,0] (by kernel_rfl)⟩
end
end Go.Proofs.Ytankbefdlbcdnaa
namespace Go.Proofs.Ytankbefdlbcdnaa
open Go.RowKit
open Go.Ev (sy iz uz wz iN uN wN pz dv fc fn ak vk vd kn pc cc cr cm cd fr)
set_option linter.unusedVariables false
set_option linter.unusedSimpArgs false
set_option maxRecDepth 8000
attribute [local irreducible] Ev.wpL
structure SQ where
 W0:World
 F0:Nat→Prop
 bs:Nat
 xs:List Value
 hxs:xs.length=66
 k:Nat
 bw:Nat
 nw:Nat
 fw:Int→Option Int
 g:Int
 nn:Int
 hnn:xs[0+64]? = some (.int .i64 nn)
 hwh:xs[0+65]? = some (.map (some bw))
 cnt:Int
 bl:Nat
 l:List Int
 hd:Int
 tl:Int
 f:Int→Option Lk
 h:k < 4∧(0≤g∧g < 4096)∧(k:Int) < nn∧nn≤16∧nw≤1000000∧0≤cnt∧cnt < 1073741824
theorem SQ.z (q:SQ) : q.k < 4∧(0≤q.g∧q.g < 4096)∧(q.k:Int) < q.nn∧q.nn≤16∧q.nw≤1000000∧0≤q.cnt∧q.cnt < 1073741824∧q.nw < maxLen:=by
 have h:=q.h
 have h2:q.nw < maxLen:=by unfold maxLen; omega
 exact ⟨h.1,h.2.1,h.2.2.1,h.2.2.2.1,h.2.2.2.2.1,h.2.2.2.2.2.1,h.2.2.2.2.2.2,h2⟩
abbrev se1a0 (q:SQ) : Ev.Asr:=Ev.slA 79 1 (Ev.arrV q.bs 66) 66 (q.xs)
abbrev se1a1 (q:SQ) : Ev.Asr:=Ev.mapA Try.prog 3 3 (q.bw) (q.nw) (q.fw)
abbrev se1a2 (q:SQ) : List Ev.Asr:=[(se1a0 q),(se1a1 q)]
abbrev se1a6 (q:SQ) : List Ev.Asr:=[Ev.slA 79 1 (Ev.arrV q.bs 66) (66) ((q.xs).set (0+0+(q.k) * 4+3) (iz ((q.cnt) - 1))),(se1a1 q)]
abbrev se1a7 (q:SQ) : List (Nat×Value):=[(0,(Ev.ptrR (Ev.arrV q.bs 66) (0))),(1,(iN (q.k))),(2,(iz (q.g)))]
abbrev se1a9 (q:SQ) : List Ev.Asr:=[(se1a0 q),(se1a1 q),lkA q.bl (q.l.length) (q.f)]
abbrev se1a10 (q:SQ) : Ev.Asr:=Ev.mapA Try.prog 3 3 (q.bw) (q.nw+1) (Ev.upd (q.fw) (q.g) (some ((q.k:Nat) : Int)))
abbrev se1a11 (q:SQ) : List Ev.Asr:=[(se1a0 q),(se1a10 q),lkA q.bl (q.l.length) (q.f)]
abbrev se1a13 (q:SQ) : List (Nat×Value):=[(0,(Ev.ptrR (Ev.arrV q.bs 66) (0))),(1,(iN (q.k))),(2,(iz (q.g))),(10,(Ev.ptrR (Ev.arrV q.bs 66) (0+0+(q.k) * 4)))]
abbrev se1a14 (q:SQ) : List Ev.Asr:=[(se1a0 q),(se1a10 q)]
abbrev se1a26 (q:SQ) : Ev.Asr:=Ev.slA 79 1 (Ev.arrV q.bs 66) (66) ((q.xs).set (0+0+(q.k) * 4+3) (iz ((q.cnt)+1)))
abbrev se1a27 (q:SQ) : List Ev.Asr:=[(se1a26 q),(se1a1 q)]
abbrev se1a28 (q:SQ) : List (Nat×Value):=[(0,(Ev.ptrR (Ev.arrV q.bs 66) (0))),(1,(iN (q.k)))]
abbrev se1a29 (q:SQ) : List Ev.Asr:=[(se1a0 q),(se1a1 q),lkA q.bl (0) (q.f)]
abbrev se1a31 (q:SQ) : List Ev.Asr:=[(se1a26 q),lkA q.bl (0) (q.f),(se1a1 q)]
abbrev se1a33 (q:SQ) : List Ev.Asr:=[(se1a0 q),(se1a1 q),lkA q.bl (q.l.length+1) (q.f)]
abbrev se1a39 (q:SQ) : List Ev.Asr:=[sA q.bs (rmX q.xs (0+0+(q.k) * 4+0) q.l q.f q.g),lkA q.bl q.l.length (rmF q.l q.f q.g),Ev.mapA Try.prog 3 3 (q.bw) (q.nw) (Ev.upd (q.fw) (q.g) none)]
theorem seWT (q:SQ) (x1:Int) (y1:(q.fw) (q.g)=some x1) : Ev.PieE Try.prog 14 [] 0 21 ⟨q.W0,q.F0⟩ [(0,(Ev.ptrR (Ev.arrV q.bs 66) (0))),(1,(iz (q.g)))] (se1a2 q) (fun κ:Ev.Ren=>(.tuple #[(iz (((q.fw) (q.g)).getD 0)),(.bool true)])) (fun κ:Ev.Ren=>(se1a2 q)):=(trE (c:=⟨q.W0,q.F0⟩) 20 (kn [Ev.ptrR (Ev.arrV q.bs 66) (0),Ev.ptrR (Ev.arrV q.bs 66) (0+65),Ev.arrV q.bs 66,iz (q.g),.map (some q.bw),iz (((q.fw) (q.g)).getD 0)] (fc (Ev.ptrR_leaf _ _) (fc (Ev.ptrR_leaf _ _) fr)) [] [] [] fn fn fn q.W0 q.F0 [(se1a2 q)] [⟨[20,24],[sy 0,.pointer none],none,0,none,.bool false,none⟩,⟨[9],[sy 0],none,0,none,sy 0,none⟩,⟨[7,79,2],[sy 0],none,0,none,sy 1,none⟩,⟨[1,71],[sy 1],none,0,none,sy 4,none⟩,⟨[5,71,1],[sy 4,sy 3],none,0,none,.tuple #[sy 5,.bool true],none⟩] []) (fc (Ev.ptr_eql rfl (by kernel_rfl)) (fc (Ev.blk_nil rfl) (fc (by have z:=q.z; exact Ev.sl_field (ci:=1) (fo:=65) rfl rfl (by omega) fldSem2 rfl rfl) (fc (by have z:=q.z; exact Ev.sl_load (ci:=1) (m:=0+65) (x:=(.map (some q.bw))) rfl rfl loadMapI q.hwh (by decide) rfl (fun ι=>(vk (by kernel_rfl) (by kernel_rfl)))) (fc (by have z:=q.z; exact Ev.map_look_yes mapI (ci:=2) rfl rfl rfl rfl (by first | assumption | exact wfI_of (by omega) (by omega)) y1 (by show Value.int .i64 _=_; rw [y1]; rfl)) fn))))) fn rfl [] [] [] 0 rfl rfl [(0,sy 0),(1,sy 3)] (.tuple #[sy 5,.bool true]))
theorem seWF (q:SQ) (h1:(q.fw) (q.g)=none) : Ev.PieE Try.prog 14 [] 0 21 ⟨q.W0,q.F0⟩ [(0,(Ev.ptrR (Ev.arrV q.bs 66) (0))),(1,(iz (q.g)))] (se1a2 q) (fun κ:Ev.Ren=>(.tuple #[(.int .i64 0),(.bool false)])) (fun κ:Ev.Ren=>(se1a2 q)):=(trE (c:=⟨q.W0,q.F0⟩) 20 (kn [Ev.ptrR (Ev.arrV q.bs 66) (0),Ev.ptrR (Ev.arrV q.bs 66) (0+65),Ev.arrV q.bs 66,iz (q.g),.map (some q.bw)] (fc (Ev.ptrR_leaf _ _) (fc (Ev.ptrR_leaf _ _) fr)) [] [] [] fn fn fn q.W0 q.F0 [(se1a2 q)] [⟨[20,24],[sy 0,.pointer none],none,0,none,.bool false,none⟩,⟨[9],[sy 0],none,0,none,sy 0,none⟩,⟨[7,79,2],[sy 0],none,0,none,sy 1,none⟩,⟨[1,71],[sy 1],none,0,none,sy 4,none⟩,⟨[5,71,1],[sy 4,sy 3],none,0,none,.tuple #[.int .i64 0,.bool false],none⟩] []) (fc (Ev.ptr_eql rfl (by kernel_rfl)) (fc (Ev.blk_nil rfl) (fc (by have z:=q.z; exact Ev.sl_field (ci:=1) (fo:=65) rfl rfl (by omega) fldSem2 rfl rfl) (fc (by have z:=q.z; exact Ev.sl_load (ci:=1) (m:=0+65) (x:=(.map (some q.bw))) rfl rfl loadMapI q.hwh (by decide) rfl (fun ι=>(vk (by kernel_rfl) (by kernel_rfl)))) (fc (by have z:=q.z; exact Ev.map_look_no mapI (ci:=2) rfl rfl rfl rfl (by first | assumption | exact wfI_of (by omega) (by omega)) h1) fn))))) fn rfl [] [] [] 0 rfl rfl [(0,sy 0),(1,sy 3)] (.tuple #[.int .i64 0,.bool false]))
theorem seA (q:SQ) (hc:q.xs[0+0+(q.k) * 4+3]? = some (.int .i64 q.cnt)) (hp:0 < q.cnt) (h1:(q.fw) (q.g)=none) : Ev.PieE Try.prog 56 [] 0 56 ⟨q.W0,q.F0⟩ (se1a7 q) (se1a2 q) (fun κ:Ev.Ren=>(.tuple #[(.bool true),(.int .i64 0)])) (fun κ:Ev.Ren=>(se1a6 q)):=(trE (c:=⟨q.W0,q.F0⟩) 40 (kn [Ev.ptrR (Ev.arrV q.bs 66) (0),Ev.ptrR (Ev.arrV q.bs 66) (0+64),Ev.ptrR (Ev.arrV q.bs 66) (0+65),Ev.ptrR (Ev.arrV q.bs 66) (0+0),Ev.ptrR (Ev.arrV q.bs 66) (0+0+(q.k) * 4),Ev.ptrR (Ev.arrV q.bs 66) (0+0+(q.k) * 4+3),Ev.arrV q.bs 66,iN (q.k),iz (q.g),iz (q.nn),.map (some q.bw),iz (q.cnt),iz ((q.cnt) - 1)] (fc (Ev.ptrR_leaf _ _) (fc (Ev.ptrR_leaf _ _) (fc (Ev.ptrR_leaf _ _) (fc (Ev.ptrR_leaf _ _) (fc (Ev.ptrR_leaf _ _) (fc (Ev.ptrR_leaf _ _) fr)))))) [(.geq,sy 7,.int .i64 0,.bool true),(.lss,sy 7,sy 9,.bool true),(.gtr,sy 11,.int .i64 0,.bool true),(.sub,sy 11,.int .i64 1,sy 12)] [] [] (fc (fun _ _ _=>Ev.bt_geq (by have z:=q.z; first | (simp; done) | (simp; omega))) (fc (fun _ _ _=>Ev.bt_lss (by have z:=q.z; first | (simp; done) | (simp; omega))) (fc (fun _ _ _=>Ev.bt_gtr (by have z:=q.z; first | (simp; done) | (simp; omega))) (fc (fun _ _ _=>Ev.bt_sub (by have z:=q.z; exact wrap_ok (by omega) (by omega))) fn)))) fn fn q.W0 q.F0 [(se1a2 q),(se1a6 q)] [⟨[20,24],[sy 0,.pointer none],none,0,none,.bool false,none⟩,⟨[9],[sy 0],none,0,none,sy 0,none⟩,⟨[7,79,1],[sy 0],none,0,none,sy 1,none⟩,⟨[1,3],[sy 1],none,0,none,sy 9,none⟩,⟨[7,79,2],[sy 0],none,0,none,sy 2,none⟩,⟨[1,71],[sy 2],none,0,none,sy 10,none⟩,⟨[5,71,1],[sy 10,sy 8],none,0,none,.tuple #[.int .i64 0,.bool false],none⟩,⟨[7,79,0],[sy 0],none,0,none,sy 3,none⟩,⟨[3,77],[sy 3,sy 7],none,0,none,sy 4,none⟩,⟨[9],[sy 4],none,0,none,sy 4,none⟩,⟨[7,76,1],[sy 4],none,0,none,sy 5,none⟩,⟨[1,3],[sy 5],none,0,none,sy 11,none⟩,⟨[2,3],[sy 5,sy 12],none,0,none,undef,some 1⟩] []) (fc (Ev.ptr_eql rfl (by kernel_rfl)) (fc (Ev.blk_nil rfl) (fc (by have z:=q.z; exact Ev.sl_field (ci:=1) (fo:=64) rfl rfl (by omega) fldSem1 rfl rfl) (fc (by have z:=q.z; exact Ev.sl_load (ci:=1) (m:=0+64) (x:=(iz (q.nn))) rfl rfl loadInt q.hnn (by decide) rfl (fun ι=>(vk (by kernel_rfl) (by kernel_rfl)))) (fc (by have z:=q.z; exact Ev.sl_field (ci:=1) (fo:=65) rfl rfl (by omega) fldSem2 rfl rfl) (fc (by have z:=q.z; exact Ev.sl_load (ci:=1) (m:=0+65) (x:=(.map (some q.bw))) rfl rfl loadMapI q.hwh (by decide) rfl (fun ι=>(vk (by kernel_rfl) (by kernel_rfl)))) (fc (by have z:=q.z; exact Ev.map_look_no mapI (ci:=2) rfl rfl rfl rfl (by first | assumption | exact wfI_of (by omega) (by omega)) h1) (fc (by have z:=q.z; exact Ev.sl_field (ci:=1) (fo:=0) rfl rfl (by omega) fldSem0 rfl rfl) (fc (by obtain ⟨i,i1,i2,i3,i4⟩:=infOne; have z:=q.z; exact Ev.sl_arr (ci:=1) (j:=(q.k)) rfl rfl (by omega) Try.underlying77 i1 i2 rfl rfl (by omega) rfl) (fc (Ev.blk_nil rfl) (fc (by have z:=q.z; exact Ev.sl_field (ci:=1) (fo:=3) rfl rfl (by omega) fldOne1 rfl rfl) (fc (by have z:=q.z; exact Ev.sl_load (ci:=1) (m:=0+0+(q.k) * 4+3) (x:=(iz (q.cnt))) rfl rfl loadInt hc (by simp; omega) rfl (fun ι=>(vk (by kernel_rfl) (by kernel_rfl)))) (fc (by have z:=q.z; exact Ev.sl_store (ci:=1) (m:=0+0+(q.k) * 4+3) (x:=(iz ((q.cnt) - 1))) rfl rfl rfl storeInt (by simp; omega) rfl (Ev.isSym rfl) rfl) fn))))))))))))) fn rfl [] [] [] 1 rfl rfl [(0,sy 0),(1,sy 7),(2,sy 8)] (.tuple #[.bool true,.int .i64 0]))
theorem seBM (q:SQ) (hc:q.xs[0+0+(q.k) * 4+3]? = some (.int .i64 q.cnt)) (hp:q.cnt=0) (h1:(q.fw) (q.g)=none) : Ev.Pie Try.prog 56 [] 0 12 56 ⟨q.W0,q.F0⟩ (se1a7 q) (se1a9 q) .normal (fun κ:Ev.Ren=>(se1a13 q)) (fun κ:Ev.Ren=>(se1a11 q)):=(tr (c:=⟨q.W0,q.F0⟩) (kn [Ev.ptrR (Ev.arrV q.bs 66) (0),Ev.ptrR (Ev.arrV q.bs 66) (0+64),Ev.ptrR (Ev.arrV q.bs 66) (0+65),Ev.ptrR (Ev.arrV q.bs 66) (0+0),Ev.ptrR (Ev.arrV q.bs 66) (0+0+(q.k) * 4),Ev.ptrR (Ev.arrV q.bs 66) (0+0+(q.k) * 4+3),Ev.arrV q.bs 66,iN (q.k),iz (q.g),iz (q.nn),.map (some q.bw),iz (q.cnt)] (fc (Ev.ptrR_leaf _ _) (fc (Ev.ptrR_leaf _ _) (fc (Ev.ptrR_leaf _ _) (fc (Ev.ptrR_leaf _ _) (fc (Ev.ptrR_leaf _ _) (fc (Ev.ptrR_leaf _ _) fr)))))) [(.geq,sy 7,.int .i64 0,.bool true),(.lss,sy 7,sy 9,.bool true),(.gtr,sy 11,.int .i64 0,.bool false)] [] [] (fc (fun _ _ _=>Ev.bt_geq (by have z:=q.z; first | (simp; done) | (simp; omega))) (fc (fun _ _ _=>Ev.bt_lss (by have z:=q.z; first | (simp; done) | (simp; omega))) (fc (fun _ _ _=>Ev.bt_gtr (by have z:=q.z; first | (simp; done) | (simp; omega))) fn))) fn fn q.W0 q.F0 [(se1a9 q),(se1a11 q)] [⟨[20,24],[sy 0,.pointer none],none,0,none,.bool false,none⟩,⟨[9],[sy 0],none,0,none,sy 0,none⟩,⟨[7,79,1],[sy 0],none,0,none,sy 1,none⟩,⟨[1,3],[sy 1],none,0,none,sy 9,none⟩,⟨[7,79,2],[sy 0],none,0,none,sy 2,none⟩,⟨[1,71],[sy 2],none,0,none,sy 10,none⟩,⟨[5,71,1],[sy 10,sy 8],none,0,none,.tuple #[.int .i64 0,.bool false],none⟩,⟨[7,79,0],[sy 0],none,0,none,sy 3,none⟩,⟨[3,77],[sy 3,sy 7],none,0,none,sy 4,none⟩,⟨[9],[sy 4],none,0,none,sy 4,none⟩,⟨[7,76,1],[sy 4],none,0,none,sy 5,none⟩,⟨[1,3],[sy 5],none,0,none,sy 11,none⟩,⟨[6,71],[sy 10,sy 8,sy 7],none,0,none,undef,some 1⟩] []) (fc (Ev.ptr_eql rfl (by kernel_rfl)) (fc (Ev.blk_nil rfl) (fc (by have z:=q.z; exact Ev.sl_field (ci:=1) (fo:=64) rfl rfl (by omega) fldSem1 rfl rfl) (fc (by have z:=q.z; exact Ev.sl_load (ci:=1) (m:=0+64) (x:=(iz (q.nn))) rfl rfl loadInt q.hnn (by decide) rfl (fun ι=>(vk (by kernel_rfl) (by kernel_rfl)))) (fc (by have z:=q.z; exact Ev.sl_field (ci:=1) (fo:=65) rfl rfl (by omega) fldSem2 rfl rfl) (fc (by have z:=q.z; exact Ev.sl_load (ci:=1) (m:=0+65) (x:=(.map (some q.bw))) rfl rfl loadMapI q.hwh (by decide) rfl (fun ι=>(vk (by kernel_rfl) (by kernel_rfl)))) (fc (by have z:=q.z; exact Ev.map_look_no mapI (ci:=2) rfl rfl rfl rfl (by first | assumption | exact wfI_of (by omega) (by omega)) h1) (fc (by have z:=q.z; exact Ev.sl_field (ci:=1) (fo:=0) rfl rfl (by omega) fldSem0 rfl rfl) (fc (by obtain ⟨i,i1,i2,i3,i4⟩:=infOne; have z:=q.z; exact Ev.sl_arr (ci:=1) (j:=(q.k)) rfl rfl (by omega) Try.underlying77 i1 i2 rfl rfl (by omega) rfl) (fc (Ev.blk_nil rfl) (fc (by have z:=q.z; exact Ev.sl_field (ci:=1) (fo:=3) rfl rfl (by omega) fldOne1 rfl rfl) (fc (by have z:=q.z; exact Ev.sl_load (ci:=1) (m:=0+0+(q.k) * 4+3) (x:=(iz (q.cnt))) rfl rfl loadInt hc (by simp; omega) rfl (fun ι=>(vk (by kernel_rfl) (by kernel_rfl)))) (fc (by have z:=q.z; exact Ev.map_put mapI (ci:=2) (x:=((q.k:Nat) : Int)) rfl rfl rfl rfl rfl (by first | assumption | exact wfI_of (by omega) (by omega)) (by omega) (fun ι y h=>Ev.vsymK mapI h) (by first | assumption | exact wfI_of (by omega) (by omega))) fn))))))))))))) fn rfl [] [] [] 1 rfl rfl [(0,sy 0),(1,sy 7),(2,sy 8)] [(0,sy 0),(1,sy 7),(2,sy 8),(10,sy 4)] .normal)
theorem seBN (q:SQ) (hc:q.xs[0+0+(q.k) * 4+3]? = some (.int .i64 q.cnt)) (hp:q.cnt=0) (h1:(q.fw) (q.g)=none) : Ev.Pie Try.prog 56 [] 0 12 56 ⟨q.W0,q.F0⟩ (se1a7 q) (se1a2 q) .normal (fun κ:Ev.Ren=>(se1a13 q)) (fun κ:Ev.Ren=>(se1a14 q)):=(tr (c:=⟨q.W0,q.F0⟩) (kn [Ev.ptrR (Ev.arrV q.bs 66) (0),Ev.ptrR (Ev.arrV q.bs 66) (0+64),Ev.ptrR (Ev.arrV q.bs 66) (0+65),Ev.ptrR (Ev.arrV q.bs 66) (0+0),Ev.ptrR (Ev.arrV q.bs 66) (0+0+(q.k) * 4),Ev.ptrR (Ev.arrV q.bs 66) (0+0+(q.k) * 4+3),Ev.arrV q.bs 66,iN (q.k),iz (q.g),iz (q.nn),.map (some q.bw),iz (q.cnt)] (fc (Ev.ptrR_leaf _ _) (fc (Ev.ptrR_leaf _ _) (fc (Ev.ptrR_leaf _ _) (fc (Ev.ptrR_leaf _ _) (fc (Ev.ptrR_leaf _ _) (fc (Ev.ptrR_leaf _ _) fr)))))) [(.geq,sy 7,.int .i64 0,.bool true),(.lss,sy 7,sy 9,.bool true),(.gtr,sy 11,.int .i64 0,.bool false)] [] [] (fc (fun _ _ _=>Ev.bt_geq (by have z:=q.z; first | (simp; done) | (simp; omega))) (fc (fun _ _ _=>Ev.bt_lss (by have z:=q.z; first | (simp; done) | (simp; omega))) (fc (fun _ _ _=>Ev.bt_gtr (by have z:=q.z; first | (simp; done) | (simp; omega))) fn))) fn fn q.W0 q.F0 [(se1a2 q),(se1a14 q)] [⟨[20,24],[sy 0,.pointer none],none,0,none,.bool false,none⟩,⟨[9],[sy 0],none,0,none,sy 0,none⟩,⟨[7,79,1],[sy 0],none,0,none,sy 1,none⟩,⟨[1,3],[sy 1],none,0,none,sy 9,none⟩,⟨[7,79,2],[sy 0],none,0,none,sy 2,none⟩,⟨[1,71],[sy 2],none,0,none,sy 10,none⟩,⟨[5,71,1],[sy 10,sy 8],none,0,none,.tuple #[.int .i64 0,.bool false],none⟩,⟨[7,79,0],[sy 0],none,0,none,sy 3,none⟩,⟨[3,77],[sy 3,sy 7],none,0,none,sy 4,none⟩,⟨[9],[sy 4],none,0,none,sy 4,none⟩,⟨[7,76,1],[sy 4],none,0,none,sy 5,none⟩,⟨[1,3],[sy 5],none,0,none,sy 11,none⟩,⟨[6,71],[sy 10,sy 8,sy 7],none,0,none,undef,some 1⟩] []) (fc (Ev.ptr_eql rfl (by kernel_rfl)) (fc (Ev.blk_nil rfl) (fc (by have z:=q.z; exact Ev.sl_field (ci:=1) (fo:=64) rfl rfl (by omega) fldSem1 rfl rfl) (fc (by have z:=q.z; exact Ev.sl_load (ci:=1) (m:=0+64) (x:=(iz (q.nn))) rfl rfl loadInt q.hnn (by decide) rfl (fun ι=>(vk (by kernel_rfl) (by kernel_rfl)))) (fc (by have z:=q.z; exact Ev.sl_field (ci:=1) (fo:=65) rfl rfl (by omega) fldSem2 rfl rfl) (fc (by have z:=q.z; exact Ev.sl_load (ci:=1) (m:=0+65) (x:=(.map (some q.bw))) rfl rfl loadMapI q.hwh (by decide) rfl (fun ι=>(vk (by kernel_rfl) (by kernel_rfl)))) (fc (by have z:=q.z; exact Ev.map_look_no mapI (ci:=2) rfl rfl rfl rfl (by first | assumption | exact wfI_of (by omega) (by omega)) h1) (fc (by have z:=q.z; exact Ev.sl_field (ci:=1) (fo:=0) rfl rfl (by omega) fldSem0 rfl rfl) (fc (by obtain ⟨i,i1,i2,i3,i4⟩:=infOne; have z:=q.z; exact Ev.sl_arr (ci:=1) (j:=(q.k)) rfl rfl (by omega) Try.underlying77 i1 i2 rfl rfl (by omega) rfl) (fc (Ev.blk_nil rfl) (fc (by have z:=q.z; exact Ev.sl_field (ci:=1) (fo:=3) rfl rfl (by omega) fldOne1 rfl rfl) (fc (by have z:=q.z; exact Ev.sl_load (ci:=1) (m:=0+0+(q.k) * 4+3) (x:=(iz (q.cnt))) rfl rfl loadInt hc (by simp; omega) rfl (fun ι=>(vk (by kernel_rfl) (by kernel_rfl)))) (fc (by have z:=q.z; exact Ev.map_put mapI (ci:=2) (x:=((q.k:Nat) : Int)) rfl rfl rfl rfl rfl (by first | assumption | exact wfI_of (by omega) (by omega)) (by omega) (fun ι y h=>Ev.vsymK mapI h) (by first | assumption | exact wfI_of (by omega) (by omega))) fn))))))))))))) fn rfl [] [] [] 1 rfl rfl [(0,sy 0),(1,sy 7),(2,sy 8)] [(0,sy 0),(1,sy 7),(2,sy 8),(10,sy 4)] .normal)
theorem seCM (q:SQ) (hL:LnIs q.xs (0+0+(q.k) * 4+0) (some q.bl) q.l q.hd q.tl q.f) (hgl:q.g ∉ q.l) (hll:q.l.length≤4000) : Ev.PieE Try.prog 56 [] 12 56 ⟨q.W0,q.F0⟩ (se1a13 q) (se1a9 q) (fun κ:Ev.Ren=>(.tuple #[(.bool false),(.int .i64 0)])) (fun κ:Ev.Ren=>[oneA (dv κ 403) q.g,sA q.bs (pushX q.xs (0+0+(q.k) * 4+0) q.l q.g),lkA q.bl (q.l.length+1) (pushF q.l q.tl q.f q.g),(se1a1 q)]):=(trE (c:=⟨q.W0,q.F0⟩) 5 (kn [Ev.ptrR (Ev.arrV q.bs 66) (0),Ev.ptrR (Ev.arrV q.bs 66) (0+0+(q.k) * 4),Ev.ptrR (Ev.arrV q.bs 66) (0+0+(q.k) * 4+0),Ev.arrV q.bs 66,iN (q.k),iz (q.g)] (fc (Ev.ptrR_leaf _ _) (fc (Ev.ptrR_leaf _ _) (fc (Ev.ptrR_leaf _ _) fr))) [] [] [] fn fn fn q.W0 q.F0 [(se1a9 q),[(se1a0 q),(se1a1 q),lkA q.bl (q.l.length) (q.f),Ev.atD 403 (fun v=>Ev.slA 3 1 v 1 [(iz (q.g))])],[Ev.atD 403 (fun v=>oneA v q.g),sA q.bs (pushX q.xs (0+0+(q.k) * 4+0) q.l q.g),lkA q.bl (q.l.length+1) (pushF q.l q.tl q.f q.g),(se1a1 q)]] [⟨[9],[sy 1],none,0,none,sy 1,none⟩,⟨[7,76,0],[sy 1],none,0,none,sy 2,none⟩,⟨[24,37],[sy 5],none,0,some 403,.complex .f32 403 0,some 1⟩] [⟨67,[sy 2,.complex .f32 403 0],1,none,.int .i64 0,some 2⟩]) (fc (Ev.blk_nil rfl) (fc (by have z:=q.z; exact Ev.sl_field (ci:=1) (fo:=0) rfl rfl (by omega) fldOne0 rfl rfl) (fc (by obtain ⟨i,i1,i2,i3,i4⟩:=infInt; exact Ev.build_one rfl rfl Try.underlying37 i1 i2 i3 rfl (Ev.isSym rfl) rfl) fn))) (fc (Ev.gc_ofDM (c:=⟨q.W0,q.F0⟩) (lpd:=[Ev.slA 79 1 (Ev.arrV q.bs 66) 66 (q.xs),lkA q.bl (q.l.length) (q.f),Ev.atD 403 (fun v=>Ev.slA 3 1 v 1 [(iz (q.g))])]) (lp:=fun v=>[Ev.slA 79 1 (Ev.arrV q.bs 66) 66 (q.xs),lkA q.bl (q.l.length) (q.f),Ev.slA 3 1 v 1 [(iz (q.g))]]) (args:=fun v=>[(Ev.ptrR (Ev.arrV q.bs 66) (0+0+(q.k) * 4+0)),v]) [fun v=>oneA v q.g] [sA q.bs (pushX q.xs (0+0+(q.k) * 4+0) q.l q.g),lkA q.bl (q.l.length+1) (pushF q.l q.tl q.f q.g)] [0,2,3] [1] rfl rfl rfl rfl (Ev.hf_flat (fun _ _ _ _ h=>h) (Ev.hf_flat (fun _ _ _ _ h=>h) (Ev.hf_at (fun _ _ _ _ _ h=>h) Ev.hf_nil))) (Ev.argD_cons (v:=(Ev.ptrR (Ev.arrV q.bs 66) (0+0+(q.k) * 4+0))) (args:=fun v=>[v]) (Ev.isSym rfl) (Ev.argD_here (ak (by kernel_rfl) (by kernel_rfl)))) (fun ι=>(vk (by kernel_rfl) (by kernel_rfl))) (fun v w F ho hn hF=>(push_m q.bl (by have z:=q.z; omega) q.z.2.1 hgl hll hL hn).mono (fun _ _ h=>⟨h.1,h.2.sel [2,0,1] (by kernel_rfl)⟩))) fn) rfl [] [] [] 2 rfl rfl [(0,sy 0),(1,sy 4),(2,sy 5),(10,sy 1)] (.tuple #[.bool false,.int .i64 0])).conv (fun κ w=>⟨(fun _ h=>Ev.undy (a:=fun v=>oneA v q.g) (fun _ _ _ _ _ h=>h) h),(fun _ h=>h),(fun _ h=>h),(fun _ h=>h),trivial⟩)
theorem seCN (q:SQ) (hL:LnIs q.xs (0+0+(q.k) * 4+0) none q.l q.hd q.tl q.f) (hgl:q.g ∉ q.l) (hll:q.l.length≤4000) : Ev.PieE Try.prog 56 [] 12 56 ⟨q.W0,q.F0⟩ (se1a13 q) (se1a2 q) (fun κ:Ev.Ren=>(.tuple #[(.bool false),(.int .i64 0)])) (fun κ:Ev.Ren=>[sA q.bs (pushX (q.xs.set (0+0+(q.k) * 4+0) (dv κ 407)) (0+0+(q.k) * 4+0) [] q.g),lkV (dv κ 407) 1 (pushF [] q.tl (fun _=>none) q.g),(se1a1 q)]):=(trE (c:=⟨q.W0,q.F0⟩) 5 (kn [Ev.ptrR (Ev.arrV q.bs 66) (0),Ev.ptrR (Ev.arrV q.bs 66) (0+0+(q.k) * 4),Ev.ptrR (Ev.arrV q.bs 66) (0+0+(q.k) * 4+0),Ev.arrV q.bs 66,iN (q.k),iz (q.g)] (fc (Ev.ptrR_leaf _ _) (fc (Ev.ptrR_leaf _ _) (fc (Ev.ptrR_leaf _ _) fr))) [] [] [] fn fn fn q.W0 q.F0 [(se1a2 q),[(se1a0 q),(se1a1 q),Ev.atD 403 (fun v=>Ev.slA 3 1 v 1 [(iz (q.g))])],[Ev.atD 407 (fun v=>sA q.bs (pushX (q.xs.set (0+0+(q.k) * 4+0) v) (0+0+(q.k) * 4+0) [] q.g)),Ev.atD 407 (fun v=>lkV v 1 (pushF [] q.tl (fun _=>none) q.g)),(se1a1 q)]] [⟨[9],[sy 1],none,0,none,sy 1,none⟩,⟨[7,76,0],[sy 1],none,0,none,sy 2,none⟩,⟨[24,37],[sy 5],none,0,some 403,.complex .f32 403 0,some 1⟩] [⟨67,[sy 2,.complex .f32 403 0],1,some 407,.int .i64 0,some 2⟩]) (fc (Ev.blk_nil rfl) (fc (by have z:=q.z; exact Ev.sl_field (ci:=1) (fo:=0) rfl rfl (by omega) fldOne0 rfl rfl) (fc (by obtain ⟨i,i1,i2,i3,i4⟩:=infInt; exact Ev.build_one rfl rfl Try.underlying37 i1 i2 i3 rfl (Ev.isSym rfl) rfl) fn))) (fc (by have z:=q.z; exact Ev.gc_ofDD (c:=⟨q.W0,q.F0⟩) (lpd:=[Ev.slA 79 1 (Ev.arrV q.bs 66) 66 (q.xs),Ev.atD 403 (fun v=>Ev.slA 3 1 v 1 [(iz (q.g))])]) (lp:=fun v=>[Ev.slA 79 1 (Ev.arrV q.bs 66) 66 (q.xs),Ev.slA 3 1 v 1 [(iz (q.g))]]) (args:=fun v=>[(Ev.ptrR (Ev.arrV q.bs 66) (0+0+(q.k) * 4+0)),v]) (ret:=fun v=>.int .i64 0) [fun v=>sA q.bs (pushX (q.xs.set (0+0+(q.k) * 4+0) v) (0+0+(q.k) * 4+0) [] q.g),fun v=>lkV v 1 (pushF [] q.tl (fun _=>none) q.g)] [0,2] [1] rfl rfl rfl rfl (Ev.hf_flat (fun _ _ _ _ h=>h) (Ev.hf_at (fun _ _ _ _ _ h=>h) Ev.hf_nil)) (Ev.argD_cons (v:=(Ev.ptrR (Ev.arrV q.bs 66) (0+0+(q.k) * 4+0))) (args:=fun v=>[v]) (Ev.isSym rfl) (Ev.argD_here (ak (by kernel_rfl) (by kernel_rfl)))) (fun ι cd hcd=>(vk (by kernel_rfl) (by kernel_rfl))) (fun v w F ho hn hF=>push_nD (by have z:=q.z; omega) q.z.2.1 (by rw [q.hxs]; have z:=q.z; omega) hL hn)) fn) rfl [] [] [] 2 rfl rfl [(0,sy 0),(1,sy 4),(2,sy 5),(10,sy 1)] (.tuple #[.bool false,.int .i64 0])).conv (fun κ w=>⟨(fun _ h=>Ev.undy (a:=fun v=>sA q.bs (pushX (q.xs.set (0+0+(q.k) * 4+0) v) (0+0+(q.k) * 4+0) [] q.g)) (fun _ _ _ _ _ h=>h) h),(fun _ h=>Ev.undy (a:=fun v=>lkV v 1 (pushF [] q.tl (fun _=>none) q.g)) (fun _ _ _ _ _ h=>h) h),(fun _ h=>h),trivial⟩)
theorem seRN (q:SQ) (hc:q.xs[0+0+(q.k) * 4+3]? = some (.int .i64 q.cnt)) (hL:LnIs q.xs (0+0+(q.k) * 4+0) none [] q.hd q.tl q.f) : Ev.PieE Try.prog 57 [] 0 47 ⟨q.W0,q.F0⟩ (se1a28 q) (se1a2 q) (fun κ:Ev.Ren=>(.tuple #[(.int .i64 0),(.bool false),(.int .i64 0)])) (fun κ:Ev.Ren=>(se1a27 q)):=(trE (c:=⟨q.W0,q.F0⟩) 40 (kn [Ev.ptrR (Ev.arrV q.bs 66) (0),Ev.ptrR (Ev.arrV q.bs 66) (0+64),Ev.ptrR (Ev.arrV q.bs 66) (0+0),Ev.ptrR (Ev.arrV q.bs 66) (0+0+(q.k) * 4),Ev.ptrR (Ev.arrV q.bs 66) (0+0+(q.k) * 4+0),Ev.ptrR (Ev.arrV q.bs 66) (0+0+(q.k) * 4+3),Ev.arrV q.bs 66,iN (q.k),iz (q.nn),iz (q.cnt),iz ((q.cnt)+1)] (fc (Ev.ptrR_leaf _ _) (fc (Ev.ptrR_leaf _ _) (fc (Ev.ptrR_leaf _ _) (fc (Ev.ptrR_leaf _ _) (fc (Ev.ptrR_leaf _ _) (fc (Ev.ptrR_leaf _ _) fr)))))) [(.geq,sy 7,.int .i64 0,.bool true),(.lss,sy 7,sy 8,.bool true),(.eql,sy 9,.int .i64 1073741824,.bool false),(.add,sy 9,.int .i64 1,sy 10)] [] [] (fc (fun _ _ _=>Ev.bt_geq (by have z:=q.z; first | (simp; done) | (simp; omega))) (fc (fun _ _ _=>Ev.bt_lss (by have z:=q.z; first | (simp; done) | (simp; omega))) (fc (fun _ _ _=>Ev.bt_eql (by have z:=q.z; first | (simp; done) | (simp; omega))) (fc (fun _ _ _=>Ev.bt_add (by have z:=q.z; exact wrap_ok (by omega) (by omega))) fn)))) fn fn q.W0 q.F0 [(se1a2 q),(se1a2 q),(se1a27 q)] [⟨[20,24],[sy 0,.pointer none],none,0,none,.bool false,none⟩,⟨[9],[sy 0],none,0,none,sy 0,none⟩,⟨[7,79,1],[sy 0],none,0,none,sy 1,none⟩,⟨[1,3],[sy 1],none,0,none,sy 8,none⟩,⟨[7,79,0],[sy 0],none,0,none,sy 2,none⟩,⟨[3,77],[sy 2,sy 7],none,0,none,sy 3,none⟩,⟨[9],[sy 3],none,0,none,sy 3,none⟩,⟨[7,76,0],[sy 3],none,0,none,sy 4,none⟩,⟨[9],[sy 3],none,1,none,sy 3,none⟩,⟨[7,76,1],[sy 3],none,1,none,sy 5,none⟩,⟨[1,3],[sy 5],none,1,none,sy 9,none⟩,⟨[2,3],[sy 5,sy 10],none,1,none,undef,some 2⟩] [⟨68,[sy 4],0,none,.tuple #[.int .i64 0,.bool false],some 1⟩]) (fc (Ev.ptr_eql rfl (by kernel_rfl)) (fc (Ev.blk_nil rfl) (fc (by have z:=q.z; exact Ev.sl_field (ci:=1) (fo:=64) rfl rfl (by omega) fldSem1 rfl rfl) (fc (by have z:=q.z; exact Ev.sl_load (ci:=1) (m:=0+64) (x:=(iz (q.nn))) rfl rfl loadInt q.hnn (by decide) rfl (fun ι=>(vk (by kernel_rfl) (by kernel_rfl)))) (fc (by have z:=q.z; exact Ev.sl_field (ci:=1) (fo:=0) rfl rfl (by omega) fldSem0 rfl rfl) (fc (by obtain ⟨i,i1,i2,i3,i4⟩:=infOne; have z:=q.z; exact Ev.sl_arr (ci:=1) (j:=(q.k)) rfl rfl (by omega) Try.underlying77 i1 i2 rfl rfl (by omega) rfl) (fc (Ev.blk_nil rfl) (fc (by have z:=q.z; exact Ev.sl_field (ci:=1) (fo:=0) rfl rfl (by omega) fldOne0 rfl rfl) (fc (Ev.blk_nil rfl) (fc (by have z:=q.z; exact Ev.sl_field (ci:=1) (fo:=3) rfl rfl (by omega) fldOne1 rfl rfl) (fc (by have z:=q.z; exact Ev.sl_load (ci:=1) (m:=0+0+(q.k) * 4+3) (x:=(iz (q.cnt))) rfl rfl loadInt hc (by simp; omega) rfl (fun ι=>(vk (by kernel_rfl) (by kernel_rfl)))) (fc (by have z:=q.z; exact Ev.sl_store (ci:=1) (m:=0+0+(q.k) * 4+3) (x:=(iz ((q.cnt)+1))) rfl rfl rfl storeInt (by simp; omega) rfl (Ev.isSym rfl) rfl) fn)))))))))))) (fc (cc rfl [Ev.slA 79 1 (Ev.arrV q.bs 66) 66 (q.xs)] [0] [1] (fun w F ho hn hF=>head_n (by have z:=q.z; omega) hL.v hn)) fn) rfl [] [] [] 2 rfl rfl [(0,sy 0),(1,sy 7)] (.tuple #[.int .i64 0,.bool false,.int .i64 0]))
theorem seRZ (q:SQ) (hc:q.xs[0+0+(q.k) * 4+3]? = some (.int .i64 q.cnt)) (hL:LnIs q.xs (0+0+(q.k) * 4+0) (some q.bl) [] q.hd q.tl q.f) : Ev.PieE Try.prog 57 [] 0 47 ⟨q.W0,q.F0⟩ (se1a28 q) (se1a29 q) (fun κ:Ev.Ren=>(.tuple #[(.int .i64 0),(.bool false),(.int .i64 0)])) (fun κ:Ev.Ren=>(se1a31 q)):=(trE (c:=⟨q.W0,q.F0⟩) 40 (kn [Ev.ptrR (Ev.arrV q.bs 66) (0),Ev.ptrR (Ev.arrV q.bs 66) (0+64),Ev.ptrR (Ev.arrV q.bs 66) (0+0),Ev.ptrR (Ev.arrV q.bs 66) (0+0+(q.k) * 4),Ev.ptrR (Ev.arrV q.bs 66) (0+0+(q.k) * 4+0),Ev.ptrR (Ev.arrV q.bs 66) (0+0+(q.k) * 4+3),Ev.arrV q.bs 66,iN (q.k),iz (q.nn),iz (q.cnt),iz ((q.cnt)+1)] (fc (Ev.ptrR_leaf _ _) (fc (Ev.ptrR_leaf _ _) (fc (Ev.ptrR_leaf _ _) (fc (Ev.ptrR_leaf _ _) (fc (Ev.ptrR_leaf _ _) (fc (Ev.ptrR_leaf _ _) fr)))))) [(.geq,sy 7,.int .i64 0,.bool true),(.lss,sy 7,sy 8,.bool true),(.eql,sy 9,.int .i64 1073741824,.bool false),(.add,sy 9,.int .i64 1,sy 10)] [] [] (fc (fun _ _ _=>Ev.bt_geq (by have z:=q.z; first | (simp; done) | (simp; omega))) (fc (fun _ _ _=>Ev.bt_lss (by have z:=q.z; first | (simp; done) | (simp; omega))) (fc (fun _ _ _=>Ev.bt_eql (by have z:=q.z; first | (simp; done) | (simp; omega))) (fc (fun _ _ _=>Ev.bt_add (by have z:=q.z; exact wrap_ok (by omega) (by omega))) fn)))) fn fn q.W0 q.F0 [(se1a29 q),[(se1a0 q),lkA q.bl (0) (q.f),(se1a1 q)],(se1a31 q)] [⟨[20,24],[sy 0,.pointer none],none,0,none,.bool false,none⟩,⟨[9],[sy 0],none,0,none,sy 0,none⟩,⟨[7,79,1],[sy 0],none,0,none,sy 1,none⟩,⟨[1,3],[sy 1],none,0,none,sy 8,none⟩,⟨[7,79,0],[sy 0],none,0,none,sy 2,none⟩,⟨[3,77],[sy 2,sy 7],none,0,none,sy 3,none⟩,⟨[9],[sy 3],none,0,none,sy 3,none⟩,⟨[7,76,0],[sy 3],none,0,none,sy 4,none⟩,⟨[9],[sy 3],none,1,none,sy 3,none⟩,⟨[7,76,1],[sy 3],none,1,none,sy 5,none⟩,⟨[1,3],[sy 5],none,1,none,sy 9,none⟩,⟨[2,3],[sy 5,sy 10],none,1,none,undef,some 2⟩] [⟨68,[sy 4],0,none,.tuple #[.int .i64 0,.bool false],some 1⟩]) (fc (Ev.ptr_eql rfl (by kernel_rfl)) (fc (Ev.blk_nil rfl) (fc (by have z:=q.z; exact Ev.sl_field (ci:=1) (fo:=64) rfl rfl (by omega) fldSem1 rfl rfl) (fc (by have z:=q.z; exact Ev.sl_load (ci:=1) (m:=0+64) (x:=(iz (q.nn))) rfl rfl loadInt q.hnn (by decide) rfl (fun ι=>(vk (by kernel_rfl) (by kernel_rfl)))) (fc (by have z:=q.z; exact Ev.sl_field (ci:=1) (fo:=0) rfl rfl (by omega) fldSem0 rfl rfl) (fc (by obtain ⟨i,i1,i2,i3,i4⟩:=infOne; have z:=q.z; exact Ev.sl_arr (ci:=1) (j:=(q.k)) rfl rfl (by omega) Try.underlying77 i1 i2 rfl rfl (by omega) rfl) (fc (Ev.blk_nil rfl) (fc (by have z:=q.z; exact Ev.sl_field (ci:=1) (fo:=0) rfl rfl (by omega) fldOne0 rfl rfl) (fc (Ev.blk_nil rfl) (fc (by have z:=q.z; exact Ev.sl_field (ci:=1) (fo:=3) rfl rfl (by omega) fldOne1 rfl rfl) (fc (by have z:=q.z; exact Ev.sl_load (ci:=1) (m:=0+0+(q.k) * 4+3) (x:=(iz (q.cnt))) rfl rfl loadInt hc (by simp; omega) rfl (fun ι=>(vk (by kernel_rfl) (by kernel_rfl)))) (fc (by have z:=q.z; exact Ev.sl_store (ci:=1) (m:=0+0+(q.k) * 4+3) (x:=(iz ((q.cnt)+1))) rfl rfl rfl storeInt (by simp; omega) rfl (Ev.isSym rfl) rfl) fn)))))))))))) (fc (cc rfl [Ev.slA 79 1 (Ev.arrV q.bs 66) 66 (q.xs),lkA q.bl (0) (q.f)] [0,2] [1] (fun w F ho hn hF=>head_z q.bl (by have z:=q.z; omega) hL.v hn)) fn) rfl [] [] [] 2 rfl rfl [(0,sy 0),(1,sy 7)] (.tuple #[.int .i64 0,.bool false,.int .i64 0]))
theorem seRP (q:SQ) (hL:LnIs q.xs (0+0+(q.k) * 4+0) (some q.bl) (q.g::q.l) q.hd q.tl q.f) (hll:q.l.length≤4000) (hw:q.fw q.g=some (q.k:Int)) : Ev.PieE Try.prog 57 [] 0 47 ⟨q.W0,q.F0⟩ (se1a28 q) (se1a33 q) (fun κ:Ev.Ren=>(.tuple #[(iz (q.g)),(.bool true),(.int .i64 0)])) (fun κ:Ev.Ren=>(se1a39 q)):=(trE (c:=⟨q.W0,q.F0⟩) 40 (kn [Ev.ptrR (Ev.arrV q.bs 66) (0),Ev.ptrR (Ev.arrV q.bs 66) (0+64),Ev.ptrR (Ev.arrV q.bs 66) (0+0),Ev.ptrR (Ev.arrV q.bs 66) (0+0+(q.k) * 4),Ev.ptrR (Ev.arrV q.bs 66) (0+0+(q.k) * 4+0),Ev.ptrR (Ev.arrV q.bs 66) (0+65),Ev.arrV q.bs 66,iN (q.k),iz (q.nn),iz (q.g),.map (some q.bw)] (fc (Ev.ptrR_leaf _ _) (fc (Ev.ptrR_leaf _ _) (fc (Ev.ptrR_leaf _ _) (fc (Ev.ptrR_leaf _ _) (fc (Ev.ptrR_leaf _ _) (fc (Ev.ptrR_leaf _ _) fr)))))) [(.geq,sy 7,.int .i64 0,.bool true),(.lss,sy 7,sy 8,.bool true)] [] [] (fc (fun _ _ _=>Ev.bt_geq (by have z:=q.z; first | (simp; done) | (simp; omega))) (fc (fun _ _ _=>Ev.bt_lss (by have z:=q.z; first | (simp; done) | (simp; omega))) fn)) fn fn q.W0 q.F0 [(se1a33 q),[(se1a0 q),lkA q.bl (q.l.length+1) (q.f),(se1a1 q)],[(se1a0 q),lkA q.bl (q.l.length+1) (q.f),Ev.mapA Try.prog 3 3 (q.bw) (q.nw) (Ev.upd (q.fw) (q.g) none)],(se1a39 q)] [⟨[20,24],[sy 0,.pointer none],none,0,none,.bool false,none⟩,⟨[9],[sy 0],none,0,none,sy 0,none⟩,⟨[7,79,1],[sy 0],none,0,none,sy 1,none⟩,⟨[1,3],[sy 1],none,0,none,sy 8,none⟩,⟨[7,79,0],[sy 0],none,0,none,sy 2,none⟩,⟨[3,77],[sy 2,sy 7],none,0,none,sy 3,none⟩,⟨[9],[sy 3],none,0,none,sy 3,none⟩,⟨[7,76,0],[sy 3],none,0,none,sy 4,none⟩,⟨[20,24],[sy 0,.pointer none],none,1,none,.bool false,none⟩,⟨[9],[sy 0],none,1,none,sy 0,none⟩,⟨[7,79,2],[sy 0],none,1,none,sy 5,none⟩,⟨[1,71],[sy 5],none,1,none,sy 10,none⟩,⟨[5,71,1],[sy 10,sy 9],none,1,none,.tuple #[sy 7,.bool true],none⟩,⟨[12,71,3],[sy 10,sy 9],none,1,none,.tuple #[],some 2⟩,⟨[9],[sy 0],none,2,none,sy 0,none⟩,⟨[7,79,0],[sy 0],none,2,none,sy 2,none⟩,⟨[3,77],[sy 2,sy 7],none,2,none,sy 3,none⟩,⟨[7,76,0],[sy 3],none,2,none,sy 4,none⟩] [⟨68,[sy 4],0,none,.tuple #[sy 9,.bool true],some 1⟩,⟨78,[sy 4,sy 9],2,none,.bool true,some 3⟩]) (fc (Ev.ptr_eql rfl (by kernel_rfl)) (fc (Ev.blk_nil rfl) (fc (by have z:=q.z; exact Ev.sl_field (ci:=1) (fo:=64) rfl rfl (by omega) fldSem1 rfl rfl) (fc (by have z:=q.z; exact Ev.sl_load (ci:=1) (m:=0+64) (x:=(iz (q.nn))) rfl rfl loadInt q.hnn (by decide) rfl (fun ι=>(vk (by kernel_rfl) (by kernel_rfl)))) (fc (by have z:=q.z; exact Ev.sl_field (ci:=1) (fo:=0) rfl rfl (by omega) fldSem0 rfl rfl) (fc (by obtain ⟨i,i1,i2,i3,i4⟩:=infOne; have z:=q.z; exact Ev.sl_arr (ci:=1) (j:=(q.k)) rfl rfl (by omega) Try.underlying77 i1 i2 rfl rfl (by omega) rfl) (fc (Ev.blk_nil rfl) (fc (by have z:=q.z; exact Ev.sl_field (ci:=1) (fo:=0) rfl rfl (by omega) fldOne0 rfl rfl) (fc (Ev.ptr_eql rfl (by kernel_rfl)) (fc (Ev.blk_nil rfl) (fc (by have z:=q.z; exact Ev.sl_field (ci:=1) (fo:=65) rfl rfl (by omega) fldSem2 rfl rfl) (fc (by have z:=q.z; exact Ev.sl_load (ci:=1) (m:=0+65) (x:=(.map (some q.bw))) rfl rfl loadMapI q.hwh (by decide) rfl (fun ι=>(vk (by kernel_rfl) (by kernel_rfl)))) (fc (by have z:=q.z; exact Ev.map_look_yes mapI (ci:=3) rfl rfl rfl rfl (by first | assumption | exact wfI_of (by omega) (by omega)) hw rfl) (fc (by have z:=q.z; exact Ev.map_del mapI (ci:=3) rfl rfl rfl rfl rfl rfl (by first | assumption | exact wfI_of (by omega) (by omega))) (fc (Ev.blk_nil rfl) (fc (by have z:=q.z; exact Ev.sl_field (ci:=1) (fo:=0) rfl rfl (by omega) fldSem0 rfl rfl) (fc (by obtain ⟨i,i1,i2,i3,i4⟩:=infOne; have z:=q.z; exact Ev.sl_arr (ci:=1) (j:=(q.k)) rfl rfl (by omega) Try.underlying77 i1 i2 rfl rfl (by omega) rfl) (fc (by have z:=q.z; exact Ev.sl_field (ci:=1) (fo:=0) rfl rfl (by omega) fldOne0 rfl rfl) fn)))))))))))))))))) (fc (by have z:=q.z; exact cc rfl [Ev.slA 79 1 (Ev.arrV q.bs 66) 66 (q.xs),lkA q.bl (q.l.length+1) (q.f)] [0,2] [1] (fun w F ho hn hF=>head_p q.bl (by have z:=q.z; omega) (by omega) (by omega) hL.v (by rw [hL.h,hL.rep.hd q.g rfl]) hn)) (fc (cc rfl [sA q.bs (rmX q.xs (0+0+(q.k) * 4+0) q.l q.f q.g),lkA q.bl q.l.length (rmF q.l q.f q.g)] [0,1] [2] (fun w F ho hn hF=>remove_ok (by have z:=q.z; omega) hll hL hn)) fn)) rfl [] [] [] 3 rfl rfl [(0,sy 0),(1,sy 7)] (.tuple #[sy 9,.bool true,.int .i64 0]))
theorem seQN (q:SQ) (hL:LnIs q.xs (0+0+(q.k) * 4+0) none q.l q.hd q.tl q.f) (hll:q.l.length≤12) : Ev.PieE Try.prog 15 [] 0 20 ⟨q.W0,q.F0⟩ (se1a28 q) (se1a2 q) (fun κ:Ev.Ren=>(dv κ 403)) (fun κ:Ev.Ren=>[isL (dv κ 403) [],(se1a0 q),(se1a1 q)]):=(trE (c:=⟨q.W0,q.F0⟩) 40 (kn [Ev.ptrR (Ev.arrV q.bs 66) (0),Ev.ptrR (Ev.arrV q.bs 66) (0+64),Ev.ptrR (Ev.arrV q.bs 66) (0+0),Ev.ptrR (Ev.arrV q.bs 66) (0+0+(q.k) * 4),Ev.ptrR (Ev.arrV q.bs 66) (0+0+(q.k) * 4+0),Ev.arrV q.bs 66,iN (q.k),iz (q.nn)] (fc (Ev.ptrR_leaf _ _) (fc (Ev.ptrR_leaf _ _) (fc (Ev.ptrR_leaf _ _) (fc (Ev.ptrR_leaf _ _) (fc (Ev.ptrR_leaf _ _) fr))))) [(.geq,sy 6,.int .i64 0,.bool true),(.lss,sy 6,sy 7,.bool true)] [] [] (fc (fun _ _ _=>Ev.bt_geq (by have z:=q.z; first | (simp; done) | (simp; omega))) (fc (fun _ _ _=>Ev.bt_lss (by have z:=q.z; first | (simp; done) | (simp; omega))) fn)) fn fn q.W0 q.F0 [(se1a2 q),[Ev.atD 403 (fun v=>isL v []),(se1a0 q),(se1a1 q)]] [⟨[20,24],[sy 0,.pointer none],none,0,none,.bool false,none⟩,⟨[9],[sy 0],none,0,none,sy 0,none⟩,⟨[7,79,1],[sy 0],none,0,none,sy 1,none⟩,⟨[1,3],[sy 1],none,0,none,sy 7,none⟩,⟨[7,79,0],[sy 0],none,0,none,sy 2,none⟩,⟨[3,77],[sy 2,sy 6],none,0,none,sy 3,none⟩,⟨[7,76,0],[sy 3],none,0,none,sy 4,none⟩] [⟨40,[sy 4],0,some 403,.complex .f32 403 0,some 1⟩]) (fc (Ev.ptr_eql rfl (by kernel_rfl)) (fc (Ev.blk_nil rfl) (fc (by have z:=q.z; exact Ev.sl_field (ci:=1) (fo:=64) rfl rfl (by omega) fldSem1 rfl rfl) (fc (by have z:=q.z; exact Ev.sl_load (ci:=1) (m:=0+64) (x:=(iz (q.nn))) rfl rfl loadInt q.hnn (by decide) rfl (fun ι=>(vk (by kernel_rfl) (by kernel_rfl)))) (fc (by have z:=q.z; exact Ev.sl_field (ci:=1) (fo:=0) rfl rfl (by omega) fldSem0 rfl rfl) (fc (by obtain ⟨i,i1,i2,i3,i4⟩:=infOne; have z:=q.z; exact Ev.sl_arr (ci:=1) (j:=(q.k)) rfl rfl (by omega) Try.underlying77 i1 i2 rfl rfl (by omega) rfl) (fc (by have z:=q.z; exact Ev.sl_field (ci:=1) (fo:=0) rfl rfl (by omega) fldOne0 rfl rfl) fn))))))) (fc (cm rfl [fun v=>isL v []] [Ev.slA 79 1 (Ev.arrV q.bs 66) 66 (q.xs)] [0] [1] (fun w F ho hn hF=>all_n (by have z:=q.z; omega) hL.v hn)) fn) rfl [] [] [] 1 rfl rfl [(0,sy 0),(1,sy 6)] (.complex .f32 403 0)).conv (fun κ w=>⟨(fun _ h=>Ev.undy (a:=fun v=>isL v []) (fun _ _ _ _ _ h=>h) h),(fun _ h=>h),(fun _ h=>h),trivial⟩)
theorem seQM (q:SQ) (hL:LnIs q.xs (0+0+(q.k) * 4+0) (some q.bl) q.l q.hd q.tl q.f) (hll:q.l.length≤12) : Ev.PieE Try.prog 15 [] 0 20 ⟨q.W0,q.F0⟩ (se1a28 q) (se1a9 q) (fun κ:Ev.Ren=>(dv κ 403)) (fun κ:Ev.Ren=>[isL (dv κ 403) q.l,(se1a0 q),lkA q.bl (q.l.length) (q.f),(se1a1 q)]):=(trE (c:=⟨q.W0,q.F0⟩) 40 (kn [Ev.ptrR (Ev.arrV q.bs 66) (0),Ev.ptrR (Ev.arrV q.bs 66) (0+64),Ev.ptrR (Ev.arrV q.bs 66) (0+0),Ev.ptrR (Ev.arrV q.bs 66) (0+0+(q.k) * 4),Ev.ptrR (Ev.arrV q.bs 66) (0+0+(q.k) * 4+0),Ev.arrV q.bs 66,iN (q.k),iz (q.nn)] (fc (Ev.ptrR_leaf _ _) (fc (Ev.ptrR_leaf _ _) (fc (Ev.ptrR_leaf _ _) (fc (Ev.ptrR_leaf _ _) (fc (Ev.ptrR_leaf _ _) fr))))) [(.geq,sy 6,.int .i64 0,.bool true),(.lss,sy 6,sy 7,.bool true)] [] [] (fc (fun _ _ _=>Ev.bt_geq (by have z:=q.z; first | (simp; done) | (simp; omega))) (fc (fun _ _ _=>Ev.bt_lss (by have z:=q.z; first | (simp; done) | (simp; omega))) fn)) fn fn q.W0 q.F0 [(se1a9 q),[Ev.atD 403 (fun v=>isL v q.l),(se1a0 q),lkA q.bl (q.l.length) (q.f),(se1a1 q)]] [⟨[20,24],[sy 0,.pointer none],none,0,none,.bool false,none⟩,⟨[9],[sy 0],none,0,none,sy 0,none⟩,⟨[7,79,1],[sy 0],none,0,none,sy 1,none⟩,⟨[1,3],[sy 1],none,0,none,sy 7,none⟩,⟨[7,79,0],[sy 0],none,0,none,sy 2,none⟩,⟨[3,77],[sy 2,sy 6],none,0,none,sy 3,none⟩,⟨[7,76,0],[sy 3],none,0,none,sy 4,none⟩] [⟨40,[sy 4],0,some 403,.complex .f32 403 0,some 1⟩]) (fc (Ev.ptr_eql rfl (by kernel_rfl)) (fc (Ev.blk_nil rfl) (fc (by have z:=q.z; exact Ev.sl_field (ci:=1) (fo:=64) rfl rfl (by omega) fldSem1 rfl rfl) (fc (by have z:=q.z; exact Ev.sl_load (ci:=1) (m:=0+64) (x:=(iz (q.nn))) rfl rfl loadInt q.hnn (by decide) rfl (fun ι=>(vk (by kernel_rfl) (by kernel_rfl)))) (fc (by have z:=q.z; exact Ev.sl_field (ci:=1) (fo:=0) rfl rfl (by omega) fldSem0 rfl rfl) (fc (by obtain ⟨i,i1,i2,i3,i4⟩:=infOne; have z:=q.z; exact Ev.sl_arr (ci:=1) (j:=(q.k)) rfl rfl (by omega) Try.underlying77 i1 i2 rfl rfl (by omega) rfl) (fc (by have z:=q.z; exact Ev.sl_field (ci:=1) (fo:=0) rfl rfl (by omega) fldOne0 rfl rfl) fn))))))) (fc (cm rfl [fun v=>isL v q.l] [Ev.slA 79 1 (Ev.arrV q.bs 66) 66 (q.xs),lkA q.bl (q.l.length) (q.f)] [0,2] [1] (fun w F ho hn hF=>all_m q.l (by have z:=q.z; omega) hll hL hn)) fn) rfl [] [] [] 1 rfl rfl [(0,sy 0),(1,sy 6)] (.complex .f32 403 0)).conv (fun κ w=>⟨(fun _ h=>Ev.undy (a:=fun v=>isL v q.l) (fun _ _ _ _ _ h=>h) h),(fun _ h=>h),(fun _ h=>h),(fun _ h=>h),trivial⟩)
end Go.Proofs.Ytankbefdlbcdnaa
namespace Go.Proofs.Ytankbefdlbcdnaa
open Go.RowKit
open Go.Ev (iz iN pz)
set_option linter.unusedVariables false
set_option linter.unusedSimpArgs false
attribute [local irreducible] Ev.wpL
structure LnS where
 o:Option Nat
 l:List Int
 hd:Int
 tl:Int
 f:Int→Option Lk
abbrev lnP (z:LnS) : Ev.Asr:=lnA z.o z.l.length z.f
abbrev whA (bw nw:Nat) (fw:Int→Option Int) : Ev.Asr:=Ev.mapA Try.prog 3 3 bw nw fw
abbrev km (k:Nat) : Nat:=0+0+k * 4
def LnS.At (z:LnS) (xs:List Value) (k:Nat) : Prop:=LnIs xs (km k+0) z.o z.l z.hd z.tl z.f
structure Cells (xs:List Value) (nn:Int) (bw:Nat) : Prop where
 len:xs.length=66
 cn:xs[0+64]? = some (.int .i64 nn)
 cw:xs[0+65]? = some (.map (some bw))
 cb:nn≤16
section
variable {w:World} {F:Nat→Prop} {bs bw nw k:Nat} {xs:List Value} {fw:Int→Option Int} {g nn cnt:Int} {z:LnS}
abbrev sq (w:World) (F:Nat→Prop) (bs:Nat) (xs:List Value) (k bw nw:Nat) (fw:Int→Option Int) (g nn cnt:Int) (C:Cells xs nn bw) (bl:Nat) (l:List Int) (hd tl:Int) (f:Int→Option Lk) (h:k < 4∧(0≤g∧g < 4096)∧(k:Int) < nn∧nw≤1000000∧0≤cnt∧cnt < 1073741824) : SQ :=
 ⟨w,F,bs,xs,C.len,k,bw,nw,fw,g,nn,C.cn,C.cw,cnt,bl,l,hd,tl,f,⟨h.1,h.2.1,h.2.2.1,C.cb,h.2.2.2.1,h.2.2.2.2.1,h.2.2.2.2.2⟩⟩
theorem where_no (C:Cells xs nn bw) (hn:0 < nn) (hg:0≤g∧g < 4096) (hw:nw≤1000000) (hf:fw g=none) (h:Ev.Now [sA bs xs,whA bw nw fw] F w) :
  Calls Try.prog 14 #[sP bs 0,iz g] w fun e w'=>e=.returned (.tuple #[.int .i64 0,.bool false])∧Ev.Hold ⟨w,F⟩ [sA bs xs,whA bw nw fw] w' :=
 startP (seWF (sq w F bs xs 0 bw nw fw g nn 0 C 0 [] 0 0 (fun _=>none) ⟨by decide,hg,by simpa using hn,hw,by decide,by decide⟩) hf) (by kernel_rfl) h (by simp) (by simp) (fun κ w1 hh=>⟨rfl,hh⟩)
theorem where_yes {x:Int} (C:Cells xs nn bw) (hn:0 < nn) (hg:0≤g∧g < 4096) (hw:nw≤1000000) (hf:fw g=some x) (h:Ev.Now [sA bs xs,whA bw nw fw] F w) :
  Calls Try.prog 14 #[sP bs 0,iz g] w fun e w'=>e=.returned (.tuple #[iz x,.bool true])∧Ev.Hold ⟨w,F⟩ [sA bs xs,whA bw nw fw] w' :=
 startP (seWT (sq w F bs xs 0 bw nw fw g nn 0 C 0 [] 0 0 (fun _=>none) ⟨by decide,hg,by simpa using hn,hw,by decide,by decide⟩) x hf) (by kernel_rfl) h (by simp) (by simp) (fun κ w1 hh=>⟨by simp only [hf,Option.getD_some],hh⟩)
theorem acq_gain (C:Cells xs nn bw) (hk:k < 4) (hn:(k:Int) < nn) (hg:0≤g∧g < 4096) (hw:nw≤1000000) (hf:fw g=none) (hc:xs[km k+3]? = some (.int .i64 cnt)) (hp:0 < cnt∧cnt < 1073741824) (h:Ev.Now [sA bs xs,whA bw nw fw] F w) :
  Calls Try.prog 56 #[sP bs 0,iN k,iz g] w fun e w'=>e=.returned (.tuple #[.bool true,.int .i64 0])∧Ev.Hold ⟨w,F⟩ [sA bs (xs.set (km k+3) (iz (cnt - 1))),whA bw nw fw] w' :=
 startP (seA (sq w F bs xs k bw nw fw g nn cnt C 0 [] 0 0 (fun _=>none) ⟨hk,hg,hn,hw,by omega,hp.2⟩) hc hp.1 hf) (by kernel_rfl) h (by simp) (by simp) (fun κ w1 hh=>⟨rfl,hh⟩)
theorem hold_nilA {c:Ev.Ctx} {l:List Ev.Asr} {w:World} (h:Ev.Hold c l w) : Ev.Hold c (Ev.nilA::l) w:=by
 obtain ⟨F,h1,h2,h3⟩:=h.ex
 exact ⟨⟨_,Ev.now_cons (a:=Ev.nilA) (Fa:=fun _=>False) (fun j hj=>hj) h1 (fun j hj=>hj.elim) (fun j hj=>hj.elim),h2,fun j hj=>hj.elim (fun h=>h.elim) (h3 j)⟩⟩
theorem set_same {xs:List Value} {m:Nat} {v:Value} (h:xs[m]? = some v) : xs.set m v=xs:=by
 refine List.ext_getElem? (fun i=>?_)
 rw [List.getElem?_set]
 split
 ·rename_i e
  subst e
  have hlt:=(List.getElem?_eq_some_iff.1 h).1
  rw [if_pos hlt,h]
 ·rfl
theorem acq_wait (C:Cells xs nn bw) (hk:k < 4) (hn:(k:Int) < nn) (hg:0≤g∧g < 4096) (hw:nw≤999999) (hf:fw g=none) (hc:xs[km k+3]? = some (.int .i64 0)) (L:z.At xs k) (hgl:g ∉ z.l) (hll:z.l.length≤4000) (h:Ev.Now [sA bs xs,whA bw nw fw,lnP z] F w) :
  Calls Try.prog 56 #[sP bs 0,iN k,iz g] w fun e w'=>∃ v cd,Ev.dec cd=v∧e=.returned (.tuple #[.bool false,.int .i64 0])∧Ev.Hold ⟨w,F⟩ [sA bs (pushX (xs.set (km k+0) v) (km k+0) z.l g),whA bw (nw+1) (Ev.upd fw g (some (k:Int))),lkV v (z.l.length+1) (pushF z.l z.tl z.f g)] w':=by
 obtain ⟨o,l,hd,tl,f⟩:=z
 refine Ev.con_start (N:=56) (tm:=[(0,sP bs 0),(1,iN k),(2,iz g)]) (by kernel_rfl) h (by simp) (by simp) (fun A hA=>?_)
 cases o with
 | none =>
  have hl:l=[]:=L.no rfl
  subst hl
  have hf0:f=fun _=>none:=funext fun y=>L.rep.no y (by simp)
  subst hf0
  refine seBN (sq w F bs xs k bw nw fw g nn 0 C 0 [] hd tl (fun _=>none) ⟨hk,hg,hn,by omega,by decide,by decide⟩) hc rfl hf A w _ (hA.to (fun q hq=>hq) (fun hh=>hh.sel [0,1] (by kernel_rfl))) ?_
  intro κ A1 w1 h1
  refine seCN (sq w F bs xs k bw (nw+1) (Ev.upd fw g (some (k:Int))) g nn 0 C 0 [] hd tl (fun _=>none) ⟨hk,hg,hn,by omega,by decide,by decide⟩) L hgl hll A1 w1 _ h1 ?_
  intro κ2 w2 h2
  exact ⟨_,(κ2 407).getD 0,rfl,rfl,h2.sel [0,2,1] (by kernel_rfl)⟩
 | some b =>
  refine seBM (sq w F bs xs k bw nw fw g nn 0 C b l hd tl f ⟨hk,hg,hn,by omega,by decide,by decide⟩) hc rfl hf A w _ hA ?_
  intro κ A1 w1 h1
  refine seCM (sq w F bs xs k bw (nw+1) (Ev.upd fw g (some (k:Int))) g nn 0 C b l hd tl f ⟨hk,hg,hn,by omega,by decide,by decide⟩) L hgl hll A1 w1 _ h1 ?_
  intro κ2 w2 h2
  refine ⟨.map (some b),_,Ev.dec_map b,rfl,?_⟩
  rw [set_same (xs:=xs) (m:=km k+0) (v:=.map (some b)) L.v]
  exact ((h2.sel [2,1,3] (by kernel_rfl)).head (b:=lkV (.map (some b)) (l.length+1) (pushF l tl f g)) (fun G h1=>⟨b,rfl,h1⟩)).sel [1,2,0] (by kernel_rfl)
theorem rel_count (C:Cells xs nn bw) (hk:k < 4) (hn:(k:Int) < nn) (hw:nw≤999999) (hc:xs[km k+3]? = some (.int .i64 cnt)) (hp:0≤cnt∧cnt < 1073741824) (L:z.At xs k) (hl:z.l=[]) (h:Ev.Now [sA bs xs,whA bw nw fw,lnP z] F w) :
  Calls Try.prog 57 #[sP bs 0,iN k] w fun e w'=>e=.returned (.tuple #[.int .i64 0,.bool false,.int .i64 0])∧Ev.Hold ⟨w,F⟩ [sA bs (xs.set (km k+3) (iz (cnt+1))),whA bw nw fw,lnP z] w':=by
 obtain ⟨o,l,hd,tl,f⟩:=z
 obtain rfl:l=[]:=hl
 refine Ev.con_start (N:=47) (tm:=[(0,sP bs 0),(1,iN k)]) (by kernel_rfl) h (by simp) (by simp) (fun A hA=>?_)
 cases o with
 | none =>
  refine seRN (sq w F bs xs k bw nw fw 0 nn cnt C 0 [] hd tl f ⟨hk,by decide,hn,by omega,hp.1,hp.2⟩) hc L A w _ (hA.to (fun q hq=>hq) (fun hh=>hh.sel [0,1] (by kernel_rfl))) ?_
  intro κ w1 h1
  exact ⟨rfl,(hold_nilA h1).sel [1,2,0] (by kernel_rfl)⟩
 | some b =>
  refine seRZ (sq w F bs xs k bw nw fw 0 nn cnt C b [] hd tl f ⟨hk,by decide,hn,by omega,hp.1,hp.2⟩) hc L A w _ hA ?_
  intro κ w1 h1
  exact ⟨rfl,h1.sel [0,2,1] (by kernel_rfl)⟩
theorem rel_wake {r:List Int} (C:Cells xs nn bw) (hk:k < 4) (hn:(k:Int) < nn) (hg:0≤g∧g < 4096) (hw:nw≤999999) (L:z.At xs k) (hl:z.l=g::r) (hll:r.length≤4000) (hf:fw g=some (k:Int)) (h:Ev.Now [sA bs xs,whA bw nw fw,lnP z] F w) :
  Calls Try.prog 57 #[sP bs 0,iN k] w fun e w'=>e=.returned (.tuple #[iz g,.bool true,.int .i64 0])∧Ev.Hold ⟨w,F⟩ [sA bs (rmX xs (km k+0) r z.f g),whA bw nw (Ev.upd fw g none),lnA z.o r.length (rmF r z.f g)] w':=by
 obtain ⟨o,l,hd,tl,f⟩:=z
 obtain rfl:l=g::r:=hl
 cases o with
 | none=>cases L.no rfl
 | some b=>exact startP (seRP (sq w F bs xs k bw nw fw g nn 0 C b r hd tl f ⟨hk,hg,hn,by omega,by decide,by decide⟩) L hll hf) (by kernel_rfl) h (by simp) (by simp) (fun κ w1 hh=>⟨rfl,hh.sel [0,2,1] (by kernel_rfl)⟩)
theorem waiting_ok (C:Cells xs nn bw) (hk:k < 4) (hn:(k:Int) < nn) (hw:nw≤999999) (L:z.At xs k) (hll:z.l.length≤12) (h:Ev.Now [sA bs xs,whA bw nw fw,lnP z] F w) :
  Calls Try.prog 15 #[sP bs 0,iN k] w fun e w'=>∃ v cd,Ev.dec cd=v∧e=.returned v∧Ev.Hold ⟨w,F⟩ [isL v z.l,sA bs xs,whA bw nw fw,lnP z] w':=by
 obtain ⟨o,l,hd,tl,f⟩:=z
 refine Ev.con_start (N:=20) (tm:=[(0,sP bs 0),(1,iN k)]) (by kernel_rfl) h (by simp) (by simp) (fun A hA=>?_)
 cases o with
 | none =>
  obtain rfl:l=[]:=L.no rfl
  refine seQN (sq w F bs xs k bw nw fw 0 nn 0 C 0 [] hd tl f ⟨hk,by decide,hn,by omega,by decide,by decide⟩) L hll A w _ (hA.to (fun q hq=>hq) (fun hh=>hh.sel [0,1] (by kernel_rfl))) ?_
  intro κ w1 h1
  exact ⟨_,(κ 403).getD 0,rfl,rfl,(hold_nilA h1).sel [1,2,3,0] (by kernel_rfl)⟩
 | some b =>
  refine seQM (sq w F bs xs k bw nw fw 0 nn 0 C b l hd tl f ⟨hk,by decide,hn,by omega,by decide,by decide⟩) L hll A w _ hA ?_
  intro κ w1 h1
  exact ⟨_,(κ 403).getD 0,rfl,rfl,h1.sel [0,1,3,2] (by kernel_rfl)⟩
end
end Go.Proofs.Ytankbefdlbcdnaa
namespace Go.Proofs.Ytankbefdlbcdnaa
open Go.RowKit
open Go.Ev (iz iN pz)
set_option linter.unusedVariables false
set_option linter.unusedSimpArgs false
theorem call_part {P:Program} {fn:FuncId} {args:Array Value} {R:Ending→World→Prop} {F:Nat→Prop} {w:World} {l r:List Ev.Asr} (h:Ev.Hold ⟨w,F⟩ (l++r) w) (H:∀ G,Ev.Now l G w→(∀ (m:List Ev.Asr) (w':World),Ev.Hold ⟨w,G⟩ m w'→Ev.Hold ⟨w,F⟩ (m++r) w')→Calls P fn args w R) : Calls P fn args w R:=by
 obtain ⟨F1,n1,n2,n3⟩:=h.ex
 obtain ⟨A,B,k1,k2,k3,k4⟩:=Ev.now_split n1
 exact H A k1 (fun m w' hh=>(hh.frame k2 k3).into (l:=[]) n2 (fun j hj=>n3 j ((k4 j).2 hj)))
theorem hold_comm {c:Ev.Ctx} {l m:List Ev.Asr} {w:World} (h:Ev.Hold c (l++m) w) : Ev.Hold c (m++l) w:=by
 obtain ⟨F1,n1,n2,n3⟩:=h.ex
 obtain ⟨A,B,k1,k2,k3,k4⟩:=Ev.now_split n1
 exact ⟨⟨F1,Ev.now_same (Ev.now_append k2 k1 (fun j h1 h2=>k3 j h2 h1)) (fun j=>by rw [k4 j]; exact Or.comm),n2,n3⟩⟩
theorem hold_on {c:Ev.Ctx} {l l' m:List Ev.Asr} {w:World} (h:Ev.Hold c (l++m) w) (t:∀ c',Ev.Hold c' l w→Ev.Hold c' l' w) : Ev.Hold c (l'++m) w:=by
 obtain ⟨F1,n1,n2,n3⟩:=h.ex
 obtain ⟨A,B,k1,k2,k3,k4⟩:=Ev.now_split n1
 exact ((t ⟨w,A⟩ (Ev.Hold.start k1)).frame k2 k3).into (l:=[]) n2 (fun j hj=>n3 j ((k4 j).2 hj))
def zL (z:Nat→LnS) : List Ev.Asr:=[lnP (z 0),lnP (z 1),lnP (z 2),lnP (z 3)]
def zR (z:Nat→LnS) (k:Nat) : List Ev.Asr:=(zL z).eraseIdx k
def setZ {α:Type} (z:Nat→α) (k:Nat) (y:α) : Nat→α:=fun i=>if i=k then y else z i
theorem pick_k {c:Ev.Ctx} {a b:Ev.Asr} {z:Nat→LnS} {k:Nat} {w:World} (hk:k < 4) (h:Ev.Hold c (a::b::zL z) w) : Ev.Hold c ([a,b,lnP (z k)]++zR z k) w:=by
 match k,hk with
 | 0,_=>exact h.sel [0,1,2,3,4,5] (by kernel_rfl)
 | 1,_=>exact h.sel [0,1,3,2,4,5] (by kernel_rfl)
 | 2,_=>exact h.sel [0,1,4,2,3,5] (by kernel_rfl)
 | 3,_=>exact h.sel [0,1,5,2,3,4] (by kernel_rfl)
theorem back_k {c:Ev.Ctx} {a b:Ev.Asr} {z:Nat→LnS} {k:Nat} {y:LnS} {w:World} (hk:k < 4) (h:Ev.Hold c ([a,b,lnP y]++zR z k) w) : Ev.Hold c (a::b::zL (setZ z k y)) w:=by
 match k,hk with
 | 0,_=>exact h.sel [0,1,2,3,4,5] (by kernel_rfl)
 | 1,_=>exact h.sel [0,1,3,2,4,5] (by kernel_rfl)
 | 2,_=>exact h.sel [0,1,3,4,2,5] (by kernel_rfl)
 | 3,_=>exact h.sel [0,1,3,4,5,2] (by kernel_rfl)
structure Sem where
 nn:Nat
 ct:Nat→Nat
 ln:Nat→List Int
 nw:Nat
structure Sem.Ok (s:Sem) : Prop where
 n1:s.nn≤4
 ct:∀ k,k < 4→s.ct k≤100000
 len:∀ k,k < 4→(s.ln k).length≤12
 rng:∀ k,k < 4→∀ g ∈ s.ln k,0≤g∧g < 4096
 dis:∀ i j,i < 4→j < 4→i ≠ j→∀ g ∈ s.ln i,g ∉ s.ln j
 nw:s.nw≤99999
structure SemI where
 bw:Nat
 fw:Int→Option Int
 xs:List Value
 z:Nat→LnS
structure SemI.Fits (i:SemI) (s:Sem) : Prop where
 c:Cells i.xs (s.nn:Int) i.bw
 z:∀ k,k < 4→(i.z k).At i.xs k∧(i.z k).l=s.ln k∧i.xs[km k+3]? = some (.int .i64 (s.ct k:Int))
 w:∀ k,k < 4→∀ g ∈ s.ln k,i.fw g=some (k:Int)
 no:∀ g,(∀ k,k < 4→g ∉ s.ln k)→i.fw g=none
abbrev semL (bs:Nat) (i:SemI) (nw:Nat) : List Ev.Asr:=sA bs i.xs::whA i.bw nw i.fw::zL i.z
def semX (bs:Nat) (s:Sem) : Ev.Asr:=Ev.exA (fun i:SemI=>i.Fits s) (fun i=>Ev.grp (semL bs i s.nw))
def semA (bs:Nat) (s:Sem) : Ev.Asr where
 p:=fun _ F w=>(semX bs s).p (fun _=>none) F w
 keep:=fun _ F w w' hk h=>(semX bs s).keep (fun _=>none) F w w' hk h
 mono:=fun _ _ _ _ _ h=>h
section
variable {c:Ev.Ctx} {l:List Ev.Asr} {w:World} {bs:Nat} {s:Sem} {F:Nat→Prop}
theorem sem_open (h:Ev.Hold c (semA bs s::l) w) : ∃ i:SemI,i.Fits s∧Ev.Hold c (semL bs i s.nw++l) w:=by
 have h1:Ev.Hold c (semX bs s::l) w:=h.head (fun F h=>h)
 obtain ⟨i,hi,h2⟩:=Ev.Hold.getX (a:=fun i:SemI=>Ev.grp (semL bs i s.nw)) h1
 exact ⟨i,hi,h2.open⟩
theorem sem_shut {i:SemI} (hi:i.Fits s) (h:Ev.Hold c (semL bs i s.nw++l) w) : Ev.Hold c (semA bs s::l) w:=by
 have h2:Ev.Hold c (semX bs s::l) w:=Ev.Hold.putX (a:=fun i:SemI=>Ev.grp (semL bs i s.nw)) i hi h.shut
 exact h2.head (fun F h=>h)
theorem sem_call {fn:FuncId} {args:Array Value} {R:Ending→World→Prop} {k:Nat} (hk:k < 4) (h:Ev.Now [semA bs s] F w)
  (H:∀ (i:SemI) (G:Nat→Prop),i.Fits s→Ev.Now [sA bs i.xs,whA i.bw s.nw i.fw,lnP (i.z k)] G w→(∀ (m:List Ev.Asr) (xs':List Value) (nw':Nat) (fw':Int→Option Int) (y:LnS) (w':World),Ev.Hold ⟨w,G⟩ (sA bs xs'::whA i.bw nw' fw'::lnP y::m) w'→Ev.Hold ⟨w,F⟩ (semL bs ⟨i.bw,fw',xs',setZ i.z k y⟩ nw'++m) w')→Calls Try.prog fn args w R) : Calls Try.prog fn args w R:=by
 obtain ⟨i,hi,h1⟩:=sem_open (Ev.Hold.start h)
 rw [List.append_nil] at h1
 refine call_part (pick_k hk h1) (fun G n1 n2=>H i G hi n1 (fun m xs' nw' fw' y w' hh=>?_))
 have h3:=n2 _ _ hh
 have h4:Ev.Hold ⟨w,F⟩ ((zR i.z k++[sA bs xs',whA i.bw nw' fw',lnP y])++m) w':=by
  have:=hold_comm (l:=[sA bs xs',whA i.bw nw' fw',lnP y]++m) (m:=zR i.z k) h3
  rwa [← List.append_assoc] at this
 exact hold_on h4 (fun c' h5=>back_k hk (hold_comm h5))
end
end Go.Proofs.Ytankbefdlbcdnaa
