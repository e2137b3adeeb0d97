/- Part of a proof: see the last text. -/
import Derived.Test.YtkmccgombmogmaaGreatZe24
set_option linter.unusedSimpArgs false
set_option linter.unusedVariables false
namespace Go.Proofs.YtkmccgombmogmaaGreat
open Go.Ev Go.Proofs.Tryz
open Go.RowKit
set_option maxRecDepth 8000
theorem ut{P:Program}{w:World}{o:Oper}{a:Act}{K:Act->World->Prop}{Q:Exit->Act->World->Prop}(rv:Operand)(name:String)(args:Array Operand)(ts:Array TypeId)(hop:o.op=Op.call { callee:=Callee.invoke rv name,args:=args,argTypes:=ts }){f:FuncId}{ar:Array Value}{R:Ending->World->Prop}
  (hrun:(callMethod (a.eval rv) name (args.map a.eval)).run P w=.ok (.enter f ar) w) (hC:Calls P f ar w R)
  (hK:∀ e w',R e w'->∃ v,e=.returned v/\K (a.put o.dst v) w'):o.wp P a w K Q:=by
 unfold Oper.wp;have e:(execOp a.eval o).run P w=.ok (.enter f ar) w:=by
  unfold execOp;simp only[hop,resolve,Sem.run_bind,Sem.run_pure,Result.andThen_ok,invoke];have e1:(#[a.eval rv]++args.map a.eval)[0]? = some (a.eval rv):=by
   rw[Array.getElem?_append_left (by simp)];rfl
  have e2:(#[a.eval rv]++args.map a.eval).extract 1 (#[a.eval rv]++args.map a.eval).size=args.map a.eval:=by
   rw[Array.extract_append];simp
  rw[e1,e2];exact hrun
 rw[e];refine hC.mono (λe w' hr=>?_);obtain⟨v,rfl,k⟩:=hK e w' hr;exact k
section
variable(b:Nat)(ar:Array Value)(w:World)
theorem yR:(callMethod (.iface 81 (.pointer (some ⟨b,0,none⟩))) "Step" ar).run prog w=.ok (.enter 138 (#[.pointer (some ⟨b,0,none⟩)]++ar)) w:=by kernel_rfl
theorem yS:(callMethod (.iface 83 (.pointer (some ⟨b,0,none⟩))) "Step" ar).run prog w=.ok (.enter 161 (#[.pointer (some ⟨b,0,none⟩)]++ar)) w:=by kernel_rfl
theorem tz:(callMethod (.iface 85 (.pointer (some ⟨b,0,none⟩))) "Step" ar).run prog w=.ok (.enter 166 (#[.pointer (some ⟨b,0,none⟩)]++ar)) w:=by kernel_rfl
end
section
variable(b:Nat)(w:World)
theorem yT:(method 343 83 (.pointer (some ⟨b,0,none⟩)) "Got").run prog w=.ok (68,.pointer (some ⟨b,0,none⟩)) w:=by kernel_rfl
theorem tA:(method 343 85 (.pointer (some ⟨b,0,none⟩)) "Got").run prog w=.ok (165,.pointer (some ⟨b,0,none⟩)) w:=by kernel_rfl
end
def eS(f:Nat->List Value)(n:Nat):List Value:=(List.range n).flatMap f
theorem iO{f:Nat->List Value}(hf:∀ q,(f q).length=7)(n:Nat):(eS f n).length=n*7:=by
 induction n with
 | zero=>rfl
 | succ n ih =>
  unfold eS at ih ⊢;rw[List.range_succ,List.flatMap_append,List.length_append,ih];simp[hf];omega
theorem kV(f:Nat->List Value)(n:Nat):eS f (n+1)=eS f n++f n:=by
 unfold eS;rw[List.range_succ,List.flatMap_append];simp
theorem Ds{f:Nat->List Value}(hf:∀ q,(f q).length=7){n p j:Nat}(hp:p<n)(hj:j<7):(eS f n)[p*7+j]? = (f p)[j]?:=by
 induction n with
 | zero=>omega
 | succ n ih =>
  rw[kV]
  by_cases h:p<n
  ·rw[List.getElem?_append_left (by rw[iO hf];omega),ih h]
  ·obtain rfl:p=n:=by omega
   rw[List.getElem?_append_right (by rw[iO hf];omega),iO hf,show p*7+j-p*7=j by omega]
theorem lY{f g:Nat->List Value}{n:Nat}(h:∀ q,q<n->f q=g q):eS f n=eS g n:=by
 unfold eS;rw[List.flatMap_def,List.flatMap_def]
 congr 1
 apply List.map_congr_left;intro q hq;exact h q (List.mem_range.1 hq)
theorem Dt{f:Nat->List Value}(hf:∀ q,(f q).length=7){n p j:Nat}(hp:p<n)(hj:j<7)(v:Value):(eS f n).set (p*7+j) v=eS (λq=>if q=p then (f q).set j v else f q) n:=by
 induction n with
 | zero=>omega
 | succ n ih =>
  rw[kV,kV]
  by_cases h:p<n
  ·rw[List.set_append_left _ _ (by rw[iO hf];omega),ih h,if_neg (by omega)]
  ·obtain rfl:p=n:=by omega
   rw[List.set_append_right _ _ (by rw[iO hf];omega),iO hf,show p*7+j-p*7=j by omega,if_pos rfl]
   congr 1
   exact lY (λq hq=>by rw[if_neg (by omega)])
def ft(c:aP)(p:Nat)(mv:Value):Option bG->aG
 | none=>C2 (λ_:Unit=>mv=.nilIface) (λ_=>I5)
 | some (.put u)=>C2 (λbp:Nat=>mv=.iface 81 (.pointer (some ⟨bp,0,none⟩))) (λbp=>gA c p bp u)
 | some (.get u)=>C2 (λbp:Nat=>mv=.iface 83 (.pointer (some ⟨bp,0,none⟩))) (λbp=>je c p bp u)
 | some (.steal v u)=>C2 (λbp:Nat=>mv=.iface 85 (.pointer (some ⟨bp,0,none⟩))) (λbp=>cP c p v bp u)
structure dm where
 d:Nat
 mv:Value
 rv:Value
def AJ(c:aP)(p:Nat)(o:bX)(e:dm):aG:=FF [hZ c e.d o.dq,ft c p e.mv o.dx,cf e.rv o.rs]
def ownRow(o:bX)(e:dm):List Value:=[.int .i64 o.kd,.int .i64 o.cv,.int .i64 o.cg,e.mv,.pointer (some ⟨e.d,0,none⟩),.bool o.gn,e.rv]
def rowAt(l:List bX)(es:Nat->dm)(q:Nat):List Value:=match l[q]? with | some o=>ownRow o (es q) | none=>List.replicate 7 undef
theorem uu(l:List bX)(es:Nat->dm)(q:Nat):(rowAt l es q).length=7:=by
 unfold rowAt;cases l[q]? <;> rfl
structure RB where
 br:Nat
 bm:Nat
 bo:Nat
 cp:Nat
def d_(b:RB)(c:aP)(x:aE):aG:=aH b.br [.int .i64 (c.n:Int),.int .i64 (c.q:Int),.int .i64 c.g,.int .i64 c.m,.int .i64 c.t,.int .i64 c.s,.pointer (some ⟨b.bm,0,none⟩),.slice (some ⟨b.bo,0,none⟩) c.n b.cp,.int .i64 x.pts,.bool x.bad] 73
def fb(b:RB)(c:aP)(l:List bX)(es:Nat->dm):aG:=bQ 80 7 (.slice (some ⟨b.bo,0,none⟩) c.n b.cp) c.n (eS (rowAt l es) c.n)
def Du(c:aP)(l:List bX)(es:Nat->dm)(q:Nat):aG:=match l[q]? with | some o=>AJ c q o (es q) | none=>I5
def cV(c:aP)(l:List bX)(es:Nat->dm):List aG:=(List.range c.n).map (Du c l es)
def gX(b:RB)(c:aP)(x:aE)(es:Nat->dm):List aG:=[d_ b c x,aK b.bm x.m,fb b c x.ow es]
def aF(b:RB)(c:aP)(x:aE)(es:Nat->dm):List aG:=gX b c x es++cV c x.ow es
def cC(b:RB)(c:aP)(x:aE):aG:=C2 (λ_:Nat->dm=>True) (λes=>FF (aF b c x es))
section
variable{ctx:dc}{w:World}{l:List aG}{b:RB}{c:aP}{x:aE}{es:Nat->dm}
theorem pH(h:af ctx (cC b c x::l) w):∃ es,af ctx (aF b c x es++l) w:=by
 obtain⟨es,_,hh⟩:=h.qh;exact⟨es,hh.open⟩
theorem cR(h:af ctx (aF b c x es++l) w):af ctx (cC b c x::l) w:=af.rJ es trivial (af.shut h)
end
def jF(es:Nat->dm)(p:Nat)(e:dm):Nat->dm:=λq=>if q=p then e else es q
theorem ez(es:Nat->dm)(p:Nat)(e:dm):jF es p e p=e:=if_pos rfl
theorem qA{es:Nat->dm}{p q:Nat}{e:dm}(h:q≠p):jF es p e q=es q:=if_neg h
theorem eE(es:Nat->dm)(p:Nat):jF es p (es p)=es:=by
 funext q
 unfold jF
 split
 ·next h=>rw[h]
 ·rfl
section
variable{ctx:dc}{w:World}{r:List aG}{b:RB}{c:aP}{l:List bX}{es:Nat->dm}{p:Nat}{o o':bX}{e':dm}
theorem yU(hp:p<c.n)(ho:l[p]? = some o):(cV c l es)[p]? = some (AJ c p o (es p)):=by
 unfold cV Du;rw[List.getElem?_map,List.getElem?_range hp];simp[ho]
theorem yV:(cV c l es).length=c.n:=by simp[cV]
theorem Ht(hp:p<c.n)(hl:p<l.length):(cV c l es).set p (AJ c p o' e')=cV c (l.set p o') (jF es p e'):=by
 apply List.ext_getElem?;intro q
 by_cases h:q=p
 ·subst h
  rw[List.getElem?_set_self (by rw[yV];exact hp),yU hp (List.getElem?_set_self hl),ez]
 ·rw[List.getElem?_set_ne (Ne.symm h)]
  unfold cV Du;rw[List.getElem?_map,List.getElem?_map];cases hr:(List.range c.n)[q]? with
  | none=>rfl
  | some q' =>
   have:q'=q:=by
    have h1:=(List.getElem?_eq_some_iff.1 hr).2;simpa using h1.symm
   subst this;simp only[Option.map_some,List.getElem?_set_ne (Ne.symm h),qA h]
theorem BY(hp:p<c.n)(ho:l[p]? = some o)(h:af ctx (cV c l es++r) w):af ctx (AJ c p o (es p)::((cV c l es).eraseIdx p++r)) w:=Hk (yU hp ho) h
theorem Hu(hp:p<c.n)(hl:p<l.length)(h:af ctx (AJ c p o' e'::((cV c l es).eraseIdx p++r)) w):af ctx (cV c (l.set p o') (jF es p e')++r) w:=by
 have:=Js (l:=cV c l es) (by rw[yV];exact hp) h
 rwa [Ht hp hl]at this
theorem Hv(hl:p<l.length)(hp:p<c.n)(ho:l[p]? = some o)(j:Nat)(hj:j<7)(v:Value)(h:(ownRow o (es p)).set j v=ownRow o' e'):(eS (rowAt l es) c.n).set (p*7+j) v=eS (rowAt (l.set p o') (jF es p e')) c.n:=by
 rw[Dt (uu l es) hp hj];apply lY;intro q hq
 by_cases e:q=p
 ·subst e
  rw[if_pos rfl];unfold rowAt;rw[ho,List.getElem?_set_self hl,ez];exact h
 ·rw[if_neg e]
  unfold rowAt;rw[List.getElem?_set_ne (Ne.symm e),qA e]
theorem Hw(hl:p<l.length)(hp:p<c.n)(ho:l[p]? = some o)(j:Nat)(hj:j<7)(v:Value)(hr:(ownRow o (es p)).set j v=ownRow o' e')(h:af ctx (fb b c l es::r) w):af ctx (fb b c (l.set p o') (jF es p e')::r) (w.setCell ⟨b.bo,p*7+j,none⟩ v):=by
 have:=Dj (i:=p*7+j) v (by omega) h;rw[Nat.zero_add]at this;unfold fb;rw[← Hv hl hp ho j hj v hr];exact this
theorem jY(hp:p<c.n)(ho:l[p]? = some o)(h:af ctx (fb b c l es::r) w){j:Nat}{v:Value}(hj:(ownRow o (es p))[j]? = some v):w.cell? ⟨b.bo,p*7+j,none⟩=some v:=by
 have So:j<7:=(List.getElem?_eq_some_iff.1 hj).1;obtain⟨_,⟨h0,_⟩ | ⟨b',off,c',e,_,hc⟩⟩:=bk h
 ·have:=c.nb
  omega
 ·cases e
  have:=hc (p*7+j) (by omega);rw[Nat.zero_add]at this;rw[this,Ds (uu l es) hp So];unfold rowAt;rw[ho];exact hj
end
def BZ(b:RB)(c:aP)(x:aE):Array Value:=#[.int .i64 (c.n:Int),.int .i64 (c.q:Int),.int .i64 c.g,.int .i64 c.m,.int .i64 c.t,.int .i64 c.s,.pointer (some ⟨b.bm,0,none⟩),.slice (some ⟨b.bo,0,none⟩) c.n b.cp,.int .i64 x.pts,.bool x.bad]
theorem jZ(m:Nat){b:RB}{c:aP}{x:aE}{w:World}(hb:w.heap[b.br]? = some (Obj.cells (BZ b c x) 73 (0,0)))(p:Int) :
  CallsIn Fence.wide m prog 32 #[.pointer (some ⟨b.br,0,none⟩),.int .i64 p] w λe w'=>e=.returned (.bool (decide (0<=p/\p<(c.n:Int))))/\w'=w:=by
 refine callsIn_of_wp func32 rfl trivial ?_ rfl;simp only[ntmps32,List.size_toArray,List.length_cons,List.length_nil,Nat.reduceAdd,Nat.reduceSub,Array.replicate_succ,Array.replicate_zero,List.push_toArray,List.append_toArray,List.nil_append,List.cons_append];have e7:w.cell? ⟨b.br,7,none⟩=some (.slice (some ⟨b.bo,0,none⟩) c.n b.cp):=cell_of hb 7 _ rfl;obtain⟨bz,hbz⟩:∃ bz,decide (0<=p/\p<(c.n:Int))=bz:=⟨_,rfl⟩;rw[hbz]
 by_cases h1:0<=p
 ·have hg:p≥0:=h1
  by_cases h2:p<(c.n:Int)
  ·obtain rfl:bz=true:=by rw[← hbz];simp[h1,h2]
   clear hbz
   gi_wp2
   exact bodyPost_ret (results_tmp rfl _ _ _) rfl ⟨rfl,rfl⟩
  ·obtain rfl:bz=false:=by rw[← hbz];simp[h2]
   clear hbz
   gi_wp2
   exact bodyPost_ret (results_tmp rfl _ _ _) rfl ⟨rfl,rfl⟩
 ·have hg:¬ p≥0:=h1
  obtain rfl:bz=false:=by rw[← hbz];simp[h1]
  clear hbz
  gi_wp2
  exact bodyPost_ret (results_tmp rfl _ _ _) rfl ⟨rfl,rfl⟩
def Qa(mv:Value)(bz:Bool):Prop:=(mv=.nilIface/\bz=false)\/∃ t v,mv=.iface t v/\bz=true
theorem B0(m:Nat){b:RB}{c:aP}{x:aE}{w:World}(hb:w.heap[b.br]? = some (Obj.cells (BZ b c x) 73 (0,0))){p:Nat}(hp:p<c.n){mv:Value}{bz:Bool}(hc:w.cell? ⟨b.bo,p*7+3,none⟩=some mv)(hm:Qa mv bz) :
  CallsIn Fence.wide m prog 12 #[.pointer (some ⟨b.br,0,none⟩),.int .i64 (p:Int)] w λe w'=>e=.returned (.bool bz)/\w'=w:=by
 refine callsIn_of_wp func12 rfl trivial ?_ rfl;simp only[ntmps12,List.size_toArray,List.length_cons,List.length_nil,Nat.reduceAdd,Nat.reduceSub,Array.replicate_succ,Array.replicate_zero,List.push_toArray,List.append_toArray,List.nil_append,List.cons_append];have e7:w.cell? ⟨b.br,7,none⟩=some (.slice (some ⟨b.bo,0,none⟩) c.n b.cp):=cell_of hb 7 _ rfl;have Qb:(p:Int)<(c.n:Int):=by omega
 have ed:decide (0<=(p:Int)/\(p:Int)<(c.n:Int))=true:=by simp[hp]
 gi_wp2
 refine⟨trivial,λh=>by simp[Fence.wide]at h,(jZ (m-1) hb (p:Int)).mono ?_⟩;rintro e w' ⟨rfl,rfl⟩;rw[ed];rcases hm with ⟨rfl,rfl⟩ | ⟨t,v,rfl,rfl⟩
 ·gi_wp2
  exact bodyPost_ret (results_tmp rfl _ _ _) rfl ⟨rfl,rfl⟩
 ·gi_wp2
  exact bodyPost_ret (results_tmp rfl _ _ _) rfl ⟨rfl,rfl⟩
theorem JD(m:Nat){bm:Nat}{mm:bw}{F:Nat->Prop}{w:World}(hx:mm.cells.length<=1000000)(h:cG [aK bm mm] F w) :
  CallsIn Fence.wide m prog 39 #[.pointer (some ⟨bm,0,none⟩)] w λe w'=>∃ v,aV v=true/\e=.returned v/\af ⟨w,F⟩ [bQ 51 1 v mm.cells.length (iy mm.cells),aK bm mm] w' :=
 callsIn_wide.2 ((FU hx h).mono (λe w' ⟨v,cd,_,h1,h2⟩=>⟨v,dK h2,h1,h2⟩))
theorem yW{n:Nat}{a:Option Addr}{k:Nat}{xs:List Int}{w:World}(h:jd 1 (.slice a n k) n (iy xs) w){j:Nat}(hj:j<n):∃ b off,a=some ⟨b,off,none⟩/\w.cell? ⟨b,off+j,none⟩=some (.int .u64 (xs.getD j 0)):=by
 obtain⟨hl,⟨h0,_⟩ | ⟨b,off,c,hv,_,hc⟩⟩:=h
 ·omega
 ·cases hv
  refine⟨b,off,rfl,?_⟩;rw[hc j (by omega)];have:j<xs.length:=by simp[iy]at hl;omega
  simp[iy,List.getD_eq_getElem?_getD,this]
theorem Hx{n:Nat}{a:Option Addr}{k:Nat}{xs:List Int}{w:World}(h:jd 1 (.slice a n k) n (wc xs) w){j:Nat}(hj:j<n):∃ b off,a=some ⟨b,off,none⟩/\w.cell? ⟨b,off+j,none⟩=some (.int .u32 (xs.getD j 0)):=by
 obtain⟨hl,⟨h0,_⟩ | ⟨b,off,c,hv,_,hc⟩⟩:=h
 ·omega
 ·cases hv
  refine⟨b,off,rfl,?_⟩;rw[hc j (by omega)];have:j<xs.length:=by simp[wc]at hl;omega
  simp[wc,List.getD_eq_getElem?_getD,this]
theorem Hy{w:World}{n k:Nat}{v:Value}{l:List Int}(h:w.ownsRow n 95 1 v k (wc l)):jd 1 v k (wc l) w:=by
 refine⟨h.1,?_⟩;have h0:=h;rcases h.2 with ⟨rfl,e⟩ | ⟨g,cap,cur,rfl,_,hg,hcap,_⟩
 ·exact .inl ⟨e,_,_,rfl⟩
 ·refine .inr ⟨g,0,cap,rfl,⟨(Array.getElem?_eq_some_iff.1 hg).1,hcap⟩,λj hj=>?_⟩
  have hj':j<(wc l).length:=by rw[h0.1];exact hj
  have:=h0.cells (g:=g) rfl j _ (List.getElem?_eq_getElem hj');rw[show(⟨g,0,none⟩:Addr).add j=⟨g,0+j,none⟩ from fB g 0 j]at this;rw[this,List.getElem?_eq_getElem hj']
theorem Dv{x:Int} : (ep x).length<=65536/\∀ j,0<=(ep x).getD j 0:=by
 have hzb:=cu x;refine⟨?_,λj=>?_⟩
 ·unfold ep
  split
  ·simp
  ·simp;omega
 ·rw[List.getD_eq_getElem?_getD]
  cases h:(ep x)[j]? with
  | none=>exact Int.le_refl 0
  | some g =>
   have hmem:=List.mem_of_getElem? h;unfold ep at hmem
   split at hmem
   ·cases hmem
   ·obtain⟨i,_,ei⟩:=List.mem_map.1 hmem
    show 0<=g;rw[← ei];exact Int.emod_nonneg _ (by decide)
set_option maxHeartbeats 4000000 in
theorem JE(m:Nat){b:RB}{c:aP}{x:aE}{p:Nat}(hp:p<c.n)(hm:bT c x.m){F:Nat->Prop}{w:World}(h:cG [d_ b c x,aK b.bm x.m] F w) :
  CallsIn Fence.wide m prog 15 #[.pointer (some ⟨b.br,0,none⟩),.int .i64 (p:Int)] w λe w'=>∃ v,aV v=true/\e=.returned v/\af ⟨w,F⟩ [cf v (ii c x.m p),d_ b c x,aK b.bm x.m] w':=by
 refine callsIn_of_wp func15 rfl trivial ?_ rfl;simp only[ntmps15,List.size_toArray,List.length_cons,List.length_nil,Nat.reduceAdd,Nat.reduceSub,Array.replicate_succ,Array.replicate_zero,List.push_toArray,List.append_toArray,List.nil_append,List.cons_append];have hb:=ax (af.start h);have e6:w.cell? ⟨b.br,6,none⟩=some (.pointer (some ⟨b.bm,0,none⟩)):=cell_of hb 6 _ rfl;have ed:decide (0<=(p:Int)/\(p:Int)<(c.n:Int))=true:=by simp[hp]
 obtain⟨F1,k1,back⟩:=cQ (ctx:=⟨w,F⟩) (rest:=[d_ b c x]) [aK b.bm x.m] ((af.start h).sel [1,0]);have hbig:x.m.cells.length<=1000000:=by have:=hm.big;omega
 gi_wp2
 refine⟨trivial,λh=>by simp[Fence.wide]at h,(jZ (m-1) hb (p:Int)).mono ?_⟩;rintro e w' ⟨rfl,rfl⟩;rw[ed]
 gi_wp2
 refine⟨trivial,λh=>by simp[Fence.wide]at h,(JD (m-1) hbig k1).mono ?_⟩;rintro e w2 ⟨v,lv,rfl,hh⟩;have hH:=back _ _ hh;have hsl:=bk hH;obtain⟨a0,c0,rfl⟩:=c8 hsl;have hb2:=ax (hH.sel [2]);have e0:w2.cell? ⟨b.br,0,none⟩=some (.int .i64 (c.n:Int)):=cell_of hb2 0 _ rfl;have e1:w2.cell? ⟨b.br,1,none⟩=some (.int .i64 (c.q:Int)):=cell_of hb2 1 _ rfl;have e2:w2.cell? ⟨b.br,2,none⟩=some (.int .i64 c.g):=cell_of hb2 2 _ rfl;have e3:w2.cell? ⟨b.br,3,none⟩=some (.int .i64 c.m):=cell_of hb2 3 _ rfl;have e4:w2.cell? ⟨b.br,4,none⟩=some (.int .i64 c.t):=cell_of hb2 4 _ rfl;have e5:w2.cell? ⟨b.br,5,none⟩=some (.int .i64 c.s):=cell_of hb2 5 _ rfl;obtain⟨L,hL⟩:∃ L,x.m.cells.length=L:=⟨_,rfl⟩;rw[hL]at hsl;have hwl:=hm.fl hp;rw[hL]at hwl ⊢;have Sp:((c.word p:Nat):Int)<(L:Int):=by omega
 gi_wp2
 refine⟨trivial,λh=>by simp[Fence.wide]at h,(callsIn_wide.2 (cD c p hp w2)).mono ?_⟩;rintro e w3 ⟨rfl,B3⟩;have hH3:=bA hH B3;obtain⟨ba,oa,rfl,g0⟩:=yW (gW hsl B3) hwl;have hwd:x.m.cells.getD (c.word p) 0=wd c x.m p:=rfl;rw[hwd]at g0;have Qc:fg (wd c x.m p):=(hm.get (hm.fl hp)).2;have hzb:=cu (wd c x.m p)
 gi_wp2
 refine⟨trivial,λh=>by simp[Fence.wide]at h,(callsIn_wide.2 (cz (wd c x.m p) Qc w3)).mono ?_⟩;rintro e w4 ⟨rfl,rfl⟩
 gi_wp2
 refine⟨trivial,λh=>by simp[Fence.wide]at h,(Dl (m-1) (wd c x.m p) Qc w3).mono ?_⟩;rintro e w5 ⟨vp,rfl,op,B5⟩;obtain⟨ap,cp,rfl⟩:=Jv op;have hH5:=bA hH3 B5;obtain⟨QM,Qd⟩:=Dv (x:=wd c x.m p);have hrl:ii c x.m p=(ep (wd c x.m p)).map (λi=>IntKind.i64.wrap (ld x.m (c.slot p i))):=rfl;obtain⟨f,hf⟩:∃ f:Int->Int,(λi=>IntKind.i64.wrap (ld x.m (c.slot p i)))=f:=⟨_,rfl⟩;rw[hf]at hrl;obtain⟨PL,Sr⟩:∃ PL,ep (wd c x.m p)=PL:=⟨_,rfl⟩;rw[Sr]at op QM Qd hrl ⊢;obtain⟨N,hN⟩:∃ N,PL.length=N:=⟨_,rfl⟩;rw[hN]at op QM ⊢;have A:Aside (∀ j,0<=PL.getD j 0):=Qd;clear Qd
 gi_wp2
 gi_loopw [4,32] (λq r wr=>∃ k:Nat,r=.int .i64 (k:Int)/\k<=N/\wr.ownsRow w5.heap.size 3 1 q k (bu ((PL.take k).map f))/\Below w5.heap.size w5 wr) (λ_ r _=>N-(intOf r).toNat)
 case atStart=>exact⟨0,rfl,Nat.zero_le _,World.ownsRow_nil _ _ _ _,Below.refl _ _⟩
 case round =>
  obtain⟨k,rfl,hk,ho,hB⟩:=hrel
  by_cases hlt:k<N
  ·have v5:(k:Int)<(N:Int):=by omega
   obtain⟨b1,o1,rfl,g1⟩:=Hx (gW (Hy op) hB) hlt;obtain⟨i,hi⟩:∃ i,PL.getD k 0=i:=⟨_,rfl⟩;have hi0:=A.out k;rw[hi]at g1 hi0;have QN:=bA hH5 hB;have hbr:=ax (QN.sel [2]);have e0:wr.cell? ⟨b.br,0,none⟩=some (.int .i64 (c.n:Int)):=cell_of hbr 0 _ rfl;have e1:wr.cell? ⟨b.br,1,none⟩=some (.int .i64 (c.q:Int)):=cell_of hbr 1 _ rfl;have e2:wr.cell? ⟨b.br,2,none⟩=some (.int .i64 c.g):=cell_of hbr 2 _ rfl;have e3:wr.cell? ⟨b.br,3,none⟩=some (.int .i64 c.m):=cell_of hbr 3 _ rfl;have e4:wr.cell? ⟨b.br,4,none⟩=some (.int .i64 c.t):=cell_of hbr 4 _ rfl;have e5:wr.cell? ⟨b.br,5,none⟩=some (.int .i64 c.s):=cell_of hbr 5 _ rfl
   gi_wp2
   refine⟨trivial,λh=>by simp[Fence.wide]at h,(callsIn_wide.2 (iA c p hp i hi0 wr)).mono ?_⟩;rintro e w6 ⟨rfl,B6⟩;have Qe:Below w5.heap.size w5 w6:=hB.trans (B6.mono hB.size);have hsl2:c.slot p i<L:=by rw[← hL];exact hm.iB hp i
   have Ss:((c.slot p i:Nat):Int)<(L:Int):=by omega
   obtain⟨b2,o2,hv2,g2⟩:=yW (gW (gW (gW hsl B3) B5) Qe) hsl2;cases hv2;obtain⟨z,hz⟩:∃ z,x.m.cells.getD (c.slot p i) 0=z:=⟨_,rfl⟩;obtain⟨y,hy⟩:∃ y,wrap64 z=y:=⟨_,rfl⟩;have hy2:IntKind.i64.wrap z=y:=by rw[← hy];rw[IntKind.wrap_i64];unfold wrap64;rfl
   rw[hz]at g2;have NN:=Hh ho B6;obtain⟨W7,JF⟩:∃ W7,w6.alloc (.cells #[.int .i64 y] 3)=W7:=⟨_,rfl⟩;have NP:Below w5.heap.size w5 W7:=by rw[← JF];exact Qe.alloc Qe.size _
   have hsr:jd 1 (.slice (some ⟨w6.heap.size,0,none⟩) 1 1) 1 [.int .i64 y] W7:=⟨rfl,.inr ⟨_,0,1,rfl,⟨by rw[← JF];simp,Nat.le_refl _⟩,λj hj=>by
    obtain rfl:j=0:=by omega
    rw[← JF]
    exact cell_of (World.alloc_heap_new w6 _) 0 _ rfl⟩⟩
   have Qf:=NN.alloc (.cells #[.int .i64 y] 3);rw[JF]at Qf;obtain⟨i0,hi',hz1,hz0,hz2⟩:=bY;obtain⟨v',w8,q1,q2,q3⟩:=wb 35 35 3 underlying35 hi' hz0 hz1 hz2 rfl (by decide) Qf hsr (by simp[Value.oneCell']) (by unfold maxLen;omega) (by omega) NP.size
   gi_wp2_with (gi_at_builtin;refine dS rfl _ _ _ rfl q1 ?_)
   refine⟨⟨k+1,rfl,by omega,?_,pG Qf NP NP.size q3⟩,by simp[intOf];omega⟩;have hky:((PL.take (k+1)).map f)=(PL.take k).map f++[y]:=by
    have hkl:k<PL.length:=by omega
    rw[List.take_add_one,List.getElem?_eq_getElem hkl,List.map_append]
    congr 1
    have:PL[k]=i:=by rw[← hi,List.getD_eq_getElem?_getD,List.getElem?_eq_getElem hkl];rfl
    rw[this,← hy2,← hz,← hf];rfl
   rw[hky];simpa[bu] using q2
  ·obtain rfl:k=N:=by omega
   have v5:¬ ((k:Nat):Int)<(k:Int):=by omega
   have QN:=bA hH5 hB
   gi_wp2
   rw[show PL.take k=PL by rw[← hN,List.take_length]]at ho;have hfin:=(yL hH5 ho hB).sel [0,3,2];have e9:cf u4 (PL.map f)=bQ 3 1 u4 k (bu (PL.map f)):=by
    unfold cf;rw[List.length_map,hN]
   refine bodyPost_ret (results_tmp rfl _ _ _) rfl ⟨_,dK hfin,rfl,?_⟩
   first | rw[hrl,e9] | rw[e9]
   exact hfin
theorem Hz{l m:List aG}(hp:l.Perm m):∀ {F:Nat->Prop} {w:World},cG l F w->cG m F w:=by
 induction hp with
 | nil=>exact λh=>h
 | cons a _ ih =>
  intro F w h;obtain⟨Fa,Fl,k1,k2,k3,k4⟩:=bI h;exact cF (bP k1 (ih k2) (λj hj=>h.lt j ((k4 j).2 (.inl hj))) k3) (λj=>(k4 j).symm)
 | swap a b l=>exact λh=>yG h
 | trans _ _ ih1 ih2=>exact λh=>ih2 (ih1 h)
theorem ay{ctx:dc}{l m:List aG}{w:World}(hp:l.Perm m)(h:af ctx l w):af ctx m w:=by
 obtain⟨F,h1,h2,h3⟩:=h.ex;exact⟨F,Hz hp h1,h2,h3⟩
open Classical in
theorem bV{l m:List aG}(h:∀ f:aG->Nat,(l.map f).sum=(m.map f).sum):l.Perm m:=by
 rw[List.perm_iff_count];intro a;have e:∀ l:List aG,(l.map (λx=>if x=a then 1 else 0)).sum=l.count a:=by
  intro l
  induction l with
  | nil=>rfl
  | cons x l ih =>
   rw[List.map_cons,List.sum_cons,ih,List.count_cons]
   by_cases hx:x=a
   ·simp[hx]
    omega
   ·simp[hx]
 rw[← e,← e];exact h _
def fX(c:aP)(p:Nat)(o:bX)(e:dm):List aG:=[hZ c e.d o.dq,ft c p e.mv o.dx,cf e.rv o.rs]
section
variable{ctx:dc}{w:World}{r:List aG}{c:aP}{l:List bX}{es:Nat->dm}{p:Nat}{o:bX}
theorem AK(a:List aG)(hp:p<c.n)(hl:p<l.length)(ho:l[p]? = some o)(h:af ctx (cV c l es++(a++r)) w) :
  ∃ F,cG (fX c p o (es p)++a) F w/\∀ (o':bX) (e':dm) (m:List aG) (w':World),af ⟨w,F⟩ (fX c p o' e'++m) w'->af ctx (cV c (l.set p o') (jF es p e')++(m++r)) w':=by
 have h1:=(BY hp ho h).open;have h2:af ctx ((fX c p o (es p)++a)++((cV c l es).eraseIdx p++r)) w:=by
  refine ay ?_ h1;show(fX c p o (es p)++_).Perm _;rw[List.append_assoc];refine List.Perm.append_left _ ?_;rw[← List.append_assoc,← List.append_assoc];exact List.perm_append_comm.append_right _
 obtain⟨F,k1,back⟩:=cQ _ h2;refine⟨F,k1,λo' e' m w' hh=>?_⟩;have h3:=back _ _ hh;have h4:af ctx (fX c p o' e'++((cV c l es).eraseIdx p++(m++r))) w':=by
  refine ay ?_ h3;rw[List.append_assoc];refine List.Perm.append_left _ ?_;rw[← List.append_assoc,← List.append_assoc];exact List.perm_append_comm.append_right _
 exact Hu hp hl (af.shut h4)
end
theorem B1{ctx:dc}{w:World}{r:List aG}{c:aP}{l:List bX}{es:Nat->dm}{p:Nat}{o:bX}(a:List aG)(hp:p<c.n)(hl:p<l.length)(ho:l[p]? = some o)(h:af ctx (cV c l es++(a++r)) w) :
  ∃ F,cG (fX c p o (es p)++a) F w/\∀ (m:List aG) (w':World),af ⟨w,F⟩ (fX c p o (es p)++m) w'->af ctx (cV c l es++(m++r)) w':=by
 obtain⟨F,k1,k2⟩:=AK a hp hl ho h;refine⟨F,k1,λm w' hh=>?_⟩;have:=k2 o (es p) m w' hh;rw[eE]at this
 rwa [show l.set p o=l from by
  obtain⟨h1,h2⟩:=List.getElem?_eq_some_iff.1 ho;rw[← h2]
  exact List.set_getElem_self h1]at this
theorem oP{ctx:dc}{w:World}{r:List aG}{c:aP}{p:Nat}{mv:Value}(h:af ctx (ft c p mv none::r) w):mv=.nilIface:=by
 obtain⟨_,e,_⟩:=h.qh;exact e
theorem oQ{ctx:dc}{w:World}{r:List aG}{c:aP}{p:Nat}{mv:Value}{u:gy}(h:af ctx (ft c p mv (some (.put u))::r) w):∃ bp,mv=.iface 81 (.pointer (some ⟨bp,0,none⟩))/\af ctx (gA c p bp u::r) w:=h.qh
theorem oR{ctx:dc}{w:World}{r:List aG}{c:aP}{p:Nat}{mv:Value}{u:hY}(h:af ctx (ft c p mv (some (.get u))::r) w):∃ bp,mv=.iface 83 (.pointer (some ⟨bp,0,none⟩))/\af ctx (je c p bp u::r) w:=h.qh
theorem iP{ctx:dc}{w:World}{r:List aG}{c:aP}{p v:Nat}{mv:Value}{u:bD}(h:af ctx (ft c p mv (some (.steal v u))::r) w):∃ bp,mv=.iface 85 (.pointer (some ⟨bp,0,none⟩))/\af ctx (cP c p v bp u::r) w:=h.qh
theorem qB{ctx:dc}{w:World}{r:List aG}{c:aP}{p bp:Nat}{u:gy}(h:af ctx (gA c p bp u::r) w):af ctx (ft c p (.iface 81 (.pointer (some ⟨bp,0,none⟩))) (some (.put u))::r) w:=af.rJ (a:=λbp=>gA c p bp u) bp rfl h
theorem qC{ctx:dc}{w:World}{r:List aG}{c:aP}{p bp:Nat}{u:hY}(h:af ctx (je c p bp u::r) w):af ctx (ft c p (.iface 83 (.pointer (some ⟨bp,0,none⟩))) (some (.get u))::r) w:=af.rJ (a:=λbp=>je c p bp u) bp rfl h
theorem j_{ctx:dc}{w:World}{r:List aG}{c:aP}{p v bp:Nat}{u:bD}(h:af ctx (cP c p v bp u::r) w):af ctx (ft c p (.iface 85 (.pointer (some ⟨bp,0,none⟩))) (some (.steal v u))::r) w:=af.rJ (a:=λbp=>cP c p v bp u) bp rfl h
theorem B9{ctx:dc}{w:World}{r:List aG}{c:aP}{p:Nat}{mv:Value}{M:Option bG}(h:af ctx (ft c p mv M::r) w):Qa mv M.isSome:=by
 match M with
 | none=>exact .inl ⟨oP h,rfl⟩
 | some (.put u)=>obtain⟨bp,e,_⟩:=oQ h;exact .inr ⟨_,_,e,rfl⟩
 | some (.get u)=>obtain⟨bp,e,_⟩:=oR h;exact .inr ⟨_,_,e,rfl⟩
 | some (.steal v u)=>obtain⟨bp,e,_⟩:=iP h;exact .inr ⟨_,_,e,rfl⟩
theorem eA{a:aG}{l:List aG}{F:Nat->Prop}{w:World}(h:af ⟨w,F⟩ (a::l) w):∃ F1,cG [a] F1 w/\∀ m w',af ⟨w,F1⟩ m w'->af ⟨w,F⟩ (m++l) w':=cQ (lp:=[a]) h
theorem HA{c:aP}{p:Nat}(hp:p<c.n){M:bG}(hM:li c p M)(h0:M.st≠0){mm:bw}(hm:bT c mm)(hs:kR c mm){mv:Value}{bm:Nat}{F:Nat->Prop}{w:World}(h:cG [ft c p mv (some M),aK bm mm] F w) :
  ∃ T bp f,mv=.iface T (.pointer (some ⟨bp,0,none⟩))/\(∀ w,(callMethod (.iface T (.pointer (some ⟨bp,0,none⟩))) "Step" #[.pointer (some ⟨bm,0,none⟩)]).run prog w=.ok (.enter f #[.pointer (some ⟨bp,0,none⟩),.pointer (some ⟨bm,0,none⟩)]) w)/\Calls prog f #[.pointer (some ⟨bp,0,none⟩),.pointer (some ⟨bm,0,none⟩)] w λe w'=>e=.returned (.bool (decide ((M.step c p mm).1.st=0)))/\af ⟨w,F⟩ [ft c p mv (some (M.step c p mm).1),aK bm (M.step c p mm).2] w':=by
 cases M with
 | put u =>
  obtain⟨bp,rfl,hh⟩:=oQ (af.start h);obtain⟨F1,k1,back⟩:=cQ (rest:=[]) [gA c p bp u,aK bm mm] hh;exact⟨_,bp,_,rfl,λw=>yR bp _ w,(Gf hp hM h0 hm k1).mono (λe w' ⟨e1,h2⟩=>⟨e1,qB (back _ _ h2)⟩)⟩
 | get u =>
  obtain⟨bp,rfl,hh⟩:=oR (af.start h);obtain⟨F1,k1,back⟩:=cQ (rest:=[]) [je c p bp u,aK bm mm] hh;exact⟨_,bp,_,rfl,λw=>yS bp _ w,(GI hp hM h0 hm k1).mono (λe w' ⟨e1,h2⟩=>⟨e1,qC (back _ _ h2)⟩)⟩
 | steal v u =>
  obtain⟨bp,rfl,hh⟩:=iP (af.start h);obtain⟨F1,k1,back⟩:=cQ (rest:=[]) [cP c p v bp u,aK bm mm] hh;exact⟨_,bp,_,rfl,λw=>tz bp _ w,(AB hp hM.2.1 hM.1 h0 hm hs k1).mono (λe w' ⟨e1,h2⟩=>⟨e1,j_ (back _ _ h2)⟩)⟩
theorem pW{P:Program}{fn:Func}{w:World}{t:Tmp}(hres:fn.results = #[.tmp t])(tm:Array Value):(results fn tm).run P w=.ok (tm.getD t undef) w:=results_tmp hres tm P w
section
variable{ctx:dc}{w:World}{r:List aG}{b:RB}{c:aP}{x:aE}{es:Nat->dm}
theorem yX(h:af ctx (aF b c x es++r) w):w.heap[b.br]? = some (Obj.cells (BZ b c x) 73 (0,0)):=ax h
theorem iQ(h:af ctx (aF b c x es++r) w):af ctx (fb b c x.ow es::(d_ b c x::aK b.bm x.m::(cV c x.ow es++r))) w:=by
 refine ay ?_ h;show(d_ b c x::aK b.bm x.m::fb b c x.ow es::(cV c x.ow es++r)).Perm _;exact((List.Perm.swap _ _ _).cons _).trans (List.Perm.swap _ _ _)
theorem pI(h:af ctx (aF b c x es++r) w):af ctx (cV c x.ow es++(gX b c x es++r)) w:=by
 refine ay ?_ h;show((gX b c x es++cV c x.ow es)++r).Perm _;rw[← List.append_assoc];exact List.perm_append_comm.append_right _
theorem Dw(h:af ctx (cV c x.ow es++(gX b c x es++r)) w):af ctx (aF b c x es++r) w:=by
 refine ay ?_ h;show List.Perm _ ((gX b c x es++cV c x.ow es)++r);rw[← List.append_assoc];exact List.perm_append_comm.append_right _
end
set_option maxHeartbeats 1000000 in
theorem HB(m:Nat){b:RB}{c:aP}{x:aE}{es:Nat->dm}{p:Nat}{o:bX}(hq:c.q<=8)(hp:p<c.n)(ho:x.ow[p]? = some o)(hd:eR c o.dq){F:Nat->Prop}{w:World}(h:cG (aF b c x es) F w) :
  CallsIn Fence.wide m prog 18 #[.pointer (some ⟨b.br,0,none⟩),.int .i64 (p:Int)] w λe w'=>∃ v,aV v=true/\e=.returned v/\af ⟨w,F⟩ (aF b c x es++[cf v (aX c o.dq)]) w':=by
 refine callsIn_of_wp func18 rfl trivial ?_ rfl;simp only[ntmps18,List.size_toArray,List.length_cons,List.length_nil,Nat.reduceAdd,Nat.reduceSub,Array.replicate_succ,Array.replicate_zero,List.push_toArray,List.append_toArray,List.nil_append,List.cons_append];have hst:af ⟨w,F⟩ (aF b c x es++[]) w:=by rw[List.append_nil];exact af.start h
 have hb:=yX hst;have e7:w.cell? ⟨b.br,7,none⟩=some (.slice (some ⟨b.bo,0,none⟩) c.n b.cp):=cell_of hb 7 _ rfl;have e4:w.cell? ⟨b.bo,p*7+4,none⟩=some (.pointer (some ⟨(es p).d,0,none⟩)):=jY hp ho (iQ hst) rfl;have ed:decide (0<=(p:Int)/\(p:Int)<(c.n:Int))=true:=by simp[hp]
 have Qb:(p:Int)<(c.n:Int):=by omega
 have hlt:p<x.ow.length:=(List.getElem?_eq_some_iff.1 ho).1;obtain⟨F1,k1,back⟩:=B1 (r:=gX b c x es++[]) [] hp hlt ho (pI hst);rw[List.append_nil]at k1;obtain⟨F2,k2,oS⟩:=eA (af.start k1)
 gi_wp2
 refine⟨trivial,λh=>by simp[Fence.wide]at h,(jZ (m-1) hb (p:Int)).mono ?_⟩;rintro e w' ⟨rfl,rfl⟩;rw[ed]
 gi_wp2
 refine⟨trivial,λh=>by simp[Fence.wide]at h,(callsIn_wide.2 (GN hq hd k2)).mono ?_⟩;rintro e w2 ⟨v,lv,rfl,hh⟩;have h3:=back [cf v (aX c o.dq)] _ ((oS _ _ hh).sel [1,2,3,0])
 gi_wp2
 refine bodyPost_ret (results_tmp rfl _ _ _) rfl ⟨_,lv,rfl,?_⟩;have h4:af ⟨w',F⟩ (cV c x.ow es++(gX b c x es++[cf v (aX c o.dq)])) w2:=by
  refine ay ?_ h3;refine List.Perm.append_left _ ?_;rw[List.append_nil];exact List.perm_append_comm
 exact Dw h4
theorem HC(m:Nat){b:RB}{c:aP}{x:aE}(is:Bool){F:Nat->Prop}{w:World}(h:cG [d_ b c x] F w) :
  CallsIn Fence.wide m prog 64 #[.pointer (some ⟨b.br,0,none⟩),.bool is] w λe w'=>e=.returned (.tuple #[])/\af ⟨w,F⟩ [d_ b c (x.holds is)] w':=by
 refine callsIn_of_wp func64 rfl trivial ?_ rfl;simp only[ntmps64,List.size_toArray,List.length_cons,List.length_nil,Nat.reduceAdd,Nat.reduceSub,Array.replicate_succ,Array.replicate_zero,List.push_toArray,List.append_toArray,List.nil_append,List.cons_append];have hst:=af.start h;have hb:=ax hst;have e8:w.cell? ⟨b.br,8,none⟩=some (.int .i64 x.pts):=cell_of hb 8 _ rfl;have f8:w.frozen? ⟨b.br,8,none⟩=false:=cB hb 8;have h2:=bR 8 (.int .i64 (IntKind.i64.wrap (x.pts+1))) hst;obtain⟨y,hy⟩:∃ y,IntKind.i64.wrap (x.pts+1)=y:=⟨_,rfl⟩;have hy2:wrap64 (x.pts+1)=y:=by rw[← hy,IntKind.wrap_i64];unfold wrap64;rfl
 rw[hy]at h2;obtain⟨w2,hw2⟩:∃ w2,w.setCell ⟨b.br,8,none⟩ (.int .i64 y)=w2:=⟨_,rfl⟩;rw[hw2]at h2;have hb2:=ax h2;have e9:w2.cell? ⟨b.br,9,none⟩=some (.bool x.bad):=cell_of hb2 9 _ rfl;have f9:w2.frozen? ⟨b.br,9,none⟩=false:=cB hb2 9;have h3:=bR 9 (.bool (x.bad || !is)) h2;have hx:af ⟨w,F⟩ [d_ b c (x.holds is)] (w2.setCell ⟨b.br,9,none⟩ (.bool (x.bad || !is))):=by
  unfold d_ aE.holds;rw[hy];exact h3
 cases hbad:x.bad with
 | false =>
  rw[hbad]at e9 hx
  gi_wp2
  exact bodyPost_end (results_none rfl _ _ _) rfl ⟨rfl,by simpa using hx⟩
 | true =>
  rw[hbad]at e9 hx
  gi_wp2
  exact bodyPost_end (results_none rfl _ _ _) rfl ⟨rfl,by simpa using hx⟩
theorem gG{ctx:dc}{w:World}{r:List aG}{b:RB}{c:aP}{x:aE}{es:Nat->dm}{p:Nat}{o:bX}(hp:p<c.n)(ho:x.ow[p]? = some o)(h:af ctx (r++aF b c x es) w) :
  ∃ F,cG [ft c p (es p).mv o.dx] F w/\∀ (m:List aG) (w':World),af ⟨w,F⟩ (ft c p (es p).mv o.dx::m) w'->af ctx (r++(m++aF b c x es)) w':=by
 have hlt:p<x.ow.length:=(List.getElem?_eq_some_iff.1 ho).1;obtain⟨F1,k1,back⟩:=B1 (r:=gX b c x es++r) [] hp hlt ho (pI (ay List.perm_append_comm h));rw[List.append_nil]at k1;have k1':af ⟨w,F1⟩ [ft c p (es p).mv o.dx,hZ c (es p).d o.dq,cf (es p).rv o.rs] w:=(af.start k1).sel [1,0,2];obtain⟨F2,k2,oS⟩:=eA k1';refine⟨F2,k2,λm w' hh=>?_⟩;have h1:af ⟨w,F1⟩ (fX c p o (es p)++m) w':=ay (bV (λf=>by simp only[fX,List.cons_append,List.map_append,List.map_cons,List.map_nil,List.sum_append,List.sum_cons,List.sum_nil,List.nil_append];omega)) (oS _ _ hh);exact ay (bV (λf=>by simp only[aF,List.map_append,List.sum_append];omega)) (back m w' h1)
theorem eT{ctx:dc}{l:List aG}{w:World}(cs:List Value)(T:TypeId)(h:af ctx l w):af ctx (aH w.heap.size cs T::l) (w.alloc (.cells cs.toArray T)):=by
 obtain⟨F',m1,m2,m3⟩:=h.ex;have hB:Below w.heap.size w (w.alloc (.cells cs.toArray T)):=(Below.refl _ w).alloc (Nat.le_refl _) _;have hs:w.heap.size<(w.alloc (.cells cs.toArray T)).heap.size:=by simp
 have h1:=fV m1 (λj hj=>hB.block j (m1.lt j hj)) hB.size;have h2:=bP (a:=aH w.heap.size cs T) (Fa:=λj=>j=w.heap.size) ⟨λj=>Iff.rfl,World.alloc_heap_new w _⟩ h1 (λj hj=>by rw[hj];exact hs) (λj hj hf=>by have:=m1.lt j hf;omega);exact⟨_,h2,⟨hB.os.trans m2.os,hB.tape.trans m2.tape,hB.output.trans m2.output,Nat.le_trans m2.size hB.size,λj hj hx=>(hB.block j (Nat.lt_of_lt_of_le hj m2.size)).trans (m2.block j hj hx)⟩,λj hj=>hj.elim (λe=>.inr (by rw[e];exact m2.size)) (m3 j)⟩
theorem yY{w w':World}(h:Below w.heap.size w w'){a:Addr}{v:Value}(hc:w.cell? a=some v):w'.cell? a=some v:=by
 have hlt:a.block<w.heap.size:=by
  unfold World.cell? at hc;cases hb:w.heap[a.block]? with
  | none=>rw[hb]at hc;cases hc
  | some o=>exact(Array.getElem?_eq_some_iff.1 hb).1
 rw[h.cell hlt];exact hc
theorem kb{P:Program}{fn:Func}{R:Ending->World->Prop}{a:Act}{w:World}{v:Value}{tm:Tmp}{t:TypeId}{ad:Addr}(hres:fn.results = #[.cell tm t])(ha:a.tmps.getD tm undef=.pointer (some ad))(hd:a.defers=[])(hl:(loadVar t ad).run P w=.ok v w)(hR:R (.returned v) w):bodyPost P fn R .ret a w:=by
 refine bodyPost_ret ?_ hd hR;have ha':a.tmps[tm]?.getD undef=.pointer (some ad):=by simpa using ha
 simp[results,hres,ha',Go.asAddr,hl]
section
variable(b:Nat)(w:World)
theorem KK:(Instr.typeAssert (.iface 81 (.pointer (some ⟨b,0,none⟩))) 78 81 true).run prog w=.ok (.tuple #[.pointer (some ⟨b,0,none⟩),.bool true]) w:=by kernel_rfl
theorem NQ:(Instr.typeAssert (.iface 81 (.pointer (some ⟨b,0,none⟩))) 78 85 true).run prog w=.ok (.tuple #[.pointer none,.bool false]) w:=by kernel_rfl
theorem KM:(Instr.typeAssert (.iface 83 (.pointer (some ⟨b,0,none⟩))) 78 81 true).run prog w=.ok (.tuple #[.pointer none,.bool false]) w:=by kernel_rfl
theorem NR:(Instr.typeAssert (.iface 83 (.pointer (some ⟨b,0,none⟩))) 78 83 true).run prog w=.ok (.tuple #[.pointer (some ⟨b,0,none⟩),.bool true]) w:=by kernel_rfl
theorem NS:(Instr.typeAssert (.iface 83 (.pointer (some ⟨b,0,none⟩))) 78 85 true).run prog w=.ok (.tuple #[.pointer none,.bool false]) w:=by kernel_rfl
theorem NT:(Instr.typeAssert (.iface 83 (.pointer (some ⟨b,0,none⟩))) 78 161 true).run prog w=.ok (.tuple #[.iface 83 (.pointer (some ⟨b,0,none⟩)),.bool true]) w:=by kernel_rfl
theorem KN:(Instr.typeAssert (.iface 85 (.pointer (some ⟨b,0,none⟩))) 78 81 true).run prog w=.ok (.tuple #[.pointer none,.bool false]) w:=by kernel_rfl
theorem NU:(Instr.typeAssert (.iface 85 (.pointer (some ⟨b,0,none⟩))) 78 83 true).run prog w=.ok (.tuple #[.pointer none,.bool false]) w:=by kernel_rfl
theorem KO:(Instr.typeAssert (.iface 85 (.pointer (some ⟨b,0,none⟩))) 78 85 true).run prog w=.ok (.tuple #[.pointer (some ⟨b,0,none⟩),.bool true]) w:=by kernel_rfl
theorem NV:(Instr.typeAssert (.iface 85 (.pointer (some ⟨b,0,none⟩))) 78 161 true).run prog w=.ok (.tuple #[.iface 85 (.pointer (some ⟨b,0,none⟩)),.bool true]) w:=by kernel_rfl
end
theorem wl(w:World)(B:Nat)(x0 x1 x2:Value)(hb:w.heap[B]? = some (Obj.cells #[x0,x1,x2] 37 (0,0))):(loadVar 37 ⟨B,0,none⟩).run prog w=.ok (.agg #[x0,x1,x2]) w:=by
 have hc:∀ (k:Nat) (v:Value),#[x0,x1,x2][k]? = some v->w.cell? ⟨B,k,none⟩=some v:=λk v hk=>by simp only[World.cell?,hb];simpa using hk
 obtain⟨i,i1,i2⟩:∃ i,prog.info? 37 = some i/\i.size=3:=by
  cases h':prog.info? 37 with
  | none =>
   have:(prog.info? 37).map (·.size)=some 3:=by kernel_rfl
   rw[h']at this;cases this
  | some i =>
   have:(prog.info? 37).map (·.size)=some 3:=by kernel_rfl
   rw[h']at this;exact⟨i,rfl,Option.some.inj this⟩
 simp[loadVar,isAgg,run_underlying underlying37,sizeOf,typeInfo,i1,i2,loadCells,loadCellsFrom,Addr.add,hc 0 x0 rfl,hc 1 x1 rfl,hc 2 x2 rfl]
theorem iR{ctx:dc}{l:List aG}{w:World}{B3 B2:Nat}{x0 x1 x2:Value}(h:af ctx (aH B3 [x0,x1,x2] 37 :: aH B2 [.int .i64 0,.int .i64 0,.slice none 0 0] 37 :: l) w) :
  w.cell? ⟨B3,0,none⟩=some x0/\w.cell? ⟨B3,1,none⟩=some x1/\w.cell? ⟨B3,2,none⟩=some x2/\w.cell? ⟨B2,0,none⟩=some (.int .i64 0)/\w.cell? ⟨B2,1,none⟩=some (.int .i64 0)/\w.cell? ⟨B2,2,none⟩=some (.slice none 0 0)/\w.frozen? ⟨B2,0,none⟩=false/\w.frozen? ⟨B2,1,none⟩=false/\w.frozen? ⟨B2,2,none⟩=false/\
  af ctx l (((w.setCell ⟨B2,0,none⟩ x0).setCell ⟨B2,1,none⟩ x1).setCell ⟨B2,2,none⟩ x2)/\(loadVar 37 ⟨B2,0,none⟩).run prog (((w.setCell ⟨B2,0,none⟩ x0).setCell ⟨B2,1,none⟩ x1).setCell ⟨B2,2,none⟩ x2)=.ok (.agg #[x0,x1,x2]) (((w.setCell ⟨B2,0,none⟩ x0).setCell ⟨B2,1,none⟩ x1).setCell ⟨B2,2,none⟩ x2):=by
 have b3:=ax h;have h8:=bU h;have b2:=ax h8;have h9:=bR 2 x2 (bR 1 x1 (bR 0 x0 h8));refine⟨cell_of b3 0 _ rfl,cell_of b3 1 _ rfl,cell_of b3 2 _ rfl,cell_of b2 0 _ rfl,cell_of b2 1 _ rfl,cell_of b2 2 _ rfl,cB b2 0,cB b2 1,cB b2 2,?_,wl _ _ _ _ _ (ax h9)⟩;obtain⟨F',m1,m2,m3⟩:=h9.ex;obtain⟨G1,G2,q1,q2,q3,q4⟩:=cL (l:=[_,_]) m1;exact⟨G2,q2,m2,λj hj=>m3 j ((q4 j).2 (.inr hj))⟩
theorem oT(n:Nat){c:aP}{p:Nat}(hp:p<c.n){u:gy}(hx:oE c u){bp:Nat}{F:Nat->Prop}{w:World}(h:cG [gA c p bp u] F w):CallsIn Fence.wide n prog 66 #[.pointer (some ⟨bp,0,none⟩)] w λe w'=>∃ v,e=.returned v/\af ⟨w,F⟩ [cf v (if u.st=0 then u.hs else []),gA c p bp u] w' :=
 callsIn_wide.2 ((GH hp hx h).mono (λe w' ⟨v,_,_,k1,k2⟩=>⟨v,k1,k2⟩))
set_option maxHeartbeats 2000000 in
theorem AL(m:Nat){b:RB}{c:aP}{x:aE}{es:Nat->dm}{p:Nat}{o:bX}{M:bG}(hp:p<c.n)(ho:x.ow[p]? = some o)(hM:o.dx=some M)(hok:li c p M)(hm:bT c x.m){F:Nat->Prop}{w:World}(h:cG (aF b c x es) F w) :
  CallsIn Fence.wide m prog 38 #[.pointer (some ⟨b.bo,p*7,none⟩)] w λe w'=>∃ v,aV v=true/\e=.returned (.agg #[.int .i64 o.kd,.int .i64 M.got,v])/\af ⟨w,F⟩ (aF b c x es++[cf v M.over]) w':=by
 refine callsIn_of_wp func38 rfl trivial ?_ rfl;simp only[ntmps38,List.size_toArray,List.length_cons,List.length_nil,Nat.reduceAdd,Nat.reduceSub,Array.replicate_succ,Array.replicate_zero,List.push_toArray,List.append_toArray,List.nil_append,List.cons_append];have hst:af ⟨w,F⟩ (aF b c x es++[]) w:=by rw[List.append_nil];exact af.start h
 obtain⟨mv,hmv⟩:∃ mv,(es p).mv=mv:=⟨_,rfl⟩;have e0:w.cell? ⟨b.bo,p*7,none⟩=some (.int .i64 o.kd):=jY (j:=0) hp ho (iQ hst) rfl;have e3:w.cell? ⟨b.bo,p*7+3,none⟩=some mv:=jY hp ho (iQ hst) (by rw[← hmv];rfl);have hlt:p<x.ow.length:=(List.getElem?_eq_some_iff.1 ho).1;obtain⟨W1,hW1⟩:∃ W1,w.alloc (.cells #[.int .i64 0,.int .i64 0,.slice none 0 0] 37)=W1:=⟨_,rfl⟩;obtain⟨W2,hW2⟩:∃ W2,W1.alloc (.cells #[.int .i64 0,.int .i64 0,.slice none 0 0] 37)=W2:=⟨_,rfl⟩;have h1:af ⟨w,F⟩ (aH w.heap.size [.int .i64 0,.int .i64 0,.slice none 0 0] 37 :: aF b c x es) W1:=by rw[← hW1];exact eT _ _ (af.start h)
 have h2:af ⟨w,F⟩ (aH W1.heap.size [.int .i64 0,.int .i64 0,.slice none 0 0] 37 :: aH w.heap.size [.int .i64 0,.int .i64 0,.slice none 0 0] 37 :: aF b c x es) W2:=by rw[← hW2];exact eT _ _ h1
 have hB1:Below w.heap.size w W1:=by rw[← hW1];exact(Below.refl _ w).alloc (Nat.le_refl _) _
 have hB2:Below w.heap.size w W2:=by rw[← hW2];exact hB1.alloc hB1.size _
 have d0:W1.cell? ⟨b.bo,p*7,none⟩=some (.int .i64 o.kd):=yY hB1 e0;have d3:W2.cell? ⟨b.bo,p*7+3,none⟩=some mv:=yY hB2 e3;have hb2:=ax h2;have f0:W2.frozen? ⟨W1.heap.size,0,none⟩=false:=cB hb2 0;have f1:W2.frozen? ⟨W1.heap.size,1,none⟩=false:=cB hb2 1;have f2:W2.frozen? ⟨W1.heap.size,2,none⟩=false:=cB hb2 2;have q0:W2.cell? ⟨W1.heap.size,0,none⟩=some (.int .i64 0):=cell_of hb2 0 _ rfl;have q1:W2.cell? ⟨W1.heap.size,1,none⟩=some (.int .i64 0):=cell_of hb2 1 _ rfl;have q2:W2.cell? ⟨W1.heap.size,2,none⟩=some (.slice none 0 0):=cell_of hb2 2 _ rfl;clear e0 e3;obtain⟨W3,hW3⟩:∃ W3,((W2.setCell ⟨W1.heap.size,0,none⟩ (.int .i64 o.kd)).setCell ⟨W1.heap.size,1,none⟩ (.int .i64 (-1))).setCell ⟨W1.heap.size,2,none⟩ (.slice none 0 0)=W3:=⟨_,rfl⟩;have h3:af ⟨w,F⟩ (aH W1.heap.size [.int .i64 o.kd,.int .i64 (-1),.slice none 0 0] 37 :: aH w.heap.size [.int .i64 0,.int .i64 0,.slice none 0 0] 37 :: aF b c x es) W3:=by
  rw[← hW3];exact bR 2 (.slice none 0 0) (bR 1 (.int .i64 (-1)) (bR 0 (.int .i64 o.kd) h2))
 have Dx:∀ (r:List aG) (w':World),af ⟨w,F⟩ (r++aF b c x es) w'->w'.cell? ⟨b.bo,p*7+3,none⟩=some mv:=λr w' hh=>jY hp ho (iQ (ay List.perm_append_comm hh)) (by rw[← hmv];rfl)
 have c3:W3.cell? ⟨b.bo,p*7+3,none⟩=some mv:=Dx [_,_] _ h3;have fin:∀ (v:Value) (l:List Int) (w':World),af ⟨w,F⟩ ([cf v l]++aF b c x es) w'->af ⟨w,F⟩ (aF b c x es++[cf v l]) w':=λv l w' hh=>ay List.perm_append_comm hh
 obtain⟨F2,k2,back⟩:=gG (r:=[aH W1.heap.size [.int .i64 o.kd,.int .i64 (-1),.slice none 0 0] 37,aH w.heap.size [.int .i64 0,.int .i64 0,.slice none 0 0] 37]) hp ho h3;rw[hmv,hM]at k2 back;cases M with
 | put u =>
  obtain⟨bp,rfl,hp1⟩:=oQ (af.start k2);obtain⟨F3,k3,lZ⟩:=eA hp1;have a1:=KK bp;have a2:=NQ bp
  gi_wp2
  refine⟨trivial,λh=>by simp[Fence.wide]at h,(oT (m-1) hp hok k3).mono ?_⟩;rintro e w4 ⟨v,rfl,hh⟩;have h6:=back [cf v (bG.put u).over] w4 (qB ((lZ _ _ hh).sel [1,0]));obtain⟨a,ca,rfl⟩:=c8 (bk (h6.sel [2]));have g0:w4.frozen? ⟨W1.heap.size,2,none⟩=false:=cB (ax h6) 2;have c0:w4.cell? ⟨W1.heap.size,2,none⟩=some (.slice none 0 0):=cell_of (ax h6) 2 _ rfl;have h7:=bR 2 (.slice a (bG.put u).over.length ca) h6;obtain⟨w5,NW⟩:∃ w5,w4.setCell ⟨W1.heap.size,2,none⟩ (.slice a (bG.put u).over.length ca)=w5:=⟨_,rfl⟩;rw[NW]at h7;have d3:=Dx [_,_,_] w5 h7;obtain⟨m0,m1,m2,n0,n1,n2,l0,l1,l2,hfin,hload⟩:=iR h7
  gi_wp2
  exact kb rfl rfl rfl hload ⟨_,rfl,rfl,fin _ _ _ hfin⟩
 | get u =>
  obtain⟨bp,rfl,hp1⟩:=oR (af.start k2);obtain⟨F3,k3,lZ⟩:=eA hp1;have a1:=KM bp;have a2:=NT bp;have a3:=NS bp;have a4:=yT bp W3
  gi_wp2
  refine⟨trivial,λh=>by simp[Fence.wide]at h,(callsIn_wide.2 (BK hp k3)).mono ?_⟩;rintro e w4 ⟨rfl,hh⟩;have h6:=back [] w4 (qC (lZ _ _ hh));have c0:w4.cell? ⟨W1.heap.size,1,none⟩=some (.int .i64 (-1)):=cell_of (ax h6) 1 _ rfl;have g0:w4.frozen? ⟨W1.heap.size,1,none⟩=false:=cB (ax h6) 1;have d4:=Dx [_,_] w4 h6;cases hhas:u.has with
  | false =>
   obtain⟨m0,m1,m2,n0,n1,n2,l0,l1,l2,hfin,hload⟩:=iR h6;have hg:(bG.get u).got = -1:=by simp[bG.got,hhas]
   gi_wp2
   refine kb rfl rfl rfl hload ⟨_,rfl,by rw[hg],?_⟩;exact fin (.slice none 0 0) [] _ (hfin.eC (e := 3) (sz:=1))
  | true =>
   have h7:=bR 1 (.int .i64 u.sn) h6;obtain⟨w5,NW⟩:∃ w5,w4.setCell ⟨W1.heap.size,1,none⟩ (.int .i64 u.sn)=w5:=⟨_,rfl⟩;rw[NW]at h7;have d3:=Dx [_,_] w5 h7;obtain⟨m0,m1,m2,n0,n1,n2,l0,l1,l2,hfin,hload⟩:=iR h7;have hg:(bG.get u).got=u.sn:=by simp[bG.got,hhas]
   gi_wp2
   refine kb rfl rfl rfl hload ⟨_,rfl,by rw[hg],?_⟩;exact fin (.slice none 0 0) [] _ (hfin.eC (e := 3) (sz:=1))
 | steal v u =>
  obtain⟨bp,rfl,hp1⟩:=iP (af.start k2);obtain⟨F3,k3,lZ⟩:=eA hp1;have a1:=KN bp;have a2:=NV bp;have a3:=KO bp;have a4:=tA bp W3
  gi_wp2
  refine⟨trivial,λh=>by simp[Fence.wide]at h,(callsIn_wide.2 (Dh hp hok.2.1 hok.1 k3)).mono ?_⟩;rintro e w4 ⟨rfl,hh⟩;have h6:=back [] w4 (j_ (lZ _ _ hh));have c0:w4.cell? ⟨W1.heap.size,1,none⟩=some (.int .i64 (-1)):=cell_of (ax h6) 1 _ rfl;have g0:w4.frozen? ⟨W1.heap.size,1,none⟩=false:=cB (ax h6) 1;have d4:=Dx [_,_] w4 h6;have tail:∀ (g:Int) (w5:World),af ⟨w,F⟩ (aH W1.heap.size [.int .i64 o.kd,.int .i64 g,.slice none 0 0] 37 :: aH w.heap.size [.int .i64 0,.int .i64 0,.slice none 0 0] 37 :: aF b c x es) w5->
    CallsIn Fence.wide (m-1) prog 70 #[.pointer (some ⟨bp,0,none⟩)] w5 λe w6=>∃ a ca,e=.returned (.slice a (bG.steal v u).over.length ca)/\af ⟨w,F⟩ (aH W1.heap.size [.int .i64 o.kd,.int .i64 g,.slice none 0 0] 37 :: aH w.heap.size [.int .i64 0,.int .i64 0,.slice none 0 0] 37 :: cf (.slice a (bG.steal v u).over.length ca) (bG.steal v u).over::aF b c x es) w6:=λg w5 h5=>by
   obtain⟨F4,k4,KP⟩:=gG (r:=[aH W1.heap.size [.int .i64 o.kd,.int .i64 g,.slice none 0 0] 37,aH w.heap.size [.int .i64 0,.int .i64 0,.slice none 0 0] 37]) hp ho h5;rw[hmv,hM]at k4 KP;obtain⟨bp',e',Sv⟩:=iP (af.start k4);cases e';obtain⟨F5,k5,NY⟩:=eA Sv;refine(callsIn_wide.2 (rS hp hok.2.1 hok.1 hm k5)).mono ?_;rintro e w6 ⟨u',lu,rfl,QF⟩;have h7:=KP [cf u' u.left] w6 (j_ ((NY _ _ QF).sel [1,0]));obtain⟨a,ca,rfl⟩:=c8 (bk (h7.sel [2]));exact⟨a,ca,rfl,h7⟩
  cases NZ:u.got.2 with
  | false =>
   have hg:(bG.steal v u).got = -1:=by simp[bG.got,NZ]
   gi_wp2
   refine⟨trivial,λh=>by simp[Fence.wide]at h,(tail (-1) w4 h6).mono ?_⟩;rintro e w6 ⟨a,ca,rfl,h7⟩;have g1:w6.frozen? ⟨W1.heap.size,2,none⟩=false:=cB (ax h7) 2;have c1:w6.cell? ⟨W1.heap.size,2,none⟩=some (.slice none 0 0):=cell_of (ax h7) 2 _ rfl;have h8:=bR 2 (.slice a (bG.steal v u).over.length ca) h7;obtain⟨w7,hw7⟩:∃ w7,w6.setCell ⟨W1.heap.size,2,none⟩ (.slice a (bG.steal v u).over.length ca)=w7:=⟨_,rfl⟩;rw[hw7]at h8;obtain⟨m0,m1,m2,n0,n1,n2,l0,l1,l2,hfin,hload⟩:=iR h8
   gi_wp2
   exact kb rfl rfl rfl hload ⟨_,rfl,by rw[hg],fin _ _ _ hfin⟩
  | true =>
   have hg:(bG.steal v u).got=u.got.1:=by simp[bG.got,NZ]
   have h7:=bR 1 (.int .i64 u.got.1) h6;obtain⟨w5,NW⟩:∃ w5,w4.setCell ⟨W1.heap.size,1,none⟩ (.int .i64 u.got.1)=w5:=⟨_,rfl⟩;rw[NW]at h7;have d3:=Dx [_,_] w5 h7
   gi_wp2
   refine⟨trivial,λh=>by simp[Fence.wide]at h,(tail u.got.1 w5 h7).mono ?_⟩;rintro e w6 ⟨a,ca,rfl,h7⟩;have g1:w6.frozen? ⟨W1.heap.size,2,none⟩=false:=cB (ax h7) 2;have c1:w6.cell? ⟨W1.heap.size,2,none⟩=some (.slice none 0 0):=cell_of (ax h7) 2 _ rfl;have h8:=bR 2 (.slice a (bG.steal v u).over.length ca) h7;obtain⟨w7,hw7⟩:∃ w7,w6.setCell ⟨W1.heap.size,2,none⟩ (.slice a (bG.steal v u).over.length ca)=w7:=⟨_,rfl⟩;rw[hw7]at h8;obtain⟨m0,m1,m2,n0,n1,n2,l0,l1,l2,hfin,hload⟩:=iR h8
   gi_wp2
   exact kb rfl rfl rfl hload ⟨_,rfl,by rw[hg],fin _ _ _ hfin⟩
end Go.Proofs.YtkmccgombmogmaaGreat
