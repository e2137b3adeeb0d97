/- Part of a proof: see the last text. -/
import Derived.Test.YtkmccgombmogmaaGreatZf25
set_option linter.unusedSimpArgs false
set_option linter.unusedVariables false
namespace Go.Proofs.YtkmccgombmogmaaGreat
open Go.Ev Go.Proofs.Tryz
open Go.RowKit
set_option maxRecDepth 8000
theorem uT{P:Program}{w:World}{o:Oper}{a:Act}{K:Act->World->Prop}{Q:Exit->Act->World->Prop}(rv:Operand)(name:String)(args:Array Operand)(ts:Array TypeId)(hop:o.op=Op.call { callee:=Callee.invoke rv name,args:=args,argTypes:=ts }){f:FuncId}{ar:Array Value}{R:Ending->World->Prop}
  (hrun:(callMethod (a.eval rv) name (args.map a.eval)).run P w=.ok (.enter f ar) w) (hC:Calls P f ar w R)
  (hK:∀ e w',R e w'->∃ v,e=.returned v/\K (a.put o.dst v) w'):o.wp P a w K Q:=by
 unfold Oper.wp;have e:(execOp a.eval o).run P w=.ok (.enter f ar) w:=by
  unfold execOp;simp only[hop,resolve,Sem.run_bind,Sem.run_pure,Result.andThen_ok,invoke];have e1:(#[a.eval rv]++args.map a.eval)[0]? = some (a.eval rv):=by
   rw[Array.getElem?_append_left (by simp)];rfl
  have e2:(#[a.eval rv]++args.map a.eval).extract 1 (#[a.eval rv]++args.map a.eval).size=args.map a.eval:=by
   rw[Array.extract_append];simp
  rw[e1,e2];exact hrun
 rw[e];refine hC.mono (λe w' hr=>?_);obtain⟨v,rfl,k⟩:=hK e w' hr;exact k
section
variable(b:Nat)(ar:Array Value)(w:World)
theorem zj:(callMethod (.iface 81 (.pointer (some ⟨b,0,none⟩))) "Step" ar).run prog w=.ok (.enter 138 (#[.pointer (some ⟨b,0,none⟩)]++ar)) w:=by kernel_rfl
theorem zk:(callMethod (.iface 83 (.pointer (some ⟨b,0,none⟩))) "Step" ar).run prog w=.ok (.enter 161 (#[.pointer (some ⟨b,0,none⟩)]++ar)) w:=by kernel_rfl
theorem tW:(callMethod (.iface 85 (.pointer (some ⟨b,0,none⟩))) "Step" ar).run prog w=.ok (.enter 166 (#[.pointer (some ⟨b,0,none⟩)]++ar)) w:=by kernel_rfl
end
section
variable(b:Nat)(w:World)
theorem tX:(method 343 81 (.pointer (some ⟨b,0,none⟩)) "Hands").run prog w=.ok (137,.pointer (some ⟨b,0,none⟩)) w:=by kernel_rfl
theorem tY:(method 343 83 (.pointer (some ⟨b,0,none⟩)) "Hands").run prog w=.ok (160,.pointer (some ⟨b,0,none⟩)) w:=by kernel_rfl
theorem zl:(method 343 83 (.pointer (some ⟨b,0,none⟩)) "Got").run prog w=.ok (68,.pointer (some ⟨b,0,none⟩)) w:=by kernel_rfl
theorem qE:(method 343 85 (.pointer (some ⟨b,0,none⟩)) "Hands").run prog w=.ok (99,.pointer (some ⟨b,0,none⟩)) w:=by kernel_rfl
theorem tZ:(method 343 85 (.pointer (some ⟨b,0,none⟩)) "Got").run prog w=.ok (165,.pointer (some ⟨b,0,none⟩)) w:=by kernel_rfl
end
def fh(f:Nat->List Value)(n:Nat):List Value:=(List.range n).flatMap f
theorem i_{f:Nat->List Value}(hf:∀ q,(f q).length=7)(n:Nat):(fh f n).length=n*7:=by
 induction n with
 | zero=>rfl
 | succ n ih =>
  unfold fh at ih ⊢;rw[List.range_succ,List.flatMap_append,List.length_append,ih];simp[hf];omega
theorem lx(f:Nat->List Value)(n:Nat):fh f (n+1)=fh f n++f n:=by
 unfold fh;rw[List.range_succ,List.flatMap_append];simp
theorem DX{f:Nat->List Value}(hf:∀ q,(f q).length=7){n p j:Nat}(hp:p<n)(hj:j<7):(fh f n)[p*7+j]? = (f p)[j]?:=by
 induction n with
 | zero=>omega
 | succ n ih =>
  rw[lx]
  by_cases h:p<n
  ·rw[List.getElem?_append_left (by rw[i_ hf];omega),ih h]
  ·obtain rfl:p=n:=by omega
   rw[List.getElem?_append_right (by rw[i_ hf];omega),i_ hf,show p*7+j-p*7=j by omega]
theorem mr{f g:Nat->List Value}{n:Nat}(h:∀ q,q<n->f q=g q):fh f n=fh g n:=by
 unfold fh;rw[List.flatMap_def,List.flatMap_def]
 congr 1
 apply List.map_congr_left;intro q hq;exact h q (List.mem_range.1 hq)
theorem DY{f:Nat->List Value}(hf:∀ q,(f q).length=7){n p j:Nat}(hp:p<n)(hj:j<7)(v:Value):(fh f n).set (p*7+j) v=fh (λq=>if q=p then (f q).set j v else f q) n:=by
 induction n with
 | zero=>omega
 | succ n ih =>
  rw[lx,lx]
  by_cases h:p<n
  ·rw[List.set_append_left _ _ (by rw[i_ hf];omega),ih h,if_neg (by omega)]
  ·obtain rfl:p=n:=by omega
   rw[List.set_append_right _ _ (by rw[i_ hf];omega),i_ hf,show p*7+j-p*7=j by omega,if_pos rfl]
   congr 1
   exact mr (λq hq=>by rw[if_neg (by omega)])
def fm(c:aU)(p:Nat)(mv:Value):Option bV->aF
 | none=>Dw (λ_:Unit=>mv=.nilIface) (λ_=>J2)
 | some (.put u)=>Dw (λbp:Nat=>mv=.iface 81 (.pointer (some ⟨bp,0,none⟩))) (λbp=>fL c p bp u)
 | some (.get u)=>Dw (λbp:Nat=>mv=.iface 83 (.pointer (some ⟨bp,0,none⟩))) (λbp=>iR c p bp u)
 | some (.steal v u)=>Dw (λbp:Nat=>mv=.iface 85 (.pointer (some ⟨bp,0,none⟩))) (λbp=>c8 c p v bp u)
structure dC where
 d:Nat
 mv:Value
 rv:Value
def Bh(c:aU)(p:Nat)(o:ct)(e:dC):aF:=Ge [ib c e.d o.dq,fm c p e.mv o.dE,bJ e.rv o.rs]
def ownRow(o:ct)(e:dC):List Value:=[.int .i64 o.kd,.int .i64 o.cv,.int .i64 o.cg,e.mv,.pointer (some ⟨e.d,0,none⟩),.bool o.gn,e.rv]
def rowAt(l:List ct)(es:Nat->dC)(q:Nat):List Value:=match l[q]? with | some o=>ownRow o (es q) | none=>List.replicate 7 undef
theorem uU(l:List ct)(es:Nat->dC)(q:Nat):(rowAt l es q).length=7:=by
 unfold rowAt;cases l[q]? <;> rfl
structure RB where
 br:Nat
 bm:Nat
 bo:Nat
 cp:Nat
def eB(b:RB)(c:aU)(x:aI):aF:=aE b.br [.int .i64 (c.n:Int),.int .i64 (c.q:Int),.int .i64 c.g,.int .i64 c.m,.int .i64 c.t,.int .i64 c.s,.pointer (some ⟨b.bm,0,none⟩),.slice (some ⟨b.bo,0,none⟩) c.n b.cp,.int .i64 x.pts,.bool x.bad] 73
def fq(b:RB)(c:aU)(l:List ct)(es:Nat->dC):aF:=bT 80 7 (.slice (some ⟨b.bo,0,none⟩) c.n b.cp) c.n (fh (rowAt l es) c.n)
def DZ(c:aU)(l:List ct)(es:Nat->dC)(q:Nat):aF:=match l[q]? with | some o=>Bh c q o (es q) | none=>J2
def db(c:aU)(l:List ct)(es:Nat->dC):List aF:=(List.range c.n).map (DZ c l es)
def gq(b:RB)(c:aU)(x:aI)(es:Nat->dC):List aF:=[eB b c x,aN b.bm x.m,fq b c x.ow es]
def aB(b:RB)(c:aU)(x:aI)(es:Nat->dC):List aF:=gq b c x es++db c x.ow es
def cj(b:RB)(c:aU)(x:aI):aF:=Dw (λ_:Nat->dC=>True) (λes=>Ge (aB b c x es))
section
variable{ctx:dt}{w:World}{l:List aF}{b:RB}{c:aU}{x:aI}{es:Nat->dC}
theorem pZ(h:af ctx (cj b c x::l) w):∃ es,af ctx (aB b c x es++l) w:=by
 obtain⟨es,_,hh⟩:=h.qD;exact⟨es,hh.open⟩
theorem da(h:af ctx (aB b c x es++l) w):af ctx (cj b c x::l) w:=af.r8 es trivial (af.shut h)
end
def jT(es:Nat->dC)(p:Nat)(e:dC):Nat->dC:=λq=>if q=p then e else es q
theorem eO(es:Nat->dC)(p:Nat)(e:dC):jT es p e p=e:=if_pos rfl
theorem qV{es:Nat->dC}{p q:Nat}{e:dC}(h:q≠p):jT es p e q=es q:=if_neg h
theorem eR(es:Nat->dC)(p:Nat):jT es p (es p)=es:=by
 funext q
 unfold jT
 split
 ·next h=>rw[h]
 ·rfl
section
variable{ctx:dt}{w:World}{r:List aF}{b:RB}{c:aU}{l:List ct}{es:Nat->dC}{p:Nat}{o o':ct}{e':dC}
theorem zm(hp:p<c.n)(ho:l[p]? = some o):(db c l es)[p]? = some (Bh c p o (es p)):=by
 unfold db DZ;rw[List.getElem?_map,List.getElem?_range hp];simp[ho]
theorem zn:(db c l es).length=c.n:=by simp[db]
theorem HT(hp:p<c.n)(hl:p<l.length):(db c l es).set p (Bh c p o' e')=db c (l.set p o') (jT es p e'):=by
 apply List.ext_getElem?;intro q
 by_cases h:q=p
 ·subst h
  rw[List.getElem?_set_self (by rw[zn];exact hp),zm hp (List.getElem?_set_self hl),eO]
 ·rw[List.getElem?_set_ne (Ne.symm h)]
  unfold db DZ;rw[List.getElem?_map,List.getElem?_map];cases hr:(List.range c.n)[q]? with
  | none=>rfl
  | some q' =>
   have:q'=q:=by
    have h1:=(List.getElem?_eq_some_iff.1 hr).2;simpa using h1.symm
   subst this;simp only[Option.map_some,List.getElem?_set_ne (Ne.symm h),qV h]
theorem Cz(hp:p<c.n)(ho:l[p]? = some o)(h:af ctx (db c l es++r) w):af ctx (Bh c p o (es p)::((db c l es).eraseIdx p++r)) w:=HK (zm hp ho) h
theorem HU(hp:p<c.n)(hl:p<l.length)(h:af ctx (Bh c p o' e'::((db c l es).eraseIdx p++r)) w):af ctx (db c (l.set p o') (jT es p e')++r) w:=by
 have:=Ks (l:=db c l es) (by rw[zn];exact hp) h
 rwa [HT hp hl]at this
theorem HV(hl:p<l.length)(hp:p<c.n)(ho:l[p]? = some o)(j:Nat)(hj:j<7)(v:Value)(h:(ownRow o (es p)).set j v=ownRow o' e'):(fh (rowAt l es) c.n).set (p*7+j) v=fh (rowAt (l.set p o') (jT es p e')) c.n:=by
 rw[DY (uU l es) hp hj];apply mr;intro q hq
 by_cases e:q=p
 ·subst e
  rw[if_pos rfl];unfold rowAt;rw[ho,List.getElem?_set_self hl,eO];exact h
 ·rw[if_neg e]
  unfold rowAt;rw[List.getElem?_set_ne (Ne.symm e),qV e]
theorem HW(hl:p<l.length)(hp:p<c.n)(ho:l[p]? = some o)(j:Nat)(hj:j<7)(v:Value)(hr:(ownRow o (es p)).set j v=ownRow o' e')(h:af ctx (fq b c l es::r) w):af ctx (fq b c (l.set p o') (jT es p e')::r) (w.setCell ⟨b.bo,p*7+j,none⟩ v):=by
 have:=uM (i:=p*7+j) v (by omega) h;rw[Nat.zero_add]at this;unfold fq;rw[← HV hl hp ho j hj v hr];exact this
theorem ja(hp:p<c.n)(ho:l[p]? = some o)(h:af ctx (fq b c l es::r) w){j:Nat}{v:Value}(hj:(ownRow o (es p))[j]? = some v):w.cell? ⟨b.bo,p*7+j,none⟩=some v:=by
 have TJ:j<7:=(List.getElem?_eq_some_iff.1 hj).1;obtain⟨_,⟨h0,_⟩ | ⟨b',off,c',e,_,hc⟩⟩:=aZ h
 ·have:=c.nb
  omega
 ·cases e
  have:=hc (p*7+j) (by omega);rw[Nat.zero_add]at this;rw[this,DX (uU l es) hp TJ];unfold rowAt;rw[ho];exact hj
end
def CA(b:RB)(c:aU)(x:aI):Array Value:=#[.int .i64 (c.n:Int),.int .i64 (c.q:Int),.int .i64 c.g,.int .i64 c.m,.int .i64 c.t,.int .i64 c.s,.pointer (some ⟨b.bm,0,none⟩),.slice (some ⟨b.bo,0,none⟩) c.n b.cp,.int .i64 x.pts,.bool x.bad]
theorem ku(m:Nat){b:RB}{c:aU}{x:aI}{w:World}(hb:w.heap[b.br]? = some (Obj.cells (CA b c x) 73 (0,0)))(p:Int) :
  CallsIn Fence.wide m prog 32 #[.pointer (some ⟨b.br,0,none⟩),.int .i64 p] w λe w'=>e=.returned (.bool (decide (0<=p/\p<(c.n:Int))))/\w'=w:=by
 refine callsIn_of_wp func32 rfl trivial ?_ rfl;simp only[ntmps32,List.size_toArray,List.length_cons,List.length_nil,Nat.reduceAdd,Nat.reduceSub,Array.replicate_succ,Array.replicate_zero,List.push_toArray,List.append_toArray,List.nil_append,List.cons_append];have e7:w.cell? ⟨b.br,7,none⟩=some (.slice (some ⟨b.bo,0,none⟩) c.n b.cp):=cell_of hb 7 _ rfl;obtain⟨bz,hbz⟩:∃ bz,decide (0<=p/\p<(c.n:Int))=bz:=⟨_,rfl⟩;rw[hbz]
 by_cases h1:0<=p
 ·have hg:p≥0:=h1
  by_cases h2:p<(c.n:Int)
  ·obtain rfl:bz=true:=by rw[← hbz];simp[h1,h2]
   clear hbz
   gi_wp2
   exact bodyPost_ret (results_tmp rfl _ _ _) rfl ⟨rfl,rfl⟩
  ·obtain rfl:bz=false:=by rw[← hbz];simp[h2]
   clear hbz
   gi_wp2
   exact bodyPost_ret (results_tmp rfl _ _ _) rfl ⟨rfl,rfl⟩
 ·have hg:¬ p≥0:=h1
  obtain rfl:bz=false:=by rw[← hbz];simp[h1]
  clear hbz
  gi_wp2
  exact bodyPost_ret (results_tmp rfl _ _ _) rfl ⟨rfl,rfl⟩
def Rw(mv:Value)(bz:Bool):Prop:=(mv=.nilIface/\bz=false)\/∃ t v,mv=.iface t v/\bz=true
theorem wV(m:Nat){b:RB}{c:aU}{x:aI}{w:World}(hb:w.heap[b.br]? = some (Obj.cells (CA b c x) 73 (0,0))){p:Nat}(hp:p<c.n){mv:Value}{bz:Bool}(hc:w.cell? ⟨b.bo,p*7+3,none⟩=some mv)(hm:Rw mv bz) :
  CallsIn Fence.wide m prog 12 #[.pointer (some ⟨b.br,0,none⟩),.int .i64 (p:Int)] w λe w'=>e=.returned (.bool bz)/\w'=w:=by
 refine callsIn_of_wp func12 rfl trivial ?_ rfl;simp only[ntmps12,List.size_toArray,List.length_cons,List.length_nil,Nat.reduceAdd,Nat.reduceSub,Array.replicate_succ,Array.replicate_zero,List.push_toArray,List.append_toArray,List.nil_append,List.cons_append];have e7:w.cell? ⟨b.br,7,none⟩=some (.slice (some ⟨b.bo,0,none⟩) c.n b.cp):=cell_of hb 7 _ rfl;have P0:(p:Int)<(c.n:Int):=by omega
 have ed:decide (0<=(p:Int)/\(p:Int)<(c.n:Int))=true:=by simp[hp]
 gi_wp2
 refine⟨trivial,λh=>by simp[Fence.wide]at h,(ku (m-1) hb (p:Int)).mono ?_⟩;rintro e w' ⟨rfl,rfl⟩;rw[ed];rcases hm with ⟨rfl,rfl⟩ | ⟨t,v,rfl,rfl⟩
 ·gi_wp2
  exact bodyPost_ret (results_tmp rfl _ _ _) rfl ⟨rfl,rfl⟩
 ·gi_wp2
  exact bodyPost_ret (results_tmp rfl _ _ _) rfl ⟨rfl,rfl⟩
theorem KD(m:Nat){bm:Nat}{mm:bO}{F:Nat->Prop}{w:World}(hx:mm.cells.length<=1000000)(h:cL [aN bm mm] F w) :
  CallsIn Fence.wide m prog 39 #[.pointer (some ⟨bm,0,none⟩)] w λe w'=>∃ v,aT v=true/\e=.returned v/\af ⟨w,F⟩ [bT 51 1 v mm.cells.length (iL mm.cells),aN bm mm] w' :=
 callsIn_wide.2 ((Gu hx h).mono (λe w' ⟨v,cd,_,h1,h2⟩=>⟨v,dm h2,h1,h2⟩))
theorem zp{n:Nat}{a:Option Addr}{k:Nat}{xs:List Int}{w:World}(h:iM 1 (.slice a n k) n (iL xs) w){j:Nat}(hj:j<n):∃ b off,a=some ⟨b,off,none⟩/\w.cell? ⟨b,off+j,none⟩=some (.int .u64 (xs.getD j 0)):=by
 obtain⟨hl,⟨h0,_⟩ | ⟨b,off,c,hv,_,hc⟩⟩:=h
 ·omega
 ·cases hv
  refine⟨b,off,rfl,?_⟩;rw[hc j (by omega)];have:j<xs.length:=by simp[iL]at hl;omega
  simp[iL,List.getD_eq_getElem?_getD,this]
theorem HX{n:Nat}{a:Option Addr}{k:Nat}{xs:List Int}{w:World}(h:iM 1 (.slice a n k) n (wS xs) w){j:Nat}(hj:j<n):∃ b off,a=some ⟨b,off,none⟩/\w.cell? ⟨b,off+j,none⟩=some (.int .u32 (xs.getD j 0)):=by
 obtain⟨hl,⟨h0,_⟩ | ⟨b,off,c,hv,_,hc⟩⟩:=h
 ·omega
 ·cases hv
  refine⟨b,off,rfl,?_⟩;rw[hc j (by omega)];have:j<xs.length:=by simp[wS]at hl;omega
  simp[wS,List.getD_eq_getElem?_getD,this]
theorem HY{w:World}{n k:Nat}{v:Value}{l:List Int}(h:w.ownsRow n 95 1 v k (wS l)):iM 1 v k (wS l) w:=by
 refine⟨h.1,?_⟩;have h0:=h;rcases h.2 with ⟨rfl,e⟩ | ⟨g,cap,cur,rfl,_,hg,hcap,_⟩
 ·exact .inl ⟨e,_,_,rfl⟩
 ·refine .inr ⟨g,0,cap,rfl,⟨(Array.getElem?_eq_some_iff.1 hg).1,hcap⟩,λj hj=>?_⟩
  have hj':j<(wS l).length:=by rw[h0.1];exact hj
  have:=h0.cells (g:=g) rfl j _ (List.getElem?_eq_getElem hj');rw[show(⟨g,0,none⟩:Addr).add j=⟨g,0+j,none⟩ from fC g 0 j]at this;rw[this,List.getElem?_eq_getElem hj']
theorem D0{x:Int} : (eH x).length<=65536/\∀ j,0<=(eH x).getD j 0:=by
 have hzb:=cD x;refine⟨?_,λj=>?_⟩
 ·unfold eH
  split
  ·simp
  ·simp;omega
 ·rw[List.getD_eq_getElem?_getD]
  cases h:(eH x)[j]? with
  | none=>exact Int.le_refl 0
  | some g =>
   have hmem:=List.mem_of_getElem? h;unfold eH at hmem
   split at hmem
   ·cases hmem
   ·obtain⟨i,_,ei⟩:=List.mem_map.1 hmem
    show 0<=g;rw[← ei];exact Int.emod_nonneg _ (by decide)
set_option maxHeartbeats 4000000 in
theorem KE(m:Nat){b:RB}{c:aU}{x:aI}{p:Nat}(hp:p<c.n)(hm:bY c x.m){F:Nat->Prop}{w:World}(h:cL [eB b c x,aN b.bm x.m] F w) :
  CallsIn Fence.wide m prog 15 #[.pointer (some ⟨b.br,0,none⟩),.int .i64 (p:Int)] w λe w'=>∃ v,aT v=true/\e=.returned v/\af ⟨w,F⟩ [bJ v (iD c x.m p),eB b c x,aN b.bm x.m] w':=by
 refine callsIn_of_wp func15 rfl trivial ?_ rfl;simp only[ntmps15,List.size_toArray,List.length_cons,List.length_nil,Nat.reduceAdd,Nat.reduceSub,Array.replicate_succ,Array.replicate_zero,List.push_toArray,List.append_toArray,List.nil_append,List.cons_append];have hb:=aA (af.start h);have e6:w.cell? ⟨b.br,6,none⟩=some (.pointer (some ⟨b.bm,0,none⟩)):=cell_of hb 6 _ rfl;have ed:decide (0<=(p:Int)/\(p:Int)<(c.n:Int))=true:=by simp[hp]
 obtain⟨F1,k1,back⟩:=cU (ctx:=⟨w,F⟩) (rest:=[eB b c x]) [aN b.bm x.m] ((af.start h).sel [1,0]);have hbig:x.m.cells.length<=1000000:=by have:=hm.big;omega
 gi_wp2
 refine⟨trivial,λh=>by simp[Fence.wide]at h,(ku (m-1) hb (p:Int)).mono ?_⟩;rintro e w' ⟨rfl,rfl⟩;rw[ed]
 gi_wp2
 refine⟨trivial,λh=>by simp[Fence.wide]at h,(KD (m-1) hbig k1).mono ?_⟩;rintro e w2 ⟨v,lv,rfl,hh⟩;have hH:=back _ _ hh;have hsl:=aZ hH;obtain⟨a0,c0,rfl⟩:=cS hsl;have hb2:=aA (hH.sel [2]);have e0:w2.cell? ⟨b.br,0,none⟩=some (.int .i64 (c.n:Int)):=cell_of hb2 0 _ rfl;have e1:w2.cell? ⟨b.br,1,none⟩=some (.int .i64 (c.q:Int)):=cell_of hb2 1 _ rfl;have e2:w2.cell? ⟨b.br,2,none⟩=some (.int .i64 c.g):=cell_of hb2 2 _ rfl;have e3:w2.cell? ⟨b.br,3,none⟩=some (.int .i64 c.m):=cell_of hb2 3 _ rfl;have e4:w2.cell? ⟨b.br,4,none⟩=some (.int .i64 c.t):=cell_of hb2 4 _ rfl;have e5:w2.cell? ⟨b.br,5,none⟩=some (.int .i64 c.s):=cell_of hb2 5 _ rfl;obtain⟨L,hL⟩:∃ L,x.m.cells.length=L:=⟨_,rfl⟩;rw[hL]at hsl;have hwl:=hm.fG hp;rw[hL]at hwl ⊢;have TK:((c.word p:Nat):Int)<(L:Int):=by omega
 gi_wp2
 refine⟨trivial,λh=>by simp[Fence.wide]at h,(callsIn_wide.2 (cM c p hp w2)).mono ?_⟩;rintro e w3 ⟨rfl,B3⟩;have hH3:=bH hH B3;obtain⟨ba,oa,rfl,g0⟩:=zp (h_ hsl B3) hwl;have hwd:x.m.cells.getD (c.word p) 0=wd c x.m p:=rfl;rw[hwd]at g0;have R5:fv (wd c x.m p):=(hm.get (hm.fG hp)).2;have hzb:=cD (wd c x.m p)
 gi_wp2
 refine⟨trivial,λh=>by simp[Fence.wide]at h,(callsIn_wide.2 (cG (wd c x.m p) R5 w3)).mono ?_⟩;rintro e w4 ⟨rfl,rfl⟩
 gi_wp2
 refine⟨trivial,λh=>by simp[Fence.wide]at h,(DS (m-1) (wd c x.m p) R5 w3).mono ?_⟩;rintro e w5 ⟨vp,rfl,op,B5⟩;obtain⟨ap,cp,rfl⟩:=Kv op;have hH5:=bH hH3 B5;obtain⟨R6,Rx⟩:=D0 (x:=wd c x.m p);have hrl:iD c x.m p=(eH (wd c x.m p)).map (λi=>IntKind.i64.wrap (ld x.m (c.slot p i))):=rfl;obtain⟨f,hf⟩:∃ f:Int->Int,(λi=>IntKind.i64.wrap (ld x.m (c.slot p i)))=f:=⟨_,rfl⟩;rw[hf]at hrl;obtain⟨PL,TL⟩:∃ PL,eH (wd c x.m p)=PL:=⟨_,rfl⟩;rw[TL]at op R6 Rx hrl ⊢;obtain⟨N,hN⟩:∃ N,PL.length=N:=⟨_,rfl⟩;rw[hN]at op R6 ⊢;have A:Aside (∀ j,0<=PL.getD j 0):=Rx;clear Rx
 gi_wp2
 gi_loopw [4,32] (λq r wr=>∃ k:Nat,r=.int .i64 (k:Int)/\k<=N/\wr.ownsRow w5.heap.size 3 1 q k (aX ((PL.take k).map f))/\Below w5.heap.size w5 wr) (λ_ r _=>N-(intOf r).toNat)
 case atStart=>exact⟨0,rfl,Nat.zero_le _,World.ownsRow_nil _ _ _ _,Below.refl _ _⟩
 case round =>
  obtain⟨k,rfl,hk,ho,hB⟩:=hrel
  by_cases hlt:k<N
  ·have tU:(k:Int)<(N:Int):=by omega
   obtain⟨b1,o1,rfl,g1⟩:=HX (h_ (HY op) hB) hlt;obtain⟨i,hi⟩:∃ i,PL.getD k 0=i:=⟨_,rfl⟩;have hi0:=A.out k;rw[hi]at g1 hi0;have R7:=bH hH5 hB;have hbr:=aA (R7.sel [2]);have e0:wr.cell? ⟨b.br,0,none⟩=some (.int .i64 (c.n:Int)):=cell_of hbr 0 _ rfl;have e1:wr.cell? ⟨b.br,1,none⟩=some (.int .i64 (c.q:Int)):=cell_of hbr 1 _ rfl;have e2:wr.cell? ⟨b.br,2,none⟩=some (.int .i64 c.g):=cell_of hbr 2 _ rfl;have e3:wr.cell? ⟨b.br,3,none⟩=some (.int .i64 c.m):=cell_of hbr 3 _ rfl;have e4:wr.cell? ⟨b.br,4,none⟩=some (.int .i64 c.t):=cell_of hbr 4 _ rfl;have e5:wr.cell? ⟨b.br,5,none⟩=some (.int .i64 c.s):=cell_of hbr 5 _ rfl
   gi_wp2
   refine⟨trivial,λh=>by simp[Fence.wide]at h,(callsIn_wide.2 (iO c p hp i hi0 wr)).mono ?_⟩;rintro e w6 ⟨rfl,B6⟩;have Ry:Below w5.heap.size w5 w6:=hB.trans (B6.mono hB.size);have hsl2:c.slot p i<L:=by rw[← hL];exact hm.iP hp i
   have TM:((c.slot p i:Nat):Int)<(L:Int):=by omega
   obtain⟨b2,o2,hv2,g2⟩:=zp (h_ (h_ (h_ hsl B3) B5) Ry) hsl2;cases hv2;obtain⟨z,hz⟩:∃ z,x.m.cells.getD (c.slot p i) 0=z:=⟨_,rfl⟩;obtain⟨y,hy⟩:∃ y,wrap64 z=y:=⟨_,rfl⟩;have hy2:IntKind.i64.wrap z=y:=by rw[← hy];rw[IntKind.wrap_i64];unfold wrap64;rfl
   rw[hz]at g2;have OU:=HI ho B6;obtain⟨W7,HZ⟩:∃ W7,w6.alloc (.cells #[.int .i64 y] 3)=W7:=⟨_,rfl⟩;have OV:Below w5.heap.size w5 W7:=by rw[← HZ];exact Ry.alloc Ry.size _
   have hsr:iM 1 (.slice (some ⟨w6.heap.size,0,none⟩) 1 1) 1 [.int .i64 y] W7:=⟨rfl,.inr ⟨_,0,1,rfl,⟨by rw[← HZ];simp,Nat.le_refl _⟩,λj hj=>by
    obtain rfl:j=0:=by omega
    rw[← HZ]
    exact cell_of (World.alloc_heap_new w6 _) 0 _ rfl⟩⟩
   have Rz:=OU.alloc (.cells #[.int .i64 y] 3);rw[HZ]at Rz;obtain⟨i0,hi',hz1,hz0,hz2⟩:=b_;obtain⟨v',w8,q1,q2,q3⟩:=wR 35 35 3 underlying35 hi' hz0 hz1 hz2 rfl (by decide) Rz hsr (by simp[Value.oneCell']) (by unfold maxLen;omega) (by omega) OV.size
   gi_wp2_with (gi_at_builtin;refine ce rfl _ _ _ rfl q1 ?_)
   refine⟨⟨k+1,rfl,by omega,?_,pY Rz OV OV.size q3⟩,by simp[intOf];omega⟩;have hky:((PL.take (k+1)).map f)=(PL.take k).map f++[y]:=by
    have hkl:k<PL.length:=by omega
    rw[List.take_add_one,List.getElem?_eq_getElem hkl,List.map_append]
    congr 1
    have:PL[k]=i:=by rw[← hi,List.getD_eq_getElem?_getD,List.getElem?_eq_getElem hkl];rfl
    rw[this,← hy2,← hz,← hf];rfl
   rw[hky];simpa[aX] using q2
  ·obtain rfl:k=N:=by omega
   have tU:¬ ((k:Nat):Int)<(k:Int):=by omega
   have R7:=bH hH5 hB
   gi_wp2
   rw[show PL.take k=PL by rw[← hN,List.take_length]]at ho;have hfin:=(sG hH5 ho hB).sel [0,3,2];have e9:bJ u4 (PL.map f)=bT 3 1 u4 k (aX (PL.map f)):=by
    unfold bJ;rw[List.length_map,hN]
   refine bodyPost_ret (results_tmp rfl _ _ _) rfl ⟨_,dm hfin,rfl,?_⟩
   first | rw[hrl,e9] | rw[e9]
   exact hfin
theorem H0{l m:List aF}(hp:l.Perm m):∀ {F:Nat->Prop} {w:World},cL l F w->cL m F w:=by
 induction hp with
 | nil=>exact λh=>h
 | cons a _ ih =>
  intro F w h;obtain⟨Fa,Fl,k1,k2,k3,k4⟩:=bI h;exact cP (bW k1 (ih k2) (λj hj=>h.lt j ((k4 j).2 (.inl hj))) k3) (λj=>(k4 j).symm)
 | swap a b l=>exact λh=>za h
 | trans _ _ ih1 ih2=>exact λh=>ih2 (ih1 h)
theorem ax{ctx:dt}{l m:List aF}{w:World}(hp:l.Perm m)(h:af ctx l w):af ctx m w:=by
 obtain⟨F,h1,h2,h3⟩:=h.ex;exact⟨F,H0 hp h1,h2,h3⟩
open Classical in
theorem cn{l m:List aF}(h:∀ f:aF->Nat,(l.map f).sum=(m.map f).sum):l.Perm m:=by
 rw[List.perm_iff_count];intro a;have e:∀ l:List aF,(l.map (λx=>if x=a then 1 else 0)).sum=l.count a:=by
  intro l
  induction l with
  | nil=>rfl
  | cons x l ih =>
   rw[List.map_cons,List.sum_cons,ih,List.count_cons]
   by_cases hx:x=a
   ·simp[hx]
    omega
   ·simp[hx]
 rw[← e,← e];exact h _
def fN(c:aU)(p:Nat)(o:ct)(e:dC):List aF:=[ib c e.d o.dq,fm c p e.mv o.dE,bJ e.rv o.rs]
section
variable{ctx:dt}{w:World}{r:List aF}{c:aU}{l:List ct}{es:Nat->dC}{p:Nat}{o:ct}
theorem Bi(a:List aF)(hp:p<c.n)(hl:p<l.length)(ho:l[p]? = some o)(h:af ctx (db c l es++(a++r)) w) :
  ∃ F,cL (fN c p o (es p)++a) F w/\∀ (o':ct) (e':dC) (m:List aF) (w':World),af ⟨w,F⟩ (fN c p o' e'++m) w'->af ctx (db c (l.set p o') (jT es p e')++(m++r)) w':=by
 have h1:=(Cz hp ho h).open;have h2:af ctx ((fN c p o (es p)++a)++((db c l es).eraseIdx p++r)) w:=by
  refine ax ?_ h1;show(fN c p o (es p)++_).Perm _;rw[List.append_assoc];refine List.Perm.append_left _ ?_;rw[← List.append_assoc,← List.append_assoc];exact List.perm_append_comm.append_right _
 obtain⟨F,k1,back⟩:=cU _ h2;refine⟨F,k1,λo' e' m w' hh=>?_⟩;have h3:=back _ _ hh;have h4:af ctx (fN c p o' e'++((db c l es).eraseIdx p++(m++r))) w':=by
  refine ax ?_ h3;rw[List.append_assoc];refine List.Perm.append_left _ ?_;rw[← List.append_assoc,← List.append_assoc];exact List.perm_append_comm.append_right _
 exact HU hp hl (af.shut h4)
end
theorem wW{ctx:dt}{w:World}{r:List aF}{c:aU}{l:List ct}{es:Nat->dC}{p:Nat}{o:ct}(a:List aF)(hp:p<c.n)(hl:p<l.length)(ho:l[p]? = some o)(h:af ctx (db c l es++(a++r)) w) :
  ∃ F,cL (fN c p o (es p)++a) F w/\∀ (m:List aF) (w':World),af ⟨w,F⟩ (fN c p o (es p)++m) w'->af ctx (db c l es++(m++r)) w':=by
 obtain⟨F,k1,k2⟩:=Bi a hp hl ho h;refine⟨F,k1,λm w' hh=>?_⟩;have:=k2 o (es p) m w' hh;rw[eR]at this
 rwa [show l.set p o=l from by
  obtain⟨h1,h2⟩:=List.getElem?_eq_some_iff.1 ho;rw[← h2]
  exact List.set_getElem_self h1]at this
theorem ph{ctx:dt}{w:World}{r:List aF}{c:aU}{p:Nat}{mv:Value}(h:af ctx (fm c p mv none::r) w):mv=.nilIface:=by
 obtain⟨_,e,_⟩:=h.qD;exact e
theorem mQ{ctx:dt}{w:World}{r:List aF}{c:aU}{p:Nat}{mv:Value}{u:gK}(h:af ctx (fm c p mv (some (.put u))::r) w):∃ bp,mv=.iface 81 (.pointer (some ⟨bp,0,none⟩))/\af ctx (fL c p bp u::r) w:=h.qD
theorem mR{ctx:dt}{w:World}{r:List aF}{c:aU}{p:Nat}{mv:Value}{u:iQ}(h:af ctx (fm c p mv (some (.get u))::r) w):∃ bp,mv=.iface 83 (.pointer (some ⟨bp,0,none⟩))/\af ctx (iR c p bp u::r) w:=h.qD
theorem gN{ctx:dt}{w:World}{r:List aF}{c:aU}{p v:Nat}{mv:Value}{u:bP}(h:af ctx (fm c p mv (some (.steal v u))::r) w):∃ bp,mv=.iface 85 (.pointer (some ⟨bp,0,none⟩))/\af ctx (c8 c p v bp u::r) w:=h.qD
theorem pi{ctx:dt}{w:World}{r:List aF}{c:aU}{p bp:Nat}{u:gK}(h:af ctx (fL c p bp u::r) w):af ctx (fm c p (.iface 81 (.pointer (some ⟨bp,0,none⟩))) (some (.put u))::r) w:=af.r8 (a:=λbp=>fL c p bp u) bp rfl h
theorem pj{ctx:dt}{w:World}{r:List aF}{c:aU}{p bp:Nat}{u:iQ}(h:af ctx (iR c p bp u::r) w):af ctx (fm c p (.iface 83 (.pointer (some ⟨bp,0,none⟩))) (some (.get u))::r) w:=af.r8 (a:=λbp=>iR c p bp u) bp rfl h
theorem jb{ctx:dt}{w:World}{r:List aF}{c:aU}{p v bp:Nat}{u:bP}(h:af ctx (c8 c p v bp u::r) w):af ctx (fm c p (.iface 85 (.pointer (some ⟨bp,0,none⟩))) (some (.steal v u))::r) w:=af.r8 (a:=λbp=>c8 c p v bp u) bp rfl h
theorem wX{ctx:dt}{w:World}{r:List aF}{c:aU}{p:Nat}{mv:Value}{M:Option bV}(h:af ctx (fm c p mv M::r) w):Rw mv M.isSome:=by
 match M with
 | none=>exact .inl ⟨ph h,rfl⟩
 | some (.put u)=>obtain⟨bp,e,_⟩:=mQ h;exact .inr ⟨_,_,e,rfl⟩
 | some (.get u)=>obtain⟨bp,e,_⟩:=mR h;exact .inr ⟨_,_,e,rfl⟩
 | some (.steal v u)=>obtain⟨bp,e,_⟩:=gN h;exact .inr ⟨_,_,e,rfl⟩
theorem wY(m:Nat){w:World}{F:Nat->Prop}{c:aU}{p:Nat}(hp:p<c.n){x:gK}(hx:mb c x){bp:Nat}(h:cL [fL c p bp x] F w):CallsIn Fence.wide m prog 137 #[.pointer (some ⟨bp,0,none⟩)] w λe w'=>∃ v,e=.returned v/\af ⟨w,F⟩ [bJ v x.hs,fL c p bp x] w' :=
 callsIn_wide.2 ((DH hp hx h).mono (λe w' ⟨v,_,_,k1,k2⟩=>⟨v,k1,k2⟩))
theorem dx{a:aF}{l:List aF}{F:Nat->Prop}{w:World}(h:af ⟨w,F⟩ (a::l) w):∃ F1,cL [a] F1 w/\∀ m w',af ⟨w,F1⟩ m w'->af ⟨w,F⟩ (m++l) w':=cU (lp:=[a]) h
theorem D1(n:Nat){c:aU}{p:Nat}(hp:p<c.n){M:bV}(hM:iE c p M){mm:bO}(hm:bY c mm){mv:Value}{F:Nat->Prop}{w:World}(h:cL [fm c p mv (some M)] F w) :
  ∃ T bp f,mv=.iface T (.pointer (some ⟨bp,0,none⟩))/\(∀ w,(method 343 T (.pointer (some ⟨bp,0,none⟩)) "Hands").run prog w=.ok (f,.pointer (some ⟨bp,0,none⟩)) w)/\(∀ ar w,(callFunc f ar).run prog w=.ok (.enter f ar) w)/\CallsIn Fence.wide n prog f #[.pointer (some ⟨bp,0,none⟩)] w λe w'=>∃ v,e=.returned v/\af ⟨w,F⟩ [fm c p mv (some M),bJ v M.hands] w':=by
 cases M with
 | put u =>
  obtain⟨bp,rfl,hh⟩:=mQ (af.start h);obtain⟨F1,k1,back⟩:=dx hh;refine⟨_,bp,_,rfl,λw=>tX bp w,λar w=>by kernel_rfl,(wY n hp hM k1).mono (λe w' ⟨v,e1,h2⟩=>⟨v,e1,?_⟩)⟩;exact pi ((back _ _ h2).sel [1,0])
 | get u =>
  obtain⟨bp,rfl,hh⟩:=mR (af.start h);obtain⟨F1,k1,back⟩:=dx hh;refine⟨_,bp,_,rfl,λw=>tY bp w,λar w=>by kernel_rfl,(callsIn_wide.2 (DK hp k1)).mono (λe w' ⟨v,e1,h2⟩=>⟨v,e1,?_⟩)⟩;exact pj ((back _ _ h2).sel [1,0])
 | steal v u =>
  obtain⟨bp,rfl,hh⟩:=gN (af.start h);obtain⟨F1,k1,back⟩:=dx hh;refine⟨_,bp,_,rfl,λw=>qE bp w,λar w=>by kernel_rfl,(qs n hp hM.2.1 hM.1 hm k1).mono (λe w' ⟨v,lv,e1,h2⟩=>⟨v,e1,?_⟩)⟩;exact jb ((back _ _ h2).sel [1,0])
theorem H1{c:aU}{p:Nat}(hp:p<c.n){M:bV}(hM:iE c p M)(h0:M.st≠0){mm:bO}(hm:bY c mm)(hs:lr c mm){mv:Value}{bm:Nat}{F:Nat->Prop}{w:World}(h:cL [fm c p mv (some M),aN bm mm] F w) :
  ∃ T bp f,mv=.iface T (.pointer (some ⟨bp,0,none⟩))/\(∀ w,(callMethod (.iface T (.pointer (some ⟨bp,0,none⟩))) "Step" #[.pointer (some ⟨bm,0,none⟩)]).run prog w=.ok (.enter f #[.pointer (some ⟨bp,0,none⟩),.pointer (some ⟨bm,0,none⟩)]) w)/\Calls prog f #[.pointer (some ⟨bp,0,none⟩),.pointer (some ⟨bm,0,none⟩)] w λe w'=>e=.returned (.bool (decide ((M.step c p mm).1.st=0)))/\af ⟨w,F⟩ [fm c p mv (some (M.step c p mm).1),aN bm (M.step c p mm).2] w':=by
 cases M with
 | put u =>
  obtain⟨bp,rfl,hh⟩:=mQ (af.start h);obtain⟨F1,k1,back⟩:=cU (rest:=[]) [fL c p bp u,aN bm mm] hh;exact⟨_,bp,_,rfl,λw=>zj bp _ w,(GL hp hM h0 hm k1).mono (λe w' ⟨e1,h2⟩=>⟨e1,pi (back _ _ h2)⟩)⟩
 | get u =>
  obtain⟨bp,rfl,hh⟩:=mR (af.start h);obtain⟨F1,k1,back⟩:=cU (rest:=[]) [iR c p bp u,aN bm mm] hh;exact⟨_,bp,_,rfl,λw=>zk bp _ w,(Hf hp hM h0 hm k1).mono (λe w' ⟨e1,h2⟩=>⟨e1,pj (back _ _ h2)⟩)⟩
 | steal v u =>
  obtain⟨bp,rfl,hh⟩:=gN (af.start h);obtain⟨F1,k1,back⟩:=cU (rest:=[]) [c8 c p v bp u,aN bm mm] hh;exact⟨_,bp,_,rfl,λw=>tW bp _ w,(A8 hp hM.2.1 hM.1 h0 hm hs k1).mono (λe w' ⟨e1,h2⟩=>⟨e1,jb (back _ _ h2)⟩)⟩
theorem qm{P:Program}{fn:Func}{w:World}{t:Tmp}(hres:fn.results = #[.tmp t])(tm:Array Value):(results fn tm).run P w=.ok (tm.getD t undef) w:=results_tmp hres tm P w
section
variable{ctx:dt}{w:World}{r:List aF}{b:RB}{c:aU}{x:aI}{es:Nat->dC}
theorem sX(h:af ctx (aB b c x es++r) w):w.heap[b.br]? = some (Obj.cells (CA b c x) 73 (0,0)):=aA h
theorem gO(h:af ctx (aB b c x es++r) w):af ctx (fq b c x.ow es::(eB b c x::aN b.bm x.m::(db c x.ow es++r))) w:=by
 refine ax ?_ h;show(eB b c x::aN b.bm x.m::fq b c x.ow es::(db c x.ow es++r)).Perm _;exact((List.Perm.swap _ _ _).cons _).trans (List.Perm.swap _ _ _)
theorem mS(h:af ctx (aB b c x es++r) w):af ctx (db c x.ow es++(gq b c x es++r)) w:=by
 refine ax ?_ h;show((gq b c x es++db c x.ow es)++r).Perm _;rw[← List.append_assoc];exact List.perm_append_comm.append_right _
theorem uV(h:af ctx (db c x.ow es++(gq b c x es++r)) w):af ctx (aB b c x es++r) w:=by
 refine ax ?_ h;show List.Perm _ ((gq b c x es++db c x.ow es)++r);rw[← List.append_assoc];exact List.perm_append_comm.append_right _
end
set_option maxHeartbeats 1000000 in
theorem H2(m:Nat){b:RB}{c:aU}{x:aI}{es:Nat->dC}{p:Nat}{o:ct}(hq:c.q<=8)(hp:p<c.n)(ho:x.ow[p]? = some o)(hd:eU c o.dq){F:Nat->Prop}{w:World}(h:cL (aB b c x es) F w) :
  CallsIn Fence.wide m prog 18 #[.pointer (some ⟨b.br,0,none⟩),.int .i64 (p:Int)] w λe w'=>∃ v,aT v=true/\e=.returned v/\af ⟨w,F⟩ (aB b c x es++[bJ v (bj c o.dq)]) w':=by
 refine callsIn_of_wp func18 rfl trivial ?_ rfl;simp only[ntmps18,List.size_toArray,List.length_cons,List.length_nil,Nat.reduceAdd,Nat.reduceSub,Array.replicate_succ,Array.replicate_zero,List.push_toArray,List.append_toArray,List.nil_append,List.cons_append];have hst:af ⟨w,F⟩ (aB b c x es++[]) w:=by rw[List.append_nil];exact af.start h
 have hb:=sX hst;have e7:w.cell? ⟨b.br,7,none⟩=some (.slice (some ⟨b.bo,0,none⟩) c.n b.cp):=cell_of hb 7 _ rfl;have e4:w.cell? ⟨b.bo,p*7+4,none⟩=some (.pointer (some ⟨(es p).d,0,none⟩)):=ja hp ho (gO hst) rfl;have ed:decide (0<=(p:Int)/\(p:Int)<(c.n:Int))=true:=by simp[hp]
 have P0:(p:Int)<(c.n:Int):=by omega
 have hlt:p<x.ow.length:=(List.getElem?_eq_some_iff.1 ho).1;obtain⟨F1,k1,back⟩:=wW (r:=gq b c x es++[]) [] hp hlt ho (mS hst);rw[List.append_nil]at k1;obtain⟨F2,k2,lH⟩:=dx (af.start k1)
 gi_wp2
 refine⟨trivial,λh=>by simp[Fence.wide]at h,(ku (m-1) hb (p:Int)).mono ?_⟩;rintro e w' ⟨rfl,rfl⟩;rw[ed]
 gi_wp2
 refine⟨trivial,λh=>by simp[Fence.wide]at h,(callsIn_wide.2 (Hm hq hd k2)).mono ?_⟩;rintro e w2 ⟨v,lv,rfl,hh⟩;have h3:=back [bJ v (bj c o.dq)] _ ((lH _ _ hh).sel [1,2,3,0])
 gi_wp2
 refine bodyPost_ret (results_tmp rfl _ _ _) rfl ⟨_,lv,rfl,?_⟩;have h4:af ⟨w',F⟩ (db c x.ow es++(gq b c x es++[bJ v (bj c o.dq)])) w2:=by
  refine ax ?_ h3;refine List.Perm.append_left _ ?_;rw[List.append_nil];exact List.perm_append_comm
 exact uV h4
set_option maxHeartbeats 1000000 in
theorem H3(m:Nat){b:RB}{c:aU}{x:aI}{es:Nat->dC}{p:Nat}{o:ct}(hp:p<c.n)(ho:x.ow[p]? = some o)(hm:bY c x.m)(hM:∀ M,o.dE=some M->iE c p M){F:Nat->Prop}{w:World}(h:cL (aB b c x es) F w) :
  CallsIn Fence.wide m prog 19 #[.pointer (some ⟨b.br,0,none⟩),.int .i64 (p:Int)] w λe w'=>∃ v,aT v=true/\e=.returned v/\af ⟨w,F⟩ (aB b c x es++[bJ v (eI o)]) w':=by
 refine callsIn_of_wp func19 rfl trivial ?_ rfl;simp only[ntmps19,List.size_toArray,List.length_cons,List.length_nil,Nat.reduceAdd,Nat.reduceSub,Array.replicate_succ,Array.replicate_zero,List.push_toArray,List.append_toArray,List.nil_append,List.cons_append];have hst:af ⟨w,F⟩ (aB b c x es++[]) w:=by rw[List.append_nil];exact af.start h
 have hb:=sX hst;have e7:w.cell? ⟨b.br,7,none⟩=some (.slice (some ⟨b.bo,0,none⟩) c.n b.cp):=cell_of hb 7 _ rfl;obtain⟨mv,hmv⟩:∃ mv,(es p).mv=mv:=⟨_,rfl⟩;have e3:w.cell? ⟨b.bo,p*7+3,none⟩=some mv:=ja hp ho (gO hst) (by rw[← hmv];rfl);have P0:(p:Int)<(c.n:Int):=by omega
 have hlt:p<x.ow.length:=(List.getElem?_eq_some_iff.1 ho).1;obtain⟨F1,k1,back⟩:=wW (r:=gq b c x es++[]) [] hp hlt ho (mS hst);rw[List.append_nil]at k1;have k1':af ⟨w,F1⟩ [fm c p mv o.dE,ib c (es p).d o.dq,bJ (es p).rv o.rs] w:=by
  rw[← hmv];exact(af.start k1).sel [1,0,2]
 have H4:=wX k1'
 gi_wp2
 refine⟨trivial,λh=>by simp[Fence.wide]at h,(wV (m-1) hb hp e3 H4).mono ?_⟩;rintro e w' ⟨rfl,rfl⟩;cases ia:o.dE with
 | none =>
  have h2:af ⟨w',F⟩ ([bT 3 1 (.slice none 0 0) 0 []]++aB b c x es) w':=(af.start h).d8 (e := 3) (sz:=1);have eh:eI o=[]:=by simp[eI,ia]
  gi_wp2
  refine bodyPost_ret (results_tmp rfl _ _ _) rfl ⟨.slice none 0 0,rfl,rfl,?_⟩;rw[eh];exact ax List.perm_append_comm h2
 | some M =>
  have eh:eI o=M.hands:=by simp[eI,ia]
  rw[ia]at k1';obtain⟨F2,k2,lH⟩:=dx k1';obtain⟨T,bp,f,rfl,hmt,hcf,hcall⟩:=D1 (m-1) hp (hM M ia) hm k2;clear H4;replace hmt:=hmt w'
  gi_wp2
  refine⟨trivial,λh=>by simp[Fence.wide]at h,hcall.mono ?_⟩;rintro e w2 ⟨v,rfl,hh⟩;have h3:af ⟨w',F1⟩ (fN c p o (es p)++[bJ v M.hands]) w2:=by
   have h4:=(lH _ _ hh).sel [2,0,3,1];unfold fN;rw[ia,hmv];exact h4
  have lv:=dm ((lH _ _ hh).sel [1]);have h5:=back [bJ v M.hands] _ h3
  gi_wp2
  refine bodyPost_ret (results_tmp rfl _ _ _) rfl ⟨_,lv,rfl,?_⟩;rw[eh];have h6:af ⟨w',F⟩ (db c x.ow es++(gq b c x es++[bJ v M.hands])) w2:=by
   refine ax ?_ h5;refine List.Perm.append_left _ ?_;rw[List.append_nil];exact List.perm_append_comm
  exact uV h6
theorem H5(m:Nat){b:RB}{c:aU}{x:aI}(is:Bool){F:Nat->Prop}{w:World}(h:cL [eB b c x] F w) :
  CallsIn Fence.wide m prog 64 #[.pointer (some ⟨b.br,0,none⟩),.bool is] w λe w'=>e=.returned (.tuple #[])/\af ⟨w,F⟩ [eB b c (x.holds is)] w':=by
 refine callsIn_of_wp func64 rfl trivial ?_ rfl;simp only[ntmps64,List.size_toArray,List.length_cons,List.length_nil,Nat.reduceAdd,Nat.reduceSub,Array.replicate_succ,Array.replicate_zero,List.push_toArray,List.append_toArray,List.nil_append,List.cons_append];have hst:=af.start h;have hb:=aA hst;have e8:w.cell? ⟨b.br,8,none⟩=some (.int .i64 x.pts):=cell_of hb 8 _ rfl;have f8:w.frozen? ⟨b.br,8,none⟩=false:=cf hb 8;have h2:=bQ 8 (.int .i64 (IntKind.i64.wrap (x.pts+1))) hst;obtain⟨y,hy⟩:∃ y,IntKind.i64.wrap (x.pts+1)=y:=⟨_,rfl⟩;have hy2:wrap64 (x.pts+1)=y:=by rw[← hy,IntKind.wrap_i64];unfold wrap64;rfl
 rw[hy]at h2;obtain⟨w2,hw2⟩:∃ w2,w.setCell ⟨b.br,8,none⟩ (.int .i64 y)=w2:=⟨_,rfl⟩;rw[hw2]at h2;have hb2:=aA h2;have e9:w2.cell? ⟨b.br,9,none⟩=some (.bool x.bad):=cell_of hb2 9 _ rfl;have f9:w2.frozen? ⟨b.br,9,none⟩=false:=cf hb2 9;have h3:=bQ 9 (.bool (x.bad || !is)) h2;have hx:af ⟨w,F⟩ [eB b c (x.holds is)] (w2.setCell ⟨b.br,9,none⟩ (.bool (x.bad || !is))):=by
  unfold eB aI.holds;rw[hy];exact h3
 cases hbad:x.bad with
 | false =>
  rw[hbad]at e9 hx
  gi_wp2
  exact bodyPost_end (results_none rfl _ _ _) rfl ⟨rfl,by simpa using hx⟩
 | true =>
  rw[hbad]at e9 hx
  gi_wp2
  exact bodyPost_end (results_none rfl _ _ _) rfl ⟨rfl,by simpa using hx⟩
theorem gR{ctx:dt}{w:World}{r:List aF}{b:RB}{c:aU}{x:aI}{es:Nat->dC}{p:Nat}{o:ct}(hp:p<c.n)(ho:x.ow[p]? = some o)(h:af ctx (r++aB b c x es) w) :
  ∃ F,cL [fm c p (es p).mv o.dE] F w/\∀ (m:List aF) (w':World),af ⟨w,F⟩ (fm c p (es p).mv o.dE::m) w'->af ctx (r++(m++aB b c x es)) w':=by
 have hlt:p<x.ow.length:=(List.getElem?_eq_some_iff.1 ho).1;obtain⟨F1,k1,back⟩:=wW (r:=gq b c x es++r) [] hp hlt ho (mS (ax List.perm_append_comm h));rw[List.append_nil]at k1;have k1':af ⟨w,F1⟩ [fm c p (es p).mv o.dE,ib c (es p).d o.dq,bJ (es p).rv o.rs] w:=(af.start k1).sel [1,0,2];obtain⟨F2,k2,lH⟩:=dx k1';refine⟨F2,k2,λm w' hh=>?_⟩;have h1:af ⟨w,F1⟩ (fN c p o (es p)++m) w':=ax (cn (λf=>by simp only[fN,List.cons_append,List.map_append,List.map_cons,List.map_nil,List.sum_append,List.sum_cons,List.sum_nil,List.nil_append];omega)) (lH _ _ hh);exact ax (cn (λf=>by simp only[aB,List.map_append,List.sum_append];omega)) (back m w' h1)
theorem eu{ctx:dt}{l:List aF}{w:World}(cs:List Value)(T:TypeId)(h:af ctx l w):af ctx (aE w.heap.size cs T::l) (w.alloc (.cells cs.toArray T)):=by
 obtain⟨F',m1,m2,m3⟩:=h.ex;have hB:Below w.heap.size w (w.alloc (.cells cs.toArray T)):=(Below.refl _ w).alloc (Nat.le_refl _) _;have hs:w.heap.size<(w.alloc (.cells cs.toArray T)).heap.size:=by simp
 have h1:=fg m1 (λj hj=>hB.block j (m1.lt j hj)) hB.size;have h2:=bW (a:=aE w.heap.size cs T) (Fa:=λj=>j=w.heap.size) ⟨λj=>Iff.rfl,World.alloc_heap_new w _⟩ h1 (λj hj=>by rw[hj];exact hs) (λj hj hf=>by have:=m1.lt j hf;omega);exact⟨_,h2,⟨hB.os.trans m2.os,hB.tape.trans m2.tape,hB.output.trans m2.output,Nat.le_trans m2.size hB.size,λj hj hx=>(hB.block j (Nat.lt_of_lt_of_le hj m2.size)).trans (m2.block j hj hx)⟩,λj hj=>hj.elim (λe=>.inr (by rw[e];exact m2.size)) (m3 j)⟩
theorem zq{w w':World}(h:Below w.heap.size w w'){a:Addr}{v:Value}(hc:w.cell? a=some v):w'.cell? a=some v:=by
 have hlt:a.block<w.heap.size:=by
  unfold World.cell? at hc;cases hb:w.heap[a.block]? with
  | none=>rw[hb]at hc;cases hc
  | some o=>exact(Array.getElem?_eq_some_iff.1 hb).1
 rw[h.cell hlt];exact hc
theorem kx{P:Program}{fn:Func}{R:Ending->World->Prop}{a:Act}{w:World}{v:Value}{tm:Tmp}{t:TypeId}{ad:Addr}(hres:fn.results = #[.cell tm t])(ha:a.tmps.getD tm undef=.pointer (some ad))(hd:a.defers=[])(hl:(loadVar t ad).run P w=.ok v w)(hR:R (.returned v) w):bodyPost P fn R .ret a w:=by
 refine bodyPost_ret ?_ hd hR;have ha':a.tmps[tm]?.getD undef=.pointer (some ad):=by simpa using ha
 simp[results,hres,ha',Go.asAddr,hl]
section
variable(b:Nat)(w:World)
theorem LX:(Instr.typeAssert (.iface 81 (.pointer (some ⟨b,0,none⟩))) 78 81 true).run prog w=.ok (.tuple #[.pointer (some ⟨b,0,none⟩),.bool true]) w:=by kernel_rfl
theorem OW:(Instr.typeAssert (.iface 81 (.pointer (some ⟨b,0,none⟩))) 78 85 true).run prog w=.ok (.tuple #[.pointer none,.bool false]) w:=by kernel_rfl
theorem LY:(Instr.typeAssert (.iface 83 (.pointer (some ⟨b,0,none⟩))) 78 81 true).run prog w=.ok (.tuple #[.pointer none,.bool false]) w:=by kernel_rfl
theorem OX:(Instr.typeAssert (.iface 83 (.pointer (some ⟨b,0,none⟩))) 78 83 true).run prog w=.ok (.tuple #[.pointer (some ⟨b,0,none⟩),.bool true]) w:=by kernel_rfl
theorem OY:(Instr.typeAssert (.iface 83 (.pointer (some ⟨b,0,none⟩))) 78 85 true).run prog w=.ok (.tuple #[.pointer none,.bool false]) w:=by kernel_rfl
theorem OZ:(Instr.typeAssert (.iface 83 (.pointer (some ⟨b,0,none⟩))) 78 161 true).run prog w=.ok (.tuple #[.iface 83 (.pointer (some ⟨b,0,none⟩)),.bool true]) w:=by kernel_rfl
theorem LZ:(Instr.typeAssert (.iface 85 (.pointer (some ⟨b,0,none⟩))) 78 81 true).run prog w=.ok (.tuple #[.pointer none,.bool false]) w:=by kernel_rfl
theorem O1:(Instr.typeAssert (.iface 85 (.pointer (some ⟨b,0,none⟩))) 78 83 true).run prog w=.ok (.tuple #[.pointer none,.bool false]) w:=by kernel_rfl
theorem L0:(Instr.typeAssert (.iface 85 (.pointer (some ⟨b,0,none⟩))) 78 85 true).run prog w=.ok (.tuple #[.pointer (some ⟨b,0,none⟩),.bool true]) w:=by kernel_rfl
theorem O2:(Instr.typeAssert (.iface 85 (.pointer (some ⟨b,0,none⟩))) 78 161 true).run prog w=.ok (.tuple #[.iface 85 (.pointer (some ⟨b,0,none⟩)),.bool true]) w:=by kernel_rfl
end
theorem wZ(w:World)(B:Nat)(x0 x1 x2:Value)(hb:w.heap[B]? = some (Obj.cells #[x0,x1,x2] 37 (0,0))):(loadVar 37 ⟨B,0,none⟩).run prog w=.ok (.agg #[x0,x1,x2]) w:=by
 have hc:∀ (k:Nat) (v:Value),#[x0,x1,x2][k]? = some v->w.cell? ⟨B,k,none⟩=some v:=λk v hk=>by simp only[World.cell?,hb];simpa using hk
 obtain⟨i,i1,i2⟩:∃ i,prog.info? 37 = some i/\i.size=3:=by
  cases h':prog.info? 37 with
  | none =>
   have:(prog.info? 37).map (·.size)=some 3:=by kernel_rfl
   rw[h']at this;cases this
  | some i =>
   have:(prog.info? 37).map (·.size)=some 3:=by kernel_rfl
   rw[h']at this;exact⟨i,rfl,Option.some.inj this⟩
 simp[loadVar,isAgg,run_underlying underlying37,sizeOf,typeInfo,i1,i2,loadCells,loadCellsFrom,Addr.add,hc 0 x0 rfl,hc 1 x1 rfl,hc 2 x2 rfl]
theorem jc{ctx:dt}{l:List aF}{w:World}{B3 B2:Nat}{x0 x1 x2:Value}(h:af ctx (aE B3 [x0,x1,x2] 37 :: aE B2 [.int .i64 0,.int .i64 0,.slice none 0 0] 37 :: l) w) :
  w.cell? ⟨B3,0,none⟩=some x0/\w.cell? ⟨B3,1,none⟩=some x1/\w.cell? ⟨B3,2,none⟩=some x2/\w.cell? ⟨B2,0,none⟩=some (.int .i64 0)/\w.cell? ⟨B2,1,none⟩=some (.int .i64 0)/\w.cell? ⟨B2,2,none⟩=some (.slice none 0 0)/\w.frozen? ⟨B2,0,none⟩=false/\w.frozen? ⟨B2,1,none⟩=false/\w.frozen? ⟨B2,2,none⟩=false/\
  af ctx l (((w.setCell ⟨B2,0,none⟩ x0).setCell ⟨B2,1,none⟩ x1).setCell ⟨B2,2,none⟩ x2)/\(loadVar 37 ⟨B2,0,none⟩).run prog (((w.setCell ⟨B2,0,none⟩ x0).setCell ⟨B2,1,none⟩ x1).setCell ⟨B2,2,none⟩ x2)=.ok (.agg #[x0,x1,x2]) (((w.setCell ⟨B2,0,none⟩ x0).setCell ⟨B2,1,none⟩ x1).setCell ⟨B2,2,none⟩ x2):=by
 have b3:=aA h;have h8:=bK h;have b2:=aA h8;have h9:=bQ 2 x2 (bQ 1 x1 (bQ 0 x0 h8));refine⟨cell_of b3 0 _ rfl,cell_of b3 1 _ rfl,cell_of b3 2 _ rfl,cell_of b2 0 _ rfl,cell_of b2 1 _ rfl,cell_of b2 2 _ rfl,cf b2 0,cf b2 1,cf b2 2,?_,wZ _ _ _ _ _ (aA h9)⟩;obtain⟨F',m1,m2,m3⟩:=h9.ex;obtain⟨G1,G2,q1,q2,q3,q4⟩:=cV (l:=[_,_]) m1;exact⟨G2,q2,m2,λj hj=>m3 j ((q4 j).2 (.inr hj))⟩
theorem pk(n:Nat){c:aU}{p:Nat}(hp:p<c.n){u:gK}(hx:mb c u){bp:Nat}{F:Nat->Prop}{w:World}(h:cL [fL c p bp u] F w):CallsIn Fence.wide n prog 66 #[.pointer (some ⟨bp,0,none⟩)] w λe w'=>∃ v,e=.returned v/\af ⟨w,F⟩ [bJ v (if u.st=0 then u.hs else []),fL c p bp u] w' :=
 callsIn_wide.2 ((Hd hp hx h).mono (λe w' ⟨v,_,_,k1,k2⟩=>⟨v,k1,k2⟩))
set_option maxHeartbeats 2000000 in
theorem Bj(m:Nat){b:RB}{c:aU}{x:aI}{es:Nat->dC}{p:Nat}{o:ct}{M:bV}(hp:p<c.n)(ho:x.ow[p]? = some o)(hM:o.dE=some M)(hok:iE c p M)(hm:bY c x.m){F:Nat->Prop}{w:World}(h:cL (aB b c x es) F w) :
  CallsIn Fence.wide m prog 38 #[.pointer (some ⟨b.bo,p*7,none⟩)] w λe w'=>∃ v,aT v=true/\e=.returned (.agg #[.int .i64 o.kd,.int .i64 M.got,v])/\af ⟨w,F⟩ (aB b c x es++[bJ v M.over]) w':=by
 refine callsIn_of_wp func38 rfl trivial ?_ rfl;simp only[ntmps38,List.size_toArray,List.length_cons,List.length_nil,Nat.reduceAdd,Nat.reduceSub,Array.replicate_succ,Array.replicate_zero,List.push_toArray,List.append_toArray,List.nil_append,List.cons_append];have hst:af ⟨w,F⟩ (aB b c x es++[]) w:=by rw[List.append_nil];exact af.start h
 obtain⟨mv,hmv⟩:∃ mv,(es p).mv=mv:=⟨_,rfl⟩;have e0:w.cell? ⟨b.bo,p*7,none⟩=some (.int .i64 o.kd):=ja (j:=0) hp ho (gO hst) rfl;have e3:w.cell? ⟨b.bo,p*7+3,none⟩=some mv:=ja hp ho (gO hst) (by rw[← hmv];rfl);have hlt:p<x.ow.length:=(List.getElem?_eq_some_iff.1 ho).1;obtain⟨W1,hW1⟩:∃ W1,w.alloc (.cells #[.int .i64 0,.int .i64 0,.slice none 0 0] 37)=W1:=⟨_,rfl⟩;obtain⟨W2,hW2⟩:∃ W2,W1.alloc (.cells #[.int .i64 0,.int .i64 0,.slice none 0 0] 37)=W2:=⟨_,rfl⟩;have h1:af ⟨w,F⟩ (aE w.heap.size [.int .i64 0,.int .i64 0,.slice none 0 0] 37 :: aB b c x es) W1:=by rw[← hW1];exact eu _ _ (af.start h)
 have h2:af ⟨w,F⟩ (aE W1.heap.size [.int .i64 0,.int .i64 0,.slice none 0 0] 37 :: aE w.heap.size [.int .i64 0,.int .i64 0,.slice none 0 0] 37 :: aB b c x es) W2:=by rw[← hW2];exact eu _ _ h1
 have hB1:Below w.heap.size w W1:=by rw[← hW1];exact(Below.refl _ w).alloc (Nat.le_refl _) _
 have hB2:Below w.heap.size w W2:=by rw[← hW2];exact hB1.alloc hB1.size _
 have d0:W1.cell? ⟨b.bo,p*7,none⟩=some (.int .i64 o.kd):=zq hB1 e0;have d3:W2.cell? ⟨b.bo,p*7+3,none⟩=some mv:=zq hB2 e3;have hb2:=aA h2;have f0:W2.frozen? ⟨W1.heap.size,0,none⟩=false:=cf hb2 0;have f1:W2.frozen? ⟨W1.heap.size,1,none⟩=false:=cf hb2 1;have f2:W2.frozen? ⟨W1.heap.size,2,none⟩=false:=cf hb2 2;have q0:W2.cell? ⟨W1.heap.size,0,none⟩=some (.int .i64 0):=cell_of hb2 0 _ rfl;have q1:W2.cell? ⟨W1.heap.size,1,none⟩=some (.int .i64 0):=cell_of hb2 1 _ rfl;have q2:W2.cell? ⟨W1.heap.size,2,none⟩=some (.slice none 0 0):=cell_of hb2 2 _ rfl;clear e0 e3;obtain⟨W3,hW3⟩:∃ W3,((W2.setCell ⟨W1.heap.size,0,none⟩ (.int .i64 o.kd)).setCell ⟨W1.heap.size,1,none⟩ (.int .i64 (-1))).setCell ⟨W1.heap.size,2,none⟩ (.slice none 0 0)=W3:=⟨_,rfl⟩;have h3:af ⟨w,F⟩ (aE W1.heap.size [.int .i64 o.kd,.int .i64 (-1),.slice none 0 0] 37 :: aE w.heap.size [.int .i64 0,.int .i64 0,.slice none 0 0] 37 :: aB b c x es) W3:=by
  rw[← hW3];exact bQ 2 (.slice none 0 0) (bQ 1 (.int .i64 (-1)) (bQ 0 (.int .i64 o.kd) h2))
 have D2:∀ (r:List aF) (w':World),af ⟨w,F⟩ (r++aB b c x es) w'->w'.cell? ⟨b.bo,p*7+3,none⟩=some mv:=λr w' hh=>ja hp ho (gO (ax List.perm_append_comm hh)) (by rw[← hmv];rfl)
 have c3:W3.cell? ⟨b.bo,p*7+3,none⟩=some mv:=D2 [_,_] _ h3;have fin:∀ (v:Value) (l:List Int) (w':World),af ⟨w,F⟩ ([bJ v l]++aB b c x es) w'->af ⟨w,F⟩ (aB b c x es++[bJ v l]) w':=λv l w' hh=>ax List.perm_append_comm hh
 obtain⟨F2,k2,back⟩:=gR (r:=[aE W1.heap.size [.int .i64 o.kd,.int .i64 (-1),.slice none 0 0] 37,aE w.heap.size [.int .i64 0,.int .i64 0,.slice none 0 0] 37]) hp ho h3;rw[hmv,hM]at k2 back;cases M with
 | put u =>
  obtain⟨bp,rfl,hp1⟩:=mQ (af.start k2);obtain⟨F3,k3,mt⟩:=dx hp1;have a1:=LX bp;have a2:=OW bp
  gi_wp2
  refine⟨trivial,λh=>by simp[Fence.wide]at h,(pk (m-1) hp hok k3).mono ?_⟩;rintro e w4 ⟨v,rfl,hh⟩;have h6:=back [bJ v (bV.put u).over] w4 (pi ((mt _ _ hh).sel [1,0]));obtain⟨a,ca,rfl⟩:=cS (aZ (h6.sel [2]));have g0:w4.frozen? ⟨W1.heap.size,2,none⟩=false:=cf (aA h6) 2;have c0:w4.cell? ⟨W1.heap.size,2,none⟩=some (.slice none 0 0):=cell_of (aA h6) 2 _ rfl;have h7:=bQ 2 (.slice a (bV.put u).over.length ca) h6;obtain⟨w5,O4⟩:∃ w5,w4.setCell ⟨W1.heap.size,2,none⟩ (.slice a (bV.put u).over.length ca)=w5:=⟨_,rfl⟩;rw[O4]at h7;have d3:=D2 [_,_,_] w5 h7;obtain⟨m0,m1,m2,n0,n1,n2,l0,l1,l2,hfin,hload⟩:=jc h7
  gi_wp2
  exact kx rfl rfl rfl hload ⟨_,rfl,rfl,fin _ _ _ hfin⟩
 | get u =>
  obtain⟨bp,rfl,hp1⟩:=mR (af.start k2);obtain⟨F3,k3,mt⟩:=dx hp1;have a1:=LY bp;have a2:=OZ bp;have a3:=OY bp;have a4:=zl bp W3
  gi_wp2
  refine⟨trivial,λh=>by simp[Fence.wide]at h,(callsIn_wide.2 (Cl hp k3)).mono ?_⟩;rintro e w4 ⟨rfl,hh⟩;have h6:=back [] w4 (pj (mt _ _ hh));have c0:w4.cell? ⟨W1.heap.size,1,none⟩=some (.int .i64 (-1)):=cell_of (aA h6) 1 _ rfl;have g0:w4.frozen? ⟨W1.heap.size,1,none⟩=false:=cf (aA h6) 1;have d4:=D2 [_,_] w4 h6;cases hhas:u.has with
  | false =>
   obtain⟨m0,m1,m2,n0,n1,n2,l0,l1,l2,hfin,hload⟩:=jc h6;have hg:(bV.get u).got = -1:=by simp[bV.got,hhas]
   gi_wp2
   refine kx rfl rfl rfl hload ⟨_,rfl,by rw[hg],?_⟩;exact fin (.slice none 0 0) [] _ (hfin.d8 (e := 3) (sz:=1))
  | true =>
   have h7:=bQ 1 (.int .i64 u.sn) h6;obtain⟨w5,O4⟩:∃ w5,w4.setCell ⟨W1.heap.size,1,none⟩ (.int .i64 u.sn)=w5:=⟨_,rfl⟩;rw[O4]at h7;have d3:=D2 [_,_] w5 h7;obtain⟨m0,m1,m2,n0,n1,n2,l0,l1,l2,hfin,hload⟩:=jc h7;have hg:(bV.get u).got=u.sn:=by simp[bV.got,hhas]
   gi_wp2
   refine kx rfl rfl rfl hload ⟨_,rfl,by rw[hg],?_⟩;exact fin (.slice none 0 0) [] _ (hfin.d8 (e := 3) (sz:=1))
 | steal v u =>
  obtain⟨bp,rfl,hp1⟩:=gN (af.start k2);obtain⟨F3,k3,mt⟩:=dx hp1;have a1:=LZ bp;have a2:=O2 bp;have a3:=L0 bp;have a4:=tZ bp W3
  gi_wp2
  refine⟨trivial,λh=>by simp[Fence.wide]at h,(callsIn_wide.2 (DO hp hok.2.1 hok.1 k3)).mono ?_⟩;rintro e w4 ⟨rfl,hh⟩;have h6:=back [] w4 (jb (mt _ _ hh));have c0:w4.cell? ⟨W1.heap.size,1,none⟩=some (.int .i64 (-1)):=cell_of (aA h6) 1 _ rfl;have g0:w4.frozen? ⟨W1.heap.size,1,none⟩=false:=cf (aA h6) 1;have d4:=D2 [_,_] w4 h6;have tail:∀ (g:Int) (w5:World),af ⟨w,F⟩ (aE W1.heap.size [.int .i64 o.kd,.int .i64 g,.slice none 0 0] 37 :: aE w.heap.size [.int .i64 0,.int .i64 0,.slice none 0 0] 37 :: aB b c x es) w5->
    CallsIn Fence.wide (m-1) prog 70 #[.pointer (some ⟨bp,0,none⟩)] w5 λe w6=>∃ a ca,e=.returned (.slice a (bV.steal v u).over.length ca)/\af ⟨w,F⟩ (aE W1.heap.size [.int .i64 o.kd,.int .i64 g,.slice none 0 0] 37 :: aE w.heap.size [.int .i64 0,.int .i64 0,.slice none 0 0] 37 :: bJ (.slice a (bV.steal v u).over.length ca) (bV.steal v u).over::aB b c x es) w6:=λg w5 h5=>by
   obtain⟨F4,k4,L3⟩:=gR (r:=[aE W1.heap.size [.int .i64 o.kd,.int .i64 g,.slice none 0 0] 37,aE w.heap.size [.int .i64 0,.int .i64 0,.slice none 0 0] 37]) hp ho h5;rw[hmv,hM]at k4 L3;obtain⟨bp',e',TN⟩:=gN (af.start k4);cases e';obtain⟨F5,k5,O5⟩:=dx TN;refine(callsIn_wide.2 (sD hp hok.2.1 hok.1 hm k5)).mono ?_;rintro e w6 ⟨u',lu,rfl,QZ⟩;have h7:=L3 [bJ u' u.left] w6 (jb ((O5 _ _ QZ).sel [1,0]));obtain⟨a,ca,rfl⟩:=cS (aZ (h7.sel [2]));exact⟨a,ca,rfl,h7⟩
  cases O6:u.got.2 with
  | false =>
   have hg:(bV.steal v u).got = -1:=by simp[bV.got,O6]
   gi_wp2
   refine⟨trivial,λh=>by simp[Fence.wide]at h,(tail (-1) w4 h6).mono ?_⟩;rintro e w6 ⟨a,ca,rfl,h7⟩;have g1:w6.frozen? ⟨W1.heap.size,2,none⟩=false:=cf (aA h7) 2;have c1:w6.cell? ⟨W1.heap.size,2,none⟩=some (.slice none 0 0):=cell_of (aA h7) 2 _ rfl;have h8:=bQ 2 (.slice a (bV.steal v u).over.length ca) h7;obtain⟨w7,hw7⟩:∃ w7,w6.setCell ⟨W1.heap.size,2,none⟩ (.slice a (bV.steal v u).over.length ca)=w7:=⟨_,rfl⟩;rw[hw7]at h8;obtain⟨m0,m1,m2,n0,n1,n2,l0,l1,l2,hfin,hload⟩:=jc h8
   gi_wp2
   exact kx rfl rfl rfl hload ⟨_,rfl,by rw[hg],fin _ _ _ hfin⟩
  | true =>
   have hg:(bV.steal v u).got=u.got.1:=by simp[bV.got,O6]
   have h7:=bQ 1 (.int .i64 u.got.1) h6;obtain⟨w5,O4⟩:∃ w5,w4.setCell ⟨W1.heap.size,1,none⟩ (.int .i64 u.got.1)=w5:=⟨_,rfl⟩;rw[O4]at h7;have d3:=D2 [_,_] w5 h7
   gi_wp2
   refine⟨trivial,λh=>by simp[Fence.wide]at h,(tail u.got.1 w5 h7).mono ?_⟩;rintro e w6 ⟨a,ca,rfl,h7⟩;have g1:w6.frozen? ⟨W1.heap.size,2,none⟩=false:=cf (aA h7) 2;have c1:w6.cell? ⟨W1.heap.size,2,none⟩=some (.slice none 0 0):=cell_of (aA h7) 2 _ rfl;have h8:=bQ 2 (.slice a (bV.steal v u).over.length ca) h7;obtain⟨w7,hw7⟩:∃ w7,w6.setCell ⟨W1.heap.size,2,none⟩ (.slice a (bV.steal v u).over.length ca)=w7:=⟨_,rfl⟩;rw[hw7]at h8;obtain⟨m0,m1,m2,n0,n1,n2,l0,l1,l2,hfin,hload⟩:=jc h8
   gi_wp2
   exact kx rfl rfl rfl hload ⟨_,rfl,by rw[hg],fin _ _ _ hfin⟩
end Go.Proofs.YtkmccgombmogmaaGreat
