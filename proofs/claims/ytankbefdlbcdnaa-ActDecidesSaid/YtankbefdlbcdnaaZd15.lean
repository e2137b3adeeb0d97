/- Part of a proof: see the last text. -/
import Derived.Test.YtankbefdlbcdnaaZd14
import Derived.WalkSpells
import Derived.Great.BuildSlice
set_option linter.unusedSectionVars false
set_option linter.unusedSimpArgs false
set_option linter.unusedVariables false
namespace Go.Ev
open Go.RowKit
def ap(b n:Nat):Value:=.slice (some ⟨b,0,none⟩) n n
section
variable{k:Kn}{P:Program}{g g':Nat}{l:List aK}{ci:Nat}{t e:TypeId}{n sz m:Nat}{v:Value}{xs:List Value}{sP sQ sI:Nat}
theorem hH{kd:IntKind}{j q N:Nat}{i:TypeInfo}{e':TypeId}(hg:k.gs[g]? = some (star l))(hi:l[ci]? = some (aO e sz v n xs))(hm:m<n*sz)(ht:P.underlying t=some (.array N e'))(cZ:P.info? e'=some i)(hsz:i.size=q)(hP:k.val sP=au v m)(hI:k.val sI=.int kd (j:Int))(hj:j<N)(hQ:k.val sQ=au v (m+j*q)):aD k P ⟨[3,t],[sy sP,sy sI],none,g,none,sy sQ,none⟩:=by
 refine aD.index k ?_;letI:aL:=k.sig;intro ι F w d x' y' qq hx hy;obtain⟨Fs,ff,hS,hf,h1⟩:=a_ hg hi qq;rw[bH hx,bH hy,hP,hI];obtain⟨b,off,c,rfl,_,_⟩:=kh h1 hm;refine⟨.pointer (some ⟨b,off+(m+j*q),none⟩),w,?_,eB (by rw[hQ];rfl),Below.refl _ _⟩;have hc:(0:Int)<=(j:Int)/\(j:Int)<(N:Int):=⟨by omega,by omega⟩;subst hsz;simp[au,Instr.indexAt,Instr.sureAddr,run_underlying ht,hc,sizeOf,typeInfo,cZ,dY,asIntOf,Nat.add_assoc];intro h;omega
theorem CL:oC k (.map none) (.map none):=λι x' hx=>by
 letI:aL:=k.sig;cases hx;rfl
theorem dm{d1 e' m:Nat}{u:TypeId}{i:TypeInfo}{z:Value}{c cs:List Value}(hg:k.gs[g]? = some (star l))(hg':k.gs[g']? = some (star (l++[ce d1 (λv'=>aO e sz v' m cs)])))(ht:P.underlying t=some (.slice e))(hu:P.underlying u=some (.slice e'))(cZ:P.info? e=some i)(hsz:i.size=sz)(h0:0<sz)(hz:i.zero=some z)(hzs:z.cells.size=i.size)
  (hb:m*i.bytes<=140737488355328) (hnm:m<=1000000000) (hm:c.length=m*sz) (hc:∀ ι c',(letI:aL:=k.sig;cx ι c c')->c'=cs):aD k P ⟨[11,t,u],[.slice none 0 0],some (sz,1,c),g,some d1,.complex .f32 d1 0,some g'⟩:=by
 subst hsz;refine aD.append k ?_;letI:aL:=k.sig;intro ι F w d x' y' c' m' ty q hx hcr hcm ho hr hl;have hmm:m'=m:=Nat.eq_of_mul_eq_mul_right h0 (by rw[← hcm,hm]);subst hmm;obtain rfl:=q.name d1 rfl;obtain⟨b,q1,q2⟩:=q.st;rw[hg]at q1;cases q1;rw[nl _ _ hx];have hs:Src P i.size u y' m' c' w:=⟨.inl ⟨_,hu⟩,hl,hr w rfl,hr w.drew rfl,by rw[← hcr.1];exact hm,sY hcr ho⟩;have h1:dG e i.size (.slice none 0 0) 0 [] (λ_=>False) w:=dG.nil e i.size w;obtain⟨v2,w2,F2,r1,r2,r3,r4⟩:=dG.append (ty:=ty) h1 ht cZ hz hzs hs (by rw[Nat.zero_add];exact hb) (by omega);rw[hc _ _ hcr,Nat.zero_add,List.nil_append]at r2;obtain⟨cc,hcc⟩:=r2.code;have hup:(ι.upd d1 cc) d1=some cc:=by simp[ag.upd]
 exact⟨v2,w2,r1,grow_end hg' q2 q.lt (bU q) cc ⟨cc,hup,by rw[hcc];exact r2⟩ ⟨r3.os,r3.tape,r3.output,r3.size,λj hj=>r3.block j hj (λh=>h)⟩ (λj hj=>⟨(r4 j hj).1,(r4 j hj).2.elim (λh=>h.elim) id⟩) (.dyn d1 cc v2 hup hcc)⟩
theorem ki{d1:Nat}{i:TypeInfo}{z x v1:Value}(hg:k.gs[g]? = some (star l))(hg':k.gs[g']? = some (star (l++[ce d1 (λv'=>aO e 1 v' 1 [v1])])))(ht:P.underlying t=some (.slice e))(cZ:P.info? e=some i)(hsz:i.size=1)(hz:i.zero=some z)(hzs:z.cells = #[z])(hV:oC k x v1)(h1:v1.cells = #[v1]):aD k P ⟨[24,t],[x],none,g,some d1,.complex .f32 d1 0,some g'⟩:=by
 refine aD.HW k ?_;letI:aL:=k.sig;intro ι F w d x' q hx;obtain rfl:=q.name d1 rfl;obtain⟨b,q1,q2⟩:=q.st;rw[hg]at q1;cases q1;rw[hV _ _ hx];have r1:=Go.run_buildSlice w t e 1 #[(0,v1)] #[v1] i z ht cZ hz (by rw[hsz];decide) (by rw[hsz];decide) (by simp[Instr.fill,hsz,h1];rw[show Array.range 1 = #[0] from rfl];simp);have hsl:dG e 1 (.slice (some ⟨w.heap.size,0,none⟩) 1 1) 1 [v1] (λj=>j=w.heap.size) (w.alloc (.cells #[v1] e)):=by
  refine⟨rfl,.inr ⟨w.heap.size,0,1,#[v1],rfl,λ_=>Iff.rfl,by unfold World.alloc;simp,λj hj=>?_,by simp,Nat.le_refl _⟩⟩
  match j,hj with
  | 0,_=>rfl
 obtain⟨cc,hcc⟩:=hsl.code;have hup:(ι.upd d1 cc) d1=some cc:=by simp[ag.upd]
 exact⟨_,_,r1,grow_end hg' q2 q.lt (bU q) cc ⟨cc,hup,by rw[hcc];exact hsl⟩ ((Below.refl _ _).alloc (Nat.le_refl _) _) (λj hj=>⟨hsl.lt j hj,by rw[hj];exact Nat.le_refl _⟩) (.dyn d1 cc _ hup hcc)⟩
theorem FU(c:Nat):(dec c).oneCell'=true:=by
 unfold dec
 split<;>rfl
theorem AH{d2:Nat}(hg:k.gs[g]? = some (star l))(hi:l[ci]? = some (aO e sz v n xs))(hg':k.gs[g']? = some (star (l.set ci (ce d2 (λu=>aO e sz v n (xs.set m u))))))(hL:mt P t)(hn:m<n*sz)(hP:k.val sP=au v m):aD k P ⟨[2,t],[sy sP,.complex .f32 d2 0],none,g,none,undef,some g'⟩:=by
 refine aD.store k ?_;letI:aL:=k.sig;intro ι F w d x' y' q hx hy;obtain⟨Fs,ff,hS,hf,h1⟩:=a_ hg hi q;obtain⟨c2,e5,rfl⟩:=qW hy;rw[bH hx,hP];obtain⟨b,off,c,e1,e2,e0,e3,e4⟩:=kh h1 hn;rw[e2];have hlt:m<xs.length:=by rw[h1.1];exact hn
 rw[List.getElem?_eq_getElem hlt]at e3;have hset:=dG.set (b:=b) (off:=off) (c:=c) h1 e1 hn (dec c2);exact⟨_,hL b (off+m) (dec c2) _ w e3 e4 (FU c2),dS hg' hS q.lt hf (bU q) 0 ⟨c2,ag.dT (b:=0) (bU q) _ _ e5,hset⟩ (iy e0) (λj hj=>⟨Nat.lt_of_lt_of_le (h1.lt j hj) (iy (x:=dec c2) (o:=off+m) e0).size,.inl hj⟩) (cB _)⟩
theorem FV{s b:Nat}(hv:k.val s=.map (some b)){kT e:TypeId}(ht:P.underlying t=some (.map kT e)):aD k P ⟨[20,t],[sy s,.map none],none,g,none,.bool false,none⟩:=by
 letI:aL:=k.sig;intro o hk ev ι F w d hl _ h1 h2 h3 h4;obtain⟨x,y,z,ho⟩:=CI hk;rw[ho]at hl;obtain⟨x',y',e,hx,hy⟩:=m_ hl;simp[Op.operands]at e;obtain⟨rfl,rfl⟩:=e;refine⟨.value (.bool false),.bool false,w,?_,.inl rfl,.bool _,Below.refl _ _⟩;unfold execOp;rw[ho];simp only;rw[bH hx,hv,CL _ _ hy];simp[eqGuard,run_eql_map_nil w t _ _ (some b) ht]
end
theorem JC{k:Kn}{P:Program}{g sK:Nat}{t kT e:TypeId}{β:Type}{val:β->Value}{dat:β->DataW Unit}{R:Value->Option (DataW Unit×List MemPlace)}{z:β}(M:EM P t kT e val dat R z){i:Int}{a:Value}(hK:k.val sK=.int .i64 i)(hw:nZ i)(hV:∀ ι,letI:aL:=k.sig;aw ι a (val z)):aD k P ⟨[5,t,1],[.map none,sy sK],none,g,none,.tuple #[a,.bool false],none⟩:=by
 refine aD.lookup k (b:=true) rfl ?_;letI:aL:=k.sig;intro ι F w d x' y' q hx' hy;rw[CL _ _ hx',bH hy,hK];refine⟨.tuple #[val z,.bool false],w,?_,CD (hV ι) HZ,Below.refl _ _⟩;have hc:=(dI M).check w true (kO M hw);have hf:(Instr.findKey kT (.int .i64 i) []).run P w=.ok none w:=by
  rcases(dI M).find w (kO M hw) [] (by simp) with ⟨h,_⟩ | ⟨j,e,_,h,_⟩
  ·exact h
  ·simp at h
 simp[Instr.lookup,run_underlying M.ht,hc,hf,M.hz w,Result.andThen]
theorem tf{k:Kn}{P:Program}{g g':Nat}{l:List aK}{t kT:TypeId}{β:Type}{dat:β->DataW Unit}{R:Value->Option (DataW Unit×List MemPlace)}{z:β}{d1:Nat}(hg:k.gs[g]? = some (star l))(hg':k.gs[g']? = some (star (l++[ce d1 (λv=>M4 P kT dat R z v 0 (λ_=>none))]))):aD k P ⟨[18,t],[],none,g,some d1,.complex .f32 d1 0,some g'⟩:=by
 letI:aL:=k.sig;intro o hk ev ι F w d hv _ h1 h2 h3 h4;have ho:=pH hk;obtain⟨b,q1,q2⟩:=h1;rw[hg]at q1;cases q1;obtain rfl:=h4 d1 rfl;have hd:ι d1=none:=h3.elim id (λh=>by cases h);refine⟨.value (.map (some w.heap.size)),.map (some w.heap.size),w.alloc (.map #[] 0),?_,.inl rfl,?_⟩
 ·simp[execOp,ho,Instr.makeMap,newObj]
  rfl
 ·have hup:(ι.upd d1 (fb 2 w.heap.size)) d1=some (fb 2 w.heap.size):=by simp[ag.upd]
  refine grow_end hg' q2 h2 hd (fb 2 w.heap.size) (f':=λj=>j=w.heap.size) ⟨_,hup,w.heap.size,j5 _,λj=>Iff.rfl,.map [],World.ownsMap_made w P kT _,rfl,λi hi=>?_⟩ ((Below.refl _ _).alloc (Nat.le_refl _) _) (λx hx=>⟨by rw[hx];simp,by rw[hx];exact Nat.le_refl _⟩) (.dyn d1 _ _ hup (j5 _));exact⟨rfl,rfl⟩
end Go.Ev
namespace Go.Proofs.Ytankbefdlbcdnaa
open Go.Ev Go.Proofs.Try
open Go.RowKit
open Go.Ev (sy)
theorem aV{i:Int}(h1:-9223372036854775808<=i)(h2:i<=9223372036854775807):nZ i:=by
 unfold nZ Lit.wf;simp[IntKind.min,IntKind.max,IntKind.signed,IntKind.bits];omega
structure Lk where
 a:Int
 b:Int
 x:Bool
 y:Bool
def Lk.v(k:Lk):Value:=.agg #[.int .i64 k.a,.int .i64 k.b,.bool k.x,.bool k.y]
def Lk.d(k:Lk):DataW Unit:=.agg [.lit (.int .i64 k.a),.lit (.int .i64 k.b),.lit (.bool k.x),.lit (.bool k.y)]
def H8:Value->Option (DataW Unit×List MemPlace)
 | .agg ⟨[.int .i64 a,.int .i64 b,.bool x,.bool y]⟩=>some (.agg [.lit (.int .i64 a),.lit (.int .i64 b),.lit (.bool x),.lit (.bool y)],[])
 | _=>none
abbrev wd:Lk:=⟨0,0,false,false⟩
theorem FW:∃ i,prog.info? 130 = some i/\i.size=4/\i.zero=some (.agg #[.int .i64 0,.int .i64 0,.bool false,.bool false])/\i.bytes=24:=pJ (by kernel_rfl)
theorem bR:Ev.EM prog 72 3 130 Lk.v Lk.d H8 wd where
 ht:=underlying72
 hk:=underlying3
 hz:=λw=>by
  obtain⟨i,i1,i2,i3,i4⟩:=FW;exact @Ev.em cP _ _ _ _ i1 i3 w
 hR:=λx=>rfl
 inv:=λv x ps h=>by
  unfold H8 at h
  split at h
  ·simp only[Lk.d,Option.some.injEq,Prod.mk.injEq,DataW.agg.injEq,List.cons.injEq,DataW.lit.injEq,Lit.int.injEq,Lit.bool.injEq,true_and,and_true]at h
   obtain⟨⟨rfl,rfl,rfl,rfl⟩,_⟩:=h;rfl
  ·cases h
abbrev bX(b n:Nat)(f:Int->Option Lk):aK:=Bc prog 3 Lk.d H8 wd b n f
abbrev tg(v:Value)(n:Nat)(f:Int->Option Lk):aK:=M4 prog 3 Lk.d H8 wd v n f
theorem aj:∀ b o w,(Instr.fieldAt 74 (.pointer (some ⟨b,o,none⟩)) 0).run prog w=.ok (.pointer (some ⟨b,o+0,none⟩)) w:=λb o w=>by kernel_rfl
theorem eE:∀ b o w,(Instr.fieldAt 74 (.pointer (some ⟨b,o,none⟩)) 1).run prog w=.ok (.pointer (some ⟨b,o+1,none⟩)) w:=λb o w=>by kernel_rfl
theorem fA:∀ b o w,(Instr.fieldAt 74 (.pointer (some ⟨b,o,none⟩)) 2).run prog w=.ok (.pointer (some ⟨b,o+2,none⟩)) w:=λb o w=>by kernel_rfl
theorem gU:∀ b o w,(Instr.fieldAt 76 (.pointer (some ⟨b,o,none⟩)) 0).run prog w=.ok (.pointer (some ⟨b,o+0,none⟩)) w:=λb o w=>by kernel_rfl
theorem kj:∀ b o w,(Instr.fieldAt 76 (.pointer (some ⟨b,o,none⟩)) 1).run prog w=.ok (.pointer (some ⟨b,o+3,none⟩)) w:=λb o w=>by kernel_rfl
theorem fg:∀ b o w,(Instr.fieldAt 79 (.pointer (some ⟨b,o,none⟩)) 0).run prog w=.ok (.pointer (some ⟨b,o+0,none⟩)) w:=λb o w=>by kernel_rfl
theorem dJ:∀ b o w,(Instr.fieldAt 79 (.pointer (some ⟨b,o,none⟩)) 1).run prog w=.ok (.pointer (some ⟨b,o+64,none⟩)) w:=λb o w=>by kernel_rfl
theorem oH:∀ b o w,(Instr.fieldAt 79 (.pointer (some ⟨b,o,none⟩)) 2).run prog w=.ok (.pointer (some ⟨b,o+65,none⟩)) w:=λb o w=>by kernel_rfl
theorem am:gS prog 72:=by
 intro b o x w h;simp[Instr.loadAt,Instr.sureAddr,loadVar,isAgg,run_underlying underlying72,h]
theorem mB:gS prog 71:=by
 intro b o x w h;simp[Instr.loadAt,Instr.sureAddr,loadVar,isAgg,run_underlying underlying71,h]
theorem AI:mt prog 72:=by
 intro b o x x0 w h hf hc;simp[Instr.storeAt,Instr.sureAddr,storeVar,isAgg,run_underlying underlying72,h,cells_one hc,storeCells,run_store _ _ _ _ _ hc,hf,dY]
end Go.Proofs.Ytankbefdlbcdnaa
namespace Go.Proofs.Ytankbefdlbcdnaa
open Go.Ev Go.Proofs.Try
open Go.RowKit
open Go.Ev (sy iz uz wz iN uN wN pz dv fc fn ak vk vd kn pc cc cr cm cd fr)
set_option maxRecDepth 8000
attribute [local irreducible] dF
structure FQ where
 W0:World
 F0:Nat->Prop
 bs:Nat
 xs:List Value
 m:Nat
 bl:Nat
 n:Nat
 f:Int->Option Lk
 x:Int
 ka:Int
 kb:Int
 hd:Int
 tl:Int
 h:m+4<=66/\n<=4096/\0<=x/\x<4096
theorem FQ.z(q:FQ):q.m+4<=66/\q.n<=4096/\0<=q.x/\q.x<4096:=q.h
abbrev q7(q:FQ):List aK:=[aO 79 1 (ap q.bs 66) 66 (q.xs)]
abbrev CM(q:FQ):List (Nat×Value):=[(0,(au (ap q.bs 66) (q.m)))]
abbrev gA(q:FQ):List aK:=[aO 79 1 (ap q.bs 66) 66 (q.xs),bX q.bl (q.n) (q.f)]
abbrev zk(q:FQ):List (Nat×Value):=[(0,(au (ap q.bs 66) (q.m))),(1,iz q.x)]
theorem H9(q:FQ)(h0:q.xs[q.m+0]? = some (.map none)):aI prog 79 [] 0 19 ⟨q.W0,q.F0⟩ (zk q) (q7 q) (λκ:ag=>(.bool false)) (λκ:ag=>(q7 q)):=by have z:=q.z;exact(br (c:=⟨q.W0,q.F0⟩) 20 (kn [au (ap q.bs 66) (q.m),au (ap q.bs 66) (q.m+0),ap q.bs 66,iz (q.x)] (fc (ae _ _) (fc (ae _ _) fr)) [] [] [] fn fn fn q.W0 q.F0 [q7 q] [⟨[20,113],[sy 0,.pointer none],none,0,none,.bool false,none⟩,⟨[9],[sy 0],none,0,none,sy 0,none⟩,⟨[7,74,0],[sy 0],none,0,none,sy 1,none⟩,⟨[1,72],[sy 1],none,0,none,.map none,none⟩,⟨[5,72,1],[.map none,sy 3],none,0,none,.tuple #[.agg #[iz 0,iz 0,.bool false,.bool false],.bool false],none⟩] []) (fc (b5 rfl (by kernel_rfl)) (fc (ai rfl) (fc (by exact af (ci:=1) (fo:=0) rfl rfl (by omega) aj rfl rfl) (fc (by exact ah (ci:=1) (m:=q.m+0) (x:=(.map none)) rfl rfl am h0 (by simp;omega) rfl (λι=>(vk (by kernel_rfl) (by kernel_rfl)))) (fc (by exact JC bR rfl (by first | assumption | exact aV (by omega) (by omega)) (λι=>(vk (by kernel_rfl) (by kernel_rfl)))) fn))))) fn rfl [] [] [] 0 rfl rfl [(0,sy 0),(1,sy 3)] (.bool false))
theorem H_(q:FQ)(h0:q.xs[q.m+0]? = some (.map (some q.bl)))(hx:q.f q.x=none):aI prog 79 [] 0 19 ⟨q.W0,q.F0⟩ (zk q) (gA q) (λκ:ag=>(.bool false)) (λκ:ag=>(gA q)):=by have z:=q.z;exact(br (c:=⟨q.W0,q.F0⟩) 20 (kn [au (ap q.bs 66) (q.m),au (ap q.bs 66) (q.m+0),ap q.bs 66,iz (q.x),.map (some q.bl)] (fc (ae _ _) (fc (ae _ _) fr)) [] [] [] fn fn fn q.W0 q.F0 [gA q] [⟨[20,113],[sy 0,.pointer none],none,0,none,.bool false,none⟩,⟨[9],[sy 0],none,0,none,sy 0,none⟩,⟨[7,74,0],[sy 0],none,0,none,sy 1,none⟩,⟨[1,72],[sy 1],none,0,none,sy 4,none⟩,⟨[5,72,1],[sy 4,sy 3],none,0,none,.tuple #[.agg #[iz 0,iz 0,.bool false,.bool false],.bool false],none⟩] []) (fc (b5 rfl (by kernel_rfl)) (fc (ai rfl) (fc (by exact af (ci:=1) (fo:=0) rfl rfl (by omega) aj rfl rfl) (fc (by exact ah (ci:=1) (m:=q.m+0) (x:=(.map (some q.bl))) rfl rfl am h0 (by simp;omega) rfl (λι=>(vk (by kernel_rfl) (by kernel_rfl)))) (fc (by exact i_ bR (ci:=2) (x:=wd) rfl rfl rfl rfl (by first | assumption | exact aV (by omega) (by omega)) (by rw[hx];rfl) (by rw[hx];rfl) (λι=>(vk (by kernel_rfl) (by kernel_rfl)))) fn))))) fn rfl [] [] [] 0 rfl rfl [(0,sy 0),(1,sy 3)] (.bool false))
theorem FX(q:FQ)(h0:q.xs[q.m+0]? = some (.map (some q.bl)))(hx:q.f q.x=some ⟨q.ka,q.kb,false,false⟩):aI prog 79 [] 0 19 ⟨q.W0,q.F0⟩ (zk q) (gA q) (λκ:ag=>(.bool true)) (λκ:ag=>(gA q)):=by have z:=q.z;exact(br (c:=⟨q.W0,q.F0⟩) 20 (kn [au (ap q.bs 66) (q.m),au (ap q.bs 66) (q.m+0),ap q.bs 66,iz (q.x),.map (some q.bl),iz (q.ka),iz (q.kb)] (fc (ae _ _) (fc (ae _ _) fr)) [] [] [] fn fn fn q.W0 q.F0 [gA q] [⟨[20,113],[sy 0,.pointer none],none,0,none,.bool false,none⟩,⟨[9],[sy 0],none,0,none,sy 0,none⟩,⟨[7,74,0],[sy 0],none,0,none,sy 1,none⟩,⟨[1,72],[sy 1],none,0,none,sy 4,none⟩,⟨[5,72,1],[sy 4,sy 3],none,0,none,.tuple #[.agg #[sy 5,sy 6,.bool false,.bool false],.bool true],none⟩] []) (fc (b5 rfl (by kernel_rfl)) (fc (ai rfl) (fc (by exact af (ci:=1) (fo:=0) rfl rfl (by omega) aj rfl rfl) (fc (by exact ah (ci:=1) (m:=q.m+0) (x:=(.map (some q.bl))) rfl rfl am h0 (by simp;omega) rfl (λι=>(vk (by kernel_rfl) (by kernel_rfl)))) (fc (by exact i_ bR (ci:=2) (x:=⟨q.ka,q.kb,false,false⟩) rfl rfl rfl rfl (by first | assumption | exact aV (by omega) (by omega)) (by rw[hx];rfl) (by rw[hx];rfl) (λι=>(vk (by kernel_rfl) (by kernel_rfl)))) fn))))) fn rfl [] [] [] 0 rfl rfl [(0,sy 0),(1,sy 3)] (.bool true))
theorem FY(q:FQ)(h0:q.xs[q.m+0]? = some (.map (some q.bl)))(hx:q.f q.x=some ⟨q.ka,q.kb,false,true⟩):aI prog 79 [] 0 19 ⟨q.W0,q.F0⟩ (zk q) (gA q) (λκ:ag=>(.bool true)) (λκ:ag=>(gA q)):=by have z:=q.z;exact(br (c:=⟨q.W0,q.F0⟩) 20 (kn [au (ap q.bs 66) (q.m),au (ap q.bs 66) (q.m+0),ap q.bs 66,iz (q.x),.map (some q.bl),iz (q.ka),iz (q.kb)] (fc (ae _ _) (fc (ae _ _) fr)) [] [] [] fn fn fn q.W0 q.F0 [gA q] [⟨[20,113],[sy 0,.pointer none],none,0,none,.bool false,none⟩,⟨[9],[sy 0],none,0,none,sy 0,none⟩,⟨[7,74,0],[sy 0],none,0,none,sy 1,none⟩,⟨[1,72],[sy 1],none,0,none,sy 4,none⟩,⟨[5,72,1],[sy 4,sy 3],none,0,none,.tuple #[.agg #[sy 5,sy 6,.bool false,.bool true],.bool true],none⟩] []) (fc (b5 rfl (by kernel_rfl)) (fc (ai rfl) (fc (by exact af (ci:=1) (fo:=0) rfl rfl (by omega) aj rfl rfl) (fc (by exact ah (ci:=1) (m:=q.m+0) (x:=(.map (some q.bl))) rfl rfl am h0 (by simp;omega) rfl (λι=>(vk (by kernel_rfl) (by kernel_rfl)))) (fc (by exact i_ bR (ci:=2) (x:=⟨q.ka,q.kb,false,true⟩) rfl rfl rfl rfl (by first | assumption | exact aV (by omega) (by omega)) (by rw[hx];rfl) (by rw[hx];rfl) (λι=>(vk (by kernel_rfl) (by kernel_rfl)))) fn))))) fn rfl [] [] [] 0 rfl rfl [(0,sy 0),(1,sy 3)] (.bool true))
theorem FZ(q:FQ)(h0:q.xs[q.m+0]? = some (.map none)):aI prog 68 [] 0 11 ⟨q.W0,q.F0⟩ (CM q) (q7 q) (λκ:ag=>(.tuple #[iz 0,.bool false])) (λκ:ag=>(q7 q)):=by have z:=q.z;exact(br (c:=⟨q.W0,q.F0⟩) 20 (kn [au (ap q.bs 66) (q.m),au (ap q.bs 66) (q.m+0),ap q.bs 66] (fc (ae _ _) (fc (ae _ _) fr)) [] [] [] fn fn fn q.W0 q.F0 [q7 q] [⟨[20,113],[sy 0,.pointer none],none,0,none,.bool false,none⟩,⟨[9],[sy 0],none,0,none,sy 0,none⟩,⟨[7,74,0],[sy 0],none,0,none,sy 1,none⟩,⟨[1,72],[sy 1],none,0,none,.map none,none⟩] []) (fc (b5 rfl (by kernel_rfl)) (fc (ai rfl) (fc (by exact af (ci:=1) (fo:=0) rfl rfl (by omega) aj rfl rfl) (fc (by exact ah (ci:=1) (m:=q.m+0) (x:=(.map none)) rfl rfl am h0 (by simp;omega) rfl (λι=>(vk (by kernel_rfl) (by kernel_rfl)))) fn)))) fn rfl [] [] [] 0 rfl rfl [(0,sy 0)] (.tuple #[iz 0,.bool false]))
theorem F3(q:FQ)(h0:q.xs[q.m+0]? = some (.map (some q.bl)))(hn:q.n=0):aI prog 68 [] 0 11 ⟨q.W0,q.F0⟩ (CM q) (gA q) (λκ:ag=>(.tuple #[iz 0,.bool false])) (λκ:ag=>(gA q)):=by have z:=q.z;exact(br (c:=⟨q.W0,q.F0⟩) 20 (kn [au (ap q.bs 66) (q.m),au (ap q.bs 66) (q.m+0),ap q.bs 66,.map (some q.bl),iN (q.n)] (fc (ae _ _) (fc (ae _ _) fr)) [(.eql,sy 4,iz 0,.bool true)] [] [] (fc (λ_ _ _=>bL (by first|(simp;done)|(simp;omega))) fn) fn fn q.W0 q.F0 [gA q] [⟨[20,113],[sy 0,.pointer none],none,0,none,.bool false,none⟩,⟨[9],[sy 0],none,0,none,sy 0,none⟩,⟨[7,74,0],[sy 0],none,0,none,sy 1,none⟩,⟨[1,72],[sy 1],none,0,none,sy 3,none⟩,⟨[10,72],[sy 3],none,0,none,sy 4,none⟩] []) (fc (b5 rfl (by kernel_rfl)) (fc (ai rfl) (fc (by exact af (ci:=1) (fo:=0) rfl rfl (by omega) aj rfl rfl) (fc (by exact ah (ci:=1) (m:=q.m+0) (x:=(.map (some q.bl))) rfl rfl am h0 (by simp;omega) rfl (λι=>(vk (by kernel_rfl) (by kernel_rfl)))) (fc (vF bR (ci:=2) rfl rfl rfl rfl) fn))))) fn rfl [] [] [] 0 rfl rfl [(0,sy 0)] (.tuple #[iz 0,.bool false]))
theorem F4(q:FQ)(h0:q.xs[q.m+0]? = some (.map (some q.bl)))(hn:0<q.n)(h1:q.xs[q.m+1]? = some (.int .i64 q.hd)):aI prog 68 [] 0 11 ⟨q.W0,q.F0⟩ (CM q) (gA q) (λκ:ag=>(.tuple #[iz q.hd,.bool true])) (λκ:ag=>(gA q)):=by have z:=q.z;exact(br (c:=⟨q.W0,q.F0⟩) 20 (kn [au (ap q.bs 66) (q.m),au (ap q.bs 66) (q.m+0),au (ap q.bs 66) (q.m+1),ap q.bs 66,.map (some q.bl),iN (q.n),iz (q.hd)] (fc (ae _ _) (fc (ae _ _) (fc (ae _ _) fr))) [(.eql,sy 5,iz 0,.bool false)] [] [] (fc (λ_ _ _=>bL (by first|(simp;done)|(simp;omega))) fn) fn fn q.W0 q.F0 [gA q] [⟨[20,113],[sy 0,.pointer none],none,0,none,.bool false,none⟩,⟨[9],[sy 0],none,0,none,sy 0,none⟩,⟨[7,74,0],[sy 0],none,0,none,sy 1,none⟩,⟨[1,72],[sy 1],none,0,none,sy 4,none⟩,⟨[10,72],[sy 4],none,0,none,sy 5,none⟩,⟨[7,74,1],[sy 0],none,0,none,sy 2,none⟩,⟨[1,3],[sy 2],none,0,none,sy 6,none⟩] []) (fc (b5 rfl (by kernel_rfl)) (fc (ai rfl) (fc (by exact af (ci:=1) (fo:=0) rfl rfl (by omega) aj rfl rfl) (fc (by exact ah (ci:=1) (m:=q.m+0) (x:=(.map (some q.bl))) rfl rfl am h0 (by simp;omega) rfl (λι=>(vk (by kernel_rfl) (by kernel_rfl)))) (fc (vF bR (ci:=2) rfl rfl rfl rfl) (fc (by exact af (ci:=1) (fo:=1) rfl rfl (by omega) eE rfl rfl) (fc (by exact ah (ci:=1) (m:=q.m+1) (x:=(iz q.hd)) rfl rfl aG h1 (by simp;omega) rfl (λι=>(vk (by kernel_rfl) (by kernel_rfl)))) fn))))))) fn rfl [] [] [] 0 rfl rfl [(0,sy 0)] (.tuple #[sy 6,.bool true]))
end Go.Proofs.Ytankbefdlbcdnaa
namespace Go.Proofs.Ytankbefdlbcdnaa
open Go.Ev Go.Proofs.Try
open Go.RowKit
open Go.Ev (iz iN pz)
theorem ja{xs:List Value}{a b:Nat}{x v:Value}(hne:a≠b)(h:xs[b]? = some v):(xs.set a x)[b]? = some v:=by
 rw[List.getElem?_set_ne hne];exact h
abbrev sA(bs:Nat)(xs:List Value):aK:=aO 79 1 (ap bs 66) 66 xs
abbrev sP(bs m:Nat):Value:=au (ap bs 66) m
def oV:Option Nat->Value
 | none=>.map none
 | some b=>.map (some b)
def M5(o:Option Nat)(n:Nat)(f:Int->Option Lk):aK:=match o with
 | none=>Cv
 | some b=>bX b n f
section
variable{w:World}{F:Nat->Prop}{bs m:Nat}{xs:List Value}{n:Nat}{f:Int->Option Lk}
abbrev fq(w:World)(F:Nat->Prop)(bs m:Nat)(xs:List Value)(b n:Nat)(f:Int->Option Lk)(x ka kb hd tl:Int)(h:m+4<=66/\n<=4096/\0<=x/\x<4096):FQ:=⟨w,F,bs,xs,m,b,n,f,x,ka,kb,hd,tl,h⟩
theorem JD(hm:m+4<=66){x:Int}(hx:0<=x/\x<4096)(h0:xs[m]? = some (.map none))(h:bu [sA bs xs] F w) :
  Calls prog 79 #[sP bs m,iz x] w λe w'=>e=.returned (.bool false)/\ay ⟨w,F⟩ [sA bs xs] w' :=
 ao (H9 (fq w F bs m xs 0 0 (λ_=>none) x 0 0 0 0 ⟨hm,by decide,hx⟩) h0) (by kernel_rfl) h (by simp) (by simp) (λκ w1 h1=>⟨rfl,h1⟩)
theorem Ia(b:Nat)(hm:m+4<=66)(hn:n<=4096){x:Int}(hx:0<=x/\x<4096)(h0:xs[m]? = some (.map (some b)))(hf:f x=none)(h:bu [sA bs xs,bX b n f] F w) :
  Calls prog 79 #[sP bs m,iz x] w λe w'=>e=.returned (.bool false)/\ay ⟨w,F⟩ [sA bs xs,bX b n f] w' :=
 ao (H_ (fq w F bs m xs b n f x 0 0 0 0 ⟨hm,hn,hx⟩) h0 hf) (by kernel_rfl) h (by simp) (by simp) (λκ w1 h1=>⟨rfl,h1⟩)
theorem jb(b:Nat)(hm:m+4<=66)(hn:n<=4096){x ka kb:Int}{y:Bool}(hx:0<=x/\x<4096)(h0:xs[m]? = some (.map (some b)))(hf:f x=some ⟨ka,kb,false,y⟩)(h:bu [sA bs xs,bX b n f] F w) :
  Calls prog 79 #[sP bs m,iz x] w λe w'=>e=.returned (.bool true)/\ay ⟨w,F⟩ [sA bs xs,bX b n f] w':=by
 cases y with
 | false=>exact ao (FX (fq w F bs m xs b n f x ka kb 0 0 ⟨hm,hn,hx⟩) h0 hf) (by kernel_rfl) h (by simp) (by simp) (λκ w1 h1=>⟨rfl,h1⟩)
 | true=>exact ao (FY (fq w F bs m xs b n f x ka kb 0 0 ⟨hm,hn,hx⟩) h0 hf) (by kernel_rfl) h (by simp) (by simp) (λκ w1 h1=>⟨rfl,h1⟩)
theorem CN(hm:m+4<=66)(h0:xs[m]? = some (.map none))(h:bu [sA bs xs] F w) :
  Calls prog 68 #[sP bs m] w λe w'=>e=.returned (.tuple #[.int .i64 0,.bool false])/\ay ⟨w,F⟩ [sA bs xs] w' :=
 ao (FZ (fq w F bs m xs 0 0 (λ_=>none) 0 0 0 0 0 ⟨hm,by decide,by decide,by decide⟩) h0) (by kernel_rfl) h (by simp) (by simp) (λκ w1 h1=>⟨rfl,h1⟩)
theorem CO(b:Nat)(hm:m+4<=66)(h0:xs[m]? = some (.map (some b)))(h:bu [sA bs xs,bX b 0 f] F w) :
  Calls prog 68 #[sP bs m] w λe w'=>e=.returned (.tuple #[.int .i64 0,.bool false])/\ay ⟨w,F⟩ [sA bs xs,bX b 0 f] w' :=
 ao (F3 (fq w F bs m xs b 0 f 0 0 0 0 0 ⟨hm,by decide,by decide,by decide⟩) h0 rfl) (by kernel_rfl) h (by simp) (by simp) (λκ w1 h1=>⟨rfl,h1⟩)
theorem eY(b:Nat)(hm:m+4<=66)(hn:n<=4096)(hp:0<n){hd:Int}(h0:xs[m]? = some (.map (some b)))(h1:xs[m+1]? = some (.int .i64 hd))(h:bu [sA bs xs,bX b n f] F w) :
  Calls prog 68 #[sP bs m] w λe w'=>e=.returned (.tuple #[iz hd,.bool true])/\ay ⟨w,F⟩ [sA bs xs,bX b n f] w' :=
 ao (F4 (fq w F bs m xs b n f 0 0 0 hd 0 ⟨hm,hn,by decide,by decide⟩) h0 hp h1) (by kernel_rfl) h (by simp) (by simp) (λκ w1 h1=>⟨rfl,h1⟩)
end
end Go.Proofs.Ytankbefdlbcdnaa
namespace Go.Proofs.Ytankbefdlbcdnaa
open Go.Ev Go.Proofs.Try
open Go.RowKit
open Go.Ev (sy iz uz wz iN uN wN pz dv fc fn ak vk vd kn pc cc cr cm cd fr)
set_option maxRecDepth 8000
attribute [local irreducible] dF
structure FP where
 W0:World
 F0:Nat->Prop
 bs:Nat
 xs:List Value
 m:Nat
 bl:Nat
 n:Nat
 f:Int->Option Lk
 x:Int
 lv:Value
 lD:aR lv=true
 b2:Nat
 ka:Int
 kb:Int
 tl:Int
 h:m+4<=66/\n<=4096/\0<=x/\x<4096
theorem FP.z(q:FP):q.m+4<=66/\q.n<=4096/\0<=q.x/\q.x<4096:=q.h
abbrev kQ(q:FP):aK:=aO 79 1 (ap q.bs 66) 66 (q.xs)
abbrev kR(q:FP):aK:=aO 3 1 (q.lv) (1) ([.int .i64 q.x])
abbrev G4(q:FP):List aK:=[kQ q,kR q]
abbrev CP(q:FP):List aK:=[kQ q,bX q.b2 (0) (λ_=>none),kR q]
abbrev CQ(q:FP):aK:=bX q.b2 (0+1) (bQ (λ_=>none) ((q.x)) (some (⟨0,0,false,false⟩:Lk)))
abbrev CR(q:FP):List aK:=[kQ q,CQ q,kR q]
abbrev CS(q:FP):List aK:=[kQ q,bX q.bl (q.n) (q.f),kR q]
abbrev xA(q:FP):List aK:=[kQ q,bX q.bl (q.n) (q.f),bX q.b2 (0) (λ_=>none),kR q]
abbrev CT(q:FP):List aK:=[kQ q,bX q.bl (q.n) (q.f),CQ q,kR q]
theorem K7(q:FP):dH prog 76 [] 0 2 33 ⟨q.W0,q.F0⟩ [(0,(au (ap q.bs 66) (q.m))),(1,(q.lv))] (G4 q) .normal (λκ:ag=>[(0,(au (ap q.bs 66) (q.m))),(1,(q.lv)),(5,dv κ 403)]) (λκ:ag=>[kQ q,kR q,tg (dv κ 403) 0 (λ_=>none)]):=(tr (c:=⟨q.W0,q.F0⟩) (kn [au (ap q.bs 66) (q.m),q.lv,ap q.bs 66] (fc (ae _ _) (fc q.lD fr)) [] [] [] fn fn fn q.W0 q.F0 [G4 q,[kQ q,kR q,ce 403 (λv=>tg v 0 (λ_=>none))]] [⟨[18,72],[],none,0,some 403,.complex .f32 403 0,some 1⟩] []) (fc (tf rfl rfl) fn) fn rfl [] [] [] 1 rfl rfl [(0,sy 0),(1,sy 1)] [(0,sy 0),(1,sy 1),(5,.complex .f32 403 0)] .normal).conv (λκ w=>⟨(λ_ h=>h),(λ_ h=>h),(λ_ h=>bN (a:=λv=>tg v 0 (λ_=>none)) (λ_ _ _ _ _ h=>h) h),trivial⟩)
theorem K8(q:FP)(h0:q.xs[q.m]? = some (.map none)):aI prog 76 [] 2 33 ⟨q.W0,q.F0⟩ [(0,(au (ap q.bs 66) (q.m))),(1,(q.lv)),(5,(.map (some q.b2)))] (CP q) (λκ:ag=>(.bool true)) (λκ:ag=>(CR q)):=by have z:=q.z;obtain⟨i,i1,i2,i3,i4⟩:=aT;exact(br (c:=⟨q.W0,q.F0⟩) 20 (kn [au (ap q.bs 66) (q.m),q.lv,au (q.lv) (0*1),ap q.bs 66,.map (some q.b2),iN (1),iz (q.x)] (fc (ae _ _) (fc q.lD (fc (ae _ _) fr))) [(.lss,iz 0,sy 5,.bool true),(.lss,iz 1,sy 5,.bool false)] [] [] (fc (λ_ _ _=>ax (by first|(simp;done)|(simp;omega))) (fc (λ_ _ _=>ax (by first|(simp;done)|(simp;omega))) fn)) fn fn q.W0 q.F0 [CP q,CP q,CR q] [⟨[10,37],[sy 1],none,0,none,sy 5,none⟩,⟨[3,37],[sy 1,iz 0],none,0,none,sy 2,none⟩,⟨[1,3],[sy 2],none,0,none,sy 6,none⟩,⟨[5,72,1],[sy 4,sy 6],none,0,none,.tuple #[.agg #[iz 0,iz 0,.bool false,.bool false],.bool false],none⟩,⟨[6,72],[sy 4,sy 6,.agg #[iz 0,iz 0,.bool false,.bool false]],none,1,none,undef,some 2⟩] [⟨79,[sy 0,sy 6],0,none,.bool false,some 1⟩]) (fc (by exact de (ci:=3) rfl rfl underlying37 i2 rfl rfl) (fc (by exact eX (ci:=3) (j:=0) rfl rfl underlying37 i1 i2 rfl dM (by omega) rfl) (fc (by exact ah (ci:=3) (m:=0*1) (x:=(iz q.x)) rfl rfl aG rfl (by decide) rfl (λι=>(vk (by kernel_rfl) (by kernel_rfl)))) (fc (by exact i_ bR (ci:=2) (x:=wd) rfl rfl rfl rfl (by first | assumption | exact aV (by omega) (by omega)) rfl rfl (λι=>(vk (by kernel_rfl) (by kernel_rfl)))) (fc (by exact kP bR (ci:=2) (x:=(⟨0,0,false,false⟩:Lk)) rfl rfl rfl rfl rfl rfl (by first | assumption | exact aV (by omega) (by omega)) (by unfold maxLen;omega) (Ev.isAgg (cN dM (cN dM (cN Ev.isBool (cN Ev.isBool pF)))))) fn))))) (fc (cc rfl [aO 79 1 (ap q.bs 66) 66 (q.xs)] [0] [1,2] (λw F ho hn hF=>JD q.z.1 q.z.2.2 h0 hn)) fn) rfl [] [] [] 2 rfl rfl [(0,sy 0),(1,sy 1),(5,sy 4)] (.bool true))
theorem K9(q:FP):dH prog 76 [] 0 2 33 ⟨q.W0,q.F0⟩ [(0,(au (ap q.bs 66) (q.m))),(1,(q.lv))] (CS q) .normal (λκ:ag=>[(0,(au (ap q.bs 66) (q.m))),(1,(q.lv)),(5,dv κ 403)]) (λκ:ag=>[kQ q,bX q.bl (q.n) (q.f),kR q,tg (dv κ 403) 0 (λ_=>none)]):=(tr (c:=⟨q.W0,q.F0⟩) (kn [au (ap q.bs 66) (q.m),q.lv,ap q.bs 66] (fc (ae _ _) (fc q.lD fr)) [] [] [] fn fn fn q.W0 q.F0 [CS q,[kQ q,bX q.bl (q.n) (q.f),kR q,ce 403 (λv=>tg v 0 (λ_=>none))]] [⟨[18,72],[],none,0,some 403,.complex .f32 403 0,some 1⟩] []) (fc (tf rfl rfl) fn) fn rfl [] [] [] 1 rfl rfl [(0,sy 0),(1,sy 1)] [(0,sy 0),(1,sy 1),(5,.complex .f32 403 0)] .normal).conv (λκ w=>⟨(λ_ h=>h),(λ_ h=>h),(λ_ h=>h),(λ_ h=>bN (a:=λv=>tg v 0 (λ_=>none)) (λ_ _ _ _ _ h=>h) h),trivial⟩)
theorem K_(q:FP)(h0:q.xs[q.m]? = some (.map (some q.bl)))(hx:q.f q.x=none):aI prog 76 [] 2 33 ⟨q.W0,q.F0⟩ [(0,(au (ap q.bs 66) (q.m))),(1,(q.lv)),(5,(.map (some q.b2)))] (xA q) (λκ:ag=>(.bool true)) (λκ:ag=>(CT q)):=by have z:=q.z;obtain⟨i,i1,i2,i3,i4⟩:=aT;exact(br (c:=⟨q.W0,q.F0⟩) 20 (kn [au (ap q.bs 66) (q.m),q.lv,au (q.lv) (0*1),ap q.bs 66,.map (some q.b2),iN (1),iz (q.x)] (fc (ae _ _) (fc q.lD (fc (ae _ _) fr))) [(.lss,iz 0,sy 5,.bool true),(.lss,iz 1,sy 5,.bool false)] [] [] (fc (λ_ _ _=>ax (by first|(simp;done)|(simp;omega))) (fc (λ_ _ _=>ax (by first|(simp;done)|(simp;omega))) fn)) fn fn q.W0 q.F0 [xA q,xA q,CT q] [⟨[10,37],[sy 1],none,0,none,sy 5,none⟩,⟨[3,37],[sy 1,iz 0],none,0,none,sy 2,none⟩,⟨[1,3],[sy 2],none,0,none,sy 6,none⟩,⟨[5,72,1],[sy 4,sy 6],none,0,none,.tuple #[.agg #[iz 0,iz 0,.bool false,.bool false],.bool false],none⟩,⟨[6,72],[sy 4,sy 6,.agg #[iz 0,iz 0,.bool false,.bool false]],none,1,none,undef,some 2⟩] [⟨79,[sy 0,sy 6],0,none,.bool false,some 1⟩]) (fc (by exact de (ci:=4) rfl rfl underlying37 i2 rfl rfl) (fc (by exact eX (ci:=4) (j:=0) rfl rfl underlying37 i1 i2 rfl dM (by omega) rfl) (fc (by exact ah (ci:=4) (m:=0*1) (x:=(iz q.x)) rfl rfl aG rfl (by decide) rfl (λι=>(vk (by kernel_rfl) (by kernel_rfl)))) (fc (by exact i_ bR (ci:=3) (x:=wd) rfl rfl rfl rfl (by first | assumption | exact aV (by omega) (by omega)) rfl rfl (λι=>(vk (by kernel_rfl) (by kernel_rfl)))) (fc (by exact kP bR (ci:=3) (x:=(⟨0,0,false,false⟩:Lk)) rfl rfl rfl rfl rfl rfl (by first | assumption | exact aV (by omega) (by omega)) (by unfold maxLen;omega) (Ev.isAgg (cN dM (cN dM (cN Ev.isBool (cN Ev.isBool pF)))))) fn))))) (fc (cc rfl [aO 79 1 (ap q.bs 66) 66 (q.xs),bX q.bl (q.n) (q.f)] [0,1] [2,3] (λw F ho hn hF=>Ia q.bl q.z.1 q.z.2.1 q.z.2.2 h0 hx hn)) fn) rfl [] [] [] 2 rfl rfl [(0,sy 0),(1,sy 1),(5,sy 4)] (.bool true))
end Go.Proofs.Ytankbefdlbcdnaa
namespace Go.Proofs.Ytankbefdlbcdnaa
open Go.Ev Go.Proofs.Try
open Go.RowKit
open Go.Ev (iz iN pz)
attribute [local irreducible] dF
abbrev lE(lv:Value)(x:Int):aK:=aO 3 1 lv 1 [.int .i64 x]
section
variable{w:World}{F:Nat->Prop}{bs m:Nat}{xs:List Value}{n:Nat}{f:Int->Option Lk}{x:Int}{lv:Value}
theorem mC{c:eO}{v:Value}{n:Nat}{f:Int->Option Lk}{l:List aK}{w:World}(h:ay c (tg v n f::l) w):∃ b,v=.map (some b)/\ay c (bX b n f::l) w :=
 ay.vq (b:=λb=>bX b n f) (p:=λb=>v=.map (some b)) h (λG ⟨b,e,h1⟩=>⟨b,e,h1⟩)
abbrev fp(w:World)(F:Nat->Prop)(bs m:Nat)(xs:List Value)(b n:Nat)(f:Int->Option Lk)(x:Int)(lv:Value)(lD:aR lv=true)(b2:Nat)(ka kb tl:Int)(h:m+4<=66/\n<=4096/\0<=x/\x<4096):FP:=⟨w,F,bs,xs,m,b,n,f,x,lv,lD,b2,ka,kb,tl,h⟩
theorem F5(b:Nat)(hm:m+4<=66)(hz:n=0)(h0:xs[m]? = some (.map (some b)))(h:bu [sA bs xs,bX b n f] F w) :
  Calls prog 68 #[sP bs m] w λe w'=>e=.returned (.tuple #[.int .i64 0,.bool false])/\ay ⟨w,F⟩ [sA bs xs,bX b n f] w':=by
 subst hz;exact CO b hm h0 h
theorem Ib(hm:m+4<=66)(hx:0<=x/\x<4096)(h0:xs[m]? = some (.map none))(h:bu [sA bs xs,lE lv x] F w) :
  Calls prog 76 #[sP bs m,lv] w λe w'=>e=.returned (.bool true)/\ay ⟨w,F⟩ [sA bs xs,lE lv x] w':=by
 have lD:aR lv=true:=bV ((ay.start h).sel [1]);refine bx (N:=33) (tm:=[(0,sP bs m),(1,lv)]) (by kernel_rfl) h (by simp) (by simp) (λA hA=>?_);refine K7 (fp w F bs m xs 0 0 (λ_=>none) x lv lD 0 0 0 0 ⟨hm,by decide,hx⟩) A w _ hA ?_;intro κ A1 w1 h1;dsimp only at h1;have ht:=h1.tm;obtain⟨b2,e2,hh⟩:=mC (h1.hold.sel [2,0,1]);rw[e2]at ht;refine K8 (fp w F bs m xs 0 0 (λ_=>none) x lv lD b2 0 0 0 ⟨hm,by decide,hx⟩) h0 A1 w1 _ ⟨h1.sz,h1.df,ht,hh.sel [1,0,2]⟩ ?_;intro κ2 w2 h2;exact⟨rfl,h2.sel [0,2]⟩
theorem Ic(b:Nat)(hm:m+4<=66)(hn:n<=4096)(hx:0<=x/\x<4096)(h0:xs[m]? = some (.map (some b)))(hf:f x=none)(h:bu [sA bs xs,bX b n f,lE lv x] F w) :
  Calls prog 76 #[sP bs m,lv] w λe w'=>e=.returned (.bool true)/\ay ⟨w,F⟩ [sA bs xs,bX b n f,lE lv x] w':=by
 have lD:aR lv=true:=bV ((ay.start h).sel [2]);refine bx (N:=33) (tm:=[(0,sP bs m),(1,lv)]) (by kernel_rfl) h (by simp) (by simp) (λA hA=>?_);refine K9 (fp w F bs m xs b n f x lv lD 0 0 0 0 ⟨hm,hn,hx⟩) A w _ hA ?_;intro κ A1 w1 h1;dsimp only at h1;have ht:=h1.tm;obtain⟨b2,e2,hh⟩:=mC (h1.hold.sel [3,0,1,2]);rw[e2]at ht;refine K_ (fp w F bs m xs b n f x lv lD b2 0 0 0 ⟨hm,hn,hx⟩) h0 hf A1 w1 _ ⟨h1.sz,h1.df,ht,hh.sel [1,2,0,3]⟩ ?_;intro κ2 w2 h2;exact⟨rfl,h2.sel [0,1,3]⟩
end
end Go.Proofs.Ytankbefdlbcdnaa
