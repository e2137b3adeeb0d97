/- Part of a proof: see the last text. -/
import Derived.Test.YtbcnbofkgkheeaaGreatZn15
import Derived.KernelRfl
import Derived.Test.YtbcnbofkgkheeaaGreatRows
import Derived.WalkKit
import Derived.WalkSpells
import Derived.WalkLawsBesides
import Derived.Lib.Hide
import Derived.ProofKit
set_option linter.unusedSimpArgs false
set_option linter.unusedVariables false
namespace Go.Ev
open Go.RowKit
abbrev iz(n:Int):Value:=.int .i64 n
abbrev uz(n:Int):Value:=.int .u64 n
abbrev wz(n:Int):Value:=.int .u32 n
abbrev iN(n:Nat):Value:=.int .i64 (n:Int)
abbrev uN(n:Nat):Value:=.int .u64 (n:Int)
abbrev wN(n:Nat):Value:=.int .u32 (n:Int)
abbrev pz(b:Nat):Value:=.pointer (some ⟨b,0,none⟩)
abbrev dv(κ:ag)(n:Nat):Value:=dec ((κ n).getD 0)
theorem fc{α:Type}{p:α->Prop}{a:α}{l:List α}(h:p a)(t:∀ x ∈ l,p x):∀ x ∈ a::l,p x:=List.forall_mem_cons.2 ⟨h,t⟩
theorem fn{α:Type}{p:α->Prop} : ∀ x ∈ ([]:List α),p x:=List.forall_mem_nil p
def vg:List Value->Nat->Value
 | [],_=>.int .i64 0
 | a::_,0=>a
 | _::l,n+1=>vg l n
theorem EA:∀ {l:List Value},(∀ x ∈ l,ai x=true)->∀ n,ai (vg l n)=true
 | [],_,n=>rfl
 | a::l,h,0=>h a (List.mem_cons_self ..)
 | a::l,h,n+1=>EA (λx hx=>h x (List.mem_cons_of_mem _ hx)) n
abbrev kn(vs:List Value)(lf:∀ x ∈ vs,ai x=true)(bs:List gn)(us:List gW)(cs:List gX)(hb:∀ q ∈ bs,jg (vg vs) q)(hu:∀ q ∈ us,jD (vg vs) q)(hc:∀ q ∈ cs,jh (vg vs) q)(W:World)(X:Nat->Prop)(gs:List (List aC))(ops:List tB)(cls:List nT):Kn :=
 ⟨vg vs,EA lf,bs,us,cs,[],hb,hu,hc,gs.map (λl=>star (dn W X::l)),ops,cls⟩
noncomputable def uW(d:Option Nat):Nat->Value->Bool
 | 0,_=>false
 | n+1,v=>match v with
  | .agg f=>f.toList.all (uW d n)
  | .tuple f=>f.toList.all (uW d n)
  | .iface _ v=>uW d n v
  | .complex .f64 _ _=>true
  | .complex .f32 e 0=>(match d with | some d=>Nat.beq d e | none=>false)
  | .complex .f32 e (_+2)=>(match d with | some d=>Nat.beq d e | none=>false)
  | .bool _ | .int _ _ | .string _=>true
  | .pointer none | .slice none 0 0 | .map none=>true
  | _=>false
def r8[aP](cd:Nat):Nat->Value->Value
 | 0,v=>v
 | n+1,v=>match v with
  | .agg f=>.agg (f.toList.map (r8 cd n)).toArray
  | .tuple f=>.tuple (f.toList.map (r8 cd n)).toArray
  | .iface t v=>.iface t (r8 cd n v)
  | .complex .f64 s _=>aP.val s
  | .complex .f32 _ 0=>dec cd
  | .complex .f32 _ (j+2)=>am j (dec cd)
  | v=>v
theorem r9[aP]{ι:ag}{d:Option Nat}{cd n:Nat}{f:Array Value}(hk:f.toList.all (uW d n)=true)(ih:∀ v,uW d n v=true->ao ι v (r8 cd n v)):f.size=(f.toList.map (r8 cd n)).toArray.size/\∀ (i:Nat) (v v':Value),f[i]? = some v->(f.toList.map (r8 cd n)).toArray[i]? = some v'->ao ι v v':=by
 rw[List.all_eq_true]at hk;refine⟨by simp,λi v v' h1 h2=>?_⟩;have h3:v'=r8 cd n v:=by
  have h1':f.toList[i]? = some v:=by simpa using h1
  simp only[List.getElem?_toArray,List.getElem?_map,h1',Option.map_some,Option.some.injEq]at h2;exact h2.symm
 rw[h3];exact ih v (hk v (by rw[Array.mem_toList_iff];exact Array.mem_of_getElem? h1))
theorem II[aP]{ι:ag}{d:Option Nat}{cd:Nat}(hd:∀ e,d=some e->ι e=some cd):∀ (n:Nat) (v:Value),uW d n v=true->ao ι v (r8 cd n v):=by
 intro n
 induction n with
 | zero=>exact λv h=>by cases h
 | succ n ih =>
  intro v h
  match v,h with
  | .agg f,h=>exact .agg _ _ (r9 h ih).1 (r9 h ih).2
  | .tuple f,h=>exact .tuple _ _ (r9 h ih).1 (r9 h ih).2
  | .iface t v,h=>exact .iface t _ _ (ih v h)
  | .complex .f64 s j,h=>exact .sym s j _ rfl
  | .complex .f32 e 0,h =>
   cases hdd:d with
   | none=>rw[hdd]at h;cases h
   | some x =>
    rw[hdd]at h;have he:x=e:=Nat.eq_of_beq_eq_true h;exact .dyn e cd _ (hd e (by rw[hdd,he])) rfl
  | .complex .f32 e 1,h=>cases h
  | .complex .f32 e (j+2),h =>
   cases hdd:d with
   | none=>rw[hdd]at h;cases h
   | some x =>
    rw[hdd]at h;have he:x=e:=Nat.eq_of_beq_eq_true h;exact .sE e cd j _ (hd e (by rw[hdd,he])) rfl
  | .bool b,h=>exact .bool b
  | .int k m,h=>exact .int k m
  | .string s,h=>exact .string s
  | .pointer none,h=>exact .oM
  | .slice none 0 0,h=>exact .c8
  | .map none,h=>exact .n9
theorem IJ[aP]{ι:ag}{n:Nat}{f f':Array Value}(hf:f.size=f'.size)(h:∀ (i:Nat) (v v':Value),f[i]? = some v->f'[i]? = some v'->ao ι v v')(hk:f.toList.all (uW none n)=true)(ih:∀ v v',uW none n v=true->ao ι v v'->v'=r8 0 n v):f'=(f.toList.map (r8 0 n)).toArray:=by
 rw[List.all_eq_true]at hk;apply Array.ext (by simp[hf]);intro i h1 h2;have h3:i<f.size:=by rw[hf];exact h1
 rw[ih f[i] f'[i] (hk _ (by simp)) (h i _ _ (Array.getElem?_eq_getElem h3) (Array.getElem?_eq_getElem h1))];simp
theorem R4[aP]{ι:ag} : ∀ (n:Nat) (v v':Value),uW none n v=true->ao ι v v'->v'=r8 0 n v:=by
 intro n
 induction n with
 | zero=>exact λv v' h=>by cases h
 | succ n ih =>
  intro v v' hk h;cases h with
  | agg f f' hf hr=>exact congrArg Value.agg (IJ hf hr hk ih)
  | tuple f f' hf hr=>exact congrArg Value.tuple (IJ hf hr hk ih)
  | iface t v v' hr=>exact congrArg (Value.iface t) (ih _ _ hk hr)
  | sym m j _ h=>exact h.symm
  | dyn id c _ h h'=>cases hk
  | sE id c j _ h h'=>cases hk
  | junk m _ h=>cases hk
  | bool=>rfl
  | int=>rfl
  | string=>rfl
  | oM=>rfl
  | c8=>rfl
  | n9=>rfl
  | _=>cases hk
theorem ak{k:Kn}{abs args:List Value}(h:abs.all (uW none 5)=true)(e:abs.map (@r8 k.sig 0 5)=args):∀ ι l',(letI:aP:=k.sig;cN ι abs l')->l'=args:=by
 letI:aP:=k.sig;intro ι l' hl;rw[← e];rw[List.all_eq_true]at h;apply List.ext_getElem (by rw[List.length_map];exact hl.1.symm);intro i h1 h2;have h3:i<abs.length:=by simpa using h2
 rw[List.getElem_map];exact R4 5 _ _ (h _ (List.getElem_mem h3)) (hl.2 i _ _ (List.getElem?_eq_getElem h3) (List.getElem?_eq_getElem h1))
theorem vk{k:Kn}{ι:ag}{r rv:Value}(h:uW none 5 r=true)(e:@r8 k.sig 0 5 r=rv):letI:aP:=k.sig;ao ι r rv:=by
 letI:aP:=k.sig;rw[← e];exact II (d:=none) (λ_ h=>by cases h) 5 r h
theorem vd{k:Kn}{ι:ag}{d cd:Nat}{r rv:Value}(hd:ι d=some cd)(h:uW (some d) 5 r=true)(e:@r8 k.sig cd 5 r=rv):letI:aP:=k.sig;ao ι r rv:=by
 letI:aP:=k.sig;rw[← e];exact II (d:=some d) (λ_ h=>by cases h;exact hd) 5 r h
theorem fr{l:List Value}(h:l.all ai=true:=by kernel_rfl):∀ x ∈ l,ai x=true:=λx hx=>List.all_eq_true.1 h x hx
section
variable{vs:List Value}{lf:∀ x ∈ vs,ai x=true}{bs:List gn}{us:List gW}{cs:List gX}{hb:∀ q ∈ bs,jg (vg vs) q}{hu:∀ q ∈ us,jD (vg vs) q}{hc:∀ q ∈ cs,jh (vg vs) q}{W:World}{X:Nat->Prop}{gs:List (List aC)}{ops:List tB}{cls:List nT}{P:Program}{f:FuncId}{abs args:List Value}{g g' d1:Nat}{gl:List aC}{r rv:Value}{ret:Value->Value}
theorem rC{gl:List aC}{g:Nat}(h:gs[g]? = some gl):(kn vs lf bs us cs hb hu hc W X gs ops cls).gs[g]? = some (star (dn W X::gl)):=by
 show(gs.map (λl=>star (dn W X::l)))[g]? = _;rw[List.getElem?_map,h];rfl
theorem pc(hg:gs[g]? = some gl)(con:∀ w,jZ W X w->Calls P f args.toArray w λe w'=>e=.returned rv/\Below w.heap.size w w')(h:(abs.all (uW none 5)&&uW none 5 r)=true:=by kernel_rfl)(e1:abs.map (@r8 (kn vs lf bs us cs hb hu hc W X gs ops cls).sig 0 5)=args:=by kernel_rfl)(e2:@r8 (kn vs lf bs us cs hb hu hc W X gs ops cls).sig 0 5 r=rv:=by kernel_rfl):dQ (kn vs lf bs us cs hb hu hc W X gs ops cls) P ⟨f,abs,g,none,r,none⟩:=by
 rw[Bool.and_eq_true]at h;exact IC (ci:=0) (rC hg) rfl con (λι=>vk h.2 e2) (ak h.1 e1)
theorem cc(hg:gs[g]? = some gl)(lq:List aC)(idx rest:List Nat)(con:∀ (w:World) (F:Nat->Prop),jZ W X w->bI (sel gl idx) F w->(∀ j,F j->X j\/W.heap.size<=j)->Calls P f args.toArray w λe w'=>e=.returned rv/\ah ⟨w,F⟩ lq w')(hg':gs[g']? = some (lq++sel gl rest):=by rfl)(hsel:ku gl.length (idx++rest)=true:=by kernel_rfl)(hf:lP (sel gl idx):=by first | exact trivial | exact⟨λ_ _ _ _ h=>h,trivial⟩ | exact⟨λ_ _ _ _ h=>h,λ_ _ _ _ h=>h,trivial⟩ | exact⟨λ_ _ _ _ h=>h,λ_ _ _ _ h=>h,λ_ _ _ _ h=>h,trivial⟩)
  (h:(abs.all (uW none 5)&&uW none 5 r)=true:=by kernel_rfl) (e1:abs.map (@r8 (kn vs lf bs us cs hb hu hc W X gs ops cls).sig 0 5)=args:=by kernel_rfl) (e2:@r8 (kn vs lf bs us cs hb hu hc W X gs ops cls).sig 0 5 r=rv:=by kernel_rfl):dQ (kn vs lf bs us cs hb hu hc W X gs ops cls) P ⟨f,abs,g,none,r,some g'⟩:=by
 rw[Bool.and_eq_true]at h;exact P4 (c:=⟨W,X⟩) idx rest (rC hg) (rC hg') hsel rfl hf (ak h.1 e1) (λι=>vk h.2 e2) con
theorem cr(hg:gs[g]? = some gl)(idx:List Nat)(con:∀ (w:World) (F:Nat->Prop),jZ W X w->bI (sel gl idx) F w->Calls P f args.toArray w λe w'=>e=.returned rv/\Below w.heap.size w w')(hsel:ku gl.length idx=true:=by kernel_rfl)(hf:lP (sel gl idx):=by first | exact trivial | exact⟨λ_ _ _ _ h=>h,trivial⟩ | exact⟨λ_ _ _ _ h=>h,λ_ _ _ _ h=>h,trivial⟩ | exact⟨λ_ _ _ _ h=>h,λ_ _ _ _ h=>h,λ_ _ _ _ h=>h,trivial⟩)
  (h:(abs.all (uW none 5)&&uW none 5 r)=true:=by kernel_rfl) (e1:abs.map (@r8 (kn vs lf bs us cs hb hu hc W X gs ops cls).sig 0 5)=args:=by kernel_rfl) (e2:@r8 (kn vs lf bs us cs hb hu hc W X gs ops cls).sig 0 5 r=rv:=by kernel_rfl):dQ (kn vs lf bs us cs hb hu hc W X gs ops cls) P ⟨f,abs,g,none,r,none⟩:=by
 rw[Bool.and_eq_true]at h;exact Ng (c:=⟨W,X⟩) idx (rC hg) hsel rfl hf (ak h.1 e1) (λι=>vk h.2 e2) con
theorem cm(hg:gs[g]? = some gl)(fs:List (Value->aC))(lq:List aC)(idx rest:List Nat)(con:∀ (w:World) (F:Nat->Prop),jZ W X w->bI (sel gl idx) F w->(∀ j,F j->X j\/W.heap.size<=j)->Calls P f args.toArray w λe w'=>∃ v cd,dec cd=v/\e=.returned (ret v)/\ah ⟨w,F⟩ (fs.map (λf=>f v)++lq) w')(hg':gs[g']? = some ((fs.map (bP d1)++lq)++sel gl rest):=by rfl)(hsel:ku gl.length (idx++rest)=true:=by kernel_rfl)(hf:lP (sel gl idx):=by first | exact trivial | exact⟨λ_ _ _ _ h=>h,trivial⟩ | exact⟨λ_ _ _ _ h=>h,λ_ _ _ _ h=>h,trivial⟩ | exact⟨λ_ _ _ _ h=>h,λ_ _ _ _ h=>h,λ_ _ _ _ h=>h,trivial⟩)
  (h:(abs.all (uW none 5)&&uW (some d1) 5 r)=true:=by kernel_rfl) (e1:abs.map (@r8 (kn vs lf bs us cs hb hu hc W X gs ops cls).sig 0 5)=args:=by kernel_rfl) (e2:(λcd=>@r8 (kn vs lf bs us cs hb hu hc W X gs ops cls).sig cd 5 r)=(λcd=>ret (dec cd)):=by kernel_rfl):dQ (kn vs lf bs us cs hb hu hc W X gs ops cls) P ⟨f,abs,g,some d1,r,some g'⟩:=by
 rw[Bool.and_eq_true]at h;exact Nh (c:=⟨W,X⟩) fs lq idx rest (rC hg) (rC hg') hsel rfl hf (ak h.1 e1) (λι cd hcd=>vd hcd h.2 (congrFun e2 cd)) con
theorem cd(hg:gs[g]? = some gl)(fs:List (Value->aC))(idx rest:List Nat)(con:∀ (w:World) (F:Nat->Prop),jZ W X w->bI (sel gl idx) F w->(∀ j,F j->X j\/W.heap.size<=j)->Calls P f args.toArray w λe w'=>∃ v cd,dec cd=v/\e=.returned (ret v)/\ah ⟨w,F⟩ (fs.map (λf=>f v)) w')(hg':gs[g']? = some (fs.map (bP d1)++sel gl rest):=by rfl)(hsel:ku gl.length (idx++rest)=true:=by kernel_rfl)(hf:lP (sel gl idx):=by first | exact trivial | exact⟨λ_ _ _ _ h=>h,trivial⟩ | exact⟨λ_ _ _ _ h=>h,λ_ _ _ _ h=>h,trivial⟩ | exact⟨λ_ _ _ _ h=>h,λ_ _ _ _ h=>h,λ_ _ _ _ h=>h,trivial⟩)
  (h:(abs.all (uW none 5)&&uW (some d1) 5 r)=true:=by kernel_rfl) (e1:abs.map (@r8 (kn vs lf bs us cs hb hu hc W X gs ops cls).sig 0 5)=args:=by kernel_rfl) (e2:(λcd=>@r8 (kn vs lf bs us cs hb hu hc W X gs ops cls).sig cd 5 r)=(λcd=>ret (dec cd)):=by kernel_rfl):dQ (kn vs lf bs us cs hb hu hc W X gs ops cls) P ⟨f,abs,g,some d1,r,some g'⟩:=by
 rw[Bool.and_eq_true]at h;exact Nd (c:=⟨W,X⟩) fs idx rest (rC hg) (rC hg') hsel rfl hf (ak h.1 e1) (λι cd hcd=>vd hcd h.2 (congrFun e2 cd)) con
end
end Go.Ev
namespace Go.Proofs.YtbcnbofkgkheeaaGreat
open Go.Ev Go.Proofs.Tryz
open Go.RowKit
open Go.Ev (sy)
set_option maxRecDepth 8000
theorem tY{P:Program}{t:TypeId}{z:Value}{n b:Nat}(h:(P.info? t).map (λi=>(i.zero,i.size,i.bytes))=some (some z,n,b)):∃ i,P.info? t=some i/\i.size=n/\i.zero=some z/\i.bytes=b:=by
 cases hi:P.info? t with
 | none=>rw[hi]at h;cases h
 | some i =>
  rw[hi]at h;simp only[Option.map_some,Option.some.injEq,Prod.mk.injEq]at h;exact⟨i,rfl,h.2.1,h.1,h.2.2⟩
theorem b0:∃ i,prog.info? 3 = some i/\i.size=1/\i.zero=some (.int .i64 0)/\i.bytes=8:=tY (by kernel_rfl)
theorem cK:∃ i,prog.info? 28 = some i/\i.size=1/\i.zero=some (.int .u64 0)/\i.bytes=8:=tY (by kernel_rfl)
theorem pB:lj prog 3:=by
 intro b o x w h;simp[Instr.loadAt,Instr.sureAddr,loadVar,isAgg,run_underlying underlying3,h]
theorem loadU64:lj prog 28:=by
 intro b o x w h;simp[Instr.loadAt,Instr.sureAddr,loadVar,isAgg,run_underlying underlying28,h]
theorem cells_one{x:Value}(h:x.oneCell'=true):x.cells = #[x]:=by cases x<;>first | rfl | cases h
theorem Bi:pw prog 3:=by
 intro b o x x0 w h hf hc;simp[Instr.storeAt,Instr.sureAddr,storeVar,isAgg,run_underlying underlying3,h,cells_one hc,storeCells,run_store _ _ _ _ _ hc,hf,iF]
theorem storeU64:pw prog 28:=by
 intro b o x x0 w h hf hc;simp[Instr.storeAt,Instr.sureAddr,storeVar,isAgg,run_underlying underlying28,h,cells_one hc,storeCells,run_store _ _ _ _ _ hc,hf,iF]
theorem ap{n:Int}(h1:-9223372036854775808<=n)(h2:n<=9223372036854775807):IntKind.i64.wrap n=n:=by
 unfold IntKind.wrap;simp[IntKind.signed,IntKind.bits];omega
def aO(xs:List Int):List Value:=xs.map (Value.int .i64)
theorem mB(xs:List Int)(a:Nat)(v:Int):(aF xs).set (a*1) (.int .u64 v)=aF (xs.set a v):=by simp[aF,List.map_set]
theorem aB{w:World}{F:Nat->Prop}{l:List aC}{N:Nat}{f:FuncId}{args:Array Value}{tm:List (Nat×Value)}{α:Type}{r:α->Value}{l':α->List aC}{R:Ending->World->Prop}(hp:aK prog f [] 0 N ⟨w,F⟩ tm l r l')(hN:cZ prog (λB=>kp B f [] (λfn _=>Nat.beq fn.ntmps N))=true)(h:bI l F w)(ha:args.size<=N)(ht:∀ p ∈ tm,args[p.1]? = some p.2)(hR:∀ x w1,ah ⟨w,F⟩ (l' x) w1->R (.returned (r x)) w1):Calls prog f args w R :=
 cF hN h ha ht (λA hA=>hp A w _ hA hR)
theorem aN{c:fQ}{e:TypeId}{sz n:Nat}{v:Value}{xs:List Value}{l:List aC}{w:World}(h:ah c (aD e sz v n xs::l) w):ai v=true:=by
 obtain⟨f,hf⟩:=h.first
 exact fh.leaf hf
theorem tr{N i kk:Nat}{f:FuncId}{p:List Nat}{c:fQ}(k:Ev.Kn)(ho:∀ q ∈ k.ops,aR k prog q)(hl:∀ q ∈ k.cls,dQ k prog q)(hs:k.ks=[])(rn:List (Nat×Nat))(bl fR:List dZ)(g':Nat){gl y_:List aC}(hg:k.gs[0]? = some (Ev.star (dn c.W c.X::gl)))(hg':k.gs[g']? = some (Ev.star (dn c.W c.X::y_)))(dp jK:List (Nat×Value))(ex:Exit)(hk:v8 rn dp bl jK fR=true:=by kernel_rfl)
  (run:∀ gb:Nat->Value,letI:aP:=k.sig;cZ prog (λB=>kp B f p (λ_ c=>Nat.beq (uV gb N 0 dp).length N&&(Nat.ble N 4094&&(vr 100 rn bl&&AQ ex jK fR g' (lO (uV gb N 0 dp) 0 .leaf (λt=>ij B 400 N kk ((Ev.flat c).drop i) t (fB (ef bl 0) 100)))))))=true:=by intro gb;kernel_rfl) :
  letI:aP:=k.sig;bV prog f p i kk N c (dp.map (Md (aY rn))) (bl.map (g_ (aY rn))++gl) ex (λκ:ag=>jK.map (Md (xY rn κ))) (λκ:ag=>fR.map (g_ (xY rn κ))++y_.map (ke (xY rn κ))) :=
 Wv Tryz.codeOk cR k (Ev.Kn.ok k (λq hq=>by rw[hs]at hq;cases hq) ho hl) (n:=400) (m:=100) rn bl fR 0 g' gl y_ hg hg' dp jK ex hk run
theorem bU{N i:Nat}{f:FuncId}{p:List Nat}{c:fQ}(kk:Nat)(k:Ev.Kn)(ho:∀ q ∈ k.ops,aR k prog q)(hl:∀ q ∈ k.cls,dQ k prog q)(hs:k.ks=[])(rn:List (Nat×Nat))(bl fR:List dZ)(g':Nat){gl y_:List aC}(hg:k.gs[0]? = some (Ev.star (dn c.W c.X::gl)))(hg':k.gs[g']? = some (Ev.star (dn c.W c.X::y_)))(dp:List (Nat×Value))(r:Value)(hk:v8 rn dp bl [(0,r)] fR=true:=by kernel_rfl)
  (run:∀ gb:Nat->Value,letI:aP:=k.sig;cZ prog (λB=>kp B f p (λfn c=>Nat.beq (uV gb N 0 dp).length N&&(Nat.beq fn.ntmps N&&(Nat.ble N 4094&&(vr 100 rn bl&&((fR.all (λq=>Nat.beq (q.1%4) 0)&&Ev.isNil ((Ev.flat c).drop (i+kk)))&&ji r fR (some g') (lO (uV gb N 0 dp) 0 .leaf (λt=>xD B.P fn (ij B 400 N kk ((Ev.flat c).drop i) t (fB (ef bl 0) 100))))))))))=true:=by intro gb;kernel_rfl) :
  letI:aP:=k.sig;aK prog f p i N c (dp.map (Md (aY rn))) (bl.map (g_ (aY rn))++gl) (λκ:ag=>fO 3 (xY rn κ) r) (λκ:ag=>fR.map (g_ (xY rn κ))++y_.map (ke (xY rn κ))) :=
 Uj Tryz.codeOk cR k (Ev.Kn.ok k (λq hq=>by rw[hs]at hq;cases hq) ho hl) (n:=400) (m:=100) (kk:=kk) rn bl fR 0 g' gl y_ hg hg' dp r hk run
end Go.Proofs.YtbcnbofkgkheeaaGreat
namespace Go.Ev
end Go.Ev
namespace Go.Proofs.YtbcnbofkgkheeaaGreat
open Go.Ev Go.Proofs.Tryz
open Go.RowKit
def wi(n a b:Int):Bool:=decide (a<=n)&&decide (n<=b)
set_option maxHeartbeats 400000 in
theorem CV(n a b:Int)(w:World) :
  Calls prog 35 #[.int .i64 n,.int .i64 a,.int .i64 b] w λe w'=>e=.returned (.bool (wi n a b))/\w=w':=by
 by_cases h1:a<=n<;>by_cases h2:n<=b
 all_goals
  go_enter func35,ntmps35
  go_wp2
  go_ret
  exact⟨by simp[wi, *],rfl⟩
def eK(N Q G M T S:Int):Bool :=
 wi N 1 8&&(Q==2||Q==4||Q==8||Q==16||Q==32||Q==64)&&wi G 1 256&&wi M (N+1) 16&&wi T 2 200&&wi S 0 1000
def x4(N Q G M T S:Int):Bool :=
 wi N 1 8&&wi Q 2 64&&(bits .and .i64 Q (wrap64 (Q-1))==0)&&wi G 1 256&&wi M (wrap64 (N+1)) 16&&wi T 2 200&&wi S 0 1000
theorem CW(q:Nat)(h:q<65):(2<=q/\bits .and .i64 (q:Int) (wrap64 ((q:Int)-1))=0)↔(q=2\/q=4\/q=8\/q=16\/q=32\/q=64):=by
 have:∀ q:Fin 65,(2<=q.val/\bits .and .i64 (q.val:Int) (wrap64 ((q.val:Int)-1))=0)↔(q.val=2\/q.val=4\/q.val=8\/q.val=16\/q.val=32\/q.val=64):=by decide +kernel
 exact this ⟨q,h⟩
theorem Gs(N Q G M T S:Int):x4 N Q G M T S=eK N Q G M T S:=by
 unfold x4 eK
 by_cases hN:wi N 1 8=true
 ·have e1:wrap64 (N+1)=N+1:=by
   have h:=hN;simp[wi]at h;unfold wrap64;omega
  have e2:(wi Q 2 64&&(bits .and .i64 Q (wrap64 (Q-1))==0))=(Q==2||Q==4||Q==8||Q==16||Q==32||Q==64):=by
   by_cases hQ:wi Q 2 64=true
   ·have h:=hQ
    simp[wi]at h;obtain⟨q,rfl⟩:=Int.eq_ofNat_of_zero_le (show 0<=Q by omega);have hp:=CW q (by omega);rw[Bool.eq_iff_iff];simp[hQ];rw[show(bits BinOp.and IntKind.i64 (↑q) (wrap64 (↑q-1))=0↔(q=2\/q=4\/q=8\/q=16\/q=32\/q=64)) from⟨λx=>hp.1 ⟨by omega,x⟩,λx=>(hp.2 x).2⟩];omega
   ·have h:=hQ
    simp[wi]at h;rw[Bool.eq_iff_iff];simp[hQ];omega
  rw[e1,← e2];simp[Bool.and_assoc]
 ·simp[hN]
set_option maxHeartbeats 800000 in
theorem CX(N Q G M T S:Int)(w:World) :
  Calls prog 34 #[.agg #[.int .i64 N,.int .i64 Q,.int .i64 G,.int .i64 M,.int .i64 T,.int .i64 S]] w λe w'=>e=.returned (.bool (x4 N Q G M T S))/\Below w.heap.size w w':=by
 go_enter func34,ntmps34
 go_wp2_with (go_at_call 35;refine(CV _ _ _ _).mono ?_;rintro e w' ⟨rfl,rfl⟩)
 all_goals
  go_ret
  refine⟨?_,(Below.refl _ _).alloc (Nat.le_refl _) _⟩;simp[x4, *]
theorem qD(N Q G M T S:Int)(w:World) :
  Calls prog 34 #[.agg #[.int .i64 N,.int .i64 Q,.int .i64 G,.int .i64 M,.int .i64 T,.int .i64 S]] w λe w'=>e=.returned (.bool (eK N Q G M T S))/\Below w.heap.size w w':=by
 rw[← Gs];exact CX N Q G M T S w
def jm(Q:Int):Nat->Bool
 | 0=>false
 | k+1=>jm Q k||(Q==2 ^ (k+1))
theorem CY(Q:Int):jm Q 6=(Q==2||Q==4||Q==8||Q==16||Q==32||Q==64):=by
 simp[jm]
def mC(N Q G M T S:Int):Bool :=
 jm Q 6&&decide (1<=N)&&decide (N<=8)&&decide (1<=G)&&decide (G<=256)&&decide (N<M)&&decide (M<=16)&&decide (2<=T)&&decide (T<=200)&&decide (0<=S)&&decide (S<=1000)
theorem Gt(N Q G M T S:Int):mC N Q G M T S=eK N Q G M T S:=by
 unfold mC eK;rw[CY];generalize (Q==2||Q==4||Q==8||Q==16||Q==32||Q==64)=x;rw[Bool.eq_iff_iff];cases x<;>simp[wi]
 omega
set_option maxHeartbeats 1600000 in
theorem CZ(N Q G M T S:Int)(w:World) :
  Calls prog 63 #[.agg #[.int .i64 N,.int .i64 Q,.int .i64 G,.int .i64 M,.int .i64 T,.int .i64 S]] w λe w'=>e=.returned (.bool (mC N Q G M T S))/\Below w.heap.size w w':=by
 go_enter func63,ntmps63
 go_wp2
 go_loop [3,4] (λr i=>∃ k:Nat,k<=6/\(k=0/\i=.int .i64 2\/k=1/\i=.int .i64 4\/k=2/\i=.int .i64 8\/k=3/\i=.int .i64 16\/k=4/\i=.int .i64 32\/k=5/\i=.int .i64 64\/k=6/\i=.int .i64 128)/\r=.bool (jm Q k)) (λ_ i=>(128-intOf i).toNat)
 case atStart=>exact⟨0,by omega,by simp,rfl⟩
 case round =>
  obtain⟨k,hk,h,rfl⟩:=hrel;rcases h with ⟨rfl,rfl⟩ | ⟨rfl,rfl⟩ | ⟨rfl,rfl⟩ | ⟨rfl,rfl⟩ | ⟨rfl,rfl⟩ | ⟨rfl,rfl⟩ | ⟨rfl,rfl⟩
  all_goals clear hk
  case inl =>
   go_wp2
   all_goals
    refine⟨⟨1,by omega,by simp,?_⟩,by simp[intOf]⟩;show _=Value.bool (jm Q 0||(Q==2));simp[*]
  case inr.inl =>
   go_wp2
   all_goals
    refine⟨⟨2,by omega,by simp,?_⟩,by simp[intOf]⟩;show _=Value.bool (jm Q 1||(Q==4));simp[*]
  case inr.inr.inl =>
   go_wp2
   all_goals
    refine⟨⟨3,by omega,by simp,?_⟩,by simp[intOf]⟩;show _=Value.bool (jm Q 2||(Q==8));simp[*]
  case inr.inr.inr.inl =>
   go_wp2
   all_goals
    refine⟨⟨4,by omega,by simp,?_⟩,by simp[intOf]⟩;show _=Value.bool (jm Q 3||(Q==16));simp[*]
  case inr.inr.inr.inr.inl =>
   go_wp2
   all_goals
    refine⟨⟨5,by omega,by simp,?_⟩,by simp[intOf]⟩;show _=Value.bool (jm Q 4||(Q==32));simp[*]
  case inr.inr.inr.inr.inr.inl =>
   go_wp2
   all_goals
    refine⟨⟨6,by omega,by simp,?_⟩,by simp[intOf]⟩;show _=Value.bool (jm Q 5||(Q==64));simp[*]
  case inr.inr.inr.inr.inr.inr =>
   go_wp2
   all_goals
    go_ret
    refine⟨?_,(Below.refl _ _).alloc (Nat.le_refl _) _⟩;simp[mC, *]
    try omega
theorem pC(N Q G M T S:Int)(w:World) :
  Calls prog 63 #[.agg #[.int .i64 N,.int .i64 Q,.int .i64 G,.int .i64 M,.int .i64 T,.int .i64 S]] w λe w'=>e=.returned (.bool (eK N Q G M T S))/\Below w.heap.size w w':=by
 rw[← Gt];exact CZ N Q G M T S w
end Go.Proofs.YtbcnbofkgkheeaaGreat
namespace Go.Proofs.YtbcnbofkgkheeaaGreat
open Go.Ev Go.Proofs.Tryz
open Go.RowKit
open Go.Ev (sy)
def dS(x:Int):Int:=x / 4294967296
def cq(x:Int):Int:=x%4294967296
def cu(x:Int):Int:=(cq x-dS x)%4294967296
def eB(h t:Int):Int:=h*4294967296+t
def gF(x d:Int):Int:=eB (dS x) ((cq x+d)%4294967296)
def c7(x:Int):Prop:=0<=x/\x<18446744073709551616
theorem lx{x:Int}(h:c7 x):0<=dS x/\dS x<4294967296:=by obtain⟨h1,h2⟩:=h;unfold dS;omega
theorem fq(x:Int):0<=cq x/\cq x<4294967296:=by unfold cq;omega
theorem bj(n:Int):IntKind.u32.wrap n=n%4294967296:=by simp[IntKind.wrap,IntKind.bits,IntKind.signed]
theorem v9(x:Int)(h:c7 x)(w:World):Calls prog 115 #[.int .u64 x] w λe w'=>e=.returned (.int .u32 (cq x))/\w=w':=by
 go_enter func115,ntmps115
 go_wp2
 go_ret
 exact⟨by simp[cq,bj],rfl⟩
theorem IK(x:Int)(h:c7 x)(w:World):Calls prog 118 #[.int .u64 x] w λe w'=>e=.returned (.int .u32 (dS x))/\w=w':=by
 obtain⟨h1,h2⟩:=h
 go_enter func118,ntmps118
 go_wp2
 go_ret
 exact⟨by simp[dS,bj],rfl⟩
theorem x5(a b:Int)(ha:0<=a/\a<4294967296)(hb:0<=b/\b<4294967296):bits .or .u64 (a*4294967296) b=a*4294967296+b:=by
 obtain⟨a,rfl⟩:=Int.eq_ofNat_of_zero_le ha.1;obtain⟨b,rfl⟩:=Int.eq_ofNat_of_zero_le hb.1;have h1:a<4294967296:=by omega
 have h2:b<4294967296:=by omega
 have e1:((a:Int)*4294967296%18446744073709551616).toNat=2 ^ 32*a:=by omega
 have e2:((b:Int)%18446744073709551616).toNat=b:=by omega
 have e3:(2 ^ 32*a ||| b)=2 ^ 32*a+b:=(Nat.two_pow_add_eq_or_of_lt (i:=32) (by omega) a).symm;have e4:(BitVec.ofInt 64 ((a:Int)*4294967296) ||| BitVec.ofInt 64 (b:Int)).toNat=2 ^ 32*a+b:=by
  simp only[BitVec.toNat_or,BitVec.toNat_ofInt];rw[show((2 ^ 64:Nat):Int)=18446744073709551616 by rfl,e1,e2,e3]
 show IntKind.u64.wrap ((BitVec.ofInt 64 ((a:Int)*4294967296) ||| BitVec.ofInt 64 (b:Int)).toNat:Int)=_;rw[e4];simp[IntKind.wrap,IntKind.bits,IntKind.signed];omega
theorem Ow(a b:Int)(ha:0<=a/\a<4294967296)(hb:0<=b/\b<4294967296)(w:World):Calls prog 117 #[.int .u32 a,.int .u32 b] w λe w'=>e=.returned (.int .u64 (eB a b))/\w=w':=by
 go_enter func117,ntmps117
 go_wp2
 go_ret
 exact⟨by simp[eB,x5 a b ha hb],rfl⟩
theorem R5(x:Int)(h:c7 x)(w:World):Calls prog 114 #[.int .u64 x] w λe w'=>e=.returned (.int .u32 (cu x))/\w=w':=by
 go_enter func114,ntmps114
 go_wp2_with (first | (go_at_call 115;refine(v9 x h _).mono ?_;rintro e w' ⟨rfl,rfl⟩) | (go_at_call 118;refine(IK x h _).mono ?_;rintro e w' ⟨rfl,rfl⟩))
 go_ret
 exact⟨by simp[cu,bj],rfl⟩
theorem Ox(x n:Int)(h:c7 x)(w:World):Calls prog 111 #[.int .u64 x,.int .u32 n] w λe w'=>e=.returned (.int .u64 (gF x n))/\w=w':=by
 go_enter func111,ntmps111
 go_wp2_with (first | (go_at_call 115;refine(v9 x h _).mono ?_;rintro e w' ⟨rfl,rfl⟩) | (go_at_call 118;refine(IK x h _).mono ?_;rintro e w' ⟨rfl,rfl⟩) | (go_at_call 117;refine(Ow (dS x) ((cq x+n)%4294967296) (lx h) (by omega) _).mono ?_;rintro e w' ⟨rfl,rfl⟩))
 go_ret
 exact⟨rfl,rfl⟩
theorem Oy(x n:Int)(h:c7 x)(w:World):Calls prog 113 #[.int .u64 x,.int .u32 n] w λe w'=>e=.returned (.int .u64 (gF x (-n)))/\w=w':=by
 go_enter func113,ntmps113
 go_wp2_with (first | (go_at_call 115;refine(v9 x h _).mono ?_;rintro e w' ⟨rfl,rfl⟩) | (go_at_call 118;refine(IK x h _).mono ?_;rintro e w' ⟨rfl,rfl⟩) | (go_at_call 117;refine(Ow (dS x) ((cq x-n)%4294967296) (lx h) (by omega) _).mono ?_;rintro e w' ⟨rfl,rfl⟩))
 go_ret
 exact⟨rfl,rfl⟩
theorem nV(x:Int)(h:c7 x)(w:World):Calls prog 69 #[.int .u64 x] w λe w'=>e=.returned (.int .u32 (cq x))/\w=w':=by
 obtain⟨h1,h2⟩:=h
 go_enter func69,ntmps69
 go_wp2
 go_ret
 exact⟨by simp[cq,bj],rfl⟩
theorem Bj(x:Int)(h:c7 x)(w:World):Calls prog 74 #[.int .u64 x] w λe w'=>e=.returned (.int .u32 (dS x))/\w=w':=by
 obtain⟨h1,h2⟩:=h
 go_enter func74,ntmps74
 go_wp2
 go_ret
 exact⟨by simp[dS,bj],rfl⟩
theorem Oz(a b:Int)(ha:0<=a/\a<4294967296)(hb:0<=b/\b<4294967296)(w:World):Calls prog 73 #[.int .u32 a,.int .u32 b] w λe w'=>e=.returned (.int .u64 (eB a b))/\w=w':=by
 go_enter func73,ntmps73
 go_wp2
 go_ret
 exact⟨by simp[eB],rfl⟩
theorem OA(x:Int)(h:c7 x)(w:World):Calls prog 70 #[.int .u64 x] w λe w'=>e=.returned (.int .u32 (cu x))/\w=w':=by
 go_enter func70,ntmps70
 go_wp2_with (first | (go_at_call 69;refine(nV x h _).mono ?_;rintro e w' ⟨rfl,rfl⟩) | (go_at_call 74;refine(Bj x h _).mono ?_;rintro e w' ⟨rfl,rfl⟩))
 go_ret
 exact⟨by simp[cu,bj],rfl⟩
structure Cf where
 n:Int
 q:Int
 g:Int
 m:Int
 t:Int
 s:Int
abbrev Cf.v(c:Cf):Value:=.agg #[.int .i64 c.n,.int .i64 c.q,.int .i64 c.g,.int .i64 c.m,.int .i64 c.t,.int .i64 c.s]
def Cf.ok(c:Cf):Bool:=eK c.n c.q c.g c.m c.t c.s
structure aT where
 n:Nat
 q:Nat
 g:Int
 m:Int
 t:Int
 s:Int
 h:eK n q g m t s=true
abbrev aT.v(c:aT):Value:=.agg #[.int .i64 (c.n:Int),.int .i64 (c.q:Int),.int .i64 c.g,.int .i64 c.m,.int .i64 c.t,.int .i64 c.s]
theorem jM{n q g m t s:Int}(h:eK n q g m t s=true):(1<=n/\n<=8)/\(q=2\/q=4\/q=8\/q=16\/q=32\/q=64)/\(1<=g/\g<=256)/\(n+1<=m/\m<=16)/\(2<=t/\t<=200)/\(0<=s/\s<=1000):=by
 simp[eK,wi]at h;omega
theorem Cf.cfg{c:Cf}(h:c.ok=true):∃ d:aT,c=⟨d.n,d.q,d.g,d.m,d.t,d.s⟩:=by
 have hp:=jM h;obtain⟨n,q,g,m,t,s⟩:=c;obtain⟨n,rfl⟩:=Int.eq_ofNat_of_zero_le (show 0<=n by simp at hp;omega);obtain⟨q,rfl⟩:=Int.eq_ofNat_of_zero_le (show 0<=q by simp at hp;omega);exact⟨⟨n,q,g,m,t,s,h⟩,rfl⟩
theorem aT.nb(c:aT):1<=c.n/\c.n<=8:=by have:=(jM c.h).1;omega
theorem aT.qb(c:aT):2<=c.q/\c.q<=64:=by have:=(jM c.h).2.1;omega
def aT.off(c:aT)(p:Nat):Nat:=p*(6+c.q)
theorem aT.ft(c:aT){p:Nat}(h:p<c.n):c.off p+(6+c.q)<=c.off c.n:=by
 unfold aT.off;have:=Nat.mul_le_mul_right (6+c.q) (show p+1<=c.n from h);rw[Nat.succ_mul]at this;exact this
theorem aT.gL(c:aT):c.off c.n<=560:=by
 unfold aT.off;have h1:=c.nb.2;have h2:=c.qb.2;exact Nat.le_trans (Nat.mul_le_mul h1 (show 6+c.q<=70 by omega)) (by decide)
def aT.word(c:aT)(p:Nat):Nat:=4+c.off p
def aT.eS(c:aT)(i:Int):Nat:=(i%(c.q:Int)).toNat
theorem aT.mD(c:aT)(i:Int):c.eS i<c.q:=by
 have:=c.qb.1;have h1:=Int.emod_lt_of_pos i (show(0:Int)<(c.q:Int) by omega);unfold aT.eS;have h2:=Int.emod_nonneg i (show(c.q:Int)≠0 by omega);omega
def aT.slot(c:aT)(p:Nat)(i:Int):Nat:=4+c.off p+(6+c.eS i)
def aT.cells(c:aT):Nat:=4+c.off c.n
theorem aT.z0(c:aT):(1<=c.n/\c.n<=8)/\(2<=c.q/\c.q<=64)/\c.off c.n<=560:=⟨c.nb,c.qb,c.gL⟩
theorem aT.z(c:aT){p:Nat}(hp:p<c.n):(1<=c.n/\c.n<=8)/\(2<=c.q/\c.q<=64)/\c.off c.n<=560/\c.off p+(6+c.q)<=c.off c.n/\c.word p=4+c.off p:=⟨c.nb,c.qb,c.gL,c.ft hp,rfl⟩
theorem x6(c:aT){p:Nat}(h:p<c.n):IntKind.i64.wrap ((p:Int)*((6+c.q:Nat):Int))=((c.off p:Nat):Int):=by
 have h1:=c.ft h;have h2:=c.gL;have e:(p:Int)*((6+c.q:Nat):Int)=((c.off p:Nat):Int):=by unfold aT.off;omega
 rw[e,ap (by omega) (by omega)]
theorem Ni(c:aT):IntKind.i64.wrap ((c.n:Int)*((6+c.q:Nat):Int))=((c.off c.n:Nat):Int):=by
 have h2:=c.gL;have e:(c.n:Int)*((6+c.q:Nat):Int)=((c.off c.n:Nat):Int):=by unfold aT.off;omega
 rw[e,ap (by omega) (by omega)]
theorem Bk(c:aT){i:Int}(h:0<=i):i.tmod (c.q:Int)=((c.eS i:Nat):Int):=by
 have h2:=Int.emod_nonneg i (show(c.q:Int)≠0 by have:=c.qb;omega);rw[Int.tmod_eq_emod_of_nonneg h];unfold aT.eS;omega
theorem aT.right(c:aT)(w:World):Calls prog 34 #[c.v] w λe w'=>e=.returned (.bool true)/\Below w.heap.size w w':=by
 have:=qD (c.n:Int) c.q c.g c.m c.t c.s w;rw[c.h]at this;exact this
theorem aT.mC(c:aT)(w:World):Calls prog 63 #[c.v] w λe w'=>e=.returned (.bool true)/\Below w.heap.size w w':=by
 have:=pC (c.n:Int) c.q c.g c.m c.t c.s w;rw[c.h]at this;exact this
theorem Cf.wrong{c:Cf}(h:c.ok=false)(w:World):Calls prog 34 #[c.v] w λe w'=>e=.returned (.bool false)/\Below w.heap.size w w':=by
 have:=qD c.n c.q c.g c.m c.t c.s w;unfold Cf.ok at h;rw[h]at this;exact this
theorem Cf.P_{c:Cf}(h:c.ok=false)(w:World):Calls prog 63 #[c.v] w λe w'=>e=.returned (.bool false)/\Below w.heap.size w w':=by
 have:=pC c.n c.q c.g c.m c.t c.s w;unfold Cf.ok at h;rw[h]at this;exact this
end Go.Proofs.YtbcnbofkgkheeaaGreat
namespace Go.Proofs.YtbcnbofkgkheeaaGreat
open Go.Ev Go.Proofs.Tryz
open Go.RowKit
open Go.Ev (sy iz uz wz iN uN wN pz dv fc fn ak vk vd kn pc cc cr cm cd fr)
set_option maxRecDepth 8000
attribute [local irreducible] dL
abbrev EB:List (Nat×Value):=[(0,.agg #[sy 0,sy 1,sy 2,sy 3,sy 4,sy 5,sy 6]),(1,sy 7)]
theorem Ww(W:World)(c:aT)(p i:Nat)(hp:p<c.n)(hi:i<=70):aK prog 12 [] 0 29 ⟨W,λ_=>False⟩ [(0,(.agg #[iN c.n,iN c.q,iz c.g,iz c.m,iz c.t,iz c.s,iN p])),(1,iN i)] [] (λκ:ag=>(iN ((4+(c.off p))+(i)))) (λκ:ag=>[]):=by have z:=c.z0;have q4:=c.ft hp;exact(bU (c:=⟨W,λ_=>False⟩) 6 (kn [iN (c.n),iN (c.q),iz (c.g),iz (c.m),iz (c.t),iz (c.s),iN (p),iN (i),iN (6+(c.q)),iN (c.off p),iz (((c.n:Nat):Int)-1),iN (4+(c.off p)),iN ((4+(c.off p))+(i))] fr [(.sub,sy 0,iz 1,sy 10),(.geq,sy 6,iz 0,.bool true),(.leq,sy 6,sy 10,.bool true),(.add,iz 6,sy 1,sy 8),(.mul,sy 6,sy 8,sy 9),(.add,iz 4,sy 9,sy 11),(.add,sy 11,sy 7,sy 12)] [] [] (fc (λ_ _ _=>bX (by exact ap (by omega) (by omega))) (fc (λ_ _ _=>bG (by first|(simp;done)|(simp;omega))) (fc (λ_ _ _=>oo (by first|(simp;done)|(simp;omega))) (fc (λ_ _ _=>ax (by rw[ap (by omega) (by omega)];omega)) (fc (λ_ _ _=>fm (x6 c hp)) (fc (λ_ _ _=>ax (by rw[ap (by omega) (by omega)];omega)) (fc (λ_ _ _=>ax (by rw[ap (by omega) (by omega)];omega)) fn))))))) fn fn W (λ_=>False) [[]] [] [⟨34,[.agg #[sy 0,sy 1,sy 2,sy 3,sy 4,sy 5]],0,none,.bool true,none⟩]) fn (fc (pc rfl (λw hb=>c.right w)) fn) rfl [] [] [] 0 rfl rfl EB (sy 12))
theorem Wx(W:World)(c:Cf)(p i:Int)(hc:c.ok=false):aK prog 12 [] 0 29 ⟨W,λ_=>False⟩ [(0,(.agg #[iz c.n,iz c.q,iz c.g,iz c.m,iz c.t,iz c.s,iz p])),(1,iz i)] [] (λκ:ag=>(.int .i64 (-1))) (λκ:ag=>[]):=(bU (c:=⟨W,λ_=>False⟩) 6 (kn [iz (c.n),iz (c.q),iz (c.g),iz (c.m),iz (c.t),iz (c.s),iz (p),iz (i)] fr [] [] [] fn fn fn W (λ_=>False) [[]] [] [⟨34,[.agg #[sy 0,sy 1,sy 2,sy 3,sy 4,sy 5]],0,none,.bool false,none⟩]) fn (fc (pc rfl (λw hb=>Cf.wrong hc w)) fn) rfl [] [] [] 0 rfl rfl EB (.int .i64 (-1)))
theorem Wy(W:World)(c:aT)(p i:Int)(hp:¬ (0<=p/\p<c.n))(h1:¬ (p)≥0):aK prog 12 [] 0 29 ⟨W,λ_=>False⟩ [(0,(.agg #[iN c.n,iN c.q,iz c.g,iz c.m,iz c.t,iz c.s,iz p])),(1,iz i)] [] (λκ:ag=>(.int .i64 (-1))) (λκ:ag=>[]):=by have z:=c.z0;exact(bU (c:=⟨W,λ_=>False⟩) 6 (kn [iN (c.n),iN (c.q),iz (c.g),iz (c.m),iz (c.t),iz (c.s),iz (p),iz (i),iz (((c.n:Nat):Int)-1)] fr [(.sub,sy 0,iz 1,sy 8),(.geq,sy 6,iz 0,.bool false)] [] [] (fc (λ_ _ _=>bX (by exact ap (by omega) (by omega))) (fc (λ_ _ _=>bG (by first|(simpa using h1)|(simp;omega))) fn)) fn fn W (λ_=>False) [[]] [] [⟨34,[.agg #[sy 0,sy 1,sy 2,sy 3,sy 4,sy 5]],0,none,.bool true,none⟩]) fn (fc (pc rfl (λw hb=>c.right w)) fn) rfl [] [] [] 0 rfl rfl EB (.int .i64 (-1)))
theorem Wz(W:World)(c:aT)(p i:Int)(hp:¬ (0<=p/\p<c.n))(h1:(p)≥0):aK prog 12 [] 0 29 ⟨W,λ_=>False⟩ [(0,(.agg #[iN c.n,iN c.q,iz c.g,iz c.m,iz c.t,iz c.s,iz p])),(1,iz i)] [] (λκ:ag=>(.int .i64 (-1))) (λκ:ag=>[]):=by have z:=c.z0;exact(bU (c:=⟨W,λ_=>False⟩) 6 (kn [iN (c.n),iN (c.q),iz (c.g),iz (c.m),iz (c.t),iz (c.s),iz (p),iz (i),iz (((c.n:Nat):Int)-1)] fr [(.sub,sy 0,iz 1,sy 8),(.geq,sy 6,iz 0,.bool true),(.leq,sy 6,sy 8,.bool false)] [] [] (fc (λ_ _ _=>bX (by exact ap (by omega) (by omega))) (fc (λ_ _ _=>bG (by first|(simpa using h1)|(simp;omega))) (fc (λ_ _ _=>oo (by first|(simp;done)|(simp;omega))) fn))) fn fn W (λ_=>False) [[]] [] [⟨34,[.agg #[sy 0,sy 1,sy 2,sy 3,sy 4,sy 5]],0,none,.bool true,none⟩]) fn (fc (pc rfl (λw hb=>c.right w)) fn) rfl [] [] [] 0 rfl rfl EB (.int .i64 (-1)))
theorem cw{W:World}{N:Nat}{f:FuncId}{args:Array Value}{tm:List (Nat×Value)}{r:Value}(hN:cZ prog (λB=>kp B f [] (λfn _=>Nat.beq fn.ntmps N))=true)(ha:args.size<=N)(ht:∀ p ∈ tm,args[p.1]? = some p.2)(h:aK prog f [] 0 N ⟨W,λ_=>False⟩ tm [] (λκ:ag=>r) (λκ:ag=>[])):Calls prog f args W λe w'=>e=.returned r/\Below W.heap.size W w' :=
 cF hN (iJ W) ha ht (λA hA=>h A W _ hA (λκ w1 h1=>⟨rfl,h1.below (λ_ h=>h)⟩))
theorem nU(c:aT)(p i:Nat)(hp:p<c.n)(hi:i<=70)(w:World):Calls prog 12 #[.agg #[.int .i64 (c.n:Int),.int .i64 (c.q:Int),.int .i64 c.g,.int .i64 c.m,.int .i64 c.t,.int .i64 c.s,.int .i64 (p:Int)],.int .i64 (i:Int)] w λe w'=>e=.returned (.int .i64 ((4+c.off p+i:Nat):Int))/\Below w.heap.size w w' :=
 cw (by kernel_rfl) (by simp) (by simp) (Ww w c p i hp hi)
theorem R6(c:Cf)(p i:Int)(hc:c.ok=false)(w:World):Calls prog 12 #[.agg #[.int .i64 c.n,.int .i64 c.q,.int .i64 c.g,.int .i64 c.m,.int .i64 c.t,.int .i64 c.s,.int .i64 p],.int .i64 i] w λe w'=>e=.returned (.int .i64 (-1))/\Below w.heap.size w w' :=
 cw (by kernel_rfl) (by simp) (by simp) (Wx w c p i hc)
theorem P'(c:aT)(p i:Int)(hp:¬ (0<=p/\p<c.n))(w:World):Calls prog 12 #[.agg #[.int .i64 (c.n:Int),.int .i64 (c.q:Int),.int .i64 c.g,.int .i64 c.m,.int .i64 c.t,.int .i64 c.s,.int .i64 p],.int .i64 i] w λe w'=>e=.returned (.int .i64 (-1))/\Below w.heap.size w w':=by
 by_cases h:p≥0
 ·exact cw (by kernel_rfl) (by simp) (by simp) (Wz w c p i hp h)
 ·exact cw (by kernel_rfl) (by simp) (by simp) (Wy w c p i hp h)
abbrev IL(c:aT)(p:Nat):Value:=(.agg #[iN c.n,iN c.q,iz c.g,iz c.m,iz c.t,iz c.s,iN p])
abbrev pD:List (Nat×Value):=[(0,.agg #[sy 0,sy 1,sy 2,sy 3,sy 4,sy 5]),(1,sy 6)]
abbrev EC(c:aT):Value:=(.agg #[iN c.n,iN c.q,iz c.g,iz c.m,iz c.t,iz c.s])
abbrev ED(c:aT)(p:Nat):List (Nat×Value):=[(0,EC c),(1,iN p)]
abbrev IP(c:Cf)(p:Int):List (Nat×Value):=[(0,(.agg #[iz c.n,iz c.q,iz c.g,iz c.m,iz c.t,iz c.s])),(1,iz p)]
abbrev C0(c:aT)(p:Int):List (Nat×Value):=[(0,EC c),(1,iz p)]
abbrev IQ(c:aT)(p:Nat)(i:Int):List (Nat×Value):=[(0,EC c),(1,iN p),(2,wz i)]
theorem Qa(W:World)(c:aT)(p:Nat)(hp:p<c.n):aK prog 5 [] 0 9 ⟨W,λ_=>False⟩ (ED c p) [] (λκ:ag=>(iN (4+c.off p+0))) (λκ:ag=>[]):=(bU (c:=⟨W,λ_=>False⟩) 4 (kn [iN (c.n),iN (c.q),iz (c.g),iz (c.m),iz (c.t),iz (c.s),iN (p),iN (4+c.off p+0)] fr [] [] [] fn fn fn W (λ_=>False) [[]] [] [⟨12,[.agg #[sy 0,sy 1,sy 2,sy 3,sy 4,sy 5,sy 6],iz 0],0,none,sy 7,none⟩]) fn (fc (pc (args:=[(IL c p),iz 0]) rfl (λw hb=>nU c p (0) hp (by have z:=c.z0;have q4:=c.ft hp;omega) w)) fn) rfl [] [] [] 0 rfl rfl pD (sy 7))
theorem Qb(W:World)(c:Cf)(p:Int)(hc:c.ok=false):aK prog 5 [] 0 9 ⟨W,λ_=>False⟩ (IP c p) [] (λκ:ag=>(.int .i64 (-1))) (λκ:ag=>[]):=(bU (c:=⟨W,λ_=>False⟩) 4 (kn [iz (c.n),iz (c.q),iz (c.g),iz (c.m),iz (c.t),iz (c.s),iz (p)] fr [] [] [] fn fn fn W (λ_=>False) [[]] [] [⟨12,[.agg #[sy 0,sy 1,sy 2,sy 3,sy 4,sy 5,sy 6],iz 0],0,none,.int .i64 (-1),none⟩]) fn (fc (pc rfl (λw hb=>R6 c p 0 hc w)) fn) rfl [] [] [] 0 rfl rfl pD (.int .i64 (-1)))
theorem Qc(W:World)(c:aT)(p:Int)(hp:¬ (0<=p/\p<c.n)):aK prog 5 [] 0 9 ⟨W,λ_=>False⟩ (C0 c p) [] (λκ:ag=>(.int .i64 (-1))) (λκ:ag=>[]):=(bU (c:=⟨W,λ_=>False⟩) 4 (kn [iN (c.n),iN (c.q),iz (c.g),iz (c.m),iz (c.t),iz (c.s),iz (p)] fr [] [] [] fn fn fn W (λ_=>False) [[]] [] [⟨12,[.agg #[sy 0,sy 1,sy 2,sy 3,sy 4,sy 5,sy 6],iz 0],0,none,.int .i64 (-1),none⟩]) fn (fc (pc rfl (λw hb=>P' c p 0 hp w)) fn) rfl [] [] [] 0 rfl rfl pD (.int .i64 (-1)))
theorem Qd(W:World)(c:aT)(p:Nat)(hp:p<c.n):aK prog 23 [] 0 9 ⟨W,λ_=>False⟩ (ED c p) [] (λκ:ag=>(iN (4+c.off p+1))) (λκ:ag=>[]):=(bU (c:=⟨W,λ_=>False⟩) 4 (kn [iN (c.n),iN (c.q),iz (c.g),iz (c.m),iz (c.t),iz (c.s),iN (p),iN (4+c.off p+1)] fr [] [] [] fn fn fn W (λ_=>False) [[]] [] [⟨12,[.agg #[sy 0,sy 1,sy 2,sy 3,sy 4,sy 5,sy 6],iz 1],0,none,sy 7,none⟩]) fn (fc (pc (args:=[(IL c p),iz 1]) rfl (λw hb=>nU c p (1) hp (by have z:=c.z0;have q4:=c.ft hp;omega) w)) fn) rfl [] [] [] 0 rfl rfl pD (sy 7))
theorem Qe(W:World)(c:aT)(p:Nat)(hp:p<c.n)(i:Int)(hi:0<=i):aK prog 31 [] 0 21 ⟨W,λ_=>False⟩ (IQ c p i) [] (λκ:ag=>(iN (4+c.off p+(6+c.eS i)))) (λκ:ag=>[]):=by have q2:=c.qb;have z:=c.z0;have q4:=c.ft hp;have q9:=c.mD i;exact(bU (c:=⟨W,λ_=>False⟩) 6 (kn [iN (c.n),iN (c.q),iz (c.g),iz (c.m),iz (c.t),iz (c.s),wz (i),iN (p),wN (c.eS i),wN (c.q),iN (c.eS i),iN (6+(c.eS i)),iN (4+c.off p+(6+c.eS i))] fr [(.rem,sy 6,sy 9,sy 8),(.add,iz 6,sy 10,sy 11)] [] [(.u32,sy 1,sy 9),(.i64,sy 8,sy 10)] (fc (λ_ _ _=>bS (by omega) (Bk c hi)) (fc (λ_ _ _=>ax (by rw[ap (by omega) (by omega)];omega)) fn)) fn (fc (bF rfl rfl (by rw[bj];omega)) (fc (bF rfl rfl (by exact ap (by omega) (by omega))) fn)) W (λ_=>False) [[]] [] [⟨34,[.agg #[sy 0,sy 1,sy 2,sy 3,sy 4,sy 5]],0,none,.bool true,none⟩,⟨12,[.agg #[sy 0,sy 1,sy 2,sy 3,sy 4,sy 5,sy 7],sy 11],0,none,sy 12,none⟩]) fn (fc (pc rfl (λw hb=>c.right w)) (fc (pc (args:=[(IL c p),(iN (6+(c.eS i)))]) rfl (λw hb=>nU c p (6+c.eS i) hp (by omega) w)) fn)) rfl [] [] [] 0 rfl rfl [(0,.agg #[sy 0,sy 1,sy 2,sy 3,sy 4,sy 5]),(1,sy 7),(2,sy 6)] (sy 12))
theorem Nj(W:World)(c:aT):aK prog 29 [] 0 13 ⟨W,λ_=>False⟩ [(0,EC c)] [] (λκ:ag=>(iN (4+(c.off c.n)))) (λκ:ag=>[]):=by have z:=c.z0;exact(bU (c:=⟨W,λ_=>False⟩) 6 (kn [iN (c.n),iN (6+(c.q)),iN (c.q),iz (c.g),iz (c.m),iz (c.t),iz (c.s),iN (c.off c.n),iN (4+(c.off c.n))] fr [(.add,iz 6,sy 2,sy 1),(.mul,sy 0,sy 1,sy 7),(.add,iz 4,sy 7,sy 8)] [] [] (fc (λ_ _ _=>ax (by rw[ap (by omega) (by omega)];omega)) (fc (λ_ _ _=>fm (Ni c)) (fc (λ_ _ _=>ax (by rw[ap (by omega) (by omega)];omega)) fn))) fn fn W (λ_=>False) [[]] [] [⟨34,[.agg #[sy 0,sy 2,sy 3,sy 4,sy 5,sy 6]],0,none,.bool true,none⟩]) fn (fc (pc rfl (λw hb=>c.right w)) fn) rfl [] [] [] 0 rfl rfl [(0,.agg #[sy 0,sy 2,sy 3,sy 4,sy 5,sy 6])] (sy 8))
theorem Nk(W:World)(c:Cf)(hc:c.ok=false):aK prog 29 [] 0 13 ⟨W,λ_=>False⟩ [(0,(.agg #[iz c.n,iz c.q,iz c.g,iz c.m,iz c.t,iz c.s]))] [] (λκ:ag=>(iz 0)) (λκ:ag=>[]):=(bU (c:=⟨W,λ_=>False⟩) 6 (kn [iz (c.n),iz (c.q),iz (c.g),iz (c.m),iz (c.t),iz (c.s)] fr [] [] [] fn fn fn W (λ_=>False) [[]] [] [⟨34,[.agg #[sy 0,sy 1,sy 2,sy 3,sy 4,sy 5]],0,none,.bool false,none⟩]) fn (fc (pc rfl (λw hb=>Cf.wrong hc w)) fn) rfl [] [] [] 0 rfl rfl [(0,.agg #[sy 0,sy 1,sy 2,sy 3,sy 4,sy 5])] (iz 0))
theorem Qf(W:World)(c:aT)(p:Nat)(hp:p<c.n):aK prog 57 [] 0 11 ⟨W,λ_=>False⟩ (ED c p) [] (λκ:ag=>(iN (4+(c.off p)))) (λκ:ag=>[]):=by have z:=c.z0;have q4:=c.ft hp;exact(bU (c:=⟨W,λ_=>False⟩) 4 (kn [iN (c.n),iN (c.q),iz (c.g),iz (c.m),iz (c.t),iz (c.s),iN (p),iN (6+(c.q)),iN (c.off p),iN (4+(c.off p))] fr [(.add,iz 6,sy 1,sy 7),(.mul,sy 6,sy 7,sy 8),(.add,iz 4,sy 8,sy 9)] [] [] (fc (λ_ _ _=>ax (by rw[ap (by omega) (by omega)];omega)) (fc (λ_ _ _=>fm (x6 c hp)) (fc (λ_ _ _=>ax (by rw[ap (by omega) (by omega)];omega)) fn))) fn fn W (λ_=>False) [[]] [] []) fn fn rfl [] [] [] 0 rfl rfl pD (sy 9))
theorem Qg(W:World)(c:aT)(p:Nat)(hp:p<c.n)(i:Int)(hi:0<=i):aK prog 71 [] 0 18 ⟨W,λ_=>False⟩ (IQ c p i) [] (λκ:ag=>(iN (((4+(c.off p))+6)+(c.eS i)))) (λκ:ag=>[]):=by have z:=c.z0;have q4:=c.ft hp;have q9:=c.mD i;have q2:=c.qb;exact(bU (c:=⟨W,λ_=>False⟩) 4 (kn [iN (c.n),iN (c.q),iz (c.g),iz (c.m),iz (c.t),iz (c.s),wz (i),iN (p),iN (6+(c.q)),iN (c.off p),wN (c.eS i),wN (c.q),iN (c.eS i),iN (4+(c.off p)),iN ((4+(c.off p))+6),iN (((4+(c.off p))+6)+(c.eS i))] fr [(.add,iz 6,sy 1,sy 8),(.mul,sy 7,sy 8,sy 9),(.add,iz 4,sy 9,sy 13),(.add,sy 13,iz 6,sy 14),(.rem,sy 6,sy 11,sy 10),(.add,sy 14,sy 12,sy 15)] [] [(.u32,sy 1,sy 11),(.i64,sy 10,sy 12)] (fc (λ_ _ _=>ax (by rw[ap (by omega) (by omega)];omega)) (fc (λ_ _ _=>fm (x6 c hp)) (fc (λ_ _ _=>ax (by rw[ap (by omega) (by omega)];omega)) (fc (λ_ _ _=>ax (by rw[ap (by omega) (by omega)];omega)) (fc (λ_ _ _=>bS (by omega) (Bk c hi)) (fc (λ_ _ _=>ax (by rw[ap (by omega) (by omega)];omega)) fn)))))) fn (fc (bF rfl rfl (by rw[bj];omega)) (fc (bF rfl rfl (by exact ap (by omega) (by omega))) fn)) W (λ_=>False) [[]] [] []) fn fn rfl [] [] [] 0 rfl rfl [(0,.agg #[sy 0,sy 1,sy 2,sy 3,sy 4,sy 5]),(1,sy 7),(2,sy 6)] (sy 15))
theorem Uk(W:World)(c:aT)(p:Nat)(hp:p<c.n):aK prog 42 [] 0 17 ⟨W,λ_=>False⟩ (ED c p) [] (λκ:ag=>(.bool true)) (λκ:ag=>[]):=by have z:=c.z0;have q4:=c.ft hp;exact(bU (c:=⟨W,λ_=>False⟩) 4 (kn [iN (c.n),iN (c.q),iz (c.g),iz (c.m),iz (c.t),iz (c.s),iN (p)] fr [(.geq,sy 6,iz 0,.bool true),(.lss,sy 6,sy 0,.bool true)] [] [] (fc (λ_ _ _=>bG (by first|(simp;done)|(simp;omega))) (fc (λ_ _ _=>aQ (by first|(simp;done)|(simp;omega))) fn)) fn fn W (λ_=>False) [[]] [] [⟨63,[.agg #[sy 0,sy 1,sy 2,sy 3,sy 4,sy 5]],0,none,.bool true,none⟩]) fn (fc (pc rfl (λw hb=>c.mC w)) fn) rfl [] [] [] 0 rfl rfl pD (.bool true))
theorem Ul(W:World)(c:Cf)(p:Int)(hc:c.ok=false):aK prog 42 [] 0 17 ⟨W,λ_=>False⟩ (IP c p) [] (λκ:ag=>(.bool false)) (λκ:ag=>[]):=(bU (c:=⟨W,λ_=>False⟩) 4 (kn [iz (c.n),iz (c.q),iz (c.g),iz (c.m),iz (c.t),iz (c.s),iz (p)] fr [] [] [] fn fn fn W (λ_=>False) [[]] [] [⟨63,[.agg #[sy 0,sy 1,sy 2,sy 3,sy 4,sy 5]],0,none,.bool false,none⟩]) fn (fc (pc rfl (λw hb=>Cf.P_ hc w)) fn) rfl [] [] [] 0 rfl rfl pD (.bool false))
theorem Um(W:World)(c:aT)(p:Int)(hp:¬ (0<=p/\p<c.n))(h1:¬ (p)≥0):aK prog 42 [] 0 17 ⟨W,λ_=>False⟩ (C0 c p) [] (λκ:ag=>(.bool false)) (λκ:ag=>[]):=(bU (c:=⟨W,λ_=>False⟩) 4 (kn [iN (c.n),iN (c.q),iz (c.g),iz (c.m),iz (c.t),iz (c.s),iz (p)] fr [(.geq,sy 6,iz 0,.bool false)] [] [] (fc (λ_ _ _=>bG (by have z:=c.z0;first|(simpa using h1)|(simp;omega))) fn) fn fn W (λ_=>False) [[]] [] [⟨63,[.agg #[sy 0,sy 1,sy 2,sy 3,sy 4,sy 5]],0,none,.bool true,none⟩]) fn (fc (pc rfl (λw hb=>c.mC w)) fn) rfl [] [] [] 0 rfl rfl pD (.bool false))
theorem Un(W:World)(c:aT)(p:Int)(hp:¬ (0<=p/\p<c.n))(h1:(p)≥0):aK prog 42 [] 0 17 ⟨W,λ_=>False⟩ (C0 c p) [] (λκ:ag=>(.bool false)) (λκ:ag=>[]):=by have z:=c.z0;exact(bU (c:=⟨W,λ_=>False⟩) 4 (kn [iN (c.n),iN (c.q),iz (c.g),iz (c.m),iz (c.t),iz (c.s),iz (p)] fr [(.geq,sy 6,iz 0,.bool true),(.lss,sy 6,sy 0,.bool false)] [] [] (fc (λ_ _ _=>bG (by first|(simpa using h1)|(simp;omega))) (fc (λ_ _ _=>aQ (by first|(simp;done)|(simp;omega))) fn)) fn fn W (λ_=>False) [[]] [] [⟨63,[.agg #[sy 0,sy 1,sy 2,sy 3,sy 4,sy 5]],0,none,.bool true,none⟩]) fn (fc (pc rfl (λw hb=>c.mC w)) fn) rfl [] [] [] 0 rfl rfl pD (.bool false))
end Go.Proofs.YtbcnbofkgkheeaaGreat
namespace Go.Proofs.YtbcnbofkgkheeaaGreat
open Go.Ev Go.Proofs.Tryz
open Go.RowKit
open Go.Ev (sy)
set_option maxRecDepth 8000
theorem dD(c:aT)(p:Nat)(hp:p<c.n)(w:World):Calls prog 5 #[c.v,.int .i64 (p:Int)] w λe w'=>e=.returned (.int .i64 ((c.word p:Nat):Int))/\Below w.heap.size w w' :=
 cw (r:=.int .i64 ((c.word p:Nat):Int)) (by kernel_rfl) (by simp) (by simp) (Qa w c p hp)
theorem cW(c:aT)(p:Nat)(hp:p<c.n)(w:World):Calls prog 23 #[c.v,.int .i64 (p:Int)] w λe w'=>e=.returned (.int .i64 ((c.word p+1:Nat):Int))/\Below w.heap.size w w' :=
 cw (r:=.int .i64 ((c.word p+1:Nat):Int)) (by kernel_rfl) (by simp) (by simp) (Qd w c p hp)
theorem EE(c:Cf)(p:Int)(hc:c.ok=false)(w:World):Calls prog 5 #[c.v,.int .i64 p] w λe w'=>e=.returned (.int .i64 (-1))/\Below w.heap.size w w' :=
 cw (r:=.int .i64 (-1)) (by kernel_rfl) (by simp) (by simp) (Qb w c p hc)
theorem Bl(c:aT)(p:Int)(hp:¬ (0<=p/\p<c.n))(w:World):Calls prog 5 #[c.v,.int .i64 p] w λe w'=>e=.returned (.int .i64 (-1))/\Below w.heap.size w w' :=
 cw (r:=.int .i64 (-1)) (by kernel_rfl) (by simp) (by simp) (Qc w c p hp)
theorem pE(c:aT)(p:Nat)(hp:p<c.n)(i:Int)(hi:0<=i)(w:World):Calls prog 31 #[c.v,.int .i64 (p:Int),.int .u32 i] w λe w'=>e=.returned (.int .i64 ((c.slot p i:Nat):Int))/\Below w.heap.size w w' :=
 cw (r:=.int .i64 ((c.slot p i:Nat):Int)) (by kernel_rfl) (by simp) (by simp) (Qe w c p hp i hi)
theorem cells_ok(c:aT)(w:World):Calls prog 29 #[c.v] w λe w'=>e=.returned (.int .i64 ((c.cells:Nat):Int))/\Below w.heap.size w w' :=
 cw (r:=.int .i64 ((c.cells:Nat):Int)) (by kernel_rfl) (by simp) (by simp) (Nj w c)
theorem IU(c:Cf)(hc:c.ok=false)(w:World):Calls prog 29 #[c.v] w λe w'=>e=.returned (.int .i64 0)/\Below w.heap.size w w' :=
 cw (r:=.int .i64 0) (by kernel_rfl) (by simp) (by simp) (Nk w c hc)
theorem b7(c:aT)(p:Nat)(hp:p<c.n)(w:World):Calls prog 57 #[c.v,.int .i64 (p:Int)] w λe w'=>e=.returned (.int .i64 ((c.word p:Nat):Int))/\Below w.heap.size w w' :=
 cw (r:=.int .i64 ((c.word p:Nat):Int)) (by kernel_rfl) (by simp) (by simp) (Qf w c p hp)
theorem tZ(c:aT)(p:Nat)(hp:p<c.n)(i:Int)(hi:0<=i)(w:World):Calls prog 71 #[c.v,.int .i64 (p:Int),.int .u32 i] w λe w'=>e=.returned (.int .i64 ((c.slot p i:Nat):Int))/\Below w.heap.size w w':=by
 have h:=cw (by kernel_rfl) (args:=#[c.v,.int .i64 (p:Int),.int .u32 i]) (by simp) (by simp) (Qg w c p hp i hi);have e:4+c.off p+6+c.eS i=c.slot p i:=by unfold aT.slot;omega
 rw[← e];exact h
theorem jn(c:aT)(p:Nat)(hp:p<c.n)(w:World):Calls prog 42 #[c.v,.int .i64 (p:Int)] w λe w'=>e=.returned (.bool true)/\Below w.heap.size w w' :=
 cw (r:=.bool true) (by kernel_rfl) (by simp) (by simp) (Uk w c p hp)
theorem Bm(c:Cf)(p:Int)(hc:c.ok=false)(w:World):Calls prog 42 #[c.v,.int .i64 p] w λe w'=>e=.returned (.bool false)/\Below w.heap.size w w' :=
 cw (r:=.bool false) (by kernel_rfl) (by simp) (by simp) (Ul w c p hc)
theorem wa(c:aT)(p:Int)(hp:¬ (0<=p/\p<c.n))(w:World):Calls prog 42 #[c.v,.int .i64 p] w λe w'=>e=.returned (.bool false)/\Below w.heap.size w w':=by
 by_cases h:p≥0
 ·exact cw (r:=.bool false) (by kernel_rfl) (by simp) (by simp) (Un w c p hp h)
 ·exact cw (r:=.bool false) (by kernel_rfl) (by simp) (by simp) (Um w c p hp h)
end Go.Proofs.YtbcnbofkgkheeaaGreat
namespace Go.Proofs.YtbcnbofkgkheeaaGreat
open Go.Ev Go.Proofs.Tryz
open Go.RowKit
def pick(n m:Int):Int:=((n.tmod m)+m).tmod m
theorem EF(n m:Int)(h:0<m):-m<n.tmod m:=by
 rcases Int.le_total 0 n with h0 | h0
 ·have:=Int.tmod_nonneg m h0
  omega
 ·have e:n.tmod m = -((-n).tmod m):=by rw[Int.neg_tmod,Int.neg_neg]
  have:=Int.tmod_lt_of_pos (-n) h;omega
theorem ly(n m:Int)(h:0<m):0<=pick n m/\pick n m<m:=by
 unfold pick;have h1:=Int.tmod_lt_of_pos (n.tmod m+m) h;have h2:-m<n.tmod m:=EF n m h;exact⟨Int.tmod_nonneg _ (by omega),h1⟩
set_option maxHeartbeats 400000 in
theorem t5(n m:Int)(h:0<m)(hm:m<=1000000)(w:World) :
  Calls prog 11 #[.int .i64 n,.int .i64 m] w λe w'=>e=.returned (.int .i64 (pick n m))/\Below w.heap.size w w':=by
 have hne:m≠0:=by omega
 have h1:-m<n.tmod m:=EF n m h;have h2:n.tmod m<m:=Int.tmod_lt_of_pos n h;have hw:IntKind.i64.wrap (n.tmod m+m)=n.tmod m+m:=IntWalk.i64_in _ (by omega)
 go_enter func11,ntmps11
 go_wp2
 go_ret
 refine⟨?_,Below.refl _ _⟩;simp_all[pick];rw[Int.tmod_eq_emod_of_nonneg (a:=n.tmod m+m) (by omega),Int.add_emod_right]
end Go.Proofs.YtbcnbofkgkheeaaGreat
