/- Part of a proof: see the last text. -/
import Derived.Test.YtbcnbofkgkheeaaZp15
import Derived.KernelRfl
import Derived.Test.YtbcnbofkgkheeaaRows
import Derived.WalkKit
import Derived.WalkSpells
import Derived.WalkLawsBesides
import Derived.Lib.Hide
namespace Go.Ev
open Go.RowKit
set_option linter.unusedVariables false
set_option linter.unusedSimpArgs false
abbrev iz (n:Int) : Value:=.int .i64 n
abbrev uz (n:Int) : Value:=.int .u64 n
abbrev wz (n:Int) : Value:=.int .u32 n
abbrev iN (n:Nat) : Value:=.int .i64 (n:Int)
abbrev uN (n:Nat) : Value:=.int .u64 (n:Int)
abbrev wN (n:Nat) : Value:=.int .u32 (n:Int)
abbrev pz (b:Nat) : Value:=.pointer (some ⟨b,0,none⟩)
abbrev dv (κ:Ren) (n:Nat) : Value:=dec ((κ n).getD 0)
theorem fc {α:Type} {p:α→Prop} {a:α} {l:List α} (h:p a) (t:∀ x ∈ l,p x) : ∀ x ∈ a::l,p x:=List.forall_mem_cons.2 ⟨h,t⟩
theorem fn {α:Type} {p:α→Prop} : ∀ x ∈ ([] : List α),p x:=List.forall_mem_nil p
def vg:List Value→Nat→Value
 | [],_=>.int .i64 0
 | a::_,0=>a
 | _::l,n+1=>vg l n
theorem vg_leaf:∀ {l:List Value},(∀ x ∈ l,leafV x=true)→∀ n,leafV (vg l n)=true
 | [],_,n=>rfl
 | a::l,h,0=>h a (List.mem_cons_self ..)
 | a::l,h,n+1=>vg_leaf (fun x hx=>h x (List.mem_cons_of_mem _ hx)) n
abbrev kn (vs:List Value) (lf:∀ x ∈ vs,leafV x=true) (bs:List BFact) (us:List UFact) (cs:List CFact) (hb:∀ q ∈ bs,BTrue (vg vs) q) (hu:∀ q ∈ us,UTrue (vg vs) q) (hc:∀ q ∈ cs,CTrue (vg vs) q) (W:World) (X:Nat→Prop) (gs:List (List Asr)) (ops:List GRow) (cls:List GCRow) : Kn :=
 ⟨vg vs,vg_leaf lf,bs,us,cs,[],hb,hu,hc,gs.map (fun l=>star (oldX W X::l)),ops,cls⟩
noncomputable def knD (d:Option Nat) : Nat→Value→Bool
 | 0,_=>false
 | n+1,v=>match v with
  | .agg f=>f.toList.all (knD d n)
  | .tuple f=>f.toList.all (knD d n)
  | .iface _ v=>knD d n v
  | .complex .f64 _ _=>true
  | .complex .f32 e 0=>(match d with | some d=>Nat.beq d e | none=>false)
  | .complex .f32 e (_+2)=>(match d with | some d=>Nat.beq d e | none=>false)
  | .bool _ | .int _ _ | .string _=>true
  | .pointer none | .slice none 0 0 | .map none=>true
  | _=>false
def cvG [Sig] (cd:Nat) : Nat→Value→Value
 | 0,v=>v
 | n+1,v=>match v with
  | .agg f=>.agg (f.toList.map (cvG cd n)).toArray
  | .tuple f=>.tuple (f.toList.map (cvG cd n)).toArray
  | .iface t v=>.iface t (cvG cd n v)
  | .complex .f64 s _=>Sig.val s
  | .complex .f32 _ 0=>dec cd
  | .complex .f32 _ (j+2)=>subV j (dec cd)
  | v=>v
theorem rel_arr [Sig] {ι:Ren} {d:Option Nat} {cd n:Nat} {f:Array Value} (hk:f.toList.all (knD d n)=true) (ih:∀ v,knD d n v=true→VRel ι v (cvG cd n v)) : f.size=(f.toList.map (cvG cd n)).toArray.size∧∀ (i:Nat) (v v':Value),f[i]? = some v→(f.toList.map (cvG cd n)).toArray[i]? = some v'→VRel ι v v':=by
 rw [List.all_eq_true] at hk
 refine ⟨by simp,fun i v v' h1 h2=>?_⟩
 have h3:v'=cvG cd n v:=by
  have h1':f.toList[i]? = some v:=by simpa using h1
  simp only [List.getElem?_toArray,List.getElem?_map,h1',Option.map_some,Option.some.injEq] at h2
  exact h2.symm
 rw [h3]
 exact ih v (hk v (by rw [Array.mem_toList_iff]; exact Array.mem_of_getElem? h1))
theorem rel_kn [Sig] {ι:Ren} {d:Option Nat} {cd:Nat} (hd:∀ e,d=some e→ι e=some cd) : ∀ (n:Nat) (v:Value),knD d n v=true→VRel ι v (cvG cd n v):=by
 intro n
 induction n with
 | zero=>exact fun v h=>by cases h
 | succ n ih =>
  intro v h
  match v,h with
  | .agg f,h=>exact .agg _ _ (rel_arr h ih).1 (rel_arr h ih).2
  | .tuple f,h=>exact .tuple _ _ (rel_arr h ih).1 (rel_arr h ih).2
  | .iface t v,h=>exact .iface t _ _ (ih v h)
  | .complex .f64 s j,h=>exact .sym s j _ rfl
  | .complex .f32 e 0,h =>
   cases hdd:d with
   | none=>rw [hdd] at h; cases h
   | some x =>
    rw [hdd] at h
    have he:x=e:=Nat.eq_of_beq_eq_true h
    exact .dyn e cd _ (hd e (by rw [hdd,he])) rfl
  | .complex .f32 e 1,h=>cases h
  | .complex .f32 e (j+2),h =>
   cases hdd:d with
   | none=>rw [hdd] at h; cases h
   | some x =>
    rw [hdd] at h
    have he:x=e:=Nat.eq_of_beq_eq_true h
    exact .dyn3 e cd j _ (hd e (by rw [hdd,he])) rfl
  | .bool b,h=>exact .bool b
  | .int k m,h=>exact .int k m
  | .string s,h=>exact .string s
  | .pointer none,h=>exact .ptr0
  | .slice none 0 0,h=>exact .slice0
  | .map none,h=>exact .map0
theorem cv_arr [Sig] {ι:Ren} {n:Nat} {f f':Array Value} (hf:f.size=f'.size) (h:∀ (i:Nat) (v v':Value),f[i]? = some v→f'[i]? = some v'→VRel ι v v') (hk:f.toList.all (knD none n)=true) (ih:∀ v v',knD none n v=true→VRel ι v v'→v'=cvG 0 n v) : f'=(f.toList.map (cvG 0 n)).toArray:=by
 rw [List.all_eq_true] at hk
 apply Array.ext (by simp [hf])
 intro i h1 h2
 have h3:i < f.size:=by rw [hf]; exact h1
 rw [ih f[i] f'[i] (hk _ (by simp)) (h i _ _ (Array.getElem?_eq_getElem h3) (Array.getElem?_eq_getElem h1))]
 simp
theorem cv_kn [Sig] {ι:Ren} : ∀ (n:Nat) (v v':Value),knD none n v=true→VRel ι v v'→v'=cvG 0 n v:=by
 intro n
 induction n with
 | zero=>exact fun v v' h=>by cases h
 | succ n ih =>
  intro v v' hk h
  cases h with
  | agg f f' hf hr=>exact congrArg Value.agg (cv_arr hf hr hk ih)
  | tuple f f' hf hr=>exact congrArg Value.tuple (cv_arr hf hr hk ih)
  | iface t v v' hr=>exact congrArg (Value.iface t) (ih _ _ hk hr)
  | sym m j _ h=>exact h.symm
  | dyn id c _ h h'=>cases hk
  | dyn3 id c j _ h h'=>cases hk
  | junk m _ h=>cases hk
  | bool=>rfl
  | int=>rfl
  | string=>rfl
  | ptr0=>rfl
  | slice0=>rfl
  | map0=>rfl
  | _=>cases hk
theorem ak {k:Kn} {abs args:List Value} (h:abs.all (knD none 5)=true) (e:abs.map (@cvG k.sig 0 5)=args) : ∀ ι l',(letI:Sig:=k.sig; LRel ι abs l')→l'=args:=by
 letI:Sig:=k.sig
 intro ι l' hl
 rw [← e]
 rw [List.all_eq_true] at h
 apply List.ext_getElem (by rw [List.length_map]; exact hl.1.symm)
 intro i h1 h2
 have h3:i < abs.length:=by simpa using h2
 rw [List.getElem_map]
 exact cv_kn 5 _ _ (h _ (List.getElem_mem h3)) (hl.2 i _ _ (List.getElem?_eq_getElem h3) (List.getElem?_eq_getElem h1))
theorem vk {k:Kn} {ι:Ren} {r rv:Value} (h:knD none 5 r=true) (e:@cvG k.sig 0 5 r=rv) : letI:Sig:=k.sig; VRel ι r rv:=by
 letI:Sig:=k.sig
 rw [← e]
 exact rel_kn (d:=none) (fun _ h=>by cases h) 5 r h
theorem vd {k:Kn} {ι:Ren} {d cd:Nat} {r rv:Value} (hd:ι d=some cd) (h:knD (some d) 5 r=true) (e:@cvG k.sig cd 5 r=rv) : letI:Sig:=k.sig; VRel ι r rv:=by
 letI:Sig:=k.sig
 rw [← e]
 exact rel_kn (d:=some d) (fun _ h=>by cases h; exact hd) 5 r h
end Go.Ev
namespace Go.Ev
open Go.RowKit
set_option linter.unusedVariables false
set_option linter.unusedSimpArgs false
theorem fr {l:List Value} (h:l.all leafV=true:=by kernel_rfl) : ∀ x ∈ l,leafV x=true:=fun x hx=>List.all_eq_true.1 h x hx
section
variable {vs:List Value} {lf:∀ x ∈ vs,leafV x=true} {bs:List BFact} {us:List UFact} {cs:List CFact} {hb:∀ q ∈ bs,BTrue (vg vs) q} {hu:∀ q ∈ us,UTrue (vg vs) q} {hc:∀ q ∈ cs,CTrue (vg vs) q} {W:World} {X:Nat→Prop} {gs:List (List Asr)} {ops:List GRow} {cls:List GCRow} {P:Program} {f:FuncId} {abs args:List Value} {g g' d1:Nat} {gl:List Asr} {r rv:Value} {ret:Value→Value}
theorem kn_gs {gl:List Asr} {g:Nat} (h:gs[g]? = some gl) : (kn vs lf bs us cs hb hu hc W X gs ops cls).gs[g]? = some (star (oldX W X::gl)):=by
 show (gs.map (fun l=>star (oldX W X::l)))[g]? = _
 rw [List.getElem?_map,h]
 rfl
theorem pc (hg:gs[g]? = some gl) (con:∀ w,OldW W X w→Calls P f args.toArray w fun e w'=>e=.returned rv∧Below w.heap.size w w') (h:(abs.all (knD none 5) && knD none 5 r)=true:=by kernel_rfl) (e1:abs.map (@cvG (kn vs lf bs us cs hb hu hc W X gs ops cls).sig 0 5)=args:=by kernel_rfl) (e2:@cvG (kn vs lf bs us cs hb hu hc W X gs ops cls).sig 0 5 r=rv:=by kernel_rfl) : GCTrue (kn vs lf bs us cs hb hu hc W X gs ops cls) P ⟨f,abs,g,none,r,none⟩:=by
 rw [Bool.and_eq_true] at h
 exact ro_callR (ci:=0) (kn_gs hg) rfl con (fun ι=>vk h.2 e2) (ak h.1 e1)
theorem cc (hg:gs[g]? = some gl) (lq:List Asr) (idx rest:List Nat) (con:∀ (w:World) (F:Nat→Prop),OldW W X w→Now (sel gl idx) F w→(∀ j,F j→X j∨W.heap.size≤j)→Calls P f args.toArray w fun e w'=>e=.returned rv∧Hold ⟨w,F⟩ lq w') (hg':gs[g']? = some (lq++sel gl rest):=by rfl) (hsel:selB gl.length (idx++rest)=true:=by kernel_rfl) (hf:Flats (sel gl idx):=by first | exact trivial | exact ⟨fun _ _ _ _ h=>h,trivial⟩ | exact ⟨fun _ _ _ _ h=>h,fun _ _ _ _ h=>h,trivial⟩ | exact ⟨fun _ _ _ _ h=>h,fun _ _ _ _ h=>h,fun _ _ _ _ h=>h,trivial⟩)
  (h:(abs.all (knD none 5) && knD none 5 r)=true:=by kernel_rfl) (e1:abs.map (@cvG (kn vs lf bs us cs hb hu hc W X gs ops cls).sig 0 5)=args:=by kernel_rfl) (e2:@cvG (kn vs lf bs us cs hb hu hc W X gs ops cls).sig 0 5 r=rv:=by kernel_rfl) : GCTrue (kn vs lf bs us cs hb hu hc W X gs ops cls) P ⟨f,abs,g,none,r,some g'⟩:=by
 rw [Bool.and_eq_true] at h
 exact gc_con (c:=⟨W,X⟩) idx rest (kn_gs hg) (kn_gs hg') hsel rfl hf (ak h.1 e1) (fun ι=>vk h.2 e2) con
theorem cr (hg:gs[g]? = some gl) (idx:List Nat) (con:∀ (w:World) (F:Nat→Prop),OldW W X w→Now (sel gl idx) F w→Calls P f args.toArray w fun e w'=>e=.returned rv∧Below w.heap.size w w') (hsel:selB gl.length idx=true:=by kernel_rfl) (hf:Flats (sel gl idx):=by first | exact trivial | exact ⟨fun _ _ _ _ h=>h,trivial⟩ | exact ⟨fun _ _ _ _ h=>h,fun _ _ _ _ h=>h,trivial⟩ | exact ⟨fun _ _ _ _ h=>h,fun _ _ _ _ h=>h,fun _ _ _ _ h=>h,trivial⟩)
  (h:(abs.all (knD none 5) && knD none 5 r)=true:=by kernel_rfl) (e1:abs.map (@cvG (kn vs lf bs us cs hb hu hc W X gs ops cls).sig 0 5)=args:=by kernel_rfl) (e2:@cvG (kn vs lf bs us cs hb hu hc W X gs ops cls).sig 0 5 r=rv:=by kernel_rfl) : GCTrue (kn vs lf bs us cs hb hu hc W X gs ops cls) P ⟨f,abs,g,none,r,none⟩:=by
 rw [Bool.and_eq_true] at h
 exact gc_read (c:=⟨W,X⟩) idx (kn_gs hg) hsel rfl hf (ak h.1 e1) (fun ι=>vk h.2 e2) con
theorem cm (hg:gs[g]? = some gl) (fs:List (Value→Asr)) (lq:List Asr) (idx rest:List Nat) (con:∀ (w:World) (F:Nat→Prop),OldW W X w→Now (sel gl idx) F w→(∀ j,F j→X j∨W.heap.size≤j)→Calls P f args.toArray w fun e w'=>∃ v cd,dec cd=v∧e=.returned (ret v)∧Hold ⟨w,F⟩ (fs.map (fun f=>f v)++lq) w') (hg':gs[g']? = some ((fs.map (atD d1)++lq)++sel gl rest):=by rfl) (hsel:selB gl.length (idx++rest)=true:=by kernel_rfl) (hf:Flats (sel gl idx):=by first | exact trivial | exact ⟨fun _ _ _ _ h=>h,trivial⟩ | exact ⟨fun _ _ _ _ h=>h,fun _ _ _ _ h=>h,trivial⟩ | exact ⟨fun _ _ _ _ h=>h,fun _ _ _ _ h=>h,fun _ _ _ _ h=>h,trivial⟩)
  (h:(abs.all (knD none 5) && knD (some d1) 5 r)=true:=by kernel_rfl) (e1:abs.map (@cvG (kn vs lf bs us cs hb hu hc W X gs ops cls).sig 0 5)=args:=by kernel_rfl) (e2:(fun cd=>@cvG (kn vs lf bs us cs hb hu hc W X gs ops cls).sig cd 5 r)=(fun cd=>ret (dec cd)):=by kernel_rfl) : GCTrue (kn vs lf bs us cs hb hu hc W X gs ops cls) P ⟨f,abs,g,some d1,r,some g'⟩:=by
 rw [Bool.and_eq_true] at h
 exact gc_dynM (c:=⟨W,X⟩) fs lq idx rest (kn_gs hg) (kn_gs hg') hsel rfl hf (ak h.1 e1) (fun ι cd hcd=>vd hcd h.2 (congrFun e2 cd)) con
theorem cd (hg:gs[g]? = some gl) (fs:List (Value→Asr)) (idx rest:List Nat) (con:∀ (w:World) (F:Nat→Prop),OldW W X w→Now (sel gl idx) F w→(∀ j,F j→X j∨W.heap.size≤j)→Calls P f args.toArray w fun e w'=>∃ v cd,dec cd=v∧e=.returned (ret v)∧Hold ⟨w,F⟩ (fs.map (fun f=>f v)) w') (hg':gs[g']? = some (fs.map (atD d1)++sel gl rest):=by rfl) (hsel:selB gl.length (idx++rest)=true:=by kernel_rfl) (hf:Flats (sel gl idx):=by first | exact trivial | exact ⟨fun _ _ _ _ h=>h,trivial⟩ | exact ⟨fun _ _ _ _ h=>h,fun _ _ _ _ h=>h,trivial⟩ | exact ⟨fun _ _ _ _ h=>h,fun _ _ _ _ h=>h,fun _ _ _ _ h=>h,trivial⟩)
  (h:(abs.all (knD none 5) && knD (some d1) 5 r)=true:=by kernel_rfl) (e1:abs.map (@cvG (kn vs lf bs us cs hb hu hc W X gs ops cls).sig 0 5)=args:=by kernel_rfl) (e2:(fun cd=>@cvG (kn vs lf bs us cs hb hu hc W X gs ops cls).sig cd 5 r)=(fun cd=>ret (dec cd)):=by kernel_rfl) : GCTrue (kn vs lf bs us cs hb hu hc W X gs ops cls) P ⟨f,abs,g,some d1,r,some g'⟩:=by
 rw [Bool.and_eq_true] at h
 exact gc_dynL (c:=⟨W,X⟩) fs idx rest (kn_gs hg) (kn_gs hg') hsel rfl hf (ak h.1 e1) (fun ι cd hcd=>vd hcd h.2 (congrFun e2 cd)) con
end
end Go.Ev
namespace Go.Proofs.Ytbcnbofkgkheeaa
open Go.RowKit
open Go.Ev (sy)
set_option linter.unusedVariables false
set_option linter.unusedSimpArgs false
set_option maxRecDepth 8000
theorem info_z {P:Program} {t:TypeId} {z:Value} {n b:Nat} (h:(P.info? t).map (fun i=>(i.zero,i.size,i.bytes))=some (some z,n,b)) : ∃ i,P.info? t=some i∧i.size=n∧i.zero=some z∧i.bytes=b:=by
 cases hi:P.info? t with
 | none=>rw [hi] at h; cases h
 | some i =>
  rw [hi] at h
  simp only [Option.map_some,Option.some.injEq,Prod.mk.injEq] at h
  exact ⟨i,rfl,h.2.1,h.1,h.2.2⟩
theorem infInt:∃ i,Try.prog.info? 3 = some i∧i.size=1∧i.zero=some (.int .i64 0)∧i.bytes=8:=info_z (by kernel_rfl)
theorem infU64:∃ i,Try.prog.info? 30 = some i∧i.size=1∧i.zero=some (.int .u64 0)∧i.bytes=8:=info_z (by kernel_rfl)
theorem loadInt:Ev.LoadOne Try.prog 3:=by
 intro b o x w h
 simp [Instr.loadAt,Instr.sureAddr,loadVar,isAgg,run_underlying Try.underlying3,h]
theorem loadU64:Ev.LoadOne Try.prog 30:=by
 intro b o x w h
 simp [Instr.loadAt,Instr.sureAddr,loadVar,isAgg,run_underlying Try.underlying30,h]
theorem cells_one {x:Value} (h:x.oneCell'=true) : x.cells = #[x]:=by cases x <;> first | rfl | cases h
theorem storeInt:Ev.StoreOne Try.prog 3:=by
 intro b o x x0 w h hf hc
 simp [Instr.storeAt,Instr.sureAddr,storeVar,isAgg,run_underlying Try.underlying3,h,cells_one hc,storeCells,run_store _ _ _ _ _ hc,hf,Ev.addMk]
theorem storeU64:Ev.StoreOne Try.prog 30:=by
 intro b o x x0 w h hf hc
 simp [Instr.storeAt,Instr.sureAddr,storeVar,isAgg,run_underlying Try.underlying30,h,cells_one hc,storeCells,run_store _ _ _ _ _ hc,hf,Ev.addMk]
theorem wrap_ok {n:Int} (h1:-9223372036854775808≤n) (h2:n≤9223372036854775807) : IntKind.i64.wrap n=n:=by
 unfold IntKind.wrap
 simp [IntKind.signed,IntKind.bits]
 omega
def ints (xs:List Int) : List Value:=xs.map (Value.int .i64)
theorem u64s_set (xs:List Int) (a:Nat) (v:Int) : (u64s xs).set (a * 1) (.int .u64 v)=u64s (xs.set a v):=by simp [u64s,List.map_set]
theorem startP {w:World} {F:Nat→Prop} {l:List Ev.Asr} {N:Nat} {f:FuncId} {args:Array Value} {tm:List (Nat×Value)} {α:Type} {r:α→Value} {l':α→List Ev.Asr} {R:Ending→World→Prop} (hp:Ev.PieE Try.prog f [] 0 N ⟨w,F⟩ tm l r l') (hN:Ev.withB Try.prog (fun B=>Ev.segB B f [] (fun fn _=>Nat.beq fn.ntmps N))=true) (h:Ev.Now l F w) (ha:args.size≤N) (ht:∀ p ∈ tm,args[p.1]? = some p.2) (hR:∀ x w1,Ev.Hold ⟨w,F⟩ (l' x) w1→R (.returned (r x)) w1) : Calls Try.prog f args w R :=
 Ev.con_start hN h ha ht (fun A hA=>hp A w _ hA hR)
theorem hold_leaf {c:Ev.Ctx} {e:TypeId} {sz n:Nat} {v:Value} {xs:List Value} {l:List Ev.Asr} {w:World} (h:Ev.Hold c (Ev.slA e sz v n xs::l) w) : Ev.leafV v=true:=by
 obtain ⟨f,hf⟩:=h.first
 exact Ev.SlV.leaf hf
theorem tr {N i kk:Nat} {f:FuncId} {p:List Nat} {c:Ev.Ctx} (k:Ev.Kn) (ho:∀ q ∈ k.ops,Ev.GTrue k Try.prog q) (hl:∀ q ∈ k.cls,Ev.GCTrue k Try.prog q) (hs:k.ks=[]) (rn:List (Nat×Nat)) (bl bl1:List Ev.Blk) (g':Nat) {gl gl':List Ev.Asr} (hg:k.gs[0]? = some (Ev.star (Ev.oldX c.W c.X::gl))) (hg':k.gs[g']? = some (Ev.star (Ev.oldX c.W c.X::gl'))) (live0 live1:List (Nat×Value)) (ex:Exit) (hk:Ev.knowB rn live0 bl live1 bl1=true:=by kernel_rfl)
  (run:∀ gb:Nat→Value,letI:Ev.Sig:=k.sig; Ev.withB Try.prog (fun B=>Ev.segB B f p (fun _ c=>Nat.beq (Ev.tmL gb N 0 live0).length N && (Nat.ble N 4094 && (Ev.idsB 100 rn bl && Ev.segIs ex live1 bl1 g' (Ev.fromK (Ev.tmL gb N 0 live0) 0 .leaf (fun t=>Ev.pieceF B 400 N kk ((Ev.flat c).drop i) t (Ev.stOf (Ev.objsOf bl 0) 100)))))))=true:=by intro gb; kernel_rfl) :
  letI:Ev.Sig:=k.sig; Ev.Pie Try.prog f p i kk N c (live0.map (Ev.cvp (Ev.renOf rn))) (bl.map (Ev.blkOf (Ev.renOf rn))++gl) ex (fun κ:Ev.Ren=>live1.map (Ev.cvp (Ev.ovr rn κ))) (fun κ:Ev.Ren=>bl1.map (Ev.blkOf (Ev.ovr rn κ))++gl'.map (Ev.frz (Ev.ovr rn κ))) :=
 Ev.tri Try.codeOk mixed_ok k (Ev.Kn.ok k (fun q hq=>by rw [hs] at hq; cases hq) ho hl) (n:=400) (m:=100) rn bl bl1 0 g' gl gl' hg hg' live0 live1 ex hk run
theorem trE {N i:Nat} {f:FuncId} {p:List Nat} {c:Ev.Ctx} (kk:Nat) (k:Ev.Kn) (ho:∀ q ∈ k.ops,Ev.GTrue k Try.prog q) (hl:∀ q ∈ k.cls,Ev.GCTrue k Try.prog q) (hs:k.ks=[]) (rn:List (Nat×Nat)) (bl bl1:List Ev.Blk) (g':Nat) {gl gl':List Ev.Asr} (hg:k.gs[0]? = some (Ev.star (Ev.oldX c.W c.X::gl))) (hg':k.gs[g']? = some (Ev.star (Ev.oldX c.W c.X::gl'))) (live0:List (Nat×Value)) (r:Value) (hk:Ev.knowB rn live0 bl [(0,r)] bl1=true:=by kernel_rfl)
  (run:∀ gb:Nat→Value,letI:Ev.Sig:=k.sig; Ev.withB Try.prog (fun B=>Ev.segB B f p (fun fn c=>Nat.beq (Ev.tmL gb N 0 live0).length N && (Nat.beq fn.ntmps N && (Nat.ble N 4094 && (Ev.idsB 100 rn bl && ((bl1.all (fun q=>Nat.beq (q.1 % 4) 0) && Ev.isNil ((Ev.flat c).drop (i+kk))) && Ev.outIs r bl1 (some g') (Ev.fromK (Ev.tmL gb N 0 live0) 0 .leaf (fun t=>Ev.fret B.P fn (Ev.pieceF B 400 N kk ((Ev.flat c).drop i) t (Ev.stOf (Ev.objsOf bl 0) 100))))))))))=true:=by intro gb; kernel_rfl) :
  letI:Ev.Sig:=k.sig; Ev.PieE Try.prog f p i N c (live0.map (Ev.cvp (Ev.renOf rn))) (bl.map (Ev.blkOf (Ev.renOf rn))++gl) (fun κ:Ev.Ren=>Ev.concF 3 (Ev.ovr rn κ) r) (fun κ:Ev.Ren=>bl1.map (Ev.blkOf (Ev.ovr rn κ))++gl'.map (Ev.frz (Ev.ovr rn κ))) :=
 Ev.triE Try.codeOk mixed_ok k (Ev.Kn.ok k (fun q hq=>by rw [hs] at hq; cases hq) ho hl) (n:=400) (m:=100) (kk:=kk) rn bl bl1 0 g' gl gl' hg hg' live0 r hk run
end Go.Proofs.Ytbcnbofkgkheeaa
namespace Go.Ev
end Go.Ev
namespace Go.Proofs.Ytbcnbofkgkheeaa
open Go.RowKit
set_option linter.unusedVariables false
set_option linter.unusedSimpArgs false
def wi (n a b:Int) : Bool:=decide (a≤n) && decide (n≤b)
set_option maxHeartbeats 400000 in
theorem within_any (n a b:Int) (w:World) :
  Calls Try.prog 54 #[.int .i64 n,.int .i64 a,.int .i64 b] w fun e w'=>e=.returned (.bool (wi n a b))∧w=w':=by
 by_cases h1:a≤n <;> by_cases h2:n≤b
 all_goals
  go_enter Try.func54,Try.ntmps54
  go_wp2
  go_ret
  exact ⟨by simp [wi, *],rfl⟩
def rightB (N Q G M T S:Int) : Bool :=
 wi N 1 8 && (Q == 2 || Q == 4 || Q == 8 || Q == 16 || Q == 32 || Q == 64) && wi G 1 256 && wi M (N+1) 16 && wi T 2 200 && wi S 0 1000
def rightC (N Q G M T S:Int) : Bool :=
 wi N 1 8 && wi Q 2 64 && (bits .and .i64 Q (wrap64 (Q - 1)) == 0) && wi G 1 256 && wi M (wrap64 (N+1)) 16 && wi T 2 200 && wi S 0 1000
theorem pow_two_of (q:Nat) (h:q < 65) : (2≤q∧bits .and .i64 (q:Int) (wrap64 ((q:Int) - 1))=0)↔(q=2∨q=4∨q=8∨q=16∨q=32∨q=64):=by
 have:∀ q:Fin 65,(2≤q.val∧bits .and .i64 (q.val:Int) (wrap64 ((q.val:Int) - 1))=0)↔(q.val=2∨q.val=4∨q.val=8∨q.val=16∨q.val=32∨q.val=64):=by decide +kernel
 exact this ⟨q,h⟩
theorem rightC_eq (N Q G M T S:Int) : rightC N Q G M T S=rightB N Q G M T S:=by
 unfold rightC rightB
 by_cases hN:wi N 1 8=true
 ·have e1:wrap64 (N+1)=N+1:=by
   have h:=hN
   simp [wi] at h
   unfold wrap64
   omega
  have e2:(wi Q 2 64 && (bits .and .i64 Q (wrap64 (Q - 1)) == 0))=(Q == 2 || Q == 4 || Q == 8 || Q == 16 || Q == 32 || Q == 64):=by
   by_cases hQ:wi Q 2 64=true
   ·have h:=hQ
    simp [wi] at h
    obtain ⟨q,rfl⟩:=Int.eq_ofNat_of_zero_le (show 0≤Q by omega)
    have hp:=pow_two_of q (by omega)
    rw [Bool.eq_iff_iff]
    simp [hQ]
    rw [show (bits BinOp.and IntKind.i64 (↑q) (wrap64 (↑q - 1))=0↔(q=2∨q=4∨q=8∨q=16∨q=32∨q=64)) from ⟨fun x=>hp.1 ⟨by omega,x⟩,fun x=>(hp.2 x).2⟩]
    omega
   ·have h:=hQ
    simp [wi] at h
    rw [Bool.eq_iff_iff]
    simp [hQ]
    omega
  rw [e1,← e2]
  simp [Bool.and_assoc]
 ·simp [hN]
set_option maxHeartbeats 800000 in
theorem rightC_any (N Q G M T S:Int) (w:World) :
  Calls Try.prog 32 #[.agg #[.int .i64 N,.int .i64 Q,.int .i64 G,.int .i64 M,.int .i64 T,.int .i64 S]] w fun e w'=>e=.returned (.bool (rightC N Q G M T S))∧Below w.heap.size w w':=by
 go_enter Try.func32,Try.ntmps32
 go_wp2_with (go_at_call 54; refine (within_any _ _ _ _).mono ?_; rintro e w' ⟨rfl,rfl⟩)
 all_goals
  go_ret
  refine ⟨?_,(Below.refl _ _).alloc (Nat.le_refl _) _⟩
  simp [rightC, *]
theorem right_any (N Q G M T S:Int) (w:World) :
  Calls Try.prog 32 #[.agg #[.int .i64 N,.int .i64 Q,.int .i64 G,.int .i64 M,.int .i64 T,.int .i64 S]] w fun e w'=>e=.returned (.bool (rightB N Q G M T S))∧Below w.heap.size w w':=by
 rw [← rightC_eq]
 exact rightC_any N Q G M T S w
def roomTo (Q:Int) : Nat→Bool
 | 0=>false
 | k+1=>roomTo Q k || (Q == 2 ^ (k+1))
theorem roomTo_six (Q:Int) : roomTo Q 6=(Q == 2 || Q == 4 || Q == 8 || Q == 16 || Q == 32 || Q == 64):=by
 simp [roomTo]
def rightR (N Q G M T S:Int) : Bool :=
 roomTo Q 6 && decide (1≤N) && decide (N≤8) && decide (1≤G) && decide (G≤256) && decide (N < M) && decide (M≤16) && decide (2≤T) && decide (T≤200) && decide (0≤S) && decide (S≤1000)
theorem rightR_eq (N Q G M T S:Int) : rightR N Q G M T S=rightB N Q G M T S:=by
 unfold rightR rightB
 rw [roomTo_six]
 generalize (Q == 2 || Q == 4 || Q == 8 || Q == 16 || Q == 32 || Q == 64)=x
 rw [Bool.eq_iff_iff]
 cases x <;> simp [wi]
 omega
set_option maxHeartbeats 1600000 in
theorem rightR_any (N Q G M T S:Int) (w:World) :
  Calls Try.prog 64 #[.agg #[.int .i64 N,.int .i64 Q,.int .i64 G,.int .i64 M,.int .i64 T,.int .i64 S]] w fun e w'=>e=.returned (.bool (rightR N Q G M T S))∧Below w.heap.size w w':=by
 go_enter Try.func64,Try.ntmps64
 go_wp2
 go_loop [3,4] (fun r i=>∃ k:Nat,k≤6∧(k=0∧i=.int .i64 2∨k=1∧i=.int .i64 4∨k=2∧i=.int .i64 8∨k=3∧i=.int .i64 16∨k=4∧i=.int .i64 32∨k=5∧i=.int .i64 64∨k=6∧i=.int .i64 128)∧r=.bool (roomTo Q k)) (fun _ i=>(128 - intOf i).toNat)
 case atStart=>exact ⟨0,by omega,by simp,rfl⟩
 case round =>
  obtain ⟨k,hk,h,rfl⟩:=hrel
  rcases h with ⟨rfl,rfl⟩ | ⟨rfl,rfl⟩ | ⟨rfl,rfl⟩ | ⟨rfl,rfl⟩ | ⟨rfl,rfl⟩ | ⟨rfl,rfl⟩ | ⟨rfl,rfl⟩
  all_goals clear hk
  case inl =>
   go_wp2
   all_goals
    refine ⟨⟨1,by omega,by simp,?_⟩,by simp [intOf]⟩
    show _=Value.bool (roomTo Q 0 || (Q == 2))
    simp [*]
  case inr.inl =>
   go_wp2
   all_goals
    refine ⟨⟨2,by omega,by simp,?_⟩,by simp [intOf]⟩
    show _=Value.bool (roomTo Q 1 || (Q == 4))
    simp [*]
  case inr.inr.inl =>
   go_wp2
   all_goals
    refine ⟨⟨3,by omega,by simp,?_⟩,by simp [intOf]⟩
    show _=Value.bool (roomTo Q 2 || (Q == 8))
    simp [*]
  case inr.inr.inr.inl =>
   go_wp2
   all_goals
    refine ⟨⟨4,by omega,by simp,?_⟩,by simp [intOf]⟩
    show _=Value.bool (roomTo Q 3 || (Q == 16))
    simp [*]
  case inr.inr.inr.inr.inl =>
   go_wp2
   all_goals
    refine ⟨⟨5,by omega,by simp,?_⟩,by simp [intOf]⟩
    show _=Value.bool (roomTo Q 4 || (Q == 32))
    simp [*]
  case inr.inr.inr.inr.inr.inl =>
   go_wp2
   all_goals
    refine ⟨⟨6,by omega,by simp,?_⟩,by simp [intOf]⟩
    show _=Value.bool (roomTo Q 5 || (Q == 64))
    simp [*]
  case inr.inr.inr.inr.inr.inr =>
   go_wp2
   all_goals
    go_ret
    refine ⟨?_,(Below.refl _ _).alloc (Nat.le_refl _) _⟩
    simp [rightR, *]
    try omega
theorem rightRef_any (N Q G M T S:Int) (w:World) :
  Calls Try.prog 64 #[.agg #[.int .i64 N,.int .i64 Q,.int .i64 G,.int .i64 M,.int .i64 T,.int .i64 S]] w fun e w'=>e=.returned (.bool (rightB N Q G M T S))∧Below w.heap.size w w':=by
 rw [← rightR_eq]
 exact rightR_any N Q G M T S w
end Go.Proofs.Ytbcnbofkgkheeaa
namespace Go.Proofs.Ytbcnbofkgkheeaa
open Go.RowKit
open Go.Ev (sy)
set_option linter.unusedVariables false
set_option linter.unusedSimpArgs false
def hdW (x:Int) : Int:=x / 4294967296
def tlW (x:Int) : Int:=x % 4294967296
def szW (x:Int) : Int:=(tlW x - hdW x) % 4294967296
def packW (h t:Int) : Int:=h * 4294967296+t
def mvW (x d:Int) : Int:=packW (hdW x) ((tlW x+d) % 4294967296)
def U64 (x:Int) : Prop:=0≤x∧x < 18446744073709551616
theorem hdW_bd {x:Int} (h:U64 x) : 0≤hdW x∧hdW x < 4294967296:=by obtain ⟨h1,h2⟩:=h; unfold hdW; omega
theorem tlW_bd (x:Int) : 0≤tlW x∧tlW x < 4294967296:=by unfold tlW; omega
theorem wrap32 (n:Int) : IntKind.u32.wrap n=n % 4294967296:=by simp [IntKind.wrap,IntKind.bits,IntKind.signed]
theorem wTail (x:Int) (h:U64 x) (w:World) : Calls Try.prog 113 #[.int .u64 x] w fun e w'=>e=.returned (.int .u32 (tlW x))∧w=w':=by
 go_enter Try.func113,Try.ntmps113
 go_wp2
 go_ret
 exact ⟨by simp [tlW,wrap32],rfl⟩
theorem wHead (x:Int) (h:U64 x) (w:World) : Calls Try.prog 116 #[.int .u64 x] w fun e w'=>e=.returned (.int .u32 (hdW x))∧w=w':=by
 obtain ⟨h1,h2⟩:=h
 go_enter Try.func116,Try.ntmps116
 go_wp2
 go_ret
 exact ⟨by simp [hdW,wrap32],rfl⟩
theorem bits_or (a b:Int) (ha:0≤a∧a < 4294967296) (hb:0≤b∧b < 4294967296) : bits .or .u64 (a * 4294967296) b=a * 4294967296+b:=by
 obtain ⟨a,rfl⟩:=Int.eq_ofNat_of_zero_le ha.1
 obtain ⟨b,rfl⟩:=Int.eq_ofNat_of_zero_le hb.1
 have h1:a < 4294967296:=by omega
 have h2:b < 4294967296:=by omega
 have e1:((a:Int) * 4294967296 % 18446744073709551616).toNat=2 ^ 32 * a:=by omega
 have e2:((b:Int) % 18446744073709551616).toNat=b:=by omega
 have e3:(2 ^ 32 * a ||| b)=2 ^ 32 * a+b:=(Nat.two_pow_add_eq_or_of_lt (i:=32) (by omega) a).symm
 have e4:(BitVec.ofInt 64 ((a:Int) * 4294967296) ||| BitVec.ofInt 64 (b:Int)).toNat=2 ^ 32 * a+b:=by
  simp only [BitVec.toNat_or,BitVec.toNat_ofInt]
  rw [show ((2 ^ 64:Nat) : Int)=18446744073709551616 by rfl,e1,e2,e3]
 show IntKind.u64.wrap ((BitVec.ofInt 64 ((a:Int) * 4294967296) ||| BitVec.ofInt 64 (b:Int)).toNat:Int)=_
 rw [e4]
 simp [IntKind.wrap,IntKind.bits,IntKind.signed]
 omega
theorem wPack (a b:Int) (ha:0≤a∧a < 4294967296) (hb:0≤b∧b < 4294967296) (w:World) : Calls Try.prog 115 #[.int .u32 a,.int .u32 b] w fun e w'=>e=.returned (.int .u64 (packW a b))∧w=w':=by
 go_enter Try.func115,Try.ntmps115
 go_wp2
 go_ret
 exact ⟨by simp [packW,bits_or a b ha hb],rfl⟩
theorem wLen (x:Int) (h:U64 x) (w:World) : Calls Try.prog 112 #[.int .u64 x] w fun e w'=>e=.returned (.int .u32 (szW x))∧w=w':=by
 go_enter Try.func112,Try.ntmps112
 go_wp2_with (first | (go_at_call 113; refine (wTail x h _).mono ?_; rintro e w' ⟨rfl,rfl⟩) | (go_at_call 116; refine (wHead x h _).mono ?_; rintro e w' ⟨rfl,rfl⟩))
 go_ret
 exact ⟨by simp [szW,wrap32],rfl⟩
theorem wGrow (x n:Int) (h:U64 x) (w:World) : Calls Try.prog 109 #[.int .u64 x,.int .u32 n] w fun e w'=>e=.returned (.int .u64 (mvW x n))∧w=w':=by
 go_enter Try.func109,Try.ntmps109
 go_wp2_with (first | (go_at_call 113; refine (wTail x h _).mono ?_; rintro e w' ⟨rfl,rfl⟩) | (go_at_call 116; refine (wHead x h _).mono ?_; rintro e w' ⟨rfl,rfl⟩) | (go_at_call 115; refine (wPack (hdW x) ((tlW x+n) % 4294967296) (hdW_bd h) (by omega) _).mono ?_; rintro e w' ⟨rfl,rfl⟩))
 go_ret
 exact ⟨rfl,rfl⟩
theorem wDrop (x n:Int) (h:U64 x) (w:World) : Calls Try.prog 111 #[.int .u64 x,.int .u32 n] w fun e w'=>e=.returned (.int .u64 (mvW x (-n)))∧w=w':=by
 go_enter Try.func111,Try.ntmps111
 go_wp2_with (first | (go_at_call 113; refine (wTail x h _).mono ?_; rintro e w' ⟨rfl,rfl⟩) | (go_at_call 116; refine (wHead x h _).mono ?_; rintro e w' ⟨rfl,rfl⟩) | (go_at_call 115; refine (wPack (hdW x) ((tlW x - n) % 4294967296) (hdW_bd h) (by omega) _).mono ?_; rintro e w' ⟨rfl,rfl⟩))
 go_ret
 exact ⟨rfl,rfl⟩
theorem rTail (x:Int) (h:U64 x) (w:World) : Calls Try.prog 67 #[.int .u64 x] w fun e w'=>e=.returned (.int .u32 (tlW x))∧w=w':=by
 obtain ⟨h1,h2⟩:=h
 go_enter Try.func67,Try.ntmps67
 go_wp2
 go_ret
 exact ⟨by simp [tlW,wrap32],rfl⟩
theorem rHead (x:Int) (h:U64 x) (w:World) : Calls Try.prog 72 #[.int .u64 x] w fun e w'=>e=.returned (.int .u32 (hdW x))∧w=w':=by
 obtain ⟨h1,h2⟩:=h
 go_enter Try.func72,Try.ntmps72
 go_wp2
 go_ret
 exact ⟨by simp [hdW,wrap32],rfl⟩
theorem rPack (a b:Int) (ha:0≤a∧a < 4294967296) (hb:0≤b∧b < 4294967296) (w:World) : Calls Try.prog 71 #[.int .u32 a,.int .u32 b] w fun e w'=>e=.returned (.int .u64 (packW a b))∧w=w':=by
 go_enter Try.func71,Try.ntmps71
 go_wp2
 go_ret
 exact ⟨by simp [packW],rfl⟩
theorem rSize (x:Int) (h:U64 x) (w:World) : Calls Try.prog 68 #[.int .u64 x] w fun e w'=>e=.returned (.int .u32 (szW x))∧w=w':=by
 go_enter Try.func68,Try.ntmps68
 go_wp2_with (first | (go_at_call 67; refine (rTail x h _).mono ?_; rintro e w' ⟨rfl,rfl⟩) | (go_at_call 72; refine (rHead x h _).mono ?_; rintro e w' ⟨rfl,rfl⟩))
 go_ret
 exact ⟨by simp [szW,wrap32],rfl⟩
end Go.Proofs.Ytbcnbofkgkheeaa
namespace Go.Proofs.Ytbcnbofkgkheeaa
open Go.RowKit
open Go.Ev (sy)
set_option linter.unusedVariables false
set_option linter.unusedSimpArgs false
structure Cf where
 n:Int
 q:Int
 g:Int
 m:Int
 t:Int
 s:Int
abbrev Cf.v (c:Cf) : Value:=.agg #[.int .i64 c.n,.int .i64 c.q,.int .i64 c.g,.int .i64 c.m,.int .i64 c.t,.int .i64 c.s]
def Cf.ok (c:Cf) : Bool:=rightB c.n c.q c.g c.m c.t c.s
structure Cfg where
 n:Nat
 q:Nat
 g:Int
 m:Int
 t:Int
 s:Int
 h:rightB n q g m t s=true
abbrev Cfg.v (c:Cfg) : Value:=.agg #[.int .i64 (c.n:Int),.int .i64 (c.q:Int),.int .i64 c.g,.int .i64 c.m,.int .i64 c.t,.int .i64 c.s]
theorem right_parts {n q g m t s:Int} (h:rightB n q g m t s=true) : (1≤n∧n≤8)∧(q=2∨q=4∨q=8∨q=16∨q=32∨q=64)∧(1≤g∧g≤256)∧(n+1≤m∧m≤16)∧(2≤t∧t≤200)∧(0≤s∧s≤1000):=by
 simp [rightB,wi] at h
 omega
theorem Cf.cfg {c:Cf} (h:c.ok=true) : ∃ d:Cfg,c=⟨d.n,d.q,d.g,d.m,d.t,d.s⟩:=by
 have hp:=right_parts h
 obtain ⟨n,q,g,m,t,s⟩:=c
 obtain ⟨n,rfl⟩:=Int.eq_ofNat_of_zero_le (show 0≤n by simp at hp; omega)
 obtain ⟨q,rfl⟩:=Int.eq_ofNat_of_zero_le (show 0≤q by simp at hp; omega)
 exact ⟨⟨n,q,g,m,t,s,h⟩,rfl⟩
theorem Cfg.nb (c:Cfg) : 1≤c.n∧c.n≤8:=by have:=(right_parts c.h).1; omega
theorem Cfg.qb (c:Cfg) : 2≤c.q∧c.q≤64:=by have:=(right_parts c.h).2.1; omega
def Cfg.off (c:Cfg) (p:Nat) : Nat:=p * (6+c.q)
theorem Cfg.off_le (c:Cfg) {p:Nat} (h:p < c.n) : c.off p+(6+c.q)≤c.off c.n:=by
 unfold Cfg.off
 have:=Nat.mul_le_mul_right (6+c.q) (show p+1≤c.n from h)
 rw [Nat.succ_mul] at this
 exact this
theorem Cfg.off_max (c:Cfg) : c.off c.n≤560:=by
 unfold Cfg.off
 have h1:=c.nb.2
 have h2:=c.qb.2
 exact Nat.le_trans (Nat.mul_le_mul h1 (show 6+c.q≤70 by omega)) (by decide)
def Cfg.word (c:Cfg) (p:Nat) : Nat:=4+c.off p
def Cfg.slotI (c:Cfg) (i:Int) : Nat:=(i % (c.q:Int)).toNat
theorem Cfg.slotI_lt (c:Cfg) (i:Int) : c.slotI i < c.q:=by
 have:=c.qb.1
 have h1:=Int.emod_lt_of_pos i (show (0:Int) < (c.q:Int) by omega)
 unfold Cfg.slotI
 have h2:=Int.emod_nonneg i (show (c.q:Int) ≠ 0 by omega)
 omega
def Cfg.slot (c:Cfg) (p:Nat) (i:Int) : Nat:=4+c.off p+(6+c.slotI i)
def Cfg.cells (c:Cfg) : Nat:=4+c.off c.n
theorem Cfg.z0 (c:Cfg) : (1≤c.n∧c.n≤8)∧(2≤c.q∧c.q≤64)∧c.off c.n≤560:=⟨c.nb,c.qb,c.off_max⟩
theorem Cfg.z (c:Cfg) {p:Nat} (hp:p < c.n) : (1≤c.n∧c.n≤8)∧(2≤c.q∧c.q≤64)∧c.off c.n≤560∧c.off p+(6+c.q)≤c.off c.n∧c.word p=4+c.off p:=⟨c.nb,c.qb,c.off_max,c.off_le hp,rfl⟩
theorem off_mul (c:Cfg) {p:Nat} (h:p < c.n) : IntKind.i64.wrap ((p:Int) * ((6+c.q:Nat) : Int))=((c.off p:Nat) : Int):=by
 have h1:=c.off_le h
 have h2:=c.off_max
 have e:(p:Int) * ((6+c.q:Nat) : Int)=((c.off p:Nat) : Int):=by unfold Cfg.off; omega
 rw [e,wrap_ok (by omega) (by omega)]
theorem off_all (c:Cfg) : IntKind.i64.wrap ((c.n:Int) * ((6+c.q:Nat) : Int))=((c.off c.n:Nat) : Int):=by
 have h2:=c.off_max
 have e:(c.n:Int) * ((6+c.q:Nat) : Int)=((c.off c.n:Nat) : Int):=by unfold Cfg.off; omega
 rw [e,wrap_ok (by omega) (by omega)]
theorem slot_rem (c:Cfg) {i:Int} (h:0≤i) : i.tmod (c.q:Int)=((c.slotI i:Nat) : Int):=by
 have h2:=Int.emod_nonneg i (show (c.q:Int) ≠ 0 by have:=c.qb; omega)
 rw [Int.tmod_eq_emod_of_nonneg h]
 unfold Cfg.slotI
 omega
theorem Cfg.right (c:Cfg) (w:World) : Calls Try.prog 32 #[c.v] w fun e w'=>e=.returned (.bool true)∧Below w.heap.size w w':=by
 have:=right_any (c.n:Int) c.q c.g c.m c.t c.s w
 rw [c.h] at this
 exact this
theorem Cfg.rightR (c:Cfg) (w:World) : Calls Try.prog 64 #[c.v] w fun e w'=>e=.returned (.bool true)∧Below w.heap.size w w':=by
 have:=rightRef_any (c.n:Int) c.q c.g c.m c.t c.s w
 rw [c.h] at this
 exact this
theorem Cf.wrong {c:Cf} (h:c.ok=false) (w:World) : Calls Try.prog 32 #[c.v] w fun e w'=>e=.returned (.bool false)∧Below w.heap.size w w':=by
 have:=right_any c.n c.q c.g c.m c.t c.s w
 unfold Cf.ok at h
 rw [h] at this
 exact this
theorem Cf.wrongR {c:Cf} (h:c.ok=false) (w:World) : Calls Try.prog 64 #[c.v] w fun e w'=>e=.returned (.bool false)∧Below w.heap.size w w':=by
 have:=rightRef_any c.n c.q c.g c.m c.t c.s w
 unfold Cf.ok at h
 rw [h] at this
 exact this
end Go.Proofs.Ytbcnbofkgkheeaa
namespace Go.Proofs.Ytbcnbofkgkheeaa
open Go.RowKit
open Go.Ev (sy iz uz wz iN uN wN pz dv fc fn ak vk vd kn pc cc cr cm cd fr)
set_option linter.unusedVariables false
set_option linter.unusedSimpArgs false
set_option maxRecDepth 8000
attribute [local irreducible] Ev.wpL
abbrev cf1a0:List (Nat×Value):=[(0,.agg #[sy 0,sy 1,sy 2,sy 3,sy 4,sy 5,sy 6]),(1,sy 7)]
theorem caY (W:World) (c:Cfg) (p i:Nat) (hp:p < c.n) (hi:i≤70) : Ev.PieE Try.prog 41 [] 0 29 ⟨W,fun _=>False⟩ [(0,(.agg #[(iN (c.n)),(iN (c.q)),(iz (c.g)),(iz (c.m)),(iz (c.t)),(iz (c.s)),(iN (p))])),(1,(iN (i)))] [] (fun κ:Ev.Ren=>(iN ((4+(c.off p))+(i)))) (fun κ:Ev.Ren=>[]):=(trE (c:=⟨W,fun _=>False⟩) 6 (kn [iN (c.n),iN (c.q),iz (c.g),iz (c.m),iz (c.t),iz (c.s),iN (p),iN (i),iN (6+(c.q)),iN (c.off p),iz (((c.n:Nat) : Int) - 1),iN (4+(c.off p)),iN ((4+(c.off p))+(i))] fr [(.sub,sy 0,.int .i64 1,sy 10),(.geq,sy 6,.int .i64 0,.bool true),(.leq,sy 6,sy 10,.bool true),(.add,.int .i64 6,sy 1,sy 8),(.mul,sy 6,sy 8,sy 9),(.add,.int .i64 4,sy 9,sy 11),(.add,sy 11,sy 7,sy 12)] [] [] (fc (fun _ _ _=>Ev.bt_sub (by have z:=c.z0; have q4:=c.off_le hp; exact wrap_ok (by omega) (by omega))) (fc (fun _ _ _=>Ev.bt_geq (by have z:=c.z0; have q4:=c.off_le hp; first | (simp; done) | (simp; omega))) (fc (fun _ _ _=>Ev.bt_leq (by have z:=c.z0; have q4:=c.off_le hp; first | (simp; done) | (simp; omega))) (fc (fun _ _ _=>Ev.bt_add (by have z:=c.z0; have q4:=c.off_le hp; rw [wrap_ok (by omega) (by omega)]; omega)) (fc (fun _ _ _=>Ev.bt_mul (off_mul c hp)) (fc (fun _ _ _=>Ev.bt_add (by have z:=c.z0; have q4:=c.off_le hp; rw [wrap_ok (by omega) (by omega)]; omega)) (fc (fun _ _ _=>Ev.bt_add (by have z:=c.z0; have q4:=c.off_le hp; rw [wrap_ok (by omega) (by omega)]; omega)) fn))))))) fn fn W (fun _=>False) [[]] [] [⟨32,[.agg #[sy 0,sy 1,sy 2,sy 3,sy 4,sy 5]],0,none,.bool true,none⟩]) fn (fc (pc rfl (fun w hb=>c.right w)) fn) rfl [] [] [] 0 rfl rfl cf1a0 (sy 12))
theorem cbN (W:World) (c:Cf) (p i:Int) (hc:c.ok=false) : Ev.PieE Try.prog 41 [] 0 29 ⟨W,fun _=>False⟩ [(0,(.agg #[(iz (c.n)),(iz (c.q)),(iz (c.g)),(iz (c.m)),(iz (c.t)),(iz (c.s)),(iz (p))])),(1,(iz (i)))] [] (fun κ:Ev.Ren=>(.int .i64 (-1))) (fun κ:Ev.Ren=>[]):=(trE (c:=⟨W,fun _=>False⟩) 6 (kn [iz (c.n),iz (c.q),iz (c.g),iz (c.m),iz (c.t),iz (c.s),iz (p),iz (i)] fr [] [] [] fn fn fn W (fun _=>False) [[]] [] [⟨32,[.agg #[sy 0,sy 1,sy 2,sy 3,sy 4,sy 5]],0,none,.bool false,none⟩]) fn (fc (pc rfl (fun w hb=>Cf.wrong hc w)) fn) rfl [] [] [] 0 rfl rfl cf1a0 (.int .i64 (-1)))
theorem ccL (W:World) (c:Cfg) (p i:Int) (hp:¬ (0≤p∧p < c.n)) (h1:¬ (p) ≥ 0) : Ev.PieE Try.prog 41 [] 0 29 ⟨W,fun _=>False⟩ [(0,(.agg #[(iN (c.n)),(iN (c.q)),(iz (c.g)),(iz (c.m)),(iz (c.t)),(iz (c.s)),(iz (p))])),(1,(iz (i)))] [] (fun κ:Ev.Ren=>(.int .i64 (-1))) (fun κ:Ev.Ren=>[]):=(trE (c:=⟨W,fun _=>False⟩) 6 (kn [iN (c.n),iN (c.q),iz (c.g),iz (c.m),iz (c.t),iz (c.s),iz (p),iz (i),iz (((c.n:Nat) : Int) - 1)] fr [(.sub,sy 0,.int .i64 1,sy 8),(.geq,sy 6,.int .i64 0,.bool false)] [] [] (fc (fun _ _ _=>Ev.bt_sub (by have z:=c.z0; exact wrap_ok (by omega) (by omega))) (fc (fun _ _ _=>Ev.bt_geq (by have z:=c.z0; first | (simpa using h1) | (simp; omega))) fn)) fn fn W (fun _=>False) [[]] [] [⟨32,[.agg #[sy 0,sy 1,sy 2,sy 3,sy 4,sy 5]],0,none,.bool true,none⟩]) fn (fc (pc rfl (fun w hb=>c.right w)) fn) rfl [] [] [] 0 rfl rfl cf1a0 (.int .i64 (-1)))
theorem ccH (W:World) (c:Cfg) (p i:Int) (hp:¬ (0≤p∧p < c.n)) (h1:(p) ≥ 0) : Ev.PieE Try.prog 41 [] 0 29 ⟨W,fun _=>False⟩ [(0,(.agg #[(iN (c.n)),(iN (c.q)),(iz (c.g)),(iz (c.m)),(iz (c.t)),(iz (c.s)),(iz (p))])),(1,(iz (i)))] [] (fun κ:Ev.Ren=>(.int .i64 (-1))) (fun κ:Ev.Ren=>[]):=(trE (c:=⟨W,fun _=>False⟩) 6 (kn [iN (c.n),iN (c.q),iz (c.g),iz (c.m),iz (c.t),iz (c.s),iz (p),iz (i),iz (((c.n:Nat) : Int) - 1)] fr [(.sub,sy 0,.int .i64 1,sy 8),(.geq,sy 6,.int .i64 0,.bool true),(.leq,sy 6,sy 8,.bool false)] [] [] (fc (fun _ _ _=>Ev.bt_sub (by have z:=c.z0; exact wrap_ok (by omega) (by omega))) (fc (fun _ _ _=>Ev.bt_geq (by have z:=c.z0; first | (simpa using h1) | (simp; omega))) (fc (fun _ _ _=>Ev.bt_leq (by have z:=c.z0; first | (simp; done) | (simp; omega))) fn))) fn fn W (fun _=>False) [[]] [] [⟨32,[.agg #[sy 0,sy 1,sy 2,sy 3,sy 4,sy 5]],0,none,.bool true,none⟩]) fn (fc (pc rfl (fun w hb=>c.right w)) fn) rfl [] [] [] 0 rfl rfl cf1a0 (.int .i64 (-1)))
end Go.Proofs.Ytbcnbofkgkheeaa
namespace Go.Proofs.Ytbcnbofkgkheeaa
open Go.RowKit
open Go.Ev (sy iz uz wz iN uN wN pz dv fc fn ak vk vd kn pc cc cr cm cd fr)
set_option linter.unusedVariables false
set_option linter.unusedSimpArgs false
set_option maxRecDepth 8000
attribute [local irreducible] Ev.wpL
theorem start0 {W:World} {N:Nat} {f:FuncId} {args:Array Value} {tm:List (Nat×Value)} {r:Value} (hN:Ev.withB Try.prog (fun B=>Ev.segB B f [] (fun fn _=>Nat.beq fn.ntmps N))=true) (ha:args.size≤N) (ht:∀ p ∈ tm,args[p.1]? = some p.2) (h:Ev.PieE Try.prog f [] 0 N ⟨W,fun _=>False⟩ tm [] (fun κ:Ev.Ren=>r) (fun κ:Ev.Ren=>[])) : Calls Try.prog f args W fun e w'=>e=.returned r∧Below W.heap.size W w' :=
 Ev.con_start hN (Ev.now_nil W) ha ht (fun A hA=>h A W _ hA (fun κ w1 h1=>⟨rfl,h1.below (fun _ h=>h)⟩))
theorem at_ok (c:Cfg) (p i:Nat) (hp:p < c.n) (hi:i≤70) (w:World) : Calls Try.prog 41 #[.agg #[.int .i64 (c.n:Int),.int .i64 (c.q:Int),.int .i64 c.g,.int .i64 c.m,.int .i64 c.t,.int .i64 c.s,.int .i64 (p:Int)],.int .i64 (i:Int)] w fun e w'=>e=.returned (.int .i64 ((4+c.off p+i:Nat) : Int))∧Below w.heap.size w w' :=
 start0 (by kernel_rfl) (by simp) (by simp) (caY w c p i hp hi)
theorem at_no (c:Cf) (p i:Int) (hc:c.ok=false) (w:World) : Calls Try.prog 41 #[.agg #[.int .i64 c.n,.int .i64 c.q,.int .i64 c.g,.int .i64 c.m,.int .i64 c.t,.int .i64 c.s,.int .i64 p],.int .i64 i] w fun e w'=>e=.returned (.int .i64 (-1))∧Below w.heap.size w w' :=
 start0 (by kernel_rfl) (by simp) (by simp) (cbN w c p i hc)
theorem at_off (c:Cfg) (p i:Int) (hp:¬ (0≤p∧p < c.n)) (w:World) : Calls Try.prog 41 #[.agg #[.int .i64 (c.n:Int),.int .i64 (c.q:Int),.int .i64 c.g,.int .i64 c.m,.int .i64 c.t,.int .i64 c.s,.int .i64 p],.int .i64 i] w fun e w'=>e=.returned (.int .i64 (-1))∧Below w.heap.size w w':=by
 by_cases h:p ≥ 0
 ·exact start0 (by kernel_rfl) (by simp) (by simp) (ccH w c p i hp h)
 ·exact start0 (by kernel_rfl) (by simp) (by simp) (ccL w c p i hp h)
abbrev cf2a1 (c:Cfg) (p:Nat) : Value:=(.agg #[(iN (c.n)),(iN (c.q)),(iz (c.g)),(iz (c.m)),(iz (c.t)),(iz (c.s)),(iN (p))])
abbrev cf2a7:List (Nat×Value):=[(0,.agg #[sy 0,sy 1,sy 2,sy 3,sy 4,sy 5]),(1,sy 6)]
abbrev cf2a8 (c:Cfg) : Value:=(.agg #[(iN (c.n)),(iN (c.q)),(iz (c.g)),(iz (c.m)),(iz (c.t)),(iz (c.s))])
abbrev cf2a9 (c:Cfg) (p:Nat) : List (Nat×Value):=[(0,(cf2a8 c)),(1,(iN (p)))]
abbrev cf2a11 (c:Cf) (p:Int) : List (Nat×Value):=[(0,(.agg #[(iz (c.n)),(iz (c.q)),(iz (c.g)),(iz (c.m)),(iz (c.t)),(iz (c.s))])),(1,(iz (p)))]
abbrev cf2a12 (c:Cfg) (p:Int) : List (Nat×Value):=[(0,(cf2a8 c)),(1,(iz (p)))]
abbrev cf2a14 (c:Cfg) (p:Nat) (i:Int) : List (Nat×Value):=[(0,(cf2a8 c)),(1,(iN (p))),(2,(wz (i)))]
theorem cWordY (W:World) (c:Cfg) (p:Nat) (hp:p < c.n) : Ev.PieE Try.prog 26 [] 0 9 ⟨W,fun _=>False⟩ (cf2a9 c p) [] (fun κ:Ev.Ren=>(iN (4+c.off p+0))) (fun κ:Ev.Ren=>[]):=(trE (c:=⟨W,fun _=>False⟩) 4 (kn [iN (c.n),iN (c.q),iz (c.g),iz (c.m),iz (c.t),iz (c.s),iN (p),iN (4+c.off p+0)] fr [] [] [] fn fn fn W (fun _=>False) [[]] [] [⟨41,[.agg #[sy 0,sy 1,sy 2,sy 3,sy 4,sy 5,sy 6],.int .i64 0],0,none,sy 7,none⟩]) fn (fc (pc (args:=[(cf2a1 c p),(.int .i64 0)]) rfl (fun w hb=>at_ok c p (0) hp (by have z:=c.z0; have q4:=c.off_le hp; omega) w)) fn) rfl [] [] [] 0 rfl rfl cf2a7 (sy 7))
theorem bWordN (W:World) (c:Cf) (p:Int) (hc:c.ok=false) : Ev.PieE Try.prog 26 [] 0 9 ⟨W,fun _=>False⟩ (cf2a11 c p) [] (fun κ:Ev.Ren=>(.int .i64 (-1))) (fun κ:Ev.Ren=>[]):=(trE (c:=⟨W,fun _=>False⟩) 4 (kn [iz (c.n),iz (c.q),iz (c.g),iz (c.m),iz (c.t),iz (c.s),iz (p)] fr [] [] [] fn fn fn W (fun _=>False) [[]] [] [⟨41,[.agg #[sy 0,sy 1,sy 2,sy 3,sy 4,sy 5,sy 6],.int .i64 0],0,none,.int .i64 (-1),none⟩]) fn (fc (pc rfl (fun w hb=>at_no c p 0 hc w)) fn) rfl [] [] [] 0 rfl rfl cf2a7 (.int .i64 (-1)))
theorem dWordO (W:World) (c:Cfg) (p:Int) (hp:¬ (0≤p∧p < c.n)) : Ev.PieE Try.prog 26 [] 0 9 ⟨W,fun _=>False⟩ (cf2a12 c p) [] (fun κ:Ev.Ren=>(.int .i64 (-1))) (fun κ:Ev.Ren=>[]):=(trE (c:=⟨W,fun _=>False⟩) 4 (kn [iN (c.n),iN (c.q),iz (c.g),iz (c.m),iz (c.t),iz (c.s),iz (p)] fr [] [] [] fn fn fn W (fun _=>False) [[]] [] [⟨41,[.agg #[sy 0,sy 1,sy 2,sy 3,sy 4,sy 5,sy 6],.int .i64 0],0,none,.int .i64 (-1),none⟩]) fn (fc (pc rfl (fun w hb=>at_off c p 0 hp w)) fn) rfl [] [] [] 0 rfl rfl cf2a7 (.int .i64 (-1)))
theorem cNextY (W:World) (c:Cfg) (p:Nat) (hp:p < c.n) : Ev.PieE Try.prog 13 [] 0 9 ⟨W,fun _=>False⟩ (cf2a9 c p) [] (fun κ:Ev.Ren=>(iN (4+c.off p+1))) (fun κ:Ev.Ren=>[]):=(trE (c:=⟨W,fun _=>False⟩) 4 (kn [iN (c.n),iN (c.q),iz (c.g),iz (c.m),iz (c.t),iz (c.s),iN (p),iN (4+c.off p+1)] fr [] [] [] fn fn fn W (fun _=>False) [[]] [] [⟨41,[.agg #[sy 0,sy 1,sy 2,sy 3,sy 4,sy 5,sy 6],.int .i64 1],0,none,sy 7,none⟩]) fn (fc (pc (args:=[(cf2a1 c p),(.int .i64 1)]) rfl (fun w hb=>at_ok c p (1) hp (by have z:=c.z0; have q4:=c.off_le hp; omega) w)) fn) rfl [] [] [] 0 rfl rfl cf2a7 (sy 7))
theorem cSlotY (W:World) (c:Cfg) (p:Nat) (hp:p < c.n) (i:Int) (hi:0≤i) : Ev.PieE Try.prog 27 [] 0 21 ⟨W,fun _=>False⟩ (cf2a14 c p i) [] (fun κ:Ev.Ren=>(iN (4+c.off p+(6+c.slotI i)))) (fun κ:Ev.Ren=>[]):=(trE (c:=⟨W,fun _=>False⟩) 6 (kn [iN (c.n),iN (c.q),iz (c.g),iz (c.m),iz (c.t),iz (c.s),wz (i),iN (p),wN (c.slotI i),wN (c.q),iN (c.slotI i),iN (6+(c.slotI i)),iN (4+c.off p+(6+c.slotI i))] fr [(.rem,sy 6,sy 9,sy 8),(.add,.int .i64 6,sy 10,sy 11)] [] [(.u32,sy 1,sy 9),(.i64,sy 8,sy 10)] (fc (fun _ _ _=>Ev.bt_rem (by have q2:=c.qb; omega) (slot_rem c hi)) (fc (fun _ _ _=>Ev.bt_add (by have z:=c.z0; have q4:=c.off_le hp; have q9:=c.slotI_lt i; rw [wrap_ok (by omega) (by omega)]; omega)) fn)) fn (fc (Ev.ct_in rfl rfl (by have q2:=c.qb; rw [wrap32]; omega)) (fc (Ev.ct_in rfl rfl (by have q2:=c.qb; have q9:=c.slotI_lt i; exact wrap_ok (by omega) (by omega))) fn)) W (fun _=>False) [[]] [] [⟨32,[.agg #[sy 0,sy 1,sy 2,sy 3,sy 4,sy 5]],0,none,.bool true,none⟩,⟨41,[.agg #[sy 0,sy 1,sy 2,sy 3,sy 4,sy 5,sy 7],sy 11],0,none,sy 12,none⟩]) fn (fc (pc rfl (fun w hb=>c.right w)) (fc (pc (args:=[(cf2a1 c p),(iN (6+(c.slotI i)))]) rfl (fun w hb=>at_ok c p (6+c.slotI i) hp (by have z:=c.z0; have q4:=c.off_le hp; have q9:=c.slotI_lt i; omega) w)) fn)) rfl [] [] [] 0 rfl rfl [(0,.agg #[sy 0,sy 1,sy 2,sy 3,sy 4,sy 5]),(1,sy 7),(2,sy 6)] (sy 12))
theorem cCellsY (W:World) (c:Cfg) : Ev.PieE Try.prog 24 [] 0 13 ⟨W,fun _=>False⟩ [(0,(cf2a8 c))] [] (fun κ:Ev.Ren=>(iN (4+(c.off c.n)))) (fun κ:Ev.Ren=>[]):=(trE (c:=⟨W,fun _=>False⟩) 6 (kn [iN (c.n),iN (6+(c.q)),iN (c.q),iz (c.g),iz (c.m),iz (c.t),iz (c.s),iN (c.off c.n),iN (4+(c.off c.n))] fr [(.add,.int .i64 6,sy 2,sy 1),(.mul,sy 0,sy 1,sy 7),(.add,.int .i64 4,sy 7,sy 8)] [] [] (fc (fun _ _ _=>Ev.bt_add (by have z:=c.z0; rw [wrap_ok (by omega) (by omega)]; omega)) (fc (fun _ _ _=>Ev.bt_mul (off_all c)) (fc (fun _ _ _=>Ev.bt_add (by have z:=c.z0; rw [wrap_ok (by omega) (by omega)]; omega)) fn))) fn fn W (fun _=>False) [[]] [] [⟨32,[.agg #[sy 0,sy 2,sy 3,sy 4,sy 5,sy 6]],0,none,.bool true,none⟩]) fn (fc (pc rfl (fun w hb=>c.right w)) fn) rfl [] [] [] 0 rfl rfl [(0,.agg #[sy 0,sy 2,sy 3,sy 4,sy 5,sy 6])] (sy 8))
theorem bCellsN (W:World) (c:Cf) (hc:c.ok=false) : Ev.PieE Try.prog 24 [] 0 13 ⟨W,fun _=>False⟩ [(0,(.agg #[(iz (c.n)),(iz (c.q)),(iz (c.g)),(iz (c.m)),(iz (c.t)),(iz (c.s))]))] [] (fun κ:Ev.Ren=>(.int .i64 0)) (fun κ:Ev.Ren=>[]):=(trE (c:=⟨W,fun _=>False⟩) 6 (kn [iz (c.n),iz (c.q),iz (c.g),iz (c.m),iz (c.t),iz (c.s)] fr [] [] [] fn fn fn W (fun _=>False) [[]] [] [⟨32,[.agg #[sy 0,sy 1,sy 2,sy 3,sy 4,sy 5]],0,none,.bool false,none⟩]) fn (fc (pc rfl (fun w hb=>Cf.wrong hc w)) fn) rfl [] [] [] 0 rfl rfl [(0,.agg #[sy 0,sy 1,sy 2,sy 3,sy 4,sy 5])] (.int .i64 0))
theorem rWordY (W:World) (c:Cfg) (p:Nat) (hp:p < c.n) : Ev.PieE Try.prog 60 [] 0 11 ⟨W,fun _=>False⟩ (cf2a9 c p) [] (fun κ:Ev.Ren=>(iN (4+(c.off p)))) (fun κ:Ev.Ren=>[]):=(trE (c:=⟨W,fun _=>False⟩) 4 (kn [iN (c.n),iN (c.q),iz (c.g),iz (c.m),iz (c.t),iz (c.s),iN (p),iN (6+(c.q)),iN (c.off p),iN (4+(c.off p))] fr [(.add,.int .i64 6,sy 1,sy 7),(.mul,sy 6,sy 7,sy 8),(.add,.int .i64 4,sy 8,sy 9)] [] [] (fc (fun _ _ _=>Ev.bt_add (by have z:=c.z0; have q4:=c.off_le hp; rw [wrap_ok (by omega) (by omega)]; omega)) (fc (fun _ _ _=>Ev.bt_mul (off_mul c hp)) (fc (fun _ _ _=>Ev.bt_add (by have z:=c.z0; have q4:=c.off_le hp; rw [wrap_ok (by omega) (by omega)]; omega)) fn))) fn fn W (fun _=>False) [[]] [] []) fn fn rfl [] [] [] 0 rfl rfl cf2a7 (sy 9))
theorem rSlotY (W:World) (c:Cfg) (p:Nat) (hp:p < c.n) (i:Int) (hi:0≤i) : Ev.PieE Try.prog 69 [] 0 18 ⟨W,fun _=>False⟩ (cf2a14 c p i) [] (fun κ:Ev.Ren=>(iN (((4+(c.off p))+6)+(c.slotI i)))) (fun κ:Ev.Ren=>[]):=(trE (c:=⟨W,fun _=>False⟩) 4 (kn [iN (c.n),iN (c.q),iz (c.g),iz (c.m),iz (c.t),iz (c.s),wz (i),iN (p),iN (6+(c.q)),iN (c.off p),wN (c.slotI i),wN (c.q),iN (c.slotI i),iN (4+(c.off p)),iN ((4+(c.off p))+6),iN (((4+(c.off p))+6)+(c.slotI i))] fr [(.add,.int .i64 6,sy 1,sy 8),(.mul,sy 7,sy 8,sy 9),(.add,.int .i64 4,sy 9,sy 13),(.add,sy 13,.int .i64 6,sy 14),(.rem,sy 6,sy 11,sy 10),(.add,sy 14,sy 12,sy 15)] [] [(.u32,sy 1,sy 11),(.i64,sy 10,sy 12)] (fc (fun _ _ _=>Ev.bt_add (by have z:=c.z0; have q4:=c.off_le hp; have q9:=c.slotI_lt i; rw [wrap_ok (by omega) (by omega)]; omega)) (fc (fun _ _ _=>Ev.bt_mul (off_mul c hp)) (fc (fun _ _ _=>Ev.bt_add (by have z:=c.z0; have q4:=c.off_le hp; have q9:=c.slotI_lt i; rw [wrap_ok (by omega) (by omega)]; omega)) (fc (fun _ _ _=>Ev.bt_add (by have z:=c.z0; have q4:=c.off_le hp; have q9:=c.slotI_lt i; rw [wrap_ok (by omega) (by omega)]; omega)) (fc (fun _ _ _=>Ev.bt_rem (by have q2:=c.qb; omega) (slot_rem c hi)) (fc (fun _ _ _=>Ev.bt_add (by have z:=c.z0; have q4:=c.off_le hp; have q9:=c.slotI_lt i; rw [wrap_ok (by omega) (by omega)]; omega)) fn)))))) fn (fc (Ev.ct_in rfl rfl (by have q2:=c.qb; rw [wrap32]; omega)) (fc (Ev.ct_in rfl rfl (by have q2:=c.qb; have q9:=c.slotI_lt i; exact wrap_ok (by omega) (by omega))) fn)) W (fun _=>False) [[]] [] []) fn fn rfl [] [] [] 0 rfl rfl [(0,.agg #[sy 0,sy 1,sy 2,sy 3,sy 4,sy 5]),(1,sy 7),(2,sy 6)] (sy 15))
theorem rThY (W:World) (c:Cfg) (p:Nat) (hp:p < c.n) : Ev.PieE Try.prog 48 [] 0 17 ⟨W,fun _=>False⟩ (cf2a9 c p) [] (fun κ:Ev.Ren=>(.bool true)) (fun κ:Ev.Ren=>[]):=(trE (c:=⟨W,fun _=>False⟩) 4 (kn [iN (c.n),iN (c.q),iz (c.g),iz (c.m),iz (c.t),iz (c.s),iN (p)] fr [(.geq,sy 6,.int .i64 0,.bool true),(.lss,sy 6,sy 0,.bool true)] [] [] (fc (fun _ _ _=>Ev.bt_geq (by have z:=c.z0; have q4:=c.off_le hp; first | (simp; done) | (simp; omega))) (fc (fun _ _ _=>Ev.bt_lss (by have z:=c.z0; have q4:=c.off_le hp; first | (simp; done) | (simp; omega))) fn)) fn fn W (fun _=>False) [[]] [] [⟨64,[.agg #[sy 0,sy 1,sy 2,sy 3,sy 4,sy 5]],0,none,.bool true,none⟩]) fn (fc (pc rfl (fun w hb=>c.rightR w)) fn) rfl [] [] [] 0 rfl rfl cf2a7 (.bool true))
theorem rTbN (W:World) (c:Cf) (p:Int) (hc:c.ok=false) : Ev.PieE Try.prog 48 [] 0 17 ⟨W,fun _=>False⟩ (cf2a11 c p) [] (fun κ:Ev.Ren=>(.bool false)) (fun κ:Ev.Ren=>[]):=(trE (c:=⟨W,fun _=>False⟩) 4 (kn [iz (c.n),iz (c.q),iz (c.g),iz (c.m),iz (c.t),iz (c.s),iz (p)] fr [] [] [] fn fn fn W (fun _=>False) [[]] [] [⟨64,[.agg #[sy 0,sy 1,sy 2,sy 3,sy 4,sy 5]],0,none,.bool false,none⟩]) fn (fc (pc rfl (fun w hb=>Cf.wrongR hc w)) fn) rfl [] [] [] 0 rfl rfl cf2a7 (.bool false))
theorem rToL (W:World) (c:Cfg) (p:Int) (hp:¬ (0≤p∧p < c.n)) (h1:¬ (p) ≥ 0) : Ev.PieE Try.prog 48 [] 0 17 ⟨W,fun _=>False⟩ (cf2a12 c p) [] (fun κ:Ev.Ren=>(.bool false)) (fun κ:Ev.Ren=>[]):=(trE (c:=⟨W,fun _=>False⟩) 4 (kn [iN (c.n),iN (c.q),iz (c.g),iz (c.m),iz (c.t),iz (c.s),iz (p)] fr [(.geq,sy 6,.int .i64 0,.bool false)] [] [] (fc (fun _ _ _=>Ev.bt_geq (by have z:=c.z0; first | (simpa using h1) | (simp; omega))) fn) fn fn W (fun _=>False) [[]] [] [⟨64,[.agg #[sy 0,sy 1,sy 2,sy 3,sy 4,sy 5]],0,none,.bool true,none⟩]) fn (fc (pc rfl (fun w hb=>c.rightR w)) fn) rfl [] [] [] 0 rfl rfl cf2a7 (.bool false))
theorem rToH (W:World) (c:Cfg) (p:Int) (hp:¬ (0≤p∧p < c.n)) (h1:(p) ≥ 0) : Ev.PieE Try.prog 48 [] 0 17 ⟨W,fun _=>False⟩ (cf2a12 c p) [] (fun κ:Ev.Ren=>(.bool false)) (fun κ:Ev.Ren=>[]):=(trE (c:=⟨W,fun _=>False⟩) 4 (kn [iN (c.n),iN (c.q),iz (c.g),iz (c.m),iz (c.t),iz (c.s),iz (p)] fr [(.geq,sy 6,.int .i64 0,.bool true),(.lss,sy 6,sy 0,.bool false)] [] [] (fc (fun _ _ _=>Ev.bt_geq (by have z:=c.z0; first | (simpa using h1) | (simp; omega))) (fc (fun _ _ _=>Ev.bt_lss (by have z:=c.z0; first | (simp; done) | (simp; omega))) fn)) fn fn W (fun _=>False) [[]] [] [⟨64,[.agg #[sy 0,sy 1,sy 2,sy 3,sy 4,sy 5]],0,none,.bool true,none⟩]) fn (fc (pc rfl (fun w hb=>c.rightR w)) fn) rfl [] [] [] 0 rfl rfl cf2a7 (.bool false))
end Go.Proofs.Ytbcnbofkgkheeaa
namespace Go.Proofs.Ytbcnbofkgkheeaa
open Go.RowKit
open Go.Ev (sy)
set_option linter.unusedVariables false
set_option linter.unusedSimpArgs false
set_option maxRecDepth 8000
theorem word_ok (c:Cfg) (p:Nat) (hp:p < c.n) (w:World) : Calls Try.prog 26 #[c.v,.int .i64 (p:Int)] w fun e w'=>e=.returned (.int .i64 ((c.word p:Nat) : Int))∧Below w.heap.size w w' :=
 start0 (r:=.int .i64 ((c.word p:Nat) : Int)) (by kernel_rfl) (by simp) (by simp) (cWordY w c p hp)
theorem next_ok (c:Cfg) (p:Nat) (hp:p < c.n) (w:World) : Calls Try.prog 13 #[c.v,.int .i64 (p:Int)] w fun e w'=>e=.returned (.int .i64 ((c.word p+1:Nat) : Int))∧Below w.heap.size w w' :=
 start0 (r:=.int .i64 ((c.word p+1:Nat) : Int)) (by kernel_rfl) (by simp) (by simp) (cNextY w c p hp)
theorem word_no (c:Cf) (p:Int) (hc:c.ok=false) (w:World) : Calls Try.prog 26 #[c.v,.int .i64 p] w fun e w'=>e=.returned (.int .i64 (-1))∧Below w.heap.size w w' :=
 start0 (r:=.int .i64 (-1)) (by kernel_rfl) (by simp) (by simp) (bWordN w c p hc)
theorem word_off (c:Cfg) (p:Int) (hp:¬ (0≤p∧p < c.n)) (w:World) : Calls Try.prog 26 #[c.v,.int .i64 p] w fun e w'=>e=.returned (.int .i64 (-1))∧Below w.heap.size w w' :=
 start0 (r:=.int .i64 (-1)) (by kernel_rfl) (by simp) (by simp) (dWordO w c p hp)
theorem slot_ok (c:Cfg) (p:Nat) (hp:p < c.n) (i:Int) (hi:0≤i) (w:World) : Calls Try.prog 27 #[c.v,.int .i64 (p:Int),.int .u32 i] w fun e w'=>e=.returned (.int .i64 ((c.slot p i:Nat) : Int))∧Below w.heap.size w w' :=
 start0 (r:=.int .i64 ((c.slot p i:Nat) : Int)) (by kernel_rfl) (by simp) (by simp) (cSlotY w c p hp i hi)
theorem cells_ok (c:Cfg) (w:World) : Calls Try.prog 24 #[c.v] w fun e w'=>e=.returned (.int .i64 ((c.cells:Nat) : Int))∧Below w.heap.size w w' :=
 start0 (r:=.int .i64 ((c.cells:Nat) : Int)) (by kernel_rfl) (by simp) (by simp) (cCellsY w c)
theorem cells_no (c:Cf) (hc:c.ok=false) (w:World) : Calls Try.prog 24 #[c.v] w fun e w'=>e=.returned (.int .i64 0)∧Below w.heap.size w w' :=
 start0 (r:=.int .i64 0) (by kernel_rfl) (by simp) (by simp) (bCellsN w c hc)
theorem rWord_ok (c:Cfg) (p:Nat) (hp:p < c.n) (w:World) : Calls Try.prog 60 #[c.v,.int .i64 (p:Int)] w fun e w'=>e=.returned (.int .i64 ((c.word p:Nat) : Int))∧Below w.heap.size w w' :=
 start0 (r:=.int .i64 ((c.word p:Nat) : Int)) (by kernel_rfl) (by simp) (by simp) (rWordY w c p hp)
theorem rSlot_ok (c:Cfg) (p:Nat) (hp:p < c.n) (i:Int) (hi:0≤i) (w:World) : Calls Try.prog 69 #[c.v,.int .i64 (p:Int),.int .u32 i] w fun e w'=>e=.returned (.int .i64 ((c.slot p i:Nat) : Int))∧Below w.heap.size w w':=by
 have h:=start0 (by kernel_rfl) (args:=#[c.v,.int .i64 (p:Int),.int .u32 i]) (by simp) (by simp) (rSlotY w c p hp i hi)
 have e:4+c.off p+6+c.slotI i=c.slot p i:=by unfold Cfg.slot; omega
 rw [← e]
 exact h
theorem there_ok (c:Cfg) (p:Nat) (hp:p < c.n) (w:World) : Calls Try.prog 48 #[c.v,.int .i64 (p:Int)] w fun e w'=>e=.returned (.bool true)∧Below w.heap.size w w' :=
 start0 (r:=.bool true) (by kernel_rfl) (by simp) (by simp) (rThY w c p hp)
theorem there_no (c:Cf) (p:Int) (hc:c.ok=false) (w:World) : Calls Try.prog 48 #[c.v,.int .i64 p] w fun e w'=>e=.returned (.bool false)∧Below w.heap.size w w' :=
 start0 (r:=.bool false) (by kernel_rfl) (by simp) (by simp) (rTbN w c p hc)
theorem there_off (c:Cfg) (p:Int) (hp:¬ (0≤p∧p < c.n)) (w:World) : Calls Try.prog 48 #[c.v,.int .i64 p] w fun e w'=>e=.returned (.bool false)∧Below w.heap.size w w':=by
 by_cases h:p ≥ 0
 ·exact start0 (r:=.bool false) (by kernel_rfl) (by simp) (by simp) (rToH w c p hp h)
 ·exact start0 (r:=.bool false) (by kernel_rfl) (by simp) (by simp) (rToL w c p hp h)
end Go.Proofs.Ytbcnbofkgkheeaa
namespace Go.Proofs.Ytbcnbofkgkheeaa
open Go.RowKit
open Go.Ev (sy iz uz wz iN uN wN pz dv fc fn ak vk vd kn pc cc cr cm cd fr)
set_option linter.unusedVariables false
set_option linter.unusedSimpArgs false
set_option maxRecDepth 8000
attribute [local irreducible] Ev.wpL
abbrev rs1a2 (rv:Value) (xs:List Int) : Ev.Asr:=Ev.slA 30 1 (rv) (xs.length) (u64s xs)
theorem rwA (W0:World) (F0:Nat→Prop) (rv:Value) (lr:Ev.leafV rv=true) (xs:List Int) (hx:xs.length≤1000000) (ops:Int) (a:Nat) (ha:a < xs.length) (y:Int) : Ev.Pie Try.prog 53 [] 0 3 21 ⟨W0,F0⟩ [(0,(.agg #[(rv),(uz (ops))])),(1,(iN (a))),(2,(uz (y)))] [(rs1a2 rv xs)] .normal (fun κ:Ev.Ren=>[(1,(iN (a))),(2,(uz (y))),(3,(pz ((κ 400).getD 0))),(6,(pz ((κ 404).getD 0))),(7,(dv κ 411))]) (fun κ:Ev.Ren=>[Ev.blkA ((κ 400).getD 0) [(rv),(uz (ops))] 32,Ev.blkA ((κ 404).getD 0) [(.slice none 0 0),(.int .u64 0)] 32,(rs1a2 rv xs),Ev.slA 30 1 (dv κ 411) (xs.length) (u64s xs)]):=(tr (c:=⟨W0,F0⟩) (kn [rv,uz (ops),iN (a),uz (y)] (fc (by assumption) fr) [] [] [] fn fn fn W0 F0 [[(rs1a2 rv xs)],[(rs1a2 rv xs),Ev.atD 411 (fun v=>Ev.slA 30 1 v (xs.length) (u64s xs))]] [⟨[11,29,29],[.slice none 0 0,sy 0],none,0,some 411,.complex .f32 411 0,some 1⟩] []) (fc (by obtain ⟨i,i1,i2,i3,i4⟩:=infU64; exact Ev.app_new rfl rfl Ev.isNils (.inl rfl) rfl (Ev.rd_sl (ci:=1) rfl rfl) Try.underlying29 Try.underlying29 i1 i2 i3 (by rw [i2]; rfl) (by rw [i4]; omega) (by omega) Ev.one_ints) fn) fn rfl [] [] [(400,[sy 0,sy 1],32),(404,[.slice none 0 0,.int .u64 0],32)] 1 rfl rfl [(0,.agg #[sy 0,sy 1]),(1,sy 2),(2,sy 3)] [(1,sy 2),(2,sy 3),(3,.pointer (some ⟨400,0,none⟩)),(6,.pointer (some ⟨404,0,none⟩)),(7,.complex .f32 411 0)] .normal).conv (fun κ w=>⟨(fun _ h=>h),(fun _ h=>h),(fun _ h=>h),(fun _ h=>Ev.undy (a:=fun v=>Ev.slA 30 1 v (xs.length) (u64s xs)) (fun _ _ _ _ _ h=>h) h),trivial⟩)
theorem rwB (W0:World) (F0:Nat→Prop) (rv:Value) (lr:Ev.leafV rv=true) (xs:List Int) (hx:xs.length≤1000000) (ops:Int) (a:Nat) (ha:a < xs.length) (y:Int) (al:Value) (la:Ev.leafV al=true) (b3 b6:Nat) : Ev.PieE Try.prog 53 [] 3 21 ⟨W0,F0⟩ [(1,(iN (a))),(2,(uz (y))),(3,(pz b3)),(6,(pz b6)),(7,(al))] [Ev.blkA b3 [(rv),(uz (ops))] 32,Ev.blkA b6 [(.slice none 0 0),(.int .u64 0)] 32,Ev.slA 30 1 (al) (xs.length) (u64s xs)] (fun κ:Ev.Ren=>(.agg #[(al),(uz (IntKind.u64.wrap ((ops)+1)))])) (fun κ:Ev.Ren=>[Ev.blkA b3 [(rv),(uz (ops))] 32,Ev.blkA b6 [(al),(uz (IntKind.u64.wrap ((ops)+1)))] 32,Ev.slA 30 1 (al) (xs.length) ((u64s xs).set ((a) * 1) (uz (y)))]):=(trE (c:=⟨W0,F0⟩) 3 (kn [al,rv,Ev.ptrR (al) ((a) * 1),iN (a),uz (y),uz (ops),uz (IntKind.u64.wrap ((ops)+1))] (fc (by assumption) (fc (by assumption) (fc (Ev.ptrR_leaf _ _) fr))) [(.add,sy 5,.int .u64 1,sy 6)] [] [] (fc (fun _ _ _=>Ev.bt_add rfl) fn) fn fn W0 F0 [[Ev.slA 30 1 (al) (xs.length) (u64s xs)],[Ev.slA 30 1 (al) (xs.length) ((u64s xs).set ((a) * 1) (uz (y)))]] [⟨[3,29],[sy 0,sy 3],none,0,none,sy 2,none⟩,⟨[2,30],[sy 2,sy 4],none,0,none,undef,some 1⟩] []) (fc (by obtain ⟨i,i1,i2,i3,i4⟩:=infU64; exact Ev.sl_index (ci:=1) (j:=(a)) rfl rfl Try.underlying29 i1 i2 rfl rfl (by omega) rfl) (fc (Ev.sl_store (ci:=1) (m:=(a) * 1) (x:=(uz (y))) rfl rfl rfl storeU64 (by simp; omega) rfl (Ev.isSym rfl) rfl) fn)) fn rfl [(4,b3),(8,b6)] [(4,[sy 1,sy 5],32),(8,[.slice none 0 0,.int .u64 0],32)] [(4,[sy 1,sy 5],32),(8,[sy 0,sy 6],32)] 1 rfl rfl [(1,sy 3),(2,sy 4),(3,.pointer (some ⟨4,0,none⟩)),(6,.pointer (some ⟨8,0,none⟩)),(7,sy 0)] (.agg #[sy 0,sy 6]))
end Go.Proofs.Ytbcnbofkgkheeaa
