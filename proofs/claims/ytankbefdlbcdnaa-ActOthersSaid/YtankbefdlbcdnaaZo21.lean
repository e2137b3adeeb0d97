/- Part of a proof: see the last text. -/
import Derived.Test.YtankbefdlbcdnaaZo20
import Derived.Test.YtankbefdlbcdnaaZo14
namespace Go.Proofs.Ytankbefdlbcdnaa
open Go.RowKit
open Go.Ev (iz iN pz)
set_option linter.unusedVariables false
set_option linter.unusedSimpArgs false
structure Tab where
 gs:List (Nat×Nat)
 fr:List Nat
def Tab.g (t:Tab) : List (Int×Int):=t.gs.map (fun p:Nat×Nat=>((p.1:Int),(p.2:Int)))
def Tab.f (t:Tab) : List Int:=t.fr.map (fun j:Nat=>(j:Int))
structure Tab.Ok (t:Tab) : Prop where
 n:t.gs.length≤256
 fn:t.fr.length≤256
 st:∀ p ∈ t.gs,p.1 < 5∧p.2≤100000
 fr:∀ j ∈ t.fr,j < t.gs.length
abbrev tabL (bt:Nat) (av fv:Value) (gs:List (Int×Int)) (fr:List Int) : List Ev.Asr:=[Ev.blkA bt [av,fv] 83,Ev.slA 87 2 av gs.length (gor gs),Ev.slA 3 1 fv fr.length (ints fr)]
def tabX (bt:Nat) (t:Tab) : Ev.Asr:=Ev.exA (fun _:Value×Value=>True) (fun p=>Ev.grp (tabL bt p.1 p.2 t.g t.f))
def tabA (bt:Nat) (t:Tab) : Ev.Asr where
 p:=fun _ F w=>(tabX bt t).p (fun _=>none) F w
 keep:=fun _ F w w' hk h=>(tabX bt t).keep (fun _=>none) F w w' hk h
 mono:=fun _ _ _ _ _ h=>h
section
variable {c:Ev.Ctx} {l:List Ev.Asr} {w:World} {bt:Nat} {t:Tab}
theorem tab_open (h:Ev.Hold c (tabA bt t::l) w) : ∃ av fv,Ev.Hold c (tabL bt av fv t.g t.f++l) w:=by
 have h1:Ev.Hold c (tabX bt t::l) w:=h.head (fun F h=>h)
 obtain ⟨p,_,h2⟩:=Ev.Hold.getX (a:=fun p:Value×Value=>Ev.grp (tabL bt p.1 p.2 t.g t.f)) h1
 exact ⟨p.1,p.2,h2.open⟩
theorem tab_shut {av fv:Value} {gs:List (Int×Int)} {fr:List Int} (h:Ev.Hold c (tabL bt av fv gs fr++l) w) (hg:gs=t.g) (hf:fr=t.f) : Ev.Hold c (tabA bt t::l) w:=by
 subst hg hf
 have h2:Ev.Hold c (tabX bt t::l) w:=Ev.Hold.putX (a:=fun p:Value×Value=>Ev.grp (tabL bt p.1 p.2 t.g t.f)) (av,fv) trivial h.shut
 exact h2.head (fun F h=>h)
theorem Tab.g_at {j:Nat} {p:Nat×Nat} (h:t.gs[j]? = some p) : t.g[j]? = some ((p.1:Int),(p.2:Int)):=by
 unfold Tab.g
 rw [List.getElem?_map,h]
 rfl
theorem Tab.g_len:t.g.length=t.gs.length:=by simp [Tab.g]
theorem Tab.f_len:t.f.length=t.fr.length:=by simp [Tab.f]
variable {F:Nat→Prop}
abbrev tq (w:World) (F:Nat→Prop) (bt:Nat) (av fv:Value) (lav:Ev.leafV av=true) (lfv:Ev.leafV fv=true) (t:Tab) (j a b nx:Nat) (x:Int) (O:t.Ok) (h:a < 5∧nx < 5∧b≤1000000) : TQ :=
 ⟨w,F,bt,av,lav,t.g,fv,lfv,t.f,j,a,b,nx,x,⟨by rw [Tab.g_len]; exact O.n,by rw [Tab.f_len]; exact O.fn,h.1,h.2.1,by omega,by omega⟩⟩
theorem tab_call {fn:FuncId} {args:Array Value} {R:Ending→World→Prop} (h:Ev.Now [tabA bt t] F w) (H:∀ av fv (lav:Ev.leafV av=true) (lfv:Ev.leafV fv=true) (G:Nat→Prop),Ev.Now (tabL bt av fv t.g t.f) G w→(∀ (m:List Ev.Asr) (w':World),Ev.Hold ⟨w,G⟩ m w'→Ev.Hold ⟨w,F⟩ m w')→Calls Try.prog fn args w R) : Calls Try.prog fn args w R:=by
 obtain ⟨av,fv,h1⟩:=tab_open (Ev.Hold.start h)
 rw [List.append_nil] at h1
 have lav:Ev.leafV av=true:=hold_leaf (h1.sel [1] (by kernel_rfl))
 have lfv:Ev.leafV fv=true:=hold_leaf (h1.sel [2] (by kernel_rfl))
 obtain ⟨G,n1,n2,n3⟩:=h1.ex
 exact H av fv lav lfv G n1 (fun m w' h=>h.into (l:=[]) n2 n3)
theorem status_in (O:t.Ok) {j a b:Nat} (hj:t.gs[j]? = some (a,b)) (h:Ev.Now [tabA bt t] F w) :
  Calls Try.prog 11 #[pz bt,iN j] w fun e w'=>e=.returned (.tuple #[iN a,.bool true])∧Ev.Hold ⟨w,F⟩ [tabA bt t] w':=by
 have hp:=O.st _ (List.mem_of_getElem? hj)
 refine tab_call h (fun av fv lav lfv G n1 n2=>?_)
 exact startP (ttS (tq w G bt av fv lav lfv t j a b 0 0 O ⟨hp.1,by decide,by omega⟩) (Tab.g_at hj) (by show j < t.g.length; rw [Tab.g_len]; exact (List.getElem?_eq_some_iff.1 hj).1)) (by kernel_rfl) n1 (by simp) (by simp) (fun κ w1 hh=>⟨rfl,tab_shut (l:=[]) (n2 _ _ hh) rfl rfl⟩)
theorem status_out (O:t.Ok) {x:Int} (hx:x < 0∨(t.gs.length:Int)≤x) (h:Ev.Now [tabA bt t] F w) :
  Calls Try.prog 11 #[pz bt,iz x] w fun e w'=>e=.returned (.tuple #[.int .i64 0,.bool false])∧Ev.Hold ⟨w,F⟩ [tabA bt t] w':=by
 refine tab_call h (fun av fv lav lfv G n1 n2=>?_)
 by_cases h0:x < 0
 ·exact startP (ttSl (tq w G bt av fv lav lfv t 0 0 0 0 x O (by decide)) h0) (by kernel_rfl) n1 (by simp) (by simp) (fun κ w1 hh=>⟨rfl,tab_shut (l:=[]) (n2 _ _ hh) rfl rfl⟩)
 ·exact startP (ttSh (tq w G bt av fv lav lfv t 0 0 0 0 x O (by decide)) (by show 0≤x; omega) (by show (t.g.length:Int)≤x; rw [Tab.g_len]; omega)) (by kernel_rfl) n1 (by simp) (by simp) (fun κ w1 hh=>⟨rfl,tab_shut (l:=[]) (n2 _ _ hh) rfl rfl⟩)
theorem set_out (O:t.Ok) {x:Int} {nx:Nat} (hn:nx < 5) (hx:x < 0∨(t.gs.length:Int)≤x) (h:Ev.Now [tabA bt t] F w) :
  Calls Try.prog 10 #[pz bt,iz x,iN nx] w fun e w'=>e=.returned (.int .i64 5)∧Ev.Hold ⟨w,F⟩ [tabA bt t] w':=by
 refine tab_call h (fun av fv lav lfv G n1 n2=>?_)
 by_cases h0:x < 0
 ·exact startP (ttl (tq w G bt av fv lav lfv t 0 0 0 nx x O ⟨by decide,hn,by decide⟩) h0) (by kernel_rfl) n1 (by simp) (by simp) (fun κ w1 hh=>⟨rfl,tab_shut (l:=[]) (n2 _ _ hh) rfl rfl⟩)
 ·exact startP (tth (tq w G bt av fv lav lfv t 0 0 0 nx x O ⟨by decide,hn,by decide⟩) (by show 0≤x; omega) (by show (t.g.length:Int)≤x; rw [Tab.g_len]; omega)) (by kernel_rfl) n1 (by simp) (by simp) (fun κ w1 hh=>⟨rfl,tab_shut (l:=[]) (n2 _ _ hh) rfl rfl⟩)
def Tab.set (t:Tab) (j nx:Nat) : Tab:=⟨t.gs.set j (nx,((t.gs[j]?).getD (0,0)).2),if nx=0 then t.fr++[j] else t.fr⟩
theorem Tab.set_g {j a b nx:Nat} (hj:t.gs[j]? = some (a,b)) : (t.set j nx).g=t.g.set j ((nx:Int),(b:Int)):=by
 unfold Tab.set Tab.g
 rw [hj]
 simp [List.map_set]
theorem set_no (O:t.Ok) {j a b nx:Nat} (hn:nx < 5) (hj:t.gs[j]? = some (a,b)) (hm:mayB a nx=false) (h:Ev.Now [tabA bt t] F w) :
  Calls Try.prog 10 #[pz bt,iN j,iN nx] w fun e w'=>e=.returned (.int .i64 4)∧Ev.Hold ⟨w,F⟩ [tabA bt t] w':=by
 have hp:=O.st _ (List.mem_of_getElem? hj)
 refine tab_call h (fun av fv lav lfv G n1 n2=>?_)
 exact startP (ttN (tq w G bt av fv lav lfv t j a b nx 0 O ⟨hp.1,hn,by omega⟩) (Tab.g_at hj) (by show j < t.g.length; rw [Tab.g_len]; exact (List.getElem?_eq_some_iff.1 hj).1) hm) (by kernel_rfl) n1 (by simp) (by simp) (fun κ w1 hh=>⟨rfl,tab_shut (l:=[]) (n2 _ _ hh) rfl rfl⟩)
theorem set_yes (O:t.Ok) {j a b nx:Nat} (hn:nx < 5) (hj:t.gs[j]? = some (a,b)) (hm:mayB a nx=true) (h:Ev.Now [tabA bt t] F w) :
  Calls Try.prog 10 #[pz bt,iN j,iN nx] w fun e w'=>e=.returned (.int .i64 0)∧Ev.Hold ⟨w,F⟩ [tabA bt (t.set j nx)] w':=by
 have hp:=O.st _ (List.mem_of_getElem? hj)
 have hl:j < t.g.length:=by rw [Tab.g_len]; exact (List.getElem?_eq_some_iff.1 hj).1
 have hgs:=(gor_set (Tab.g_at hj) nx (b:Int)).1
 refine tab_call h (fun av fv lav lfv G n1 n2=>?_)
 by_cases h0:nx=0
 ·refine startP (ttF (tq w G bt av fv lav lfv t j a b nx 0 O ⟨hp.1,hn,by omega⟩) (Tab.g_at hj) hl hm h0) (by kernel_rfl) n1 (by simp) (by simp) (fun κ w1 hh=>⟨rfl,?_⟩)
  have hh2:=n2 _ _ hh
  have hf2:(t.set j nx).f=t.f++[(j:Int)]:=by unfold Tab.set Tab.f; simp [h0]
  refine tab_shut (l:=[]) (av:=av) (fv:=Ev.dv κ 415) (gs:=t.g.set j ((nx:Int),(b:Int))) (fr:=t.f++[(j:Int)]) ?_ (Tab.set_g hj).symm hf2.symm
  have e1:ints (t.f++[(j:Int)])=ints t.f++[.int .i64 (j:Int)]:=by simp [ints]
  unfold tabL
  rw [List.length_set,← hgs,e1,List.length_append]
  exact hh2
 ·refine startP (ttA (tq w G bt av fv lav lfv t j a b nx 0 O ⟨hp.1,hn,by omega⟩) (Tab.g_at hj) hl hm h0) (by kernel_rfl) n1 (by simp) (by simp) (fun κ w1 hh=>⟨rfl,?_⟩)
  have hh2:=n2 _ _ hh
  have hf2:(t.set j nx).f=t.f:=by unfold Tab.set Tab.f; simp [h0]
  refine tab_shut (l:=[]) (av:=av) (fv:=fv) (gs:=t.g.set j ((nx:Int),(b:Int))) (fr:=t.f) ?_ (Tab.set_g hj).symm hf2.symm
  unfold tabL
  rw [List.length_set,← hgs]
  exact hh2
def Tab.make (t:Tab) (j:Nat) : Tab:=⟨t.gs.set j (1,((t.gs[j]?).getD (0,0)).2+1),t.fr.take (t.fr.length - 1)⟩
theorem make_no (O:t.Ok) (hz:t.fr=[]) (h:Ev.Now [tabA bt t] F w) :
  Calls Try.prog 9 #[pz bt] w fun e w'=>e=.returned (.tuple #[.int .i64 (-1),.int .i64 130])∧Ev.Hold ⟨w,F⟩ [tabA bt t] w':=by
 refine tab_call h (fun av fv lav lfv G n1 n2=>?_)
 exact startP (ttZ (tq w G bt av fv lav lfv t 0 0 0 0 0 O (by decide)) (by show t.f.length=0; rw [Tab.f_len,hz]; rfl)) (by kernel_rfl) n1 (by simp) (by simp) (fun κ w1 hh=>⟨rfl,tab_shut (l:=[]) (n2 _ _ hh) rfl rfl⟩)
theorem make_yes (O:t.Ok) {j a b:Nat} (hf:t.fr[t.fr.length - 1]? = some j) (hj:t.gs[j]? = some (a,b)) (h:Ev.Now [tabA bt t] F w) :
  Calls Try.prog 9 #[pz bt] w fun e w'=>e=.returned (.tuple #[iN j,.int .i64 0])∧Ev.Hold ⟨w,F⟩ [tabA bt (t.make j)] w':=by
 have hp:=O.st _ (List.mem_of_getElem? hj)
 have hl:j < t.g.length:=by rw [Tab.g_len]; exact (List.getElem?_eq_some_iff.1 hj).1
 have hfl:0 < t.fr.length:=by have:=(List.getElem?_eq_some_iff.1 hf).1; omega
 have hg1:=(gor_set (Tab.g_at hj) 1 (b:Int)).1
 have hj2:(t.g.set j ((1:Int),(b:Int)))[j]? = some ((1:Int),(b:Int)):=List.getElem?_set_self hl
 have hg2:=(gor_set hj2 0 ((b:Int)+1)).2
 have hfr:(ints t.f)[(t.f.length - 1) * 1]? = some (.int .i64 (j:Int)):=by
  unfold ints Tab.f
  rw [Nat.mul_one,List.getElem?_map,List.length_map,List.getElem?_map,hf]
  rfl
 refine tab_call h (fun av fv lav lfv G n1 n2=>?_)
 refine startP (ttM (tq w G bt av fv lav lfv t j a b 0 0 O ⟨hp.1,by decide,by omega⟩) (Tab.g_at hj) hl (by show 0 < t.f.length; rw [Tab.f_len]; exact hfl) hfr) (by kernel_rfl) n1 (by simp) (by simp) (fun κ w1 hh=>⟨rfl,?_⟩)
 have hh2:=(((n2 _ _ hh).sel [2,0,1] (by kernel_rfl)).cut0 (hi:=t.f.length - 1) (by show t.f.length - 1≤t.f.length; omega)).sel [1,2,0] (by kernel_rfl)
 have e1:(t.make j).g=t.g.set j ((1:Int),((b:Int)+1)):=by
  unfold Tab.make Tab.g
  rw [hj]
  simp [List.map_set]
 have e2:(t.make j).f=t.f.take (t.f.length - 1):=by
  unfold Tab.make Tab.f
  rw [List.length_map,List.map_take]
 refine tab_shut (l:=[]) (av:=av) (fv:=Ev.cutV 1 fv 0 (t.f.length - 1)) (gs:=t.g.set j ((1:Int),((b:Int)+1))) (fr:=t.f.take (t.f.length - 1)) ?_ e1.symm e2.symm
 have e3:ints (t.f.take (t.f.length - 1))=(ints t.f).take ((t.f.length - 1) * 1):=by simp [ints,List.map_take]
 have e4:gor (t.g.set j ((1:Int),((b:Int)+1)))=((gor t.g).set (j * 2+0+0) (.int .i64 1)).set (j * 2+1) (.int .i64 ((b:Int)+1)):=by
  rw [show j * 2+0+0=j * 2 from rfl,hg1,hg2,List.set_set]
 unfold tabL
 rw [e3,e4,List.length_set,List.length_take,Nat.min_eq_left (by omega)]
 exact hh2
end
end Go.Proofs.Ytankbefdlbcdnaa
namespace Go.Ev
open Go.RowKit
set_option linter.unusedVariables false
set_option linter.unusedSimpArgs false
set_option linter.unusedSectionVars false
section
variable {k:Kn} {P:Program} {g g':Nat} {l:List Asr} {t e:TypeId} {n sz:Nat} {i:TypeInfo} {z:Value} {xs:List Value}
theorem mk_sliceN {d1:Nat} {kd kd':IntKind} {x y:Value} (hg:k.gs[g]? = some (star l)) (hg':k.gs[g']? = some (star (l++[atD d1 (fun v=>slA e sz v n xs)]))) (hx:IsV k x (.int kd (n:Int))) (hy:IsV k y (.int kd' (n:Int))) (ht:P.underlying t=some (.slice e)) (hinf:P.info? e=some i) (hsz:i.size=sz) (hz:i.zero=some z) (hm:(madeCells z.cells (n * sz)).toList=xs) (hb:i.bytes * n≤281474976710656) (hn:n≤maxLen) : GTrue k P ⟨[19,t],[x,y],none,g,some d1,.complex .f32 d1 0,some g'⟩:=by
 refine GTrue.make ?_
 letI:Sig:=k.sig
 intro ι F w d x' y' q hxr hyr
 obtain rfl:=q.name d1 rfl
 obtain ⟨b,q1,q2⟩:=q.st
 rw [hg] at q1
 cases q1
 rw [hx _ _ hxr,hy _ _ hyr]
 obtain ⟨w',r1,r2,r3⟩:=run_make_full (P:=P) w w.heap.size t e i z sz ht hinf hz hsz kd kd' n hb hn (Nat.le_refl _)
 have hsl:SlV e sz (.slice (some ⟨w.heap.size,0,none⟩) n n) n xs (fun j=>j=w.heap.size) w':=by
  obtain ⟨s1,s2⟩:=r2
  rw [hm] at s1 s2
  rcases s2 with ⟨h,_⟩ | ⟨gb,cap,cur,hv,hb',hh,c1,c2,c3,c4⟩
  ·cases h
  ·cases hv
   refine ⟨s1,.inr ⟨w.heap.size,0,n,cur,rfl,fun _=>Iff.rfl,hh,fun j hj=>?_,by omega,Nat.le_refl _⟩⟩
   rw [← c4,Nat.zero_add,List.getElem?_take_of_lt hj]
   simp
 obtain ⟨cc,hcc⟩:=hsl.code
 have hup:(ι.upd d1 cc) d1=some cc:=by simp [Ren.upd]
 exact ⟨_,w',r1,grow_end hg' q2 q.lt (ask_fresh q) cc ⟨cc,hup,by rw [hcc]; exact hsl⟩ (grown_below r3) (fun j hj=>⟨hsl.lt j hj,by rw [hj]; exact Nat.le_refl _⟩) (.dyn d1 cc _ hup hcc)⟩
end
end Go.Ev
namespace Go.Proofs.Ytankbefdlbcdnaa
open Go.RowKit
open Go.Ev (sy iz uz wz iN uN wN pz dv fc fn ak vk vd kn pc cc cr cm cd fr)
set_option linter.unusedVariables false
set_option linter.unusedSimpArgs false
set_option maxRecDepth 8000
attribute [local irreducible] Ev.wpL
structure NQ where
 W0:World
 F0:Nat→Prop
 n:Nat
 b:Nat
 c:Nat
 h:n≤12∧b < 256∧c≤2
theorem NQ.z (q:NQ) : q.n≤12∧q.b < 256∧q.c≤2:=q.h
theorem byte_div {b:Nat} (h:b < 256) : IntKind.i64.wrap ((b:Int).tdiv 8)=((b / 8:Nat) : Int):=by
 rw [show (b:Int).tdiv 8=((b / 8:Nat) : Int) from rfl]
 exact wrap_ok (by omega) (by omega)
theorem ofR (q:NQ) : Ev.PieE Try.prog 13 [] 0 11 ⟨q.W0,q.F0⟩ [(0,(.int .u8 ((q.b:Nat) : Int)))] [] (fun κ:Ev.Ren=>(.agg #[(iN (q.b % 8)),(iN (q.b / 8 % 4))])) (fun κ:Ev.Ren=>[]):=(trE (c:=⟨q.W0,q.F0⟩) 10 (kn [.int .u8 ((q.b:Nat) : Int),iN (q.b),iN (q.b % 8),iN (q.b / 8),iN (q.b / 8 % 4)] fr [(.rem,sy 1,.int .i64 8,sy 2),(.quo,sy 1,.int .i64 8,sy 3),(.rem,sy 3,.int .i64 4,sy 4)] [] [(.i64,sy 0,sy 1)] (fc (fun _ _ _=>Ev.bt_rem (by decide) rfl) (fc (fun _ _ _=>Ev.bt_quo (by decide) (byte_div q.z.2.1)) (fc (fun _ _ _=>Ev.bt_rem (by decide) rfl) fn))) fn (fc (Ev.ct_in rfl rfl (wrap_ok (by have z:=q.z; omega) (by have z:=q.z; omega))) fn) q.W0 q.F0 [[]] [] []) fn fn rfl [] [] [] 0 rfl rfl [(0,sy 0)] (.agg #[sy 2,sy 4]))
theorem sn4 (q:NQ) : Ev.PieE Try.prog 7 [] 0 44 ⟨q.W0,q.F0⟩ [(0,(.int .i64 4)),(1,(iN (q.c)))] [] (fun κ:Ev.Ren=>(.tuple #[(pz ((κ 404).getD 0)),(.int .i64 0)])) (fun κ:Ev.Ren=>[Ev.blkA ((κ 404).getD 0) ((.map none)::(.int .i64 0)::(.int .i64 0)::(iN (q.c))::(.map none)::(.int .i64 0)::(.int .i64 0)::(iN (q.c))::(.map none)::(.int .i64 0)::(.int .i64 0)::(iN (q.c))::(.map none)::(.int .i64 0)::(.int .i64 0)::(iN (q.c))::(.map none)::(.int .i64 0)::(.int .i64 0)::(.int .i64 0)::(.map none)::(.int .i64 0)::(.int .i64 0)::(.int .i64 0)::(.map none)::(.int .i64 0)::(.int .i64 0)::(.int .i64 0)::(.map none)::(.int .i64 0)::(.int .i64 0)::(.int .i64 0)::(.map none)::(.int .i64 0)::(.int .i64 0)::(.int .i64 0)::(.map none)::(.int .i64 0)::(.int .i64 0)::(.int .i64 0)::(.map none)::(.int .i64 0)::(.int .i64 0)::(.int .i64 0)::(.map none)::(.int .i64 0)::(.int .i64 0)::(.int .i64 0)::(.map none)::(.int .i64 0)::(.int .i64 0)::(.int .i64 0)::(.map none)::(.int .i64 0)::(.int .i64 0)::(.int .i64 0)::(.map none)::(.int .i64 0)::(.int .i64 0)::(.int .i64 0)::(.map none)::(.int .i64 0)::(.int .i64 0)::(.int .i64 0)::(.int .i64 4)::(dv κ 403)::[]) 79,Ev.mapV Try.prog 3 3 (dv κ 403) 0 (fun _=>none)]):=(trE (c:=⟨q.W0,q.F0⟩) 20 (kn [iN (q.c)] fr [(.lss,sy 0,.int .i64 0,.bool false),(.gtr,sy 0,.int .i64 1073741824,.bool false)] [] [] (fc (fun _ _ _=>Ev.bt_lss (by have z:=q.z; first | (simp; done) | (simp; omega))) (fc (fun _ _ _=>Ev.bt_gtr (by have z:=q.z; first | (simp; done) | (simp; omega))) fn)) fn fn q.W0 q.F0 [[],[Ev.atD 403 (fun v=>Ev.mapV Try.prog 3 3 v 0 (fun _=>none))]] [⟨[18,71],[],none,0,some 403,.complex .f32 403 0,some 1⟩] []) (fc (Ev.mk_map rfl rfl) fn) fn rfl [] [] [(404,(.map none::.int .i64 0::.int .i64 0::sy 0::.map none::.int .i64 0::.int .i64 0::sy 0::.map none::.int .i64 0::.int .i64 0::sy 0::.map none::.int .i64 0::.int .i64 0::sy 0::.map none::.int .i64 0::.int .i64 0::.int .i64 0::.map none::.int .i64 0::.int .i64 0::.int .i64 0::.map none::.int .i64 0::.int .i64 0::.int .i64 0::.map none::.int .i64 0::.int .i64 0::.int .i64 0::.map none::.int .i64 0::.int .i64 0::.int .i64 0::.map none::.int .i64 0::.int .i64 0::.int .i64 0::.map none::.int .i64 0::.int .i64 0::.int .i64 0::.map none::.int .i64 0::.int .i64 0::.int .i64 0::.map none::.int .i64 0::.int .i64 0::.int .i64 0::.map none::.int .i64 0::.int .i64 0::.int .i64 0::.map none::.int .i64 0::.int .i64 0::.int .i64 0::.map none::.int .i64 0::.int .i64 0::.int .i64 0::.int .i64 4::.complex .f32 403 0::[]),79)] 1 rfl rfl [(0,.int .i64 4),(1,sy 0)] (.tuple #[.pointer (some ⟨404,0,none⟩),.int .i64 0])).conv (fun κ w=>⟨(fun _ h=>h),(fun _ h=>Ev.undy (a:=fun v=>Ev.mapV Try.prog 3 3 v 0 (fun _=>none)) (fun _ _ _ _ _ h=>h) h),trivial⟩)
end Go.Proofs.Ytankbefdlbcdnaa
namespace Go.Proofs.Ytankbefdlbcdnaa
open Go.RowKit
open Go.Ev (sy iz uz wz iN uN wN pz dv fc fn ak vk vd kn pc cc cr cm cd fr)
set_option linter.unusedVariables false
set_option linter.unusedSimpArgs false
set_option maxRecDepth 8000
attribute [local irreducible] Ev.wpL
def zG (n:Nat) : List (Int×Int):=List.replicate n (0,0)
theorem zG_cells (n:Nat) (h:n≤12) : (madeCells (Value.agg #[.int .i64 0,.int .i64 0]).cells (n * 2)).toList=gor (zG n) :=
 match n,h with
 | 0,_=>by kernel_rfl
 | 1,_=>by kernel_rfl
 | 2,_=>by kernel_rfl
 | 3,_=>by kernel_rfl
 | 4,_=>by kernel_rfl
 | 5,_=>by kernel_rfl
 | 6,_=>by kernel_rfl
 | 7,_=>by kernel_rfl
 | 8,_=>by kernel_rfl
 | 9,_=>by kernel_rfl
 | 10,_=>by kernel_rfl
 | 11,_=>by kernel_rfl
 | 12,_=>by kernel_rfl
abbrev an2a11:List Ev.Blk:=[(4,[sy 0,sy 1],83)]
abbrev an2a12:List (Nat×Value):=[(3,.pointer (some ⟨4,0,none⟩)),(15,sy 2),(16,sy 3)]
abbrev an2a13 (q:NQ) (av:Value) : Ev.Asr:=Ev.slA 87 2 (av) (q.n) (gor (zG q.n))
abbrev an2a15 (q:NQ) (av:Value) (fv:Value) (fs:List Int) : List Ev.Asr:=[(an2a13 q av),Ev.slA 3 1 (fv) (fs.length) (ints fs)]
abbrev an2a16 (q:NQ) (b3:Nat) (ix:Nat) : List (Nat×Value):=[(3,(pz b3)),(15,(iN (q.n))),(16,(iN (ix)))]
abbrev an2a18 (q:NQ) (b3:Nat) (av:Value) (fv:Value) (fs:List Int) : List Ev.Asr:=[Ev.blkA b3 [(av),(fv)] 83,(an2a13 q av),Ev.slA 3 1 (fv) (fs.length) (ints fs)]
theorem tnA (q:NQ) : Ev.Pie Try.prog 8 [] 0 3 38 ⟨q.W0,q.F0⟩ [(0,(iN (q.n)))] [] .normal (fun κ:Ev.Ren=>[(3,(pz ((κ 404).getD 0))),(15,(iN ((q.n)))),(16,(.int .i64 0))]) (fun κ:Ev.Ren=>[Ev.blkA ((κ 404).getD 0) [(dv κ 403),(.slice none 0 0)] 83,Ev.slA 87 2 (dv κ 403) (q.n) (gor (zG (q.n)))]):=(tr (c:=⟨q.W0,q.F0⟩) (kn [iN (q.n),iN ((q.n))] fr [] [] [] fn fn fn q.W0 q.F0 [[],[Ev.atD 403 (fun v=>Ev.slA 87 2 v (q.n) (gor (zG (q.n))))]] [⟨[16,3,3],[sy 0,.int .i64 256],none,0,none,sy 0,none⟩,⟨[17,3,3],[.int .i64 0,sy 0],none,0,none,sy 0,none⟩,⟨[19,81],[sy 0,sy 0],none,0,some 403,.complex .f32 403 0,some 1⟩,⟨[10,81],[.complex .f32 403 0],none,1,none,sy 1,none⟩] []) (fc (by have z:=q.z; exact Ev.row_min (kd:=.i64) (a:=(q.n:Int)) (b:=256) (Ev.isSym rfl) Ev.isInt (by show Value.int .i64 _=Value.int .i64 _; refine congrArg _ ?_; omega)) (fc (by have z:=q.z; exact Ev.row_max (kd:=.i64) (a:=0) (b:=(q.n:Int)) Ev.isInt (Ev.isSym rfl) (by show Value.int .i64 _=Value.int .i64 _; refine congrArg _ ?_; omega)) (fc (by obtain ⟨i,i1,i2,i3,i4⟩:=infGor; have z:=q.z; exact Ev.mk_sliceN (sz:=2) (xs:=gor (zG (q.n))) rfl rfl (Ev.isSym rfl) (Ev.isSym rfl) Try.underlying81 i1 i2 i3 (zG_cells _ (by have z:=q.z; omega)) (by rw [i4]; omega) (by unfold maxLen; omega)) (fc (by obtain ⟨i,i1,i2,i3,i4⟩:=infGor; exact Ev.sl_lenD (ci:=1) rfl rfl Try.underlying81 i2 rfl) fn)))) fn rfl [] [] [(404,[.complex .f32 403 0,.slice none 0 0],83)] 1 rfl rfl [(0,sy 0)] [(3,.pointer (some ⟨404,0,none⟩)),(15,sy 1),(16,.int .i64 0)] .normal).conv (fun κ w=>⟨(fun _ h=>h),(fun _ h=>Ev.undy (a:=fun v=>Ev.slA 87 2 v (q.n) (gor (zG (q.n)))) (fun _ _ _ _ _ h=>h) h),trivial⟩)
theorem tnT (q:NQ) (b3:Nat) (av:Value) (lav:Ev.leafV av=true) (fv:Value) (lfv:Ev.leafV fv=true) (fs:List Int) (hfr:fs.length≤12) (ix:Nat) (hi:ix < q.n) : Ev.Pie Try.prog 8 [6,0] 0 2 38 ⟨q.W0,q.F0⟩ (an2a16 q b3 ix) (an2a18 q b3 av fv fs) .normal (fun κ:Ev.Ren=>(an2a16 q b3 ix)) (fun κ:Ev.Ren=>(an2a18 q b3 av fv fs)):=(tr (c:=⟨q.W0,q.F0⟩) (kn [av,fv,iN (q.n),iN (ix)] (fc (by assumption) (fc (by assumption) fr)) [(.lss,sy 3,sy 2,.bool true)] [] [] (fc (fun _ _ _=>Ev.bt_lss (by have z:=q.z; first | (simp; done) | (simp; omega))) fn) fn fn q.W0 q.F0 [(an2a15 q av fv fs)] [] []) fn fn rfl [(4,b3)] an2a11 an2a11 0 rfl rfl an2a12 an2a12 .normal)
theorem tnF (q:NQ) (b3:Nat) (av:Value) (lav:Ev.leafV av=true) (fv:Value) (lfv:Ev.leafV fv=true) (fs:List Int) (hfr:fs.length≤12) (ix:Nat) (hi:¬ ix < q.n) : Ev.Pie Try.prog 8 [6,0] 0 2 38 ⟨q.W0,q.F0⟩ (an2a16 q b3 ix) (an2a18 q b3 av fv fs) (.exit 0) (fun κ:Ev.Ren=>(an2a16 q b3 ix)) (fun κ:Ev.Ren=>(an2a18 q b3 av fv fs)):=(tr (c:=⟨q.W0,q.F0⟩) (kn [av,fv,iN (q.n),iN (ix)] (fc (by assumption) (fc (by assumption) fr)) [(.lss,sy 3,sy 2,.bool false)] [] [] (fc (fun _ _ _=>Ev.bt_lss (by have z:=q.z; first | (simp; done) | (simp; omega))) fn) fn fn q.W0 q.F0 [(an2a15 q av fv fs)] [] []) fn fn rfl [(4,b3)] an2a11 an2a11 0 rfl rfl an2a12 an2a12 (.exit 0))
theorem tnB (q:NQ) (b3:Nat) (av:Value) (lav:Ev.leafV av=true) (fv:Value) (lfv:Ev.leafV fv=true) (fs:List Int) (hfr:fs.length≤12) (ix:Nat) (hi:ix < q.n) : Ev.Pie Try.prog 8 [6,0,4] 0 2 38 ⟨q.W0,q.F0⟩ (an2a16 q b3 ix) (an2a18 q b3 av fv fs) .normal (fun κ:Ev.Ren=>(an2a16 q b3 ix)) (fun κ:Ev.Ren=>[Ev.blkA b3 [(av),(dv κ 407)] 83,(an2a13 q av),Ev.slA 3 1 (dv κ 407) (fs.length+1) ((ints fs)++[(iN (q.n - 1 - ix))])]):=(tr (c:=⟨q.W0,q.F0⟩) (kn [av,fv,iN (q.n),iN (q.n - 1),iN (q.n - 1 - ix),iN (ix)] (fc (by assumption) (fc (by assumption) fr)) [(.sub,sy 2,.int .i64 1,sy 3),(.sub,sy 3,sy 5,sy 4)] [] [] (fc (fun _ _ _=>Ev.bt_sub (by have z:=q.z; rw [wrap_ok (by omega) (by omega)]; omega)) (fc (fun _ _ _=>Ev.bt_sub (by have z:=q.z; rw [wrap_ok (by omega) (by omega)]; omega)) fn)) fn fn q.W0 q.F0 [(an2a15 q av fv fs),[(an2a13 q av),Ev.atD 407 (fun v=>Ev.slA 3 1 v (fs.length+1) ((ints fs)++[(iN (q.n - 1 - ix))]))]] [⟨[10,81],[sy 0],none,0,none,sy 2,none⟩,⟨[11,37,37],[sy 1],some (1,1,[sy 4]),0,some 407,.complex .f32 407 0,some 1⟩] []) (fc (by obtain ⟨i,i1,i2,i3,i4⟩:=infGor; exact Ev.sl_len (ci:=1) rfl rfl Try.underlying81 i2 rfl rfl) (fc (by obtain ⟨i,i1,i2,i3,i4⟩:=infInt; have z:=q.z; exact Ev.sl_append (ci:=2) (m:=1) (cs:=[(iN (q.n - 1 - ix))]) rfl rfl rfl Try.underlying37 Try.underlying37 i1 i2 (by omega) i3 (by rw [i2]; rfl) (by rw [i4]; omega) (by omega) rfl rfl (ak (by kernel_rfl) (by kernel_rfl))) fn)) fn rfl [(4,b3)] an2a11 [(4,[sy 0,.complex .f32 407 0],83)] 1 rfl rfl [(3,.pointer (some ⟨4,0,none⟩)),(15,sy 2),(16,sy 5)] [(3,.pointer (some ⟨4,0,none⟩)),(15,sy 2),(16,sy 5)] .normal).conv (fun κ w=>⟨(fun _ h=>h),(fun _ h=>h),(fun _ h=>Ev.undy (a:=fun v=>Ev.slA 3 1 v (fs.length+1) ((ints fs)++[(iN (q.n - 1 - ix))])) (fun _ _ _ _ _ h=>h) h),trivial⟩)
theorem tnI (q:NQ) (b3:Nat) (av:Value) (lav:Ev.leafV av=true) (fv:Value) (lfv:Ev.leafV fv=true) (fs:List Int) (hfr:fs.length≤12) (ix:Nat) (hi:ix < q.n) : Ev.Pie Try.prog 8 [6,0] 3 1 38 ⟨q.W0,q.F0⟩ (an2a16 q b3 ix) (an2a18 q b3 av fv fs) .normal (fun κ:Ev.Ren=>[(3,(pz b3)),(15,(iN (q.n))),(16,(iN ((ix)+1)))]) (fun κ:Ev.Ren=>(an2a18 q b3 av fv fs)):=(tr (c:=⟨q.W0,q.F0⟩) (kn [av,fv,iN (q.n),iN (ix),iN ((ix)+1)] (fc (by assumption) (fc (by assumption) fr)) [(.add,sy 3,.int .i64 1,sy 4)] [] [] (fc (fun _ _ _=>Ev.bt_add (by have z:=q.z; rw [wrap_ok (by omega) (by omega)]; omega)) fn) fn fn q.W0 q.F0 [(an2a15 q av fv fs)] [] []) fn fn rfl [(4,b3)] an2a11 an2a11 0 rfl rfl an2a12 [(3,.pointer (some ⟨4,0,none⟩)),(15,sy 2),(16,sy 4)] .normal)
theorem tnE (q:NQ) (b3:Nat) (av:Value) (lav:Ev.leafV av=true) (fv:Value) (lfv:Ev.leafV fv=true) (fs:List Int) (hfr:fs.length≤12) (ix:Nat) : Ev.PieE Try.prog 8 [] 4 38 ⟨q.W0,q.F0⟩ [(3,(pz b3))] (an2a18 q b3 av fv fs) (fun κ:Ev.Ren=>(pz b3)) (fun κ:Ev.Ren=>(an2a18 q b3 av fv fs)):=(trE (c:=⟨q.W0,q.F0⟩) 2 (kn [av,fv] (fc (by assumption) (fc (by assumption) fn)) [] [] [] fn fn fn q.W0 q.F0 [(an2a15 q av fv fs)] [] []) fn fn rfl [(4,b3)] an2a11 an2a11 0 rfl rfl [(3,.pointer (some ⟨4,0,none⟩))] (.pointer (some ⟨4,0,none⟩)))
end Go.Proofs.Ytankbefdlbcdnaa
namespace Go.Proofs.Ytankbefdlbcdnaa
open Go.RowKit
open Go.Ev (sy iz uz wz iN uN wN pz dv fc fn ak vk vd kn pc cc cr cm cd fr)
set_option linter.unusedVariables false
set_option linter.unusedSimpArgs false
set_option maxRecDepth 8000
attribute [local irreducible] Ev.wpL
structure DQ where
 W0:World
 F0:Nat→Prop
 bt:Nat
 bs:Nat
 t:Tab
 s:Sem
 ht:t.Ok
 hs:s.Ok
 ca:Int
 mo:Int
 k:Nat
 kd:Nat
 j:Nat
 b:Nat
 x:Nat
 xa:Nat
 xb:Nat
 r:List Int
 g:Int
 h:k < 4∧kd < 8
theorem DQ.z (q:DQ) : q.k < 4∧q.kd < 8∧(q.s.ln q.k).length≤12:=⟨q.h.1,q.h.2,q.hs.len _ q.h.1⟩
theorem DQ.hj (q:DQ) (h:q.t.gs[q.j]? = some (2,q.b)) : 0≤(q.j:Int)∧(q.j:Int) < 4096:=by
 have h1:=(List.getElem?_eq_some_iff.1 h).1
 have h2:=q.ht.n
 omega
theorem sem_whoD {w:World} {F:Nat→Prop} {bs k:Nat} {s:Sem} (O:s.Ok) (hk:k < s.nn) (h:Ev.Now [semA bs s] F w) :
  Calls Try.prog 15 #[sP bs 0,iN k] w fun e w'=>∃ v cd,Ev.dec cd=v∧e=.returned v∧Ev.Hold ⟨w,F⟩ [isL v (s.ln k),semA bs s] w' :=
 (sem_who O hk h).mono (fun _ _ ⟨v,cd,h1,h2,h3⟩=>⟨v,cd,h1,h2,h3.sel [1,0] (by kernel_rfl)⟩)
abbrev ad5a1 (q:DQ) : List Ev.Asr:=[tabA q.bt q.t,semA q.bs q.s]
abbrev ad5a2 (q:DQ) : Value:=(.agg #[(pz q.bt),(pz q.bs),(iz (q.ca)),(iz (q.mo))])
abbrev ad5a5:Value:=(.agg #[(.int .i64 0),(.int .i64 (-1))])
abbrev ad5a15:List (Nat×Value):=[(0,.agg #[sy 0,sy 1,sy 2,sy 3]),(1,.agg #[.int .i64 3,sy 4]),(2,sy 5)]
abbrev ad5a18 (q:DQ) : List (Nat×Value):=[(0,(ad5a2 q)),(1,(.agg #[(.int .i64 3),(iN (q.k))])),(2,(iN (q.j)))]
abbrev ad5a26:List (Nat×Value):=[(0,.agg #[sy 0,sy 1,sy 2,sy 3]),(1,.agg #[.int .i64 5,sy 4]),(2,sy 5)]
abbrev ad5a30 (q:DQ) : List (Nat×Value):=[(0,(ad5a2 q)),(1,(.agg #[(.int .i64 5),(iN (q.k))])),(2,(iN (q.j)))]
abbrev ad5a31 (q:DQ) : Ev.Asr:=semA q.bs ({ q.s with ln:=setZ q.s.ln q.k (q.s.ln q.k++[(q.j:Int)]),nw:=q.s.nw+1 })
abbrev ad5a33 (q:DQ) : List Ev.Asr:=[tabA q.bt (q.t.set q.j 3),(ad5a31 q)]
abbrev ad5a34:List (Nat×Value):=[(0,.agg #[sy 0,sy 1,sy 2,sy 3]),(1,.agg #[.int .i64 7,sy 4]),(2,sy 5)]
abbrev ad5a36 (q:DQ) : List (Nat×Value):=[(0,(ad5a2 q)),(1,(.agg #[(.int .i64 7),(iN (q.k))])),(2,(iN (q.j)))]
abbrev ad5a54 (q:DQ) (b4:Nat) : Ev.Asr:=Ev.blkA b4 [(pz q.bt),(pz q.bs),(iz (q.ca)),(iz (q.mo))] 31
abbrev ad5a56 (q:DQ) (v:Value) (b4:Nat) (b6:Nat) : List Ev.Asr:=[(ad5a54 q b4),Ev.blkA b6 [(.int .i64 0),(.int .i64 0)] 41,isL v (q.s.ln q.k),semA q.bs q.s,tabA q.bt q.t]
abbrev ad5a64 (q:DQ) : Ev.Asr:=semA q.bs ({ q.s with ln:=setZ q.s.ln q.k q.r })
theorem adWork (q:DQ) (hj:q.t.gs[q.j]? = some (2,q.b)) : Ev.PieE Try.prog 12 [] 0 46 ⟨q.W0,q.F0⟩ [(0,(ad5a2 q)),(1,(.agg #[(.int .i64 0),(iN (q.k))])),(2,(iN (q.j)))] (ad5a1 q) (fun κ:Ev.Ren=>(.tuple #[ad5a5,(.int .i64 0)])) (fun κ:Ev.Ren=>(ad5a1 q)):=(trE (c:=⟨q.W0,q.F0⟩) 60 (kn [pz q.bt,pz q.bs,iz (q.ca),iz (q.mo),iN (q.k),iN (q.j)] fr [(.geq,sy 4,.int .i64 0,.bool true),(.lss,sy 4,.int .i64 4,.bool true)] [] [] (fc (fun _ _ _=>Ev.bt_geq (by have z:=q.z; first | (simp; done) | (simp; omega))) (fc (fun _ _ _=>Ev.bt_lss (by have z:=q.z; first | (simp; done) | (simp; omega))) fn)) fn fn q.W0 q.F0 [(ad5a1 q),(ad5a1 q)] [] [⟨11,[sy 0,sy 5],0,none,.tuple #[.int .i64 2,.bool true],some 1⟩]) fn (fc (cc rfl [tabA q.bt q.t] [0] [1] (fun w F ho hn hF=>(status_in q.ht hj hn).mono (fun _ _ h=>h))) fn) rfl [] [] [] 1 rfl rfl [(0,.agg #[sy 0,sy 1,sy 2,sy 3]),(1,.agg #[.int .i64 0,sy 4]),(2,sy 5)] (.tuple #[.agg #[.int .i64 0,.int .i64 (-1)],.int .i64 0]))
theorem adCheck (q:DQ) (hj:q.t.gs[q.j]? = some (2,q.b)) : Ev.PieE Try.prog 12 [] 0 46 ⟨q.W0,q.F0⟩ [(0,(ad5a2 q)),(1,(.agg #[(.int .i64 1),(iN (q.k))])),(2,(iN (q.j)))] (ad5a1 q) (fun κ:Ev.Ren=>(.tuple #[(.agg #[(.int .i64 1),(.int .i64 (-1))]),(.int .i64 0)])) (fun κ:Ev.Ren=>(ad5a1 q)):=(trE (c:=⟨q.W0,q.F0⟩) 60 (kn [pz q.bt,pz q.bs,iz (q.ca),iz (q.mo),iN (q.k),iN (q.j)] fr [(.geq,sy 4,.int .i64 0,.bool true),(.lss,sy 4,.int .i64 4,.bool true)] [] [] (fc (fun _ _ _=>Ev.bt_geq (by have z:=q.z; first | (simp; done) | (simp; omega))) (fc (fun _ _ _=>Ev.bt_lss (by have z:=q.z; first | (simp; done) | (simp; omega))) fn)) fn fn q.W0 q.F0 [(ad5a1 q),(ad5a1 q)] [] [⟨11,[sy 0,sy 5],0,none,.tuple #[.int .i64 2,.bool true],some 1⟩]) fn (fc (cc rfl [tabA q.bt q.t] [0] [1] (fun w F ho hn hF=>(status_in q.ht hj hn).mono (fun _ _ h=>h))) fn) rfl [] [] [] 1 rfl rfl [(0,.agg #[sy 0,sy 1,sy 2,sy 3]),(1,.agg #[.int .i64 1,sy 4]),(2,sy 5)] (.tuple #[.agg #[.int .i64 1,.int .i64 (-1)],.int .i64 0]))
theorem adYield (q:DQ) (hj:q.t.gs[q.j]? = some (2,q.b)) : Ev.PieE Try.prog 12 [] 0 46 ⟨q.W0,q.F0⟩ [(0,(ad5a2 q)),(1,(.agg #[(.int .i64 2),(iN (q.k))])),(2,(iN (q.j)))] (ad5a1 q) (fun κ:Ev.Ren=>(.tuple #[(.agg #[(.int .i64 3),(.int .i64 (-1))]),(.int .i64 0)])) (fun κ:Ev.Ren=>[tabA q.bt (q.t.set q.j 1),semA q.bs q.s]):=(trE (c:=⟨q.W0,q.F0⟩) 60 (kn [pz q.bt,pz q.bs,iz (q.ca),iz (q.mo),iN (q.k),iN (q.j)] fr [(.geq,sy 4,.int .i64 0,.bool true),(.lss,sy 4,.int .i64 4,.bool true)] [] [] (fc (fun _ _ _=>Ev.bt_geq (by have z:=q.z; first | (simp; done) | (simp; omega))) (fc (fun _ _ _=>Ev.bt_lss (by have z:=q.z; first | (simp; done) | (simp; omega))) fn)) fn fn q.W0 q.F0 [(ad5a1 q),(ad5a1 q),[tabA q.bt (q.t.set q.j 1),semA q.bs q.s]] [] [⟨11,[sy 0,sy 5],0,none,.tuple #[.int .i64 2,.bool true],some 1⟩,⟨10,[sy 0,sy 5,.int .i64 1],1,none,.int .i64 0,some 2⟩]) fn (fc (cc rfl [tabA q.bt q.t] [0] [1] (fun w F ho hn hF=>(status_in q.ht hj hn).mono (fun _ _ h=>h))) (fc (cc rfl [tabA q.bt (q.t.set q.j 1)] [0] [1] (fun w F ho hn hF=>set_yes q.ht (by decide) hj rfl hn)) fn)) rfl [] [] [] 2 rfl rfl [(0,.agg #[sy 0,sy 1,sy 2,sy 3]),(1,.agg #[.int .i64 2,sy 4]),(2,sy 5)] (.tuple #[.agg #[.int .i64 3,.int .i64 (-1)],.int .i64 0]))
theorem adSpY (q:DQ) (hj:q.t.gs[q.j]? = some (2,q.b)) (hf:q.t.fr[q.t.fr.length - 1]? = some q.x) (hx:q.t.gs[q.x]? = some (q.xa,q.xb)) : Ev.PieE Try.prog 12 [] 0 46 ⟨q.W0,q.F0⟩ (ad5a18 q) (ad5a1 q) (fun κ:Ev.Ren=>(.tuple #[(.agg #[(.int .i64 2),(iN (q.x))]),(.int .i64 0)])) (fun κ:Ev.Ren=>[tabA q.bt (q.t.make q.x),semA q.bs q.s]):=(trE (c:=⟨q.W0,q.F0⟩) 60 (kn [pz q.bt,pz q.bs,iz (q.ca),iz (q.mo),iN (q.k),iN (q.j),iN (q.x)] fr [(.geq,sy 4,.int .i64 0,.bool true),(.lss,sy 4,.int .i64 4,.bool true)] [] [] (fc (fun _ _ _=>Ev.bt_geq (by have z:=q.z; first | (simp; done) | (simp; omega))) (fc (fun _ _ _=>Ev.bt_lss (by have z:=q.z; first | (simp; done) | (simp; omega))) fn)) fn fn q.W0 q.F0 [(ad5a1 q),(ad5a1 q),[tabA q.bt (q.t.make q.x),semA q.bs q.s]] [] [⟨11,[sy 0,sy 5],0,none,.tuple #[.int .i64 2,.bool true],some 1⟩,⟨9,[sy 0],1,none,.tuple #[sy 6,.int .i64 0],some 2⟩]) fn (fc (cc rfl [tabA q.bt q.t] [0] [1] (fun w F ho hn hF=>(status_in q.ht hj hn).mono (fun _ _ h=>h))) (fc (cc rfl [tabA q.bt (q.t.make q.x)] [0] [1] (fun w F ho hn hF=>make_yes q.ht hf hx hn)) fn)) rfl [] [] [] 2 rfl rfl ad5a15 (.tuple #[.agg #[.int .i64 2,sy 6],.int .i64 0]))
theorem adSpN (q:DQ) (hj:q.t.gs[q.j]? = some (2,q.b)) (hf:q.t.fr=[]) : Ev.PieE Try.prog 12 [] 0 46 ⟨q.W0,q.F0⟩ (ad5a18 q) (ad5a1 q) (fun κ:Ev.Ren=>(.tuple #[(.agg #[(.int .i64 0),(.int .i64 0)]),(.int .i64 282)])) (fun κ:Ev.Ren=>(ad5a1 q)):=(trE (c:=⟨q.W0,q.F0⟩) 60 (kn [pz q.bt,pz q.bs,iz (q.ca),iz (q.mo),iN (q.k),iN (q.j)] fr [(.geq,sy 4,.int .i64 0,.bool true),(.lss,sy 4,.int .i64 4,.bool true)] [] [] (fc (fun _ _ _=>Ev.bt_geq (by have z:=q.z; first | (simp; done) | (simp; omega))) (fc (fun _ _ _=>Ev.bt_lss (by have z:=q.z; first | (simp; done) | (simp; omega))) fn)) fn fn q.W0 q.F0 [(ad5a1 q),(ad5a1 q),(ad5a1 q)] [] [⟨11,[sy 0,sy 5],0,none,.tuple #[.int .i64 2,.bool true],some 1⟩,⟨9,[sy 0],1,none,.tuple #[.int .i64 (-1),.int .i64 130],some 2⟩]) fn (fc (cc rfl [tabA q.bt q.t] [0] [1] (fun w F ho hn hF=>(status_in q.ht hj hn).mono (fun _ _ h=>h))) (fc (cc rfl [tabA q.bt q.t] [0] [1] (fun w F ho hn hF=>make_no q.ht hf hn)) fn)) rfl [] [] [] 2 rfl rfl ad5a15 (.tuple #[.agg #[.int .i64 0,.int .i64 0],.int .i64 282]))
theorem adExit (q:DQ) (hj:q.t.gs[q.j]? = some (2,q.b)) : Ev.PieE Try.prog 12 [] 0 46 ⟨q.W0,q.F0⟩ [(0,(ad5a2 q)),(1,(.agg #[(.int .i64 4),(iN (q.k))])),(2,(iN (q.j)))] (ad5a1 q) (fun κ:Ev.Ren=>(.tuple #[(.agg #[(.int .i64 4),(.int .i64 (-1))]),(.int .i64 0)])) (fun κ:Ev.Ren=>[tabA q.bt (q.t.set q.j 0),semA q.bs q.s]):=(trE (c:=⟨q.W0,q.F0⟩) 60 (kn [pz q.bt,pz q.bs,iz (q.ca),iz (q.mo),iN (q.k),iN (q.j)] fr [(.geq,sy 4,.int .i64 0,.bool true),(.lss,sy 4,.int .i64 4,.bool true)] [] [] (fc (fun _ _ _=>Ev.bt_geq (by have z:=q.z; first | (simp; done) | (simp; omega))) (fc (fun _ _ _=>Ev.bt_lss (by have z:=q.z; first | (simp; done) | (simp; omega))) fn)) fn fn q.W0 q.F0 [(ad5a1 q),(ad5a1 q),[tabA q.bt (q.t.set q.j 0),semA q.bs q.s]] [] [⟨11,[sy 0,sy 5],0,none,.tuple #[.int .i64 2,.bool true],some 1⟩,⟨10,[sy 0,sy 5,.int .i64 0],1,none,.int .i64 0,some 2⟩]) fn (fc (cc rfl [tabA q.bt q.t] [0] [1] (fun w F ho hn hF=>(status_in q.ht hj hn).mono (fun _ _ h=>h))) (fc (cc rfl [tabA q.bt (q.t.set q.j 0)] [0] [1] (fun w F ho hn hF=>set_yes q.ht (by decide) hj rfl hn)) fn)) rfl [] [] [] 2 rfl rfl [(0,.agg #[sy 0,sy 1,sy 2,sy 3]),(1,.agg #[.int .i64 4,sy 4]),(2,sy 5)] (.tuple #[.agg #[.int .i64 4,.int .i64 (-1)],.int .i64 0]))
theorem adAcG (q:DQ) (hj:q.t.gs[q.j]? = some (2,q.b)) (hk:q.k < q.s.nn) (hw:∀ i,i < 4→(q.j:Int) ∉ q.s.ln i) (hc:0 < q.s.ct q.k) : Ev.PieE Try.prog 12 [] 0 46 ⟨q.W0,q.F0⟩ (ad5a30 q) (ad5a1 q) (fun κ:Ev.Ren=>(.tuple #[ad5a5,(.int .i64 0)])) (fun κ:Ev.Ren=>[semA q.bs ({ q.s with ct:=setZ q.s.ct q.k (q.s.ct q.k - 1) }),tabA q.bt q.t]):=(trE (c:=⟨q.W0,q.F0⟩) 60 (kn [pz q.bt,pz q.bs,iz (q.ca),iz (q.mo),iN (q.k),iN (q.j)] fr [(.geq,sy 4,.int .i64 0,.bool true),(.lss,sy 4,.int .i64 4,.bool true)] [] [] (fc (fun _ _ _=>Ev.bt_geq (by have z:=q.z; first | (simp; done) | (simp; omega))) (fc (fun _ _ _=>Ev.bt_lss (by have z:=q.z; first | (simp; done) | (simp; omega))) fn)) fn fn q.W0 q.F0 [(ad5a1 q),(ad5a1 q),[semA q.bs ({ q.s with ct:=setZ q.s.ct q.k (q.s.ct q.k - 1) }),tabA q.bt q.t]] [] [⟨11,[sy 0,sy 5],0,none,.tuple #[.int .i64 2,.bool true],some 1⟩,⟨56,[sy 1,sy 4,sy 5],1,none,.tuple #[.bool true,.int .i64 0],some 2⟩]) fn (fc (cc rfl [tabA q.bt q.t] [0] [1] (fun w F ho hn hF=>(status_in q.ht hj hn).mono (fun _ _ h=>h))) (fc (cc rfl [semA q.bs ({ q.s with ct:=setZ q.s.ct q.k (q.s.ct q.k - 1) })] [1] [0] (fun w F ho hn hF=>sem_gain q.hs hk (q.hj hj) hw hc hn)) fn)) rfl [] [] [] 2 rfl rfl ad5a26 (.tuple #[.agg #[.int .i64 0,.int .i64 (-1)],.int .i64 0]))
theorem adAcW (q:DQ) (hj:q.t.gs[q.j]? = some (2,q.b)) (hk:q.k < q.s.nn) (hw:∀ i,i < 4→(q.j:Int) ∉ q.s.ln i) (hc:q.s.ct q.k=0) : Ev.PieE Try.prog 12 [] 0 46 ⟨q.W0,q.F0⟩ (ad5a30 q) (ad5a1 q) (fun κ:Ev.Ren=>(.tuple #[(.agg #[(.int .i64 4),(.int .i64 (-1))]),(.int .i64 0)])) (fun κ:Ev.Ren=>(ad5a33 q)):=(trE (c:=⟨q.W0,q.F0⟩) 60 (kn [pz q.bt,pz q.bs,iz (q.ca),iz (q.mo),iN (q.k),iN (q.j)] fr [(.geq,sy 4,.int .i64 0,.bool true),(.lss,sy 4,.int .i64 4,.bool true)] [] [] (fc (fun _ _ _=>Ev.bt_geq (by have z:=q.z; first | (simp; done) | (simp; omega))) (fc (fun _ _ _=>Ev.bt_lss (by have z:=q.z; first | (simp; done) | (simp; omega))) fn)) fn fn q.W0 q.F0 [(ad5a1 q),(ad5a1 q),[(ad5a31 q),tabA q.bt q.t],(ad5a33 q)] [] [⟨11,[sy 0,sy 5],0,none,.tuple #[.int .i64 2,.bool true],some 1⟩,⟨56,[sy 1,sy 4,sy 5],1,none,.tuple #[.bool false,.int .i64 0],some 2⟩,⟨10,[sy 0,sy 5,.int .i64 3],2,none,.int .i64 0,some 3⟩]) fn (fc (cc rfl [tabA q.bt q.t] [0] [1] (fun w F ho hn hF=>(status_in q.ht hj hn).mono (fun _ _ h=>h))) (fc (cc rfl [semA q.bs ({ q.s with ln:=setZ q.s.ln q.k (q.s.ln q.k++[(q.j:Int)]),nw:=q.s.nw+1 })] [1] [0] (fun w F ho hn hF=>sem_wait q.hs hk (q.hj hj) hw hc hn)) (fc (cc rfl [tabA q.bt (q.t.set q.j 3)] [1] [0] (fun w F ho hn hF=>set_yes q.ht (by decide) hj rfl hn)) fn))) rfl [] [] [] 3 rfl rfl ad5a26 (.tuple #[.agg #[.int .i64 4,.int .i64 (-1)],.int .i64 0]))
theorem adCaN (q:DQ) (hj:q.t.gs[q.j]? = some (2,q.b)) (hm:q.mo≤q.ca) : Ev.PieE Try.prog 12 [] 0 46 ⟨q.W0,q.F0⟩ (ad5a36 q) (ad5a1 q) (fun κ:Ev.Ren=>(.tuple #[(.agg #[(.int .i64 0),(.int .i64 0)]),(.int .i64 282)])) (fun κ:Ev.Ren=>(ad5a1 q)):=(trE (c:=⟨q.W0,q.F0⟩) 60 (kn [pz q.bt,pz q.bs,iz (q.ca),iz (q.mo),iN (q.k),iN (q.j)] fr [(.geq,sy 4,.int .i64 0,.bool true),(.lss,sy 4,.int .i64 4,.bool true),(.geq,sy 2,sy 3,.bool true)] [] [] (fc (fun _ _ _=>Ev.bt_geq (by have z:=q.z; first | (simp; done) | (simp; omega))) (fc (fun _ _ _=>Ev.bt_lss (by have z:=q.z; first | (simp; done) | (simp; omega))) (fc (fun _ _ _=>Ev.bt_geq (by have z:=q.z; first | (simp; done) | (simp; omega))) fn))) fn fn q.W0 q.F0 [(ad5a1 q),(ad5a1 q)] [] [⟨11,[sy 0,sy 5],0,none,.tuple #[.int .i64 2,.bool true],some 1⟩]) fn (fc (cc rfl [tabA q.bt q.t] [0] [1] (fun w F ho hn hF=>(status_in q.ht hj hn).mono (fun _ _ h=>h))) fn) rfl [] [] [] 1 rfl rfl ad5a34 (.tuple #[.agg #[.int .i64 0,.int .i64 0],.int .i64 282]))
theorem adCaY (q:DQ) (hj:q.t.gs[q.j]? = some (2,q.b)) (hm:q.ca < q.mo) : Ev.PieE Try.prog 12 [] 0 46 ⟨q.W0,q.F0⟩ (ad5a36 q) (ad5a1 q) (fun κ:Ev.Ren=>(.tuple #[(.agg #[(.int .i64 5),(.int .i64 (-1))]),(.int .i64 0)])) (fun κ:Ev.Ren=>[tabA q.bt (q.t.set q.j 4),semA q.bs q.s]):=(trE (c:=⟨q.W0,q.F0⟩) 60 (kn [pz q.bt,pz q.bs,iz (q.ca),iz (q.mo),iN (q.k),iN (q.j)] fr [(.geq,sy 4,.int .i64 0,.bool true),(.lss,sy 4,.int .i64 4,.bool true),(.geq,sy 2,sy 3,.bool false)] [] [] (fc (fun _ _ _=>Ev.bt_geq (by have z:=q.z; first | (simp; done) | (simp; omega))) (fc (fun _ _ _=>Ev.bt_lss (by have z:=q.z; first | (simp; done) | (simp; omega))) (fc (fun _ _ _=>Ev.bt_geq (by have z:=q.z; first | (simp; done) | (simp; omega))) fn))) fn fn q.W0 q.F0 [(ad5a1 q),(ad5a1 q),[tabA q.bt (q.t.set q.j 4),semA q.bs q.s]] [] [⟨11,[sy 0,sy 5],0,none,.tuple #[.int .i64 2,.bool true],some 1⟩,⟨10,[sy 0,sy 5,.int .i64 4],1,none,.int .i64 0,some 2⟩]) fn (fc (cc rfl [tabA q.bt q.t] [0] [1] (fun w F ho hn hF=>(status_in q.ht hj hn).mono (fun _ _ h=>h))) (fc (cc rfl [tabA q.bt (q.t.set q.j 4)] [0] [1] (fun w F ho hn hF=>set_yes q.ht (by decide) hj rfl hn)) fn)) rfl [] [] [] 2 rfl rfl ad5a34 (.tuple #[.agg #[.int .i64 5,.int .i64 (-1)],.int .i64 0]))
theorem rlA (q:DQ) (hk:q.k < q.s.nn) : Ev.Pie Try.prog 37 [] 0 2 63 ⟨q.W0,q.F0⟩ [(0,(ad5a2 q)),(1,(iN (q.j))),(2,(iN (q.k)))] (ad5a1 q) .normal (fun κ:Ev.Ren=>[(2,(iN (q.k))),(3,(pz ((κ 400).getD 0))),(6,(pz ((κ 404).getD 0))),(18,(dv κ 411)),(19,(iN ((q.s.ln q.k).length))),(20,(.int .i64 0))]) (fun κ:Ev.Ren=>[Ev.blkA ((κ 400).getD 0) [(pz q.bt),(pz q.bs),(iz (q.ca)),(iz (q.mo))] 31,Ev.blkA ((κ 404).getD 0) [(.int .i64 0),(.int .i64 0)] 41,isL (dv κ 411) (q.s.ln q.k),semA q.bs q.s,tabA q.bt q.t]):=(tr (c:=⟨q.W0,q.F0⟩) (kn [pz q.bt,pz q.bs,iz (q.ca),iz (q.mo),iN (q.j),iN (q.k),iN ((q.s.ln q.k).length)] fr [] [] [] fn fn fn q.W0 q.F0 [(ad5a1 q),[Ev.atD 411 (fun v=>isL v (q.s.ln q.k)),semA q.bs q.s,tabA q.bt q.t]] [⟨[10,37],[.complex .f32 411 0],none,1,none,sy 6,none⟩] [⟨15,[sy 1,sy 5],0,some 411,.complex .f32 411 0,some 1⟩]) (fc (by obtain ⟨i,i1,i2,i3,i4⟩:=infInt; exact Ev.sl_lenD (ci:=1) rfl rfl Try.underlying37 i2 rfl) fn) (fc (cm rfl [fun v=>isL v (q.s.ln q.k)] [semA q.bs q.s] [1] [0] (fun w F ho hn hF=>sem_whoD q.hs hk hn)) fn) rfl [] [] [(400,[sy 0,sy 1,sy 2,sy 3],31),(404,[.int .i64 0,.int .i64 0],41)] 1 rfl rfl [(0,.agg #[sy 0,sy 1,sy 2,sy 3]),(1,sy 4),(2,sy 5)] [(2,sy 5),(3,.pointer (some ⟨400,0,none⟩)),(6,.pointer (some ⟨404,0,none⟩)),(18,.complex .f32 411 0),(19,sy 6),(20,.int .i64 0)] .normal).conv (fun κ w=>⟨(fun _ h=>h),(fun _ h=>h),(fun _ h=>Ev.undy (a:=fun v=>isL v (q.s.ln q.k)) (fun _ _ _ _ _ h=>h) h),(fun _ h=>h),(fun _ h=>h),trivial⟩)
theorem rlE (q:DQ) (hk:q.k < q.s.nn) (v:Value) (lv:Ev.leafV v=true) (b4 b6:Nat) (hl:q.s.ln q.k=[]) (hl1:(q.s.ln q.k).length=0) : Ev.PieE Try.prog 37 [] 2 63 ⟨q.W0,q.F0⟩ [(2,(iN (q.k))),(3,(pz b4)),(6,(pz b6)),(18,(v)),(19,(iN ((q.s.ln q.k).length))),(20,(.int .i64 0))] (ad5a56 q v b4 b6) (fun κ:Ev.Ren=>(.tuple #[ad5a5,(.int .i64 0)])) (fun κ:Ev.Ren=>[(ad5a54 q b4),Ev.blkA b6 [(.int .i64 0),(.int .i64 (-1))] 41,semA q.bs ({ q.s with ct:=setZ q.s.ct q.k (q.s.ct q.k+1) }),isL v (q.s.ln q.k),tabA q.bt q.t]):=(trE (c:=⟨q.W0,q.F0⟩) 20 (kn [v,iN ((q.s.ln q.k).length),iN (q.k),pz q.bt,pz q.bs,iz (q.ca),iz (q.mo)] (fc (by assumption) fr) [(.lss,.int .i64 0,sy 1,.bool false)] [] [] (fc (fun _ _ _=>Ev.bt_lss (by have z:=q.z; first | (simp; done) | (simp; omega))) fn) fn fn q.W0 q.F0 [[isL v (q.s.ln q.k),semA q.bs q.s,tabA q.bt q.t],[semA q.bs ({ q.s with ct:=setZ q.s.ct q.k (q.s.ct q.k+1) }),isL v (q.s.ln q.k),tabA q.bt q.t]] [] [⟨57,[sy 4,sy 2],0,none,.tuple #[.int .i64 0,.bool false,.int .i64 0],some 1⟩]) fn (fc (cc rfl [semA q.bs ({ q.s with ct:=setZ q.s.ct q.k (q.s.ct q.k+1) })] [1] [0,2] (fun w F ho hn hF=>sem_count q.hs hk hl hn)) fn) rfl [(4,b4),(8,b6)] [(4,[sy 3,sy 4,sy 5,sy 6],31),(8,[.int .i64 0,.int .i64 0],41)] [(4,[sy 3,sy 4,sy 5,sy 6],31),(8,[.int .i64 0,.int .i64 (-1)],41)] 1 rfl rfl [(2,sy 2),(3,.pointer (some ⟨4,0,none⟩)),(6,.pointer (some ⟨8,0,none⟩)),(18,sy 0),(19,sy 1),(20,.int .i64 0)] (.tuple #[.agg #[.int .i64 0,.int .i64 (-1)],.int .i64 0]))
theorem rlX (q:DQ) (hk:q.k < q.s.nn) (v:Value) (lv:Ev.leafV v=true) (b4 b6:Nat) (hl:q.s.ln q.k=(q.x:Int)::q.r) (hl1:0 < (q.s.ln q.k).length) (hl0:(ints (q.s.ln q.k))[(0 * 1)]? = some (iN (q.x))) (hx:q.t.gs[q.x]? = some (3,q.xb)) : Ev.PieE Try.prog 37 [] 2 63 ⟨q.W0,q.F0⟩ [(2,(iN (q.k))),(3,(pz b4)),(6,(pz b6)),(18,(v)),(19,(iN ((q.s.ln q.k).length))),(20,(.int .i64 0))] (ad5a56 q v b4 b6) (fun κ:Ev.Ren=>(.tuple #[(.agg #[(.int .i64 2),(iN (q.x))]),(.int .i64 0)])) (fun κ:Ev.Ren=>[(ad5a54 q b4),Ev.blkA b6 [(.int .i64 2),(iN (q.x))] 41,tabA q.bt (q.t.set q.x 1),(ad5a64 q),isL v (q.s.ln q.k)]):=(trE (c:=⟨q.W0,q.F0⟩) 20 (kn [v,Ev.ptrR (v) (0 * 1),iN ((q.s.ln q.k).length),iN (q.k),pz q.bt,pz q.bs,iz (q.ca),iz (q.mo),iN (q.x)] (fc (by assumption) (fc (Ev.ptrR_leaf _ _) fr)) [(.lss,.int .i64 0,sy 2,.bool true)] [] [] (fc (fun _ _ _=>Ev.bt_lss (by have z:=q.z; first | (simp; done) | (simp; omega))) fn) fn fn q.W0 q.F0 [[isL v (q.s.ln q.k),semA q.bs q.s,tabA q.bt q.t],[tabA q.bt q.t,isL v (q.s.ln q.k),semA q.bs q.s],[(ad5a64 q),tabA q.bt q.t,isL v (q.s.ln q.k)],[tabA q.bt (q.t.set q.x 1),(ad5a64 q),isL v (q.s.ln q.k)]] [⟨[3,37],[sy 0,.int .i64 0],none,0,none,sy 1,none⟩,⟨[1,3],[sy 1],none,0,none,sy 8,none⟩] [⟨11,[sy 4,sy 8],0,none,.tuple #[.int .i64 3,.bool true],some 1⟩,⟨57,[sy 5,sy 3],1,none,.tuple #[sy 8,.bool true,.int .i64 0],some 2⟩,⟨10,[sy 4,sy 8,.int .i64 1],2,none,.int .i64 0,some 3⟩]) (fc (by obtain ⟨i,i1,i2,i3,i4⟩:=infInt; have z:=q.z; exact Ev.sl_indexL (ci:=1) (j:=0) rfl rfl Try.underlying37 i1 i2 rfl Ev.isInt (by omega) rfl) (fc (by have z:=q.z; exact Ev.sl_load (ci:=1) (m:=0 * 1) (x:=(iN (q.x))) rfl rfl loadInt hl0 (by simp; omega) rfl (fun ι=>(vk (by kernel_rfl) (by kernel_rfl)))) fn)) (fc (cc rfl [tabA q.bt q.t] [2] [0,1] (fun w F ho hn hF=>(status_in q.ht hx hn).mono (fun _ _ h=>h))) (fc (cc rfl [semA q.bs ({ q.s with ln:=setZ q.s.ln q.k q.r })] [2] [0,1] (fun w F ho hn hF=>sem_wake q.hs hk hl hn)) (fc (cc rfl [tabA q.bt (q.t.set q.x 1)] [1] [0,2] (fun w F ho hn hF=>set_yes q.ht (by decide) hx rfl hn)) fn))) rfl [(4,b4),(8,b6)] [(4,[sy 4,sy 5,sy 6,sy 7],31),(8,[.int .i64 0,.int .i64 0],41)] [(4,[sy 4,sy 5,sy 6,sy 7],31),(8,[.int .i64 2,sy 8],41)] 3 rfl rfl [(2,sy 3),(3,.pointer (some ⟨4,0,none⟩)),(6,.pointer (some ⟨8,0,none⟩)),(18,sy 0),(19,sy 2),(20,.int .i64 0)] (.tuple #[.agg #[.int .i64 2,sy 8],.int .i64 0]))
end Go.Proofs.Ytankbefdlbcdnaa
namespace Go.Proofs.Ytankbefdlbcdnaa
open Go.RowKit
open Go.Ev (iz iN pz)
set_option linter.unusedVariables false
set_option linter.unusedSimpArgs false
attribute [local irreducible] Ev.wpL
abbrev wldV (bt bs:Nat) (ca mo:Int) : Value:=.agg #[pz bt,pz bs,iz ca,iz mo]
abbrev resV (nx x e:Int) : Value:=.tuple #[.agg #[iz nx,iz x],iz e]
theorem relE (q:DQ) {w:World} {F:Nat→Prop} (hk:q.k < q.s.nn) (hl:q.s.ln q.k=[]) (h:Ev.Now [tabA q.bt q.t,semA q.bs q.s] F w) :
  Calls Try.prog 37 #[wldV q.bt q.bs q.ca q.mo,iN q.j,iN q.k] w fun e w'=>e=.returned (resV 0 (-1) 0)∧Ev.Hold ⟨w,F⟩ [tabA q.bt q.t,semA q.bs { q.s with ct:=setZ q.s.ct q.k (q.s.ct q.k+1) }] w':=by
 let p:DQ:={ q with W0:=w,F0:=F }
 refine Ev.con_start (N:=63) (tm:=[(0,wldV q.bt q.bs q.ca q.mo),(1,iN q.j),(2,iN q.k)]) (by kernel_rfl) h (by simp) (by simp) (fun A hA=>?_)
 refine rlA p hk A w _ hA ?_
 intro κ A1 w1 h1
 dsimp only at h1
 have lv:Ev.leafV (Ev.dv κ 411)=true:=Ev.dec_leaf _
 generalize (κ 400).getD 0=b4 at h1
 generalize (κ 404).getD 0=b6 at h1
 generalize Ev.dv κ 411=v at h1 lv
 refine rlE p hk v lv b4 b6 hl (by show (q.s.ln q.k).length=0; rw [hl]; rfl) A1 w1 _ h1 ?_
 intro κ2 w2 h2
 exact ⟨rfl,h2.sel [4,2] (by kernel_rfl)⟩
theorem relX (q:DQ) {w:World} {F:Nat→Prop} (hk:q.k < q.s.nn) (hl:q.s.ln q.k=(q.x:Int)::q.r) (hx:q.t.gs[q.x]? = some (3,q.xb)) (h:Ev.Now [tabA q.bt q.t,semA q.bs q.s] F w) :
  Calls Try.prog 37 #[wldV q.bt q.bs q.ca q.mo,iN q.j,iN q.k] w fun e w'=>e=.returned (resV 2 (q.x:Int) 0)∧Ev.Hold ⟨w,F⟩ [tabA q.bt (q.t.set q.x 1),semA q.bs { q.s with ln:=setZ q.s.ln q.k q.r }] w':=by
 let p:DQ:={ q with W0:=w,F0:=F }
 refine Ev.con_start (N:=63) (tm:=[(0,wldV q.bt q.bs q.ca q.mo),(1,iN q.j),(2,iN q.k)]) (by kernel_rfl) h (by simp) (by simp) (fun A hA=>?_)
 refine rlA p hk A w _ hA ?_
 intro κ A1 w1 h1
 dsimp only at h1
 have lv:Ev.leafV (Ev.dv κ 411)=true:=Ev.dec_leaf _
 generalize (κ 400).getD 0=b4 at h1
 generalize (κ 404).getD 0=b6 at h1
 generalize Ev.dv κ 411=v at h1 lv
 refine rlX p hk v lv b4 b6 hl (by show 0 < (q.s.ln q.k).length; rw [hl]; exact Nat.succ_pos _) (by show (ints (q.s.ln q.k))[0]? = _; rw [hl]; rfl) hx A1 w1 _ h1 ?_
 intro κ2 w2 h2
 exact ⟨rfl,h2.sel [2,3] (by kernel_rfl)⟩
end Go.Proofs.Ytankbefdlbcdnaa
namespace Go.Proofs.Ytankbefdlbcdnaa
open Go.RowKit
open Go.Ev (sy iz uz wz iN uN wN pz dv fc fn ak vk vd kn pc cc cr cm cd fr)
set_option linter.unusedVariables false
set_option linter.unusedSimpArgs false
set_option maxRecDepth 8000
attribute [local irreducible] Ev.wpL
abbrev ad6a1 (q:DQ) : List Ev.Asr:=[tabA q.bt q.t,semA q.bs q.s]
abbrev ad6a2 (q:DQ) : Value:=(.agg #[(pz q.bt),(pz q.bs),(iz (q.ca)),(iz (q.mo))])
abbrev ad6a70:List (Nat×Value):=[(0,.agg #[sy 0,sy 1,sy 2,sy 3]),(1,.agg #[.int .i64 6,sy 4]),(2,sy 5)]
abbrev ad6a73 (q:DQ) : List (Nat×Value):=[(0,(ad6a2 q)),(1,(.agg #[(.int .i64 6),(iN (q.k))])),(2,(iN (q.j)))]
theorem adReE (q:DQ) (hj:q.t.gs[q.j]? = some (2,q.b)) (hk:q.k < q.s.nn) (hl:q.s.ln q.k=[]) : Ev.PieE Try.prog 12 [] 0 46 ⟨q.W0,q.F0⟩ (ad6a73 q) (ad6a1 q) (fun κ:Ev.Ren=>(.tuple #[(.agg #[(.int .i64 0),(.int .i64 (-1))]),(.int .i64 0)])) (fun κ:Ev.Ren=>[tabA q.bt q.t,semA q.bs ({ q.s with ct:=setZ q.s.ct q.k (q.s.ct q.k+1) })]):=(trE (c:=⟨q.W0,q.F0⟩) 60 (kn [pz q.bt,pz q.bs,iz (q.ca),iz (q.mo),iN (q.k),iN (q.j)] fr [(.geq,sy 4,.int .i64 0,.bool true),(.lss,sy 4,.int .i64 4,.bool true)] [] [] (fc (fun _ _ _=>Ev.bt_geq (by have z:=q.z; first | (simp; done) | (simp; omega))) (fc (fun _ _ _=>Ev.bt_lss (by have z:=q.z; first | (simp; done) | (simp; omega))) fn)) fn fn q.W0 q.F0 [(ad6a1 q),(ad6a1 q),[tabA q.bt q.t,semA q.bs ({ q.s with ct:=setZ q.s.ct q.k (q.s.ct q.k+1) })]] [] [⟨11,[sy 0,sy 5],0,none,.tuple #[.int .i64 2,.bool true],some 1⟩,⟨37,[.agg #[sy 0,sy 1,sy 2,sy 3],sy 5,sy 4],1,none,.tuple #[.agg #[.int .i64 0,.int .i64 (-1)],.int .i64 0],some 2⟩]) fn (fc (cc rfl [tabA q.bt q.t] [0] [1] (fun w F ho hn hF=>(status_in q.ht hj hn).mono (fun _ _ h=>h))) (fc (cc rfl [tabA q.bt q.t,semA q.bs ({ q.s with ct:=setZ q.s.ct q.k (q.s.ct q.k+1) })] [0,1] [] (fun w F ho hn hF=>relE q hk hl hn)) fn)) rfl [] [] [] 2 rfl rfl ad6a70 (.tuple #[.agg #[.int .i64 0,.int .i64 (-1)],.int .i64 0]))
theorem adReX (q:DQ) (hj:q.t.gs[q.j]? = some (2,q.b)) (hk:q.k < q.s.nn) (hl:q.s.ln q.k=(q.x:Int)::q.r) (hx:q.t.gs[q.x]? = some (3,q.xb)) : Ev.PieE Try.prog 12 [] 0 46 ⟨q.W0,q.F0⟩ (ad6a73 q) (ad6a1 q) (fun κ:Ev.Ren=>(.tuple #[(.agg #[(.int .i64 2),(iN (q.x))]),(.int .i64 0)])) (fun κ:Ev.Ren=>[tabA q.bt (q.t.set q.x 1),semA q.bs ({ q.s with ln:=setZ q.s.ln q.k q.r })]):=(trE (c:=⟨q.W0,q.F0⟩) 60 (kn [pz q.bt,pz q.bs,iz (q.ca),iz (q.mo),iN (q.k),iN (q.j),iN (q.x)] fr [(.geq,sy 4,.int .i64 0,.bool true),(.lss,sy 4,.int .i64 4,.bool true)] [] [] (fc (fun _ _ _=>Ev.bt_geq (by have z:=q.z; first | (simp; done) | (simp; omega))) (fc (fun _ _ _=>Ev.bt_lss (by have z:=q.z; first | (simp; done) | (simp; omega))) fn)) fn fn q.W0 q.F0 [(ad6a1 q),(ad6a1 q),[tabA q.bt (q.t.set q.x 1),semA q.bs ({ q.s with ln:=setZ q.s.ln q.k q.r })]] [] [⟨11,[sy 0,sy 5],0,none,.tuple #[.int .i64 2,.bool true],some 1⟩,⟨37,[.agg #[sy 0,sy 1,sy 2,sy 3],sy 5,sy 4],1,none,.tuple #[.agg #[.int .i64 2,sy 6],.int .i64 0],some 2⟩]) fn (fc (cc rfl [tabA q.bt q.t] [0] [1] (fun w F ho hn hF=>(status_in q.ht hj hn).mono (fun _ _ h=>h))) (fc (cc rfl [tabA q.bt (q.t.set q.x 1),semA q.bs ({ q.s with ln:=setZ q.s.ln q.k q.r })] [0,1] [] (fun w F ho hn hF=>relX q hk hl hx hn)) fn)) rfl [] [] [] 2 rfl rfl ad6a70 (.tuple #[.agg #[.int .i64 2,sy 6],.int .i64 0]))
theorem adNo (q:DQ) (hj:q.t.gs[q.j]? = some (q.xa,q.b)) (h2:q.xa ≠ 2) : Ev.PieE Try.prog 12 [] 0 46 ⟨q.W0,q.F0⟩ [(0,(ad6a2 q)),(1,(.agg #[(iN (q.kd)),(iN (q.k))])),(2,(iN (q.j)))] (ad6a1 q) (fun κ:Ev.Ren=>(.tuple #[(.agg #[(.int .i64 0),(.int .i64 0)]),(.int .i64 2)])) (fun κ:Ev.Ren=>(ad6a1 q)):=(trE (c:=⟨q.W0,q.F0⟩) 60 (kn [pz q.bt,pz q.bs,iz (q.ca),iz (q.mo),iN (q.kd),iN (q.k),iN (q.j),iN (q.xa)] fr [(.geq,sy 4,.int .i64 0,.bool true),(.lss,sy 4,.int .i64 8,.bool true),(.geq,sy 5,.int .i64 0,.bool true),(.lss,sy 5,.int .i64 4,.bool true),(.eql,sy 7,.int .i64 2,.bool false)] [] [] (fc (fun _ _ _=>Ev.bt_geq (by have z:=q.z; first | (simp; done) | (simp; omega))) (fc (fun _ _ _=>Ev.bt_lss (by have z:=q.z; first | (simp; done) | (simp; omega))) (fc (fun _ _ _=>Ev.bt_geq (by have z:=q.z; first | (simp; done) | (simp; omega))) (fc (fun _ _ _=>Ev.bt_lss (by have z:=q.z; first | (simp; done) | (simp; omega))) (fc (fun _ _ _=>Ev.bt_eql (by have z:=q.z; first | (simp; done) | (simp; omega))) fn))))) fn fn q.W0 q.F0 [(ad6a1 q),(ad6a1 q)] [] [⟨11,[sy 0,sy 6],0,none,.tuple #[sy 7,.bool true],some 1⟩]) fn (fc (cc rfl [tabA q.bt q.t] [0] [1] (fun w F ho hn hF=>(status_in q.ht hj hn).mono (fun _ _ h=>h))) fn) rfl [] [] [] 1 rfl rfl [(0,.agg #[sy 0,sy 1,sy 2,sy 3]),(1,.agg #[sy 4,sy 5]),(2,sy 6)] (.tuple #[.agg #[.int .i64 0,.int .i64 0],.int .i64 2]))
theorem adOut (q:DQ) (hx:q.g < 0∨(q.t.gs.length:Int)≤q.g) : Ev.PieE Try.prog 12 [] 0 46 ⟨q.W0,q.F0⟩ [(0,(ad6a2 q)),(1,(.agg #[(iN (q.kd)),(iN (q.k))])),(2,(iz (q.g)))] (ad6a1 q) (fun κ:Ev.Ren=>(.tuple #[(.agg #[(.int .i64 0),(.int .i64 0)]),(.int .i64 2)])) (fun κ:Ev.Ren=>(ad6a1 q)):=(trE (c:=⟨q.W0,q.F0⟩) 60 (kn [pz q.bt,pz q.bs,iz (q.ca),iz (q.mo),iN (q.kd),iN (q.k),iz (q.g)] fr [(.geq,sy 4,.int .i64 0,.bool true),(.lss,sy 4,.int .i64 8,.bool true),(.geq,sy 5,.int .i64 0,.bool true),(.lss,sy 5,.int .i64 4,.bool true)] [] [] (fc (fun _ _ _=>Ev.bt_geq (by have z:=q.z; first | (simp; done) | (simp; omega))) (fc (fun _ _ _=>Ev.bt_lss (by have z:=q.z; first | (simp; done) | (simp; omega))) (fc (fun _ _ _=>Ev.bt_geq (by have z:=q.z; first | (simp; done) | (simp; omega))) (fc (fun _ _ _=>Ev.bt_lss (by have z:=q.z; first | (simp; done) | (simp; omega))) fn)))) fn fn q.W0 q.F0 [(ad6a1 q),(ad6a1 q)] [] [⟨11,[sy 0,sy 6],0,none,.tuple #[.int .i64 0,.bool false],some 1⟩]) fn (fc (cc rfl [tabA q.bt q.t] [0] [1] (fun w F ho hn hF=>(status_out q.ht hx hn).mono (fun _ _ h=>h))) fn) rfl [] [] [] 1 rfl rfl [(0,.agg #[sy 0,sy 1,sy 2,sy 3]),(1,.agg #[sy 4,sy 5]),(2,sy 6)] (.tuple #[.agg #[.int .i64 0,.int .i64 0],.int .i64 2]))
end Go.Proofs.Ytankbefdlbcdnaa
namespace Go.Proofs.Ytankbefdlbcdnaa
open Go.RowKit
open Go.Ev (iz iN pz)
set_option linter.unusedVariables false
set_option linter.unusedSimpArgs false
attribute [local irreducible] Ev.wpL
structure Out where
 nx:Int
 x:Int
 e:Int
 t:Tab
 s:Sem
def decA (t:Tab) (s:Sem) (ca mo:Int) (kd k j:Nat) : Out :=
 match kd with
 | 0=>⟨0,-1,0,t,s⟩
 | 1=>⟨1,-1,0,t,s⟩
 | 2=>⟨3,-1,0,t.set j 1,s⟩
 | 3=>match t.fr[t.fr.length - 1]? with
  | some x=>⟨2,x,0,t.make x,s⟩
  | none=>⟨0,0,282,t,s⟩
 | 4=>⟨4,-1,0,t.set j 0,s⟩
 | 5=>if s.nn≤k then ⟨0,0,282,t,s⟩ else if s.ct k=0 then ⟨4,-1,0,t.set j 3,{ s with ln:=setZ s.ln k (s.ln k++[(j:Int)]),nw:=s.nw+1 }⟩ else ⟨0,-1,0,t,{ s with ct:=setZ s.ct k (s.ct k - 1) }⟩
 | 6=>if s.nn≤k then ⟨0,0,282,t,s⟩ else match s.ln k with
  | []=>⟨0,-1,0,t,{ s with ct:=setZ s.ct k (s.ct k+1) }⟩
  | g::r=>⟨2,g,0,t.set g.toNat 1,{ s with ln:=setZ s.ln k r }⟩
 | _=>if mo≤ca then ⟨0,0,282,t,s⟩ else ⟨5,-1,0,t.set j 4,s⟩
def Tab.runs (t:Tab) (g:Int) : Option Nat:=if 0≤g then (match t.gs[g.toNat]? with
 | some (2,_)=>some g.toNat
 | _=>none) else none
def decG (t:Tab) (s:Sem) (ca mo:Int) (kd k:Nat) (g:Int) : Out:=match t.runs g with
 | some j=>decA t s ca mo kd k j
 | none=>⟨0,0,2,t,s⟩
theorem Tab.runs_some {t:Tab} {g:Int} {j:Nat} (h:t.runs g=some j) : g=(j:Int)∧∃ b,t.gs[j]? = some (2,b):=by
 unfold Tab.runs at h
 split at h
 ·rename_i h0
  split at h
  ·rename_i b hb
   cases h
   exact ⟨by omega,b,hb⟩
  ·cases h
 ·cases h
theorem Tab.runs_none {t:Tab} {g:Int} (h:t.runs g=none) : (g < 0∨(t.gs.length:Int)≤g)∨∃ a b,0≤g∧t.gs[g.toNat]? = some (a,b)∧a ≠ 2:=by
 unfold Tab.runs at h
 split at h
 ·rename_i h0
  cases hg:t.gs[g.toNat]? with
  | none=>exact .inl (.inr (by have:=List.getElem?_eq_none_iff.1 hg; omega))
  | some p =>
   refine .inr ⟨p.1,p.2,h0,rfl,fun e=>?_⟩
   obtain ⟨a,b⟩:=p
   replace e:a=2:=e
   subst e
   rw [hg] at h
   cases h
 ·exact .inl (.inl (by omega))
abbrev actV (kd k:Nat) : Value:=.agg #[iN kd,iN k]
theorem decide_ok {w:World} {F:Nat→Prop} {bt bs:Nat} {t:Tab} {s:Sem} {ca mo:Int} {kd k:Nat} {g:Int} (ht:t.Ok) (hs:s.Ok) (hkd:kd < 8) (hk4:k < 4) (hk:k < s.nn) (hf:∀ j ∈ t.fr,j < t.gs.length)
  (hw:∀ j b:Nat,t.gs[j]? = some (2,b)→∀ i,i < 4→(j:Int) ∉ s.ln i) (hl:∀ i,i < 4→∀ x ∈ s.ln i,∃ b,t.gs[x.toNat]? = some (3,b)) (h:Ev.Now [tabA bt t,semA bs s] F w) :
  Calls Try.prog 12 #[wldV bt bs ca mo,actV kd k,iz g] w fun e w'=>e=.returned (resV (decG t s ca mo kd k g).nx (decG t s ca mo kd k g).x (decG t s ca mo kd k g).e)∧Ev.Hold ⟨w,F⟩ [tabA bt (decG t s ca mo kd k g).t,semA bs (decG t s ca mo kd k g).s] w':=by
 let q0:DQ:=⟨w,F,bt,bs,t,s,ht,hs,ca,mo,k,kd,0,0,0,0,0,[],g,hk4,hkd⟩
 unfold decG
 cases hr:t.runs g with
 | none =>
  rcases Tab.runs_none hr with hx | ⟨a,b,h0,hj,h2⟩
  ·exact startP (adOut q0 hx) (by kernel_rfl) h (by simp) (by simp [q0]) (fun κ w1 hh=>⟨rfl,hh⟩)
  ·obtain ⟨j,rfl⟩ : ∃ j:Nat,g=(j:Int):=⟨g.toNat,by omega⟩
   exact startP (adNo { q0 with j:=j,b:=b,xa:=a } hj h2) (by kernel_rfl) h (by simp) (by simp [q0]) (fun κ w1 hh=>⟨rfl,hh⟩)
 | some j =>
  obtain ⟨rfl,b,hj⟩:=Tab.runs_some hr
  let q:DQ:={ q0 with j:=j,b:=b }
  show Calls _ _ _ _ fun e w'=>e=.returned (resV (decA t s ca mo kd k j).nx (decA t s ca mo kd k j).x (decA t s ca mo kd k j).e)∧Ev.Hold ⟨w,F⟩ [tabA bt (decA t s ca mo kd k j).t,semA bs (decA t s ca mo kd k j).s] w'
  have hnk:¬ s.nn≤k:=by omega
  match kd,hkd with
  | 0,_=>exact startP (adWork q hj) (by kernel_rfl) h (by simp) (by simp [q,q0]) (fun κ w1 hh=>⟨rfl,hh⟩)
  | 1,_=>exact startP (adCheck q hj) (by kernel_rfl) h (by simp) (by simp [q,q0]) (fun κ w1 hh=>⟨rfl,hh⟩)
  | 2,_=>exact startP (adYield q hj) (by kernel_rfl) h (by simp) (by simp [q,q0]) (fun κ w1 hh=>⟨rfl,hh⟩)
  | 3,_ =>
   unfold decA
   cases hx:t.fr[t.fr.length - 1]? with
   | some x =>
    have hx2:=hf x (List.mem_of_getElem? hx)
    refine startP (adSpY { q with x:=x,xa:=(t.gs[x]).1,xb:=(t.gs[x]).2 } hj hx (List.getElem?_eq_getElem hx2)) (by kernel_rfl) h (by simp) (by simp [q,q0]) (fun κ w1 hh=>⟨rfl,hh⟩)
   | none =>
    have hz:t.fr=[]:=by
     have:=List.getElem?_eq_none_iff.1 hx
     exact List.length_eq_zero_iff.1 (by omega)
    refine startP (adSpN q hj hz) (by kernel_rfl) h (by simp) (by simp [q,q0]) (fun κ w1 hh=>⟨rfl,hh⟩)
  | 4,_=>exact startP (adExit q hj) (by kernel_rfl) h (by simp) (by simp [q,q0]) (fun κ w1 hh=>⟨rfl,hh⟩)
  | 5,_ =>
   unfold decA
   rw [if_neg hnk]
   by_cases hc:s.ct k=0
   ·rw [if_pos hc]
    exact startP (adAcW q hj hk (hw j b hj) hc) (by kernel_rfl) h (by simp) (by simp [q,q0]) (fun κ w1 hh=>⟨rfl,hh⟩)
   ·rw [if_neg hc]
    exact startP (adAcG q hj hk (hw j b hj) (by show 0 < s.ct k; omega)) (by kernel_rfl) h (by simp) (by simp [q,q0]) (fun κ w1 hh=>⟨rfl,hh.sel [1,0] (by kernel_rfl)⟩)
  | 6,_ =>
   have e0:decA t s ca mo 6 k j=(match s.ln k with
    | []=>⟨0,-1,0,t,{ s with ct:=setZ s.ct k (s.ct k+1) }⟩
    | g::r=>⟨2,g,0,t.set g.toNat 1,{ s with ln:=setZ s.ln k r }⟩):=if_neg hnk
   rw [e0]
   cases hln:s.ln k with
   | nil=>exact startP (adReE q hj hk hln) (by kernel_rfl) h (by simp) (by simp [q,q0]) (fun κ w1 hh=>⟨rfl,hh⟩)
   | cons x r =>
    obtain ⟨b2,hx⟩:=hl k hk4 x (by rw [hln]; exact List.mem_cons_self)
    have hr2:=hs.rng k hk4 x (by rw [hln]; exact List.mem_cons_self)
    obtain ⟨y,rfl⟩ : ∃ y:Nat,x=(y:Int):=⟨x.toNat,by omega⟩
    exact startP (adReX { q with x:=y,xb:=b2,r:=r } hj hk hln hx) (by kernel_rfl) h (by simp) (by simp [q,q0]) (fun κ w1 hh=>⟨rfl,hh⟩)
  | 7,_ =>
   unfold decA
   by_cases hm:mo≤ca
   ·rw [if_pos hm]
    exact startP (adCaN q hj hm) (by kernel_rfl) h (by simp) (by simp [q,q0]) (fun κ w1 hh=>⟨rfl,hh⟩)
   ·rw [if_neg hm]
    exact startP (adCaY q hj (by show ca < mo; omega)) (by kernel_rfl) h (by simp) (by simp [q,q0]) (fun κ w1 hh=>⟨rfl,hh⟩)
end Go.Proofs.Ytankbefdlbcdnaa
