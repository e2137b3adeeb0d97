/- Part of a proof: see the last text. -/
import Derived.Test.YtbcnbofkgkheeaaZk12
import Derived.Test.YtbcnbofkgkheeaaZk11
import Derived.Maps.Range
import Derived.Maps.Views
namespace Go.Proofs.Ytbcnbofkgkheeaa
open Go.RowKit
open Go.Ev (sy)
set_option linter.unusedVariables false
set_option linter.unusedSimpArgs false
theorem load_done {bm:Nat} {m:MemM} {F:Nat→Prop} {w:World} (h:MemAt bm m F w) {a:Nat} (ha:a < m.cells.length) (ha2:(a:Int)≤9223372036854775807) :
  Calls Try.prog 12 #[.pointer (some ⟨bm,0,none⟩),.int .i64 (a:Int)] w fun e w'=>∃ F',e=.returned (.int .u64 m.cells[a])∧MemAt bm ⟨m.cells,IntKind.u64.wrap (m.ops+1)⟩ F' w'∧Grow F F' w w':=by
 obtain ⟨c1,c2,c3,c4,c5,lg,cl,n,G,h1,h2,h3,h4,h5⟩:=h
 obtain ⟨l1,l2⟩:=memR_leaf h3
 have hG:=memR_lt h3
 have hbm:=(Array.getElem?_eq_some_iff.1 h2).1
 by_cases hcut:n=256
 ·letI:Ev.Sig:=(loadCutN m.ops c1 c2 c3 c4 c5 lg cl a n m.cells[a] 0 0 m.cells l1 l2 h1 ha rfl ha2 hcut).sig
  refine (Ev.open_one Try.codeOk (loadCutOK m.ops c1 c2 c3 c4 c5 lg cl a n m.cells[a] 0 0 m.cells l1 l2 h1 ha rfl ha2 hcut) mixed_ok (args:=#[.pointer (some ⟨4,0,none⟩),sy 8]) (bm:=bm) (F:=G) (cs:=[sy 0,sy 1,sy 2,sy 3,sy 4,sy 5,sy 6,sy 7]) (loadCutR m.ops c1 c2 c3 c4 c5 lg cl a n m.cells[a] 0 0 m.cells l1 l2 h1 ha rfl ha2 hcut) (by decide) h2 (syms _ [0,1,2,3,4,5,6,7]) ⟨_,rfl,memR_st h3⟩ hG h4 (arel_of (lrel_cons (.ptr 4 0 bm rfl) (lrel_cons (.sym 8 0 _ rfl) lrel_nil))) (by kernel_rfl)).mono ?_
  rintro e w1 ⟨κ,v',rfl,hv,k4,hb1,⟨F1,⟨asr,q1,q2⟩,hF1b,hF1⟩,ht⟩
  cases q1
  obtain ⟨F',r1,r2⟩:=memAt_of (m:=m) (m':=⟨m.cells,IntKind.u64.wrap (m.ops+1)⟩) (d:=419) h5 hG (show n≤256 by omega) hb1 (by
   have q3:memR (.dy 419) (n) cl (m.cells.set a m.cells[a]) κ F1 w1:=q2
   rw [List.set_getElem_self] at q3
   exact q3) hF1b hF1 ht hbm
  exact ⟨F',by rw [vsym hv]; rfl,r1,r2⟩
 have hcut:n < 256:=by omega
 letI:Ev.Sig:=(loadN m.ops c1 c2 c3 c4 c5 lg cl a n m.cells[a] 0 0 m.cells l1 l2 h1 ha rfl ha2 hcut).sig
 refine (Ev.open_one Try.codeOk (loadOK m.ops c1 c2 c3 c4 c5 lg cl a n m.cells[a] 0 0 m.cells l1 l2 h1 ha rfl ha2 hcut) mixed_ok (args:=#[.pointer (some ⟨4,0,none⟩),sy 8]) (bm:=bm) (F:=G) (cs:=[sy 0,sy 1,sy 2,sy 3,sy 4,sy 5,sy 6,sy 7]) (loadR m.ops c1 c2 c3 c4 c5 lg cl a n m.cells[a] 0 0 m.cells l1 l2 h1 ha rfl ha2 hcut) (by decide) h2 (syms _ [0,1,2,3,4,5,6,7]) ⟨_,rfl,memR_st h3⟩ hG h4 (arel_of (lrel_cons (.ptr 4 0 bm rfl) (lrel_cons (.sym 8 0 _ rfl) lrel_nil))) (by kernel_rfl)).mono ?_
 rintro e w1 ⟨κ,v',rfl,hv,k4,hb1,⟨F1,⟨asr,q1,q2⟩,hF1b,hF1⟩,ht⟩
 cases q1
 obtain ⟨F',r1,r2⟩:=memAt_of (m:=m) (m':=⟨m.cells,IntKind.u64.wrap (m.ops+1)⟩) (d:=415) h5 hG (show n+1≤256 by omega) hb1 (by
  have q3:memR (.dy 415) (n+1) cl (m.cells.set a m.cells[a]) κ F1 w1:=q2
  rw [List.set_getElem_self] at q3
  exact q3) hF1b hF1 ht hbm
 exact ⟨F',by rw [vsym hv]; rfl,r1,r2⟩
theorem cas_no {bm:Nat} {m:MemM} {F:Nat→Prop} {w:World} (h:MemAt bm m F w) {a:Nat} (ha:a < m.cells.length) (ha2:(a:Int)≤9223372036854775807) (u v:Int) (hy:m.cells[a] ≠ u) :
  Calls Try.prog 114 #[.pointer (some ⟨bm,0,none⟩),.int .i64 (a:Int),.int .u64 u,.int .u64 v] w fun e w'=>∃ F',e=.returned (.bool false)∧MemAt bm ⟨m.cells,IntKind.u64.wrap (m.ops+1)⟩ F' w'∧Grow F F' w w':=by
 obtain ⟨c1,c2,c3,c4,c5,lg,cl,n,G,h1,h2,h3,h4,h5⟩:=h
 obtain ⟨l1,l2⟩:=memR_leaf h3
 have hG:=memR_lt h3
 have hbm:=(Array.getElem?_eq_some_iff.1 h2).1
 by_cases hcut:n=256
 ·letI:Ev.Sig:=(casNoCutN m.ops c1 c2 c3 c4 c5 lg cl a n m.cells[a] v u m.cells l1 l2 h1 ha rfl ha2 hcut hy).sig
  refine (Ev.open_one Try.codeOk (casNoCutOK m.ops c1 c2 c3 c4 c5 lg cl a n m.cells[a] v u m.cells l1 l2 h1 ha rfl ha2 hcut hy) mixed_ok (args:=#[.pointer (some ⟨4,0,none⟩),sy 8,sy 16,sy 15]) (bm:=bm) (F:=G) (cs:=[sy 0,sy 1,sy 2,sy 3,sy 4,sy 5,sy 6,sy 7]) (casNoCutR m.ops c1 c2 c3 c4 c5 lg cl a n m.cells[a] v u m.cells l1 l2 h1 ha rfl ha2 hcut hy) (by decide) h2 (syms _ [0,1,2,3,4,5,6,7]) ⟨_,rfl,memR_st h3⟩ hG h4 (arel_of (lrel_cons (.ptr 4 0 bm rfl) (lrel_cons (.sym 8 0 _ rfl) (lrel_cons (.sym 16 0 _ rfl) (lrel_cons (.sym 15 0 _ rfl) lrel_nil))))) (by kernel_rfl)).mono ?_
  rintro e w1 ⟨κ,v',rfl,hv,k4,hb1,⟨F1,⟨asr,q1,q2⟩,hF1b,hF1⟩,ht⟩
  cases q1
  obtain ⟨F',r1,r2⟩:=memAt_of (m:=m) (m':=⟨m.cells,IntKind.u64.wrap (m.ops+1)⟩) (d:=427) h5 hG (show n≤256 by omega) hb1 (by
   have q3:memR (.dy 427) (n) cl (m.cells.set a m.cells[a]) κ F1 w1:=q2
   rw [List.set_getElem_self] at q3
   exact q3) hF1b hF1 ht hbm
  exact ⟨F',by cases hv; rfl,r1,r2⟩
 have hcut:n < 256:=by omega
 letI:Ev.Sig:=(casNoN m.ops c1 c2 c3 c4 c5 lg cl a n m.cells[a] v u m.cells l1 l2 h1 ha rfl ha2 hcut hy).sig
 refine (Ev.open_one Try.codeOk (casNoOK m.ops c1 c2 c3 c4 c5 lg cl a n m.cells[a] v u m.cells l1 l2 h1 ha rfl ha2 hcut hy) mixed_ok (args:=#[.pointer (some ⟨4,0,none⟩),sy 8,sy 16,sy 15]) (bm:=bm) (F:=G) (cs:=[sy 0,sy 1,sy 2,sy 3,sy 4,sy 5,sy 6,sy 7]) (casNoR m.ops c1 c2 c3 c4 c5 lg cl a n m.cells[a] v u m.cells l1 l2 h1 ha rfl ha2 hcut hy) (by decide) h2 (syms _ [0,1,2,3,4,5,6,7]) ⟨_,rfl,memR_st h3⟩ hG h4 (arel_of (lrel_cons (.ptr 4 0 bm rfl) (lrel_cons (.sym 8 0 _ rfl) (lrel_cons (.sym 16 0 _ rfl) (lrel_cons (.sym 15 0 _ rfl) lrel_nil))))) (by kernel_rfl)).mono ?_
 rintro e w1 ⟨κ,v',rfl,hv,k4,hb1,⟨F1,⟨asr,q1,q2⟩,hF1b,hF1⟩,ht⟩
 cases q1
 obtain ⟨F',r1,r2⟩:=memAt_of (m:=m) (m':=⟨m.cells,IntKind.u64.wrap (m.ops+1)⟩) (d:=423) h5 hG (show n+1≤256 by omega) hb1 (by
  have q3:memR (.dy 423) (n+1) cl (m.cells.set a m.cells[a]) κ F1 w1:=q2
  rw [List.set_getElem_self] at q3
  exact q3) hF1b hF1 ht hbm
 exact ⟨F',by cases hv; rfl,r1,r2⟩
theorem cas_yes {bm:Nat} {m:MemM} {F:Nat→Prop} {w:World} (h:MemAt bm m F w) {a:Nat} (ha:a < m.cells.length) (ha2:(a:Int)≤9223372036854775807) (u v:Int) (hy:m.cells[a]=u) :
  Calls Try.prog 114 #[.pointer (some ⟨bm,0,none⟩),.int .i64 (a:Int),.int .u64 u,.int .u64 v] w fun e w'=>∃ F',e=.returned (.bool true)∧MemAt bm ⟨m.cells.set a v,IntKind.u64.wrap (m.ops+1)⟩ F' w'∧Grow F F' w w':=by
 obtain ⟨c1,c2,c3,c4,c5,lg,cl,n,G,h1,h2,h3,h4,h5⟩:=h
 obtain ⟨l1,l2⟩:=memR_leaf h3
 have hG:=memR_lt h3
 have hbm:=(Array.getElem?_eq_some_iff.1 h2).1
 by_cases hcut:n=256
 ·letI:Ev.Sig:=(casYesCutN m.ops c1 c2 c3 c4 c5 lg cl a n m.cells[a] v u m.cells l1 l2 h1 ha rfl ha2 hcut hy).sig
  refine (Ev.open_one Try.codeOk (casYesCutOK m.ops c1 c2 c3 c4 c5 lg cl a n m.cells[a] v u m.cells l1 l2 h1 ha rfl ha2 hcut hy) mixed_ok (args:=#[.pointer (some ⟨4,0,none⟩),sy 8,sy 16,sy 15]) (bm:=bm) (F:=G) (cs:=[sy 0,sy 1,sy 2,sy 3,sy 4,sy 5,sy 6,sy 7]) (casYesCutR m.ops c1 c2 c3 c4 c5 lg cl a n m.cells[a] v u m.cells l1 l2 h1 ha rfl ha2 hcut hy) (by decide) h2 (syms _ [0,1,2,3,4,5,6,7]) ⟨_,rfl,memR_st h3⟩ hG h4 (arel_of (lrel_cons (.ptr 4 0 bm rfl) (lrel_cons (.sym 8 0 _ rfl) (lrel_cons (.sym 16 0 _ rfl) (lrel_cons (.sym 15 0 _ rfl) lrel_nil))))) (by kernel_rfl)).mono ?_
  rintro e w1 ⟨κ,v',rfl,hv,k4,hb1,⟨F1,⟨asr,q1,q2⟩,hF1b,hF1⟩,ht⟩
  cases q1
  obtain ⟨F',r1,r2⟩:=memAt_of (m:=m) (m':=⟨m.cells.set a v,IntKind.u64.wrap (m.ops+1)⟩) (d:=427) h5 hG (show n≤256 by omega) hb1 (by
   have q3:memR (.dy 427) (n) cl (m.cells.set a v) κ F1 w1:=q2
   exact q3) hF1b hF1 ht hbm
  exact ⟨F',by cases hv; rfl,r1,r2⟩
 have hcut:n < 256:=by omega
 letI:Ev.Sig:=(casYesN m.ops c1 c2 c3 c4 c5 lg cl a n m.cells[a] v u m.cells l1 l2 h1 ha rfl ha2 hcut hy).sig
 refine (Ev.open_one Try.codeOk (casYesOK m.ops c1 c2 c3 c4 c5 lg cl a n m.cells[a] v u m.cells l1 l2 h1 ha rfl ha2 hcut hy) mixed_ok (args:=#[.pointer (some ⟨4,0,none⟩),sy 8,sy 16,sy 15]) (bm:=bm) (F:=G) (cs:=[sy 0,sy 1,sy 2,sy 3,sy 4,sy 5,sy 6,sy 7]) (casYesR m.ops c1 c2 c3 c4 c5 lg cl a n m.cells[a] v u m.cells l1 l2 h1 ha rfl ha2 hcut hy) (by decide) h2 (syms _ [0,1,2,3,4,5,6,7]) ⟨_,rfl,memR_st h3⟩ hG h4 (arel_of (lrel_cons (.ptr 4 0 bm rfl) (lrel_cons (.sym 8 0 _ rfl) (lrel_cons (.sym 16 0 _ rfl) (lrel_cons (.sym 15 0 _ rfl) lrel_nil))))) (by kernel_rfl)).mono ?_
 rintro e w1 ⟨κ,v',rfl,hv,k4,hb1,⟨F1,⟨asr,q1,q2⟩,hF1b,hF1⟩,ht⟩
 cases q1
 obtain ⟨F',r1,r2⟩:=memAt_of (m:=m) (m':=⟨m.cells.set a v,IntKind.u64.wrap (m.ops+1)⟩) (d:=423) h5 hG (show n+1≤256 by omega) hb1 (by
  have q3:memR (.dy 423) (n+1) cl (m.cells.set a v) κ F1 w1:=q2
  exact q3) hF1b hF1 ht hbm
 exact ⟨F',by cases hv; rfl,r1,r2⟩
theorem store_done {bm:Nat} {m:MemM} {F:Nat→Prop} {w:World} (h:MemAt bm m F w) {a:Nat} (ha:a < m.cells.length) (ha2:(a:Int)≤9223372036854775807) (v:Int) :
  Calls Try.prog 25 #[.pointer (some ⟨bm,0,none⟩),.int .i64 (a:Int),.int .u64 v] w fun e w'=>∃ F',e=.returned (.tuple #[])∧MemAt bm ⟨m.cells.set a v,IntKind.u64.wrap (m.ops+1)⟩ F' w'∧Grow F F' w w':=by
 obtain ⟨c1,c2,c3,c4,c5,lg,cl,n,G,h1,h2,h3,h4,h5⟩:=h
 obtain ⟨l1,l2⟩:=memR_leaf h3
 have hG:=memR_lt h3
 have hbm:=(Array.getElem?_eq_some_iff.1 h2).1
 by_cases hcut:n=256
 ·letI:Ev.Sig:=(storeCutN m.ops c1 c2 c3 c4 c5 lg cl a n m.cells[a] v 0 m.cells l1 l2 h1 ha rfl ha2 hcut).sig
  refine (Ev.open_one Try.codeOk (storeCutOK m.ops c1 c2 c3 c4 c5 lg cl a n m.cells[a] v 0 m.cells l1 l2 h1 ha rfl ha2 hcut) mixed_ok (args:=#[.pointer (some ⟨4,0,none⟩),sy 8,sy 15]) (bm:=bm) (F:=G) (cs:=[sy 0,sy 1,sy 2,sy 3,sy 4,sy 5,sy 6,sy 7]) (storeCutR m.ops c1 c2 c3 c4 c5 lg cl a n m.cells[a] v 0 m.cells l1 l2 h1 ha rfl ha2 hcut) (by decide) h2 (syms _ [0,1,2,3,4,5,6,7]) ⟨_,rfl,memR_st h3⟩ hG h4 (arel_of (lrel_cons (.ptr 4 0 bm rfl) (lrel_cons (.sym 8 0 _ rfl) (lrel_cons (.sym 15 0 _ rfl) lrel_nil)))) (by kernel_rfl)).mono ?_
  rintro e w1 ⟨κ,v',rfl,hv,k4,hb1,⟨F1,⟨asr,q1,q2⟩,hF1b,hF1⟩,ht⟩
  cases q1
  obtain ⟨F',r1,r2⟩:=memAt_of (m:=m) (m':=⟨m.cells.set a v,IntKind.u64.wrap (m.ops+1)⟩) (d:=423) h5 hG (show n≤256 by omega) hb1 (by
   have q3:memR (.dy 423) (n) cl (m.cells.set a v) κ F1 w1:=q2
   exact q3) hF1b hF1 ht hbm
  exact ⟨F',by cases hv with | tuple f f1 hf _=>rw [Array.eq_empty_of_size_eq_zero hf.symm],r1,r2⟩
 have hcut:n < 256:=by omega
 letI:Ev.Sig:=(storeN m.ops c1 c2 c3 c4 c5 lg cl a n m.cells[a] v 0 m.cells l1 l2 h1 ha rfl ha2 hcut).sig
 refine (Ev.open_one Try.codeOk (storeOK m.ops c1 c2 c3 c4 c5 lg cl a n m.cells[a] v 0 m.cells l1 l2 h1 ha rfl ha2 hcut) mixed_ok (args:=#[.pointer (some ⟨4,0,none⟩),sy 8,sy 15]) (bm:=bm) (F:=G) (cs:=[sy 0,sy 1,sy 2,sy 3,sy 4,sy 5,sy 6,sy 7]) (storeR m.ops c1 c2 c3 c4 c5 lg cl a n m.cells[a] v 0 m.cells l1 l2 h1 ha rfl ha2 hcut) (by decide) h2 (syms _ [0,1,2,3,4,5,6,7]) ⟨_,rfl,memR_st h3⟩ hG h4 (arel_of (lrel_cons (.ptr 4 0 bm rfl) (lrel_cons (.sym 8 0 _ rfl) (lrel_cons (.sym 15 0 _ rfl) lrel_nil)))) (by kernel_rfl)).mono ?_
 rintro e w1 ⟨κ,v',rfl,hv,k4,hb1,⟨F1,⟨asr,q1,q2⟩,hF1b,hF1⟩,ht⟩
 cases q1
 obtain ⟨F',r1,r2⟩:=memAt_of (m:=m) (m':=⟨m.cells.set a v,IntKind.u64.wrap (m.ops+1)⟩) (d:=419) h5 hG (show n+1≤256 by omega) hb1 (by
  have q3:memR (.dy 419) (n+1) cl (m.cells.set a v) κ F1 w1:=q2
  exact q3) hF1b hF1 ht hbm
 exact ⟨F',by cases hv with | tuple f f1 hf _=>rw [Array.eq_empty_of_size_eq_zero hf.symm],r1,r2⟩
end Go.Proofs.Ytbcnbofkgkheeaa
namespace Go.Ev
open Go.RowKit
set_option linter.unusedVariables false
set_option linter.unusedSimpArgs false
set_option linter.unusedSectionVars false
def flat:Code→List Code
 | .seq x y=>flat x++flat y
 | c=>[c]
def inner:Nat→Code→Code
 | 0,.block _ x=>x
 | 0,.loop x=>x
 | 0,.scope x=>x
 | 0,.cond _ x _=>x
 | 1,.cond _ _ y=>y
 | _,c=>c
def atC:List Nat→Code→Code
 | [],c=>c
 | i::p,c=>atC p (inner (i % 2) ((flat c).getD (i / 2) .skip))
theorem atC_append (p q:List Nat) (c:Code) : atC (p++q) c=atC q (atC p c):=by
 induction p generalizing c with
 | nil=>rfl
 | cons i p ih=>exact ih _
theorem skip_ok (P:Program) : CodeOK P .skip:=⟨default,[],[],rfl⟩
theorem inner_ok {P:Program} {i:Nat} {c:Code} (h:CodeOK P c) : CodeOK P (inner i c):=by
 letI:Sig:=noSig
 unfold inner
 split
 ·exact h.block
 ·exact h.loop
 ·exact h.scope
 ·exact h.cond.1
 ·exact h.cond.2
 ·exact h
theorem flat_ok {P:Program} : ∀ {c:Code},CodeOK P c→∀ x ∈ flat c,CodeOK P x:=by
 letI:Sig:=noSig
 intro c
 induction c with
 | seq x y ihx ihy =>
  intro h z hz
  rcases List.mem_append.1 hz with hz | hz
  ·exact ihx h.seq.1 z hz
  ·exact ihy h.seq.2 z hz
 | _=>intro h z hz; rw [List.mem_singleton.1 hz]; exact h
theorem getD_ok {P:Program} {l:List Code} (h:∀ x ∈ l,CodeOK P x) (i:Nat) : CodeOK P (l.getD i .skip):=by
 rw [List.getD_eq_getElem?_getD]
 cases hi:l[i]? with
 | none=>exact skip_ok P
 | some x=>exact h x (List.mem_of_getElem? hi)
theorem at_ok {P:Program} : ∀ {p:List Nat} {c:Code},CodeOK P c→CodeOK P (atC p c):=by
 intro p
 induction p with
 | nil=>exact fun h=>h
 | cons i p ih=>exact fun h=>ih (inner_ok (getD_ok (flat_ok h) _))
def wpL (P:Program) : List Code→(Exit→Act→World→Prop)→Act→World→Prop
 | [],Q,a,w=>Q .normal a w
 | c::cs,Q,a,w=>c.wpIn Fence.wide 0 P (Exit.then (wpL P cs Q) Q) a w
theorem wpL_app {P:Program} : ∀ {c:Code} {cs:List Code} {Q:Exit→Act→World→Prop} {a:Act} {w:World},wpL P (flat c++cs) Q a w→c.wpIn Fence.wide 0 P (Exit.then (wpL P cs Q) Q) a w:=by
 intro c
 induction c with
 | seq x y ihx ihy =>
  intro cs Q a w h
  rw [flat,List.append_assoc] at h
  refine wpIn_seq (wpIn_mono (ihx h) (fun e a w he=>?_))
  cases e with
  | normal=>exact ihy he
  | _=>exact he
 | _=>exact fun h=>h
theorem wpL_flat {P:Program} {c:Code} {Q:Exit→Act→World→Prop} {a:Act} {w:World} (h:wpL P (flat c) Q a w) : c.wpIn Fence.wide 0 P Q a w:=by
 refine wpIn_mono (wpL_app (cs:=[]) (by rw [List.append_nil]; exact h)) (fun e a w he=>?_)
 cases e <;> exact he
def fnOf (P:Program) (f:FuncId) : Func:=(P.funcs[f]?).getD default
def bodyOf (P:Program) (f:FuncId) : Code:=(fnOf P f).body.getD .skip
abbrev place (P:Program) (f:FuncId) (p:List Nat) : Code:=atC p (bodyOf P f)
noncomputable def segB (B:Base) (f:FuncId) (p:List Nat) (k:Func→Code→Bool) : Bool :=
 match B.F.get f with
 | some fn=>(match fn.body with | some body=>k fn (atC p body) | none=>false)
 | none=>false
theorem segB_ok {P:Program} {f:FuncId} {p:List Nat} {k:Base→Func→Code→Bool} (h:withB P (fun B=>segB B f p (k B))=true) :
  ∃ B,BOK B∧B.P=P∧P.funcs[f]? = some (fnOf P f)∧(fnOf P f).body=some (bodyOf P f)∧k B (fnOf P f) (place P f p)=true:=by
 letI:Sig:=noSig
 obtain ⟨B,hB,hBP,e⟩:=withB_ok P (fun B=>segB B f p (k B))
 rw [e] at h
 subst hBP
 unfold segB at h
 split at h
 ·rename_i fn hf
  have hf':=hB.F _ _ hf
  have e1:fnOf B.P f=fn:=by unfold fnOf; rw [hf']; rfl
  split at h
  ·rename_i body hb
   have e2:bodyOf B.P f=body:=by unfold bodyOf; rw [e1,hb]; rfl
   exact ⟨B,hB,rfl,by rw [e1]; exact hf',by rw [e1,e2]; exact hb,by rw [e1]; unfold place; rw [e2]; exact h⟩
  ·cases h
 ·cases h
abbrev stm (P:Program) (f:FuncId) (p:List Nat) (i:Nat) : List Code:=(flat (place P f p)).drop i
noncomputable def isBlk (id:Nat) : List Code→Bool
 | .block i _::_=>Nat.beq i id
 | _=>false
noncomputable def isLoop:List Code→Bool
 | .loop _::_=>true
 | _=>false
noncomputable def isNil:List Code→Bool
 | []=>true
 | _=>false
theorem place_in {P:Program} {f:FuncId} {p:List Nat} {i:Nat} {c:Code} {l:List Code} (h:stm P f p i=c::l) : place P f (p++[2 * i])=inner 0 c∧l=stm P f p (i+1):=by
 unfold place
 rw [atC_append]
 have h1:(flat (place P f p))[i]? = some c:=by
  have:=congrArg List.head? h
  rw [List.head?_drop] at this
  exact this
 refine ⟨?_,?_⟩
 ·show inner (2 * i % 2) ((flat (atC p (bodyOf P f))).getD (2 * i / 2) .skip)=_
  rw [Nat.mul_mod_right,Nat.mul_div_cancel_left _ (by omega),List.getD_eq_getElem?_getD]
  have h1':(flat (atC p (bodyOf P f)))[i]? = some c:=h1
  rw [h1']
  rfl
 ·have:=congrArg List.tail h
  rw [List.tail_drop] at this
  exact this.symm
theorem in_block {P:Program} {f:FuncId} {p:List Nat} {i id:Nat} (h:withB P (fun B=>segB B f p (fun _ c=>isBlk id ((flat c).drop i)))=true) {Q:Exit→Act→World→Prop} {a:Act} {w:World}
  (hw:wpL P (stm P f (p++[2 * i]) 0) (Exit.inBlock id (Exit.then (wpL P (stm P f p (i+1)) Q) Q)) a w) : wpL P (stm P f p i) Q a w:=by
 obtain ⟨B,_,_,_,_,h⟩:=segB_ok h
 have h':isBlk id (stm P f p i)=true:=h
 cases hs:stm P f p i with
 | nil=>rw [hs] at h'; cases h'
 | cons c l =>
  rw [hs] at h'
  obtain ⟨e1,e2⟩:=place_in hs
  cases c with
  | block k x =>
   have hk:=Nat.eq_of_beq_eq_true (show Nat.beq k id=true from h')
   subst hk
   rw [e2]
   refine wpIn_block (wpL_flat ?_)
   have:stm P f (p++[2 * i]) 0=flat x:=by
    show (flat (place P f (p++[2 * i]))).drop 0=_
    rw [e1]
    rfl
   rw [← this]
   exact hw
  | _=>cases h'
theorem in_loop {P:Program} {f:FuncId} {p:List Nat} {i:Nat} (h:withB P (fun B=>segB B f p (fun _ c=>isLoop ((flat c).drop i)))=true) {Q:Exit→Act→World→Prop} {a:Act} {w:World}
  (hw:(Code.loop (place P f (p++[2 * i]))).wpIn Fence.wide 0 P (Exit.then (wpL P (stm P f p (i+1)) Q) Q) a w) : wpL P (stm P f p i) Q a w:=by
 obtain ⟨B,_,_,_,_,h⟩:=segB_ok h
 have h':isLoop (stm P f p i)=true:=h
 cases hs:stm P f p i with
 | nil=>rw [hs] at h'; cases h'
 | cons c l =>
  rw [hs] at h'
  obtain ⟨e1,e2⟩:=place_in hs
  cases c with
  | loop x =>
   rw [e2]
   have e1':place P f (p++[2 * i])=x:=e1
   rw [e1'] at hw
   exact hw
  | _=>cases h'
theorem wpL_nil {P:Program} {f:FuncId} {p:List Nat} {i:Nat} (h:withB P (fun B=>segB B f p (fun _ c=>isNil ((flat c).drop i)))=true) {Q:Exit→Act→World→Prop} {a:Act} {w:World} (hw:Q .normal a w) : wpL P (stm P f p i) Q a w:=by
 obtain ⟨B,_,_,_,_,h⟩:=segB_ok h
 have h':isNil (stm P f p i)=true:=h
 cases hs:stm P f p i with
 | nil=>exact hw
 | cons c l=>rw [hs] at h'; cases h'
theorem calls_body {P:Program} {f:FuncId} {N:Nat} {args:Array Value} {w:World} {R:Ending→World→Prop} (h:withB P (fun B=>segB B f [] (fun fn _=>Nat.beq fn.ntmps N))=true)
  (hw:wpL P (stm P f [] 0) (bodyPostM Fence.wide 0 P (fnOf P f) R) { tmps:=args++Array.replicate (N - args.size) undef,defers:=[] } w) : Calls P f args w R:=by
 obtain ⟨B,_,_,hf,hb,h⟩:=segB_ok h
 rw [← Nat.eq_of_beq_eq_true h] at hw
 exact callsIn_wide.1 (callsIn_of_wp_marks (F:=Fence.wide) (n:=0) hf hb trivial (wpL_flat hw))
section pieces
variable [Sig]
def pieceA (run:Runner) : Nat→List Code→Act→St→Option (Exit×Act×St)
 | 0,_,a,s=>some (.normal,a,s)
 | k+1,c::cs,a,s=>(match run none c a s with | some (.normal,a1,s1)=>pieceA run k cs a1 s1 | r=>r)
 | _+1,[],_,_=>none
theorem pieceA_next {run:Runner} (hl:RunLocal run) : ∀ (k:Nat) {cs:List Code} {a a1:Act} {s s1:St} {e:Exit},pieceA run k cs a s=some (e,a1,s1)→s.next≤s1.next
 | 0,cs,a,a1,s,s1,e,h=>by cases h; exact Nat.le_refl _
 | k+1,c::cs,a,a1,s,s1,e,h=>by
  simp only [pieceA] at h
  split at h
  ·rename_i a2 s2 hx
   exact Nat.le_trans (hl.next hx) (pieceA_next hl k h)
  ·exact hl.next h
 | k+1,[],a,a1,s,s1,e,h=>by cases h
theorem piece_ok {P:Program} {base:Nat→Prop} {run:Runner} (hl:RunLocal run) (hrun:EvOK P base run) : ∀ (k:Nat) {cs:List Code} {a a1:Act} {s s1:St} {ex:Exit},pieceA run k cs a s=some (ex,a1,s1)→(∀ c ∈ cs,CodeOK P c)→Win s s.next s1.next →
  ∀ (ι:Ren) (A:Act) (w:World),ActRel ι a A→Rep P base ι s.look w→Fresh ι s s1→∀ Q:Exit→Act→World→Prop,(∀ κ A1 w1,ActRel κ a1 A1→Goes P base ι κ s s1 w w1→Exit.then (wpL P (cs.drop k) Q) Q ex A1 w1)→wpL P cs Q A w:=by
 intro k
 induction k with
 | zero =>
  intro cs a a1 s s1 ex h hco hwin ι A w hA hr hfr Q hQ
  cases h
  exact hQ ι A w hA (Goes.refl hr)
 | succ k ih =>
  intro cs a a1 s s1 ex h hco hwin ι A w hA hr hfr Q hQ
  cases cs with
  | nil=>cases h
  | cons c cs =>
   simp only [pieceA] at h
   split at h
   ·rename_i a2 s2 hx
    have n1:=hl.next hx
    have n2:=pieceA_next hl k h
    refine hrun none c a s _ a2 s2 hx (hco c (List.mem_cons_self ..)) (hwin.left n2) ι none A w trivial hA hr (hfr.left n2) _ (fun κ A1 w1 hA1 g=>?_)
    exact ih h (fun c hc=>hco c (List.mem_cons_of_mem _ hc)) (hl.win hx hwin n2) κ A1 w1 hA1 g.rep (hfr.right g n1) Q (fun μ A2 w2 hA2 g2=>hQ μ A2 w2 hA2 (g.trans g2 n1 n2))
   ·rename_i hne
    refine hrun none c a s _ a1 s1 h (hco c (List.mem_cons_self ..)) hwin ι none A w trivial hA hr hfr _ (fun κ A1 w1 hA1 g=>?_)
    have:=hQ κ A1 w1 hA1 g
    cases ex with
    | normal=>exact (hne _ _ h).elim
    | _=>exact this
noncomputable def pieceF (B:Base) (n N:Nat) : Nat→List Code→TV→St→Option FRes
 | 0,_,t,s=>some (.normal,t,[],s)
 | k+1,c::cs,t,s=>(match fev B n none N c t [] s with | some (.normal,t1,[],s1)=>pieceF B n N k cs t1 s1 | some (.normal,_,_::_,_)=>none | some (e,t1,d1,s1)=>some (e,t1,d1,s1) | none=>none)
 | _+1,[],_,_=>none
theorem pieceF_ok {B:Base} (hB:BOK B) (n N:Nat) : ∀ (k:Nat) {cs:List Code} {t t1:TV} {a:Act} {s s1:St} {ex:Exit} {d1:List Deferred},Env N t [] a→pieceF B n N k cs t s=some (ex,t1,d1,s1)→∃ a1,pieceA (ev B.P n) k cs a s=some (ex,a1,s1)∧Env N t1 d1 a1:=by
 intro k
 induction k with
 | zero=>intro cs t t1 a s s1 ex d1 he h; cases h; exact ⟨a,rfl,he⟩
 | succ k ih =>
  intro cs t t1 a s s1 ex d1 he h
  cases cs with
  | nil=>cases h
  | cons c cs =>
   simp only [pieceF] at h
   split at h
   ·rename_i t2 s2 hx
    obtain ⟨a2,q1,q2⟩:=fev_ok hB n _ _ _ _ _ _ _ _ _ _ _ he hx
    simp only [pieceA,q1]
    exact ih q2 h
   ·cases h
   ·rename_i e t2 d2 s2 h1 h2 hx
    cases h
    obtain ⟨a2,q1,q2⟩:=fev_ok hB n _ _ _ _ _ _ _ _ _ _ _ he hx
    refine ⟨a2,?_,q2⟩
    simp only [pieceA,q1]
    cases ex with
    | normal =>
     cases d1 with
     | nil=>exact (h1 rfl rfl).elim
     | cons d l=>exact (h2 _ _ rfl rfl).elim
    | _=>rfl
   ·cases h
structure Blks (rn:List (Nat×Nat)) (bl:List Blk) (F:Nat→Prop) (w:World) : Prop where
 there:∀ q ∈ bl,∃ b cs',renOf rn q.1=some b∧w.heap[b]? = some (.cells (List.toArray cs') q.2.2 (0,0))∧LRel (renOf rn) q.2.1 cs'
 inj:∀ p ∈ rn,∀ q ∈ rn,p.2=q.2→p.1=q.1
 out:∀ p ∈ rn,¬ F p.2
theorem Blks.nil {F:Nat→Prop} {w:World} : Blks [] [] F w:=⟨(fun q h=>by cases h),(fun q h=>by cases h),(fun q h=>by cases h)⟩
theorem Blks.one {b:Nat} {cs cs':List Value} {T:TypeId} {F:Nat→Prop} {w:World} (hb:w.heap[b]? = some (.cells cs'.toArray T (0,0))) (hc:LRel (renOf [(4,b)]) cs cs') (hF:¬ F b) : Blks [(4,b)] [(4,cs,T)] F w :=
 ⟨(fun q h=>by rw [List.mem_singleton.1 h]; exact ⟨b,cs',rfl,hb,hc⟩),(fun p hp q hq _=>by rw [List.mem_singleton.1 hp,List.mem_singleton.1 hq]),(fun p hp=>by rw [List.mem_singleton.1 hp]; exact hF)⟩
def objsOf (bl:List Blk) (g:Nat) : List (Nat×Obj):=(3,gobj g)::bl.map (fun q=>(q.1,.cells q.2.1.toArray q.2.2 (0,0)))
noncomputable def idsB (m:Nat) (rn:List (Nat×Nat)) (bl:List Blk) : Bool :=
 Nat.blt (4 * m) lim && (Nat.ble 1 m && (rn.all (fun p=>Nat.blt p.1 (4 * m) && !(Nat.beq p.1 3)) && bl.all (fun q=>Nat.blt q.1 (4 * m) && Nat.beq (q.1 % 4) 0)))
structure Left (rn:List (Nat×Nat)) (bl1:List Blk) (g':Nat) (F:Nat→Prop) (w:World) (κ:Ren) (w1:World) : Prop where
 old:∀ id b,renOf rn id=some b→κ id=some b
 blk:∀ q ∈ bl1,q.2.1.all knV=true→∃ b,κ q.1=some b∧w1.heap[b]? = some (.cells (q.2.1.map (conc κ)).toArray q.2.2 (0,0))∧(F b∨(∃ p ∈ rn,p.2=b)∨w.heap.size≤b)
 cls:∀ q ∈ bl1,∃ b c',κ q.1=some b∧w1.heap[b]? = some (.cells c' q.2.2 (0,0))∧ARel κ q.2.1.toArray c'
 inj:∀ q ∈ bl1,∀ q' ∈ bl1,κ q.1=κ q'.1→q.1=q'.1
 gh:∃ F',Sig.GR g' κ F' w1∧(∀ j,F' j→j < w1.heap.size∧(F j∨(∃ p ∈ rn,p.2=j)∨w.heap.size≤j))∧∀ q ∈ bl1,∀ b,κ q.1=some b→¬ F' b
 turn:Turn (fun j=>F j∨∃ p ∈ rn,p.2=j) w w1
theorem renOf_none {l:List (Nat×Nat)} {id:Nat} (h:∀ p ∈ l,p.1 ≠ id) : renOf l id=none:=by
 cases hr:renOf l id with
 | none=>rfl
 | some b=>exact (h _ (renOf_mem hr) rfl).elim
theorem idsB_ok {m:Nat} {rn:List (Nat×Nat)} {bl:List Blk} (h:idsB m rn bl=true) : 4 * m < lim∧1≤m∧(∀ p ∈ rn,p.1 < 4 * m∧p.1 ≠ 3)∧∀ q ∈ bl,q.1 < 4 * m∧q.1 % 4=0:=by
 unfold idsB at h
 simp only [Bool.and_eq_true] at h
 obtain ⟨h1,h2,h3,h4⟩:=h
 rw [List.all_eq_true] at h3 h4
 refine ⟨Nat.le_of_ble_eq_true h1,Nat.le_of_ble_eq_true h2,fun p hp=>?_,fun q hq=>?_⟩
 ·have:=h3 p hp
  simp only [Bool.and_eq_true] at this
  refine ⟨Nat.le_of_ble_eq_true this.1,fun e=>?_⟩
  rw [e] at this
  exact absurd this.2 (by decide)
 ·have:=h4 q hq
  simp only [Bool.and_eq_true] at this
  exact ⟨Nat.le_of_ble_eq_true this.1,Nat.eq_of_beq_eq_true this.2⟩
theorem seg_rep {P:Program} {m:Nat} {rn:List (Nat×Nat)} {bl:List Blk} {g:Nat} {F:Nat→Prop} {w:World} (hi:idsB m rn bl=true) (hb:Blks rn bl F w) (hg:Sig.GR g (renOf rn) F w) (hF:∀ j,F j→j < w.heap.size) :
  Rep P (Rest rn F w) (renOf rn) (stOf (objsOf bl g) m).look w:=by
 obtain ⟨i1,i2,i3,i4⟩:=idsB_ok hi
 refine open_start ?_ ?_ hb.inj hF hb.out ?_
 ·intro p hp
  rcases List.mem_cons.1 hp with rfl | hp
  ·show 3 < lim; unfold lim; omega
  ·obtain ⟨q,hq,rfl⟩:=List.mem_map.1 hp
   have:=(i4 q hq).1
   show q.1 < lim
   omega
 ·intro p hp hgn
  rcases List.mem_cons.1 hp with rfl | hp
  ·cases hgn
  ·obtain ⟨q,hq,rfl⟩:=List.mem_map.1 hp
   obtain ⟨b,cs',h1,h2,h3⟩:=hb.there q hq
   refine ⟨b,_,h1,h2,rfl,cs'.toArray,rfl,by simp [h3.1],(fun _=>by simp [h3.1]),fun i v v' h1 h2=>h3.2 i v v' (by simpa using h1) (by simpa using h2),fun h=>?_⟩
   have:=(i4 q hq).2
   unfold gro at h
   simp only [beq_iff_eq] at h
   omega
 ·intro p hp k hk
  rcases List.mem_cons.1 hp with rfl | hp
  ·cases hk
   exact ⟨rfl,renOf_none (fun p hp=>(i3 p hp).2),hg⟩
  ·obtain ⟨q,hq,rfl⟩:=List.mem_map.1 hp
   cases hk
theorem seg_left {P:Program} {m:Nat} {rn:List (Nat×Nat)} {bl bl1:List Blk} {g g':Nat} {F:Nat→Prop} {w w1:World} {κ:Ren} {s1:St} (hi:idsB m rn bl=true) (hids:bl1.all (fun q=>Nat.beq (q.1 % 4) 0)=true)
  (gg:Goes P (Rest rn F w) (renOf rn) κ (stOf (objsOf bl g) m) s1 w w1) (hb1:∀ q ∈ bl1,s1.look q.1=some (.cells q.2.1.toArray q.2.2 (0,0))) (hg1:s1.look 3=some (gobj g')) : Left rn bl1 g' F w κ w1:=by
 obtain ⟨i1,i2,i3,i4⟩:=idsB_ok hi
 obtain ⟨F',q1,q2,q3⟩:=left_state gg hg1
 rw [List.all_eq_true] at hids
 have hgro:∀ q ∈ bl1,gro q.1=false:=fun q hq=>by
  have:=Nat.eq_of_beq_eq_true (hids q hq)
  unfold gro
  rw [this]
  rfl
 have rest:∀ b,¬ Rest rn F w b→F b∨(∃ p ∈ rn,p.2=b)∨w.heap.size≤b:=by
  intro b hr
  by_cases h1:F b
  ·exact .inl h1
  by_cases h2:∃ p ∈ rn,p.2=b
  ·exact .inr (.inl h2)
  rcases Nat.lt_or_ge b w.heap.size with h3 | h3
  ·exact absurd ⟨h3,h1,fun p hp e=>h2 ⟨p,hp,e⟩⟩ hr
  ·exact .inr (.inr h3)
 refine ⟨?_,?_,fun q hq=>(by
  obtain ⟨b,c',k1,k2,k3,k4⟩:=left_cells gg (hb1 q hq) (hgro q hq)
  exact ⟨b,c',k1,k2,k4⟩),?_,⟨F',q1,fun j hj=>⟨(q2 j hj).1,rest j (q2 j hj).2⟩,fun q hq b hk=>q3 _ _ b (hb1 q hq) hk⟩,⟨gg.below.os,gg.below.tape,gg.below.output,gg.below.size,fun k hk hn=>?_⟩⟩
 ·intro id b hk
  rw [gg.ext id (.inl (by
   show id < 4 * m
   exact (i3 _ (renOf_mem hk)).1))]
  exact hk
 ·intro q hq hk
  obtain ⟨b,c',k1,k2,k3,k4⟩:=left_cells gg (hb1 q hq) (hgro q hq)
  refine ⟨b,k1,by rw [k2,conc_cells k4 (by simpa using hk)],rest b k3⟩
 ·intro q hq q' hq' e
  obtain ⟨b,c',k1,_⟩:=left_cells gg (hb1 q hq) (hgro q hq)
  exact gg.rep.inj _ _ _ _ b (hb1 q hq) (hb1 q' hq') k1 (by rw [← e]; exact k1)
 ·exact gg.below.block k ⟨hk,fun h=>hn (.inl h),fun p hp e=>hn (.inr ⟨p,hp,e⟩)⟩
noncomputable def eqE:Exit→Exit→Bool
 | .normal,.normal=>true
 | .ret,.ret=>true
 | .exit i,.exit j=>Nat.beq i j
 | _,_=>false
theorem eqE_eq {e e':Exit} (h:eqE e e'=true) : e=e':=by
 unfold eqE at h
 split at h
 ·rfl
 ·rfl
 ·rw [Nat.eq_of_beq_eq_true h]
 ·cases h
noncomputable def segIs (ex:Exit) (live:List (Nat×Value)) (bl1:List Blk) (g':Nat) : Option FRes→Bool
 | some (e,t,[],s)=>eqE e ex && (live.all (fun p=>eqV 4 (t.get p.1) p.2) && (bl1.all (blkIs s) && (ghIs s (some g') && bl1.all (fun q=>Nat.beq (q.1 % 4) 0))))
 | _=>false
theorem segIs_ok {ex:Exit} {live:List (Nat×Value)} {bl1:List Blk} {g':Nat} {r:Option FRes} (h:segIs ex live bl1 g' r=true) :
  ∃ t s,r=some (ex,t,[],s)∧(∀ p ∈ live,t.get p.1=p.2)∧(∀ q ∈ bl1,s.look q.1=some (.cells q.2.1.toArray q.2.2 (0,0)))∧s.look 3=some (gobj g')∧bl1.all (fun q=>Nat.beq (q.1 % 4) 0)=true:=by
 unfold segIs at h
 split at h
 ·rename_i e t s
  simp only [Bool.and_eq_true] at h
  obtain ⟨h1,h2,h3,h4,h5⟩:=h
  obtain ⟨_,k2,k3⟩:=outIs_ok (r:=.bool true) (bl:=bl1) (g:=some g') (v:=.bool true) (s:=s) (by
   have h0:eqV 4 (.bool true) (.bool true)=true:=rfl
   simp only [outIs,h0,h3,h4,Bool.and_self])
  rw [List.all_eq_true] at h2
  exact ⟨t,s,by rw [eqE_eq h1],fun p hp=>eqV_eq _ _ _ (h2 p hp),k2,k3 _ rfl,h5⟩
 ·cases h
theorem from_env {tm:List Value} {N:Nat} (h1:tm.length=N) (h2:N≤4094) {β:Type} (k:TV→β) : ∃ t,fromK tm 0 .leaf k=k t∧Env N t [] ⟨tm.toArray,[]⟩:=by
 obtain ⟨t,e,he⟩:=start_env (args:=tm) (n:=N) (by omega) h2 k
 refine ⟨t,e,?_⟩
 rw [h1,Nat.sub_self,show (Array.replicate 0 undef:Array Value) = #[] from rfl,Array.append_empty] at he
 exact he
theorem seg_run {P:Program} (hP:P.check=.ok ()) (hcal:CalOK P) (hm:P.follows .mixedOrders=true) {n m N i k:Nat} {f:FuncId} {p:List Nat} {tm:List Value} {rn:List (Nat×Nat)} {bl bl1:List Blk} {g g':Nat} {ex:Exit} {live:List (Nat×Value)}
  (h:withB P (fun B=>segB B f p (fun _ c=>Nat.beq tm.length N && (Nat.ble N 4094 && (idsB m rn bl && segIs ex live bl1 g' (fromK tm 0 .leaf (fun t=>pieceF B n N k ((flat c).drop i) t (stOf (objsOf bl g) m)))))))=true)
  {F:Nat→Prop} {w:World} {A:Act} (hb:Blks rn bl F w) (hg:Sig.GR g (renOf rn) F w) (hF:∀ j,F j→j < w.heap.size) (ha:LRel (renOf rn) tm A.tmps.toList) (hd:A.defers=[]) {Q:Exit→Act→World→Prop}
  (hQ:∀ κ A1 w1,A1.tmps.size=N→A1.defers=[]→(∀ p ∈ live,VRel κ p.2 (A1.tmps.getD p.1 undef))→Left rn bl1 g' F w κ w1→Exit.then (wpL P (stm P f p (i+k)) Q) Q ex A1 w1) :
  wpL P (stm P f p i) Q A w:=by
 obtain ⟨B,hB,rfl,hf,hbo,h⟩:=segB_ok h
 simp only [Bool.and_eq_true] at h
 obtain ⟨h1,h2,h3,h4⟩:=h
 have h1:=Nat.eq_of_beq_eq_true h1
 have h2:=Nat.le_of_ble_eq_true h2
 obtain ⟨t,e,he⟩:=from_env h1 h2 (fun t=>pieceF B n N k (stm B.P f p i) t (stOf (objsOf bl g) m))
 rw [e] at h4
 obtain ⟨t1,s1,r1,r2,r3,r4,r5⟩:=segIs_ok h4
 obtain ⟨a1,q1,q2⟩:=pieceF_ok hB n N k he r1
 obtain ⟨i1,i2,i3,i4⟩:=idsB_ok h3
 refine piece_ok (ev_local B.P n) (ev_ok hP hcal hm n).1 k q1 (fun c hc=>flat_ok (at_ok (body_ok hP hf hbo)) c (List.mem_of_mem_drop hc)) (fun id x y=>?_) (renOf rn) A w ⟨⟨by simpa using ha.1,fun i v v' a b=>ha.2 i v v' (by simpa using a) (by simpa using b)⟩,by rw [hd]; exact .nil⟩ (seg_rep h3 hb hg hF) (fun id x y=>?_) Q (fun κ A1 w1 hA1 gg=>?_)
 ·rw [stOf_look m (objsOf bl g) id (fun p hp=>by
   rcases List.mem_cons.1 hp with rfl | hp
   ·show 3 < lim; unfold lim; omega
   ·obtain ⟨q,hq,rfl⟩:=List.mem_map.1 hp
    have:=(i4 q hq).1
    show q.1 < lim
    omega)]
  cases hf:((objsOf bl g).find? fun p=>p.1 == id).map (·.2) with
  | none=>rfl
  | some o =>
   have x':4 * m≤id:=x
   rcases List.mem_cons.1 (find_mem hf) with e | hp
   ·cases e; omega
   ·obtain ⟨q,hq,e⟩:=List.mem_map.1 hp
    cases e
    have:=(i4 q hq).1
    omega
 ·refine renOf_none (fun p hp e=>?_)
  have:=(i3 p hp).1
  have x':4 * m≤id:=x
  omega
 ·have sz:A1.tmps.size=N:=by rw [← hA1.tmps.1,q2.sz]
  have df:A1.defers=[]:=by
   have:=hA1.dfs
   rw [q2.df] at this
   generalize A1.defers=dd at this
   cases this
   rfl
  rw [List.drop_drop]
  refine hQ κ A1 w1 sz df (fun p hp=>?_) (seg_left h3 r5 gg r3 r4)
  rw [← r2 p hp,q2.get p.1]
  exact tmp_rel hA1.tmps p.1
theorem seg_end {P:Program} (hP:P.check=.ok ()) (hcal:CalOK P) (hm:P.follows .mixedOrders=true) {n m N i k:Nat} {f:FuncId} {p:List Nat} {tm:List Value} {rn:List (Nat×Nat)} {bl bl1:List Blk} {g g':Nat} {r:Value}
  (h:withB P (fun B=>segB B f p (fun fn c=>Nat.beq tm.length N && (Nat.beq fn.ntmps N && (Nat.ble N 4094 && (idsB m rn bl && ((bl1.all (fun q=>Nat.beq (q.1 % 4) 0) && isNil ((flat c).drop (i+k))) && outIs r bl1 (some g') (fromK tm 0 .leaf (fun t=>fret B.P fn (pieceF B n N k ((flat c).drop i) t (stOf (objsOf bl g) m))))))))))=true)
  {F:Nat→Prop} {w:World} {A:Act} (hb:Blks rn bl F w) (hg:Sig.GR g (renOf rn) F w) (hF:∀ j,F j→j < w.heap.size) (ha:LRel (renOf rn) tm A.tmps.toList) (hd:A.defers=[]) {R:Ending→World→Prop}
  (hQ:∀ κ v' w1,VRel κ r v'→Left rn bl1 g' F w κ w1→R (.returned v') w1) :
  wpL P (stm P f p i) (bodyPostM Fence.wide 0 P (fnOf P f) R) A w:=by
 obtain ⟨B,hB,rfl,hf,hbo,h⟩:=segB_ok h
 simp only [Bool.and_eq_true] at h
 obtain ⟨h1,h0,h2,h3,⟨h5,h6⟩,h4⟩:=h
 have h1:=Nat.eq_of_beq_eq_true h1
 have h0:=Nat.eq_of_beq_eq_true h0
 have h2:=Nat.le_of_ble_eq_true h2
 obtain ⟨t,e,he⟩:=from_env h1 h2 (fun t=>fret B.P (fnOf B.P f) (pieceF B n N k (stm B.P f p i) t (stOf (objsOf bl g) m)))
 rw [e] at h4
 cases hx:fret B.P (fnOf B.P f) (pieceF B n N k (stm B.P f p i) t (stOf (objsOf bl g) m)) with
 | none=>rw [hx] at h4; cases h4
 | some x =>
 obtain ⟨v,s1⟩:=x
 rw [hx] at h4
 obtain ⟨rfl,r3,r4⟩:=outIs_ok h4
 have r4:=r4 _ rfl
 obtain ⟨i1,i2,i3,i4⟩:=idsB_ok h3
 have hl:=ev_local B.P n
 obtain ⟨ex,a2,s2,q1,q2⟩ : ∃ ex a2 s2,pieceA (ev B.P n) k (stm B.P f p i) ⟨tm.toArray,[]⟩ (stOf (objsOf bl g) m)=some (ex,a2,s2)∧aleave B.P (fnOf B.P f) ex a2 s2=some (v,s1):=by
  unfold fret at hx
  split at hx
  ·rename_i t d s2 hrun
   obtain ⟨a1,q1,q2⟩:=pieceF_ok hB n N k he hrun
   rw [← h0] at q2
   exact ⟨_,a1,s2,q1,fend_ok q2 hx rfl⟩
  ·rename_i t d s2 hrun
   obtain ⟨a1,q1,q2⟩:=pieceF_ok hB n N k he hrun
   rw [← h0] at q2
   exact ⟨_,a1,s2,q1,fend_ok q2 hx rfl⟩
  ·cases hx
 unfold aleave at q2
 split at q2
 case h_2=>cases q2
 rename_i hex
 split at q2
 case h_2=>cases q2
 rename_i s3 hmk
 have n1:=pieceA_next hl k q1
 have n2:=(amarks_local B.P a2.defers).next hmk
 have n3:=arun_next B.P _ _ _ _ q2
 have hwin:Win (stOf (objsOf bl g) m) (stOf (objsOf bl g) m).next s1.next:=fun id x y=>by
  rw [stOf_look m (objsOf bl g) id (fun p hp=>by
   rcases List.mem_cons.1 hp with rfl | hp
   ·show 3 < lim; unfold lim; omega
   ·obtain ⟨q,hq,rfl⟩:=List.mem_map.1 hp
    have:=(i4 q hq).1
    show q.1 < lim
    omega)]
  cases hf:((objsOf bl g).find? fun p=>p.1 == id).map (·.2) with
  | none=>rfl
  | some o =>
   have x':4 * m≤id:=x
   rcases List.mem_cons.1 (find_mem hf) with e | hp
   ·cases e; omega
   ·obtain ⟨q,hq,e⟩:=List.mem_map.1 hp
    cases e
    have:=(i4 q hq).1
    omega
 have hfr:Fresh (renOf rn) (stOf (objsOf bl g) m) s1:=fun id x y=>by
  refine renOf_none (fun p hp e=>?_)
  have:=(i3 p hp).1
  have x':4 * m≤id:=x
  omega
 refine piece_ok hl (ev_ok hP hcal hm n).1 k q1 (fun c hc=>flat_ok (at_ok (body_ok hP hf hbo)) c (List.mem_of_mem_drop hc)) (hwin.left (Nat.le_trans n2 n3)) (renOf rn) A w ⟨⟨by simpa using ha.1,fun i v v' a b=>ha.2 i v v' (by simpa using a) (by simpa using b)⟩,by rw [hd]; exact .nil⟩ (seg_rep h3 hb hg hF) (hfr.left (Nat.le_trans n2 n3)) _ (fun κ A1 w1 hA1 g1=>?_)
 have f1:=hfr.right g1 n1
 have fin:LeavesInM Fence.wide 0 B.P (fnOf B.P f) A1.tmps R A1.defers .returning w1:=by
  refine marks_sound a2.defers A1.defers s2 s3 κ w1 hA1.dfs hmk g1.rep (f1.left n3) (fun μ w2 g2=>?_)
  have f2:=f1.right g2 n2
  obtain ⟨ν,v',w3,r1,r4',g3⟩:=sim_goes (sim_results (P:=B.P) (base:=Rest rn F w) (fnOf B.P f) (hA1.tmps.mono (g2.le (f1.left n3)))) g2.rep q2 f2
  have hw:=results_still (P:=B.P) (fnOf B.P f) A1.tmps w2 v' w3 r1
  subst hw
  exact ⟨v',r1,hQ ν v' _ r4' (seg_left h3 h5 (g1.trans (g2.trans g3 n2 n3) n1 (Nat.le_trans n2 n3)) r3 r4)⟩
 cases ex with
 | normal =>
  rw [List.drop_drop]
  have h6':isNil (stm B.P f p (i+k))=true:=h6
  show wpL B.P (stm B.P f p (i+k)) _ A1 w1
  cases hs:stm B.P f p (i+k) with
  | nil=>exact fin
  | cons c l=>rw [hs] at h6'; cases h6'
 | ret=>exact fin
 | _=>cases hex
theorem garb_ex (v':Value) : ∃ v:Value,∀ ι:Ren,VRel ι v v' :=
 match v' with
 | .bool b=>⟨_,fun ι=>.bool b⟩
 | .int k n=>⟨_,fun ι=>.int k n⟩
 | .float k n=>⟨_,fun ι=>.float k n⟩
 | .complex k n m=>⟨_,fun ι=>.junk 0 _ rfl⟩
 | .string b=>⟨_,fun ι=>.junk 0 _ rfl⟩
 | .pointer a=>⟨_,fun ι=>.junk 0 _ rfl⟩
 | .slice a n c=>⟨_,fun ι=>.junk 0 _ rfl⟩
 | .map a=>⟨_,fun ι=>.junk 0 _ rfl⟩
 | .func f a b=>⟨_,fun ι=>.junk 0 _ rfl⟩
 | .nilFunc=>⟨_,fun ι=>.junk 0 _ rfl⟩
 | .iface t v=>⟨_,fun ι=>.junk 0 _ rfl⟩
 | .nilIface=>⟨_,fun ι=>.junk 0 _ rfl⟩
 | .agg f=>by
  have h:∀ i (hi:i < f.size),∃ v:Value,∀ ι:Ren,VRel ι v f[i]:=fun i hi=>garb_ex f[i]
  exact ⟨.agg (Array.ofFn (n:=f.size) fun i=>Classical.choose (h i.1 i.2)),fun ι=>.agg _ _ (by simp) (fun i v v' h1 h2=>by
   obtain ⟨hi,rfl⟩:=Array.getElem?_eq_some_iff.1 h2
   rw [Array.getElem?_ofFn,dif_pos hi] at h1
   cases h1
   exact Classical.choose_spec (h i hi) ι)⟩
 | .tuple f=>by
  have h:∀ i (hi:i < f.size),∃ v:Value,∀ ι:Ren,VRel ι v f[i]:=fun i hi=>garb_ex f[i]
  exact ⟨.tuple (Array.ofFn (n:=f.size) fun i=>Classical.choose (h i.1 i.2)),fun ι=>.tuple _ _ (by simp) (fun i v v' h1 h2=>by
   obtain ⟨hi,rfl⟩:=Array.getElem?_eq_some_iff.1 h2
   rw [Array.getElem?_ofFn,dif_pos hi] at h1
   cases h1
   exact Classical.choose_spec (h i hi) ι)⟩
 | .chan r=>⟨_,fun ι=>.junk 0 _ rfl⟩
termination_by v'
decreasing_by
 all_goals
  subst_vars
  simp only [Value.agg.sizeOf_spec,Value.tuple.sizeOf_spec]
  have:=Array.sizeOf_get f i hi
  omega
end pieces
noncomputable def resTmps:List ResultVar→List Nat→Bool
 | [],[]=>true
 | .tmp i::l,j::m=>Nat.beq i j && resTmps l m
 | _,_=>false
theorem resTmps_ok:∀ {l:List ResultVar} {m:List Nat},resTmps l m=true→l=m.map .tmp
 | [],[],_=>rfl
 | .tmp i::l,j::m,h=>by
  have h':(Nat.beq i j && resTmps l m)=true:=h
  rw [Bool.and_eq_true] at h'
  rw [Nat.eq_of_beq_eq_true h'.1,resTmps_ok h'.2]
  rfl
 | [],_::_,h=>by cases h
 | .tmp i::l,[],h=>by cases h
theorem results_one {P:Program} {fn:Func} {i:Nat} {T:Array Value} {w:World} (h:fn.results.toList=[.tmp i]) : (results fn T).run P w=.ok (T.getD i undef) w:=by
 unfold results
 rw [Array.mapM_eq_mapM_toList,h]
 rfl
theorem post_ret {P:Program} {f:FuncId} {i:Nat} (h:withB P (fun B=>segB B f [] (fun fn _=>resTmps fn.results.toList [i]))=true) {R:Ending→World→Prop} {A:Act} {w:World} (hd:A.defers=[]) (hR:R (.returned (A.tmps.getD i undef)) w) : bodyPostM Fence.wide 0 P (fnOf P f) R .ret A w:=by
 obtain ⟨B,_,_,hf,hb,h⟩:=segB_ok h
 show LeavesInM Fence.wide 0 P (fnOf P f) A.tmps R A.defers .returning w
 rw [hd]
 exact ⟨_,results_one (resTmps_ok h),hR⟩
end Go.Ev
namespace Go.Ev
open Go.RowKit
set_option linter.unusedVariables false
set_option linter.unusedSimpArgs false
set_option linter.unusedSectionVars false
structure StarAt (l:List Asr) (Fs:List (Nat→Prop)) (ι:Ren) (F:Nat→Prop) (w:World) : Prop where
 len:Fs.length=l.length
 holds:∀ (i:Nat) a f,l[i]? = some a→Fs[i]? = some f→a.p ι f w
 apart:∀ (i j:Nat) f f',i ≠ j→Fs[i]? = some f→Fs[j]? = some f'→∀ x,f x→¬ f' x
 all:∀ x,F x↔∃ (i:Nat) (f:Nat→Prop),Fs[i]? = some f∧f x
def star (l:List Asr) : Asr where
 p:=fun ι F w=>∃ Fs,StarAt l Fs ι F w
 keep:=fun ι F w w' hk ⟨Fs,h⟩=>⟨Fs,h.len,fun i a f h1 h2=>a.keep ι f w w' (fun j hj=>hk j ((h.all j).2 ⟨i,f,h2,hj⟩)) (h.holds i a f h1 h2),h.apart,h.all⟩
 mono:=fun ι κ F w hk ⟨Fs,h⟩=>⟨Fs,h.len,fun i a f h1 h2=>a.mono ι κ f w hk (h.holds i a f h1 h2),h.apart,h.all⟩
theorem StarAt.turn {l l':List Asr} {Fs Fs':List (Nat→Prop)} {ι κ:Ren} {F:Nat→Prop} {w w':World} (h:StarAt l Fs ι F w) (lt:∀ x,F x→x < w.heap.size) (C:Nat→Prop) (hle:RLe ι κ) (hl:l'.length=l.length) (hf:Fs'.length=Fs.length)
  (same:∀ i:Nat,¬ C i→l'[i]? = l[i]?∧Fs'[i]? = Fs[i]?) (new:∀ (i:Nat) a f,C i→l'[i]? = some a→Fs'[i]? = some f→a.p κ f w')
  (dis:∀ (i j:Nat) f f',C i→C j→i ≠ j→Fs'[i]? = some f→Fs'[j]? = some f'→∀ x,f x→¬ f' x)
  (sub:∀ (i:Nat) f,C i→Fs'[i]? = some f→∀ x,f x→x < w'.heap.size∧((∃ (j:Nat) (f0:Nat→Prop),C j∧Fs[j]? = some f0∧f0 x)∨w.heap.size≤x))
  (ht:Turn (fun x=>∃ (j:Nat) (f0:Nat→Prop),C j∧Fs[j]? = some f0∧f0 x) w w') :
  ∃ F',StarAt l' Fs' κ F' w'∧Turn F w w'∧∀ x,F' x→x < w'.heap.size∧(F x∨w.heap.size≤x):=by
 have hlt:∀ (i:Nat) f,Fs[i]? = some f→∀ x,f x→x < w.heap.size:=fun i f hi x hx=>lt x ((h.all x).2 ⟨i,f,hi,hx⟩)
 refine ⟨fun x=>∃ (i:Nat) (f:Nat→Prop),Fs'[i]? = some f∧f x,⟨by rw [hf,hl,h.len],fun i a f h1 h2=>?_,fun i j f f' hij h1 h2 x hx hx'=>?_,fun x=>Iff.rfl⟩,⟨ht.os,ht.tape,ht.output,ht.size,fun x hx hn=>ht.block x hx (fun ⟨j,f0,_,q2,q3⟩=>hn ((h.all x).2 ⟨j,f0,q2,q3⟩))⟩,?_⟩
 ·by_cases hc:C i
  ·exact new i a f hc h1 h2
  ·obtain ⟨s1,s2⟩:=same i hc
   rw [s1] at h1
   rw [s2] at h2
   refine a.mono ι κ f w' hle (a.keep ι f w w' (fun x hx=>ht.block x (hlt i f h2 x hx) ?_) (h.holds i a f h1 h2))
   rintro ⟨j,f0,q1,q2,q3⟩
   exact h.apart i j f f0 (fun e=>hc (e ▸ q1)) h2 q2 x hx q3
 ·by_cases hc:C i
  ·by_cases hc':C j
   ·exact dis i j f f' hc hc' hij h1 h2 x hx hx'
   ·rw [(same j hc').2] at h2
    rcases (sub i f hc h1 x hx).2 with ⟨j0,f0,q1,q2,q3⟩ | q
    ·exact h.apart j0 j f0 f' (fun e=>hc' (e ▸ q1)) q2 h2 x q3 hx'
    ·have:=hlt j f' h2 x hx'
     omega
  ·rw [(same i hc).2] at h1
   by_cases hc':C j
   ·rcases (sub j f' hc' h2 x hx').2 with ⟨j0,f0,q1,q2,q3⟩ | q
    ·exact h.apart i j0 f f0 (fun e=>hc (e ▸ q1)) h1 q2 x hx q3
    ·have:=hlt i f h1 x hx
     omega
   ·rw [(same j hc').2] at h2
    exact h.apart i j f f' hij h1 h2 x hx hx'
 ·rintro x ⟨i,f,h1,hx⟩
  by_cases hc:C i
  ·refine ⟨(sub i f hc h1 x hx).1,(sub i f hc h1 x hx).2.imp (fun ⟨j,f0,_,q2,q3⟩=>(h.all x).2 ⟨j,f0,q2,q3⟩) id⟩
  ·rw [(same i hc).2] at h1
   have:=hlt i f h1 x hx
   exact ⟨Nat.lt_of_lt_of_le this ht.size,.inl ((h.all x).2 ⟨i,f,h1,hx⟩)⟩
theorem get_set {α:Type} {l:List α} {i:Nat} (hi:i < l.length) (x:α) (j:Nat) : (l.set i x)[j]? = if i=j then some x else l[j]?:=by
 rw [List.getElem?_set]
 by_cases e:i=j
 ·subst e; simp [hi]
 ·simp [e]
theorem StarAt.one {l:List Asr} {Fs:List (Nat→Prop)} {ι κ:Ren} {F f:Nat→Prop} {w w':World} (h:StarAt l Fs ι F w) (lt:∀ x,F x→x < w.heap.size) {i:Nat} (hi:Fs[i]? = some f) (hle:RLe ι κ) (a':Asr) (f':Nat→Prop) (ha:a'.p κ f' w') (ht:Turn f w w')
  (hs:∀ x,f' x→x < w'.heap.size∧(f x∨w.heap.size≤x)) : ∃ F',(star (l.set i a')).p κ F' w'∧Turn F w w'∧∀ x,F' x→x < w'.heap.size∧(F x∨w.heap.size≤x):=by
 have hlt:i < Fs.length:=(List.getElem?_eq_some_iff.1 hi).1
 have hlt':i < l.length:=by rw [← h.len]; exact hlt
 obtain ⟨F',h1,h2⟩:=h.turn (l':=l.set i a') (Fs':=Fs.set i f') lt (fun j=>j=i) hle (by simp) (by simp) (fun j hj=>by rw [get_set hlt',get_set hlt,if_neg (fun e=>hj e.symm),if_neg (fun e=>hj e.symm)]; exact ⟨rfl,rfl⟩)
  (fun j a g hj h1 h2=>by
   subst hj
   rw [get_set hlt',if_pos rfl] at h1
   rw [get_set hlt,if_pos rfl] at h2
   cases h1; cases h2
   exact ha)
  (fun j k g g' hj hk hjk=>absurd (hj.trans hk.symm) hjk)
  (fun j g hj h1 x hx=>by
   subst hj
   rw [get_set hlt,if_pos rfl] at h1
   cases h1
   exact ⟨(hs x hx).1,(hs x hx).2.imp (fun hf=>⟨j,f,rfl,hi,hf⟩) id⟩)
  ⟨ht.os,ht.tape,ht.output,ht.size,fun x hx hn=>ht.block x hx (fun hf=>hn ⟨i,f,rfl,hi,hf⟩)⟩
 exact ⟨F',⟨_,h1⟩,h2⟩
end Go.Ev
namespace Go.Ev
open Go.RowKit
set_option linter.unusedVariables false
set_option linter.unusedSimpArgs false
set_option linter.unusedSectionVars false
theorem gk_range {op:Op} {t:TypeId} (h:gkey op=some [13,t]) : ∃ x,op=.range t x:=by
 unfold gkey at h
 split at h <;> first | (cases h; done) | skip
 all_goals first | (cases h; exact ⟨_,rfl⟩) | (simp at h)
theorem gk_next {op:Op} (h:gkey op=some [14,0]) : ∃ x,op=.next x false:=by
 unfold gkey at h
 split at h <;> first | (cases h; done) | skip
 all_goals first | (simp at h; done) | skip
 rename_i x b
 cases b
 ·exact ⟨_,rfl⟩
 ·simp at h
theorem gk_entry {op:Op}  (h:gkey op=some [15]) : ∃ x,op=.entry x:=by
 unfold gkey at h
 split at h <;> first | (cases h; done) | skip
 all_goals first | (cases h; exact ⟨_,rfl⟩) | (simp at h)
theorem gk_lookup {op:Op} {t:TypeId} {b:Bool} {n:Nat} (hn:n=cond b 1 0) (h:gkey op=some [5,t,n]) : ∃ x y,op=.lookup t x y b:=by
 subst hn
 unfold gkey at h
 split at h <;> first | (cases h; done) | skip
 all_goals first | (simp at h; done) | skip
 rename_i t' x y ok
 cases ok <;> cases b <;> simp at h <;> subst h <;> exact ⟨_,_,rfl⟩
theorem gk_mapUpdate {op:Op} {t:TypeId} (h:gkey op=some [6,t]) : ∃ x y z,op=.mapUpdate t x y z:=by
 unfold gkey at h
 split at h <;> first | (cases h; done) | skip
 all_goals first | (cases h; exact ⟨_,_,_,rfl⟩) | (simp at h)
theorem gk_delete {op:Op} {t u:TypeId} (h:gkey op=some [12,t,u]) : ∃ x y,op=.call { callee:=.builtin .delete,args:=#[x,y],argTypes:=#[t,u] }:=by
 unfold gkey at h
 split at h <;> first | (cases h; done) | skip
 all_goals first | (cases h; exact ⟨_,_,rfl⟩) | (simp at h)
theorem gk_min {op:Op} {t u:TypeId} (h:gkey op=some [16,t,u]) : ∃ x y,op=.call { callee:=.builtin .min,args:=#[x,y],argTypes:=#[t,u] }:=by
 unfold gkey at h
 split at h <;> first | (cases h; done) | skip
 all_goals first | (cases h; exact ⟨_,_,rfl⟩) | (simp at h)
theorem gk_max {op:Op} {t u:TypeId} (h:gkey op=some [17,t,u]) : ∃ x y,op=.call { callee:=.builtin .max,args:=#[x,y],argTypes:=#[t,u] }:=by
 unfold gkey at h
 split at h <;> first | (cases h; done) | skip
 all_goals first | (cases h; exact ⟨_,_,rfl⟩) | (simp at h)
theorem gk_fieldAddr {op:Op} {t:TypeId} {f:Nat} (h:gkey op=some [7,t,f]) : ∃ x,op=.fieldAddr t x f:=by
 unfold gkey at h
 split at h <;> first | (cases h; done) | skip
 all_goals first | (cases h; exact ⟨_,rfl⟩) | (simp at h)
theorem ops3 {ι:Ren} [Sig] {x y z:Value} {l:List Value} (h:LRel ι [x,y,z] l) : ∃ x' y' z',l=[x',y',z']∧VRel ι x x'∧VRel ι y y'∧VRel ι z z':=by
 match l,h with
 | [],h=>exact absurd h.1 (by simp)
 | [_],h=>exact absurd h.1 (by simp)
 | [_,_],h=>exact absurd h.1 (by simp)
 | [x',y',z'],h=>exact ⟨x',y',z',rfl,h.2 0 x x' rfl rfl,h.2 1 y y' rfl rfl,h.2 2 z z' rfl rfl⟩
 | _::_::_::_::_,h=>exact absurd h.1 (by simp)
variable (k:Kn) {P:Program} {g:Nat} {d0 ng:Option Nat} {r:Value}
theorem GTrue.range {t:TypeId} {x:Value} (h:letI:Sig:=k.sig; ∀ ι F w d x',Ask k g d0 ng ι F w d→VRel ι x x'→VStep P (Instr.range t x') ι d F w r ng) : GTrue k P ⟨[13,t],[x],none,g,d0,r,ng⟩:=by
 letI:Sig:=k.sig
 intro o hk ev ι F w d hv _ h1 h2 h3 h4
 obtain ⟨a,ho⟩:=gk_range hk
 rw [ho] at hv
 obtain ⟨x',e,hx⟩:=ops1 hv
 simp [Op.operands] at e
 subst e
 obtain ⟨v',w',r1,r2⟩:=h ι F w d _ ⟨h1,h2,h3,h4⟩ hx
 refine ⟨.value v',v',w',?_,.inl rfl,r2⟩
 unfold execOp
 rw [ho]
 simp only
 rw [Sem.run_bind,r1]
 rfl
theorem GTrue.next  {x:Value} (h:letI:Sig:=k.sig; ∀ ι F w d x' ty,Ask k g d0 ng ι F w d→VRel ι x x'→VStep P (Instr.next x' false ty) ι d F w r ng) : GTrue k P ⟨[14,0],[x],none,g,d0,r,ng⟩:=by
 letI:Sig:=k.sig
 intro o hk ev ι F w d hv _ h1 h2 h3 h4
 obtain ⟨a,ho⟩:=gk_next hk
 rw [ho] at hv
 obtain ⟨x',e,hx⟩:=ops1 hv
 simp [Op.operands] at e
 subst e
 obtain ⟨v',w',r1,r2⟩:=h ι F w d _ o.type ⟨h1,h2,h3,h4⟩ hx
 refine ⟨.value v',v',w',?_,.inl rfl,r2⟩
 unfold execOp
 rw [ho]
 simp only
 rw [Sem.run_bind,r1]
 rfl
theorem GTrue.entry  {x:Value} (h:letI:Sig:=k.sig; ∀ ι F w d x',Ask k g d0 ng ι F w d→VRel ι x x'→VStep P (Instr.entry x') ι d F w r ng) : GTrue k P ⟨[15],[x],none,g,d0,r,ng⟩:=by
 letI:Sig:=k.sig
 intro o hk ev ι F w d hv _ h1 h2 h3 h4
 obtain ⟨a,ho⟩:=gk_entry hk
 rw [ho] at hv
 obtain ⟨x',e,hx⟩:=ops1 hv
 simp [Op.operands] at e
 subst e
 obtain ⟨v',w',r1,r2⟩:=h ι F w d _ ⟨h1,h2,h3,h4⟩ hx
 refine ⟨.value v',v',w',?_,.inl rfl,r2⟩
 unfold execOp
 rw [ho]
 simp only
 rw [Sem.run_bind,r1]
 rfl
theorem GTrue.fieldAddr {t:TypeId} {f:Nat} {x:Value} (h:letI:Sig:=k.sig; ∀ ι F w d x',Ask k g d0 ng ι F w d→VRel ι x x'→VStep P (Instr.fieldAt t x' f) ι d F w r ng) : GTrue k P ⟨[7,t,f],[x],none,g,d0,r,ng⟩:=by
 letI:Sig:=k.sig
 intro o hk ev ι F w d hv _ h1 h2 h3 h4
 obtain ⟨a,ho⟩:=gk_fieldAddr hk
 rw [ho] at hv
 obtain ⟨x',e,hx⟩:=ops1 hv
 simp [Op.operands] at e
 subst e
 obtain ⟨v',w',r1,r2⟩:=h ι F w d _ ⟨h1,h2,h3,h4⟩ hx
 refine ⟨.value v',v',w',?_,.inl rfl,r2⟩
 unfold execOp
 rw [ho]
 simp only
 rw [Sem.run_bind,r1]
 rfl
theorem GTrue.lookup {t:TypeId} {b:Bool} {n:Nat} (hn:n=cond b 1 0) {x y:Value} (h:letI:Sig:=k.sig; ∀ ι F w d x' y',Ask k g d0 ng ι F w d→VRel ι x x'→VRel ι y y'→VStep P (Instr.lookup t x' y' b) ι d F w r ng) : GTrue k P ⟨[5,t,n],[x,y],none,g,d0,r,ng⟩:=by
 letI:Sig:=k.sig
 intro o hk ev ι F w d hv _ h1 h2 h3 h4
 obtain ⟨a,b,ho⟩:=gk_lookup hn hk
 rw [ho] at hv
 obtain ⟨x',y',e,hx,hy⟩:=ops2 hv
 simp [Op.operands] at e
 obtain ⟨rfl,rfl⟩:=e
 obtain ⟨v',w',r1,r2⟩:=h ι F w d _ _ ⟨h1,h2,h3,h4⟩ hx hy
 refine ⟨.value v',v',w',?_,.inl rfl,r2⟩
 unfold execOp
 rw [ho]
 simp only
 rw [Sem.run_bind,r1]
 rfl
theorem GTrue.mapUpdate {t:TypeId} {x y z:Value} (h:letI:Sig:=k.sig; ∀ ι F w d x' y' z',Ask k g d0 ng ι F w d→VRel ι x x'→VRel ι y y'→VRel ι z z'→UStep P (Instr.mapUpdate t x' y' z') ι d F w ng) : GTrue k P ⟨[6,t],[x,y,z],none,g,d0,undef,ng⟩:=by
 letI:Sig:=k.sig
 intro o hk ev ι F w d hv _ h1 h2 h3 h4
 obtain ⟨a,b,c,ho⟩:=gk_mapUpdate hk
 rw [ho] at hv
 obtain ⟨x',y',z',e,hx,hy,hz⟩:=ops3 hv
 simp [Op.operands] at e
 obtain ⟨rfl,rfl,rfl⟩:=e
 obtain ⟨w',r1,r2⟩:=h ι F w d _ _ _ ⟨h1,h2,h3,h4⟩ hx hy hz
 refine ⟨.skip,undef,w',?_,.inr ⟨rfl,rfl⟩,r2⟩
 unfold execOp
 rw [ho]
 simp only
 rw [Sem.run_bind,r1]
 rfl
theorem GTrue.delete {t u:TypeId} {x y:Value} (h:letI:Sig:=k.sig; ∀ ι F w d x' y' ty,Ask k g d0 ng ι F w d→VRel ι x x'→VRel ι y y'→VStep P (Builtin.delete_ #[t,u] ty #[x',y']) ι d F w r ng) : GTrue k P ⟨[12,t,u],[x,y],none,g,d0,r,ng⟩:=by
  letI:Sig:=k.sig
  intro o hk ev ι F w d hv _ h1 h2 h3 h4
  obtain ⟨a,b,ho⟩:=gk_delete hk
  obtain ⟨cs,he⟩:=exec_builtin (ev:=ev) ho rfl
  rw [ho] at hv
  obtain ⟨x',y',e,hx,hy⟩:=ops2 hv
  simp [Op.operands,Call.operands] at e
  obtain ⟨rfl,rfl⟩:=e
  obtain ⟨v',w',r1,r2⟩:=h ι F w d _ _ o.type ⟨h1,h2,h3,h4⟩ hx hy
  refine ⟨.value v',v',w',?_,.inl rfl,r2⟩
  rw [he]
  have hb:builtin .delete #[t,u] o.type cs #[ev a,ev b]=(do pure (Next.value (← Builtin.delete_ #[t,u] o.type #[ev a,ev b]))):=rfl
  simp only [List.map_toArray,List.map_cons,List.map_nil]
  rw [hb]
  rw [Sem.run_bind,r1]
  rfl
theorem GTrue.min {t u:TypeId} {x y:Value} (h:letI:Sig:=k.sig; ∀ ι F w d x' y' ty,Ask k g d0 ng ι F w d→VRel ι x x'→VRel ι y y'→VStep P (Builtin.min_ #[t,u] ty #[x',y']) ι d F w r ng) : GTrue k P ⟨[16,t,u],[x,y],none,g,d0,r,ng⟩:=by
  letI:Sig:=k.sig
  intro o hk ev ι F w d hv _ h1 h2 h3 h4
  obtain ⟨a,b,ho⟩:=gk_min hk
  obtain ⟨cs,he⟩:=exec_builtin (ev:=ev) ho rfl
  rw [ho] at hv
  obtain ⟨x',y',e,hx,hy⟩:=ops2 hv
  simp [Op.operands,Call.operands] at e
  obtain ⟨rfl,rfl⟩:=e
  obtain ⟨v',w',r1,r2⟩:=h ι F w d _ _ o.type ⟨h1,h2,h3,h4⟩ hx hy
  refine ⟨.value v',v',w',?_,.inl rfl,r2⟩
  rw [he]
  have hb:builtin .min #[t,u] o.type cs #[ev a,ev b]=(do pure (Next.value (← Builtin.min_ #[t,u] o.type #[ev a,ev b]))):=rfl
  simp only [List.map_toArray,List.map_cons,List.map_nil]
  rw [hb]
  rw [Sem.run_bind,r1]
  rfl
theorem GTrue.max {t u:TypeId} {x y:Value} (h:letI:Sig:=k.sig; ∀ ι F w d x' y' ty,Ask k g d0 ng ι F w d→VRel ι x x'→VRel ι y y'→VStep P (Builtin.max_ #[t,u] ty #[x',y']) ι d F w r ng) : GTrue k P ⟨[17,t,u],[x,y],none,g,d0,r,ng⟩:=by
  letI:Sig:=k.sig
  intro o hk ev ι F w d hv _ h1 h2 h3 h4
  obtain ⟨a,b,ho⟩:=gk_max hk
  obtain ⟨cs,he⟩:=exec_builtin (ev:=ev) ho rfl
  rw [ho] at hv
  obtain ⟨x',y',e,hx,hy⟩:=ops2 hv
  simp [Op.operands,Call.operands] at e
  obtain ⟨rfl,rfl⟩:=e
  obtain ⟨v',w',r1,r2⟩:=h ι F w d _ _ o.type ⟨h1,h2,h3,h4⟩ hx hy
  refine ⟨.value v',v',w',?_,.inl rfl,r2⟩
  rw [he]
  have hb:builtin .max #[t,u] o.type cs #[ev a,ev b]=(do pure (Next.value (← Builtin.max_ #[t,u] o.type #[ev a,ev b]))):=rfl
  simp only [List.map_toArray,List.map_cons,List.map_nil]
  rw [hb]
  rw [Sem.run_bind,r1]
  rfl
end Go.Ev
namespace Go.Ev
open Go.RowKit Go.Maps Go.WideShapes
open Go.WideElems (Fit rd rg pl rd_key rd_val rg_of other_key)
set_option linter.unusedVariables false
set_option linter.unusedSimpArgs false
set_option linter.unusedSectionVars false
section parts
variable {k:Kn} {P:Program} {g g':Nat} {d0:Option Nat} {r:Value} {l:List Asr} {i:Nat} {a a':Asr} {ι:Ren} {F:Nat→Prop} {w w':World} {d:Nat}
theorem star_ask {ng:Option Nat} (hg:k.gs[g]? = some (star l)) (hi:l[i]? = some a) (q:Ask k g d0 ng ι F w d) : ∃ Fs f,StarAt l Fs ι F w∧Fs[i]? = some f∧a.p ι f w:=by
 obtain ⟨b,q1,q2⟩:=q.st
 rw [hg] at q1
 cases q1
 obtain ⟨Fs,q2⟩:=q2
 have hlt:i < Fs.length:=by rw [q2.len]; exact (List.getElem?_eq_some_iff.1 hi).1
 exact ⟨Fs,Fs[i],q2,List.getElem?_eq_getElem hlt,q2.holds i a _ hi (List.getElem?_eq_getElem hlt)⟩
theorem one_end (hg':k.gs[g']? = some (star (l.set i a'))) {Fs:List (Nat→Prop)} {f f':Nat→Prop} (hS:StarAt l Fs ι F w) (lt:∀ x,F x→x < w.heap.size) (hi:Fs[i]? = some f) (hd:ι d=none) (c:Nat) {v':Value} (ha:a'.p (ι.upd d c) f' w') (ht:Turn f w w')
  (hs:∀ x,f' x→x < w'.heap.size∧(f x∨w.heap.size≤x)) (hv:letI:Sig:=k.sig; VRel (ι.upd d c) r v') : letI:Sig:=k.sig; GEnd ι d F w r (some g') v' w':=by
 letI:Sig:=k.sig
 obtain ⟨F',h1,h2,h3⟩:=hS.one lt hi (Ren.upd_le (b:=c) hd) a' f' ha ht hs
 exact ⟨c,F',hv,⟨_,hg',h1⟩,h2,h3⟩
theorem ask_fresh (q:Ask k g d0 (some g') ι F w d) : ι d=none:=by
 rcases q.fresh with h | h
 ·exact h
 ·cases h
end parts
inductive Lv where
 | st (v:Value)
 | dy (d:Nat)
def Lv.is (ι:Ren) (v:Value) : Lv→Prop
 | .st v0=>v=v0
 | .dy d=>∃ c,ι d=some c∧dec c=v
theorem Lv.mono {ι κ:Ren} (h:RLe ι κ) {v:Value} {l:Lv} (hl:l.is ι v) : l.is κ v:=by
 cases l with
 | st v0=>exact hl
 | dy d=>obtain ⟨c,h1,h2⟩:=hl; exact ⟨c,h _ _ h1,h2⟩
structure IntMap (P:Program) (t kT e:TypeId) : Prop where
 ht:P.underlying t=some (.map kT e)
 hk:P.underlying kT=some (.int .i64)
 he:P.underlying e=some (.int .i64)
 hz:∀ w,(zeroValue e).run P w=.ok (.int .i64 0) w
def wfI (i:Int) : Prop:=(Lit.int .i64 i).wf=true
def Reads (D:DataW Unit) (f:Int→Option Int) : Prop:=∀ i,wfI i→Maps.has D (.int .i64 i)=(f i).isSome∧D.atKey (.int .i64 i) (.lit (.int .i64 0))=.lit (.int .i64 ((f i).getD 0))
def upd (f:Int→Option Int) (i:Int) (x:Option Int) : Int→Option Int:=fun j=>if j=i then x else f j
theorem lit_ne {i j:Int} (h:j ≠ i) : (Lit.int .i64 j) ≠ (Lit.int .i64 i):=fun e=>by cases e; exact h rfl
theorem Reads.put {D:DataW Unit} {f:Int→Option Int} (h:Reads D f) (hm:IsMap D) {i x:Int} : Reads (D.put (.int .i64 i) (.lit (.int .i64 x))) (upd f i (some x)):=by
 intro j hj
 by_cases e:j=i
 ·subst e
  rw [has_put_same hm (by trivial),atKey_put_same hm (by trivial)]
  simp [upd]
 ·rw [has_put_other (lit_ne e),atKey_put_other (lit_ne e)]
  simpa [upd,e] using h j hj
section
variable (P:Program) (kT e:TypeId)
def MapIs (b n:Nat) (f:Int→Option Int) (w:World) : Prop:=∃ D:DataW Unit,w.ownsMap P kT (plainElem P e) b n D∧Reads D f
theorem MapIs.keep {b n:Nat} {f:Int→Option Int} {w w':World} (h:MapIs P kT e b n f w) (hk:w'.heap[b]? = w.heap[b]?) : MapIs P kT e b n f w':=by
 obtain ⟨D,⟨es,clock,h1,h2⟩,h3⟩:=h
 exact ⟨D,⟨es,clock,by rw [hk]; exact h1,h2⟩,h3⟩
def RngIs (b r n cnt:Nat) (f:Int→Option Int) (left:Int→Bool) (w:World) : Prop :=
 ∃ (D:DataW Unit) (lf:Lit→Bool),w.ranges P kT (plainElem P e) b r n D lf cnt∧Reads D f∧(∀ i,wfI i→lf (.int .i64 i)=left i)∧∀ i,wfI i→left i=true→(f i).isSome=true
theorem RngIs.keep {b r n cnt:Nat} {f:Int→Option Int} {left:Int→Bool} {w w':World} (h:RngIs P kT e b r n cnt f left w) (hb:w'.heap[b]? = w.heap[b]?) (hr:w'.heap[r]? = w.heap[r]?) : RngIs P kT e b r n cnt f left w':=by
 obtain ⟨D,lf,⟨es,clock,since,seen,c0,h1,h2,h3,h4,h5,h6⟩,h7⟩:=h
 exact ⟨D,lf,⟨es,clock,since,seen,c0,by rw [hb]; exact h1,h2,h3,h4,by rw [hr]; exact h5,h6⟩,h7⟩
def ptrV (r:Nat) : Value:=.pointer (some ⟨r,0,none⟩)
def rngA (b:Nat) (rv:Lv) (n cnt:Nat) (f:Int→Option Int) (left:Int→Bool) : Asr where
 p:=fun ι F w=>∃ r,rv.is ι (ptrV r)∧(∀ j,F j↔j=b∨j=r)∧RngIs P kT e b r n cnt f left w
 keep:=fun ι F w w' hk ⟨r,h0,h1,h2⟩=>⟨r,h0,h1,h2.keep P kT e (hk b ((h1 b).2 (.inl rfl))) (hk r ((h1 r).2 (.inr rfl)))⟩
 mono:=fun ι κ F w hle ⟨r,h0,h1⟩=>⟨r,Lv.mono hle h0,h1⟩
def CurIs (b r n cnt:Nat) (f:Int→Option Int) (left:Int→Bool) (i:Int) (w:World) : Prop :=
 wfI i∧(f i).isSome=true∧RngIs P kT e b r n cnt f left w∧∀ w2:World,w2.heap[b]? = w.heap[b]?→w2.heap[r]? = w.heap[r]?→(Instr.entry (ptrV r)).run P w2=.ok (.tuple #[.int .i64 i,.int .i64 ((f i).getD 0)]) w2
theorem CurIs.keep {b r n cnt:Nat} {f:Int→Option Int} {left:Int→Bool} {i:Int} {w w':World} (h:CurIs P kT e b r n cnt f left i w) (hb:w'.heap[b]? = w.heap[b]?) (hr:w'.heap[r]? = w.heap[r]?) : CurIs P kT e b r n cnt f left i w':=by
 obtain ⟨h0,h1,h2,h3⟩:=h
 exact ⟨h0,h1,h2.keep P kT e hb hr,fun w2 k1 k2=>h3 w2 (k1.trans hb) (k2.trans hr)⟩
def curA (b r n cnt:Nat) (f:Int→Option Int) (left:Int→Bool) (i:Int) : Asr where
 p:=fun ι F w=>(∀ j,F j↔j=b∨j=r)∧CurIs P kT e b r n cnt f left i w
 keep:=fun ι F w w' hk ⟨h1,h2⟩=>⟨h1,h2.keep P kT e (hk b ((h1 b).2 (.inl rfl))) (hk r ((h1 r).2 (.inr rfl)))⟩
 mono:=fun ι κ F w hle h=>h
def lessI (left:Int→Bool) (i:Int) : Int→Bool:=fun j=>left j && !(decide (j=i))
def nextA (b r n cnt:Nat) (f:Int→Option Int) (left:Int→Bool) : Asr where
 p:=fun ι F w=>(∀ j,F j↔j=b∨j=r)∧∃ i cnt',cnt' < cnt∧left i=true∧CurIs P kT e b r n cnt' f (lessI left i) i w
 keep:=fun ι F w w' hk ⟨h1,i,c,h2,h3,h4⟩=>⟨h1,i,c,h2,h3,h4.keep P kT e (hk b ((h1 b).2 (.inl rfl))) (hk r ((h1 r).2 (.inr rfl)))⟩
 mono:=fun ι κ F w hle h=>h
end
section rows
variable {k:Kn} {P:Program} {g g':Nat} {d0:Option Nat} {l:List Asr} {ci:Nat} {t kT e:TypeId} {b n sM sK sV:Nat} {f:Int→Option Int} {i x:Int} (M:IntMap P t kT e)
include M
end rows
end Go.Ev
