/- Part of a proof: see the last text. -/
import Derived.Test.YtbcnbofkgkheeaaZk11
namespace Go.Proofs.Ytbcnbofkgkheeaa
open Go.RowKit
open Go.Ev (sy)
set_option linter.unusedVariables false
set_option linter.unusedSimpArgs false
theorem ptr_leaf (cl:Value) (a:Nat) : Ev.leafV (ptrOf cl a)=true:=by
 unfold ptrOf
 split <;> rfl
def loadV (o c1 c2 c3 c4 c5:Int) (lg cl:Value) (a n:Nat) (x v u:Int) (cells:List Int) (hl:Ev.leafV lg=true) (hc:Ev.leafV cl=true) (hn:n≤256) (ha:a < cells.length) (hx:cells[a]=x) (ha2:(a:Int)≤9223372036854775807) (hcut:n < 256) : Nat→Value
 | 0=>.int .u64 o
 | 1=>.int .u64 c1
 | 2=>.int .u64 c2
 | 3=>.int .u64 c3
 | 4=>.int .u64 c4
 | 5=>.int .u64 c5
 | 6=>lg
 | 7=>cl
 | 8=>.int .i64 (a:Int)
 | 9=>.int .u64 x
 | 10=>ptrOf cl a
 | 11=>.int .u64 (IntKind.u64.wrap (o+1))
 | 12=>.int .u64 (IntKind.u64.wrap (c1+1))
 | 13=>.int .i64 (cells.length:Int)
 | 14=>.int .i64 ((n:Int)+1)
 | 15=>.int .u64 v
 | 16=>.int .u64 u
 | _=>.int .i64 0
theorem loadL (o c1 c2 c3 c4 c5:Int) (lg cl:Value) (a n:Nat) (x v u:Int) (cells:List Int) (hl:Ev.leafV lg=true) (hc:Ev.leafV cl=true) (hn:n≤256) (ha:a < cells.length) (hx:cells[a]=x) (ha2:(a:Int)≤9223372036854775807) (hcut:n < 256) : ∀ j9,Ev.leafV (loadV o c1 c2 c3 c4 c5 lg cl a n x v u cells hl hc hn ha hx ha2 hcut j9)=true:=by
 intro j9
 unfold loadV
 split <;> first | rfl | assumption | exact ptr_leaf _ _
def loadB:List Ev.BFact:=[(.geq,sy 8,.int .i64 0,.bool true),(.lss,sy 8,sy 13,.bool true),(.add,sy 0,.int .u64 1,sy 11),(.add,sy 1,.int .u64 1,sy 12),(.gtr,sy 14,.int .i64 256,.bool false)]
theorem loadBok (o c1 c2 c3 c4 c5:Int) (lg cl:Value) (a n:Nat) (x v u:Int) (cells:List Int) (hl:Ev.leafV lg=true) (hc:Ev.leafV cl=true) (hn:n≤256) (ha:a < cells.length) (hx:cells[a]=x) (ha2:(a:Int)≤9223372036854775807) (hcut:n < 256) : ∀ q ∈ loadB,Ev.BTrue (loadV o c1 c2 c3 c4 c5 lg cl a n x v u cells hl hc hn ha hx ha2 hcut) q:=by
 intro q hq
 simp only [loadB,List.mem_cons,List.not_mem_nil,or_false] at hq
 rcases hq with rfl | rfl | rfl | rfl | rfl
 ·intro t ox oy; exact Ev.bt_geq (by first | (simp; done) | (simp; omega))
 ·intro t ox oy; exact Ev.bt_lss (by simpa using ha)
 ·intro t ox oy; exact Ev.bt_add rfl
 ·intro t ox oy; exact Ev.bt_add rfl
 ·intro t ox oy; exact Ev.bt_gtr (by first | (simp; done) | (simp; omega))
def loadU:List Ev.UFact:=[]
theorem loadUok (o c1 c2 c3 c4 c5:Int) (lg cl:Value) (a n:Nat) (x v u:Int) (cells:List Int) (hl:Ev.leafV lg=true) (hc:Ev.leafV cl=true) (hn:n≤256) (ha:a < cells.length) (hx:cells[a]=x) (ha2:(a:Int)≤9223372036854775807) (hcut:n < 256) : ∀ q ∈ loadU,Ev.UTrue (loadV o c1 c2 c3 c4 c5 lg cl a n x v u cells hl hc hn ha hx ha2 hcut) q:=by
 intro q hq
 cases hq
def loadC:List Ev.CFact:=[]
theorem loadCok (o c1 c2 c3 c4 c5:Int) (lg cl:Value) (a n:Nat) (x v u:Int) (cells:List Int) (hl:Ev.leafV lg=true) (hc:Ev.leafV cl=true) (hn:n≤256) (ha:a < cells.length) (hx:cells[a]=x) (ha2:(a:Int)≤9223372036854775807) (hcut:n < 256) : ∀ q ∈ loadC,Ev.CTrue (loadV o c1 c2 c3 c4 c5 lg cl a n x v u cells hl hc hn ha hx ha2 hcut) q:=by
 intro q hq
 cases hq
def loadK:List Ev.KFact:=[]
@[reducible] def loadN (o c1 c2 c3 c4 c5:Int) (lg cl:Value) (a n:Nat) (x v u:Int) (cells:List Int) (hl:Ev.leafV lg=true) (hc:Ev.leafV cl=true) (hn:n≤256) (ha:a < cells.length) (hx:cells[a]=x) (ha2:(a:Int)≤9223372036854775807) (hcut:n < 256) : Ev.Kn:={ val:=loadV o c1 c2 c3 c4 c5 lg cl a n x v u cells hl hc hn ha hx ha2 hcut,leaf:=loadL o c1 c2 c3 c4 c5 lg cl a n x v u cells hl hc hn ha hx ha2 hcut,bs:=loadB,us:=loadU,cs:=loadC,ks:=loadK,hb:=loadBok o c1 c2 c3 c4 c5 lg cl a n x v u cells hl hc hn ha hx ha2 hcut,hu:=loadUok o c1 c2 c3 c4 c5 lg cl a n x v u cells hl hc hn ha hx ha2 hcut,hc:=loadCok o c1 c2 c3 c4 c5 lg cl a n x v u cells hl hc hn ha hx ha2 hcut,gs:=[memP (.st lg) n cl cells,memP (.st lg) n cl (cells.set a x),memP (.dy 415) (n+1) cl (cells.set a x)],ops:=[⟨[10,29],[sy 7],none,0,none,sy 13,none⟩,⟨[3,29],[sy 7,sy 8],none,0,none,sy 10,none⟩,⟨[1,30],[sy 10],none,0,none,sy 9,none⟩,⟨[2,30],[sy 10,sy 9],none,0,none,undef,some 1⟩,⟨[11,98,98],[sy 6],some (4,1,[.int .i64 1,sy 8,sy 9,sy 9]),1,some 415,.complex .f32 415 0,some 2⟩,⟨[10,98],[.complex .f32 415 0],none,2,none,sy 14,none⟩],cls:=[] }
theorem loadOK (o c1 c2 c3 c4 c5:Int) (lg cl:Value) (a n:Nat) (x v u:Int) (cells:List Int) (hl:Ev.leafV lg=true) (hc:Ev.leafV cl=true) (hn:n≤256) (ha:a < cells.length) (hx:cells[a]=x) (ha2:(a:Int)≤9223372036854775807) (hcut:n < 256) : @Ev.CalOK (loadN o c1 c2 c3 c4 c5 lg cl a n x v u cells hl hc hn ha hx ha2 hcut).sig Try.prog:=by
 refine Ev.Kn.ok (loadN o c1 c2 c3 c4 c5 lg cl a n x v u cells hl hc hn ha hx ha2 hcut) ?_ ?_ ?_
 ·intro q hq
  cases hq
 ·intro q hq
  simp only [loadN,loadK,List.mem_cons,List.not_mem_nil,or_false] at hq
  rcases hq with rfl | rfl | rfl | rfl | rfl | rfl
  ·exact mem_len rfl rfl rfl
  ·exact mem_index rfl rfl rfl rfl ha
  ·exact mem_load rfl rfl ha (by show Value.int .u64 x=_; rw [hx])
  ·exact mem_store rfl rfl rfl ha rfl
  ·exact mem_note rfl rfl rfl hn rfl
  ·exact mem_logLen rfl rfl
 ·intro q hq
  cases hq
theorem loadR (o c1 c2 c3 c4 c5:Int) (lg cl:Value) (a n:Nat) (x v u:Int) (cells:List Int) (hl:Ev.leafV lg=true) (hc:Ev.leafV cl=true) (hn:n≤256) (ha:a < cells.length) (hx:cells[a]=x) (ha2:(a:Int)≤9223372036854775807) (hcut:n < 256) : Ev.withB Try.prog (fun B=>Ev.outIs (sy 9) [(4,[sy 11,sy 12,sy 2,sy 3,sy 4,sy 5,.complex .f32 415 0,sy 7],102)] (some 2) (@Ev.fcallF (loadN o c1 c2 c3 c4 c5 lg cl a n x v u cells hl hc hn ha hx ha2 hcut).sig B (@Ev.fev (loadN o c1 c2 c3 c4 c5 lg cl a n x v u cells hl hc hn ha hx ha2 hcut).sig B 200) 12 [.pointer (some ⟨4,0,none⟩),sy 8] (Ev.stOf [(4,.cells ([sy 0,sy 1,sy 2,sy 3,sy 4,sy 5,sy 6,sy 7] : List Value).toArray 102 (0,0)),(3,Ev.gobj 0)] 100)))=true:=by kernel_rfl
def loadCutV (o c1 c2 c3 c4 c5:Int) (lg cl:Value) (a n:Nat) (x v u:Int) (cells:List Int) (hl:Ev.leafV lg=true) (hc:Ev.leafV cl=true) (hn:n≤256) (ha:a < cells.length) (hx:cells[a]=x) (ha2:(a:Int)≤9223372036854775807) (hcut:n=256) : Nat→Value
 | 0=>.int .u64 o
 | 1=>.int .u64 c1
 | 2=>.int .u64 c2
 | 3=>.int .u64 c3
 | 4=>.int .u64 c4
 | 5=>.int .u64 c5
 | 6=>lg
 | 7=>cl
 | 8=>.int .i64 (a:Int)
 | 9=>.int .u64 x
 | 10=>ptrOf cl a
 | 11=>.int .u64 (IntKind.u64.wrap (o+1))
 | 12=>.int .u64 (IntKind.u64.wrap (c1+1))
 | 13=>.int .i64 (cells.length:Int)
 | 14=>.int .i64 ((n:Int)+1)
 | 15=>.int .u64 v
 | 16=>.int .u64 u
 | _=>.int .i64 0
theorem loadCutL (o c1 c2 c3 c4 c5:Int) (lg cl:Value) (a n:Nat) (x v u:Int) (cells:List Int) (hl:Ev.leafV lg=true) (hc:Ev.leafV cl=true) (hn:n≤256) (ha:a < cells.length) (hx:cells[a]=x) (ha2:(a:Int)≤9223372036854775807) (hcut:n=256) : ∀ j9,Ev.leafV (loadCutV o c1 c2 c3 c4 c5 lg cl a n x v u cells hl hc hn ha hx ha2 hcut j9)=true:=by
 intro j9
 unfold loadCutV
 split <;> first | rfl | assumption | exact ptr_leaf _ _
def loadCutB:List Ev.BFact:=[(.geq,sy 8,.int .i64 0,.bool true),(.lss,sy 8,sy 13,.bool true),(.add,sy 0,.int .u64 1,sy 11),(.add,sy 1,.int .u64 1,sy 12),(.gtr,sy 14,.int .i64 256,.bool true)]
theorem loadCutBok (o c1 c2 c3 c4 c5:Int) (lg cl:Value) (a n:Nat) (x v u:Int) (cells:List Int) (hl:Ev.leafV lg=true) (hc:Ev.leafV cl=true) (hn:n≤256) (ha:a < cells.length) (hx:cells[a]=x) (ha2:(a:Int)≤9223372036854775807) (hcut:n=256) : ∀ q ∈ loadCutB,Ev.BTrue (loadCutV o c1 c2 c3 c4 c5 lg cl a n x v u cells hl hc hn ha hx ha2 hcut) q:=by
 intro q hq
 simp only [loadCutB,List.mem_cons,List.not_mem_nil,or_false] at hq
 rcases hq with rfl | rfl | rfl | rfl | rfl
 ·intro t ox oy; exact Ev.bt_geq (by first | (simp; done) | (simp; omega))
 ·intro t ox oy; exact Ev.bt_lss (by simpa using ha)
 ·intro t ox oy; exact Ev.bt_add rfl
 ·intro t ox oy; exact Ev.bt_add rfl
 ·intro t ox oy; exact Ev.bt_gtr (by first | (simp; done) | (simp; omega))
def loadCutU:List Ev.UFact:=[]
theorem loadCutUok (o c1 c2 c3 c4 c5:Int) (lg cl:Value) (a n:Nat) (x v u:Int) (cells:List Int) (hl:Ev.leafV lg=true) (hc:Ev.leafV cl=true) (hn:n≤256) (ha:a < cells.length) (hx:cells[a]=x) (ha2:(a:Int)≤9223372036854775807) (hcut:n=256) : ∀ q ∈ loadCutU,Ev.UTrue (loadCutV o c1 c2 c3 c4 c5 lg cl a n x v u cells hl hc hn ha hx ha2 hcut) q:=by
 intro q hq
 cases hq
def loadCutC:List Ev.CFact:=[]
theorem loadCutCok (o c1 c2 c3 c4 c5:Int) (lg cl:Value) (a n:Nat) (x v u:Int) (cells:List Int) (hl:Ev.leafV lg=true) (hc:Ev.leafV cl=true) (hn:n≤256) (ha:a < cells.length) (hx:cells[a]=x) (ha2:(a:Int)≤9223372036854775807) (hcut:n=256) : ∀ q ∈ loadCutC,Ev.CTrue (loadCutV o c1 c2 c3 c4 c5 lg cl a n x v u cells hl hc hn ha hx ha2 hcut) q:=by
 intro q hq
 cases hq
def loadCutK:List Ev.KFact:=[]
@[reducible] def loadCutN (o c1 c2 c3 c4 c5:Int) (lg cl:Value) (a n:Nat) (x v u:Int) (cells:List Int) (hl:Ev.leafV lg=true) (hc:Ev.leafV cl=true) (hn:n≤256) (ha:a < cells.length) (hx:cells[a]=x) (ha2:(a:Int)≤9223372036854775807) (hcut:n=256) : Ev.Kn:={ val:=loadCutV o c1 c2 c3 c4 c5 lg cl a n x v u cells hl hc hn ha hx ha2 hcut,leaf:=loadCutL o c1 c2 c3 c4 c5 lg cl a n x v u cells hl hc hn ha hx ha2 hcut,bs:=loadCutB,us:=loadCutU,cs:=loadCutC,ks:=loadCutK,hb:=loadCutBok o c1 c2 c3 c4 c5 lg cl a n x v u cells hl hc hn ha hx ha2 hcut,hu:=loadCutUok o c1 c2 c3 c4 c5 lg cl a n x v u cells hl hc hn ha hx ha2 hcut,hc:=loadCutCok o c1 c2 c3 c4 c5 lg cl a n x v u cells hl hc hn ha hx ha2 hcut,gs:=[memP (.st lg) n cl cells,memP (.st lg) n cl (cells.set a x),memP (.dy 415) (n+1) cl (cells.set a x),memP (.dy 419) n cl (cells.set a x)],ops:=[⟨[10,29],[sy 7],none,0,none,sy 13,none⟩,⟨[3,29],[sy 7,sy 8],none,0,none,sy 10,none⟩,⟨[1,30],[sy 10],none,0,none,sy 9,none⟩,⟨[2,30],[sy 10,sy 9],none,0,none,undef,some 1⟩,⟨[11,98,98],[sy 6],some (4,1,[.int .i64 1,sy 8,sy 9,sy 9]),1,some 415,.complex .f32 415 0,some 2⟩,⟨[10,98],[.complex .f32 415 0],none,2,none,sy 14,none⟩,⟨[4,98,1,0,0],[.complex .f32 415 0,.int .i64 1],none,2,some 419,.complex .f32 419 0,some 3⟩],cls:=[] }
theorem loadCutOK (o c1 c2 c3 c4 c5:Int) (lg cl:Value) (a n:Nat) (x v u:Int) (cells:List Int) (hl:Ev.leafV lg=true) (hc:Ev.leafV cl=true) (hn:n≤256) (ha:a < cells.length) (hx:cells[a]=x) (ha2:(a:Int)≤9223372036854775807) (hcut:n=256) : @Ev.CalOK (loadCutN o c1 c2 c3 c4 c5 lg cl a n x v u cells hl hc hn ha hx ha2 hcut).sig Try.prog:=by
 refine Ev.Kn.ok (loadCutN o c1 c2 c3 c4 c5 lg cl a n x v u cells hl hc hn ha hx ha2 hcut) ?_ ?_ ?_
 ·intro q hq
  cases hq
 ·intro q hq
  simp only [loadCutN,loadCutK,List.mem_cons,List.not_mem_nil,or_false] at hq
  rcases hq with rfl | rfl | rfl | rfl | rfl | rfl | rfl
  ·exact mem_len rfl rfl rfl
  ·exact mem_index rfl rfl rfl rfl ha
  ·exact mem_load rfl rfl ha (by show Value.int .u64 x=_; rw [hx])
  ·exact mem_store rfl rfl rfl ha rfl
  ·exact mem_note rfl rfl rfl hn rfl
  ·exact mem_logLen rfl rfl
  ·exact mem_cut rfl rfl
 ·intro q hq
  cases hq
theorem loadCutR (o c1 c2 c3 c4 c5:Int) (lg cl:Value) (a n:Nat) (x v u:Int) (cells:List Int) (hl:Ev.leafV lg=true) (hc:Ev.leafV cl=true) (hn:n≤256) (ha:a < cells.length) (hx:cells[a]=x) (ha2:(a:Int)≤9223372036854775807) (hcut:n=256) : Ev.withB Try.prog (fun B=>Ev.outIs (sy 9) [(4,[sy 11,sy 12,sy 2,sy 3,sy 4,sy 5,.complex .f32 419 0,sy 7],102)] (some 3) (@Ev.fcallF (loadCutN o c1 c2 c3 c4 c5 lg cl a n x v u cells hl hc hn ha hx ha2 hcut).sig B (@Ev.fev (loadCutN o c1 c2 c3 c4 c5 lg cl a n x v u cells hl hc hn ha hx ha2 hcut).sig B 200) 12 [.pointer (some ⟨4,0,none⟩),sy 8] (Ev.stOf [(4,.cells ([sy 0,sy 1,sy 2,sy 3,sy 4,sy 5,sy 6,sy 7] : List Value).toArray 102 (0,0)),(3,Ev.gobj 0)] 100)))=true:=by kernel_rfl
def storeV (o c1 c2 c3 c4 c5:Int) (lg cl:Value) (a n:Nat) (x v u:Int) (cells:List Int) (hl:Ev.leafV lg=true) (hc:Ev.leafV cl=true) (hn:n≤256) (ha:a < cells.length) (hx:cells[a]=x) (ha2:(a:Int)≤9223372036854775807) (hcut:n < 256) : Nat→Value
 | 0=>.int .u64 o
 | 1=>.int .u64 c1
 | 2=>.int .u64 c2
 | 3=>.int .u64 c3
 | 4=>.int .u64 c4
 | 5=>.int .u64 c5
 | 6=>lg
 | 7=>cl
 | 8=>.int .i64 (a:Int)
 | 9=>.int .u64 x
 | 10=>ptrOf cl a
 | 11=>.int .u64 (IntKind.u64.wrap (o+1))
 | 12=>.int .u64 (IntKind.u64.wrap (c2+1))
 | 13=>.int .i64 (cells.length:Int)
 | 14=>.int .i64 ((n:Int)+1)
 | 15=>.int .u64 v
 | 16=>.int .u64 u
 | _=>.int .i64 0
theorem storeL (o c1 c2 c3 c4 c5:Int) (lg cl:Value) (a n:Nat) (x v u:Int) (cells:List Int) (hl:Ev.leafV lg=true) (hc:Ev.leafV cl=true) (hn:n≤256) (ha:a < cells.length) (hx:cells[a]=x) (ha2:(a:Int)≤9223372036854775807) (hcut:n < 256) : ∀ j9,Ev.leafV (storeV o c1 c2 c3 c4 c5 lg cl a n x v u cells hl hc hn ha hx ha2 hcut j9)=true:=by
 intro j9
 unfold storeV
 split <;> first | rfl | assumption | exact ptr_leaf _ _
def storeB:List Ev.BFact:=[(.geq,sy 8,.int .i64 0,.bool true),(.lss,sy 8,sy 13,.bool true),(.add,sy 0,.int .u64 1,sy 11),(.add,sy 2,.int .u64 1,sy 12),(.gtr,sy 14,.int .i64 256,.bool false)]
theorem storeBok (o c1 c2 c3 c4 c5:Int) (lg cl:Value) (a n:Nat) (x v u:Int) (cells:List Int) (hl:Ev.leafV lg=true) (hc:Ev.leafV cl=true) (hn:n≤256) (ha:a < cells.length) (hx:cells[a]=x) (ha2:(a:Int)≤9223372036854775807) (hcut:n < 256) : ∀ q ∈ storeB,Ev.BTrue (storeV o c1 c2 c3 c4 c5 lg cl a n x v u cells hl hc hn ha hx ha2 hcut) q:=by
 intro q hq
 simp only [storeB,List.mem_cons,List.not_mem_nil,or_false] at hq
 rcases hq with rfl | rfl | rfl | rfl | rfl
 ·intro t ox oy; exact Ev.bt_geq (by first | (simp; done) | (simp; omega))
 ·intro t ox oy; exact Ev.bt_lss (by simpa using ha)
 ·intro t ox oy; exact Ev.bt_add rfl
 ·intro t ox oy; exact Ev.bt_add rfl
 ·intro t ox oy; exact Ev.bt_gtr (by first | (simp; done) | (simp; omega))
def storeU:List Ev.UFact:=[]
theorem storeUok (o c1 c2 c3 c4 c5:Int) (lg cl:Value) (a n:Nat) (x v u:Int) (cells:List Int) (hl:Ev.leafV lg=true) (hc:Ev.leafV cl=true) (hn:n≤256) (ha:a < cells.length) (hx:cells[a]=x) (ha2:(a:Int)≤9223372036854775807) (hcut:n < 256) : ∀ q ∈ storeU,Ev.UTrue (storeV o c1 c2 c3 c4 c5 lg cl a n x v u cells hl hc hn ha hx ha2 hcut) q:=by
 intro q hq
 cases hq
def storeC:List Ev.CFact:=[]
theorem storeCok (o c1 c2 c3 c4 c5:Int) (lg cl:Value) (a n:Nat) (x v u:Int) (cells:List Int) (hl:Ev.leafV lg=true) (hc:Ev.leafV cl=true) (hn:n≤256) (ha:a < cells.length) (hx:cells[a]=x) (ha2:(a:Int)≤9223372036854775807) (hcut:n < 256) : ∀ q ∈ storeC,Ev.CTrue (storeV o c1 c2 c3 c4 c5 lg cl a n x v u cells hl hc hn ha hx ha2 hcut) q:=by
 intro q hq
 cases hq
def storeK:List Ev.KFact:=[]
@[reducible] def storeN (o c1 c2 c3 c4 c5:Int) (lg cl:Value) (a n:Nat) (x v u:Int) (cells:List Int) (hl:Ev.leafV lg=true) (hc:Ev.leafV cl=true) (hn:n≤256) (ha:a < cells.length) (hx:cells[a]=x) (ha2:(a:Int)≤9223372036854775807) (hcut:n < 256) : Ev.Kn:={ val:=storeV o c1 c2 c3 c4 c5 lg cl a n x v u cells hl hc hn ha hx ha2 hcut,leaf:=storeL o c1 c2 c3 c4 c5 lg cl a n x v u cells hl hc hn ha hx ha2 hcut,bs:=storeB,us:=storeU,cs:=storeC,ks:=storeK,hb:=storeBok o c1 c2 c3 c4 c5 lg cl a n x v u cells hl hc hn ha hx ha2 hcut,hu:=storeUok o c1 c2 c3 c4 c5 lg cl a n x v u cells hl hc hn ha hx ha2 hcut,hc:=storeCok o c1 c2 c3 c4 c5 lg cl a n x v u cells hl hc hn ha hx ha2 hcut,gs:=[memP (.st lg) n cl cells,memP (.st lg) n cl (cells.set a v),memP (.dy 419) (n+1) cl (cells.set a v)],ops:=[⟨[10,29],[sy 7],none,0,none,sy 13,none⟩,⟨[3,29],[sy 7,sy 8],none,0,none,sy 10,none⟩,⟨[1,30],[sy 10],none,0,none,sy 9,none⟩,⟨[2,30],[sy 10,sy 15],none,0,none,undef,some 1⟩,⟨[11,98,98],[sy 6],some (4,1,[.int .i64 2,sy 8,sy 9,sy 15]),1,some 419,.complex .f32 419 0,some 2⟩,⟨[10,98],[.complex .f32 419 0],none,2,none,sy 14,none⟩],cls:=[] }
theorem storeOK (o c1 c2 c3 c4 c5:Int) (lg cl:Value) (a n:Nat) (x v u:Int) (cells:List Int) (hl:Ev.leafV lg=true) (hc:Ev.leafV cl=true) (hn:n≤256) (ha:a < cells.length) (hx:cells[a]=x) (ha2:(a:Int)≤9223372036854775807) (hcut:n < 256) : @Ev.CalOK (storeN o c1 c2 c3 c4 c5 lg cl a n x v u cells hl hc hn ha hx ha2 hcut).sig Try.prog:=by
 refine Ev.Kn.ok (storeN o c1 c2 c3 c4 c5 lg cl a n x v u cells hl hc hn ha hx ha2 hcut) ?_ ?_ ?_
 ·intro q hq
  cases hq
 ·intro q hq
  simp only [storeN,storeK,List.mem_cons,List.not_mem_nil,or_false] at hq
  rcases hq with rfl | rfl | rfl | rfl | rfl | rfl
  ·exact mem_len rfl rfl rfl
  ·exact mem_index rfl rfl rfl rfl ha
  ·exact mem_load rfl rfl ha (by show Value.int .u64 x=_; rw [hx])
  ·exact mem_store rfl rfl rfl ha rfl
  ·exact mem_note rfl rfl rfl hn rfl
  ·exact mem_logLen rfl rfl
 ·intro q hq
  cases hq
theorem storeR (o c1 c2 c3 c4 c5:Int) (lg cl:Value) (a n:Nat) (x v u:Int) (cells:List Int) (hl:Ev.leafV lg=true) (hc:Ev.leafV cl=true) (hn:n≤256) (ha:a < cells.length) (hx:cells[a]=x) (ha2:(a:Int)≤9223372036854775807) (hcut:n < 256) : Ev.withB Try.prog (fun B=>Ev.outIs (.tuple #[]) [(4,[sy 11,sy 1,sy 12,sy 3,sy 4,sy 5,.complex .f32 419 0,sy 7],102)] (some 2) (@Ev.fcallF (storeN o c1 c2 c3 c4 c5 lg cl a n x v u cells hl hc hn ha hx ha2 hcut).sig B (@Ev.fev (storeN o c1 c2 c3 c4 c5 lg cl a n x v u cells hl hc hn ha hx ha2 hcut).sig B 200) 25 [.pointer (some ⟨4,0,none⟩),sy 8,sy 15] (Ev.stOf [(4,.cells ([sy 0,sy 1,sy 2,sy 3,sy 4,sy 5,sy 6,sy 7] : List Value).toArray 102 (0,0)),(3,Ev.gobj 0)] 100)))=true:=by kernel_rfl
def storeCutV (o c1 c2 c3 c4 c5:Int) (lg cl:Value) (a n:Nat) (x v u:Int) (cells:List Int) (hl:Ev.leafV lg=true) (hc:Ev.leafV cl=true) (hn:n≤256) (ha:a < cells.length) (hx:cells[a]=x) (ha2:(a:Int)≤9223372036854775807) (hcut:n=256) : Nat→Value
 | 0=>.int .u64 o
 | 1=>.int .u64 c1
 | 2=>.int .u64 c2
 | 3=>.int .u64 c3
 | 4=>.int .u64 c4
 | 5=>.int .u64 c5
 | 6=>lg
 | 7=>cl
 | 8=>.int .i64 (a:Int)
 | 9=>.int .u64 x
 | 10=>ptrOf cl a
 | 11=>.int .u64 (IntKind.u64.wrap (o+1))
 | 12=>.int .u64 (IntKind.u64.wrap (c2+1))
 | 13=>.int .i64 (cells.length:Int)
 | 14=>.int .i64 ((n:Int)+1)
 | 15=>.int .u64 v
 | 16=>.int .u64 u
 | _=>.int .i64 0
theorem storeCutL (o c1 c2 c3 c4 c5:Int) (lg cl:Value) (a n:Nat) (x v u:Int) (cells:List Int) (hl:Ev.leafV lg=true) (hc:Ev.leafV cl=true) (hn:n≤256) (ha:a < cells.length) (hx:cells[a]=x) (ha2:(a:Int)≤9223372036854775807) (hcut:n=256) : ∀ j9,Ev.leafV (storeCutV o c1 c2 c3 c4 c5 lg cl a n x v u cells hl hc hn ha hx ha2 hcut j9)=true:=by
 intro j9
 unfold storeCutV
 split <;> first | rfl | assumption | exact ptr_leaf _ _
def storeCutB:List Ev.BFact:=[(.geq,sy 8,.int .i64 0,.bool true),(.lss,sy 8,sy 13,.bool true),(.add,sy 0,.int .u64 1,sy 11),(.add,sy 2,.int .u64 1,sy 12),(.gtr,sy 14,.int .i64 256,.bool true)]
theorem storeCutBok (o c1 c2 c3 c4 c5:Int) (lg cl:Value) (a n:Nat) (x v u:Int) (cells:List Int) (hl:Ev.leafV lg=true) (hc:Ev.leafV cl=true) (hn:n≤256) (ha:a < cells.length) (hx:cells[a]=x) (ha2:(a:Int)≤9223372036854775807) (hcut:n=256) : ∀ q ∈ storeCutB,Ev.BTrue (storeCutV o c1 c2 c3 c4 c5 lg cl a n x v u cells hl hc hn ha hx ha2 hcut) q:=by
 intro q hq
 simp only [storeCutB,List.mem_cons,List.not_mem_nil,or_false] at hq
 rcases hq with rfl | rfl | rfl | rfl | rfl
 ·intro t ox oy; exact Ev.bt_geq (by first | (simp; done) | (simp; omega))
 ·intro t ox oy; exact Ev.bt_lss (by simpa using ha)
 ·intro t ox oy; exact Ev.bt_add rfl
 ·intro t ox oy; exact Ev.bt_add rfl
 ·intro t ox oy; exact Ev.bt_gtr (by first | (simp; done) | (simp; omega))
def storeCutU:List Ev.UFact:=[]
theorem storeCutUok (o c1 c2 c3 c4 c5:Int) (lg cl:Value) (a n:Nat) (x v u:Int) (cells:List Int) (hl:Ev.leafV lg=true) (hc:Ev.leafV cl=true) (hn:n≤256) (ha:a < cells.length) (hx:cells[a]=x) (ha2:(a:Int)≤9223372036854775807) (hcut:n=256) : ∀ q ∈ storeCutU,Ev.UTrue (storeCutV o c1 c2 c3 c4 c5 lg cl a n x v u cells hl hc hn ha hx ha2 hcut) q:=by
 intro q hq
 cases hq
def storeCutC:List Ev.CFact:=[]
theorem storeCutCok (o c1 c2 c3 c4 c5:Int) (lg cl:Value) (a n:Nat) (x v u:Int) (cells:List Int) (hl:Ev.leafV lg=true) (hc:Ev.leafV cl=true) (hn:n≤256) (ha:a < cells.length) (hx:cells[a]=x) (ha2:(a:Int)≤9223372036854775807) (hcut:n=256) : ∀ q ∈ storeCutC,Ev.CTrue (storeCutV o c1 c2 c3 c4 c5 lg cl a n x v u cells hl hc hn ha hx ha2 hcut) q:=by
 intro q hq
 cases hq
def storeCutK:List Ev.KFact:=[]
@[reducible] def storeCutN (o c1 c2 c3 c4 c5:Int) (lg cl:Value) (a n:Nat) (x v u:Int) (cells:List Int) (hl:Ev.leafV lg=true) (hc:Ev.leafV cl=true) (hn:n≤256) (ha:a < cells.length) (hx:cells[a]=x) (ha2:(a:Int)≤9223372036854775807) (hcut:n=256) : Ev.Kn:={ val:=storeCutV o c1 c2 c3 c4 c5 lg cl a n x v u cells hl hc hn ha hx ha2 hcut,leaf:=storeCutL o c1 c2 c3 c4 c5 lg cl a n x v u cells hl hc hn ha hx ha2 hcut,bs:=storeCutB,us:=storeCutU,cs:=storeCutC,ks:=storeCutK,hb:=storeCutBok o c1 c2 c3 c4 c5 lg cl a n x v u cells hl hc hn ha hx ha2 hcut,hu:=storeCutUok o c1 c2 c3 c4 c5 lg cl a n x v u cells hl hc hn ha hx ha2 hcut,hc:=storeCutCok o c1 c2 c3 c4 c5 lg cl a n x v u cells hl hc hn ha hx ha2 hcut,gs:=[memP (.st lg) n cl cells,memP (.st lg) n cl (cells.set a v),memP (.dy 419) (n+1) cl (cells.set a v),memP (.dy 423) n cl (cells.set a v)],ops:=[⟨[10,29],[sy 7],none,0,none,sy 13,none⟩,⟨[3,29],[sy 7,sy 8],none,0,none,sy 10,none⟩,⟨[1,30],[sy 10],none,0,none,sy 9,none⟩,⟨[2,30],[sy 10,sy 15],none,0,none,undef,some 1⟩,⟨[11,98,98],[sy 6],some (4,1,[.int .i64 2,sy 8,sy 9,sy 15]),1,some 419,.complex .f32 419 0,some 2⟩,⟨[10,98],[.complex .f32 419 0],none,2,none,sy 14,none⟩,⟨[4,98,1,0,0],[.complex .f32 419 0,.int .i64 1],none,2,some 423,.complex .f32 423 0,some 3⟩],cls:=[] }
theorem storeCutOK (o c1 c2 c3 c4 c5:Int) (lg cl:Value) (a n:Nat) (x v u:Int) (cells:List Int) (hl:Ev.leafV lg=true) (hc:Ev.leafV cl=true) (hn:n≤256) (ha:a < cells.length) (hx:cells[a]=x) (ha2:(a:Int)≤9223372036854775807) (hcut:n=256) : @Ev.CalOK (storeCutN o c1 c2 c3 c4 c5 lg cl a n x v u cells hl hc hn ha hx ha2 hcut).sig Try.prog:=by
 refine Ev.Kn.ok (storeCutN o c1 c2 c3 c4 c5 lg cl a n x v u cells hl hc hn ha hx ha2 hcut) ?_ ?_ ?_
 ·intro q hq
  cases hq
 ·intro q hq
  simp only [storeCutN,storeCutK,List.mem_cons,List.not_mem_nil,or_false] at hq
  rcases hq with rfl | rfl | rfl | rfl | rfl | rfl | rfl
  ·exact mem_len rfl rfl rfl
  ·exact mem_index rfl rfl rfl rfl ha
  ·exact mem_load rfl rfl ha (by show Value.int .u64 x=_; rw [hx])
  ·exact mem_store rfl rfl rfl ha rfl
  ·exact mem_note rfl rfl rfl hn rfl
  ·exact mem_logLen rfl rfl
  ·exact mem_cut rfl rfl
 ·intro q hq
  cases hq
theorem storeCutR (o c1 c2 c3 c4 c5:Int) (lg cl:Value) (a n:Nat) (x v u:Int) (cells:List Int) (hl:Ev.leafV lg=true) (hc:Ev.leafV cl=true) (hn:n≤256) (ha:a < cells.length) (hx:cells[a]=x) (ha2:(a:Int)≤9223372036854775807) (hcut:n=256) : Ev.withB Try.prog (fun B=>Ev.outIs (.tuple #[]) [(4,[sy 11,sy 1,sy 12,sy 3,sy 4,sy 5,.complex .f32 423 0,sy 7],102)] (some 3) (@Ev.fcallF (storeCutN o c1 c2 c3 c4 c5 lg cl a n x v u cells hl hc hn ha hx ha2 hcut).sig B (@Ev.fev (storeCutN o c1 c2 c3 c4 c5 lg cl a n x v u cells hl hc hn ha hx ha2 hcut).sig B 200) 25 [.pointer (some ⟨4,0,none⟩),sy 8,sy 15] (Ev.stOf [(4,.cells ([sy 0,sy 1,sy 2,sy 3,sy 4,sy 5,sy 6,sy 7] : List Value).toArray 102 (0,0)),(3,Ev.gobj 0)] 100)))=true:=by kernel_rfl
def casYesV (o c1 c2 c3 c4 c5:Int) (lg cl:Value) (a n:Nat) (x v u:Int) (cells:List Int) (hl:Ev.leafV lg=true) (hc:Ev.leafV cl=true) (hn:n≤256) (ha:a < cells.length) (hx:cells[a]=x) (ha2:(a:Int)≤9223372036854775807) (hcut:n < 256) (hy:x=u) : Nat→Value
 | 0=>.int .u64 o
 | 1=>.int .u64 c1
 | 2=>.int .u64 c2
 | 3=>.int .u64 c3
 | 4=>.int .u64 c4
 | 5=>.int .u64 c5
 | 6=>lg
 | 7=>cl
 | 8=>.int .i64 (a:Int)
 | 9=>.int .u64 x
 | 10=>ptrOf cl a
 | 11=>.int .u64 (IntKind.u64.wrap (o+1))
 | 12=>.int .u64 (IntKind.u64.wrap (c3+1))
 | 13=>.int .i64 (cells.length:Int)
 | 14=>.int .i64 ((n:Int)+1)
 | 15=>.int .u64 v
 | 16=>.int .u64 u
 | _=>.int .i64 0
theorem casYesL (o c1 c2 c3 c4 c5:Int) (lg cl:Value) (a n:Nat) (x v u:Int) (cells:List Int) (hl:Ev.leafV lg=true) (hc:Ev.leafV cl=true) (hn:n≤256) (ha:a < cells.length) (hx:cells[a]=x) (ha2:(a:Int)≤9223372036854775807) (hcut:n < 256) (hy:x=u) : ∀ j9,Ev.leafV (casYesV o c1 c2 c3 c4 c5 lg cl a n x v u cells hl hc hn ha hx ha2 hcut hy j9)=true:=by
 intro j9
 unfold casYesV
 split <;> first | rfl | assumption | exact ptr_leaf _ _
def casYesB:List Ev.BFact:=[(.geq,sy 8,.int .i64 0,.bool true),(.lss,sy 8,sy 13,.bool true),(.add,sy 0,.int .u64 1,sy 11),(.add,sy 3,.int .u64 1,sy 12),(.gtr,sy 14,.int .i64 256,.bool false),(.neq,sy 9,sy 16,.bool false)]
theorem casYesBok (o c1 c2 c3 c4 c5:Int) (lg cl:Value) (a n:Nat) (x v u:Int) (cells:List Int) (hl:Ev.leafV lg=true) (hc:Ev.leafV cl=true) (hn:n≤256) (ha:a < cells.length) (hx:cells[a]=x) (ha2:(a:Int)≤9223372036854775807) (hcut:n < 256) (hy:x=u) : ∀ q ∈ casYesB,Ev.BTrue (casYesV o c1 c2 c3 c4 c5 lg cl a n x v u cells hl hc hn ha hx ha2 hcut hy) q:=by
 intro q hq
 simp only [casYesB,List.mem_cons,List.not_mem_nil,or_false] at hq
 rcases hq with rfl | rfl | rfl | rfl | rfl | rfl
 ·intro t ox oy; exact Ev.bt_geq (by first | (simp; done) | (simp; omega))
 ·intro t ox oy; exact Ev.bt_lss (by simpa using ha)
 ·intro t ox oy; exact Ev.bt_add rfl
 ·intro t ox oy; exact Ev.bt_add rfl
 ·intro t ox oy; exact Ev.bt_gtr (by first | (simp; done) | (simp; omega))
 ·intro t ox oy; exact Ev.bt_neq (by first | (simp; done) | (simp; omega))
def casYesU:List Ev.UFact:=[]
theorem casYesUok (o c1 c2 c3 c4 c5:Int) (lg cl:Value) (a n:Nat) (x v u:Int) (cells:List Int) (hl:Ev.leafV lg=true) (hc:Ev.leafV cl=true) (hn:n≤256) (ha:a < cells.length) (hx:cells[a]=x) (ha2:(a:Int)≤9223372036854775807) (hcut:n < 256) (hy:x=u) : ∀ q ∈ casYesU,Ev.UTrue (casYesV o c1 c2 c3 c4 c5 lg cl a n x v u cells hl hc hn ha hx ha2 hcut hy) q:=by
 intro q hq
 cases hq
def casYesC:List Ev.CFact:=[]
theorem casYesCok (o c1 c2 c3 c4 c5:Int) (lg cl:Value) (a n:Nat) (x v u:Int) (cells:List Int) (hl:Ev.leafV lg=true) (hc:Ev.leafV cl=true) (hn:n≤256) (ha:a < cells.length) (hx:cells[a]=x) (ha2:(a:Int)≤9223372036854775807) (hcut:n < 256) (hy:x=u) : ∀ q ∈ casYesC,Ev.CTrue (casYesV o c1 c2 c3 c4 c5 lg cl a n x v u cells hl hc hn ha hx ha2 hcut hy) q:=by
 intro q hq
 cases hq
def casYesK:List Ev.KFact:=[]
@[reducible] def casYesN (o c1 c2 c3 c4 c5:Int) (lg cl:Value) (a n:Nat) (x v u:Int) (cells:List Int) (hl:Ev.leafV lg=true) (hc:Ev.leafV cl=true) (hn:n≤256) (ha:a < cells.length) (hx:cells[a]=x) (ha2:(a:Int)≤9223372036854775807) (hcut:n < 256) (hy:x=u) : Ev.Kn:={ val:=casYesV o c1 c2 c3 c4 c5 lg cl a n x v u cells hl hc hn ha hx ha2 hcut hy,leaf:=casYesL o c1 c2 c3 c4 c5 lg cl a n x v u cells hl hc hn ha hx ha2 hcut hy,bs:=casYesB,us:=casYesU,cs:=casYesC,ks:=casYesK,hb:=casYesBok o c1 c2 c3 c4 c5 lg cl a n x v u cells hl hc hn ha hx ha2 hcut hy,hu:=casYesUok o c1 c2 c3 c4 c5 lg cl a n x v u cells hl hc hn ha hx ha2 hcut hy,hc:=casYesCok o c1 c2 c3 c4 c5 lg cl a n x v u cells hl hc hn ha hx ha2 hcut hy,gs:=[memP (.st lg) n cl cells,memP (.st lg) n cl (cells.set a v),memP (.dy 423) (n+1) cl (cells.set a v)],ops:=[⟨[10,29],[sy 7],none,0,none,sy 13,none⟩,⟨[3,29],[sy 7,sy 8],none,0,none,sy 10,none⟩,⟨[1,30],[sy 10],none,0,none,sy 9,none⟩,⟨[2,30],[sy 10,sy 15],none,0,none,undef,some 1⟩,⟨[11,98,98],[sy 6],some (4,1,[.int .i64 3,sy 8,sy 9,sy 15]),1,some 423,.complex .f32 423 0,some 2⟩,⟨[10,98],[.complex .f32 423 0],none,2,none,sy 14,none⟩],cls:=[] }
theorem casYesOK (o c1 c2 c3 c4 c5:Int) (lg cl:Value) (a n:Nat) (x v u:Int) (cells:List Int) (hl:Ev.leafV lg=true) (hc:Ev.leafV cl=true) (hn:n≤256) (ha:a < cells.length) (hx:cells[a]=x) (ha2:(a:Int)≤9223372036854775807) (hcut:n < 256) (hy:x=u) : @Ev.CalOK (casYesN o c1 c2 c3 c4 c5 lg cl a n x v u cells hl hc hn ha hx ha2 hcut hy).sig Try.prog:=by
 refine Ev.Kn.ok (casYesN o c1 c2 c3 c4 c5 lg cl a n x v u cells hl hc hn ha hx ha2 hcut hy) ?_ ?_ ?_
 ·intro q hq
  cases hq
 ·intro q hq
  simp only [casYesN,casYesK,List.mem_cons,List.not_mem_nil,or_false] at hq
  rcases hq with rfl | rfl | rfl | rfl | rfl | rfl
  ·exact mem_len rfl rfl rfl
  ·exact mem_index rfl rfl rfl rfl ha
  ·exact mem_load rfl rfl ha (by show Value.int .u64 x=_; rw [hx])
  ·exact mem_store rfl rfl rfl ha rfl
  ·exact mem_note rfl rfl rfl hn rfl
  ·exact mem_logLen rfl rfl
 ·intro q hq
  cases hq
theorem casYesR (o c1 c2 c3 c4 c5:Int) (lg cl:Value) (a n:Nat) (x v u:Int) (cells:List Int) (hl:Ev.leafV lg=true) (hc:Ev.leafV cl=true) (hn:n≤256) (ha:a < cells.length) (hx:cells[a]=x) (ha2:(a:Int)≤9223372036854775807) (hcut:n < 256) (hy:x=u) : Ev.withB Try.prog (fun B=>Ev.outIs (.bool true) [(4,[sy 11,sy 1,sy 2,sy 12,sy 4,sy 5,.complex .f32 423 0,sy 7],102)] (some 2) (@Ev.fcallF (casYesN o c1 c2 c3 c4 c5 lg cl a n x v u cells hl hc hn ha hx ha2 hcut hy).sig B (@Ev.fev (casYesN o c1 c2 c3 c4 c5 lg cl a n x v u cells hl hc hn ha hx ha2 hcut hy).sig B 200) 114 [.pointer (some ⟨4,0,none⟩),sy 8,sy 16,sy 15] (Ev.stOf [(4,.cells ([sy 0,sy 1,sy 2,sy 3,sy 4,sy 5,sy 6,sy 7] : List Value).toArray 102 (0,0)),(3,Ev.gobj 0)] 100)))=true:=by kernel_rfl
def casYesCutV (o c1 c2 c3 c4 c5:Int) (lg cl:Value) (a n:Nat) (x v u:Int) (cells:List Int) (hl:Ev.leafV lg=true) (hc:Ev.leafV cl=true) (hn:n≤256) (ha:a < cells.length) (hx:cells[a]=x) (ha2:(a:Int)≤9223372036854775807) (hcut:n=256) (hy:x=u) : Nat→Value
 | 0=>.int .u64 o
 | 1=>.int .u64 c1
 | 2=>.int .u64 c2
 | 3=>.int .u64 c3
 | 4=>.int .u64 c4
 | 5=>.int .u64 c5
 | 6=>lg
 | 7=>cl
 | 8=>.int .i64 (a:Int)
 | 9=>.int .u64 x
 | 10=>ptrOf cl a
 | 11=>.int .u64 (IntKind.u64.wrap (o+1))
 | 12=>.int .u64 (IntKind.u64.wrap (c3+1))
 | 13=>.int .i64 (cells.length:Int)
 | 14=>.int .i64 ((n:Int)+1)
 | 15=>.int .u64 v
 | 16=>.int .u64 u
 | _=>.int .i64 0
theorem casYesCutL (o c1 c2 c3 c4 c5:Int) (lg cl:Value) (a n:Nat) (x v u:Int) (cells:List Int) (hl:Ev.leafV lg=true) (hc:Ev.leafV cl=true) (hn:n≤256) (ha:a < cells.length) (hx:cells[a]=x) (ha2:(a:Int)≤9223372036854775807) (hcut:n=256) (hy:x=u) : ∀ j9,Ev.leafV (casYesCutV o c1 c2 c3 c4 c5 lg cl a n x v u cells hl hc hn ha hx ha2 hcut hy j9)=true:=by
 intro j9
 unfold casYesCutV
 split <;> first | rfl | assumption | exact ptr_leaf _ _
def casYesCutB:List Ev.BFact:=[(.geq,sy 8,.int .i64 0,.bool true),(.lss,sy 8,sy 13,.bool true),(.add,sy 0,.int .u64 1,sy 11),(.add,sy 3,.int .u64 1,sy 12),(.gtr,sy 14,.int .i64 256,.bool true),(.neq,sy 9,sy 16,.bool false)]
theorem casYesCutBok (o c1 c2 c3 c4 c5:Int) (lg cl:Value) (a n:Nat) (x v u:Int) (cells:List Int) (hl:Ev.leafV lg=true) (hc:Ev.leafV cl=true) (hn:n≤256) (ha:a < cells.length) (hx:cells[a]=x) (ha2:(a:Int)≤9223372036854775807) (hcut:n=256) (hy:x=u) : ∀ q ∈ casYesCutB,Ev.BTrue (casYesCutV o c1 c2 c3 c4 c5 lg cl a n x v u cells hl hc hn ha hx ha2 hcut hy) q:=by
 intro q hq
 simp only [casYesCutB,List.mem_cons,List.not_mem_nil,or_false] at hq
 rcases hq with rfl | rfl | rfl | rfl | rfl | rfl
 ·intro t ox oy; exact Ev.bt_geq (by first | (simp; done) | (simp; omega))
 ·intro t ox oy; exact Ev.bt_lss (by simpa using ha)
 ·intro t ox oy; exact Ev.bt_add rfl
 ·intro t ox oy; exact Ev.bt_add rfl
 ·intro t ox oy; exact Ev.bt_gtr (by first | (simp; done) | (simp; omega))
 ·intro t ox oy; exact Ev.bt_neq (by first | (simp; done) | (simp; omega))
def casYesCutU:List Ev.UFact:=[]
theorem casYesCutUok (o c1 c2 c3 c4 c5:Int) (lg cl:Value) (a n:Nat) (x v u:Int) (cells:List Int) (hl:Ev.leafV lg=true) (hc:Ev.leafV cl=true) (hn:n≤256) (ha:a < cells.length) (hx:cells[a]=x) (ha2:(a:Int)≤9223372036854775807) (hcut:n=256) (hy:x=u) : ∀ q ∈ casYesCutU,Ev.UTrue (casYesCutV o c1 c2 c3 c4 c5 lg cl a n x v u cells hl hc hn ha hx ha2 hcut hy) q:=by
 intro q hq
 cases hq
def casYesCutC:List Ev.CFact:=[]
theorem casYesCutCok (o c1 c2 c3 c4 c5:Int) (lg cl:Value) (a n:Nat) (x v u:Int) (cells:List Int) (hl:Ev.leafV lg=true) (hc:Ev.leafV cl=true) (hn:n≤256) (ha:a < cells.length) (hx:cells[a]=x) (ha2:(a:Int)≤9223372036854775807) (hcut:n=256) (hy:x=u) : ∀ q ∈ casYesCutC,Ev.CTrue (casYesCutV o c1 c2 c3 c4 c5 lg cl a n x v u cells hl hc hn ha hx ha2 hcut hy) q:=by
 intro q hq
 cases hq
def casYesCutK:List Ev.KFact:=[]
@[reducible] def casYesCutN (o c1 c2 c3 c4 c5:Int) (lg cl:Value) (a n:Nat) (x v u:Int) (cells:List Int) (hl:Ev.leafV lg=true) (hc:Ev.leafV cl=true) (hn:n≤256) (ha:a < cells.length) (hx:cells[a]=x) (ha2:(a:Int)≤9223372036854775807) (hcut:n=256) (hy:x=u) : Ev.Kn:={ val:=casYesCutV o c1 c2 c3 c4 c5 lg cl a n x v u cells hl hc hn ha hx ha2 hcut hy,leaf:=casYesCutL o c1 c2 c3 c4 c5 lg cl a n x v u cells hl hc hn ha hx ha2 hcut hy,bs:=casYesCutB,us:=casYesCutU,cs:=casYesCutC,ks:=casYesCutK,hb:=casYesCutBok o c1 c2 c3 c4 c5 lg cl a n x v u cells hl hc hn ha hx ha2 hcut hy,hu:=casYesCutUok o c1 c2 c3 c4 c5 lg cl a n x v u cells hl hc hn ha hx ha2 hcut hy,hc:=casYesCutCok o c1 c2 c3 c4 c5 lg cl a n x v u cells hl hc hn ha hx ha2 hcut hy,gs:=[memP (.st lg) n cl cells,memP (.st lg) n cl (cells.set a v),memP (.dy 423) (n+1) cl (cells.set a v),memP (.dy 427) n cl (cells.set a v)],ops:=[⟨[10,29],[sy 7],none,0,none,sy 13,none⟩,⟨[3,29],[sy 7,sy 8],none,0,none,sy 10,none⟩,⟨[1,30],[sy 10],none,0,none,sy 9,none⟩,⟨[2,30],[sy 10,sy 15],none,0,none,undef,some 1⟩,⟨[11,98,98],[sy 6],some (4,1,[.int .i64 3,sy 8,sy 9,sy 15]),1,some 423,.complex .f32 423 0,some 2⟩,⟨[10,98],[.complex .f32 423 0],none,2,none,sy 14,none⟩,⟨[4,98,1,0,0],[.complex .f32 423 0,.int .i64 1],none,2,some 427,.complex .f32 427 0,some 3⟩],cls:=[] }
theorem casYesCutOK (o c1 c2 c3 c4 c5:Int) (lg cl:Value) (a n:Nat) (x v u:Int) (cells:List Int) (hl:Ev.leafV lg=true) (hc:Ev.leafV cl=true) (hn:n≤256) (ha:a < cells.length) (hx:cells[a]=x) (ha2:(a:Int)≤9223372036854775807) (hcut:n=256) (hy:x=u) : @Ev.CalOK (casYesCutN o c1 c2 c3 c4 c5 lg cl a n x v u cells hl hc hn ha hx ha2 hcut hy).sig Try.prog:=by
 refine Ev.Kn.ok (casYesCutN o c1 c2 c3 c4 c5 lg cl a n x v u cells hl hc hn ha hx ha2 hcut hy) ?_ ?_ ?_
 ·intro q hq
  cases hq
 ·intro q hq
  simp only [casYesCutN,casYesCutK,List.mem_cons,List.not_mem_nil,or_false] at hq
  rcases hq with rfl | rfl | rfl | rfl | rfl | rfl | rfl
  ·exact mem_len rfl rfl rfl
  ·exact mem_index rfl rfl rfl rfl ha
  ·exact mem_load rfl rfl ha (by show Value.int .u64 x=_; rw [hx])
  ·exact mem_store rfl rfl rfl ha rfl
  ·exact mem_note rfl rfl rfl hn rfl
  ·exact mem_logLen rfl rfl
  ·exact mem_cut rfl rfl
 ·intro q hq
  cases hq
theorem casYesCutR (o c1 c2 c3 c4 c5:Int) (lg cl:Value) (a n:Nat) (x v u:Int) (cells:List Int) (hl:Ev.leafV lg=true) (hc:Ev.leafV cl=true) (hn:n≤256) (ha:a < cells.length) (hx:cells[a]=x) (ha2:(a:Int)≤9223372036854775807) (hcut:n=256) (hy:x=u) : Ev.withB Try.prog (fun B=>Ev.outIs (.bool true) [(4,[sy 11,sy 1,sy 2,sy 12,sy 4,sy 5,.complex .f32 427 0,sy 7],102)] (some 3) (@Ev.fcallF (casYesCutN o c1 c2 c3 c4 c5 lg cl a n x v u cells hl hc hn ha hx ha2 hcut hy).sig B (@Ev.fev (casYesCutN o c1 c2 c3 c4 c5 lg cl a n x v u cells hl hc hn ha hx ha2 hcut hy).sig B 200) 114 [.pointer (some ⟨4,0,none⟩),sy 8,sy 16,sy 15] (Ev.stOf [(4,.cells ([sy 0,sy 1,sy 2,sy 3,sy 4,sy 5,sy 6,sy 7] : List Value).toArray 102 (0,0)),(3,Ev.gobj 0)] 100)))=true:=by kernel_rfl
def casNoV (o c1 c2 c3 c4 c5:Int) (lg cl:Value) (a n:Nat) (x v u:Int) (cells:List Int) (hl:Ev.leafV lg=true) (hc:Ev.leafV cl=true) (hn:n≤256) (ha:a < cells.length) (hx:cells[a]=x) (ha2:(a:Int)≤9223372036854775807) (hcut:n < 256) (hy:x ≠ u) : Nat→Value
 | 0=>.int .u64 o
 | 1=>.int .u64 c1
 | 2=>.int .u64 c2
 | 3=>.int .u64 c3
 | 4=>.int .u64 c4
 | 5=>.int .u64 c5
 | 6=>lg
 | 7=>cl
 | 8=>.int .i64 (a:Int)
 | 9=>.int .u64 x
 | 10=>ptrOf cl a
 | 11=>.int .u64 (IntKind.u64.wrap (o+1))
 | 12=>.int .u64 (IntKind.u64.wrap (c4+1))
 | 13=>.int .i64 (cells.length:Int)
 | 14=>.int .i64 ((n:Int)+1)
 | 15=>.int .u64 v
 | 16=>.int .u64 u
 | _=>.int .i64 0
theorem casNoL (o c1 c2 c3 c4 c5:Int) (lg cl:Value) (a n:Nat) (x v u:Int) (cells:List Int) (hl:Ev.leafV lg=true) (hc:Ev.leafV cl=true) (hn:n≤256) (ha:a < cells.length) (hx:cells[a]=x) (ha2:(a:Int)≤9223372036854775807) (hcut:n < 256) (hy:x ≠ u) : ∀ j9,Ev.leafV (casNoV o c1 c2 c3 c4 c5 lg cl a n x v u cells hl hc hn ha hx ha2 hcut hy j9)=true:=by
 intro j9
 unfold casNoV
 split <;> first | rfl | assumption | exact ptr_leaf _ _
def casNoB:List Ev.BFact:=[(.geq,sy 8,.int .i64 0,.bool true),(.lss,sy 8,sy 13,.bool true),(.add,sy 0,.int .u64 1,sy 11),(.add,sy 4,.int .u64 1,sy 12),(.gtr,sy 14,.int .i64 256,.bool false),(.neq,sy 9,sy 16,.bool true)]
theorem casNoBok (o c1 c2 c3 c4 c5:Int) (lg cl:Value) (a n:Nat) (x v u:Int) (cells:List Int) (hl:Ev.leafV lg=true) (hc:Ev.leafV cl=true) (hn:n≤256) (ha:a < cells.length) (hx:cells[a]=x) (ha2:(a:Int)≤9223372036854775807) (hcut:n < 256) (hy:x ≠ u) : ∀ q ∈ casNoB,Ev.BTrue (casNoV o c1 c2 c3 c4 c5 lg cl a n x v u cells hl hc hn ha hx ha2 hcut hy) q:=by
 intro q hq
 simp only [casNoB,List.mem_cons,List.not_mem_nil,or_false] at hq
 rcases hq with rfl | rfl | rfl | rfl | rfl | rfl
 ·intro t ox oy; exact Ev.bt_geq (by first | (simp; done) | (simp; omega))
 ·intro t ox oy; exact Ev.bt_lss (by simpa using ha)
 ·intro t ox oy; exact Ev.bt_add rfl
 ·intro t ox oy; exact Ev.bt_add rfl
 ·intro t ox oy; exact Ev.bt_gtr (by first | (simp; done) | (simp; omega))
 ·intro t ox oy; exact Ev.bt_neq (by first | (simp; done) | (simp; omega))
def casNoU:List Ev.UFact:=[]
theorem casNoUok (o c1 c2 c3 c4 c5:Int) (lg cl:Value) (a n:Nat) (x v u:Int) (cells:List Int) (hl:Ev.leafV lg=true) (hc:Ev.leafV cl=true) (hn:n≤256) (ha:a < cells.length) (hx:cells[a]=x) (ha2:(a:Int)≤9223372036854775807) (hcut:n < 256) (hy:x ≠ u) : ∀ q ∈ casNoU,Ev.UTrue (casNoV o c1 c2 c3 c4 c5 lg cl a n x v u cells hl hc hn ha hx ha2 hcut hy) q:=by
 intro q hq
 cases hq
def casNoC:List Ev.CFact:=[]
theorem casNoCok (o c1 c2 c3 c4 c5:Int) (lg cl:Value) (a n:Nat) (x v u:Int) (cells:List Int) (hl:Ev.leafV lg=true) (hc:Ev.leafV cl=true) (hn:n≤256) (ha:a < cells.length) (hx:cells[a]=x) (ha2:(a:Int)≤9223372036854775807) (hcut:n < 256) (hy:x ≠ u) : ∀ q ∈ casNoC,Ev.CTrue (casNoV o c1 c2 c3 c4 c5 lg cl a n x v u cells hl hc hn ha hx ha2 hcut hy) q:=by
 intro q hq
 cases hq
def casNoK:List Ev.KFact:=[]
@[reducible] def casNoN (o c1 c2 c3 c4 c5:Int) (lg cl:Value) (a n:Nat) (x v u:Int) (cells:List Int) (hl:Ev.leafV lg=true) (hc:Ev.leafV cl=true) (hn:n≤256) (ha:a < cells.length) (hx:cells[a]=x) (ha2:(a:Int)≤9223372036854775807) (hcut:n < 256) (hy:x ≠ u) : Ev.Kn:={ val:=casNoV o c1 c2 c3 c4 c5 lg cl a n x v u cells hl hc hn ha hx ha2 hcut hy,leaf:=casNoL o c1 c2 c3 c4 c5 lg cl a n x v u cells hl hc hn ha hx ha2 hcut hy,bs:=casNoB,us:=casNoU,cs:=casNoC,ks:=casNoK,hb:=casNoBok o c1 c2 c3 c4 c5 lg cl a n x v u cells hl hc hn ha hx ha2 hcut hy,hu:=casNoUok o c1 c2 c3 c4 c5 lg cl a n x v u cells hl hc hn ha hx ha2 hcut hy,hc:=casNoCok o c1 c2 c3 c4 c5 lg cl a n x v u cells hl hc hn ha hx ha2 hcut hy,gs:=[memP (.st lg) n cl cells,memP (.st lg) n cl (cells.set a x),memP (.dy 423) (n+1) cl (cells.set a x)],ops:=[⟨[10,29],[sy 7],none,0,none,sy 13,none⟩,⟨[3,29],[sy 7,sy 8],none,0,none,sy 10,none⟩,⟨[1,30],[sy 10],none,0,none,sy 9,none⟩,⟨[2,30],[sy 10,sy 9],none,0,none,undef,some 1⟩,⟨[11,98,98],[sy 6],some (4,1,[.int .i64 3,sy 8,sy 9,sy 9]),1,some 423,.complex .f32 423 0,some 2⟩,⟨[10,98],[.complex .f32 423 0],none,2,none,sy 14,none⟩],cls:=[] }
theorem casNoOK (o c1 c2 c3 c4 c5:Int) (lg cl:Value) (a n:Nat) (x v u:Int) (cells:List Int) (hl:Ev.leafV lg=true) (hc:Ev.leafV cl=true) (hn:n≤256) (ha:a < cells.length) (hx:cells[a]=x) (ha2:(a:Int)≤9223372036854775807) (hcut:n < 256) (hy:x ≠ u) : @Ev.CalOK (casNoN o c1 c2 c3 c4 c5 lg cl a n x v u cells hl hc hn ha hx ha2 hcut hy).sig Try.prog:=by
 refine Ev.Kn.ok (casNoN o c1 c2 c3 c4 c5 lg cl a n x v u cells hl hc hn ha hx ha2 hcut hy) ?_ ?_ ?_
 ·intro q hq
  cases hq
 ·intro q hq
  simp only [casNoN,casNoK,List.mem_cons,List.not_mem_nil,or_false] at hq
  rcases hq with rfl | rfl | rfl | rfl | rfl | rfl
  ·exact mem_len rfl rfl rfl
  ·exact mem_index rfl rfl rfl rfl ha
  ·exact mem_load rfl rfl ha (by show Value.int .u64 x=_; rw [hx])
  ·exact mem_store rfl rfl rfl ha rfl
  ·exact mem_note rfl rfl rfl hn rfl
  ·exact mem_logLen rfl rfl
 ·intro q hq
  cases hq
theorem casNoR (o c1 c2 c3 c4 c5:Int) (lg cl:Value) (a n:Nat) (x v u:Int) (cells:List Int) (hl:Ev.leafV lg=true) (hc:Ev.leafV cl=true) (hn:n≤256) (ha:a < cells.length) (hx:cells[a]=x) (ha2:(a:Int)≤9223372036854775807) (hcut:n < 256) (hy:x ≠ u) : Ev.withB Try.prog (fun B=>Ev.outIs (.bool false) [(4,[sy 11,sy 1,sy 2,sy 3,sy 12,sy 5,.complex .f32 423 0,sy 7],102)] (some 2) (@Ev.fcallF (casNoN o c1 c2 c3 c4 c5 lg cl a n x v u cells hl hc hn ha hx ha2 hcut hy).sig B (@Ev.fev (casNoN o c1 c2 c3 c4 c5 lg cl a n x v u cells hl hc hn ha hx ha2 hcut hy).sig B 200) 114 [.pointer (some ⟨4,0,none⟩),sy 8,sy 16,sy 15] (Ev.stOf [(4,.cells ([sy 0,sy 1,sy 2,sy 3,sy 4,sy 5,sy 6,sy 7] : List Value).toArray 102 (0,0)),(3,Ev.gobj 0)] 100)))=true:=by kernel_rfl
def casNoCutV (o c1 c2 c3 c4 c5:Int) (lg cl:Value) (a n:Nat) (x v u:Int) (cells:List Int) (hl:Ev.leafV lg=true) (hc:Ev.leafV cl=true) (hn:n≤256) (ha:a < cells.length) (hx:cells[a]=x) (ha2:(a:Int)≤9223372036854775807) (hcut:n=256) (hy:x ≠ u) : Nat→Value
 | 0=>.int .u64 o
 | 1=>.int .u64 c1
 | 2=>.int .u64 c2
 | 3=>.int .u64 c3
 | 4=>.int .u64 c4
 | 5=>.int .u64 c5
 | 6=>lg
 | 7=>cl
 | 8=>.int .i64 (a:Int)
 | 9=>.int .u64 x
 | 10=>ptrOf cl a
 | 11=>.int .u64 (IntKind.u64.wrap (o+1))
 | 12=>.int .u64 (IntKind.u64.wrap (c4+1))
 | 13=>.int .i64 (cells.length:Int)
 | 14=>.int .i64 ((n:Int)+1)
 | 15=>.int .u64 v
 | 16=>.int .u64 u
 | _=>.int .i64 0
theorem casNoCutL (o c1 c2 c3 c4 c5:Int) (lg cl:Value) (a n:Nat) (x v u:Int) (cells:List Int) (hl:Ev.leafV lg=true) (hc:Ev.leafV cl=true) (hn:n≤256) (ha:a < cells.length) (hx:cells[a]=x) (ha2:(a:Int)≤9223372036854775807) (hcut:n=256) (hy:x ≠ u) : ∀ j9,Ev.leafV (casNoCutV o c1 c2 c3 c4 c5 lg cl a n x v u cells hl hc hn ha hx ha2 hcut hy j9)=true:=by
 intro j9
 unfold casNoCutV
 split <;> first | rfl | assumption | exact ptr_leaf _ _
def casNoCutB:List Ev.BFact:=[(.geq,sy 8,.int .i64 0,.bool true),(.lss,sy 8,sy 13,.bool true),(.add,sy 0,.int .u64 1,sy 11),(.add,sy 4,.int .u64 1,sy 12),(.gtr,sy 14,.int .i64 256,.bool true),(.neq,sy 9,sy 16,.bool true)]
theorem casNoCutBok (o c1 c2 c3 c4 c5:Int) (lg cl:Value) (a n:Nat) (x v u:Int) (cells:List Int) (hl:Ev.leafV lg=true) (hc:Ev.leafV cl=true) (hn:n≤256) (ha:a < cells.length) (hx:cells[a]=x) (ha2:(a:Int)≤9223372036854775807) (hcut:n=256) (hy:x ≠ u) : ∀ q ∈ casNoCutB,Ev.BTrue (casNoCutV o c1 c2 c3 c4 c5 lg cl a n x v u cells hl hc hn ha hx ha2 hcut hy) q:=by
 intro q hq
 simp only [casNoCutB,List.mem_cons,List.not_mem_nil,or_false] at hq
 rcases hq with rfl | rfl | rfl | rfl | rfl | rfl
 ·intro t ox oy; exact Ev.bt_geq (by first | (simp; done) | (simp; omega))
 ·intro t ox oy; exact Ev.bt_lss (by simpa using ha)
 ·intro t ox oy; exact Ev.bt_add rfl
 ·intro t ox oy; exact Ev.bt_add rfl
 ·intro t ox oy; exact Ev.bt_gtr (by first | (simp; done) | (simp; omega))
 ·intro t ox oy; exact Ev.bt_neq (by first | (simp; done) | (simp; omega))
def casNoCutU:List Ev.UFact:=[]
theorem casNoCutUok (o c1 c2 c3 c4 c5:Int) (lg cl:Value) (a n:Nat) (x v u:Int) (cells:List Int) (hl:Ev.leafV lg=true) (hc:Ev.leafV cl=true) (hn:n≤256) (ha:a < cells.length) (hx:cells[a]=x) (ha2:(a:Int)≤9223372036854775807) (hcut:n=256) (hy:x ≠ u) : ∀ q ∈ casNoCutU,Ev.UTrue (casNoCutV o c1 c2 c3 c4 c5 lg cl a n x v u cells hl hc hn ha hx ha2 hcut hy) q:=by
 intro q hq
 cases hq
def casNoCutC:List Ev.CFact:=[]
theorem casNoCutCok (o c1 c2 c3 c4 c5:Int) (lg cl:Value) (a n:Nat) (x v u:Int) (cells:List Int) (hl:Ev.leafV lg=true) (hc:Ev.leafV cl=true) (hn:n≤256) (ha:a < cells.length) (hx:cells[a]=x) (ha2:(a:Int)≤9223372036854775807) (hcut:n=256) (hy:x ≠ u) : ∀ q ∈ casNoCutC,Ev.CTrue (casNoCutV o c1 c2 c3 c4 c5 lg cl a n x v u cells hl hc hn ha hx ha2 hcut hy) q:=by
 intro q hq
 cases hq
def casNoCutK:List Ev.KFact:=[]
@[reducible] def casNoCutN (o c1 c2 c3 c4 c5:Int) (lg cl:Value) (a n:Nat) (x v u:Int) (cells:List Int) (hl:Ev.leafV lg=true) (hc:Ev.leafV cl=true) (hn:n≤256) (ha:a < cells.length) (hx:cells[a]=x) (ha2:(a:Int)≤9223372036854775807) (hcut:n=256) (hy:x ≠ u) : Ev.Kn:={ val:=casNoCutV o c1 c2 c3 c4 c5 lg cl a n x v u cells hl hc hn ha hx ha2 hcut hy,leaf:=casNoCutL o c1 c2 c3 c4 c5 lg cl a n x v u cells hl hc hn ha hx ha2 hcut hy,bs:=casNoCutB,us:=casNoCutU,cs:=casNoCutC,ks:=casNoCutK,hb:=casNoCutBok o c1 c2 c3 c4 c5 lg cl a n x v u cells hl hc hn ha hx ha2 hcut hy,hu:=casNoCutUok o c1 c2 c3 c4 c5 lg cl a n x v u cells hl hc hn ha hx ha2 hcut hy,hc:=casNoCutCok o c1 c2 c3 c4 c5 lg cl a n x v u cells hl hc hn ha hx ha2 hcut hy,gs:=[memP (.st lg) n cl cells,memP (.st lg) n cl (cells.set a x),memP (.dy 423) (n+1) cl (cells.set a x),memP (.dy 427) n cl (cells.set a x)],ops:=[⟨[10,29],[sy 7],none,0,none,sy 13,none⟩,⟨[3,29],[sy 7,sy 8],none,0,none,sy 10,none⟩,⟨[1,30],[sy 10],none,0,none,sy 9,none⟩,⟨[2,30],[sy 10,sy 9],none,0,none,undef,some 1⟩,⟨[11,98,98],[sy 6],some (4,1,[.int .i64 3,sy 8,sy 9,sy 9]),1,some 423,.complex .f32 423 0,some 2⟩,⟨[10,98],[.complex .f32 423 0],none,2,none,sy 14,none⟩,⟨[4,98,1,0,0],[.complex .f32 423 0,.int .i64 1],none,2,some 427,.complex .f32 427 0,some 3⟩],cls:=[] }
theorem casNoCutOK (o c1 c2 c3 c4 c5:Int) (lg cl:Value) (a n:Nat) (x v u:Int) (cells:List Int) (hl:Ev.leafV lg=true) (hc:Ev.leafV cl=true) (hn:n≤256) (ha:a < cells.length) (hx:cells[a]=x) (ha2:(a:Int)≤9223372036854775807) (hcut:n=256) (hy:x ≠ u) : @Ev.CalOK (casNoCutN o c1 c2 c3 c4 c5 lg cl a n x v u cells hl hc hn ha hx ha2 hcut hy).sig Try.prog:=by
 refine Ev.Kn.ok (casNoCutN o c1 c2 c3 c4 c5 lg cl a n x v u cells hl hc hn ha hx ha2 hcut hy) ?_ ?_ ?_
 ·intro q hq
  cases hq
 ·intro q hq
  simp only [casNoCutN,casNoCutK,List.mem_cons,List.not_mem_nil,or_false] at hq
  rcases hq with rfl | rfl | rfl | rfl | rfl | rfl | rfl
  ·exact mem_len rfl rfl rfl
  ·exact mem_index rfl rfl rfl rfl ha
  ·exact mem_load rfl rfl ha (by show Value.int .u64 x=_; rw [hx])
  ·exact mem_store rfl rfl rfl ha rfl
  ·exact mem_note rfl rfl rfl hn rfl
  ·exact mem_logLen rfl rfl
  ·exact mem_cut rfl rfl
 ·intro q hq
  cases hq
theorem casNoCutR (o c1 c2 c3 c4 c5:Int) (lg cl:Value) (a n:Nat) (x v u:Int) (cells:List Int) (hl:Ev.leafV lg=true) (hc:Ev.leafV cl=true) (hn:n≤256) (ha:a < cells.length) (hx:cells[a]=x) (ha2:(a:Int)≤9223372036854775807) (hcut:n=256) (hy:x ≠ u) : Ev.withB Try.prog (fun B=>Ev.outIs (.bool false) [(4,[sy 11,sy 1,sy 2,sy 3,sy 12,sy 5,.complex .f32 427 0,sy 7],102)] (some 3) (@Ev.fcallF (casNoCutN o c1 c2 c3 c4 c5 lg cl a n x v u cells hl hc hn ha hx ha2 hcut hy).sig B (@Ev.fev (casNoCutN o c1 c2 c3 c4 c5 lg cl a n x v u cells hl hc hn ha hx ha2 hcut hy).sig B 200) 114 [.pointer (some ⟨4,0,none⟩),sy 8,sy 16,sy 15] (Ev.stOf [(4,.cells ([sy 0,sy 1,sy 2,sy 3,sy 4,sy 5,sy 6,sy 7] : List Value).toArray 102 (0,0)),(3,Ev.gobj 0)] 100)))=true:=by kernel_rfl
end Go.Proofs.Ytbcnbofkgkheeaa
namespace Go.Proofs.Ytbcnbofkgkheeaa
open Go.RowKit
open Go.Ev (sy)
set_option linter.unusedVariables false
set_option linter.unusedSimpArgs false
structure MemM where
 cells:List Int
 ops:Int
def MemAt (bm:Nat) (m:MemM) (F:Nat→Prop) (w:World) : Prop :=
 ∃ (c1 c2 c3 c4 c5:Int) (lg cl:Value) (n:Nat) (G:Nat→Prop),n≤256∧w.heap[bm]? = some (.cells #[.int .u64 m.ops,.int .u64 c1,.int .u64 c2,.int .u64 c3,.int .u64 c4,.int .u64 c5,lg,cl] 102 (0,0)) ∧
  memR (.st lg) n cl m.cells (fun _=>none) G w∧¬ G bm∧∀ j,F j↔j=bm∨G j
def Grow (F F':Nat→Prop) (w w':World) : Prop:=Ev.Turn F w w'∧∀ j,F' j→j < w'.heap.size∧(F j∨w.heap.size≤j)
theorem memR_st {lg:Value} {n:Nat} {cl:Value} {cells:List Int} {ι κ:Ev.Ren} {F:Nat→Prop} {w:World} (h:memR (.st lg) n cl cells ι F w) : memR (.st lg) n cl cells κ F w:=h
theorem memR_lt {lg:LV} {n:Nat} {cl:Value} {cells:List Int} {ι:Ev.Ren} {F:Nat→Prop} {w:World} (h:memR lg n cl cells ι F w) : ∀ j,F j→j < w.heap.size:=by
 obtain ⟨v,xl,Fl,Fc,h1,h2,h3,h4,h5⟩:=h
 intro j hj
 rcases (h5 j).1 hj with hj | hj
 ·exact h2.lt j hj
 ·exact h3.lt j hj
theorem memR_leaf {lg:Value} {n:Nat} {cl:Value} {cells:List Int} {ι:Ev.Ren} {F:Nat→Prop} {w:World} (h:memR (.st lg) n cl cells ι F w) : Ev.leafV lg=true∧Ev.leafV cl=true:=by
 obtain ⟨v,xl,Fl,Fc,h1,h2,h3,h4,h5⟩:=h
 have h1':v=lg:=h1
 subst h1'
 exact ⟨h2.leaf,h3.leaf⟩
theorem memR_dy {d:Nat} {n:Nat} {cl:Value} {cells:List Int} {κ:Ev.Ren} {F:Nat→Prop} {w:World} (h:memR (.dy d) n cl cells κ F w) : memR (.st (Ev.dec ((κ d).getD 0))) n cl cells (fun _=>none) F w:=by
 obtain ⟨v,xl,Fl,Fc,⟨c,e1,e2⟩,h2,h3,h4,h5⟩:=h
 refine ⟨v,xl,Fl,Fc,?_,h2,h3,h4,h5⟩
 show v=_
 rw [e1,← e2]
 rfl
section
variable [Ev.Sig]
theorem lrel_nil {ι:Ev.Ren} : Ev.LRel ι [] []:=⟨rfl,fun i v v' h=>by simp at h⟩
theorem lrel_cons {ι:Ev.Ren} {x x':Value} {l l':List Value} (h:Ev.VRel ι x x') (k:Ev.LRel ι l l') : Ev.LRel ι (x::l) (x'::l'):=by
 refine ⟨by simp [k.1],fun i v v' h1 h2=>?_⟩
 match i with
 | 0=>simp at h1 h2; subst h1 h2; exact h
 | i+1=>exact k.2 i v v' (by simpa using h1) (by simpa using h2)
theorem arel_of {ι:Ev.Ren} {l l':List Value} (h:Ev.LRel ι l l') : Ev.ARel ι l.toArray l'.toArray:=⟨by simp [h.1],fun i v v' h1 h2=>h.2 i v v' (by simpa using h1) (by simpa using h2)⟩
theorem syms (ι:Ev.Ren) (ms:List Nat) : Ev.LRel ι (ms.map sy) (ms.map Ev.Sig.val):=by
 induction ms with
 | nil=>exact lrel_nil
 | cons m ms ih=>exact lrel_cons (.sym m 0 _ rfl) ih
end
theorem memAt_lt {bm:Nat} {m:MemM} {F:Nat→Prop} {w:World} (h:MemAt bm m F w) : ∀ j,F j→j < w.heap.size:=by
 obtain ⟨c1,c2,c3,c4,c5,lg,cl,n,G,h1,h2,h3,h4,h5⟩:=h
 intro j hj
 rcases (h5 j).1 hj with rfl | hj
 ·exact (Array.getElem?_eq_some_iff.1 h2).1
 ·exact memR_lt h3 j hj
theorem memAt_keep {bm:Nat} {m:MemM} {F:Nat→Prop} {w w':World} (h:MemAt bm m F w) (hk:∀ j,F j→w'.heap[j]? = w.heap[j]?) : MemAt bm m F w':=by
 obtain ⟨c1,c2,c3,c4,c5,lg,cl,n,G,h1,h2,h3,h4,h5⟩:=h
 exact ⟨c1,c2,c3,c4,c5,lg,cl,n,G,h1,by rw [hk bm ((h5 bm).2 (.inl rfl))]; exact h2,(memP (.st lg) n cl m.cells).keep _ _ _ _ (fun j hj=>hk j ((h5 j).2 (.inr hj))) h3,h4,h5⟩
theorem memAt_of {bm:Nat} {m m':MemM} {F G F1:Nat→Prop} {w w1:World} {c1 c2 c3 c4 c5:Int} {cl:Value} {n d:Nat} {κ:Ev.Ren} (hF:∀ j,F j↔j=bm∨G j) (hG:∀ j,G j→j < w.heap.size) (hn:n≤256)
  (hb:w1.heap[bm]? = some (.cells #[.int .u64 m'.ops,.int .u64 c1,.int .u64 c2,.int .u64 c3,.int .u64 c4,.int .u64 c5,Ev.dec ((κ d).getD 0),cl] 102 (0,0))) (h:memR (.dy d) n cl m'.cells κ F1 w1) (hF1b:¬ F1 bm)
  (hF1:∀ j,F1 j→j < w1.heap.size∧(G j∨w.heap.size≤j)) (ht:Ev.Turn (fun j=>j=bm∨G j) w w1) (hbm:bm < w.heap.size) : ∃ F',MemAt bm m' F' w1∧Grow F F' w w1:=by
 refine ⟨fun j=>j=bm∨F1 j,⟨c1,c2,c3,c4,c5,_,cl,n,F1,hn,hb,memR_dy h,hF1b,fun j=>Iff.rfl⟩,⟨ht.os,ht.tape,ht.output,ht.size,fun k hk hnf=>ht.block k hk (fun hh=>hnf ((hF k).2 hh))⟩,fun j hj=>?_⟩
 rcases hj with rfl | hj
 ·exact ⟨Nat.lt_of_lt_of_le hbm ht.size,.inl ((hF j).2 (.inl rfl))⟩
 ·exact ⟨(hF1 j hj).1,(hF1 j hj).2.imp (fun h=>(hF j).2 (.inr h)) id⟩
end Go.Proofs.Ytbcnbofkgkheeaa
