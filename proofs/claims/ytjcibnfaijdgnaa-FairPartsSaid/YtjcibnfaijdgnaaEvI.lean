/- The evaluator, part nine: one operation, whole. -/
import Derived.Test.YtjcibnfaijdgnaaEvH
import Derived.Orders
namespace Go.Ev
open Go.RowKit
set_option linter.unusedVariables false
set_option linter.unusedSimpArgs false
set_option linter.unusedSectionVars false
variable [Sig]

/-- Something against nil. -/
def aNilEq (P : Program) (t : TypeId) (x y : Value) : Bool :=
  match P.underlying t, x, y with
  | some (.pointer _), .pointer (some _), .pointer none => true
  | some (.pointer _), .pointer none, .pointer (some _) => true
  | some (.interface _), .iface _ _, .nilIface => true
  | some (.interface _), .nilIface, .iface _ _ => true
  | some (.slice _), .slice (some _) _ _, .slice none 0 0 => true
  | some (.slice _), .slice none 0 0, .slice (some _) _ _ => true
  | some (.map _ _), .map (some _), .map none => true
  | some (.map _ _), .map none, .map (some _) => true
  | some (.func _ _ _), .func _ _ _, .nilFunc => true
  | some (.func _ _ _), .nilFunc, .func _ _ _ => true
  | _, _, _ => false

theorem aNilEq_rel {P : Program} {ι : Ren} {t : TypeId} {x y x' y' : Value} (hx : VRel ι x x') (hy : VRel ι y y') (h : aNilEq P t x y = true) : aNilEq P t x' y' = true := by
  unfold aNilEq at h ⊢
  split at h
  all_goals first | (cases h; done) | skip
  all_goals (rename_i hu; cases hx <;> cases hy <;> simp [hu])

theorem run_nilEq1 {P : Program} {t : TypeId} {x y : Value} (h : aNilEq P t x y = true) (n : Nat) (w : World) : (Op.equalIn (n + 1) t x y).run P w = .ok false w := by
  unfold aNilEq at h
  split at h
  all_goals first | (cases h; done) | skip
  all_goals
    rename_i hu
    unfold Op.equalIn
    rw [Sem.run_bind, run_underlying' hu]
    rfl
theorem run_nilEq {P : Program} {t : TypeId} {ox oy : Operand} {x y : Value} (h : aNilEq P t x y = true) (w : World) :
    (do eqGuard .eql t ox oy x y; binOp .eql t x y : Sem Value).run P w = .ok (.bool false) w ∧ (do eqGuard .neq t ox oy x y; binOp .neq t x y : Sem Value).run P w = .ok (.bool true) w := by
  have he : (Op.equal t x y).run P w = .ok false w := run_nilEq1 h 9999 w
  have hg : ∀ op, (eqGuard op t ox oy x y).run P w = .ok () w := by
    intro op
    unfold aNilEq at h
    split at h
    all_goals first | (cases h; done) | skip
    all_goals (unfold eqGuard; split <;> rfl)
  constructor
  · rw [Sem.run_bind, hg]
    show (binOp .eql t x y).run P w = _
    have : binOp .eql t x y = (do pure (.bool (← Op.equal t x y)) : Sem Value) := by
      unfold aNilEq at h
      split at h
      all_goals first | (cases h; done) | rfl
    rw [this, Sem.run_bind, he]
    rfl
  · rw [Sem.run_bind, hg]
    show (binOp .neq t x y).run P w = _
    have : binOp .neq t x y = (do pure (.bool (!(← Op.equal t x y))) : Sem Value) := by
      unfold aNilEq at h
      split at h
      all_goals first | (cases h; done) | rfl
    rw [this, Sem.run_bind, he]
    rfl

/-- A method called through an interface: the function, and the receiver. -/
def aMethod (P : Program) (t : TypeId) (v : Value) (name : String) : Option FuncId :=
  match P.info? t with
  | some i =>
    match i.methods.find? (·.name == name) with
    | some m =>
      match m.path.isEmpty, m.func, P.underlying t with
      | true, some (f, true), some (.pointer _) => some f
      | true, some (f, false), some (.pointer _) => none
      | true, some (f, false), some _ => some f
      | _, _, _ => none
    | none => none
  | none => none

theorem run_typeInfo' {P : Program} {t : TypeId} {i : TypeInfo} (h : P.info? t = some i) (w : World) : (Go.typeInfo t).run P w = .ok i w := by
  unfold Go.typeInfo
  show (match P.info? t with | some i => (Pure.pure i : Sem TypeInfo) | none => Go.stuck "no such type").run P w = _
  rw [h]
  rfl

theorem run_method {P : Program} {t : TypeId} {v : Value} {name : String} {f : FuncId} (h : aMethod P t v name = some f) (n : Nat) (w : World) : (Go.method (n + 1) t v name).run P w = .ok (f, v) w := by
  unfold aMethod at h
  split at h
  · rename_i i hi
    split at h
    · rename_i m hm
      unfold Go.method
      rw [Sem.run_bind, run_typeInfo' hi]
      dsimp only [Result.andThen]
      rw [hm]
      dsimp only
      have hp : m.path.isEmpty = true → m.path.toList = [] := by
        intro e
        rw [Array.isEmpty_iff] at e
        rw [e]
      split at h
      · rename_i g e hpe hfn hu
        cases h
        rw [hp hpe, hfn]
        show (do let r ← receiverAt t (.val v) true _; pure (f, r) : Sem _).run P w = _
        unfold receiverAt
        rw [Sem.run_bind, Sem.run_bind, run_underlying' hu]
        rfl
      · cases h
      · rename_i g d hne hpe hfn hu
        cases h
        rw [hp hpe, hfn]
        show (do let r ← receiverAt t (.val v) false _; pure (f, r) : Sem _).run P w = _
        unfold receiverAt
        rw [Sem.run_bind, Sem.run_bind, run_underlying' hu]
        dsimp only [Result.andThen]
        cases d with
        | pointer e => exact (hne e rfl).elim
        | _ => rfl
      · cases h
    · cases h
  · cases h

def allOk (xs : List Operand) : Bool := xs.all opdOk
def flatOp : Op → Bool
  | .binOp _ _ _ _ _ | .unOp _ _ _ | .convert _ _ _ => true
  | .call { callee := .builtin .min, .. } | .call { callee := .builtin .max, .. } => true
  | _ => false
/-- An operation on numbers and texts alone. -/
def aFlat (P : Program) (a : Act) (o : Oper) (s : St) : Option (Next × St) :=
  if flatOp o.op && o.op.operands.toList.all (fun x => opdOk x && flatN 5 (a.eval x)) then
    match qrun P (execOp a.eval o) with
    | some (.value v) => if flatN 5 v then some (.value v, s) else none
    | _ => none
  else none

/-- What is known of symbols. -/
def sBin (op : BinOp) (x y : Value) (s : St) : Option (Next × St) := (Sig.bin op x y).map fun r => (.value r, s)
def sUna (op : UnOp) (x : Value) (s : St) : Option (Next × St) := (Sig.una op x).map fun r => (.value r, s)
theorem sym_eq {ι : Ren} {x x' : Value} (h : VRel ι x x') (hs : symV x = true) : x' = cvV Sig.val x := by
  cases h with
  | sym n m _ hh => exact hh.symm
  | _ => first | rfl | cases hs
theorem sym_rel {ι : Ren} {r : Value} (hs : symV r = true) : VRel ι r (cvV Sig.val r) := by
  cases r with
  | bool b => exact .bool b
  | int k n => exact .int k n
  | float k n => exact .float k n
  | string b => exact .string b
  | complex k n m =>
    cases k with
    | f64 => exact .sym n m _ rfl
    | f32 => cases hs
  | _ => cases hs
def sCnv (P : Program) (t u : TypeId) (x : Value) (s : St) : Option (Next × St) :=
  match P.underlying t, P.underlying u with
  | some (.int _), some (.int k) => (Sig.cnv k x).map fun r => (.value r, s)
  | _, _ => none

def evs (a : Act) (xs : Array Operand) : Array Value := xs.map a.eval
def evp (a : Act) (ps : Array (Nat × Operand)) : Array (Nat × Value) := ps.map fun (i, x) => (i, a.eval x)

def aCall (P : Program) (a : Act) (c : Call) (ty : TypeId) (s : St) : Option (Next × St) :=
  if allOk c.operands.toList then
    match c.callee with
    | .value f =>
      match a.eval f with
      | .func (.func g) first captured => if fnOk P g then some (.enter g ((first ++ evs a c.args) ++ captured), s) else none
      | .func (.yield l) first captured => if first.isEmpty && captured.isEmpty then arun P (Instr.yield l (evs a c.args)) s else none
      | _ => none
    | .invoke r name =>
      match a.eval r with
      | .iface t v => (match aMethod P t v name with | some f => if fnOk P f then some (.enter f (#[v] ++ evs a c.args), s) else none | none => none)
      | _ => none
    | .builtin b =>
      match b, c.args.toList, c.argTypes.toList with
      | .len, [x], [t] => sv (arun P (Builtin.len_ #[t] ty #[a.eval x]) s)
      | .cap, [x], [t] => if capOk (a.eval x) then sv (arun P (Builtin.cap_ #[t] ty #[a.eval x]) s) else none
      | .append, [x, y], [t, u] => if inRoom P u (a.eval x) (a.eval y) then sv (arun P (Builtin.append_ #[t, u] ty #[a.eval x, a.eval y]) s) else sv (aAppend P s t u (a.eval x) (a.eval y))
      | .copy, [x, y], [t, u] => sv (arun P (Builtin.copy_ #[t, u] ty #[a.eval x, a.eval y]) s)
      | .delete, [x, y], [t, u] => (aDelete P s t (a.eval x) (a.eval y)).map fun s1 => (.value (.tuple #[]), s1)
      | _, _, _ => none
  else none

/-- One operation. -/
def aexec (P : Program) (a : Act) (o : Oper) (s : St) : Option (Next × St) :=
  match o.op with
  | .move x | .assign x => if opdOk x then some (.value (a.eval x), s) else none
  | .pick c x y =>
    if allOk [c, x, y] then
      match a.eval c with
      | .bool b => some (.value (if b then a.eval x else a.eval y), s)
      | _ => none
    else none
  | .alloc t => if zOk P t then sv (arun P (Instr.alloc t true (.tuple #[])) s) else none
  | .box t x => if opdOk x then sv (arun P (Instr.box t (a.eval x)) s) else none
  | .build t ps => if zOk P t && allOk (ps.toList.map (·.2)) then sv (arun P (Instr.build t (evp a ps)) s) else none
  | .buildSlice t n ps => if zOk P (elemT P t) && zPos P (elemT P t) && allOk (ps.toList.map (·.2)) then sv (arun P (Instr.buildSlice t n (evp a ps)) s) else none
  | .load t x => if opdOk x then sv (arun P (Instr.loadAt t (a.eval x)) s) else none
  | .store t x y => if allOk [x, y] then su (arun P (Instr.storeAt t (a.eval x) (a.eval y)) s) else none
  | .nilCheck x =>
    if opdOk x then
      match a.eval x with
      | .pointer (some b) => some (.value (a.eval x), s)
      | .func (.func _) _ _ => some (.value (a.eval x), s)
      | .iface _ _ => some (.value (a.eval x), s)
      | _ => none
    else none
  | .binOp op t x y _ =>
    match aFlat P a o s with
    | some r => some r
    | none => if allOk [x, y] then (if aNilEq P t (a.eval x) (a.eval y) then (match op with | .eql => some (.value (.bool false), s) | .neq => some (.value (.bool true), s) | _ => none) else sBin op (a.eval x) (a.eval y) s) else none
  | .unOp op _ x =>
    match aFlat P a o s with
    | some r => some r
    | none => if opdOk x then sUna op (a.eval x) s else none
  | .convert t u x =>
    match aFlat P a o s with
    | some r => some r
    | none => if opdOk x then sCnv P t u (a.eval x) s else none
  | .makeInterface t x => if opdOk x then sv (arun P (Instr.makeInterface t (a.eval x)) s) else none
  | .makeFunc (.func f) first captured => if allOk first.toList && allOk captured.toList then some (.value (.func (.func f) (evs a first) (evs a captured)), s) else none
  | .makeMap t none => sv (arun P (Instr.makeMap t none) s)
  | .makeMap t (some x) => if opdOk x then sv (arun P (Instr.makeMap t (some (a.eval x))) s) else none
  | .makeSlice t l c => if zOk P (elemT P t) && zPos P (elemT P t) && allOk [l, c] then sv (arun P (Instr.makeSlice t (a.eval l) (a.eval c)) s) else none
  | .slice t x lo hi mx =>
    if slOk P t && opdOk x && allOk lo.toList && allOk hi.toList && allOk mx.toList && mxOk (a.eval x) (mx.map a.eval) then
      match arun P (Instr.sliceAt t (a.eval x) (lo.map a.eval) (hi.map a.eval) (mx.map a.eval)) s with
      | some (v, s1) => if resOk v then some (.value v, s1) else none
      | none => none
    else none
  | .fieldAddr t x f => if opdOk x && fldOk P t f then sv (arun P (Instr.fieldAt t (a.eval x) f) s) else none
  | .field t x f => if opdOk x then sv (arun P (Instr.field t (a.eval x) f) s) else none
  | .indexAddr t x i => if allOk [x, i] then sv (arun P (Instr.indexAt t (a.eval x) (a.eval i)) s) else none
  | .index t x i => if allOk [x, i] then sv (arun P (Instr.index t (a.eval x) (a.eval i)) s) else none
  | .lookup t m k ok => if allOk [m, k] then sv (aLookup P s t (a.eval m) (a.eval k) ok) else none
  | .mapUpdate t m k v => if allOk [m, k, v] then (aUpdate P s t (a.eval m) (a.eval k) (a.eval v)).map fun s1 => (.skip, s1) else none
  | .insert t m k v => if allOk [m, k, v] then (aUpdate P s t (a.eval m) (a.eval k) (a.eval v)).map fun s1 => (.skip, s1) else none
  | .mapEntry t m k => if allOk [m, k] then sv (aEntry P s t (a.eval m) (a.eval k)) else none
  | .entryStore _ m st v => if allOk [m, st, v] then (aStamp s (a.eval m) (a.eval st) (a.eval v)).map fun s1 => (.skip, s1) else none
  | .range t x => if opdOk x then sv (arun P (Instr.range t (a.eval x)) s) else none
  | .next x str => if opdOk x then sv (arun P (Instr.next (a.eval x) str o.type) s) else none
  | .entry x => if opdOk x then sv (arun P (Instr.entry (a.eval x)) s) else none
  | .typeAssert x t u ok => if opdOk x && (!ok || zOk P u) then sv (arun P (Instr.typeAssert (a.eval x) t u ok) s) else none
  | .extract x i => if opdOk x then sv (arun P (Instr.extract (a.eval x) i) s) else none
  | .call c => (match aFlat P a o s with | some r => some r | none => aCall P a c o.type s)
  | _ => none
end Go.Ev
