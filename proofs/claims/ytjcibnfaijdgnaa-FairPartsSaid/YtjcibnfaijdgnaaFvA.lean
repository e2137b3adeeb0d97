/- The fast evaluator, part one: what the kernel runs quickly. -/
import Derived.Test.YtjcibnfaijdgnaaEvX
namespace Go.Ev
open Go.RowKit
set_option linter.unusedVariables false
set_option linter.unusedSimpArgs false
set_option linter.unusedSectionVars false
variable [Sig]

/-- Temporaries, by the digits of their numbers. -/
inductive TV where
  | leaf
  | node (v : Value) (l r : TV)

noncomputable def TV.get (t : TV) : Nat → Value :=
  @TV.rec (fun _ => Nat → Value) (fun _ => undef)
    (fun v _ _ gl gr n => @Bool.rec (fun _ => Value) (@Bool.rec (fun _ => Value) (gr (Nat.sub (Nat.div n 2) 1)) (gl (Nat.div n 2)) (Nat.beq (Nat.mod n 2) 1)) v (Nat.beq n 0)) t

noncomputable def TV.setK {β : Type} (d : Nat) : TV → Nat → Value → (TV → β) → β :=
  @Nat.rec (fun _ => TV → Nat → Value → (TV → β) → β) (fun t _ _ k => k t)
    (fun _ ih t n x k => @TV.rec (fun _ => β)
      (@Bool.rec (fun _ => β)
        (@Bool.rec (fun _ => β) (ih .leaf (Nat.sub (Nat.div n 2) 1) x (fun r => k (.node undef .leaf r))) (ih .leaf (Nat.div n 2) x (fun l => k (.node undef l .leaf))) (Nat.beq (Nat.mod n 2) 1))
        (k (.node x .leaf .leaf)) (Nat.beq n 0))
      (fun v l r _ _ => @Bool.rec (fun _ => β)
        (@Bool.rec (fun _ => β) (ih r (Nat.sub (Nat.div n 2) 1) x (fun r' => k (.node v l r'))) (ih l (Nat.div n 2) x (fun l' => k (.node v l' r))) (Nat.beq (Nat.mod n 2) 1))
        (k (.node x l r)) (Nat.beq n 0)) t) d

noncomputable def frcN {β : Type} (n : Nat) (k : Nat → β) : β := @Nat.rec (fun _ => β) (k 0) (fun m _ => k (Nat.succ m)) n
noncomputable def frcI {β : Type} (i : Int) (k : Int → β) : β := @Int.rec (fun _ => β) (fun n => frcN n (fun n => k (.ofNat n))) (fun n => frcN n (fun n => k (.negSucc n))) i
noncomputable def frcA {β : Type} (a : Option Addr) (k : Option Addr → β) : β :=
  match a with
  | none => k none
  | some ⟨b, off, sp⟩ => frcN b (fun b => frcN off (fun off => k (some ⟨b, off, sp⟩)))
/-- A value, brought to its head. -/
noncomputable def frcV {β : Type} (v : Value) (k : Value → β) : β :=
  match v with
  | .pointer a => frcA a (fun a => k (.pointer a))
  | .slice a n c => frcA a (fun a => frcN n (fun n => frcN c (fun c => k (.slice a n c))))
  | v => k v

noncomputable def Tr.gt (d : Nat) : Tr → Nat → Option Obj :=
  @Nat.rec (fun _ => Tr → Nat → Option Obj) (fun _ _ => none)
    (fun _ ih t n => @Tr.rec (fun _ => Option Obj) none (fun v l r _ _ => @Bool.rec (fun _ => Option Obj) (@Bool.rec (fun _ => Option Obj) (ih r (Nat.div n 2)) (ih l (Nat.div n 2)) (Nat.beq (Nat.mod n 2) 0)) v (Nat.beq n 0)) t) d
noncomputable def Tr.stK {β : Type} (d : Nat) : Tr → Nat → Option Obj → (Tr → β) → β :=
  @Nat.rec (fun _ => Tr → Nat → Option Obj → (Tr → β) → β) (fun t _ _ k => k t)
    (fun _ ih t n x k => @Tr.rec (fun _ => β)
      (@Bool.rec (fun _ => β)
        (@Bool.rec (fun _ => β) (ih .leaf (Nat.div n 2) x (fun r => k (.node none .leaf r))) (ih .leaf (Nat.div n 2) x (fun l => k (.node none l .leaf))) (Nat.beq (Nat.mod n 2) 0))
        (k (.node x .leaf .leaf)) (Nat.beq n 0))
      (fun v l r _ _ => @Bool.rec (fun _ => β)
        (@Bool.rec (fun _ => β) (ih r (Nat.div n 2) x (fun r' => k (.node v l r'))) (ih l (Nat.div n 2) x (fun l' => k (.node v l' r))) (Nat.beq (Nat.mod n 2) 0))
        (k (.node x l r)) (Nat.beq n 0)) t) d

noncomputable def lget (l : List Value) : Nat → Option Value :=
  @List.rec Value (fun _ => Nat → Option Value) (fun _ => none) (fun v _ ih n => @Nat.rec (fun _ => Option Value) (some v) (fun m _ => ih m) n) l
noncomputable def lsetK {β : Type} (l : List Value) (x : Value) : Nat → (List Value → β) → β :=
  @List.rec Value (fun _ => Nat → (List Value → β) → β) (fun _ k => k []) (fun v l ih n k => @Nat.rec (fun _ => β) (k (x :: l)) (fun m _ => ih m (fun l' => k (v :: l'))) n) l

noncomputable def ikn : IntKind → Nat
  | .i8 => 0 | .i16 => 1 | .i32 => 2 | .i64 => 3 | .u8 => 4 | .u16 => 5 | .u32 => 6 | .u64 => 7
/-- A number brought into its kind. -/
noncomputable def fwrap (k : IntKind) (n : Int) : Int :=
  match k, n with
  | .i64, .ofNat m => @Bool.rec (fun _ => Int) (IntKind.i64.wrap (.ofNat m)) (.ofNat m) (Nat.ble m 9223372036854775807)
  | .i64, .negSucc m => @Bool.rec (fun _ => Int) (IntKind.i64.wrap (.negSucc m)) (.negSucc m) (Nat.ble m 9223372036854775807)
  | .u64, .ofNat m => .ofNat (Nat.mod m 18446744073709551616)
  | .u32, .ofNat m => .ofNat (Nat.mod m 4294967296)
  | .u8, .ofNat m => .ofNat (Nat.mod m 256)
  | k, n => k.wrap n
noncomputable def ible : Int → Int → Bool
  | .ofNat a, .ofNat b => Nat.ble a b
  | .ofNat _, .negSucc _ => false
  | .negSucc _, .ofNat _ => true
  | .negSucc a, .negSucc b => Nat.ble b a
noncomputable def ibeq : Int → Int → Bool
  | .ofNat a, .ofNat b => Nat.beq a b
  | .ofNat _, .negSucc _ => false
  | .negSucc _, .ofNat _ => false
  | .negSucc a, .negSucc b => Nat.beq a b
noncomputable def fint (op : BinOp) (k : IntKind) (a b : Int) : Option Value :=
  match op with
  | .add => frcI (fwrap k (Int.add a b)) (fun n => some (.int k n))
  | .sub => frcI (fwrap k (Int.sub a b)) (fun n => some (.int k n))
  | .mul => frcI (fwrap k (Int.mul a b)) (fun n => some (.int k n))
  | .eql => @Bool.rec (fun _ => Option Value) (some (.bool false)) (some (.bool true)) (ibeq a b)
  | .neq => @Bool.rec (fun _ => Option Value) (some (.bool true)) (some (.bool false)) (ibeq a b)
  | .lss => @Bool.rec (fun _ => Option Value) (some (.bool true)) (some (.bool false)) (ible b a)
  | .leq => @Bool.rec (fun _ => Option Value) (some (.bool false)) (some (.bool true)) (ible a b)
  | .gtr => @Bool.rec (fun _ => Option Value) (some (.bool true)) (some (.bool false)) (ible a b)
  | .geq => @Bool.rec (fun _ => Option Value) (some (.bool false)) (some (.bool true)) (ible b a)
  | _ => none
noncomputable def fbin (op : BinOp) (x y : Value) : Option Value :=
  match x, y with
  | .int k a, .int k' b => @Bool.rec (fun _ => Option Value) none (fint op k a b) (Nat.beq (ikn k) (ikn k'))
  | _, _ => none

noncomputable def feval (t : TV) (x : Operand) : Value :=
  @Operand.rec (fun _ => Value) (fun i => t.get i) (fun v => v) (fun g => .pointer (some ⟨g, 0, none⟩)) (fun f => .func (.func f) #[] #[]) x

/-- Rows, by the digits of their places. -/
inductive Tri (α : Type) where
  | leaf
  | node (v : Option α) (l r : Tri α)
noncomputable def Tri.get {α : Type} (t : Tri α) : Nat → Option α :=
  @Tri.rec α (fun _ => Nat → Option α) (fun _ => none)
    (fun v _ _ gl gr n => @Bool.rec (fun _ => Option α) (@Bool.rec (fun _ => Option α) (gr (Nat.sub (Nat.div n 2) 1)) (gl (Nat.div n 2)) (Nat.beq (Nat.mod n 2) 1)) v (Nat.beq n 0)) t
noncomputable def Tri.setK {α β : Type} (d : Nat) : Tri α → Nat → α → (Tri α → β) → β :=
  @Nat.rec (fun _ => Tri α → Nat → α → (Tri α → β) → β) (fun t _ _ k => k t)
    (fun _ ih t n x k => @Tri.rec α (fun _ => β)
      (@Bool.rec (fun _ => β)
        (@Bool.rec (fun _ => β) (ih .leaf (Nat.sub (Nat.div n 2) 1) x (fun r => k (.node none .leaf r))) (ih .leaf (Nat.div n 2) x (fun l => k (.node none l .leaf))) (Nat.beq (Nat.mod n 2) 1))
        (k (.node (some x) .leaf .leaf)) (Nat.beq n 0))
      (fun v l r _ _ => @Bool.rec (fun _ => β)
        (@Bool.rec (fun _ => β) (ih r (Nat.sub (Nat.div n 2) 1) x (fun r' => k (.node v l r'))) (ih l (Nat.div n 2) x (fun l' => k (.node v l' r))) (Nat.beq (Nat.mod n 2) 1))
        (k (.node (some x) l r)) (Nat.beq n 0)) t) d
noncomputable def Tri.ofK {α β : Type} (l : List α) : Nat → Tri α → (Tri α → β) → β :=
  @List.rec α (fun _ => Nat → Tri α → (Tri α → β) → β) (fun _ t k => k t) (fun v _ ih i t k => Tri.setK 16 t i v (fun t1 => ih (Nat.succ i) t1 k)) l

/-- A program, its types and its functions by digits. -/
structure Base where
  P : Program
  T : Tri TypeInfo
  F : Tri Func

noncomputable def tund (B : Base) (t : TypeId) : Option TypeDesc :=
  match B.T.get t with
  | some i =>
    match i.desc with
    | .named _ u => (match B.T.get u with | some j => some j.desc | none => none)
    | d => some d
  | none => none
/-- A type of one cell. -/
noncomputable def scalarT (B : Base) (t : TypeId) : Bool :=
  match tund B t with
  | some (.struct _) => false
  | some (.array _ _) => false
  | some _ => true
  | none => false
/-- Where a field is. -/
noncomputable def foff (B : Base) (t : TypeId) (f : Nat) : Option Nat :=
  match tund B t with
  | some (.struct fields) =>
    match fields[f]? with
    | some fd => (match B.T.get fd.type with | some i => @Bool.rec (fun _ => Option Nat) (some fd.offset) none (Nat.beq i.size 0) | none => none)
    | none => none
  | _ => none
noncomputable def oneT (B : Base) (t : TypeId) : Bool :=
  match B.T.get t with
  | some i => Nat.beq i.size 1
  | none => false
noncomputable def ptrT (B : Base) (t : TypeId) : Bool :=
  match tund B t with
  | some (.pointer _) => true
  | _ => false
/-- The cells of a type's zero. -/
noncomputable def zeroT (B : Base) (t : TypeId) : Option (Array Value) :=
  match B.T.get t with
  | some i => (match i.zero with | some z => @Bool.rec (fun _ => Option (Array Value)) none (some z.cells) (flatN 6 z) | none => none)
  | none => none
/-- The size of a slice type's elements. -/
noncomputable def elemZ (B : Base) (t : TypeId) : Option Nat :=
  match tund B t with
  | some (.slice e) => (match B.T.get e with | some i => some i.size | none => none)
  | _ => none
noncomputable def intT (B : Base) (t : TypeId) : Option IntKind :=
  match tund B t with
  | some (.int k) => some k
  | _ => none
noncomputable def lenT (B : Base) (t : TypeId) : Nat :=
  match tund B t with
  | some (.slice _) => 1
  | some .string => 2
  | _ => 0
noncomputable def fnF (B : Base) (f : FuncId) : Bool :=
  match B.F.get f with
  | some fn => fn.name != "runtime.NumGoroutine" && fn.body.isSome
  | none => false

noncomputable def fnew (c : Array Value) (e : TypeId) (s : St) : Option (Next × St) :=
  match s with
  | ⟨h, nx, lg⟩ => @Bool.rec (fun _ => Option (Next × St)) none (Tr.stK deep h (Nat.mul 4 nx) (some (.cells c e (0, 0))) (fun h' => some (.value (.pointer (some ⟨Nat.mul 4 nx, 0, none⟩)), ⟨h', Nat.succ nx, ⟨Nat.mul 4 nx, none, true⟩ :: lg⟩))) (Nat.blt (Nat.mul 4 nx) lim)
noncomputable def falloc (B : Base) (t : TypeId) (s : St) : Option (Next × St) :=
  match zeroT B t with
  | some c => fnew c t s
  | none => none
noncomputable def fbox (t : TypeId) (v : Value) (s : St) : Option (Next × St) := fnew v.cells t s
noncomputable def flen (B : Base) (t : TypeId) (x : Value) (s : St) : Option (Next × St) :=
  match x with
  | .slice _ n _ => @Bool.rec (fun _ => Option (Next × St)) none (some (.value (.int .i64 (.ofNat n)), s)) (Nat.beq (lenT B t) 1)
  | .string b => @Bool.rec (fun _ => Option (Next × St)) none (some (.value (.int .i64 (.ofNat b.size)), s)) (Nat.beq (lenT B t) 2)
  | _ => none
noncomputable def findex (B : Base) (t : TypeId) (x i : Value) (s : St) : Option (Next × St) :=
  match x, i with
  | .slice (some ⟨b, off, none⟩) n _, .int _ (.ofNat i) => (match elemZ B t with | some z => @Bool.rec (fun _ => Option (Next × St)) none (some (.value (.pointer (some ⟨b, Nat.add off (Nat.mul i z), none⟩)), s)) (Nat.blt i n) | none => none)
  | _, _ => none
noncomputable def fconv (B : Base) (t u : TypeId) (x : Value) (s : St) : Option (Next × St) :=
  match x with
  | .int _ n => (match intT B t, intT B u with | some _, some k => frcI (fwrap k n) (fun n => some (.value (.int k n), s)) | _, _ => none)
  | _ => none
noncomputable def fnilq (B : Base) (op : BinOp) (t : TypeId) (x y : Value) (s : St) : Option (Next × St) :=
  match x, y with
  | .pointer (some _), .pointer none => @Bool.rec (fun _ => Option (Next × St)) none (match op with | .eql => some (.value (.bool false), s) | .neq => some (.value (.bool true), s) | _ => none) (ptrT B t)
  | .pointer none, .pointer none => @Bool.rec (fun _ => Option (Next × St)) none (match op with | .eql => some (.value (.bool true), s) | .neq => some (.value (.bool false), s) | _ => none) (ptrT B t)
  | _, _ => none

noncomputable def fload (B : Base) (ty : TypeId) (x : Value) (s : St) : Option (Next × St) :=
  match x, s with
  | .pointer (some ⟨b, off, none⟩), ⟨h, nx, lg⟩ =>
    @Bool.rec (fun _ => Option (Next × St)) none
      (match Tr.gt deep h b with
        | some (.cells c _ _) => (match lget c.toList off with | some v => some (.value v, ⟨h, nx, ⟨b, some off, false⟩ :: lg⟩) | none => none)
        | _ => none) (scalarT B ty)
  | _, _ => none
noncomputable def fstore (B : Base) (ty : TypeId) (x v : Value) (s : St) : Option (Next × St) :=
  match x, s with
  | .pointer (some ⟨b, off, none⟩), ⟨h, nx, lg⟩ =>
    @Bool.rec (fun _ => Option (Next × St)) none
      (match Tr.gt deep h b with
        | some (.cells c e (0, 0)) => @Bool.rec (fun _ => Option (Next × St)) none (lsetK c.toList v off (fun l => Tr.stK deep h b (some (.cells ⟨l⟩ e (0, 0))) (fun h' => some (.skip, ⟨h', nx, ⟨b, some off, true⟩ :: lg⟩)))) (Nat.blt off c.toList.length && Nat.blt b lim)
        | _ => none) (oneCell v && oneT B ty)
  | _, _ => none
noncomputable def ffield (B : Base) (ty : TypeId) (x : Value) (f : Nat) (s : St) : Option (Next × St) :=
  match x with
  | .pointer (some ⟨b, off, none⟩) => (match foff B ty f with | some d => some (.value (.pointer (some ⟨b, Nat.add off d, none⟩)), s) | none => none)
  | _ => none
noncomputable def fnil (x : Value) (s : St) : Option (Next × St) :=
  match x with
  | .pointer (some _) => some (.value x, s)
  | .func (.func _) _ _ => some (.value x, s)
  | .iface _ _ => some (.value x, s)
  | _ => none
noncomputable def fpick (c x y : Value) (s : St) : Option (Next × St) :=
  match c with
  | .bool b => some (.value (@Bool.rec (fun _ => Value) y x b), s)
  | _ => none
noncomputable def fextract (x : Value) (i : Nat) (s : St) : Option (Next × St) :=
  match x with
  | .tuple vs => (match lget vs.toList i with | some v => some (.value v, s) | none => none)
  | _ => none
noncomputable def fnot (op : UnOp) (x : Value) (s : St) : Option (Next × St) :=
  match op, x with
  | .not, .bool b => @Bool.rec (fun _ => Option (Next × St)) (some (.value (.bool true), s)) (some (.value (.bool false), s)) b
  | _, _ => none

noncomputable def fargs (t : TV) (xs : List Operand) : List Value := @List.rec Operand (fun _ => List Value) [] (fun x _ ih => feval t x :: ih) xs

/-! ### One operation, by what its operands are -/
noncomputable def rFlat (P : Program) (ρ : Operand → Value) (o : Oper) (s : St) : Option (Next × St) :=
  if flatOp o.op && o.op.operands.toList.all (fun x => opdOk x && flatN 5 (ρ x)) then
    match qrun P (execOp ρ o) with
    | some (.value v) => if flatN 5 v then some (.value v, s) else none
    | _ => none
  else none
noncomputable def rCall (P : Program) (ρ : Operand → Value) (c : Call) (ty : TypeId) (s : St) : Option (Next × St) :=
  if allOk c.operands.toList then
    match c.callee with
    | .value f =>
      match ρ f with
      | .func (.func g) first captured => if fnOk P g then some (.enter g ((first ++ c.args.map ρ) ++ captured), s) else none
      | .func (.yield l) first captured => if first.isEmpty && captured.isEmpty then arun P (Instr.yield l (c.args.map ρ)) s else none
      | _ => none
    | .invoke r name =>
      match ρ r with
      | .iface t v => (match aMethod P t v name with | some f => if fnOk P f then some (.enter f (#[v] ++ c.args.map ρ), s) else none | none => none)
      | _ => none
    | .builtin b =>
      match b, c.args.toList, c.argTypes.toList with
      | .len, [x], [t] => sv (arun P (Builtin.len_ #[t] ty #[ρ x]) s)
      | .cap, [x], [t] => if capOk (ρ x) then sv (arun P (Builtin.cap_ #[t] ty #[ρ x]) s) else none
      | .append, [x, y], [t, u] => if inRoom P u (ρ x) (ρ y) then sv (arun P (Builtin.append_ #[t, u] ty #[ρ x, ρ y]) s) else sv (aAppend P s t u (ρ x) (ρ y))
      | .copy, [x, y], [t, u] => sv (arun P (Builtin.copy_ #[t, u] ty #[ρ x, ρ y]) s)
      | .delete, [x, y], [t, u] => (aDelete P s t (ρ x) (ρ y)).map fun s1 => (.value (.tuple #[]), s1)
      | _, _, _ => none
  else none
noncomputable def rexec (P : Program) (ρ : Operand → Value) (o : Oper) (s : St) : Option (Next × St) :=
  match o.op with
  | .move x | .assign x => if opdOk x then some (.value (ρ x), s) else none
  | .pick c x y =>
    if allOk [c, x, y] then
      match ρ c with
      | .bool b => some (.value (if b then ρ x else ρ y), s)
      | _ => none
    else none
  | .alloc t => if zOk P t then sv (arun P (Instr.alloc t true (.tuple #[])) s) else none
  | .box t x => if opdOk x then sv (arun P (Instr.box t (ρ x)) s) else none
  | .build t ps => if zOk P t && allOk (ps.toList.map (·.2)) then sv (arun P (Instr.build t (ps.map fun (i, x) => (i, ρ x))) s) else none
  | .buildSlice t n ps => if zOk P (elemT P t) && zPos P (elemT P t) && allOk (ps.toList.map (·.2)) then sv (arun P (Instr.buildSlice t n (ps.map fun (i, x) => (i, ρ x))) s) else none
  | .load t x => if opdOk x then sv (arun P (Instr.loadAt t (ρ x)) s) else none
  | .store t x y => if allOk [x, y] then su (arun P (Instr.storeAt t (ρ x) (ρ y)) s) else none
  | .nilCheck x =>
    if opdOk x then
      match ρ x with
      | .pointer (some b) => some (.value (ρ x), s)
      | .func (.func _) _ _ => some (.value (ρ x), s)
      | .iface _ _ => some (.value (ρ x), s)
      | _ => none
    else none
  | .binOp op t x y _ =>
    match rFlat P ρ o s with
    | some r => some r
    | none => if allOk [x, y] then (if aNilEq P t (ρ x) (ρ y) then (match op with | .eql => some (.value (.bool false), s) | .neq => some (.value (.bool true), s) | _ => none) else sBin op (ρ x) (ρ y) s) else none
  | .unOp op _ x =>
    match rFlat P ρ o s with
    | some r => some r
    | none => if opdOk x then sUna op (ρ x) s else none
  | .convert t u x =>
    match rFlat P ρ o s with
    | some r => some r
    | none => if opdOk x then sCnv P t u (ρ x) s else none
  | .makeInterface t x => if opdOk x then sv (arun P (Instr.makeInterface t (ρ x)) s) else none
  | .makeFunc (.func f) first captured => if allOk first.toList && allOk captured.toList then some (.value (.func (.func f) (first.map ρ) (captured.map ρ)), s) else none
  | .makeMap t none => sv (arun P (Instr.makeMap t none) s)
  | .makeMap t (some x) => if opdOk x then sv (arun P (Instr.makeMap t (some (ρ x))) s) else none
  | .makeSlice t l c => if zOk P (elemT P t) && zPos P (elemT P t) && allOk [l, c] then sv (arun P (Instr.makeSlice t (ρ l) (ρ c)) s) else none
  | .slice t x lo hi mx =>
    if slOk P t && opdOk x && allOk lo.toList && allOk hi.toList && allOk mx.toList && mxOk (ρ x) (mx.map ρ) then
      match arun P (Instr.sliceAt t (ρ x) (lo.map ρ) (hi.map ρ) (mx.map ρ)) s with
      | some (v, s1) => if resOk v then some (.value v, s1) else none
      | none => none
    else none
  | .fieldAddr t x f => if opdOk x && fldOk P t f then sv (arun P (Instr.fieldAt t (ρ x) f) s) else none
  | .field t x f => if opdOk x then sv (arun P (Instr.field t (ρ x) f) s) else none
  | .indexAddr t x i => if allOk [x, i] then sv (arun P (Instr.indexAt t (ρ x) (ρ i)) s) else none
  | .index t x i => if allOk [x, i] then sv (arun P (Instr.index t (ρ x) (ρ i)) s) else none
  | .lookup t m k ok => if allOk [m, k] then sv (aLookup P s t (ρ m) (ρ k) ok) else none
  | .mapUpdate t m k v => if allOk [m, k, v] then (aUpdate P s t (ρ m) (ρ k) (ρ v)).map fun s1 => (.skip, s1) else none
  | .insert t m k v => if allOk [m, k, v] then (aUpdate P s t (ρ m) (ρ k) (ρ v)).map fun s1 => (.skip, s1) else none
  | .mapEntry t m k => if allOk [m, k] then sv (aEntry P s t (ρ m) (ρ k)) else none
  | .entryStore _ m st v => if allOk [m, st, v] then (aStamp s (ρ m) (ρ st) (ρ v)).map fun s1 => (.skip, s1) else none
  | .range t x => if opdOk x then sv (arun P (Instr.range t (ρ x)) s) else none
  | .next x str => if opdOk x then sv (arun P (Instr.next (ρ x) str o.type) s) else none
  | .entry x => if opdOk x then sv (arun P (Instr.entry (ρ x)) s) else none
  | .typeAssert x t u ok => if opdOk x && (!ok || zOk P u) then sv (arun P (Instr.typeAssert (ρ x) t u ok) s) else none
  | .extract x i => if opdOk x then sv (arun P (Instr.extract (ρ x) i) s) else none
  | .call c => (match rFlat P ρ o s with | some r => some r | none => rCall P ρ c o.type s)
  | _ => none

theorem rFlat_eq (P : Program) (a : Act) (o : Oper) (s : St) : rFlat P a.eval o s = aFlat P a o s := rfl
theorem rCall_eq (P : Program) (a : Act) (c : Call) (ty : TypeId) (s : St) : rCall P a.eval c ty s = aCall P a c ty s := rfl
theorem rexec_eq (P : Program) (a : Act) (o : Oper) (s : St) : rexec P a.eval o s = aexec P a o s := rfl

noncomputable def fall (B : Base) (t : TV) (o : Oper) (s : St) : Option (Next × St) := rexec B.P (feval t) o s
noncomputable def orF (r : Option (Next × St)) (f : Option (Next × St)) : Option (Next × St) := @Option.rec (Next × St) (fun _ => Option (Next × St)) f (fun x => some x) r
noncomputable def ifF (c : Bool) (r : Option (Next × St)) : Option (Next × St) := @Bool.rec (fun _ => Option (Next × St)) none r c
noncomputable def fbuiltin (B : Base) (t : TV) (o : Oper) (c : Call) (b : Builtin) (s : St) : Option (Next × St) :=
  match b, c.args.toList, c.argTypes.toList with
  | .len, [x], [ty] => ifF (allOk c.operands.toList) (orF (flen B ty (feval t x) s) (fall B t o s))
  | _, _, _ => fall B t o s
noncomputable def fcallee (B : Base) (t : TV) (o : Oper) (c : Call) (s : St) : Option (Next × St) :=
  match c.callee with
  | .value f =>
    match feval t f with
    | .func (.func g) first captured => ifF (allOk c.operands.toList && fnF B g) (some (.enter g ⟨List.append first.toList (List.append (fargs t c.args.toList) captured.toList)⟩, s))
    | _ => fall B t o s
  | .builtin b => fbuiltin B t o c b s
  | _ => fall B t o s

noncomputable def fexec (B : Base) (t : TV) (o : Oper) (s : St) : Option (Next × St) :=
  match o.op with
  | .move x => ifF (opdOk x) (some (.value (feval t x), s))
  | .assign x => ifF (opdOk x) (some (.value (feval t x), s))
  | .pick c x y => ifF (allOk [c, x, y]) (fpick (feval t c) (feval t x) (feval t y) s)
  | .binOp op ty x y u => ifF (allOk [x, y]) (match fbin op (feval t x) (feval t y) with | some v => some (.value v, s) | none => orF (fnilq B op ty (feval t x) (feval t y) s) (fall B t o s))
  | .unOp op ty x => ifF (opdOk x) (orF (fnot op (feval t x) s) (fall B t o s))
  | .convert a u x => ifF (opdOk x) (orF (fconv B a u (feval t x) s) (fall B t o s))
  | .alloc ty => orF (falloc B ty s) (fall B t o s)
  | .box ty x => ifF (opdOk x) (orF (fbox ty (feval t x) s) (fall B t o s))
  | .load ty x => ifF (opdOk x) (orF (fload B ty (feval t x) s) (fall B t o s))
  | .store ty x y => ifF (allOk [x, y]) (orF (fstore B ty (feval t x) (feval t y) s) (fall B t o s))
  | .fieldAddr ty x f => ifF (opdOk x) (orF (ffield B ty (feval t x) f s) (fall B t o s))
  | .indexAddr ty x i => ifF (allOk [x, i]) (orF (findex B ty (feval t x) (feval t i) s) (fall B t o s))
  | .nilCheck x => ifF (opdOk x) (fnil (feval t x) s)
  | .extract x i => ifF (opdOk x) (orF (fextract (feval t x) i s) (fall B t o s))
  | .call c => fcallee B t o c s
  | _ => fall B t o s

/-- What code comes to: how it was left, the temporaries, the marks, the memory. -/
abbrev FRes := Exit × TV × List Deferred × St
abbrev FRun := Option Nat → Nat → Code → TV → List Deferred → St → Option FRes
abbrev FCaller := Cal → St → Option (Value × St)

noncomputable def fput {β : Type} (n : Nat) (t : TV) (d : Option Tmp) (v : Value) (k : TV → β) : β :=
  match d with
  | none => k t
  | some d => @Bool.rec (fun _ => β) (k t) (frcV v (fun v => TV.setK 12 t d v k)) (Nat.blt d n)

noncomputable def fstep {β : Type} (B : Base) (call : FCaller) (n : Nat) (t : TV) (o : Oper) (s : St) (k : TV → St → Option β) : Option β :=
  match Sig.gop o.op (fargs t o.op.operands.toList) with
  | some q => @Bool.rec (fun _ => Option β) none (match agopsV q (fargs t o.op.operands.toList) s with | some (v, s1) => fput n t o.dst v (fun t1 => k t1 s1) | none => none) (allOk o.op.operands.toList)
  | none =>
  match fexec B t o s with
  | some (.value v, s1) => fput n t o.dst v (fun t1 => k t1 s1)
  | some (.skip, s1) => fput n t o.dst undef (fun t1 => k t1 s1)
  | some (.enter f args, s1) => (match call (.fn f args) s1 with | some (v, s2) => fput n t o.dst v (fun t1 => k t1 s2) | none => none)
  | some (.round l _ tmps assign body, s1) => (match call (.rnd l tmps assign body) s1 with | some (v, s2) => fput n t o.dst v (fun t1 => k t1 s2) | none => none)
  | _ => none

noncomputable def fyield (ops : Array Oper) (t : TV) (j : Nat) : Option Bool :=
  match (ops[j]?).bind (·.dst) with
  | some d => (match t.get d with | .bool b => some b | _ => none)
  | none => none
noncomputable def fwant (ops : Array Oper) (t : TV) (o : Oper) : Bool :=
  match o.guard with
  | none => true
  | some (j, want) =>
    match fyield ops t j, want with
    | some true, true => true
    | some false, false => true
    | _, _ => false

noncomputable def flist (B : Base) (call : FCaller) (n : Nat) (ops : Array Oper) (d : List Deferred) (l : List Oper) : TV → St → Option FRes :=
  @List.rec Oper (fun _ => TV → St → Option FRes) (fun t s => some (.normal, t, d, s))
    (fun o _ ih t s => @Bool.rec (fun _ => Option FRes) (fput n t o.dst undef (fun t1 => ih t1 s)) (fstep B call n t o s (fun t1 s1 => ih t1 s1)) (fwant ops t o)) l

noncomputable def flogs (B : Base) (call : FCaller) (n : Nat) (ops : Array Oper) (d : List Deferred) (l : List Oper) : TV → St → List (List Touch) → Option FRes :=
  @List.rec Oper (fun _ => TV → St → List (List Touch) → Option FRes)
    (fun t s ls => @Bool.rec (fun _ => Option FRes) none (some (.normal, t, d, s)) (guardsOk ops && noClash (Region.before ops) ls (ops.size - 1)))
    (fun o _ ih t s ls => @Bool.rec (fun _ => Option FRes) (fput n t o.dst undef (fun t1 => ih t1 s ([] :: ls)))
      (@St.rec (fun _ => Option FRes) (fun h nx lg => fstep B call n t o ⟨h, nx, []⟩ (fun t1 s1 => @St.rec (fun _ => Option FRes) (fun h1 nx1 lg1 => ih t1 ⟨h1, nx1, List.append lg1 lg⟩ (lg1 :: ls)) s1)) s) (fwant ops t o)) l

noncomputable def fseq (r : Option FRes) (k : TV → List Deferred → St → Option FRes) : Option FRes :=
  match r with
  | some (.normal, t, d, s) => k t d s
  | some (e, t, d, s) => some (e, t, d, s)
  | none => none
noncomputable def fblock (id : Nat) (r : Option FRes) : Option FRes :=
  match r with
  | some (.exit i, t, d, s) => @Bool.rec (fun _ => Option FRes) (some (.exit i, t, d, s)) (some (.normal, t, d, s)) (Nat.beq i id)
  | some (e, t, d, s) => some (e, t, d, s)
  | none => none
noncomputable def fscopeJ (r : Option FRes) : Option FRes :=
  match r with
  | some (.goto _, _, _, _) => none
  | some (e, t, d, s) => some (e, t, d, s)
  | none => none
noncomputable def fscope (run : Code → TV → List Deferred → St → Option FRes) (body : Code) (r : Option FRes) : Option FRes :=
  match r with
  | some (.goto l, t, d, s) => (match findLabel body l with | some rest => fscopeJ (run rest t d s) | none => none)
  | some (e, t, d, s) => some (e, t, d, s)
  | none => none
noncomputable def fcond (v : Value) (x y : Option FRes) : Option FRes :=
  match v with
  | .bool b => @Bool.rec (fun _ => Option FRes) y x b
  | _ => none

noncomputable def fromK {β : Type} (l : List Value) : Nat → TV → (TV → β) → β :=
  @List.rec Value (fun _ => Nat → TV → (TV → β) → β) (fun _ t k => k t) (fun v _ ih i t k => TV.setK 12 t i v (fun t1 => ih (Nat.succ i) t1 k)) l

/-- All temporaries, as a row. -/
noncomputable def TV.lst (t : TV) (k : Nat) : Nat → List Value := @Nat.rec (fun _ => Nat → List Value) (fun _ => []) (fun _ ih i => t.get i :: ih (Nat.succ i)) k
noncomputable def TV.lstK {β : Type} (t : TV) (k : Nat) : Nat → (List Value → β) → β := @Nat.rec (fun _ => Nat → (List Value → β) → β) (fun _ f => f []) (fun _ ih i f => frcV (t.get i) (fun v => ih (Nat.succ i) (fun l => f (v :: l)))) k
noncomputable def TV.act (t : TV) (n : Nat) : Act := ⟨⟨t.lst n 0⟩, []⟩
noncomputable def fresS (t : TV) (r : ResultVar) (ih : Option (List Value)) : Option (List Value) :=
  match r, ih with
  | .tmp i, some l => some (t.get i :: l)
  | _, _ => none
noncomputable def fresL (t : TV) (l : List ResultVar) : Option (List Value) := @List.rec ResultVar (fun _ => Option (List Value)) (some []) (fun r _ ih => fresS t r ih) l
noncomputable def fres (P : Program) (fn : Func) (t : TV) (s : St) : Option (Value × St) :=
  match fn.results.toList with
  | [.tmp i] => some (t.get i, s)
  | [] => some (.tuple #[], s)
  | a :: b :: l => (match fresL t (a :: b :: l) with | some vs => some (.tuple ⟨vs⟩, s) | none => arun P (results fn (t.act fn.ntmps).tmps) s)
  | _ => arun P (results fn (t.act fn.ntmps).tmps) s
noncomputable def fend (P : Program) (fn : Func) (t : TV) (d : List Deferred) (s : St) : Option (Value × St) :=
  match amarks P d s with
  | some (_, s1) => fres P fn t s1
  | none => none
noncomputable def fret (P : Program) (fn : Func) (r : Option FRes) : Option (Value × St) :=
  match r with
  | some (.ret, t, d, s) => fend P fn t d s
  | some (.normal, t, d, s) => fend P fn t d s
  | _ => none
noncomputable def fcallF (B : Base) (run : FRun) (f : FuncId) (args : List Value) (s : St) : Option (Value × St) :=
  match Sig.cal f args with
  | some r => some (r, s)
  | none =>
  match Sig.gcal f args with
  | some q => agop q s
  | none =>
  match B.F.get f with
  | some fn =>
    match fn.body with
    | some body => @Bool.rec (fun _ => Option (Value × St)) none (fromK args 0 .leaf (fun t => fret B.P fn (run none fn.ntmps body t [] s))) (Nat.ble args.length fn.ntmps && Nat.ble fn.ntmps 4094)
    | none => none
  | none => none
noncomputable def frend (P : Program) (l : Nat) (r : Option FRes) : Option (Value × St) :=
  match r with
  | some (e, _, _, s) => aend P l e s
  | none => none
noncomputable def frnd (B : Base) (run : FRun) (l n : Nat) (body : Code) (r : Option FRes) : Option (Value × St) :=
  match r with
  | some (.normal, t, d, s) =>
    match arun B.P (Instr.beginRound l) s with
    | some (_, s1) => frend B.P l (run (some l) n body t d s1)
    | none => none
  | _ => none
noncomputable def fcallR (B : Base) (run : FRun) (l : Nat) (tmps : List Value) (assign body : Code) (s : St) : Option (Value × St) :=
  frcN tmps.length (fun n => @Bool.rec (fun _ => Option (Value × St)) none (fromK tmps 0 .leaf (fun t => frnd B run l n body (run (some l) n assign t [] s))) (Nat.ble n 4094))
noncomputable def fcall (B : Base) (run : FRun) (c : Cal) (s : St) : Option (Value × St) :=
  match c with
  | .fn f args => fcallF B run f args.toList s
  | .rnd l tmps assign body => fcallR B run l tmps.toList assign body s

noncomputable def floopCall (B : Base) (t : TV) (g : Operand) (l : Nat) : Option (FuncId × List Value) :=
  match feval t g with
  | .func (.func f) first captured => @Bool.rec (fun _ => Option (FuncId × List Value)) none (some (f, List.append first.toList (.func (.yield l) #[] #[] :: captured.toList))) (opdOk g && fnF B f)
  | _ => none
noncomputable def fjump (run : FRun) (rd : Option Nat) (n : Nat) (j : Option Code) (t : TV) (d : List Deferred) (s : St) : Option FRes :=
  match j with
  | none => some (.normal, t, d, s)
  | some c => run rd n c t d s
noncomputable def frangeE (B : Base) (run : FRun) (rd : Option Nat) (n l : Nat) (t : TV) (d : List Deferred) (r : Option (Value × St)) : Option FRes :=
  match r with
  | some (_, s2) =>
    match arun B.P (Instr.endLoop l) s2 with
    | some (j, s3) => @Bool.rec (fun _ => Option FRes) none (fjump run rd n j t d s3) (jumpOk j)
    | none => none
  | none => none
noncomputable def frange (B : Base) (run : FRun) (rd : Option Nat) (n : Nat) (g : Operand) (ps : Array Tmp) (assign body : Code) (t : TV) (d : List Deferred) (s : St) : Option FRes :=
  t.lstK n 0 (fun L =>
  match arun B.P (Instr.enterLoop 0 ⟨L⟩ ps assign body rd) s with
  | some ((l, mark), s1) =>
    match floopCall B t g l with
    | some (f, args) => frangeE B run rd n l t (List.append mark d) (fcallF B run f args s1)
    | none => none
  | none => none)

noncomputable def fcode (B : Base) (run : FRun) (rd : Option Nat) (n : Nat) (c : Code) (t : TV) (d : List Deferred) (s : St) : Option FRes :=
  match c with
  | .skip => some (.normal, t, d, s)
  | .label _ => some (.normal, t, d, s)
  | .ret => some (.ret, t, d, s)
  | .exit id => some (.exit id, t, d, s)
  | .goto l => some (.goto l, t, d, s)
  | .seq x y => fseq (run rd n x t d s) (fun t1 d1 s1 => run rd n y t1 d1 s1)
  | .cond c x y => @Bool.rec (fun _ => Option FRes) none (fcond (feval t c) (run rd n x t d s) (run rd n y t d s)) (opdOk c)
  | .block id body => fblock id (run rd n body t d s)
  | .loop body => fseq (run rd n body t d s) (fun t1 d1 s1 => run rd n (.loop body) t1 d1 s1)
  | .scope body => (match rd with | none => fscope (run none n) body (run none n body t d s) | some _ => none)
  | .rangeFunc g ps assign body => frange B run rd n g ps assign body t d s
  | .region _ ops draw => @Bool.rec (fun _ => Option FRes) (flist B (fcall B run) n ops d ops.toList t s) (flogs B (fcall B run) n ops d ops.toList t s []) draw
  | _ => none

noncomputable def frcL {α β : Type} (l : List α) : (List α → β) → β :=
  @List.rec α (fun _ => (List α → β) → β) (fun k => k []) (fun v _ ih k => ih (fun l => k (v :: l))) l
/-- A program whose rows are plain lists, and by digits. -/
noncomputable def withB {β : Type} (P : Program) (k : Base → β) : β :=
  match P with
  | ⟨⟨a1, a2, a3, a4, types, a6, a7, a8, a9, a10, a11⟩, funcs⟩ => frcL types.toList (fun L => frcL funcs.toList (fun M => Tri.ofK L 0 .leaf (fun T => Tri.ofK M 0 .leaf (fun F => k ⟨⟨⟨a1, a2, a3, a4, ⟨L⟩, a6, a7, a8, a9, a10, a11⟩, ⟨M⟩⟩, T, F⟩))))

noncomputable def fev (B : Base) (fuel : Nat) : FRun :=
  @Nat.rec (fun _ => FRun) (fun _ _ _ _ _ _ => none) (fun _ ih rd n c t d s => fcode B ih rd n c t d s) fuel
end Go.Ev
