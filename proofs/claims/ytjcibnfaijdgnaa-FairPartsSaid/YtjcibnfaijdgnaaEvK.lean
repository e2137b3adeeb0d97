/- The evaluator, part eleven: code and calls. -/
import Derived.Test.YtjcibnfaijdgnaaEvJ
namespace Go.Ev
open Go.RowKit
set_option linter.unusedVariables false
set_option linter.unusedSimpArgs false
set_option linter.unusedSectionVars false
variable [Sig]

/-- What an operation may ask for: a function's call, or a round of a loop over a function. -/
inductive Cal where
  | fn (f : FuncId) (args : Array Value)
  | rnd (l : Nat) (tmps : Array Value) (assign body : Code)
abbrev Caller := Cal → St → Option (Value × St)
/-- What runs code, in a round or not. -/
abbrev Runner := Option Nat → Code → Act → St → Option (Exit × Act × St)

/-- The state outside, as an object. -/
def gobj (g : Nat) : Obj := .view ⟨g, 0, none⟩ 0
/-- A step that goes by the state outside. -/
def agop (q : GQ) (s : St) : Option (Value × St) :=
  match s.look 3 with
  | some (.view x _) =>
    match q x.block (4 * s.next + 3) with
    | some (r, none) => some (r, s.touch 3 none false)
    | some (r, some g) => some (r, { (s.put 3 (some (gobj g))).touch 3 none true with next := s.next + 1 })
    | none => none
  | _ => none
def gvals (a : Act) (op : Op) : List Value := op.operands.toList.map a.eval
/-- The cells of a slice, or of a text, read. -/
def arsrc (sz : Nat) (x : Value) (s : St) : Option (Array Value × St) :=
  match srcCells s sz x with
  | some (c, l) => some (c, { s with log := l ++ s.log })
  | none => none
def agopsV (q : GReq) (vals : List Value) (s : St) : Option (Value × St) :=
  match q with
  | .now q => agop q s
  | .src sz j q =>
    match vals[j]? with
    | some y => (match arsrc sz y s with | some (c, s1) => agop (q c.toList) s1 | none => none)
    | none => none
def agops (q : GReq) (a : Act) (o : Oper) (s : St) : Option (Value × St) := if allOk o.op.operands.toList then agopsV q (gvals a o.op) s else none

/-- One operation, with the call that it may be. -/
def astep (P : Program) (call : Caller) (a : Act) (o : Oper) (s : St) : Option (Act × St) :=
  match Sig.gop o.op (gvals a o.op) with
  | some q => (match agops q a o s with | some (v, s1) => some (a.put o.dst v, s1) | none => none)
  | none =>
  match aexec P a o s with
  | some (.value v, s1) => some (a.put o.dst v, s1)
  | some (.skip, s1) => some (a.put o.dst undef, s1)
  | some (.enter f args, s1) => (match call (.fn f args) s1 with | some (v, s2) => some (a.put o.dst v, s2) | none => none)
  | some (.round l _ tmps assign body, s1) => (match call (.rnd l tmps assign body) s1 with | some (v, s2) => some (a.put o.dst v, s2) | none => none)
  | _ => none

/-- Operations, one behind the other. -/
def alist (P : Program) (call : Caller) (ops : Array Oper) : List Oper → Act → St → Option (Act × St)
  | [], a, s => some (a, s)
  | o :: rest, a, s =>
    if Region.wanted o (yielded ops a.tmps) then
      match astep P call a o s with
      | some (a1, s1) => alist P call ops rest a1 s1
      | none => none
    else alist P call ops rest (a.put o.dst undef) s

/-- What was touched by each operation, the last one first. -/
def alogs (P : Program) (call : Caller) (ops : Array Oper) : List Oper → Act → St → List (List Touch) → Option (Act × St × List (List Touch))
  | [], a, s, ls => some (a, s, ls)
  | o :: rest, a, s, ls =>
    if Region.wanted o (yielded ops a.tmps) then
      match astep P call a o { s with log := [] } with
      | some (a1, s1) => alogs P call ops rest a1 { s1 with log := s1.log ++ s.log } (s1.log :: ls)
      | none => none
    else alogs P call ops rest (a.put o.dst undef) s ([] :: ls)

def clash (t u : Touch) : Bool := t.id == u.id && (t.wr || u.wr) && (match t.at_, u.at_ with | some i, some j => i == j | _, _ => true)
def clashes (l m : List Touch) : Bool := l.any fun t => m.any fun u => clash t u
/-- Do no two operations that no edge orders touch the same? (The last one first.) -/
def noClash (b : Array Nat) : List (List Touch) → Nat → Bool
  | [], _ => true
  | l :: rest, j => (l.isEmpty || (rest.zipIdx.all fun (m, k) => m.isEmpty || (b.getD j 0).testBit (j - 1 - k) || !clashes l m)) && noClash b rest (j - 1)

/-- Has each temporary that a guard looks at one writer alone? -/
def guardsOk (ops : Array Oper) : Bool := ops.toList.all fun o =>
  match o.guard with
  | none => true
  | some (g, _) => ops.toList.zipIdx.all fun (p, m) => m == g || p.dst != (ops[g]?).bind (·.dst)

def aregion (P : Program) (call : Caller) (ops : Array Oper) (draw : Bool) (a : Act) (s : St) : Option (Act × St) :=
  if draw then
    match alogs P call ops ops.toList a s [] with
    | some (a1, s1, ls) => if guardsOk ops && noClash (Region.before ops) ls (ops.size - 1) then some (a1, s1) else none
    | none => none
  else alist P call ops ops.toList a s

def aresults (P : Program) (fn : Func) (a : Act) (s : St) : Option (Value × St) := arun P (results fn a.tmps) s

/-- The marks of loops over functions, at a function's end. -/
def amarks (P : Program) : List Deferred → St → Option (Unit × St)
  | [], s => some ((), s)
  | d :: ds, s =>
    match d.target with
    | .collected r =>
      match arun P (Instr.takeDeferred r) s with
      | some (_, s1) => amarks P ds s1
      | none => none
    | _ => none
/-- How a round was left. -/
def jumpOf : Exit → Option (Option Code)
  | .normal => some none
  | .ret => some (some .ret)
  | .exit id => some (some (.exit id))
  | _ => none
def atEnd : Exit → Bool
  | .normal | .ret => true
  | _ => false
def aleave (P : Program) (fn : Func) (e : Exit) (a : Act) (s : St) : Option (Value × St) :=
  match atEnd e with
  | true => (match amarks P a.defers s with | some (_, s1) => aresults P fn a s1 | none => none)
  | false => none

/-- A call, by what runs code. -/
def acallF (P : Program) (run : Runner) (f : FuncId) (args : Array Value) (s : St) : Option (Value × St) :=
  match Sig.cal f args.toList with
  | some r => some (r, s)
  | none =>
  match Sig.gcal f args.toList with
  | some q => agop q s
  | none =>
  match P.funcs[f]? with
  | some fn =>
    match fn.body with
    | some body =>
      match run none body { tmps := args ++ Array.replicate (fn.ntmps - args.size) undef, defers := [] } s with
      | some (e, a, s1) => aleave P fn e a s1
      | none => none
    | none => none
  | none => none
def aend (P : Program) (l : Nat) (e : Exit) (s : St) : Option (Value × St) :=
  match jumpOf e with
  | some j => arun P (Instr.endRound l j) s
  | none => none
def isNormal : Exit → Bool
  | .normal => true
  | _ => false
/-- A round. -/
def acallR (P : Program) (run : Runner) (l : Nat) (tmps : Array Value) (assign body : Code) (s : St) : Option (Value × St) :=
  match run (some l) assign { tmps := tmps, defers := [] } s with
  | some (e, a1, s1) =>
    if isNormal e then
      match arun P (Instr.beginRound l) s1 with
      | some (_, s2) =>
        match run (some l) body a1 s2 with
        | some (e2, _, s3) => aend P l e2 s3
        | none => none
      | none => none
    else none
  | none => none
def acall (P : Program) (run : Runner) : Caller
  | .fn f args, s => acallF P run f args s
  | .rnd l tmps assign body, s => acallR P run l tmps assign body s

/-- The one call of a loop over a function. -/
def aloopCall (P : Program) (a : Act) (g : Operand) (l : Nat) : Option (FuncId × Array Value) :=
  if opdOk g then
    match a.eval g with
    | .func (.func f) first captured => if fnOk P f then some (f, (first ++ #[.func (.yield l) #[] #[]]) ++ captured) else none
    | _ => none
  else none
def ajump (run : Runner) (rd : Option Nat) (j : Option Code) (a : Act) (s : St) : Option (Exit × Act × St) :=
  match j with
  | none => some (.normal, a, s)
  | some c => run rd c a s
/-- Codes that a round's end leaves behind. -/
def jumpOk : Option Code → Bool
  | none | some .ret | some (.exit _) => true
  | _ => false
def arange (P : Program) (run : Runner) (rd : Option Nat) (g : Operand) (ps : Array Tmp) (assign body : Code) (a : Act) (s : St) : Option (Exit × Act × St) :=
  match arun P (Instr.enterLoop 0 a.tmps ps assign body rd) s with
  | some ((l, mark), s1) =>
    match aloopCall P a g l with
    | some (f, args) =>
      match acallF P run f args s1 with
      | some (_, s2) =>
        match arun P (Instr.endLoop l) s2 with
        | some (j, s3) => if jumpOk j then ajump run rd j { a with defers := mark ++ a.defers } s3 else none
        | none => none
      | none => none
    | none => none
  | none => none

/-- Behind a scope's end: a jump out of it goes on at its label, once. -/
def ascope (run : Code → Act → St → Option (Exit × Act × St)) (body : Code) : Option (Exit × Act × St) → Option (Exit × Act × St)
  | some (.goto l, a, s) =>
    match findLabel body l with
    | some rest =>
      match run rest a s with
      | some (.goto _, _, _) => none
      | r => r
    | none => none
  | r => r
def ev (P : Program) : Nat → Runner
  | 0, _, _, _, _ => none
  | n + 1, rd, c, a, s =>
    match c with
    | .skip => some (.normal, a, s)
    | .label _ => some (.normal, a, s)
    | .ret => some (.ret, a, s)
    | .exit id => some (.exit id, a, s)
    | .goto l => some (.goto l, a, s)
    | .seq x y =>
      match ev P n rd x a s with
      | some (.normal, a1, s1) => ev P n rd y a1 s1
      | r => r
    | .cond c x y =>
      match opdOk c, a.eval c with
      | true, .bool b => ev P n rd (if b then x else y) a s
      | _, _ => none
    | .block id body =>
      match ev P n rd body a s with
      | some (.exit i, a1, s1) => if i = id then some (.normal, a1, s1) else some (.exit i, a1, s1)
      | r => r
    | .loop body =>
      match ev P n rd body a s with
      | some (.normal, a1, s1) => ev P n rd (.loop body) a1 s1
      | r => r
    | .scope body =>
      match rd with
      | none => ascope (ev P n none) body (ev P n none body a s)
      | some _ => none
    | .rangeFunc g ps assign body => arange P (ev P n) rd g ps assign body a s
    | .region _ ops draw =>
      match aregion P (acall P (ev P n)) ops draw a s with
      | some (a1, s1) => some (.normal, a1, s1)
      | none => none
    | _ => none

def s0 : St := { heap := .leaf, next := 1, log := [] }
def isTrue : Option (Value × St) → Bool
  | some (.bool b, _) => b
  | _ => false
end Go.Ev
