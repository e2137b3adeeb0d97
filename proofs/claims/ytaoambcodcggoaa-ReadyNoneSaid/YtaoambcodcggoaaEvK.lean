/- The evaluator, part eleven: code and calls. -/
import Derived.Test.YtaoambcodcggoaaEvJ
namespace Go.Ev
open Go.RowKit
set_option linter.unusedVariables false
set_option linter.unusedSimpArgs false
set_option linter.unusedSectionVars false
variable [Sig]

abbrev Caller := FuncId → Array Value → St → Option (Value × St)

/-- One operation, with the call that it may be. -/
def astep (P : Program) (call : Caller) (a : Act) (o : Oper) (s : St) : Option (Act × St) :=
  match aexec P a o s with
  | some (.value v, s1) => some (a.put o.dst v, s1)
  | some (.skip, s1) => some (a.put o.dst undef, s1)
  | some (.enter f args, s1) => (match call f args s1 with | some (v, s2) => some (a.put o.dst v, s2) | none => none)
  | _ => none

/-- Operations, one behind the other. -/
def alist (P : Program) (call : Caller) (ops : Array Oper) : List Oper → Act → St → Option (Act × St)
  | [], a, s => some (a, s)
  | o :: rest, a, s =>
    if Region.wanted o (yielded ops a.tmps) then
      match astep P call a o s with
      | some (a1, s1) => alist P call ops rest a1 s1
      | none => none
    else alist P call ops rest (a.put o.dst undef) s

/-- What was touched by each operation, the last one first. -/
def alogs (P : Program) (call : Caller) (ops : Array Oper) : List Oper → Act → St → List (List Touch) → Option (Act × St × List (List Touch))
  | [], a, s, ls => some (a, s, ls)
  | o :: rest, a, s, ls =>
    if Region.wanted o (yielded ops a.tmps) then
      match astep P call a o { s with log := [] } with
      | some (a1, s1) => alogs P call ops rest a1 { s1 with log := s1.log ++ s.log } (s1.log :: ls)
      | none => none
    else alogs P call ops rest (a.put o.dst undef) s ([] :: ls)

def clash (t u : Touch) : Bool := t.id == u.id && (t.wr || u.wr) && (match t.at_, u.at_ with | some i, some j => i == j | _, _ => true)
def clashes (l m : List Touch) : Bool := l.any fun t => m.any fun u => clash t u
/-- Do no two operations that no edge orders touch the same? (The last one first.) -/
def noClash (b : Array Nat) : List (List Touch) → Nat → Bool
  | [], _ => true
  | l :: rest, j => (l.isEmpty || (rest.zipIdx.all fun (m, k) => m.isEmpty || (b.getD j 0).testBit (j - 1 - k) || !clashes l m)) && noClash b rest (j - 1)

/-- Has each temporary that a guard looks at one writer alone? -/
def guardsOk (ops : Array Oper) : Bool := ops.toList.all fun o =>
  match o.guard with
  | none => true
  | some (g, _) => ops.toList.zipIdx.all fun (p, m) => m == g || p.dst != (ops[g]?).bind (·.dst)

def aregion (P : Program) (call : Caller) (ops : Array Oper) (draw : Bool) (a : Act) (s : St) : Option (Act × St) :=
  if draw then
    match alogs P call ops ops.toList a s [] with
    | some (a1, s1, ls) => if guardsOk ops && noClash (Region.before ops) ls (ops.size - 1) then some (a1, s1) else none
    | none => none
  else alist P call ops ops.toList a s

def aresults (P : Program) (fn : Func) (a : Act) (s : St) : Option (Value × St) := arun P (results fn a.tmps) s

/-- A call, by what runs code. -/
def acall (P : Program) (run : Code → Act → St → Option (Exit × Act × St)) (f : FuncId) (args : Array Value) (s : St) : Option (Value × St) :=
  match Sig.cal f args.toList with
  | some r => some (r, s)
  | none =>
  match P.funcs[f]? with
  | some fn =>
    match fn.body with
    | some body =>
      match run body { tmps := args ++ Array.replicate (fn.ntmps - args.size) undef, defers := [] } s with
      | some (.ret, a, s1) => aresults P fn a s1
      | some (.normal, a, s1) => aresults P fn a s1
      | _ => none
    | none => none
  | none => none

def ev (P : Program) : Nat → Code → Act → St → Option (Exit × Act × St)
  | 0, _, _, _ => none
  | n + 1, c, a, s =>
    match c with
    | .skip => some (.normal, a, s)
    | .label _ => some (.normal, a, s)
    | .ret => some (.ret, a, s)
    | .exit id => some (.exit id, a, s)
    | .seq x y =>
      match ev P n x a s with
      | some (.normal, a1, s1) => ev P n y a1 s1
      | r => r
    | .cond c x y =>
      match opdOk c, a.eval c with
      | true, .bool b => ev P n (if b then x else y) a s
      | _, _ => none
    | .block id body =>
      match ev P n body a s with
      | some (.exit i, a1, s1) => if i = id then some (.normal, a1, s1) else some (.exit i, a1, s1)
      | r => r
    | .loop body =>
      match ev P n body a s with
      | some (.normal, a1, s1) => ev P n (.loop body) a1 s1
      | r => r
    | .scope body =>
      match ev P n body a s with
      | some (.goto _, _, _) => none
      | r => r
    | .region _ ops draw =>
      match aregion P (acall P (ev P n)) ops draw a s with
      | some (a1, s1) => some (.normal, a1, s1)
      | none => none
    | _ => none

def s0 : St := { heap := .leaf, next := 1, log := [] }
def isTrue : Option (Value × St) → Bool
  | some (.bool b, _) => b
  | _ => false
end Go.Ev
