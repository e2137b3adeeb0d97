/-
  No cell of these rows narrows 'for every input' (looked for: loops, veiled, ifaces, maps, wideKeys, modest, calm, conditions, laid).
  DERIVED. THE GIVEN ROWS OF THIS SEAT. 2 by the template 'for every input the law returns true; each argument reads behind the call as it read before'; 0 by the template 'total and deterministic' (their statements: YtimhpaijbbegaaaTotals.lean).
  GIVEN WITH THE SEED: the statements are not yours to turn. If you find one false, say at which input.
  Laid BY PROGRAM, IN A SANDBOX (cutbox-rows.mjs): the forced cells as the released guide's own fill.sh prints them over the translation cfe959f79fe35843… (all of the seat's roots in one cut). By AI agents, Wed Nov 11 2026. No macro, syntax, notation, axiom, sorry.
-/
import Derived.Test.YtimhpaijbbegaaaChecked
import GoSem.Claim
import GoSem.ClaimJoined
import GoSem.ClaimMapViews
import Derived.JoinedTies
import Derived.KernelRfl
namespace Go.Proofs.Ytimhpaijbbegaaa
/- THE CELL 'sum', in the pinned program and in every row, IS THE sha256 OF THE DUMP (.gsa) THAT YtimhpaijbbegaaaProg.lean LOADS. Nothing in Lean hashes anything: it is a label: what it is worth is what the hold of that sum in a sandbox is worth. -/
noncomputable def Try.pinned : Pinned := { name := "ytimhpaijbbegaaa", sum := "cfe959f79fe35843a1163482ecada8bd2da1d4e09602096dd2b216b24707d5b9", checked := Try.checked }
namespace Rows
def none {H : Type} : Left H := { results := [], args := [] }

/-- 'distafflaw29.WhereWatches': WHATEVER THE INPUT: true; the input reads as it did. -/
def whereWatchesSpec : ChangeSpec := { name := "whereWatches", fn := fun _ => fun
  | [d1, d2] => { results := [.lit (.bool true)], args := [d1, d2] }
  | _ => none }
def whereWatchesRow : OpenClaim := { program := "ytimhpaijbbegaaa", sum := "cfe959f79fe35843a1163482ecada8bd2da1d4e09602096dd2b216b24707d5b9", func := "distaff/distafflaw29.WhereWatches", spec := "whereWatches", unfollowed := true, recurses := true, apart := false }
def WhereWatchesSaid : Prop := whereWatchesRow.holds Try.pinned (OpenSpec.ofChange whereWatchesSpec)

/-- ITS FALSE NEIGHBOUR: 'it returns false'. Refute it at one input. -/
def whereWatchesWrong : ChangeSpec := { name := "whereWatches", fn := fun _ => fun
  | [d1, d2] => { results := [.lit (.bool false)], args := [d1, d2] }
  | _ => none }
def WhereWatchesWrongFalsely : Prop := whereWatchesRow.holds Try.pinned (OpenSpec.ofChange whereWatchesWrong)

/-- 'distafflaw29.WhereNone': WHATEVER THE INPUT: true; the input reads as it did. -/
def whereNoneSpec : ChangeSpec := { name := "whereNone", fn := fun _ => fun
  | [d1, d2] => { results := [.lit (.bool true)], args := [d1, d2] }
  | _ => none }
def whereNoneRow : OpenClaim := { program := "ytimhpaijbbegaaa", sum := "cfe959f79fe35843a1163482ecada8bd2da1d4e09602096dd2b216b24707d5b9", func := "distaff/distafflaw29.WhereNone", spec := "whereNone", unfollowed := true, recurses := true, apart := false }
def WhereNoneSaid : Prop := whereNoneRow.holds Try.pinned (OpenSpec.ofChange whereNoneSpec)

/-- ITS FALSE NEIGHBOUR: 'it returns false'. Refute it at one input. -/
def whereNoneWrong : ChangeSpec := { name := "whereNone", fn := fun _ => fun
  | [d1, d2] => { results := [.lit (.bool false)], args := [d1, d2] }
  | _ => none }
def WhereNoneWrongFalsely : Prop := whereNoneRow.holds Try.pinned (OpenSpec.ofChange whereNoneWrong)

/- THE SECOND FORM. 'bulk': how many values and letters a reading holds, each counted each time it is reached (what is shared counts as often as it is met; a slice's spare places count too). A statement '..UptoSaid' is the law's where the arguments, and the package variables that the reading takes, are together of bulk at most 1048576: NARROWER than '..Said'. Prove '..Said' where nothing that the law and all that it calls make is longer than what came in: it says more and counts as full. Else prove '..UptoSaid'. A law counts once. -/
mutual
def uptoBulk {H : Type} : DataW H → Nat
  | .lit (.string bytes) => bytes.length + 1
  | .lit _ => 1
  | .nil => 1
  | .ptr d => uptoBulk d + 1
  | .slice elems spare => uptoBulkAll elems + uptoBulkAll spare + 1
  | .agg parts => uptoBulkAll parts + 1
  | .iface _ d => uptoBulk d + 1
  | .map entries => uptoBulkEntries entries + 1
  | .held _ => 1
def uptoBulkAll {H : Type} : List (DataW H) → Nat
  | [] => 0
  | d :: r => uptoBulk d + uptoBulkAll r
def uptoBulkEntries {H : Type} : List (Lit × DataW H) → Nat
  | [] => 0
  | x :: r => uptoBulkEntry x + uptoBulkEntries r
def uptoBulkEntry {H : Type} : Lit × DataW H → Nat
  | (.string bytes, d) => bytes.length + uptoBulk d + 1
  | (_, d) => uptoBulk d + 1
 end
def uptoSmall : (H : Type) → List (DataW H) → Bool := fun _ ds => decide (uptoBulkAll ds ≤ 1048576)
def OpenSpec.upto (s : _root_.Go.ChangeSpec) : _root_.Go.OpenSpec := { _root_.Go.OpenSpec.ofChange s with cond := some uptoSmall }

/-- 'distafflaw29.WhereWatches', WHERE WHAT IT READS IS OF BULK AT MOST 1048576: true; the input reads as it did. -/
def whereWatchesUptoRow : OpenClaim := { program := "ytimhpaijbbegaaa", sum := "cfe959f79fe35843a1163482ecada8bd2da1d4e09602096dd2b216b24707d5b9", func := "distaff/distafflaw29.WhereWatches", spec := "whereWatches", unfollowed := true, recurses := true, apart := false, narrowed := true }
def WhereWatchesUptoSaid : Prop := whereWatchesUptoRow.holds Try.pinned (OpenSpec.upto whereWatchesSpec)

/-- 'distafflaw29.WhereNone', WHERE WHAT IT READS IS OF BULK AT MOST 1048576: true; the input reads as it did. -/
def whereNoneUptoRow : OpenClaim := { program := "ytimhpaijbbegaaa", sum := "cfe959f79fe35843a1163482ecada8bd2da1d4e09602096dd2b216b24707d5b9", func := "distaff/distafflaw29.WhereNone", spec := "whereNone", unfollowed := true, recurses := true, apart := false, narrowed := true }
def WhereNoneUptoSaid : Prop := whereNoneUptoRow.holds Try.pinned (OpenSpec.upto whereNoneSpec)

end Rows
end Go.Proofs.Ytimhpaijbbegaaa
