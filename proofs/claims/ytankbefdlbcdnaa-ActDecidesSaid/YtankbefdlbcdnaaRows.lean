/-
  No cell of these rows narrows 'for every input' (looked for: loops, veiled, ifaces, maps, wideKeys, modest, calm, conditions, laid).
  DERIVED. THE GIVEN ROWS OF THIS SEAT. 3 by the template 'for every input the law returns true; each argument reads behind the call as it read before'; 0 by the template 'total and deterministic' (their statements: YtankbefdlbcdnaaTotals.lean).
  GIVEN WITH THE SEED: the statements are not yours to turn. If you find one false, say at which input.
  Laid BY PROGRAM, IN A SANDBOX (cutbox-rows.mjs): the forced cells as the released guide's own fill.sh prints them over the translation a38baa40978ee33f… (all of the seat's roots in one cut). By AI agents, Wed Nov 11 2026. No macro, syntax, notation, axiom, sorry.
-/
import Derived.Test.YtankbefdlbcdnaaChecked
import GoSem.Claim
import GoSem.ClaimJoined
import GoSem.ClaimMapViews
import Derived.JoinedTies
import Derived.KernelRfl
namespace Go.Proofs.Ytankbefdlbcdnaa
/- THE CELL 'sum', in the pinned program and in every row, IS THE sha256 OF THE DUMP (.gsa) THAT YtankbefdlbcdnaaProg.lean LOADS. Nothing in Lean hashes anything: it is a label: what it is worth is what the hold of that sum in a sandbox is worth. -/
noncomputable def Try.pinned : Pinned := { name := "ytankbefdlbcdnaa", sum := "a38baa40978ee33fecac80997532a603e508458064cb40e4028003b659f33443", checked := Try.checked }
namespace Rows
def none {H : Type} : Left H := { results := [], args := [] }

/-- 'distafflaw22.ActOthers': WHATEVER THE INPUT: true; the input reads as it did. -/
def actOthersSpec : ChangeSpec := { name := "actOthers", fn := fun _ => fun
  | [d1, d2, d3] => { results := [.lit (.bool true)], args := [d1, d2, d3] }
  | _ => none }
def actOthersRow : OpenClaim := { program := "ytankbefdlbcdnaa", sum := "a38baa40978ee33fecac80997532a603e508458064cb40e4028003b659f33443", func := "distaff/distafflaw22.ActOthers", spec := "actOthers", unfollowed := true, recurses := true, apart := false }
def ActOthersSaid : Prop := actOthersRow.holds Try.pinned (OpenSpec.ofChange actOthersSpec)

/-- ITS FALSE NEIGHBOUR: 'it returns false'. Refute it at one input. -/
def actOthersWrong : ChangeSpec := { name := "actOthers", fn := fun _ => fun
  | [d1, d2, d3] => { results := [.lit (.bool false)], args := [d1, d2, d3] }
  | _ => none }
def ActOthersWrongFalsely : Prop := actOthersRow.holds Try.pinned (OpenSpec.ofChange actOthersWrong)

/-- 'distafflaw22.ActBytes': WHATEVER THE INPUT: true; the input reads as it did. -/
def actBytesSpec : ChangeSpec := { name := "actBytes", fn := fun _ => fun
  | [d1, d2, d3] => { results := [.lit (.bool true)], args := [d1, d2, d3] }
  | _ => none }
def actBytesRow : OpenClaim := { program := "ytankbefdlbcdnaa", sum := "a38baa40978ee33fecac80997532a603e508458064cb40e4028003b659f33443", func := "distaff/distafflaw22.ActBytes", spec := "actBytes", unfollowed := true, recurses := true, apart := false }
def ActBytesSaid : Prop := actBytesRow.holds Try.pinned (OpenSpec.ofChange actBytesSpec)

/-- ITS FALSE NEIGHBOUR: 'it returns false'. Refute it at one input. -/
def actBytesWrong : ChangeSpec := { name := "actBytes", fn := fun _ => fun
  | [d1, d2, d3] => { results := [.lit (.bool false)], args := [d1, d2, d3] }
  | _ => none }
def ActBytesWrongFalsely : Prop := actBytesRow.holds Try.pinned (OpenSpec.ofChange actBytesWrong)

/-- 'distafflaw22.ActDecides': WHATEVER THE INPUT: true; the input reads as it did. -/
def actDecidesSpec : ChangeSpec := { name := "actDecides", fn := fun _ => fun
  | [d1, d2, d3, d4, d5, d6] => { results := [.lit (.bool true)], args := [d1, d2, d3, d4, d5, d6] }
  | _ => none }
def actDecidesRow : OpenClaim := { program := "ytankbefdlbcdnaa", sum := "a38baa40978ee33fecac80997532a603e508458064cb40e4028003b659f33443", func := "distaff/distafflaw22.ActDecides", spec := "actDecides", unfollowed := true, recurses := true, apart := false }
def ActDecidesSaid : Prop := actDecidesRow.holds Try.pinned (OpenSpec.ofChange actDecidesSpec)

/-- ITS FALSE NEIGHBOUR: 'it returns false'. Refute it at one input. -/
def actDecidesWrong : ChangeSpec := { name := "actDecides", fn := fun _ => fun
  | [d1, d2, d3, d4, d5, d6] => { results := [.lit (.bool false)], args := [d1, d2, d3, d4, d5, d6] }
  | _ => none }
def ActDecidesWrongFalsely : Prop := actDecidesRow.holds Try.pinned (OpenSpec.ofChange actDecidesWrong)

/- THE SECOND FORM. 'bulk': how many values and letters a reading holds, each counted each time it is reached (what is shared counts as often as it is met; a slice's spare places count too). A statement '..UptoSaid' is the law's where the arguments, and the package variables that the reading takes, are together of bulk at most 1048576: NARROWER than '..Said'. Prove '..Said' where nothing that the law and all that it calls make is longer than what came in: it says more and counts as full. Else prove '..UptoSaid'. A law counts once. -/
mutual
def uptoBulk {H : Type} : DataW H → Nat
  | .lit (.string bytes) => bytes.length + 1
  | .lit _ => 1
  | .nil => 1
  | .ptr d => uptoBulk d + 1
  | .slice elems spare => uptoBulkAll elems + uptoBulkAll spare + 1
  | .agg parts => uptoBulkAll parts + 1
  | .iface _ d => uptoBulk d + 1
  | .map entries => uptoBulkEntries entries + 1
  | .held _ => 1
def uptoBulkAll {H : Type} : List (DataW H) → Nat
  | [] => 0
  | d :: r => uptoBulk d + uptoBulkAll r
def uptoBulkEntries {H : Type} : List (Lit × DataW H) → Nat
  | [] => 0
  | x :: r => uptoBulkEntry x + uptoBulkEntries r
def uptoBulkEntry {H : Type} : Lit × DataW H → Nat
  | (.string bytes, d) => bytes.length + uptoBulk d + 1
  | (_, d) => uptoBulk d + 1
 end
def uptoSmall : (H : Type) → List (DataW H) → Bool := fun _ ds => decide (uptoBulkAll ds ≤ 1048576)
def OpenSpec.upto (s : _root_.Go.ChangeSpec) : _root_.Go.OpenSpec := { _root_.Go.OpenSpec.ofChange s with cond := some uptoSmall }

/-- 'distafflaw22.ActOthers', WHERE WHAT IT READS IS OF BULK AT MOST 1048576: true; the input reads as it did. -/
def actOthersUptoRow : OpenClaim := { program := "ytankbefdlbcdnaa", sum := "a38baa40978ee33fecac80997532a603e508458064cb40e4028003b659f33443", func := "distaff/distafflaw22.ActOthers", spec := "actOthers", unfollowed := true, recurses := true, apart := false, narrowed := true }
def ActOthersUptoSaid : Prop := actOthersUptoRow.holds Try.pinned (OpenSpec.upto actOthersSpec)

/-- 'distafflaw22.ActBytes', WHERE WHAT IT READS IS OF BULK AT MOST 1048576: true; the input reads as it did. -/
def actBytesUptoRow : OpenClaim := { program := "ytankbefdlbcdnaa", sum := "a38baa40978ee33fecac80997532a603e508458064cb40e4028003b659f33443", func := "distaff/distafflaw22.ActBytes", spec := "actBytes", unfollowed := true, recurses := true, apart := false, narrowed := true }
def ActBytesUptoSaid : Prop := actBytesUptoRow.holds Try.pinned (OpenSpec.upto actBytesSpec)

/-- 'distafflaw22.ActDecides', WHERE WHAT IT READS IS OF BULK AT MOST 1048576: true; the input reads as it did. -/
def actDecidesUptoRow : OpenClaim := { program := "ytankbefdlbcdnaa", sum := "a38baa40978ee33fecac80997532a603e508458064cb40e4028003b659f33443", func := "distaff/distafflaw22.ActDecides", spec := "actDecides", unfollowed := true, recurses := true, apart := false, narrowed := true }
def ActDecidesUptoSaid : Prop := actDecidesUptoRow.holds Try.pinned (OpenSpec.upto actDecidesSpec)

end Rows
end Go.Proofs.Ytankbefdlbcdnaa
