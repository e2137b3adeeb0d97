/-
  No cell of these rows narrows 'for every input' (looked for: loops, veiled, ifaces, maps, wideKeys, modest, calm, conditions, laid).
  DERIVED. THE GIVEN ROWS OF THIS SEAT. 3 by the template 'for every input the law returns true; each argument reads behind the call as it read before'; 0 by the template 'total and deterministic' (their statements: YtbcnbofkgkheeaaTotals.lean).
  GIVEN WITH THE SEED: the statements are not yours to turn. If you find one false, say at which input.
  Laid BY PROGRAM, IN A SANDBOX (cutbox-rows.mjs): the forced cells as the released guide's own fill.sh prints them over the translation a7ab635d2f736297… (all of the seat's roots in one cut). By AI agents, Wed Nov 11 2026. No macro, syntax, notation, axiom, sorry.
-/
import Derived.Test.YtbcnbofkgkheeaaChecked
import GoSem.Claim
import GoSem.ClaimJoined
import GoSem.ClaimMapViews
import Derived.JoinedTies
import Derived.KernelRfl
namespace Go.Proofs.Ytbcnbofkgkheeaa
/- THE CELL 'sum', in the pinned program and in every row, IS THE sha256 OF THE DUMP (.gsa) THAT YtbcnbofkgkheeaaProg.lean LOADS. Nothing in Lean hashes anything: it is a label: what it is worth is what the hold of that sum in a sandbox is worth. -/
noncomputable def Try.pinned : Pinned := { name := "ytbcnbofkgkheeaa", sum := "a7ab635d2f736297e1ee20d4b0a52a781296a066a88977257d2089fdb8b4b127", checked := Try.checked }
namespace Rows
def none {H : Type} : Left H := { results := [], args := [] }

/-- 'distafflaw17.ReadyKeeps': WHATEVER THE INPUT: true; the input reads as it did. -/
def readyKeepsSpec : ChangeSpec := { name := "readyKeeps", fn := fun _ => fun
  | [d1, d2, d3, d4, d5] => { results := [.lit (.bool true)], args := [d1, d2, d3, d4, d5] }
  | _ => none }
def readyKeepsRow : OpenClaim := { program := "ytbcnbofkgkheeaa", sum := "a7ab635d2f736297e1ee20d4b0a52a781296a066a88977257d2089fdb8b4b127", func := "distaff/distafflaw17.ReadyKeeps", spec := "readyKeeps", unfollowed := true, recurses := true, apart := false }
def ReadyKeepsSaid : Prop := readyKeepsRow.holds Try.pinned (OpenSpec.ofChange readyKeepsSpec)

/-- ITS FALSE NEIGHBOUR: 'it returns false'. Refute it at one input. -/
def readyKeepsWrong : ChangeSpec := { name := "readyKeeps", fn := fun _ => fun
  | [d1, d2, d3, d4, d5] => { results := [.lit (.bool false)], args := [d1, d2, d3, d4, d5] }
  | _ => none }
def ReadyKeepsWrongFalsely : Prop := readyKeepsRow.holds Try.pinned (OpenSpec.ofChange readyKeepsWrong)

/-- 'distafflaw17.ReadyPlays': WHATEVER THE INPUT: true; the input reads as it did. -/
def readyPlaysSpec : ChangeSpec := { name := "readyPlays", fn := fun _ => fun
  | [d1, d2, d3, d4, d5] => { results := [.lit (.bool true)], args := [d1, d2, d3, d4, d5] }
  | _ => none }
def readyPlaysRow : OpenClaim := { program := "ytbcnbofkgkheeaa", sum := "a7ab635d2f736297e1ee20d4b0a52a781296a066a88977257d2089fdb8b4b127", func := "distaff/distafflaw17.ReadyPlays", spec := "readyPlays", unfollowed := true, recurses := true, apart := false }
def ReadyPlaysSaid : Prop := readyPlaysRow.holds Try.pinned (OpenSpec.ofChange readyPlaysSpec)

/-- ITS FALSE NEIGHBOUR: 'it returns false'. Refute it at one input. -/
def readyPlaysWrong : ChangeSpec := { name := "readyPlays", fn := fun _ => fun
  | [d1, d2, d3, d4, d5] => { results := [.lit (.bool false)], args := [d1, d2, d3, d4, d5] }
  | _ => none }
def ReadyPlaysWrongFalsely : Prop := readyPlaysRow.holds Try.pinned (OpenSpec.ofChange readyPlaysWrong)

/-- 'distafflaw17.ReadyDemotePlays': WHATEVER THE INPUT: true; the input reads as it did. -/
def readyDemotePlaysSpec : ChangeSpec := { name := "readyDemotePlays", fn := fun _ => fun
  | [d1, d2, d3, d4] => { results := [.lit (.bool true)], args := [d1, d2, d3, d4] }
  | _ => none }
def readyDemotePlaysRow : OpenClaim := { program := "ytbcnbofkgkheeaa", sum := "a7ab635d2f736297e1ee20d4b0a52a781296a066a88977257d2089fdb8b4b127", func := "distaff/distafflaw17.ReadyDemotePlays", spec := "readyDemotePlays", unfollowed := true, recurses := true, apart := false }
def ReadyDemotePlaysSaid : Prop := readyDemotePlaysRow.holds Try.pinned (OpenSpec.ofChange readyDemotePlaysSpec)

/-- ITS FALSE NEIGHBOUR: 'it returns false'. Refute it at one input. -/
def readyDemotePlaysWrong : ChangeSpec := { name := "readyDemotePlays", fn := fun _ => fun
  | [d1, d2, d3, d4] => { results := [.lit (.bool false)], args := [d1, d2, d3, d4] }
  | _ => none }
def ReadyDemotePlaysWrongFalsely : Prop := readyDemotePlaysRow.holds Try.pinned (OpenSpec.ofChange readyDemotePlaysWrong)

/- THE SECOND FORM. 'bulk': how many values and letters a reading holds, each counted each time it is reached (what is shared counts as often as it is met; a slice's spare places count too). A statement '..UptoSaid' is the law's where the arguments, and the package variables that the reading takes, are together of bulk at most 1048576: NARROWER than '..Said'. Prove '..Said' where nothing that the law and all that it calls make is longer than what came in: it says more and counts as full. Else prove '..UptoSaid'. A law counts once. -/
mutual
def uptoBulk {H : Type} : DataW H → Nat
  | .lit (.string bytes) => bytes.length + 1
  | .lit _ => 1
  | .nil => 1
  | .ptr d => uptoBulk d + 1
  | .slice elems spare => uptoBulkAll elems + uptoBulkAll spare + 1
  | .agg parts => uptoBulkAll parts + 1
  | .iface _ d => uptoBulk d + 1
  | .map entries => uptoBulkEntries entries + 1
  | .held _ => 1
def uptoBulkAll {H : Type} : List (DataW H) → Nat
  | [] => 0
  | d :: r => uptoBulk d + uptoBulkAll r
def uptoBulkEntries {H : Type} : List (Lit × DataW H) → Nat
  | [] => 0
  | x :: r => uptoBulkEntry x + uptoBulkEntries r
def uptoBulkEntry {H : Type} : Lit × DataW H → Nat
  | (.string bytes, d) => bytes.length + uptoBulk d + 1
  | (_, d) => uptoBulk d + 1
 end
def uptoSmall : (H : Type) → List (DataW H) → Bool := fun _ ds => decide (uptoBulkAll ds ≤ 1048576)
def OpenSpec.upto (s : _root_.Go.ChangeSpec) : _root_.Go.OpenSpec := { _root_.Go.OpenSpec.ofChange s with cond := some uptoSmall }

/-- 'distafflaw17.ReadyKeeps', WHERE WHAT IT READS IS OF BULK AT MOST 1048576: true; the input reads as it did. -/
def readyKeepsUptoRow : OpenClaim := { program := "ytbcnbofkgkheeaa", sum := "a7ab635d2f736297e1ee20d4b0a52a781296a066a88977257d2089fdb8b4b127", func := "distaff/distafflaw17.ReadyKeeps", spec := "readyKeeps", unfollowed := true, recurses := true, apart := false, narrowed := true }
def ReadyKeepsUptoSaid : Prop := readyKeepsUptoRow.holds Try.pinned (OpenSpec.upto readyKeepsSpec)

/-- 'distafflaw17.ReadyPlays', WHERE WHAT IT READS IS OF BULK AT MOST 1048576: true; the input reads as it did. -/
def readyPlaysUptoRow : OpenClaim := { program := "ytbcnbofkgkheeaa", sum := "a7ab635d2f736297e1ee20d4b0a52a781296a066a88977257d2089fdb8b4b127", func := "distaff/distafflaw17.ReadyPlays", spec := "readyPlays", unfollowed := true, recurses := true, apart := false, narrowed := true }
def ReadyPlaysUptoSaid : Prop := readyPlaysUptoRow.holds Try.pinned (OpenSpec.upto readyPlaysSpec)

/-- 'distafflaw17.ReadyDemotePlays', WHERE WHAT IT READS IS OF BULK AT MOST 1048576: true; the input reads as it did. -/
def readyDemotePlaysUptoRow : OpenClaim := { program := "ytbcnbofkgkheeaa", sum := "a7ab635d2f736297e1ee20d4b0a52a781296a066a88977257d2089fdb8b4b127", func := "distaff/distafflaw17.ReadyDemotePlays", spec := "readyDemotePlays", unfollowed := true, recurses := true, apart := false, narrowed := true }
def ReadyDemotePlaysUptoSaid : Prop := readyDemotePlaysUptoRow.holds Try.pinned (OpenSpec.upto readyDemotePlaysSpec)

end Rows
end Go.Proofs.Ytbcnbofkgkheeaa
