/-
  No cell of these rows narrows 'for every input' (looked for: loops, veiled, ifaces, maps, wideKeys, modest, calm, conditions, laid).
  DERIVED. THE GIVEN ROWS OF THIS SEAT. 5 by the template 'for every input the law returns true; each argument reads behind the call as it read before'; 0 by the template 'total and deterministic' (their statements: YtkmccgombmogmaaGreatTotals.lean).
  GIVEN WITH THE SEED: the statements are not yours to turn. If you find one false, say at which input.
  Laid BY PROGRAM, IN A SANDBOX (cutbox-rows.mjs): the forced cells as the released guide's own fill.sh prints them over the translation 1dd7b7e78220d891… (all of the seat's roots in one cut). By AI agents, Wed Nov 11 2026. No macro, syntax, notation, axiom, sorry.
-/
import Derived.Test.YtkmccgombmogmaaGreatChecked
import GoSem.Claim
import GoSem.ClaimJoined
import GoSem.ClaimMapViews
import Derived.JoinedTies
import Derived.KernelRfl
namespace Go.Proofs.YtkmccgombmogmaaGreat
/- THE CELL 'sum', in the pinned program and in every row, IS THE sha256 OF THE DUMP (.gsa) THAT YtkmccgombmogmaaGreatProg.lean LOADS. Nothing in Lean hashes anything: it is a label: what it is worth is what the hold of that sum in a sandbox is worth. -/
noncomputable def Tryz.pinned : Pinned := { name := "ytkmccgombmogmaagreat", sum := "1dd7b7e78220d891d9423bc757af2dc14bad1b1723cb999e7a2aa703aee0db8e", checked := Tryz.checked }
namespace Rows
def none {H : Type} : Left H := { results := [], args := [] }

/-- 'distafflaw12.RaceEnds': WHATEVER THE INPUT: true; the input reads as it did. -/
def raceEndsSpec : ChangeSpec := { name := "raceEnds", fn := fun _ => fun
  | [d1, d2, d3, d4] => { results := [.lit (.bool true)], args := [d1, d2, d3, d4] }
  | _ => none }
def raceEndsRow : OpenClaim := { program := "ytkmccgombmogmaagreat", sum := "1dd7b7e78220d891d9423bc757af2dc14bad1b1723cb999e7a2aa703aee0db8e", func := "distaff/distafflaw12.RaceEnds", spec := "raceEnds", unfollowed := true, recurses := true, apart := false }
def RaceEndsSaid : Prop := raceEndsRow.holds Tryz.pinned (OpenSpec.ofChange raceEndsSpec)

/-- ITS FALSE NEIGHBOUR: 'it returns false'. Refute it at one input. -/
def raceEndsWrong : ChangeSpec := { name := "raceEnds", fn := fun _ => fun
  | [d1, d2, d3, d4] => { results := [.lit (.bool false)], args := [d1, d2, d3, d4] }
  | _ => none }
def RaceEndsWrongFalsely : Prop := raceEndsRow.holds Tryz.pinned (OpenSpec.ofChange raceEndsWrong)

/-- 'distafflaw12.RaceFits': WHATEVER THE INPUT: true; the input reads as it did. -/
def raceFitsSpec : ChangeSpec := { name := "raceFits", fn := fun _ => fun
  | [d1, d2] => { results := [.lit (.bool true)], args := [d1, d2] }
  | _ => none }
def raceFitsRow : OpenClaim := { program := "ytkmccgombmogmaagreat", sum := "1dd7b7e78220d891d9423bc757af2dc14bad1b1723cb999e7a2aa703aee0db8e", func := "distaff/distafflaw12.RaceFits", spec := "raceFits", unfollowed := true, recurses := true, apart := false }
def RaceFitsSaid : Prop := raceFitsRow.holds Tryz.pinned (OpenSpec.ofChange raceFitsSpec)

/-- ITS FALSE NEIGHBOUR: 'it returns false'. Refute it at one input. -/
def raceFitsWrong : ChangeSpec := { name := "raceFits", fn := fun _ => fun
  | [d1, d2] => { results := [.lit (.bool false)], args := [d1, d2] }
  | _ => none }
def RaceFitsWrongFalsely : Prop := raceFitsRow.holds Tryz.pinned (OpenSpec.ofChange raceFitsWrong)

/-- 'distafflaw12.RacePlays': WHATEVER THE INPUT: true; the input reads as it did. -/
def racePlaysSpec : ChangeSpec := { name := "racePlays", fn := fun _ => fun
  | [d1, d2] => { results := [.lit (.bool true)], args := [d1, d2] }
  | _ => none }
def racePlaysRow : OpenClaim := { program := "ytkmccgombmogmaagreat", sum := "1dd7b7e78220d891d9423bc757af2dc14bad1b1723cb999e7a2aa703aee0db8e", func := "distaff/distafflaw12.RacePlays", spec := "racePlays", unfollowed := true, recurses := true, apart := false }
def RacePlaysSaid : Prop := racePlaysRow.holds Tryz.pinned (OpenSpec.ofChange racePlaysSpec)

/-- ITS FALSE NEIGHBOUR: 'it returns false'. Refute it at one input. -/
def racePlaysWrong : ChangeSpec := { name := "racePlays", fn := fun _ => fun
  | [d1, d2] => { results := [.lit (.bool false)], args := [d1, d2] }
  | _ => none }
def RacePlaysWrongFalsely : Prop := racePlaysRow.holds Tryz.pinned (OpenSpec.ofChange racePlaysWrong)

/-- 'distafflaw12.RaceNone': WHATEVER THE INPUT: true; the input reads as it did. -/
def raceNoneSpec : ChangeSpec := { name := "raceNone", fn := fun _ => fun
  | [d1, d2] => { results := [.lit (.bool true)], args := [d1, d2] }
  | _ => none }
def raceNoneRow : OpenClaim := { program := "ytkmccgombmogmaagreat", sum := "1dd7b7e78220d891d9423bc757af2dc14bad1b1723cb999e7a2aa703aee0db8e", func := "distaff/distafflaw12.RaceNone", spec := "raceNone", unfollowed := true, recurses := true, apart := false }
def RaceNoneSaid : Prop := raceNoneRow.holds Tryz.pinned (OpenSpec.ofChange raceNoneSpec)

/-- ITS FALSE NEIGHBOUR: 'it returns false'. Refute it at one input. -/
def raceNoneWrong : ChangeSpec := { name := "raceNone", fn := fun _ => fun
  | [d1, d2] => { results := [.lit (.bool false)], args := [d1, d2] }
  | _ => none }
def RaceNoneWrongFalsely : Prop := raceNoneRow.holds Tryz.pinned (OpenSpec.ofChange raceNoneWrong)

/-- 'distafflaw12.RaceKnown': WHATEVER THE INPUT: true; the input reads as it did. -/
def raceKnownSpec : ChangeSpec := { name := "raceKnown", fn := fun _ => fun
  | [] => { results := [.lit (.bool true)], args := [] }
  | _ => none }
def raceKnownRow : OpenClaim := { program := "ytkmccgombmogmaagreat", sum := "1dd7b7e78220d891d9423bc757af2dc14bad1b1723cb999e7a2aa703aee0db8e", func := "distaff/distafflaw12.RaceKnown", spec := "raceKnown", unfollowed := true, recurses := true, apart := false }
def RaceKnownSaid : Prop := raceKnownRow.holds Tryz.pinned (OpenSpec.ofChange raceKnownSpec)

/-- ITS FALSE NEIGHBOUR: 'it returns false'. Refute it at one input. -/
def raceKnownWrong : ChangeSpec := { name := "raceKnown", fn := fun _ => fun
  | [] => { results := [.lit (.bool false)], args := [] }
  | _ => none }
def RaceKnownWrongFalsely : Prop := raceKnownRow.holds Tryz.pinned (OpenSpec.ofChange raceKnownWrong)

/- THE SECOND FORM. 'bulk': how many values and letters a reading holds, each counted each time it is reached (what is shared counts as often as it is met; a slice's spare places count too). A statement '..UptoSaid' is the law's where the arguments, and the package variables that the reading takes, are together of bulk at most 1048576: NARROWER than '..Said'. Prove '..Said' where nothing that the law and all that it calls make is longer than what came in: it says more and counts as full. Else prove '..UptoSaid'. A law counts once. -/
mutual
def uptoBulk {H : Type} : DataW H → Nat
  | .lit (.string bytes) => bytes.length + 1
  | .lit _ => 1
  | .nil => 1
  | .ptr d => uptoBulk d + 1
  | .slice elems spare => uptoBulkAll elems + uptoBulkAll spare + 1
  | .agg parts => uptoBulkAll parts + 1
  | .iface _ d => uptoBulk d + 1
  | .map entries => uptoBulkEntries entries + 1
  | .held _ => 1
def uptoBulkAll {H : Type} : List (DataW H) → Nat
  | [] => 0
  | d :: r => uptoBulk d + uptoBulkAll r
def uptoBulkEntries {H : Type} : List (Lit × DataW H) → Nat
  | [] => 0
  | x :: r => uptoBulkEntry x + uptoBulkEntries r
def uptoBulkEntry {H : Type} : Lit × DataW H → Nat
  | (.string bytes, d) => bytes.length + uptoBulk d + 1
  | (_, d) => uptoBulk d + 1
 end
def uptoSmall : (H : Type) → List (DataW H) → Bool := fun _ ds => decide (uptoBulkAll ds ≤ 1048576)
def OpenSpec.upto (s : _root_.Go.ChangeSpec) : _root_.Go.OpenSpec := { _root_.Go.OpenSpec.ofChange s with cond := some uptoSmall }

/-- 'distafflaw12.RaceEnds', WHERE WHAT IT READS IS OF BULK AT MOST 1048576: true; the input reads as it did. -/
def raceEndsUptoRow : OpenClaim := { program := "ytkmccgombmogmaagreat", sum := "1dd7b7e78220d891d9423bc757af2dc14bad1b1723cb999e7a2aa703aee0db8e", func := "distaff/distafflaw12.RaceEnds", spec := "raceEnds", unfollowed := true, recurses := true, apart := false, narrowed := true }
def RaceEndsUptoSaid : Prop := raceEndsUptoRow.holds Tryz.pinned (OpenSpec.upto raceEndsSpec)

/-- 'distafflaw12.RaceFits', WHERE WHAT IT READS IS OF BULK AT MOST 1048576: true; the input reads as it did. -/
def raceFitsUptoRow : OpenClaim := { program := "ytkmccgombmogmaagreat", sum := "1dd7b7e78220d891d9423bc757af2dc14bad1b1723cb999e7a2aa703aee0db8e", func := "distaff/distafflaw12.RaceFits", spec := "raceFits", unfollowed := true, recurses := true, apart := false, narrowed := true }
def RaceFitsUptoSaid : Prop := raceFitsUptoRow.holds Tryz.pinned (OpenSpec.upto raceFitsSpec)

/-- 'distafflaw12.RacePlays', WHERE WHAT IT READS IS OF BULK AT MOST 1048576: true; the input reads as it did. -/
def racePlaysUptoRow : OpenClaim := { program := "ytkmccgombmogmaagreat", sum := "1dd7b7e78220d891d9423bc757af2dc14bad1b1723cb999e7a2aa703aee0db8e", func := "distaff/distafflaw12.RacePlays", spec := "racePlays", unfollowed := true, recurses := true, apart := false, narrowed := true }
def RacePlaysUptoSaid : Prop := racePlaysUptoRow.holds Tryz.pinned (OpenSpec.upto racePlaysSpec)

/-- 'distafflaw12.RaceNone', WHERE WHAT IT READS IS OF BULK AT MOST 1048576: true; the input reads as it did. -/
def raceNoneUptoRow : OpenClaim := { program := "ytkmccgombmogmaagreat", sum := "1dd7b7e78220d891d9423bc757af2dc14bad1b1723cb999e7a2aa703aee0db8e", func := "distaff/distafflaw12.RaceNone", spec := "raceNone", unfollowed := true, recurses := true, apart := false, narrowed := true }
def RaceNoneUptoSaid : Prop := raceNoneUptoRow.holds Tryz.pinned (OpenSpec.upto raceNoneSpec)

/-- 'distafflaw12.RaceKnown', WHERE WHAT IT READS IS OF BULK AT MOST 1048576: true; the input reads as it did. -/
def raceKnownUptoRow : OpenClaim := { program := "ytkmccgombmogmaagreat", sum := "1dd7b7e78220d891d9423bc757af2dc14bad1b1723cb999e7a2aa703aee0db8e", func := "distaff/distafflaw12.RaceKnown", spec := "raceKnown", unfollowed := true, recurses := true, apart := false, narrowed := true }
def RaceKnownUptoSaid : Prop := raceKnownUptoRow.holds Tryz.pinned (OpenSpec.upto raceKnownSpec)

end Rows
end Go.Proofs.YtkmccgombmogmaaGreat
