/-
  No cell of these rows narrows 'for every input' (looked for: loops, veiled, ifaces, maps, wideKeys, modest, calm, conditions, laid).
  DERIVED. THE GIVEN ROWS OF THIS SEAT. 7 by the template 'for every input the law returns true; each argument reads behind the call as it read before'; 0 by the template 'total and deterministic' (their statements: YtbfmgdkiigkioaaTotals.lean).
  GIVEN WITH THE SEED: the statements are not yours to turn. If you find one false, say at which input.
  Laid BY PROGRAM, IN A SANDBOX (cutbox-rows.mjs): the forced cells as the released guide's own fill.sh prints them over the translation e8c32b242b048556… (all of the seat's roots in one cut). By AI agents, Wed Nov 11 2026. No macro, syntax, notation, axiom, sorry.
-/
import Derived.Test.YtbfmgdkiigkioaaChecked
import GoSem.Claim
import GoSem.ClaimJoined
import GoSem.ClaimMapViews
import Derived.JoinedTies
import Derived.KernelRfl
namespace Go.Proofs.Ytbfmgdkiigkioaa
/- THE CELL 'sum', in the pinned program and in every row, IS THE sha256 OF THE DUMP (.gsa) THAT YtbfmgdkiigkioaaProg.lean LOADS. Nothing in Lean hashes anything: it is a label: what it is worth is what the hold of that sum in a sandbox is worth. -/
noncomputable def Try.pinned : Pinned := { name := "ytbfmgdkiigkioaa", sum := "e8c32b242b0485564f3fbdf7cb5f051fb24bdf3ea088b0699b586133b471acf4", checked := Try.checked }
namespace Rows
def none {H : Type} : Left H := { results := [], args := [] }

/-- 'lavabolaw05.DevLoses': WHATEVER THE INPUT: true; the input reads as it did. -/
def devLosesSpec : ChangeSpec := { name := "devLoses", fn := fun _ => fun
  | [d1, d2, d3] => { results := [.lit (.bool true)], args := [d1, d2, d3] }
  | _ => none }
def devLosesRow : OpenClaim := { program := "ytbfmgdkiigkioaa", sum := "e8c32b242b0485564f3fbdf7cb5f051fb24bdf3ea088b0699b586133b471acf4", func := "lavabo/lavabolaw05.DevLoses", spec := "devLoses", unfollowed := true, recurses := true, apart := false }
def DevLosesSaid : Prop := devLosesRow.holds Try.pinned (OpenSpec.ofChange devLosesSpec)

/-- ITS FALSE NEIGHBOUR: 'it returns false'. Refute it at one input. -/
def devLosesWrong : ChangeSpec := { name := "devLoses", fn := fun _ => fun
  | [d1, d2, d3] => { results := [.lit (.bool false)], args := [d1, d2, d3] }
  | _ => none }
def DevLosesWrongFalsely : Prop := devLosesRow.holds Try.pinned (OpenSpec.ofChange devLosesWrong)

/-- 'lavabolaw05.DevReads': WHATEVER THE INPUT: true; the input reads as it did. -/
def devReadsSpec : ChangeSpec := { name := "devReads", fn := fun _ => fun
  | [d1, d2, d3] => { results := [.lit (.bool true)], args := [d1, d2, d3] }
  | _ => none }
def devReadsRow : OpenClaim := { program := "ytbfmgdkiigkioaa", sum := "e8c32b242b0485564f3fbdf7cb5f051fb24bdf3ea088b0699b586133b471acf4", func := "lavabo/lavabolaw05.DevReads", spec := "devReads", unfollowed := true, recurses := true, apart := false }
def DevReadsSaid : Prop := devReadsRow.holds Try.pinned (OpenSpec.ofChange devReadsSpec)

/-- ITS FALSE NEIGHBOUR: 'it returns false'. Refute it at one input. -/
def devReadsWrong : ChangeSpec := { name := "devReads", fn := fun _ => fun
  | [d1, d2, d3] => { results := [.lit (.bool false)], args := [d1, d2, d3] }
  | _ => none }
def DevReadsWrongFalsely : Prop := devReadsRow.holds Try.pinned (OpenSpec.ofChange devReadsWrong)

/-- 'lavabolaw05.DevPlays': WHATEVER THE INPUT: true; the input reads as it did. -/
def devPlaysSpec : ChangeSpec := { name := "devPlays", fn := fun _ => fun
  | [d1, d2] => { results := [.lit (.bool true)], args := [d1, d2] }
  | _ => none }
def devPlaysRow : OpenClaim := { program := "ytbfmgdkiigkioaa", sum := "e8c32b242b0485564f3fbdf7cb5f051fb24bdf3ea088b0699b586133b471acf4", func := "lavabo/lavabolaw05.DevPlays", spec := "devPlays", unfollowed := true, recurses := true, apart := false }
def DevPlaysSaid : Prop := devPlaysRow.holds Try.pinned (OpenSpec.ofChange devPlaysSpec)

/-- ITS FALSE NEIGHBOUR: 'it returns false'. Refute it at one input. -/
def devPlaysWrong : ChangeSpec := { name := "devPlays", fn := fun _ => fun
  | [d1, d2] => { results := [.lit (.bool false)], args := [d1, d2] }
  | _ => none }
def DevPlaysWrongFalsely : Prop := devPlaysRow.holds Try.pinned (OpenSpec.ofChange devPlaysWrong)

/-- 'lavabolaw05.DevCrashes': WHATEVER THE INPUT: true; the input reads as it did. -/
def devCrashesSpec : ChangeSpec := { name := "devCrashes", fn := fun _ => fun
  | [d1, d2, d3] => { results := [.lit (.bool true)], args := [d1, d2, d3] }
  | _ => none }
def devCrashesRow : OpenClaim := { program := "ytbfmgdkiigkioaa", sum := "e8c32b242b0485564f3fbdf7cb5f051fb24bdf3ea088b0699b586133b471acf4", func := "lavabo/lavabolaw05.DevCrashes", spec := "devCrashes", unfollowed := true, recurses := true, apart := false }
def DevCrashesSaid : Prop := devCrashesRow.holds Try.pinned (OpenSpec.ofChange devCrashesSpec)

/-- ITS FALSE NEIGHBOUR: 'it returns false'. Refute it at one input. -/
def devCrashesWrong : ChangeSpec := { name := "devCrashes", fn := fun _ => fun
  | [d1, d2, d3] => { results := [.lit (.bool false)], args := [d1, d2, d3] }
  | _ => none }
def DevCrashesWrongFalsely : Prop := devCrashesRow.holds Try.pinned (OpenSpec.ofChange devCrashesWrong)

/-- 'lavabolaw05.DevFlushes': WHATEVER THE INPUT: true; the input reads as it did. -/
def devFlushesSpec : ChangeSpec := { name := "devFlushes", fn := fun _ => fun
  | [d1, d2, d3] => { results := [.lit (.bool true)], args := [d1, d2, d3] }
  | _ => none }
def devFlushesRow : OpenClaim := { program := "ytbfmgdkiigkioaa", sum := "e8c32b242b0485564f3fbdf7cb5f051fb24bdf3ea088b0699b586133b471acf4", func := "lavabo/lavabolaw05.DevFlushes", spec := "devFlushes", unfollowed := true, recurses := true, apart := false }
def DevFlushesSaid : Prop := devFlushesRow.holds Try.pinned (OpenSpec.ofChange devFlushesSpec)

/-- ITS FALSE NEIGHBOUR: 'it returns false'. Refute it at one input. -/
def devFlushesWrong : ChangeSpec := { name := "devFlushes", fn := fun _ => fun
  | [d1, d2, d3] => { results := [.lit (.bool false)], args := [d1, d2, d3] }
  | _ => none }
def DevFlushesWrongFalsely : Prop := devFlushesRow.holds Try.pinned (OpenSpec.ofChange devFlushesWrong)

/-- 'lavabolaw05.DevFates': WHATEVER THE INPUT: true; the input reads as it did. -/
def devFatesSpec : ChangeSpec := { name := "devFates", fn := fun _ => fun
  | [d1, d2, d3] => { results := [.lit (.bool true)], args := [d1, d2, d3] }
  | _ => none }
def devFatesRow : OpenClaim := { program := "ytbfmgdkiigkioaa", sum := "e8c32b242b0485564f3fbdf7cb5f051fb24bdf3ea088b0699b586133b471acf4", func := "lavabo/lavabolaw05.DevFates", spec := "devFates", unfollowed := true, recurses := true, apart := false }
def DevFatesSaid : Prop := devFatesRow.holds Try.pinned (OpenSpec.ofChange devFatesSpec)

/-- ITS FALSE NEIGHBOUR: 'it returns false'. Refute it at one input. -/
def devFatesWrong : ChangeSpec := { name := "devFates", fn := fun _ => fun
  | [d1, d2, d3] => { results := [.lit (.bool false)], args := [d1, d2, d3] }
  | _ => none }
def DevFatesWrongFalsely : Prop := devFatesRow.holds Try.pinned (OpenSpec.ofChange devFatesWrong)

/-- 'lavabolaw05.DevNil': WHATEVER THE INPUT: true; the input reads as it did. -/
def devNilSpec : ChangeSpec := { name := "devNil", fn := fun _ => fun
  | [d1, d2] => { results := [.lit (.bool true)], args := [d1, d2] }
  | _ => none }
def devNilRow : OpenClaim := { program := "ytbfmgdkiigkioaa", sum := "e8c32b242b0485564f3fbdf7cb5f051fb24bdf3ea088b0699b586133b471acf4", func := "lavabo/lavabolaw05.DevNil", spec := "devNil", unfollowed := true, recurses := true, apart := false }
def DevNilSaid : Prop := devNilRow.holds Try.pinned (OpenSpec.ofChange devNilSpec)

/-- ITS FALSE NEIGHBOUR: 'it returns false'. Refute it at one input. -/
def devNilWrong : ChangeSpec := { name := "devNil", fn := fun _ => fun
  | [d1, d2] => { results := [.lit (.bool false)], args := [d1, d2] }
  | _ => none }
def DevNilWrongFalsely : Prop := devNilRow.holds Try.pinned (OpenSpec.ofChange devNilWrong)

/- THE SECOND FORM. 'bulk': how many values and letters a reading holds, each counted each time it is reached (what is shared counts as often as it is met; a slice's spare places count too). A statement '..UptoSaid' is the law's where the arguments, and the package variables that the reading takes, are together of bulk at most 1048576: NARROWER than '..Said'. Prove '..Said' where nothing that the law and all that it calls make is longer than what came in: it says more and counts as full. Else prove '..UptoSaid'. A law counts once. -/
mutual
def uptoBulk {H : Type} : DataW H → Nat
  | .lit (.string bytes) => bytes.length + 1
  | .lit _ => 1
  | .nil => 1
  | .ptr d => uptoBulk d + 1
  | .slice elems spare => uptoBulkAll elems + uptoBulkAll spare + 1
  | .agg parts => uptoBulkAll parts + 1
  | .iface _ d => uptoBulk d + 1
  | .map entries => uptoBulkEntries entries + 1
  | .held _ => 1
def uptoBulkAll {H : Type} : List (DataW H) → Nat
  | [] => 0
  | d :: r => uptoBulk d + uptoBulkAll r
def uptoBulkEntries {H : Type} : List (Lit × DataW H) → Nat
  | [] => 0
  | x :: r => uptoBulkEntry x + uptoBulkEntries r
def uptoBulkEntry {H : Type} : Lit × DataW H → Nat
  | (.string bytes, d) => bytes.length + uptoBulk d + 1
  | (_, d) => uptoBulk d + 1
 end
def uptoSmall : (H : Type) → List (DataW H) → Bool := fun _ ds => decide (uptoBulkAll ds ≤ 1048576)
def OpenSpec.upto (s : _root_.Go.ChangeSpec) : _root_.Go.OpenSpec := { _root_.Go.OpenSpec.ofChange s with cond := some uptoSmall }

/-- 'lavabolaw05.DevLoses', WHERE WHAT IT READS IS OF BULK AT MOST 1048576: true; the input reads as it did. -/
def devLosesUptoRow : OpenClaim := { program := "ytbfmgdkiigkioaa", sum := "e8c32b242b0485564f3fbdf7cb5f051fb24bdf3ea088b0699b586133b471acf4", func := "lavabo/lavabolaw05.DevLoses", spec := "devLoses", unfollowed := true, recurses := true, apart := false, narrowed := true }
def DevLosesUptoSaid : Prop := devLosesUptoRow.holds Try.pinned (OpenSpec.upto devLosesSpec)

/-- 'lavabolaw05.DevReads', WHERE WHAT IT READS IS OF BULK AT MOST 1048576: true; the input reads as it did. -/
def devReadsUptoRow : OpenClaim := { program := "ytbfmgdkiigkioaa", sum := "e8c32b242b0485564f3fbdf7cb5f051fb24bdf3ea088b0699b586133b471acf4", func := "lavabo/lavabolaw05.DevReads", spec := "devReads", unfollowed := true, recurses := true, apart := false, narrowed := true }
def DevReadsUptoSaid : Prop := devReadsUptoRow.holds Try.pinned (OpenSpec.upto devReadsSpec)

/-- 'lavabolaw05.DevPlays', WHERE WHAT IT READS IS OF BULK AT MOST 1048576: true; the input reads as it did. -/
def devPlaysUptoRow : OpenClaim := { program := "ytbfmgdkiigkioaa", sum := "e8c32b242b0485564f3fbdf7cb5f051fb24bdf3ea088b0699b586133b471acf4", func := "lavabo/lavabolaw05.DevPlays", spec := "devPlays", unfollowed := true, recurses := true, apart := false, narrowed := true }
def DevPlaysUptoSaid : Prop := devPlaysUptoRow.holds Try.pinned (OpenSpec.upto devPlaysSpec)

/-- 'lavabolaw05.DevCrashes', WHERE WHAT IT READS IS OF BULK AT MOST 1048576: true; the input reads as it did. -/
def devCrashesUptoRow : OpenClaim := { program := "ytbfmgdkiigkioaa", sum := "e8c32b242b0485564f3fbdf7cb5f051fb24bdf3ea088b0699b586133b471acf4", func := "lavabo/lavabolaw05.DevCrashes", spec := "devCrashes", unfollowed := true, recurses := true, apart := false, narrowed := true }
def DevCrashesUptoSaid : Prop := devCrashesUptoRow.holds Try.pinned (OpenSpec.upto devCrashesSpec)

/-- 'lavabolaw05.DevFlushes', WHERE WHAT IT READS IS OF BULK AT MOST 1048576: true; the input reads as it did. -/
def devFlushesUptoRow : OpenClaim := { program := "ytbfmgdkiigkioaa", sum := "e8c32b242b0485564f3fbdf7cb5f051fb24bdf3ea088b0699b586133b471acf4", func := "lavabo/lavabolaw05.DevFlushes", spec := "devFlushes", unfollowed := true, recurses := true, apart := false, narrowed := true }
def DevFlushesUptoSaid : Prop := devFlushesUptoRow.holds Try.pinned (OpenSpec.upto devFlushesSpec)

/-- 'lavabolaw05.DevFates', WHERE WHAT IT READS IS OF BULK AT MOST 1048576: true; the input reads as it did. -/
def devFatesUptoRow : OpenClaim := { program := "ytbfmgdkiigkioaa", sum := "e8c32b242b0485564f3fbdf7cb5f051fb24bdf3ea088b0699b586133b471acf4", func := "lavabo/lavabolaw05.DevFates", spec := "devFates", unfollowed := true, recurses := true, apart := false, narrowed := true }
def DevFatesUptoSaid : Prop := devFatesUptoRow.holds Try.pinned (OpenSpec.upto devFatesSpec)

/-- 'lavabolaw05.DevNil', WHERE WHAT IT READS IS OF BULK AT MOST 1048576: true; the input reads as it did. -/
def devNilUptoRow : OpenClaim := { program := "ytbfmgdkiigkioaa", sum := "e8c32b242b0485564f3fbdf7cb5f051fb24bdf3ea088b0699b586133b471acf4", func := "lavabo/lavabolaw05.DevNil", spec := "devNil", unfollowed := true, recurses := true, apart := false, narrowed := true }
def DevNilUptoSaid : Prop := devNilUptoRow.holds Try.pinned (OpenSpec.upto devNilSpec)

end Rows
end Go.Proofs.Ytbfmgdkiigkioaa
