/-
  No cell of these rows narrows 'for every input' (looked for: loops, veiled, ifaces, maps, wideKeys, modest, calm, conditions, laid).
  DERIVED. THE GIVEN ROWS OF THIS SEAT. 6 by the template 'for every input the law returns true; each argument reads behind the call as it read before'; 0 by the template 'total and deterministic' (their statements: YtofeodhekpnpaaaTotals.lean).
  GIVEN WITH THE SEED: the statements are not yours to turn. If you find one false, say at which input.
  Laid BY PROGRAM, IN A SANDBOX (cutbox-rows.mjs): the forced cells as the released guide's own fill.sh prints them over the translation 0f767239f0bd751b… (all of the seat's roots in one cut). By AI agents, Wed Nov 11 2026. No macro, syntax, notation, axiom, sorry.
-/
import Derived.Test.YtofeodhekpnpaaaChecked
import GoSem.Claim
import GoSem.ClaimJoined
import GoSem.ClaimMapViews
import Derived.JoinedTies
import Derived.KernelRfl
namespace Go.Proofs.Ytofeodhekpnpaaa
/- THE CELL 'sum', in the pinned program and in every row, IS THE sha256 OF THE DUMP (.gsa) THAT YtofeodhekpnpaaaProg.lean LOADS. Nothing in Lean hashes anything: it is a label: what it is worth is what the hold of that sum in a sandbox is worth. -/
noncomputable def Try.pinned : Pinned := { name := "ytofeodhekpnpaaa", sum := "0f767239f0bd751bf033fc0e68fa3898594cca80078340ad0138789694d4e19d", checked := Try.checked }
namespace Rows
def none {H : Type} : Left H := { results := [], args := [] }

/-- 'lavabolaw09.IndexOne': WHATEVER THE INPUT: true; the input reads as it did. -/
def indexOneSpec : ChangeSpec := { name := "indexOne", fn := fun _ => fun
  | [d] => { results := [.lit (.bool true)], args := [d] }
  | _ => none }
def indexOneRow : OpenClaim := { program := "ytofeodhekpnpaaa", sum := "0f767239f0bd751bf033fc0e68fa3898594cca80078340ad0138789694d4e19d", func := "lavabo/lavabolaw09.IndexOne", spec := "indexOne", unfollowed := true, recurses := true, apart := false }
def IndexOneSaid : Prop := indexOneRow.holds Try.pinned (OpenSpec.ofChange indexOneSpec)

/-- ITS FALSE NEIGHBOUR: 'it returns false'. Refute it at one input. -/
def indexOneWrong : ChangeSpec := { name := "indexOne", fn := fun _ => fun
  | [d] => { results := [.lit (.bool false)], args := [d] }
  | _ => none }
def IndexOneWrongFalsely : Prop := indexOneRow.holds Try.pinned (OpenSpec.ofChange indexOneWrong)

/-- 'lavabolaw09.IndexCleans': WHATEVER THE INPUT: true; the input reads as it did. -/
def indexCleansSpec : ChangeSpec := { name := "indexCleans", fn := fun _ => fun
  | [d1, d2] => { results := [.lit (.bool true)], args := [d1, d2] }
  | _ => none }
def indexCleansRow : OpenClaim := { program := "ytofeodhekpnpaaa", sum := "0f767239f0bd751bf033fc0e68fa3898594cca80078340ad0138789694d4e19d", func := "lavabo/lavabolaw09.IndexCleans", spec := "indexCleans", inPlace := ["maps.clone"], apart := false }
def IndexCleansSaid : Prop := indexCleansRow.holds Try.pinned (OpenSpec.ofChange indexCleansSpec)

/-- ITS FALSE NEIGHBOUR: 'it returns false'. Refute it at one input. -/
def indexCleansWrong : ChangeSpec := { name := "indexCleans", fn := fun _ => fun
  | [d1, d2] => { results := [.lit (.bool false)], args := [d1, d2] }
  | _ => none }
def IndexCleansWrongFalsely : Prop := indexCleansRow.holds Try.pinned (OpenSpec.ofChange indexCleansWrong)

/-- 'lavabolaw09.IndexSpans': WHATEVER THE INPUT: true; the input reads as it did. -/
def indexSpansSpec : ChangeSpec := { name := "indexSpans", fn := fun _ => fun
  | [d1, d2, d3] => { results := [.lit (.bool true)], args := [d1, d2, d3] }
  | _ => none }
def indexSpansRow : OpenClaim := { program := "ytofeodhekpnpaaa", sum := "0f767239f0bd751bf033fc0e68fa3898594cca80078340ad0138789694d4e19d", func := "lavabo/lavabolaw09.IndexSpans", spec := "indexSpans", unfollowed := true, recurses := true, apart := false }
def IndexSpansSaid : Prop := indexSpansRow.holds Try.pinned (OpenSpec.ofChange indexSpansSpec)

/-- ITS FALSE NEIGHBOUR: 'it returns false'. Refute it at one input. -/
def indexSpansWrong : ChangeSpec := { name := "indexSpans", fn := fun _ => fun
  | [d1, d2, d3] => { results := [.lit (.bool false)], args := [d1, d2, d3] }
  | _ => none }
def IndexSpansWrongFalsely : Prop := indexSpansRow.holds Try.pinned (OpenSpec.ofChange indexSpansWrong)

/-- 'lavabolaw09.IndexBack': WHATEVER THE INPUT: true; the input reads as it did. -/
def indexBackSpec : ChangeSpec := { name := "indexBack", fn := fun _ => fun
  | [d1, d2] => { results := [.lit (.bool true)], args := [d1, d2] }
  | _ => none }
def indexBackRow : OpenClaim := { program := "ytofeodhekpnpaaa", sum := "0f767239f0bd751bf033fc0e68fa3898594cca80078340ad0138789694d4e19d", func := "lavabo/lavabolaw09.IndexBack", spec := "indexBack", inPlace := ["maps.clone"], unfollowed := true, recurses := true, apart := false }
def IndexBackSaid : Prop := indexBackRow.holds Try.pinned (OpenSpec.ofChange indexBackSpec)

/-- ITS FALSE NEIGHBOUR: 'it returns false'. Refute it at one input. -/
def indexBackWrong : ChangeSpec := { name := "indexBack", fn := fun _ => fun
  | [d1, d2] => { results := [.lit (.bool false)], args := [d1, d2] }
  | _ => none }
def IndexBackWrongFalsely : Prop := indexBackRow.holds Try.pinned (OpenSpec.ofChange indexBackWrong)

/-- 'lavabolaw09.IndexPlays': WHATEVER THE INPUT: true; the input reads as it did. -/
def indexPlaysSpec : ChangeSpec := { name := "indexPlays", fn := fun _ => fun
  | [d1, d2, d3] => { results := [.lit (.bool true)], args := [d1, d2, d3] }
  | _ => none }
def indexPlaysRow : OpenClaim := { program := "ytofeodhekpnpaaa", sum := "0f767239f0bd751bf033fc0e68fa3898594cca80078340ad0138789694d4e19d", func := "lavabo/lavabolaw09.IndexPlays", spec := "indexPlays", unfollowed := true, recurses := true, apart := false }
def IndexPlaysSaid : Prop := indexPlaysRow.holds Try.pinned (OpenSpec.ofChange indexPlaysSpec)

/-- ITS FALSE NEIGHBOUR: 'it returns false'. Refute it at one input. -/
def indexPlaysWrong : ChangeSpec := { name := "indexPlays", fn := fun _ => fun
  | [d1, d2, d3] => { results := [.lit (.bool false)], args := [d1, d2, d3] }
  | _ => none }
def IndexPlaysWrongFalsely : Prop := indexPlaysRow.holds Try.pinned (OpenSpec.ofChange indexPlaysWrong)

/-- 'lavabolaw09.IndexNil': WHATEVER THE INPUT: true; the input reads as it did. -/
def indexNilSpec : ChangeSpec := { name := "indexNil", fn := fun _ => fun
  | [d] => { results := [.lit (.bool true)], args := [d] }
  | _ => none }
def indexNilRow : OpenClaim := { program := "ytofeodhekpnpaaa", sum := "0f767239f0bd751bf033fc0e68fa3898594cca80078340ad0138789694d4e19d", func := "lavabo/lavabolaw09.IndexNil", spec := "indexNil", inPlace := ["maps.clone"], unfollowed := true, recurses := true, apart := false }
def IndexNilSaid : Prop := indexNilRow.holds Try.pinned (OpenSpec.ofChange indexNilSpec)

/-- ITS FALSE NEIGHBOUR: 'it returns false'. Refute it at one input. -/
def indexNilWrong : ChangeSpec := { name := "indexNil", fn := fun _ => fun
  | [d] => { results := [.lit (.bool false)], args := [d] }
  | _ => none }
def IndexNilWrongFalsely : Prop := indexNilRow.holds Try.pinned (OpenSpec.ofChange indexNilWrong)

/- THE SECOND FORM. 'bulk': how many values and letters a reading holds, each counted each time it is reached (what is shared counts as often as it is met; a slice's spare places count too). A statement '..UptoSaid' is the law's where the arguments, and the package variables that the reading takes, are together of bulk at most 1048576: NARROWER than '..Said'. Prove '..Said' where nothing that the law and all that it calls make is longer than what came in: it says more and counts as full. Else prove '..UptoSaid'. A law counts once. -/
mutual
def uptoBulk {H : Type} : DataW H → Nat
  | .lit (.string bytes) => bytes.length + 1
  | .lit _ => 1
  | .nil => 1
  | .ptr d => uptoBulk d + 1
  | .slice elems spare => uptoBulkAll elems + uptoBulkAll spare + 1
  | .agg parts => uptoBulkAll parts + 1
  | .iface _ d => uptoBulk d + 1
  | .map entries => uptoBulkEntries entries + 1
  | .held _ => 1
def uptoBulkAll {H : Type} : List (DataW H) → Nat
  | [] => 0
  | d :: r => uptoBulk d + uptoBulkAll r
def uptoBulkEntries {H : Type} : List (Lit × DataW H) → Nat
  | [] => 0
  | x :: r => uptoBulkEntry x + uptoBulkEntries r
def uptoBulkEntry {H : Type} : Lit × DataW H → Nat
  | (.string bytes, d) => bytes.length + uptoBulk d + 1
  | (_, d) => uptoBulk d + 1
 end
def uptoSmall : (H : Type) → List (DataW H) → Bool := fun _ ds => decide (uptoBulkAll ds ≤ 1048576)
def OpenSpec.upto (s : _root_.Go.ChangeSpec) : _root_.Go.OpenSpec := { _root_.Go.OpenSpec.ofChange s with cond := some uptoSmall }

/-- 'lavabolaw09.IndexOne', WHERE WHAT IT READS IS OF BULK AT MOST 1048576: true; the input reads as it did. -/
def indexOneUptoRow : OpenClaim := { program := "ytofeodhekpnpaaa", sum := "0f767239f0bd751bf033fc0e68fa3898594cca80078340ad0138789694d4e19d", func := "lavabo/lavabolaw09.IndexOne", spec := "indexOne", unfollowed := true, recurses := true, apart := false, narrowed := true }
def IndexOneUptoSaid : Prop := indexOneUptoRow.holds Try.pinned (OpenSpec.upto indexOneSpec)

/-- 'lavabolaw09.IndexCleans', WHERE WHAT IT READS IS OF BULK AT MOST 1048576: true; the input reads as it did. -/
def indexCleansUptoRow : OpenClaim := { program := "ytofeodhekpnpaaa", sum := "0f767239f0bd751bf033fc0e68fa3898594cca80078340ad0138789694d4e19d", func := "lavabo/lavabolaw09.IndexCleans", spec := "indexCleans", inPlace := ["maps.clone"], apart := false, narrowed := true }
def IndexCleansUptoSaid : Prop := indexCleansUptoRow.holds Try.pinned (OpenSpec.upto indexCleansSpec)

/-- 'lavabolaw09.IndexSpans', WHERE WHAT IT READS IS OF BULK AT MOST 1048576: true; the input reads as it did. -/
def indexSpansUptoRow : OpenClaim := { program := "ytofeodhekpnpaaa", sum := "0f767239f0bd751bf033fc0e68fa3898594cca80078340ad0138789694d4e19d", func := "lavabo/lavabolaw09.IndexSpans", spec := "indexSpans", unfollowed := true, recurses := true, apart := false, narrowed := true }
def IndexSpansUptoSaid : Prop := indexSpansUptoRow.holds Try.pinned (OpenSpec.upto indexSpansSpec)

/-- 'lavabolaw09.IndexBack', WHERE WHAT IT READS IS OF BULK AT MOST 1048576: true; the input reads as it did. -/
def indexBackUptoRow : OpenClaim := { program := "ytofeodhekpnpaaa", sum := "0f767239f0bd751bf033fc0e68fa3898594cca80078340ad0138789694d4e19d", func := "lavabo/lavabolaw09.IndexBack", spec := "indexBack", inPlace := ["maps.clone"], unfollowed := true, recurses := true, apart := false, narrowed := true }
def IndexBackUptoSaid : Prop := indexBackUptoRow.holds Try.pinned (OpenSpec.upto indexBackSpec)

/-- 'lavabolaw09.IndexPlays', WHERE WHAT IT READS IS OF BULK AT MOST 1048576: true; the input reads as it did. -/
def indexPlaysUptoRow : OpenClaim := { program := "ytofeodhekpnpaaa", sum := "0f767239f0bd751bf033fc0e68fa3898594cca80078340ad0138789694d4e19d", func := "lavabo/lavabolaw09.IndexPlays", spec := "indexPlays", unfollowed := true, recurses := true, apart := false, narrowed := true }
def IndexPlaysUptoSaid : Prop := indexPlaysUptoRow.holds Try.pinned (OpenSpec.upto indexPlaysSpec)

/-- 'lavabolaw09.IndexNil', WHERE WHAT IT READS IS OF BULK AT MOST 1048576: true; the input reads as it did. -/
def indexNilUptoRow : OpenClaim := { program := "ytofeodhekpnpaaa", sum := "0f767239f0bd751bf033fc0e68fa3898594cca80078340ad0138789694d4e19d", func := "lavabo/lavabolaw09.IndexNil", spec := "indexNil", inPlace := ["maps.clone"], unfollowed := true, recurses := true, apart := false, narrowed := true }
def IndexNilUptoSaid : Prop := indexNilUptoRow.holds Try.pinned (OpenSpec.upto indexNilSpec)

end Rows
end Go.Proofs.Ytofeodhekpnpaaa
