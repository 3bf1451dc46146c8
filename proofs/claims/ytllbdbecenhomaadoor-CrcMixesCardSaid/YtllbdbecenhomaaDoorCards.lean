/-
  DERIVED. GIVEN WITH THE SEED: THE CARDS: each row of YtllbdbecenhomaaDoorRows.lean that lists a variable, with what it lists TIED to the program's text (the seventh form; the later family's looks); each row that meets fmt, with fmt's text TOLD by the authors' own Lean function (tested against real Go, not proved from fmt's source: count such statements apart). THE CARD IS WHAT COUNTS. Prove the row's statement (the work); the ties are given (YtllbdbecenhomaaDoorTie.lean); close each card by the builder's one call (the guide's Derived/Test/ToyasCard.lean, 'card_holds'). Laid BY PROGRAM, IN A SANDBOX (cutbox-door.mjs). By AI agents, Wed Nov 11 2026. No macro, syntax, notation, axiom, sorry.
-/
import Derived.Test.YtllbdbecenhomaaDoorRows
import GoSem.ClaimSeven
namespace Go.Proofs.YtllbdbecenhomaaDoor
namespace Rows

/-- THE TIED CARD OF 'lavabolaw01.CrcSums'. -/
def crcSumsCard : Claim7 := { stood := { row := crcSumsRow, standIns := [], harness := (true, "adae4f21967d5b915589a1f5fab1e8bf1a4dbb306fbee3892e28b52dddc1cb4b"), looks := false }, kinds := [], alts := [], laidByText := true, laidKinds := [.data], laidTests := true, laidLooks := .later }
def CrcSumsCardSaid : Prop := Claim7.holds Tryd.pinned (.plain (OpenSpec.ofChange crcSumsSpec)) crcSumsCard

/-- THE TIED CARD OF 'lavabolaw01.CrcMixes'. -/
def crcMixesCard : Claim7 := { stood := { row := crcMixesRow, standIns := [], harness := (true, "adae4f21967d5b915589a1f5fab1e8bf1a4dbb306fbee3892e28b52dddc1cb4b"), looks := false }, kinds := [], alts := [], laidByText := true, laidKinds := [.data], laidTests := true, laidLooks := .later }
def CrcMixesCardSaid : Prop := Claim7.holds Tryd.pinned (.plain (OpenSpec.ofChange crcMixesSpec)) crcMixesCard

/-- THE TIED CARD OF 'lavabolaw01.CrcTells'. -/
def crcTellsCard : Claim7 := { stood := { row := crcTellsRow, standIns := [], harness := (true, "adae4f21967d5b915589a1f5fab1e8bf1a4dbb306fbee3892e28b52dddc1cb4b"), looks := false }, kinds := [], alts := [], laidByText := true, laidKinds := [.data], laidTests := true, laidLooks := .later }
def CrcTellsCardSaid : Prop := Claim7.holds Tryd.pinned (.plain (OpenSpec.ofChange crcTellsSpec)) crcTellsCard

/-- THE TIED CARD OF 'lavabolaw01.CrcJoins'. -/
def crcJoinsCard : Claim7 := { stood := { row := crcJoinsRow, standIns := [], harness := (true, "adae4f21967d5b915589a1f5fab1e8bf1a4dbb306fbee3892e28b52dddc1cb4b"), looks := false }, kinds := [], alts := [], laidByText := true, laidKinds := [.data], laidTests := true, laidLooks := .later }
def CrcJoinsCardSaid : Prop := Claim7.holds Tryd.pinned (.plain (OpenSpec.ofChange crcJoinsSpec)) crcJoinsCard

/-- THE TIED CARD OF 'lavabolaw01.CrcParts'. -/
def crcPartsCard : Claim7 := { stood := { row := crcPartsRow, standIns := [], harness := (true, "adae4f21967d5b915589a1f5fab1e8bf1a4dbb306fbee3892e28b52dddc1cb4b"), looks := false }, kinds := [], alts := [], laidByText := true, laidKinds := [.data], laidTests := true, laidLooks := .later }
def CrcPartsCardSaid : Prop := Claim7.holds Tryd.pinned (.plain (OpenSpec.ofChange crcPartsSpec)) crcPartsCard

/-- THE TIED CARD OF 'lavabolaw01.CrcGrows'. -/
def crcGrowsCard : Claim7 := { stood := { row := crcGrowsRow, standIns := [], harness := (true, "adae4f21967d5b915589a1f5fab1e8bf1a4dbb306fbee3892e28b52dddc1cb4b"), looks := false }, kinds := [], alts := [], laidByText := true, laidKinds := [.data], laidTests := true, laidLooks := .later }
def CrcGrowsCardSaid : Prop := Claim7.holds Tryd.pinned (.plain (OpenSpec.ofChange crcGrowsSpec)) crcGrowsCard

/-- THE SECOND FORM's CARD OF 'lavabolaw01.CrcSums'. -/
def crcSumsUptoCard : Claim7 := { stood := { row := crcSumsUptoRow, standIns := [], harness := (true, "adae4f21967d5b915589a1f5fab1e8bf1a4dbb306fbee3892e28b52dddc1cb4b"), looks := false }, kinds := [], alts := [], laidByText := true, laidKinds := [.data], laidTests := true, laidLooks := .later }
def CrcSumsUptoCardSaid : Prop := Claim7.holds Tryd.pinned (.plain (OpenSpec.upto crcSumsSpec)) crcSumsUptoCard

/-- THE SECOND FORM's CARD OF 'lavabolaw01.CrcMixes'. -/
def crcMixesUptoCard : Claim7 := { stood := { row := crcMixesUptoRow, standIns := [], harness := (true, "adae4f21967d5b915589a1f5fab1e8bf1a4dbb306fbee3892e28b52dddc1cb4b"), looks := false }, kinds := [], alts := [], laidByText := true, laidKinds := [.data], laidTests := true, laidLooks := .later }
def CrcMixesUptoCardSaid : Prop := Claim7.holds Tryd.pinned (.plain (OpenSpec.upto crcMixesSpec)) crcMixesUptoCard

/-- THE SECOND FORM's CARD OF 'lavabolaw01.CrcTells'. -/
def crcTellsUptoCard : Claim7 := { stood := { row := crcTellsUptoRow, standIns := [], harness := (true, "adae4f21967d5b915589a1f5fab1e8bf1a4dbb306fbee3892e28b52dddc1cb4b"), looks := false }, kinds := [], alts := [], laidByText := true, laidKinds := [.data], laidTests := true, laidLooks := .later }
def CrcTellsUptoCardSaid : Prop := Claim7.holds Tryd.pinned (.plain (OpenSpec.upto crcTellsSpec)) crcTellsUptoCard

/-- THE SECOND FORM's CARD OF 'lavabolaw01.CrcJoins'. -/
def crcJoinsUptoCard : Claim7 := { stood := { row := crcJoinsUptoRow, standIns := [], harness := (true, "adae4f21967d5b915589a1f5fab1e8bf1a4dbb306fbee3892e28b52dddc1cb4b"), looks := false }, kinds := [], alts := [], laidByText := true, laidKinds := [.data], laidTests := true, laidLooks := .later }
def CrcJoinsUptoCardSaid : Prop := Claim7.holds Tryd.pinned (.plain (OpenSpec.upto crcJoinsSpec)) crcJoinsUptoCard

/-- THE SECOND FORM's CARD OF 'lavabolaw01.CrcParts'. -/
def crcPartsUptoCard : Claim7 := { stood := { row := crcPartsUptoRow, standIns := [], harness := (true, "adae4f21967d5b915589a1f5fab1e8bf1a4dbb306fbee3892e28b52dddc1cb4b"), looks := false }, kinds := [], alts := [], laidByText := true, laidKinds := [.data], laidTests := true, laidLooks := .later }
def CrcPartsUptoCardSaid : Prop := Claim7.holds Tryd.pinned (.plain (OpenSpec.upto crcPartsSpec)) crcPartsUptoCard

/-- THE SECOND FORM's CARD OF 'lavabolaw01.CrcGrows'. -/
def crcGrowsUptoCard : Claim7 := { stood := { row := crcGrowsUptoRow, standIns := [], harness := (true, "adae4f21967d5b915589a1f5fab1e8bf1a4dbb306fbee3892e28b52dddc1cb4b"), looks := false }, kinds := [], alts := [], laidByText := true, laidKinds := [.data], laidTests := true, laidLooks := .later }
def CrcGrowsUptoCardSaid : Prop := Claim7.holds Tryd.pinned (.plain (OpenSpec.upto crcGrowsSpec)) crcGrowsUptoCard
end Rows
end Go.Proofs.YtllbdbecenhomaaDoor
