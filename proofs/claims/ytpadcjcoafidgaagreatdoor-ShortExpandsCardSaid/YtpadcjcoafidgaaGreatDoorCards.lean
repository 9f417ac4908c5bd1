/-
  DERIVED. GIVEN WITH THE SEED: THE CARDS: each row of YtpadcjcoafidgaaGreatDoorRows.lean that lists a variable, with what it lists TIED to the program's text (the seventh form; the later family's looks); each row that meets fmt, with fmt's text TOLD by the authors' own Lean function (tested against real Go, not proved from fmt's source: count such statements apart). THE CARD IS WHAT COUNTS. Prove the row's statement (the work); the ties are given (YtpadcjcoafidgaaGreatDoorTie.lean); close each card by the builder's one call (the guide's Derived/Test/ToyasCard.lean, 'card_holds'). Laid BY PROGRAM, IN A SANDBOX (cutbox-door.mjs). By AI agents, Wed Nov 11 2026. No macro, syntax, notation, axiom, sorry.
-/
import Derived.Test.YtpadcjcoafidgaaGreatDoorRows
import GoSem.ClaimSeven
namespace Go.Proofs.YtpadcjcoafidgaaGreatDoor
namespace Rows

/-- THE TIED CARD OF 'gouachelaw15.ValueColors'. -/
def valueColorsCard : Claim7 := { stood := { row := valueColorsRow, standIns := [], harness := (true, "520f3a992857e4ddc01097adbdfda86b5cfe1bc51317c9fc248b7e95e8e61dd0"), looks := false }, kinds := [], alts := [], laidByText := true, laidKinds := [.data, .data, .data, .data, .widerDeep, .pinned], laidTests := true, laidLooks := .later }
def ValueColorsCardSaid : Prop := Claim7.holds Tryz.pinned (.plain (OpenSpec.ofChange valueColorsSpec)) valueColorsCard

/-- THE TIED CARD OF 'gouachelaw15.ValueInitial'. -/
def valueInitialCard : Claim7 := { stood := { row := valueInitialRow, standIns := [], harness := (true, "520f3a992857e4ddc01097adbdfda86b5cfe1bc51317c9fc248b7e95e8e61dd0"), looks := false }, kinds := [], alts := [], laidByText := true, laidKinds := [.data, .data, .data, .data, .widerDeep, .pinned], laidTests := true, laidLooks := .later }
def ValueInitialCardSaid : Prop := Claim7.holds Tryz.pinned (.plain (OpenSpec.ofChange valueInitialSpec)) valueInitialCard

/-- THE TIED CARD OF 'gouachelaw16.ShortJoins'. -/
def shortJoinsCard : Claim7 := { stood := { row := shortJoinsRow, standIns := [], harness := (true, "520f3a992857e4ddc01097adbdfda86b5cfe1bc51317c9fc248b7e95e8e61dd0"), looks := false }, kinds := [], alts := [], laidByText := true, laidKinds := [.data, .data, .data, .data, .data, .widerDeep, .data, .pinned], laidTests := true, laidLooks := .later }
def ShortJoinsCardSaid : Prop := Claim7.holds Tryz.pinned (.plain (OpenSpec.ofChange shortJoinsSpec)) shortJoinsCard

/-- THE TIED CARD OF 'gouachelaw16.ShortBack'. -/
def shortBackCard : Claim7 := { stood := { row := shortBackRow, standIns := [], harness := (true, "520f3a992857e4ddc01097adbdfda86b5cfe1bc51317c9fc248b7e95e8e61dd0"), looks := false }, kinds := [], alts := [], laidByText := true, laidKinds := [.data, .data, .data, .data, .data, .widerDeep, .data, .pinned], laidTests := true, laidLooks := .later }
def ShortBackCardSaid : Prop := Claim7.holds Tryz.pinned (.plain (OpenSpec.ofChange shortBackSpec)) shortBackCard

/-- THE TIED CARD OF 'gouachelaw16.ShortSides'. -/
def shortSidesCard : Claim7 := { stood := { row := shortSidesRow, standIns := [], harness := (true, "520f3a992857e4ddc01097adbdfda86b5cfe1bc51317c9fc248b7e95e8e61dd0"), looks := false }, kinds := [], alts := [], laidByText := true, laidKinds := [.data, .data, .data, .data, .data, .widerDeep, .data, .pinned], laidTests := true, laidLooks := .later }
def ShortSidesCardSaid : Prop := Claim7.holds Tryz.pinned (.plain (OpenSpec.ofChange shortSidesSpec)) shortSidesCard

/-- THE TIED CARD OF 'gouachelaw15.ValueBack'. -/
def valueBackCard : Claim7 := { stood := { row := valueBackRow, standIns := [], harness := (true, "520f3a992857e4ddc01097adbdfda86b5cfe1bc51317c9fc248b7e95e8e61dd0"), looks := false }, kinds := [], alts := [], laidByText := true, laidKinds := [.data, .data, .data, .data, .widerDeep, .pinned], laidTests := true, laidLooks := .later }
def ValueBackCardSaid : Prop := Claim7.holds Tryz.pinned (.plain (OpenSpec.ofChange valueBackSpec)) valueBackCard

/-- THE TIED CARD OF 'gouachelaw16.ShortExpands'. -/
def shortExpandsCard : Claim7 := { stood := { row := shortExpandsRow, standIns := [], harness := (true, "520f3a992857e4ddc01097adbdfda86b5cfe1bc51317c9fc248b7e95e8e61dd0"), looks := false }, kinds := [], alts := [], laidByText := true, laidKinds := [.data, .data, .data, .data, .data, .widerDeep, .data, .pinned], laidTests := true, laidLooks := .later }
def ShortExpandsCardSaid : Prop := Claim7.holds Tryz.pinned (.plain (OpenSpec.ofChange shortExpandsSpec)) shortExpandsCard

/-- THE TIED CARD OF 'gouachelaw16.ShortWide'. -/
def shortWideCard : Claim7 := { stood := { row := shortWideRow, standIns := [], harness := (true, "520f3a992857e4ddc01097adbdfda86b5cfe1bc51317c9fc248b7e95e8e61dd0"), looks := false }, kinds := [], alts := [], laidByText := true, laidKinds := [.data, .data, .data, .data, .data, .widerDeep, .data, .pinned], laidTests := true, laidLooks := .later }
def ShortWideCardSaid : Prop := Claim7.holds Tryz.pinned (.plain (OpenSpec.ofChange shortWideSpec)) shortWideCard

/-- THE SECOND FORM's CARD OF 'gouachelaw15.ValueColors'. -/
def valueColorsUptoCard : Claim7 := { stood := { row := valueColorsUptoRow, standIns := [], harness := (true, "520f3a992857e4ddc01097adbdfda86b5cfe1bc51317c9fc248b7e95e8e61dd0"), looks := false }, kinds := [], alts := [], laidByText := true, laidKinds := [.data, .data, .data, .data, .widerDeep, .pinned], laidTests := true, laidLooks := .later }
def ValueColorsUptoCardSaid : Prop := Claim7.holds Tryz.pinned (.plain (OpenSpec.upto valueColorsSpec)) valueColorsUptoCard

/-- THE SECOND FORM's CARD OF 'gouachelaw15.ValueInitial'. -/
def valueInitialUptoCard : Claim7 := { stood := { row := valueInitialUptoRow, standIns := [], harness := (true, "520f3a992857e4ddc01097adbdfda86b5cfe1bc51317c9fc248b7e95e8e61dd0"), looks := false }, kinds := [], alts := [], laidByText := true, laidKinds := [.data, .data, .data, .data, .widerDeep, .pinned], laidTests := true, laidLooks := .later }
def ValueInitialUptoCardSaid : Prop := Claim7.holds Tryz.pinned (.plain (OpenSpec.upto valueInitialSpec)) valueInitialUptoCard

/-- THE SECOND FORM's CARD OF 'gouachelaw16.ShortJoins'. -/
def shortJoinsUptoCard : Claim7 := { stood := { row := shortJoinsUptoRow, standIns := [], harness := (true, "520f3a992857e4ddc01097adbdfda86b5cfe1bc51317c9fc248b7e95e8e61dd0"), looks := false }, kinds := [], alts := [], laidByText := true, laidKinds := [.data, .data, .data, .data, .data, .widerDeep, .data, .pinned], laidTests := true, laidLooks := .later }
def ShortJoinsUptoCardSaid : Prop := Claim7.holds Tryz.pinned (.plain (OpenSpec.upto shortJoinsSpec)) shortJoinsUptoCard

/-- THE SECOND FORM's CARD OF 'gouachelaw16.ShortBack'. -/
def shortBackUptoCard : Claim7 := { stood := { row := shortBackUptoRow, standIns := [], harness := (true, "520f3a992857e4ddc01097adbdfda86b5cfe1bc51317c9fc248b7e95e8e61dd0"), looks := false }, kinds := [], alts := [], laidByText := true, laidKinds := [.data, .data, .data, .data, .data, .widerDeep, .data, .pinned], laidTests := true, laidLooks := .later }
def ShortBackUptoCardSaid : Prop := Claim7.holds Tryz.pinned (.plain (OpenSpec.upto shortBackSpec)) shortBackUptoCard

/-- THE SECOND FORM's CARD OF 'gouachelaw16.ShortSides'. -/
def shortSidesUptoCard : Claim7 := { stood := { row := shortSidesUptoRow, standIns := [], harness := (true, "520f3a992857e4ddc01097adbdfda86b5cfe1bc51317c9fc248b7e95e8e61dd0"), looks := false }, kinds := [], alts := [], laidByText := true, laidKinds := [.data, .data, .data, .data, .data, .widerDeep, .data, .pinned], laidTests := true, laidLooks := .later }
def ShortSidesUptoCardSaid : Prop := Claim7.holds Tryz.pinned (.plain (OpenSpec.upto shortSidesSpec)) shortSidesUptoCard

/-- THE SECOND FORM's CARD OF 'gouachelaw15.ValueBack'. -/
def valueBackUptoCard : Claim7 := { stood := { row := valueBackUptoRow, standIns := [], harness := (true, "520f3a992857e4ddc01097adbdfda86b5cfe1bc51317c9fc248b7e95e8e61dd0"), looks := false }, kinds := [], alts := [], laidByText := true, laidKinds := [.data, .data, .data, .data, .widerDeep, .pinned], laidTests := true, laidLooks := .later }
def ValueBackUptoCardSaid : Prop := Claim7.holds Tryz.pinned (.plain (OpenSpec.upto valueBackSpec)) valueBackUptoCard

/-- THE SECOND FORM's CARD OF 'gouachelaw16.ShortExpands'. -/
def shortExpandsUptoCard : Claim7 := { stood := { row := shortExpandsUptoRow, standIns := [], harness := (true, "520f3a992857e4ddc01097adbdfda86b5cfe1bc51317c9fc248b7e95e8e61dd0"), looks := false }, kinds := [], alts := [], laidByText := true, laidKinds := [.data, .data, .data, .data, .data, .widerDeep, .data, .pinned], laidTests := true, laidLooks := .later }
def ShortExpandsUptoCardSaid : Prop := Claim7.holds Tryz.pinned (.plain (OpenSpec.upto shortExpandsSpec)) shortExpandsUptoCard

/-- THE SECOND FORM's CARD OF 'gouachelaw16.ShortWide'. -/
def shortWideUptoCard : Claim7 := { stood := { row := shortWideUptoRow, standIns := [], harness := (true, "520f3a992857e4ddc01097adbdfda86b5cfe1bc51317c9fc248b7e95e8e61dd0"), looks := false }, kinds := [], alts := [], laidByText := true, laidKinds := [.data, .data, .data, .data, .data, .widerDeep, .data, .pinned], laidTests := true, laidLooks := .later }
def ShortWideUptoCardSaid : Prop := Claim7.holds Tryz.pinned (.plain (OpenSpec.upto shortWideSpec)) shortWideUptoCard
end Rows
end Go.Proofs.YtpadcjcoafidgaaGreatDoor
