/-
  DERIVED. GIVEN WITH THE SEED: THE CARDS: each row of YtpadcjcoafidgaaDoorRows.lean that lists a variable, with what it lists TIED to the program's text (the seventh form; the later family's looks); each row that meets fmt, with fmt's text TOLD by the authors' own Lean function (tested against real Go, not proved from fmt's source: count such statements apart). THE CARD IS WHAT COUNTS. Prove the row's statement (the work); the ties are given (YtpadcjcoafidgaaDoorTie.lean); close each card by the builder's one call (the guide's Derived/Test/ToyasCard.lean, 'card_holds'). Laid BY PROGRAM, IN A SANDBOX (cutbox-door.mjs). By AI agents, Wed Nov 11 2026. No macro, syntax, notation, axiom, sorry.
-/
import Derived.Test.YtpadcjcoafidgaaDoorRows
import GoSem.ClaimSeven
namespace Go.Proofs.YtpadcjcoafidgaaDoor
namespace Rows

/-- THE TIED CARD OF 'gouachelaw14.PropAll'. -/
def propAllCard : Claim7 := { stood := { row := propAllRow, standIns := [], harness := (true, "08a9fb8692f008a183d354d4f72455c9e11a8fd1959709c77def47e3d051d74f"), looks := false }, kinds := [], alts := [], laidByText := true, laidKinds := [.data], laidTests := true, laidLooks := .later }
def PropAllCardSaid : Prop := Claim7.holds Tryd.pinned (.plain (OpenSpec.ofChange propAllSpec)) propAllCard

/-- THE TIED CARD OF 'gouachelaw14.PropFinds'. -/
def propFindsCard : Claim7 := { stood := { row := propFindsRow, standIns := [], harness := (true, "08a9fb8692f008a183d354d4f72455c9e11a8fd1959709c77def47e3d051d74f"), looks := false }, kinds := [], alts := [], laidByText := true, laidKinds := [.data, .data, .pinned], laidTests := true, laidLooks := .later }
def PropFindsCardSaid : Prop := Claim7.holds Tryd.pinned (.plain (OpenSpec.ofChange propFindsSpec)) propFindsCard

/-- THE TIED CARD OF 'gouachelaw14.PropParts'. -/
def propPartsCard : Claim7 := { stood := { row := propPartsRow, standIns := [], harness := (true, "08a9fb8692f008a183d354d4f72455c9e11a8fd1959709c77def47e3d051d74f"), looks := false }, kinds := [], alts := [], laidByText := true, laidKinds := [.data, .data, .pinned], laidTests := true, laidLooks := .later }
def PropPartsCardSaid : Prop := Claim7.holds Tryd.pinned (.plain (OpenSpec.ofChange propPartsSpec)) propPartsCard

/-- THE TIED CARD OF 'gouachelaw14.PropForms'. -/
def propFormsCard : Claim7 := { stood := { row := propFormsRow, standIns := [], harness := (true, "08a9fb8692f008a183d354d4f72455c9e11a8fd1959709c77def47e3d051d74f"), looks := false }, kinds := [], alts := [], laidByText := true, laidKinds := [.data, .data, .pinned], laidTests := true, laidLooks := .later }
def PropFormsCardSaid : Prop := Claim7.holds Tryd.pinned (.plain (OpenSpec.ofChange propFormsSpec)) propFormsCard

/-- THE SECOND FORM's CARD OF 'gouachelaw14.PropAll'. -/
def propAllUptoCard : Claim7 := { stood := { row := propAllUptoRow, standIns := [], harness := (true, "08a9fb8692f008a183d354d4f72455c9e11a8fd1959709c77def47e3d051d74f"), looks := false }, kinds := [], alts := [], laidByText := true, laidKinds := [.data], laidTests := true, laidLooks := .later }
def PropAllUptoCardSaid : Prop := Claim7.holds Tryd.pinned (.plain (OpenSpec.upto propAllSpec)) propAllUptoCard

/-- THE SECOND FORM's CARD OF 'gouachelaw14.PropFinds'. -/
def propFindsUptoCard : Claim7 := { stood := { row := propFindsUptoRow, standIns := [], harness := (true, "08a9fb8692f008a183d354d4f72455c9e11a8fd1959709c77def47e3d051d74f"), looks := false }, kinds := [], alts := [], laidByText := true, laidKinds := [.data, .data, .pinned], laidTests := true, laidLooks := .later }
def PropFindsUptoCardSaid : Prop := Claim7.holds Tryd.pinned (.plain (OpenSpec.upto propFindsSpec)) propFindsUptoCard

/-- THE SECOND FORM's CARD OF 'gouachelaw14.PropParts'. -/
def propPartsUptoCard : Claim7 := { stood := { row := propPartsUptoRow, standIns := [], harness := (true, "08a9fb8692f008a183d354d4f72455c9e11a8fd1959709c77def47e3d051d74f"), looks := false }, kinds := [], alts := [], laidByText := true, laidKinds := [.data, .data, .pinned], laidTests := true, laidLooks := .later }
def PropPartsUptoCardSaid : Prop := Claim7.holds Tryd.pinned (.plain (OpenSpec.upto propPartsSpec)) propPartsUptoCard

/-- THE SECOND FORM's CARD OF 'gouachelaw14.PropForms'. -/
def propFormsUptoCard : Claim7 := { stood := { row := propFormsUptoRow, standIns := [], harness := (true, "08a9fb8692f008a183d354d4f72455c9e11a8fd1959709c77def47e3d051d74f"), looks := false }, kinds := [], alts := [], laidByText := true, laidKinds := [.data, .data, .pinned], laidTests := true, laidLooks := .later }
def PropFormsUptoCardSaid : Prop := Claim7.holds Tryd.pinned (.plain (OpenSpec.upto propFormsSpec)) propFormsUptoCard
end Rows
end Go.Proofs.YtpadcjcoafidgaaDoor
