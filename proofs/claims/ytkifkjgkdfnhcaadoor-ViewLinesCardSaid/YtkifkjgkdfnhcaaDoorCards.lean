/-
  DERIVED. GIVEN WITH THE SEED: THE CARDS: each row of YtkifkjgkdfnhcaaDoorRows.lean that lists a variable, with what it lists TIED to the program's text (the seventh form; the later family's looks); each row that meets fmt, with fmt's text TOLD by the authors' own Lean function (tested against real Go, not proved from fmt's source: count such statements apart). THE CARD IS WHAT COUNTS. Prove the row's statement (the work); the ties are given (YtkifkjgkdfnhcaaDoorTie.lean); close each card by the builder's one call (the guide's Derived/Test/ToyasCard.lean, 'card_holds'). Laid BY PROGRAM, IN A SANDBOX (cutbox-door.mjs). By AI agents, Wed Nov 11 2026. No macro, syntax, notation, axiom, sorry.
-/
import Derived.Test.YtkifkjgkdfnhcaaDoorRows
import GoSem.ClaimSeven
namespace Go.Proofs.YtkifkjgkdfnhcaaDoor
namespace Rows

/-- THE TIED CARD OF 'annuitylaw27.ViewWords'. -/
def viewWordsCard : Claim7 := { stood := { row := viewWordsRow, standIns := [], harness := (true, "a7da898100bfd4dd17fe9d8fcf3d18f1c7805abb066d42987a47c7afb687dc2a"), looks := true }, kinds := [], alts := [], laidByText := true, laidKinds := [.data, .data, .data], laidTests := true, laidLooks := .later }
def ViewWordsCardSaid : Prop := Claim7.holds Tryd.pinned (.plain (OpenSpec.ofChange viewWordsSpec)) viewWordsCard

/-- THE TIED CARD OF 'annuitylaw27.ViewApart'. -/
def viewApartCard : Claim7 := { stood := { row := viewApartRow, standIns := [], harness := (true, "a7da898100bfd4dd17fe9d8fcf3d18f1c7805abb066d42987a47c7afb687dc2a"), looks := true }, kinds := [], alts := [], laidByText := true, laidKinds := [.data, .data, .data], laidTests := true, laidLooks := .later }
def ViewApartCardSaid : Prop := Claim7.holds Tryd.pinned (.plain (OpenSpec.ofChange viewApartSpec)) viewApartCard

/-- THE TIED CARD OF 'annuitylaw27.ViewLines'. -/
def viewLinesCard : Claim7 := { stood := { row := viewLinesRow, standIns := [], harness := (true, "a7da898100bfd4dd17fe9d8fcf3d18f1c7805abb066d42987a47c7afb687dc2a"), looks := true }, kinds := [], alts := [], laidByText := true, laidKinds := [.data, .data, .data], laidTests := true, laidLooks := .later }
def ViewLinesCardSaid : Prop := Claim7.holds Tryd.pinned (.plain (OpenSpec.ofChange viewLinesSpec)) viewLinesCard

/-- THE SECOND FORM's CARD OF 'annuitylaw27.ViewWords'. -/
def viewWordsUptoCard : Claim7 := { stood := { row := viewWordsUptoRow, standIns := [], harness := (true, "a7da898100bfd4dd17fe9d8fcf3d18f1c7805abb066d42987a47c7afb687dc2a"), looks := true }, kinds := [], alts := [], laidByText := true, laidKinds := [.data, .data, .data], laidTests := true, laidLooks := .later }
def ViewWordsUptoCardSaid : Prop := Claim7.holds Tryd.pinned (.plain (OpenSpec.upto viewWordsSpec)) viewWordsUptoCard

/-- THE SECOND FORM's CARD OF 'annuitylaw27.ViewApart'. -/
def viewApartUptoCard : Claim7 := { stood := { row := viewApartUptoRow, standIns := [], harness := (true, "a7da898100bfd4dd17fe9d8fcf3d18f1c7805abb066d42987a47c7afb687dc2a"), looks := true }, kinds := [], alts := [], laidByText := true, laidKinds := [.data, .data, .data], laidTests := true, laidLooks := .later }
def ViewApartUptoCardSaid : Prop := Claim7.holds Tryd.pinned (.plain (OpenSpec.upto viewApartSpec)) viewApartUptoCard

/-- THE SECOND FORM's CARD OF 'annuitylaw27.ViewLines'. -/
def viewLinesUptoCard : Claim7 := { stood := { row := viewLinesUptoRow, standIns := [], harness := (true, "a7da898100bfd4dd17fe9d8fcf3d18f1c7805abb066d42987a47c7afb687dc2a"), looks := true }, kinds := [], alts := [], laidByText := true, laidKinds := [.data, .data, .data], laidTests := true, laidLooks := .later }
def ViewLinesUptoCardSaid : Prop := Claim7.holds Tryd.pinned (.plain (OpenSpec.upto viewLinesSpec)) viewLinesUptoCard
end Rows
end Go.Proofs.YtkifkjgkdfnhcaaDoor
