/-
  DERIVED. GIVEN WITH THE SEED: THE CARDS: each row of YtfcadnhoejlgoaaGreatDoorRows.lean that lists a variable, with what it lists TIED to the program's text (the seventh form; the later family's looks); each row that meets fmt, with fmt's text TOLD by the authors' own Lean function (tested against real Go, not proved from fmt's source: count such statements apart). THE CARD IS WHAT COUNTS. Prove the row's statement (the work); the ties are given (YtfcadnhoejlgoaaGreatDoorTie.lean); close each card by the builder's one call (the guide's Derived/Test/ToyasCard.lean, 'card_holds'). Laid BY PROGRAM, IN A SANDBOX (cutbox-door.mjs). By AI agents, Wed Nov 11 2026. No macro, syntax, notation, axiom, sorry.
-/
import Derived.Test.YtfcadnhoejlgoaaGreatDoorRows
import GoSem.ClaimSeven
namespace Go.Proofs.YtfcadnhoejlgoaaGreatDoor
namespace Rows

/-- THE TIED CARD OF 'rotuluslaw16.FindAll'. -/
def findAllCard : Claim7 := { stood := { row := findAllRow, standIns := [], harness := (true, "ddaa8fedf02bc2ca61cba70b561254bc983eb286ee2bd9c802e66353d79497f6"), looks := false }, kinds := [], alts := [], laidByText := true, laidKinds := [.data, .data, .data, .data, .pinned], laidTests := true, laidLooks := .later }
def FindAllCardSaid : Prop := Claim7.holds Tryz.pinned (.plain (OpenSpec.ofChange findAllSpec)) findAllCard

/-- THE TIED CARD OF 'rotuluslaw16.FindCount'. -/
def findCountCard : Claim7 := { stood := { row := findCountRow, standIns := [], harness := (true, "ddaa8fedf02bc2ca61cba70b561254bc983eb286ee2bd9c802e66353d79497f6"), looks := false }, kinds := [], alts := [], laidByText := true, laidKinds := [.data, .data, .data, .data, .pinned], laidTests := true, laidLooks := .later }
def FindCountCardSaid : Prop := Claim7.holds Tryz.pinned (.plain (OpenSpec.ofChange findCountSpec)) findCountCard

/-- THE TIED CARD OF 'rotuluslaw16.FindAnchors'. -/
def findAnchorsCard : Claim7 := { stood := { row := findAnchorsRow, standIns := [], harness := (true, "ddaa8fedf02bc2ca61cba70b561254bc983eb286ee2bd9c802e66353d79497f6"), looks := false }, kinds := [], alts := [], laidByText := true, laidKinds := [.data, .data, .data, .data, .pinned], laidTests := true, laidLooks := .later }
def FindAnchorsCardSaid : Prop := Claim7.holds Tryz.pinned (.plain (OpenSpec.ofChange findAnchorsSpec)) findAnchorsCard

/-- THE TIED CARD OF 'rotuluslaw16.SearchAll'. -/
def searchAllCard : Claim7 := { stood := { row := searchAllRow, standIns := [], harness := (true, "ddaa8fedf02bc2ca61cba70b561254bc983eb286ee2bd9c802e66353d79497f6"), looks := false }, kinds := [], alts := [], laidByText := true, laidKinds := [.data, .data, .data, .data, .pinned], laidTests := true, laidLooks := .later }
def SearchAllCardSaid : Prop := Claim7.holds Tryz.pinned (.plain (OpenSpec.ofChange searchAllSpec)) searchAllCard

/-- THE TIED CARD OF 'rotuluslaw16.SearchRound'. -/
def searchRoundCard : Claim7 := { stood := { row := searchRoundRow, standIns := [], harness := (true, "ddaa8fedf02bc2ca61cba70b561254bc983eb286ee2bd9c802e66353d79497f6"), looks := false }, kinds := [], alts := [], laidByText := true, laidKinds := [.data, .data, .data, .data, .pinned], laidTests := true, laidLooks := .later }
def SearchRoundCardSaid : Prop := Claim7.holds Tryz.pinned (.plain (OpenSpec.ofChange searchRoundSpec)) searchRoundCard

/-- THE TIED CARD OF 'rotuluslaw16.SearchWidths'. -/
def searchWidthsCard : Claim7 := { stood := { row := searchWidthsRow, standIns := [], harness := (true, "ddaa8fedf02bc2ca61cba70b561254bc983eb286ee2bd9c802e66353d79497f6"), looks := false }, kinds := [], alts := [], laidByText := true, laidKinds := [.data, .data, .data, .data, .pinned], laidTests := true, laidLooks := .later }
def SearchWidthsCardSaid : Prop := Claim7.holds Tryz.pinned (.plain (OpenSpec.ofChange searchWidthsSpec)) searchWidthsCard

/-- THE SECOND FORM's CARD OF 'rotuluslaw16.FindAll'. -/
def findAllUptoCard : Claim7 := { stood := { row := findAllUptoRow, standIns := [], harness := (true, "ddaa8fedf02bc2ca61cba70b561254bc983eb286ee2bd9c802e66353d79497f6"), looks := false }, kinds := [], alts := [], laidByText := true, laidKinds := [.data, .data, .data, .data, .pinned], laidTests := true, laidLooks := .later }
def FindAllUptoCardSaid : Prop := Claim7.holds Tryz.pinned (.plain (OpenSpec.upto findAllSpec)) findAllUptoCard

/-- THE SECOND FORM's CARD OF 'rotuluslaw16.FindCount'. -/
def findCountUptoCard : Claim7 := { stood := { row := findCountUptoRow, standIns := [], harness := (true, "ddaa8fedf02bc2ca61cba70b561254bc983eb286ee2bd9c802e66353d79497f6"), looks := false }, kinds := [], alts := [], laidByText := true, laidKinds := [.data, .data, .data, .data, .pinned], laidTests := true, laidLooks := .later }
def FindCountUptoCardSaid : Prop := Claim7.holds Tryz.pinned (.plain (OpenSpec.upto findCountSpec)) findCountUptoCard

/-- THE SECOND FORM's CARD OF 'rotuluslaw16.FindAnchors'. -/
def findAnchorsUptoCard : Claim7 := { stood := { row := findAnchorsUptoRow, standIns := [], harness := (true, "ddaa8fedf02bc2ca61cba70b561254bc983eb286ee2bd9c802e66353d79497f6"), looks := false }, kinds := [], alts := [], laidByText := true, laidKinds := [.data, .data, .data, .data, .pinned], laidTests := true, laidLooks := .later }
def FindAnchorsUptoCardSaid : Prop := Claim7.holds Tryz.pinned (.plain (OpenSpec.upto findAnchorsSpec)) findAnchorsUptoCard

/-- THE SECOND FORM's CARD OF 'rotuluslaw16.SearchAll'. -/
def searchAllUptoCard : Claim7 := { stood := { row := searchAllUptoRow, standIns := [], harness := (true, "ddaa8fedf02bc2ca61cba70b561254bc983eb286ee2bd9c802e66353d79497f6"), looks := false }, kinds := [], alts := [], laidByText := true, laidKinds := [.data, .data, .data, .data, .pinned], laidTests := true, laidLooks := .later }
def SearchAllUptoCardSaid : Prop := Claim7.holds Tryz.pinned (.plain (OpenSpec.upto searchAllSpec)) searchAllUptoCard

/-- THE SECOND FORM's CARD OF 'rotuluslaw16.SearchRound'. -/
def searchRoundUptoCard : Claim7 := { stood := { row := searchRoundUptoRow, standIns := [], harness := (true, "ddaa8fedf02bc2ca61cba70b561254bc983eb286ee2bd9c802e66353d79497f6"), looks := false }, kinds := [], alts := [], laidByText := true, laidKinds := [.data, .data, .data, .data, .pinned], laidTests := true, laidLooks := .later }
def SearchRoundUptoCardSaid : Prop := Claim7.holds Tryz.pinned (.plain (OpenSpec.upto searchRoundSpec)) searchRoundUptoCard

/-- THE SECOND FORM's CARD OF 'rotuluslaw16.SearchWidths'. -/
def searchWidthsUptoCard : Claim7 := { stood := { row := searchWidthsUptoRow, standIns := [], harness := (true, "ddaa8fedf02bc2ca61cba70b561254bc983eb286ee2bd9c802e66353d79497f6"), looks := false }, kinds := [], alts := [], laidByText := true, laidKinds := [.data, .data, .data, .data, .pinned], laidTests := true, laidLooks := .later }
def SearchWidthsUptoCardSaid : Prop := Claim7.holds Tryz.pinned (.plain (OpenSpec.upto searchWidthsSpec)) searchWidthsUptoCard
end Rows
end Go.Proofs.YtfcadnhoejlgoaaGreatDoor
