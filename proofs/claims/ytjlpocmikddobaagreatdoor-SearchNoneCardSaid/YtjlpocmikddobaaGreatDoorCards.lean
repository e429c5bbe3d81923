/-
  DERIVED. GIVEN WITH THE SEED: THE CARDS: each row of YtjlpocmikddobaaGreatDoorRows.lean that lists a variable, with what it lists TIED to the program's text (the seventh form; the later family's looks); each row that meets fmt, with fmt's text TOLD by the authors' own Lean function (tested against real Go, not proved from fmt's source: count such statements apart). THE CARD IS WHAT COUNTS. Prove the row's statement (the work); the ties are given (YtjlpocmikddobaaGreatDoorTie.lean); close each card by the builder's one call (the guide's Derived/Test/ToyasCard.lean, 'card_holds'). Laid BY PROGRAM, IN A SANDBOX (cutbox-door.mjs). By AI agents, Wed Nov 11 2026. No macro, syntax, notation, axiom, sorry.
-/
import Derived.Test.YtjlpocmikddobaaGreatDoorRows
import GoSem.ClaimSeven
namespace Go.Proofs.YtjlpocmikddobaaGreatDoor
namespace Rows

/-- THE TIED CARD OF 'rotuluslaw16.SearchNone'. -/
def searchNoneCard : Claim7 := { stood := { row := searchNoneRow, standIns := [], harness := (true, "c4a3bc98ad8b4d6263371a7ea04d2f98d81c925f987ac7017c1906f799ad4247"), looks := false }, kinds := [], alts := [], laidByText := true, laidKinds := [.data, .data, .data, .data, .pinned], laidTests := true, laidLooks := .later }
def SearchNoneCardSaid : Prop := Claim7.holds Tryz.pinned (.plain (OpenSpec.ofChange searchNoneSpec)) searchNoneCard

/-- THE TIED CARD OF 'rotuluslaw22.StackNone'. -/
def stackNoneCard : Claim7 := { stood := { row := stackNoneRow, standIns := [], harness := (true, "c4a3bc98ad8b4d6263371a7ea04d2f98d81c925f987ac7017c1906f799ad4247"), looks := false }, kinds := [], alts := [], laidByText := true, laidKinds := [.data, .data, .data, .data, .pinned], laidTests := true, laidLooks := .later }
def StackNoneCardSaid : Prop := Claim7.holds Tryz.pinned (.plain (OpenSpec.ofChange stackNoneSpec)) stackNoneCard

/-- THE TIED CARD OF 'rotuluslaw20.CopyNone'. -/
def copyNoneCard : Claim7 := { stood := { row := copyNoneRow, standIns := [], harness := (true, "c4a3bc98ad8b4d6263371a7ea04d2f98d81c925f987ac7017c1906f799ad4247"), looks := false }, kinds := [], alts := [], laidByText := true, laidKinds := [.data, .data, .data, .data, .pinned], laidTests := true, laidLooks := .later }
def CopyNoneCardSaid : Prop := Claim7.holds Tryz.pinned (.plain (OpenSpec.ofChange copyNoneSpec)) copyNoneCard

/-- THE SECOND FORM's CARD OF 'rotuluslaw16.SearchNone'. -/
def searchNoneUptoCard : Claim7 := { stood := { row := searchNoneUptoRow, standIns := [], harness := (true, "c4a3bc98ad8b4d6263371a7ea04d2f98d81c925f987ac7017c1906f799ad4247"), looks := false }, kinds := [], alts := [], laidByText := true, laidKinds := [.data, .data, .data, .data, .pinned], laidTests := true, laidLooks := .later }
def SearchNoneUptoCardSaid : Prop := Claim7.holds Tryz.pinned (.plain (OpenSpec.upto searchNoneSpec)) searchNoneUptoCard

/-- THE SECOND FORM's CARD OF 'rotuluslaw22.StackNone'. -/
def stackNoneUptoCard : Claim7 := { stood := { row := stackNoneUptoRow, standIns := [], harness := (true, "c4a3bc98ad8b4d6263371a7ea04d2f98d81c925f987ac7017c1906f799ad4247"), looks := false }, kinds := [], alts := [], laidByText := true, laidKinds := [.data, .data, .data, .data, .pinned], laidTests := true, laidLooks := .later }
def StackNoneUptoCardSaid : Prop := Claim7.holds Tryz.pinned (.plain (OpenSpec.upto stackNoneSpec)) stackNoneUptoCard

/-- THE SECOND FORM's CARD OF 'rotuluslaw20.CopyNone'. -/
def copyNoneUptoCard : Claim7 := { stood := { row := copyNoneUptoRow, standIns := [], harness := (true, "c4a3bc98ad8b4d6263371a7ea04d2f98d81c925f987ac7017c1906f799ad4247"), looks := false }, kinds := [], alts := [], laidByText := true, laidKinds := [.data, .data, .data, .data, .pinned], laidTests := true, laidLooks := .later }
def CopyNoneUptoCardSaid : Prop := Claim7.holds Tryz.pinned (.plain (OpenSpec.upto copyNoneSpec)) copyNoneUptoCard
end Rows
end Go.Proofs.YtjlpocmikddobaaGreatDoor
