/-
  DERIVED. GIVEN WITH THE SEED: THE CARDS: each row of YtmmmjbipgngamaaGreatDoorRows.lean that lists a variable, with what it lists TIED to the program's text (the seventh form; the later family's looks); each row that meets fmt, with fmt's text TOLD by the authors' own Lean function (tested against real Go, not proved from fmt's source: count such statements apart). THE CARD IS WHAT COUNTS. Prove the row's statement (the work); the ties are given (YtmmmjbipgngamaaGreatDoorTie.lean); close each card by the builder's one call (the guide's Derived/Test/ToyasCard.lean, 'card_holds'). Laid BY PROGRAM, IN A SANDBOX (cutbox-door.mjs). By AI agents, Wed Nov 11 2026. No macro, syntax, notation, axiom, sorry.
-/
import Derived.Test.YtmmmjbipgngamaaGreatDoorRows
import GoSem.ClaimSeven
namespace Go.Proofs.YtmmmjbipgngamaaGreatDoor
namespace Rows

/-- THE TIED CARD OF 'rotuluslaw22.StackAll'. -/
def stackAllCard : Claim7 := { stood := { row := stackAllRow, standIns := [], harness := (true, "9dc944f17b9addf6bd9c0ba42540359c7232916effbf8d1ffb6abab67d9cba7b"), looks := false }, kinds := [], alts := [], laidByText := true, laidKinds := [.data, .data, .data, .data, .pinned], laidTests := true, laidLooks := .later }
def StackAllCardSaid : Prop := Claim7.holds Tryz.pinned (.plain (OpenSpec.ofChange stackAllSpec)) stackAllCard

/-- THE TIED CARD OF 'rotuluslaw22.StackRoom'. -/
def stackRoomCard : Claim7 := { stood := { row := stackRoomRow, standIns := [], harness := (true, "9dc944f17b9addf6bd9c0ba42540359c7232916effbf8d1ffb6abab67d9cba7b"), looks := false }, kinds := [], alts := [], laidByText := true, laidKinds := [.data, .data, .data, .data, .pinned], laidTests := true, laidLooks := .later }
def StackRoomCardSaid : Prop := Claim7.holds Tryz.pinned (.plain (OpenSpec.ofChange stackRoomSpec)) stackRoomCard

/-- THE TIED CARD OF 'rotuluslaw22.StackOsc'. -/
def stackOscCard : Claim7 := { stood := { row := stackOscRow, standIns := [], harness := (true, "9dc944f17b9addf6bd9c0ba42540359c7232916effbf8d1ffb6abab67d9cba7b"), looks := false }, kinds := [], alts := [], laidByText := true, laidKinds := [.data, .data, .data, .data, .pinned], laidTests := true, laidLooks := .later }
def StackOscCardSaid : Prop := Claim7.holds Tryz.pinned (.plain (OpenSpec.ofChange stackOscSpec)) stackOscCard

/-- THE TIED CARD OF 'rotuluslaw22.StackNames'. -/
def stackNamesCard : Claim7 := { stood := { row := stackNamesRow, standIns := [], harness := (true, "9dc944f17b9addf6bd9c0ba42540359c7232916effbf8d1ffb6abab67d9cba7b"), looks := false }, kinds := [], alts := [], laidByText := true, laidKinds := [.data, .data, .data, .data, .pinned], laidTests := true, laidLooks := .later }
def StackNamesCardSaid : Prop := Claim7.holds Tryz.pinned (.plain (OpenSpec.ofChange stackNamesSpec)) stackNamesCard

/-- THE TIED CARD OF 'rotuluslaw22.StackNone'. -/
def stackNoneCard : Claim7 := { stood := { row := stackNoneRow, standIns := [], harness := (true, "9dc944f17b9addf6bd9c0ba42540359c7232916effbf8d1ffb6abab67d9cba7b"), looks := false }, kinds := [], alts := [], laidByText := true, laidKinds := [.data, .data, .data, .data, .pinned], laidTests := true, laidLooks := .later }
def StackNoneCardSaid : Prop := Claim7.holds Tryz.pinned (.plain (OpenSpec.ofChange stackNoneSpec)) stackNoneCard

/-- THE SECOND FORM's CARD OF 'rotuluslaw22.StackAll'. -/
def stackAllUptoCard : Claim7 := { stood := { row := stackAllUptoRow, standIns := [], harness := (true, "9dc944f17b9addf6bd9c0ba42540359c7232916effbf8d1ffb6abab67d9cba7b"), looks := false }, kinds := [], alts := [], laidByText := true, laidKinds := [.data, .data, .data, .data, .pinned], laidTests := true, laidLooks := .later }
def StackAllUptoCardSaid : Prop := Claim7.holds Tryz.pinned (.plain (OpenSpec.upto stackAllSpec)) stackAllUptoCard

/-- THE SECOND FORM's CARD OF 'rotuluslaw22.StackRoom'. -/
def stackRoomUptoCard : Claim7 := { stood := { row := stackRoomUptoRow, standIns := [], harness := (true, "9dc944f17b9addf6bd9c0ba42540359c7232916effbf8d1ffb6abab67d9cba7b"), looks := false }, kinds := [], alts := [], laidByText := true, laidKinds := [.data, .data, .data, .data, .pinned], laidTests := true, laidLooks := .later }
def StackRoomUptoCardSaid : Prop := Claim7.holds Tryz.pinned (.plain (OpenSpec.upto stackRoomSpec)) stackRoomUptoCard

/-- THE SECOND FORM's CARD OF 'rotuluslaw22.StackOsc'. -/
def stackOscUptoCard : Claim7 := { stood := { row := stackOscUptoRow, standIns := [], harness := (true, "9dc944f17b9addf6bd9c0ba42540359c7232916effbf8d1ffb6abab67d9cba7b"), looks := false }, kinds := [], alts := [], laidByText := true, laidKinds := [.data, .data, .data, .data, .pinned], laidTests := true, laidLooks := .later }
def StackOscUptoCardSaid : Prop := Claim7.holds Tryz.pinned (.plain (OpenSpec.upto stackOscSpec)) stackOscUptoCard

/-- THE SECOND FORM's CARD OF 'rotuluslaw22.StackNames'. -/
def stackNamesUptoCard : Claim7 := { stood := { row := stackNamesUptoRow, standIns := [], harness := (true, "9dc944f17b9addf6bd9c0ba42540359c7232916effbf8d1ffb6abab67d9cba7b"), looks := false }, kinds := [], alts := [], laidByText := true, laidKinds := [.data, .data, .data, .data, .pinned], laidTests := true, laidLooks := .later }
def StackNamesUptoCardSaid : Prop := Claim7.holds Tryz.pinned (.plain (OpenSpec.upto stackNamesSpec)) stackNamesUptoCard

/-- THE SECOND FORM's CARD OF 'rotuluslaw22.StackNone'. -/
def stackNoneUptoCard : Claim7 := { stood := { row := stackNoneUptoRow, standIns := [], harness := (true, "9dc944f17b9addf6bd9c0ba42540359c7232916effbf8d1ffb6abab67d9cba7b"), looks := false }, kinds := [], alts := [], laidByText := true, laidKinds := [.data, .data, .data, .data, .pinned], laidTests := true, laidLooks := .later }
def StackNoneUptoCardSaid : Prop := Claim7.holds Tryz.pinned (.plain (OpenSpec.upto stackNoneSpec)) stackNoneUptoCard
end Rows
end Go.Proofs.YtmmmjbipgngamaaGreatDoor
