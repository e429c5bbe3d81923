/-
  DERIVED. GIVEN WITH THE SEED: THE CARDS: each row of YtiebldaihnbkmaaGreatDoorRows.lean that lists a variable, with what it lists TIED to the program's text (the seventh form; the later family's looks); each row that meets fmt, with fmt's text TOLD by the authors' own Lean function (tested against real Go, not proved from fmt's source: count such statements apart). THE CARD IS WHAT COUNTS. Prove the row's statement (the work); the ties are given (YtiebldaihnbkmaaGreatDoorTie.lean); close each card by the builder's one call (the guide's Derived/Test/ToyasCard.lean, 'card_holds'). Laid BY PROGRAM, IN A SANDBOX (cutbox-door.mjs). By AI agents, Wed Nov 11 2026. No macro, syntax, notation, axiom, sorry.
-/
import Derived.Test.YtiebldaihnbkmaaGreatDoorRows
import GoSem.ClaimSeven
namespace Go.Proofs.YtiebldaihnbkmaaGreatDoor
namespace Rows

/-- THE TIED CARD OF 'rotuluslaw14.BaseAll'. -/
def baseAllCard : Claim7 := { stood := { row := baseAllRow, standIns := [], harness := (true, "d117c101de34bf04ca5e6daf347c683be796a753d16d7b155956bbd42096410a"), looks := false }, kinds := [], alts := [], laidByText := true, laidKinds := [.data, .data, .data, .data, .pinned], laidTests := true, laidLooks := .later }
def BaseAllCardSaid : Prop := Claim7.holds Tryz.pinned (.plain (OpenSpec.ofChange baseAllSpec)) baseAllCard

/-- THE TIED CARD OF 'rotuluslaw14.BaseTurn'. -/
def baseTurnCard : Claim7 := { stood := { row := baseTurnRow, standIns := [], harness := (true, "d117c101de34bf04ca5e6daf347c683be796a753d16d7b155956bbd42096410a"), looks := false }, kinds := [], alts := [], laidByText := true, laidKinds := [.data, .data, .data, .data, .pinned], laidTests := true, laidLooks := .later }
def BaseTurnCardSaid : Prop := Claim7.holds Tryz.pinned (.plain (OpenSpec.ofChange baseTurnSpec)) baseTurnCard

/-- THE TIED CARD OF 'rotuluslaw14.BaseLen'. -/
def baseLenCard : Claim7 := { stood := { row := baseLenRow, standIns := [], harness := (true, "d117c101de34bf04ca5e6daf347c683be796a753d16d7b155956bbd42096410a"), looks := false }, kinds := [], alts := [], laidByText := true, laidKinds := [.data, .data, .data, .data, .pinned], laidTests := true, laidLooks := .later }
def BaseLenCardSaid : Prop := Claim7.holds Tryz.pinned (.plain (OpenSpec.ofChange baseLenSpec)) baseLenCard

/-- THE TIED CARD OF 'rotuluslaw14.NfaAll'. -/
def nfaAllCard : Claim7 := { stood := { row := nfaAllRow, standIns := [], harness := (true, "d117c101de34bf04ca5e6daf347c683be796a753d16d7b155956bbd42096410a"), looks := false }, kinds := [], alts := [], laidByText := true, laidKinds := [.data, .data, .data, .data, .pinned], laidTests := true, laidLooks := .later }
def NfaAllCardSaid : Prop := Claim7.holds Tryz.pinned (.plain (OpenSpec.ofChange nfaAllSpec)) nfaAllCard

/-- THE TIED CARD OF 'rotuluslaw14.NfaText'. -/
def nfaTextCard : Claim7 := { stood := { row := nfaTextRow, standIns := [], harness := (true, "d117c101de34bf04ca5e6daf347c683be796a753d16d7b155956bbd42096410a"), looks := false }, kinds := [], alts := [], laidByText := true, laidKinds := [.data, .data, .data, .data, .pinned], laidTests := true, laidLooks := .later }
def NfaTextCardSaid : Prop := Claim7.holds Tryz.pinned (.plain (OpenSpec.ofChange nfaTextSpec)) nfaTextCard

/-- THE TIED CARD OF 'rotuluslaw14.NfaPlain'. -/
def nfaPlainCard : Claim7 := { stood := { row := nfaPlainRow, standIns := [], harness := (true, "d117c101de34bf04ca5e6daf347c683be796a753d16d7b155956bbd42096410a"), looks := false }, kinds := [], alts := [], laidByText := true, laidKinds := [.data, .data, .data, .data, .pinned], laidTests := true, laidLooks := .later }
def NfaPlainCardSaid : Prop := Claim7.holds Tryz.pinned (.plain (OpenSpec.ofChange nfaPlainSpec)) nfaPlainCard

/-- THE TIED CARD OF 'rotuluslaw14.NfaTimes'. -/
def nfaTimesCard : Claim7 := { stood := { row := nfaTimesRow, standIns := [], harness := (true, "d117c101de34bf04ca5e6daf347c683be796a753d16d7b155956bbd42096410a"), looks := false }, kinds := [], alts := [], laidByText := true, laidKinds := [.data, .data, .data, .data, .pinned], laidTests := true, laidLooks := .later }
def NfaTimesCardSaid : Prop := Claim7.holds Tryz.pinned (.plain (OpenSpec.ofChange nfaTimesSpec)) nfaTimesCard

/-- THE TIED CARD OF 'rotuluslaw14.NfaEmpty'. -/
def nfaEmptyCard : Claim7 := { stood := { row := nfaEmptyRow, standIns := [], harness := (true, "d117c101de34bf04ca5e6daf347c683be796a753d16d7b155956bbd42096410a"), looks := false }, kinds := [], alts := [], laidByText := true, laidKinds := [.data, .data, .data, .data, .pinned], laidTests := true, laidLooks := .later }
def NfaEmptyCardSaid : Prop := Claim7.holds Tryz.pinned (.plain (OpenSpec.ofChange nfaEmptySpec)) nfaEmptyCard

/-- THE TIED CARD OF 'rotuluslaw14.NfaNone'. -/
def nfaNoneCard : Claim7 := { stood := { row := nfaNoneRow, standIns := [], harness := (true, "d117c101de34bf04ca5e6daf347c683be796a753d16d7b155956bbd42096410a"), looks := false }, kinds := [], alts := [], laidByText := true, laidKinds := [.data, .data, .data, .data, .pinned], laidTests := true, laidLooks := .later }
def NfaNoneCardSaid : Prop := Claim7.holds Tryz.pinned (.plain (OpenSpec.ofChange nfaNoneSpec)) nfaNoneCard

/-- THE TIED CARD OF 'rotuluslaw14.RegexDeep'. -/
def regexDeepCard : Claim7 := { stood := { row := regexDeepRow, standIns := [], harness := (true, "d117c101de34bf04ca5e6daf347c683be796a753d16d7b155956bbd42096410a"), looks := false }, kinds := [], alts := [], laidByText := true, laidKinds := [.data, .data, .data, .data, .pinned], laidTests := true, laidLooks := .later }
def RegexDeepCardSaid : Prop := Claim7.holds Tryz.pinned (.plain (OpenSpec.ofChange regexDeepSpec)) regexDeepCard

/-- THE TIED CARD OF 'rotuluslaw14.NfaAlt'. -/
def nfaAltCard : Claim7 := { stood := { row := nfaAltRow, standIns := [], harness := (true, "d117c101de34bf04ca5e6daf347c683be796a753d16d7b155956bbd42096410a"), looks := false }, kinds := [], alts := [], laidByText := true, laidKinds := [.data, .data, .data, .data, .pinned], laidTests := true, laidLooks := .later }
def NfaAltCardSaid : Prop := Claim7.holds Tryz.pinned (.plain (OpenSpec.ofChange nfaAltSpec)) nfaAltCard

/-- THE TIED CARD OF 'rotuluslaw14.NfaWeight'. -/
def nfaWeightCard : Claim7 := { stood := { row := nfaWeightRow, standIns := [], harness := (true, "d117c101de34bf04ca5e6daf347c683be796a753d16d7b155956bbd42096410a"), looks := false }, kinds := [], alts := [], laidByText := true, laidKinds := [.data, .data, .data, .data, .pinned], laidTests := true, laidLooks := .later }
def NfaWeightCardSaid : Prop := Claim7.holds Tryz.pinned (.plain (OpenSpec.ofChange nfaWeightSpec)) nfaWeightCard

/-- THE TIED CARD OF 'rotuluslaw14.BaseOrder'. -/
def baseOrderCard : Claim7 := { stood := { row := baseOrderRow, standIns := [], harness := (true, "d117c101de34bf04ca5e6daf347c683be796a753d16d7b155956bbd42096410a"), looks := false }, kinds := [], alts := [], laidByText := true, laidKinds := [.data, .data, .data, .data, .pinned], laidTests := true, laidLooks := .later }
def BaseOrderCardSaid : Prop := Claim7.holds Tryz.pinned (.plain (OpenSpec.ofChange baseOrderSpec)) baseOrderCard

/-- THE SECOND FORM's CARD OF 'rotuluslaw14.BaseAll'. -/
def baseAllUptoCard : Claim7 := { stood := { row := baseAllUptoRow, standIns := [], harness := (true, "d117c101de34bf04ca5e6daf347c683be796a753d16d7b155956bbd42096410a"), looks := false }, kinds := [], alts := [], laidByText := true, laidKinds := [.data, .data, .data, .data, .pinned], laidTests := true, laidLooks := .later }
def BaseAllUptoCardSaid : Prop := Claim7.holds Tryz.pinned (.plain (OpenSpec.upto baseAllSpec)) baseAllUptoCard

/-- THE SECOND FORM's CARD OF 'rotuluslaw14.BaseTurn'. -/
def baseTurnUptoCard : Claim7 := { stood := { row := baseTurnUptoRow, standIns := [], harness := (true, "d117c101de34bf04ca5e6daf347c683be796a753d16d7b155956bbd42096410a"), looks := false }, kinds := [], alts := [], laidByText := true, laidKinds := [.data, .data, .data, .data, .pinned], laidTests := true, laidLooks := .later }
def BaseTurnUptoCardSaid : Prop := Claim7.holds Tryz.pinned (.plain (OpenSpec.upto baseTurnSpec)) baseTurnUptoCard

/-- THE SECOND FORM's CARD OF 'rotuluslaw14.BaseLen'. -/
def baseLenUptoCard : Claim7 := { stood := { row := baseLenUptoRow, standIns := [], harness := (true, "d117c101de34bf04ca5e6daf347c683be796a753d16d7b155956bbd42096410a"), looks := false }, kinds := [], alts := [], laidByText := true, laidKinds := [.data, .data, .data, .data, .pinned], laidTests := true, laidLooks := .later }
def BaseLenUptoCardSaid : Prop := Claim7.holds Tryz.pinned (.plain (OpenSpec.upto baseLenSpec)) baseLenUptoCard

/-- THE SECOND FORM's CARD OF 'rotuluslaw14.NfaAll'. -/
def nfaAllUptoCard : Claim7 := { stood := { row := nfaAllUptoRow, standIns := [], harness := (true, "d117c101de34bf04ca5e6daf347c683be796a753d16d7b155956bbd42096410a"), looks := false }, kinds := [], alts := [], laidByText := true, laidKinds := [.data, .data, .data, .data, .pinned], laidTests := true, laidLooks := .later }
def NfaAllUptoCardSaid : Prop := Claim7.holds Tryz.pinned (.plain (OpenSpec.upto nfaAllSpec)) nfaAllUptoCard

/-- THE SECOND FORM's CARD OF 'rotuluslaw14.NfaText'. -/
def nfaTextUptoCard : Claim7 := { stood := { row := nfaTextUptoRow, standIns := [], harness := (true, "d117c101de34bf04ca5e6daf347c683be796a753d16d7b155956bbd42096410a"), looks := false }, kinds := [], alts := [], laidByText := true, laidKinds := [.data, .data, .data, .data, .pinned], laidTests := true, laidLooks := .later }
def NfaTextUptoCardSaid : Prop := Claim7.holds Tryz.pinned (.plain (OpenSpec.upto nfaTextSpec)) nfaTextUptoCard

/-- THE SECOND FORM's CARD OF 'rotuluslaw14.NfaPlain'. -/
def nfaPlainUptoCard : Claim7 := { stood := { row := nfaPlainUptoRow, standIns := [], harness := (true, "d117c101de34bf04ca5e6daf347c683be796a753d16d7b155956bbd42096410a"), looks := false }, kinds := [], alts := [], laidByText := true, laidKinds := [.data, .data, .data, .data, .pinned], laidTests := true, laidLooks := .later }
def NfaPlainUptoCardSaid : Prop := Claim7.holds Tryz.pinned (.plain (OpenSpec.upto nfaPlainSpec)) nfaPlainUptoCard

/-- THE SECOND FORM's CARD OF 'rotuluslaw14.NfaTimes'. -/
def nfaTimesUptoCard : Claim7 := { stood := { row := nfaTimesUptoRow, standIns := [], harness := (true, "d117c101de34bf04ca5e6daf347c683be796a753d16d7b155956bbd42096410a"), looks := false }, kinds := [], alts := [], laidByText := true, laidKinds := [.data, .data, .data, .data, .pinned], laidTests := true, laidLooks := .later }
def NfaTimesUptoCardSaid : Prop := Claim7.holds Tryz.pinned (.plain (OpenSpec.upto nfaTimesSpec)) nfaTimesUptoCard

/-- THE SECOND FORM's CARD OF 'rotuluslaw14.NfaEmpty'. -/
def nfaEmptyUptoCard : Claim7 := { stood := { row := nfaEmptyUptoRow, standIns := [], harness := (true, "d117c101de34bf04ca5e6daf347c683be796a753d16d7b155956bbd42096410a"), looks := false }, kinds := [], alts := [], laidByText := true, laidKinds := [.data, .data, .data, .data, .pinned], laidTests := true, laidLooks := .later }
def NfaEmptyUptoCardSaid : Prop := Claim7.holds Tryz.pinned (.plain (OpenSpec.upto nfaEmptySpec)) nfaEmptyUptoCard

/-- THE SECOND FORM's CARD OF 'rotuluslaw14.NfaNone'. -/
def nfaNoneUptoCard : Claim7 := { stood := { row := nfaNoneUptoRow, standIns := [], harness := (true, "d117c101de34bf04ca5e6daf347c683be796a753d16d7b155956bbd42096410a"), looks := false }, kinds := [], alts := [], laidByText := true, laidKinds := [.data, .data, .data, .data, .pinned], laidTests := true, laidLooks := .later }
def NfaNoneUptoCardSaid : Prop := Claim7.holds Tryz.pinned (.plain (OpenSpec.upto nfaNoneSpec)) nfaNoneUptoCard

/-- THE SECOND FORM's CARD OF 'rotuluslaw14.RegexDeep'. -/
def regexDeepUptoCard : Claim7 := { stood := { row := regexDeepUptoRow, standIns := [], harness := (true, "d117c101de34bf04ca5e6daf347c683be796a753d16d7b155956bbd42096410a"), looks := false }, kinds := [], alts := [], laidByText := true, laidKinds := [.data, .data, .data, .data, .pinned], laidTests := true, laidLooks := .later }
def RegexDeepUptoCardSaid : Prop := Claim7.holds Tryz.pinned (.plain (OpenSpec.upto regexDeepSpec)) regexDeepUptoCard

/-- THE SECOND FORM's CARD OF 'rotuluslaw14.NfaAlt'. -/
def nfaAltUptoCard : Claim7 := { stood := { row := nfaAltUptoRow, standIns := [], harness := (true, "d117c101de34bf04ca5e6daf347c683be796a753d16d7b155956bbd42096410a"), looks := false }, kinds := [], alts := [], laidByText := true, laidKinds := [.data, .data, .data, .data, .pinned], laidTests := true, laidLooks := .later }
def NfaAltUptoCardSaid : Prop := Claim7.holds Tryz.pinned (.plain (OpenSpec.upto nfaAltSpec)) nfaAltUptoCard

/-- THE SECOND FORM's CARD OF 'rotuluslaw14.NfaWeight'. -/
def nfaWeightUptoCard : Claim7 := { stood := { row := nfaWeightUptoRow, standIns := [], harness := (true, "d117c101de34bf04ca5e6daf347c683be796a753d16d7b155956bbd42096410a"), looks := false }, kinds := [], alts := [], laidByText := true, laidKinds := [.data, .data, .data, .data, .pinned], laidTests := true, laidLooks := .later }
def NfaWeightUptoCardSaid : Prop := Claim7.holds Tryz.pinned (.plain (OpenSpec.upto nfaWeightSpec)) nfaWeightUptoCard

/-- THE SECOND FORM's CARD OF 'rotuluslaw14.BaseOrder'. -/
def baseOrderUptoCard : Claim7 := { stood := { row := baseOrderUptoRow, standIns := [], harness := (true, "d117c101de34bf04ca5e6daf347c683be796a753d16d7b155956bbd42096410a"), looks := false }, kinds := [], alts := [], laidByText := true, laidKinds := [.data, .data, .data, .data, .pinned], laidTests := true, laidLooks := .later }
def BaseOrderUptoCardSaid : Prop := Claim7.holds Tryz.pinned (.plain (OpenSpec.upto baseOrderSpec)) baseOrderUptoCard
end Rows
end Go.Proofs.YtiebldaihnbkmaaGreatDoor
