/-
  DERIVED. GIVEN WITH THE SEED: THE CARDS: each row of YtblblpmkdmociaaDoorRows.lean that lists a variable, with what it lists TIED to the program's text (the seventh form; the later family's looks); each row that meets fmt, with fmt's text TOLD by the authors' own Lean function (tested against real Go, not proved from fmt's source: count such statements apart). THE CARD IS WHAT COUNTS. Prove the row's statement (the work); the ties are given (YtblblpmkdmociaaDoorTie.lean); close each card by the builder's one call (the guide's Derived/Test/ToyasCard.lean, 'card_holds'). Laid BY PROGRAM, IN A SANDBOX (cutbox-door.mjs). By AI agents, Wed Nov 11 2026. No macro, syntax, notation, axiom, sorry.
-/
import Derived.Test.YtblblpmkdmociaaDoorRows
import GoSem.ClaimSeven
namespace Go.Proofs.YtblblpmkdmociaaDoor
namespace Rows

/-- THE TIED CARD OF 'haruspexlaw8.IrPrint'. -/
def irPrintCard : Claim7 := { stood := { row := irPrintRow, standIns := [], harness := (true, "11674c5082cac5aaa4fc55b95c7652063f6e159cc95ea8a37e00d8ea3ae05f84"), looks := false }, kinds := [], alts := [], laidByText := true, laidKinds := [.data, .data, .data], laidTests := true, laidLooks := .later }
def IrPrintCardSaid : Prop := Claim7.holds Tryd.pinned (.plain (OpenSpec.ofChange irPrintSpec)) irPrintCard

/-- THE TIED CARD OF 'haruspexlaw8.IrPoints'. -/
def irPointsCard : Claim7 := { stood := { row := irPointsRow, standIns := [], harness := (true, "11674c5082cac5aaa4fc55b95c7652063f6e159cc95ea8a37e00d8ea3ae05f84"), looks := false }, kinds := [], alts := [], laidByText := true, laidKinds := [.data, .data, .data], laidTests := true, laidLooks := .later }
def IrPointsCardSaid : Prop := Claim7.holds Tryd.pinned (.plain (OpenSpec.ofChange irPointsSpec)) irPointsCard

/-- THE TIED CARD OF 'haruspexlaw8.IrNone'. -/
def irNoneCard : Claim7 := { stood := { row := irNoneRow, standIns := [], harness := (true, "11674c5082cac5aaa4fc55b95c7652063f6e159cc95ea8a37e00d8ea3ae05f84"), looks := false }, kinds := [], alts := [], laidByText := true, laidKinds := [.data, .data, .data], laidTests := true, laidLooks := .later }
def IrNoneCardSaid : Prop := Claim7.holds Tryd.pinned (.plain (OpenSpec.ofChange irNoneSpec)) irNoneCard

/-- THE TIED CARD OF 'haruspexlaw8.IrRound'. -/
def irRoundCard : Claim7 := { stood := { row := irRoundRow, standIns := [], harness := (true, "11674c5082cac5aaa4fc55b95c7652063f6e159cc95ea8a37e00d8ea3ae05f84"), looks := false }, kinds := [], alts := [], laidByText := true, laidKinds := [.data, .data, .data], laidTests := true, laidLooks := .later }
def IrRoundCardSaid : Prop := Claim7.holds Tryd.pinned (.plain (OpenSpec.ofChange irRoundSpec)) irRoundCard

/-- THE TIED CARD OF 'haruspexlaw8.IrNext'. -/
def irNextCard : Claim7 := { stood := { row := irNextRow, standIns := [], harness := (true, "11674c5082cac5aaa4fc55b95c7652063f6e159cc95ea8a37e00d8ea3ae05f84"), looks := false }, kinds := [], alts := [], laidByText := true, laidKinds := [.data, .data, .data], laidTests := true, laidLooks := .later }
def IrNextCardSaid : Prop := Claim7.holds Tryd.pinned (.plain (OpenSpec.ofChange irNextSpec)) irNextCard

/-- THE TIED CARD OF 'haruspexlaw8.IrInstr'. -/
def irInstrCard : Claim7 := { stood := { row := irInstrRow, standIns := [], harness := (true, "11674c5082cac5aaa4fc55b95c7652063f6e159cc95ea8a37e00d8ea3ae05f84"), looks := false }, kinds := [], alts := [], laidByText := true, laidKinds := [.data, .data, .data], laidTests := true, laidLooks := .later }
def IrInstrCardSaid : Prop := Claim7.holds Tryd.pinned (.plain (OpenSpec.ofChange irInstrSpec)) irInstrCard

/-- THE SECOND FORM's CARD OF 'haruspexlaw8.IrPrint'. -/
def irPrintUptoCard : Claim7 := { stood := { row := irPrintUptoRow, standIns := [], harness := (true, "11674c5082cac5aaa4fc55b95c7652063f6e159cc95ea8a37e00d8ea3ae05f84"), looks := false }, kinds := [], alts := [], laidByText := true, laidKinds := [.data, .data, .data], laidTests := true, laidLooks := .later }
def IrPrintUptoCardSaid : Prop := Claim7.holds Tryd.pinned (.plain (OpenSpec.upto irPrintSpec)) irPrintUptoCard

/-- THE SECOND FORM's CARD OF 'haruspexlaw8.IrPoints'. -/
def irPointsUptoCard : Claim7 := { stood := { row := irPointsUptoRow, standIns := [], harness := (true, "11674c5082cac5aaa4fc55b95c7652063f6e159cc95ea8a37e00d8ea3ae05f84"), looks := false }, kinds := [], alts := [], laidByText := true, laidKinds := [.data, .data, .data], laidTests := true, laidLooks := .later }
def IrPointsUptoCardSaid : Prop := Claim7.holds Tryd.pinned (.plain (OpenSpec.upto irPointsSpec)) irPointsUptoCard

/-- THE SECOND FORM's CARD OF 'haruspexlaw8.IrNone'. -/
def irNoneUptoCard : Claim7 := { stood := { row := irNoneUptoRow, standIns := [], harness := (true, "11674c5082cac5aaa4fc55b95c7652063f6e159cc95ea8a37e00d8ea3ae05f84"), looks := false }, kinds := [], alts := [], laidByText := true, laidKinds := [.data, .data, .data], laidTests := true, laidLooks := .later }
def IrNoneUptoCardSaid : Prop := Claim7.holds Tryd.pinned (.plain (OpenSpec.upto irNoneSpec)) irNoneUptoCard

/-- THE SECOND FORM's CARD OF 'haruspexlaw8.IrRound'. -/
def irRoundUptoCard : Claim7 := { stood := { row := irRoundUptoRow, standIns := [], harness := (true, "11674c5082cac5aaa4fc55b95c7652063f6e159cc95ea8a37e00d8ea3ae05f84"), looks := false }, kinds := [], alts := [], laidByText := true, laidKinds := [.data, .data, .data], laidTests := true, laidLooks := .later }
def IrRoundUptoCardSaid : Prop := Claim7.holds Tryd.pinned (.plain (OpenSpec.upto irRoundSpec)) irRoundUptoCard

/-- THE SECOND FORM's CARD OF 'haruspexlaw8.IrNext'. -/
def irNextUptoCard : Claim7 := { stood := { row := irNextUptoRow, standIns := [], harness := (true, "11674c5082cac5aaa4fc55b95c7652063f6e159cc95ea8a37e00d8ea3ae05f84"), looks := false }, kinds := [], alts := [], laidByText := true, laidKinds := [.data, .data, .data], laidTests := true, laidLooks := .later }
def IrNextUptoCardSaid : Prop := Claim7.holds Tryd.pinned (.plain (OpenSpec.upto irNextSpec)) irNextUptoCard

/-- THE SECOND FORM's CARD OF 'haruspexlaw8.IrInstr'. -/
def irInstrUptoCard : Claim7 := { stood := { row := irInstrUptoRow, standIns := [], harness := (true, "11674c5082cac5aaa4fc55b95c7652063f6e159cc95ea8a37e00d8ea3ae05f84"), looks := false }, kinds := [], alts := [], laidByText := true, laidKinds := [.data, .data, .data], laidTests := true, laidLooks := .later }
def IrInstrUptoCardSaid : Prop := Claim7.holds Tryd.pinned (.plain (OpenSpec.upto irInstrSpec)) irInstrUptoCard
end Rows
end Go.Proofs.YtblblpmkdmociaaDoor
