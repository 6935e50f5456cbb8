/-
  DERIVED. GIVEN WITH THE SEED: THE CARDS: each row of YtncjcnipagdmlaaDoorRows.lean that lists a variable, with what it lists TIED to the program's text (the seventh form; the later family's looks); each row that meets fmt, with fmt's text TOLD by the authors' own Lean function (tested against real Go, not proved from fmt's source: count such statements apart). THE CARD IS WHAT COUNTS. Prove the row's statement (the work); the ties are given (YtncjcnipagdmlaaDoorTie.lean); close each card by the builder's one call (the guide's Derived/Test/ToyasCard.lean, 'card_holds'). Laid BY PROGRAM, IN A SANDBOX (cutbox-door.mjs). By AI agents, Wed Nov 11 2026. No macro, syntax, notation, axiom, sorry.
-/
import Derived.Test.YtncjcnipagdmlaaDoorRows
import GoSem.ClaimSeven
namespace Go.Proofs.YtncjcnipagdmlaaDoor
namespace Rows

/-- THE TIED CARD OF 'haruspexlaw9.CodeBytes'. -/
def codeBytesCard : Claim7 := { stood := { row := codeBytesRow, standIns := [], harness := (true, "265b7dcfd667783299ef2c9382dde12c4dfce627f705a149c407ca374bc35b07"), looks := true }, kinds := [], alts := [], laidByText := true, laidKinds := [.handle], laidTests := true, laidLooks := .later }
def CodeBytesCardSaid : Prop := Claim7.holds Tryd.pinned (.plain (OpenSpec.ofChange codeBytesSpec)) codeBytesCard

/-- THE TIED CARD OF 'haruspexlaw9.CodeLong'. -/
def codeLongCard : Claim7 := { stood := { row := codeLongRow, standIns := [], harness := (true, "265b7dcfd667783299ef2c9382dde12c4dfce627f705a149c407ca374bc35b07"), looks := true }, kinds := [], alts := [], laidByText := true, laidKinds := [.handle], laidTests := true, laidLooks := .later }
def CodeLongCardSaid : Prop := Claim7.holds Tryd.pinned (.plain (OpenSpec.ofChange codeLongSpec)) codeLongCard

/-- THE TIED CARD OF 'haruspexlaw9.CodeNone'. -/
def codeNoneCard : Claim7 := { stood := { row := codeNoneRow, standIns := [], harness := (true, "265b7dcfd667783299ef2c9382dde12c4dfce627f705a149c407ca374bc35b07"), looks := true }, kinds := [], alts := [], laidByText := true, laidKinds := [.handle], laidTests := true, laidLooks := .later }
def CodeNoneCardSaid : Prop := Claim7.holds Tryd.pinned (.plain (OpenSpec.ofChange codeNoneSpec)) codeNoneCard

/-- THE TIED CARD OF 'haruspexlaw9.CodeCut'. -/
def codeCutCard : Claim7 := { stood := { row := codeCutRow, standIns := [], harness := (true, "265b7dcfd667783299ef2c9382dde12c4dfce627f705a149c407ca374bc35b07"), looks := true }, kinds := [], alts := [], laidByText := true, laidKinds := [.handle], laidTests := true, laidLooks := .later }
def CodeCutCardSaid : Prop := Claim7.holds Tryd.pinned (.plain (OpenSpec.ofChange codeCutSpec)) codeCutCard

/-- THE TIED CARD OF 'haruspexlaw9.CodeTwins'. -/
def codeTwinsCard : Claim7 := { stood := { row := codeTwinsRow, standIns := [], harness := (true, "265b7dcfd667783299ef2c9382dde12c4dfce627f705a149c407ca374bc35b07"), looks := true }, kinds := [], alts := [], laidByText := true, laidKinds := [.handle], laidTests := true, laidLooks := .later }
def CodeTwinsCardSaid : Prop := Claim7.holds Tryd.pinned (.plain (OpenSpec.ofChange codeTwinsSpec)) codeTwinsCard

/-- THE TIED CARD OF 'haruspexlaw9.CodeNumbers'. -/
def codeNumbersCard : Claim7 := { stood := { row := codeNumbersRow, standIns := [], harness := (true, "265b7dcfd667783299ef2c9382dde12c4dfce627f705a149c407ca374bc35b07"), looks := true }, kinds := [], alts := [], laidByText := true, laidKinds := [.handle], laidTests := true, laidLooks := .later }
def CodeNumbersCardSaid : Prop := Claim7.holds Tryd.pinned (.plain (OpenSpec.ofChange codeNumbersSpec)) codeNumbersCard

/-- THE TIED CARD OF 'haruspexlaw9.CodeAny'. -/
def codeAnyCard : Claim7 := { stood := { row := codeAnyRow, standIns := [], harness := (true, "265b7dcfd667783299ef2c9382dde12c4dfce627f705a149c407ca374bc35b07"), looks := true }, kinds := [], alts := [], laidByText := true, laidKinds := [.handle], laidTests := true, laidLooks := .later }
def CodeAnyCardSaid : Prop := Claim7.holds Tryd.pinned (.plain (OpenSpec.ofChange codeAnySpec)) codeAnyCard

/-- THE SECOND FORM's CARD OF 'haruspexlaw9.CodeBytes'. -/
def codeBytesUptoCard : Claim7 := { stood := { row := codeBytesUptoRow, standIns := [], harness := (true, "265b7dcfd667783299ef2c9382dde12c4dfce627f705a149c407ca374bc35b07"), looks := true }, kinds := [], alts := [], laidByText := true, laidKinds := [.handle], laidTests := true, laidLooks := .later }
def CodeBytesUptoCardSaid : Prop := Claim7.holds Tryd.pinned (.plain (OpenSpec.upto codeBytesSpec)) codeBytesUptoCard

/-- THE SECOND FORM's CARD OF 'haruspexlaw9.CodeLong'. -/
def codeLongUptoCard : Claim7 := { stood := { row := codeLongUptoRow, standIns := [], harness := (true, "265b7dcfd667783299ef2c9382dde12c4dfce627f705a149c407ca374bc35b07"), looks := true }, kinds := [], alts := [], laidByText := true, laidKinds := [.handle], laidTests := true, laidLooks := .later }
def CodeLongUptoCardSaid : Prop := Claim7.holds Tryd.pinned (.plain (OpenSpec.upto codeLongSpec)) codeLongUptoCard

/-- THE SECOND FORM's CARD OF 'haruspexlaw9.CodeNone'. -/
def codeNoneUptoCard : Claim7 := { stood := { row := codeNoneUptoRow, standIns := [], harness := (true, "265b7dcfd667783299ef2c9382dde12c4dfce627f705a149c407ca374bc35b07"), looks := true }, kinds := [], alts := [], laidByText := true, laidKinds := [.handle], laidTests := true, laidLooks := .later }
def CodeNoneUptoCardSaid : Prop := Claim7.holds Tryd.pinned (.plain (OpenSpec.upto codeNoneSpec)) codeNoneUptoCard

/-- THE SECOND FORM's CARD OF 'haruspexlaw9.CodeCut'. -/
def codeCutUptoCard : Claim7 := { stood := { row := codeCutUptoRow, standIns := [], harness := (true, "265b7dcfd667783299ef2c9382dde12c4dfce627f705a149c407ca374bc35b07"), looks := true }, kinds := [], alts := [], laidByText := true, laidKinds := [.handle], laidTests := true, laidLooks := .later }
def CodeCutUptoCardSaid : Prop := Claim7.holds Tryd.pinned (.plain (OpenSpec.upto codeCutSpec)) codeCutUptoCard

/-- THE SECOND FORM's CARD OF 'haruspexlaw9.CodeTwins'. -/
def codeTwinsUptoCard : Claim7 := { stood := { row := codeTwinsUptoRow, standIns := [], harness := (true, "265b7dcfd667783299ef2c9382dde12c4dfce627f705a149c407ca374bc35b07"), looks := true }, kinds := [], alts := [], laidByText := true, laidKinds := [.handle], laidTests := true, laidLooks := .later }
def CodeTwinsUptoCardSaid : Prop := Claim7.holds Tryd.pinned (.plain (OpenSpec.upto codeTwinsSpec)) codeTwinsUptoCard

/-- THE SECOND FORM's CARD OF 'haruspexlaw9.CodeNumbers'. -/
def codeNumbersUptoCard : Claim7 := { stood := { row := codeNumbersUptoRow, standIns := [], harness := (true, "265b7dcfd667783299ef2c9382dde12c4dfce627f705a149c407ca374bc35b07"), looks := true }, kinds := [], alts := [], laidByText := true, laidKinds := [.handle], laidTests := true, laidLooks := .later }
def CodeNumbersUptoCardSaid : Prop := Claim7.holds Tryd.pinned (.plain (OpenSpec.upto codeNumbersSpec)) codeNumbersUptoCard

/-- THE SECOND FORM's CARD OF 'haruspexlaw9.CodeAny'. -/
def codeAnyUptoCard : Claim7 := { stood := { row := codeAnyUptoRow, standIns := [], harness := (true, "265b7dcfd667783299ef2c9382dde12c4dfce627f705a149c407ca374bc35b07"), looks := true }, kinds := [], alts := [], laidByText := true, laidKinds := [.handle], laidTests := true, laidLooks := .later }
def CodeAnyUptoCardSaid : Prop := Claim7.holds Tryd.pinned (.plain (OpenSpec.upto codeAnySpec)) codeAnyUptoCard
end Rows
end Go.Proofs.YtncjcnipagdmlaaDoor
