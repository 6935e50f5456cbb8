/-
  DERIVED. GIVEN WITH THE SEED: THE CARDS: each row of YtlhdpcecinfpgaaDoorRows.lean that lists a variable, with what it lists TIED to the program's text (the seventh form; the later family's looks); each row that meets fmt, with fmt's text TOLD by the authors' own Lean function (tested against real Go, not proved from fmt's source: count such statements apart). THE CARD IS WHAT COUNTS. Prove the row's statement (the work); the ties are given (YtlhdpcecinfpgaaDoorTie.lean); close each card by the builder's one call (the guide's Derived/Test/ToyasCard.lean, 'card_holds'). Laid BY PROGRAM, IN A SANDBOX (cutbox-door.mjs). By AI agents, Wed Nov 11 2026. No macro, syntax, notation, axiom, sorry.
-/
import Derived.Test.YtlhdpcecinfpgaaDoorRows
import GoSem.ClaimSeven
namespace Go.Proofs.YtlhdpcecinfpgaaDoor
namespace Rows

/-- THE TIED CARD OF 'haruspexlaw11.AssignIn'. -/
def assignInCard : Claim7 := { stood := { row := assignInRow, standIns := [], harness := (true, "22dc8b2da754cfe55d891355ce3b6265ba2e8ac5b28978507477237b7abe42c7"), looks := true }, kinds := [], alts := [], laidByText := true, laidKinds := [.handle], laidTests := true, laidLooks := .later }
def AssignInCardSaid : Prop := Claim7.holds Tryd.pinned (.plain (OpenSpec.ofChange assignInSpec)) assignInCard

/-- THE TIED CARD OF 'haruspexlaw11.AssignFlow'. -/
def assignFlowCard : Claim7 := { stood := { row := assignFlowRow, standIns := [], harness := (true, "22dc8b2da754cfe55d891355ce3b6265ba2e8ac5b28978507477237b7abe42c7"), looks := true }, kinds := [], alts := [], laidByText := true, laidKinds := [.handle], laidTests := true, laidLooks := .later }
def AssignFlowCardSaid : Prop := Claim7.holds Tryd.pinned (.plain (OpenSpec.ofChange assignFlowSpec)) assignFlowCard

/-- THE TIED CARD OF 'haruspexlaw11.AssignCheck'. -/
def assignCheckCard : Claim7 := { stood := { row := assignCheckRow, standIns := [], harness := (true, "22dc8b2da754cfe55d891355ce3b6265ba2e8ac5b28978507477237b7abe42c7"), looks := true }, kinds := [], alts := [], laidByText := true, laidKinds := [.handle], laidTests := true, laidLooks := .later }
def AssignCheckCardSaid : Prop := Claim7.holds Tryd.pinned (.plain (OpenSpec.ofChange assignCheckSpec)) assignCheckCard

/-- THE TIED CARD OF 'haruspexlaw11.AssignDiamond'. -/
def assignDiamondCard : Claim7 := { stood := { row := assignDiamondRow, standIns := [], harness := (true, "22dc8b2da754cfe55d891355ce3b6265ba2e8ac5b28978507477237b7abe42c7"), looks := true }, kinds := [], alts := [], laidByText := true, laidKinds := [.handle], laidTests := true, laidLooks := .later }
def AssignDiamondCardSaid : Prop := Claim7.holds Tryd.pinned (.plain (OpenSpec.ofChange assignDiamondSpec)) assignDiamondCard

/-- THE TIED CARD OF 'haruspexlaw11.AssignLoop'. -/
def assignLoopCard : Claim7 := { stood := { row := assignLoopRow, standIns := [], harness := (true, "22dc8b2da754cfe55d891355ce3b6265ba2e8ac5b28978507477237b7abe42c7"), looks := true }, kinds := [], alts := [], laidByText := true, laidKinds := [.handle], laidTests := true, laidLooks := .later }
def AssignLoopCardSaid : Prop := Claim7.holds Tryd.pinned (.plain (OpenSpec.ofChange assignLoopSpec)) assignLoopCard

/-- THE SECOND FORM's CARD OF 'haruspexlaw11.AssignIn'. -/
def assignInUptoCard : Claim7 := { stood := { row := assignInUptoRow, standIns := [], harness := (true, "22dc8b2da754cfe55d891355ce3b6265ba2e8ac5b28978507477237b7abe42c7"), looks := true }, kinds := [], alts := [], laidByText := true, laidKinds := [.handle], laidTests := true, laidLooks := .later }
def AssignInUptoCardSaid : Prop := Claim7.holds Tryd.pinned (.plain (OpenSpec.upto assignInSpec)) assignInUptoCard

/-- THE SECOND FORM's CARD OF 'haruspexlaw11.AssignFlow'. -/
def assignFlowUptoCard : Claim7 := { stood := { row := assignFlowUptoRow, standIns := [], harness := (true, "22dc8b2da754cfe55d891355ce3b6265ba2e8ac5b28978507477237b7abe42c7"), looks := true }, kinds := [], alts := [], laidByText := true, laidKinds := [.handle], laidTests := true, laidLooks := .later }
def AssignFlowUptoCardSaid : Prop := Claim7.holds Tryd.pinned (.plain (OpenSpec.upto assignFlowSpec)) assignFlowUptoCard

/-- THE SECOND FORM's CARD OF 'haruspexlaw11.AssignCheck'. -/
def assignCheckUptoCard : Claim7 := { stood := { row := assignCheckUptoRow, standIns := [], harness := (true, "22dc8b2da754cfe55d891355ce3b6265ba2e8ac5b28978507477237b7abe42c7"), looks := true }, kinds := [], alts := [], laidByText := true, laidKinds := [.handle], laidTests := true, laidLooks := .later }
def AssignCheckUptoCardSaid : Prop := Claim7.holds Tryd.pinned (.plain (OpenSpec.upto assignCheckSpec)) assignCheckUptoCard

/-- THE SECOND FORM's CARD OF 'haruspexlaw11.AssignDiamond'. -/
def assignDiamondUptoCard : Claim7 := { stood := { row := assignDiamondUptoRow, standIns := [], harness := (true, "22dc8b2da754cfe55d891355ce3b6265ba2e8ac5b28978507477237b7abe42c7"), looks := true }, kinds := [], alts := [], laidByText := true, laidKinds := [.handle], laidTests := true, laidLooks := .later }
def AssignDiamondUptoCardSaid : Prop := Claim7.holds Tryd.pinned (.plain (OpenSpec.upto assignDiamondSpec)) assignDiamondUptoCard

/-- THE SECOND FORM's CARD OF 'haruspexlaw11.AssignLoop'. -/
def assignLoopUptoCard : Claim7 := { stood := { row := assignLoopUptoRow, standIns := [], harness := (true, "22dc8b2da754cfe55d891355ce3b6265ba2e8ac5b28978507477237b7abe42c7"), looks := true }, kinds := [], alts := [], laidByText := true, laidKinds := [.handle], laidTests := true, laidLooks := .later }
def AssignLoopUptoCardSaid : Prop := Claim7.holds Tryd.pinned (.plain (OpenSpec.upto assignLoopSpec)) assignLoopUptoCard
end Rows
end Go.Proofs.YtlhdpcecinfpgaaDoor
