/-
  DERIVED. GIVEN WITH THE SEED: THE CARDS: each row of YtikjkhddkfkijaaGreatDoorRows.lean that lists a variable, with what it lists TIED to the program's text (the seventh form; the later family's looks); each row that meets fmt, with fmt's text TOLD by the authors' own Lean function (tested against real Go, not proved from fmt's source: count such statements apart). THE CARD IS WHAT COUNTS. Prove the row's statement (the work); the ties are given (YtikjkhddkfkijaaGreatDoorTie.lean); close each card by the builder's one call (the guide's Derived/Test/ToyasCard.lean, 'card_holds'). Laid BY PROGRAM, IN A SANDBOX (cutbox-door.mjs). By AI agents, Wed Nov 11 2026. No macro, syntax, notation, axiom, sorry.
-/
import Derived.Test.YtikjkhddkfkijaaGreatDoorRows
import GoSem.ClaimSeven
namespace Go.Proofs.YtikjkhddkfkijaaGreatDoor
namespace Rows

/-- THE TIED CARD OF 'haruspexlaw12.WfImpl'. -/
def wfImplCard : Claim7 := { stood := { row := wfImplRow, standIns := [], harness := (true, "d8b4d24b57cfb29af7129476a743c3deb4c2df78369abbdf4c7f441e333de0fb"), looks := true }, kinds := [], alts := [], laidByText := true, laidKinds := [.handle], laidTests := true, laidLooks := .later }
def WfImplCardSaid : Prop := Claim7.holds Tryz.pinned (.plain (OpenSpec.ofChange wfImplSpec)) wfImplCard

/-- THE TIED CARD OF 'haruspexlaw12.WfMethods'. -/
def wfMethodsCard : Claim7 := { stood := { row := wfMethodsRow, standIns := [], harness := (true, "d8b4d24b57cfb29af7129476a743c3deb4c2df78369abbdf4c7f441e333de0fb"), looks := true }, kinds := [], alts := [], laidByText := true, laidKinds := [.handle], laidTests := true, laidLooks := .later }
def WfMethodsCardSaid : Prop := Claim7.holds Tryz.pinned (.plain (OpenSpec.ofChange wfMethodsSpec)) wfMethodsCard

/-- THE TIED CARD OF 'haruspexlaw12.WfLoad'. -/
def wfLoadCard : Claim7 := { stood := { row := wfLoadRow, standIns := [], harness := (true, "d8b4d24b57cfb29af7129476a743c3deb4c2df78369abbdf4c7f441e333de0fb"), looks := true }, kinds := [], alts := [], laidByText := true, laidKinds := [.handle], laidTests := true, laidLooks := .later }
def WfLoadCardSaid : Prop := Claim7.holds Tryz.pinned (.plain (OpenSpec.ofChange wfLoadSpec)) wfLoadCard

/-- THE TIED CARD OF 'haruspexlaw12.WfOne'. -/
def wfOneCard : Claim7 := { stood := { row := wfOneRow, standIns := [], harness := (true, "d8b4d24b57cfb29af7129476a743c3deb4c2df78369abbdf4c7f441e333de0fb"), looks := true }, kinds := [], alts := [], laidByText := true, laidKinds := [.handle], laidTests := true, laidLooks := .later }
def WfOneCardSaid : Prop := Claim7.holds Tryz.pinned (.plain (OpenSpec.ofChange wfOneSpec)) wfOneCard

/-- THE TIED CARD OF 'haruspexlaw12.WfRound'. -/
def wfRoundCard : Claim7 := { stood := { row := wfRoundRow, standIns := [], harness := (true, "d8b4d24b57cfb29af7129476a743c3deb4c2df78369abbdf4c7f441e333de0fb"), looks := true }, kinds := [], alts := [], laidByText := true, laidKinds := [.handle], laidTests := true, laidLooks := .later }
def WfRoundCardSaid : Prop := Claim7.holds Tryz.pinned (.plain (OpenSpec.ofChange wfRoundSpec)) wfRoundCard

/-- THE TIED CARD OF 'haruspexlaw12.WfCheck'. -/
def wfCheckCard : Claim7 := { stood := { row := wfCheckRow, standIns := [], harness := (true, "d8b4d24b57cfb29af7129476a743c3deb4c2df78369abbdf4c7f441e333de0fb"), looks := true }, kinds := [], alts := [], laidByText := true, laidKinds := [.handle], laidTests := true, laidLooks := .later }
def WfCheckCardSaid : Prop := Claim7.holds Tryz.pinned (.plain (OpenSpec.ofChange wfCheckSpec)) wfCheckCard

/-- THE SECOND FORM's CARD OF 'haruspexlaw12.WfImpl'. -/
def wfImplUptoCard : Claim7 := { stood := { row := wfImplUptoRow, standIns := [], harness := (true, "d8b4d24b57cfb29af7129476a743c3deb4c2df78369abbdf4c7f441e333de0fb"), looks := true }, kinds := [], alts := [], laidByText := true, laidKinds := [.handle], laidTests := true, laidLooks := .later }
def WfImplUptoCardSaid : Prop := Claim7.holds Tryz.pinned (.plain (OpenSpec.upto wfImplSpec)) wfImplUptoCard

/-- THE SECOND FORM's CARD OF 'haruspexlaw12.WfMethods'. -/
def wfMethodsUptoCard : Claim7 := { stood := { row := wfMethodsUptoRow, standIns := [], harness := (true, "d8b4d24b57cfb29af7129476a743c3deb4c2df78369abbdf4c7f441e333de0fb"), looks := true }, kinds := [], alts := [], laidByText := true, laidKinds := [.handle], laidTests := true, laidLooks := .later }
def WfMethodsUptoCardSaid : Prop := Claim7.holds Tryz.pinned (.plain (OpenSpec.upto wfMethodsSpec)) wfMethodsUptoCard

/-- THE SECOND FORM's CARD OF 'haruspexlaw12.WfLoad'. -/
def wfLoadUptoCard : Claim7 := { stood := { row := wfLoadUptoRow, standIns := [], harness := (true, "d8b4d24b57cfb29af7129476a743c3deb4c2df78369abbdf4c7f441e333de0fb"), looks := true }, kinds := [], alts := [], laidByText := true, laidKinds := [.handle], laidTests := true, laidLooks := .later }
def WfLoadUptoCardSaid : Prop := Claim7.holds Tryz.pinned (.plain (OpenSpec.upto wfLoadSpec)) wfLoadUptoCard

/-- THE SECOND FORM's CARD OF 'haruspexlaw12.WfOne'. -/
def wfOneUptoCard : Claim7 := { stood := { row := wfOneUptoRow, standIns := [], harness := (true, "d8b4d24b57cfb29af7129476a743c3deb4c2df78369abbdf4c7f441e333de0fb"), looks := true }, kinds := [], alts := [], laidByText := true, laidKinds := [.handle], laidTests := true, laidLooks := .later }
def WfOneUptoCardSaid : Prop := Claim7.holds Tryz.pinned (.plain (OpenSpec.upto wfOneSpec)) wfOneUptoCard

/-- THE SECOND FORM's CARD OF 'haruspexlaw12.WfRound'. -/
def wfRoundUptoCard : Claim7 := { stood := { row := wfRoundUptoRow, standIns := [], harness := (true, "d8b4d24b57cfb29af7129476a743c3deb4c2df78369abbdf4c7f441e333de0fb"), looks := true }, kinds := [], alts := [], laidByText := true, laidKinds := [.handle], laidTests := true, laidLooks := .later }
def WfRoundUptoCardSaid : Prop := Claim7.holds Tryz.pinned (.plain (OpenSpec.upto wfRoundSpec)) wfRoundUptoCard

/-- THE SECOND FORM's CARD OF 'haruspexlaw12.WfCheck'. -/
def wfCheckUptoCard : Claim7 := { stood := { row := wfCheckUptoRow, standIns := [], harness := (true, "d8b4d24b57cfb29af7129476a743c3deb4c2df78369abbdf4c7f441e333de0fb"), looks := true }, kinds := [], alts := [], laidByText := true, laidKinds := [.handle], laidTests := true, laidLooks := .later }
def WfCheckUptoCardSaid : Prop := Claim7.holds Tryz.pinned (.plain (OpenSpec.upto wfCheckSpec)) wfCheckUptoCard
end Rows
end Go.Proofs.YtikjkhddkfkijaaGreatDoor
