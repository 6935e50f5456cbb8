/-
  DERIVED. GIVEN WITH THE SEED: THE CARDS: each row of YtdlceoefjoljnaaGreatDoorRows.lean that lists a variable, with what it lists TIED to the program's text (the seventh form; the later family's looks); each row that meets fmt, with fmt's text TOLD by the authors' own Lean function (tested against real Go, not proved from fmt's source: count such statements apart). THE CARD IS WHAT COUNTS. Prove the row's statement (the work); the ties are given (YtdlceoefjoljnaaGreatDoorTie.lean); close each card by the builder's one call (the guide's Derived/Test/ToyasCard.lean, 'card_holds'). Laid BY PROGRAM, IN A SANDBOX (cutbox-door.mjs). By AI agents, Wed Nov 11 2026. No macro, syntax, notation, axiom, sorry.
-/
import Derived.Test.YtdlceoefjoljnaaGreatDoorRows
import GoSem.ClaimSeven
namespace Go.Proofs.YtdlceoefjoljnaaGreatDoor
namespace Rows

/-- THE TIED CARD OF 'haruspextop.TopBranch'. -/
def topBranchCard : Claim7 := { stood := { row := topBranchRow, standIns := [], harness := (true, "1269f24e03c2459557c69f3b5ee98dd47657f8843ab99211c3563cdd449ae1f0"), looks := true }, kinds := [], alts := [], laidByText := true, laidKinds := [.data, .handle], laidTests := true, laidLooks := .later }
def TopBranchCardSaid : Prop := Claim7.holds Tryz.pinned (.plain (OpenSpec.ofChange topBranchSpec)) topBranchCard

/-- THE TIED CARD OF 'haruspextop.TopLoopFree'. -/
def topLoopFreeCard : Claim7 := { stood := { row := topLoopFreeRow, standIns := [], harness := (true, "1269f24e03c2459557c69f3b5ee98dd47657f8843ab99211c3563cdd449ae1f0"), looks := true }, kinds := [], alts := [], laidByText := true, laidKinds := [.data, .handle], laidTests := true, laidLooks := .later }
def TopLoopFreeCardSaid : Prop := Claim7.holds Tryz.pinned (.plain (OpenSpec.ofChange topLoopFreeSpec)) topLoopFreeCard

/-- THE TIED CARD OF 'haruspextop.TopTaintLoop'. -/
def topTaintLoopCard : Claim7 := { stood := { row := topTaintLoopRow, standIns := [], harness := (true, "1269f24e03c2459557c69f3b5ee98dd47657f8843ab99211c3563cdd449ae1f0"), looks := true }, kinds := [], alts := [], laidByText := true, laidKinds := [.data, .handle], laidTests := true, laidLooks := .later }
def TopTaintLoopCardSaid : Prop := Claim7.holds Tryz.pinned (.plain (OpenSpec.ofChange topTaintLoopSpec)) topTaintLoopCard

/-- THE TIED CARD OF 'haruspextop.TopTaintHeap'. -/
def topTaintHeapCard : Claim7 := { stood := { row := topTaintHeapRow, standIns := [], harness := (true, "1269f24e03c2459557c69f3b5ee98dd47657f8843ab99211c3563cdd449ae1f0"), looks := true }, kinds := [], alts := [], laidByText := true, laidKinds := [.data, .handle], laidTests := true, laidLooks := .later }
def TopTaintHeapCardSaid : Prop := Claim7.holds Tryz.pinned (.plain (OpenSpec.ofChange topTaintHeapSpec)) topTaintHeapCard

/-- THE TIED CARD OF 'haruspextop.TopOrder'. -/
def topOrderCard : Claim7 := { stood := { row := topOrderRow, standIns := [], harness := (true, "1269f24e03c2459557c69f3b5ee98dd47657f8843ab99211c3563cdd449ae1f0"), looks := true }, kinds := [], alts := [], laidByText := true, laidKinds := [.data, .handle], laidTests := true, laidLooks := .later }
def TopOrderCardSaid : Prop := Claim7.holds Tryz.pinned (.plain (OpenSpec.ofChange topOrderSpec)) topOrderCard

/-- THE TIED CARD OF 'haruspextop.TopFreeOther'. -/
def topFreeOtherCard : Claim7 := { stood := { row := topFreeOtherRow, standIns := [], harness := (true, "1269f24e03c2459557c69f3b5ee98dd47657f8843ab99211c3563cdd449ae1f0"), looks := true }, kinds := [], alts := [], laidByText := true, laidKinds := [.data, .handle], laidTests := true, laidLooks := .later }
def TopFreeOtherCardSaid : Prop := Claim7.holds Tryz.pinned (.plain (OpenSpec.ofChange topFreeOtherSpec)) topFreeOtherCard

/-- THE TIED CARD OF 'haruspextop.TopCosts'. -/
def topCostsCard : Claim7 := { stood := { row := topCostsRow, standIns := [], harness := (true, "1269f24e03c2459557c69f3b5ee98dd47657f8843ab99211c3563cdd449ae1f0"), looks := true }, kinds := [], alts := [], laidByText := true, laidKinds := [.data, .handle], laidTests := true, laidLooks := .later }
def TopCostsCardSaid : Prop := Claim7.holds Tryz.pinned (.plain (OpenSpec.ofChange topCostsSpec)) topCostsCard

/-- THE TIED CARD OF 'haruspextop.TopFaceNil'. -/
def topFaceNilCard : Claim7 := { stood := { row := topFaceNilRow, standIns := [], harness := (true, "1269f24e03c2459557c69f3b5ee98dd47657f8843ab99211c3563cdd449ae1f0"), looks := true }, kinds := [], alts := [], laidByText := true, laidKinds := [.data, .handle], laidTests := true, laidLooks := .later }
def TopFaceNilCardSaid : Prop := Claim7.holds Tryz.pinned (.plain (OpenSpec.ofChange topFaceNilSpec)) topFaceNilCard

/-- THE TIED CARD OF 'haruspextop.TopFunField'. -/
def topFunFieldCard : Claim7 := { stood := { row := topFunFieldRow, standIns := [], harness := (true, "1269f24e03c2459557c69f3b5ee98dd47657f8843ab99211c3563cdd449ae1f0"), looks := true }, kinds := [], alts := [], laidByText := true, laidKinds := [.data, .handle], laidTests := true, laidLooks := .later }
def TopFunFieldCardSaid : Prop := Claim7.holds Tryz.pinned (.plain (OpenSpec.ofChange topFunFieldSpec)) topFunFieldCard

/-- THE TIED CARD OF 'haruspextop.TopDispatch'. -/
def topDispatchCard : Claim7 := { stood := { row := topDispatchRow, standIns := [], harness := (true, "1269f24e03c2459557c69f3b5ee98dd47657f8843ab99211c3563cdd449ae1f0"), looks := true }, kinds := [], alts := [], laidByText := true, laidKinds := [.data, .handle], laidTests := true, laidLooks := .later }
def TopDispatchCardSaid : Prop := Claim7.holds Tryz.pinned (.plain (OpenSpec.ofChange topDispatchSpec)) topDispatchCard

/-- THE TIED CARD OF 'haruspextop.TopTable'. -/
def topTableCard : Claim7 := { stood := { row := topTableRow, standIns := [], harness := (true, "1269f24e03c2459557c69f3b5ee98dd47657f8843ab99211c3563cdd449ae1f0"), looks := true }, kinds := [], alts := [], laidByText := true, laidKinds := [.data, .handle], laidTests := true, laidLooks := .later }
def TopTableCardSaid : Prop := Claim7.holds Tryz.pinned (.plain (OpenSpec.ofChange topTableSpec)) topTableCard

/-- THE TIED CARD OF 'haruspextop.TopList'. -/
def topListCard : Claim7 := { stood := { row := topListRow, standIns := [], harness := (true, "1269f24e03c2459557c69f3b5ee98dd47657f8843ab99211c3563cdd449ae1f0"), looks := true }, kinds := [], alts := [], laidByText := true, laidKinds := [.data, .handle], laidTests := true, laidLooks := .later }
def TopListCardSaid : Prop := Claim7.holds Tryz.pinned (.plain (OpenSpec.ofChange topListSpec)) topListCard

/-- THE TIED CARD OF 'haruspextop.TopSites'. -/
def topSitesCard : Claim7 := { stood := { row := topSitesRow, standIns := [], harness := (true, "1269f24e03c2459557c69f3b5ee98dd47657f8843ab99211c3563cdd449ae1f0"), looks := true }, kinds := [], alts := [], laidByText := true, laidKinds := [.data, .handle], laidTests := true, laidLooks := .later }
def TopSitesCardSaid : Prop := Claim7.holds Tryz.pinned (.plain (OpenSpec.ofChange topSitesSpec)) topSitesCard

/-- THE TIED CARD OF 'haruspextop.TopMade'. -/
def topMadeCard : Claim7 := { stood := { row := topMadeRow, standIns := [], harness := (true, "1269f24e03c2459557c69f3b5ee98dd47657f8843ab99211c3563cdd449ae1f0"), looks := true }, kinds := [], alts := [], laidByText := true, laidKinds := [.data, .handle], laidTests := true, laidLooks := .later }
def TopMadeCardSaid : Prop := Claim7.holds Tryz.pinned (.plain (OpenSpec.ofChange topMadeSpec)) topMadeCard

/-- THE SECOND FORM's CARD OF 'haruspextop.TopBranch'. -/
def topBranchUptoCard : Claim7 := { stood := { row := topBranchUptoRow, standIns := [], harness := (true, "1269f24e03c2459557c69f3b5ee98dd47657f8843ab99211c3563cdd449ae1f0"), looks := true }, kinds := [], alts := [], laidByText := true, laidKinds := [.data, .handle], laidTests := true, laidLooks := .later }
def TopBranchUptoCardSaid : Prop := Claim7.holds Tryz.pinned (.plain (OpenSpec.upto topBranchSpec)) topBranchUptoCard

/-- THE SECOND FORM's CARD OF 'haruspextop.TopLoopFree'. -/
def topLoopFreeUptoCard : Claim7 := { stood := { row := topLoopFreeUptoRow, standIns := [], harness := (true, "1269f24e03c2459557c69f3b5ee98dd47657f8843ab99211c3563cdd449ae1f0"), looks := true }, kinds := [], alts := [], laidByText := true, laidKinds := [.data, .handle], laidTests := true, laidLooks := .later }
def TopLoopFreeUptoCardSaid : Prop := Claim7.holds Tryz.pinned (.plain (OpenSpec.upto topLoopFreeSpec)) topLoopFreeUptoCard

/-- THE SECOND FORM's CARD OF 'haruspextop.TopTaintLoop'. -/
def topTaintLoopUptoCard : Claim7 := { stood := { row := topTaintLoopUptoRow, standIns := [], harness := (true, "1269f24e03c2459557c69f3b5ee98dd47657f8843ab99211c3563cdd449ae1f0"), looks := true }, kinds := [], alts := [], laidByText := true, laidKinds := [.data, .handle], laidTests := true, laidLooks := .later }
def TopTaintLoopUptoCardSaid : Prop := Claim7.holds Tryz.pinned (.plain (OpenSpec.upto topTaintLoopSpec)) topTaintLoopUptoCard

/-- THE SECOND FORM's CARD OF 'haruspextop.TopTaintHeap'. -/
def topTaintHeapUptoCard : Claim7 := { stood := { row := topTaintHeapUptoRow, standIns := [], harness := (true, "1269f24e03c2459557c69f3b5ee98dd47657f8843ab99211c3563cdd449ae1f0"), looks := true }, kinds := [], alts := [], laidByText := true, laidKinds := [.data, .handle], laidTests := true, laidLooks := .later }
def TopTaintHeapUptoCardSaid : Prop := Claim7.holds Tryz.pinned (.plain (OpenSpec.upto topTaintHeapSpec)) topTaintHeapUptoCard

/-- THE SECOND FORM's CARD OF 'haruspextop.TopOrder'. -/
def topOrderUptoCard : Claim7 := { stood := { row := topOrderUptoRow, standIns := [], harness := (true, "1269f24e03c2459557c69f3b5ee98dd47657f8843ab99211c3563cdd449ae1f0"), looks := true }, kinds := [], alts := [], laidByText := true, laidKinds := [.data, .handle], laidTests := true, laidLooks := .later }
def TopOrderUptoCardSaid : Prop := Claim7.holds Tryz.pinned (.plain (OpenSpec.upto topOrderSpec)) topOrderUptoCard

/-- THE SECOND FORM's CARD OF 'haruspextop.TopFreeOther'. -/
def topFreeOtherUptoCard : Claim7 := { stood := { row := topFreeOtherUptoRow, standIns := [], harness := (true, "1269f24e03c2459557c69f3b5ee98dd47657f8843ab99211c3563cdd449ae1f0"), looks := true }, kinds := [], alts := [], laidByText := true, laidKinds := [.data, .handle], laidTests := true, laidLooks := .later }
def TopFreeOtherUptoCardSaid : Prop := Claim7.holds Tryz.pinned (.plain (OpenSpec.upto topFreeOtherSpec)) topFreeOtherUptoCard

/-- THE SECOND FORM's CARD OF 'haruspextop.TopCosts'. -/
def topCostsUptoCard : Claim7 := { stood := { row := topCostsUptoRow, standIns := [], harness := (true, "1269f24e03c2459557c69f3b5ee98dd47657f8843ab99211c3563cdd449ae1f0"), looks := true }, kinds := [], alts := [], laidByText := true, laidKinds := [.data, .handle], laidTests := true, laidLooks := .later }
def TopCostsUptoCardSaid : Prop := Claim7.holds Tryz.pinned (.plain (OpenSpec.upto topCostsSpec)) topCostsUptoCard

/-- THE SECOND FORM's CARD OF 'haruspextop.TopFaceNil'. -/
def topFaceNilUptoCard : Claim7 := { stood := { row := topFaceNilUptoRow, standIns := [], harness := (true, "1269f24e03c2459557c69f3b5ee98dd47657f8843ab99211c3563cdd449ae1f0"), looks := true }, kinds := [], alts := [], laidByText := true, laidKinds := [.data, .handle], laidTests := true, laidLooks := .later }
def TopFaceNilUptoCardSaid : Prop := Claim7.holds Tryz.pinned (.plain (OpenSpec.upto topFaceNilSpec)) topFaceNilUptoCard

/-- THE SECOND FORM's CARD OF 'haruspextop.TopFunField'. -/
def topFunFieldUptoCard : Claim7 := { stood := { row := topFunFieldUptoRow, standIns := [], harness := (true, "1269f24e03c2459557c69f3b5ee98dd47657f8843ab99211c3563cdd449ae1f0"), looks := true }, kinds := [], alts := [], laidByText := true, laidKinds := [.data, .handle], laidTests := true, laidLooks := .later }
def TopFunFieldUptoCardSaid : Prop := Claim7.holds Tryz.pinned (.plain (OpenSpec.upto topFunFieldSpec)) topFunFieldUptoCard

/-- THE SECOND FORM's CARD OF 'haruspextop.TopDispatch'. -/
def topDispatchUptoCard : Claim7 := { stood := { row := topDispatchUptoRow, standIns := [], harness := (true, "1269f24e03c2459557c69f3b5ee98dd47657f8843ab99211c3563cdd449ae1f0"), looks := true }, kinds := [], alts := [], laidByText := true, laidKinds := [.data, .handle], laidTests := true, laidLooks := .later }
def TopDispatchUptoCardSaid : Prop := Claim7.holds Tryz.pinned (.plain (OpenSpec.upto topDispatchSpec)) topDispatchUptoCard

/-- THE SECOND FORM's CARD OF 'haruspextop.TopTable'. -/
def topTableUptoCard : Claim7 := { stood := { row := topTableUptoRow, standIns := [], harness := (true, "1269f24e03c2459557c69f3b5ee98dd47657f8843ab99211c3563cdd449ae1f0"), looks := true }, kinds := [], alts := [], laidByText := true, laidKinds := [.data, .handle], laidTests := true, laidLooks := .later }
def TopTableUptoCardSaid : Prop := Claim7.holds Tryz.pinned (.plain (OpenSpec.upto topTableSpec)) topTableUptoCard

/-- THE SECOND FORM's CARD OF 'haruspextop.TopList'. -/
def topListUptoCard : Claim7 := { stood := { row := topListUptoRow, standIns := [], harness := (true, "1269f24e03c2459557c69f3b5ee98dd47657f8843ab99211c3563cdd449ae1f0"), looks := true }, kinds := [], alts := [], laidByText := true, laidKinds := [.data, .handle], laidTests := true, laidLooks := .later }
def TopListUptoCardSaid : Prop := Claim7.holds Tryz.pinned (.plain (OpenSpec.upto topListSpec)) topListUptoCard

/-- THE SECOND FORM's CARD OF 'haruspextop.TopSites'. -/
def topSitesUptoCard : Claim7 := { stood := { row := topSitesUptoRow, standIns := [], harness := (true, "1269f24e03c2459557c69f3b5ee98dd47657f8843ab99211c3563cdd449ae1f0"), looks := true }, kinds := [], alts := [], laidByText := true, laidKinds := [.data, .handle], laidTests := true, laidLooks := .later }
def TopSitesUptoCardSaid : Prop := Claim7.holds Tryz.pinned (.plain (OpenSpec.upto topSitesSpec)) topSitesUptoCard

/-- THE SECOND FORM's CARD OF 'haruspextop.TopMade'. -/
def topMadeUptoCard : Claim7 := { stood := { row := topMadeUptoRow, standIns := [], harness := (true, "1269f24e03c2459557c69f3b5ee98dd47657f8843ab99211c3563cdd449ae1f0"), looks := true }, kinds := [], alts := [], laidByText := true, laidKinds := [.data, .handle], laidTests := true, laidLooks := .later }
def TopMadeUptoCardSaid : Prop := Claim7.holds Tryz.pinned (.plain (OpenSpec.upto topMadeSpec)) topMadeUptoCard
end Rows
end Go.Proofs.YtdlceoefjoljnaaGreatDoor
