/-
  DERIVED. GIVEN WITH THE SEED: THE CARDS: each row of YtlfdcehdpnidnaaDoorRows.lean that lists a variable, with what it lists TIED to the program's text (the seventh form; the later family's looks); each row that meets fmt, with fmt's text TOLD by the authors' own Lean function (tested against real Go, not proved from fmt's source: count such statements apart). THE CARD IS WHAT COUNTS. Prove the row's statement (the work); the ties are given (YtlfdcehdpnidnaaDoorTie.lean); close each card by the builder's one call (the guide's Derived/Test/ToyasCard.lean, 'card_holds'). Laid BY PROGRAM, IN A SANDBOX (cutbox-door.mjs). By AI agents, Wed Nov 11 2026. No macro, syntax, notation, axiom, sorry.
-/
import Derived.Test.YtlfdcehdpnidnaaDoorRows
import GoSem.ClaimSeven
namespace Go.Proofs.YtlfdcehdpnidnaaDoor
namespace Rows

/-- THE TIED CARD OF 'haruspexlaw4.RefuseNone'. -/
def refuseNoneCard : Claim7 := { stood := { row := refuseNoneRow, standIns := [], harness := (true, "2f4d8b227900dd27d1b2a25e4023cbdc185f654f93a8b34377cd397ccbd93903"), looks := true }, kinds := [], alts := [], laidByText := true, laidKinds := [.data, .data, .data, .handle], laidTests := true, laidLooks := .later }
def RefuseNoneCardSaid : Prop := Claim7.holds Tryd.pinned (.plain (OpenSpec.ofChange refuseNoneSpec)) refuseNoneCard

/-- THE TIED CARD OF 'haruspexlaw4.RefuseChain'. -/
def refuseChainCard : Claim7 := { stood := { row := refuseChainRow, standIns := [], harness := (true, "2f4d8b227900dd27d1b2a25e4023cbdc185f654f93a8b34377cd397ccbd93903"), looks := true }, kinds := [], alts := [], laidByText := true, laidKinds := [.data, .data, .data, .handle], laidTests := true, laidLooks := .later }
def RefuseChainCardSaid : Prop := Claim7.holds Tryd.pinned (.plain (OpenSpec.ofChange refuseChainSpec)) refuseChainCard

/-- THE TIED CARD OF 'haruspexlaw4.RefuseIs'. -/
def refuseIsCard : Claim7 := { stood := { row := refuseIsRow, standIns := [], harness := (true, "2f4d8b227900dd27d1b2a25e4023cbdc185f654f93a8b34377cd397ccbd93903"), looks := true }, kinds := [], alts := [], laidByText := true, laidKinds := [.data, .data, .data, .handle], laidTests := true, laidLooks := .later }
def RefuseIsCardSaid : Prop := Claim7.holds Tryd.pinned (.plain (OpenSpec.ofChange refuseIsSpec)) refuseIsCard

/-- THE TIED CARD OF 'haruspexlaw4.RefuseDeep'. -/
def refuseDeepCard : Claim7 := { stood := { row := refuseDeepRow, standIns := [], harness := (true, "2f4d8b227900dd27d1b2a25e4023cbdc185f654f93a8b34377cd397ccbd93903"), looks := true }, kinds := [], alts := [], laidByText := true, laidKinds := [.data, .data, .data, .handle], laidTests := true, laidLooks := .later }
def RefuseDeepCardSaid : Prop := Claim7.holds Tryd.pinned (.plain (OpenSpec.ofChange refuseDeepSpec)) refuseDeepCard

/-- THE SECOND FORM's CARD OF 'haruspexlaw4.RefuseNone'. -/
def refuseNoneUptoCard : Claim7 := { stood := { row := refuseNoneUptoRow, standIns := [], harness := (true, "2f4d8b227900dd27d1b2a25e4023cbdc185f654f93a8b34377cd397ccbd93903"), looks := true }, kinds := [], alts := [], laidByText := true, laidKinds := [.data, .data, .data, .handle], laidTests := true, laidLooks := .later }
def RefuseNoneUptoCardSaid : Prop := Claim7.holds Tryd.pinned (.plain (OpenSpec.upto refuseNoneSpec)) refuseNoneUptoCard

/-- THE SECOND FORM's CARD OF 'haruspexlaw4.RefuseChain'. -/
def refuseChainUptoCard : Claim7 := { stood := { row := refuseChainUptoRow, standIns := [], harness := (true, "2f4d8b227900dd27d1b2a25e4023cbdc185f654f93a8b34377cd397ccbd93903"), looks := true }, kinds := [], alts := [], laidByText := true, laidKinds := [.data, .data, .data, .handle], laidTests := true, laidLooks := .later }
def RefuseChainUptoCardSaid : Prop := Claim7.holds Tryd.pinned (.plain (OpenSpec.upto refuseChainSpec)) refuseChainUptoCard

/-- THE SECOND FORM's CARD OF 'haruspexlaw4.RefuseIs'. -/
def refuseIsUptoCard : Claim7 := { stood := { row := refuseIsUptoRow, standIns := [], harness := (true, "2f4d8b227900dd27d1b2a25e4023cbdc185f654f93a8b34377cd397ccbd93903"), looks := true }, kinds := [], alts := [], laidByText := true, laidKinds := [.data, .data, .data, .handle], laidTests := true, laidLooks := .later }
def RefuseIsUptoCardSaid : Prop := Claim7.holds Tryd.pinned (.plain (OpenSpec.upto refuseIsSpec)) refuseIsUptoCard

/-- THE SECOND FORM's CARD OF 'haruspexlaw4.RefuseDeep'. -/
def refuseDeepUptoCard : Claim7 := { stood := { row := refuseDeepUptoRow, standIns := [], harness := (true, "2f4d8b227900dd27d1b2a25e4023cbdc185f654f93a8b34377cd397ccbd93903"), looks := true }, kinds := [], alts := [], laidByText := true, laidKinds := [.data, .data, .data, .handle], laidTests := true, laidLooks := .later }
def RefuseDeepUptoCardSaid : Prop := Claim7.holds Tryd.pinned (.plain (OpenSpec.upto refuseDeepSpec)) refuseDeepUptoCard
end Rows
end Go.Proofs.YtlfdcehdpnidnaaDoor
