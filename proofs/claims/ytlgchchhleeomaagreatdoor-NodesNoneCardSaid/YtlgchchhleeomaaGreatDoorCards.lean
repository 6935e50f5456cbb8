/-
  DERIVED. GIVEN WITH THE SEED: THE CARDS: each row of YtlgchchhleeomaaGreatDoorRows.lean that lists a variable, with what it lists TIED to the program's text (the seventh form; the later family's looks); each row that meets fmt, with fmt's text TOLD by the authors' own Lean function (tested against real Go, not proved from fmt's source: count such statements apart). THE CARD IS WHAT COUNTS. Prove the row's statement (the work); the ties are given (YtlgchchhleeomaaGreatDoorTie.lean); close each card by the builder's one call (the guide's Derived/Test/ToyasCard.lean, 'card_holds'). Laid BY PROGRAM, IN A SANDBOX (cutbox-door.mjs). By AI agents, Wed Nov 11 2026. No macro, syntax, notation, axiom, sorry.
-/
import Derived.Test.YtlgchchhleeomaaGreatDoorRows
import GoSem.ClaimSeven
namespace Go.Proofs.YtlgchchhleeomaaGreatDoor
namespace Rows

/-- THE TIED CARD OF 'haruspexlaw16.NodesApart'. -/
def nodesApartCard : Claim7 := { stood := { row := nodesApartRow, standIns := [], harness := (true, "325b17000c3469ca6a92abe947b55083aa8b60ea399e9f606b9a2c8e80ed374d"), looks := true }, kinds := [], alts := [], laidByText := true, laidKinds := [.handle], laidTests := true, laidLooks := .later }
def NodesApartCardSaid : Prop := Claim7.holds Tryz.pinned (.plain (OpenSpec.ofChange nodesApartSpec)) nodesApartCard

/-- THE TIED CARD OF 'haruspexlaw16.NodesAll'. -/
def nodesAllCard : Claim7 := { stood := { row := nodesAllRow, standIns := [], harness := (true, "325b17000c3469ca6a92abe947b55083aa8b60ea399e9f606b9a2c8e80ed374d"), looks := true }, kinds := [], alts := [], laidByText := true, laidKinds := [.handle], laidTests := true, laidLooks := .later }
def NodesAllCardSaid : Prop := Claim7.holds Tryz.pinned (.plain (OpenSpec.ofChange nodesAllSpec)) nodesAllCard

/-- THE TIED CARD OF 'haruspexlaw16.NodesNone'. -/
def nodesNoneCard : Claim7 := { stood := { row := nodesNoneRow, standIns := [], harness := (true, "325b17000c3469ca6a92abe947b55083aa8b60ea399e9f606b9a2c8e80ed374d"), looks := true }, kinds := [], alts := [], laidByText := true, laidKinds := [.handle], laidTests := true, laidLooks := .later }
def NodesNoneCardSaid : Prop := Claim7.holds Tryz.pinned (.plain (OpenSpec.ofChange nodesNoneSpec)) nodesNoneCard

/-- THE SECOND FORM's CARD OF 'haruspexlaw16.NodesApart'. -/
def nodesApartUptoCard : Claim7 := { stood := { row := nodesApartUptoRow, standIns := [], harness := (true, "325b17000c3469ca6a92abe947b55083aa8b60ea399e9f606b9a2c8e80ed374d"), looks := true }, kinds := [], alts := [], laidByText := true, laidKinds := [.handle], laidTests := true, laidLooks := .later }
def NodesApartUptoCardSaid : Prop := Claim7.holds Tryz.pinned (.plain (OpenSpec.upto nodesApartSpec)) nodesApartUptoCard

/-- THE SECOND FORM's CARD OF 'haruspexlaw16.NodesAll'. -/
def nodesAllUptoCard : Claim7 := { stood := { row := nodesAllUptoRow, standIns := [], harness := (true, "325b17000c3469ca6a92abe947b55083aa8b60ea399e9f606b9a2c8e80ed374d"), looks := true }, kinds := [], alts := [], laidByText := true, laidKinds := [.handle], laidTests := true, laidLooks := .later }
def NodesAllUptoCardSaid : Prop := Claim7.holds Tryz.pinned (.plain (OpenSpec.upto nodesAllSpec)) nodesAllUptoCard

/-- THE SECOND FORM's CARD OF 'haruspexlaw16.NodesNone'. -/
def nodesNoneUptoCard : Claim7 := { stood := { row := nodesNoneUptoRow, standIns := [], harness := (true, "325b17000c3469ca6a92abe947b55083aa8b60ea399e9f606b9a2c8e80ed374d"), looks := true }, kinds := [], alts := [], laidByText := true, laidKinds := [.handle], laidTests := true, laidLooks := .later }
def NodesNoneUptoCardSaid : Prop := Claim7.holds Tryz.pinned (.plain (OpenSpec.upto nodesNoneSpec)) nodesNoneUptoCard
end Rows
end Go.Proofs.YtlgchchhleeomaaGreatDoor
