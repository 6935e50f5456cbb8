/-
  DERIVED. GIVEN WITH THE SEED: THE CARDS: each row of YthihegmbdclikaaDoorRows.lean that lists a variable, with what it lists TIED to the program's text (the seventh form; the later family's looks); each row that meets fmt, with fmt's text TOLD by the authors' own Lean function (tested against real Go, not proved from fmt's source: count such statements apart). THE CARD IS WHAT COUNTS. Prove the row's statement (the work); the ties are given (YthihegmbdclikaaDoorTie.lean); close each card by the builder's one call (the guide's Derived/Test/ToyasCard.lean, 'card_holds'). Laid BY PROGRAM, IN A SANDBOX (cutbox-door.mjs). By AI agents, Wed Nov 11 2026. No macro, syntax, notation, axiom, sorry.
-/
import Derived.Test.YthihegmbdclikaaDoorRows
import GoSem.ClaimSeven
namespace Go.Proofs.YthihegmbdclikaaDoor
namespace Rows

/-- THE TIED CARD OF 'haruspexlaw10.TypesTable'. -/
def typesTableCard : Claim7 := { stood := { row := typesTableRow, standIns := [], harness := (true, "d34613b6c52f1c8939a157359f0b567309660d7d72c66f21f75d6c5122967704"), looks := true }, kinds := [], alts := [], laidByText := true, laidKinds := [.handle], laidTests := true, laidLooks := .later }
def TypesTableCardSaid : Prop := Claim7.holds Tryd.pinned (.plain (OpenSpec.ofChange typesTableSpec)) typesTableCard

/-- THE TIED CARD OF 'haruspexlaw10.TypesLimits'. -/
def typesLimitsCard : Claim7 := { stood := { row := typesLimitsRow, standIns := [], harness := (true, "d34613b6c52f1c8939a157359f0b567309660d7d72c66f21f75d6c5122967704"), looks := true }, kinds := [], alts := [], laidByText := true, laidKinds := [.handle], laidTests := true, laidLooks := .later }
def TypesLimitsCardSaid : Prop := Claim7.holds Tryd.pinned (.plain (OpenSpec.ofChange typesLimitsSpec)) typesLimitsCard

/-- THE TIED CARD OF 'haruspexlaw10.TypesPoints'. -/
def typesPointsCard : Claim7 := { stood := { row := typesPointsRow, standIns := [], harness := (true, "d34613b6c52f1c8939a157359f0b567309660d7d72c66f21f75d6c5122967704"), looks := true }, kinds := [], alts := [], laidByText := true, laidKinds := [.handle], laidTests := true, laidLooks := .later }
def TypesPointsCardSaid : Prop := Claim7.holds Tryd.pinned (.plain (OpenSpec.ofChange typesPointsSpec)) typesPointsCard

/-- THE TIED CARD OF 'haruspexlaw10.TypesBounds'. -/
def typesBoundsCard : Claim7 := { stood := { row := typesBoundsRow, standIns := [], harness := (true, "d34613b6c52f1c8939a157359f0b567309660d7d72c66f21f75d6c5122967704"), looks := true }, kinds := [], alts := [], laidByText := true, laidKinds := [.handle], laidTests := true, laidLooks := .later }
def TypesBoundsCardSaid : Prop := Claim7.holds Tryd.pinned (.plain (OpenSpec.ofChange typesBoundsSpec)) typesBoundsCard

/-- THE TIED CARD OF 'haruspexlaw10.TypesNames'. -/
def typesNamesCard : Claim7 := { stood := { row := typesNamesRow, standIns := [], harness := (true, "d34613b6c52f1c8939a157359f0b567309660d7d72c66f21f75d6c5122967704"), looks := true }, kinds := [], alts := [], laidByText := true, laidKinds := [.handle], laidTests := true, laidLooks := .later }
def TypesNamesCardSaid : Prop := Claim7.holds Tryd.pinned (.plain (OpenSpec.ofChange typesNamesSpec)) typesNamesCard

/-- THE TIED CARD OF 'haruspexlaw10.TypesCheck'. -/
def typesCheckCard : Claim7 := { stood := { row := typesCheckRow, standIns := [], harness := (true, "d34613b6c52f1c8939a157359f0b567309660d7d72c66f21f75d6c5122967704"), looks := true }, kinds := [], alts := [], laidByText := true, laidKinds := [.handle], laidTests := true, laidLooks := .later }
def TypesCheckCardSaid : Prop := Claim7.holds Tryd.pinned (.plain (OpenSpec.ofChange typesCheckSpec)) typesCheckCard

/-- THE TIED CARD OF 'haruspexlaw10.TypesMain'. -/
def typesMainCard : Claim7 := { stood := { row := typesMainRow, standIns := [], harness := (true, "d34613b6c52f1c8939a157359f0b567309660d7d72c66f21f75d6c5122967704"), looks := true }, kinds := [], alts := [], laidByText := true, laidKinds := [.handle], laidTests := true, laidLooks := .later }
def TypesMainCardSaid : Prop := Claim7.holds Tryd.pinned (.plain (OpenSpec.ofChange typesMainSpec)) typesMainCard

/-- THE SECOND FORM's CARD OF 'haruspexlaw10.TypesTable'. -/
def typesTableUptoCard : Claim7 := { stood := { row := typesTableUptoRow, standIns := [], harness := (true, "d34613b6c52f1c8939a157359f0b567309660d7d72c66f21f75d6c5122967704"), looks := true }, kinds := [], alts := [], laidByText := true, laidKinds := [.handle], laidTests := true, laidLooks := .later }
def TypesTableUptoCardSaid : Prop := Claim7.holds Tryd.pinned (.plain (OpenSpec.upto typesTableSpec)) typesTableUptoCard

/-- THE SECOND FORM's CARD OF 'haruspexlaw10.TypesLimits'. -/
def typesLimitsUptoCard : Claim7 := { stood := { row := typesLimitsUptoRow, standIns := [], harness := (true, "d34613b6c52f1c8939a157359f0b567309660d7d72c66f21f75d6c5122967704"), looks := true }, kinds := [], alts := [], laidByText := true, laidKinds := [.handle], laidTests := true, laidLooks := .later }
def TypesLimitsUptoCardSaid : Prop := Claim7.holds Tryd.pinned (.plain (OpenSpec.upto typesLimitsSpec)) typesLimitsUptoCard

/-- THE SECOND FORM's CARD OF 'haruspexlaw10.TypesPoints'. -/
def typesPointsUptoCard : Claim7 := { stood := { row := typesPointsUptoRow, standIns := [], harness := (true, "d34613b6c52f1c8939a157359f0b567309660d7d72c66f21f75d6c5122967704"), looks := true }, kinds := [], alts := [], laidByText := true, laidKinds := [.handle], laidTests := true, laidLooks := .later }
def TypesPointsUptoCardSaid : Prop := Claim7.holds Tryd.pinned (.plain (OpenSpec.upto typesPointsSpec)) typesPointsUptoCard

/-- THE SECOND FORM's CARD OF 'haruspexlaw10.TypesBounds'. -/
def typesBoundsUptoCard : Claim7 := { stood := { row := typesBoundsUptoRow, standIns := [], harness := (true, "d34613b6c52f1c8939a157359f0b567309660d7d72c66f21f75d6c5122967704"), looks := true }, kinds := [], alts := [], laidByText := true, laidKinds := [.handle], laidTests := true, laidLooks := .later }
def TypesBoundsUptoCardSaid : Prop := Claim7.holds Tryd.pinned (.plain (OpenSpec.upto typesBoundsSpec)) typesBoundsUptoCard

/-- THE SECOND FORM's CARD OF 'haruspexlaw10.TypesNames'. -/
def typesNamesUptoCard : Claim7 := { stood := { row := typesNamesUptoRow, standIns := [], harness := (true, "d34613b6c52f1c8939a157359f0b567309660d7d72c66f21f75d6c5122967704"), looks := true }, kinds := [], alts := [], laidByText := true, laidKinds := [.handle], laidTests := true, laidLooks := .later }
def TypesNamesUptoCardSaid : Prop := Claim7.holds Tryd.pinned (.plain (OpenSpec.upto typesNamesSpec)) typesNamesUptoCard

/-- THE SECOND FORM's CARD OF 'haruspexlaw10.TypesCheck'. -/
def typesCheckUptoCard : Claim7 := { stood := { row := typesCheckUptoRow, standIns := [], harness := (true, "d34613b6c52f1c8939a157359f0b567309660d7d72c66f21f75d6c5122967704"), looks := true }, kinds := [], alts := [], laidByText := true, laidKinds := [.handle], laidTests := true, laidLooks := .later }
def TypesCheckUptoCardSaid : Prop := Claim7.holds Tryd.pinned (.plain (OpenSpec.upto typesCheckSpec)) typesCheckUptoCard

/-- THE SECOND FORM's CARD OF 'haruspexlaw10.TypesMain'. -/
def typesMainUptoCard : Claim7 := { stood := { row := typesMainUptoRow, standIns := [], harness := (true, "d34613b6c52f1c8939a157359f0b567309660d7d72c66f21f75d6c5122967704"), looks := true }, kinds := [], alts := [], laidByText := true, laidKinds := [.handle], laidTests := true, laidLooks := .later }
def TypesMainUptoCardSaid : Prop := Claim7.holds Tryd.pinned (.plain (OpenSpec.upto typesMainSpec)) typesMainUptoCard
end Rows
end Go.Proofs.YthihegmbdclikaaDoor
