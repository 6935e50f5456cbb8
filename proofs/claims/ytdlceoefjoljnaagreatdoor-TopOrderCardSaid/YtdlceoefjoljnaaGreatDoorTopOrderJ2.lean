/- What the row of 'TopOrder' asks of the program, part 2. Conditions: none. -/
import Derived.Test.YtdlceoefjoljnaaGreatDoorCards
import Derived.JoinedOf
import Derived.SevenTiedAt
import Derived.WalkKit
namespace Go.Proofs.YtdlceoefjoljnaaGreatDoor.topOrder
theorem j12 : (Rows.topOrderRow.recurses == Tryz.prog.recurses 7) = true := by kernel_rfl
theorem j13 : (Rows.topOrderRow.named == Tryz.prog.varsNamed 7) = true := by kernel_rfl
end Go.Proofs.YtdlceoefjoljnaaGreatDoor.topOrder
