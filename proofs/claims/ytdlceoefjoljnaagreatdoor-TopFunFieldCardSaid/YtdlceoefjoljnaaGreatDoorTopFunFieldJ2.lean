/- What the row of 'TopFunField' asks of the program, part 2. Conditions: none. -/
import Derived.Test.YtdlceoefjoljnaaGreatDoorCards
import Derived.JoinedOf
import Derived.SevenTiedAt
import Derived.WalkKit
namespace Go.Proofs.YtdlceoefjoljnaaGreatDoor.topFunField
theorem j12 : (Rows.topFunFieldRow.recurses == Tryz.prog.recurses 11) = true := by kernel_rfl
theorem j13 : (Rows.topFunFieldRow.named == Tryz.prog.varsNamed 11) = true := by kernel_rfl
end Go.Proofs.YtdlceoefjoljnaaGreatDoor.topFunField
