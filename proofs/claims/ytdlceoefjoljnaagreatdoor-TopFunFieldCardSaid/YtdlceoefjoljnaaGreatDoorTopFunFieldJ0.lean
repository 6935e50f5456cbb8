/- What the row of 'TopFunField' asks of the program, part 0. Conditions: none. -/
import Derived.Test.YtdlceoefjoljnaaGreatDoorCards
import Derived.JoinedOf
import Derived.SevenTiedAt
import Derived.WalkKit
namespace Go.Proofs.YtdlceoefjoljnaaGreatDoor.topFunField
theorem j10 : (Rows.topFunFieldRow.inPlace == Tryz.prog.inPlace 11) = true := by kernel_rfl
end Go.Proofs.YtdlceoefjoljnaaGreatDoor.topFunField
