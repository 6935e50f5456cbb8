/- What the row of 'TopFunField' asks of the program, part 1. Conditions: none. -/
import Derived.Test.YtdlceoefjoljnaaGreatDoorCards
import Derived.JoinedOf
import Derived.SevenTiedAt
import Derived.WalkKit
namespace Go.Proofs.YtdlceoefjoljnaaGreatDoor.topFunField
theorem j11 : (Rows.topFunFieldRow.unfollowed == Tryz.prog.unfollowed 11) = true := by kernel_rfl
end Go.Proofs.YtdlceoefjoljnaaGreatDoor.topFunField
