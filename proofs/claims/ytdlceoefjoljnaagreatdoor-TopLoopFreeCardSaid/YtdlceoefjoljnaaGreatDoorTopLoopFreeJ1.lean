/- What the row of 'TopLoopFree' asks of the program, part 1. Conditions: none. -/
import Derived.Test.YtdlceoefjoljnaaGreatDoorCards
import Derived.JoinedOf
import Derived.SevenTiedAt
import Derived.WalkKit
namespace Go.Proofs.YtdlceoefjoljnaaGreatDoor.topLoopFree
theorem j11 : (Rows.topLoopFreeRow.unfollowed == Tryz.prog.unfollowed 4) = true := by kernel_rfl
end Go.Proofs.YtdlceoefjoljnaaGreatDoor.topLoopFree
