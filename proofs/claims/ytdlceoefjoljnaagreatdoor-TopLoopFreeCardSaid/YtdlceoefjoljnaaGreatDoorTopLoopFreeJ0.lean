/- What the row of 'TopLoopFree' asks of the program, part 0. Conditions: none. -/
import Derived.Test.YtdlceoefjoljnaaGreatDoorCards
import Derived.JoinedOf
import Derived.SevenTiedAt
import Derived.WalkKit
namespace Go.Proofs.YtdlceoefjoljnaaGreatDoor.topLoopFree
theorem j10 : (Rows.topLoopFreeRow.inPlace == Tryz.prog.inPlace 4) = true := by kernel_rfl
end Go.Proofs.YtdlceoefjoljnaaGreatDoor.topLoopFree
