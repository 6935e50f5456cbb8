/- What the row of 'TopTaintHeap' asks of the program, part 1. Conditions: none. -/
import Derived.Test.YtdlceoefjoljnaaGreatDoorCards
import Derived.JoinedOf
import Derived.SevenTiedAt
import Derived.WalkKit
namespace Go.Proofs.YtdlceoefjoljnaaGreatDoor.topTaintHeap
theorem j11 : (Rows.topTaintHeapRow.unfollowed == Tryz.prog.unfollowed 6) = true := by kernel_rfl
end Go.Proofs.YtdlceoefjoljnaaGreatDoor.topTaintHeap
