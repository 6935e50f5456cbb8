/- What the row of 'TopTaintHeap' asks of the program, part 0. Conditions: none. -/
import Derived.Test.YtdlceoefjoljnaaGreatDoorCards
import Derived.JoinedOf
import Derived.SevenTiedAt
import Derived.WalkKit
namespace Go.Proofs.YtdlceoefjoljnaaGreatDoor.topTaintHeap
theorem j10 : (Rows.topTaintHeapRow.inPlace == Tryz.prog.inPlace 6) = true := by kernel_rfl
end Go.Proofs.YtdlceoefjoljnaaGreatDoor.topTaintHeap
