/- What the row of 'TopTaintHeap' asks of the program, part 2. Conditions: none. -/
import Derived.Test.YtdlceoefjoljnaaGreatDoorCards
import Derived.JoinedOf
import Derived.SevenTiedAt
import Derived.WalkKit
namespace Go.Proofs.YtdlceoefjoljnaaGreatDoor.topTaintHeap
theorem j12 : (Rows.topTaintHeapRow.recurses == Tryz.prog.recurses 6) = true := by kernel_rfl
theorem j13 : (Rows.topTaintHeapRow.named == Tryz.prog.varsNamed 6) = true := by kernel_rfl
end Go.Proofs.YtdlceoefjoljnaaGreatDoor.topTaintHeap
