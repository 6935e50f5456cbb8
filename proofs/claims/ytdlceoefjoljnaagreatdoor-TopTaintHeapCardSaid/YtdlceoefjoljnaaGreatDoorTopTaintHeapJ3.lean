/- What the row of 'TopTaintHeap' asks of the program, part 3. Conditions: none. -/
import Derived.Test.YtdlceoefjoljnaaGreatDoorCards
import Derived.JoinedOf
import Derived.SevenTiedAt
import Derived.WalkKit
namespace Go.Proofs.YtdlceoefjoljnaaGreatDoor.topTaintHeap
theorem jg : false = Rows.topTaintHeapRow.goesBy Tryz.pinned.checked.prog := by kernel_rfl
theorem jn : Tryz.pinned.checked.prog.funcNamed "haruspex/haruspextop.TopTaintHeap" = some 6 := by kernel_rfl
end Go.Proofs.YtdlceoefjoljnaaGreatDoor.topTaintHeap
