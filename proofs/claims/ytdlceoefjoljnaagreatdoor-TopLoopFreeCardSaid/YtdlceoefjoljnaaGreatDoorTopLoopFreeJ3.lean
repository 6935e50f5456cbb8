/- What the row of 'TopLoopFree' asks of the program, part 3. Conditions: none. -/
import Derived.Test.YtdlceoefjoljnaaGreatDoorCards
import Derived.JoinedOf
import Derived.SevenTiedAt
import Derived.WalkKit
namespace Go.Proofs.YtdlceoefjoljnaaGreatDoor.topLoopFree
theorem jg : false = Rows.topLoopFreeRow.goesBy Tryz.pinned.checked.prog := by kernel_rfl
theorem jn : Tryz.pinned.checked.prog.funcNamed "haruspex/haruspextop.TopLoopFree" = some 4 := by kernel_rfl
end Go.Proofs.YtdlceoefjoljnaaGreatDoor.topLoopFree
