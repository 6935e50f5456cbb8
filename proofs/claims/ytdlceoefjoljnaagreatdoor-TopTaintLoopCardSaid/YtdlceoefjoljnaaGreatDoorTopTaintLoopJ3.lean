/- What the row of 'TopTaintLoop' asks of the program, part 3. Conditions: none. -/
import Derived.Test.YtdlceoefjoljnaaGreatDoorCards
import Derived.JoinedOf
import Derived.SevenTiedAt
import Derived.WalkKit
namespace Go.Proofs.YtdlceoefjoljnaaGreatDoor.topTaintLoop
theorem jg : false = Rows.topTaintLoopRow.goesBy Tryz.pinned.checked.prog := by kernel_rfl
theorem jn : Tryz.pinned.checked.prog.funcNamed "haruspex/haruspextop.TopTaintLoop" = some 5 := by kernel_rfl
end Go.Proofs.YtdlceoefjoljnaaGreatDoor.topTaintLoop
