/- What the row of 'TopBranch' asks of the program, part 3. Conditions: none. -/
import Derived.Test.YtdlceoefjoljnaaGreatDoorCards
import Derived.JoinedOf
import Derived.SevenTiedAt
import Derived.WalkKit
namespace Go.Proofs.YtdlceoefjoljnaaGreatDoor.topBranch
theorem jg : false = Rows.topBranchRow.goesBy Tryz.pinned.checked.prog := by kernel_rfl
theorem jn : Tryz.pinned.checked.prog.funcNamed "haruspex/haruspextop.TopBranch" = some 3 := by kernel_rfl
end Go.Proofs.YtdlceoefjoljnaaGreatDoor.topBranch
