/- What the row of 'TopTaintLoop' asks of the program, part 2. Conditions: none. -/
import Derived.Test.YtdlceoefjoljnaaGreatDoorCards
import Derived.JoinedOf
import Derived.SevenTiedAt
import Derived.WalkKit
namespace Go.Proofs.YtdlceoefjoljnaaGreatDoor.topTaintLoop
theorem j12 : (Rows.topTaintLoopRow.recurses == Tryz.prog.recurses 5) = true := by kernel_rfl
theorem j13 : (Rows.topTaintLoopRow.named == Tryz.prog.varsNamed 5) = true := by kernel_rfl
end Go.Proofs.YtdlceoefjoljnaaGreatDoor.topTaintLoop
