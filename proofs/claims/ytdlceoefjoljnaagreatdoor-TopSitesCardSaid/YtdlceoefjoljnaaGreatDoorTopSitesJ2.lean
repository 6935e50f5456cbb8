/- What the row of 'TopSites' asks of the program, part 2. Conditions: none. -/
import Derived.Test.YtdlceoefjoljnaaGreatDoorCards
import Derived.JoinedOf
import Derived.SevenTiedAt
import Derived.WalkKit
namespace Go.Proofs.YtdlceoefjoljnaaGreatDoor.topSites
theorem j12 : (Rows.topSitesRow.recurses == Tryz.prog.recurses 15) = true := by kernel_rfl
theorem j13 : (Rows.topSitesRow.named == Tryz.prog.varsNamed 15) = true := by kernel_rfl
end Go.Proofs.YtdlceoefjoljnaaGreatDoor.topSites
