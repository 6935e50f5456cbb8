/- What the row of 'TopSites' asks of the program, part 0. Conditions: none. -/
import Derived.Test.YtdlceoefjoljnaaGreatDoorCards
import Derived.JoinedOf
import Derived.SevenTiedAt
import Derived.WalkKit
namespace Go.Proofs.YtdlceoefjoljnaaGreatDoor.topSites
theorem j10 : (Rows.topSitesRow.inPlace == Tryz.prog.inPlace 15) = true := by kernel_rfl
end Go.Proofs.YtdlceoefjoljnaaGreatDoor.topSites
