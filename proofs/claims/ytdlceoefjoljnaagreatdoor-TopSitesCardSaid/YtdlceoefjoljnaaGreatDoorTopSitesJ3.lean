/- What the row of 'TopSites' asks of the program, part 3. Conditions: none. -/
import Derived.Test.YtdlceoefjoljnaaGreatDoorCards
import Derived.JoinedOf
import Derived.SevenTiedAt
import Derived.WalkKit
namespace Go.Proofs.YtdlceoefjoljnaaGreatDoor.topSites
theorem jg : false = Rows.topSitesRow.goesBy Tryz.pinned.checked.prog := by kernel_rfl
theorem jn : Tryz.pinned.checked.prog.funcNamed "haruspex/haruspextop.TopSites" = some 15 := by kernel_rfl
end Go.Proofs.YtdlceoefjoljnaaGreatDoor.topSites
