/- What the row of 'TopOrder' asks of the program, part 3. Conditions: none. -/
import Derived.Test.YtdlceoefjoljnaaGreatDoorCards
import Derived.JoinedOf
import Derived.SevenTiedAt
import Derived.WalkKit
namespace Go.Proofs.YtdlceoefjoljnaaGreatDoor.topOrder
theorem jg : false = Rows.topOrderRow.goesBy Tryz.pinned.checked.prog := by kernel_rfl
theorem jn : Tryz.pinned.checked.prog.funcNamed "haruspex/haruspextop.TopOrder" = some 7 := by kernel_rfl
end Go.Proofs.YtdlceoefjoljnaaGreatDoor.topOrder
