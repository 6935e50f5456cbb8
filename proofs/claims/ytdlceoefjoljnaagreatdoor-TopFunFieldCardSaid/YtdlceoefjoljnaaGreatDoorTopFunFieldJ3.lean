/- What the row of 'TopFunField' asks of the program, part 3. Conditions: none. -/
import Derived.Test.YtdlceoefjoljnaaGreatDoorCards
import Derived.JoinedOf
import Derived.SevenTiedAt
import Derived.WalkKit
namespace Go.Proofs.YtdlceoefjoljnaaGreatDoor.topFunField
theorem jg : false = Rows.topFunFieldRow.goesBy Tryz.pinned.checked.prog := by kernel_rfl
theorem jn : Tryz.pinned.checked.prog.funcNamed "haruspex/haruspextop.TopFunField" = some 11 := by kernel_rfl
end Go.Proofs.YtdlceoefjoljnaaGreatDoor.topFunField
