/- What the row of 'TopFaceNil' asks of the program, part 3. Conditions: none. -/
import Derived.Test.YtdlceoefjoljnaaGreatDoorCards
import Derived.JoinedOf
import Derived.SevenTiedAt
import Derived.WalkKit
namespace Go.Proofs.YtdlceoefjoljnaaGreatDoor.topFaceNil
theorem jg : false = Rows.topFaceNilRow.goesBy Tryz.pinned.checked.prog := by kernel_rfl
theorem jn : Tryz.pinned.checked.prog.funcNamed "haruspex/haruspextop.TopFaceNil" = some 10 := by kernel_rfl
end Go.Proofs.YtdlceoefjoljnaaGreatDoor.topFaceNil
