/- What the row of 'TopFaceNil' asks of the program, part 0. Conditions: none. -/
import Derived.Test.YtdlceoefjoljnaaGreatDoorCards
import Derived.JoinedOf
import Derived.SevenTiedAt
import Derived.WalkKit
namespace Go.Proofs.YtdlceoefjoljnaaGreatDoor.topFaceNil
theorem j10 : (Rows.topFaceNilRow.inPlace == Tryz.prog.inPlace 10) = true := by kernel_rfl
end Go.Proofs.YtdlceoefjoljnaaGreatDoor.topFaceNil
