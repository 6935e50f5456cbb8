/- What the row of 'TopFaceNil' asks of the program, part 2. Conditions: none. -/
import Derived.Test.YtdlceoefjoljnaaGreatDoorCards
import Derived.JoinedOf
import Derived.SevenTiedAt
import Derived.WalkKit
namespace Go.Proofs.YtdlceoefjoljnaaGreatDoor.topFaceNil
theorem j12 : (Rows.topFaceNilRow.recurses == Tryz.prog.recurses 10) = true := by kernel_rfl
theorem j13 : (Rows.topFaceNilRow.named == Tryz.prog.varsNamed 10) = true := by kernel_rfl
end Go.Proofs.YtdlceoefjoljnaaGreatDoor.topFaceNil
