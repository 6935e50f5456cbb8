/- What the row of 'TopFreeOther' asks of the program, part 2. Conditions: none. -/
import Derived.Test.YtdlceoefjoljnaaGreatDoorCards
import Derived.JoinedOf
import Derived.SevenTiedAt
import Derived.WalkKit
namespace Go.Proofs.YtdlceoefjoljnaaGreatDoor.topFreeOther
theorem j12 : (Rows.topFreeOtherRow.recurses == Tryz.prog.recurses 8) = true := by kernel_rfl
theorem j13 : (Rows.topFreeOtherRow.named == Tryz.prog.varsNamed 8) = true := by kernel_rfl
end Go.Proofs.YtdlceoefjoljnaaGreatDoor.topFreeOther
