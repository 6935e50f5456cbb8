/- What the row of 'TopFreeOther' asks of the program, part 0. Conditions: none. -/
import Derived.Test.YtdlceoefjoljnaaGreatDoorCards
import Derived.JoinedOf
import Derived.SevenTiedAt
import Derived.WalkKit
namespace Go.Proofs.YtdlceoefjoljnaaGreatDoor.topFreeOther
theorem j10 : (Rows.topFreeOtherRow.inPlace == Tryz.prog.inPlace 8) = true := by kernel_rfl
end Go.Proofs.YtdlceoefjoljnaaGreatDoor.topFreeOther
