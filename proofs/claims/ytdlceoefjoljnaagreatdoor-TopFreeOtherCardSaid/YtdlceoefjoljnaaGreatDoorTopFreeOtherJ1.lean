/- What the row of 'TopFreeOther' asks of the program, part 1. Conditions: none. -/
import Derived.Test.YtdlceoefjoljnaaGreatDoorCards
import Derived.JoinedOf
import Derived.SevenTiedAt
import Derived.WalkKit
namespace Go.Proofs.YtdlceoefjoljnaaGreatDoor.topFreeOther
theorem j11 : (Rows.topFreeOtherRow.unfollowed == Tryz.prog.unfollowed 8) = true := by kernel_rfl
end Go.Proofs.YtdlceoefjoljnaaGreatDoor.topFreeOther
