/- What the row of 'TopFreeOther' asks of the program, part 3. Conditions: none. -/
import Derived.Test.YtdlceoefjoljnaaGreatDoorCards
import Derived.JoinedOf
import Derived.SevenTiedAt
import Derived.WalkKit
namespace Go.Proofs.YtdlceoefjoljnaaGreatDoor.topFreeOther
theorem jg : false = Rows.topFreeOtherRow.goesBy Tryz.pinned.checked.prog := by kernel_rfl
theorem jn : Tryz.pinned.checked.prog.funcNamed "haruspex/haruspextop.TopFreeOther" = some 8 := by kernel_rfl
end Go.Proofs.YtdlceoefjoljnaaGreatDoor.topFreeOther
