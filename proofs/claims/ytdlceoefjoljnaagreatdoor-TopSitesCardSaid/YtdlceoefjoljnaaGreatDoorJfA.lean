/- What the rows ask of the program, part 0. Conditions: none. -/
import Derived.Test.YtdlceoefjoljnaaGreatDoorCards
import Derived.JoinedOf
import Derived.SevenTiedAt
import Derived.WalkKit
namespace Go.Proofs.YtdlceoefjoljnaaGreatDoor
theorem Jf.laidOut : laidOutB Tryz.prog = true := by kernel_rfl
theorem Jf.mayEnter : Tryz.prog.mayEnter = true := by kernel_rfl
end Go.Proofs.YtdlceoefjoljnaaGreatDoor
