/- What the rows ask of the program, part 1. Conditions: none. -/
import Derived.Test.YtdlceoefjoljnaaGreatDoorCards
import Derived.JoinedOf
import Derived.SevenTiedAt
import Derived.WalkKit
namespace Go.Proofs.YtdlceoefjoljnaaGreatDoor
theorem Jf.mapsRowed : mapsRowed Tryz.prog = true := by kernel_rfl
theorem Jf.stopsHeard : Tryz.prog.stopsHeard = true := by kernel_rfl
theorem Jf.lifted : (Rows.topBranchRow.lifted == Tryz.prog.liftsFinal) = true := by kernel_rfl
theorem Jf.main : Tryz.pinned.checked.prog.mainIs = some (true, "1269f24e03c2459557c69f3b5ee98dd47657f8843ab99211c3563cdd449ae1f0".toList) := by kernel_rfl
theorem Jf.looks : true = Tryz.pinned.checked.prog.looks [] := by kernel_rfl
end Go.Proofs.YtdlceoefjoljnaaGreatDoor
