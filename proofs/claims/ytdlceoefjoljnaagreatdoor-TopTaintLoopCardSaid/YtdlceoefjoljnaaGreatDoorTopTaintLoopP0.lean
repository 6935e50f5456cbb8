/- Runs of the law 'TopTaintLoop' by the abstract machine: true at each. Conditions: none. -/
import Derived.Test.YtdlceoefjoljnaaGreatDoorSh
namespace Go.Proofs.YtdlceoefjoljnaaGreatDoor.topTaintLoop
theorem r0_bt : Sh.runs [([1], 6, 0)] 5 [.lin [1] 0, .bool true] = true := by kernel_rfl
theorem r2_bt : Sh.runs [([1], 6, 2)] 5 [.lin [1] 0, .bool true] = true := by kernel_rfl
theorem r4_bt : Sh.runs [([1], 6, 4)] 5 [.lin [1] 0, .bool true] = true := by kernel_rfl
end Go.Proofs.YtdlceoefjoljnaaGreatDoor.topTaintLoop
