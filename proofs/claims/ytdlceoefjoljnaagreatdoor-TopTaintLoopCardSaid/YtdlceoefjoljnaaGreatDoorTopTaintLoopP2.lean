/- Runs of the law 'TopTaintLoop' by the abstract machine: true at each. Conditions: none. -/
import Derived.Test.YtdlceoefjoljnaaGreatDoorSh
namespace Go.Proofs.YtdlceoefjoljnaaGreatDoor.topTaintLoop
theorem r1_bt : Sh.runs [([1], 6, 1)] 5 [.lin [1] 0, .bool true] = true := by kernel_rfl
theorem r3_bt : Sh.runs [([1], 6, 3)] 5 [.lin [1] 0, .bool true] = true := by kernel_rfl
theorem r5_bt : Sh.runs [([1], 6, 5)] 5 [.lin [1] 0, .bool true] = true := by kernel_rfl
end Go.Proofs.YtdlceoefjoljnaaGreatDoor.topTaintLoop
