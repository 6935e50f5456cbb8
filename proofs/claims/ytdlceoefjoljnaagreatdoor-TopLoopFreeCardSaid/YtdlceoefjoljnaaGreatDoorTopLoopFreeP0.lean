/- Runs of the law 'TopLoopFree' by the abstract machine: true at each. Conditions: none. -/
import Derived.Test.YtdlceoefjoljnaaGreatDoorSh
namespace Go.Proofs.YtdlceoefjoljnaaGreatDoor.topLoopFree
theorem rbt_0 : Sh.runs [([1], 5, 0)] 4 [.bool true, .lin [1] 0] = true := by kernel_rfl
theorem rbt_4 : Sh.runs [([1], 5, 4)] 4 [.bool true, .lin [1] 0] = true := by kernel_rfl
theorem rbf_3 : Sh.runs [([1], 5, 3)] 4 [.bool false, .lin [1] 0] = true := by kernel_rfl
end Go.Proofs.YtdlceoefjoljnaaGreatDoor.topLoopFree
