/- Runs of the law 'TopLoopFree' by the abstract machine: true at each. Conditions: none. -/
import Derived.Test.YtdlceoefjoljnaaGreatDoorSh
namespace Go.Proofs.YtdlceoefjoljnaaGreatDoor.topLoopFree
theorem rbt_1 : Sh.runs [([1], 5, 1)] 4 [.bool true, .lin [1] 0] = true := by kernel_rfl
theorem rbf_0 : Sh.runs [([1], 5, 0)] 4 [.bool false, .lin [1] 0] = true := by kernel_rfl
theorem rbf_4 : Sh.runs [([1], 5, 4)] 4 [.bool false, .lin [1] 0] = true := by kernel_rfl
end Go.Proofs.YtdlceoefjoljnaaGreatDoor.topLoopFree
