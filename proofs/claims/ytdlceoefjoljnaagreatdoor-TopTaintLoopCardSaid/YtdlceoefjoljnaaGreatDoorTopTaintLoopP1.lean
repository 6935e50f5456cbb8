/- Runs of the law 'TopTaintLoop' by the abstract machine: true at each. Conditions: none. -/
import Derived.Test.YtdlceoefjoljnaaGreatDoorSh
namespace Go.Proofs.YtdlceoefjoljnaaGreatDoor.topTaintLoop
theorem r0_bf : Sh.runs [([1], 6, 0)] 5 [.lin [1] 0, .bool false] = true := by kernel_rfl
theorem r2_bf : Sh.runs [([1], 6, 2)] 5 [.lin [1] 0, .bool false] = true := by kernel_rfl
theorem r4_bf : Sh.runs [([1], 6, 4)] 5 [.lin [1] 0, .bool false] = true := by kernel_rfl
end Go.Proofs.YtdlceoefjoljnaaGreatDoor.topTaintLoop
