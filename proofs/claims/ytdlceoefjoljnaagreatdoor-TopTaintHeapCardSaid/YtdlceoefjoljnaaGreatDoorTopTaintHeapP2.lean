/- Runs of the law 'TopTaintHeap' by the abstract machine: true at each. Conditions: none. -/
import Derived.Test.YtdlceoefjoljnaaGreatDoorSh
namespace Go.Proofs.YtdlceoefjoljnaaGreatDoor.topTaintHeap
theorem r1_0 : Sh.runs [([1], 2, 1), ([0, 1], 2, 0)] 6 [.lin [1] 0, .lin [0, 1] 0] = true := by kernel_rfl
end Go.Proofs.YtdlceoefjoljnaaGreatDoor.topTaintHeap
