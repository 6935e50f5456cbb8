/- Runs of the law 'TopFunField' by the abstract machine: true at each. Conditions: none. -/
import Derived.Test.YtdlceoefjoljnaaGreatDoorSh
namespace Go.Proofs.YtdlceoefjoljnaaGreatDoor.topFunField
theorem r0 : Sh.runs [([1], 2, 0)] 11 [.lin [1] 0] = true := by kernel_rfl
end Go.Proofs.YtdlceoefjoljnaaGreatDoor.topFunField
