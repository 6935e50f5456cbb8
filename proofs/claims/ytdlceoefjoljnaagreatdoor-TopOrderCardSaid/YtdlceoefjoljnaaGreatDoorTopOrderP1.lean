/- Runs of the law 'TopOrder' by the abstract machine: true at each. Conditions: none. -/
import Derived.Test.YtdlceoefjoljnaaGreatDoorSh
namespace Go.Proofs.YtdlceoefjoljnaaGreatDoor.topOrder
theorem rbf : Sh.runs [] 7 [.bool false] = true := by kernel_rfl
end Go.Proofs.YtdlceoefjoljnaaGreatDoor.topOrder
