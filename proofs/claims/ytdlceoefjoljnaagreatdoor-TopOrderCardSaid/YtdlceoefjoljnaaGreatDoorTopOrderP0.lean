/- Runs of the law 'TopOrder' by the abstract machine: true at each. Conditions: none. -/
import Derived.Test.YtdlceoefjoljnaaGreatDoorSh
namespace Go.Proofs.YtdlceoefjoljnaaGreatDoor.topOrder
theorem rbt : Sh.runs [] 7 [.bool true] = true := by kernel_rfl
end Go.Proofs.YtdlceoefjoljnaaGreatDoor.topOrder
