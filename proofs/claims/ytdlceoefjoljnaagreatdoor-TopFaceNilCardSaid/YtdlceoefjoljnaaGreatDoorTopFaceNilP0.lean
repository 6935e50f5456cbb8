/- Runs of the law 'TopFaceNil' by the abstract machine: true at each. Conditions: none. -/
import Derived.Test.YtdlceoefjoljnaaGreatDoorSh
namespace Go.Proofs.YtdlceoefjoljnaaGreatDoor.topFaceNil
theorem rbt : Sh.runs [] 10 [.bool true] = true := by kernel_rfl
end Go.Proofs.YtdlceoefjoljnaaGreatDoor.topFaceNil
