/- Runs of the law 'TopFreeOther' by the abstract machine: true at each. Conditions: none. -/
import Derived.Test.YtdlceoefjoljnaaGreatDoorSh
namespace Go.Proofs.YtdlceoefjoljnaaGreatDoor.topFreeOther
theorem r0_0 : Sh.runs [([1], 3, 0), ([0, 1], 3, 0)] 8 [.lin [1] 0, .lin [0, 1] 0] = true := by kernel_rfl
theorem r1_1 : Sh.runs [([1], 3, 1), ([0, 1], 3, 1)] 8 [.lin [1] 0, .lin [0, 1] 0] = true := by kernel_rfl
theorem r2_2 : Sh.runs [([1], 3, 2), ([0, 1], 3, 2)] 8 [.lin [1] 0, .lin [0, 1] 0] = true := by kernel_rfl
end Go.Proofs.YtdlceoefjoljnaaGreatDoor.topFreeOther
