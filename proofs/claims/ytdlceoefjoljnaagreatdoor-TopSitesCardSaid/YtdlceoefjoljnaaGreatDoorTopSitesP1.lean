/- Runs of the law 'TopSites' by the abstract machine: true at each. Conditions: none. -/
import Derived.Test.YtdlceoefjoljnaaGreatDoorSh
namespace Go.Proofs.YtdlceoefjoljnaaGreatDoor.topSites
theorem r0_1 : Sh.runs [([1], 6, 0), ([0, 1], 2, 1)] 15 [.lin [1] 0, .lin [0, 1] 0] = true := by kernel_rfl
theorem r3_1 : Sh.runs [([1], 6, 3), ([0, 1], 5, 1)] 15 [.lin [1] 0, .lin [0, 1] 0] = true := by kernel_rfl
theorem r4_5 : Sh.runs [([1], 6, 4), ([0, 1], 6, 5)] 15 [.lin [1] 0, .lin [0, 1] 0] = true := by kernel_rfl
end Go.Proofs.YtdlceoefjoljnaaGreatDoor.topSites
