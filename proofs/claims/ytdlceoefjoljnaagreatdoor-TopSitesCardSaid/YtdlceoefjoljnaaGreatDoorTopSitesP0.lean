/- Runs of the law 'TopSites' by the abstract machine: true at each. Conditions: none. -/
import Derived.Test.YtdlceoefjoljnaaGreatDoorSh
namespace Go.Proofs.YtdlceoefjoljnaaGreatDoor.topSites
theorem r0_0 : Sh.runs [([1], 6, 0), ([0, 1], 2, 0)] 15 [.lin [1] 0, .lin [0, 1] 0] = true := by kernel_rfl
theorem r3_0 : Sh.runs [([1], 6, 3), ([0, 1], 5, 0)] 15 [.lin [1] 0, .lin [0, 1] 0] = true := by kernel_rfl
theorem r4_4 : Sh.runs [([1], 6, 4), ([0, 1], 6, 4)] 15 [.lin [1] 0, .lin [0, 1] 0] = true := by kernel_rfl
end Go.Proofs.YtdlceoefjoljnaaGreatDoor.topSites
