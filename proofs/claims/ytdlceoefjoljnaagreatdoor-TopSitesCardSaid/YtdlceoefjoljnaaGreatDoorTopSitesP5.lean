/- Runs of the law 'TopSites' by the abstract machine: true at each. Conditions: none. -/
import Derived.Test.YtdlceoefjoljnaaGreatDoorSh
namespace Go.Proofs.YtdlceoefjoljnaaGreatDoor.topSites
theorem r2_0 : Sh.runs [([1], 6, 2), ([0, 1], 4, 0)] 15 [.lin [1] 0, .lin [0, 1] 0] = true := by kernel_rfl
theorem r4_0 : Sh.runs [([1], 6, 4), ([0, 1], 6, 0)] 15 [.lin [1] 0, .lin [0, 1] 0] = true := by kernel_rfl
theorem r5_3 : Sh.runs [([1], 6, 5), ([0, 1], 7, 3)] 15 [.lin [1] 0, .lin [0, 1] 0] = true := by kernel_rfl
end Go.Proofs.YtdlceoefjoljnaaGreatDoor.topSites
