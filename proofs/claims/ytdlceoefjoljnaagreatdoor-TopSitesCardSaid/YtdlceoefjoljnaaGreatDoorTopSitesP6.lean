/- Runs of the law 'TopSites' by the abstract machine: true at each. Conditions: none. -/
import Derived.Test.YtdlceoefjoljnaaGreatDoorSh
namespace Go.Proofs.YtdlceoefjoljnaaGreatDoor.topSites
theorem r2_1 : Sh.runs [([1], 6, 2), ([0, 1], 4, 1)] 15 [.lin [1] 0, .lin [0, 1] 0] = true := by kernel_rfl
theorem r4_1 : Sh.runs [([1], 6, 4), ([0, 1], 6, 1)] 15 [.lin [1] 0, .lin [0, 1] 0] = true := by kernel_rfl
theorem r5_4 : Sh.runs [([1], 6, 5), ([0, 1], 7, 4)] 15 [.lin [1] 0, .lin [0, 1] 0] = true := by kernel_rfl
end Go.Proofs.YtdlceoefjoljnaaGreatDoor.topSites
