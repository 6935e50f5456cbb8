/- Runs of the law 'TopSites' by the abstract machine: true at each. Conditions: none. -/
import Derived.Test.YtdlceoefjoljnaaGreatDoorSh
namespace Go.Proofs.YtdlceoefjoljnaaGreatDoor.topSites
theorem r1_2 : Sh.runs [([1], 6, 1), ([0, 1], 3, 2)] 15 [.lin [1] 0, .lin [0, 1] 0] = true := by kernel_rfl
theorem r3_4 : Sh.runs [([1], 6, 3), ([0, 1], 5, 4)] 15 [.lin [1] 0, .lin [0, 1] 0] = true := by kernel_rfl
theorem r5_2 : Sh.runs [([1], 6, 5), ([0, 1], 7, 2)] 15 [.lin [1] 0, .lin [0, 1] 0] = true := by kernel_rfl
end Go.Proofs.YtdlceoefjoljnaaGreatDoor.topSites
