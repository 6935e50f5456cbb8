/- Runs of the law 'TopBranch' by the abstract machine: true at each. Conditions: none. -/
import Derived.Test.YtdlceoefjoljnaaGreatDoorSh
namespace Go.Proofs.YtdlceoefjoljnaaGreatDoor.topBranch
theorem r1_zp (n : Nat) : Sh.runs [([1], 3, 1)] 3 [.lin [1] 0, .int .i64 (.ofNat (n + 1))] = true := by kernel_rfl
end Go.Proofs.YtdlceoefjoljnaaGreatDoor.topBranch
