/- Runs of the law 'TopBranch' by the abstract machine: true at each. Conditions: none. -/
import Derived.Test.YtdlceoefjoljnaaGreatDoorSh
namespace Go.Proofs.YtdlceoefjoljnaaGreatDoor.topBranch
theorem r0_z0 : Sh.runs [([1], 3, 0)] 3 [.lin [1] 0, .int .i64 (.ofNat 0)] = true := by kernel_rfl
theorem r1_zn (n : Nat) : Sh.runs [([1], 3, 1)] 3 [.lin [1] 0, .int .i64 (.negSucc n)] = true := by kernel_rfl
end Go.Proofs.YtdlceoefjoljnaaGreatDoor.topBranch
