/- SemOracle for oracles of some lengths: the kernel runs the law. Conditions: none. -/
import Derived.Test.YtechgpjdlkjjoaaGreatDoorSemOracleB
namespace Go.Proofs.YtechgpjdlkjjoaaGreatDoor.SO
theorem o0 (c m : Nat) : good (inp 0) (.sl (.inp 1) 0 0 (.known (c + 0))) m = true := by kernel_rfl
theorem o1 (c m : Nat) : good (inp 1) (.sl (.inp 1) 0 1 (.known (c + 1))) m = true := by kernel_rfl
theorem o2 (c m : Nat) : good (inp 2) (.sl (.inp 1) 0 2 (.known (c + 2))) m = true := by kernel_rfl
theorem o3 (c m : Nat) : good (inp 3) (.sl (.inp 1) 0 3 (.known (c + 3))) m = true := by kernel_rfl
theorem o4 (c m : Nat) : good (inp 4) (.sl (.inp 1) 0 4 (.known (c + 4))) m = true := by kernel_rfl
end Go.Proofs.YtechgpjdlkjjoaaGreatDoor.SO
