/- SemOracle for oracles of some lengths: the kernel runs the law. Conditions: none. -/
import Derived.Test.YtechgpjdlkjjoaaGreatDoorSemOracleB
namespace Go.Proofs.YtechgpjdlkjjoaaGreatDoor.SO
theorem o10 (c m : Nat) : good (inp 10) (.sl (.inp 1) 0 10 (.known (c + 10))) m = true := by kernel_rfl
theorem o11 (c m : Nat) : good (inp 11) (.sl (.inp 1) 0 11 (.known (c + 11))) m = true := by kernel_rfl
theorem o12 (c m : Nat) : good (inp 12) (.sl (.inp 1) 0 12 (.known (c + 12))) m = true := by kernel_rfl
theorem o13 (c m : Nat) : good (inp 13) (.sl (.inp 1) 0 13 (.known (c + 13))) m = true := by kernel_rfl
theorem o14 (c m : Nat) : good (inp 14) (.sl (.inp 1) 0 14 (.known (c + 14))) m = true := by kernel_rfl
end Go.Proofs.YtechgpjdlkjjoaaGreatDoor.SO
