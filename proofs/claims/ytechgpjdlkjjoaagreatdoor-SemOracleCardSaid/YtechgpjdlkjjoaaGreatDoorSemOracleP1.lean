/- SemOracle for oracles of some lengths: the kernel runs the law. Conditions: none. -/
import Derived.Test.YtechgpjdlkjjoaaGreatDoorSemOracleB
namespace Go.Proofs.YtechgpjdlkjjoaaGreatDoor.SO
theorem o5 (c m : Nat) : good (inp 5) (.sl (.inp 1) 0 5 (.known (c + 5))) m = true := by kernel_rfl
theorem o6 (c m : Nat) : good (inp 6) (.sl (.inp 1) 0 6 (.known (c + 6))) m = true := by kernel_rfl
theorem o7 (c m : Nat) : good (inp 7) (.sl (.inp 1) 0 7 (.known (c + 7))) m = true := by kernel_rfl
theorem o8 (c m : Nat) : good (inp 8) (.sl (.inp 1) 0 8 (.known (c + 8))) m = true := by kernel_rfl
theorem o9 (c m : Nat) : good (inp 9) (.sl (.inp 1) 0 9 (.known (c + 9))) m = true := by kernel_rfl
end Go.Proofs.YtechgpjdlkjjoaaGreatDoor.SO
