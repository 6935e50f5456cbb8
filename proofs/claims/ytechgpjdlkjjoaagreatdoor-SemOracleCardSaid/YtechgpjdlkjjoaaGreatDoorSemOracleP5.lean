/- SemOracle for oracles of some lengths: the kernel runs the law. Conditions: none. -/
import Derived.Test.YtechgpjdlkjjoaaGreatDoorSemOracleB
namespace Go.Proofs.YtechgpjdlkjjoaaGreatDoor.SO
theorem o25 (c m : Nat) : good (inp 25) (.sl (.inp 1) 0 25 (.known (c + 25))) m = true := by kernel_rfl
theorem o26 (c m : Nat) : good (inp 26) (.sl (.inp 1) 0 26 (.known (c + 26))) m = true := by kernel_rfl
theorem o27 (c m : Nat) : good (inp 27) (.sl (.inp 1) 0 27 (.known (c + 27))) m = true := by kernel_rfl
theorem o28 (c m : Nat) : good (inp 28) (.sl (.inp 1) 0 28 (.known (c + 28))) m = true := by kernel_rfl
theorem o29 (c m : Nat) : good (inp 29) (.sl (.inp 1) 0 29 (.known (c + 29))) m = true := by kernel_rfl
end Go.Proofs.YtechgpjdlkjjoaaGreatDoor.SO
