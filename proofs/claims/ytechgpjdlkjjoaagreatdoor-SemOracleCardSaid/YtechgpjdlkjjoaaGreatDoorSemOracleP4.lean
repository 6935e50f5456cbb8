/- SemOracle for oracles of some lengths: the kernel runs the law. Conditions: none. -/
import Derived.Test.YtechgpjdlkjjoaaGreatDoorSemOracleB
namespace Go.Proofs.YtechgpjdlkjjoaaGreatDoor.SO
theorem o20 (c m : Nat) : good (inp 20) (.sl (.inp 1) 0 20 (.known (c + 20))) m = true := by kernel_rfl
theorem o21 (c m : Nat) : good (inp 21) (.sl (.inp 1) 0 21 (.known (c + 21))) m = true := by kernel_rfl
theorem o22 (c m : Nat) : good (inp 22) (.sl (.inp 1) 0 22 (.known (c + 22))) m = true := by kernel_rfl
theorem o23 (c m : Nat) : good (inp 23) (.sl (.inp 1) 0 23 (.known (c + 23))) m = true := by kernel_rfl
theorem o24 (c m : Nat) : good (inp 24) (.sl (.inp 1) 0 24 (.known (c + 24))) m = true := by kernel_rfl
end Go.Proofs.YtechgpjdlkjjoaaGreatDoor.SO
