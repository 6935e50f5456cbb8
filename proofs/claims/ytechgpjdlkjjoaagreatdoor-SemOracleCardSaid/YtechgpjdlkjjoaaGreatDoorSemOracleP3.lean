/- SemOracle for oracles of some lengths: the kernel runs the law. Conditions: none. -/
import Derived.Test.YtechgpjdlkjjoaaGreatDoorSemOracleB
namespace Go.Proofs.YtechgpjdlkjjoaaGreatDoor.SO
theorem o15 (c m : Nat) : good (inp 15) (.sl (.inp 1) 0 15 (.known (c + 15))) m = true := by kernel_rfl
theorem o16 (c m : Nat) : good (inp 16) (.sl (.inp 1) 0 16 (.known (c + 16))) m = true := by kernel_rfl
theorem o17 (c m : Nat) : good (inp 17) (.sl (.inp 1) 0 17 (.known (c + 17))) m = true := by kernel_rfl
theorem o18 (c m : Nat) : good (inp 18) (.sl (.inp 1) 0 18 (.known (c + 18))) m = true := by kernel_rfl
theorem o19 (c m : Nat) : good (inp 19) (.sl (.inp 1) 0 19 (.known (c + 19))) m = true := by kernel_rfl
end Go.Proofs.YtechgpjdlkjjoaaGreatDoor.SO
