/- SemOracle for oracles of some lengths: the kernel runs the law. Conditions: none. -/
import Derived.Test.YtechgpjdlkjjoaaGreatDoorSemOracleB
namespace Go.Proofs.YtechgpjdlkjjoaaGreatDoor.SO
theorem o30 (c m : Nat) : good (inp 30) (.sl (.inp 1) 0 30 (.known (c + 30))) m = true := by kernel_rfl
theorem onil (m : Nat) : good (inp 0) .nils m = true := by kernel_rfl
theorem obig (e c m : Nat) : good (inp 30) (.sl (.inp 1) 0 (e + 31) (.known (c + e + 31))) m = true := by kernel_rfl
end Go.Proofs.YtechgpjdlkjjoaaGreatDoor.SO
