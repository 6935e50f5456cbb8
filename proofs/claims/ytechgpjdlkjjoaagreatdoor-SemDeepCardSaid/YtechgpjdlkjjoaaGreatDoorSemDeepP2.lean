/- SemDeep for the numbers 15 to 17: the kernel runs the law. Conditions: none. -/
import Derived.Test.YtechgpjdlkjjoaaGreatDoorSh
namespace Go.Proofs.YtechgpjdlkjjoaaGreatDoor.SD
theorem c15 : Sh.runs 20000 9 [.int .i64 (.ofNat 15)] = true := by kernel_rfl
theorem c16 : Sh.runs 20000 9 [.int .i64 (.ofNat 16)] = true := by kernel_rfl
theorem c17 : Sh.runs 20000 9 [.int .i64 (.ofNat 17)] = true := by kernel_rfl
end Go.Proofs.YtechgpjdlkjjoaaGreatDoor.SD
