/- SemDeep for the numbers 10 to 14: the kernel runs the law. Conditions: none. -/
import Derived.Test.YtechgpjdlkjjoaaGreatDoorSh
namespace Go.Proofs.YtechgpjdlkjjoaaGreatDoor.SD
theorem c10 : Sh.runs 20000 9 [.int .i64 (.ofNat 10)] = true := by kernel_rfl
theorem c11 : Sh.runs 20000 9 [.int .i64 (.ofNat 11)] = true := by kernel_rfl
theorem c12 : Sh.runs 20000 9 [.int .i64 (.ofNat 12)] = true := by kernel_rfl
theorem c13 : Sh.runs 20000 9 [.int .i64 (.ofNat 13)] = true := by kernel_rfl
theorem c14 : Sh.runs 20000 9 [.int .i64 (.ofNat 14)] = true := by kernel_rfl
end Go.Proofs.YtechgpjdlkjjoaaGreatDoor.SD
