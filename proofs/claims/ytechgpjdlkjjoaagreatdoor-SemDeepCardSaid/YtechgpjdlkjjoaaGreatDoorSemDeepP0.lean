/- SemDeep for the numbers 0 to 9: the kernel runs the law. Conditions: none. -/
import Derived.Test.YtechgpjdlkjjoaaGreatDoorSh
namespace Go.Proofs.YtechgpjdlkjjoaaGreatDoor.SD
theorem c0 : Sh.runs 20000 9 [.int .i64 (.ofNat 0)] = true := by kernel_rfl
theorem c1 : Sh.runs 20000 9 [.int .i64 (.ofNat 1)] = true := by kernel_rfl
theorem c2 : Sh.runs 20000 9 [.int .i64 (.ofNat 2)] = true := by kernel_rfl
theorem c3 : Sh.runs 20000 9 [.int .i64 (.ofNat 3)] = true := by kernel_rfl
theorem c4 : Sh.runs 20000 9 [.int .i64 (.ofNat 4)] = true := by kernel_rfl
theorem c5 : Sh.runs 20000 9 [.int .i64 (.ofNat 5)] = true := by kernel_rfl
theorem c6 : Sh.runs 20000 9 [.int .i64 (.ofNat 6)] = true := by kernel_rfl
theorem c7 : Sh.runs 20000 9 [.int .i64 (.ofNat 7)] = true := by kernel_rfl
theorem c8 : Sh.runs 20000 9 [.int .i64 (.ofNat 8)] = true := by kernel_rfl
theorem c9 : Sh.runs 20000 9 [.int .i64 (.ofNat 9)] = true := by kernel_rfl
end Go.Proofs.YtechgpjdlkjjoaaGreatDoor.SD
