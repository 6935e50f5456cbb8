/- SemLoop for the numbers 82 to 92: the kernel runs the law. Conditions: none. -/
import Derived.Test.YtechgpjdlkjjoaaGreatDoorSh
namespace Go.Proofs.YtechgpjdlkjjoaaGreatDoor.SL
theorem c82 : Sh.runs 4000 4 [.int .i64 (.ofNat 82)] = true := by kernel_rfl
theorem c83 : Sh.runs 4000 4 [.int .i64 (.ofNat 83)] = true := by kernel_rfl
theorem c84 : Sh.runs 4000 4 [.int .i64 (.ofNat 84)] = true := by kernel_rfl
theorem c85 : Sh.runs 4000 4 [.int .i64 (.ofNat 85)] = true := by kernel_rfl
theorem c86 : Sh.runs 4000 4 [.int .i64 (.ofNat 86)] = true := by kernel_rfl
theorem c87 : Sh.runs 4000 4 [.int .i64 (.ofNat 87)] = true := by kernel_rfl
theorem c88 : Sh.runs 4000 4 [.int .i64 (.ofNat 88)] = true := by kernel_rfl
theorem c89 : Sh.runs 4000 4 [.int .i64 (.ofNat 89)] = true := by kernel_rfl
theorem c90 : Sh.runs 4000 4 [.int .i64 (.ofNat 90)] = true := by kernel_rfl
theorem c91 : Sh.runs 4000 4 [.int .i64 (.ofNat 91)] = true := by kernel_rfl
theorem c92 : Sh.runs 4000 4 [.int .i64 (.ofNat 92)] = true := by kernel_rfl
end Go.Proofs.YtechgpjdlkjjoaaGreatDoor.SL
