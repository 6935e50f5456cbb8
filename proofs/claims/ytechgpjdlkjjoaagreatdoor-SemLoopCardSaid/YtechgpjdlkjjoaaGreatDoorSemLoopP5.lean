/- SemLoop for the numbers 93 to 100: the kernel runs the law. Conditions: none. -/
import Derived.Test.YtechgpjdlkjjoaaGreatDoorSh
namespace Go.Proofs.YtechgpjdlkjjoaaGreatDoor.SL
theorem c93 : Sh.runs 4000 4 [.int .i64 (.ofNat 93)] = true := by kernel_rfl
theorem c94 : Sh.runs 4000 4 [.int .i64 (.ofNat 94)] = true := by kernel_rfl
theorem c95 : Sh.runs 4000 4 [.int .i64 (.ofNat 95)] = true := by kernel_rfl
theorem c96 : Sh.runs 4000 4 [.int .i64 (.ofNat 96)] = true := by kernel_rfl
theorem c97 : Sh.runs 4000 4 [.int .i64 (.ofNat 97)] = true := by kernel_rfl
theorem c98 : Sh.runs 4000 4 [.int .i64 (.ofNat 98)] = true := by kernel_rfl
theorem c99 : Sh.runs 4000 4 [.int .i64 (.ofNat 99)] = true := by kernel_rfl
theorem c100 : Sh.runs 4000 4 [.int .i64 (.ofNat 100)] = true := by kernel_rfl
end Go.Proofs.YtechgpjdlkjjoaaGreatDoor.SL
