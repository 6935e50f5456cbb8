/- SemLoop for the numbers 70 to 81: the kernel runs the law. Conditions: none. -/
import Derived.Test.YtechgpjdlkjjoaaGreatDoorSh
namespace Go.Proofs.YtechgpjdlkjjoaaGreatDoor.SL
theorem c70 : Sh.runs 4000 4 [.int .i64 (.ofNat 70)] = true := by kernel_rfl
theorem c71 : Sh.runs 4000 4 [.int .i64 (.ofNat 71)] = true := by kernel_rfl
theorem c72 : Sh.runs 4000 4 [.int .i64 (.ofNat 72)] = true := by kernel_rfl
theorem c73 : Sh.runs 4000 4 [.int .i64 (.ofNat 73)] = true := by kernel_rfl
theorem c74 : Sh.runs 4000 4 [.int .i64 (.ofNat 74)] = true := by kernel_rfl
theorem c75 : Sh.runs 4000 4 [.int .i64 (.ofNat 75)] = true := by kernel_rfl
theorem c76 : Sh.runs 4000 4 [.int .i64 (.ofNat 76)] = true := by kernel_rfl
theorem c77 : Sh.runs 4000 4 [.int .i64 (.ofNat 77)] = true := by kernel_rfl
theorem c78 : Sh.runs 4000 4 [.int .i64 (.ofNat 78)] = true := by kernel_rfl
theorem c79 : Sh.runs 4000 4 [.int .i64 (.ofNat 79)] = true := by kernel_rfl
theorem c80 : Sh.runs 4000 4 [.int .i64 (.ofNat 80)] = true := by kernel_rfl
theorem c81 : Sh.runs 4000 4 [.int .i64 (.ofNat 81)] = true := by kernel_rfl
end Go.Proofs.YtechgpjdlkjjoaaGreatDoor.SL
