/- SemLoop for the numbers 56 to 69: the kernel runs the law. Conditions: none. -/
import Derived.Test.YtechgpjdlkjjoaaGreatDoorSh
namespace Go.Proofs.YtechgpjdlkjjoaaGreatDoor.SL
theorem c56 : Sh.runs 4000 4 [.int .i64 (.ofNat 56)] = true := by kernel_rfl
theorem c57 : Sh.runs 4000 4 [.int .i64 (.ofNat 57)] = true := by kernel_rfl
theorem c58 : Sh.runs 4000 4 [.int .i64 (.ofNat 58)] = true := by kernel_rfl
theorem c59 : Sh.runs 4000 4 [.int .i64 (.ofNat 59)] = true := by kernel_rfl
theorem c60 : Sh.runs 4000 4 [.int .i64 (.ofNat 60)] = true := by kernel_rfl
theorem c61 : Sh.runs 4000 4 [.int .i64 (.ofNat 61)] = true := by kernel_rfl
theorem c62 : Sh.runs 4000 4 [.int .i64 (.ofNat 62)] = true := by kernel_rfl
theorem c63 : Sh.runs 4000 4 [.int .i64 (.ofNat 63)] = true := by kernel_rfl
theorem c64 : Sh.runs 4000 4 [.int .i64 (.ofNat 64)] = true := by kernel_rfl
theorem c65 : Sh.runs 4000 4 [.int .i64 (.ofNat 65)] = true := by kernel_rfl
theorem c66 : Sh.runs 4000 4 [.int .i64 (.ofNat 66)] = true := by kernel_rfl
theorem c67 : Sh.runs 4000 4 [.int .i64 (.ofNat 67)] = true := by kernel_rfl
theorem c68 : Sh.runs 4000 4 [.int .i64 (.ofNat 68)] = true := by kernel_rfl
theorem c69 : Sh.runs 4000 4 [.int .i64 (.ofNat 69)] = true := by kernel_rfl
end Go.Proofs.YtechgpjdlkjjoaaGreatDoor.SL
