/- SemDeep for the numbers 18 to 20: the kernel runs the law. Conditions: none. -/
import Derived.Test.YtechgpjdlkjjoaaGreatDoorSh
namespace Go.Proofs.YtechgpjdlkjjoaaGreatDoor.SD
theorem c18 : Sh.runs 20000 9 [.int .i64 (.ofNat 18)] = true := by kernel_rfl
theorem c19 : Sh.runs 20000 9 [.int .i64 (.ofNat 19)] = true := by kernel_rfl
theorem c20 : Sh.runs 20000 9 [.int .i64 (.ofNat 20)] = true := by kernel_rfl
end Go.Proofs.YtechgpjdlkjjoaaGreatDoor.SD
