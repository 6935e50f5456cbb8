/- SemLoop for the numbers 38 to 55: the kernel runs the law. Conditions: none. -/
import Derived.Test.YtechgpjdlkjjoaaGreatDoorSh
namespace Go.Proofs.YtechgpjdlkjjoaaGreatDoor.SL
theorem c38 : Sh.runs 4000 4 [.int .i64 (.ofNat 38)] = true := by kernel_rfl
theorem c39 : Sh.runs 4000 4 [.int .i64 (.ofNat 39)] = true := by kernel_rfl
theorem c40 : Sh.runs 4000 4 [.int .i64 (.ofNat 40)] = true := by kernel_rfl
theorem c41 : Sh.runs 4000 4 [.int .i64 (.ofNat 41)] = true := by kernel_rfl
theorem c42 : Sh.runs 4000 4 [.int .i64 (.ofNat 42)] = true := by kernel_rfl
theorem c43 : Sh.runs 4000 4 [.int .i64 (.ofNat 43)] = true := by kernel_rfl
theorem c44 : Sh.runs 4000 4 [.int .i64 (.ofNat 44)] = true := by kernel_rfl
theorem c45 : Sh.runs 4000 4 [.int .i64 (.ofNat 45)] = true := by kernel_rfl
theorem c46 : Sh.runs 4000 4 [.int .i64 (.ofNat 46)] = true := by kernel_rfl
theorem c47 : Sh.runs 4000 4 [.int .i64 (.ofNat 47)] = true := by kernel_rfl
theorem c48 : Sh.runs 4000 4 [.int .i64 (.ofNat 48)] = true := by kernel_rfl
theorem c49 : Sh.runs 4000 4 [.int .i64 (.ofNat 49)] = true := by kernel_rfl
theorem c50 : Sh.runs 4000 4 [.int .i64 (.ofNat 50)] = true := by kernel_rfl
theorem c51 : Sh.runs 4000 4 [.int .i64 (.ofNat 51)] = true := by kernel_rfl
theorem c52 : Sh.runs 4000 4 [.int .i64 (.ofNat 52)] = true := by kernel_rfl
theorem c53 : Sh.runs 4000 4 [.int .i64 (.ofNat 53)] = true := by kernel_rfl
theorem c54 : Sh.runs 4000 4 [.int .i64 (.ofNat 54)] = true := by kernel_rfl
theorem c55 : Sh.runs 4000 4 [.int .i64 (.ofNat 55)] = true := by kernel_rfl
end Go.Proofs.YtechgpjdlkjjoaaGreatDoor.SL
