/- SemLoop for the numbers 0 to 37: the kernel runs the law. Conditions: none. -/
import Derived.Test.YtechgpjdlkjjoaaGreatDoorSh
namespace Go.Proofs.YtechgpjdlkjjoaaGreatDoor.SL
theorem c0 : Sh.runs 4000 4 [.int .i64 (.ofNat 0)] = true := by kernel_rfl
theorem c1 : Sh.runs 4000 4 [.int .i64 (.ofNat 1)] = true := by kernel_rfl
theorem c2 : Sh.runs 4000 4 [.int .i64 (.ofNat 2)] = true := by kernel_rfl
theorem c3 : Sh.runs 4000 4 [.int .i64 (.ofNat 3)] = true := by kernel_rfl
theorem c4 : Sh.runs 4000 4 [.int .i64 (.ofNat 4)] = true := by kernel_rfl
theorem c5 : Sh.runs 4000 4 [.int .i64 (.ofNat 5)] = true := by kernel_rfl
theorem c6 : Sh.runs 4000 4 [.int .i64 (.ofNat 6)] = true := by kernel_rfl
theorem c7 : Sh.runs 4000 4 [.int .i64 (.ofNat 7)] = true := by kernel_rfl
theorem c8 : Sh.runs 4000 4 [.int .i64 (.ofNat 8)] = true := by kernel_rfl
theorem c9 : Sh.runs 4000 4 [.int .i64 (.ofNat 9)] = true := by kernel_rfl
theorem c10 : Sh.runs 4000 4 [.int .i64 (.ofNat 10)] = true := by kernel_rfl
theorem c11 : Sh.runs 4000 4 [.int .i64 (.ofNat 11)] = true := by kernel_rfl
theorem c12 : Sh.runs 4000 4 [.int .i64 (.ofNat 12)] = true := by kernel_rfl
theorem c13 : Sh.runs 4000 4 [.int .i64 (.ofNat 13)] = true := by kernel_rfl
theorem c14 : Sh.runs 4000 4 [.int .i64 (.ofNat 14)] = true := by kernel_rfl
theorem c15 : Sh.runs 4000 4 [.int .i64 (.ofNat 15)] = true := by kernel_rfl
theorem c16 : Sh.runs 4000 4 [.int .i64 (.ofNat 16)] = true := by kernel_rfl
theorem c17 : Sh.runs 4000 4 [.int .i64 (.ofNat 17)] = true := by kernel_rfl
theorem c18 : Sh.runs 4000 4 [.int .i64 (.ofNat 18)] = true := by kernel_rfl
theorem c19 : Sh.runs 4000 4 [.int .i64 (.ofNat 19)] = true := by kernel_rfl
theorem c20 : Sh.runs 4000 4 [.int .i64 (.ofNat 20)] = true := by kernel_rfl
theorem c21 : Sh.runs 4000 4 [.int .i64 (.ofNat 21)] = true := by kernel_rfl
theorem c22 : Sh.runs 4000 4 [.int .i64 (.ofNat 22)] = true := by kernel_rfl
theorem c23 : Sh.runs 4000 4 [.int .i64 (.ofNat 23)] = true := by kernel_rfl
theorem c24 : Sh.runs 4000 4 [.int .i64 (.ofNat 24)] = true := by kernel_rfl
theorem c25 : Sh.runs 4000 4 [.int .i64 (.ofNat 25)] = true := by kernel_rfl
theorem c26 : Sh.runs 4000 4 [.int .i64 (.ofNat 26)] = true := by kernel_rfl
theorem c27 : Sh.runs 4000 4 [.int .i64 (.ofNat 27)] = true := by kernel_rfl
theorem c28 : Sh.runs 4000 4 [.int .i64 (.ofNat 28)] = true := by kernel_rfl
theorem c29 : Sh.runs 4000 4 [.int .i64 (.ofNat 29)] = true := by kernel_rfl
theorem c30 : Sh.runs 4000 4 [.int .i64 (.ofNat 30)] = true := by kernel_rfl
theorem c31 : Sh.runs 4000 4 [.int .i64 (.ofNat 31)] = true := by kernel_rfl
theorem c32 : Sh.runs 4000 4 [.int .i64 (.ofNat 32)] = true := by kernel_rfl
theorem c33 : Sh.runs 4000 4 [.int .i64 (.ofNat 33)] = true := by kernel_rfl
theorem c34 : Sh.runs 4000 4 [.int .i64 (.ofNat 34)] = true := by kernel_rfl
theorem c35 : Sh.runs 4000 4 [.int .i64 (.ofNat 35)] = true := by kernel_rfl
theorem c36 : Sh.runs 4000 4 [.int .i64 (.ofNat 36)] = true := by kernel_rfl
theorem c37 : Sh.runs 4000 4 [.int .i64 (.ofNat 37)] = true := by kernel_rfl
end Go.Proofs.YtechgpjdlkjjoaaGreatDoor.SL
