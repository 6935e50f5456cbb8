/- SemSum: the kernel runs the law for each count of numbers. Conditions: none. -/
import Derived.Test.YtechgpjdlkjjoaaGreatDoorSh
namespace Go.Proofs.YtechgpjdlkjjoaaGreatDoor.SS
open Go.ChangeShapes Go.WideShapes Go.RowKit
set_option linter.unusedVariables false
/-! the argument: some numbers -/
/-- The i-th number alone. -/
def unit (i : Nat) : List Int := List.replicate i 0 ++ [1]
theorem dot_unit [AM.Sig] : ∀ (i k : Nat), AM.dotFrom (unit i) k = AM.Sig.val (k + i)
  | 0, k => by show (1 : Int) * AM.Sig.val k + 0 = AM.Sig.val (k + 0); rw [Nat.add_zero]; omega
  | i + 1, k => by
    show (0 : Int) * AM.Sig.val k + AM.dotFrom (unit i) (k + 1) = AM.Sig.val (k + (i + 1))
    rw [dot_unit i (k + 1), show k + 1 + i = k + (i + 1) by omega]; omega
/-- So many numbers that come from without. -/
noncomputable def inp (n : Nat) : AM.Inp := fun k o => match k with
  | 1 => (match Nat.blt o n with
    | true => some (.lin (unit o) 0)
    | false => none)
  | _ => none
noncomputable def runsI (I : AM.Inp) (n g : Nat) (args : List AM.AVal) : Bool := AM.saysTrue (AM.runS (AM.withPrims Sh.prims (Sf.tab I)) n g args ⟨.nil, 0⟩)
theorem inp_ok {w : World} {b off n : Nat} {x : Nat → Int} (hx : ∀ i, i < n → w.cell? ⟨b, off + i, none⟩ = some (.int .i64 (x i)) ∧ (Lit.int .i64 (x i)).wf = true) : @AM.InpOk ⟨x, fun _ => (b, off)⟩ w (inp n) := by
  letI : AM.Sig := ⟨x, fun _ => (b, off)⟩
  intro k o v h
  unfold inp at h
  split at h
  · split at h
    · rename_i hb
      cases h
      rw [AM.blt_iff] at hb
      obtain ⟨h1, h2⟩ := hx o (by simpa using hb)
      have hp : AM.place 1 = (b, off) := AM.place_odd 0
      exact ⟨_, by rw [hp]; exact h1, fun ι => AM.lin_rel h2 (by rw [dot_unit, Nat.zero_add]; rfl) ι⟩
    · cases h
  · cases h
theorem run0 : runsI (inp 0) 20000 8 [.nils] = true := by kernel_rfl
theorem run_0 (e : Nat) : runsI (inp 0) 20000 8 [.sl (.inp 1) 0 0 (.known (e + 0))] = true := by kernel_rfl
theorem run_1 (e : Nat) : runsI (inp 1) 20000 8 [.sl (.inp 1) 0 1 (.known (e + 1))] = true := by kernel_rfl
theorem run_2 (e : Nat) : runsI (inp 2) 20000 8 [.sl (.inp 1) 0 2 (.known (e + 2))] = true := by kernel_rfl
theorem run_3 (e : Nat) : runsI (inp 3) 20000 8 [.sl (.inp 1) 0 3 (.known (e + 3))] = true := by kernel_rfl
theorem run_4 (e : Nat) : runsI (inp 4) 20000 8 [.sl (.inp 1) 0 4 (.known (e + 4))] = true := by kernel_rfl
theorem run_5 (e : Nat) : runsI (inp 5) 20000 8 [.sl (.inp 1) 0 5 (.known (e + 5))] = true := by kernel_rfl
theorem run_6 (e : Nat) : runsI (inp 6) 20000 8 [.sl (.inp 1) 0 6 (.known (e + 6))] = true := by kernel_rfl
theorem run_7 (e : Nat) : runsI (inp 7) 20000 8 [.sl (.inp 1) 0 7 (.known (e + 7))] = true := by kernel_rfl
theorem run_8 (e : Nat) : runsI (inp 8) 20000 8 [.sl (.inp 1) 0 8 (.known (e + 8))] = true := by kernel_rfl
theorem run_9 (e : Nat) : runsI (inp 9) 20000 8 [.sl (.inp 1) 0 9 (.known (e + 9))] = true := by kernel_rfl
theorem run_10 (e : Nat) : runsI (inp 10) 20000 8 [.sl (.inp 1) 0 10 (.known (e + 10))] = true := by kernel_rfl
theorem run_11 (e : Nat) : runsI (inp 11) 20000 8 [.sl (.inp 1) 0 11 (.known (e + 11))] = true := by kernel_rfl
theorem run_12 (e : Nat) : runsI (inp 12) 20000 8 [.sl (.inp 1) 0 12 (.known (e + 12))] = true := by kernel_rfl
theorem run_13 (e : Nat) : runsI (inp 13) 20000 8 [.sl (.inp 1) 0 13 (.known (e + 13))] = true := by kernel_rfl
theorem run_14 (e : Nat) : runsI (inp 14) 20000 8 [.sl (.inp 1) 0 14 (.known (e + 14))] = true := by kernel_rfl
theorem runs (n e : Nat) (hn : n < 15) : runsI (inp n) 20000 8 [.sl (.inp 1) 0 n (.known (e + n))] = true := by
  rcases n with _ | _ | _ | _ | _ | _ | _ | _ | _ | _ | _ | _ | _ | _ | _ | n
  · exact run_0 e
  · exact run_1 e
  · exact run_2 e
  · exact run_3 e
  · exact run_4 e
  · exact run_5 e
  · exact run_6 e
  · exact run_7 e
  · exact run_8 e
  · exact run_9 e
  · exact run_10 e
  · exact run_11 e
  · exact run_12 e
  · exact run_13 e
  · exact run_14 e
  · omega
theorem runBig (n e : Nat) : runsI (inp 14) 20000 8 [.sl (.inp 1) 0 (n + 15) (.known (e + n + 15))] = true := by kernel_rfl

end Go.Proofs.YtechgpjdlkjjoaaGreatDoor.SS
