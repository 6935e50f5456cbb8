/- What the laws of this seat share: errors.As by its contract; what the listed variable holds; a law that the abstract machine calls true is true. -/
import Derived.Test.YtdlceoefjoljnaaGreatDoorRows
import Derived.Test.YtdlceoefjoljnaaGreatDoorAs
import Derived.Test.YtdlceoefjoljnaaGreatDoorAmZ
import Derived.Test.YtdlceoefjoljnaaGreatDoorSfT
import Derived.Test.YtdlceoefjoljnaaGreatDoorTxA
import Derived.LaidLaws
import Derived.Lib.LaidTab
import Derived.LaidHandle
import Derived.Stop.Joined
namespace Go.Proofs.YtdlceoefjoljnaaGreatDoor
open Go.ChangeShapes Go.WideShapes Go.RowKit
set_option linter.unusedSectionVars false
variable [AM.Sig]

theorem Sh.et : Tryz.prog.globalNamed "errors.errorType" = some 0 := by kernel_rfl
theorem Sh.rt : (Tryz.prog.cutTypes.find? (·.1 == "internal/reflectlite.rtype")).map (·.2) = some 411 := by kernel_rfl
theorem Sh.oneRow : ((List.range 474).filter fun t => Tryz.prog.rowNamed t [101, 114, 114, 111, 114]) = [71] := by kernel_rfl
theorem Sh.size : Tryz.prog.types.size = 474 := by kernel_rfl
theorem Sh.hh : typeHandle Tryz.prog 71 = .pointer (some ⟨2, 71, none⟩) := by kernel_rfl

def Sh.laid {H : Type} : List (String × DataW H) := [("math/bits.deBruijn64tab", Rows.laid_math_bits_deBruijn64tab), ("errors.errorType", Rows.laid_errors_errorType)]

/-- What the condition gives a walk: the variable's one cell. -/
theorem Sh.handle {W : World} (h : laidMetH Tryz.prog Sh.laid W) : W.cell? ⟨0, 0, none⟩ = some (.iface 411 (.agg #[.pointer (some ⟨2, 71, none⟩)])) := by
  have h' : laidMet Tryz.prog [("math/bits.deBruijn64tab", Rows.laid_math_bits_deBruijn64tab)] W ∧ handlesMet Tryz.prog [("errors.errorType", Rows.laid_errors_errorType)] W := h
  obtain ⟨name, u, ty, e1, e2, e3, e4, e5⟩ := h'.2 _ (List.mem_singleton.2 rfl)
  have en : name = [101, 114, 114, 111, 114] := (Option.some.inj e1).symm
  subst en
  obtain rfl := Option.some.inj (Sh.rt.symm.trans e2)
  have hm : ty ∈ (List.range 474).filter fun t => Tryz.prog.rowNamed t [101, 114, 114, 111, 114] := List.mem_filter.2 ⟨List.mem_range.2 (by rw [← Sh.size]; exact e3), e4⟩
  rw [Sh.oneRow] at hm
  obtain rfl := List.mem_singleton.1 hm
  rw [Sh.hh] at e5
  simpa using World.var?_cell Sh.et e5 0

/-- The numbers of a table. -/
def Sh.vals : DataW Unit → Array Value
  | .agg l => (l.filterMap fun | .lit (.int k n) => some (.int k n) | _ => none).toArray
  | _ => #[]
/-- A world that meets the condition: the settled one, the variables' cells laid. -/
noncomputable def Sh.world (os : Os) : World :=
  let w0 := World.holding Tryz.prog os ⟨#[], #[], []⟩
  { w0 with heap := ((w0.heap.modify 1 fun
      | .cells _ t frozen => .cells (Sh.vals Rows.laid_math_bits_deBruijn64tab) t frozen
      | o => o).modify 0 fun
      | .cells _ t frozen => .cells #[.iface 411 (.agg #[.pointer (some ⟨2, 71, none⟩)])] t frozen
      | o => o) }
theorem Sh.world_met (os : Os) (args : Array Value) : laidMetH Tryz.prog Sh.laid ((Sh.world os).forCall (fun _ _ => 0) ⟨#[], args, []⟩).memory :=
  laidMetH_of_parts (laidMet_of_run' 8 (by kernel_rfl) (by kernel_rfl)) (by kernel_rfl)

/-- The functions that a contract stands in for. -/
noncomputable def Sh.prims0 (g : Nat) : Option AM.Prim :=
  match Nat.beq g 211 with
  | true => some (AM.asPrim 192 309)
  | false => none

theorem Sh.prims0_ok {W : World} (h : laidMetH Tryz.prog Sh.laid W) (g : Nat) (p : AM.Prim) (hp : Sh.prims0 g = some p) : AM.CallOk1 Tryz.prog W p g := by
  unfold Sh.prims0 at hp
  split at hp
  · rename_i hb
    obtain rfl := Nat.eq_of_beq_eq_true hb
    cases hp
    have hc := Sh.handle h
    exact AM.asPrim_ok (fun args w => AM.enter_code (by kernel_rfl) args w) as_nil (fun e t old w hg ht hf => (as_hit e t old w hg ht hf).mono fun ev w' ⟨he, hw⟩ => ⟨he, _, _, _, _, hw⟩)
      (ga := ⟨0, 0, none⟩) (by
        rcases Nat.eq_zero_or_pos W.heap.size with h0 | h0
        · simp [World.cell?, h0] at hc
        · exact h0) hc
  · cases hp

theorem Sh.mixed : Tryz.prog.follows .mixedOrders = true := by kernel_rfl
theorem Sh.names : Tryz.prog.funcs.toList.all (fun f => f.name != "runtime.NumGoroutine") = true := by kernel_rfl
theorem Sh.own : ownKnob Tryz.prog.godebug = none := by kernel_rfl

/-! ### what comes in -/
noncomputable def Sh.bruijn : List Int := [0, 1, 56, 2, 57, 49, 28, 3, 61, 58, 42, 50, 38, 29, 17, 4, 62, 47, 59, 36, 45, 43, 51, 22, 53, 39, 33, 30, 24, 18, 12, 5, 63, 55, 48, 27, 60, 41, 37, 16, 46, 35, 44, 21, 52, 32, 23, 11, 54, 26, 40, 15, 34, 20, 31, 10, 25, 14, 19, 9, 13, 8, 7, 6]
theorem Sh.tab {W : World} (h : laidMetH Tryz.prog Sh.laid W) : Lib.TabIs Tryz.prog W "math/bits.deBruijn64tab" .u8 Sh.bruijn := by
  have h' : laidMet Tryz.prog [("math/bits.deBruijn64tab", Rows.laid_math_bits_deBruijn64tab)] W ∧ handlesMet Tryz.prog [("errors.errorType", Rows.laid_errors_errorType)] W := h
  exact Lib.tabIs_of_head (g := 1) (t := 388) (e := 5) (n := 64) (by kernel_rfl) (by kernel_rfl) Tryz.underlying388 Tryz.underlying5 (by kernel_rfl) (by kernel_rfl) (show laidMet Tryz.prog (("math/bits.deBruijn64tab", Lib.tabData .u8 Sh.bruijn) :: _) W from h'.1)
noncomputable def Sh.I : AM.Inp := fun b o => match Nat.beq b 2 with
  | true => match Sh.bruijn[o]? with
    | some n => some (.int .u8 n)
    | none => none
  | false => none
theorem Sh.inpOk {W : World} (h : laidMetH Tryz.prog Sh.laid W) : AM.InpOk W Sh.I := by
  intro b o v hv
  unfold Sh.I at hv
  split at hv
  · rename_i hb
    obtain rfl := Nat.eq_of_beq_eq_true hb
    split at hv
    · rename_i n hn
      cases hv
      have ho := (List.getElem?_eq_some_iff.1 hn).1
      refine ⟨.int .u8 n, ?_, fun ι => .int _ _⟩
      have := Lib.TabIs.cell (Sh.tab h) (g := 1) (by kernel_rfl) o ho
      rw [show AM.place 2 = (1, 0) from AM.place_even 1, Nat.zero_add, this]
      simp [List.getD, hn]
    · cases hv
  · cases hv

/-! ### primitives -/
def Pm.a1 : AM.ACode := (.region [(AM.AOper.mk (.some 4) (.move (.val .nilp)) .none)])
def Pm.a2 : AM.ACode := (.region [(AM.AOper.mk (.some 14) (.move (.tmp 0)) .none), (AM.AOper.mk (.some 15) (.move (.tmp 1)) .none), (AM.AOper.mk (.some 16) (.move (.tmp 0)) .none), (AM.AOper.mk (.some 17) (.move (.tmp 1)) .none), (AM.AOper.mk (.some 18) (.call 78 [(.tmp 16), (.tmp 17)]) .none), (AM.AOper.mk (.some 19) .mapNew .none), (AM.AOper.mk (.some 20) (.build [.nilm, (.int .i64 (.ofNat 0))] [(0, (1, (.tmp 19)))]) .none), (AM.AOper.mk (.some 21) (.box (.tmp 20)) .none), (AM.AOper.mk (.some 22) (.build [.nilp, .nilp, .nilp, .nilp, .nils, .nils, (.int .i64 (.ofNat 0)), (.int .i64 (.ofNat 0))] [(0, (1, (.tmp 14))), (1, (1, (.tmp 15))), (2, (1, (.tmp 18))), (3, (1, (.tmp 21)))]) .none), (AM.AOper.mk (.some 23) (.box (.tmp 22)) .none), (AM.AOper.mk (.some 5) (.move (.tmp 23)) .none)])
def Pm.a3 : AM.ACode := (.seq (.region [(AM.AOper.mk (.some 24) (.move (.tmp 0)) .none), (AM.AOper.mk (.some 25) (.eq .false .ptr .true (.tmp 24) (.val .nilp)) .none), (AM.AOper.mk (.some 26) (.move (.tmp 25)) .none), (AM.AOper.mk (.some 27) (.move (.tmp 1)) (.some (26, .false))), (AM.AOper.mk (.some 28) (.eq .false .ptr .true (.tmp 27) (.val .nilp)) (.some (26, .false))), (AM.AOper.mk (.some 29) (.pick (.tmp 26) (.val (.bool .true)) (.tmp 28)) .none)]) (.cond (.tmp 29) (.seq (.region [(AM.AOper.mk (.some 30) (.move (.tmp 5)) .none), (AM.AOper.mk (.some 31) (.nilCheck (.tmp 30)) .none), (AM.AOper.mk (.some 32) (.fieldAddr 3 (.tmp 31)) .none), (AM.AOper.mk (.some 33) (.load1 (.tmp 32)) .none), (AM.AOper.mk (.some 4) (.move (.tmp 33)) .none)]) .ret) .skip))
def Pm.a4 : AM.ACode := (.seq (.region [(AM.AOper.mk (.some 34) (.move (.tmp 0)) .none), (AM.AOper.mk (.some 35) (.nilCheck (.tmp 34)) .none), (AM.AOper.mk (.some 36) (.fieldAddr 4 (.tmp 35)) .none), (AM.AOper.mk (.some 37) (.load1 (.tmp 36)) .none), (AM.AOper.mk (.some 38) (.lenSl (.tmp 37)) .none), (AM.AOper.mk (.some 39) (.move (.val (.int .i64 (.ofNat 0)))) .none)]) (.block 0 (.loop (.seq (.region [(AM.AOper.mk (.some 40) (.bin .lss (.tmp 39) (.tmp 38)) .none)]) (.seq (.cond (.tmp 40) .skip (.exit 0)) (.seq (.block 1 (.seq (.region [(AM.AOper.mk (.some 41) (.move (.tmp 39)) .none), (AM.AOper.mk (.some 6) (.move (.tmp 41)) .none)]) (.seq (.draw [(AM.AOper.mk (.some 42) (.move (.tmp 5)) .none), (AM.AOper.mk (.some 43) (.move (.tmp 5)) .none), (AM.AOper.mk (.some 44) (.nilCheck (.tmp 43)) .none), (AM.AOper.mk (.some 45) (.fieldAddr 4 (.tmp 44)) .none), (AM.AOper.mk (.some 46) (.load1 (.tmp 45)) .none), (AM.AOper.mk (.some 47) (.move (.tmp 0)) .none), (AM.AOper.mk (.some 48) (.move (.tmp 1)) .none), (AM.AOper.mk (.some 49) (.move (.tmp 6)) .none), (AM.AOper.mk (.some 50) (.call 79 [(.tmp 47), (.tmp 48), (.tmp 49)]) .none), (AM.AOper.mk (.some 51) (.buildSlice [.nils] 1 [(0, (1, (.tmp 50)))]) .none), (AM.AOper.mk (.some 52) (.append 1 24 (.tmp 46) (.tmp 51)) .none), (AM.AOper.mk (.some 53) (.nilCheck (.tmp 42)) .none), (AM.AOper.mk (.some 54) (.fieldAddr 4 (.tmp 53)) .none), (AM.AOper.mk .none (.store 1 (.tmp 54) (.tmp 52)) .none)] [(.false, []), (.false, []), (.false, []), (.false, []), (.false, [1, 2]), (.false, []), (.false, []), (.false, []), (.true, []), (.true, []), (.true, []), (.false, []), (.false, []), (.true, [])] 0) (.draw [(AM.AOper.mk (.some 55) (.move (.tmp 5)) .none), (AM.AOper.mk (.some 56) (.move (.tmp 5)) .none), (AM.AOper.mk (.some 57) (.nilCheck (.tmp 56)) .none), (AM.AOper.mk (.some 58) (.fieldAddr 5 (.tmp 57)) .none), (AM.AOper.mk (.some 59) (.load1 (.tmp 58)) .none), (AM.AOper.mk (.some 60) (.move (.tmp 0)) .none), (AM.AOper.mk (.some 61) (.move (.tmp 1)) .none), (AM.AOper.mk (.some 62) (.move (.tmp 6)) .none), (AM.AOper.mk (.some 63) (.call 80 [(.tmp 60), (.tmp 61), (.tmp 62)]) .none), (AM.AOper.mk (.some 64) (.buildSlice [.nils] 1 [(0, (1, (.tmp 63)))]) .none), (AM.AOper.mk (.some 65) (.append 1 24 (.tmp 59) (.tmp 64)) .none), (AM.AOper.mk (.some 66) (.nilCheck (.tmp 55)) .none), (AM.AOper.mk (.some 67) (.fieldAddr 5 (.tmp 66)) .none), (AM.AOper.mk .none (.store 1 (.tmp 67) (.tmp 65)) .none)] [(.false, []), (.false, []), (.false, []), (.false, []), (.false, [1, 2]), (.false, []), (.false, []), (.false, []), (.true, []), (.true, []), (.true, []), (.false, []), (.false, []), (.true, [])] 0)))) (.region [(AM.AOper.mk (.some 68) (.bin .add (.tmp 39) (.val (.int .i64 (.ofNat 1)))) .none), (AM.AOper.mk (.some 39) (.move (.tmp 68)) .none)])))))))
def Pm.a5 : AM.ACode := (.seq (.region [(AM.AOper.mk (.some 69) (.move (.tmp 0)) .none), (AM.AOper.mk (.some 70) (.call 81 [(.tmp 69)]) .none), (AM.AOper.mk (.some 71) (.lenSl (.tmp 70)) .none), (AM.AOper.mk (.some 72) (.move (.val (.int .i64 (.ofNat 0)))) .none)]) (.block 2 (.loop (.seq (.region [(AM.AOper.mk (.some 73) (.bin .lss (.tmp 72) (.tmp 71)) .none)]) (.seq (.cond (.tmp 73) .skip (.exit 2)) (.seq (.block 3 (.seq (.region [(AM.AOper.mk (.some 74) (.move (.tmp 72)) .none), (AM.AOper.mk (.some 75) (.indexAddr 3 (.tmp 70) (.tmp 72)) .none), (AM.AOper.mk (.some 76) (.loadN 3 (.tmp 75)) .none), (AM.AOper.mk (.some 8) (.alloc [(.int .i64 (.ofNat 0)), (.int .i64 (.ofNat 0)), (.int .i64 (.ofNat 0))]) .none), (AM.AOper.mk (.some 7) (.move (.tmp 74)) .none), (AM.AOper.mk .none (.store 3 (.tmp 8) (.tmp 76)) .none)]) (.seq (.seq (.region [(AM.AOper.mk (.some 77) (.move (.tmp 5)) .none), (AM.AOper.mk (.some 78) (.move (.tmp 5)) .none), (AM.AOper.mk (.some 79) (.fieldAddr 0 (.tmp 8)) .none), (AM.AOper.mk (.some 80) (.load1 (.tmp 79)) .none), (AM.AOper.mk (.some 81) (.move (.tmp 7)) .none), (AM.AOper.mk (.some 82) (.nilCheck (.tmp 77)) .none), (AM.AOper.mk (.some 83) (.fieldAddr 6 (.tmp 82)) .none), (AM.AOper.mk .none (.store 1 (.tmp 83) (.tmp 80)) .none), (AM.AOper.mk (.some 84) (.nilCheck (.tmp 78)) .none), (AM.AOper.mk (.some 85) (.fieldAddr 7 (.tmp 84)) .none), (AM.AOper.mk .none (.store 1 (.tmp 85) (.tmp 81)) .none)]) (.seq (.region [(AM.AOper.mk (.some 86) (.move (.tmp 1)) .none), (AM.AOper.mk (.some 87) (.fieldAddr 0 (.tmp 8)) .none), (AM.AOper.mk (.some 88) (.load1 (.tmp 87)) .none), (AM.AOper.mk (.some 89) (.call 57 [(.tmp 86), (.tmp 88)]) .none), (AM.AOper.mk (.some 90) (.un .not (.tmp 89)) .none)]) (.cond (.tmp 90) (.exit 3) .skip))) (.seq (.region [(AM.AOper.mk (.some 92) (.move (.tmp 0)) .none), (AM.AOper.mk (.some 93) (.move (.tmp 7)) .none), (AM.AOper.mk (.some 94) (.call 82 [(.tmp 92), (.tmp 93)]) .none), (AM.AOper.mk (.some 91) (.move (.tmp 94)) .none), (AM.AOper.mk (.some 95) (.extract (.tmp 91) 0) .none), (AM.AOper.mk (.some 96) (.extract (.tmp 91) 1) .none), (AM.AOper.mk (.some 9) (.alloc [(.int .i64 (.ofNat 0)), (.int .i64 (.ofNat 0)), (.int .i64 (.ofNat 0)), (.int .i64 (.ofNat 0)), (.int .i64 (.ofNat 0)), .nils]) .none), (AM.AOper.mk .none (.store 6 (.tmp 9) (.tmp 95)) .none), (AM.AOper.mk (.some 10) (.move (.tmp 96)) .none)]) (.seq (.region [(AM.AOper.mk (.some 97) (.move (.tmp 10)) .none)]) (.cond (.tmp 97) (.region [(AM.AOper.mk (.some 98) (.move (.tmp 5)) .none), (AM.AOper.mk (.some 99) (.loadN 6 (.tmp 9)) .none), (AM.AOper.mk (.some 100) (.call 83 [(.tmp 98), (.tmp 99)]) .none)]) (.seq (.region [(AM.AOper.mk (.some 101) (.move (.tmp 0)) .none), (AM.AOper.mk (.some 102) (.move (.tmp 7)) .none), (AM.AOper.mk (.some 103) (.call 84 [(.tmp 101), (.tmp 102)]) .none), (AM.AOper.mk (.some 11) (.move (.tmp 103)) .none)]) (.seq (.region [(AM.AOper.mk (.some 104) (.move (.tmp 11)) .none), (AM.AOper.mk (.some 105) (.nilCheck (.tmp 104)) .none), (AM.AOper.mk (.some 106) (.fieldAddr 1 (.tmp 105)) .none), (AM.AOper.mk (.some 107) (.load1 (.tmp 106)) .none), (AM.AOper.mk (.some 108) (.bin .eql (.tmp 107) (.val (.int .i64 (.ofNat 3)))) .none)]) (.cond (.tmp 108) (.region [(AM.AOper.mk (.some 109) (.move (.tmp 5)) .none), (AM.AOper.mk (.some 110) (.move (.tmp 11)) .none), (AM.AOper.mk (.some 111) (.call 85 [(.tmp 109), (.tmp 110)]) .none)]) .skip))))))))) (.region [(AM.AOper.mk (.some 112) (.bin .add (.tmp 72) (.val (.int .i64 (.ofNat 1)))) .none), (AM.AOper.mk (.some 72) (.move (.tmp 112)) .none)])))))))
/-- Sorting, striking out. -/
noncomputable def Pm.S (g : Nat) : Option AM.Prim :=
  match Nat.beq g 60 with
  | true => some (AM.sortP 2 [61])
  | false =>
  match Nat.beq g 86 with
  | true => some (AM.sortP 5 [87, 253])
  | false =>
  match Nat.beq g 99 with
  | true => some (AM.sortP 2 [100])
  | false =>
  match Nat.beq g 229 with
  | true => some (AM.sortP 2 [230, 313])
  | false =>
  match Nat.beq g 128 with
  | true => some (AM.delP)
  | false =>
  Sh.prims0 g
noncomputable def Pm.call0 (I : AM.Inp) : AM.CallFn := AM.runS (AM.withPrims Pm.S (Sf.tab I)) 4000
noncomputable def Pm.C (I : AM.Inp) (g : Nat) : Option AM.Prim :=
  match Nat.beq g 88 with
  | true => some (AM.oneP (Pm.call0 I 88))
  | false =>
  match Nat.beq g 231 with
  | true => some (AM.oneP (Pm.call0 I 231))
  | false =>
  Pm.S g
noncomputable def Pm.call1 (I : AM.Inp) : AM.CallFn := AM.runS (AM.withPrims (Pm.C I) (Sf.tab I)) 4000
noncomputable def Pm.D (I : AM.Inp) (g : Nat) : Option AM.Prim :=
  match Nat.beq g 137 with
  | true => some (AM.sortedP [230, 313] 230 (AM.oneP (Pm.call0 I 231)))
  | false =>
  Pm.C I g
noncomputable def Pm.call2 (I : AM.Inp) : AM.CallFn := AM.runS (AM.withPrims (Pm.D I) (Sf.tab I)) 4000
noncomputable def Pm.E (I : AM.Inp) (g : Nat) : Option AM.Prim :=
  match Nat.beq g 56 with
  | true => some (AM.edgesP 8)
  | false =>
  match Nat.beq g 241 with
  | true => some (AM.writesP 2 (AM.oneP (Pm.call0 I 231)))
  | false =>
  Pm.D I g
noncomputable def Pm.call3 (I : AM.Inp) : AM.CallFn := AM.runS (AM.withPrims (Pm.E I) (Sf.tab I)) 4000
noncomputable def Pm.M (I : AM.Inp) (g : Nat) : Option AM.Prim :=
  match Nat.beq g 51 with
  | true => some (AM.makeP Tryz.prog I (Pm.call3 I) 1000001 Pm.a1 Pm.a2 Pm.a3 Pm.a4 Pm.a5 [87, 253] 87 (AM.oneP (Pm.call0 I 88)))
  | false =>
  Pm.E I g

theorem Pm.S_ok {W : World} (h : laidMetH Tryz.prog Sh.laid W) (g : Nat) (p : AM.Prim) (hp : Pm.S g = some p) : AM.CallOk1 Tryz.prog W p g := by
  unfold Pm.S at hp
  split at hp
  · rename_i hb
    obtain rfl := Nat.eq_of_beq_eq_true hb
    cases hp
    exact Tx.sort_alarm
  · skip
    split at hp
    · rename_i hb
      obtain rfl := Nat.eq_of_beq_eq_true hb
      cases hp
      exact Tx.sort_place
    · skip
      split at hp
      · rename_i hb
        obtain rfl := Nat.eq_of_beq_eq_true hb
        cases hp
        exact Tx.sort_edge
      · skip
        split at hp
        · rename_i hb
          obtain rfl := Nat.eq_of_beq_eq_true hb
          cases hp
          exact Tx.sort_cell
        · skip
          split at hp
          · rename_i hb
            obtain rfl := Nat.eq_of_beq_eq_true hb
            cases hp
            exact Tx.dele
          · skip
            exact Sh.prims0_ok h g p hp
theorem Pm.call0_ok {W : World} (h : laidMetH Tryz.prog Sh.laid W) : AM.CallOk Tryz.prog W (Pm.call0 Sh.I) := AM.runS_ok Sh.mixed Sh.names (Sh.inpOk h) (fun g p hp => Pm.S_ok h g p hp) (Sf.tab_ok _ _) 4000
theorem Pm.C_ok {W : World} (h : laidMetH Tryz.prog Sh.laid W) (g : Nat) (p : AM.Prim) (hp : Pm.C Sh.I g = some p) : AM.CallOk1 Tryz.prog W p g := by
  unfold Pm.C at hp
  split at hp
  · rename_i hb
    obtain rfl := Nat.eq_of_beq_eq_true hb
    cases hp
    exact AM.oneP_ok (Pm.call0_ok h _)
  · skip
    split at hp
    · rename_i hb
      obtain rfl := Nat.eq_of_beq_eq_true hb
      cases hp
      exact AM.oneP_ok (Pm.call0_ok h _)
    · skip
      exact Pm.S_ok h g p hp
theorem Pm.call1_ok {W : World} (h : laidMetH Tryz.prog Sh.laid W) : AM.CallOk Tryz.prog W (Pm.call1 Sh.I) := AM.runS_ok Sh.mixed Sh.names (Sh.inpOk h) (fun g p hp => Pm.C_ok h g p hp) (Sf.tab_ok _ _) 4000
theorem Pm.D_ok {W : World} (h : laidMetH Tryz.prog Sh.laid W) (g : Nat) (p : AM.Prim) (hp : Pm.D Sh.I g = some p) : AM.CallOk1 Tryz.prog W p g := by
  unfold Pm.D at hp
  split at hp
  · rename_i hb
    obtain rfl := Nat.eq_of_beq_eq_true hb
    cases hp
    exact AM.prim_any (Sh.inpOk h) Sh.mixed (Pm.call1_ok h) Tryz.func137 (af := AM.sortedC 229 230 231) (by kernel_rfl) (by decide) (m := 5) (AM.sortedP_hp (fun a h => AM.runS_prim (n := 3999) (show Pm.C Sh.I 229 = some _ from by kernel_rfl) a h) (fun a h => AM.runS_prim (n := 3999) (show Pm.C Sh.I 231 = some _ from by kernel_rfl) a h))
  · skip
    exact Pm.C_ok h g p hp
theorem Pm.call2_ok {W : World} (h : laidMetH Tryz.prog Sh.laid W) : AM.CallOk Tryz.prog W (Pm.call2 Sh.I) := AM.runS_ok Sh.mixed Sh.names (Sh.inpOk h) (fun g p hp => Pm.D_ok h g p hp) (Sf.tab_ok _ _) 4000
theorem Pm.E_ok {W : World} (h : laidMetH Tryz.prog Sh.laid W) (g : Nat) (p : AM.Prim) (hp : Pm.E Sh.I g = some p) : AM.CallOk1 Tryz.prog W p g := by
  unfold Pm.E at hp
  split at hp
  · rename_i hb
    obtain rfl := Nat.eq_of_beq_eq_true hb
    cases hp
    exact AM.prim_any (Sh.inpOk h) Sh.mixed (Pm.call2_ok h) Tryz.func56 (af := AM.edgesC 8 99 100) (by kernel_rfl) (by decide) (m := 1000001) (AM.edgesP_hp (by omega) (gs := [100]) rfl (fun a h => AM.runS_prim (n := 3999) (show Pm.D Sh.I 99 = some _ from by kernel_rfl) a h))
  · skip
    split at hp
    · rename_i hb
      obtain rfl := Nat.eq_of_beq_eq_true hb
      cases hp
      exact AM.prim_any (Sh.inpOk h) Sh.mixed (Pm.call2_ok h) Tryz.func241 (af := AM.writesC 2 137) (by kernel_rfl) (by decide) (m := 1000001) (AM.writesP_hp (by omega) (cg := 230) (gs := [230, 313]) rfl (fun a h => AM.runS_prim (n := 3999) (show Pm.D Sh.I 137 = some _ from by kernel_rfl) a h))
    · skip
      exact Pm.D_ok h g p hp
theorem Pm.call3_ok {W : World} (h : laidMetH Tryz.prog Sh.laid W) : AM.CallOk Tryz.prog W (Pm.call3 Sh.I) := AM.runS_ok Sh.mixed Sh.names (Sh.inpOk h) (fun g p hp => Pm.E_ok h g p hp) (Sf.tab_ok _ _) 4000
theorem Pm.M_ok {W : World} (h : laidMetH Tryz.prog Sh.laid W) (g : Nat) (p : AM.Prim) (hp : Pm.M Sh.I g = some p) : AM.CallOk1 Tryz.prog W p g := by
  unfold Pm.M at hp
  split at hp
  · rename_i hb
    obtain rfl := Nat.eq_of_beq_eq_true hb
    cases hp
    exact AM.prim_any (Sh.inpOk h) Sh.mixed (Pm.call3_ok h) Tryz.func51 (af := AM.makeC Pm.a1 Pm.a2 Pm.a3 Pm.a4 Pm.a5 86 87 88) (by kernel_rfl) (by decide) (m := 1000001) (AM.makeP_hp (by omega) (fun a h => AM.runS_prim (n := 3999) (show Pm.E Sh.I 86 = some _ from by kernel_rfl) a h) (fun a h => AM.runS_prim (n := 3999) (show Pm.E Sh.I 88 = some _ from by kernel_rfl) a h))
  · skip
    exact Pm.E_ok h g p hp

/-- The first look that each law of the package takes: once for all. -/
theorem Sh.begun : AM.saysTrue (AM.runS (AM.withPrims (Pm.M Sh.I) (Sf.tab Sh.I)) 4000 17 [] ⟨.nil, 0⟩) = true := by kernel_rfl
noncomputable def Sh.prims (l : List (List Int × Int × Int)) (g : Nat) : Option AM.Prim :=
  match Nat.beq g 17 with
  | true => some AM.yesPrim
  | false => match Nat.beq g 22 with
    | true => some (AM.pickP l)
    | false => Pm.M Sh.I g
/-- Do the answers hold? -/
def Sh.picked (l : List (List Int × Int × Int)) : Prop := ∀ e ∈ l, e.2.1 ≠ 0 ∧ Tx.smallI (IntKind.i64.wrap (AM.dotFrom e.1 0)) e.2.1 = e.2.2
theorem Sh.prims_ok {W : World} (h : laidMetH Tryz.prog Sh.laid W) {l : List (List Int × Int × Int)} (hl : Sh.picked l) (g : Nat) (p : AM.Prim) (hp : Sh.prims l g = some p) : AM.CallOk1 Tryz.prog W p g := by
  unfold Sh.prims at hp
  split at hp
  · rename_i hb
    obtain rfl := Nat.eq_of_beq_eq_true hb
    cases hp
    obtain ⟨m, hm⟩ := AM.run_true (Sf.tab_ok _ _) Sh.begun
    exact AM.yesPrim_ok Sh.mixed Sh.names (Sh.inpOk h) (fun g p hp => Pm.M_ok h g p hp) hm
  · split at hp
    · rename_i hb
      obtain rfl := Nat.eq_of_beq_eq_true hb
      cases hp
      exact Tx.small_ok hl
    · exact Pm.M_ok h g p hp
/-- A run by the table of labels, where small's answers are given. -/
noncomputable def Sh.runs (l : List (List Int × Int × Int)) (g : Nat) (args : List AM.AVal) : Bool := AM.saysTrue (AM.runS (AM.withPrims (Sh.prims l) (Sf.tab Sh.I)) 20000 g args ⟨.nil, 0⟩)
theorem Sh.law {W : World} (h : laidMetH Tryz.prog Sh.laid W) {l : List (List Int × Int × Int)} (hl : Sh.picked l) {g : Nat} {args : List AM.AVal} {argsC : Array Value} (hargs : AM.VRels (fun _ => none) args argsC.toList) (hg : Sh.prims l g = none)
    (hrun : Sh.runs l g args = true) : Calls Tryz.prog g argsC W (fun e w' => e = .returned (.bool true) ∧ Below W.heap.size W w') := by
  obtain ⟨m, hm⟩ := AM.run_true (Sf.tab_ok _ _) hrun
  exact AM.law_closed Sh.mixed Sh.names W (fun g p hp => Sh.prims_ok h hl g p hp) hargs hg (Sh.inpOk h) hm
/-- small's answer is one of few. -/
theorem Sh.small_lt (n : Int) (k : Nat) (hk : 0 < k) (hk2 : k ≤ 1000) : ∃ r : Nat, r < k ∧ Tx.smallI n k = r := by
  have h1 := Int.tmod_lt_of_pos n (show (0 : Int) < k by omega)
  have h2 : -(k : Int) < n.tmod k := by
    have := Int.lt_tmod_of_pos n (show (0 : Int) < k by omega)
    omega
  unfold Tx.smallI
  by_cases hneg : n.tmod k < 0
  · rw [if_pos hneg]
    refine ⟨(-(n.tmod k)).toNat, by omega, ?_⟩
    have : IntKind.i64.wrap (0 - n.tmod k) = 0 - n.tmod k := AM.wrap_in ⟨by omega, by omega⟩
    rw [this]; omega
  · rw [if_neg hneg]
    exact ⟨(n.tmod k).toNat, by omega, by omega⟩
end Go.Proofs.YtdlceoefjoljnaaGreatDoor
