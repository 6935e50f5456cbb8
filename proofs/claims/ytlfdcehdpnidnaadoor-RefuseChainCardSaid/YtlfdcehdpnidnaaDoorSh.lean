/- What the laws of this seat share: errors.As by its contract; what the listed variable holds; a law that the abstract machine calls true is true. -/
import Derived.Test.YtlfdcehdpnidnaaDoorRows
import Derived.Test.YtlfdcehdpnidnaaDoorAs
import Derived.Test.YtlfdcehdpnidnaaDoorAc
import Derived.Test.YtlfdcehdpnidnaaDoorIs
import Derived.Test.YtlfdcehdpnidnaaDoorAmZ
import Derived.Test.YtlfdcehdpnidnaaDoorSfT
import Derived.Test.YtlfdcehdpnidnaaDoorLib
import Derived.MakeChecks
import Derived.Stop.LaidErr
import Derived.LaidLaws
import Derived.LaidHandle
import Derived.Stop.Joined
namespace Go.Proofs.YtlfdcehdpnidnaaDoor
open Go.ChangeShapes Go.WideShapes Go.RowKit
set_option linter.unusedSectionVars false
variable [AM.Sig]

theorem Sh.et : Tryd.prog.globalNamed "errors.errorType" = some 0 := by kernel_rfl
theorem Sh.rt : (Tryd.prog.cutTypes.find? (·.1 == "internal/reflectlite.rtype")).map (·.2) = some 76 := by kernel_rfl
theorem Sh.oneRow : ((List.range 134).filter fun t => Tryd.prog.rowNamed t [101, 114, 114, 111, 114]) = [30] := by kernel_rfl
theorem Sh.size : Tryd.prog.types.size = 134 := by kernel_rfl
theorem Sh.hh : typeHandle Tryd.prog 30 = .pointer (some ⟨4, 30, none⟩) := by kernel_rfl

def Sh.laid {H : Type} : List (String × DataW H) := [("math/bits.deBruijn32tab", Rows.laid_math_bits_deBruijn32tab), ("math/bits.deBruijn64tab", Rows.laid_math_bits_deBruijn64tab), ("internal/strconv.uint64pow10", Rows.laid_internal_strconv_uint64pow10), ("errors.errorType", Rows.laid_errors_errorType)]

/-- What the condition gives a walk: the variable's one cell. -/
theorem Sh.handle {W : World} (h : laidMetH Tryd.prog Sh.laid W) : W.cell? ⟨0, 0, none⟩ = some (.iface 76 (.agg #[.pointer (some ⟨4, 30, none⟩)])) := by
  have h' : laidMet Tryd.prog [("math/bits.deBruijn32tab", Rows.laid_math_bits_deBruijn32tab), ("math/bits.deBruijn64tab", Rows.laid_math_bits_deBruijn64tab), ("internal/strconv.uint64pow10", Rows.laid_internal_strconv_uint64pow10)] W ∧ handlesMet Tryd.prog [("errors.errorType", Rows.laid_errors_errorType)] W := h
  obtain ⟨name, u, ty, e1, e2, e3, e4, e5⟩ := h'.2 _ (List.mem_singleton.2 rfl)
  have en : name = [101, 114, 114, 111, 114] := (Option.some.inj e1).symm
  subst en
  obtain rfl := Option.some.inj (Sh.rt.symm.trans e2)
  have hm : ty ∈ (List.range 134).filter fun t => Tryd.prog.rowNamed t [101, 114, 114, 111, 114] := List.mem_filter.2 ⟨List.mem_range.2 (by rw [← Sh.size]; exact e3), e4⟩
  rw [Sh.oneRow] at hm
  obtain rfl := List.mem_singleton.1 hm
  rw [Sh.hh] at e5
  simpa using World.var?_cell Sh.et e5 0

/-- The numbers of a table. -/
def Sh.vals : DataW Unit → Array Value
  | .agg l => (l.filterMap fun | .lit (.int k n) => some (.int k n) | _ => none).toArray
  | _ => #[]
/-- A world that meets the condition: the settled one, the variables' cells laid. -/
noncomputable def Sh.world (os : Os) : World :=
  let w0 := World.holding Tryd.prog os ⟨#[], #[], []⟩
  { w0 with heap := ((((w0.heap.modify 2 fun
      | .cells _ t frozen => .cells (Sh.vals Rows.laid_math_bits_deBruijn32tab) t frozen
      | o => o).modify 3 fun
      | .cells _ t frozen => .cells (Sh.vals Rows.laid_math_bits_deBruijn64tab) t frozen
      | o => o).modify 1 fun
      | .cells _ t frozen => .cells (Sh.vals Rows.laid_internal_strconv_uint64pow10) t frozen
      | o => o).modify 0 fun
      | .cells _ t frozen => .cells #[.iface 76 (.agg #[.pointer (some ⟨4, 30, none⟩)])] t frozen
      | o => o) }
theorem Sh.world_met (os : Os) (args : Array Value) : laidMetH Tryd.prog Sh.laid ((Sh.world os).forCall (fun _ _ => 0) ⟨#[], args, []⟩).memory :=
  laidMetH_of_parts (laidMet_of_run' 8 (by kernel_rfl) (by kernel_rfl)) (by kernel_rfl)

theorem Sh.mixed : Tryd.prog.follows .mixedOrders = true := by kernel_rfl
theorem Sh.names : Tryd.prog.funcs.toList.all (fun f => f.name != "runtime.NumGoroutine") = true := by kernel_rfl
noncomputable def Sh0.prims : Nat → Option AM.Prim := fun _ => none
/-- errors.Is, by what errors.is comes to. -/
noncomputable def Sh.isP : AM.Prim := AM.isPrim (AM.lim ⟨Tryd.prog, fun _ _ => none, AM.genF Tryd.prog Sh0.prims⟩ 31) [22, 50]
theorem Sh.isP_ok {W : World} : AM.CallOk1 Tryd.prog W Sh.isP 19 :=
  AM.isPrim_ok (fun args w => AM.enter_code (by kernel_rfl) args w) (fun args w => AM.enter_code (by kernel_rfl) args w)
    (fun t ht v w => by
      rcases List.mem_cons.1 ht with rfl | ht
      · exact is_nil22 v w
      · rcases List.mem_cons.1 ht with rfl | ht
        · exact is_nil50 v w
        · cases ht)
    (fun t ht R a u v w c => by
      rcases List.mem_cons.1 ht with rfl | ht
      · exact is_is22 a u v w c
      · rcases List.mem_cons.1 ht with rfl | ht
        · exact is_is50 a u v w c
        · cases ht)
    (AM.lim_call (AM.noInp W) Sh.mixed Sh.names fun g p h => by cases h)
/-- The functions that a contract stands in for. -/
noncomputable def Sh.prims0 (g : Nat) : Option AM.Prim :=
  match Nat.beq g 18 with
  | true => some (AM.asPrim2 22 44 50)
  | false => match Nat.beq g 19 with
    | true => some Sh.isP
    | false => none

theorem Sh.prims0_ok {W : World} (h : laidMetH Tryd.prog Sh.laid W) (g : Nat) (p : AM.Prim) (hp : Sh.prims0 g = some p) : AM.CallOk1 Tryd.prog W p g := by
  unfold Sh.prims0 at hp
  split at hp
  · rename_i hb
    obtain rfl := Nat.eq_of_beq_eq_true hb
    cases hp
    have hc := Sh.handle h
    exact AM.asPrim2_ok (fun args w => AM.enter_code (by kernel_rfl) args w) as_nil (fun t old w hne hg ht hf hc => as18 t old w hne hg ht hf hc)
      (ga := ⟨0, 0, none⟩) (by
        rcases Nat.eq_zero_or_pos W.heap.size with h0 | h0
        · simp [World.cell?, h0] at hc
        · exact h0) hc
  · split at hp
    · rename_i hb
      obtain rfl := Nat.eq_of_beq_eq_true hb
      cases hp
      exact Sh.isP_ok
    · cases hp

theorem Sh.pow {W : World} (h : laidMetH Tryd.prog Sh.laid W) : Lib.TabIs Tryd.prog W "internal/strconv.uint64pow10" .u64 Lib.pow10Tab := by
  have h' : laidMet Tryd.prog [("math/bits.deBruijn32tab", Rows.laid_math_bits_deBruijn32tab), ("math/bits.deBruijn64tab", Rows.laid_math_bits_deBruijn64tab), ("internal/strconv.uint64pow10", Rows.laid_internal_strconv_uint64pow10)] W := (show laidMet Tryd.prog [("math/bits.deBruijn32tab", Rows.laid_math_bits_deBruijn32tab), ("math/bits.deBruijn64tab", Rows.laid_math_bits_deBruijn64tab), ("internal/strconv.uint64pow10", Rows.laid_internal_strconv_uint64pow10)] W ∧ handlesMet Tryd.prog [("errors.errorType", Rows.laid_errors_errorType)] W from h).1
  exact Lib.tabIs_of_head (g := 1) (t := 97) (e := 90) (n := 20) (by kernel_rfl) (by kernel_rfl) Tryd.underlying97 Tryd.underlying90 (by kernel_rfl) (by kernel_rfl) (show laidMet Tryd.prog (("internal/strconv.uint64pow10", Lib.tabData .u64 Lib.pow10Tab) :: _) W from h'.tail.tail)
/-- The library's functions that a contract stands in for. -/
noncomputable def Sh.lib (g : Nat) : Option AM.Prim :=
  match Nat.beq g 24 with
  | true => some AM.itoaPrim
  | false => none
theorem Sh.lib_ok {W : World} (h : laidMetH Tryd.prog Sh.laid W) (g : Nat) (p : AM.Prim) (hp : Sh.lib g = some p) : AM.CallOk1 Tryd.prog W p g := by
  unfold Sh.lib at hp
  split at hp
  · rename_i hb
    obtain rfl := Nat.eq_of_beq_eq_true hb
    cases hp
    exact AM.itoaPrim_ok (fun args w => AM.enter_code (by kernel_rfl) args w) (gi := 1) (by kernel_rfl) (Sh.pow h) (fun n h0 h1 w ht => Tryd.strconv_Itoa n h0 h1 w ht)
  · cases hp

theorem Sh.own : ownKnob Tryd.prog.godebug = none := by kernel_rfl

noncomputable def Sh.primsB (g : Nat) : Option AM.Prim :=
  match Sh.prims0 g with
  | some p => some p
  | none => Sh.lib g
theorem Sh.primsB_ok {W : World} (h : laidMetH Tryd.prog Sh.laid W) (g : Nat) (p : AM.Prim) (hp : Sh.primsB g = some p) : AM.CallOk1 Tryd.prog W p g := by
  unfold Sh.primsB at hp
  split at hp
  · rename_i q hq; cases hp; exact Sh.prims0_ok h g _ hq
  · exact Sh.lib_ok h g p hp

/-- The first look that each law of the package takes: once for all. -/
theorem Sh.begun : AM.saysTrue (AM.runS (AM.withPrims Sh.primsB (Sf.tab fun _ _ => none)) 4000 8 [] ⟨.nil, 0⟩) = true := by kernel_rfl
noncomputable def Sh.prims (g : Nat) : Option AM.Prim :=
  match Nat.beq g 8 with
  | true => some AM.yesPrim
  | false => Sh.primsB g
theorem Sh.prims_ok {W : World} (h : laidMetH Tryd.prog Sh.laid W) (g : Nat) (p : AM.Prim) (hp : Sh.prims g = some p) : AM.CallOk1 Tryd.prog W p g := by
  unfold Sh.prims at hp
  split at hp
  · rename_i hb
    obtain rfl := Nat.eq_of_beq_eq_true hb
    cases hp
    obtain ⟨m, hm⟩ := AM.run_true (Sf.tab_ok _ _) Sh.begun
    exact AM.yesPrim_ok Sh.mixed Sh.names (AM.noInp W) (fun g p hp => Sh.primsB_ok h g p hp) hm
  · exact Sh.primsB_ok h g p hp

/-- A law that the abstract machine calls true. -/
theorem Sh.lawOf {W : World} (h : laidMetH Tryd.prog Sh.laid W) {g : Nat} {args : List AM.AVal} {argsC : Array Value} (hargs : AM.VRels (fun _ => none) args argsC.toList) (hg : Sh.prims g = none) {I : AM.Inp} (hI : AM.InpOk W I)
    (hrun : ∃ m, AM.saysTrue (AM.callF Tryd.prog I (AM.genF Tryd.prog Sh.prims) m g args ⟨.nil, 0⟩) = true) : Calls Tryd.prog g argsC W (fun e w' => e = .returned (.bool true) ∧ Below W.heap.size W w') := by
  obtain ⟨m, hm⟩ := hrun
  exact AM.law_closed Sh.mixed Sh.names W (fun g p hp => Sh.prims_ok h g p hp) hargs hg hI hm
/-- A run by the table of labels. -/
noncomputable def Sh.runs (n g : Nat) (args : List AM.AVal) : Bool := AM.saysTrue (AM.runS (AM.withPrims Sh.prims (Sf.tab fun _ _ => none)) n g args ⟨.nil, 0⟩)
theorem Sh.law {W : World} (h : laidMetH Tryd.prog Sh.laid W) {n g : Nat} {args : List AM.AVal} {argsC : Array Value} (hargs : AM.VRels (fun _ => none) args argsC.toList) (hg : Sh.prims g = none)
    (hrun : Sh.runs n g args = true) : Calls Tryd.prog g argsC W (fun e w' => e = .returned (.bool true) ∧ Below W.heap.size W w') :=
  Sh.lawOf h hargs hg (AM.noInp W) (AM.run_true (Sf.tab_ok _ _) hrun)
end Go.Proofs.YtlfdcehdpnidnaaDoor
