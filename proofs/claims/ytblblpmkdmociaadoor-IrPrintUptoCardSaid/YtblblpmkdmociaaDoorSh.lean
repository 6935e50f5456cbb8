/- What the laws of this seat share: errors.As by its contract; what the listed variable holds; a law that the abstract machine calls true is true. -/
import Derived.Test.YtblblpmkdmociaaDoorRows
import Derived.Test.YtblblpmkdmociaaDoorAmZ
import Derived.Test.YtblblpmkdmociaaDoorSfT
import Derived.Test.YtblblpmkdmociaaDoorLib
import Derived.MakeChecks
import Derived.Stop.LaidErr
import Derived.LaidLaws
import Derived.LaidHandle
import Derived.Stop.Joined
namespace Go.Proofs.YtblblpmkdmociaaDoor
open Go.ChangeShapes Go.WideShapes Go.RowKit
set_option linter.unusedSectionVars false
variable [AM.Sig]

def Sh.laid {H : Type} : List (String × DataW H) := [("math/bits.deBruijn32tab", Rows.laid_math_bits_deBruijn32tab), ("math/bits.deBruijn64tab", Rows.laid_math_bits_deBruijn64tab), ("internal/strconv.uint64pow10", Rows.laid_internal_strconv_uint64pow10)]

/-- The numbers of a table. -/
def Sh.vals : DataW Unit → Array Value
  | .agg l => (l.filterMap fun | .lit (.int k n) => some (.int k n) | _ => none).toArray
  | _ => #[]
/-- A world that meets the condition: the settled one, the variables' cells laid. -/
noncomputable def Sh.world (os : Os) : World :=
  let w0 := World.holding Tryd.prog os ⟨#[], #[], []⟩
  { w0 with heap := (((w0.heap.modify 1 fun
      | .cells _ t frozen => .cells (Sh.vals Rows.laid_math_bits_deBruijn32tab) t frozen
      | o => o).modify 2 fun
      | .cells _ t frozen => .cells (Sh.vals Rows.laid_math_bits_deBruijn64tab) t frozen
      | o => o).modify 0 fun
      | .cells _ t frozen => .cells (Sh.vals Rows.laid_internal_strconv_uint64pow10) t frozen
      | o => o) }
theorem Sh.world_met (os : Os) (args : Array Value) : laidMetH Tryd.prog Sh.laid ((Sh.world os).forCall (fun _ _ => 0) ⟨#[], args, []⟩).memory :=
  laidMetH_of_parts (laidMet_of_run' 8 (by kernel_rfl) (by kernel_rfl)) (by kernel_rfl)

noncomputable def Sh.prims0 (g : Nat) : Option AM.Prim := none
theorem Sh.prims0_ok {W : World} (h : laidMetH Tryd.prog Sh.laid W) (g : Nat) (p : AM.Prim) (hp : Sh.prims0 g = some p) : AM.CallOk1 Tryd.prog W p g := by cases hp

theorem Sh.pow {W : World} (h : laidMetH Tryd.prog Sh.laid W) : Lib.TabIs Tryd.prog W "internal/strconv.uint64pow10" .u64 Lib.pow10Tab := by
  have h' : laidMet Tryd.prog [("math/bits.deBruijn32tab", Rows.laid_math_bits_deBruijn32tab), ("math/bits.deBruijn64tab", Rows.laid_math_bits_deBruijn64tab), ("internal/strconv.uint64pow10", Rows.laid_internal_strconv_uint64pow10)] W := by rw [MakeChecks.laidMetH_plain _ _ _ (by kernel_rfl)] at h; exact h
  exact Lib.tabIs_of_head (g := 0) (t := 91) (e := 75) (n := 20) (by kernel_rfl) (by kernel_rfl) Tryd.underlying91 Tryd.underlying75 (by kernel_rfl) (by kernel_rfl) (show laidMet Tryd.prog (("internal/strconv.uint64pow10", Lib.tabData .u64 Lib.pow10Tab) :: _) W from h'.tail.tail)
/-- The library's functions that a contract stands in for. -/
noncomputable def Sh.lib (g : Nat) : Option AM.Prim :=
  match Nat.beq g 28 with
  | true => some AM.itoaPrim
  | false => match Nat.beq g 43 with
    | true => some AM.joinPrim
    | false => none
theorem Sh.lib_ok {W : World} (h : laidMetH Tryd.prog Sh.laid W) (g : Nat) (p : AM.Prim) (hp : Sh.lib g = some p) : AM.CallOk1 Tryd.prog W p g := by
  unfold Sh.lib at hp
  split at hp
  · rename_i hb
    obtain rfl := Nat.eq_of_beq_eq_true hb
    cases hp
    exact AM.itoaPrim_ok (fun args w => AM.enter_code (by kernel_rfl) args w) (gi := 0) (by kernel_rfl) (Sh.pow h) (fun n h0 h1 w ht => Tryd.strconv_Itoa n h0 h1 w ht)
  · split at hp
    · rename_i hb
      obtain rfl := Nat.eq_of_beq_eq_true hb
      cases hp
      exact AM.joinPrim_ok (fun args w => AM.enter_code (by kernel_rfl) args w) Tryd.strings_Join_none Tryd.strings_Join
    · cases hp

theorem Sh.mixed : Tryd.prog.follows .mixedOrders = true := by kernel_rfl
theorem Sh.names : Tryd.prog.funcs.toList.all (fun f => f.name != "runtime.NumGoroutine") = true := by kernel_rfl
theorem Sh.own : ownKnob Tryd.prog.godebug = none := by kernel_rfl

/-- The first look that each law of the package takes: once for all. -/
theorem Sh.begun : AM.saysTrue (AM.runS (AM.withPrims Sh.prims0 (Sf.tab fun _ _ => none)) 4000 9 [] ⟨.nil, 0⟩) = true := by kernel_rfl
noncomputable def Sh.prims (g : Nat) : Option AM.Prim :=
  match Nat.beq g 9 with
  | true => some AM.yesPrim
  | false => Sh.lib g
theorem Sh.prims_ok {W : World} (h : laidMetH Tryd.prog Sh.laid W) (g : Nat) (p : AM.Prim) (hp : Sh.prims g = some p) : AM.CallOk1 Tryd.prog W p g := by
  unfold Sh.prims at hp
  split at hp
  · rename_i hb
    obtain rfl := Nat.eq_of_beq_eq_true hb
    cases hp
    obtain ⟨m, hm⟩ := AM.run_true (Sf.tab_ok _ _) Sh.begun
    exact AM.yesPrim_ok Sh.mixed Sh.names (AM.noInp W) (fun g p hp => Sh.prims0_ok h g p hp) hm
  · exact Sh.lib_ok h g p hp

/-- A law that the abstract machine calls true. -/
theorem Sh.lawOf {W : World} (h : laidMetH Tryd.prog Sh.laid W) {g : Nat} {args : List AM.AVal} {argsC : Array Value} (hargs : AM.VRels (fun _ => none) args argsC.toList) (hg : Sh.prims g = none) {I : AM.Inp} (hI : AM.InpOk W I)
    (hrun : ∃ m, AM.saysTrue (AM.callF Tryd.prog I (AM.genF Tryd.prog Sh.prims) m g args ⟨.nil, 0⟩) = true) : Calls Tryd.prog g argsC W (fun e w' => e = .returned (.bool true) ∧ Below W.heap.size W w') := by
  obtain ⟨m, hm⟩ := hrun
  exact AM.law_closed Sh.mixed Sh.names W (fun g p hp => Sh.prims_ok h g p hp) hargs hg hI hm
/-- A run by the table of labels. -/
noncomputable def Sh.runs (n g : Nat) (args : List AM.AVal) : Bool := AM.saysTrue (AM.runS (AM.withPrims Sh.prims (Sf.tab fun _ _ => none)) n g args ⟨.nil, 0⟩)
theorem Sh.law {W : World} (h : laidMetH Tryd.prog Sh.laid W) {n g : Nat} {args : List AM.AVal} {argsC : Array Value} (hargs : AM.VRels (fun _ => none) args argsC.toList) (hg : Sh.prims g = none)
    (hrun : Sh.runs n g args = true) : Calls Tryd.prog g argsC W (fun e w' => e = .returned (.bool true) ∧ Below W.heap.size W w') :=
  Sh.lawOf h hargs hg (AM.noInp W) (AM.run_true (Sf.tab_ok _ _) hrun)
end Go.Proofs.YtblblpmkdmociaaDoor
