/- What the laws of this seat share: errors.As by its contract; what the listed variable holds; a law that the abstract machine calls true is true. -/
import Derived.Test.YtncjcnipagdmlaaDoorRows
import Derived.Test.YtncjcnipagdmlaaDoorAs
import Derived.Test.YtncjcnipagdmlaaDoorAmZ
import Derived.Test.YtncjcnipagdmlaaDoorSfT
import Derived.LaidLaws
import Derived.LaidHandle
import Derived.Stop.Joined
namespace Go.Proofs.YtncjcnipagdmlaaDoor
open Go.ChangeShapes Go.WideShapes Go.RowKit
set_option linter.unusedSectionVars false
variable [AM.Sig]

theorem Sh.et : Tryd.prog.globalNamed "errors.errorType" = some 0 := by kernel_rfl
theorem Sh.rt : (Tryd.prog.cutTypes.find? (·.1 == "internal/reflectlite.rtype")).map (·.2) = some 119 := by kernel_rfl
theorem Sh.oneRow : ((List.range 162).filter fun t => Tryd.prog.rowNamed t [101, 114, 114, 111, 114]) = [28] := by kernel_rfl
theorem Sh.size : Tryd.prog.types.size = 162 := by kernel_rfl
theorem Sh.hh : typeHandle Tryd.prog 28 = .pointer (some ⟨1, 28, none⟩) := by kernel_rfl

def Sh.laid {H : Type} : List (String × DataW H) := [("errors.errorType", Rows.laid_errors_errorType)]

/-- What the condition gives a walk: the variable's one cell. -/
theorem Sh.handle {W : World} (h : laidMetH Tryd.prog Sh.laid W) : W.cell? ⟨0, 0, none⟩ = some (.iface 119 (.agg #[.pointer (some ⟨1, 28, none⟩)])) := by
  have h' : laidMet Tryd.prog [] W ∧ handlesMet Tryd.prog [("errors.errorType", Rows.laid_errors_errorType)] W := h
  obtain ⟨name, u, ty, e1, e2, e3, e4, e5⟩ := h'.2 _ (List.mem_singleton.2 rfl)
  have en : name = [101, 114, 114, 111, 114] := (Option.some.inj e1).symm
  subst en
  obtain rfl := Option.some.inj (Sh.rt.symm.trans e2)
  have hm : ty ∈ (List.range 162).filter fun t => Tryd.prog.rowNamed t [101, 114, 114, 111, 114] := List.mem_filter.2 ⟨List.mem_range.2 (by rw [← Sh.size]; exact e3), e4⟩
  rw [Sh.oneRow] at hm
  obtain rfl := List.mem_singleton.1 hm
  rw [Sh.hh] at e5
  simpa using World.var?_cell Sh.et e5 0

/-- The numbers of a table. -/
def Sh.vals : DataW Unit → Array Value
  | .agg l => (l.filterMap fun | .lit (.int k n) => some (.int k n) | _ => none).toArray
  | _ => #[]
/-- A world that meets the condition: the settled one, the variables' cells laid. -/
noncomputable def Sh.world (os : Os) : World :=
  let w0 := World.holding Tryd.prog os ⟨#[], #[], []⟩
  { w0 with heap := (w0.heap.modify 0 fun
      | .cells _ t frozen => .cells #[.iface 119 (.agg #[.pointer (some ⟨1, 28, none⟩)])] t frozen
      | o => o) }
theorem Sh.world_met (os : Os) (args : Array Value) : laidMetH Tryd.prog Sh.laid ((Sh.world os).forCall (fun _ _ => 0) ⟨#[], args, []⟩).memory :=
  laidMetH_of_parts (laidMet_nil _ _) (by kernel_rfl)

/-- The functions that a contract stands in for. -/
noncomputable def Sh.prims0 (g : Nat) : Option AM.Prim :=
  match Nat.beq g 38 with
  | true => some (AM.asPrim 69 97)
  | false => none

theorem Sh.prims0_ok {W : World} (h : laidMetH Tryd.prog Sh.laid W) (g : Nat) (p : AM.Prim) (hp : Sh.prims0 g = some p) : AM.CallOk1 Tryd.prog W p g := by
  unfold Sh.prims0 at hp
  split at hp
  · rename_i hb
    obtain rfl := Nat.eq_of_beq_eq_true hb
    cases hp
    have hc := Sh.handle h
    exact AM.asPrim_ok (fun args w => AM.enter_code (by kernel_rfl) args w) as_nil (fun e t old w hg ht hf => (as_hit e t old w hg ht hf).mono fun ev w' ⟨he, hw⟩ => ⟨he, _, _, _, _, hw⟩)
      (ga := ⟨0, 0, none⟩) (by
        rcases Nat.eq_zero_or_pos W.heap.size with h0 | h0
        · simp [World.cell?, h0] at hc
        · exact h0) hc
  · cases hp

theorem Sh.mixed : Tryd.prog.follows .mixedOrders = true := by kernel_rfl
theorem Sh.names : Tryd.prog.funcs.toList.all (fun f => f.name != "runtime.NumGoroutine") = true := by kernel_rfl
theorem Sh.own : ownKnob Tryd.prog.godebug = none := by kernel_rfl

/-- The first look that each law of the package takes: once for all. -/
theorem Sh.begun : AM.saysTrue (AM.runS (AM.withPrims Sh.prims0 (Sf.tab fun _ _ => none)) 4000 10 [] ⟨.nil, 0⟩) = true := by kernel_rfl
noncomputable def Sh.prims (g : Nat) : Option AM.Prim :=
  match Nat.beq g 10 with
  | true => some AM.yesPrim
  | false => Sh.prims0 g
theorem Sh.prims_ok {W : World} (h : laidMetH Tryd.prog Sh.laid W) (g : Nat) (p : AM.Prim) (hp : Sh.prims g = some p) : AM.CallOk1 Tryd.prog W p g := by
  unfold Sh.prims at hp
  split at hp
  · rename_i hb
    obtain rfl := Nat.eq_of_beq_eq_true hb
    cases hp
    obtain ⟨m, hm⟩ := AM.run_true (Sf.tab_ok _ _) Sh.begun
    exact AM.yesPrim_ok Sh.mixed Sh.names (AM.noInp W) (fun g p hp => Sh.prims0_ok h g p hp) hm
  · exact Sh.prims0_ok h g p hp

/-- A law that the abstract machine calls true. -/
theorem Sh.lawOf {W : World} (h : laidMetH Tryd.prog Sh.laid W) {g : Nat} {args : List AM.AVal} {argsC : Array Value} (hargs : AM.VRels (fun _ => none) args argsC.toList) (hg : Sh.prims g = none) {I : AM.Inp} (hI : AM.InpOk W I)
    (hrun : ∃ m, AM.saysTrue (AM.callF Tryd.prog I (AM.genF Tryd.prog Sh.prims) m g args ⟨.nil, 0⟩) = true) : Calls Tryd.prog g argsC W (fun e w' => e = .returned (.bool true) ∧ Below W.heap.size W w') := by
  obtain ⟨m, hm⟩ := hrun
  exact AM.law_closed Sh.mixed Sh.names W (fun g p hp => Sh.prims_ok h g p hp) hargs hg hI hm
/-- A run by the table of labels. -/
noncomputable def Sh.runs (n g : Nat) (args : List AM.AVal) : Bool := AM.saysTrue (AM.runS (AM.withPrims Sh.prims (Sf.tab fun _ _ => none)) n g args ⟨.nil, 0⟩)
theorem Sh.law {W : World} (h : laidMetH Tryd.prog Sh.laid W) {n g : Nat} {args : List AM.AVal} {argsC : Array Value} (hargs : AM.VRels (fun _ => none) args argsC.toList) (hg : Sh.prims g = none)
    (hrun : Sh.runs n g args = true) : Calls Tryd.prog g argsC W (fun e w' => e = .returned (.bool true) ∧ Below W.heap.size W w') :=
  Sh.lawOf h hargs hg (AM.noInp W) (AM.run_true (Sf.tab_ok _ _) hrun)
end Go.Proofs.YtncjcnipagdmlaaDoor
