/- 'begun', that each law of the package calls first, says yes: it stands by that contract. Conditions: none. -/
import Derived.Test.YtaekibfknmanhaaSfT
namespace Go.Proofs.Ytaekibfknmanhaa.HB
theorem mixed : Try.prog.follows .mixedOrders = true := by kernel_rfl
theorem names : Try.prog.funcs.toList.all (fun f => f.name != "runtime.NumGoroutine") = true := by kernel_rfl
theorem begun : AM.saysTrue (AM.runS (AM.withPrims (fun _ => none) (Sf.tab fun _ _ => none)) 4000 7 [] ⟨.nil, 0⟩) = true := by kernel_rfl
noncomputable def prims (g : Nat) : Option AM.Prim :=
  match Nat.beq g 7 with
  | true => some AM.yesPrim
  | false => none
theorem prims_ok {W : World} (g : Nat) (p : AM.Prim) (hp : prims g = some p) : AM.CallOk1 Try.prog W p g := by
  unfold prims at hp
  split at hp
  · rename_i hb
    obtain rfl := Nat.eq_of_beq_eq_true hb
    cases hp
    obtain ⟨m, hm⟩ := AM.run_true (Sf.tab_ok _ _) begun
    exact AM.yesPrim_ok mixed names (AM.noInp W) (fun g p h => by cases h) hm
  · cases hp
end Go.Proofs.Ytaekibfknmanhaa.HB
