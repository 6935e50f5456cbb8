/- 'begun', that each law of the package calls first, says yes: it stands by that contract. Conditions: none. -/
import Derived.Test.YtaekibfknmanhaaSfT
namespace Go.Proofs.Ytaekibfknmanhaa
theorem Sh.mixed : Try.prog.follows .mixedOrders = true := by kernel_rfl
theorem Sh.names : Try.prog.funcs.toList.all (fun f => f.name != "runtime.NumGoroutine") = true := by kernel_rfl
theorem Sh.begun : AM.saysTrue (AM.runS (AM.withPrims (fun _ => none) (Sf.tab fun _ _ => none)) 4000 7 [] ⟨.nil, 0⟩) = true := by kernel_rfl
noncomputable def Sh.prims (g : Nat) : Option AM.Prim :=
  match Nat.beq g 7 with
  | true => some AM.yesPrim
  | false => none
theorem Sh.prims_ok {W : World} (g : Nat) (p : AM.Prim) (hp : Sh.prims g = some p) : AM.CallOk1 Try.prog W p g := by
  unfold Sh.prims at hp
  split at hp
  · rename_i hb
    obtain rfl := Nat.eq_of_beq_eq_true hb
    cases hp
    obtain ⟨m, hm⟩ := AM.run_true (Sf.tab_ok _ _) Sh.begun
    exact AM.yesPrim_ok Sh.mixed Sh.names (AM.noInp W) (fun g p h => by cases h) hm
  · cases hp
end Go.Proofs.Ytaekibfknmanhaa
