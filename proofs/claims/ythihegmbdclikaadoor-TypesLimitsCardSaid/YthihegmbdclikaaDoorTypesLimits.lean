/- The law 'TypesLimits' returns true, whatever the input; what it reads is as it was. Conditions: none. -/
import Derived.Test.YthihegmbdclikaaDoorCards
import Derived.Test.YthihegmbdclikaaDoorTie
import Derived.Test.YthihegmbdclikaaDoorSh
import Derived.SevenTiedAt
import Derived.WalkKit
import Derived.ProofKit
import Derived.OpenShut
namespace Go.Proofs.YthihegmbdclikaaDoor.typesLimits
open Go.ChangeShapes Go.WideShapes Go.ChangeAt Go.RowKit
set_option linter.unusedVariables false      -- a walk need not use every 'w<i>' (that an integer argument fits its kind)


/-- One of the limits, for each number. -/
noncomputable def each (w : Nat) : Bool := (List.range 41).all fun n => Sh.runs 4000 4 [.int .i64 (.ofNat w), .int .i64 (.ofNat n)]
theorem each0 : each 0 = true := by kernel_rfl
theorem each1 : each 1 = true := by kernel_rfl
theorem each2 : each 2 = true := by kernel_rfl
theorem each3 : each 3 = true := by kernel_rfl
theorem each4 : each 4 = true := by kernel_rfl
theorem each5 : each 5 = true := by kernel_rfl
theorem each6 : each 6 = true := by kernel_rfl
theorem each7 : each 7 = true := by kernel_rfl
theorem each8 : each 8 = true := by kernel_rfl
theorem each9 : each 9 = true := by kernel_rfl
theorem eachAll : ∀ w, w < 10 → each w = true := fun w hw => by
  rcases w with _ | _ | _ | _ | _ | _ | _ | _ | _ | _ | w
  · exact each0
  · exact each1
  · exact each2
  · exact each3
  · exact each4
  · exact each5
  · exact each6
  · exact each7
  · exact each8
  · exact each9
  · omega
theorem bigN (m : Nat) : ((List.range 10).all fun w => Sh.runs 4000 4 [.int .i64 (.ofNat w), .int .i64 (.ofNat (m + 41))]) = true := by kernel_rfl
theorem negN (m : Nat) : ((List.range 10).all fun w => Sh.runs 4000 4 [.int .i64 (.ofNat w), .int .i64 (.negSucc m)]) = true := by kernel_rfl
theorem bigW (m : Nat) (n : Int) : Sh.runs 4000 4 [.int .i64 (.ofNat (m + 10)), .int .i64 n] = true := by kernel_rfl
theorem negW (m : Nat) (n : Int) : Sh.runs 4000 4 [.int .i64 (.negSucc m), .int .i64 n] = true := by kernel_rfl

/-! ### the walk -/
theorem walk (a0 : Int) (a1 : Int) (w0 : (Lit.int .i64 a0).wf = true) (w1 : (Lit.int .i64 a1).wf = true) (w : World) (hL : laidMetH Tryd.prog Sh.laid w) :
    Calls Tryd.prog 4 #[.int .i64 a0, .int .i64 a1] w fun e w' => e = .returned (.bool true) ∧ Below w.heap.size w w' := by
  have hx : ∀ (x y : Int), AM.VRels (fun _ => none) [.int .i64 x, .int .i64 y] (#[.int .i64 x, .int .i64 y] : Array Value).toList := fun x y => .cons (.int _ _) (.cons (.int _ _) .nil)
  rcases a0 with w | k
  · by_cases hw : w < 10
    · rcases a1 with n | k
      · by_cases hn : n < 41
        · exact Sh.law hL (hx _ _) (by kernel_rfl) (List.all_eq_true.1 (eachAll w hw) n (List.mem_range.2 hn))
        · obtain ⟨m, rfl⟩ : ∃ m, n = m + 41 := ⟨n - 41, by omega⟩
          exact Sh.law hL (hx _ _) (by kernel_rfl) (List.all_eq_true.1 (bigN m) w (List.mem_range.2 hw))
      · exact Sh.law hL (hx _ _) (by kernel_rfl) (List.all_eq_true.1 (negN k) w (List.mem_range.2 hw))
    · obtain ⟨m, rfl⟩ : ∃ m, w = m + 10 := ⟨w - 10, by omega⟩
      exact Sh.law hL (hx _ _) (by kernel_rfl) (bigW m _)
  · exact Sh.law hL (hx _ _) (by kernel_rfl) (negW k _)

/-! ### the row's step -/
set_option maxRecDepth 100000 in
theorem lifted (os : Os) (started : os.Started) (H : Type) (enc : TypeId × Value → H) :
    ReturnsInHanded {} Tryd.checked os 4 .any (fun w args => (Rows.typesLimitsSpec.pre enc Tryd.prog Tryd.f4 [] false w args ∧ laidMetH Tryd.prog Sh.laid w) ∧ sizedMet enc Tryd.prog Tryd.f4 (OpenSpec.ofChange Rows.typesLimitsSpec) false w args) (Rows.typesLimitsSpec.post enc Tryd.prog Tryd.f4 false true false false) := by
  refine returnsInHanded_of_change_and (C := Tryd.checked) (X := fun w _ => laidMetH Tryd.prog Sh.laid w) (fun _ _ _ hh h => h.of_heap hh) Sh.own started (by kernel_rfl) Tryd.func4
    (ChangeSpec.witness_at (enc := enc) (C := Tryd.checked) (os := os) (X := fun w _ => laidMetH Tryd.prog Sh.laid w) false (Sh.world os) #[.int .i64 0, .int .i64 0] 8 rfl (by kernel_rfl) (by kernel_rfl) (by kernel_rfl) (by kernel_rfl) (by kernel_rfl) (Sh.world_met os _)) ?_
  intro W base args ds gs before hval0 hW _ _ hL _
  have hval : ∀ (j : Nat) t v, Tryd.f4.params[j]? = some t → args[j]? = some v → Value.okWide Tryd.prog W .any base t v := hval0
  have hW' := hW
  obtain ⟨p, q, hA0, hV, rfl, hfz, hnd⟩ := hW
  have hA : DataW.TrodAll enc Tryd.prog W 0 (fun _ => true) true Tryd.f4.params.toList args.toList ds p := hA0
  rw [Tryd.params4] at hA hval
  obtain ⟨v0, vs0, d0, ds0, p0, q0, hargs, rfl, rfl, h0, r0⟩ := trodAll_cons hA
  obtain ⟨v1, vs1, d1, ds1, p1, q1, rfl, rfl, rfl, h1, r1⟩ := trodAll_cons r0
  obtain ⟨rfl, rfl, rfl⟩ := trodAll_nil r1
  obtain rfl : args = #[v0, v1] := by cases args; simp_all
  obtain ⟨rfl, rfl⟩ := trodVars_none hV
  obtain ⟨a0, rfl, rfl, rfl, w0⟩ := open_int Tryd.underlying3 (hval 0 3 v0 rfl rfl) h0
  obtain ⟨a1, rfl, rfl, rfl, w1⟩ := open_int Tryd.underlying3 (hval 1 3 v1 rfl rfl) h1
  clear hA0 hval0
  simp only [List.append_nil] at hW'
  refine (walk a0 a1 w0 w1 W hL).mono fun e W' ⟨he, hg⟩ => ?_
  subst he
  exact ⟨_, rfl, AM.post_below (pa := []) (pv := []) hW' (fun _ _ _ => (trodAll_cons_mk (shut_bool Tryd.underlying4 _) trodAll_mk0)) (fun sp _ => (trodAll_cons_mk (shut_int Tryd.underlying3 w0) (trodAll_cons_mk (shut_int Tryd.underlying3 w1) trodAll_mk0))) (fun _ _ => rfl) rfl
    hg (ok_one (by kernel_rfl) rfl (okWide_bool_mk Tryd.underlying4 _))⟩

theorem over : Rows.typesLimitsRow.holds Tryd.pinned (OpenSpec.ofChange Rows.typesLimitsSpec) :=
  OpenClaim.holds_of_wide 4 Tryd.f4 rfl rfl rfl rfl rfl rfl rfl ⟨rfl, rfl, rfl, rfl, rfl⟩ rfl rfl rfl rfl rfl (by kernel_rfl) Tryd.func4 (by kernel_rfl)
    (of_decide_eq_true (by kernel_rfl)) (by unfold Func.isWrapper; first | (rw [if_pos (by decide +kernel)]; kernel_rfl) | (rw [if_neg (by decide +kernel)]; exact ⟨rfl, rfl⟩))
    (fun os started H enc _ => lifted os started H enc)

theorem plain (f : FuncId) (fn : Func) (hf : Tryd.pinned.checked.prog.funcNamed "haruspex/haruspexlaw10.TypesLimits" = some f) (hfn : Tryd.pinned.checked.prog.funcs[f]? = some fn) :
    true = Tryd.pinned.checked.prog.looks [] ∧ ∀ (j : Nat) t, fn.params[j]? = some t → Tryd.pinned.checked.prog.wantsStandIn t = false := by
  obtain rfl : f = 4 := Option.some.inj ((show Tryd.prog.funcNamed "haruspex/haruspexlaw10.TypesLimits" = some 4 by kernel_rfl).symm.trans hf) |>.symm
  obtain rfl : fn = Tryd.f4 := (Option.some.inj (Tryd.func4.symm.trans hfn)).symm
  refine ⟨by kernel_rfl, fun j t ht => ?_⟩
  have hall : (Tryd.f4.params.toList.all fun u => !Tryd.prog.wantsStandIn u) = true := by kernel_rfl
  exact (show Tryd.prog.wantsStandIn t = false by simpa using List.all_eq_true.1 hall t (Array.mem_toList_iff.2 (Array.mem_of_getElem? ht)))

theorem proved : Rows.TypesLimitsCardSaid :=
  Claim7.holds_tied_plain_at .later [] _ _ _ _ over (fun _ h => by cases h) (by kernel_rfl) (fun _ h => by cases h) typesLimits_row_tie rfl ⟨rfl, rfl⟩ (by kernel_rfl) rfl plain (by kernel_rfl)
#print axioms proved
end Go.Proofs.YthihegmbdclikaaDoor.typesLimits
