/- The law 'TopBranch' returns true, whatever the input; what it reads is as it was. Conditions: none. -/
import Derived.Test.YtdlceoefjoljnaaGreatDoorCards
import Derived.Test.YtdlceoefjoljnaaGreatDoorTie
import Derived.Test.YtdlceoefjoljnaaGreatDoorSh
import Derived.Test.YtdlceoefjoljnaaGreatDoorJfA
import Derived.Test.YtdlceoefjoljnaaGreatDoorJfB
import Derived.Test.YtdlceoefjoljnaaGreatDoorTopBranchJ0
import Derived.Test.YtdlceoefjoljnaaGreatDoorTopBranchJ1
import Derived.Test.YtdlceoefjoljnaaGreatDoorTopBranchJ2
import Derived.Test.YtdlceoefjoljnaaGreatDoorTopBranchJ3
import Derived.Test.YtdlceoefjoljnaaGreatDoorTopBranchP0
import Derived.Test.YtdlceoefjoljnaaGreatDoorTopBranchP1
import Derived.Test.YtdlceoefjoljnaaGreatDoorTopBranchP2
import Derived.Test.YtdlceoefjoljnaaGreatDoorTopBranchP3
import Derived.Test.YtdlceoefjoljnaaGreatDoorTopBranchP4
import Derived.SevenTiedAt
import Derived.WalkKit
import Derived.ProofKit
import Derived.OpenShut
namespace Go.Proofs.YtdlceoefjoljnaaGreatDoor.topBranch
open Go.ChangeShapes Go.WideShapes Go.ChangeAt Go.RowKit
set_option linter.unusedVariables false      -- a walk need not use every 'w<i>' (that an integer argument fits its kind)


theorem wrap_wf {n : Int} (h : (Lit.int .i64 n).wf = true) : IntKind.i64.wrap n = n := by
  simp [Lit.wf, IntKind.min, IntKind.max, IntKind.bits, IntKind.signed] at h
  exact AM.wrap_in ⟨by omega, by omega⟩
theorem lin_rel [AM.Sig] {cs : List Int} {n : Int} (hw : (Lit.int .i64 n).wf = true) (h : AM.dotFrom cs 0 = n) (ι : AM.Map) : AM.VRel ι (.lin cs 0) (.int .i64 n) := by
  have := AM.VRel.lin (ι := ι) cs 0
  rw [h, Int.zero_add, wrap_wf hw] at this
  exact this
/-! ### the walk -/
theorem walk (a0 : Int) (a1 : Int) (w0 : (Lit.int .i64 a0).wf = true) (w1 : (Lit.int .i64 a1).wf = true) (w : World) (hL : laidMetH Tryz.prog Sh.laid w) :
    Calls Tryz.prog 3 #[.int .i64 a0, .int .i64 a1] w fun e w' => e = .returned (.bool true) ∧ Below w.heap.size w w' := by
  letI : AM.Sig := ⟨fun i => if i = 0 then a0 else 0, fun _ => (0, 0)⟩
  have d0 : AM.dotFrom [1] 0 = a0 := by show ((1 * a0 + 0 : Int)) = a0; omega
  have u0 : AM.VRel (fun _ => none) (.lin [1] 0) (.int .i64 a0) := lin_rel w0 d0 _
  have q0 : IntKind.i64.wrap (AM.dotFrom [1] 0) = a0 := by rw [d0]; exact wrap_wf w0
  obtain ⟨m0, l0, s0⟩ := Sh.small_lt a0 3 (by decide) (by decide)
  match m0, l0, s0 with
  | 0, _, s0 =>
    · rcases a1 with (_ | n) | n
      · exact Sh.law hL (fun e he => by simp only [List.mem_cons, List.not_mem_nil, or_false] at he; rcases he with rfl <;> exact ⟨by decide, by first | (rw [q0]; exact s0)⟩) (.cons u0 (.cons (.int _ _) (.nil))) (by kernel_rfl) r0_z0
      · exact Sh.law hL (fun e he => by simp only [List.mem_cons, List.not_mem_nil, or_false] at he; rcases he with rfl <;> exact ⟨by decide, by first | (rw [q0]; exact s0)⟩) (.cons u0 (.cons (.int _ _) (.nil))) (by kernel_rfl) (r0_zp n)
      · exact Sh.law hL (fun e he => by simp only [List.mem_cons, List.not_mem_nil, or_false] at he; rcases he with rfl <;> exact ⟨by decide, by first | (rw [q0]; exact s0)⟩) (.cons u0 (.cons (.int _ _) (.nil))) (by kernel_rfl) (r0_zn n)
  | 1, _, s0 =>
    · rcases a1 with (_ | n) | n
      · exact Sh.law hL (fun e he => by simp only [List.mem_cons, List.not_mem_nil, or_false] at he; rcases he with rfl <;> exact ⟨by decide, by first | (rw [q0]; exact s0)⟩) (.cons u0 (.cons (.int _ _) (.nil))) (by kernel_rfl) r1_z0
      · exact Sh.law hL (fun e he => by simp only [List.mem_cons, List.not_mem_nil, or_false] at he; rcases he with rfl <;> exact ⟨by decide, by first | (rw [q0]; exact s0)⟩) (.cons u0 (.cons (.int _ _) (.nil))) (by kernel_rfl) (r1_zp n)
      · exact Sh.law hL (fun e he => by simp only [List.mem_cons, List.not_mem_nil, or_false] at he; rcases he with rfl <;> exact ⟨by decide, by first | (rw [q0]; exact s0)⟩) (.cons u0 (.cons (.int _ _) (.nil))) (by kernel_rfl) (r1_zn n)
  | 2, _, s0 =>
    · rcases a1 with (_ | n) | n
      · exact Sh.law hL (fun e he => by simp only [List.mem_cons, List.not_mem_nil, or_false] at he; rcases he with rfl <;> exact ⟨by decide, by first | (rw [q0]; exact s0)⟩) (.cons u0 (.cons (.int _ _) (.nil))) (by kernel_rfl) r2_z0
      · exact Sh.law hL (fun e he => by simp only [List.mem_cons, List.not_mem_nil, or_false] at he; rcases he with rfl <;> exact ⟨by decide, by first | (rw [q0]; exact s0)⟩) (.cons u0 (.cons (.int _ _) (.nil))) (by kernel_rfl) (r2_zp n)
      · exact Sh.law hL (fun e he => by simp only [List.mem_cons, List.not_mem_nil, or_false] at he; rcases he with rfl <;> exact ⟨by decide, by first | (rw [q0]; exact s0)⟩) (.cons u0 (.cons (.int _ _) (.nil))) (by kernel_rfl) (r2_zn n)
  | m0 + 3, l0, _ => exact absurd l0 (by omega)

/-! ### the row's step -/
set_option maxRecDepth 100000 in
theorem lifted (os : Os) (started : os.Started) (H : Type) (enc : TypeId × Value → H) :
    ReturnsInHanded {} Tryz.checked os 3 .any (fun w args => (Rows.topBranchSpec.pre enc Tryz.prog Tryz.f3 [] false w args ∧ laidMetH Tryz.prog Sh.laid w) ∧ sizedMet enc Tryz.prog Tryz.f3 (OpenSpec.ofChange Rows.topBranchSpec) false w args) (Rows.topBranchSpec.post enc Tryz.prog Tryz.f3 false true false false) := by
  refine returnsInHanded_of_change_and (C := Tryz.checked) (X := fun w _ => laidMetH Tryz.prog Sh.laid w) (fun _ _ _ hh h => h.of_heap hh) Sh.own started (by kernel_rfl) Tryz.func3
    (ChangeSpec.witness_at (enc := enc) (C := Tryz.checked) (os := os) (X := fun w _ => laidMetH Tryz.prog Sh.laid w) false (Sh.world os) #[.int .i64 0, .int .i64 0] 8 rfl (by kernel_rfl) (by kernel_rfl) (by kernel_rfl) (by kernel_rfl) (by kernel_rfl) (Sh.world_met os _)) ?_
  intro W base args ds gs before hval0 hW _ _ hL _
  have hval : ∀ (j : Nat) t v, Tryz.f3.params[j]? = some t → args[j]? = some v → Value.okWide Tryz.prog W .any base t v := hval0
  have hW' := hW
  obtain ⟨p, q, hA0, hV, rfl, hfz, hnd⟩ := hW
  have hA : DataW.TrodAll enc Tryz.prog W 0 (fun _ => true) true Tryz.f3.params.toList args.toList ds p := hA0
  rw [Tryz.params3] at hA hval
  obtain ⟨v0, vs0, d0, ds0, p0, q0, hargs, rfl, rfl, h0, r0⟩ := trodAll_cons hA
  obtain ⟨v1, vs1, d1, ds1, p1, q1, rfl, rfl, rfl, h1, r1⟩ := trodAll_cons r0
  obtain ⟨rfl, rfl, rfl⟩ := trodAll_nil r1
  obtain rfl : args = #[v0, v1] := by cases args; simp_all
  obtain ⟨rfl, rfl⟩ := trodVars_none hV
  obtain ⟨a0, rfl, rfl, rfl, w0⟩ := open_int Tryz.underlying3 (hval 0 3 v0 rfl rfl) h0
  obtain ⟨a1, rfl, rfl, rfl, w1⟩ := open_int Tryz.underlying2 (hval 1 2 v1 rfl rfl) h1
  clear hA0 hval0
  simp only [List.append_nil] at hW'
  refine (walk a0 a1 w0 w1 W hL).mono fun e W' ⟨he, hg⟩ => ?_
  subst he
  exact ⟨_, rfl, AM.post_below (pa := []) (pv := []) hW' (fun _ _ _ => (trodAll_cons_mk (shut_bool Tryz.underlying4 _) trodAll_mk0)) (fun sp _ => (trodAll_cons_mk (shut_int Tryz.underlying3 w0) (trodAll_cons_mk (shut_int Tryz.underlying2 w1) trodAll_mk0))) (fun _ _ => rfl) rfl
    hg (ok_one (by kernel_rfl) rfl (okWide_bool_mk Tryz.underlying4 _))⟩

theorem and_i {a b : Bool} (h : a = true) (k : b = true) : (a && b) = true := by rw [h, k]; rfl
theorem closed : joinedFacts Tryz.prog 3 Tryz.f3 Rows.topBranchSpec Rows.topBranchRow = true := by
  unfold joinedFacts
  exact and_i (and_i (and_i (and_i (and_i (and_i (and_i (and_i (and_i (and_i (and_i (and_i (and_i (and_i (and_i (and_i (and_i (and_i (and_i (and_i (and_i (and_i (and_i (and_i (and_i (and_i (and_i (and_i (and_i (and_i (and_i ((by kernel_rfl)) Jf.laidOut) Jf.mapsRowed) (by kernel_rfl)) (by kernel_rfl)) (by kernel_rfl)) (by kernel_rfl)) (by kernel_rfl)) (by kernel_rfl)) j10) j11) j12) j13) (by kernel_rfl)) (by kernel_rfl)) (by kernel_rfl)) (by kernel_rfl)) (by kernel_rfl)) (by kernel_rfl)) (by kernel_rfl)) (by kernel_rfl)) (by kernel_rfl)) (by kernel_rfl)) (by kernel_rfl)) Jf.stopsHeard) Jf.mayEnter) (show (Rows.topBranchRow.lifted == Tryz.prog.liftsFinal) = true from Jf.lifted)) (by kernel_rfl)) (by kernel_rfl)) (by kernel_rfl)) (by kernel_rfl)) (by kernel_rfl)

theorem over : Rows.topBranchRow.holds Tryz.pinned (OpenSpec.ofChange Rows.topBranchSpec) :=
  OpenClaim.holds_of_wide 3 Tryz.f3 rfl rfl rfl rfl rfl rfl rfl ⟨rfl, rfl, rfl, rfl, rfl⟩ rfl rfl rfl rfl rfl jn Tryz.func3 closed
    (of_decide_eq_true (by kernel_rfl)) (by unfold Func.isWrapper; first | (rw [if_pos (by decide +kernel)]; kernel_rfl) | (rw [if_neg (by decide +kernel)]; exact ⟨rfl, rfl⟩))
    (fun os started H enc _ => lifted os started H enc)

theorem plain (f : FuncId) (fn : Func) (hf : Tryz.pinned.checked.prog.funcNamed "haruspex/haruspextop.TopBranch" = some f) (hfn : Tryz.pinned.checked.prog.funcs[f]? = some fn) :
    true = Tryz.pinned.checked.prog.looks [] ∧ ∀ (j : Nat) t, fn.params[j]? = some t → Tryz.pinned.checked.prog.wantsStandIn t = false := by
  obtain rfl : f = 3 := Option.some.inj ((show Tryz.prog.funcNamed "haruspex/haruspextop.TopBranch" = some 3 from jn).symm.trans hf) |>.symm
  obtain rfl : fn = Tryz.f3 := (Option.some.inj (Tryz.func3.symm.trans hfn)).symm
  refine ⟨Jf.looks, fun j t ht => ?_⟩
  have hall : (Tryz.f3.params.toList.all fun u => !Tryz.prog.wantsStandIn u) = true := by kernel_rfl
  exact (show Tryz.prog.wantsStandIn t = false by simpa using List.all_eq_true.1 hall t (Array.mem_toList_iff.2 (Array.mem_of_getElem? ht)))

theorem proved : Rows.TopBranchCardSaid :=
  Claim7.holds_tied_plain_at .later [] _ _ _ _ over (fun _ h => by cases h) (by kernel_rfl) (fun _ h => by cases h) topBranch_row_tie rfl ⟨rfl, rfl⟩ Jf.main rfl plain jg
#print axioms proved
end Go.Proofs.YtdlceoefjoljnaaGreatDoor.topBranch
