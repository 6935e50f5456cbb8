/- The law 'TopSites' returns true, whatever the input; what it reads is as it was. Conditions: none. -/
import Derived.Test.YtdlceoefjoljnaaGreatDoorCards
import Derived.Test.YtdlceoefjoljnaaGreatDoorTie
import Derived.Test.YtdlceoefjoljnaaGreatDoorSh
import Derived.Test.YtdlceoefjoljnaaGreatDoorJfA
import Derived.Test.YtdlceoefjoljnaaGreatDoorJfB
import Derived.Test.YtdlceoefjoljnaaGreatDoorTopSitesJ0
import Derived.Test.YtdlceoefjoljnaaGreatDoorTopSitesJ1
import Derived.Test.YtdlceoefjoljnaaGreatDoorTopSitesJ2
import Derived.Test.YtdlceoefjoljnaaGreatDoorTopSitesJ3
import Derived.Test.YtdlceoefjoljnaaGreatDoorTopSitesP0
import Derived.Test.YtdlceoefjoljnaaGreatDoorTopSitesP1
import Derived.Test.YtdlceoefjoljnaaGreatDoorTopSitesP2
import Derived.Test.YtdlceoefjoljnaaGreatDoorTopSitesP3
import Derived.Test.YtdlceoefjoljnaaGreatDoorTopSitesP4
import Derived.Test.YtdlceoefjoljnaaGreatDoorTopSitesP5
import Derived.Test.YtdlceoefjoljnaaGreatDoorTopSitesP6
import Derived.Test.YtdlceoefjoljnaaGreatDoorTopSitesP7
import Derived.Test.YtdlceoefjoljnaaGreatDoorTopSitesP8
import Derived.SevenTiedAt
import Derived.WalkKit
import Derived.ProofKit
import Derived.OpenShut
namespace Go.Proofs.YtdlceoefjoljnaaGreatDoor.topSites
open Go.ChangeShapes Go.WideShapes Go.ChangeAt Go.RowKit
set_option linter.unusedVariables false      -- a walk need not use every 'w<i>' (that an integer argument fits its kind)


theorem wrap_wf {n : Int} (h : (Lit.int .i64 n).wf = true) : IntKind.i64.wrap n = n := by
  simp [Lit.wf, IntKind.min, IntKind.max, IntKind.bits, IntKind.signed] at h
  exact AM.wrap_in ⟨by omega, by omega⟩
theorem lin_rel [AM.Sig] {cs : List Int} {n : Int} (hw : (Lit.int .i64 n).wf = true) (h : AM.dotFrom cs 0 = n) (ι : AM.Map) : AM.VRel ι (.lin cs 0) (.int .i64 n) := by
  have := AM.VRel.lin (ι := ι) cs 0
  rw [h, Int.zero_add, wrap_wf hw] at this
  exact this
/-! ### the walk -/
theorem walk (a0 : Int) (a1 : Int) (w0 : (Lit.int .i64 a0).wf = true) (w1 : (Lit.int .i64 a1).wf = true) (w : World) (hL : laidMetH Tryz.prog Sh.laid w) :
    Calls Tryz.prog 15 #[.int .i64 a0, .int .i64 a1] w fun e w' => e = .returned (.bool true) ∧ Below w.heap.size w w' := by
  letI : AM.Sig := ⟨fun i => if i = 0 then a0 else if i = 1 then a1 else 0, fun _ => (0, 0)⟩
  have d0 : AM.dotFrom [1] 0 = a0 := by show ((1 * a0 + 0 : Int)) = a0; omega
  have u0 : AM.VRel (fun _ => none) (.lin [1] 0) (.int .i64 a0) := lin_rel w0 d0 _
  have q0 : IntKind.i64.wrap (AM.dotFrom [1] 0) = a0 := by rw [d0]; exact wrap_wf w0
  have d1 : AM.dotFrom [0, 1] 0 = a1 := by show ((0 * a0 + (1 * a1 + 0) : Int)) = a1; omega
  have u1 : AM.VRel (fun _ => none) (.lin [0, 1] 0) (.int .i64 a1) := lin_rel w1 d1 _
  have q1 : IntKind.i64.wrap (AM.dotFrom [0, 1] 0) = a1 := by rw [d1]; exact wrap_wf w1
  obtain ⟨m0, l0, s0⟩ := Sh.small_lt a0 6 (by decide) (by decide)
  match m0, l0, s0 with
  | 0, _, s0 =>
    · obtain ⟨m1, l1, s1⟩ := Sh.small_lt a1 2 (by decide) (by decide)
      match m1, l1, s1 with
      | 0, _, s1 =>
        · exact Sh.law hL (fun e he => by simp only [List.mem_cons, List.not_mem_nil, or_false] at he; rcases he with rfl | rfl <;> exact ⟨by decide, by first | (rw [q0]; exact s0) | (rw [q1]; exact s1)⟩) (.cons u0 (.cons u1 (.nil))) (by kernel_rfl) r0_0
      | 1, _, s1 =>
        · exact Sh.law hL (fun e he => by simp only [List.mem_cons, List.not_mem_nil, or_false] at he; rcases he with rfl | rfl <;> exact ⟨by decide, by first | (rw [q0]; exact s0) | (rw [q1]; exact s1)⟩) (.cons u0 (.cons u1 (.nil))) (by kernel_rfl) r0_1
      | m1 + 2, l1, _ => exact absurd l1 (by omega)
  | 1, _, s0 =>
    · obtain ⟨m1, l1, s1⟩ := Sh.small_lt a1 3 (by decide) (by decide)
      match m1, l1, s1 with
      | 0, _, s1 =>
        · exact Sh.law hL (fun e he => by simp only [List.mem_cons, List.not_mem_nil, or_false] at he; rcases he with rfl | rfl <;> exact ⟨by decide, by first | (rw [q0]; exact s0) | (rw [q1]; exact s1)⟩) (.cons u0 (.cons u1 (.nil))) (by kernel_rfl) r1_0
      | 1, _, s1 =>
        · exact Sh.law hL (fun e he => by simp only [List.mem_cons, List.not_mem_nil, or_false] at he; rcases he with rfl | rfl <;> exact ⟨by decide, by first | (rw [q0]; exact s0) | (rw [q1]; exact s1)⟩) (.cons u0 (.cons u1 (.nil))) (by kernel_rfl) r1_1
      | 2, _, s1 =>
        · exact Sh.law hL (fun e he => by simp only [List.mem_cons, List.not_mem_nil, or_false] at he; rcases he with rfl | rfl <;> exact ⟨by decide, by first | (rw [q0]; exact s0) | (rw [q1]; exact s1)⟩) (.cons u0 (.cons u1 (.nil))) (by kernel_rfl) r1_2
      | m1 + 3, l1, _ => exact absurd l1 (by omega)
  | 2, _, s0 =>
    · obtain ⟨m1, l1, s1⟩ := Sh.small_lt a1 4 (by decide) (by decide)
      match m1, l1, s1 with
      | 0, _, s1 =>
        · exact Sh.law hL (fun e he => by simp only [List.mem_cons, List.not_mem_nil, or_false] at he; rcases he with rfl | rfl <;> exact ⟨by decide, by first | (rw [q0]; exact s0) | (rw [q1]; exact s1)⟩) (.cons u0 (.cons u1 (.nil))) (by kernel_rfl) r2_0
      | 1, _, s1 =>
        · exact Sh.law hL (fun e he => by simp only [List.mem_cons, List.not_mem_nil, or_false] at he; rcases he with rfl | rfl <;> exact ⟨by decide, by first | (rw [q0]; exact s0) | (rw [q1]; exact s1)⟩) (.cons u0 (.cons u1 (.nil))) (by kernel_rfl) r2_1
      | 2, _, s1 =>
        · exact Sh.law hL (fun e he => by simp only [List.mem_cons, List.not_mem_nil, or_false] at he; rcases he with rfl | rfl <;> exact ⟨by decide, by first | (rw [q0]; exact s0) | (rw [q1]; exact s1)⟩) (.cons u0 (.cons u1 (.nil))) (by kernel_rfl) r2_2
      | 3, _, s1 =>
        · exact Sh.law hL (fun e he => by simp only [List.mem_cons, List.not_mem_nil, or_false] at he; rcases he with rfl | rfl <;> exact ⟨by decide, by first | (rw [q0]; exact s0) | (rw [q1]; exact s1)⟩) (.cons u0 (.cons u1 (.nil))) (by kernel_rfl) r2_3
      | m1 + 4, l1, _ => exact absurd l1 (by omega)
  | 3, _, s0 =>
    · obtain ⟨m1, l1, s1⟩ := Sh.small_lt a1 5 (by decide) (by decide)
      match m1, l1, s1 with
      | 0, _, s1 =>
        · exact Sh.law hL (fun e he => by simp only [List.mem_cons, List.not_mem_nil, or_false] at he; rcases he with rfl | rfl <;> exact ⟨by decide, by first | (rw [q0]; exact s0) | (rw [q1]; exact s1)⟩) (.cons u0 (.cons u1 (.nil))) (by kernel_rfl) r3_0
      | 1, _, s1 =>
        · exact Sh.law hL (fun e he => by simp only [List.mem_cons, List.not_mem_nil, or_false] at he; rcases he with rfl | rfl <;> exact ⟨by decide, by first | (rw [q0]; exact s0) | (rw [q1]; exact s1)⟩) (.cons u0 (.cons u1 (.nil))) (by kernel_rfl) r3_1
      | 2, _, s1 =>
        · exact Sh.law hL (fun e he => by simp only [List.mem_cons, List.not_mem_nil, or_false] at he; rcases he with rfl | rfl <;> exact ⟨by decide, by first | (rw [q0]; exact s0) | (rw [q1]; exact s1)⟩) (.cons u0 (.cons u1 (.nil))) (by kernel_rfl) r3_2
      | 3, _, s1 =>
        · exact Sh.law hL (fun e he => by simp only [List.mem_cons, List.not_mem_nil, or_false] at he; rcases he with rfl | rfl <;> exact ⟨by decide, by first | (rw [q0]; exact s0) | (rw [q1]; exact s1)⟩) (.cons u0 (.cons u1 (.nil))) (by kernel_rfl) r3_3
      | 4, _, s1 =>
        · exact Sh.law hL (fun e he => by simp only [List.mem_cons, List.not_mem_nil, or_false] at he; rcases he with rfl | rfl <;> exact ⟨by decide, by first | (rw [q0]; exact s0) | (rw [q1]; exact s1)⟩) (.cons u0 (.cons u1 (.nil))) (by kernel_rfl) r3_4
      | m1 + 5, l1, _ => exact absurd l1 (by omega)
  | 4, _, s0 =>
    · obtain ⟨m1, l1, s1⟩ := Sh.small_lt a1 6 (by decide) (by decide)
      match m1, l1, s1 with
      | 0, _, s1 =>
        · exact Sh.law hL (fun e he => by simp only [List.mem_cons, List.not_mem_nil, or_false] at he; rcases he with rfl | rfl <;> exact ⟨by decide, by first | (rw [q0]; exact s0) | (rw [q1]; exact s1)⟩) (.cons u0 (.cons u1 (.nil))) (by kernel_rfl) r4_0
      | 1, _, s1 =>
        · exact Sh.law hL (fun e he => by simp only [List.mem_cons, List.not_mem_nil, or_false] at he; rcases he with rfl | rfl <;> exact ⟨by decide, by first | (rw [q0]; exact s0) | (rw [q1]; exact s1)⟩) (.cons u0 (.cons u1 (.nil))) (by kernel_rfl) r4_1
      | 2, _, s1 =>
        · exact Sh.law hL (fun e he => by simp only [List.mem_cons, List.not_mem_nil, or_false] at he; rcases he with rfl | rfl <;> exact ⟨by decide, by first | (rw [q0]; exact s0) | (rw [q1]; exact s1)⟩) (.cons u0 (.cons u1 (.nil))) (by kernel_rfl) r4_2
      | 3, _, s1 =>
        · exact Sh.law hL (fun e he => by simp only [List.mem_cons, List.not_mem_nil, or_false] at he; rcases he with rfl | rfl <;> exact ⟨by decide, by first | (rw [q0]; exact s0) | (rw [q1]; exact s1)⟩) (.cons u0 (.cons u1 (.nil))) (by kernel_rfl) r4_3
      | 4, _, s1 =>
        · exact Sh.law hL (fun e he => by simp only [List.mem_cons, List.not_mem_nil, or_false] at he; rcases he with rfl | rfl <;> exact ⟨by decide, by first | (rw [q0]; exact s0) | (rw [q1]; exact s1)⟩) (.cons u0 (.cons u1 (.nil))) (by kernel_rfl) r4_4
      | 5, _, s1 =>
        · exact Sh.law hL (fun e he => by simp only [List.mem_cons, List.not_mem_nil, or_false] at he; rcases he with rfl | rfl <;> exact ⟨by decide, by first | (rw [q0]; exact s0) | (rw [q1]; exact s1)⟩) (.cons u0 (.cons u1 (.nil))) (by kernel_rfl) r4_5
      | m1 + 6, l1, _ => exact absurd l1 (by omega)
  | 5, _, s0 =>
    · obtain ⟨m1, l1, s1⟩ := Sh.small_lt a1 7 (by decide) (by decide)
      match m1, l1, s1 with
      | 0, _, s1 =>
        · exact Sh.law hL (fun e he => by simp only [List.mem_cons, List.not_mem_nil, or_false] at he; rcases he with rfl | rfl <;> exact ⟨by decide, by first | (rw [q0]; exact s0) | (rw [q1]; exact s1)⟩) (.cons u0 (.cons u1 (.nil))) (by kernel_rfl) r5_0
      | 1, _, s1 =>
        · exact Sh.law hL (fun e he => by simp only [List.mem_cons, List.not_mem_nil, or_false] at he; rcases he with rfl | rfl <;> exact ⟨by decide, by first | (rw [q0]; exact s0) | (rw [q1]; exact s1)⟩) (.cons u0 (.cons u1 (.nil))) (by kernel_rfl) r5_1
      | 2, _, s1 =>
        · exact Sh.law hL (fun e he => by simp only [List.mem_cons, List.not_mem_nil, or_false] at he; rcases he with rfl | rfl <;> exact ⟨by decide, by first | (rw [q0]; exact s0) | (rw [q1]; exact s1)⟩) (.cons u0 (.cons u1 (.nil))) (by kernel_rfl) r5_2
      | 3, _, s1 =>
        · exact Sh.law hL (fun e he => by simp only [List.mem_cons, List.not_mem_nil, or_false] at he; rcases he with rfl | rfl <;> exact ⟨by decide, by first | (rw [q0]; exact s0) | (rw [q1]; exact s1)⟩) (.cons u0 (.cons u1 (.nil))) (by kernel_rfl) r5_3
      | 4, _, s1 =>
        · exact Sh.law hL (fun e he => by simp only [List.mem_cons, List.not_mem_nil, or_false] at he; rcases he with rfl | rfl <;> exact ⟨by decide, by first | (rw [q0]; exact s0) | (rw [q1]; exact s1)⟩) (.cons u0 (.cons u1 (.nil))) (by kernel_rfl) r5_4
      | 5, _, s1 =>
        · exact Sh.law hL (fun e he => by simp only [List.mem_cons, List.not_mem_nil, or_false] at he; rcases he with rfl | rfl <;> exact ⟨by decide, by first | (rw [q0]; exact s0) | (rw [q1]; exact s1)⟩) (.cons u0 (.cons u1 (.nil))) (by kernel_rfl) r5_5
      | 6, _, s1 =>
        · exact Sh.law hL (fun e he => by simp only [List.mem_cons, List.not_mem_nil, or_false] at he; rcases he with rfl | rfl <;> exact ⟨by decide, by first | (rw [q0]; exact s0) | (rw [q1]; exact s1)⟩) (.cons u0 (.cons u1 (.nil))) (by kernel_rfl) r5_6
      | m1 + 7, l1, _ => exact absurd l1 (by omega)
  | m0 + 6, l0, _ => exact absurd l0 (by omega)

/-! ### the row's step -/
set_option maxRecDepth 100000 in
theorem lifted (os : Os) (started : os.Started) (H : Type) (enc : TypeId × Value → H) :
    ReturnsInHanded {} Tryz.checked os 15 .any (fun w args => (Rows.topSitesSpec.pre enc Tryz.prog Tryz.f15 [] false w args ∧ laidMetH Tryz.prog Sh.laid w) ∧ sizedMet enc Tryz.prog Tryz.f15 (OpenSpec.ofChange Rows.topSitesSpec) false w args) (Rows.topSitesSpec.post enc Tryz.prog Tryz.f15 false true false false) := by
  refine returnsInHanded_of_change_and (C := Tryz.checked) (X := fun w _ => laidMetH Tryz.prog Sh.laid w) (fun _ _ _ hh h => h.of_heap hh) Sh.own started (by kernel_rfl) Tryz.func15
    (ChangeSpec.witness_at (enc := enc) (C := Tryz.checked) (os := os) (X := fun w _ => laidMetH Tryz.prog Sh.laid w) false (Sh.world os) #[.int .i64 0, .int .i64 0] 8 rfl (by kernel_rfl) (by kernel_rfl) (by kernel_rfl) (by kernel_rfl) (by kernel_rfl) (Sh.world_met os _)) ?_
  intro W base args ds gs before hval0 hW _ _ hL _
  have hval : ∀ (j : Nat) t v, Tryz.f15.params[j]? = some t → args[j]? = some v → Value.okWide Tryz.prog W .any base t v := hval0
  have hW' := hW
  obtain ⟨p, q, hA0, hV, rfl, hfz, hnd⟩ := hW
  have hA : DataW.TrodAll enc Tryz.prog W 0 (fun _ => true) true Tryz.f15.params.toList args.toList ds p := hA0
  rw [Tryz.params15] at hA hval
  obtain ⟨v0, vs0, d0, ds0, p0, q0, hargs, rfl, rfl, h0, r0⟩ := trodAll_cons hA
  obtain ⟨v1, vs1, d1, ds1, p1, q1, rfl, rfl, rfl, h1, r1⟩ := trodAll_cons r0
  obtain ⟨rfl, rfl, rfl⟩ := trodAll_nil r1
  obtain rfl : args = #[v0, v1] := by cases args; simp_all
  obtain ⟨rfl, rfl⟩ := trodVars_none hV
  obtain ⟨a0, rfl, rfl, rfl, w0⟩ := open_int Tryz.underlying3 (hval 0 3 v0 rfl rfl) h0
  obtain ⟨a1, rfl, rfl, rfl, w1⟩ := open_int Tryz.underlying3 (hval 1 3 v1 rfl rfl) h1
  clear hA0 hval0
  simp only [List.append_nil] at hW'
  refine (walk a0 a1 w0 w1 W hL).mono fun e W' ⟨he, hg⟩ => ?_
  subst he
  exact ⟨_, rfl, AM.post_below (pa := []) (pv := []) hW' (fun _ _ _ => (trodAll_cons_mk (shut_bool Tryz.underlying4 _) trodAll_mk0)) (fun sp _ => (trodAll_cons_mk (shut_int Tryz.underlying3 w0) (trodAll_cons_mk (shut_int Tryz.underlying3 w1) trodAll_mk0))) (fun _ _ => rfl) rfl
    hg (ok_one (by kernel_rfl) rfl (okWide_bool_mk Tryz.underlying4 _))⟩

theorem and_i {a b : Bool} (h : a = true) (k : b = true) : (a && b) = true := by rw [h, k]; rfl
theorem closed : joinedFacts Tryz.prog 15 Tryz.f15 Rows.topSitesSpec Rows.topSitesRow = true := by
  unfold joinedFacts
  exact and_i (and_i (and_i (and_i (and_i (and_i (and_i (and_i (and_i (and_i (and_i (and_i (and_i (and_i (and_i (and_i (and_i (and_i (and_i (and_i (and_i (and_i (and_i (and_i (and_i (and_i (and_i (and_i (and_i (and_i (and_i ((by kernel_rfl)) Jf.laidOut) Jf.mapsRowed) (by kernel_rfl)) (by kernel_rfl)) (by kernel_rfl)) (by kernel_rfl)) (by kernel_rfl)) (by kernel_rfl)) j10) j11) j12) j13) (by kernel_rfl)) (by kernel_rfl)) (by kernel_rfl)) (by kernel_rfl)) (by kernel_rfl)) (by kernel_rfl)) (by kernel_rfl)) (by kernel_rfl)) (by kernel_rfl)) (by kernel_rfl)) (by kernel_rfl)) Jf.stopsHeard) Jf.mayEnter) (show (Rows.topSitesRow.lifted == Tryz.prog.liftsFinal) = true from Jf.lifted)) (by kernel_rfl)) (by kernel_rfl)) (by kernel_rfl)) (by kernel_rfl)) (by kernel_rfl)

theorem over : Rows.topSitesRow.holds Tryz.pinned (OpenSpec.ofChange Rows.topSitesSpec) :=
  OpenClaim.holds_of_wide 15 Tryz.f15 rfl rfl rfl rfl rfl rfl rfl ⟨rfl, rfl, rfl, rfl, rfl⟩ rfl rfl rfl rfl rfl jn Tryz.func15 closed
    (of_decide_eq_true (by kernel_rfl)) (by unfold Func.isWrapper; first | (rw [if_pos (by decide +kernel)]; kernel_rfl) | (rw [if_neg (by decide +kernel)]; exact ⟨rfl, rfl⟩))
    (fun os started H enc _ => lifted os started H enc)

theorem plain (f : FuncId) (fn : Func) (hf : Tryz.pinned.checked.prog.funcNamed "haruspex/haruspextop.TopSites" = some f) (hfn : Tryz.pinned.checked.prog.funcs[f]? = some fn) :
    true = Tryz.pinned.checked.prog.looks [] ∧ ∀ (j : Nat) t, fn.params[j]? = some t → Tryz.pinned.checked.prog.wantsStandIn t = false := by
  obtain rfl : f = 15 := Option.some.inj ((show Tryz.prog.funcNamed "haruspex/haruspextop.TopSites" = some 15 from jn).symm.trans hf) |>.symm
  obtain rfl : fn = Tryz.f15 := (Option.some.inj (Tryz.func15.symm.trans hfn)).symm
  refine ⟨Jf.looks, fun j t ht => ?_⟩
  have hall : (Tryz.f15.params.toList.all fun u => !Tryz.prog.wantsStandIn u) = true := by kernel_rfl
  exact (show Tryz.prog.wantsStandIn t = false by simpa using List.all_eq_true.1 hall t (Array.mem_toList_iff.2 (Array.mem_of_getElem? ht)))

theorem proved : Rows.TopSitesCardSaid :=
  Claim7.holds_tied_plain_at .later [] _ _ _ _ over (fun _ h => by cases h) (by kernel_rfl) (fun _ h => by cases h) topSites_row_tie rfl ⟨rfl, rfl⟩ Jf.main rfl plain jg
#print axioms proved
end Go.Proofs.YtdlceoefjoljnaaGreatDoor.topSites
