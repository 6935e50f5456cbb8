/- The law 'SemLoop' returns true, whatever the input; what it reads is as it was. Conditions: none. -/
import Derived.Test.YtechgpjdlkjjoaaGreatDoorCards
import Derived.Test.YtechgpjdlkjjoaaGreatDoorTie
import Derived.Test.YtechgpjdlkjjoaaGreatDoorSh
import Derived.Test.YtechgpjdlkjjoaaGreatDoorSemLoopP0
import Derived.Test.YtechgpjdlkjjoaaGreatDoorSemLoopP1
import Derived.Test.YtechgpjdlkjjoaaGreatDoorSemLoopP2
import Derived.Test.YtechgpjdlkjjoaaGreatDoorSemLoopP3
import Derived.Test.YtechgpjdlkjjoaaGreatDoorSemLoopP4
import Derived.Test.YtechgpjdlkjjoaaGreatDoorSemLoopP5
import Derived.SevenTiedAt
import Derived.WalkKit
import Derived.ProofKit
import Derived.OpenShut
namespace Go.Proofs.YtechgpjdlkjjoaaGreatDoor.semLoop
open Go.ChangeShapes Go.WideShapes Go.ChangeAt Go.RowKit
set_option linter.unusedVariables false      -- a walk need not use every 'w<i>' (that an integer argument fits its kind)


theorem big (m : Nat) : Sh.runs 4000 4 [.int .i64 (.ofNat (m + 101))] = true := by kernel_rfl
theorem neg (m : Nat) : Sh.runs 4000 4 [.int .i64 (.negSucc m)] = true := by kernel_rfl
theorem all : ∀ n : Nat, Sh.runs 4000 4 [.int .i64 (.ofNat n)] = true
  | 0 => SL.c0
  | 1 => SL.c1
  | 2 => SL.c2
  | 3 => SL.c3
  | 4 => SL.c4
  | 5 => SL.c5
  | 6 => SL.c6
  | 7 => SL.c7
  | 8 => SL.c8
  | 9 => SL.c9
  | 10 => SL.c10
  | 11 => SL.c11
  | 12 => SL.c12
  | 13 => SL.c13
  | 14 => SL.c14
  | 15 => SL.c15
  | 16 => SL.c16
  | 17 => SL.c17
  | 18 => SL.c18
  | 19 => SL.c19
  | 20 => SL.c20
  | 21 => SL.c21
  | 22 => SL.c22
  | 23 => SL.c23
  | 24 => SL.c24
  | 25 => SL.c25
  | 26 => SL.c26
  | 27 => SL.c27
  | 28 => SL.c28
  | 29 => SL.c29
  | 30 => SL.c30
  | 31 => SL.c31
  | 32 => SL.c32
  | 33 => SL.c33
  | 34 => SL.c34
  | 35 => SL.c35
  | 36 => SL.c36
  | 37 => SL.c37
  | 38 => SL.c38
  | 39 => SL.c39
  | 40 => SL.c40
  | 41 => SL.c41
  | 42 => SL.c42
  | 43 => SL.c43
  | 44 => SL.c44
  | 45 => SL.c45
  | 46 => SL.c46
  | 47 => SL.c47
  | 48 => SL.c48
  | 49 => SL.c49
  | 50 => SL.c50
  | 51 => SL.c51
  | 52 => SL.c52
  | 53 => SL.c53
  | 54 => SL.c54
  | 55 => SL.c55
  | 56 => SL.c56
  | 57 => SL.c57
  | 58 => SL.c58
  | 59 => SL.c59
  | 60 => SL.c60
  | 61 => SL.c61
  | 62 => SL.c62
  | 63 => SL.c63
  | 64 => SL.c64
  | 65 => SL.c65
  | 66 => SL.c66
  | 67 => SL.c67
  | 68 => SL.c68
  | 69 => SL.c69
  | 70 => SL.c70
  | 71 => SL.c71
  | 72 => SL.c72
  | 73 => SL.c73
  | 74 => SL.c74
  | 75 => SL.c75
  | 76 => SL.c76
  | 77 => SL.c77
  | 78 => SL.c78
  | 79 => SL.c79
  | 80 => SL.c80
  | 81 => SL.c81
  | 82 => SL.c82
  | 83 => SL.c83
  | 84 => SL.c84
  | 85 => SL.c85
  | 86 => SL.c86
  | 87 => SL.c87
  | 88 => SL.c88
  | 89 => SL.c89
  | 90 => SL.c90
  | 91 => SL.c91
  | 92 => SL.c92
  | 93 => SL.c93
  | 94 => SL.c94
  | 95 => SL.c95
  | 96 => SL.c96
  | 97 => SL.c97
  | 98 => SL.c98
  | 99 => SL.c99
  | 100 => SL.c100
  | n + 101 => big n

/-! ### the walk -/
theorem walk (a0 : Int) (w0 : (Lit.int .i64 a0).wf = true) (w : World) (hL : laidMetH Tryz.prog Sh.laid w) :
    Calls Tryz.prog 4 #[.int .i64 a0] w fun e w' => e = .returned (.bool true) ∧ Below w.heap.size w w' := by
  refine Sh.law hL (n := 4000) (.cons (.int _ _) .nil) (by kernel_rfl) ?_
  rcases a0 with n | n
  · exact all n
  · exact neg n

/-! ### the row's step -/
set_option maxRecDepth 100000 in
theorem lifted (os : Os) (started : os.Started) (H : Type) (enc : TypeId × Value → H) :
    ReturnsInHanded {} Tryz.checked os 4 .any (fun w args => (Rows.semLoopSpec.pre enc Tryz.prog Tryz.f4 [] false w args ∧ laidMetH Tryz.prog Sh.laid w) ∧ sizedMet enc Tryz.prog Tryz.f4 (OpenSpec.ofChange Rows.semLoopSpec) false w args) (Rows.semLoopSpec.post enc Tryz.prog Tryz.f4 false true false false) := by
  refine returnsInHanded_of_change_and (C := Tryz.checked) (X := fun w _ => laidMetH Tryz.prog Sh.laid w) (fun _ _ _ hh h => h.of_heap hh) Sh.own started (by kernel_rfl) Tryz.func4
    (ChangeSpec.witness_at (enc := enc) (C := Tryz.checked) (os := os) (X := fun w _ => laidMetH Tryz.prog Sh.laid w) false (Sh.world os) #[.int .i64 0] 8 rfl (by kernel_rfl) (by kernel_rfl) (by kernel_rfl) (by kernel_rfl) (by kernel_rfl) (Sh.world_met os _)) ?_
  intro W base args ds gs before hval0 hW _ _ hL _
  have hval : ∀ (j : Nat) t v, Tryz.f4.params[j]? = some t → args[j]? = some v → Value.okWide Tryz.prog W .any base t v := hval0
  have hW' := hW
  obtain ⟨p, q, hA0, hV, rfl, hfz, hnd⟩ := hW
  have hA : DataW.TrodAll enc Tryz.prog W 0 (fun _ => true) true Tryz.f4.params.toList args.toList ds p := hA0
  rw [Tryz.params4] at hA hval
  obtain ⟨v0, vs0, d0, ds0, p0, q0, hargs, rfl, rfl, h0, r0⟩ := trodAll_cons hA
  obtain ⟨rfl, rfl, rfl⟩ := trodAll_nil r0
  obtain rfl : args = #[v0] := by cases args; simp_all
  obtain ⟨rfl, rfl⟩ := trodVars_none hV
  obtain ⟨a0, rfl, rfl, rfl, w0⟩ := open_int Tryz.underlying3 (hval 0 3 v0 rfl rfl) h0
  clear hA0 hval0
  simp only [List.append_nil] at hW'
  refine (walk a0 w0 W hL).mono fun e W' ⟨he, hg⟩ => ?_
  subst he
  exact ⟨_, rfl, AM.post_below (pa := []) (pv := []) hW' (fun _ _ _ => (trodAll_cons_mk (shut_bool Tryz.underlying4 _) trodAll_mk0)) (fun sp _ => (trodAll_cons_mk (shut_int Tryz.underlying3 w0) trodAll_mk0)) (fun _ _ => rfl) rfl
    hg (ok_one (by kernel_rfl) rfl (okWide_bool_mk Tryz.underlying4 _))⟩

theorem over : Rows.semLoopRow.holds Tryz.pinned (OpenSpec.ofChange Rows.semLoopSpec) :=
  OpenClaim.holds_of_wide 4 Tryz.f4 rfl rfl rfl rfl rfl rfl rfl ⟨rfl, rfl, rfl, rfl, rfl⟩ rfl rfl rfl rfl rfl (by kernel_rfl) Tryz.func4 (by kernel_rfl)
    (of_decide_eq_true (by kernel_rfl)) (by unfold Func.isWrapper; first | (rw [if_pos (by decide +kernel)]; kernel_rfl) | (rw [if_neg (by decide +kernel)]; exact ⟨rfl, rfl⟩))
    (fun os started H enc _ => lifted os started H enc)

theorem plain (f : FuncId) (fn : Func) (hf : Tryz.pinned.checked.prog.funcNamed "haruspex/haruspexlaw14.SemLoop" = some f) (hfn : Tryz.pinned.checked.prog.funcs[f]? = some fn) :
    true = Tryz.pinned.checked.prog.looks [] ∧ ∀ (j : Nat) t, fn.params[j]? = some t → Tryz.pinned.checked.prog.wantsStandIn t = false := by
  obtain rfl : f = 4 := Option.some.inj ((show Tryz.prog.funcNamed "haruspex/haruspexlaw14.SemLoop" = some 4 by kernel_rfl).symm.trans hf) |>.symm
  obtain rfl : fn = Tryz.f4 := (Option.some.inj (Tryz.func4.symm.trans hfn)).symm
  refine ⟨by kernel_rfl, fun j t ht => ?_⟩
  have hall : (Tryz.f4.params.toList.all fun u => !Tryz.prog.wantsStandIn u) = true := by kernel_rfl
  exact (show Tryz.prog.wantsStandIn t = false by simpa using List.all_eq_true.1 hall t (Array.mem_toList_iff.2 (Array.mem_of_getElem? ht)))

theorem proved : Rows.SemLoopCardSaid :=
  Claim7.holds_tied_plain_at .later [] _ _ _ _ over (fun _ h => by cases h) (by kernel_rfl) (fun _ h => by cases h) semLoop_row_tie rfl ⟨rfl, rfl⟩ (by kernel_rfl) rfl plain (by kernel_rfl)
#print axioms proved
end Go.Proofs.YtechgpjdlkjjoaaGreatDoor.semLoop
