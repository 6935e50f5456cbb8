/- The law 'SemWrong' returns true, whatever the input; what it reads is as it was. Conditions: none. -/
import Derived.Test.YtechgpjdlkjjoaaGreatDoorCards
import Derived.Test.YtechgpjdlkjjoaaGreatDoorTie
import Derived.Test.YtechgpjdlkjjoaaGreatDoorSh
import Derived.SevenTiedAt
import Derived.WalkKit
import Derived.ProofKit
import Derived.OpenShut
namespace Go.Proofs.YtechgpjdlkjjoaaGreatDoor.semWrong
open Go.ChangeShapes Go.WideShapes Go.ChangeAt Go.RowKit
set_option linter.unusedVariables false      -- a walk need not use every 'w<i>' (that an integer argument fits its kind)


/-- What the law runs on; 'n': a count of rounds. -/
noncomputable abbrev T (n : Nat) : AM.CallFn := AM.runS (AM.withPrims Sh.prims (Sf.tab fun _ _ => none)) n
theorem cut1 (n : Nat) (k : Int) : Sh.runs (n + 2) 7 [.int .i64 k] = AM.saysTrue (AM.bnd (T (n + 1) 16 [] ⟨.nil, 0⟩) fun v11 h1 => AM.bndP (AM.pUn .not v11) fun v13 =>
    AM.sCond v13 (Sf.f7.b0 (fun _ _ => none) (T (n + 1)) (Sf.f7.J (fun _ _ => none) (T (n + 1)) n) (.int .i64 k) h1) (some (.bool false, h1))) := by kernel_rfl
theorem rem_rem (k : Int) : (k.tmod 5).tmod 5 = k.tmod 5 := by
  rcases k with n | n
  · show Int.ofNat (n % 5 % 5) = Int.ofNat (n % 5); rw [Nat.mod_mod]
  · show Int.tmod (-Int.ofNat ((n + 1) % 5)) 5 = -Int.ofNat ((n + 1) % 5)
    rw [Int.neg_tmod]; show -Int.ofNat ((n + 1) % 5 % 5) = _; rw [Nat.mod_mod]
theorem rem_bound (k : Int) : -5 < k.tmod 5 ∧ k.tmod 5 < 5 := by
  rcases k with n | n
  · show -5 < Int.ofNat (n % 5) ∧ Int.ofNat (n % 5) < 5
    have := Nat.mod_lt n (show 0 < 5 by omega)
    simp only [Int.ofNat_eq_natCast]; omega
  · show -5 < -Int.ofNat ((n + 1) % 5) ∧ -Int.ofNat ((n + 1) % 5) < 5
    have := Nat.mod_lt (n + 1) (show 0 < 5 by omega)
    simp only [Int.ofNat_eq_natCast]; omega
theorem b0red (I : AM.Inp) (call : AM.CallFn) (j : Sf.f7.Js) (k : Int) (h : AM.AHeap) : Sf.f7.b0 I call j (.int .i64 k) h = Sf.f7.b0 I call j (.int .i64 (k.tmod 5)) h := by
  have e : AM.pBin .rem (.int .i64 k) (Sf.Z 5) = AM.pBin .rem (.int .i64 (k.tmod 5)) (Sf.Z 5) := by
    show some (AM.AVal.int .i64 (k.tmod 5)) = some (AM.AVal.int .i64 ((k.tmod 5).tmod 5))
    rw [rem_rem]
  unfold Sf.f7.b0
  rw [e]
theorem cut (n : Nat) (k : Int) : Sh.runs (n + 2) 7 [.int .i64 k] = Sh.runs (n + 2) 7 [.int .i64 (k.tmod 5)] := by
  rw [cut1, cut1]
  refine congrArg AM.saysTrue (congrArg (AM.bnd _) ?_)
  funext v11 h1
  rw [b0red]
theorem c0 : Sh.runs (4000 + 2) 7 [.int .i64 (-4)] = true := by kernel_rfl
theorem c1 : Sh.runs (4000 + 2) 7 [.int .i64 (-3)] = true := by kernel_rfl
theorem c2 : Sh.runs (4000 + 2) 7 [.int .i64 (-2)] = true := by kernel_rfl
theorem c3 : Sh.runs (4000 + 2) 7 [.int .i64 (-1)] = true := by kernel_rfl
theorem c4 : Sh.runs (4000 + 2) 7 [.int .i64 0] = true := by kernel_rfl
theorem c5 : Sh.runs (4000 + 2) 7 [.int .i64 1] = true := by kernel_rfl
theorem c6 : Sh.runs (4000 + 2) 7 [.int .i64 2] = true := by kernel_rfl
theorem c7 : Sh.runs (4000 + 2) 7 [.int .i64 3] = true := by kernel_rfl
theorem c8 : Sh.runs (4000 + 2) 7 [.int .i64 4] = true := by kernel_rfl

/-! ### the walk -/
theorem walk (a0 : Int) (w0 : (Lit.int .i64 a0).wf = true) (w : World) (hL : laidMetH Tryz.prog Sh.laid w) :
    Calls Tryz.prog 7 #[.int .i64 a0] w fun e w' => e = .returned (.bool true) ∧ Below w.heap.size w w' := by
  refine Sh.law hL (n := 4000 + 2) (.cons (.int _ _) .nil) (by kernel_rfl) ?_
  rw [cut]
  have hb := rem_bound a0
  have hc : a0.tmod 5 = -4 ∨ a0.tmod 5 = -3 ∨ a0.tmod 5 = -2 ∨ a0.tmod 5 = -1 ∨ a0.tmod 5 = 0 ∨ a0.tmod 5 = 1 ∨ a0.tmod 5 = 2 ∨ a0.tmod 5 = 3 ∨ a0.tmod 5 = 4 := by omega
  rcases hc with e | e | e | e | e | e | e | e | e <;> rw [e]
  · exact c0
  · exact c1
  · exact c2
  · exact c3
  · exact c4
  · exact c5
  · exact c6
  · exact c7
  · exact c8

/-! ### the row's step -/
set_option maxRecDepth 100000 in
theorem lifted (os : Os) (started : os.Started) (H : Type) (enc : TypeId × Value → H) :
    ReturnsInHanded {} Tryz.checked os 7 .any (fun w args => (Rows.semWrongSpec.pre enc Tryz.prog Tryz.f7 [] false w args ∧ laidMetH Tryz.prog Sh.laid w) ∧ sizedMet enc Tryz.prog Tryz.f7 (OpenSpec.ofChange Rows.semWrongSpec) false w args) (Rows.semWrongSpec.post enc Tryz.prog Tryz.f7 false true false false) := by
  refine returnsInHanded_of_change_and (C := Tryz.checked) (X := fun w _ => laidMetH Tryz.prog Sh.laid w) (fun _ _ _ hh h => h.of_heap hh) Sh.own started (by kernel_rfl) Tryz.func7
    (ChangeSpec.witness_at (enc := enc) (C := Tryz.checked) (os := os) (X := fun w _ => laidMetH Tryz.prog Sh.laid w) false (Sh.world os) #[.int .i64 0] 8 rfl (by kernel_rfl) (by kernel_rfl) (by kernel_rfl) (by kernel_rfl) (by kernel_rfl) (Sh.world_met os _)) ?_
  intro W base args ds gs before hval0 hW _ _ hL _
  have hval : ∀ (j : Nat) t v, Tryz.f7.params[j]? = some t → args[j]? = some v → Value.okWide Tryz.prog W .any base t v := hval0
  have hW' := hW
  obtain ⟨p, q, hA0, hV, rfl, hfz, hnd⟩ := hW
  have hA : DataW.TrodAll enc Tryz.prog W 0 (fun _ => true) true Tryz.f7.params.toList args.toList ds p := hA0
  rw [Tryz.params7] at hA hval
  obtain ⟨v0, vs0, d0, ds0, p0, q0, hargs, rfl, rfl, h0, r0⟩ := trodAll_cons hA
  obtain ⟨rfl, rfl, rfl⟩ := trodAll_nil r0
  obtain rfl : args = #[v0] := by cases args; simp_all
  obtain ⟨rfl, rfl⟩ := trodVars_none hV
  obtain ⟨a0, rfl, rfl, rfl, w0⟩ := open_int Tryz.underlying3 (hval 0 3 v0 rfl rfl) h0
  clear hA0 hval0
  simp only [List.append_nil] at hW'
  refine (walk a0 w0 W hL).mono fun e W' ⟨he, hg⟩ => ?_
  subst he
  exact ⟨_, rfl, AM.post_below (pa := []) (pv := []) hW' (fun _ _ _ => (trodAll_cons_mk (shut_bool Tryz.underlying4 _) trodAll_mk0)) (fun sp _ => (trodAll_cons_mk (shut_int Tryz.underlying3 w0) trodAll_mk0)) (fun _ _ => rfl) rfl
    hg (ok_one (by kernel_rfl) rfl (okWide_bool_mk Tryz.underlying4 _))⟩

theorem over : Rows.semWrongRow.holds Tryz.pinned (OpenSpec.ofChange Rows.semWrongSpec) :=
  OpenClaim.holds_of_wide 7 Tryz.f7 rfl rfl rfl rfl rfl rfl rfl ⟨rfl, rfl, rfl, rfl, rfl⟩ rfl rfl rfl rfl rfl (by kernel_rfl) Tryz.func7 (by kernel_rfl)
    (of_decide_eq_true (by kernel_rfl)) (by unfold Func.isWrapper; first | (rw [if_pos (by decide +kernel)]; kernel_rfl) | (rw [if_neg (by decide +kernel)]; exact ⟨rfl, rfl⟩))
    (fun os started H enc _ => lifted os started H enc)

theorem plain (f : FuncId) (fn : Func) (hf : Tryz.pinned.checked.prog.funcNamed "haruspex/haruspexlaw14.SemWrong" = some f) (hfn : Tryz.pinned.checked.prog.funcs[f]? = some fn) :
    true = Tryz.pinned.checked.prog.looks [] ∧ ∀ (j : Nat) t, fn.params[j]? = some t → Tryz.pinned.checked.prog.wantsStandIn t = false := by
  obtain rfl : f = 7 := Option.some.inj ((show Tryz.prog.funcNamed "haruspex/haruspexlaw14.SemWrong" = some 7 by kernel_rfl).symm.trans hf) |>.symm
  obtain rfl : fn = Tryz.f7 := (Option.some.inj (Tryz.func7.symm.trans hfn)).symm
  refine ⟨by kernel_rfl, fun j t ht => ?_⟩
  have hall : (Tryz.f7.params.toList.all fun u => !Tryz.prog.wantsStandIn u) = true := by kernel_rfl
  exact (show Tryz.prog.wantsStandIn t = false by simpa using List.all_eq_true.1 hall t (Array.mem_toList_iff.2 (Array.mem_of_getElem? ht)))

theorem proved : Rows.SemWrongCardSaid :=
  Claim7.holds_tied_plain_at .later [] _ _ _ _ over (fun _ h => by cases h) (by kernel_rfl) (fun _ h => by cases h) semWrong_row_tie rfl ⟨rfl, rfl⟩ (by kernel_rfl) rfl plain (by kernel_rfl)
#print axioms proved
end Go.Proofs.YtechgpjdlkjjoaaGreatDoor.semWrong
