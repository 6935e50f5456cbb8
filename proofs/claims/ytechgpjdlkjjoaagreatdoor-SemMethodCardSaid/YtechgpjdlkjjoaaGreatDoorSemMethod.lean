/- The law 'SemMethod' returns true, whatever the input; what it reads is as it was. Conditions: none. -/
import Derived.Test.YtechgpjdlkjjoaaGreatDoorCards
import Derived.Test.YtechgpjdlkjjoaaGreatDoorTie
import Derived.Test.YtechgpjdlkjjoaaGreatDoorSh
import Derived.SevenTiedAt
import Derived.WalkKit
import Derived.ProofKit
import Derived.OpenShut
namespace Go.Proofs.YtechgpjdlkjjoaaGreatDoor.semMethod
open Go.ChangeShapes Go.WideShapes Go.ChangeAt Go.RowKit
set_option linter.unusedVariables false      -- a walk need not use every 'w<i>' (that an integer argument fits its kind)


/-- What the law runs on; 'n': a count of rounds. -/
noncomputable abbrev T (n : Nat) : AM.CallFn := AM.runS (AM.withPrims Sh.prims (Sf.tab fun _ _ => none)) n
theorem cut1 (n : Nat) (k : Int) (x : AM.AVal) : Sh.runs (n + 2) 6 [.int .i64 k, x] = AM.saysTrue (AM.bnd (T (n + 1) 16 [] ⟨.nil, 0⟩) fun v11 h1 => AM.bndP (AM.pUn .not v11) fun v13 =>
    AM.sCond v13 (Sf.f6.b0 (fun _ _ => none) (T (n + 1)) (Sf.f6.J (fun _ _ => none) (T (n + 1)) n) (.int .i64 k) x h1) (some (.bool false, h1))) := by kernel_rfl
theorem rem_rem (k : Int) : (k.tmod 3).tmod 3 = k.tmod 3 := by
  rcases k with n | n
  · show Int.ofNat (n % 3 % 3) = Int.ofNat (n % 3); rw [Nat.mod_mod]
  · show Int.tmod (-Int.ofNat ((n + 1) % 3)) 3 = -Int.ofNat ((n + 1) % 3)
    rw [Int.neg_tmod]; show -Int.ofNat ((n + 1) % 3 % 3) = _; rw [Nat.mod_mod]
theorem rem_bound (k : Int) : -3 < k.tmod 3 ∧ k.tmod 3 < 3 := by
  rcases k with n | n
  · show -3 < Int.ofNat (n % 3) ∧ Int.ofNat (n % 3) < 3
    have := Nat.mod_lt n (show 0 < 3 by omega)
    simp only [Int.ofNat_eq_natCast]; omega
  · show -3 < -Int.ofNat ((n + 1) % 3) ∧ -Int.ofNat ((n + 1) % 3) < 3
    have := Nat.mod_lt (n + 1) (show 0 < 3 by omega)
    simp only [Int.ofNat_eq_natCast]; omega
theorem b0red (I : AM.Inp) (call : AM.CallFn) (j : Sf.f6.Js) (k : Int) (x : AM.AVal) (h : AM.AHeap) : Sf.f6.b0 I call j (.int .i64 k) x h = Sf.f6.b0 I call j (.int .i64 (k.tmod 3)) x h := by
  have e : AM.pBin .rem (.int .i64 k) (Sf.Z 3) = AM.pBin .rem (.int .i64 (k.tmod 3)) (Sf.Z 3) := by
    show some (AM.AVal.int .i64 (k.tmod 3)) = some (AM.AVal.int .i64 ((k.tmod 3).tmod 3))
    rw [rem_rem]
  unfold Sf.f6.b0
  rw [e]
theorem cut (n : Nat) (k : Int) (x : AM.AVal) : Sh.runs (n + 2) 6 [.int .i64 k, x] = Sh.runs (n + 2) 6 [.int .i64 (k.tmod 3), x] := by
  rw [cut1, cut1]
  refine congrArg AM.saysTrue (congrArg (AM.bnd _) ?_)
  funext v11 h1
  rw [b0red]
theorem c0 : Sh.runs (20000 + 2) 6 [.int .i64 (-2), .lin [1] 0] = true := by kernel_rfl
theorem c1 : Sh.runs (20000 + 2) 6 [.int .i64 (-1), .lin [1] 0] = true := by kernel_rfl
theorem c2 : Sh.runs (20000 + 2) 6 [.int .i64 0, .lin [1] 0] = true := by kernel_rfl
theorem c3 : Sh.runs (20000 + 2) 6 [.int .i64 1, .lin [1] 0] = true := by kernel_rfl
theorem c4 : Sh.runs (20000 + 2) 6 [.int .i64 2, .lin [1] 0] = true := by kernel_rfl

/-! ### the walk -/
theorem walk (a0 : Int) (a1 : Int) (w0 : (Lit.int .i64 a0).wf = true) (w1 : (Lit.int .i64 a1).wf = true) (w : World) (hL : laidMetH Tryz.prog Sh.laid w) :
    Calls Tryz.prog 6 #[.int .i64 a0, .int .i64 a1] w fun e w' => e = .returned (.bool true) ∧ Below w.heap.size w w' := by
  letI : AM.Sig := ⟨fun _ => a1, fun _ => (0, 0)⟩
  refine Sh.law hL (n := 20000 + 2) (args := [.int .i64 a0, .lin [1] 0]) (.cons (.int _ _) (.cons (AM.lin_rel w1 (by show (1 : Int) * a1 + 0 = a1; omega) _) .nil)) (by kernel_rfl) ?_
  rw [cut]
  have hb := rem_bound a0
  have hc : a0.tmod 3 = -2 ∨ a0.tmod 3 = -1 ∨ a0.tmod 3 = 0 ∨ a0.tmod 3 = 1 ∨ a0.tmod 3 = 2 := by omega
  rcases hc with e | e | e | e | e <;> rw [e]
  · exact c0
  · exact c1
  · exact c2
  · exact c3
  · exact c4

/-! ### the row's step -/
set_option maxRecDepth 100000 in
theorem lifted (os : Os) (started : os.Started) (H : Type) (enc : TypeId × Value → H) :
    ReturnsInHanded {} Tryz.checked os 6 .any (fun w args => (Rows.semMethodSpec.pre enc Tryz.prog Tryz.f6 [] false w args ∧ laidMetH Tryz.prog Sh.laid w) ∧ sizedMet enc Tryz.prog Tryz.f6 (OpenSpec.ofChange Rows.semMethodSpec) false w args) (Rows.semMethodSpec.post enc Tryz.prog Tryz.f6 false true false false) := by
  refine returnsInHanded_of_change_and (C := Tryz.checked) (X := fun w _ => laidMetH Tryz.prog Sh.laid w) (fun _ _ _ hh h => h.of_heap hh) Sh.own started (by kernel_rfl) Tryz.func6
    (ChangeSpec.witness_at (enc := enc) (C := Tryz.checked) (os := os) (X := fun w _ => laidMetH Tryz.prog Sh.laid w) false (Sh.world os) #[.int .i64 0, .int .i64 0] 8 rfl (by kernel_rfl) (by kernel_rfl) (by kernel_rfl) (by kernel_rfl) (by kernel_rfl) (Sh.world_met os _)) ?_
  intro W base args ds gs before hval0 hW _ _ hL _
  have hval : ∀ (j : Nat) t v, Tryz.f6.params[j]? = some t → args[j]? = some v → Value.okWide Tryz.prog W .any base t v := hval0
  have hW' := hW
  obtain ⟨p, q, hA0, hV, rfl, hfz, hnd⟩ := hW
  have hA : DataW.TrodAll enc Tryz.prog W 0 (fun _ => true) true Tryz.f6.params.toList args.toList ds p := hA0
  rw [Tryz.params6] at hA hval
  obtain ⟨v0, vs0, d0, ds0, p0, q0, hargs, rfl, rfl, h0, r0⟩ := trodAll_cons hA
  obtain ⟨v1, vs1, d1, ds1, p1, q1, rfl, rfl, rfl, h1, r1⟩ := trodAll_cons r0
  obtain ⟨rfl, rfl, rfl⟩ := trodAll_nil r1
  obtain rfl : args = #[v0, v1] := by cases args; simp_all
  obtain ⟨rfl, rfl⟩ := trodVars_none hV
  obtain ⟨a0, rfl, rfl, rfl, w0⟩ := open_int Tryz.underlying3 (hval 0 3 v0 rfl rfl) h0
  obtain ⟨a1, rfl, rfl, rfl, w1⟩ := open_int Tryz.underlying3 (hval 1 3 v1 rfl rfl) h1
  clear hA0 hval0
  simp only [List.append_nil] at hW'
  refine (walk a0 a1 w0 w1 W hL).mono fun e W' ⟨he, hg⟩ => ?_
  subst he
  exact ⟨_, rfl, AM.post_below (pa := []) (pv := []) hW' (fun _ _ _ => (trodAll_cons_mk (shut_bool Tryz.underlying4 _) trodAll_mk0)) (fun sp _ => (trodAll_cons_mk (shut_int Tryz.underlying3 w0) (trodAll_cons_mk (shut_int Tryz.underlying3 w1) trodAll_mk0))) (fun _ _ => rfl) rfl
    hg (ok_one (by kernel_rfl) rfl (okWide_bool_mk Tryz.underlying4 _))⟩

theorem over : Rows.semMethodRow.holds Tryz.pinned (OpenSpec.ofChange Rows.semMethodSpec) :=
  OpenClaim.holds_of_wide 6 Tryz.f6 rfl rfl rfl rfl rfl rfl rfl ⟨rfl, rfl, rfl, rfl, rfl⟩ rfl rfl rfl rfl rfl (by kernel_rfl) Tryz.func6 (by kernel_rfl)
    (of_decide_eq_true (by kernel_rfl)) (by unfold Func.isWrapper; first | (rw [if_pos (by decide +kernel)]; kernel_rfl) | (rw [if_neg (by decide +kernel)]; exact ⟨rfl, rfl⟩))
    (fun os started H enc _ => lifted os started H enc)

theorem plain (f : FuncId) (fn : Func) (hf : Tryz.pinned.checked.prog.funcNamed "haruspex/haruspexlaw14.SemMethod" = some f) (hfn : Tryz.pinned.checked.prog.funcs[f]? = some fn) :
    true = Tryz.pinned.checked.prog.looks [] ∧ ∀ (j : Nat) t, fn.params[j]? = some t → Tryz.pinned.checked.prog.wantsStandIn t = false := by
  obtain rfl : f = 6 := Option.some.inj ((show Tryz.prog.funcNamed "haruspex/haruspexlaw14.SemMethod" = some 6 by kernel_rfl).symm.trans hf) |>.symm
  obtain rfl : fn = Tryz.f6 := (Option.some.inj (Tryz.func6.symm.trans hfn)).symm
  refine ⟨by kernel_rfl, fun j t ht => ?_⟩
  have hall : (Tryz.f6.params.toList.all fun u => !Tryz.prog.wantsStandIn u) = true := by kernel_rfl
  exact (show Tryz.prog.wantsStandIn t = false by simpa using List.all_eq_true.1 hall t (Array.mem_toList_iff.2 (Array.mem_of_getElem? ht)))

theorem proved : Rows.SemMethodCardSaid :=
  Claim7.holds_tied_plain_at .later [] _ _ _ _ over (fun _ h => by cases h) (by kernel_rfl) (fun _ h => by cases h) semMethod_row_tie rfl ⟨rfl, rfl⟩ (by kernel_rfl) rfl plain (by kernel_rfl)
#print axioms proved
end Go.Proofs.YtechgpjdlkjjoaaGreatDoor.semMethod
