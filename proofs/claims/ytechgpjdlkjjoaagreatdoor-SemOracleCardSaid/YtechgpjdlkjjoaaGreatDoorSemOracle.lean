/- The law 'SemOracle' returns true, whatever the input; what it reads is as it was. Conditions: none. -/
import Derived.Test.YtechgpjdlkjjoaaGreatDoorCards
import Derived.Test.YtechgpjdlkjjoaaGreatDoorTie
import Derived.Test.YtechgpjdlkjjoaaGreatDoorSh
import Derived.Test.YtechgpjdlkjjoaaGreatDoorSemOracleP0
import Derived.Test.YtechgpjdlkjjoaaGreatDoorSemOracleP1
import Derived.Test.YtechgpjdlkjjoaaGreatDoorSemOracleP2
import Derived.Test.YtechgpjdlkjjoaaGreatDoorSemOracleP3
import Derived.Test.YtechgpjdlkjjoaaGreatDoorSemOracleP4
import Derived.Test.YtechgpjdlkjjoaaGreatDoorSemOracleP5
import Derived.Test.YtechgpjdlkjjoaaGreatDoorSemOracleP6
import Derived.SevenTiedAt
import Derived.WalkKit
import Derived.ProofKit
import Derived.OpenShut
import Derived.Deep.Slices
namespace Go.Proofs.YtechgpjdlkjjoaaGreatDoor.semOracle
open Go.ChangeShapes Go.WideShapes Go.ChangeAt Go.RowKit
set_option linter.unusedVariables false

theorem laid : laidOutB Tryz.prog = true := by kernel_rfl
/-! ### the walk -/
theorem u : Tryz.prog.underlying 50 = some (.slice 2) := by kernel_rfl
theorem u2 : Tryz.prog.underlying 2 = some (.int .i64) := by kernel_rfl
theorem c2 : Tryz.prog.cellsOf 2 = 1 := by kernel_rfl
theorem each (n c m : Nat) (hn : n < 31) : SO.good (SO.inp n) (.sl (.inp 1) 0 n (.known (c + n))) m = true := by
  rcases n with _ | _ | _ | _ | _ | _ | _ | _ | _ | _ | _ | _ | _ | _ | _ | _ | _ | _ | _ | _ | _ | _ | _ | _ | _ | _ | _ | _ | _ | _ | _ | n
  · exact SO.o0 c m
  · exact SO.o1 c m
  · exact SO.o2 c m
  · exact SO.o3 c m
  · exact SO.o4 c m
  · exact SO.o5 c m
  · exact SO.o6 c m
  · exact SO.o7 c m
  · exact SO.o8 c m
  · exact SO.o9 c m
  · exact SO.o10 c m
  · exact SO.o11 c m
  · exact SO.o12 c m
  · exact SO.o13 c m
  · exact SO.o14 c m
  · exact SO.o15 c m
  · exact SO.o16 c m
  · exact SO.o17 c m
  · exact SO.o18 c m
  · exact SO.o19 c m
  · exact SO.o20 c m
  · exact SO.o21 c m
  · exact SO.o22 c m
  · exact SO.o23 c m
  · exact SO.o24 c m
  · exact SO.o25 c m
  · exact SO.o26 c m
  · exact SO.o27 c m
  · exact SO.o28 c m
  · exact SO.o29 c m
  · exact SO.o30 c m
  · omega
theorem none_ok [AM.Sig] (w : World) : AM.InpOk w (SO.inp 0) := fun k o v h => by
  unfold SO.inp at h
  split at h
  · rw [show Nat.blt o 0 = false from rfl] at h
    cases h
  · cases h

set_option maxRecDepth 100000 in
theorem walk {H : Type} {enc : TypeId × Value → H} {base : Nat} {v0 v1 : Value} {d0 d1 : DataW H} {p0 p1 : List MemPlace} (w : World) (hL : laidMetH Tryz.prog Sh.laid w) (o0 : Value.okWide Tryz.prog w .any base 50 v0) (h0 : DataW.Trod enc Tryz.prog w 0 (fun _ => true) true 50 v0 d0 p0) (o1 : Value.okWide Tryz.prog w .any base 3 v1) (h1 : DataW.Trod enc Tryz.prog w 0 (fun _ => true) true 3 v1 d1 p1) :
    Calls Tryz.prog 10 #[v0, v1] w fun e w' => e = .returned (.bool true) ∧ Below w.heap.size w w' := by
  obtain ⟨a1, rfl, _, _, w1⟩ := open_int (show Tryz.prog.underlying 3 = some (.int .i64) by kernel_rfl) o1 h1
  rcases SO.open_nums (P := Tryz.prog) (t := 50) (e := 2) u u2 c2 o0 h0 with rfl | ⟨a, rfl⟩ | ⟨b, off, len, cap, rfl, hle, x, hx⟩
  · exact Sh.lawOf hL (.cons .nils (.cons (.int _ _) .nil)) (by kernel_rfl) (none_ok w) (AM.run_true (Sf.tab_ok _ _) (SO.good_all SO.onil a1))
  · letI : AM.Sig := ⟨fun _ => 0, fun _ => (0, 0)⟩
    exact Sh.lawOf hL (args := [.sl (.inp 1) 0 0 (.known (0 + 0)), .int .i64 a1]) (.cons (.sl _ _ _ _ _ _ (Nat.le_refl _) (fun h => absurd h (by omega)) rfl) (.cons (.int _ _) .nil)) (by kernel_rfl) (none_ok w) (AM.run_true (Sf.tab_ok _ _) (SO.good_all (fun m => each 0 0 m (by omega)) a1))
  · letI : AM.Sig := ⟨x, fun _ => (b, off)⟩
    have hp : AM.place 1 = (b, off) := AM.place_odd 0
    have hat : (AM.Loc.inp 1).at (fun _ => none) 0 ⟨b, off, none⟩ := by show _ = _; rw [hp]; rfl
    obtain ⟨e, rfl⟩ : ∃ e, cap = e + len := ⟨cap - len, by omega⟩
    by_cases hn : len < 31
    · exact Sh.lawOf hL (args := [.sl (.inp 1) 0 len (.known (e + len)), .int .i64 a1]) (.cons (.sl _ _ _ _ _ _ hle (fun _ => hat) rfl) (.cons (.int _ _) .nil)) (by kernel_rfl) (SO.inp_ok hx) (AM.run_true (Sf.tab_ok _ _) (SO.good_all (fun m => each len e m hn) a1))
    · obtain ⟨m, rfl⟩ : ∃ m, len = m + 31 := ⟨len - 31, by omega⟩
      exact Sh.lawOf hL (args := [.sl (.inp 1) 0 (m + 31) (.known (e + m + 31)), .int .i64 a1]) (.cons (.sl _ _ _ _ _ _ hle (fun _ => hat) (by show _ = _; omega)) (.cons (.int _ _) .nil)) (by kernel_rfl) (SO.inp_ok (n := 30) fun i hi => hx i (by omega)) (AM.run_true (Sf.tab_ok _ _) (SO.good_all (SO.obig m e) a1))

/-! ### the row's step -/
set_option maxRecDepth 100000 in
theorem lifted (os : Os) (started : os.Started) (H : Type) (enc : TypeId × Value → H) :
    ReturnsInHanded {} Tryz.checked os 10 .any (fun w args => (Rows.semOracleSpec.pre enc Tryz.prog Tryz.f10 [] false w args ∧ laidMetH Tryz.prog Sh.laid w) ∧ sizedMet enc Tryz.prog Tryz.f10 (OpenSpec.ofChange Rows.semOracleSpec) false w args) (Rows.semOracleSpec.post enc Tryz.prog Tryz.f10 false true false false) := by
  refine returnsInHanded_of_change_and (C := Tryz.checked) (X := fun w _ => laidMetH Tryz.prog Sh.laid w) (fun _ _ _ hh h => h.of_heap hh) Sh.own started (by kernel_rfl) Tryz.func10
    (ChangeSpec.witness_at (enc := enc) (C := Tryz.checked) (os := os) (X := fun w _ => laidMetH Tryz.prog Sh.laid w) false (Sh.world os) #[.slice none 0 0, .int .i64 0] 8 rfl (by kernel_rfl) (by kernel_rfl) (by kernel_rfl) (by kernel_rfl) (by kernel_rfl) (Sh.world_met os _)) ?_
  intro W base args ds gs before hval0 hW _ _ hL _
  have hval : ∀ (j : Nat) t v, Tryz.f10.params[j]? = some t → args[j]? = some v → Value.okWide Tryz.prog W .any base t v := hval0
  have hW' := hW
  obtain ⟨p, q, hA0, hV, rfl, hfz, hnd⟩ := hW
  have hA : DataW.TrodAll enc Tryz.prog W 0 (fun _ => true) true Tryz.f10.params.toList args.toList ds p := hA0
  have hAA := hA
  rw [Tryz.params10] at hA hval
  obtain ⟨v0, vs0, d0, ds0, p0, q0, hargs, rfl, rfl, h0, r0⟩ := trodAll_cons hA
  obtain ⟨v1, vs1, d1, ds1, p1, q1, rfl, rfl, rfl, h1, r1⟩ := trodAll_cons r0
  obtain ⟨rfl, rfl, rfl⟩ := trodAll_nil r1
  obtain rfl : args = #[v0, v1] := by cases args; simp_all
  obtain ⟨rfl, rfl⟩ := trodVars_none hV
  clear hA0 hval0
  refine (walk W hL (hval 0 50 v0 rfl rfl) h0 (hval 1 3 v1 rfl rfl) h1).mono fun e W' ⟨he, hg⟩ => ?_
  subst he
  exact ⟨_, rfl, AM.post_below (pa := _) (pv := []) hW' (fun _ _ _ => (trodAll_cons_mk (shut_bool Tryz.underlying4 _) trodAll_mk0)) (fun sp hsp => AM.trodAll_stays laid hg (by kernel_rfl) hAA (fun x hx => hW'.lt x (List.mem_append_left _ hx)) (fun x hx => hsp x (List.mem_append_left _ hx))) (fun _ _ => rfl) rfl
    hg (ok_one (by kernel_rfl) rfl (okWide_bool_mk Tryz.underlying4 _))⟩

theorem over : Rows.semOracleRow.holds Tryz.pinned (OpenSpec.ofChange Rows.semOracleSpec) :=
  OpenClaim.holds_of_wide 10 Tryz.f10 rfl rfl rfl rfl rfl rfl rfl ⟨rfl, rfl, rfl, rfl, rfl⟩ rfl rfl rfl rfl rfl (by kernel_rfl) Tryz.func10 (by kernel_rfl)
    (of_decide_eq_true (by kernel_rfl)) (by unfold Func.isWrapper; first | (rw [if_pos (by decide +kernel)]; kernel_rfl) | (rw [if_neg (by decide +kernel)]; exact ⟨rfl, rfl⟩))
    (fun os started H enc _ => lifted os started H enc)

theorem plain (f : FuncId) (fn : Func) (hf : Tryz.pinned.checked.prog.funcNamed "haruspex/haruspexlaw14.SemOracle" = some f) (hfn : Tryz.pinned.checked.prog.funcs[f]? = some fn) :
    true = Tryz.pinned.checked.prog.looks [] ∧ ∀ (j : Nat) t, fn.params[j]? = some t → Tryz.pinned.checked.prog.wantsStandIn t = false := by
  obtain rfl : f = 10 := Option.some.inj ((show Tryz.prog.funcNamed "haruspex/haruspexlaw14.SemOracle" = some 10 by kernel_rfl).symm.trans hf) |>.symm
  obtain rfl : fn = Tryz.f10 := (Option.some.inj (Tryz.func10.symm.trans hfn)).symm
  refine ⟨by kernel_rfl, fun j t ht => ?_⟩
  have hall : (Tryz.f10.params.toList.all fun u => !Tryz.prog.wantsStandIn u) = true := by kernel_rfl
  exact (show Tryz.prog.wantsStandIn t = false by simpa using List.all_eq_true.1 hall t (Array.mem_toList_iff.2 (Array.mem_of_getElem? ht)))

theorem proved : Rows.SemOracleCardSaid :=
  Claim7.holds_tied_plain_at .later [] _ _ _ _ over (fun _ h => by cases h) (by kernel_rfl) (fun _ h => by cases h) semOracle_row_tie rfl ⟨rfl, rfl⟩ (by kernel_rfl) rfl plain (by kernel_rfl)
#print axioms proved
end Go.Proofs.YtechgpjdlkjjoaaGreatDoor.semOracle
