/- The law 'SemSum' returns true, whatever the input; what it reads is as it was. Conditions: none. -/
import Derived.Test.YtechgpjdlkjjoaaGreatDoorCards
import Derived.Test.YtechgpjdlkjjoaaGreatDoorTie
import Derived.Test.YtechgpjdlkjjoaaGreatDoorSh
import Derived.Test.YtechgpjdlkjjoaaGreatDoorSemSumB
import Derived.SevenTiedAt
import Derived.WalkKit
import Derived.ProofKit
import Derived.OpenShut
import Derived.Deep.Slices
namespace Go.Proofs.YtechgpjdlkjjoaaGreatDoor.semSum
open Go.ChangeShapes Go.WideShapes Go.ChangeAt Go.RowKit
set_option linter.unusedVariables false

theorem laid : laidOutB Tryz.prog = true := by kernel_rfl
/-! ### the walk -/
open SS
theorem u : Tryz.prog.underlying 37 = some (.slice 3) := by kernel_rfl
theorem u3 : Tryz.prog.underlying 3 = some (.int .i64) := by kernel_rfl
theorem c3 : Tryz.prog.cellsOf 3 = 1 := by kernel_rfl
/-- A slice of numbers that came in. -/
theorem open_nums {H : Type} {enc : TypeId × Value → H} {P : Program} {w : World} {r : Reach} {b0 : Nat} {t e : TypeId} {v : Value} {d : DataW H} {p : List MemPlace} (ht : P.underlying t = some (.slice e)) (he : P.underlying e = some (.int .i64)) (hc : P.cellsOf e = 1)
    (o : Value.okWide P w r b0 t v) (h : DataW.Trod enc P w 0 (fun _ => true) true t v d p) :
    v = .slice none 0 0 ∨ (∃ a, v = .slice (some a) 0 0) ∨ ∃ b off len cap, v = .slice (some ⟨b, off, none⟩) len cap ∧ len ≤ cap ∧ ∃ x : Nat → Int, ∀ i, i < len → w.cell? ⟨b, off + i, none⟩ = some (.int .i64 (x i)) ∧ (Lit.int .i64 (x i)).wf = true := by
  obtain ⟨a, len, cap, rfl⟩ := okWide_slice ht o
  obtain ⟨n, hn⟩ := h
  rcases Go.Deep.open_slice1 ht hc hn with ⟨h0, _⟩ | ⟨a', len', cap', m, n', V, D, Pl, h0, _, hl, _, hm, _, hx⟩
  · left; simpa [Value.cells] using h0
  · right
    have h1 : a = some a' ∧ len = len' ∧ cap = cap' := by simpa [Value.cells] using h0
    obtain ⟨rfl, rfl, rfl⟩ := h1
    rcases Nat.eq_zero_or_pos cap with hz | hz
    · subst hz
      obtain rfl : len = 0 := by omega
      exact .inl ⟨_, rfl⟩
    · right
      have hmc : m = cap := by simpa using hm
      have hsp : a'.spot = none := by
        have := (hx 0 (by omega)).1
        rw [show a'.add 0 = a' from rfl] at this
        unfold World.cell? at this
        split at this
        · cases hs : a'.spot with
          | none => rfl
          | some s => rw [hs] at this; cases this
        · cases this
      obtain ⟨b, off, sp⟩ := a'
      simp only at hsp
      subst hsp
      refine ⟨b, off, len, cap, rfl, hl, fun i => match V i with | .int _ k => k | _ => 0, fun i hi => ?_⟩
      obtain ⟨h1, h2⟩ := hx i (by omega)
      obtain ⟨k, hk, hw⟩ := AM.trod_int he h2
      simp only [List.cons.injEq, and_true] at hk
      rw [hk, AM.addr_add] at h1
      simp only [hk]
      exact ⟨h1, hw⟩
theorem none_ok [AM.Sig] (w : World) : AM.InpOk w (inp 0) := fun k o v h => by
  unfold inp at h
  split at h
  · rw [show Nat.blt o 0 = false from rfl] at h
    cases h
  · cases h

set_option maxRecDepth 100000 in
theorem walk {H : Type} {enc : TypeId × Value → H} {base : Nat} {v0 : Value} {d0 : DataW H} {p0 : List MemPlace} (w : World) (hL : laidMetH Tryz.prog Sh.laid w) (o0 : Value.okWide Tryz.prog w .any base 37 v0) (h0 : DataW.Trod enc Tryz.prog w 0 (fun _ => true) true 37 v0 d0 p0) :
    Calls Tryz.prog 8 #[v0] w fun e w' => e = .returned (.bool true) ∧ Below w.heap.size w w' := by
  rcases open_nums (P := Tryz.prog) (t := 37) (e := 3) u u3 c3 o0 h0 with rfl | ⟨a, rfl⟩ | ⟨b, off, len, cap, rfl, hle, x, hx⟩
  · exact Sh.lawOf hL (.cons .nils .nil) (by kernel_rfl) (none_ok w) (AM.run_true (Sf.tab_ok _ _) run0)
  · letI : AM.Sig := ⟨fun _ => 0, fun _ => (0, 0)⟩
    exact Sh.lawOf hL (args := [.sl (.inp 1) 0 0 (.known (0 + 0))]) (.cons (.sl _ _ _ _ _ _ (Nat.le_refl _) (fun h => absurd h (by omega)) rfl) .nil) (by kernel_rfl) (none_ok w) (AM.run_true (Sf.tab_ok _ _) (runs 0 0 (by omega)))
  · letI : AM.Sig := ⟨x, fun _ => (b, off)⟩
    have hp : AM.place 1 = (b, off) := AM.place_odd 0
    have hat : (AM.Loc.inp 1).at (fun _ => none) 0 ⟨b, off, none⟩ := by show _ = _; rw [hp]; rfl
    obtain ⟨e, rfl⟩ : ∃ e, cap = e + len := ⟨cap - len, by omega⟩
    by_cases hn : len < 15
    · exact Sh.lawOf hL (args := [.sl (.inp 1) 0 len (.known (e + len))]) (.cons (.sl _ _ _ _ _ _ hle (fun _ => hat) rfl) .nil) (by kernel_rfl) (inp_ok hx) (AM.run_true (Sf.tab_ok _ _) (runs len e hn))
    · obtain ⟨m, rfl⟩ : ∃ m, len = m + 15 := ⟨len - 15, by omega⟩
      exact Sh.lawOf hL (args := [.sl (.inp 1) 0 (m + 15) (.known (e + m + 15))]) (.cons (.sl _ _ _ _ _ _ hle (fun _ => hat) (by show _ = _; omega)) .nil) (by kernel_rfl) (inp_ok (n := 14) fun i hi => hx i (by omega)) (AM.run_true (Sf.tab_ok _ _) (runBig m e))

/-! ### the row's step -/
set_option maxRecDepth 100000 in
theorem lifted (os : Os) (started : os.Started) (H : Type) (enc : TypeId × Value → H) :
    ReturnsInHanded {} Tryz.checked os 8 .any (fun w args => (Rows.semSumSpec.pre enc Tryz.prog Tryz.f8 [] false w args ∧ laidMetH Tryz.prog Sh.laid w) ∧ sizedMet enc Tryz.prog Tryz.f8 (OpenSpec.ofChange Rows.semSumSpec) false w args) (Rows.semSumSpec.post enc Tryz.prog Tryz.f8 false true false false) := by
  refine returnsInHanded_of_change_and (C := Tryz.checked) (X := fun w _ => laidMetH Tryz.prog Sh.laid w) (fun _ _ _ hh h => h.of_heap hh) Sh.own started (by kernel_rfl) Tryz.func8
    (ChangeSpec.witness_at (enc := enc) (C := Tryz.checked) (os := os) (X := fun w _ => laidMetH Tryz.prog Sh.laid w) false (Sh.world os) #[.slice none 0 0] 8 rfl (by kernel_rfl) (by kernel_rfl) (by kernel_rfl) (by kernel_rfl) (by kernel_rfl) (Sh.world_met os _)) ?_
  intro W base args ds gs before hval0 hW _ _ hL _
  have hval : ∀ (j : Nat) t v, Tryz.f8.params[j]? = some t → args[j]? = some v → Value.okWide Tryz.prog W .any base t v := hval0
  have hW' := hW
  obtain ⟨p, q, hA0, hV, rfl, hfz, hnd⟩ := hW
  have hA : DataW.TrodAll enc Tryz.prog W 0 (fun _ => true) true Tryz.f8.params.toList args.toList ds p := hA0
  have hAA := hA
  rw [Tryz.params8] at hA hval
  obtain ⟨v0, vs0, d0, ds0, p0, q0, hargs, rfl, rfl, h0, r0⟩ := trodAll_cons hA
  obtain ⟨rfl, rfl, rfl⟩ := trodAll_nil r0
  obtain rfl : args = #[v0] := by cases args; simp_all
  obtain ⟨rfl, rfl⟩ := trodVars_none hV
  clear hA0 hval0
  refine (walk W hL (hval 0 37 v0 rfl rfl) h0).mono fun e W' ⟨he, hg⟩ => ?_
  subst he
  exact ⟨_, rfl, AM.post_below (pa := _) (pv := []) hW' (fun _ _ _ => (trodAll_cons_mk (shut_bool Tryz.underlying4 _) trodAll_mk0)) (fun sp hsp => AM.trodAll_stays laid hg (by kernel_rfl) hAA (fun x hx => hW'.lt x (List.mem_append_left _ hx)) (fun x hx => hsp x (List.mem_append_left _ hx))) (fun _ _ => rfl) rfl
    hg (ok_one (by kernel_rfl) rfl (okWide_bool_mk Tryz.underlying4 _))⟩

theorem over : Rows.semSumRow.holds Tryz.pinned (OpenSpec.ofChange Rows.semSumSpec) :=
  OpenClaim.holds_of_wide 8 Tryz.f8 rfl rfl rfl rfl rfl rfl rfl ⟨rfl, rfl, rfl, rfl, rfl⟩ rfl rfl rfl rfl rfl (by kernel_rfl) Tryz.func8 (by kernel_rfl)
    (of_decide_eq_true (by kernel_rfl)) (by unfold Func.isWrapper; first | (rw [if_pos (by decide +kernel)]; kernel_rfl) | (rw [if_neg (by decide +kernel)]; exact ⟨rfl, rfl⟩))
    (fun os started H enc _ => lifted os started H enc)

theorem plain (f : FuncId) (fn : Func) (hf : Tryz.pinned.checked.prog.funcNamed "haruspex/haruspexlaw14.SemSum" = some f) (hfn : Tryz.pinned.checked.prog.funcs[f]? = some fn) :
    true = Tryz.pinned.checked.prog.looks [] ∧ ∀ (j : Nat) t, fn.params[j]? = some t → Tryz.pinned.checked.prog.wantsStandIn t = false := by
  obtain rfl : f = 8 := Option.some.inj ((show Tryz.prog.funcNamed "haruspex/haruspexlaw14.SemSum" = some 8 by kernel_rfl).symm.trans hf) |>.symm
  obtain rfl : fn = Tryz.f8 := (Option.some.inj (Tryz.func8.symm.trans hfn)).symm
  refine ⟨by kernel_rfl, fun j t ht => ?_⟩
  have hall : (Tryz.f8.params.toList.all fun u => !Tryz.prog.wantsStandIn u) = true := by kernel_rfl
  exact (show Tryz.prog.wantsStandIn t = false by simpa using List.all_eq_true.1 hall t (Array.mem_toList_iff.2 (Array.mem_of_getElem? ht)))

theorem proved : Rows.SemSumCardSaid :=
  Claim7.holds_tied_plain_at .later [] _ _ _ _ over (fun _ h => by cases h) (by kernel_rfl) (fun _ h => by cases h) semSum_row_tie rfl ⟨rfl, rfl⟩ (by kernel_rfl) rfl plain (by kernel_rfl)
#print axioms proved
end Go.Proofs.YtechgpjdlkjjoaaGreatDoor.semSum
