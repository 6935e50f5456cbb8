/- The law 'CodeTwins' returns true, where what it reads is of bulk at most 1048576; what it reads is as it was. -/
import Derived.Test.YtncjcnipagdmlaaDoorCards
import Derived.Test.YtncjcnipagdmlaaDoorTie
import Derived.Test.YtncjcnipagdmlaaDoorSh
import Derived.SevenTiedAt
import Derived.Deep.DeepHandedRow
import Derived.JoinedCond
import Derived.Test.YtncjcnipagdmlaaDoorTxB
import Derived.WalkKit
import Derived.ProofKit
import Derived.OpenShut
import Derived.Deep.Slices
namespace Go.Proofs.YtncjcnipagdmlaaDoor.codeTwinsUpto
open Go.ChangeShapes Go.WideShapes Go.ChangeAt Go.RowKit
set_option linter.unusedVariables false

theorem laid : laidOutB Tryd.prog = true := by kernel_rfl
/-! ### the walk -/
theorem bulk_one {H : Type} (d : DataW H) : 1 ≤ Rows.uptoBulk d := by
  cases d with
  | lit l => cases l <;> simp [Rows.uptoBulk]
  | _ => simp [Rows.uptoBulk]
theorem bulk_all {H : Type} (l : List (DataW H)) : (l.map Rows.uptoBulk).sum = Rows.uptoBulkAll l := by
  induction l with
  | nil => rfl
  | cons x r ih => simp only [Rows.uptoBulkAll, List.map_cons, List.sum_cons, ih]
theorem bulkW {H : Type} : Tx.BulkW (Rows.uptoBulk (H := H)) where
  one := bulk_one
  ptr d := by simp [Rows.uptoBulk]
  agg ps := by rw [bulk_all]; simp only [Rows.uptoBulk]; omega
  slice es sp := by rw [bulk_all]; simp only [Rows.uptoBulk]; omega
set_option maxRecDepth 100000 in
theorem walk {H : Type} {enc : TypeId × Value → H} {base : Nat} {v0 v1 : Value} {d0 d1 : DataW H} {p0 p1 : List MemPlace} (w : World) (hL : laidMetH Tryd.prog Sh.laid w) (hk : Rows.uptoSmall H ([d0, d1] ++ []) = true) (o0 : Value.okWide Tryd.prog w .any base 22 v0) (h0 : DataW.Trod enc Tryd.prog w 0 (fun _ => true) true 22 v0 d0 p0) (o1 : Value.okWide Tryd.prog w .any base 22 v1) (h1 : DataW.Trod enc Tryd.prog w 0 (fun _ => true) true 22 v1 d1 p1) :
    Calls Tryd.prog 7 #[v0, v1] w fun e w' => e = .returned (.bool true) ∧ Below w.heap.size w w' := by
  have hb : Rows.uptoBulk d0 ≤ 1048576 ∧ Rows.uptoBulk d1 ≤ 1048576 := by
    have h := of_decide_eq_true hk
    simp only [List.append_nil, Rows.uptoBulkAll] at h
    omega
  rcases Tx.openW_pg bulkW Tx.tyOk (h0 := ⟨.nil, 0⟩) (by kernel_rfl) o0 h0 hb.1 with rfl | ⟨b, o, q, rfl, hq, ok, len⟩
  · rcases Tx.openW_pg bulkW Tx.tyOk (h0 := ⟨.nil, 0⟩) (by kernel_rfl) o1 h1 hb.2 with rfl | ⟨b', o', q', rfl, hq', ok', len'⟩
    · exact Sh.lawOf hL (args := [.nilp, .nilp]) (.cons .nilp (.cons .nilp .nil)) rfl (AM.inpOf_ok w) (Tx.lawTrue (Tx.twinsOff (Tx.tSmall_nil _) fun g x h => by cases h))
    · exact Sh.lawOf hL (args := [.nilp, .ptr (.inp (2 * b')) o']) (.cons .nilp (.cons (.ptr _ _ _ (by show _ = _; rw [AM.place_even, Nat.zero_add])) .nil)) rfl (AM.inpOf_ok w) (Tx.lawTrue (Tx.twinsOff (Tx.tSmall_nil _) fun g x h => by cases h))
  · rcases Tx.openW_pg bulkW Tx.tyOk (h0 := ⟨.nil, 0⟩) (by kernel_rfl) o1 h1 hb.2 with rfl | ⟨b', o', q', rfl, hq', ok', len'⟩
    · exact Sh.lawOf hL (args := [.ptr (.inp (2 * b)) o, .nilp]) (.cons (.ptr _ _ _ (by show _ = _; rw [AM.place_even, Nat.zero_add])) (.cons .nilp .nil)) rfl (AM.inpOf_ok w) (Tx.lawTrue (Tx.twinsOff (Tx.tSmall hq _ (AM.Ext.refl _)) fun g x _ => by
        obtain ⟨v, f, hs, rfl, _⟩ := Tx.tSmall_nil g
        exact ⟨f, hs⟩))
    · exact Sh.lawOf hL (args := [.ptr (.inp (2 * b)) o, .ptr (.inp (2 * b')) o']) (.cons (.ptr _ _ _ (by show _ = _; rw [AM.place_even, Nat.zero_add])) (.cons (.ptr _ _ _ (by show _ = _; rw [AM.place_even, Nat.zero_add])) .nil)) rfl (AM.inpOf_ok w) (Tx.lawTrue (Tx.lawTwins hq hq' ok ok' (by omega) (by omega)))

/-! ### the row's step -/
set_option maxRecDepth 100000 in
theorem reads (os : Os) {H : Type} (enc : TypeId × Value → H) : ∃ places, DataW.whole enc Tryd.prog ((Sh.world os).forCall (fun _ _ => 0) ⟨#[], #[.pointer none, .pointer none], []⟩).memory Tryd.f7.params.toList Rows.codeTwinsSpec.vars false #[.pointer none, .pointer none].toList 8 = some ([.nil, .nil], [], places) :=
  ⟨[], by kernel_rfl⟩
set_option maxRecDepth 100000 in
theorem lifted (os : Os) (started : os.Started) (H : Type) (enc : TypeId × Value → H) (F : Stop.Interp) :
    ReturnsInHanded {} Tryd.checked os 7 .any ((Rows.OpenSpec.upto Rows.codeTwinsSpec).preRow enc Tryd.prog Tryd.f7 [] false Sh.laid) (((Rows.OpenSpec.upto Rows.codeTwinsSpec).at F).post enc Tryd.prog Tryd.f7 false true false false) := by
  obtain ⟨places, hx⟩ := reads os enc
  refine returnsInHanded_of_row (C := Tryd.checked) (s := Rows.OpenSpec.upto Rows.codeTwinsSpec) Sh.own started (by kernel_rfl) Tryd.func7
    (witness_row_at (enc := enc) (C := Tryd.checked) false (Sh.world os) #[.pointer none, .pointer none] rfl (by kernel_rfl) (by kernel_rfl) (by kernel_rfl)
      (OpenSpec.preRow_of_cond 8 hx (by kernel_rfl) (fun k hk => by cases hk; kernel_rfl) (by kernel_rfl) (Sh.world_met os _))) ?_
  intro W base args ds gs before hval0 hW _ hcond _ hL _ _
  have hk := hcond _ rfl
  have hval : ∀ (j : Nat) t v, Tryd.f7.params[j]? = some t → args[j]? = some v → Value.okWide Tryd.prog W .any base t v := hval0
  have hW' := hW
  obtain ⟨p, q, hA0, hV, rfl, hfz, hnd⟩ := hW
  have hA : DataW.TrodAll enc Tryd.prog W 0 (fun _ => true) true Tryd.f7.params.toList args.toList ds p := hA0
  have hAA := hA
  rw [Tryd.params7] at hA hval
  obtain ⟨v0, vs0, d0, ds0, p0, q0, hargs, rfl, rfl, h0, r0⟩ := trodAll_cons hA
  obtain ⟨v1, vs1, d1, ds1, p1, q1, rfl, rfl, rfl, h1, r1⟩ := trodAll_cons r0
  obtain ⟨rfl, rfl, rfl⟩ := trodAll_nil r1
  obtain rfl : args = #[v0, v1] := by cases args; simp_all
  obtain ⟨rfl, rfl⟩ := trodVars_none hV
  clear hA0 hval0
  refine (walk W hL hk (hval 0 22 v0 rfl rfl) h0 (hval 1 22 v1 rfl rfl) h1).mono fun e W' ⟨he, hg⟩ => ?_
  subst he
  exact ⟨_, rfl, AM.post_below (pa := _) (pv := []) hW' (fun _ _ _ => (trodAll_cons_mk (shut_bool Tryd.underlying4 _) trodAll_mk0)) (fun sp hsp => AM.trodAll_stays laid hg (by kernel_rfl) hAA (fun x hx => hW'.lt x (List.mem_append_left _ hx)) (fun x hx => hsp x (List.mem_append_left _ hx))) (fun _ _ => rfl) rfl
    hg (ok_one (by kernel_rfl) rfl (okWide_bool_mk Tryd.underlying4 _))⟩

theorem over : Rows.codeTwinsUptoRow.holds Tryd.pinned (Rows.OpenSpec.upto Rows.codeTwinsSpec) :=
  OpenClaim.holds_of_cond 7 Tryd.f7 rfl rfl rfl rfl rfl rfl rfl ⟨rfl, rfl, rfl, rfl, rfl⟩ rfl rfl rfl rfl rfl (by kernel_rfl) Tryd.func7 (by kernel_rfl)
    (of_decide_eq_true (by kernel_rfl)) (by unfold Func.isWrapper; first | (rw [if_pos (by decide +kernel)]; kernel_rfl) | (rw [if_neg (by decide +kernel)]; exact ⟨rfl, rfl⟩))
    (fun os started H enc _ F => by rw [OpenClaim.pre_eq_preRow]; exact lifted os started H enc F)

theorem plain (f : FuncId) (fn : Func) (hf : Tryd.pinned.checked.prog.funcNamed "haruspex/haruspexlaw9.CodeTwins" = some f) (hfn : Tryd.pinned.checked.prog.funcs[f]? = some fn) :
    true = Tryd.pinned.checked.prog.looks [] ∧ ∀ (j : Nat) t, fn.params[j]? = some t → Tryd.pinned.checked.prog.wantsStandIn t = false := by
  obtain rfl : f = 7 := Option.some.inj ((show Tryd.prog.funcNamed "haruspex/haruspexlaw9.CodeTwins" = some 7 by kernel_rfl).symm.trans hf) |>.symm
  obtain rfl : fn = Tryd.f7 := (Option.some.inj (Tryd.func7.symm.trans hfn)).symm
  refine ⟨by kernel_rfl, fun j t ht => ?_⟩
  have hall : (Tryd.f7.params.toList.all fun u => !Tryd.prog.wantsStandIn u) = true := by kernel_rfl
  exact (show Tryd.prog.wantsStandIn t = false by simpa using List.all_eq_true.1 hall t (Array.mem_toList_iff.2 (Array.mem_of_getElem? ht)))

theorem proved : Rows.CodeTwinsUptoCardSaid :=
  Claim7.holds_tied_plain_at .later [] _ _ _ _ over (fun _ h => by cases h) (by kernel_rfl) (fun _ h => by cases h) codeTwinsUpto_row_tie rfl ⟨rfl, rfl⟩ (by kernel_rfl) rfl plain (by kernel_rfl)
#print axioms proved
end Go.Proofs.YtncjcnipagdmlaaDoor.codeTwinsUpto
