/- The law 'CodeAny' returns true, where what it reads is of bulk at most 1048576; what it reads is as it was. -/
import Derived.Test.YtncjcnipagdmlaaDoorCards
import Derived.Test.YtncjcnipagdmlaaDoorTie
import Derived.Test.YtncjcnipagdmlaaDoorSh
import Derived.SevenTiedAt
import Derived.Deep.DeepHandedRow
import Derived.JoinedCond
import Derived.Test.YtncjcnipagdmlaaDoorTxB
import Derived.WalkKit
import Derived.ProofKit
import Derived.OpenShut
import Derived.Deep.Slices
namespace Go.Proofs.YtncjcnipagdmlaaDoor.codeAnyUpto
open Go.ChangeShapes Go.WideShapes Go.ChangeAt Go.RowKit
set_option linter.unusedVariables false

theorem laid : laidOutB Tryd.prog = true := by kernel_rfl
/-! ### the walk -/
theorem bulk_one {H : Type} (d : DataW H) : 1 ≤ Rows.uptoBulk d := by
  cases d with
  | lit l => cases l <;> simp [Rows.uptoBulk]
  | _ => simp [Rows.uptoBulk]
theorem bulk_all {H : Type} (l : List (DataW H)) : (l.map Rows.uptoBulk).sum = Rows.uptoBulkAll l := by
  induction l with
  | nil => rfl
  | cons x r ih => simp only [Rows.uptoBulkAll, List.map_cons, List.sum_cons, ih]
theorem bulkW {H : Type} : Tx.BulkW (Rows.uptoBulk (H := H)) where
  one := bulk_one
  ptr d := by simp [Rows.uptoBulk]
  agg ps := by rw [bulk_all]; simp only [Rows.uptoBulk]; omega
  slice es sp := by rw [bulk_all]; simp only [Rows.uptoBulk]; omega
set_option maxRecDepth 100000 in
theorem walk {H : Type} {enc : TypeId × Value → H} {base : Nat} {v0 v1 v2 v3 v4 : Value} {d0 d1 d2 d3 d4 : DataW H} {p0 p1 p2 p3 p4 : List MemPlace} (w : World) (hL : laidMetH Tryd.prog Sh.laid w) (hk : Rows.uptoSmall H ([d0, d1, d2, d3, d4] ++ []) = true) (o0 : Value.okWide Tryd.prog w .any base 22 v0) (h0 : DataW.Trod enc Tryd.prog w 0 (fun _ => true) true 22 v0 d0 p0) (o1 : Value.okWide Tryd.prog w .any base 25 v1) (h1 : DataW.Trod enc Tryd.prog w 0 (fun _ => true) true 25 v1 d1 p1) (o2 : Value.okWide Tryd.prog w .any base 3 v2) (h2 : DataW.Trod enc Tryd.prog w 0 (fun _ => true) true 3 v2 d2 p2) (o3 : Value.okWide Tryd.prog w .any base 5 v3) (h3 : DataW.Trod enc Tryd.prog w 0 (fun _ => true) true 5 v3 d3 p3) (o4 : Value.okWide Tryd.prog w .any base 3 v4) (h4 : DataW.Trod enc Tryd.prog w 0 (fun _ => true) true 3 v4 d4 p4) :
    Calls Tryd.prog 9 #[v0, v1, v2, v3, v4] w fun e w' => e = .returned (.bool true) ∧ Below w.heap.size w w' := by
  have hb : Rows.uptoBulk d0 ≤ 1048576 := by
    have h := of_decide_eq_true hk
    simp only [List.append_nil, Rows.uptoBulkAll] at h
    omega
  obtain ⟨a, ln, cap, e1⟩ := okWide_slice (e := 5) (by kernel_rfl) o1
  subst e1
  obtain ⟨m, hm⟩ := h1
  obtain ⟨ws, xs, hcs, u, rfl, sv⟩ := AM.opens_sl (h0 := ⟨.nil, 0⟩) (e := 5) (by kernel_rfl) (by kernel_rfl : Tryd.prog.cellsOf 5 = 1) (by omega) (Tx.opens_byte (by kernel_rfl)) m _ _ hm (by kernel_rfl)
  simp only [Value.cells, List.map_cons, List.map_nil, List.cons.injEq, and_true] at hcs
  obtain ⟨bv, hby⟩ := Tx.sl_by sv
  obtain ⟨n, rfl, _, _, w2⟩ := open_int (show Tryd.prog.underlying 3 = some (.int .i64) by kernel_rfl) o2 h2
  obtain ⟨x, rfl, _, _, w3⟩ := open_int (show Tryd.prog.underlying 5 = some (.int .u8) by kernel_rfl) o3 h3
  obtain ⟨c, rfl, _, _, w4⟩ := open_int (show Tryd.prog.underlying 3 = some (.int .i64) by kernel_rfl) o4 h4
  rcases Tx.openW_pg bulkW Tx.tyOk (h0 := ⟨.nil, 0⟩) (by kernel_rfl) o0 h0 hb with rfl | ⟨b, o, q, rfl, hq, ok, len⟩
  · exact Sh.lawOf hL (args := [.nilp, u, .int .i64 n, .int .u8 x, .int .i64 c]) (.cons .nilp (.cons (AM.canon_rel hcs _) (.cons (.int _ _) (.cons (.int _ _) (.cons (.int _ _) .nil))))) rfl (AM.inpOf_ok w) (Tx.lawTrue (Tx.lawAny n c x bv hby fun h _ => Tx.anyNil n c h 2))
  · exact Sh.lawOf hL (args := [.ptr (.inp (2 * b)) o, u, .int .i64 n, .int .u8 x, .int .i64 c]) (.cons (.ptr _ _ _ (by show _ = _; rw [AM.place_even, Nat.zero_add])) (.cons (AM.canon_rel hcs _) (.cons (.int _ _) (.cons (.int _ _) (.cons (.int _ _) .nil))))) rfl (AM.inpOf_ok w) (Tx.lawTrue (Tx.lawAny n c x bv hby fun h e => Tx.anyPg hq ok (by omega) n c (Tx.inR_of w4) e 2))

/-! ### the row's step -/
set_option maxRecDepth 100000 in
theorem reads (os : Os) {H : Type} (enc : TypeId × Value → H) : ∃ places, DataW.whole enc Tryd.prog ((Sh.world os).forCall (fun _ _ => 0) ⟨#[], #[.pointer none, .slice none 0 0, .int .i64 0, .int .u8 0, .int .i64 0], []⟩).memory Tryd.f9.params.toList Rows.codeAnySpec.vars false #[.pointer none, .slice none 0 0, .int .i64 0, .int .u8 0, .int .i64 0].toList 8 = some ([.nil, .nil, .lit (.int .i64 0), .lit (.int .u8 0), .lit (.int .i64 0)], [], places) :=
  ⟨[], by kernel_rfl⟩
set_option maxRecDepth 100000 in
theorem lifted (os : Os) (started : os.Started) (H : Type) (enc : TypeId × Value → H) (F : Stop.Interp) :
    ReturnsInHanded {} Tryd.checked os 9 .any ((Rows.OpenSpec.upto Rows.codeAnySpec).preRow enc Tryd.prog Tryd.f9 [] false Sh.laid) (((Rows.OpenSpec.upto Rows.codeAnySpec).at F).post enc Tryd.prog Tryd.f9 false true false false) := by
  obtain ⟨places, hx⟩ := reads os enc
  refine returnsInHanded_of_row (C := Tryd.checked) (s := Rows.OpenSpec.upto Rows.codeAnySpec) Sh.own started (by kernel_rfl) Tryd.func9
    (witness_row_at (enc := enc) (C := Tryd.checked) false (Sh.world os) #[.pointer none, .slice none 0 0, .int .i64 0, .int .u8 0, .int .i64 0] rfl (by kernel_rfl) (by kernel_rfl) (by kernel_rfl)
      (OpenSpec.preRow_of_cond 8 hx (by kernel_rfl) (fun k hk => by cases hk; kernel_rfl) (by kernel_rfl) (Sh.world_met os _))) ?_
  intro W base args ds gs before hval0 hW _ hcond _ hL _ _
  have hk := hcond _ rfl
  have hval : ∀ (j : Nat) t v, Tryd.f9.params[j]? = some t → args[j]? = some v → Value.okWide Tryd.prog W .any base t v := hval0
  have hW' := hW
  obtain ⟨p, q, hA0, hV, rfl, hfz, hnd⟩ := hW
  have hA : DataW.TrodAll enc Tryd.prog W 0 (fun _ => true) true Tryd.f9.params.toList args.toList ds p := hA0
  have hAA := hA
  rw [Tryd.params9] at hA hval
  obtain ⟨v0, vs0, d0, ds0, p0, q0, hargs, rfl, rfl, h0, r0⟩ := trodAll_cons hA
  obtain ⟨v1, vs1, d1, ds1, p1, q1, rfl, rfl, rfl, h1, r1⟩ := trodAll_cons r0
  obtain ⟨v2, vs2, d2, ds2, p2, q2, rfl, rfl, rfl, h2, r2⟩ := trodAll_cons r1
  obtain ⟨v3, vs3, d3, ds3, p3, q3, rfl, rfl, rfl, h3, r3⟩ := trodAll_cons r2
  obtain ⟨v4, vs4, d4, ds4, p4, q4, rfl, rfl, rfl, h4, r4⟩ := trodAll_cons r3
  obtain ⟨rfl, rfl, rfl⟩ := trodAll_nil r4
  obtain rfl : args = #[v0, v1, v2, v3, v4] := by cases args; simp_all
  obtain ⟨rfl, rfl⟩ := trodVars_none hV
  clear hA0 hval0
  refine (walk W hL hk (hval 0 22 v0 rfl rfl) h0 (hval 1 25 v1 rfl rfl) h1 (hval 2 3 v2 rfl rfl) h2 (hval 3 5 v3 rfl rfl) h3 (hval 4 3 v4 rfl rfl) h4).mono fun e W' ⟨he, hg⟩ => ?_
  subst he
  exact ⟨_, rfl, AM.post_below (pa := _) (pv := []) hW' (fun _ _ _ => (trodAll_cons_mk (shut_bool Tryd.underlying4 _) trodAll_mk0)) (fun sp hsp => AM.trodAll_stays laid hg (by kernel_rfl) hAA (fun x hx => hW'.lt x (List.mem_append_left _ hx)) (fun x hx => hsp x (List.mem_append_left _ hx))) (fun _ _ => rfl) rfl
    hg (ok_one (by kernel_rfl) rfl (okWide_bool_mk Tryd.underlying4 _))⟩

theorem over : Rows.codeAnyUptoRow.holds Tryd.pinned (Rows.OpenSpec.upto Rows.codeAnySpec) :=
  OpenClaim.holds_of_cond 9 Tryd.f9 rfl rfl rfl rfl rfl rfl rfl ⟨rfl, rfl, rfl, rfl, rfl⟩ rfl rfl rfl rfl rfl (by kernel_rfl) Tryd.func9 (by kernel_rfl)
    (of_decide_eq_true (by kernel_rfl)) (by unfold Func.isWrapper; first | (rw [if_pos (by decide +kernel)]; kernel_rfl) | (rw [if_neg (by decide +kernel)]; exact ⟨rfl, rfl⟩))
    (fun os started H enc _ F => by rw [OpenClaim.pre_eq_preRow]; exact lifted os started H enc F)

theorem plain (f : FuncId) (fn : Func) (hf : Tryd.pinned.checked.prog.funcNamed "haruspex/haruspexlaw9.CodeAny" = some f) (hfn : Tryd.pinned.checked.prog.funcs[f]? = some fn) :
    true = Tryd.pinned.checked.prog.looks [] ∧ ∀ (j : Nat) t, fn.params[j]? = some t → Tryd.pinned.checked.prog.wantsStandIn t = false := by
  obtain rfl : f = 9 := Option.some.inj ((show Tryd.prog.funcNamed "haruspex/haruspexlaw9.CodeAny" = some 9 by kernel_rfl).symm.trans hf) |>.symm
  obtain rfl : fn = Tryd.f9 := (Option.some.inj (Tryd.func9.symm.trans hfn)).symm
  refine ⟨by kernel_rfl, fun j t ht => ?_⟩
  have hall : (Tryd.f9.params.toList.all fun u => !Tryd.prog.wantsStandIn u) = true := by kernel_rfl
  exact (show Tryd.prog.wantsStandIn t = false by simpa using List.all_eq_true.1 hall t (Array.mem_toList_iff.2 (Array.mem_of_getElem? ht)))

theorem proved : Rows.CodeAnyUptoCardSaid :=
  Claim7.holds_tied_plain_at .later [] _ _ _ _ over (fun _ h => by cases h) (by kernel_rfl) (fun _ h => by cases h) codeAnyUpto_row_tie rfl ⟨rfl, rfl⟩ (by kernel_rfl) rfl plain (by kernel_rfl)
#print axioms proved
end Go.Proofs.YtncjcnipagdmlaaDoor.codeAnyUpto
