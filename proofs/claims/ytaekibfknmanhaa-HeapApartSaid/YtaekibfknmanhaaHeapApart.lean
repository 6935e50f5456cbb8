/- The law 'HeapApart' returns true, whatever the input; what it reads is as it was. Conditions: none. -/
import Derived.Test.YtaekibfknmanhaaRows
import Derived.WalkKit
import Derived.ProofKit
import Derived.OpenShut
import Derived.Test.YtaekibfknmanhaaSh
import Derived.Test.YtaekibfknmanhaaTxA
import Derived.Deep.Slices
namespace Go.Proofs.Ytaekibfknmanhaa.heapApart
open Go.ChangeShapes Go.WideShapes Go.ChangeAt Go.RowKit
set_option linter.unusedVariables false

theorem own : ownKnob Try.prog.godebug = none := by kernel_rfl
theorem laid : laidOutB Try.prog = true := by kernel_rfl
theorem u24 : AM.structOf Try.prog 24 = some [(3, 0), (2, 1), (4, 2)] := by kernel_rfl
theorem c24 : Try.prog.cellsOf 24 = 3 := by kernel_rfl
theorem c2 : Try.prog.cellsOf 2 = 1 := by kernel_rfl
theorem c3 : Try.prog.cellsOf 3 = 1 := by kernel_rfl
theorem c4 : Try.prog.cellsOf 4 = 1 := by kernel_rfl
theorem c22 : Try.prog.cellsOf 22 = 1 := by kernel_rfl
theorem t22 : Try.prog.underlying 22 = some (.slice 3) := by kernel_rfl
theorem t2 : Try.prog.underlying 2 = some (.int .i64) := by kernel_rfl
theorem t3 : Try.prog.underlying 3 = some (.int .i64) := by kernel_rfl
theorem t4 : Try.prog.underlying 4 = some .bool := by kernel_rfl

section
variable {H : Type} {enc : TypeId × Value → H} {W : World} {base : Nat} {sp : Nat → Bool} {held : Bool} {r : Reach} {b0 : Nat}
theorem open_val {v : Value} {d : DataW H} {ps : List MemPlace} (hval : Value.okWide Try.prog W r b0 24 v) (h : DataW.Trod enc Try.prog W base sp held 24 v d ps) : ∃ k n t, v = .agg #[.int .i64 k, .int .i64 n, .bool t] := by
  obtain ⟨cs, rfl, hs, m, hm⟩ := AM.open_agg u24 hval h
  obtain ⟨y0, h0⟩ := hm (3, 0) (by simp)
  obtain ⟨y1, h1⟩ := hm (2, 1) (by simp)
  obtain ⟨y2, h2⟩ := hm (4, 2) (by simp)
  rw [c24] at hs
  simp only [c2, c3, c4] at h0 h1 h2
  obtain ⟨k, e0, _⟩ := AM.trod_int t3 h0
  obtain ⟨n, e1, _⟩ := AM.trod_int t2 h1
  obtain ⟨t, e2⟩ := AM.trod_bool t4 h2
  refine ⟨k, n, t, ?_⟩
  match cs, hs, e0, e1, e2 with
  | [a, b, c], _, e0, e1, e2 =>
    simp at e0 e1 e2
    rw [e0, e1, e2]
end

/-! ### the walk -/
theorem walk {xs : List Int} {s : Value} {a : AM.AVal} (n : Int) (x : Tx.V3) (w : World) (ha : AM.canon s = some a) (sv : AM.SlOf 1 (AM.IntA (AM.inpOf w) ⟨.nil, 0⟩) a xs) :
    Calls Try.prog 3 #[.int .i64 n, s, .agg #[.int .i64 x.k, .int .i64 x.n, .bool x.t]] w fun e w' => e = .returned (.bool true) ∧ Below w.heap.size w w' := by
  obtain ⟨m, hm⟩ := Tx.lawTrue (Tx.hLaw sv x n)
  exact AM.law_closed (by kernel_rfl) (by kernel_rfl) w (fun g p hp => Sh.prims_ok g p hp) (.cons (.int _ _) (.cons (AM.canon_rel ha _) (.cons (.agg _ _ (.cons (.int _ _) (.cons (.int _ _) (.cons (.bool _) .nil)))) .nil))) rfl (AM.inpOf_ok w) hm

/-! ### the row's step -/
set_option maxRecDepth 100000 in
theorem lifted (os : Os) (started : os.Started) (H : Type) (enc : TypeId × Value → H) :
    ReturnsInHanded {} Try.checked os 3 .any (Rows.heapApartSpec.pre6 enc Try.prog Try.f3 Rows.heapApartRow.domain false) (Rows.heapApartSpec.post enc Try.prog Try.f3 false true false false) := by
  refine returnsInHanded_of_change (C := Try.checked) own started (by kernel_rfl) Try.func3
    (ChangeSpec.witness6 (enc := enc) (C := Try.checked) false ⟨#[], #[.int .i64 0, .slice none 0 0, .agg #[.int .i64 0, .int .i64 0, .bool false]], []⟩ 8 (by kernel_rfl) (by kernel_rfl) (by kernel_rfl) (by kernel_rfl)) ?_
  intro W base args ds gs before hval0 hW hcnd _
  have hval : ∀ (j : Nat) t v, Try.f3.params[j]? = some t → args[j]? = some v → Value.okWide Try.prog W .any base t v := hval0
  have hW' := hW
  obtain ⟨p, q, hA0, hV, rfl, hfz, hnd⟩ := hW
  have hA : DataW.TrodAll enc Try.prog W 0 (fun _ => true) true Try.f3.params.toList args.toList ds p := hA0
  have hAA := hA
  rw [Try.params3] at hA hval
  obtain ⟨v0, vs0, d0, ds0, p0, q0, hargs, rfl, rfl, h0, r0⟩ := trodAll_cons hA
  obtain ⟨v1, vs1, d1, ds1, p1, q1, rfl, rfl, rfl, h1, r1⟩ := trodAll_cons r0
  obtain ⟨v2, vs2, d2, ds2, p2, q2, rfl, rfl, rfl, h2, r2⟩ := trodAll_cons r1
  obtain ⟨rfl, rfl, rfl⟩ := trodAll_nil r2
  obtain rfl : args = #[v0, v1, v2] := by cases args; simp_all
  obtain ⟨rfl, rfl⟩ := trodVars_none hV
  obtain ⟨n, e0⟩ := okWide_int t3 (hval 0 3 v0 rfl rfl)
  subst e0
  obtain ⟨a, len, cap, rfl⟩ := okWide_slice t22 (hval 1 22 v1 rfl rfl)
  obtain ⟨m, hm⟩ := h1
  obtain ⟨ws, xs, hcs, u, rfl, sv⟩ := AM.opens_sl (h0 := ⟨.nil, 0⟩) t22 c3 (by omega) (AM.opens_int (by kernel_rfl)) m _ _ hm (by rw [c22]; rfl)
  simp only [Value.cells, List.map_cons, List.map_nil, List.cons.injEq, and_true] at hcs
  obtain ⟨k, n', t, rfl⟩ := open_val (hval 2 24 v2 rfl rfl) h2
  clear hA0 hval0
  refine (walk n ⟨k, n', t⟩ W hcs sv).mono fun e W' ⟨he, hg⟩ => ?_
  subst he
  exact ⟨_, rfl, AM.post_below (pa := _) (pv := []) hW' (fun _ _ _ => (trodAll_cons_mk (shut_bool Try.underlying4 _) trodAll_mk0)) (fun sp hsp => AM.trodAll_stays laid hg (by kernel_rfl) hAA (fun x hx => hW'.lt x (List.mem_append_left _ hx)) (fun x hx => hsp x (List.mem_append_left _ hx))) (fun _ _ => rfl) rfl
    hg (ok_one (by kernel_rfl) rfl (okWide_bool_mk Try.underlying4 _))⟩

theorem over : Rows.heapApartRow.holds Try.pinned (OpenSpec.ofChange Rows.heapApartSpec) :=
  OpenClaim.holds_of_wide 3 Try.f3 rfl rfl rfl rfl rfl rfl rfl ⟨rfl, rfl, rfl, rfl, rfl⟩ rfl rfl rfl rfl rfl (by kernel_rfl) Try.func3 (by kernel_rfl)
    (of_decide_eq_true (by kernel_rfl)) (by unfold Func.isWrapper; first | (rw [if_pos (by decide +kernel)]; kernel_rfl) | (rw [if_neg (by decide +kernel)]; exact ⟨rfl, rfl⟩))
    (fun os started H enc _ => lifted os started H enc)

theorem proved : Rows.HeapApartSaid :=
  over
#print axioms proved
end Go.Proofs.Ytaekibfknmanhaa.heapApart
