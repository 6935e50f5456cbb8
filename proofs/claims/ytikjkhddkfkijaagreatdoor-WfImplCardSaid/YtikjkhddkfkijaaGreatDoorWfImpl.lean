/- The law 'WfImpl' returns true, whatever the input; what it reads is as it was. Conditions: none. -/
import Derived.Test.YtikjkhddkfkijaaGreatDoorCards
import Derived.Test.YtikjkhddkfkijaaGreatDoorTie
import Derived.Test.YtikjkhddkfkijaaGreatDoorSh
import Derived.SevenTiedAt
import Derived.WalkKit
import Derived.ProofKit
import Derived.OpenShut
namespace Go.Proofs.YtikjkhddkfkijaaGreatDoor.wfImpl
open Go.ChangeShapes Go.WideShapes Go.ChangeAt Go.RowKit
set_option linter.unusedVariables false      -- a walk need not use every 'w<i>' (that an integer argument fits its kind)


/-- Of each number of methods: each number of functions, each pair of bools. -/
noncomputable def each (a : Nat) (p q : Bool) : Bool := (List.range 4).all fun b => Sh.runs 20000 3 [.int .i64 (.ofNat a), .int .i64 (.ofNat b), .bool p, .bool q]
theorem each0ff : each 0 false false = true := by kernel_rfl
theorem each0ft : each 0 false true = true := by kernel_rfl
theorem each0tf : each 0 true false = true := by kernel_rfl
theorem each0tt : each 0 true true = true := by kernel_rfl
theorem each1ff : each 1 false false = true := by kernel_rfl
theorem each1ft : each 1 false true = true := by kernel_rfl
theorem each1tf : each 1 true false = true := by kernel_rfl
theorem each1tt : each 1 true true = true := by kernel_rfl
theorem each2ff : each 2 false false = true := by kernel_rfl
theorem each2ft : each 2 false true = true := by kernel_rfl
theorem each2tf : each 2 true false = true := by kernel_rfl
theorem each2tt : each 2 true true = true := by kernel_rfl
theorem each3ff : each 3 false false = true := by kernel_rfl
theorem each3ft : each 3 false true = true := by kernel_rfl
theorem each3tf : each 3 true false = true := by kernel_rfl
theorem each3tt : each 3 true true = true := by kernel_rfl
theorem eachAll (p q : Bool) : ∀ a, a < 4 → each a p q = true := fun a ha => by
  rcases a with _ | _ | _ | _ | a
  · cases p <;> cases q
    · exact each0ff
    · exact each0ft
    · exact each0tf
    · exact each0tt
  · cases p <;> cases q
    · exact each1ff
    · exact each1ft
    · exact each1tf
    · exact each1tt
  · cases p <;> cases q
    · exact each2ff
    · exact each2ft
    · exact each2tf
    · exact each2tt
  · cases p <;> cases q
    · exact each3ff
    · exact each3ft
    · exact each3tf
    · exact each3tt
  · omega
theorem big0 (m : Nat) (y : Int) (p q : Bool) : Sh.runs 20000 3 [.int .i64 (.ofNat (m + 4)), .int .i64 y, .bool p, .bool q] = true := by kernel_rfl
theorem neg0 (m : Nat) (y : Int) (p q : Bool) : Sh.runs 20000 3 [.int .i64 (.negSucc m), .int .i64 y, .bool p, .bool q] = true := by kernel_rfl
theorem big1 (m : Nat) (p q : Bool) : ((List.range 4).all fun a => Sh.runs 20000 3 [.int .i64 (.ofNat a), .int .i64 (.ofNat (m + 4)), .bool p, .bool q]) = true := by kernel_rfl
theorem neg1 (m : Nat) (p q : Bool) : ((List.range 4).all fun a => Sh.runs 20000 3 [.int .i64 (.ofNat a), .int .i64 (.negSucc m), .bool p, .bool q]) = true := by kernel_rfl

/-! ### the walk -/
theorem walk (a0 : Int) (a1 : Int) (a2 : Bool) (a3 : Bool) (w0 : (Lit.int .i64 a0).wf = true) (w1 : (Lit.int .i64 a1).wf = true) (w : World) (hL : laidMetH Tryz.prog Sh.laid w) :
    Calls Tryz.prog 3 #[.int .i64 a0, .int .i64 a1, .bool a2, .bool a3] w fun e w' => e = .returned (.bool true) ∧ Below w.heap.size w w' := by
  have hx : ∀ (x y : Int) (p q : Bool), AM.VRels (fun _ => none) [.int .i64 x, .int .i64 y, .bool p, .bool q] (#[.int .i64 x, .int .i64 y, .bool p, .bool q] : Array Value).toList :=
    fun _ _ _ _ => .cons (.int _ _) (.cons (.int _ _) (.cons (.bool _) (.cons (.bool _) .nil)))
  have hm : ∀ {p : Nat → Bool} {n i : Nat}, (List.range n).all p = true → i < n → p i = true := fun h hi => List.all_eq_true.1 h _ (List.mem_range.2 hi)
  refine Sh.law (n := 20000) hL (hx _ _ _ _) (by kernel_rfl) ?_
  rcases a0 with n | k
  · by_cases hn : n < 4
    · rcases a1 with m | k
      · by_cases hm4 : m < 4
        · exact hm (eachAll a2 a3 n hn) hm4
        · obtain ⟨j, rfl⟩ : ∃ j, m = j + 4 := ⟨m - 4, by omega⟩
          exact hm (big1 j a2 a3) hn
      · exact hm (neg1 k a2 a3) hn
    · obtain ⟨j, rfl⟩ : ∃ j, n = j + 4 := ⟨n - 4, by omega⟩
      exact big0 j a1 a2 a3
  · exact neg0 k a1 a2 a3

/-! ### the row's step -/
set_option maxRecDepth 100000 in
theorem lifted (os : Os) (started : os.Started) (H : Type) (enc : TypeId × Value → H) :
    ReturnsInHanded {} Tryz.checked os 3 .any (fun w args => (Rows.wfImplSpec.pre enc Tryz.prog Tryz.f3 [] false w args ∧ laidMetH Tryz.prog Sh.laid w) ∧ sizedMet enc Tryz.prog Tryz.f3 (OpenSpec.ofChange Rows.wfImplSpec) false w args) (Rows.wfImplSpec.post enc Tryz.prog Tryz.f3 false true false false) := by
  refine returnsInHanded_of_change_and (C := Tryz.checked) (X := fun w _ => laidMetH Tryz.prog Sh.laid w) (fun _ _ _ hh h => h.of_heap hh) Sh.own started (by kernel_rfl) Tryz.func3
    (ChangeSpec.witness_at (enc := enc) (C := Tryz.checked) (os := os) (X := fun w _ => laidMetH Tryz.prog Sh.laid w) false (Sh.world os) #[.int .i64 0, .int .i64 0, .bool false, .bool false] 8 rfl (by kernel_rfl) (by kernel_rfl) (by kernel_rfl) (by kernel_rfl) (by kernel_rfl) (Sh.world_met os _)) ?_
  intro W base args ds gs before hval0 hW _ _ hL _
  have hval : ∀ (j : Nat) t v, Tryz.f3.params[j]? = some t → args[j]? = some v → Value.okWide Tryz.prog W .any base t v := hval0
  have hW' := hW
  obtain ⟨p, q, hA0, hV, rfl, hfz, hnd⟩ := hW
  have hA : DataW.TrodAll enc Tryz.prog W 0 (fun _ => true) true Tryz.f3.params.toList args.toList ds p := hA0
  rw [Tryz.params3] at hA hval
  obtain ⟨v0, vs0, d0, ds0, p0, q0, hargs, rfl, rfl, h0, r0⟩ := trodAll_cons hA
  obtain ⟨v1, vs1, d1, ds1, p1, q1, rfl, rfl, rfl, h1, r1⟩ := trodAll_cons r0
  obtain ⟨v2, vs2, d2, ds2, p2, q2, rfl, rfl, rfl, h2, r2⟩ := trodAll_cons r1
  obtain ⟨v3, vs3, d3, ds3, p3, q3, rfl, rfl, rfl, h3, r3⟩ := trodAll_cons r2
  obtain ⟨rfl, rfl, rfl⟩ := trodAll_nil r3
  obtain rfl : args = #[v0, v1, v2, v3] := by cases args; simp_all
  obtain ⟨rfl, rfl⟩ := trodVars_none hV
  obtain ⟨a0, rfl, rfl, rfl, w0⟩ := open_int Tryz.underlying3 (hval 0 3 v0 rfl rfl) h0
  obtain ⟨a1, rfl, rfl, rfl, w1⟩ := open_int Tryz.underlying3 (hval 1 3 v1 rfl rfl) h1
  obtain ⟨a2, rfl, rfl, rfl⟩ := open_bool Tryz.underlying4 (hval 2 4 v2 rfl rfl) h2
  obtain ⟨a3, rfl, rfl, rfl⟩ := open_bool Tryz.underlying4 (hval 3 4 v3 rfl rfl) h3
  clear hA0 hval0
  simp only [List.append_nil] at hW'
  refine (walk a0 a1 a2 a3 w0 w1 W hL).mono fun e W' ⟨he, hg⟩ => ?_
  subst he
  exact ⟨_, rfl, AM.post_below (pa := []) (pv := []) hW' (fun _ _ _ => (trodAll_cons_mk (shut_bool Tryz.underlying4 _) trodAll_mk0)) (fun sp _ => (trodAll_cons_mk (shut_int Tryz.underlying3 w0) (trodAll_cons_mk (shut_int Tryz.underlying3 w1) (trodAll_cons_mk (shut_bool Tryz.underlying4 _) (trodAll_cons_mk (shut_bool Tryz.underlying4 _) trodAll_mk0))))) (fun _ _ => rfl) rfl
    hg (ok_one (by kernel_rfl) rfl (okWide_bool_mk Tryz.underlying4 _))⟩

theorem over : Rows.wfImplRow.holds Tryz.pinned (OpenSpec.ofChange Rows.wfImplSpec) :=
  OpenClaim.holds_of_wide 3 Tryz.f3 rfl rfl rfl rfl rfl rfl rfl ⟨rfl, rfl, rfl, rfl, rfl⟩ rfl rfl rfl rfl rfl (by kernel_rfl) Tryz.func3 (by kernel_rfl)
    (of_decide_eq_true (by kernel_rfl)) (by unfold Func.isWrapper; first | (rw [if_pos (by decide +kernel)]; kernel_rfl) | (rw [if_neg (by decide +kernel)]; exact ⟨rfl, rfl⟩))
    (fun os started H enc _ => lifted os started H enc)

theorem plain (f : FuncId) (fn : Func) (hf : Tryz.pinned.checked.prog.funcNamed "haruspex/haruspexlaw12.WfImpl" = some f) (hfn : Tryz.pinned.checked.prog.funcs[f]? = some fn) :
    true = Tryz.pinned.checked.prog.looks [] ∧ ∀ (j : Nat) t, fn.params[j]? = some t → Tryz.pinned.checked.prog.wantsStandIn t = false := by
  obtain rfl : f = 3 := Option.some.inj ((show Tryz.prog.funcNamed "haruspex/haruspexlaw12.WfImpl" = some 3 by kernel_rfl).symm.trans hf) |>.symm
  obtain rfl : fn = Tryz.f3 := (Option.some.inj (Tryz.func3.symm.trans hfn)).symm
  refine ⟨by kernel_rfl, fun j t ht => ?_⟩
  have hall : (Tryz.f3.params.toList.all fun u => !Tryz.prog.wantsStandIn u) = true := by kernel_rfl
  exact (show Tryz.prog.wantsStandIn t = false by simpa using List.all_eq_true.1 hall t (Array.mem_toList_iff.2 (Array.mem_of_getElem? ht)))

theorem proved : Rows.WfImplCardSaid :=
  Claim7.holds_tied_plain_at .later [] _ _ _ _ over (fun _ h => by cases h) (by kernel_rfl) (fun _ h => by cases h) wfImpl_row_tie rfl ⟨rfl, rfl⟩ (by kernel_rfl) rfl plain (by kernel_rfl)
#print axioms proved
end Go.Proofs.YtikjkhddkfkijaaGreatDoor.wfImpl
