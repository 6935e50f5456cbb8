/- The law 'TypesTable' returns true, whatever the input; what it reads is as it was. Conditions: none. -/
import Derived.Test.YthihegmbdclikaaDoorCards
import Derived.Test.YthihegmbdclikaaDoorTie
import Derived.Test.YthihegmbdclikaaDoorSh
import Derived.SevenTiedAt
import Derived.WalkKit
import Derived.ProofKit
import Derived.OpenShut
namespace Go.Proofs.YthihegmbdclikaaDoor.typesTable
open Go.ChangeShapes Go.WideShapes Go.ChangeAt Go.RowKit
set_option linter.unusedVariables false      -- a walk need not use every 'w<i>' (that an integer argument fits its kind)


/-- Of one instruction, all registers and numbers. -/
noncomputable def each (o : Nat) : Bool := (List.range 5).all fun d => (List.range 5).all fun a => (List.range 5).all fun b => (List.range 2).all fun n =>
  Sh.runs 4000 3 [.int .i64 (.ofNat o), .int .i64 (.ofNat d), .int .i64 (.ofNat a), .int .i64 (.ofNat b), .int .i64 (.ofNat n)]
theorem each1 : each 1 = true := by kernel_rfl
theorem each2 : each 2 = true := by kernel_rfl
theorem each3 : each 3 = true := by kernel_rfl
theorem each4 : each 4 = true := by kernel_rfl
theorem each5 : each 5 = true := by kernel_rfl
theorem each6 : each 6 = true := by kernel_rfl
theorem each7 : each 7 = true := by kernel_rfl
theorem each8 : each 8 = true := by kernel_rfl
theorem each9 : each 9 = true := by kernel_rfl
theorem each10 : each 10 = true := by kernel_rfl
theorem each11 : each 11 = true := by kernel_rfl
theorem each12 : each 12 = true := by kernel_rfl
theorem each13 : each 13 = true := by kernel_rfl
theorem each14 : each 14 = true := by kernel_rfl
theorem each15 : each 15 = true := by kernel_rfl
theorem eachAll : ∀ o, o < 15 → each (o + 1) = true := fun o ho => by
  rcases o with _ | _ | _ | _ | _ | _ | _ | _ | _ | _ | _ | _ | _ | _ | _ | o
  · exact each1
  · exact each2
  · exact each3
  · exact each4
  · exact each5
  · exact each6
  · exact each7
  · exact each8
  · exact each9
  · exact each10
  · exact each11
  · exact each12
  · exact each13
  · exact each14
  · exact each15
  · omega
theorem big0 (m : Nat) (x2 : Int) (x3 : Int) (x4 : Int) (x5 : Int) : Sh.runs 4000 3 [.int .i64 (.ofNat (m + 16)), .int .i64 x2, .int .i64 x3, .int .i64 x4, .int .i64 x5] = true := by kernel_rfl
theorem neg0 (m : Nat) (x2 : Int) (x3 : Int) (x4 : Int) (x5 : Int) : Sh.runs 4000 3 [.int .i64 (.negSucc m), .int .i64 x2, .int .i64 x3, .int .i64 x4, .int .i64 x5] = true := by kernel_rfl
theorem big1 (m : Nat) (x3 : Int) (x4 : Int) (x5 : Int) : ((List.range 15).all fun o => Sh.runs 4000 3 [.int .i64 (.ofNat (o + 1)), .int .i64 (.ofNat (m + 5)), .int .i64 x3, .int .i64 x4, .int .i64 x5]) = true := by kernel_rfl
theorem neg1 (m : Nat) (x3 : Int) (x4 : Int) (x5 : Int) : ((List.range 15).all fun o => Sh.runs 4000 3 [.int .i64 (.ofNat (o + 1)), .int .i64 (.negSucc m), .int .i64 x3, .int .i64 x4, .int .i64 x5]) = true := by kernel_rfl
theorem big2 (m : Nat) (x4 : Int) (x5 : Int) : ((List.range 15).all fun o => (List.range 5).all fun d => Sh.runs 4000 3 [.int .i64 (.ofNat (o + 1)), .int .i64 (.ofNat d), .int .i64 (.ofNat (m + 5)), .int .i64 x4, .int .i64 x5]) = true := by kernel_rfl
theorem neg2 (m : Nat) (x4 : Int) (x5 : Int) : ((List.range 15).all fun o => (List.range 5).all fun d => Sh.runs 4000 3 [.int .i64 (.ofNat (o + 1)), .int .i64 (.ofNat d), .int .i64 (.negSucc m), .int .i64 x4, .int .i64 x5]) = true := by kernel_rfl
theorem big3 (m : Nat) (x5 : Int) : ((List.range 15).all fun o => (List.range 5).all fun d => (List.range 5).all fun a => Sh.runs 4000 3 [.int .i64 (.ofNat (o + 1)), .int .i64 (.ofNat d), .int .i64 (.ofNat a), .int .i64 (.ofNat (m + 5)), .int .i64 x5]) = true := by kernel_rfl
theorem neg3 (m : Nat) (x5 : Int) : ((List.range 15).all fun o => (List.range 5).all fun d => (List.range 5).all fun a => Sh.runs 4000 3 [.int .i64 (.ofNat (o + 1)), .int .i64 (.ofNat d), .int .i64 (.ofNat a), .int .i64 (.negSucc m), .int .i64 x5]) = true := by kernel_rfl
theorem big4 (m : Nat) : ((List.range 15).all fun o => (List.range 5).all fun d => (List.range 5).all fun a => (List.range 5).all fun b => Sh.runs 4000 3 [.int .i64 (.ofNat (o + 1)), .int .i64 (.ofNat d), .int .i64 (.ofNat a), .int .i64 (.ofNat b), .int .i64 (.ofNat (m + 2))]) = true := by kernel_rfl
theorem neg4 (m : Nat) : ((List.range 15).all fun o => (List.range 5).all fun d => (List.range 5).all fun a => (List.range 5).all fun b => Sh.runs 4000 3 [.int .i64 (.ofNat (o + 1)), .int .i64 (.ofNat d), .int .i64 (.ofNat a), .int .i64 (.ofNat b), .int .i64 (.negSucc m)]) = true := by kernel_rfl
theorem zero0 (x2 x3 x4 x5 : Int) : Sh.runs 4000 3 [.int .i64 (.ofNat 0), .int .i64 x2, .int .i64 x3, .int .i64 x4, .int .i64 x5] = true := by kernel_rfl

/-! ### the walk -/
theorem walk (a0 : Int) (a1 : Int) (a2 : Int) (a3 : Int) (a4 : Int) (w0 : (Lit.int .i64 a0).wf = true) (w1 : (Lit.int .i64 a1).wf = true) (w2 : (Lit.int .i64 a2).wf = true) (w3 : (Lit.int .i64 a3).wf = true) (w4 : (Lit.int .i64 a4).wf = true) (w : World) (hL : laidMetH Tryd.prog Sh.laid w) :
    Calls Tryd.prog 3 #[.int .i64 a0, .int .i64 a1, .int .i64 a2, .int .i64 a3, .int .i64 a4] w fun e w' => e = .returned (.bool true) ∧ Below w.heap.size w w' := by
  have hx : ∀ (x1 x2 x3 x4 x5 : Int), AM.VRels (fun _ => none) [.int .i64 x1, .int .i64 x2, .int .i64 x3, .int .i64 x4, .int .i64 x5] (#[.int .i64 x1, .int .i64 x2, .int .i64 x3, .int .i64 x4, .int .i64 x5] : Array Value).toList :=
    fun _ _ _ _ _ => .cons (.int _ _) (.cons (.int _ _) (.cons (.int _ _) (.cons (.int _ _) (.cons (.int _ _) .nil))))
  have hm : ∀ {p : Nat → Bool} {n i : Nat}, (List.range n).all p = true → i < n → p i = true := fun h hi => List.all_eq_true.1 h _ (List.mem_range.2 hi)
  refine Sh.law (n := 4000) hL (hx _ _ _ _ _) (by kernel_rfl) ?_
  rcases a0 with o | k
  · rcases o with _ | o
    · exact zero0 _ _ _ _
    · by_cases ho : o < 15
      · rcases a1 with d | k
        · by_cases hd : d < 5
          · rcases a2 with a | k
            · by_cases ha : a < 5
              · rcases a3 with b | k
                · by_cases hb : b < 5
                  · rcases a4 with n | k
                    · by_cases hn : n < 2
                      · exact hm (hm (hm (hm (eachAll o ho) hd) ha) hb) hn
                      · obtain ⟨m, rfl⟩ : ∃ m, n = m + 2 := ⟨n - 2, by omega⟩
                        exact hm (hm (hm (hm (big4 m) ho) hd) ha) hb
                    · exact hm (hm (hm (hm (neg4 k) ho) hd) ha) hb
                  · obtain ⟨m, rfl⟩ : ∃ m, b = m + 5 := ⟨b - 5, by omega⟩
                    exact hm (hm (hm (big3 m _) ho) hd) ha
                · exact hm (hm (hm (neg3 k _) ho) hd) ha
              · obtain ⟨m, rfl⟩ : ∃ m, a = m + 5 := ⟨a - 5, by omega⟩
                exact hm (hm (big2 m _ _) ho) hd
            · exact hm (hm (neg2 k _ _) ho) hd
          · obtain ⟨m, rfl⟩ : ∃ m, d = m + 5 := ⟨d - 5, by omega⟩
            exact hm (big1 m _ _ _) ho
        · exact hm (neg1 k _ _ _) ho
      · obtain ⟨m, rfl⟩ : ∃ m, o = m + 15 := ⟨o - 15, by omega⟩
        exact big0 m _ _ _ _
  · exact neg0 k _ _ _ _

/-! ### the row's step -/
set_option maxRecDepth 100000 in
theorem lifted (os : Os) (started : os.Started) (H : Type) (enc : TypeId × Value → H) :
    ReturnsInHanded {} Tryd.checked os 3 .any (fun w args => (Rows.typesTableSpec.pre enc Tryd.prog Tryd.f3 [] false w args ∧ laidMetH Tryd.prog Sh.laid w) ∧ sizedMet enc Tryd.prog Tryd.f3 (OpenSpec.ofChange Rows.typesTableSpec) false w args) (Rows.typesTableSpec.post enc Tryd.prog Tryd.f3 false true false false) := by
  refine returnsInHanded_of_change_and (C := Tryd.checked) (X := fun w _ => laidMetH Tryd.prog Sh.laid w) (fun _ _ _ hh h => h.of_heap hh) Sh.own started (by kernel_rfl) Tryd.func3
    (ChangeSpec.witness_at (enc := enc) (C := Tryd.checked) (os := os) (X := fun w _ => laidMetH Tryd.prog Sh.laid w) false (Sh.world os) #[.int .i64 0, .int .i64 0, .int .i64 0, .int .i64 0, .int .i64 0] 8 rfl (by kernel_rfl) (by kernel_rfl) (by kernel_rfl) (by kernel_rfl) (by kernel_rfl) (Sh.world_met os _)) ?_
  intro W base args ds gs before hval0 hW _ _ hL _
  have hval : ∀ (j : Nat) t v, Tryd.f3.params[j]? = some t → args[j]? = some v → Value.okWide Tryd.prog W .any base t v := hval0
  have hW' := hW
  obtain ⟨p, q, hA0, hV, rfl, hfz, hnd⟩ := hW
  have hA : DataW.TrodAll enc Tryd.prog W 0 (fun _ => true) true Tryd.f3.params.toList args.toList ds p := hA0
  rw [Tryd.params3] at hA hval
  obtain ⟨v0, vs0, d0, ds0, p0, q0, hargs, rfl, rfl, h0, r0⟩ := trodAll_cons hA
  obtain ⟨v1, vs1, d1, ds1, p1, q1, rfl, rfl, rfl, h1, r1⟩ := trodAll_cons r0
  obtain ⟨v2, vs2, d2, ds2, p2, q2, rfl, rfl, rfl, h2, r2⟩ := trodAll_cons r1
  obtain ⟨v3, vs3, d3, ds3, p3, q3, rfl, rfl, rfl, h3, r3⟩ := trodAll_cons r2
  obtain ⟨v4, vs4, d4, ds4, p4, q4, rfl, rfl, rfl, h4, r4⟩ := trodAll_cons r3
  obtain ⟨rfl, rfl, rfl⟩ := trodAll_nil r4
  obtain rfl : args = #[v0, v1, v2, v3, v4] := by cases args; simp_all
  obtain ⟨rfl, rfl⟩ := trodVars_none hV
  obtain ⟨a0, rfl, rfl, rfl, w0⟩ := open_int Tryd.underlying3 (hval 0 3 v0 rfl rfl) h0
  obtain ⟨a1, rfl, rfl, rfl, w1⟩ := open_int Tryd.underlying3 (hval 1 3 v1 rfl rfl) h1
  obtain ⟨a2, rfl, rfl, rfl, w2⟩ := open_int Tryd.underlying3 (hval 2 3 v2 rfl rfl) h2
  obtain ⟨a3, rfl, rfl, rfl, w3⟩ := open_int Tryd.underlying3 (hval 3 3 v3 rfl rfl) h3
  obtain ⟨a4, rfl, rfl, rfl, w4⟩ := open_int Tryd.underlying3 (hval 4 3 v4 rfl rfl) h4
  clear hA0 hval0
  simp only [List.append_nil] at hW'
  refine (walk a0 a1 a2 a3 a4 w0 w1 w2 w3 w4 W hL).mono fun e W' ⟨he, hg⟩ => ?_
  subst he
  exact ⟨_, rfl, AM.post_below (pa := []) (pv := []) hW' (fun _ _ _ => (trodAll_cons_mk (shut_bool Tryd.underlying4 _) trodAll_mk0)) (fun sp _ => (trodAll_cons_mk (shut_int Tryd.underlying3 w0) (trodAll_cons_mk (shut_int Tryd.underlying3 w1) (trodAll_cons_mk (shut_int Tryd.underlying3 w2) (trodAll_cons_mk (shut_int Tryd.underlying3 w3) (trodAll_cons_mk (shut_int Tryd.underlying3 w4) trodAll_mk0)))))) (fun _ _ => rfl) rfl
    hg (ok_one (by kernel_rfl) rfl (okWide_bool_mk Tryd.underlying4 _))⟩

theorem over : Rows.typesTableRow.holds Tryd.pinned (OpenSpec.ofChange Rows.typesTableSpec) :=
  OpenClaim.holds_of_wide 3 Tryd.f3 rfl rfl rfl rfl rfl rfl rfl ⟨rfl, rfl, rfl, rfl, rfl⟩ rfl rfl rfl rfl rfl (by kernel_rfl) Tryd.func3 (by kernel_rfl)
    (of_decide_eq_true (by kernel_rfl)) (by unfold Func.isWrapper; first | (rw [if_pos (by decide +kernel)]; kernel_rfl) | (rw [if_neg (by decide +kernel)]; exact ⟨rfl, rfl⟩))
    (fun os started H enc _ => lifted os started H enc)

theorem plain (f : FuncId) (fn : Func) (hf : Tryd.pinned.checked.prog.funcNamed "haruspex/haruspexlaw10.TypesTable" = some f) (hfn : Tryd.pinned.checked.prog.funcs[f]? = some fn) :
    true = Tryd.pinned.checked.prog.looks [] ∧ ∀ (j : Nat) t, fn.params[j]? = some t → Tryd.pinned.checked.prog.wantsStandIn t = false := by
  obtain rfl : f = 3 := Option.some.inj ((show Tryd.prog.funcNamed "haruspex/haruspexlaw10.TypesTable" = some 3 by kernel_rfl).symm.trans hf) |>.symm
  obtain rfl : fn = Tryd.f3 := (Option.some.inj (Tryd.func3.symm.trans hfn)).symm
  refine ⟨by kernel_rfl, fun j t ht => ?_⟩
  have hall : (Tryd.f3.params.toList.all fun u => !Tryd.prog.wantsStandIn u) = true := by kernel_rfl
  exact (show Tryd.prog.wantsStandIn t = false by simpa using List.all_eq_true.1 hall t (Array.mem_toList_iff.2 (Array.mem_of_getElem? ht)))

theorem proved : Rows.TypesTableCardSaid :=
  Claim7.holds_tied_plain_at .later [] _ _ _ _ over (fun _ h => by cases h) (by kernel_rfl) (fun _ h => by cases h) typesTable_row_tie rfl ⟨rfl, rfl⟩ (by kernel_rfl) rfl plain (by kernel_rfl)
#print axioms proved
end Go.Proofs.YthihegmbdclikaaDoor.typesTable
