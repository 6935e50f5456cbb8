/- SemOracle: what its runs are; the argument's numbers. Conditions: none. -/
import Derived.Test.YtechgpjdlkjjoaaGreatDoorSh
import Derived.Deep.Slices
namespace Go.Proofs.YtechgpjdlkjjoaaGreatDoor.SO
open Go.ChangeShapes Go.WideShapes Go.RowKit
set_option linter.unusedVariables false
/-! the argument: some numbers -/
/-- The i-th number alone. -/
def unit (i : Nat) : List Int := List.replicate i 0 ++ [1]
theorem dot_unit [AM.Sig] : ∀ (i k : Nat), AM.dotFrom (unit i) k = AM.Sig.val (k + i)
  | 0, k => by show (1 : Int) * AM.Sig.val k + 0 = AM.Sig.val (k + 0); rw [Nat.add_zero]; omega
  | i + 1, k => by
    show (0 : Int) * AM.Sig.val k + AM.dotFrom (unit i) (k + 1) = AM.Sig.val (k + (i + 1))
    rw [dot_unit i (k + 1), show k + 1 + i = k + (i + 1) by omega]; omega
/-- So many numbers that come from without. -/
noncomputable def inp (n : Nat) : AM.Inp := fun k o => match k with
  | 1 => (match Nat.blt o n with
    | true => some (.lin (unit o) 0)
    | false => none)
  | _ => none
noncomputable def runsI (I : AM.Inp) (n g : Nat) (args : List AM.AVal) : Bool := AM.saysTrue (AM.runS (AM.withPrims Sh.prims (Sf.tab I)) n g args ⟨.nil, 0⟩)
theorem inp_ok {w : World} {b off n : Nat} {x : Nat → Int} (hx : ∀ i, i < n → w.cell? ⟨b, off + i, none⟩ = some (.int .i64 (x i)) ∧ (Lit.int .i64 (x i)).wf = true) : @AM.InpOk ⟨x, fun _ => (b, off)⟩ w (inp n) := by
  letI : AM.Sig := ⟨x, fun _ => (b, off)⟩
  intro k o v h
  unfold inp at h
  split at h
  · split at h
    · rename_i hb
      cases h
      rw [AM.blt_iff] at hb
      obtain ⟨h1, h2⟩ := hx o (by simpa using hb)
      have hp : AM.place 1 = (b, off) := AM.place_odd 0
      exact ⟨_, by rw [hp]; exact h1, fun ι => AM.lin_rel h2 (by rw [dot_unit, Nat.zero_add]; rfl) ι⟩
    · cases h
  · cases h
noncomputable abbrev T (I : AM.Inp) (n : Nat) : AM.CallFn := AM.runS (AM.withPrims Sh.prims (Sf.tab I)) n
theorem cut1 (I : AM.Inp) (n : Nat) (v x : AM.AVal) : runsI I (n + 3) 10 [v, x] = AM.saysTrue (AM.bnd (T I (n + 2) 16 [] ⟨.nil, 0⟩) fun v15 h1 => AM.bndP (AM.pUn .not v15) fun v17 =>
    AM.sCond v17 (Sf.f10.b0 I (T I (n + 2)) (Sf.f10.J I (T I (n + 2)) (n + 1)) v x h1) (some (.bool false, h1))) := by kernel_rfl
theorem b0eq (I : AM.Inp) (call : AM.CallFn) (n : Nat) (v : AM.AVal) (k : Int) (h : AM.AHeap) (h1 : 1 ≤ k) (h2 : k ≤ 25) :
    Sf.f10.b0 I call (Sf.f10.J I call (n + 1)) v (.int .i64 k) h = AM.bnd (call 24 [v] h) fun v19 g => Sf.f10.b1 I call (Sf.f10.J I call n) v19 (.int .i64 k) g := by
  unfold Sf.f10.b0
  refine congrArg (AM.bnd _) ?_
  funext v19 g
  simp [show ¬ k < 1 by omega, show ¬ 25 < k by omega]
  rfl
/-- What follows the guard. -/
noncomputable def tail (I : AM.Inp) (n : Nat) (v x : AM.AVal) : Bool := AM.saysTrue (AM.bnd (T I (n + 2) 16 [] ⟨.nil, 0⟩) fun v15 h1 => AM.bndP (AM.pUn .not v15) fun v17 =>
    AM.sCond v17 (AM.bnd (T I (n + 2) 24 [v] h1) fun v19 g => Sf.f10.b1 I (T I (n + 2)) (Sf.f10.J I (T I (n + 2)) n) v19 x g) (some (.bool false, h1)))
theorem cut (I : AM.Inp) (n : Nat) (v : AM.AVal) (k : Int) (h1 : 1 ≤ k) (h2 : k ≤ 25) : runsI I (n + 3) 10 [v, .int .i64 k] = tail I n v (.int .i64 k) := by
  rw [cut1]
  unfold tail
  refine congrArg AM.saysTrue (congrArg (AM.bnd _) ?_)
  funext v15 g
  rw [b0eq _ _ _ _ _ _ h1 h2]
/-- Right for every number 'n'. -/
noncomputable def good (I : AM.Inp) (v : AM.AVal) (m : Nat) : Bool :=
  ((List.range 14).all fun k => tail I 20000 v (.int .i64 (.ofNat (k + 1)))) && (tail I 20000 v (.int .i64 (.ofNat (m + 15))) &&
    (runsI I (20000 + 3) 10 [v, .int .i64 (.negSucc m)] && (runsI I (20000 + 3) 10 [v, .int .i64 (.ofNat 0)] && runsI I (20000 + 3) 10 [v, .int .i64 (.ofNat (m + 26))])))
theorem good_all {I : AM.Inp} {v : AM.AVal} (hg : ∀ m, good I v m = true) (k : Int) : runsI I (20000 + 3) 10 [v, .int .i64 k] = true := by
  have h : ∀ m, _ := fun m => by have := hg m; unfold good at this; simp only [Bool.and_eq_true] at this; exact this
  rcases k with k | k
  · rcases Nat.eq_zero_or_pos k with rfl | hk
    · exact (h 0).2.2.2.1
    · by_cases h1 : k < 15
      · obtain ⟨j, rfl⟩ : ∃ j, k = j + 1 := ⟨k - 1, by omega⟩
        show runsI I (20000 + 3) 10 [v, .int .i64 (Int.ofNat (j + 1))] = true
        rw [cut I 20000 v _ (by simp only [Int.ofNat_eq_natCast]; omega) (by simp only [Int.ofNat_eq_natCast]; omega)]
        exact List.all_eq_true.1 (h 0).1 j (List.mem_range.2 (by omega))
      · by_cases h2 : k < 26
        · obtain ⟨j, rfl⟩ : ∃ j, k = j + 15 := ⟨k - 15, by omega⟩
          show runsI I (20000 + 3) 10 [v, .int .i64 (Int.ofNat (j + 15))] = true
          rw [cut I 20000 v _ (by simp only [Int.ofNat_eq_natCast]; omega) (by simp only [Int.ofNat_eq_natCast]; omega)]
          exact (h j).2.1
        · obtain ⟨j, rfl⟩ : ∃ j, k = j + 26 := ⟨k - 26, by omega⟩
          exact (h j).2.2.2.2
  · exact (h k).2.2.1
/-- A slice of numbers that came in. -/
theorem open_nums {H : Type} {enc : TypeId × Value → H} {P : Program} {w : World} {r : Reach} {b0 : Nat} {t e : TypeId} {v : Value} {d : DataW H} {p : List MemPlace} (ht : P.underlying t = some (.slice e)) (he : P.underlying e = some (.int .i64)) (hc : P.cellsOf e = 1)
    (o : Value.okWide P w r b0 t v) (h : DataW.Trod enc P w 0 (fun _ => true) true t v d p) :
    v = .slice none 0 0 ∨ (∃ a, v = .slice (some a) 0 0) ∨ ∃ b off len cap, v = .slice (some ⟨b, off, none⟩) len cap ∧ len ≤ cap ∧ ∃ x : Nat → Int, ∀ i, i < len → w.cell? ⟨b, off + i, none⟩ = some (.int .i64 (x i)) ∧ (Lit.int .i64 (x i)).wf = true := by
  obtain ⟨a, len, cap, rfl⟩ := okWide_slice ht o
  obtain ⟨n, hn⟩ := h
  rcases Go.Deep.open_slice1 ht hc hn with ⟨h0, _⟩ | ⟨a', len', cap', m, n', V, D, Pl, h0, _, hl, _, hm, _, hx⟩
  · left; simpa [Value.cells] using h0
  · right
    have h1 : a = some a' ∧ len = len' ∧ cap = cap' := by simpa [Value.cells] using h0
    obtain ⟨rfl, rfl, rfl⟩ := h1
    rcases Nat.eq_zero_or_pos cap with hz | hz
    · subst hz
      obtain rfl : len = 0 := by omega
      exact .inl ⟨_, rfl⟩
    · right
      have hmc : m = cap := by simpa using hm
      have hsp : a'.spot = none := by
        have := (hx 0 (by omega)).1
        rw [show a'.add 0 = a' from rfl] at this
        unfold World.cell? at this
        split at this
        · cases hs : a'.spot with
          | none => rfl
          | some s => rw [hs] at this; cases this
        · cases this
      obtain ⟨b, off, sp⟩ := a'
      simp only at hsp
      subst hsp
      refine ⟨b, off, len, cap, rfl, hl, fun i => match V i with | .int _ k => k | _ => 0, fun i hi => ?_⟩
      obtain ⟨h1, h2⟩ := hx i (by omega)
      obtain ⟨k, hk, hw⟩ := AM.trod_int he h2
      simp only [List.cons.injEq, and_true] at hk
      rw [hk, AM.addr_add] at h1
      simp only [hk]
      exact ⟨h1, hw⟩
end Go.Proofs.YtechgpjdlkjjoaaGreatDoor.SO
