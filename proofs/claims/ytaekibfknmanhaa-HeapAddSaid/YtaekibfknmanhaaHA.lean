/- HeapAdd, in the limit of the functions by their labels: what Add, Zero and EqValue do; the law. Conditions: none. -/
import Derived.Test.YtaekibfknmanhaaSfT

set_option linter.unusedSimpArgs false
namespace Go.Proofs.Ytaekibfknmanhaa.HA
open Go.AM Go.Proofs.Ytaekibfknmanhaa.Sf

abbrev val (k n : Int) (t : Bool) : AVal := .agg [.int .i64 k, .int .i64 n, .bool t]

theorem eqValue (I : Inp) (call : CallFn) (k n k' n' : Int) (t t' : Bool) (h : AHeap) (hn : h.next + 10 ≤ 16777216) :
    Res (f13.e I call () (val k n t) (val k' n' t') h) fun v h' => v = .bool (decide (k = k' ∧ n = n' ∧ t = t')) ∧ Ext 2 h h' := by
  unfold f13.e
  have e : Ext 2 h ((h.alloc ⟨[.int .i64 k, .int .i64 n, .bool t], true⟩).alloc ⟨[.int .i64 k', .int .i64 n', .bool t'], true⟩) := ((Ext.refl h).alloc (by omega)).alloc (by simp; omega)
  by_cases h1 : k = k'
  · by_cases h2 : n = n'
    · simp (disch := first | omega | (simp only [AHeap.next_alloc, AHeap.next_set, AHeap.next_kill]; omega) | (unfold AHeap.At; omega) | (simp only [AHeap.next_alloc, AHeap.next_set, AHeap.next_kill]; unfold AHeap.At; omega)) [sBox_eq, AHeap.alloc_ne, AHeap.alloc_at, List.getElem?_cons_zero, List.getElem?_cons_succ, h1, h2]
      subst h1 h2
      exact ⟨by cases t <;> cases t' <;> rfl, e⟩
    · simp (disch := first | omega | (simp only [AHeap.next_alloc, AHeap.next_set, AHeap.next_kill]; omega) | (unfold AHeap.At; omega) | (simp only [AHeap.next_alloc, AHeap.next_set, AHeap.next_kill]; unfold AHeap.At; omega)) [sBox_eq, AHeap.alloc_ne, AHeap.alloc_at, List.getElem?_cons_zero, List.getElem?_cons_succ, h1, h2]
      subst h1
      exact e
  · simp (disch := first | omega | (simp only [AHeap.next_alloc, AHeap.next_set, AHeap.next_kill]; omega) | (unfold AHeap.At; omega) | (simp only [AHeap.next_alloc, AHeap.next_set, AHeap.next_kill]; unfold AHeap.At; omega)) [sBox_eq, AHeap.alloc_ne, AHeap.alloc_at, List.getElem?_cons_zero, List.getElem?_cons_succ, h1]
    exact e

abbrev typ (k n : Int) : AVal := .agg [.int .i64 k, .int .i64 n]

theorem zero15 (I : Inp) (call : CallFn) (n : Nat) (k m : Int) (h : AHeap) (hn : h.next + 10 ≤ 16777216) :
    Res (f15.e I call (f15.J I call (n + 1)) (typ k m) h) fun v h' => v = val (if k = 0 then 0 else 1) 0 false ∧ Ext 2 h h' := by
  unfold f15.e
  have e : ∀ a b : Blk, Ext 2 h ((h.alloc a).alloc b) := fun a b => ((Ext.refl h).alloc (by omega)).alloc (by simp; omega)
  have b0 : ∀ k : Nat, pBuild [Z 0, Z 0, .bool false] [(0, 1, Z k)] = some (val k 0 false) := fun k => rfl
  by_cases h1 : k = 0
  · simp (disch := first | omega | (simp only [AHeap.next_alloc, AHeap.next_set, AHeap.next_kill]; omega) | (unfold AHeap.At; omega) | (simp only [AHeap.next_alloc, AHeap.next_set, AHeap.next_kill]; unfold AHeap.At; omega)) [sBox_eq, sAlloc_eq, AHeap.alloc_ne, AHeap.alloc_at, List.getElem?_cons_zero, List.getElem?_cons_succ, h1, b0, setR, AHeap.set_at, sRet, sCons, sResN, oneOrTuple]
    exact (e _ _).set (by omega) (by omega)
  · simp (disch := first | omega | (simp only [AHeap.next_alloc, AHeap.next_set, AHeap.next_kill]; omega) | (unfold AHeap.At; omega) | (simp only [AHeap.next_alloc, AHeap.next_set, AHeap.next_kill]; unfold AHeap.At; omega)) [sBox_eq, sAlloc_eq, AHeap.alloc_ne, AHeap.alloc_at, List.getElem?_cons_zero, List.getElem?_cons_succ, h1]
    rw [f15.Jn]
    unfold f15.b0
    simp (disch := first | omega | (simp only [AHeap.next_alloc, AHeap.next_set, AHeap.next_kill]; omega) | (unfold AHeap.At; omega) | (simp only [AHeap.next_alloc, AHeap.next_set, AHeap.next_kill]; unfold AHeap.At; omega)) [b0, AHeap.alloc_ne, AHeap.alloc_at, setR, AHeap.set_at, sRet, sCons, sResN, oneOrTuple]
    exact (e _ _).set (by omega) (by omega)
theorem zero10 (I : Inp) (call : CallFn) (n : Nat) (k m : Int) (h : AHeap) (hn : h.next + 10 ≤ 16777216) :
    Res (f10.e I call (f10.J I call (n + 1)) (typ k m) h) fun v h' => v = val (if k = 0 then 0 else 1) 0 false ∧ Ext 2 h h' := by
  unfold f10.e
  have e : ∀ a b : Blk, Ext 2 h ((h.alloc a).alloc b) := fun a b => ((Ext.refl h).alloc (by omega)).alloc (by simp; omega)
  have b0 : ∀ k : Nat, pBuild [Z 0, Z 0, .bool false] [(0, 1, Z k)] = some (val k 0 false) := fun k => rfl
  by_cases h1 : k = 0
  · simp (disch := first | omega | (simp only [AHeap.next_alloc, AHeap.next_set, AHeap.next_kill]; omega) | (unfold AHeap.At; omega) | (simp only [AHeap.next_alloc, AHeap.next_set, AHeap.next_kill]; unfold AHeap.At; omega)) [sBox_eq, sAlloc_eq, AHeap.alloc_ne, AHeap.alloc_at, List.getElem?_cons_zero, List.getElem?_cons_succ, h1, b0, setR, AHeap.set_at, sRet, sCons, sResN, oneOrTuple]
    exact (e _ _).set (by omega) (by omega)
  · simp (disch := first | omega | (simp only [AHeap.next_alloc, AHeap.next_set, AHeap.next_kill]; omega) | (unfold AHeap.At; omega) | (simp only [AHeap.next_alloc, AHeap.next_set, AHeap.next_kill]; unfold AHeap.At; omega)) [sBox_eq, sAlloc_eq, AHeap.alloc_ne, AHeap.alloc_at, List.getElem?_cons_zero, List.getElem?_cons_succ, h1]
    rw [f10.Jn]
    unfold f10.b0
    simp (disch := first | omega | (simp only [AHeap.next_alloc, AHeap.next_set, AHeap.next_kill]; omega) | (unfold AHeap.At; omega) | (simp only [AHeap.next_alloc, AHeap.next_set, AHeap.next_kill]; unfold AHeap.At; omega)) [b0, AHeap.alloc_ne, AHeap.alloc_at, setR, AHeap.set_at, sRet, sCons, sResN, oneOrTuple]
    exact (e _ _).set (by omega) (by omega)

theorem add14 (I : Inp) (call : CallFn) (c : Nat) (k n k' n' : Int) (t t' : Bool) (h : AHeap) (hn : h.next + 10 ≤ 16777216) :
    Res (f14.e I call (f14.J I call (c + 1)) (val k n t) (val k' n' t') h) fun v h' => v = (if k = 0 ∧ k' = 0 then val 0 (IntKind.i64.wrap (n + n')) (t || t') else val 0 0 false) ∧ Ext 3 h h' := by
  unfold f14.e
  have e : ∀ a b c : Blk, Ext 3 h (((h.alloc a).alloc b).alloc c) := fun a b c => (((Ext.refl h).alloc (by omega)).alloc (by simp; omega)).alloc (by simp; omega)
  have b0 : pBuild [Z 0, Z 0, .bool false] [] = some (val 0 0 false) := rfl
  have b1 : ∀ (m : Int) (u : Bool), pBuild [Z 0, Z 0, .bool false] [(0, 1, Z 0), (1, 1, .int .i64 m), (2, 1, .bool u)] = some (val 0 m u) := fun m u => rfl
  by_cases h1 : k = 0
  · by_cases h2 : k' = 0
    · simp (disch := first | omega | (simp only [AHeap.next_alloc, AHeap.next_set, AHeap.next_kill]; omega) | (unfold AHeap.At; omega) | (simp only [AHeap.next_alloc, AHeap.next_set, AHeap.next_kill]; unfold AHeap.At; omega)) [sBox_eq, sAlloc_eq, AHeap.alloc_ne, AHeap.alloc_at, List.getElem?_cons_zero, List.getElem?_cons_succ, h1, h2]
      rw [f14.Jn]
      unfold f14.b0
      cases t <;> simp (disch := first | omega | (simp only [AHeap.next_alloc, AHeap.next_set, AHeap.next_kill]; omega) | (unfold AHeap.At; omega) | (simp only [AHeap.next_alloc, AHeap.next_set, AHeap.next_kill]; unfold AHeap.At; omega)) [b1, AHeap.alloc_ne, AHeap.alloc_at, List.getElem?_cons_zero, List.getElem?_cons_succ, setR, AHeap.set_at, sRet, sCons, sResN, oneOrTuple] <;> exact (e _ _ _).set (by omega) (by omega)
    · simp (disch := first | omega | (simp only [AHeap.next_alloc, AHeap.next_set, AHeap.next_kill]; omega) | (unfold AHeap.At; omega) | (simp only [AHeap.next_alloc, AHeap.next_set, AHeap.next_kill]; unfold AHeap.At; omega)) [sBox_eq, sAlloc_eq, AHeap.alloc_ne, AHeap.alloc_at, List.getElem?_cons_zero, List.getElem?_cons_succ, h1, h2, b0, setR, AHeap.set_at, sRet, sCons, sResN, oneOrTuple]
      exact (e _ _ _).set (by omega) (by omega)
  · simp (disch := first | omega | (simp only [AHeap.next_alloc, AHeap.next_set, AHeap.next_kill]; omega) | (unfold AHeap.At; omega) | (simp only [AHeap.next_alloc, AHeap.next_set, AHeap.next_kill]; unfold AHeap.At; omega)) [sBox_eq, sAlloc_eq, AHeap.alloc_ne, AHeap.alloc_at, List.getElem?_cons_zero, List.getElem?_cons_succ, h1, b0, setR, AHeap.set_at, sRet, sCons, sResN, oneOrTuple]
    exact (e _ _ _).set (by omega) (by omega)

section
variable {prims : Nat → Option Prim}

theorem law (h4 : prims 4 = none) (h7 : prims 7 = some yesPrim) (h10 : prims 10 = none) (h13 : prims 13 = none) (h14 : prims 14 = none) (h15 : prims 15 = none) (k n k' n' kt nt : Int) (t t' : Bool) :
    Res (AM.lim ⟨P, fun _ _ => none, genF P prims⟩ 4 [val k n t, val k' n' t', typ kt nt] ⟨.nil, 0⟩) fun v _ => v = .bool true := by
  have hb : ∀ h, AM.lim ⟨P, fun _ _ => none, genF P prims⟩ 7 [] h = some (.bool true, h) := fun h => by
    refine lim_of (C := ⟨P, fun _ _ => none, genF P prims⟩) (n := 1) ?_
    simp only [callF, genF, h7]; rfl
  refine f4.lim h4 (n := 3) ?_
  unfold f4.e
  have hn0 : (⟨.nil, 0⟩ : AHeap).next = 0 := rfl
  generalize (⟨.nil, 0⟩ : AHeap) = h0 at hn0
  simp (disch := first | omega | (simp only [AHeap.next_alloc, AHeap.next_set, AHeap.next_kill]; omega) | (unfold AHeap.At; omega) | (simp only [AHeap.next_alloc, AHeap.next_set, AHeap.next_kill]; unfold AHeap.At; omega)) [sBox_eq, hb]
  rw [f4.Jn]
  simp only []
  unfold f4.b0
  simp (disch := first | omega | (simp only [AHeap.next_alloc, AHeap.next_set, AHeap.next_kill]; omega) | (unfold AHeap.At; omega) | (simp only [AHeap.next_alloc, AHeap.next_set, AHeap.next_kill]; unfold AHeap.At; omega)) [AHeap.alloc_ne, AHeap.alloc_at, List.getElem?_cons_zero, List.getElem?_cons_succ]
  obtain ⟨v, h1, e1, hv, x1⟩ := f14.lim h14 (add14 (fun _ _ => none) (AM.lim ⟨P, fun _ _ => none, genF P prims⟩) 1 k n k' n' t t' (((h0.alloc ⟨[.int .i64 k, .int .i64 n, .bool t], true⟩).alloc ⟨[.int .i64 k', .int .i64 n', .bool t'], true⟩).alloc ⟨[.int .i64 kt, .int .i64 nt], true⟩) (by simp; omega))
  rw [e1]
  have l1 := x1.lo
  have l2 := x1.hi
  simp only [AHeap.next_alloc] at l1 l2
  have g0 := x1.same h0.next (by simp only [AHeap.next_alloc]; omega)
  have g1 := x1.same (h0.next + 1) (by simp only [AHeap.next_alloc]; omega)
  have g2 := x1.same (h0.next + 1 + 1) (by simp only [AHeap.next_alloc]; omega)
  simp (disch := first | omega | (simp only [AHeap.next_alloc, AHeap.next_set, AHeap.next_kill]; omega) | (unfold AHeap.At; omega) | (simp only [AHeap.next_alloc, AHeap.next_set, AHeap.next_kill]; unfold AHeap.At; omega)) [AHeap.alloc_ne, AHeap.alloc_at] at g0 g1 g2
  simp only [bnd_some']
  clear e1 x1
  -- the end, whatever is compared
  have fin : ∀ (h : AHeap) (N : Int) (T : Bool) (v5 : Nat), h.next + 100 ≤ 16777216 → h.get v5 = some ⟨[.int .i64 kt, .int .i64 nt], true⟩ → v5 < h.next →
      Res (bnd (AM.lim ⟨P, fun _ _ => none, genF P prims⟩ 13 [val 0 N T, val 0 N T] h) fun v46 h3 =>
        bnd (sGuard v46 .true (lift (pLoadN (fun _ _ => none) 2 (.ptr (.own v5) 0) h3) h3) h3) fun v48 h4 =>
        bnd (sGuard v46 .true (AM.lim ⟨P, fun _ _ => none, genF P prims⟩ 15 [v48] h4) h4) fun v49 h5 =>
        bnd (sGuard v46 .true (lift (pLoadN (fun _ _ => none) 2 (.ptr (.own v5) 0) h5) h5) h5) fun v50 h6 =>
        bnd (sGuard v46 .true (AM.lim ⟨P, fun _ _ => none, genF P prims⟩ 10 [v50] h6) h6) fun v51 h7 =>
        bnd (sGuard v46 .true (AM.lim ⟨P, fun _ _ => none, genF P prims⟩ 13 [v49, v51] h7) h7) fun v52 h8 =>
        bndP (pPick v46 v52 (.bool .false)) fun v53 =>
        sCheck (sSame (sGuard v46 .true (lift (pLoadN (fun _ _ => none) 2 (.ptr (.own v5) 0) h3) h3) h3) v50 && true) (some (v53, h8))) fun v _ => v = .bool true := by
    intro h N T v5 hn hg hlt
    obtain ⟨_, a1, e1, rfl, x1⟩ := f13.lim h13 (n := 0) (eqValue (fun _ _ => none) (AM.lim ⟨P, fun _ _ => none, genF P prims⟩) 0 N 0 N T T h (by omega))
    rw [e1]
    have y1 := x1.same v5 hlt
    have := x1.hi
    have := x1.lo
    simp [y1, hg]
    obtain ⟨_, a2, e2, rfl, x2⟩ := f15.lim h15 (zero15 (fun _ _ => none) (AM.lim ⟨P, fun _ _ => none, genF P prims⟩) 0 kt nt a1 (by omega))
    rw [e2]
    have y2 := x2.same v5 (by omega)
    have := x2.hi
    have := x2.lo
    simp [y2, y1, hg]
    obtain ⟨_, a3, e3, rfl, x3⟩ := f10.lim h10 (zero10 (fun _ _ => none) (AM.lim ⟨P, fun _ _ => none, genF P prims⟩) 0 kt nt a2 (by omega))
    rw [e3]
    have := x3.hi
    simp
    obtain ⟨_, a4, e4, rfl, x4⟩ := f13.lim h13 (n := 0) (eqValue (fun _ _ => none) (AM.lim ⟨P, fun _ _ => none, genF P prims⟩) (if kt = 0 then 0 else 1) 0 (if kt = 0 then 0 else 1) 0 false false a3 (by omega))
    rw [e4]
    simp
  have c1 : ∀ (m : Int) (u : Bool), pBuild [Z 0, Z 0, .bool false] [(1, 1, .int .i64 m), (2, 1, .bool u)] = some (val 0 m u) := fun m u => rfl
  have c0 : pBuild [Z 0, Z 0, .bool false] [] = some (val 0 0 false) := rfl
  have gg : ∀ b b' : Blk, ((h1.alloc b).set h1.next b').get (h0.next + 1 + 1) = some ⟨[.int .i64 kt, .int .i64 nt], true⟩ := fun b b' => by
    simp (disch := first | omega | (simp only [AHeap.next_alloc, AHeap.next_set, AHeap.next_kill]; omega) | (unfold AHeap.At; omega) | (simp only [AHeap.next_alloc, AHeap.next_set, AHeap.next_kill]; unfold AHeap.At; omega)) [AHeap.alloc_ne, AHeap.set_ne, g2]
  by_cases hk : k = 0
  · by_cases hk' : k' = 0
    · simp only [hk, hk', and_self, if_true] at hv
      subst hv
      simp (disch := first | omega | (simp only [AHeap.next_alloc, AHeap.next_set, AHeap.next_kill]; omega) | (unfold AHeap.At; omega) | (simp only [AHeap.next_alloc, AHeap.next_set, AHeap.next_kill]; unfold AHeap.At; omega)) [sAlloc_eq, AHeap.alloc_ne, AHeap.alloc_at, AHeap.set_ne, AHeap.set_at, g0, g1, g2, List.getElem?_cons_zero, List.getElem?_cons_succ, setR, hk, hk']
      rw [f4.Jn]
      simp only []
      unfold f4.b1
      have := fin ((h1.alloc ⟨[Z 0, Z 0, .bool false], true⟩).set h1.next ⟨[.int .i64 0, .int .i64 (IntKind.i64.wrap (n + n')), .bool (t || t')], true⟩) (IntKind.i64.wrap (n + n')) (t || t') (h0.next + 1 + 1) (by simp; omega) (gg _ _) (by simp; omega)
      simp only [rds_own', pLoadN_ptr] at this
      cases t <;> simp (disch := first | omega | (simp only [AHeap.next_alloc, AHeap.next_set, AHeap.next_kill]; omega) | (unfold AHeap.At; omega) | (simp only [AHeap.next_alloc, AHeap.next_set, AHeap.next_kill]; unfold AHeap.At; omega)) [AHeap.alloc_ne, AHeap.alloc_at, AHeap.set_ne, AHeap.set_at, g0, g1, g2, List.getElem?_cons_zero, List.getElem?_cons_succ, c1]
      · simpa using this
      · simpa using this
    · simp only [hk', and_false, if_false] at hv
      subst hv
      have := fin ((h1.alloc ⟨[Z 0, Z 0, .bool false], true⟩).set h1.next ⟨[.int .i64 0, .int .i64 0, .bool false], true⟩) 0 false (h0.next + 1 + 1) (by simp; omega) (gg _ _) (by simp; omega)
      simp only [rds_own', pLoadN_ptr] at this
      simp (disch := first | omega | (simp only [AHeap.next_alloc, AHeap.next_set, AHeap.next_kill]; omega) | (unfold AHeap.At; omega) | (simp only [AHeap.next_alloc, AHeap.next_set, AHeap.next_kill]; unfold AHeap.At; omega)) [sAlloc_eq, AHeap.alloc_ne, AHeap.alloc_at, AHeap.set_ne, AHeap.set_at, g0, g1, g2, List.getElem?_cons_zero, List.getElem?_cons_succ, setR, hk, hk', c0]
      simpa using this
  · simp only [hk, false_and, if_false] at hv
    subst hv
    have := fin ((h1.alloc ⟨[Z 0, Z 0, .bool false], true⟩).set h1.next ⟨[.int .i64 0, .int .i64 0, .bool false], true⟩) 0 false (h0.next + 1 + 1) (by simp; omega) (gg _ _) (by simp; omega)
    simp only [rds_own', pLoadN_ptr] at this
    simp (disch := first | omega | (simp only [AHeap.next_alloc, AHeap.next_set, AHeap.next_kill]; omega) | (unfold AHeap.At; omega) | (simp only [AHeap.next_alloc, AHeap.next_set, AHeap.next_kill]; unfold AHeap.At; omega)) [sAlloc_eq, AHeap.alloc_ne, AHeap.alloc_at, AHeap.set_ne, AHeap.set_at, g0, g1, g2, List.getElem?_cons_zero, List.getElem?_cons_succ, setR, hk, c0]
    simpa using this
end
end Go.Proofs.Ytaekibfknmanhaa.HA
