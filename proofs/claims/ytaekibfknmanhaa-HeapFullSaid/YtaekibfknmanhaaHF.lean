/- HeapFull, in the limit of the functions by their labels: what Alloc does at a heap of so many objects; the law. Conditions: none. -/
import Derived.Test.YtaekibfknmanhaaSfT

namespace Go.Proofs.Ytaekibfknmanhaa.HF
open Go.AM Go.Proofs.Ytaekibfknmanhaa.Sf

/-- A heap of 'm' objects at block 'kh'. -/
structure HI (kh m : Nat) (h : AHeap) : Prop where
  lt : kh < h.next
  top : h.next ≤ 3 * m + 10
  small : m ≤ 400
  zero : m = 0 → h.get kh = some ⟨[.nils], true⟩
  pos : 0 < m → ∃ k cells, k ≠ kh ∧ k < h.next ∧ h.get kh = some ⟨[.sl (.own k) 0 m (.grown 1)], true⟩ ∧ h.get k = some ⟨cells, true⟩ ∧ cells.length = m ∧ cells.all AVal.one = true

theorem build1 (i : Int) : pBuild [Z 0, .nils, .bool false] [(0, 1, .int .i64 i)] = some (.agg [.int .i64 i, .nils, .bool false]) := rfl
theorem alloc0 (I : Inp) (call : CallFn) (n kh : Nat) (i : Int) (h : AHeap) (hi : HI kh 0 h) : Res (f9.e I call (f9.J I call (n + 5)) (.ptr (.own kh) 0) (.int .i64 i) .nils h) fun v h' => v = .int .i64 1 ∧ HI kh 1 h' := by
  have hz := hi.zero rfl
  have ht := hi.top
  have hlt := hi.lt
  unfold f9.e
  simp [hz]
  rw [f9.Jn]
  unfold f9.b0
  simp (disch := omega) [sBox_eq, build1]
  rw [f9.Jn]
  simp only []
  unfold f9.b2
  simp
  rw [f9.Jn]
  simp only []
  unfold f9.b1
  simp (disch := first | omega | (simp only [AHeap.next_alloc, AHeap.next_set, AHeap.next_kill]; done) | (simp only [AHeap.next_alloc, AHeap.next_set, AHeap.next_kill]; omega)) [AHeap.alloc_ne, hz]
  rw [sBuildSlice_eq (cs := [.ptr (.own h.next) 0]) rfl (by simp; omega)]
  simp only [bnd_some', bndP_some', List.getElem?_cons_zero]
  rw [sAppend_nils (AHeap.alloc_at (by simp; omega) rfl) rfl rfl (by decide) (by simp; omega)]
  simp (disch := first | omega | (simp only [AHeap.next_alloc, AHeap.next_set, AHeap.next_kill]; done) | (simp only [AHeap.next_alloc, AHeap.next_set, AHeap.next_kill]; omega)) [AHeap.alloc_ne, AHeap.set_at, hz, setR, List.getElem?_cons_zero]
  refine ⟨?_, ?_, ?_, ?_, ?_⟩
  · simp; omega
  · simp; omega
  · omega
  · intro h; omega
  · intro _
    refine ⟨h.next + 2, [.ptr (.own h.next) 0], by omega, by simp, ?_, ?_, rfl, rfl⟩
    · simp (disch := first | omega | (simp only [AHeap.next_alloc, AHeap.next_set, AHeap.next_kill]; done) | (simp only [AHeap.next_alloc, AHeap.next_set, AHeap.next_kill]; omega)) [AHeap.set_at]
    · exact (AHeap.set_ne (by omega) (by omega)).trans (AHeap.alloc_at (by simp; omega) (by simp))

theorem alloc1 (I : Inp) (call : CallFn) (n kh m : Nat) (i : Int) (h : AHeap) (h0 : 0 < m) (hm : m < 400) (hi : HI kh m h) : Res (f9.e I call (f9.J I call (n + 5)) (.ptr (.own kh) 0) (.int .i64 i) .nils h) fun v h' => v = .int .i64 (m + 1 : Nat) ∧ HI kh (m + 1) h' := by
  obtain ⟨k, cells, hne, hk, hz, hc, hl, ha⟩ := hi.pos h0
  have ht := hi.top
  have hlt := hi.lt
  unfold f9.e
  simp [hz, show ¬ (400 : Int) ≤ m by omega]
  rw [f9.Jn]
  unfold f9.b0
  simp (disch := omega) [sBox_eq, build1]
  rw [f9.Jn]
  simp only []
  unfold f9.b2
  simp
  rw [f9.Jn]
  simp only []
  unfold f9.b1
  simp (disch := first | omega | (simp only [AHeap.next_alloc, AHeap.next_set, AHeap.next_kill]; done) | (simp only [AHeap.next_alloc, AHeap.next_set, AHeap.next_kill]; omega)) [AHeap.alloc_ne, hz]
  rw [sBuildSlice_eq (cs := [.ptr (.own h.next) 0]) rfl (by simp; omega)]
  simp only [bnd_some', bndP_some', List.getElem?_cons_zero]
  rw [sAppend_full (olds := cells) (px := true) (AHeap.alloc_at (by simp; omega) rfl) rfl rfl (by rw [AHeap.alloc_ne (by simp; omega) (by simp; omega), AHeap.alloc_ne (by omega) (by omega)]; exact hc) (by omega) ha (by omega) (by unfold bigRoom; omega) (by simp; omega)]
  simp (disch := first | omega | (simp only [AHeap.next_alloc, AHeap.next_set, AHeap.next_kill]; done) | (simp only [AHeap.next_alloc, AHeap.next_set, AHeap.next_kill]; omega)) [AHeap.alloc_ne, AHeap.kill_ne, AHeap.set_at, hz, setR, List.getElem?_cons_zero]
  refine ⟨?_, ?_, ?_, ?_, ?_⟩
  · simp; omega
  · simp; omega
  · omega
  · intro h; omega
  · intro _
    refine ⟨h.next + 2, cells ++ [.ptr (.own h.next) 0], by omega, by simp, ?_, ?_, by simp [hl], by simp [ha]⟩
    · simp (disch := first | omega | (simp only [AHeap.next_alloc, AHeap.next_set, AHeap.next_kill]; done) | (simp only [AHeap.next_alloc, AHeap.next_set, AHeap.next_kill]; omega)) [AHeap.set_at]
    · exact (AHeap.set_ne (by omega) (by omega)).trans (AHeap.alloc_at (by simp; omega) (by simp))

/-- Full: nothing is made. -/
theorem alloc2 (I : Inp) (call : CallFn) (n kh : Nat) (i : Int) (h : AHeap) (hi : HI kh 400 h) : f9.e I call (f9.J I call (n + 5)) (.ptr (.own kh) 0) (.int .i64 i) .nils h = some (.int .i64 0, h) := by
  obtain ⟨k, cells, hne, hk, hz, hc, hl, ha⟩ := hi.pos (by omega)
  unfold f9.e
  simp [hz]

section
variable {prims : Nat → Option Prim}
noncomputable abbrev L (prims : Nat → Option Prim) : CallFn := AM.lim ⟨P, fun _ _ => none, genF P prims⟩

theorem len0 {kh m : Nat} {h : AHeap} (hi : HI kh m h) (h16 : prims 16 = none) : L prims 16 [.ptr (.own kh) 0] h = some (.int .i64 m, h) := by
  refine Res.eq (f16.lim h16 (n := 1) ?_)
  unfold f16.e
  simp only [pEq_ptr_nil, bndP_some', sCond_f, f16.Jn]
  unfold f16.b0
  rcases Nat.eq_zero_or_pos m with h0 | h0
  · subst h0; simp [hi.zero rfl]
  · obtain ⟨k, cells, hne, hk, hz, hc, hl, ha⟩ := hi.pos h0
    simp [hz]

theorem alloc {kh m : Nat} {i : Int} {h : AHeap} (hi : HI kh m h) (h9 : prims 9 = none) (hm : m < 400) : Res (L prims 9 [.ptr (.own kh) 0, .int .i64 i, .nils] h) fun v h' => v = .int .i64 (m + 1 : Nat) ∧ HI kh (m + 1) h' := by
  refine f9.lim h9 (n := 5) ?_
  rcases Nat.eq_zero_or_pos m with h0 | h0
  · subst h0; exact alloc0 _ _ 0 kh i h hi
  · exact alloc1 _ _ 0 kh m i h h0 hm hi
theorem allocFull {kh : Nat} {i : Int} {h : AHeap} (hi : HI kh 400 h) (h9 : prims 9 = none) : L prims 9 [.ptr (.own kh) 0, .int .i64 i, .nils] h = some (.int .i64 0, h) :=
  Res.eq (f9.lim h9 (n := 5) (by rw [alloc2 _ _ 0 kh i h hi]; simp))

/-- The loop: 'm' objects there are, the next is number 'i'. -/
theorem loop (h9 : prims 9 = none) (h16 : prims 16 = none) (N : Nat) (hN : N ≤ 450) {kh : Nat} : ∀ (d i : Nat), N + 1 = i + d → 1 ≤ i → ∀ h, HI kh (min (i - 1) 400) h →
    ∃ k, Res ((f5.J (fun _ _ => none) (L prims) k).2.1 (.int .i64 N) (.ptr (.own kh) 0) (.int .i64 i) h) fun v _ => v = .bool true := by
  intro d
  induction d with
  | zero =>
    intro i hd h1 h hi
    refine ⟨2, ?_⟩
    rw [f5.Jn]
    simp only []
    unfold f5.b3
    simp [show ¬ (i : Int) ≤ N by omega]
    rw [f5.Jn]
    simp only []
    unfold f5.b2
    rw [len0 hi h16]
    simp [pMinmax, minInts]
    have : ¬ (400 : Int) < N ∨ (400 : Int) < N := by omega
    by_cases hx : (400 : Int) < N
    · simp [hx]; omega
    · simp [hx]; omega
  | succ d ih =>
    intro i hd h1 h hi
    by_cases hm : i - 1 < 400
    · have hmin : min (i - 1) 400 = i - 1 := by omega
      rw [hmin] at hi
      obtain ⟨v, h', e, rfl, hi'⟩ := alloc (i := (i : Int)) hi h9 hm
      obtain ⟨k, hk⟩ := ih (i + 1) (by omega) (by omega) h' (by rw [show min (i + 1 - 1) 400 = i - 1 + 1 by omega]; exact hi')
      refine ⟨k + 3, ?_⟩
      rw [f5.Jn]
      simp only []
      unfold f5.b3
      simp [show (i : Int) ≤ N by omega]
      rw [f5.Jn]
      simp only []
      unfold f5.b4
      rw [e]
      simp [show (i : Int) ≤ 400 by omega, show ¬ (400 : Int) < i by omega, show ((i - 1 : Nat) : Int) + 1 = i by omega]
      rw [f5.Jn]
      simp only []
      unfold f5.b5
      simp [wrap_in (n := (i : Int) + 1) (by omega) (by omega)]
      exact hk
    · have hmin : min (i - 1) 400 = 400 := by omega
      rw [hmin] at hi
      obtain ⟨k, hk⟩ := ih (i + 1) (by omega) (by omega) h (by rw [show min (i + 1 - 1) 400 = 400 by omega]; exact hi)
      refine ⟨k + 3, ?_⟩
      rw [f5.Jn]
      simp only []
      unfold f5.b3
      simp [show (i : Int) ≤ N by omega]
      rw [f5.Jn]
      simp only []
      unfold f5.b4
      rw [allocFull hi h9]
      simp [show ¬ (i : Int) ≤ 400 by omega, show (400 : Int) < i by omega]
      rw [f5.Jn]
      simp only []
      unfold f5.b5
      simp [wrap_in (n := (i : Int) + 1) (by omega) (by omega)]
      exact hk

/-- The law. -/
theorem law (h5 : prims 5 = none) (h7 : prims 7 = some yesPrim) (h8 : prims 8 = none) (h9 : prims 9 = none) (h16 : prims 16 = none) (n : Int) : Res (L prims 5 [.int .i64 n] ⟨.nil, 0⟩) fun v _ => v = .bool true := by
  have hb : L prims 7 [] ⟨.nil, 0⟩ = some (.bool true, ⟨.nil, 0⟩) := by
    refine lim_of (C := ⟨P, fun _ _ => none, genF P prims⟩) (n := 1) ?_
    simp only [callF, genF, h7]; rfl
  have hnew : L prims 8 [] ⟨.nil, 0⟩ = some (.ptr (.own 0) 0, (⟨.nil, 0⟩ : AHeap).alloc ⟨[.nils], true⟩) := by
    refine Res.eq (f8.lim h8 (n := 0) ?_)
    unfold f8.e
    rw [show pBuild [.nils] [] = some (.agg [.nils]) from rfl]
    simp (disch := (show (0 : Nat) + 2 ≤ 16777216; omega)) [sBox_eq]
  have hI : HI 0 0 ((⟨.nil, 0⟩ : AHeap).alloc ⟨[.nils], true⟩) :=
    ⟨by simp, by simp, by omega, fun _ => AHeap.alloc_at (by show 0 + 2 ≤ 16777216; omega) rfl, fun h => by omega⟩
  unfold L at hb hnew
  by_cases h0 : n < 0
  · refine f5.lim h5 (n := 2) ?_
    unfold f5.e
    rw [hb]
    simp
    rw [f5.Jn]
    simp only []
    unfold f5.b0
    simp [h0]
  · by_cases h1 : 450 < n
    · refine f5.lim h5 (n := 2) ?_
      unfold f5.e
      rw [hb]
      simp
      rw [f5.Jn]
      simp only []
      unfold f5.b0
      simp [h0, h1]
    · obtain ⟨N, rfl⟩ : ∃ N : Nat, n = N := ⟨n.toNat, by omega⟩
      obtain ⟨k, hk⟩ := loop h9 h16 N (by omega) N 1 (by omega) (by omega) _ hI
      unfold L at hk
      refine f5.lim h5 (n := k + 2) ?_
      unfold f5.e
      rw [hb]
      simp
      rw [f5.Jn]
      simp only []
      unfold f5.b0
      simp [h0, h1]
      rw [f5.Jn]
      simp only []
      unfold f5.b1
      rw [hnew]
      simp only [bnd_some']
      exact hk
end
end Go.Proofs.Ytaekibfknmanhaa.HF
