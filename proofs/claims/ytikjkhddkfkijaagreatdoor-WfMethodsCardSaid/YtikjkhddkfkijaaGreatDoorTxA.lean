/- Contracts of the functions, part 0: what each function of the program and of the reference comes to. Conditions: as each lemma says. -/
import Derived.Test.YtikjkhddkfkijaaGreatDoorSfT
import Derived.Test.YtikjkhddkfkijaaGreatDoorAmZ
import Derived.Test.YtikjkhddkfkijaaGreatDoorSh
set_option linter.unusedSimpArgs false
set_option linter.unusedVariables false
namespace Go.Proofs.YtikjkhddkfkijaaGreatDoor.Tx
noncomputable section
open Go.AM Go.Proofs.YtikjkhddkfkijaaGreatDoor.Sf
section
variable {I : Inp} {h0 : AHeap}
def inB (n s : Int) : Prop := 0 ≤ n ∧ n < s

structure Pt where
  f : Int
  b : Int
  i : Int
  deriving DecidableEq, Inhabited
def noPt : Pt := ⟨-1, 0, 0⟩
abbrev ptV (p : Pt) : AVal := .agg [.int .i64 p.f, .int .i64 p.b, .int .i64 p.i]
theorem rnowhere (hb : AHeap) : Ret ((AM.lim ⟨P, I, genF P Sh.prims⟩) 14 [] hb) hb (ptV noPt) := by
  refine f14.lim rfl (n := 0) ?_
  unfold f14.e
  (repeat' (first | refine Rf (fun hF hG => ?_) (fun hF hG => ?_) | assumption | (show Ext _ _; exact Ext.go) | (simp only [AHeap.next_alloc, AHeap.next_set, AHeap.next_kill, AHeap.next_res] at hle hsame) | simp (disch := first | exact D.go | fail) [setR, List.getElem?_cons_zero, List.getElem?_cons_succ, noPt, *]))
theorem noPt_f : noPt.f = -1 := rfl
theorem noPt_b : noPt.b = 0 := rfl
theorem noPt_i : noPt.i = 0 := rfl
theorem nth_mem {α : Type} {xs : List α} {i : Int} (h : inB i xs.length) (d : α) : nth xs i d ∈ xs := by
  obtain ⟨h1, h2⟩ := h
  unfold nth
  have hk : i.toNat < xs.length := by omega
  rw [List.getD_eq_getElem?_getD, List.getElem?_eq_getElem hk]
  exact List.getElem_mem hk
/-- A slice to read from. -/
structure SlV {α : Type} (sz : Nat) (R : AM.Loc → Nat → α → Prop) (v : AVal) (xs : List α) : Prop where
  len : pLenSl v = some (.int .i64 xs.length)
  lt : xs.length ≤ 9223372036854775807
  at_ : ∀ {i : Nat} {x : α}, xs[i]? = some x → ∃ l o, pIndexAddr sz v (.int .i64 (i : Int)) = some (.ptr l o) ∧ R l o x
theorem _root_.Go.AM.SlOf.v {α : Type} {sz : Nat} {R : AM.Loc → Nat → α → Prop} {v : AVal} {xs : List α} (s : SlOf sz R v xs) : SlV sz R v xs := ⟨s.len, s.lt, s.at⟩
theorem _root_.Go.AM.SlOf.cut {α : Type} {sz : Nat} {R : AM.Loc → Nat → α → Prop} {v : AVal} {xs : List α} (s : SlOf sz R v xs) {m : Nat} (hm : m ≤ xs.length) : ∃ u, pSliceS sz v none (some (.int .i64 m)) none = some u ∧ SlV sz R u (xs.take m) := by
  rcases s with ⟨rfl, rfl⟩ | ⟨l, o, cap, rfl, c, n, hx⟩
  · obtain rfl : m = 0 := by simpa using hm
    exact ⟨.nils, rfl, by simpa using SlOf.v (SlOf.nil (R := R) (sz := sz))⟩
  · have hc := c m hm
    refine ⟨.sl l o m (capMinus cap 0), ?_, ?_, ?_, ?_⟩
    · show sliceV _ _ _ _ _ = _
      simp only [sliceV, optNatV, asNat]
      have : asNat (.int .i64 (m : Int)) = some m := rfl
      have hz : Nat.ble 0 m = true := Nat.ble_eq_true_of_le (Nat.zero_le m)
      simp [this, hc, hz]
    · simp [List.length_take, Nat.min_eq_left hm]
    · rw [List.length_take, Nat.min_eq_left hm]; omega
    · intro i x hi
      have hlt := (List.getElem?_eq_some_iff.1 hi).1
      rw [List.length_take, Nat.min_eq_left hm] at hlt
      rw [List.getElem?_take_of_lt hlt] at hi
      exact ⟨l, o + i * sz, pIndexAddr_sl hlt, hx i x hi⟩
theorem Res.after {r : Rs} {k : AVal → AHeap → Rs} {Q A : AVal → AHeap → Prop} (c : Res r A) (hk : ∀ v g, A v g → Res (k v g) Q) : Res (@Bnd r ⟨k⟩) Q := by
  obtain ⟨v, g, er, a⟩ := c
  rw [er]
  exact hk v g a
def ptCells (p : Pt) : List AVal := [.int .i64 p.f, .int .i64 p.b, .int .i64 p.i]
theorem pts_len : ∀ xs : List Pt, (xs.flatMap ptCells).length = xs.length * 3
  | [] => rfl
  | x :: xs => by simp only [List.flatMap_cons, List.length_append, List.length_cons, pts_len xs, ptCells, List.length_nil]; omega
theorem pts_one : ∀ xs : List Pt, (xs.flatMap ptCells).all AVal.one = true
  | [] => rfl
  | x :: xs => by simp only [List.flatMap_cons, List.all_append, pts_one xs, Bool.and_true]; rfl
/-- A slice of points that was made here. -/
def PtsO (hb h : AHeap) (v : AVal) (xs : List Pt) : Prop :=
  (v = .nils ∧ xs = []) ∨ ∃ k, v = .sl (.own k) 0 xs.length (.grown 3) ∧ h.get k = some ⟨xs.flatMap ptCells, true⟩ ∧ hb.next ≤ k ∧ k < h.next ∧ xs ≠ []
theorem PtsO.mono {hb h g : AHeap} {v : AVal} {xs : List Pt} (a : PtsO hb h v xs) (e : Ext h g) : PtsO hb g v xs := by
  rcases a with a | ⟨k, rfl, hk, h1, h2, h3⟩
  · exact .inl a
  · exact .inr ⟨k, rfl, by rw [e.same k h2]; exact hk, h1, by have := e.lo; omega, h3⟩
theorem app_pt {hb h : AHeap} {xs : List Pt} {v : AVal} (hv : PtsO hb h v xs) (eb : Ext hb h) (p : Pt) (hn : xs.length ≤ 1000000) {kw : Nat} {c : Cap} (hw : h.get kw = some ⟨ptCells p, true⟩) :
    Res (sAppend I 3 24 v (.sl (.own kw) 0 1 c) h) fun u g => PtsO hb g u (xs ++ [p]) ∧ Ext hb g := by
  rcases hv with ⟨rfl, rfl⟩ | ⟨k, rfl, hk, h1, h2, h3⟩
  · have := sAppend_nils (I := I) (sz := 3) (bytes := 24) (n := 0) (c := c) hw rfl rfl (by simp only [bigRoom]; omega)
    refine ⟨_, _, this, .inr ⟨h.next, rfl, ?_, eb.lo, by simp, by simp⟩, eb.alloc⟩
    simp [AHeap.alloc_at (Nb.o rfl)]
  · have := sAppend_full (I := I) (sz := 3) (bytes := 24) (n := 0) (c := c) hw rfl rfl hk (pts_len xs) (pts_one xs) (by omega) (by simp only [bigRoom]; omega)
    refine ⟨_, _, this, .inr ⟨h.next, ?_, ?_, eb.lo, by simp, by simp⟩, (eb.kill (Nb.o h1)).alloc⟩
    · simp
    · rw [show h.next = (h.kill k).next from rfl, AHeap.alloc_at (Nb.o rfl)]; simp
def bkPts (f b : Int) (j : Nat) : Nat → List Pt
  | 0 => []
  | c + 1 => ⟨f, b, j⟩ :: bkPts f b (j + 1) c
def fuPts (f : Int) : Nat → List Bk → List Pt
  | _, [] => []
  | b, x :: r => bkPts f b 0 (x.code.length + 1) ++ fuPts f (b + 1) r
def pgPts : Nat → List Fu → List Pt
  | _, [] => []
  | i, f :: r => fuPts i 0 f.blocks ++ pgPts (i + 1) r
theorem bkPts_len (f b : Int) : ∀ (c j : Nat), (bkPts f b j c).length = c
  | 0, _ => rfl
  | c + 1, j => by simp [bkPts, bkPts_len f b c]
def PtC (cs : List AVal) (p : Pt) : Prop := cs = ptCells p
theorem pts_get : ∀ (xs : List Pt) (i : Nat) (x : Pt) (j : Nat) (v : AVal), xs[i]? = some x → (ptCells x)[j]? = some v → (xs.flatMap ptCells)[i * 3 + j]? = some v
  | [], i, x, j, v, h, _ => by simp at h
  | y :: ys, 0, x, j, v, h, hv => by
    simp at h; subst h
    have hj : j < 3 := by have := (List.getElem?_eq_some_iff.1 hv).1; simpa [ptCells] using this
    rw [List.flatMap_cons, List.getElem?_append_left (by simp [ptCells]; omega)]
    simpa using hv
  | y :: ys, i + 1, x, j, v, h, hv => by
    have := pts_get ys i x j v (by simpa using h) hv
    rw [List.flatMap_cons, List.getElem?_append_right (by simp [ptCells]; omega)]
    rw [show (i + 1) * 3 + j - (ptCells y).length = i * 3 + j by simp [ptCells]; omega]
    exact this
theorem PtsO.v {hb h : AHeap} {v : AVal} {xs : List Pt} (a : PtsO hb h v xs) (hl : xs.length ≤ 1000000) : SlV 3 (At I h PtC) v xs := by
  rcases a with ⟨rfl, rfl⟩ | ⟨k, rfl, hk, h1, h2, h3⟩
  · exact SlOf.v SlOf.nil
  · refine ⟨rfl, by omega, fun {i x} hx => ⟨.own k, 0 + i * 3, pIndexAddr_sl (List.getElem?_eq_some_iff.1 hx).1, ptCells x, rfl, Cells.own hk h2 fun j v hv => ?_⟩⟩
    simp only [Nat.zero_add]
    exact pts_get xs i x j v hx hv
theorem bkPts_mem {f b : Int} {p : Pt} : ∀ (c j : Nat), p ∈ bkPts f b j c → ∃ k : Nat, j ≤ k ∧ k < j + c ∧ p = ⟨f, b, k⟩
  | 0, j, h => by simp [bkPts] at h
  | c + 1, j, h => by
    rcases List.mem_cons.1 h with rfl | h
    · exact ⟨j, by omega, by omega, rfl⟩
    · obtain ⟨k, h1, h2, h3⟩ := bkPts_mem c (j + 1) h
      exact ⟨k, by omega, by omega, h3⟩
theorem fuPts_mem {f : Int} {p : Pt} : ∀ (l : List Bk) (b : Nat), p ∈ fuPts f b l → ∃ (bi k : Nat) (x : Bk), l[bi]? = some x ∧ k ≤ x.code.length ∧ p = ⟨f, ((b + bi : Nat) : Int), k⟩
  | [], b, h => by simp [fuPts] at h
  | x :: r, b, h => by
    rcases List.mem_append.1 h with h | h
    · obtain ⟨k, h1, h2, h3⟩ := bkPts_mem _ _ h
      exact ⟨0, k, x, rfl, by omega, h3⟩
    · obtain ⟨bi, k, y, h1, h2, h3⟩ := fuPts_mem r (b + 1) h
      exact ⟨bi + 1, k, y, by simpa using h1, h2, by rw [h3]; congr 2; omega⟩
theorem pgPts_mem {p : Pt} : ∀ (l : List Fu) (i : Nat), p ∈ pgPts i l → ∃ (fi bi k : Nat) (f : Fu) (x : Bk), l[fi]? = some f ∧ f.blocks[bi]? = some x ∧ k ≤ x.code.length ∧ p = ⟨((i + fi : Nat) : Int), (bi : Int), k⟩
  | [], i, h => by simp [pgPts] at h
  | f :: r, i, h => by
    rcases List.mem_append.1 h with h | h
    · obtain ⟨bi, k, x, h1, h2, h3⟩ := fuPts_mem _ _ h
      exact ⟨0, bi, k, f, x, rfl, h1, h2, by simpa using h3⟩
    · obtain ⟨fi, bi, k, g, x, h1, h2, h3, h4⟩ := pgPts_mem r (i + 1) h
      exact ⟨fi + 1, bi, k, g, x, by simpa using h1, h2, h3, by rw [h4]; congr 2; omega⟩
theorem pMinmax_two (b : Int) : ∃ c, pMinmax false [Z 1000, .int .i64 b] = some (.int .i64 c) := ⟨if b < 1000 then b else 1000, by simp [pMinmax, minInts]⟩
/-- A bool. -/
def IsB (u : AVal) : Prop := ∃ b, u = .bool b
@[simp] theorem IsB_bool (b : Bool) : IsB (.bool b) = True := by simp [IsB]
end
end
end Go.Proofs.YtikjkhddkfkijaaGreatDoor.Tx

set_option linter.unusedSimpArgs false
set_option linter.unusedVariables false
namespace Go.Proofs.YtikjkhddkfkijaaGreatDoor.Tx
noncomputable section
open Go.AM Go.Proofs.YtikjkhddkfkijaaGreatDoor.Sf
def tyIds : TyIds := ⟨3, 37, 34, 25, 26, 39, 40, 42, 43, 45, 30, 36, 27, 47, 28, 49, 29, 32⟩
theorem tyOk : tyIds.Ok P := by
  constructor <;> kernel_rfl
section
variable {I : Inp}
theorem begun (h : AHeap) : (AM.lim ⟨P, I, genF P Sh.prims⟩) 9 [] h = some (.bool true, h) := by
  refine lim_of (C := ⟨P, I, genF P Sh.prims⟩) (n := 1) ?_
  simp only [callF, genF, show Sh.prims 9 = some AM.yesPrim from rfl]; rfl
theorem lawTrue {g : Nat} {args : List AVal} (hr : Res ((AM.lim ⟨P, I, genF P Sh.prims⟩) g args ⟨.nil, 0⟩) fun u _ => u = .bool true) : ∃ m, saysTrue (callF P I (genF P Sh.prims) m g args ⟨.nil, 0⟩) = true := by
  obtain ⟨v, h', e, rfl⟩ := hr
  exact lim_true (C := ⟨P, I, genF P Sh.prims⟩) e
end
end
end Go.Proofs.YtikjkhddkfkijaaGreatDoor.Tx

set_option linter.unusedSimpArgs false
set_option linter.unusedVariables false
namespace Go.Proofs.YtikjkhddkfkijaaGreatDoor.Tx
noncomputable section
open Go.AM Go.Proofs.YtikjkhddkfkijaaGreatDoor.Sf
section
variable {I : Inp} {h0 : AHeap}
theorem opCases (op : Int) : op = 1 ∨ op = 2 ∨ op = 3 ∨ op = 4 ∨ op = 5 ∨ op = 6 ∨ op = 7 ∨ op = 8 ∨ op = 9 ∨ op = 10 ∨ op = 11 ∨ op = 12 ∨ op = 13 ∨ op = 14 ∨ op = 15 ∨ (op < 1 ∨ 15 < op) := by omega
/-! what an instruction defines and reads -/
def defB (op : Int) : Bool := !dc (op < 1) && (!dc (15 < op) && (!dc (op = 8) && (!dc (op = 9) && !dc (op = 15))))
def dstOf (i : Ins) : Int := if defB i.op = true then i.dst else 0
theorem rDef {cs : List AVal} {i : Ins} (hi : InsC I h0 cs i) (hb : AHeap) : Ret ((AM.lim ⟨P, I, genF P Sh.prims⟩) 56 [.agg cs] hb) hb (.tuple [.int .i64 (dstOf i), .bool (defB i.op)]) := by
  obtain ⟨v, rfl, sv, _⟩ := hi
  refine f56.lim rfl (n := 2) ?_
  unfold f56.e
  (repeat' (first | refine Rf (fun hF hG => ?_) (fun hF hG => ?_) | assumption | (show Ext _ _; exact Ext.go) | (simp only [AHeap.next_alloc, AHeap.next_set, AHeap.next_kill, AHeap.next_res] at hle hsame) | simp (disch := first | exact D.go | fail) [setR, List.getElem?_cons_zero, List.getElem?_cons_succ, f56.n0, f56.b0, dstOf, defB, *]))
def usesL (i : Ins) : List Int :=
  if i.op = 2 then [i.a, i.b] else if i.op = 8 then [i.a, i.b] else if i.op = 6 then [i.a] else if i.op = 7 then [i.a] else if i.op = 9 then [i.a] else if i.op = 11 then [i.a] else if i.op = 15 then [i.a]
  else if i.op = 12 then i.args else if i.op = 13 then i.a :: i.args else if i.op = 14 then i.a :: i.args else []
theorem rUses {cs : List AVal} {i : Ins} (hi : InsC I h0 cs i) (hm : i.args.length ≤ 1000000) (hb : AHeap) (eb : Ext h0 hb) : Res ((AM.lim ⟨P, I, genF P Sh.prims⟩) 57 [.agg cs] hb) fun u g => SlOf 1 (IntA I g) u (usesL i) ∧ Ext hb g := by
  obtain ⟨op, dst, a, b, n, args⟩ := i
  obtain ⟨v, rfl, sv, r1, r2, r3, r4, r5⟩ := hi
  have one : ∀ (h : AHeap), SlOf 1 (IntA I (h.alloc ⟨[.int .i64 a], true⟩)) (.sl (.own h.next) 0 1 (.known 1)) [a] := fun h =>
    ints_new (xs := [a]) (AHeap.alloc_at (Nb.o rfl)) (by simp) (fun m hm => by simp [capHas]; simpa using hm) (by simp) (by simp) (by simpa using r3)
  have two : ∀ (h : AHeap), SlOf 1 (IntA I (h.alloc ⟨[.int .i64 a, .int .i64 b], true⟩)) (.sl (.own h.next) 0 2 (.known 2)) [a, b] := fun h =>
    ints_new (xs := [a, b]) (AHeap.alloc_at (Nb.o rfl)) (by simp) (fun m hm => by simp [capHas]; simpa using hm) (by simp) (by simp) (by simpa using ⟨r3, r4⟩)
  have hn := SlOf.nil (sz := 1) (R := IntA I (hb.alloc ⟨[.int .i64 op, .int .i64 dst, .int .i64 a, .int .i64 b, .int .i64 n, v], true⟩))
  have one' := one (hb.alloc ⟨[.int .i64 op, .int .i64 dst, .int .i64 a, .int .i64 b, .int .i64 n, v], true⟩)
  have two' := two (hb.alloc ⟨[.int .i64 op, .int .i64 dst, .int .i64 a, .int .i64 b, .int .i64 n, v], true⟩)
  simp only [AHeap.next_alloc] at one' two'
  rcases opCases op with rfl | rfl | rfl | rfl | rfl | rfl | rfl | rfl | rfl | rfl | rfl | rfl | rfl | rfl | rfl | h16
  all_goals (
    ((try (have n1 : ¬ op = 1 := by omega)); (try (have n2 : ¬ op = 2 := by omega)); (try (have n3 : ¬ op = 3 := by omega)); (try (have n4 : ¬ op = 4 := by omega)); (try (have n5 : ¬ op = 5 := by omega)); (try (have n6 : ¬ op = 6 := by omega)); (try (have n7 : ¬ op = 7 := by omega)); (try (have n8 : ¬ op = 8 := by omega)); (try (have n9 : ¬ op = 9 := by omega)); (try (have n10 : ¬ op = 10 := by omega)); (try (have n11 : ¬ op = 11 := by omega)); (try (have n12 : ¬ op = 12 := by omega)); (try (have n13 : ¬ op = 13 := by omega)); (try (have n14 : ¬ op = 14 := by omega)); (try (have n15 : ¬ op = 15 := by omega)))
    refine f57.lim rfl (n := 8) ?_
    unfold f57.e
    (repeat' (first | refine Rf (fun hF hG => ?_) (fun hF hG => ?_) | assumption | (show Ext _ _; exact Ext.go) | (simp only [AHeap.next_alloc, AHeap.next_set, AHeap.next_kill, AHeap.next_res] at hle hsame) | simp (disch := first | exact D.go | fail) [setR, List.getElem?_cons_zero, List.getElem?_cons_succ, f57.n0, f57.b0, f57.n1, f57.b1, f57.n2, f57.b2, f57.n3, f57.b3, usesL, *] | (refine Res.call (h0 := hb) (append_nil_ints sv Ext.go hm) ?_ (fun u g hA hg hlo hle hsame hx => ?_)) | (refine Res.call (h0 := hb) (append_one_ints (k := hb.next + 1) (a := a) (AHeap.alloc_at (by exact Nb.o (by simp))) (by simp) r3 sv Ext.go hm) ?_ (fun u g hA hg hlo hle hsame hx => ?_)))))
end
end
end Go.Proofs.YtikjkhddkfkijaaGreatDoor.Tx

set_option linter.unusedSimpArgs false
set_option linter.unusedVariables false
namespace Go.Proofs.YtikjkhddkfkijaaGreatDoor.Tx
noncomputable section
open Go.AM Go.Proofs.YtikjkhddkfkijaaGreatDoor.Sf
section
variable {I : Inp} {h0 : AHeap}
theorem tin (n s : Int) (h : AHeap) : (AM.lim ⟨P, I, genF P Sh.prims⟩) 73 [.int .i64 n, .int .i64 s] h = some (.bool (dc (inB n s)), h) := by
  refine Res.eq (f73.lim rfl (n := 0) ?_)
  unfold f73.e
  (repeat' (first | refine Rf (fun hF hG => ?_) (fun hF hG => ?_) | assumption | (show Ext _ _; exact Ext.go) | (simp only [AHeap.next_alloc, AHeap.next_set, AHeap.next_kill, AHeap.next_res] at hle hsame) | simp (disch := first | exact D.go | fail) [setR, List.getElem?_cons_zero, List.getElem?_cons_succ, inB, *]))
theorem rin (n s : Int) (h : AHeap) : (AM.lim ⟨P, I, genF P Sh.prims⟩) 34 [.int .i64 n, .int .i64 s] h = some (.bool (dc (inB n s)), h) := by
  refine Res.eq (f34.lim rfl (n := 0) ?_)
  unfold f34.e
  (repeat' (first | refine Rf (fun hF hG => ?_) (fun hF hG => ?_) | assumption | (show Ext _ _; exact Ext.go) | (simp only [AHeap.next_alloc, AHeap.next_set, AHeap.next_kill, AHeap.next_res] at hle hsame) | simp (disch := first | exact D.go | fail) [setR, List.getElem?_cons_zero, List.getElem?_cons_succ, inB, *]))
def regP (c : Bool) (r s : Int) : Prop := if c then inB r s else r = 0
theorem treg (c : Bool) (r s : Int) (h : AHeap) : (AM.lim ⟨P, I, genF P Sh.prims⟩) 115 [.bool c, .int .i64 r, .int .i64 s] h = some (.bool (dc (regP c r s)), h) := by
  refine Res.eq (f115.lim rfl (n := 1) ?_)
  unfold f115.e
  cases c
  · (repeat' (first | refine Rf (fun hF hG => ?_) (fun hF hG => ?_) | assumption | (show Ext _ _; exact Ext.go) | (simp only [AHeap.next_alloc, AHeap.next_set, AHeap.next_kill, AHeap.next_res] at hle hsame) | simp (disch := first | exact D.go | fail) [setR, List.getElem?_cons_zero, List.getElem?_cons_succ, f115.n0, f115.b0, regP, *]))
  · (repeat' (first | refine Rf (fun hF hG => ?_) (fun hF hG => ?_) | assumption | (show Ext _ _; exact Ext.go) | (simp only [AHeap.next_alloc, AHeap.next_set, AHeap.next_kill, AHeap.next_res] at hle hsame) | simp (disch := first | exact D.go | fail) [setR, List.getElem?_cons_zero, List.getElem?_cons_succ, f115.n0, f115.b0, tin, regP, *]))

/-- Does a type name something? -/
def namedP (q : Pg) (t : Ty) : Prop :=
  if t.kind = 0 then t.n = 0 else if t.kind = 1 then inB t.n q.recs.length else if t.kind = 2 then inB t.n q.sigs.length else if t.kind = 3 then inB t.n q.faces.length else False

theorem tnamed {l : AM.Loc} {o : Nat} {q : Pg} (hq : PgA I h0 l o q) (t : Ty) (hb : AHeap) (eb : Ext h0 hb) : Ret ((AM.lim ⟨P, I, genF P Sh.prims⟩) 112 [.ptr l o, .agg [.int .i64 t.kind, .int .i64 t.n]] hb) hb (.bool (dc (namedP q t))) := by
  obtain ⟨_, ⟨vr, vs, vf, vi, vu, rfl, rm, sr, ss, sf, si, su⟩, hc⟩ := hq
  refine f112.lim rfl (n := 2) ?_
  unfold f112.e
  (repeat' (first | refine Rf (fun hF hG => ?_) (fun hF hG => ?_) | assumption | (show Ext _ _; exact Ext.go) | (simp only [AHeap.next_alloc, AHeap.next_set, AHeap.next_kill, AHeap.next_res] at hle hsame) | simp (disch := first | exact D.go | fail) [setR, List.getElem?_cons_zero, List.getElem?_cons_succ, f112.n0, f112.b0, tin, hc.rd0, hc.rd1, hc.rd2, hc.rd3, hc.rd4, hc.rd5, sr.len, ss.len, sf.len, si.len, su.len, namedP, *]))
theorem rnamed {l : AM.Loc} {o : Nat} {q : Pg} (hq : PgA I h0 l o q) (t : Ty) (hb : AHeap) (eb : Ext h0 hb) : Ret ((AM.lim ⟨P, I, genF P Sh.prims⟩) 33 [.ptr l o, .agg [.int .i64 t.kind, .int .i64 t.n]] hb) hb (.bool (dc (namedP q t))) := by
  obtain ⟨_, ⟨vr, vs, vf, vi, vu, rfl, rm, sr, ss, sf, si, su⟩, hc⟩ := hq
  refine f33.lim rfl (n := 2) ?_
  unfold f33.e
  (repeat' (first | refine Rf (fun hF hG => ?_) (fun hF hG => ?_) | assumption | (show Ext _ _; exact Ext.go) | (simp only [AHeap.next_alloc, AHeap.next_set, AHeap.next_kill, AHeap.next_res] at hle hsame) | simp (disch := first | exact D.go | fail) [setR, List.getElem?_cons_zero, List.getElem?_cons_succ, f33.n0, f33.b0, tin, hc.rd0, hc.rd1, hc.rd2, hc.rd3, hc.rd4, hc.rd5, sr.len, ss.len, sf.len, si.len, su.len, namedP, inB, *]))

theorem tnumbers {v : AVal} {xs : List Int} (sv : SlOf 1 (IntA I h0) v xs) (s : Int) (hb : AHeap) (eb : Ext h0 hb) : Ret ((AM.lim ⟨P, I, genF P Sh.prims⟩) 113 [v, .int .i64 s] hb) hb (.bool (dc (AllL (fun x => inB x s) xs))) := by
  have hL := sv.lt
  obtain ⟨N, hN⟩ := Evt.loop xs (F := fun i n => ∀ h, Ext hb h → Res ((f113.J I (AM.lim ⟨P, I, genF P Sh.prims⟩) (n)).1.2 (.int .i64 s) v (.int .i64 xs.length) (.int .i64 i) h) fun u g => u = .bool (dc (AllL (fun x => inB x s) (xs.drop i))) ∧ Ext hb g) 5
    (Evt.all 5 fun n h e => by
      rw [f113.n1]; unfold f113.b1
      (repeat' (first | refine Rf (fun hF hG => ?_) (fun hF hG => ?_) | assumption | (show Ext _ _; exact Ext.go) | (simp only [AHeap.next_alloc, AHeap.next_set, AHeap.next_kill, AHeap.next_res] at hle hsame) | simp (disch := first | exact D.go | fail) [setR, List.getElem?_cons_zero, List.getElem?_cons_succ, f113.n0, f113.b0, f113.n2, f113.b2, f113.n3, f113.b3, *])))
    (fun i x n hx ih h e => by
      obtain ⟨l, o, hi, ha⟩ := sv.at hx
      obtain ⟨ha, hr⟩ := ha.int
      have hlt := lt_of_get hx
      have hw := wrap_in (n := (i : Int) + 1) ⟨by omega, by omega⟩
      simp only [Int.natCast_add, Int.natCast_one] at ih
      rw [drop_of_get hx]
      rw [f113.n1]; unfold f113.b1
      (repeat' (first | refine Rf (fun hF hG => ?_) (fun hF hG => ?_) | assumption | (show Ext _ _; exact Ext.go) | (simp only [AHeap.next_alloc, AHeap.next_set, AHeap.next_kill, AHeap.next_res] at hle hsame) | simp (disch := first | exact D.go | fail) [setR, List.getElem?_cons_zero, List.getElem?_cons_succ, f113.n0, f113.b0, f113.n2, f113.b2, f113.n3, f113.b3, tin, hi, ha, hw, hlt, *] | (refine Res.mono (ih _ (by omega) _ ?_) (fun u g hq => ?_); rotate_left; (obtain ⟨rfl, hq⟩ := hq); rotate_right))))
    0 (by omega)
  refine f113.lim rfl (n := N) ?_
  unfold f113.e
  (repeat' (first | refine Rf (fun hF hG => ?_) (fun hF hG => ?_) | assumption | (show Ext _ _; exact Ext.go) | (simp only [AHeap.next_alloc, AHeap.next_set, AHeap.next_kill, AHeap.next_res] at hle hsame) | simp (disch := first | exact D.go | fail) [setR, List.getElem?_cons_zero, List.getElem?_cons_succ, sv.len, *] | (refine Res.mono (hN _ (Nat.le_refl _) _ ?_) (fun u g hq => ?_); rotate_left; (obtain ⟨rfl, hq⟩ := hq); rotate_right)))
theorem tall {l : AM.Loc} {o : Nat} {q : Pg} (hq : PgA I h0 l o q) {v : AVal} {xs : List Ty} (sv : SlOf 2 (At I h0 TyC) v xs) (hb : AHeap) (eb : Ext h0 hb) : Ret ((AM.lim ⟨P, I, genF P Sh.prims⟩) 74 [.ptr l o, v] hb) hb (.bool (dc (AllL (namedP q) xs))) := by
  have hL := sv.lt
  obtain ⟨N, hN⟩ := Evt.loop xs (F := fun i n => ∀ h, Ext hb h → Res ((f74.J I (AM.lim ⟨P, I, genF P Sh.prims⟩) (n)).1.2 (.ptr l o) v (.int .i64 xs.length) (.int .i64 i) h) fun u g => u = .bool (dc (AllL (namedP q) (xs.drop i))) ∧ Ext hb g) 5
    (Evt.all 5 fun n h e => by
      rw [f74.n1]; unfold f74.b1
      (repeat' (first | refine Rf (fun hF hG => ?_) (fun hF hG => ?_) | assumption | (show Ext _ _; exact Ext.go) | (simp only [AHeap.next_alloc, AHeap.next_set, AHeap.next_kill, AHeap.next_res] at hle hsame) | simp (disch := first | exact D.go | fail) [setR, List.getElem?_cons_zero, List.getElem?_cons_succ, f74.n0, f74.b0, f74.n2, f74.b2, f74.n3, f74.b3, *])))
    (fun i x n hx ih h e => by
      obtain ⟨l1, o1, hi, ⟨_, ⟨rfl, r0, r1⟩, ha⟩⟩ := sv.at hx
      have hld := fun g e => ha.rds (n := 2) g e rfl (by omega)
      have hlt := lt_of_get hx
      have hw := wrap_in (n := (i : Int) + 1) ⟨by omega, by omega⟩
      simp only [Int.natCast_add, Int.natCast_one] at ih
      rw [drop_of_get hx]
      rw [f74.n1]; unfold f74.b1
      have hlo := e.lo
      (repeat' (first | refine Rf (fun hF hG => ?_) (fun hF hG => ?_) | assumption | (show Ext _ _; exact Ext.go) | (simp only [AHeap.next_alloc, AHeap.next_set, AHeap.next_kill, AHeap.next_res] at hle hsame) | simp (disch := first | exact D.go | fail) [setR, List.getElem?_cons_zero, List.getElem?_cons_succ, f74.n0, f74.b0, f74.n2, f74.b2, f74.n3, f74.b3, hi, hld, hw, hlt, *] | (refine Ret.thn (h0 := hb) (tnamed hq _ _ Ext.go) ?_ (fun g hg hlo hle hsame hx => ?_)) | (refine Res.mono (ih _ (by omega) _ ?_) (fun u g hq => ?_); rotate_left; (obtain ⟨rfl, hq⟩ := hq); rotate_right))))
    0 (by omega)
  refine f74.lim rfl (n := N) ?_
  unfold f74.e
  (repeat' (first | refine Rf (fun hF hG => ?_) (fun hF hG => ?_) | assumption | (show Ext _ _; exact Ext.go) | (simp only [AHeap.next_alloc, AHeap.next_set, AHeap.next_kill, AHeap.next_res] at hle hsame) | simp (disch := first | exact D.go | fail) [setR, List.getElem?_cons_zero, List.getElem?_cons_succ, sv.len, *] | (refine Res.mono (hN _ (Nat.le_refl _) _ ?_) (fun u g hq => ?_); rotate_left; (obtain ⟨rfl, hq⟩ := hq); rotate_right)))

/-- Do all lists ahead of the functions name something? -/
def listsB (q : Pg) : Bool := dc (AllL (fun r => AllL (namedP q) r) q.recs) && dc (AllL (fun s => AllL (namedP q) s.params ∧ namedP q s.res) q.sigs) && dc (AllL (fun f => AllL (fun x => inB x q.sigs.length) f) q.faces) &&
  dc (AllL (fun m => inB m.rec_ q.recs.length ∧ inB m.face q.faces.length ∧ AllL (fun x => inB x q.funcs.length) m.funcs) q.impls)
theorem tlists {l : AM.Loc} {o : Nat} {q : Pg} (hq : PgA I h0 l o q) (hb : AHeap) (eb : Ext h0 hb) : Ret ((AM.lim ⟨P, I, genF P Sh.prims⟩) 72 [.ptr l o] hb) hb (.bool (listsB q)) := by
  have hq' := hq
  obtain ⟨_, ⟨vr, vs, vf, vi, vu, rfl, rm, sr, ss, sf, si, su⟩, hc⟩ := hq
  have lr := sr.lt; have ls := ss.lt; have lf := sf.lt; have li := si.lt
  have h4 := Evt.loop q.impls (F := fun i n => ∀ (ok : Bool) h, Ext hb h → Res ((f72.J I (AM.lim ⟨P, I, genF P Sh.prims⟩) (n)).2.2.1.2 (.ptr l o) (.bool ok) vi (.int .i64 q.impls.length) (.int .i64 i) h) fun u g => u = .bool (ok && dc (AllL (fun m => inB m.rec_ q.recs.length ∧ inB m.face q.faces.length ∧ AllL (fun x => inB x q.funcs.length) m.funcs) (q.impls.drop i))) ∧ Ext hb g) 8
    (Evt.all 8 fun n ok h e => by
      rw [f72.n13]; unfold f72.b13
      (repeat' (first | refine Rf (fun hF hG => ?_) (fun hF hG => ?_) | assumption | (show Ext _ _; exact Ext.go) | (simp only [AHeap.next_alloc, AHeap.next_set, AHeap.next_kill, AHeap.next_res] at hle hsame) | simp (disch := first | exact D.go | fail) [setR, List.getElem?_cons_zero, List.getElem?_cons_succ, f72.n0, f72.b0, f72.n2, f72.b2, f72.n3, f72.b3, f72.n4, f72.b4, f72.n6, f72.b6, f72.n7, f72.b7, f72.n8, f72.b8, f72.n10, f72.b10, f72.n11, f72.b11, f72.n12, f72.b12, f72.n14, f72.b14, f72.n15, f72.b15, *])))
    (fun i x n hx ih ok h e => by
      obtain ⟨l1, o1, hi, ⟨_, ⟨w, rfl, r0, r1, sw⟩, ha⟩⟩ := si.at hx
      have hld := fun g e => ha.rds (n := 3) g e rfl (by omega)
      have hlt := lt_of_get hx
      have hw := wrap_in (n := (i : Int) + 1) ⟨by omega, by omega⟩
      simp only [Int.natCast_add, Int.natCast_one] at ih
      rw [drop_of_get hx]
      rw [f72.n13]; unfold f72.b13
      have hlo := e.lo
      (repeat' (first | refine Rf (fun hF hG => ?_) (fun hF hG => ?_) | assumption | (show Ext _ _; exact Ext.go) | (simp only [AHeap.next_alloc, AHeap.next_set, AHeap.next_kill, AHeap.next_res] at hle hsame) | simp (disch := first | exact D.go | fail) [setR, List.getElem?_cons_zero, List.getElem?_cons_succ, f72.n0, f72.b0, f72.n2, f72.b2, f72.n3, f72.b3, f72.n4, f72.b4, f72.n6, f72.b6, f72.n7, f72.b7, f72.n8, f72.b8, f72.n10, f72.b10, f72.n11, f72.b11, f72.n12, f72.b12, f72.n14, f72.b14, f72.n15, f72.b15, hi, hld, hw, hlt, tin, hc.rd0, hc.rd1, hc.rd2, hc.rd3, hc.rd4, hc.rd5, sr.len, ss.len, sf.len, si.len, su.len, sw.one, sw.cells, *] | (refine Ret.thn (h0 := hb) (tnumbers sw _ _ Ext.go) ?_ (fun g hg hlo hle hsame hx => ?_)) | (refine Res.mono (ih _ (by omega) _ _ ?_) (fun u g hq => ?_); rotate_left; (obtain ⟨rfl, hq⟩ := hq); rotate_right))))
    0 (by omega)
  have h3 := Evt.loop q.faces (F := fun i n => ∀ (ok : Bool) h, Ext hb h → Res ((f72.J I (AM.lim ⟨P, I, genF P Sh.prims⟩) (n)).2.1.1.2 (.ptr l o) (.bool ok) vf (.int .i64 q.faces.length) (.int .i64 i) h) fun u g => u = .bool (ok && dc (AllL (fun f => AllL (fun x => inB x q.sigs.length) f) (q.faces.drop i)) && dc (AllL (fun m => inB m.rec_ q.recs.length ∧ inB m.face q.faces.length ∧ AllL (fun x => inB x q.funcs.length) m.funcs) (q.impls))) ∧ Ext hb g) 8
    (Evt.step 8 h4 fun n hn ok h e => by
      rw [f72.n9]; unfold f72.b9
      (repeat' (first | refine Rf (fun hF hG => ?_) (fun hF hG => ?_) | assumption | (show Ext _ _; exact Ext.go) | (simp only [AHeap.next_alloc, AHeap.next_set, AHeap.next_kill, AHeap.next_res] at hle hsame) | simp (disch := first | exact D.go | fail) [setR, List.getElem?_cons_zero, List.getElem?_cons_succ, f72.n0, f72.b0, f72.n2, f72.b2, f72.n3, f72.b3, f72.n4, f72.b4, f72.n6, f72.b6, f72.n7, f72.b7, f72.n8, f72.b8, f72.n10, f72.b10, f72.n11, f72.b11, f72.n12, f72.b12, f72.n14, f72.b14, f72.n15, f72.b15, hc.rd0, hc.rd1, hc.rd2, hc.rd3, hc.rd4, hc.rd5, sr.len, ss.len, sf.len, si.len, su.len, *] | (refine Res.mono (hn _ (by omega) _ _ ?_) (fun u g hq => ?_); rotate_left; (obtain ⟨rfl, hq⟩ := hq); rotate_right))))
    (fun i x n hx ih ok h e => by
      obtain ⟨l1, o1, hi, ⟨_, ⟨w, rfl, sw⟩, ha⟩⟩ := sf.at hx
      have hld := fun g e => ha.rds (n := 1) g e rfl (by omega)
      have hlt := lt_of_get hx
      have hw := wrap_in (n := (i : Int) + 1) ⟨by omega, by omega⟩
      simp only [Int.natCast_add, Int.natCast_one] at ih
      rw [drop_of_get hx]
      rw [f72.n9]; unfold f72.b9
      have hlo := e.lo
      (repeat' (first | refine Rf (fun hF hG => ?_) (fun hF hG => ?_) | assumption | (show Ext _ _; exact Ext.go) | (simp only [AHeap.next_alloc, AHeap.next_set, AHeap.next_kill, AHeap.next_res] at hle hsame) | simp (disch := first | exact D.go | fail) [setR, List.getElem?_cons_zero, List.getElem?_cons_succ, f72.n0, f72.b0, f72.n2, f72.b2, f72.n3, f72.b3, f72.n4, f72.b4, f72.n6, f72.b6, f72.n7, f72.b7, f72.n8, f72.b8, f72.n10, f72.b10, f72.n11, f72.b11, f72.n12, f72.b12, f72.n14, f72.b14, f72.n15, f72.b15, hi, hld, hw, hlt, tin, hc.rd0, hc.rd1, hc.rd2, hc.rd3, hc.rd4, hc.rd5, sr.len, ss.len, sf.len, si.len, su.len, sw.one, sw.cells, *] | (refine Ret.thn (h0 := hb) (tnumbers sw _ _ Ext.go) ?_ (fun g hg hlo hle hsame hx => ?_)) | (refine Res.mono (ih _ (by omega) _ _ ?_) (fun u g hq => ?_); rotate_left; (obtain ⟨rfl, hq⟩ := hq); rotate_right))))
    0 (by omega)
  have h2 := Evt.loop q.sigs (F := fun i n => ∀ (ok : Bool) h, Ext hb h → Res ((f72.J I (AM.lim ⟨P, I, genF P Sh.prims⟩) (n)).1.2.1.2 (.ptr l o) (.bool ok) vs (.int .i64 q.sigs.length) (.int .i64 i) h) fun u g => u = .bool (ok && dc (AllL (fun s => (AllL (namedP q) s.params) ∧ namedP q s.res) (q.sigs.drop i)) && dc (AllL (fun f => AllL (fun x => inB x q.sigs.length) f) (q.faces)) && dc (AllL (fun m => inB m.rec_ q.recs.length ∧ inB m.face q.faces.length ∧ AllL (fun x => inB x q.funcs.length) m.funcs) (q.impls))) ∧ Ext hb g) 8
    (Evt.step 8 h3 fun n hn ok h e => by
      rw [f72.n5]; unfold f72.b5
      (repeat' (first | refine Rf (fun hF hG => ?_) (fun hF hG => ?_) | assumption | (show Ext _ _; exact Ext.go) | (simp only [AHeap.next_alloc, AHeap.next_set, AHeap.next_kill, AHeap.next_res] at hle hsame) | simp (disch := first | exact D.go | fail) [setR, List.getElem?_cons_zero, List.getElem?_cons_succ, f72.n0, f72.b0, f72.n2, f72.b2, f72.n3, f72.b3, f72.n4, f72.b4, f72.n6, f72.b6, f72.n7, f72.b7, f72.n8, f72.b8, f72.n10, f72.b10, f72.n11, f72.b11, f72.n12, f72.b12, f72.n14, f72.b14, f72.n15, f72.b15, hc.rd0, hc.rd1, hc.rd2, hc.rd3, hc.rd4, hc.rd5, sr.len, ss.len, sf.len, si.len, su.len, *] | (refine Res.mono (hn _ (by omega) _ _ ?_) (fun u g hq => ?_); rotate_left; (obtain ⟨rfl, hq⟩ := hq); rotate_right))))
    (fun i x n hx ih ok h e => by
      obtain ⟨l1, o1, hi, ⟨_, ⟨w, rfl, sw, r0, r1⟩, ha⟩⟩ := ss.at hx
      have hld := fun g e => ha.rds (n := 3) g e rfl (by omega)
      have hlt := lt_of_get hx
      have hw := wrap_in (n := (i : Int) + 1) ⟨by omega, by omega⟩
      simp only [Int.natCast_add, Int.natCast_one] at ih
      rw [drop_of_get hx]
      rw [f72.n5]; unfold f72.b5
      have hlo := e.lo
      (repeat' (first | refine Rf (fun hF hG => ?_) (fun hF hG => ?_) | assumption | (show Ext _ _; exact Ext.go) | (simp only [AHeap.next_alloc, AHeap.next_set, AHeap.next_kill, AHeap.next_res] at hle hsame) | simp (disch := first | exact D.go | fail) [setR, List.getElem?_cons_zero, List.getElem?_cons_succ, f72.n0, f72.b0, f72.n2, f72.b2, f72.n3, f72.b3, f72.n4, f72.b4, f72.n6, f72.b6, f72.n7, f72.b7, f72.n8, f72.b8, f72.n10, f72.b10, f72.n11, f72.b11, f72.n12, f72.b12, f72.n14, f72.b14, f72.n15, f72.b15, hi, hld, hw, hlt, tin, hc.rd0, hc.rd1, hc.rd2, hc.rd3, hc.rd4, hc.rd5, sr.len, ss.len, sf.len, si.len, su.len, sw.one, sw.cells, *] | (refine Ret.thn (h0 := hb) (tall hq' sw _ Ext.go) ?_ (fun g hg hlo hle hsame hx => ?_)) | (refine Ret.thn (h0 := hb) (tnamed hq' x.res _ Ext.go) ?_ (fun g hg hlo hle hsame hx => ?_)) | (refine Res.mono (ih _ (by omega) _ _ ?_) (fun u g hq => ?_); rotate_left; (obtain ⟨rfl, hq⟩ := hq); rotate_right))))
    0 (by omega)
  obtain ⟨N, hN⟩ := Evt.loop q.recs (F := fun i n => ∀ (ok : Bool) h, Ext hb h → Res ((f72.J I (AM.lim ⟨P, I, genF P Sh.prims⟩) (n)).1.1.1.2 (.ptr l o) (.bool ok) vr (.int .i64 q.recs.length) (.int .i64 i) h) fun u g => u = .bool (ok && dc (AllL (fun r => AllL (namedP q) r) (q.recs.drop i)) && dc (AllL (fun s => (AllL (namedP q) s.params) ∧ namedP q s.res) (q.sigs)) && dc (AllL (fun f => AllL (fun x => inB x q.sigs.length) f) (q.faces)) && dc (AllL (fun m => inB m.rec_ q.recs.length ∧ inB m.face q.faces.length ∧ AllL (fun x => inB x q.funcs.length) m.funcs) (q.impls))) ∧ Ext hb g) 8
    (Evt.step 8 h2 fun n hn ok h e => by
      rw [f72.n1]; unfold f72.b1
      (repeat' (first | refine Rf (fun hF hG => ?_) (fun hF hG => ?_) | assumption | (show Ext _ _; exact Ext.go) | (simp only [AHeap.next_alloc, AHeap.next_set, AHeap.next_kill, AHeap.next_res] at hle hsame) | simp (disch := first | exact D.go | fail) [setR, List.getElem?_cons_zero, List.getElem?_cons_succ, f72.n0, f72.b0, f72.n2, f72.b2, f72.n3, f72.b3, f72.n4, f72.b4, f72.n6, f72.b6, f72.n7, f72.b7, f72.n8, f72.b8, f72.n10, f72.b10, f72.n11, f72.b11, f72.n12, f72.b12, f72.n14, f72.b14, f72.n15, f72.b15, hc.rd0, hc.rd1, hc.rd2, hc.rd3, hc.rd4, hc.rd5, sr.len, ss.len, sf.len, si.len, su.len, *] | (refine Res.mono (hn _ (by omega) _ _ ?_) (fun u g hq => ?_); rotate_left; (obtain ⟨rfl, hq⟩ := hq); rotate_right))))
    (fun i x n hx ih ok h e => by
      obtain ⟨l1, o1, hi, ⟨_, ⟨w, rfl, sw⟩, ha⟩⟩ := sr.at hx
      have hlt := lt_of_get hx
      have hw := wrap_in (n := (i : Int) + 1) ⟨by omega, by omega⟩
      simp only [Int.natCast_add, Int.natCast_one] at ih
      rw [drop_of_get hx]
      rw [f72.n1]; unfold f72.b1
      have hlo := e.lo
      (repeat' (first | refine Rf (fun hF hG => ?_) (fun hF hG => ?_) | assumption | (show Ext _ _; exact Ext.go) | (simp only [AHeap.next_alloc, AHeap.next_set, AHeap.next_kill, AHeap.next_res] at hle hsame) | simp (disch := first | exact D.go | fail) [setR, List.getElem?_cons_zero, List.getElem?_cons_succ, f72.n0, f72.b0, f72.n2, f72.b2, f72.n3, f72.b3, f72.n4, f72.b4, f72.n6, f72.b6, f72.n7, f72.b7, f72.n8, f72.b8, f72.n10, f72.b10, f72.n11, f72.b11, f72.n12, f72.b12, f72.n14, f72.b14, f72.n15, f72.b15, hi, ha.rd0, hw, hlt, tin, hc.rd0, hc.rd1, hc.rd2, hc.rd3, hc.rd4, hc.rd5, sr.len, ss.len, sf.len, si.len, su.len, sw.one, sw.cells, *] | (refine Ret.thn (h0 := hb) (tall hq' sw _ Ext.go) ?_ (fun g hg hlo hle hsame hx => ?_)) | (refine Res.mono (ih _ (by omega) _ _ ?_) (fun u g hq => ?_); rotate_left; (obtain ⟨rfl, hq⟩ := hq); rotate_right))))
    0 (by omega)
  refine f72.lim rfl (n := N) ?_
  unfold f72.e
  (repeat' (first | refine Rf (fun hF hG => ?_) (fun hF hG => ?_) | assumption | (show Ext _ _; exact Ext.go) | (simp only [AHeap.next_alloc, AHeap.next_set, AHeap.next_kill, AHeap.next_res] at hle hsame) | simp (disch := first | exact D.go | fail) [setR, List.getElem?_cons_zero, List.getElem?_cons_succ, hc.rd0, hc.rd1, hc.rd2, hc.rd3, hc.rd4, hc.rd5, sr.len, ss.len, sf.len, si.len, su.len, listsB, *] | (refine Res.mono (hN _ (Nat.le_refl _) _ _ ?_) (fun u g hq => ?_); rotate_left; (obtain ⟨rfl, hq⟩ := hq); rotate_right)))
end
end
end Go.Proofs.YtikjkhddkfkijaaGreatDoor.Tx

set_option linter.unusedSimpArgs false
set_option linter.unusedVariables false
namespace Go.Proofs.YtikjkhddkfkijaaGreatDoor.Tx
noncomputable section
open Go.AM Go.Proofs.YtikjkhddkfkijaaGreatDoor.Sf
section
variable {I : Inp} {h0 : AHeap}
/-! errors -/
/-- An error's value: why, where; it wraps nothing. -/
def ErrIs (I : Inp) (h : AHeap) (w : Int) (p : Pt) (v : AVal) : Prop := ∃ k, v = .iface 87 (.ptr (.own k) 0) ∧ k < h.next ∧ Cells I h (.own k) 0 [.int .i64 w, .int .i64 p.f, .int .i64 p.b, .int .i64 p.i, .nili]
theorem ErrIs.mono {h h1 : AHeap} {w : Int} {p : Pt} {v : AVal} (a : ErrIs I h w p v) (e : Ext h h1) : ErrIs I h1 w p v :=
  let ⟨k, e1, l, c⟩ := a; ⟨k, e1, Nat.lt_of_lt_of_le l e.lo, c.mono e⟩
theorem rnone (hb : AHeap) : Ret ((AM.lim ⟨P, I, genF P Sh.prims⟩) 29 [] hb) hb (ptV noPt) := by
  refine f29.lim rfl (n := 0) ?_
  unfold f29.e
  (repeat' (first | refine Rf (fun hF hG => ?_) (fun hF hG => ?_) | assumption | (show Ext _ _; exact Ext.go) | (simp only [AHeap.next_alloc, AHeap.next_set, AHeap.next_kill, AHeap.next_res] at hle hsame) | simp (disch := first | exact D.go | fail) [setR, List.getElem?_cons_zero, List.getElem?_cons_succ, noPt, *]))
theorem enew (w : Int) (p : Pt) (hb : AHeap) : Res ((AM.lim ⟨P, I, genF P Sh.prims⟩) 30 [.int .i64 w, ptV p, .nili] hb) fun v g => ErrIs I g w p v ∧ Ext hb g := by
  refine f30.lim rfl (n := 0) ?_
  unfold f30.e
  (repeat' (first | refine Rf (fun hF hG => ?_) (fun hF hG => ?_) | assumption | (show Ext _ _; exact Ext.go) | (simp only [AHeap.next_alloc, AHeap.next_set, AHeap.next_kill, AHeap.next_res] at hle hsame) | simp (disch := first | exact D.go | fail) [setR, List.getElem?_cons_zero, List.getElem?_cons_succ, setR, *]))
  refine ⟨⟨hb.next + 1, rfl, by simp, Cells.own (AHeap.alloc_at (Nb.o (by simp))) (by simp) fun i v hv => by simpa using hv⟩, Ext.go⟩
theorem tbound (hb : AHeap) : Res ((AM.lim ⟨P, I, genF P Sh.prims⟩) 70 [] hb) fun v g => ErrIs I g 2 noPt v ∧ Ext hb g := by
  refine f70.lim rfl (n := 0) ?_
  unfold f70.e
  (repeat' (first | refine Rf (fun hF hG => ?_) (fun hF hG => ?_) | assumption | (show Ext _ _; exact Ext.go) | (simp only [AHeap.next_alloc, AHeap.next_set, AHeap.next_kill, AHeap.next_res] at hle hsame) | simp (disch := first | exact D.go | fail) [setR, List.getElem?_cons_zero, List.getElem?_cons_succ, setR, *] | (refine Ret.thn (h0 := hb) (rnone _) ?_ (fun g hg hlo hle hsame hx => ?_)) | (refine Res.call (h0 := hb) (enew 2 noPt _) ?_ (fun u g hA hg hlo hle hsame hx => ?_))))
theorem efirst {w : Int} {p : Pt} {v : AVal} (hb : AHeap) (hv : ErrIs I hb w p v) : Res ((AM.lim ⟨P, I, genF P Sh.prims⟩) 47 [v] hb) fun u g => (∃ k, u = .ptr (.own k) 0 ∧ k < g.next ∧ Cells I g (.own k) 0 [.int .i64 w, .int .i64 p.f, .int .i64 p.b, .int .i64 p.i, .nili]) ∧ Ext hb g := by
  obtain ⟨k, rfl, hk, hc⟩ := hv
  have hAs : ∀ (e : Nat) (l : AM.Loc) (o j q : Nat) (h : AHeap) (b b' : Blk), e = 87 → h.get j = some b → (∃ x, b.cells[q]? = some x) → b.wr q [.ptr l o] = some b' →
      (AM.lim ⟨P, I, genF P Sh.prims⟩) 69 [.iface e (.ptr l o), .iface 116 (.ptr (.own j) q)] h = some (.bool true, h.set j b') := by
    intro e l o j q h b b' he hj ⟨x, hx⟩ hw
    subst he
    refine lim_of (C := ⟨P, I, genF P Sh.prims⟩) (n := 1) ?_
    simp only [callF, genF, show Sh.prims 69 = some (AM.asPrim 87 116) from rfl]
    simp only [asPrim, Nat.beq_refl, Bool.and_self, hj, hx, hw]
  have hA := hAs 87 (.own k) 0 hb.next 0 (hb.alloc ⟨[.nilp], true⟩) ⟨[.nilp], true⟩ ⟨[.ptr (.own k) 0], true⟩ rfl (AHeap.alloc_at (Nb.o rfl)) ⟨_, rfl⟩ rfl
  refine f47.lim rfl (n := 2) ?_
  unfold f47.e
  (repeat' (first | refine Rf (fun hF hG => ?_) (fun hF hG => ?_) | assumption | (show Ext _ _; exact Ext.go) | (simp only [AHeap.next_alloc, AHeap.next_set, AHeap.next_kill, AHeap.next_res] at hle hsame) | simp (disch := first | exact D.go | fail) [setR, List.getElem?_cons_zero, List.getElem?_cons_succ, f47.n0, f47.b0, hA, *]))
  have e2 : Ext hb ((hb.alloc ⟨[.nilp], true⟩).set hb.next ⟨[.ptr (.own k) 0], true⟩) := Ext.go
  exact ⟨⟨by omega, hc.mono e2⟩, e2⟩
theorem efirst_nil (hb : AHeap) : Ret ((AM.lim ⟨P, I, genF P Sh.prims⟩) 47 [.nili] hb) hb .nilp := by
  have hAs : ∀ (t : AVal) (h : AHeap), (AM.lim ⟨P, I, genF P Sh.prims⟩) 69 [.nili, t] h = some (.bool false, h) := by
    intro t h
    refine lim_of (C := ⟨P, I, genF P Sh.prims⟩) (n := 1) ?_
    simp only [callF, genF, show Sh.prims 69 = some (AM.asPrim 87 116) from rfl]
    simp only [asPrim]
  refine f47.lim rfl (n := 2) ?_
  unfold f47.e
  (repeat' (first | refine Rf (fun hF hG => ?_) (fun hF hG => ?_) | assumption | (show Ext _ _; exact Ext.go) | (simp only [AHeap.next_alloc, AHeap.next_set, AHeap.next_kill, AHeap.next_res] at hle hsame) | simp (disch := first | exact D.go | fail) [setR, List.getElem?_cons_zero, List.getElem?_cons_succ, f47.n0, f47.b0, hAs, *]))
theorem ewhy {w : Int} {p : Pt} {v : AVal} (hb : AHeap) (hv : ErrIs I hb w p v) : Ret ((AM.lim ⟨P, I, genF P Sh.prims⟩) 23 [v] hb) hb (.int .i64 w) := by
  refine f23.lim rfl (n := 2) ?_
  unfold f23.e
  refine Res.call (h0 := hb) (efirst hb hv) (Ext.refl hb) (fun u g hA hg hlo hle hsame hx => ?_)
  obtain ⟨k, rfl, hk, hc⟩ := hA
  (repeat' (first | refine Rf (fun hF hG => ?_) (fun hF hG => ?_) | assumption | (show Ext _ _; exact Ext.go) | (simp only [AHeap.next_alloc, AHeap.next_set, AHeap.next_kill, AHeap.next_res] at hle hsame) | simp (disch := first | exact D.go | fail) [setR, List.getElem?_cons_zero, List.getElem?_cons_succ, f23.n0, f23.b0, hc.rd0, hc.rd1, hc.rd2, hc.rd3, hc.rd4, *]))
theorem ewhere {w : Int} {p : Pt} {v : AVal} (hb : AHeap) (hv : ErrIs I hb w p v) : Ret ((AM.lim ⟨P, I, genF P Sh.prims⟩) 28 [v] hb) hb (.tuple [if 0 ≤ p.f then ptV p else ptV ⟨0, 0, 0⟩, .bool (dc (0 ≤ p.f))]) := by
  refine f28.lim rfl (n := 2) ?_
  unfold f28.e
  simp only [sAlloc_eq, to_Bnd, to_kA, to_kC, to_kS, Bnd_some]
  have e1 : Ext hb (hb.alloc ⟨[Z 0, Z 0, Z 0], true⟩) := Ext.go
  refine Res.call (h0 := hb) (efirst _ (hv.mono e1)) e1 (fun u g hA hg hlo hle hsame hx => ?_)
  obtain ⟨k, rfl, hk, hc⟩ := hA
  have hld := fun g e => (Cells.sub (d := 1) (ds := [.int .i64 p.f, .int .i64 p.b, .int .i64 p.i]) hc (fun i v hv => by rw [Nat.add_comm]; have := (List.getElem?_eq_some_iff.1 hv).1; simp at this; match i, this with | 0, _ => exact hv | 1, _ => exact hv | 2, _ => exact hv)).rds (n := 3) g e rfl (by omega)
  have hn : hb.next < g.next := by simp only [AHeap.next_alloc] at hle; omega
  have hs := hsame hb.next (by simp)
  (repeat' (first | refine Rf (fun hF hG => ?_) (fun hF hG => ?_) | assumption | (show Ext _ _; exact Ext.go) | (simp only [AHeap.next_alloc, AHeap.next_set, AHeap.next_kill, AHeap.next_res] at hle hsame) | simp (disch := first | exact D.go | fail) [setR, List.getElem?_cons_zero, List.getElem?_cons_succ, f28.n0, f28.b0, hc.rd0, hc.rd1, hc.rd2, hc.rd3, hc.rd4, hs, *]))

/-- Is the refusal just that one? -/
theorem says_nil (v : AVal) (hv : v = .nili) (w : Int) (p : Pt) (hb : AHeap) : Ret ((AM.lim ⟨P, I, genF P Sh.prims⟩) 13 [v, .int .i64 w, ptV p] hb) hb (.bool (dc (w = 0))) := by
  subst hv
  refine f13.lim rfl (n := 3) ?_
  unfold f13.e
  (repeat' (first | refine Rf (fun hF hG => ?_) (fun hF hG => ?_) | assumption | (show Ext _ _; exact Ext.go) | (simp only [AHeap.next_alloc, AHeap.next_set, AHeap.next_kill, AHeap.next_res] at hle hsame) | simp (disch := first | exact D.go | fail) [setR, List.getElem?_cons_zero, List.getElem?_cons_succ, f13.n0, f13.b0, f13.n1, f13.b1, f13.n2, f13.b2, *]))
theorem says_err {w : Int} {p : Pt} {v : AVal} (hb : AHeap) (hv : ErrIs I hb w p v) (w' : Int) (p' : Pt) (hw : w' ≠ 0) (hp : p = p') (hww : w = w') (hq : 0 ≤ p.f ∨ p = noPt) : Ret ((AM.lim ⟨P, I, genF P Sh.prims⟩) 13 [v, .int .i64 w', ptV p'] hb) hb (.bool true) := by
  subst hp hww
  have hv' := hv
  obtain ⟨k, rfl, hk, hc⟩ := hv'
  refine f13.lim rfl (n := 3) ?_
  unfold f13.e
  have e1 : Ext hb (hb.alloc ⟨(ptV p).cells, true⟩) := Ext.go
  have hw0 : ¬ w = 0 := hw
  by_cases hf : 0 ≤ p.f
  · (repeat' (first | refine Rf (fun hF hG => ?_) (fun hF hG => ?_) | assumption | (show Ext _ _; exact Ext.go) | (simp only [AHeap.next_alloc, AHeap.next_set, AHeap.next_kill, AHeap.next_res] at hle hsame) | simp (disch := first | exact D.go | fail) [setR, List.getElem?_cons_zero, List.getElem?_cons_succ, f13.n0, f13.b0, f13.n1, f13.b1, f13.n2, f13.b2, hw0, hf, *] | (refine Ret.thn (h0 := hb) (ewhere _ (hv.mono Ext.go)) ?_ (fun g hg hlo hle hsame hx => ?_)) | (refine Ret.thn (h0 := hb) (ewhy _ (hv.mono Ext.go)) ?_ (fun g hg hlo hle hsame hx => ?_))))
  · obtain rfl : p = noPt := by rcases hq with h | h; exact absurd h hf; exact h
    have hn : (noPt.f) = -1 := rfl
    (repeat' (first | refine Rf (fun hF hG => ?_) (fun hF hG => ?_) | assumption | (show Ext _ _; exact Ext.go) | (simp only [AHeap.next_alloc, AHeap.next_set, AHeap.next_kill, AHeap.next_res] at hle hsame) | simp (disch := first | exact D.go | fail) [setR, List.getElem?_cons_zero, List.getElem?_cons_succ, f13.n0, f13.b0, f13.n1, f13.b1, f13.n2, f13.b2, hw0, hn, *] | (refine Ret.thn (h0 := hb) (ewhere _ (hv.mono Ext.go)) ?_ (fun g hg hlo hle hsame hx => ?_)) | (refine Ret.thn (h0 := hb) (ewhy _ (hv.mono Ext.go)) ?_ (fun g hg hlo hle hsame hx => ?_))))

/-! bounds -/
def ptsF (f : Fu) : Int := sumL (fun b : Bk => (b.code.length : Int) + 1) f.blocks
def alsB (b : Bk) : Int := sumL (fun i : Ins => if i.op = 5 then 1 else 0) b.code
def alsF (f : Fu) : Int := sumL alsB f.blocks
def bodyB (f : Fu) : Bool := dc ((f.regs.length : Int) ≤ 16) && dc ((f.blocks.length : Int) ≤ 12) && !dc (f.blocks = []) && dc (AllL (fun b : Bk => (b.code.length : Int) ≤ 30 ∧ AllL (fun i : Ins => (i.args.length : Int) ≤ 4) b.code) f.blocks)
theorem tbody {cs : List AVal} {f : Fu} (hf : FuC I h0 cs f) (hb : AHeap) (eb : Ext h0 hb) : Ret ((AM.lim ⟨P, I, genF P Sh.prims⟩) 71 [.agg cs] hb) hb (.tuple [.bool (bodyB f), .int .i64 (IntKind.i64.wrap (ptsF f)), .int .i64 (IntKind.i64.wrap (alsF f))]) := by
  obtain ⟨vr, vb, rfl, r0, sr, sb⟩ := hf
  have lr := sr.lt; have lb := sb.lt
  obtain ⟨N, hN⟩ := Evt.loop' f.blocks (F := fun i n => ∀ (ok : Bool) (a c : Int) h, Ext hb h → Res ((f71.J I (AM.lim ⟨P, I, genF P Sh.prims⟩) (n)).1.2.1 (.bool ok) (.int .i64 (IntKind.i64.wrap a)) (.int .i64 (IntKind.i64.wrap c)) vb (.int .i64 f.blocks.length) (.int .i64 i) h) fun u g =>
      u = .tuple [.bool (ok && dc (AllL (fun b : Bk => (b.code.length : Int) ≤ 30 ∧ AllL (fun i : Ins => (i.args.length : Int) ≤ 4) b.code) (f.blocks.drop i))), .int .i64 (IntKind.i64.wrap (a + sumL (fun b : Bk => (b.code.length : Int) + 1) (f.blocks.drop i))), .int .i64 (IntKind.i64.wrap (c + sumL alsB (f.blocks.drop i)))] ∧ Ext hb g)
    (Evt.all 5 fun n ok a c h e => by
      rw [f71.n1]; unfold f71.b1
      (repeat' (first | refine Rf (fun hF hG => ?_) (fun hF hG => ?_) | assumption | (show Ext _ _; exact Ext.go) | (simp only [AHeap.next_alloc, AHeap.next_set, AHeap.next_kill, AHeap.next_res] at hle hsame) | simp (disch := first | exact D.go | fail) [setR, List.getElem?_cons_zero, List.getElem?_cons_succ, f71.n0, f71.b0, f71.n2, f71.b2, f71.n3, f71.b3, f71.n4, f71.b4, f71.n5, f71.b5, f71.n6, f71.b6, sumL, *])))
    (fun i x hx ih => by
      obtain ⟨l1, o1, hi, ⟨_, ⟨w, rfl, sw, q1, q2, q3, q4⟩, ha⟩⟩ := sb.at hx
      have hld := fun g e => ha.rds (n := 5) g e rfl (by omega)
      have lw := sw.lt
      have hlt := lt_of_get hx; have hw := wrap_in (n := (i : Int) + 1) ⟨by omega, by omega⟩
      have inner := Evt.loop x.code (F := fun j n => ∀ (ok : Bool) (a c : Int) h, Ext hb h → Res ((f71.J I (AM.lim ⟨P, I, genF P Sh.prims⟩) (n)).2.1.2 (.bool ok) (.int .i64 (IntKind.i64.wrap a)) (.int .i64 (IntKind.i64.wrap c)) vb (.int .i64 f.blocks.length) (.int .i64 i) w (.int .i64 x.code.length) (.int .i64 j) h) fun u g =>
          u = .tuple [.bool (ok && dc (AllL (fun i : Ins => (i.args.length : Int) ≤ 4) (x.code.drop j)) && dc (AllL (fun b : Bk => (b.code.length : Int) ≤ 30 ∧ AllL (fun i : Ins => (i.args.length : Int) ≤ 4) b.code) (f.blocks.drop (i + 1)))), .int .i64 (IntKind.i64.wrap (a + sumL (fun b : Bk => (b.code.length : Int) + 1) (f.blocks.drop (i + 1)))), .int .i64 (IntKind.i64.wrap (c + sumL (fun i : Ins => if i.op = 5 then 1 else 0) (x.code.drop j) + sumL alsB (f.blocks.drop (i + 1))))] ∧ Ext hb g) 5
        (Evt.step 5 ih fun n ih ok a c h e => by
          simp only [Int.natCast_add, Int.natCast_one] at ih
          rw [f71.n4]; unfold f71.b4
          (repeat' (first | refine Rf (fun hF hG => ?_) (fun hF hG => ?_) | assumption | (show Ext _ _; exact Ext.go) | (simp only [AHeap.next_alloc, AHeap.next_set, AHeap.next_kill, AHeap.next_res] at hle hsame) | simp (disch := first | exact D.go | fail) [setR, List.getElem?_cons_zero, List.getElem?_cons_succ, f71.n0, f71.b0, f71.n2, f71.b2, f71.n3, f71.b3, f71.n5, f71.b5, f71.n6, f71.b6, sumL, hw, *] | (refine Res.mono (ih _ (by omega) _ _ _ _ ?_) (fun u g hq => ?_); rotate_left; (obtain ⟨rfl, hq⟩ := hq); rotate_right))))
        (fun j y n hy jh ok a c h e => by
          obtain ⟨l2, o2, hj, ⟨_, ⟨wa, rfl, swa, _⟩, hy'⟩⟩ := sw.at hy
          have hld2 := fun g e => hy'.rds (n := 6) g e rfl (by omega)
          have hlt2 := lt_of_get hy; have hw2 := wrap_in (n := (j : Int) + 1) ⟨by omega, by omega⟩
          simp only [Int.natCast_add, Int.natCast_one] at jh
          rw [drop_of_get hy]
          rw [f71.n4]; unfold f71.b4
          have hlo := e.lo
          (repeat' (first | refine Rf (fun hF hG => ?_) (fun hF hG => ?_) | assumption | (show Ext _ _; exact Ext.go) | (simp only [AHeap.next_alloc, AHeap.next_set, AHeap.next_kill, AHeap.next_res] at hle hsame) | simp (disch := first | exact D.go | fail) [setR, List.getElem?_cons_zero, List.getElem?_cons_succ, f71.n0, f71.b0, f71.n2, f71.b2, f71.n3, f71.b3, f71.n5, f71.b5, f71.n6, f71.b6, sumL, hj, hld2, hw2, hlt2, swa.one, swa.len, wrap_addl, Int.add_assoc, *] | (refine Res.mono (jh _ (by omega) _ _ _ _ ?_) (fun u g hq => ?_); rotate_left; (obtain ⟨rfl, hq⟩ := hq); rotate_right))))
        0 (by omega)
      refine Evt.step 5 inner fun n jh ok a c h e => ?_
      rw [drop_of_get hx]
      rw [f71.n1]; unfold f71.b1
      have hlo := e.lo
      (repeat' (first | refine Rf (fun hF hG => ?_) (fun hF hG => ?_) | assumption | (show Ext _ _; exact Ext.go) | (simp only [AHeap.next_alloc, AHeap.next_set, AHeap.next_kill, AHeap.next_res] at hle hsame) | simp (disch := first | exact D.go | fail) [setR, List.getElem?_cons_zero, List.getElem?_cons_succ, f71.n0, f71.b0, f71.n2, f71.b2, f71.n3, f71.b3, f71.n5, f71.b5, f71.n6, f71.b6, sumL, hi, hld, hw, hlt, sw.one, sw.len, wrap_addl, wrap_addr, Int.add_assoc, alsB, *] | (refine Res.mono (jh _ (by omega) _ _ _ _ ?_) (fun u g hq => ?_); rotate_left; (obtain ⟨rfl, hq⟩ := hq); rotate_right))))
    0 (by omega)
  refine f71.lim rfl (n := N) ?_
  unfold f71.e
  have hN0 := fun ok h e => hN N (Nat.le_refl _) ok 0 0 h e
  simp only [show IntKind.i64.wrap 0 = 0 from rfl, Int.zero_add] at hN0
  (repeat' (first | refine Rf (fun hF hG => ?_) (fun hF hG => ?_) | assumption | (show Ext _ _; exact Ext.go) | (simp only [AHeap.next_alloc, AHeap.next_set, AHeap.next_kill, AHeap.next_res] at hle hsame) | simp (disch := first | exact D.go | fail) [setR, List.getElem?_cons_zero, List.getElem?_cons_succ, sr.len, sb.len, bodyB, ptsF, alsF, List.length_pos_iff, List.length_eq_zero_iff, *] | (refine Res.mono (hN0 _ _ ?_) (fun u g hq => ?_); rotate_left; (obtain ⟨rfl, hq⟩ := hq); rotate_right)))
end
end
end Go.Proofs.YtikjkhddkfkijaaGreatDoor.Tx

set_option linter.unusedSimpArgs false
set_option linter.unusedVariables false
namespace Go.Proofs.YtikjkhddkfkijaaGreatDoor.Tx
noncomputable section
open Go.AM Go.Proofs.YtikjkhddkfkijaaGreatDoor.Sf
section
variable {I : Inp} {h0 : AHeap}
/-- The lengths of what stands in a program. -/
def lensB (q : Pg) : Bool := dc ((q.recs.length : Int) ≤ 6) && dc ((q.sigs.length : Int) ≤ 10) && dc ((q.faces.length : Int) ≤ 4) && dc ((q.impls.length : Int) ≤ 12) && dc ((q.funcs.length : Int) ≤ 12) && !dc ((q.funcs.length : Int) = 0)
def innerB (q : Pg) : Bool := dc (AllL (fun r : List Ty => (r.length : Int) ≤ 4) q.recs) && dc (AllL (fun s : Sg => (s.params.length : Int) ≤ 4) q.sigs) && dc (AllL (fun f : List Int => (f.length : Int) ≤ 3) q.faces) && dc (AllL (fun m : Im => (m.funcs.length : Int) ≤ 3) q.impls) && dc (AllL (fun f => bodyB f = true) q.funcs)
def boundsB (q : Pg) : Bool := lensB q && (innerB q && dc (IntKind.i64.wrap (sumL ptsF q.funcs) ≤ 600 ∧ IntKind.i64.wrap (sumL alsF q.funcs) ≤ 40))

/-- A refusal just if not. -/
def BPost (I : Inp) (b : Bool) (u : AVal) (g : AHeap) : Prop := (b = true → u = .nili) ∧ (b = false → ErrIs I g 2 noPt u)
@[simp] theorem BPost_nil (g : AHeap) : BPost I true .nili g := ⟨fun _ => rfl, fun h => absurd h (by simp)⟩
theorem BPost_err {g : AHeap} {u : AVal} (h : ErrIs I g 2 noPt u) : BPost I false u g := ⟨fun h => absurd h (by simp), fun _ => h⟩
theorem tBounds {l : AM.Loc} {o : Nat} {q : Pg} (hq : PgA I h0 l o q) (hb : AHeap) (eb : Ext h0 hb) : Res ((AM.lim ⟨P, I, genF P Sh.prims⟩) 48 [.ptr l o] hb) fun u g => BPost I (boundsB q) u g ∧ Ext hb g := by
  have hq' := hq
  obtain ⟨_, ⟨vr, vs, vf, vi, vu, rfl, rm, sr, ss, sf, si, su⟩, hc⟩ := hq
  have lr := sr.lt; have ls := ss.lt; have lf := sf.lt; have li := si.lt; have lu := su.lt
  have h5 := Evt.loop q.funcs (F := fun i n => ∀ (ok : Bool) (a c : Int) h, Ext hb h → Res ((f48.J I (AM.lim ⟨P, I, genF P Sh.prims⟩) (n)).2.2.1.2.2 (.bool ok) (.int .i64 (IntKind.i64.wrap a)) (.int .i64 (IntKind.i64.wrap c)) vu (.int .i64 q.funcs.length) (.int .i64 i) h) fun u g =>
      BPost I (ok && (dc (AllL (fun f => bodyB f = true) (q.funcs.drop i)) && dc (IntKind.i64.wrap (a + sumL ptsF (q.funcs.drop i)) ≤ 600 ∧ IntKind.i64.wrap (c + sumL alsF (q.funcs.drop i)) ≤ 40))) u g ∧ Ext hb g) 8
    (Evt.all 8 fun n ok a c h e => by
      rw [f48.n18]; unfold f48.b18
      (repeat' (first | refine Rf (fun hF hG => ?_) (fun hF hG => ?_) | assumption | (show Ext _ _; exact Ext.go) | (simp only [AHeap.next_alloc, AHeap.next_set, AHeap.next_kill, AHeap.next_res] at hle hsame) | simp (disch := first | exact D.go | fail) [setR, List.getElem?_cons_zero, List.getElem?_cons_succ, f48.n0, f48.b0, f48.n1, f48.b1, f48.n3, f48.b3, f48.n4, f48.b4, f48.n5, f48.b5, f48.n7, f48.b7, f48.n8, f48.b8, f48.n9, f48.b9, f48.n11, f48.b11, f48.n12, f48.b12, f48.n13, f48.b13, f48.n15, f48.b15, f48.n16, f48.b16, f48.n17, f48.b17, f48.n19, f48.b19, f48.n20, f48.b20, f48.n21, f48.b21, sumL, Bool.and_assoc, BPost_err, *] | (refine Res.call (h0 := hb) (tbound _) ?_ (fun u g hA hg hlo hle hsame hx => ?_)))))
    (fun i x n hx ih ok a c h e => by
      obtain ⟨l1, o1, hi, ⟨cs, hf, ha⟩⟩ := su.at hx
      have hcs : cs.length = 3 := by obtain ⟨v, u, rfl, _⟩ := hf; rfl
      have hld := fun g e => ha.rds (n := 3) g e hcs (by omega)
      have hlt := lt_of_get hx; have hw := wrap_in (n := (i : Int) + 1) ⟨by omega, by omega⟩; simp only [Int.natCast_add, Int.natCast_one] at ih; rw [drop_of_get hx]; have hlo := e.lo
      rw [f48.n18]; unfold f48.b18
      have hf' := hf
      obtain ⟨v, u, rfl, _, sv, su'⟩ := hf'
      (repeat' (first | refine Rf (fun hF hG => ?_) (fun hF hG => ?_) | assumption | (show Ext _ _; exact Ext.go) | (simp only [AHeap.next_alloc, AHeap.next_set, AHeap.next_kill, AHeap.next_res] at hle hsame) | simp (disch := first | exact D.go | fail) [setR, List.getElem?_cons_zero, List.getElem?_cons_succ, f48.n0, f48.b0, f48.n1, f48.b1, f48.n3, f48.b3, f48.n4, f48.b4, f48.n5, f48.b5, f48.n7, f48.b7, f48.n8, f48.b8, f48.n9, f48.b9, f48.n11, f48.b11, f48.n12, f48.b12, f48.n13, f48.b13, f48.n15, f48.b15, f48.n16, f48.b16, f48.n17, f48.b17, f48.n19, f48.b19, f48.n20, f48.b20, f48.n21, f48.b21, sumL, hi, hld, hw, hlt, sv.one, su'.one, wrap_addl, wrap_addr, Int.add_assoc, Bool.and_assoc, BPost_err, *] | (refine Ret.thn (h0 := hb) (tbody hf _ Ext.go) ?_ (fun g hg hlo hle hsame hx => ?_)) | (refine Res_post (A := BPost I) (ih _ (by omega) _ _ _ _ ?_) ?_))))
    0 (by omega)
  have h5 : Evt fun n => ∀ (ok : Bool) h, Ext hb h → Res ((f48.J I (AM.lim ⟨P, I, genF P Sh.prims⟩) (n)).2.2.1.2.2 (.bool ok) (Z 0) (Z 0) vu (.int .i64 q.funcs.length) (.int .i64 0) h) fun u g => BPost I (ok && (dc (AllL (fun f => bodyB f = true) q.funcs) && dc (IntKind.i64.wrap (sumL ptsF q.funcs) ≤ 600 ∧ IntKind.i64.wrap (sumL alsF q.funcs) ≤ 40))) u g ∧ Ext hb g := by
    obtain ⟨N, hN⟩ := h5
    refine ⟨N, fun n hn ok h e => ?_⟩
    have := hN n hn ok 0 0 h e
    simp only [Int.zero_add, List.drop_zero] at this
    exact this
  have h4 := Evt.loop q.impls (F := fun i n => ∀ (ok : Bool) h, Ext hb h → Res ((f48.J I (AM.lim ⟨P, I, genF P Sh.prims⟩) (n)).2.1.2.2.1 (.ptr l o) (.bool ok) vi (.int .i64 q.impls.length) (.int .i64 i) h) fun u g =>
      BPost I (ok && (dc (AllL (fun m : Im => (m.funcs.length : Int) ≤ 3) (q.impls.drop i)) && (dc (AllL (fun f => bodyB f = true) q.funcs) && dc (IntKind.i64.wrap (sumL ptsF q.funcs) ≤ 600 ∧ IntKind.i64.wrap (sumL alsF q.funcs) ≤ 40)))) u g ∧ Ext hb g) 8
    (Evt.step 8 h5 fun n hn ok h e => by
      rw [f48.n14]; unfold f48.b14
      (repeat' (first | refine Rf (fun hF hG => ?_) (fun hF hG => ?_) | assumption | (show Ext _ _; exact Ext.go) | (simp only [AHeap.next_alloc, AHeap.next_set, AHeap.next_kill, AHeap.next_res] at hle hsame) | simp (disch := first | exact D.go | fail) [setR, List.getElem?_cons_zero, List.getElem?_cons_succ, f48.n0, f48.b0, f48.n1, f48.b1, f48.n3, f48.b3, f48.n4, f48.b4, f48.n5, f48.b5, f48.n7, f48.b7, f48.n8, f48.b8, f48.n9, f48.b9, f48.n11, f48.b11, f48.n12, f48.b12, f48.n13, f48.b13, f48.n15, f48.b15, f48.n16, f48.b16, f48.n17, f48.b17, f48.n19, f48.b19, f48.n20, f48.b20, f48.n21, f48.b21, hc.rd0, hc.rd1, hc.rd2, hc.rd3, hc.rd4, hc.rd5, sr.len, ss.len, sf.len, si.len, su.len, Bool.and_assoc, BPost_err, *] | (refine Res_post (A := BPost I) (hn _ (by omega) _ _ ?_) ?_))))
    (fun i x n hx ih ok h e => by
      obtain ⟨l1, o1, hi, ⟨_, ⟨w, rfl, r0, r1, sw⟩, ha⟩⟩ := si.at hx
      have hld := fun g e => ha.rds (n := 3) g e rfl (by omega)
      have hlt := lt_of_get hx; have hw := wrap_in (n := (i : Int) + 1) ⟨by omega, by omega⟩; simp only [Int.natCast_add, Int.natCast_one] at ih; rw [drop_of_get hx]; have hlo := e.lo
      rw [f48.n14]; unfold f48.b14
      (repeat' (first | refine Rf (fun hF hG => ?_) (fun hF hG => ?_) | assumption | (show Ext _ _; exact Ext.go) | (simp only [AHeap.next_alloc, AHeap.next_set, AHeap.next_kill, AHeap.next_res] at hle hsame) | simp (disch := first | exact D.go | fail) [setR, List.getElem?_cons_zero, List.getElem?_cons_succ, f48.n0, f48.b0, f48.n1, f48.b1, f48.n3, f48.b3, f48.n4, f48.b4, f48.n5, f48.b5, f48.n7, f48.b7, f48.n8, f48.b8, f48.n9, f48.b9, f48.n11, f48.b11, f48.n12, f48.b12, f48.n13, f48.b13, f48.n15, f48.b15, f48.n16, f48.b16, f48.n17, f48.b17, f48.n19, f48.b19, f48.n20, f48.b20, f48.n21, f48.b21, hi, hld, hw, hlt, hc.rd0, hc.rd1, hc.rd2, hc.rd3, hc.rd4, hc.rd5, sr.len, ss.len, sf.len, si.len, su.len, sw.one, sw.cells, sw.len, Bool.and_assoc, BPost_err, *] | (refine Res_post (A := BPost I) (ih _ (by omega) _ _ ?_) ?_))))
    0 (by omega)
  have h3 := Evt.loop q.faces (F := fun i n => ∀ (ok : Bool) h, Ext hb h → Res ((f48.J I (AM.lim ⟨P, I, genF P Sh.prims⟩) (n)).1.2.2.2.2 (.ptr l o) (.bool ok) vf (.int .i64 q.faces.length) (.int .i64 i) h) fun u g =>
      BPost I (ok && (dc (AllL (fun f : List Int => (f.length : Int) ≤ 3) (q.faces.drop i)) && (dc (AllL (fun m : Im => (m.funcs.length : Int) ≤ 3) q.impls) && (dc (AllL (fun f => bodyB f = true) q.funcs) && dc (IntKind.i64.wrap (sumL ptsF q.funcs) ≤ 600 ∧ IntKind.i64.wrap (sumL alsF q.funcs) ≤ 40))))) u g ∧ Ext hb g) 8
    (Evt.step 8 h4 fun n hn ok h e => by
      rw [f48.n10]; unfold f48.b10
      (repeat' (first | refine Rf (fun hF hG => ?_) (fun hF hG => ?_) | assumption | (show Ext _ _; exact Ext.go) | (simp only [AHeap.next_alloc, AHeap.next_set, AHeap.next_kill, AHeap.next_res] at hle hsame) | simp (disch := first | exact D.go | fail) [setR, List.getElem?_cons_zero, List.getElem?_cons_succ, f48.n0, f48.b0, f48.n1, f48.b1, f48.n3, f48.b3, f48.n4, f48.b4, f48.n5, f48.b5, f48.n7, f48.b7, f48.n8, f48.b8, f48.n9, f48.b9, f48.n11, f48.b11, f48.n12, f48.b12, f48.n13, f48.b13, f48.n15, f48.b15, f48.n16, f48.b16, f48.n17, f48.b17, f48.n19, f48.b19, f48.n20, f48.b20, f48.n21, f48.b21, hc.rd0, hc.rd1, hc.rd2, hc.rd3, hc.rd4, hc.rd5, sr.len, ss.len, sf.len, si.len, su.len, Bool.and_assoc, BPost_err, *] | (refine Res_post (A := BPost I) (hn _ (by omega) _ _ ?_) ?_))))
    (fun i x n hx ih ok h e => by
      obtain ⟨l1, o1, hi, ⟨_, ⟨w, rfl, sw⟩, ha⟩⟩ := sf.at hx
      have hld := fun g e => ha.rds (n := 1) g e rfl (by omega)
      have hlt := lt_of_get hx; have hw := wrap_in (n := (i : Int) + 1) ⟨by omega, by omega⟩; simp only [Int.natCast_add, Int.natCast_one] at ih; rw [drop_of_get hx]; have hlo := e.lo
      rw [f48.n10]; unfold f48.b10
      (repeat' (first | refine Rf (fun hF hG => ?_) (fun hF hG => ?_) | assumption | (show Ext _ _; exact Ext.go) | (simp only [AHeap.next_alloc, AHeap.next_set, AHeap.next_kill, AHeap.next_res] at hle hsame) | simp (disch := first | exact D.go | fail) [setR, List.getElem?_cons_zero, List.getElem?_cons_succ, f48.n0, f48.b0, f48.n1, f48.b1, f48.n3, f48.b3, f48.n4, f48.b4, f48.n5, f48.b5, f48.n7, f48.b7, f48.n8, f48.b8, f48.n9, f48.b9, f48.n11, f48.b11, f48.n12, f48.b12, f48.n13, f48.b13, f48.n15, f48.b15, f48.n16, f48.b16, f48.n17, f48.b17, f48.n19, f48.b19, f48.n20, f48.b20, f48.n21, f48.b21, hi, hld, hw, hlt, hc.rd0, hc.rd1, hc.rd2, hc.rd3, hc.rd4, hc.rd5, sr.len, ss.len, sf.len, si.len, su.len, sw.one, sw.cells, sw.len, Bool.and_assoc, BPost_err, *] | (refine Res_post (A := BPost I) (ih _ (by omega) _ _ ?_) ?_))))
    0 (by omega)
  have h2 := Evt.loop q.sigs (F := fun i n => ∀ (ok : Bool) h, Ext hb h → Res ((f48.J I (AM.lim ⟨P, I, genF P Sh.prims⟩) (n)).1.2.1.2.1 (.ptr l o) (.bool ok) vs (.int .i64 q.sigs.length) (.int .i64 i) h) fun u g =>
      BPost I (ok && (dc (AllL (fun s : Sg => (s.params.length : Int) ≤ 4) (q.sigs.drop i)) && (dc (AllL (fun f : List Int => (f.length : Int) ≤ 3) q.faces) && (dc (AllL (fun m : Im => (m.funcs.length : Int) ≤ 3) q.impls) && (dc (AllL (fun f => bodyB f = true) q.funcs) && dc (IntKind.i64.wrap (sumL ptsF q.funcs) ≤ 600 ∧ IntKind.i64.wrap (sumL alsF q.funcs) ≤ 40)))))) u g ∧ Ext hb g) 8
    (Evt.step 8 h3 fun n hn ok h e => by
      rw [f48.n6]; unfold f48.b6
      (repeat' (first | refine Rf (fun hF hG => ?_) (fun hF hG => ?_) | assumption | (show Ext _ _; exact Ext.go) | (simp only [AHeap.next_alloc, AHeap.next_set, AHeap.next_kill, AHeap.next_res] at hle hsame) | simp (disch := first | exact D.go | fail) [setR, List.getElem?_cons_zero, List.getElem?_cons_succ, f48.n0, f48.b0, f48.n1, f48.b1, f48.n3, f48.b3, f48.n4, f48.b4, f48.n5, f48.b5, f48.n7, f48.b7, f48.n8, f48.b8, f48.n9, f48.b9, f48.n11, f48.b11, f48.n12, f48.b12, f48.n13, f48.b13, f48.n15, f48.b15, f48.n16, f48.b16, f48.n17, f48.b17, f48.n19, f48.b19, f48.n20, f48.b20, f48.n21, f48.b21, hc.rd0, hc.rd1, hc.rd2, hc.rd3, hc.rd4, hc.rd5, sr.len, ss.len, sf.len, si.len, su.len, Bool.and_assoc, BPost_err, *] | (refine Res_post (A := BPost I) (hn _ (by omega) _ _ ?_) ?_))))
    (fun i x n hx ih ok h e => by
      obtain ⟨l1, o1, hi, ⟨_, ⟨w, rfl, sw, r0, r1⟩, ha⟩⟩ := ss.at hx
      have hld := fun g e => ha.rds (n := 3) g e rfl (by omega)
      have hlt := lt_of_get hx; have hw := wrap_in (n := (i : Int) + 1) ⟨by omega, by omega⟩; simp only [Int.natCast_add, Int.natCast_one] at ih; rw [drop_of_get hx]; have hlo := e.lo
      rw [f48.n6]; unfold f48.b6
      (repeat' (first | refine Rf (fun hF hG => ?_) (fun hF hG => ?_) | assumption | (show Ext _ _; exact Ext.go) | (simp only [AHeap.next_alloc, AHeap.next_set, AHeap.next_kill, AHeap.next_res] at hle hsame) | simp (disch := first | exact D.go | fail) [setR, List.getElem?_cons_zero, List.getElem?_cons_succ, f48.n0, f48.b0, f48.n1, f48.b1, f48.n3, f48.b3, f48.n4, f48.b4, f48.n5, f48.b5, f48.n7, f48.b7, f48.n8, f48.b8, f48.n9, f48.b9, f48.n11, f48.b11, f48.n12, f48.b12, f48.n13, f48.b13, f48.n15, f48.b15, f48.n16, f48.b16, f48.n17, f48.b17, f48.n19, f48.b19, f48.n20, f48.b20, f48.n21, f48.b21, hi, hld, hw, hlt, hc.rd0, hc.rd1, hc.rd2, hc.rd3, hc.rd4, hc.rd5, sr.len, ss.len, sf.len, si.len, su.len, sw.one, sw.cells, sw.len, Bool.and_assoc, BPost_err, *] | (refine Res_post (A := BPost I) (ih _ (by omega) _ _ ?_) ?_))))
    0 (by omega)
  obtain ⟨N, hN⟩ := Evt.loop q.recs (F := fun i n => ∀ (ok : Bool) h, Ext hb h → Res ((f48.J I (AM.lim ⟨P, I, genF P Sh.prims⟩) (n)).1.1.2.1 (.ptr l o) (.bool ok) vr (.int .i64 q.recs.length) (.int .i64 i) h) fun u g =>
      BPost I (ok && (dc (AllL (fun r : List Ty => (r.length : Int) ≤ 4) (q.recs.drop i)) && (dc (AllL (fun s : Sg => (s.params.length : Int) ≤ 4) q.sigs) && (dc (AllL (fun f : List Int => (f.length : Int) ≤ 3) q.faces) && (dc (AllL (fun m : Im => (m.funcs.length : Int) ≤ 3) q.impls) && (dc (AllL (fun f => bodyB f = true) q.funcs) && dc (IntKind.i64.wrap (sumL ptsF q.funcs) ≤ 600 ∧ IntKind.i64.wrap (sumL alsF q.funcs) ≤ 40))))))) u g ∧ Ext hb g) 8
    (Evt.step 8 h2 fun n hn ok h e => by
      rw [f48.n2]; unfold f48.b2
      (repeat' (first | refine Rf (fun hF hG => ?_) (fun hF hG => ?_) | assumption | (show Ext _ _; exact Ext.go) | (simp only [AHeap.next_alloc, AHeap.next_set, AHeap.next_kill, AHeap.next_res] at hle hsame) | simp (disch := first | exact D.go | fail) [setR, List.getElem?_cons_zero, List.getElem?_cons_succ, f48.n0, f48.b0, f48.n1, f48.b1, f48.n3, f48.b3, f48.n4, f48.b4, f48.n5, f48.b5, f48.n7, f48.b7, f48.n8, f48.b8, f48.n9, f48.b9, f48.n11, f48.b11, f48.n12, f48.b12, f48.n13, f48.b13, f48.n15, f48.b15, f48.n16, f48.b16, f48.n17, f48.b17, f48.n19, f48.b19, f48.n20, f48.b20, f48.n21, f48.b21, hc.rd0, hc.rd1, hc.rd2, hc.rd3, hc.rd4, hc.rd5, sr.len, ss.len, sf.len, si.len, su.len, Bool.and_assoc, BPost_err, *] | (refine Res_post (A := BPost I) (hn _ (by omega) _ _ ?_) ?_))))
    (fun i x n hx ih ok h e => by
      obtain ⟨l1, o1, hi, ⟨_, ⟨w, rfl, sw⟩, ha⟩⟩ := sr.at hx
      have hlt := lt_of_get hx; have hw := wrap_in (n := (i : Int) + 1) ⟨by omega, by omega⟩; simp only [Int.natCast_add, Int.natCast_one] at ih; rw [drop_of_get hx]; have hlo := e.lo
      rw [f48.n2]; unfold f48.b2
      (repeat' (first | refine Rf (fun hF hG => ?_) (fun hF hG => ?_) | assumption | (show Ext _ _; exact Ext.go) | (simp only [AHeap.next_alloc, AHeap.next_set, AHeap.next_kill, AHeap.next_res] at hle hsame) | simp (disch := first | exact D.go | fail) [setR, List.getElem?_cons_zero, List.getElem?_cons_succ, f48.n0, f48.b0, f48.n1, f48.b1, f48.n3, f48.b3, f48.n4, f48.b4, f48.n5, f48.b5, f48.n7, f48.b7, f48.n8, f48.b8, f48.n9, f48.b9, f48.n11, f48.b11, f48.n12, f48.b12, f48.n13, f48.b13, f48.n15, f48.b15, f48.n16, f48.b16, f48.n17, f48.b17, f48.n19, f48.b19, f48.n20, f48.b20, f48.n21, f48.b21, hi, ha.rd0, hw, hlt, hc.rd0, hc.rd1, hc.rd2, hc.rd3, hc.rd4, hc.rd5, sr.len, ss.len, sf.len, si.len, su.len, sw.one, sw.cells, sw.len, Bool.and_assoc, BPost_err, *] | (refine Res_post (A := BPost I) (ih _ (by omega) _ _ ?_) ?_))))
    0 (by omega)
  refine f48.lim rfl (n := N + 1) ?_
  unfold f48.e
  (repeat' (first | refine Rf (fun hF hG => ?_) (fun hF hG => ?_) | assumption | (show Ext _ _; exact Ext.go) | (simp only [AHeap.next_alloc, AHeap.next_set, AHeap.next_kill, AHeap.next_res] at hle hsame) | simp (disch := first | exact D.go | fail) [setR, List.getElem?_cons_zero, List.getElem?_cons_succ, f48.n0, f48.b0, f48.n1, f48.b1, f48.n3, f48.b3, f48.n4, f48.b4, f48.n5, f48.b5, f48.n7, f48.b7, f48.n8, f48.b8, f48.n9, f48.b9, f48.n11, f48.b11, f48.n12, f48.b12, f48.n13, f48.b13, f48.n15, f48.b15, f48.n16, f48.b16, f48.n17, f48.b17, f48.n19, f48.b19, f48.n20, f48.b20, f48.n21, f48.b21, hc.rd0, hc.rd1, hc.rd2, hc.rd3, hc.rd4, hc.rd5, sr.len, ss.len, sf.len, si.len, su.len, boundsB, lensB, innerB, Bool.and_assoc, BPost_err, *] | (refine Res.call (h0 := hb) (tbound _) ?_ (fun u g hA hg hlo hle hsame hx => ?_)) | (refine Res_post (A := BPost I) (hN _ (by omega) _ _ ?_) ?_)))
theorem tBounds_nil (hb : AHeap) : Res ((AM.lim ⟨P, I, genF P Sh.prims⟩) 48 [.nilp] hb) fun u g => BPost I false u g ∧ Ext hb g := by
  refine f48.lim rfl (n := 1) ?_
  unfold f48.e
  (repeat' (first | refine Rf (fun hF hG => ?_) (fun hF hG => ?_) | assumption | (show Ext _ _; exact Ext.go) | (simp only [AHeap.next_alloc, AHeap.next_set, AHeap.next_kill, AHeap.next_res] at hle hsame) | simp (disch := first | exact D.go | fail) [setR, List.getElem?_cons_zero, List.getElem?_cons_succ, f48.n0, f48.b0, f48.n1, f48.b1, f48.n2, f48.b2, f48.n3, f48.b3, f48.n4, f48.b4, f48.n5, f48.b5, f48.n6, f48.b6, f48.n7, f48.b7, f48.n8, f48.b8, f48.n9, f48.b9, f48.n10, f48.b10, f48.n11, f48.b11, f48.n12, f48.b12, f48.n13, f48.b13, f48.n14, f48.b14, f48.n15, f48.b15, f48.n16, f48.b16, f48.n17, f48.b17, f48.n18, f48.b18, f48.n19, f48.b19, f48.n20, f48.b20, f48.n21, f48.b21, Bool.and_assoc, BPost_err, *] | (refine Res.call (h0 := hb) (tbound _) ?_ (fun u g hA hg hlo hle hsame hx => ?_))))

theorem rBounds {l : AM.Loc} {o : Nat} {q : Pg} (hq : PgA I h0 l o q) (hb : AHeap) (eb : Ext h0 hb) : Ret ((AM.lim ⟨P, I, genF P Sh.prims⟩) 15 [.ptr l o] hb) hb (.bool (boundsB q)) := by
  have hq' := hq
  obtain ⟨_, ⟨vr, vs, vf, vi, vu, rfl, rm, sr, ss, sf, si, su⟩, hc⟩ := hq
  have lr := sr.lt; have ls := ss.lt; have lf := sf.lt; have li := si.lt; have lu := su.lt
  have h5 := Evt.loop' q.funcs (F := fun i n => ∀ (a c : Int) h, Ext hb h → Res ((f15.J I (AM.lim ⟨P, I, genF P Sh.prims⟩) (n)).2.1.1.2.2 (.ptr l o) (.int .i64 (IntKind.i64.wrap a)) (.int .i64 (IntKind.i64.wrap c)) (.int .i64 i) h) fun u g =>
      u = .bool (dc (AllL (fun f => bodyB f = true) (q.funcs.drop i)) && dc (IntKind.i64.wrap (a + sumL ptsF (q.funcs.drop i)) ≤ 600 ∧ IntKind.i64.wrap (c + sumL alsF (q.funcs.drop i)) ≤ 40)) ∧ Ext hb g)
    (Evt.all 8 fun n a c h e => by
      rw [f15.n18]; unfold f15.b18
      (repeat' (first | refine Rf (fun hF hG => ?_) (fun hF hG => ?_) | assumption | (show Ext _ _; exact Ext.go) | (simp only [AHeap.next_alloc, AHeap.next_set, AHeap.next_kill, AHeap.next_res] at hle hsame) | simp (disch := first | exact D.go | fail) [setR, List.getElem?_cons_zero, List.getElem?_cons_succ, f15.n0, f15.b0, f15.n1, f15.b1, f15.n3, f15.b3, f15.n4, f15.b4, f15.n5, f15.b5, f15.n7, f15.b7, f15.n8, f15.b8, f15.n9, f15.b9, f15.n11, f15.b11, f15.n12, f15.b12, f15.n13, f15.b13, f15.n15, f15.b15, f15.n16, f15.b16, f15.n17, f15.b17, f15.n19, f15.b19, f15.n20, f15.b20, f15.n21, f15.b21, f15.n23, f15.b23, f15.n24, f15.b24, f15.n25, f15.b25, f15.n26, f15.b26, f15.n28, f15.b28, f15.n29, f15.b29, f15.n30, f15.b30, sumL, hc.rd0, hc.rd1, hc.rd2, hc.rd3, hc.rd4, hc.rd5, sr.len, ss.len, sf.len, si.len, su.len, *])))
    (fun i x hx ih => by
      obtain ⟨l1, o1, hi, ⟨_, ⟨wr, wb, rfl, r0, swr, swb⟩, ha⟩⟩ := su.at hx
      have hld := fun g e => ha.rds (n := 3) g e rfl (by omega)
      have lwb := swb.lt
      have hlt := lt_of_get hx; have hw := wrap_in (n := (i : Int) + 1) ⟨by omega, by omega⟩
      have blk := Evt.loop' x.blocks (F := fun j n => ∀ (a c : Int) (hf : AHeap) (k : Nat) (h : AHeap), Ext hb hf → Cells I hf (.own k) 0 [.int .i64 x.sig, wr, wb] → Ext hf h → Res ((f15.J I (AM.lim ⟨P, I, genF P Sh.prims⟩) (n)).2.1.2.2.2 (.ptr l o) (.int .i64 (IntKind.i64.wrap a)) (.int .i64 (IntKind.i64.wrap c)) (.int .i64 i) (.ptr (.own k) 0) (.int .i64 j) h) fun u g =>
          u = .bool (dc (AllL (fun b : Bk => (b.code.length : Int) ≤ 30 ∧ AllL (fun i : Ins => (i.args.length : Int) ≤ 4) b.code) (x.blocks.drop j)) && (dc (AllL (fun f => bodyB f = true) (q.funcs.drop (i + 1))) &&
            dc (IntKind.i64.wrap (a + (sumL (fun b : Bk => (b.code.length : Int) + 1) (x.blocks.drop j) + sumL ptsF (q.funcs.drop (i + 1)))) ≤ 600 ∧ IntKind.i64.wrap (c + (sumL alsB (x.blocks.drop j) + sumL alsF (q.funcs.drop (i + 1)))) ≤ 40))) ∧ Ext hb g)
        (Evt.step 8 ih fun n ih a c hf k h ef hcf e' => by
          have e := ef.trans e'
          simp only [Int.natCast_add, Int.natCast_one] at ih
          rw [f15.n22]; unfold f15.b22
          (repeat' (first | refine Rf (fun hF hG => ?_) (fun hF hG => ?_) | assumption | (show Ext _ _; exact Ext.go) | (simp only [AHeap.next_alloc, AHeap.next_set, AHeap.next_kill, AHeap.next_res] at hle hsame) | simp (disch := first | exact D.go | fail) [setR, List.getElem?_cons_zero, List.getElem?_cons_succ, f15.n0, f15.b0, f15.n1, f15.b1, f15.n3, f15.b3, f15.n4, f15.b4, f15.n5, f15.b5, f15.n7, f15.b7, f15.n8, f15.b8, f15.n9, f15.b9, f15.n11, f15.b11, f15.n12, f15.b12, f15.n13, f15.b13, f15.n15, f15.b15, f15.n16, f15.b16, f15.n17, f15.b17, f15.n19, f15.b19, f15.n20, f15.b20, f15.n21, f15.b21, f15.n23, f15.b23, f15.n24, f15.b24, f15.n25, f15.b25, f15.n26, f15.b26, f15.n28, f15.b28, f15.n29, f15.b29, f15.n30, f15.b30, sumL, hcf.rd0, hcf.rd1, hcf.rd2, swb.len, hw, *] | (refine Res.mono (ih _ (by omega) _ _ _ ?_) (fun u g hq => ?_); rotate_left; (obtain ⟨rfl, hq⟩ := hq); rotate_right))))
        (fun j y hy jh => by
          obtain ⟨l2, o2, hj, ⟨_, ⟨wc, rfl, swc, _⟩, hy'⟩⟩ := swb.at hy
          have lwc := swc.lt
          have hlt2 := lt_of_get hy; have hw2 := wrap_in (n := (j : Int) + 1) ⟨by omega, by omega⟩
          have cod := Evt.loop y.code (F := fun m n => ∀ (a c : Int) (hf : AHeap) (k : Nat) (h : AHeap), Ext hb hf → Cells I hf (.own k) 0 [.int .i64 x.sig, wr, wb] → Ext hf h → Res ((f15.J I (AM.lim ⟨P, I, genF P Sh.prims⟩) (n)).2.2.2.1.1 (.ptr l o) (.int .i64 (IntKind.i64.wrap a)) (.int .i64 (IntKind.i64.wrap c)) (.int .i64 i) (.ptr (.own k) 0) (.int .i64 j) (.int .i64 m) h) fun u g =>
              u = .bool (dc (AllL (fun i : Ins => (i.args.length : Int) ≤ 4) (y.code.drop m)) && (dc (AllL (fun b : Bk => (b.code.length : Int) ≤ 30 ∧ AllL (fun i : Ins => (i.args.length : Int) ≤ 4) b.code) (x.blocks.drop (j + 1))) && (dc (AllL (fun f => bodyB f = true) (q.funcs.drop (i + 1))) &&
                dc (IntKind.i64.wrap (a + (sumL (fun _ => (1 : Int)) (y.code.drop m) + (1 + (sumL (fun b : Bk => (b.code.length : Int) + 1) (x.blocks.drop (j + 1)) + sumL ptsF (q.funcs.drop (i + 1)))))) ≤ 600 ∧
                  IntKind.i64.wrap (c + (sumL (fun i : Ins => if i.op = 5 then 1 else 0) (y.code.drop m) + (sumL alsB (x.blocks.drop (j + 1)) + sumL alsF (q.funcs.drop (i + 1))))) ≤ 40)))) ∧ Ext hb g) 8
            (Evt.step 8 jh fun n jh a c hf k h ef hcf e' => by
              have e := ef.trans e'
              simp only [Int.natCast_add, Int.natCast_one] at jh
              rw [f15.n27]; unfold f15.b27
              (repeat' (first | refine Rf (fun hF hG => ?_) (fun hF hG => ?_) | assumption | (show Ext _ _; exact Ext.go) | (simp only [AHeap.next_alloc, AHeap.next_set, AHeap.next_kill, AHeap.next_res] at hle hsame) | simp (disch := first | exact D.go | fail) [setR, List.getElem?_cons_zero, List.getElem?_cons_succ, f15.n0, f15.b0, f15.n1, f15.b1, f15.n3, f15.b3, f15.n4, f15.b4, f15.n5, f15.b5, f15.n7, f15.b7, f15.n8, f15.b8, f15.n9, f15.b9, f15.n11, f15.b11, f15.n12, f15.b12, f15.n13, f15.b13, f15.n15, f15.b15, f15.n16, f15.b16, f15.n17, f15.b17, f15.n19, f15.b19, f15.n20, f15.b20, f15.n21, f15.b21, f15.n23, f15.b23, f15.n24, f15.b24, f15.n25, f15.b25, f15.n26, f15.b26, f15.n28, f15.b28, f15.n29, f15.b29, f15.n30, f15.b30, sumL, hcf.rd0, hcf.rd1, hcf.rd2, swb.len, hw2, hj, hy'.rd0, swc.len, wrap_addl, Int.add_assoc, *] | (refine Res.mono (jh _ (by omega) _ _ hf k _ ef hcf ?_) (fun u g hq => ?_); rotate_left; (obtain ⟨rfl, hq⟩ := hq); rotate_right))))
            (fun m z n hz mh a c hf k h ef hcf e' => by
              obtain ⟨l3, o3, hm, ⟨_, ⟨wa, rfl, swa, _⟩, hz'⟩⟩ := swc.at hz
              have hlt3 := lt_of_get hz; have hw3 := wrap_in (n := (m : Int) + 1) ⟨by omega, by omega⟩
              have e := ef.trans e'
              simp only [Int.natCast_add, Int.natCast_one] at mh
              rw [drop_of_get hz]
              rw [f15.n27]; unfold f15.b27
              have hlo := e.lo
              (repeat' (first | refine Rf (fun hF hG => ?_) (fun hF hG => ?_) | assumption | (show Ext _ _; exact Ext.go) | (simp only [AHeap.next_alloc, AHeap.next_set, AHeap.next_kill, AHeap.next_res] at hle hsame) | simp (disch := first | exact D.go | fail) [setR, List.getElem?_cons_zero, List.getElem?_cons_succ, f15.n0, f15.b0, f15.n1, f15.b1, f15.n3, f15.b3, f15.n4, f15.b4, f15.n5, f15.b5, f15.n7, f15.b7, f15.n8, f15.b8, f15.n9, f15.b9, f15.n11, f15.b11, f15.n12, f15.b12, f15.n13, f15.b13, f15.n15, f15.b15, f15.n16, f15.b16, f15.n17, f15.b17, f15.n19, f15.b19, f15.n20, f15.b20, f15.n21, f15.b21, f15.n23, f15.b23, f15.n24, f15.b24, f15.n25, f15.b25, f15.n26, f15.b26, f15.n28, f15.b28, f15.n29, f15.b29, f15.n30, f15.b30, sumL, hcf.rd0, hcf.rd1, hcf.rd2, hz'.rd0, hz'.rd1, hz'.rd2, hz'.rd3, hz'.rd4, hz'.rd5, swb.len, hw3, hj, hm, hy'.rd0, swc.len, swa.len, hlt3, wrap_addl, Int.add_assoc, *] | (refine Res.mono (mh _ (by omega) _ _ hf k _ ef hcf ?_) (fun u g hq => ?_); rotate_left; (obtain ⟨rfl, hq⟩ := hq); rotate_right))))
            0 (by omega)
          refine Evt.step 8 cod fun n mh a c hf k h ef hcf e' => ?_
          have e := ef.trans e'
          rw [drop_of_get hy]
          rw [f15.n22]; unfold f15.b22
          have hlo := e.lo
          (repeat' (first | refine Rf (fun hF hG => ?_) (fun hF hG => ?_) | assumption | (show Ext _ _; exact Ext.go) | (simp only [AHeap.next_alloc, AHeap.next_set, AHeap.next_kill, AHeap.next_res] at hle hsame) | simp (disch := first | exact D.go | fail) [setR, List.getElem?_cons_zero, List.getElem?_cons_succ, f15.n0, f15.b0, f15.n1, f15.b1, f15.n3, f15.b3, f15.n4, f15.b4, f15.n5, f15.b5, f15.n7, f15.b7, f15.n8, f15.b8, f15.n9, f15.b9, f15.n11, f15.b11, f15.n12, f15.b12, f15.n13, f15.b13, f15.n15, f15.b15, f15.n16, f15.b16, f15.n17, f15.b17, f15.n19, f15.b19, f15.n20, f15.b20, f15.n21, f15.b21, f15.n23, f15.b23, f15.n24, f15.b24, f15.n25, f15.b25, f15.n26, f15.b26, f15.n28, f15.b28, f15.n29, f15.b29, f15.n30, f15.b30, sumL, hcf.rd0, hcf.rd1, hcf.rd2, swb.len, hw2, hj, hy'.rd0, swc.len, hlt2, sumL_one, alsB, Int.add_assoc, Bool.and_assoc, *] | (refine Res.mono (mh _ (by omega) _ _ hf k _ ef hcf ?_) (fun u g hq => ?_); rotate_left; (obtain ⟨rfl, hq⟩ := hq); rotate_right))))
        0 (by omega)
      refine Evt.step 8 blk fun n jh a c h e => ?_
      rw [drop_of_get hx]
      rw [f15.n18]; unfold f15.b18
      have hlo := e.lo
      have hcf : Cells I ((h.alloc ⟨[Z 0, .nils, .nils], true⟩).set h.next ⟨[.int .i64 x.sig, wr, wb], true⟩) (.own h.next) 0 [.int .i64 x.sig, wr, wb] :=
        Cells.own (AHeap.set_at (Nb.o rfl)) (by simp) fun i v hv => by simpa using hv
      (repeat' (first | refine Rf (fun hF hG => ?_) (fun hF hG => ?_) | assumption | (show Ext _ _; exact Ext.go) | (simp only [AHeap.next_alloc, AHeap.next_set, AHeap.next_kill, AHeap.next_res] at hle hsame) | simp (disch := first | exact D.go | fail) [setR, List.getElem?_cons_zero, List.getElem?_cons_succ, f15.n0, f15.b0, f15.n1, f15.b1, f15.n3, f15.b3, f15.n4, f15.b4, f15.n5, f15.b5, f15.n7, f15.b7, f15.n8, f15.b8, f15.n9, f15.b9, f15.n11, f15.b11, f15.n12, f15.b12, f15.n13, f15.b13, f15.n15, f15.b15, f15.n16, f15.b16, f15.n17, f15.b17, f15.n19, f15.b19, f15.n20, f15.b20, f15.n21, f15.b21, f15.n23, f15.b23, f15.n24, f15.b24, f15.n25, f15.b25, f15.n26, f15.b26, f15.n28, f15.b28, f15.n29, f15.b29, f15.n30, f15.b30, sumL, hc.rd0, hc.rd1, hc.rd2, hc.rd3, hc.rd4, hc.rd5, sr.len, ss.len, sf.len, si.len, su.len, hi, hld, hw, hlt, swr.one, swr.len, swb.one, swb.len, bodyB, ptsF, alsF, Int.add_assoc, List.length_pos_iff, List.length_eq_zero_iff, Bool.and_assoc, *] | (refine Res.mono (jh _ (by omega) _ _ _ _ _ Ext.go hcf ?_) (fun u g hq => ?_); rotate_left; (obtain ⟨rfl, hq⟩ := hq); rotate_right))))
    0 (by omega)
  have h5 : Evt fun n => ∀ h, Ext hb h → Res ((f15.J I (AM.lim ⟨P, I, genF P Sh.prims⟩) (n)).2.1.1.2.2 (.ptr l o) (Z 0) (Z 0) (.int .i64 0) h) fun u g => u = .bool (dc (AllL (fun f => bodyB f = true) q.funcs) && dc (IntKind.i64.wrap (sumL ptsF q.funcs) ≤ 600 ∧ IntKind.i64.wrap (sumL alsF q.funcs) ≤ 40)) ∧ Ext hb g := by
    obtain ⟨N, hN⟩ := h5
    refine ⟨N, fun n hn h e => ?_⟩
    have := hN n hn 0 0 h e
    simp only [Int.zero_add, List.drop_zero] at this
    exact this
  have h4 := Evt.loop q.impls (F := fun i n => ∀ h, Ext hb h → Res ((f15.J I (AM.lim ⟨P, I, genF P Sh.prims⟩) (n)).1.2.2.2.2 (.ptr l o) (.int .i64 i) h) fun u g =>
      u = .bool (dc (AllL (fun m : Im => (m.funcs.length : Int) ≤ 3) (q.impls.drop i)) && (dc (AllL (fun f => bodyB f = true) q.funcs) && dc (IntKind.i64.wrap (sumL ptsF q.funcs) ≤ 600 ∧ IntKind.i64.wrap (sumL alsF q.funcs) ≤ 40))) ∧ Ext hb g) 8
    (Evt.step 8 h5 fun n hn h e => by
      rw [f15.n14]; unfold f15.b14
      (repeat' (first | refine Rf (fun hF hG => ?_) (fun hF hG => ?_) | assumption | (show Ext _ _; exact Ext.go) | (simp only [AHeap.next_alloc, AHeap.next_set, AHeap.next_kill, AHeap.next_res] at hle hsame) | simp (disch := first | exact D.go | fail) [setR, List.getElem?_cons_zero, List.getElem?_cons_succ, f15.n0, f15.b0, f15.n1, f15.b1, f15.n3, f15.b3, f15.n4, f15.b4, f15.n5, f15.b5, f15.n7, f15.b7, f15.n8, f15.b8, f15.n9, f15.b9, f15.n11, f15.b11, f15.n12, f15.b12, f15.n13, f15.b13, f15.n15, f15.b15, f15.n16, f15.b16, f15.n17, f15.b17, f15.n19, f15.b19, f15.n20, f15.b20, f15.n21, f15.b21, f15.n23, f15.b23, f15.n24, f15.b24, f15.n25, f15.b25, f15.n26, f15.b26, f15.n28, f15.b28, f15.n29, f15.b29, f15.n30, f15.b30, hc.rd0, hc.rd1, hc.rd2, hc.rd3, hc.rd4, hc.rd5, sr.len, ss.len, sf.len, si.len, su.len, *] | (refine Res.mono (hn _ (by omega) _ ?_) (fun u g hq => ?_); rotate_left; (obtain ⟨rfl, hq⟩ := hq); rotate_right))))
    (fun i x n hx ih h e => by
      obtain ⟨l1, o1, hi, ⟨_, ⟨w, rfl, r0, r1, sw⟩, ha⟩⟩ := si.at hx
      have hlt := lt_of_get hx; have hw := wrap_in (n := (i : Int) + 1) ⟨by omega, by omega⟩; simp only [Int.natCast_add, Int.natCast_one] at ih; rw [drop_of_get hx]; have hlo := e.lo
      rw [f15.n14]; unfold f15.b14
      (repeat' (first | refine Rf (fun hF hG => ?_) (fun hF hG => ?_) | assumption | (show Ext _ _; exact Ext.go) | (simp only [AHeap.next_alloc, AHeap.next_set, AHeap.next_kill, AHeap.next_res] at hle hsame) | simp (disch := first | exact D.go | fail) [setR, List.getElem?_cons_zero, List.getElem?_cons_succ, f15.n0, f15.b0, f15.n1, f15.b1, f15.n3, f15.b3, f15.n4, f15.b4, f15.n5, f15.b5, f15.n7, f15.b7, f15.n8, f15.b8, f15.n9, f15.b9, f15.n11, f15.b11, f15.n12, f15.b12, f15.n13, f15.b13, f15.n15, f15.b15, f15.n16, f15.b16, f15.n17, f15.b17, f15.n19, f15.b19, f15.n20, f15.b20, f15.n21, f15.b21, f15.n23, f15.b23, f15.n24, f15.b24, f15.n25, f15.b25, f15.n26, f15.b26, f15.n28, f15.b28, f15.n29, f15.b29, f15.n30, f15.b30, hi, hw, hlt, hc.rd0, hc.rd1, hc.rd2, hc.rd3, hc.rd4, hc.rd5, sr.len, ss.len, sf.len, si.len, su.len, ha.rd0, ha.rd1, ha.rd2, sw.one, sw.cells, sw.len, *] | (refine Res.mono (ih _ (by omega) _ ?_) (fun u g hq => ?_); rotate_left; (obtain ⟨rfl, hq⟩ := hq); rotate_right))))
    0 (by omega)
  have h3 := Evt.loop q.faces (F := fun i n => ∀ h, Ext hb h → Res ((f15.J I (AM.lim ⟨P, I, genF P Sh.prims⟩) (n)).1.2.1.2.2 (.ptr l o) (.int .i64 i) h) fun u g =>
      u = .bool (dc (AllL (fun f : List Int => (f.length : Int) ≤ 3) (q.faces.drop i)) && (dc (AllL (fun m : Im => (m.funcs.length : Int) ≤ 3) q.impls) && (dc (AllL (fun f => bodyB f = true) q.funcs) && dc (IntKind.i64.wrap (sumL ptsF q.funcs) ≤ 600 ∧ IntKind.i64.wrap (sumL alsF q.funcs) ≤ 40)))) ∧ Ext hb g) 8
    (Evt.step 8 h4 fun n hn h e => by
      rw [f15.n10]; unfold f15.b10
      (repeat' (first | refine Rf (fun hF hG => ?_) (fun hF hG => ?_) | assumption | (show Ext _ _; exact Ext.go) | (simp only [AHeap.next_alloc, AHeap.next_set, AHeap.next_kill, AHeap.next_res] at hle hsame) | simp (disch := first | exact D.go | fail) [setR, List.getElem?_cons_zero, List.getElem?_cons_succ, f15.n0, f15.b0, f15.n1, f15.b1, f15.n3, f15.b3, f15.n4, f15.b4, f15.n5, f15.b5, f15.n7, f15.b7, f15.n8, f15.b8, f15.n9, f15.b9, f15.n11, f15.b11, f15.n12, f15.b12, f15.n13, f15.b13, f15.n15, f15.b15, f15.n16, f15.b16, f15.n17, f15.b17, f15.n19, f15.b19, f15.n20, f15.b20, f15.n21, f15.b21, f15.n23, f15.b23, f15.n24, f15.b24, f15.n25, f15.b25, f15.n26, f15.b26, f15.n28, f15.b28, f15.n29, f15.b29, f15.n30, f15.b30, hc.rd0, hc.rd1, hc.rd2, hc.rd3, hc.rd4, hc.rd5, sr.len, ss.len, sf.len, si.len, su.len, *] | (refine Res.mono (hn _ (by omega) _ ?_) (fun u g hq => ?_); rotate_left; (obtain ⟨rfl, hq⟩ := hq); rotate_right))))
    (fun i x n hx ih h e => by
      obtain ⟨l1, o1, hi, ⟨_, ⟨w, rfl, sw⟩, ha⟩⟩ := sf.at hx
      have hlt := lt_of_get hx; have hw := wrap_in (n := (i : Int) + 1) ⟨by omega, by omega⟩; simp only [Int.natCast_add, Int.natCast_one] at ih; rw [drop_of_get hx]; have hlo := e.lo
      rw [f15.n10]; unfold f15.b10
      (repeat' (first | refine Rf (fun hF hG => ?_) (fun hF hG => ?_) | assumption | (show Ext _ _; exact Ext.go) | (simp only [AHeap.next_alloc, AHeap.next_set, AHeap.next_kill, AHeap.next_res] at hle hsame) | simp (disch := first | exact D.go | fail) [setR, List.getElem?_cons_zero, List.getElem?_cons_succ, f15.n0, f15.b0, f15.n1, f15.b1, f15.n3, f15.b3, f15.n4, f15.b4, f15.n5, f15.b5, f15.n7, f15.b7, f15.n8, f15.b8, f15.n9, f15.b9, f15.n11, f15.b11, f15.n12, f15.b12, f15.n13, f15.b13, f15.n15, f15.b15, f15.n16, f15.b16, f15.n17, f15.b17, f15.n19, f15.b19, f15.n20, f15.b20, f15.n21, f15.b21, f15.n23, f15.b23, f15.n24, f15.b24, f15.n25, f15.b25, f15.n26, f15.b26, f15.n28, f15.b28, f15.n29, f15.b29, f15.n30, f15.b30, hi, hw, hlt, hc.rd0, hc.rd1, hc.rd2, hc.rd3, hc.rd4, hc.rd5, sr.len, ss.len, sf.len, si.len, su.len, ha.rd0, sw.one, sw.cells, sw.len, *] | (refine Res.mono (ih _ (by omega) _ ?_) (fun u g hq => ?_); rotate_left; (obtain ⟨rfl, hq⟩ := hq); rotate_right))))
    0 (by omega)
  have h2 := Evt.loop q.sigs (F := fun i n => ∀ h, Ext hb h → Res ((f15.J I (AM.lim ⟨P, I, genF P Sh.prims⟩) (n)).1.1.2.2.2 (.ptr l o) (.int .i64 i) h) fun u g =>
      u = .bool (dc (AllL (fun s : Sg => (s.params.length : Int) ≤ 4) (q.sigs.drop i)) && (dc (AllL (fun f : List Int => (f.length : Int) ≤ 3) q.faces) && (dc (AllL (fun m : Im => (m.funcs.length : Int) ≤ 3) q.impls) && (dc (AllL (fun f => bodyB f = true) q.funcs) && dc (IntKind.i64.wrap (sumL ptsF q.funcs) ≤ 600 ∧ IntKind.i64.wrap (sumL alsF q.funcs) ≤ 40))))) ∧ Ext hb g) 8
    (Evt.step 8 h3 fun n hn h e => by
      rw [f15.n6]; unfold f15.b6
      (repeat' (first | refine Rf (fun hF hG => ?_) (fun hF hG => ?_) | assumption | (show Ext _ _; exact Ext.go) | (simp only [AHeap.next_alloc, AHeap.next_set, AHeap.next_kill, AHeap.next_res] at hle hsame) | simp (disch := first | exact D.go | fail) [setR, List.getElem?_cons_zero, List.getElem?_cons_succ, f15.n0, f15.b0, f15.n1, f15.b1, f15.n3, f15.b3, f15.n4, f15.b4, f15.n5, f15.b5, f15.n7, f15.b7, f15.n8, f15.b8, f15.n9, f15.b9, f15.n11, f15.b11, f15.n12, f15.b12, f15.n13, f15.b13, f15.n15, f15.b15, f15.n16, f15.b16, f15.n17, f15.b17, f15.n19, f15.b19, f15.n20, f15.b20, f15.n21, f15.b21, f15.n23, f15.b23, f15.n24, f15.b24, f15.n25, f15.b25, f15.n26, f15.b26, f15.n28, f15.b28, f15.n29, f15.b29, f15.n30, f15.b30, hc.rd0, hc.rd1, hc.rd2, hc.rd3, hc.rd4, hc.rd5, sr.len, ss.len, sf.len, si.len, su.len, *] | (refine Res.mono (hn _ (by omega) _ ?_) (fun u g hq => ?_); rotate_left; (obtain ⟨rfl, hq⟩ := hq); rotate_right))))
    (fun i x n hx ih h e => by
      obtain ⟨l1, o1, hi, ⟨_, ⟨w, rfl, sw, r0, r1⟩, ha⟩⟩ := ss.at hx
      have hlt := lt_of_get hx; have hw := wrap_in (n := (i : Int) + 1) ⟨by omega, by omega⟩; simp only [Int.natCast_add, Int.natCast_one] at ih; rw [drop_of_get hx]; have hlo := e.lo
      rw [f15.n6]; unfold f15.b6
      (repeat' (first | refine Rf (fun hF hG => ?_) (fun hF hG => ?_) | assumption | (show Ext _ _; exact Ext.go) | (simp only [AHeap.next_alloc, AHeap.next_set, AHeap.next_kill, AHeap.next_res] at hle hsame) | simp (disch := first | exact D.go | fail) [setR, List.getElem?_cons_zero, List.getElem?_cons_succ, f15.n0, f15.b0, f15.n1, f15.b1, f15.n3, f15.b3, f15.n4, f15.b4, f15.n5, f15.b5, f15.n7, f15.b7, f15.n8, f15.b8, f15.n9, f15.b9, f15.n11, f15.b11, f15.n12, f15.b12, f15.n13, f15.b13, f15.n15, f15.b15, f15.n16, f15.b16, f15.n17, f15.b17, f15.n19, f15.b19, f15.n20, f15.b20, f15.n21, f15.b21, f15.n23, f15.b23, f15.n24, f15.b24, f15.n25, f15.b25, f15.n26, f15.b26, f15.n28, f15.b28, f15.n29, f15.b29, f15.n30, f15.b30, hi, hw, hlt, hc.rd0, hc.rd1, hc.rd2, hc.rd3, hc.rd4, hc.rd5, sr.len, ss.len, sf.len, si.len, su.len, ha.rd0, sw.one, sw.cells, sw.len, *] | (refine Res.mono (ih _ (by omega) _ ?_) (fun u g hq => ?_); rotate_left; (obtain ⟨rfl, hq⟩ := hq); rotate_right))))
    0 (by omega)
  have h1 := Evt.loop q.recs (F := fun i n => ∀ h, Ext hb h → Res ((f15.J I (AM.lim ⟨P, I, genF P Sh.prims⟩) (n)).1.1.1.2.2 (.ptr l o) (.int .i64 i) h) fun u g =>
      u = .bool (dc (AllL (fun r : List Ty => (r.length : Int) ≤ 4) (q.recs.drop i)) && (dc (AllL (fun s : Sg => (s.params.length : Int) ≤ 4) q.sigs) && (dc (AllL (fun f : List Int => (f.length : Int) ≤ 3) q.faces) && (dc (AllL (fun m : Im => (m.funcs.length : Int) ≤ 3) q.impls) && (dc (AllL (fun f => bodyB f = true) q.funcs) && dc (IntKind.i64.wrap (sumL ptsF q.funcs) ≤ 600 ∧ IntKind.i64.wrap (sumL alsF q.funcs) ≤ 40)))))) ∧ Ext hb g) 8
    (Evt.step 8 h2 fun n hn h e => by
      rw [f15.n2]; unfold f15.b2
      (repeat' (first | refine Rf (fun hF hG => ?_) (fun hF hG => ?_) | assumption | (show Ext _ _; exact Ext.go) | (simp only [AHeap.next_alloc, AHeap.next_set, AHeap.next_kill, AHeap.next_res] at hle hsame) | simp (disch := first | exact D.go | fail) [setR, List.getElem?_cons_zero, List.getElem?_cons_succ, f15.n0, f15.b0, f15.n1, f15.b1, f15.n3, f15.b3, f15.n4, f15.b4, f15.n5, f15.b5, f15.n7, f15.b7, f15.n8, f15.b8, f15.n9, f15.b9, f15.n11, f15.b11, f15.n12, f15.b12, f15.n13, f15.b13, f15.n15, f15.b15, f15.n16, f15.b16, f15.n17, f15.b17, f15.n19, f15.b19, f15.n20, f15.b20, f15.n21, f15.b21, f15.n23, f15.b23, f15.n24, f15.b24, f15.n25, f15.b25, f15.n26, f15.b26, f15.n28, f15.b28, f15.n29, f15.b29, f15.n30, f15.b30, hc.rd0, hc.rd1, hc.rd2, hc.rd3, hc.rd4, hc.rd5, sr.len, ss.len, sf.len, si.len, su.len, *] | (refine Res.mono (hn _ (by omega) _ ?_) (fun u g hq => ?_); rotate_left; (obtain ⟨rfl, hq⟩ := hq); rotate_right))))
    (fun i x n hx ih h e => by
      obtain ⟨l1, o1, hi, ⟨_, ⟨w, rfl, sw⟩, ha⟩⟩ := sr.at hx
      have hlt := lt_of_get hx; have hw := wrap_in (n := (i : Int) + 1) ⟨by omega, by omega⟩; simp only [Int.natCast_add, Int.natCast_one] at ih; rw [drop_of_get hx]; have hlo := e.lo
      rw [f15.n2]; unfold f15.b2
      (repeat' (first | refine Rf (fun hF hG => ?_) (fun hF hG => ?_) | assumption | (show Ext _ _; exact Ext.go) | (simp only [AHeap.next_alloc, AHeap.next_set, AHeap.next_kill, AHeap.next_res] at hle hsame) | simp (disch := first | exact D.go | fail) [setR, List.getElem?_cons_zero, List.getElem?_cons_succ, f15.n0, f15.b0, f15.n1, f15.b1, f15.n3, f15.b3, f15.n4, f15.b4, f15.n5, f15.b5, f15.n7, f15.b7, f15.n8, f15.b8, f15.n9, f15.b9, f15.n11, f15.b11, f15.n12, f15.b12, f15.n13, f15.b13, f15.n15, f15.b15, f15.n16, f15.b16, f15.n17, f15.b17, f15.n19, f15.b19, f15.n20, f15.b20, f15.n21, f15.b21, f15.n23, f15.b23, f15.n24, f15.b24, f15.n25, f15.b25, f15.n26, f15.b26, f15.n28, f15.b28, f15.n29, f15.b29, f15.n30, f15.b30, hi, hw, hlt, hc.rd0, hc.rd1, hc.rd2, hc.rd3, hc.rd4, hc.rd5, sr.len, ss.len, sf.len, si.len, su.len, ha.rd0, sw.one, sw.cells, sw.len, *] | (refine Res.mono (ih _ (by omega) _ ?_) (fun u g hq => ?_); rotate_left; (obtain ⟨rfl, hq⟩ := hq); rotate_right))))
    0 (by omega)
  obtain ⟨N, hN⟩ := h1
  refine f15.lim rfl (n := N + 1) ?_
  unfold f15.e
  (repeat' (first | refine Rf (fun hF hG => ?_) (fun hF hG => ?_) | assumption | (show Ext _ _; exact Ext.go) | (simp only [AHeap.next_alloc, AHeap.next_set, AHeap.next_kill, AHeap.next_res] at hle hsame) | simp (disch := first | exact D.go | fail) [setR, List.getElem?_cons_zero, List.getElem?_cons_succ, f15.n0, f15.b0, f15.n1, f15.b1, f15.n3, f15.b3, f15.n4, f15.b4, f15.n5, f15.b5, f15.n7, f15.b7, f15.n8, f15.b8, f15.n9, f15.b9, f15.n11, f15.b11, f15.n12, f15.b12, f15.n13, f15.b13, f15.n15, f15.b15, f15.n16, f15.b16, f15.n17, f15.b17, f15.n19, f15.b19, f15.n20, f15.b20, f15.n21, f15.b21, f15.n23, f15.b23, f15.n24, f15.b24, f15.n25, f15.b25, f15.n26, f15.b26, f15.n28, f15.b28, f15.n29, f15.b29, f15.n30, f15.b30, hc.rd0, hc.rd1, hc.rd2, hc.rd3, hc.rd4, hc.rd5, sr.len, ss.len, sf.len, si.len, su.len, boundsB, lensB, innerB, Bool.and_assoc, *] | (refine Res.mono (hN _ (by omega) _ ?_) (fun u g hq => ?_); rotate_left; (obtain ⟨rfl, hq⟩ := hq); rotate_right)))
theorem rBounds_nil (hb : AHeap) : Ret ((AM.lim ⟨P, I, genF P Sh.prims⟩) 15 [.nilp] hb) hb (.bool false) := by
  refine f15.lim rfl (n := 1) ?_
  unfold f15.e
  (repeat' (first | refine Rf (fun hF hG => ?_) (fun hF hG => ?_) | assumption | (show Ext _ _; exact Ext.go) | (simp only [AHeap.next_alloc, AHeap.next_set, AHeap.next_kill, AHeap.next_res] at hle hsame) | simp (disch := first | exact D.go | fail) [setR, List.getElem?_cons_zero, List.getElem?_cons_succ, f15.n0, f15.b0, f15.n1, f15.b1, f15.n2, f15.b2, f15.n3, f15.b3, f15.n4, f15.b4, f15.n5, f15.b5, f15.n6, f15.b6, f15.n7, f15.b7, f15.n8, f15.b8, f15.n9, f15.b9, f15.n10, f15.b10, f15.n11, f15.b11, f15.n12, f15.b12, f15.n13, f15.b13, f15.n14, f15.b14, f15.n15, f15.b15, f15.n16, f15.b16, f15.n17, f15.b17, f15.n18, f15.b18, f15.n19, f15.b19, f15.n20, f15.b20, f15.n21, f15.b21, f15.n22, f15.b22, f15.n23, f15.b23, f15.n24, f15.b24, f15.n25, f15.b25, f15.n26, f15.b26, f15.n27, f15.b27, f15.n28, f15.b28, f15.n29, f15.b29, f15.n30, f15.b30, *]))
end
end
end Go.Proofs.YtikjkhddkfkijaaGreatDoor.Tx

set_option linter.unusedSimpArgs false
set_option linter.unusedVariables false
namespace Go.Proofs.YtikjkhddkfkijaaGreatDoor.Tx
noncomputable section
open Go.AM Go.Proofs.YtikjkhddkfkijaaGreatDoor.Sf
section
variable {I : Inp} {h0 : AHeap}
/-! ends of blocks -/
def endB (f : Fu) (b : Bk) : Bool :=
  if b.fin = 1 then dc (b.reg = 0) && (dc (inB b.to f.blocks.length) && dc (b.els = 0)) else if b.fin = 2 then dc (inB b.reg f.regs.length) && (dc (inB b.to f.blocks.length) && dc (inB b.els f.blocks.length))
  else if b.fin = 3 then dc (inB b.reg f.regs.length) && (dc (b.to = 0) && dc (b.els = 0)) else false
theorem tend {cf cb : List AVal} {f : Fu} {b : Bk} (hf : FuC I h0 cf f) (hk : BkC I h0 cb b) (hb : AHeap) (eb : Ext h0 hb) : Ret ((AM.lim ⟨P, I, genF P Sh.prims⟩) 79 [.agg cf, .agg cb] hb) hb (.bool (endB f b)) := by
  obtain ⟨vr, vb, rfl, r0, sr, sb⟩ := hf
  obtain ⟨vc, rfl, sc, _⟩ := hk
  refine f79.lim rfl (n := 2) ?_
  unfold f79.e
  (repeat' (first | refine Rf (fun hF hG => ?_) (fun hF hG => ?_) | assumption | (show Ext _ _; exact Ext.go) | (simp only [AHeap.next_alloc, AHeap.next_set, AHeap.next_kill, AHeap.next_res] at hle hsame) | simp (disch := first | exact D.go | fail) [setR, List.getElem?_cons_zero, List.getElem?_cons_succ, f79.n0, f79.b0, tin, sr.len, sb.len, endB, *]))
theorem rending {cf cb : List AVal} {f : Fu} {b : Bk} (hf : FuC I h0 cf f) (hk : BkC I h0 cb b) (hb : AHeap) (eb : Ext h0 hb) : Ret ((AM.lim ⟨P, I, genF P Sh.prims⟩) 36 [.agg cf, .agg cb] hb) hb (.bool (endB f b)) := by
  obtain ⟨vr, vb, rfl, r0, sr, sb⟩ := hf
  obtain ⟨vc, rfl, sc, _⟩ := hk
  refine f36.lim rfl (n := 2) ?_
  unfold f36.e
  (repeat' (first | refine Rf (fun hF hG => ?_) (fun hF hG => ?_) | assumption | (show Ext _ _; exact Ext.go) | (simp only [AHeap.next_alloc, AHeap.next_set, AHeap.next_kill, AHeap.next_res] at hle hsame) | simp (disch := first | exact D.go | fail) [setR, List.getElem?_cons_zero, List.getElem?_cons_succ, f36.n0, f36.b0, rin, sr.len, sb.len, sb.self, endB, *]))
/-! instructions -/
structure Cn where
  dst : Bool
  a : Bool
  b : Bool
  n : Bool
  args : Bool
  ok : Bool
def cn (op : Int) : Cn :=
  if op = 1 then ⟨true, false, false, true, false, true⟩ else if op = 10 then ⟨true, false, false, true, false, true⟩ else if op = 3 then ⟨true, false, false, false, false, true⟩ else if op = 4 then ⟨true, false, false, false, false, true⟩
  else if op = 5 then ⟨true, false, false, false, false, true⟩ else if op = 2 then ⟨true, true, true, false, false, true⟩ else if op = 6 then ⟨true, true, false, false, false, true⟩ else if op = 11 then ⟨true, true, false, false, false, true⟩
  else if op = 7 then ⟨true, true, false, true, false, true⟩ else if op = 8 then ⟨false, true, true, true, false, true⟩ else if op = 9 then ⟨false, true, false, false, false, true⟩ else if op = 15 then ⟨false, true, false, false, false, true⟩
  else if op = 14 then ⟨true, true, false, true, true, true⟩ else if op = 13 then ⟨true, true, false, false, true, true⟩ else if op = 12 then ⟨true, false, false, true, true, true⟩ else ⟨false, false, false, false, false, false⟩
abbrev cnV (c : Cn) : AVal := .tuple [.bool c.dst, .bool c.a, .bool c.b, .bool c.n, .bool c.args, .bool c.ok]
theorem tcounted {cs : List AVal} {i : Ins} (hi : InsC I h0 cs i) (hb : AHeap) : Ret ((AM.lim ⟨P, I, genF P Sh.prims⟩) 114 [.agg cs] hb) hb (cnV (cn i.op)) := by
  obtain ⟨v, rfl, sv, _⟩ := hi
  refine f114.lim rfl (n := 30) ?_
  unfold f114.e
  (repeat' (first | refine Rf (fun hF hG => ?_) (fun hF hG => ?_) | assumption | (show Ext _ _; exact Ext.go) | (simp only [AHeap.next_alloc, AHeap.next_set, AHeap.next_kill, AHeap.next_res] at hle hsame) | simp (disch := first | exact D.go | fail) [setR, List.getElem?_cons_zero, List.getElem?_cons_succ, f114.n0, f114.b0, f114.n1, f114.b1, f114.n2, f114.b2, f114.n3, f114.b3, f114.n4, f114.b4, f114.n5, f114.b5, f114.n6, f114.b6, f114.n7, f114.b7, f114.n8, f114.b8, f114.n9, f114.b9, f114.n10, f114.b10, f114.n11, f114.b11, f114.n12, f114.b12, f114.n13, f114.b13, f114.n14, f114.b14, f114.n15, f114.b15, f114.n16, f114.b16, f114.n17, f114.b17, f114.n18, f114.b18, f114.n19, f114.b19, f114.n20, f114.b20, f114.n21, f114.b21, f114.n22, f114.b22, f114.n23, f114.b23, f114.n24, f114.b24, *]))
  all_goals (first | (simp [cn, *]; done) | (simp [cn, *]; (show Ext _ _; exact Ext.go)))
/-- The last look: what N names. -/
def restB (q : Pg) (f : Fu) (i : Ins) : Bool :=
  if i.op = 10 then dc (inB i.n q.funcs.length) else if i.op = 12 then dc (inB i.n q.funcs.length)
  else if i.op = 7 then (let t := nth f.regs i.a ⟨0, 0⟩; !dc (t.kind = 1) || dc (inB i.n (nth q.recs t.n []).length))
  else if i.op = 8 then (let t := nth f.regs i.a ⟨0, 0⟩; !dc (t.kind = 1) || dc (inB i.n (nth q.recs t.n []).length))
  else if i.op = 14 then (let t := nth f.regs i.a ⟨0, 0⟩; !dc (t.kind = 3) || dc (inB i.n (nth q.faces t.n []).length)) else true
def instrB (q : Pg) (f : Fu) (i : Ins) : Bool :=
  let c := cn i.op
  c.ok && (dc (regP c.dst i.dst f.regs.length) && (dc (regP c.a i.a f.regs.length) && (dc (regP c.b i.b f.regs.length) && ((c.n || dc (i.n = 0)) && ((c.args || dc (i.args = [])) && (dc (AllL (fun x => inB x f.regs.length) i.args) && restB q f i))))))

theorem cn_other {op : Int} (h : op < 1 ∨ 15 < op) : cn op = ⟨false, false, false, false, false, false⟩ := by simp [cn, (show ¬ op = 1 by omega), (show ¬ op = 2 by omega), (show ¬ op = 3 by omega), (show ¬ op = 4 by omega), (show ¬ op = 5 by omega), (show ¬ op = 6 by omega), (show ¬ op = 7 by omega), (show ¬ op = 8 by omega), (show ¬ op = 9 by omega), (show ¬ op = 10 by omega), (show ¬ op = 11 by omega), (show ¬ op = 12 by omega), (show ¬ op = 13 by omega), (show ¬ op = 14 by omega), (show ¬ op = 15 by omega)]
theorem cn_1 : cn 1 = ⟨true, false, false, true, false, true⟩ := by simp [cn]
theorem cn_2 : cn 2 = ⟨true, true, true, false, false, true⟩ := by simp [cn]
theorem cn_3 : cn 3 = ⟨true, false, false, false, false, true⟩ := by simp [cn]
theorem cn_4 : cn 4 = ⟨true, false, false, false, false, true⟩ := by simp [cn]
theorem cn_5 : cn 5 = ⟨true, false, false, false, false, true⟩ := by simp [cn]
theorem cn_6 : cn 6 = ⟨true, true, false, false, false, true⟩ := by simp [cn]
theorem cn_7 : cn 7 = ⟨true, true, false, true, false, true⟩ := by simp [cn]
theorem cn_8 : cn 8 = ⟨false, true, true, true, false, true⟩ := by simp [cn]
theorem cn_9 : cn 9 = ⟨false, true, false, false, false, true⟩ := by simp [cn]
theorem cn_10 : cn 10 = ⟨true, false, false, true, false, true⟩ := by simp [cn]
theorem cn_11 : cn 11 = ⟨true, true, false, false, false, true⟩ := by simp [cn]
theorem cn_12 : cn 12 = ⟨true, false, false, true, true, true⟩ := by simp [cn]
theorem cn_13 : cn 13 = ⟨true, true, false, false, true, true⟩ := by simp [cn]
theorem cn_14 : cn 14 = ⟨true, true, false, true, true, true⟩ := by simp [cn]
theorem cn_15 : cn 15 = ⟨false, true, false, false, false, true⟩ := by simp [cn]
theorem namedP_1 {q : Pg} {t : Ty} (h : namedP q t) (k : t.kind = 1) : inB t.n q.recs.length := by simpa [namedP, k] using h
theorem namedP_2 {q : Pg} {t : Ty} (h : namedP q t) (k : t.kind = 2) : inB t.n q.sigs.length := by simpa [namedP, k] using h
theorem namedP_3 {q : Pg} {t : Ty} (h : namedP q t) (k : t.kind = 3) : inB t.n q.faces.length := by simpa [namedP, k] using h
set_option maxHeartbeats 4000000 in
theorem tinstr {l : AM.Loc} {o : Nat} {q : Pg} (hq : PgA I h0 l o q) {cf cs : List AVal} {f : Fu} {i : Ins} (hf : FuC I h0 cf f) (hi : InsC I h0 cs i) (hn : AllL (namedP q) f.regs) (hb : AHeap) (eb : Ext h0 hb) :
    Ret ((AM.lim ⟨P, I, genF P Sh.prims⟩) 77 [.ptr l o, .agg cf, .agg cs] hb) hb (.bool (instrB q f i)) := by
  have hq' := hq
  obtain ⟨_, ⟨vr, vs, vf, vi, vu, rfl, rm, sr, ss, sf, si, su⟩, hc⟩ := hq
  obtain ⟨wr, wb, rfl, r0, swr, swb⟩ := hf
  obtain ⟨op, dst, a, b, n, args⟩ := i
  have hi' := hi
  obtain ⟨v, rfl, sv, _⟩ := hi
  have h2 : AllL (namedP q) f.regs := hn
  by_cases hop : op = 7 ∨ op = 8 ∨ op = 14
  · by_cases ha : inB a f.regs.length
    · obtain ⟨l1, o1, hx1, ⟨_, ⟨rfl, _, _⟩, hx2⟩, hmem⟩ := swr.atI ha.1 ha.2 ⟨0, 0⟩
      have hnt := hn _ hmem
      generalize ht : nth f.regs a ⟨0, 0⟩ = t at *
      rw [← or_assoc] at hop
      rcases hop with hop | rfl
      · by_cases k1 : t.kind = 1
        · have h1 := namedP_1 hnt k1
          obtain ⟨l2, o2, hy1, ⟨_, ⟨w, rfl, sw⟩, hy2⟩, _⟩ := sr.atI h1.1 h1.2 []
          rcases hop with rfl | rfl
          all_goals (
            refine f77.lim rfl (n := 5) ?_
            unfold f77.e
            (repeat' (first | refine Rf (fun hF hG => ?_) (fun hF hG => ?_) | assumption | (show Ext _ _; exact Ext.go) | (simp only [AHeap.next_alloc, AHeap.next_set, AHeap.next_kill, AHeap.next_res] at hle hsame) | simp (disch := first | exact D.go | fail) [setR, List.getElem?_cons_zero, List.getElem?_cons_succ, f77.n0, f77.b0, f77.n1, f77.b1, f77.n2, f77.b2, f77.n3, f77.b3, tin, treg, swr.len, sv.len, hc.rd0, hc.rd1, hc.rd2, hc.rd3, hc.rd4, hc.rd5, sr.len, ss.len, sf.len, si.len, su.len, hx1, hx2.rd0, hx2.rd1, ht, ha, hy1, hy2.rd0, sw.len, k1, cn_1, cn_2, cn_3, cn_4, cn_5, cn_6, cn_7, cn_8, cn_9, cn_10, cn_11, cn_12, cn_13, cn_14, cn_15, cn_other, instrB, restB, regP, List.length_pos_iff, *] | (refine Ret.thn (h0 := hb) (tcounted hi' _) ?_ (fun g hg hlo hle hsame hx => ?_)) | (refine Ret.thn (h0 := hb) (tnumbers sv _ _ Ext.go) ?_ (fun g hg hlo hle hsame hx => ?_)))))
        · rcases hop with rfl | rfl
          all_goals (
            refine f77.lim rfl (n := 5) ?_
            unfold f77.e
            (repeat' (first | refine Rf (fun hF hG => ?_) (fun hF hG => ?_) | assumption | (show Ext _ _; exact Ext.go) | (simp only [AHeap.next_alloc, AHeap.next_set, AHeap.next_kill, AHeap.next_res] at hle hsame) | simp (disch := first | exact D.go | fail) [setR, List.getElem?_cons_zero, List.getElem?_cons_succ, f77.n0, f77.b0, f77.n1, f77.b1, f77.n2, f77.b2, f77.n3, f77.b3, tin, treg, swr.len, sv.len, hc.rd0, hc.rd1, hc.rd2, hc.rd3, hc.rd4, hc.rd5, sr.len, ss.len, sf.len, si.len, su.len, hx1, hx2.rd0, hx2.rd1, ht, ha, k1, cn_1, cn_2, cn_3, cn_4, cn_5, cn_6, cn_7, cn_8, cn_9, cn_10, cn_11, cn_12, cn_13, cn_14, cn_15, cn_other, instrB, restB, regP, List.length_pos_iff, *] | (refine Ret.thn (h0 := hb) (tcounted hi' _) ?_ (fun g hg hlo hle hsame hx => ?_)) | (refine Ret.thn (h0 := hb) (tnumbers sv _ _ Ext.go) ?_ (fun g hg hlo hle hsame hx => ?_)))))
      · by_cases k3 : t.kind = 3
        · have h1 := namedP_3 hnt k3
          obtain ⟨l2, o2, hy1, ⟨_, ⟨w, rfl, sw⟩, hy2⟩, _⟩ := sf.atI h1.1 h1.2 []
          refine f77.lim rfl (n := 5) ?_
          unfold f77.e
          (repeat' (first | refine Rf (fun hF hG => ?_) (fun hF hG => ?_) | assumption | (show Ext _ _; exact Ext.go) | (simp only [AHeap.next_alloc, AHeap.next_set, AHeap.next_kill, AHeap.next_res] at hle hsame) | simp (disch := first | exact D.go | fail) [setR, List.getElem?_cons_zero, List.getElem?_cons_succ, f77.n0, f77.b0, f77.n1, f77.b1, f77.n2, f77.b2, f77.n3, f77.b3, tin, treg, swr.len, sv.len, hc.rd0, hc.rd1, hc.rd2, hc.rd3, hc.rd4, hc.rd5, sr.len, ss.len, sf.len, si.len, su.len, hx1, hx2.rd0, hx2.rd1, ht, ha, hy1, hy2.rd0, sw.len, k3, cn_1, cn_2, cn_3, cn_4, cn_5, cn_6, cn_7, cn_8, cn_9, cn_10, cn_11, cn_12, cn_13, cn_14, cn_15, cn_other, instrB, restB, regP, List.length_pos_iff, *] | (refine Ret.thn (h0 := hb) (tcounted hi' _) ?_ (fun g hg hlo hle hsame hx => ?_)) | (refine Ret.thn (h0 := hb) (tnumbers sv _ _ Ext.go) ?_ (fun g hg hlo hle hsame hx => ?_))))
        · refine f77.lim rfl (n := 5) ?_
          unfold f77.e
          (repeat' (first | refine Rf (fun hF hG => ?_) (fun hF hG => ?_) | assumption | (show Ext _ _; exact Ext.go) | (simp only [AHeap.next_alloc, AHeap.next_set, AHeap.next_kill, AHeap.next_res] at hle hsame) | simp (disch := first | exact D.go | fail) [setR, List.getElem?_cons_zero, List.getElem?_cons_succ, f77.n0, f77.b0, f77.n1, f77.b1, f77.n2, f77.b2, f77.n3, f77.b3, tin, treg, swr.len, sv.len, hc.rd0, hc.rd1, hc.rd2, hc.rd3, hc.rd4, hc.rd5, sr.len, ss.len, sf.len, si.len, su.len, hx1, hx2.rd0, hx2.rd1, ht, ha, k3, cn_1, cn_2, cn_3, cn_4, cn_5, cn_6, cn_7, cn_8, cn_9, cn_10, cn_11, cn_12, cn_13, cn_14, cn_15, cn_other, instrB, restB, regP, List.length_pos_iff, *] | (refine Ret.thn (h0 := hb) (tcounted hi' _) ?_ (fun g hg hlo hle hsame hx => ?_)) | (refine Ret.thn (h0 := hb) (tnumbers sv _ _ Ext.go) ?_ (fun g hg hlo hle hsame hx => ?_))))
    · rcases hop with rfl | rfl | rfl
      all_goals (
        refine f77.lim rfl (n := 5) ?_
        unfold f77.e
        (repeat' (first | refine Rf (fun hF hG => ?_) (fun hF hG => ?_) | assumption | (show Ext _ _; exact Ext.go) | (simp only [AHeap.next_alloc, AHeap.next_set, AHeap.next_kill, AHeap.next_res] at hle hsame) | simp (disch := first | exact D.go | fail) [setR, List.getElem?_cons_zero, List.getElem?_cons_succ, f77.n0, f77.b0, f77.n1, f77.b1, f77.n2, f77.b2, f77.n3, f77.b3, tin, treg, swr.len, sv.len, hc.rd0, hc.rd1, hc.rd2, hc.rd3, hc.rd4, hc.rd5, sr.len, ss.len, sf.len, si.len, su.len, ha, cn_1, cn_2, cn_3, cn_4, cn_5, cn_6, cn_7, cn_8, cn_9, cn_10, cn_11, cn_12, cn_13, cn_14, cn_15, cn_other, instrB, restB, regP, List.length_pos_iff, *] | (refine Ret.thn (h0 := hb) (tcounted hi' _) ?_ (fun g hg hlo hle hsame hx => ?_)) | (refine Ret.thn (h0 := hb) (tnumbers sv _ _ Ext.go) ?_ (fun g hg hlo hle hsame hx => ?_)))))
  · rcases opCases op with rfl | rfl | rfl | rfl | rfl | rfl | rfl | rfl | rfl | rfl | rfl | rfl | rfl | rfl | rfl | h16
    all_goals (first
      | (exact absurd (by decide) hop)
      | (
        refine f77.lim rfl (n := 5) ?_
        unfold f77.e
        (repeat' (first | refine Rf (fun hF hG => ?_) (fun hF hG => ?_) | assumption | (show Ext _ _; exact Ext.go) | (simp only [AHeap.next_alloc, AHeap.next_set, AHeap.next_kill, AHeap.next_res] at hle hsame) | simp (disch := first | exact D.go | fail) [setR, List.getElem?_cons_zero, List.getElem?_cons_succ, f77.n0, f77.b0, f77.n1, f77.b1, f77.n2, f77.b2, f77.n3, f77.b3, tin, treg, swr.len, sv.len, hc.rd0, hc.rd1, hc.rd2, hc.rd3, hc.rd4, hc.rd5, sr.len, ss.len, sf.len, si.len, su.len, cn_1, cn_2, cn_3, cn_4, cn_5, cn_6, cn_7, cn_8, cn_9, cn_10, cn_11, cn_12, cn_13, cn_14, cn_15, cn_other, instrB, restB, regP, List.length_pos_iff, *] | (refine Ret.thn (h0 := hb) (tcounted hi' _) ?_ (fun g hg hlo hle hsame hx => ?_)) | (refine Ret.thn (h0 := hb) (tnumbers sv _ _ Ext.go) ?_ (fun g hg hlo hle hsame hx => ?_))))))
end
end
end Go.Proofs.YtikjkhddkfkijaaGreatDoor.Tx

namespace Go.Proofs.YtikjkhddkfkijaaGreatDoor.Tx
end Go.Proofs.YtikjkhddkfkijaaGreatDoor.Tx

set_option linter.unusedSimpArgs false
set_option linter.unusedVariables false
namespace Go.Proofs.YtikjkhddkfkijaaGreatDoor.Tx
noncomputable section
open Go.AM Go.Proofs.YtikjkhddkfkijaaGreatDoor.Sf
section
variable {I : Inp} {h0 : AHeap}
def aB (op : Int) : Bool := dc (op = 2) || ((!dc (op < 6) && !dc (9 < op)) || (dc (op = 11) || !dc (op < 13)))
def tailB (q : Pg) (f : Fu) (i : Ins) : Bool :=
  (aB i.op || dc (i.a = 0)) && ((dc (i.op = 2) || (dc (i.op = 8) || dc (i.b = 0))) && ((dc (i.args = []) || (!dc (i.op < 12) && !dc (14 < i.op))) &&
    (if i.op = 1 then true else if i.op = 7 then restB q f i else if i.op = 8 then restB q f i else if i.op = 10 then restB q f i else if i.op = 12 then restB q f i else if i.op = 14 then restB q f i else dc (i.n = 0))))
theorem rtail {l : AM.Loc} {o : Nat} {q : Pg} (hq : PgA I h0 l o q) {f : Fu} {i : Ins} {wr wb v : AVal} (swr : SlOf 2 (At I h0 TyC) wr f.regs) (sv : SlOf 1 (IntA I h0) v i.args) (hn : AllL (namedP q) f.regs)
    (hu : AllL (fun x => inB x f.regs.length) (usesL i)) (hop1 : 1 ≤ i.op) (hop2 : i.op ≤ 15) {hs hb : AHeap} (es : Ext hs hb) (eb : Ext h0 hb) {k4 k5 : Nat} (hA : Cells I hb (.own k4) 0 [.int .i64 f.sig, wr, wb])
    (hB : Cells I hb (.own k5) 0 [.int .i64 i.op, .int .i64 i.dst, .int .i64 i.a, .int .i64 i.b, .int .i64 i.n, v]) (m : Nat) (h : AHeap) (e : Ext hb h) :
    Res ((f35.J I (AM.lim ⟨P, I, genF P Sh.prims⟩) (m + 8)).1.2.1 (.ptr l o) (.ptr (.own k4) 0) (.ptr (.own k5) 0) h) fun u g => u = .bool (tailB q f i) ∧ Ext hs g := by
  have hlo := e.lo; have hls := es.lo
  obtain ⟨_, ⟨vr, vs, vf, vi, vu, rfl, rm, sr, ss, sf, si, su⟩, hc⟩ := hq
  obtain ⟨op, dst, a, b, n, args⟩ := i
  simp only at hop1 hop2
  by_cases hop : op = 7 ∨ op = 8 ∨ op = 14
  · have ha : inB a f.regs.length := by rcases hop with rfl | rfl | rfl <;> simp [usesL] at hu <;> first | exact hu | exact hu.1
    obtain ⟨l1, o1, hx1, ⟨_, ⟨rfl, _, _⟩, hx2⟩, hmem⟩ := swr.atI ha.1 ha.2 ⟨0, 0⟩
    have hld := fun g e => hx2.rds (n := 2) g e rfl (by omega)
    have hnt := hn _ hmem
    generalize ht : nth f.regs a ⟨0, 0⟩ = t at *
    rw [← or_assoc] at hop
    rcases hop with hop | rfl
    · by_cases k1 : t.kind = 1
      · have h1 := namedP_1 hnt k1
        obtain ⟨l2, o2, hy1, ⟨_, ⟨w, rfl, sw⟩, hy2⟩, _⟩ := sr.atI h1.1 h1.2 []
        rcases hop with rfl | rfl
        all_goals (
          rw [f35.n2]; unfold f35.b2
          (repeat' (first | refine Rf (fun hF hG => ?_) (fun hF hG => ?_) | assumption | (show Ext _ _; exact Ext.go) | (simp only [AHeap.next_alloc, AHeap.next_set, AHeap.next_kill, AHeap.next_res] at hle hsame) | simp (disch := first | exact D.go | fail) [setR, List.getElem?_cons_zero, List.getElem?_cons_succ, f35.n0, f35.b0, f35.n1, f35.b1, f35.n2, f35.b2, f35.n4, f35.b4, f35.n5, f35.b5, f35.n6, f35.b6, f35.n7, f35.b7, f35.n8, f35.b8, f35.n9, f35.b9, rin, hA.rd0, hA.rd1, hA.rd2, hB.rd0, hB.rd1, hB.rd2, hB.rd3, hB.rd4, hB.rd5, swr.len, sv.len, hc.rd0, hc.rd1, hc.rd2, hc.rd3, hc.rd4, hc.rd5, sr.len, ss.len, sf.len, si.len, su.len, hx1, hld, hy1, hy2.rd0, sw.len, k1, ht, tailB, aB, restB, List.length_pos_iff, *])))
      · rcases hop with rfl | rfl
        all_goals (
          rw [f35.n2]; unfold f35.b2
          (repeat' (first | refine Rf (fun hF hG => ?_) (fun hF hG => ?_) | assumption | (show Ext _ _; exact Ext.go) | (simp only [AHeap.next_alloc, AHeap.next_set, AHeap.next_kill, AHeap.next_res] at hle hsame) | simp (disch := first | exact D.go | fail) [setR, List.getElem?_cons_zero, List.getElem?_cons_succ, f35.n0, f35.b0, f35.n1, f35.b1, f35.n2, f35.b2, f35.n4, f35.b4, f35.n5, f35.b5, f35.n6, f35.b6, f35.n7, f35.b7, f35.n8, f35.b8, f35.n9, f35.b9, rin, hA.rd0, hA.rd1, hA.rd2, hB.rd0, hB.rd1, hB.rd2, hB.rd3, hB.rd4, hB.rd5, swr.len, sv.len, hc.rd0, hc.rd1, hc.rd2, hc.rd3, hc.rd4, hc.rd5, sr.len, ss.len, sf.len, si.len, su.len, hx1, hld, k1, ht, tailB, aB, restB, List.length_pos_iff, *])))
    · by_cases k3 : t.kind = 3
      · have h1 := namedP_3 hnt k3
        obtain ⟨l2, o2, hy1, ⟨_, ⟨w, rfl, sw⟩, hy2⟩, _⟩ := sf.atI h1.1 h1.2 []
        rw [f35.n2]; unfold f35.b2
        (repeat' (first | refine Rf (fun hF hG => ?_) (fun hF hG => ?_) | assumption | (show Ext _ _; exact Ext.go) | (simp only [AHeap.next_alloc, AHeap.next_set, AHeap.next_kill, AHeap.next_res] at hle hsame) | simp (disch := first | exact D.go | fail) [setR, List.getElem?_cons_zero, List.getElem?_cons_succ, f35.n0, f35.b0, f35.n1, f35.b1, f35.n2, f35.b2, f35.n4, f35.b4, f35.n5, f35.b5, f35.n6, f35.b6, f35.n7, f35.b7, f35.n8, f35.b8, f35.n9, f35.b9, rin, hA.rd0, hA.rd1, hA.rd2, hB.rd0, hB.rd1, hB.rd2, hB.rd3, hB.rd4, hB.rd5, swr.len, sv.len, hc.rd0, hc.rd1, hc.rd2, hc.rd3, hc.rd4, hc.rd5, sr.len, ss.len, sf.len, si.len, su.len, hx1, hld, hy1, hy2.rd0, sw.len, k3, ht, tailB, aB, restB, List.length_pos_iff, *]))
      · rw [f35.n2]; unfold f35.b2
        (repeat' (first | refine Rf (fun hF hG => ?_) (fun hF hG => ?_) | assumption | (show Ext _ _; exact Ext.go) | (simp only [AHeap.next_alloc, AHeap.next_set, AHeap.next_kill, AHeap.next_res] at hle hsame) | simp (disch := first | exact D.go | fail) [setR, List.getElem?_cons_zero, List.getElem?_cons_succ, f35.n0, f35.b0, f35.n1, f35.b1, f35.n2, f35.b2, f35.n4, f35.b4, f35.n5, f35.b5, f35.n6, f35.b6, f35.n7, f35.b7, f35.n8, f35.b8, f35.n9, f35.b9, rin, hA.rd0, hA.rd1, hA.rd2, hB.rd0, hB.rd1, hB.rd2, hB.rd3, hB.rd4, hB.rd5, swr.len, sv.len, hc.rd0, hc.rd1, hc.rd2, hc.rd3, hc.rd4, hc.rd5, sr.len, ss.len, sf.len, si.len, su.len, hx1, hld, k3, ht, tailB, aB, restB, List.length_pos_iff, *]))
  · have hops : op = 1 ∨ op = 2 ∨ op = 3 ∨ op = 4 ∨ op = 5 ∨ op = 6 ∨ op = 9 ∨ op = 10 ∨ op = 11 ∨ op = 12 ∨ op = 13 ∨ op = 15 := by omega
    rcases hops with rfl | rfl | rfl | rfl | rfl | rfl | rfl | rfl | rfl | rfl | rfl | rfl
    all_goals (
      rw [f35.n2]; unfold f35.b2
      (repeat' (first | refine Rf (fun hF hG => ?_) (fun hF hG => ?_) | assumption | (show Ext _ _; exact Ext.go) | (simp only [AHeap.next_alloc, AHeap.next_set, AHeap.next_kill, AHeap.next_res] at hle hsame) | simp (disch := first | exact D.go | fail) [setR, List.getElem?_cons_zero, List.getElem?_cons_succ, f35.n0, f35.b0, f35.n1, f35.b1, f35.n2, f35.b2, f35.n4, f35.b4, f35.n5, f35.b5, f35.n6, f35.b6, f35.n7, f35.b7, f35.n8, f35.b8, f35.n9, f35.b9, rin, hA.rd0, hA.rd1, hA.rd2, hB.rd0, hB.rd1, hB.rd2, hB.rd3, hB.rd4, hB.rd5, swr.len, sv.len, hc.rd0, hc.rd1, hc.rd2, hc.rd3, hc.rd4, hc.rd5, sr.len, ss.len, sf.len, si.len, su.len, tailB, aB, restB, List.length_pos_iff, *])))
def rinstrB (q : Pg) (f : Fu) (i : Ins) : Bool :=
  (!dc (i.op < 1) && !dc (15 < i.op)) && ((if defB i.op = true then dc (inB i.dst f.regs.length) else dc (i.dst = 0)) && (dc (AllL (fun x => inB x f.regs.length) (usesL i)) && tailB q f i))
theorem rinstrB_eq (q : Pg) (f : Fu) (i : Ins) : rinstrB q f i = instrB q f i := by
  obtain ⟨op, dst, a, b, n, args⟩ := i
  rcases opCases op with rfl | rfl | rfl | rfl | rfl | rfl | rfl | rfl | rfl | rfl | rfl | rfl | rfl | rfl | rfl | h16
  case inr.inr.inr.inr.inr.inr.inr.inr.inr.inr.inr.inr.inr.inr.inr =>
    simp only [rinstrB, instrB, cn_other h16, Bool.false_and]
    rcases h16 with h | h
    · simp [h]
    · simp [h]
  all_goals simp [rinstrB, instrB, cn_1, cn_2, cn_3, cn_4, cn_5, cn_6, cn_7, cn_8, cn_9, cn_10, cn_11, cn_12, cn_13, cn_14, cn_15, defB, usesL, tailB, aB, restB, regP]
  all_goals (cases args <;> simp [Bool.and_comm, Bool.and_left_comm, Bool.and_assoc])
theorem rinstr {l : AM.Loc} {o : Nat} {q : Pg} (hq : PgA I h0 l o q) {cf cs : List AVal} {f : Fu} {i : Ins} (hf : FuC I h0 cf f) (hi : InsC I h0 cs i) (hn : AllL (namedP q) f.regs) (hm : i.args.length ≤ 1000000) (hb : AHeap) (eb : Ext h0 hb) :
    Ret ((AM.lim ⟨P, I, genF P Sh.prims⟩) 35 [.ptr l o, .agg cf, .agg cs] hb) hb (.bool (instrB q f i)) := by
  rw [← rinstrB_eq]
  have hf' := hf; have hi' := hi
  obtain ⟨wr, wb, rfl, r0, swr, swb⟩ := hf
  obtain ⟨v, rfl, sv, _⟩ := hi
  by_cases hop : 1 ≤ i.op ∧ i.op ≤ 15
  · obtain ⟨hop1, hop2⟩ := hop
    have hlu : (usesL i).length ≤ 1000001 := by
      unfold usesL
      repeat' split
      all_goals (first | omega | (simp; done) | (simp; omega))
    obtain ⟨N, hN⟩ := Evt.loop (usesL i) (F := fun j n => ∀ (hb' : AHeap) (k4 k5 : Nat) (vu : AVal) (h : AHeap), Ext hb hb' → Cells I hb' (.own k4) 0 [.int .i64 f.sig, wr, wb] →
        Cells I hb' (.own k5) 0 [.int .i64 i.op, .int .i64 i.dst, .int .i64 i.a, .int .i64 i.b, .int .i64 i.n, v] → SlOf 1 (IntA I hb') vu (usesL i) → AllL (fun x => inB x f.regs.length) ((usesL i).take j) → Ext hb' h →
        Res ((f35.J I (AM.lim ⟨P, I, genF P Sh.prims⟩) (n)).1.2.2.1 (.ptr l o) (.ptr (.own k4) 0) (.ptr (.own k5) 0) (.int .i64 f.regs.length) vu (.int .i64 j) h) fun u g => u = .bool (dc (AllL (fun x => inB x f.regs.length) ((usesL i).drop j)) && tailB q f i) ∧ Ext hb g) 10
      (Evt.all 10 fun n hb' k4 k5 vu h es hA hB su ht e => by
        rw [List.take_length] at ht
        have tl := fun h e => rtail hq swr sv hn ht hop1 hop2 es (eb.trans es) hA hB n h e
        have tl1 := fun h e => rtail hq swr sv hn ht hop1 hop2 es (eb.trans es) hA hB (n + 1) h e
        rw [f35.n3]; unfold f35.b3
        (repeat' (first | refine Rf (fun hF hG => ?_) (fun hF hG => ?_) | assumption | (show Ext _ _; exact Ext.go) | (simp only [AHeap.next_alloc, AHeap.next_set, AHeap.next_kill, AHeap.next_res] at hle hsame) | simp (disch := first | exact D.go | fail) [setR, List.getElem?_cons_zero, List.getElem?_cons_succ, su.len, f35.n1, f35.b1, *] | (refine Res.mono (tl _ ?_) (fun u g hq => ?_); rotate_left; (obtain ⟨rfl, hq⟩ := hq); rotate_right) | (refine Res.mono (tl1 _ ?_) (fun u g hq => ?_); rotate_left; (obtain ⟨rfl, hq⟩ := hq); rotate_right))))
      (fun j x n hx ih hb' k4 k5 vu h es hA hB su ht e => by
        obtain ⟨l1, o1, hi1, ha⟩ := su.at hx
        obtain ⟨ha, _⟩ := ha.int
        have hlt := lt_of_get hx; have hw := wrap_in (n := (j : Int) + 1) ⟨by omega, by omega⟩
        simp only [Int.natCast_add, Int.natCast_one] at ih
        rw [drop_of_get hx]
        have hlo := e.lo
        rw [f35.n3]; unfold f35.b3
        (repeat' (first | refine Rf (fun hF hG => ?_) (fun hF hG => ?_) | assumption | (show Ext _ _; exact Ext.go) | (simp only [AHeap.next_alloc, AHeap.next_set, AHeap.next_kill, AHeap.next_res] at hle hsame) | simp (disch := first | exact D.go | fail) [setR, List.getElem?_cons_zero, List.getElem?_cons_succ, f35.n0, f35.b0, f35.n1, f35.b1, f35.n4, f35.b4, f35.n5, f35.b5, f35.n6, f35.b6, f35.n7, f35.b7, f35.n8, f35.b8, f35.n9, f35.b9, su.len, hi1, ha, hw, hlt, rin, *] | (refine Res.mono (ih _ (by omega) _ _ _ _ _ es hA hB su (AllL_take ht hx hF) ?_) (fun u g hq => ?_); rotate_left; (obtain ⟨rfl, hq⟩ := hq); rotate_right))))
      0 (by omega)
    refine f35.lim rfl (n := N + 2) ?_
    unfold f35.e
    (repeat' (first | refine Rf (fun hF hG => ?_) (fun hF hG => ?_) | assumption | (show Ext _ _; exact Ext.go) | (simp only [AHeap.next_alloc, AHeap.next_set, AHeap.next_kill, AHeap.next_res] at hle hsame) | simp (disch := first | exact D.go | fail) [setR, List.getElem?_cons_zero, List.getElem?_cons_succ, f35.n0, f35.b0, f35.n1, f35.b1, rin, swr.len, rinstrB, dstOf, (show ¬ i.op < 1 by omega), (show ¬ 15 < i.op by omega), *] | (refine Ret.thn (h0 := hb) (rDef hi' _) ?_ (fun g hg hlo hle hsame hx => ?_)) | (refine Res.call (h0 := hb) (rUses hi' hm _ Ext.go) ?_ (fun u g hA hg hlo hle hsame hx => ?_))))
    all_goals (
      have hA1 : Cells I g (.own hb.next) 0 [.int .i64 f.sig, wr, wb] := Cells.own (b := ⟨[.int .i64 f.sig, wr, wb], true⟩) (by simp (disch := first | exact D.go | fail) [setR, List.getElem?_cons_zero, List.getElem?_cons_succ, *]) (by omega) (fun i v hv => by simpa using hv)
      have hB1 : Cells I g (.own (hb.next + 1)) 0 [.int .i64 i.op, .int .i64 i.dst, .int .i64 i.a, .int .i64 i.b, .int .i64 i.n, v] :=
        Cells.own (b := ⟨[.int .i64 i.op, .int .i64 i.dst, .int .i64 i.a, .int .i64 i.b, .int .i64 i.n, v], true⟩) (by simp (disch := first | exact D.go | fail) [setR, List.getElem?_cons_zero, List.getElem?_cons_succ, *]) (by omega) (fun i v hv => by simpa using hv)
      have hG1 : Ext hb g := Ext.go
      have := hN N (Nat.le_refl _) g _ _ _ g hG1 hA1 hB1 hA (by simp) (Ext.refl g)
      simp only [List.drop_zero] at this
      exact this)
  · refine f35.lim rfl (n := 2) ?_
    unfold f35.e
    rcases (show i.op < 1 ∨ 15 < i.op by omega) with hh | hh
    · (repeat' (first | refine Rf (fun hF hG => ?_) (fun hF hG => ?_) | assumption | (show Ext _ _; exact Ext.go) | (simp only [AHeap.next_alloc, AHeap.next_set, AHeap.next_kill, AHeap.next_res] at hle hsame) | simp (disch := first | exact D.go | fail) [setR, List.getElem?_cons_zero, List.getElem?_cons_succ, f35.n0, f35.b0, f35.n1, f35.b1, f35.n2, f35.b2, f35.n3, f35.b3, f35.n4, f35.b4, f35.n5, f35.b5, f35.n6, f35.b6, f35.n7, f35.b7, f35.n8, f35.b8, f35.n9, f35.b9, rinstrB, hh, *]))
    · (repeat' (first | refine Rf (fun hF hG => ?_) (fun hF hG => ?_) | assumption | (show Ext _ _; exact Ext.go) | (simp only [AHeap.next_alloc, AHeap.next_set, AHeap.next_kill, AHeap.next_res] at hle hsame) | simp (disch := first | exact D.go | fail) [setR, List.getElem?_cons_zero, List.getElem?_cons_succ, f35.n0, f35.b0, f35.n1, f35.b1, f35.n2, f35.b2, f35.n3, f35.b3, f35.n4, f35.b4, f35.n5, f35.b5, f35.n6, f35.b6, f35.n7, f35.b7, f35.n8, f35.b8, f35.n9, f35.b9, rinstrB, hh, *]))
end
end
end Go.Proofs.YtikjkhddkfkijaaGreatDoor.Tx

set_option linter.unusedSimpArgs false
set_option linter.unusedVariables false
namespace Go.Proofs.YtikjkhddkfkijaaGreatDoor.Tx
noncomputable section
open Go.AM Go.Proofs.YtikjkhddkfkijaaGreatDoor.Sf
section
variable {I : Inp} {h0 : AHeap}
/-! the first point at which something is not so -/
def bkFrom (PI : Ins → Bool) (ok : Bool) (f b : Int) : Nat → List Ins → Option Pt
  | k, [] => if ok = true then none else some ⟨f, b, k⟩
  | k, i :: r => if PI i = true then bkFrom PI ok f b (k + 1) r else some ⟨f, b, k⟩
def fuFrom (PI : Ins → Bool) (PB : Bk → Bool) (f : Int) : Nat → List Bk → Option Pt
  | _, [] => none
  | b, x :: r => (bkFrom PI (PB x) f b 0 x.code).or (fuFrom PI PB f (b + 1) r)
/-- Nil, or the refusal at that point. -/
def WPost (I : Inp) (w : Int) (r : Option Pt) (u : AVal) (g : AHeap) : Prop := match r with
  | none => u = .nili
  | some p => ErrIs I g w p u
@[simp] theorem WPost_none (w : Int) (u : AVal) (g : AHeap) : WPost I w none u g ↔ u = .nili := Iff.rfl
@[simp] theorem WPost_some (w : Int) (p : Pt) (u : AVal) (g : AHeap) : WPost I w (some p) u g ↔ ErrIs I g w p u := Iff.rfl
theorem twalk {l : AM.Loc} {o : Nat} {q : Pg} (hq : PgA I h0 l o q) {w : Int} {fi : Nat} {f : Fu} (hfi : q.funcs[fi]? = some f) {vI vB : AVal} {PI : Ins → Bool} {PB : Bk → Bool} (hb : AHeap) (eb : Ext h0 hb)
    (hI : ∀ g cs i, Ext hb g → InsC I h0 cs i → Ret (sCallv (AM.lim ⟨P, I, genF P Sh.prims⟩) vI [.int .i64 fi, .agg cs] g) g (.bool (PI i))) (hB : ∀ g cs b, Ext hb g → BkC I h0 cs b → b ∈ f.blocks → Ret (sCallv (AM.lim ⟨P, I, genF P Sh.prims⟩) vB [.int .i64 fi, .agg cs] g) g (.bool (PB b))) :
    Res ((AM.lim ⟨P, I, genF P Sh.prims⟩) 75 [.ptr l o, .int .i64 w, .int .i64 fi, vI, vB] hb) fun u g => WPost I w (fuFrom PI PB fi 0 f.blocks) u g ∧ Ext hb g := by
  obtain ⟨_, ⟨vr, vs, vf, vi, vu, rfl, rm, sr, ss, sf, si, su⟩, hc⟩ := hq
  obtain ⟨lf, of, hif, ⟨_, ⟨wr, wb, rfl, r0, swr, swb⟩, hf⟩⟩ := su.at hfi
  have lb := swb.lt
  obtain ⟨N, hN⟩ := Evt.loop' f.blocks (F := fun i n => ∀ h, Ext hb h → Res ((f75.J I (AM.lim ⟨P, I, genF P Sh.prims⟩) (n)).1.1.2 (.int .i64 w) (.int .i64 fi) vI vB wb (.int .i64 f.blocks.length) (.int .i64 i) h) fun u g => WPost I w (fuFrom PI PB fi i (f.blocks.drop i)) u g ∧ Ext hb g)
    (Evt.all 5 fun n h e => by
      rw [f75.n1]; unfold f75.b1
      (repeat' (first | refine Rf (fun hF hG => ?_) (fun hF hG => ?_) | assumption | (show Ext _ _; exact Ext.go) | (simp only [AHeap.next_alloc, AHeap.next_set, AHeap.next_kill, AHeap.next_res] at hle hsame) | simp (disch := first | exact D.go | fail) [setR, List.getElem?_cons_zero, List.getElem?_cons_succ, f75.n0, f75.b0, f75.n2, f75.b2, f75.n3, f75.b3, f75.n4, f75.b4, f75.n5, f75.b5, f75.n6, f75.b6, f75.n7, f75.b7, fuFrom, *])))
    (fun i x hx ih => by
      obtain ⟨l1, o1, hi, ⟨_, ⟨vc, rfl, sc, q1, q2, q3, q4⟩, ha⟩⟩ := swb.at hx
      have hld := fun g e => ha.rds (n := 5) g e rfl (by omega)
      have lc := sc.lt
      have hxm := List.mem_of_getElem? hx
      have hlt := lt_of_get hx; have hw := wrap_in (n := (i : Int) + 1) ⟨by omega, by omega⟩
      have inner := Evt.loop x.code (F := fun j n => ∀ (hf : AHeap) (k : Nat) (h : AHeap), Ext hb hf → Cells I hf (.own k) 0 [vc, .int .i64 x.fin, .int .i64 x.reg, .int .i64 x.to, .int .i64 x.els] → Ext hf h →
          Res ((f75.J I (AM.lim ⟨P, I, genF P Sh.prims⟩) (n)).2.1.2 (.int .i64 w) (.int .i64 fi) vI vB (.int .i64 i) (.ptr (.own k) 0) wb (.int .i64 f.blocks.length) (.int .i64 i) vc (.int .i64 x.code.length) (.int .i64 j) h) fun u g =>
            WPost I w ((bkFrom PI (PB x) fi i j (x.code.drop j)).or (fuFrom PI PB fi (i + 1) (f.blocks.drop (i + 1)))) u g ∧ Ext hb g) 8
        (Evt.step 8 ih fun n ih hf k h es hcf e' => by
          have e := es.trans e'
          have hlo := e.lo; have hlf := e'.lo
          have hld5 := fun g e => hcf.rds (n := 5) g e rfl (by omega)
          have hbk : BkC I h0 [vc, .int .i64 x.fin, .int .i64 x.reg, .int .i64 x.to, .int .i64 x.els] x := ⟨vc, rfl, sc, q1, q2, q3, q4⟩
          simp only [Int.natCast_add, Int.natCast_one] at ih
          rw [f75.n5]; unfold f75.b5
          (repeat' (first | refine Rf (fun hF hG => ?_) (fun hF hG => ?_) | assumption | (show Ext _ _; exact Ext.go) | (simp only [AHeap.next_alloc, AHeap.next_set, AHeap.next_kill, AHeap.next_res] at hle hsame) | simp (disch := first | exact D.go | fail) [setR, List.getElem?_cons_zero, List.getElem?_cons_succ, f75.n0, f75.b0, f75.n2, f75.b2, f75.n3, f75.b3, f75.n4, f75.b4, f75.n6, f75.b6, f75.n7, f75.b7, bkFrom, hld5, hcf.rd0, hcf.rd1, hcf.rd2, hcf.rd3, hcf.rd4, sc.len, hw, *] | (refine Ret.thn (h0 := hb) (hB _ _ _ Ext.go hbk hxm) ?_ (fun g hg hlo hle hsame hx => ?_)) | (refine Res.call (h0 := hb) (enew w ⟨fi, i, x.code.length⟩ _) ?_ (fun u g hA hg hlo hle hsame hx => ?_)) | (refine Res_post (A := WPost I w) (ih _ (by omega) _ ?_) ?_))))
        (fun j y n hy jh hf k h es hcf e' => by
          have e := es.trans e'
          have hlo := e.lo; have hlf := e'.lo
          obtain ⟨l2, o2, hj, ⟨cs, hys, hy'⟩⟩ := sc.at hy
          have hys' := hys
          obtain ⟨va, rfl, sva, _⟩ := hys'
          have hld2 := fun g e => hy'.rds (n := 6) g e rfl (by omega)
          have hlt2 := lt_of_get hy; have hw2 := wrap_in (n := (j : Int) + 1) ⟨by omega, by omega⟩
          simp only [Int.natCast_add, Int.natCast_one] at jh
          rw [drop_of_get hy]
          rw [f75.n5]; unfold f75.b5
          (repeat' (first | refine Rf (fun hF hG => ?_) (fun hF hG => ?_) | assumption | (show Ext _ _; exact Ext.go) | (simp only [AHeap.next_alloc, AHeap.next_set, AHeap.next_kill, AHeap.next_res] at hle hsame) | simp (disch := first | exact D.go | fail) [setR, List.getElem?_cons_zero, List.getElem?_cons_succ, f75.n0, f75.b0, f75.n2, f75.b2, f75.n3, f75.b3, f75.n4, f75.b4, f75.n6, f75.b6, f75.n7, f75.b7, bkFrom, hj, hld2, hw2, hlt2, sva.one, *] | (refine Ret.thn (h0 := hb) (hI _ _ _ Ext.go hys) ?_ (fun g hg hlo hle hsame hx => ?_)) | (refine Res.call (h0 := hb) (enew w ⟨fi, i, j⟩ _) ?_ (fun u g hA hg hlo hle hsame hx => ?_)) | (refine Res_post (A := WPost I w) (jh _ (by omega) hf k _ es hcf ?_) ?_))))
        0 (by omega)
      refine Evt.step 8 inner fun n jh h e => ?_
      have hlo := e.lo
      have hcf : Cells I ((h.alloc ⟨[.nils, Z 0, Z 0, Z 0, Z 0], true⟩).set h.next ⟨[vc, .int .i64 x.fin, .int .i64 x.reg, .int .i64 x.to, .int .i64 x.els], true⟩) (.own h.next) 0 [vc, .int .i64 x.fin, .int .i64 x.reg, .int .i64 x.to, .int .i64 x.els] :=
        Cells.own (AHeap.set_at (Nb.o rfl)) (by simp) fun i v hv => by simpa using hv
      rw [drop_of_get hx]
      rw [f75.n1]; unfold f75.b1
      (repeat' (first | refine Rf (fun hF hG => ?_) (fun hF hG => ?_) | assumption | (show Ext _ _; exact Ext.go) | (simp only [AHeap.next_alloc, AHeap.next_set, AHeap.next_kill, AHeap.next_res] at hle hsame) | simp (disch := first | exact D.go | fail) [setR, List.getElem?_cons_zero, List.getElem?_cons_succ, f75.n0, f75.b0, f75.n2, f75.b2, f75.n3, f75.b3, f75.n4, f75.b4, f75.n6, f75.b6, f75.n7, f75.b7, fuFrom, hi, hld, hlt, sc.len, sc.one, *] | (refine Res_post (A := WPost I w) (jh _ (by omega) _ _ _ Ext.go hcf ?_) ?_))))
    0 (by omega)
  refine f75.lim rfl (n := N) ?_
  unfold f75.e
  (repeat' (first | refine Rf (fun hF hG => ?_) (fun hF hG => ?_) | assumption | (show Ext _ _; exact Ext.go) | (simp only [AHeap.next_alloc, AHeap.next_set, AHeap.next_kill, AHeap.next_res] at hle hsame) | simp (disch := first | exact D.go | fail) [setR, List.getElem?_cons_zero, List.getElem?_cons_succ, hc.rd0, hc.rd1, hc.rd2, hc.rd3, hc.rd4, hc.rd5, sr.len, ss.len, sf.len, si.len, su.len, hif, hf.rd0, hf.rd1, hf.rd2, swb.len, *] | (refine Res_post (A := WPost I w) (hN _ (Nat.le_refl _) _ ?_) ?_)))
theorem tclosI {l : AM.Loc} {o : Nat} {q : Pg} (hq : PgA I h0 l o q) {cf cs : List AVal} {f : Fu} {i : Ins} (hf : FuC I h0 cf f) (hi : InsC I h0 cs i) (hn : AllL (namedP q) f.regs) (x : AVal) {k1 k5 : Nat} (hb : AHeap) (eb : Ext h0 hb)
    (c1 : Cells I hb (.own k1) 0 [.ptr l o]) (c5 : Cells I hb (.own k5) 0 cf) : Ret ((AM.lim ⟨P, I, genF P Sh.prims⟩) 76 [x, .agg cs, .ptr (.own k1) 0, .ptr (.own k5) 0] hb) hb (.bool (instrB q f i)) := by
  have hcf : cf.length = 3 := by obtain ⟨v, u, rfl, _⟩ := hf; rfl
  have hcs : cs.length = 6 := by obtain ⟨v, rfl, _⟩ := hi; rfl
  have hld := fun g e => c5.rds (n := 3) g e hcf (by omega)
  have hi' := hi
  obtain ⟨v, rfl, sv, _⟩ := hi'
  refine f76.lim rfl (n := 2) ?_
  unfold f76.e
  (repeat' (first | refine Rf (fun hF hG => ?_) (fun hF hG => ?_) | assumption | (show Ext _ _; exact Ext.go) | (simp only [AHeap.next_alloc, AHeap.next_set, AHeap.next_kill, AHeap.next_res] at hle hsame) | simp (disch := first | exact D.go | fail) [setR, List.getElem?_cons_zero, List.getElem?_cons_succ, setR, c1.rd0, hld, *] | (refine Ret.thn (h0 := hb) (tinstr hq hf hi hn _ Ext.go) ?_ (fun g hg hlo hle hsame hx => ?_))))
theorem tclosB {l : AM.Loc} {o : Nat} {q : Pg} (hq : PgA I h0 l o q) {cf cs : List AVal} {f : Fu} {b : Bk} (hf : FuC I h0 cf f) (hk : BkC I h0 cs b) (x : AVal) {k5 : Nat} (hb : AHeap) (eb : Ext h0 hb)
    (c5 : Cells I hb (.own k5) 0 cf) : Ret ((AM.lim ⟨P, I, genF P Sh.prims⟩) 78 [x, .agg cs, .ptr (.own k5) 0] hb) hb (.bool (endB f b)) := by
  have hcf : cf.length = 3 := by obtain ⟨v, u, rfl, _⟩ := hf; rfl
  have hld := fun g e => c5.rds (n := 3) g e hcf (by omega)
  have hk' := hk
  obtain ⟨v, rfl, sv, _⟩ := hk'
  refine f78.lim rfl (n := 2) ?_
  unfold f78.e
  (repeat' (first | refine Rf (fun hF hG => ?_) (fun hF hG => ?_) | assumption | (show Ext _ _; exact Ext.go) | (simp only [AHeap.next_alloc, AHeap.next_set, AHeap.next_kill, AHeap.next_res] at hle hsame) | simp (disch := first | exact D.go | fail) [setR, List.getElem?_cons_zero, List.getElem?_cons_succ, setR, hld, *] | (refine Ret.thn (h0 := hb) (tend hf hk _ Ext.go) ?_ (fun g hg hlo hle hsame hx => ?_))))
def namesFrom (q : Pg) : Nat → List Fu → Option Pt
  | _, [] => if dc (inB q.main q.funcs.length) = true then none else some noPt
  | i, f :: r => if (dc (inB f.sig q.sigs.length) && dc (AllL (namedP q) f.regs)) = true then (fuFrom (instrB q f) (endB f) i 0 f.blocks).or (namesFrom q (i + 1) r) else some noPt
def namesS (q : Pg) : Option Pt := if listsB q = true then namesFrom q 0 q.funcs else some noPt
theorem tNames {l : AM.Loc} {o : Nat} {q : Pg} (hq : PgA I h0 l o q) (hs : AHeap) (es : Ext h0 hs) : Res ((AM.lim ⟨P, I, genF P Sh.prims⟩) 49 [.ptr l o] hs) fun u g => WPost I 3 (namesS q) u g ∧ Ext hs g := by
  have hq' := hq
  obtain ⟨_, ⟨vr, vs, vf, vi, vu, rfl, rm, sr, ss, sf, si, su⟩, hc⟩ := hq
  have lu := su.lt
  have key := Evt.loop q.funcs (F := fun i n => ∀ (hb : AHeap) (k1 : Nat) (v3 : AVal) (h : AHeap), Ext hs hb → Cells I hb (.own k1) 0 [.ptr l o] → ErrIs I hb 3 noPt v3 → Ext hb h → Res ((f49.J I (AM.lim ⟨P, I, genF P Sh.prims⟩) (n)).1.2.2 (.ptr (.own k1) 0) v3 vu (.int .i64 q.funcs.length) (.int .i64 i) h) fun u g =>
      WPost I 3 (namesFrom q i (q.funcs.drop i)) u g ∧ Ext hs g) 8
    (Evt.all 8 fun n hb k1 v3 h es' c1 he e => by
      have eb := es.trans es'
      have hlo := e.lo; have hls := es'.lo
      have her := fun g (x : Ext hb g) => he.mono x
      rw [f49.n2]; unfold f49.b2
      (repeat' (first | refine Rf (fun hF hG => ?_) (fun hF hG => ?_) | assumption | (show Ext _ _; exact Ext.go) | (simp only [AHeap.next_alloc, AHeap.next_set, AHeap.next_kill, AHeap.next_res] at hle hsame) | simp (disch := first | exact D.go | fail) [setR, List.getElem?_cons_zero, List.getElem?_cons_succ, f49.n0, f49.b0, f49.n1, f49.b1, f49.n3, f49.b3, f49.n4, f49.b4, f49.n5, f49.b5, f49.n6, f49.b6, namesFrom, c1.rd0, hc.rd0, hc.rd1, hc.rd2, hc.rd3, hc.rd4, hc.rd5, sr.len, ss.len, sf.len, si.len, su.len, tin, her, *])))
    (fun i x n hx ih hb k1 v3 h es' c1 he e => by
      have eb := es.trans es'
      have hlo := e.lo; have hls := es'.lo
      have her := fun g (x : Ext hb g) => he.mono x
      obtain ⟨l1, o1, hi, ⟨cf, hf, ha⟩⟩ := su.at hx
      have hf' := hf
      obtain ⟨wr, wb, rfl, r0, swr, swb⟩ := hf'
      have hld := fun g e => ha.rds (n := 3) g e rfl (by omega)
      have hlt := lt_of_get hx; have hw := wrap_in (n := (i : Int) + 1) ⟨by omega, by omega⟩
      simp only [Int.natCast_add, Int.natCast_one] at ih
      rw [drop_of_get hx]
      have hc5 : Cells I ((h.alloc ⟨[Z 0, .nils, .nils], true⟩).set h.next ⟨[.int .i64 x.sig, wr, wb], true⟩) (.own h.next) 0 [.int .i64 x.sig, wr, wb] :=
        Cells.own (AHeap.set_at (Nb.o rfl)) (by simp) fun i v hv => by simpa using hv
      rw [f49.n2]; unfold f49.b2
      (repeat' (first | refine Rf (fun hF hG => ?_) (fun hF hG => ?_) | assumption | (show Ext _ _; exact Ext.go) | (simp only [AHeap.next_alloc, AHeap.next_set, AHeap.next_kill, AHeap.next_res] at hle hsame) | simp (disch := first | exact D.go | fail) [setR, List.getElem?_cons_zero, List.getElem?_cons_succ, f49.n0, f49.b0, f49.n1, f49.b1, f49.n3, f49.b3, f49.n4, f49.b4, f49.n6, f49.b6, namesFrom, c1.rd0, hc.rd0, hc.rd1, hc.rd2, hc.rd3, hc.rd4, hc.rd5, sr.len, ss.len, sf.len, si.len, su.len, tin, her, hi, hld, hlt, swr.one, swb.one, *] | (refine Ret.thn (h0 := hb) (tall hq' swr _ Ext.go) ?_ (fun g hg hlo hle hsame hx => ?_))))
      rw [f49.n5]; unfold f49.b5
      have hc5' := hc5.mono hx
      have c1' := c1.mono hg
      have eg := eb.trans hg
      have tw := twalk hq' (w := 3) (fi := i) (by assumption) (vI := .func (.func 76) [] [.ptr (.own k1) 0, .ptr (.own h.next) 0]) (vB := .func (.func 78) [] [.ptr (.own h.next) 0]) (PI := instrB q x) (PB := endB x) g eg
        (fun g' cs ins e' hins => by
          simp only [sCallv_func, List.nil_append, List.cons_append]
          exact tclosI hq' hf hins hF _ g' (eg.trans e') (c1'.mono e') (hc5'.mono e'))
        (fun g' cs bk e' hbk _ => by
          simp only [sCallv_func, List.nil_append, List.cons_append]
          exact tclosB hq' hf hbk _ g' (eg.trans e') (hc5'.mono e'))
      simp only [to_BndP, to_kL, to_kN, to_kF, to_kM, to_kI, to_kX, to_Bnd, to_kA, to_kC, to_kS, pLoad1_ptr, c1'.rd0 g (Ext.refl g), BndP_some]
      refine Res.call (h0 := hb) tw hg (fun u g2 hA hg2 hlo2 hle2 hsame2 hx2 => ?_)
      have hsg : Ext hs g2 := es'.trans hg2
      cases hfu : fuFrom (instrB q x) (endB x) i 0 x.blocks with
      | none =>
        rw [hfu] at hA
        obtain rfl : u = .nili := hA
        (repeat' (first | refine Rf (fun hF hG => ?_) (fun hF hG => ?_) | assumption | (show Ext _ _; exact Ext.go) | (simp only [AHeap.next_alloc, AHeap.next_set, AHeap.next_kill, AHeap.next_res] at hle hsame) | simp (disch := first | exact D.go | fail) [setR, List.getElem?_cons_zero, List.getElem?_cons_succ, f49.n0, f49.b0, f49.n1, f49.b1, f49.n3, f49.b3, f49.n4, f49.b4, f49.n6, f49.b6, hw, hfu, *] | (refine Res_post (A := WPost I 3) (ih _ (by omega) hb k1 v3 _ es' c1 he ?_) ?_)))
      | some p =>
        rw [hfu] at hA
        have hA2 : ErrIs I g2 3 p u := hA
        obtain ⟨k, rfl, hk, hck⟩ := hA
        (repeat' (first | refine Rf (fun hF hG => ?_) (fun hF hG => ?_) | assumption | (show Ext _ _; exact Ext.go) | (simp only [AHeap.next_alloc, AHeap.next_set, AHeap.next_kill, AHeap.next_res] at hle hsame) | simp (disch := first | exact D.go | fail) [setR, List.getElem?_cons_zero, List.getElem?_cons_succ, f49.n0, f49.b0, f49.n1, f49.b1, f49.n3, f49.b3, f49.n4, f49.b4, f49.n6, f49.b6, hw, hfu, *])))
    0 (by omega)
  obtain ⟨N, hN⟩ := key
  obtain ⟨hb, rfl⟩ : ∃ hb, hb = hs := ⟨_, rfl⟩
  refine f49.lim rfl (n := N + 1) ?_
  unfold f49.e
  (repeat' (first | refine Rf (fun hF hG => ?_) (fun hF hG => ?_) | assumption | (show Ext _ _; exact Ext.go) | (simp only [AHeap.next_alloc, AHeap.next_set, AHeap.next_kill, AHeap.next_res] at hle hsame) | simp (disch := first | exact D.go | fail) [setR, List.getElem?_cons_zero, List.getElem?_cons_succ, f49.n0, f49.b0, hc.rd0, hc.rd1, hc.rd2, hc.rd3, hc.rd4, hc.rd5, sr.len, ss.len, sf.len, si.len, su.len, namesS, *] | (refine Ret.thn (h0 := hb) (rnone _) ?_ (fun g hg hlo hle hsame hx => ?_)) | (refine Res.call (h0 := hb) (enew 3 noPt _) ?_ (fun u g hA hg hlo hle hsame hx => ?_)) | (refine Ret.thn (h0 := hb) (tlists hq' _ (es.trans Ext.go)) ?_ (fun g hg hlo hle hsame hx => ?_))))
  · exact hA.mono hx
  · have c1 : Cells I g (.own hb.next) 0 [.ptr l o] := Cells.own (b := ⟨[.ptr l o], true⟩) (by simp (disch := first | exact D.go | fail) [setR, List.getElem?_cons_zero, List.getElem?_cons_succ, *]) (by omega) (fun i v hv => by simpa using hv)
    have := hN N (Nat.le_refl _) g _ u g hg c1 (hA.mono hx) (Ext.refl g)
    simp only [List.drop_zero] at this
    exact this
end
end
end Go.Proofs.YtikjkhddkfkijaaGreatDoor.Tx

set_option linter.unusedSimpArgs false
set_option linter.unusedVariables false
namespace Go.Proofs.YtikjkhddkfkijaaGreatDoor.Tx
noncomputable section
open Go.AM Go.Proofs.YtikjkhddkfkijaaGreatDoor.Sf
section
variable {I : Inp} {h0 : AHeap}
def rV (r : Option Pt) : AVal := .tuple [ptV (r.getD noPt), .bool r.isNone]
@[simp] theorem rV_none : rV none = .tuple [ptV noPt, .bool true] := rfl
@[simp] theorem rV_some (p : Pt) : rV (some p) = .tuple [ptV p, .bool false] := rfl
theorem rN_code {l : AM.Loc} {o : Nat} {q : Pg} (hq : PgA I h0 l o q) {hs : AHeap} (es0 : Ext h0 hs) {i j : Nat} {x : Fu} {y : Bk} {wr wb wc : AVal} (hfu : FuC I h0 [.int .i64 x.sig, wr, wb] x) (hn : AllL (namedP q) x.regs)
    (hy : x.blocks[j]? = some y) (hargs : ∀ z ∈ y.code, z.args.length ≤ 1000000) (hcl : y.code.length ≤ 1000000) (R : Option Pt)
    (next : Evt fun n => ∀ (hb : AHeap) (k2 : Nat), Ext hs hb → hs.next ≤ k2 → k2 < hb.next → (∀ g, Ext hb g → g.get k2 = some ⟨[Z 0, Z 0, Z 0], true⟩) → ∀ (k15 : Nat) (h : AHeap), Cells I hb (.own k15) 0 [.int .i64 x.sig, wr, wb] → Ext hb h → Res ((f16.J I (AM.lim ⟨P, I, genF P Sh.prims⟩) (n)).2.2.2.1.1 (.ptr l o) (.ptr (.own k2) 0) (.int .i64 i) (.ptr (.own k15) 0) (.int .i64 ((j : Int) + 1)) h) fun u g => u = rV R ∧ Ext hs g) :
    Evt fun n => ∀ (hb : AHeap) (k2 : Nat), Ext hs hb → hs.next ≤ k2 → k2 < hb.next → (∀ g, Ext hb g → g.get k2 = some ⟨[Z 0, Z 0, Z 0], true⟩) → ∀ (k15 : Nat) (h : AHeap), Cells I hb (.own k15) 0 [.int .i64 x.sig, wr, wb] → Ext hb h → Res ((f16.J I (AM.lim ⟨P, I, genF P Sh.prims⟩) (n)).2.2.2.2.1 (.ptr l o) (.ptr (.own k2) 0) (.int .i64 i) (.ptr (.own k15) 0) (.int .i64 j) (Z 0) h) fun u g =>
      u = rV ((bkFrom (instrB q x) (endB x y) i j 0 y.code).or R) ∧ Ext hs g := by
  have hq' := hq
  obtain ⟨_, ⟨vr, vs, vf, vi, vu, rfl, rm, sr, ss, sf, si, su⟩, hc⟩ := hq
  have hfu' := hfu
  obtain ⟨wr', wb', e0, r0, swr, swb⟩ := hfu'
  simp only [List.cons.injEq, and_true, true_and] at e0
  obtain ⟨rfl, rfl⟩ := e0
  have lwb := swb.lt
  obtain ⟨l2, o2, hj, ⟨cy, hyc, hy'⟩⟩ := swb.at hy
  have hlt2 := lt_of_get hy; have hw2 := wrap_in (n := (j : Int) + 1) ⟨by omega, by omega⟩
  have hyc' := hyc
  obtain ⟨wcc, rfl, swc, p1, p2, p3, p4⟩ := hyc'
  have lwc := swc.lt
  have hld5 := fun g e => hy'.rds (n := 5) g e rfl (by omega)
  have key := Evt.loop y.code (F := fun k n => ∀ (hb : AHeap) (k2 : Nat), Ext hs hb → hs.next ≤ k2 → k2 < hb.next → (∀ g, Ext hb g → g.get k2 = some ⟨[Z 0, Z 0, Z 0], true⟩) → ∀ (k15 : Nat) (h : AHeap), Cells I hb (.own k15) 0 [.int .i64 x.sig, wr, wb] → Ext hb h → Res ((f16.J I (AM.lim ⟨P, I, genF P Sh.prims⟩) (n)).2.2.2.2.1 (.ptr l o) (.ptr (.own k2) 0) (.int .i64 i) (.ptr (.own k15) 0) (.int .i64 j) (.int .i64 k) h) fun u g =>
      u = rV ((bkFrom (instrB q x) (endB x y) i j k (y.code.drop k)).or R) ∧ Ext hs g) 8
    (Evt.step 8 next fun n nx hb k2 es lo2 hi2 hval k15 h c15 e => by
      have eb := es0.trans es; have hlo := e.lo; have hls := es.lo
      have hlf := fun g e => c15.rds (n := 3) g e rfl (by omega)
      have hw3 := wrap_in (n := (y.code.length : Int) + 1) ⟨by omega, by omega⟩
      have hl1 : ¬ ((y.code.length : Int) + 1 ≤ y.code.length) := by omega
      rw [f16.n42]; unfold f16.b42
      (repeat' (first | refine Rf (fun hF hG => ?_) (fun hF hG => ?_) | assumption | (show Ext _ _; exact Ext.go) | (simp only [AHeap.next_alloc, AHeap.next_set, AHeap.next_kill, AHeap.next_res] at hle hsame) | simp (disch := first | exact D.go | fail) [setR, List.getElem?_cons_zero, List.getElem?_cons_succ, f16.n0, f16.b0, f16.n2, f16.b2, f16.n3, f16.b3, f16.n5, f16.b5, f16.n6, f16.b6, f16.n7, f16.b7, f16.n9, f16.b9, f16.n10, f16.b10, f16.n11, f16.b11, f16.n13, f16.b13, f16.n14, f16.b14, f16.n15, f16.b15, f16.n17, f16.b17, f16.n18, f16.b18, f16.n20, f16.b20, f16.n21, f16.b21, f16.n22, f16.b22, f16.n24, f16.b24, f16.n25, f16.b25, f16.n27, f16.b27, f16.n28, f16.b28, f16.n29, f16.b29, f16.n30, f16.b30, f16.n32, f16.b32, f16.n33, f16.b33, f16.n34, f16.b34, f16.n36, f16.b36, f16.n37, f16.b37, f16.n38, f16.b38, f16.n40, f16.b40, f16.n41, f16.b41, f16.n43, f16.b43, f16.n44, f16.b44, f16.n42, f16.b42, bkFrom, hval, c15.rd0, c15.rd1, c15.rd2, hlf, hj, hy'.rd0, hy'.rd1, hy'.rd2, hy'.rd3, hy'.rd4, hld5, swc.len, hw2, hw3, hl1, swb.len, *] | (refine Ret.thn (h0 := hb) (rending hfu hyc _ Ext.go) ?_ (fun g hg hlo hle hsame hx => ?_)) | (refine Res.mono (nx _ (by omega) hb k2 es lo2 hi2 hval k15 _ c15 ?_) (fun u g hq => ?_); rotate_left; (obtain ⟨rfl, hq⟩ := hq); rotate_right))))
    (fun k z n hz ih hb k2 es lo2 hi2 hval k15 h c15 e => by
      have eb := es0.trans es; have hlo := e.lo; have hls := es.lo
      have hlf := fun g e => c15.rds (n := 3) g e rfl (by omega)
      obtain ⟨l3, o3, hk, ⟨cz, hzc, hz'⟩⟩ := swc.at hz
      have hzc' := hzc
      obtain ⟨wz, rfl, swz, _⟩ := hzc'
      have hld6 := fun g e => hz'.rds (n := 6) g e rfl (by omega)
      have hlt3 := lt_of_get hz; have hw3 := wrap_in (n := (k : Int) + 1) ⟨by omega, by omega⟩
      have hle3 : (k : Int) ≤ y.code.length := by omega
      have hne3 : ¬ (k : Int) = y.code.length := by omega
      simp only [Int.natCast_add, Int.natCast_one] at ih
      rw [drop_of_get hz]
      rw [f16.n42]; unfold f16.b42
      (repeat' (first | refine Rf (fun hF hG => ?_) (fun hF hG => ?_) | assumption | (show Ext _ _; exact Ext.go) | (simp only [AHeap.next_alloc, AHeap.next_set, AHeap.next_kill, AHeap.next_res] at hle hsame) | simp (disch := first | exact D.go | fail) [setR, List.getElem?_cons_zero, List.getElem?_cons_succ, f16.n0, f16.b0, f16.n2, f16.b2, f16.n3, f16.b3, f16.n5, f16.b5, f16.n6, f16.b6, f16.n7, f16.b7, f16.n9, f16.b9, f16.n10, f16.b10, f16.n11, f16.b11, f16.n13, f16.b13, f16.n14, f16.b14, f16.n15, f16.b15, f16.n17, f16.b17, f16.n18, f16.b18, f16.n20, f16.b20, f16.n21, f16.b21, f16.n22, f16.b22, f16.n24, f16.b24, f16.n25, f16.b25, f16.n27, f16.b27, f16.n28, f16.b28, f16.n29, f16.b29, f16.n30, f16.b30, f16.n32, f16.b32, f16.n33, f16.b33, f16.n34, f16.b34, f16.n36, f16.b36, f16.n37, f16.b37, f16.n38, f16.b38, f16.n40, f16.b40, f16.n41, f16.b41, f16.n43, f16.b43, f16.n44, f16.b44, bkFrom, hval, c15.rd0, c15.rd1, c15.rd2, hlf, hj, hy'.rd0, hy'.rd1, hy'.rd2, hy'.rd3, hy'.rd4, hld6, hk, hlt3, hle3, hne3, swc.len, hw2, hw3, swb.len, *] | (refine Ret.thn (h0 := hb) (rinstr hq' hfu hzc hn (hargs z (List.mem_of_getElem? hz)) _ Ext.go) ?_ (fun g hg hlo hle hsame hx => ?_)) | (refine Res.mono (ih _ (by omega) hb k2 es lo2 hi2 hval k15 _ c15 ?_) (fun u g hq => ?_); rotate_left; (obtain ⟨rfl, hq⟩ := hq); rotate_right))))
    0 (by omega)
  obtain ⟨N, hN⟩ := key
  refine ⟨N, fun n hn => ?_⟩
  have := hN n hn
  simp only [List.drop_zero] at this
  exact this
theorem rN_blocks {l : AM.Loc} {o : Nat} {q : Pg} (hq : PgA I h0 l o q) {hs : AHeap} (es0 : Ext h0 hs) {i : Nat} {x : Fu} {wr wb : AVal} (hfu : FuC I h0 [.int .i64 x.sig, wr, wb] x) (hn : AllL (namedP q) x.regs)
    (hargs : ∀ y ∈ x.blocks, y.code.length ≤ 1000000 ∧ ∀ z ∈ y.code, z.args.length ≤ 1000000) (hil : (i : Int) + 1 < 9223372036854775808) (R : Option Pt)
    (next : Evt fun n => ∀ (hb : AHeap) (k2 : Nat), Ext hs hb → hs.next ≤ k2 → k2 < hb.next → (∀ g, Ext hb g → g.get k2 = some ⟨[Z 0, Z 0, Z 0], true⟩) → ∀ (h : AHeap), Ext hb h → Res ((f16.J I (AM.lim ⟨P, I, genF P Sh.prims⟩) (n)).2.1.2.2.2.1 (.ptr l o) (.ptr (.own k2) 0) (.int .i64 ((i : Int) + 1)) h) fun u g => u = rV R ∧ Ext hs g) :
    Evt fun n => ∀ (hb : AHeap) (k2 : Nat), Ext hs hb → hs.next ≤ k2 → k2 < hb.next → (∀ g, Ext hb g → g.get k2 = some ⟨[Z 0, Z 0, Z 0], true⟩) → ∀ (k15 : Nat) (h : AHeap), Cells I hb (.own k15) 0 [.int .i64 x.sig, wr, wb] → Ext hb h → Res ((f16.J I (AM.lim ⟨P, I, genF P Sh.prims⟩) (n)).2.2.2.1.1 (.ptr l o) (.ptr (.own k2) 0) (.int .i64 i) (.ptr (.own k15) 0) (Z 0) h) fun u g =>
      u = rV ((fuFrom (instrB q x) (endB x) i 0 x.blocks).or R) ∧ Ext hs g := by
  have hq' := hq
  obtain ⟨_, ⟨vr, vs, vf, vi, vu, rfl, rm, sr, ss, sf, si, su⟩, hc⟩ := hq
  have hfu' := hfu
  obtain ⟨wr', wb', e0, r0, swr, swb⟩ := hfu'
  simp only [List.cons.injEq, and_true, true_and] at e0
  obtain ⟨rfl, rfl⟩ := e0
  have lwb := swb.lt
  have hwi := wrap_in (n := (i : Int) + 1) ⟨by omega, by omega⟩
  have key := Evt.loop' x.blocks (F := fun j n => ∀ (hb : AHeap) (k2 : Nat), Ext hs hb → hs.next ≤ k2 → k2 < hb.next → (∀ g, Ext hb g → g.get k2 = some ⟨[Z 0, Z 0, Z 0], true⟩) → ∀ (k15 : Nat) (h : AHeap), Cells I hb (.own k15) 0 [.int .i64 x.sig, wr, wb] → Ext hb h → Res ((f16.J I (AM.lim ⟨P, I, genF P Sh.prims⟩) (n)).2.2.2.1.1 (.ptr l o) (.ptr (.own k2) 0) (.int .i64 i) (.ptr (.own k15) 0) (.int .i64 j) h) fun u g =>
      u = rV ((fuFrom (instrB q x) (endB x) i j (x.blocks.drop j)).or R) ∧ Ext hs g)
    (Evt.step 8 next fun n nx hb k2 es lo2 hi2 hval k15 h c15 e => by
      have eb := es0.trans es; have hlo := e.lo; have hls := es.lo
      rw [f16.n39]; unfold f16.b39
      (repeat' (first | refine Rf (fun hF hG => ?_) (fun hF hG => ?_) | assumption | (show Ext _ _; exact Ext.go) | (simp only [AHeap.next_alloc, AHeap.next_set, AHeap.next_kill, AHeap.next_res] at hle hsame) | simp (disch := first | exact D.go | fail) [setR, List.getElem?_cons_zero, List.getElem?_cons_succ, f16.n0, f16.b0, f16.n2, f16.b2, f16.n3, f16.b3, f16.n5, f16.b5, f16.n6, f16.b6, f16.n7, f16.b7, f16.n9, f16.b9, f16.n10, f16.b10, f16.n11, f16.b11, f16.n13, f16.b13, f16.n14, f16.b14, f16.n15, f16.b15, f16.n17, f16.b17, f16.n18, f16.b18, f16.n20, f16.b20, f16.n21, f16.b21, f16.n22, f16.b22, f16.n24, f16.b24, f16.n25, f16.b25, f16.n27, f16.b27, f16.n28, f16.b28, f16.n29, f16.b29, f16.n30, f16.b30, f16.n32, f16.b32, f16.n33, f16.b33, f16.n34, f16.b34, f16.n36, f16.b36, f16.n37, f16.b37, f16.n38, f16.b38, f16.n40, f16.b40, f16.n41, f16.b41, f16.n43, f16.b43, f16.n44, f16.b44, fuFrom, c15.rd0, c15.rd1, c15.rd2, swb.len, hwi, *] | (refine Res.mono (nx _ (by omega) hb k2 es lo2 hi2 hval _ ?_) (fun u g hq => ?_); rotate_left; (obtain ⟨rfl, hq⟩ := hq); rotate_right))))
    (fun j y hy ih => by
      have hlt := lt_of_get hy
      have ih' : Evt fun n => ∀ (hb : AHeap) (k2 : Nat), Ext hs hb → hs.next ≤ k2 → k2 < hb.next → (∀ g, Ext hb g → g.get k2 = some ⟨[Z 0, Z 0, Z 0], true⟩) → ∀ (k15 : Nat) (h : AHeap), Cells I hb (.own k15) 0 [.int .i64 x.sig, wr, wb] → Ext hb h → Res ((f16.J I (AM.lim ⟨P, I, genF P Sh.prims⟩) (n)).2.2.2.1.1 (.ptr l o) (.ptr (.own k2) 0) (.int .i64 i) (.ptr (.own k15) 0) (.int .i64 ((j : Int) + 1)) h) fun u g =>
          u = rV ((fuFrom (instrB q x) (endB x) i (j + 1) (x.blocks.drop (j + 1))).or R) ∧ Ext hs g := ih
      have cd := rN_code (wc := wb) hq' es0 hfu hn hy (hargs y (List.mem_of_getElem? hy)).2 (hargs y (List.mem_of_getElem? hy)).1 _ ih'
      refine Evt.step 8 cd fun n nx hb k2 es lo2 hi2 hval k15 h c15 e => ?_
      have eb := es0.trans es; have hlo := e.lo; have hls := es.lo
      rw [drop_of_get hy]
      rw [f16.n39]; unfold f16.b39
      (repeat' (first | refine Rf (fun hF hG => ?_) (fun hF hG => ?_) | assumption | (show Ext _ _; exact Ext.go) | (simp only [AHeap.next_alloc, AHeap.next_set, AHeap.next_kill, AHeap.next_res] at hle hsame) | simp (disch := first | exact D.go | fail) [setR, List.getElem?_cons_zero, List.getElem?_cons_succ, f16.n0, f16.b0, f16.n2, f16.b2, f16.n3, f16.b3, f16.n5, f16.b5, f16.n6, f16.b6, f16.n7, f16.b7, f16.n9, f16.b9, f16.n10, f16.b10, f16.n11, f16.b11, f16.n13, f16.b13, f16.n14, f16.b14, f16.n15, f16.b15, f16.n17, f16.b17, f16.n18, f16.b18, f16.n20, f16.b20, f16.n21, f16.b21, f16.n22, f16.b22, f16.n24, f16.b24, f16.n25, f16.b25, f16.n27, f16.b27, f16.n28, f16.b28, f16.n29, f16.b29, f16.n30, f16.b30, f16.n32, f16.b32, f16.n33, f16.b33, f16.n34, f16.b34, f16.n36, f16.b36, f16.n37, f16.b37, f16.n38, f16.b38, f16.n40, f16.b40, f16.n41, f16.b41, f16.n43, f16.b43, f16.n44, f16.b44, fuFrom, c15.rd0, c15.rd1, c15.rd2, swb.len, hlt, Option.or_assoc, *] | (refine Res.mono (nx _ (by omega) hb k2 es lo2 hi2 hval k15 _ c15 ?_) (fun u g hq => ?_); rotate_left; (obtain ⟨rfl, hq⟩ := hq); rotate_right))))
    0 (by omega)
  obtain ⟨N, hN⟩ := key
  refine ⟨N, fun n hn => ?_⟩
  have := hN n hn
  simp only [List.drop_zero] at this
  exact this
theorem rN_funcs {l : AM.Loc} {o : Nat} {q : Pg} (hq : PgA I h0 l o q) {hs : AHeap} (es0 : Ext h0 hs) (hargs : ∀ x ∈ q.funcs, ∀ y ∈ x.blocks, y.code.length ≤ 1000000 ∧ ∀ z ∈ y.code, z.args.length ≤ 1000000) (hfl : q.funcs.length ≤ 1000000) :
    Evt fun n => ∀ (hb : AHeap) (k2 : Nat), Ext hs hb → hs.next ≤ k2 → k2 < hb.next → (∀ g, Ext hb g → g.get k2 = some ⟨[Z 0, Z 0, Z 0], true⟩) → ∀ (h : AHeap), Ext hb h → Res ((f16.J I (AM.lim ⟨P, I, genF P Sh.prims⟩) (n)).2.1.2.2.2.1 (.ptr l o) (.ptr (.own k2) 0) (Z 0) h) fun u g => u = rV (namesFrom q 0 q.funcs) ∧ Ext hs g := by
  have hq' := hq
  obtain ⟨_, ⟨vr, vs, vf, vi, vu, rfl, rm, sr, ss, sf, si, su⟩, hc⟩ := hq
  have key := Evt.loop' q.funcs (F := fun i n => ∀ (hb : AHeap) (k2 : Nat), Ext hs hb → hs.next ≤ k2 → k2 < hb.next → (∀ g, Ext hb g → g.get k2 = some ⟨[Z 0, Z 0, Z 0], true⟩) → ∀ (h : AHeap), Ext hb h → Res ((f16.J I (AM.lim ⟨P, I, genF P Sh.prims⟩) (n)).2.1.2.2.2.1 (.ptr l o) (.ptr (.own k2) 0) (.int .i64 i) h) fun u g => u = rV (namesFrom q i (q.funcs.drop i)) ∧ Ext hs g)
    (Evt.all 8 fun n hb k2 es lo2 hi2 hval h e => by
      have eb := es0.trans es; have hlo := e.lo; have hls := es.lo
      rw [f16.n31]; unfold f16.b31
      (repeat' (first | refine Rf (fun hF hG => ?_) (fun hF hG => ?_) | assumption | (show Ext _ _; exact Ext.go) | (simp only [AHeap.next_alloc, AHeap.next_set, AHeap.next_kill, AHeap.next_res] at hle hsame) | simp (disch := first | exact D.go | fail) [setR, List.getElem?_cons_zero, List.getElem?_cons_succ, f16.n0, f16.b0, f16.n2, f16.b2, f16.n3, f16.b3, f16.n5, f16.b5, f16.n6, f16.b6, f16.n7, f16.b7, f16.n9, f16.b9, f16.n10, f16.b10, f16.n11, f16.b11, f16.n13, f16.b13, f16.n14, f16.b14, f16.n15, f16.b15, f16.n17, f16.b17, f16.n18, f16.b18, f16.n20, f16.b20, f16.n21, f16.b21, f16.n22, f16.b22, f16.n24, f16.b24, f16.n25, f16.b25, f16.n27, f16.b27, f16.n28, f16.b28, f16.n29, f16.b29, f16.n30, f16.b30, f16.n32, f16.b32, f16.n33, f16.b33, f16.n34, f16.b34, f16.n36, f16.b36, f16.n37, f16.b37, f16.n38, f16.b38, f16.n40, f16.b40, f16.n41, f16.b41, f16.n43, f16.b43, f16.n44, f16.b44, namesFrom, hval, hc.rd0, hc.rd1, hc.rd2, hc.rd3, hc.rd4, hc.rd5, sr.len, ss.len, sf.len, si.len, su.len, rin, su.self, noPt_f, noPt_b, noPt_i, *] | (refine Ret.thn (h0 := hb) (rnowhere _) ?_ (fun g hg hlo hle hsame hx => ?_))))
      all_goals (refine ⟨by by_cases hP : inB q.main q.funcs.length <;> simp [hP, noPt_f, noPt_b, noPt_i], Ext.set (es.trans hg) (Nb.o (by omega))⟩))
    (fun i x hx ih => by
      obtain ⟨l1, o1, hi, ⟨cf, hf, ha⟩⟩ := su.at hx
      have hf' := hf
      obtain ⟨wr, wb, rfl, r0, swr, swb⟩ := hf'
      have lwr := swr.lt
      have hld := fun g e => ha.rds (n := 3) g e rfl (by omega)
      have hlt := lt_of_get hx
      have hreg := Evt.loop x.regs (F := fun j n => ∀ (hb : AHeap) (k2 : Nat), Ext hs hb → hs.next ≤ k2 → k2 < hb.next → (∀ g, Ext hb g → g.get k2 = some ⟨[Z 0, Z 0, Z 0], true⟩) → ∀ (ok : Bool) (k15 : Nat) (h : AHeap), (ok = true → AllL (namedP q) (x.regs.take j)) → Cells I hb (.own k15) 0 [.int .i64 x.sig, wr, wb] → Ext hb h → Res ((f16.J I (AM.lim ⟨P, I, genF P Sh.prims⟩) (n)).2.2.1.1.2.2 (.ptr l o) (.ptr (.own k2) 0) (.bool ok) (.int .i64 i) (.ptr (.own k15) 0) (.int .i64 j) h) fun u g =>
          u = rV (if (ok && dc (AllL (namedP q) (x.regs.drop j))) = true then (fuFrom (instrB q x) (endB x) i 0 x.blocks).or (namesFrom q (i + 1) (q.funcs.drop (i + 1))) else some noPt) ∧ Ext hs g) 8
        (by
          by_cases hn : AllL (namedP q) x.regs
          · have blk := rN_blocks hq' es0 hf hn (hargs x (List.mem_of_getElem? hx)) (by omega) (namesFrom q (i + 1) (q.funcs.drop (i + 1))) ih
            refine Evt.step 8 blk fun n nx hb k2 es lo2 hi2 hval ok k15 h hok c15 e => ?_
            have eb := es0.trans es; have hlo := e.lo; have hls := es.lo
            rw [f16.n35]; unfold f16.b35
            (repeat' (first | refine Rf (fun hF hG => ?_) (fun hF hG => ?_) | assumption | (show Ext _ _; exact Ext.go) | (simp only [AHeap.next_alloc, AHeap.next_set, AHeap.next_kill, AHeap.next_res] at hle hsame) | simp (disch := first | exact D.go | fail) [setR, List.getElem?_cons_zero, List.getElem?_cons_succ, f16.n0, f16.b0, f16.n2, f16.b2, f16.n3, f16.b3, f16.n5, f16.b5, f16.n6, f16.b6, f16.n7, f16.b7, f16.n9, f16.b9, f16.n10, f16.b10, f16.n11, f16.b11, f16.n13, f16.b13, f16.n14, f16.b14, f16.n15, f16.b15, f16.n17, f16.b17, f16.n18, f16.b18, f16.n20, f16.b20, f16.n21, f16.b21, f16.n22, f16.b22, f16.n24, f16.b24, f16.n25, f16.b25, f16.n27, f16.b27, f16.n28, f16.b28, f16.n29, f16.b29, f16.n30, f16.b30, f16.n32, f16.b32, f16.n33, f16.b33, f16.n34, f16.b34, f16.n36, f16.b36, f16.n37, f16.b37, f16.n38, f16.b38, f16.n40, f16.b40, f16.n41, f16.b41, f16.n43, f16.b43, f16.n44, f16.b44, hval, c15.rd0, c15.rd1, c15.rd2, swr.len, noPt_f, noPt_b, noPt_i, *] | (refine Ret.thn (h0 := hb) (rnowhere _) ?_ (fun g hg hlo hle hsame hx => ?_)) | (refine Res.mono (nx _ (by omega) hb k2 es lo2 hi2 hval k15 _ c15 ?_) (fun u g hq => ?_); rotate_left; (obtain ⟨rfl, hq⟩ := hq); rotate_right)))
          · refine Evt.all 8 fun n hb k2 es lo2 hi2 hval ok k15 h hok c15 e => ?_
            have eb := es0.trans es; have hlo := e.lo; have hls := es.lo
            rw [List.take_length] at hok
            obtain rfl : ok = false := by cases ok with
              | false => rfl
              | true => exact absurd (hok rfl) hn
            rw [f16.n35]; unfold f16.b35
            (repeat' (first | refine Rf (fun hF hG => ?_) (fun hF hG => ?_) | assumption | (show Ext _ _; exact Ext.go) | (simp only [AHeap.next_alloc, AHeap.next_set, AHeap.next_kill, AHeap.next_res] at hle hsame) | simp (disch := first | exact D.go | fail) [setR, List.getElem?_cons_zero, List.getElem?_cons_succ, f16.n0, f16.b0, f16.n2, f16.b2, f16.n3, f16.b3, f16.n5, f16.b5, f16.n6, f16.b6, f16.n7, f16.b7, f16.n9, f16.b9, f16.n10, f16.b10, f16.n11, f16.b11, f16.n13, f16.b13, f16.n14, f16.b14, f16.n15, f16.b15, f16.n17, f16.b17, f16.n18, f16.b18, f16.n20, f16.b20, f16.n21, f16.b21, f16.n22, f16.b22, f16.n24, f16.b24, f16.n25, f16.b25, f16.n27, f16.b27, f16.n28, f16.b28, f16.n29, f16.b29, f16.n30, f16.b30, f16.n32, f16.b32, f16.n33, f16.b33, f16.n34, f16.b34, f16.n36, f16.b36, f16.n37, f16.b37, f16.n38, f16.b38, f16.n40, f16.b40, f16.n41, f16.b41, f16.n43, f16.b43, f16.n44, f16.b44, hval, c15.rd0, c15.rd1, c15.rd2, swr.len, noPt_f, noPt_b, noPt_i, *] | (refine Ret.thn (h0 := hb) (rnowhere _) ?_ (fun g hg hlo hle hsame hx => ?_)))))
        (fun j t n ht jh hb k2 es lo2 hi2 hval ok k15 h hok c15 e => by
          have eb := es0.trans es; have hlo := e.lo; have hls := es.lo
          obtain ⟨l2, o2, hj, ⟨_, ⟨rfl, _, _⟩, ht'⟩⟩ := swr.at ht
          have hld2 := fun g e => ht'.rds (n := 2) g e rfl (by omega)
          have hlt2 := lt_of_get ht; have hw2 := wrap_in (n := (j : Int) + 1) ⟨by omega, by omega⟩
          simp only [Int.natCast_add, Int.natCast_one] at jh
          rw [drop_of_get ht]
          rw [f16.n35]; unfold f16.b35
          (repeat' (first | refine Rf (fun hF hG => ?_) (fun hF hG => ?_) | assumption | (show Ext _ _; exact Ext.go) | (simp only [AHeap.next_alloc, AHeap.next_set, AHeap.next_kill, AHeap.next_res] at hle hsame) | simp (disch := first | exact D.go | fail) [setR, List.getElem?_cons_zero, List.getElem?_cons_succ, f16.n0, f16.b0, f16.n2, f16.b2, f16.n3, f16.b3, f16.n5, f16.b5, f16.n6, f16.b6, f16.n7, f16.b7, f16.n9, f16.b9, f16.n10, f16.b10, f16.n11, f16.b11, f16.n13, f16.b13, f16.n14, f16.b14, f16.n15, f16.b15, f16.n17, f16.b17, f16.n18, f16.b18, f16.n20, f16.b20, f16.n21, f16.b21, f16.n22, f16.b22, f16.n24, f16.b24, f16.n25, f16.b25, f16.n27, f16.b27, f16.n28, f16.b28, f16.n29, f16.b29, f16.n30, f16.b30, f16.n32, f16.b32, f16.n33, f16.b33, f16.n34, f16.b34, f16.n36, f16.b36, f16.n37, f16.b37, f16.n38, f16.b38, f16.n40, f16.b40, f16.n41, f16.b41, f16.n43, f16.b43, f16.n44, f16.b44, hval, c15.rd0, c15.rd1, c15.rd2, swr.len, hj, hld2, hlt2, hw2, *] | (refine Ret.thn (h0 := hb) (rnamed hq' t _ Ext.go) ?_ (fun g hg hlo hle hsame hx => ?_))))
          · refine Res.mono (jh (n + 5) (by omega) hb k2 es lo2 hi2 hval (dc (namedP q t)) k15 _ (fun hd => AllL_take (hok hF) ht (Eq.mp (dc_eq_true _) hd)) c15 Ext.go) (fun u g hq => ?_)
            obtain ⟨rfl, hq⟩ := hq
            refine ⟨?_, hq⟩
            simp only [hF, AllL_cons, dc_and, Bool.true_and]
          · refine Res.mono (jh (n + 5) (by omega) hb k2 es lo2 hi2 hval false k15 _ (fun hd => absurd hd (by simp)) c15 Ext.go) (fun u g hq => ?_)
            obtain ⟨rfl, hq⟩ := hq
            refine ⟨?_, hq⟩
            simp)
        0 (by omega)
      refine Evt.step 8 hreg fun n nx hb k2 es lo2 hi2 hval h e => ?_
      have eb := es0.trans es; have hlo := e.lo; have hls := es.lo
      rw [drop_of_get hx]
      rw [f16.n31]; unfold f16.b31
      (repeat' (first | refine Rf (fun hF hG => ?_) (fun hF hG => ?_) | assumption | (show Ext _ _; exact Ext.go) | (simp only [AHeap.next_alloc, AHeap.next_set, AHeap.next_kill, AHeap.next_res] at hle hsame) | simp (disch := first | exact D.go | fail) [setR, List.getElem?_cons_zero, List.getElem?_cons_succ, f16.n0, f16.b0, f16.n2, f16.b2, f16.n3, f16.b3, f16.n5, f16.b5, f16.n6, f16.b6, f16.n7, f16.b7, f16.n9, f16.b9, f16.n10, f16.b10, f16.n11, f16.b11, f16.n13, f16.b13, f16.n14, f16.b14, f16.n15, f16.b15, f16.n17, f16.b17, f16.n18, f16.b18, f16.n20, f16.b20, f16.n21, f16.b21, f16.n22, f16.b22, f16.n24, f16.b24, f16.n25, f16.b25, f16.n27, f16.b27, f16.n28, f16.b28, f16.n29, f16.b29, f16.n30, f16.b30, f16.n32, f16.b32, f16.n33, f16.b33, f16.n34, f16.b34, f16.n36, f16.b36, f16.n37, f16.b37, f16.n38, f16.b38, f16.n40, f16.b40, f16.n41, f16.b41, f16.n43, f16.b43, f16.n44, f16.b44, hval, hc.rd0, hc.rd1, hc.rd2, hc.rd3, hc.rd4, hc.rd5, sr.len, ss.len, sf.len, si.len, su.len, hi, hld, hlt, rin, swr.one, swb.one, namesFrom, *]))
      have eX : Ext hb ((h.alloc ⟨[Z 0, .nils, .nils], true⟩).set h.next ⟨[.int .i64 x.sig, wr, wb], true⟩) := Ext.go
      have hcf : Cells I ((h.alloc ⟨[Z 0, .nils, .nils], true⟩).set h.next ⟨[.int .i64 x.sig, wr, wb], true⟩) (.own h.next) 0 [.int .i64 x.sig, wr, wb] := Cells.own (AHeap.set_at (Nb.o rfl)) (by simp) fun i v hv => by simpa using hv
      refine Res.mono (nx _ (by omega) ((h.alloc ⟨[Z 0, .nils, .nils], true⟩).set h.next ⟨[.int .i64 x.sig, wr, wb], true⟩) k2 (es.trans eX) lo2 (by have := eX.lo; omega) (fun g e' => hval g (eX.trans e')) (dc (inB x.sig q.sigs.length)) h.next _ (fun _ y hy => by rw [List.take_zero] at hy; cases hy) hcf (Ext.refl _)) (fun u g hq => ?_)
      obtain ⟨rfl, hq⟩ := hq
      refine ⟨?_, hq⟩
      simp only [namesFrom, List.drop_zero, dc_and])
    0 (by omega)
  obtain ⟨N, hN⟩ := key
  refine ⟨N, fun n hn => ?_⟩
  have := hN n hn
  simp only [List.drop_zero] at this
  exact this
end
end
end Go.Proofs.YtikjkhddkfkijaaGreatDoor.Tx

set_option linter.unusedSimpArgs false
set_option linter.unusedVariables false
namespace Go.Proofs.YtikjkhddkfkijaaGreatDoor.Tx
noncomputable section
open Go.AM Go.Proofs.YtikjkhddkfkijaaGreatDoor.Sf
section
variable {I : Inp} {h0 : AHeap}
def finV (q : Pg) (b : Bool) : AVal := rV (if b = true then namesFrom q 0 q.funcs else some noPt)
theorem finV_t (q : Pg) : finV q true = rV (namesFrom q 0 q.funcs) := by simp [finV]
theorem finV_f (q : Pg) : finV q false = .tuple [ptV noPt, .bool false] := by simp [finV]
theorem rNames {l : AM.Loc} {o : Nat} {q : Pg} (hq : PgA I h0 l o q) (hs : AHeap) (es0 : Ext h0 hs) (hargs : ∀ x ∈ q.funcs, ∀ y ∈ x.blocks, y.code.length ≤ 1000000 ∧ ∀ z ∈ y.code, z.args.length ≤ 1000000) (hfl : q.funcs.length ≤ 1000000) :
    Ret ((AM.lim ⟨P, I, genF P Sh.prims⟩) 16 [.ptr l o] hs) hs (rV (namesS q)) := by
  have hfun := rN_funcs hq es0 hargs hfl
  have hq' := hq
  obtain ⟨_, ⟨vr, vs, vf, vi, vu, rfl, rm, sr, ss, sf, si, su⟩, hc⟩ := hq
  have lr := sr.lt; have ls := ss.lt; have lf := sf.lt; have li := si.lt; have lu := su.lt
  have h4 := Evt.loop' q.impls (F := fun i n => ∀ (hb : AHeap) (k2 : Nat), Ext hs hb → hs.next ≤ k2 → k2 < hb.next → (∀ g, Ext hb g → g.get k2 = some ⟨[Z 0, Z 0, Z 0], true⟩) → ∀ (ok : Bool) (h : AHeap), Ext hb h → Res ((f16.J I (AM.lim ⟨P, I, genF P Sh.prims⟩) (n)).2.1.1.1.2 (.ptr l o) (.ptr (.own k2) 0) (.bool ok) (.int .i64 i) h) fun u g => u = finV q (ok && dc (AllL (fun m => inB m.rec_ q.recs.length ∧ inB m.face q.faces.length ∧ AllL (fun x => inB x q.funcs.length) m.funcs) (q.impls.drop i))) ∧ Ext hs g)
    (Evt.step 8 hfun fun n nx hb k2 es lo2 hi2 hval ok h e => by
      have eb := es0.trans es; have hlo := e.lo; have hls := es.lo
      rw [f16.n23]; unfold f16.b23
      (repeat' (first | refine Rf (fun hF hG => ?_) (fun hF hG => ?_) | assumption | (show Ext _ _; exact Ext.go) | (simp only [AHeap.next_alloc, AHeap.next_set, AHeap.next_kill, AHeap.next_res] at hle hsame) | simp (disch := first | exact D.go | fail) [setR, List.getElem?_cons_zero, List.getElem?_cons_succ, f16.n0, f16.b0, f16.n2, f16.b2, f16.n3, f16.b3, f16.n5, f16.b5, f16.n6, f16.b6, f16.n7, f16.b7, f16.n9, f16.b9, f16.n10, f16.b10, f16.n11, f16.b11, f16.n13, f16.b13, f16.n14, f16.b14, f16.n15, f16.b15, f16.n17, f16.b17, f16.n18, f16.b18, f16.n20, f16.b20, f16.n21, f16.b21, f16.n22, f16.b22, f16.n24, f16.b24, f16.n25, f16.b25, f16.n27, f16.b27, f16.n28, f16.b28, f16.n29, f16.b29, f16.n30, f16.b30, f16.n32, f16.b32, f16.n33, f16.b33, f16.n34, f16.b34, f16.n36, f16.b36, f16.n37, f16.b37, f16.n38, f16.b38, f16.n40, f16.b40, f16.n41, f16.b41, f16.n43, f16.b43, f16.n44, f16.b44, hval, hc.rd0, hc.rd1, hc.rd2, hc.rd3, hc.rd4, hc.rd5, sr.len, ss.len, sf.len, si.len, su.len, noPt_f, noPt_b, noPt_i, finV_t, finV_f, *] | (refine Ret.thn (h0 := hb) (rnowhere _) ?_ (fun g hg hlo hle hsame hx => ?_)) | (refine Res.mono (nx _ (by omega) hb k2 es lo2 hi2 hval _ ?_) (fun u g hq => ?_); rotate_left; (obtain ⟨rfl, hq⟩ := hq); rotate_right))))
    (fun i x hx ih => by
      obtain ⟨l1, o1, hi, ⟨_, ⟨w, rfl, r0, r1, sw⟩, ha⟩⟩ := si.at hx
      have hld := fun g e => ha.rds (n := 3) g e rfl (by omega)
      have lw := sw.lt
      have hlt := lt_of_get hx; have hw := wrap_in (n := (i : Int) + 1) ⟨by omega, by omega⟩
      have inner := Evt.loop x.funcs (F := fun j n => ∀ (hb : AHeap) (k2 : Nat), Ext hs hb → hs.next ≤ k2 → k2 < hb.next → (∀ g, Ext hb g → g.get k2 = some ⟨[Z 0, Z 0, Z 0], true⟩) → ∀ (ok : Bool) (k12 : Nat) (h : AHeap), Cells I hb (.own k12) 0 [.int .i64 x.rec_, .int .i64 x.face, w] → Ext hb h → Res ((f16.J I (AM.lim ⟨P, I, genF P Sh.prims⟩) (n)).2.1.1.2.2.2 (.ptr l o) (.ptr (.own k2) 0) (.bool ok) (.int .i64 i) (.ptr (.own k12) 0) (.int .i64 j) h) fun u g =>
          u = finV q (ok && (dc (AllL (fun x => inB x q.funcs.length) (x.funcs.drop j)) && dc (AllL (fun m => inB m.rec_ q.recs.length ∧ inB m.face q.faces.length ∧ AllL (fun x => inB x q.funcs.length) m.funcs) (q.impls.drop (i + 1))))) ∧ Ext hs g) 8
        (Evt.step 8 ih fun n nx hb k2 es lo2 hi2 hval ok k12 h c12 e => by
          have eb := es0.trans es; have hlo := e.lo; have hls := es.lo
          simp only [Int.natCast_add, Int.natCast_one] at nx
          rw [f16.n26]; unfold f16.b26
          (repeat' (first | refine Rf (fun hF hG => ?_) (fun hF hG => ?_) | assumption | (show Ext _ _; exact Ext.go) | (simp only [AHeap.next_alloc, AHeap.next_set, AHeap.next_kill, AHeap.next_res] at hle hsame) | simp (disch := first | exact D.go | fail) [setR, List.getElem?_cons_zero, List.getElem?_cons_succ, f16.n0, f16.b0, f16.n2, f16.b2, f16.n3, f16.b3, f16.n5, f16.b5, f16.n6, f16.b6, f16.n7, f16.b7, f16.n9, f16.b9, f16.n10, f16.b10, f16.n11, f16.b11, f16.n13, f16.b13, f16.n14, f16.b14, f16.n15, f16.b15, f16.n17, f16.b17, f16.n18, f16.b18, f16.n20, f16.b20, f16.n21, f16.b21, f16.n22, f16.b22, f16.n24, f16.b24, f16.n25, f16.b25, f16.n27, f16.b27, f16.n28, f16.b28, f16.n29, f16.b29, f16.n30, f16.b30, f16.n32, f16.b32, f16.n33, f16.b33, f16.n34, f16.b34, f16.n36, f16.b36, f16.n37, f16.b37, f16.n38, f16.b38, f16.n40, f16.b40, f16.n41, f16.b41, f16.n43, f16.b43, f16.n44, f16.b44, c12.rd0, c12.rd1, c12.rd2, sw.len, hw, *] | (refine Res_post (A := fun b u _ => u = finV q b) (nx _ (by omega) hb k2 es lo2 hi2 hval _ _ ?_) ?_))))
        (fun j y n hy jh hb k2 es lo2 hi2 hval ok k12 h c12 e => by
          have eb := es0.trans es; have hlo := e.lo; have hls := es.lo
          obtain ⟨l2, o2, hj, hy'⟩ := sw.at hy
          obtain ⟨hy', _⟩ := hy'.int
          have hlt2 := lt_of_get hy; have hw2 := wrap_in (n := (j : Int) + 1) ⟨by omega, by omega⟩
          simp only [Int.natCast_add, Int.natCast_one] at jh
          rw [drop_of_get hy]
          rw [f16.n26]; unfold f16.b26
          (repeat' (first | refine Rf (fun hF hG => ?_) (fun hF hG => ?_) | assumption | (show Ext _ _; exact Ext.go) | (simp only [AHeap.next_alloc, AHeap.next_set, AHeap.next_kill, AHeap.next_res] at hle hsame) | simp (disch := first | exact D.go | fail) [setR, List.getElem?_cons_zero, List.getElem?_cons_succ, f16.n0, f16.b0, f16.n2, f16.b2, f16.n3, f16.b3, f16.n5, f16.b5, f16.n6, f16.b6, f16.n7, f16.b7, f16.n9, f16.b9, f16.n10, f16.b10, f16.n11, f16.b11, f16.n13, f16.b13, f16.n14, f16.b14, f16.n15, f16.b15, f16.n17, f16.b17, f16.n18, f16.b18, f16.n20, f16.b20, f16.n21, f16.b21, f16.n22, f16.b22, f16.n24, f16.b24, f16.n25, f16.b25, f16.n27, f16.b27, f16.n28, f16.b28, f16.n29, f16.b29, f16.n30, f16.b30, f16.n32, f16.b32, f16.n33, f16.b33, f16.n34, f16.b34, f16.n36, f16.b36, f16.n37, f16.b37, f16.n38, f16.b38, f16.n40, f16.b40, f16.n41, f16.b41, f16.n43, f16.b43, f16.n44, f16.b44, c12.rd0, c12.rd1, c12.rd2, sw.len, hj, hy', hlt2, hw2, hc.rd0, hc.rd1, hc.rd2, hc.rd3, hc.rd4, hc.rd5, sr.len, ss.len, sf.len, si.len, su.len, rin, Bool.and_assoc, *] | (refine Res_post (A := fun b u _ => u = finV q b) (jh _ (by omega) hb k2 es lo2 hi2 hval _ k12 _ c12 ?_) ?_))))
        0 (by omega)
      refine Evt.step 8 inner fun n nx hb k2 es lo2 hi2 hval ok h e => ?_
      have eb := es0.trans es; have hlo := e.lo; have hls := es.lo
      have eX : Ext hb ((h.alloc ⟨[Z 0, Z 0, .nils], true⟩).set h.next ⟨[.int .i64 x.rec_, .int .i64 x.face, w], true⟩) := Ext.go
      have hcf : Cells I ((h.alloc ⟨[Z 0, Z 0, .nils], true⟩).set h.next ⟨[.int .i64 x.rec_, .int .i64 x.face, w], true⟩) (.own h.next) 0 [.int .i64 x.rec_, .int .i64 x.face, w] := Cells.own (AHeap.set_at (Nb.o rfl)) (by simp) fun i v hv => by simpa using hv
      have nx' := fun m hm ok g (e' : Ext _ g) => nx m hm ((h.alloc ⟨[Z 0, Z 0, .nils], true⟩).set h.next ⟨[.int .i64 x.rec_, .int .i64 x.face, w], true⟩) k2 (es.trans eX) lo2 (by have := eX.lo; omega) (fun g e' => hval g (eX.trans e')) ok h.next g hcf e'
      rw [drop_of_get hx]
      rw [f16.n23]; unfold f16.b23
      (repeat' (first | refine Rf (fun hF hG => ?_) (fun hF hG => ?_) | assumption | (show Ext _ _; exact Ext.go) | (simp only [AHeap.next_alloc, AHeap.next_set, AHeap.next_kill, AHeap.next_res] at hle hsame) | simp (disch := first | exact D.go | fail) [setR, List.getElem?_cons_zero, List.getElem?_cons_succ, f16.n0, f16.b0, f16.n2, f16.b2, f16.n3, f16.b3, f16.n5, f16.b5, f16.n6, f16.b6, f16.n7, f16.b7, f16.n9, f16.b9, f16.n10, f16.b10, f16.n11, f16.b11, f16.n13, f16.b13, f16.n14, f16.b14, f16.n15, f16.b15, f16.n17, f16.b17, f16.n18, f16.b18, f16.n20, f16.b20, f16.n21, f16.b21, f16.n22, f16.b22, f16.n24, f16.b24, f16.n25, f16.b25, f16.n27, f16.b27, f16.n28, f16.b28, f16.n29, f16.b29, f16.n30, f16.b30, f16.n32, f16.b32, f16.n33, f16.b33, f16.n34, f16.b34, f16.n36, f16.b36, f16.n37, f16.b37, f16.n38, f16.b38, f16.n40, f16.b40, f16.n41, f16.b41, f16.n43, f16.b43, f16.n44, f16.b44, hc.rd0, hc.rd1, hc.rd2, hc.rd3, hc.rd4, hc.rd5, sr.len, ss.len, sf.len, si.len, su.len, hi, hld, hlt, rin, sw.one, Bool.and_assoc, *] | (refine Res_post (A := fun b u _ => u = finV q b) (nx' _ (by omega) _ _ ?_) ?_))))
    0 (by omega)
  have h3 := Evt.loop' q.faces (F := fun i n => ∀ (hb : AHeap) (k2 : Nat), Ext hs hb → hs.next ≤ k2 → k2 < hb.next → (∀ g, Ext hb g → g.get k2 = some ⟨[Z 0, Z 0, Z 0], true⟩) → ∀ (ok : Bool) (h : AHeap), Ext hb h → Res ((f16.J I (AM.lim ⟨P, I, genF P Sh.prims⟩) (n)).1.2.2.1.1 (.ptr l o) (.ptr (.own k2) 0) (.bool ok) (.int .i64 i) h) fun u g => u = finV q (ok && (dc (AllL (fun f => AllL (fun x => inB x q.sigs.length) f) (q.faces.drop i)) && (dc (AllL (fun m => inB m.rec_ q.recs.length ∧ inB m.face q.faces.length ∧ AllL (fun x => inB x q.funcs.length) m.funcs) q.impls)))) ∧ Ext hs g)
    (Evt.step 8 h4 fun n nx hb k2 es lo2 hi2 hval ok h e => by
      have eb := es0.trans es; have hlo := e.lo; have hls := es.lo
      rw [f16.n16]; unfold f16.b16
      (repeat' (first | refine Rf (fun hF hG => ?_) (fun hF hG => ?_) | assumption | (show Ext _ _; exact Ext.go) | (simp only [AHeap.next_alloc, AHeap.next_set, AHeap.next_kill, AHeap.next_res] at hle hsame) | simp (disch := first | exact D.go | fail) [setR, List.getElem?_cons_zero, List.getElem?_cons_succ, f16.n0, f16.b0, f16.n2, f16.b2, f16.n3, f16.b3, f16.n5, f16.b5, f16.n6, f16.b6, f16.n7, f16.b7, f16.n9, f16.b9, f16.n10, f16.b10, f16.n11, f16.b11, f16.n13, f16.b13, f16.n14, f16.b14, f16.n15, f16.b15, f16.n17, f16.b17, f16.n18, f16.b18, f16.n20, f16.b20, f16.n21, f16.b21, f16.n22, f16.b22, f16.n24, f16.b24, f16.n25, f16.b25, f16.n27, f16.b27, f16.n28, f16.b28, f16.n29, f16.b29, f16.n30, f16.b30, f16.n32, f16.b32, f16.n33, f16.b33, f16.n34, f16.b34, f16.n36, f16.b36, f16.n37, f16.b37, f16.n38, f16.b38, f16.n40, f16.b40, f16.n41, f16.b41, f16.n43, f16.b43, f16.n44, f16.b44, hc.rd0, hc.rd1, hc.rd2, hc.rd3, hc.rd4, hc.rd5, sr.len, ss.len, sf.len, si.len, su.len, *] | (refine Res_post (A := fun b u _ => u = finV q b) (nx _ (by omega) hb k2 es lo2 hi2 hval _ _ ?_) ?_))))
    (fun i x hx ih => by
      obtain ⟨l1, o1, hi, ⟨_, ⟨w, rfl, sw⟩, ha⟩⟩ := sf.at hx
      have lw := sw.lt
      have hlt := lt_of_get hx; have hw := wrap_in (n := (i : Int) + 1) ⟨by omega, by omega⟩
      have inner := Evt.loop x (F := fun j n => ∀ (hb : AHeap) (k2 : Nat), Ext hs hb → hs.next ≤ k2 → k2 < hb.next → (∀ g, Ext hb g → g.get k2 = some ⟨[Z 0, Z 0, Z 0], true⟩) → ∀ (ok : Bool) (h : AHeap), Ext hb h → Res ((f16.J I (AM.lim ⟨P, I, genF P Sh.prims⟩) (n)).1.2.2.2.1 (.ptr l o) (.ptr (.own k2) 0) (.bool ok) (.int .i64 i) (.int .i64 j) h) fun u g =>
          u = finV q (ok && (dc (AllL (fun x => inB x q.sigs.length) (x.drop j)) && ((dc (AllL (fun f => AllL (fun x => inB x q.sigs.length) f) (q.faces.drop (i + 1))) && (dc (AllL (fun m => inB m.rec_ q.recs.length ∧ inB m.face q.faces.length ∧ AllL (fun x => inB x q.funcs.length) m.funcs) q.impls)))))) ∧ Ext hs g) 8
        (Evt.step 8 ih fun n nx hb k2 es lo2 hi2 hval ok h e => by
          have eb := es0.trans es; have hlo := e.lo; have hls := es.lo
          simp only [Int.natCast_add, Int.natCast_one] at nx
          rw [f16.n19]; unfold f16.b19
          (repeat' (first | refine Rf (fun hF hG => ?_) (fun hF hG => ?_) | assumption | (show Ext _ _; exact Ext.go) | (simp only [AHeap.next_alloc, AHeap.next_set, AHeap.next_kill, AHeap.next_res] at hle hsame) | simp (disch := first | exact D.go | fail) [setR, List.getElem?_cons_zero, List.getElem?_cons_succ, f16.n0, f16.b0, f16.n2, f16.b2, f16.n3, f16.b3, f16.n5, f16.b5, f16.n6, f16.b6, f16.n7, f16.b7, f16.n9, f16.b9, f16.n10, f16.b10, f16.n11, f16.b11, f16.n13, f16.b13, f16.n14, f16.b14, f16.n15, f16.b15, f16.n17, f16.b17, f16.n18, f16.b18, f16.n20, f16.b20, f16.n21, f16.b21, f16.n22, f16.b22, f16.n24, f16.b24, f16.n25, f16.b25, f16.n27, f16.b27, f16.n28, f16.b28, f16.n29, f16.b29, f16.n30, f16.b30, f16.n32, f16.b32, f16.n33, f16.b33, f16.n34, f16.b34, f16.n36, f16.b36, f16.n37, f16.b37, f16.n38, f16.b38, f16.n40, f16.b40, f16.n41, f16.b41, f16.n43, f16.b43, f16.n44, f16.b44, hc.rd0, hc.rd1, hc.rd2, hc.rd3, hc.rd4, hc.rd5, sr.len, ss.len, sf.len, si.len, su.len, hi, hlt, ha.rd0, sw.len, hw, Bool.and_assoc, *] | (refine Res_post (A := fun b u _ => u = finV q b) (nx _ (by omega) hb k2 es lo2 hi2 hval _ _ ?_) ?_))))
        (fun j y n hy jh hb k2 es lo2 hi2 hval ok h e => by
          have eb := es0.trans es; have hlo := e.lo; have hls := es.lo
          obtain ⟨l2, o2, hj, hy'⟩ := sw.at hy
          obtain ⟨hy', _⟩ := hy'.int
          have hlt2 := lt_of_get hy; have hw2 := wrap_in (n := (j : Int) + 1) ⟨by omega, by omega⟩
          simp only [Int.natCast_add, Int.natCast_one] at jh
          rw [drop_of_get hy]
          rw [f16.n19]; unfold f16.b19
          (repeat' (first | refine Rf (fun hF hG => ?_) (fun hF hG => ?_) | assumption | (show Ext _ _; exact Ext.go) | (simp only [AHeap.next_alloc, AHeap.next_set, AHeap.next_kill, AHeap.next_res] at hle hsame) | simp (disch := first | exact D.go | fail) [setR, List.getElem?_cons_zero, List.getElem?_cons_succ, f16.n0, f16.b0, f16.n2, f16.b2, f16.n3, f16.b3, f16.n5, f16.b5, f16.n6, f16.b6, f16.n7, f16.b7, f16.n9, f16.b9, f16.n10, f16.b10, f16.n11, f16.b11, f16.n13, f16.b13, f16.n14, f16.b14, f16.n15, f16.b15, f16.n17, f16.b17, f16.n18, f16.b18, f16.n20, f16.b20, f16.n21, f16.b21, f16.n22, f16.b22, f16.n24, f16.b24, f16.n25, f16.b25, f16.n27, f16.b27, f16.n28, f16.b28, f16.n29, f16.b29, f16.n30, f16.b30, f16.n32, f16.b32, f16.n33, f16.b33, f16.n34, f16.b34, f16.n36, f16.b36, f16.n37, f16.b37, f16.n38, f16.b38, f16.n40, f16.b40, f16.n41, f16.b41, f16.n43, f16.b43, f16.n44, f16.b44, hc.rd0, hc.rd1, hc.rd2, hc.rd3, hc.rd4, hc.rd5, sr.len, ss.len, sf.len, si.len, su.len, hi, hlt, ha.rd0, sw.len, hj, hy', hlt2, hw2, rin, Bool.and_assoc, *] | (refine Res_post (A := fun b u _ => u = finV q b) (jh _ (by omega) hb k2 es lo2 hi2 hval _ _ ?_) ?_))))
        0 (by omega)
      refine Evt.step 8 inner fun n nx hb k2 es lo2 hi2 hval ok h e => ?_
      have eb := es0.trans es; have hlo := e.lo; have hls := es.lo
      rw [drop_of_get hx]
      rw [f16.n16]; unfold f16.b16
      (repeat' (first | refine Rf (fun hF hG => ?_) (fun hF hG => ?_) | assumption | (show Ext _ _; exact Ext.go) | (simp only [AHeap.next_alloc, AHeap.next_set, AHeap.next_kill, AHeap.next_res] at hle hsame) | simp (disch := first | exact D.go | fail) [setR, List.getElem?_cons_zero, List.getElem?_cons_succ, f16.n0, f16.b0, f16.n2, f16.b2, f16.n3, f16.b3, f16.n5, f16.b5, f16.n6, f16.b6, f16.n7, f16.b7, f16.n9, f16.b9, f16.n10, f16.b10, f16.n11, f16.b11, f16.n13, f16.b13, f16.n14, f16.b14, f16.n15, f16.b15, f16.n17, f16.b17, f16.n18, f16.b18, f16.n20, f16.b20, f16.n21, f16.b21, f16.n22, f16.b22, f16.n24, f16.b24, f16.n25, f16.b25, f16.n27, f16.b27, f16.n28, f16.b28, f16.n29, f16.b29, f16.n30, f16.b30, f16.n32, f16.b32, f16.n33, f16.b33, f16.n34, f16.b34, f16.n36, f16.b36, f16.n37, f16.b37, f16.n38, f16.b38, f16.n40, f16.b40, f16.n41, f16.b41, f16.n43, f16.b43, f16.n44, f16.b44, hc.rd0, hc.rd1, hc.rd2, hc.rd3, hc.rd4, hc.rd5, sr.len, ss.len, sf.len, si.len, su.len, hi, hlt, Bool.and_assoc, *] | (refine Res_post (A := fun b u _ => u = finV q b) (nx _ (by omega) hb k2 es lo2 hi2 hval _ _ ?_) ?_))))
    0 (by omega)
  have h2 := Evt.loop' q.sigs (F := fun i n => ∀ (hb : AHeap) (k2 : Nat), Ext hs hb → hs.next ≤ k2 → k2 < hb.next → (∀ g, Ext hb g → g.get k2 = some ⟨[Z 0, Z 0, Z 0], true⟩) → ∀ (ok : Bool) (h : AHeap), Ext hb h → Res ((f16.J I (AM.lim ⟨P, I, genF P Sh.prims⟩) (n)).1.1.2.2.1 (.ptr l o) (.ptr (.own k2) 0) (.bool ok) (.int .i64 i) h) fun u g => u = finV q (ok && (dc (AllL (fun s => AllL (namedP q) s.params ∧ namedP q s.res) (q.sigs.drop i)) && (dc (AllL (fun f => AllL (fun x => inB x q.sigs.length) f) q.faces) && dc (AllL (fun m => inB m.rec_ q.recs.length ∧ inB m.face q.faces.length ∧ AllL (fun x => inB x q.funcs.length) m.funcs) q.impls)))) ∧ Ext hs g)
    (Evt.step 8 h3 fun n nx hb k2 es lo2 hi2 hval ok h e => by
      have eb := es0.trans es; have hlo := e.lo; have hls := es.lo
      rw [f16.n8]; unfold f16.b8
      (repeat' (first | refine Rf (fun hF hG => ?_) (fun hF hG => ?_) | assumption | (show Ext _ _; exact Ext.go) | (simp only [AHeap.next_alloc, AHeap.next_set, AHeap.next_kill, AHeap.next_res] at hle hsame) | simp (disch := first | exact D.go | fail) [setR, List.getElem?_cons_zero, List.getElem?_cons_succ, f16.n0, f16.b0, f16.n2, f16.b2, f16.n3, f16.b3, f16.n5, f16.b5, f16.n6, f16.b6, f16.n7, f16.b7, f16.n9, f16.b9, f16.n10, f16.b10, f16.n11, f16.b11, f16.n13, f16.b13, f16.n14, f16.b14, f16.n15, f16.b15, f16.n17, f16.b17, f16.n18, f16.b18, f16.n20, f16.b20, f16.n21, f16.b21, f16.n22, f16.b22, f16.n24, f16.b24, f16.n25, f16.b25, f16.n27, f16.b27, f16.n28, f16.b28, f16.n29, f16.b29, f16.n30, f16.b30, f16.n32, f16.b32, f16.n33, f16.b33, f16.n34, f16.b34, f16.n36, f16.b36, f16.n37, f16.b37, f16.n38, f16.b38, f16.n40, f16.b40, f16.n41, f16.b41, f16.n43, f16.b43, f16.n44, f16.b44, hc.rd0, hc.rd1, hc.rd2, hc.rd3, hc.rd4, hc.rd5, sr.len, ss.len, sf.len, si.len, su.len, *] | (refine Res_post (A := fun b u _ => u = finV q b) (nx _ (by omega) hb k2 es lo2 hi2 hval _ _ ?_) ?_))))
    (fun i x hx ih => by
      obtain ⟨l1, o1, hi, ⟨_, ⟨w, rfl, sw, r0, r1⟩, ha⟩⟩ := ss.at hx
      have lw := sw.lt
      have hlt := lt_of_get hx; have hw := wrap_in (n := (i : Int) + 1) ⟨by omega, by omega⟩
      have hldr := fun g e => (Cells.sub (d := 1) (ds := [.int .i64 x.res.kind, .int .i64 x.res.n]) ha (fun i v hv => by rw [Nat.add_comm]; match i with | 0 => exact hv | 1 => exact hv | i + 2 => simp at hv)).rds (n := 2) g e rfl (by omega)
      have inner := Evt.loop x.params (F := fun j n => ∀ (hb : AHeap) (k2 : Nat), Ext hs hb → hs.next ≤ k2 → k2 < hb.next → (∀ g, Ext hb g → g.get k2 = some ⟨[Z 0, Z 0, Z 0], true⟩) → ∀ (ok : Bool) (h : AHeap), Ext hb h → Res ((f16.J I (AM.lim ⟨P, I, genF P Sh.prims⟩) (n)).1.2.1.1.2 (.ptr l o) (.ptr (.own k2) 0) (.bool ok) (.int .i64 i) (.int .i64 j) h) fun u g =>
          u = finV q (ok && (dc (AllL (namedP q) (x.params.drop j)) && (dc (namedP q x.res) && (dc (AllL (fun s => AllL (namedP q) s.params ∧ namedP q s.res) (q.sigs.drop (i + 1))) && (dc (AllL (fun f => AllL (fun x => inB x q.sigs.length) f) q.faces) && dc (AllL (fun m => inB m.rec_ q.recs.length ∧ inB m.face q.faces.length ∧ AllL (fun x => inB x q.funcs.length) m.funcs) q.impls)))))) ∧ Ext hs g) 8
        (Evt.step 8 ih fun n nx hb k2 es lo2 hi2 hval ok h e => by
          have eb := es0.trans es; have hlo := e.lo; have hls := es.lo
          simp only [Int.natCast_add, Int.natCast_one] at nx
          rw [f16.n12]; unfold f16.b12
          (repeat' (first | refine Rf (fun hF hG => ?_) (fun hF hG => ?_) | assumption | (show Ext _ _; exact Ext.go) | (simp only [AHeap.next_alloc, AHeap.next_set, AHeap.next_kill, AHeap.next_res] at hle hsame) | simp (disch := first | exact D.go | fail) [setR, List.getElem?_cons_zero, List.getElem?_cons_succ, f16.n0, f16.b0, f16.n2, f16.b2, f16.n3, f16.b3, f16.n5, f16.b5, f16.n6, f16.b6, f16.n7, f16.b7, f16.n9, f16.b9, f16.n10, f16.b10, f16.n11, f16.b11, f16.n13, f16.b13, f16.n14, f16.b14, f16.n15, f16.b15, f16.n17, f16.b17, f16.n18, f16.b18, f16.n20, f16.b20, f16.n21, f16.b21, f16.n22, f16.b22, f16.n24, f16.b24, f16.n25, f16.b25, f16.n27, f16.b27, f16.n28, f16.b28, f16.n29, f16.b29, f16.n30, f16.b30, f16.n32, f16.b32, f16.n33, f16.b33, f16.n34, f16.b34, f16.n36, f16.b36, f16.n37, f16.b37, f16.n38, f16.b38, f16.n40, f16.b40, f16.n41, f16.b41, f16.n43, f16.b43, f16.n44, f16.b44, hc.rd0, hc.rd1, hc.rd2, hc.rd3, hc.rd4, hc.rd5, sr.len, ss.len, sf.len, si.len, su.len, hi, hlt, ha.rd0, hldr, sw.len, hw, Bool.and_assoc, *] | (refine Ret.thn (h0 := hb) (rnamed hq' x.res _ Ext.go) ?_ (fun g hg hlo hle hsame hx => ?_)) | (refine Res_post (A := fun b u _ => u = finV q b) (nx _ (by omega) hb k2 es lo2 hi2 hval _ _ ?_) ?_))))
        (fun j y n hy jh hb k2 es lo2 hi2 hval ok h e => by
          have eb := es0.trans es; have hlo := e.lo; have hls := es.lo
          obtain ⟨l2, o2, hj, ⟨_, ⟨rfl, _, _⟩, hy'⟩⟩ := sw.at hy
          have hld2 := fun g e => hy'.rds (n := 2) g e rfl (by omega)
          have hlt2 := lt_of_get hy; have hw2 := wrap_in (n := (j : Int) + 1) ⟨by omega, by omega⟩
          simp only [Int.natCast_add, Int.natCast_one] at jh
          rw [drop_of_get hy]
          rw [f16.n12]; unfold f16.b12
          (repeat' (first | refine Rf (fun hF hG => ?_) (fun hF hG => ?_) | assumption | (show Ext _ _; exact Ext.go) | (simp only [AHeap.next_alloc, AHeap.next_set, AHeap.next_kill, AHeap.next_res] at hle hsame) | simp (disch := first | exact D.go | fail) [setR, List.getElem?_cons_zero, List.getElem?_cons_succ, f16.n0, f16.b0, f16.n2, f16.b2, f16.n3, f16.b3, f16.n5, f16.b5, f16.n6, f16.b6, f16.n7, f16.b7, f16.n9, f16.b9, f16.n10, f16.b10, f16.n11, f16.b11, f16.n13, f16.b13, f16.n14, f16.b14, f16.n15, f16.b15, f16.n17, f16.b17, f16.n18, f16.b18, f16.n20, f16.b20, f16.n21, f16.b21, f16.n22, f16.b22, f16.n24, f16.b24, f16.n25, f16.b25, f16.n27, f16.b27, f16.n28, f16.b28, f16.n29, f16.b29, f16.n30, f16.b30, f16.n32, f16.b32, f16.n33, f16.b33, f16.n34, f16.b34, f16.n36, f16.b36, f16.n37, f16.b37, f16.n38, f16.b38, f16.n40, f16.b40, f16.n41, f16.b41, f16.n43, f16.b43, f16.n44, f16.b44, hc.rd0, hc.rd1, hc.rd2, hc.rd3, hc.rd4, hc.rd5, sr.len, ss.len, sf.len, si.len, su.len, hi, hlt, ha.rd0, hldr, sw.len, hj, hld2, hlt2, hw2, rin, Bool.and_assoc, *] | (refine Ret.thn (h0 := hb) (rnamed hq' y _ Ext.go) ?_ (fun g hg hlo hle hsame hx => ?_)) | (refine Res_post (A := fun b u _ => u = finV q b) (jh _ (by omega) hb k2 es lo2 hi2 hval _ _ ?_) ?_))))
        0 (by omega)
      refine Evt.step 8 inner fun n nx hb k2 es lo2 hi2 hval ok h e => ?_
      have eb := es0.trans es; have hlo := e.lo; have hls := es.lo
      rw [drop_of_get hx]
      rw [f16.n8]; unfold f16.b8
      (repeat' (first | refine Rf (fun hF hG => ?_) (fun hF hG => ?_) | assumption | (show Ext _ _; exact Ext.go) | (simp only [AHeap.next_alloc, AHeap.next_set, AHeap.next_kill, AHeap.next_res] at hle hsame) | simp (disch := first | exact D.go | fail) [setR, List.getElem?_cons_zero, List.getElem?_cons_succ, f16.n0, f16.b0, f16.n2, f16.b2, f16.n3, f16.b3, f16.n5, f16.b5, f16.n6, f16.b6, f16.n7, f16.b7, f16.n9, f16.b9, f16.n10, f16.b10, f16.n11, f16.b11, f16.n13, f16.b13, f16.n14, f16.b14, f16.n15, f16.b15, f16.n17, f16.b17, f16.n18, f16.b18, f16.n20, f16.b20, f16.n21, f16.b21, f16.n22, f16.b22, f16.n24, f16.b24, f16.n25, f16.b25, f16.n27, f16.b27, f16.n28, f16.b28, f16.n29, f16.b29, f16.n30, f16.b30, f16.n32, f16.b32, f16.n33, f16.b33, f16.n34, f16.b34, f16.n36, f16.b36, f16.n37, f16.b37, f16.n38, f16.b38, f16.n40, f16.b40, f16.n41, f16.b41, f16.n43, f16.b43, f16.n44, f16.b44, hc.rd0, hc.rd1, hc.rd2, hc.rd3, hc.rd4, hc.rd5, sr.len, ss.len, sf.len, si.len, su.len, hi, hlt, Bool.and_assoc, *] | (refine Res_post (A := fun b u _ => u = finV q b) (nx _ (by omega) hb k2 es lo2 hi2 hval _ _ ?_) ?_))))
    0 (by omega)
  have h1 := Evt.loop' q.recs (F := fun i n => ∀ (hb : AHeap) (k2 : Nat), Ext hs hb → hs.next ≤ k2 → k2 < hb.next → (∀ g, Ext hb g → g.get k2 = some ⟨[Z 0, Z 0, Z 0], true⟩) → ∀ (ok : Bool) (h : AHeap), Ext hb h → Res ((f16.J I (AM.lim ⟨P, I, genF P Sh.prims⟩) (n)).1.1.1.1.2 (.ptr l o) (.ptr (.own k2) 0) (.bool ok) (.int .i64 i) h) fun u g => u = finV q (ok && (dc (AllL (fun r => AllL (namedP q) r) (q.recs.drop i)) && (dc (AllL (fun s => AllL (namedP q) s.params ∧ namedP q s.res) q.sigs) && (dc (AllL (fun f => AllL (fun x => inB x q.sigs.length) f) q.faces) && dc (AllL (fun m => inB m.rec_ q.recs.length ∧ inB m.face q.faces.length ∧ AllL (fun x => inB x q.funcs.length) m.funcs) q.impls))))) ∧ Ext hs g)
    (Evt.step 8 h2 fun n nx hb k2 es lo2 hi2 hval ok h e => by
      have eb := es0.trans es; have hlo := e.lo; have hls := es.lo
      rw [f16.n1]; unfold f16.b1
      (repeat' (first | refine Rf (fun hF hG => ?_) (fun hF hG => ?_) | assumption | (show Ext _ _; exact Ext.go) | (simp only [AHeap.next_alloc, AHeap.next_set, AHeap.next_kill, AHeap.next_res] at hle hsame) | simp (disch := first | exact D.go | fail) [setR, List.getElem?_cons_zero, List.getElem?_cons_succ, f16.n0, f16.b0, f16.n2, f16.b2, f16.n3, f16.b3, f16.n5, f16.b5, f16.n6, f16.b6, f16.n7, f16.b7, f16.n9, f16.b9, f16.n10, f16.b10, f16.n11, f16.b11, f16.n13, f16.b13, f16.n14, f16.b14, f16.n15, f16.b15, f16.n17, f16.b17, f16.n18, f16.b18, f16.n20, f16.b20, f16.n21, f16.b21, f16.n22, f16.b22, f16.n24, f16.b24, f16.n25, f16.b25, f16.n27, f16.b27, f16.n28, f16.b28, f16.n29, f16.b29, f16.n30, f16.b30, f16.n32, f16.b32, f16.n33, f16.b33, f16.n34, f16.b34, f16.n36, f16.b36, f16.n37, f16.b37, f16.n38, f16.b38, f16.n40, f16.b40, f16.n41, f16.b41, f16.n43, f16.b43, f16.n44, f16.b44, hc.rd0, hc.rd1, hc.rd2, hc.rd3, hc.rd4, hc.rd5, sr.len, ss.len, sf.len, si.len, su.len, *] | (refine Res_post (A := fun b u _ => u = finV q b) (nx _ (by omega) hb k2 es lo2 hi2 hval _ _ ?_) ?_))))
    (fun i x hx ih => by
      obtain ⟨l1, o1, hi, ⟨_, ⟨w, rfl, sw⟩, ha⟩⟩ := sr.at hx
      have lw := sw.lt
      have hlt := lt_of_get hx; have hw := wrap_in (n := (i : Int) + 1) ⟨by omega, by omega⟩
      have inner := Evt.loop x (F := fun j n => ∀ (hb : AHeap) (k2 : Nat), Ext hs hb → hs.next ≤ k2 → k2 < hb.next → (∀ g, Ext hb g → g.get k2 = some ⟨[Z 0, Z 0, Z 0], true⟩) → ∀ (ok : Bool) (h : AHeap), Ext hb h → Res ((f16.J I (AM.lim ⟨P, I, genF P Sh.prims⟩) (n)).1.1.1.2.2.2 (.ptr l o) (.ptr (.own k2) 0) (.bool ok) (.int .i64 i) (.int .i64 j) h) fun u g =>
          u = finV q (ok && (dc (AllL (namedP q) (x.drop j)) && ((dc (AllL (fun r => AllL (namedP q) r) (q.recs.drop (i + 1))) && (dc (AllL (fun s => AllL (namedP q) s.params ∧ namedP q s.res) q.sigs) && (dc (AllL (fun f => AllL (fun x => inB x q.sigs.length) f) q.faces) && dc (AllL (fun m => inB m.rec_ q.recs.length ∧ inB m.face q.faces.length ∧ AllL (fun x => inB x q.funcs.length) m.funcs) q.impls))))))) ∧ Ext hs g) 8
        (Evt.step 8 ih fun n nx hb k2 es lo2 hi2 hval ok h e => by
          have eb := es0.trans es; have hlo := e.lo; have hls := es.lo
          simp only [Int.natCast_add, Int.natCast_one] at nx
          rw [f16.n4]; unfold f16.b4
          (repeat' (first | refine Rf (fun hF hG => ?_) (fun hF hG => ?_) | assumption | (show Ext _ _; exact Ext.go) | (simp only [AHeap.next_alloc, AHeap.next_set, AHeap.next_kill, AHeap.next_res] at hle hsame) | simp (disch := first | exact D.go | fail) [setR, List.getElem?_cons_zero, List.getElem?_cons_succ, f16.n0, f16.b0, f16.n2, f16.b2, f16.n3, f16.b3, f16.n5, f16.b5, f16.n6, f16.b6, f16.n7, f16.b7, f16.n9, f16.b9, f16.n10, f16.b10, f16.n11, f16.b11, f16.n13, f16.b13, f16.n14, f16.b14, f16.n15, f16.b15, f16.n17, f16.b17, f16.n18, f16.b18, f16.n20, f16.b20, f16.n21, f16.b21, f16.n22, f16.b22, f16.n24, f16.b24, f16.n25, f16.b25, f16.n27, f16.b27, f16.n28, f16.b28, f16.n29, f16.b29, f16.n30, f16.b30, f16.n32, f16.b32, f16.n33, f16.b33, f16.n34, f16.b34, f16.n36, f16.b36, f16.n37, f16.b37, f16.n38, f16.b38, f16.n40, f16.b40, f16.n41, f16.b41, f16.n43, f16.b43, f16.n44, f16.b44, hc.rd0, hc.rd1, hc.rd2, hc.rd3, hc.rd4, hc.rd5, sr.len, ss.len, sf.len, si.len, su.len, hi, hlt, ha.rd0, sw.len, hw, Bool.and_assoc, *] | (refine Res_post (A := fun b u _ => u = finV q b) (nx _ (by omega) hb k2 es lo2 hi2 hval _ _ ?_) ?_))))
        (fun j y n hy jh hb k2 es lo2 hi2 hval ok h e => by
          have eb := es0.trans es; have hlo := e.lo; have hls := es.lo
          obtain ⟨l2, o2, hj, ⟨_, ⟨rfl, _, _⟩, hy'⟩⟩ := sw.at hy
          have hld2 := fun g e => hy'.rds (n := 2) g e rfl (by omega)
          have hlt2 := lt_of_get hy; have hw2 := wrap_in (n := (j : Int) + 1) ⟨by omega, by omega⟩
          simp only [Int.natCast_add, Int.natCast_one] at jh
          rw [drop_of_get hy]
          rw [f16.n4]; unfold f16.b4
          (repeat' (first | refine Rf (fun hF hG => ?_) (fun hF hG => ?_) | assumption | (show Ext _ _; exact Ext.go) | (simp only [AHeap.next_alloc, AHeap.next_set, AHeap.next_kill, AHeap.next_res] at hle hsame) | simp (disch := first | exact D.go | fail) [setR, List.getElem?_cons_zero, List.getElem?_cons_succ, f16.n0, f16.b0, f16.n2, f16.b2, f16.n3, f16.b3, f16.n5, f16.b5, f16.n6, f16.b6, f16.n7, f16.b7, f16.n9, f16.b9, f16.n10, f16.b10, f16.n11, f16.b11, f16.n13, f16.b13, f16.n14, f16.b14, f16.n15, f16.b15, f16.n17, f16.b17, f16.n18, f16.b18, f16.n20, f16.b20, f16.n21, f16.b21, f16.n22, f16.b22, f16.n24, f16.b24, f16.n25, f16.b25, f16.n27, f16.b27, f16.n28, f16.b28, f16.n29, f16.b29, f16.n30, f16.b30, f16.n32, f16.b32, f16.n33, f16.b33, f16.n34, f16.b34, f16.n36, f16.b36, f16.n37, f16.b37, f16.n38, f16.b38, f16.n40, f16.b40, f16.n41, f16.b41, f16.n43, f16.b43, f16.n44, f16.b44, hc.rd0, hc.rd1, hc.rd2, hc.rd3, hc.rd4, hc.rd5, sr.len, ss.len, sf.len, si.len, su.len, hi, hlt, ha.rd0, sw.len, hj, hld2, hlt2, hw2, rin, Bool.and_assoc, *] | (refine Ret.thn (h0 := hb) (rnamed hq' y _ Ext.go) ?_ (fun g hg hlo hle hsame hx => ?_)) | (refine Res_post (A := fun b u _ => u = finV q b) (jh _ (by omega) hb k2 es lo2 hi2 hval _ _ ?_) ?_))))
        0 (by omega)
      refine Evt.step 8 inner fun n nx hb k2 es lo2 hi2 hval ok h e => ?_
      have eb := es0.trans es; have hlo := e.lo; have hls := es.lo
      rw [drop_of_get hx]
      rw [f16.n1]; unfold f16.b1
      (repeat' (first | refine Rf (fun hF hG => ?_) (fun hF hG => ?_) | assumption | (show Ext _ _; exact Ext.go) | (simp only [AHeap.next_alloc, AHeap.next_set, AHeap.next_kill, AHeap.next_res] at hle hsame) | simp (disch := first | exact D.go | fail) [setR, List.getElem?_cons_zero, List.getElem?_cons_succ, f16.n0, f16.b0, f16.n2, f16.b2, f16.n3, f16.b3, f16.n5, f16.b5, f16.n6, f16.b6, f16.n7, f16.b7, f16.n9, f16.b9, f16.n10, f16.b10, f16.n11, f16.b11, f16.n13, f16.b13, f16.n14, f16.b14, f16.n15, f16.b15, f16.n17, f16.b17, f16.n18, f16.b18, f16.n20, f16.b20, f16.n21, f16.b21, f16.n22, f16.b22, f16.n24, f16.b24, f16.n25, f16.b25, f16.n27, f16.b27, f16.n28, f16.b28, f16.n29, f16.b29, f16.n30, f16.b30, f16.n32, f16.b32, f16.n33, f16.b33, f16.n34, f16.b34, f16.n36, f16.b36, f16.n37, f16.b37, f16.n38, f16.b38, f16.n40, f16.b40, f16.n41, f16.b41, f16.n43, f16.b43, f16.n44, f16.b44, hc.rd0, hc.rd1, hc.rd2, hc.rd3, hc.rd4, hc.rd5, sr.len, ss.len, sf.len, si.len, su.len, hi, hlt, Bool.and_assoc, *] | (refine Res_post (A := fun b u _ => u = finV q b) (nx _ (by omega) hb k2 es lo2 hi2 hval _ _ ?_) ?_))))
    0 (by omega)
  obtain ⟨N, hN⟩ := h1
  have nb := hN N (Nat.le_refl _) (hs.alloc ⟨[Z 0, Z 0, Z 0], true⟩) hs.next (Ext.refl hs).alloc (Nat.le_refl _) (by simp) (fun g e => by rw [e.same _ (by simp)]; exact AHeap.alloc_at (Nb.o rfl)) true (hs.alloc ⟨[Z 0, Z 0, Z 0], true⟩) (Ext.refl _)
  refine f16.lim rfl (n := N) ?_
  unfold f16.e
  simp only [sAlloc_eq, to_Bnd, to_kA, to_kC, to_kS, Bnd_some]
  refine Res.mono nb (fun u g hq => ?_)
  obtain ⟨rfl, hq⟩ := hq
  refine ⟨?_, hq⟩
  simp only [finV, namesS, listsB, List.drop_zero, Bool.true_and, Bool.and_assoc]
end
end
end Go.Proofs.YtikjkhddkfkijaaGreatDoor.Tx

set_option linter.unusedSimpArgs false
set_option linter.unusedVariables false
namespace Go.Proofs.YtikjkhddkfkijaaGreatDoor.Tx
noncomputable section
open Go.AM Go.Proofs.YtikjkhddkfkijaaGreatDoor.Sf
section
variable {I : Inp}
end
end
end Go.Proofs.YtikjkhddkfkijaaGreatDoor.Tx

set_option linter.unusedSimpArgs false
set_option linter.unusedVariables false
namespace Go.Proofs.YtikjkhddkfkijaaGreatDoor.Tx
noncomputable section
open Go.AM Go.Proofs.YtikjkhddkfkijaaGreatDoor.Sf
section
variable {I : Inp}
theorem bounds_facts {q : Pg} (h : boundsB q = true) : (∀ x ∈ q.funcs, ∀ y ∈ x.blocks, y.code.length ≤ 1000000 ∧ ∀ z ∈ y.code, z.args.length ≤ 1000000) ∧ q.funcs.length ≤ 1000000 := by
  simp only [boundsB, lensB, innerB, Bool.and_eq_true, dc_eq_true] at h
  obtain ⟨⟨⟨_, hf⟩, _⟩, ⟨_, hb⟩, _⟩ := h
  refine ⟨fun x hx y hy => ?_, by omega⟩
  have hx' := hb x hx
  simp only [bodyB, Bool.and_eq_true, dc_eq_true] at hx'
  have hy' := hx'.2 y hy
  exact ⟨by omega, fun z hz => by have := hy'.2 z hz; omega⟩
theorem bkFrom_ge {PI : Ins → Bool} {ok : Bool} {f b : Int} {p : Pt} : ∀ (l : List Ins) (k : Nat), bkFrom PI ok f b k l = some p → p.f = f
  | [], k, h => by
    unfold bkFrom at h
    split at h
    · cases h
    · cases h; rfl
  | i :: r, k, h => by
    unfold bkFrom at h
    split at h
    · exact bkFrom_ge r (k + 1) h
    · cases h; rfl
theorem fuFrom_ge {PI : Ins → Bool} {PB : Bk → Bool} {f : Int} {p : Pt} : ∀ (l : List Bk) (b : Nat), fuFrom PI PB f b l = some p → p.f = f
  | [], b, h => by simp [fuFrom] at h
  | x :: r, b, h => by
    unfold fuFrom at h
    rw [Option.or_eq_some_iff] at h
    rcases h with h | ⟨_, h⟩
    · exact bkFrom_ge _ _ h
    · exact fuFrom_ge r (b + 1) h
theorem namesFrom_ge {q : Pg} {p : Pt} : ∀ (l : List Fu) (i : Nat), namesFrom q i l = some p → 0 ≤ p.f ∨ p = noPt
  | [], i, h => by
    unfold namesFrom at h
    split at h
    · cases h
    · cases h; exact .inr rfl
  | f :: r, i, h => by
    unfold namesFrom at h
    split at h
    · rw [Option.or_eq_some_iff] at h
      rcases h with h | ⟨_, h⟩
      · exact .inl (by rw [fuFrom_ge _ _ h]; omega)
      · exact namesFrom_ge r (i + 1) h
    · cases h; exact .inr rfl
theorem namesS_ge {q : Pg} {p : Pt} (h : namesS q = some p) : 0 ≤ p.f ∨ p = noPt := by
  unfold namesS at h
  split at h
  · exact namesFrom_ge _ _ h
  · cases h; exact .inr rfl
end
end
end Go.Proofs.YtikjkhddkfkijaaGreatDoor.Tx

set_option linter.unusedSimpArgs false
set_option linter.unusedVariables false
namespace Go.Proofs.YtikjkhddkfkijaaGreatDoor.Tx
noncomputable section
open Go.AM Go.Proofs.YtikjkhddkfkijaaGreatDoor.Sf
section
variable {I : Inp} {h0 : AHeap}
/-! types are alike -/
@[simp] theorem pEq_two (neg c : Bool) (k k' : IntKind) (a b a' b' : Int) (h : AHeap) : pEq P neg (.struct [.i, .i]) c (.agg [.int k a, .int k' b]) (.agg [.int k a', .int k' b']) h = some (.bool (if neg then !dc (a = a' ∧ b = b') else dc (a = a' ∧ b = b'))) := by
  simp only [pEq, aeq, structEq, scalarsEq, scalarEq, eqI_spec, dc_decide]
  rw [show (a == a') = decide (a = a') by rw [Bool.eq_iff_iff]; simp, show (b == b') = decide (b = b') by rw [Bool.eq_iff_iff]; simp]
  by_cases h1 : a = a' <;> by_cases h2 : b = b' <;> simp [h1, h2]
abbrev tyV (t : Ty) : AVal := .agg [.int .i64 t.kind, .int .i64 t.n]
def tyE (a b : Ty) : Prop := a.kind = b.kind ∧ a.n = b.n
@[simp high] theorem pEq_ty (neg c : Bool) (a b : Ty) (h : AHeap) : pEq P neg (.struct [.i, .i]) c (tyV a) (tyV b) h = some (.bool (if neg then !dc (tyE a b) else dc (tyE a b))) := pEq_two ..
theorem req (a b : Ty) (hb : AHeap) : Ret ((AM.lim ⟨P, I, genF P Sh.prims⟩) 38 [tyV a, tyV b] hb) hb (.bool (dc (tyE a b))) := by
  refine f38.lim rfl (n := 2) ?_
  unfold f38.e
  (repeat' (first | refine Rf (fun hF hG => ?_) (fun hF hG => ?_) | assumption | (show Ext _ _; exact Ext.go) | (simp only [AHeap.next_alloc, AHeap.next_set, AHeap.next_kill, AHeap.next_res] at hle hsame) | simp (disch := first | exact D.go | fail) [setR, List.getElem?_cons_zero, List.getElem?_cons_succ, setR, tyE, *]))
/-! which Impl -/
def implFrom (a b : Int) : Nat → List Im → Int
  | _, [] => -1
  | i, m :: r => if m.rec_ = a ∧ m.face = b then i else implFrom a b (i + 1) r
theorem rImpl {l : AM.Loc} {o : Nat} {q : Pg} (hq : PgA I h0 l o q) (a b : Int) (hb : AHeap) (eb : Ext h0 hb) : Ret ((AM.lim ⟨P, I, genF P Sh.prims⟩) 37 [.ptr l o, .int .i64 a, .int .i64 b] hb) hb (.int .i64 (implFrom a b 0 q.impls)) := by
  obtain ⟨_, ⟨vr, vs, vf, vi, vu, rfl, rm, sr, ss, sf, si, su⟩, hc⟩ := hq
  have hL := si.lt
  obtain ⟨N, hN⟩ := Evt.loop q.impls (F := fun i n => ∀ h, Ext hb h → Res ((f37.J I (AM.lim ⟨P, I, genF P Sh.prims⟩) (n)).1.2 (.ptr l o) (.int .i64 a) (.int .i64 b) (.int .i64 i) h) fun u g => u = .int .i64 (implFrom a b i (q.impls.drop i)) ∧ Ext hb g) 5
    (Evt.all 5 fun n h e => by
      rw [f37.n1]; unfold f37.b1
      (repeat' (first | refine Rf (fun hF hG => ?_) (fun hF hG => ?_) | assumption | (show Ext _ _; exact Ext.go) | (simp only [AHeap.next_alloc, AHeap.next_set, AHeap.next_kill, AHeap.next_res] at hle hsame) | simp (disch := first | exact D.go | fail) [setR, List.getElem?_cons_zero, List.getElem?_cons_succ, f37.n0, f37.b0, f37.n2, f37.b2, f37.n3, f37.b3, hc.rd0, hc.rd1, hc.rd2, hc.rd3, hc.rd4, hc.rd5, sr.len, ss.len, sf.len, si.len, su.len, implFrom, *])))
    (fun i x n hx ih h e => by
      obtain ⟨l1, o1, hi, ⟨_, ⟨w, rfl, r0, r1, sw⟩, ha⟩⟩ := si.at hx
      have hlt := lt_of_get hx; have hw := wrap_in (n := (i : Int) + 1) ⟨by omega, by omega⟩; simp only [Int.natCast_add, Int.natCast_one] at ih; rw [drop_of_get hx]; have hlo := e.lo
      rw [f37.n1]; unfold f37.b1
      (repeat' (first | refine Rf (fun hF hG => ?_) (fun hF hG => ?_) | assumption | (show Ext _ _; exact Ext.go) | (simp only [AHeap.next_alloc, AHeap.next_set, AHeap.next_kill, AHeap.next_res] at hle hsame) | simp (disch := first | exact D.go | fail) [setR, List.getElem?_cons_zero, List.getElem?_cons_succ, f37.n0, f37.b0, f37.n2, f37.b2, f37.n3, f37.b3, hc.rd0, hc.rd1, hc.rd2, hc.rd3, hc.rd4, hc.rd5, sr.len, ss.len, sf.len, si.len, su.len, hi, ha.rd0, ha.rd1, hw, hlt, implFrom, *] | (refine Res.mono (ih _ (by omega) _ ?_) (fun u g hq => ?_); rotate_left; (obtain ⟨rfl, hq⟩ := hq); rotate_right))))
    0 (by omega)
  refine f37.lim rfl (n := N) ?_
  unfold f37.e
  (repeat' (first | refine Rf (fun hF hG => ?_) (fun hF hG => ?_) | assumption | (show Ext _ _; exact Ext.go) | (simp only [AHeap.next_alloc, AHeap.next_set, AHeap.next_kill, AHeap.next_res] at hle hsame) | simp (disch := first | exact D.go | fail) [setR, List.getElem?_cons_zero, List.getElem?_cons_succ, setR, *] | (refine Res.mono (hN _ (Nat.le_refl _) _ ?_) (fun u g hq => ?_); rotate_left; (obtain ⟨rfl, hq⟩ := hq); rotate_right)))
theorem timpl1 {cs : List AVal} {m : Im} (hm : ImC I h0 cs m) (a b : Int) {k4 k5 : Nat} (hb : AHeap) (eb : Ext h0 hb) (c4 : Cells I hb (.own k4) 0 [.int .i64 a]) (c5 : Cells I hb (.own k5) 0 [.int .i64 b]) :
    Ret ((AM.lim ⟨P, I, genF P Sh.prims⟩) 54 [.agg cs, .ptr (.own k4) 0, .ptr (.own k5) 0] hb) hb (.bool (dc (m.rec_ = a ∧ m.face = b))) := by
  obtain ⟨w, rfl, r0, r1, sw⟩ := hm
  refine f54.lim rfl (n := 2) ?_
  unfold f54.e
  (repeat' (first | refine Rf (fun hF hG => ?_) (fun hF hG => ?_) | assumption | (show Ext _ _; exact Ext.go) | (simp only [AHeap.next_alloc, AHeap.next_set, AHeap.next_kill, AHeap.next_res] at hle hsame) | simp (disch := first | exact D.go | fail) [setR, List.getElem?_cons_zero, List.getElem?_cons_succ, setR, c4.rd0, c5.rd0, sw.one, *]))
theorem tIdx {v : AVal} {ms : List Im} (sv : SlOf 3 (At I h0 (ImC I h0)) v ms) (a b : Int) {k4 k5 : Nat} (hb : AHeap) (eb : Ext h0 hb) (c4 : Cells I hb (.own k4) 0 [.int .i64 a]) (c5 : Cells I hb (.own k5) 0 [.int .i64 b]) :
    Ret ((AM.lim ⟨P, I, genF P Sh.prims⟩) 53 [v, .func (.func 54) [] [.ptr (.own k4) 0, .ptr (.own k5) 0]] hb) hb (.int .i64 (implFrom a b 0 ms)) := by
  have hL := sv.lt
  obtain ⟨N, hN⟩ := Evt.loop ms (F := fun i n => ∀ h, Ext hb h → Res ((f53.J I (AM.lim ⟨P, I, genF P Sh.prims⟩) (n)).1.2 v (.func (.func 54) [] [.ptr (.own k4) 0, .ptr (.own k5) 0]) (.int .i64 ms.length) (.int .i64 i) h) fun u g => u = .int .i64 (implFrom a b i (ms.drop i)) ∧ Ext hb g) 5
    (Evt.all 5 fun n h e => by
      rw [f53.n1]; unfold f53.b1
      (repeat' (first | refine Rf (fun hF hG => ?_) (fun hF hG => ?_) | assumption | (show Ext _ _; exact Ext.go) | (simp only [AHeap.next_alloc, AHeap.next_set, AHeap.next_kill, AHeap.next_res] at hle hsame) | simp (disch := first | exact D.go | fail) [setR, List.getElem?_cons_zero, List.getElem?_cons_succ, f53.n0, f53.b0, f53.n2, f53.b2, f53.n3, f53.b3, implFrom, *])))
    (fun i x n hx ih h e => by
      obtain ⟨l1, o1, hi, ⟨cs, hm, ha⟩⟩ := sv.at hx
      have hcs : cs.length = 3 := by obtain ⟨w, rfl, _⟩ := hm; rfl
      have hld := fun g e => ha.rds (n := 3) g e hcs (by omega)
      have hlt := lt_of_get hx; have hw := wrap_in (n := (i : Int) + 1) ⟨by omega, by omega⟩; simp only [Int.natCast_add, Int.natCast_one] at ih; rw [drop_of_get hx]; have hlo := e.lo
      rw [f53.n1]; unfold f53.b1
      (repeat' (first | refine Rf (fun hF hG => ?_) (fun hF hG => ?_) | assumption | (show Ext _ _; exact Ext.go) | (simp only [AHeap.next_alloc, AHeap.next_set, AHeap.next_kill, AHeap.next_res] at hle hsame) | simp (disch := first | exact D.go | fail) [setR, List.getElem?_cons_zero, List.getElem?_cons_succ, f53.n0, f53.b0, f53.n2, f53.b2, f53.n3, f53.b3, hi, hld, hw, hlt, implFrom, *] | (refine Ret.thn (h0 := hb) (timpl1 hm a b _ Ext.go (c4.mono Ext.go) (c5.mono Ext.go)) ?_ (fun g hg hlo hle hsame hx => ?_)) | (refine Res.mono (ih _ (by omega) _ ?_) (fun u g hq => ?_); rotate_left; (obtain ⟨rfl, hq⟩ := hq); rotate_right))))
    0 (by omega)
  refine f53.lim rfl (n := N) ?_
  unfold f53.e
  (repeat' (first | refine Rf (fun hF hG => ?_) (fun hF hG => ?_) | assumption | (show Ext _ _; exact Ext.go) | (simp only [AHeap.next_alloc, AHeap.next_set, AHeap.next_kill, AHeap.next_res] at hle hsame) | simp (disch := first | exact D.go | fail) [setR, List.getElem?_cons_zero, List.getElem?_cons_succ, sv.len, *] | (refine Res.mono (hN _ (Nat.le_refl _) _ ?_) (fun u g hq => ?_); rotate_left; (obtain ⟨rfl, hq⟩ := hq); rotate_right)))
theorem tImpl {l : AM.Loc} {o : Nat} {q : Pg} (hq : PgA I h0 l o q) (a b : Int) (hb : AHeap) (eb : Ext h0 hb) : Ret ((AM.lim ⟨P, I, genF P Sh.prims⟩) 31 [.ptr l o, .int .i64 a, .int .i64 b] hb) hb (.int .i64 (implFrom a b 0 q.impls)) := by
  obtain ⟨_, ⟨vr, vs, vf, vi, vu, rfl, rm, sr, ss, sf, si, su⟩, hc⟩ := hq
  have hbl := eb.lo
  have c4 : Cells I ((hb.alloc ⟨[.int .i64 a], true⟩).alloc ⟨[.int .i64 b], true⟩) (.own hb.next) 0 [.int .i64 a] := Cells.own (b := ⟨[.int .i64 a], true⟩) (by simp (disch := first | exact D.go | fail) [setR, List.getElem?_cons_zero, List.getElem?_cons_succ, *]) (by simp; omega) (fun i v hv => by simpa using hv)
  have c5 : Cells I ((hb.alloc ⟨[.int .i64 a], true⟩).alloc ⟨[.int .i64 b], true⟩) (.own (hb.next + 1)) 0 [.int .i64 b] := Cells.own (b := ⟨[.int .i64 b], true⟩) (by simp (disch := first | exact D.go | fail) [setR, List.getElem?_cons_zero, List.getElem?_cons_succ, *]) (by simp) (fun i v hv => by simpa using hv)
  refine f31.lim rfl (n := 2) ?_
  unfold f31.e
  (repeat' (first | refine Rf (fun hF hG => ?_) (fun hF hG => ?_) | assumption | (show Ext _ _; exact Ext.go) | (simp only [AHeap.next_alloc, AHeap.next_set, AHeap.next_kill, AHeap.next_res] at hle hsame) | simp (disch := first | exact D.go | fail) [setR, List.getElem?_cons_zero, List.getElem?_cons_succ, setR, hc.rd0, hc.rd1, hc.rd2, hc.rd3, hc.rd4, hc.rd5, sr.len, ss.len, sf.len, si.len, su.len, *] | (refine Ret.thn (h0 := hb) (tIdx si a b _ Ext.go c4 c5) ?_ (fun g hg hlo hle hsame hx => ?_))))
end
end
end Go.Proofs.YtikjkhddkfkijaaGreatDoor.Tx

set_option linter.unusedSimpArgs false
set_option linter.unusedVariables false
namespace Go.Proofs.YtikjkhddkfkijaaGreatDoor.Tx
noncomputable section
open Go.AM Go.Proofs.YtikjkhddkfkijaaGreatDoor.Sf
section
variable {I : Inp} {h0 : AHeap}
/-! what is known of a program whose names are right -/
structure NOk (q : Pg) : Prop where
  recs : ∀ r ∈ q.recs, AllL (namedP q) r
  sigs : ∀ s ∈ q.sigs, AllL (namedP q) s.params ∧ namedP q s.res
  faces : ∀ f ∈ q.faces, AllL (fun x => inB x q.sigs.length) f
  impls : ∀ m ∈ q.impls, inB m.rec_ q.recs.length ∧ inB m.face q.faces.length ∧ AllL (fun x => inB x q.funcs.length) m.funcs
  sig : ∀ f ∈ q.funcs, inB f.sig q.sigs.length
  regs : ∀ f ∈ q.funcs, AllL (namedP q) f.regs
  code : ∀ f ∈ q.funcs, ∀ b ∈ f.blocks, ∀ i ∈ b.code, instrB q f i = true
  fin : ∀ f ∈ q.funcs, ∀ b ∈ f.blocks, endB f b = true
  main : inB q.main q.funcs.length
theorem bkFrom_none {PI : Ins → Bool} {ok : Bool} {f b : Int} : ∀ (l : List Ins) (k : Nat), bkFrom PI ok f b k l = none → ok = true ∧ ∀ i ∈ l, PI i = true
  | [], k, h => by
    unfold bkFrom at h
    split at h
    · exact ⟨‹_›, by simp⟩
    · cases h
  | i :: r, k, h => by
    unfold bkFrom at h
    split at h
    · obtain ⟨a, b⟩ := bkFrom_none r (k + 1) h
      exact ⟨a, by simpa using ⟨‹_›, b⟩⟩
    · cases h
theorem fuFrom_none {PI : Ins → Bool} {PB : Bk → Bool} {f : Int} : ∀ (l : List Bk) (b : Nat), fuFrom PI PB f b l = none → ∀ x ∈ l, PB x = true ∧ ∀ i ∈ x.code, PI i = true
  | [], b, h => by simp
  | x :: r, b, h => by
    unfold fuFrom at h
    rw [Option.or_eq_none_iff] at h
    have := bkFrom_none _ _ h.1
    have h2 := fuFrom_none r (b + 1) h.2
    intro y hy
    rcases List.mem_cons.1 hy with rfl | hy
    · exact this
    · exact h2 y hy
theorem namesFrom_none {q : Pg} : ∀ (l : List Fu) (i : Nat), namesFrom q i l = none → inB q.main q.funcs.length ∧ ∀ f ∈ l, inB f.sig q.sigs.length ∧ AllL (namedP q) f.regs ∧ ∀ b ∈ f.blocks, endB f b = true ∧ ∀ i ∈ b.code, instrB q f i = true
  | [], i, h => by
    unfold namesFrom at h
    split at h
    · exact ⟨by simpa using ‹dc _ = true›, by simp⟩
    · cases h
  | f :: r, i, h => by
    unfold namesFrom at h
    split at h
    · rename_i hc
      rw [Option.or_eq_none_iff] at h
      obtain ⟨a, b⟩ := namesFrom_none r (i + 1) h.2
      simp only [Bool.and_eq_true, dc_eq_true] at hc
      refine ⟨a, fun g hg => ?_⟩
      rcases List.mem_cons.1 hg with rfl | hg
      · exact ⟨hc.1, hc.2, fuFrom_none _ _ h.1⟩
      · exact b g hg
    · cases h
theorem NOk.of {q : Pg} (h : namesS q = none) : NOk q := by
  unfold namesS at h
  split at h
  · rename_i hl
    obtain ⟨hm, hf⟩ := namesFrom_none _ _ h
    simp only [listsB, Bool.and_eq_true, dc_eq_true] at hl
    exact ⟨hl.1.1.1, hl.1.1.2, hl.1.2, hl.2, fun f x => (hf f x).1, fun f x => (hf f x).2.1, fun f x b y i z => ((hf f x).2.2 b y).2 i z, fun f x b y => ((hf f x).2.2 b y).1, hm⟩
  · cases h
/-! two lists of types -/
def preT : List Ty → List Ty → Prop
  | _, [] => True
  | [], _ :: _ => False
  | x :: xs, t :: ts => tyE x t ∧ preT xs ts
@[simp] theorem preT_nil (xs : List Ty) : preT xs [] = True := by cases xs <;> rfl
theorem preT_take : ∀ (xs ts : List Ty), ts.length ≤ xs.length → preT (xs.take ts.length) ts = preT xs ts
  | xs, [], _ => by simp
  | [], _ :: _, h => by simp at h
  | x :: xs, t :: ts, h => by simp only [List.length_cons, List.take_succ_cons, preT, preT_take xs ts (by simpa using h)]
theorem tEqual {v w : AVal} {xs ys : List Ty} (sv : SlV 2 (At I h0 TyC) v xs) (sw : SlV 2 (At I h0 TyC) w ys) (he : xs.length = ys.length) (hb : AHeap) (eb : Ext h0 hb) : Ret ((AM.lim ⟨P, I, genF P Sh.prims⟩) 55 [v, w] hb) hb (.bool (dc (preT xs ys))) := by
  have hL := sw.lt
  obtain ⟨N, hN⟩ := Evt.loop ys (F := fun i n => ∀ h, Ext hb h → Res ((f55.J I (AM.lim ⟨P, I, genF P Sh.prims⟩) (n)).2.1 v w (.int .i64 ys.length) (.int .i64 i) h) fun u g => u = .bool (dc (preT (xs.drop i) (ys.drop i))) ∧ Ext hb g) 5
    (Evt.all 5 fun n h e => by
      rw [f55.n2]; unfold f55.b2
      (repeat' (first | refine Rf (fun hF hG => ?_) (fun hF hG => ?_) | assumption | (show Ext _ _; exact Ext.go) | (simp only [AHeap.next_alloc, AHeap.next_set, AHeap.next_kill, AHeap.next_res] at hle hsame) | simp (disch := first | exact D.go | fail) [setR, List.getElem?_cons_zero, List.getElem?_cons_succ, f55.n0, f55.b0, f55.n1, f55.b1, f55.n3, f55.b3, f55.n4, f55.b4, *])))
    (fun i x n hx ih h e => by
      obtain ⟨l1, o1, hi, ⟨_, ⟨rfl, q0, q1⟩, ha⟩⟩ := sw.at_ hx
      have hld := fun g e => ha.rds (n := 2) g e rfl (by omega)
      have hlt := lt_of_get hx
      obtain ⟨y, hy⟩ : ∃ y, xs[i]? = some y := ⟨xs[i], List.getElem?_eq_getElem (by omega)⟩
      obtain ⟨l2, o2, hi2, ⟨_, ⟨rfl, q2, q3⟩, ha2⟩⟩ := sv.at_ hy
      have hld2 := fun g e => ha2.rds (n := 2) g e rfl (by omega)
      have hw := wrap_in (n := (i : Int) + 1) ⟨by omega, by omega⟩; simp only [Int.natCast_add, Int.natCast_one] at ih; rw [drop_of_get hx, drop_of_get hy]; have hlo := e.lo
      rw [f55.n2]; unfold f55.b2
      (repeat' (first | refine Rf (fun hF hG => ?_) (fun hF hG => ?_) | assumption | (show Ext _ _; exact Ext.go) | (simp only [AHeap.next_alloc, AHeap.next_set, AHeap.next_kill, AHeap.next_res] at hle hsame) | simp (disch := first | exact D.go | fail) [setR, List.getElem?_cons_zero, List.getElem?_cons_succ, f55.n0, f55.b0, f55.n1, f55.b1, f55.n3, f55.b3, f55.n4, f55.b4, hi, hld, hi2, hld2, hw, hlt, preT, *] | (refine Res.mono (ih _ (by omega) _ ?_) (fun u g hq => ?_); rotate_left; (obtain ⟨rfl, hq⟩ := hq); rotate_right))))
    0 (by omega)
  have hl1 := sv.len
  rw [he] at hl1
  refine f55.lim rfl (n := N + 1) ?_
  unfold f55.e
  (repeat' (first | refine Rf (fun hF hG => ?_) (fun hF hG => ?_) | assumption | (show Ext _ _; exact Ext.go) | (simp only [AHeap.next_alloc, AHeap.next_set, AHeap.next_kill, AHeap.next_res] at hle hsame) | simp (disch := first | exact D.go | fail) [setR, List.getElem?_cons_zero, List.getElem?_cons_succ, hl1, sw.len, f55.n0, f55.b0, *] | (refine Res.mono (hN _ (by omega) _ ?_) (fun u g hq => ?_); rotate_left; (obtain ⟨rfl, hq⟩ := hq); rotate_right)))
def paramsP (q : Pg) (f : Fu) : Prop := preT f.regs (nth q.sigs f.sig ⟨[], ⟨0, 0⟩⟩).params
theorem preT_len : ∀ {xs ts : List Ty}, preT xs ts → ts.length ≤ xs.length
  | _, [], _ => by simp
  | [], _ :: _, h => h.elim
  | x :: xs, t :: ts, h => by simpa using preT_len h.2
theorem tparams {l : AM.Loc} {o : Nat} {q : Pg} (hq : PgA I h0 l o q) {cf : List AVal} {f : Fu} (hf : FuC I h0 cf f) (hs : inB f.sig q.sigs.length) (hb : AHeap) (eb : Ext h0 hb) : Ret ((AM.lim ⟨P, I, genF P Sh.prims⟩) 80 [.ptr l o, .agg cf] hb) hb (.bool (dc (paramsP q f))) := by
  obtain ⟨_, ⟨vr, vs, vf, vi, vu, rfl, rm, sr, ss, sf, si, su⟩, hc⟩ := hq
  obtain ⟨wr, wb, rfl, r0, swr, swb⟩ := hf
  obtain ⟨l1, o1, hi, ⟨_, ⟨w, rfl, sw, q0, q1⟩, ha⟩, _⟩ := ss.atI hs.1 hs.2 ⟨[], ⟨0, 0⟩⟩
  generalize hsg : nth q.sigs f.sig ⟨[], ⟨0, 0⟩⟩ = s at *
  by_cases hle : s.params.length ≤ f.regs.length
  · obtain ⟨u, hu, su'⟩ := swr.cut hle
    have hpt : preT (f.regs.take s.params.length) s.params = preT f.regs s.params := preT_take _ _ hle
    have tE := fun g e => tEqual (hb := g) su' sw.v (by rw [List.length_take, Nat.min_eq_left hle]) e
    simp only [hpt] at tE
    refine f80.lim rfl (n := 2) ?_
    unfold f80.e
    (repeat' (first | refine Rf (fun hF hG => ?_) (fun hF hG => ?_) | assumption | (show Ext _ _; exact Ext.go) | (simp only [AHeap.next_alloc, AHeap.next_set, AHeap.next_kill, AHeap.next_res] at hle hsame) | simp (disch := first | exact D.go | fail) [setR, List.getElem?_cons_zero, List.getElem?_cons_succ, setR, hc.rd0, hc.rd1, hc.rd2, hc.rd3, hc.rd4, hc.rd5, sr.len, ss.len, sf.len, si.len, su.len, hi, ha.rd0, swr.len, sw.len, swr.one, swb.one, hu, paramsP, hsg, *] | (refine Ret.thn (h0 := hb) (tE _ Ext.go) ?_ (fun g hg hlo hle hsame hx => ?_))))
  · have hno : ¬ preT f.regs s.params := fun h => hle (preT_len h)
    refine f80.lim rfl (n := 2) ?_
    unfold f80.e
    (repeat' (first | refine Rf (fun hF hG => ?_) (fun hF hG => ?_) | assumption | (show Ext _ _; exact Ext.go) | (simp only [AHeap.next_alloc, AHeap.next_set, AHeap.next_kill, AHeap.next_res] at hle hsame) | simp (disch := first | exact D.go | fail) [setR, List.getElem?_cons_zero, List.getElem?_cons_succ, setR, hc.rd0, hc.rd1, hc.rd2, hc.rd3, hc.rd4, hc.rd5, sr.len, ss.len, sf.len, si.len, su.len, hi, ha.rd0, swr.len, sw.len, swr.one, swb.one, paramsP, hsg, hno, *]))
end
end
end Go.Proofs.YtikjkhddkfkijaaGreatDoor.Tx

set_option linter.unusedSimpArgs false
set_option linter.unusedVariables false
namespace Go.Proofs.YtikjkhddkfkijaaGreatDoor.Tx
noncomputable section
open Go.AM Go.Proofs.YtikjkhddkfkijaaGreatDoor.Sf
section
variable {I : Inp} {h0 : AHeap}
abbrev fu0 : Fu := ⟨0, [], []⟩
abbrev sg0 : Sg := ⟨[], ⟨0, 0⟩⟩
abbrev ty0 : Ty := ⟨0, 0⟩
theorem tsig {l : AM.Loc} {o : Nat} {q : Pg} (hq : PgA I h0 l o q) {n : Int} (hn : inB n q.funcs.length) (hb : AHeap) (eb : Ext h0 hb) :
    Ret ((AM.lim ⟨P, I, genF P Sh.prims⟩) 117 [.ptr l o, .int .i64 n] hb) hb (.tuple [.int .i64 (nth q.funcs n fu0).sig, .bool (dc (inB (nth q.funcs n fu0).sig q.sigs.length))]) := by
  obtain ⟨_, ⟨vr, vs, vf, vi, vu, rfl, rm, sr, ss, sf, si, su⟩, hc⟩ := hq
  obtain ⟨l1, o1, hi, ⟨_, ⟨wr, wb, rfl, r0, swr, swb⟩, ha⟩, _⟩ := su.atI hn.1 hn.2 fu0
  refine f117.lim rfl (n := 2) ?_
  unfold f117.e
  (repeat' (first | refine Rf (fun hF hG => ?_) (fun hF hG => ?_) | assumption | (show Ext _ _; exact Ext.go) | (simp only [AHeap.next_alloc, AHeap.next_set, AHeap.next_kill, AHeap.next_res] at hle hsame) | simp (disch := first | exact D.go | fail) [setR, List.getElem?_cons_zero, List.getElem?_cons_succ, setR, hc.rd0, hc.rd1, hc.rd2, hc.rd3, hc.rd4, hc.rd5, sr.len, ss.len, sf.len, si.len, su.len, hi, ha.rd0, tin, *]))
def endT (q : Pg) (f : Fu) (b : Bk) : Bool :=
  if b.fin = 2 then dc ((nth f.regs b.reg ty0).kind = 0) else if b.fin = 3 then dc (tyE (nth f.regs b.reg ty0) (nth q.sigs f.sig sg0).res) else true
theorem tends {l : AM.Loc} {o : Nat} {q : Pg} (hq : PgA I h0 l o q) {cf cb : List AVal} {f : Fu} {b : Bk} (hf : FuC I h0 cf f) (hk : BkC I h0 cb b) (hs : inB f.sig q.sigs.length) (he : b.fin = 2 ∨ b.fin = 3 → inB b.reg f.regs.length) (hb : AHeap) (eb : Ext h0 hb) :
    Ret ((AM.lim ⟨P, I, genF P Sh.prims⟩) 84 [.ptr l o, .agg cf, .agg cb] hb) hb (.bool (endT q f b)) := by
  obtain ⟨_, ⟨vr, vs, vf, vi, vu, rfl, rm, sr, ss, sf, si, su⟩, hc⟩ := hq
  obtain ⟨wr, wb, rfl, r0, swr, swb⟩ := hf
  obtain ⟨vc, rfl, sc, _⟩ := hk
  obtain ⟨l1, o1, hi, ⟨_, ⟨w, rfl, sw, q0, q1⟩, ha⟩, _⟩ := ss.atI hs.1 hs.2 sg0
  generalize hsg : nth q.sigs f.sig sg0 = s at *
  by_cases h23 : b.fin = 2 ∨ b.fin = 3
  · have hr := he h23
    obtain ⟨l2, o2, hi2, ⟨_, ⟨rfl, q2, q3⟩, ha2⟩, _⟩ := swr.atI hr.1 hr.2 ty0
    generalize htt : nth f.regs b.reg ty0 = t at *
    have hld := fun g e => ha.rds (n := 3) g e rfl (by omega)
    have hld2 := fun g e => ha2.rds (n := 2) g e rfl (by omega)
    have hs1 : ∀ g, Ext h0 g → rds I g l1 (o1 + 1) 2 = some [.int .i64 s.res.kind, .int .i64 s.res.n] := fun g e => Cells.rds (Cells.sub (d := 1) (ds := [.int .i64 s.res.kind, .int .i64 s.res.n]) ha (fun i v hv => by
      match i with
      | 0 => simpa using hv
      | 1 => simpa using hv
      | i + 2 => simp at hv)) g e rfl (by omega)
    refine f84.lim rfl (n := 2) ?_
    unfold f84.e
    (repeat' (first | refine Rf (fun hF hG => ?_) (fun hF hG => ?_) | assumption | (show Ext _ _; exact Ext.go) | (simp only [AHeap.next_alloc, AHeap.next_set, AHeap.next_kill, AHeap.next_res] at hle hsame) | simp (disch := first | exact D.go | fail) [setR, List.getElem?_cons_zero, List.getElem?_cons_succ, f84.n0, f84.b0, hc.rd0, hc.rd1, hc.rd2, hc.rd3, hc.rd4, hc.rd5, sr.len, ss.len, sf.len, si.len, su.len, hi, hi2, ha2.rd0, hld2, hs1, hsg, htt, endT, swr.one, swb.one, sc.one, *]))
  · obtain ⟨h2, h3⟩ : b.fin ≠ 2 ∧ b.fin ≠ 3 := by omega
    clear h23
    refine f84.lim rfl (n := 2) ?_
    unfold f84.e
    (repeat' (first | refine Rf (fun hF hG => ?_) (fun hF hG => ?_) | assumption | (show Ext _ _; exact Ext.go) | (simp only [AHeap.next_alloc, AHeap.next_set, AHeap.next_kill, AHeap.next_res] at hle hsame) | simp (disch := first | exact D.go | fail) [setR, List.getElem?_cons_zero, List.getElem?_cons_succ, f84.n0, f84.b0, hc.rd0, hc.rd1, hc.rd2, hc.rd3, hc.rd4, hc.rd5, sr.len, ss.len, sf.len, si.len, su.len, endT, swr.one, swb.one, sc.one, *]))
/-! calls -/
def argsT (rg : List Ty) : List Int → List Ty → Prop
  | [], _ => True
  | _ :: _, [] => False
  | a :: r, t :: ts => tyE (nth rg a ty0) t ∧ argsT rg r ts
def callS (f : Fu) (i : Ins) (s : Sg) : Bool := dc (i.args.length = s.params.length) && (dc (tyE (nth f.regs i.dst ty0) s.res) && dc (argsT f.regs i.args s.params))
end
end
end Go.Proofs.YtikjkhddkfkijaaGreatDoor.Tx

set_option linter.unusedSimpArgs false
set_option linter.unusedVariables false
namespace Go.Proofs.YtikjkhddkfkijaaGreatDoor.Tx
noncomputable section
open Go.AM Go.Proofs.YtikjkhddkfkijaaGreatDoor.Sf
section
variable {I : Inp} {h0 : AHeap}
/-! a type ahead of a list of types -/
def tyCells (t : Ty) : List AVal := [.int .i64 t.kind, .int .i64 t.n]
theorem tys_len : ∀ xs : List Ty, (xs.flatMap tyCells).length = xs.length * 2
  | [] => rfl
  | x :: r => by rw [List.flatMap_cons, List.length_append, tys_len r]; simp [tyCells]; omega
theorem tys_one : ∀ xs : List Ty, (xs.flatMap tyCells).all AVal.one = true
  | [] => rfl
  | x :: r => by rw [List.flatMap_cons, List.all_append, tys_one r]; rfl
theorem tys_inv : ∀ (xs : List Ty) (i : Nat) (v : AVal), (xs.flatMap tyCells)[i]? = some v → ∃ j x k, i = j * 2 + k ∧ xs[j]? = some x ∧ (tyCells x)[k]? = some v
  | [], i, v, h => by simp at h
  | x :: r, i, v, h => by
    rw [List.flatMap_cons] at h
    by_cases hi : i < 2
    · rw [List.getElem?_append_left (by simpa [tyCells] using hi)] at h
      exact ⟨0, x, i, by omega, rfl, h⟩
    · rw [List.getElem?_append_right (by simp [tyCells]; omega)] at h
      obtain ⟨j, y, k, e, hy, hv⟩ := tys_inv r _ v h
      exact ⟨j + 1, y, k, by simp [tyCells] at e; omega, by simpa using hy, hv⟩
theorem tys_get : ∀ (xs : List Ty) (i : Nat) (x : Ty) (j : Nat) (v : AVal), xs[i]? = some x → (tyCells x)[j]? = some v → (xs.flatMap tyCells)[i * 2 + j]? = some v
  | [], i, x, j, v, h, _ => by simp at h
  | y :: ys, 0, x, j, v, h, hv => by
    simp at h; subst h
    have hj : j < 2 := by have := (List.getElem?_eq_some_iff.1 hv).1; simpa [tyCells] using this
    rw [List.flatMap_cons, List.getElem?_append_left (by simp [tyCells]; omega)]
    simpa using hv
  | y :: ys, i + 1, x, j, v, h, hv => by
    have := tys_get ys i x j v (by simpa using h) hv
    rw [List.flatMap_cons, List.getElem?_append_right (by simp [tyCells]; omega)]
    rw [show (i + 1) * 2 + j - (tyCells y).length = i * 2 + j by simp [tyCells]; omega]
    exact this
theorem tys_cells {v : AVal} {xs : List Ty} (sv : SlOf 2 (At I h0 TyC) v xs) (g : AHeap) (e : Ext h0 g) (hne : xs ≠ []) : ∃ l o cap, v = .sl l o xs.length cap ∧ AM.rds I g l o (xs.length * 2) = some (xs.flatMap tyCells) := by
  rcases sv with ⟨rfl, rfl⟩ | ⟨l, o, cap, rfl, _, _, hx⟩
  · exact absurd rfl hne
  · refine ⟨l, o, cap, rfl, ?_⟩
    have hl : xs.flatMap tyCells ≠ [] := by
      intro h0
      have h1 := tys_len xs
      rw [h0] at h1
      have h2 := List.length_pos_iff.2 hne
      simp only [List.length_nil] at h1; omega
    have := rds_of (I := I) (g := g) (l := l) (o := o) (vs := xs.flatMap tyCells) hl fun i v hv => by
      obtain ⟨j, x, k, rfl, hx', hk⟩ := tys_inv xs i v hv
      obtain ⟨_, ⟨rfl, _⟩, hc⟩ := hx j x hx'
      have := hc g e k v (by simpa [tyCells] using hk)
      rw [Nat.add_assoc] at this
      exact this
    rw [tys_len] at this
    exact this
theorem tys_new {h : AHeap} {k : Nat} {p : Bool} {xs : List Ty} {cap : Cap} (hk : h.get k = some ⟨xs.flatMap tyCells, p⟩) (hl : k < h.next) (hm : xs.length ≤ 9223372036854775807) (hr : ∀ x ∈ xs, InR x.kind ∧ InR x.n) :
    SlV 2 (At I h TyC) (.sl (.own k) 0 xs.length cap) xs :=
  ⟨rfl, hm, fun {i x} hx => ⟨.own k, 0 + i * 2, pIndexAddr_sl (List.getElem?_eq_some_iff.1 hx).1, tyCells x, ⟨rfl, hr x (List.mem_of_getElem? hx)⟩, Cells.own hk hl fun j v hv => by
    simp only [Nat.zero_add]
    exact tys_get xs i x j v hx hv⟩⟩
theorem tys_rng {v : AVal} {xs : List Ty} (sv : SlOf 2 (At I h0 TyC) v xs) : ∀ x ∈ xs, InR x.kind ∧ InR x.n := by
  intro x hx
  obtain ⟨i, hi⟩ := List.getElem?_of_mem hx
  obtain ⟨l, o, _, _, ⟨_, h⟩, _⟩ := sv.at hi
  exact h
/-- append([]api.Type{t}, l...). -/
theorem app_tys {v : AVal} {t : Ty} {xs : List Ty} {h : AHeap} {k : Nat} (hk : h.get k = some ⟨[.int .i64 t.kind, .int .i64 t.n], true⟩) (hkl : k < h.next) (ht : InR t.kind ∧ InR t.n) (sv : SlOf 2 (At I h0 TyC) v xs) (e : Ext h0 h) (hs : xs.length ≤ 1000000) :
    Res (sAppend I 2 16 (.sl (.own k) 0 1 (.known 1)) v h) fun u g => SlV 2 (At I g TyC) u (t :: xs) ∧ Ext h g := by
  cases xs with
  | nil =>
    have : sAppend I 2 16 (.sl (.own k) 0 1 (.known 1)) v h = some (.sl (.own k) 0 1 (.known 1), h) := by
      rcases sv with ⟨rfl, _⟩ | ⟨l, o, cap, rfl, _, hn, _⟩
      · rfl
      · obtain ⟨b, rfl⟩ := hn.2 rfl
        rfl
    exact ⟨_, _, this, tys_new (xs := [t]) hk hkl (by simp) (by simpa using ht), Ext.refl h⟩
  | cons x xs =>
    obtain ⟨l, o, cap, rfl, hr⟩ := tys_cells sv h e (by simp)
    have ha := tys_one (x :: xs)
    have hb : Nat.ble ((1 + (x :: xs).length) * 16) bigRoom = true := Nat.ble_eq_true_of_le (by simp only [bigRoom]; omega)
    have hb2 : Nat.ble (1 + (x :: xs).length) bigRoom = true := Nat.ble_eq_true_of_le (by simp only [bigRoom]; omega)
    have hc : Nat.ble (1 + (x :: xs).length) 1 = false := by
      cases hx : Nat.ble (1 + (x :: xs).length) 1 with
      | false => rfl
      | true => exact absurd (Nat.le_of_ble_eq_true hx) (by simp)
    have : sAppend I 2 16 (.sl (.own k) 0 1 (.known 1)) (.sl l o (x :: xs).length cap) h = some (.sl (.own h.next) 0 (t :: x :: xs).length (.grown 2), h.alloc ⟨(t :: x :: xs).flatMap tyCells, true⟩) := by
      simp only [sAppend, appendK_eq, appendTo, srcCells, hr]
      simp only [List.length_cons] at hb hb2 hc ⊢
      simp only [ha, hb, hb2, Bool.and_self, hc]
      have h1 : AM.rds I h (.own k) 0 (1 * 2) = some [.int .i64 t.kind, .int .i64 t.n] := by simp [hk]
      simp only [h1]
      simp [show h.room = true from rfl, Nat.add_comm, tyCells]
    exact ⟨_, _, this, tys_new (AHeap.alloc_at (Nb.o rfl)) (by simp) (by simp at hs ⊢; omega) (fun y hy => by
      rcases List.mem_cons.1 hy with rfl | hy
      · exact ht
      · exact tys_rng sv y hy), (Ext.refl h).alloc⟩
/-! is a function a method? -/
def metP (q : Pg) (rec f sig : Int) : Prop :=
  (nth q.sigs (nth q.funcs f fu0).sig sg0).params.length = (nth q.sigs sig sg0).params.length + 1 ∧ preT (nth q.sigs (nth q.funcs f fu0).sig sg0).params (⟨1, rec⟩ :: (nth q.sigs sig sg0).params) ∧ tyE (nth q.sigs (nth q.funcs f fu0).sig sg0).res (nth q.sigs sig sg0).res
theorem tEqual_ne {v w : AVal} {xs ys : List Ty} (sv : SlV 2 (At I h0 TyC) v xs) (sw : SlV 2 (At I h0 TyC) w ys) (he : xs.length ≠ ys.length) (hb : AHeap) : Ret ((AM.lim ⟨P, I, genF P Sh.prims⟩) 55 [v, w] hb) hb (.bool false) := by
  have h1 := sv.len
  have h2 := sw.len
  have h3 : ¬ (xs.length : Int) = ys.length := by omega
  refine f55.lim rfl (n := 1) ?_
  unfold f55.e
  (repeat' (first | refine Rf (fun hF hG => ?_) (fun hF hG => ?_) | assumption | (show Ext _ _; exact Ext.go) | (simp only [AHeap.next_alloc, AHeap.next_set, AHeap.next_kill, AHeap.next_res] at hle hsame) | simp (disch := first | exact D.go | fail) [setR, List.getElem?_cons_zero, List.getElem?_cons_succ, h1, h2, he, h3, *]))
theorem tmethod {l : AM.Loc} {o : Nat} {q : Pg} (hq : PgA I h0 l o q) (hsm : ∀ s ∈ q.sigs, s.params.length ≤ 1000) {rec f sig : Int} (hr : InR rec) (hf : inB f q.funcs.length) (hfs : inB (nth q.funcs f fu0).sig q.sigs.length) (hs : inB sig q.sigs.length) (hb : AHeap) (eb : Ext h0 hb) :
    Ret ((AM.lim ⟨P, I, genF P Sh.prims⟩) 32 [.ptr l o, .int .i64 rec, .int .i64 f, .int .i64 sig] hb) hb (.bool (dc (metP q rec f sig))) := by
  obtain ⟨_, ⟨vr, vs, vf, vi, vu, rfl, rm, sr, ss, sf, si, su⟩, hc⟩ := hq
  obtain ⟨l1, o1, hi, ⟨_, ⟨wr, wb, rfl, r0, swr, swb⟩, ha⟩, _⟩ := su.atI hf.1 hf.2 fu0
  obtain ⟨l2, o2, hi2, ⟨_, ⟨w2, rfl, sw2, a20, a21⟩, ha2⟩, hm2⟩ := ss.atI hfs.1 hfs.2 sg0
  obtain ⟨l3, o3, hi3, ⟨_, ⟨w3, rfl, sw3, a30, a31⟩, ha3⟩, hm3⟩ := ss.atI hs.1 hs.2 sg0
  have hld2 := fun g e => ha2.rds (n := 3) g e rfl (by omega)
  have hld3 := fun g e => ha3.rds (n := 3) g e rfl (by omega)
  have p2 := hsm _ hm2
  have p3 := hsm _ hm3
  unfold metP
  generalize nth q.sigs (nth q.funcs f fu0).sig sg0 = s2 at *
  generalize nth q.sigs sig sg0 = s3 at *
  have o2' := sw2.one
  have o3' := sw3.one
  have e2' := sw2.self
  have e3' := sw3.self
  refine f32.lim rfl (n := 1) ?_
  unfold f32.e
  (repeat' (first | refine Rf (fun hF hG => ?_) (fun hF hG => ?_) | assumption | (show Ext _ _; exact Ext.go) | (simp only [AHeap.next_alloc, AHeap.next_set, AHeap.next_kill, AHeap.next_res] at hle hsame) | simp (disch := first | exact D.go | fail) [setR, List.getElem?_cons_zero, List.getElem?_cons_succ, hc.rd0, hc.rd1, hc.rd2, hc.rd3, hc.rd4, hc.rd5, sr.len, ss.len, sf.len, si.len, su.len, sr.self, ss.self, sf.self, si.self, su.self, hi, ha.rd0, hi2, hld2, hi3, hld3, o2', o3', e2', e3', *]))
  have xH : Ext hb ((((((hb.rsv 2).set hb.next ⟨[.nils, Z 0, Z 0], true⟩).set (hb.next + 1) ⟨[.nils, Z 0, Z 0], true⟩).set hb.next ⟨[w2, .int .i64 s2.res.kind, .int .i64 s2.res.n], true⟩).set (hb.next + 1) ⟨[w3, .int .i64 s3.res.kind, .int .i64 s3.res.n], true⟩).alloc ⟨[.int .i64 1, .int .i64 rec], true⟩) :=
    ((((((Ext.refl hb).res).set (Nb.o (by omega))).set (Nb.o (by omega))).set (Nb.o (by omega))).set (Nb.o (by omega))).alloc
  refine Res.after (app_tys (k := hb.next + 2) (t := ⟨1, rec⟩) (AHeap.alloc_at (by exact Nb.o (by simp))) (by simp) ⟨⟨by show (-9223372036854775808 : Int) ≤ 1; decide, by show (1 : Int) < 9223372036854775808; decide⟩, hr⟩ sw3 (eb.trans xH) (by omega)) (fun u g hA => ?_)
  have xg : Ext hb g := xH.trans hA.2
  have k9 : g.get hb.next = some ⟨[w2, .int .i64 s2.res.kind, .int .i64 s2.res.n], true⟩ := (hA.2.same _ (by simp; omega)).trans (by
    rw [AHeap.alloc_ne (Nb.o (by simp)), AHeap.set_ne (Nb.o (by omega)), AHeap.set_at (Nb.o rfl)])
  have k10 : g.get (hb.next + 1) = some ⟨[w3, .int .i64 s3.res.kind, .int .i64 s3.res.n], true⟩ := (hA.2.same _ (by simp)).trans (by
    rw [AHeap.alloc_ne (Nb.o (by simp)), AHeap.set_at (Nb.o rfl)])
  have sv2 : SlV 2 (At I g TyC) w2 s2.params := (sw2.mono fun _ _ _ h => TyA.mono h (eb.trans xg)).v
  have hx := hA.2
  by_cases he : s2.params.length = s3.params.length + 1
  · obtain ⟨_, g3, c3, rfl, x3⟩ := tEqual (hb := g) sv2 hA.1 (by simpa using he) (Ext.refl g)
    have k9' := (x3.same hb.next (by have := xg.lo; have := hA.2.lo; simp at this; omega)).trans k9
    have k10' := (x3.same (hb.next + 1) (by have := hA.2.lo; simp at this; omega)).trans k10
    have xg3 : Ext hb g3 := xg.trans x3
    (repeat' (first | refine Rf (fun hF hG => ?_) (fun hF hG => ?_) | assumption | (show Ext _ _; exact Ext.go) | (simp only [AHeap.next_alloc, AHeap.next_set, AHeap.next_kill, AHeap.next_res] at hle hsame) | simp (disch := first | exact D.go | fail) [setR, List.getElem?_cons_zero, List.getElem?_cons_succ, k9, k10, k9', k10', c3, he, tyE, *]))
  · obtain ⟨_, g3, c3, rfl, x3⟩ := tEqual_ne (hb := g) sv2 hA.1 (by simpa using he)
    have xg3 : Ext hb g3 := xg.trans x3
    (repeat' (first | refine Rf (fun hF hG => ?_) (fun hF hG => ?_) | assumption | (show Ext _ _; exact Ext.go) | (simp only [AHeap.next_alloc, AHeap.next_set, AHeap.next_kill, AHeap.next_res] at hle hsame) | simp (disch := first | exact D.go | fail) [setR, List.getElem?_cons_zero, List.getElem?_cons_succ, k9, k10, c3, he, *]))
end
end
end Go.Proofs.YtikjkhddkfkijaaGreatDoor.Tx

set_option linter.unusedSimpArgs false
set_option linter.unusedVariables false
namespace Go.Proofs.YtikjkhddkfkijaaGreatDoor.Tx
noncomputable section
open Go.AM Go.Proofs.YtikjkhddkfkijaaGreatDoor.Sf
section
variable {I : Inp} {h0 : AHeap}
/-! the methods of all -/
def pairP (q : Pg) (rec : Int) : List Int → List Int → Prop
  | x :: xs, y :: ys => metP q rec x y ∧ pairP q rec xs ys
  | _, _ => True
def imOk (q : Pg) (i : Nat) (m : Im) : Prop := m.funcs.length = (nth q.faces m.face []).length ∧ implFrom m.rec_ m.face 0 q.impls = i ∧ pairP q m.rec_ m.funcs (nth q.faces m.face [])
def metsP (q : Pg) : Nat → List Im → Prop
  | _, [] => True
  | i, m :: r => imOk q i m ∧ metsP q (i + 1) r
theorem rMethods {l : AM.Loc} {o : Nat} {q : Pg} (hq : PgA I h0 l o q) (hN : NOk q) (hsm : ∀ s ∈ q.sigs, s.params.length ≤ 1000) (hb : AHeap) (eb : Ext h0 hb) : Ret ((AM.lim ⟨P, I, genF P Sh.prims⟩) 17 [.ptr l o] hb) hb (.bool (dc (metsP q 0 q.impls))) := by
  have hq' := hq
  obtain ⟨_, ⟨vr, vs, vf, vi, vu, rfl, rm, sr, ss, sf, si, su⟩, hc⟩ := hq
  have li := si.lt
  obtain ⟨N, hM⟩ := Evt.loop' q.impls (F := fun i n => ∀ h, Ext hb h → Res ((f17.J I (AM.lim ⟨P, I, genF P Sh.prims⟩) (n)).1.1.2.1 (.ptr l o) (.int .i64 i) h) fun u g => u = .bool (dc (metsP q i (q.impls.drop i))) ∧ Ext hb g)
    (Evt.all 5 fun n h e => by
      rw [f17.n1]; unfold f17.b1
      (repeat' (first | refine Rf (fun hF hG => ?_) (fun hF hG => ?_) | assumption | (show Ext _ _; exact Ext.go) | (simp only [AHeap.next_alloc, AHeap.next_set, AHeap.next_kill, AHeap.next_res] at hle hsame) | simp (disch := first | exact D.go | fail) [setR, List.getElem?_cons_zero, List.getElem?_cons_succ, f17.n0, f17.b0, hc.rd0, hc.rd1, hc.rd2, hc.rd3, hc.rd4, hc.rd5, sr.len, ss.len, sf.len, si.len, su.len, sr.self, ss.self, sf.self, si.self, su.self, metsP, *])))
    (fun i m hx hfo => by
      have hmem := List.mem_of_getElem? hx
      obtain ⟨lm, om, hmi, ⟨_, ⟨wf, rfl, mr, mf, swf⟩, hmc⟩⟩ := si.at hx
      have hlt := lt_of_get hx; have hw := wrap_in (n := (i : Int) + 1) ⟨by omega, by omega⟩
      simp only [Int.natCast_add, Int.natCast_one] at hfo
      obtain ⟨hi1, hi2, hi3⟩ := hN.impls m hmem
      obtain ⟨lf, of, hfi, ⟨_, ⟨wfc, rfl, swc⟩, hfc⟩, hfm⟩ := sf.atI hi2.1 hi2.2 []
      have hi4 := hN.faces _ hfm
      have hld := fun g e => hmc.rds (n := 3) g e rfl (by omega)
      have owf := swf.one
      have ewf := swf.self
      have lwf := swf.len
      have lwc := swc.len
      have nwc := swc.lt
      have hI := fun g e => rImpl hq' m.rec_ m.face g e
      rw [drop_of_get hx]
      generalize hsg : nth q.faces m.face [] = sgs at *
      by_cases hlen : m.funcs.length = sgs.length
      · by_cases him : implFrom m.rec_ m.face 0 q.impls = i
        · have hgoal : metsP q i (m :: q.impls.drop (i + 1)) = (pairP q m.rec_ m.funcs sgs ∧ metsP q (i + 1) (q.impls.drop (i + 1))) := by
            simp only [metsP, imOk, hsg, hlen, him, true_and]
          have inner := Evt.loop' sgs (F := fun k n => ∀ k4 h, h.get k4 = some ⟨[.int .i64 m.rec_, .int .i64 m.face, wf], true⟩ → k4 < h.next → Ext hb h → Res ((f17.J I (AM.lim ⟨P, I, genF P Sh.prims⟩) (n)).1.2.2.2 (.ptr l o) (.int .i64 i) (.ptr (.own k4) 0) wfc (.int .i64 k) h) fun u g =>
              u = .bool (dc (pairP q m.rec_ (m.funcs.drop k) (sgs.drop k)) && dc (metsP q (i + 1) (q.impls.drop (i + 1)))) ∧ Ext hb g)
            (Evt.step 5 hfo fun n hn k4 h hk hkl e => by
              have hlo := e.lo
              have hn' := fun m hm => hn m hm h e
              have hp : pairP q m.rec_ (m.funcs.drop sgs.length) (sgs.drop sgs.length) := by
                rw [List.drop_length]; cases m.funcs.drop sgs.length <;> exact trivial
              simp only [hp, dc_true, Bool.true_and]
              rw [f17.n5]; unfold f17.b5
              (repeat' (first | refine Rf (fun hF hG => ?_) (fun hF hG => ?_) | assumption | (show Ext _ _; exact Ext.go) | (simp only [AHeap.next_alloc, AHeap.next_set, AHeap.next_kill, AHeap.next_res] at hle hsame) | simp (disch := first | exact D.go | fail) [setR, List.getElem?_cons_zero, List.getElem?_cons_succ, f17.n3, f17.b3, lwc, hw, *])))
            (fun k y hy hko => by
              obtain ⟨x, hxk⟩ : ∃ x, m.funcs[k]? = some x := ⟨_, List.getElem?_eq_getElem (by have := lt_of_get hy; omega)⟩
              have hlk := lt_of_get hy
              have hwk := wrap_in (n := (k : Int) + 1) ⟨by omega, by omega⟩
              simp only [Int.natCast_add, Int.natCast_one] at hko
              have hxf : inB x q.funcs.length := hi3 x (List.mem_of_getElem? hxk)
              have hyf : inB y q.sigs.length := hi4 y (List.mem_of_getElem? hy)
              obtain ⟨l1, o1, hxi, ⟨_, ⟨wr, wb, rfl, r0, swr, swb⟩, ha⟩, hfm1⟩ := su.atI hxf.1 hxf.2 fu0
              have hfs := hN.sig _ hfm1
              obtain ⟨l2, o2, hi2', ⟨_, ⟨w2, rfl, sw2, a20, a21⟩, ha2⟩, hm2⟩ := ss.atI hfs.1 hfs.2 sg0
              obtain ⟨l3, o3, hi3', ⟨_, ⟨w3, rfl, sw3, a30, a31⟩, ha3⟩, hm3⟩ := ss.atI hyf.1 hyf.2 sg0
              have hld2 := fun g e => ha2.rds (n := 3) g e rfl (by omega)
              have hld3 := fun g e => ha3.rds (n := 3) g e rfl (by omega)
              have p2 := hsm _ hm2
              have p3 := hsm _ hm3
              obtain ⟨lx, ox, hxa, hxc⟩ := swf.at hxk
              obtain ⟨hxc, _⟩ := hxc.int
              obtain ⟨ly, oy, hya, hyc⟩ := swc.at hy
              obtain ⟨hyc, _⟩ := hyc.int
              have hpr : pairP q m.rec_ (m.funcs.drop k) (sgs.drop k) = (metP q m.rec_ x y ∧ pairP q m.rec_ (m.funcs.drop (k + 1)) (sgs.drop (k + 1))) := by rw [drop_of_get hxk, drop_of_get hy]; rfl
              rw [hpr]
              unfold metP
              generalize nth q.sigs (nth q.funcs x fu0).sig sg0 = s2 at *
              generalize nth q.sigs y sg0 = s3 at *
              have o2' := sw2.one
              have o3' := sw3.one
              have e2' := sw2.self
              have e3' := sw3.self
              have y2 := sw2.len
              have y3 := sw3.len
              by_cases h1 : s2.params.length = s3.params.length + 1
              · have h1' : (s2.params.length : Int) = (s3.params.length : Int) + 1 := by omega
                have hw3 := wrap_in (n := (s3.params.length : Int) + 1) ⟨by omega, by omega⟩
                obtain ⟨a, ar, hsa⟩ : ∃ a ar, s2.params = a :: ar := by
                  cases hp : s2.params with
                  | nil => rw [hp] at h1; simp at h1
                  | cons a ar => exact ⟨a, ar, rfl⟩
                have hasl : ar.length = s3.params.length := by rw [hsa] at h1; simpa using h1
                obtain ⟨lz, oz, hza, ⟨_, ⟨rfl, _⟩, hzc⟩⟩ := sw2.at (i := 0) (x := a) (by rw [hsa]; rfl)
                have hza' : pIndexAddr 2 w2 (Z 0) = some (.ptr lz oz) := hza
                have hldz := fun g e => hzc.rds (n := 2) g e rfl (by omega)
                have hR1 := fun g => req (I := I) a ⟨1, m.rec_⟩ g
                have hR2 := fun g => req (I := I) s2.res s3.res g
                have inn := Evt.loop s3.params (F := fun j n => ∀ k4 k7 k8 h, h.get k4 = some ⟨[.int .i64 m.rec_, .int .i64 m.face, wf], true⟩ → k4 < h.next → h.get k7 = some ⟨[w2, .int .i64 s2.res.kind, .int .i64 s2.res.n], true⟩ → k7 < h.next →
                    h.get k8 = some ⟨[w3, .int .i64 s3.res.kind, .int .i64 s3.res.n], true⟩ → k8 < h.next → Ext hb h →
                    Res ((f17.J I (AM.lim ⟨P, I, genF P Sh.prims⟩) (n)).2.2.1 (.ptr l o) (.int .i64 i) (.ptr (.own k4) 0) wfc (.int .i64 k) (.ptr (.own k7) 0) (.ptr (.own k8) 0) (.int .i64 j) h) fun u g =>
                    u = .bool (dc (preT (ar.drop j) (s3.params.drop j)) && (dc (pairP q m.rec_ (m.funcs.drop (k + 1)) (sgs.drop (k + 1))) && dc (metsP q (i + 1) (q.impls.drop (i + 1))))) ∧ Ext hb g) 8
                  (Evt.step 8 hko fun n hn k4 k7 k8 h hk hkl hk7 hkl7 hk8 hkl8 e => by
                    have hlo := e.lo
                    have hn' := fun m hm => hn m hm k4 h hk hkl e
                    simp only [List.drop_length, preT_nil, dc_true, Bool.true_and]
                    rw [f17.n9]; unfold f17.b9
                    (repeat' (first | refine Rf (fun hF hG => ?_) (fun hF hG => ?_) | assumption | (show Ext _ _; exact Ext.go) | (simp only [AHeap.next_alloc, AHeap.next_set, AHeap.next_kill, AHeap.next_res] at hle hsame) | simp (disch := first | exact D.go | fail) [setR, List.getElem?_cons_zero, List.getElem?_cons_succ, f17.n7, f17.b7, hk8, y3, hwk, *])))
                  (fun j z n hz ih k4 k7 k8 h hk hkl hk7 hkl7 hk8 hkl8 e => by
                    have hlj := lt_of_get hz
                    have hwj := wrap_in (n := (j : Int) + 1) ⟨by omega, by omega⟩
                    simp only [Int.natCast_add, Int.natCast_one] at ih
                    obtain ⟨z2, hz2⟩ : ∃ z2, ar[j]? = some z2 := ⟨_, List.getElem?_eq_getElem (by omega)⟩
                    obtain ⟨lu, ou, hua, ⟨_, ⟨rfl, _⟩, huc⟩⟩ := sw2.at (i := j + 1) (x := z2) (by rw [hsa]; simpa using hz2)
                    have hua' : pIndexAddr 2 w2 (.int .i64 ((j : Int) + 1)) = some (.ptr lu ou) := by simpa using hua
                    obtain ⟨lv, ov, hva, ⟨_, ⟨rfl, _⟩, hvc⟩⟩ := sw3.at hz
                    have hldu := fun g e => huc.rds (n := 2) g e rfl (by omega)
                    have hldv := fun g e => hvc.rds (n := 2) g e rfl (by omega)
                    have hR3 := fun g => req (I := I) z2 z g
                    rw [drop_of_get hz, drop_of_get hz2]
                    have hlo := e.lo
                    rw [f17.n9]; unfold f17.b9
                    by_cases ht : tyE z2 z
                    · simp only [preT, ht, true_and]
                      (repeat' (first | refine Rf (fun hF hG => ?_) (fun hF hG => ?_) | assumption | (show Ext _ _; exact Ext.go) | (simp only [AHeap.next_alloc, AHeap.next_set, AHeap.next_kill, AHeap.next_res] at hle hsame) | simp (disch := first | exact D.go | fail) [setR, List.getElem?_cons_zero, List.getElem?_cons_succ, f17.n10, f17.b10, f17.n11, f17.b11, hk7, hk8, y3, hlj, hwj, hua', hva, hldu, hldv, ht, *] | (refine Ret.thn (h0 := hb) (hR3 _) ?_ (fun g hg hlo hle hsame hx => ?_))))
                      exact ih _ (by omega) k4 k7 k8 g ((hsame k4 hkl).trans hk) (by omega) ((hsame k7 hkl7).trans hk7) (by omega) ((hsame k8 hkl8).trans hk8) (by omega) hg
                    · simp only [preT, ht, false_and, dc_false, Bool.false_and]
                      (repeat' (first | refine Rf (fun hF hG => ?_) (fun hF hG => ?_) | assumption | (show Ext _ _; exact Ext.go) | (simp only [AHeap.next_alloc, AHeap.next_set, AHeap.next_kill, AHeap.next_res] at hle hsame) | simp (disch := first | exact D.go | fail) [setR, List.getElem?_cons_zero, List.getElem?_cons_succ, f17.n10, f17.b10, hk7, hk8, y3, hlj, hwj, hua', hva, hldu, hldv, ht, *] | (refine Ret.thn (h0 := hb) (hR3 _) ?_ (fun g hg hlo hle hsame hx => ?_)))))
                  0 (by omega)
                refine Evt.step 8 inn fun n hn k4 h hk hkl e => ?_
                have hlo := e.lo
                have hn' := fun m hm k4 k7 k8 g a1 a2 a3 a4 a5 a6 a7 => hn m hm k4 k7 k8 g a1 a2 a3 a4 a5 a6 a7
                simp only [List.drop_zero] at hn'
                rw [hsa]
                by_cases h2 : tyE a ⟨1, m.rec_⟩
                · by_cases h3 : tyE s2.res s3.res
                  · have hlc : (a :: ar).length = s3.params.length + 1 := by simpa using hasl
                    simp only [preT, hlc, h2, h3, true_and, and_true]
                    rw [f17.n5]; unfold f17.b5
                    (repeat' (first | refine Rf (fun hF hG => ?_) (fun hF hG => ?_) | assumption | (show Ext _ _; exact Ext.go) | (simp only [AHeap.next_alloc, AHeap.next_set, AHeap.next_kill, AHeap.next_res] at hle hsame) | simp (disch := first | exact D.go | fail) [setR, List.getElem?_cons_zero, List.getElem?_cons_succ, f17.n6, f17.b6, f17.n8, f17.b8, hc.rd0, hc.rd1, hc.rd2, hc.rd3, hc.rd4, hc.rd5, sr.len, ss.len, sf.len, si.len, su.len, sr.self, ss.self, sf.self, si.self, su.self, lwc, hlk, hk, hxa, hxc, hxi, ha.rd0, hi2', hld2, hya, hyc, hi3', hld3, o2', o3', e2', e3', y2, y3, h1, h1', hw3, ewf, hza', hldz, h2, h3, *] | (refine Ret.thn (h0 := hb) (hR1 _) ?_ (fun g hg hlo hle hsame hx => ?_)) | (refine Ret.thn (h0 := hb) (hR2 _) ?_ (fun g hg hlo hle hsame hx => ?_))))
                    have xg : Ext (((((h.rsv 2).set h.next ⟨[.nils, Z 0, Z 0], true⟩).set (h.next + 1) ⟨[.nils, Z 0, Z 0], true⟩).set h.next ⟨[w2, .int .i64 s2.res.kind, .int .i64 s2.res.n], true⟩).set (h.next + 1) ⟨[w3, .int .i64 s3.res.kind, .int .i64 s3.res.n], true⟩) g := Ext.go
                    have xl := xg.lo
                    simp at xl
                    rw [Bool.and_assoc]
                    refine hn' _ (by omega) k4 h.next (h.next + 1) g ((xg.same k4 (by simp; omega)).trans ?_) (by omega) ((xg.same h.next (by simp)).trans ?_) (by omega) ((xg.same (h.next + 1) (by simp)).trans ?_) (by omega) hg
                    · rw [AHeap.set_ne (Nb.o (by omega)), AHeap.set_ne (Nb.o (by omega)), AHeap.set_ne (Nb.o (by omega)), AHeap.set_ne (Nb.o (by omega)), AHeap.get_res]; exact hk
                    · rw [AHeap.set_ne (Nb.o (by omega)), AHeap.set_at (Nb.o rfl)]
                    · rw [AHeap.set_at (Nb.o rfl)]
                  · simp only [h3, and_false, false_and, dc_false, Bool.false_and]
                    rw [f17.n5]; unfold f17.b5
                    (repeat' (first | refine Rf (fun hF hG => ?_) (fun hF hG => ?_) | assumption | (show Ext _ _; exact Ext.go) | (simp only [AHeap.next_alloc, AHeap.next_set, AHeap.next_kill, AHeap.next_res] at hle hsame) | simp (disch := first | exact D.go | fail) [setR, List.getElem?_cons_zero, List.getElem?_cons_succ, f17.n6, f17.b6, f17.n8, f17.b8, hc.rd0, hc.rd1, hc.rd2, hc.rd3, hc.rd4, hc.rd5, sr.len, ss.len, sf.len, si.len, su.len, sr.self, ss.self, sf.self, si.self, su.self, lwc, hlk, hk, hxa, hxc, hxi, ha.rd0, hi2', hld2, hya, hyc, hi3', hld3, o2', o3', e2', e3', y2, y3, h1, h1', hw3, ewf, hza', hldz, h2, h3, *] | (refine Ret.thn (h0 := hb) (hR1 _) ?_ (fun g hg hlo hle hsame hx => ?_)) | (refine Ret.thn (h0 := hb) (hR2 _) ?_ (fun g hg hlo hle hsame hx => ?_))))
                · simp only [preT, h2, and_false, false_and, dc_false, Bool.false_and]
                  rw [f17.n5]; unfold f17.b5
                  (repeat' (first | refine Rf (fun hF hG => ?_) (fun hF hG => ?_) | assumption | (show Ext _ _; exact Ext.go) | (simp only [AHeap.next_alloc, AHeap.next_set, AHeap.next_kill, AHeap.next_res] at hle hsame) | simp (disch := first | exact D.go | fail) [setR, List.getElem?_cons_zero, List.getElem?_cons_succ, f17.n6, f17.b6, f17.n8, f17.b8, hc.rd0, hc.rd1, hc.rd2, hc.rd3, hc.rd4, hc.rd5, sr.len, ss.len, sf.len, si.len, su.len, sr.self, ss.self, sf.self, si.self, su.self, lwc, hlk, hk, hxa, hxc, hxi, ha.rd0, hi2', hld2, hya, hyc, hi3', hld3, o2', o3', e2', e3', y2, y3, h1, h1', hw3, ewf, hza', hldz, h2, *] | (refine Ret.thn (h0 := hb) (hR1 _) ?_ (fun g hg hlo hle hsame hx => ?_)) | (refine Ret.thn (h0 := hb) (hR2 _) ?_ (fun g hg hlo hle hsame hx => ?_))))
              · have h1' : ¬ (s2.params.length : Int) = (s3.params.length : Int) + 1 := by omega
                have hw3 := wrap_in (n := (s3.params.length : Int) + 1) ⟨by omega, by omega⟩
                simp only [h1, false_and, dc_false, Bool.false_and]
                refine Evt.all 5 fun n k4 h hk hkl e => ?_
                have hlo := e.lo
                rw [f17.n5]; unfold f17.b5
                (repeat' (first | refine Rf (fun hF hG => ?_) (fun hF hG => ?_) | assumption | (show Ext _ _; exact Ext.go) | (simp only [AHeap.next_alloc, AHeap.next_set, AHeap.next_kill, AHeap.next_res] at hle hsame) | simp (disch := first | exact D.go | fail) [setR, List.getElem?_cons_zero, List.getElem?_cons_succ, f17.n6, f17.b6, hc.rd0, hc.rd1, hc.rd2, hc.rd3, hc.rd4, hc.rd5, sr.len, ss.len, sf.len, si.len, su.len, sr.self, ss.self, sf.self, si.self, su.self, lwc, hlk, hk, hxa, hxc, hxi, ha.rd0, hi2', hld2, hya, hyc, hi3', hld3, o2', o3', e2', e3', y2, y3, h1, h1', hw3, ewf, *])))
            0 (by omega)
          refine Evt.step 5 inner fun n hn h e => ?_
          have hlo := e.lo
          rw [hgoal]
          rw [f17.n1]; unfold f17.b1
          (repeat' (first | refine Rf (fun hF hG => ?_) (fun hF hG => ?_) | assumption | (show Ext _ _; exact Ext.go) | (simp only [AHeap.next_alloc, AHeap.next_set, AHeap.next_kill, AHeap.next_res] at hle hsame) | simp (disch := first | exact D.go | fail) [setR, List.getElem?_cons_zero, List.getElem?_cons_succ, f17.n2, f17.b2, f17.n4, f17.b4, hc.rd0, hc.rd1, hc.rd2, hc.rd3, hc.rd4, hc.rd5, sr.len, ss.len, sf.len, si.len, su.len, sr.self, ss.self, sf.self, si.self, su.self, hlt, hmi, hld, owf, lwf, lwc, hfi, hfc.rd0, hlen, him, *] | (refine Ret.thn (h0 := hb) (hI _ Ext.go) ?_ (fun g hg hlo hle hsame hx => ?_))))
          have hn' := hn _ (Nat.le_add_right n 2) h.next g ((hsame _ (by omega)).trans (AHeap.set_at (Nb.o rfl))) (by omega) hg
          simp only [List.drop_zero] at hn'
          exact hn'
        · have hgoal : metsP q i (m :: q.impls.drop (i + 1)) = False := by
            simp only [metsP, imOk, him, false_and, and_false]
          refine Evt.all 5 fun n h e => ?_
          have hlo := e.lo
          rw [hgoal]
          rw [f17.n1]; unfold f17.b1
          (repeat' (first | refine Rf (fun hF hG => ?_) (fun hF hG => ?_) | assumption | (show Ext _ _; exact Ext.go) | (simp only [AHeap.next_alloc, AHeap.next_set, AHeap.next_kill, AHeap.next_res] at hle hsame) | simp (disch := first | exact D.go | fail) [setR, List.getElem?_cons_zero, List.getElem?_cons_succ, f17.n2, f17.b2, hc.rd0, hc.rd1, hc.rd2, hc.rd3, hc.rd4, hc.rd5, sr.len, ss.len, sf.len, si.len, su.len, sr.self, ss.self, sf.self, si.self, su.self, hlt, hmi, hld, owf, lwf, lwc, hfi, hfc.rd0, hlen, him, *] | (refine Ret.thn (h0 := hb) (hI _ Ext.go) ?_ (fun g hg hlo hle hsame hx => ?_))))
      · have hgoal : metsP q i (m :: q.impls.drop (i + 1)) = False := by
          simp only [metsP, imOk, hsg, hlen, false_and]
        refine Evt.all 5 fun n h e => ?_
        have hlo := e.lo
        rw [hgoal]
        rw [f17.n1]; unfold f17.b1
        have hlen' : ¬ (m.funcs.length : Int) = sgs.length := by omega
        (repeat' (first | refine Rf (fun hF hG => ?_) (fun hF hG => ?_) | assumption | (show Ext _ _; exact Ext.go) | (simp only [AHeap.next_alloc, AHeap.next_set, AHeap.next_kill, AHeap.next_res] at hle hsame) | simp (disch := first | exact D.go | fail) [setR, List.getElem?_cons_zero, List.getElem?_cons_succ, f17.n2, f17.b2, hc.rd0, hc.rd1, hc.rd2, hc.rd3, hc.rd4, hc.rd5, sr.len, ss.len, sf.len, si.len, su.len, sr.self, ss.self, sf.self, si.self, su.self, hlt, hmi, hld, owf, lwf, lwc, hfi, hfc.rd0, hlen, hlen', *])))
    0 (by omega)
  refine f17.lim rfl (n := N) ?_
  unfold f17.e
  have := hM N (Nat.le_refl _) hb (Ext.refl hb)
  (repeat' (first | refine Rf (fun hF hG => ?_) (fun hF hG => ?_) | assumption | (show Ext _ _; exact Ext.go) | (simp only [AHeap.next_alloc, AHeap.next_set, AHeap.next_kill, AHeap.next_res] at hle hsame) | simp (disch := first | exact D.go | fail) [setR, List.getElem?_cons_zero, List.getElem?_cons_succ, setR, *]))
end
end
end Go.Proofs.YtikjkhddkfkijaaGreatDoor.Tx

set_option linter.unusedSimpArgs false
set_option linter.unusedVariables false
namespace Go.Proofs.YtikjkhddkfkijaaGreatDoor.Tx
noncomputable section
open Go.AM Go.Proofs.YtikjkhddkfkijaaGreatDoor.Sf
section
variable {I : Inp} {h0 : AHeap}
def MPost (I : Inp) (b : Bool) (u : AVal) (g : AHeap) : Prop := (b = true → u = .nili) ∧ (b = false → ErrIs I g 7 noPt u)
theorem MPost_nil {g : AHeap} : MPost I true .nili g := ⟨fun _ => rfl, fun h => absurd h (by simp)⟩
theorem MPost_err {g : AHeap} {u : AVal} (h : ErrIs I g 7 noPt u) : MPost I false u g := ⟨fun h => absurd h (by simp), fun _ => h⟩
theorem min_two (a b : Nat) : pMinmax false [.int .i64 (a : Int), .int .i64 (b : Int)] = some (.int .i64 ((min a b : Nat) : Int)) := by
  by_cases h : b < a
  · have h' : (b : Int) < a := by omega
    simp [pMinmax, minInts, h', Nat.min_eq_right (Nat.le_of_lt h)]
  · have h' : ¬ (b : Int) < a := by omega
    simp [pMinmax, minInts, h', Nat.min_eq_left (Nat.le_of_not_lt h)]
theorem tMethods {l : AM.Loc} {o : Nat} {q : Pg} (hq : PgA I h0 l o q) (hN : NOk q) (hsm : ∀ s ∈ q.sigs, s.params.length ≤ 1000) (hb : AHeap) (eb : Ext h0 hb) : Res ((AM.lim ⟨P, I, genF P Sh.prims⟩) 12 [.ptr l o] hb) fun u g => MPost I (dc (metsP q 0 q.impls)) u g ∧ Ext hb g := by
  have hq' := hq
  obtain ⟨_, ⟨vr, vs, vf, vi, vu, rfl, rm, sr, ss, sf, si, su⟩, hc⟩ := hq
  have li := si.lt
  have lp := Evt.loop' q.impls (F := fun i n => ∀ h, Ext hb h → Res ((f12.J I (AM.lim ⟨P, I, genF P Sh.prims⟩) (n)).1.1.2 (.ptr l o) vi (.int .i64 q.impls.length) (.int .i64 i) h) fun u g => MPost I (dc (metsP q i (q.impls.drop i))) u g ∧ Ext hb g)
    (Evt.all 5 fun n h e => by
      have hlo := e.lo
      simp only [List.drop_length, metsP, dc_true]
      have hnil : ∀ g, MPost I true .nili g := fun g => MPost_nil
      rw [f12.n1]; unfold f12.b1
      (repeat' (first | refine Rf (fun hF hG => ?_) (fun hF hG => ?_) | assumption | (show Ext _ _; exact Ext.go) | (simp only [AHeap.next_alloc, AHeap.next_set, AHeap.next_kill, AHeap.next_res] at hle hsame) | simp (disch := first | exact D.go | fail) [setR, List.getElem?_cons_zero, List.getElem?_cons_succ, f12.n0, f12.b0, hnil, *])))
    (fun i m hx hfo => by
      have hmem := List.mem_of_getElem? hx
      obtain ⟨lm, om, hmi, ⟨_, ⟨wf, rfl, mr, mf, swf⟩, hmc⟩⟩ := si.at hx
      have hlt := lt_of_get hx; have hw := wrap_in (n := (i : Int) + 1) ⟨by omega, by omega⟩
      simp only [Int.natCast_add, Int.natCast_one] at hfo
      obtain ⟨hi1, hi2, hi3⟩ := hN.impls m hmem
      obtain ⟨lf, of, hfi, ⟨_, ⟨wfc, rfl, swc⟩, hfc⟩, hfm⟩ := sf.atI hi2.1 hi2.2 []
      have hi4 := hN.faces _ hfm
      have hld := fun g e => hmc.rds (n := 3) g e rfl (by omega)
      have owf := swf.one
      have ewf := swf.self
      have lwf := swf.len
      have lwc := swc.len
      have nwc := swc.lt
      have nwf := swf.lt
      have hI := fun g e => tImpl hq' m.rec_ m.face g e
      rw [drop_of_get hx]
      generalize hsg : nth q.faces m.face [] = sgs at *
      have hmin := min_two m.funcs.length sgs.length
      have hmn : min m.funcs.length sgs.length ≤ m.funcs.length ∧ min m.funcs.length sgs.length ≤ sgs.length := ⟨Nat.min_le_left .., Nat.min_le_right ..⟩
      have hme : min m.funcs.length sgs.length = m.funcs.length ∨ min m.funcs.length sgs.length = sgs.length := by omega
      generalize hmv : min m.funcs.length sgs.length = mn at *
      have inner := Evt.loop (List.range mn) (F := fun k n => ∀ (ok : Bool) k4 h, h.get k4 = some ⟨[.int .i64 m.rec_, .int .i64 m.face, wf], true⟩ → k4 < h.next → Ext hb h →
          Res ((f12.J I (AM.lim ⟨P, I, genF P Sh.prims⟩) (n)).2.1.2 (.ptr l o) (.ptr (.own k4) 0) wfc (.bool ok) vi (.int .i64 q.impls.length) (.int .i64 i) (.int .i64 mn) (.int .i64 k) h) fun u g =>
          MPost I ((ok && dc (pairP q m.rec_ (m.funcs.drop k) (sgs.drop k))) && dc (metsP q (i + 1) (q.impls.drop (i + 1)))) u g ∧ Ext hb g) 8
        (by
          refine Evt.step 8 hfo fun n hn ok k4 h hk hkl e => ?_
          have hlo := e.lo
          have hn' := fun m hm => hn m hm h e
          have hp : pairP q m.rec_ (m.funcs.drop mn) (sgs.drop mn) := by
            rcases hme with h | h
            · rw [h, List.drop_length]; exact trivial
            · rw [h, List.drop_length]; cases m.funcs.drop sgs.length <;> exact trivial
          simp only [List.length_range, hp, dc_true, Bool.and_true]
          rw [f12.n5]; unfold f12.b5
          cases ok
          · simp only [Bool.false_and]
            (repeat' (first | refine Rf (fun hF hG => ?_) (fun hF hG => ?_) | assumption | (show Ext _ _; exact Ext.go) | (simp only [AHeap.next_alloc, AHeap.next_set, AHeap.next_kill, AHeap.next_res] at hle hsame) | simp (disch := first | exact D.go | fail) [setR, List.getElem?_cons_zero, List.getElem?_cons_succ, f12.n4, f12.b4, *] | (refine Ret.thn (h0 := hb) (rnone _) ?_ (fun g hg hlo hle hsame hx => ?_)) | (refine Res.call (h0 := hb) (enew _ _ _) ?_ (fun u g hA hg hlo hle hsame hx => ?_))))
            exact MPost_err hA
          · simp only [Bool.true_and]
            (repeat' (first | refine Rf (fun hF hG => ?_) (fun hF hG => ?_) | assumption | (show Ext _ _; exact Ext.go) | (simp only [AHeap.next_alloc, AHeap.next_set, AHeap.next_kill, AHeap.next_res] at hle hsame) | simp (disch := first | exact D.go | fail) [setR, List.getElem?_cons_zero, List.getElem?_cons_succ, f12.n4, f12.b4, f12.n3, f12.b3, hw, *])))
        (fun k z n hz ih ok k4 h hk hkl e => by
          have hlk : k < mn := by simpa using lt_of_get hz
          have hwk := wrap_in (n := (k : Int) + 1) ⟨by omega, by omega⟩
          simp only [Int.natCast_add, Int.natCast_one] at ih
          obtain ⟨x, hxk⟩ : ∃ x, m.funcs[k]? = some x := ⟨_, List.getElem?_eq_getElem (by omega)⟩
          obtain ⟨y, hyk⟩ : ∃ y, sgs[k]? = some y := ⟨_, List.getElem?_eq_getElem (by omega)⟩
          have hxf : inB x q.funcs.length := hi3 x (List.mem_of_getElem? hxk)
          have hyf : inB y q.sigs.length := hi4 y (List.mem_of_getElem? hyk)
          have hfs := hN.sig _ (nth_mem hxf fu0)
          obtain ⟨lx, ox, hxa, hxc⟩ := swf.at hxk
          obtain ⟨hxc, _⟩ := hxc.int
          obtain ⟨ly, oy, hya, hyc⟩ := swc.at hyk
          obtain ⟨hyc, _⟩ := hyc.int
          have hpr : pairP q m.rec_ (m.funcs.drop k) (sgs.drop k) = (metP q m.rec_ x y ∧ pairP q m.rec_ (m.funcs.drop (k + 1)) (sgs.drop (k + 1))) := by rw [drop_of_get hxk, drop_of_get hyk]; rfl
          rw [hpr]
          have hT := fun g e => tmethod hq' hsm mr hxf hfs hyf g e
          have hlo := e.lo
          rw [f12.n5]; unfold f12.b5
          cases ok
          · have ih' := fun m hm => ih m hm false k4 h hk hkl e
            simp only [Bool.false_and] at ih' ⊢
            (repeat' (first | refine Rf (fun hF hG => ?_) (fun hF hG => ?_) | assumption | (show Ext _ _; exact Ext.go) | (simp only [AHeap.next_alloc, AHeap.next_set, AHeap.next_kill, AHeap.next_res] at hle hsame) | simp (disch := first | exact D.go | fail) [setR, List.getElem?_cons_zero, List.getElem?_cons_succ, f12.n6, f12.b6, f12.n7, f12.b7, hlk, hwk, *]))
          · simp only [Bool.true_and]
            (repeat' (first | refine Rf (fun hF hG => ?_) (fun hF hG => ?_) | assumption | (show Ext _ _; exact Ext.go) | (simp only [AHeap.next_alloc, AHeap.next_set, AHeap.next_kill, AHeap.next_res] at hle hsame) | simp (disch := first | exact D.go | fail) [setR, List.getElem?_cons_zero, List.getElem?_cons_succ, f12.n6, f12.b6, f12.n7, f12.b7, hlk, hwk, hk, hxa, hxc, hya, hyc, *] | (refine Ret.thn (h0 := hb) (hT _ Ext.go) ?_ (fun g hg hlo hle hsame hx => ?_))))
            exact ih _ (by omega) (dc (metP q m.rec_ x y)) k4 g ((hsame k4 hkl).trans hk) (by omega) hg)
        0 (by omega)
      refine Evt.step 5 inner fun n hn h e => ?_
      have hlo := e.lo
      have e2 : Ext hb ((h.alloc ⟨[Z 0, Z 0, .nils], true⟩).set h.next ⟨[.int .i64 m.rec_, .int .i64 m.face, wf], true⟩) := e.alloc.set (Nb.o (by omega))
      rw [f12.n1]; unfold f12.b1
      by_cases hlen : m.funcs.length = sgs.length
      · have hmin' := hmin
        rw [hlen] at hmin'
        by_cases him : implFrom m.rec_ m.face 0 q.impls = i
        · have hgoal : metsP q i (m :: q.impls.drop (i + 1)) = (pairP q m.rec_ m.funcs sgs ∧ metsP q (i + 1) (q.impls.drop (i + 1))) := by
            simp only [metsP, imOk, hsg, hlen, him, true_and]
          rw [hgoal]
          (repeat' (first | refine Rf (fun hF hG => ?_) (fun hF hG => ?_) | assumption | (show Ext _ _; exact Ext.go) | (simp only [AHeap.next_alloc, AHeap.next_set, AHeap.next_kill, AHeap.next_res] at hle hsame) | simp (disch := first | exact D.go | fail) [setR, List.getElem?_cons_zero, List.getElem?_cons_succ, f12.n2, f12.b2, hc.rd0, hc.rd1, hc.rd2, hc.rd3, hc.rd4, hc.rd5, sr.len, ss.len, sf.len, si.len, su.len, sr.self, ss.self, sf.self, si.self, su.self, hlt, hmi, hld, owf, ewf, lwf, lwc, hfi, hfc.rd0, hlen, him, hmin', *] | (refine Ret.thn (h0 := hb) (hI _ Ext.go) ?_ (fun g hg hlo hle hsame hx => ?_))))
          have hn' := fun N' (hN' : n ≤ N') => hn N' hN' true h.next g ((hsame _ (by omega)).trans (AHeap.set_at (Nb.o rfl))) (by omega) hg
          simp only [List.drop_zero, Bool.true_and] at hn'
          exact hn' _ (by omega)
        · have hgoal : metsP q i (m :: q.impls.drop (i + 1)) = False := by
            simp only [metsP, imOk, him, false_and, and_false]
          rw [hgoal]
          (repeat' (first | refine Rf (fun hF hG => ?_) (fun hF hG => ?_) | assumption | (show Ext _ _; exact Ext.go) | (simp only [AHeap.next_alloc, AHeap.next_set, AHeap.next_kill, AHeap.next_res] at hle hsame) | simp (disch := first | exact D.go | fail) [setR, List.getElem?_cons_zero, List.getElem?_cons_succ, f12.n2, f12.b2, hc.rd0, hc.rd1, hc.rd2, hc.rd3, hc.rd4, hc.rd5, sr.len, ss.len, sf.len, si.len, su.len, sr.self, ss.self, sf.self, si.self, su.self, hlt, hmi, hld, owf, ewf, lwf, lwc, hfi, hfc.rd0, hlen, him, hmin', *] | (refine Ret.thn (h0 := hb) (hI _ Ext.go) ?_ (fun g hg hlo hle hsame hx => ?_))))
          have hn' := fun N' (hN' : n ≤ N') => hn N' hN' false h.next g ((hsame _ (by omega)).trans (AHeap.set_at (Nb.o rfl))) (by omega) hg
          simp only [List.drop_zero, Bool.false_and] at hn'
          exact hn' _ (by omega)
      · have hgoal : metsP q i (m :: q.impls.drop (i + 1)) = False := by
          simp only [metsP, imOk, hsg, hlen, false_and]
        rw [hgoal]
        have hlen' : ¬ (m.funcs.length : Int) = sgs.length := by omega
        have hn' := fun N' (hN' : n ≤ N') => hn N' hN' false h.next _ (AHeap.set_at (h := h.alloc ⟨[Z 0, Z 0, .nils], true⟩) (b := ⟨[.int .i64 m.rec_, .int .i64 m.face, wf], true⟩) (Nb.o rfl)) (by simp) e2
        simp only [List.drop_zero, Bool.false_and] at hn'
        clear hmv
        (repeat' (first | refine Rf (fun hF hG => ?_) (fun hF hG => ?_) | assumption | (show Ext _ _; exact Ext.go) | (simp only [AHeap.next_alloc, AHeap.next_set, AHeap.next_kill, AHeap.next_res] at hle hsame) | simp (disch := first | exact D.go | fail) [setR, List.getElem?_cons_zero, List.getElem?_cons_succ, f12.n2, f12.b2, hc.rd0, hc.rd1, hc.rd2, hc.rd3, hc.rd4, hc.rd5, sr.len, ss.len, sf.len, si.len, su.len, sr.self, ss.self, sf.self, si.self, su.self, hlt, hmi, hld, owf, ewf, lwf, lwc, hfi, hfc.rd0, hlen, hlen', hmin, *]))
        all_goals exact hn' _ (by omega))
    0 (by omega)
  obtain ⟨N, hM⟩ := lp
  refine f12.lim rfl (n := N) ?_
  unfold f12.e
  have := hM N (Nat.le_refl _) hb (Ext.refl hb)
  (repeat' (first | refine Rf (fun hF hG => ?_) (fun hF hG => ?_) | assumption | (show Ext _ _; exact Ext.go) | (simp only [AHeap.next_alloc, AHeap.next_set, AHeap.next_kill, AHeap.next_res] at hle hsame) | simp (disch := first | exact D.go | fail) [setR, List.getElem?_cons_zero, List.getElem?_cons_succ, hc.rd0, hc.rd1, hc.rd2, hc.rd3, hc.rd4, hc.rd5, sr.len, ss.len, sf.len, si.len, su.len, sr.self, ss.self, sf.self, si.self, su.self, *]))
end
end
end Go.Proofs.YtikjkhddkfkijaaGreatDoor.Tx

set_option linter.unusedSimpArgs false
set_option linter.unusedVariables false
namespace Go.Proofs.YtikjkhddkfkijaaGreatDoor.Tx
noncomputable section
open Go.AM Go.Proofs.YtikjkhddkfkijaaGreatDoor.Sf
section
variable {I : Inp}
theorem bounds_params {q : Pg} (h : boundsB q = true) : ∀ s ∈ q.sigs, s.params.length ≤ 1000 := by
  simp only [boundsB, innerB, Bool.and_eq_true, dc_eq_true] at h
  intro s hs
  have := h.2.1.1.1.1.2 s hs
  omega
theorem lawMethods_nil (hb : AHeap) : Res ((AM.lim ⟨P, I, genF P Sh.prims⟩) 4 [.nilp] hb) fun u _ => u = .bool true := by
  refine f4.lim rfl (n := 4) ?_
  unfold f4.e
  (repeat' (first | refine Rf (fun hF hG => ?_) (fun hF hG => ?_) | assumption | (show Ext _ _; exact Ext.go) | (simp only [AHeap.next_alloc, AHeap.next_set, AHeap.next_kill, AHeap.next_res] at hle hsame) | simp (disch := first | exact D.go | fail) [setR, List.getElem?_cons_zero, List.getElem?_cons_succ, f4.n0, f4.b0, f4.n1, f4.b1, f4.n2, f4.b2, f4.n3, f4.b3, begun, *] | (refine Ret.thn (h0 := hb) (rBounds_nil _) ?_ (fun g hg hlo hle hsame hx => ?_))))
theorem lawMethods {l : AM.Loc} {o : Nat} {q : Pg} {hb : AHeap} (hq : PgA I hb l o q) : Res ((AM.lim ⟨P, I, genF P Sh.prims⟩) 4 [.ptr l o] hb) fun u _ => u = .bool true := by
  cases hB : boundsB q
  · refine f4.lim rfl (n := 5) ?_
    unfold f4.e
    (repeat' (first | refine Rf (fun hF hG => ?_) (fun hF hG => ?_) | assumption | (show Ext _ _; exact Ext.go) | (simp only [AHeap.next_alloc, AHeap.next_set, AHeap.next_kill, AHeap.next_res] at hle hsame) | simp (disch := first | exact D.go | fail) [setR, List.getElem?_cons_zero, List.getElem?_cons_succ, f4.n0, f4.b0, f4.n1, f4.b1, f4.n2, f4.b2, f4.n3, f4.b3, begun, hB, *] | (refine Ret.thn (h0 := hb) (rBounds hq _ Ext.go) ?_ (fun g hg hlo hle hsame hx => ?_))))
  · obtain ⟨ha, hl⟩ := bounds_facts hB
    have hsm := bounds_params hB
    cases hN : namesS q with
    | some p =>
      refine f4.lim rfl (n := 5) ?_
      unfold f4.e
      (repeat' (first | refine Rf (fun hF hG => ?_) (fun hF hG => ?_) | assumption | (show Ext _ _; exact Ext.go) | (simp only [AHeap.next_alloc, AHeap.next_set, AHeap.next_kill, AHeap.next_res] at hle hsame) | simp (disch := first | exact D.go | fail) [setR, List.getElem?_cons_zero, List.getElem?_cons_succ, f4.n0, f4.b0, f4.n1, f4.b1, f4.n2, f4.b2, f4.n3, f4.b3, begun, hB, hN, *] | (refine Ret.thn (h0 := hb) (rBounds hq _ Ext.go) ?_ (fun g hg hlo hle hsame hx => ?_)) | (refine Ret.thn (h0 := hb) (rNames hq _ Ext.go ha hl) ?_ (fun g hg hlo hle hsame hx => ?_))))
    | none =>
      have hn := NOk.of hN
      by_cases hM : metsP q 0 q.impls
      · have rM : ∀ h, Ext hb h → Ret ((AM.lim ⟨P, I, genF P Sh.prims⟩) 17 [.ptr l o] h) h (.bool true) := fun h e => by
          have := rMethods hq hn hsm h e
          simp only [hM, dc_true] at this
          exact this
        have tM : ∀ h, Ext hb h → Ret ((AM.lim ⟨P, I, genF P Sh.prims⟩) 12 [.ptr l o] h) h .nili := fun h e => by
          refine Res.mono (tMethods hq hn hsm h e) fun u g hA => ⟨?_, hA.2⟩
          have h1 := hA.1
          simp only [hM, dc_true] at h1
          exact h1.1 rfl
        refine f4.lim rfl (n := 5) ?_
        unfold f4.e
        (repeat' (first | refine Rf (fun hF hG => ?_) (fun hF hG => ?_) | assumption | (show Ext _ _; exact Ext.go) | (simp only [AHeap.next_alloc, AHeap.next_set, AHeap.next_kill, AHeap.next_res] at hle hsame) | simp (disch := first | exact D.go | fail) [setR, List.getElem?_cons_zero, List.getElem?_cons_succ, f4.n0, f4.b0, f4.n1, f4.b1, f4.n2, f4.b2, f4.n3, f4.b3, begun, hB, hN, *] | (refine Ret.thn (h0 := hb) (rBounds hq _ Ext.go) ?_ (fun g hg hlo hle hsame hx => ?_)) | (refine Ret.thn (h0 := hb) (rNames hq _ Ext.go ha hl) ?_ (fun g hg hlo hle hsame hx => ?_)) | (refine Ret.thn (h0 := hb) (rM _ Ext.go) ?_ (fun g hg hlo hle hsame hx => ?_)) | (refine Ret.thn (h0 := hb) (tM _ Ext.go) ?_ (fun g hg hlo hle hsame hx => ?_)) | (refine Ret.thn (h0 := hb) (rnowhere _) ?_ (fun g hg hlo hle hsame hx => ?_)) | (refine Ret.thn (h0 := hb) (says_nil _ rfl _ _ _) ?_ (fun g hg hlo hle hsame hx => ?_))))
      · have rM : ∀ h, Ext hb h → Ret ((AM.lim ⟨P, I, genF P Sh.prims⟩) 17 [.ptr l o] h) h (.bool false) := fun h e => by
          have := rMethods hq hn hsm h e
          simp only [hM, dc_false] at this
          exact this
        have tM : ∀ h, Ext hb h → Res ((AM.lim ⟨P, I, genF P Sh.prims⟩) 12 [.ptr l o] h) fun u g => ErrIs I g 7 noPt u ∧ Ext h g := fun h e => by
          refine Res.mono (tMethods hq hn hsm h e) fun u g hA => ⟨?_, hA.2⟩
          have h1 := hA.1
          simp only [hM, dc_false] at h1
          exact h1.2 rfl
        refine f4.lim rfl (n := 5) ?_
        unfold f4.e
        (repeat' (first | refine Rf (fun hF hG => ?_) (fun hF hG => ?_) | assumption | (show Ext _ _; exact Ext.go) | (simp only [AHeap.next_alloc, AHeap.next_set, AHeap.next_kill, AHeap.next_res] at hle hsame) | simp (disch := first | exact D.go | fail) [setR, List.getElem?_cons_zero, List.getElem?_cons_succ, f4.n0, f4.b0, f4.n1, f4.b1, f4.n2, f4.b2, f4.n3, f4.b3, begun, hB, hN, *] | (refine Ret.thn (h0 := hb) (rBounds hq _ Ext.go) ?_ (fun g hg hlo hle hsame hx => ?_)) | (refine Ret.thn (h0 := hb) (rNames hq _ Ext.go ha hl) ?_ (fun g hg hlo hle hsame hx => ?_)) | (refine Ret.thn (h0 := hb) (rM _ Ext.go) ?_ (fun g hg hlo hle hsame hx => ?_)) | (refine Res.call (h0 := hb) (tM _ Ext.go) ?_ (fun u g hA hg hlo hle hsame hx => ?_)) | (refine Ret.thn (h0 := hb) (rnowhere _) ?_ (fun g hg hlo hle hsame hx => ?_)) | (refine Ret.thn (h0 := hb) (says_err _ (hA.mono Ext.go) 7 noPt (by simp) rfl rfl (.inr rfl)) ?_ (fun g hg hlo hle hsame hx => ?_))))
end
end
end Go.Proofs.YtikjkhddkfkijaaGreatDoor.Tx
