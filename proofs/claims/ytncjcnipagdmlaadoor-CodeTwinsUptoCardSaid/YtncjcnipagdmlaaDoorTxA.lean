/- Contracts of the functions, part 0: what each function of the program and of the reference comes to. Conditions: as each lemma says. -/
import Derived.Test.YtncjcnipagdmlaaDoorSfT
import Derived.Test.YtncjcnipagdmlaaDoorAmZ
import Derived.Test.YtncjcnipagdmlaaDoorSh
set_option linter.unusedSimpArgs false
set_option linter.unusedVariables false
namespace Go.Proofs.YtncjcnipagdmlaaDoor.Tx
noncomputable section
open Go.AM Go.Proofs.YtncjcnipagdmlaaDoor.Sf
section
variable {I : Inp} {h0 : AHeap}
def inB (n s : Int) : Prop := 0 ≤ n ∧ n < s

structure Pt where
  f : Int
  b : Int
  i : Int
  deriving DecidableEq, Inhabited
def noPt : Pt := ⟨-1, 0, 0⟩
abbrev ptV (p : Pt) : AVal := .agg [.int .i64 p.f, .int .i64 p.b, .int .i64 p.i]
theorem noPt_f : noPt.f = -1 := rfl
theorem noPt_b : noPt.b = 0 := rfl
theorem noPt_i : noPt.i = 0 := rfl
theorem nth_mem {α : Type} {xs : List α} {i : Int} (h : inB i xs.length) (d : α) : nth xs i d ∈ xs := by
  obtain ⟨h1, h2⟩ := h
  unfold nth
  have hk : i.toNat < xs.length := by omega
  rw [List.getD_eq_getElem?_getD, List.getElem?_eq_getElem hk]
  exact List.getElem_mem hk
/-- A slice to read from. -/
structure SlV {α : Type} (sz : Nat) (R : AM.Loc → Nat → α → Prop) (v : AVal) (xs : List α) : Prop where
  len : pLenSl v = some (.int .i64 xs.length)
  lt : xs.length ≤ 9223372036854775807
  at_ : ∀ {i : Nat} {x : α}, xs[i]? = some x → ∃ l o, pIndexAddr sz v (.int .i64 (i : Int)) = some (.ptr l o) ∧ R l o x
theorem _root_.Go.AM.SlOf.v {α : Type} {sz : Nat} {R : AM.Loc → Nat → α → Prop} {v : AVal} {xs : List α} (s : SlOf sz R v xs) : SlV sz R v xs := ⟨s.len, s.lt, s.at⟩
theorem _root_.Go.AM.SlOf.cut {α : Type} {sz : Nat} {R : AM.Loc → Nat → α → Prop} {v : AVal} {xs : List α} (s : SlOf sz R v xs) {m : Nat} (hm : m ≤ xs.length) : ∃ u, pSliceS sz v none (some (.int .i64 m)) none = some u ∧ SlV sz R u (xs.take m) := by
  rcases s with ⟨rfl, rfl⟩ | ⟨l, o, cap, rfl, c, n, hx⟩
  · obtain rfl : m = 0 := by simpa using hm
    exact ⟨.nils, rfl, by simpa using SlOf.v (SlOf.nil (R := R) (sz := sz))⟩
  · have hc := c m hm
    refine ⟨.sl l o m (capMinus cap 0), ?_, ?_, ?_, ?_⟩
    · show sliceV _ _ _ _ _ = _
      simp only [sliceV, optNatV, asNat]
      have : asNat (.int .i64 (m : Int)) = some m := rfl
      have hz : Nat.ble 0 m = true := Nat.ble_eq_true_of_le (Nat.zero_le m)
      simp [this, hc, hz]
    · simp [List.length_take, Nat.min_eq_left hm]
    · rw [List.length_take, Nat.min_eq_left hm]; omega
    · intro i x hi
      have hlt := (List.getElem?_eq_some_iff.1 hi).1
      rw [List.length_take, Nat.min_eq_left hm] at hlt
      rw [List.getElem?_take_of_lt hlt] at hi
      exact ⟨l, o + i * sz, pIndexAddr_sl hlt, hx i x hi⟩
theorem Res.after {r : Rs} {k : AVal → AHeap → Rs} {Q A : AVal → AHeap → Prop} (c : Res r A) (hk : ∀ v g, A v g → Res (k v g) Q) : Res (@Bnd r ⟨k⟩) Q := by
  obtain ⟨v, g, er, a⟩ := c
  rw [er]
  exact hk v g a
def ptCells (p : Pt) : List AVal := [.int .i64 p.f, .int .i64 p.b, .int .i64 p.i]
theorem pts_len : ∀ xs : List Pt, (xs.flatMap ptCells).length = xs.length * 3
  | [] => rfl
  | x :: xs => by simp only [List.flatMap_cons, List.length_append, List.length_cons, pts_len xs, ptCells, List.length_nil]; omega
theorem pts_one : ∀ xs : List Pt, (xs.flatMap ptCells).all AVal.one = true
  | [] => rfl
  | x :: xs => by simp only [List.flatMap_cons, List.all_append, pts_one xs, Bool.and_true]; rfl
/-- A slice of points that was made here. -/
def PtsO (hb h : AHeap) (v : AVal) (xs : List Pt) : Prop :=
  (v = .nils ∧ xs = []) ∨ ∃ k, v = .sl (.own k) 0 xs.length (.grown 3) ∧ h.get k = some ⟨xs.flatMap ptCells, true⟩ ∧ hb.next ≤ k ∧ k < h.next ∧ xs ≠ []
theorem PtsO.mono {hb h g : AHeap} {v : AVal} {xs : List Pt} (a : PtsO hb h v xs) (e : Ext h g) : PtsO hb g v xs := by
  rcases a with a | ⟨k, rfl, hk, h1, h2, h3⟩
  · exact .inl a
  · exact .inr ⟨k, rfl, by rw [e.same k h2]; exact hk, h1, by have := e.lo; omega, h3⟩
theorem app_pt {hb h : AHeap} {xs : List Pt} {v : AVal} (hv : PtsO hb h v xs) (eb : Ext hb h) (p : Pt) (hn : xs.length ≤ 1000000) {kw : Nat} {c : Cap} (hw : h.get kw = some ⟨ptCells p, true⟩) :
    Res (sAppend I 3 24 v (.sl (.own kw) 0 1 c) h) fun u g => PtsO hb g u (xs ++ [p]) ∧ Ext hb g := by
  rcases hv with ⟨rfl, rfl⟩ | ⟨k, rfl, hk, h1, h2, h3⟩
  · have := sAppend_nils (I := I) (sz := 3) (bytes := 24) (n := 0) (c := c) hw rfl rfl (by simp only [bigRoom]; omega)
    refine ⟨_, _, this, .inr ⟨h.next, rfl, ?_, eb.lo, by simp, by simp⟩, eb.alloc⟩
    simp [AHeap.alloc_at (Nb.o rfl)]
  · have := sAppend_full (I := I) (sz := 3) (bytes := 24) (n := 0) (c := c) hw rfl rfl hk (pts_len xs) (pts_one xs) (by omega) (by simp only [bigRoom]; omega)
    refine ⟨_, _, this, .inr ⟨h.next, ?_, ?_, eb.lo, by simp, by simp⟩, (eb.kill (Nb.o h1)).alloc⟩
    · simp
    · rw [show h.next = (h.kill k).next from rfl, AHeap.alloc_at (Nb.o rfl)]; simp
def bkPts (f b : Int) (j : Nat) : Nat → List Pt
  | 0 => []
  | c + 1 => ⟨f, b, j⟩ :: bkPts f b (j + 1) c
def fuPts (f : Int) : Nat → List Bk → List Pt
  | _, [] => []
  | b, x :: r => bkPts f b 0 (x.code.length + 1) ++ fuPts f (b + 1) r
def pgPts : Nat → List Fu → List Pt
  | _, [] => []
  | i, f :: r => fuPts i 0 f.blocks ++ pgPts (i + 1) r
theorem bkPts_len (f b : Int) : ∀ (c j : Nat), (bkPts f b j c).length = c
  | 0, _ => rfl
  | c + 1, j => by simp [bkPts, bkPts_len f b c]
def PtC (cs : List AVal) (p : Pt) : Prop := cs = ptCells p
theorem pts_get : ∀ (xs : List Pt) (i : Nat) (x : Pt) (j : Nat) (v : AVal), xs[i]? = some x → (ptCells x)[j]? = some v → (xs.flatMap ptCells)[i * 3 + j]? = some v
  | [], i, x, j, v, h, _ => by simp at h
  | y :: ys, 0, x, j, v, h, hv => by
    simp at h; subst h
    have hj : j < 3 := by have := (List.getElem?_eq_some_iff.1 hv).1; simpa [ptCells] using this
    rw [List.flatMap_cons, List.getElem?_append_left (by simp [ptCells]; omega)]
    simpa using hv
  | y :: ys, i + 1, x, j, v, h, hv => by
    have := pts_get ys i x j v (by simpa using h) hv
    rw [List.flatMap_cons, List.getElem?_append_right (by simp [ptCells]; omega)]
    rw [show (i + 1) * 3 + j - (ptCells y).length = i * 3 + j by simp [ptCells]; omega]
    exact this
theorem PtsO.v {hb h : AHeap} {v : AVal} {xs : List Pt} (a : PtsO hb h v xs) (hl : xs.length ≤ 1000000) : SlV 3 (At I h PtC) v xs := by
  rcases a with ⟨rfl, rfl⟩ | ⟨k, rfl, hk, h1, h2, h3⟩
  · exact SlOf.v SlOf.nil
  · refine ⟨rfl, by omega, fun {i x} hx => ⟨.own k, 0 + i * 3, pIndexAddr_sl (List.getElem?_eq_some_iff.1 hx).1, ptCells x, rfl, Cells.own hk h2 fun j v hv => ?_⟩⟩
    simp only [Nat.zero_add]
    exact pts_get xs i x j v hx hv
theorem bkPts_mem {f b : Int} {p : Pt} : ∀ (c j : Nat), p ∈ bkPts f b j c → ∃ k : Nat, j ≤ k ∧ k < j + c ∧ p = ⟨f, b, k⟩
  | 0, j, h => by simp [bkPts] at h
  | c + 1, j, h => by
    rcases List.mem_cons.1 h with rfl | h
    · exact ⟨j, by omega, by omega, rfl⟩
    · obtain ⟨k, h1, h2, h3⟩ := bkPts_mem c (j + 1) h
      exact ⟨k, by omega, by omega, h3⟩
theorem fuPts_mem {f : Int} {p : Pt} : ∀ (l : List Bk) (b : Nat), p ∈ fuPts f b l → ∃ (bi k : Nat) (x : Bk), l[bi]? = some x ∧ k ≤ x.code.length ∧ p = ⟨f, ((b + bi : Nat) : Int), k⟩
  | [], b, h => by simp [fuPts] at h
  | x :: r, b, h => by
    rcases List.mem_append.1 h with h | h
    · obtain ⟨k, h1, h2, h3⟩ := bkPts_mem _ _ h
      exact ⟨0, k, x, rfl, by omega, h3⟩
    · obtain ⟨bi, k, y, h1, h2, h3⟩ := fuPts_mem r (b + 1) h
      exact ⟨bi + 1, k, y, by simpa using h1, h2, by rw [h3]; congr 2; omega⟩
theorem pgPts_mem {p : Pt} : ∀ (l : List Fu) (i : Nat), p ∈ pgPts i l → ∃ (fi bi k : Nat) (f : Fu) (x : Bk), l[fi]? = some f ∧ f.blocks[bi]? = some x ∧ k ≤ x.code.length ∧ p = ⟨((i + fi : Nat) : Int), (bi : Int), k⟩
  | [], i, h => by simp [pgPts] at h
  | f :: r, i, h => by
    rcases List.mem_append.1 h with h | h
    · obtain ⟨bi, k, x, h1, h2, h3⟩ := fuPts_mem _ _ h
      exact ⟨0, bi, k, f, x, rfl, h1, h2, by simpa using h3⟩
    · obtain ⟨fi, bi, k, g, x, h1, h2, h3, h4⟩ := pgPts_mem r (i + 1) h
      exact ⟨fi + 1, bi, k, g, x, by simpa using h1, h2, h3, by rw [h4]; congr 2; omega⟩
theorem pMinmax_two (b : Int) : ∃ c, pMinmax false [Z 1000, .int .i64 b] = some (.int .i64 c) := ⟨if b < 1000 then b else 1000, by simp [pMinmax, minInts]⟩
/-- A bool. -/
def IsB (u : AVal) : Prop := ∃ b, u = .bool b
@[simp] theorem IsB_bool (b : Bool) : IsB (.bool b) = True := by simp [IsB]
end
end
end Go.Proofs.YtncjcnipagdmlaaDoor.Tx

set_option linter.unusedSimpArgs false
set_option linter.unusedVariables false
namespace Go.Proofs.YtncjcnipagdmlaaDoor.Tx
noncomputable section
open Go.AM Go.Proofs.YtncjcnipagdmlaaDoor.Sf
def tyIds : TyIds := ⟨3, 35, 52, 53, 39, 83, 57, 59, 54, 56, 42, 63, 40, 37, 38, 66, 41, 44⟩
theorem tyOk : tyIds.Ok P := by
  constructor <;> kernel_rfl
section
variable {I : Inp}
theorem begun (h : AHeap) : (AM.lim ⟨P, I, genF P Sh.prims⟩) 10 [] h = some (.bool true, h) := by
  refine lim_of (C := ⟨P, I, genF P Sh.prims⟩) (n := 1) ?_
  simp only [callF, genF, show Sh.prims 10 = some AM.yesPrim from rfl]; rfl
theorem lawTrue {g : Nat} {args : List AVal} (hr : Res ((AM.lim ⟨P, I, genF P Sh.prims⟩) g args ⟨.nil, 0⟩) fun u _ => u = .bool true) : ∃ m, saysTrue (callF P I (genF P Sh.prims) m g args ⟨.nil, 0⟩) = true := by
  obtain ⟨v, h', e, rfl⟩ := hr
  exact lim_true (C := ⟨P, I, genF P Sh.prims⟩) e
end
end
end Go.Proofs.YtncjcnipagdmlaaDoor.Tx

set_option linter.unusedSimpArgs false
set_option linter.unusedVariables false
namespace Go.Proofs.YtncjcnipagdmlaaDoor.Tx
noncomputable section
open Go.AM Go.Proofs.YtncjcnipagdmlaaDoor.Sf
section
variable {I : Inp} {h0 : AHeap}
theorem opCases (op : Int) : op = 1 ∨ op = 2 ∨ op = 3 ∨ op = 4 ∨ op = 5 ∨ op = 6 ∨ op = 7 ∨ op = 8 ∨ op = 9 ∨ op = 10 ∨ op = 11 ∨ op = 12 ∨ op = 13 ∨ op = 14 ∨ op = 15 ∨ (op < 1 ∨ 15 < op) := by omega
/-! what an instruction defines and reads -/
def defB (op : Int) : Bool := !dc (op < 1) && (!dc (15 < op) && (!dc (op = 8) && (!dc (op = 9) && !dc (op = 15))))
def dstOf (i : Ins) : Int := if defB i.op = true then i.dst else 0
def usesL (i : Ins) : List Int :=
  if i.op = 2 then [i.a, i.b] else if i.op = 8 then [i.a, i.b] else if i.op = 6 then [i.a] else if i.op = 7 then [i.a] else if i.op = 9 then [i.a] else if i.op = 11 then [i.a] else if i.op = 15 then [i.a]
  else if i.op = 12 then i.args else if i.op = 13 then i.a :: i.args else if i.op = 14 then i.a :: i.args else []
end
end
end Go.Proofs.YtncjcnipagdmlaaDoor.Tx

set_option linter.unusedSimpArgs false
set_option linter.unusedVariables false
namespace Go.Proofs.YtncjcnipagdmlaaDoor.Tx
noncomputable section
open Go.AM Go.Proofs.YtncjcnipagdmlaaDoor.Sf
/-! slices of one's own that grow: of things of any one size -/
section
variable {I : Inp} {α : Type} {f : α → List AVal} {sz : Nat}
/-- Each thing is so many cells. -/
structure Fix (f : α → List AVal) (sz : Nat) : Prop where
  len : ∀ x, (f x).length = sz
  one : ∀ x, (f x).all AVal.one = true
  pos : 0 < sz
theorem Fix.lenAll (F : Fix f sz) : ∀ xs : List α, (xs.flatMap f).length = xs.length * sz
  | [] => by simp
  | x :: r => by rw [List.flatMap_cons, List.length_append, F.lenAll r, F.len, List.length_cons, Nat.succ_mul, Nat.add_comm]
theorem Fix.oneAll (F : Fix f sz) : ∀ xs : List α, (xs.flatMap f).all AVal.one = true
  | [] => rfl
  | x :: r => by rw [List.flatMap_cons, List.all_append, F.oneAll r, F.one]; rfl
theorem Fix.get (F : Fix f sz) : ∀ (xs : List α) (i : Nat) (x : α) (j : Nat) (v : AVal), xs[i]? = some x → (f x)[j]? = some v → (xs.flatMap f)[i * sz + j]? = some v
  | [], i, x, j, v, h, _ => by simp at h
  | y :: ys, 0, x, j, v, h, hv => by
    simp at h; subst h
    have hj : j < (f y).length := (List.getElem?_eq_some_iff.1 hv).1
    rw [List.flatMap_cons, List.getElem?_append_left (by omega)]
    simpa using hv
  | y :: ys, i + 1, x, j, v, h, hv => by
    have := F.get ys i x j v (by simpa using h) hv
    have hl := F.len y
    rw [List.flatMap_cons, List.getElem?_append_right (by rw [hl, Nat.succ_mul]; omega)]
    rw [show (i + 1) * sz + j - (f y).length = i * sz + j by rw [hl, Nat.succ_mul]; omega]
    exact this
def Own (f : α → List AVal) (sz : Nat) (hb h : AHeap) (v : AVal) (xs : List α) : Prop :=
  (v = .nils ∧ xs = []) ∨ ∃ k, v = .sl (.own k) 0 xs.length (.grown sz) ∧ h.get k = some ⟨xs.flatMap f, true⟩ ∧ hb.next ≤ k ∧ k < h.next ∧ xs ≠ []
theorem Own.nil {hb h : AHeap} : Own f sz hb h .nils [] := .inl ⟨rfl, rfl⟩
theorem Own.mono {hb h g : AHeap} {v : AVal} {xs : List α} (a : Own f sz hb h v xs) (e : Ext h g) : Own f sz hb g v xs := by
  rcases a with a | ⟨k, rfl, hk, h1, h2, h3⟩
  · exact .inl a
  · exact .inr ⟨k, rfl, by rw [e.same k h2]; exact hk, h1, by have := e.lo; omega, h3⟩
/-- From a heap further back. -/
theorem Own.base {hb hb' h : AHeap} {v : AVal} {xs : List α} (a : Own f sz hb h v xs) (e : hb'.next ≤ hb.next) : Own f sz hb' h v xs := by
  rcases a with a | ⟨k, rfl, hk, h1, h2, h3⟩
  · exact .inl a
  · exact .inr ⟨k, rfl, hk, by omega, h2, h3⟩
theorem Own.len {hb h : AHeap} {v : AVal} {xs : List α} (a : Own f sz hb h v xs) : pLenSl v = some (.int .i64 xs.length) := by
  rcases a with ⟨rfl, rfl⟩ | ⟨k, rfl, _⟩ <;> rfl
theorem Own.v (F : Fix f sz) {hb h : AHeap} {v : AVal} {xs : List α} (a : Own f sz hb h v xs) (hl : xs.length ≤ 9223372036854775807) : SlV sz (At I h fun cs x => cs = f x) v xs := by
  rcases a with ⟨rfl, rfl⟩ | ⟨k, rfl, hk, h1, h2, h3⟩
  · exact SlOf.v SlOf.nil
  · refine ⟨rfl, hl, fun {i x} hx => ⟨.own k, 0 + i * sz, pIndexAddr_sl (List.getElem?_eq_some_iff.1 hx).1, f x, rfl, Cells.own hk h2 fun j v hv => ?_⟩⟩
    simp only [Nat.zero_add]
    exact F.get xs i x j v hx hv
/-- A slice's block is not this one. -/
def NotB (v : AVal) (m : Nat) : Prop := ∀ k o n c, v = .sl (.own k) o n c → m ≠ k
theorem Own.notB {hb h : AHeap} {v : AVal} {xs : List α} (a : Own f sz hb h v xs) {m : Nat} (hm : m < hb.next ∨ h.next ≤ m) : NotB v m := by
  intro k o n c e
  rcases a with ⟨rfl, _⟩ | ⟨k', rfl, _, h1, h2, _⟩
  · cases e
  · cases e; omega
/-- All blocks but the slice's keep what they hold. -/
def KeepB (v u : AVal) (h g : AHeap) : Prop := h.next ≤ g.next ∧ ∀ m, NotB v m → m < h.next → g.get m = h.get m ∧ NotB u m
/-- append(l, x). -/
theorem app_own (F : Fix f sz) {hb h : AHeap} {xs : List α} {v : AVal} (hv : Own f sz hb h v xs) (eb : Ext hb h) (x : α) {bytes : Nat} (hby : bytes ≤ 4096) (hn : xs.length ≤ 20000000000) {kw : Nat} {c : Cap} (hw : h.get kw = some ⟨f x, true⟩) :
    Res (sAppend I sz bytes v (.sl (.own kw) 0 1 c) h) fun u g => Own f sz hb g u (xs ++ [x]) ∧ Ext hb g ∧ KeepB v u h g := by
  have hr : ∀ n, n ≤ 20000000001 → n * bytes ≤ bigRoom := fun n hn => by
    have : n * bytes ≤ 20000000001 * 4096 := Nat.mul_le_mul hn hby
    simp only [bigRoom]; omega
  have hfl : (f x).length = (0 + 1) * sz := by rw [F.len]; omega
  rcases hv with ⟨rfl, rfl⟩ | ⟨k, rfl, hk, h1, h2, h3⟩
  · have := sAppend_nils (I := I) (sz := sz) (bytes := bytes) (n := 0) (c := c) hw hfl (F.one x) ⟨hr _ (by omega), by simp only [bigRoom]; omega⟩
    refine ⟨_, _, this, .inr ⟨h.next, rfl, ?_, eb.lo, by simp, by simp⟩, eb.alloc, by simp, fun m hm hl => ⟨AHeap.alloc_ne (Nb.o (by omega)), fun k o n c e => by cases e; omega⟩⟩
    simp [AHeap.alloc_at (Nb.o rfl)]
  · have := sAppend_full (I := I) (sz := sz) (bytes := bytes) (n := 0) (c := c) (len := xs.length) hw hfl (F.one x) hk (F.lenAll xs) (F.oneAll xs) F.pos ⟨hr _ (by omega), by simp only [bigRoom]; omega⟩
    refine ⟨_, _, this, .inr ⟨h.next, ?_, ?_, eb.lo, by simp, by simp⟩, (eb.kill (Nb.o h1)).alloc, by simp, fun m hm hl => ⟨?_, fun k o n c e => by cases e; omega⟩⟩
    · simp
    · rw [show h.next = (h.kill k).next from rfl, AHeap.alloc_at (Nb.o rfl)]; simp
    · rw [AHeap.alloc_ne (Nb.o (by show m ≠ h.next; omega))]
      exact AHeap.kill_ne (Nb.o (hm k _ _ _ rfl))
/-- A slice that can be read whole. -/
def SrcL (f : α → List AVal) (sz : Nat) (I : Inp) (h : AHeap) (w : AVal) (ys : List α) : Prop :=
  (ys = [] ∧ (w = .nils ∨ ∃ l o c, w = .sl l o 0 c ∧ AM.rds I h l o (0 * sz) = some [])) ∨ (ys ≠ [] ∧ ∃ l o c, w = .sl l o ys.length c ∧ AM.rds I h l o (ys.length * sz) = some (ys.flatMap f))
theorem Own.src (F : Fix f sz) {hb h : AHeap} {v : AVal} {xs : List α} (a : Own f sz hb h v xs) : SrcL f sz I h v xs := by
  rcases a with ⟨rfl, rfl⟩ | ⟨k, rfl, hk, h1, h2, h3⟩
  · exact .inl ⟨rfl, .inl rfl⟩
  · refine .inr ⟨h3, _, _, _, rfl, ?_⟩
    have hl := F.lenAll xs
    rw [rds_own', hk]
    simp only [Option.bind_some, Nat.zero_add, List.drop_zero]
    rw [if_pos (by omega), List.take_of_length_le (by omega)]
/-- append(l, m...). -/
theorem app_own_all (F : Fix f sz) {hb h : AHeap} {xs ys : List α} {v w : AVal} (hv : Own f sz hb h v xs) (eb : Ext hb h) (hs : SrcL f sz I h w ys) {bytes : Nat} (hby : bytes ≤ 4096) (hn : xs.length + ys.length ≤ 20000000000) :
    Res (sAppend I sz bytes v w h) fun u g => Own f sz hb g u (xs ++ ys) ∧ Ext hb g ∧ KeepB v u h g := by
  rcases hs with ⟨rfl, hz⟩ | ⟨hne, l, o, cap, rfl, hr⟩
  · have : sAppend I sz bytes v w h = some (v, h) := by
      have hc : ∃ n, srcCells I h sz w = some (n, []) ∧ n = 0 := by
        rcases hz with rfl | ⟨l, o, c, rfl, hr⟩
        · exact ⟨0, rfl, rfl⟩
        · exact ⟨0, by simp only [srcCells, hr], rfl⟩
      obtain ⟨n, hc, rfl⟩ := hc
      rcases hv with ⟨rfl, rfl⟩ | ⟨k, rfl, _⟩
      · simp only [sAppend, appendK_eq, appendTo, hc]
      · simp only [sAppend, appendK_eq, appendTo, hc]
    exact ⟨_, _, this, by rw [List.append_nil]; exact hv, eb, Nat.le_refl _, fun m hm hl => ⟨rfl, hm⟩⟩
  · obtain ⟨y, ys, rfl⟩ : ∃ y r, ys = y :: r := by
      cases ys with
      | nil => exact absurd rfl hne
      | cons y r => exact ⟨y, r, rfl⟩
    have ha := F.oneAll (y :: ys)
    have hB : ∀ n, n ≤ 20000000000 → Nat.ble (n * bytes) bigRoom = true := fun n hn => Nat.ble_eq_true_of_le (by
      have : n * bytes ≤ 20000000000 * 4096 := Nat.mul_le_mul hn hby
      simp only [bigRoom]; omega)
    have hB2 : ∀ n, n ≤ 20000000000 → Nat.ble n bigRoom = true := fun n hn => Nat.ble_eq_true_of_le (by simp only [bigRoom]; omega)
    rcases hv with ⟨rfl, rfl⟩ | ⟨k, rfl, hk, h1, h2, h3⟩
    · have hb1 := hB (y :: ys).length (by simpa using hn)
      have hb2 := hB2 (y :: ys).length (by simpa using hn)
      have : sAppend I sz bytes .nils (.sl l o (y :: ys).length cap) h = some (.sl (.own h.next) 0 (y :: ys).length (.grown sz), h.alloc ⟨(y :: ys).flatMap f, true⟩) := by
        simp only [sAppend, appendK_eq, appendTo, srcCells, hr]
        simp only [List.length_cons] at hb1 hb2 ⊢
        simp only [ha, hb1, hb2]
        rfl
      exact ⟨_, _, this, .inr ⟨h.next, by simp, by rw [AHeap.alloc_at (Nb.o rfl)]; simp, eb.lo, by simp, by simp⟩, eb.alloc, by simp, fun m hm hl => ⟨AHeap.alloc_ne (Nb.o (by omega)), fun k o n c e => by cases e; omega⟩⟩
    · have hl := F.lenAll xs
      have hp := F.pos
      have hb1 := hB (xs.length + (y :: ys).length) hn
      have hb2 := hB2 (xs.length + (y :: ys).length) hn
      have hlm : (y :: ys).flatMap f ≠ [] := by
        intro h0
        have := F.lenAll (y :: ys)
        rw [h0] at this
        simp only [List.length_nil, List.length_cons, Nat.succ_mul] at this
        omega
      have : sAppend I sz bytes (.sl (.own k) 0 xs.length (.grown sz)) (.sl l o (y :: ys).length cap) h = some (.sl (.own h.next) 0 (xs.length + (y :: ys).length) (.grown sz), (h.kill k).alloc ⟨xs.flatMap f ++ (y :: ys).flatMap f, true⟩) := by
        have hle : Nat.ble (0 + xs.length * sz) (xs.flatMap f).length = true := Nat.ble_eq_true_of_le (by omega)
        have hgt : Nat.ble (0 + xs.length * sz + ((y :: ys).flatMap f).length) (xs.flatMap f).length = false := by
          cases hx : Nat.ble (0 + xs.length * sz + ((y :: ys).flatMap f).length) (xs.flatMap f).length with
          | false => rfl
          | true =>
            have := Nat.le_of_ble_eq_true hx
            have := List.length_pos_iff.2 hlm
            omega
        have ht : ((xs.flatMap f).drop 0).take (xs.length * sz) = xs.flatMap f := by rw [List.drop_zero, List.take_of_length_le (by omega)]
        simp only [sAppend, appendK_eq, appendTo, srcCells, hr]
        simp only [List.length_cons] at hb1 hb2 ⊢
        simp only [ha, hb1, hb2, hk, Nat.beq_refl, hle, hgt, F.oneAll xs, Bool.and_self, ht, show h.room = true from rfl]
      refine ⟨_, _, this, .inr ⟨h.next, by simp, ?_, eb.lo, by simp, by simp⟩, (eb.kill (Nb.o h1)).alloc, by simp, fun m hm hl => ⟨?_, fun k o n c e => by cases e; omega⟩⟩
      · rw [show h.next = (h.kill k).next from rfl, AHeap.alloc_at (Nb.o rfl)]; simp
      · rw [AHeap.alloc_ne (Nb.o (by show m ≠ h.next; omega))]
        exact AHeap.kill_ne (Nb.o (hm k _ _ _ rfl))
end
end
end Go.Proofs.YtncjcnipagdmlaaDoor.Tx

set_option linter.unusedSimpArgs false
set_option linter.unusedVariables false
namespace Go.Proofs.YtncjcnipagdmlaaDoor.Tx
noncomputable section
open Go.AM Go.Proofs.YtncjcnipagdmlaaDoor.Sf
section
variable {I : Inp} {h0 : AHeap}
/-! numbers as bytes -/
def byF (x : Nat) : List AVal := [.int .u8 (x : Int)]
theorem byFix : Fix byF 1 := ⟨fun _ => rfl, fun _ => rfl, by omega⟩
def zig (n : Int) : Nat := if n < 0 then (-(2 * n) - 1).toNat else (2 * n).toNat
def varint (u : Nat) : List Nat := if h : u < 128 then [u] else (u % 128 + 128) :: varint (u / 128)
termination_by u
decreasing_by omega
theorem varint_small {u : Nat} (h : u < 128) : varint u = [u] := by rw [varint, dif_pos h]
theorem varint_big {u : Nat} (h : ¬ u < 128) : varint u = (u % 128 + 128) :: varint (u / 128) := by rw [varint, dif_neg h]
def numB (n : Int) : List Nat := varint (zig n)
theorem zig_lt {n : Int} (h : InR n) : zig n < 18446744073709551616 := by
  obtain ⟨h1, h2⟩ := h
  unfold zig
  split <;> omega
theorem varint_len : ∀ (k u : Nat), u < 128 ^ (k + 1) → (varint u).length ≤ k + 1
  | 0, u, h => by rw [varint_small (by simpa using h)]; simp
  | k + 1, u, h => by
    by_cases hs : u < 128
    · rw [varint_small hs]; simp
    · rw [varint_big hs]
      have := varint_len k (u / 128) (by rw [Nat.pow_succ] at h; exact Nat.div_lt_of_lt_mul (by omega))
      simp only [List.length_cons]; omega
theorem wrapU {x : Nat} (h : x < 18446744073709551616) : IntKind.u64.wrap (x : Int) = x := by
  simp only [IntKind.wrap, IntKind.bits, IntKind.signed]; simp; omega
theorem wrapB {x : Nat} (h : x < 256) : IntKind.u8.wrap (x : Int) = x := by
  simp only [IntKind.wrap, IntKind.bits, IntKind.signed]; simp; omega
theorem u_rem (u : Nat) : pBin .rem (.int .u64 (u : Int)) (.int .u64 128) = some (.int .u64 ((u % 128 : Nat) : Int)) := by
  show some (AVal.int .u64 (Int.tmod (u : Int) 128)) = _
  rw [show Int.tmod (u : Int) 128 = ((u % 128 : Nat) : Int) from (Int.ofNat_tmod u 128).symm]
theorem u_quo {u : Nat} (h : u < 18446744073709551616) : pBin .quo (.int .u64 (u : Int)) (.int .u64 128) = some (.int .u64 ((u / 128 : Nat) : Int)) := by
  show some (AVal.int .u64 (IntKind.u64.wrap (Int.tdiv (u : Int) 128))) = _
  rw [show Int.tdiv (u : Int) 128 = ((u / 128 : Nat) : Int) from (Int.ofNat_tdiv u 128).symm, wrapU (by omega)]
theorem u_add {u : Nat} (h : u < 128) : pBin .add (.int .u64 (u : Int)) (.int .u64 128) = some (.int .u64 ((u + 128 : Nat) : Int)) := by
  show some (AVal.int .u64 (IntKind.u64.wrap ((u : Int) + 128))) = _
  rw [show (u : Int) + 128 = ((u + 128 : Nat) : Int) by omega, wrapU (by omega)]
theorem u_byte {u : Nat} (h : u < 256) : pToInt .u8 (.int .u64 (u : Int)) = some (.int .u8 (u : Int)) := by
  show some (AVal.int .u8 (IntKind.u8.wrap (u : Int))) = _
  rw [wrapB h]
theorem u_not {b : Nat} (h : b < 18446744073709551616) : pUn .xor (.int .u64 (b : Int)) = some (.int .u64 ((18446744073709551615 - b : Nat) : Int)) := by
  show some (AVal.int .u64 (IntKind.u64.wrap ((BitVec.ofInt 64 18446744073709551615 ^^^ BitVec.ofInt 64 (b : Int)).toNat : Int))) = _
  have h1 : BitVec.ofInt 64 18446744073709551615 = BitVec.allOnes 64 := by decide
  have h2 : BitVec.ofInt 64 (b : Int) = BitVec.ofNat 64 b := BitVec.ofInt_natCast 64 b
  rw [h1, h2, BitVec.allOnes_xor, BitVec.toNat_not, BitVec.toNat_ofNat, Nat.mod_eq_of_lt (by omega)]
  rw [show (2 ^ 64 - 1 - b : Nat) = 18446744073709551615 - b by omega, wrapU (by omega)]
theorem rNum_loop : ∀ (u : Nat), u < 18446744073709551616 → ∀ hb : AHeap, Evt fun n => ∀ (acc : List Nat) v h, Own byF 1 hb h v acc → acc.length + (varint u).length ≤ 100000 → Ext hb h → Res ((f19.J I (AM.lim ⟨P, I, genF P Sh.prims⟩) (n)).2.1 (.int .u64 (u : Int)) v h) fun w g => Own byF 1 hb g w (acc ++ varint u) ∧ Ext hb g := by
  intro u
  induction u using Nat.strongRecOn with
  | _ u ih =>
    intro hu hb
    by_cases hs : u < 128
    · have hge : ¬ (128 : Int) ≤ u := by omega
      have hge' : (u : Int) < 128 := by omega
      have hw8 := u_byte (u := u) (by omega)
      refine Evt.all 5 fun n acc v h hv hl e => ?_
      have hlo := e.lo
      rw [varint_small hs]
      rw [f19.n2]; unfold f19.b2
      (repeat' (first | refine Rf (fun hF hG => ?_) (fun hF hG => ?_) | assumption | (show Ext _ _; exact Ext.go) | (simp only [AHeap.next_alloc, AHeap.next_set, AHeap.next_kill, AHeap.next_res] at hle hsame) | simp (disch := first | exact D.go | fail) [setR, List.getElem?_cons_zero, List.getElem?_cons_succ, f19.n1, f19.b1, hge, hge', hw8, *]))
      refine Res.after (app_own (I := I) (f := byF) (v := v) (xs := acc) (h := h.alloc ⟨byF u, true⟩) (kw := h.next) (c := .known 1) byFix (bytes := 1) (hv.mono (Ext.refl h).alloc) e.alloc u (by omega) (by omega) (AHeap.alloc_at (Nb.o rfl))) (fun w g hA => ?_)
      exact Res_some.2 ⟨hA.1, hA.2.1⟩
    · have hge : (128 : Int) ≤ u := by omega
      have hge' : ¬ (u : Int) < 128 := by omega
      have hr := u_rem u
      have ha := u_add (u := u % 128) (by omega)
      have hw8 := u_byte (u := u % 128 + 128) (by omega)
      have hq := u_quo hu
      refine Evt.step 5 (ih (u / 128) (by omega) (by omega) hb) fun n hn acc v h hv hl e => ?_
      have hlo := e.lo
      rw [varint_big hs] at hl ⊢
      simp only [List.length_cons] at hl
      rw [f19.n2]; unfold f19.b2
      generalize u % 128 + 128 = z at *
      generalize u % 128 = r at *
      generalize u / 128 = d at *
      (repeat' (first | refine Rf (fun hF hG => ?_) (fun hF hG => ?_) | assumption | (show Ext _ _; exact Ext.go) | (simp only [AHeap.next_alloc, AHeap.next_set, AHeap.next_kill, AHeap.next_res] at hle hsame) | simp (disch := first | exact D.go | fail) [setR, List.getElem?_cons_zero, List.getElem?_cons_succ, f19.n3, f19.b3, hge, hge', hr, ha, hw8, hq, *]))
      refine Res.after (app_own (I := I) (f := byF) (v := v) (xs := acc) (h := h.alloc ⟨byF z, true⟩) (kw := h.next) (c := .known 1) byFix (bytes := 1) (hv.mono (Ext.refl h).alloc) e.alloc z (by omega) (by omega) (AHeap.alloc_at (Nb.o rfl))) (fun u g hA => ?_)
      have hn' := fun m hm => hn m hm (acc ++ [z]) u g hA.1 (by simp only [List.length_append, List.length_cons, List.length_nil]; omega) hA.2.1
      simp only [List.append_assoc, List.cons_append, List.nil_append] at hn'
      (repeat' (first | refine Rf (fun hF hG => ?_) (fun hF hG => ?_) | assumption | (show Ext _ _; exact Ext.go) | (simp only [AHeap.next_alloc, AHeap.next_set, AHeap.next_kill, AHeap.next_res] at hle hsame) | simp (disch := first | exact D.go | fail) [setR, List.getElem?_cons_zero, List.getElem?_cons_succ, hq, *]))
theorem numB_len {n : Int} (h : InR n) : (numB n).length ≤ 10 := varint_len 9 _ (Nat.lt_of_lt_of_le (zig_lt h) (by decide))
theorem rNum {n : Int} (hn : InR n) (hb : AHeap) : Res ((AM.lim ⟨P, I, genF P Sh.prims⟩) 19 [.int .i64 n] hb) fun u g => Own byF 1 hb g u (numB n) ∧ Ext hb g := by
  obtain ⟨N, hN⟩ := rNum_loop (I := I) (zig n) (zig_lt hn) hb
  have hl := numB_len hn
  have hfin := fun m hm => hN m hm [] .nils hb Own.nil (by unfold numB at hl; simp only [List.length_nil]; omega) (Ext.refl hb)
  simp only [List.nil_append] at hfin
  have hn' := hn
  obtain ⟨h1, h2⟩ := hn'
  by_cases hs : n < 0
  · have hz : zig n = (-(2 * n) - 1).toNat := by unfold zig; rw [if_pos hs]
    obtain ⟨a, ha⟩ : ∃ a : Nat, pToInt .u64 (.int .i64 n) = some (.int .u64 (a : Int)) ∧ (a : Int) = n + 18446744073709551616 := ⟨(n + 18446744073709551616).toNat, by
      show some (AVal.int .u64 (IntKind.u64.wrap n)) = _
      congr 2
      simp only [IntKind.wrap, IntKind.bits, IntKind.signed]; simp; omega, by omega⟩
    obtain ⟨ha, hav⟩ := ha
    obtain ⟨b, hbm, hbv⟩ : ∃ b : Nat, pBin .mul (.int .u64 (a : Int)) (.int .u64 2) = some (.int .u64 (b : Int)) ∧ (b : Int) = 2 * n + 18446744073709551616 := ⟨(2 * n + 18446744073709551616).toNat, by
      show some (AVal.int .u64 (IntKind.u64.wrap ((a : Int) * 2))) = _
      congr 2
      simp only [IntKind.wrap, IntKind.bits, IntKind.signed]; simp; omega, by omega⟩
    have hx := u_not (b := b) (by omega)
    rw [show 18446744073709551615 - b = zig n by omega] at hx
    refine f19.lim rfl (n := N + 2) ?_
    unfold f19.e
    unfold numB
    generalize zig n = z at *
    clear hz hav hbv
    (repeat' (first | refine Rf (fun hF hG => ?_) (fun hF hG => ?_) | assumption | (show Ext _ _; exact Ext.go) | (simp only [AHeap.next_alloc, AHeap.next_set, AHeap.next_kill, AHeap.next_res] at hle hsame) | simp (disch := first | exact D.go | fail) [setR, List.getElem?_cons_zero, List.getElem?_cons_succ, f19.n0, f19.b0, ha, hbm, hx, hs, *]))
  · have hz : zig n = (2 * n).toNat := by unfold zig; rw [if_neg hs]
    obtain ⟨a, rfl⟩ : ∃ a : Nat, n = a := ⟨n.toNat, by omega⟩
    have ha : pToInt .u64 (.int .i64 (a : Int)) = some (.int .u64 (a : Int)) := by
      show some (AVal.int .u64 (IntKind.u64.wrap (a : Int))) = _
      rw [wrapU (by omega)]
    have hbm : pBin .mul (.int .u64 (a : Int)) (.int .u64 2) = some (.int .u64 (zig a : Int)) := by
      show some (AVal.int .u64 (IntKind.u64.wrap ((a : Int) * 2))) = _
      rw [hz, show (a : Int) * 2 = ((2 * a : Nat) : Int) by omega, wrapU (by omega)]
      rw [show 2 * a = (2 * (a : Int)).toNat by omega]
    refine f19.lim rfl (n := N + 2) ?_
    unfold f19.e
    unfold numB
    generalize zig a = z at *
    clear hz
    (repeat' (first | refine Rf (fun hF hG => ?_) (fun hF hG => ?_) | assumption | (show Ext _ _; exact Ext.go) | (simp only [AHeap.next_alloc, AHeap.next_set, AHeap.next_kill, AHeap.next_res] at hle hsame) | simp (disch := first | exact D.go | fail) [setR, List.getElem?_cons_zero, List.getElem?_cons_succ, f19.n0, f19.b0, ha, hbm, hs, *]))
end
end
end Go.Proofs.YtncjcnipagdmlaaDoor.Tx

set_option linter.unusedSimpArgs false
set_option linter.unusedVariables false
namespace Go.Proofs.YtncjcnipagdmlaaDoor.Tx
noncomputable section
open Go.AM Go.Proofs.YtncjcnipagdmlaaDoor.Sf
section
variable {I : Inp} {h0 : AHeap}
/-! lists of numbers and of types as bytes -/
def numsB (xs : List Int) : List Nat := numB xs.length ++ xs.flatMap numB
/-- append(l, num(n)...). -/
theorem app_num {hb h g : AHeap} {acc : List Nat} {w u : AVal} {n : Int} (hr : InR n) (hw : Own byF 1 hb h w acc) (e : Ext hb h) (x : Ext h g) (hu : Own byF 1 h g u (numB n)) (hl : acc.length ≤ 19000000000) :
    Res (sAppend I 1 1 w u g) fun v k => Own byF 1 hb k v (acc ++ numB n) ∧ Ext hb k ∧ KeepB w v g k :=
  app_own_all byFix (hw.mono x) (e.trans x) (hu.src byFix) (by omega) (by have := numB_len hr; omega)
theorem rNums {v : AVal} {xs : List Int} (sv : SlOf 1 (IntA I h0) v xs) (hm : xs.length ≤ 1048576) (hb : AHeap) (eb : Ext h0 hb) : Res ((AM.lim ⟨P, I, genF P Sh.prims⟩) 21 [v] hb) fun u g => Own byF 1 hb g u (numsB xs) ∧ Ext hb g := by
  obtain ⟨N, hN⟩ := Evt.loop xs (F := fun i n => ∀ (acc : List Nat) w h, Own byF 1 hb h w acc → acc.length ≤ 10 + 10 * i → Ext hb h → Res ((f21.J I (AM.lim ⟨P, I, genF P Sh.prims⟩) (n)).1.2 v w (.int .i64 i) h) fun u g => Own byF 1 hb g u (acc ++ (xs.drop i).flatMap numB) ∧ Ext hb g) 8
    (Evt.all 8 fun n acc w h hw hl e => by
      have hlo := e.lo
      have hfin : Own byF 1 hb h w (acc ++ (xs.drop xs.length).flatMap numB) := by simpa using hw
      rw [f21.n1]; unfold f21.b1
      (repeat' (first | refine Rf (fun hF hG => ?_) (fun hF hG => ?_) | assumption | (show Ext _ _; exact Ext.go) | (simp only [AHeap.next_alloc, AHeap.next_set, AHeap.next_kill, AHeap.next_res] at hle hsame) | simp (disch := first | exact D.go | fail) [setR, List.getElem?_cons_zero, List.getElem?_cons_succ, f21.n0, f21.b0, sv.len, *]))
      all_goals first | exact hfin | exact ⟨hfin, e⟩ | exact Res_some.2 ⟨hfin, e⟩ | skip)
    (fun i x n hx ih acc w h hw hl e => by
      have hlt := lt_of_get hx; have hwi := wrap_in (n := (i : Int) + 1) ⟨by omega, by omega⟩
      simp only [Int.natCast_add, Int.natCast_one] at ih
      have hlo := e.lo
      have e0 := eb.trans e
      obtain ⟨l1, o1, hi, hxa⟩ := sv.at hx
      obtain ⟨hxa, hr⟩ := hxa.int
      obtain ⟨u1, g1, c1, A1, x1⟩ := rNum (I := I) hr h
      have hnl := numB_len hr
      rw [drop_of_get hx]
      simp only [List.flatMap_cons]
      rw [f21.n1]; unfold f21.b1
      (repeat' (first | refine Rf (fun hF hG => ?_) (fun hF hG => ?_) | assumption | (show Ext _ _; exact Ext.go) | (simp only [AHeap.next_alloc, AHeap.next_set, AHeap.next_kill, AHeap.next_res] at hle hsame) | simp (disch := first | exact D.go | fail) [setR, List.getElem?_cons_zero, List.getElem?_cons_succ, f21.n2, f21.b2, sv.len, hi, hxa, hlt, c1, *]))
      refine Res.after (app_num hr hw e x1 A1 (by omega)) (fun u2 g2 hA => ?_)
      have hi2 := fun m hm => ih m hm (acc ++ numB x) u2 g2 hA.1 (by rw [List.length_append]; omega) hA.2.1
      simp only [List.append_assoc] at hi2
      rw [f21.n3]; unfold f21.b3
      (repeat' (first | refine Rf (fun hF hG => ?_) (fun hF hG => ?_) | assumption | (show Ext _ _; exact Ext.go) | (simp only [AHeap.next_alloc, AHeap.next_set, AHeap.next_kill, AHeap.next_res] at hle hsame) | simp (disch := first | exact D.go | fail) [setR, List.getElem?_cons_zero, List.getElem?_cons_succ, hwi, *]))
      all_goals first | exact hi2 _ (by omega) | skip)
    0 (by omega)
  have hrl : InR (xs.length : Int) := ⟨by omega, by omega⟩
  obtain ⟨u1, g1, c1, A1, x1⟩ := rNum (I := I) hrl hb
  have hfin := fun m hm => hN m hm (numB xs.length) u1 g1 A1 (by have := numB_len hrl; omega) x1
  simp only [List.drop_zero] at hfin
  refine f21.lim rfl (n := N + 2) ?_
  unfold f21.e
  unfold numsB
  (repeat' (first | refine Rf (fun hF hG => ?_) (fun hF hG => ?_) | assumption | (show Ext _ _; exact Ext.go) | (simp only [AHeap.next_alloc, AHeap.next_set, AHeap.next_kill, AHeap.next_res] at hle hsame) | simp (disch := first | exact D.go | fail) [setR, List.getElem?_cons_zero, List.getElem?_cons_succ, sv.len, c1, *]))
  all_goals first | exact hfin _ (by omega) | skip
def tyB (t : Ty) : List Nat := numB t.kind ++ numB t.n
def typesB (xs : List Ty) : List Nat := numB xs.length ++ xs.flatMap tyB
theorem rTys {v : AVal} {xs : List Ty} (sv : SlOf 2 (At I h0 TyC) v xs) (hm : xs.length ≤ 1048576) (hb : AHeap) (eb : Ext h0 hb) : Res ((AM.lim ⟨P, I, genF P Sh.prims⟩) 20 [v] hb) fun u g => Own byF 1 hb g u (typesB xs) ∧ Ext hb g := by
  obtain ⟨N, hN⟩ := Evt.loop xs (F := fun i n => ∀ (acc : List Nat) w h, Own byF 1 hb h w acc → acc.length ≤ 10 + 20 * i → Ext hb h → Res ((f20.J I (AM.lim ⟨P, I, genF P Sh.prims⟩) (n)).1.2 v w (.int .i64 i) h) fun u g => Own byF 1 hb g u (acc ++ (xs.drop i).flatMap tyB) ∧ Ext hb g) 8
    (Evt.all 8 fun n acc w h hw hl e => by
      have hlo := e.lo
      have hfin : Own byF 1 hb h w (acc ++ (xs.drop xs.length).flatMap tyB) := by simpa using hw
      rw [f20.n1]; unfold f20.b1
      (repeat' (first | refine Rf (fun hF hG => ?_) (fun hF hG => ?_) | assumption | (show Ext _ _; exact Ext.go) | (simp only [AHeap.next_alloc, AHeap.next_set, AHeap.next_kill, AHeap.next_res] at hle hsame) | simp (disch := first | exact D.go | fail) [setR, List.getElem?_cons_zero, List.getElem?_cons_succ, f20.n0, f20.b0, sv.len, *]))
      all_goals first | exact hfin | exact ⟨hfin, e⟩ | exact Res_some.2 ⟨hfin, e⟩ | skip)
    (fun i x n hx ih acc w h hw hl e => by
      have hlt := lt_of_get hx; have hwi := wrap_in (n := (i : Int) + 1) ⟨by omega, by omega⟩
      simp only [Int.natCast_add, Int.natCast_one] at ih
      have hlo := e.lo
      have e0 := eb.trans e
      obtain ⟨l1, o1, hi, ⟨_, ⟨rfl, hr0, hr1⟩, ha⟩⟩ := sv.at hx
      obtain ⟨u1, g1, c1, A1, x1⟩ := rNum (I := I) hr0 h
      have hnl := numB_len hr0
      have hnl1 := numB_len hr1
      have e01 := e0.trans x1
      rw [drop_of_get hx]
      simp only [List.flatMap_cons]
      rw [f20.n1]; unfold f20.b1
      (repeat' (first | refine Rf (fun hF hG => ?_) (fun hF hG => ?_) | assumption | (show Ext _ _; exact Ext.go) | (simp only [AHeap.next_alloc, AHeap.next_set, AHeap.next_kill, AHeap.next_res] at hle hsame) | simp (disch := first | exact D.go | fail) [setR, List.getElem?_cons_zero, List.getElem?_cons_succ, f20.n2, f20.b2, sv.len, hi, ha.rd0, ha.rd1, hlt, c1, *]))
      refine Res.after (app_num hr0 hw e x1 A1 (by omega)) (fun u2 g2 hA => ?_)
      have e2 : Ext hb g2 := hA.2.1
      have e02 := eb.trans e2
      obtain ⟨u3, g3, c3, A3, x3⟩ := rNum (I := I) hr1 g2
      have e03 := e02.trans x3
      (repeat' (first | refine Rf (fun hF hG => ?_) (fun hF hG => ?_) | assumption | (show Ext _ _; exact Ext.go) | (simp only [AHeap.next_alloc, AHeap.next_set, AHeap.next_kill, AHeap.next_res] at hle hsame) | simp (disch := first | exact D.go | fail) [setR, List.getElem?_cons_zero, List.getElem?_cons_succ, hi, ha.rd1, c3, *]))
      refine Res.after (app_num hr1 hA.1 e2 x3 A3 (by rw [List.length_append]; omega)) (fun u4 g4 hA4 => ?_)
      have hi2 := fun m hm => ih m hm (acc ++ numB x.kind ++ numB x.n) u4 g4 hA4.1 (by rw [List.length_append, List.length_append]; omega) hA4.2.1
      simp only [List.append_assoc] at hi2
      simp only [tyB, List.append_assoc]
      (repeat' (first | refine Rf (fun hF hG => ?_) (fun hF hG => ?_) | assumption | (show Ext _ _; exact Ext.go) | (simp only [AHeap.next_alloc, AHeap.next_set, AHeap.next_kill, AHeap.next_res] at hle hsame) | simp (disch := first | exact D.go | fail) [setR, List.getElem?_cons_zero, List.getElem?_cons_succ, f20.n3, f20.b3, hwi, ha.rd1, *]))
      all_goals first | exact hi2 _ (by omega) | skip)
    0 (by omega)
  have hrl : InR (xs.length : Int) := ⟨by omega, by omega⟩
  obtain ⟨u1, g1, c1, A1, x1⟩ := rNum (I := I) hrl hb
  have hfin := fun m hm => hN m hm (numB xs.length) u1 g1 A1 (by have := numB_len hrl; omega) x1
  simp only [List.drop_zero] at hfin
  refine f20.lim rfl (n := N + 2) ?_
  unfold f20.e
  unfold typesB
  (repeat' (first | refine Rf (fun hF hG => ?_) (fun hF hG => ?_) | assumption | (show Ext _ _; exact Ext.go) | (simp only [AHeap.next_alloc, AHeap.next_set, AHeap.next_kill, AHeap.next_res] at hle hsame) | simp (disch := first | exact D.go | fail) [setR, List.getElem?_cons_zero, List.getElem?_cons_succ, sv.len, c1, *]))
  all_goals first | exact hfin _ (by omega) | skip
/-- A number written and appended: what is kept. -/
theorem num_app {hb h : AHeap} {acc : List Nat} {w : AVal} {n : Int} (hr : InR n) (hw : Own byF 1 hb h w acc) (e : Ext hb h) (hl : acc.length ≤ 19000000000) :
    ∃ u1 g1 u2 g2, (AM.lim ⟨P, I, genF P Sh.prims⟩) 19 [.int .i64 n] h = some (u1, g1) ∧ sAppend I 1 1 w u1 g1 = some (u2, g2) ∧ Own byF 1 hb g2 u2 (acc ++ numB n) ∧ Ext hb g2 ∧ (acc ++ numB n).length ≤ acc.length + 10 ∧
      ∀ m, NotB w m → m < h.next → g1.get m = h.get m ∧ g2.get m = h.get m ∧ NotB u2 m ∧ m < g2.next := by
  obtain ⟨u1, g1, c1, A1, x1⟩ := rNum (I := I) hr h
  obtain ⟨u2, g2, c2, A2, x2, hk⟩ := app_num (I := I) hr hw e x1 A1 hl
  refine ⟨u1, g1, u2, g2, c1, c2, A2, x2, by have := numB_len hr; rw [List.length_append]; omega, fun m hm hml => ?_⟩
  have hml1 : m < g1.next := by have := x1.lo; omega
  obtain ⟨k1, k2⟩ := hk.2 m hm hml1
  exact ⟨x1.same m hml, k1.trans (x1.same m hml), k2, by have := hk.1; omega⟩
theorem numsB_len {xs : List Int} (hr : ∀ x ∈ xs, InR x) (hm : xs.length ≤ 1048576) : (numsB xs).length ≤ 10 + 10 * xs.length := by
  have h1 : ∀ l : List Int, (∀ x ∈ l, InR x) → (l.flatMap numB).length ≤ 10 * l.length := by
    intro l
    induction l with
    | nil => simp
    | cons a r ih =>
      intro h
      have := numB_len (h a (by simp))
      have := ih fun x hx => h x (by simp [hx])
      simp only [List.flatMap_cons, List.length_append, List.length_cons]; omega
  have h2 := h1 xs hr
  have h3 := numB_len (n := (xs.length : Int)) ⟨by omega, by omega⟩
  unfold numsB
  rw [List.length_append]; omega
/-- A list of numbers written and appended. -/
theorem nums_app {v : AVal} {xs : List Int} (sv : SlOf 1 (IntA I h0) v xs) (hm : xs.length ≤ 1048576) {hb h : AHeap} (e0 : Ext h0 h) {acc : List Nat} {w : AVal} (hw : Own byF 1 hb h w acc) (e : Ext hb h) (hl : acc.length ≤ 18000000000) :
    ∃ u1 g1 u2 g2, (AM.lim ⟨P, I, genF P Sh.prims⟩) 21 [v] h = some (u1, g1) ∧ sAppend I 1 1 w u1 g1 = some (u2, g2) ∧ Own byF 1 hb g2 u2 (acc ++ numsB xs) ∧ Ext hb g2 ∧ (acc ++ numsB xs).length ≤ acc.length + (10 + 10 * xs.length) ∧
      ∀ m, NotB w m → m < h.next → g1.get m = h.get m ∧ g2.get m = h.get m ∧ NotB u2 m ∧ m < g2.next := by
  obtain ⟨u1, g1, c1, A1, x1⟩ := rNums sv hm h e0
  have hln := numsB_len sv.ranges hm
  obtain ⟨u2, g2, c2, A2, x2, hk⟩ := app_own_all (I := I) byFix (bytes := 1) (hw.mono x1) (e.trans x1) (A1.src byFix) (by omega) (by omega)
  refine ⟨u1, g1, u2, g2, c1, c2, A2, x2, by rw [List.length_append]; omega, fun m hm hml => ?_⟩
  have hml1 : m < g1.next := by have := x1.lo; omega
  obtain ⟨k1, k2⟩ := hk.2 m hm hml1
  exact ⟨x1.same m hml, k1.trans (x1.same m hml), k2, by have := hk.1; omega⟩
end
end
end Go.Proofs.YtncjcnipagdmlaaDoor.Tx

set_option linter.unusedSimpArgs false
set_option linter.unusedVariables false
namespace Go.Proofs.YtncjcnipagdmlaaDoor.Tx
noncomputable section
open Go.AM Go.Proofs.YtncjcnipagdmlaaDoor.Sf
section
variable {I : Inp} {h0 : AHeap}
def insB (i : Ins) : List Nat := numB i.op ++ (numB i.dst ++ (numB i.a ++ (numB i.b ++ (numB i.n ++ numsB i.args))))
def blkB (b : Bk) : List Nat := numB b.code.length ++ (b.code.flatMap insB ++ (numB b.fin ++ (numB b.reg ++ (numB b.to ++ numB b.els))))
theorem rBlk {cs : List AVal} {b : Bk} (hB : BkC I h0 cs b) (hm : b.code.length ≤ 1048576) (hB30 : (blkB b).length ≤ 30000000) (hS : ∀ i ∈ b.code, i.args.length ≤ 1048576) (hb : AHeap) (eb : Ext h0 hb) : Res ((AM.lim ⟨P, I, genF P Sh.prims⟩) 22 [.agg cs] hb) fun u g => Own byF 1 hb g u (blkB b) ∧ Ext hb g := by
  obtain ⟨vc, rfl, sc, q1, q2, q3, q4⟩ := hB
  have oc := sc.one
  have lc := sc.len
  obtain ⟨N, hN⟩ := Evt.loop b.code (F := fun i n => ∀ (acc : List Nat) w k h, Own byF 1 hb h w acc → acc.length + ((b.code.drop i).flatMap insB).length ≤ 40000000 → h.get k = some ⟨[vc, .int .i64 b.fin, .int .i64 b.reg, .int .i64 b.to, .int .i64 b.els], true⟩ → k < h.next → NotB w k → Ext hb h →
      Res ((f22.J I (AM.lim ⟨P, I, genF P Sh.prims⟩) (n)).1.2 (.ptr (.own k) 0) w (.int .i64 i) h) fun u g => Own byF 1 hb g u (acc ++ ((b.code.drop i).flatMap insB ++ (numB b.fin ++ (numB b.reg ++ (numB b.to ++ numB b.els))))) ∧ Ext hb g) 8
    (Evt.all 8 fun n acc w k h hw hl hk hkl nk e => by
      have hlo := e.lo
      obtain ⟨u1, g1, w1, k1, c1, a1, W1, E1, L1, K1⟩ := num_app (I := I) q1 hw e (by omega)
      obtain ⟨x1, y1, z1, t1⟩ := K1 k nk hkl
      obtain ⟨u2, g2, w2, k2, c2, a2, W2, E2, L2, K2⟩ := num_app (I := I) q2 W1 E1 (by omega)
      obtain ⟨x2, y2, z2, t2⟩ := K2 k z1 t1
      obtain ⟨u3, g3, w3, k3, c3, a3, W3, E3, L3, K3⟩ := num_app (I := I) q3 W2 E2 (by omega)
      obtain ⟨x3, y3, z3, t3⟩ := K3 k z2 t2
      obtain ⟨u4, g4, w4, k4, c4, a4, W4, E4, L4, K4⟩ := num_app (I := I) q4 W3 E3 (by omega)
      have gx1 := x1.trans hk
      have gy1 := y1.trans hk
      have gx2 := x2.trans gy1
      have gy2 := y2.trans gy1
      have gx3 := x3.trans gy2
      have gy3 := y3.trans gy2
      clear x1 y1 x2 y2 x3 y3 K1 K2 K3 K4
      have hfin : Own byF 1 hb k4 w4 (acc ++ (numB b.fin ++ (numB b.reg ++ (numB b.to ++ numB b.els)))) := by
        simpa using W4
      rw [f22.n1]; unfold f22.b1
      (repeat' (first | refine Rf (fun hF hG => ?_) (fun hF hG => ?_) | assumption | (show Ext _ _; exact Ext.go) | (simp only [AHeap.next_alloc, AHeap.next_set, AHeap.next_kill, AHeap.next_res] at hle hsame) | simp (disch := first | exact D.go | fail) [setR, List.getElem?_cons_zero, List.getElem?_cons_succ, f22.n0, f22.b0, hk, lc, c1, a1, c2, a2, c3, a3, c4, a4, gx1, gy1, gx2, gy2, gx3, gy3, *])))
    (fun i x n hx ih acc w k h hw hl hk hkl nk e => by
      have hlt := lt_of_get hx; have hwi := wrap_in (n := (i : Int) + 1) ⟨by omega, by omega⟩
      simp only [Int.natCast_add, Int.natCast_one] at ih
      have hlo := e.lo
      have hmem := List.mem_of_getElem? hx
      obtain ⟨l3, o3, hji, ⟨ci, hic, ha3⟩⟩ := sc.at hx
      obtain ⟨va, rfl, sva, r0, r1, r2, r3, r4⟩ := hic
      have hld6 := fun g e => ha3.rds (n := 6) g e rfl (by omega)
      have oa := sva.one
      have hargs := hS x hmem
      have e0 := eb.trans e
      obtain ⟨H, hH⟩ : ∃ H, H = (h.alloc ⟨[Z 0, Z 0, Z 0, Z 0, Z 0, .nils], true⟩).set h.next ⟨[.int .i64 x.op, .int .i64 x.dst, .int .i64 x.a, .int .i64 x.b, .int .i64 x.n, va], true⟩ := ⟨_, rfl⟩
      have xH : Ext h H := by rw [hH]; exact (Ext.refl h).alloc.set (Nb.o (Nat.le_refl _))
      have h5 : H.get h.next = some ⟨[.int .i64 x.op, .int .i64 x.dst, .int .i64 x.a, .int .i64 x.b, .int .i64 x.n, va], true⟩ := by rw [hH, AHeap.set_at (Nb.o rfl)]
      have hkH : H.get k = some ⟨[vc, .int .i64 b.fin, .int .i64 b.reg, .int .i64 b.to, .int .i64 b.els], true⟩ := (xH.same k hkl).trans hk
      have hHn : H.next = h.next + 1 := by rw [hH]; simp
      have n5 : NotB w h.next := hw.notB (.inr (Nat.le_refl _))
      have eH := e.trans xH
      have hxl : i < b.code.length := hlt
      rw [drop_of_get hx, List.flatMap_cons, List.length_append] at hl
      have hins : (insB x).length = (numB x.op).length + ((numB x.dst).length + ((numB x.a).length + ((numB x.b).length + ((numB x.n).length + (numsB x.args).length)))) := by unfold insB; simp only [List.length_append]
      obtain ⟨u1, g1, w1, k1, c1, a1, W1, E1, L1, K1⟩ := num_app (I := I) r0 (hw.mono xH) eH (by omega)
      obtain ⟨x1, y1, z1, t1⟩ := K1 k nk (by omega)
      obtain ⟨p1, q1', s1, m1⟩ := K1 h.next n5 (by omega)
      obtain ⟨u2, g2, w2, k2, c2, a2, W2, E2, L2, K2⟩ := num_app (I := I) r1 W1 E1 (by omega)
      obtain ⟨x2, y2, z2, t2⟩ := K2 k z1 t1
      obtain ⟨p2, q2', s2, m2⟩ := K2 h.next s1 m1
      obtain ⟨u3, g3, w3, k3, c3, a3, W3, E3, L3, K3⟩ := num_app (I := I) r2 W2 E2 (by omega)
      obtain ⟨x3, y3, z3, t3⟩ := K3 k z2 t2
      obtain ⟨p3, q3', s3, m3⟩ := K3 h.next s2 m2
      obtain ⟨u4, g4, w4, k4, c4, a4, W4, E4, L4, K4⟩ := num_app (I := I) r3 W3 E3 (by omega)
      obtain ⟨x4, y4, z4, t4⟩ := K4 k z3 t3
      obtain ⟨p4, q4', s4, m4⟩ := K4 h.next s3 m3
      obtain ⟨u5, g5, w5, k5, c5, a5, W5, E5, L5, K5⟩ := num_app (I := I) r4 W4 E4 (by omega)
      obtain ⟨x5, y5, z5, t5⟩ := K5 k z4 t4
      obtain ⟨p5, q5', s5, m5⟩ := K5 h.next s4 m4
      obtain ⟨u6, g6, w6, k6, c6, a6, W6, E6, L6, K6⟩ := nums_app sva hargs (eb.trans E5) W5 E5 (by omega)
      obtain ⟨x6, y6, z6, t6⟩ := K6 k z5 t5
      have v1 := q1'.trans h5
      have v2 := q2'.trans v1
      have v3 := q3'.trans v2
      have v4 := q4'.trans v3
      have v5 := q5'.trans v4
      have gk : k6.get k = some ⟨[vc, .int .i64 b.fin, .int .i64 b.reg, .int .i64 b.to, .int .i64 b.els], true⟩ := y6.trans (y5.trans (y4.trans (y3.trans (y2.trans (y1.trans hkH)))))
      have hlen6 := L6
      have hi2 := fun m hm => ih m hm _ w6 k k6 W6 (by simp only [List.length_append]; omega) gk t6 z6 E6
      rw [drop_of_get hx]
      simp only [List.flatMap_cons, insB, List.append_assoc] at hi2 ⊢
      clear x1 y1 x2 y2 x3 y3 x4 y4 x5 y5 x6 y6 p1 p2 p3 p4 p5 q1' q2' q3' q4' q5' K1 K2 K3 K4 K5 K6 L1 L2 L3 L4 L5 L6 hlen6
      subst hH
      rw [f22.n1]; unfold f22.b1
      (repeat' (first | refine Rf (fun hF hG => ?_) (fun hF hG => ?_) | assumption | (show Ext _ _; exact Ext.go) | (simp only [AHeap.next_alloc, AHeap.next_set, AHeap.next_kill, AHeap.next_res] at hle hsame) | simp (disch := first | exact D.go | fail) [setR, List.getElem?_cons_zero, List.getElem?_cons_succ, f22.n2, f22.b2, f22.n3, f22.b3, hk, lc, hlt, hji, hld6, oa, h5, v1, v2, v3, v4, v5, c1, a1, c2, a2, c3, a3, c4, a4, c5, a5, c6, a6, hwi, *])))
    0 (by omega)
  have hrl : InR (b.code.length : Int) := ⟨by omega, by omega⟩
  have hb30 : (numB b.code.length).length + (b.code.flatMap insB).length ≤ 30000000 := by
    have := hB30; unfold blkB at this; simp only [List.length_append] at this; omega
  obtain ⟨H, hH⟩ : ∃ H, H = hb.alloc ⟨[vc, .int .i64 b.fin, .int .i64 b.reg, .int .i64 b.to, .int .i64 b.els], true⟩ := ⟨_, rfl⟩
  have xH : Ext hb H := by rw [hH]; exact (Ext.refl hb).alloc
  have hHn : H.next = hb.next + 1 := by rw [hH]; simp
  have hkH : H.get hb.next = some ⟨[vc, .int .i64 b.fin, .int .i64 b.reg, .int .i64 b.to, .int .i64 b.els], true⟩ := by rw [hH]; exact AHeap.alloc_at (Nb.o rfl)
  obtain ⟨u1, g1, c1, A1, x1⟩ := rNum (I := I) hrl H
  have hfin := fun m hm => hN m hm (numB b.code.length) u1 hb.next g1 (A1.base (by omega)) (by rw [List.drop_zero]; omega) ((x1.same _ (by omega)).trans hkH) (by have := x1.lo; omega) (A1.notB (.inl (by omega))) (xH.trans x1)
  simp only [List.drop_zero] at hfin
  unfold blkB
  subst hH
  refine f22.lim rfl (n := N + 2) ?_
  unfold f22.e
  (repeat' (first | refine Rf (fun hF hG => ?_) (fun hF hG => ?_) | assumption | (show Ext _ _; exact Ext.go) | (simp only [AHeap.next_alloc, AHeap.next_set, AHeap.next_kill, AHeap.next_res] at hle hsame) | simp (disch := first | exact D.go | fail) [setR, List.getElem?_cons_zero, List.getElem?_cons_succ, lc, c1, *]))
  all_goals exact hfin _ (by omega)
end
end
end Go.Proofs.YtncjcnipagdmlaaDoor.Tx

set_option linter.unusedSimpArgs false
set_option linter.unusedVariables false
namespace Go.Proofs.YtncjcnipagdmlaaDoor.Tx
noncomputable section
open Go.AM Go.Proofs.YtncjcnipagdmlaaDoor.Sf
section
variable {I : Inp} {h0 : AHeap}
theorem Own.v1 {α : Type} {f : α → List AVal} {sz : Nat} {hb h : AHeap} {v : AVal} {xs : List α} (a : Own f sz hb h v xs) : v.one = true ∧ v.cells = [v] := by
  rcases a with ⟨rfl, rfl⟩ | ⟨k, rfl, _⟩ <;> exact ⟨rfl, rfl⟩
theorem Own.setB {α : Type} {f : α → List AVal} {sz : Nat} {hb h : AHeap} {v : AVal} {xs : List α} (a : Own f sz hb h v xs) {m : Nat} {b : Blk} (nb : NotB v m) : Own f sz hb (h.set m b) v xs := by
  rcases a with a | ⟨k, rfl, hk, h1, h2, h3⟩
  · exact .inl a
  · exact .inr ⟨k, rfl, by rw [AHeap.set_ne (Nb.o (Ne.symm (nb k _ _ _ rfl)))]; exact hk, h1, h2, h3⟩
/-! the writer: numbers -/
/-- A writer of one's own that holds these bytes: all its blocks are younger than 'hb'. -/
structure WrAt (hb h : AHeap) (kw : Nat) (acc : List Nat) : Prop where
  lo : hb.next ≤ kw
  hi : kw < h.next
  ext : Ext hb h
  at_ : ∃ v, h.get kw = some ⟨[v], true⟩ ∧ Own byF 1 hb h v acc ∧ NotB v kw
/-- What the writer's work leaves as it was. -/
def WKeep (kw : Nat) (h g : AHeap) : Prop := h.next ≤ g.next ∧ ∀ m, m < h.next → m ≠ kw → (∀ v, h.get kw = some ⟨[v], true⟩ → NotB v m) → g.get m = h.get m ∧ ∀ v, g.get kw = some ⟨[v], true⟩ → NotB v m
theorem WKeep.refl (kw : Nat) (h : AHeap) : WKeep kw h h := ⟨Nat.le_refl _, fun m _ _ hn => ⟨rfl, hn⟩⟩
theorem WKeep.trans {kw : Nat} {a b c : AHeap} (x : WKeep kw a b) (y : WKeep kw b c) : WKeep kw a c :=
  ⟨Nat.le_trans x.1 y.1, fun m hm hne hn => let ⟨p, q⟩ := x.2 m hm hne hn; let ⟨p', q'⟩ := y.2 m (Nat.lt_of_lt_of_le hm x.1) hne q; ⟨p'.trans p, q'⟩⟩
theorem or128 : ∀ x : Nat, x < 256 → (BitVec.ofNat 8 x ||| BitVec.ofNat 8 128).toNat = x % 128 + 128 := by decide +kernel
theorem u_mod8 {u : Nat} : pToInt .u8 (.int .u64 (u : Int)) = some (.int .u8 ((u % 256 : Nat) : Int)) := by
  show some (AVal.int .u8 (IntKind.u8.wrap (u : Int))) = _
  congr 2
theorem u_or {x : Nat} (h : x < 256) : pBin .or (.int .u8 (x : Int)) (.int .u8 128) = some (.int .u8 ((x % 128 + 128 : Nat) : Int)) := by
  show some (AVal.int .u8 (IntKind.u8.wrap ((BitVec.ofInt 8 (x : Int) ||| BitVec.ofInt 8 128).toNat : Int))) = _
  have h2 : BitVec.ofInt 8 (x : Int) = BitVec.ofNat 8 x := BitVec.ofInt_natCast 8 x
  have h3 : BitVec.ofInt 8 128 = BitVec.ofNat 8 128 := by decide
  rw [h2, h3, or128 x h, wrapB (by omega)]
theorem u_shr7 {u : Nat} : pBin .shr (.int .u64 (u : Int)) (.int .u64 7) = some (.int .u64 ((u / 128 : Nat) : Int)) := by
  show some (AVal.int .u64 (Int.fdiv (u : Int) 128)) = _
  rw [Int.fdiv_eq_ediv_of_nonneg _ (by omega)]; rfl
theorem u_shl1 {u : Nat} : pBin .shl (.int .u64 (u : Int)) (.int .u64 1) = some (.int .u64 (IntKind.u64.wrap ((u * 2 : Nat) : Int))) := by
  show some (AVal.int .u64 (IntKind.u64.wrap ((u : Int) * 2))) = _
  rw [show (u : Int) * 2 = ((u * 2 : Nat) : Int) by omega]
theorem wNum_loop : ∀ (u : Nat), u < 18446744073709551616 → ∀ hb : AHeap, ∀ kw : Nat, Evt fun n => ∀ (acc : List Nat) h, WrAt hb h kw acc → acc.length + (varint u).length ≤ 1000000000 → Res ((f34.J I (AM.lim ⟨P, I, genF P Sh.prims⟩) (n)).2.1 (.ptr (.own kw) 0) (.int .u64 (u : Int)) h) fun w g => w = .tuple [] ∧ WrAt hb g kw (acc ++ varint u) ∧ WKeep kw h g := by
  intro u
  -- one byte more
  have step : ∀ (hb : AHeap) (kw : Nat) (acc : List Nat) (h : AHeap) (x : Nat), WrAt hb h kw acc → acc.length ≤ 1000000000 → ∃ v w g, h.get kw = some ⟨[v], true⟩ ∧ (h.alloc ⟨byF x, true⟩).get kw = some ⟨[v], true⟩ ∧ v.one = true ∧ sAppend I 1 1 v (.sl (.own h.next) 0 1 (.known 1)) (h.alloc ⟨byF x, true⟩) = some (w, g) ∧ w.one = true ∧ w.cells = [w] ∧ g.get kw = some ⟨[v], true⟩ ∧ WrAt hb (g.set kw ⟨[w], true⟩) kw (acc ++ [x]) ∧ WKeep kw h (g.set kw ⟨[w], true⟩) := by
    intro hb kw acc h x W hl
    obtain ⟨v, hk, o, nb⟩ := W.at_
    obtain ⟨w, g, e1, o1, x1, k1, k2⟩ := app_own (I := I) (f := byF) byFix (o.mono (Ext.refl h).alloc) W.ext.alloc x (bytes := 1) (by omega) (by omega) (kw := h.next) (c := .known 1) (AHeap.alloc_at (Nb.o rfl))
    have hi := W.hi
    simp only [AHeap.next_alloc] at k1 k2
    have hka : (h.alloc ⟨byF x, true⟩).get kw = some ⟨[v], true⟩ := by rw [AHeap.alloc_ne (Nb.o (by omega))]; exact hk
    obtain ⟨q1, q2⟩ := k2 kw nb (by omega)
    have ov := o.v1
    have ow := o1.v1
    refine ⟨v, w, g, hk, hka, ov.1, e1, ow.1, ow.2, q1.trans hka, ⟨W.lo, by simp; omega, x1.set (Nb.o W.lo), w, AHeap.set_at (Nb.o rfl), o1.setB q2, q2⟩, by simp; omega, fun m hm hne hn => ?_⟩
    obtain ⟨p1, p2⟩ := k2 m (hn v hk) (by omega)
    refine ⟨?_, fun v' hv' => ?_⟩
    · rw [AHeap.set_ne (Nb.o hne), p1, AHeap.alloc_ne (Nb.o (by omega))]
    · rw [AHeap.set_at (Nb.o rfl)] at hv'
      cases hv'; exact p2
  induction u using Nat.strongRecOn with
  | _ u ih =>
    intro hu hb kw
    by_cases hs : u < 128
    · have hge : ¬ (127 : Int) < u := by omega
      have hw8 := u_byte (u := u) (by omega)
      refine Evt.all 3 fun n acc h W hl => ?_
      obtain ⟨v, w, g, s1, s2, s3, s4, s5, s6, s7, s8, s9⟩ := step hb kw acc h u W (by omega)
      rw [varint_small hs]
      have hu' : (byF u : List AVal) = [.int .u8 (u : Int)] := rfl
      rw [hu'] at s2 s4
      clear ih step
      rw [f34.n2]; unfold f34.b2
      simp (disch := first | exact D.go | fail) [setR, List.getElem?_cons_zero, List.getElem?_cons_succ, f34.n1, f34.b1, hge, s1, s2, s4, s6, s7, hw8, s5]
      exact ⟨s8, s9⟩
    · have hge : (127 : Int) < u := by omega
      have hw8 := u_mod8 (u := u)
      have hor := u_or (x := u % 256) (by omega)
      rw [show u % 256 % 128 + 128 = u % 128 + 128 by omega] at hor
      have hsh := u_shr7 (u := u)
      refine Evt.step 4 (ih (u / 128) (by omega) (by omega) hb kw) fun n hn acc h W hl => ?_
      rw [varint_big hs] at hl ⊢
      simp only [List.length_cons] at hl
      obtain ⟨v, w, g, s1, s2, s3, s4, s5, s6, s7, s8, s9⟩ := step hb kw acc h (u % 128 + 128) W (by omega)
      have hu' : (byF (u % 128 + 128) : List AVal) = [.int .u8 ((u % 128 + 128 : Nat) : Int)] := rfl
      rw [hu'] at s2 s4
      have hend := fun m hm => hn m hm (acc ++ [u % 128 + 128]) _ s8 (by simp only [List.length_append, List.length_cons, List.length_nil]; omega)
      simp only [List.append_assoc, List.cons_append, List.nil_append] at hend
      clear ih step hn
      generalize u % 128 + 128 = z at *
      generalize u % 256 = y at *
      generalize u / 128 = d at *
      have hend' := fun m hm => (hend m hm).mono (Q' := fun w g' => w = .tuple [] ∧ WrAt hb g' kw (acc ++ z :: varint d) ∧ WKeep kw h g') fun u g ⟨h1, h2, h3⟩ => ⟨h1, h2, s9.trans h3⟩
      rw [f34.n2]; unfold f34.b2
      simp (disch := first | exact D.go | fail) [setR, List.getElem?_cons_zero, List.getElem?_cons_succ, f34.n3, f34.b3, hge, s1, s2, s4, s6, s7, hw8, hor, hsh, s5]
      exact hend' _ (by omega)
end
end
end Go.Proofs.YtncjcnipagdmlaaDoor.Tx

set_option linter.unusedSimpArgs false
set_option linter.unusedVariables false
namespace Go.Proofs.YtncjcnipagdmlaaDoor.Tx
noncomputable section
open Go.AM Go.Proofs.YtncjcnipagdmlaaDoor.Sf
section
variable {I : Inp} {h0 : AHeap}
theorem wNum {n : Int} (hn : InR n) {hb h : AHeap} {kw : Nat} {acc : List Nat} (W : WrAt hb h kw acc) (hl : acc.length ≤ 900000000) : ∃ g, (AM.lim ⟨P, I, genF P Sh.prims⟩) 34 [.ptr (.own kw) 0, .int .i64 n] h = some (.tuple [], g) ∧ WrAt hb g kw (acc ++ numB n) ∧ WKeep kw h g := by
  obtain ⟨N, hN⟩ := wNum_loop (I := I) (zig n) (zig_lt hn) hb kw
  have hlen := numB_len hn
  have hfin := fun m hm => hN m hm acc h W (by unfold numB at hlen; omega)
  have key : Res ((AM.lim ⟨P, I, genF P Sh.prims⟩) 34 [.ptr (.own kw) 0, .int .i64 n] h) fun w g => w = .tuple [] ∧ WrAt hb g kw (acc ++ varint (zig n)) ∧ WKeep kw h g := by
    obtain ⟨h1, h2⟩ := hn
    by_cases hs : n < 0
    · have hz : zig n = (-(2 * n) - 1).toNat := by unfold zig; rw [if_pos hs]
      obtain ⟨a, ha⟩ : ∃ a : Nat, pToInt .u64 (.int .i64 n) = some (.int .u64 (a : Int)) ∧ (a : Int) = n + 18446744073709551616 := ⟨(n + 18446744073709551616).toNat, by
        show some (AVal.int .u64 (IntKind.u64.wrap n)) = _
        congr 2
        simp only [IntKind.wrap, IntKind.bits, IntKind.signed]; simp; omega, by omega⟩
      obtain ⟨ha, hav⟩ := ha
      obtain ⟨b, hbm, hbv⟩ : ∃ b : Nat, pBin .shl (.int .u64 (a : Int)) (.int .u64 1) = some (.int .u64 (b : Int)) ∧ (b : Int) = 2 * n + 18446744073709551616 := ⟨(2 * n + 18446744073709551616).toNat, by
        rw [u_shl1]
        congr 2
        simp only [IntKind.wrap, IntKind.bits, IntKind.signed]; simp; omega, by omega⟩
      have hx := u_not (b := b) (by omega)
      rw [show 18446744073709551615 - b = zig n by omega] at hx
      refine f34.lim rfl (n := N + 2) ?_
      unfold f34.e
      generalize zig n = z at *
      generalize hQ : (fun (w : AVal) (g : AHeap) => w = .tuple [] ∧ WrAt hb g kw (acc ++ varint z) ∧ WKeep kw h g) = Q at *
      clear hz hav hbv hQ W
      simp (disch := first | exact D.go | fail) [setR, List.getElem?_cons_zero, List.getElem?_cons_succ, f34.n0, f34.b0, ha, hbm, hx, hs]
      exact hfin _ (by omega)
    · have hz : zig n = (2 * n).toNat := by unfold zig; rw [if_neg hs]
      obtain ⟨a, rfl⟩ : ∃ a : Nat, n = a := ⟨n.toNat, by omega⟩
      have ha : pToInt .u64 (.int .i64 (a : Int)) = some (.int .u64 (a : Int)) := by
        show some (AVal.int .u64 (IntKind.u64.wrap (a : Int))) = _
        rw [wrapU (by omega)]
      have hbm : pBin .shl (.int .u64 (a : Int)) (.int .u64 1) = some (.int .u64 (zig a : Int)) := by
        rw [u_shl1, hz, wrapU (by omega)]
        rw [show a * 2 = (2 * (a : Int)).toNat by omega]
      refine f34.lim rfl (n := N + 2) ?_
      unfold f34.e
      generalize zig a = z at *
      generalize hQ : (fun (w : AVal) (g : AHeap) => w = .tuple [] ∧ WrAt hb g kw (acc ++ varint z) ∧ WKeep kw h g) = Q at *
      clear hz hQ W
      simp (disch := first | exact D.go | fail) [setR, List.getElem?_cons_zero, List.getElem?_cons_succ, f34.n0, f34.b0, ha, hbm, hs]
      exact hfin _ (by omega)
  obtain ⟨w, g, e, rfl, h1, h2⟩ := key
  exact ⟨g, e, h1, h2⟩
/-- A list of numbers. -/
theorem wNums {v : AVal} {xs : List Int} (sv : SlOf 1 (IntA I h0) v xs) (hm : xs.length ≤ 1048576) {hb h : AHeap} (e0 : Ext h0 hb) {kw : Nat} {acc : List Nat} (W : WrAt hb h kw acc) (hl : acc.length ≤ 100000000) : ∃ g, (AM.lim ⟨P, I, genF P Sh.prims⟩) 36 [.ptr (.own kw) 0, v] h = some (.tuple [], g) ∧ WrAt hb g kw (acc ++ numsB xs) ∧ WKeep kw h g := by
  obtain ⟨N, hN⟩ := Evt.loop xs (F := fun i n => ∀ (acc' : List Nat) g, WrAt hb g kw acc' → WKeep kw h g → acc'.length ≤ acc.length + 10 + 10 * i → Res ((f36.J I (AM.lim ⟨P, I, genF P Sh.prims⟩) (n)).1 (.ptr (.own kw) 0) v (.int .i64 xs.length) (.int .i64 i) g) fun u k => u = .tuple [] ∧ WrAt hb k kw (acc' ++ (xs.drop i).flatMap numB) ∧ WKeep kw h k) 4
    (Evt.all 4 fun n acc' g W' K' hl' => by
      have hfin : WrAt hb g kw (acc' ++ (xs.drop xs.length).flatMap numB) := by simpa using W'
      generalize hQ : (fun (u : AVal) (k : AHeap) => u = .tuple [] ∧ WrAt hb k kw (acc' ++ (xs.drop xs.length).flatMap numB) ∧ WKeep kw h k) = Q
      have hq : Q (.tuple []) g := by rw [← hQ]; exact ⟨rfl, hfin, K'⟩
      clear hQ
      have hlt : ¬ (xs.length : Int) < xs.length := by omega
      rw [f36.n0]; unfold f36.b0
      simp (disch := first | exact D.go | fail) [setR, List.getElem?_cons_zero, List.getElem?_cons_succ]
      exact hq)
    (fun i x n hx ih acc' g W' K' hl' => by
      have hlt := lt_of_get hx
      have hlt' : (i : Int) < xs.length := by omega
      have hwi := wrap_in (n := (i : Int) + 1) ⟨by omega, by omega⟩
      obtain ⟨l1, o1, hi, hxa⟩ := sv.at hx
      obtain ⟨hxa, hr⟩ := hxa.int
      have hxa := hxa g (e0.trans W'.ext)
      have hnl := numB_len hr
      obtain ⟨k, c1, W1, K1⟩ := wNum (I := I) hr W' (by omega)
      have hi2 := fun m hm => ih m hm (acc' ++ numB x) k W1 (K'.trans K1) (by rw [List.length_append]; omega)
      simp only [List.append_assoc, Int.natCast_add, Int.natCast_one] at hi2
      rw [drop_of_get hx]
      simp only [List.flatMap_cons]
      clear ih
      generalize hQ : (fun (u : AVal) (k : AHeap) => u = .tuple [] ∧ WrAt hb k kw (acc' ++ (numB x ++ (xs.drop (i + 1)).flatMap numB)) ∧ WKeep kw h k) = Q at *
      clear hQ
      rw [f36.n0]; unfold f36.b0
      simp (disch := first | exact D.go | fail) [setR, List.getElem?_cons_zero, List.getElem?_cons_succ, hlt', f36.n1, f36.b1, hi, hxa, c1, f36.n2, f36.b2, hwi]
      exact hi2 _ (by omega))
    0 (by omega)
  have hrl : InR (xs.length : Int) := ⟨by omega, by omega⟩
  have hnl := numB_len hrl
  obtain ⟨g1, c1, W1, K1⟩ := wNum (I := I) hrl W (by omega)
  have hfin := hN (N + 1) (by omega) (acc ++ numB xs.length) g1 W1 K1 (by rw [List.length_append]; omega)
  simp only [List.drop_zero, List.append_assoc] at hfin
  have key : Res ((AM.lim ⟨P, I, genF P Sh.prims⟩) 36 [.ptr (.own kw) 0, v] h) fun w g => w = .tuple [] ∧ WrAt hb g kw (acc ++ numsB xs) ∧ WKeep kw h g := by
    refine f36.lim rfl (n := N + 1) ?_
    unfold f36.e
    unfold numsB
    generalize hQ : (fun (u : AVal) (k : AHeap) => u = .tuple [] ∧ WrAt hb k kw (acc ++ (numB xs.length ++ xs.flatMap numB)) ∧ WKeep kw h k) = Q at *
    clear hQ hN W1 K1
    simp (disch := first | exact D.go | fail) [setR, List.getElem?_cons_zero, List.getElem?_cons_succ, sv.len, c1]
    exact hfin
  obtain ⟨w, g, e, rfl, h1, h2⟩ := key
  exact ⟨g, e, h1, h2⟩
end
end
end Go.Proofs.YtncjcnipagdmlaaDoor.Tx

set_option linter.unusedSimpArgs false
set_option linter.unusedVariables false
namespace Go.Proofs.YtncjcnipagdmlaaDoor.Tx
noncomputable section
open Go.AM Go.Proofs.YtncjcnipagdmlaaDoor.Sf
section
variable {I : Inp} {h0 : AHeap}
/-! a program of one interface alone, written -/
theorem WrAt.mono {hb h g : AHeap} {kw : Nat} {acc : List Nat} (W : WrAt hb h kw acc) (x : Ext h g) : WrAt hb g kw acc := by
  obtain ⟨v, hk, o, nb⟩ := W.at_
  exact ⟨W.lo, Nat.lt_of_lt_of_le W.hi x.lo, W.ext.trans x, v, (x.same _ W.hi).trans hk, o.mono x, nb⟩
theorem r0 : InR 0 := ⟨by omega, by omega⟩
theorem r1 : InR 1 := ⟨by omega, by omega⟩
theorem numB0 : numB 0 = [0] := by unfold numB zig; rw [if_neg (by omega)]; rw [varint_small (by decide)]; rfl
theorem numB1 : numB 1 = [2] := by unfold numB zig; rw [if_neg (by omega)]; rw [varint_small (by decide)]; rfl
/-- The bytes of a program of one interface. -/
def faceB (xs : List Int) : List Nat := numB 0 ++ (numB 0 ++ (numB 1 ++ (numsB xs ++ (numB 0 ++ (numB 0 ++ numB 0)))))
/-- Such a program lies in a block of one's own. -/
structure FaceAt (I : Inp) (h : AHeap) (kp : Nat) (xs : List Int) : Prop where
  hi : kp < h.next
  at_ : ∃ ki cap v, h.get kp = some ⟨[.nils, .nils, .sl (.own ki) 0 1 cap, .nils, .nils, Z 0], true⟩ ∧ ki < h.next ∧ h.get ki = some ⟨[v], true⟩ ∧ SlOf 1 (IntA I h) v xs
theorem FaceAt.mono {h g : AHeap} {kp : Nat} {xs : List Int} (a : FaceAt I h kp xs) (x : Ext h g) : FaceAt I g kp xs := by
  obtain ⟨ki, cap, v, h1, h2, h3, sv⟩ := a.at_
  have := x.lo
  have := a.hi
  exact ⟨by omega, ki, cap, v, (x.same _ a.hi).trans h1, by omega, (x.same _ h2).trans h3, SlOf.mono (fun l o t c => At.mono (fun _ _ h => h) c x) sv⟩
theorem tText {hb : AHeap} {kp : Nat} {xs : List Int} (a : FaceAt I hb kp xs) (hm : xs.length ≤ 100000) : Res ((AM.lim ⟨P, I, genF P Sh.prims⟩) 24 [.ptr (.own kp) 0] hb) fun u g => Own byF 1 hb g u (faceB xs) ∧ Ext hb g := by
  obtain ⟨ki, cap, v, h1, h2, h3, sv⟩ := a.at_
  have hkp := a.hi
  have hln := numsB_len sv.ranges (by omega)
  obtain ⟨H, hH⟩ : ∃ H, H = hb.alloc ⟨[.nils], true⟩ := ⟨_, rfl⟩
  have xH : Ext hb H := by rw [hH]; exact (Ext.refl hb).alloc
  have hHn : H.next = hb.next + 1 := by rw [hH]; simp
  have hHk : H.get hb.next = some ⟨[.nils], true⟩ := by rw [hH]; exact AHeap.alloc_at (Nb.o rfl)
  have W0 : WrAt hb H hb.next [] := ⟨Nat.le_refl _, by omega, xH, .nils, hHk, Own.nil, fun k o n c e => by cases e⟩
  obtain ⟨g1, c1, W1, K1⟩ := wNum (I := I) r0 W0 (by simp)
  obtain ⟨g2, c2, W2, K2⟩ := wNum (I := I) r0 W1 (by simp [numB0])
  obtain ⟨g3, c3, W3, K3⟩ := wNum (I := I) r1 W2 (by simp [numB0])
  obtain ⟨G, hG⟩ : ∃ G, G = (g3.alloc ⟨[.nils], true⟩).set g3.next ⟨[v], true⟩ := ⟨_, rfl⟩
  have xG : Ext g3 G := by rw [hG]; exact (Ext.refl g3).alloc.set (Nb.o (Nat.le_refl _))
  have hGk : G.get g3.next = some ⟨[v], true⟩ := by rw [hG]; exact AHeap.set_at (Nb.o rfl)
  obtain ⟨g4, c4, W4, K4⟩ := wNums (I := I) (h0 := hb) sv (by omega) (Ext.refl hb) (W3.mono xG) (by simp [numB0, numB1])
  obtain ⟨g5, c5, W5, K5⟩ := wNum (I := I) r0 W4 (by simp [numB0, numB1]; omega)
  obtain ⟨g6, c6, W6, K6⟩ := wNum (I := I) r0 W5 (by simp [numB0, numB1]; omega)
  obtain ⟨g7, c7, W7, K7⟩ := wNum (I := I) r0 W6 (by simp [numB0, numB1]; omega)
  have q0 := (xH.same _ hkp).trans h1
  have q1 := (W1.ext.same _ hkp).trans h1
  have q2 := (W2.ext.same _ hkp).trans h1
  have q3 := (W3.ext.same _ hkp).trans h1
  have q4 := (W4.ext.same _ hkp).trans h1
  have q5 := (W5.ext.same _ hkp).trans h1
  have q6 := (W6.ext.same _ hkp).trans h1
  have qi := (W3.ext.same _ h2).trans h3
  obtain ⟨w, hw, ow, _⟩ := W7.at_
  have hgoal : Own byF 1 hb g7 w (faceB xs) := by
    unfold faceB
    simpa using ow
  have hfin : Own byF 1 hb g7 w (faceB xs) ∧ Ext hb g7 := ⟨hgoal, W7.ext⟩
  have z0 : pIndexAddr 1 (.sl (.own ki) 0 1 cap) (Z 0) = some (.ptr (.own ki) 0) := rfl
  have w1 : IntKind.i64.wrap 1 = 1 := wrap_in r1
  have ov := sv.one
  have cv := sv.cells
  have ev := sv.self
  refine f24.lim rfl (n := 14) ?_
  unfold f24.e
  generalize hQ : (fun (u : AVal) (g : AHeap) => Own byF 1 hb g u (faceB xs) ∧ Ext hb g) = Q
  have hq : Q w g7 := by rw [← hQ]; exact hfin
  have e1 : (AM.lim ⟨P, I, genF P Sh.prims⟩) 34 [.ptr (.own hb.next) 0, .int .i64 0] (hb.alloc ⟨[.nils], true⟩) = some (.tuple [], g1) := by rw [← hH]; exact c1
  have e2 : (AM.lim ⟨P, I, genF P Sh.prims⟩) 34 [.ptr (.own hb.next) 0, .int .i64 0] g1 = some (.tuple [], g2) := c2
  have e3 : (AM.lim ⟨P, I, genF P Sh.prims⟩) 34 [.ptr (.own hb.next) 0, .int .i64 1] g2 = some (.tuple [], g3) := c3
  have e4 : (AM.lim ⟨P, I, genF P Sh.prims⟩) 36 [.ptr (.own hb.next) 0, v] ((g3.alloc ⟨[.nils], true⟩).set g3.next ⟨[v], true⟩) = some (.tuple [], g4) := by rw [← hG]; exact c4
  have e5 : (AM.lim ⟨P, I, genF P Sh.prims⟩) 34 [.ptr (.own hb.next) 0, .int .i64 0] g4 = some (.tuple [], g5) := c5
  have e6 : (AM.lim ⟨P, I, genF P Sh.prims⟩) 34 [.ptr (.own hb.next) 0, .int .i64 0] g5 = some (.tuple [], g6) := c6
  have e7 : (AM.lim ⟨P, I, genF P Sh.prims⟩) 34 [.ptr (.own hb.next) 0, Z 0] g6 = some (.tuple [], g7) := c7
  have q0' : (hb.alloc ⟨[.nils], true⟩).get kp = some ⟨[.nils, .nils, .sl (.own ki) 0 1 cap, .nils, .nils, Z 0], true⟩ := by rw [← hH]; exact q0
  clear hQ W0 W1 W2 W3 W4 W5 W6 W7 K1 K2 K3 K4 K5 K6 K7 hfin hgoal ow c1 c2 c3 c4 c5 c6 c7 hG hH xG xH hHk hGk sv
  simp (disch := first | exact D.go | fail) [setR, List.getElem?_cons_zero, List.getElem?_cons_succ, f24.n0, f24.b0, f24.n1, f24.b1, f24.n2, f24.b2, f24.n3, f24.b3, f24.n4, f24.b4, f24.n5, f24.b5, f24.n6, f24.b6, f24.n7, f24.b7, f24.n8, f24.b8, f24.n9, f24.b9, f24.n10, f24.b10, f24.n11, f24.b11, f24.n12, f24.b12, f24.n13, f24.b13, f24.n14, f24.b14, f24.n15, f24.b15, f24.n16, f24.b16, f24.n17, f24.b17, f24.n18, f24.b18, f24.n19, f24.b19, q0', q1, q2, q3, q4, q5, q6, qi, e1, e2, e3, e4, e5, e6, e7, z0, w1, ov, cv, ev, hw]
  exact hq
end
end
end Go.Proofs.YtncjcnipagdmlaaDoor.Tx

set_option linter.unusedSimpArgs false
set_option linter.unusedVariables false
namespace Go.Proofs.YtncjcnipagdmlaaDoor.Tx
noncomputable section
open Go.AM Go.Proofs.YtncjcnipagdmlaaDoor.Sf
section
variable {I : Inp} {h0 : AHeap}
/-! the writer: types, instructions -/
/-- A block that the writer does not touch. -/
def Pv (kw : Nat) (h : AHeap) (m : Nat) : Prop := m < h.next ∧ m ≠ kw ∧ ∀ v, h.get kw = some ⟨[v], true⟩ → NotB v m
theorem WKeep.pv {kw : Nat} {h g : AHeap} (K : WKeep kw h g) {m : Nat} (p : Pv kw h m) : g.get m = h.get m ∧ Pv kw g m := by
  obtain ⟨h1, h2, h3⟩ := p
  obtain ⟨k1, k2⟩ := K.2 m h1 h2 h3
  exact ⟨k1, by have := K.1; omega, h2, k2⟩
theorem WrAt.new {hb h H : AHeap} {kw : Nat} {acc : List Nat} (W : WrAt hb h kw acc) (x : Ext h H) {m : Nat} (h1 : h.next ≤ m) (h2 : m < H.next) : Pv kw H m := by
  obtain ⟨v, hk, o, nb⟩ := W.at_
  refine ⟨h2, by have := W.hi; omega, fun v' hv' => ?_⟩
  rw [x.same _ W.hi, hk] at hv'
  cases hv'
  exact o.notB (.inr h1)
theorem WKeep.ext {kw : Nat} {h g : AHeap} {hb : AHeap} {acc : List Nat} (W : WrAt hb h kw acc) (x : Ext h g) : WKeep kw h g :=
  ⟨x.lo, fun m hm hne hn => ⟨x.same m hm, fun v hv => hn v (by rw [← x.same _ W.hi]; exact hv)⟩⟩
theorem wTypes {v : AVal} {xs : List Ty} (sv : SlOf 2 (At I h0 TyC) v xs) {hb h : AHeap} (e0 : Ext h0 hb) {kw : Nat} {acc : List Nat} (W : WrAt hb h kw acc) (hl : acc.length + (10 + 20 * xs.length) ≤ 800000000) : ∃ g, (AM.lim ⟨P, I, genF P Sh.prims⟩) 35 [.ptr (.own kw) 0, v] h = some (.tuple [], g) ∧ WrAt hb g kw (acc ++ typesB xs) ∧ WKeep kw h g := by
  obtain ⟨N, hN⟩ := Evt.loop xs (F := fun i n => ∀ (acc' : List Nat) g, WrAt hb g kw acc' → WKeep kw h g → acc'.length ≤ acc.length + 10 + 20 * i → Res ((f35.J I (AM.lim ⟨P, I, genF P Sh.prims⟩) (n)).1 (.ptr (.own kw) 0) v (.int .i64 xs.length) (.int .i64 i) g) fun u k => u = .tuple [] ∧ WrAt hb k kw (acc' ++ (xs.drop i).flatMap tyB) ∧ WKeep kw h k) 4
    (Evt.all 4 fun n acc' g W' K' hl' => by
      have hfin : WrAt hb g kw (acc' ++ (xs.drop xs.length).flatMap tyB) := by simpa using W'
      generalize hQ : (fun (u : AVal) (k : AHeap) => u = .tuple [] ∧ WrAt hb k kw (acc' ++ (xs.drop xs.length).flatMap tyB) ∧ WKeep kw h k) = Q
      have hq : Q (.tuple []) g := by rw [← hQ]; exact ⟨rfl, hfin, K'⟩
      clear hQ
      have hlt : ¬ (xs.length : Int) < xs.length := by omega
      rw [f35.n0]; unfold f35.b0
      simp (disch := first | exact D.go | fail) [setR, List.getElem?_cons_zero, List.getElem?_cons_succ]
      exact hq)
    (fun i x n hx ih acc' g W' K' hl' => by
      have hlt := lt_of_get hx
      have hlt' : (i : Int) < xs.length := by omega
      have hwi := wrap_in (n := (i : Int) + 1) ⟨by omega, by omega⟩
      obtain ⟨l1, o1, hi, ⟨_, ⟨rfl, ra, rb⟩, hc⟩⟩ := sv.at hx
      have hld := hc.rds g (e0.trans W'.ext) (n := 2) rfl (by omega)
      have hna := numB_len ra
      have hnb := numB_len rb
      obtain ⟨H, hH⟩ : ∃ H, H = (g.alloc ⟨[Z 0, Z 0], true⟩).set g.next ⟨[.int .i64 x.kind, .int .i64 x.n], true⟩ := ⟨_, rfl⟩
      have xH : Ext g H := by rw [hH]; exact (Ext.refl g).alloc.set (Nb.o (Nat.le_refl _))
      have hHn : H.next = g.next + 1 := by rw [hH]; simp
      have hHk : H.get g.next = some ⟨[.int .i64 x.kind, .int .i64 x.n], true⟩ := by rw [hH]; exact AHeap.set_at (Nb.o rfl)
      have p0 := W'.new xH (m := g.next) (Nat.le_refl _) (by omega)
      obtain ⟨k1, c1, W1, K1⟩ := wNum (I := I) ra (W'.mono xH) (by omega)
      obtain ⟨k2, c2, W2, K2⟩ := wNum (I := I) rb W1 (by rw [List.length_append]; omega)
      have q1 := (K1.pv p0).1.trans hHk
      have hi2 := fun m hm => ih m hm (acc' ++ numB x.kind ++ numB x.n) k2 W2 (((K'.trans (WKeep.ext W' xH)).trans K1).trans K2) (by rw [List.length_append, List.length_append]; omega)
      simp only [List.append_assoc, Int.natCast_add, Int.natCast_one] at hi2
      rw [drop_of_get hx]
      simp only [List.flatMap_cons, tyB, List.append_assoc]
      clear ih
      generalize hQ : (fun (u : AVal) (k : AHeap) => u = .tuple [] ∧ WrAt hb k kw (acc' ++ (numB x.kind ++ (numB x.n ++ (xs.drop (i + 1)).flatMap tyB))) ∧ WKeep kw h k) = Q at *
      clear hQ W' K' W1 W2 K1 K2 p0
      subst hH
      rw [f35.n0]; unfold f35.b0
      simp (disch := first | exact D.go | fail) [setR, List.getElem?_cons_zero, List.getElem?_cons_succ, hlt', f35.n1, f35.b1, hi, hld, c1, q1, c2, f35.n2, f35.b2, hwi]
      exact hi2 _ (by omega))
    0 (by omega)
  have hrl : InR (xs.length : Int) := ⟨by omega, by omega⟩
  have hnl := numB_len hrl
  obtain ⟨g1, c1, W1, K1⟩ := wNum (I := I) hrl W (by omega)
  have hfin := hN (N + 1) (by omega) (acc ++ numB xs.length) g1 W1 K1 (by rw [List.length_append]; omega)
  simp only [List.drop_zero, List.append_assoc] at hfin
  have key : Res ((AM.lim ⟨P, I, genF P Sh.prims⟩) 35 [.ptr (.own kw) 0, v] h) fun w g => w = .tuple [] ∧ WrAt hb g kw (acc ++ typesB xs) ∧ WKeep kw h g := by
    refine f35.lim rfl (n := N + 1) ?_
    unfold f35.e
    unfold typesB
    generalize hQ : (fun (u : AVal) (k : AHeap) => u = .tuple [] ∧ WrAt hb k kw (acc ++ (numB xs.length ++ xs.flatMap tyB)) ∧ WKeep kw h k) = Q at *
    clear hQ hN W1 K1
    simp (disch := first | exact D.go | fail) [setR, List.getElem?_cons_zero, List.getElem?_cons_succ, sv.len, c1]
    exact hfin
  obtain ⟨w, g, e, rfl, h1, h2⟩ := key
  exact ⟨g, e, h1, h2⟩
end
end
end Go.Proofs.YtncjcnipagdmlaaDoor.Tx

set_option linter.unusedSimpArgs false
set_option linter.unusedVariables false
namespace Go.Proofs.YtncjcnipagdmlaaDoor.Tx
noncomputable section
open Go.AM Go.Proofs.YtncjcnipagdmlaaDoor.Sf
section
variable {I : Inp} {h0 : AHeap}
theorem insB_len {x : Ins} (r0 : InR x.op) (r1 : InR x.dst) (r2 : InR x.a) (r3 : InR x.b) (r4 : InR x.n) (ra : ∀ y ∈ x.args, InR y) (hm : x.args.length ≤ 1048576) : (insB x).length ≤ 60 + 10 * x.args.length := by
  have := numB_len r0; have := numB_len r1; have := numB_len r2; have := numB_len r3; have := numB_len r4
  have := numsB_len ra hm
  unfold insB
  simp only [List.length_append]; omega
/-- An instruction is written. -/
theorem wIns {v5 v26 v27 v28 v38 v39 : AVal} {code : List Ins} (sc : SlOf 6 (At I h0 (InsC I h0)) v38 code) {i : Nat} {x : Ins} (hx : code[i]? = some x) (hm : x.args.length ≤ 1048576) {hb g : AHeap} (e0 : Ext h0 hb) {kw : Nat} {acc : List Nat} (W : WrAt hb g kw acc) (hl : acc.length + (60 + 10 * x.args.length) ≤ 100000000) {Q : AVal → AHeap → Prop} (n : Nat)
    (hQ : ∀ g', WrAt hb g' kw (acc ++ insB x) → WKeep kw g g' → Res ((f37.J I (AM.lim ⟨P, I, genF P Sh.prims⟩) (n)).1.2.2.2 (.ptr (.own kw) 0) v5 v26 v27 v28 v38 v39 (.int .i64 (i : Int)) g') Q) :
    Res ((f37.J I (AM.lim ⟨P, I, genF P Sh.prims⟩) (n + 18)).1.2.2.1 (.ptr (.own kw) 0) v5 v26 v27 v28 v38 v39 (.int .i64 (i : Int)) g) Q := by
  obtain ⟨l3, o3, hji, ⟨ci, hic, ha3⟩⟩ := sc.at hx
  obtain ⟨va, rfl, sva, r0, r1, r2, r3, r4⟩ := hic
  have hld := ha3.rds g (e0.trans W.ext) (n := 6) rfl (by omega)
  have oa := sva.one
  have ca := sva.cells
  have n0 := numB_len r0; have n1 := numB_len r1; have n2 := numB_len r2; have n3 := numB_len r3; have n4 := numB_len r4
  obtain ⟨H, hH⟩ : ∃ H, H = ((g.alloc ⟨[Z 0, Z 0, Z 0, Z 0, Z 0, .nils], true⟩).set g.next ⟨[.int .i64 x.op, .int .i64 x.dst, .int .i64 x.a, .int .i64 x.b, .int .i64 x.n, va], true⟩).alloc ⟨[.int .i64 x.op, .int .i64 x.dst, .int .i64 x.a, .int .i64 x.b, .int .i64 x.n], true⟩ := ⟨_, rfl⟩
  have xH : Ext g H := by rw [hH]; exact ((Ext.refl g).alloc.set (Nb.o (Nat.le_refl _))).alloc
  have hHn : H.next = g.next + 2 := by rw [hH]; simp
  have hH7 : H.get g.next = some ⟨[.int .i64 x.op, .int .i64 x.dst, .int .i64 x.a, .int .i64 x.b, .int .i64 x.n, va], true⟩ := by rw [hH, AHeap.alloc_ne (Nb.o (by simp)), AHeap.set_at (Nb.o rfl)]
  have hH8 : H.get (g.next + 1) = some ⟨[.int .i64 x.op, .int .i64 x.dst, .int .i64 x.a, .int .i64 x.b, .int .i64 x.n], true⟩ := by rw [hH]; exact AHeap.alloc_at (Nb.o (by simp))
  have p7 := W.new xH (m := g.next) (Nat.le_refl _) (by omega)
  have p8 := W.new xH (m := g.next + 1) (by omega) (by omega)
  have K0 := WKeep.ext W xH
  obtain ⟨g1, c1, W1, K1⟩ := wNum (I := I) r0 (W.mono xH) (by omega)
  obtain ⟨g2, c2, W2, K2⟩ := wNum (I := I) r1 W1 (by simp only [List.length_append]; omega)
  obtain ⟨g3, c3, W3, K3⟩ := wNum (I := I) r2 W2 (by simp only [List.length_append]; omega)
  obtain ⟨g4, c4, W4, K4⟩ := wNum (I := I) r3 W3 (by simp only [List.length_append]; omega)
  obtain ⟨g5, c5, W5, K5⟩ := wNum (I := I) r4 W4 (by simp only [List.length_append]; omega)
  obtain ⟨g6, c6, W6, K6⟩ := wNums (I := I) sva hm e0 W5 (by simp only [List.length_append]; omega)
  have a1 := K1.pv p8
  have a2 := K2.pv a1.2
  have a3 := K3.pv a2.2
  have a4 := K4.pv a3.2
  have a5 := K5.pv a4.2
  have q1 := a1.1.trans hH8
  have q2 := a2.1.trans q1
  have q3 := a3.1.trans q2
  have q4 := a4.1.trans q3
  have b1 := K1.pv p7
  have b2 := K2.pv b1.2
  have b3 := K3.pv b2.2
  have b4 := K4.pv b3.2
  have b5 := K5.pv b4.2
  have q7 := b5.1.trans (b4.1.trans (b3.1.trans (b2.1.trans (b1.1.trans hH7))))
  have hend := hQ g6 (by unfold insB; simpa using W6) ((((((K0.trans K1).trans K2).trans K3).trans K4).trans K5).trans K6)
  have i0 : pIndexAddr 1 (.sl (.own (g.next + 1)) 0 5 (.known 5)) (Z 0) = some (.ptr (.own (g.next + 1)) 0) := rfl
  have i1 : pIndexAddr 1 (.sl (.own (g.next + 1)) 0 5 (.known 5)) (.int .i64 1) = some (.ptr (.own (g.next + 1)) 1) := rfl
  have i2 : pIndexAddr 1 (.sl (.own (g.next + 1)) 0 5 (.known 5)) (.int .i64 2) = some (.ptr (.own (g.next + 1)) 2) := rfl
  have i3 : pIndexAddr 1 (.sl (.own (g.next + 1)) 0 5 (.known 5)) (.int .i64 3) = some (.ptr (.own (g.next + 1)) 3) := rfl
  have i4 : pIndexAddr 1 (.sl (.own (g.next + 1)) 0 5 (.known 5)) (.int .i64 4) = some (.ptr (.own (g.next + 1)) 4) := rfl
  have w1 : IntKind.i64.wrap 1 = 1 := wrap_in ⟨by omega, by omega⟩
  have w2 : IntKind.i64.wrap 2 = 2 := wrap_in ⟨by omega, by omega⟩
  have w3 : IntKind.i64.wrap 3 = 3 := wrap_in ⟨by omega, by omega⟩
  have w4 : IntKind.i64.wrap 4 = 4 := wrap_in ⟨by omega, by omega⟩
  have w5 : IntKind.i64.wrap 5 = 5 := wrap_in ⟨by omega, by omega⟩
  clear hQ W W1 W2 W3 W4 W5 W6 K0 K1 K2 K3 K4 K5 K6 a1 a2 a3 a4 a5 b1 b2 b3 b4 b5 p7 p8
  subst hH
  rw [f37.n5]; unfold f37.b5
  simp (disch := first | exact D.go | fail) [setR, List.getElem?_cons_zero, List.getElem?_cons_succ, hji, hld, oa, ca, f37.n8, f37.b8, f37.n9, f37.b9, f37.n10, f37.b10, f37.n7, f37.b7, i0, i1, i2, i3, i4, w1, w2, w3, w4, w5, c1, c2, c3, c4, c5, c6, q1, q2, q3, q4, q7]
  exact hend
end
end
end Go.Proofs.YtncjcnipagdmlaaDoor.Tx

set_option linter.unusedSimpArgs false
set_option linter.unusedVariables false
namespace Go.Proofs.YtncjcnipagdmlaaDoor.Tx
noncomputable section
open Go.AM Go.Proofs.YtncjcnipagdmlaaDoor.Sf
section
variable {I : Inp} {h0 : AHeap}
/-- A block's code is of bounded lists. -/
def ArgsOk (b : Bk) : Prop := b.code.length ≤ 1048576 ∧ ∀ i ∈ b.code, i.args.length ≤ 1048576
theorem len_app {a b c : List Nat} {n : Nat} (h : a.length + (b ++ c).length ≤ n) : a.length + b.length + c.length ≤ n := by
  rw [List.length_append] at h; omega
/-- The blocks of a function are written. -/
theorem wBlks {v26 : AVal} {bs : List Bk} (sb : SlOf 5 (At I h0 (BkC I h0)) v26 bs) (hA : ∀ b ∈ bs, ArgsOk b) {hb h : AHeap} (e0 : Ext h0 hb) {kw : Nat} (hbl : bs.length ≤ 1000000000) :
    ∃ N, ∀ n, N ≤ n → ∀ (acc : List Nat) g, WrAt hb g kw acc → WKeep kw h g → acc.length + (bs.flatMap blkB).length ≤ 80000000 → Res ((f37.J I (AM.lim ⟨P, I, genF P Sh.prims⟩) (n)).1.1.1 (.ptr (.own kw) 0) v26 (.int .i64 bs.length) (Z 0) g) fun u k => u = .tuple [] ∧ WrAt hb k kw (acc ++ bs.flatMap blkB) ∧ WKeep kw h k := by
  obtain ⟨N, hN⟩ := Evt.loop' bs (F := fun i n => ∀ (acc : List Nat) g, WrAt hb g kw acc → WKeep kw h g → acc.length + ((bs.drop i).flatMap blkB).length ≤ 80000000 → Res ((f37.J I (AM.lim ⟨P, I, genF P Sh.prims⟩) (n)).1.1.1 (.ptr (.own kw) 0) v26 (.int .i64 bs.length) (.int .i64 (i : Int)) g) fun u k => u = .tuple [] ∧ WrAt hb k kw (acc ++ (bs.drop i).flatMap blkB) ∧ WKeep kw h k)
    (Evt.all 2 fun n acc g W K _ => by
      have hfin : WrAt hb g kw (acc ++ (bs.drop bs.length).flatMap blkB) := by simpa using W
      generalize hQ : (fun (u : AVal) (k : AHeap) => u = .tuple [] ∧ WrAt hb k kw (acc ++ (bs.drop bs.length).flatMap blkB) ∧ WKeep kw h k) = Q
      have hq : Q (.tuple []) g := by rw [← hQ]; exact ⟨rfl, hfin, K⟩
      clear hQ
      have hlt : ¬ (bs.length : Int) < bs.length := by omega
      rw [f37.n0]; unfold f37.b0
      simp (disch := first | exact D.go | fail) [setR, List.getElem?_cons_zero, List.getElem?_cons_succ]
      exact hq)
    (fun i x hx hF => by
      have hlt := lt_of_get hx
      have hlt' : (i : Int) < bs.length := by omega
      have hwi := wrap_in (n := (i : Int) + 1) ⟨by omega, by omega⟩
      obtain ⟨hcl, har⟩ := hA x (List.mem_of_getElem? hx)
      obtain ⟨lb, ob, hbi, ⟨cb, hbc, hab⟩⟩ := sb.at hx
      obtain ⟨vc, rfl, sc, r1, r2, r3, r4⟩ := hbc
      have oc := sc.one
      have cc := sc.cells
      have lc := sc.len
      have n1 := numB_len r1; have n2 := numB_len r2; have n3 := numB_len r3; have n4 := numB_len r4
      simp only [Int.natCast_add, Int.natCast_one] at hF
      -- the code, then the block's end
      have inner := Evt.loop' x.code (F := fun j n => ∀ (acc : List Nat) g m5, WrAt hb g kw acc → WKeep kw h g → Pv kw g m5 → g.get m5 = some ⟨[vc, .int .i64 x.fin, .int .i64 x.reg, .int .i64 x.to, .int .i64 x.els], true⟩ →
          acc.length + ((x.code.drop j).flatMap insB ++ ((numB x.fin ++ (numB x.reg ++ (numB x.to ++ numB x.els))) ++ (bs.drop (i + 1)).flatMap blkB)).length ≤ 80000000 →
          Res ((f37.J I (AM.lim ⟨P, I, genF P Sh.prims⟩) (n)).1.2.1.2 (.ptr (.own kw) 0) (.ptr (.own m5) 0) v26 (.int .i64 bs.length) (.int .i64 (i : Int)) vc (.int .i64 x.code.length) (.int .i64 (j : Int)) g) fun u k => u = .tuple [] ∧ WrAt hb k kw (acc ++ ((x.code.drop j).flatMap insB ++ ((numB x.fin ++ (numB x.reg ++ (numB x.to ++ numB x.els))) ++ (bs.drop (i + 1)).flatMap blkB))) ∧ WKeep kw h k)
        (Evt.step 20 hF fun n hn acc g m5 W K p5 h5 hl => by
          have hltc : ¬ (x.code.length : Int) < x.code.length := by omega
          rw [List.drop_length, List.flatMap_nil, List.nil_append] at hl ⊢
          have hl2 := hl
          simp only [List.length_append] at hl2
          obtain ⟨H, hH⟩ : ∃ H, H = g.alloc ⟨[.int .i64 x.fin, .int .i64 x.reg, .int .i64 x.to, .int .i64 x.els], true⟩ := ⟨_, rfl⟩
          have xH : Ext g H := by rw [hH]; exact (Ext.refl g).alloc
          have hHn : H.next = g.next + 1 := by rw [hH]; simp
          have hHk : H.get g.next = some ⟨[.int .i64 x.fin, .int .i64 x.reg, .int .i64 x.to, .int .i64 x.els], true⟩ := by rw [hH]; exact AHeap.alloc_at (Nb.o rfl)
          have p8 := W.new xH (m := g.next) (Nat.le_refl _) (by omega)
          obtain ⟨g1, c1, W1, K1⟩ := wNum (I := I) r1 (W.mono xH) (by omega)
          obtain ⟨g2, c2, W2, K2⟩ := wNum (I := I) r2 W1 (by simp only [List.length_append]; omega)
          obtain ⟨g3, c3, W3, K3⟩ := wNum (I := I) r3 W2 (by simp only [List.length_append]; omega)
          obtain ⟨g4, c4, W4, K4⟩ := wNum (I := I) r4 W3 (by simp only [List.length_append]; omega)
          have a1 := K1.pv p8
          have a2 := K2.pv a1.2
          have a3 := K3.pv a2.2
          have q1 := a1.1.trans hHk
          have q2 := a2.1.trans q1
          have q3 := a3.1.trans q2
          have hi2 := fun m hm => hn m hm _ g4 W4 ((((K.trans (WKeep.ext W xH)).trans K1).trans K2).trans (K3.trans K4)) (by simp only [List.length_append]; omega)
          simp only [List.append_assoc] at hi2 ⊢
          have i0 : pIndexAddr 1 (.sl (.own g.next) 0 4 (.known 4)) (Z 0) = some (.ptr (.own g.next) 0) := rfl
          have i1 : pIndexAddr 1 (.sl (.own g.next) 0 4 (.known 4)) (.int .i64 1) = some (.ptr (.own g.next) 1) := rfl
          have i2 : pIndexAddr 1 (.sl (.own g.next) 0 4 (.known 4)) (.int .i64 2) = some (.ptr (.own g.next) 2) := rfl
          have i3 : pIndexAddr 1 (.sl (.own g.next) 0 4 (.known 4)) (.int .i64 3) = some (.ptr (.own g.next) 3) := rfl
          have w1 : IntKind.i64.wrap 1 = 1 := wrap_in ⟨by omega, by omega⟩
          have w2 : IntKind.i64.wrap 2 = 2 := wrap_in ⟨by omega, by omega⟩
          have w3 : IntKind.i64.wrap 3 = 3 := wrap_in ⟨by omega, by omega⟩
          have w4 : IntKind.i64.wrap 4 = 4 := wrap_in ⟨by omega, by omega⟩
          generalize hQ : (fun (u : AVal) (k : AHeap) => u = .tuple [] ∧ WrAt hb k kw (acc ++ (numB x.fin ++ (numB x.reg ++ (numB x.to ++ (numB x.els ++ (bs.drop (i + 1)).flatMap blkB))))) ∧ WKeep kw h k) = Q at *
          clear hQ hn W K W1 W2 W3 W4 K1 K2 K3 K4 a1 a2 a3 p8 p5
          subst hH
          rw [f37.n4]; unfold f37.b4
          simp (disch := first | exact D.go | fail) [setR, List.getElem?_cons_zero, List.getElem?_cons_succ, hltc, h5, f37.n3, f37.b3, f37.n11, f37.b11, f37.n12, f37.b12, f37.n13, f37.b13, f37.n2, f37.b2, i0, i1, i2, i3, w1, w2, w3, w4, c1, c2, c3, c4, q1, q2, q3, hwi]
          exact hi2 _ (by omega))
        (fun j y hy hG => Evt.step 20 hG fun n hn acc g m5 W K p5 h5 hl => by
          have hltj := lt_of_get hy
          have hltc : (j : Int) < x.code.length := by omega
          have hwj := wrap_in (n := (j : Int) + 1) ⟨by omega, by omega⟩
          have hma := har y (List.mem_of_getElem? hy)
          rw [drop_of_get hy] at hl ⊢
          simp only [List.flatMap_cons, List.append_assoc] at hl ⊢
          have hl2 := hl
          simp only [List.length_append] at hl2
          simp only [Int.natCast_add, Int.natCast_one] at hn
          have hstep := wIns (I := I) (v5 := .ptr (.own m5) 0) (v26 := v26) (v27 := .int .i64 bs.length) (v28 := .int .i64 (i : Int)) (v39 := .int .i64 x.code.length) sc hy hma e0 W (by omega)
            (Q := fun u k => u = .tuple [] ∧ WrAt hb k kw (acc ++ (insB y ++ ((x.code.drop (j + 1)).flatMap insB ++ (numB x.fin ++ (numB x.reg ++ (numB x.to ++ (numB x.els ++ (bs.drop (i + 1)).flatMap blkB))))))) ∧ WKeep kw h k) (n + 1)
            (fun g' W' K' => by
              have h5' := (K'.pv p5).1.trans h5
              have hi2 := hn n (Nat.le_refl _) (acc ++ insB y) g' m5 W' (K.trans K') (K'.pv p5).2 h5' (by simp only [List.length_append] at hl2 ⊢; omega)
              simp only [List.append_assoc] at hi2
              generalize hQ : (fun (u : AVal) (k : AHeap) => u = .tuple [] ∧ WrAt hb k kw (acc ++ (insB y ++ ((x.code.drop (j + 1)).flatMap insB ++ (numB x.fin ++ (numB x.reg ++ (numB x.to ++ (numB x.els ++ (bs.drop (i + 1)).flatMap blkB))))))) ∧ WKeep kw h k) = Q at *
              clear hQ hn W K W' K' p5
              rw [f37.n6]; unfold f37.b6
              simp (disch := first | exact D.go | fail) [setR, List.getElem?_cons_zero, List.getElem?_cons_succ, hwj]
              exact hi2)
          generalize hQ : (fun (u : AVal) (k : AHeap) => u = .tuple [] ∧ WrAt hb k kw (acc ++ (insB y ++ ((x.code.drop (j + 1)).flatMap insB ++ (numB x.fin ++ (numB x.reg ++ (numB x.to ++ (numB x.els ++ (bs.drop (i + 1)).flatMap blkB))))))) ∧ WKeep kw h k) = Q at *
          clear hQ hn W K p5
          rw [f37.n4]; unfold f37.b4
          simp (disch := first | exact D.go | fail) [setR, List.getElem?_cons_zero, List.getElem?_cons_succ, hltc]
          exact hstep)
        0 (by omega)
      have hrl : InR (x.code.length : Int) := ⟨by omega, by omega⟩
      have nl := numB_len hrl
      refine Evt.step 3 inner fun n hn acc g W K hl => ?_
      rw [drop_of_get hx] at hl ⊢
      have hld := hab.rds g (e0.trans W.ext) (n := 5) rfl (by omega)
      obtain ⟨H, hH⟩ : ∃ H, H = (g.alloc ⟨[.nils, Z 0, Z 0, Z 0, Z 0], true⟩).set g.next ⟨[vc, .int .i64 x.fin, .int .i64 x.reg, .int .i64 x.to, .int .i64 x.els], true⟩ := ⟨_, rfl⟩
      have xH : Ext g H := by rw [hH]; exact (Ext.refl g).alloc.set (Nb.o (Nat.le_refl _))
      have hHn : H.next = g.next + 1 := by rw [hH]; simp
      have hHk : H.get g.next = some ⟨[vc, .int .i64 x.fin, .int .i64 x.reg, .int .i64 x.to, .int .i64 x.els], true⟩ := by rw [hH]; exact AHeap.set_at (Nb.o rfl)
      have p5 := W.new xH (m := g.next) (Nat.le_refl _) (by omega)
      simp only [List.flatMap_cons, blkB, List.append_assoc] at hl ⊢
      have hl2 := hl
      simp only [List.length_append] at hl2
      obtain ⟨g1, c1, W1, K1⟩ := wNum (I := I) hrl (W.mono xH) (by omega)
      have q5 := (K1.pv p5).1.trans hHk
      have hi2 := fun m hm => hn m hm (acc ++ numB x.code.length) g1 g.next W1 ((K.trans (WKeep.ext W xH)).trans K1) (K1.pv p5).2 q5 (by simp only [List.length_append, List.drop_zero]; omega)
      simp only [List.append_assoc, List.drop_zero] at hi2
      generalize hQ : (fun (u : AVal) (k : AHeap) => u = .tuple [] ∧ WrAt hb k kw (acc ++ (numB x.code.length ++ (x.code.flatMap insB ++ (numB x.fin ++ (numB x.reg ++ (numB x.to ++ (numB x.els ++ (bs.drop (i + 1)).flatMap blkB))))))) ∧ WKeep kw h k) = Q at *
      clear hQ hn W K W1 K1 p5
      subst hH
      rw [f37.n0]; unfold f37.b0
      simp (disch := first | exact D.go | fail) [setR, List.getElem?_cons_zero, List.getElem?_cons_succ, hlt', f37.n1, f37.b1, hbi, hld, oc, cc, lc, c1, q5]
      exact hi2 _ (by omega))
    0 (by omega)
  exact ⟨N, fun n hn acc g W K hl => hN n hn acc g W K hl⟩
end
end
end Go.Proofs.YtncjcnipagdmlaaDoor.Tx

set_option linter.unusedSimpArgs false
set_option linter.unusedVariables false
namespace Go.Proofs.YtncjcnipagdmlaaDoor.Tx
noncomputable section
open Go.AM Go.Proofs.YtncjcnipagdmlaaDoor.Sf
section
variable {I : Inp} {h0 : AHeap}
/-! functions, programs -/
def fuB (f : Fu) : List Nat := numB f.sig ++ (typesB f.regs ++ (numB f.blocks.length ++ f.blocks.flatMap blkB))
def sgB (s : Sg) : List Nat := typesB s.params ++ (numB s.res.kind ++ numB s.res.n)
def imB (m : Im) : List Nat := numB m.rec_ ++ (numB m.face ++ numsB m.funcs)
def pgB (q : Pg) : List Nat := numB q.recs.length ++ (q.recs.flatMap typesB ++ (numB q.sigs.length ++ (q.sigs.flatMap sgB ++ (numB q.faces.length ++ (q.faces.flatMap numsB ++ (numB q.impls.length ++ (q.impls.flatMap imB ++ (numB q.funcs.length ++ (q.funcs.flatMap fuB ++ numB q.main)))))))))
theorem varint_at (u : Nat) : 1 ≤ (varint u).length := by
  rw [varint]; split <;> simp
theorem numB_pos (n : Int) : 1 ≤ (numB n).length := varint_at _
theorem flat_ge {α : Type} {f : α → List Nat} (hf : ∀ x, 1 ≤ (f x).length) : ∀ xs : List α, xs.length ≤ (xs.flatMap f).length
  | [] => Nat.zero_le _
  | x :: xs => by
    have := hf x
    have := flat_ge hf xs
    simp only [List.flatMap_cons, List.length_append, List.length_cons]; omega
theorem typesB_ge (xs : List Ty) : xs.length ≤ (typesB xs).length := by
  have := flat_ge (f := tyB) (fun x => by unfold tyB; rw [List.length_append]; have := numB_pos x.kind; omega) xs
  unfold typesB; rw [List.length_append]; omega
theorem numsB_ge (xs : List Int) : xs.length ≤ (numsB xs).length := by
  have := flat_ge (f := numB) numB_pos xs
  unfold numsB; rw [List.length_append]; omega
theorem insB_ge (x : Ins) : x.args.length ≤ (insB x).length ∧ 1 ≤ (insB x).length := by
  have := numsB_ge x.args
  have := numB_pos x.op
  unfold insB; simp only [List.length_append]; omega
theorem blkB_ge (b : Bk) : b.code.length ≤ (blkB b).length ∧ 1 ≤ (blkB b).length := by
  have := flat_ge (f := insB) (fun x => (insB_ge x).2) b.code
  have := numB_pos b.fin
  unfold blkB; simp only [List.length_append]; omega
/-- A function's lists are bounded. -/
def FuOk (f : Fu) : Prop := ∀ b ∈ f.blocks, ArgsOk b
/-- A function is written. -/
theorem wFn {cs : List AVal} {f : Fu} (hF : FuC I h0 cs f) (hA : FuOk f) {hb h : AHeap} (e0 : Ext h0 hb) {kw : Nat} {acc : List Nat} (W : WrAt hb h kw acc) (hl : acc.length + (fuB f).length ≤ 30000000) : ∃ g, (AM.lim ⟨P, I, genF P Sh.prims⟩) 37 [.ptr (.own kw) 0, .agg cs] h = some (.tuple [], g) ∧ WrAt hb g kw (acc ++ fuB f) ∧ WKeep kw h g := by
  obtain ⟨v, u, rfl, rs, sr, sb⟩ := hF
  have nb := numB_len rs
  have nt := typesB_ge f.regs
  have nbl := flat_ge (f := blkB) (fun x => (blkB_ge x).2) f.blocks
  have hll : (fuB f).length = (numB f.sig).length + ((typesB f.regs).length + ((numB f.blocks.length).length + (f.blocks.flatMap blkB).length)) := by
    unfold fuB; simp only [List.length_append]
  obtain ⟨H, hH⟩ : ∃ H, H = h.alloc ⟨[.int .i64 f.sig, v, u], true⟩ := ⟨_, rfl⟩
  have xH : Ext h H := by rw [hH]; exact (Ext.refl h).alloc
  have hHn : H.next = h.next + 1 := by rw [hH]; simp
  have hHk : H.get h.next = some ⟨[.int .i64 f.sig, v, u], true⟩ := by rw [hH]; exact AHeap.alloc_at (Nb.o rfl)
  have p3 := W.new xH (m := h.next) (Nat.le_refl _) (by omega)
  have hrl : InR (f.blocks.length : Int) := ⟨by omega, by omega⟩
  have nl := numB_len hrl
  obtain ⟨g1, c1, W1, K1⟩ := wNum (I := I) rs (W.mono xH) (by omega)
  obtain ⟨g2, c2, W2, K2⟩ := wTypes (I := I) sr e0 W1 (by rw [List.length_append]; omega)
  obtain ⟨g3, c3, W3, K3⟩ := wNum (I := I) hrl W2 (by simp only [List.length_append]; omega)
  have a1 := K1.pv p3
  have a2 := K2.pv a1.2
  have a3 := K3.pv a2.2
  have q1 := a1.1.trans hHk
  have q2 := a2.1.trans q1
  have q3 := a3.1.trans q2
  obtain ⟨N, hN⟩ := wBlks (I := I) (h := h) (kw := kw) sb hA e0 (by omega)
  have hrun := hN (N + 1) (by omega) _ g3 W3 ((((WKeep.ext W xH).trans K1).trans K2).trans K3) (by simp only [List.length_append]; omega)
  simp only [List.append_assoc] at hrun
  have lu := sb.len
  have ou := sb.one
  have ov := sr.one
  have key : Res ((AM.lim ⟨P, I, genF P Sh.prims⟩) 37 [.ptr (.own kw) 0, .agg [.int .i64 f.sig, v, u]] h) fun w g => w = .tuple [] ∧ WrAt hb g kw (acc ++ fuB f) ∧ WKeep kw h g := by
    refine f37.lim rfl (n := N + 1) ?_
    unfold f37.e
    unfold fuB
    generalize hQ : (fun (u : AVal) (k : AHeap) => u = .tuple [] ∧ WrAt hb k kw (acc ++ (numB f.sig ++ (typesB f.regs ++ (numB f.blocks.length ++ f.blocks.flatMap blkB)))) ∧ WKeep kw h k) = Q at *
    clear hQ hN W W1 W2 W3 K1 K2 K3 a1 a2 a3 p3 hll
    subst hH
    simp (disch := first | exact D.go | fail) [setR, List.getElem?_cons_zero, List.getElem?_cons_succ, c1, q1, c2, q2, c3, q3, lu]
    exact hrun
  obtain ⟨w, g, e, rfl, h1, h2⟩ := key
  exact ⟨g, e, h1, h2⟩
end
end
end Go.Proofs.YtncjcnipagdmlaaDoor.Tx

set_option linter.unusedSimpArgs false
set_option linter.unusedVariables false
namespace Go.Proofs.YtncjcnipagdmlaaDoor.Tx
noncomputable section
open Go.AM Go.Proofs.YtncjcnipagdmlaaDoor.Sf
section
variable {I : Inp} {h0 : AHeap}
/-! the reader: numbers -/
/-- A slice of bytes, from a heap on. -/
def ByS (I : Inp) (hb : AHeap) (v : AVal) (bs : List Nat) : Prop :=
  (v = .nils ∧ bs = []) ∨ ∃ l o cap, v = .sl l o bs.length cap ∧ CapOk cap 1 bs.length ∧ bs.length ≤ 9223372036854775807 ∧ ∀ (i x : Nat), bs[i]? = some x → x < 256 ∧ ∀ g, Ext hb g → rd I g l (o + i) = some (.int .u8 (x : Int))
theorem ByS.len {hb : AHeap} {v : AVal} {bs : List Nat} (a : ByS I hb v bs) : pLenSl v = some (.int .i64 bs.length) := by
  rcases a with ⟨rfl, rfl⟩ | ⟨l, o, cap, rfl, _⟩ <;> rfl
theorem ByS.one {hb : AHeap} {v : AVal} {bs : List Nat} (a : ByS I hb v bs) : v.one = true ∧ v.cells = [v] := by
  rcases a with ⟨rfl, rfl⟩ | ⟨l, o, cap, rfl, _⟩ <;> exact ⟨rfl, rfl⟩
theorem capOk_minus {cap : Cap} {n i : Nat} (c : CapOk cap 1 n) (hi : i ≤ n) : CapOk (capMinus cap i) 1 (n - i) := by
  intro m hm
  have h1 := c (m + i) (by omega)
  cases cap with
  | known c =>
    simp only [capHas] at h1
    have := Nat.le_of_ble_eq_true h1
    exact Nat.ble_eq_true_of_le (by omega)
  | grown s =>
    simp only [capHas, Bool.and_eq_true] at h1
    show (Nat.ble m (n - i) && Nat.beq s 1) = true
    rw [Nat.ble_eq_true_of_le hm, h1.2]; rfl
theorem capOk_less {cap : Cap} {n m : Nat} (c : CapOk cap 1 n) (hm : m ≤ n) : CapOk (capMinus cap 0) 1 m := by
  intro j hj
  have h1 := c j (by omega)
  cases cap with
  | known c => exact h1
  | grown s =>
    simp only [capHas, Bool.and_eq_true] at h1
    show (Nat.ble j m && Nat.beq s 1) = true
    rw [Nat.ble_eq_true_of_le hj, h1.2]; rfl
/-- b[i:] -/
theorem ByS.from {hb : AHeap} {v : AVal} {bs : List Nat} (a : ByS I hb v bs) {i : Nat} (hi : i ≤ bs.length) (h0 : 0 < bs.length) : ∃ u, pSliceS 1 v (some (.int .i64 (i : Int))) none none = some u ∧ ByS I hb u (bs.drop i) := by
  rcases a with ⟨rfl, rfl⟩ | ⟨l, o, cap, rfl, hc, hn, hx⟩
  · simp at h0
  · refine ⟨.sl l (o + i * 1) (bs.length - i) (capMinus cap i), ?_, .inr ⟨l, o + i * 1, capMinus cap i, by rw [List.length_drop], by rw [List.length_drop]; exact capOk_minus hc hi, by rw [List.length_drop]; omega, fun j x hj => ?_⟩⟩
    · show (match Nat.ble i bs.length && capHas cap 1 bs.length bs.length with
        | true => some (AVal.sl l (o + i * 1) (bs.length - i) (capMinus cap i))
        | false => none) = _
      rw [Nat.ble_eq_true_of_le hi, hc _ (Nat.le_refl _)]; rfl
    · rw [List.getElem?_drop] at hj
      have := hx (i + j) x hj
      rw [show o + i * 1 + j = o + (i + j) by omega]
      exact this
/-- b[:m] -/
theorem ByS.to {hb : AHeap} {v : AVal} {bs : List Nat} (a : ByS I hb v bs) {m : Nat} (hm : m ≤ bs.length) : ∃ u, pSliceS 1 v none (some (.int .i64 (m : Int))) none = some u ∧ ByS I hb u (bs.take m) := by
  rcases a with ⟨rfl, rfl⟩ | ⟨l, o, cap, rfl, hc, hn, hx⟩
  · obtain rfl : m = 0 := by simpa using hm
    exact ⟨.nils, rfl, .inl ⟨rfl, rfl⟩⟩
  · have hlen : (bs.take m).length = m := by rw [List.length_take]; omega
    refine ⟨.sl l (o + 0 * 1) (m - 0) (capMinus cap 0), ?_, .inr ⟨l, o + 0 * 1, capMinus cap 0, by rw [hlen]; rfl, by rw [hlen]; exact capOk_less hc hm, by rw [hlen]; omega, fun j x hj => ?_⟩⟩
    · show (match Nat.ble 0 m && capHas cap 1 bs.length m with
        | true => some (AVal.sl l (o + 0 * 1) (m - 0) (capMinus cap 0))
        | false => none) = _
      rw [Nat.ble_eq_true_of_le (Nat.zero_le _), hc m hm]; rfl
    · rw [List.getElem?_take] at hj
      split at hj
      · have := hx j x hj
        rw [show o + 0 * 1 + j = o + j by omega]; exact this
      · cases hj
theorem ByS.at_ {hb : AHeap} {v : AVal} {bs : List Nat} (a : ByS I hb v bs) {i x : Nat} (hx : bs[i]? = some x) : x < 256 ∧ ∃ l o, pIndexAddr 1 v (.int .i64 (i : Int)) = some (.ptr l o) ∧ ∀ g, Ext hb g → rd I g l o = some (.int .u8 (x : Int)) := by
  rcases a with ⟨rfl, rfl⟩ | ⟨l, o, cap, rfl, hc, hn, hr⟩
  · simp at hx
  · obtain ⟨h1, h2⟩ := hr i x hx
    exact ⟨h1, l, o + i * 1, pIndexAddr_sl (lt_of_get hx), fun g e => by rw [Nat.mul_one]; exact h2 g e⟩
/-- A reader of one's own that has these bytes ahead. -/
structure RdAt (I : Inp) (hb h : AHeap) (kr : Nat) (bs : List Nat) : Prop where
  lo : hb.next ≤ kr
  hi : kr < h.next
  ext : Ext hb h
  at_ : ∃ v, h.get kr = some ⟨[v, .bool false], true⟩ ∧ ByS I hb v bs
theorem and127 : ∀ x : Nat, x < 256 → (BitVec.ofNat 8 x &&& BitVec.ofNat 8 127).toNat = x % 128 := by decide +kernel
theorem u_and {x : Nat} (h : x < 256) : pBin .and (.int .u8 (x : Int)) (.int .u8 127) = some (.int .u8 ((x % 128 : Nat) : Int)) := by
  show some (AVal.int .u8 (IntKind.u8.wrap ((BitVec.ofInt 8 (x : Int) &&& BitVec.ofInt 8 127).toNat : Int))) = _
  have h2 : BitVec.ofInt 8 (x : Int) = BitVec.ofNat 8 x := BitVec.ofInt_natCast 8 x
  have h3 : BitVec.ofInt 8 127 = BitVec.ofNat 8 127 := by decide
  rw [h2, h3, and127 x h, wrapB (by omega)]
theorem b_u64 {x : Nat} (h : x < 256) : pToInt .u64 (.int .u8 (x : Int)) = some (.int .u64 (x : Int)) := by
  show some (AVal.int .u64 (IntKind.u64.wrap (x : Int))) = _
  rw [wrapU (by omega)]
theorem u_shl {x i : Nat} (hi : i ≤ 9) (h : x * 2 ^ (7 * i) < 18446744073709551616) : pBin .shl (.int .u64 (x : Int)) (.int .i64 ((7 * i : Nat) : Int)) = some (.int .u64 ((x * 2 ^ (7 * i) : Nat) : Int)) := by
  have h1 : ¬ ((7 * i : Nat) : Int) < 0 := by omega
  show ishift .shl .u64 (x : Int) ((7 * i : Nat) : Int) = _
  unfold ishift
  rw [if_neg h1]
  show some (AVal.int .u64 (IntKind.u64.wrap ((x : Int) * 2 ^ (min (((7 * i : Nat) : Int)).toNat 64)))) = _
  rw [Int.toNat_natCast, Nat.min_eq_left (by omega), show ((x : Int) * 2 ^ (7 * i)) = ((x * 2 ^ (7 * i) : Nat) : Int) by simp [Int.natCast_mul, Int.natCast_pow]]
  rw [wrapU h]
theorem u_or64 {a b i : Nat} (ha : a < 2 ^ (7 * i)) (h : b * 2 ^ (7 * i) + a < 18446744073709551616) : pBin .or (.int .u64 (a : Int)) (.int .u64 ((b * 2 ^ (7 * i) : Nat) : Int)) = some (.int .u64 ((b * 2 ^ (7 * i) + a : Nat) : Int)) := by
  show some (AVal.int .u64 (IntKind.u64.wrap ((BitVec.ofInt 64 (a : Int) ||| BitVec.ofInt 64 ((b * 2 ^ (7 * i) : Nat) : Int)).toNat : Int))) = _
  have h2 : BitVec.ofInt 64 (a : Int) = BitVec.ofNat 64 a := BitVec.ofInt_natCast 64 a
  have h3 : BitVec.ofInt 64 ((b * 2 ^ (7 * i) : Nat) : Int) = BitVec.ofNat 64 (b * 2 ^ (7 * i)) := BitVec.ofInt_natCast 64 _
  rw [h2, h3, BitVec.toNat_or, BitVec.toNat_ofNat, BitVec.toNat_ofNat, Nat.mod_eq_of_lt (by omega), Nat.mod_eq_of_lt (by omega)]
  have := Nat.shiftLeft_add_eq_or_of_lt ha b
  rw [Nat.shiftLeft_eq] at this
  rw [Nat.or_comm, ← this, wrapU h]
theorem u_odd {u : Nat} (h : u < 18446744073709551616) : pBin .and (.int .u64 (u : Int)) (.int .u64 1) = some (.int .u64 ((u % 2 : Nat) : Int)) := by
  show some (AVal.int .u64 (IntKind.u64.wrap ((BitVec.ofInt 64 (u : Int) &&& BitVec.ofInt 64 1).toNat : Int))) = _
  have h2 : BitVec.ofInt 64 (u : Int) = BitVec.ofNat 64 u := BitVec.ofInt_natCast 64 u
  have h3 : BitVec.ofInt 64 1 = BitVec.ofNat 64 1 := by decide
  rw [h2, h3, BitVec.toNat_and, BitVec.toNat_ofNat, BitVec.toNat_ofNat, Nat.mod_eq_of_lt (by omega), show (1 % 2 ^ 64 : Nat) = 1 from rfl, Nat.and_one_is_mod, wrapU (by omega)]
theorem u_shr1 {u : Nat} : pBin .shr (.int .u64 (u : Int)) (.int .u64 1) = some (.int .u64 ((u / 2 : Nat) : Int)) := by
  show some (AVal.int .u64 (Int.fdiv (u : Int) 2)) = _
  rw [Int.fdiv_eq_ediv_of_nonneg _ (by omega)]; rfl
end
end
end Go.Proofs.YtncjcnipagdmlaaDoor.Tx

set_option linter.unusedSimpArgs false
set_option linter.unusedVariables false
namespace Go.Proofs.YtncjcnipagdmlaaDoor.Tx
noncomputable section
open Go.AM Go.Proofs.YtncjcnipagdmlaaDoor.Sf
section
variable {I : Inp} {h0 : AHeap}
def unzig (u : Nat) : Int := if u % 2 = 1 then -((u / 2 : Nat) : Int) - 1 else ((u / 2 : Nat) : Int)
theorem unzig_zig {n : Int} (h : InR n) : unzig (zig n) = n := by
  obtain ⟨h1, h2⟩ := h
  unfold unzig zig
  by_cases hs : n < 0
  · rw [if_pos hs]
    have : (-(2 * n) - 1).toNat % 2 = 1 := by omega
    rw [if_pos this]; omega
  · rw [if_neg hs]
    have : ¬ (2 * n).toNat % 2 = 1 := by omega
    rw [if_neg this]; omega
theorem varint_ne (u : Nat) : varint u ≠ [] := by
  by_cases h : u < 128
  · rw [varint_small h]; simp
  · rw [varint_big h]; simp
/-- The end of a number: what is left is cut off. -/
theorem rEnd {hb h : AHeap} {kr : Nat} {bs : List Nat} (R : RdAt I hb h kr bs) {u i : Nat} (hu : u < 18446744073709551616) (hi : i < bs.length) (hi9 : i ≤ 9) :
    ∃ v', (∀ n, Res ((f43.J I (AM.lim ⟨P, I, genF P Sh.prims⟩) (n + 2)).2.2.1 (.ptr (.own kr) 0) (.int .u64 (u : Int)) (.int .i64 (i : Int)) h) (fun w g => w = .int .i64 (unzig u) ∧ g = h.set kr ⟨[v', .bool false], true⟩)) ∧ ByS I hb v' (bs.drop (i + 1)) := by
  obtain ⟨v, hk, bv⟩ := R.at_
  obtain ⟨v', hv', bv'⟩ := bv.from (i := i + 1) (by omega) (by omega)
  have hwi := wrap_in (n := (i : Int) + 1) ⟨by omega, by omega⟩
  have o1 := bv'.one
  have hodd := u_odd hu
  have hsh := u_shr1 (u := u)
  refine ⟨v', fun n => ?_, bv'⟩
  simp only [Int.natCast_add, Int.natCast_one] at hv'
  rw [f43.n5]; unfold f43.b5
  by_cases hp : u % 2 = 1
  · have hz : unzig u = -((u / 2 : Nat) : Int) - 1 := by unfold unzig; rw [if_pos hp]
    have hx := u_not (b := u / 2) (by omega)
    have ht : pToInt .i64 (.int .u64 ((18446744073709551615 - u / 2 : Nat) : Int)) = some (.int .i64 (unzig u)) := by
      show some (AVal.int .i64 (IntKind.i64.wrap ((18446744073709551615 - u / 2 : Nat) : Int))) = _
      rw [hz]
      congr 2
      simp only [IntKind.wrap, IntKind.bits, IntKind.signed]; simp; omega
    rw [hp] at hodd
    generalize unzig u = z at *
    generalize 18446744073709551615 - u / 2 = y at *
    generalize u / 2 = d at *
    clear hz
    simp (disch := first | exact D.go | fail) [setR, List.getElem?_cons_zero, List.getElem?_cons_succ, hk, hwi, hv', o1.1, o1.2, hodd, hsh, hx, ht]
  · have hp0 : u % 2 = 0 := by omega
    have hz : unzig u = ((u / 2 : Nat) : Int) := by unfold unzig; rw [if_neg hp]
    have ht : pToInt .i64 (.int .u64 ((u / 2 : Nat) : Int)) = some (.int .i64 (unzig u)) := by
      show some (AVal.int .i64 (IntKind.i64.wrap ((u / 2 : Nat) : Int))) = _
      rw [hz, wrap_in ⟨by omega, by omega⟩]
    rw [hp0] at hodd
    generalize unzig u = z at *
    generalize u / 2 = d at *
    clear hz
    simp (disch := first | exact D.go | fail) [setR, List.getElem?_cons_zero, List.getElem?_cons_succ, hk, hwi, hv', o1.1, o1.2, hodd, hsh, ht, f43.n6, f43.b6]
theorem rLoop {hb h : AHeap} {kr : Nat} {bs : List Nat} (R : RdAt I hb h kr bs) {u : Nat} (hu : u < 18446744073709551616) {pv : AVal} {m : Nat} (bp : ByS I hb pv (bs.take m)) (hm : m ≤ bs.length) (rest : List Nat) (hbs : bs = varint u ++ rest) (hk : (varint u).length ≤ m) (h10 : (varint u).length ≤ 10) :
    ∃ v', ByS I hb v' rest ∧ ∀ (d i : Nat), i + d + 1 = (varint u).length → varint (u / 2 ^ (7 * i)) = (varint u).drop i → (i = 0 ∨ 0 < u / 2 ^ (7 * i)) →
      ∀ N, 4 * d + 6 ≤ N → Res ((f43.J I (AM.lim ⟨P, I, genF P Sh.prims⟩) (N)).1.2.1 (.ptr (.own kr) 0) (.int .u64 ((u % 2 ^ (7 * i) : Nat) : Int)) pv (.int .i64 (m : Int)) (.int .i64 (i : Int)) h) (fun w g => w = .int .i64 (unzig u) ∧ g = h.set kr ⟨[v', .bool false], true⟩) := by
  have hkp : 0 < (varint u).length := List.length_pos_iff.2 (varint_ne u)
  obtain ⟨v', hend, bv'⟩ := rEnd (I := I) R hu (i := (varint u).length - 1) (by rw [hbs, List.length_append]; omega) (by omega)
  rw [show (varint u).length - 1 + 1 = (varint u).length by omega, hbs, List.drop_left] at bv'
  refine ⟨v', bv', ?_⟩
  generalize hQ : (fun (w : AVal) (g : AHeap) => w = .int .i64 (unzig u) ∧ g = h.set kr ⟨[v', .bool false], true⟩) = Q at hend ⊢
  clear hQ
  intro d
  induction d with
  | zero =>
    intro i hi hv hpos N hN
    obtain ⟨n, rfl⟩ : ∃ n, N = n + 5 := ⟨N - 5, by omega⟩
    have hpw : 0 < 2 ^ (7 * i) := Nat.pow_pos (by omega)
    have hdm := Nat.div_add_mod u (2 ^ (7 * i))
    have hml := Nat.mod_lt u hpw
    have hw : u / 2 ^ (7 * i) < 128 := by
      rcases Nat.lt_or_ge (u / 2 ^ (7 * i)) 128 with h | h
      · exact h
      · exfalso
        rw [varint_big (by omega)] at hv
        have h1 := congrArg List.length hv
        simp only [List.length_cons, List.length_drop] at h1
        have := List.length_pos_iff.2 (varint_ne (u / 2 ^ (7 * i) / 128))
        omega
    rw [varint_small hw] at hv
    have hci : (varint u)[i]? = some (u / 2 ^ (7 * i)) := by
      have := congrArg (fun l : List Nat => l[0]?) hv
      simp only [List.getElem?_drop, Nat.add_zero] at this
      exact this.symm
    have hbi : (bs.take m)[i]? = some (u / 2 ^ (7 * i)) := by
      rw [List.getElem?_take_of_lt (by omega), hbs, List.getElem?_append_left (by omega)]
      exact hci
    obtain ⟨hc, l, o, hidx, hrd⟩ := bp.at_ hbi
    have hrd := hrd h R.ext
    have hlt : (i : Int) < m := by omega
    have ha := u_and hc
    have hb8 := b_u64 (x := u / 2 ^ (7 * i) % 128) (by omega)
    rw [Nat.mod_eq_of_lt hw] at ha hb8
    have hmul : u / 2 ^ (7 * i) * 2 ^ (7 * i) ≤ u := Nat.div_mul_le_self u _
    have hs := u_shl (x := u / 2 ^ (7 * i)) (i := i) (by omega) (by omega)
    have heq : u / 2 ^ (7 * i) * 2 ^ (7 * i) + u % 2 ^ (7 * i) = u := by rw [Nat.mul_comm]; exact hdm
    have ho := u_or64 (a := u % 2 ^ (7 * i)) (b := u / 2 ^ (7 * i)) (i := i) hml (by omega)
    rw [heq] at ho
    have h7 : ((7 * i : Nat) : Int) = 7 * (i : Int) := by omega
    rw [h7] at hs
    have hw7 := wrap_in (n := 7 * (i : Int)) ⟨by omega, by omega⟩
    have hge : ¬ (127 : Int) < ((u / 2 ^ (7 * i) : Nat) : Int) := by omega
    have h9 : i = 9 → u / 2 ^ (7 * i) ≤ 1 := by
      rintro rfl
      have : u / 2 ^ (7 * 9) < 2 := Nat.div_lt_of_lt_mul (by omega)
      omega
    have hie : (varint u).length - 1 = i := by omega
    have hfin := hend (n + 0)
    rw [hie] at hfin
    generalize hWW : u / 2 ^ (7 * i) = w at *
    generalize w * 2 ^ (7 * i) = y at *
    generalize u % 2 ^ (7 * i) = z at *
    clear hend hdm hv hci hbi bv' hbs
    rw [f43.n1]; unfold f43.b1
    by_cases hi0 : i = 0
    · have n0 : ¬ (0 : Int) < (i : Int) := by omega
      have n0' : ¬ 0 < i := by omega
      have n9 : ¬ (i : Int) = 9 := by omega
      simp (disch := first | exact D.go | fail) [setR, List.getElem?_cons_zero, List.getElem?_cons_succ, hlt, f43.n2, f43.b2, hidx, hrd, ha, hb8, hw7, hs, ho, hge, f43.n4, f43.b4, n0, n0', n9]
      exact hfin
    · have hwp : 0 < w := by rcases hpos with h | h; exact absurd h hi0; exact h
      have n0 : (0 : Int) < (i : Int) := by omega
      have n0' : 0 < i := by omega
      have n1 : ¬ (w : Int) = 0 := by omega
      have n1' : ¬ w = 0 := by omega
      by_cases hi9 : i = 9
      · have n9 : dc ((i : Int) = 9) = true := dc_of (by omega)
        have n2 : ¬ (1 : Int) < (w : Int) := by have := h9 hi9; omega
        have n2' : ¬ 1 < w := by have := h9 hi9; omega
        simp (disch := first | exact D.go | fail) [setR, List.getElem?_cons_zero, List.getElem?_cons_succ, hlt, f43.n2, f43.b2, hidx, hrd, ha, hb8, hw7, hs, ho, hge, f43.n4, f43.b4, n0, n0', n1, n1', n9, n2, n2']
        exact hfin
      · have n9 : ¬ (i : Int) = 9 := by omega
        simp (disch := first | exact D.go | fail) [setR, List.getElem?_cons_zero, List.getElem?_cons_succ, hlt, f43.n2, f43.b2, hidx, hrd, ha, hb8, hw7, hs, ho, hge, f43.n4, f43.b4, n0, n0', n1, n1', n9]
        exact hfin
  | succ d ih =>
    intro i hi hv hpos N hN
    obtain ⟨n, rfl⟩ : ∃ n, N = n + 4 := ⟨N - 4, by omega⟩
    have hpw : 0 < 2 ^ (7 * i) := Nat.pow_pos (by omega)
    have hml := Nat.mod_lt u hpw
    have hw : ¬ u / 2 ^ (7 * i) < 128 := by
      intro h
      rw [varint_small h] at hv
      have h1 := congrArg List.length hv
      simp only [List.length_cons, List.length_nil, List.length_drop] at h1
      omega
    rw [varint_big hw] at hv
    have hp7 : 2 ^ (7 * (i + 1)) = 2 ^ (7 * i) * 128 := by rw [show 7 * (i + 1) = 7 * i + 7 by omega, Nat.pow_add]
    have hnext : u / 2 ^ (7 * (i + 1)) = u / 2 ^ (7 * i) / 128 := by rw [hp7, Nat.div_div_eq_div_mul]
    have hmod : u % 2 ^ (7 * (i + 1)) = u / 2 ^ (7 * i) % 128 * 2 ^ (7 * i) + u % 2 ^ (7 * i) := by
      rw [hp7, Nat.mod_mul, Nat.mul_comm (2 ^ (7 * i)) (u / 2 ^ (7 * i) % 128), Nat.add_comm]
    have hci : (varint u)[i]? = some (u / 2 ^ (7 * i) % 128 + 128) := by
      have := congrArg (fun l : List Nat => l[0]?) hv
      simp only [List.getElem?_drop, Nat.add_zero] at this
      exact this.symm
    have hv2 : varint (u / 2 ^ (7 * i) / 128) = (varint u).drop (i + 1) := by
      have := congrArg (fun l : List Nat => l.drop 1) hv
      simpa [List.drop_drop] using this
    have hbi : (bs.take m)[i]? = some (u / 2 ^ (7 * i) % 128 + 128) := by
      rw [List.getElem?_take_of_lt (by omega), hbs, List.getElem?_append_left (by omega)]
      exact hci
    obtain ⟨hc, l, o, hidx, hrd⟩ := bp.at_ hbi
    have hrd := hrd h R.ext
    have hlt : (i : Int) < m := by omega
    have ha := u_and hc
    have hmm : (u / 2 ^ (7 * i) % 128 + 128) % 128 = u / 2 ^ (7 * i) % 128 := by omega
    rw [hmm] at ha
    have hb8 := b_u64 (x := u / 2 ^ (7 * i) % 128) (by omega)
    have hle : u % 2 ^ (7 * (i + 1)) ≤ u := Nat.mod_le _ _
    have hs := u_shl (x := u / 2 ^ (7 * i) % 128) (i := i) (by omega) (by omega)
    have ho := u_or64 (a := u % 2 ^ (7 * i)) (b := u / 2 ^ (7 * i) % 128) (i := i) hml (by omega)
    rw [← hmod] at ho
    have h7 : ((7 * i : Nat) : Int) = 7 * (i : Int) := by omega
    rw [h7] at hs
    have hw7 := wrap_in (n := 7 * (i : Int)) ⟨by omega, by omega⟩
    have hge : (127 : Int) < ((u / 2 ^ (7 * i) % 128 + 128 : Nat) : Int) := by omega
    have hwi := wrap_in (n := (i : Int) + 1) ⟨by omega, by omega⟩
    have hfin := ih (i + 1) (by omega) (by rw [hnext]; exact hv2) (.inr (by rw [hnext]; omega)) (n + 1) (by omega)
    simp only [Int.natCast_add, Int.natCast_one] at hfin
    generalize u / 2 ^ (7 * i) % 128 * 2 ^ (7 * i) = y at *
    generalize u % 2 ^ (7 * i) = z at *
    generalize u % 2 ^ (7 * (i + 1)) = z2 at *
    generalize u / 2 ^ (7 * i) % 128 + 128 = c at *
    generalize u / 2 ^ (7 * i) % 128 = c7 at *
    clear hend hv hv2 hci hbi bv' hbs ih hnext hmod
    rw [f43.n1]; unfold f43.b1
    simp (disch := first | exact D.go | fail) [setR, List.getElem?_cons_zero, List.getElem?_cons_succ, hlt, f43.n2, f43.b2, hidx, hrd, ha, hb8, hw7, hs, ho, hge, f43.n3, f43.b3, hwi]
    exact hfin
/-- A number is read. -/
theorem rNumR {hb h : AHeap} {kr : Nat} {n : Int} (hn : InR n) {rest : List Nat} (R : RdAt I hb h kr (numB n ++ rest)) : ∃ v', (AM.lim ⟨P, I, genF P Sh.prims⟩) 43 [.ptr (.own kr) 0] h = some (.int .i64 n, h.set kr ⟨[v', .bool false], true⟩) ∧ RdAt I hb (h.set kr ⟨[v', .bool false], true⟩) kr rest := by
  obtain ⟨v, hk, bv⟩ := R.at_
  have hl := numB_len hn
  have hlv := bv.len
  obtain ⟨m, hm⟩ : ∃ m, m = min (numB n ++ rest).length 10 := ⟨_, rfl⟩
  obtain ⟨pv, hpv, bp⟩ := bv.to (m := m) (by omega)
  have hlp := bp.len
  have hlm : ((numB n ++ rest).take m).length = m := by rw [List.length_take]; omega
  rw [hlm] at hlp
  have hkm : (numB n).length ≤ m := by rw [hm, List.length_append]; omega
  obtain ⟨v', bv', hrun⟩ := rLoop (I := I) R (zig_lt hn) bp (by omega) rest rfl hkm hl
  refine ⟨v', ?_, R.lo, by simp; exact R.hi, R.ext.set (Nb.o R.lo), v', AHeap.set_at (Nb.o rfl), bv'⟩
  have hkp : 0 < (varint (zig n)).length := List.length_pos_iff.2 (varint_ne _)
  have h0 := hrun ((varint (zig n)).length - 1) 0 (by omega) (by simp) (.inl rfl) 60 (by unfold numB at hl; omega)
  rw [unzig_zig hn] at h0
  have hmz : zig n % 2 ^ (7 * 0) = 0 := by simp [Nat.mod_one]
  rw [hmz] at h0
  have hmin0 : ∀ len : Nat, pMinmax false [.int .i64 (len : Int), Z 10] = some (.int .i64 ((min len 10 : Nat) : Int)) := by
    intro len
    by_cases hc : len ≤ 10
    · simp [pMinmax, minInts, Nat.min_eq_left hc]
      intro h; omega
    · simp [pMinmax, minInts, Nat.min_eq_right (by omega : 10 ≤ len)]
      intro h; omega
  have hmin := hmin0 (numB n ++ rest).length
  rw [← hm] at hmin
  refine Res.eq (f43.lim rfl (n := 60) ?_)
  unfold f43.e
  generalize hL : (((numB n ++ rest).length : Nat) : Int) = L at *
  clear hL hrun bv bp R
  simp (disch := first | exact D.go | fail) [setR, List.getElem?_cons_zero, List.getElem?_cons_succ, hk, hlv, hmin, hpv, hlp]
  exact h0
end
end
end Go.Proofs.YtncjcnipagdmlaaDoor.Tx

set_option linter.unusedSimpArgs false
set_option linter.unusedVariables false
namespace Go.Proofs.YtncjcnipagdmlaaDoor.Tx
noncomputable section
open Go.AM Go.Proofs.YtncjcnipagdmlaaDoor.Sf
section
variable {I : Inp} {h0 : AHeap}
theorem rSize {hb h : AHeap} {kr : Nat} {n : Nat} {bs : List Nat} (hn : n ≤ 1000000000) (R : RdAt I hb h kr (numB (n : Int) ++ bs)) (hl : n ≤ bs.length) : ∃ v', (AM.lim ⟨P, I, genF P Sh.prims⟩) 39 [.ptr (.own kr) 0] h = some (.int .i64 (n : Int), h.set kr ⟨[v', .bool false], true⟩) ∧ RdAt I hb (h.set kr ⟨[v', .bool false], true⟩) kr bs := by
  obtain ⟨v', c1, R'⟩ := rNumR (I := I) (n := (n : Int)) ⟨by omega, by omega⟩ R
  refine ⟨v', ?_, R'⟩
  obtain ⟨v2, hk, bv⟩ := R'.at_
  have hv : v2 = v' := by rw [AHeap.set_at (Nb.o rfl)] at hk; cases hk; rfl
  subst hv
  have hl' := bv.len
  have n0 : ¬ (n : Int) < 0 := by omega
  have n1 : ¬ (bs.length : Int) < (n : Int) := by omega
  have n1' : ¬ bs.length < n := by omega
  refine Res.eq (f39.lim rfl (n := 2) ?_)
  unfold f39.e
  generalize hH : h.set kr ⟨[v2, .bool false], true⟩ = H at *
  clear R R' bv
  simp (disch := first | exact D.go | fail) [setR, List.getElem?_cons_zero, List.getElem?_cons_succ, c1, n0, n1, n1', hk, hl', f39.n0, f39.b0]
def nF (n : Int) : List AVal := [.int .i64 n]
theorem nFix : Fix nF 1 := ⟨fun _ => rfl, fun _ => rfl, by omega⟩
/-- What the reader's work leaves as it was. -/
def RKeep (kr : Nat) (h g : AHeap) : Prop := h.next ≤ g.next ∧ ∀ m, m < h.next → m ≠ kr → g.get m = h.get m
theorem RKeep.refl (kr : Nat) (h : AHeap) : RKeep kr h h := ⟨Nat.le_refl _, fun _ _ _ => rfl⟩
theorem RKeep.trans {kr : Nat} {a b c : AHeap} (x : RKeep kr a b) (y : RKeep kr b c) : RKeep kr a c :=
  ⟨Nat.le_trans x.1 y.1, fun m hm hne => (y.2 m (Nat.lt_of_lt_of_le hm x.1) hne).trans (x.2 m hm hne)⟩
theorem RKeep.set (kr : Nat) (h : AHeap) (b : Blk) : RKeep kr h (h.set kr b) := ⟨Nat.le_refl _, fun m _ hne => AHeap.set_ne (Nb.o hne)⟩
theorem rNumsL {hb h00 : AHeap} {kr : Nat} (rest : List Nat) (hr0 : kr < h00.next) : ∀ (xs acc : List Int) (w : AVal) (h : AHeap), (∀ x ∈ xs, InR x) → RdAt I hb h kr (xs.flatMap numB ++ rest) → Own nF 1 hb h w acc → (∀ m, m < h00.next → NotB w m) → RKeep kr h00 h → acc.length + xs.length ≤ 1000000 →
    ∀ N, 4 * xs.length + 4 ≤ N → Res ((f42.J I (AM.lim ⟨P, I, genF P Sh.prims⟩) (N)).1.2 (.ptr (.own kr) 0) w (.int .i64 (xs.length : Int)) h) fun u g => Own nF 1 hb g u (acc ++ xs) ∧ RdAt I hb g kr rest ∧ RKeep kr h00 g ∧ ∀ m, m < h00.next → NotB u m := by
  intro xs
  induction xs with
  | nil =>
    intro acc w h _ R o nb K hl N hN
    obtain ⟨n, rfl⟩ : ∃ n, N = n + 2 := ⟨N - 2, by omega⟩
    have hfin : Own nF 1 hb h w (acc ++ []) ∧ RdAt I hb h kr rest ∧ RKeep kr h00 h ∧ ∀ m, m < h00.next → NotB w m := ⟨by rw [List.append_nil]; exact o, R, K, nb⟩
    generalize hQ : (fun (u : AVal) (g : AHeap) => Own nF 1 hb g u (acc ++ []) ∧ RdAt I hb g kr rest ∧ RKeep kr h00 g ∧ ∀ m, m < h00.next → NotB u m) = Q
    have hq : Q w h := by rw [← hQ]; exact hfin
    clear hQ hfin R o K
    rw [f42.n1]; unfold f42.b1
    simp (disch := first | exact D.go | fail) [setR, List.getElem?_cons_zero, List.getElem?_cons_succ, f42.n0, f42.b0]
    exact hq
  | cons x xs ih =>
    intro acc w h hx R o nb K hl N hN
    simp only [List.length_cons] at hN hl
    obtain ⟨n, rfl⟩ : ∃ n, N = n + 4 := ⟨N - 4, by omega⟩
    obtain ⟨v0, hk0, _⟩ := R.at_
    rw [List.flatMap_cons, List.append_assoc] at R
    obtain ⟨v', c1, R'⟩ := rNumR (I := I) (hx x (by simp)) R
    obtain ⟨H, hH⟩ : ∃ H, H = h.set kr ⟨[v', .bool false], true⟩ := ⟨_, rfl⟩
    rw [← hH] at c1 R'
    have o' : Own nF 1 hb H w acc := by rw [hH]; exact o.setB (nb kr hr0)
    have hHn : H.next = h.next := by rw [hH]; simp
    obtain ⟨u, g, e1, o1, x1, k1, k2⟩ := app_own (I := I) (f := nF) nFix (o'.mono (Ext.refl H).alloc) R'.ext.alloc x (bytes := 8) (by omega) (by omega) (kw := H.next) (c := .known 1) (AHeap.alloc_at (Nb.o rfl))
    simp only [AHeap.next_alloc] at k1 k2
    have hKlo := K.1
    have hkr : kr < h00.next := hr0
    have keep : ∀ m, m < h00.next → g.get m = H.get m ∧ NotB u m := fun m hm => by
      obtain ⟨p1, p2⟩ := k2 m (nb m hm) (by omega)
      exact ⟨p1.trans (by rw [AHeap.alloc_ne (Nb.o (by omega))]), p2⟩
    have Rg : RdAt I hb g kr (xs.flatMap numB ++ rest) := by
      obtain ⟨v2, hk2, bv2⟩ := R'.at_
      exact ⟨R'.lo, by omega, x1, v2, (keep kr hkr).1.trans hk2, bv2⟩
    have Kg : RKeep kr h00 g := ⟨by omega, fun m hm hne => (keep m hm).1.trans (by rw [hH, AHeap.set_ne (Nb.o hne)]; exact K.2 m hm hne)⟩
    have hi2 := ih (acc ++ [x]) u g (fun y hy => hx y (by simp [hy])) Rg o1 (fun m hm => (keep m hm).2) Kg (by simp only [List.length_append, List.length_cons, List.length_nil]; omega) (n + 1) (by omega)
    simp only [List.append_assoc, List.singleton_append] at hi2
    have hw : IntKind.i64.wrap (((xs.length + 1 : Nat) : Int) - 1) = (xs.length : Int) := by rw [wrap_in ⟨by omega, by omega⟩]; omega
    have hpos : (0 : Int) < ((xs.length + 1 : Nat) : Int) := by omega
    have e1' : sAppend I 1 8 w (.sl (.own H.next) 0 1 (.known 1)) (H.alloc ⟨[.int .i64 x], true⟩) = some (u, g) := e1
    rw [List.length_cons]
    generalize ((xs.length + 1 : Nat) : Int) = L at *
    generalize hQ : (fun (u : AVal) (g : AHeap) => Own nF 1 hb g u (acc ++ x :: xs) ∧ RdAt I hb g kr rest ∧ RKeep kr h00 g ∧ ∀ m, m < h00.next → NotB u m) = Q at *
    clear hQ ih R R' Rg Kg o o' o1 K e1
    rw [f42.n1]; unfold f42.b1
    simp (disch := first | exact D.go | fail) [setR, List.getElem?_cons_zero, List.getElem?_cons_succ, hpos, hk0, f42.n2, f42.b2, c1, e1', f42.n3, f42.b3, hw]
    exact hi2
theorem flat_len (xs : List Int) : xs.length ≤ (xs.flatMap numB).length := by
  induction xs with
  | nil => simp
  | cons x xs ih =>
    have : 0 < (numB x).length := List.length_pos_iff.2 (varint_ne (zig x))
    simp only [List.flatMap_cons, List.length_append, List.length_cons]
    omega
/-- A list of numbers is read. -/
theorem rNumsR {hb h : AHeap} {kr : Nat} {xs : List Int} {rest : List Nat} (hx : ∀ x ∈ xs, InR x) (hl : xs.length ≤ 1000000) (R : RdAt I hb h kr (numsB xs ++ rest)) : Res ((AM.lim ⟨P, I, genF P Sh.prims⟩) 42 [.ptr (.own kr) 0] h) fun u g => Own nF 1 hb g u xs ∧ RdAt I hb g kr rest ∧ RKeep kr h g ∧ ∀ m, m < h.next → NotB u m := by
  unfold numsB at R
  rw [List.append_assoc] at R
  obtain ⟨v', c1, R'⟩ := rSize (I := I) (n := xs.length) (by omega) R (by have := flat_len xs; rw [List.length_append]; omega)
  have h1 := rNumsL (I := I) (h00 := h) rest R.hi xs [] .nils _ hx R' Own.nil (fun m _ k o n c e => by cases e) (RKeep.set kr h _) (by simpa using hl) (4 * xs.length + 4) (Nat.le_refl _)
  rw [List.nil_append] at h1
  refine f42.lim rfl (n := 4 * xs.length + 4) ?_
  unfold f42.e
  generalize hQ : (fun (u : AVal) (g : AHeap) => Own nF 1 hb g u xs ∧ RdAt I hb g kr rest ∧ RKeep kr h g ∧ ∀ m, m < h.next → NotB u m) = Q at *
  clear hQ R R'
  simp (disch := first | exact D.go | fail) [setR, List.getElem?_cons_zero, List.getElem?_cons_succ, c1]
  exact h1
end
end
end Go.Proofs.YtncjcnipagdmlaaDoor.Tx

set_option linter.unusedSimpArgs false
set_option linter.unusedVariables false
namespace Go.Proofs.YtncjcnipagdmlaaDoor.Tx
noncomputable section
open Go.AM Go.Proofs.YtncjcnipagdmlaaDoor.Sf
section
variable {I : Inp} {h0 : AHeap}
/-! a program of one interface alone, read -/
theorem own_nums {hb g : AHeap} {v : AVal} {xs : List Int} (o : Own nF 1 hb g v xs) (hr : ∀ x ∈ xs, InR x) (hl : xs.length ≤ 9223372036854775807) : SlOf 1 (IntA I g) v xs := by
  rcases o with ⟨rfl, rfl⟩ | ⟨k, rfl, hk, h1, h2, h3⟩
  · exact SlOf.nil
  · have e : ∀ l : List Int, l.flatMap nF = l.map fun n => AVal.int .i64 n := by
      intro l; induction l with
      | nil => rfl
      | cons a t ih => rw [List.flatMap_cons, ih]; rfl
    rw [e] at hk
    exact ints_new hk h2 (fun m hm => by simp [capHas]; simpa using hm) hl h3 hr
theorem tProg {hb h : AHeap} {kr : Nat} {xs : List Int} (hx : ∀ x ∈ xs, InR x) (hl : xs.length ≤ 1000000) (R : RdAt I hb h kr (faceB xs)) : Res ((AM.lim ⟨P, I, genF P Sh.prims⟩) 26 [.ptr (.own kr) 0] h) fun u g => ∃ kp, u = .ptr (.own kp) 0 ∧ FaceAt I g kp xs ∧ RdAt I hb g kr [] ∧ RKeep kr h g := by
  -- the program's own block
  obtain ⟨H, hH⟩ : ∃ H, H = h.alloc ⟨[.nils, .nils, .nils, .nils, .nils, Z 0], true⟩ := ⟨_, rfl⟩
  have xH : Ext h H := by rw [hH]; exact (Ext.refl h).alloc
  have hHn : H.next = h.next + 1 := by rw [hH]; simp
  have hHk : H.get h.next = some ⟨[.nils, .nils, .nils, .nils, .nils, Z 0], true⟩ := by rw [hH]; exact AHeap.alloc_at (Nb.o rfl)
  have hkr := R.hi
  have R0 : RdAt I hb H kr (faceB xs) := by
    obtain ⟨v, hk, bv⟩ := R.at_
    exact ⟨R.lo, by omega, R.ext.trans xH, v, (xH.same _ hkr).trans hk, bv⟩
  have hlN : xs.length ≤ (numsB xs).length := by
    have := flat_len xs
    unfold numsB
    rw [List.length_append]; omega
  unfold faceB at R0
  obtain ⟨v1, c1, R1⟩ := rSize (I := I) (n := 0) (by omega) R0 (by omega)
  obtain ⟨g1, hg1⟩ : ∃ g1, g1 = H.set kr ⟨[v1, .bool false], true⟩ := ⟨_, rfl⟩
  rw [← hg1] at c1 R1
  have K1 : RKeep kr H g1 := by rw [hg1]; exact RKeep.set kr H _
  obtain ⟨v2, c2, R2⟩ := rSize (I := I) (n := 0) (by omega) R1 (by omega)
  obtain ⟨g2, hg2⟩ : ∃ g2, g2 = g1.set kr ⟨[v2, .bool false], true⟩ := ⟨_, rfl⟩
  rw [← hg2] at c2 R2
  have K2 : RKeep kr g1 g2 := by rw [hg2]; exact RKeep.set kr g1 _
  obtain ⟨v3, c3, R3⟩ := rSize (I := I) (n := 1) (by omega) R2 (by simp only [List.length_append, numB0, List.length_cons]; omega)
  obtain ⟨g3, hg3⟩ : ∃ g3, g3 = g2.set kr ⟨[v3, .bool false], true⟩ := ⟨_, rfl⟩
  rw [← hg3] at c3 R3
  have K3 : RKeep kr g2 g3 := by rw [hg3]; exact RKeep.set kr g2 _
  obtain ⟨w, g4, c4, o4, R4, K4, nb4⟩ := rNumsR (I := I) hx hl R3
  -- the one interface, appended
  have p4 := (K4.2 h.next (by have := K1.1; have := K2.1; have := K3.1; omega) (by omega)).trans ((K3.2 h.next (by have := K1.1; have := K2.1; omega) (by omega)).trans ((K2.2 h.next (by have := K1.1; omega) (by omega)).trans ((K1.2 h.next (by omega) (by omega)).trans hHk)))
  have p3 := ((K3.2 h.next (by have := K1.1; have := K2.1; omega) (by omega)).trans ((K2.2 h.next (by have := K1.1; omega) (by omega)).trans ((K1.2 h.next (by omega) (by omega)).trans hHk)))
  have n4 : h.next < g4.next := by have := K1.1; have := K2.1; have := K3.1; have := K4.1; omega
  have ow := o4.v1
  have ha := sAppend_nils (I := I) (sz := 1) (bytes := 24) (k := g4.next) (n := 0) (news := [w]) (p := true) (c := .known 1) (h := g4.alloc ⟨[w], true⟩) (AHeap.alloc_at (Nb.o rfl)) rfl (by simp [ow.1]) (by simp [bigRoom])
  obtain ⟨G, hG⟩ : ∃ G, G = ((g4.alloc ⟨[w], true⟩).alloc ⟨[w], true⟩).set h.next ⟨[.nils, .nils, .sl (.own (g4.next + 1)) 0 1 (.grown 1), .nils, .nils, Z 0], true⟩ := ⟨_, rfl⟩
  have KG : ∀ m, m < g4.next → m ≠ h.next → G.get m = g4.get m := fun m hm hne => by rw [hG, AHeap.set_ne (Nb.o hne), AHeap.alloc_ne (Nb.o (by simp; omega)), AHeap.alloc_ne (Nb.o (by omega))]
  have hGn : G.next = g4.next + 2 := by rw [hG]; simp
  have hGp : G.get h.next = some ⟨[.nils, .nils, .sl (.own (g4.next + 1)) 0 1 (.grown 1), .nils, .nils, Z 0], true⟩ := by rw [hG]; exact AHeap.set_at (Nb.o rfl)
  have hGi : G.get (g4.next + 1) = some ⟨[w], true⟩ := by rw [hG, AHeap.set_ne (Nb.o (by omega))]; exact AHeap.alloc_at (Nb.o (by simp))
  have n3 : h.next < g3.next := by have := K1.1; have := K2.1; have := K3.1; omega
  have oG : Own nF 1 hb G w xs := by
    rcases o4 with ⟨rfl, rfl⟩ | ⟨k, rfl, hk, h1, h2, h3⟩
    · exact Own.nil
    · exact .inr ⟨k, rfl, (KG k h2 (Ne.symm (nb4 h.next n3 k _ _ _ rfl))).trans hk, h1, by omega, h3⟩
  have kr4 : kr < g4.next := R4.hi
  have krh : kr ≠ h.next := by omega
  have xG : Ext hb G := ⟨by have := R4.ext.lo; omega, fun m hm => by
    have := R4.ext.lo; have := R.ext.lo
    exact (KG m (by omega) (by omega)).trans (R4.ext.same m hm)⟩
  have RG : RdAt I hb G kr (numB ((0 : Nat) : Int) ++ (numB ((0 : Nat) : Int) ++ (numB 0 ++ []))) := by
    obtain ⟨v, hk, bv⟩ := R4.at_
    refine ⟨R.lo, by omega, xG, v, (KG kr kr4 krh).trans hk, ?_⟩
    simpa using bv
  obtain ⟨v5, c5, R5⟩ := rSize (I := I) (n := 0) (by omega) RG (by omega)
  obtain ⟨g5, hg5⟩ : ∃ g5, g5 = G.set kr ⟨[v5, .bool false], true⟩ := ⟨_, rfl⟩
  rw [← hg5] at c5 R5
  have K5 : RKeep kr G g5 := by rw [hg5]; exact RKeep.set kr G _
  obtain ⟨v6, c6, R6⟩ := rSize (I := I) (n := 0) (by omega) R5 (by omega)
  obtain ⟨g6, hg6⟩ : ∃ g6, g6 = g5.set kr ⟨[v6, .bool false], true⟩ := ⟨_, rfl⟩
  rw [← hg6] at c6 R6
  have K6 : RKeep kr g5 g6 := by rw [hg6]; exact RKeep.set kr g5 _
  obtain ⟨v7, c7, R7⟩ := rNumR (I := I) r0 R6
  obtain ⟨g7, hg7⟩ : ∃ g7, g7 = g6.set kr ⟨[v7, .bool false], true⟩ := ⟨_, rfl⟩
  rw [← hg7] at c7 R7
  have K7 : RKeep kr g6 g7 := by rw [hg7]; exact RKeep.set kr g6 _
  have K57 := (K5.trans K6).trans K7
  have p7 := (K57.2 h.next (by omega) (Ne.symm krh)).trans hGp
  obtain ⟨F, hF⟩ : ∃ F, F = g7.set h.next ⟨[.nils, .nils, .sl (.own (g4.next + 1)) 0 1 (.grown 1), .nils, .nils, Z 0], true⟩ := ⟨_, rfl⟩
  have hFn : F.next = g7.next := by rw [hF]; simp
  have KF : ∀ m, m ≠ h.next → F.get m = g7.get m := fun m hne => by rw [hF, AHeap.set_ne (Nb.o hne)]
  have xF : Ext hb F := ⟨by have := R7.ext.lo; omega, fun m hm => by
    have := R.ext.lo
    exact (KF m (by omega)).trans (R7.ext.same m hm)⟩
  have oF : Own nF 1 hb F w xs := by
    rcases oG with ⟨rfl, rfl⟩ | ⟨k, rfl, hk, h1, h2, h3⟩
    · exact Own.nil
    · have hkr' : k ≠ kr := Ne.symm (nb4 kr R3.hi k _ _ _ rfl)
      exact .inr ⟨k, rfl, (KF k (Ne.symm (nb4 h.next n3 k _ _ _ rfl))).trans ((K57.2 k h2 hkr').trans hk), h1, by have := K57.1; omega, h3⟩
  have hfin : ∃ kp, (AVal.ptr (.own h.next) 0) = .ptr (.own kp) 0 ∧ FaceAt I F kp xs ∧ RdAt I hb F kr [] ∧ RKeep kr h F := by
    have := K57.1
    refine ⟨h.next, rfl, ⟨by omega, g4.next + 1, .grown 1, w, by rw [hF]; exact AHeap.set_at (Nb.o rfl), by omega, (KF _ (by omega)).trans ((K57.2 _ (by omega) (by omega)).trans hGi), own_nums oF hx (by omega)⟩, ?_, by have := K1.1; have := K2.1; have := K3.1; have := K4.1; omega, fun m hm hne => ?_⟩
    · obtain ⟨v, hk, bv⟩ := R7.at_
      exact ⟨R.lo, by omega, xF, v, (KF kr krh).trans hk, bv⟩
    · have l1 := K1.1; have l2 := K2.1; have l3 := K3.1; have l4 := K4.1
      rw [KF m (by omega), K57.2 m (by omega) hne, KG m (by omega) (by omega), K4.2 m (by omega) hne, K3.2 m (by omega) hne, K2.2 m (by omega) hne, K1.2 m (by omega) hne]
      exact xH.same m hm
  obtain ⟨b1, q1, _⟩ := R1.at_
  obtain ⟨b2, q2, _⟩ := R2.at_
  obtain ⟨b3, q3, _⟩ := R3.at_
  obtain ⟨b4, q4, _⟩ := R4.at_
  obtain ⟨b5, q5, _⟩ := R5.at_
  obtain ⟨b6, q6, _⟩ := R6.at_
  obtain ⟨bG, qG, _⟩ := RG.at_
  generalize hQ : (fun (u : AVal) (g : AHeap) => ∃ kp, u = .ptr (.own kp) 0 ∧ FaceAt I g kp xs ∧ RdAt I hb g kr [] ∧ RKeep kr h g) = Q
  have hq : Q (.ptr (.own h.next) 0) F := by rw [← hQ]; exact hfin
  have d1 : (AM.lim ⟨P, I, genF P Sh.prims⟩) 39 [.ptr (.own kr) 0] (h.alloc ⟨[.nils, .nils, .nils, .nils, .nils, Z 0], true⟩) = some (.int .i64 0, g1) := by rw [← hH]; exact c1
  have d2 : (AM.lim ⟨P, I, genF P Sh.prims⟩) 39 [.ptr (.own kr) 0] g1 = some (.int .i64 0, g2) := c2
  have d3 : (AM.lim ⟨P, I, genF P Sh.prims⟩) 39 [.ptr (.own kr) 0] g2 = some (.int .i64 1, g3) := c3
  have d5 : (AM.lim ⟨P, I, genF P Sh.prims⟩) 39 [.ptr (.own kr) 0] (((g4.alloc ⟨[w], true⟩).alloc ⟨[w], true⟩).set h.next ⟨[.nils, .nils, .sl (.own (g4.next + 1)) 0 1 (.grown 1), .nils, .nils, Z 0], true⟩) = some (.int .i64 0, g5) := by rw [← hG]; exact c5
  have d6 : (AM.lim ⟨P, I, genF P Sh.prims⟩) 39 [.ptr (.own kr) 0] g5 = some (.int .i64 0, g6) := c6
  have d7 : (AM.lim ⟨P, I, genF P Sh.prims⟩) 43 [.ptr (.own kr) 0] g6 = some (.int .i64 0, g7) := c7
  have qG' : (((g4.alloc ⟨[w], true⟩).alloc ⟨[w], true⟩).set h.next ⟨[.nils, .nils, .sl (.own (g4.next + 1)) 0 1 (.grown 1), .nils, .nils, Z 0], true⟩).get kr = some ⟨[bG, .bool false], true⟩ := by rw [← hG]; exact qG
  have w0 : IntKind.i64.wrap (1 - 1) = 0 := wrap_in r0
  have w0' : IntKind.i64.wrap 0 = 0 := wrap_in r0
  rw [hF] at hq
  refine f26.lim rfl (n := 14) ?_
  unfold f26.e
  clear hQ hfin R R0 R1 R2 R3 R4 R5 R6 R7 RG K1 K2 K3 K4 K5 K6 K7 K57 KF KG oF oG o4 nb4 xF xG hF hFn hG hGn hGp hGi c1 c2 c3 c5 c6 c7 hg1 hg2 hg3 hg5 hg6 hg7 xH hHk hHn hH
  simp (disch := first | exact D.go | fail) [setR, List.getElem?_cons_zero, List.getElem?_cons_succ, f26.n0, f26.b0, f26.n1, f26.b1, f26.n2, f26.b2, f26.n3, f26.b3, f26.n4, f26.b4, f26.n5, f26.b5, f26.n6, f26.b6, f26.n7, f26.b7, f26.n8, f26.b8, f26.n9, f26.b9, f26.n10, f26.b10, f26.n11, f26.b11, f26.n12, f26.b12, f26.n13, f26.b13, f26.n14, f26.b14, f26.n15, f26.b15, f26.n16, f26.b16, f26.n17, f26.b17, f26.n18, f26.b18, f26.n19, f26.b19, d1, d2, d3, c4, d5, d6, d7, q1, q2, q3, q4, q5, q6, qG', p3, p4, p7, ow.1, ow.2, ha, w0, w0']
  exact hq
end
end
end Go.Proofs.YtncjcnipagdmlaaDoor.Tx

set_option linter.unusedSimpArgs false
set_option linter.unusedVariables false
namespace Go.Proofs.YtncjcnipagdmlaaDoor.Tx
noncomputable section
open Go.AM Go.Proofs.YtncjcnipagdmlaaDoor.Sf
section
variable {I : Inp} {h0 : AHeap}
/-! Encode and Decode of a program of one interface -/
theorem varint_lt : ∀ (u : Nat), ∀ x ∈ varint u, x < 256 := by
  intro u
  induction u using Nat.strongRecOn with
  | _ u ih =>
    intro x hx
    by_cases h : u < 128
    · rw [varint_small h] at hx; simp at hx; omega
    · rw [varint_big h] at hx
      rcases List.mem_cons.1 hx with rfl | hx
      · omega
      · exact ih (u / 128) (by omega) x hx
theorem numsB_lt (xs : List Int) : ∀ x ∈ numsB xs, x < 256 := by
  intro x hx
  unfold numsB at hx
  rcases List.mem_append.1 hx with h | h
  · exact varint_lt _ x h
  · obtain ⟨a, _, ha⟩ := List.mem_flatMap.1 h
    exact varint_lt _ x ha
theorem faceB_lt (xs : List Int) : ∀ x ∈ faceB xs, x < 256 := by
  intro x hx
  unfold faceB at hx
  simp only [List.mem_append] at hx
  rcases hx with h | h | h | h | h | h | h
  all_goals first | exact varint_lt _ x h | exact numsB_lt xs x h
theorem faceB_len {xs : List Int} (hr : ∀ x ∈ xs, InR x) (hm : xs.length ≤ 1048576) : (faceB xs).length ≤ 20 + 10 * xs.length ∧ faceB xs ≠ [] := by
  have := numsB_len hr hm
  unfold faceB
  rw [numB0, numB1]
  constructor
  · simp only [List.length_append, List.length_cons, List.length_nil]; omega
  · simp
theorem own_by {hb g : AHeap} {v : AVal} {bs : List Nat} (o : Own byF 1 hb g v bs) (hl : ∀ x ∈ bs, x < 256) (hn : bs.length ≤ 9223372036854775807) : ByS I g v bs := by
  rcases o with ⟨rfl, rfl⟩ | ⟨k, rfl, hk, h1, h2, h3⟩
  · exact .inl ⟨rfl, rfl⟩
  · refine .inr ⟨.own k, 0, .grown 1, rfl, fun m hm => by simp [capHas]; exact hm, hn, fun i x hi => ⟨hl x (List.mem_of_getElem? hi), fun f e => ?_⟩⟩
    have := byFix.get bs i x 0 (.int .u8 (x : Int)) hi rfl
    rw [rd_own', e.same k h2, hk]
    simpa using this
theorem toStr_by {hb : AHeap} {v : AVal} {bs : List Nat} (a : ByS I hb v bs) (hne : bs ≠ []) (g : AHeap) (x : Ext hb g) : pToStr I v g = some (.str bs) := by
  rcases a with ⟨rfl, rfl⟩ | ⟨l, o, cap, rfl, hc, hn, hr⟩
  · exact absurd rfl hne
  · have h1 : AM.rds I g l o (bs.map fun b : Nat => AVal.int .u8 (b : Int)).length = some (bs.map fun b : Nat => AVal.int .u8 (b : Int)) := rds_of (by simpa using hne) fun i v hv => by
      rw [List.getElem?_map, Option.map_eq_some_iff] at hv
      obtain ⟨b, hb, rfl⟩ := hv
      exact (hr i b hb).2 g x
    rw [List.length_map] at h1
    have h2 : ∀ l : List Nat, (∀ x ∈ l, x < 256) → (l.map fun b : Nat => AVal.int .u8 (b : Int)).mapM (m := Option) AM.byteOf = some l := by
      intro l
      induction l with
      | nil => intro _; rfl
      | cons b r ih =>
        intro hb
        have hb1 : Nat.blt b 256 = true := by rw [blt_iff]; simp [hb b (by simp)]
        have hy : AM.byteOf (AVal.int .u8 (Int.ofNat b)) = some b := by simp only [AM.byteOf, hb1]
        rw [List.map_cons, List.mapM_cons, show AM.byteOf (AVal.int .u8 (b : Int)) = some b from hy, ih fun x hx => hb x (by simp [hx])]
        rfl
    have h3 := h2 bs fun y hy => by
      obtain ⟨i, hi⟩ := List.getElem?_of_mem hy
      exact (hr i y hi).1
    simp only [pToStr, rdsK_eq, h1, h3]
theorem tEncode {hb : AHeap} {kp : Nat} {xs : List Int} (a : FaceAt I hb kp xs) (hr : ∀ x ∈ xs, InR x) (hm : xs.length ≤ 100000) (hl : (faceB xs).length ≤ 20000) : ∃ v g, (AM.lim ⟨P, I, genF P Sh.prims⟩) 13 [.ptr (.own kp) 0] hb = some (.tuple [v, .nili], g) ∧ Own byF 1 hb g v (faceB xs) ∧ Ext hb g := by
  obtain ⟨v, g, c1, o, x⟩ := tText (I := I) a hm
  refine ⟨v, g, ?_, o, x⟩
  have hlen := o.len
  have n0 : ¬ (20000 : Int) < ((faceB xs).length : Int) := by omega
  have n1 : ¬ 20000 < (faceB xs).length := by omega
  refine Res.eq (f13.lim rfl (n := 3) ?_)
  unfold f13.e
  generalize faceB xs = bs at *
  simp (disch := first | exact D.go | fail) [setR, List.getElem?_cons_zero, List.getElem?_cons_succ, f13.n0, f13.b0, f13.n1, f13.b1, c1, hlen, n0, n1]
theorem tDecode {hb : AHeap} {v : AVal} {xs : List Int} (bv : ByS I hb v (faceB xs)) (hr : ∀ x ∈ xs, InR x) (hm : xs.length ≤ 100000) (hl : (faceB xs).length ≤ 20000) : ∃ kp g, (AM.lim ⟨P, I, genF P Sh.prims⟩) 15 [v] hb = some (.tuple [.ptr (.own kp) 0, .nili], g) ∧ FaceAt I g kp xs ∧ Ext hb g := by
  obtain ⟨H, hH⟩ : ∃ H, H = hb.alloc ⟨[v, .bool false], true⟩ := ⟨_, rfl⟩
  have xH : Ext hb H := by rw [hH]; exact (Ext.refl hb).alloc
  have hHn : H.next = hb.next + 1 := by rw [hH]; simp
  have hHk : H.get hb.next = some ⟨[v, .bool false], true⟩ := by rw [hH]; exact AHeap.alloc_at (Nb.o rfl)
  have R : RdAt I hb H hb.next (faceB xs) := ⟨Nat.le_refl _, by omega, xH, v, hHk, bv⟩
  obtain ⟨_, g1, c1, kp, rfl, fa, R1, K1⟩ := tProg (I := I) hr (by omega) R
  obtain ⟨b1, q1, bb1⟩ := R1.at_
  have lb1 : pLenSl b1 = some (.int .i64 0) := bb1.len
  obtain ⟨u2, g2, c2, o2, x2⟩ := tText (I := I) fa hm
  obtain ⟨_, hne⟩ := faceB_len hr (by omega)
  have s1 := toStr_by (I := I) (own_by (I := I) o2 (faceB_lt xs) (by omega)) hne g2 (Ext.refl g2)
  have s2 := toStr_by (I := I) bv hne g2 (R1.ext.trans x2)
  refine ⟨kp, g2, ?_, fa.mono x2, R1.ext.trans x2⟩
  have lv := bv.len
  have n0 : ¬ (20000 : Int) < ((faceB xs).length : Int) := by omega
  have n1 : ¬ 20000 < (faceB xs).length := by omega
  have c3 : (AM.lim ⟨P, I, genF P Sh.prims⟩) 27 [u2, v] g2 = some (.bool true, g2) := by
    refine Res.eq (f27.lim rfl (n := 1) ?_)
    unfold f27.e
    generalize faceB xs = bs at *
    have hself : natsEq bs bs = true := natsEq_self _
    have hst : pBin .eql (.str bs) (.str bs) = some (.bool (natsEq bs bs)) := nrfl
    rw [hself] at hst
    simp (disch := first | exact D.go | fail) [setR, List.getElem?_cons_zero, List.getElem?_cons_succ, s1, s2, hst]
  have o1 := bv.one
  have c1' : (AM.lim ⟨P, I, genF P Sh.prims⟩) 26 [.ptr (.own hb.next) 0] (hb.alloc ⟨[v, .bool false], true⟩) = some (.ptr (.own kp) 0, g1) := by rw [← hH]; exact c1
  refine Res.eq (f15.lim rfl (n := 3) ?_)
  unfold f15.e
  generalize faceB xs = bs at *
  clear R R1 K1 fa o2 hH xH hHk
  simp (disch := first | exact D.go | fail) [setR, List.getElem?_cons_zero, List.getElem?_cons_succ, f15.n0, f15.b0, f15.n1, f15.b1, lv, n0, n1, c1', q1, lb1, c2, c3, o1.1, o1.2]
end
end
end Go.Proofs.YtncjcnipagdmlaaDoor.Tx

set_option linter.unusedSimpArgs false
set_option linter.unusedVariables false
namespace Go.Proofs.YtncjcnipagdmlaaDoor.Tx
noncomputable section
open Go.AM Go.Proofs.YtncjcnipagdmlaaDoor.Sf
section
variable {I : Inp} {h0 : AHeap}
theorem takeK {v : AVal} {xs : List Int} (k : Nat) (sv : SlOf 1 (IntA I h0) v xs) (h : k < xs.length) (hk : 0 < k) : ∃ u, pSliceS 1 v none (some (.int .i64 (k : Int))) none = some u ∧ SlOf 1 (IntA I h0) u (xs.take k) := by
  rcases sv with ⟨rfl, rfl⟩ | ⟨l, o, cap, rfl, hc, hn, hx⟩
  · simp at h
  · have hlen : (xs.take k).length = k := by rw [List.length_take]; omega
    refine ⟨.sl l (o + 0 * 1) (k - 0) (capMinus cap 0), ?_, .inr ⟨l, o + 0 * 1, capMinus cap 0, by rw [hlen]; rfl, ?_, ⟨by rw [hlen]; omega, fun h' => by rw [h'] at hlen; simp at hlen; omega⟩, fun i x hi => ?_⟩⟩
    · show (match Nat.ble 0 k && capHas cap 1 xs.length k with
        | true => some (AVal.sl l (o + 0 * 1) (k - 0) (capMinus cap 0))
        | false => none) = _
      rw [Nat.ble_eq_true_of_le (Nat.zero_le _), hc k (by omega)]; rfl
    · rw [hlen]; exact capOk_less hc (by omega)
    · rw [List.getElem?_take] at hi
      split at hi
      · have := hx i x hi
        rw [show o + 0 * 1 + i * 1 = o + i * 1 by omega]; exact this
      · cases hi
theorem ext0 (g : AHeap) : Ext ⟨.nil, 0⟩ g := ⟨Nat.zero_le _, fun k hk => absurd hk (Nat.not_lt_zero k)⟩
end
end
end Go.Proofs.YtncjcnipagdmlaaDoor.Tx

set_option linter.unusedSimpArgs false
set_option linter.unusedVariables false
namespace Go.Proofs.YtncjcnipagdmlaaDoor.Tx
noncomputable section
open Go.AM Go.Proofs.YtncjcnipagdmlaaDoor.Sf
section
variable {I : Inp} {h0 : AHeap}
/-! the reference's bytes of a program of one interface; what is too long -/
theorem tREnc {hb : AHeap} {kp : Nat} {xs : List Int} (a : FaceAt I hb kp xs) (hm : xs.length ≤ 1000000) : Res ((AM.lim ⟨P, I, genF P Sh.prims⟩) 12 [.ptr (.own kp) 0] hb) fun u g => Own byF 1 hb g u (faceB xs) ∧ Ext hb g := by
  obtain ⟨ki, cap, v, h1, h2, h3, sv⟩ := a.at_
  have hkp := a.hi
  obtain ⟨u0, g0, c0, o0, x0⟩ := rNum (I := I) r0 hb
  obtain ⟨a1, b1, a2, b2, c1, d1, o1, x1, l1, _⟩ := num_app (I := I) (hb := hb) r0 o0 x0 (by simp [numB0])
  obtain ⟨a3, b3, a4, b4, c2, d2, o2, x2, l2, _⟩ := num_app (I := I) (hb := hb) r1 o1 x1 (by simp [numB0])
  obtain ⟨a5, b5, a6, b6, c3, d3, o3, x3, l3, _⟩ := nums_app (I := I) (h0 := hb) sv (by omega) x2 o2 x2 (by simp [numB0, numB1])
  obtain ⟨a7, b7, a8, b8, c4, d4, o4, x4, l4, _⟩ := num_app (I := I) (hb := hb) r0 o3 x3 (by simp only [List.length_append, numB0, numB1, List.length_cons, List.length_nil] at l3 ⊢; omega)
  obtain ⟨a9, b9, a10, b10, c5, d5, o5, x5, l5, _⟩ := num_app (I := I) (hb := hb) r0 o4 x4 (by simp only [List.length_append, numB0, numB1, List.length_cons, List.length_nil] at l3 ⊢; omega)
  obtain ⟨a11, b11, a12, b12, c6, d6, o6, x6, l6, _⟩ := num_app (I := I) (hb := hb) r0 o5 x5 (by simp only [List.length_append, numB0, numB1, List.length_cons, List.length_nil] at l3 ⊢; omega)
  have q0 := (x0.same _ hkp).trans h1
  have q1 := (x1.same _ hkp).trans h1
  have q2 := (x2.same _ hkp).trans h1
  have q3 := (x3.same _ hkp).trans h1
  have q4 := (x4.same _ hkp).trans h1
  have q5 := (x5.same _ hkp).trans h1
  have qi := (x2.same _ h2).trans h3
  have hfin : Own byF 1 hb b12 a12 (faceB xs) ∧ Ext hb b12 := ⟨by unfold faceB; simpa using o6, x6⟩
  generalize hQ : (fun (u : AVal) (g : AHeap) => Own byF 1 hb g u (faceB xs) ∧ Ext hb g) = Q
  have hq : Q a12 b12 := by rw [← hQ]; exact hfin
  have z0 : pIndexAddr 1 (.sl (.own ki) 0 1 cap) (Z 0) = some (.ptr (.own ki) 0) := rfl
  have w1 : IntKind.i64.wrap 1 = 1 := wrap_in r1
  have c6z : (AM.lim ⟨P, I, genF P Sh.prims⟩) 19 [Z 0] b10 = some (a11, b11) := c6
  clear hQ hfin o0 o1 o2 o3 o4 o5 o6 l1 l2 l3 l4 l5 l6 sv
  refine f12.lim rfl (n := 14) ?_
  unfold f12.e
  simp (disch := first | exact D.go | fail) [setR, List.getElem?_cons_zero, List.getElem?_cons_succ, f12.n0, f12.b0, f12.n1, f12.b1, f12.n4, f12.b4, f12.n5, f12.b5, f12.n8, f12.b8, f12.n9, f12.b9, f12.n10, f12.b10, f12.n11, f12.b11, f12.n12, f12.b12, f12.n13, f12.b13, f12.n16, f12.b16, f12.n17, f12.b17, h1, q0, q1, q2, q3, q4, q5, qi, c0, c1, d1, c2, d2, c3, d3, c4, d4, c5, d5, c6, c6z, d6, z0, w1]
  exact hq
/-- A refusal for its bytes. -/
def Refd (g : AHeap) (e : AVal) : Prop := ∃ k, e = .iface 69 (.ptr (.own k) 0) ∧ g.get k = some ⟨[Z 1, .int .i64 (-1), Z 0, Z 0, .nili], true⟩ ∧ k < g.next
theorem Refd.mono {g f : AHeap} {e : AVal} (a : Refd g e) (x : Ext g f) : Refd f e := by
  obtain ⟨k, rfl, h1, h2⟩ := a
  exact ⟨k, rfl, (x.same _ h2).trans h1, by have := x.lo; omega⟩
theorem tRefused (h : AHeap) : ∃ e g, (AM.lim ⟨P, I, genF P Sh.prims⟩) 23 [] h = some (e, g) ∧ Refd g e ∧ Ext h g := by
  obtain ⟨g1, hg1⟩ : ∃ g1, g1 = (h.alloc ⟨[Z 0, Z 0, Z 0], true⟩).set h.next ⟨[.int .i64 (-1), Z 0, Z 0], true⟩ := ⟨_, rfl⟩
  have x1 : Ext h g1 := by rw [hg1]; exact (Ext.refl h).alloc.set (Nb.o (Nat.le_refl _))
  have c1 : (AM.lim ⟨P, I, genF P Sh.prims⟩) 33 [] h = some (.agg [.int .i64 (-1), Z 0, Z 0], g1) := by
    refine Res.eq (f33.lim rfl (n := 1) ?_)
    unfold f33.e
    subst hg1
    simp (disch := first | exact D.go | fail) [setR, List.getElem?_cons_zero, List.getElem?_cons_succ]
  have c2 : (AM.lim ⟨P, I, genF P Sh.prims⟩) 32 [Z 1, .agg [.int .i64 (-1), Z 0, Z 0], .nili] g1 = some (.iface 69 (.ptr (.own (g1.next + 1)) 0), (g1.alloc ⟨[.int .i64 (-1), Z 0, Z 0], true⟩).alloc ⟨[Z 1, .int .i64 (-1), Z 0, Z 0, .nili], true⟩) := by
    refine Res.eq (f32.lim rfl (n := 1) ?_)
    unfold f32.e
    simp (disch := first | exact D.go | fail) [setR, List.getElem?_cons_zero, List.getElem?_cons_succ]
    rfl
  refine ⟨.iface 69 (.ptr (.own (g1.next + 1)) 0), (g1.alloc ⟨[.int .i64 (-1), Z 0, Z 0], true⟩).alloc ⟨[Z 1, .int .i64 (-1), Z 0, Z 0, .nili], true⟩, ?_, ⟨g1.next + 1, rfl, AHeap.alloc_at (Nb.o (by simp)), by simp⟩, x1.trans (Ext.refl g1).alloc.alloc⟩
  refine Res.eq (f23.lim rfl (n := 1) ?_)
  unfold f23.e
  clear hg1
  simp (disch := first | exact D.go | fail) [setR, List.getElem?_cons_zero, List.getElem?_cons_succ, c1, c2]
theorem tWhyB {g : AHeap} {e : AVal} (a : Refd g e) : ∃ f, (AM.lim ⟨P, I, genF P Sh.prims⟩) 14 [e] g = some (Z 1, f) ∧ Ext g f := by
  obtain ⟨k, rfl, h1, h2⟩ := a
  have q : (AM.lim ⟨P, I, genF P Sh.prims⟩) 38 [.iface 69 (.ptr (.own k) 0), .iface 97 (.ptr (.own g.next) 0)] (g.alloc ⟨[.nilp], true⟩) = some (.bool true, (g.alloc ⟨[.nilp], true⟩).set g.next ⟨[.ptr (.own k) 0], true⟩) := by
    refine lim_of (C := ⟨P, I, genF P Sh.prims⟩) (n := 1) ?_
    simp only [callF, genF, show Sh.prims 38 = some (AM.asPrim 69 97) from rfl]
    simp only [asPrim, Nat.beq_refl, Bool.and_self, AHeap.alloc_at (h := g) (b := ⟨[.nilp], true⟩) (Nb.o rfl), show (([AVal.nilp] : List AVal)[0]?) = some .nilp from rfl, wr_mk]
    rfl
  obtain ⟨f, hf⟩ : ∃ f, f = (g.alloc ⟨[.nilp], true⟩).set g.next ⟨[.ptr (.own k) 0], true⟩ := ⟨_, rfl⟩
  have xf : Ext g f := by rw [hf]; exact (Ext.refl g).alloc.set (Nb.o (Nat.le_refl _))
  have c1 : (AM.lim ⟨P, I, genF P Sh.prims⟩) 25 [.iface 69 (.ptr (.own k) 0)] g = some (.ptr (.own k) 0, f) := by
    refine Res.eq (f25.lim rfl (n := 1) ?_)
    unfold f25.e
    subst hf
    simp (disch := first | exact D.go | fail) [setR, List.getElem?_cons_zero, List.getElem?_cons_succ, f25.n0, f25.b0, q]
  have k1 := (xf.same _ h2).trans h1
  refine ⟨f, ?_, xf⟩
  refine Res.eq (f14.lim rfl (n := 2) ?_)
  unfold f14.e
  simp (disch := first | exact D.go | fail) [setR, List.getElem?_cons_zero, List.getElem?_cons_succ, c1, k1]
theorem tEncodeL {hb : AHeap} {kp : Nat} {xs : List Int} (a : FaceAt I hb kp xs) (hm : xs.length ≤ 100000) (hl : 20000 < (faceB xs).length) : ∃ e g, (AM.lim ⟨P, I, genF P Sh.prims⟩) 13 [.ptr (.own kp) 0] hb = some (.tuple [.nils, e], g) ∧ Refd g e ∧ Ext hb g := by
  obtain ⟨v, g, c1, o, x⟩ := tText (I := I) a hm
  obtain ⟨e, g2, c2, rf, x2⟩ := tRefused (I := I) g
  refine ⟨e, g2, ?_, rf, x.trans x2⟩
  have hlen := o.len
  have n0 : (20000 : Int) < ((faceB xs).length : Int) := by omega
  refine Res.eq (f13.lim rfl (n := 3) ?_)
  unfold f13.e
  generalize faceB xs = bs at *
  simp (disch := first | exact D.go | fail) [setR, List.getElem?_cons_zero, List.getElem?_cons_succ, f13.n0, f13.b0, f13.n1, f13.b1, c1, hlen, n0, hl, c2]
theorem tDecodeL {hb : AHeap} {v : AVal} {n : Nat} (lv : pLenSl v = some (.int .i64 (n : Int))) (hl : 20000 < n) : ∃ e g, (AM.lim ⟨P, I, genF P Sh.prims⟩) 15 [v] hb = some (.tuple [.nilp, e], g) ∧ Refd g e ∧ Ext hb g := by
  obtain ⟨e, g2, c2, rf, x2⟩ := tRefused (I := I) hb
  refine ⟨e, g2, ?_, rf, x2⟩
  have n0 : (20000 : Int) < (n : Int) := by omega
  refine Res.eq (f15.lim rfl (n := 3) ?_)
  unfold f15.e
  simp (disch := first | exact D.go | fail) [setR, List.getElem?_cons_zero, List.getElem?_cons_succ, lv, n0, hl, c2]
end
end
end Go.Proofs.YtncjcnipagdmlaaDoor.Tx

set_option linter.unusedSimpArgs false
set_option linter.unusedVariables false
namespace Go.Proofs.YtncjcnipagdmlaaDoor.Tx
noncomputable section
open Go.AM Go.Proofs.YtncjcnipagdmlaaDoor.Sf
/-! the reader, as a function -/
/-- What is ahead of a reader; none: something did not go. -/
abbrev Rd := Option (List Nat)
def Rd.left : Rd → Nat
  | none => 0
  | some bs => 10 * bs.length
def RdOk (s : Rd) : Prop := ∀ bs, s = some bs → (∀ c ∈ bs, c < 256) ∧ bs.length ≤ 1000000
/-- A reader that reads what is written so. -/
structure PE {α : Type} (p : Rd → α × Rd) (e : α → List Nat) (c : Nat) (ok : α → Prop) : Prop where
  good : ∀ x, ok x → ∀ t, p (some (e x ++ t)) = (x, some t)
  one : ∀ x, 1 ≤ (e x).length
  lost : (p none).2 = none
  fits : ∀ s, RdOk s → ok (p s).1 ∧ RdOk (p s).2 ∧ (e (p s).1).length + (p s).2.left ≤ s.left + (if (p s).2 = none then c else 0)
theorem RdOk.none : RdOk none := fun bs h => by cases h
/-- A number's bytes, from its i-th on. -/
def vP : Nat → List Nat → Option (Nat × List Nat)
  | _, [] => none
  | i, c :: r => if 10 ≤ i then none else if c < 128 then (if (0 < i ∧ c = 0) ∨ (i = 9 ∧ 1 < c) then none else some (c, r)) else (vP (i + 1) r).map fun x => (c - 128 + 128 * x.1, x.2)
theorem vP_good : ∀ (u : Nat) (i : Nat) (t : List Nat), i ≤ 9 → u < 2 ^ (64 - 7 * i) → (0 < i → 0 < u) → vP i (varint u ++ t) = some (u, t) := by
  intro u
  induction u using Nat.strongRecOn with
  | _ u ih =>
    intro i t hi hu hp
    have h9 : i = 9 → u < 2 := by rintro rfl; exact hu
    by_cases hs : u < 128
    · rw [varint_small hs]
      simp only [List.singleton_append, vP]
      rw [if_neg (by omega), if_pos hs, if_neg (by omega)]
    · rw [varint_big hs]
      simp only [List.cons_append, vP]
      have hi8 : i ≤ 8 := by omega
      have hq : u / 128 < 2 ^ (64 - 7 * (i + 1)) := by
        have : 2 ^ (64 - 7 * i) = 2 ^ (64 - 7 * (i + 1)) * 128 := by rw [show 64 - 7 * i = (64 - 7 * (i + 1)) + 7 by omega, Nat.pow_add]
        exact Nat.div_lt_of_lt_mul (by rw [Nat.mul_comm]; omega)
      rw [if_neg (by omega), if_neg (by omega), ih (u / 128) (by omega) (i + 1) t (by omega) hq (by omega)]
      simp only [Option.map_some]
      congr 2
      omega
theorem vP_fits : ∀ (bs : List Nat) (i : Nat) (u : Nat) (t : List Nat), (∀ c ∈ bs, c < 256) → vP i bs = some (u, t) → u < 2 ^ (64 - 7 * i) ∧ t.length + 1 ≤ bs.length ∧ (∀ c ∈ t, c < 256) ∧ i ≤ 9 := by
  intro bs
  induction bs with
  | nil => intro i u t _ h; simp [vP] at h
  | cons c r ih =>
    intro i u t hc h
    simp only [vP] at h
    have h1 := hc c (by simp)
    by_cases h10 : 10 ≤ i
    · rw [if_pos h10] at h; cases h
    rw [if_neg h10] at h
    by_cases hs : c < 128
    · rw [if_pos hs] at h
      by_cases hb : (0 < i ∧ c = 0) ∨ (i = 9 ∧ 1 < c)
      · rw [if_pos hb] at h; cases h
      rw [if_neg hb] at h
      cases h
      refine ⟨?_, by simp, fun x hx => hc x (by simp [hx]), by omega⟩
      by_cases h9 : i = 9
      · subst h9
        have : c < 2 := by omega
        exact this
      · have : 2 ^ 7 ≤ 2 ^ (64 - 7 * i) := Nat.pow_le_pow_right (by omega) (by omega)
        omega
    · rw [if_neg hs] at h
      cases hv : vP (i + 1) r with
      | none => rw [hv] at h; cases h
      | some x =>
        obtain ⟨w, t'⟩ := x
        rw [hv] at h
        simp only [Option.map_some, Option.some.injEq, Prod.mk.injEq] at h
        obtain ⟨rfl, rfl⟩ := h
        obtain ⟨a1, a2, a3, a4⟩ := ih (i + 1) w t' (fun x hx => hc x (by simp [hx])) hv
        refine ⟨?_, by simp; omega, a3, by omega⟩
        have : 2 ^ (64 - 7 * i) = 2 ^ (64 - 7 * (i + 1)) * 128 := by rw [show 64 - 7 * i = (64 - 7 * (i + 1)) + 7 by omega, Nat.pow_add]
        omega
def pNum (s : Rd) : Int × Rd := match s with
  | none => (0, none)
  | some bs => match vP 0 bs with
    | some (u, t) => (unzig u, some t)
    | none => (0, none)
theorem unzig_in {u : Nat} (h : u < 18446744073709551616) : InR (unzig u) := by
  unfold unzig InR
  split <;> omega
theorem peNum : PE pNum numB 1 InR where
  good := fun x hx t => by
    show (match vP 0 (varint (zig x) ++ t) with | some (u, t) => (unzig u, some t) | none => (0, none)) = _
    rw [vP_good (zig x) 0 t (by omega) (zig_lt hx) (by omega)]
    show (unzig (zig x), some t) = _
    rw [unzig_zig hx]
  one := numB_pos
  lost := rfl
  fits := fun s hs => by
    have z : InR 0 ∧ RdOk none ∧ (numB 0).length + Rd.left none ≤ s.left + 1 := ⟨r0, RdOk.none, by rw [numB0]; simp [Rd.left]⟩
    cases s with
    | none => simpa [pNum] using z
    | some bs =>
      cases hv : vP 0 bs with
      | none => simpa [pNum, hv] using z
      | some x =>
        obtain ⟨u, t⟩ := x
        obtain ⟨a1, a2, a3, _⟩ := vP_fits bs 0 u t (hs bs rfl).1 hv
        have hl := (hs bs rfl).2
        have hr : InR (unzig u) := unzig_in a1
        have hn := numB_len hr
        have e : pNum (some bs) = (unzig u, some t) := by simp [pNum, hv]
        rw [e]
        refine ⟨hr, fun b h => ?_, ?_⟩
        · cases h; exact ⟨a3, by omega⟩
        · simp only [Rd.left]; simp; omega
def pSize (s : Rd) : Nat × Rd := match pNum s with
  | (n, some t) => if n < 0 ∨ (t.length : Int) < n then (0, none) else (n.toNat, some t)
  | (_, none) => (0, none)
theorem pSize_good {n : Nat} {t : List Nat} (hn : n ≤ t.length) (hm : n ≤ 1048576) : pSize (some (numB n ++ t)) = (n, some t) := by
  unfold pSize
  rw [peNum.good n ⟨by omega, by omega⟩ t]
  show (if (n : Int) < 0 ∨ (t.length : Int) < n then (0, none) else ((n : Int).toNat, some t)) = _
  rw [if_neg (by omega)]
  rfl
theorem pSize_fits (s : Rd) (hs : RdOk s) : (pSize s).1 ≤ 1000000 ∧ RdOk (pSize s).2 ∧ (if (pSize s).2 = none then (pSize s).1 = 0 else 10 + (pSize s).2.left ≤ s.left ∧ 10 * (pSize s).1 ≤ (pSize s).2.left) := by
  have hf := peNum.fits s hs
  have e1 := peNum.one (pNum s).1
  cases hp : pNum s with
  | mk n s' =>
    rw [hp] at hf e1
    cases s' with
    | none => simp [pSize, hp, RdOk.none]
    | some t =>
      by_cases hc : n < 0 ∨ (t.length : Int) < n
      · simp [pSize, hp, hc, RdOk.none]
      · have e : pSize s = (n.toNat, some t) := by simp [pSize, hp, hc]
        rw [e]
        obtain ⟨b1, b2, b3⟩ := hf
        have hl := (b2 t rfl).2
        refine ⟨by simp only; omega, b2, ?_⟩
        rw [if_neg (by simp)]
        simp only [Rd.left] at *
        cases s with
        | none => simp [pNum] at hp
        | some bs =>
          simp only [pNum] at hp
          cases hv : vP 0 bs with
          | none => simp [hv] at hp
          | some x =>
            obtain ⟨u, t'⟩ := x
            simp only [hv, Prod.mk.injEq, Option.some.injEq] at hp
            obtain ⟨_, rfl⟩ := hp
            obtain ⟨_, a2, _, _⟩ := vP_fits bs 0 u t' (hs bs rfl).1 hv
            simp only [Rd.left]
            omega
variable {α β : Type}
def pRep (p : Rd → α × Rd) : Nat → Rd → List α × Rd
  | n + 1, some t => ((p (some t)).1 :: (pRep p n (p (some t)).2).1, (pRep p n (p (some t)).2).2)
  | _, s => ([], s)
theorem pRep_zero (p : Rd → α × Rd) (s : Rd) : pRep p 0 s = ([], s) := by cases s <;> rfl
theorem pRep_none (p : Rd → α × Rd) (n : Nat) : pRep p n none = ([], none) := by cases n <;> rfl
def pList (p : Rd → α × Rd) (s : Rd) : List α × Rd := pRep p (pSize s).1 (pSize s).2
def listB (e : α → List Nat) (xs : List α) : List Nat := numB xs.length ++ xs.flatMap e
def AllOk (ok : α → Prop) (xs : List α) : Prop := xs.length ≤ 1048576 ∧ ∀ x ∈ xs, ok x
theorem PE.rep {p : Rd → α × Rd} {e : α → List Nat} {c : Nat} {ok : α → Prop} (h : PE p e c ok) : ∀ (xs : List α), (∀ x ∈ xs, ok x) → ∀ t, pRep p xs.length (some (xs.flatMap e ++ t)) = (xs, some t) := by
  intro xs
  induction xs with
  | nil => intro _ t; exact pRep_zero p _
  | cons x xs ih =>
    intro hx t
    have h1 := h.good x (hx x (by simp)) (xs.flatMap e ++ t)
    rw [List.flatMap_cons, List.append_assoc, List.length_cons]
    show ((p (some (e x ++ (xs.flatMap e ++ t)))).1 :: (pRep p xs.length (p (some (e x ++ (xs.flatMap e ++ t)))).2).1, (pRep p xs.length (p (some (e x ++ (xs.flatMap e ++ t)))).2).2) = _
    rw [h1]
    simp only
    rw [ih (fun y hy => hx y (by simp [hy])) t]
theorem PE.repFits {p : Rd → α × Rd} {e : α → List Nat} {c : Nat} {ok : α → Prop} (h : PE p e c ok) : ∀ (n : Nat) (s : Rd), RdOk s →
    (pRep p n s).1.length ≤ n ∧ (∀ x ∈ (pRep p n s).1, ok x) ∧ RdOk (pRep p n s).2 ∧ ((pRep p n s).1.flatMap e).length + (pRep p n s).2.left ≤ s.left + (if (pRep p n s).2 = none then c else 0) := by
  intro n
  induction n with
  | zero => intro s hs; rw [pRep_zero]; exact ⟨Nat.le_refl _, fun x hx => by (simp at hx), hs, by simp⟩
  | succ n ih =>
    intro s hs
    cases s with
    | none => rw [pRep_none]; exact ⟨by simp, fun x hx => by (simp at hx), hs, by simp⟩
    | some t =>
      obtain ⟨a1, a2, a3⟩ := h.fits (some t) hs
      obtain ⟨b0, b1, b2, b3⟩ := ih (p (some t)).2 a2
      have e1 : pRep p (n + 1) (some t) = ((p (some t)).1 :: (pRep p n (p (some t)).2).1, (pRep p n (p (some t)).2).2) := rfl
      rw [e1]
      refine ⟨by simp only [List.length_cons]; omega, fun x hx => ?_, b2, ?_⟩
      · rcases List.mem_cons.1 hx with rfl | hx
        · exact a1
        · exact b1 x hx
      · simp only [List.flatMap_cons, List.length_append]
        by_cases hn : (p (some t)).2 = none
        · rw [hn] at a3 b3 ⊢
          rw [pRep_none] at b3 ⊢
          rw [if_pos rfl] at a3
          simp [Rd.left] at a3 ⊢
          exact a3
        · rw [if_neg hn] at a3
          omega
theorem PE.list {p : Rd → α × Rd} {e : α → List Nat} {c : Nat} {ok : α → Prop} (h : PE p e c ok) : PE (pList p) (listB e) (1 + c) (AllOk ok) where
  good := fun xs hx t => by
    have hg := flat_ge (f := e) h.one xs
    unfold pList listB
    rw [List.append_assoc, pSize_good (by rw [List.length_append]; omega) hx.1]
    exact h.rep xs hx.2 t
  one := fun xs => by
    have := numB_pos xs.length
    unfold listB; rw [List.length_append]; omega
  lost := by unfold pList; rw [show pSize none = (0, none) from rfl, pRep_none]
  fits := fun s hs => by
    obtain ⟨a1, a2, a3⟩ := pSize_fits s hs
    obtain ⟨b0, b1, b2, b3⟩ := h.repFits (pSize s).1 (pSize s).2 a2
    refine ⟨⟨by unfold pList; omega, b1⟩, b2, ?_⟩
    unfold listB pList
    rw [List.length_append]
    by_cases hn : (pSize s).2 = none
    · rw [hn, pRep_none]
      have h0 : (numB (([] : List α).length : Int)).length = 1 := by show (numB 0).length = 1; rw [numB0]; rfl
      rw [h0, if_pos rfl]
      simp [Rd.left]
      omega
    · rw [if_neg hn] at a3
      generalize pRep p (pSize s).1 (pSize s).2 = r at *
      have hnl := numB_len (n := (r.1.length : Int)) ⟨by omega, by omega⟩
      by_cases hr : r.2 = none
      · rw [if_pos hr] at b3 ⊢; omega
      · rw [if_neg hr] at b3 ⊢; omega
def pSeq (p : Rd → α × Rd) (q : Rd → β × Rd) (s : Rd) : (α × β) × Rd := (((p s).1, (q (p s).2).1), (q (p s).2).2)
theorem PE.seq {p : Rd → α × Rd} {e : α → List Nat} {c : Nat} {ok : α → Prop} (h : PE p e c ok) {q : Rd → β × Rd} {f : β → List Nat} {d : Nat} {okq : β → Prop} (k : PE q f d okq) :
    PE (pSeq p q) (fun x => e x.1 ++ f x.2) (c + d) (fun x => ok x.1 ∧ okq x.2) where
  good := fun x hx t => by
    unfold pSeq
    rw [List.append_assoc, h.good x.1 hx.1]
    simp only
    rw [k.good x.2 hx.2]
  one := fun x => by have := h.one x.1; rw [List.length_append]; omega
  lost := by unfold pSeq; simp only; rw [h.lost, k.lost]
  fits := fun s hs => by
    obtain ⟨a1, a2, a3⟩ := h.fits s hs
    obtain ⟨b1, b2, b3⟩ := k.fits (p s).2 a2
    refine ⟨⟨a1, b1⟩, b2, ?_⟩
    show (e (p s).1 ++ f (q (p s).2).1).length + (q (p s).2).2.left ≤ s.left + (if (q (p s).2).2 = none then c + d else 0)
    rw [List.length_append]
    by_cases hn : (p s).2 = none
    · rw [if_pos hn] at a3
      rw [hn] at b3 ⊢
      rw [k.lost] at b3 ⊢
      rw [if_pos rfl] at b3 ⊢
      have z : Rd.left none = 0 := rfl
      rw [hn] at a3
      rw [z] at *
      omega
    · rw [if_neg hn] at a3
      by_cases hr : (q (p s).2).2 = none
      · rw [if_pos hr] at b3 ⊢; omega
      · rw [if_neg hr] at b3 ⊢; omega
end
end Go.Proofs.YtncjcnipagdmlaaDoor.Tx

set_option linter.unusedSimpArgs false
set_option linter.unusedVariables false
namespace Go.Proofs.YtncjcnipagdmlaaDoor.Tx
noncomputable section
open Go.AM Go.Proofs.YtncjcnipagdmlaaDoor.Sf
/-! programs, read -/
variable {α β : Type}
def pMap (f : α → β) (p : Rd → α × Rd) (s : Rd) : β × Rd := (f (p s).1, (p s).2)
theorem PE.map {p : Rd → α × Rd} {e : α → List Nat} {c : Nat} {ok : α → Prop} (h : PE p e c ok) (f : α → β) (g : β → α) (hfg : ∀ y, f (g y) = y) (hgf : ∀ x, g (f x) = x) {e' : β → List Nat} (he : ∀ y, e' y = e (g y)) :
    PE (pMap f p) e' c (fun y => ok (g y)) where
  good := fun y hy t => by
    unfold pMap
    rw [he, h.good (g y) hy]
    simp only [hfg]
  one := fun y => by rw [he]; exact h.one _
  lost := h.lost
  fits := fun s hs => by
    obtain ⟨a1, a2, a3⟩ := h.fits s hs
    refine ⟨?_, a2, ?_⟩
    · show ok (g (f (p s).1)); rw [hgf]; exact a1
    · show (e' (f (p s).1)).length + _ ≤ _
      rw [he, hgf]; exact a3
def pNums : Rd → List Int × Rd := pList pNum
def TyR (t : Ty) : Prop := InR t.kind ∧ InR t.n
def mkTy (x : Int × Int) : Ty := ⟨x.1, x.2⟩
def pTyp : Rd → Ty × Rd := pMap mkTy (pSeq pNum pNum)
def pTypes : Rd → List Ty × Rd := pList pTyp
theorem peNums : PE pNums numsB 2 (AllOk InR) := peNum.list
theorem peTyp : PE pTyp tyB 2 TyR := (peNum.seq peNum).map mkTy (fun t : Ty => (t.kind, t.n)) (fun _ => rfl) (fun _ => rfl) (fun _ => rfl)
theorem peTypes : PE pTypes typesB 3 (AllOk TyR) := peTyp.list
/-! instructions, blocks, functions -/
def InsR (x : Ins) : Prop := InR x.op ∧ InR x.dst ∧ InR x.a ∧ InR x.b ∧ InR x.n ∧ AllOk InR x.args
def BkR (b : Bk) : Prop := AllOk InsR b.code ∧ InR b.fin ∧ InR b.reg ∧ InR b.to ∧ InR b.els
def FuR (f : Fu) : Prop := InR f.sig ∧ AllOk TyR f.regs ∧ AllOk BkR f.blocks
def mkIns (x : Int × Int × Int × Int × Int × List Int) : Ins := ⟨x.1, x.2.1, x.2.2.1, x.2.2.2.1, x.2.2.2.2.1, x.2.2.2.2.2⟩
def pIns : Rd → Ins × Rd := pMap mkIns (pSeq pNum (pSeq pNum (pSeq pNum (pSeq pNum (pSeq pNum pNums)))))
def mkBk (x : List Ins × Int × Int × Int × Int) : Bk := ⟨x.1, x.2.1, x.2.2.1, x.2.2.2.1, x.2.2.2.2⟩
def pBk : Rd → Bk × Rd := pMap mkBk (pSeq (pList pIns) (pSeq pNum (pSeq pNum (pSeq pNum pNum))))
def mkFu (x : Int × List Ty × List Bk) : Fu := ⟨x.1, x.2.1, x.2.2⟩
def pFu : Rd → Fu × Rd := pMap mkFu (pSeq pNum (pSeq pTypes (pList pBk)))
theorem peIns : PE pIns insB 7 InsR :=
  (peNum.seq (peNum.seq (peNum.seq (peNum.seq (peNum.seq peNums))))).map mkIns (fun t : Ins => (t.op, t.dst, t.a, t.b, t.n, t.args)) (fun _ => rfl) (fun _ => rfl) (fun _ => rfl)
theorem peBk : PE pBk blkB 12 BkR :=
  (peIns.list.seq (peNum.seq (peNum.seq (peNum.seq peNum)))).map mkBk (fun t : Bk => (t.code, t.fin, t.reg, t.to, t.els)) (fun _ => rfl) (fun _ => rfl) (fun y => by unfold blkB listB; simp only [List.append_assoc])
theorem peFu : PE pFu fuB 17 FuR :=
  (peNum.seq (peTypes.seq peBk.list)).map mkFu (fun t : Fu => (t.sig, t.regs, t.blocks)) (fun _ => rfl) (fun _ => rfl) (fun _ => rfl)
/-! signatures, impls, programs -/
def SgR (x : Sg) : Prop := AllOk TyR x.params ∧ TyR x.res
def ImR (x : Im) : Prop := InR x.rec_ ∧ InR x.face ∧ AllOk InR x.funcs
def PgR (q : Pg) : Prop := AllOk (AllOk TyR) q.recs ∧ AllOk SgR q.sigs ∧ AllOk (AllOk InR) q.faces ∧ AllOk ImR q.impls ∧ AllOk FuR q.funcs ∧ InR q.main
def mkSg (x : List Ty × Ty) : Sg := ⟨x.1, x.2⟩
def pSg : Rd → Sg × Rd := pMap mkSg (pSeq pTypes pTyp)
def mkIm (x : Int × Int × List Int) : Im := ⟨x.1, x.2.1, x.2.2⟩
def pIm : Rd → Im × Rd := pMap mkIm (pSeq pNum (pSeq pNum pNums))
def mkPg (x : List (List Ty) × List Sg × List (List Int) × List Im × List Fu × Int) : Pg := ⟨x.1, x.2.1, x.2.2.1, x.2.2.2.1, x.2.2.2.2.1, x.2.2.2.2.2⟩
def pPg : Rd → Pg × Rd := pMap mkPg (pSeq (pList pTypes) (pSeq (pList pSg) (pSeq (pList pNums) (pSeq (pList pIm) (pSeq (pList pFu) pNum)))))
theorem peSg : PE pSg sgB 5 SgR := (peTypes.seq peTyp).map mkSg (fun t : Sg => (t.params, t.res)) (fun _ => rfl) (fun _ => rfl) (fun _ => rfl)
theorem peIm : PE pIm imB 4 ImR := (peNum.seq (peNum.seq peNums)).map mkIm (fun t : Im => (t.rec_, t.face, t.funcs)) (fun _ => rfl) (fun _ => rfl) (fun _ => rfl)
theorem pePg : PE pPg pgB 37 PgR :=
  (peTypes.list.seq (peSg.list.seq (peNums.list.seq (peIm.list.seq (peFu.list.seq peNum))))).map mkPg (fun t : Pg => (t.recs, t.sigs, t.faces, t.impls, t.funcs, t.main)) (fun _ => rfl) (fun _ => rfl) (fun y => by unfold pgB listB; simp only [List.append_assoc])
/-- No program's bytes go on. -/
theorem pg_cut {q q' : Pg} (h : PgR q) (h' : PgR q') {t : List Nat} (e : pgB q = pgB q' ++ t) : q = q' ∧ t = [] := by
  have a := pePg.good q h []
  rw [List.append_nil, e, pePg.good q' h' t] at a
  simp only [Prod.mk.injEq, Option.some.injEq] at a
  exact ⟨a.1.symm, a.2⟩
end
end Go.Proofs.YtncjcnipagdmlaaDoor.Tx

set_option linter.unusedSimpArgs false
set_option linter.unusedVariables false
namespace Go.Proofs.YtncjcnipagdmlaaDoor.Tx
noncomputable section
open Go.AM Go.Proofs.YtncjcnipagdmlaaDoor.Sf
section
variable {I : Inp} {h0 : AHeap}
/-! the reader's numbers, whatever lies ahead -/
/-- A reader of one's own that has this ahead. -/
structure RdS (I : Inp) (hb h : AHeap) (kr : Nat) (s : Rd) : Prop where
  lo : hb.next ≤ kr
  hi : kr < h.next
  ext : Ext hb h
  at_ : ∃ v, h.get kr = some ⟨[v, .bool s.isNone], true⟩ ∧ ByS I hb v (s.getD [])
/-- Only this block has turned. -/
def Only (kr : Nat) (h g : AHeap) : Prop := g.next = h.next ∧ ∀ m, m ≠ kr → g.get m = h.get m
theorem Only.set (kr : Nat) (h : AHeap) (b : Blk) : Only kr h (h.set kr b) := ⟨by simp, fun m hm => AHeap.set_ne (Nb.o hm)⟩
theorem Only.trans {kr : Nat} {a b c : AHeap} (x : Only kr a b) (y : Only kr b c) : Only kr a c := ⟨y.1.trans x.1, fun m hm => (y.2 m hm).trans (x.2 m hm)⟩
theorem RdS.only {hb h g : AHeap} {kr : Nat} {s s' : Rd} (R : RdS I hb h kr s) (o : Only kr h g) {v : AVal} (hv : g.get kr = some ⟨[v, .bool s'.isNone], true⟩) (bv : ByS I hb v (s'.getD [])) : RdS I hb g kr s' :=
  ⟨R.lo, by rw [o.1]; exact R.hi, ⟨by rw [o.1]; exact R.ext.lo, fun m hm => (o.2 m (by have := R.lo; omega)).trans (R.ext.same m hm)⟩, v, hv, bv⟩
theorem ByS.nil {hb : AHeap} : ByS I hb .nils [] := .inl ⟨rfl, rfl⟩
theorem u_shl_any (x : Int) (k : Int) (h : 0 ≤ k) : ∃ y, pBin .shl (.int .u64 x) (.int .i64 k) = some (.int .u64 y) := by
  cases k with
  | ofNat k => exact ⟨_, rfl⟩
  | negSucc k => omega
theorem u_or_any (x y : Int) : ∃ z, pBin .or (.int .u64 x) (.int .u64 y) = some (.int .u64 z) := ⟨_, rfl⟩
/-- The end of no number: nothing is left. -/
theorem rLost {hb h : AHeap} {kr : Nat} {s : Rd} (R : RdS I hb h kr s) (n : Nat) : Res ((f43.J I (AM.lim ⟨P, I, genF P Sh.prims⟩) (n + 1)).1.1 (.ptr (.own kr) 0) h) fun w g => w = Z 0 ∧ Only kr h g ∧ RdS I hb g kr none := by
  obtain ⟨v, hk, _⟩ := R.at_
  have hq : ∀ H, H = (h.set kr ⟨[.nils, .bool s.isNone], true⟩).set kr ⟨[.nils, .bool true], true⟩ → Only kr h H ∧ RdS I hb H kr none := fun H hH => by
    have o : Only kr h H := by rw [hH]; exact (Only.set kr h _).trans (Only.set kr _ _)
    exact ⟨o, R.only o (s' := none) (by rw [hH]; exact AHeap.set_at (Nb.o rfl)) ByS.nil⟩
  generalize hQ : (fun (w : AVal) (g : AHeap) => w = Z 0 ∧ Only kr h g ∧ RdS I hb g kr none) = Q
  have hq' : Q (Z 0) ((h.set kr ⟨[.nils, .bool s.isNone], true⟩).set kr ⟨[.nils, .bool true], true⟩) := by rw [← hQ]; exact ⟨rfl, hq _ rfl⟩
  clear hQ hq R
  generalize s.isNone = b at *
  rw [f43.n0]; unfold f43.b0
  simp (disch := first | exact D.go | fail) [setR, List.getElem?_cons_zero, List.getElem?_cons_succ, hk]
  exact hq'
/-- A byte more. -/
theorem rMore {hb h : AHeap} {kr : Nat} {pv : AVal} {bs : List Nat} {m i c : Nat} (bp : ByS I hb pv bs) (x : Ext hb h) (hx : bs[i]? = some c) (him : i < m) (hi : i ≤ 9) (hc : ¬ c < 128) {a y z : Int} (hs : pBin .shl (.int .u64 ((c % 128 : Nat) : Int)) (.int .i64 ((7 * i : Nat) : Int)) = some (.int .u64 y)) (ho : pBin .or (.int .u64 a) (.int .u64 y) = some (.int .u64 z)) {Q : AVal → AHeap → Prop} {n : Nat}
    (hn : Res ((f43.J I (AM.lim ⟨P, I, genF P Sh.prims⟩) (n + 1)).1.2.1 (.ptr (.own kr) 0) (.int .u64 z) pv (.int .i64 (m : Int)) (.int .i64 ((i + 1 : Nat) : Int)) h) Q) :
    Res ((f43.J I (AM.lim ⟨P, I, genF P Sh.prims⟩) (n + 4)).1.2.1 (.ptr (.own kr) 0) (.int .u64 a) pv (.int .i64 (m : Int)) (.int .i64 (i : Int)) h) Q := by
  obtain ⟨hc8, l, o, hidx, hrd⟩ := bp.at_ hx
  have hrd := hrd h x
  have hlt : (i : Int) < m := by omega
  have ha := u_and hc8
  have hb8 := b_u64 (x := c % 128) (by omega)
  have h7 : ((7 * i : Nat) : Int) = 7 * (i : Int) := by omega
  rw [h7] at hs
  have hw7 := wrap_in (n := 7 * (i : Int)) ⟨by omega, by omega⟩
  have hge : (127 : Int) < (c : Int) := by omega
  have hwi := wrap_in (n := (i : Int) + 1) ⟨by omega, by omega⟩
  simp only [Int.natCast_add, Int.natCast_one] at hn
  clear bp hc
  generalize c % 128 = c7 at *
  rw [f43.n1]; unfold f43.b1
  simp (disch := first | exact D.go | fail) [setR, List.getElem?_cons_zero, List.getElem?_cons_succ, hlt, f43.n2, f43.b2, hidx, hrd, ha, hb8, hw7, hs, ho, hge, f43.n3, f43.b3, hwi]
  exact hn
/-- The last byte, as it may be or not. -/
theorem rLast {hb h : AHeap} {kr : Nat} {pv : AVal} {bs : List Nat} {m i c : Nat} (bp : ByS I hb pv bs) (x : Ext hb h) (hx : bs[i]? = some c) (him : i < m) (hi : i ≤ 9) (hc : c < 128) {a y z : Int} (hs : pBin .shl (.int .u64 ((c : Nat) : Int)) (.int .i64 ((7 * i : Nat) : Int)) = some (.int .u64 y)) (ho : pBin .or (.int .u64 a) (.int .u64 y) = some (.int .u64 z)) {Q : AVal → AHeap → Prop} {n : Nat}
    (hg : ¬ ((0 < i ∧ c = 0) ∨ (i = 9 ∧ 1 < c)) → Res ((f43.J I (AM.lim ⟨P, I, genF P Sh.prims⟩) (n + 2)).2.2.1 (.ptr (.own kr) 0) (.int .u64 z) (.int .i64 (i : Int)) h) Q) (hl : ((0 < i ∧ c = 0) ∨ (i = 9 ∧ 1 < c)) → Res ((f43.J I (AM.lim ⟨P, I, genF P Sh.prims⟩) (n + 2)).1.1 (.ptr (.own kr) 0) h) Q) :
    Res ((f43.J I (AM.lim ⟨P, I, genF P Sh.prims⟩) (n + 5)).1.2.1 (.ptr (.own kr) 0) (.int .u64 a) pv (.int .i64 (m : Int)) (.int .i64 (i : Int)) h) Q := by
  obtain ⟨hc8, l, o, hidx, hrd⟩ := bp.at_ hx
  have hrd := hrd h x
  have hlt : (i : Int) < m := by omega
  have ha := u_and hc8
  have hb8 := b_u64 (x := c) (by omega)
  rw [Nat.mod_eq_of_lt hc] at ha
  have h7 : ((7 * i : Nat) : Int) = 7 * (i : Int) := by omega
  rw [h7] at hs
  have hw7 := wrap_in (n := 7 * (i : Int)) ⟨by omega, by omega⟩
  have hge : ¬ (127 : Int) < (c : Int) := by omega
  clear bp
  rw [f43.n1]; unfold f43.b1
  by_cases hi0 : i = 0
  · have hgood := hg (by omega)
    have n0 : ¬ (0 : Int) < (i : Int) := by omega
    have n0' : ¬ 0 < i := by omega
    have n9 : ¬ (i : Int) = 9 := by omega
    clear hg hl hi him hx hi0
    simp (disch := first | exact D.go | fail) [setR, List.getElem?_cons_zero, List.getElem?_cons_succ, hlt, f43.n2, f43.b2, hidx, hrd, ha, hb8, hw7, hs, ho, hge, f43.n4, f43.b4, n0, n0', n9]
    exact hgood
  · have n0 : (0 : Int) < (i : Int) := by omega
    have n0' : 0 < i := by omega
    by_cases hc0 : c = 0
    · have hbad := hl (.inl ⟨n0', hc0⟩)
      have n1 : dc (c = 0) = true := dc_of (by omega)
      clear hg hl hi him hx hi0
      simp (disch := first | exact D.go | fail) [setR, List.getElem?_cons_zero, List.getElem?_cons_succ, hlt, f43.n2, f43.b2, hidx, hrd, ha, hb8, hw7, hs, ho, hge, f43.n4, f43.b4, n0, n0', n1]
      exact hbad
    · have n1 : ¬ (c : Int) = 0 := by omega
      have n1' : ¬ c = 0 := by omega
      by_cases hi9 : i = 9
      · have n9 : dc ((i : Int) = 9) = true := dc_of (by omega)
        by_cases hc1 : 1 < c
        · have hbad := hl (.inr ⟨hi9, hc1⟩)
          have n2 : (1 : Int) < (c : Int) := by omega
          clear hg hl hi him hx hi0 hi9
          simp (disch := first | exact D.go | fail) [setR, List.getElem?_cons_zero, List.getElem?_cons_succ, hlt, f43.n2, f43.b2, hidx, hrd, ha, hb8, hw7, hs, ho, hge, f43.n4, f43.b4, n0, n0', n1, n1', n9, n2]
          exact hbad
        · have hgood := hg (by omega)
          have n2 : ¬ (1 : Int) < (c : Int) := by omega
          clear hg hl hi him hx hi0 hi9
          simp (disch := first | exact D.go | fail) [setR, List.getElem?_cons_zero, List.getElem?_cons_succ, hlt, f43.n2, f43.b2, hidx, hrd, ha, hb8, hw7, hs, ho, hge, f43.n4, f43.b4, n0, n0', n1, n1', n9, n2]
          exact hgood
      · have hgood := hg (by omega)
        have n9 : ¬ (i : Int) = 9 := by omega
        clear hg hl hi him hx hi0
        simp (disch := first | exact D.go | fail) [setR, List.getElem?_cons_zero, List.getElem?_cons_succ, hlt, f43.n2, f43.b2, hidx, hrd, ha, hb8, hw7, hs, ho, hge, f43.n4, f43.b4, n0, n0', n1, n1', n9]
        exact hgood
end
end
end Go.Proofs.YtncjcnipagdmlaaDoor.Tx

set_option linter.unusedSimpArgs false
set_option linter.unusedVariables false
namespace Go.Proofs.YtncjcnipagdmlaaDoor.Tx
noncomputable section
open Go.AM Go.Proofs.YtncjcnipagdmlaaDoor.Sf
section
variable {I : Inp} {h0 : AHeap}
theorem RdS.old {hb h : AHeap} {kr : Nat} {bs : List Nat} (R : RdS I hb h kr (some bs)) : RdAt I hb h kr bs := ⟨R.lo, R.hi, R.ext, R.at_⟩
theorem mul_pow64 {u i : Nat} (hi : i ≤ 9) (h : u < 2 ^ (64 - 7 * i)) : (u + 1) * 2 ^ (7 * i) ≤ 18446744073709551616 := by
  have e : (18446744073709551616 : Nat) = 2 ^ (64 - 7 * i) * 2 ^ (7 * i) := by
    rw [← Nat.pow_add, show 64 - 7 * i + 7 * i = 64 by omega]
  rw [e]
  exact Nat.mul_le_mul_right _ (by omega)
theorem rLoopG {hb h : AHeap} {kr : Nat} {bs : List Nat} (R : RdS I hb h kr (some bs)) {pv : AVal} {m : Nat} (bp : ByS I hb pv (bs.take m)) (hm : m = min bs.length 10) (hby : ∀ c ∈ bs, c < 256) : ∀ (d i : Nat), i + d = m → ∀ N, 4 * d + 6 ≤ N →
    (∀ a : Int, vP i (bs.drop i) = none → Res ((f43.J I (AM.lim ⟨P, I, genF P Sh.prims⟩) (N)).1.2.1 (.ptr (.own kr) 0) (.int .u64 a) pv (.int .i64 (m : Int)) (.int .i64 (i : Int)) h) fun w g => w = Z 0 ∧ Only kr h g ∧ RdS I hb g kr none) ∧
    (∀ a : Nat, a < 2 ^ (7 * i) → ∀ u t, vP i (bs.drop i) = some (u, t) → Res ((f43.J I (AM.lim ⟨P, I, genF P Sh.prims⟩) (N)).1.2.1 (.ptr (.own kr) 0) (.int .u64 (a : Int)) pv (.int .i64 (m : Int)) (.int .i64 (i : Int)) h) fun w g => w = .int .i64 (unzig (a + u * 2 ^ (7 * i))) ∧ Only kr h g ∧ RdS I hb g kr (some t)) := by
  intro d
  induction d with
  | zero =>
    intro i hi N hN
    obtain ⟨n, rfl⟩ : ∃ n, N = n + 3 := ⟨N - 3, by omega⟩
    have hnone : vP i (bs.drop i) = none := by
      by_cases hl : bs.length ≤ i
      · rw [List.drop_eq_nil_of_le hl]; rfl
      · have h10 : 10 ≤ i := by omega
        cases bs.drop i with
        | nil => rfl
        | cons c r => simp [vP, h10]
    refine ⟨fun a _ => ?_, fun a _ u t h => by rw [hnone] at h; cases h⟩
    have hlost := rLost R (n + 1)
    have hlt : ¬ (i : Int) < (m : Int) := by omega
    have hlt' : ¬ i < m := by omega
    generalize hQ : (fun (w : AVal) (g : AHeap) => w = Z 0 ∧ Only kr h g ∧ RdS I hb g kr none) = Q at *
    clear hQ R bp
    rw [f43.n1]; unfold f43.b1
    simp (disch := first | exact D.go | fail) [setR, List.getElem?_cons_zero, List.getElem?_cons_succ, hlt, hlt']
    exact hlost
  | succ d ih =>
    intro i hi N hN
    obtain ⟨n, rfl⟩ : ∃ n, N = n + 5 := ⟨N - 5, by omega⟩
    have hib : i < bs.length := by omega
    have hd : bs.drop i = bs[i] :: bs.drop (i + 1) := List.drop_eq_getElem_cons hib
    have hcm : bs[i] ∈ bs := List.getElem_mem hib
    have hx : (bs.take m)[i]? = some bs[i] := by rw [List.getElem?_take_of_lt (by omega), List.getElem?_eq_getElem hib]
    generalize bs[i] = c at *
    have hc8 := hby c hcm
    have hby' : ∀ x ∈ bs.drop i, x < 256 := fun x hx => hby x (List.mem_of_mem_drop hx)
    have him : i < m := by omega
    have hi9 : i ≤ 9 := by omega
    obtain ⟨y0, hy0⟩ := u_shl_any ((c % 128 : Nat) : Int) ((7 * i : Nat) : Int) (by omega)
    have hp7 : 2 ^ (7 * (i + 1)) = 2 ^ (7 * i) * 128 := by rw [show 7 * (i + 1) = 7 * i + 7 by omega, Nat.pow_add]
    have hpw : 0 < 2 ^ (7 * i) := Nat.pow_pos (by omega)
    by_cases hc : c < 128
    · have e : vP i (bs.drop i) = if (0 < i ∧ c = 0) ∨ (i = 9 ∧ 1 < c) then none else some (c, bs.drop (i + 1)) := by
        rw [hd]; simp only [vP]
        rw [if_neg (by omega), if_pos hc]
      rw [Nat.mod_eq_of_lt hc] at hy0
      refine ⟨fun a hv => ?_, fun a ha u t hv => ?_⟩
      · obtain ⟨z0, hz0⟩ := u_or_any a y0
        refine rLast (Q := _) bp R.ext hx him hi9 hc hy0 hz0 (fun hg => ?_) (fun _ => rLost R (n + 1))
        rw [e, if_neg hg] at hv; cases hv
      · have hf := vP_fits _ _ _ _ hby' hv
        rw [e] at hv
        by_cases hg : (0 < i ∧ c = 0) ∨ (i = 9 ∧ 1 < c)
        · rw [if_pos hg] at hv; cases hv
        rw [if_neg hg] at hv
        simp only [Option.some.injEq, Prod.mk.injEq] at hv
        obtain ⟨rfl, rfl⟩ := hv
        have hmp := mul_pow64 hi9 hf.1
        rw [Nat.add_mul, Nat.one_mul] at hmp
        have hs := u_shl (x := c) (i := i) hi9 (by omega)
        have ho := u_or64 (a := a) (b := c) (i := i) ha (by omega)
        obtain ⟨v', hend, bv'⟩ := rEnd (I := I) R.old (u := c * 2 ^ (7 * i) + a) (i := i) (by omega) hib hi9
        refine rLast (Q := _) bp R.ext hx him hi9 hc hs ho (fun _ => ?_) (fun h => absurd h hg)
        obtain ⟨w, g, e1, e2, e3⟩ := hend n
        refine ⟨w, g, e1, ?_, ?_, ?_⟩
        · rw [e2, Nat.add_comm]
        · rw [e3]; exact Only.set kr h _
        · rw [e3]; exact R.only (Only.set kr h _) (AHeap.set_at (Nb.o rfl)) bv'
    · have e : vP i (bs.drop i) = (vP (i + 1) (bs.drop (i + 1))).map fun x => (c - 128 + 128 * x.1, x.2) := by
        rw [hd]; simp only [vP]
        rw [if_neg (by omega), if_neg hc]
      obtain ⟨ih1, ih2⟩ := ih (i + 1) (by omega) (n + 1 + 1) (by omega)
      refine ⟨fun a hv => ?_, fun a ha u t hv => ?_⟩
      · obtain ⟨z0, hz0⟩ := u_or_any a y0
        rw [e] at hv
        refine rMore (Q := _) (n := n + 1) bp R.ext hx him hi9 hc hy0 hz0 (ih1 z0 ?_)
        cases hw : vP (i + 1) (bs.drop (i + 1)) with
        | none => rfl
        | some x => rw [hw] at hv; cases hv
      · have hf := vP_fits _ _ _ _ hby' hv
        rw [e] at hv
        cases hw : vP (i + 1) (bs.drop (i + 1)) with
        | none => rw [hw] at hv; cases hv
        | some x =>
          obtain ⟨w, t'⟩ := x
          rw [hw] at hv
          simp only [Option.map_some, Option.some.injEq, Prod.mk.injEq] at hv
          obtain ⟨rfl, rfl⟩ := hv
          have hmp := mul_pow64 hi9 hf.1
          have hcm7 : c % 128 = c - 128 := by omega
          have hle : (c % 128 + 1) * 2 ^ (7 * i) ≤ (c - 128 + 128 * w + 1) * 2 ^ (7 * i) := Nat.mul_le_mul_right _ (by omega)
          have hl2 : (c % 128 + 1) * 2 ^ (7 * i) = c % 128 * 2 ^ (7 * i) + 2 ^ (7 * i) := by rw [Nat.add_mul, Nat.one_mul]
          have hs := u_shl (x := c % 128) (i := i) hi9 (by omega)
          have ho := u_or64 (a := a) (b := c % 128) (i := i) ha (by omega)
          have hlt : c % 128 * 2 ^ (7 * i) + a < 2 ^ (7 * (i + 1)) := by
            have : (c % 128 + 1) * 2 ^ (7 * i) ≤ 128 * 2 ^ (7 * i) := Nat.mul_le_mul_right _ (by omega)
            rw [hp7, Nat.mul_comm (2 ^ (7 * i)) 128]
            omega
          have h2 := ih2 (c % 128 * 2 ^ (7 * i) + a) hlt w t' hw
          have hval : c % 128 * 2 ^ (7 * i) + a + w * 2 ^ (7 * (i + 1)) = a + (c - 128 + 128 * w) * 2 ^ (7 * i) := by
            rw [hp7, hcm7, Nat.add_mul, ← Nat.mul_assoc, Nat.mul_comm w (2 ^ (7 * i)), Nat.mul_assoc, Nat.mul_comm (2 ^ (7 * i)) (w * 128), Nat.mul_comm w 128]
            omega
          rw [hval] at h2
          exact rMore (Q := _) (n := n + 1) bp R.ext hx him hi9 hc hs ho h2
theorem pmin10 (len : Nat) : pMinmax false [.int .i64 (len : Int), Z 10] = some (.int .i64 ((min len 10 : Nat) : Int)) := by
  by_cases hc : len ≤ 10
  · simp [pMinmax, minInts, Nat.min_eq_left hc]
    intro h; omega
  · simp [pMinmax, minInts, Nat.min_eq_right (by omega : 10 ≤ len)]
    intro h; omega
/-- A number is read, or not. -/
theorem rNumG {hb h : AHeap} {kr : Nat} {s : Rd} (R : RdS I hb h kr s) (ok : RdOk s) : ∃ g, (AM.lim ⟨P, I, genF P Sh.prims⟩) 43 [.ptr (.own kr) 0] h = some (.int .i64 (pNum s).1, g) ∧ Only kr h g ∧ RdS I hb g kr (pNum s).2 := by
  obtain ⟨v, hk, bv⟩ := R.at_
  have key : Res ((AM.lim ⟨P, I, genF P Sh.prims⟩) 43 [.ptr (.own kr) 0] h) fun w g => w = .int .i64 (pNum s).1 ∧ Only kr h g ∧ RdS I hb g kr (pNum s).2 := by
    obtain ⟨m, hm⟩ : ∃ m, m = min (s.getD []).length 10 := ⟨_, rfl⟩
    obtain ⟨pv, hpv, bp⟩ := bv.to (m := m) (by omega)
    have hlv := bv.len
    have hlp := bp.len
    have hlm : ((s.getD []).take m).length = m := by rw [List.length_take]; omega
    rw [hlm] at hlp
    have hmin := pmin10 (s.getD []).length
    rw [← hm] at hmin
    have hrun : Res ((f43.J I (AM.lim ⟨P, I, genF P Sh.prims⟩) (60)).1.2.1 (.ptr (.own kr) 0) (.int .u64 ((0 : Nat) : Int)) pv (.int .i64 (m : Int)) (.int .i64 ((0 : Nat) : Int)) h) fun w g => w = .int .i64 (pNum s).1 ∧ Only kr h g ∧ RdS I hb g kr (pNum s).2 := by
      cases s with
      | none =>
        have hm0 : m = 0 := by simpa using hm
        subst hm0
        have hlost := rLost R 58
        show Res _ fun w g => w = .int .i64 0 ∧ Only kr h g ∧ RdS I hb g kr none
        have z : (.int .i64 0 : AVal) = Z 0 := rfl
        rw [z]
        generalize hQ : (fun (w : AVal) (g : AHeap) => w = Z 0 ∧ Only kr h g ∧ RdS I hb g kr none) = Q at *
        clear hQ R bp bv
        rw [f43.n1]; unfold f43.b1
        simp (disch := first | exact D.go | fail) [setR, List.getElem?_cons_zero, List.getElem?_cons_succ]
        exact hlost
      | some bs =>
        obtain ⟨l1, l2⟩ := rLoopG R bp hm (ok bs rfl).1 m 0 (by omega) 60 (by omega)
        cases hv : vP 0 bs with
        | none =>
          have e : pNum (some bs) = (0, none) := by simp [pNum, hv]
          rw [e]
          exact l1 _ hv
        | some x =>
          obtain ⟨u, t⟩ := x
          have e : pNum (some bs) = (unzig u, some t) := by simp [pNum, hv]
          rw [e]
          have := l2 0 (Nat.pow_pos (by omega)) u t hv
          rw [show 0 + u * 2 ^ (7 * 0) = u by simp] at this
          exact this
    refine f43.lim rfl (n := 60) ?_
    unfold f43.e
    generalize hQ : (fun (w : AVal) (g : AHeap) => w = .int .i64 (pNum s).1 ∧ Only kr h g ∧ RdS I hb g kr (pNum s).2) = Q at *
    generalize hL : (((s.getD []).length : Nat) : Int) = L at *
    generalize hB : s.isNone = B at *
    clear hL hQ bv bp R hB
    simp (disch := first | exact D.go | fail) [setR, List.getElem?_cons_zero, List.getElem?_cons_succ, hk, hlv, hmin, hpv, hlp]
    exact hrun
  obtain ⟨w, g, e, rfl, h1, h2⟩ := key
  exact ⟨g, e, h1, h2⟩
/-- A size is read, or not. -/
theorem rSizeG {hb h : AHeap} {kr : Nat} {s : Rd} (R : RdS I hb h kr s) (ok : RdOk s) : ∃ g, (AM.lim ⟨P, I, genF P Sh.prims⟩) 39 [.ptr (.own kr) 0] h = some (.int .i64 ((pSize s).1 : Int), g) ∧ Only kr h g ∧ RdS I hb g kr (pSize s).2 := by
  obtain ⟨g, c1, o1, R1⟩ := rNumG R ok
  have hin := (peNum.fits s ok).1
  have key : Res ((AM.lim ⟨P, I, genF P Sh.prims⟩) 39 [.ptr (.own kr) 0] h) fun w g => w = .int .i64 ((pSize s).1 : Int) ∧ Only kr h g ∧ RdS I hb g kr (pSize s).2 := by
    obtain ⟨v, hk, bv⟩ := R1.at_
    have hl := bv.len
    refine f39.lim rfl (n := 4) ?_
    unfold f39.e
    generalize hQ : (fun (w : AVal) (g : AHeap) => w = .int .i64 ((pSize s).1 : Int) ∧ Only kr h g ∧ RdS I hb g kr (pSize s).2) = Q
    have hlose : (pSize s) = (0, none) → Q (Z 0) ((g.set kr ⟨[.nils, .bool (pNum s).2.isNone], true⟩).set kr ⟨[.nils, .bool true], true⟩) := by
      intro e
      rw [← hQ, e]
      have o : Only kr g ((g.set kr ⟨[.nils, .bool (pNum s).2.isNone], true⟩).set kr ⟨[.nils, .bool true], true⟩) := (Only.set kr g _).trans (Only.set kr _ _)
      exact ⟨rfl, o1.trans o, R1.only (s' := none) o (AHeap.set_at (Nb.o rfl)) ByS.nil⟩
    have hkeep : pSize s = ((pNum s).1.toNat, (pNum s).2) → 0 ≤ (pNum s).1 → Q (.int .i64 (pNum s).1) g := by
      intro e hp
      rw [← hQ, e]
      exact ⟨by rw [Int.toNat_of_nonneg hp], o1, R1⟩
    have hdef : pSize s = match pNum s with
      | (n, some t) => if n < 0 ∨ (t.length : Int) < n then (0, none) else (n.toNat, some t)
      | (_, none) => (0, none) := rfl
    cases hp : pNum s with
    | mk n s' =>
      rw [hp] at c1 hk hl hlose hkeep hdef
      clear hQ R R1 o1 bv
      cases s' with
      | none =>
        have hn : n = 0 := by
          cases s with
          | none => simpa [pNum] using hp.symm
          | some bs =>
            cases hv : vP 0 bs with
            | none => simpa [pNum, hv] using hp.symm
            | some x => simp [pNum, hv] at hp
        subst hn
        have hq := hkeep hdef (by omega)
        simp only [Option.getD_none, List.length_nil] at hl
        simp only at c1 hk
        clear hlose hkeep hdef
        simp (disch := first | exact D.go | fail) [setR, List.getElem?_cons_zero, List.getElem?_cons_succ, c1, hk, hl, f39.n0, f39.b0]
        exact hq
      | some t =>
        simp only [Option.getD_some] at hl
        simp only at c1 hk hlose hkeep hdef
        by_cases hc : n < 0 ∨ (t.length : Int) < n
        · rw [if_pos hc] at hdef
          have hq := hlose hdef
          clear hlose hkeep hdef
          rcases hc with hc | hc
          · simp (disch := first | exact D.go | fail) [setR, List.getElem?_cons_zero, List.getElem?_cons_succ, c1, hk, hl, hc]
            exact hq
          · by_cases hc0 : n < 0
            · simp (disch := first | exact D.go | fail) [setR, List.getElem?_cons_zero, List.getElem?_cons_succ, c1, hk, hl, hc0]
              exact hq
            · simp (disch := first | exact D.go | fail) [setR, List.getElem?_cons_zero, List.getElem?_cons_succ, c1, hk, hl, hc0, hc]
              exact hq
        · rw [if_neg hc] at hdef
          have hq := hkeep hdef (by omega)
          have n0 : ¬ n < 0 := by omega
          have n1 : ¬ (t.length : Int) < n := by omega
          clear hlose hkeep hdef hc
          simp (disch := first | exact D.go | fail) [setR, List.getElem?_cons_zero, List.getElem?_cons_succ, c1, hk, hl, n0, n1, f39.n0, f39.b0]
          exact hq
  obtain ⟨w, g, e, rfl, h1, h2⟩ := key
  exact ⟨g, e, h1, h2⟩
end
end
end Go.Proofs.YtncjcnipagdmlaaDoor.Tx

set_option linter.unusedSimpArgs false
set_option linter.unusedVariables false
namespace Go.Proofs.YtncjcnipagdmlaaDoor.Tx
noncomputable section
open Go.AM Go.Proofs.YtncjcnipagdmlaaDoor.Sf
section
variable {I : Inp} {h0 : AHeap} {α : Type}
/-! things of one's own and the blocks that they need -/
/-- What holds as long as these blocks stay. -/
structure It (hb g : AHeap) (F : Nat → Prop) (R : AHeap → Prop) : Prop where
  lo : ∀ m, F m → hb.next ≤ m ∧ m < g.next
  ok : ∀ g', g.next ≤ g'.next → (∀ m, F m → g'.get m = g.get m) → R g'
theorem It.keep {hb g g' : AHeap} {F : Nat → Prop} {R : AHeap → Prop} (a : It hb g F R) (h1 : g.next ≤ g'.next) (h2 : ∀ m, F m → g'.get m = g.get m) : It hb g' F R :=
  ⟨fun m hm => ⟨(a.lo m hm).1, Nat.lt_of_lt_of_le (a.lo m hm).2 h1⟩, fun k h3 h4 => a.ok k (Nat.le_trans h1 h3) fun m hm => (h4 m hm).trans (h2 m hm)⟩
theorem It.now {hb g : AHeap} {F : Nat → Prop} {R : AHeap → Prop} (a : It hb g F R) : R g := a.ok g (Nat.le_refl _) fun _ _ => rfl
theorem It.pure {hb g : AHeap} {R : AHeap → Prop} (h : ∀ g', R g') : It hb g (fun _ => False) R := ⟨fun m hm => hm.elim, fun g' _ _ => h g'⟩
theorem It.wide {hb g : AHeap} {F F' : Nat → Prop} {R : AHeap → Prop} (a : It hb g F R) (hF : ∀ m, F m → F' m) (hl : ∀ m, F' m → hb.next ≤ m ∧ m < g.next) : It hb g F' R :=
  ⟨hl, fun k h3 h4 => a.ok k h3 fun m hm => h4 m (hF m hm)⟩
def RowT (sz : Nat) := {l : List AVal // l.length = sz ∧ l.all AVal.one = true}
def rowF {sz : Nat} (r : RowT sz) : List AVal := r.1
theorem rowFix {sz : Nat} (h : 0 < sz) : Fix (rowF (sz := sz)) sz := ⟨fun x => x.2.1, fun x => x.2.2, h⟩
/-- A slice of one's own of such things. -/
structure Ls (C : AHeap → List AVal → α → Prop) (sz : Nat) (hb g : AHeap) (F : Nat → Prop) (v : AVal) (xs : List α) : Prop where
  rows : ∃ ys : List (RowT sz), ys.length = xs.length ∧ Own rowF sz hb g v ys ∧ It hb g F fun g' => ∀ (i : Nat) (y : RowT sz) (x : α), ys[i]? = some y → xs[i]? = some x → C g' (rowF y) x
  apart : ∀ m, F m → NotB v m
theorem Ls.nil {C : AHeap → List AVal → α → Prop} {sz : Nat} {hb g : AHeap} : Ls C sz hb g (fun _ => False) .nils [] :=
  ⟨⟨[], rfl, Own.nil, It.pure fun _ i y x h => by simp at h⟩, fun m hm => hm.elim⟩
theorem Own.keepB {β : Type} {f : β → List AVal} {sz : Nat} {hb h g : AHeap} {v : AVal} {xs : List β} (a : Own f sz hb h v xs) (h1 : h.next ≤ g.next) (h2 : ∀ m, ¬ NotB v m → g.get m = h.get m) : Own f sz hb g v xs := by
  rcases a with a | ⟨k, rfl, hk, l1, l2, l3⟩
  · exact .inl a
  · exact .inr ⟨k, rfl, (h2 k (fun hn => hn k _ _ _ rfl rfl)).trans hk, l1, by omega, l3⟩
theorem Ls.keep {C : AHeap → List AVal → α → Prop} {sz : Nat} {hb g g' : AHeap} {F : Nat → Prop} {v : AVal} {xs : List α} (a : Ls C sz hb g F v xs) (h1 : g.next ≤ g'.next) (h2 : ∀ m, F m → g'.get m = g.get m) (h3 : ∀ m, ¬ NotB v m → g'.get m = g.get m) : Ls C sz hb g' F v xs := by
  obtain ⟨ys, e, o, i⟩ := a.rows
  exact ⟨⟨ys, e, o.keepB h1 h3, i.keep h1 h2⟩, a.apart⟩
theorem Own.blk {β : Type} {f : β → List AVal} {sz : Nat} {hb h : AHeap} {v : AVal} {xs : List β} (a : Own f sz hb h v xs) {m : Nat} (hm : ¬ NotB v m) : hb.next ≤ m ∧ m < h.next := by
  rcases a with ⟨rfl, _⟩ | ⟨k, rfl, hk, l1, l2, l3⟩
  · exact absurd (fun k o n c e => by cases e) hm
  · have : m = k := Classical.byContradiction fun hne => hm fun k' o n c e => by cases e; exact hne
    subst this; exact ⟨l1, l2⟩
theorem Ls.one {C : AHeap → List AVal → α → Prop} {sz : Nat} {hb g : AHeap} {F : Nat → Prop} {v : AVal} {xs : List α} (a : Ls C sz hb g F v xs) : v.one = true ∧ v.cells = [v] := by
  obtain ⟨ys, e, o, i⟩ := a.rows
  exact o.v1
/-- Such a slice is one. -/
theorem Ls.sl {C : AHeap → List AVal → α → Prop} {sz : Nat} (hz : 0 < sz) {hb g : AHeap} {F : Nat → Prop} {v : AVal} {xs : List α} (a : Ls C sz hb g F v xs) (hl : xs.length ≤ 9223372036854775807) : It hb g (fun m => F m ∨ ¬ NotB v m) fun g' => SlOf sz (At I g' (C g')) v xs := by
  obtain ⟨ys, e, o, i⟩ := a.rows
  refine ⟨fun m hm => ?_, fun g' h1 h2 => ?_⟩
  · rcases hm with hm | hm
    · exact i.lo m hm
    · exact o.blk hm
  · have o' := o.keepB h1 fun m hm => h2 m (.inr hm)
    have i' := i.ok g' h1 fun m hm => h2 m (.inl hm)
    rcases o' with ⟨rfl, rfl⟩ | ⟨k, rfl, hk, l1, l2, l3⟩
    · have : xs = [] := List.length_eq_zero_iff.1 e.symm
      subst this; exact SlOf.nil
    · refine .inr ⟨.own k, 0, .grown sz, by rw [e], fun m hm => by simp [capHas]; omega, ⟨hl, fun h => ?_⟩, fun j x hx => ?_⟩
      · subst h; exact absurd (List.length_eq_zero_iff.1 e) l3
      · have hj : j < ys.length := by rw [e]; exact (List.getElem?_eq_some_iff.1 hx).1
        have hy : ys[j]? = some ys[j] := List.getElem?_eq_getElem hj
        refine ⟨rowF ys[j], i' j _ x hy hx, Cells.own hk l2 fun q w hw => ?_⟩
        simp only [Nat.zero_add]
        exact (rowFix hz).get ys j _ q w hy hw
/-- One thing more. -/
theorem Ls.push {C : AHeap → List AVal → α → Prop} {sz : Nat} (hz : 0 < sz) {hb h : AHeap} {F Fu : Nat → Prop} {v : AVal} {xs : List α} (L : Ls C sz hb h F v xs) (eb : Ext hb h) {cs : List AVal} {x : α} (it : It hb h Fu fun g' => C g' cs x) (hc : cs.length = sz) (h1 : cs.all AVal.one = true) (ap : ∀ m, Fu m → NotB v m) {bytes : Nat} (hby : bytes ≤ 4096) (hn : xs.length ≤ 20000000000) :
    ∃ w G, sAppend I sz bytes v (.sl (.own h.next) 0 1 (.known 1)) (h.alloc ⟨cs, true⟩) = some (w, G) ∧ Ls C sz hb G (fun m => F m ∨ Fu m) w (xs ++ [x]) ∧ Ext hb G ∧ h.next ≤ G.next ∧ (∀ m, m < h.next → NotB v m → G.get m = h.get m ∧ NotB w m) ∧ w.one = true ∧ w.cells = [w] := by
  obtain ⟨ys, e, o, i⟩ := L.rows
  obtain ⟨y0, hy0⟩ : ∃ y0 : RowT sz, rowF y0 = cs := ⟨⟨cs, hc, h1⟩, rfl⟩
  subst hy0
  obtain ⟨w, G, e1, o1, x1, k1, k2⟩ := app_own (I := I) (f := rowF) (rowFix hz) (o.mono (Ext.refl h).alloc) eb.alloc y0 (bytes := bytes) hby (by omega) (kw := h.next) (c := .known 1) (AHeap.alloc_at (Nb.o rfl))
  simp only [AHeap.next_alloc] at k1 k2
  have kk : ∀ m, m < h.next → NotB v m → G.get m = h.get m ∧ NotB w m := fun m hm hnb => by
    obtain ⟨p1, p2⟩ := k2 m hnb (by omega)
    exact ⟨p1.trans (AHeap.alloc_ne (Nb.o (by omega))), p2⟩
  refine ⟨w, G, e1, ⟨⟨ys ++ [y0], by simp [e], o1, ⟨fun m hm => ?_, fun g' q1 q2 => ?_⟩⟩, fun m hm => ?_⟩, x1, by omega, kk, o1.v1⟩
  · rcases hm with hm | hm
    · have := i.lo m hm; omega
    · have := it.lo m hm; omega
  · have i' := i.ok g' (by omega) fun m hm => (q2 m (.inl hm)).trans (kk m (i.lo m hm).2 (L.apart m hm)).1
    have it' := it.ok g' (by omega) fun m hm => (q2 m (.inr hm)).trans (kk m (it.lo m hm).2 (ap m hm)).1
    intro j y z hy hz'
    by_cases hj : j < ys.length
    · rw [List.getElem?_append_left hj] at hy
      rw [List.getElem?_append_left (by omega)] at hz'
      exact i' j y z hy hz'
    · have hj' : j = ys.length := by
        have := (List.getElem?_eq_some_iff.1 hy).1
        simp at this; omega
      subst hj'
      simp at hy
      rw [e] at hz'
      simp at hz'
      subst hy hz'
      exact it'
  · rcases hm with hm | hm
    · exact (kk m (i.lo m hm).2 (L.apart m hm)).2
    · exact (kk m (it.lo m hm).2 (ap m hm)).2
/-! a list that is being read -/
/-- So far: a slice of what was read, a reader, and what was there ahead is as it was, but for the reader and one block. -/
structure LpS (I : Inp) (C : AHeap → List AVal → α → Prop) (sz : Nat) (hb h00 h : AHeap) (kr kp : Nat) (F : Nat → Prop) (v : AVal) (xs : List α) (s : Rd) : Prop where
  rd : RdS I hb h kr s
  ls : Ls C sz hb h F v xs
  young : ∀ m, m < h00.next → NotB v m ∧ ¬ F m
  lo : h00.next ≤ h.next
  keep : ∀ m, m < h00.next → m ≠ kr → m ≠ kp → h.get m = h00.get m
  kr : kr < h00.next
theorem RdS.mono {hb h g : AHeap} {kr : Nat} {s : Rd} (R : RdS I hb h kr s) (h1 : h.next ≤ g.next) (h2 : g.get kr = h.get kr) (x : Ext hb g) : RdS I hb g kr s := by
  obtain ⟨v, hk, bv⟩ := R.at_
  exact ⟨R.lo, by have := R.hi; omega, x, v, h2.trans hk, bv⟩
theorem LpS.begin {C : AHeap → List AVal → α → Prop} {sz : Nat} {hb h : AHeap} {kr kp : Nat} {s : Rd} (R : RdS I hb h kr s) {h00 : AHeap} (e : Only kr h00 h) : LpS I C sz hb h00 h kr kp (fun _ => False) .nils ([] : List α) s :=
  ⟨R, Ls.nil, fun m _ => ⟨fun k o n c e => (by cases e), fun f => f⟩, by rw [e.1]; exact Nat.le_refl _, fun m _ hne _ => e.2 m hne, by have := R.hi; rw [e.1] at this; exact this⟩
theorem LpS.step {C : AHeap → List AVal → α → Prop} {sz : Nat} (hz : 0 < sz) {hb h00 h g : AHeap} {kr kp : Nat} {F Fu : Nat → Prop} {v : AVal} {xs : List α} {s s' : Rd} (L : LpS I C sz hb h00 h kr kp F v xs s) (R : RdS I hb g kr s') (K : RKeep kr h g) {cs : List AVal} {x : α} (it : It hb g Fu fun g' => C g' cs x) (hc : cs.length = sz) (h1 : cs.all AVal.one = true) (yo : ∀ m, Fu m → h.next ≤ m) {bytes : Nat} (hby : bytes ≤ 4096) (hn : xs.length ≤ 20000000000) :
    ∃ w G, sAppend I sz bytes v (.sl (.own g.next) 0 1 (.known 1)) (g.alloc ⟨cs, true⟩) = some (w, G) ∧ LpS I C sz hb h00 G kr kp (fun m => F m ∨ Fu m) w (xs ++ [x]) s' ∧ w.one = true ∧ w.cells = [w] ∧ (∀ m, m < h00.next → G.get m = g.get m) ∧ (∀ m, m < h.next → NotB v m → G.get m = g.get m ∧ NotB w m) ∧ g.next ≤ G.next := by
  obtain ⟨ys, e, o, i⟩ := L.ls.rows
  have hk := L.kr
  have hlo := L.lo
  have klo := K.1
  have L' : Ls C sz hb g F v xs := L.ls.keep K.1 (fun m hm => K.2 m (i.lo m hm).2 (fun h => (L.young kr hk).2 (h ▸ hm))) (fun m hm => K.2 m (o.blk hm).2 (fun h => hm (h ▸ (L.young kr hk).1)))
  obtain ⟨w, G, e1, l1, x1, k1, k2, w1⟩ := L'.push (I := I) hz R.ext it hc h1 (fun m hm k o' n c e => by
    have h3 := yo m hm
    have : ¬ NotB v k := fun hn => hn k o' n c e rfl
    have := (o.blk this).2
    omega) hby hn
  refine ⟨w, G, e1, ⟨?_, l1, fun m hm => ⟨(k2 m (by omega) (L.young m hm).1).2, fun hF => ?_⟩, by omega, fun m hm hne hne' => ?_, hk⟩, w1.1, w1.2, fun m hm => (k2 m (by omega) (L.young m hm).1).1, fun m hm hnb => k2 m (by omega) hnb, k1⟩
  · exact R.mono k1 (k2 kr (by omega) (L.young kr hk).1).1 x1
  · rcases hF with hF | hF
    · exact (L.young m hm).2 hF
    · have := yo m hF; omega
  · rw [(k2 m (by omega) (L.young m hm).1).1, K.2 m (by omega) hne]
    exact L.keep m hm hne hne'
/-- Another block that was there ahead is set. -/
theorem LpS.set {C : AHeap → List AVal → α → Prop} {sz : Nat} {hb h00 h : AHeap} {kr kp : Nat} {F : Nat → Prop} {v : AVal} {xs : List α} {s : Rd} (L : LpS I C sz hb h00 h kr kp F v xs s) (h1 : kp < h00.next) (h2 : hb.next ≤ kp) (h3 : kp ≠ kr) (b : Blk) : LpS I C sz hb h00 (h.set kp b) kr kp F v xs s := by
  have hy := L.young kp h1
  refine ⟨L.rd.mono (by simp) (AHeap.set_ne (Nb.o (Ne.symm h3))) (L.rd.ext.set (Nb.o h2)), L.ls.keep (by simp) (fun m hm => AHeap.set_ne (Nb.o (fun e => hy.2 (e ▸ hm)))) (fun m hm => AHeap.set_ne (Nb.o (fun e => hm (e ▸ hy.1)))), L.young, by simpa using L.lo, fun m hm hne hne' => ?_, L.kr⟩
  rw [AHeap.set_ne (Nb.o hne')]
  exact L.keep m hm hne hne'
end
end
end Go.Proofs.YtncjcnipagdmlaaDoor.Tx

set_option linter.unusedSimpArgs false
set_option linter.unusedVariables false
namespace Go.Proofs.YtncjcnipagdmlaaDoor.Tx
noncomputable section
open Go.AM Go.Proofs.YtncjcnipagdmlaaDoor.Sf
section
variable {I : Inp} {h0 : AHeap} {α : Type}
/-! lists of numbers and of types, read -/
/-- What a reading comes to. -/
def RdC (I : Inp) (V : AHeap → AVal → α → Prop) (hb h : AHeap) (kr : Nat) (x : α × Rd) : AVal → AHeap → Prop := fun u g =>
  RdS I hb g kr x.2 ∧ RKeep kr h g ∧ ∃ F, It hb g F (fun g' => V g' u x.1) ∧ ∀ m, F m → h.next ≤ m
theorem Only.keep {kr : Nat} {h g : AHeap} (o : Only kr h g) : RKeep kr h g := ⟨by rw [o.1]; exact Nat.le_refl _, fun m _ hne => o.2 m hne⟩
def SlV' (I : Inp) (C : AHeap → List AVal → α → Prop) (sz : Nat) : AHeap → AVal → List α → Prop := fun g u xs => SlOf sz (At I g (C g)) u xs
theorem LpS.done {C : AHeap → List AVal → α → Prop} {sz : Nat} (hz : 0 < sz) {hb h00 h : AHeap} {kr : Nat} {F : Nat → Prop} {v : AVal} {xs : List α} {s : Rd} (L : LpS I C sz hb h00 h kr kr F v xs s) (hl : xs.length ≤ 9223372036854775807) : RdC I (SlV' I C sz) hb h00 kr (xs, s) v h :=
  ⟨L.rd, ⟨L.lo, fun m hm hne => L.keep m hm hne hne⟩, _, L.ls.sl hz hl, fun m hm => Nat.le_of_not_lt fun h => by
    obtain ⟨a, b⟩ := L.young m h
    rcases hm with hm | hm
    · exact b hm
    · exact hm a⟩
theorem pList_le {p : Rd → α × Rd} {e : α → List Nat} {c : Nat} {ok : α → Prop} (h : PE p e c ok) {s : Rd} (hs : RdOk s) : (pList p s).1.length ≤ 9223372036854775807 := by
  have := ((h.list).fits s hs).1.1
  omega
theorem rNumsLG {hb h00 : AHeap} {kr : Nat} : ∀ (n : Nat) (acc : List Int) (v : AVal) (s : Rd) (F : Nat → Prop) (h : AHeap), LpS I (fun _ => IntC) 1 hb h00 h kr kr F v acc s → RdOk s → acc.length + n ≤ 10000000 →
    ∀ N, 4 * n + 4 ≤ N → Res ((f42.J I (AM.lim ⟨P, I, genF P Sh.prims⟩) (N)).1.2 (.ptr (.own kr) 0) v (.int .i64 (n : Int)) h) fun u g => ∃ F', LpS I (fun _ => IntC) 1 hb h00 g kr kr F' u (acc ++ (pRep pNum n s).1) (pRep pNum n s).2 := by
  intro n
  induction n with
  | zero =>
    intro acc v s F h L ok hl N hN
    obtain ⟨n, rfl⟩ : ∃ n, N = n + 2 := ⟨N - 2, by omega⟩
    rw [pRep_zero, List.append_nil]
    generalize hQ : (fun (u : AVal) (g : AHeap) => ∃ F', LpS I (fun _ => IntC) 1 hb h00 g kr kr F' u acc s) = Q
    have hq : Q v h := by rw [← hQ]; exact ⟨F, L⟩
    clear hQ L
    rw [f42.n1]; unfold f42.b1
    simp (disch := first | exact D.go | fail) [setR, List.getElem?_cons_zero, List.getElem?_cons_succ, f42.n0, f42.b0]
    exact hq
  | succ k ih =>
    intro acc v s F h L ok hl N hN
    obtain ⟨n, rfl⟩ : ∃ n, N = n + 4 := ⟨N - 4, by omega⟩
    obtain ⟨v0, hk0, _⟩ := L.rd.at_
    have hpos : (0 : Int) < ((k + 1 : Nat) : Int) := by omega
    cases s with
    | none =>
      rw [pRep_none, List.append_nil]
      generalize hQ : (fun (u : AVal) (g : AHeap) => ∃ F', LpS I (fun _ => IntC) 1 hb h00 g kr kr F' u acc none) = Q
      have hq : Q v h := by rw [← hQ]; exact ⟨F, L⟩
      simp only [Option.isNone_none] at hk0
      generalize ((k + 1 : Nat) : Int) = L' at *
      clear hQ L ih
      rw [f42.n1]; unfold f42.b1
      simp (disch := first | exact D.go | fail) [setR, List.getElem?_cons_zero, List.getElem?_cons_succ, hpos, hk0, f42.n0, f42.b0]
      exact hq
    | some t =>
      obtain ⟨g, c1, o1, R1⟩ := rNumG L.rd ok
      obtain ⟨b1, b2, _⟩ := peNum.fits (some t) ok
      obtain ⟨w, G, e1, L1, w1, w2, _⟩ := L.step (I := I) (cs := [.int .i64 (pNum (some t)).1]) (x := (pNum (some t)).1) (Fu := fun _ => False) (by omega) R1 o1.keep (It.pure fun _ => ⟨rfl, b1⟩) rfl rfl (fun m hm => hm.elim) (bytes := 8) (by omega) (by omega)
      have hi2 := ih (acc ++ [(pNum (some t)).1]) w (pNum (some t)).2 _ G L1 b2 (by simp only [List.length_append, List.length_cons, List.length_nil]; omega) (n + 1) (by omega)
      rw [show (pRep pNum (k + 1) (some t)) = ((pNum (some t)).1 :: (pRep pNum k (pNum (some t)).2).1, (pRep pNum k (pNum (some t)).2).2) from rfl]
      simp only [List.append_assoc, List.singleton_append] at hi2
      have hw : IntKind.i64.wrap (((k + 1 : Nat) : Int) - 1) = (k : Int) := by rw [wrap_in ⟨by omega, by omega⟩]; omega
      simp only
      generalize pNum (some t) = xx at *
      generalize pRep pNum k xx.2 = yy at *
      simp only [Option.isNone_some] at hk0
      generalize ((k + 1 : Nat) : Int) = L' at *
      generalize hQ : (fun (u : AVal) (g : AHeap) => ∃ F', LpS I (fun _ => IntC) 1 hb h00 g kr kr F' u (acc ++ xx.1 :: yy.1) yy.2) = Q at *
      clear hQ ih L R1 L1 o1 b1 b2
      rw [f42.n1]; unfold f42.b1
      simp (disch := first | exact D.go | fail) [setR, List.getElem?_cons_zero, List.getElem?_cons_succ, hpos, hk0, f42.n2, f42.b2, c1, e1, f42.n3, f42.b3, hw]
      exact hi2
/-- A list of numbers is read, or not. -/
theorem rNumsG {hb h : AHeap} {kr : Nat} {s : Rd} (R : RdS I hb h kr s) (ok : RdOk s) : Res ((AM.lim ⟨P, I, genF P Sh.prims⟩) 42 [.ptr (.own kr) 0] h) (RdC I (SlV' I (fun _ => IntC) 1) hb h kr (pNums s)) := by
  obtain ⟨g, c1, o1, R1⟩ := rSizeG R ok
  obtain ⟨z1, z2, _⟩ := pSize_fits s ok
  have h1 := rNumsLG (I := I) (h00 := h) (pSize s).1 [] .nils (pSize s).2 _ g (LpS.begin R1 o1) z2 (by simp; omega) (4 * (pSize s).1 + 4) (Nat.le_refl _)
  refine f42.lim rfl (n := 4 * (pSize s).1 + 4) ?_
  unfold f42.e
  rw [List.nil_append] at h1
  have hfin : ∀ u g, (∃ F', LpS I (fun _ => IntC) 1 hb h g kr kr F' u (pRep pNum (pSize s).1 (pSize s).2).1 (pRep pNum (pSize s).1 (pSize s).2).2) → RdC I (SlV' I (fun _ => IntC) 1) hb h kr (pNums s) u g := fun u g hL =>
    let ⟨F, L⟩ := hL
    L.done (by omega) (pList_le peNum ok)
  generalize hQ : RdC I (SlV' I (fun _ => IntC) 1) hb h kr (pNums s) = Q at *
  clear hQ R R1 o1 z1 z2
  generalize pSize s = y at *
  have hres : Res ((f42.J I (AM.lim ⟨P, I, genF P Sh.prims⟩) (4 * y.1 + 4)).1.2 (.ptr (.own kr) 0) .nils (.int .i64 (y.1 : Int)) g) Q := h1.mono hfin
  clear h1 hfin
  simp (disch := first | exact D.go | fail) [setR, List.getElem?_cons_zero, List.getElem?_cons_succ, c1]
  exact hres
/-- A type is read, or not. -/
theorem rTypG {hb h : AHeap} {kr : Nat} {s : Rd} (R : RdS I hb h kr s) (ok : RdOk s) : ∃ g, (AM.lim ⟨P, I, genF P Sh.prims⟩) 41 [.ptr (.own kr) 0] h = some (.agg [.int .i64 (pTyp s).1.kind, .int .i64 (pTyp s).1.n], g) ∧ RKeep kr h g ∧ RdS I hb g kr (pTyp s).2 := by
  obtain ⟨H, hH⟩ : ∃ H, H = h.alloc ⟨[Z 0, Z 0], true⟩ := ⟨_, rfl⟩
  have xH : Ext h H := by rw [hH]; exact (Ext.refl h).alloc
  have hHn : H.next = h.next + 1 := by rw [hH]; simp
  have hHk : H.get h.next = some ⟨[Z 0, Z 0], true⟩ := by rw [hH]; exact AHeap.alloc_at (Nb.o rfl)
  have hkr := R.hi
  have R0 : RdS I hb H kr s := R.mono xH.lo (xH.same _ hkr) (R.ext.trans xH)
  obtain ⟨g1, c1, o1, R1⟩ := rNumG R0 ok
  obtain ⟨b1, b2, _⟩ := peNum.fits s ok
  obtain ⟨g2, c2, o2, R2⟩ := rNumG R1 b2
  have q2 : g2.get h.next = some ⟨[Z 0, Z 0], true⟩ := (o2.2 _ (by omega)).trans ((o1.2 _ (by omega)).trans hHk)
  have e : pTyp s = (⟨(pNum s).1, (pNum (pNum s).2).1⟩, (pNum (pNum s).2).2) := rfl
  rw [e]
  have hn2 : g2.next = h.next + 1 := by rw [o2.1, o1.1, hHn]
  obtain ⟨G, hG⟩ : ∃ G, G = g2.set h.next ⟨[.int .i64 (pNum s).1, .int .i64 (pNum (pNum s).2).1], true⟩ := ⟨_, rfl⟩
  have hGm : ∀ m, m ≠ h.next → G.get m = g2.get m := fun m hm => by rw [hG, AHeap.set_ne (Nb.o hm)]
  have hGn : G.next = h.next + 1 := by rw [hG]; simp [hn2]
  have hfin : RKeep kr h G ∧ RdS I hb G kr (pNum (pNum s).2).2 := by
    refine ⟨⟨by omega, fun m hm hne => ?_⟩, R2.mono (by omega) (hGm kr (by omega)) ⟨by have := R2.ext.lo; omega, fun m hm => (hGm m (by have := R.ext.lo; omega)).trans (R2.ext.same m hm)⟩⟩
    rw [hGm m (by omega), o2.2 m hne, o1.2 m hne]
    exact xH.same m hm
  refine ⟨G, ?_, hfin⟩
  have d1 : (AM.lim ⟨P, I, genF P Sh.prims⟩) 43 [.ptr (.own kr) 0] (h.alloc ⟨[Z 0, Z 0], true⟩) = some (.int .i64 (pNum s).1, g1) := by rw [← hH]; exact c1
  refine Res.eq (f41.lim rfl (n := 2) ?_)
  unfold f41.e
  rw [hG]
  clear hfin hGn hGm hG R R0 R1 R2 hHk hHn xH hH o1 o2 e
  simp (disch := first | exact D.go | fail) [setR, List.getElem?_cons_zero, List.getElem?_cons_succ, d1, c2, q2]
theorem rTypsLG {hb h00 : AHeap} {kr : Nat} : ∀ (n : Nat) (acc : List Ty) (v : AVal) (s : Rd) (F : Nat → Prop) (h : AHeap), LpS I (fun _ => TyC) 2 hb h00 h kr kr F v acc s → RdOk s → acc.length + n ≤ 10000000 →
    ∀ N, 4 * n + 4 ≤ N → Res ((f40.J I (AM.lim ⟨P, I, genF P Sh.prims⟩) (N)).1.2 (.ptr (.own kr) 0) v (.int .i64 (n : Int)) h) fun u g => ∃ F', LpS I (fun _ => TyC) 2 hb h00 g kr kr F' u (acc ++ (pRep pTyp n s).1) (pRep pTyp n s).2 := by
  intro n
  induction n with
  | zero =>
    intro acc v s F h L ok hl N hN
    obtain ⟨n, rfl⟩ : ∃ n, N = n + 2 := ⟨N - 2, by omega⟩
    rw [pRep_zero, List.append_nil]
    generalize hQ : (fun (u : AVal) (g : AHeap) => ∃ F', LpS I (fun _ => TyC) 2 hb h00 g kr kr F' u acc s) = Q
    have hq : Q v h := by rw [← hQ]; exact ⟨F, L⟩
    clear hQ L
    rw [f40.n1]; unfold f40.b1
    simp (disch := first | exact D.go | fail) [setR, List.getElem?_cons_zero, List.getElem?_cons_succ, f40.n0, f40.b0]
    exact hq
  | succ k ih =>
    intro acc v s F h L ok hl N hN
    obtain ⟨n, rfl⟩ : ∃ n, N = n + 4 := ⟨N - 4, by omega⟩
    obtain ⟨v0, hk0, _⟩ := L.rd.at_
    have hpos : (0 : Int) < ((k + 1 : Nat) : Int) := by omega
    cases s with
    | none =>
      rw [pRep_none, List.append_nil]
      generalize hQ : (fun (u : AVal) (g : AHeap) => ∃ F', LpS I (fun _ => TyC) 2 hb h00 g kr kr F' u acc none) = Q
      have hq : Q v h := by rw [← hQ]; exact ⟨F, L⟩
      simp only [Option.isNone_none] at hk0
      generalize ((k + 1 : Nat) : Int) = L' at *
      clear hQ L ih
      rw [f40.n1]; unfold f40.b1
      simp (disch := first | exact D.go | fail) [setR, List.getElem?_cons_zero, List.getElem?_cons_succ, hpos, hk0, f40.n0, f40.b0]
      exact hq
    | some t =>
      obtain ⟨g, c1, K1, R1⟩ := rTypG L.rd ok
      obtain ⟨b1, b2, _⟩ := peTyp.fits (some t) ok
      obtain ⟨w, G, e1, L1, w1, w2, _⟩ := L.step (I := I) (cs := [.int .i64 (pTyp (some t)).1.kind, .int .i64 (pTyp (some t)).1.n]) (x := (pTyp (some t)).1) (Fu := fun _ => False) (by omega) R1 K1 (It.pure fun _ => ⟨rfl, b1⟩) rfl rfl (fun m hm => hm.elim) (bytes := 16) (by omega) (by omega)
      have hi2 := ih (acc ++ [(pTyp (some t)).1]) w (pTyp (some t)).2 _ G L1 b2 (by simp only [List.length_append, List.length_cons, List.length_nil]; omega) (n + 1) (by omega)
      rw [show (pRep pTyp (k + 1) (some t)) = ((pTyp (some t)).1 :: (pRep pTyp k (pTyp (some t)).2).1, (pRep pTyp k (pTyp (some t)).2).2) from rfl]
      simp only [List.append_assoc, List.singleton_append] at hi2
      have hw : IntKind.i64.wrap (((k + 1 : Nat) : Int) - 1) = (k : Int) := by rw [wrap_in ⟨by omega, by omega⟩]; omega
      simp only
      generalize pTyp (some t) = xx at *
      generalize pRep pTyp k xx.2 = yy at *
      simp only [Option.isNone_some] at hk0
      generalize ((k + 1 : Nat) : Int) = L' at *
      generalize hQ : (fun (u : AVal) (g : AHeap) => ∃ F', LpS I (fun _ => TyC) 2 hb h00 g kr kr F' u (acc ++ xx.1 :: yy.1) yy.2) = Q at *
      clear hQ ih L R1 L1 K1 b1 b2
      rw [f40.n1]; unfold f40.b1
      simp (disch := first | exact D.go | fail) [setR, List.getElem?_cons_zero, List.getElem?_cons_succ, hpos, hk0, f40.n2, f40.b2, c1, e1, f40.n3, f40.b3, hw]
      exact hi2
/-- A list of types is read, or not. -/
theorem rTypsG {hb h : AHeap} {kr : Nat} {s : Rd} (R : RdS I hb h kr s) (ok : RdOk s) : Res ((AM.lim ⟨P, I, genF P Sh.prims⟩) 40 [.ptr (.own kr) 0] h) (RdC I (SlV' I (fun _ => TyC) 2) hb h kr (pTypes s)) := by
  obtain ⟨g, c1, o1, R1⟩ := rSizeG R ok
  obtain ⟨z1, z2, _⟩ := pSize_fits s ok
  have h1 := rTypsLG (I := I) (h00 := h) (pSize s).1 [] .nils (pSize s).2 _ g (LpS.begin R1 o1) z2 (by simp; omega) (4 * (pSize s).1 + 4) (Nat.le_refl _)
  refine f40.lim rfl (n := 4 * (pSize s).1 + 4) ?_
  unfold f40.e
  rw [List.nil_append] at h1
  have hfin : ∀ u g, (∃ F', LpS I (fun _ => TyC) 2 hb h g kr kr F' u (pRep pTyp (pSize s).1 (pSize s).2).1 (pRep pTyp (pSize s).1 (pSize s).2).2) → RdC I (SlV' I (fun _ => TyC) 2) hb h kr (pTypes s) u g := fun u g hL =>
    let ⟨F, L⟩ := hL
    L.done (by omega) (pList_le peTyp ok)
  generalize hQ : RdC I (SlV' I (fun _ => TyC) 2) hb h kr (pTypes s) = Q at *
  clear hQ R R1 o1 z1 z2
  generalize pSize s = y at *
  have hres : Res ((f40.J I (AM.lim ⟨P, I, genF P Sh.prims⟩) (4 * y.1 + 4)).1.2 (.ptr (.own kr) 0) .nils (.int .i64 (y.1 : Int)) g) Q := h1.mono hfin
  clear h1 hfin
  simp (disch := first | exact D.go | fail) [setR, List.getElem?_cons_zero, List.getElem?_cons_succ, c1]
  exact hres
end
end
end Go.Proofs.YtncjcnipagdmlaaDoor.Tx

set_option linter.unusedSimpArgs false
set_option linter.unusedVariables false
namespace Go.Proofs.YtncjcnipagdmlaaDoor.Tx
noncomputable section
open Go.AM Go.Proofs.YtncjcnipagdmlaaDoor.Sf
section
variable {I : Inp} {h0 : AHeap} {α : Type}
/-! the fields of an instruction and of a block, read one by one -/
/-- What a field's reading leaves. -/
structure Fld (I : Inp) (hb h G : AHeap) (kr kb : Nat) (s : Rd) (cs : List AVal) : Prop where
  rd : RdS I hb G kr s
  next : G.next = h.next
  keep : ∀ m, m ≠ kr → m ≠ kb → G.get m = h.get m
  at_ : G.get kb = some ⟨cs, true⟩
theorem Fld.of {hb h g : AHeap} {kr kb : Nat} {s : Rd} (o : Only kr h g) (R : RdS I hb g kr s) (hne : kb ≠ kr) (lo : hb.next ≤ kb) (cs : List AVal) : Fld I hb h (g.set kb ⟨cs, true⟩) kr kb s cs :=
  ⟨R.mono (by simp) (AHeap.set_ne (Nb.o (Ne.symm hne))) (R.ext.set (Nb.o lo)), by simp [o.1], fun m h1 h2 => (AHeap.set_ne (Nb.o h2)).trans (o.2 m h1), AHeap.set_at (Nb.o rfl)⟩
theorem rI0 {hb h : AHeap} {kr kb kp : Nat} {s : Rd} (R : RdS I hb h kr s) (ok : RdOk s) {a0 a1 a2 a3 a4 a5 v2 v3 v4 : AVal} (hk : h.get kb = some ⟨[a0, a1, a2, a3, a4, a5], true⟩) (hp : h.get kp = some ⟨[.ptr (.own kb) 0, .ptr (.own kb) 1, .ptr (.own kb) 2, .ptr (.own kb) 3, .ptr (.own kb) 4], true⟩) (n1 : kb ≠ kr) (n2 : kp ≠ kr) (lo : hb.next ≤ kb) {Q : AVal → AHeap → Prop} {n : Nat}
    (hn : ∀ G, Fld I hb h G kr kb (pNum s).2 [.int .i64 (pNum s).1, a1, a2, a3, a4, a5] → Res ((f50.J I (AM.lim ⟨P, I, genF P Sh.prims⟩) (n)).1.2.2.2 (.ptr (.own kr) 0) v2 v3 v4 (.ptr (.own kb) 0) (.sl (.own kp) 0 5 (.known 5)) (Z 5) (Z 1) G) Q) :
    Res ((f50.J I (AM.lim ⟨P, I, genF P Sh.prims⟩) (n + 3)).1.2.2.2 (.ptr (.own kr) 0) v2 v3 v4 (.ptr (.own kb) 0) (.sl (.own kp) 0 5 (.known 5)) (Z 5) (Z 0) h) Q := by
  obtain ⟨g, c1, o1, R1⟩ := rNumG R ok
  have hn := hn _ (Fld.of o1 R1 n1 lo _)
  have q1 := (o1.2 kb n1).trans hk
  have hw := wrap_in (n := 0 + 1) ⟨by omega, by omega⟩
  have hw' : IntKind.i64.wrap 1 = 1 := wrap_in ⟨by omega, by omega⟩
  have hz : pIndexAddr 1 (.sl (.own kp) 0 5 (.known 5)) (Z 0) = some (.ptr (.own kp) 0) := rfl
  clear R R1 o1 ok
  rw [f50.n5]; unfold f50.b5
  simp (disch := first | exact D.go | fail) [setR, List.getElem?_cons_zero, List.getElem?_cons_succ, f50.n6, f50.b6, f50.n7, f50.b7, hp, hz, c1, q1, hw, hw']
  exact hn
theorem rI1 {hb h : AHeap} {kr kb kp : Nat} {s : Rd} (R : RdS I hb h kr s) (ok : RdOk s) {a0 a1 a2 a3 a4 a5 v2 v3 v4 : AVal} (hk : h.get kb = some ⟨[a0, a1, a2, a3, a4, a5], true⟩) (hp : h.get kp = some ⟨[.ptr (.own kb) 0, .ptr (.own kb) 1, .ptr (.own kb) 2, .ptr (.own kb) 3, .ptr (.own kb) 4], true⟩) (n1 : kb ≠ kr) (n2 : kp ≠ kr) (lo : hb.next ≤ kb) {Q : AVal → AHeap → Prop} {n : Nat}
    (hn : ∀ G, Fld I hb h G kr kb (pNum s).2 [a0, .int .i64 (pNum s).1, a2, a3, a4, a5] → Res ((f50.J I (AM.lim ⟨P, I, genF P Sh.prims⟩) (n)).1.2.2.2 (.ptr (.own kr) 0) v2 v3 v4 (.ptr (.own kb) 0) (.sl (.own kp) 0 5 (.known 5)) (Z 5) (Z 2) G) Q) :
    Res ((f50.J I (AM.lim ⟨P, I, genF P Sh.prims⟩) (n + 3)).1.2.2.2 (.ptr (.own kr) 0) v2 v3 v4 (.ptr (.own kb) 0) (.sl (.own kp) 0 5 (.known 5)) (Z 5) (Z 1) h) Q := by
  obtain ⟨g, c1, o1, R1⟩ := rNumG R ok
  have hn := hn _ (Fld.of o1 R1 n1 lo _)
  have q1 := (o1.2 kb n1).trans hk
  have hw := wrap_in (n := 1 + 1) ⟨by omega, by omega⟩
  have hw' : IntKind.i64.wrap 2 = 2 := wrap_in ⟨by omega, by omega⟩
  have hz : pIndexAddr 1 (.sl (.own kp) 0 5 (.known 5)) (Z 1) = some (.ptr (.own kp) 1) := rfl
  clear R R1 o1 ok
  rw [f50.n5]; unfold f50.b5
  simp (disch := first | exact D.go | fail) [setR, List.getElem?_cons_zero, List.getElem?_cons_succ, f50.n6, f50.b6, f50.n7, f50.b7, hp, hz, c1, q1, hw, hw']
  exact hn
theorem rI2 {hb h : AHeap} {kr kb kp : Nat} {s : Rd} (R : RdS I hb h kr s) (ok : RdOk s) {a0 a1 a2 a3 a4 a5 v2 v3 v4 : AVal} (hk : h.get kb = some ⟨[a0, a1, a2, a3, a4, a5], true⟩) (hp : h.get kp = some ⟨[.ptr (.own kb) 0, .ptr (.own kb) 1, .ptr (.own kb) 2, .ptr (.own kb) 3, .ptr (.own kb) 4], true⟩) (n1 : kb ≠ kr) (n2 : kp ≠ kr) (lo : hb.next ≤ kb) {Q : AVal → AHeap → Prop} {n : Nat}
    (hn : ∀ G, Fld I hb h G kr kb (pNum s).2 [a0, a1, .int .i64 (pNum s).1, a3, a4, a5] → Res ((f50.J I (AM.lim ⟨P, I, genF P Sh.prims⟩) (n)).1.2.2.2 (.ptr (.own kr) 0) v2 v3 v4 (.ptr (.own kb) 0) (.sl (.own kp) 0 5 (.known 5)) (Z 5) (Z 3) G) Q) :
    Res ((f50.J I (AM.lim ⟨P, I, genF P Sh.prims⟩) (n + 3)).1.2.2.2 (.ptr (.own kr) 0) v2 v3 v4 (.ptr (.own kb) 0) (.sl (.own kp) 0 5 (.known 5)) (Z 5) (Z 2) h) Q := by
  obtain ⟨g, c1, o1, R1⟩ := rNumG R ok
  have hn := hn _ (Fld.of o1 R1 n1 lo _)
  have q1 := (o1.2 kb n1).trans hk
  have hw := wrap_in (n := 2 + 1) ⟨by omega, by omega⟩
  have hw' : IntKind.i64.wrap 3 = 3 := wrap_in ⟨by omega, by omega⟩
  have hz : pIndexAddr 1 (.sl (.own kp) 0 5 (.known 5)) (Z 2) = some (.ptr (.own kp) 2) := rfl
  clear R R1 o1 ok
  rw [f50.n5]; unfold f50.b5
  simp (disch := first | exact D.go | fail) [setR, List.getElem?_cons_zero, List.getElem?_cons_succ, f50.n6, f50.b6, f50.n7, f50.b7, hp, hz, c1, q1, hw, hw']
  exact hn
theorem rI3 {hb h : AHeap} {kr kb kp : Nat} {s : Rd} (R : RdS I hb h kr s) (ok : RdOk s) {a0 a1 a2 a3 a4 a5 v2 v3 v4 : AVal} (hk : h.get kb = some ⟨[a0, a1, a2, a3, a4, a5], true⟩) (hp : h.get kp = some ⟨[.ptr (.own kb) 0, .ptr (.own kb) 1, .ptr (.own kb) 2, .ptr (.own kb) 3, .ptr (.own kb) 4], true⟩) (n1 : kb ≠ kr) (n2 : kp ≠ kr) (lo : hb.next ≤ kb) {Q : AVal → AHeap → Prop} {n : Nat}
    (hn : ∀ G, Fld I hb h G kr kb (pNum s).2 [a0, a1, a2, .int .i64 (pNum s).1, a4, a5] → Res ((f50.J I (AM.lim ⟨P, I, genF P Sh.prims⟩) (n)).1.2.2.2 (.ptr (.own kr) 0) v2 v3 v4 (.ptr (.own kb) 0) (.sl (.own kp) 0 5 (.known 5)) (Z 5) (Z 4) G) Q) :
    Res ((f50.J I (AM.lim ⟨P, I, genF P Sh.prims⟩) (n + 3)).1.2.2.2 (.ptr (.own kr) 0) v2 v3 v4 (.ptr (.own kb) 0) (.sl (.own kp) 0 5 (.known 5)) (Z 5) (Z 3) h) Q := by
  obtain ⟨g, c1, o1, R1⟩ := rNumG R ok
  have hn := hn _ (Fld.of o1 R1 n1 lo _)
  have q1 := (o1.2 kb n1).trans hk
  have hw := wrap_in (n := 3 + 1) ⟨by omega, by omega⟩
  have hw' : IntKind.i64.wrap 4 = 4 := wrap_in ⟨by omega, by omega⟩
  have hz : pIndexAddr 1 (.sl (.own kp) 0 5 (.known 5)) (Z 3) = some (.ptr (.own kp) 3) := rfl
  clear R R1 o1 ok
  rw [f50.n5]; unfold f50.b5
  simp (disch := first | exact D.go | fail) [setR, List.getElem?_cons_zero, List.getElem?_cons_succ, f50.n6, f50.b6, f50.n7, f50.b7, hp, hz, c1, q1, hw, hw']
  exact hn
theorem rI4 {hb h : AHeap} {kr kb kp : Nat} {s : Rd} (R : RdS I hb h kr s) (ok : RdOk s) {a0 a1 a2 a3 a4 a5 v2 v3 v4 : AVal} (hk : h.get kb = some ⟨[a0, a1, a2, a3, a4, a5], true⟩) (hp : h.get kp = some ⟨[.ptr (.own kb) 0, .ptr (.own kb) 1, .ptr (.own kb) 2, .ptr (.own kb) 3, .ptr (.own kb) 4], true⟩) (n1 : kb ≠ kr) (n2 : kp ≠ kr) (lo : hb.next ≤ kb) {Q : AVal → AHeap → Prop} {n : Nat}
    (hn : ∀ G, Fld I hb h G kr kb (pNum s).2 [a0, a1, a2, a3, .int .i64 (pNum s).1, a5] → Res ((f50.J I (AM.lim ⟨P, I, genF P Sh.prims⟩) (n)).1.2.2.2 (.ptr (.own kr) 0) v2 v3 v4 (.ptr (.own kb) 0) (.sl (.own kp) 0 5 (.known 5)) (Z 5) (Z 5) G) Q) :
    Res ((f50.J I (AM.lim ⟨P, I, genF P Sh.prims⟩) (n + 3)).1.2.2.2 (.ptr (.own kr) 0) v2 v3 v4 (.ptr (.own kb) 0) (.sl (.own kp) 0 5 (.known 5)) (Z 5) (Z 4) h) Q := by
  obtain ⟨g, c1, o1, R1⟩ := rNumG R ok
  have hn := hn _ (Fld.of o1 R1 n1 lo _)
  have q1 := (o1.2 kb n1).trans hk
  have hw := wrap_in (n := 4 + 1) ⟨by omega, by omega⟩
  have hw' : IntKind.i64.wrap 5 = 5 := wrap_in ⟨by omega, by omega⟩
  have hz : pIndexAddr 1 (.sl (.own kp) 0 5 (.known 5)) (Z 4) = some (.ptr (.own kp) 4) := rfl
  clear R R1 o1 ok
  rw [f50.n5]; unfold f50.b5
  simp (disch := first | exact D.go | fail) [setR, List.getElem?_cons_zero, List.getElem?_cons_succ, f50.n6, f50.b6, f50.n7, f50.b7, hp, hz, c1, q1, hw, hw']
  exact hn
theorem rB0 {hb h : AHeap} {kr kb kp : Nat} {s : Rd} (R : RdS I hb h kr s) (ok : RdOk s) {a0 a1 a2 a3 a4 v2 : AVal} (hk : h.get kb = some ⟨[a0, a1, a2, a3, a4], true⟩) (hp : h.get kp = some ⟨[.ptr (.own kb) 1, .ptr (.own kb) 2, .ptr (.own kb) 3, .ptr (.own kb) 4], true⟩) (n1 : kb ≠ kr) (n2 : kp ≠ kr) (lo : hb.next ≤ kb) {Q : AVal → AHeap → Prop} {n : Nat}
    (hn : ∀ G, Fld I hb h G kr kb (pNum s).2 [a0, .int .i64 (pNum s).1, a2, a3, a4] → Res ((f50.J I (AM.lim ⟨P, I, genF P Sh.prims⟩) (n)).2.2.1 (.ptr (.own kr) 0) v2 (.ptr (.own kb) 0) (.sl (.own kp) 0 4 (.known 4)) (Z 4) (Z 1) G) Q) :
    Res ((f50.J I (AM.lim ⟨P, I, genF P Sh.prims⟩) (n + 3)).2.2.1 (.ptr (.own kr) 0) v2 (.ptr (.own kb) 0) (.sl (.own kp) 0 4 (.known 4)) (Z 4) (Z 0) h) Q := by
  obtain ⟨g, c1, o1, R1⟩ := rNumG R ok
  have hn := hn _ (Fld.of o1 R1 n1 lo _)
  have q1 := (o1.2 kb n1).trans hk
  have hw := wrap_in (n := 0 + 1) ⟨by omega, by omega⟩
  have hw' : IntKind.i64.wrap 1 = 1 := wrap_in ⟨by omega, by omega⟩
  have hz : pIndexAddr 1 (.sl (.own kp) 0 4 (.known 4)) (Z 0) = some (.ptr (.own kp) 0) := rfl
  clear R R1 o1 ok
  rw [f50.n9]; unfold f50.b9
  simp (disch := first | exact D.go | fail) [setR, List.getElem?_cons_zero, List.getElem?_cons_succ, f50.n10, f50.b10, f50.n11, f50.b11, hp, hz, c1, q1, hw, hw']
  exact hn
theorem rB1 {hb h : AHeap} {kr kb kp : Nat} {s : Rd} (R : RdS I hb h kr s) (ok : RdOk s) {a0 a1 a2 a3 a4 v2 : AVal} (hk : h.get kb = some ⟨[a0, a1, a2, a3, a4], true⟩) (hp : h.get kp = some ⟨[.ptr (.own kb) 1, .ptr (.own kb) 2, .ptr (.own kb) 3, .ptr (.own kb) 4], true⟩) (n1 : kb ≠ kr) (n2 : kp ≠ kr) (lo : hb.next ≤ kb) {Q : AVal → AHeap → Prop} {n : Nat}
    (hn : ∀ G, Fld I hb h G kr kb (pNum s).2 [a0, a1, .int .i64 (pNum s).1, a3, a4] → Res ((f50.J I (AM.lim ⟨P, I, genF P Sh.prims⟩) (n)).2.2.1 (.ptr (.own kr) 0) v2 (.ptr (.own kb) 0) (.sl (.own kp) 0 4 (.known 4)) (Z 4) (Z 2) G) Q) :
    Res ((f50.J I (AM.lim ⟨P, I, genF P Sh.prims⟩) (n + 3)).2.2.1 (.ptr (.own kr) 0) v2 (.ptr (.own kb) 0) (.sl (.own kp) 0 4 (.known 4)) (Z 4) (Z 1) h) Q := by
  obtain ⟨g, c1, o1, R1⟩ := rNumG R ok
  have hn := hn _ (Fld.of o1 R1 n1 lo _)
  have q1 := (o1.2 kb n1).trans hk
  have hw := wrap_in (n := 1 + 1) ⟨by omega, by omega⟩
  have hw' : IntKind.i64.wrap 2 = 2 := wrap_in ⟨by omega, by omega⟩
  have hz : pIndexAddr 1 (.sl (.own kp) 0 4 (.known 4)) (Z 1) = some (.ptr (.own kp) 1) := rfl
  clear R R1 o1 ok
  rw [f50.n9]; unfold f50.b9
  simp (disch := first | exact D.go | fail) [setR, List.getElem?_cons_zero, List.getElem?_cons_succ, f50.n10, f50.b10, f50.n11, f50.b11, hp, hz, c1, q1, hw, hw']
  exact hn
theorem rB2 {hb h : AHeap} {kr kb kp : Nat} {s : Rd} (R : RdS I hb h kr s) (ok : RdOk s) {a0 a1 a2 a3 a4 v2 : AVal} (hk : h.get kb = some ⟨[a0, a1, a2, a3, a4], true⟩) (hp : h.get kp = some ⟨[.ptr (.own kb) 1, .ptr (.own kb) 2, .ptr (.own kb) 3, .ptr (.own kb) 4], true⟩) (n1 : kb ≠ kr) (n2 : kp ≠ kr) (lo : hb.next ≤ kb) {Q : AVal → AHeap → Prop} {n : Nat}
    (hn : ∀ G, Fld I hb h G kr kb (pNum s).2 [a0, a1, a2, .int .i64 (pNum s).1, a4] → Res ((f50.J I (AM.lim ⟨P, I, genF P Sh.prims⟩) (n)).2.2.1 (.ptr (.own kr) 0) v2 (.ptr (.own kb) 0) (.sl (.own kp) 0 4 (.known 4)) (Z 4) (Z 3) G) Q) :
    Res ((f50.J I (AM.lim ⟨P, I, genF P Sh.prims⟩) (n + 3)).2.2.1 (.ptr (.own kr) 0) v2 (.ptr (.own kb) 0) (.sl (.own kp) 0 4 (.known 4)) (Z 4) (Z 2) h) Q := by
  obtain ⟨g, c1, o1, R1⟩ := rNumG R ok
  have hn := hn _ (Fld.of o1 R1 n1 lo _)
  have q1 := (o1.2 kb n1).trans hk
  have hw := wrap_in (n := 2 + 1) ⟨by omega, by omega⟩
  have hw' : IntKind.i64.wrap 3 = 3 := wrap_in ⟨by omega, by omega⟩
  have hz : pIndexAddr 1 (.sl (.own kp) 0 4 (.known 4)) (Z 2) = some (.ptr (.own kp) 2) := rfl
  clear R R1 o1 ok
  rw [f50.n9]; unfold f50.b9
  simp (disch := first | exact D.go | fail) [setR, List.getElem?_cons_zero, List.getElem?_cons_succ, f50.n10, f50.b10, f50.n11, f50.b11, hp, hz, c1, q1, hw, hw']
  exact hn
theorem rB3 {hb h : AHeap} {kr kb kp : Nat} {s : Rd} (R : RdS I hb h kr s) (ok : RdOk s) {a0 a1 a2 a3 a4 v2 : AVal} (hk : h.get kb = some ⟨[a0, a1, a2, a3, a4], true⟩) (hp : h.get kp = some ⟨[.ptr (.own kb) 1, .ptr (.own kb) 2, .ptr (.own kb) 3, .ptr (.own kb) 4], true⟩) (n1 : kb ≠ kr) (n2 : kp ≠ kr) (lo : hb.next ≤ kb) {Q : AVal → AHeap → Prop} {n : Nat}
    (hn : ∀ G, Fld I hb h G kr kb (pNum s).2 [a0, a1, a2, a3, .int .i64 (pNum s).1] → Res ((f50.J I (AM.lim ⟨P, I, genF P Sh.prims⟩) (n)).2.2.1 (.ptr (.own kr) 0) v2 (.ptr (.own kb) 0) (.sl (.own kp) 0 4 (.known 4)) (Z 4) (Z 4) G) Q) :
    Res ((f50.J I (AM.lim ⟨P, I, genF P Sh.prims⟩) (n + 3)).2.2.1 (.ptr (.own kr) 0) v2 (.ptr (.own kb) 0) (.sl (.own kp) 0 4 (.known 4)) (Z 4) (Z 3) h) Q := by
  obtain ⟨g, c1, o1, R1⟩ := rNumG R ok
  have hn := hn _ (Fld.of o1 R1 n1 lo _)
  have q1 := (o1.2 kb n1).trans hk
  have hw := wrap_in (n := 3 + 1) ⟨by omega, by omega⟩
  have hw' : IntKind.i64.wrap 4 = 4 := wrap_in ⟨by omega, by omega⟩
  have hz : pIndexAddr 1 (.sl (.own kp) 0 4 (.known 4)) (Z 3) = some (.ptr (.own kp) 3) := rfl
  clear R R1 o1 ok
  rw [f50.n9]; unfold f50.b9
  simp (disch := first | exact D.go | fail) [setR, List.getElem?_cons_zero, List.getElem?_cons_succ, f50.n10, f50.b10, f50.n11, f50.b11, hp, hz, c1, q1, hw, hw']
  exact hn
end
end
end Go.Proofs.YtncjcnipagdmlaaDoor.Tx

set_option linter.unusedSimpArgs false
set_option linter.unusedVariables false
namespace Go.Proofs.YtncjcnipagdmlaaDoor.Tx
noncomputable section
open Go.AM Go.Proofs.YtncjcnipagdmlaaDoor.Sf
section
variable {I : Inp} {h0 : AHeap} {α : Type}
/-! a block, read -/
/-- What the reading of a struct comes to. -/
def RdK (I : Inp) (C : AHeap → List AVal → α → Prop) (sz : Nat) (hb h : AHeap) (kr : Nat) (x : α × Rd) : AVal → AHeap → Prop := fun u g =>
  RdS I hb g kr x.2 ∧ RKeep kr h g ∧ ∃ cs F, u = .agg cs ∧ cs.length = sz ∧ cs.all AVal.one = true ∧ It hb g F (fun g' => C g' cs x.1) ∧ ∀ m, F m → h.next ≤ m
theorem SlOf.all1 {sz : Nat} {R : AM.Loc → Nat → α → Prop} {v : AVal} {xs : List α} (s : SlOf sz R v xs) : v.one = true ∧ v.cells = [v] := ⟨s.one, s.cells⟩
theorem rBlkLG {hb h00 : AHeap} {kr kb kq : Nat} (hkb : kb < h00.next) (lob : hb.next ≤ kb) (nbr : kb ≠ kr) {Q : AVal → AHeap → Prop} {out : List Ins × Rd}
    (hT : ∀ F u g, LpS I (fun g => InsC I g) 6 hb h00 g kr kb F u out.1 out.2 → g.get kb = some ⟨[u, Z 0, Z 0, Z 0, Z 0], true⟩ → ∀ m, 20 ≤ m → Res ((f50.J I (AM.lim ⟨P, I, genF P Sh.prims⟩) (m)).1.1.1 (.ptr (.own kr) 0) (.ptr (.own kq) 0) (.ptr (.own kb) 0) g) Q) :
    ∀ (n : Nat) (acc : List Ins) (v : AVal) (s : Rd) (F : Nat → Prop) (h : AHeap), LpS I (fun g => InsC I g) 6 hb h00 h kr kb F v acc s → RdOk s → acc.length + n ≤ 10000000 → h.get kb = some ⟨[v, Z 0, Z 0, Z 0, Z 0], true⟩ → (acc ++ (pRep pIns n s).1, (pRep pIns n s).2) = out →
    ∀ N, 20 * n + 24 ≤ N → Res ((f50.J I (AM.lim ⟨P, I, genF P Sh.prims⟩) (N)).1.1.2.1 (.ptr (.own kr) 0) (.ptr (.own kq) 0) (.ptr (.own kb) 0) (.int .i64 (n : Int)) h) Q := by
  intro n
  induction n with
  | zero =>
    intro acc v s F h L ok hl hkv ho N hN
    obtain ⟨n, rfl⟩ : ∃ n, N = n + 1 := ⟨N - 1, by omega⟩
    rw [pRep_zero, List.append_nil] at ho
    have hq := hT F v h (by rw [← ho]; exact L) hkv n (by omega)
    clear hT L
    rw [f50.n1]; unfold f50.b1
    simp (disch := first | exact D.go | fail) [setR, List.getElem?_cons_zero, List.getElem?_cons_succ]
    exact hq
  | succ k ih =>
    intro acc v s F h L ok hl hkv ho N hN
    obtain ⟨v0, hk0, _⟩ := L.rd.at_
    have hpos : (0 : Int) < ((k + 1 : Nat) : Int) := by omega
    cases s with
    | none =>
      obtain ⟨n, rfl⟩ : ∃ n, N = n + 1 := ⟨N - 1, by omega⟩
      rw [pRep_none, List.append_nil] at ho
      have hq := hT F v h (by rw [← ho]; exact L) hkv n (by omega)
      simp only [Option.isNone_none] at hk0
      generalize ((k + 1 : Nat) : Int) = L' at *
      clear hT L ih
      rw [f50.n1]; unfold f50.b1
      simp (disch := first | exact D.go | fail) [setR, List.getElem?_cons_zero, List.getElem?_cons_succ, hpos, hk0]
      exact hq
    | some t =>
      obtain ⟨n, rfl⟩ : ∃ n, N = n + 20 := ⟨N - 20, by omega⟩
      have hkr := L.kr
      have hlo := L.lo
      have hbl := L.rd.ext.lo
      have hkrl := L.rd.lo
      obtain ⟨H, hH⟩ : ∃ H, H = ((h.alloc ⟨[Z 0, Z 0, Z 0, Z 0, Z 0, .nils], true⟩).set h.next ⟨[Z 0, Z 0, Z 0, Z 0, Z 0, .nils], true⟩).alloc ⟨[.ptr (.own h.next) 0, .ptr (.own h.next) 1, .ptr (.own h.next) 2, .ptr (.own h.next) 3, .ptr (.own h.next) 4], true⟩ := ⟨_, rfl⟩
      have hHn : H.next = h.next + 2 := by rw [hH]; simp
      have hHo : ∀ m, m < h.next → H.get m = h.get m := fun m hm => by rw [hH, AHeap.alloc_ne (Nb.o (by simp; omega)), AHeap.set_ne (Nb.o (by omega)), AHeap.alloc_ne (Nb.o (by omega))]
      have hH5 : H.get h.next = some ⟨[Z 0, Z 0, Z 0, Z 0, Z 0, .nils], true⟩ := by rw [hH, AHeap.alloc_ne (Nb.o (by simp)), AHeap.set_at (Nb.o rfl)]
      have hHp : H.get (h.next + 1) = some ⟨[.ptr (.own h.next) 0, .ptr (.own h.next) 1, .ptr (.own h.next) 2, .ptr (.own h.next) 3, .ptr (.own h.next) 4], true⟩ := by rw [hH]; exact AHeap.alloc_at (Nb.o (by simp))
      have R0 : RdS I hb H kr (some t) := L.rd.mono (by omega) (hHo kr (by omega)) ⟨by omega, fun m hm => (hHo m (by omega)).trans (L.rd.ext.same m hm)⟩
      -- the five numbers
      have stage : Res ((f50.J I (AM.lim ⟨P, I, genF P Sh.prims⟩) (n + 18)).1.2.2.2 (.ptr (.own kr) 0) (.ptr (.own kq) 0) (.ptr (.own kb) 0) (.int .i64 ((k + 1 : Nat) : Int)) (.ptr (.own h.next) 0) (.sl (.own (h.next + 1)) 0 5 (.known 5)) (Z 5) (Z 0) H) Q := by
        have n1 : h.next ≠ kr := by omega
        have n2 : h.next + 1 ≠ kr := by omega
        have lo5 : hb.next ≤ h.next := by omega
        have k0 := (peNum.fits _ ok).2.1
        refine rI0 (n := n + 15) R0 ok hH5 hHp n1 n2 lo5 fun G1 f1 => ?_
        have p1 := (f1.keep (h.next + 1) n2 (by omega)).trans hHp
        have k1 := (peNum.fits _ k0).2.1
        refine rI1 (n := n + 12) f1.rd k0 f1.at_ p1 n1 n2 lo5 fun G2 f2 => ?_
        have p2 := (f2.keep (h.next + 1) n2 (by omega)).trans p1
        have k2 := (peNum.fits _ k1).2.1
        refine rI2 (n := n + 9) f2.rd k1 f2.at_ p2 n1 n2 lo5 fun G3 f3 => ?_
        have p3 := (f3.keep (h.next + 1) n2 (by omega)).trans p2
        have k3 := (peNum.fits _ k2).2.1
        refine rI3 (n := n + 6) f3.rd k2 f3.at_ p3 n1 n2 lo5 fun G4 f4 => ?_
        have p4 := (f4.keep (h.next + 1) n2 (by omega)).trans p3
        have k4 := (peNum.fits _ k3).2.1
        refine rI4 (n := n + 3) f4.rd k3 f4.at_ p4 n1 n2 lo5 fun G5 f5 => ?_
        obtain ⟨u, g6, c6, R6, K6, F6, it6, y6⟩ := rNumsG f5.rd k4
        have d0 := (peNum.fits _ ok).1
        have d1 := (peNum.fits _ k0).1
        have d2 := (peNum.fits _ k1).1
        have d3 := (peNum.fits _ k2).1
        have d4 := (peNum.fits _ k3).1
        have k5 := (peNums.fits _ k4).2.1
        have hx : pIns (some t) = (⟨(pNum (some t)).1, (pNum (pNum (some t)).2).1, (pNum (pNum (pNum (some t)).2).2).1, (pNum (pNum (pNum (pNum (some t)).2).2).2).1, (pNum (pNum (pNum (pNum (pNum (some t)).2).2).2).2).1, (pNums (pNum (pNum (pNum (pNum (pNum (some t)).2).2).2).2).2).1⟩, (pNums (pNum (pNum (pNum (pNum (pNum (some t)).2).2).2).2).2).2) := rfl
        have hrep : (pRep pIns (k + 1) (some t)) = ((pIns (some t)).1 :: (pRep pIns k (pIns (some t)).2).1, (pRep pIns k (pIns (some t)).2).2) := rfl
        rw [hrep] at ho
        rw [hx] at ho
        generalize pNums (pNum (pNum (pNum (pNum (pNum (some t)).2).2).2).2).2 = y at *
        generalize (pNum (pNum (pNum (pNum (pNum (some t)).2).2).2).2) = x4 at *
        generalize (pNum (pNum (pNum (pNum (some t)).2).2).2) = x3 at *
        generalize (pNum (pNum (pNum (some t)).2).2) = x2 at *
        generalize (pNum (pNum (some t)).2) = x1 at *
        generalize pNum (some t) = x0 at *
        have hG5n : G5.next = h.next + 2 := by rw [f5.next, f4.next, f3.next, f2.next, f1.next, hHn]
        have hG5o : ∀ m, m < h.next → m ≠ kr → G5.get m = h.get m := fun m hm hne => by
          rw [f5.keep m hne (by omega), f4.keep m hne (by omega), f3.keep m hne (by omega), f2.keep m hne (by omega), f1.keep m hne (by omega), hHo m hm]
        have uo := SlOf.all1 (it6.now)
        have q6 : g6.get h.next = _ := (K6.2 h.next (by omega) n1).trans f5.at_
        obtain ⟨g7, hg7⟩ : ∃ g7, g7 = g6.set h.next ⟨[.int .i64 x0.1, .int .i64 x1.1, .int .i64 x2.1, .int .i64 x3.1, .int .i64 x4.1, u], true⟩ := ⟨_, rfl⟩
        have hg7n : g7.next = g6.next := by rw [hg7]; simp
        have hg7o : ∀ m, m ≠ h.next → g7.get m = g6.get m := fun m hm => by rw [hg7, AHeap.set_ne (Nb.o hm)]
        have q7 : g7.get h.next = some ⟨[.int .i64 x0.1, .int .i64 x1.1, .int .i64 x2.1, .int .i64 x3.1, .int .i64 x4.1, u], true⟩ := by rw [hg7]; exact AHeap.set_at (Nb.o rfl)
        have K6n := K6.1
        have K7 : RKeep kr h g7 := ⟨by omega, fun m hm hne => by rw [hg7o m (by omega), K6.2 m (by omega) hne, hG5o m hm hne]⟩
        have R7 : RdS I hb g7 kr y.2 := R6.mono (by omega) (hg7o kr (by omega)) ⟨by have := R6.ext.lo; omega, fun m hm => (hg7o m (by omega)).trans (R6.ext.same m hm)⟩
        have it7 : It hb g7 F6 fun g' => InsC I g' [.int .i64 x0.1, .int .i64 x1.1, .int .i64 x2.1, .int .i64 x3.1, .int .i64 x4.1, u] ⟨x0.1, x1.1, x2.1, x3.1, x4.1, y.1⟩ := by
          have i7 := it6.keep (g' := g7) (by omega) fun m hm => hg7o m (by have := y6 m hm; omega)
          exact ⟨i7.lo, fun g' a b => ⟨u, rfl, i7.ok g' a b, d0, d1, d2, d3, d4⟩⟩
        obtain ⟨w, G, e1, L1, w1, w2, kG, _⟩ := L.step (I := I) (by omega) R7 K7 it7 rfl (by simp [uo.1]) (fun m hm => by have := y6 m hm; omega) (bytes := 64) (by omega) (by omega)
        have kbk : g7.get kb = some ⟨[v, Z 0, Z 0, Z 0, Z 0], true⟩ := (K7.2 kb (by omega) nbr).trans hkv
        have kbG : G.get kb = some ⟨[v, Z 0, Z 0, Z 0, Z 0], true⟩ := (kG kb hkb).trans kbk
        have kb6 : (g6.set h.next ⟨[.int .i64 x0.1, .int .i64 x1.1, .int .i64 x2.1, .int .i64 x3.1, .int .i64 x4.1, u], true⟩).get kb = some ⟨[v, Z 0, Z 0, Z 0, Z 0], true⟩ := by rw [← hg7]; exact kbk
        have q7' : (g6.set h.next ⟨[.int .i64 x0.1, .int .i64 x1.1, .int .i64 x2.1, .int .i64 x3.1, .int .i64 x4.1, u], true⟩).get h.next = some ⟨[.int .i64 x0.1, .int .i64 x1.1, .int .i64 x2.1, .int .i64 x3.1, .int .i64 x4.1, u], true⟩ := AHeap.set_at (Nb.o rfl)
        have hi2 := ih _ w y.2 _ (G.set kb ⟨[w, Z 0, Z 0, Z 0, Z 0], true⟩) (L1.set hkb lob nbr _) k5 (by simp only [List.length_append, List.length_cons, List.length_nil]; omega) (AHeap.set_at (Nb.o rfl)) (by rw [← ho]; simp) n (by omega)
        have hw : IntKind.i64.wrap (((k + 1 : Nat) : Int) - 1) = (k : Int) := by rw [wrap_in ⟨by omega, by omega⟩]; omega
        have e1' : sAppend I 6 64 v (.sl (.own g6.next) 0 1 (.known 1)) ((g6.set h.next ⟨[.int .i64 x0.1, .int .i64 x1.1, .int .i64 x2.1, .int .i64 x3.1, .int .i64 x4.1, u], true⟩).alloc ⟨[.int .i64 x0.1, .int .i64 x1.1, .int .i64 x2.1, .int .i64 x3.1, .int .i64 x4.1, u], true⟩) = some (w, G) := by rw [← hg7, ← hg7n]; exact e1
        have uo1 := uo.1
        have uo2 := uo.2
        generalize ((k + 1 : Nat) : Int) = L' at *
        clear hT ih L R0 R6 R7 L1 K6 K7 it6 it7 f1 f2 f3 f4 f5 hg7o hHo hG5o kG d0 d1 d2 d3 d4 k0 k1 k2 k3 k4 k5 ok e1 hg7 hH ho hx hrep y6 uo
        rw [f50.n5]; unfold f50.b5
        simp (disch := first | exact D.go | fail) [setR, List.getElem?_cons_zero, List.getElem?_cons_succ, f50.n4, f50.b4, f50.n3, f50.b3, c6, q6, uo1, uo2, kb6, q7', e1', kbG, w1, w2, hw]
        exact hi2
      simp only [Option.isNone_some] at hk0
      have z6 : (AVal.agg [Z 0, Z 0, Z 0, Z 0, Z 0, .nils]).cells = [Z 0, Z 0, Z 0, Z 0, Z 0, .nils] := rfl
      rw [hH] at stage
      generalize ((k + 1 : Nat) : Int) = L' at *
      clear hT L ih R0 hHo hH5 hHp hH ho ok
      rw [f50.n1]; unfold f50.b1
      simp (disch := first | exact D.go | fail) [setR, List.getElem?_cons_zero, List.getElem?_cons_succ, hpos, hk0, f50.n2, f50.b2, z6]
      exact stage
end
end
end Go.Proofs.YtncjcnipagdmlaaDoor.Tx

set_option linter.unusedSimpArgs false
set_option linter.unusedVariables false
namespace Go.Proofs.YtncjcnipagdmlaaDoor.Tx
noncomputable section
open Go.AM Go.Proofs.YtncjcnipagdmlaaDoor.Sf
section
variable {I : Inp} {h0 : AHeap} {α : Type}
/-- A block is read, or not. -/
theorem rBlkG {hb h : AHeap} {kr : Nat} {s : Rd} (R : RdS I hb h kr s) (ok : RdOk s) : Res ((AM.lim ⟨P, I, genF P Sh.prims⟩) 50 [.ptr (.own kr) 0] h) (RdK I (BkC I) 5 hb h kr (pBk s)) := by
  obtain ⟨H, hH⟩ : ∃ H, H = ((h.alloc ⟨[.nils, Z 0, Z 0, Z 0, Z 0], true⟩).alloc ⟨[.nils, Z 0, Z 0, Z 0, Z 0], true⟩).set (h.next + 1) ⟨[.nils, Z 0, Z 0, Z 0, Z 0], true⟩ := ⟨_, rfl⟩
  have hHn : H.next = h.next + 2 := by rw [hH]; simp
  have hHo : ∀ m, m < h.next → H.get m = h.get m := fun m hm => by rw [hH, AHeap.set_ne (Nb.o (by omega)), AHeap.alloc_ne (Nb.o (by simp; omega)), AHeap.alloc_ne (Nb.o (by omega))]
  have hHb : H.get (h.next + 1) = some ⟨[.nils, Z 0, Z 0, Z 0, Z 0], true⟩ := by rw [hH]; exact AHeap.set_at (Nb.o rfl)
  have hHq : H.get h.next = some ⟨[.nils, Z 0, Z 0, Z 0, Z 0], true⟩ := by rw [hH, AHeap.set_ne (Nb.o (by omega)), AHeap.alloc_ne (Nb.o (by simp))]; exact AHeap.alloc_at (Nb.o rfl)
  have hkr := R.hi
  have hbl := R.ext.lo
  have hkrl := R.lo
  have R0 : RdS I hb H kr s := R.mono (by omega) (hHo kr hkr) ⟨by omega, fun m hm => (hHo m (by omega)).trans (R.ext.same m hm)⟩
  obtain ⟨g1, c1, o1, R1⟩ := rSizeG R0 ok
  obtain ⟨z1, z2, _⟩ := pSize_fits s ok
  have hle := pList_le peIns ok
  have kc := (peIns.list.fits s ok).2.1
  have main : Res ((f50.J I (AM.lim ⟨P, I, genF P Sh.prims⟩) (20 * (pSize s).1 + 24)).1.1.2.1 (.ptr (.own kr) 0) (.ptr (.own h.next) 0) (.ptr (.own (h.next + 1)) 0) (.int .i64 ((pSize s).1 : Int)) g1) (RdK I (BkC I) 5 hb h kr (pBk s)) := by
    refine rBlkLG (I := I) (h00 := H) (kb := h.next + 1) (kq := h.next) (out := pList pIns s) (by omega) (by omega) (by omega) ?_ (pSize s).1 [] .nils (pSize s).2 _ g1 (LpS.begin R1 o1) z2 (by simp; omega) ((o1.2 _ (by omega)).trans hHb) (by rw [List.nil_append]; rfl) _ (Nat.le_refl _)
    intro F u g L hub m hm
    obtain ⟨n, rfl⟩ : ∃ n, m = n + 16 := ⟨m - 16, by omega⟩
    have hlo := L.lo
    have hqg : g.get h.next = some ⟨[.nils, Z 0, Z 0, Z 0, Z 0], true⟩ := (L.keep _ (by omega) (by omega) (by omega)).trans hHq
    obtain ⟨K, hK⟩ : ∃ K, K = g.alloc ⟨[.ptr (.own (h.next + 1)) 1, .ptr (.own (h.next + 1)) 2, .ptr (.own (h.next + 1)) 3, .ptr (.own (h.next + 1)) 4], true⟩ := ⟨_, rfl⟩
    have xK : Ext g K := by rw [hK]; exact (Ext.refl g).alloc
    have hKn : K.next = g.next + 1 := by rw [hK]; simp
    have hKp : K.get g.next = some ⟨[.ptr (.own (h.next + 1)) 1, .ptr (.own (h.next + 1)) 2, .ptr (.own (h.next + 1)) 3, .ptr (.own (h.next + 1)) 4], true⟩ := by rw [hK]; exact AHeap.alloc_at (Nb.o rfl)
    have uo := L.ls.one
    have stage : Res ((f50.J I (AM.lim ⟨P, I, genF P Sh.prims⟩) (n + 15)).2.2.1 (.ptr (.own kr) 0) (.ptr (.own h.next) 0) (.ptr (.own (h.next + 1)) 0) (.sl (.own g.next) 0 4 (.known 4)) (Z 4) (Z 0) K) (RdK I (BkC I) 5 hb h kr (pBk s)) := by
      have RK : RdS I hb K kr (pList pIns s).2 := L.rd.mono xK.lo (xK.same _ (by omega)) (L.rd.ext.trans xK)
      have n1 : h.next + 1 ≠ kr := by omega
      have n2 : g.next ≠ kr := by omega
      have lo5 : hb.next ≤ h.next + 1 := by omega
      have k0 := (peNum.fits _ kc).2.1
      refine rB0 (n := n + 12) RK kc ((xK.same _ (by omega)).trans hub) hKp n1 n2 lo5 fun G1 f1 => ?_
      have p1 := (f1.keep g.next n2 (by omega)).trans hKp
      have k1 := (peNum.fits _ k0).2.1
      refine rB1 (n := n + 9) f1.rd k0 f1.at_ p1 n1 n2 lo5 fun G2 f2 => ?_
      have p2 := (f2.keep g.next n2 (by omega)).trans p1
      have k2 := (peNum.fits _ k1).2.1
      refine rB2 (n := n + 6) f2.rd k1 f2.at_ p2 n1 n2 lo5 fun G3 f3 => ?_
      have p3 := (f3.keep g.next n2 (by omega)).trans p2
      have k3 := (peNum.fits _ k2).2.1
      refine rB3 (n := n + 3) f3.rd k2 f3.at_ p3 n1 n2 lo5 fun G4 f4 => ?_
      have d0 := (peNum.fits _ kc).1
      have d1 := (peNum.fits _ k0).1
      have d2 := (peNum.fits _ k1).1
      have d3 := (peNum.fits _ k2).1
      have hx : pBk s = (⟨(pList pIns s).1, (pNum (pList pIns s).2).1, (pNum (pNum (pList pIns s).2).2).1, (pNum (pNum (pNum (pList pIns s).2).2).2).1, (pNum (pNum (pNum (pNum (pList pIns s).2).2).2).2).1⟩, (pNum (pNum (pNum (pNum (pList pIns s).2).2).2).2).2) := rfl
      rw [hx]
      generalize (pNum (pNum (pNum (pNum (pList pIns s).2).2).2).2) = x3 at *
      generalize (pNum (pNum (pNum (pList pIns s).2).2).2) = x2 at *
      generalize (pNum (pNum (pList pIns s).2).2) = x1 at *
      generalize (pNum (pList pIns s).2) = x0 at *
      have hG4n : G4.next = g.next + 1 := by rw [f4.next, f3.next, f2.next, f1.next, hKn]
      have hG4o : ∀ m, m < g.next → m ≠ kr → m ≠ h.next + 1 → G4.get m = g.get m := fun m hm hne hne' => by
        rw [f4.keep m hne hne', f3.keep m hne hne', f2.keep m hne hne', f1.keep m hne hne', xK.same m hm]
      have q4 : G4.get h.next = some ⟨[.nils, Z 0, Z 0, Z 0, Z 0], true⟩ := (hG4o _ (by omega) (by omega) (by omega)).trans hqg
      have a4 := f4.at_
      obtain ⟨G, hG⟩ : ∃ G, G = G4.set h.next ⟨[u, .int .i64 x0.1, .int .i64 x1.1, .int .i64 x2.1, .int .i64 x3.1], true⟩ := ⟨_, rfl⟩
      have hGn : G.next = g.next + 1 := by rw [hG]; simp [hG4n]
      have hGo : ∀ m, m ≠ h.next → G.get m = G4.get m := fun m hm => by rw [hG, AHeap.set_ne (Nb.o hm)]
      have itC := L.ls.sl (I := I) (by omega) hle
      have yo : ∀ m, (F m ∨ ¬ NotB u m) → h.next + 2 ≤ m := fun m hm => Nat.le_of_not_lt fun h => by
        obtain ⟨a, b⟩ := L.young m (by omega)
        rcases hm with hm | hm
        · exact b hm
        · exact hm a
      have itG := itC.keep (g' := G) (by omega) fun m hm => by
        have := yo m hm
        have := (itC.lo m hm).2
        rw [hGo m (by omega), hG4o m (by omega) (by omega) (by omega)]
      have hfin : RdK I (BkC I) 5 hb h kr (⟨(pList pIns s).1, x0.1, x1.1, x2.1, x3.1⟩, x3.2) (.agg [u, .int .i64 x0.1, .int .i64 x1.1, .int .i64 x2.1, .int .i64 x3.1]) G := by
        refine ⟨f4.rd.mono (by omega) (hGo kr (by omega)) ⟨by have := f4.rd.ext.lo; omega, fun m hm => (hGo m (by omega)).trans (f4.rd.ext.same m hm)⟩, ⟨by omega, fun m hm hne => ?_⟩, _, _, rfl, rfl, by simp [uo.1], ⟨itG.lo, fun g' a b => ⟨u, rfl, itG.ok g' a b, d0, d1, d2, d3⟩⟩, fun m hm => by have := yo m hm; omega⟩
        rw [hGo m (by omega), hG4o m (by omega) hne (by omega), L.keep m (by omega) hne (by omega), hHo m hm]
      generalize hQ : RdK I (BkC I) 5 hb h kr (⟨(pList pIns s).1, x0.1, x1.1, x2.1, x3.1⟩, x3.2) = Q at *
      rw [hG] at hfin
      have uo1 := uo.1
      have uo2 := uo.2
      clear hQ L f1 f2 f3 f4 itC itG yo hGo hG4o RK R R0 R1 d0 d1 d2 d3 k0 k1 k2 k3 kc xK hHo hG hx
      rw [f50.n9]; unfold f50.b9
      simp (disch := first | exact D.go | fail) [setR, List.getElem?_cons_zero, List.getElem?_cons_succ, f50.n8, f50.b8, a4, q4, uo1, uo2]
      exact hfin
    rw [hK] at stage
    generalize hQ : RdK I (BkC I) 5 hb h kr (pBk s) = Q at *
    clear hQ L R R0 R1 hHo xK hK hKp kc
    rw [f50.n0]; unfold f50.b0
    simp (disch := first | exact D.go | fail) [setR, List.getElem?_cons_zero, List.getElem?_cons_succ]
    exact stage
  refine f50.lim rfl (n := 20 * (pSize s).1 + 24) ?_
  unfold f50.e
  rw [hH] at c1
  have z5 : (AVal.agg [.nils, Z 0, Z 0, Z 0, Z 0]).cells = [.nils, Z 0, Z 0, Z 0, Z 0] := rfl
  generalize hQ : RdK I (BkC I) 5 hb h kr (pBk s) = Q at *
  generalize pSize s = y at *
  clear hQ R R0 R1 o1 hHo hHb hHq hH kc
  simp (disch := first | exact D.go | fail) [setR, List.getElem?_cons_zero, List.getElem?_cons_succ, c1, z5]
  exact main
end
end
end Go.Proofs.YtncjcnipagdmlaaDoor.Tx

set_option linter.unusedSimpArgs false
set_option linter.unusedVariables false
namespace Go.Proofs.YtncjcnipagdmlaaDoor.Tx
noncomputable section
open Go.AM Go.Proofs.YtncjcnipagdmlaaDoor.Sf
section
variable {I : Inp} {h0 : AHeap} {α : Type}
/-! a function, read -/
theorem rFuLG {hb h00 : AHeap} {kr kb kq : Nat} {rg : AVal} {sg : Int} (hkb : kb < h00.next) (lob : hb.next ≤ kb) (nbr : kb ≠ kr) {Q : AVal → AHeap → Prop} {out : List Bk × Rd}
    (hT : ∀ F u g, LpS I (fun g => BkC I g) 5 hb h00 g kr kb F u out.1 out.2 → g.get kb = some ⟨[.int .i64 sg, rg, u], true⟩ → ∀ m, 4 ≤ m → Res ((f44.J I (AM.lim ⟨P, I, genF P Sh.prims⟩) (m)).1.1 (.ptr (.own kq) 0) (.ptr (.own kb) 0) g) Q) :
    ∀ (n : Nat) (acc : List Bk) (v : AVal) (s : Rd) (F : Nat → Prop) (h : AHeap), LpS I (fun g => BkC I g) 5 hb h00 h kr kb F v acc s → RdOk s → acc.length + n ≤ 10000000 → h.get kb = some ⟨[.int .i64 sg, rg, v], true⟩ → (acc ++ (pRep pBk n s).1, (pRep pBk n s).2) = out →
    ∀ N, 4 * n + 8 ≤ N → Res ((f44.J I (AM.lim ⟨P, I, genF P Sh.prims⟩) (N)).1.2 (.ptr (.own kr) 0) (.ptr (.own kq) 0) (.ptr (.own kb) 0) (.int .i64 (n : Int)) h) Q := by
  intro n
  induction n with
  | zero =>
    intro acc v s F h L ok hl hkv ho N hN
    obtain ⟨n, rfl⟩ : ∃ n, N = n + 1 := ⟨N - 1, by omega⟩
    rw [pRep_zero, List.append_nil] at ho
    have hq := hT F v h (by rw [← ho]; exact L) hkv n (by omega)
    clear hT L
    rw [f44.n1]; unfold f44.b1
    simp (disch := first | exact D.go | fail) [setR, List.getElem?_cons_zero, List.getElem?_cons_succ]
    exact hq
  | succ k ih =>
    intro acc v s F h L ok hl hkv ho N hN
    obtain ⟨v0, hk0, _⟩ := L.rd.at_
    have hpos : (0 : Int) < ((k + 1 : Nat) : Int) := by omega
    cases s with
    | none =>
      obtain ⟨n, rfl⟩ : ∃ n, N = n + 1 := ⟨N - 1, by omega⟩
      rw [pRep_none, List.append_nil] at ho
      have hq := hT F v h (by rw [← ho]; exact L) hkv n (by omega)
      simp only [Option.isNone_none] at hk0
      generalize ((k + 1 : Nat) : Int) = L' at *
      clear hT L ih
      rw [f44.n1]; unfold f44.b1
      simp (disch := first | exact D.go | fail) [setR, List.getElem?_cons_zero, List.getElem?_cons_succ, hpos, hk0]
      exact hq
    | some t =>
      obtain ⟨n, rfl⟩ : ∃ n, N = n + 3 := ⟨N - 3, by omega⟩
      have hkr := L.kr
      have hlo := L.lo
      obtain ⟨u, g, c1, R1, K1, cs, Fu, rfl, lc, ac, it1, y1⟩ := rBlkG L.rd ok
      have ok1 := (peBk.fits _ ok).2.1
      obtain ⟨w, G, e1, L1, w1, w2, kG, _⟩ := L.step (I := I) (by omega) R1 K1 it1 lc ac y1 (bytes := 56) (by omega) (by omega)
      have hkv1 := (K1.2 kb (by omega) nbr).trans hkv
      have hkva : (g.alloc ⟨cs, true⟩).get kb = some ⟨[.int .i64 sg, rg, v], true⟩ := by rw [AHeap.alloc_ne (Nb.o (by have := K1.1; omega))]; exact hkv1
      have hkvG := (kG kb hkb).trans hkv1
      have vo := L.ls.one
      have vs : v.eqb v = true := by
        obtain ⟨ys, _, o, _⟩ := L.ls.rows
        rcases o with ⟨rfl, _⟩ | ⟨k, rfl, _⟩ <;> simp
      have hrep : (pRep pBk (k + 1) (some t)) = ((pBk (some t)).1 :: (pRep pBk k (pBk (some t)).2).1, (pRep pBk k (pBk (some t)).2).2) := rfl
      rw [hrep] at ho
      generalize pBk (some t) = y at *
      have hi2 := ih _ w y.2 _ (G.set kb ⟨[.int .i64 sg, rg, w], true⟩) (L1.set hkb lob nbr _) ok1 (by simp only [List.length_append, List.length_cons, List.length_nil]; omega) (AHeap.set_at (Nb.o rfl)) (by rw [← ho]; simp) n (by omega)
      have hw : IntKind.i64.wrap (((k + 1 : Nat) : Int) - 1) = (k : Int) := by rw [wrap_in ⟨by omega, by omega⟩]; omega
      simp only [Option.isNone_some] at hk0
      obtain ⟨a0, a1, a2, a3, a4, rfl⟩ : ∃ a0 a1 a2 a3 a4, cs = [a0, a1, a2, a3, a4] := by
        match cs, lc with
        | [a0, a1, a2, a3, a4], _ => exact ⟨a0, a1, a2, a3, a4, rfl⟩
      generalize ((k + 1 : Nat) : Int) = L' at *
      have vo1 := vo.1
      have vo2 := vo.2
      have z5 : (AVal.agg [a0, a1, a2, a3, a4]).cells = [a0, a1, a2, a3, a4] := rfl
      clear hT ih L R1 L1 K1 it1 kG ho hrep y1 ok ok1 vo
      rw [f44.n1]; unfold f44.b1
      simp (disch := first | exact D.go | fail) [setR, List.getElem?_cons_zero, List.getElem?_cons_succ, hpos, hk0, f44.n2, f44.b2, f44.n3, f44.b3, hkv, hkv1, hkva, hkvG, c1, e1, w1, w2, vo1, vo2, vs, hw, z5]
      exact hi2
/-- A function is read, or not. -/
theorem rFuG {hb h : AHeap} {kr : Nat} {s : Rd} (R : RdS I hb h kr s) (ok : RdOk s) : Res ((AM.lim ⟨P, I, genF P Sh.prims⟩) 44 [.ptr (.own kr) 0] h) (RdK I (FuC I) 3 hb h kr (pFu s)) := by
  have hkr := R.hi
  have hbl := R.ext.lo
  have hkrl := R.lo
  obtain ⟨A, hA⟩ : ∃ A, A = h.alloc ⟨[Z 0, .nils, .nils], true⟩ := ⟨_, rfl⟩
  have xA : Ext h A := by rw [hA]; exact (Ext.refl h).alloc
  have hAn : A.next = h.next + 1 := by rw [hA]; simp
  have hAq : A.get h.next = some ⟨[Z 0, .nils, .nils], true⟩ := by rw [hA]; exact AHeap.alloc_at (Nb.o rfl)
  have RA : RdS I hb A kr s := R.mono xA.lo (xA.same _ hkr) (R.ext.trans xA)
  obtain ⟨g1, c1, o1, R1⟩ := rNumG RA ok
  have k1 := (peNum.fits _ ok).2.1
  have d1 := (peNum.fits _ ok).1
  have hg1n : g1.next = h.next + 1 := by rw [o1.1, hAn]
  obtain ⟨B, hB⟩ : ∃ B, B = (g1.alloc ⟨[Z 0, .nils, .nils], true⟩).set (h.next + 1) ⟨[.int .i64 (pNum s).1, .nils, .nils], true⟩ := ⟨_, rfl⟩
  have hBn : B.next = h.next + 2 := by rw [hB]; simp [hg1n]
  have hBo : ∀ m, m < h.next + 1 → B.get m = g1.get m := fun m hm => by rw [hB, AHeap.set_ne (Nb.o (by omega)), AHeap.alloc_ne (Nb.o (by omega))]
  have hBb : B.get (h.next + 1) = some ⟨[.int .i64 (pNum s).1, .nils, .nils], true⟩ := by rw [hB]; exact AHeap.set_at (Nb.o rfl)
  have RB : RdS I hb B kr (pNum s).2 := R1.mono (by omega) (hBo kr (by omega)) ⟨by omega, fun m hm => (hBo m (by omega)).trans (R1.ext.same m hm)⟩
  obtain ⟨rg, g2, c2, R2, K2, Fr, itr, yr⟩ := rTypsG RB k1
  have k2 := (peTypes.fits _ k1).2.1
  have K2n := K2.1
  have ro := SlOf.all1 itr.now
  have q2 := (K2.2 (h.next + 1) (by omega) (by omega)).trans hBb
  obtain ⟨D, hD⟩ : ∃ D, D = g2.set (h.next + 1) ⟨[.int .i64 (pNum s).1, rg, .nils], true⟩ := ⟨_, rfl⟩
  have hDn : D.next = g2.next := by rw [hD]; simp
  have hDo : ∀ m, m ≠ h.next + 1 → D.get m = g2.get m := fun m hm => by rw [hD, AHeap.set_ne (Nb.o hm)]
  have hDb : D.get (h.next + 1) = some ⟨[.int .i64 (pNum s).1, rg, .nils], true⟩ := by rw [hD]; exact AHeap.set_at (Nb.o rfl)
  have RD : RdS I hb D kr (pTypes (pNum s).2).2 := R2.mono (by omega) (hDo kr (by omega)) ⟨by omega, fun m hm => (hDo m (by omega)).trans (R2.ext.same m hm)⟩
  obtain ⟨g3, c3, o3, R3⟩ := rSizeG RD k2
  obtain ⟨z1, z2, _⟩ := pSize_fits _ k2
  have hle := pList_le peBk k2
  have hxo : pFu s = (⟨(pNum s).1, (pTypes (pNum s).2).1, (pList pBk (pTypes (pNum s).2).2).1⟩, (pList pBk (pTypes (pNum s).2).2).2) := rfl
  have main : Res ((f44.J I (AM.lim ⟨P, I, genF P Sh.prims⟩) (4 * (pSize (pTypes (pNum s).2).2).1 + 8)).1.2 (.ptr (.own kr) 0) (.ptr (.own h.next) 0) (.ptr (.own (h.next + 1)) 0) (.int .i64 ((pSize (pTypes (pNum s).2).2).1 : Int)) g3) (RdK I (FuC I) 3 hb h kr (pFu s)) := by
    refine rFuLG (I := I) (h00 := D) (kb := h.next + 1) (kq := h.next) (rg := rg) (sg := (pNum s).1) (out := pList pBk (pTypes (pNum s).2).2) (by omega) (by omega) (by omega) ?_ _ [] .nils _ _ g3 (LpS.begin R3 o3) z2 (by simp; omega) ((o3.2 _ (by omega)).trans hDb) (by rw [List.nil_append]; rfl) _ (Nat.le_refl _)
    intro F u g L hub m hm
    obtain ⟨n, rfl⟩ : ∃ n, m = n + 1 := ⟨m - 1, by omega⟩
    have hlo := L.lo
    have hqg : g.get h.next = some ⟨[Z 0, .nils, .nils], true⟩ := (L.keep _ (by omega) (by omega) (by omega)).trans ((hDo _ (by omega)).trans ((K2.2 _ (by omega) (by omega)).trans ((hBo _ (by omega)).trans ((o1.2 _ (by omega)).trans hAq))))
    have uo := L.ls.one
    obtain ⟨G, hG⟩ : ∃ G, G = g.set h.next ⟨[.int .i64 (pNum s).1, rg, u], true⟩ := ⟨_, rfl⟩
    have hGn : G.next = g.next := by rw [hG]; simp
    have hGo : ∀ m, m ≠ h.next → G.get m = g.get m := fun m hm => by rw [hG, AHeap.set_ne (Nb.o hm)]
    have itC := L.ls.sl (I := I) (by omega) hle
    have yo : ∀ m, (F m ∨ ¬ NotB u m) → h.next + 2 ≤ m := fun m hm => Nat.le_of_not_lt fun h => by
      obtain ⟨a, b⟩ := L.young m (by omega)
      rcases hm with hm | hm
      · exact b hm
      · exact hm a
    have itG := itC.keep (g' := G) (by omega) fun m hm => by
      have := yo m hm
      rw [hGo m (by omega)]
    have itR := itr.keep (g' := G) (by omega) fun m hm => by
      have := yr m hm
      have := (itr.lo m hm).2
      rw [hGo m (by omega), L.keep m (by omega) (by omega) (by omega), hDo m (by omega)]
    have hfin : RdK I (FuC I) 3 hb h kr (pFu s) (.agg [.int .i64 (pNum s).1, rg, u]) G := by
      rw [hxo]
      refine ⟨L.rd.mono (by omega) (hGo kr (by omega)) ⟨by have := L.rd.ext.lo; omega, fun m hm => (hGo m (by omega)).trans (L.rd.ext.same m hm)⟩, ⟨by omega, fun m hm hne => ?_⟩, _, fun m => Fr m ∨ (F m ∨ ¬ NotB u m), rfl, rfl, by simp [uo.1, ro.1], ⟨fun m hm => ?_, fun g' a b => ⟨rg, u, rfl, d1, itR.ok g' a fun m hm => b m (.inl hm), itG.ok g' a fun m hm => b m (.inr hm)⟩⟩, fun m hm => ?_⟩
      · rw [hGo m (by omega), L.keep m (by omega) hne (by omega), hDo m (by omega), K2.2 m (by omega) hne, hBo m (by omega), o1.2 m hne]
        exact xA.same m hm
      · rcases hm with hm | hm
        · exact itR.lo m hm
        · exact itG.lo m hm
      · rcases hm with hm | hm
        · have := yr m hm; omega
        · have := yo m hm; omega
    generalize hQ : RdK I (FuC I) 3 hb h kr (pFu s) = Q at *
    rw [hG] at hfin
    have hs : (g.set h.next ⟨[.int .i64 (pNum s).1, rg, u], true⟩).get h.next = some ⟨[.int .i64 (pNum s).1, rg, u], true⟩ := AHeap.set_at (Nb.o rfl)
    have uo1 := uo.1
    have uo2 := uo.2
    have ro1 := ro.1
    have ro2 := ro.2
    clear hQ L itC itG itR yo hGo hG R R1 RA RB RD R2 R3 d1 k1 k2 o1 o3 K2 itr yr hBo hDo hxo
    rw [f44.n0]; unfold f44.b0
    simp (disch := first | exact D.go | fail) [setR, List.getElem?_cons_zero, List.getElem?_cons_succ, hub, hqg, uo1, uo2, ro1, ro2, hs]
    exact hfin
  refine f44.lim rfl (n := 4 * (pSize (pTypes (pNum s).2).2).1 + 8) ?_
  unfold f44.e
  rw [hA] at c1
  rw [hB] at c2
  rw [hD] at c3
  have z3 : (AVal.agg [.int .i64 (pNum s).1, .nils, .nils]).cells = [.int .i64 (pNum s).1, .nils, .nils] := rfl
  have hga : (g1.alloc ⟨[Z 0, .nils, .nils], true⟩).get (h.next + 1) = some ⟨[Z 0, .nils, .nils], true⟩ := AHeap.alloc_at (Nb.o hg1n.symm)
  have ro1 := ro.1
  have ro2 := ro.2
  generalize hQ : RdK I (FuC I) 3 hb h kr (pFu s) = Q at *
  generalize pSize (pTypes (pNum s).2).2 = y at *
  generalize pNum s = x at *
  clear hQ R R1 RA RB RD R2 R3 o1 o3 k1 k2 d1 itr yr hBo hDo hAq hBb hDb hA hB hD xA K2 hxo
  simp (disch := first | exact D.go | fail) [setR, List.getElem?_cons_zero, List.getElem?_cons_succ, c1, hg1n, hga, c2, q2, c3, z3, ro1, ro2]
  exact main
end
end
end Go.Proofs.YtncjcnipagdmlaaDoor.Tx

set_option linter.unusedSimpArgs false
set_option linter.unusedVariables false
namespace Go.Proofs.YtncjcnipagdmlaaDoor.Tx
noncomputable section
open Go.AM Go.Proofs.YtncjcnipagdmlaaDoor.Sf
section
variable {I : Inp} {h0 : AHeap} {α : Type}
/-! a program's lists, read -/
theorem Ls.selfEq {C : AHeap → List AVal → α → Prop} {sz : Nat} {hb g : AHeap} {F : Nat → Prop} {v : AVal} {xs : List α} (a : Ls C sz hb g F v xs) : v.eqb v = true := by
  obtain ⟨ys, _, o, _⟩ := a.rows
  rcases o with ⟨rfl, _⟩ | ⟨k, rfl, _⟩ <;> simp
theorem rPgL1 {hb h00 : AHeap} {kr kp : Nat} {a1 a2 a3 a4 a5 : AVal} (hkb : kp < h00.next) (lob : hb.next ≤ kp) (nbr : kp ≠ kr) {Q : AVal → AHeap → Prop} {out : List (List Ty) × Rd} {M : Nat}
    (hT : ∀ F u g, LpS I (fun g => SlC 2 (At I g TyC)) 1 hb h00 g kr kp F u out.1 out.2 → g.get kp = some ⟨[u, a1, a2, a3, a4, a5], true⟩ → ∀ m, M ≤ m → Res ((f26.J I (AM.lim ⟨P, I, genF P Sh.prims⟩) (m)).1.1.1.1 (.ptr (.own kr) 0) (.ptr (.own kp) 0) g) Q) :
    ∀ (n : Nat) (acc : List (List Ty)) (v : AVal) (s : Rd) (F : Nat → Prop) (h : AHeap), LpS I (fun g => SlC 2 (At I g TyC)) 1 hb h00 h kr kp F v acc s → RdOk s → acc.length + n ≤ 10000000 → h.get kp = some ⟨[v, a1, a2, a3, a4, a5], true⟩ → (acc ++ (pRep pTypes n s).1, (pRep pTypes n s).2) = out →
    ∀ N, 3 * n + 3 + M ≤ N → Res ((f26.J I (AM.lim ⟨P, I, genF P Sh.prims⟩) (N)).1.1.1.2 (.ptr (.own kr) 0) (.ptr (.own kp) 0) (.int .i64 (n : Int)) h) Q := by
  intro n
  induction n with
  | zero =>
    intro acc v s F h L ok hl hkv ho N hN
    obtain ⟨n, rfl⟩ : ∃ n, N = n + 1 := ⟨N - 1, by omega⟩
    rw [pRep_zero, List.append_nil] at ho
    have hq := hT F v h (by rw [← ho]; exact L) hkv n (by omega)
    clear hT L
    rw [f26.n1]; unfold f26.b1
    simp (disch := first | exact D.go | fail) [setR, List.getElem?_cons_zero, List.getElem?_cons_succ]
    exact hq
  | succ k ih =>
    intro acc v s F h L ok hl hkv ho N hN
    obtain ⟨v0, hk0, _⟩ := L.rd.at_
    have hpos : (0 : Int) < ((k + 1 : Nat) : Int) := by omega
    cases s with
    | none =>
      obtain ⟨n, rfl⟩ : ∃ n, N = n + 1 := ⟨N - 1, by omega⟩
      rw [pRep_none, List.append_nil] at ho
      have hq := hT F v h (by rw [← ho]; exact L) hkv n (by omega)
      simp only [Option.isNone_none] at hk0
      generalize ((k + 1 : Nat) : Int) = L' at *
      clear hT L ih
      rw [f26.n1]; unfold f26.b1
      simp (disch := first | exact D.go | fail) [setR, List.getElem?_cons_zero, List.getElem?_cons_succ, hpos, hk0]
      exact hq
    | some t =>
      obtain ⟨n, rfl⟩ : ∃ n, N = n + 3 := ⟨N - 3, by omega⟩
      have hkr := L.kr
      have hlo := L.lo
      have hbl := L.rd.ext.lo
      have hkrl := L.rd.lo
      obtain ⟨u, g, c1, R1, K1, Fu, it1, y1⟩ := rTypsG L.rd ok
      have okk := (peTypes.fits _ ok).2.1
      have uo := SlOf.all1 it1.now
      have uo1 := uo.1
      have uo2 := uo.2
      have hx : pTypes (some t) = ((pTypes (some t)).1, (pTypes (some t)).2) := rfl
      obtain ⟨w, G, e1, L1, w1, w2, kG, _⟩ := L.step (I := I) (cs := [u]) (x := (pTypes (some t)).1) (by omega) R1 K1 ⟨it1.lo, fun g' a b => ⟨u, rfl, it1.ok g' a b⟩⟩ rfl (by simp [uo.1]) y1 (bytes := 24) (by omega) (by omega)
      generalize (pTypes (some t)).2 = yy at *
      have hkvg := (K1.2 kp (by omega) nbr).trans hkv
      have hkva : (g.alloc ⟨[u], true⟩).get kp = g.get kp := AHeap.alloc_ne (Nb.o (by have := K1.1; omega))
      rw [hkvg] at hkva
      have vo1 := L.ls.one.1
      have vo2 := L.ls.one.2
      have vs := L.ls.selfEq
      have hkvG := (kG kp hkb).trans hkvg
      have hrep : (pRep pTypes (k + 1) (some t)) = ((pTypes (some t)).1 :: (pRep pTypes k (pTypes (some t)).2).1, (pRep pTypes k (pTypes (some t)).2).2) := rfl
      rw [hrep] at ho
      rw [hx] at ho L1
      have hi2 := ih _ w yy _ (G.set kp ⟨[w, a1, a2, a3, a4, a5], true⟩) (L1.set hkb lob nbr _) okk (by simp only [List.length_append, List.length_cons, List.length_nil]; omega) (AHeap.set_at (Nb.o rfl)) (by rw [← ho]; simp) n (by omega)
      have hw : IntKind.i64.wrap (((k + 1 : Nat) : Int) - 1) = (k : Int) := by rw [wrap_in ⟨by omega, by omega⟩]; omega
      simp only [Option.isNone_some] at hk0
      generalize ((k + 1 : Nat) : Int) = L' at *
      clear hT ih L L1 kG ho hrep ok okk hx R1 K1 it1 y1 uo
      rw [f26.n1]; unfold f26.b1
      simp (disch := first | exact D.go | fail) [setR, List.getElem?_cons_zero, List.getElem?_cons_succ, hpos, hk0, f26.n2, f26.b2, f26.n3, f26.b3, hkv, hkvG, e1, w1, w2, vo1, vo2, vs, hw, c1, hkvg, hkva, uo1, uo2]
      exact hi2
theorem rPgL9 {hb h00 : AHeap} {kr kp : Nat} {a0 a1 a3 a4 a5 : AVal} (hkb : kp < h00.next) (lob : hb.next ≤ kp) (nbr : kp ≠ kr) {Q : AVal → AHeap → Prop} {out : List (List Int) × Rd} {M : Nat}
    (hT : ∀ F u g, LpS I (fun g => SlC 1 (IntA I g)) 1 hb h00 g kr kp F u out.1 out.2 → g.get kp = some ⟨[a0, a1, u, a3, a4, a5], true⟩ → ∀ m, M ≤ m → Res ((f26.J I (AM.lim ⟨P, I, genF P Sh.prims⟩) (m)).1.2.2.2.1 (.ptr (.own kr) 0) (.ptr (.own kp) 0) g) Q) :
    ∀ (n : Nat) (acc : List (List Int)) (v : AVal) (s : Rd) (F : Nat → Prop) (h : AHeap), LpS I (fun g => SlC 1 (IntA I g)) 1 hb h00 h kr kp F v acc s → RdOk s → acc.length + n ≤ 10000000 → h.get kp = some ⟨[a0, a1, v, a3, a4, a5], true⟩ → (acc ++ (pRep pNums n s).1, (pRep pNums n s).2) = out →
    ∀ N, 3 * n + 3 + M ≤ N → Res ((f26.J I (AM.lim ⟨P, I, genF P Sh.prims⟩) (N)).1.2.2.2.2 (.ptr (.own kr) 0) (.ptr (.own kp) 0) (.int .i64 (n : Int)) h) Q := by
  intro n
  induction n with
  | zero =>
    intro acc v s F h L ok hl hkv ho N hN
    obtain ⟨n, rfl⟩ : ∃ n, N = n + 1 := ⟨N - 1, by omega⟩
    rw [pRep_zero, List.append_nil] at ho
    have hq := hT F v h (by rw [← ho]; exact L) hkv n (by omega)
    clear hT L
    rw [f26.n9]; unfold f26.b9
    simp (disch := first | exact D.go | fail) [setR, List.getElem?_cons_zero, List.getElem?_cons_succ]
    exact hq
  | succ k ih =>
    intro acc v s F h L ok hl hkv ho N hN
    obtain ⟨v0, hk0, _⟩ := L.rd.at_
    have hpos : (0 : Int) < ((k + 1 : Nat) : Int) := by omega
    cases s with
    | none =>
      obtain ⟨n, rfl⟩ : ∃ n, N = n + 1 := ⟨N - 1, by omega⟩
      rw [pRep_none, List.append_nil] at ho
      have hq := hT F v h (by rw [← ho]; exact L) hkv n (by omega)
      simp only [Option.isNone_none] at hk0
      generalize ((k + 1 : Nat) : Int) = L' at *
      clear hT L ih
      rw [f26.n9]; unfold f26.b9
      simp (disch := first | exact D.go | fail) [setR, List.getElem?_cons_zero, List.getElem?_cons_succ, hpos, hk0]
      exact hq
    | some t =>
      obtain ⟨n, rfl⟩ : ∃ n, N = n + 3 := ⟨N - 3, by omega⟩
      have hkr := L.kr
      have hlo := L.lo
      have hbl := L.rd.ext.lo
      have hkrl := L.rd.lo
      obtain ⟨u, g, c1, R1, K1, Fu, it1, y1⟩ := rNumsG L.rd ok
      have okk := (peNums.fits _ ok).2.1
      have uo := SlOf.all1 it1.now
      have uo1 := uo.1
      have uo2 := uo.2
      have hx : pNums (some t) = ((pNums (some t)).1, (pNums (some t)).2) := rfl
      obtain ⟨w, G, e1, L1, w1, w2, kG, _⟩ := L.step (I := I) (cs := [u]) (x := (pNums (some t)).1) (by omega) R1 K1 ⟨it1.lo, fun g' a b => ⟨u, rfl, it1.ok g' a b⟩⟩ rfl (by simp [uo.1]) y1 (bytes := 24) (by omega) (by omega)
      generalize (pNums (some t)).2 = yy at *
      have hkvg := (K1.2 kp (by omega) nbr).trans hkv
      have hkva : (g.alloc ⟨[u], true⟩).get kp = g.get kp := AHeap.alloc_ne (Nb.o (by have := K1.1; omega))
      rw [hkvg] at hkva
      have vo1 := L.ls.one.1
      have vo2 := L.ls.one.2
      have vs := L.ls.selfEq
      have hkvG := (kG kp hkb).trans hkvg
      have hrep : (pRep pNums (k + 1) (some t)) = ((pNums (some t)).1 :: (pRep pNums k (pNums (some t)).2).1, (pRep pNums k (pNums (some t)).2).2) := rfl
      rw [hrep] at ho
      rw [hx] at ho L1
      have hi2 := ih _ w yy _ (G.set kp ⟨[a0, a1, w, a3, a4, a5], true⟩) (L1.set hkb lob nbr _) okk (by simp only [List.length_append, List.length_cons, List.length_nil]; omega) (AHeap.set_at (Nb.o rfl)) (by rw [← ho]; simp) n (by omega)
      have hw : IntKind.i64.wrap (((k + 1 : Nat) : Int) - 1) = (k : Int) := by rw [wrap_in ⟨by omega, by omega⟩]; omega
      simp only [Option.isNone_some] at hk0
      generalize ((k + 1 : Nat) : Int) = L' at *
      clear hT ih L L1 kG ho hrep ok okk hx R1 K1 it1 y1 uo
      rw [f26.n9]; unfold f26.b9
      simp (disch := first | exact D.go | fail) [setR, List.getElem?_cons_zero, List.getElem?_cons_succ, hpos, hk0, f26.n10, f26.b10, f26.n11, f26.b11, hkv, hkvG, e1, w1, w2, vo1, vo2, vs, hw, c1, hkvg, hkva, uo1, uo2]
      exact hi2
theorem rPgL17 {hb h00 : AHeap} {kr kp : Nat} {a0 a1 a2 a3 a5 : AVal} (hkb : kp < h00.next) (lob : hb.next ≤ kp) (nbr : kp ≠ kr) {Q : AVal → AHeap → Prop} {out : List Fu × Rd} {M : Nat}
    (hT : ∀ F u g, LpS I (fun g => FuC I g) 3 hb h00 g kr kp F u out.1 out.2 → g.get kp = some ⟨[a0, a1, a2, a3, u, a5], true⟩ → ∀ m, M ≤ m → Res ((f26.J I (AM.lim ⟨P, I, genF P Sh.prims⟩) (m)).2.2.1.2 (.ptr (.own kr) 0) (.ptr (.own kp) 0) g) Q) :
    ∀ (n : Nat) (acc : List Fu) (v : AVal) (s : Rd) (F : Nat → Prop) (h : AHeap), LpS I (fun g => FuC I g) 3 hb h00 h kr kp F v acc s → RdOk s → acc.length + n ≤ 10000000 → h.get kp = some ⟨[a0, a1, a2, a3, v, a5], true⟩ → (acc ++ (pRep pFu n s).1, (pRep pFu n s).2) = out →
    ∀ N, 3 * n + 3 + M ≤ N → Res ((f26.J I (AM.lim ⟨P, I, genF P Sh.prims⟩) (N)).2.2.2.1 (.ptr (.own kr) 0) (.ptr (.own kp) 0) (.int .i64 (n : Int)) h) Q := by
  intro n
  induction n with
  | zero =>
    intro acc v s F h L ok hl hkv ho N hN
    obtain ⟨n, rfl⟩ : ∃ n, N = n + 1 := ⟨N - 1, by omega⟩
    rw [pRep_zero, List.append_nil] at ho
    have hq := hT F v h (by rw [← ho]; exact L) hkv n (by omega)
    clear hT L
    rw [f26.n17]; unfold f26.b17
    simp (disch := first | exact D.go | fail) [setR, List.getElem?_cons_zero, List.getElem?_cons_succ]
    exact hq
  | succ k ih =>
    intro acc v s F h L ok hl hkv ho N hN
    obtain ⟨v0, hk0, _⟩ := L.rd.at_
    have hpos : (0 : Int) < ((k + 1 : Nat) : Int) := by omega
    cases s with
    | none =>
      obtain ⟨n, rfl⟩ : ∃ n, N = n + 1 := ⟨N - 1, by omega⟩
      rw [pRep_none, List.append_nil] at ho
      have hq := hT F v h (by rw [← ho]; exact L) hkv n (by omega)
      simp only [Option.isNone_none] at hk0
      generalize ((k + 1 : Nat) : Int) = L' at *
      clear hT L ih
      rw [f26.n17]; unfold f26.b17
      simp (disch := first | exact D.go | fail) [setR, List.getElem?_cons_zero, List.getElem?_cons_succ, hpos, hk0]
      exact hq
    | some t =>
      obtain ⟨n, rfl⟩ : ∃ n, N = n + 3 := ⟨N - 3, by omega⟩
      have hkr := L.kr
      have hlo := L.lo
      have hbl := L.rd.ext.lo
      have hkrl := L.rd.lo
      obtain ⟨u, g, c1, R1, K1, cs, Fu, rfl, lc, ac, it1, y1⟩ := rFuG L.rd ok
      have okk := (peFu.fits _ ok).2.1
      have hx : pFu (some t) = ((pFu (some t)).1, (pFu (some t)).2) := rfl
      obtain ⟨w, G, e1, L1, w1, w2, kG, _⟩ := L.step (I := I) (cs := cs) (x := (pFu (some t)).1) (by omega) R1 K1 it1 lc ac y1 (bytes := 56) (by omega) (by omega)
      generalize (pFu (some t)).2 = yy at *
      have hkvg := (K1.2 kp (by omega) nbr).trans hkv
      have hkva : (g.alloc ⟨cs, true⟩).get kp = g.get kp := AHeap.alloc_ne (Nb.o (by have := K1.1; omega))
      rw [hkvg] at hkva
      obtain ⟨b0, b1, b2, rfl⟩ : ∃ b0 b1 b2, cs = [b0, b1, b2] := by
        match cs, lc with
        | [b0, b1, b2], _ => exact ⟨b0, b1, b2, rfl⟩
      have z5 : (AVal.agg [b0, b1, b2]).cells = [b0, b1, b2] := rfl
      have vo1 := L.ls.one.1
      have vo2 := L.ls.one.2
      have vs := L.ls.selfEq
      have hkvG := (kG kp hkb).trans hkvg
      have hrep : (pRep pFu (k + 1) (some t)) = ((pFu (some t)).1 :: (pRep pFu k (pFu (some t)).2).1, (pRep pFu k (pFu (some t)).2).2) := rfl
      rw [hrep] at ho
      rw [hx] at ho L1
      have hi2 := ih _ w yy _ (G.set kp ⟨[a0, a1, a2, a3, w, a5], true⟩) (L1.set hkb lob nbr _) okk (by simp only [List.length_append, List.length_cons, List.length_nil]; omega) (AHeap.set_at (Nb.o rfl)) (by rw [← ho]; simp) n (by omega)
      have hw : IntKind.i64.wrap (((k + 1 : Nat) : Int) - 1) = (k : Int) := by rw [wrap_in ⟨by omega, by omega⟩]; omega
      simp only [Option.isNone_some] at hk0
      generalize ((k + 1 : Nat) : Int) = L' at *
      clear hT ih L L1 kG ho hrep ok okk hx R1 K1 it1 y1
      rw [f26.n17]; unfold f26.b17
      simp (disch := first | exact D.go | fail) [setR, List.getElem?_cons_zero, List.getElem?_cons_succ, hpos, hk0, f26.n18, f26.b18, f26.n19, f26.b19, hkv, hkvG, e1, w1, w2, vo1, vo2, vs, hw, c1, hkvg, hkva, z5]
      exact hi2
end
end
end Go.Proofs.YtncjcnipagdmlaaDoor.Tx
