/- Contracts of the functions, part 0: what each function of the program and of the reference comes to. Conditions: as each lemma says. -/
import Derived.Test.YtlfdcehdpnidnaaDoorSfT
import Derived.Test.YtlfdcehdpnidnaaDoorAmZ
import Derived.Test.YtlfdcehdpnidnaaDoorSh
import Derived.Lib.ItoaLen
set_option linter.unusedSimpArgs false
set_option linter.unusedVariables false
namespace Go.Proofs.YtlfdcehdpnidnaaDoor.Tx
noncomputable section
open Go.AM Go.Proofs.YtlfdcehdpnidnaaDoor.Sf
section
variable {I : Inp} {h0 : AHeap}
def inB (n s : Int) : Prop := 0 ≤ n ∧ n < s

structure Pt where
  f : Int
  b : Int
  i : Int
  deriving DecidableEq, Inhabited
def noPt : Pt := ⟨-1, 0, 0⟩
abbrev ptV (p : Pt) : AVal := .agg [.int .i64 p.f, .int .i64 p.b, .int .i64 p.i]
theorem noPt_f : noPt.f = -1 := rfl
theorem noPt_b : noPt.b = 0 := rfl
theorem noPt_i : noPt.i = 0 := rfl
theorem nth_mem {α : Type} {xs : List α} {i : Int} (h : inB i xs.length) (d : α) : nth xs i d ∈ xs := by
  obtain ⟨h1, h2⟩ := h
  unfold nth
  have hk : i.toNat < xs.length := by omega
  rw [List.getD_eq_getElem?_getD, List.getElem?_eq_getElem hk]
  exact List.getElem_mem hk
/-- A slice to read from. -/
structure SlV {α : Type} (sz : Nat) (R : AM.Loc → Nat → α → Prop) (v : AVal) (xs : List α) : Prop where
  len : pLenSl v = some (.int .i64 xs.length)
  lt : xs.length ≤ 9223372036854775807
  at_ : ∀ {i : Nat} {x : α}, xs[i]? = some x → ∃ l o, pIndexAddr sz v (.int .i64 (i : Int)) = some (.ptr l o) ∧ R l o x
theorem _root_.Go.AM.SlOf.v {α : Type} {sz : Nat} {R : AM.Loc → Nat → α → Prop} {v : AVal} {xs : List α} (s : SlOf sz R v xs) : SlV sz R v xs := ⟨s.len, s.lt, s.at⟩
theorem _root_.Go.AM.SlOf.cut {α : Type} {sz : Nat} {R : AM.Loc → Nat → α → Prop} {v : AVal} {xs : List α} (s : SlOf sz R v xs) {m : Nat} (hm : m ≤ xs.length) : ∃ u, pSliceS sz v none (some (.int .i64 m)) none = some u ∧ SlV sz R u (xs.take m) := by
  rcases s with ⟨rfl, rfl⟩ | ⟨l, o, cap, rfl, c, n, hx⟩
  · obtain rfl : m = 0 := by simpa using hm
    exact ⟨.nils, rfl, by simpa using SlOf.v (SlOf.nil (R := R) (sz := sz))⟩
  · have hc := c m hm
    refine ⟨.sl l o m (capMinus cap 0), ?_, ?_, ?_, ?_⟩
    · show sliceV _ _ _ _ _ = _
      simp only [sliceV, optNatV, asNat]
      have : asNat (.int .i64 (m : Int)) = some m := rfl
      have hz : Nat.ble 0 m = true := Nat.ble_eq_true_of_le (Nat.zero_le m)
      simp [this, hc, hz]
    · simp [List.length_take, Nat.min_eq_left hm]
    · rw [List.length_take, Nat.min_eq_left hm]; omega
    · intro i x hi
      have hlt := (List.getElem?_eq_some_iff.1 hi).1
      rw [List.length_take, Nat.min_eq_left hm] at hlt
      rw [List.getElem?_take_of_lt hlt] at hi
      exact ⟨l, o + i * sz, pIndexAddr_sl hlt, hx i x hi⟩
theorem Res.after {r : Rs} {k : AVal → AHeap → Rs} {Q A : AVal → AHeap → Prop} (c : Res r A) (hk : ∀ v g, A v g → Res (k v g) Q) : Res (@Bnd r ⟨k⟩) Q := by
  obtain ⟨v, g, er, a⟩ := c
  rw [er]
  exact hk v g a
def ptCells (p : Pt) : List AVal := [.int .i64 p.f, .int .i64 p.b, .int .i64 p.i]
theorem pts_len : ∀ xs : List Pt, (xs.flatMap ptCells).length = xs.length * 3
  | [] => rfl
  | x :: xs => by simp only [List.flatMap_cons, List.length_append, List.length_cons, pts_len xs, ptCells, List.length_nil]; omega
theorem pts_one : ∀ xs : List Pt, (xs.flatMap ptCells).all AVal.one = true
  | [] => rfl
  | x :: xs => by simp only [List.flatMap_cons, List.all_append, pts_one xs, Bool.and_true]; rfl
/-- A slice of points that was made here. -/
def PtsO (hb h : AHeap) (v : AVal) (xs : List Pt) : Prop :=
  (v = .nils ∧ xs = []) ∨ ∃ k, v = .sl (.own k) 0 xs.length (.grown 3) ∧ h.get k = some ⟨xs.flatMap ptCells, true⟩ ∧ hb.next ≤ k ∧ k < h.next ∧ xs ≠ []
theorem PtsO.mono {hb h g : AHeap} {v : AVal} {xs : List Pt} (a : PtsO hb h v xs) (e : Ext h g) : PtsO hb g v xs := by
  rcases a with a | ⟨k, rfl, hk, h1, h2, h3⟩
  · exact .inl a
  · exact .inr ⟨k, rfl, by rw [e.same k h2]; exact hk, h1, by have := e.lo; omega, h3⟩
theorem app_pt {hb h : AHeap} {xs : List Pt} {v : AVal} (hv : PtsO hb h v xs) (eb : Ext hb h) (p : Pt) (hn : xs.length ≤ 1000000) {kw : Nat} {c : Cap} (hw : h.get kw = some ⟨ptCells p, true⟩) :
    Res (sAppend I 3 24 v (.sl (.own kw) 0 1 c) h) fun u g => PtsO hb g u (xs ++ [p]) ∧ Ext hb g := by
  rcases hv with ⟨rfl, rfl⟩ | ⟨k, rfl, hk, h1, h2, h3⟩
  · have := sAppend_nils (I := I) (sz := 3) (bytes := 24) (n := 0) (c := c) hw rfl rfl (by simp only [bigRoom]; omega)
    refine ⟨_, _, this, .inr ⟨h.next, rfl, ?_, eb.lo, by simp, by simp⟩, eb.alloc⟩
    simp [AHeap.alloc_at (Nb.o rfl)]
  · have := sAppend_full (I := I) (sz := 3) (bytes := 24) (n := 0) (c := c) hw rfl rfl hk (pts_len xs) (pts_one xs) (by omega) (by simp only [bigRoom]; omega)
    refine ⟨_, _, this, .inr ⟨h.next, ?_, ?_, eb.lo, by simp, by simp⟩, (eb.kill (Nb.o h1)).alloc⟩
    · simp
    · rw [show h.next = (h.kill k).next from rfl, AHeap.alloc_at (Nb.o rfl)]; simp
def bkPts (f b : Int) (j : Nat) : Nat → List Pt
  | 0 => []
  | c + 1 => ⟨f, b, j⟩ :: bkPts f b (j + 1) c
def fuPts (f : Int) : Nat → List Bk → List Pt
  | _, [] => []
  | b, x :: r => bkPts f b 0 (x.code.length + 1) ++ fuPts f (b + 1) r
def pgPts : Nat → List Fu → List Pt
  | _, [] => []
  | i, f :: r => fuPts i 0 f.blocks ++ pgPts (i + 1) r
theorem bkPts_len (f b : Int) : ∀ (c j : Nat), (bkPts f b j c).length = c
  | 0, _ => rfl
  | c + 1, j => by simp [bkPts, bkPts_len f b c]
def PtC (cs : List AVal) (p : Pt) : Prop := cs = ptCells p
theorem pts_get : ∀ (xs : List Pt) (i : Nat) (x : Pt) (j : Nat) (v : AVal), xs[i]? = some x → (ptCells x)[j]? = some v → (xs.flatMap ptCells)[i * 3 + j]? = some v
  | [], i, x, j, v, h, _ => by simp at h
  | y :: ys, 0, x, j, v, h, hv => by
    simp at h; subst h
    have hj : j < 3 := by have := (List.getElem?_eq_some_iff.1 hv).1; simpa [ptCells] using this
    rw [List.flatMap_cons, List.getElem?_append_left (by simp [ptCells]; omega)]
    simpa using hv
  | y :: ys, i + 1, x, j, v, h, hv => by
    have := pts_get ys i x j v (by simpa using h) hv
    rw [List.flatMap_cons, List.getElem?_append_right (by simp [ptCells]; omega)]
    rw [show (i + 1) * 3 + j - (ptCells y).length = i * 3 + j by simp [ptCells]; omega]
    exact this
theorem PtsO.v {hb h : AHeap} {v : AVal} {xs : List Pt} (a : PtsO hb h v xs) (hl : xs.length ≤ 1000000) : SlV 3 (At I h PtC) v xs := by
  rcases a with ⟨rfl, rfl⟩ | ⟨k, rfl, hk, h1, h2, h3⟩
  · exact SlOf.v SlOf.nil
  · refine ⟨rfl, by omega, fun {i x} hx => ⟨.own k, 0 + i * 3, pIndexAddr_sl (List.getElem?_eq_some_iff.1 hx).1, ptCells x, rfl, Cells.own hk h2 fun j v hv => ?_⟩⟩
    simp only [Nat.zero_add]
    exact pts_get xs i x j v hx hv
theorem bkPts_mem {f b : Int} {p : Pt} : ∀ (c j : Nat), p ∈ bkPts f b j c → ∃ k : Nat, j ≤ k ∧ k < j + c ∧ p = ⟨f, b, k⟩
  | 0, j, h => by simp [bkPts] at h
  | c + 1, j, h => by
    rcases List.mem_cons.1 h with rfl | h
    · exact ⟨j, by omega, by omega, rfl⟩
    · obtain ⟨k, h1, h2, h3⟩ := bkPts_mem c (j + 1) h
      exact ⟨k, by omega, by omega, h3⟩
theorem fuPts_mem {f : Int} {p : Pt} : ∀ (l : List Bk) (b : Nat), p ∈ fuPts f b l → ∃ (bi k : Nat) (x : Bk), l[bi]? = some x ∧ k ≤ x.code.length ∧ p = ⟨f, ((b + bi : Nat) : Int), k⟩
  | [], b, h => by simp [fuPts] at h
  | x :: r, b, h => by
    rcases List.mem_append.1 h with h | h
    · obtain ⟨k, h1, h2, h3⟩ := bkPts_mem _ _ h
      exact ⟨0, k, x, rfl, by omega, h3⟩
    · obtain ⟨bi, k, y, h1, h2, h3⟩ := fuPts_mem r (b + 1) h
      exact ⟨bi + 1, k, y, by simpa using h1, h2, by rw [h3]; congr 2; omega⟩
theorem pgPts_mem {p : Pt} : ∀ (l : List Fu) (i : Nat), p ∈ pgPts i l → ∃ (fi bi k : Nat) (f : Fu) (x : Bk), l[fi]? = some f ∧ f.blocks[bi]? = some x ∧ k ≤ x.code.length ∧ p = ⟨((i + fi : Nat) : Int), (bi : Int), k⟩
  | [], i, h => by simp [pgPts] at h
  | f :: r, i, h => by
    rcases List.mem_append.1 h with h | h
    · obtain ⟨bi, k, x, h1, h2, h3⟩ := fuPts_mem _ _ h
      exact ⟨0, bi, k, f, x, rfl, h1, h2, by simpa using h3⟩
    · obtain ⟨fi, bi, k, g, x, h1, h2, h3, h4⟩ := pgPts_mem r (i + 1) h
      exact ⟨fi + 1, bi, k, g, x, by simpa using h1, h2, h3, by rw [h4]; congr 2; omega⟩
theorem pMinmax_two (b : Int) : ∃ c, pMinmax false [Z 1000, .int .i64 b] = some (.int .i64 c) := ⟨if b < 1000 then b else 1000, by simp [pMinmax, minInts]⟩
/-- A bool. -/
def IsB (u : AVal) : Prop := ∃ b, u = .bool b
@[simp] theorem IsB_bool (b : Bool) : IsB (.bool b) = True := by simp [IsB]
end
end
end Go.Proofs.YtlfdcehdpnidnaaDoor.Tx

set_option linter.unusedSimpArgs false
set_option linter.unusedVariables false
namespace Go.Proofs.YtlfdcehdpnidnaaDoor.Tx
noncomputable section
open Go.AM Go.Proofs.YtlfdcehdpnidnaaDoor.Sf
section
variable {I : Inp}
theorem begun (h : AHeap) : (AM.lim ⟨P, I, genF P Sh.prims⟩) 8 [] h = some (.bool true, h) := by
  refine lim_of (C := ⟨P, I, genF P Sh.prims⟩) (n := 1) ?_
  simp only [callF, genF, show Sh.prims 8 = some AM.yesPrim from rfl]; rfl
theorem lawTrue {g : Nat} {args : List AVal} (hr : Res ((AM.lim ⟨P, I, genF P Sh.prims⟩) g args ⟨.nil, 0⟩) fun u _ => u = .bool true) : ∃ m, saysTrue (callF P I (genF P Sh.prims) m g args ⟨.nil, 0⟩) = true := by
  obtain ⟨v, h', e, rfl⟩ := hr
  exact lim_true (C := ⟨P, I, genF P Sh.prims⟩) e
end
end
end Go.Proofs.YtlfdcehdpnidnaaDoor.Tx

set_option linter.unusedSimpArgs false
set_option linter.unusedVariables false
namespace Go.Proofs.YtlfdcehdpnidnaaDoor.Tx
noncomputable section
open Go.AM Go.Proofs.YtlfdcehdpnidnaaDoor.Sf
/-! slices of one's own that grow: of things of any one size -/
section
variable {I : Inp} {α : Type} {f : α → List AVal} {sz : Nat}
/-- Each thing is so many cells. -/
structure Fix (f : α → List AVal) (sz : Nat) : Prop where
  len : ∀ x, (f x).length = sz
  one : ∀ x, (f x).all AVal.one = true
  pos : 0 < sz
theorem Fix.lenAll (F : Fix f sz) : ∀ xs : List α, (xs.flatMap f).length = xs.length * sz
  | [] => by simp
  | x :: r => by rw [List.flatMap_cons, List.length_append, F.lenAll r, F.len, List.length_cons, Nat.succ_mul, Nat.add_comm]
theorem Fix.oneAll (F : Fix f sz) : ∀ xs : List α, (xs.flatMap f).all AVal.one = true
  | [] => rfl
  | x :: r => by rw [List.flatMap_cons, List.all_append, F.oneAll r, F.one]; rfl
theorem Fix.get (F : Fix f sz) : ∀ (xs : List α) (i : Nat) (x : α) (j : Nat) (v : AVal), xs[i]? = some x → (f x)[j]? = some v → (xs.flatMap f)[i * sz + j]? = some v
  | [], i, x, j, v, h, _ => by simp at h
  | y :: ys, 0, x, j, v, h, hv => by
    simp at h; subst h
    have hj : j < (f y).length := (List.getElem?_eq_some_iff.1 hv).1
    rw [List.flatMap_cons, List.getElem?_append_left (by omega)]
    simpa using hv
  | y :: ys, i + 1, x, j, v, h, hv => by
    have := F.get ys i x j v (by simpa using h) hv
    have hl := F.len y
    rw [List.flatMap_cons, List.getElem?_append_right (by rw [hl, Nat.succ_mul]; omega)]
    rw [show (i + 1) * sz + j - (f y).length = i * sz + j by rw [hl, Nat.succ_mul]; omega]
    exact this
def Own (f : α → List AVal) (sz : Nat) (hb h : AHeap) (v : AVal) (xs : List α) : Prop :=
  (v = .nils ∧ xs = []) ∨ ∃ k, v = .sl (.own k) 0 xs.length (.grown sz) ∧ h.get k = some ⟨xs.flatMap f, true⟩ ∧ hb.next ≤ k ∧ k < h.next ∧ xs ≠ []
theorem Own.nil {hb h : AHeap} : Own f sz hb h .nils [] := .inl ⟨rfl, rfl⟩
theorem Own.mono {hb h g : AHeap} {v : AVal} {xs : List α} (a : Own f sz hb h v xs) (e : Ext h g) : Own f sz hb g v xs := by
  rcases a with a | ⟨k, rfl, hk, h1, h2, h3⟩
  · exact .inl a
  · exact .inr ⟨k, rfl, by rw [e.same k h2]; exact hk, h1, by have := e.lo; omega, h3⟩
/-- From a heap further back. -/
theorem Own.base {hb hb' h : AHeap} {v : AVal} {xs : List α} (a : Own f sz hb h v xs) (e : hb'.next ≤ hb.next) : Own f sz hb' h v xs := by
  rcases a with a | ⟨k, rfl, hk, h1, h2, h3⟩
  · exact .inl a
  · exact .inr ⟨k, rfl, hk, by omega, h2, h3⟩
theorem Own.len {hb h : AHeap} {v : AVal} {xs : List α} (a : Own f sz hb h v xs) : pLenSl v = some (.int .i64 xs.length) := by
  rcases a with ⟨rfl, rfl⟩ | ⟨k, rfl, _⟩ <;> rfl
theorem Own.v (F : Fix f sz) {hb h : AHeap} {v : AVal} {xs : List α} (a : Own f sz hb h v xs) (hl : xs.length ≤ 9223372036854775807) : SlV sz (At I h fun cs x => cs = f x) v xs := by
  rcases a with ⟨rfl, rfl⟩ | ⟨k, rfl, hk, h1, h2, h3⟩
  · exact SlOf.v SlOf.nil
  · refine ⟨rfl, hl, fun {i x} hx => ⟨.own k, 0 + i * sz, pIndexAddr_sl (List.getElem?_eq_some_iff.1 hx).1, f x, rfl, Cells.own hk h2 fun j v hv => ?_⟩⟩
    simp only [Nat.zero_add]
    exact F.get xs i x j v hx hv
/-- A slice's block is not this one. -/
def NotB (v : AVal) (m : Nat) : Prop := ∀ k o n c, v = .sl (.own k) o n c → m ≠ k
theorem Own.notB {hb h : AHeap} {v : AVal} {xs : List α} (a : Own f sz hb h v xs) {m : Nat} (hm : m < hb.next ∨ h.next ≤ m) : NotB v m := by
  intro k o n c e
  rcases a with ⟨rfl, _⟩ | ⟨k', rfl, _, h1, h2, _⟩
  · cases e
  · cases e; omega
/-- All blocks but the slice's keep what they hold. -/
def KeepB (v u : AVal) (h g : AHeap) : Prop := h.next ≤ g.next ∧ ∀ m, NotB v m → m < h.next → g.get m = h.get m ∧ NotB u m
/-- append(l, x). -/
theorem app_own (F : Fix f sz) {hb h : AHeap} {xs : List α} {v : AVal} (hv : Own f sz hb h v xs) (eb : Ext hb h) (x : α) {bytes : Nat} (hby : bytes ≤ 4096) (hn : xs.length ≤ 20000000000) {kw : Nat} {c : Cap} (hw : h.get kw = some ⟨f x, true⟩) :
    Res (sAppend I sz bytes v (.sl (.own kw) 0 1 c) h) fun u g => Own f sz hb g u (xs ++ [x]) ∧ Ext hb g ∧ KeepB v u h g := by
  have hr : ∀ n, n ≤ 20000000001 → n * bytes ≤ bigRoom := fun n hn => by
    have : n * bytes ≤ 20000000001 * 4096 := Nat.mul_le_mul hn hby
    simp only [bigRoom]; omega
  have hfl : (f x).length = (0 + 1) * sz := by rw [F.len]; omega
  rcases hv with ⟨rfl, rfl⟩ | ⟨k, rfl, hk, h1, h2, h3⟩
  · have := sAppend_nils (I := I) (sz := sz) (bytes := bytes) (n := 0) (c := c) hw hfl (F.one x) ⟨hr _ (by omega), by simp only [bigRoom]; omega⟩
    refine ⟨_, _, this, .inr ⟨h.next, rfl, ?_, eb.lo, by simp, by simp⟩, eb.alloc, by simp, fun m hm hl => ⟨AHeap.alloc_ne (Nb.o (by omega)), fun k o n c e => by cases e; omega⟩⟩
    simp [AHeap.alloc_at (Nb.o rfl)]
  · have := sAppend_full (I := I) (sz := sz) (bytes := bytes) (n := 0) (c := c) (len := xs.length) hw hfl (F.one x) hk (F.lenAll xs) (F.oneAll xs) F.pos ⟨hr _ (by omega), by simp only [bigRoom]; omega⟩
    refine ⟨_, _, this, .inr ⟨h.next, ?_, ?_, eb.lo, by simp, by simp⟩, (eb.kill (Nb.o h1)).alloc, by simp, fun m hm hl => ⟨?_, fun k o n c e => by cases e; omega⟩⟩
    · simp
    · rw [show h.next = (h.kill k).next from rfl, AHeap.alloc_at (Nb.o rfl)]; simp
    · rw [AHeap.alloc_ne (Nb.o (by show m ≠ h.next; omega))]
      exact AHeap.kill_ne (Nb.o (hm k _ _ _ rfl))
/-- A slice that can be read whole. -/
def SrcL (f : α → List AVal) (sz : Nat) (I : Inp) (h : AHeap) (w : AVal) (ys : List α) : Prop :=
  (ys = [] ∧ (w = .nils ∨ ∃ l o c, w = .sl l o 0 c ∧ AM.rds I h l o (0 * sz) = some [])) ∨ (ys ≠ [] ∧ ∃ l o c, w = .sl l o ys.length c ∧ AM.rds I h l o (ys.length * sz) = some (ys.flatMap f))
theorem Own.src (F : Fix f sz) {hb h : AHeap} {v : AVal} {xs : List α} (a : Own f sz hb h v xs) : SrcL f sz I h v xs := by
  rcases a with ⟨rfl, rfl⟩ | ⟨k, rfl, hk, h1, h2, h3⟩
  · exact .inl ⟨rfl, .inl rfl⟩
  · refine .inr ⟨h3, _, _, _, rfl, ?_⟩
    have hl := F.lenAll xs
    rw [rds_own', hk]
    simp only [Option.bind_some, Nat.zero_add, List.drop_zero]
    rw [if_pos (by omega), List.take_of_length_le (by omega)]
/-- append(l, m...). -/
theorem app_own_all (F : Fix f sz) {hb h : AHeap} {xs ys : List α} {v w : AVal} (hv : Own f sz hb h v xs) (eb : Ext hb h) (hs : SrcL f sz I h w ys) {bytes : Nat} (hby : bytes ≤ 4096) (hn : xs.length + ys.length ≤ 20000000000) :
    Res (sAppend I sz bytes v w h) fun u g => Own f sz hb g u (xs ++ ys) ∧ Ext hb g ∧ KeepB v u h g := by
  rcases hs with ⟨rfl, hz⟩ | ⟨hne, l, o, cap, rfl, hr⟩
  · have : sAppend I sz bytes v w h = some (v, h) := by
      have hc : ∃ n, srcCells I h sz w = some (n, []) ∧ n = 0 := by
        rcases hz with rfl | ⟨l, o, c, rfl, hr⟩
        · exact ⟨0, rfl, rfl⟩
        · exact ⟨0, by simp only [srcCells, hr], rfl⟩
      obtain ⟨n, hc, rfl⟩ := hc
      rcases hv with ⟨rfl, rfl⟩ | ⟨k, rfl, _⟩
      · simp only [sAppend, appendK_eq, appendTo, hc]
      · simp only [sAppend, appendK_eq, appendTo, hc]
    exact ⟨_, _, this, by rw [List.append_nil]; exact hv, eb, Nat.le_refl _, fun m hm hl => ⟨rfl, hm⟩⟩
  · obtain ⟨y, ys, rfl⟩ : ∃ y r, ys = y :: r := by
      cases ys with
      | nil => exact absurd rfl hne
      | cons y r => exact ⟨y, r, rfl⟩
    have ha := F.oneAll (y :: ys)
    have hB : ∀ n, n ≤ 20000000000 → Nat.ble (n * bytes) bigRoom = true := fun n hn => Nat.ble_eq_true_of_le (by
      have : n * bytes ≤ 20000000000 * 4096 := Nat.mul_le_mul hn hby
      simp only [bigRoom]; omega)
    have hB2 : ∀ n, n ≤ 20000000000 → Nat.ble n bigRoom = true := fun n hn => Nat.ble_eq_true_of_le (by simp only [bigRoom]; omega)
    rcases hv with ⟨rfl, rfl⟩ | ⟨k, rfl, hk, h1, h2, h3⟩
    · have hb1 := hB (y :: ys).length (by simpa using hn)
      have hb2 := hB2 (y :: ys).length (by simpa using hn)
      have : sAppend I sz bytes .nils (.sl l o (y :: ys).length cap) h = some (.sl (.own h.next) 0 (y :: ys).length (.grown sz), h.alloc ⟨(y :: ys).flatMap f, true⟩) := by
        simp only [sAppend, appendK_eq, appendTo, srcCells, hr]
        simp only [List.length_cons] at hb1 hb2 ⊢
        simp only [ha, hb1, hb2]
        rfl
      exact ⟨_, _, this, .inr ⟨h.next, by simp, by rw [AHeap.alloc_at (Nb.o rfl)]; simp, eb.lo, by simp, by simp⟩, eb.alloc, by simp, fun m hm hl => ⟨AHeap.alloc_ne (Nb.o (by omega)), fun k o n c e => by cases e; omega⟩⟩
    · have hl := F.lenAll xs
      have hp := F.pos
      have hb1 := hB (xs.length + (y :: ys).length) hn
      have hb2 := hB2 (xs.length + (y :: ys).length) hn
      have hlm : (y :: ys).flatMap f ≠ [] := by
        intro h0
        have := F.lenAll (y :: ys)
        rw [h0] at this
        simp only [List.length_nil, List.length_cons, Nat.succ_mul] at this
        omega
      have : sAppend I sz bytes (.sl (.own k) 0 xs.length (.grown sz)) (.sl l o (y :: ys).length cap) h = some (.sl (.own h.next) 0 (xs.length + (y :: ys).length) (.grown sz), (h.kill k).alloc ⟨xs.flatMap f ++ (y :: ys).flatMap f, true⟩) := by
        have hle : Nat.ble (0 + xs.length * sz) (xs.flatMap f).length = true := Nat.ble_eq_true_of_le (by omega)
        have hgt : Nat.ble (0 + xs.length * sz + ((y :: ys).flatMap f).length) (xs.flatMap f).length = false := by
          cases hx : Nat.ble (0 + xs.length * sz + ((y :: ys).flatMap f).length) (xs.flatMap f).length with
          | false => rfl
          | true =>
            have := Nat.le_of_ble_eq_true hx
            have := List.length_pos_iff.2 hlm
            omega
        have ht : ((xs.flatMap f).drop 0).take (xs.length * sz) = xs.flatMap f := by rw [List.drop_zero, List.take_of_length_le (by omega)]
        simp only [sAppend, appendK_eq, appendTo, srcCells, hr]
        simp only [List.length_cons] at hb1 hb2 ⊢
        simp only [ha, hb1, hb2, hk, Nat.beq_refl, hle, hgt, F.oneAll xs, Bool.and_self, ht, show h.room = true from rfl]
      refine ⟨_, _, this, .inr ⟨h.next, by simp, ?_, eb.lo, by simp, by simp⟩, (eb.kill (Nb.o h1)).alloc, by simp, fun m hm hl => ⟨?_, fun k o n c e => by cases e; omega⟩⟩
      · rw [show h.next = (h.kill k).next from rfl, AHeap.alloc_at (Nb.o rfl)]; simp
      · rw [AHeap.alloc_ne (Nb.o (by show m ≠ h.next; omega))]
        exact AHeap.kill_ne (Nb.o (hm k _ _ _ rfl))
end
end
end Go.Proofs.YtlfdcehdpnidnaaDoor.Tx

set_option linter.unusedSimpArgs false
set_option linter.unusedVariables false
namespace Go.Proofs.YtlfdcehdpnidnaaDoor.Tx
noncomputable section
open Go.AM Go.Proofs.YtlfdcehdpnidnaaDoor.Sf
section
variable {I : Inp} {h0 : AHeap}
/-! texts -/
/-- A text is no longer than .. -/
class StrB (s : List Nat) (n : outParam Nat) : Prop where
  le : s.length ≤ n
instance : StrB [] 0 := ⟨by simp⟩
instance {a : Nat} {l : List Nat} {n : Nat} [c : StrB l n] : StrB (a :: l) (n + 1) := ⟨by have := c.le; simp; omega⟩
instance {a b : List Nat} {n m : Nat} [c : StrB a n] [d : StrB b m] : StrB (a ++ b) (n + m) := ⟨by have := c.le; have := d.le; rw [List.length_append]; omega⟩
@[simp] theorem pBin_str {a b : List Nat} {n m : Nat} [c : StrB a n] [d : StrB b m] (h : n + m ≤ 140737488351232) : pBin .add (.str a) (.str b) = some (.str (a ++ b)) := by
  simp only [pBin, abin, sbin]
  rw [Nat.ble_eq_true_of_le (by have := c.le; have := d.le; omega)]
@[simp] theorem pBin_streq (a b : List Nat) : pBin .eql (.str a) (.str b) = some (.bool (natsEq a b)) := nrfl
@[simp] theorem pBin_strne (a b : List Nat) : pBin .neq (.str a) (.str b) = some (.bool (!natsEq a b)) := nrfl
@[simp] theorem natsEq_cons_nil (a : Nat) (l : List Nat) : natsEq (a :: l) [] = false := nrfl
@[simp] theorem natsEq_nil_nil : natsEq [] [] = true := nrfl
@[simp] theorem pUn_neg (a : Int) : pUn .neg (.int .i64 a) = some (.int .i64 (IntKind.i64.wrap (0 - a))) := nrfl
@[simp] theorem pBin_quo (a : Int) : pBin .quo (.int .i64 a) (Z 10) = some (.int .i64 (IntKind.i64.wrap (a.tdiv 10))) := nrfl
@[simp] theorem pBin_rem (a : Int) : pBin .rem (.int .i64 a) (Z 10) = some (.int .i64 (a.tmod 10)) := nrfl
@[simp] theorem pToInt_any (k k' : IntKind) (n : Int) : pToInt k (.int k' n) = some (.int k (k.wrap n)) := nrfl
theorem pToStr_one {h : AHeap} {k : Nat} {x : Nat} {p : Bool} {c : Cap} (hk : h.get k = some ⟨[.int .u8 (x : Int)], p⟩) (hx : x < 256) : pToStr I (.sl (.own k) 0 1 c) h = some (.str [x]) := by
  have hb : Nat.blt x 256 = true := by rw [blt_iff]; simp [hx]
  have hr : rdsK I h (.own k) 0 1 = some [.int .u8 (Int.ofNat x)] := by rw [rdsK_eq, rds_own', hk]; rfl
  have hy : AM.byteOf (AVal.int .u8 (Int.ofNat x)) = some x := by simp only [AM.byteOf, hb]
  simp only [pToStr, hr, List.mapM_cons, List.mapM_nil, hy]
  first | rfl | simp
/-! numbers in decimal -/
def decN (u : Nat) : List Nat := (Lib.decDigits u).map UInt8.toNat
theorem decN_small {u : Nat} (h : u < 10) : decN u = [48 + u] := by
  unfold decN
  rw [Lib.decDigits_one h]
  simp; omega
theorem decN_big {u : Nat} (h : ¬ u < 10) : decN u = decN (u / 10) ++ [48 + u % 10] := by
  unfold decN
  rw [Lib.decDigits, dif_neg h]
  simp; omega
theorem decN_len {u : Nat} (h : u < 18446744073709551616) : (decN u).length ≤ 20 := by
  unfold decN
  rw [List.length_map, Lib.decDigits_length]
  exact Lib.nDigits_le20 u h
theorem itoaN_nat (u : Nat) : itoaN (u : Int) = decN u := by unfold itoaN decN; rw [Lib.itoa_nonneg]
theorem itoaN_neg (u : Nat) (h : 1 ≤ u) : itoaN (-(u : Int)) = 45 :: decN u := by unfold itoaN decN; rw [Lib.itoa_neg u h]; rfl
/-- A number's text (cut, so that it is short at sight). -/
def decT (n : Int) : List Nat := (itoaN n).take 21
instance (n : Int) : StrB (decT n) 21 := ⟨by unfold decT; rw [List.length_take]; omega⟩
theorem decT_eq {n : Int} (h : InR n) : decT n = itoaN n := by
  unfold decT
  apply List.take_of_length_le
  unfold itoaN
  rw [List.length_map]
  exact Lib.itoa_length_le n h.1 (by have := h.2; omega)
theorem tItoa {n : Int} (hn : InR n) (h : AHeap) : (AM.lim ⟨P, I, genF P Sh.prims⟩) 24 [.int .i64 n] h = some (.str (decT n), h) := by
  rw [decT_eq hn]
  obtain ⟨h1, h2⟩ := hn
  have e1 : ltI n (-9223372036854775808) = false := by rw [ltI_spec]; simp; omega
  have e2 : ltI 9223372036854775807 n = false := by rw [ltI_spec]; simp; omega
  refine lim_of (C := ⟨P, I, genF P Sh.prims⟩) (n := 1) ?_
  simp only [callF, genF, show Sh.prims 24 = some AM.itoaPrim from rfl, itoaPrim, e1, e2]; rfl
theorem rDec_nat : ∀ (u : Nat), u ≤ 9223372036854775807 → ∀ hb : AHeap, Ret ((AM.lim ⟨P, I, genF P Sh.prims⟩) 25 [.int .i64 (u : Int)] hb) hb (.str (decN u)) := by
  intro u
  induction u using Nat.strongRecOn with
  | _ u ih =>
    intro hu hb
    have n0 : ¬ (u : Int) < 0 := by omega
    by_cases hs : u < 10
    · have hs' : (u : Int) < 10 := by omega
      have hw : IntKind.i64.wrap (48 + (u : Int)) = ((48 + u : Nat) : Int) := by rw [wrap_in ⟨by omega, by omega⟩]; omega
      have hw8 : IntKind.u8.wrap ((48 + u : Nat) : Int) = ((48 + u : Nat) : Int) := by
        simp only [IntKind.wrap, IntKind.bits, IntKind.signed]; simp; omega
      rw [decN_small hs]
      have hst : ∀ h : AHeap, pToStr I (.sl (.own h.next) 0 1 (.known 1)) (h.alloc ⟨[.int .u8 ((48 + u : Nat) : Int)], true⟩) = some (.str [48 + u]) := fun h => pToStr_one (AHeap.alloc_at (Nb.o rfl)) (by omega)
      refine f25.lim rfl (n := 3) ?_
      unfold f25.e
      generalize hx : 48 + u = x at *
      (repeat' (first | refine Rf (fun hF hG => ?_) (fun hF hG => ?_) | assumption | (show Ext _ _; exact Ext.go) | (simp only [AHeap.next_alloc, AHeap.next_set, AHeap.next_kill, AHeap.next_res] at hle hsame) | simp (disch := first | exact D.go | fail) [setR, List.getElem?_cons_zero, List.getElem?_cons_succ, f25.n0, f25.b0, f25.n1, f25.b1, f25.n2, f25.b2, n0, hs', hw, hw8, hst, *]))
    · have hs' : ¬ (u : Int) < 10 := by omega
      have hq : IntKind.i64.wrap ((u : Int).tdiv 10) = ((u / 10 : Nat) : Int) := by
        rw [show (u : Int).tdiv 10 = ((u / 10 : Nat) : Int) from (Int.ofNat_tdiv u 10).symm, wrap_in ⟨by omega, by omega⟩]
      have hr : (u : Int).tmod 10 = ((u % 10 : Nat) : Int) := (Int.ofNat_tmod u 10).symm
      have hq2 : IntKind.i64.wrap ((u : Int) / 10) = ((u / 10 : Nat) : Int) := by rw [wrap_in ⟨by omega, by omega⟩]; omega
      have hr2 : (u : Int) % 10 = ((u % 10 : Nat) : Int) := by omega
      have hw : IntKind.i64.wrap (48 + ((u % 10 : Nat) : Int)) = ((48 + u % 10 : Nat) : Int) := by rw [wrap_in ⟨by omega, by omega⟩]; omega
      have hw8 : IntKind.u8.wrap ((48 + u % 10 : Nat) : Int) = ((48 + u % 10 : Nat) : Int) := by
        simp only [IntKind.wrap, IntKind.bits, IntKind.signed]; simp; omega
      rw [decN_big hs]
      have hrec := fun g => ih (u / 10) (by omega) (by omega) g
      haveI : StrB (decN (u / 10)) 20 := ⟨decN_len (by omega)⟩
      have hst : ∀ (h : AHeap) (k : Nat) , pToStr I (.sl (.own k) 0 1 (.known 1)) (h.set k ⟨[.int .u8 ((48 + u % 10 : Nat) : Int)], true⟩) = some (.str [48 + u % 10]) := fun h k => pToStr_one (AHeap.set_at (Nb.o rfl)) (by omega)
      refine f25.lim rfl (n := 3) ?_
      unfold f25.e
      generalize hx : 48 + u % 10 = x at *
      generalize hz : u / 10 = z at *
      generalize hy : u % 10 = y at *
      (repeat' (first | refine Rf (fun hF hG => ?_) (fun hF hG => ?_) | assumption | (show Ext _ _; exact Ext.go) | (simp only [AHeap.next_alloc, AHeap.next_set, AHeap.next_kill, AHeap.next_res] at hle hsame) | simp (disch := first | exact D.go | fail) [setR, List.getElem?_cons_zero, List.getElem?_cons_succ, f25.n0, f25.b0, f25.n1, f25.b1, f25.n2, f25.b2, n0, hs', hq, hr, hq2, hr2, hw, hw8, hst, *] | (refine Ret.thn (h0 := hb) (hrec _) ?_ (fun g hg hlo hle hsame hx => ?_))))
end
end
end Go.Proofs.YtlfdcehdpnidnaaDoor.Tx

set_option linter.unusedSimpArgs false
set_option linter.unusedVariables false
namespace Go.Proofs.YtlfdcehdpnidnaaDoor.Tx
noncomputable section
open Go.AM Go.Proofs.YtlfdcehdpnidnaaDoor.Sf
section
variable {I : Inp} {h0 : AHeap}
theorem rDec {n : Int} (hn : InR n) (hb : AHeap) : Ret ((AM.lim ⟨P, I, genF P Sh.prims⟩) 25 [.int .i64 n] hb) hb (.str (decT n)) := by
  have hn' := hn
  obtain ⟨h1, h2⟩ := hn'
  rw [decT_eq hn]
  by_cases hp : 0 ≤ n
  · obtain ⟨u, rfl⟩ : ∃ u : Nat, n = u := ⟨n.toNat, by omega⟩
    rw [itoaN_nat]
    exact rDec_nat u (by omega) hb
  · obtain ⟨u, rfl, hu⟩ : ∃ u : Nat, n = -(u : Int) ∧ 1 ≤ u := ⟨n.natAbs, by omega, by omega⟩
    rw [itoaN_neg u hu]
    have hneg : -(u : Int) < 0 := by omega
    by_cases hbig : -(u : Int) < -4611686018427387904
    · have e1 : (-(u : Int)).tdiv 10 = -((u / 10 : Nat) : Int) := by rw [Int.neg_tdiv]; congr 1
      have e2 : (-(u : Int)).tmod 10 = -((u % 10 : Nat) : Int) := by rw [Int.neg_tmod]; congr 1
      have w1 : IntKind.i64.wrap (-((u / 10 : Nat) : Int)) = -((u / 10 : Nat) : Int) := wrap_in ⟨by omega, by omega⟩
      have w2 : IntKind.i64.wrap (0 - -((u / 10 : Nat) : Int)) = ((u / 10 : Nat) : Int) := by rw [wrap_in ⟨by omega, by omega⟩]; omega
      have w3 : IntKind.i64.wrap (0 - -((u % 10 : Nat) : Int)) = ((u % 10 : Nat) : Int) := by rw [wrap_in ⟨by omega, by omega⟩]; omega
      have r1 := fun g => rDec_nat (I := I) (u / 10) (by omega) g
      have r2 := fun g => rDec_nat (I := I) (u % 10) (by omega) g
      have hd := decN_big (u := u) (by omega)
      have hd2 := decN_small (u := u % 10) (by omega)
      haveI : StrB (decN (u / 10)) 20 := ⟨decN_len (by omega)⟩
      haveI : StrB (decN (u % 10)) 20 := ⟨decN_len (by omega)⟩
      rw [hd, ← hd2]
      generalize u / 10 = z at *
      generalize u % 10 = y at *
      generalize -(u : Int) = m at *
      refine f25.lim rfl (n := 3) ?_
      unfold f25.e
      simp only [Int.zero_sub, Int.neg_neg] at w2 w3
      (repeat' (first | refine Rf (fun hF hG => ?_) (fun hF hG => ?_) | assumption | (show Ext _ _; exact Ext.go) | (simp only [AHeap.next_alloc, AHeap.next_set, AHeap.next_kill, AHeap.next_res] at hle hsame) | simp (disch := first | exact D.go | fail) [setR, List.getElem?_cons_zero, List.getElem?_cons_succ, f25.n0, f25.b0, f25.n1, f25.b1, f25.n2, f25.b2, hneg, hbig, e1, e2, w1, w2, w3, *] | (refine Ret.thn (h0 := hb) (r1 _) ?_ (fun g hg hlo hle hsame hx => ?_)) | (refine Ret.thn (h0 := hb) (r2 _) ?_ (fun g hg hlo hle hsame hx => ?_))))
    · have w1 : IntKind.i64.wrap (0 - -(u : Int)) = (u : Int) := by rw [wrap_in ⟨by omega, by omega⟩]; omega
      have r1 := fun g => rDec_nat (I := I) u (by omega) g
      haveI : StrB (decN u) 20 := ⟨decN_len (by omega)⟩
      simp only [Int.zero_sub] at w1
      generalize -(u : Int) = m at *
      refine f25.lim rfl (n := 3) ?_
      unfold f25.e
      (repeat' (first | refine Rf (fun hF hG => ?_) (fun hF hG => ?_) | assumption | (show Ext _ _; exact Ext.go) | (simp only [AHeap.next_alloc, AHeap.next_set, AHeap.next_kill, AHeap.next_res] at hle hsame) | simp (disch := first | exact D.go | fail) [setR, List.getElem?_cons_zero, List.getElem?_cons_succ, f25.n0, f25.b0, f25.n1, f25.b1, f25.n2, f25.b2, hneg, hbig, w1, *] | (refine Ret.thn (h0 := hb) (r1 _) ?_ (fun g hg hlo hle hsame hx => ?_))))
end
end
end Go.Proofs.YtlfdcehdpnidnaaDoor.Tx

set_option linter.unusedSimpArgs false
set_option linter.unusedVariables false
namespace Go.Proofs.YtlfdcehdpnidnaaDoor.Tx
noncomputable section
open Go.AM Go.Proofs.YtlfdcehdpnidnaaDoor.Sf
section
variable {I : Inp}
/-! chains of errors, errors.is -/
inductive Lk where
  | ref (w f b i : Int)
  | oth (s : List Nat)
/-- A chain of errors that lies in blocks of one's own. -/
inductive ErrAt (h : AHeap) : AVal → List Lk → Prop where
  | nil : ErrAt h .nili []
  | ref {k : Nat} {w f b i : Int} {v : AVal} {r : List Lk} : h.get k = some ⟨[.int .i64 w, .int .i64 f, .int .i64 b, .int .i64 i, v], true⟩ → k < h.next → v.one = true → ErrAt h v r → ErrAt h (.iface 22 (.ptr (.own k) 0)) (.ref w f b i :: r)
  | oth {k : Nat} {s : List Nat} {v : AVal} {r : List Lk} : h.get k = some ⟨[.str s, v], true⟩ → k < h.next → ErrAt h v r → ErrAt h (.iface 50 (.ptr (.own k) 0)) (.oth s :: r)
theorem ErrAt.mono {h g : AHeap} (e : Ext h g) {v : AVal} {l : List Lk} (a : ErrAt h v l) : ErrAt g v l := by
  have hlo := e.lo
  induction a with
  | nil => exact .nil
  | ref hk hl h1 _ ih => exact .ref ((e.same _ hl).trans hk) (by omega) h1 ih
  | oth hk hl _ ih => exact .oth ((e.same _ hl).trans hk) (by omega) ih
theorem asI_ref (v : AVal) : pAssertI P 86 .nili true (.iface 22 v) = some (.tuple [.iface 22 v, .bool true]) := by kernel_rfl
theorem asI_oth (v : AVal) : pAssertI P 86 .nili true (.iface 50 v) = some (.tuple [.nili, .bool false]) := by
  simp only [pAssertI, implB_lacks (P := P) (a := 86) (t := 50) (by kernel_rfl)]; rfl
theorem asU_ref (v : AVal) : pAssertI P 72 .nili true (.iface 22 v) = some (.tuple [.iface 22 v, .bool true]) := by kernel_rfl
theorem asU_oth (v : AVal) : pAssertI P 72 .nili true (.iface 50 v) = some (.tuple [.iface 50 v, .bool true]) := by kernel_rfl
theorem mIs : methodOf P 22 "Is" = some 11 := by kernel_rfl
theorem mUn : methodOf P 22 "Unwrap" = some 10 := by kernel_rfl
theorem mUo : methodOf P 50 "Unwrap" = some 65 := by kernel_rfl
theorem inv_ptr' {call : CallFn} {t g : Nat} {name : String} (hm : methodOf P t name = some g) (l : AM.Loc) (o : Nat) (args : List AVal) (h : AHeap) : sInvoke P call (.iface t (.ptr l o)) name args h = call g (.ptr l o :: args) h := by
  simp only [sInvoke, hm]
theorem ifNe {h : AHeap} {a b : AVal} {neg c : Bool} {t t' : Nat} (hne : t ≠ t') : pEq P neg .iface c (.iface t a) (.iface t' b) h = some (.bool neg) := by
  simp only [pEq, aeq, ifaceEq, if_pos hne]; cases neg <;> rfl
theorem ptE : ptrTy P 22 = true := by kernel_rfl
theorem ptO : ptrTy P 50 = true := by kernel_rfl
theorem ptrNe {h : AHeap} {k m : Nat} {a b : Blk} {neg c : Bool} {t : Nat} (hp : ptrTy P t = true) (ha : h.get k = some a) (hb : h.get m = some b) (ra : a.plain = true) (rb : b.plain = true) (hne : k ≠ m) : pEq P neg .iface c (.iface t (.ptr (.own k) 0)) (.iface t (.ptr (.own m) 0)) h = some (.bool neg) := by
  have hl : (AM.Loc.own k).eqb (.own m) = false := by
    cases hx : (AM.Loc.own k).eqb (.own m) with
    | false => rfl
    | true => simp [AM.Loc.eqb] at hx; exact absurd hx hne
  have ht : ¬ t ≠ t := fun h => h rfl
  simp only [pEq, aeq, ifaceEq, if_neg ht, hp, if_true, AM.ptrEq, hl, apartB, ha, hb, ra, rb, Bool.and_self]; cases neg <;> rfl
/-- (*Error).Is of an error of one's own, asked for a reason. -/
theorem eIs {h : AHeap} {k m : Nat} {w f b i tw : Int} {v : AVal} {x : List AVal} (hk : h.get k = some ⟨[.int .i64 w, .int .i64 f, .int .i64 b, .int .i64 i, v], true⟩) (hm : h.get m = some ⟨.int .i64 tw :: x, true⟩) :
    (AM.lim ⟨P, I, genF P Sh0.prims⟩) 11 [.ptr (.own k) 0, .iface 22 (.ptr (.own m) 0)] h = some (.bool (dc (tw = 0 ∨ tw = w)), h) := by
  have ha : pAssertT 22 .nilp true (.iface 22 (.ptr (.own m) 0)) = some (.tuple [.ptr (.own m) 0, .bool true]) := rfl
  refine Res.eq (f11.lim rfl (n := 0) ?_)
  unfold f11.e
  by_cases h1 : tw = 0
  · (repeat' (first | refine Rf (fun hF hG => ?_) (fun hF hG => ?_) | assumption | (show Ext _ _; exact Ext.go) | (simp only [AHeap.next_alloc, AHeap.next_set, AHeap.next_kill, AHeap.next_res] at hle hsame) | simp (disch := first | exact D.go | fail) [setR, List.getElem?_cons_zero, List.getElem?_cons_succ, ha, hk, hm, h1, *]))
  · by_cases h2 : tw = w
    · (repeat' (first | refine Rf (fun hF hG => ?_) (fun hF hG => ?_) | assumption | (show Ext _ _; exact Ext.go) | (simp only [AHeap.next_alloc, AHeap.next_set, AHeap.next_kill, AHeap.next_res] at hle hsame) | simp (disch := first | exact D.go | fail) [setR, List.getElem?_cons_zero, List.getElem?_cons_succ, ha, hk, hm, h1, h2, *]))
    · (repeat' (first | refine Rf (fun hF hG => ?_) (fun hF hG => ?_) | assumption | (show Ext _ _; exact Ext.go) | (simp only [AHeap.next_alloc, AHeap.next_set, AHeap.next_kill, AHeap.next_res] at hle hsame) | simp (disch := first | exact D.go | fail) [setR, List.getElem?_cons_zero, List.getElem?_cons_succ, ha, hk, hm, h1, h2, *]))
/-- .. asked for an error of another kind. -/
theorem eIsO {h : AHeap} {k m : Nat} : (AM.lim ⟨P, I, genF P Sh0.prims⟩) 11 [.ptr (.own k) 0, .iface 50 (.ptr (.own m) 0)] h = some (.bool false, h) := by
  have ha : pAssertT 22 .nilp true (.iface 50 (.ptr (.own m) 0)) = some (.tuple [.nilp, .bool false]) := rfl
  refine Res.eq (f11.lim rfl (n := 0) ?_)
  unfold f11.e
  (repeat' (first | refine Rf (fun hF hG => ?_) (fun hF hG => ?_) | assumption | (show Ext _ _; exact Ext.go) | (simp only [AHeap.next_alloc, AHeap.next_set, AHeap.next_kill, AHeap.next_res] at hle hsame) | simp (disch := first | exact D.go | fail) [setR, List.getElem?_cons_zero, List.getElem?_cons_succ, ha, *]))
theorem eUn {h : AHeap} {k : Nat} {w f b i : Int} {v : AVal} (hk : h.get k = some ⟨[.int .i64 w, .int .i64 f, .int .i64 b, .int .i64 i, v], true⟩) :
    (AM.lim ⟨P, I, genF P Sh0.prims⟩) 10 [.ptr (.own k) 0] h = some (v, h) := by
  refine Res.eq (f10.lim rfl (n := 2) ?_)
  unfold f10.e
  (repeat' (first | refine Rf (fun hF hG => ?_) (fun hF hG => ?_) | assumption | (show Ext _ _; exact Ext.go) | (simp only [AHeap.next_alloc, AHeap.next_set, AHeap.next_kill, AHeap.next_res] at hle hsame) | simp (disch := first | exact D.go | fail) [setR, List.getElem?_cons_zero, List.getElem?_cons_succ, f10.n0, f10.b0, hk, *]))
theorem oUn {h : AHeap} {k : Nat} {s : List Nat} {v : AVal} (hk : h.get k = some ⟨[.str s, v], true⟩) :
    (AM.lim ⟨P, I, genF P Sh0.prims⟩) 65 [.ptr (.own k) 0] h = some (v, h) := by
  refine Res.eq (f65.lim rfl (n := 0) ?_)
  unfold f65.e
  (repeat' (first | refine Rf (fun hF hG => ?_) (fun hF hG => ?_) | assumption | (show Ext _ _; exact Ext.go) | (simp only [AHeap.next_alloc, AHeap.next_set, AHeap.next_kill, AHeap.next_res] at hle hsame) | simp (disch := first | exact D.go | fail) [setR, List.getElem?_cons_zero, List.getElem?_cons_succ, hk, *]))
/-- Is there a refusal of that reason (0: any) in a chain? -/
def anyW (tw : Int) : List Lk → Prop
  | [] => False
  | .ref w _ _ _ :: r => (tw = 0 ∨ tw = w) ∨ anyW tw r
  | .oth _ :: r => anyW tw r
/-- errors.is, asked for a reason. -/
theorem eis {h0 h : AHeap} {m : Nat} (x0 : Ext h0 h) (hm0 : h0.next ≤ m) {tw : Int} {x : List AVal} (hm : h.get m = some ⟨.int .i64 tw :: x, true⟩) : ∀ (l : List Lk) (e : AVal), ErrAt h0 e l → l ≠ [] →
    ∀ N, 3 * l.length + 3 ≤ N → Res ((f31.J I (AM.lim ⟨P, I, genF P Sh0.prims⟩) (N)).1.1 e (.iface 22 (.ptr (.own m) 0)) (.bool true) h) fun u g => u = .bool (dc (anyW tw l)) ∧ g = h := by
  intro l
  induction l with
  | nil => intro e _ hne; exact absurd rfl hne
  | cons a r ih =>
    intro e ha _ N hN
    simp only [List.length_cons] at hN
    obtain ⟨n, rfl⟩ : ∃ n, N = n + 3 := ⟨N - 3, by omega⟩
    cases ha with
    | @ref k w f b i v _ hk0 hl h1 hv =>
      have hk := (x0.same _ hl).trans hk0
      have hkm : k ≠ m := by omega
      have q0 := ptrNe (neg := false) (c := false) ptE hk hm rfl rfl hkm
      have q1 := asI_ref (.ptr (.own k) 0)
      have q2 := inv_ptr' (call := AM.lim ⟨P, I, genF P Sh0.prims⟩) mIs (.own k) 0 [.iface 22 (.ptr (.own m) 0)] h
      have q3 := eIs (I := I) hk hm
      have q4 := asU_ref (.ptr (.own k) 0)
      have q5 := inv_ptr' (call := AM.lim ⟨P, I, genF P Sh0.prims⟩) mUn (.own k) 0 [] h
      have q6 := eUn (I := I) hk
      rw [q3] at q2
      rw [q6] at q5
      rw [f31.n0]; unfold f31.b0
      by_cases hw : tw = 0 ∨ tw = w
      · have hb : dc (tw = 0 ∨ tw = w) = true := dc_of hw
        rw [hb] at q2
        have hgoal : dc (anyW tw (.ref w f b i :: r)) = true := dc_of (.inl hw)
        rw [hgoal]
        clear hgoal hb hw
        clear ih hk0
        simp (disch := first | exact D.go | fail) [setR, List.getElem?_cons_zero, List.getElem?_cons_succ, f31.n1, f31.b1, q0, q1, q2, *]
      · have hb : dc (tw = 0 ∨ tw = w) = false := dc_off hw
        rw [hb] at q2
        have hgoal : dc (anyW tw (.ref w f b i :: r)) = dc (anyW tw r) := by
          show dc ((tw = 0 ∨ tw = w) ∨ anyW tw r) = _
          rw [dc_or, hb, Bool.false_or]
        rw [hgoal]
        clear hgoal hb hw
        cases hv with
        | nil =>
          have hz : dc (anyW tw []) = false := dc_off id
          rw [hz]
          clear ih hk0
          simp (disch := first | exact D.go | fail) [setR, List.getElem?_cons_zero, List.getElem?_cons_succ, f31.n1, f31.b1, f31.n2, f31.b2, q0, q1, q2, q4, q5, *]
        | @ref k2 w2 f2 b2 i2 v2 r2 a1 a2 a3 a4 =>
          have hi := ih _ (.ref a1 a2 a3 a4) (by simp) n (by omega)
          clear ih hk0
          simp (disch := first | exact D.go | fail) [setR, List.getElem?_cons_zero, List.getElem?_cons_succ, f31.n1, f31.b1, f31.n2, f31.b2, q0, q1, q2, q4, q5, *]
        | @oth k2 s2 v2 r2 a1 a2 a4 =>
          have hi := ih _ (.oth a1 a2 a4) (by simp) n (by omega)
          clear ih hk0
          simp (disch := first | exact D.go | fail) [setR, List.getElem?_cons_zero, List.getElem?_cons_succ, f31.n1, f31.b1, f31.n2, f31.b2, q0, q1, q2, q4, q5, *]
    | @oth k s v _ hk0 hl hv =>
      have hk := (x0.same _ hl).trans hk0
      have q0 : pEq P false .iface false (.iface 50 (.ptr (.own k) 0)) (.iface 22 (.ptr (.own m) 0)) h = some (.bool false) := ifNe (by decide)
      have q1 := asI_oth (.ptr (.own k) 0)
      have q4 := asU_oth (.ptr (.own k) 0)
      have q5 := inv_ptr' (call := AM.lim ⟨P, I, genF P Sh0.prims⟩) mUo (.own k) 0 [] h
      have q6 := oUn (I := I) hk
      rw [q6] at q5
      rw [f31.n0]; unfold f31.b0
      show Res _ fun u g => u = .bool (dc (anyW tw r)) ∧ g = h
      cases hv with
      | nil =>
        have hz : dc (anyW tw []) = false := dc_off id
        rw [hz]
        clear ih hk0
        simp (disch := first | exact D.go | fail) [setR, List.getElem?_cons_zero, List.getElem?_cons_succ, f31.n1, f31.b1, f31.n2, f31.b2, q0, q1, q4, q5, *]
      | @ref k2 w2 f2 b2 i2 v2 r2 a1 a2 a3 a4 =>
        have hi := ih _ (.ref a1 a2 a3 a4) (by simp) n (by omega)
        clear ih hk0
        simp (disch := first | exact D.go | fail) [setR, List.getElem?_cons_zero, List.getElem?_cons_succ, f31.n1, f31.b1, f31.n2, f31.b2, q0, q1, q4, q5, *]
      | @oth k2 s2 v2 r2 a1 a2 a4 =>
        have hi := ih _ (.oth a1 a2 a4) (by simp) n (by omega)
        clear ih hk0
        simp (disch := first | exact D.go | fail) [setR, List.getElem?_cons_zero, List.getElem?_cons_succ, f31.n1, f31.b1, f31.n2, f31.b2, q0, q1, q4, q5, *]
/-- errors.is, asked for an error of another kind that is in no chain. -/
theorem eisO {h0 h : AHeap} {m : Nat} (x0 : Ext h0 h) (hm0 : h0.next ≤ m) {y : Blk} (hm : h.get m = some y) (hy : y.plain = true) : ∀ (l : List Lk) (e : AVal), ErrAt h0 e l → l ≠ [] →
    ∀ N, 3 * l.length + 3 ≤ N → Res ((f31.J I (AM.lim ⟨P, I, genF P Sh0.prims⟩) (N)).1.1 e (.iface 50 (.ptr (.own m) 0)) (.bool true) h) fun u g => u = .bool false ∧ g = h := by
  intro l
  induction l with
  | nil => intro e _ hne; exact absurd rfl hne
  | cons a r ih =>
    intro e ha _ N hN
    simp only [List.length_cons] at hN
    obtain ⟨n, rfl⟩ : ∃ n, N = n + 3 := ⟨N - 3, by omega⟩
    cases ha with
    | @ref k w f b i v _ hk0 hl h1 hv =>
      have hk := (x0.same _ hl).trans hk0
      have q0 : pEq P false .iface false (.iface 22 (.ptr (.own k) 0)) (.iface 50 (.ptr (.own m) 0)) h = some (.bool false) := ifNe (by decide)
      have q1 := asI_ref (.ptr (.own k) 0)
      have q2 := inv_ptr' (call := AM.lim ⟨P, I, genF P Sh0.prims⟩) mIs (.own k) 0 [.iface 50 (.ptr (.own m) 0)] h
      have q3 := eIsO (I := I) (h := h) (k := k) (m := m)
      have q4 := asU_ref (.ptr (.own k) 0)
      have q5 := inv_ptr' (call := AM.lim ⟨P, I, genF P Sh0.prims⟩) mUn (.own k) 0 [] h
      have q6 := eUn (I := I) hk
      rw [q3] at q2
      rw [q6] at q5
      rw [f31.n0]; unfold f31.b0
      cases hv with
      | nil =>
        clear ih hk0
        simp (disch := first | exact D.go | fail) [setR, List.getElem?_cons_zero, List.getElem?_cons_succ, f31.n1, f31.b1, f31.n2, f31.b2, q0, q1, q2, q4, q5, *]
      | @ref k2 w2 f2 b2 i2 v2 r2 a1 a2 a3 a4 =>
        have hi := ih _ (.ref a1 a2 a3 a4) (by simp) n (by omega)
        clear ih hk0
        simp (disch := first | exact D.go | fail) [setR, List.getElem?_cons_zero, List.getElem?_cons_succ, f31.n1, f31.b1, f31.n2, f31.b2, q0, q1, q2, q4, q5, *]
      | @oth k2 s2 v2 r2 a1 a2 a4 =>
        have hi := ih _ (.oth a1 a2 a4) (by simp) n (by omega)
        clear ih hk0
        simp (disch := first | exact D.go | fail) [setR, List.getElem?_cons_zero, List.getElem?_cons_succ, f31.n1, f31.b1, f31.n2, f31.b2, q0, q1, q2, q4, q5, *]
    | @oth k s v _ hk0 hl hv =>
      have hk := (x0.same _ hl).trans hk0
      have hkm : k ≠ m := by omega
      have q0 := ptrNe (neg := false) (c := false) ptO hk hm rfl hy hkm
      have q1 := asI_oth (.ptr (.own k) 0)
      have q4 := asU_oth (.ptr (.own k) 0)
      have q5 := inv_ptr' (call := AM.lim ⟨P, I, genF P Sh0.prims⟩) mUo (.own k) 0 [] h
      have q6 := oUn (I := I) hk
      rw [q6] at q5
      rw [f31.n0]; unfold f31.b0
      cases hv with
      | nil =>
        clear ih hk0
        simp (disch := first | exact D.go | fail) [setR, List.getElem?_cons_zero, List.getElem?_cons_succ, f31.n1, f31.b1, f31.n2, f31.b2, q0, q1, q4, q5, *]
      | @ref k2 w2 f2 b2 i2 v2 r2 a1 a2 a3 a4 =>
        have hi := ih _ (.ref a1 a2 a3 a4) (by simp) n (by omega)
        clear ih hk0
        simp (disch := first | exact D.go | fail) [setR, List.getElem?_cons_zero, List.getElem?_cons_succ, f31.n1, f31.b1, f31.n2, f31.b2, q0, q1, q4, q5, *]
      | @oth k2 s2 v2 r2 a1 a2 a4 =>
        have hi := ih _ (.oth a1 a2 a4) (by simp) n (by omega)
        clear ih hk0
        simp (disch := first | exact D.go | fail) [setR, List.getElem?_cons_zero, List.getElem?_cons_succ, f31.n1, f31.b1, f31.n2, f31.b2, q0, q1, q4, q5, *]
end
end
end Go.Proofs.YtlfdcehdpnidnaaDoor.Tx

set_option linter.unusedSimpArgs false
set_option linter.unusedVariables false
namespace Go.Proofs.YtlfdcehdpnidnaaDoor.Tx
noncomputable section
open Go.AM Go.Proofs.YtlfdcehdpnidnaaDoor.Sf
section
variable {I : Inp}
abbrev CI (I : Inp) : CallFn := (AM.lim ⟨P, I, genF P Sh.prims⟩)
/-- errors.Is, asked for a reason. -/
theorem tIs {h0 h : AHeap} {m : Nat} {tw : Int} {x : List AVal} {e : AVal} {l : List Lk} (a : ErrAt h0 e l) (x0 : Ext h0 h) (hm0 : h0.next ≤ m) (hm : h.get m = some ⟨.int .i64 tw :: x, true⟩) :
    CI I 19 [e, .iface 22 (.ptr (.own m) 0)] h = some (.bool (dc (anyW tw l)), h) := by
  refine lim_of (C := ⟨P, I, genF P Sh.prims⟩) (n := 1) ?_
  simp only [callF, genF, show Sh.prims 19 = some Sh.isP from rfl, Sh.isP, isPrim]
  have hts : (([22, 50] : List Nat).any (Nat.beq 22)) = true := rfl
  cases a with
  | nil => simp only [hts]; rw [show dc (anyW tw []) = false from dc_off id]
  | @ref k w f b i v r a1 a2 a3 a4 =>
    simp only [hts]
    refine Res.eq (f31.lim rfl (n := 3 * (Lk.ref w f b i :: r).length + 4) ?_)
    unfold f31.e
    exact eis (I := fun _ _ => none) x0 hm0 hm _ _ (.ref a1 a2 a3 a4) (by simp) _ (by omega)
  | @oth k s v r a1 a2 a4 =>
    simp only [hts]
    refine Res.eq (f31.lim rfl (n := 3 * (Lk.oth s :: r).length + 4) ?_)
    unfold f31.e
    exact eis (I := fun _ _ => none) x0 hm0 hm _ _ (.oth a1 a2 a4) (by simp) _ (by omega)
/-- .. asked for an error of another kind. -/
theorem tIsO {h0 h : AHeap} {m : Nat} {y : Blk} {e : AVal} {l : List Lk} (a : ErrAt h0 e l) (x0 : Ext h0 h) (hm0 : h0.next ≤ m) (hm : h.get m = some y) (hy : y.plain = true) :
    CI I 19 [e, .iface 50 (.ptr (.own m) 0)] h = some (.bool false, h) := by
  refine lim_of (C := ⟨P, I, genF P Sh.prims⟩) (n := 1) ?_
  simp only [callF, genF, show Sh.prims 19 = some Sh.isP from rfl, Sh.isP, isPrim]
  have hts : (([22, 50] : List Nat).any (Nat.beq 50)) = true := rfl
  cases a with
  | nil => simp only [hts]
  | @ref k w f b i v r a1 a2 a3 a4 =>
    simp only [hts]
    refine Res.eq (f31.lim rfl (n := 3 * (Lk.ref w f b i :: r).length + 4) ?_)
    unfold f31.e
    exact eisO (I := fun _ _ => none) x0 hm0 hm hy _ _ (.ref a1 a2 a3 a4) (by simp) _ (by omega)
  | @oth k s v r a1 a2 a4 =>
    simp only [hts]
    refine Res.eq (f31.lim rfl (n := 3 * (Lk.oth s :: r).length + 4) ?_)
    unfold f31.e
    exact eisO (I := fun _ _ => none) x0 hm0 hm hy _ _ (.oth a1 a2 a4) (by simp) _ (by omega)
theorem ErrAt.one {h : AHeap} {v : AVal} {l : List Lk} (a : ErrAt h v l) : v.one = true ∧ v.cells = [v] := by
  cases a <;> exact ⟨rfl, rfl⟩
/-- refuse.New. -/
theorem tNew (w f b i : Int) {v : AVal} {l : List Lk} {h : AHeap} (a : ErrAt h v l) : ∃ u g, CI I 21 [.int .i64 w, .agg [.int .i64 f, .int .i64 b, .int .i64 i], v] h = some (u, g) ∧ ErrAt g u (.ref w f b i :: l) ∧ Ext h g := by
  obtain ⟨hv, hc⟩ := a.one
  have e : CI I 21 [.int .i64 w, .agg [.int .i64 f, .int .i64 b, .int .i64 i], v] h = some (.iface 22 (.ptr (.own (h.next + 1)) 0), (h.alloc ⟨[.int .i64 f, .int .i64 b, .int .i64 i], true⟩).alloc ⟨[.int .i64 w, .int .i64 f, .int .i64 b, .int .i64 i, v], true⟩) := by
    refine Res.eq (f21.lim rfl (n := 1) ?_)
    unfold f21.e
    simp (disch := first | exact D.go | fail) [setR, List.getElem?_cons_zero, List.getElem?_cons_succ, hv, hc]
  have x : Ext h ((h.alloc ⟨[.int .i64 f, .int .i64 b, .int .i64 i], true⟩).alloc ⟨[.int .i64 w, .int .i64 f, .int .i64 b, .int .i64 i, v], true⟩) := (Ext.refl h).alloc.alloc
  exact ⟨_, _, e, .ref (AHeap.alloc_at (Nb.o (by simp))) (by simp) hv (a.mono x), x⟩
/-- From the first refusal of a chain on. -/
def firstOf : List Lk → List Lk
  | [] => []
  | .ref w f b i :: r => .ref w f b i :: r
  | .oth _ :: r => firstOf r
/-- Not too many of another kind. -/
def countO : List Lk → Nat
  | [] => 0
  | .ref _ _ _ _ :: r => countO r
  | .oth _ :: r => countO r + 1
def OthOk (l : List Lk) : Prop := countO l ≤ 38
theorem follow {h : AHeap} {e : AVal} {l : List Lk} (a : ErrAt h e l) : ∀ n, countO l + 1 ≤ n → ∃ x, asFollow 22 50 h n e = some x ∧ (firstOf l = [] → x = none) ∧ ∀ w f b i r, firstOf l = .ref w f b i :: r → ∃ k v, x = some (.ptr (.own k) 0) ∧ h.get k = some ⟨[.int .i64 w, .int .i64 f, .int .i64 b, .int .i64 i, v], true⟩ ∧ k < h.next ∧ ErrAt h v r ∧ countO r ≤ countO l := by
  induction a with
  | nil =>
    intro n hn
    obtain ⟨m, rfl⟩ : ∃ m, n = m + 1 := ⟨n - 1, by omega⟩
    exact ⟨none, rfl, (fun _ => rfl), (fun w' f' b' i' r' h => by cases h)⟩
  | @ref k w f b i v r a1 a2 a3 a4 _ =>
    intro n hn
    obtain ⟨m, rfl⟩ : ∃ m, n = m + 1 := ⟨n - 1, by omega⟩
    exact ⟨some (.ptr (.own k) 0), rfl, (fun h => by cases h), (fun w' f' b' i' r' h => by cases h; exact ⟨k, v, rfl, a1, a2, a4, Nat.le_refl _⟩)⟩
  | @oth k s v r a1 a2 a4 ih =>
    intro n hn
    obtain ⟨m, rfl⟩ : ∃ m, n = m + 1 := ⟨n - 1, by omega⟩
    obtain ⟨x, hx, h1, h2⟩ := ih m (by simp only [countO] at hn; omega)
    refine ⟨x, ?_, h1, fun w f b i r' h => ?_⟩
    · have e1 : Nat.beq 50 22 = false := rfl
      have e2 : Nat.beq 50 50 = true := rfl
      show (match Nat.beq 50 22 with
        | true => some (some (AVal.ptr (.own k) 0))
        | false => match Nat.beq 50 50, AM.Loc.own k with
          | true, .own k => match h.get k with
            | some b => match b.cells[0 + 1]? with
              | some v => asFollow 22 50 h m v
              | none => none
            | none => none
          | _, _ => none) = _
      rw [e1, e2]
      simp only [a1]
      exact hx
    · obtain ⟨k', v', b1, b2, b3, b4, b5⟩ := h2 w f b i r' h
      exact ⟨k', v', b1, b2, b3, b4, by simp only [countO]; omega⟩
theorem follow_ext {h0 h : AHeap} (x0 : Ext h0 h) : ∀ (n : Nat) {e : AVal} {l : List Lk}, ErrAt h0 e l → asFollow 22 50 h n e = asFollow 22 50 h0 n e := by
  intro n
  induction n with
  | zero => intro e l _; rfl
  | succ n ih =>
    intro e l a
    cases a with
    | nil => rfl
    | ref => rfl
    | @oth k s v r a1 a2 a4 =>
      have := ih a4
      simp only [asFollow, a1, x0.same _ a2, this, show (([AVal.str s, v] : List AVal)[0 + 1]?) = some v from rfl]
def asAns (h : AHeap) (m : Nat) : Option AVal → Option (AVal × AHeap)
  | none => some (.bool false, h)
  | some p => some (.bool true, h.set m ⟨[p], true⟩)
/-- errors.As over a chain. -/
theorem asRun {h0 h : AHeap} {m : Nat} {e : AVal} {l : List Lk} (a : ErrAt h0 e l) (x0 : Ext h0 h) (hm : h.get m = some ⟨[.nilp], true⟩) {y : Option AVal} (hy : asFollow 22 50 h0 40 e = some y) (hp : ∀ p, y = some p → ∃ k, p = .ptr (.own k) 0) :
    CI I 18 [e, .iface 44 (.ptr (.own m) 0)] h = asAns h m y := by
  rw [← follow_ext x0 40 a] at hy
  have run : ∀ r, AM.asPrim2 22 44 50 [e, .iface 44 (.ptr (.own m) 0)] h = some r → CI I 18 [e, .iface 44 (.ptr (.own m) 0)] h = some r := by
    intro r hr
    refine lim_of (C := ⟨P, I, genF P Sh.prims⟩) (n := 1) ?_
    simp only [callF, genF, show Sh.prims 18 = some (AM.asPrim2 22 44 50) from rfl]
    exact hr
  by_cases hne : e = .nili
  · subst hne
    cases a
    have : y = none := by
      have : asFollow 22 50 h 40 .nili = some none := rfl
      rw [this] at hy; exact (Option.some.inj hy).symm
    subst this
    exact run _ rfl
  · have e1 : Nat.beq 44 44 = true := rfl
    have hb : AM.asPrim2 22 44 50 [e, .iface 44 (.ptr (.own m) 0)] h = asAns h m y := by
      unfold asPrim2
      split
      · rename_i h1; cases h1; exact absurd rfl hne
      · rename_i h1
        cases h1
        rw [e1]
        simp only [hm, hy, show (([AVal.nilp] : List AVal)[0]?) = some .nilp from rfl]
        cases y with
        | none => rfl
        | some p =>
          obtain ⟨k, rfl⟩ := hp p rfl
          rfl
      · rename_i h1 h2
        exact absurd rfl (h2 e 44 m 0)
    cases y with
    | none => exact run _ hb
    | some p => exact run _ hb
theorem follow_ptr {h : AHeap} {e : AVal} {l : List Lk} (a : ErrAt h e l) (hn : OthOk l) : ∃ y, asFollow 22 50 h 40 e = some y ∧ (∀ p, y = some p → ∃ k, p = .ptr (.own k) 0) ∧ (firstOf l = [] → y = none) ∧ ∀ w f b i r, firstOf l = .ref w f b i :: r → ∃ k v, y = some (.ptr (.own k) 0) ∧ h.get k = some ⟨[.int .i64 w, .int .i64 f, .int .i64 b, .int .i64 i, v], true⟩ ∧ k < h.next ∧ ErrAt h v r ∧ OthOk r := by
  obtain ⟨y, hy, y1, y2⟩ := follow a 40 (by unfold OthOk at hn; omega)
  refine ⟨y, hy, fun p hp => ?_, y1, fun w f b i r hf => ?_⟩
  · cases hf : firstOf l with
    | nil => rw [y1 hf] at hp; cases hp
    | cons z r =>
      cases z with
      | ref w f b i => obtain ⟨k, v, h1, _⟩ := y2 w f b i r hf; rw [h1] at hp; cases hp; exact ⟨k, rfl⟩
      | oth s =>
        exfalso
        have : ∀ l : List Lk, firstOf l ≠ .oth s :: r := by
          intro l; induction l with
          | nil => simp [firstOf]
          | cons z t iht => cases z <;> simp [firstOf, iht]
        exact this l hf
  · obtain ⟨k, v, h1, h2, h3, h4, h5⟩ := y2 w f b i r hf
    exact ⟨k, v, h1, h2, h3, h4, by unfold OthOk at hn ⊢; omega⟩
theorem first_nil {hb : AHeap} {e : AVal} {l : List Lk} (hn : OthOk l) (a : ErrAt hb e l) (h : firstOf l = []) (g : AHeap) (x : Ext hb g) : Ret (CI I 23 [e] g) g .nilp := by
  obtain ⟨y, hy, yp, y1, _⟩ := follow_ptr a hn
  have q := asRun (I := I) (m := g.next) (h := g.alloc ⟨[.nilp], true⟩) a x.alloc (AHeap.alloc_at (Nb.o rfl)) hy yp
  rw [y1 h] at q
  simp only [asAns] at q
  refine f23.lim rfl (n := 1) ?_
  unfold f23.e
  simp (disch := first | exact D.go | fail) [setR, List.getElem?_cons_zero, List.getElem?_cons_succ, q]
  exact (Ext.refl g).alloc
theorem first_ref {hb : AHeap} {e : AVal} {l : List Lk} (hn : OthOk l) (a : ErrAt hb e l) {w f b i : Int} {r : List Lk} (h : firstOf l = .ref w f b i :: r) : ∃ k v, hb.get k = some ⟨[.int .i64 w, .int .i64 f, .int .i64 b, .int .i64 i, v], true⟩ ∧ k < hb.next ∧ ErrAt hb v r ∧ OthOk r ∧
    (∀ (g : AHeap), Ext hb g → Ret (CI I 23 [e] g) g (.ptr (.own k) 0)) ∧ ∀ (g : AHeap) (m : Nat), Ext hb g → g.get m = some ⟨[.nilp], true⟩ → CI I 18 [e, .iface 44 (.ptr (.own m) 0)] g = some (.bool true, g.set m ⟨[.ptr (.own k) 0], true⟩) := by
  obtain ⟨y, hy, yp, _, y2⟩ := follow_ptr a hn
  obtain ⟨k, v, h1, h2, h3, h4, h5⟩ := y2 w f b i r h
  have hq : ∀ (g : AHeap) (m : Nat), Ext hb g → g.get m = some ⟨[.nilp], true⟩ → CI I 18 [e, .iface 44 (.ptr (.own m) 0)] g = some (.bool true, g.set m ⟨[.ptr (.own k) 0], true⟩) := by
    intro g m x hm
    have q := asRun (I := I) (m := m) (h := g) a x hm hy yp
    rw [h1] at q
    exact q
  refine ⟨k, v, h2, h3, h4, h5, fun g x => ?_, hq⟩
  have q := hq (g.alloc ⟨[.nilp], true⟩) g.next x.alloc (AHeap.alloc_at (Nb.o rfl))
  refine f23.lim rfl (n := 1) ?_
  unfold f23.e
  simp (disch := first | exact D.go | fail) [setR, List.getElem?_cons_zero, List.getElem?_cons_succ, q, f23.n0, f23.b0]
  exact (Ext.refl g).alloc.set (Nb.o (Nat.le_refl _))
end
end
end Go.Proofs.YtlfdcehdpnidnaaDoor.Tx

set_option linter.unusedSimpArgs false
set_option linter.unusedVariables false
namespace Go.Proofs.YtlfdcehdpnidnaaDoor.Tx
noncomputable section
open Go.AM Go.Proofs.YtlfdcehdpnidnaaDoor.Sf
section
variable {I : Inp}
def intC (n : Int) : List AVal := [.int .i64 n]
theorem intFix : Fix intC 1 := ⟨fun _ => rfl, fun _ => rfl, by omega⟩
def reasons : List Lk → List Int
  | [] => []
  | .ref w _ _ _ :: r => w :: reasons r
  | .oth _ :: r => reasons r
theorem reasons_first : ∀ (l : List Lk), reasons (firstOf l) = reasons l ∧ (firstOf l).length ≤ l.length
  | [] => ⟨rfl, Nat.le_refl _⟩
  | .ref _ _ _ _ :: _ => ⟨rfl, Nat.le_refl _⟩
  | .oth _ :: r => ⟨(reasons_first r).1, Nat.le_succ_of_le (reasons_first r).2⟩
theorem tChainL {hb : AHeap} : ∀ (d : Nat) (l : List Lk), l.length ≤ d → ∀ (e : AVal), OthOk l → ErrAt hb e l → ∀ (acc : List Int) (w : AVal) (i : Nat) (h : AHeap), Own intC 1 hb h w acc → Ext hb h → i + d < 1000 → acc.length = i →
    ∀ N, 4 * d + 4 ≤ N → Res ((f14.J I (AM.lim ⟨P, I, genF P Sh.prims⟩) (N)).1.2 e w (.int .i64 (i : Int)) h) fun u g => Own intC 1 hb g u (acc ++ reasons l) ∧ Ext hb g := by
  intro d
  induction d with
  | zero =>
    intro l hl e hn a acc w i h hw x hi hai N hN
    obtain rfl : l = [] := List.length_eq_zero_iff.1 (by omega)
    obtain ⟨n, rfl⟩ : ∃ n, N = n + 3 := ⟨N - 3, by omega⟩
    have hlt : (i : Int) < 1000 := by omega
    have hlo := x.lo
    have c := fun g x => first_nil (I := I) hn a rfl g x
    have hw2 : ∀ g, Ext h g → Own intC 1 hb g w (acc ++ reasons []) := fun g x => by rw [show acc ++ reasons [] = acc by simp [reasons]]; exact hw.mono x
    rw [f14.n1]; unfold f14.b1
    (repeat' (first | refine Rf (fun hF hG => ?_) (fun hF hG => ?_) | assumption | (show Ext _ _; exact Ext.go) | (simp only [AHeap.next_alloc, AHeap.next_set, AHeap.next_kill, AHeap.next_res] at hle hsame) | simp (disch := first | exact D.go | fail) [setR, List.getElem?_cons_zero, List.getElem?_cons_succ, f14.n2, f14.b2, f14.n0, f14.b0, hlt, *] | (refine Ret.thn (h0 := hb) (c _ Ext.go) ?_ (fun g hg hlo hle hsame hx => ?_))))
    all_goals exact hw2 _ (by assumption)
  | succ d ih =>
    intro l hl e hn a acc w i h hw x hi hai N hN
    obtain ⟨n, rfl⟩ : ∃ n, N = n + 4 := ⟨N - 4, by omega⟩
    have hlt : (i : Int) < 1000 := by omega
    have hlo := x.lo
    obtain ⟨rf1, rf2⟩ := reasons_first l
    cases hf : firstOf l with
    | nil =>
      have c := fun g x => first_nil (I := I) hn a hf g x
      have hz : reasons l = [] := by rw [← rf1, hf]; rfl
      have hw2 : ∀ g, Ext h g → Own intC 1 hb g w (acc ++ reasons l) := fun g x => by rw [hz, List.append_nil]; exact hw.mono x
      clear ih
      rw [f14.n1]; unfold f14.b1
      (repeat' (first | refine Rf (fun hF hG => ?_) (fun hF hG => ?_) | assumption | (show Ext _ _; exact Ext.go) | (simp only [AHeap.next_alloc, AHeap.next_set, AHeap.next_kill, AHeap.next_res] at hle hsame) | simp (disch := first | exact D.go | fail) [setR, List.getElem?_cons_zero, List.getElem?_cons_succ, f14.n2, f14.b2, f14.n0, f14.b0, hlt, *] | (refine Ret.thn (h0 := hb) (c _ Ext.go) ?_ (fun g hg hlo hle hsame hx => ?_))))
      all_goals first | exact hw2 _ (by assumption) | exact hw.mono (by assumption)
    | cons y r =>
      cases y with
      | oth s =>
        exfalso
        have : ∀ l : List Lk, firstOf l ≠ .oth s :: r := by
          intro l; induction l with
          | nil => simp [firstOf]
          | cons z t iht => cases z <;> simp [firstOf, iht]
        exact this l hf
      | ref wy f b j =>
        obtain ⟨k, v, hk, hkl, av, nr, c, _⟩ := first_ref (I := I) hn a hf
        have hz : reasons l = wy :: reasons r := by rw [← rf1, hf]; rfl
        have hlen : r.length ≤ d := by rw [hf] at rf2; simp at rf2; omega
        have hwi := wrap_in (n := (i : Int) + 1) ⟨by omega, by omega⟩
        have ih2 := fun (acc' : List Int) (w' : AVal) (g : AHeap) (ow : Own intC 1 hb g w' acc') (xg : Ext hb g) (hl' : acc'.length = i + 1) => ih r hlen v nr av acc' w' (i + 1) g ow xg (by omega) hl' n (by omega)
        simp only [Int.natCast_add, Int.natCast_one] at ih2
        clear ih
        have hkg : ∀ g, Ext hb g → g.get k = some ⟨[.int .i64 wy, .int .i64 f, .int .i64 b, .int .i64 j, v], true⟩ := fun g x => (x.same _ hkl).trans hk
        have hkh := hkg h x
        rw [hz]
        rw [f14.n1]; unfold f14.b1
        (repeat' (first | refine Rf (fun hF hG => ?_) (fun hF hG => ?_) | assumption | (show Ext _ _; exact Ext.go) | (simp only [AHeap.next_alloc, AHeap.next_set, AHeap.next_kill, AHeap.next_res] at hle hsame) | simp (disch := first | exact D.go | fail) [setR, List.getElem?_cons_zero, List.getElem?_cons_succ, f14.n2, f14.b2, f14.n4, f14.b4, hlt, hkh, *] | (refine Ret.thn (h0 := hb) (c _ Ext.go) ?_ (fun g hg hlo hle hsame hx => ?_))))
        have hvo := av.one
        refine Res.after (app_own (I := I) (f := intC) intFix (hw.mono (hx.trans (Ext.refl g).alloc)) (hg.alloc) wy (bytes := 8) (by omega) (by omega) (AHeap.alloc_at (Nb.o rfl))) (fun u2 g2 hA => ?_)
        obtain ⟨o2, x2, l2, _⟩ := hA
        have hk2 := hkg g2 x2
        have hend := fun m (hm : m = n) => ih2 (acc ++ [wy]) u2 g2 o2 x2 (by simp; omega)
        simp only [List.append_assoc, List.singleton_append] at hend
        clear ih2 c hkh
        (repeat' (first | refine Rf (fun hF hG => ?_) (fun hF hG => ?_) | assumption | (show Ext _ _; exact Ext.go) | (simp only [AHeap.next_alloc, AHeap.next_set, AHeap.next_kill, AHeap.next_res] at hle hsame) | simp (disch := first | exact D.go | fail) [setR, List.getElem?_cons_zero, List.getElem?_cons_succ, f14.n3, f14.b3, hk2, hvo.1, hvo.2, hwi, *]))
        all_goals exact hend n rfl
theorem tChain {hb : AHeap} {l : List Lk} {e : AVal} (hn : OthOk l) (a : ErrAt hb e l) (hl : l.length < 1000) : Res (CI I 14 [e] hb) fun u g => Own intC 1 hb g u (reasons l) ∧ Ext hb g := by
  refine f14.lim rfl (n := 4 * l.length + 5) ?_
  unfold f14.e
  have := tChainL (I := I) l.length l (Nat.le_refl _) e hn a [] .nils 0 hb Own.nil (Ext.refl hb) (by omega) rfl (4 * l.length + 5) (by omega)
  rw [List.nil_append] at this
  exact this
/-- The first refusal's reason. -/
def whyOf : List Lk → Int
  | .ref w _ _ _ :: _ => w
  | _ => 0
theorem tWhy {hb : AHeap} {l : List Lk} {e : AVal} (hn : OthOk l) (a : ErrAt hb e l) (h : AHeap) (x : Ext hb h) : Ret (CI I 13 [e] h) h (.int .i64 (whyOf (firstOf l))) := by
  refine f13.lim rfl (n := 2) ?_
  unfold f13.e
  have eb := x
  cases hf : firstOf l with
  | nil =>
    have c := first_nil (I := I) hn a hf h x
    obtain ⟨_, g, c1, rfl, x1⟩ := c
    simp (disch := first | exact D.go | fail) [setR, List.getElem?_cons_zero, List.getElem?_cons_succ, c1, f13.n0, f13.b0, whyOf, x1]
  | cons y r =>
    cases y with
    | oth s =>
      exfalso
      have : ∀ l : List Lk, firstOf l ≠ .oth s :: r := by
        intro l; induction l with
        | nil => simp [firstOf]
        | cons z t iht => cases z <;> simp [firstOf, iht]
      exact this l hf
    | ref wy f b j =>
      obtain ⟨k, v, hk, hkl, av, nr, c, _⟩ := first_ref (I := I) hn a hf
      obtain ⟨_, g, c1, rfl, x1⟩ := c h x
      have hkg : g.get k = some ⟨[.int .i64 wy, .int .i64 f, .int .i64 b, .int .i64 j, v], true⟩ := ((x.trans x1).same _ hkl).trans hk
      simp (disch := first | exact D.go | fail) [setR, List.getElem?_cons_zero, List.getElem?_cons_succ, c1, hkg, whyOf, x1]
/-- .. its place. -/
def placeOf : List Lk → AVal
  | .ref _ f b i :: _ => if 0 ≤ f then .tuple [.agg [.int .i64 f, .int .i64 b, .int .i64 i], .bool true] else .tuple [.agg [Z 0, Z 0, Z 0], .bool false]
  | _ => .tuple [.agg [Z 0, Z 0, Z 0], .bool false]
theorem tWhere {hb : AHeap} {l : List Lk} {e : AVal} (hn : OthOk l) (a : ErrAt hb e l) (h : AHeap) (x : Ext hb h) : Ret (CI I 7 [e] h) h (placeOf (firstOf l)) := by
  refine f7.lim rfl (n := 2) ?_
  unfold f7.e
  have xa : Ext h (h.alloc ⟨[Z 0, Z 0, Z 0], true⟩) := (Ext.refl h).alloc
  cases hf : firstOf l with
  | nil =>
    have c := first_nil (I := I) hn a hf _ (x.trans xa)
    obtain ⟨_, g, c1, rfl, x1⟩ := c
    have hgn : g.get h.next = some ⟨[Z 0, Z 0, Z 0], true⟩ := (x1.same _ (by simp)).trans (AHeap.alloc_at (Nb.o rfl))
    have x2 : Ext h g := xa.trans x1
    simp (disch := first | exact D.go | fail) [setR, List.getElem?_cons_zero, List.getElem?_cons_succ, c1, f7.n0, f7.b0, placeOf, hgn]
    exact x2.set (Nb.o (Nat.le_refl _))
  | cons y r =>
    cases y with
    | oth s =>
      exfalso
      have : ∀ l : List Lk, firstOf l ≠ .oth s :: r := by
        intro l; induction l with
        | nil => simp [firstOf]
        | cons z t iht => cases z <;> simp [firstOf, iht]
      exact this l hf
    | ref wy f b j =>
      obtain ⟨k, v, hk, hkl, av, nr, c, _⟩ := first_ref (I := I) hn a hf
      obtain ⟨_, g, c1, rfl, x1⟩ := c _ (x.trans xa)
      have x2 : Ext h g := xa.trans x1
      have hkg : g.get k = some ⟨[.int .i64 wy, .int .i64 f, .int .i64 b, .int .i64 j, v], true⟩ := ((x.trans x2).same _ hkl).trans hk
      have hgn : g.get h.next = some ⟨[Z 0, Z 0, Z 0], true⟩ := (x1.same _ (by simp)).trans (AHeap.alloc_at (Nb.o rfl))
      by_cases hf0 : 0 ≤ f
      · simp (disch := first | exact D.go | fail) [setR, List.getElem?_cons_zero, List.getElem?_cons_succ, c1, hkg, hgn, placeOf, hf0]
        exact x2.set (Nb.o (Nat.le_refl _))
      · simp (disch := first | exact D.go | fail) [setR, List.getElem?_cons_zero, List.getElem?_cons_succ, c1, hkg, hgn, placeOf, hf0, f7.n0, f7.b0]
        exact x2.set (Nb.o (Nat.le_refl _))
/-- errors.Unwrap of a refusal. -/
theorem tUnwrap {hb : AHeap} {w f b i : Int} {r : List Lk} {e : AVal} (a : ErrAt hb e (.ref w f b i :: r)) : ∃ v, ErrAt hb v r ∧ ∀ h, Ext hb h → CI I 22 [e] h = some (v, h) := by
  cases a with
  | @ref k _ _ _ _ v _ a1 a2 a3 a4 =>
    refine ⟨v, a4, fun h x => ?_⟩
    have hk := (x.same _ a2).trans a1
    have q4 := asU_ref (.ptr (.own k) 0)
    have q5 := inv_ptr' (call := CI I) mUn (.own k) 0 [] h
    have q6 : CI I 10 [.ptr (.own k) 0] h = some (v, h) := by
      refine Res.eq (f10.lim rfl (n := 2) ?_)
      unfold f10.e
      (repeat' (first | refine Rf (fun hF hG => ?_) (fun hF hG => ?_) | assumption | (show Ext _ _; exact Ext.go) | (simp only [AHeap.next_alloc, AHeap.next_set, AHeap.next_kill, AHeap.next_res] at hle hsame) | simp (disch := first | exact D.go | fail) [setR, List.getElem?_cons_zero, List.getElem?_cons_succ, f10.n0, f10.b0, hk, *]))
    rw [q6] at q5
    refine Res.eq (f22.lim rfl (n := 2) ?_)
    unfold f22.e
    simp (disch := first | exact D.go | fail) [setR, List.getElem?_cons_zero, List.getElem?_cons_succ, f22.n0, f22.b0, q4, q5]
end
end
end Go.Proofs.YtlfdcehdpnidnaaDoor.Tx

set_option linter.unusedSimpArgs false
set_option linter.unusedVariables false
namespace Go.Proofs.YtlfdcehdpnidnaaDoor.Tx
noncomputable section
open Go.AM Go.Proofs.YtlfdcehdpnidnaaDoor.Sf
section
variable {I : Inp} {h0 : AHeap}
/-! a chain is made of links -/
structure Lnk where
  w : Int
  f : Int
  b : Int
  i : Int
  oth : Bool
  s : List Nat
  deriving Inhabited
abbrev Lnk.cells (x : Lnk) : List AVal := [.int .i64 x.w, .int .i64 x.f, .int .i64 x.b, .int .i64 x.i, .bool x.oth, .str x.s]
def LnkC (cs : List AVal) (x : Lnk) : Prop := cs = x.cells ∧ InR x.w ∧ InR x.f ∧ InR x.b ∧ InR x.i
def Lnk.lk (x : Lnk) : Lk := if x.oth then .oth (x.s.take 20) else .ref x.w x.f x.b x.i
abbrev chainOf (xs : List Lnk) : List Lk := xs.map Lnk.lk
def nameT (w : Int) : List Nat := if w = 1 then [98, 121, 116, 101, 115] else if w = 2 then [98, 111, 117, 110, 100] else if w = 3 then [110, 97, 109, 101] else if w = 4 then [116, 121, 112, 101] else if w = 5 then [97, 115, 115, 105, 103, 110] else if w = 6 then [115, 104, 97, 112, 101] else if w = 7 then [109, 101, 116, 104, 111, 100, 115] else [63]
instance (w : Int) : StrB (nameT w) 7 := ⟨by
  unfold nameT
  by_cases h1 : w = 1
  · simp [h1]
  by_cases h2 : w = 2
  · simp [h2]
  by_cases h3 : w = 3
  · simp [h3]
  by_cases h4 : w = 4
  · simp [h4]
  by_cases h5 : w = 5
  · simp [h5]
  by_cases h6 : w = 6
  · simp [h6]
  by_cases h7 : w = 7
  · simp [h7]
  simp [h1, h2, h3, h4, h5, h6, h7]⟩
theorem rName (w : Int) (h : AHeap) : (AM.lim ⟨P, I, genF P Sh.prims⟩) 17 [.int .i64 w] h = some (.str (nameT w), h) := by
  refine Res.eq (f17.lim rfl (n := 1) ?_)
  unfold f17.e
  unfold nameT
  (repeat' (first | refine Rf (fun hF hG => ?_) (fun hF hG => ?_) | assumption | (show Ext _ _; exact Ext.go) | (simp only [AHeap.next_alloc, AHeap.next_set, AHeap.next_kill, AHeap.next_res] at hle hsame) | simp (disch := first | exact D.go | fail) [setR, List.getElem?_cons_zero, List.getElem?_cons_succ, f17.n0, f17.b0, *]))
def errText (w f b i : Int) : List Nat := if 0 ≤ f then nameT w ++ ((([32, 97, 116, 32] ++ decT f ++ [46]) ++ decT b ++ [46]) ++ decT i) else nameT w
def textOf (l : List Lk) : List Nat := match firstOf l with
  | .ref w f b i :: _ => errText w f b i
  | _ => []
/-- A link in a variable of one's own, its text cut. -/
theorem mRef {xs : List Lnk} {v : AVal} {h : AHeap} {m : Nat} {x : Lnk} {e w : AVal} {l : List Lk} {t : List Nat} {i : Int} (hx : LnkC x.cells x) (ho : x.oth = false) (hm : h.get m = some ⟨x.cells, true⟩) (hml : m < h.next) (a : ErrAt h e l) (sw : SlOf 1 (IntA I h) w (reasons l)) (hlen : (reasons l).length ≤ 100) {Q : AVal → AHeap → Prop} (n : Nat)
    (hQ : ∀ e' w' g, ErrAt g e' (.ref x.w x.f x.b x.i :: l) → SlOf 1 (IntA I g) w' (x.w :: reasons l) → Ext h g → Res ((f12.J I (AM.lim ⟨P, I, genF P Sh.prims⟩) (n)).2.1.1 v e' (.str (errText x.w x.f x.b x.i)) w' (.int .i64 i) g) Q) :
    Res ((f12.J I (AM.lim ⟨P, I, genF P Sh.prims⟩) (n + 3)).2.1.2 v e (.str t) w (.int .i64 i) (.ptr (.own m) 0) h) Q := by
  obtain ⟨_, r0, r1, r2, r3⟩ := hx
  have c0 := fun g => rName (I := I) x.w g
  have fin : ∀ g, Ext h g → Res ((f12.J I (AM.lim ⟨P, I, genF P Sh.prims⟩) (n + 1)).2.2.2 v e w (.int .i64 i) (.ptr (.own m) 0) (.str (errText x.w x.f x.b x.i)) g) Q := by
    intro g xg
    obtain ⟨u, g1, c1, a1, x1⟩ := tNew (I := I) x.w x.f x.b x.i (a.mono xg)
    have hlo := x1.lo
    have hlo0 := xg.lo
    have k1 := (xg.same _ hml).trans hm
    have k2 := (x1.same _ (by omega)).trans k1
    obtain ⟨u2, g2, c2, s2, x2⟩ := append_one_ints (I := I) (h0 := h) (h := g1.alloc ⟨[.int .i64 x.w], true⟩) (k := g1.next) (a := x.w) (AHeap.alloc_at (Nb.o rfl)) (by simp) r0 sw ((xg.trans x1).alloc) (by omega)
    have hq := hQ u u2 g2 (a1.mono ((Ext.refl g1).alloc.trans x2)) s2 (((xg.trans x1).alloc).trans x2)
    rw [f12.n6]; unfold f12.b6
    simp (disch := first | exact D.go | fail) [setR, List.getElem?_cons_zero, List.getElem?_cons_succ, k1, k2, c1, c2]
    exact hq
  by_cases hf : 0 ≤ x.f
  · obtain ⟨_, g1, d1, rfl, x1⟩ := rDec (I := I) r1 h
    obtain ⟨_, g2, d2, rfl, x2⟩ := rDec (I := I) r2 g1
    obtain ⟨_, g3, d3, rfl, x3⟩ := rDec (I := I) r3 g2
    have l1 := x1.lo
    have l2 := x2.lo
    have k1 := (x1.same _ hml).trans hm
    have k2 := (x2.same _ (by omega)).trans k1
    have hfin := fin g3 ((x1.trans x2).trans x3)
    have ht : errText x.w x.f x.b x.i = nameT x.w ++ ((([32, 97, 116, 32] ++ decT x.f ++ [46]) ++ decT x.b ++ [46]) ++ decT x.i) := by unfold errText; rw [if_pos hf]
    rw [ht] at hfin
    clear fin hQ
    rw [f12.n4]; unfold f12.b4
    simp (disch := first | exact D.go | fail) [setR, List.getElem?_cons_zero, List.getElem?_cons_succ, hm, ho, f12.n5, f12.b5, c0, hf, d1, d2, d3, k1, k2]
    simpa using hfin
  · have hfin := fin h (Ext.refl h)
    have ht : errText x.w x.f x.b x.i = nameT x.w := by unfold errText; rw [if_neg hf]
    rw [ht] at hfin
    clear fin hQ
    rw [f12.n4]; unfold f12.b4
    simp (disch := first | exact D.go | fail) [setR, List.getElem?_cons_zero, List.getElem?_cons_succ, hm, ho, f12.n5, f12.b5, c0, hf]
    exact hfin
theorem mOth {v : AVal} {h : AHeap} {m : Nat} {x : Lnk} {e w : AVal} {l : List Lk} {t : List Nat} {i : Int} (ho : x.oth = true) (hm : h.get m = some ⟨x.cells, true⟩) (hml : m < h.next) (a : ErrAt h e l) {Q : AVal → AHeap → Prop} (n : Nat)
    (hQ : ∀ e' g, ErrAt g e' (.oth x.s :: l) → Ext h g → Res ((f12.J I (AM.lim ⟨P, I, genF P Sh.prims⟩) (n + 2)).2.1.1 v e' (.str t) w (.int .i64 i) g) Q) :
    Res ((f12.J I (AM.lim ⟨P, I, genF P Sh.prims⟩) (n + 3)).2.1.2 v e (.str t) w (.int .i64 i) (.ptr (.own m) 0) h) Q := by
  obtain ⟨o1, o2⟩ := a.one
  have hq := hQ (.iface 50 (.ptr (.own h.next) 0)) (h.alloc ⟨[.str x.s, e], true⟩) (.oth (AHeap.alloc_at (Nb.o rfl)) (by simp) (a.mono (Ext.refl h).alloc)) (Ext.refl h).alloc
  rw [f12.n4]; unfold f12.b4
  simp (disch := first | exact D.go | fail) [setR, List.getElem?_cons_zero, List.getElem?_cons_succ, hm, ho, o1, o2]
  exact hq
theorem cut20 {s : List Nat} (h : 20 < s.length) : pSliceStr (.str s) none (some (Z 20)) = some (.str (s.take 20)) := by
  show (match Nat.ble 0 20 && Nat.ble 20 s.length with | true => some (AVal.str ((s.drop 0).take (20 - 0))) | false => none) = _
  rw [Nat.ble_eq_true_of_le (by omega : 20 ≤ s.length)]; rfl
theorem tMadeL {v : AVal} {xs : List Lnk} (sv : SlOf 6 (At I h0 LnkC) v xs) (hl : xs.length ≤ 8) {hb : AHeap} (eb : Ext h0 hb) : ∀ (k : Nat), k ≤ xs.length → ∀ (h : AHeap) (e w : AVal), Ext hb h → ErrAt h e (chainOf (xs.drop k)) → SlOf 1 (IntA I h) w (reasons (chainOf (xs.drop k))) →
    ∀ N, 6 * k + 2 ≤ N → Res ((f12.J I (AM.lim ⟨P, I, genF P Sh.prims⟩) (N)).1.2.1 v e (.str (textOf (chainOf (xs.drop k)))) w (.int .i64 ((k : Int) - 1)) h) fun u g => (∃ e' w', u = .tuple [e', .str (textOf (chainOf xs)), w'] ∧ ErrAt g e' (chainOf xs) ∧ SlOf 1 (IntA I g) w' (reasons (chainOf xs))) ∧ Ext hb g := by
  intro k
  induction k with
  | zero =>
    intro _ h e w x a sw N hN
    obtain ⟨n, rfl⟩ : ∃ n, N = n + 2 := ⟨N - 2, by omega⟩
    rw [List.drop_zero] at a sw ⊢
    have hlt : ¬ (0 : Int) ≤ ((0 : Nat) : Int) - 1 := by omega
    have hend : (∃ e' w', (AVal.tuple [e, .str (textOf (chainOf xs)), w]) = .tuple [e', .str (textOf (chainOf xs)), w'] ∧ ErrAt h e' (chainOf xs) ∧ SlOf 1 (IntA I h) w' (reasons (chainOf xs))) ∧ Ext hb h := ⟨⟨e, w, rfl, a, sw⟩, x⟩
    rw [f12.n1]; unfold f12.b1
    generalize ((0 : Nat) : Int) - 1 = z at *
    generalize hP : (fun (u : AVal) (g : AHeap) => (∃ e' w', u = .tuple [e', .str (textOf (chainOf xs)), w'] ∧ ErrAt g e' (chainOf xs) ∧ SlOf 1 (IntA I g) w' (reasons (chainOf xs))) ∧ Ext hb g) = Q
    have hend : Q (.tuple [e, .str (textOf (chainOf xs)), w]) h := by rw [← hP]; exact hend
    clear hP sw a
    simp (disch := first | exact D.go | fail) [setR, List.getElem?_cons_zero, List.getElem?_cons_succ, f12.n0, f12.b0, hlt]
    exact hend
  | succ k ih =>
    intro hk h e w x a sw N hN
    obtain ⟨n, rfl⟩ : ∃ n, N = n + 6 := ⟨N - 6, by omega⟩
    have hx : xs[k]? = some xs[k] := List.getElem?_eq_getElem (by omega)
    generalize xs[k] = y at hx
    have hdrop : chainOf (xs.drop k) = y.lk :: chainOf (xs.drop (k + 1)) := by rw [drop_of_get hx]; rfl
    have hlenR : (reasons (chainOf (xs.drop (k + 1)))).length ≤ 100 := by
      have h1 : ∀ l : List Lk, (reasons l).length ≤ l.length := by
        intro l; induction l with
        | nil => exact Nat.le_refl _
        | cons z t iht => cases z <;> simp [reasons] <;> omega
      have := h1 (chainOf (xs.drop (k + 1)))
      simp only [chainOf, List.length_map, List.length_drop] at this ⊢
      omega
    generalize hL : chainOf (xs.drop (k + 1)) = L at *
    obtain ⟨lp, op, hi, ⟨cs, ⟨rfl, hr⟩, hc⟩⟩ := sv.at hx
    have hld := hc.rds h (eb.trans x) (n := 6) rfl (by omega)
    have hz : ((k + 1 : Nat) : Int) - 1 = (k : Int) := by omega
    have hge : (0 : Int) ≤ (k : Int) := by omega
    have hw := wrap_in (n := (k : Int) - 1) ⟨by omega, by omega⟩
    rw [hz]
    generalize hP : (fun (u : AVal) (g : AHeap) => (∃ e' w', u = .tuple [e', .str (textOf (chainOf xs)), w'] ∧ ErrAt g e' (chainOf xs) ∧ SlOf 1 (IntA I g) w' (reasons (chainOf xs))) ∧ Ext hb g) = Q at ih ⊢
    -- from the link in its variable on
    have mid : ∀ (z : Lnk) (H : AHeap), z = { y with s := y.s.take 20 } ∨ z = y ∧ y.s.length ≤ 20 → Ext h H → H.get h.next = some ⟨z.cells, true⟩ → h.next < H.next → Res ((f12.J I (AM.lim ⟨P, I, genF P Sh.prims⟩) (n + 4)).2.1.2 v e (.str (textOf L)) w (.int .i64 (k : Int)) (.ptr (.own h.next) 0) H) Q := by
      intro z H hzy xH hH hHn
      have hzs : z.s = y.s.take 20 ∧ z.w = y.w ∧ z.f = y.f ∧ z.b = y.b ∧ z.i = y.i ∧ z.oth = y.oth := by
        rcases hzy with rfl | ⟨rfl, hle⟩
        · exact ⟨rfl, rfl, rfl, rfl, rfl, rfl⟩
        · exact ⟨(List.take_of_length_le hle).symm, rfl, rfl, rfl, rfl, rfl⟩
      obtain ⟨z1, z2, z3, z4, z5, z6⟩ := hzs
      cases ho : y.oth with
      | true =>
        have hlk : y.lk = .oth z.s := by unfold Lnk.lk; rw [ho, z1]; rfl
        refine mOth (I := I) (x := z) (m := h.next) (l := L) (z6.trans ho) hH hHn (a.mono xH) (n + 1) fun e' g ae xg => ?_
        have hi2 := ih (by omega) g e' w ((x.trans xH).trans xg) (by rw [hdrop, hlk]; exact ae) (by rw [hdrop, hlk]; exact SlOf.mono (fun l o t c => At.mono (fun _ _ h => h) c (xH.trans xg)) sw) (n + 2) (by omega)
        rw [hdrop, hlk] at hi2
        rw [f12.n3]; unfold f12.b3
        simp (disch := first | exact D.go | fail) [setR, List.getElem?_cons_zero, List.getElem?_cons_succ, hw]
        exact hi2
      | false =>
        have hlk : y.lk = .ref z.w z.f z.b z.i := by unfold Lnk.lk; rw [ho, z2, z3, z4, z5]; rfl
        refine mRef (I := I) (xs := xs) (x := z) (m := h.next) (l := L) ⟨rfl, by rw [z2]; exact hr.1, by rw [z3]; exact hr.2.1, by rw [z4]; exact hr.2.2.1, by rw [z5]; exact hr.2.2.2⟩ (z6.trans ho) hH hHn (a.mono xH) (SlOf.mono (fun l o t c => At.mono (fun _ _ h => h) c xH) sw) hlenR (n + 1) fun e' w' g ae sg xg => ?_
        have hi2 := ih (by omega) g e' w' ((x.trans xH).trans xg) (by rw [hdrop, hlk]; exact ae) (by rw [hdrop, hlk]; exact sg) n (by omega)
        rw [hdrop, hlk] at hi2
        rw [f12.n3]; unfold f12.b3
        simp (disch := first | exact D.go | fail) [setR, List.getElem?_cons_zero, List.getElem?_cons_succ, hw]
        exact hi2
    clear ih hP
    rw [f12.n1]; unfold f12.b1
    by_cases hs : 20 < y.s.length
    · have hsI : (20 : Int) < (y.s.length : Int) := by omega
      have hm := mid { y with s := y.s.take 20 } (((h.alloc ⟨[Z 0, Z 0, Z 0, Z 0, .bool false, .str []], true⟩).set h.next ⟨y.cells, true⟩).set h.next ⟨[.int .i64 y.w, .int .i64 y.f, .int .i64 y.b, .int .i64 y.i, .bool y.oth, .str (y.s.take 20)], true⟩) (.inl rfl) (((Ext.refl h).alloc.set (Nb.o (Nat.le_refl _))).set (Nb.o (Nat.le_refl _))) (AHeap.set_at (Nb.o rfl)) (by simp)
      have hcut := cut20 hs
      clear mid
      simp (disch := first | exact D.go | fail) [setR, List.getElem?_cons_zero, List.getElem?_cons_succ, hge, f12.n2, f12.b2, hi, hld, hsI, hcut]
      exact hm
    · have hsI : ¬ (20 : Int) < (y.s.length : Int) := by omega
      have hm := mid y ((h.alloc ⟨[Z 0, Z 0, Z 0, Z 0, .bool false, .str []], true⟩).set h.next ⟨y.cells, true⟩) (.inr ⟨rfl, by omega⟩) ((Ext.refl h).alloc.set (Nb.o (Nat.le_refl _))) (AHeap.set_at (Nb.o rfl)) (by simp)
      clear mid
      simp (disch := first | exact D.go | fail) [setR, List.getElem?_cons_zero, List.getElem?_cons_succ, hge, f12.n2, f12.b2, hi, hld, hsI]
      exact hm
theorem tMade {v : AVal} {xs : List Lnk} (sv : SlOf 6 (At I h0 LnkC) v xs) (hl : xs.length ≤ 8) {hb : AHeap} (eb : Ext h0 hb) : Res (CI I 12 [v] hb) fun u g => (∃ e' w', u = .tuple [e', .str (textOf (chainOf xs)), w'] ∧ ErrAt g e' (chainOf xs) ∧ SlOf 1 (IntA I g) w' (reasons (chainOf xs))) ∧ Ext hb g := by
  have h := tMadeL (I := I) sv hl eb xs.length (Nat.le_refl _) hb .nili .nils (Ext.refl hb) (by rw [List.drop_length]; exact .nil) (by rw [List.drop_length]; exact SlOf.nil) (6 * xs.length + 2) (Nat.le_refl _)
  rw [List.drop_length] at h
  have hw := wrap_in (n := (xs.length : Int) - 1) ⟨by omega, by omega⟩
  refine f12.lim rfl (n := 6 * xs.length + 2) ?_
  unfold f12.e
  generalize (fun (u : AVal) (g : AHeap) => (∃ e' w', u = .tuple [e', .str (textOf (chainOf xs)), w'] ∧ ErrAt g e' (chainOf xs) ∧ SlOf 1 (IntA I g) w' (reasons (chainOf xs))) ∧ Ext hb g) = Q at h ⊢
  simp (disch := first | exact D.go | fail) [setR, List.getElem?_cons_zero, List.getElem?_cons_succ, sv.len, hw]
  exact h
end
end
end Go.Proofs.YtlfdcehdpnidnaaDoor.Tx

set_option linter.unusedSimpArgs false
set_option linter.unusedVariables false
namespace Go.Proofs.YtlfdcehdpnidnaaDoor.Tx
noncomputable section
open Go.AM Go.Proofs.YtlfdcehdpnidnaaDoor.Sf
section
variable {I : Inp} {h0 : AHeap}
theorem take8 {R : AM.Loc → Nat → Lnk → Prop} {v : AVal} {xs : List Lnk} (sv : SlOf 6 R v xs) (h : 8 < xs.length) : ∃ u, pSliceS 6 v none (some (Z 8)) none = some u ∧ SlOf 6 R u (xs.take 8) := by
  rcases sv with ⟨rfl, rfl⟩ | ⟨l, o, cap, rfl, hc, hn, hx⟩
  · simp at h
  · have hlen : (xs.take 8).length = 8 := by rw [List.length_take]; omega
    refine ⟨.sl l o 8 (capMinus cap 0), ?_, .inr ⟨l, o, capMinus cap 0, by rw [hlen], ?_, ⟨by rw [hlen]; omega, fun h' => by rw [h'] at hlen; simp at hlen⟩, fun i x hi => hx i x ?_⟩⟩
    · have hb : (Nat.ble 0 8 && capHas cap 6 xs.length 8) = true := by rw [hc 8 (by omega)]; rfl
      show (match Nat.ble 0 8 && capHas cap 6 xs.length 8 with
        | true => some (AVal.sl l (o + 0 * 6) (8 - 0) (capMinus cap 0))
        | false => none) = _
      rw [hb]; simp
    · intro m hm
      rw [hlen] at hm ⊢
      have h1 := hc m (by omega)
      cases cap with
      | known c => simpa [capMinus, capHas] using h1
      | grown s =>
        simp [capHas] at h1
        simp [capMinus, capHas, h1, hm]
    · rw [List.getElem?_take] at hi
      split at hi
      · exact hi
      · cases hi
/-- Is a number among some? -/
def InL (x : Int) : List Int → Prop
  | [] => False
  | y :: r => y = x ∨ InL x r
theorem rIn {v : AVal} {xs : List Int} {hb : AHeap} (sv : SlOf 1 (IntA I hb) v xs) (x : Int) : Ret (CI I 20 [v, .int .i64 x] hb) hb (.bool (dc (InL x xs))) := by
  have hL := sv.lt
  obtain ⟨N, hN⟩ := Evt.loop xs (F := fun i n => Res ((f20.J I (AM.lim ⟨P, I, genF P Sh.prims⟩) (n)).1.2 v (.int .i64 x) (.int .i64 (i : Int)) hb) fun u g => u = .bool (dc (InL x (xs.drop i))) ∧ g = hb) 4
    (Evt.all 4 fun n => by
      have hlt : ¬ (xs.length : Int) < xs.length := by omega
      have hz : dc (InL x (xs.drop xs.length)) = false := by rw [List.drop_length]; exact dc_off id
      rw [hz]
      rw [f20.n1]; unfold f20.b1
      simp (disch := first | exact D.go | fail) [setR, List.getElem?_cons_zero, List.getElem?_cons_succ, sv.len, f20.n0, f20.b0])
    (fun i y n hx ih => by
      obtain ⟨l, o, hi, ha⟩ := sv.at hx
      obtain ⟨ha, hr⟩ := ha.int
      have ha := ha hb (Ext.refl hb)
      have hlt := lt_of_get hx
      have hlt' : (i : Int) < xs.length := by omega
      have hw := wrap_in (n := (i : Int) + 1) ⟨by omega, by omega⟩
      simp only [Int.natCast_add, Int.natCast_one] at ih
      rw [drop_of_get hx]
      by_cases hy : y = x
      · have hz : dc (InL x (y :: xs.drop (i + 1))) = true := dc_of (.inl hy)
        rw [hz]
        clear hz ih
        rw [f20.n1]; unfold f20.b1
        simp (disch := first | exact D.go | fail) [setR, List.getElem?_cons_zero, List.getElem?_cons_succ, sv.len, hlt', f20.n2, f20.b2, hi, ha, hy]
      · have hz : dc (InL x (y :: xs.drop (i + 1))) = dc (InL x (xs.drop (i + 1))) := by
          show dc (y = x ∨ InL x (xs.drop (i + 1))) = _
          rw [dc_or, dc_off hy, Bool.false_or]
        rw [hz]
        clear hz
        have hi2 := fun m hm => ih m hm
        rw [f20.n1]; unfold f20.b1
        simp (disch := first | exact D.go | fail) [setR, List.getElem?_cons_zero, List.getElem?_cons_succ, sv.len, hlt', f20.n2, f20.b2, f20.n3, f20.b3, hi, ha, hy, hw]
        exact hi2 _ (by omega))
    0 (by omega)
  have h := hN (N + 1) (by omega)
  rw [List.drop_zero] at h
  refine f20.lim rfl (n := N + 1) ?_
  unfold f20.e
  exact h.mono fun u g ⟨h1, h2⟩ => ⟨h1, by rw [h2]; exact Ext.refl hb⟩
theorem anyW_zero : ∀ l : List Lk, anyW 0 l ↔ reasons l ≠ []
  | [] => ⟨fun h => h.elim, fun h => h rfl⟩
  | .ref w f b i :: r => ⟨fun _ => by simp [reasons], fun _ => .inl (.inl rfl)⟩
  | .oth s :: r => anyW_zero r
theorem anyW_in (x : Int) : ∀ l : List Lk, anyW x l ↔ (InL x (reasons l) ∨ x = 0 ∧ reasons l ≠ [])
  | [] => ⟨fun h => h.elim, fun h => by rcases h with h | h; exact h.elim; exact h.2 rfl⟩
  | .ref w f b i :: r => by
    have ih := anyW_in x r
    constructor
    · rintro ((h | h) | h)
      · exact .inr ⟨h, by simp [reasons]⟩
      · exact .inl (.inl h.symm)
      · rcases ih.1 h with h | ⟨h, _⟩
        · exact .inl (.inr h)
        · exact .inr ⟨h, by simp [reasons]⟩
    · rintro ((h | h) | ⟨h, _⟩)
      · exact .inl (.inr h.symm)
      · exact .inr (ih.2 (.inl h))
      · exact .inl (.inl h)
  | .oth s :: r => anyW_in x r
theorem tLawIs {v : AVal} {xs : List Lnk} (sv : SlOf 6 (At I h0 LnkC) v xs) (he : ∀ h : AHeap, Ext h0 h) (x : Int) : Res (CI I 5 [v, .int .i64 x] ⟨.nil, 0⟩) fun u g => u = .bool true := by
  have hbg := fun h => begun (I := I) h
  have core : ∀ (v : AVal) (xs : List Lnk), SlOf 6 (At I h0 LnkC) v xs → xs.length ≤ 8 → ∀ n, Res ((f5.J I (AM.lim ⟨P, I, genF P Sh.prims⟩) (n + 1)).2 v (.int .i64 x) ⟨.nil, 0⟩) fun u g => u = .bool true := by
    intro v xs sv hl n
    obtain ⟨_, g, c1, ⟨⟨e, w, rfl, ae, sw⟩, x1⟩⟩ := tMade (I := I) sv hl (he ⟨.nil, 0⟩)
    generalize chainOf xs = L at *
    obtain ⟨g1, hg1⟩ : ∃ g1, g1 = g.alloc ⟨[Z 0, Z 0, Z 0, Z 0, .nili], true⟩ := ⟨_, rfl⟩
    have xg1 : Ext g g1 := by rw [hg1]; exact (Ext.refl g).alloc
    have hg1n : g1.next = g.next + 1 := by rw [hg1]; simp
    have c2 := tIs (I := I) (tw := 0) (m := g.next) (h := g1) ae xg1 (Nat.le_refl _) (by rw [hg1]; exact AHeap.alloc_at (Nb.o rfl))
    obtain ⟨g2, hg2⟩ : ∃ g2, g2 = g1.alloc ⟨[.int .i64 x, Z 0, Z 0, Z 0, .nili], true⟩ := ⟨_, rfl⟩
    have xg2 : Ext g1 g2 := by rw [hg2]; exact (Ext.refl g1).alloc
    have hg2n : g2.next = g1.next + 1 := by rw [hg2]; simp
    have c3 := tIs (I := I) (tw := x) (m := g1.next) (h := g2) ae (xg1.trans xg2) (by omega) (by rw [hg2]; exact AHeap.alloc_at (Nb.o rfl))
    obtain ⟨_, g3, c4, rfl, x3⟩ := rIn (I := I) (SlOf.mono (fun l o t c => At.mono (fun _ _ h => h) c (xg1.trans xg2)) sw) x
    have hlo3 := x3.lo
    have c5 := tIsO (I := I) (m := g3.next) (h := g3.alloc ⟨[.str [], .nili], true⟩) (y := ⟨[.str [], .nili], true⟩) ae ((((xg1.trans xg2).trans x3)).alloc) (by omega) (AHeap.alloc_at (Nb.o rfl)) rfl
    have e0 : dc (anyW 0 L) = dc (0 < ((reasons L).length : Int)) := by
      have h1 := anyW_zero L
      cases hr : reasons L with
      | nil => rw [hr] at h1; rw [dc_off (fun h => h1.1 h rfl), dc_off (by simp)]
      | cons a r => rw [hr] at h1; rw [dc_of (h1.2 (by simp)), dc_of (by simp only [List.length_cons]; omega)]
    have e1 := anyW_in x L
    have hlw := sw.len
    rw [e0] at c2
    generalize hR : reasons L = R at *
    rw [f5.n1]; unfold f5.b1
    by_cases hi : InL x R
    · have d1 : dc (InL x R) = true := dc_of hi
      have d2 : dc (anyW x L) = true := dc_of (e1.2 (.inl hi))
      rw [d1] at c4
      rw [d2] at c3
      subst hg1 hg2
      simp only [AHeap.next_alloc] at c3
      clear e1 hi d1 d2
      simp (disch := first | exact D.go | fail) [setR, List.getElem?_cons_zero, List.getElem?_cons_succ, c1, c2, c3, c4, c5, hlw]
    · have d1 : dc (InL x R) = false := dc_off hi
      rw [d1] at c4
      by_cases hx0 : x = 0
      · by_cases hR0 : R = []
        · have d2 : dc (anyW x L) = false := dc_off fun h => by rcases e1.1 h with h | h; exact hi h; exact h.2 hR0
          rw [d2] at c3
          subst hg1 hg2
          simp only [AHeap.next_alloc] at c3
          clear e1 hi d1 d2 e0
          subst hR0
          subst hx0
          simp (disch := first | exact D.go | fail) [setR, List.getElem?_cons_zero, List.getElem?_cons_succ, c1, c2, c3, c4, c5, hlw]
        · have d2 : dc (anyW x L) = true := dc_of (e1.2 (.inr ⟨hx0, hR0⟩))
          have hpos' : 0 < R.length := List.length_pos_iff.2 hR0
          have hpos : (0 : Int) < R.length := by omega
          rw [d2] at c3
          subst hg1 hg2
          simp only [AHeap.next_alloc] at c3
          clear e1 hi d1 d2 e0
          rw [dc_of hpos] at c2
          subst hx0
          simp (disch := first | exact D.go | fail) [setR, List.getElem?_cons_zero, List.getElem?_cons_succ, c1, c2, c3, c4, c5, hlw, hpos, hpos']
      · have d2 : dc (anyW x L) = false := dc_off fun h => by rcases e1.1 h with h | h; exact hi h; exact hx0 h.1
        rw [d2] at c3
        subst hg1 hg2
        simp only [AHeap.next_alloc] at c3
        clear e1 hi d1 d2 e0
        simp (disch := first | exact D.go | fail) [setR, List.getElem?_cons_zero, List.getElem?_cons_succ, c1, c2, c3, c4, c5, hlw, hx0]
  by_cases hl : 8 < xs.length
  · obtain ⟨u, cu, su⟩ := take8 sv hl
    have hend := core u (xs.take 8) su (by rw [List.length_take]; omega)
    have hl' : (8 : Int) < xs.length := by omega
    refine f5.lim rfl (n := 3) ?_
    unfold f5.e
    simp (disch := first | exact D.go | fail) [setR, List.getElem?_cons_zero, List.getElem?_cons_succ, hbg, sv.len, hl', cu, f5.n0, f5.b0]
    exact hend _
  · have hend := core v xs sv (by omega)
    have hl' : ¬ (8 : Int) < xs.length := by omega
    refine f5.lim rfl (n := 3) ?_
    unfold f5.e
    simp (disch := first | exact D.go | fail) [setR, List.getElem?_cons_zero, List.getElem?_cons_succ, hbg, sv.len, hl', f5.n0, f5.b0]
    exact hend _
end
end
end Go.Proofs.YtlfdcehdpnidnaaDoor.Tx

set_option linter.unusedSimpArgs false
set_option linter.unusedVariables false
set_option linter.unusedSectionVars false
namespace Go.Proofs.YtlfdcehdpnidnaaDoor.Tx
noncomputable section
open Go.AM Go.Proofs.YtlfdcehdpnidnaaDoor.Sf
open Go.WideShapes Go.ChangeShapes Go.RowKit
/-! links that came in -/
section
variable {H : Type} {enc : TypeId × Value → H} {W : World} {h0 : AHeap}
variable [AM.Sig]
theorem trod_str {P : Program} {base : Nat} {sp : Nat → Bool} {held : Bool} {n : Nat} {t : TypeId} {cs : List Value} {x : DataW H × List MemPlace} (ht : P.underlying t = some .string) (h : DataW.trod enc P W base sp held n t cs = some x) : ∃ b, cs = [.string b] := by
  cases n with
  | zero => cases h
  | succ n =>
    rw [DataW.trod_step] at h
    unfold DataW.trodStep at h
    rw [ht] at h
    split at h <;> try (rename_i e; cases e; done)
    all_goals first
      | exact ⟨_, rfl⟩
      | cases h
theorem split3 {cs : List Value} (hc : cs.length = 3) : cs = (cs.drop 0).take 1 ++ (cs.drop 1).take 1 ++ (cs.drop 2).take 1 := by
  match cs, hc with
  | [c0, c1, c2], _ => rfl
theorem split6 {cs : List Value} (hc : cs.length = 6) : cs = (cs.drop 0).take 1 ++ (cs.drop 1).take 3 ++ (cs.drop 4).take 1 ++ (cs.drop 5).take 1 := by
  match cs, hc with
  | [c0, c1, c2, c3, c4, c5], _ => rfl
def BoolC (cs : List AVal) (b : Bool) : Prop := cs = [.bool b]
def StrC (cs : List AVal) (s : List Nat) : Prop := cs = [.str s]
theorem uINT : P.underlying 3 = some (.int .i64) := by kernel_rfl
theorem uBOOL : P.underlying 4 = some .bool := by kernel_rfl
theorem uSTR : P.underlying 9 = some .string := by kernel_rfl
theorem sPT : structOf P 24 = some [(3, 0), (3, 1), (3, 2)] := by kernel_rfl
theorem sLK : structOf P 46 = some [(3, 0), (24, 1), (4, 4), (9, 5)] := by kernel_rfl
theorem cINT : P.cellsOf 3 = 1 := by kernel_rfl
theorem cBOOL : P.cellsOf 4 = 1 := by kernel_rfl
theorem cSTR : P.cellsOf 9 = 1 := by kernel_rfl
theorem cPT : P.cellsOf 24 = 3 := by kernel_rfl
theorem cLK : P.cellsOf 46 = 6 := by kernel_rfl
theorem opens_bool : Opens (α := Bool) enc P W h0 4 BoolC := by
  intro n cs y h _
  obtain ⟨b, rfl⟩ := trod_bool uBOOL h
  exact ⟨_, b, rfl, rfl⟩
theorem opens_str : Opens (α := List Nat) enc P W h0 9 StrC := by
  intro n cs y h _
  obtain ⟨b, rfl⟩ := trod_str uSTR h
  exact ⟨[.str (b.data.toList.map UInt8.toNat)], _, rfl, rfl⟩
def Pt3C (cs : List AVal) (p : Int × Int × Int) : Prop := cs = [.int .i64 p.1, .int .i64 p.2.1, .int .i64 p.2.2] ∧ InR p.1 ∧ InR p.2.1 ∧ InR p.2.2
theorem opens_pt : Opens (α := Int × Int × Int) enc P W h0 24 Pt3C := by
  intro n cs y h hc
  rw [cPT] at hc
  obtain ⟨_, m, hm⟩ := trod_fields sPT h
  obtain ⟨a0, x0, e0, q0⟩ := opens_field (opens_int (h0 := h0) uINT) cINT (k := 0) (by omega) (hm (3, 0) (by simp))
  obtain ⟨a1, x1, e1, q1⟩ := opens_field (opens_int (h0 := h0) uINT) cINT (k := 1) (by omega) (hm (3, 1) (by simp))
  obtain ⟨a2, x2, e2, q2⟩ := opens_field (opens_int (h0 := h0) uINT) cINT (k := 2) (by omega) (hm (3, 2) (by simp))
  have ecs := split3 hc
  have em : cs.map canon = (a0 ++ a1 ++ a2).map some := by
    rw [ecs]
    simp only [List.map_append, e0, e1, e2]
  obtain ⟨rfl, r0⟩ := q0
  obtain ⟨rfl, r1⟩ := q1
  obtain ⟨rfl, r2⟩ := q2
  exact ⟨_, (x0, x1, x2), em, rfl, r0, r1, r2⟩
theorem opens_lk : Opens (α := Lnk) enc P W h0 46 LnkC := by
  intro n cs y h hc
  rw [cLK] at hc
  obtain ⟨_, m, hm⟩ := trod_fields sLK h
  obtain ⟨a0, x0, e0, q0⟩ := opens_field (opens_int (h0 := h0) uINT) cINT (k := 0) (by omega) (hm (3, 0) (by simp))
  obtain ⟨a1, x1, e1, q1⟩ := opens_field (opens_pt (h0 := h0)) cPT (k := 1) (by omega) (hm (24, 1) (by simp))
  obtain ⟨a2, x2, e2, q2⟩ := opens_field (opens_bool (h0 := h0)) cBOOL (k := 4) (by omega) (hm (4, 4) (by simp))
  obtain ⟨a3, x3, e3, q3⟩ := opens_field (opens_str (h0 := h0)) cSTR (k := 5) (by omega) (hm (9, 5) (by simp))
  have ecs := split6 hc
  have em : cs.map canon = (a0 ++ a1 ++ a2 ++ a3).map some := by
    rw [ecs]
    simp only [List.map_append, e0, e1, e2, e3]
  obtain ⟨rfl, r0⟩ := q0
  obtain ⟨rfl, r1, r2, r3⟩ := q1
  obtain rfl := q2
  obtain rfl := q3
  exact ⟨_, ⟨x0, x1.1, x1.2.1, x1.2.2, x2, x3⟩, em, rfl, r0, r1, r2, r3⟩
end
end
end Go.Proofs.YtlfdcehdpnidnaaDoor.Tx

set_option linter.unusedSimpArgs false
set_option linter.unusedVariables false
namespace Go.Proofs.YtlfdcehdpnidnaaDoor.Tx
noncomputable section
open Go.AM Go.Proofs.YtlfdcehdpnidnaaDoor.Sf
section
variable {I : Inp} {h0 : AHeap}
theorem rEq {v w : AVal} {xs : List Int} (sv : SlOf 1 (IntA I h0) v xs) (sw : SlOf 1 (IntA I h0) w xs) (hb : AHeap) (eb : Ext h0 hb) : Ret ((AM.lim ⟨P, I, genF P Sh.prims⟩) 15 [v, w] hb) hb (.bool true) := by
  have hl := sv.lt
  obtain ⟨N, hN⟩ := Evt.loop xs (F := fun i n => ∀ h, Ext hb h → Res ((f15.J I (AM.lim ⟨P, I, genF P Sh.prims⟩) (n)).2.1 v w (.int .i64 i) h) fun u g => u = .bool true ∧ Ext hb g) 8
    (Evt.all 8 fun n h e => by
      rw [f15.n2]; unfold f15.b2
      (repeat' (first | refine Rf (fun hF hG => ?_) (fun hF hG => ?_) | assumption | (show Ext _ _; exact Ext.go) | (simp only [AHeap.next_alloc, AHeap.next_set, AHeap.next_kill, AHeap.next_res] at hle hsame) | simp (disch := first | exact D.go | fail) [setR, List.getElem?_cons_zero, List.getElem?_cons_succ, f15.n1, f15.b1, sv.len, *])))
    (fun i x n hx ih h e => by
      have hlt := lt_of_get hx; have hwi := wrap_in (n := (i : Int) + 1) ⟨by omega, by omega⟩
      simp only [Int.natCast_add, Int.natCast_one] at ih
      have hlo := e.lo
      have e0 := eb.trans e
      obtain ⟨l1, o1, hi, hxa⟩ := sv.at hx
      obtain ⟨hxa, hr⟩ := hxa.int
      obtain ⟨l2, o2, hi2, hxb⟩ := sw.at hx
      obtain ⟨hxb, _⟩ := hxb.int
      rw [f15.n2]; unfold f15.b2
      (repeat' (first | refine Rf (fun hF hG => ?_) (fun hF hG => ?_) | assumption | (show Ext _ _; exact Ext.go) | (simp only [AHeap.next_alloc, AHeap.next_set, AHeap.next_kill, AHeap.next_res] at hle hsame) | simp (disch := first | exact D.go | fail) [setR, List.getElem?_cons_zero, List.getElem?_cons_succ, f15.n3, f15.b3, f15.n4, f15.b4, sv.len, hi, hi2, hxa, hxb, hlt, hwi, *] | (refine Ret.thn (h0 := hb) (ih _ (by omega) _ Ext.go) ?_ (fun g hg hlo hle hsame hx => ?_)))))
    0 (by omega)
  refine f15.lim rfl (n := N + 1) ?_
  unfold f15.e
  have hfin := hN N (Nat.le_refl _) hb (Ext.refl _)
  (repeat' (first | refine Rf (fun hF hG => ?_) (fun hF hG => ?_) | assumption | (show Ext _ _; exact Ext.go) | (simp only [AHeap.next_alloc, AHeap.next_set, AHeap.next_kill, AHeap.next_res] at hle hsame) | simp (disch := first | exact D.go | fail) [setR, List.getElem?_cons_zero, List.getElem?_cons_succ, f15.n0, f15.b0, sv.len, sw.len, *]))
end
end
end Go.Proofs.YtlfdcehdpnidnaaDoor.Tx

set_option linter.unusedSimpArgs false
set_option linter.unusedVariables false
namespace Go.Proofs.YtlfdcehdpnidnaaDoor.Tx
noncomputable section
open Go.AM Go.Proofs.YtlfdcehdpnidnaaDoor.Sf
section
variable {I : Inp} {h0 : AHeap}
theorem tName (w : Int) (h : AHeap) : CI I 16 [.int .i64 w] h = some (.str (nameT w), h) := by
  refine Res.eq (f16.lim rfl (n := 1) ?_)
  unfold f16.e
  unfold nameT
  (repeat' (first | refine Rf (fun hF hG => ?_) (fun hF hG => ?_) | assumption | (show Ext _ _; exact Ext.go) | (simp only [AHeap.next_alloc, AHeap.next_set, AHeap.next_kill, AHeap.next_res] at hle hsame) | simp (disch := first | exact D.go | fail) [setR, List.getElem?_cons_zero, List.getElem?_cons_succ, f16.n0, f16.b0, *]))
theorem tErr {h : AHeap} {k : Nat} {w f b i : Int} {v : AVal} (hk : h.get k = some ⟨[.int .i64 w, .int .i64 f, .int .i64 b, .int .i64 i, v], true⟩) (r1 : InR f) (r2 : InR b) (r3 : InR i) : CI I 9 [.ptr (.own k) 0] h = some (.str (errText w f b i), h) := by
  have c0 := tName (I := I) w h
  have c1 := tItoa (I := I) r1 h
  have c2 := tItoa (I := I) r2 h
  have c3 := tItoa (I := I) r3 h
  refine Res.eq (f9.lim rfl (n := 3) ?_)
  unfold f9.e
  unfold errText
  by_cases hf : 0 ≤ f
  · rw [if_pos hf]
    simp (disch := first | exact D.go | fail) [setR, List.getElem?_cons_zero, List.getElem?_cons_succ, hk, c0, c1, c2, c3, hf, f9.n0, f9.b0, f9.n1, f9.b1]
  · rw [if_neg hf]
    simp (disch := first | exact D.go | fail) [setR, List.getElem?_cons_zero, List.getElem?_cons_succ, hk, c0, hf, f9.n0, f9.b0, f9.n1, f9.b1]
theorem own_ints {hb g : AHeap} {v : AVal} {xs : List Int} (o : Own intC 1 hb g v xs) (hr : ∀ x ∈ xs, InR x) (hl : xs.length ≤ 9223372036854775807) : SlOf 1 (IntA I g) v xs := by
  rcases o with ⟨rfl, rfl⟩ | ⟨k, rfl, hk, h1, h2, h3⟩
  · exact SlOf.nil
  · have e : ∀ l : List Int, l.flatMap intC = l.map fun n => AVal.int .i64 n := by
      intro l; induction l with
      | nil => rfl
      | cons a t ih => rw [List.flatMap_cons, ih]; rfl
    rw [e] at hk
    exact ints_new hk h2 (fun m hm => by simp [capHas]; simpa using hm) hl h3 hr
theorem chain_ok {xs : List Lnk} (hl : xs.length ≤ 8) : OthOk (chainOf xs) := by
  have : ∀ l : List Lk, countO l ≤ l.length := by
    intro l; induction l with
    | nil => exact Nat.le_refl _
    | cons z t ih => cases z <;> simp [countO] <;> omega
  have h := this (chainOf xs)
  rw [show (chainOf xs).length = xs.length from List.length_map ..] at h
  exact Nat.le_trans h (by omega)
theorem first_idx : ∀ (xs : List Lnk) {w f b i : Int} {r : List Lk}, firstOf (chainOf xs) = .ref w f b i :: r → ∃ (k : Nat) (y : Lnk), xs[k]? = some y ∧ y.oth = false ∧ y.w = w ∧ y.f = f ∧ y.b = b ∧ y.i = i ∧ reasons (chainOf xs) = w :: reasons r ∧ ∀ j z, j < k → xs[j]? = some z → z.oth = true
  | [], w, f, b, i, r, h => by cases h
  | x :: xs, w, f, b, i, r, h => by
    cases ho : x.oth with
    | false =>
      have hx : x.lk = .ref x.w x.f x.b x.i := by unfold Lnk.lk; rw [ho]; rfl
      have h' : firstOf (x.lk :: chainOf xs) = .ref w f b i :: r := h
      rw [hx] at h'
      cases h'
      refine ⟨0, x, rfl, ho, rfl, rfl, rfl, rfl, ?_, fun j z hj => absurd hj (by omega)⟩
      show reasons (x.lk :: chainOf xs) = _
      rw [hx]; rfl
    | true =>
      have hx : x.lk = .oth (x.s.take 20) := by unfold Lnk.lk; rw [ho]; rfl
      have h' : firstOf (x.lk :: chainOf xs) = .ref w f b i :: r := h
      rw [hx] at h'
      obtain ⟨k, y, h1, h2, h3, h4, h5, h6, h7, h8⟩ := first_idx xs h'
      refine ⟨k + 1, y, h1, h2, h3, h4, h5, h6, ?_, fun j z hj hz => ?_⟩
      · show reasons (x.lk :: chainOf xs) = _
        rw [hx]; exact h7
      · cases j with
        | zero => cases hz; exact ho
        | succ j => exact h8 j z (by omega) hz
theorem first_or (l : List Lk) : firstOf l = [] ∨ ∃ w f b i r, firstOf l = .ref w f b i :: r := by
  induction l with
  | nil => exact .inl rfl
  | cons z t ih => cases z with
    | ref w f b i => exact .inr ⟨w, f, b, i, t, rfl⟩
    | oth s => exact ih
theorem errNe {h : AHeap} {e : AVal} {l : List Lk} (a : ErrAt h e l) (hl : l ≠ []) : ∃ t v, e = .iface t v := by
  cases a with
  | nil => exact absurd rfl hl
  | ref => exact ⟨_, _, rfl⟩
  | oth => exact ⟨_, _, rfl⟩
/-- The last look, at the first link that is a refusal. -/
theorem cEnd {v : AVal} {xs : List Lnk} (sv : SlOf 6 (At I h0 LnkC) v xs) (he : ∀ h : AHeap, Ext h0 h) (hl : xs.length ≤ 8) {hb h : AHeap} {e w : AVal} (ae : ErrAt hb e (chainOf xs)) (sw : SlOf 1 (IntA I hb) w (reasons (chainOf xs))) {W F B J : Int} {r : List Lk} (hf : firstOf (chainOf xs) = .ref W F B J :: r) (x : Ext hb h)
    {m9 m11 kk : Nat} {ve : AVal} (h9 : h.get m9 = some ⟨[.ptr (.own kk) 0], true⟩) (hkk : hb.get kk = some ⟨[.int .i64 W, .int .i64 F, .int .i64 B, .int .i64 J, ve], true⟩) (hkl : kk < hb.next) (h9l : m9 < h.next) (h11l : m11 < h.next)
    (h11 : h.get m11 = some ⟨(if 0 ≤ F then [.int .i64 F, .int .i64 B, .int .i64 J] else [Z 0, Z 0, Z 0]), true⟩) {k : Nat} {y : Lnk} (hy : xs[k]? = some y) (y1 : y.w = W) (y2 : y.f = F) (y3 : y.b = B) (y4 : y.i = J) (n : Nat) :
    Res ((f4.J I (AM.lim ⟨P, I, genF P Sh.prims⟩) (n + 1)).2.2.1 v e w (.ptr (.own m9) 0) (.bool true) (.ptr (.own m11) 0) (.bool (dc (0 ≤ F))) (.int .i64 (k : Int)) h) fun u g => u = .bool true := by
  obtain ⟨lp, op, hi, ⟨cs, ⟨rfl, hr⟩, hc⟩⟩ := sv.at hy
  have kh := (x.same _ hkl).trans hkk
  obtain ⟨_, g1, c1, rfl, x1⟩ := tWhy (I := I) (chain_ok hl) ae h x
  have hw : whyOf (firstOf (chainOf xs)) = W := by rw [hf]; rfl
  rw [hw] at c1
  have hrs : reasons (chainOf xs) = W :: reasons r := by obtain ⟨_, _, _, _, _, _, _, _, h7, _⟩ := first_idx xs hf; exact h7
  rw [hrs] at sw
  obtain ⟨lw, ow, wi, wa⟩ := sw.at (i := 0) (x := W) rfl
  obtain ⟨wa, _⟩ := wa.int
  have wa0 := wa h x
  have wa1 := wa g1 (x.trans x1)
  have d1 := fun g => hc.rd1 g (he g)
  have d2 := fun g => hc.rd2 g (he g)
  have d3 := fun g => hc.rd3 g (he g)
  have z0 : pIndexAddr 1 w (Z 0) = some (.ptr lw ow) := wi
  subst y1 y2 y3 y4
  have k11 := (x1.same _ h11l).trans h11
  rw [f4.n6]; unfold f4.b6
  by_cases h0F : 0 ≤ y.f
  · rw [if_pos h0F] at k11
    clear h11 hf ae sw hrs hr wa x
    simp (disch := first | exact D.go | fail) [setR, List.getElem?_cons_zero, List.getElem?_cons_succ, h9, kh, z0, wa0, wa1, c1, hi, d1, d2, d3, k11, h0F]
  · clear h11 hf ae sw hrs hr wa x
    simp (disch := first | exact D.go | fail) [setR, List.getElem?_cons_zero, List.getElem?_cons_succ, h9, kh, z0, wa0, wa1, c1, hi, d1, d2, d3, h0F]
end
end
end Go.Proofs.YtlfdcehdpnidnaaDoor.Tx

set_option linter.unusedSimpArgs false
set_option linter.unusedVariables false
namespace Go.Proofs.YtlfdcehdpnidnaaDoor.Tx
noncomputable section
open Go.AM Go.Proofs.YtlfdcehdpnidnaaDoor.Sf
section
variable {I : Inp} {h0 : AHeap}
/-- The loop that looks for the first refusal. -/
theorem cLoop {v : AVal} {xs : List Lnk} (sv : SlOf 6 (At I h0 LnkC) v xs) (he : ∀ h : AHeap, Ext h0 h) {Q : AVal → AHeap → Prop} {a1 a2 a3 a4 a5 a6 : AVal} {h : AHeap} {k : Nat} {y : Lnk} (hl : xs.length ≤ 8) (hy : xs[k]? = some y) (ho : y.oth = false) (hz : ∀ j z, j < k → xs[j]? = some z → z.oth = true) (n : Nat)
    (hQ : ∀ m, n ≤ m → Res ((f4.J I (AM.lim ⟨P, I, genF P Sh.prims⟩) (m)).2.2.1 v a1 a2 a3 a4 a5 a6 (.int .i64 (k : Int)) h) Q) : ∀ d j, j + d = k → ∀ N, n + 2 * d + 1 ≤ N → Res ((f4.J I (AM.lim ⟨P, I, genF P Sh.prims⟩) (N)).2.2.2.1 v a1 a2 a3 a4 a5 a6 (.int .i64 (j : Int)) h) Q := by
  intro d
  induction d with
  | zero =>
    intro j hj N hN
    obtain ⟨m, rfl⟩ : ∃ m, N = m + 1 := ⟨N - 1, by omega⟩
    obtain rfl : j = k := by omega
    obtain ⟨lp, op, hi, ⟨cs, ⟨rfl, hr⟩, hc⟩⟩ := sv.at hy
    have d4 := hc.rd4 h (he h)
    have hend := hQ m (by omega)
    rw [ho] at d4
    clear hQ hz
    rw [f4.n7]; unfold f4.b7
    simp (disch := first | exact D.go | fail) [setR, List.getElem?_cons_zero, List.getElem?_cons_succ, hi, d4]
    exact hend
  | succ d ih =>
    intro j hj N hN
    obtain ⟨m, rfl⟩ : ∃ m, N = m + 2 := ⟨N - 2, by omega⟩
    have hk := lt_of_get hy
    obtain ⟨z, hzj⟩ : ∃ z, xs[j]? = some z := ⟨_, List.getElem?_eq_getElem (by omega)⟩
    have hzo := hz j z (by omega) hzj
    obtain ⟨lp, op, hi, ⟨cs, ⟨rfl, hr⟩, hc⟩⟩ := sv.at hzj
    have d4 := hc.rd4 h (he h)
    rw [hzo] at d4
    have hw := wrap_in (n := (j : Int) + 1) ⟨by omega, by omega⟩
    have hend := ih (j + 1) (by omega) m (by omega)
    simp only [Int.natCast_add, Int.natCast_one] at hend
    clear hQ hz ih
    rw [f4.n7]; unfold f4.b7
    simp (disch := first | exact D.go | fail) [setR, List.getElem?_cons_zero, List.getElem?_cons_succ, hi, d4, f4.n8, f4.b8, hw]
    exact hend
theorem cCore {v : AVal} {xs : List Lnk} (sv : SlOf 6 (At I h0 LnkC) v xs) (he : ∀ h : AHeap, Ext h0 h) (hl : xs.length ≤ 8) (why : Int) (n : Nat) : Res ((f4.J I (AM.lim ⟨P, I, genF P Sh.prims⟩) (n + 40)).1.1.2 v (.int .i64 why) ⟨.nil, 0⟩) fun u g => u = .bool true := by
  obtain ⟨_, g, c1, ⟨⟨e, w, rfl, ae, sw⟩, x1⟩⟩ := tMade (I := I) sv hl (he ⟨.nil, 0⟩)
  rw [f4.n1]; unfold f4.b1
  by_cases hx : xs = []
  · subst hx
    obtain ⟨_, g2, c2, rfl, x2⟩ := tWhy (I := I) (l := []) (by unfold OthOk; simp [countO]) (.nil (h := g)) g (Ext.refl g)
    obtain ⟨u3, g3, c3, o3, x3⟩ := tChain (I := I) (hb := g2) (l := []) (by unfold OthOk; simp [countO]) .nil (by simp)
    have hz : whyOf (firstOf []) = 0 := rfl
    rw [hz] at c2
    have l3 : pLenSl u3 = some (.int .i64 0) := o3.len
    have lv : pLenSl v = some (.int .i64 0) := sv.len
    simp (disch := first | exact D.go | fail) [setR, List.getElem?_cons_zero, List.getElem?_cons_succ, c1, c2, c3, l3, lv]
  · have hlen : ¬ ((xs.length : Int) = 0) := by
      have := List.length_pos_iff.2 hx
      omega
    have hne : chainOf xs ≠ [] := by simpa using hx
    obtain ⟨et, ev, hev⟩ := errNe ae hne
    obtain ⟨u2, g2, c2, o2, x2⟩ := tChain (I := I) (chain_ok hl) ae (by simp; omega)
    have hrs : (reasons (chainOf xs)).length ≤ 9223372036854775807 := sw.lt
    have so := own_ints (I := I) o2 sw.ranges hrs
    obtain ⟨_, g3, c3, rfl, x3⟩ := rEq (I := I) (h0 := g2) so (SlOf.mono (fun l o t c => At.mono (fun _ _ h => h) c x2) sw) g2 (Ext.refl g2)
    have c4 := tName (I := I) why g3
    have c5 := rName (I := I) why g3
    have x13 : Ext g g3 := x2.trans x3
    -- from errors.As on
    obtain ⟨H, hH⟩ : ∃ H, H = g3.alloc ⟨[.nilp], true⟩ := ⟨_, rfl⟩
    have xH : Ext g3 H := by rw [hH]; exact (Ext.refl g3).alloc
    have hH9 : H.get g3.next = some ⟨[.nilp], true⟩ := by rw [hH]; exact AHeap.alloc_at (Nb.o rfl)
    have hHn : H.next = g3.next + 1 := by rw [hH]; simp
    have rest : Res ((f4.J I (AM.lim ⟨P, I, genF P Sh.prims⟩) (n + 38)).1.2.2 v e (.str (textOf (chainOf xs))) w g3) fun u g => u = .bool true := by
      have aH := ae.mono (x13.trans xH)
      rcases first_or (chainOf xs) with hf | ⟨W, F, B, J, r, hf⟩
      · obtain ⟨y, hy, yp, y1, _⟩ := follow_ptr ae (chain_ok hl)
        have q := asRun (I := I) (m := g3.next) (h := H) ae (x13.trans xH) hH9 hy yp
        rw [y1 hf] at q
        simp only [asAns] at q
        obtain ⟨_, g5, c6, rfl, x5⟩ := tWhere (I := I) (chain_ok hl) ae H (x13.trans xH)
        obtain ⟨g6, hg6⟩ : ∃ g6, g6 = (g5.alloc ⟨[Z 0, Z 0, Z 0], true⟩).set g5.next ⟨[Z 0, Z 0, Z 0], true⟩ := ⟨_, rfl⟩
        have x6 : Ext g5 g6 := by rw [hg6]; exact (Ext.refl g5).alloc.set (Nb.o (Nat.le_refl _))
        obtain ⟨_, g7, c7, rfl, x7⟩ := tWhy (I := I) (chain_ok hl) ae g6 (((x13.trans xH).trans x5).trans x6)
        have hp : placeOf (firstOf (chainOf xs)) = .tuple [.agg [Z 0, Z 0, Z 0], .bool false] := by rw [hf]; rfl
        have hw0 : whyOf (firstOf (chainOf xs)) = 0 := by rw [hf]; rfl
        have hr0 : reasons (chainOf xs) = [] := by rw [← (reasons_first (chainOf xs)).1, hf]; rfl
        have lw : pLenSl w = some (.int .i64 0) := by rw [sw.len, hr0]; rfl
        rw [hp] at c6
        rw [hw0] at c7
        generalize textOf (chainOf xs) = tx at *
        clear sw so ae o2 aH c1 c2 c3
        subst hH hg6
        rw [f4.n3]; unfold f4.b3
        simp (disch := first | exact D.go | fail) [setR, List.getElem?_cons_zero, List.getElem?_cons_succ, q, f4.n4, f4.b4, c6, c7, lw]
      · obtain ⟨kk, ve, hkk, hkl, _, _, _, hq⟩ := first_ref (I := I) (chain_ok hl) ae hf
        have q := hq H g3.next (x13.trans xH) hH9
        obtain ⟨H2, hH2⟩ : ∃ H2, H2 = H.set g3.next ⟨[.ptr (.own kk) 0], true⟩ := ⟨_, rfl⟩
        have hH2n : H2.next = H.next := by rw [hH2]; simp
        have x32 : Ext g3 H2 := by rw [hH2]; exact xH.set (Nb.o (Nat.le_refl _))
        have hH29 : H2.get g3.next = some ⟨[.ptr (.own kk) 0], true⟩ := by rw [hH2]; exact AHeap.set_at (Nb.o rfl)
        have k2 := ((x13.trans x32).same _ hkl).trans hkk
        obtain ⟨k, y, i1, i2, i3, i4, i5, i6, i7, i8⟩ := first_idx xs hf
        obtain ⟨lp, op, _, ⟨cs, ⟨rfl, hr⟩, hc⟩⟩ := sv.at i1
        have c5 := tErr (I := I) k2 (by rw [← i4]; exact hr.2.1) (by rw [← i5]; exact hr.2.2.1) (by rw [← i6]; exact hr.2.2.2)
        have ht : textOf (chainOf xs) = errText W F B J := by unfold textOf; rw [hf]
        obtain ⟨_, g5, c6, rfl, x5⟩ := tWhere (I := I) (chain_ok hl) ae H2 (x13.trans x32)
        have hp : placeOf (firstOf (chainOf xs)) = .tuple [.agg (if 0 ≤ F then [.int .i64 F, .int .i64 B, .int .i64 J] else [Z 0, Z 0, Z 0]), .bool (dc (0 ≤ F))] := by
          rw [hf]
          by_cases h0F : 0 ≤ F
          · simp [placeOf, h0F]
          · simp [placeOf, h0F]
        rw [hp] at c6
        have lo5 := x5.lo
        obtain ⟨g6, hg6⟩ : ∃ g6, g6 = (g5.alloc ⟨[Z 0, Z 0, Z 0], true⟩).set g5.next ⟨(if 0 ≤ F then [.int .i64 F, .int .i64 B, .int .i64 J] else [Z 0, Z 0, Z 0]), true⟩ := ⟨_, rfl⟩
        have x6 : Ext g5 g6 := by rw [hg6]; exact (Ext.refl g5).alloc.set (Nb.o (Nat.le_refl _))
        have hg6n : g6.next = g5.next + 1 := by rw [hg6]; simp
        have h11 : g6.get g5.next = some ⟨(if 0 ≤ F then [.int .i64 F, .int .i64 B, .int .i64 J] else [Z 0, Z 0, Z 0]), true⟩ := by rw [hg6]; exact AHeap.set_at (Nb.o rfl)
        have h9 : g6.get g3.next = some ⟨[.ptr (.own kk) 0], true⟩ := ((x5.trans x6).same _ (by omega)).trans hH29
        have hend := cLoop (I := I) sv he (Q := fun u g => u = .bool true) (a1 := e) (a2 := w) (a3 := .ptr (.own g3.next) 0) (a4 := .bool true) (a5 := .ptr (.own g5.next) 0) (a6 := .bool (dc (0 ≤ F))) (h := g6) hl i1 i2 i8 1
          (fun m hm => by
            obtain ⟨m', rfl⟩ : ∃ m', m = m' + 1 := ⟨m - 1, by omega⟩
            exact cEnd (I := I) sv he hl ae sw hf (((x13.trans x32).trans x5).trans x6) h9 hkk hkl (by omega) (by omega) h11 i1 i3 i4 i5 i6 m')
          k 0 (by omega) (n + 35) (by have := lt_of_get i1; omega)
        have lw : pLenSl w = some (.int .i64 (reasons (chainOf xs)).length) := sw.len
        rw [i7] at lw
        have hnz : ¬ (((reasons r).length : Int) + 1 = 0) := by omega
        have hself : natsEq (errText W F B J) (errText W F B J) = true := natsEq_self _
        have hl3 : ∀ c : List AVal, (if 0 ≤ F then [AVal.int .i64 F, .int .i64 B, .int .i64 J] else [Z 0, Z 0, Z 0]) = c → c.length = 3 ∧ c.all AVal.one = true := by
          rintro _ rfl
          split <;> exact ⟨rfl, rfl⟩
        rw [ht]
        generalize hcc : (if 0 ≤ F then [AVal.int .i64 F, .int .i64 B, .int .i64 J] else [Z 0, Z 0, Z 0]) = cc at *
        obtain ⟨cl, co⟩ := hl3 cc rfl
        clear sw so ae o2 aH c1 c2 c3 hl3 hcc h11 h9 hq
        subst hH hH2 hg6
        rw [f4.n3]; unfold f4.b3
        simp (disch := first | exact D.go | fail) [setR, List.getElem?_cons_zero, List.getElem?_cons_succ, q, c5, f4.n4, f4.b4, c6, lw, hnz, hself, cl, co, f4.n5, f4.b5]
        exact hend
    have lv := sv.len
    have hself : natsEq (nameT why) (nameT why) = true := natsEq_self _
    subst hev
    clear sw so ae o2
    generalize textOf (chainOf xs) = tx at *
    simp (disch := first | exact D.go | fail) [setR, List.getElem?_cons_zero, List.getElem?_cons_succ, c1, lv, hlen, hx, f4.n2, f4.b2, c2, c3, c4, c5, hself]
    exact rest
theorem tLawChain {v : AVal} {xs : List Lnk} (sv : SlOf 6 (At I h0 LnkC) v xs) (he : ∀ h : AHeap, Ext h0 h) (why : Int) : Res (CI I 4 [v, .int .i64 why] ⟨.nil, 0⟩) fun u g => u = .bool true := by
  have hbg := fun h => begun (I := I) h
  by_cases hl : 8 < xs.length
  · obtain ⟨u, cu, su⟩ := take8 sv hl
    have hend := cCore (I := I) su he (by rw [List.length_take]; omega) why
    have hl' : (8 : Int) < xs.length := by omega
    refine f4.lim rfl (n := 42) ?_
    unfold f4.e
    simp (disch := first | exact D.go | fail) [setR, List.getElem?_cons_zero, List.getElem?_cons_succ, hbg, sv.len, hl', cu, f4.n0, f4.b0]
    exact hend _
  · have hend := cCore (I := I) sv he (by omega) why
    have hl' : ¬ (8 : Int) < xs.length := by omega
    refine f4.lim rfl (n := 42) ?_
    unfold f4.e
    simp (disch := first | exact D.go | fail) [setR, List.getElem?_cons_zero, List.getElem?_cons_succ, hbg, sv.len, hl', f4.n0, f4.b0]
    exact hend _
end
end
end Go.Proofs.YtlfdcehdpnidnaaDoor.Tx
