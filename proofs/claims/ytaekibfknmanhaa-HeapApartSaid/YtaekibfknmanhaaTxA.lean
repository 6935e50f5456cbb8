/- Contracts of the functions, part 0: what each function of the program and of the reference comes to. Conditions: as each lemma says. -/
import Derived.Test.YtaekibfknmanhaaSfT
import Derived.Test.YtaekibfknmanhaaAmZ
import Derived.Test.YtaekibfknmanhaaSh
set_option linter.unusedSimpArgs false
set_option linter.unusedVariables false
namespace Go.Proofs.Ytaekibfknmanhaa.Tx
noncomputable section
open Go.AM Go.Proofs.Ytaekibfknmanhaa.Sf
section
variable {I : Inp} {h0 : AHeap}
def inB (n s : Int) : Prop := 0 ≤ n ∧ n < s

structure Pt where
  f : Int
  b : Int
  i : Int
  deriving DecidableEq, Inhabited
def noPt : Pt := ⟨-1, 0, 0⟩
abbrev ptV (p : Pt) : AVal := .agg [.int .i64 p.f, .int .i64 p.b, .int .i64 p.i]
theorem noPt_f : noPt.f = -1 := rfl
theorem noPt_b : noPt.b = 0 := rfl
theorem noPt_i : noPt.i = 0 := rfl
theorem nth_mem {α : Type} {xs : List α} {i : Int} (h : inB i xs.length) (d : α) : nth xs i d ∈ xs := by
  obtain ⟨h1, h2⟩ := h
  unfold nth
  have hk : i.toNat < xs.length := by omega
  rw [List.getD_eq_getElem?_getD, List.getElem?_eq_getElem hk]
  exact List.getElem_mem hk
/-- A slice to read from. -/
structure SlV {α : Type} (sz : Nat) (R : AM.Loc → Nat → α → Prop) (v : AVal) (xs : List α) : Prop where
  len : pLenSl v = some (.int .i64 xs.length)
  lt : xs.length ≤ 9223372036854775807
  at_ : ∀ {i : Nat} {x : α}, xs[i]? = some x → ∃ l o, pIndexAddr sz v (.int .i64 (i : Int)) = some (.ptr l o) ∧ R l o x
theorem _root_.Go.AM.SlOf.v {α : Type} {sz : Nat} {R : AM.Loc → Nat → α → Prop} {v : AVal} {xs : List α} (s : SlOf sz R v xs) : SlV sz R v xs := ⟨s.len, s.lt, s.at⟩
theorem _root_.Go.AM.SlOf.cut {α : Type} {sz : Nat} {R : AM.Loc → Nat → α → Prop} {v : AVal} {xs : List α} (s : SlOf sz R v xs) {m : Nat} (hm : m ≤ xs.length) : ∃ u, pSliceS sz v none (some (.int .i64 m)) none = some u ∧ SlV sz R u (xs.take m) := by
  rcases s with ⟨rfl, rfl⟩ | ⟨l, o, cap, rfl, c, n, hx⟩
  · obtain rfl : m = 0 := by simpa using hm
    exact ⟨.nils, rfl, by simpa using SlOf.v (SlOf.nil (R := R) (sz := sz))⟩
  · have hc := c m hm
    refine ⟨.sl l o m (capMinus cap 0), ?_, ?_, ?_, ?_⟩
    · show sliceV _ _ _ _ _ = _
      simp only [sliceV, optNatV, asNat]
      have : asNat (.int .i64 (m : Int)) = some m := rfl
      have hz : Nat.ble 0 m = true := Nat.ble_eq_true_of_le (Nat.zero_le m)
      simp [this, hc, hz]
    · simp [List.length_take, Nat.min_eq_left hm]
    · rw [List.length_take, Nat.min_eq_left hm]; omega
    · intro i x hi
      have hlt := (List.getElem?_eq_some_iff.1 hi).1
      rw [List.length_take, Nat.min_eq_left hm] at hlt
      rw [List.getElem?_take_of_lt hlt] at hi
      exact ⟨l, o + i * sz, pIndexAddr_sl hlt, hx i x hi⟩
theorem Res.after {r : Rs} {k : AVal → AHeap → Rs} {Q A : AVal → AHeap → Prop} (c : Res r A) (hk : ∀ v g, A v g → Res (k v g) Q) : Res (@Bnd r ⟨k⟩) Q := by
  obtain ⟨v, g, er, a⟩ := c
  rw [er]
  exact hk v g a
def ptCells (p : Pt) : List AVal := [.int .i64 p.f, .int .i64 p.b, .int .i64 p.i]
theorem pts_len : ∀ xs : List Pt, (xs.flatMap ptCells).length = xs.length * 3
  | [] => rfl
  | x :: xs => by simp only [List.flatMap_cons, List.length_append, List.length_cons, pts_len xs, ptCells, List.length_nil]; omega
theorem pts_one : ∀ xs : List Pt, (xs.flatMap ptCells).all AVal.one = true
  | [] => rfl
  | x :: xs => by simp only [List.flatMap_cons, List.all_append, pts_one xs, Bool.and_true]; rfl
/-- A slice of points that was made here. -/
def PtsO (hb h : AHeap) (v : AVal) (xs : List Pt) : Prop :=
  (v = .nils ∧ xs = []) ∨ ∃ k, v = .sl (.own k) 0 xs.length (.grown 3) ∧ h.get k = some ⟨xs.flatMap ptCells, true⟩ ∧ hb.next ≤ k ∧ k < h.next ∧ xs ≠ []
theorem PtsO.mono {hb h g : AHeap} {v : AVal} {xs : List Pt} (a : PtsO hb h v xs) (e : Ext h g) : PtsO hb g v xs := by
  rcases a with a | ⟨k, rfl, hk, h1, h2, h3⟩
  · exact .inl a
  · exact .inr ⟨k, rfl, by rw [e.same k h2]; exact hk, h1, by have := e.lo; omega, h3⟩
theorem app_pt {hb h : AHeap} {xs : List Pt} {v : AVal} (hv : PtsO hb h v xs) (eb : Ext hb h) (p : Pt) (hn : xs.length ≤ 1000000) {kw : Nat} {c : Cap} (hw : h.get kw = some ⟨ptCells p, true⟩) :
    Res (sAppend I 3 24 v (.sl (.own kw) 0 1 c) h) fun u g => PtsO hb g u (xs ++ [p]) ∧ Ext hb g := by
  rcases hv with ⟨rfl, rfl⟩ | ⟨k, rfl, hk, h1, h2, h3⟩
  · have := sAppend_nils (I := I) (sz := 3) (bytes := 24) (n := 0) (c := c) hw rfl rfl (by simp only [bigRoom]; omega)
    refine ⟨_, _, this, .inr ⟨h.next, rfl, ?_, eb.lo, by simp, by simp⟩, eb.alloc⟩
    simp [AHeap.alloc_at (Nb.o rfl)]
  · have := sAppend_full (I := I) (sz := 3) (bytes := 24) (n := 0) (c := c) hw rfl rfl hk (pts_len xs) (pts_one xs) (by omega) (by simp only [bigRoom]; omega)
    refine ⟨_, _, this, .inr ⟨h.next, ?_, ?_, eb.lo, by simp, by simp⟩, (eb.kill (Nb.o h1)).alloc⟩
    · simp
    · rw [show h.next = (h.kill k).next from rfl, AHeap.alloc_at (Nb.o rfl)]; simp
def bkPts (f b : Int) (j : Nat) : Nat → List Pt
  | 0 => []
  | c + 1 => ⟨f, b, j⟩ :: bkPts f b (j + 1) c
def fuPts (f : Int) : Nat → List Bk → List Pt
  | _, [] => []
  | b, x :: r => bkPts f b 0 (x.code.length + 1) ++ fuPts f (b + 1) r
def pgPts : Nat → List Fu → List Pt
  | _, [] => []
  | i, f :: r => fuPts i 0 f.blocks ++ pgPts (i + 1) r
theorem bkPts_len (f b : Int) : ∀ (c j : Nat), (bkPts f b j c).length = c
  | 0, _ => rfl
  | c + 1, j => by simp [bkPts, bkPts_len f b c]
def PtC (cs : List AVal) (p : Pt) : Prop := cs = ptCells p
theorem pts_get : ∀ (xs : List Pt) (i : Nat) (x : Pt) (j : Nat) (v : AVal), xs[i]? = some x → (ptCells x)[j]? = some v → (xs.flatMap ptCells)[i * 3 + j]? = some v
  | [], i, x, j, v, h, _ => by simp at h
  | y :: ys, 0, x, j, v, h, hv => by
    simp at h; subst h
    have hj : j < 3 := by have := (List.getElem?_eq_some_iff.1 hv).1; simpa [ptCells] using this
    rw [List.flatMap_cons, List.getElem?_append_left (by simp [ptCells]; omega)]
    simpa using hv
  | y :: ys, i + 1, x, j, v, h, hv => by
    have := pts_get ys i x j v (by simpa using h) hv
    rw [List.flatMap_cons, List.getElem?_append_right (by simp [ptCells]; omega)]
    rw [show (i + 1) * 3 + j - (ptCells y).length = i * 3 + j by simp [ptCells]; omega]
    exact this
theorem PtsO.v {hb h : AHeap} {v : AVal} {xs : List Pt} (a : PtsO hb h v xs) (hl : xs.length ≤ 1000000) : SlV 3 (At I h PtC) v xs := by
  rcases a with ⟨rfl, rfl⟩ | ⟨k, rfl, hk, h1, h2, h3⟩
  · exact SlOf.v SlOf.nil
  · refine ⟨rfl, by omega, fun {i x} hx => ⟨.own k, 0 + i * 3, pIndexAddr_sl (List.getElem?_eq_some_iff.1 hx).1, ptCells x, rfl, Cells.own hk h2 fun j v hv => ?_⟩⟩
    simp only [Nat.zero_add]
    exact pts_get xs i x j v hx hv
theorem bkPts_mem {f b : Int} {p : Pt} : ∀ (c j : Nat), p ∈ bkPts f b j c → ∃ k : Nat, j ≤ k ∧ k < j + c ∧ p = ⟨f, b, k⟩
  | 0, j, h => by simp [bkPts] at h
  | c + 1, j, h => by
    rcases List.mem_cons.1 h with rfl | h
    · exact ⟨j, by omega, by omega, rfl⟩
    · obtain ⟨k, h1, h2, h3⟩ := bkPts_mem c (j + 1) h
      exact ⟨k, by omega, by omega, h3⟩
theorem fuPts_mem {f : Int} {p : Pt} : ∀ (l : List Bk) (b : Nat), p ∈ fuPts f b l → ∃ (bi k : Nat) (x : Bk), l[bi]? = some x ∧ k ≤ x.code.length ∧ p = ⟨f, ((b + bi : Nat) : Int), k⟩
  | [], b, h => by simp [fuPts] at h
  | x :: r, b, h => by
    rcases List.mem_append.1 h with h | h
    · obtain ⟨k, h1, h2, h3⟩ := bkPts_mem _ _ h
      exact ⟨0, k, x, rfl, by omega, h3⟩
    · obtain ⟨bi, k, y, h1, h2, h3⟩ := fuPts_mem r (b + 1) h
      exact ⟨bi + 1, k, y, by simpa using h1, h2, by rw [h3]; congr 2; omega⟩
theorem pgPts_mem {p : Pt} : ∀ (l : List Fu) (i : Nat), p ∈ pgPts i l → ∃ (fi bi k : Nat) (f : Fu) (x : Bk), l[fi]? = some f ∧ f.blocks[bi]? = some x ∧ k ≤ x.code.length ∧ p = ⟨((i + fi : Nat) : Int), (bi : Int), k⟩
  | [], i, h => by simp [pgPts] at h
  | f :: r, i, h => by
    rcases List.mem_append.1 h with h | h
    · obtain ⟨bi, k, x, h1, h2, h3⟩ := fuPts_mem _ _ h
      exact ⟨0, bi, k, f, x, rfl, h1, h2, by simpa using h3⟩
    · obtain ⟨fi, bi, k, g, x, h1, h2, h3, h4⟩ := pgPts_mem r (i + 1) h
      exact ⟨fi + 1, bi, k, g, x, by simpa using h1, h2, h3, by rw [h4]; congr 2; omega⟩
theorem pMinmax_two (b : Int) : ∃ c, pMinmax false [Z 1000, .int .i64 b] = some (.int .i64 c) := ⟨if b < 1000 then b else 1000, by simp [pMinmax, minInts]⟩
/-- A bool. -/
def IsB (u : AVal) : Prop := ∃ b, u = .bool b
@[simp] theorem IsB_bool (b : Bool) : IsB (.bool b) = True := by simp [IsB]
end
end
end Go.Proofs.Ytaekibfknmanhaa.Tx

set_option linter.unusedSimpArgs false
set_option linter.unusedVariables false
namespace Go.Proofs.Ytaekibfknmanhaa.Tx
noncomputable section
open Go.AM Go.Proofs.Ytaekibfknmanhaa.Sf
/-! slices of one's own that grow: of things of any one size -/
section
variable {I : Inp} {α : Type} {f : α → List AVal} {sz : Nat}
/-- Each thing is so many cells. -/
structure Fix (f : α → List AVal) (sz : Nat) : Prop where
  len : ∀ x, (f x).length = sz
  one : ∀ x, (f x).all AVal.one = true
  pos : 0 < sz
theorem Fix.lenAll (F : Fix f sz) : ∀ xs : List α, (xs.flatMap f).length = xs.length * sz
  | [] => by simp
  | x :: r => by rw [List.flatMap_cons, List.length_append, F.lenAll r, F.len, List.length_cons, Nat.succ_mul, Nat.add_comm]
theorem Fix.oneAll (F : Fix f sz) : ∀ xs : List α, (xs.flatMap f).all AVal.one = true
  | [] => rfl
  | x :: r => by rw [List.flatMap_cons, List.all_append, F.oneAll r, F.one]; rfl
theorem Fix.get (F : Fix f sz) : ∀ (xs : List α) (i : Nat) (x : α) (j : Nat) (v : AVal), xs[i]? = some x → (f x)[j]? = some v → (xs.flatMap f)[i * sz + j]? = some v
  | [], i, x, j, v, h, _ => by simp at h
  | y :: ys, 0, x, j, v, h, hv => by
    simp at h; subst h
    have hj : j < (f y).length := (List.getElem?_eq_some_iff.1 hv).1
    rw [List.flatMap_cons, List.getElem?_append_left (by omega)]
    simpa using hv
  | y :: ys, i + 1, x, j, v, h, hv => by
    have := F.get ys i x j v (by simpa using h) hv
    have hl := F.len y
    rw [List.flatMap_cons, List.getElem?_append_right (by rw [hl, Nat.succ_mul]; omega)]
    rw [show (i + 1) * sz + j - (f y).length = i * sz + j by rw [hl, Nat.succ_mul]; omega]
    exact this
def Own (f : α → List AVal) (sz : Nat) (hb h : AHeap) (v : AVal) (xs : List α) : Prop :=
  (v = .nils ∧ xs = []) ∨ ∃ k, v = .sl (.own k) 0 xs.length (.grown sz) ∧ h.get k = some ⟨xs.flatMap f, true⟩ ∧ hb.next ≤ k ∧ k < h.next ∧ xs ≠ []
theorem Own.nil {hb h : AHeap} : Own f sz hb h .nils [] := .inl ⟨rfl, rfl⟩
theorem Own.mono {hb h g : AHeap} {v : AVal} {xs : List α} (a : Own f sz hb h v xs) (e : Ext h g) : Own f sz hb g v xs := by
  rcases a with a | ⟨k, rfl, hk, h1, h2, h3⟩
  · exact .inl a
  · exact .inr ⟨k, rfl, by rw [e.same k h2]; exact hk, h1, by have := e.lo; omega, h3⟩
/-- From a heap further back. -/
theorem Own.base {hb hb' h : AHeap} {v : AVal} {xs : List α} (a : Own f sz hb h v xs) (e : hb'.next ≤ hb.next) : Own f sz hb' h v xs := by
  rcases a with a | ⟨k, rfl, hk, h1, h2, h3⟩
  · exact .inl a
  · exact .inr ⟨k, rfl, hk, by omega, h2, h3⟩
theorem Own.len {hb h : AHeap} {v : AVal} {xs : List α} (a : Own f sz hb h v xs) : pLenSl v = some (.int .i64 xs.length) := by
  rcases a with ⟨rfl, rfl⟩ | ⟨k, rfl, _⟩ <;> rfl
theorem Own.v (F : Fix f sz) {hb h : AHeap} {v : AVal} {xs : List α} (a : Own f sz hb h v xs) (hl : xs.length ≤ 9223372036854775807) : SlV sz (At I h fun cs x => cs = f x) v xs := by
  rcases a with ⟨rfl, rfl⟩ | ⟨k, rfl, hk, h1, h2, h3⟩
  · exact SlOf.v SlOf.nil
  · refine ⟨rfl, hl, fun {i x} hx => ⟨.own k, 0 + i * sz, pIndexAddr_sl (List.getElem?_eq_some_iff.1 hx).1, f x, rfl, Cells.own hk h2 fun j v hv => ?_⟩⟩
    simp only [Nat.zero_add]
    exact F.get xs i x j v hx hv
/-- A slice's block is not this one. -/
def NotB (v : AVal) (m : Nat) : Prop := ∀ k o n c, v = .sl (.own k) o n c → m ≠ k
theorem Own.notB {hb h : AHeap} {v : AVal} {xs : List α} (a : Own f sz hb h v xs) {m : Nat} (hm : m < hb.next ∨ h.next ≤ m) : NotB v m := by
  intro k o n c e
  rcases a with ⟨rfl, _⟩ | ⟨k', rfl, _, h1, h2, _⟩
  · cases e
  · cases e; omega
/-- All blocks but the slice's keep what they hold. -/
def KeepB (v u : AVal) (h g : AHeap) : Prop := h.next ≤ g.next ∧ ∀ m, NotB v m → m < h.next → g.get m = h.get m ∧ NotB u m
/-- append(l, x). -/
theorem app_own (F : Fix f sz) {hb h : AHeap} {xs : List α} {v : AVal} (hv : Own f sz hb h v xs) (eb : Ext hb h) (x : α) {bytes : Nat} (hby : bytes ≤ 4096) (hn : xs.length ≤ 20000000000) {kw : Nat} {c : Cap} (hw : h.get kw = some ⟨f x, true⟩) :
    Res (sAppend I sz bytes v (.sl (.own kw) 0 1 c) h) fun u g => Own f sz hb g u (xs ++ [x]) ∧ Ext hb g ∧ KeepB v u h g := by
  have hr : ∀ n, n ≤ 20000000001 → n * bytes ≤ bigRoom := fun n hn => by
    have : n * bytes ≤ 20000000001 * 4096 := Nat.mul_le_mul hn hby
    simp only [bigRoom]; omega
  have hfl : (f x).length = (0 + 1) * sz := by rw [F.len]; omega
  rcases hv with ⟨rfl, rfl⟩ | ⟨k, rfl, hk, h1, h2, h3⟩
  · have := sAppend_nils (I := I) (sz := sz) (bytes := bytes) (n := 0) (c := c) hw hfl (F.one x) ⟨hr _ (by omega), by simp only [bigRoom]; omega⟩
    refine ⟨_, _, this, .inr ⟨h.next, rfl, ?_, eb.lo, by simp, by simp⟩, eb.alloc, by simp, fun m hm hl => ⟨AHeap.alloc_ne (Nb.o (by omega)), fun k o n c e => by cases e; omega⟩⟩
    simp [AHeap.alloc_at (Nb.o rfl)]
  · have := sAppend_full (I := I) (sz := sz) (bytes := bytes) (n := 0) (c := c) (len := xs.length) hw hfl (F.one x) hk (F.lenAll xs) (F.oneAll xs) F.pos ⟨hr _ (by omega), by simp only [bigRoom]; omega⟩
    refine ⟨_, _, this, .inr ⟨h.next, ?_, ?_, eb.lo, by simp, by simp⟩, (eb.kill (Nb.o h1)).alloc, by simp, fun m hm hl => ⟨?_, fun k o n c e => by cases e; omega⟩⟩
    · simp
    · rw [show h.next = (h.kill k).next from rfl, AHeap.alloc_at (Nb.o rfl)]; simp
    · rw [AHeap.alloc_ne (Nb.o (by show m ≠ h.next; omega))]
      exact AHeap.kill_ne (Nb.o (hm k _ _ _ rfl))
/-- A slice that can be read whole. -/
def SrcL (f : α → List AVal) (sz : Nat) (I : Inp) (h : AHeap) (w : AVal) (ys : List α) : Prop :=
  (ys = [] ∧ (w = .nils ∨ ∃ l o c, w = .sl l o 0 c ∧ AM.rds I h l o (0 * sz) = some [])) ∨ (ys ≠ [] ∧ ∃ l o c, w = .sl l o ys.length c ∧ AM.rds I h l o (ys.length * sz) = some (ys.flatMap f))
theorem Own.src (F : Fix f sz) {hb h : AHeap} {v : AVal} {xs : List α} (a : Own f sz hb h v xs) : SrcL f sz I h v xs := by
  rcases a with ⟨rfl, rfl⟩ | ⟨k, rfl, hk, h1, h2, h3⟩
  · exact .inl ⟨rfl, .inl rfl⟩
  · refine .inr ⟨h3, _, _, _, rfl, ?_⟩
    have hl := F.lenAll xs
    rw [rds_own', hk]
    simp only [Option.bind_some, Nat.zero_add, List.drop_zero]
    rw [if_pos (by omega), List.take_of_length_le (by omega)]
/-- append(l, m...). -/
theorem app_own_all (F : Fix f sz) {hb h : AHeap} {xs ys : List α} {v w : AVal} (hv : Own f sz hb h v xs) (eb : Ext hb h) (hs : SrcL f sz I h w ys) {bytes : Nat} (hby : bytes ≤ 4096) (hn : xs.length + ys.length ≤ 20000000000) :
    Res (sAppend I sz bytes v w h) fun u g => Own f sz hb g u (xs ++ ys) ∧ Ext hb g ∧ KeepB v u h g := by
  rcases hs with ⟨rfl, hz⟩ | ⟨hne, l, o, cap, rfl, hr⟩
  · have : sAppend I sz bytes v w h = some (v, h) := by
      have hc : ∃ n, srcCells I h sz w = some (n, []) ∧ n = 0 := by
        rcases hz with rfl | ⟨l, o, c, rfl, hr⟩
        · exact ⟨0, rfl, rfl⟩
        · exact ⟨0, by simp only [srcCells, hr], rfl⟩
      obtain ⟨n, hc, rfl⟩ := hc
      rcases hv with ⟨rfl, rfl⟩ | ⟨k, rfl, _⟩
      · simp only [sAppend, appendK_eq, appendTo, hc]
      · simp only [sAppend, appendK_eq, appendTo, hc]
    exact ⟨_, _, this, by rw [List.append_nil]; exact hv, eb, Nat.le_refl _, fun m hm hl => ⟨rfl, hm⟩⟩
  · obtain ⟨y, ys, rfl⟩ : ∃ y r, ys = y :: r := by
      cases ys with
      | nil => exact absurd rfl hne
      | cons y r => exact ⟨y, r, rfl⟩
    have ha := F.oneAll (y :: ys)
    have hB : ∀ n, n ≤ 20000000000 → Nat.ble (n * bytes) bigRoom = true := fun n hn => Nat.ble_eq_true_of_le (by
      have : n * bytes ≤ 20000000000 * 4096 := Nat.mul_le_mul hn hby
      simp only [bigRoom]; omega)
    have hB2 : ∀ n, n ≤ 20000000000 → Nat.ble n bigRoom = true := fun n hn => Nat.ble_eq_true_of_le (by simp only [bigRoom]; omega)
    rcases hv with ⟨rfl, rfl⟩ | ⟨k, rfl, hk, h1, h2, h3⟩
    · have hb1 := hB (y :: ys).length (by simpa using hn)
      have hb2 := hB2 (y :: ys).length (by simpa using hn)
      have : sAppend I sz bytes .nils (.sl l o (y :: ys).length cap) h = some (.sl (.own h.next) 0 (y :: ys).length (.grown sz), h.alloc ⟨(y :: ys).flatMap f, true⟩) := by
        simp only [sAppend, appendK_eq, appendTo, srcCells, hr]
        simp only [List.length_cons] at hb1 hb2 ⊢
        simp only [ha, hb1, hb2]
        rfl
      exact ⟨_, _, this, .inr ⟨h.next, by simp, by rw [AHeap.alloc_at (Nb.o rfl)]; simp, eb.lo, by simp, by simp⟩, eb.alloc, by simp, fun m hm hl => ⟨AHeap.alloc_ne (Nb.o (by omega)), fun k o n c e => by cases e; omega⟩⟩
    · have hl := F.lenAll xs
      have hp := F.pos
      have hb1 := hB (xs.length + (y :: ys).length) hn
      have hb2 := hB2 (xs.length + (y :: ys).length) hn
      have hlm : (y :: ys).flatMap f ≠ [] := by
        intro h0
        have := F.lenAll (y :: ys)
        rw [h0] at this
        simp only [List.length_nil, List.length_cons, Nat.succ_mul] at this
        omega
      have : sAppend I sz bytes (.sl (.own k) 0 xs.length (.grown sz)) (.sl l o (y :: ys).length cap) h = some (.sl (.own h.next) 0 (xs.length + (y :: ys).length) (.grown sz), (h.kill k).alloc ⟨xs.flatMap f ++ (y :: ys).flatMap f, true⟩) := by
        have hle : Nat.ble (0 + xs.length * sz) (xs.flatMap f).length = true := Nat.ble_eq_true_of_le (by omega)
        have hgt : Nat.ble (0 + xs.length * sz + ((y :: ys).flatMap f).length) (xs.flatMap f).length = false := by
          cases hx : Nat.ble (0 + xs.length * sz + ((y :: ys).flatMap f).length) (xs.flatMap f).length with
          | false => rfl
          | true =>
            have := Nat.le_of_ble_eq_true hx
            have := List.length_pos_iff.2 hlm
            omega
        have ht : ((xs.flatMap f).drop 0).take (xs.length * sz) = xs.flatMap f := by rw [List.drop_zero, List.take_of_length_le (by omega)]
        simp only [sAppend, appendK_eq, appendTo, srcCells, hr]
        simp only [List.length_cons] at hb1 hb2 ⊢
        simp only [ha, hb1, hb2, hk, Nat.beq_refl, hle, hgt, F.oneAll xs, Bool.and_self, ht, show h.room = true from rfl]
      refine ⟨_, _, this, .inr ⟨h.next, by simp, ?_, eb.lo, by simp, by simp⟩, (eb.kill (Nb.o h1)).alloc, by simp, fun m hm hl => ⟨?_, fun k o n c e => by cases e; omega⟩⟩
      · rw [show h.next = (h.kill k).next from rfl, AHeap.alloc_at (Nb.o rfl)]; simp
      · rw [AHeap.alloc_ne (Nb.o (by show m ≠ h.next; omega))]
        exact AHeap.kill_ne (Nb.o (hm k _ _ _ rfl))
end
end
end Go.Proofs.Ytaekibfknmanhaa.Tx

set_option linter.unusedSimpArgs false
set_option linter.unusedVariables false
namespace Go.Proofs.Ytaekibfknmanhaa.Tx
noncomputable section
open Go.AM Go.Proofs.Ytaekibfknmanhaa.Sf
section
variable {I : Inp}
/-! values, objects -/
structure V3 where
  k : Int
  n : Int
  t : Bool
  deriving Inhabited
abbrev V3.cells (v : V3) : List AVal := [.int .i64 v.k, .int .i64 v.n, .bool v.t]
abbrev V3.av (v : V3) : AVal := .agg v.cells
def zeroV (k : Int) : V3 := ⟨if k = 0 then 0 else 1, 0, false⟩
theorem begun (h : AHeap) : (AM.lim ⟨P, I, genF P Sh.prims⟩) 7 [] h = some (.bool true, h) := by
  refine lim_of (C := ⟨P, I, genF P Sh.prims⟩) (n := 1) ?_
  simp only [callF, genF, show Sh.prims 7 = some AM.yesPrim from rfl]; rfl
theorem hEq (a b : V3) (hb : AHeap) : Ret ((AM.lim ⟨P, I, genF P Sh.prims⟩) 13 [a.av, b.av] hb) hb (.bool (dc (a.k = b.k) && (dc (a.n = b.n) && (a.t == b.t)))) := by
  refine f13.lim rfl (n := 0) ?_
  unfold f13.e
  (repeat' (first | refine Rf (fun hF hG => ?_) (fun hF hG => ?_) | assumption | (show Ext _ _; exact Ext.go) | (simp only [AHeap.next_alloc, AHeap.next_set, AHeap.next_kill, AHeap.next_res] at hle hsame) | simp (disch := first | exact D.go | fail) [setR, List.getElem?_cons_zero, List.getElem?_cons_succ, setR, *]))
theorem hZero (k m : Int) (hb : AHeap) : Ret ((AM.lim ⟨P, I, genF P Sh.prims⟩) 10 [.agg [.int .i64 k, .int .i64 m]] hb) hb (zeroV k).av := by
  refine f10.lim rfl (n := 1) ?_
  unfold f10.e
  (repeat' (first | refine Rf (fun hF hG => ?_) (fun hF hG => ?_) | assumption | (show Ext _ _; exact Ext.go) | (simp only [AHeap.next_alloc, AHeap.next_set, AHeap.next_kill, AHeap.next_res] at hle hsame) | simp (disch := first | exact D.go | fail) [setR, List.getElem?_cons_zero, List.getElem?_cons_succ, f10.n0, f10.b0, zeroV, *]))
theorem tZero (k m : Int) (hb : AHeap) : Ret ((AM.lim ⟨P, I, genF P Sh.prims⟩) 15 [.agg [.int .i64 k, .int .i64 m]] hb) hb (zeroV k).av := by
  refine f15.lim rfl (n := 1) ?_
  unfold f15.e
  (repeat' (first | refine Rf (fun hF hG => ?_) (fun hF hG => ?_) | assumption | (show Ext _ _; exact Ext.go) | (simp only [AHeap.next_alloc, AHeap.next_set, AHeap.next_kill, AHeap.next_res] at hle hsame) | simp (disch := first | exact D.go | fail) [setR, List.getElem?_cons_zero, List.getElem?_cons_succ, f15.n0, f15.b0, zeroV, *]))

/-- A heap of objects of two fields: block 'kh' is the heap's own, all others are made from 'b0' on. -/
structure HS (b0 kh : Nat) (obs : List (Nat × Nat)) (vs : Nat → Nat → V3) (h : AHeap) : Prop where
  lt : kh < b0
  lo : b0 ≤ h.next
  top : (obs = [] ∧ h.get kh = some ⟨[.nils], true⟩) ∨ ∃ kl, obs ≠ [] ∧ h.get kh = some ⟨[.sl (.own kl) 0 obs.length (.grown 1)], true⟩ ∧ b0 ≤ kl ∧ kl < h.next ∧ h.get kl = some ⟨obs.map fun p => .ptr (.own p.1) 0, true⟩ ∧ ∀ (i : Nat) (p : Nat × Nat), obs[i]? = some p → p.1 ≠ kl ∧ p.2 ≠ kl
  ob : ∀ (i : Nat) (p : Nat × Nat), obs[i]? = some p → b0 ≤ p.1 ∧ p.1 < h.next ∧ b0 ≤ p.2 ∧ p.2 < h.next ∧ (∃ s, h.get p.1 = some ⟨[s, .sl (.own p.2) 0 2 (.grown 3), .bool false], true⟩) ∧ h.get p.2 = some ⟨(vs i 0).cells ++ (vs i 1).cells, true⟩
  apart : ∀ (i j : Nat) (p q : Nat × Nat), obs[i]? = some p → obs[j]? = some q → p.1 ≠ q.2
  inj : ∀ (i j : Nat) (p q : Nat × Nat), obs[i]? = some p → obs[j]? = some q → p.2 = q.2 → i = j
theorem HS.mono {b0 kh : Nat} {obs : List (Nat × Nat)} {vs : Nat → Nat → V3} {h g : AHeap} (s : HS b0 kh obs vs h) (e : Ext h g) : HS b0 kh obs vs g := by
  have hlo := e.lo
  have := s.lt
  have := s.lo
  refine ⟨s.lt, by omega, ?_, fun i p hp => ?_, s.apart, s.inj⟩
  · rcases s.top with ⟨h1, h2⟩ | ⟨kl, h1, h2, h3, h4, h5, h6⟩
    · exact .inl ⟨h1, (e.same _ (by omega)).trans h2⟩
    · exact .inr ⟨kl, h1, (e.same _ (by omega)).trans h2, h3, by omega, (e.same _ h4).trans h5, h6⟩
  · obtain ⟨h1, h2, h3, h4, ⟨w, h5⟩, h6⟩ := s.ob i p hp
    exact ⟨h1, by omega, h3, by omega, ⟨w, (e.same _ h2).trans h5⟩, (e.same _ h4).trans h6⟩
theorem hFind {b0 kh : Nat} {obs : List (Nat × Nat)} {vs : Nat → Nat → V3} {h : AHeap} (s : HS b0 kh obs vs h) {i : Nat} {p : Nat × Nat} (hp : obs[i]? = some p) (hl : obs.length ≤ 400) :
    (AM.lim ⟨P, I, genF P Sh.prims⟩) 21 [.ptr (.own kh) 0, .int .i64 ((i : Int) + 1)] h = some (.ptr (.own p.1) 0, h) := by
  have hlt := lt_of_get hp
  rcases s.top with ⟨h1, h2⟩ | ⟨kl, h1, h2, h3, h4, h5, h6⟩
  · rw [h1] at hp; simp at hp
  have hi : pIndexAddr 1 (.sl (.own kl) 0 obs.length (.grown 1)) (.int .i64 (i : Int)) = some (.ptr (.own kl) (0 + i * 1)) := pIndexAddr_sl hlt
  have hw := wrap_in (n := (i : Int)) ⟨by omega, by omega⟩
  have hm : (obs.map fun p => AVal.ptr (.own p.1) 0)[0 + i * 1]? = some (.ptr (.own p.1) 0) := by
    rw [List.getElem?_map, show 0 + i * 1 = i by omega, hp]; rfl
  refine Res.eq (f21.lim rfl (n := 1) ?_)
  unfold f21.e
  have hx : (i : Int) + 1 - 1 = i := by omega
  have n1 : ¬ (i : Int) + 1 < 1 := by omega
  have n2 : ¬ (obs.length : Int) < (i : Int) + 1 := by omega
  (repeat' (first | refine Rf (fun hF hG => ?_) (fun hF hG => ?_) | assumption | (show Ext _ _; exact Ext.go) | (simp only [AHeap.next_alloc, AHeap.next_set, AHeap.next_kill, AHeap.next_res] at hle hsame) | simp (disch := first | exact D.go | fail) [setR, List.getElem?_cons_zero, List.getElem?_cons_succ, f21.n0, f21.b0, h2, h5, hi, hm, hx, hw, n1, n2, *]))
  rw [(List.getElem?_eq_some_iff.1 hp).2]
theorem hCell {b0 kh : Nat} {obs : List (Nat × Nat)} {vs : Nat → Nat → V3} {h : AHeap} (s : HS b0 kh obs vs h) {i f : Nat} {p : Nat × Nat} (hp : obs[i]? = some p) (hl : obs.length ≤ 400) (hf : f < 2) :
    (AM.lim ⟨P, I, genF P Sh.prims⟩) 20 [.ptr (.own kh) 0, .int .i64 ((i : Int) + 1), .int .i64 (f : Int)] h = some (.tuple [.ptr (.own p.2) (f * 3), Z 0], h) := by
  obtain ⟨h1, h2, h3, h4, ⟨w, h5⟩, h6⟩ := s.ob i p hp
  have hq := hFind (I := I) s hp hl
  have hi : pIndexAddr 3 (.sl (.own p.2) 0 2 (.grown 3)) (.int .i64 (f : Int)) = some (.ptr (.own p.2) (0 + f * 3)) := pIndexAddr_sl hf
  have hz : 0 + f * 3 = f * 3 := by omega
  have n1 : ¬ (f : Int) < 0 := by omega
  have n2 : ¬ (2 : Int) ≤ f := by omega
  refine Res.eq (f20.lim rfl (n := 1) ?_)
  unfold f20.e
  (repeat' (first | refine Rf (fun hF hG => ?_) (fun hF hG => ?_) | assumption | (show Ext _ _; exact Ext.go) | (simp only [AHeap.next_alloc, AHeap.next_set, AHeap.next_kill, AHeap.next_res] at hle hsame) | simp (disch := first | exact D.go | fail) [setR, List.getElem?_cons_zero, List.getElem?_cons_succ, f20.n0, f20.b0, hq, h5, hi, hz, n1, n2, *]))
def upd (vs : Nat → Nat → V3) (i f : Nat) (x : V3) : Nat → Nat → V3 := fun a b => if a = i ∧ b = f then x else vs a b
theorem hSet {b0 kh : Nat} {obs : List (Nat × Nat)} {vs : Nat → Nat → V3} {h : AHeap} (s : HS b0 kh obs vs h) {i f : Nat} {p : Nat × Nat} (hp : obs[i]? = some p) (hl : obs.length ≤ 400) (hf : f < 2) (x : V3) :
    Res ((AM.lim ⟨P, I, genF P Sh.prims⟩) 11 [.ptr (.own kh) 0, .int .i64 ((i : Int) + 1), .int .i64 (f : Int), x.av] h) fun u g => u = Z 0 ∧ HS b0 kh obs (upd vs i f x) g ∧ h.next ≤ g.next ∧ ∀ k, k < h.next → (∀ (j : Nat) (q : Nat × Nat), obs[j]? = some q → k ≠ q.2) → g.get k = h.get k := by
  obtain ⟨h1, h2, h3, h4, ⟨w, h5⟩, h6⟩ := s.ob i p hp
  have e1 : Ext h (h.alloc ⟨x.cells, true⟩) := (Ext.refl h).alloc
  have s1 := s.mono e1
  have hc := hCell (I := I) s1 hp hl hf
  have hp2 : p.2 ≠ h.next := by omega
  have hlt := s.lt
  have hb0 := s.lo
  have key : ∀ H : AHeap, H = (h.alloc ⟨x.cells, true⟩).set p.2 ⟨(upd vs i f x i 0).cells ++ (upd vs i f x i 1).cells, true⟩ → HS b0 kh obs (upd vs i f x) H ∧ h.next ≤ H.next ∧ ∀ k, k < h.next → (∀ (j : Nat) (q : Nat × Nat), obs[j]? = some q → k ≠ q.2) → H.get k = h.get k := by
    intro H hH
    have hn : H.next = h.next + 1 := by rw [hH]; simp
    have same : ∀ k, k < h.next → k ≠ p.2 → H.get k = h.get k := fun k hk hne => by
      rw [hH, AHeap.set_ne (Nb.o hne), AHeap.alloc_ne (Nb.o (by omega))]
    have hat : H.get p.2 = some ⟨(upd vs i f x i 0).cells ++ (upd vs i f x i 1).cells, true⟩ := by rw [hH, AHeap.set_at (Nb.o rfl)]
    refine ⟨⟨s.lt, by omega, ?_, fun j q hq => ?_, s.apart, s.inj⟩, by omega, fun k hk hno => same k hk (hno i p hp)⟩
    · rcases s.top with ⟨a1, a2⟩ | ⟨kl, a1, a2, a3, a4, a5, a6⟩
      · rw [a1] at hp; simp at hp
      · exact .inr ⟨kl, a1, (same _ (by omega) (by omega)).trans a2, a3, by omega, (same _ a4 (Ne.symm (a6 i p hp).2)).trans a5, a6⟩
    · obtain ⟨a1, a2, a3, a4, ⟨w', a5⟩, a6⟩ := s.ob j q hq
      refine ⟨a1, by omega, a3, by omega, ⟨w', (same _ a2 (s.apart j i q p hq hp)).trans a5⟩, ?_⟩
      by_cases hji : j = i
      · subst hji
        rw [hp] at hq; cases hq
        exact hat
      · rw [same _ a4 (fun e => hji (s.inj j i q p hq hp e)), a6]
        simp [upd, hji]
  refine f11.lim rfl (n := 1) ?_
  unfold f11.e
  rcases (show f = 0 ∨ f = 1 by omega) with rfl | rfl
  · have k1 := key _ rfl
    simp [upd] at k1
    rw [show ((0 : Nat) : Int) = 0 from rfl, Nat.zero_mul] at hc
    (repeat' (first | refine Rf (fun hF hG => ?_) (fun hF hG => ?_) | assumption | (show Ext _ _; exact Ext.go) | (simp only [AHeap.next_alloc, AHeap.next_set, AHeap.next_kill, AHeap.next_res] at hle hsame) | simp (disch := first | exact D.go | fail) [setR, List.getElem?_cons_zero, List.getElem?_cons_succ, f11.n0, f11.b0, hc, h6, *]))
    exact k1.2
  · have k1 := key _ rfl
    simp [upd] at k1
    rw [show ((1 : Nat) : Int) = 1 from rfl, Nat.one_mul] at hc
    (repeat' (first | refine Rf (fun hF hG => ?_) (fun hF hG => ?_) | assumption | (show Ext _ _; exact Ext.go) | (simp only [AHeap.next_alloc, AHeap.next_set, AHeap.next_kill, AHeap.next_res] at hle hsame) | simp (disch := first | exact D.go | fail) [setR, List.getElem?_cons_zero, List.getElem?_cons_succ, f11.n0, f11.b0, hc, h6, *]))
    exact k1.2
theorem hGet {b0 kh : Nat} {obs : List (Nat × Nat)} {vs : Nat → Nat → V3} {h : AHeap} (s : HS b0 kh obs vs h) {i f : Nat} {p : Nat × Nat} (hp : obs[i]? = some p) (hl : obs.length ≤ 400) (hf : f < 2) :
    Ret ((AM.lim ⟨P, I, genF P Sh.prims⟩) 12 [.ptr (.own kh) 0, .int .i64 ((i : Int) + 1), .int .i64 (f : Int)] h) h (.tuple [(vs i f).av, Z 0]) := by
  obtain ⟨h1, h2, h3, h4, ⟨w, h5⟩, h6⟩ := s.ob i p hp
  have e1 : Ext h (h.alloc ⟨[Z 0, Z 0, .bool false], true⟩) := (Ext.refl h).alloc
  have s1 := s.mono e1
  have hc := hCell (I := I) s1 hp hl hf
  have hp2 : p.2 ≠ h.next := by omega
  refine f12.lim rfl (n := 1) ?_
  unfold f12.e
  rcases (show f = 0 ∨ f = 1 by omega) with rfl | rfl
  · rw [show ((0 : Nat) : Int) = 0 from rfl, Nat.zero_mul] at hc
    (repeat' (first | refine Rf (fun hF hG => ?_) (fun hF hG => ?_) | assumption | (show Ext _ _; exact Ext.go) | (simp only [AHeap.next_alloc, AHeap.next_set, AHeap.next_kill, AHeap.next_res] at hle hsame) | simp (disch := first | exact D.go | fail) [setR, List.getElem?_cons_zero, List.getElem?_cons_succ, f12.n0, f12.b0, hc, h6, *]))
  · rw [show ((1 : Nat) : Int) = 1 from rfl, Nat.one_mul] at hc
    (repeat' (first | refine Rf (fun hF hG => ?_) (fun hF hG => ?_) | assumption | (show Ext _ _; exact Ext.go) | (simp only [AHeap.next_alloc, AHeap.next_set, AHeap.next_kill, AHeap.next_res] at hle hsame) | simp (disch := first | exact D.go | fail) [setR, List.getElem?_cons_zero, List.getElem?_cons_succ, f12.n0, f12.b0, hc, h6, *]))
end
end
end Go.Proofs.Ytaekibfknmanhaa.Tx

set_option linter.unusedSimpArgs false
set_option linter.unusedVariables false
namespace Go.Proofs.Ytaekibfknmanhaa.Tx
noncomputable section
open Go.AM Go.Proofs.Ytaekibfknmanhaa.Sf
section
variable {I : Inp}
theorem v3Fix : Fix V3.cells 3 := ⟨fun _ => rfl, fun _ => rfl, by omega⟩
theorem Own.one {α : Type} {f : α → List AVal} {sz : Nat} {hb h : AHeap} {v : AVal} {xs : List α} (a : Own f sz hb h v xs) : v.one = true ∧ v.cells = [v] ∧ v.eqb v = true := by
  rcases a with ⟨rfl, rfl⟩ | ⟨k, rfl, _⟩
  · exact ⟨rfl, rfl, by simp⟩
  · exact ⟨rfl, rfl, by simp⟩
theorem Own.set {α : Type} {f : α → List AVal} {sz : Nat} {hb h : AHeap} {v : AVal} {xs : List α} (a : Own f sz hb h v xs) {m : Nat} {b : Blk} (nb : NotB v m) : Own f sz hb (h.set m b) v xs := by
  rcases a with a | ⟨k, rfl, hk, h1, h2, h3⟩
  · exact .inl a
  · exact .inr ⟨k, rfl, by rw [AHeap.set_ne (Nb.o (Ne.symm (nb k _ _ _ rfl)))]; exact hk, h1, h2, h3⟩
/-- One round of Alloc's loop: a field more. -/
theorem hAlloc {b0 kh : Nat} {obs : List (Nat × Nat)} {vs : Nat → Nat → V3} {hb : AHeap} (s : HS b0 kh obs vs hb) (hl : obs.length < 400) {kr : Nat} (hkr : hb.get kr = some ⟨[Z 0, Z 0, Z 1, Z 0], true⟩) (hr0 : kr < b0) (hr1 : kr ≠ kh) (n : Int) (v0 : vs obs.length 0 = zeroV 0) (v1 : vs obs.length 1 = zeroV 1) :
    Res ((AM.lim ⟨P, I, genF P Sh.prims⟩) 9 [.ptr (.own kh) 0, .int .i64 n, .sl (.own kr) 0 2 (.known 2)] hb) fun u g => ∃ p, HS b0 kh (obs ++ [p]) vs g ∧ ∀ k, k < b0 → k ≠ kh → g.get k = hb.get k := by
  have hlt := s.lt
  have hlo := s.lo
  have i0 : pIndexAddr 2 (.sl (.own kr) 0 2 (.known 2)) (Z 0) = some (.ptr (.own kr) 0) := rfl
  have i1 : pIndexAddr 2 (.sl (.own kr) 0 2 (.known 2)) (.int .i64 1) = some (.ptr (.own kr) 2) := rfl
  have w1 : IntKind.i64.wrap 1 = 1 := wrap_in ⟨by omega, by omega⟩
  have w2 : IntKind.i64.wrap 2 = 2 := wrap_in ⟨by omega, by omega⟩
  have start : ∃ w, hb.get kh = some ⟨[w], true⟩ ∧ pLenSl w = some (.int .i64 obs.length) := by
    rcases s.top with ⟨h1, h2⟩ | ⟨kl, h1, h2, _⟩
    · exact ⟨_, h2, by rw [h1]; rfl⟩
    · exact ⟨_, h2, rfl⟩
  obtain ⟨w0, hw0, lw0⟩ := start
  have n1 : ¬ (400 : Int) ≤ obs.length := by omega
  have fin : ∀ (m : Nat) (w : AVal) (g : AHeap), Own V3.cells 3 hb g w [zeroV 0, zeroV 1] → g.get hb.next = some ⟨[.int .i64 n, w, .bool false], true⟩ → Ext hb g → hb.next < g.next → NotB w hb.next → Res ((f9.J I (AM.lim ⟨P, I, genF P Sh.prims⟩) (m + 1)).1.2 (.ptr (.own kh) 0) (.ptr (.own hb.next) 0) g) fun u g => ∃ p, HS b0 kh (obs ++ [p]) vs g ∧ ∀ k, k < b0 → k ≠ kh → g.get k = hb.get k := by
    intro m w g hw hg e hgl hnb
    rcases hw with ⟨_, hz⟩ | ⟨kc, rfl, hkc, hc1, hc2, _⟩
    · cases hz
    have hne : kc ≠ hb.next := Ne.symm (hnb kc _ _ _ rfl)
    have elo := e.lo
    have gkh : g.get kh = hb.get kh := e.same kh (by omega)
    have key : ∀ (kl' : Nat) (H : AHeap), H.get kh = some ⟨[.sl (.own kl') 0 (obs.length + 1) (.grown 1)], true⟩ → b0 ≤ kl' → kl' < H.next → H.get kl' = some ⟨obs.map (fun p => .ptr (.own p.1) 0) ++ [.ptr (.own hb.next) 0], true⟩ → g.next ≤ kl' → g.next ≤ H.next →
        (∀ k, k < g.next → k ≠ kh → (∀ kl, hb.get kh = some ⟨[.sl (.own kl) 0 obs.length (.grown 1)], true⟩ → k ≠ kl) → H.get k = g.get k) → ∃ p, HS b0 kh (obs ++ [p]) vs H ∧ ∀ k, k < b0 → k ≠ kh → H.get k = hb.get k := by
      intro kl' H h1 h2 h3 h4 h5 h6 h7
      have hkl : ∀ kl, hb.get kh = some ⟨[.sl (.own kl) 0 obs.length (.grown 1)], true⟩ → b0 ≤ kl ∧ kl < hb.next ∧ ∀ (i : Nat) (p : Nat × Nat), obs[i]? = some p → p.1 ≠ kl ∧ p.2 ≠ kl := by
        intro kl hkl
        rcases s.top with ⟨a1, a2⟩ | ⟨kl2, a1, a2, a3, a4, a5, a6⟩
        · rw [a2] at hkl; cases hkl
        · rw [a2] at hkl; cases hkl; exact ⟨a3, a4, a6⟩
      have hob : ∀ (i : Nat) (p : Nat × Nat), obs[i]? = some p → H.get p.1 = hb.get p.1 ∧ H.get p.2 = hb.get p.2 ∧ p.1 < hb.next ∧ p.2 < hb.next ∧ b0 ≤ p.1 ∧ b0 ≤ p.2 := by
        intro i p hp
        obtain ⟨a1, a2, a3, a4, _, _⟩ := s.ob i p hp
        exact ⟨(h7 _ (by omega) (by omega) (fun kl hh => ((hkl kl hh).2.2 i p hp).1)).trans (e.same _ a2), (h7 _ (by omega) (by omega) (fun kl hh => ((hkl kl hh).2.2 i p hp).2)).trans (e.same _ a4), a2, a4, a1, a3⟩
      have get1 : ∀ (i : Nat) (p : Nat × Nat), (obs ++ [(hb.next, kc)])[i]? = some p → obs[i]? = some p ∨ i = obs.length ∧ p = (hb.next, kc) := by
        intro i p hp
        rcases Nat.lt_or_ge i obs.length with hi | hi
        · rw [List.getElem?_append_left hi] at hp; exact .inl hp
        · rw [List.getElem?_append_right hi] at hp
          have hi0 : i - obs.length = 0 := by
            have := (List.getElem?_eq_some_iff.1 hp).1
            simp at this; omega
          rw [hi0] at hp
          simp at hp
          exact .inr ⟨by omega, hp.symm⟩
      refine ⟨(hb.next, kc), ⟨s.lt, by omega, .inr ⟨kl', by simp, by simpa using h1, h2, h3, by simpa using h4, fun i p hp => ?_⟩, fun i p hp => ?_, fun i j p q hp hq => ?_, fun i j p q hp hq hpq => ?_⟩, fun k hk hne => (h7 k (by omega) hne (fun kl hh => by have := (hkl kl hh).1; omega)).trans (e.same k (by omega))⟩
      · rcases get1 i p hp with hp | ⟨_, rfl⟩
        · obtain ⟨_, _, a1, a2, _, _⟩ := hob i p hp
          exact ⟨by omega, by omega⟩
        · exact ⟨by show hb.next ≠ kl'; omega, by show kc ≠ kl'; omega⟩
      · rcases get1 i p hp with hp | ⟨rfl, rfl⟩
        · obtain ⟨g1, g2, a1, a2, a3, a4⟩ := hob i p hp
          obtain ⟨_, _, _, _, ⟨w', c1⟩, c2⟩ := s.ob i p hp
          exact ⟨a3, by omega, a4, by omega, ⟨w', g1.trans c1⟩, g2.trans c2⟩
        · refine ⟨by show b0 ≤ hb.next; omega, by show hb.next < H.next; omega, by show b0 ≤ kc; omega, by show kc < H.next; omega, ⟨_, (h7 hb.next hgl (by omega) (fun kl hh => by have := (hkl kl hh).2.1; omega)).trans hg⟩, ?_⟩
          rw [v0, v1]
          exact (h7 kc hc2 (by omega) (fun kl hh => by have := (hkl kl hh).2.1; omega)).trans hkc
      · rcases get1 i p hp with hp | ⟨rfl, rfl⟩
        · rcases get1 j q hq with hq | ⟨rfl, rfl⟩
          · exact s.apart i j p q hp hq
          · obtain ⟨_, _, a1, a2, _, _⟩ := hob i p hp
            show p.1 ≠ kc; omega
        · rcases get1 j q hq with hq | ⟨rfl, rfl⟩
          · obtain ⟨_, _, a1, a2, _, _⟩ := hob j q hq
            show hb.next ≠ q.2; omega
          · exact Ne.symm hne
      · rcases get1 i p hp with hp | ⟨rfl, rfl⟩
        · rcases get1 j q hq with hq | ⟨rfl, rfl⟩
          · exact s.inj i j p q hp hq hpq
          · obtain ⟨_, _, a1, a2, _, _⟩ := hob i p hp
            have : p.2 = kc := hpq
            omega
        · rcases get1 j q hq with hq | ⟨rfl, rfl⟩
          · obtain ⟨_, _, a1, a2, _, _⟩ := hob j q hq
            have : kc = q.2 := hpq
            omega
          · rfl
    rw [f9.n1]; unfold f9.b1
    rcases s.top with ⟨a1, a2⟩ | ⟨kl, a1, a2, a3, a4, a5, a6⟩
    · subst a1
      rw [a2] at hw0 gkh; cases hw0
      have hk := key (g.next + 1) (((g.alloc ⟨[.ptr (.own hb.next) 0], true⟩).alloc ⟨[.ptr (.own hb.next) 0], true⟩).set kh ⟨[.sl (.own (g.next + 1)) 0 1 (.grown 1)], true⟩) (AHeap.set_at (Nb.o rfl)) (by omega) (by simp) (by rw [AHeap.set_ne (Nb.o (by omega)), AHeap.alloc_at (Nb.o (by simp))]; rfl) (by omega) (by simp; omega)
        (fun k hk hne _ => by rw [AHeap.set_ne (Nb.o hne), AHeap.alloc_ne (Nb.o (by simp; omega)), AHeap.alloc_ne (Nb.o (by omega))])
      have ha := sAppend_nils (I := I) (sz := 1) (bytes := 8) (k := g.next) (n := 0) (news := [.ptr (.own hb.next) 0]) (p := true) (c := .known 1) (h := g.alloc ⟨[.ptr (.own hb.next) 0], true⟩) (AHeap.alloc_at (Nb.o rfl)) rfl rfl (by simp [bigRoom])
      (repeat' (first | refine Rf (fun hF hG => ?_) (fun hF hG => ?_) | assumption | (show Ext _ _; exact Ext.go) | (simp only [AHeap.next_alloc, AHeap.next_set, AHeap.next_kill, AHeap.next_res] at hle hsame) | simp (disch := first | exact D.go | fail) [setR, List.getElem?_cons_zero, List.getElem?_cons_succ, gkh, ha, *]))
      obtain ⟨⟨a, b⟩, hp1, hp2⟩ := hk
      exact ⟨⟨a, b, hp1⟩, hp2⟩
    · rw [a2] at hw0 gkh; cases hw0
      have hk := key (g.next + 1) ((((g.alloc ⟨[.ptr (.own hb.next) 0], true⟩).kill kl).alloc ⟨obs.map (fun p => .ptr (.own p.1) 0) ++ [.ptr (.own hb.next) 0], true⟩).set kh ⟨[.sl (.own (g.next + 1)) 0 (obs.length + 1) (.grown 1)], true⟩) (AHeap.set_at (Nb.o rfl)) (by omega) (by simp) (by rw [AHeap.set_ne (Nb.o (by omega)), AHeap.alloc_at (Nb.o (by simp))]) (by omega) (by simp; omega)
        (fun k hk hne hx => by rw [AHeap.set_ne (Nb.o hne), AHeap.alloc_ne (Nb.o (by simp; omega)), AHeap.kill_ne (Nb.o (hx kl a2)), AHeap.alloc_ne (Nb.o (by omega))])
      have ha := sAppend_full (I := I) (sz := 1) (bytes := 8) (k := g.next) (n := 0) (kx := kl) (len := obs.length) (news := [.ptr (.own hb.next) 0]) (olds := obs.map fun p => .ptr (.own p.1) 0) (p := true) (px := true) (c := .known 1) (h := g.alloc ⟨[.ptr (.own hb.next) 0], true⟩) (AHeap.alloc_at (Nb.o rfl)) rfl rfl (by rw [AHeap.alloc_ne (Nb.o (by omega))]; exact (e.same kl a4).trans a5) (by simp) (by simp) (by omega) (by simp only [bigRoom]; omega)
      (repeat' (first | refine Rf (fun hF hG => ?_) (fun hF hG => ?_) | assumption | (show Ext _ _; exact Ext.go) | (simp only [AHeap.next_alloc, AHeap.next_set, AHeap.next_kill, AHeap.next_res] at hle hsame) | simp (disch := first | exact D.go | fail) [setR, List.getElem?_cons_zero, List.getElem?_cons_succ, gkh, ha, *]))
      obtain ⟨⟨a, b⟩, hp1, hp2⟩ := hk
      exact ⟨⟨a, b, hp1⟩, hp2⟩
  generalize (fun u g => ∃ p, HS b0 kh (obs ++ [p]) vs g ∧ ∀ k, k < b0 → k ≠ kh → g.get k = hb.get k : AVal → AHeap → Prop) = Q at fin ⊢
  refine f9.lim rfl (n := 12) ?_
  unfold f9.e
  (repeat' (first | refine Rf (fun hF hG => ?_) (fun hF hG => ?_) | assumption | (show Ext _ _; exact Ext.go) | (simp only [AHeap.next_alloc, AHeap.next_set, AHeap.next_kill, AHeap.next_res] at hle hsame) | simp (disch := first | exact D.go | fail) [setR, List.getElem?_cons_zero, List.getElem?_cons_succ, f9.n0, f9.b0, f9.n2, f9.b2, f9.n3, f9.b3, hkr, hw0, lw0, n1, i0, *] | (refine Ret.thn (h0 := hb) (tZero _ _ _) ?_ (fun g hg hlo hle hsame hx => ?_))))
  refine Res.after (app_own (I := I) (f := V3.cells) v3Fix (hb := hb) Own.nil hg.alloc (zeroV 0) (bytes := 24) (by omega) (by simp) (AHeap.alloc_at (Nb.o rfl))) (fun u g1 hA => ?_)
  obtain ⟨o1, e1, l1, k1⟩ := hA
  simp only [AHeap.next_alloc] at l1 k1
  have g1o := (k1 hb.next (fun k o n c e => by cases e) (by omega)).1
  have g1n := (k1 hb.next (fun k o n c e => by cases e) (by omega)).2
  rw [AHeap.alloc_ne (Nb.o (by omega)), hsame hb.next (by omega)] at g1o
  simp (disch := first | exact D.go | fail) [] at g1o
  have gkr := (e1.same kr (by omega)).trans hkr
  obtain ⟨ou1, ou2, ou3⟩ := Own.one o1
  (repeat' (first | refine Rf (fun hF hG => ?_) (fun hF hG => ?_) | assumption | (show Ext _ _; exact Ext.go) | (simp only [AHeap.next_alloc, AHeap.next_set, AHeap.next_kill, AHeap.next_res] at hle hsame) | simp (disch := first | exact D.go | fail) [setR, List.getElem?_cons_zero, List.getElem?_cons_succ, f9.n4, f9.b4, f9.n2, f9.b2, f9.n3, f9.b3, gkr, hkr, g1o, ou1, ou2, ou3, hw0, lw0, n1, i0, i1, w1, *] | (refine Ret.thn (h0 := hb) (tZero _ _ _) ?_ (fun g hg hlo hle hsame hx => ?_))))
  refine Res.after (app_own (I := I) (f := V3.cells) v3Fix (hb := hb) (xs := [] ++ [zeroV 0]) (v := u) ((o1.set g1n).mono ((((Ext.refl _).alloc.set (Nb.o (by simp))).trans hx).alloc)) (Ext.alloc (by assumption)) (zeroV 1) (bytes := 24) (by omega) (by simp) (AHeap.alloc_at (Nb.o rfl))) (fun u2 g3 hA => ?_)
  obtain ⟨o2, e2, l2, k2⟩ := hA
  simp only [AHeap.next_alloc] at l2 k2
  have gob : g.get hb.next = some ⟨[.int .i64 n, u, .bool false], true⟩ := by
    rw [hsame hb.next (by omega), AHeap.set_ne (Nb.o (by omega)), AHeap.alloc_ne (Nb.o (by simp; omega)), AHeap.set_at (Nb.o rfl)]
  have g3o := (k2 hb.next g1n (by omega)).1
  have g3n := (k2 hb.next g1n (by omega)).2
  rw [AHeap.alloc_ne (Nb.o (by omega)), gob] at g3o
  obtain ⟨ov1, ov2, ov3⟩ := Own.one o2
  have hend := fin 3 u2 (g3.set hb.next ⟨[.int .i64 n, u2, .bool false], true⟩) (o2.set g3n) (AHeap.set_at (Nb.o rfl)) (e2.set (Nb.o (Nat.le_refl _))) (by simp; omega) g3n
  (repeat' (first | refine Rf (fun hF hG => ?_) (fun hF hG => ?_) | assumption | (show Ext _ _; exact Ext.go) | (simp only [AHeap.next_alloc, AHeap.next_set, AHeap.next_kill, AHeap.next_res] at hle hsame) | simp (disch := first | exact D.go | fail) [setR, List.getElem?_cons_zero, List.getElem?_cons_succ, f9.n4, f9.b4, f9.n2, f9.b2, gob, g3o, ou1, ou2, ou3, ov1, ov2, ov3, w2, *]))
  all_goals skip
end
end
end Go.Proofs.Ytaekibfknmanhaa.Tx

set_option linter.unusedSimpArgs false
set_option linter.unusedVariables false
namespace Go.Proofs.Ytaekibfknmanhaa.Tx
noncomputable section
open Go.AM Go.Proofs.Ytaekibfknmanhaa.Sf
section
variable {I : Inp}
/-! the array of what was written -/
structure Arr (km n : Nat) (vs : Nat → Nat → V3) (h : AHeap) : Prop where
  lt : km < h.next
  at_ : ∃ cells, h.get km = some ⟨cells, true⟩ ∧ cells.length = 120 ∧ ∀ i f, i < n → f < 2 → (cells.drop (i * 6 + f * 3)).take 3 = (vs i f).cells
theorem Arr.ld {km n : Nat} {vs : Nat → Nat → V3} {h : AHeap} (a : Arr km n vs h) {i f : Nat} (hi : i < n) (hf : f < 2) (hn : n ≤ 20) : pLoadN I 3 (.ptr (.own km) (0 + i * 6 + f * 3)) h = some (vs i f).av := by
  obtain ⟨cells, h1, h2, h3⟩ := a.at_
  rw [pLoadN_ptr, rds_own', h1]
  simp only [Option.bind_some]
  rw [if_pos (by omega), show 0 + i * 6 + f * 3 = i * 6 + f * 3 by omega, h3 i f hi hf]; rfl
theorem take_setR {xs ys : List AVal} {o p : Nat} (ho : o + 3 ≤ xs.length) (hy : ys.length = 3) (hp : p + 3 ≤ xs.length) (hd : p = o ∨ p + 3 ≤ o ∨ o + 3 ≤ p) : ((setR xs o ys).drop p).take 3 = if p = o then ys else (xs.drop p).take 3 := by
  have hl : (setR xs o ys).length = xs.length := by unfold setR; simp; omega
  have hg : ∀ j, (setR xs o ys)[j]? = if j < o then xs[j]? else if j < o + 3 then ys[j - o]? else xs[j]? := by
    intro j
    unfold setR
    by_cases h1 : j < o
    · rw [List.append_assoc, List.getElem?_append_left (by simp; omega), if_pos h1, List.getElem?_take_of_lt h1]
    · rw [if_neg h1]
      by_cases h2 : j < o + 3
      · rw [if_pos h2, List.getElem?_append_left (by simp; omega), List.getElem?_append_right (by simp; omega)]
        congr 1; simp; omega
      · rw [if_neg h2, List.getElem?_append_right (by simp; omega), List.getElem?_drop]
        congr 1; simp; omega
  apply List.ext_getElem?
  intro j
  by_cases hj : j < 3
  · rw [List.getElem?_take_of_lt hj, List.getElem?_drop, hg]
    by_cases he : p = o
    · subst he
      rw [if_neg (by omega), if_pos (by omega), if_pos rfl, show p + j - p = j by omega]
    · rw [if_neg he, List.getElem?_take_of_lt hj, List.getElem?_drop]
      by_cases h1 : p + j < o
      · rw [if_pos h1]
      · rw [if_neg h1, if_neg (by omega)]
  · rw [List.getElem?_eq_none (by simp; omega)]
    split
    · rw [List.getElem?_eq_none (by omega)]
    · rw [List.getElem?_eq_none (by simp; omega)]
theorem Arr.st {km n : Nat} {vs : Nat → Nat → V3} {h : AHeap} (a : Arr km n vs h) {i f : Nat} (hi : i < n) (hf : f < 2) (hn : n ≤ 20) (x : V3) : ∃ b, sStore 3 (.ptr (.own km) (0 + i * 6 + f * 3)) x.av h = some (aundef, h.set km b) ∧ Arr km n (upd vs i f x) (h.set km b) := by
  obtain ⟨cells, h1, h2, h3⟩ := a.at_
  refine ⟨⟨setR cells (i * 6 + f * 3) x.cells, true⟩, ?_, a.lt, _, AHeap.set_at (Nb.o rfl), by unfold setR; simp; omega, fun j g hj hg => ?_⟩
  · rw [sStore_own', h1]
    simp only [Option.bind_some, cells_agg]
    rw [if_pos (show x.cells.length = 3 from rfl), wr_mk, if_pos ⟨by simp; omega, rfl⟩, show 0 + i * 6 + f * 3 = i * 6 + f * 3 by omega]; rfl
  · rw [take_setR (by omega) rfl (by omega) (by omega)]
    unfold upd
    by_cases he : j = i ∧ g = f
    · rw [if_pos (by omega), if_pos he]
    · rw [if_neg (by omega), if_neg he, h3 j g hj hg]
theorem Arr.mono {km n : Nat} {vs : Nat → Nat → V3} {h g : AHeap} (a : Arr km n vs h) (hn : h.next ≤ g.next) (hk : g.get km = h.get km) : Arr km n vs g := by
  obtain ⟨cells, h1, h2⟩ := a.at_
  exact ⟨by have := a.lt; omega, cells, hk.trans h1, h2⟩
theorem idxArr {n sz : Nat} {l : AM.Loc} {o j : Nat} {k : IntKind} (hj : j < n) : pIndexAddrArr n sz (.ptr l o) (.int k (j : Int)) = some (.ptr l (o + j * sz)) := by
  show (match Nat.blt j n with | true => some (AVal.ptr l (o + j * sz)) | false => none) = _
  rw [blt_iff]; simp [hj]
theorem pBin_rem (k : IntKind) (a b : Int) (hb : b ≠ 0) : pBin .rem (.int k a) (.int k b) = some (.int k (a.tmod b)) := by simp [pBin, abin, ibin, hb]
end
end
end Go.Proofs.Ytaekibfknmanhaa.Tx

set_option linter.unusedSimpArgs false
set_option linter.unusedVariables false
namespace Go.Proofs.Ytaekibfknmanhaa.Tx
noncomputable section
open Go.AM Go.Proofs.Ytaekibfknmanhaa.Sf
section
variable {I : Inp}
/-- All is read as it was written. -/
theorem hRead {b0 kh N : Nat} (hN1 : 1 ≤ N) (hN2 : N ≤ 20) :
    ∃ M, ∀ m, M ≤ m → ∀ (obs : List (Nat × Nat)) (km : Nat) (vs : Nat → Nat → V3) hb, obs.length = N → HS b0 kh obs vs hb → Arr km N vs hb → Res ((f3.J I (AM.lim ⟨P, I, genF P Sh.prims⟩) (m)).2.2.1.1 (.int .i64 N) (.ptr (.own kh) 0) (.ptr (.own km) 0) (Z 0) hb) fun u g => u = .bool true ∧ Ext hb g := by
  obtain ⟨M, hM⟩ := Evt.loop (List.range N) (F := fun i n => ∀ (obs : List (Nat × Nat)) (km : Nat) (vs : Nat → Nat → V3) hb, obs.length = N → HS b0 kh obs vs hb → Arr km N vs hb → ∀ h, Ext hb h → Res ((f3.J I (AM.lim ⟨P, I, genF P Sh.prims⟩) (n)).2.2.1.1 (.int .i64 N) (.ptr (.own kh) 0) (.ptr (.own km) 0) (.int .i64 (i : Int)) h) fun u g => u = .bool true ∧ Ext hb g) 24
    (Evt.all 24 fun n obs km vs hb hN s a h e => by
      rw [List.length_range]
      rw [f3.n16]; unfold f3.b16
      (repeat' (first | refine Rf (fun hF hG => ?_) (fun hF hG => ?_) | assumption | (show Ext _ _; exact Ext.go) | (simp only [AHeap.next_alloc, AHeap.next_set, AHeap.next_kill, AHeap.next_res] at hle hsame) | simp (disch := first | exact D.go | fail) [setR, List.getElem?_cons_zero, List.getElem?_cons_succ, f3.n15, f3.b15, hN, *])))
    (fun i p n hp ih obs km vs hb hN s a h e => by
      obtain ⟨p, hp⟩ : ∃ p, obs[i]? = some p := ⟨_, List.getElem?_eq_getElem (by have := lt_of_get hp; rw [List.length_range] at this; omega)⟩
      obtain ⟨cells, c1, c2, c3⟩ := a.at_
      have hkm := a.lt
      have hlt := lt_of_get hp
      rw [hN] at hlt
      have hlo := e.lo
      have hw := wrap_in (n := (i : Int) + 1) ⟨by omega, by omega⟩
      have w1 : IntKind.i64.wrap 1 = 1 := wrap_in ⟨by omega, by omega⟩
      have w2 : IntKind.i64.wrap 2 = 2 := wrap_in ⟨by omega, by omega⟩
      simp only [Int.natCast_add, Int.natCast_one] at ih
      have ih := fun m hm => ih m hm obs km vs hb hN s a
      have G0 := fun g (e : Ext hb g) => hGet (I := I) (f := 0) (s.mono e) hp (by omega) (by omega)
      have G1 := fun g (e : Ext hb g) => hGet (I := I) (f := 1) (s.mono e) hp (by omega) (by omega)
      rw [show ((0 : Nat) : Int) = 0 from rfl] at G0
      rw [show ((1 : Nat) : Int) = 1 from rfl] at G1
      have ch := (e.same km hkm).trans c1
      have q0 := c3 i 0 hlt (by omega)
      have q1 := c3 i 1 hlt (by omega)
      simp only [Nat.zero_mul, Nat.add_zero, Nat.one_mul] at q0 q1
      have x0 : pIndexAddrArr 20 6 (.ptr (.own km) 0) (.int .i64 (i : Int)) = some (.ptr (.own km) (i * 6)) := by rw [idxArr (by omega), Nat.zero_add]
      have x1 : pIndexAddrArr 2 3 (.ptr (.own km) (i * 6)) (Z 0) = some (.ptr (.own km) (i * 6)) := rfl
      have x2 : pIndexAddrArr 2 3 (.ptr (.own km) (i * 6)) (.int .i64 1) = some (.ptr (.own km) (i * 6 + 3)) := rfl
      have b1 : i * 6 ≤ 117 := by omega
      have b2 : i * 6 ≤ 114 := by omega
      have b3 : i * 6 + 3 ≤ 117 := by omega
      rw [f3.n16]; unfold f3.b16
      (repeat' (first | refine Rf (fun hF hG => ?_) (fun hF hG => ?_) | assumption | (show Ext _ _; exact Ext.go) | (simp only [AHeap.next_alloc, AHeap.next_set, AHeap.next_kill, AHeap.next_res] at hle hsame) | simp (disch := first | exact D.go | fail) [setR, List.getElem?_cons_zero, List.getElem?_cons_succ, f3.n17, f3.b17, f3.n18, f3.b18, f3.n19, f3.b19, f3.n20, f3.b20, f3.n21, f3.b21, hlt, hw, w1, w2, ch, b1, b2, b3, x0, x1, x2, q0, q1, *] | (refine Ret.thn (h0 := hb) (G0 _ Ext.go) ?_ (fun g hg hlo hle hsame hx => ?_)) | (refine Ret.thn (h0 := hb) (G1 _ Ext.go) ?_ (fun g hg hlo hle hsame hx => ?_)) | (refine Ret.thn (h0 := hb) (hEq _ _ _) ?_ (fun g hg hlo hle hsame hx => ?_)) | (refine Res.mono (ih _ (by omega) _ ?_) (fun u g hq => ?_); rotate_left; (obtain ⟨rfl, hq⟩ := hq); rotate_right))))
    0 (by omega)
  exact ⟨M, fun m hm obs km vs hb hN s a => hM m hm obs km vs hb hN s a hb (Ext.refl hb)⟩
end
end
end Go.Proofs.Ytaekibfknmanhaa.Tx

set_option linter.unusedSimpArgs false
set_option linter.unusedVariables false
namespace Go.Proofs.Ytaekibfknmanhaa.Tx
noncomputable section
open Go.AM Go.Proofs.Ytaekibfknmanhaa.Sf
section
variable {I : Inp} {h0 : AHeap}
theorem rem_ok {x : Int} {N : Nat} (hN : 1 ≤ N) (hN2 : N ≤ 20) : (x.tmod N + N).tmod N = ((x.tmod N + N).toNat % N : Nat) ∧ IntKind.i64.wrap (x.tmod N + N) = x.tmod N + N ∧ (x.tmod N + N).toNat % N < N := by
  have h1 := Int.lt_tmod_of_pos x (b := (N : Int)) (by omega)
  have h2 := Int.tmod_lt_of_pos x (b := (N : Int)) (by omega)
  refine ⟨?_, wrap_in ⟨by omega, by omega⟩, Nat.mod_lt _ (by omega)⟩
  generalize x.tmod N = t at *
  obtain ⟨k, hk⟩ : ∃ k : Nat, t + N = k := ⟨(t + N).toNat, by omega⟩
  rw [hk, Int.toNat_natCast]
  rw [Int.tmod_eq_emod_of_nonneg (by omega)]
  omega
theorem ext0 (g : AHeap) : Ext ⟨.nil, 0⟩ g := ⟨Nat.zero_le _, fun k hk => absurd hk (Nat.not_lt_zero k)⟩
theorem HS.setk {b0 kh km : Nat} {obs : List (Nat × Nat)} {vs : Nat → Nat → V3} {h : AHeap} (s : HS b0 kh obs vs h) (hkm : b0 ≤ km) (hkp : ∀ (j : Nat) (q : Nat × Nat), obs[j]? = some q → km ≠ q.1 ∧ km ≠ q.2) {w : AVal} (hw : h.get kh = some ⟨[w], true⟩) (nw : NotB w km) {b : Blk} : HS b0 kh obs vs (h.set km b) := by
  have hlt := s.lt
  have hg : ∀ k, k ≠ km → (h.set km b).get k = h.get k := fun k hk => AHeap.set_ne (Nb.o hk)
  refine ⟨s.lt, s.lo, ?_, fun i p hp => ?_, s.apart, s.inj⟩
  · rcases s.top with ⟨a1, a2⟩ | ⟨kl, a1, a2, a3, a4, a5, a6⟩
    · exact .inl ⟨a1, (hg _ (by omega)).trans a2⟩
    · rw [a2] at hw; cases hw
      exact .inr ⟨kl, a1, (hg _ (by omega)).trans a2, a3, a4, (hg _ (Ne.symm (nw kl _ _ _ rfl))).trans a5, a6⟩
  · obtain ⟨a1, a2, a3, a4, ⟨w', a5⟩, a6⟩ := s.ob i p hp
    obtain ⟨b1, b2⟩ := hkp i p hp
    exact ⟨a1, a2, a3, a4, ⟨w', (hg _ (Ne.symm b1)).trans a5⟩, (hg _ (Ne.symm b2)).trans a6⟩
/-- What is written comes to be read. -/
theorem hSets {v1 : AVal} {xs : List Int} (sv : SlOf 1 (IntA I ⟨.nil, 0⟩) v1 xs) {b0 kh k5 N : Nat} (x : V3) (hN1 : 1 ≤ N) (hN2 : N ≤ 20) (h5a : k5 < b0) (h5b : k5 ≠ kh) :
    ∃ M, ∀ m, M ≤ m → ∀ (obs : List (Nat × Nat)) (km : Nat) vs h, obs.length = N → b0 ≤ km → (∀ (j : Nat) (q : Nat × Nat), obs[j]? = some q → km ≠ q.1 ∧ km ≠ q.2) → HS b0 kh obs vs h → Arr km N vs h → h.get k5 = some ⟨x.cells, true⟩ → (∃ w, h.get kh = some ⟨[w], true⟩ ∧ NotB w km) → Res ((f3.J I (AM.lim ⟨P, I, genF P Sh.prims⟩) (m)).2.1.1.1 (.int .i64 N) v1 (.ptr (.own k5) 0) (.ptr (.own kh) 0) (.ptr (.own km) 0) (Z 0) h) fun u g => u = .bool true := by
  have hL := sv.lt
  obtain ⟨M0, hM0⟩ := hRead (I := I) (b0 := b0) (kh := kh) hN1 hN2
  obtain ⟨M, hM⟩ := Evt.loop' (xs.take 30) (F := fun i n => ∀ (obs : List (Nat × Nat)) (km : Nat) vs h, obs.length = N → b0 ≤ km → (∀ (j : Nat) (q : Nat × Nat), obs[j]? = some q → km ≠ q.1 ∧ km ≠ q.2) → HS b0 kh obs vs h → Arr km N vs h → h.get k5 = some ⟨x.cells, true⟩ → (∃ w, h.get kh = some ⟨[w], true⟩ ∧ NotB w km) → Res ((f3.J I (AM.lim ⟨P, I, genF P Sh.prims⟩) (n)).2.1.1.1 (.int .i64 N) v1 (.ptr (.own k5) 0) (.ptr (.own kh) 0) (.ptr (.own km) 0) (.int .i64 (i : Int)) h) fun u g => u = .bool true)
    (by
      obtain ⟨R, hR⟩ : ∃ R : Nat, R = (xs.take 30).length := ⟨_, rfl⟩
      rw [← hR]
      rw [List.length_take] at hR
      refine Evt.shift 4 ⟨M0, fun n hn obs km vs h hN hkm hkp s a hk5 hkw => ?_⟩
      have hend := fun m hm => (hM0 m hm obs km vs h hN s a).mono fun _ _ h => h.1
      rw [f3.n11]; unfold f3.b11
      by_cases hlen : R < xs.length
      · have n0 : (R : Int) < xs.length := by omega
        have n1 : ¬ (R : Int) < 30 := by omega
        (repeat' (first | refine Rf (fun hF hG => ?_) (fun hF hG => ?_) | assumption | (show Ext _ _; exact Ext.go) | (simp only [AHeap.next_alloc, AHeap.next_set, AHeap.next_kill, AHeap.next_res] at hle hsame) | simp (disch := first | exact D.go | fail) [setR, List.getElem?_cons_zero, List.getElem?_cons_succ, f3.n10, f3.b10, sv.len, n0, n1, *]))
      · have n0 : ¬ (R : Int) < xs.length := by omega
        (repeat' (first | refine Rf (fun hF hG => ?_) (fun hF hG => ?_) | assumption | (show Ext _ _; exact Ext.go) | (simp only [AHeap.next_alloc, AHeap.next_set, AHeap.next_kill, AHeap.next_res] at hle hsame) | simp (disch := first | exact D.go | fail) [setR, List.getElem?_cons_zero, List.getElem?_cons_succ, f3.n10, f3.b10, sv.len, n0, *])))
    (fun i y hy ih => Evt.step 5 ih fun n hn obs km vs h hN hkm hkp s a hk5 hkw => by
      obtain ⟨kw, hkw, nkw⟩ := hkw
      have hlt := lt_of_get hy
      rw [List.length_take] at hlt
      have hx : xs[i]? = some y := by rw [List.getElem?_take_of_lt (by omega)] at hy; exact hy
      obtain ⟨l1, o1, hi, hxa⟩ := sv.at hx
      obtain ⟨hxa, hr⟩ := hxa.int
      have hxa := hxa h (ext0 h)
      have hw := wrap_in (n := (i : Int) + 1) ⟨by omega, by omega⟩
      simp only [Int.natCast_add, Int.natCast_one] at hn
      obtain ⟨r2, rw1, r3⟩ := rem_ok (x := y) hN1 hN2
      have r1 := pBin_rem .i64 y N (by omega)
      generalize hkk : (y.tmod N + N).toNat % N = kk at r2 r3
      have r2' := pBin_rem .i64 (y.tmod N + N) N (by omega)
      rw [r2] at r2'
      have r4 : pBin .rem (.int .i64 (i : Int)) (Z 2) = some (.int .i64 ((i % 2 : Nat) : Int)) := by
        refine (pBin_rem .i64 i 2 (by omega)).trans ?_
        rw [Int.tmod_eq_emod_of_nonneg (by omega)]; rfl
      have hf : i % 2 < 2 := Nat.mod_lt _ (by omega)
      generalize i % 2 = f at r4 hf
      have hwk := wrap_in (n := (kk : Int) + 1) ⟨by omega, by omega⟩
      obtain ⟨p, hp⟩ : ∃ p, obs[kk]? = some p := ⟨_, List.getElem?_eq_getElem (by omega)⟩
      obtain ⟨x', hx'⟩ : ∃ x' : V3, x' = ⟨x.k, IntKind.i64.wrap (x.n + i), x.t⟩ := ⟨_, rfl⟩
      obtain ⟨H, hH⟩ : ∃ H, H = ((h.alloc ⟨[Z 0, Z 0, .bool false], true⟩).set h.next ⟨x.cells, true⟩).set h.next ⟨x'.cells, true⟩ := ⟨_, rfl⟩
      have eH : Ext h H := by rw [hH]; exact ((Ext.refl h).alloc.set (Nb.o (by omega))).set (Nb.o (by omega))
      have hHn : H.next = h.next + 1 := by rw [hH]; simp
      have hHat : H.get h.next = some ⟨x'.cells, true⟩ := by rw [hH, AHeap.set_at (Nb.o rfl)]
      obtain ⟨u, g, c1, rfl, s1, gn, gk⟩ := hSet (I := I) (s.mono eH) hp (by omega) hf x'
      have b0h := s.lo
      have hpp : ∀ (j : Nat) (q : Nat × Nat), obs[j]? = some q → b0 ≤ q.2 ∧ q.2 < h.next := fun j q hq => let ⟨_, _, a3, a4, _⟩ := s.ob j q hq; ⟨a3, a4⟩
      have g16 : g.get h.next = some ⟨x'.cells, true⟩ := (gk h.next (by omega) (fun j q hq => by have := hpp j q hq; omega)).trans hHat
      have g5 : g.get k5 = some ⟨x.cells, true⟩ := (gk k5 (by omega) (fun j q hq => by have := hpp j q hq; omega)).trans ((eH.same k5 (by omega)).trans hk5)
      have akm := a.lt
      have hkhl := s.lt
      have gkh : g.get kh = some ⟨[kw], true⟩ := (gk kh (by omega) (fun j q hq => by have := hpp j q hq; omega)).trans ((eH.same kh (by omega)).trans hkw)
      have ga : Arr km N vs g := a.mono (by omega) ((gk km (by omega) fun j q hq => (hkp j q hq).2).trans (eH.same km akm))
      obtain ⟨bb, st, ga2⟩ := ga.st r3 hf hN2 x'
      have s2 : HS b0 kh obs (upd vs kk f x') (g.set km bb) := s1.setk hkm hkp gkh nkw
      have hend := fun m hm => hn m hm obs km _ _ hN hkm hkp s2 ga2 (by rw [AHeap.set_ne (Nb.o (by omega))]; exact g5) ⟨kw, by rw [AHeap.set_ne (Nb.o (by omega))]; exact gkh, nkw⟩
      have x0 : pIndexAddrArr 20 6 (.ptr (.own km) 0) (.int .i64 (kk : Int)) = some (.ptr (.own km) (0 + kk * 6)) := idxArr (by omega)
      have x1 : pIndexAddrArr 2 3 (.ptr (.own km) (0 + kk * 6)) (.int .i64 (f : Int)) = some (.ptr (.own km) (0 + kk * 6 + f * 3)) := idxArr (by omega)
      have ld : pLoadN I 3 (.ptr (.own h.next) 0) g = some x'.av := by rw [pLoadN_ptr, rds_own', g16]; rfl
      have h14 : ∀ m v78 v80, v78 = .int .i64 (kk : Int) → v80 = .int .i64 (f : Int) → n ≤ m → Res ((f3.J I (AM.lim ⟨P, I, genF P Sh.prims⟩) (m + 2)).2.1.2.2.1 (.int .i64 N) v1 (.ptr (.own k5) 0) (.ptr (.own kh) 0) (.ptr (.own km) 0) (.int .i64 (i : Int)) v78 v80 (.ptr (.own h.next) 0) g) fun u g => u = .bool true := by
        rintro m _ _ rfl rfl hm
        rw [f3.n14]; unfold f3.b14
        simp only [to_kM, ld, to_BndP, BndP_some, x0, x1, to_kS, st, Bnd_some]
        rw [f3.n13]; unfold f3.b13
        have hw' : IntKind.i64.wrap ((i : Int) + Int.ofNat 1) = (i : Int) + 1 := hw
        simp only [to_kB, to_BndP, pBin_add, BndP_some, hw']
        exact hend m hm
      rw [f3.n11]; unfold f3.b11
      have n0 : (i : Int) < xs.length := by omega
      have n1 : (i : Int) < 30 := by omega
      subst hH
      subst hx'
      (repeat' (first | refine Rf (fun hF hG => ?_) (fun hF hG => ?_) | assumption | (show Ext _ _; exact Ext.go) | (simp only [AHeap.next_alloc, AHeap.next_set, AHeap.next_kill, AHeap.next_res] at hle hsame) | simp (disch := first | exact D.go | fail) [setR, List.getElem?_cons_zero, List.getElem?_cons_succ, f3.n12, f3.b12, sv.len, n0, n1, hi, hxa, r1, r2', r4, rw1, hwk, hk5, c1, *]))
      exact h14 (n + 1) _ _ rfl rfl (by omega))
    0 (by omega)
  exact ⟨M, fun m hm => hM m hm⟩
end
end
end Go.Proofs.Ytaekibfknmanhaa.Tx

set_option linter.unusedSimpArgs false
set_option linter.unusedVariables false
namespace Go.Proofs.Ytaekibfknmanhaa.Tx
noncomputable section
open Go.AM Go.Proofs.Ytaekibfknmanhaa.Sf
section
variable {I : Inp}
theorem get_setR {xs ys : List AVal} {o j : Nat} (ho : o + ys.length ≤ xs.length) : (setR xs o ys)[j]? = if j < o then xs[j]? else if j < o + ys.length then ys[j - o]? else xs[j]? := by
  unfold setR
  by_cases h1 : j < o
  · rw [List.append_assoc, List.getElem?_append_left (by simp; omega), if_pos h1, List.getElem?_take_of_lt h1]
  · rw [if_neg h1]
    by_cases h2 : j < o + ys.length
    · rw [if_pos h2, List.getElem?_append_left (by simp; omega), List.getElem?_append_right (by simp; omega)]
      congr 1; simp; omega
    · rw [if_neg h2, List.getElem?_append_right (by simp; omega), List.getElem?_drop]
      congr 1; simp; omega
theorem Arr.put {km n : Nat} {vs : Nat → Nat → V3} {h : AHeap} (a : Arr km n vs h) (hn : n < 20) : ∃ b, sStore 6 (.ptr (.own km) (0 + n * 6)) (.agg ((vs n 0).cells ++ (vs n 1).cells)) h = some (aundef, h.set km b) ∧ Arr km (n + 1) vs (h.set km b) := by
  obtain ⟨cells, h1, h2, h3⟩ := a.at_
  have hl : (setR cells (n * 6) ((vs n 0).cells ++ (vs n 1).cells)).length = 120 := by unfold setR; simp; omega
  refine ⟨⟨setR cells (n * 6) ((vs n 0).cells ++ (vs n 1).cells), true⟩, ?_, a.lt, _, AHeap.set_at (Nb.o rfl), hl, fun j g hj hg => ?_⟩
  · rw [sStore_own', h1]
    simp only [Option.bind_some, cells_agg]
    rw [if_pos (show ((vs n 0).cells ++ (vs n 1).cells).length = 6 from rfl), wr_mk, if_pos ⟨by simp; omega, rfl⟩, show 0 + n * 6 = n * 6 by omega]; rfl
  · apply List.ext_getElem?
    intro k
    by_cases hk : k < 3
    · rw [List.getElem?_take_of_lt hk, List.getElem?_drop, get_setR (by simp; omega)]
      by_cases hjn : j = n
      · subst hjn
        rw [if_neg (by omega), if_pos (by simp; omega)]
        rcases (show g = 0 ∨ g = 1 by omega) with rfl | rfl
        · rw [List.getElem?_append_left (by simp; omega), show j * 6 + 0 * 3 + k - j * 6 = k by omega]
        · rw [List.getElem?_append_right (by simp; omega)]
          congr 1; simp; omega
      · rw [if_pos (by omega), ← h3 j g (by omega) hg, List.getElem?_take_of_lt hk, List.getElem?_drop]
    · rw [List.getElem?_eq_none (by simp; omega), List.getElem?_eq_none (by simp; omega)]
def vs0 : Nat → Nat → V3 := fun _ f => if f = 0 then zeroV 0 else zeroV 1
/-- The array's first values. -/
theorem hInit {v1 : AVal} {xs : List Int} (sv : SlOf 1 (IntA I ⟨.nil, 0⟩) v1 xs) (x : V3) {N : Nat} (hN1 : 1 ≤ N) (hN2 : N ≤ 20) :
    ∃ M, ∀ m, M ≤ m → ∀ obs km h, obs.length = N → HS 3 1 obs vs0 h → Arr km 0 vs0 h → 3 ≤ km → (∀ (j : Nat) (q : Nat × Nat), obs[j]? = some q → km ≠ q.1 ∧ km ≠ q.2) → h.get 0 = some ⟨x.cells, true⟩ → h.get 2 = some ⟨[Z 0, Z 0, Z 1, Z 0], true⟩ → (∃ w, h.get 1 = some ⟨[w], true⟩ ∧ NotB w km) →
      Res ((f3.J I (AM.lim ⟨P, I, genF P Sh.prims⟩) (m)).1.2.1.2.2 (.int .i64 N) v1 (.ptr (.own 0) 0) (.ptr (.own 1) 0) (.sl (.own 2) 0 2 (.known 2)) (.ptr (.own km) 0) (Z 0) h) fun u g => u = .bool true := by
  obtain ⟨M0, hM0⟩ := hSets (I := I) sv (b0 := 3) (kh := 1) (k5 := 0) x hN1 hN2 (by omega) (by omega)
  obtain ⟨M, hM⟩ := Evt.loop (List.range N) (F := fun i n => ∀ (obs : List (Nat × Nat)) (km : Nat) (h : AHeap), obs.length = N → HS 3 1 obs vs0 h → Arr km i vs0 h → 3 ≤ km → (∀ (j : Nat) (q : Nat × Nat), obs[j]? = some q → km ≠ q.1 ∧ km ≠ q.2) → h.get 0 = some ⟨x.cells, true⟩ → h.get 2 = some ⟨[Z 0, Z 0, Z 1, Z 0], true⟩ → (∃ w, h.get 1 = some ⟨[w], true⟩ ∧ NotB w km) →
      Res ((f3.J I (AM.lim ⟨P, I, genF P Sh.prims⟩) (n)).1.2.1.2.2 (.int .i64 N) v1 (.ptr (.own 0) 0) (.ptr (.own 1) 0) (.sl (.own 2) 0 2 (.known 2)) (.ptr (.own km) 0) (.int .i64 (i : Int)) h) fun u g => u = .bool true) 5
    (Evt.shift 4 ⟨M0, fun n hn obs km h hN s a hkm hkp h0 h2 hkw => by
      rw [List.length_range] at a ⊢
      have hend := fun m hm => hM0 m hm obs km vs0 h hN hkm hkp s a h0 hkw
      rw [f3.n7]; unfold f3.b7
      (repeat' (first | refine Rf (fun hF hG => ?_) (fun hF hG => ?_) | assumption | (show Ext _ _; exact Ext.go) | (simp only [AHeap.next_alloc, AHeap.next_set, AHeap.next_kill, AHeap.next_res] at hle hsame) | simp (disch := first | exact D.go | fail) [setR, List.getElem?_cons_zero, List.getElem?_cons_succ, f3.n6, f3.b6, *]))⟩)
    (fun i p n hp ih obs km h hN s a hkm hkp h0 h2 hkw => by
      have hlt := lt_of_get hp
      rw [List.length_range] at hlt
      obtain ⟨w, hw1, hw2⟩ := hkw
      have hlo := s.lo
      obtain ⟨_, g1, e1, rfl, x1⟩ := (show Ret ((AM.lim ⟨P, I, genF P Sh.prims⟩) 10 [.agg [Z 0, Z 0]] h) h (zeroV 0).av from hZero 0 0 h)
      obtain ⟨_, g2, e2, rfl, x2⟩ := (show Ret ((AM.lim ⟨P, I, genF P Sh.prims⟩) 10 [.agg [Z 1, Z 0]] g1) g1 (zeroV 1).av from hZero 1 0 g1)
      have x12 := x1.trans x2
      have alt := a.lt
      obtain ⟨b, st, a2⟩ := (a.mono x12.lo (x12.same km alt)).put (by omega)
      have s2 := (s.mono x12).setk (b := b) hkm hkp ((x12.same 1 (by omega)).trans hw1) hw2
      have i0 : pIndexAddr 2 (.sl (.own 2) 0 2 (.known 2)) (Z 0) = some (.ptr (.own 2) 0) := rfl
      have i1 : pIndexAddr 2 (.sl (.own 2) 0 2 (.known 2)) (Z 1) = some (.ptr (.own 2) 2) := rfl
      have l0 : pLoadN I 2 (.ptr (.own 2) 0) h = some (.agg [Z 0, Z 0]) := by rw [pLoadN_ptr, rds_own', h2]; rfl
      have l2 : pLoadN I 2 (.ptr (.own 2) 2) h = some (.agg [Z 1, Z 0]) := by rw [pLoadN_ptr, rds_own', h2]; rfl
      have l1 : pLoadN I 2 (.ptr (.own 2) 2) g1 = some (.agg [Z 1, Z 0]) := by rw [pLoadN_ptr, rds_own', x1.same 2 (by omega), h2]; rfl
      have pb : pBuild [Z 0, Z 0, bF, Z 0, Z 0, bF] [(0, 3, (zeroV 0).av), (3, 3, (zeroV 1).av)] = some (.agg ((vs0 i 0).cells ++ (vs0 i 1).cells)) := rfl
      have x0 : pIndexAddrArr 20 6 (.ptr (.own km) 0) (.int .i64 (i : Int)) = some (.ptr (.own km) (0 + i * 6)) := idxArr (by omega)
      have hw0 := wrap_in (n := (i : Int) + 1) ⟨by omega, by omega⟩
      have hw' : IntKind.i64.wrap ((i : Int) + Int.ofNat 1) = (i : Int) + 1 := hw0
      have hlt' : dc ((i : Int) < N) = true := dc_of (by omega)
      have hi2 := fun m hm => ih m hm obs km (g2.set km b) hN s2 a2 hkm hkp (by rw [AHeap.set_ne (Nb.o (by omega))]; exact (x12.same 0 (by omega)).trans h0) (by rw [AHeap.set_ne (Nb.o (by omega))]; exact (x12.same 2 (by omega)).trans h2) ⟨w, by rw [AHeap.set_ne (Nb.o (by omega))]; exact (x12.same 1 (by omega)).trans hw1, hw2⟩
      simp only [Int.natCast_add, Int.natCast_one] at hi2
      rw [f3.n7]; unfold f3.b7
      simp only [to_kB, pBin_lss, to_BndP, BndP_some, hlt', to_Cond, Cond_any, Fork_true]
      rw [f3.n8]; unfold f3.b8
      simp only [to_kI, to_kM, to_kC, i0, i1, l0, l1, to_BndP, BndP_some, to_Bnd, e1, e2, Bnd_some, pb, x0, to_kS, st, l2, lift_some', sSame_some, eqb_agg, eqbs_cons, eqbs_nil, eqb_int, Bool.and_self, sCheck_t]
      rw [f3.n9]; unfold f3.b9
      simp only [to_kB, to_BndP, pBin_add, BndP_some, hw']
      exact hi2 _ (by omega))
    0 (by omega)
  exact ⟨M, fun m hm => hM m hm⟩
/-- The objects are made. -/
theorem hMade {v1 : AVal} {xs : List Int} (sv : SlOf 1 (IntA I ⟨.nil, 0⟩) v1 xs) (x : V3) {N : Nat} (hN1 : 1 ≤ N) (hN2 : N ≤ 20) :
    ∃ M, ∀ m, M ≤ m → ∀ h, HS 3 1 [] vs0 h → h.get 0 = some ⟨x.cells, true⟩ → h.get 2 = some ⟨[Z 0, Z 0, Z 1, Z 0], true⟩ →
      Res ((f3.J I (AM.lim ⟨P, I, genF P Sh.prims⟩) (m)).1.1.2.2.1 (.int .i64 N) v1 (.ptr (.own 0) 0) (.ptr (.own 1) 0) (.sl (.own 2) 0 2 (.known 2)) (Z 0) h) fun u g => u = .bool true := by
  obtain ⟨M0, hM0⟩ := hInit (I := I) sv x hN1 hN2
  obtain ⟨M, hM⟩ := Evt.loop (List.range N) (F := fun i n => ∀ (obs : List (Nat × Nat)) (h : AHeap), obs.length = i → HS 3 1 obs vs0 h → h.get 0 = some ⟨x.cells, true⟩ → h.get 2 = some ⟨[Z 0, Z 0, Z 1, Z 0], true⟩ →
      Res ((f3.J I (AM.lim ⟨P, I, genF P Sh.prims⟩) (n)).1.1.2.2.1 (.int .i64 N) v1 (.ptr (.own 0) 0) (.ptr (.own 1) 0) (.sl (.own 2) 0 2 (.known 2)) (.int .i64 (i : Int)) h) fun u g => u = .bool true) 5
    (Evt.shift 4 ⟨M0, fun n hn obs h hN s h0 h2 => by
      rw [List.length_range] at hN ⊢
      have hlo := s.lo
      have hlf : dc ((N : Int) < N) = false := dc_off (by omega)
      rw [f3.n3]; unfold f3.b3
      simp only [to_kB, pBin_lss, to_BndP, BndP_some, hlf, to_Cond, Cond_any, Bool.false_eq_true, Fork_false]
      rw [f3.n2]; unfold f3.b2
      simp only [to_kA, sAlloc_eq, Bnd_some]
      refine hM0 _ (by omega) obs h.next _ hN (s.mono (Ext.refl h).alloc) ⟨by simp, _, AHeap.alloc_at (Nb.o rfl), rfl, fun i f hi => absurd hi (by omega)⟩ hlo (fun j q hq => ?_) ?_ ?_ ?_
      · obtain ⟨_, a1, _, a2, _⟩ := s.ob j q hq
        exact ⟨by omega, by omega⟩
      · rw [AHeap.alloc_ne (Nb.o (by omega))]; exact h0
      · rw [AHeap.alloc_ne (Nb.o (by omega))]; exact h2
      · rcases s.top with ⟨a1, a2⟩ | ⟨kl, a1, a2, a3, a4, _⟩
        · exact ⟨_, by rw [AHeap.alloc_ne (Nb.o (by omega))]; exact a2, fun k o n c e => by cases e⟩
        · exact ⟨_, by rw [AHeap.alloc_ne (Nb.o (by omega))]; exact a2, fun k o n c e => by cases e; omega⟩⟩)
    (fun i p n hp ih obs h hN s h0 h2 => by
      have hlt := lt_of_get hp
      rw [List.length_range] at hlt
      have hw0 := wrap_in (n := (i : Int) + 1) ⟨by omega, by omega⟩
      have hw' : IntKind.i64.wrap ((i : Int) + Int.ofNat 1) = (i : Int) + 1 := hw0
      have hlt' : dc ((i : Int) < N) = true := dc_of (by omega)
      obtain ⟨u, g, c1, q, s2, hk⟩ := hAlloc (I := I) s (by omega) h2 (by omega) (by omega) (i : Int) rfl rfl
      have hi2 := fun m hm => ih m hm (obs ++ [q]) g (by simp; omega) s2 ((hk 0 (by omega) (by omega)).trans h0) ((hk 2 (by omega) (by omega)).trans h2)
      simp only [Int.natCast_add, Int.natCast_one] at hi2
      rw [f3.n3]; unfold f3.b3
      simp only [to_kB, pBin_lss, to_BndP, BndP_some, hlt', to_Cond, Cond_any, Fork_true]
      rw [f3.n4]; unfold f3.b4
      simp only [to_kC, c1, Bnd_some]
      rw [f3.n5]; unfold f3.b5
      simp only [to_kB, to_BndP, pBin_add, BndP_some, hw']
      exact hi2 _ (by omega))
    0 (by omega)
  exact ⟨M, fun m hm h s => hM m hm [] h rfl s⟩
theorem hNew (h : AHeap) : (AM.lim ⟨P, I, genF P Sh.prims⟩) 8 [] h = some (.ptr (.own h.next) 0, h.alloc ⟨[.nils], true⟩) := by
  refine Res.eq (f8.lim rfl (n := 0) ?_)
  unfold f8.e
  (repeat' (first | refine Rf (fun hF hG => ?_) (fun hF hG => ?_) | assumption | (show Ext _ _; exact Ext.go) | (simp only [AHeap.next_alloc, AHeap.next_set, AHeap.next_kill, AHeap.next_res] at hle hsame) | simp (disch := first | exact D.go | fail) [setR, List.getElem?_cons_zero, List.getElem?_cons_succ, setR, *]))
theorem hLaw {v1 : AVal} {xs : List Int} (sv : SlOf 1 (IntA I ⟨.nil, 0⟩) v1 xs) (x : V3) (n : Int) :
    Res ((AM.lim ⟨P, I, genF P Sh.prims⟩) 3 [.int .i64 n, v1, x.av] ⟨.nil, 0⟩) fun u g => u = .bool true := by
  by_cases hn : 1 ≤ n ∧ n ≤ 20
  · obtain ⟨N, rfl⟩ : ∃ N : Nat, n = N := ⟨n.toNat, by omega⟩
    obtain ⟨M, hM⟩ := hMade (I := I) sv x (N := N) (by omega) (by omega)
    refine f3.lim rfl (n := M + 4) ?_
    unfold f3.e
    have n1 : ¬ (N : Int) < 1 := by omega
    have n2 : ¬ (20 : Int) < N := by omega
    (repeat' (first | refine Rf (fun hF hG => ?_) (fun hF hG => ?_) | assumption | (show Ext _ _; exact Ext.go) | (simp only [AHeap.next_alloc, AHeap.next_set, AHeap.next_kill, AHeap.next_res] at hle hsame) | simp (disch := first | exact D.go | fail) [setR, List.getElem?_cons_zero, List.getElem?_cons_succ, f3.n0, f3.b0, f3.n1, f3.b1, begun, hNew, n1, n2, *]))
    refine hM _ (by omega) _ ⟨by omega, by simp, .inl ⟨rfl, ?_⟩, fun i p hp => by simp at hp, fun i j p q hp => by simp at hp, fun i j p q hp => by simp at hp⟩ ?_ ?_
    · rw [AHeap.alloc_ne (Nb.o (by simp)), AHeap.alloc_at (Nb.o (by simp))]
    · rw [AHeap.alloc_ne (Nb.o (by simp)), AHeap.alloc_ne (Nb.o (by simp)), AHeap.alloc_at (Nb.o (by simp))]
    · rw [AHeap.alloc_at (Nb.o (by simp))]; rfl
  · refine f3.lim rfl (n := 4) ?_
    unfold f3.e
    by_cases h1 : n < 1
    · (repeat' (first | refine Rf (fun hF hG => ?_) (fun hF hG => ?_) | assumption | (show Ext _ _; exact Ext.go) | (simp only [AHeap.next_alloc, AHeap.next_set, AHeap.next_kill, AHeap.next_res] at hle hsame) | simp (disch := first | exact D.go | fail) [setR, List.getElem?_cons_zero, List.getElem?_cons_succ, f3.n0, f3.b0, begun, h1, *]))
    · have h2 : 20 < n := by omega
      (repeat' (first | refine Rf (fun hF hG => ?_) (fun hF hG => ?_) | assumption | (show Ext _ _; exact Ext.go) | (simp only [AHeap.next_alloc, AHeap.next_set, AHeap.next_kill, AHeap.next_res] at hle hsame) | simp (disch := first | exact D.go | fail) [setR, List.getElem?_cons_zero, List.getElem?_cons_succ, f3.n0, f3.b0, begun, h1, h2, *]))
theorem lawTrue {g : Nat} {args : List AVal} (hr : Res ((AM.lim ⟨P, I, genF P Sh.prims⟩) g args ⟨.nil, 0⟩) fun u _ => u = .bool true) : ∃ m, saysTrue (callF P I (genF P Sh.prims) m g args ⟨.nil, 0⟩) = true := by
  obtain ⟨v, h', e, rfl⟩ := hr
  exact lim_true (C := ⟨P, I, genF P Sh.prims⟩) e
end
end
end Go.Proofs.Ytaekibfknmanhaa.Tx
