/- Contracts of the functions, part 0: what each function of the program and of the reference comes to. Conditions: as each lemma says. -/
import Derived.Test.YtncjcnipagdmlaaDoorSfT
import Derived.Test.YtncjcnipagdmlaaDoorAmZ
import Derived.Test.YtncjcnipagdmlaaDoorSh
set_option linter.unusedSimpArgs false
set_option linter.unusedVariables false
namespace Go.Proofs.YtncjcnipagdmlaaDoor.Tx
noncomputable section
open Go.AM Go.Proofs.YtncjcnipagdmlaaDoor.Sf
section
variable {I : Inp} {h0 : AHeap}
def inB (n s : Int) : Prop := 0 ≤ n ∧ n < s

structure Pt where
  f : Int
  b : Int
  i : Int
  deriving DecidableEq, Inhabited
def noPt : Pt := ⟨-1, 0, 0⟩
abbrev ptV (p : Pt) : AVal := .agg [.int .i64 p.f, .int .i64 p.b, .int .i64 p.i]
theorem noPt_f : noPt.f = -1 := rfl
theorem noPt_b : noPt.b = 0 := rfl
theorem noPt_i : noPt.i = 0 := rfl
theorem nth_mem {α : Type} {xs : List α} {i : Int} (h : inB i xs.length) (d : α) : nth xs i d ∈ xs := by
  obtain ⟨h1, h2⟩ := h
  unfold nth
  have hk : i.toNat < xs.length := by omega
  rw [List.getD_eq_getElem?_getD, List.getElem?_eq_getElem hk]
  exact List.getElem_mem hk
/-- A slice to read from. -/
structure SlV {α : Type} (sz : Nat) (R : AM.Loc → Nat → α → Prop) (v : AVal) (xs : List α) : Prop where
  len : pLenSl v = some (.int .i64 xs.length)
  lt : xs.length ≤ 9223372036854775807
  at_ : ∀ {i : Nat} {x : α}, xs[i]? = some x → ∃ l o, pIndexAddr sz v (.int .i64 (i : Int)) = some (.ptr l o) ∧ R l o x
theorem _root_.Go.AM.SlOf.v {α : Type} {sz : Nat} {R : AM.Loc → Nat → α → Prop} {v : AVal} {xs : List α} (s : SlOf sz R v xs) : SlV sz R v xs := ⟨s.len, s.lt, s.at⟩
theorem _root_.Go.AM.SlOf.cut {α : Type} {sz : Nat} {R : AM.Loc → Nat → α → Prop} {v : AVal} {xs : List α} (s : SlOf sz R v xs) {m : Nat} (hm : m ≤ xs.length) : ∃ u, pSliceS sz v none (some (.int .i64 m)) none = some u ∧ SlV sz R u (xs.take m) := by
  rcases s with ⟨rfl, rfl⟩ | ⟨l, o, cap, rfl, c, n, hx⟩
  · obtain rfl : m = 0 := by simpa using hm
    exact ⟨.nils, rfl, by simpa using SlOf.v (SlOf.nil (R := R) (sz := sz))⟩
  · have hc := c m hm
    refine ⟨.sl l o m (capMinus cap 0), ?_, ?_, ?_, ?_⟩
    · show sliceV _ _ _ _ _ = _
      simp only [sliceV, optNatV, asNat]
      have : asNat (.int .i64 (m : Int)) = some m := rfl
      have hz : Nat.ble 0 m = true := Nat.ble_eq_true_of_le (Nat.zero_le m)
      simp [this, hc, hz]
    · simp [List.length_take, Nat.min_eq_left hm]
    · rw [List.length_take, Nat.min_eq_left hm]; omega
    · intro i x hi
      have hlt := (List.getElem?_eq_some_iff.1 hi).1
      rw [List.length_take, Nat.min_eq_left hm] at hlt
      rw [List.getElem?_take_of_lt hlt] at hi
      exact ⟨l, o + i * sz, pIndexAddr_sl hlt, hx i x hi⟩
theorem Res.after {r : Rs} {k : AVal → AHeap → Rs} {Q A : AVal → AHeap → Prop} (c : Res r A) (hk : ∀ v g, A v g → Res (k v g) Q) : Res (@Bnd r ⟨k⟩) Q := by
  obtain ⟨v, g, er, a⟩ := c
  rw [er]
  exact hk v g a
def ptCells (p : Pt) : List AVal := [.int .i64 p.f, .int .i64 p.b, .int .i64 p.i]
theorem pts_len : ∀ xs : List Pt, (xs.flatMap ptCells).length = xs.length * 3
  | [] => rfl
  | x :: xs => by simp only [List.flatMap_cons, List.length_append, List.length_cons, pts_len xs, ptCells, List.length_nil]; omega
theorem pts_one : ∀ xs : List Pt, (xs.flatMap ptCells).all AVal.one = true
  | [] => rfl
  | x :: xs => by simp only [List.flatMap_cons, List.all_append, pts_one xs, Bool.and_true]; rfl
/-- A slice of points that was made here. -/
def PtsO (hb h : AHeap) (v : AVal) (xs : List Pt) : Prop :=
  (v = .nils ∧ xs = []) ∨ ∃ k, v = .sl (.own k) 0 xs.length (.grown 3) ∧ h.get k = some ⟨xs.flatMap ptCells, true⟩ ∧ hb.next ≤ k ∧ k < h.next ∧ xs ≠ []
theorem PtsO.mono {hb h g : AHeap} {v : AVal} {xs : List Pt} (a : PtsO hb h v xs) (e : Ext h g) : PtsO hb g v xs := by
  rcases a with a | ⟨k, rfl, hk, h1, h2, h3⟩
  · exact .inl a
  · exact .inr ⟨k, rfl, by rw [e.same k h2]; exact hk, h1, by have := e.lo; omega, h3⟩
theorem app_pt {hb h : AHeap} {xs : List Pt} {v : AVal} (hv : PtsO hb h v xs) (eb : Ext hb h) (p : Pt) (hn : xs.length ≤ 1000000) {kw : Nat} {c : Cap} (hw : h.get kw = some ⟨ptCells p, true⟩) :
    Res (sAppend I 3 24 v (.sl (.own kw) 0 1 c) h) fun u g => PtsO hb g u (xs ++ [p]) ∧ Ext hb g := by
  rcases hv with ⟨rfl, rfl⟩ | ⟨k, rfl, hk, h1, h2, h3⟩
  · have := sAppend_nils (I := I) (sz := 3) (bytes := 24) (n := 0) (c := c) hw rfl rfl (by simp only [bigRoom]; omega)
    refine ⟨_, _, this, .inr ⟨h.next, rfl, ?_, eb.lo, by simp, by simp⟩, eb.alloc⟩
    simp [AHeap.alloc_at (Nb.o rfl)]
  · have := sAppend_full (I := I) (sz := 3) (bytes := 24) (n := 0) (c := c) hw rfl rfl hk (pts_len xs) (pts_one xs) (by omega) (by simp only [bigRoom]; omega)
    refine ⟨_, _, this, .inr ⟨h.next, ?_, ?_, eb.lo, by simp, by simp⟩, (eb.kill (Nb.o h1)).alloc⟩
    · simp
    · rw [show h.next = (h.kill k).next from rfl, AHeap.alloc_at (Nb.o rfl)]; simp
def bkPts (f b : Int) (j : Nat) : Nat → List Pt
  | 0 => []
  | c + 1 => ⟨f, b, j⟩ :: bkPts f b (j + 1) c
def fuPts (f : Int) : Nat → List Bk → List Pt
  | _, [] => []
  | b, x :: r => bkPts f b 0 (x.code.length + 1) ++ fuPts f (b + 1) r
def pgPts : Nat → List Fu → List Pt
  | _, [] => []
  | i, f :: r => fuPts i 0 f.blocks ++ pgPts (i + 1) r
theorem bkPts_len (f b : Int) : ∀ (c j : Nat), (bkPts f b j c).length = c
  | 0, _ => rfl
  | c + 1, j => by simp [bkPts, bkPts_len f b c]
def PtC (cs : List AVal) (p : Pt) : Prop := cs = ptCells p
theorem pts_get : ∀ (xs : List Pt) (i : Nat) (x : Pt) (j : Nat) (v : AVal), xs[i]? = some x → (ptCells x)[j]? = some v → (xs.flatMap ptCells)[i * 3 + j]? = some v
  | [], i, x, j, v, h, _ => by simp at h
  | y :: ys, 0, x, j, v, h, hv => by
    simp at h; subst h
    have hj : j < 3 := by have := (List.getElem?_eq_some_iff.1 hv).1; simpa [ptCells] using this
    rw [List.flatMap_cons, List.getElem?_append_left (by simp [ptCells]; omega)]
    simpa using hv
  | y :: ys, i + 1, x, j, v, h, hv => by
    have := pts_get ys i x j v (by simpa using h) hv
    rw [List.flatMap_cons, List.getElem?_append_right (by simp [ptCells]; omega)]
    rw [show (i + 1) * 3 + j - (ptCells y).length = i * 3 + j by simp [ptCells]; omega]
    exact this
theorem PtsO.v {hb h : AHeap} {v : AVal} {xs : List Pt} (a : PtsO hb h v xs) (hl : xs.length ≤ 1000000) : SlV 3 (At I h PtC) v xs := by
  rcases a with ⟨rfl, rfl⟩ | ⟨k, rfl, hk, h1, h2, h3⟩
  · exact SlOf.v SlOf.nil
  · refine ⟨rfl, by omega, fun {i x} hx => ⟨.own k, 0 + i * 3, pIndexAddr_sl (List.getElem?_eq_some_iff.1 hx).1, ptCells x, rfl, Cells.own hk h2 fun j v hv => ?_⟩⟩
    simp only [Nat.zero_add]
    exact pts_get xs i x j v hx hv
theorem bkPts_mem {f b : Int} {p : Pt} : ∀ (c j : Nat), p ∈ bkPts f b j c → ∃ k : Nat, j ≤ k ∧ k < j + c ∧ p = ⟨f, b, k⟩
  | 0, j, h => by simp [bkPts] at h
  | c + 1, j, h => by
    rcases List.mem_cons.1 h with rfl | h
    · exact ⟨j, by omega, by omega, rfl⟩
    · obtain ⟨k, h1, h2, h3⟩ := bkPts_mem c (j + 1) h
      exact ⟨k, by omega, by omega, h3⟩
theorem fuPts_mem {f : Int} {p : Pt} : ∀ (l : List Bk) (b : Nat), p ∈ fuPts f b l → ∃ (bi k : Nat) (x : Bk), l[bi]? = some x ∧ k ≤ x.code.length ∧ p = ⟨f, ((b + bi : Nat) : Int), k⟩
  | [], b, h => by simp [fuPts] at h
  | x :: r, b, h => by
    rcases List.mem_append.1 h with h | h
    · obtain ⟨k, h1, h2, h3⟩ := bkPts_mem _ _ h
      exact ⟨0, k, x, rfl, by omega, h3⟩
    · obtain ⟨bi, k, y, h1, h2, h3⟩ := fuPts_mem r (b + 1) h
      exact ⟨bi + 1, k, y, by simpa using h1, h2, by rw [h3]; congr 2; omega⟩
theorem pgPts_mem {p : Pt} : ∀ (l : List Fu) (i : Nat), p ∈ pgPts i l → ∃ (fi bi k : Nat) (f : Fu) (x : Bk), l[fi]? = some f ∧ f.blocks[bi]? = some x ∧ k ≤ x.code.length ∧ p = ⟨((i + fi : Nat) : Int), (bi : Int), k⟩
  | [], i, h => by simp [pgPts] at h
  | f :: r, i, h => by
    rcases List.mem_append.1 h with h | h
    · obtain ⟨bi, k, x, h1, h2, h3⟩ := fuPts_mem _ _ h
      exact ⟨0, bi, k, f, x, rfl, h1, h2, by simpa using h3⟩
    · obtain ⟨fi, bi, k, g, x, h1, h2, h3, h4⟩ := pgPts_mem r (i + 1) h
      exact ⟨fi + 1, bi, k, g, x, by simpa using h1, h2, h3, by rw [h4]; congr 2; omega⟩
theorem pMinmax_two (b : Int) : ∃ c, pMinmax false [Z 1000, .int .i64 b] = some (.int .i64 c) := ⟨if b < 1000 then b else 1000, by simp [pMinmax, minInts]⟩
/-- A bool. -/
def IsB (u : AVal) : Prop := ∃ b, u = .bool b
@[simp] theorem IsB_bool (b : Bool) : IsB (.bool b) = True := by simp [IsB]
end
end
end Go.Proofs.YtncjcnipagdmlaaDoor.Tx

set_option linter.unusedSimpArgs false
set_option linter.unusedVariables false
namespace Go.Proofs.YtncjcnipagdmlaaDoor.Tx
noncomputable section
open Go.AM Go.Proofs.YtncjcnipagdmlaaDoor.Sf
def tyIds : TyIds := ⟨3, 35, 52, 53, 39, 83, 57, 59, 54, 56, 42, 63, 40, 37, 38, 66, 41, 44⟩
theorem tyOk : tyIds.Ok P := by
  constructor <;> kernel_rfl
section
variable {I : Inp}
theorem begun (h : AHeap) : (AM.lim ⟨P, I, genF P Sh.prims⟩) 10 [] h = some (.bool true, h) := by
  refine lim_of (C := ⟨P, I, genF P Sh.prims⟩) (n := 1) ?_
  simp only [callF, genF, show Sh.prims 10 = some AM.yesPrim from rfl]; rfl
theorem lawTrue {g : Nat} {args : List AVal} (hr : Res ((AM.lim ⟨P, I, genF P Sh.prims⟩) g args ⟨.nil, 0⟩) fun u _ => u = .bool true) : ∃ m, saysTrue (callF P I (genF P Sh.prims) m g args ⟨.nil, 0⟩) = true := by
  obtain ⟨v, h', e, rfl⟩ := hr
  exact lim_true (C := ⟨P, I, genF P Sh.prims⟩) e
end
end
end Go.Proofs.YtncjcnipagdmlaaDoor.Tx

set_option linter.unusedSimpArgs false
set_option linter.unusedVariables false
namespace Go.Proofs.YtncjcnipagdmlaaDoor.Tx
noncomputable section
open Go.AM Go.Proofs.YtncjcnipagdmlaaDoor.Sf
/-! slices of one's own that grow: of things of any one size -/
section
variable {I : Inp} {α : Type} {f : α → List AVal} {sz : Nat}
/-- Each thing is so many cells. -/
structure Fix (f : α → List AVal) (sz : Nat) : Prop where
  len : ∀ x, (f x).length = sz
  one : ∀ x, (f x).all AVal.one = true
  pos : 0 < sz
theorem Fix.lenAll (F : Fix f sz) : ∀ xs : List α, (xs.flatMap f).length = xs.length * sz
  | [] => by simp
  | x :: r => by rw [List.flatMap_cons, List.length_append, F.lenAll r, F.len, List.length_cons, Nat.succ_mul, Nat.add_comm]
theorem Fix.oneAll (F : Fix f sz) : ∀ xs : List α, (xs.flatMap f).all AVal.one = true
  | [] => rfl
  | x :: r => by rw [List.flatMap_cons, List.all_append, F.oneAll r, F.one]; rfl
theorem Fix.get (F : Fix f sz) : ∀ (xs : List α) (i : Nat) (x : α) (j : Nat) (v : AVal), xs[i]? = some x → (f x)[j]? = some v → (xs.flatMap f)[i * sz + j]? = some v
  | [], i, x, j, v, h, _ => by simp at h
  | y :: ys, 0, x, j, v, h, hv => by
    simp at h; subst h
    have hj : j < (f y).length := (List.getElem?_eq_some_iff.1 hv).1
    rw [List.flatMap_cons, List.getElem?_append_left (by omega)]
    simpa using hv
  | y :: ys, i + 1, x, j, v, h, hv => by
    have := F.get ys i x j v (by simpa using h) hv
    have hl := F.len y
    rw [List.flatMap_cons, List.getElem?_append_right (by rw [hl, Nat.succ_mul]; omega)]
    rw [show (i + 1) * sz + j - (f y).length = i * sz + j by rw [hl, Nat.succ_mul]; omega]
    exact this
def Own (f : α → List AVal) (sz : Nat) (hb h : AHeap) (v : AVal) (xs : List α) : Prop :=
  (v = .nils ∧ xs = []) ∨ ∃ k, v = .sl (.own k) 0 xs.length (.grown sz) ∧ h.get k = some ⟨xs.flatMap f, true⟩ ∧ hb.next ≤ k ∧ k < h.next ∧ xs ≠ []
theorem Own.nil {hb h : AHeap} : Own f sz hb h .nils [] := .inl ⟨rfl, rfl⟩
theorem Own.mono {hb h g : AHeap} {v : AVal} {xs : List α} (a : Own f sz hb h v xs) (e : Ext h g) : Own f sz hb g v xs := by
  rcases a with a | ⟨k, rfl, hk, h1, h2, h3⟩
  · exact .inl a
  · exact .inr ⟨k, rfl, by rw [e.same k h2]; exact hk, h1, by have := e.lo; omega, h3⟩
/-- From a heap further back. -/
theorem Own.base {hb hb' h : AHeap} {v : AVal} {xs : List α} (a : Own f sz hb h v xs) (e : hb'.next ≤ hb.next) : Own f sz hb' h v xs := by
  rcases a with a | ⟨k, rfl, hk, h1, h2, h3⟩
  · exact .inl a
  · exact .inr ⟨k, rfl, hk, by omega, h2, h3⟩
theorem Own.len {hb h : AHeap} {v : AVal} {xs : List α} (a : Own f sz hb h v xs) : pLenSl v = some (.int .i64 xs.length) := by
  rcases a with ⟨rfl, rfl⟩ | ⟨k, rfl, _⟩ <;> rfl
theorem Own.v (F : Fix f sz) {hb h : AHeap} {v : AVal} {xs : List α} (a : Own f sz hb h v xs) (hl : xs.length ≤ 9223372036854775807) : SlV sz (At I h fun cs x => cs = f x) v xs := by
  rcases a with ⟨rfl, rfl⟩ | ⟨k, rfl, hk, h1, h2, h3⟩
  · exact SlOf.v SlOf.nil
  · refine ⟨rfl, hl, fun {i x} hx => ⟨.own k, 0 + i * sz, pIndexAddr_sl (List.getElem?_eq_some_iff.1 hx).1, f x, rfl, Cells.own hk h2 fun j v hv => ?_⟩⟩
    simp only [Nat.zero_add]
    exact F.get xs i x j v hx hv
/-- A slice's block is not this one. -/
def NotB (v : AVal) (m : Nat) : Prop := ∀ k o n c, v = .sl (.own k) o n c → m ≠ k
theorem Own.notB {hb h : AHeap} {v : AVal} {xs : List α} (a : Own f sz hb h v xs) {m : Nat} (hm : m < hb.next ∨ h.next ≤ m) : NotB v m := by
  intro k o n c e
  rcases a with ⟨rfl, _⟩ | ⟨k', rfl, _, h1, h2, _⟩
  · cases e
  · cases e; omega
/-- All blocks but the slice's keep what they hold. -/
def KeepB (v u : AVal) (h g : AHeap) : Prop := h.next ≤ g.next ∧ ∀ m, NotB v m → m < h.next → g.get m = h.get m ∧ NotB u m
/-- append(l, x). -/
theorem app_own (F : Fix f sz) {hb h : AHeap} {xs : List α} {v : AVal} (hv : Own f sz hb h v xs) (eb : Ext hb h) (x : α) {bytes : Nat} (hby : bytes ≤ 4096) (hn : xs.length ≤ 20000000000) {kw : Nat} {c : Cap} (hw : h.get kw = some ⟨f x, true⟩) :
    Res (sAppend I sz bytes v (.sl (.own kw) 0 1 c) h) fun u g => Own f sz hb g u (xs ++ [x]) ∧ Ext hb g ∧ KeepB v u h g := by
  have hr : ∀ n, n ≤ 20000000001 → n * bytes ≤ bigRoom := fun n hn => by
    have : n * bytes ≤ 20000000001 * 4096 := Nat.mul_le_mul hn hby
    simp only [bigRoom]; omega
  have hfl : (f x).length = (0 + 1) * sz := by rw [F.len]; omega
  rcases hv with ⟨rfl, rfl⟩ | ⟨k, rfl, hk, h1, h2, h3⟩
  · have := sAppend_nils (I := I) (sz := sz) (bytes := bytes) (n := 0) (c := c) hw hfl (F.one x) ⟨hr _ (by omega), by simp only [bigRoom]; omega⟩
    refine ⟨_, _, this, .inr ⟨h.next, rfl, ?_, eb.lo, by simp, by simp⟩, eb.alloc, by simp, fun m hm hl => ⟨AHeap.alloc_ne (Nb.o (by omega)), fun k o n c e => by cases e; omega⟩⟩
    simp [AHeap.alloc_at (Nb.o rfl)]
  · have := sAppend_full (I := I) (sz := sz) (bytes := bytes) (n := 0) (c := c) (len := xs.length) hw hfl (F.one x) hk (F.lenAll xs) (F.oneAll xs) F.pos ⟨hr _ (by omega), by simp only [bigRoom]; omega⟩
    refine ⟨_, _, this, .inr ⟨h.next, ?_, ?_, eb.lo, by simp, by simp⟩, (eb.kill (Nb.o h1)).alloc, by simp, fun m hm hl => ⟨?_, fun k o n c e => by cases e; omega⟩⟩
    · simp
    · rw [show h.next = (h.kill k).next from rfl, AHeap.alloc_at (Nb.o rfl)]; simp
    · rw [AHeap.alloc_ne (Nb.o (by show m ≠ h.next; omega))]
      exact AHeap.kill_ne (Nb.o (hm k _ _ _ rfl))
/-- A slice that can be read whole. -/
def SrcL (f : α → List AVal) (sz : Nat) (I : Inp) (h : AHeap) (w : AVal) (ys : List α) : Prop :=
  (ys = [] ∧ (w = .nils ∨ ∃ l o c, w = .sl l o 0 c ∧ AM.rds I h l o (0 * sz) = some [])) ∨ (ys ≠ [] ∧ ∃ l o c, w = .sl l o ys.length c ∧ AM.rds I h l o (ys.length * sz) = some (ys.flatMap f))
theorem Own.src (F : Fix f sz) {hb h : AHeap} {v : AVal} {xs : List α} (a : Own f sz hb h v xs) : SrcL f sz I h v xs := by
  rcases a with ⟨rfl, rfl⟩ | ⟨k, rfl, hk, h1, h2, h3⟩
  · exact .inl ⟨rfl, .inl rfl⟩
  · refine .inr ⟨h3, _, _, _, rfl, ?_⟩
    have hl := F.lenAll xs
    rw [rds_own', hk]
    simp only [Option.bind_some, Nat.zero_add, List.drop_zero]
    rw [if_pos (by omega), List.take_of_length_le (by omega)]
/-- append(l, m...). -/
theorem app_own_all (F : Fix f sz) {hb h : AHeap} {xs ys : List α} {v w : AVal} (hv : Own f sz hb h v xs) (eb : Ext hb h) (hs : SrcL f sz I h w ys) {bytes : Nat} (hby : bytes ≤ 4096) (hn : xs.length + ys.length ≤ 20000000000) :
    Res (sAppend I sz bytes v w h) fun u g => Own f sz hb g u (xs ++ ys) ∧ Ext hb g ∧ KeepB v u h g := by
  rcases hs with ⟨rfl, hz⟩ | ⟨hne, l, o, cap, rfl, hr⟩
  · have : sAppend I sz bytes v w h = some (v, h) := by
      have hc : ∃ n, srcCells I h sz w = some (n, []) ∧ n = 0 := by
        rcases hz with rfl | ⟨l, o, c, rfl, hr⟩
        · exact ⟨0, rfl, rfl⟩
        · exact ⟨0, by simp only [srcCells, hr], rfl⟩
      obtain ⟨n, hc, rfl⟩ := hc
      rcases hv with ⟨rfl, rfl⟩ | ⟨k, rfl, _⟩
      · simp only [sAppend, appendK_eq, appendTo, hc]
      · simp only [sAppend, appendK_eq, appendTo, hc]
    exact ⟨_, _, this, by rw [List.append_nil]; exact hv, eb, Nat.le_refl _, fun m hm hl => ⟨rfl, hm⟩⟩
  · obtain ⟨y, ys, rfl⟩ : ∃ y r, ys = y :: r := by
      cases ys with
      | nil => exact absurd rfl hne
      | cons y r => exact ⟨y, r, rfl⟩
    have ha := F.oneAll (y :: ys)
    have hB : ∀ n, n ≤ 20000000000 → Nat.ble (n * bytes) bigRoom = true := fun n hn => Nat.ble_eq_true_of_le (by
      have : n * bytes ≤ 20000000000 * 4096 := Nat.mul_le_mul hn hby
      simp only [bigRoom]; omega)
    have hB2 : ∀ n, n ≤ 20000000000 → Nat.ble n bigRoom = true := fun n hn => Nat.ble_eq_true_of_le (by simp only [bigRoom]; omega)
    rcases hv with ⟨rfl, rfl⟩ | ⟨k, rfl, hk, h1, h2, h3⟩
    · have hb1 := hB (y :: ys).length (by simpa using hn)
      have hb2 := hB2 (y :: ys).length (by simpa using hn)
      have : sAppend I sz bytes .nils (.sl l o (y :: ys).length cap) h = some (.sl (.own h.next) 0 (y :: ys).length (.grown sz), h.alloc ⟨(y :: ys).flatMap f, true⟩) := by
        simp only [sAppend, appendK_eq, appendTo, srcCells, hr]
        simp only [List.length_cons] at hb1 hb2 ⊢
        simp only [ha, hb1, hb2]
        rfl
      exact ⟨_, _, this, .inr ⟨h.next, by simp, by rw [AHeap.alloc_at (Nb.o rfl)]; simp, eb.lo, by simp, by simp⟩, eb.alloc, by simp, fun m hm hl => ⟨AHeap.alloc_ne (Nb.o (by omega)), fun k o n c e => by cases e; omega⟩⟩
    · have hl := F.lenAll xs
      have hp := F.pos
      have hb1 := hB (xs.length + (y :: ys).length) hn
      have hb2 := hB2 (xs.length + (y :: ys).length) hn
      have hlm : (y :: ys).flatMap f ≠ [] := by
        intro h0
        have := F.lenAll (y :: ys)
        rw [h0] at this
        simp only [List.length_nil, List.length_cons, Nat.succ_mul] at this
        omega
      have : sAppend I sz bytes (.sl (.own k) 0 xs.length (.grown sz)) (.sl l o (y :: ys).length cap) h = some (.sl (.own h.next) 0 (xs.length + (y :: ys).length) (.grown sz), (h.kill k).alloc ⟨xs.flatMap f ++ (y :: ys).flatMap f, true⟩) := by
        have hle : Nat.ble (0 + xs.length * sz) (xs.flatMap f).length = true := Nat.ble_eq_true_of_le (by omega)
        have hgt : Nat.ble (0 + xs.length * sz + ((y :: ys).flatMap f).length) (xs.flatMap f).length = false := by
          cases hx : Nat.ble (0 + xs.length * sz + ((y :: ys).flatMap f).length) (xs.flatMap f).length with
          | false => rfl
          | true =>
            have := Nat.le_of_ble_eq_true hx
            have := List.length_pos_iff.2 hlm
            omega
        have ht : ((xs.flatMap f).drop 0).take (xs.length * sz) = xs.flatMap f := by rw [List.drop_zero, List.take_of_length_le (by omega)]
        simp only [sAppend, appendK_eq, appendTo, srcCells, hr]
        simp only [List.length_cons] at hb1 hb2 ⊢
        simp only [ha, hb1, hb2, hk, Nat.beq_refl, hle, hgt, F.oneAll xs, Bool.and_self, ht, show h.room = true from rfl]
      refine ⟨_, _, this, .inr ⟨h.next, by simp, ?_, eb.lo, by simp, by simp⟩, (eb.kill (Nb.o h1)).alloc, by simp, fun m hm hl => ⟨?_, fun k o n c e => by cases e; omega⟩⟩
      · rw [show h.next = (h.kill k).next from rfl, AHeap.alloc_at (Nb.o rfl)]; simp
      · rw [AHeap.alloc_ne (Nb.o (by show m ≠ h.next; omega))]
        exact AHeap.kill_ne (Nb.o (hm k _ _ _ rfl))
end
end
end Go.Proofs.YtncjcnipagdmlaaDoor.Tx

set_option linter.unusedSimpArgs false
set_option linter.unusedVariables false
namespace Go.Proofs.YtncjcnipagdmlaaDoor.Tx
noncomputable section
open Go.AM Go.Proofs.YtncjcnipagdmlaaDoor.Sf
section
variable {I : Inp} {h0 : AHeap}
/-! numbers as bytes -/
def byF (x : Nat) : List AVal := [.int .u8 (x : Int)]
theorem byFix : Fix byF 1 := ⟨fun _ => rfl, fun _ => rfl, by omega⟩
def zig (n : Int) : Nat := if n < 0 then (-(2 * n) - 1).toNat else (2 * n).toNat
def varint (u : Nat) : List Nat := if h : u < 128 then [u] else (u % 128 + 128) :: varint (u / 128)
termination_by u
decreasing_by omega
theorem varint_small {u : Nat} (h : u < 128) : varint u = [u] := by rw [varint, dif_pos h]
theorem varint_big {u : Nat} (h : ¬ u < 128) : varint u = (u % 128 + 128) :: varint (u / 128) := by rw [varint, dif_neg h]
def numB (n : Int) : List Nat := varint (zig n)
theorem zig_lt {n : Int} (h : InR n) : zig n < 18446744073709551616 := by
  obtain ⟨h1, h2⟩ := h
  unfold zig
  split <;> omega
theorem varint_len : ∀ (k u : Nat), u < 128 ^ (k + 1) → (varint u).length ≤ k + 1
  | 0, u, h => by rw [varint_small (by simpa using h)]; simp
  | k + 1, u, h => by
    by_cases hs : u < 128
    · rw [varint_small hs]; simp
    · rw [varint_big hs]
      have := varint_len k (u / 128) (by rw [Nat.pow_succ] at h; exact Nat.div_lt_of_lt_mul (by omega))
      simp only [List.length_cons]; omega
theorem wrapU {x : Nat} (h : x < 18446744073709551616) : IntKind.u64.wrap (x : Int) = x := by
  simp only [IntKind.wrap, IntKind.bits, IntKind.signed]; simp; omega
theorem wrapB {x : Nat} (h : x < 256) : IntKind.u8.wrap (x : Int) = x := by
  simp only [IntKind.wrap, IntKind.bits, IntKind.signed]; simp; omega
theorem u_rem (u : Nat) : pBin .rem (.int .u64 (u : Int)) (.int .u64 128) = some (.int .u64 ((u % 128 : Nat) : Int)) := by
  show some (AVal.int .u64 (Int.tmod (u : Int) 128)) = _
  rw [show Int.tmod (u : Int) 128 = ((u % 128 : Nat) : Int) from (Int.ofNat_tmod u 128).symm]
theorem u_quo {u : Nat} (h : u < 18446744073709551616) : pBin .quo (.int .u64 (u : Int)) (.int .u64 128) = some (.int .u64 ((u / 128 : Nat) : Int)) := by
  show some (AVal.int .u64 (IntKind.u64.wrap (Int.tdiv (u : Int) 128))) = _
  rw [show Int.tdiv (u : Int) 128 = ((u / 128 : Nat) : Int) from (Int.ofNat_tdiv u 128).symm, wrapU (by omega)]
theorem u_add {u : Nat} (h : u < 128) : pBin .add (.int .u64 (u : Int)) (.int .u64 128) = some (.int .u64 ((u + 128 : Nat) : Int)) := by
  show some (AVal.int .u64 (IntKind.u64.wrap ((u : Int) + 128))) = _
  rw [show (u : Int) + 128 = ((u + 128 : Nat) : Int) by omega, wrapU (by omega)]
theorem u_byte {u : Nat} (h : u < 256) : pToInt .u8 (.int .u64 (u : Int)) = some (.int .u8 (u : Int)) := by
  show some (AVal.int .u8 (IntKind.u8.wrap (u : Int))) = _
  rw [wrapB h]
theorem u_not {b : Nat} (h : b < 18446744073709551616) : pUn .xor (.int .u64 (b : Int)) = some (.int .u64 ((18446744073709551615 - b : Nat) : Int)) := by
  show some (AVal.int .u64 (IntKind.u64.wrap ((BitVec.ofInt 64 18446744073709551615 ^^^ BitVec.ofInt 64 (b : Int)).toNat : Int))) = _
  have h1 : BitVec.ofInt 64 18446744073709551615 = BitVec.allOnes 64 := by decide
  have h2 : BitVec.ofInt 64 (b : Int) = BitVec.ofNat 64 b := BitVec.ofInt_natCast 64 b
  rw [h1, h2, BitVec.allOnes_xor, BitVec.toNat_not, BitVec.toNat_ofNat, Nat.mod_eq_of_lt (by omega)]
  rw [show (2 ^ 64 - 1 - b : Nat) = 18446744073709551615 - b by omega, wrapU (by omega)]
theorem rNum_loop : ∀ (u : Nat), u < 18446744073709551616 → ∀ hb : AHeap, Evt fun n => ∀ (acc : List Nat) v h, Own byF 1 hb h v acc → acc.length + (varint u).length ≤ 100000 → Ext hb h → Res ((f19.J I (AM.lim ⟨P, I, genF P Sh.prims⟩) (n)).2.1 (.int .u64 (u : Int)) v h) fun w g => Own byF 1 hb g w (acc ++ varint u) ∧ Ext hb g := by
  intro u
  induction u using Nat.strongRecOn with
  | _ u ih =>
    intro hu hb
    by_cases hs : u < 128
    · have hge : ¬ (128 : Int) ≤ u := by omega
      have hge' : (u : Int) < 128 := by omega
      have hw8 := u_byte (u := u) (by omega)
      refine Evt.all 5 fun n acc v h hv hl e => ?_
      have hlo := e.lo
      rw [varint_small hs]
      rw [f19.n2]; unfold f19.b2
      (repeat' (first | refine Rf (fun hF hG => ?_) (fun hF hG => ?_) | assumption | (show Ext _ _; exact Ext.go) | (simp only [AHeap.next_alloc, AHeap.next_set, AHeap.next_kill, AHeap.next_res] at hle hsame) | simp (disch := first | exact D.go | fail) [setR, List.getElem?_cons_zero, List.getElem?_cons_succ, f19.n1, f19.b1, hge, hge', hw8, *]))
      refine Res.after (app_own (I := I) (f := byF) (v := v) (xs := acc) (h := h.alloc ⟨byF u, true⟩) (kw := h.next) (c := .known 1) byFix (bytes := 1) (hv.mono (Ext.refl h).alloc) e.alloc u (by omega) (by omega) (AHeap.alloc_at (Nb.o rfl))) (fun w g hA => ?_)
      exact Res_some.2 ⟨hA.1, hA.2.1⟩
    · have hge : (128 : Int) ≤ u := by omega
      have hge' : ¬ (u : Int) < 128 := by omega
      have hr := u_rem u
      have ha := u_add (u := u % 128) (by omega)
      have hw8 := u_byte (u := u % 128 + 128) (by omega)
      have hq := u_quo hu
      refine Evt.step 5 (ih (u / 128) (by omega) (by omega) hb) fun n hn acc v h hv hl e => ?_
      have hlo := e.lo
      rw [varint_big hs] at hl ⊢
      simp only [List.length_cons] at hl
      rw [f19.n2]; unfold f19.b2
      generalize u % 128 + 128 = z at *
      generalize u % 128 = r at *
      generalize u / 128 = d at *
      (repeat' (first | refine Rf (fun hF hG => ?_) (fun hF hG => ?_) | assumption | (show Ext _ _; exact Ext.go) | (simp only [AHeap.next_alloc, AHeap.next_set, AHeap.next_kill, AHeap.next_res] at hle hsame) | simp (disch := first | exact D.go | fail) [setR, List.getElem?_cons_zero, List.getElem?_cons_succ, f19.n3, f19.b3, hge, hge', hr, ha, hw8, hq, *]))
      refine Res.after (app_own (I := I) (f := byF) (v := v) (xs := acc) (h := h.alloc ⟨byF z, true⟩) (kw := h.next) (c := .known 1) byFix (bytes := 1) (hv.mono (Ext.refl h).alloc) e.alloc z (by omega) (by omega) (AHeap.alloc_at (Nb.o rfl))) (fun u g hA => ?_)
      have hn' := fun m hm => hn m hm (acc ++ [z]) u g hA.1 (by simp only [List.length_append, List.length_cons, List.length_nil]; omega) hA.2.1
      simp only [List.append_assoc, List.cons_append, List.nil_append] at hn'
      (repeat' (first | refine Rf (fun hF hG => ?_) (fun hF hG => ?_) | assumption | (show Ext _ _; exact Ext.go) | (simp only [AHeap.next_alloc, AHeap.next_set, AHeap.next_kill, AHeap.next_res] at hle hsame) | simp (disch := first | exact D.go | fail) [setR, List.getElem?_cons_zero, List.getElem?_cons_succ, hq, *]))
theorem numB_len {n : Int} (h : InR n) : (numB n).length ≤ 10 := varint_len 9 _ (Nat.lt_of_lt_of_le (zig_lt h) (by decide))
theorem rNum {n : Int} (hn : InR n) (hb : AHeap) : Res ((AM.lim ⟨P, I, genF P Sh.prims⟩) 19 [.int .i64 n] hb) fun u g => Own byF 1 hb g u (numB n) ∧ Ext hb g := by
  obtain ⟨N, hN⟩ := rNum_loop (I := I) (zig n) (zig_lt hn) hb
  have hl := numB_len hn
  have hfin := fun m hm => hN m hm [] .nils hb Own.nil (by unfold numB at hl; simp only [List.length_nil]; omega) (Ext.refl hb)
  simp only [List.nil_append] at hfin
  have hn' := hn
  obtain ⟨h1, h2⟩ := hn'
  by_cases hs : n < 0
  · have hz : zig n = (-(2 * n) - 1).toNat := by unfold zig; rw [if_pos hs]
    obtain ⟨a, ha⟩ : ∃ a : Nat, pToInt .u64 (.int .i64 n) = some (.int .u64 (a : Int)) ∧ (a : Int) = n + 18446744073709551616 := ⟨(n + 18446744073709551616).toNat, by
      show some (AVal.int .u64 (IntKind.u64.wrap n)) = _
      congr 2
      simp only [IntKind.wrap, IntKind.bits, IntKind.signed]; simp; omega, by omega⟩
    obtain ⟨ha, hav⟩ := ha
    obtain ⟨b, hbm, hbv⟩ : ∃ b : Nat, pBin .mul (.int .u64 (a : Int)) (.int .u64 2) = some (.int .u64 (b : Int)) ∧ (b : Int) = 2 * n + 18446744073709551616 := ⟨(2 * n + 18446744073709551616).toNat, by
      show some (AVal.int .u64 (IntKind.u64.wrap ((a : Int) * 2))) = _
      congr 2
      simp only [IntKind.wrap, IntKind.bits, IntKind.signed]; simp; omega, by omega⟩
    have hx := u_not (b := b) (by omega)
    rw [show 18446744073709551615 - b = zig n by omega] at hx
    refine f19.lim rfl (n := N + 2) ?_
    unfold f19.e
    unfold numB
    generalize zig n = z at *
    clear hz hav hbv
    (repeat' (first | refine Rf (fun hF hG => ?_) (fun hF hG => ?_) | assumption | (show Ext _ _; exact Ext.go) | (simp only [AHeap.next_alloc, AHeap.next_set, AHeap.next_kill, AHeap.next_res] at hle hsame) | simp (disch := first | exact D.go | fail) [setR, List.getElem?_cons_zero, List.getElem?_cons_succ, f19.n0, f19.b0, ha, hbm, hx, hs, *]))
  · have hz : zig n = (2 * n).toNat := by unfold zig; rw [if_neg hs]
    obtain ⟨a, rfl⟩ : ∃ a : Nat, n = a := ⟨n.toNat, by omega⟩
    have ha : pToInt .u64 (.int .i64 (a : Int)) = some (.int .u64 (a : Int)) := by
      show some (AVal.int .u64 (IntKind.u64.wrap (a : Int))) = _
      rw [wrapU (by omega)]
    have hbm : pBin .mul (.int .u64 (a : Int)) (.int .u64 2) = some (.int .u64 (zig a : Int)) := by
      show some (AVal.int .u64 (IntKind.u64.wrap ((a : Int) * 2))) = _
      rw [hz, show (a : Int) * 2 = ((2 * a : Nat) : Int) by omega, wrapU (by omega)]
      rw [show 2 * a = (2 * (a : Int)).toNat by omega]
    refine f19.lim rfl (n := N + 2) ?_
    unfold f19.e
    unfold numB
    generalize zig a = z at *
    clear hz
    (repeat' (first | refine Rf (fun hF hG => ?_) (fun hF hG => ?_) | assumption | (show Ext _ _; exact Ext.go) | (simp only [AHeap.next_alloc, AHeap.next_set, AHeap.next_kill, AHeap.next_res] at hle hsame) | simp (disch := first | exact D.go | fail) [setR, List.getElem?_cons_zero, List.getElem?_cons_succ, f19.n0, f19.b0, ha, hbm, hs, *]))
end
end
end Go.Proofs.YtncjcnipagdmlaaDoor.Tx

set_option linter.unusedSimpArgs false
set_option linter.unusedVariables false
namespace Go.Proofs.YtncjcnipagdmlaaDoor.Tx
noncomputable section
open Go.AM Go.Proofs.YtncjcnipagdmlaaDoor.Sf
section
variable {I : Inp} {h0 : AHeap}
/-! lists of numbers and of types as bytes -/
def numsB (xs : List Int) : List Nat := numB xs.length ++ xs.flatMap numB
/-- append(l, num(n)...). -/
theorem app_num {hb h g : AHeap} {acc : List Nat} {w u : AVal} {n : Int} (hr : InR n) (hw : Own byF 1 hb h w acc) (e : Ext hb h) (x : Ext h g) (hu : Own byF 1 h g u (numB n)) (hl : acc.length ≤ 19000000000) :
    Res (sAppend I 1 1 w u g) fun v k => Own byF 1 hb k v (acc ++ numB n) ∧ Ext hb k ∧ KeepB w v g k :=
  app_own_all byFix (hw.mono x) (e.trans x) (hu.src byFix) (by omega) (by have := numB_len hr; omega)
theorem rNums {v : AVal} {xs : List Int} (sv : SlOf 1 (IntA I h0) v xs) (hm : xs.length ≤ 1048576) (hb : AHeap) (eb : Ext h0 hb) : Res ((AM.lim ⟨P, I, genF P Sh.prims⟩) 21 [v] hb) fun u g => Own byF 1 hb g u (numsB xs) ∧ Ext hb g := by
  obtain ⟨N, hN⟩ := Evt.loop xs (F := fun i n => ∀ (acc : List Nat) w h, Own byF 1 hb h w acc → acc.length ≤ 10 + 10 * i → Ext hb h → Res ((f21.J I (AM.lim ⟨P, I, genF P Sh.prims⟩) (n)).1.2 v w (.int .i64 i) h) fun u g => Own byF 1 hb g u (acc ++ (xs.drop i).flatMap numB) ∧ Ext hb g) 8
    (Evt.all 8 fun n acc w h hw hl e => by
      have hlo := e.lo
      have hfin : Own byF 1 hb h w (acc ++ (xs.drop xs.length).flatMap numB) := by simpa using hw
      rw [f21.n1]; unfold f21.b1
      (repeat' (first | refine Rf (fun hF hG => ?_) (fun hF hG => ?_) | assumption | (show Ext _ _; exact Ext.go) | (simp only [AHeap.next_alloc, AHeap.next_set, AHeap.next_kill, AHeap.next_res] at hle hsame) | simp (disch := first | exact D.go | fail) [setR, List.getElem?_cons_zero, List.getElem?_cons_succ, f21.n0, f21.b0, sv.len, *]))
      all_goals first | exact hfin | exact ⟨hfin, e⟩ | exact Res_some.2 ⟨hfin, e⟩ | skip)
    (fun i x n hx ih acc w h hw hl e => by
      have hlt := lt_of_get hx; have hwi := wrap_in (n := (i : Int) + 1) ⟨by omega, by omega⟩
      simp only [Int.natCast_add, Int.natCast_one] at ih
      have hlo := e.lo
      have e0 := eb.trans e
      obtain ⟨l1, o1, hi, hxa⟩ := sv.at hx
      obtain ⟨hxa, hr⟩ := hxa.int
      obtain ⟨u1, g1, c1, A1, x1⟩ := rNum (I := I) hr h
      have hnl := numB_len hr
      rw [drop_of_get hx]
      simp only [List.flatMap_cons]
      rw [f21.n1]; unfold f21.b1
      (repeat' (first | refine Rf (fun hF hG => ?_) (fun hF hG => ?_) | assumption | (show Ext _ _; exact Ext.go) | (simp only [AHeap.next_alloc, AHeap.next_set, AHeap.next_kill, AHeap.next_res] at hle hsame) | simp (disch := first | exact D.go | fail) [setR, List.getElem?_cons_zero, List.getElem?_cons_succ, f21.n2, f21.b2, sv.len, hi, hxa, hlt, c1, *]))
      refine Res.after (app_num hr hw e x1 A1 (by omega)) (fun u2 g2 hA => ?_)
      have hi2 := fun m hm => ih m hm (acc ++ numB x) u2 g2 hA.1 (by rw [List.length_append]; omega) hA.2.1
      simp only [List.append_assoc] at hi2
      rw [f21.n3]; unfold f21.b3
      (repeat' (first | refine Rf (fun hF hG => ?_) (fun hF hG => ?_) | assumption | (show Ext _ _; exact Ext.go) | (simp only [AHeap.next_alloc, AHeap.next_set, AHeap.next_kill, AHeap.next_res] at hle hsame) | simp (disch := first | exact D.go | fail) [setR, List.getElem?_cons_zero, List.getElem?_cons_succ, hwi, *]))
      all_goals first | exact hi2 _ (by omega) | skip)
    0 (by omega)
  have hrl : InR (xs.length : Int) := ⟨by omega, by omega⟩
  obtain ⟨u1, g1, c1, A1, x1⟩ := rNum (I := I) hrl hb
  have hfin := fun m hm => hN m hm (numB xs.length) u1 g1 A1 (by have := numB_len hrl; omega) x1
  simp only [List.drop_zero] at hfin
  refine f21.lim rfl (n := N + 2) ?_
  unfold f21.e
  unfold numsB
  (repeat' (first | refine Rf (fun hF hG => ?_) (fun hF hG => ?_) | assumption | (show Ext _ _; exact Ext.go) | (simp only [AHeap.next_alloc, AHeap.next_set, AHeap.next_kill, AHeap.next_res] at hle hsame) | simp (disch := first | exact D.go | fail) [setR, List.getElem?_cons_zero, List.getElem?_cons_succ, sv.len, c1, *]))
  all_goals first | exact hfin _ (by omega) | skip
def tyB (t : Ty) : List Nat := numB t.kind ++ numB t.n
def typesB (xs : List Ty) : List Nat := numB xs.length ++ xs.flatMap tyB
theorem rTys {v : AVal} {xs : List Ty} (sv : SlOf 2 (At I h0 TyC) v xs) (hm : xs.length ≤ 1048576) (hb : AHeap) (eb : Ext h0 hb) : Res ((AM.lim ⟨P, I, genF P Sh.prims⟩) 20 [v] hb) fun u g => Own byF 1 hb g u (typesB xs) ∧ Ext hb g := by
  obtain ⟨N, hN⟩ := Evt.loop xs (F := fun i n => ∀ (acc : List Nat) w h, Own byF 1 hb h w acc → acc.length ≤ 10 + 20 * i → Ext hb h → Res ((f20.J I (AM.lim ⟨P, I, genF P Sh.prims⟩) (n)).1.2 v w (.int .i64 i) h) fun u g => Own byF 1 hb g u (acc ++ (xs.drop i).flatMap tyB) ∧ Ext hb g) 8
    (Evt.all 8 fun n acc w h hw hl e => by
      have hlo := e.lo
      have hfin : Own byF 1 hb h w (acc ++ (xs.drop xs.length).flatMap tyB) := by simpa using hw
      rw [f20.n1]; unfold f20.b1
      (repeat' (first | refine Rf (fun hF hG => ?_) (fun hF hG => ?_) | assumption | (show Ext _ _; exact Ext.go) | (simp only [AHeap.next_alloc, AHeap.next_set, AHeap.next_kill, AHeap.next_res] at hle hsame) | simp (disch := first | exact D.go | fail) [setR, List.getElem?_cons_zero, List.getElem?_cons_succ, f20.n0, f20.b0, sv.len, *]))
      all_goals first | exact hfin | exact ⟨hfin, e⟩ | exact Res_some.2 ⟨hfin, e⟩ | skip)
    (fun i x n hx ih acc w h hw hl e => by
      have hlt := lt_of_get hx; have hwi := wrap_in (n := (i : Int) + 1) ⟨by omega, by omega⟩
      simp only [Int.natCast_add, Int.natCast_one] at ih
      have hlo := e.lo
      have e0 := eb.trans e
      obtain ⟨l1, o1, hi, ⟨_, ⟨rfl, hr0, hr1⟩, ha⟩⟩ := sv.at hx
      obtain ⟨u1, g1, c1, A1, x1⟩ := rNum (I := I) hr0 h
      have hnl := numB_len hr0
      have hnl1 := numB_len hr1
      have e01 := e0.trans x1
      rw [drop_of_get hx]
      simp only [List.flatMap_cons]
      rw [f20.n1]; unfold f20.b1
      (repeat' (first | refine Rf (fun hF hG => ?_) (fun hF hG => ?_) | assumption | (show Ext _ _; exact Ext.go) | (simp only [AHeap.next_alloc, AHeap.next_set, AHeap.next_kill, AHeap.next_res] at hle hsame) | simp (disch := first | exact D.go | fail) [setR, List.getElem?_cons_zero, List.getElem?_cons_succ, f20.n2, f20.b2, sv.len, hi, ha.rd0, ha.rd1, hlt, c1, *]))
      refine Res.after (app_num hr0 hw e x1 A1 (by omega)) (fun u2 g2 hA => ?_)
      have e2 : Ext hb g2 := hA.2.1
      have e02 := eb.trans e2
      obtain ⟨u3, g3, c3, A3, x3⟩ := rNum (I := I) hr1 g2
      have e03 := e02.trans x3
      (repeat' (first | refine Rf (fun hF hG => ?_) (fun hF hG => ?_) | assumption | (show Ext _ _; exact Ext.go) | (simp only [AHeap.next_alloc, AHeap.next_set, AHeap.next_kill, AHeap.next_res] at hle hsame) | simp (disch := first | exact D.go | fail) [setR, List.getElem?_cons_zero, List.getElem?_cons_succ, hi, ha.rd1, c3, *]))
      refine Res.after (app_num hr1 hA.1 e2 x3 A3 (by rw [List.length_append]; omega)) (fun u4 g4 hA4 => ?_)
      have hi2 := fun m hm => ih m hm (acc ++ numB x.kind ++ numB x.n) u4 g4 hA4.1 (by rw [List.length_append, List.length_append]; omega) hA4.2.1
      simp only [List.append_assoc] at hi2
      simp only [tyB, List.append_assoc]
      (repeat' (first | refine Rf (fun hF hG => ?_) (fun hF hG => ?_) | assumption | (show Ext _ _; exact Ext.go) | (simp only [AHeap.next_alloc, AHeap.next_set, AHeap.next_kill, AHeap.next_res] at hle hsame) | simp (disch := first | exact D.go | fail) [setR, List.getElem?_cons_zero, List.getElem?_cons_succ, f20.n3, f20.b3, hwi, ha.rd1, *]))
      all_goals first | exact hi2 _ (by omega) | skip)
    0 (by omega)
  have hrl : InR (xs.length : Int) := ⟨by omega, by omega⟩
  obtain ⟨u1, g1, c1, A1, x1⟩ := rNum (I := I) hrl hb
  have hfin := fun m hm => hN m hm (numB xs.length) u1 g1 A1 (by have := numB_len hrl; omega) x1
  simp only [List.drop_zero] at hfin
  refine f20.lim rfl (n := N + 2) ?_
  unfold f20.e
  unfold typesB
  (repeat' (first | refine Rf (fun hF hG => ?_) (fun hF hG => ?_) | assumption | (show Ext _ _; exact Ext.go) | (simp only [AHeap.next_alloc, AHeap.next_set, AHeap.next_kill, AHeap.next_res] at hle hsame) | simp (disch := first | exact D.go | fail) [setR, List.getElem?_cons_zero, List.getElem?_cons_succ, sv.len, c1, *]))
  all_goals first | exact hfin _ (by omega) | skip
/-- A number written and appended: what is kept. -/
theorem num_app {hb h : AHeap} {acc : List Nat} {w : AVal} {n : Int} (hr : InR n) (hw : Own byF 1 hb h w acc) (e : Ext hb h) (hl : acc.length ≤ 19000000000) :
    ∃ u1 g1 u2 g2, (AM.lim ⟨P, I, genF P Sh.prims⟩) 19 [.int .i64 n] h = some (u1, g1) ∧ sAppend I 1 1 w u1 g1 = some (u2, g2) ∧ Own byF 1 hb g2 u2 (acc ++ numB n) ∧ Ext hb g2 ∧ (acc ++ numB n).length ≤ acc.length + 10 ∧
      ∀ m, NotB w m → m < h.next → g1.get m = h.get m ∧ g2.get m = h.get m ∧ NotB u2 m ∧ m < g2.next := by
  obtain ⟨u1, g1, c1, A1, x1⟩ := rNum (I := I) hr h
  obtain ⟨u2, g2, c2, A2, x2, hk⟩ := app_num (I := I) hr hw e x1 A1 hl
  refine ⟨u1, g1, u2, g2, c1, c2, A2, x2, by have := numB_len hr; rw [List.length_append]; omega, fun m hm hml => ?_⟩
  have hml1 : m < g1.next := by have := x1.lo; omega
  obtain ⟨k1, k2⟩ := hk.2 m hm hml1
  exact ⟨x1.same m hml, k1.trans (x1.same m hml), k2, by have := hk.1; omega⟩
theorem numsB_len {xs : List Int} (hr : ∀ x ∈ xs, InR x) (hm : xs.length ≤ 1048576) : (numsB xs).length ≤ 10 + 10 * xs.length := by
  have h1 : ∀ l : List Int, (∀ x ∈ l, InR x) → (l.flatMap numB).length ≤ 10 * l.length := by
    intro l
    induction l with
    | nil => simp
    | cons a r ih =>
      intro h
      have := numB_len (h a (by simp))
      have := ih fun x hx => h x (by simp [hx])
      simp only [List.flatMap_cons, List.length_append, List.length_cons]; omega
  have h2 := h1 xs hr
  have h3 := numB_len (n := (xs.length : Int)) ⟨by omega, by omega⟩
  unfold numsB
  rw [List.length_append]; omega
/-- A list of numbers written and appended. -/
theorem nums_app {v : AVal} {xs : List Int} (sv : SlOf 1 (IntA I h0) v xs) (hm : xs.length ≤ 1048576) {hb h : AHeap} (e0 : Ext h0 h) {acc : List Nat} {w : AVal} (hw : Own byF 1 hb h w acc) (e : Ext hb h) (hl : acc.length ≤ 18000000000) :
    ∃ u1 g1 u2 g2, (AM.lim ⟨P, I, genF P Sh.prims⟩) 21 [v] h = some (u1, g1) ∧ sAppend I 1 1 w u1 g1 = some (u2, g2) ∧ Own byF 1 hb g2 u2 (acc ++ numsB xs) ∧ Ext hb g2 ∧ (acc ++ numsB xs).length ≤ acc.length + (10 + 10 * xs.length) ∧
      ∀ m, NotB w m → m < h.next → g1.get m = h.get m ∧ g2.get m = h.get m ∧ NotB u2 m ∧ m < g2.next := by
  obtain ⟨u1, g1, c1, A1, x1⟩ := rNums sv hm h e0
  have hln := numsB_len sv.ranges hm
  obtain ⟨u2, g2, c2, A2, x2, hk⟩ := app_own_all (I := I) byFix (bytes := 1) (hw.mono x1) (e.trans x1) (A1.src byFix) (by omega) (by omega)
  refine ⟨u1, g1, u2, g2, c1, c2, A2, x2, by rw [List.length_append]; omega, fun m hm hml => ?_⟩
  have hml1 : m < g1.next := by have := x1.lo; omega
  obtain ⟨k1, k2⟩ := hk.2 m hm hml1
  exact ⟨x1.same m hml, k1.trans (x1.same m hml), k2, by have := hk.1; omega⟩
end
end
end Go.Proofs.YtncjcnipagdmlaaDoor.Tx

set_option linter.unusedSimpArgs false
set_option linter.unusedVariables false
namespace Go.Proofs.YtncjcnipagdmlaaDoor.Tx
noncomputable section
open Go.AM Go.Proofs.YtncjcnipagdmlaaDoor.Sf
section
variable {I : Inp} {h0 : AHeap}
theorem Own.v1 {α : Type} {f : α → List AVal} {sz : Nat} {hb h : AHeap} {v : AVal} {xs : List α} (a : Own f sz hb h v xs) : v.one = true ∧ v.cells = [v] := by
  rcases a with ⟨rfl, rfl⟩ | ⟨k, rfl, _⟩ <;> exact ⟨rfl, rfl⟩
theorem Own.setB {α : Type} {f : α → List AVal} {sz : Nat} {hb h : AHeap} {v : AVal} {xs : List α} (a : Own f sz hb h v xs) {m : Nat} {b : Blk} (nb : NotB v m) : Own f sz hb (h.set m b) v xs := by
  rcases a with a | ⟨k, rfl, hk, h1, h2, h3⟩
  · exact .inl a
  · exact .inr ⟨k, rfl, by rw [AHeap.set_ne (Nb.o (Ne.symm (nb k _ _ _ rfl)))]; exact hk, h1, h2, h3⟩
/-! the writer: numbers -/
/-- A writer of one's own that holds these bytes: all its blocks are younger than 'hb'. -/
structure WrAt (hb h : AHeap) (kw : Nat) (acc : List Nat) : Prop where
  lo : hb.next ≤ kw
  hi : kw < h.next
  ext : Ext hb h
  at_ : ∃ v, h.get kw = some ⟨[v], true⟩ ∧ Own byF 1 hb h v acc ∧ NotB v kw
/-- What the writer's work leaves as it was. -/
def WKeep (kw : Nat) (h g : AHeap) : Prop := h.next ≤ g.next ∧ ∀ m, m < h.next → m ≠ kw → (∀ v, h.get kw = some ⟨[v], true⟩ → NotB v m) → g.get m = h.get m ∧ ∀ v, g.get kw = some ⟨[v], true⟩ → NotB v m
theorem WKeep.refl (kw : Nat) (h : AHeap) : WKeep kw h h := ⟨Nat.le_refl _, fun m _ _ hn => ⟨rfl, hn⟩⟩
theorem WKeep.trans {kw : Nat} {a b c : AHeap} (x : WKeep kw a b) (y : WKeep kw b c) : WKeep kw a c :=
  ⟨Nat.le_trans x.1 y.1, fun m hm hne hn => let ⟨p, q⟩ := x.2 m hm hne hn; let ⟨p', q'⟩ := y.2 m (Nat.lt_of_lt_of_le hm x.1) hne q; ⟨p'.trans p, q'⟩⟩
theorem or128 : ∀ x : Nat, x < 256 → (BitVec.ofNat 8 x ||| BitVec.ofNat 8 128).toNat = x % 128 + 128 := by decide +kernel
theorem u_mod8 {u : Nat} : pToInt .u8 (.int .u64 (u : Int)) = some (.int .u8 ((u % 256 : Nat) : Int)) := by
  show some (AVal.int .u8 (IntKind.u8.wrap (u : Int))) = _
  congr 2
theorem u_or {x : Nat} (h : x < 256) : pBin .or (.int .u8 (x : Int)) (.int .u8 128) = some (.int .u8 ((x % 128 + 128 : Nat) : Int)) := by
  show some (AVal.int .u8 (IntKind.u8.wrap ((BitVec.ofInt 8 (x : Int) ||| BitVec.ofInt 8 128).toNat : Int))) = _
  have h2 : BitVec.ofInt 8 (x : Int) = BitVec.ofNat 8 x := BitVec.ofInt_natCast 8 x
  have h3 : BitVec.ofInt 8 128 = BitVec.ofNat 8 128 := by decide
  rw [h2, h3, or128 x h, wrapB (by omega)]
theorem u_shr7 {u : Nat} : pBin .shr (.int .u64 (u : Int)) (.int .u64 7) = some (.int .u64 ((u / 128 : Nat) : Int)) := by
  show some (AVal.int .u64 (Int.fdiv (u : Int) 128)) = _
  rw [Int.fdiv_eq_ediv_of_nonneg _ (by omega)]; rfl
theorem u_shl1 {u : Nat} : pBin .shl (.int .u64 (u : Int)) (.int .u64 1) = some (.int .u64 (IntKind.u64.wrap ((u * 2 : Nat) : Int))) := by
  show some (AVal.int .u64 (IntKind.u64.wrap ((u : Int) * 2))) = _
  rw [show (u : Int) * 2 = ((u * 2 : Nat) : Int) by omega]
theorem wNum_loop : ∀ (u : Nat), u < 18446744073709551616 → ∀ hb : AHeap, ∀ kw : Nat, Evt fun n => ∀ (acc : List Nat) h, WrAt hb h kw acc → acc.length + (varint u).length ≤ 1000000000 → Res ((f34.J I (AM.lim ⟨P, I, genF P Sh.prims⟩) (n)).2.1 (.ptr (.own kw) 0) (.int .u64 (u : Int)) h) fun w g => w = .tuple [] ∧ WrAt hb g kw (acc ++ varint u) ∧ WKeep kw h g := by
  intro u
  -- one byte more
  have step : ∀ (hb : AHeap) (kw : Nat) (acc : List Nat) (h : AHeap) (x : Nat), WrAt hb h kw acc → acc.length ≤ 1000000000 → ∃ v w g, h.get kw = some ⟨[v], true⟩ ∧ (h.alloc ⟨byF x, true⟩).get kw = some ⟨[v], true⟩ ∧ v.one = true ∧ sAppend I 1 1 v (.sl (.own h.next) 0 1 (.known 1)) (h.alloc ⟨byF x, true⟩) = some (w, g) ∧ w.one = true ∧ w.cells = [w] ∧ g.get kw = some ⟨[v], true⟩ ∧ WrAt hb (g.set kw ⟨[w], true⟩) kw (acc ++ [x]) ∧ WKeep kw h (g.set kw ⟨[w], true⟩) := by
    intro hb kw acc h x W hl
    obtain ⟨v, hk, o, nb⟩ := W.at_
    obtain ⟨w, g, e1, o1, x1, k1, k2⟩ := app_own (I := I) (f := byF) byFix (o.mono (Ext.refl h).alloc) W.ext.alloc x (bytes := 1) (by omega) (by omega) (kw := h.next) (c := .known 1) (AHeap.alloc_at (Nb.o rfl))
    have hi := W.hi
    simp only [AHeap.next_alloc] at k1 k2
    have hka : (h.alloc ⟨byF x, true⟩).get kw = some ⟨[v], true⟩ := by rw [AHeap.alloc_ne (Nb.o (by omega))]; exact hk
    obtain ⟨q1, q2⟩ := k2 kw nb (by omega)
    have ov := o.v1
    have ow := o1.v1
    refine ⟨v, w, g, hk, hka, ov.1, e1, ow.1, ow.2, q1.trans hka, ⟨W.lo, by simp; omega, x1.set (Nb.o W.lo), w, AHeap.set_at (Nb.o rfl), o1.setB q2, q2⟩, by simp; omega, fun m hm hne hn => ?_⟩
    obtain ⟨p1, p2⟩ := k2 m (hn v hk) (by omega)
    refine ⟨?_, fun v' hv' => ?_⟩
    · rw [AHeap.set_ne (Nb.o hne), p1, AHeap.alloc_ne (Nb.o (by omega))]
    · rw [AHeap.set_at (Nb.o rfl)] at hv'
      cases hv'; exact p2
  induction u using Nat.strongRecOn with
  | _ u ih =>
    intro hu hb kw
    by_cases hs : u < 128
    · have hge : ¬ (127 : Int) < u := by omega
      have hw8 := u_byte (u := u) (by omega)
      refine Evt.all 3 fun n acc h W hl => ?_
      obtain ⟨v, w, g, s1, s2, s3, s4, s5, s6, s7, s8, s9⟩ := step hb kw acc h u W (by omega)
      rw [varint_small hs]
      have hu' : (byF u : List AVal) = [.int .u8 (u : Int)] := rfl
      rw [hu'] at s2 s4
      clear ih step
      rw [f34.n2]; unfold f34.b2
      simp (disch := first | exact D.go | fail) [setR, List.getElem?_cons_zero, List.getElem?_cons_succ, f34.n1, f34.b1, hge, s1, s2, s4, s6, s7, hw8, s5]
      exact ⟨s8, s9⟩
    · have hge : (127 : Int) < u := by omega
      have hw8 := u_mod8 (u := u)
      have hor := u_or (x := u % 256) (by omega)
      rw [show u % 256 % 128 + 128 = u % 128 + 128 by omega] at hor
      have hsh := u_shr7 (u := u)
      refine Evt.step 4 (ih (u / 128) (by omega) (by omega) hb kw) fun n hn acc h W hl => ?_
      rw [varint_big hs] at hl ⊢
      simp only [List.length_cons] at hl
      obtain ⟨v, w, g, s1, s2, s3, s4, s5, s6, s7, s8, s9⟩ := step hb kw acc h (u % 128 + 128) W (by omega)
      have hu' : (byF (u % 128 + 128) : List AVal) = [.int .u8 ((u % 128 + 128 : Nat) : Int)] := rfl
      rw [hu'] at s2 s4
      have hend := fun m hm => hn m hm (acc ++ [u % 128 + 128]) _ s8 (by simp only [List.length_append, List.length_cons, List.length_nil]; omega)
      simp only [List.append_assoc, List.cons_append, List.nil_append] at hend
      clear ih step hn
      generalize u % 128 + 128 = z at *
      generalize u % 256 = y at *
      generalize u / 128 = d at *
      have hend' := fun m hm => (hend m hm).mono (Q' := fun w g' => w = .tuple [] ∧ WrAt hb g' kw (acc ++ z :: varint d) ∧ WKeep kw h g') fun u g ⟨h1, h2, h3⟩ => ⟨h1, h2, s9.trans h3⟩
      rw [f34.n2]; unfold f34.b2
      simp (disch := first | exact D.go | fail) [setR, List.getElem?_cons_zero, List.getElem?_cons_succ, f34.n3, f34.b3, hge, s1, s2, s4, s6, s7, hw8, hor, hsh, s5]
      exact hend' _ (by omega)
end
end
end Go.Proofs.YtncjcnipagdmlaaDoor.Tx

set_option linter.unusedSimpArgs false
set_option linter.unusedVariables false
namespace Go.Proofs.YtncjcnipagdmlaaDoor.Tx
noncomputable section
open Go.AM Go.Proofs.YtncjcnipagdmlaaDoor.Sf
section
variable {I : Inp} {h0 : AHeap}
theorem wNum {n : Int} (hn : InR n) {hb h : AHeap} {kw : Nat} {acc : List Nat} (W : WrAt hb h kw acc) (hl : acc.length ≤ 900000000) : ∃ g, (AM.lim ⟨P, I, genF P Sh.prims⟩) 34 [.ptr (.own kw) 0, .int .i64 n] h = some (.tuple [], g) ∧ WrAt hb g kw (acc ++ numB n) ∧ WKeep kw h g := by
  obtain ⟨N, hN⟩ := wNum_loop (I := I) (zig n) (zig_lt hn) hb kw
  have hlen := numB_len hn
  have hfin := fun m hm => hN m hm acc h W (by unfold numB at hlen; omega)
  have key : Res ((AM.lim ⟨P, I, genF P Sh.prims⟩) 34 [.ptr (.own kw) 0, .int .i64 n] h) fun w g => w = .tuple [] ∧ WrAt hb g kw (acc ++ varint (zig n)) ∧ WKeep kw h g := by
    obtain ⟨h1, h2⟩ := hn
    by_cases hs : n < 0
    · have hz : zig n = (-(2 * n) - 1).toNat := by unfold zig; rw [if_pos hs]
      obtain ⟨a, ha⟩ : ∃ a : Nat, pToInt .u64 (.int .i64 n) = some (.int .u64 (a : Int)) ∧ (a : Int) = n + 18446744073709551616 := ⟨(n + 18446744073709551616).toNat, by
        show some (AVal.int .u64 (IntKind.u64.wrap n)) = _
        congr 2
        simp only [IntKind.wrap, IntKind.bits, IntKind.signed]; simp; omega, by omega⟩
      obtain ⟨ha, hav⟩ := ha
      obtain ⟨b, hbm, hbv⟩ : ∃ b : Nat, pBin .shl (.int .u64 (a : Int)) (.int .u64 1) = some (.int .u64 (b : Int)) ∧ (b : Int) = 2 * n + 18446744073709551616 := ⟨(2 * n + 18446744073709551616).toNat, by
        rw [u_shl1]
        congr 2
        simp only [IntKind.wrap, IntKind.bits, IntKind.signed]; simp; omega, by omega⟩
      have hx := u_not (b := b) (by omega)
      rw [show 18446744073709551615 - b = zig n by omega] at hx
      refine f34.lim rfl (n := N + 2) ?_
      unfold f34.e
      generalize zig n = z at *
      generalize hQ : (fun (w : AVal) (g : AHeap) => w = .tuple [] ∧ WrAt hb g kw (acc ++ varint z) ∧ WKeep kw h g) = Q at *
      clear hz hav hbv hQ W
      simp (disch := first | exact D.go | fail) [setR, List.getElem?_cons_zero, List.getElem?_cons_succ, f34.n0, f34.b0, ha, hbm, hx, hs]
      exact hfin _ (by omega)
    · have hz : zig n = (2 * n).toNat := by unfold zig; rw [if_neg hs]
      obtain ⟨a, rfl⟩ : ∃ a : Nat, n = a := ⟨n.toNat, by omega⟩
      have ha : pToInt .u64 (.int .i64 (a : Int)) = some (.int .u64 (a : Int)) := by
        show some (AVal.int .u64 (IntKind.u64.wrap (a : Int))) = _
        rw [wrapU (by omega)]
      have hbm : pBin .shl (.int .u64 (a : Int)) (.int .u64 1) = some (.int .u64 (zig a : Int)) := by
        rw [u_shl1, hz, wrapU (by omega)]
        rw [show a * 2 = (2 * (a : Int)).toNat by omega]
      refine f34.lim rfl (n := N + 2) ?_
      unfold f34.e
      generalize zig a = z at *
      generalize hQ : (fun (w : AVal) (g : AHeap) => w = .tuple [] ∧ WrAt hb g kw (acc ++ varint z) ∧ WKeep kw h g) = Q at *
      clear hz hQ W
      simp (disch := first | exact D.go | fail) [setR, List.getElem?_cons_zero, List.getElem?_cons_succ, f34.n0, f34.b0, ha, hbm, hs]
      exact hfin _ (by omega)
  obtain ⟨w, g, e, rfl, h1, h2⟩ := key
  exact ⟨g, e, h1, h2⟩
/-- A list of numbers. -/
theorem wNums {v : AVal} {xs : List Int} (sv : SlOf 1 (IntA I h0) v xs) (hm : xs.length ≤ 1048576) {hb h : AHeap} (e0 : Ext h0 hb) {kw : Nat} {acc : List Nat} (W : WrAt hb h kw acc) (hl : acc.length ≤ 100000000) : ∃ g, (AM.lim ⟨P, I, genF P Sh.prims⟩) 36 [.ptr (.own kw) 0, v] h = some (.tuple [], g) ∧ WrAt hb g kw (acc ++ numsB xs) ∧ WKeep kw h g := by
  obtain ⟨N, hN⟩ := Evt.loop xs (F := fun i n => ∀ (acc' : List Nat) g, WrAt hb g kw acc' → WKeep kw h g → acc'.length ≤ acc.length + 10 + 10 * i → Res ((f36.J I (AM.lim ⟨P, I, genF P Sh.prims⟩) (n)).1 (.ptr (.own kw) 0) v (.int .i64 xs.length) (.int .i64 i) g) fun u k => u = .tuple [] ∧ WrAt hb k kw (acc' ++ (xs.drop i).flatMap numB) ∧ WKeep kw h k) 4
    (Evt.all 4 fun n acc' g W' K' hl' => by
      have hfin : WrAt hb g kw (acc' ++ (xs.drop xs.length).flatMap numB) := by simpa using W'
      generalize hQ : (fun (u : AVal) (k : AHeap) => u = .tuple [] ∧ WrAt hb k kw (acc' ++ (xs.drop xs.length).flatMap numB) ∧ WKeep kw h k) = Q
      have hq : Q (.tuple []) g := by rw [← hQ]; exact ⟨rfl, hfin, K'⟩
      clear hQ
      have hlt : ¬ (xs.length : Int) < xs.length := by omega
      rw [f36.n0]; unfold f36.b0
      simp (disch := first | exact D.go | fail) [setR, List.getElem?_cons_zero, List.getElem?_cons_succ]
      exact hq)
    (fun i x n hx ih acc' g W' K' hl' => by
      have hlt := lt_of_get hx
      have hlt' : (i : Int) < xs.length := by omega
      have hwi := wrap_in (n := (i : Int) + 1) ⟨by omega, by omega⟩
      obtain ⟨l1, o1, hi, hxa⟩ := sv.at hx
      obtain ⟨hxa, hr⟩ := hxa.int
      have hxa := hxa g (e0.trans W'.ext)
      have hnl := numB_len hr
      obtain ⟨k, c1, W1, K1⟩ := wNum (I := I) hr W' (by omega)
      have hi2 := fun m hm => ih m hm (acc' ++ numB x) k W1 (K'.trans K1) (by rw [List.length_append]; omega)
      simp only [List.append_assoc, Int.natCast_add, Int.natCast_one] at hi2
      rw [drop_of_get hx]
      simp only [List.flatMap_cons]
      clear ih
      generalize hQ : (fun (u : AVal) (k : AHeap) => u = .tuple [] ∧ WrAt hb k kw (acc' ++ (numB x ++ (xs.drop (i + 1)).flatMap numB)) ∧ WKeep kw h k) = Q at *
      clear hQ
      rw [f36.n0]; unfold f36.b0
      simp (disch := first | exact D.go | fail) [setR, List.getElem?_cons_zero, List.getElem?_cons_succ, hlt', f36.n1, f36.b1, hi, hxa, c1, f36.n2, f36.b2, hwi]
      exact hi2 _ (by omega))
    0 (by omega)
  have hrl : InR (xs.length : Int) := ⟨by omega, by omega⟩
  have hnl := numB_len hrl
  obtain ⟨g1, c1, W1, K1⟩ := wNum (I := I) hrl W (by omega)
  have hfin := hN (N + 1) (by omega) (acc ++ numB xs.length) g1 W1 K1 (by rw [List.length_append]; omega)
  simp only [List.drop_zero, List.append_assoc] at hfin
  have key : Res ((AM.lim ⟨P, I, genF P Sh.prims⟩) 36 [.ptr (.own kw) 0, v] h) fun w g => w = .tuple [] ∧ WrAt hb g kw (acc ++ numsB xs) ∧ WKeep kw h g := by
    refine f36.lim rfl (n := N + 1) ?_
    unfold f36.e
    unfold numsB
    generalize hQ : (fun (u : AVal) (k : AHeap) => u = .tuple [] ∧ WrAt hb k kw (acc ++ (numB xs.length ++ xs.flatMap numB)) ∧ WKeep kw h k) = Q at *
    clear hQ hN W1 K1
    simp (disch := first | exact D.go | fail) [setR, List.getElem?_cons_zero, List.getElem?_cons_succ, sv.len, c1]
    exact hfin
  obtain ⟨w, g, e, rfl, h1, h2⟩ := key
  exact ⟨g, e, h1, h2⟩
end
end
end Go.Proofs.YtncjcnipagdmlaaDoor.Tx

set_option linter.unusedSimpArgs false
set_option linter.unusedVariables false
namespace Go.Proofs.YtncjcnipagdmlaaDoor.Tx
noncomputable section
open Go.AM Go.Proofs.YtncjcnipagdmlaaDoor.Sf
section
variable {I : Inp} {h0 : AHeap}
/-! a program of one interface alone, written -/
theorem WrAt.mono {hb h g : AHeap} {kw : Nat} {acc : List Nat} (W : WrAt hb h kw acc) (x : Ext h g) : WrAt hb g kw acc := by
  obtain ⟨v, hk, o, nb⟩ := W.at_
  exact ⟨W.lo, Nat.lt_of_lt_of_le W.hi x.lo, W.ext.trans x, v, (x.same _ W.hi).trans hk, o.mono x, nb⟩
theorem r0 : InR 0 := ⟨by omega, by omega⟩
theorem r1 : InR 1 := ⟨by omega, by omega⟩
theorem numB0 : numB 0 = [0] := by unfold numB zig; rw [if_neg (by omega)]; rw [varint_small (by decide)]; rfl
theorem numB1 : numB 1 = [2] := by unfold numB zig; rw [if_neg (by omega)]; rw [varint_small (by decide)]; rfl
/-- The bytes of a program of one interface. -/
def faceB (xs : List Int) : List Nat := numB 0 ++ (numB 0 ++ (numB 1 ++ (numsB xs ++ (numB 0 ++ (numB 0 ++ numB 0)))))
/-- Such a program lies in a block of one's own. -/
structure FaceAt (I : Inp) (h : AHeap) (kp : Nat) (xs : List Int) : Prop where
  hi : kp < h.next
  at_ : ∃ ki cap v, h.get kp = some ⟨[.nils, .nils, .sl (.own ki) 0 1 cap, .nils, .nils, Z 0], true⟩ ∧ ki < h.next ∧ h.get ki = some ⟨[v], true⟩ ∧ SlOf 1 (IntA I h) v xs
theorem FaceAt.mono {h g : AHeap} {kp : Nat} {xs : List Int} (a : FaceAt I h kp xs) (x : Ext h g) : FaceAt I g kp xs := by
  obtain ⟨ki, cap, v, h1, h2, h3, sv⟩ := a.at_
  have := x.lo
  have := a.hi
  exact ⟨by omega, ki, cap, v, (x.same _ a.hi).trans h1, by omega, (x.same _ h2).trans h3, SlOf.mono (fun l o t c => At.mono (fun _ _ h => h) c x) sv⟩
theorem tText {hb : AHeap} {kp : Nat} {xs : List Int} (a : FaceAt I hb kp xs) (hm : xs.length ≤ 100000) : Res ((AM.lim ⟨P, I, genF P Sh.prims⟩) 24 [.ptr (.own kp) 0] hb) fun u g => Own byF 1 hb g u (faceB xs) ∧ Ext hb g := by
  obtain ⟨ki, cap, v, h1, h2, h3, sv⟩ := a.at_
  have hkp := a.hi
  have hln := numsB_len sv.ranges (by omega)
  obtain ⟨H, hH⟩ : ∃ H, H = hb.alloc ⟨[.nils], true⟩ := ⟨_, rfl⟩
  have xH : Ext hb H := by rw [hH]; exact (Ext.refl hb).alloc
  have hHn : H.next = hb.next + 1 := by rw [hH]; simp
  have hHk : H.get hb.next = some ⟨[.nils], true⟩ := by rw [hH]; exact AHeap.alloc_at (Nb.o rfl)
  have W0 : WrAt hb H hb.next [] := ⟨Nat.le_refl _, by omega, xH, .nils, hHk, Own.nil, fun k o n c e => by cases e⟩
  obtain ⟨g1, c1, W1, K1⟩ := wNum (I := I) r0 W0 (by simp)
  obtain ⟨g2, c2, W2, K2⟩ := wNum (I := I) r0 W1 (by simp [numB0])
  obtain ⟨g3, c3, W3, K3⟩ := wNum (I := I) r1 W2 (by simp [numB0])
  obtain ⟨G, hG⟩ : ∃ G, G = (g3.alloc ⟨[.nils], true⟩).set g3.next ⟨[v], true⟩ := ⟨_, rfl⟩
  have xG : Ext g3 G := by rw [hG]; exact (Ext.refl g3).alloc.set (Nb.o (Nat.le_refl _))
  have hGk : G.get g3.next = some ⟨[v], true⟩ := by rw [hG]; exact AHeap.set_at (Nb.o rfl)
  obtain ⟨g4, c4, W4, K4⟩ := wNums (I := I) (h0 := hb) sv (by omega) (Ext.refl hb) (W3.mono xG) (by simp [numB0, numB1])
  obtain ⟨g5, c5, W5, K5⟩ := wNum (I := I) r0 W4 (by simp [numB0, numB1]; omega)
  obtain ⟨g6, c6, W6, K6⟩ := wNum (I := I) r0 W5 (by simp [numB0, numB1]; omega)
  obtain ⟨g7, c7, W7, K7⟩ := wNum (I := I) r0 W6 (by simp [numB0, numB1]; omega)
  have q0 := (xH.same _ hkp).trans h1
  have q1 := (W1.ext.same _ hkp).trans h1
  have q2 := (W2.ext.same _ hkp).trans h1
  have q3 := (W3.ext.same _ hkp).trans h1
  have q4 := (W4.ext.same _ hkp).trans h1
  have q5 := (W5.ext.same _ hkp).trans h1
  have q6 := (W6.ext.same _ hkp).trans h1
  have qi := (W3.ext.same _ h2).trans h3
  obtain ⟨w, hw, ow, _⟩ := W7.at_
  have hgoal : Own byF 1 hb g7 w (faceB xs) := by
    unfold faceB
    simpa using ow
  have hfin : Own byF 1 hb g7 w (faceB xs) ∧ Ext hb g7 := ⟨hgoal, W7.ext⟩
  have z0 : pIndexAddr 1 (.sl (.own ki) 0 1 cap) (Z 0) = some (.ptr (.own ki) 0) := rfl
  have w1 : IntKind.i64.wrap 1 = 1 := wrap_in r1
  have ov := sv.one
  have cv := sv.cells
  have ev := sv.self
  refine f24.lim rfl (n := 14) ?_
  unfold f24.e
  generalize hQ : (fun (u : AVal) (g : AHeap) => Own byF 1 hb g u (faceB xs) ∧ Ext hb g) = Q
  have hq : Q w g7 := by rw [← hQ]; exact hfin
  have e1 : (AM.lim ⟨P, I, genF P Sh.prims⟩) 34 [.ptr (.own hb.next) 0, .int .i64 0] (hb.alloc ⟨[.nils], true⟩) = some (.tuple [], g1) := by rw [← hH]; exact c1
  have e2 : (AM.lim ⟨P, I, genF P Sh.prims⟩) 34 [.ptr (.own hb.next) 0, .int .i64 0] g1 = some (.tuple [], g2) := c2
  have e3 : (AM.lim ⟨P, I, genF P Sh.prims⟩) 34 [.ptr (.own hb.next) 0, .int .i64 1] g2 = some (.tuple [], g3) := c3
  have e4 : (AM.lim ⟨P, I, genF P Sh.prims⟩) 36 [.ptr (.own hb.next) 0, v] ((g3.alloc ⟨[.nils], true⟩).set g3.next ⟨[v], true⟩) = some (.tuple [], g4) := by rw [← hG]; exact c4
  have e5 : (AM.lim ⟨P, I, genF P Sh.prims⟩) 34 [.ptr (.own hb.next) 0, .int .i64 0] g4 = some (.tuple [], g5) := c5
  have e6 : (AM.lim ⟨P, I, genF P Sh.prims⟩) 34 [.ptr (.own hb.next) 0, .int .i64 0] g5 = some (.tuple [], g6) := c6
  have e7 : (AM.lim ⟨P, I, genF P Sh.prims⟩) 34 [.ptr (.own hb.next) 0, Z 0] g6 = some (.tuple [], g7) := c7
  have q0' : (hb.alloc ⟨[.nils], true⟩).get kp = some ⟨[.nils, .nils, .sl (.own ki) 0 1 cap, .nils, .nils, Z 0], true⟩ := by rw [← hH]; exact q0
  clear hQ W0 W1 W2 W3 W4 W5 W6 W7 K1 K2 K3 K4 K5 K6 K7 hfin hgoal ow c1 c2 c3 c4 c5 c6 c7 hG hH xG xH hHk hGk sv
  simp (disch := first | exact D.go | fail) [setR, List.getElem?_cons_zero, List.getElem?_cons_succ, f24.n0, f24.b0, f24.n1, f24.b1, f24.n2, f24.b2, f24.n3, f24.b3, f24.n4, f24.b4, f24.n5, f24.b5, f24.n6, f24.b6, f24.n7, f24.b7, f24.n8, f24.b8, f24.n9, f24.b9, f24.n10, f24.b10, f24.n11, f24.b11, f24.n12, f24.b12, f24.n13, f24.b13, f24.n14, f24.b14, f24.n15, f24.b15, f24.n16, f24.b16, f24.n17, f24.b17, f24.n18, f24.b18, f24.n19, f24.b19, q0', q1, q2, q3, q4, q5, q6, qi, e1, e2, e3, e4, e5, e6, e7, z0, w1, ov, cv, ev, hw]
  exact hq
end
end
end Go.Proofs.YtncjcnipagdmlaaDoor.Tx

set_option linter.unusedSimpArgs false
set_option linter.unusedVariables false
namespace Go.Proofs.YtncjcnipagdmlaaDoor.Tx
noncomputable section
open Go.AM Go.Proofs.YtncjcnipagdmlaaDoor.Sf
section
variable {I : Inp} {h0 : AHeap}
/-! the reader: numbers -/
/-- A slice of bytes, from a heap on. -/
def ByS (I : Inp) (hb : AHeap) (v : AVal) (bs : List Nat) : Prop :=
  (v = .nils ∧ bs = []) ∨ ∃ l o cap, v = .sl l o bs.length cap ∧ CapOk cap 1 bs.length ∧ bs.length ≤ 9223372036854775807 ∧ ∀ (i x : Nat), bs[i]? = some x → x < 256 ∧ ∀ g, Ext hb g → rd I g l (o + i) = some (.int .u8 (x : Int))
theorem ByS.len {hb : AHeap} {v : AVal} {bs : List Nat} (a : ByS I hb v bs) : pLenSl v = some (.int .i64 bs.length) := by
  rcases a with ⟨rfl, rfl⟩ | ⟨l, o, cap, rfl, _⟩ <;> rfl
theorem ByS.one {hb : AHeap} {v : AVal} {bs : List Nat} (a : ByS I hb v bs) : v.one = true ∧ v.cells = [v] := by
  rcases a with ⟨rfl, rfl⟩ | ⟨l, o, cap, rfl, _⟩ <;> exact ⟨rfl, rfl⟩
theorem capOk_minus {cap : Cap} {n i : Nat} (c : CapOk cap 1 n) (hi : i ≤ n) : CapOk (capMinus cap i) 1 (n - i) := by
  intro m hm
  have h1 := c (m + i) (by omega)
  cases cap with
  | known c =>
    simp only [capHas] at h1
    have := Nat.le_of_ble_eq_true h1
    exact Nat.ble_eq_true_of_le (by omega)
  | grown s =>
    simp only [capHas, Bool.and_eq_true] at h1
    show (Nat.ble m (n - i) && Nat.beq s 1) = true
    rw [Nat.ble_eq_true_of_le hm, h1.2]; rfl
theorem capOk_less {cap : Cap} {n m : Nat} (c : CapOk cap 1 n) (hm : m ≤ n) : CapOk (capMinus cap 0) 1 m := by
  intro j hj
  have h1 := c j (by omega)
  cases cap with
  | known c => exact h1
  | grown s =>
    simp only [capHas, Bool.and_eq_true] at h1
    show (Nat.ble j m && Nat.beq s 1) = true
    rw [Nat.ble_eq_true_of_le hj, h1.2]; rfl
/-- b[i:] -/
theorem ByS.from {hb : AHeap} {v : AVal} {bs : List Nat} (a : ByS I hb v bs) {i : Nat} (hi : i ≤ bs.length) (h0 : 0 < bs.length) : ∃ u, pSliceS 1 v (some (.int .i64 (i : Int))) none none = some u ∧ ByS I hb u (bs.drop i) := by
  rcases a with ⟨rfl, rfl⟩ | ⟨l, o, cap, rfl, hc, hn, hx⟩
  · simp at h0
  · refine ⟨.sl l (o + i * 1) (bs.length - i) (capMinus cap i), ?_, .inr ⟨l, o + i * 1, capMinus cap i, by rw [List.length_drop], by rw [List.length_drop]; exact capOk_minus hc hi, by rw [List.length_drop]; omega, fun j x hj => ?_⟩⟩
    · show (match Nat.ble i bs.length && capHas cap 1 bs.length bs.length with
        | true => some (AVal.sl l (o + i * 1) (bs.length - i) (capMinus cap i))
        | false => none) = _
      rw [Nat.ble_eq_true_of_le hi, hc _ (Nat.le_refl _)]; rfl
    · rw [List.getElem?_drop] at hj
      have := hx (i + j) x hj
      rw [show o + i * 1 + j = o + (i + j) by omega]
      exact this
/-- b[:m] -/
theorem ByS.to {hb : AHeap} {v : AVal} {bs : List Nat} (a : ByS I hb v bs) {m : Nat} (hm : m ≤ bs.length) : ∃ u, pSliceS 1 v none (some (.int .i64 (m : Int))) none = some u ∧ ByS I hb u (bs.take m) := by
  rcases a with ⟨rfl, rfl⟩ | ⟨l, o, cap, rfl, hc, hn, hx⟩
  · obtain rfl : m = 0 := by simpa using hm
    exact ⟨.nils, rfl, .inl ⟨rfl, rfl⟩⟩
  · have hlen : (bs.take m).length = m := by rw [List.length_take]; omega
    refine ⟨.sl l (o + 0 * 1) (m - 0) (capMinus cap 0), ?_, .inr ⟨l, o + 0 * 1, capMinus cap 0, by rw [hlen]; rfl, by rw [hlen]; exact capOk_less hc hm, by rw [hlen]; omega, fun j x hj => ?_⟩⟩
    · show (match Nat.ble 0 m && capHas cap 1 bs.length m with
        | true => some (AVal.sl l (o + 0 * 1) (m - 0) (capMinus cap 0))
        | false => none) = _
      rw [Nat.ble_eq_true_of_le (Nat.zero_le _), hc m hm]; rfl
    · rw [List.getElem?_take] at hj
      split at hj
      · have := hx j x hj
        rw [show o + 0 * 1 + j = o + j by omega]; exact this
      · cases hj
theorem ByS.at_ {hb : AHeap} {v : AVal} {bs : List Nat} (a : ByS I hb v bs) {i x : Nat} (hx : bs[i]? = some x) : x < 256 ∧ ∃ l o, pIndexAddr 1 v (.int .i64 (i : Int)) = some (.ptr l o) ∧ ∀ g, Ext hb g → rd I g l o = some (.int .u8 (x : Int)) := by
  rcases a with ⟨rfl, rfl⟩ | ⟨l, o, cap, rfl, hc, hn, hr⟩
  · simp at hx
  · obtain ⟨h1, h2⟩ := hr i x hx
    exact ⟨h1, l, o + i * 1, pIndexAddr_sl (lt_of_get hx), fun g e => by rw [Nat.mul_one]; exact h2 g e⟩
/-- A reader of one's own that has these bytes ahead. -/
structure RdAt (I : Inp) (hb h : AHeap) (kr : Nat) (bs : List Nat) : Prop where
  lo : hb.next ≤ kr
  hi : kr < h.next
  ext : Ext hb h
  at_ : ∃ v, h.get kr = some ⟨[v, .bool false], true⟩ ∧ ByS I hb v bs
theorem and127 : ∀ x : Nat, x < 256 → (BitVec.ofNat 8 x &&& BitVec.ofNat 8 127).toNat = x % 128 := by decide +kernel
theorem u_and {x : Nat} (h : x < 256) : pBin .and (.int .u8 (x : Int)) (.int .u8 127) = some (.int .u8 ((x % 128 : Nat) : Int)) := by
  show some (AVal.int .u8 (IntKind.u8.wrap ((BitVec.ofInt 8 (x : Int) &&& BitVec.ofInt 8 127).toNat : Int))) = _
  have h2 : BitVec.ofInt 8 (x : Int) = BitVec.ofNat 8 x := BitVec.ofInt_natCast 8 x
  have h3 : BitVec.ofInt 8 127 = BitVec.ofNat 8 127 := by decide
  rw [h2, h3, and127 x h, wrapB (by omega)]
theorem b_u64 {x : Nat} (h : x < 256) : pToInt .u64 (.int .u8 (x : Int)) = some (.int .u64 (x : Int)) := by
  show some (AVal.int .u64 (IntKind.u64.wrap (x : Int))) = _
  rw [wrapU (by omega)]
theorem u_shl {x i : Nat} (hi : i ≤ 9) (h : x * 2 ^ (7 * i) < 18446744073709551616) : pBin .shl (.int .u64 (x : Int)) (.int .i64 ((7 * i : Nat) : Int)) = some (.int .u64 ((x * 2 ^ (7 * i) : Nat) : Int)) := by
  have h1 : ¬ ((7 * i : Nat) : Int) < 0 := by omega
  show ishift .shl .u64 (x : Int) ((7 * i : Nat) : Int) = _
  unfold ishift
  rw [if_neg h1]
  show some (AVal.int .u64 (IntKind.u64.wrap ((x : Int) * 2 ^ (min (((7 * i : Nat) : Int)).toNat 64)))) = _
  rw [Int.toNat_natCast, Nat.min_eq_left (by omega), show ((x : Int) * 2 ^ (7 * i)) = ((x * 2 ^ (7 * i) : Nat) : Int) by simp [Int.natCast_mul, Int.natCast_pow]]
  rw [wrapU h]
theorem u_or64 {a b i : Nat} (ha : a < 2 ^ (7 * i)) (h : b * 2 ^ (7 * i) + a < 18446744073709551616) : pBin .or (.int .u64 (a : Int)) (.int .u64 ((b * 2 ^ (7 * i) : Nat) : Int)) = some (.int .u64 ((b * 2 ^ (7 * i) + a : Nat) : Int)) := by
  show some (AVal.int .u64 (IntKind.u64.wrap ((BitVec.ofInt 64 (a : Int) ||| BitVec.ofInt 64 ((b * 2 ^ (7 * i) : Nat) : Int)).toNat : Int))) = _
  have h2 : BitVec.ofInt 64 (a : Int) = BitVec.ofNat 64 a := BitVec.ofInt_natCast 64 a
  have h3 : BitVec.ofInt 64 ((b * 2 ^ (7 * i) : Nat) : Int) = BitVec.ofNat 64 (b * 2 ^ (7 * i)) := BitVec.ofInt_natCast 64 _
  rw [h2, h3, BitVec.toNat_or, BitVec.toNat_ofNat, BitVec.toNat_ofNat, Nat.mod_eq_of_lt (by omega), Nat.mod_eq_of_lt (by omega)]
  have := Nat.shiftLeft_add_eq_or_of_lt ha b
  rw [Nat.shiftLeft_eq] at this
  rw [Nat.or_comm, ← this, wrapU h]
theorem u_odd {u : Nat} (h : u < 18446744073709551616) : pBin .and (.int .u64 (u : Int)) (.int .u64 1) = some (.int .u64 ((u % 2 : Nat) : Int)) := by
  show some (AVal.int .u64 (IntKind.u64.wrap ((BitVec.ofInt 64 (u : Int) &&& BitVec.ofInt 64 1).toNat : Int))) = _
  have h2 : BitVec.ofInt 64 (u : Int) = BitVec.ofNat 64 u := BitVec.ofInt_natCast 64 u
  have h3 : BitVec.ofInt 64 1 = BitVec.ofNat 64 1 := by decide
  rw [h2, h3, BitVec.toNat_and, BitVec.toNat_ofNat, BitVec.toNat_ofNat, Nat.mod_eq_of_lt (by omega), show (1 % 2 ^ 64 : Nat) = 1 from rfl, Nat.and_one_is_mod, wrapU (by omega)]
theorem u_shr1 {u : Nat} : pBin .shr (.int .u64 (u : Int)) (.int .u64 1) = some (.int .u64 ((u / 2 : Nat) : Int)) := by
  show some (AVal.int .u64 (Int.fdiv (u : Int) 2)) = _
  rw [Int.fdiv_eq_ediv_of_nonneg _ (by omega)]; rfl
end
end
end Go.Proofs.YtncjcnipagdmlaaDoor.Tx

set_option linter.unusedSimpArgs false
set_option linter.unusedVariables false
namespace Go.Proofs.YtncjcnipagdmlaaDoor.Tx
noncomputable section
open Go.AM Go.Proofs.YtncjcnipagdmlaaDoor.Sf
section
variable {I : Inp} {h0 : AHeap}
def unzig (u : Nat) : Int := if u % 2 = 1 then -((u / 2 : Nat) : Int) - 1 else ((u / 2 : Nat) : Int)
theorem unzig_zig {n : Int} (h : InR n) : unzig (zig n) = n := by
  obtain ⟨h1, h2⟩ := h
  unfold unzig zig
  by_cases hs : n < 0
  · rw [if_pos hs]
    have : (-(2 * n) - 1).toNat % 2 = 1 := by omega
    rw [if_pos this]; omega
  · rw [if_neg hs]
    have : ¬ (2 * n).toNat % 2 = 1 := by omega
    rw [if_neg this]; omega
theorem varint_ne (u : Nat) : varint u ≠ [] := by
  by_cases h : u < 128
  · rw [varint_small h]; simp
  · rw [varint_big h]; simp
/-- The end of a number: what is left is cut off. -/
theorem rEnd {hb h : AHeap} {kr : Nat} {bs : List Nat} (R : RdAt I hb h kr bs) {u i : Nat} (hu : u < 18446744073709551616) (hi : i < bs.length) (hi9 : i ≤ 9) :
    ∃ v', (∀ n, Res ((f43.J I (AM.lim ⟨P, I, genF P Sh.prims⟩) (n + 2)).2.2.1 (.ptr (.own kr) 0) (.int .u64 (u : Int)) (.int .i64 (i : Int)) h) (fun w g => w = .int .i64 (unzig u) ∧ g = h.set kr ⟨[v', .bool false], true⟩)) ∧ ByS I hb v' (bs.drop (i + 1)) := by
  obtain ⟨v, hk, bv⟩ := R.at_
  obtain ⟨v', hv', bv'⟩ := bv.from (i := i + 1) (by omega) (by omega)
  have hwi := wrap_in (n := (i : Int) + 1) ⟨by omega, by omega⟩
  have o1 := bv'.one
  have hodd := u_odd hu
  have hsh := u_shr1 (u := u)
  refine ⟨v', fun n => ?_, bv'⟩
  simp only [Int.natCast_add, Int.natCast_one] at hv'
  rw [f43.n5]; unfold f43.b5
  by_cases hp : u % 2 = 1
  · have hz : unzig u = -((u / 2 : Nat) : Int) - 1 := by unfold unzig; rw [if_pos hp]
    have hx := u_not (b := u / 2) (by omega)
    have ht : pToInt .i64 (.int .u64 ((18446744073709551615 - u / 2 : Nat) : Int)) = some (.int .i64 (unzig u)) := by
      show some (AVal.int .i64 (IntKind.i64.wrap ((18446744073709551615 - u / 2 : Nat) : Int))) = _
      rw [hz]
      congr 2
      simp only [IntKind.wrap, IntKind.bits, IntKind.signed]; simp; omega
    rw [hp] at hodd
    generalize unzig u = z at *
    generalize 18446744073709551615 - u / 2 = y at *
    generalize u / 2 = d at *
    clear hz
    simp (disch := first | exact D.go | fail) [setR, List.getElem?_cons_zero, List.getElem?_cons_succ, hk, hwi, hv', o1.1, o1.2, hodd, hsh, hx, ht]
  · have hp0 : u % 2 = 0 := by omega
    have hz : unzig u = ((u / 2 : Nat) : Int) := by unfold unzig; rw [if_neg hp]
    have ht : pToInt .i64 (.int .u64 ((u / 2 : Nat) : Int)) = some (.int .i64 (unzig u)) := by
      show some (AVal.int .i64 (IntKind.i64.wrap ((u / 2 : Nat) : Int))) = _
      rw [hz, wrap_in ⟨by omega, by omega⟩]
    rw [hp0] at hodd
    generalize unzig u = z at *
    generalize u / 2 = d at *
    clear hz
    simp (disch := first | exact D.go | fail) [setR, List.getElem?_cons_zero, List.getElem?_cons_succ, hk, hwi, hv', o1.1, o1.2, hodd, hsh, ht, f43.n6, f43.b6]
theorem rLoop {hb h : AHeap} {kr : Nat} {bs : List Nat} (R : RdAt I hb h kr bs) {u : Nat} (hu : u < 18446744073709551616) {pv : AVal} {m : Nat} (bp : ByS I hb pv (bs.take m)) (hm : m ≤ bs.length) (rest : List Nat) (hbs : bs = varint u ++ rest) (hk : (varint u).length ≤ m) (h10 : (varint u).length ≤ 10) :
    ∃ v', ByS I hb v' rest ∧ ∀ (d i : Nat), i + d + 1 = (varint u).length → varint (u / 2 ^ (7 * i)) = (varint u).drop i → (i = 0 ∨ 0 < u / 2 ^ (7 * i)) →
      ∀ N, 4 * d + 6 ≤ N → Res ((f43.J I (AM.lim ⟨P, I, genF P Sh.prims⟩) (N)).1.2.1 (.ptr (.own kr) 0) (.int .u64 ((u % 2 ^ (7 * i) : Nat) : Int)) pv (.int .i64 (m : Int)) (.int .i64 (i : Int)) h) (fun w g => w = .int .i64 (unzig u) ∧ g = h.set kr ⟨[v', .bool false], true⟩) := by
  have hkp : 0 < (varint u).length := List.length_pos_iff.2 (varint_ne u)
  obtain ⟨v', hend, bv'⟩ := rEnd (I := I) R hu (i := (varint u).length - 1) (by rw [hbs, List.length_append]; omega) (by omega)
  rw [show (varint u).length - 1 + 1 = (varint u).length by omega, hbs, List.drop_left] at bv'
  refine ⟨v', bv', ?_⟩
  generalize hQ : (fun (w : AVal) (g : AHeap) => w = .int .i64 (unzig u) ∧ g = h.set kr ⟨[v', .bool false], true⟩) = Q at hend ⊢
  clear hQ
  intro d
  induction d with
  | zero =>
    intro i hi hv hpos N hN
    obtain ⟨n, rfl⟩ : ∃ n, N = n + 5 := ⟨N - 5, by omega⟩
    have hpw : 0 < 2 ^ (7 * i) := Nat.pow_pos (by omega)
    have hdm := Nat.div_add_mod u (2 ^ (7 * i))
    have hml := Nat.mod_lt u hpw
    have hw : u / 2 ^ (7 * i) < 128 := by
      rcases Nat.lt_or_ge (u / 2 ^ (7 * i)) 128 with h | h
      · exact h
      · exfalso
        rw [varint_big (by omega)] at hv
        have h1 := congrArg List.length hv
        simp only [List.length_cons, List.length_drop] at h1
        have := List.length_pos_iff.2 (varint_ne (u / 2 ^ (7 * i) / 128))
        omega
    rw [varint_small hw] at hv
    have hci : (varint u)[i]? = some (u / 2 ^ (7 * i)) := by
      have := congrArg (fun l : List Nat => l[0]?) hv
      simp only [List.getElem?_drop, Nat.add_zero] at this
      exact this.symm
    have hbi : (bs.take m)[i]? = some (u / 2 ^ (7 * i)) := by
      rw [List.getElem?_take_of_lt (by omega), hbs, List.getElem?_append_left (by omega)]
      exact hci
    obtain ⟨hc, l, o, hidx, hrd⟩ := bp.at_ hbi
    have hrd := hrd h R.ext
    have hlt : (i : Int) < m := by omega
    have ha := u_and hc
    have hb8 := b_u64 (x := u / 2 ^ (7 * i) % 128) (by omega)
    rw [Nat.mod_eq_of_lt hw] at ha hb8
    have hmul : u / 2 ^ (7 * i) * 2 ^ (7 * i) ≤ u := Nat.div_mul_le_self u _
    have hs := u_shl (x := u / 2 ^ (7 * i)) (i := i) (by omega) (by omega)
    have heq : u / 2 ^ (7 * i) * 2 ^ (7 * i) + u % 2 ^ (7 * i) = u := by rw [Nat.mul_comm]; exact hdm
    have ho := u_or64 (a := u % 2 ^ (7 * i)) (b := u / 2 ^ (7 * i)) (i := i) hml (by omega)
    rw [heq] at ho
    have h7 : ((7 * i : Nat) : Int) = 7 * (i : Int) := by omega
    rw [h7] at hs
    have hw7 := wrap_in (n := 7 * (i : Int)) ⟨by omega, by omega⟩
    have hge : ¬ (127 : Int) < ((u / 2 ^ (7 * i) : Nat) : Int) := by omega
    have h9 : i = 9 → u / 2 ^ (7 * i) ≤ 1 := by
      rintro rfl
      have : u / 2 ^ (7 * 9) < 2 := Nat.div_lt_of_lt_mul (by omega)
      omega
    have hie : (varint u).length - 1 = i := by omega
    have hfin := hend (n + 0)
    rw [hie] at hfin
    generalize hWW : u / 2 ^ (7 * i) = w at *
    generalize w * 2 ^ (7 * i) = y at *
    generalize u % 2 ^ (7 * i) = z at *
    clear hend hdm hv hci hbi bv' hbs
    rw [f43.n1]; unfold f43.b1
    by_cases hi0 : i = 0
    · have n0 : ¬ (0 : Int) < (i : Int) := by omega
      have n0' : ¬ 0 < i := by omega
      have n9 : ¬ (i : Int) = 9 := by omega
      simp (disch := first | exact D.go | fail) [setR, List.getElem?_cons_zero, List.getElem?_cons_succ, hlt, f43.n2, f43.b2, hidx, hrd, ha, hb8, hw7, hs, ho, hge, f43.n4, f43.b4, n0, n0', n9]
      exact hfin
    · have hwp : 0 < w := by rcases hpos with h | h; exact absurd h hi0; exact h
      have n0 : (0 : Int) < (i : Int) := by omega
      have n0' : 0 < i := by omega
      have n1 : ¬ (w : Int) = 0 := by omega
      have n1' : ¬ w = 0 := by omega
      by_cases hi9 : i = 9
      · have n9 : dc ((i : Int) = 9) = true := dc_of (by omega)
        have n2 : ¬ (1 : Int) < (w : Int) := by have := h9 hi9; omega
        have n2' : ¬ 1 < w := by have := h9 hi9; omega
        simp (disch := first | exact D.go | fail) [setR, List.getElem?_cons_zero, List.getElem?_cons_succ, hlt, f43.n2, f43.b2, hidx, hrd, ha, hb8, hw7, hs, ho, hge, f43.n4, f43.b4, n0, n0', n1, n1', n9, n2, n2']
        exact hfin
      · have n9 : ¬ (i : Int) = 9 := by omega
        simp (disch := first | exact D.go | fail) [setR, List.getElem?_cons_zero, List.getElem?_cons_succ, hlt, f43.n2, f43.b2, hidx, hrd, ha, hb8, hw7, hs, ho, hge, f43.n4, f43.b4, n0, n0', n1, n1', n9]
        exact hfin
  | succ d ih =>
    intro i hi hv hpos N hN
    obtain ⟨n, rfl⟩ : ∃ n, N = n + 4 := ⟨N - 4, by omega⟩
    have hpw : 0 < 2 ^ (7 * i) := Nat.pow_pos (by omega)
    have hml := Nat.mod_lt u hpw
    have hw : ¬ u / 2 ^ (7 * i) < 128 := by
      intro h
      rw [varint_small h] at hv
      have h1 := congrArg List.length hv
      simp only [List.length_cons, List.length_nil, List.length_drop] at h1
      omega
    rw [varint_big hw] at hv
    have hp7 : 2 ^ (7 * (i + 1)) = 2 ^ (7 * i) * 128 := by rw [show 7 * (i + 1) = 7 * i + 7 by omega, Nat.pow_add]
    have hnext : u / 2 ^ (7 * (i + 1)) = u / 2 ^ (7 * i) / 128 := by rw [hp7, Nat.div_div_eq_div_mul]
    have hmod : u % 2 ^ (7 * (i + 1)) = u / 2 ^ (7 * i) % 128 * 2 ^ (7 * i) + u % 2 ^ (7 * i) := by
      rw [hp7, Nat.mod_mul, Nat.mul_comm (2 ^ (7 * i)) (u / 2 ^ (7 * i) % 128), Nat.add_comm]
    have hci : (varint u)[i]? = some (u / 2 ^ (7 * i) % 128 + 128) := by
      have := congrArg (fun l : List Nat => l[0]?) hv
      simp only [List.getElem?_drop, Nat.add_zero] at this
      exact this.symm
    have hv2 : varint (u / 2 ^ (7 * i) / 128) = (varint u).drop (i + 1) := by
      have := congrArg (fun l : List Nat => l.drop 1) hv
      simpa [List.drop_drop] using this
    have hbi : (bs.take m)[i]? = some (u / 2 ^ (7 * i) % 128 + 128) := by
      rw [List.getElem?_take_of_lt (by omega), hbs, List.getElem?_append_left (by omega)]
      exact hci
    obtain ⟨hc, l, o, hidx, hrd⟩ := bp.at_ hbi
    have hrd := hrd h R.ext
    have hlt : (i : Int) < m := by omega
    have ha := u_and hc
    have hmm : (u / 2 ^ (7 * i) % 128 + 128) % 128 = u / 2 ^ (7 * i) % 128 := by omega
    rw [hmm] at ha
    have hb8 := b_u64 (x := u / 2 ^ (7 * i) % 128) (by omega)
    have hle : u % 2 ^ (7 * (i + 1)) ≤ u := Nat.mod_le _ _
    have hs := u_shl (x := u / 2 ^ (7 * i) % 128) (i := i) (by omega) (by omega)
    have ho := u_or64 (a := u % 2 ^ (7 * i)) (b := u / 2 ^ (7 * i) % 128) (i := i) hml (by omega)
    rw [← hmod] at ho
    have h7 : ((7 * i : Nat) : Int) = 7 * (i : Int) := by omega
    rw [h7] at hs
    have hw7 := wrap_in (n := 7 * (i : Int)) ⟨by omega, by omega⟩
    have hge : (127 : Int) < ((u / 2 ^ (7 * i) % 128 + 128 : Nat) : Int) := by omega
    have hwi := wrap_in (n := (i : Int) + 1) ⟨by omega, by omega⟩
    have hfin := ih (i + 1) (by omega) (by rw [hnext]; exact hv2) (.inr (by rw [hnext]; omega)) (n + 1) (by omega)
    simp only [Int.natCast_add, Int.natCast_one] at hfin
    generalize u / 2 ^ (7 * i) % 128 * 2 ^ (7 * i) = y at *
    generalize u % 2 ^ (7 * i) = z at *
    generalize u % 2 ^ (7 * (i + 1)) = z2 at *
    generalize u / 2 ^ (7 * i) % 128 + 128 = c at *
    generalize u / 2 ^ (7 * i) % 128 = c7 at *
    clear hend hv hv2 hci hbi bv' hbs ih hnext hmod
    rw [f43.n1]; unfold f43.b1
    simp (disch := first | exact D.go | fail) [setR, List.getElem?_cons_zero, List.getElem?_cons_succ, hlt, f43.n2, f43.b2, hidx, hrd, ha, hb8, hw7, hs, ho, hge, f43.n3, f43.b3, hwi]
    exact hfin
/-- A number is read. -/
theorem rNumR {hb h : AHeap} {kr : Nat} {n : Int} (hn : InR n) {rest : List Nat} (R : RdAt I hb h kr (numB n ++ rest)) : ∃ v', (AM.lim ⟨P, I, genF P Sh.prims⟩) 43 [.ptr (.own kr) 0] h = some (.int .i64 n, h.set kr ⟨[v', .bool false], true⟩) ∧ RdAt I hb (h.set kr ⟨[v', .bool false], true⟩) kr rest := by
  obtain ⟨v, hk, bv⟩ := R.at_
  have hl := numB_len hn
  have hlv := bv.len
  obtain ⟨m, hm⟩ : ∃ m, m = min (numB n ++ rest).length 10 := ⟨_, rfl⟩
  obtain ⟨pv, hpv, bp⟩ := bv.to (m := m) (by omega)
  have hlp := bp.len
  have hlm : ((numB n ++ rest).take m).length = m := by rw [List.length_take]; omega
  rw [hlm] at hlp
  have hkm : (numB n).length ≤ m := by rw [hm, List.length_append]; omega
  obtain ⟨v', bv', hrun⟩ := rLoop (I := I) R (zig_lt hn) bp (by omega) rest rfl hkm hl
  refine ⟨v', ?_, R.lo, by simp; exact R.hi, R.ext.set (Nb.o R.lo), v', AHeap.set_at (Nb.o rfl), bv'⟩
  have hkp : 0 < (varint (zig n)).length := List.length_pos_iff.2 (varint_ne _)
  have h0 := hrun ((varint (zig n)).length - 1) 0 (by omega) (by simp) (.inl rfl) 60 (by unfold numB at hl; omega)
  rw [unzig_zig hn] at h0
  have hmz : zig n % 2 ^ (7 * 0) = 0 := by simp [Nat.mod_one]
  rw [hmz] at h0
  have hmin0 : ∀ len : Nat, pMinmax false [.int .i64 (len : Int), Z 10] = some (.int .i64 ((min len 10 : Nat) : Int)) := by
    intro len
    by_cases hc : len ≤ 10
    · simp [pMinmax, minInts, Nat.min_eq_left hc]
      intro h; omega
    · simp [pMinmax, minInts, Nat.min_eq_right (by omega : 10 ≤ len)]
      intro h; omega
  have hmin := hmin0 (numB n ++ rest).length
  rw [← hm] at hmin
  refine Res.eq (f43.lim rfl (n := 60) ?_)
  unfold f43.e
  generalize hL : (((numB n ++ rest).length : Nat) : Int) = L at *
  clear hL hrun bv bp R
  simp (disch := first | exact D.go | fail) [setR, List.getElem?_cons_zero, List.getElem?_cons_succ, hk, hlv, hmin, hpv, hlp]
  exact h0
end
end
end Go.Proofs.YtncjcnipagdmlaaDoor.Tx

set_option linter.unusedSimpArgs false
set_option linter.unusedVariables false
namespace Go.Proofs.YtncjcnipagdmlaaDoor.Tx
noncomputable section
open Go.AM Go.Proofs.YtncjcnipagdmlaaDoor.Sf
section
variable {I : Inp} {h0 : AHeap}
theorem rSize {hb h : AHeap} {kr : Nat} {n : Nat} {bs : List Nat} (hn : n ≤ 1000000000) (R : RdAt I hb h kr (numB (n : Int) ++ bs)) (hl : n ≤ bs.length) : ∃ v', (AM.lim ⟨P, I, genF P Sh.prims⟩) 39 [.ptr (.own kr) 0] h = some (.int .i64 (n : Int), h.set kr ⟨[v', .bool false], true⟩) ∧ RdAt I hb (h.set kr ⟨[v', .bool false], true⟩) kr bs := by
  obtain ⟨v', c1, R'⟩ := rNumR (I := I) (n := (n : Int)) ⟨by omega, by omega⟩ R
  refine ⟨v', ?_, R'⟩
  obtain ⟨v2, hk, bv⟩ := R'.at_
  have hv : v2 = v' := by rw [AHeap.set_at (Nb.o rfl)] at hk; cases hk; rfl
  subst hv
  have hl' := bv.len
  have n0 : ¬ (n : Int) < 0 := by omega
  have n1 : ¬ (bs.length : Int) < (n : Int) := by omega
  have n1' : ¬ bs.length < n := by omega
  refine Res.eq (f39.lim rfl (n := 2) ?_)
  unfold f39.e
  generalize hH : h.set kr ⟨[v2, .bool false], true⟩ = H at *
  clear R R' bv
  simp (disch := first | exact D.go | fail) [setR, List.getElem?_cons_zero, List.getElem?_cons_succ, c1, n0, n1, n1', hk, hl', f39.n0, f39.b0]
def nF (n : Int) : List AVal := [.int .i64 n]
theorem nFix : Fix nF 1 := ⟨fun _ => rfl, fun _ => rfl, by omega⟩
/-- What the reader's work leaves as it was. -/
def RKeep (kr : Nat) (h g : AHeap) : Prop := h.next ≤ g.next ∧ ∀ m, m < h.next → m ≠ kr → g.get m = h.get m
theorem RKeep.refl (kr : Nat) (h : AHeap) : RKeep kr h h := ⟨Nat.le_refl _, fun _ _ _ => rfl⟩
theorem RKeep.trans {kr : Nat} {a b c : AHeap} (x : RKeep kr a b) (y : RKeep kr b c) : RKeep kr a c :=
  ⟨Nat.le_trans x.1 y.1, fun m hm hne => (y.2 m (Nat.lt_of_lt_of_le hm x.1) hne).trans (x.2 m hm hne)⟩
theorem RKeep.set (kr : Nat) (h : AHeap) (b : Blk) : RKeep kr h (h.set kr b) := ⟨Nat.le_refl _, fun m _ hne => AHeap.set_ne (Nb.o hne)⟩
theorem rNumsL {hb h00 : AHeap} {kr : Nat} (rest : List Nat) (hr0 : kr < h00.next) : ∀ (xs acc : List Int) (w : AVal) (h : AHeap), (∀ x ∈ xs, InR x) → RdAt I hb h kr (xs.flatMap numB ++ rest) → Own nF 1 hb h w acc → (∀ m, m < h00.next → NotB w m) → RKeep kr h00 h → acc.length + xs.length ≤ 1000000 →
    ∀ N, 4 * xs.length + 4 ≤ N → Res ((f42.J I (AM.lim ⟨P, I, genF P Sh.prims⟩) (N)).1.2 (.ptr (.own kr) 0) w (.int .i64 (xs.length : Int)) h) fun u g => Own nF 1 hb g u (acc ++ xs) ∧ RdAt I hb g kr rest ∧ RKeep kr h00 g ∧ ∀ m, m < h00.next → NotB u m := by
  intro xs
  induction xs with
  | nil =>
    intro acc w h _ R o nb K hl N hN
    obtain ⟨n, rfl⟩ : ∃ n, N = n + 2 := ⟨N - 2, by omega⟩
    have hfin : Own nF 1 hb h w (acc ++ []) ∧ RdAt I hb h kr rest ∧ RKeep kr h00 h ∧ ∀ m, m < h00.next → NotB w m := ⟨by rw [List.append_nil]; exact o, R, K, nb⟩
    generalize hQ : (fun (u : AVal) (g : AHeap) => Own nF 1 hb g u (acc ++ []) ∧ RdAt I hb g kr rest ∧ RKeep kr h00 g ∧ ∀ m, m < h00.next → NotB u m) = Q
    have hq : Q w h := by rw [← hQ]; exact hfin
    clear hQ hfin R o K
    rw [f42.n1]; unfold f42.b1
    simp (disch := first | exact D.go | fail) [setR, List.getElem?_cons_zero, List.getElem?_cons_succ, f42.n0, f42.b0]
    exact hq
  | cons x xs ih =>
    intro acc w h hx R o nb K hl N hN
    simp only [List.length_cons] at hN hl
    obtain ⟨n, rfl⟩ : ∃ n, N = n + 4 := ⟨N - 4, by omega⟩
    obtain ⟨v0, hk0, _⟩ := R.at_
    rw [List.flatMap_cons, List.append_assoc] at R
    obtain ⟨v', c1, R'⟩ := rNumR (I := I) (hx x (by simp)) R
    obtain ⟨H, hH⟩ : ∃ H, H = h.set kr ⟨[v', .bool false], true⟩ := ⟨_, rfl⟩
    rw [← hH] at c1 R'
    have o' : Own nF 1 hb H w acc := by rw [hH]; exact o.setB (nb kr hr0)
    have hHn : H.next = h.next := by rw [hH]; simp
    obtain ⟨u, g, e1, o1, x1, k1, k2⟩ := app_own (I := I) (f := nF) nFix (o'.mono (Ext.refl H).alloc) R'.ext.alloc x (bytes := 8) (by omega) (by omega) (kw := H.next) (c := .known 1) (AHeap.alloc_at (Nb.o rfl))
    simp only [AHeap.next_alloc] at k1 k2
    have hKlo := K.1
    have hkr : kr < h00.next := hr0
    have keep : ∀ m, m < h00.next → g.get m = H.get m ∧ NotB u m := fun m hm => by
      obtain ⟨p1, p2⟩ := k2 m (nb m hm) (by omega)
      exact ⟨p1.trans (by rw [AHeap.alloc_ne (Nb.o (by omega))]), p2⟩
    have Rg : RdAt I hb g kr (xs.flatMap numB ++ rest) := by
      obtain ⟨v2, hk2, bv2⟩ := R'.at_
      exact ⟨R'.lo, by omega, x1, v2, (keep kr hkr).1.trans hk2, bv2⟩
    have Kg : RKeep kr h00 g := ⟨by omega, fun m hm hne => (keep m hm).1.trans (by rw [hH, AHeap.set_ne (Nb.o hne)]; exact K.2 m hm hne)⟩
    have hi2 := ih (acc ++ [x]) u g (fun y hy => hx y (by simp [hy])) Rg o1 (fun m hm => (keep m hm).2) Kg (by simp only [List.length_append, List.length_cons, List.length_nil]; omega) (n + 1) (by omega)
    simp only [List.append_assoc, List.singleton_append] at hi2
    have hw : IntKind.i64.wrap (((xs.length + 1 : Nat) : Int) - 1) = (xs.length : Int) := by rw [wrap_in ⟨by omega, by omega⟩]; omega
    have hpos : (0 : Int) < ((xs.length + 1 : Nat) : Int) := by omega
    have e1' : sAppend I 1 8 w (.sl (.own H.next) 0 1 (.known 1)) (H.alloc ⟨[.int .i64 x], true⟩) = some (u, g) := e1
    rw [List.length_cons]
    generalize ((xs.length + 1 : Nat) : Int) = L at *
    generalize hQ : (fun (u : AVal) (g : AHeap) => Own nF 1 hb g u (acc ++ x :: xs) ∧ RdAt I hb g kr rest ∧ RKeep kr h00 g ∧ ∀ m, m < h00.next → NotB u m) = Q at *
    clear hQ ih R R' Rg Kg o o' o1 K e1
    rw [f42.n1]; unfold f42.b1
    simp (disch := first | exact D.go | fail) [setR, List.getElem?_cons_zero, List.getElem?_cons_succ, hpos, hk0, f42.n2, f42.b2, c1, e1', f42.n3, f42.b3, hw]
    exact hi2
theorem flat_len (xs : List Int) : xs.length ≤ (xs.flatMap numB).length := by
  induction xs with
  | nil => simp
  | cons x xs ih =>
    have : 0 < (numB x).length := List.length_pos_iff.2 (varint_ne (zig x))
    simp only [List.flatMap_cons, List.length_append, List.length_cons]
    omega
/-- A list of numbers is read. -/
theorem rNumsR {hb h : AHeap} {kr : Nat} {xs : List Int} {rest : List Nat} (hx : ∀ x ∈ xs, InR x) (hl : xs.length ≤ 1000000) (R : RdAt I hb h kr (numsB xs ++ rest)) : Res ((AM.lim ⟨P, I, genF P Sh.prims⟩) 42 [.ptr (.own kr) 0] h) fun u g => Own nF 1 hb g u xs ∧ RdAt I hb g kr rest ∧ RKeep kr h g ∧ ∀ m, m < h.next → NotB u m := by
  unfold numsB at R
  rw [List.append_assoc] at R
  obtain ⟨v', c1, R'⟩ := rSize (I := I) (n := xs.length) (by omega) R (by have := flat_len xs; rw [List.length_append]; omega)
  have h1 := rNumsL (I := I) (h00 := h) rest R.hi xs [] .nils _ hx R' Own.nil (fun m _ k o n c e => by cases e) (RKeep.set kr h _) (by simpa using hl) (4 * xs.length + 4) (Nat.le_refl _)
  rw [List.nil_append] at h1
  refine f42.lim rfl (n := 4 * xs.length + 4) ?_
  unfold f42.e
  generalize hQ : (fun (u : AVal) (g : AHeap) => Own nF 1 hb g u xs ∧ RdAt I hb g kr rest ∧ RKeep kr h g ∧ ∀ m, m < h.next → NotB u m) = Q at *
  clear hQ R R'
  simp (disch := first | exact D.go | fail) [setR, List.getElem?_cons_zero, List.getElem?_cons_succ, c1]
  exact h1
end
end
end Go.Proofs.YtncjcnipagdmlaaDoor.Tx

set_option linter.unusedSimpArgs false
set_option linter.unusedVariables false
namespace Go.Proofs.YtncjcnipagdmlaaDoor.Tx
noncomputable section
open Go.AM Go.Proofs.YtncjcnipagdmlaaDoor.Sf
section
variable {I : Inp} {h0 : AHeap}
/-! a program of one interface alone, read -/
theorem own_nums {hb g : AHeap} {v : AVal} {xs : List Int} (o : Own nF 1 hb g v xs) (hr : ∀ x ∈ xs, InR x) (hl : xs.length ≤ 9223372036854775807) : SlOf 1 (IntA I g) v xs := by
  rcases o with ⟨rfl, rfl⟩ | ⟨k, rfl, hk, h1, h2, h3⟩
  · exact SlOf.nil
  · have e : ∀ l : List Int, l.flatMap nF = l.map fun n => AVal.int .i64 n := by
      intro l; induction l with
      | nil => rfl
      | cons a t ih => rw [List.flatMap_cons, ih]; rfl
    rw [e] at hk
    exact ints_new hk h2 (fun m hm => by simp [capHas]; simpa using hm) hl h3 hr
theorem tProg {hb h : AHeap} {kr : Nat} {xs : List Int} (hx : ∀ x ∈ xs, InR x) (hl : xs.length ≤ 1000000) (R : RdAt I hb h kr (faceB xs)) : Res ((AM.lim ⟨P, I, genF P Sh.prims⟩) 26 [.ptr (.own kr) 0] h) fun u g => ∃ kp, u = .ptr (.own kp) 0 ∧ FaceAt I g kp xs ∧ RdAt I hb g kr [] ∧ RKeep kr h g := by
  -- the program's own block
  obtain ⟨H, hH⟩ : ∃ H, H = h.alloc ⟨[.nils, .nils, .nils, .nils, .nils, Z 0], true⟩ := ⟨_, rfl⟩
  have xH : Ext h H := by rw [hH]; exact (Ext.refl h).alloc
  have hHn : H.next = h.next + 1 := by rw [hH]; simp
  have hHk : H.get h.next = some ⟨[.nils, .nils, .nils, .nils, .nils, Z 0], true⟩ := by rw [hH]; exact AHeap.alloc_at (Nb.o rfl)
  have hkr := R.hi
  have R0 : RdAt I hb H kr (faceB xs) := by
    obtain ⟨v, hk, bv⟩ := R.at_
    exact ⟨R.lo, by omega, R.ext.trans xH, v, (xH.same _ hkr).trans hk, bv⟩
  have hlN : xs.length ≤ (numsB xs).length := by
    have := flat_len xs
    unfold numsB
    rw [List.length_append]; omega
  unfold faceB at R0
  obtain ⟨v1, c1, R1⟩ := rSize (I := I) (n := 0) (by omega) R0 (by omega)
  obtain ⟨g1, hg1⟩ : ∃ g1, g1 = H.set kr ⟨[v1, .bool false], true⟩ := ⟨_, rfl⟩
  rw [← hg1] at c1 R1
  have K1 : RKeep kr H g1 := by rw [hg1]; exact RKeep.set kr H _
  obtain ⟨v2, c2, R2⟩ := rSize (I := I) (n := 0) (by omega) R1 (by omega)
  obtain ⟨g2, hg2⟩ : ∃ g2, g2 = g1.set kr ⟨[v2, .bool false], true⟩ := ⟨_, rfl⟩
  rw [← hg2] at c2 R2
  have K2 : RKeep kr g1 g2 := by rw [hg2]; exact RKeep.set kr g1 _
  obtain ⟨v3, c3, R3⟩ := rSize (I := I) (n := 1) (by omega) R2 (by simp only [List.length_append, numB0, List.length_cons]; omega)
  obtain ⟨g3, hg3⟩ : ∃ g3, g3 = g2.set kr ⟨[v3, .bool false], true⟩ := ⟨_, rfl⟩
  rw [← hg3] at c3 R3
  have K3 : RKeep kr g2 g3 := by rw [hg3]; exact RKeep.set kr g2 _
  obtain ⟨w, g4, c4, o4, R4, K4, nb4⟩ := rNumsR (I := I) hx hl R3
  -- the one interface, appended
  have p4 := (K4.2 h.next (by have := K1.1; have := K2.1; have := K3.1; omega) (by omega)).trans ((K3.2 h.next (by have := K1.1; have := K2.1; omega) (by omega)).trans ((K2.2 h.next (by have := K1.1; omega) (by omega)).trans ((K1.2 h.next (by omega) (by omega)).trans hHk)))
  have p3 := ((K3.2 h.next (by have := K1.1; have := K2.1; omega) (by omega)).trans ((K2.2 h.next (by have := K1.1; omega) (by omega)).trans ((K1.2 h.next (by omega) (by omega)).trans hHk)))
  have n4 : h.next < g4.next := by have := K1.1; have := K2.1; have := K3.1; have := K4.1; omega
  have ow := o4.v1
  have ha := sAppend_nils (I := I) (sz := 1) (bytes := 24) (k := g4.next) (n := 0) (news := [w]) (p := true) (c := .known 1) (h := g4.alloc ⟨[w], true⟩) (AHeap.alloc_at (Nb.o rfl)) rfl (by simp [ow.1]) (by simp [bigRoom])
  obtain ⟨G, hG⟩ : ∃ G, G = ((g4.alloc ⟨[w], true⟩).alloc ⟨[w], true⟩).set h.next ⟨[.nils, .nils, .sl (.own (g4.next + 1)) 0 1 (.grown 1), .nils, .nils, Z 0], true⟩ := ⟨_, rfl⟩
  have KG : ∀ m, m < g4.next → m ≠ h.next → G.get m = g4.get m := fun m hm hne => by rw [hG, AHeap.set_ne (Nb.o hne), AHeap.alloc_ne (Nb.o (by simp; omega)), AHeap.alloc_ne (Nb.o (by omega))]
  have hGn : G.next = g4.next + 2 := by rw [hG]; simp
  have hGp : G.get h.next = some ⟨[.nils, .nils, .sl (.own (g4.next + 1)) 0 1 (.grown 1), .nils, .nils, Z 0], true⟩ := by rw [hG]; exact AHeap.set_at (Nb.o rfl)
  have hGi : G.get (g4.next + 1) = some ⟨[w], true⟩ := by rw [hG, AHeap.set_ne (Nb.o (by omega))]; exact AHeap.alloc_at (Nb.o (by simp))
  have n3 : h.next < g3.next := by have := K1.1; have := K2.1; have := K3.1; omega
  have oG : Own nF 1 hb G w xs := by
    rcases o4 with ⟨rfl, rfl⟩ | ⟨k, rfl, hk, h1, h2, h3⟩
    · exact Own.nil
    · exact .inr ⟨k, rfl, (KG k h2 (Ne.symm (nb4 h.next n3 k _ _ _ rfl))).trans hk, h1, by omega, h3⟩
  have kr4 : kr < g4.next := R4.hi
  have krh : kr ≠ h.next := by omega
  have xG : Ext hb G := ⟨by have := R4.ext.lo; omega, fun m hm => by
    have := R4.ext.lo; have := R.ext.lo
    exact (KG m (by omega) (by omega)).trans (R4.ext.same m hm)⟩
  have RG : RdAt I hb G kr (numB ((0 : Nat) : Int) ++ (numB ((0 : Nat) : Int) ++ (numB 0 ++ []))) := by
    obtain ⟨v, hk, bv⟩ := R4.at_
    refine ⟨R.lo, by omega, xG, v, (KG kr kr4 krh).trans hk, ?_⟩
    simpa using bv
  obtain ⟨v5, c5, R5⟩ := rSize (I := I) (n := 0) (by omega) RG (by omega)
  obtain ⟨g5, hg5⟩ : ∃ g5, g5 = G.set kr ⟨[v5, .bool false], true⟩ := ⟨_, rfl⟩
  rw [← hg5] at c5 R5
  have K5 : RKeep kr G g5 := by rw [hg5]; exact RKeep.set kr G _
  obtain ⟨v6, c6, R6⟩ := rSize (I := I) (n := 0) (by omega) R5 (by omega)
  obtain ⟨g6, hg6⟩ : ∃ g6, g6 = g5.set kr ⟨[v6, .bool false], true⟩ := ⟨_, rfl⟩
  rw [← hg6] at c6 R6
  have K6 : RKeep kr g5 g6 := by rw [hg6]; exact RKeep.set kr g5 _
  obtain ⟨v7, c7, R7⟩ := rNumR (I := I) r0 R6
  obtain ⟨g7, hg7⟩ : ∃ g7, g7 = g6.set kr ⟨[v7, .bool false], true⟩ := ⟨_, rfl⟩
  rw [← hg7] at c7 R7
  have K7 : RKeep kr g6 g7 := by rw [hg7]; exact RKeep.set kr g6 _
  have K57 := (K5.trans K6).trans K7
  have p7 := (K57.2 h.next (by omega) (Ne.symm krh)).trans hGp
  obtain ⟨F, hF⟩ : ∃ F, F = g7.set h.next ⟨[.nils, .nils, .sl (.own (g4.next + 1)) 0 1 (.grown 1), .nils, .nils, Z 0], true⟩ := ⟨_, rfl⟩
  have hFn : F.next = g7.next := by rw [hF]; simp
  have KF : ∀ m, m ≠ h.next → F.get m = g7.get m := fun m hne => by rw [hF, AHeap.set_ne (Nb.o hne)]
  have xF : Ext hb F := ⟨by have := R7.ext.lo; omega, fun m hm => by
    have := R.ext.lo
    exact (KF m (by omega)).trans (R7.ext.same m hm)⟩
  have oF : Own nF 1 hb F w xs := by
    rcases oG with ⟨rfl, rfl⟩ | ⟨k, rfl, hk, h1, h2, h3⟩
    · exact Own.nil
    · have hkr' : k ≠ kr := Ne.symm (nb4 kr R3.hi k _ _ _ rfl)
      exact .inr ⟨k, rfl, (KF k (Ne.symm (nb4 h.next n3 k _ _ _ rfl))).trans ((K57.2 k h2 hkr').trans hk), h1, by have := K57.1; omega, h3⟩
  have hfin : ∃ kp, (AVal.ptr (.own h.next) 0) = .ptr (.own kp) 0 ∧ FaceAt I F kp xs ∧ RdAt I hb F kr [] ∧ RKeep kr h F := by
    have := K57.1
    refine ⟨h.next, rfl, ⟨by omega, g4.next + 1, .grown 1, w, by rw [hF]; exact AHeap.set_at (Nb.o rfl), by omega, (KF _ (by omega)).trans ((K57.2 _ (by omega) (by omega)).trans hGi), own_nums oF hx (by omega)⟩, ?_, by have := K1.1; have := K2.1; have := K3.1; have := K4.1; omega, fun m hm hne => ?_⟩
    · obtain ⟨v, hk, bv⟩ := R7.at_
      exact ⟨R.lo, by omega, xF, v, (KF kr krh).trans hk, bv⟩
    · have l1 := K1.1; have l2 := K2.1; have l3 := K3.1; have l4 := K4.1
      rw [KF m (by omega), K57.2 m (by omega) hne, KG m (by omega) (by omega), K4.2 m (by omega) hne, K3.2 m (by omega) hne, K2.2 m (by omega) hne, K1.2 m (by omega) hne]
      exact xH.same m hm
  obtain ⟨b1, q1, _⟩ := R1.at_
  obtain ⟨b2, q2, _⟩ := R2.at_
  obtain ⟨b3, q3, _⟩ := R3.at_
  obtain ⟨b4, q4, _⟩ := R4.at_
  obtain ⟨b5, q5, _⟩ := R5.at_
  obtain ⟨b6, q6, _⟩ := R6.at_
  obtain ⟨bG, qG, _⟩ := RG.at_
  generalize hQ : (fun (u : AVal) (g : AHeap) => ∃ kp, u = .ptr (.own kp) 0 ∧ FaceAt I g kp xs ∧ RdAt I hb g kr [] ∧ RKeep kr h g) = Q
  have hq : Q (.ptr (.own h.next) 0) F := by rw [← hQ]; exact hfin
  have d1 : (AM.lim ⟨P, I, genF P Sh.prims⟩) 39 [.ptr (.own kr) 0] (h.alloc ⟨[.nils, .nils, .nils, .nils, .nils, Z 0], true⟩) = some (.int .i64 0, g1) := by rw [← hH]; exact c1
  have d2 : (AM.lim ⟨P, I, genF P Sh.prims⟩) 39 [.ptr (.own kr) 0] g1 = some (.int .i64 0, g2) := c2
  have d3 : (AM.lim ⟨P, I, genF P Sh.prims⟩) 39 [.ptr (.own kr) 0] g2 = some (.int .i64 1, g3) := c3
  have d5 : (AM.lim ⟨P, I, genF P Sh.prims⟩) 39 [.ptr (.own kr) 0] (((g4.alloc ⟨[w], true⟩).alloc ⟨[w], true⟩).set h.next ⟨[.nils, .nils, .sl (.own (g4.next + 1)) 0 1 (.grown 1), .nils, .nils, Z 0], true⟩) = some (.int .i64 0, g5) := by rw [← hG]; exact c5
  have d6 : (AM.lim ⟨P, I, genF P Sh.prims⟩) 39 [.ptr (.own kr) 0] g5 = some (.int .i64 0, g6) := c6
  have d7 : (AM.lim ⟨P, I, genF P Sh.prims⟩) 43 [.ptr (.own kr) 0] g6 = some (.int .i64 0, g7) := c7
  have qG' : (((g4.alloc ⟨[w], true⟩).alloc ⟨[w], true⟩).set h.next ⟨[.nils, .nils, .sl (.own (g4.next + 1)) 0 1 (.grown 1), .nils, .nils, Z 0], true⟩).get kr = some ⟨[bG, .bool false], true⟩ := by rw [← hG]; exact qG
  have w0 : IntKind.i64.wrap (1 - 1) = 0 := wrap_in r0
  have w0' : IntKind.i64.wrap 0 = 0 := wrap_in r0
  rw [hF] at hq
  refine f26.lim rfl (n := 14) ?_
  unfold f26.e
  clear hQ hfin R R0 R1 R2 R3 R4 R5 R6 R7 RG K1 K2 K3 K4 K5 K6 K7 K57 KF KG oF oG o4 nb4 xF xG hF hFn hG hGn hGp hGi c1 c2 c3 c5 c6 c7 hg1 hg2 hg3 hg5 hg6 hg7 xH hHk hHn hH
  simp (disch := first | exact D.go | fail) [setR, List.getElem?_cons_zero, List.getElem?_cons_succ, f26.n0, f26.b0, f26.n1, f26.b1, f26.n2, f26.b2, f26.n3, f26.b3, f26.n4, f26.b4, f26.n5, f26.b5, f26.n6, f26.b6, f26.n7, f26.b7, f26.n8, f26.b8, f26.n9, f26.b9, f26.n10, f26.b10, f26.n11, f26.b11, f26.n12, f26.b12, f26.n13, f26.b13, f26.n14, f26.b14, f26.n15, f26.b15, f26.n16, f26.b16, f26.n17, f26.b17, f26.n18, f26.b18, f26.n19, f26.b19, d1, d2, d3, c4, d5, d6, d7, q1, q2, q3, q4, q5, q6, qG', p3, p4, p7, ow.1, ow.2, ha, w0, w0']
  exact hq
end
end
end Go.Proofs.YtncjcnipagdmlaaDoor.Tx

set_option linter.unusedSimpArgs false
set_option linter.unusedVariables false
namespace Go.Proofs.YtncjcnipagdmlaaDoor.Tx
noncomputable section
open Go.AM Go.Proofs.YtncjcnipagdmlaaDoor.Sf
section
variable {I : Inp} {h0 : AHeap}
/-! Encode and Decode of a program of one interface -/
theorem varint_lt : ∀ (u : Nat), ∀ x ∈ varint u, x < 256 := by
  intro u
  induction u using Nat.strongRecOn with
  | _ u ih =>
    intro x hx
    by_cases h : u < 128
    · rw [varint_small h] at hx; simp at hx; omega
    · rw [varint_big h] at hx
      rcases List.mem_cons.1 hx with rfl | hx
      · omega
      · exact ih (u / 128) (by omega) x hx
theorem numsB_lt (xs : List Int) : ∀ x ∈ numsB xs, x < 256 := by
  intro x hx
  unfold numsB at hx
  rcases List.mem_append.1 hx with h | h
  · exact varint_lt _ x h
  · obtain ⟨a, _, ha⟩ := List.mem_flatMap.1 h
    exact varint_lt _ x ha
theorem faceB_lt (xs : List Int) : ∀ x ∈ faceB xs, x < 256 := by
  intro x hx
  unfold faceB at hx
  simp only [List.mem_append] at hx
  rcases hx with h | h | h | h | h | h | h
  all_goals first | exact varint_lt _ x h | exact numsB_lt xs x h
theorem faceB_len {xs : List Int} (hr : ∀ x ∈ xs, InR x) (hm : xs.length ≤ 1048576) : (faceB xs).length ≤ 20 + 10 * xs.length ∧ faceB xs ≠ [] := by
  have := numsB_len hr hm
  unfold faceB
  rw [numB0, numB1]
  constructor
  · simp only [List.length_append, List.length_cons, List.length_nil]; omega
  · simp
theorem own_by {hb g : AHeap} {v : AVal} {bs : List Nat} (o : Own byF 1 hb g v bs) (hl : ∀ x ∈ bs, x < 256) (hn : bs.length ≤ 9223372036854775807) : ByS I g v bs := by
  rcases o with ⟨rfl, rfl⟩ | ⟨k, rfl, hk, h1, h2, h3⟩
  · exact .inl ⟨rfl, rfl⟩
  · refine .inr ⟨.own k, 0, .grown 1, rfl, fun m hm => by simp [capHas]; exact hm, hn, fun i x hi => ⟨hl x (List.mem_of_getElem? hi), fun f e => ?_⟩⟩
    have := byFix.get bs i x 0 (.int .u8 (x : Int)) hi rfl
    rw [rd_own', e.same k h2, hk]
    simpa using this
theorem toStr_by {hb : AHeap} {v : AVal} {bs : List Nat} (a : ByS I hb v bs) (hne : bs ≠ []) (g : AHeap) (x : Ext hb g) : pToStr I v g = some (.str bs) := by
  rcases a with ⟨rfl, rfl⟩ | ⟨l, o, cap, rfl, hc, hn, hr⟩
  · exact absurd rfl hne
  · have h1 : AM.rds I g l o (bs.map fun b : Nat => AVal.int .u8 (b : Int)).length = some (bs.map fun b : Nat => AVal.int .u8 (b : Int)) := rds_of (by simpa using hne) fun i v hv => by
      rw [List.getElem?_map, Option.map_eq_some_iff] at hv
      obtain ⟨b, hb, rfl⟩ := hv
      exact (hr i b hb).2 g x
    rw [List.length_map] at h1
    have h2 : ∀ l : List Nat, (∀ x ∈ l, x < 256) → (l.map fun b : Nat => AVal.int .u8 (b : Int)).mapM (m := Option) AM.byteOf = some l := by
      intro l
      induction l with
      | nil => intro _; rfl
      | cons b r ih =>
        intro hb
        have hb1 : Nat.blt b 256 = true := by rw [blt_iff]; simp [hb b (by simp)]
        have hy : AM.byteOf (AVal.int .u8 (Int.ofNat b)) = some b := by simp only [AM.byteOf, hb1]
        rw [List.map_cons, List.mapM_cons, show AM.byteOf (AVal.int .u8 (b : Int)) = some b from hy, ih fun x hx => hb x (by simp [hx])]
        rfl
    have h3 := h2 bs fun y hy => by
      obtain ⟨i, hi⟩ := List.getElem?_of_mem hy
      exact (hr i y hi).1
    simp only [pToStr, rdsK_eq, h1, h3]
theorem tEncode {hb : AHeap} {kp : Nat} {xs : List Int} (a : FaceAt I hb kp xs) (hr : ∀ x ∈ xs, InR x) (hm : xs.length ≤ 100000) (hl : (faceB xs).length ≤ 20000) : ∃ v g, (AM.lim ⟨P, I, genF P Sh.prims⟩) 13 [.ptr (.own kp) 0] hb = some (.tuple [v, .nili], g) ∧ Own byF 1 hb g v (faceB xs) ∧ Ext hb g := by
  obtain ⟨v, g, c1, o, x⟩ := tText (I := I) a hm
  refine ⟨v, g, ?_, o, x⟩
  have hlen := o.len
  have n0 : ¬ (20000 : Int) < ((faceB xs).length : Int) := by omega
  have n1 : ¬ 20000 < (faceB xs).length := by omega
  refine Res.eq (f13.lim rfl (n := 3) ?_)
  unfold f13.e
  generalize faceB xs = bs at *
  simp (disch := first | exact D.go | fail) [setR, List.getElem?_cons_zero, List.getElem?_cons_succ, f13.n0, f13.b0, f13.n1, f13.b1, c1, hlen, n0, n1]
theorem tDecode {hb : AHeap} {v : AVal} {xs : List Int} (bv : ByS I hb v (faceB xs)) (hr : ∀ x ∈ xs, InR x) (hm : xs.length ≤ 100000) (hl : (faceB xs).length ≤ 20000) : ∃ kp g, (AM.lim ⟨P, I, genF P Sh.prims⟩) 15 [v] hb = some (.tuple [.ptr (.own kp) 0, .nili], g) ∧ FaceAt I g kp xs ∧ Ext hb g := by
  obtain ⟨H, hH⟩ : ∃ H, H = hb.alloc ⟨[v, .bool false], true⟩ := ⟨_, rfl⟩
  have xH : Ext hb H := by rw [hH]; exact (Ext.refl hb).alloc
  have hHn : H.next = hb.next + 1 := by rw [hH]; simp
  have hHk : H.get hb.next = some ⟨[v, .bool false], true⟩ := by rw [hH]; exact AHeap.alloc_at (Nb.o rfl)
  have R : RdAt I hb H hb.next (faceB xs) := ⟨Nat.le_refl _, by omega, xH, v, hHk, bv⟩
  obtain ⟨_, g1, c1, kp, rfl, fa, R1, K1⟩ := tProg (I := I) hr (by omega) R
  obtain ⟨b1, q1, bb1⟩ := R1.at_
  have lb1 : pLenSl b1 = some (.int .i64 0) := bb1.len
  obtain ⟨u2, g2, c2, o2, x2⟩ := tText (I := I) fa hm
  obtain ⟨_, hne⟩ := faceB_len hr (by omega)
  have s1 := toStr_by (I := I) (own_by (I := I) o2 (faceB_lt xs) (by omega)) hne g2 (Ext.refl g2)
  have s2 := toStr_by (I := I) bv hne g2 (R1.ext.trans x2)
  refine ⟨kp, g2, ?_, fa.mono x2, R1.ext.trans x2⟩
  have lv := bv.len
  have n0 : ¬ (20000 : Int) < ((faceB xs).length : Int) := by omega
  have n1 : ¬ 20000 < (faceB xs).length := by omega
  have c3 : (AM.lim ⟨P, I, genF P Sh.prims⟩) 27 [u2, v] g2 = some (.bool true, g2) := by
    refine Res.eq (f27.lim rfl (n := 1) ?_)
    unfold f27.e
    generalize faceB xs = bs at *
    have hself : natsEq bs bs = true := natsEq_self _
    have hst : pBin .eql (.str bs) (.str bs) = some (.bool (natsEq bs bs)) := nrfl
    rw [hself] at hst
    simp (disch := first | exact D.go | fail) [setR, List.getElem?_cons_zero, List.getElem?_cons_succ, s1, s2, hst]
  have o1 := bv.one
  have c1' : (AM.lim ⟨P, I, genF P Sh.prims⟩) 26 [.ptr (.own hb.next) 0] (hb.alloc ⟨[v, .bool false], true⟩) = some (.ptr (.own kp) 0, g1) := by rw [← hH]; exact c1
  refine Res.eq (f15.lim rfl (n := 3) ?_)
  unfold f15.e
  generalize faceB xs = bs at *
  clear R R1 K1 fa o2 hH xH hHk
  simp (disch := first | exact D.go | fail) [setR, List.getElem?_cons_zero, List.getElem?_cons_succ, f15.n0, f15.b0, f15.n1, f15.b1, lv, n0, n1, c1', q1, lb1, c2, c3, o1.1, o1.2]
end
end
end Go.Proofs.YtncjcnipagdmlaaDoor.Tx

set_option linter.unusedSimpArgs false
set_option linter.unusedVariables false
namespace Go.Proofs.YtncjcnipagdmlaaDoor.Tx
noncomputable section
open Go.AM Go.Proofs.YtncjcnipagdmlaaDoor.Sf
section
variable {I : Inp} {h0 : AHeap}
theorem takeK {v : AVal} {xs : List Int} (k : Nat) (sv : SlOf 1 (IntA I h0) v xs) (h : k < xs.length) (hk : 0 < k) : ∃ u, pSliceS 1 v none (some (.int .i64 (k : Int))) none = some u ∧ SlOf 1 (IntA I h0) u (xs.take k) := by
  rcases sv with ⟨rfl, rfl⟩ | ⟨l, o, cap, rfl, hc, hn, hx⟩
  · simp at h
  · have hlen : (xs.take k).length = k := by rw [List.length_take]; omega
    refine ⟨.sl l (o + 0 * 1) (k - 0) (capMinus cap 0), ?_, .inr ⟨l, o + 0 * 1, capMinus cap 0, by rw [hlen]; rfl, ?_, ⟨by rw [hlen]; omega, fun h' => by rw [h'] at hlen; simp at hlen; omega⟩, fun i x hi => ?_⟩⟩
    · show (match Nat.ble 0 k && capHas cap 1 xs.length k with
        | true => some (AVal.sl l (o + 0 * 1) (k - 0) (capMinus cap 0))
        | false => none) = _
      rw [Nat.ble_eq_true_of_le (Nat.zero_le _), hc k (by omega)]; rfl
    · rw [hlen]; exact capOk_less hc (by omega)
    · rw [List.getElem?_take] at hi
      split at hi
      · have := hx i x hi
        rw [show o + 0 * 1 + i * 1 = o + i * 1 by omega]; exact this
      · cases hi
theorem ext0 (g : AHeap) : Ext ⟨.nil, 0⟩ g := ⟨Nat.zero_le _, fun k hk => absurd hk (Nat.not_lt_zero k)⟩
/-- What came back is looked at, number by number. -/
theorem nLoop {v : AVal} {xs : List Int} (sv : SlOf 1 (IntA I ⟨.nil, 0⟩) v xs) {g : AHeap} {kp : Nat} (fa : FaceAt I g kp xs) (hl : xs.length ≤ 1000000) : ∃ M, ∀ m, M ≤ m → Res ((f8.J I (AM.lim ⟨P, I, genF P Sh.prims⟩) (m)).2.1.2 v (.ptr (.own kp) 0) (Z 0) g) fun u g => u = .bool true := by
  obtain ⟨ki, cap, w, h1, h2, h3, sw⟩ := fa.at_
  have i0 : pIndexAddr 1 (.sl (.own ki) 0 1 cap) (Z 0) = some (.ptr (.own ki) 0) := rfl
  obtain ⟨M, hM⟩ := Evt.loop xs (F := fun i n => Res ((f8.J I (AM.lim ⟨P, I, genF P Sh.prims⟩) (n)).2.1.2 v (.ptr (.own kp) 0) (.int .i64 (i : Int)) g) fun u g => u = .bool true) 4
    (Evt.all 4 fun n => by
      have hlt : ¬ (xs.length : Int) < xs.length := by omega
      rw [f8.n4]; unfold f8.b4
      simp (disch := first | exact D.go | fail) [setR, List.getElem?_cons_zero, List.getElem?_cons_succ, sv.len, f8.n3, f8.b3])
    (fun i x n hx ih => by
      have hlt := lt_of_get hx
      have hlt' : (i : Int) < xs.length := by omega
      have hw := wrap_in (n := (i : Int) + 1) ⟨by omega, by omega⟩
      obtain ⟨l1, o1, hi1, ha⟩ := sv.at hx
      obtain ⟨ha, _⟩ := ha.int
      have ha := ha g (ext0 g)
      obtain ⟨l2, o2, hi2, hb⟩ := sw.at hx
      obtain ⟨hb, _⟩ := hb.int
      have hb := hb g (Ext.refl g)
      have hend := fun m hm => ih m hm
      simp only [Int.natCast_add, Int.natCast_one] at hend
      clear ih
      rw [f8.n4]; unfold f8.b4
      simp (disch := first | exact D.go | fail) [setR, List.getElem?_cons_zero, List.getElem?_cons_succ, sv.len, hlt', f8.n5, f8.b5, h1, i0, h3, hi1, hi2, ha, hb, f8.n6, f8.b6, hw]
      exact hend _ (by omega))
    0 (by omega)
  exact ⟨M, fun m hm => hM m hm⟩
theorem nCore {v : AVal} {xs : List Int} (sv : SlOf 1 (IntA I ⟨.nil, 0⟩) v xs) (hl : xs.length ≤ 100) : ∃ M, ∀ m, M ≤ m → Res ((f8.J I (AM.lim ⟨P, I, genF P Sh.prims⟩) (m)).1.2.1 v ⟨.nil, 0⟩) fun u g => u = .bool true := by
  have hr := sv.ranges
  obtain ⟨hfl, hfn⟩ := faceB_len hr (by omega)
  obtain ⟨H, hH⟩ : ∃ H : AHeap, H = ((⟨.nil, 0⟩ : AHeap).alloc ⟨[v], true⟩).alloc ⟨[.nils, .nils, .sl (.own 0) 0 1 (.known 1), .nils, .nils, Z 0], true⟩ := ⟨_, rfl⟩
  have hHn : H.next = 2 := by rw [hH]; simp
  have fa : FaceAt I H 1 xs := ⟨by omega, 0, .known 1, v, by rw [hH]; exact AHeap.alloc_at (Nb.o (by simp)), by omega, by rw [hH, AHeap.alloc_ne (Nb.o (by simp)), AHeap.alloc_at (Nb.o rfl)], SlOf.mono (fun l o t c => At.mono (fun _ _ h => h) c (ext0 H)) sv⟩
  obtain ⟨b, g1, c1, o1, x1⟩ := tEncode (I := I) fa hr (by omega) (by omega)
  obtain ⟨kp, g2, c2, fa2, x2⟩ := tDecode (I := I) (own_by (I := I) o1 (faceB_lt xs) (by omega)) hr (by omega) (by omega)
  obtain ⟨M, hM⟩ := nLoop (I := I) sv fa2 (by omega)
  obtain ⟨ki, cap, w, h1, h2, h3, sw⟩ := fa2.at_
  refine ⟨M + 3, fun m hm => ?_⟩
  obtain ⟨n, rfl⟩ : ∃ n, m = n + 3 := ⟨m - 3, by omega⟩
  have hend := hM (n + 1) (by omega)
  have i0 : pIndexAddr 1 (.sl (.own ki) 0 1 cap) (Z 0) = some (.ptr (.own ki) 0) := rfl
  have ov := sv.one
  have cv := sv.cells
  have lv := sv.len
  have lw := sw.len
  have c1' : (AM.lim ⟨P, I, genF P Sh.prims⟩) 13 [.ptr (.own 1) 0] (((⟨.nil, 0⟩ : AHeap).alloc ⟨[v], true⟩).alloc ⟨[.nils, .nils, .sl (.own 0) 0 1 (.known 1), .nils, .nils, Z 0], true⟩) = some (.tuple [b, .nili], g1) := by rw [← hH]; exact c1
  clear fa fa2 o1 hM sw hH c1
  rw [f8.n1]; unfold f8.b1
  simp (disch := first | exact D.go | fail) [setR, List.getElem?_cons_zero, List.getElem?_cons_succ, ov, cv, c1', c2, h1, i0, h3, lv, lw, f8.n2, f8.b2]
  exact hend
theorem tLawNumbers {v : AVal} {xs : List Int} (sv : SlOf 1 (IntA I ⟨.nil, 0⟩) v xs) : Res ((AM.lim ⟨P, I, genF P Sh.prims⟩) 8 [v] ⟨.nil, 0⟩) fun u g => u = .bool true := by
  have hbg := fun h => begun (I := I) h
  by_cases hl : 100 < xs.length
  · obtain ⟨u, cu, su⟩ := takeK 100 sv hl (by omega)
    obtain ⟨M, hM⟩ := nCore (I := I) su (by rw [List.length_take]; omega)
    have hend := hM (M + 1) (by omega)
    have hl' : (100 : Int) < xs.length := by omega
    have cu' : pSliceS 1 v none (some (Z 100)) none = some u := cu
    refine f8.lim rfl (n := M + 2) ?_
    unfold f8.e
    simp (disch := first | exact D.go | fail) [setR, List.getElem?_cons_zero, List.getElem?_cons_succ, hbg, sv.len, hl', cu', f8.n0, f8.b0]
    exact hend
  · obtain ⟨M, hM⟩ := nCore (I := I) sv (by omega)
    have hend := hM (M + 1) (by omega)
    have hl' : ¬ (100 : Int) < xs.length := by omega
    refine f8.lim rfl (n := M + 2) ?_
    unfold f8.e
    simp (disch := first | exact D.go | fail) [setR, List.getElem?_cons_zero, List.getElem?_cons_succ, hbg, sv.len, hl', f8.n0, f8.b0]
    exact hend
end
end
end Go.Proofs.YtncjcnipagdmlaaDoor.Tx

set_option linter.unusedSimpArgs false
set_option linter.unusedVariables false
namespace Go.Proofs.YtncjcnipagdmlaaDoor.Tx
noncomputable section
open Go.AM Go.Proofs.YtncjcnipagdmlaaDoor.Sf
section
variable {I : Inp} {h0 : AHeap}
/-! the reference's bytes of a program of one interface; what is too long -/
theorem tREnc {hb : AHeap} {kp : Nat} {xs : List Int} (a : FaceAt I hb kp xs) (hm : xs.length ≤ 1000000) : Res ((AM.lim ⟨P, I, genF P Sh.prims⟩) 12 [.ptr (.own kp) 0] hb) fun u g => Own byF 1 hb g u (faceB xs) ∧ Ext hb g := by
  obtain ⟨ki, cap, v, h1, h2, h3, sv⟩ := a.at_
  have hkp := a.hi
  obtain ⟨u0, g0, c0, o0, x0⟩ := rNum (I := I) r0 hb
  obtain ⟨a1, b1, a2, b2, c1, d1, o1, x1, l1, _⟩ := num_app (I := I) (hb := hb) r0 o0 x0 (by simp [numB0])
  obtain ⟨a3, b3, a4, b4, c2, d2, o2, x2, l2, _⟩ := num_app (I := I) (hb := hb) r1 o1 x1 (by simp [numB0])
  obtain ⟨a5, b5, a6, b6, c3, d3, o3, x3, l3, _⟩ := nums_app (I := I) (h0 := hb) sv (by omega) x2 o2 x2 (by simp [numB0, numB1])
  obtain ⟨a7, b7, a8, b8, c4, d4, o4, x4, l4, _⟩ := num_app (I := I) (hb := hb) r0 o3 x3 (by simp only [List.length_append, numB0, numB1, List.length_cons, List.length_nil] at l3 ⊢; omega)
  obtain ⟨a9, b9, a10, b10, c5, d5, o5, x5, l5, _⟩ := num_app (I := I) (hb := hb) r0 o4 x4 (by simp only [List.length_append, numB0, numB1, List.length_cons, List.length_nil] at l3 ⊢; omega)
  obtain ⟨a11, b11, a12, b12, c6, d6, o6, x6, l6, _⟩ := num_app (I := I) (hb := hb) r0 o5 x5 (by simp only [List.length_append, numB0, numB1, List.length_cons, List.length_nil] at l3 ⊢; omega)
  have q0 := (x0.same _ hkp).trans h1
  have q1 := (x1.same _ hkp).trans h1
  have q2 := (x2.same _ hkp).trans h1
  have q3 := (x3.same _ hkp).trans h1
  have q4 := (x4.same _ hkp).trans h1
  have q5 := (x5.same _ hkp).trans h1
  have qi := (x2.same _ h2).trans h3
  have hfin : Own byF 1 hb b12 a12 (faceB xs) ∧ Ext hb b12 := ⟨by unfold faceB; simpa using o6, x6⟩
  generalize hQ : (fun (u : AVal) (g : AHeap) => Own byF 1 hb g u (faceB xs) ∧ Ext hb g) = Q
  have hq : Q a12 b12 := by rw [← hQ]; exact hfin
  have z0 : pIndexAddr 1 (.sl (.own ki) 0 1 cap) (Z 0) = some (.ptr (.own ki) 0) := rfl
  have w1 : IntKind.i64.wrap 1 = 1 := wrap_in r1
  have c6z : (AM.lim ⟨P, I, genF P Sh.prims⟩) 19 [Z 0] b10 = some (a11, b11) := c6
  clear hQ hfin o0 o1 o2 o3 o4 o5 o6 l1 l2 l3 l4 l5 l6 sv
  refine f12.lim rfl (n := 14) ?_
  unfold f12.e
  simp (disch := first | exact D.go | fail) [setR, List.getElem?_cons_zero, List.getElem?_cons_succ, f12.n0, f12.b0, f12.n1, f12.b1, f12.n4, f12.b4, f12.n5, f12.b5, f12.n8, f12.b8, f12.n9, f12.b9, f12.n10, f12.b10, f12.n11, f12.b11, f12.n12, f12.b12, f12.n13, f12.b13, f12.n16, f12.b16, f12.n17, f12.b17, h1, q0, q1, q2, q3, q4, q5, qi, c0, c1, d1, c2, d2, c3, d3, c4, d4, c5, d5, c6, c6z, d6, z0, w1]
  exact hq
/-- A refusal for its bytes. -/
def Refd (g : AHeap) (e : AVal) : Prop := ∃ k, e = .iface 69 (.ptr (.own k) 0) ∧ g.get k = some ⟨[Z 1, .int .i64 (-1), Z 0, Z 0, .nili], true⟩ ∧ k < g.next
theorem Refd.mono {g f : AHeap} {e : AVal} (a : Refd g e) (x : Ext g f) : Refd f e := by
  obtain ⟨k, rfl, h1, h2⟩ := a
  exact ⟨k, rfl, (x.same _ h2).trans h1, by have := x.lo; omega⟩
theorem tRefused (h : AHeap) : ∃ e g, (AM.lim ⟨P, I, genF P Sh.prims⟩) 23 [] h = some (e, g) ∧ Refd g e ∧ Ext h g := by
  obtain ⟨g1, hg1⟩ : ∃ g1, g1 = (h.alloc ⟨[Z 0, Z 0, Z 0], true⟩).set h.next ⟨[.int .i64 (-1), Z 0, Z 0], true⟩ := ⟨_, rfl⟩
  have x1 : Ext h g1 := by rw [hg1]; exact (Ext.refl h).alloc.set (Nb.o (Nat.le_refl _))
  have c1 : (AM.lim ⟨P, I, genF P Sh.prims⟩) 33 [] h = some (.agg [.int .i64 (-1), Z 0, Z 0], g1) := by
    refine Res.eq (f33.lim rfl (n := 1) ?_)
    unfold f33.e
    subst hg1
    simp (disch := first | exact D.go | fail) [setR, List.getElem?_cons_zero, List.getElem?_cons_succ]
  have c2 : (AM.lim ⟨P, I, genF P Sh.prims⟩) 32 [Z 1, .agg [.int .i64 (-1), Z 0, Z 0], .nili] g1 = some (.iface 69 (.ptr (.own (g1.next + 1)) 0), (g1.alloc ⟨[.int .i64 (-1), Z 0, Z 0], true⟩).alloc ⟨[Z 1, .int .i64 (-1), Z 0, Z 0, .nili], true⟩) := by
    refine Res.eq (f32.lim rfl (n := 1) ?_)
    unfold f32.e
    simp (disch := first | exact D.go | fail) [setR, List.getElem?_cons_zero, List.getElem?_cons_succ]
    rfl
  refine ⟨.iface 69 (.ptr (.own (g1.next + 1)) 0), (g1.alloc ⟨[.int .i64 (-1), Z 0, Z 0], true⟩).alloc ⟨[Z 1, .int .i64 (-1), Z 0, Z 0, .nili], true⟩, ?_, ⟨g1.next + 1, rfl, AHeap.alloc_at (Nb.o (by simp)), by simp⟩, x1.trans (Ext.refl g1).alloc.alloc⟩
  refine Res.eq (f23.lim rfl (n := 1) ?_)
  unfold f23.e
  clear hg1
  simp (disch := first | exact D.go | fail) [setR, List.getElem?_cons_zero, List.getElem?_cons_succ, c1, c2]
theorem tWhyB {g : AHeap} {e : AVal} (a : Refd g e) : ∃ f, (AM.lim ⟨P, I, genF P Sh.prims⟩) 14 [e] g = some (Z 1, f) ∧ Ext g f := by
  obtain ⟨k, rfl, h1, h2⟩ := a
  have q : (AM.lim ⟨P, I, genF P Sh.prims⟩) 38 [.iface 69 (.ptr (.own k) 0), .iface 97 (.ptr (.own g.next) 0)] (g.alloc ⟨[.nilp], true⟩) = some (.bool true, (g.alloc ⟨[.nilp], true⟩).set g.next ⟨[.ptr (.own k) 0], true⟩) := by
    refine lim_of (C := ⟨P, I, genF P Sh.prims⟩) (n := 1) ?_
    simp only [callF, genF, show Sh.prims 38 = some (AM.asPrim 69 97) from rfl]
    simp only [asPrim, Nat.beq_refl, Bool.and_self, AHeap.alloc_at (h := g) (b := ⟨[.nilp], true⟩) (Nb.o rfl), show (([AVal.nilp] : List AVal)[0]?) = some .nilp from rfl, wr_mk]
    rfl
  obtain ⟨f, hf⟩ : ∃ f, f = (g.alloc ⟨[.nilp], true⟩).set g.next ⟨[.ptr (.own k) 0], true⟩ := ⟨_, rfl⟩
  have xf : Ext g f := by rw [hf]; exact (Ext.refl g).alloc.set (Nb.o (Nat.le_refl _))
  have c1 : (AM.lim ⟨P, I, genF P Sh.prims⟩) 25 [.iface 69 (.ptr (.own k) 0)] g = some (.ptr (.own k) 0, f) := by
    refine Res.eq (f25.lim rfl (n := 1) ?_)
    unfold f25.e
    subst hf
    simp (disch := first | exact D.go | fail) [setR, List.getElem?_cons_zero, List.getElem?_cons_succ, f25.n0, f25.b0, q]
  have k1 := (xf.same _ h2).trans h1
  refine ⟨f, ?_, xf⟩
  refine Res.eq (f14.lim rfl (n := 2) ?_)
  unfold f14.e
  simp (disch := first | exact D.go | fail) [setR, List.getElem?_cons_zero, List.getElem?_cons_succ, c1, k1]
theorem tEncodeL {hb : AHeap} {kp : Nat} {xs : List Int} (a : FaceAt I hb kp xs) (hm : xs.length ≤ 100000) (hl : 20000 < (faceB xs).length) : ∃ e g, (AM.lim ⟨P, I, genF P Sh.prims⟩) 13 [.ptr (.own kp) 0] hb = some (.tuple [.nils, e], g) ∧ Refd g e ∧ Ext hb g := by
  obtain ⟨v, g, c1, o, x⟩ := tText (I := I) a hm
  obtain ⟨e, g2, c2, rf, x2⟩ := tRefused (I := I) g
  refine ⟨e, g2, ?_, rf, x.trans x2⟩
  have hlen := o.len
  have n0 : (20000 : Int) < ((faceB xs).length : Int) := by omega
  refine Res.eq (f13.lim rfl (n := 3) ?_)
  unfold f13.e
  generalize faceB xs = bs at *
  simp (disch := first | exact D.go | fail) [setR, List.getElem?_cons_zero, List.getElem?_cons_succ, f13.n0, f13.b0, f13.n1, f13.b1, c1, hlen, n0, hl, c2]
theorem tDecodeL {hb : AHeap} {v : AVal} {n : Nat} (lv : pLenSl v = some (.int .i64 (n : Int))) (hl : 20000 < n) : ∃ e g, (AM.lim ⟨P, I, genF P Sh.prims⟩) 15 [v] hb = some (.tuple [.nilp, e], g) ∧ Refd g e ∧ Ext hb g := by
  obtain ⟨e, g2, c2, rf, x2⟩ := tRefused (I := I) hb
  refine ⟨e, g2, ?_, rf, x2⟩
  have n0 : (20000 : Int) < (n : Int) := by omega
  refine Res.eq (f15.lim rfl (n := 3) ?_)
  unfold f15.e
  simp (disch := first | exact D.go | fail) [setR, List.getElem?_cons_zero, List.getElem?_cons_succ, lv, n0, hl, c2]
end
end
end Go.Proofs.YtncjcnipagdmlaaDoor.Tx

set_option linter.unusedSimpArgs false
set_option linter.unusedVariables false
namespace Go.Proofs.YtncjcnipagdmlaaDoor.Tx
noncomputable section
open Go.AM Go.Proofs.YtncjcnipagdmlaaDoor.Sf
section
variable {I : Inp} {h0 : AHeap}
theorem zerosL (n : Nat) : ∀ i, zerosFrom [Z 0] i n = (List.replicate n (0 : Int)).map fun x => AVal.int .i64 x := by
  induction n with
  | zero => intro i; rfl
  | succ n ih =>
    intro i
    rw [zerosFrom_succ, ih, List.replicate_succ, List.map_cons]
    congr 1
    show ([Z 0] : List AVal).getD (i % 1) .nilp = _
    rw [Nat.mod_one]; rfl
theorem mkZ (n : Nat) (hn : n ≤ 21000) (h : AHeap) : sMakeSlice [Z 0] 8 (.int .i64 (n : Int)) (.int .i64 (n : Int)) h = some (.sl (.own h.next) 0 n (.known n), h.alloc ⟨(List.replicate n (0 : Int)).map fun x => AVal.int .i64 x, true⟩) := by
  show (match h.room with
    | true => (match Nat.ble n n && Nat.ble (8 * n) 140737488355328 && Nat.ble n 140737488355328 with
      | true => some (AVal.sl (.own h.next) 0 n (.known n), h.alloc ⟨zeros [Z 0] (n * 1), true⟩)
      | false => none)
    | false => none) = _
  rw [show h.room = true from rfl, Nat.ble_eq_true_of_le (Nat.le_refl n), Nat.ble_eq_true_of_le (by omega : 8 * n ≤ 140737488355328), Nat.ble_eq_true_of_le (by omega : n ≤ 140737488355328)]
  simp only [Bool.and_self, zeros_eq, Nat.mul_one, zerosL]
theorem ByS.mono {hb hc : AHeap} {v : AVal} {bs : List Nat} (a : ByS I hb v bs) (x : Ext hb hc) : ByS I hc v bs := by
  rcases a with a | ⟨l, o, cap, e, h1, h2, h3⟩
  · exact .inl a
  · exact .inr ⟨l, o, cap, e, h1, h2, fun i y hy => ⟨(h3 i y hy).1, fun g e' => (h3 i y hy).2 g (x.trans e')⟩⟩
theorem lCore (n : Nat) (h1 : 1 ≤ n) (hn : n ≤ 21000) (c : Nat) : Res ((f4.J I (AM.lim ⟨P, I, genF P Sh.prims⟩) (c + 2)).2.1 (.int .i64 (n : Int)) ⟨.nil, 0⟩) fun u g => u = .bool true := by
  obtain ⟨xs, hxs⟩ : ∃ xs : List Int, xs = List.replicate n 0 := ⟨_, rfl⟩
  have hxl : xs.length = n := by rw [hxs, List.length_replicate]
  have hr : ∀ x ∈ xs, InR x := by
    intro x hx
    rw [hxs] at hx
    rw [(List.mem_replicate.1 hx).2]; exact r0
  have mk := mkZ n hn ⟨.nil, 0⟩
  rw [← hxs] at mk
  obtain ⟨H, hH⟩ : ∃ H : AHeap, H = (((⟨.nil, 0⟩ : AHeap).alloc ⟨xs.map fun x => AVal.int .i64 x, true⟩).alloc ⟨[.sl (.own 0) 0 n (.known n)], true⟩).alloc ⟨[.nils, .nils, .sl (.own 1) 0 1 (.known 1), .nils, .nils, Z 0], true⟩ := ⟨_, rfl⟩
  have hHn : H.next = 3 := by rw [hH]; simp
  have hH0 : H.get 0 = some ⟨xs.map fun x => AVal.int .i64 x, true⟩ := by rw [hH, AHeap.alloc_ne (Nb.o (by simp)), AHeap.alloc_ne (Nb.o (by simp)), AHeap.alloc_at (Nb.o rfl)]
  have hne : xs ≠ [] := by intro e; rw [e] at hxl; simp at hxl; omega
  have sv : SlOf 1 (IntA I H) (.sl (.own 0) 0 n (.known n)) xs := by
    have := ints_new (I := I) (h := H) (k := 0) (p := true) (xs := xs) (cap := .known n) hH0 (by omega) (fun m hm => Nat.ble_eq_true_of_le (by omega)) (by omega) hne hr
    rw [hxl] at this; exact this
  have fa : FaceAt I H 2 xs := ⟨by omega, 1, .known 1, .sl (.own 0) 0 n (.known n), by rw [hH]; exact AHeap.alloc_at (Nb.o (by simp)), by omega, by rw [hH, AHeap.alloc_ne (Nb.o (by simp)), AHeap.alloc_at (Nb.o (by simp))], sv⟩
  rw [f4.n1]; unfold f4.b1
  by_cases hl : 20000 < (faceB xs).length
  · obtain ⟨e1, g1, c1, rf1, x1⟩ := tEncodeL (I := I) fa (by omega) hl
    obtain ⟨w1, g2, c2, o2, x2⟩ := tREnc (I := I) (fa.mono x1) (by omega)
    obtain ⟨w3, g3, c3, o3, x3⟩ := tREnc (I := I) ((fa.mono x1).mono x2) (by omega)
    obtain ⟨e4, g4, c4, rf4, x4⟩ := tDecodeL (I := I) (hb := g3) o3.len hl
    obtain ⟨g5, c5, x5⟩ := tWhyB (I := I) (rf1.mono ((x2.trans x3).trans x4))
    obtain ⟨g6, c6, x6⟩ := tWhyB (I := I) (rf4.mono x5)
    have lw := o2.len
    have n0 : (20000 : Int) < ((faceB xs).length : Int) := by omega
    have c1' : (AM.lim ⟨P, I, genF P Sh.prims⟩) 13 [.ptr (.own 2) 0] ((((⟨.nil, 0⟩ : AHeap).alloc ⟨xs.map fun x => AVal.int .i64 x, true⟩).alloc ⟨[.sl (.own 0) 0 n (.known n)], true⟩).alloc ⟨[.nils, .nils, .sl (.own 1) 0 1 (.known 1), .nils, .nils, Z 0], true⟩) = some (.tuple [.nils, e1], g1) := by rw [← hH]; exact c1
    generalize faceB xs = bs at *
    clear fa sv o2 o3 rf1 rf4 hH hH0 hxs hr c1
    simp (disch := first | exact D.go | fail) [setR, List.getElem?_cons_zero, List.getElem?_cons_succ, mk, c1', c2, c3, c4, c5, c6, lw, n0, hl]
  · obtain ⟨b, g1, c1, o1, x1⟩ := tEncode (I := I) fa hr (by omega) (by omega)
    obtain ⟨w1, g2, c2, o2, x2⟩ := tREnc (I := I) (fa.mono x1) (by omega)
    obtain ⟨kp, g3, c3, fa3, x3⟩ := tDecode (I := I) ((own_by (I := I) o1 (faceB_lt xs) (by omega)).mono x2) hr (by omega) (by omega)
    obtain ⟨ki, cap, w, q1, q2, q3, sw⟩ := fa3.at_
    have i0 : pIndexAddr 1 (.sl (.own ki) 0 1 cap) (Z 0) = some (.ptr (.own ki) 0) := rfl
    have lw := o2.len
    have lx := sw.len
    rw [hxl] at lx
    have n0 : ¬ (20000 : Int) < ((faceB xs).length : Int) := by omega
    have c1' : (AM.lim ⟨P, I, genF P Sh.prims⟩) 13 [.ptr (.own 2) 0] ((((⟨.nil, 0⟩ : AHeap).alloc ⟨xs.map fun x => AVal.int .i64 x, true⟩).alloc ⟨[.sl (.own 0) 0 n (.known n)], true⟩).alloc ⟨[.nils, .nils, .sl (.own 1) 0 1 (.known 1), .nils, .nils, Z 0], true⟩) = some (.tuple [b, .nili], g1) := by rw [← hH]; exact c1
    generalize faceB xs = bs at *
    clear fa fa3 sv sw o1 o2 hH hH0 hxs hr c1
    simp (disch := first | exact D.go | fail) [setR, List.getElem?_cons_zero, List.getElem?_cons_succ, mk, c1', c2, c3, lw, lx, n0, hl, q1, q3, i0, f4.n2, f4.b2]
theorem tLawLong (n : Int) (hn : n ≠ 0) : Res ((AM.lim ⟨P, I, genF P Sh.prims⟩) 4 [.int .i64 n] ⟨.nil, 0⟩) fun u g => u = .bool true := by
  have hbg := fun h => begun (I := I) h
  by_cases h1 : n < 0
  · refine f4.lim rfl (n := 4) ?_
    unfold f4.e
    simp (disch := first | exact D.go | fail) [setR, List.getElem?_cons_zero, List.getElem?_cons_succ, hbg, h1, f4.n0, f4.b0]
  by_cases h2 : 21000 < n
  · refine f4.lim rfl (n := 4) ?_
    unfold f4.e
    simp (disch := first | exact D.go | fail) [setR, List.getElem?_cons_zero, List.getElem?_cons_succ, hbg, h1, h2, f4.n0, f4.b0]
  obtain ⟨k, rfl⟩ : ∃ k : Nat, n = k := ⟨n.toNat, by omega⟩
  have hend := lCore (I := I) k (by omega) (by omega) 1
  refine f4.lim rfl (n := 4) ?_
  unfold f4.e
  simp (disch := first | exact D.go | fail) [setR, List.getElem?_cons_zero, List.getElem?_cons_succ, hbg, h1, h2, f4.n0, f4.b0]
  exact hend
end
end
end Go.Proofs.YtncjcnipagdmlaaDoor.Tx
