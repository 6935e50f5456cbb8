/- Contracts of the functions, part 0: what each function of the program and of the reference comes to. Conditions: as each lemma says. -/
import Derived.Test.YtblblpmkdmociaaDoorSfT
import Derived.Test.YtblblpmkdmociaaDoorAmZ
import Derived.Test.YtblblpmkdmociaaDoorSh
import Derived.Lib.ItoaLen
set_option linter.unusedSimpArgs false
set_option linter.unusedVariables false
namespace Go.Proofs.YtblblpmkdmociaaDoor.Tx
noncomputable section
open Go.AM Go.Proofs.YtblblpmkdmociaaDoor.Sf
section
variable {I : Inp} {h0 : AHeap}
def inB (n s : Int) : Prop := 0 ≤ n ∧ n < s

structure Pt where
  f : Int
  b : Int
  i : Int
  deriving DecidableEq, Inhabited
def noPt : Pt := ⟨-1, 0, 0⟩
abbrev ptV (p : Pt) : AVal := .agg [.int .i64 p.f, .int .i64 p.b, .int .i64 p.i]
theorem noPt_f : noPt.f = -1 := rfl
theorem noPt_b : noPt.b = 0 := rfl
theorem noPt_i : noPt.i = 0 := rfl
theorem nth_mem {α : Type} {xs : List α} {i : Int} (h : inB i xs.length) (d : α) : nth xs i d ∈ xs := by
  obtain ⟨h1, h2⟩ := h
  unfold nth
  have hk : i.toNat < xs.length := by omega
  rw [List.getD_eq_getElem?_getD, List.getElem?_eq_getElem hk]
  exact List.getElem_mem hk
/-- A slice to read from. -/
structure SlV {α : Type} (sz : Nat) (R : AM.Loc → Nat → α → Prop) (v : AVal) (xs : List α) : Prop where
  len : pLenSl v = some (.int .i64 xs.length)
  lt : xs.length ≤ 9223372036854775807
  at_ : ∀ {i : Nat} {x : α}, xs[i]? = some x → ∃ l o, pIndexAddr sz v (.int .i64 (i : Int)) = some (.ptr l o) ∧ R l o x
theorem _root_.Go.AM.SlOf.v {α : Type} {sz : Nat} {R : AM.Loc → Nat → α → Prop} {v : AVal} {xs : List α} (s : SlOf sz R v xs) : SlV sz R v xs := ⟨s.len, s.lt, s.at⟩
theorem _root_.Go.AM.SlOf.cut {α : Type} {sz : Nat} {R : AM.Loc → Nat → α → Prop} {v : AVal} {xs : List α} (s : SlOf sz R v xs) {m : Nat} (hm : m ≤ xs.length) : ∃ u, pSliceS sz v none (some (.int .i64 m)) none = some u ∧ SlV sz R u (xs.take m) := by
  rcases s with ⟨rfl, rfl⟩ | ⟨l, o, cap, rfl, c, n, hx⟩
  · obtain rfl : m = 0 := by simpa using hm
    exact ⟨.nils, rfl, by simpa using SlOf.v (SlOf.nil (R := R) (sz := sz))⟩
  · have hc := c m hm
    refine ⟨.sl l o m (capMinus cap 0), ?_, ?_, ?_, ?_⟩
    · show sliceV _ _ _ _ _ = _
      simp only [sliceV, optNatV, asNat]
      have : asNat (.int .i64 (m : Int)) = some m := rfl
      have hz : Nat.ble 0 m = true := Nat.ble_eq_true_of_le (Nat.zero_le m)
      simp [this, hc, hz]
    · simp [List.length_take, Nat.min_eq_left hm]
    · rw [List.length_take, Nat.min_eq_left hm]; omega
    · intro i x hi
      have hlt := (List.getElem?_eq_some_iff.1 hi).1
      rw [List.length_take, Nat.min_eq_left hm] at hlt
      rw [List.getElem?_take_of_lt hlt] at hi
      exact ⟨l, o + i * sz, pIndexAddr_sl hlt, hx i x hi⟩
theorem Res.after {r : Rs} {k : AVal → AHeap → Rs} {Q A : AVal → AHeap → Prop} (c : Res r A) (hk : ∀ v g, A v g → Res (k v g) Q) : Res (@Bnd r ⟨k⟩) Q := by
  obtain ⟨v, g, er, a⟩ := c
  rw [er]
  exact hk v g a
def ptCells (p : Pt) : List AVal := [.int .i64 p.f, .int .i64 p.b, .int .i64 p.i]
theorem pts_len : ∀ xs : List Pt, (xs.flatMap ptCells).length = xs.length * 3
  | [] => rfl
  | x :: xs => by simp only [List.flatMap_cons, List.length_append, List.length_cons, pts_len xs, ptCells, List.length_nil]; omega
theorem pts_one : ∀ xs : List Pt, (xs.flatMap ptCells).all AVal.one = true
  | [] => rfl
  | x :: xs => by simp only [List.flatMap_cons, List.all_append, pts_one xs, Bool.and_true]; rfl
/-- A slice of points that was made here. -/
def PtsO (hb h : AHeap) (v : AVal) (xs : List Pt) : Prop :=
  (v = .nils ∧ xs = []) ∨ ∃ k, v = .sl (.own k) 0 xs.length (.grown 3) ∧ h.get k = some ⟨xs.flatMap ptCells, true⟩ ∧ hb.next ≤ k ∧ k < h.next ∧ xs ≠ []
theorem PtsO.mono {hb h g : AHeap} {v : AVal} {xs : List Pt} (a : PtsO hb h v xs) (e : Ext h g) : PtsO hb g v xs := by
  rcases a with a | ⟨k, rfl, hk, h1, h2, h3⟩
  · exact .inl a
  · exact .inr ⟨k, rfl, by rw [e.same k h2]; exact hk, h1, by have := e.lo; omega, h3⟩
theorem app_pt {hb h : AHeap} {xs : List Pt} {v : AVal} (hv : PtsO hb h v xs) (eb : Ext hb h) (p : Pt) (hn : xs.length ≤ 1000000) {kw : Nat} {c : Cap} (hw : h.get kw = some ⟨ptCells p, true⟩) :
    Res (sAppend I 3 24 v (.sl (.own kw) 0 1 c) h) fun u g => PtsO hb g u (xs ++ [p]) ∧ Ext hb g := by
  rcases hv with ⟨rfl, rfl⟩ | ⟨k, rfl, hk, h1, h2, h3⟩
  · have := sAppend_nils (I := I) (sz := 3) (bytes := 24) (n := 0) (c := c) hw rfl rfl (by simp only [bigRoom]; omega)
    refine ⟨_, _, this, .inr ⟨h.next, rfl, ?_, eb.lo, by simp, by simp⟩, eb.alloc⟩
    simp [AHeap.alloc_at (Nb.o rfl)]
  · have := sAppend_full (I := I) (sz := 3) (bytes := 24) (n := 0) (c := c) hw rfl rfl hk (pts_len xs) (pts_one xs) (by omega) (by simp only [bigRoom]; omega)
    refine ⟨_, _, this, .inr ⟨h.next, ?_, ?_, eb.lo, by simp, by simp⟩, (eb.kill (Nb.o h1)).alloc⟩
    · simp
    · rw [show h.next = (h.kill k).next from rfl, AHeap.alloc_at (Nb.o rfl)]; simp
def bkPts (f b : Int) (j : Nat) : Nat → List Pt
  | 0 => []
  | c + 1 => ⟨f, b, j⟩ :: bkPts f b (j + 1) c
def fuPts (f : Int) : Nat → List Bk → List Pt
  | _, [] => []
  | b, x :: r => bkPts f b 0 (x.code.length + 1) ++ fuPts f (b + 1) r
def pgPts : Nat → List Fu → List Pt
  | _, [] => []
  | i, f :: r => fuPts i 0 f.blocks ++ pgPts (i + 1) r
theorem bkPts_len (f b : Int) : ∀ (c j : Nat), (bkPts f b j c).length = c
  | 0, _ => rfl
  | c + 1, j => by simp [bkPts, bkPts_len f b c]
def PtC (cs : List AVal) (p : Pt) : Prop := cs = ptCells p
theorem pts_get : ∀ (xs : List Pt) (i : Nat) (x : Pt) (j : Nat) (v : AVal), xs[i]? = some x → (ptCells x)[j]? = some v → (xs.flatMap ptCells)[i * 3 + j]? = some v
  | [], i, x, j, v, h, _ => by simp at h
  | y :: ys, 0, x, j, v, h, hv => by
    simp at h; subst h
    have hj : j < 3 := by have := (List.getElem?_eq_some_iff.1 hv).1; simpa [ptCells] using this
    rw [List.flatMap_cons, List.getElem?_append_left (by simp [ptCells]; omega)]
    simpa using hv
  | y :: ys, i + 1, x, j, v, h, hv => by
    have := pts_get ys i x j v (by simpa using h) hv
    rw [List.flatMap_cons, List.getElem?_append_right (by simp [ptCells]; omega)]
    rw [show (i + 1) * 3 + j - (ptCells y).length = i * 3 + j by simp [ptCells]; omega]
    exact this
theorem PtsO.v {hb h : AHeap} {v : AVal} {xs : List Pt} (a : PtsO hb h v xs) (hl : xs.length ≤ 1000000) : SlV 3 (At I h PtC) v xs := by
  rcases a with ⟨rfl, rfl⟩ | ⟨k, rfl, hk, h1, h2, h3⟩
  · exact SlOf.v SlOf.nil
  · refine ⟨rfl, by omega, fun {i x} hx => ⟨.own k, 0 + i * 3, pIndexAddr_sl (List.getElem?_eq_some_iff.1 hx).1, ptCells x, rfl, Cells.own hk h2 fun j v hv => ?_⟩⟩
    simp only [Nat.zero_add]
    exact pts_get xs i x j v hx hv
theorem bkPts_mem {f b : Int} {p : Pt} : ∀ (c j : Nat), p ∈ bkPts f b j c → ∃ k : Nat, j ≤ k ∧ k < j + c ∧ p = ⟨f, b, k⟩
  | 0, j, h => by simp [bkPts] at h
  | c + 1, j, h => by
    rcases List.mem_cons.1 h with rfl | h
    · exact ⟨j, by omega, by omega, rfl⟩
    · obtain ⟨k, h1, h2, h3⟩ := bkPts_mem c (j + 1) h
      exact ⟨k, by omega, by omega, h3⟩
theorem fuPts_mem {f : Int} {p : Pt} : ∀ (l : List Bk) (b : Nat), p ∈ fuPts f b l → ∃ (bi k : Nat) (x : Bk), l[bi]? = some x ∧ k ≤ x.code.length ∧ p = ⟨f, ((b + bi : Nat) : Int), k⟩
  | [], b, h => by simp [fuPts] at h
  | x :: r, b, h => by
    rcases List.mem_append.1 h with h | h
    · obtain ⟨k, h1, h2, h3⟩ := bkPts_mem _ _ h
      exact ⟨0, k, x, rfl, by omega, h3⟩
    · obtain ⟨bi, k, y, h1, h2, h3⟩ := fuPts_mem r (b + 1) h
      exact ⟨bi + 1, k, y, by simpa using h1, h2, by rw [h3]; congr 2; omega⟩
theorem pgPts_mem {p : Pt} : ∀ (l : List Fu) (i : Nat), p ∈ pgPts i l → ∃ (fi bi k : Nat) (f : Fu) (x : Bk), l[fi]? = some f ∧ f.blocks[bi]? = some x ∧ k ≤ x.code.length ∧ p = ⟨((i + fi : Nat) : Int), (bi : Int), k⟩
  | [], i, h => by simp [pgPts] at h
  | f :: r, i, h => by
    rcases List.mem_append.1 h with h | h
    · obtain ⟨bi, k, x, h1, h2, h3⟩ := fuPts_mem _ _ h
      exact ⟨0, bi, k, f, x, rfl, h1, h2, by simpa using h3⟩
    · obtain ⟨fi, bi, k, g, x, h1, h2, h3, h4⟩ := pgPts_mem r (i + 1) h
      exact ⟨fi + 1, bi, k, g, x, by simpa using h1, h2, h3, by rw [h4]; congr 2; omega⟩
theorem pMinmax_two (b : Int) : ∃ c, pMinmax false [Z 1000, .int .i64 b] = some (.int .i64 c) := ⟨if b < 1000 then b else 1000, by simp [pMinmax, minInts]⟩
/-- A bool. -/
def IsB (u : AVal) : Prop := ∃ b, u = .bool b
@[simp] theorem IsB_bool (b : Bool) : IsB (.bool b) = True := by simp [IsB]
end
end
end Go.Proofs.YtblblpmkdmociaaDoor.Tx

set_option linter.unusedSimpArgs false
set_option linter.unusedVariables false
namespace Go.Proofs.YtblblpmkdmociaaDoor.Tx
noncomputable section
open Go.AM Go.Proofs.YtblblpmkdmociaaDoor.Sf
def tyIds : TyIds := ⟨3, 33, 118, 57, 41, 35, 53, 55, 56, 59, 45, 120, 42, 122, 43, 124, 44, 47⟩
theorem tyOk : tyIds.Ok P := by
  constructor <;> kernel_rfl
section
variable {I : Inp}
theorem begun (h : AHeap) : (AM.lim ⟨P, I, genF P Sh.prims⟩) 9 [] h = some (.bool true, h) := by
  refine lim_of (C := ⟨P, I, genF P Sh.prims⟩) (n := 1) ?_
  simp only [callF, genF, show Sh.prims 9 = some AM.yesPrim from rfl]; rfl
theorem lawTrue {g : Nat} {args : List AVal} (hr : Res ((AM.lim ⟨P, I, genF P Sh.prims⟩) g args ⟨.nil, 0⟩) fun u _ => u = .bool true) : ∃ m, saysTrue (callF P I (genF P Sh.prims) m g args ⟨.nil, 0⟩) = true := by
  obtain ⟨v, h', e, rfl⟩ := hr
  exact lim_true (C := ⟨P, I, genF P Sh.prims⟩) e
end
end
end Go.Proofs.YtblblpmkdmociaaDoor.Tx

set_option linter.unusedSimpArgs false
set_option linter.unusedVariables false
namespace Go.Proofs.YtblblpmkdmociaaDoor.Tx
noncomputable section
open Go.AM Go.Proofs.YtblblpmkdmociaaDoor.Sf
section
variable {I : Inp} {h0 : AHeap}
/-! a program that is not too great -/
def mc (b : Bk) : Nat := min 1000 b.code.length
def mcs : List Bk → Nat
  | [] => 0
  | b :: r => (1 + mc b) + mcs r
def smFrom (m : Nat) : List Fu → Bool
  | [] => dc (m ≤ 150)
  | f :: r => (!dc (14 < (f.blocks.length : Int)) && !dc (20 < (f.regs.length : Int))) && smFrom (m + mcs f.blocks) r
def smallB (q : Pg) : Bool := (((!dc (12 < (q.funcs.length : Int)) && !dc (12 < (q.recs.length : Int))) && !dc (12 < (q.sigs.length : Int))) && !dc (12 < (q.faces.length : Int))) && !dc (14 < (q.impls.length : Int)) && smFrom 0 q.funcs
theorem min_mc (b : Bk) : pMinmax false [Z 1000, .int .i64 (b.code.length : Int)] = some (.int .i64 (mc b : Int)) := by
  simp only [pMinmax, minInts, mc]
  by_cases h : b.code.length < 1000
  · have : ((b.code.length : Int) < 1000) := by omega
    simp [this, Nat.min_eq_right (Nat.le_of_lt h)]
  · have : ¬ ((b.code.length : Int) < 1000) := by omega
    simp [this, Nat.min_eq_left (Nat.le_of_not_lt h)]
theorem tSmall {l : AM.Loc} {o : Nat} {q : Pg} (hq : PgA I h0 l o q) (hb : AHeap) (eb : Ext h0 hb) : Ret ((AM.lim ⟨P, I, genF P Sh.prims⟩) 10 [.ptr l o] hb) hb (.bool (smallB q)) := by
  obtain ⟨_, ⟨vr, vs, vf, vi, vu, rfl, rm, sr, ss, sf, si, su⟩, hc⟩ := hq
  have lu := su.lt
  by_cases hn12 : q.funcs.length ≤ 12
  · obtain ⟨N, hN⟩ := Evt.loop' q.funcs (F := fun i n => ∀ (m : Nat) h, m ≤ 14014 * i → Ext hb h → Res ((f10.J I (AM.lim ⟨P, I, genF P Sh.prims⟩) (n)).1.2.1 (.ptr l o) (.int .i64 m) (.int .i64 i) h) fun u g => u = .bool (smFrom m (q.funcs.drop i)) ∧ Ext hb g)
      (Evt.all 5 fun n m h hm e => by
        have hm' : ((m : Int) ≤ 150) = (m ≤ 150) := by simp; omega
        rw [f10.n2]; unfold f10.b2
        (repeat' (first | refine Rf (fun hF hG => ?_) (fun hF hG => ?_) | assumption | (show Ext _ _; exact Ext.go) | (simp only [AHeap.next_alloc, AHeap.next_set, AHeap.next_kill, AHeap.next_res] at hle hsame) | simp (disch := first | exact D.go | fail) [setR, List.getElem?_cons_zero, List.getElem?_cons_succ, f10.n0, f10.b0, f10.n1, f10.b1, f10.n3, f10.b3, f10.n4, f10.b4, f10.n5, f10.b5, f10.n6, f10.b6, f10.n7, f10.b7, f10.n8, f10.b8, hc.rd0, hc.rd1, hc.rd2, hc.rd3, hc.rd4, hc.rd5, sr.len, ss.len, sf.len, si.len, su.len, sr.self, ss.self, sf.self, si.self, su.self, smFrom, hm', *])))
      (fun i f hf hfo => by
        obtain ⟨lf, of, hif, ⟨_, ⟨wr, wb, rfl, r0, swr, swb⟩, hwf⟩⟩ := su.at hf
        have hlt := lt_of_get hf; have hw := wrap_in (n := (i : Int) + 1) ⟨by omega, by omega⟩
        simp only [Int.natCast_add, Int.natCast_one] at hfo
        by_cases hb14 : f.blocks.length ≤ 14
        · have hb14' : ¬ 14 < (f.blocks.length : Int) := by omega
          have inner := Evt.loop f.blocks (F := fun b n => ∀ (m : Nat) h, m ≤ 14014 * i + 1001 * b → Ext hb h → Res ((f10.J I (AM.lim ⟨P, I, genF P Sh.prims⟩) (n)).2.2.1 (.ptr l o) (.int .i64 m) (.int .i64 i) (.int .i64 b) h) fun u g => u = .bool (smFrom (m + mcs (f.blocks.drop b)) (q.funcs.drop (i + 1))) ∧ Ext hb g) 6
            (Evt.step 6 hfo fun n hn m h hm e => by
              have hlo := e.lo
              have hn' := fun m' hm' => hn m' hm' m h (by omega) e
              rw [f10.n6]; unfold f10.b6
              (repeat' (first | refine Rf (fun hF hG => ?_) (fun hF hG => ?_) | assumption | (show Ext _ _; exact Ext.go) | (simp only [AHeap.next_alloc, AHeap.next_set, AHeap.next_kill, AHeap.next_res] at hle hsame) | simp (disch := first | exact D.go | fail) [setR, List.getElem?_cons_zero, List.getElem?_cons_succ, f10.n4, f10.b4, hc.rd0, hc.rd1, hc.rd2, hc.rd3, hc.rd4, hc.rd5, sr.len, ss.len, sf.len, si.len, su.len, sr.self, ss.self, sf.self, si.self, su.self, hif, hwf.rd2, swb.len, hw, mcs, *])))
            (fun b x n hx ih m h hm e => by
              obtain ⟨l1, o1, hib, ⟨_, ⟨vc, rfl, sc, q1, q2, q3, q4⟩, ha⟩⟩ := swb.at hx
              have hltb := lt_of_get hx; have hwb := wrap_in (n := (b : Int) + 1) ⟨by omega, by omega⟩
              simp only [Int.natCast_add, Int.natCast_one] at ih
              have hmc : mc x ≤ 1000 := Nat.min_le_left _ _
              have hmm := min_mc x
              have hw1 := wrap_in (n := 1 + (mc x : Int)) ⟨by omega, by omega⟩
              have hw2 := wrap_in (n := (m : Int) + (1 + (mc x : Int))) ⟨by omega, by omega⟩
              have hlo := e.lo
              have ih' := fun m' hm' => ih m' hm' (m + (1 + mc x)) h (by omega) e
              simp only [Int.natCast_add, Int.natCast_one, Int.cast_ofNat_Int, Nat.add_assoc] at ih'
              rw [drop_of_get hx]
              rw [f10.n6]; unfold f10.b6
              (repeat' (first | refine Rf (fun hF hG => ?_) (fun hF hG => ?_) | assumption | (show Ext _ _; exact Ext.go) | (simp only [AHeap.next_alloc, AHeap.next_set, AHeap.next_kill, AHeap.next_res] at hle hsame) | simp (disch := first | exact D.go | fail) [setR, List.getElem?_cons_zero, List.getElem?_cons_succ, f10.n7, f10.b7, f10.n8, f10.b8, hc.rd0, hc.rd1, hc.rd2, hc.rd3, hc.rd4, hc.rd5, sr.len, ss.len, sf.len, si.len, su.len, sr.self, ss.self, sf.self, si.self, su.self, hif, hwf.rd2, swb.len, hib, ha.rd0, sc.len, hmm, hltb, hwb, hw1, hw2, mcs, Nat.add_assoc, *])))
            0 (by omega)
          refine Evt.step 8 inner fun n hn m h hm e => ?_
          have hn' := fun m' hm' => hn m' hm' m h (by omega) e
          have hlo := e.lo
          rw [drop_of_get hf]
          rw [f10.n2]; unfold f10.b2
          (repeat' (first | refine Rf (fun hF hG => ?_) (fun hF hG => ?_) | assumption | (show Ext _ _; exact Ext.go) | (simp only [AHeap.next_alloc, AHeap.next_set, AHeap.next_kill, AHeap.next_res] at hle hsame) | simp (disch := first | exact D.go | fail) [setR, List.getElem?_cons_zero, List.getElem?_cons_succ, f10.n3, f10.b3, f10.n5, f10.b5, hc.rd0, hc.rd1, hc.rd2, hc.rd3, hc.rd4, hc.rd5, sr.len, ss.len, sf.len, si.len, su.len, sr.self, ss.self, sf.self, si.self, su.self, hif, hwf.rd1, hwf.rd2, swb.len, swr.len, hlt, hb14', smFrom, *]))
          all_goals (exact hn' _ (by omega))
        · have hb14' : 14 < (f.blocks.length : Int) := by omega
          refine Evt.all 8 fun n m h hm e => ?_
          have hlo := e.lo
          rw [drop_of_get hf]
          rw [f10.n2]; unfold f10.b2
          (repeat' (first | refine Rf (fun hF hG => ?_) (fun hF hG => ?_) | assumption | (show Ext _ _; exact Ext.go) | (simp only [AHeap.next_alloc, AHeap.next_set, AHeap.next_kill, AHeap.next_res] at hle hsame) | simp (disch := first | exact D.go | fail) [setR, List.getElem?_cons_zero, List.getElem?_cons_succ, f10.n3, f10.b3, f10.n5, f10.b5, hc.rd0, hc.rd1, hc.rd2, hc.rd3, hc.rd4, hc.rd5, sr.len, ss.len, sf.len, si.len, su.len, sr.self, ss.self, sf.self, si.self, su.self, hif, hwf.rd1, hwf.rd2, swb.len, swr.len, hlt, hb14', smFrom, *])))
      0 (by omega)
    have hN' := hN (N + 1) (by omega) 0 hb (by omega) (Ext.refl hb)
    have h12 : ¬ 12 < (q.funcs.length : Int) := by omega
    refine f10.lim rfl (n := N + 2) ?_
    unfold f10.e
    (repeat' (first | refine Rf (fun hF hG => ?_) (fun hF hG => ?_) | assumption | (show Ext _ _; exact Ext.go) | (simp only [AHeap.next_alloc, AHeap.next_set, AHeap.next_kill, AHeap.next_res] at hle hsame) | simp (disch := first | exact D.go | fail) [setR, List.getElem?_cons_zero, List.getElem?_cons_succ, f10.n0, f10.b0, hc.rd0, hc.rd1, hc.rd2, hc.rd3, hc.rd4, hc.rd5, sr.len, ss.len, sf.len, si.len, su.len, sr.self, ss.self, sf.self, si.self, su.self, smallB, h12, *]))
    all_goals (exact hN')
  · have h12 : 12 < (q.funcs.length : Int) := by omega
    refine f10.lim rfl (n := 2) ?_
    unfold f10.e
    (repeat' (first | refine Rf (fun hF hG => ?_) (fun hF hG => ?_) | assumption | (show Ext _ _; exact Ext.go) | (simp only [AHeap.next_alloc, AHeap.next_set, AHeap.next_kill, AHeap.next_res] at hle hsame) | simp (disch := first | exact D.go | fail) [setR, List.getElem?_cons_zero, List.getElem?_cons_succ, hc.rd0, hc.rd1, hc.rd2, hc.rd3, hc.rd4, hc.rd5, sr.len, ss.len, sf.len, si.len, su.len, sr.self, ss.self, sf.self, si.self, su.self, smallB, h12, *]))
theorem tSmall_nil (hb : AHeap) : Ret ((AM.lim ⟨P, I, genF P Sh.prims⟩) 10 [.nilp] hb) hb (.bool false) := by
  refine f10.lim rfl (n := 2) ?_
  unfold f10.e
  (repeat' (first | refine Rf (fun hF hG => ?_) (fun hF hG => ?_) | assumption | (show Ext _ _; exact Ext.go) | (simp only [AHeap.next_alloc, AHeap.next_set, AHeap.next_kill, AHeap.next_res] at hle hsame) | simp (disch := first | exact D.go | fail) [setR, List.getElem?_cons_zero, List.getElem?_cons_succ, setR, *]))
/-! what is known of it -/
structure SmOk (q : Pg) : Prop where
  funcs : q.funcs.length ≤ 12
  blocks : ∀ f ∈ q.funcs, f.blocks.length ≤ 14
  pts : (pgPts 0 q.funcs).length ≤ 150
theorem mcs_le (f : Int) : ∀ (l : List Bk) (b : Nat), mcs l ≤ 150 → (fuPts f b l).length = mcs l ∧ ∀ x ∈ l, x.code.length ≤ 150
  | [], b, _ => by simp [fuPts, mcs]
  | x :: r, b, h => by
    simp only [mcs] at h
    have hm : mc x = x.code.length := by unfold mc at h ⊢; omega
    obtain ⟨h1, h2⟩ := mcs_le f r (b + 1) (by omega)
    refine ⟨?_, fun y hy => ?_⟩
    · simp only [fuPts, List.length_append, bkPts_len, h1, mcs, hm]; omega
    · rcases List.mem_cons.1 hy with rfl | hy
      · omega
      · exact h2 y hy
theorem smFrom_ok : ∀ (l : List Fu) (i m : Nat), smFrom m l = true → m ≤ 150 ∧ (∀ f ∈ l, f.blocks.length ≤ 14) ∧ m + (pgPts i l).length ≤ 150
  | [], i, m, h => by simp [smFrom] at h; simp [pgPts, h]
  | f :: r, i, m, h => by
    simp only [smFrom, Bool.and_eq_true, Bool.not_eq_true', dc_eq_false] at h
    obtain ⟨h1, h2, h3⟩ := smFrom_ok r (i + 1) _ h.2
    have hc := (mcs_le i f.blocks 0 (by omega)).1
    refine ⟨by omega, fun g hg => ?_, ?_⟩
    · rcases List.mem_cons.1 hg with rfl | hg
      · have := h.1.1; omega
      · exact h2 g hg
    · simp only [pgPts, List.length_append, hc]; omega
theorem SmOk.of {q : Pg} (h : smallB q = true) : SmOk q := by
  simp only [smallB, Bool.and_eq_true, Bool.not_eq_true', dc_eq_false] at h
  obtain ⟨⟨⟨⟨⟨h1, _⟩, _⟩, _⟩, _⟩, h2⟩ := h
  obtain ⟨_, a, b⟩ := smFrom_ok q.funcs 0 0 h2
  exact ⟨by omega, a, by omega⟩
theorem fuPts_code {f : Int} : ∀ (l : List Bk) (b : Nat), ∀ x ∈ l, x.code.length < (fuPts f b l).length
  | [], b, x, h => by simp at h
  | y :: r, b, x, h => by
    simp only [fuPts, List.length_append, bkPts_len]
    rcases List.mem_cons.1 h with rfl | h
    · omega
    · have := fuPts_code (f := f) r (b + 1) x h; omega
theorem pgPts_fu : ∀ (l : List Fu) (i : Nat), ∀ f ∈ l, ∀ j : Int, (fuPts j 0 f.blocks).length ≤ (pgPts i l).length
  | [], i, f, h, j => by simp at h
  | g :: r, i, f, h, j => by
    simp only [pgPts, List.length_append]
    have hl : ∀ (l : List Bk) (b : Nat) (x y : Int), (fuPts x b l).length = (fuPts y b l).length := by
      intro l
      induction l with
      | nil => intro b x y; rfl
      | cons z l ih => intro b x y; simp only [fuPts, List.length_append, bkPts_len, ih (b + 1) x y]
    rcases List.mem_cons.1 h with rfl | h
    · rw [hl f.blocks 0 j i]; omega
    · have := pgPts_fu r (i + 1) f h j; omega
theorem SmOk.code {q : Pg} (h : SmOk q) : ∀ f ∈ q.funcs, ∀ b ∈ f.blocks, b.code.length ≤ 150 := fun f hf b hb => by
  have h1 := fuPts_code (f := 0) f.blocks 0 b hb
  have h2 := pgPts_fu q.funcs 0 f hf 0
  have := h.pts
  omega
end
end
end Go.Proofs.YtblblpmkdmociaaDoor.Tx

set_option linter.unusedSimpArgs false
set_option linter.unusedVariables false
namespace Go.Proofs.YtblblpmkdmociaaDoor.Tx
noncomputable section
open Go.AM Go.Proofs.YtblblpmkdmociaaDoor.Sf
section
variable {I : Inp} {h0 : AHeap}
theorem tPoints {l : AM.Loc} {o : Nat} {q : Pg} (hq : PgA I h0 l o q) (hz : (pgPts 0 q.funcs).length ≤ 1000000) (hcode : ∀ f ∈ q.funcs, ∀ b ∈ f.blocks, b.code.length ≤ 1000000) (hb : AHeap) (eb : Ext h0 hb) :
    Res ((AM.lim ⟨P, I, genF P Sh.prims⟩) 13 [.ptr l o] hb) fun u g => PtsO hb g u (pgPts 0 q.funcs) ∧ Ext hb g := by
  obtain ⟨_, ⟨vr, vs, vf, vi, vu, rfl, rm, sr, ss, sf, si, su⟩, hc⟩ := hq
  have lu := su.lt
  obtain ⟨N, hN⟩ := Evt.loop' q.funcs (F := fun i n => ∀ acc v h, PtsO hb h v acc → Ext hb h → acc.length + (pgPts i (q.funcs.drop i)).length ≤ 1000000 → Res ((f13.J I (AM.lim ⟨P, I, genF P Sh.prims⟩) (n)).1.2.1 (.ptr l o) v (.int .i64 q.funcs.length) (.int .i64 i) h) fun u g => PtsO hb g u (acc ++ pgPts i (q.funcs.drop i)) ∧ Ext hb g)
    (Evt.all 5 fun n acc v h hv e hn => by
      rw [f13.n2]; unfold f13.b2
      (repeat' (first | refine Rf (fun hF hG => ?_) (fun hF hG => ?_) | assumption | (show Ext _ _; exact Ext.go) | (simp only [AHeap.next_alloc, AHeap.next_set, AHeap.next_kill, AHeap.next_res] at hle hsame) | simp (disch := first | exact D.go | fail) [setR, List.getElem?_cons_zero, List.getElem?_cons_succ, f13.n0, f13.b0, f13.n1, f13.b1, f13.n3, f13.b3, f13.n4, f13.b4, f13.n5, f13.b5, f13.n6, f13.b6, f13.n7, f13.b7, f13.n8, f13.b8, f13.n9, f13.b9, f13.n10, f13.b10, hc.rd0, hc.rd1, hc.rd2, hc.rd3, hc.rd4, hc.rd5, sr.len, ss.len, sf.len, si.len, su.len, sr.self, ss.self, sf.self, si.self, su.self, pgPts, *])))
    (fun i f hf hfo => by
      obtain ⟨lf, of, hif, ⟨_, ⟨wr, wb, rfl, r0, swr, swb⟩, hwf⟩⟩ := su.at hf
      have hlt := lt_of_get hf; have hw := wrap_in (n := (i : Int) + 1) ⟨by omega, by omega⟩
      have lb := swb.lt
      simp only [Int.natCast_add, Int.natCast_one] at hfo
      have inner := Evt.loop' f.blocks (F := fun b n => ∀ acc v h, PtsO hb h v acc → Ext hb h → acc.length + (fuPts i b (f.blocks.drop b) ++ pgPts (i + 1) (q.funcs.drop (i + 1))).length ≤ 1000000 → Res ((f13.J I (AM.lim ⟨P, I, genF P Sh.prims⟩) (n)).2.1.1 (.ptr l o) v (.int .i64 i) (.int .i64 q.funcs.length) (.int .i64 i) (.int .i64 f.blocks.length) (.int .i64 b) h) fun u g =>
          PtsO hb g u (acc ++ (fuPts i b (f.blocks.drop b) ++ pgPts (i + 1) (q.funcs.drop (i + 1)))) ∧ Ext hb g)
        (Evt.step 5 hfo fun n hn acc v h hv e hl => by
          have hlo := e.lo
          have hl' : acc.length + (pgPts (i + 1) (q.funcs.drop (i + 1))).length ≤ 1000000 := by simpa [fuPts] using hl
          have := fun m hm => hn m hm acc v h hv e hl'
          rw [f13.n5]; unfold f13.b5
          (repeat' (first | refine Rf (fun hF hG => ?_) (fun hF hG => ?_) | assumption | (show Ext _ _; exact Ext.go) | (simp only [AHeap.next_alloc, AHeap.next_set, AHeap.next_kill, AHeap.next_res] at hle hsame) | simp (disch := first | exact D.go | fail) [setR, List.getElem?_cons_zero, List.getElem?_cons_succ, f13.n4, f13.b4, hc.rd0, hc.rd1, hc.rd2, hc.rd3, hc.rd4, hc.rd5, sr.len, ss.len, sf.len, si.len, su.len, sr.self, ss.self, sf.self, si.self, su.self, hif, hwf.rd2, swb.len, hw, fuPts, *])))
        (fun b x hx hbo => by
          obtain ⟨l1, o1, hib, ⟨_, ⟨vc, rfl, sc, q1, q2, q3, q4⟩, ha⟩⟩ := swb.at hx
          have hltb := lt_of_get hx; have hwb := wrap_in (n := (b : Int) + 1) ⟨by omega, by omega⟩
          simp only [Int.natCast_add, Int.natCast_one] at hbo
          have lc := hcode f (List.mem_of_getElem? hf) x (List.mem_of_getElem? hx)
          have hwc := wrap_in (n := (x.code.length : Int) + 1) ⟨by omega, by omega⟩
          have inn := Evt.loop (List.range (x.code.length + 1)) (F := fun j n => ∀ acc v h, PtsO hb h v acc → Ext hb h → acc.length + (bkPts i b j (x.code.length + 1 - j) ++ (fuPts i (b + 1) (f.blocks.drop (b + 1)) ++ pgPts (i + 1) (q.funcs.drop (i + 1)))).length ≤ 1000000 →
              Res ((f13.J I (AM.lim ⟨P, I, genF P Sh.prims⟩) (n)).2.2.1 (.ptr l o) v (.int .i64 i) (.int .i64 b) (.int .i64 q.funcs.length) (.int .i64 i) (.int .i64 f.blocks.length) (.int .i64 b) (.int .i64 ((x.code.length : Int) + 1)) (.int .i64 j) h) fun u g => PtsO hb g u (acc ++ (bkPts i b j (x.code.length + 1 - j) ++ (fuPts i (b + 1) (f.blocks.drop (b + 1)) ++ pgPts (i + 1) (q.funcs.drop (i + 1))))) ∧ Ext hb g) 8
            (by
              simp only [List.length_range]
              exact Evt.step 8 hbo fun n hn acc v h hv e hl => by
                have hle : ¬ ((x.code.length : Int) + 1 < (x.code.length : Int) + 1) := by omega
                have hl' : acc.length + (fuPts i (b + 1) (f.blocks.drop (b + 1)) ++ pgPts (i + 1) (q.funcs.drop (i + 1))).length ≤ 1000000 := by simpa [bkPts] using hl
                have hn' := fun m hm => hn m hm acc v h hv e hl'
                rw [f13.n8]; unfold f13.b8
                (repeat' (first | refine Rf (fun hF hG => ?_) (fun hF hG => ?_) | assumption | (show Ext _ _; exact Ext.go) | (simp only [AHeap.next_alloc, AHeap.next_set, AHeap.next_kill, AHeap.next_res] at hle hsame) | simp (disch := first | exact D.go | fail) [setR, List.getElem?_cons_zero, List.getElem?_cons_succ, f13.n7, f13.b7, hwb, hle, bkPts, *])))
            (fun j y n hy ih acc v h hv e hl => by
              have hj : j < x.code.length + 1 := by simpa using lt_of_get hy
              have hjl : (j : Int) < (x.code.length : Int) + 1 := by omega
              have hwj := wrap_in (n := (j : Int) + 1) ⟨by omega, by omega⟩
              simp only [Int.natCast_add, Int.natCast_one] at ih
              have hb1 : bkPts i b j (x.code.length + 1 - j) = ⟨i, b, j⟩ :: bkPts i b (j + 1) (x.code.length + 1 - (j + 1)) := by
                rw [show x.code.length + 1 - j = (x.code.length + 1 - (j + 1)) + 1 by omega]; rfl
              rw [hb1] at hl ⊢
              have hlo := e.lo
              rw [f13.n8]; unfold f13.b8
              (repeat' (first | refine Rf (fun hF hG => ?_) (fun hF hG => ?_) | assumption | (show Ext _ _; exact Ext.go) | (simp only [AHeap.next_alloc, AHeap.next_set, AHeap.next_kill, AHeap.next_res] at hle hsame) | simp (disch := first | exact D.go | fail) [setR, List.getElem?_cons_zero, List.getElem?_cons_succ, f13.n9, f13.b9, hjl, *]))
              refine Res.after (app_pt (hv.mono (Ext.refl h).alloc) e.alloc ⟨i, b, j⟩ (by omega) (AHeap.alloc_at (Nb.o rfl))) (fun u g hA => ?_)
              have hi2 := fun m hm => ih m hm (acc ++ [⟨i, b, j⟩]) u g hA.1 hA.2 (by simp at hl ⊢; omega)
              simp only [List.append_assoc, List.cons_append, List.nil_append, Nat.add_sub_add_right] at hi2
              (repeat' (first | refine Rf (fun hF hG => ?_) (fun hF hG => ?_) | assumption | (show Ext _ _; exact Ext.go) | (simp only [AHeap.next_alloc, AHeap.next_set, AHeap.next_kill, AHeap.next_res] at hle hsame) | simp (disch := first | exact D.go | fail) [setR, List.getElem?_cons_zero, List.getElem?_cons_succ, f13.n10, f13.b10, hwj, *])))
            0 (by omega)
          refine Evt.step 5 inn fun n hn acc v h hv e hl => ?_
          rw [drop_of_get hx] at hl ⊢
          have hn' := fun m hm => hn m hm acc v h hv e (by simpa [fuPts] using hl)
          simp only [Nat.sub_zero] at hn'
          have hlo := e.lo
          rw [f13.n5]; unfold f13.b5
          (repeat' (first | refine Rf (fun hF hG => ?_) (fun hF hG => ?_) | assumption | (show Ext _ _; exact Ext.go) | (simp only [AHeap.next_alloc, AHeap.next_set, AHeap.next_kill, AHeap.next_res] at hle hsame) | simp (disch := first | exact D.go | fail) [setR, List.getElem?_cons_zero, List.getElem?_cons_succ, f13.n6, f13.b6, hc.rd0, hc.rd1, hc.rd2, hc.rd3, hc.rd4, hc.rd5, sr.len, ss.len, sf.len, si.len, su.len, sr.self, ss.self, sf.self, si.self, su.self, hif, hwf.rd2, hib, ha.rd0, sc.len, hltb, hwc, fuPts, List.append_assoc, *]))
          exact hn' _ (by omega))
        0 (by omega)
      refine Evt.step 5 inner fun n hn acc v h hv e hl => ?_
      rw [drop_of_get hf] at hl ⊢
      have hn' := fun m hm => hn m hm acc v h hv e (by simpa [pgPts] using hl)
      simp only [List.drop_zero] at hn'
      have hlo := e.lo
      rw [f13.n2]; unfold f13.b2
      (repeat' (first | refine Rf (fun hF hG => ?_) (fun hF hG => ?_) | assumption | (show Ext _ _; exact Ext.go) | (simp only [AHeap.next_alloc, AHeap.next_set, AHeap.next_kill, AHeap.next_res] at hle hsame) | simp (disch := first | exact D.go | fail) [setR, List.getElem?_cons_zero, List.getElem?_cons_succ, f13.n3, f13.b3, hc.rd0, hc.rd1, hc.rd2, hc.rd3, hc.rd4, hc.rd5, sr.len, ss.len, sf.len, si.len, su.len, sr.self, ss.self, sf.self, si.self, su.self, hif, hwf.rd2, swb.len, hlt, pgPts, *]))
      exact hn' _ (by omega))
    0 (by omega)
  refine f13.lim rfl (n := N + 1) ?_
  unfold f13.e
  have := hN N (Nat.le_refl _) [] .nils hb (.inl ⟨rfl, rfl⟩) (Ext.refl hb) (by simpa using hz)
  (repeat' (first | refine Rf (fun hF hG => ?_) (fun hF hG => ?_) | assumption | (show Ext _ _; exact Ext.go) | (simp only [AHeap.next_alloc, AHeap.next_set, AHeap.next_kill, AHeap.next_res] at hle hsame) | simp (disch := first | exact D.go | fail) [setR, List.getElem?_cons_zero, List.getElem?_cons_succ, f13.n0, f13.b0, hc.rd0, hc.rd1, hc.rd2, hc.rd3, hc.rd4, hc.rd5, sr.len, ss.len, sf.len, si.len, su.len, sr.self, ss.self, sf.self, si.self, su.self, *]))
/-! a point's block -/
def fu0' : Fu := ⟨0, [], []⟩
def bk0 : Bk := ⟨[], 0, 0, 0, 0⟩
/-- The block that a point is of. -/
def ofBk (q : Pg) (p : Pt) (fi bi j : Nat) (f : Fu) (b : Bk) : Prop := p = ⟨fi, bi, j⟩ ∧ q.funcs[fi]? = some f ∧ f.blocks[bi]? = some b ∧ j ≤ b.code.length
theorem isPt (q : Pg) (p : Pt) : (∃ fi bi j f b, ofBk q p fi bi j f b) ∨ (p.f < 0 ∨ (q.funcs.length : Int) ≤ p.f ∨ ∃ (fi : Nat) (f : Fu), p.f = fi ∧ q.funcs[fi]? = some f ∧ (p.b < 0 ∨ (f.blocks.length : Int) ≤ p.b ∨ ∃ (bi : Nat) (b : Bk), p.b = bi ∧ f.blocks[bi]? = some b ∧ (p.i < 0 ∨ (b.code.length : Int) < p.i))) := by
  obtain ⟨pf, pb, pi⟩ := p
  by_cases h1 : pf < 0
  · exact .inr (.inl h1)
  by_cases h2 : (q.funcs.length : Int) ≤ pf
  · exact .inr (.inr (.inl h2))
  obtain ⟨fi, rfl⟩ : ∃ n : Nat, pf = n := ⟨pf.toNat, by omega⟩
  have hfl : fi < q.funcs.length := by omega
  have hf := List.getElem?_eq_getElem hfl
  by_cases h3 : pb < 0
  · exact .inr (.inr (.inr ⟨fi, _, rfl, hf, .inl h3⟩))
  by_cases h4 : ((q.funcs[fi]).blocks.length : Int) ≤ pb
  · exact .inr (.inr (.inr ⟨fi, _, rfl, hf, .inr (.inl h4)⟩))
  obtain ⟨bi, rfl⟩ : ∃ n : Nat, pb = n := ⟨pb.toNat, by omega⟩
  have hbl : bi < (q.funcs[fi]).blocks.length := by omega
  have hb := List.getElem?_eq_getElem hbl
  by_cases h5 : pi < 0
  · exact .inr (.inr (.inr ⟨fi, _, rfl, hf, .inr (.inr ⟨bi, _, rfl, hb, .inl h5⟩)⟩))
  by_cases h6 : (((q.funcs[fi]).blocks[bi]).code.length : Int) < pi
  · exact .inr (.inr (.inr ⟨fi, _, rfl, hf, .inr (.inr ⟨bi, _, rfl, hb, .inr h6⟩)⟩))
  obtain ⟨j, rfl⟩ : ∃ n : Nat, pi = n := ⟨pi.toNat, by omega⟩
  exact .inl ⟨fi, bi, j, _, _, rfl, hf, hb, by omega⟩
theorem tblock_some {l : AM.Loc} {o : Nat} {q : Pg} (hq : PgA I h0 l o q) {p : Pt} {fi bi j : Nat} {f : Fu} {b : Bk} (hp : ofBk q p fi bi j f b) :
    ∃ lb ob, At I h0 (BkC I h0) lb ob b ∧ ∀ hb, Ext h0 hb → Ret ((AM.lim ⟨P, I, genF P Sh.prims⟩) 32 [.ptr l o, ptV p] hb) hb (.ptr lb ob) := by
  obtain ⟨_, ⟨vr, vs, vf, vi, vu, rfl, rm, sr, ss, sf, si, su⟩, hc⟩ := hq
  obtain ⟨rfl, hf, hb', hj⟩ := hp
  obtain ⟨lf, of, hif, ⟨_, ⟨wr, wb, rfl, r0, swr, swb⟩, hwf⟩⟩ := su.at hf
  obtain ⟨l1, o1, hib, hA⟩ := swb.at hb'
  refine ⟨l1, o1, hA, fun hb eb => ?_⟩
  obtain ⟨_, ⟨vc, rfl, sc, q1, q2, q3, q4⟩, ha⟩ := hA
  have hl1 := lt_of_get hf; have hl2 := lt_of_get hb'
  have n1 : ¬ (fi : Int) < 0 := by omega
  have n2 : ¬ (bi : Int) < 0 := by omega
  have n3 : ¬ (j : Int) < 0 := by omega
  have m1 : ¬ q.funcs.length ≤ fi := by omega
  have m2 : ¬ f.blocks.length ≤ bi := by omega
  have m3 : ¬ b.code.length < j := by omega
  refine f32.lim rfl (n := 3) ?_
  unfold f32.e
  (repeat' (first | refine Rf (fun hF hG => ?_) (fun hF hG => ?_) | assumption | (show Ext _ _; exact Ext.go) | (simp only [AHeap.next_alloc, AHeap.next_set, AHeap.next_kill, AHeap.next_res] at hle hsame) | simp (disch := first | exact D.go | fail) [setR, List.getElem?_cons_zero, List.getElem?_cons_succ, f32.n0, f32.b0, f32.n1, f32.b1, hc.rd0, hc.rd1, hc.rd2, hc.rd3, hc.rd4, hc.rd5, sr.len, ss.len, sf.len, si.len, su.len, sr.self, ss.self, sf.self, si.self, su.self, hif, hwf.rd2, swb.len, hib, ha.rd0, sc.len, n1, n2, n3, m1, m2, m3, *]))
theorem tblock_none {l : AM.Loc} {o : Nat} {q : Pg} (hq : PgA I h0 l o q) {p : Pt} (hp : ∀ fi bi j f b, ¬ ofBk q p fi bi j f b) (hb : AHeap) (eb : Ext h0 hb) : Ret ((AM.lim ⟨P, I, genF P Sh.prims⟩) 32 [.ptr l o, ptV p] hb) hb .nilp := by
  obtain ⟨_, ⟨vr, vs, vf, vi, vu, rfl, rm, sr, ss, sf, si, su⟩, hc⟩ := hq
  rcases isPt q p with ⟨fi, bi, j, f, b, h⟩ | h1 | h1 | ⟨fi, f, h1, hf, h2⟩
  · exact absurd h (hp _ _ _ _ _)
  · refine f32.lim rfl (n := 3) ?_
    unfold f32.e
    (repeat' (first | refine Rf (fun hF hG => ?_) (fun hF hG => ?_) | assumption | (show Ext _ _; exact Ext.go) | (simp only [AHeap.next_alloc, AHeap.next_set, AHeap.next_kill, AHeap.next_res] at hle hsame) | simp (disch := first | exact D.go | fail) [setR, List.getElem?_cons_zero, List.getElem?_cons_succ, f32.n0, f32.b0, f32.n1, f32.b1, h1, *]))
  · have h1' : ¬ p.f < 0 := by omega
    refine f32.lim rfl (n := 3) ?_
    unfold f32.e
    (repeat' (first | refine Rf (fun hF hG => ?_) (fun hF hG => ?_) | assumption | (show Ext _ _; exact Ext.go) | (simp only [AHeap.next_alloc, AHeap.next_set, AHeap.next_kill, AHeap.next_res] at hle hsame) | simp (disch := first | exact D.go | fail) [setR, List.getElem?_cons_zero, List.getElem?_cons_succ, f32.n0, f32.b0, f32.n1, f32.b1, hc.rd0, hc.rd1, hc.rd2, hc.rd3, hc.rd4, hc.rd5, sr.len, ss.len, sf.len, si.len, su.len, sr.self, ss.self, sf.self, si.self, su.self, h1, h1', *]))
  · obtain ⟨lf, of, hif, ⟨_, ⟨wr, wb, rfl, r0, swr, swb⟩, hwf⟩⟩ := su.at hf
    have hl1 := lt_of_get hf
    have n1 : ¬ (fi : Int) < 0 := by omega
    have m1 : ¬ q.funcs.length ≤ fi := by omega
    rcases h2 with h2 | h2 | ⟨bi, b, h2, hb', h3⟩
    · refine f32.lim rfl (n := 3) ?_
      unfold f32.e
      (repeat' (first | refine Rf (fun hF hG => ?_) (fun hF hG => ?_) | assumption | (show Ext _ _; exact Ext.go) | (simp only [AHeap.next_alloc, AHeap.next_set, AHeap.next_kill, AHeap.next_res] at hle hsame) | simp (disch := first | exact D.go | fail) [setR, List.getElem?_cons_zero, List.getElem?_cons_succ, f32.n0, f32.b0, f32.n1, f32.b1, hc.rd0, hc.rd1, hc.rd2, hc.rd3, hc.rd4, hc.rd5, sr.len, ss.len, sf.len, si.len, su.len, sr.self, ss.self, sf.self, si.self, su.self, hif, hwf.rd2, swb.len, n1, m1, h1, h2, *]))
    · have h2' : ¬ p.b < 0 := by omega
      refine f32.lim rfl (n := 3) ?_
      unfold f32.e
      (repeat' (first | refine Rf (fun hF hG => ?_) (fun hF hG => ?_) | assumption | (show Ext _ _; exact Ext.go) | (simp only [AHeap.next_alloc, AHeap.next_set, AHeap.next_kill, AHeap.next_res] at hle hsame) | simp (disch := first | exact D.go | fail) [setR, List.getElem?_cons_zero, List.getElem?_cons_succ, f32.n0, f32.b0, f32.n1, f32.b1, hc.rd0, hc.rd1, hc.rd2, hc.rd3, hc.rd4, hc.rd5, sr.len, ss.len, sf.len, si.len, su.len, sr.self, ss.self, sf.self, si.self, su.self, hif, hwf.rd2, swb.len, n1, m1, h1, h2, h2', *]))
    · obtain ⟨l1, o1, hib, ⟨_, ⟨vc, rfl, sc, q1, q2, q3, q4⟩, ha⟩⟩ := swb.at hb'
      have hl2 := lt_of_get hb'
      have n2 : ¬ (bi : Int) < 0 := by omega
      have m2 : ¬ f.blocks.length ≤ bi := by omega
      rcases h3 with h3 | h3
      · refine f32.lim rfl (n := 3) ?_
        unfold f32.e
        (repeat' (first | refine Rf (fun hF hG => ?_) (fun hF hG => ?_) | assumption | (show Ext _ _; exact Ext.go) | (simp only [AHeap.next_alloc, AHeap.next_set, AHeap.next_kill, AHeap.next_res] at hle hsame) | simp (disch := first | exact D.go | fail) [setR, List.getElem?_cons_zero, List.getElem?_cons_succ, f32.n0, f32.b0, f32.n1, f32.b1, hc.rd0, hc.rd1, hc.rd2, hc.rd3, hc.rd4, hc.rd5, sr.len, ss.len, sf.len, si.len, su.len, sr.self, ss.self, sf.self, si.self, su.self, hif, hwf.rd2, swb.len, hib, ha.rd0, sc.len, n1, n2, m1, m2, h1, h2, h3, *]))
      · have h3' : ¬ p.i < 0 := by omega
        refine f32.lim rfl (n := 3) ?_
        unfold f32.e
        (repeat' (first | refine Rf (fun hF hG => ?_) (fun hF hG => ?_) | assumption | (show Ext _ _; exact Ext.go) | (simp only [AHeap.next_alloc, AHeap.next_set, AHeap.next_kill, AHeap.next_res] at hle hsame) | simp (disch := first | exact D.go | fail) [setR, List.getElem?_cons_zero, List.getElem?_cons_succ, f32.n0, f32.b0, f32.n1, f32.b1, hc.rd0, hc.rd1, hc.rd2, hc.rd3, hc.rd4, hc.rd5, sr.len, ss.len, sf.len, si.len, su.len, sr.self, ss.self, sf.self, si.self, su.self, hif, hwf.rd2, swb.len, hib, ha.rd0, sc.len, n1, n2, m1, m2, h1, h2, h3, h3', *]))
end
end
end Go.Proofs.YtblblpmkdmociaaDoor.Tx

set_option linter.unusedSimpArgs false
set_option linter.unusedVariables false
namespace Go.Proofs.YtblblpmkdmociaaDoor.Tx
noncomputable section
open Go.AM Go.Proofs.YtblblpmkdmociaaDoor.Sf
section
variable {I : Inp} {h0 : AHeap}
/-! the n-th point -/
theorem bkPts_get {f b : Int} {k : Nat} : ∀ (c j : Nat), k < c → (bkPts f b j c)[k]? = some ⟨f, b, ((j + k : Nat) : Int)⟩
  | 0, j, h => by omega
  | c + 1, j, h => by
    match k with
    | 0 => rfl
    | k + 1 =>
      rw [bkPts, List.getElem?_cons_succ, bkPts_get c (j + 1) (by omega)]
      congr 3; omega
theorem bkPts_app {f b : Int} {k c : Nat} (r : List Pt) : (bkPts f b 0 c ++ r)[k]? = if (k : Int) < (c : Int) then some ⟨f, b, k⟩ else r[k - c]? := by
  by_cases h : k < c
  · rw [if_pos (by omega), List.getElem?_append_left (by rw [bkPts_len]; exact h), bkPts_get c 0 h]; simp
  · rw [if_neg (by omega), List.getElem?_append_right (by rw [bkPts_len]; omega), bkPts_len]
def pV (r : Option Pt) : AVal := .tuple [ptV (r.getD ⟨0, 0, 0⟩), .bool r.isSome]
@[simp] theorem pV_none : pV none = .tuple [ptV ⟨0, 0, 0⟩, .bool false] := rfl
@[simp] theorem pV_some (p : Pt) : pV (some p) = .tuple [ptV p, .bool true] := rfl
theorem tPoint {l : AM.Loc} {o : Nat} {q : Pg} (hq : PgA I h0 l o q) (hcode : ∀ f ∈ q.funcs, ∀ b ∈ f.blocks, b.code.length ≤ 1000000) (m : Nat) (hm : m ≤ 9223372036854775807) (hs : AHeap) (es0 : Ext h0 hs) :
    Ret ((AM.lim ⟨P, I, genF P Sh.prims⟩) 34 [.ptr l o, .int .i64 m] hs) hs (pV (pgPts 0 q.funcs)[m]?) := by
  obtain ⟨_, ⟨vr, vs, vf, vi, vu, rfl, rm, sr, ss, sf, si, su⟩, hc⟩ := hq
  have lu := su.lt
  obtain ⟨N, hN⟩ := Evt.loop' q.funcs (F := fun i n => ∀ (hb : AHeap) (k2 : Nat), Ext hs hb → hs.next ≤ k2 → k2 < hb.next → (∀ g, Ext hb g → g.get k2 = some ⟨[Z 0, Z 0, Z 0], true⟩) → ∀ (m : Nat) h, m ≤ 9223372036854775807 → Ext hb h → Res ((f34.J I (AM.lim ⟨P, I, genF P Sh.prims⟩) (n)).1.2.1 (.ptr l o) (.int .i64 m) (.ptr (.own k2) 0) (.int .i64 q.funcs.length) (.int .i64 i) h) fun u g => u = pV (pgPts i (q.funcs.drop i))[m]? ∧ Ext hs g)
    (Evt.all 5 fun n hb k2 es lo2 hi2 hval m h hm e => by
      have eb := es0.trans es; have hlo := e.lo; have hls := es.lo
      rw [f34.n2]; unfold f34.b2
      (repeat' (first | refine Rf (fun hF hG => ?_) (fun hF hG => ?_) | assumption | (show Ext _ _; exact Ext.go) | (simp only [AHeap.next_alloc, AHeap.next_set, AHeap.next_kill, AHeap.next_res] at hle hsame) | simp (disch := first | exact D.go | fail) [setR, List.getElem?_cons_zero, List.getElem?_cons_succ, f34.n0, f34.b0, f34.n1, f34.b1, f34.n3, f34.b3, f34.n4, f34.b4, f34.n5, f34.b5, f34.n6, f34.b6, f34.n7, f34.b7, f34.n8, f34.b8, hc.rd0, hc.rd1, hc.rd2, hc.rd3, hc.rd4, hc.rd5, sr.len, ss.len, sf.len, si.len, su.len, sr.self, ss.self, sf.self, si.self, su.self, hval, pgPts, *])))
    (fun i f hf hfo => by
      obtain ⟨lf, of, hif, ⟨_, ⟨wr, wb, rfl, r0, swr, swb⟩, hwf⟩⟩ := su.at hf
      have hlt := lt_of_get hf; have hw := wrap_in (n := (i : Int) + 1) ⟨by omega, by omega⟩
      have lb := swb.lt
      simp only [Int.natCast_add, Int.natCast_one] at hfo
      have inner := Evt.loop f.blocks (F := fun b n => ∀ (hb : AHeap) (k2 : Nat), Ext hs hb → hs.next ≤ k2 → k2 < hb.next → (∀ g, Ext hb g → g.get k2 = some ⟨[Z 0, Z 0, Z 0], true⟩) → ∀ (m : Nat) h, m ≤ 9223372036854775807 → Ext hb h → Res ((f34.J I (AM.lim ⟨P, I, genF P Sh.prims⟩) (n)).2.1.2 (.ptr l o) (.int .i64 m) (.ptr (.own k2) 0) (.int .i64 i) (.int .i64 q.funcs.length) (.int .i64 i) (.int .i64 f.blocks.length) (.int .i64 b) h) fun u g =>
          u = pV (fuPts i b (f.blocks.drop b) ++ pgPts (i + 1) (q.funcs.drop (i + 1)))[m]? ∧ Ext hs g) 8
        (Evt.step 8 hfo fun n hn hb k2 es lo2 hi2 hval m h hm e => by
          have eb := es0.trans es; have hlo := e.lo; have hls := es.lo
          rw [f34.n5]; unfold f34.b5
          (repeat' (first | refine Rf (fun hF hG => ?_) (fun hF hG => ?_) | assumption | (show Ext _ _; exact Ext.go) | (simp only [AHeap.next_alloc, AHeap.next_set, AHeap.next_kill, AHeap.next_res] at hle hsame) | simp (disch := first | exact D.go | fail) [setR, List.getElem?_cons_zero, List.getElem?_cons_succ, f34.n4, f34.b4, hc.rd0, hc.rd1, hc.rd2, hc.rd3, hc.rd4, hc.rd5, sr.len, ss.len, sf.len, si.len, su.len, sr.self, ss.self, sf.self, si.self, su.self, hw, fuPts, *] | (refine Res.mono (hn _ (by omega) hb k2 es lo2 hi2 hval m _ hm ?_) (fun u g hq => ?_); rotate_left; (obtain ⟨rfl, hq⟩ := hq); rotate_right))))
        (fun b x n hx ih hb k2 es lo2 hi2 hval m h hm e => by
          have eb := es0.trans es; have hlo := e.lo; have hls := es.lo
          obtain ⟨l1, o1, hib, ⟨_, ⟨vc, rfl, sc, q1, q2, q3, q4⟩, ha⟩⟩ := swb.at hx
          have hltb := lt_of_get hx; have hwb := wrap_in (n := (b : Int) + 1) ⟨by omega, by omega⟩
          simp only [Int.natCast_add, Int.natCast_one] at ih
          have lc := hcode f (List.mem_of_getElem? hf) x (List.mem_of_getElem? hx)
          have hwc := wrap_in (n := (x.code.length : Int) + 1) ⟨by omega, by omega⟩
          have hap := bkPts_app (f := i) (b := b) (k := m) (c := x.code.length + 1) (fuPts i (b + 1) (f.blocks.drop (b + 1)) ++ pgPts (i + 1) (q.funcs.drop (i + 1)))
          rw [drop_of_get hx]
          simp only [fuPts, List.append_assoc, hap]
          rw [f34.n5]; unfold f34.b5
          by_cases hmc : (m : Int) < (x.code.length : Int) + 1
          · (repeat' (first | refine Rf (fun hF hG => ?_) (fun hF hG => ?_) | assumption | (show Ext _ _; exact Ext.go) | (simp only [AHeap.next_alloc, AHeap.next_set, AHeap.next_kill, AHeap.next_res] at hle hsame) | simp (disch := first | exact D.go | fail) [setR, List.getElem?_cons_zero, List.getElem?_cons_succ, f34.n6, f34.b6, f34.n7, f34.b7, f34.n8, f34.b8, hc.rd0, hc.rd1, hc.rd2, hc.rd3, hc.rd4, hc.rd5, sr.len, ss.len, sf.len, si.len, su.len, sr.self, ss.self, sf.self, si.self, su.self, hval, hif, hwf.rd2, swb.len, hib, ha.rd0, sc.len, hltb, hwb, hwc, hmc, *]))
          · have hws := wrap_in (n := (m : Int) - ((x.code.length : Int) + 1)) ⟨by omega, by omega⟩
            have hws' : (m : Int) - ((x.code.length : Int) + 1) = ((m - (x.code.length + 1) : Nat) : Int) := by omega
            have ih' := fun m' hm' => ih m' hm' hb k2 es lo2 hi2 hval (m - (x.code.length + 1)) h (by omega) e
            rw [hws'] at hws
            simp only [← hws'] at ih'
            rw [hws'] at ih'
            (repeat' (first | refine Rf (fun hF hG => ?_) (fun hF hG => ?_) | assumption | (show Ext _ _; exact Ext.go) | (simp only [AHeap.next_alloc, AHeap.next_set, AHeap.next_kill, AHeap.next_res] at hle hsame) | simp (disch := first | exact D.go | fail) [setR, List.getElem?_cons_zero, List.getElem?_cons_succ, f34.n6, f34.b6, f34.n7, f34.b7, f34.n8, f34.b8, hc.rd0, hc.rd1, hc.rd2, hc.rd3, hc.rd4, hc.rd5, sr.len, ss.len, sf.len, si.len, su.len, sr.self, ss.self, sf.self, si.self, su.self, hval, hif, hwf.rd2, swb.len, hib, ha.rd0, sc.len, hltb, hwb, hwc, hmc, hws', hws, *])))
        0 (by omega)
      refine Evt.step 8 inner fun n hn hb k2 es lo2 hi2 hval m h hm e => ?_
      have eb := es0.trans es; have hlo := e.lo; have hls := es.lo
      rw [drop_of_get hf]
      rw [f34.n2]; unfold f34.b2
      (repeat' (first | refine Rf (fun hF hG => ?_) (fun hF hG => ?_) | assumption | (show Ext _ _; exact Ext.go) | (simp only [AHeap.next_alloc, AHeap.next_set, AHeap.next_kill, AHeap.next_res] at hle hsame) | simp (disch := first | exact D.go | fail) [setR, List.getElem?_cons_zero, List.getElem?_cons_succ, f34.n3, f34.b3, hc.rd0, hc.rd1, hc.rd2, hc.rd3, hc.rd4, hc.rd5, sr.len, ss.len, sf.len, si.len, su.len, sr.self, ss.self, sf.self, si.self, su.self, hif, hwf.rd2, swb.len, hlt, pgPts, *] | (refine Res.mono (hn _ (by omega) hb k2 es lo2 hi2 hval m _ hm ?_) (fun u g hq => ?_); rotate_left; (obtain ⟨rfl, hq⟩ := hq); rotate_right))))
    0 (by omega)
  refine f34.lim rfl (n := N + 1) ?_
  unfold f34.e
  have h00 : ¬ (m : Int) < 0 := by omega
  have := hN N (by omega) (hs.alloc ⟨[Z 0, Z 0, Z 0], true⟩) hs.next (Ext.refl hs).alloc (Nat.le_refl _) (by simp) (fun g e => by rw [e.same _ (by simp)]; exact AHeap.alloc_at (Nb.o rfl)) m _ hm (Ext.refl _)
  (repeat' (first | refine Rf (fun hF hG => ?_) (fun hF hG => ?_) | assumption | (show Ext _ _; exact Ext.go) | (simp only [AHeap.next_alloc, AHeap.next_set, AHeap.next_kill, AHeap.next_res] at hle hsame) | simp (disch := first | exact D.go | fail) [setR, List.getElem?_cons_zero, List.getElem?_cons_succ, f34.n0, f34.b0, hc.rd0, hc.rd1, hc.rd2, hc.rd3, hc.rd4, hc.rd5, sr.len, ss.len, sf.len, si.len, su.len, sr.self, ss.self, sf.self, si.self, su.self, h00, *]))
  all_goals (exact this)
theorem tPoint_neg {l : AM.Loc} {o : Nat} (m : Int) (hm : m < 0) (hb : AHeap) : Ret ((AM.lim ⟨P, I, genF P Sh.prims⟩) 34 [.ptr l o, .int .i64 m] hb) hb (pV none) := by
  refine f34.lim rfl (n := 1) ?_
  unfold f34.e
  (repeat' (first | refine Rf (fun hF hG => ?_) (fun hF hG => ?_) | assumption | (show Ext _ _; exact Ext.go) | (simp only [AHeap.next_alloc, AHeap.next_set, AHeap.next_kill, AHeap.next_res] at hle hsame) | simp (disch := first | exact D.go | fail) [setR, List.getElem?_cons_zero, List.getElem?_cons_succ, hm, *]))
end
end
end Go.Proofs.YtblblpmkdmociaaDoor.Tx

set_option linter.unusedSimpArgs false
set_option linter.unusedVariables false
namespace Go.Proofs.YtblblpmkdmociaaDoor.Tx
noncomputable section
open Go.AM Go.Proofs.YtblblpmkdmociaaDoor.Sf
section
variable {I : Inp} {h0 : AHeap}
/-! a point's number -/
def lenB : List Bk → Nat
  | [] => 0
  | b :: r => (b.code.length + 1) + lenB r
def lenF : List Fu → Nat
  | [] => 0
  | f :: r => lenB f.blocks + lenF r
theorem fuPts_len (f : Int) : ∀ (l : List Bk) (b : Nat), (fuPts f b l).length = lenB l
  | [], _ => rfl
  | x :: r, b => by simp only [fuPts, List.length_append, bkPts_len, fuPts_len f r, lenB]
theorem pgPts_len : ∀ (l : List Fu) (i : Nat), (pgPts i l).length = lenF l
  | [], _ => rfl
  | f :: r, i => by simp only [pgPts, List.length_append, fuPts_len, pgPts_len r, lenF]
/-- Where a list has a point. -/
def idxFrom (p : Pt) : Int → List Pt → Int
  | _, [] => -1
  | i, x :: r => if (x.f = p.f ∧ x.b = p.b) ∧ x.i = p.i then i else idxFrom p (i + 1) r
def idxP (q : Pg) (p : Pt) : Int := idxFrom p 0 (pgPts 0 q.funcs)
theorem idxFrom_skip {p : Pt} : ∀ (l r : List Pt) (i : Int), (∀ x ∈ l, x ≠ p) → idxFrom p i (l ++ r) = idxFrom p (i + l.length) r
  | [], r, i, _ => by simp
  | x :: l, r, i, h => by
    have hx := h x (by simp)
    have hn : ¬ ((x.f = p.f ∧ x.b = p.b) ∧ x.i = p.i) := fun hh => hx (by obtain ⟨⟨a, b⟩, c⟩ := hh; cases x; cases p; simp_all)
    rw [List.cons_append, idxFrom, if_neg hn, idxFrom_skip l r (i + 1) fun y hy => h y (by simp [hy])]
    simp only [List.length_cons]; congr 1; omega
theorem idxFrom_none {p : Pt} (l : List Pt) (i : Int) (h : ∀ x ∈ l, x ≠ p) : idxFrom p i l = -1 := by
  have := idxFrom_skip l [] i h
  simpa [idxFrom] using this
theorem idx_bk {f b : Int} {k : Nat} (r : List Pt) : ∀ (c j : Nat) (i : Int), j ≤ k → k < j + c → idxFrom ⟨f, b, k⟩ i (bkPts f b j c ++ r) = i + ((k - j : Nat) : Int)
  | 0, j, i, h1, h2 => by omega
  | c + 1, j, i, h1, h2 => by
    rw [bkPts, List.cons_append, idxFrom]
    by_cases h : j = k
    · subst h; rw [if_pos ⟨⟨rfl, rfl⟩, rfl⟩]; simp
    · rw [if_neg (by simp; omega), idx_bk r c (j + 1) (i + 1) (by omega) (by omega)]
      omega
theorem idx_fu {f : Int} {k : Nat} (r : List Pt) : ∀ (l : List Bk) (b : Nat) (i : Int) (bi : Nat) (x : Bk), l[bi]? = some x → k ≤ x.code.length → idxFrom ⟨f, ((b + bi : Nat) : Int), k⟩ i (fuPts f b l ++ r) = i + lenB (l.take bi) + k
  | [], b, i, bi, x, h, _ => by simp at h
  | y :: l, b, i, 0, x, h, hk => by
    simp at h; subst h
    simp only [fuPts, List.append_assoc, Nat.add_zero, List.take_zero, lenB]
    rw [idx_bk _ _ 0 i (Nat.zero_le _) (by omega)]; simp
  | y :: l, b, i, bi + 1, x, h, hk => by
    simp only [fuPts, List.append_assoc]
    rw [idxFrom_skip _ _ _ (fun z hz => by
      obtain ⟨k', _, _, rfl⟩ := bkPts_mem _ _ hz
      intro e; simp at e; omega)]
    have := idx_fu (f := f) r l (b + 1) (i + (bkPts f b 0 (y.code.length + 1)).length) bi x (by simpa using h) hk
    rw [show b + (bi + 1) = b + 1 + bi by omega, this, bkPts_len]
    simp only [List.take_succ_cons, lenB]; omega
theorem idx_pg {bi k : Nat} {x : Bk} : ∀ (l : List Fu) (a : Nat) (i : Int) (fi : Nat) (f : Fu), l[fi]? = some f → f.blocks[bi]? = some x → k ≤ x.code.length → idxFrom ⟨((a + fi : Nat) : Int), (bi : Int), k⟩ i (pgPts a l) = i + lenF (l.take fi) + lenB (f.blocks.take bi) + k
  | [], a, i, fi, f, h, _, _ => by simp at h
  | g :: l, a, i, 0, f, h, hb, hk => by
    simp at h; subst h
    simp only [pgPts, Nat.add_zero, List.take_zero, lenF]
    have := idx_fu (f := (a : Int)) (pgPts (a + 1) l) g.blocks 0 i bi x hb hk
    simp only [Nat.zero_add] at this
    rw [this]; simp
  | g :: l, a, i, fi + 1, f, h, hb, hk => by
    simp only [pgPts]
    rw [idxFrom_skip _ _ _ (fun z hz => by
      obtain ⟨b', k', _, _, _, rfl⟩ := fuPts_mem _ _ hz
      intro e; simp at e; omega)]
    have := idx_pg l (a + 1) (i + (fuPts a 0 g.blocks).length) fi f (by simpa using h) hb hk
    rw [show a + (fi + 1) = a + 1 + fi by omega, this, fuPts_len]
    simp only [List.take_succ_cons, lenF]; omega
theorem idxP_of {q : Pg} {p : Pt} {fi bi j : Nat} {f : Fu} {b : Bk} (h : ofBk q p fi bi j f b) : idxP q p = ((lenF (q.funcs.take fi) + lenB (f.blocks.take bi) + j : Nat) : Int) := by
  obtain ⟨rfl, hf, hb, hj⟩ := h
  have := idx_pg q.funcs 0 0 fi f hf hb hj
  simp only [Nat.zero_add] at this
  unfold idxP
  rw [this]; omega
theorem idxP_none {q : Pg} {p : Pt} (h : ∀ fi bi j f b, ¬ ofBk q p fi bi j f b) : idxP q p = -1 := by
  refine idxFrom_none _ _ fun x hx e => ?_
  subst e
  obtain ⟨fi, bi, k, f, b, h1, h2, h3, h4⟩ := pgPts_mem _ _ hx
  exact h fi bi k f b ⟨by simpa using h4, h1, h2, h3⟩
theorem pt_at {q : Pg} {n : Nat} {p : Pt} (h : (pgPts 0 q.funcs)[n]? = some p) : ∃ fi bi j f b, ofBk q p fi bi j f b := by
  obtain ⟨fi, bi, k, f, b, h1, h2, h3, h4⟩ := pgPts_mem _ _ (List.mem_of_getElem? h)
  exact ⟨fi, bi, k, f, b, by simpa using h4, h1, h2, h3⟩
/-- The list has no point twice. -/
theorem get_bk {f b : Int} {k c : Nat} (r : List Pt) (hk : k < c) : (bkPts f b 0 c ++ r)[k]? = some ⟨f, b, k⟩ := by
  rw [bkPts_app, if_pos (by omega)]
theorem get_fu {f : Int} {k : Nat} (r : List Pt) : ∀ (l : List Bk) (b bi : Nat) (x : Bk), l[bi]? = some x → k ≤ x.code.length → (fuPts f b l ++ r)[lenB (l.take bi) + k]? = some ⟨f, ((b + bi : Nat) : Int), k⟩
  | [], b, bi, x, h, _ => by simp at h
  | y :: l, b, 0, x, h, hk => by
    simp at h; subst h
    simp only [fuPts, List.append_assoc, Nat.add_zero, List.take_zero, lenB, Nat.zero_add]
    exact get_bk _ (by omega)
  | y :: l, b, bi + 1, x, h, hk => by
    simp only [fuPts, List.append_assoc, List.take_succ_cons, lenB]
    rw [List.getElem?_append_right (by rw [bkPts_len]; omega), bkPts_len, show y.code.length + 1 + lenB (l.take bi) + k - (y.code.length + 1) = lenB (l.take bi) + k by omega, get_fu r l (b + 1) bi x (by simpa using h) hk]
    congr 2; omega
theorem get_pg {bi k : Nat} {x : Bk} : ∀ (l : List Fu) (a fi : Nat) (f : Fu), l[fi]? = some f → f.blocks[bi]? = some x → k ≤ x.code.length → (pgPts a l)[lenF (l.take fi) + lenB (f.blocks.take bi) + k]? = some ⟨((a + fi : Nat) : Int), (bi : Int), k⟩
  | [], a, fi, f, h, _, _ => by simp at h
  | g :: l, a, 0, f, h, hb, hk => by
    simp at h; subst h
    simp only [pgPts, Nat.add_zero, List.take_zero, lenF, Nat.zero_add]
    have := get_fu (f := (a : Int)) (pgPts (a + 1) l) g.blocks 0 bi x hb hk
    simpa only [Nat.zero_add] using this
  | g :: l, a, fi + 1, f, h, hb, hk => by
    simp only [pgPts, List.take_succ_cons, lenF]
    rw [List.getElem?_append_right (by rw [fuPts_len]; omega), fuPts_len, show lenB g.blocks + lenF (l.take fi) + lenB (f.blocks.take bi) + k - lenB g.blocks = lenF (l.take fi) + lenB (f.blocks.take bi) + k by omega, get_pg l (a + 1) fi f (by simpa using h) hb hk]
    congr 2; omega
theorem get_of {q : Pg} {p : Pt} {fi bi j : Nat} {f : Fu} {b : Bk} (h : ofBk q p fi bi j f b) : (pgPts 0 q.funcs)[lenF (q.funcs.take fi) + lenB (f.blocks.take bi) + j]? = some p := by
  obtain ⟨rfl, hf, hb, hj⟩ := h
  have := get_pg q.funcs 0 fi f hf hb hj
  simpa using this
theorem idx_get {p : Pt} : ∀ (l : List Pt) (i : Int), idxFrom p i l = -1 ∨ ∃ k : Nat, idxFrom p i l = i + k ∧ l[k]? = some p
  | [], i => .inl rfl
  | x :: r, i => by
    rw [idxFrom]
    split
    · rename_i h
      exact .inr ⟨0, by simp, by obtain ⟨⟨a, b⟩, c⟩ := h; cases x; cases p; simp_all⟩
    · rcases idx_get (p := p) r (i + 1) with h | ⟨k, h1, h2⟩
      · exact .inl h
      · exact .inr ⟨k + 1, by rw [h1]; omega, by simpa using h2⟩
/-- Two points at one number are one; a point's number is one. -/
theorem num_lt {q : Pg} {p : Pt} {fi bi j : Nat} {f : Fu} {b : Bk} (h : ofBk q p fi bi j f b) : lenF (q.funcs.take fi) + lenB (f.blocks.take bi) + j < (pgPts 0 q.funcs).length := (List.getElem?_eq_some_iff.1 (get_of h)).1
theorem nodup_bk {f b : Int} : ∀ (c j : Nat), (bkPts f b j c).Nodup
  | 0, _ => List.nodup_nil
  | c + 1, j => by
    rw [bkPts, List.nodup_cons]
    refine ⟨fun h => ?_, nodup_bk c (j + 1)⟩
    obtain ⟨k, h1, _, h3⟩ := bkPts_mem _ _ h
    simp at h3; omega
theorem nodup_fu {f : Int} : ∀ (l : List Bk) (b : Nat), (fuPts f b l).Nodup
  | [], _ => List.nodup_nil
  | x :: r, b => by
    rw [fuPts, List.nodup_append]
    refine ⟨nodup_bk _ _, nodup_fu r _, fun x hx y hy e => ?_⟩
    subst e
    obtain ⟨k, _, _, rfl⟩ := bkPts_mem _ _ hx
    obtain ⟨b', k', _, _, _, h3⟩ := fuPts_mem _ _ hy
    simp at h3; omega
theorem nodup_pg : ∀ (l : List Fu) (i : Nat), (pgPts i l).Nodup
  | [], _ => List.nodup_nil
  | x :: r, i => by
    rw [pgPts, List.nodup_append]
    refine ⟨nodup_fu _ _, nodup_pg r _, fun x hx y hy e => ?_⟩
    subst e
    obtain ⟨_, _, _, _, _, rfl⟩ := fuPts_mem _ _ hx
    obtain ⟨_, _, _, _, _, _, _, _, h3⟩ := pgPts_mem _ _ hy
    simp at h3; omega
/-- The n-th point has the number n. -/
theorem idxP_get {q : Pg} {n : Nat} {p : Pt} (h : (pgPts 0 q.funcs)[n]? = some p) : idxP q p = n := by
  obtain ⟨fi, bi, j, f, b, hp⟩ := pt_at h
  have h1 := get_of hp
  rw [idxP_of hp]
  obtain ⟨a1, a2⟩ := List.getElem?_eq_some_iff.1 h
  obtain ⟨b1, b2⟩ := List.getElem?_eq_some_iff.1 h1
  have hpw := List.pairwise_iff_getElem.1 (nodup_pg q.funcs 0)
  have hx : lenF (q.funcs.take fi) + lenB (f.blocks.take bi) + j = n := by
    rcases Nat.lt_trichotomy (lenF (q.funcs.take fi) + lenB (f.blocks.take bi) + j) n with h | h | h
    · exact absurd (b2.trans a2.symm) (hpw _ _ b1 a1 h)
    · exact h
    · exact absurd (a2.trans b2.symm) (hpw _ _ a1 b1 h)
  rw [hx]
end
end
end Go.Proofs.YtblblpmkdmociaaDoor.Tx

set_option linter.unusedSimpArgs false
set_option linter.unusedVariables false
namespace Go.Proofs.YtblblpmkdmociaaDoor.Tx
noncomputable section
open Go.AM Go.Proofs.YtblblpmkdmociaaDoor.Sf
section
variable {I : Inp} {h0 : AHeap}
theorem lenB_drop {l : List Bk} {i : Nat} {x : Bk} (h : l[i]? = some x) : lenB (l.drop i) = (x.code.length + 1) + lenB (l.drop (i + 1)) := by rw [drop_of_get h]; rfl
theorem lenF_drop {l : List Fu} {i : Nat} {x : Fu} (h : l[i]? = some x) : lenF (l.drop i) = lenB x.blocks + lenF (l.drop (i + 1)) := by rw [drop_of_get h]; rfl
theorem tNumber {l : AM.Loc} {o : Nat} {q : Pg} (hq : PgA I h0 l o q) (hz : (pgPts 0 q.funcs).length ≤ 1000000) (hcode : ∀ f ∈ q.funcs, ∀ b ∈ f.blocks, b.code.length ≤ 1000000) (p : Pt) (hs : AHeap) (es0 : Ext h0 hs) :
    Ret ((AM.lim ⟨P, I, genF P Sh.prims⟩) 15 [.ptr l o, ptV p] hs) hs (.int .i64 (idxP q p)) := by
  have c0 : ∀ g, Ext (hs.alloc ⟨ptCells p, true⟩) g → g.get hs.next = some ⟨ptCells p, true⟩ := fun g e => by rw [e.same _ (by simp)]; exact AHeap.alloc_at (Nb.o rfl)
  have hld : ∀ g, Ext (hs.alloc ⟨ptCells p, true⟩) g → rds I g (.own hs.next) 0 3 = some [.int .i64 p.f, .int .i64 p.b, .int .i64 p.i] := fun g e => by rw [rds_own', c0 g e]; rfl
  by_cases hp : ∃ fi bi j f b, ofBk q p fi bi j f b
  · obtain ⟨fi, bi, j, f, b, hp⟩ := hp
    obtain ⟨lb, ob, hA, hbk⟩ := tblock_some hq hp
    have hidx := idxP_of hp
    have hnl := num_lt hp
    obtain ⟨rfl, hf, hb', hj⟩ := hp
    obtain ⟨_, ⟨vr, vs, vf, vi, vu, rfl, rm, sr, ss, sf, si, su⟩, hc⟩ := hq
    have lu := su.lt
    obtain ⟨lf, of, hif, ⟨_, ⟨wr, wb, rfl, r0, swr, swb⟩, hwf⟩⟩ := su.at hf
    have lb' := swb.lt
    have hlf := lt_of_get hf; have hlb := lt_of_get hb'
    have hwfi := wrap_in (n := (fi : Int) + 1) ⟨by omega, by omega⟩
    have key : ∀ (hb : AHeap) (k : Nat), Ext hs hb → Cells I hb (.own k) 0 [.int .i64 (fi : Int), .int .i64 (bi : Int), .int .i64 (j : Int)] → Evt fun n => ∀ h, Ext hb h → Res ((f15.J I (AM.lim ⟨P, I, genF P Sh.prims⟩) (n)).1.2.1 (.ptr l o) (.ptr (.own k) 0) (.int .i64 j) (.int .i64 ((fi : Int) + 1)) (Z 0) h) fun u g =>
        u = .int .i64 ((lenF (q.funcs.take fi) + lenB (f.blocks.take bi) + j : Nat) : Int) ∧ Ext hb g := fun hb k es c => by
      have P1 : Evt fun n => ∀ (m : Nat) h, Ext hb h → Res ((f15.J I (AM.lim ⟨P, I, genF P Sh.prims⟩) (n)).1.2.1 (.ptr l o) (.ptr (.own k) 0) (.int .i64 m) (.int .i64 ((fi : Int) + 1)) (.int .i64 ((fi : Int) + 1)) h) fun u g => u = .int .i64 m ∧ Ext hb g :=
        Evt.all 8 fun n m h e => by
          have hn : ¬ ((fi : Int) + 1 < (fi : Int) + 1) := by omega
          rw [f15.n2]; unfold f15.b2
          (repeat' (first | refine Rf (fun hF hG => ?_) (fun hF hG => ?_) | assumption | (show Ext _ _; exact Ext.go) | (simp only [AHeap.next_alloc, AHeap.next_set, AHeap.next_kill, AHeap.next_res] at hle hsame) | simp (disch := first | exact D.go | fail) [setR, List.getElem?_cons_zero, List.getElem?_cons_succ, f15.n1, f15.b1, hn, *]))
      have in2 := Evt.loop f.blocks (F := fun b n => ∀ (m : Nat) h, m + lenB ((f.blocks.take bi).drop b) ≤ 2000000 → Ext hb h → Res ((f15.J I (AM.lim ⟨P, I, genF P Sh.prims⟩) (n)).2.1.2 (.ptr l o) (.ptr (.own k) 0) (.int .i64 m) (.int .i64 fi) (.int .i64 ((fi : Int) + 1)) (.int .i64 fi) (.int .i64 f.blocks.length) (.int .i64 b) h) fun u g =>
          u = .int .i64 ((m + lenB ((f.blocks.take bi).drop b) : Nat) : Int) ∧ Ext hb g) 8
        (Evt.step 8 P1 fun n hn m h hm e => by
          have hlo := e.lo
          have hz' : (f.blocks.take bi).drop f.blocks.length = [] := List.drop_eq_nil_of_le (by rw [List.length_take]; omega)
          have hn' := fun m' hm' => hn m' hm' m h e
          rw [f15.n5]; unfold f15.b5
          (repeat' (first | refine Rf (fun hF hG => ?_) (fun hF hG => ?_) | assumption | (show Ext _ _; exact Ext.go) | (simp only [AHeap.next_alloc, AHeap.next_set, AHeap.next_kill, AHeap.next_res] at hle hsame) | simp (disch := first | exact D.go | fail) [setR, List.getElem?_cons_zero, List.getElem?_cons_succ, f15.n4, f15.b4, f15.n6, f15.b6, f15.n7, f15.b7, hwfi, hz', lenB, *])))
        (fun b' x n hx ih m h hm e => by
          have eb := es0.trans es
          have hlo := e.lo
          obtain ⟨l1, o1, hib, ⟨_, ⟨vc, rfl, sc, q1, q2, q3, q4⟩, ha⟩⟩ := swb.at hx
          have lc := hcode f (List.mem_of_getElem? hf) x (List.mem_of_getElem? hx)
          have hltb := lt_of_get hx; have hwb := wrap_in (n := (b' : Int) + 1) ⟨by omega, by omega⟩
          have hwc := wrap_in (n := (x.code.length : Int) + 1) ⟨by omega, by omega⟩
          simp only [Int.natCast_add, Int.natCast_one] at ih
          have hnf : ¬ ((fi : Int) < fi) := by omega
          rw [f15.n5]; unfold f15.b5
          by_cases hbb : b' < bi
          · have hxt : (f.blocks.take bi)[b']? = some x := by rw [List.getElem?_take_of_lt hbb]; exact hx
            have hld' := lenB_drop hxt
            rw [hld'] at hm
            have hwm := wrap_in (n := (m : Int) + x.code.length + 1) ⟨by omega, by omega⟩
            have ih' := fun m' hm' => ih m' hm' (m + (x.code.length + 1)) h (by omega) e
            simp only [Int.natCast_add, Int.natCast_one] at ih'
            have hbb' : (b' : Int) < bi := by omega
            have hpe : ∀ a b c : Int, a + (b + c) = a + b + c := fun a b c => by omega
            simp only [hpe] at ih'
            (repeat' (first | refine Rf (fun hF hG => ?_) (fun hF hG => ?_) | assumption | (show Ext _ _; exact Ext.go) | (simp only [AHeap.next_alloc, AHeap.next_set, AHeap.next_kill, AHeap.next_res] at hle hsame) | simp (disch := first | exact D.go | fail) [setR, List.getElem?_cons_zero, List.getElem?_cons_succ, f15.n4, f15.b4, f15.n6, f15.b6, f15.n7, f15.b7, hc.rd0, hc.rd1, hc.rd2, hc.rd3, hc.rd4, hc.rd5, sr.len, ss.len, sf.len, si.len, su.len, sr.self, ss.self, sf.self, si.self, su.self, c.rd0, c.rd1, c.rd2, hif, hwf.rd2, swb.len, hib, ha.rd0, sc.len, hltb, hwb, hwc, hnf, hbb', hwm, hld', hpe, *]))
          · have hz1 : (f.blocks.take bi).drop b' = [] := List.drop_eq_nil_of_le (by rw [List.length_take]; omega)
            have hz2 : (f.blocks.take bi).drop (b' + 1) = [] := List.drop_eq_nil_of_le (by rw [List.length_take]; omega)
            have ih' := fun m' hm' => ih m' hm' m h (by rw [hz2]; rw [hz1] at hm; exact hm) e
            rw [hz2] at ih'
            have hbb' : ¬ (b' : Int) < bi := by omega
            (repeat' (first | refine Rf (fun hF hG => ?_) (fun hF hG => ?_) | assumption | (show Ext _ _; exact Ext.go) | (simp only [AHeap.next_alloc, AHeap.next_set, AHeap.next_kill, AHeap.next_res] at hle hsame) | simp (disch := first | exact D.go | fail) [setR, List.getElem?_cons_zero, List.getElem?_cons_succ, f15.n4, f15.b4, f15.n6, f15.b6, f15.n7, f15.b7, c.rd0, c.rd1, c.rd2, hltb, hwb, hnf, hbb', hz1, *])))
        0 (by omega)
      have P2 : Evt fun n => ∀ (m : Nat) h, m + lenB (f.blocks.take bi) ≤ 2000000 → Ext hb h → Res ((f15.J I (AM.lim ⟨P, I, genF P Sh.prims⟩) (n)).1.2.1 (.ptr l o) (.ptr (.own k) 0) (.int .i64 m) (.int .i64 ((fi : Int) + 1)) (.int .i64 fi) h) fun u g => u = .int .i64 ((m + lenB (f.blocks.take bi) : Nat) : Int) ∧ Ext hb g :=
        Evt.step 8 in2 fun n hn m h hm e => by
          have eb := es0.trans es
          have hlo := e.lo
          have hlt : (fi : Int) < (fi : Int) + 1 := by omega
          have hn' := fun m' hm' => hn m' hm' m h (by simpa using hm) e
          simp only [List.drop_zero] at hn'
          rw [f15.n2]; unfold f15.b2
          (repeat' (first | refine Rf (fun hF hG => ?_) (fun hF hG => ?_) | assumption | (show Ext _ _; exact Ext.go) | (simp only [AHeap.next_alloc, AHeap.next_set, AHeap.next_kill, AHeap.next_res] at hle hsame) | simp (disch := first | exact D.go | fail) [setR, List.getElem?_cons_zero, List.getElem?_cons_succ, f15.n3, f15.b3, hc.rd0, hc.rd1, hc.rd2, hc.rd3, hc.rd4, hc.rd5, sr.len, ss.len, sf.len, si.len, su.len, sr.self, ss.self, sf.self, si.self, su.self, hif, hwf.rd2, swb.len, hlt, *]))
          all_goals (exact hn' _ (by omega))
      have P3 := Evt.loop' (q.funcs.take fi) (F := fun i n => ∀ (m : Nat) h, m + lenF ((q.funcs.take fi).drop i) + lenB (f.blocks.take bi) ≤ 2000000 → Ext hb h → Res ((f15.J I (AM.lim ⟨P, I, genF P Sh.prims⟩) (n)).1.2.1 (.ptr l o) (.ptr (.own k) 0) (.int .i64 m) (.int .i64 ((fi : Int) + 1)) (.int .i64 i) h) fun u g =>
          u = .int .i64 ((m + lenF ((q.funcs.take fi).drop i) + lenB (f.blocks.take bi) : Nat) : Int) ∧ Ext hb g)
        (by
          have hl : (q.funcs.take fi).length = fi := by rw [List.length_take]; omega
          have hd : (q.funcs.take fi).drop fi = [] := List.drop_eq_nil_of_le (by omega)
          rw [hl, hd]
          simpa only [lenF, Nat.add_zero] using P2)
        (fun i f' hft hfo => by
          have hi := lt_of_get hft
          have hi' : i < fi := by rw [List.length_take] at hi; omega
          have hf' : q.funcs[i]? = some f' := by rw [List.getElem?_take_of_lt hi'] at hft; exact hft
          have hsp := lenF_drop hft
          obtain ⟨lf2, of2, hif2, ⟨_, ⟨wr2, wb2, rfl, r02, swr2, swb2⟩, hwf2⟩⟩ := su.at hf'
          have lb2 := swb2.lt
          have hwi := wrap_in (n := (i : Int) + 1) ⟨by omega, by omega⟩
          simp only [Int.natCast_add, Int.natCast_one] at hfo
          have inner := Evt.loop f'.blocks (F := fun b n => ∀ (m : Nat) h, m + lenB (f'.blocks.drop b) + lenF ((q.funcs.take fi).drop (i + 1)) + lenB (f.blocks.take bi) ≤ 2000000 → Ext hb h → Res ((f15.J I (AM.lim ⟨P, I, genF P Sh.prims⟩) (n)).2.1.2 (.ptr l o) (.ptr (.own k) 0) (.int .i64 m) (.int .i64 i) (.int .i64 ((fi : Int) + 1)) (.int .i64 i) (.int .i64 f'.blocks.length) (.int .i64 b) h) fun u g =>
              u = .int .i64 ((m + lenB (f'.blocks.drop b) + lenF ((q.funcs.take fi).drop (i + 1)) + lenB (f.blocks.take bi) : Nat) : Int) ∧ Ext hb g) 8
            (Evt.step 8 hfo fun n hn m h hm e => by
              have hlo := e.lo
              have hn' := fun m' hm' => hn m' hm' m h (by simpa [lenB] using hm) e
              rw [f15.n5]; unfold f15.b5
              (repeat' (first | refine Rf (fun hF hG => ?_) (fun hF hG => ?_) | assumption | (show Ext _ _; exact Ext.go) | (simp only [AHeap.next_alloc, AHeap.next_set, AHeap.next_kill, AHeap.next_res] at hle hsame) | simp (disch := first | exact D.go | fail) [setR, List.getElem?_cons_zero, List.getElem?_cons_succ, f15.n4, f15.b4, f15.n6, f15.b6, f15.n7, f15.b7, hwi, lenB, *])))
            (fun b' x n hx ih m h hm e => by
              have eb := es0.trans es
              have hlo := e.lo
              obtain ⟨l1, o1, hib, ⟨_, ⟨vc, rfl, sc, q1, q2, q3, q4⟩, ha⟩⟩ := swb2.at hx
              have lc := hcode f' (List.mem_of_getElem? hf') x (List.mem_of_getElem? hx)
              have hltb := lt_of_get hx; have hwb := wrap_in (n := (b' : Int) + 1) ⟨by omega, by omega⟩
              have hwc := wrap_in (n := (x.code.length : Int) + 1) ⟨by omega, by omega⟩
              simp only [Int.natCast_add, Int.natCast_one] at ih
              have hnf : (i : Int) < fi := by omega
              have hld' := lenB_drop hx
              rw [hld'] at hm
              have hwm := wrap_in (n := (m : Int) + x.code.length + 1) ⟨by omega, by omega⟩
              have ih' := fun m' hm' => ih m' hm' (m + (x.code.length + 1)) h (by omega) e
              simp only [Int.natCast_add, Int.natCast_one] at ih'
              have hpe : ∀ a b c : Int, a + (b + c) = a + b + c := fun a b c => by omega
              simp only [hpe] at ih'
              rw [f15.n5]; unfold f15.b5
              (repeat' (first | refine Rf (fun hF hG => ?_) (fun hF hG => ?_) | assumption | (show Ext _ _; exact Ext.go) | (simp only [AHeap.next_alloc, AHeap.next_set, AHeap.next_kill, AHeap.next_res] at hle hsame) | simp (disch := first | exact D.go | fail) [setR, List.getElem?_cons_zero, List.getElem?_cons_succ, f15.n4, f15.b4, f15.n6, f15.b6, f15.n7, f15.b7, hc.rd0, hc.rd1, hc.rd2, hc.rd3, hc.rd4, hc.rd5, sr.len, ss.len, sf.len, si.len, su.len, sr.self, ss.self, sf.self, si.self, su.self, c.rd0, c.rd1, c.rd2, hif2, hwf2.rd2, swb2.len, hib, ha.rd0, sc.len, hltb, hwb, hwc, hnf, hwm, hld', hpe, *])))
            0 (by omega)
          refine Evt.step 8 inner fun n hn m h hm e => ?_
          have eb := es0.trans es
          have hlo := e.lo
          have hlt : (i : Int) < (fi : Int) + 1 := by omega
          rw [hsp] at hm
          have hn' := fun m' hm' => hn m' hm' m h (by simp only [List.drop_zero]; omega) e
          simp only [List.drop_zero] at hn'
          have hpe : m + (lenB f'.blocks + lenF ((q.funcs.take fi).drop (i + 1))) = m + lenB f'.blocks + lenF ((q.funcs.take fi).drop (i + 1)) := by omega
          rw [hsp, hpe]
          rw [f15.n2]; unfold f15.b2
          (repeat' (first | refine Rf (fun hF hG => ?_) (fun hF hG => ?_) | assumption | (show Ext _ _; exact Ext.go) | (simp only [AHeap.next_alloc, AHeap.next_set, AHeap.next_kill, AHeap.next_res] at hle hsame) | simp (disch := first | exact D.go | fail) [setR, List.getElem?_cons_zero, List.getElem?_cons_succ, f15.n3, f15.b3, hc.rd0, hc.rd1, hc.rd2, hc.rd3, hc.rd4, hc.rd5, sr.len, ss.len, sf.len, si.len, su.len, sr.self, ss.self, sf.self, si.self, su.self, hif2, hwf2.rd2, swb2.len, hlt, *]))
          all_goals (exact hn' _ (by omega)))
        0 (by omega)
      obtain ⟨N, hN⟩ := P3
      refine ⟨N, fun n hn h e => ?_⟩
      have := hN n hn j h (by simp only [List.drop_zero]; omega) e
      simp only [List.drop_zero] at this
      have hpe : j + lenF (q.funcs.take fi) + lenB (f.blocks.take bi) = lenF (q.funcs.take fi) + lenB (f.blocks.take bi) + j := by omega
      rw [hpe] at this
      exact this
    obtain ⟨g, hr⟩ : ∃ g, (AM.lim ⟨P, I, genF P Sh.prims⟩) 32 [.ptr l o, ptV ⟨fi, bi, j⟩] (hs.alloc ⟨ptCells ⟨fi, bi, j⟩, true⟩) = some (.ptr lb ob, g) ∧ Ext (hs.alloc ⟨ptCells ⟨fi, bi, j⟩, true⟩) g := by
      obtain ⟨v, g, e1, rfl, e2⟩ := hbk (hs.alloc ⟨ptCells ⟨fi, bi, j⟩, true⟩) es0.alloc
      exact ⟨g, e1, e2⟩
    obtain ⟨hr, hx⟩ := hr
    have c1 : Cells I g (.own hs.next) 0 [.int .i64 (fi : Int), .int .i64 (bi : Int), .int .i64 (j : Int)] := Cells.own (b := ⟨ptCells ⟨fi, bi, j⟩, true⟩) (c0 g hx) (by have := hx.lo; simp at this; omega) (fun i v hv => by simpa [ptCells] using hv)
    obtain ⟨N, hN⟩ := key g hs.next ((Ext.refl hs).alloc.trans hx) c1
    have hN' := hN N (Nat.le_refl _) g (Ext.refl g)
    refine f15.lim rfl (n := N + 1) ?_
    unfold f15.e
    have hld0 := hld _ (Ext.refl _)
    have hcl : (ptV ⟨(fi : Int), (bi : Int), (j : Int)⟩).cells = ptCells ⟨fi, bi, j⟩ := rfl
    simp only [sBox_eq, to_Bnd, to_kC, Bnd_some, to_kM, pLoadN_ptr, hcl, hld0, Option.map_some, BndP_some, hr, to_BndP, pEq_ptr_nil, to_Cond, Cond_any, Fork_false, Bool.false_eq_true]
    rw [f15.n0]; unfold f15.b0
    have c1r := c1
    simp only [to_kF, to_kL, to_kB, pFieldAddr_ptr, BndP_some, pLoad1_ptr, Nat.zero_add, c1.rd0 g (Ext.refl g), c1.rd2 g (Ext.refl g)]
    have c2 := c1.rd2 g (Ext.refl g)
    simp only [Nat.zero_add] at c2
    simp only [c2, BndP_some, pBin_add, show Int.ofNat 1 = (1 : Int) from rfl, hwfi]
    rw [hidx]
    exact Res.mono hN' fun u g' hq => ⟨hq.1, ((Ext.refl hs).alloc.trans hx).trans hq.2⟩
  · have hn : ∀ fi bi j f b, ¬ ofBk q p fi bi j f b := fun a b c d e h => hp ⟨a, b, c, d, e, h⟩
    rw [idxP_none hn]
    obtain ⟨hb, rfl⟩ : ∃ hb, hb = hs := ⟨_, rfl⟩
    have eb := es0
    refine f15.lim rfl (n := 1) ?_
    unfold f15.e
    (repeat' (first | refine Rf (fun hF hG => ?_) (fun hF hG => ?_) | assumption | (show Ext _ _; exact Ext.go) | (simp only [AHeap.next_alloc, AHeap.next_set, AHeap.next_kill, AHeap.next_res] at hle hsame) | simp (disch := first | exact D.go | fail) [setR, List.getElem?_cons_zero, List.getElem?_cons_succ, setR, *] | (refine Ret.thn (h0 := hb) (tblock_none hq hn _ Ext.go) ?_ (fun g hg hlo hle hsame hx => ?_))))
end
end
end Go.Proofs.YtblblpmkdmociaaDoor.Tx

set_option linter.unusedSimpArgs false
set_option linter.unusedVariables false
namespace Go.Proofs.YtblblpmkdmociaaDoor.Tx
noncomputable section
open Go.AM Go.Proofs.YtblblpmkdmociaaDoor.Sf
section
variable {I : Inp} {h0 : AHeap}
abbrev ins0 : AVal := .agg [Z 0, Z 0, Z 0, Z 0, Z 0, .nils]
/-! a point's instruction -/
/-! a point's end -/
theorem tEnd_none {l : AM.Loc} {o : Nat} {q : Pg} (hq : PgA I h0 l o q) (hcode : ∀ f ∈ q.funcs, ∀ b ∈ f.blocks, b.code.length ≤ 1000000) (m : Nat) (hm : m ≤ 9223372036854775807) (hx : (pgPts 0 q.funcs)[m]? = none) (hb : AHeap) (eb : Ext h0 hb) :
    Ret ((AM.lim ⟨P, I, genF P Sh.prims⟩) 35 [.ptr l o, .int .i64 m] hb) hb .nilp := by
  have hp := fun g e => tPoint hq hcode m hm g e
  rw [hx] at hp
  refine f35.lim rfl (n := 2) ?_
  unfold f35.e
  (repeat' (first | refine Rf (fun hF hG => ?_) (fun hF hG => ?_) | assumption | (show Ext _ _; exact Ext.go) | (simp only [AHeap.next_alloc, AHeap.next_set, AHeap.next_kill, AHeap.next_res] at hle hsame) | simp (disch := first | exact D.go | fail) [setR, List.getElem?_cons_zero, List.getElem?_cons_succ, f35.n0, f35.b0, f35.n1, f35.b1, *] | (refine Ret.thn (h0 := hb) (hp _ Ext.go) ?_ (fun g hg hlo hle hsame hx => ?_))))
theorem tEnd_code {l : AM.Loc} {o : Nat} {q : Pg} (hq : PgA I h0 l o q) (hcode : ∀ f ∈ q.funcs, ∀ b ∈ f.blocks, b.code.length ≤ 1000000) (m : Nat) (hm : m ≤ 9223372036854775807) {p : Pt} {fi bi j : Nat} {f : Fu} {b : Bk} (hx : (pgPts 0 q.funcs)[m]? = some p) (hof : ofBk q p fi bi j f b) (hj : j < b.code.length) (hb : AHeap) (eb : Ext h0 hb) :
    Ret ((AM.lim ⟨P, I, genF P Sh.prims⟩) 35 [.ptr l o, .int .i64 m] hb) hb .nilp := by
  have hp := fun g e => tPoint hq hcode m hm g e
  rw [hx] at hp
  obtain ⟨lb, ob, hA, hbk⟩ := tblock_some hq hof
  obtain ⟨_, ⟨vc, rfl, sc, q1, q2, q3, q4⟩, ha⟩ := hA
  obtain ⟨rfl, hf, hb', _⟩ := hof
  have hlt : (j : Int) < b.code.length := by omega
  refine f35.lim rfl (n := 2) ?_
  unfold f35.e
  (repeat' (first | refine Rf (fun hF hG => ?_) (fun hF hG => ?_) | assumption | (show Ext _ _; exact Ext.go) | (simp only [AHeap.next_alloc, AHeap.next_set, AHeap.next_kill, AHeap.next_res] at hle hsame) | simp (disch := first | exact D.go | fail) [setR, List.getElem?_cons_zero, List.getElem?_cons_succ, f35.n0, f35.b0, f35.n1, f35.b1, ha.rd0, sc.len, hlt, *] | (refine Ret.thn (h0 := hb) (hp _ Ext.go) ?_ (fun g hg hlo hle hsame hx => ?_)) | (refine Ret.thn (h0 := hb) (hbk _ Ext.go) ?_ (fun g hg hlo hle hsame hx => ?_))))
theorem tEnd_end {l : AM.Loc} {o : Nat} {q : Pg} (hq : PgA I h0 l o q) (hcode : ∀ f ∈ q.funcs, ∀ b ∈ f.blocks, b.code.length ≤ 1000000) (m : Nat) (hm : m ≤ 9223372036854775807) {p : Pt} {fi bi : Nat} {f : Fu} {b : Bk} (hx : (pgPts 0 q.funcs)[m]? = some p) (hof : ofBk q p fi bi b.code.length f b) :
    ∃ lb ob, At I h0 (BkC I h0) lb ob b ∧ ∀ hb, Ext h0 hb → Ret ((AM.lim ⟨P, I, genF P Sh.prims⟩) 35 [.ptr l o, .int .i64 m] hb) hb (.ptr lb ob) := by
  have hp := fun g e => tPoint hq hcode m hm g e
  rw [hx] at hp
  obtain ⟨lb, ob, hA, hbk⟩ := tblock_some hq hof
  refine ⟨lb, ob, hA, fun hb eb => ?_⟩
  obtain ⟨_, ⟨vc, rfl, sc, q1, q2, q3, q4⟩, ha⟩ := hA
  obtain ⟨rfl, hf, hb', _⟩ := hof
  have hlt : ¬ (b.code.length : Int) < b.code.length := by omega
  refine f35.lim rfl (n := 2) ?_
  unfold f35.e
  (repeat' (first | refine Rf (fun hF hG => ?_) (fun hF hG => ?_) | assumption | (show Ext _ _; exact Ext.go) | (simp only [AHeap.next_alloc, AHeap.next_set, AHeap.next_kill, AHeap.next_res] at hle hsame) | simp (disch := first | exact D.go | fail) [setR, List.getElem?_cons_zero, List.getElem?_cons_succ, f35.n0, f35.b0, f35.n1, f35.b1, ha.rd0, sc.len, hlt, *] | (refine Ret.thn (h0 := hb) (hp _ Ext.go) ?_ (fun g hg hlo hle hsame hx => ?_)) | (refine Ret.thn (h0 := hb) (hbk _ Ext.go) ?_ (fun g hg hlo hle hsame hx => ?_))))
/-! where an end leads -/
def outsS (b : Bk) : List Int := if b.fin = 1 then [b.to] else if b.fin = 2 then (if b.to = b.els then [b.to] else [b.to, b.els]) else []
theorem tOuts {lb : AM.Loc} {ob : Nat} {b : Bk} (hA : At I h0 (BkC I h0) lb ob b) (hb : AHeap) (eb : Ext h0 hb) : Res ((AM.lim ⟨P, I, genF P Sh.prims⟩) 36 [.ptr lb ob] hb) fun u g => SlOf 1 (IntA I g) u (outsS b) ∧ Ext hb g := by
  obtain ⟨_, ⟨vc, rfl, sc, q1, q2, q3, q4⟩, ha⟩ := hA
  have one : SlOf 1 (IntA I (hb.alloc ⟨[.int .i64 b.to], true⟩)) (.sl (.own hb.next) 0 1 (.known 1)) [b.to] := ints_new (xs := [b.to]) (AHeap.alloc_at (Nb.o rfl)) (by simp) (fun m hm => by simp [capHas]; simpa using hm) (by simp) (by simp) (by simpa using q3)
  have two : SlOf 1 (IntA I (hb.alloc ⟨[.int .i64 b.to, .int .i64 b.els], true⟩)) (.sl (.own hb.next) 0 2 (.known 2)) [b.to, b.els] := ints_new (xs := [b.to, b.els]) (AHeap.alloc_at (Nb.o rfl)) (by simp) (fun m hm => by simp [capHas]; simpa using hm) (by simp) (by simp) (by simpa using ⟨q3, q4⟩)
  have zero : ∀ h, SlOf 1 (IntA I h) .nils [] := fun h => SlOf.nil
  refine f36.lim rfl (n := 2) ?_
  unfold f36.e
  by_cases h1 : b.fin = 1
  · (repeat' (first | refine Rf (fun hF hG => ?_) (fun hF hG => ?_) | assumption | (show Ext _ _; exact Ext.go) | (simp only [AHeap.next_alloc, AHeap.next_set, AHeap.next_kill, AHeap.next_res] at hle hsame) | simp (disch := first | exact D.go | fail) [setR, List.getElem?_cons_zero, List.getElem?_cons_succ, f36.n0, f36.b0, f36.n1, f36.b1, ha.rd1, ha.rd3, ha.rd4, outsS, h1, one, *]))
  · by_cases h2 : b.fin = 2
    · by_cases h3 : b.to = b.els
      · rw [h3] at one
        (repeat' (first | refine Rf (fun hF hG => ?_) (fun hF hG => ?_) | assumption | (show Ext _ _; exact Ext.go) | (simp only [AHeap.next_alloc, AHeap.next_set, AHeap.next_kill, AHeap.next_res] at hle hsame) | simp (disch := first | exact D.go | fail) [setR, List.getElem?_cons_zero, List.getElem?_cons_succ, f36.n0, f36.b0, f36.n1, f36.b1, ha.rd1, ha.rd3, ha.rd4, outsS, h1, h2, h3, one, *]))
      · (repeat' (first | refine Rf (fun hF hG => ?_) (fun hF hG => ?_) | assumption | (show Ext _ _; exact Ext.go) | (simp only [AHeap.next_alloc, AHeap.next_set, AHeap.next_kill, AHeap.next_res] at hle hsame) | simp (disch := first | exact D.go | fail) [setR, List.getElem?_cons_zero, List.getElem?_cons_succ, f36.n0, f36.b0, f36.n1, f36.b1, ha.rd1, ha.rd3, ha.rd4, outsS, h1, h2, h3, two, *]))
    · (repeat' (first | refine Rf (fun hF hG => ?_) (fun hF hG => ?_) | assumption | (show Ext _ _; exact Ext.go) | (simp only [AHeap.next_alloc, AHeap.next_set, AHeap.next_kill, AHeap.next_res] at hle hsame) | simp (disch := first | exact D.go | fail) [setR, List.getElem?_cons_zero, List.getElem?_cons_succ, f36.n0, f36.b0, f36.n1, f36.b1, ha.rd1, ha.rd3, ha.rd4, outsS, h1, h2, zero, *]))
end
end
end Go.Proofs.YtblblpmkdmociaaDoor.Tx

set_option linter.unusedSimpArgs false
set_option linter.unusedVariables false
namespace Go.Proofs.YtblblpmkdmociaaDoor.Tx
noncomputable section
open Go.AM Go.Proofs.YtblblpmkdmociaaDoor.Sf
section
variable {I : Inp} {h0 : AHeap}
/-- A slice of numbers that was made here. -/
def IntsO (hb h : AHeap) (v : AVal) (xs : List Int) : Prop :=
  (v = .nils ∧ xs = []) ∨ ∃ k, v = .sl (.own k) 0 xs.length (.grown 1) ∧ h.get k = some ⟨xs.map fun n => AVal.int .i64 n, true⟩ ∧ hb.next ≤ k ∧ k < h.next ∧ xs ≠ []
theorem IntsO.mono {hb h g : AHeap} {v : AVal} {xs : List Int} (a : IntsO hb h v xs) (e : Ext h g) : IntsO hb g v xs := by
  rcases a with a | ⟨k, rfl, hk, h1, h2, h3⟩
  · exact .inl a
  · exact .inr ⟨k, rfl, by rw [e.same k h2]; exact hk, h1, by have := e.lo; omega, h3⟩
theorem IntsO.sl {hb h : AHeap} {v : AVal} {xs : List Int} (a : IntsO hb h v xs) (hl : xs.length ≤ 9223372036854775807) (hr : ∀ x ∈ xs, InR x) : SlOf 1 (IntA I h) v xs := by
  rcases a with ⟨rfl, rfl⟩ | ⟨k, rfl, hk, h1, h2, h3⟩
  · exact SlOf.nil
  · refine .inr ⟨.own k, 0, .grown 1, rfl, fun m hm => by simp [capHas]; exact hm, ⟨hl, fun h => absurd h h3⟩, fun i x hx => ⟨[.int .i64 x], ⟨rfl, hr x (List.mem_of_getElem? hx)⟩, Cells.own hk h2 fun j v hv => ?_⟩⟩
    match j with
    | 0 => simp at hv; subst hv; simp [hx]
    | j + 1 => simp at hv
theorem app_int {hb h : AHeap} {xs : List Int} {v : AVal} (hv : IntsO hb h v xs) (eb : Ext hb h) (x : Int) (hn : xs.length ≤ 1000000) {kw : Nat} {c : Cap} (hw : h.get kw = some ⟨[.int .i64 x], true⟩) :
    Res (sAppend I 1 8 v (.sl (.own kw) 0 1 c) h) fun u g => IntsO hb g u (xs ++ [x]) ∧ Ext hb g := by
  rcases hv with ⟨rfl, rfl⟩ | ⟨k, rfl, hk, h1, h2, h3⟩
  · have := sAppend_nils (I := I) (sz := 1) (bytes := 8) (n := 0) (c := c) hw rfl rfl (by simp only [bigRoom]; omega)
    refine ⟨_, _, this, .inr ⟨h.next, rfl, ?_, eb.lo, by simp, by simp⟩, eb.alloc⟩
    simp [AHeap.alloc_at (Nb.o rfl)]
  · have := sAppend_full (I := I) (sz := 1) (bytes := 8) (n := 0) (c := c) (len := xs.length) hw rfl rfl hk (by rw [List.length_map, Nat.mul_one]) ints_all (by omega) (by simp only [bigRoom]; omega)
    refine ⟨_, _, this, .inr ⟨h.next, ?_, ?_, eb.lo, by simp, by simp⟩, (eb.kill (Nb.o h1)).alloc⟩
    · simp
    · rw [show h.next = (h.kill k).next from rfl, AHeap.alloc_at (Nb.o rfl)]; simp
theorem idxP_rng (q : Pg) (p : Pt) (hz : (pgPts 0 q.funcs).length ≤ 1000000) : InR (idxP q p) ∧ idxP q p < (pgPts 0 q.funcs).length := by
  by_cases hp : ∃ fi bi j f b, ofBk q p fi bi j f b
  · obtain ⟨fi, bi, j, f, b, hp⟩ := hp
    have := num_lt hp
    rw [idxP_of hp]
    exact ⟨⟨by omega, by omega⟩, by omega⟩
  · rw [idxP_none fun a b c d e h => hp ⟨a, b, c, d, e, h⟩]
    exact ⟨⟨by omega, by omega⟩, by omega⟩
/-- What follows an end. -/
def goS (q : Pg) (f : Int) (l : List Int) : List Int := l.filterMap fun t => if 0 ≤ idxP q ⟨f, t, 0⟩ then some (idxP q ⟨f, t, 0⟩) else none
theorem goS_len (q : Pg) (f : Int) : ∀ (l : List Int), (goS q f l).length ≤ l.length := fun l => List.length_filterMap_le ..
theorem outs_len (b : Bk) : (outsS b).length ≤ 2 := by
  unfold outsS
  split
  · simp
  · split
    · split <;> simp
    · simp
theorem tNext_end {l : AM.Loc} {o : Nat} {q : Pg} (hq : PgA I h0 l o q) (hz : (pgPts 0 q.funcs).length ≤ 1000000) (hcode : ∀ f ∈ q.funcs, ∀ b ∈ f.blocks, b.code.length ≤ 1000000) (m : Nat) (hm : m ≤ 1000000) {p : Pt} {fi bi : Nat} {f : Fu} {b : Bk} (hx : (pgPts 0 q.funcs)[m]? = some p) (hof : ofBk q p fi bi b.code.length f b) (hs : AHeap) (es0 : Ext h0 hs) :
    Res ((AM.lim ⟨P, I, genF P Sh.prims⟩) 19 [.ptr l o, .int .i64 m] hs) fun u g => SlOf 1 (IntA I g) u (goS q p.f (outsS b)) ∧ Ext hs g := by
  have hp := fun g e => tPoint hq hcode m (by omega) g e
  rw [hx] at hp
  obtain ⟨lb, ob, hA, hen⟩ := tEnd_end hq hcode m (by omega) hx hof
  have hol := outs_len b
  have key : ∀ (hb : AHeap) (k : Nat) (v : AVal), Ext hs hb → SlOf 1 (IntA I hb) v (outsS b) → Cells I hb (.own k) 0 (ptCells p) → Evt fun n => ∀ h, Ext hb h → Res ((f19.J I (AM.lim ⟨P, I, genF P Sh.prims⟩) (n)).2.1 (.ptr l o) (.ptr (.own k) 0) .nils v (.int .i64 (outsS b).length) (Z 0) h) fun u g => SlOf 1 (IntA I g) u (goS q p.f (outsS b)) ∧ Ext hb g := fun hb k v es sv c => by
    have lp := Evt.loop (outsS b) (F := fun i n => ∀ acc w h, IntsO hb h w acc → acc.length ≤ i → Ext hb h → Res ((f19.J I (AM.lim ⟨P, I, genF P Sh.prims⟩) (n)).2.1 (.ptr l o) (.ptr (.own k) 0) w v (.int .i64 (outsS b).length) (.int .i64 i) h) fun u g => IntsO hb g u (acc ++ goS q p.f ((outsS b).drop i)) ∧ Ext hb g) 8
      (Evt.all 8 fun n acc w h hw hl e => by
        rw [f19.n3]; unfold f19.b3
        (repeat' (first | refine Rf (fun hF hG => ?_) (fun hF hG => ?_) | assumption | (show Ext _ _; exact Ext.go) | (simp only [AHeap.next_alloc, AHeap.next_set, AHeap.next_kill, AHeap.next_res] at hle hsame) | simp (disch := first | exact D.go | fail) [setR, List.getElem?_cons_zero, List.getElem?_cons_succ, f19.n2, f19.b2, goS, *])))
      (fun i t n ht ih acc w h hw hl e => by
        have hlt := lt_of_get ht; have hwi := wrap_in (n := (i : Int) + 1) ⟨by omega, by omega⟩
        simp only [Int.natCast_add, Int.natCast_one] at ih
        have eb := es0.trans es
        have hlo := e.lo
        obtain ⟨l1, o1, hi, ha⟩ := sv.at ht
        obtain ⟨ha, _⟩ := ha.int
        have hN := fun g e => tNumber hq hz hcode ⟨p.f, t, 0⟩ g e
        have hd : goS q p.f ((outsS b).drop i) = if 0 ≤ idxP q ⟨p.f, t, 0⟩ then idxP q ⟨p.f, t, 0⟩ :: goS q p.f ((outsS b).drop (i + 1)) else goS q p.f ((outsS b).drop (i + 1)) := by
          rw [drop_of_get ht]; unfold goS; by_cases hk : 0 ≤ idxP q ⟨p.f, t, 0⟩ <;> simp [List.filterMap_cons, hk]
        rw [hd]
        rw [f19.n3]; unfold f19.b3
        by_cases hk : 0 ≤ idxP q ⟨p.f, t, 0⟩
        · (repeat' (first | refine Rf (fun hF hG => ?_) (fun hF hG => ?_) | assumption | (show Ext _ _; exact Ext.go) | (simp only [AHeap.next_alloc, AHeap.next_set, AHeap.next_kill, AHeap.next_res] at hle hsame) | simp (disch := first | exact D.go | fail) [setR, List.getElem?_cons_zero, List.getElem?_cons_succ, f19.n4, f19.b4, hi, ha, c.rd0, c.rd1, c.rd2, hlt, hk, *] | (refine Ret.thn (h0 := hb) (hN _ Ext.go) ?_ (fun g hg hlo hle hsame hx => ?_))))
          have hw' : IntsO hb (g.alloc ⟨[.int .i64 (idxP q ⟨p.f, t, 0⟩)], true⟩) w acc := (hw.mono (by assumption)).mono (Ext.refl g).alloc
          refine Res.after (app_int hw' (hg.alloc) _ (by omega) (AHeap.alloc_at (Nb.o rfl))) (fun u g' hA => ?_)
          have hi2 := fun m' hm' => ih m' hm' (acc ++ [idxP q ⟨p.f, t, 0⟩]) u g' hA.1 (by simp; omega) hA.2
          simp only [List.append_assoc, List.cons_append, List.nil_append] at hi2
          rw [f19.n5]; unfold f19.b5
          (repeat' (first | refine Rf (fun hF hG => ?_) (fun hF hG => ?_) | assumption | (show Ext _ _; exact Ext.go) | (simp only [AHeap.next_alloc, AHeap.next_set, AHeap.next_kill, AHeap.next_res] at hle hsame) | simp (disch := first | exact D.go | fail) [setR, List.getElem?_cons_zero, List.getElem?_cons_succ, hwi, *]))
        · have ih' := fun m' hm' g' hw' e' => ih m' hm' acc w g' hw' (by omega) e'
          (repeat' (first | refine Rf (fun hF hG => ?_) (fun hF hG => ?_) | assumption | (show Ext _ _; exact Ext.go) | (simp only [AHeap.next_alloc, AHeap.next_set, AHeap.next_kill, AHeap.next_res] at hle hsame) | simp (disch := first | exact D.go | fail) [setR, List.getElem?_cons_zero, List.getElem?_cons_succ, f19.n4, f19.b4, f19.n5, f19.b5, hi, ha, c.rd0, c.rd1, c.rd2, hlt, hwi, hk, *] | (refine Ret.thn (h0 := hb) (hN _ Ext.go) ?_ (fun g hg hlo hle hsame hx => ?_))))
          exact ih' _ (by omega) _ (hw.mono (by assumption)) hg)
      0 (by omega)
    obtain ⟨N, hN⟩ := lp
    refine ⟨N, fun n hn h e => ?_⟩
    have := hN n hn [] .nils h (.inl ⟨rfl, rfl⟩) (by simp) e
    simp only [List.drop_zero, List.nil_append] at this
    refine Res.mono this fun u g hA => ⟨hA.1.sl ?_ ?_, hA.2⟩
    · have := goS_len q p.f (outsS b); omega
    · intro x hx
      unfold goS at hx
      obtain ⟨t, _, ht⟩ := List.mem_filterMap.1 hx
      split at ht
      · cases ht; exact (idxP_rng q _ hz).1
      · cases ht
  -- the calls ahead of the loop
  obtain ⟨g1, hr1, x1⟩ : ∃ g, (AM.lim ⟨P, I, genF P Sh.prims⟩) 34 [.ptr l o, .int .i64 m] hs = some (pV (some p), g) ∧ Ext hs g := by
    obtain ⟨v, g, e1, rfl, e2⟩ := hp hs es0
    exact ⟨g, e1, e2⟩
  obtain ⟨g2, hr2, x2⟩ : ∃ g, (AM.lim ⟨P, I, genF P Sh.prims⟩) 35 [.ptr l o, .int .i64 m] ((g1.alloc ⟨[Z 0, Z 0, Z 0], true⟩).set g1.next ⟨ptCells p, true⟩) = some (.ptr lb ob, g) ∧ Ext ((g1.alloc ⟨[Z 0, Z 0, Z 0], true⟩).set g1.next ⟨ptCells p, true⟩) g := by
    obtain ⟨v, g, e1, rfl, e2⟩ := hen ((g1.alloc ⟨[Z 0, Z 0, Z 0], true⟩).set g1.next ⟨ptCells p, true⟩) ((es0.trans x1).trans ((Ext.refl g1).alloc.set (Nb.o (Nat.le_refl _))))
    exact ⟨g, e1, e2⟩
  have xs : Ext hs ((g1.alloc ⟨[Z 0, Z 0, Z 0], true⟩).set g1.next ⟨ptCells p, true⟩) := x1.trans ((Ext.refl g1).alloc.set (Nb.o (Nat.le_refl _)))
  obtain ⟨v3, g3, hr3, sv, x3⟩ := tOuts hA g2 ((es0.trans xs).trans x2)
  have x23 := x2.trans x3
  have cg : g3.get g1.next = some ⟨ptCells p, true⟩ := by rw [x23.same _ (by simp)]; exact AHeap.set_at (Nb.o rfl)
  have c1 : Cells I g3 (.own g1.next) 0 (ptCells p) := Cells.own (b := ⟨ptCells p, true⟩) cg (by have := x23.lo; simp at this; omega) (fun i v hv => by simpa using hv)
  obtain ⟨N, hN⟩ := key g3 g1.next v3 (xs.trans x23) sv c1
  have hfin := hN N (Nat.le_refl _) g3 (Ext.refl g3)
  have hfin' : Res ((f19.J I (AM.lim ⟨P, I, genF P Sh.prims⟩) (N)).2.1 (.ptr l o) (.ptr (.own g1.next) 0) .nils v3 (.int .i64 (outsS b).length) (Z 0) g3) fun u g => SlOf 1 (IntA I g) u (goS q p.f (outsS b)) ∧ Ext hs g := Res.mono hfin fun u g hA => ⟨hA.1, (xs.trans x23).trans hA.2⟩
  have hsl := sv.len
  simp only [ptCells] at hr2
  refine f19.lim rfl (n := N + 2) ?_
  unfold f19.e
  simp only [to_Bnd, to_kC, hr1, Bnd_some, pV_some]
  (repeat' (first | refine Rf (fun hF hG => ?_) (fun hF hG => ?_) | assumption | (show Ext _ _; exact Ext.go) | (simp only [AHeap.next_alloc, AHeap.next_set, AHeap.next_kill, AHeap.next_res] at hle hsame) | simp (disch := first | exact D.go | fail) [setR, List.getElem?_cons_zero, List.getElem?_cons_succ, f19.n0, f19.b0, f19.n1, f19.b1, hr2, hr3, hsl, *]))
theorem tNext_none {l : AM.Loc} {o : Nat} {q : Pg} (hq : PgA I h0 l o q) (hcode : ∀ f ∈ q.funcs, ∀ b ∈ f.blocks, b.code.length ≤ 1000000) (m : Nat) (hm : m ≤ 9223372036854775807) (hx : (pgPts 0 q.funcs)[m]? = none) (hb : AHeap) (eb : Ext h0 hb) :
    Ret ((AM.lim ⟨P, I, genF P Sh.prims⟩) 19 [.ptr l o, .int .i64 m] hb) hb .nils := by
  have hp := fun g e => tPoint hq hcode m hm g e
  rw [hx] at hp
  refine f19.lim rfl (n := 2) ?_
  unfold f19.e
  (repeat' (first | refine Rf (fun hF hG => ?_) (fun hF hG => ?_) | assumption | (show Ext _ _; exact Ext.go) | (simp only [AHeap.next_alloc, AHeap.next_set, AHeap.next_kill, AHeap.next_res] at hle hsame) | simp (disch := first | exact D.go | fail) [setR, List.getElem?_cons_zero, List.getElem?_cons_succ, f19.n0, f19.b0, f19.n1, f19.b1, f19.n2, f19.b2, f19.n3, f19.b3, f19.n4, f19.b4, f19.n5, f19.b5, *] | (refine Ret.thn (h0 := hb) (hp _ Ext.go) ?_ (fun g hg hlo hle hsame hx => ?_))))
theorem tNext_neg {l : AM.Loc} {o : Nat} (m : Int) (hm : m < 0) (hb : AHeap) : Ret ((AM.lim ⟨P, I, genF P Sh.prims⟩) 19 [.ptr l o, .int .i64 m] hb) hb .nils := by
  refine f19.lim rfl (n := 2) ?_
  unfold f19.e
  (repeat' (first | refine Rf (fun hF hG => ?_) (fun hF hG => ?_) | assumption | (show Ext _ _; exact Ext.go) | (simp only [AHeap.next_alloc, AHeap.next_set, AHeap.next_kill, AHeap.next_res] at hle hsame) | simp (disch := first | exact D.go | fail) [setR, List.getElem?_cons_zero, List.getElem?_cons_succ, f19.n0, f19.b0, f19.n1, f19.b1, f19.n2, f19.b2, f19.n3, f19.b3, f19.n4, f19.b4, f19.n5, f19.b5, *] | (refine Ret.thn (h0 := hb) (tPoint_neg m hm _) ?_ (fun g hg hlo hle hsame hx => ?_))))
theorem tNext_code {l : AM.Loc} {o : Nat} {q : Pg} (hq : PgA I h0 l o q) (hcode : ∀ f ∈ q.funcs, ∀ b ∈ f.blocks, b.code.length ≤ 1000000) (m : Nat) (hm : m ≤ 1000000) {p : Pt} {fi bi j : Nat} {f : Fu} {b : Bk} (hx : (pgPts 0 q.funcs)[m]? = some p) (hof : ofBk q p fi bi j f b) (hj : j < b.code.length) (hb : AHeap) (eb : Ext h0 hb) :
    Res ((AM.lim ⟨P, I, genF P Sh.prims⟩) 19 [.ptr l o, .int .i64 m] hb) fun u g => SlOf 1 (IntA I g) u [(m : Int) + 1] ∧ Ext hb g := by
  have hp := fun g e => tPoint hq hcode m (by omega) g e
  rw [hx] at hp
  have hen := fun g e => tEnd_code hq hcode m (by omega) hx hof hj g e
  have hw := wrap_in (n := (m : Int) + 1) ⟨by omega, by omega⟩
  have one : ∀ g : AHeap, SlOf 1 (IntA I (g.alloc ⟨[.int .i64 ((m : Int) + 1)], true⟩)) (.sl (.own g.next) 0 1 (.known 1)) [(m : Int) + 1] := fun g => ints_new (xs := [(m : Int) + 1]) (AHeap.alloc_at (Nb.o rfl)) (by simp) (fun m hm => by simp [capHas]; simpa using hm) (by simp) (by simp) (by simp [InR]; omega)
  refine f19.lim rfl (n := 2) ?_
  unfold f19.e
  (repeat' (first | refine Rf (fun hF hG => ?_) (fun hF hG => ?_) | assumption | (show Ext _ _; exact Ext.go) | (simp only [AHeap.next_alloc, AHeap.next_set, AHeap.next_kill, AHeap.next_res] at hle hsame) | simp (disch := first | exact D.go | fail) [setR, List.getElem?_cons_zero, List.getElem?_cons_succ, f19.n0, f19.b0, hw, one, *] | (refine Ret.thn (h0 := hb) (hp _ Ext.go) ?_ (fun g hg hlo hle hsame hx => ?_)) | (refine Ret.thn (h0 := hb) (hen _ Ext.go) ?_ (fun g hg hlo hle hsame hx => ?_))))
end
end
end Go.Proofs.YtblblpmkdmociaaDoor.Tx

set_option linter.unusedSimpArgs false
set_option linter.unusedVariables false
namespace Go.Proofs.YtblblpmkdmociaaDoor.Tx
noncomputable section
open Go.AM Go.Proofs.YtblblpmkdmociaaDoor.Sf
section
variable {I : Inp} {h0 : AHeap}
/-! texts -/
/-- A text is no longer than .. -/
class StrB (s : List Nat) (n : outParam Nat) : Prop where
  le : s.length ≤ n
instance : StrB [] 0 := ⟨by simp⟩
instance {a : Nat} {l : List Nat} {n : Nat} [c : StrB l n] : StrB (a :: l) (n + 1) := ⟨by have := c.le; simp; omega⟩
instance {a b : List Nat} {n m : Nat} [c : StrB a n] [d : StrB b m] : StrB (a ++ b) (n + m) := ⟨by have := c.le; have := d.le; rw [List.length_append]; omega⟩
@[simp] theorem pBin_str {a b : List Nat} {n m : Nat} [c : StrB a n] [d : StrB b m] (h : n + m ≤ 140737488351232) : pBin .add (.str a) (.str b) = some (.str (a ++ b)) := by
  simp only [pBin, abin, sbin]
  rw [Nat.ble_eq_true_of_le (by have := c.le; have := d.le; omega)]
@[simp] theorem pBin_streq (a b : List Nat) : pBin .eql (.str a) (.str b) = some (.bool (natsEq a b)) := nrfl
@[simp] theorem pBin_strne (a b : List Nat) : pBin .neq (.str a) (.str b) = some (.bool (!natsEq a b)) := nrfl
@[simp] theorem natsEq_cons_nil (a : Nat) (l : List Nat) : natsEq (a :: l) [] = false := nrfl
@[simp] theorem natsEq_nil_nil : natsEq [] [] = true := nrfl
@[simp] theorem pUn_neg (a : Int) : pUn .neg (.int .i64 a) = some (.int .i64 (IntKind.i64.wrap (0 - a))) := nrfl
@[simp] theorem pBin_quo (a : Int) : pBin .quo (.int .i64 a) (Z 10) = some (.int .i64 (IntKind.i64.wrap (a.tdiv 10))) := nrfl
@[simp] theorem pBin_rem (a : Int) : pBin .rem (.int .i64 a) (Z 10) = some (.int .i64 (a.tmod 10)) := nrfl
@[simp] theorem pToInt_any (k k' : IntKind) (n : Int) : pToInt k (.int k' n) = some (.int k (k.wrap n)) := nrfl
theorem pToStr_one {h : AHeap} {k : Nat} {x : Nat} {p : Bool} {c : Cap} (hk : h.get k = some ⟨[.int .u8 (x : Int)], p⟩) (hx : x < 256) : pToStr I (.sl (.own k) 0 1 c) h = some (.str [x]) := by
  have hb : Nat.blt x 256 = true := by rw [blt_iff]; simp [hx]
  have hr : rdsK I h (.own k) 0 1 = some [.int .u8 (Int.ofNat x)] := by rw [rdsK_eq, rds_own', hk]; rfl
  have hy : AM.byteOf (AVal.int .u8 (Int.ofNat x)) = some x := by simp only [AM.byteOf, hb]
  simp only [pToStr, hr, List.mapM_cons, List.mapM_nil, hy]
  first | rfl | simp
/-! numbers in decimal -/
def decN (u : Nat) : List Nat := (Lib.decDigits u).map UInt8.toNat
theorem decN_small {u : Nat} (h : u < 10) : decN u = [48 + u] := by
  unfold decN
  rw [Lib.decDigits_one h]
  simp; omega
theorem decN_big {u : Nat} (h : ¬ u < 10) : decN u = decN (u / 10) ++ [48 + u % 10] := by
  unfold decN
  rw [Lib.decDigits, dif_neg h]
  simp; omega
theorem decN_len {u : Nat} (h : u < 18446744073709551616) : (decN u).length ≤ 20 := by
  unfold decN
  rw [List.length_map, Lib.decDigits_length]
  exact Lib.nDigits_le20 u h
theorem itoaN_nat (u : Nat) : itoaN (u : Int) = decN u := by unfold itoaN decN; rw [Lib.itoa_nonneg]
theorem itoaN_neg (u : Nat) (h : 1 ≤ u) : itoaN (-(u : Int)) = 45 :: decN u := by unfold itoaN decN; rw [Lib.itoa_neg u h]; rfl
/-- A number's text (cut, so that it is short at sight). -/
def decT (n : Int) : List Nat := (itoaN n).take 21
instance (n : Int) : StrB (decT n) 21 := ⟨by unfold decT; rw [List.length_take]; omega⟩
theorem decT_eq {n : Int} (h : InR n) : decT n = itoaN n := by
  unfold decT
  apply List.take_of_length_le
  unfold itoaN
  rw [List.length_map]
  exact Lib.itoa_length_le n h.1 (by have := h.2; omega)
theorem tItoa {n : Int} (hn : InR n) (h : AHeap) : (AM.lim ⟨P, I, genF P Sh.prims⟩) 28 [.int .i64 n] h = some (.str (decT n), h) := by
  rw [decT_eq hn]
  obtain ⟨h1, h2⟩ := hn
  have e1 : ltI n (-9223372036854775808) = false := by rw [ltI_spec]; simp; omega
  have e2 : ltI 9223372036854775807 n = false := by rw [ltI_spec]; simp; omega
  refine lim_of (C := ⟨P, I, genF P Sh.prims⟩) (n := 1) ?_
  simp only [callF, genF, show Sh.prims 28 = some AM.itoaPrim from rfl, itoaPrim, e1, e2]; rfl
theorem rDec_nat : ∀ (u : Nat), u ≤ 9223372036854775807 → ∀ hb : AHeap, Ret ((AM.lim ⟨P, I, genF P Sh.prims⟩) 30 [.int .i64 (u : Int)] hb) hb (.str (decN u)) := by
  intro u
  induction u using Nat.strongRecOn with
  | _ u ih =>
    intro hu hb
    have n0 : ¬ (u : Int) < 0 := by omega
    by_cases hs : u < 10
    · have hs' : (u : Int) < 10 := by omega
      have hw : IntKind.i64.wrap (48 + (u : Int)) = ((48 + u : Nat) : Int) := by rw [wrap_in ⟨by omega, by omega⟩]; omega
      have hw8 : IntKind.u8.wrap ((48 + u : Nat) : Int) = ((48 + u : Nat) : Int) := by
        simp only [IntKind.wrap, IntKind.bits, IntKind.signed]; simp; omega
      rw [decN_small hs]
      have hst : ∀ h : AHeap, pToStr I (.sl (.own h.next) 0 1 (.known 1)) (h.alloc ⟨[.int .u8 ((48 + u : Nat) : Int)], true⟩) = some (.str [48 + u]) := fun h => pToStr_one (AHeap.alloc_at (Nb.o rfl)) (by omega)
      refine f30.lim rfl (n := 3) ?_
      unfold f30.e
      generalize hx : 48 + u = x at *
      (repeat' (first | refine Rf (fun hF hG => ?_) (fun hF hG => ?_) | assumption | (show Ext _ _; exact Ext.go) | (simp only [AHeap.next_alloc, AHeap.next_set, AHeap.next_kill, AHeap.next_res] at hle hsame) | simp (disch := first | exact D.go | fail) [setR, List.getElem?_cons_zero, List.getElem?_cons_succ, f30.n0, f30.b0, f30.n1, f30.b1, f30.n2, f30.b2, n0, hs', hw, hw8, hst, *]))
    · have hs' : ¬ (u : Int) < 10 := by omega
      have hq : IntKind.i64.wrap ((u : Int).tdiv 10) = ((u / 10 : Nat) : Int) := by
        rw [show (u : Int).tdiv 10 = ((u / 10 : Nat) : Int) from (Int.ofNat_tdiv u 10).symm, wrap_in ⟨by omega, by omega⟩]
      have hr : (u : Int).tmod 10 = ((u % 10 : Nat) : Int) := (Int.ofNat_tmod u 10).symm
      have hq2 : IntKind.i64.wrap ((u : Int) / 10) = ((u / 10 : Nat) : Int) := by rw [wrap_in ⟨by omega, by omega⟩]; omega
      have hr2 : (u : Int) % 10 = ((u % 10 : Nat) : Int) := by omega
      have hw : IntKind.i64.wrap (48 + ((u % 10 : Nat) : Int)) = ((48 + u % 10 : Nat) : Int) := by rw [wrap_in ⟨by omega, by omega⟩]; omega
      have hw8 : IntKind.u8.wrap ((48 + u % 10 : Nat) : Int) = ((48 + u % 10 : Nat) : Int) := by
        simp only [IntKind.wrap, IntKind.bits, IntKind.signed]; simp; omega
      rw [decN_big hs]
      have hrec := fun g => ih (u / 10) (by omega) (by omega) g
      haveI : StrB (decN (u / 10)) 20 := ⟨decN_len (by omega)⟩
      have hst : ∀ (h : AHeap) (k : Nat) , pToStr I (.sl (.own k) 0 1 (.known 1)) (h.set k ⟨[.int .u8 ((48 + u % 10 : Nat) : Int)], true⟩) = some (.str [48 + u % 10]) := fun h k => pToStr_one (AHeap.set_at (Nb.o rfl)) (by omega)
      refine f30.lim rfl (n := 3) ?_
      unfold f30.e
      generalize hx : 48 + u % 10 = x at *
      generalize hz : u / 10 = z at *
      generalize hy : u % 10 = y at *
      (repeat' (first | refine Rf (fun hF hG => ?_) (fun hF hG => ?_) | assumption | (show Ext _ _; exact Ext.go) | (simp only [AHeap.next_alloc, AHeap.next_set, AHeap.next_kill, AHeap.next_res] at hle hsame) | simp (disch := first | exact D.go | fail) [setR, List.getElem?_cons_zero, List.getElem?_cons_succ, f30.n0, f30.b0, f30.n1, f30.b1, f30.n2, f30.b2, n0, hs', hq, hr, hq2, hr2, hw, hw8, hst, *] | (refine Ret.thn (h0 := hb) (hrec _) ?_ (fun g hg hlo hle hsame hx => ?_))))
end
end
end Go.Proofs.YtblblpmkdmociaaDoor.Tx

set_option linter.unusedSimpArgs false
set_option linter.unusedVariables false
namespace Go.Proofs.YtblblpmkdmociaaDoor.Tx
noncomputable section
open Go.AM Go.Proofs.YtblblpmkdmociaaDoor.Sf
section
variable {I : Inp} {h0 : AHeap}
theorem rDec {n : Int} (hn : InR n) (hb : AHeap) : Ret ((AM.lim ⟨P, I, genF P Sh.prims⟩) 30 [.int .i64 n] hb) hb (.str (decT n)) := by
  have hn' := hn
  obtain ⟨h1, h2⟩ := hn'
  rw [decT_eq hn]
  by_cases hp : 0 ≤ n
  · obtain ⟨u, rfl⟩ : ∃ u : Nat, n = u := ⟨n.toNat, by omega⟩
    rw [itoaN_nat]
    exact rDec_nat u (by omega) hb
  · obtain ⟨u, rfl, hu⟩ : ∃ u : Nat, n = -(u : Int) ∧ 1 ≤ u := ⟨n.natAbs, by omega, by omega⟩
    rw [itoaN_neg u hu]
    have hneg : -(u : Int) < 0 := by omega
    by_cases hbig : -(u : Int) < -4611686018427387904
    · have e1 : (-(u : Int)).tdiv 10 = -((u / 10 : Nat) : Int) := by rw [Int.neg_tdiv]; congr 1
      have e2 : (-(u : Int)).tmod 10 = -((u % 10 : Nat) : Int) := by rw [Int.neg_tmod]; congr 1
      have w1 : IntKind.i64.wrap (-((u / 10 : Nat) : Int)) = -((u / 10 : Nat) : Int) := wrap_in ⟨by omega, by omega⟩
      have w2 : IntKind.i64.wrap (0 - -((u / 10 : Nat) : Int)) = ((u / 10 : Nat) : Int) := by rw [wrap_in ⟨by omega, by omega⟩]; omega
      have w3 : IntKind.i64.wrap (0 - -((u % 10 : Nat) : Int)) = ((u % 10 : Nat) : Int) := by rw [wrap_in ⟨by omega, by omega⟩]; omega
      have r1 := fun g => rDec_nat (I := I) (u / 10) (by omega) g
      have r2 := fun g => rDec_nat (I := I) (u % 10) (by omega) g
      have hd := decN_big (u := u) (by omega)
      have hd2 := decN_small (u := u % 10) (by omega)
      haveI : StrB (decN (u / 10)) 20 := ⟨decN_len (by omega)⟩
      haveI : StrB (decN (u % 10)) 20 := ⟨decN_len (by omega)⟩
      rw [hd, ← hd2]
      generalize u / 10 = z at *
      generalize u % 10 = y at *
      generalize -(u : Int) = m at *
      refine f30.lim rfl (n := 3) ?_
      unfold f30.e
      simp only [Int.zero_sub, Int.neg_neg] at w2 w3
      (repeat' (first | refine Rf (fun hF hG => ?_) (fun hF hG => ?_) | assumption | (show Ext _ _; exact Ext.go) | (simp only [AHeap.next_alloc, AHeap.next_set, AHeap.next_kill, AHeap.next_res] at hle hsame) | simp (disch := first | exact D.go | fail) [setR, List.getElem?_cons_zero, List.getElem?_cons_succ, f30.n0, f30.b0, f30.n1, f30.b1, f30.n2, f30.b2, hneg, hbig, e1, e2, w1, w2, w3, *] | (refine Ret.thn (h0 := hb) (r1 _) ?_ (fun g hg hlo hle hsame hx => ?_)) | (refine Ret.thn (h0 := hb) (r2 _) ?_ (fun g hg hlo hle hsame hx => ?_))))
    · have w1 : IntKind.i64.wrap (0 - -(u : Int)) = (u : Int) := by rw [wrap_in ⟨by omega, by omega⟩]; omega
      have r1 := fun g => rDec_nat (I := I) u (by omega) g
      haveI : StrB (decN u) 20 := ⟨decN_len (by omega)⟩
      simp only [Int.zero_sub] at w1
      generalize -(u : Int) = m at *
      refine f30.lim rfl (n := 3) ?_
      unfold f30.e
      (repeat' (first | refine Rf (fun hF hG => ?_) (fun hF hG => ?_) | assumption | (show Ext _ _; exact Ext.go) | (simp only [AHeap.next_alloc, AHeap.next_set, AHeap.next_kill, AHeap.next_res] at hle hsame) | simp (disch := first | exact D.go | fail) [setR, List.getElem?_cons_zero, List.getElem?_cons_succ, f30.n0, f30.b0, f30.n1, f30.b1, f30.n2, f30.b2, hneg, hbig, w1, *] | (refine Ret.thn (h0 := hb) (r1 _) ?_ (fun g hg hlo hle hsame hx => ?_))))
def regT (n : Int) : List Nat := 114 :: decT n
instance (n : Int) : StrB (regT n) 22 := ⟨by unfold regT; have := (inferInstance : StrB (decT n) 21).le; simp; omega⟩
theorem tReg {n : Int} (hn : InR n) (hb : AHeap) : Ret ((AM.lim ⟨P, I, genF P Sh.prims⟩) 37 [.int .i64 n] hb) hb (.str (regT n)) := by
  refine f37.lim rfl (n := 0) ?_
  unfold f37.e
  (repeat' (first | refine Rf (fun hF hG => ?_) (fun hF hG => ?_) | assumption | (show Ext _ _; exact Ext.go) | (simp only [AHeap.next_alloc, AHeap.next_set, AHeap.next_kill, AHeap.next_res] at hle hsame) | simp (disch := first | exact D.go | fail) [setR, List.getElem?_cons_zero, List.getElem?_cons_succ, tItoa hn, regT, *]))
theorem rR {n : Int} (hn : InR n) (hb : AHeap) : Ret ((AM.lim ⟨P, I, genF P Sh.prims⟩) 31 [.int .i64 n] hb) hb (.str (regT n)) := by
  refine f31.lim rfl (n := 0) ?_
  unfold f31.e
  (repeat' (first | refine Rf (fun hF hG => ?_) (fun hF hG => ?_) | assumption | (show Ext _ _; exact Ext.go) | (simp only [AHeap.next_alloc, AHeap.next_set, AHeap.next_kill, AHeap.next_res] at hle hsame) | simp (disch := first | exact D.go | fail) [setR, List.getElem?_cons_zero, List.getElem?_cons_succ, regT, *] | (refine Ret.thn (h0 := hb) (rDec hn _) ?_ (fun g hg hlo hle hsame hx => ?_))))
/-! arguments -/
def tailT : List Int → List Nat
  | [] => []
  | x :: r => [44, 32] ++ (regT x ++ tailT r)
def bodyT : List Int → List Nat
  | [] => []
  | x :: r => regT x ++ tailT r
def argsT (l : List Int) : List Nat := 40 :: (bodyT l ++ [41])
theorem tailT_len : ∀ l : List Int, (tailT l).length ≤ 24 * l.length
  | [] => by simp [tailT]
  | x :: r => by
    have h1 := tailT_len r
    have h2 := (inferInstance : StrB (regT x) 22).le
    simp only [tailT, List.length_append, List.length_cons, List.length_nil]; omega
theorem bodyT_len (l : List Int) : (bodyT l).length ≤ 24 * l.length := by
  cases l with
  | nil => simp [bodyT]
  | cons x r =>
    have h1 := tailT_len r
    have h2 := (inferInstance : StrB (regT x) 22).le
    simp only [bodyT, List.length_append, List.length_cons]; omega
theorem inter_tail : ∀ (r : List Int) (x : Int), ([44, 32] : List Nat).intercalate ((x :: r).map regT) = regT x ++ tailT r
  | [], x => by simp [List.intercalate, tailT]
  | y :: r, x => by
    have := inter_tail r y
    simp only [List.map_cons, List.intercalate, List.intersperse_cons_cons, List.flatten_cons] at this ⊢
    rw [this]; simp [tailT]
theorem inter_body (l : List Int) : ([44, 32] : List Nat).intercalate (l.map regT) = bodyT l := by
  cases l with
  | nil => rfl
  | cons x r => exact inter_tail r x
/-- A slice of texts that was made here. -/
def StrsO (hb h : AHeap) (v : AVal) (xs : List (List Nat)) : Prop :=
  (v = .nils ∧ xs = []) ∨ ∃ k, v = .sl (.own k) 0 xs.length (.grown 1) ∧ h.get k = some ⟨xs.map AVal.str, true⟩ ∧ hb.next ≤ k ∧ k < h.next ∧ xs ≠ []
theorem StrsO.mono {hb h g : AHeap} {v : AVal} {xs : List (List Nat)} (a : StrsO hb h v xs) (e : Ext h g) : StrsO hb g v xs := by
  rcases a with a | ⟨k, rfl, hk, h1, h2, h3⟩
  · exact .inl a
  · exact .inr ⟨k, rfl, by rw [e.same k h2]; exact hk, h1, by have := e.lo; omega, h3⟩
theorem strs_one (xs : List (List Nat)) : ((xs.map AVal.str).all AVal.one) = true := by simp [AVal.one]
theorem app_str {hb h : AHeap} {xs : List (List Nat)} {v : AVal} (hv : StrsO hb h v xs) (eb : Ext hb h) (x : List Nat) (hn : xs.length ≤ 1048576) {kw : Nat} {c : Cap} (hw : h.get kw = some ⟨[.str x], true⟩) :
    Res (sAppend I 1 16 v (.sl (.own kw) 0 1 c) h) fun u g => StrsO hb g u (xs ++ [x]) ∧ Ext hb g := by
  rcases hv with ⟨rfl, rfl⟩ | ⟨k, rfl, hk, h1, h2, h3⟩
  · have := sAppend_nils (I := I) (sz := 1) (bytes := 16) (n := 0) (c := c) hw rfl rfl (by simp only [bigRoom]; omega)
    refine ⟨_, _, this, .inr ⟨h.next, rfl, ?_, eb.lo, by simp, by simp⟩, eb.alloc⟩
    simp [AHeap.alloc_at (Nb.o rfl)]
  · have := sAppend_full (I := I) (sz := 1) (bytes := 16) (n := 0) (c := c) (len := xs.length) hw rfl rfl hk (by rw [List.length_map, Nat.mul_one]) (strs_one xs) (by omega) (by simp only [bigRoom]; omega)
    refine ⟨_, _, this, .inr ⟨h.next, ?_, ?_, eb.lo, by simp, by simp⟩, (eb.kill (Nb.o h1)).alloc⟩
    · simp
    · rw [show h.next = (h.kill k).next from rfl, AHeap.alloc_at (Nb.o rfl)]; simp
theorem strsA_map : ∀ xs : List (List Nat), strsA (xs.map AVal.str) = some xs
  | [] => rfl
  | x :: r => by simp only [List.map_cons, strsA, strsA_map r]
theorem tJoin {hb h : AHeap} {v : AVal} {xs : List (List Nat)} (a : StrsO hb h v xs) (sep : List Nat) (hn : xs.length ≤ 1048576) (hl : (sep.intercalate xs).length ≤ 140737488355328) : (AM.lim ⟨P, I, genF P Sh.prims⟩) 43 [v, .str sep] h = some (.str (sep.intercalate xs), h) := by
  refine lim_of (C := ⟨P, I, genF P Sh.prims⟩) (n := 1) ?_
  simp only [callF, genF, show Sh.prims 43 = some AM.joinPrim from rfl]
  rcases a with ⟨rfl, rfl⟩ | ⟨k, rfl, hk, h1, h2, h3⟩
  · rfl
  · obtain ⟨n, hxn⟩ : ∃ n, xs.length = n + 1 := ⟨xs.length - 1, by have := List.length_pos_iff.2 h3; omega⟩
    have ht : (xs.map AVal.str).take (n + 1) = xs.map AVal.str := List.take_of_length_le (by rw [List.length_map]; omega)
    rw [hxn]
    simp only [joinPrim, hk, ht, strsA_map, List.length_map, hxn, Nat.ble_eq_true_of_le hl, Nat.ble_eq_true_of_le (Nat.le_refl (n + 1)), Nat.ble_eq_true_of_le (show n + 1 ≤ 140737488355328 by omega), Bool.and_self]
theorem tArgs {v : AVal} {xs : List Int} (sv : SlOf 1 (IntA I h0) v xs) (hl : xs.length ≤ 1048576) (hb : AHeap) (eb : Ext h0 hb) : Ret ((AM.lim ⟨P, I, genF P Sh.prims⟩) 41 [v] hb) hb (.str (argsT xs)) := by
  have hbl := bodyT_len xs
  haveI : StrB (bodyT xs) 25165824 := ⟨by omega⟩
  obtain ⟨N, hN⟩ := Evt.loop xs (F := fun i n => ∀ acc w h, StrsO hb h w acc → acc = (xs.take i).map regT → Ext hb h → Res ((f41.J I (AM.lim ⟨P, I, genF P Sh.prims⟩) (n)).1.2 w v (.int .i64 xs.length) (.int .i64 i) h) fun u g => u = .str (argsT xs) ∧ Ext hb g) 8
    (Evt.all 8 fun n acc w h hw ha e => by
      rw [List.take_length] at ha
      subst ha
      have hj := tJoin (I := I) hw [44, 32] (by rw [List.length_map]; exact hl) (by rw [inter_body]; omega)
      rw [inter_body] at hj
      rw [f41.n1]; unfold f41.b1
      (repeat' (first | refine Rf (fun hF hG => ?_) (fun hF hG => ?_) | assumption | (show Ext _ _; exact Ext.go) | (simp only [AHeap.next_alloc, AHeap.next_set, AHeap.next_kill, AHeap.next_res] at hle hsame) | simp (disch := first | exact D.go | fail) [setR, List.getElem?_cons_zero, List.getElem?_cons_succ, f41.n0, f41.b0, hj, argsT, *])))
    (fun i x n hx ih acc w h hw ha e => by
      have hlt := lt_of_get hx; have hwi := wrap_in (n := (i : Int) + 1) ⟨by omega, by omega⟩
      simp only [Int.natCast_add, Int.natCast_one] at ih
      have hlo := e.lo
      obtain ⟨l1, o1, hi, hxa⟩ := sv.at hx
      obtain ⟨hxa, hr⟩ := hxa.int
      have e0 := eb.trans e
      have hxx := hx
      rw [f41.n1]; unfold f41.b1
      (repeat' (first | refine Rf (fun hF hG => ?_) (fun hF hG => ?_) | assumption | (show Ext _ _; exact Ext.go) | (simp only [AHeap.next_alloc, AHeap.next_set, AHeap.next_kill, AHeap.next_res] at hle hsame) | simp (disch := first | exact D.go | fail) [setR, List.getElem?_cons_zero, List.getElem?_cons_succ, f41.n2, f41.b2, hi, hxa, hlt, *] | (refine Ret.thn (h0 := hb) (tReg hr _) ?_ (fun g hg hlo hle hsame hx => ?_))))
      have hw' : StrsO hb (g.alloc ⟨[.str (regT x)], true⟩) w acc := (hw.mono (by assumption)).mono (Ext.refl g).alloc
      refine Res.after (app_str hw' (hg.alloc) _ (by rw [ha, List.length_map, List.length_take]; omega) (AHeap.alloc_at (Nb.o rfl))) (fun u g' hA => ?_)
      have hi2 := fun m' hm' => ih m' hm' (acc ++ [regT x]) u g' hA.1 (by rw [ha, List.take_add_one, hxx]; simp) hA.2
      rw [f41.n3]; unfold f41.b3
      (repeat' (first | refine Rf (fun hF hG => ?_) (fun hF hG => ?_) | assumption | (show Ext _ _; exact Ext.go) | (simp only [AHeap.next_alloc, AHeap.next_set, AHeap.next_kill, AHeap.next_res] at hle hsame) | simp (disch := first | exact D.go | fail) [setR, List.getElem?_cons_zero, List.getElem?_cons_succ, hwi, *])))
    0 (by omega)
  refine f41.lim rfl (n := N) ?_
  unfold f41.e
  have := hN N (Nat.le_refl _) [] .nils hb (.inl ⟨rfl, rfl⟩) (by simp) (Ext.refl hb)
  (repeat' (first | refine Rf (fun hF hG => ?_) (fun hF hG => ?_) | assumption | (show Ext _ _; exact Ext.go) | (simp only [AHeap.next_alloc, AHeap.next_set, AHeap.next_kill, AHeap.next_res] at hle hsame) | simp (disch := first | exact D.go | fail) [setR, List.getElem?_cons_zero, List.getElem?_cons_succ, sv.len, *]))
theorem rArgs {v : AVal} {xs : List Int} (sv : SlOf 1 (IntA I h0) v xs) (hl : xs.length ≤ 1048576) (hb : AHeap) (eb : Ext h0 hb) : Ret ((AM.lim ⟨P, I, genF P Sh.prims⟩) 39 [v] hb) hb (.str (argsT xs)) := by
  obtain ⟨N, hN⟩ := Evt.loop xs (F := fun i n => ∀ (acc : List Nat) h, acc.length ≤ 1 + 24 * i → Ext hb h → Res ((f39.J I (AM.lim ⟨P, I, genF P Sh.prims⟩) (n)).1.2 v (.str acc) (.int .i64 i) h) fun u g => u = .str (acc ++ ((if i = 0 then bodyT (xs.drop i) else tailT (xs.drop i)) ++ [41])) ∧ Ext hb g) 8
    (Evt.all 8 fun n acc h ha e => by
      haveI : StrB acc 25165825 := ⟨by omega⟩
      rw [f39.n1]; unfold f39.b1
      (repeat' (first | refine Rf (fun hF hG => ?_) (fun hF hG => ?_) | assumption | (show Ext _ _; exact Ext.go) | (simp only [AHeap.next_alloc, AHeap.next_set, AHeap.next_kill, AHeap.next_res] at hle hsame) | simp (disch := first | exact D.go | fail) [setR, List.getElem?_cons_zero, List.getElem?_cons_succ, f39.n0, f39.b0, sv.len, bodyT, tailT, *])))
    (fun i x n hx ih acc h ha e => by
      have hlt := lt_of_get hx; have hwi := wrap_in (n := (i : Int) + 1) ⟨by omega, by omega⟩
      simp only [Int.natCast_add, Int.natCast_one] at ih
      have hlo := e.lo
      obtain ⟨l1, o1, hi, hxa⟩ := sv.at hx
      obtain ⟨hxa, hr⟩ := hxa.int
      have e0 := eb.trans e
      haveI : StrB acc 25165825 := ⟨by omega⟩
      have hrl := (inferInstance : StrB (regT x) 22).le
      rw [drop_of_get hx]
      rw [f39.n1]; unfold f39.b1
      have hi1 : ¬ i + 1 = 0 := by omega
      by_cases hi0 : i = 0
      · have ih' := fun m hm g e => ih m hm (acc ++ regT x) g (by rw [List.length_append]; omega) e
        simp only [hi1, if_false, List.append_assoc] at ih'
        rw [if_pos hi0]
        have hz : ¬ 0 < i := by omega
        clear hi0
        (repeat' (first | refine Rf (fun hF hG => ?_) (fun hF hG => ?_) | assumption | (show Ext _ _; exact Ext.go) | (simp only [AHeap.next_alloc, AHeap.next_set, AHeap.next_kill, AHeap.next_res] at hle hsame) | simp (disch := first | exact D.go | fail) [setR, List.getElem?_cons_zero, List.getElem?_cons_succ, f39.n2, f39.b2, f39.n4, f39.b4, f39.n3, f39.b3, sv.len, hi, hxa, hlt, hwi, hz, bodyT, List.append_assoc, *] | (refine Ret.thn (h0 := hb) (rR hr _) ?_ (fun g hg hlo hle hsame hx => ?_)) | (refine Res.mono (ih' _ (by omega) _ ?_) (fun u g hq => ?_); rotate_left; (obtain ⟨rfl, hq⟩ := hq); rotate_right)))
      · have hpos : 0 < i := by omega
        have ih' := fun m hm g e => ih m hm (acc ++ [44, 32] ++ regT x) g (by simp only [List.length_append, List.length_cons, List.length_nil]; omega) e
        simp only [hi1, if_false, List.append_assoc] at ih'
        (repeat' (first | refine Rf (fun hF hG => ?_) (fun hF hG => ?_) | assumption | (show Ext _ _; exact Ext.go) | (simp only [AHeap.next_alloc, AHeap.next_set, AHeap.next_kill, AHeap.next_res] at hle hsame) | simp (disch := first | exact D.go | fail) [setR, List.getElem?_cons_zero, List.getElem?_cons_succ, f39.n2, f39.b2, f39.n4, f39.b4, f39.n3, f39.b3, sv.len, hi, hxa, hlt, hwi, hpos, hi0, tailT, List.append_assoc, *] | (refine Ret.thn (h0 := hb) (rR hr _) ?_ (fun g hg hlo hle hsame hx => ?_)) | (refine Res.mono (ih' _ (by omega) _ ?_) (fun u g hq => ?_); rotate_left; (obtain ⟨rfl, hq⟩ := hq); rotate_right))))
    0 (by omega)
  refine f39.lim rfl (n := N) ?_
  unfold f39.e
  have := hN N (Nat.le_refl _) [40] hb (by simp) (Ext.refl hb)
  simp only [List.drop_zero, if_true] at this
  exact this
end
end
end Go.Proofs.YtblblpmkdmociaaDoor.Tx

set_option linter.unusedSimpArgs false
set_option linter.unusedVariables false
namespace Go.Proofs.YtblblpmkdmociaaDoor.Tx
noncomputable section
open Go.AM Go.Proofs.YtblblpmkdmociaaDoor.Sf
section
variable {I : Inp} {h0 : AHeap}
theorem opCases (op : Int) : op = 1 ∨ op = 2 ∨ op = 3 ∨ op = 4 ∨ op = 5 ∨ op = 6 ∨ op = 7 ∨ op = 8 ∨ op = 9 ∨ op = 10 ∨ op = 11 ∨ op = 12 ∨ op = 13 ∨ op = 14 ∨ op = 15 ∨ (op < 1 ∨ 15 < op) := by omega
/-! what an instruction defines and reads -/
def defB (op : Int) : Bool := !dc (op < 1) && (!dc (15 < op) && (!dc (op = 8) && (!dc (op = 9) && !dc (op = 15))))
def dstOf (i : Ins) : Int := if defB i.op = true then i.dst else 0
def usesL (i : Ins) : List Int :=
  if i.op = 2 then [i.a, i.b] else if i.op = 8 then [i.a, i.b] else if i.op = 6 then [i.a] else if i.op = 7 then [i.a] else if i.op = 9 then [i.a] else if i.op = 11 then [i.a] else if i.op = 15 then [i.a]
  else if i.op = 12 then i.args else if i.op = 13 then i.a :: i.args else if i.op = 14 then i.a :: i.args else []
end
end
end Go.Proofs.YtblblpmkdmociaaDoor.Tx

set_option linter.unusedSimpArgs false
set_option linter.unusedVariables false
namespace Go.Proofs.YtblblpmkdmociaaDoor.Tx
noncomputable section
open Go.AM Go.Proofs.YtblblpmkdmociaaDoor.Sf
section
variable {I : Inp} {h0 : AHeap}
/-- append(l, xs...), l made here. -/
theorem app_ints {hb h : AHeap} {xs ys : List Int} {w v : AVal} (hw : IntsO hb h w xs) (sv : SlOf 1 (IntA I h0) v ys) (eb : Ext hb h) (e0 : Ext h0 h) (hn : xs.length + ys.length ≤ 1000000) :
    Res (sAppend I 1 8 w v h) fun u g => IntsO hb g u (xs ++ ys) ∧ Ext hb g := by
  cases ys with
  | nil =>
    have : sAppend I 1 8 w v h = some (w, h) := by
      have hz : ∃ y, (v = .nils ∨ ∃ b o c, v = .sl (.inp b) o 0 c) ∧ y = v := by
        rcases sv with ⟨rfl, _⟩ | ⟨l, o, cap, rfl, _, hn, _⟩
        · exact ⟨_, .inl rfl, rfl⟩
        · obtain ⟨b, rfl⟩ := hn.2 rfl
          exact ⟨_, .inr ⟨b, o, cap, rfl⟩, rfl⟩
      obtain ⟨_, hz, _⟩ := hz
      rcases hw with ⟨rfl, rfl⟩ | ⟨k, rfl, _⟩
      · rcases hz with rfl | ⟨b, o, c, rfl⟩ <;> rfl
      · rcases hz with rfl | ⟨b, o, c, rfl⟩ <;> rfl
    exact ⟨_, _, this, by rw [List.append_nil]; exact hw, eb⟩
  | cons y ys =>
    obtain ⟨l, o, cap, rfl, hr⟩ := ints_cells sv h e0 (by simp)
    rcases hw with ⟨rfl, rfl⟩ | ⟨k, rfl, hk, h1, h2, h3⟩
    · have hb1 : Nat.ble ((y :: ys).length * 8) bigRoom = true := Nat.ble_eq_true_of_le (by simp only [bigRoom]; omega)
      have hb2 : Nat.ble (y :: ys).length bigRoom = true := Nat.ble_eq_true_of_le (by simp only [bigRoom]; omega)
      have : sAppend I 1 8 .nils (.sl l o (y :: ys).length cap) h = some (.sl (.own h.next) 0 (y :: ys).length (.grown 1), h.alloc ⟨(y :: ys).map fun n => AVal.int .i64 n, true⟩) := by
        simp only [sAppend, appendK_eq, appendTo, srcCells, hr]
        simp only [List.length_cons] at hb1 hb2 ⊢
        simp only [ints_all, hb1, hb2]
        rfl
      exact ⟨_, _, this, .inr ⟨h.next, by simp, by rw [AHeap.alloc_at (Nb.o rfl)]; simp, eb.lo, by simp, by simp⟩, eb.alloc⟩
    · have hb1 : Nat.ble ((xs.length + (y :: ys).length) * 8) bigRoom = true := Nat.ble_eq_true_of_le (by simp only [bigRoom]; omega)
      have hb2 : Nat.ble (xs.length + (y :: ys).length) bigRoom = true := Nat.ble_eq_true_of_le (by simp only [bigRoom]; omega)
      have hle : Nat.ble (0 + xs.length * 1) xs.length = true := Nat.ble_eq_true_of_le (by omega)
      have hgt : Nat.ble (0 + xs.length * 1 + (ys.length + 1)) xs.length = false := by
        cases hx : Nat.ble (0 + xs.length * 1 + (ys.length + 1)) xs.length with
        | false => rfl
        | true => have := Nat.le_of_ble_eq_true hx; omega
      have ht : ((xs.map fun n => AVal.int .i64 n).drop 0).take (xs.length * 1) = xs.map fun n => AVal.int .i64 n := by rw [List.drop_zero, List.take_of_length_le (by rw [List.length_map]; omega)]
      have : sAppend I 1 8 (.sl (.own k) 0 xs.length (.grown 1)) (.sl l o (y :: ys).length cap) h = some (.sl (.own h.next) 0 (xs.length + (y :: ys).length) (.grown 1), (h.kill k).alloc ⟨(xs.map fun n => AVal.int .i64 n) ++ ((y :: ys).map fun n => AVal.int .i64 n), true⟩) := by
        simp only [sAppend, appendK_eq, appendTo, srcCells, hr]
        simp only [List.length_cons] at hb1 hb2 ⊢
        simp only [ints_all, hb1, hb2, hk, List.length_map, List.length_cons, Nat.beq_refl, hle, hgt, Bool.and_self, ht, show h.room = true from rfl]
      refine ⟨_, _, this, .inr ⟨h.next, by simp, ?_, eb.lo, by simp, by simp⟩, (eb.kill (Nb.o h1)).alloc⟩
      rw [show h.next = (h.kill k).next from rfl, AHeap.alloc_at (Nb.o rfl)]; simp
theorem tDef {cs : List AVal} {i : Ins} (hi : InsC I h0 cs i) (hb : AHeap) : Ret ((AM.lim ⟨P, I, genF P Sh.prims⟩) 22 [.agg cs] hb) hb (.tuple [.int .i64 (dstOf i), .bool (defB i.op)]) := by
  obtain ⟨op, dst, a, b, n, args⟩ := i
  obtain ⟨v, rfl, sv, _⟩ := hi
  rcases opCases op with rfl | rfl | rfl | rfl | rfl | rfl | rfl | rfl | rfl | rfl | rfl | rfl | rfl | rfl | rfl | h16
  all_goals (
    ((try (have n1 : ¬ op = 1 := by omega)); (try (have n2 : ¬ op = 2 := by omega)); (try (have n3 : ¬ op = 3 := by omega)); (try (have n4 : ¬ op = 4 := by omega)); (try (have n5 : ¬ op = 5 := by omega)); (try (have n6 : ¬ op = 6 := by omega)); (try (have n7 : ¬ op = 7 := by omega)); (try (have n8 : ¬ op = 8 := by omega)); (try (have n9 : ¬ op = 9 := by omega)); (try (have n10 : ¬ op = 10 := by omega)); (try (have n11 : ¬ op = 11 := by omega)); (try (have n12 : ¬ op = 12 := by omega)); (try (have n13 : ¬ op = 13 := by omega)); (try (have n14 : ¬ op = 14 := by omega)); (try (have n15 : ¬ op = 15 := by omega)))
    refine f22.lim rfl (n := 3) ?_
    unfold f22.e
    (repeat' (first | refine Rf (fun hF hG => ?_) (fun hF hG => ?_) | assumption | (show Ext _ _; exact Ext.go) | (simp only [AHeap.next_alloc, AHeap.next_set, AHeap.next_kill, AHeap.next_res] at hle hsame) | simp (disch := first | exact D.go | fail) [setR, List.getElem?_cons_zero, List.getElem?_cons_succ, f22.n0, f22.b0, f22.n1, f22.b1, f22.n2, f22.b2, dstOf, defB, *])))
  all_goals (have hd : ¬ (1 ≤ op ∧ op ≤ 15) := by omega)
  all_goals (simp_all; try omega)
theorem IntsO.nil (hb h : AHeap) : IntsO hb h .nils [] := .inl ⟨rfl, rfl⟩
end
end
end Go.Proofs.YtblblpmkdmociaaDoor.Tx

set_option linter.unusedSimpArgs false
set_option linter.unusedVariables false
namespace Go.Proofs.YtblblpmkdmociaaDoor.Tx
noncomputable section
open Go.AM Go.Proofs.YtblblpmkdmociaaDoor.Sf
section
variable {I : Inp} {h0 : AHeap}
theorem app_lit {h : AHeap} {k : Nat} (xs : List Int) (hk : h.get k = some ⟨xs.map fun n => AVal.int .i64 n, true⟩) (hx : xs ≠ []) (hr : ∀ x ∈ xs, InR x) (hl : k < h.next) (hn : xs.length ≤ 1000) (e0 : Ext h0 h) :
    Res (sAppend I 1 8 .nils (.sl (.own k) 0 xs.length (.known xs.length)) h) fun u g => IntsO h g u xs ∧ Ext h g := by
  have sv : SlOf 1 (IntA I h) (.sl (.own k) 0 xs.length (.known xs.length)) xs := ints_new hk hl (fun m hm => by simp [capHas]; simpa using hm) (by omega) hx hr
  exact app_ints (IntsO.nil _ _) sv (Ext.refl _) (Ext.refl _) (by simp; omega)
end
end
end Go.Proofs.YtblblpmkdmociaaDoor.Tx

set_option linter.unusedSimpArgs false
set_option linter.unusedVariables false
namespace Go.Proofs.YtblblpmkdmociaaDoor.Tx
noncomputable section
open Go.AM Go.Proofs.YtblblpmkdmociaaDoor.Sf
section
variable {I : Inp} {h0 : AHeap}
/-! an instruction's line -/
def valT (i : Ins) : List Nat :=
  if i.op = 1 then [99, 111, 110, 115, 116, 32] ++ decT i.n else if i.op = 2 then [97, 100, 100, 32] ++ (regT i.a ++ ([32] ++ regT i.b)) else if i.op = 3 then [115, 111, 117, 114, 99, 101] else if i.op = 4 then [110, 105, 108] else if i.op = 5 then [110, 101, 119]
  else if i.op = 6 then regT i.a else if i.op = 7 then regT i.a ++ ([46] ++ decT i.n) else if i.op = 10 then [102, 117, 110, 99, 32] ++ decT i.n else if i.op = 11 then [105, 102, 97, 99, 101, 32] ++ regT i.a
  else if i.op = 12 then [99, 97, 108, 108, 32] ++ (decT i.n ++ argsT i.args) else if i.op = 13 then [99, 97, 108, 108, 32] ++ (regT i.a ++ argsT i.args) else if i.op = 14 then [99, 97, 108, 108, 32] ++ (regT i.a ++ ([46] ++ (decT i.n ++ argsT i.args))) else []
def lineT (i : Ins) : List Nat :=
  if i.op = 8 then regT i.a ++ ([46] ++ (decT i.n ++ ([32, 61, 32] ++ regT i.b))) else if i.op = 9 then [102, 114, 101, 101, 32] ++ regT i.a else if i.op = 15 then [115, 105, 110, 107, 32] ++ regT i.a
  else if i.op < 1 ∨ 15 < i.op then [63] else regT i.dst ++ ([32, 61, 32] ++ valT i)
theorem argsT_len (l : List Int) (h : l.length ≤ 1048576) : (argsT l).length ≤ 25165826 := by
  have := bodyT_len l
  simp only [argsT, List.length_cons, List.length_append, List.length_nil]; omega
theorem tValue {cs : List AVal} {i : Ins} (hi : InsC I h0 cs i) (hm : i.args.length ≤ 1048576) (hb : AHeap) (eb : Ext h0 hb) : Ret ((AM.lim ⟨P, I, genF P Sh.prims⟩) 38 [.agg cs] hb) hb (.str (valT i)) := by
  obtain ⟨op, dst, a, b, n, args⟩ := i
  obtain ⟨v, rfl, sv, r1, r2, r3, r4, r5⟩ := hi
  simp only at hm r2 r3 r4 r5
  haveI : StrB (argsT args) 25165826 := ⟨argsT_len _ hm⟩
  have hI := fun g => tItoa (I := I) r5 g
  have o1 := sv.one
  have o2 := sv.self
  rcases opCases op with rfl | rfl | rfl | rfl | rfl | rfl | rfl | rfl | rfl | rfl | rfl | rfl | rfl | rfl | rfl | h16
  all_goals (
    ((try (have n1 : ¬ op = 1 := by omega)); (try (have n2 : ¬ op = 2 := by omega)); (try (have n3 : ¬ op = 3 := by omega)); (try (have n4 : ¬ op = 4 := by omega)); (try (have n5 : ¬ op = 5 := by omega)); (try (have n6 : ¬ op = 6 := by omega)); (try (have n7 : ¬ op = 7 := by omega)); (try (have n8 : ¬ op = 8 := by omega)); (try (have n9 : ¬ op = 9 := by omega)); (try (have n10 : ¬ op = 10 := by omega)); (try (have n11 : ¬ op = 11 := by omega)); (try (have n12 : ¬ op = 12 := by omega)); (try (have n13 : ¬ op = 13 := by omega)); (try (have n14 : ¬ op = 14 := by omega)); (try (have n15 : ¬ op = 15 := by omega)))
    refine f38.lim rfl (n := 3) ?_
    unfold f38.e
    (repeat' (first | refine Rf (fun hF hG => ?_) (fun hF hG => ?_) | assumption | (show Ext _ _; exact Ext.go) | (simp only [AHeap.next_alloc, AHeap.next_set, AHeap.next_kill, AHeap.next_res] at hle hsame) | simp (disch := first | exact D.go | fail) [setR, List.getElem?_cons_zero, List.getElem?_cons_succ, f38.n0, f38.b0, valT, hI, o1, o2, List.append_assoc, *] | (refine Ret.thn (h0 := hb) (tReg r3 _) ?_ (fun g hg hlo hle hsame hx => ?_)) | (refine Ret.thn (h0 := hb) (tReg r4 _) ?_ (fun g hg hlo hle hsame hx => ?_)) | (refine Ret.thn (h0 := hb) (tArgs sv (by simp only; omega) _ Ext.go) ?_ (fun g hg hlo hle hsame hx => ?_)))))
theorem valT_ne {i : Ins} (h : ¬ (i.op < 1 ∨ 15 < i.op)) (h8 : i.op ≠ 8) (h9 : i.op ≠ 9) (h15 : i.op ≠ 15) : ∃ c l, valT i = c :: l := by
  obtain ⟨op, dst, a, b, n, args⟩ := i
  simp only at h h8 h9 h15
  rcases opCases op with rfl | rfl | rfl | rfl | rfl | rfl | rfl | rfl | rfl | rfl | rfl | rfl | rfl | rfl | rfl | h16
  all_goals (first | exact absurd h16 h | contradiction | (simp [valT, regT]))
theorem valT_len {i : Ins} (hm : i.args.length ≤ 1048576) : (valT i).length ≤ 25165926 := by
  obtain ⟨op, dst, a, b, n, args⟩ := i
  simp only at hm
  haveI : StrB (argsT args) 25165826 := ⟨argsT_len _ hm⟩
  rcases opCases op with rfl | rfl | rfl | rfl | rfl | rfl | rfl | rfl | rfl | rfl | rfl | rfl | rfl | rfl | rfl | h16
  all_goals (
    ((try (have n1 : ¬ op = 1 := by omega)); (try (have n2 : ¬ op = 2 := by omega)); (try (have n3 : ¬ op = 3 := by omega)); (try (have n4 : ¬ op = 4 := by omega)); (try (have n5 : ¬ op = 5 := by omega)); (try (have n6 : ¬ op = 6 := by omega)); (try (have n7 : ¬ op = 7 := by omega)); (try (have n8 : ¬ op = 8 := by omega)); (try (have n9 : ¬ op = 9 := by omega)); (try (have n10 : ¬ op = 10 := by omega)); (try (have n11 : ¬ op = 11 := by omega)); (try (have n12 : ¬ op = 12 := by omega)); (try (have n13 : ¬ op = 13 := by omega)); (try (have n14 : ¬ op = 14 := by omega)); (try (have n15 : ¬ op = 15 := by omega)))
    simp [valT, *]
    try (have h1 := (inferInstance : StrB (decT n) 21).le
         have h2 := (inferInstance : StrB (regT a) 22).le
         have h3 := (inferInstance : StrB (regT b) 22).le
         have h4 := (inferInstance : StrB (argsT args) 25165826).le
         omega))
theorem valT_nil {i : Ins} (h : i.op < 1 ∨ 15 < i.op) : valT i = [] := by
  have n1 : ¬ i.op = 1 := by omega
  have n2 : ¬ i.op = 2 := by omega
  have n3 : ¬ i.op = 3 := by omega
  have n4 : ¬ i.op = 4 := by omega
  have n5 : ¬ i.op = 5 := by omega
  have n6 : ¬ i.op = 6 := by omega
  have n7 : ¬ i.op = 7 := by omega
  have n10 : ¬ i.op = 10 := by omega
  have n11 : ¬ i.op = 11 := by omega
  have n12 : ¬ i.op = 12 := by omega
  have n13 : ¬ i.op = 13 := by omega
  have n14 : ¬ i.op = 14 := by omega
  simp only [valT, *, if_false]
theorem tLine {cs : List AVal} {i : Ins} (hi : InsC I h0 cs i) (hm : i.args.length ≤ 1048576) (hb : AHeap) (eb : Ext h0 hb) : Ret ((AM.lim ⟨P, I, genF P Sh.prims⟩) 20 [.agg cs] hb) hb (.str (lineT i)) := by
  have hV := fun g e => tValue hi hm g e
  have hVn : (i.op < 1 ∨ 15 < i.op) → valT i = [] := valT_nil
  have hVc : ¬ (i.op < 1 ∨ 15 < i.op) → i.op ≠ 8 → i.op ≠ 9 → i.op ≠ 15 → ∃ c l, valT i = c :: l := valT_ne
  have hVl := valT_len hm
  obtain ⟨op, dst, a, b, n, args⟩ := i
  obtain ⟨v, rfl, sv, r1, r2, r3, r4, r5⟩ := hi
  simp only at hm r2 r3 r4 r5
  have hI := fun g => tItoa (I := I) r5 g
  have o1 := sv.one
  have o2 := sv.self
  unfold lineT
  by_cases h16 : op < 1 ∨ 15 < op
  · have hVn := hVn h16
    ((try (have n1 : ¬ op = 1 := by omega)); (try (have n2 : ¬ op = 2 := by omega)); (try (have n3 : ¬ op = 3 := by omega)); (try (have n4 : ¬ op = 4 := by omega)); (try (have n5 : ¬ op = 5 := by omega)); (try (have n6 : ¬ op = 6 := by omega)); (try (have n7 : ¬ op = 7 := by omega)); (try (have n8 : ¬ op = 8 := by omega)); (try (have n9 : ¬ op = 9 := by omega)); (try (have n10 : ¬ op = 10 := by omega)); (try (have n11 : ¬ op = 11 := by omega)); (try (have n12 : ¬ op = 12 := by omega)); (try (have n13 : ¬ op = 13 := by omega)); (try (have n14 : ¬ op = 14 := by omega)); (try (have n15 : ¬ op = 15 := by omega)))
    rw [if_neg (by simp only; omega), if_neg (by simp only; omega), if_neg (by simp only; omega), if_pos h16]
    generalize valT _ = V at *
    subst hVn
    refine f20.lim rfl (n := 3) ?_
    unfold f20.e
    (repeat' (first | refine Rf (fun hF hG => ?_) (fun hF hG => ?_) | assumption | (show Ext _ _; exact Ext.go) | (simp only [AHeap.next_alloc, AHeap.next_set, AHeap.next_kill, AHeap.next_res] at hle hsame) | simp (disch := first | exact D.go | fail) [setR, List.getElem?_cons_zero, List.getElem?_cons_succ, f20.n0, f20.b0, f20.n1, f20.b1, o1, o2, *] | (refine Ret.thn (h0 := hb) (hV _ Ext.go) ?_ (fun g hg hlo hle hsame hx => ?_))))
  · by_cases h8 : op = 8
    · subst h8
      rw [if_pos rfl]
      refine f20.lim rfl (n := 3) ?_
      unfold f20.e
      (repeat' (first | refine Rf (fun hF hG => ?_) (fun hF hG => ?_) | assumption | (show Ext _ _; exact Ext.go) | (simp only [AHeap.next_alloc, AHeap.next_set, AHeap.next_kill, AHeap.next_res] at hle hsame) | simp (disch := first | exact D.go | fail) [setR, List.getElem?_cons_zero, List.getElem?_cons_succ, f20.n0, f20.b0, f20.n1, f20.b1, hI, o1, o2, List.append_assoc, *] | (refine Ret.thn (h0 := hb) (tReg r3 _) ?_ (fun g hg hlo hle hsame hx => ?_)) | (refine Ret.thn (h0 := hb) (tReg r4 _) ?_ (fun g hg hlo hle hsame hx => ?_))))
    · by_cases h9 : op = 9
      · subst h9
        rw [if_neg (by simp), if_pos rfl]
        refine f20.lim rfl (n := 3) ?_
        unfold f20.e
        (repeat' (first | refine Rf (fun hF hG => ?_) (fun hF hG => ?_) | assumption | (show Ext _ _; exact Ext.go) | (simp only [AHeap.next_alloc, AHeap.next_set, AHeap.next_kill, AHeap.next_res] at hle hsame) | simp (disch := first | exact D.go | fail) [setR, List.getElem?_cons_zero, List.getElem?_cons_succ, f20.n0, f20.b0, f20.n1, f20.b1, hI, o1, o2, List.append_assoc, *] | (refine Ret.thn (h0 := hb) (tReg r3 _) ?_ (fun g hg hlo hle hsame hx => ?_)) | (refine Ret.thn (h0 := hb) (tReg r4 _) ?_ (fun g hg hlo hle hsame hx => ?_))))
      · by_cases h15 : op = 15
        · subst h15
          rw [if_neg (by simp), if_neg (by simp), if_pos rfl]
          refine f20.lim rfl (n := 3) ?_
          unfold f20.e
          (repeat' (first | refine Rf (fun hF hG => ?_) (fun hF hG => ?_) | assumption | (show Ext _ _; exact Ext.go) | (simp only [AHeap.next_alloc, AHeap.next_set, AHeap.next_kill, AHeap.next_res] at hle hsame) | simp (disch := first | exact D.go | fail) [setR, List.getElem?_cons_zero, List.getElem?_cons_succ, f20.n0, f20.b0, f20.n1, f20.b1, hI, o1, o2, List.append_assoc, *] | (refine Ret.thn (h0 := hb) (tReg r3 _) ?_ (fun g hg hlo hle hsame hx => ?_)) | (refine Ret.thn (h0 := hb) (tReg r4 _) ?_ (fun g hg hlo hle hsame hx => ?_))))
        · obtain ⟨c, l, hcl⟩ := hVc h16 h8 h9 h15
          rw [if_neg h8, if_neg h9, if_neg h15, if_neg h16]
          haveI : StrB (valT { op := op, dst := dst, a := a, b := b, n := n, args := args }) 25165926 := ⟨hVl⟩
          generalize valT _ = V at *
          subst hcl
          refine f20.lim rfl (n := 3) ?_
          unfold f20.e
          (repeat' (first | refine Rf (fun hF hG => ?_) (fun hF hG => ?_) | assumption | (show Ext _ _; exact Ext.go) | (simp only [AHeap.next_alloc, AHeap.next_set, AHeap.next_kill, AHeap.next_res] at hle hsame) | simp (disch := first | exact D.go | fail) [setR, List.getElem?_cons_zero, List.getElem?_cons_succ, f20.n0, f20.b0, f20.n1, f20.b1, h8, h9, h15, o1, o2, List.append_assoc, *] | (refine Ret.thn (h0 := hb) (hV _ Ext.go) ?_ (fun g hg hlo hle hsame hx => ?_)) | (refine Ret.thn (h0 := hb) (tReg r2 _) ?_ (fun g hg hlo hle hsame hx => ?_))))
theorem rLine {cs : List AVal} {i : Ins} (hi : InsC I h0 cs i) (hm : i.args.length ≤ 1048576) (hb : AHeap) (eb : Ext h0 hb) : Ret ((AM.lim ⟨P, I, genF P Sh.prims⟩) 27 [.agg cs] hb) hb (.str (lineT i)) := by
  obtain ⟨op, dst, a, b, n, args⟩ := i
  obtain ⟨v, rfl, sv, r1, r2, r3, r4, r5⟩ := hi
  simp only at hm r2 r3 r4 r5
  haveI : StrB (argsT args) 25165826 := ⟨argsT_len _ hm⟩
  have o1 := sv.one
  have o2 := sv.self
  rcases opCases op with rfl | rfl | rfl | rfl | rfl | rfl | rfl | rfl | rfl | rfl | rfl | rfl | rfl | rfl | rfl | h16
  all_goals (
    ((try (have n1 : ¬ op = 1 := by omega)); (try (have n2 : ¬ op = 2 := by omega)); (try (have n3 : ¬ op = 3 := by omega)); (try (have n4 : ¬ op = 4 := by omega)); (try (have n5 : ¬ op = 5 := by omega)); (try (have n6 : ¬ op = 6 := by omega)); (try (have n7 : ¬ op = 7 := by omega)); (try (have n8 : ¬ op = 8 := by omega)); (try (have n9 : ¬ op = 9 := by omega)); (try (have n10 : ¬ op = 10 := by omega)); (try (have n11 : ¬ op = 11 := by omega)); (try (have n12 : ¬ op = 12 := by omega)); (try (have n13 : ¬ op = 13 := by omega)); (try (have n14 : ¬ op = 14 := by omega)); (try (have n15 : ¬ op = 15 := by omega)))
    refine f27.lim rfl (n := 3) ?_
    unfold f27.e
    (repeat' (first | refine Rf (fun hF hG => ?_) (fun hF hG => ?_) | assumption | (show Ext _ _; exact Ext.go) | (simp only [AHeap.next_alloc, AHeap.next_set, AHeap.next_kill, AHeap.next_res] at hle hsame) | simp (disch := first | exact D.go | fail) [setR, List.getElem?_cons_zero, List.getElem?_cons_succ, f27.n0, f27.b0, lineT, valT, o1, o2, List.append_assoc, *] | (refine Ret.thn (h0 := hb) (rR r2 _) ?_ (fun g hg hlo hle hsame hx => ?_)) | (refine Ret.thn (h0 := hb) (rR r3 _) ?_ (fun g hg hlo hle hsame hx => ?_)) | (refine Ret.thn (h0 := hb) (rR r4 _) ?_ (fun g hg hlo hle hsame hx => ?_)) | (refine Ret.thn (h0 := hb) (rDec r5 _) ?_ (fun g hg hlo hle hsame hx => ?_)) | (refine Ret.thn (h0 := hb) (rArgs sv (by simp only; omega) _ Ext.go) ?_ (fun g hg hlo hle hsame hx => ?_)))))
end
end
end Go.Proofs.YtblblpmkdmociaaDoor.Tx

set_option linter.unusedSimpArgs false
set_option linter.unusedVariables false
namespace Go.Proofs.YtblblpmkdmociaaDoor.Tx
noncomputable section
open Go.AM Go.Proofs.YtblblpmkdmociaaDoor.Sf
section
variable {I : Inp} {h0 : AHeap}
/-! a program's lines -/
def endT (b : Bk) : List Nat := if b.fin = 1 then [106, 117, 109, 112, 32] ++ decT b.to else if b.fin = 2 then [98, 114, 97, 110, 99, 104, 32] ++ (regT b.reg ++ (32 :: (decT b.to ++ (32 :: decT b.els)))) else if b.fin = 3 then [114, 101, 116, 117, 114, 110, 32] ++ regT b.reg else [63]
def codeL : List Ins → List (List Nat)
  | [] => []
  | i :: r => ([32, 32, 32, 32] ++ lineT i) :: codeL r
def bkL : Nat → List Bk → List (List Nat)
  | _, [] => []
  | n, b :: r => ([32, 32, 98, 108, 111, 99, 107, 32] ++ decT n) :: (codeL b.code ++ (([32, 32, 32, 32] ++ endT b) :: bkL (n + 1) r))
def fuL : Nat → List Fu → List (List Nat)
  | _, [] => []
  | n, f :: r => ([102, 117, 110, 99, 32] ++ decT n) :: (bkL 0 f.blocks ++ fuL (n + 1) r)
def flatL : List (List Nat) → List Nat
  | [] => []
  | l :: r => l ++ (10 :: flatL r)
theorem flatL_app : ∀ a b, flatL (a ++ b) = flatL a ++ flatL b
  | [], b => rfl
  | x :: a, b => by simp [flatL, flatL_app a b]
theorem flatL_len (M : Nat) : ∀ l : List (List Nat), (∀ x ∈ l, x.length ≤ M) → (flatL l).length ≤ l.length * (M + 1)
  | [], _ => by simp [flatL]
  | x :: r, h => by
    have h1 := flatL_len M r fun y hy => h y (by simp [hy])
    have h2 := h x (by simp)
    simp only [flatL, List.length_append, List.length_cons, Nat.add_mul]
    omega
theorem lineT_len {i : Ins} (hm : i.args.length ≤ 1048576) : (lineT i).length ≤ 25165960 := by
  have h0 := valT_len hm
  have h1 := (inferInstance : StrB (decT i.n) 21).le
  have h2 := (inferInstance : StrB (regT i.a) 22).le
  have h3 := (inferInstance : StrB (regT i.b) 22).le
  have h4 := (inferInstance : StrB (regT i.dst) 22).le
  unfold lineT
  split
  · simp only [List.length_append, List.length_cons, List.length_nil]; omega
  · split
    · simp only [List.length_append, List.length_cons, List.length_nil]; omega
    · split
      · simp only [List.length_append, List.length_cons, List.length_nil]; omega
      · split
        · simp
        · simp only [List.length_append, List.length_cons, List.length_nil]; omega
instance (b : Bk) : StrB (endT b) 80 := ⟨by
  have h1 := (inferInstance : StrB (decT b.to) 21).le
  have h2 := (inferInstance : StrB (decT b.els) 21).le
  have h3 := (inferInstance : StrB (regT b.reg) 22).le
  unfold endT
  split
  · simp only [List.length_append, List.length_cons, List.length_nil]; omega
  · split
    · simp only [List.length_append, List.length_cons, List.length_nil]; omega
    · split
      · simp only [List.length_append, List.length_cons, List.length_nil]; omega
      · simp⟩
theorem tEndT {cs : List AVal} {b : Bk} (hb' : BkC I h0 cs b) (hb : AHeap) : Ret ((AM.lim ⟨P, I, genF P Sh.prims⟩) 29 [.agg cs] hb) hb (.str (endT b)) := by
  obtain ⟨vc, rfl, sc, q1, q2, q3, q4⟩ := hb'
  have oc := sc.one
  have i3 := fun g => tItoa (I := I) q3 g
  have i4 := fun g => tItoa (I := I) q4 g
  refine f29.lim rfl (n := 2) ?_
  unfold f29.e
  by_cases h1 : b.fin = 1
  · (repeat' (first | refine Rf (fun hF hG => ?_) (fun hF hG => ?_) | assumption | (show Ext _ _; exact Ext.go) | (simp only [AHeap.next_alloc, AHeap.next_set, AHeap.next_kill, AHeap.next_res] at hle hsame) | simp (disch := first | exact D.go | fail) [setR, List.getElem?_cons_zero, List.getElem?_cons_succ, f29.n0, f29.b0, endT, h1, i3, i4, oc, List.append_assoc, *] | (refine Ret.thn (h0 := hb) (tReg q2 _) ?_ (fun g hg hlo hle hsame hx => ?_))))
  · by_cases h2 : b.fin = 2
    · (repeat' (first | refine Rf (fun hF hG => ?_) (fun hF hG => ?_) | assumption | (show Ext _ _; exact Ext.go) | (simp only [AHeap.next_alloc, AHeap.next_set, AHeap.next_kill, AHeap.next_res] at hle hsame) | simp (disch := first | exact D.go | fail) [setR, List.getElem?_cons_zero, List.getElem?_cons_succ, f29.n0, f29.b0, endT, h1, h2, i3, i4, oc, List.append_assoc, *] | (refine Ret.thn (h0 := hb) (tReg q2 _) ?_ (fun g hg hlo hle hsame hx => ?_))))
    · by_cases h3 : b.fin = 3
      · (repeat' (first | refine Rf (fun hF hG => ?_) (fun hF hG => ?_) | assumption | (show Ext _ _; exact Ext.go) | (simp only [AHeap.next_alloc, AHeap.next_set, AHeap.next_kill, AHeap.next_res] at hle hsame) | simp (disch := first | exact D.go | fail) [setR, List.getElem?_cons_zero, List.getElem?_cons_succ, f29.n0, f29.b0, endT, h1, h2, h3, i3, i4, oc, List.append_assoc, *] | (refine Ret.thn (h0 := hb) (tReg q2 _) ?_ (fun g hg hlo hle hsame hx => ?_))))
      · (repeat' (first | refine Rf (fun hF hG => ?_) (fun hF hG => ?_) | assumption | (show Ext _ _; exact Ext.go) | (simp only [AHeap.next_alloc, AHeap.next_set, AHeap.next_kill, AHeap.next_res] at hle hsame) | simp (disch := first | exact D.go | fail) [setR, List.getElem?_cons_zero, List.getElem?_cons_succ, f29.n0, f29.b0, endT, h1, h2, h3, i3, i4, oc, List.append_assoc, *] | (refine Ret.thn (h0 := hb) (tReg q2 _) ?_ (fun g hg hlo hle hsame hx => ?_))))
end
end
end Go.Proofs.YtblblpmkdmociaaDoor.Tx

set_option linter.unusedSimpArgs false
set_option linter.unusedVariables false
namespace Go.Proofs.YtblblpmkdmociaaDoor.Tx
noncomputable section
open Go.AM Go.Proofs.YtblblpmkdmociaaDoor.Sf
section
variable {I : Inp} {h0 : AHeap}
theorem rPrint {l : AM.Loc} {o : Nat} {q : Pg} (hq : PgA I h0 l o q) (hcode : ∀ f ∈ q.funcs, ∀ b ∈ f.blocks, b.code.length ≤ 1000000) (hS : ∀ f ∈ q.funcs, ∀ b ∈ f.blocks, ∀ i ∈ b.code, i.args.length ≤ 1048576)
    (hL : (flatL (fuL 0 q.funcs)).length ≤ 20000000000) (hb : AHeap) (eb : Ext h0 hb) : Ret ((AM.lim ⟨P, I, genF P Sh.prims⟩) 12 [.ptr l o] hb) hb (.str (flatL (fuL 0 q.funcs))) := by
  obtain ⟨_, ⟨vr, vs, vf, vi, vu, rfl, rm, sr, ss, sf, si, su⟩, hc⟩ := hq
  have lu := su.lt
  obtain ⟨N, hN⟩ := Evt.loop' q.funcs (F := fun i n => ∀ (acc : List Nat) h, acc.length + (flatL (fuL i (q.funcs.drop i))).length ≤ 20000000000 → Ext hb h → Res ((f12.J I (AM.lim ⟨P, I, genF P Sh.prims⟩) (n)).1.1.2 (.ptr l o) (.str acc) (.int .i64 i) h) fun u g => u = .str (acc ++ flatL (fuL i (q.funcs.drop i))) ∧ Ext hb g)
    (Evt.all 5 fun n acc h hn e => by
      rw [f12.n1]; unfold f12.b1
      (repeat' (first | refine Rf (fun hF hG => ?_) (fun hF hG => ?_) | assumption | (show Ext _ _; exact Ext.go) | (simp only [AHeap.next_alloc, AHeap.next_set, AHeap.next_kill, AHeap.next_res] at hle hsame) | simp (disch := first | exact D.go | fail) [setR, List.getElem?_cons_zero, List.getElem?_cons_succ, f12.n0, f12.b0, hc.rd0, hc.rd1, hc.rd2, hc.rd3, hc.rd4, hc.rd5, sr.len, ss.len, sf.len, si.len, su.len, sr.self, ss.self, sf.self, si.self, su.self, fuL, flatL, *])))
    (fun i f hf hfo => by
      obtain ⟨lf, of, hif, ⟨_, ⟨wr, wb, rfl, r0, swr, swb⟩, hwf⟩⟩ := su.at hf
      have hlt := lt_of_get hf; have hw := wrap_in (n := (i : Int) + 1) ⟨by omega, by omega⟩
      have hri : InR (i : Int) := ⟨by omega, by omega⟩
      have lb := swb.lt
      simp only [Int.natCast_add, Int.natCast_one] at hfo
      have inner := Evt.loop' f.blocks (F := fun b n => ∀ (acc : List Nat) h, acc.length + (flatL (bkL b (f.blocks.drop b) ++ fuL (i + 1) (q.funcs.drop (i + 1)))).length ≤ 20000000000 → Ext hb h → Res ((f12.J I (AM.lim ⟨P, I, genF P Sh.prims⟩) (n)).1.2.2.2 (.ptr l o) (.str acc) (.int .i64 i) (.int .i64 b) h) fun u g =>
          u = .str (acc ++ flatL (bkL b (f.blocks.drop b) ++ fuL (i + 1) (q.funcs.drop (i + 1)))) ∧ Ext hb g)
        (Evt.step 5 hfo fun n hn acc h hl e => by
          have hlo := e.lo
          have hl' : acc.length + (flatL (fuL (i + 1) (q.funcs.drop (i + 1)))).length ≤ 20000000000 := by simpa [bkL] using hl
          have := fun m hm => hn m hm acc h hl' e
          rw [f12.n4]; unfold f12.b4
          (repeat' (first | refine Rf (fun hF hG => ?_) (fun hF hG => ?_) | assumption | (show Ext _ _; exact Ext.go) | (simp only [AHeap.next_alloc, AHeap.next_set, AHeap.next_kill, AHeap.next_res] at hle hsame) | simp (disch := first | exact D.go | fail) [setR, List.getElem?_cons_zero, List.getElem?_cons_succ, f12.n3, f12.b3, hc.rd0, hc.rd1, hc.rd2, hc.rd3, hc.rd4, hc.rd5, sr.len, ss.len, sf.len, si.len, su.len, sr.self, ss.self, sf.self, si.self, su.self, hif, hwf.rd2, swb.len, hw, bkL, *])))
        (fun b x hx hbo => by
          obtain ⟨l1, o1, hib, ⟨_, ⟨vc, rfl, sc, q1, q2, q3, q4⟩, ha⟩⟩ := swb.at hx
          have hltb := lt_of_get hx; have hwb := wrap_in (n := (b : Int) + 1) ⟨by omega, by omega⟩
          have hrb : InR (b : Int) := ⟨by omega, by omega⟩
          simp only [Int.natCast_add, Int.natCast_one] at hbo
          have lc := hcode f (List.mem_of_getElem? hf) x (List.mem_of_getElem? hx)
          have hld := fun g e => ha.rds (n := 5) g e rfl (by omega)
          have oc := sc.one
          have inn := Evt.loop x.code (F := fun j n => ∀ (acc : List Nat) k h, acc.length + (flatL (codeL (x.code.drop j) ++ (([32, 32, 32, 32] ++ endT x) :: (bkL (b + 1) (f.blocks.drop (b + 1)) ++ fuL (i + 1) (q.funcs.drop (i + 1)))))).length ≤ 20000000000 →
              h.get k = some ⟨[vc, .int .i64 x.fin, .int .i64 x.reg, .int .i64 x.to, .int .i64 x.els], true⟩ → k < h.next → Ext hb h →
              Res ((f12.J I (AM.lim ⟨P, I, genF P Sh.prims⟩) (n)).2.2.1 (.ptr l o) (.str acc) (.int .i64 i) (.int .i64 b) (.ptr (.own k) 0) (.int .i64 j) h) fun u g => u = .str (acc ++ flatL (codeL (x.code.drop j) ++ (([32, 32, 32, 32] ++ endT x) :: (bkL (b + 1) (f.blocks.drop (b + 1)) ++ fuL (i + 1) (q.funcs.drop (i + 1)))))) ∧ Ext hb g) 8
            (by
              refine Evt.step 8 hbo fun n hn acc k h hl hk hkl e => ?_
              have hlo := e.lo
              simp only [List.drop_length, codeL, List.nil_append, flatL, List.length_append, List.length_cons, List.length_nil] at hl ⊢
              have el := (inferInstance : StrB (endT x) 80).le
              have hn' := fun m hm g e => hn m hm (acc ++ (32 :: 32 :: 32 :: 32 :: (endT x ++ [10]))) g (by simp only [flatL_app, List.length_append, List.length_cons, List.length_nil] at hl ⊢; omega) e
              simp only [List.append_assoc, List.cons_append, List.nil_append] at hn' ⊢
              haveI : StrB acc 20000000000 := ⟨by omega⟩
              rw [f12.n8]; unfold f12.b8
              by_cases h1 : x.fin = 1
              · simp only [endT, h1, if_true, List.append_assoc, List.cons_append, List.nil_append] at hn' ⊢
                (repeat' (first | refine Rf (fun hF hG => ?_) (fun hF hG => ?_) | assumption | (show Ext _ _; exact Ext.go) | (simp only [AHeap.next_alloc, AHeap.next_set, AHeap.next_kill, AHeap.next_res] at hle hsame) | simp (disch := first | exact D.go | fail) [setR, List.getElem?_cons_zero, List.getElem?_cons_succ, f12.n7, f12.b7, f12.n6, f12.b6, hk, sc.len, h1, hwb, List.append_assoc, *] | (refine Ret.thn (h0 := hb) (rDec q3 _) ?_ (fun g hg hlo hle hsame hx => ?_))))
              · by_cases h2 : x.fin = 2
                · have n12 : ¬ (2 : Int) = 1 := by omega
                  simp only [endT, h2, n12, if_true, if_false, List.append_assoc, List.cons_append, List.nil_append] at hn' ⊢
                  (repeat' (first | refine Rf (fun hF hG => ?_) (fun hF hG => ?_) | assumption | (show Ext _ _; exact Ext.go) | (simp only [AHeap.next_alloc, AHeap.next_set, AHeap.next_kill, AHeap.next_res] at hle hsame) | simp (disch := first | exact D.go | fail) [setR, List.getElem?_cons_zero, List.getElem?_cons_succ, f12.n7, f12.b7, f12.n6, f12.b6, hk, sc.len, h1, h2, hwb, List.append_assoc, *] | (refine Ret.thn (h0 := hb) (rDec q3 _) ?_ (fun g hg hlo hle hsame hx => ?_)) | (refine Ret.thn (h0 := hb) (rDec q4 _) ?_ (fun g hg hlo hle hsame hx => ?_)) | (refine Ret.thn (h0 := hb) (rR q2 _) ?_ (fun g hg hlo hle hsame hx => ?_))))
                · by_cases h3 : x.fin = 3
                  · have n13 : ¬ (3 : Int) = 1 := by omega
                    have n23 : ¬ (3 : Int) = 2 := by omega
                    simp only [endT, h3, n13, n23, if_true, if_false, List.append_assoc, List.cons_append, List.nil_append] at hn' ⊢
                    (repeat' (first | refine Rf (fun hF hG => ?_) (fun hF hG => ?_) | assumption | (show Ext _ _; exact Ext.go) | (simp only [AHeap.next_alloc, AHeap.next_set, AHeap.next_kill, AHeap.next_res] at hle hsame) | simp (disch := first | exact D.go | fail) [setR, List.getElem?_cons_zero, List.getElem?_cons_succ, f12.n7, f12.b7, f12.n6, f12.b6, hk, sc.len, h1, h2, h3, hwb, List.append_assoc, *] | (refine Ret.thn (h0 := hb) (rR q2 _) ?_ (fun g hg hlo hle hsame hx => ?_))))
                  · simp only [endT, h1, h2, h3, if_false, List.append_assoc, List.cons_append, List.nil_append] at hn' ⊢
                    (repeat' (first | refine Rf (fun hF hG => ?_) (fun hF hG => ?_) | assumption | (show Ext _ _; exact Ext.go) | (simp only [AHeap.next_alloc, AHeap.next_set, AHeap.next_kill, AHeap.next_res] at hle hsame) | simp (disch := first | exact D.go | fail) [setR, List.getElem?_cons_zero, List.getElem?_cons_succ, f12.n7, f12.b7, f12.n6, f12.b6, hk, sc.len, h1, h2, h3, hwb, List.append_assoc, *])))
            (fun j y n hy ih acc k h hl hk hkl e => by
              have hlj := lt_of_get hy
              have hwj := wrap_in (n := (j : Int) + 1) ⟨by omega, by omega⟩
              have hrj : InR (j : Int) := ⟨by omega, by omega⟩
              have hym := hS f (List.mem_of_getElem? hf) x (List.mem_of_getElem? hx) y (List.mem_of_getElem? hy)
              simp only [Int.natCast_add, Int.natCast_one] at ih
              rw [drop_of_get hy] at hl ⊢
              simp only [codeL, List.cons_append, List.nil_append, flatL, List.length_append, List.length_cons, List.length_nil] at hl ⊢
              obtain ⟨l3, o3, hji, ⟨ci, hic, ha3⟩⟩ := sc.at hy
              have hRl := fun g e => rLine hic hym g e
              have hlen := lineT_len hym
              have hld3 : ∀ g, Ext h0 g → rds I g l3 o3 6 = some ci := by
                obtain ⟨v, rfl, sv, _⟩ := hic
                exact fun g e => ha3.rds (n := 6) g e rfl (by omega)
              haveI : StrB acc 20000000000 := ⟨by omega⟩
              haveI : StrB (lineT y) 25165960 := ⟨hlen⟩
              generalize lineT y = L at *
              have ih' := fun m hm g hk hkl e => ih m hm (acc ++ (32 :: 32 :: 32 :: 32 :: (L ++ [10]))) k g (by simp only [flatL_app, flatL, List.length_append, List.length_cons, List.length_nil] at hl ⊢; omega) hk hkl e
              simp only [List.append_assoc, List.cons_append, List.nil_append] at ih'
              have hlo := e.lo
              rw [f12.n8]; unfold f12.b8
              (repeat' (first | refine Rf (fun hF hG => ?_) (fun hF hG => ?_) | assumption | (show Ext _ _; exact Ext.go) | (simp only [AHeap.next_alloc, AHeap.next_set, AHeap.next_kill, AHeap.next_res] at hle hsame) | simp (disch := first | exact D.go | fail) [setR, List.getElem?_cons_zero, List.getElem?_cons_succ, f12.n9, f12.b9, f12.n10, f12.b10, hk, sc.len, hlj, hji, hld3, hwj, List.append_assoc, *] | (refine Ret.thn (h0 := hb) (hRl _ Ext.go) ?_ (fun g hg hlo hle hsame hx => ?_))))
              exact ih' _ (by omega) _ ((hsame k hkl).trans hk) (by omega) hg)
            0 (by omega)
          refine Evt.step 5 inn fun n hn acc h hl e => ?_
          rw [drop_of_get hx] at hl ⊢
          simp only [bkL, List.cons_append, List.nil_append, flatL, List.length_append, List.length_cons, List.length_nil] at hl ⊢
          have dl := (inferInstance : StrB (decT (b : Int)) 21).le
          have hn' := fun m hm k g hk hkl e => hn m hm (acc ++ (32 :: 32 :: 98 :: 108 :: 111 :: 99 :: 107 :: 32 :: (decT (b : Int) ++ [10]))) k g (by simp only [flatL_app, flatL, List.length_append, List.length_cons, List.length_nil, List.drop_zero] at hl ⊢; omega) hk hkl e
          simp only [List.drop_zero, List.append_assoc, List.cons_append, List.nil_append] at hn' ⊢
          haveI : StrB acc 20000000000 := ⟨by omega⟩
          have hlo := e.lo
          rw [f12.n4]; unfold f12.b4
          (repeat' (first | refine Rf (fun hF hG => ?_) (fun hF hG => ?_) | assumption | (show Ext _ _; exact Ext.go) | (simp only [AHeap.next_alloc, AHeap.next_set, AHeap.next_kill, AHeap.next_res] at hle hsame) | simp (disch := first | exact D.go | fail) [setR, List.getElem?_cons_zero, List.getElem?_cons_succ, f12.n5, f12.b5, hc.rd0, hc.rd1, hc.rd2, hc.rd3, hc.rd4, hc.rd5, sr.len, ss.len, sf.len, si.len, su.len, sr.self, ss.self, sf.self, si.self, su.self, hif, hwf.rd2, swb.len, hltb, hib, hld, oc, List.append_assoc, *] | (refine Ret.thn (h0 := hb) (rDec hrb _) ?_ (fun g hg hlo hle hsame hx => ?_))))
          exact hn' _ (by omega) _ _ ((hsame _ (by omega)).trans (AHeap.set_at (Nb.o rfl))) (by omega) hg)
        0 (by omega)
      refine Evt.step 5 inner fun n hn acc h hl e => ?_
      rw [drop_of_get hf] at hl ⊢
      simp only [fuL, List.cons_append, List.nil_append, flatL, List.length_append, List.length_cons, List.length_nil] at hl ⊢
      have dl := (inferInstance : StrB (decT (i : Int)) 21).le
      have hn' := fun m hm g e => hn m hm (acc ++ (102 :: 117 :: 110 :: 99 :: 32 :: (decT (i : Int) ++ [10]))) g (by simp only [flatL_app, List.length_append, List.length_cons, List.length_nil, List.drop_zero] at hl ⊢; omega) e
      simp only [List.drop_zero, List.append_assoc, List.cons_append, List.nil_append] at hn'
      haveI : StrB acc 20000000000 := ⟨by omega⟩
      have hlo := e.lo
      rw [f12.n1]; unfold f12.b1
      (repeat' (first | refine Rf (fun hF hG => ?_) (fun hF hG => ?_) | assumption | (show Ext _ _; exact Ext.go) | (simp only [AHeap.next_alloc, AHeap.next_set, AHeap.next_kill, AHeap.next_res] at hle hsame) | simp (disch := first | exact D.go | fail) [setR, List.getElem?_cons_zero, List.getElem?_cons_succ, f12.n2, f12.b2, hc.rd0, hc.rd1, hc.rd2, hc.rd3, hc.rd4, hc.rd5, sr.len, ss.len, sf.len, si.len, su.len, sr.self, ss.self, sf.self, si.self, su.self, hlt, List.append_assoc, *] | (refine Ret.thn (h0 := hb) (rDec hri _) ?_ (fun g hg hlo hle hsame hx => ?_))))
      exact hn' _ (by omega) _ hg)
    0 (by omega)
  refine f12.lim rfl (n := N) ?_
  unfold f12.e
  have := hN N (Nat.le_refl _) [] hb (by simpa using hL) (Ext.refl hb)
  (repeat' (first | refine Rf (fun hF hG => ?_) (fun hF hG => ?_) | assumption | (show Ext _ _; exact Ext.go) | (simp only [AHeap.next_alloc, AHeap.next_set, AHeap.next_kill, AHeap.next_res] at hle hsame) | simp (disch := first | exact D.go | fail) [setR, List.getElem?_cons_zero, List.getElem?_cons_succ, setR, *]))
end
end
end Go.Proofs.YtblblpmkdmociaaDoor.Tx

set_option linter.unusedSimpArgs false
set_option linter.unusedVariables false
namespace Go.Proofs.YtblblpmkdmociaaDoor.Tx
noncomputable section
open Go.AM Go.Proofs.YtblblpmkdmociaaDoor.Sf
section
variable {I : Inp} {h0 : AHeap}
/-- A slice's block is not this one. -/
def Nk (v : AVal) (m : Nat) : Prop := ∀ k o n c, v = .sl (.own k) o n c → m ≠ k
theorem StrsO.nk {hb h : AHeap} {v : AVal} {xs : List (List Nat)} (a : StrsO hb h v xs) {m : Nat} (hm : h.next ≤ m) : Nk v m := by
  intro k o n c e
  rcases a with ⟨rfl, _⟩ | ⟨k', rfl, _, _, h2, _⟩
  · cases e
  · cases e; omega
theorem StrsO.len {hb h : AHeap} {v : AVal} {xs : List (List Nat)} (a : StrsO hb h v xs) : pLenSl v = some (.int .i64 xs.length) := by
  rcases a with ⟨rfl, rfl⟩ | ⟨k', rfl, _⟩ <;> rfl
theorem StrsO.at {hb h : AHeap} {v : AVal} {xs : List (List Nat)} (a : StrsO hb h v xs) {i : Nat} {x : List Nat} (hx : xs[i]? = some x) : ∃ l o, pIndexAddr 1 v (.int .i64 (i : Int)) = some (.ptr l o) ∧ Cells I h l o [.str x] := by
  rcases a with ⟨rfl, rfl⟩ | ⟨k, rfl, hk, h1, h2, h3⟩
  · simp at hx
  · refine ⟨.own k, 0 + i * 1, pIndexAddr_sl (List.getElem?_eq_some_iff.1 hx).1, Cells.own hk h2 fun j v hv => ?_⟩
    match j with
    | 0 => simp at hv; subst hv; simp [hx]
    | j + 1 => simp at hv
theorem app_strK {hb h : AHeap} {xs : List (List Nat)} {v : AVal} (hv : StrsO hb h v xs) (eb : Ext hb h) (x : List Nat) (hn : xs.length ≤ 1000000) {kw : Nat} {c : Cap} (hw : h.get kw = some ⟨[.str x], true⟩) {m : Nat} (hm : Nk v m) (hml : m < h.next) :
    Res (sAppend I 1 16 v (.sl (.own kw) 0 1 c) h) fun u g => (StrsO hb g u (xs ++ [x]) ∧ Ext hb g) ∧ (g.get m = h.get m ∧ Nk u m ∧ m < g.next) := by
  rcases hv with ⟨rfl, rfl⟩ | ⟨k, rfl, hk, h1, h2, h3⟩
  · have := sAppend_nils (I := I) (sz := 1) (bytes := 16) (n := 0) (c := c) hw rfl rfl (by simp only [bigRoom]; omega)
    refine ⟨_, _, this, ⟨.inr ⟨h.next, rfl, ?_, eb.lo, by simp, by simp⟩, eb.alloc⟩, ?_, ?_, by simp; omega⟩
    · simp [AHeap.alloc_at (Nb.o rfl)]
    · exact AHeap.alloc_ne (Nb.o (by omega))
    · intro k o n c e; cases e; omega
  · have hmk : m ≠ k := hm k _ _ _ rfl
    have := sAppend_full (I := I) (sz := 1) (bytes := 16) (n := 0) (c := c) (len := xs.length) hw rfl rfl hk (by rw [List.length_map, Nat.mul_one]) (strs_one xs) (by omega) (by simp only [bigRoom]; omega)
    refine ⟨_, _, this, ⟨.inr ⟨h.next, ?_, ?_, eb.lo, by simp, by simp⟩, (eb.kill (Nb.o h1)).alloc⟩, ?_, ?_, by simp; omega⟩
    · simp
    · rw [show h.next = (h.kill k).next from rfl, AHeap.alloc_at (Nb.o rfl)]; simp
    · rw [AHeap.alloc_ne (Nb.o (by show m ≠ h.next; omega))]
      exact AHeap.kill_ne (Nb.o hmk)
    · intro k o n c e; cases e; omega
/-- The lines are joined. -/
theorem joinLines {hb : AHeap} (ls : List (List Nat)) (hL : (flatL ls).length ≤ 20000000000) (hn : ls.length ≤ 1000000) : Evt fun n => ∀ v h, StrsO hb h v ls → Ext hb h → Res ((f11.J I (AM.lim ⟨P, I, genF P Sh.prims⟩) (n)).1.1.1.2 v h) fun u g => u = .str (flatL ls) ∧ Ext hb g := by
  have lp := Evt.loop ls (F := fun i n => ∀ v (s : List Nat) h, StrsO hb h v ls → s.length + (flatL (ls.drop i)).length ≤ 20000000000 → Ext hb h → Res ((f11.J I (AM.lim ⟨P, I, genF P Sh.prims⟩) (n)).2.2.1.2 (.str s) v (.int .i64 ls.length) (.int .i64 i) h) fun u g => u = .str (s ++ flatL (ls.drop i)) ∧ Ext hb g) 8
    (Evt.all 8 fun n v s h hw hs e => by
      rw [f11.n13]; unfold f11.b13
      (repeat' (first | refine Rf (fun hF hG => ?_) (fun hF hG => ?_) | assumption | (show Ext _ _; exact Ext.go) | (simp only [AHeap.next_alloc, AHeap.next_set, AHeap.next_kill, AHeap.next_res] at hle hsame) | simp (disch := first | exact D.go | fail) [setR, List.getElem?_cons_zero, List.getElem?_cons_succ, f11.n12, f11.b12, flatL, *])))
    (fun i x n hx ih v s h hw hs e => by
      have hlt := lt_of_get hx; have hwi := wrap_in (n := (i : Int) + 1) ⟨by omega, by omega⟩
      simp only [Int.natCast_add, Int.natCast_one] at ih
      have hlo := e.lo
      rw [drop_of_get hx] at hs ⊢
      simp only [flatL, List.length_append, List.length_cons] at hs ⊢
      haveI : StrB s 20000000000 := ⟨by omega⟩
      haveI : StrB x 20000000000 := ⟨by omega⟩
      obtain ⟨l1, o1, hi, hc⟩ := hw.at (I := I) hx
      have er := Ext.refl h
      have ih' := fun m hm => ih m hm v (s ++ (x ++ [10])) h hw (by simp only [List.length_append, List.length_cons, List.length_nil]; omega) e
      simp only [List.append_assoc, List.cons_append, List.nil_append] at ih'
      rw [f11.n13]; unfold f11.b13
      (repeat' (first | refine Rf (fun hF hG => ?_) (fun hF hG => ?_) | assumption | (show Ext _ _; exact Ext.go) | (simp only [AHeap.next_alloc, AHeap.next_set, AHeap.next_kill, AHeap.next_res] at hle hsame) | simp (disch := first | exact D.go | fail) [setR, List.getElem?_cons_zero, List.getElem?_cons_succ, f11.n14, f11.b14, f11.n15, f11.b15, hi, hc.rd0, hlt, hwi, List.append_assoc, *])))
    0 (by omega)
  refine Evt.step 8 lp fun n hN v h hw e => ?_
  have hn' := fun m hm => hN m hm v [] h hw (by simpa using hL) e
  have hl := hw.len
  simp only [List.drop_zero, List.nil_append] at hn'
  rw [f11.n1]; unfold f11.b1
  (repeat' (first | refine Rf (fun hF hG => ?_) (fun hF hG => ?_) | assumption | (show Ext _ _; exact Ext.go) | (simp only [AHeap.next_alloc, AHeap.next_set, AHeap.next_kill, AHeap.next_res] at hle hsame) | simp (disch := first | exact D.go | fail) [setR, List.getElem?_cons_zero, List.getElem?_cons_succ, hl, *]))
  exact hn' _ (by omega)
end
end
end Go.Proofs.YtblblpmkdmociaaDoor.Tx

set_option linter.unusedSimpArgs false
set_option linter.unusedVariables false
namespace Go.Proofs.YtblblpmkdmociaaDoor.Tx
noncomputable section
open Go.AM Go.Proofs.YtblblpmkdmociaaDoor.Sf
section
variable {I : Inp} {h0 : AHeap}
theorem tPrint {l : AM.Loc} {o : Nat} {q : Pg} (hq : PgA I h0 l o q) (hcode : ∀ f ∈ q.funcs, ∀ b ∈ f.blocks, b.code.length ≤ 1000000) (hS : ∀ f ∈ q.funcs, ∀ b ∈ f.blocks, ∀ i ∈ b.code, i.args.length ≤ 1048576)
    (hL : (flatL (fuL 0 q.funcs)).length ≤ 20000000000) (hLn : (fuL 0 q.funcs).length ≤ 1000000) (hb : AHeap) (eb : Ext h0 hb) : Ret ((AM.lim ⟨P, I, genF P Sh.prims⟩) 11 [.ptr l o] hb) hb (.str (flatL (fuL 0 q.funcs))) := by
  obtain ⟨_, ⟨vr, vs, vf, vi, vu, rfl, rm, sr, ss, sf, si, su⟩, hc⟩ := hq
  have lu := su.lt
  have jn := joinLines (I := I) (hb := hb) (fuL 0 q.funcs) hL hLn
  generalize hLs : fuL 0 q.funcs = Ls at *
  have lp := Evt.loop' q.funcs (F := fun i n => ∀ acc v h, StrsO hb h v acc → acc ++ fuL i (q.funcs.drop i) = Ls → Ext hb h → Res ((f11.J I (AM.lim ⟨P, I, genF P Sh.prims⟩) (n)).1.1.2.1 v vu (.int .i64 q.funcs.length) (.int .i64 i) h) fun u g => u = .str (flatL Ls) ∧ Ext hb g)
    (Evt.step 5 jn fun n hn acc v h hv ha e => by
      have ha' : acc = Ls := by simpa [fuL] using ha
      subst ha'
      have hn' := fun m hm => hn m hm v h hv e
      have hlo := e.lo
      rw [f11.n2]; unfold f11.b2
      (repeat' (first | refine Rf (fun hF hG => ?_) (fun hF hG => ?_) | assumption | (show Ext _ _; exact Ext.go) | (simp only [AHeap.next_alloc, AHeap.next_set, AHeap.next_kill, AHeap.next_res] at hle hsame) | simp (disch := first | exact D.go | fail) [setR, List.getElem?_cons_zero, List.getElem?_cons_succ, setR, *])))
    (fun i f hf hfo => by
      obtain ⟨lf, of, hif, ⟨_, ⟨wr, wb, rfl, r0, swr, swb⟩, hwf⟩⟩ := su.at hf
      have hlt := lt_of_get hf; have hw := wrap_in (n := (i : Int) + 1) ⟨by omega, by omega⟩
      have hri : InR (i : Int) := ⟨by omega, by omega⟩
      have hI := fun g => tItoa (I := I) hri g
      have lb := swb.lt
      have or1 := swr.one
      have ob1 := swb.one
      have hld := fun g e => hwf.rds (n := 3) g e rfl (by omega)
      simp only [Int.natCast_add, Int.natCast_one] at hfo
      have inner := Evt.loop' f.blocks (F := fun b n => ∀ acc v h, StrsO hb h v acc → acc ++ (bkL b (f.blocks.drop b) ++ fuL (i + 1) (q.funcs.drop (i + 1))) = Ls → Ext hb h → Res ((f11.J I (AM.lim ⟨P, I, genF P Sh.prims⟩) (n)).1.2.1.2 v vu (.int .i64 q.funcs.length) (.int .i64 i) wb (.int .i64 f.blocks.length) (.int .i64 b) h) fun u g =>
          u = .str (flatL Ls) ∧ Ext hb g)
        (Evt.step 5 hfo fun n hn acc v h hv ha e => by
          have hlo := e.lo
          have := fun m hm => hn m hm acc v h hv (by simpa [bkL] using ha) e
          rw [f11.n5]; unfold f11.b5
          (repeat' (first | refine Rf (fun hF hG => ?_) (fun hF hG => ?_) | assumption | (show Ext _ _; exact Ext.go) | (simp only [AHeap.next_alloc, AHeap.next_set, AHeap.next_kill, AHeap.next_res] at hle hsame) | simp (disch := first | exact D.go | fail) [setR, List.getElem?_cons_zero, List.getElem?_cons_succ, f11.n4, f11.b4, hw, *])))
        (fun b x hx hbo => by
          obtain ⟨l1, o1, hib, ⟨_, ⟨vc, rfl, sc, q1, q2, q3, q4⟩, ha⟩⟩ := swb.at hx
          have hltb := lt_of_get hx; have hwb := wrap_in (n := (b : Int) + 1) ⟨by omega, by omega⟩
          have hrb : InR (b : Int) := ⟨by omega, by omega⟩
          have hIb := fun g => tItoa (I := I) hrb g
          simp only [Int.natCast_add, Int.natCast_one] at hbo
          have lc := hcode f (List.mem_of_getElem? hf) x (List.mem_of_getElem? hx)
          have hld5 := fun g e => ha.rds (n := 5) g e rfl (by omega)
          have oc := sc.one
          have hBk : BkC I h0 [vc, .int .i64 x.fin, .int .i64 x.reg, .int .i64 x.to, .int .i64 x.els] x := ⟨vc, rfl, sc, q1, q2, q3, q4⟩
          have hE := fun g => tEndT hBk g
          have inn := Evt.loop x.code (F := fun j n => ∀ acc v k h, StrsO hb h v acc → acc ++ (codeL (x.code.drop j) ++ (([32, 32, 32, 32] ++ endT x) :: (bkL (b + 1) (f.blocks.drop (b + 1)) ++ fuL (i + 1) (q.funcs.drop (i + 1))))) = Ls →
              h.get k = some ⟨[vc, .int .i64 x.fin, .int .i64 x.reg, .int .i64 x.to, .int .i64 x.els], true⟩ → k < h.next → Nk v k → Ext hb h →
              Res ((f11.J I (AM.lim ⟨P, I, genF P Sh.prims⟩) (n)).2.1.1.2 v (.ptr (.own k) 0) vu (.int .i64 q.funcs.length) (.int .i64 i) wb (.int .i64 f.blocks.length) (.int .i64 b) vc (.int .i64 x.code.length) (.int .i64 j) h) fun u g => u = .str (flatL Ls) ∧ Ext hb g) 8
            (by
              refine Evt.step 8 hbo fun n hn acc v k h hv ha' hk hkl nk e => ?_
              have hlo := e.lo
              have hal : acc.length ≤ 1000000 := by rw [← ha'] at hLn; simp only [List.length_append] at hLn; omega
              rw [f11.n9]; unfold f11.b9
              (repeat' (first | refine Rf (fun hF hG => ?_) (fun hF hG => ?_) | assumption | (show Ext _ _; exact Ext.go) | (simp only [AHeap.next_alloc, AHeap.next_set, AHeap.next_kill, AHeap.next_res] at hle hsame) | simp (disch := first | exact D.go | fail) [setR, List.getElem?_cons_zero, List.getElem?_cons_succ, f11.n8, f11.b8, hk, oc, List.append_assoc, *] | (refine Ret.thn (h0 := hb) (hE _) ?_ (fun g hg hlo hle hsame hx => ?_))))
              have e1 : Ext h g := hx
              refine Res.after (app_str ((hv.mono e1).mono (Ext.refl g).alloc) (hg.alloc) _ (by omega) (AHeap.alloc_at (Nb.o rfl))) (fun u g2 hA => ?_)
              have hn' := fun m hm => hn m hm (acc ++ [32 :: 32 :: 32 :: 32 :: endT x]) u g2 hA.1 (by rw [← ha', List.drop_length]; simp [codeL]) hA.2
              rw [f11.n7]; unfold f11.b7
              (repeat' (first | refine Rf (fun hF hG => ?_) (fun hF hG => ?_) | assumption | (show Ext _ _; exact Ext.go) | (simp only [AHeap.next_alloc, AHeap.next_set, AHeap.next_kill, AHeap.next_res] at hle hsame) | simp (disch := first | exact D.go | fail) [setR, List.getElem?_cons_zero, List.getElem?_cons_succ, hwb, *])))
            (fun j y n hy ih acc v k h hv ha' hk hkl nk e => by
              have hlj := lt_of_get hy
              have hwj := wrap_in (n := (j : Int) + 1) ⟨by omega, by omega⟩
              have hym := hS f (List.mem_of_getElem? hf) x (List.mem_of_getElem? hx) y (List.mem_of_getElem? hy)
              simp only [Int.natCast_add, Int.natCast_one] at ih
              rw [drop_of_get hy] at ha'
              have hal : acc.length ≤ 1000000 := by rw [← ha'] at hLn; simp only [List.length_append] at hLn; omega
              obtain ⟨l3, o3, hji, ⟨ci, hic, ha3⟩⟩ := sc.at hy
              have hTl := fun g e => tLine hic hym g e
              have hlen := lineT_len hym
              haveI : StrB (lineT y) 25165960 := ⟨hlen⟩
              have hcl : codeL (y :: x.code.drop (j + 1)) = (32 :: 32 :: 32 :: 32 :: lineT y) :: codeL (x.code.drop (j + 1)) := rfl
              rw [hcl] at ha'
              generalize lineT y = L at *
              obtain ⟨va, rfl, sva, _⟩ := hic
              have hld6 := fun g e => ha3.rds (n := 6) g e rfl (by omega)
              have oa := sva.one
              have hlo := e.lo
              rw [f11.n9]; unfold f11.b9
              (repeat' (first | refine Rf (fun hF hG => ?_) (fun hF hG => ?_) | assumption | (show Ext _ _; exact Ext.go) | (simp only [AHeap.next_alloc, AHeap.next_set, AHeap.next_kill, AHeap.next_res] at hle hsame) | simp (disch := first | exact D.go | fail) [setR, List.getElem?_cons_zero, List.getElem?_cons_succ, f11.n10, f11.b10, hk, hlj, hji, hld6, oa, List.append_assoc, *] | (refine Ret.thn (h0 := hb) (hTl _ Ext.go) ?_ (fun g hg hlo hle hsame hx => ?_))))
              have e1 : Ext h g := Ext.go
              have e2 : Ext h (g.alloc ⟨[.str (32 :: 32 :: 32 :: 32 :: L)], true⟩) := e1.alloc
              refine Res.after (app_strK (m := k) (hv.mono e2) (e.trans e2) _ hal (AHeap.alloc_at (Nb.o rfl)) nk (by have := e2.lo; omega)) (fun u g2 hA => ?_)
              have ih' := fun m hm => ih m hm (acc ++ [32 :: 32 :: 32 :: 32 :: L]) u k g2 hA.1.1 (by rw [← ha']; simp) (hA.2.1.trans ((e2.same k hkl).trans hk)) hA.2.2.2 hA.2.2.1 hA.1.2
              rw [f11.n11]; unfold f11.b11
              (repeat' (first | refine Rf (fun hF hG => ?_) (fun hF hG => ?_) | assumption | (show Ext _ _; exact Ext.go) | (simp only [AHeap.next_alloc, AHeap.next_set, AHeap.next_kill, AHeap.next_res] at hle hsame) | simp (disch := first | exact D.go | fail) [setR, List.getElem?_cons_zero, List.getElem?_cons_succ, hwj, *])))
            0 (by omega)
          refine Evt.step 5 inn fun n hn acc v h hv ha' e => ?_
          rw [drop_of_get hx] at ha'
          have hal : acc.length ≤ 1000000 := by rw [← ha'] at hLn; simp only [List.length_append] at hLn; omega
          have hlo := e.lo
          rw [f11.n5]; unfold f11.b5
          (repeat' (first | refine Rf (fun hF hG => ?_) (fun hF hG => ?_) | assumption | (show Ext _ _; exact Ext.go) | (simp only [AHeap.next_alloc, AHeap.next_set, AHeap.next_kill, AHeap.next_res] at hle hsame) | simp (disch := first | exact D.go | fail) [setR, List.getElem?_cons_zero, List.getElem?_cons_succ, f11.n6, f11.b6, hltb, hib, hld5, oc, hIb, List.append_assoc, *]))
          have e2 : Ext h (((h.alloc ⟨[.nils, Z 0, Z 0, Z 0, Z 0], true⟩).set h.next ⟨[vc, .int .i64 x.fin, .int .i64 x.reg, .int .i64 x.to, .int .i64 x.els], true⟩).alloc ⟨[.str (32 :: 32 :: 98 :: 108 :: 111 :: 99 :: 107 :: 32 :: decT (b : Int))], true⟩) := ((Ext.refl h).alloc.set (Nb.o (Nat.le_refl _))).alloc
          refine Res.after (app_strK (m := h.next) (hv.mono e2) (e.trans e2) _ hal (AHeap.alloc_at (by exact Nb.o (by simp))) (hv.nk (Nat.le_refl _)) (by simp; omega)) (fun u g2 hA => ?_)
          have hk2 : g2.get h.next = some ⟨[vc, .int .i64 x.fin, .int .i64 x.reg, .int .i64 x.to, .int .i64 x.els], true⟩ := hA.2.1.trans (by rw [AHeap.alloc_ne (Nb.o (by simp)), AHeap.set_at (Nb.o rfl)])
          have hn' := fun m hm => hn m hm (acc ++ [32 :: 32 :: 98 :: 108 :: 111 :: 99 :: 107 :: 32 :: decT (b : Int)]) u h.next g2 hA.1.1 (by rw [← ha']; simp [bkL]) hk2 hA.2.2.2 hA.2.2.1 hA.1.2
          have hcl := sc.len
          (repeat' (first | refine Rf (fun hF hG => ?_) (fun hF hG => ?_) | assumption | (show Ext _ _; exact Ext.go) | (simp only [AHeap.next_alloc, AHeap.next_set, AHeap.next_kill, AHeap.next_res] at hle hsame) | simp (disch := first | exact D.go | fail) [setR, List.getElem?_cons_zero, List.getElem?_cons_succ, hk2, hcl, *]))
          exact hn' _ (by omega))
        0 (by omega)
      refine Evt.step 5 inner fun n hn acc v h hv ha' e => ?_
      rw [drop_of_get hf] at ha'
      have hal : acc.length ≤ 1000000 := by rw [← ha'] at hLn; simp only [List.length_append] at hLn; omega
      have hlo := e.lo
      rw [f11.n2]; unfold f11.b2
      (repeat' (first | refine Rf (fun hF hG => ?_) (fun hF hG => ?_) | assumption | (show Ext _ _; exact Ext.go) | (simp only [AHeap.next_alloc, AHeap.next_set, AHeap.next_kill, AHeap.next_res] at hle hsame) | simp (disch := first | exact D.go | fail) [setR, List.getElem?_cons_zero, List.getElem?_cons_succ, f11.n3, f11.b3, hlt, hif, hld, or1, ob1, hI, List.append_assoc, *]))
      have e2 : Ext h (((h.alloc ⟨[Z 0, .nils, .nils], true⟩).set h.next ⟨[.int .i64 f.sig, wr, wb], true⟩).alloc ⟨[.str (102 :: 117 :: 110 :: 99 :: 32 :: decT (i : Int))], true⟩) := ((Ext.refl h).alloc.set (Nb.o (Nat.le_refl _))).alloc
      refine Res.after (app_strK (m := h.next) (hv.mono e2) (e.trans e2) _ hal (AHeap.alloc_at (by exact Nb.o (by simp))) (hv.nk (Nat.le_refl _)) (by simp; omega)) (fun u g2 hA => ?_)
      have hk2 : g2.get h.next = some ⟨[.int .i64 f.sig, wr, wb], true⟩ := hA.2.1.trans (by rw [AHeap.alloc_ne (Nb.o (by simp)), AHeap.set_at (Nb.o rfl)])
      have hn' := fun m hm => hn m hm (acc ++ [102 :: 117 :: 110 :: 99 :: 32 :: decT (i : Int)]) u g2 hA.1.1 (by rw [← ha']; simp [fuL]) hA.1.2
      have hcl := swb.len
      (repeat' (first | refine Rf (fun hF hG => ?_) (fun hF hG => ?_) | assumption | (show Ext _ _; exact Ext.go) | (simp only [AHeap.next_alloc, AHeap.next_set, AHeap.next_kill, AHeap.next_res] at hle hsame) | simp (disch := first | exact D.go | fail) [setR, List.getElem?_cons_zero, List.getElem?_cons_succ, hk2, hcl, *]))
      exact hn' _ (by omega))
    0 (by omega)
  obtain ⟨N, hN⟩ := lp
  have := hN N (Nat.le_refl _) [] .nils hb (.inl ⟨rfl, rfl⟩) (by simpa using hLs) (Ext.refl hb)
  refine f11.lim rfl (n := N + 1) ?_
  unfold f11.e
  (repeat' (first | refine Rf (fun hF hG => ?_) (fun hF hG => ?_) | assumption | (show Ext _ _; exact Ext.go) | (simp only [AHeap.next_alloc, AHeap.next_set, AHeap.next_kill, AHeap.next_res] at hle hsame) | simp (disch := first | exact D.go | fail) [setR, List.getElem?_cons_zero, List.getElem?_cons_succ, f11.n0, f11.b0, hc.rd0, hc.rd1, hc.rd2, hc.rd3, hc.rd4, hc.rd5, sr.len, ss.len, sf.len, si.len, su.len, sr.self, ss.self, sf.self, si.self, su.self, *]))
end
end
end Go.Proofs.YtblblpmkdmociaaDoor.Tx

set_option linter.unusedSimpArgs false
set_option linter.unusedVariables false
namespace Go.Proofs.YtblblpmkdmociaaDoor.Tx
noncomputable section
open Go.AM Go.Proofs.YtblblpmkdmociaaDoor.Sf
/-! what came in, and how much it holds -/
structure BulkOk {H : Type} (B : DataW H → Nat) : Prop where
  ptr : ∀ d, B d ≤ B (.ptr d)
  agg : ∀ ps d, d ∈ ps → B d ≤ B (.agg ps)
  len : ∀ es sp, es.length ≤ B (.slice es sp)
  elem : ∀ es sp d, d ∈ es → B d ≤ B (.slice es sp)
section
variable {α : Type} {H : Type} {enc : TypeId × Value → H} {P : Program} {W : World} {B : DataW H → Nat} {M : Nat}
def OpensM [Sig] (B : DataW H → Nat) (M : Nat) (enc : TypeId × Value → H) (P : Program) (W : World) (h0 : AHeap) (e : TypeId) (C : List AVal → α → Prop) : Prop :=
  ∀ n cs y, DataW.trod enc P W 0 (fun _ => true) true n e cs = some y → cs.length = P.cellsOf e → B y.1 ≤ M → ∃ al x, cs.map canon = al.map some ∧ C al x
theorem OpensM.of [Sig] {h0 : AHeap} {e : TypeId} {C : List AVal → α → Prop} (hC : Opens enc P W h0 e C) : OpensM B M enc P W h0 e C := fun n cs y h hc _ => hC n cs y h hc
theorem OpensM.at [Sig] {h0 : AHeap} {e : TypeId} {C : List AVal → α → Prop} (hC : OpensM B M enc P W h0 e C) {n b o : Nat} {cs : List Value} {y : DataW H × List MemPlace} (h : DataW.trod enc P W 0 (fun _ => true) true n e cs = some y) (hb : B y.1 ≤ M)
    (hl : Lies W b o cs) (hc : cs.length = P.cellsOf e) : ∃ x, At (inpOf W) h0 C (.inp (2 * b)) o x := by
  obtain ⟨al, x, ha, hx⟩ := hC n cs y h hc hb
  exact ⟨x, al, hx, hl.cells ha⟩
theorem mapM_mem {β γ : Type} {g : β → Option γ} : ∀ {l : List β} {r : List γ}, l.mapM g = some r → ∀ a ∈ l, ∃ y ∈ r, g a = some y
  | [], r, h, a, ha => by cases ha
  | b :: l, r, h, a, ha => by
    rw [List.mapM_cons] at h
    cases hb : g b with
    | none => simp [hb] at h
    | some y =>
      cases hl : l.mapM g with
      | none => simp [hb, hl] at h
      | some ys =>
        simp [hb, hl] at h
        subst h
        cases ha with
        | head => exact ⟨y, by simp, hb⟩
        | tail _ hm =>
          obtain ⟨z, hz, e⟩ := mapM_mem hl a hm
          exact ⟨z, by simp [hz], e⟩
theorem trod_fieldsM (hB : BulkOk B) {n : Nat} {t : TypeId} {l : List (TypeId × Nat)} {cs : List Value} {x : DataW H × List MemPlace} (ht : structOf P t = some l) (h : DataW.trod enc P W 0 (fun _ => true) true n t cs = some x) (hb : B x.1 ≤ M) :
    cs.length = P.cellsOf t ∧ ∃ m, ∀ p ∈ l, ∃ y, DataW.trod enc P W 0 (fun _ => true) true m p.1 ((cs.drop p.2).take (P.cellsOf p.1)) = some y ∧ B y.1 ≤ M := by
  unfold structOf at ht
  split at ht
  · rename_i fs hu
    cases ht
    cases n with
    | zero => cases h
    | succ n =>
      rw [DataW.trod_step] at h
      unfold DataW.trodStep at h
      rw [hu] at h
      split at h <;> try (rename_i e; cases e; done)
      case h_9 fs' he =>
        cases he
        split at h
        · rename_i hl
          refine ⟨hl, n, fun p hp => ?_⟩
          obtain ⟨f, hf, rfl⟩ := List.mem_map.1 hp
          rw [Option.map_eq_some_iff] at h
          obtain ⟨r, hr, rfl⟩ := h
          obtain ⟨y, hy, e⟩ := mapM_mem hr f hf
          exact ⟨y, e, Nat.le_trans (hB.agg _ _ (List.mem_map.2 ⟨y, hy, rfl⟩)) hb⟩
        · cases h
      case h_21 => exact absurd rfl (‹∀ fs' : Array Field, some (TypeDesc.struct fs) = some (TypeDesc.struct fs') → False› fs)
  · cases ht
theorem fieldM [Sig] {h0 : AHeap} {C : List AVal → α → Prop} {m : Nat} {cs : List Value} {e k sz : Nat} (hR : OpensM B M enc P W h0 e C) (hc : P.cellsOf e = sz) (hk : k + sz ≤ cs.length)
    (h : ∃ y, DataW.trod enc P W 0 (fun _ => true) true m e ((cs.drop k).take (P.cellsOf e)) = some y ∧ B y.1 ≤ M) : ∃ al x, ((cs.drop k).take sz).map canon = al.map some ∧ C al x := by
  obtain ⟨y, hy, hb⟩ := h
  rw [hc] at hy
  exact hR m _ y hy (by simp; omega) hb
theorem opensM_sl [Sig] {h0 : AHeap} {t e : TypeId} {C : List AVal → α → Prop} {S : α → Prop} {sz : Nat} (hB : BulkOk B) (ht : P.underlying t = some (.slice e)) (hsz : P.cellsOf e = sz) (hc : 0 < sz) (hR : OpensM B M enc P W h0 e fun cs x => C cs x ∧ S x) :
    OpensM B M enc P W h0 t fun cs xs => SlC sz (At (inpOf W) h0 C) cs xs ∧ (xs.length ≤ M ∧ ∀ x ∈ xs, S x) := by
  intro n cs y h _ hbk
  rcases Go.Deep.open_slice ht h with ⟨rfl, _⟩ | ⟨a, len, cap, m, n', D, Pl, rfl, _, hl, hmx, hm, rfl, hx⟩
  · exact ⟨_, [], rfl, ⟨_, rfl, SlOf.nil⟩, by simp, by simp⟩
  · rcases Nat.eq_zero_or_pos cap with hz | hz
    · subst hz
      obtain rfl : len = 0 := by omega
      refine ⟨[.sl (.inp 0) 0 0 (.known 0)], [], rfl, ⟨_, rfl, .inr ⟨.inp 0, 0, .known 0, rfl, fun m hm => ?_, ⟨by simp, fun _ => ⟨0, rfl⟩⟩, fun i x h => by simp at h⟩⟩, by simp, by simp⟩
      simp at hm; subst hm; rfl
    · have hmc : m = cap := by simpa using hm
      have cell : ∀ i, i < m → ∃ cs', DataW.trod enc P W 0 (fun _ => true) true n' e cs' = some (D i, Pl i) ∧ cs'.length = P.cellsOf e ∧ ∀ j, j < cs'.length → W.cell? ((a.add (i * P.cellsOf e)).add j) = cs'[j]? := by
        intro i hi
        obtain ⟨cs', h1, h2⟩ := hx i hi
        obtain ⟨_, hlen, hget⟩ := World.cells?_some h1
        exact ⟨cs', h2, hlen, fun j hj => by rw [hget j (by omega)]⟩
      have hsp : a.spot = none := by
        obtain ⟨cs', _, hlen, hg⟩ := cell 0 (by omega)
        have := hg 0 (by omega)
        rw [Nat.zero_mul, show (a.add 0).add 0 = a from rfl, List.getElem?_eq_getElem (by omega)] at this
        unfold World.cell? at this
        split at this
        · cases hs : a.spot with
          | none => rfl
          | some s => rw [hs] at this; cases this
        · cases this
      obtain ⟨b, o, sp⟩ := a
      simp only at hsp
      subst hsp
      obtain ⟨xs, hlx, hxs⟩ := choose_list (R := fun i x => At (inpOf W) h0 (fun cs x => C cs x ∧ S x) (.inp (2 * b)) (o + i * P.cellsOf e) x) len fun i hi => by
        obtain ⟨cs', h2, hlen, hg⟩ := cell i (by omega)
        refine hR.at h2 ?_ (fun j hj => ?_) hlen
        · refine Nat.le_trans (hB.elem _ _ _ ?_) hbk
          exact List.mem_map.2 ⟨i, List.mem_range.2 hi, rfl⟩
        · rw [← hg j hj, addr_add, addr_add]
      refine ⟨[.sl (.inp (2 * b)) o len (.known cap)], xs, by simp [canon_sl hl hz], ⟨_, rfl, .inr ⟨_, _, _, by rw [hlx], fun m hm => ?_, ?_, fun i x hi => ?_⟩⟩, ?_, fun x hx => ?_⟩
      · rw [hlx] at hm
        exact Nat.ble_eq_true_of_le (by omega)
      · exact ⟨by rw [hlx]; simp only [maxLen] at hmx; omega, fun _ => ⟨_, rfl⟩⟩
      · rw [← hsz]; exact At.mono (fun _ _ h => h.1) (hxs i x hi) (Ext.refl _)
      · have h1 := Nat.le_trans (hB.len _ _) hbk
        rw [List.length_map, List.length_range] at h1
        omega
      · obtain ⟨i, hi⟩ := List.getElem?_of_mem hx
        obtain ⟨_, h1, _⟩ := hxs i x hi
        exact h1.2
variable [Sig] {T : TyIds} {h0 : AHeap}
def insS (M : Nat) (i : Ins) : Prop := i.args.length ≤ M
def bkS (M : Nat) (b : Bk) : Prop := b.code.length ≤ M ∧ ∀ i ∈ b.code, insS M i
def fuS (M : Nat) (f : Fu) : Prop := f.blocks.length ≤ M ∧ ∀ b ∈ f.blocks, bkS M b
def pgS (M : Nat) (q : Pg) : Prop := q.funcs.length ≤ M ∧ ∀ f ∈ q.funcs, fuS M f
theorem opensM_is (hB : BulkOk B) (K : T.Ok P) : OpensM (α := List Int) B M enc P W h0 T.ints fun cs xs => SlC 1 (IntA (inpOf W) h0) cs xs ∧ (xs.length ≤ M ∧ ∀ x ∈ xs, True) := opensM_sl (S := fun _ => True) hB K.ints K.intC (by omega) (fun n cs y h hc _ => by
  obtain ⟨al, x, a, b⟩ := opens_i (h0 := h0) K n cs y h hc
  exact ⟨al, x, a, b, trivial⟩)
theorem opensM_ins (hB : BulkOk B) (K : T.Ok P) : OpensM (α := Ins) B M enc P W h0 T.ins fun cs x => InsC (inpOf W) h0 cs x ∧ insS M x := by
  intro n cs y h hc hbk
  rw [K.insC] at hc
  obtain ⟨_, m, hm⟩ := trod_fieldsM hB K.ins h hbk
  obtain ⟨a0, x0, e0, q0⟩ := fieldM (OpensM.of (opens_i (h0 := h0) K)) K.intC (k := 0) (by omega) (hm (T.int, 0) (by simp))
  obtain ⟨a1, x1, e1, q1⟩ := fieldM (OpensM.of (opens_i (h0 := h0) K)) K.intC (k := 1) (by omega) (hm (T.int, 1) (by simp))
  obtain ⟨a2, x2, e2, q2⟩ := fieldM (OpensM.of (opens_i (h0 := h0) K)) K.intC (k := 2) (by omega) (hm (T.int, 2) (by simp))
  obtain ⟨a3, x3, e3, q3⟩ := fieldM (OpensM.of (opens_i (h0 := h0) K)) K.intC (k := 3) (by omega) (hm (T.int, 3) (by simp))
  obtain ⟨a4, x4, e4, q4⟩ := fieldM (OpensM.of (opens_i (h0 := h0) K)) K.intC (k := 4) (by omega) (hm (T.int, 4) (by simp))
  obtain ⟨a5, x5, e5, q5⟩ := fieldM (opensM_is (M := M) (h0 := h0) hB K) K.intsC (k := 5) (by omega) (hm (T.ints, 5) (by simp))
  have ecs : cs = (cs.drop 0).take 1 ++ (cs.drop 1).take 1 ++ (cs.drop 2).take 1 ++ (cs.drop 3).take 1 ++ (cs.drop 4).take 1 ++ (cs.drop 5).take 1 := by
    match cs, hc with
    | [c0, c1, c2, c3, c4, c5], _ => rfl
  have em : cs.map canon = (a0 ++ a1 ++ a2 ++ a3 ++ a4 ++ a5).map some := by
    rw [ecs]
    simp only [List.map_append, e0, e1, e2, e3, e4, e5]
  obtain ⟨rfl, r0⟩ := q0
  obtain ⟨rfl, r1⟩ := q1
  obtain ⟨rfl, r2⟩ := q2
  obtain ⟨rfl, r3⟩ := q3
  obtain ⟨rfl, r4⟩ := q4
  obtain ⟨⟨v5, rfl, s5⟩, l5⟩ := q5
  exact ⟨_, ⟨x0, x1, x2, x3, x4, x5⟩, em, ⟨v5, rfl, s5, r0, r1, r2, r3, r4⟩, l5.1⟩
theorem opensM_inss (hB : BulkOk B) (K : T.Ok P) : OpensM (α := List Ins) B M enc P W h0 T.inss fun cs xs => SlC 6 (At (inpOf W) h0 (InsC (inpOf W) h0)) cs xs ∧ (xs.length ≤ M ∧ ∀ x ∈ xs, insS M x) := opensM_sl hB K.inss K.insC (by omega) (opensM_ins hB K)
theorem opensM_bk (hB : BulkOk B) (K : T.Ok P) : OpensM (α := Bk) B M enc P W h0 T.bk fun cs x => BkC (inpOf W) h0 cs x ∧ bkS M x := by
  intro n cs y h hc hbk
  rw [K.bkC] at hc
  obtain ⟨_, m, hm⟩ := trod_fieldsM hB K.bk h hbk
  obtain ⟨a0, x0, e0, q0⟩ := fieldM (opensM_inss (M := M) (h0 := h0) hB K) K.inssC (k := 0) (by omega) (hm (T.inss, 0) (by simp))
  obtain ⟨a1, x1, e1, q1⟩ := fieldM (OpensM.of (opens_i (h0 := h0) K)) K.intC (k := 1) (by omega) (hm (T.int, 1) (by simp))
  obtain ⟨a2, x2, e2, q2⟩ := fieldM (OpensM.of (opens_i (h0 := h0) K)) K.intC (k := 2) (by omega) (hm (T.int, 2) (by simp))
  obtain ⟨a3, x3, e3, q3⟩ := fieldM (OpensM.of (opens_i (h0 := h0) K)) K.intC (k := 3) (by omega) (hm (T.int, 3) (by simp))
  obtain ⟨a4, x4, e4, q4⟩ := fieldM (OpensM.of (opens_i (h0 := h0) K)) K.intC (k := 4) (by omega) (hm (T.int, 4) (by simp))
  have ecs : cs = (cs.drop 0).take 1 ++ (cs.drop 1).take 1 ++ (cs.drop 2).take 1 ++ (cs.drop 3).take 1 ++ (cs.drop 4).take 1 := by
    match cs, hc with
    | [c0, c1, c2, c3, c4], _ => rfl
  have em : cs.map canon = (a0 ++ a1 ++ a2 ++ a3 ++ a4).map some := by
    rw [ecs]
    simp only [List.map_append, e0, e1, e2, e3, e4]
  obtain ⟨⟨v0, rfl, s0⟩, l0⟩ := q0
  obtain ⟨rfl, r1⟩ := q1
  obtain ⟨rfl, r2⟩ := q2
  obtain ⟨rfl, r3⟩ := q3
  obtain ⟨rfl, r4⟩ := q4
  exact ⟨_, ⟨x0, x1, x2, x3, x4⟩, em, ⟨v0, rfl, s0, r1, r2, r3, r4⟩, l0⟩
theorem opensM_bks (hB : BulkOk B) (K : T.Ok P) : OpensM (α := List Bk) B M enc P W h0 T.bks fun cs xs => SlC 5 (At (inpOf W) h0 (BkC (inpOf W) h0)) cs xs ∧ (xs.length ≤ M ∧ ∀ x ∈ xs, bkS M x) := opensM_sl hB K.bks K.bkC (by omega) (opensM_bk hB K)
theorem opensM_fu (hB : BulkOk B) (K : T.Ok P) : OpensM (α := Fu) B M enc P W h0 T.fu fun cs x => FuC (inpOf W) h0 cs x ∧ fuS M x := by
  intro n cs y h hc hbk
  rw [K.fuC] at hc
  obtain ⟨_, m, hm⟩ := trod_fieldsM hB K.fu h hbk
  obtain ⟨a0, x0, e0, q0⟩ := fieldM (OpensM.of (opens_i (h0 := h0) K)) K.intC (k := 0) (by omega) (hm (T.int, 0) (by simp))
  obtain ⟨a1, x1, e1, q1⟩ := fieldM (OpensM.of (opens_tys (h0 := h0) K)) K.tysC (k := 1) (by omega) (hm (T.tys, 1) (by simp))
  obtain ⟨a2, x2, e2, q2⟩ := fieldM (opensM_bks (M := M) (h0 := h0) hB K) K.bksC (k := 2) (by omega) (hm (T.bks, 2) (by simp))
  have ecs : cs = (cs.drop 0).take 1 ++ (cs.drop 1).take 1 ++ (cs.drop 2).take 1 := by
    match cs, hc with
    | [c0, c1, c2], _ => rfl
  have em : cs.map canon = (a0 ++ a1 ++ a2).map some := by
    rw [ecs]
    simp only [List.map_append, e0, e1, e2]
  obtain ⟨rfl, r0⟩ := q0
  obtain ⟨v1, rfl, s1⟩ := q1
  obtain ⟨⟨v2, rfl, s2⟩, l2⟩ := q2
  exact ⟨_, ⟨x0, x1, x2⟩, em, ⟨v1, v2, rfl, r0, s1, s2⟩, l2⟩
theorem opensM_fus (hB : BulkOk B) (K : T.Ok P) : OpensM (α := List Fu) B M enc P W h0 T.fus fun cs xs => SlC 3 (At (inpOf W) h0 (FuC (inpOf W) h0)) cs xs ∧ (xs.length ≤ M ∧ ∀ x ∈ xs, fuS M x) := opensM_sl hB K.fus K.fuC (by omega) (opensM_fu hB K)
theorem opensM_pg (hB : BulkOk B) (K : T.Ok P) : OpensM (α := Pg) B M enc P W h0 T.pg fun cs x => PgC (inpOf W) h0 cs x ∧ pgS M x := by
  intro n cs y h hc hbk
  rw [K.pgC] at hc
  obtain ⟨_, m, hm⟩ := trod_fieldsM hB K.pg h hbk
  obtain ⟨a0, x0, e0, q0⟩ := fieldM (OpensM.of (opens_recs (h0 := h0) K)) K.recsC (k := 0) (by omega) (hm (T.recs, 0) (by simp))
  obtain ⟨a1, x1, e1, q1⟩ := fieldM (OpensM.of (opens_sgs (h0 := h0) K)) K.sgsC (k := 1) (by omega) (hm (T.sgs, 1) (by simp))
  obtain ⟨a2, x2, e2, q2⟩ := fieldM (OpensM.of (opens_faces (h0 := h0) K)) K.facesC (k := 2) (by omega) (hm (T.faces, 2) (by simp))
  obtain ⟨a3, x3, e3, q3⟩ := fieldM (OpensM.of (opens_ims (h0 := h0) K)) K.imsC (k := 3) (by omega) (hm (T.ims, 3) (by simp))
  obtain ⟨a4, x4, e4, q4⟩ := fieldM (opensM_fus (M := M) (h0 := h0) hB K) K.fusC (k := 4) (by omega) (hm (T.fus, 4) (by simp))
  obtain ⟨a5, x5, e5, q5⟩ := fieldM (OpensM.of (opens_i (h0 := h0) K)) K.intC (k := 5) (by omega) (hm (T.int, 5) (by simp))
  have ecs : cs = (cs.drop 0).take 1 ++ (cs.drop 1).take 1 ++ (cs.drop 2).take 1 ++ (cs.drop 3).take 1 ++ (cs.drop 4).take 1 ++ (cs.drop 5).take 1 := by
    match cs, hc with
    | [c0, c1, c2, c3, c4, c5], _ => rfl
  have em : cs.map canon = (a0 ++ a1 ++ a2 ++ a3 ++ a4 ++ a5).map some := by
    rw [ecs]
    simp only [List.map_append, e0, e1, e2, e3, e4, e5]
  obtain ⟨v0, rfl, s0⟩ := q0
  obtain ⟨v1, rfl, s1⟩ := q1
  obtain ⟨v2, rfl, s2⟩ := q2
  obtain ⟨v3, rfl, s3⟩ := q3
  obtain ⟨⟨v4, rfl, s4⟩, l4⟩ := q4
  obtain ⟨rfl, r5⟩ := q5
  exact ⟨_, ⟨x0, x1, x2, x3, x4, x5⟩, em, ⟨v0, v1, v2, v3, v4, rfl, r5, s0, s1, s2, s3, s4⟩, l4⟩
theorem openM_pg (hB : BulkOk B) (K : T.Ok P) {r : Reach} {b0 t : Nat} {v : Value} {d : DataW H} {p : List MemPlace} (ht : P.underlying t = some (.pointer T.pg)) (ho : Value.okWide P W r b0 t v) (h : DataW.Trod enc P W 0 (fun _ => true) true t v d p) (hbk : B d ≤ M) :
    v = .pointer none ∨ ∃ b o q, v = .pointer (some ⟨b, o, none⟩) ∧ PgA (inpOf W) h0 (.inp (2 * b)) o q ∧ pgS M q := by
  obtain ⟨a, rfl⟩ := Go.WideShapes.okWide_pointer ht ho
  cases a with
  | none => exact .inl rfl
  | some a =>
    right
    obtain ⟨n, hn⟩ := h
    cases n with
    | zero => cases hn
    | succ n =>
      rw [DataW.trod_step] at hn
      unfold DataW.trodStep at hn
      simp only [Value.cells, ht] at hn
      rw [Option.map_eq_some_iff] at hn
      obtain ⟨y, hy, hyd⟩ := hn
      rw [Option.bind_eq_some_iff] at hy
      obtain ⟨cs, hcs, hy⟩ := hy
      obtain ⟨_, hlen, hg⟩ := World.cells?_some hcs
      rw [K.pgC] at hlen hg
      have hsp : a.spot = none := by
        have := hg 0 (by omega)
        rw [show a.add 0 = a from rfl, List.getElem?_eq_getElem (by omega)] at this
        unfold World.cell? at this
        split at this
        · cases hs : a.spot with
          | none => rfl
          | some s => rw [hs] at this; cases this
        · cases this
      obtain ⟨b, o, sp⟩ := a
      simp only at hsp
      subst hsp
      cases hyd
      obtain ⟨q, cs, hq, hc⟩ := (opensM_pg (h0 := h0) hB K).at (b := b) (o := o) hy (Nat.le_trans (hB.ptr _) hbk) (fun i hi => by rw [← hg i (by omega), addr_add]) (by rw [hlen, K.pgC])
      exact ⟨b, o, q, rfl, ⟨cs, hq.1, hc⟩, hq.2⟩
end
end
end Go.Proofs.YtblblpmkdmociaaDoor.Tx

set_option linter.unusedSimpArgs false
set_option linter.unusedVariables false
namespace Go.Proofs.YtblblpmkdmociaaDoor.Tx
noncomputable section
open Go.AM Go.Proofs.YtblblpmkdmociaaDoor.Sf
section
variable {I : Inp}
theorem codeL_len : ∀ l : List Ins, (codeL l).length = l.length
  | [] => rfl
  | i :: r => by simp only [codeL, List.length_cons, codeL_len r]
theorem bkL_len : ∀ (l : List Bk) (b : Nat), (bkL b l).length ≤ 2 * lenB l
  | [], b => by simp [bkL]
  | x :: r, b => by
    have := bkL_len r (b + 1)
    simp only [bkL, List.length_cons, List.length_append, codeL_len, lenB]; omega
theorem fuL_len : ∀ (l : List Fu) (i : Nat), (fuL i l).length ≤ l.length + 2 * lenF l
  | [], i => by simp [fuL]
  | f :: r, i => by
    have := fuL_len r (i + 1)
    have := bkL_len f.blocks 0
    simp only [fuL, List.length_cons, List.length_append, lenF]; omega
theorem codeL_mem {x : List Nat} : ∀ l : List Ins, x ∈ codeL l → ∃ i ∈ l, x = [32, 32, 32, 32] ++ lineT i
  | [], h => by simp [codeL] at h
  | i :: r, h => by
    rcases List.mem_cons.1 h with rfl | h
    · exact ⟨i, by simp, rfl⟩
    · obtain ⟨j, hj, e⟩ := codeL_mem r h
      exact ⟨j, by simp [hj], e⟩
theorem bkL_max {x : List Nat} : ∀ (l : List Bk) (n : Nat), (∀ b ∈ l, ∀ i ∈ b.code, i.args.length ≤ 1048576) → x ∈ bkL n l → x.length ≤ 25166000
  | [], n, _, h => by simp [bkL] at h
  | b :: r, n, hS, h => by
    simp only [bkL] at h
    rcases List.mem_cons.1 h with rfl | h
    · have := (inferInstance : StrB (decT (n : Int)) 21).le
      simp only [List.length_append, List.length_cons, List.length_nil]; omega
    · rcases List.mem_append.1 h with h | h
      · obtain ⟨i, hi, rfl⟩ := codeL_mem _ h
        have := lineT_len (hS b (by simp) i hi)
        simp only [List.length_append, List.length_cons, List.length_nil]; omega
      · rcases List.mem_cons.1 h with rfl | h
        · have := (inferInstance : StrB (endT b) 80).le
          simp only [List.length_append, List.length_cons, List.length_nil]; omega
        · exact bkL_max r (n + 1) (fun b hb => hS b (by simp [hb])) h
theorem fuL_max {x : List Nat} : ∀ (l : List Fu) (n : Nat), (∀ f ∈ l, ∀ b ∈ f.blocks, ∀ i ∈ b.code, i.args.length ≤ 1048576) → x ∈ fuL n l → x.length ≤ 25166000
  | [], n, _, h => by simp [fuL] at h
  | f :: r, n, hS, h => by
    simp only [fuL] at h
    rcases List.mem_cons.1 h with rfl | h
    · have := (inferInstance : StrB (decT (n : Int)) 21).le
      simp only [List.length_append, List.length_cons, List.length_nil]; omega
    · rcases List.mem_append.1 h with h | h
      · exact bkL_max _ _ (hS f (by simp)) h
      · exact fuL_max r (n + 1) (fun f hf => hS f (by simp [hf])) h
theorem lawPrint_nil (hb : AHeap) : Res ((AM.lim ⟨P, I, genF P Sh.prims⟩) 3 [.nilp] hb) fun u _ => u = .bool true := by
  refine f3.lim rfl (n := 3) ?_
  unfold f3.e
  (repeat' (first | refine Rf (fun hF hG => ?_) (fun hF hG => ?_) | assumption | (show Ext _ _; exact Ext.go) | (simp only [AHeap.next_alloc, AHeap.next_set, AHeap.next_kill, AHeap.next_res] at hle hsame) | simp (disch := first | exact D.go | fail) [setR, List.getElem?_cons_zero, List.getElem?_cons_succ, f3.n0, f3.b0, begun, *] | (refine Ret.thn (h0 := hb) (tSmall_nil _) ?_ (fun g hg hlo hle hsame hx => ?_))))
theorem lawPrint {l : AM.Loc} {o : Nat} {q : Pg} {h0 : AHeap} (hq : PgA I h0 l o q) (hP : pgS 1048576 q) : Res ((AM.lim ⟨P, I, genF P Sh.prims⟩) 3 [.ptr l o] h0) fun u _ => u = .bool true := by
  obtain ⟨hb, rfl⟩ : ∃ hb, hb = h0 := ⟨_, rfl⟩
  cases hB : smallB q
  · refine f3.lim rfl (n := 3) ?_
    unfold f3.e
    (repeat' (first | refine Rf (fun hF hG => ?_) (fun hF hG => ?_) | assumption | (show Ext _ _; exact Ext.go) | (simp only [AHeap.next_alloc, AHeap.next_set, AHeap.next_kill, AHeap.next_res] at hle hsame) | simp (disch := first | exact D.go | fail) [setR, List.getElem?_cons_zero, List.getElem?_cons_succ, f3.n0, f3.b0, begun, hB, *] | (refine Ret.thn (h0 := hb) (tSmall hq _ Ext.go) ?_ (fun g hg hlo hle hsame hx => ?_))))
  · have sm := SmOk.of hB
    have hcode : ∀ f ∈ q.funcs, ∀ b ∈ f.blocks, b.code.length ≤ 1000000 := fun f hf b hb => by have := sm.code f hf b hb; omega
    have hS : ∀ f ∈ q.funcs, ∀ b ∈ f.blocks, ∀ i ∈ b.code, i.args.length ≤ 1048576 := fun f hf b hb i hi => ((hP.2 f hf).2 b hb).2 i hi
    have hn : (fuL 0 q.funcs).length ≤ 400 := by
      have h1 := fuL_len q.funcs 0
      have h2 := sm.pts
      rw [pgPts_len] at h2
      have h3 := sm.funcs
      omega
    have hL : (flatL (fuL 0 q.funcs)).length ≤ 20000000000 := by
      have h1 := flatL_len 25166000 (fuL 0 q.funcs) fun x hx => fuL_max _ _ hS hx
      have h2 : (fuL 0 q.funcs).length * (25166000 + 1) ≤ 400 * (25166000 + 1) := Nat.mul_le_mul_right _ hn
      omega
    refine f3.lim rfl (n := 3) ?_
    unfold f3.e
    (repeat' (first | refine Rf (fun hF hG => ?_) (fun hF hG => ?_) | assumption | (show Ext _ _; exact Ext.go) | (simp only [AHeap.next_alloc, AHeap.next_set, AHeap.next_kill, AHeap.next_res] at hle hsame) | simp (disch := first | exact D.go | fail) [setR, List.getElem?_cons_zero, List.getElem?_cons_succ, f3.n0, f3.b0, begun, hB, *] | (refine Ret.thn (h0 := hb) (tSmall hq _ Ext.go) ?_ (fun g hg hlo hle hsame hx => ?_)) | (refine Ret.thn (h0 := hb) (tPrint hq hcode hS hL (by omega) _ Ext.go) ?_ (fun g hg hlo hle hsame hx => ?_)) | (refine Ret.thn (h0 := hb) (rPrint hq hcode hS hL _ Ext.go) ?_ (fun g hg hlo hle hsame hx => ?_))))
end
end
end Go.Proofs.YtblblpmkdmociaaDoor.Tx
