/- Contracts of the functions, part 1: what each function of the program and of the reference comes to. Conditions: as each lemma says. -/
import Derived.Test.YtncjcnipagdmlaaDoorTxA
import Derived.Lib.ItoaNum
import Derived.Lib.ItoaLen
set_option linter.unusedSimpArgs false
set_option linter.unusedVariables false
namespace Go.Proofs.YtncjcnipagdmlaaDoor.Tx
noncomputable section
open Go.AM Go.Proofs.YtncjcnipagdmlaaDoor.Sf
section
variable {I : Inp} {h0 : AHeap} {α : Type}
/-! a program's lists, read -/
theorem rPgL5 {hb h00 : AHeap} {kr kp : Nat} {a0 a2 a3 a4 a5 : AVal} (hkb : kp < h00.next) (lob : hb.next ≤ kp) (nbr : kp ≠ kr) {Q : AVal → AHeap → Prop} {out : List Sg × Rd} {M : Nat}
    (hT : ∀ F u g, LpS I (fun g => SgC I g) 3 hb h00 g kr kp F u out.1 out.2 → g.get kp = some ⟨[a0, u, a2, a3, a4, a5], true⟩ → ∀ m, M ≤ m → Res ((f26.J I (AM.lim ⟨P, I, genF P Sh.prims⟩) (m)).1.1.2.2.2 (.ptr (.own kr) 0) (.ptr (.own kp) 0) g) Q) :
    ∀ (n : Nat) (acc : List Sg) (v : AVal) (s : Rd) (F : Nat → Prop) (h : AHeap), LpS I (fun g => SgC I g) 3 hb h00 h kr kp F v acc s → RdOk s → acc.length + n ≤ 10000000 → h.get kp = some ⟨[a0, v, a2, a3, a4, a5], true⟩ → (acc ++ (pRep pSg n s).1, (pRep pSg n s).2) = out →
    ∀ N, 3 * n + 3 + M ≤ N → Res ((f26.J I (AM.lim ⟨P, I, genF P Sh.prims⟩) (N)).1.2.1.1 (.ptr (.own kr) 0) (.ptr (.own kp) 0) (.int .i64 (n : Int)) h) Q := by
  intro n
  induction n with
  | zero =>
    intro acc v s F h L ok hl hkv ho N hN
    obtain ⟨n, rfl⟩ : ∃ n, N = n + 1 := ⟨N - 1, by omega⟩
    rw [pRep_zero, List.append_nil] at ho
    have hq := hT F v h (by rw [← ho]; exact L) hkv n (by omega)
    clear hT L
    rw [f26.n5]; unfold f26.b5
    simp (disch := first | exact D.go | fail) [setR, List.getElem?_cons_zero, List.getElem?_cons_succ]
    exact hq
  | succ k ih =>
    intro acc v s F h L ok hl hkv ho N hN
    obtain ⟨v0, hk0, _⟩ := L.rd.at_
    have hpos : (0 : Int) < ((k + 1 : Nat) : Int) := by omega
    cases s with
    | none =>
      obtain ⟨n, rfl⟩ : ∃ n, N = n + 1 := ⟨N - 1, by omega⟩
      rw [pRep_none, List.append_nil] at ho
      have hq := hT F v h (by rw [← ho]; exact L) hkv n (by omega)
      simp only [Option.isNone_none] at hk0
      generalize ((k + 1 : Nat) : Int) = L' at *
      clear hT L ih
      rw [f26.n5]; unfold f26.b5
      simp (disch := first | exact D.go | fail) [setR, List.getElem?_cons_zero, List.getElem?_cons_succ, hpos, hk0]
      exact hq
    | some t =>
      obtain ⟨n, rfl⟩ : ∃ n, N = n + 3 := ⟨N - 3, by omega⟩
      have hkr := L.kr
      have hlo := L.lo
      have hbl := L.rd.ext.lo
      have hkrl := L.rd.lo
      obtain ⟨u, g1, c1, R1, K1, Fu, it1, y1⟩ := rTypsG L.rd ok
      have ok1 := (peTypes.fits _ ok).2.1
      have uo := SlOf.all1 it1.now
      have uo1 := uo.1
      have uo2 := uo.2
      have K1n := K1.1
      obtain ⟨B, hB⟩ : ∃ B, B = (g1.alloc ⟨[.nils, Z 0, Z 0], true⟩).set g1.next ⟨[u, Z 0, Z 0], true⟩ := ⟨_, rfl⟩
      have hBn : B.next = g1.next + 1 := by rw [hB]; simp
      have hBo : ∀ m, m < g1.next → B.get m = g1.get m := fun m hm => by rw [hB, AHeap.set_ne (Nb.o (by omega)), AHeap.alloc_ne (Nb.o (by omega))]
      have hBb : B.get g1.next = some ⟨[u, Z 0, Z 0], true⟩ := by rw [hB]; exact AHeap.set_at (Nb.o rfl)
      have RB : RdS I hb B kr (pTypes (some t)).2 := R1.mono (by omega) (hBo kr (by omega)) ⟨by have := R1.ext.lo; omega, fun m hm => (hBo m (by omega)).trans (R1.ext.same m hm)⟩
      obtain ⟨g2, c2, K2, R2⟩ := rTypG RB ok1
      have d2 := (peTyp.fits _ ok1).1
      have okk := (peTyp.fits _ ok1).2.1
      have K2n := K2.1
      have q2 := (K2.2 g1.next (by omega) (by omega)).trans hBb
      have hx : pSg (some t) = (⟨(pTypes (some t)).1, (pTyp (pTypes (some t)).2).1⟩, (pTyp (pTypes (some t)).2).2) := rfl
      generalize pTyp (pTypes (some t)).2 = y at *
      obtain ⟨D, hD⟩ : ∃ D, D = g2.set g1.next ⟨[u, .int .i64 y.1.kind, .int .i64 y.1.n], true⟩ := ⟨_, rfl⟩
      have hDn : D.next = g2.next := by rw [hD]; simp
      have hDo : ∀ m, m ≠ g1.next → D.get m = g2.get m := fun m hm => by rw [hD, AHeap.set_ne (Nb.o hm)]
      have KD : RKeep kr h D := ⟨by omega, fun m hm hne => by rw [hDo m (by omega), K2.2 m (by omega) hne, hBo m (by omega), K1.2 m hm hne]⟩
      have RD : RdS I hb D kr y.2 := R2.mono (by omega) (hDo kr (by omega)) ⟨by have := R2.ext.lo; omega, fun m hm => (hDo m (by omega)).trans (R2.ext.same m hm)⟩
      have itD : It hb D Fu fun g' => SgC I g' [u, .int .i64 y.1.kind, .int .i64 y.1.n] ⟨(pTypes (some t)).1, y.1⟩ := by
        have i7 := it1.keep (g' := D) (by omega) fun m hm => by
          have := y1 m hm
          have := (it1.lo m hm).2
          rw [hDo m (by omega), K2.2 m (by omega) (by omega), hBo m (by omega)]
        exact ⟨i7.lo, fun g' a b => ⟨u, rfl, i7.ok g' a b, d2.1, d2.2⟩⟩
      obtain ⟨w, G, e1, L1, w1, w2, kG, _⟩ := L.step (I := I) (by omega) RD KD itD rfl (by simp [uo.1]) y1 (bytes := 40) (by omega) (by omega)
      obtain ⟨yy, hyy⟩ : ∃ yy, yy = y.2 := ⟨_, rfl⟩
      rw [← hyy] at hx okk L1
      have hkvg := (KD.2 kp (by omega) nbr).trans hkv
      have hkva : (D.alloc ⟨[u, .int .i64 y.1.kind, .int .i64 y.1.n], true⟩).get kp = D.get kp := AHeap.alloc_ne (Nb.o (by omega))
      rw [hkvg] at hkva
      have qD : D.get g1.next = some ⟨[u, .int .i64 y.1.kind, .int .i64 y.1.n], true⟩ := by rw [hD]; exact AHeap.set_at (Nb.o rfl)
      have hkvq := hkvg
      rw [hD] at hkvq hkva e1 qD
      rw [AHeap.next_set] at e1
      rw [hB] at c2
      have za : (g1.alloc ⟨[.nils, Z 0, Z 0], true⟩).get g1.next = some ⟨[.nils, Z 0, Z 0], true⟩ := AHeap.alloc_at (Nb.o rfl)
      have z4 : (AVal.agg [u, Z 0, Z 0]).cells = [u, Z 0, Z 0] := rfl
      have z5 : (AVal.agg [.int .i64 y.1.kind, .int .i64 y.1.n]).cells = [.int .i64 y.1.kind, .int .i64 y.1.n] := rfl
      have vo1 := L.ls.one.1
      have vo2 := L.ls.one.2
      have vs := L.ls.selfEq
      have hkvG := (kG kp hkb).trans hkvg
      have hrep : (pRep pSg (k + 1) (some t)) = ((pSg (some t)).1 :: (pRep pSg k (pSg (some t)).2).1, (pRep pSg k (pSg (some t)).2).2) := rfl
      rw [hrep] at ho
      rw [hx] at ho
      have hi2 := ih _ w yy _ (G.set kp ⟨[a0, w, a2, a3, a4, a5], true⟩) (L1.set hkb lob nbr _) okk (by simp only [List.length_append, List.length_cons, List.length_nil]; omega) (AHeap.set_at (Nb.o rfl)) (by rw [← ho]; simp) n (by omega)
      have hw : IntKind.i64.wrap (((k + 1 : Nat) : Int) - 1) = (k : Int) := by rw [wrap_in ⟨by omega, by omega⟩]; omega
      simp only [Option.isNone_some] at hk0
      generalize ((k + 1 : Nat) : Int) = L' at *
      clear hT ih L L1 kG ho hrep ok okk hx R1 RB R2 RD K1 K2 KD it1 itD y1 uo hBo hDo hBb hD hB
      rw [f26.n5]; unfold f26.b5
      simp (disch := first | exact D.go | fail) [setR, List.getElem?_cons_zero, List.getElem?_cons_succ, hpos, hk0, f26.n6, f26.b6, f26.n7, f26.b7, hkv, hkvG, e1, w1, w2, vo1, vo2, vs, hw, c1, c2, q2, qD, za, z4, z5, hkvq, hkva, uo1, uo2]
      exact hi2
theorem rPgL13 {hb h00 : AHeap} {kr kp : Nat} {a0 a1 a2 a4 a5 : AVal} (hkb : kp < h00.next) (lob : hb.next ≤ kp) (nbr : kp ≠ kr) {Q : AVal → AHeap → Prop} {out : List Im × Rd} {M : Nat}
    (hT : ∀ F u g, LpS I (fun g => ImC I g) 3 hb h00 g kr kp F u out.1 out.2 → g.get kp = some ⟨[a0, a1, a2, u, a4, a5], true⟩ → ∀ m, M ≤ m → Res ((f26.J I (AM.lim ⟨P, I, genF P Sh.prims⟩) (m)).2.1.2.1 (.ptr (.own kr) 0) (.ptr (.own kp) 0) g) Q) :
    ∀ (n : Nat) (acc : List Im) (v : AVal) (s : Rd) (F : Nat → Prop) (h : AHeap), LpS I (fun g => ImC I g) 3 hb h00 h kr kp F v acc s → RdOk s → acc.length + n ≤ 10000000 → h.get kp = some ⟨[a0, a1, a2, v, a4, a5], true⟩ → (acc ++ (pRep pIm n s).1, (pRep pIm n s).2) = out →
    ∀ N, 3 * n + 3 + M ≤ N → Res ((f26.J I (AM.lim ⟨P, I, genF P Sh.prims⟩) (N)).2.1.2.2.1 (.ptr (.own kr) 0) (.ptr (.own kp) 0) (.int .i64 (n : Int)) h) Q := by
  intro n
  induction n with
  | zero =>
    intro acc v s F h L ok hl hkv ho N hN
    obtain ⟨n, rfl⟩ : ∃ n, N = n + 1 := ⟨N - 1, by omega⟩
    rw [pRep_zero, List.append_nil] at ho
    have hq := hT F v h (by rw [← ho]; exact L) hkv n (by omega)
    clear hT L
    rw [f26.n13]; unfold f26.b13
    simp (disch := first | exact D.go | fail) [setR, List.getElem?_cons_zero, List.getElem?_cons_succ]
    exact hq
  | succ k ih =>
    intro acc v s F h L ok hl hkv ho N hN
    obtain ⟨v0, hk0, _⟩ := L.rd.at_
    have hpos : (0 : Int) < ((k + 1 : Nat) : Int) := by omega
    cases s with
    | none =>
      obtain ⟨n, rfl⟩ : ∃ n, N = n + 1 := ⟨N - 1, by omega⟩
      rw [pRep_none, List.append_nil] at ho
      have hq := hT F v h (by rw [← ho]; exact L) hkv n (by omega)
      simp only [Option.isNone_none] at hk0
      generalize ((k + 1 : Nat) : Int) = L' at *
      clear hT L ih
      rw [f26.n13]; unfold f26.b13
      simp (disch := first | exact D.go | fail) [setR, List.getElem?_cons_zero, List.getElem?_cons_succ, hpos, hk0]
      exact hq
    | some t =>
      obtain ⟨n, rfl⟩ : ∃ n, N = n + 3 := ⟨N - 3, by omega⟩
      have hkr := L.kr
      have hlo := L.lo
      have hbl := L.rd.ext.lo
      have hkrl := L.rd.lo
      obtain ⟨g1, c1, o1, R1⟩ := rNumG L.rd ok
      have ok1 := (peNum.fits _ ok).2.1
      have d1 := (peNum.fits _ ok).1
      obtain ⟨B, hB⟩ : ∃ B, B = (g1.alloc ⟨[Z 0, Z 0, .nils], true⟩).set g1.next ⟨[.int .i64 (pNum (some t)).1, Z 0, .nils], true⟩ := ⟨_, rfl⟩
      have o1n := o1.1
      have hBn : B.next = g1.next + 1 := by rw [hB]; simp
      have hBo : ∀ m, m < g1.next → B.get m = g1.get m := fun m hm => by rw [hB, AHeap.set_ne (Nb.o (by omega)), AHeap.alloc_ne (Nb.o (by omega))]
      have hBb : B.get g1.next = some ⟨[.int .i64 (pNum (some t)).1, Z 0, .nils], true⟩ := by rw [hB]; exact AHeap.set_at (Nb.o rfl)
      have RB : RdS I hb B kr (pNum (some t)).2 := R1.mono (by omega) (hBo kr (by omega)) ⟨by have := R1.ext.lo; omega, fun m hm => (hBo m (by omega)).trans (R1.ext.same m hm)⟩
      obtain ⟨g2, c2, o2, R2⟩ := rNumG RB ok1
      have ok2 := (peNum.fits _ ok1).2.1
      have d2 := (peNum.fits _ ok1).1
      have o2n := o2.1
      have q2 := (o2.2 g1.next (by omega)).trans hBb
      obtain ⟨E, hE⟩ : ∃ E, E = g2.set g1.next ⟨[.int .i64 (pNum (some t)).1, .int .i64 (pNum (pNum (some t)).2).1, .nils], true⟩ := ⟨_, rfl⟩
      have hEn : E.next = g2.next := by rw [hE]; simp
      have hEo : ∀ m, m ≠ g1.next → E.get m = g2.get m := fun m hm => by rw [hE, AHeap.set_ne (Nb.o hm)]
      have hEb : E.get g1.next = some ⟨[.int .i64 (pNum (some t)).1, .int .i64 (pNum (pNum (some t)).2).1, .nils], true⟩ := by rw [hE]; exact AHeap.set_at (Nb.o rfl)
      have RE : RdS I hb E kr (pNum (pNum (some t)).2).2 := R2.mono (by omega) (hEo kr (by omega)) ⟨by have := R2.ext.lo; omega, fun m hm => (hEo m (by omega)).trans (R2.ext.same m hm)⟩
      obtain ⟨u, g3, c3, R3, K3, Fu, it3, y3⟩ := rNumsG RE ok2
      have okk := (peNums.fits _ ok2).2.1
      have uo := SlOf.all1 it3.now
      have uo1 := uo.1
      have uo2 := uo.2
      have K3n := K3.1
      have q3 := (K3.2 g1.next (by omega) (by omega)).trans hEb
      have hx : pIm (some t) = (⟨(pNum (some t)).1, (pNum (pNum (some t)).2).1, (pNums (pNum (pNum (some t)).2).2).1⟩, (pNums (pNum (pNum (some t)).2).2).2) := rfl
      generalize pNums (pNum (pNum (some t)).2).2 = y at *
      generalize pNum (pNum (some t)).2 = x1 at *
      generalize pNum (some t) = x0 at *
      obtain ⟨D, hD⟩ : ∃ D, D = g3.set g1.next ⟨[.int .i64 x0.1, .int .i64 x1.1, u], true⟩ := ⟨_, rfl⟩
      have hDn : D.next = g3.next := by rw [hD]; simp
      have hDo : ∀ m, m ≠ g1.next → D.get m = g3.get m := fun m hm => by rw [hD, AHeap.set_ne (Nb.o hm)]
      have KD : RKeep kr h D := ⟨by omega, fun m hm hne => by rw [hDo m (by omega), K3.2 m (by omega) hne, hEo m (by omega), o2.2 m hne, hBo m (by omega), o1.2 m hne]⟩
      have RD : RdS I hb D kr y.2 := R3.mono (by omega) (hDo kr (by omega)) ⟨by have := R3.ext.lo; omega, fun m hm => (hDo m (by omega)).trans (R3.ext.same m hm)⟩
      have itD : It hb D Fu fun g' => ImC I g' [.int .i64 x0.1, .int .i64 x1.1, u] ⟨x0.1, x1.1, y.1⟩ := by
        have i7 := it3.keep (g' := D) (by omega) fun m hm => by
          have := y3 m hm
          rw [hDo m (by omega)]
        exact ⟨i7.lo, fun g' a b => ⟨u, rfl, d1, d2, i7.ok g' a b⟩⟩
      obtain ⟨w, G, e1, L1, w1, w2, kG, _⟩ := L.step (I := I) (by omega) RD KD itD rfl (by simp [uo.1]) (fun m hm => by have := y3 m hm; omega) (bytes := 40) (by omega) (by omega)
      obtain ⟨yy, hyy⟩ : ∃ yy, yy = y.2 := ⟨_, rfl⟩
      rw [← hyy] at hx okk L1
      have hkvg := (KD.2 kp (by omega) nbr).trans hkv
      have hkva : (D.alloc ⟨[.int .i64 x0.1, .int .i64 x1.1, u], true⟩).get kp = D.get kp := AHeap.alloc_ne (Nb.o (by omega))
      rw [hkvg] at hkva
      have qD : D.get g1.next = some ⟨[.int .i64 x0.1, .int .i64 x1.1, u], true⟩ := by rw [hD]; exact AHeap.set_at (Nb.o rfl)
      have hkvq := hkvg
      rw [hD] at hkvq hkva e1 qD
      rw [AHeap.next_set] at e1
      rw [hB] at c2
      rw [hE] at c3
      have za : (g1.alloc ⟨[Z 0, Z 0, .nils], true⟩).get g1.next = some ⟨[Z 0, Z 0, .nils], true⟩ := AHeap.alloc_at (Nb.o rfl)
      have z4 : (AVal.agg [.int .i64 x0.1, Z 0, .nils]).cells = [.int .i64 x0.1, Z 0, .nils] := rfl
      have vo1 := L.ls.one.1
      have vo2 := L.ls.one.2
      have vs := L.ls.selfEq
      have hkvG := (kG kp hkb).trans hkvg
      have hrep : (pRep pIm (k + 1) (some t)) = ((pIm (some t)).1 :: (pRep pIm k (pIm (some t)).2).1, (pRep pIm k (pIm (some t)).2).2) := rfl
      rw [hrep] at ho
      rw [hx] at ho
      have hi2 := ih _ w yy _ (G.set kp ⟨[a0, a1, a2, w, a4, a5], true⟩) (L1.set hkb lob nbr _) okk (by simp only [List.length_append, List.length_cons, List.length_nil]; omega) (AHeap.set_at (Nb.o rfl)) (by rw [← ho]; simp) n (by omega)
      have hw : IntKind.i64.wrap (((k + 1 : Nat) : Int) - 1) = (k : Int) := by rw [wrap_in ⟨by omega, by omega⟩]; omega
      simp only [Option.isNone_some] at hk0
      generalize ((k + 1 : Nat) : Int) = L' at *
      clear hT ih L L1 kG ho hrep ok okk hx R1 RB R2 RE R3 RD o1 o2 K3 KD it3 itD y3 uo hBo hEo hDo hBb hEb hD hB hE
      rw [f26.n13]; unfold f26.b13
      simp (disch := first | exact D.go | fail) [setR, List.getElem?_cons_zero, List.getElem?_cons_succ, hpos, hk0, f26.n14, f26.b14, f26.n15, f26.b15, hkv, hkvG, e1, w1, w2, vo1, vo2, vs, hw, c1, c2, c3, q2, q3, qD, za, z4, hkvq, hkva, uo1, uo2]
      exact hi2
end
end
end Go.Proofs.YtncjcnipagdmlaaDoor.Tx

set_option linter.unusedSimpArgs false
set_option linter.unusedVariables false
namespace Go.Proofs.YtncjcnipagdmlaaDoor.Tx
noncomputable section
open Go.AM Go.Proofs.YtncjcnipagdmlaaDoor.Sf
section
variable {I : Inp} {h0 : AHeap} {α : Type}
/-! a program, read -/
/-- So far: what was read stays, the program's own block has these cells. -/
structure PgS (I : Inp) (hb h g : AHeap) (kr : Nat) (R : AHeap → Prop) (s : Rd) (cells : List AVal) : Prop where
  rd : RdS I hb g kr s
  it : ∃ F, It hb g F R ∧ ∀ m, F m → h.next + 1 ≤ m
  keep : ∀ m, m < h.next → m ≠ kr → g.get m = h.get m
  lo : h.next + 1 ≤ g.next
  box : g.get h.next = some ⟨cells, true⟩
  kr : kr < h.next
  ext : Ext hb h
theorem PgS.next {hb h g g' G : AHeap} {kr : Nat} {R : AHeap → Prop} {s s' s'' : Rd} {cells cells' : List AVal} (S : PgS I hb h g kr R s cells) {C : AHeap → List AVal → α → Prop} {sz : Nat} {F : Nat → Prop} {u : AVal} {xs : List α} (hz : 0 < sz) (L : LpS I C sz hb g G kr h.next F u xs s'') (hl : xs.length ≤ 9223372036854775807) (hbx : G.get h.next = some ⟨cells', true⟩) :
    PgS I hb h G kr (fun g' => R g' ∧ SlV' I C sz g' u xs) s'' cells' := by
  obtain ⟨F0, i0, y0⟩ := S.it
  have hkr := S.kr
  have hlo := S.lo
  have hLlo := L.lo
  have i1 := i0.keep (g' := G) L.lo fun m hm => L.keep m (i0.lo m hm).2 (by have := y0 m hm; omega) (by have := y0 m hm; omega)
  have i2 := L.ls.sl (I := I) hz hl
  have yo : ∀ m, (F m ∨ ¬ NotB u m) → h.next + 1 ≤ m := fun m hm => Nat.le_of_not_lt fun h => by
    obtain ⟨a, b⟩ := L.young m (by omega)
    rcases hm with hm | hm
    · exact b hm
    · exact hm a
  refine ⟨L.rd, ⟨fun m => F0 m ∨ (F m ∨ ¬ NotB u m), ⟨fun m hm => ?_, fun g' a b => ⟨i1.ok g' a fun m hm => b m (.inl hm), i2.ok g' a fun m hm => b m (.inr hm)⟩⟩, fun m hm => ?_⟩, fun m hm hne => ?_, by omega, hbx, hkr, S.ext⟩
  · rcases hm with hm | hm
    · exact i1.lo m hm
    · exact i2.lo m hm
  · rcases hm with hm | hm
    · exact y0 m hm
    · exact yo m hm
  · rw [L.keep m (by omega) hne (by omega)]
    exact S.keep m hm hne
theorem tP16 {hb h g : AHeap} {kr : Nat} {R : AHeap → Prop} {s : Rd} {u1 u2 u3 u4 u5 : AVal} (ok : RdOk s) (S : PgS I hb h g kr R s [u1, u2, u3, u4, u5, Z 0]) {Q : AVal → AHeap → Prop} (hQ : ∀ G, PgS I hb h G kr R (pNum s).2 [u1, u2, u3, u4, u5, .int .i64 (pNum s).1] → Q (.ptr (.own h.next) 0) G) : ∀ m, 2 ≤ m → Res ((f26.J I (AM.lim ⟨P, I, genF P Sh.prims⟩) (m)).2.2.1.2 (.ptr (.own kr) 0) (.ptr (.own h.next) 0) g) Q := by
  intro m hm
  obtain ⟨n, rfl⟩ : ∃ n, m = n + 1 := ⟨m - 1, by omega⟩
  obtain ⟨g1, c1, o1, R1⟩ := rNumG S.rd ok
  have hkr := S.kr
  have hlo := S.lo
  have hbl := S.ext.lo
  have q1 := (o1.2 h.next (by omega)).trans S.box
  have hq : Q (.ptr (.own h.next) 0) (g1.set h.next ⟨[u1, u2, u3, u4, u5, .int .i64 (pNum s).1], true⟩) := by
    obtain ⟨F0, i0, y0⟩ := S.it
    refine hQ _ ⟨R1.mono (by simp) (AHeap.set_ne (Nb.o (by omega))) (R1.ext.set (Nb.o (by omega))), ⟨F0, i0.keep (by simp [o1.1]) fun m hm => ?_, y0⟩, fun m hm hne => ?_, by simp [o1.1]; omega, AHeap.set_at (Nb.o rfl), hkr, S.ext⟩
    · have := y0 m hm
      rw [AHeap.set_ne (Nb.o (by omega)), o1.2 m (by omega)]
    · rw [AHeap.set_ne (Nb.o (by omega)), o1.2 m hne]
      exact S.keep m hm hne
  clear hQ S R1 o1
  rw [f26.n16]; unfold f26.b16
  simp (disch := first | exact D.go | fail) [setR, List.getElem?_cons_zero, List.getElem?_cons_succ, c1, q1]
  exact hq
def mP12 (s : Rd) : Nat := 3 * (pSize s).1 + 5 + 2
theorem tP12 {hb h g : AHeap} {kr : Nat} {R : AHeap → Prop} {s : Rd} {u1 u2 u3 u4 : AVal} (ok : RdOk s) (S : PgS I hb h g kr R s [u1, u2, u3, u4, .nils, Z 0]) {Q : AVal → AHeap → Prop} (hQ : ∀ G u5, PgS I hb h G kr (fun g' => (R g' ∧ SlV' I (fun g => FuC I g) 3 g' u5 (pList pFu s).1)) (pNum (pList pFu s).2).2 [u1, u2, u3, u4, u5, .int .i64 (pNum (pList pFu s).2).1] → Q (.ptr (.own h.next) 0) G) : ∀ m, mP12 s ≤ m → Res ((f26.J I (AM.lim ⟨P, I, genF P Sh.prims⟩) (m)).2.1.2.1 (.ptr (.own kr) 0) (.ptr (.own h.next) 0) g) Q := by
  intro m hm
  unfold mP12 at hm
  obtain ⟨n, rfl⟩ : ∃ n, m = n + 1 := ⟨m - 1, by omega⟩
  obtain ⟨g1, c1, o1, R1⟩ := rSizeG S.rd ok
  obtain ⟨z1, z2, _⟩ := pSize_fits s ok
  have hkr := S.kr
  have hlo := S.lo
  have hbl := S.ext.lo
  have q1 := (o1.2 h.next (by omega)).trans S.box
  have ok2 := (peFu.list.fits s ok).2.1
  have hle := pList_le peFu ok
  have hrun : Res ((f26.J I (AM.lim ⟨P, I, genF P Sh.prims⟩) (n)).2.2.2.1 (.ptr (.own kr) 0) (.ptr (.own h.next) 0) (.int .i64 ((pSize s).1 : Int)) g1) Q :=
    rPgL17 (I := I) (h00 := g) (kp := h.next) (out := pList pFu s) (M := 2) (by omega) (by omega) (by omega) (fun F u G L hbx => tP16 (I := I) ok2 (S.next (g' := g1) (s' := s) (by omega) L hle hbx) fun G'  S' => hQ G' u  S') (pSize s).1 [] .nils (pSize s).2 _ g1 (LpS.begin R1 o1) z2 (by simp; omega) q1 (by rw [List.nil_append]; rfl) n (by omega)
  clear hQ S R1 o1
  rw [f26.n12]; unfold f26.b12
  simp (disch := first | exact D.go | fail) [setR, List.getElem?_cons_zero, List.getElem?_cons_succ, c1]
  exact hrun
def mP8 (s : Rd) : Nat := 3 * (pSize s).1 + 5 + mP12 (pList pIm s).2
theorem tP8 {hb h g : AHeap} {kr : Nat} {R : AHeap → Prop} {s : Rd} {u1 u2 u3 : AVal} (ok : RdOk s) (S : PgS I hb h g kr R s [u1, u2, u3, .nils, .nils, Z 0]) {Q : AVal → AHeap → Prop} (hQ : ∀ G u4 u5, PgS I hb h G kr (fun g' => ((R g' ∧ SlV' I (fun g => ImC I g) 3 g' u4 (pList pIm s).1) ∧ SlV' I (fun g => FuC I g) 3 g' u5 (pList pFu (pList pIm s).2).1)) (pNum (pList pFu (pList pIm s).2).2).2 [u1, u2, u3, u4, u5, .int .i64 (pNum (pList pFu (pList pIm s).2).2).1] → Q (.ptr (.own h.next) 0) G) : ∀ m, mP8 s ≤ m → Res ((f26.J I (AM.lim ⟨P, I, genF P Sh.prims⟩) (m)).1.2.2.2.1 (.ptr (.own kr) 0) (.ptr (.own h.next) 0) g) Q := by
  intro m hm
  unfold mP8 at hm
  obtain ⟨n, rfl⟩ : ∃ n, m = n + 1 := ⟨m - 1, by omega⟩
  obtain ⟨g1, c1, o1, R1⟩ := rSizeG S.rd ok
  obtain ⟨z1, z2, _⟩ := pSize_fits s ok
  have hkr := S.kr
  have hlo := S.lo
  have hbl := S.ext.lo
  have q1 := (o1.2 h.next (by omega)).trans S.box
  have ok2 := (peIm.list.fits s ok).2.1
  have hle := pList_le peIm ok
  have hrun : Res ((f26.J I (AM.lim ⟨P, I, genF P Sh.prims⟩) (n)).2.1.2.2.1 (.ptr (.own kr) 0) (.ptr (.own h.next) 0) (.int .i64 ((pSize s).1 : Int)) g1) Q :=
    rPgL13 (I := I) (h00 := g) (kp := h.next) (out := pList pIm s) (M := mP12 (pList pIm s).2) (by omega) (by omega) (by omega) (fun F u G L hbx => tP12 (I := I) ok2 (S.next (g' := g1) (s' := s) (by omega) L hle hbx) fun G' u5 S' => hQ G' u u5 S') (pSize s).1 [] .nils (pSize s).2 _ g1 (LpS.begin R1 o1) z2 (by simp; omega) q1 (by rw [List.nil_append]; rfl) n (by omega)
  clear hQ S R1 o1
  rw [f26.n8]; unfold f26.b8
  simp (disch := first | exact D.go | fail) [setR, List.getElem?_cons_zero, List.getElem?_cons_succ, c1]
  exact hrun
def mP4 (s : Rd) : Nat := 3 * (pSize s).1 + 5 + mP8 (pList pNums s).2
theorem tP4 {hb h g : AHeap} {kr : Nat} {R : AHeap → Prop} {s : Rd} {u1 u2 : AVal} (ok : RdOk s) (S : PgS I hb h g kr R s [u1, u2, .nils, .nils, .nils, Z 0]) {Q : AVal → AHeap → Prop} (hQ : ∀ G u3 u4 u5, PgS I hb h G kr (fun g' => (((R g' ∧ SlV' I (fun g => SlC 1 (IntA I g)) 1 g' u3 (pList pNums s).1) ∧ SlV' I (fun g => ImC I g) 3 g' u4 (pList pIm (pList pNums s).2).1) ∧ SlV' I (fun g => FuC I g) 3 g' u5 (pList pFu (pList pIm (pList pNums s).2).2).1)) (pNum (pList pFu (pList pIm (pList pNums s).2).2).2).2 [u1, u2, u3, u4, u5, .int .i64 (pNum (pList pFu (pList pIm (pList pNums s).2).2).2).1] → Q (.ptr (.own h.next) 0) G) : ∀ m, mP4 s ≤ m → Res ((f26.J I (AM.lim ⟨P, I, genF P Sh.prims⟩) (m)).1.1.2.2.2 (.ptr (.own kr) 0) (.ptr (.own h.next) 0) g) Q := by
  intro m hm
  unfold mP4 at hm
  obtain ⟨n, rfl⟩ : ∃ n, m = n + 1 := ⟨m - 1, by omega⟩
  obtain ⟨g1, c1, o1, R1⟩ := rSizeG S.rd ok
  obtain ⟨z1, z2, _⟩ := pSize_fits s ok
  have hkr := S.kr
  have hlo := S.lo
  have hbl := S.ext.lo
  have q1 := (o1.2 h.next (by omega)).trans S.box
  have ok2 := (peNums.list.fits s ok).2.1
  have hle := pList_le peNums ok
  have hrun : Res ((f26.J I (AM.lim ⟨P, I, genF P Sh.prims⟩) (n)).1.2.2.2.2 (.ptr (.own kr) 0) (.ptr (.own h.next) 0) (.int .i64 ((pSize s).1 : Int)) g1) Q :=
    rPgL9 (I := I) (h00 := g) (kp := h.next) (out := pList pNums s) (M := mP8 (pList pNums s).2) (by omega) (by omega) (by omega) (fun F u G L hbx => tP8 (I := I) ok2 (S.next (g' := g1) (s' := s) (by omega) L hle hbx) fun G' u4 u5 S' => hQ G' u u4 u5 S') (pSize s).1 [] .nils (pSize s).2 _ g1 (LpS.begin R1 o1) z2 (by simp; omega) q1 (by rw [List.nil_append]; rfl) n (by omega)
  clear hQ S R1 o1
  rw [f26.n4]; unfold f26.b4
  simp (disch := first | exact D.go | fail) [setR, List.getElem?_cons_zero, List.getElem?_cons_succ, c1]
  exact hrun
def mP0 (s : Rd) : Nat := 3 * (pSize s).1 + 5 + mP4 (pList pSg s).2
theorem tP0 {hb h g : AHeap} {kr : Nat} {R : AHeap → Prop} {s : Rd} {u1 : AVal} (ok : RdOk s) (S : PgS I hb h g kr R s [u1, .nils, .nils, .nils, .nils, Z 0]) {Q : AVal → AHeap → Prop} (hQ : ∀ G u2 u3 u4 u5, PgS I hb h G kr (fun g' => ((((R g' ∧ SlV' I (fun g => SgC I g) 3 g' u2 (pList pSg s).1) ∧ SlV' I (fun g => SlC 1 (IntA I g)) 1 g' u3 (pList pNums (pList pSg s).2).1) ∧ SlV' I (fun g => ImC I g) 3 g' u4 (pList pIm (pList pNums (pList pSg s).2).2).1) ∧ SlV' I (fun g => FuC I g) 3 g' u5 (pList pFu (pList pIm (pList pNums (pList pSg s).2).2).2).1)) (pNum (pList pFu (pList pIm (pList pNums (pList pSg s).2).2).2).2).2 [u1, u2, u3, u4, u5, .int .i64 (pNum (pList pFu (pList pIm (pList pNums (pList pSg s).2).2).2).2).1] → Q (.ptr (.own h.next) 0) G) : ∀ m, mP0 s ≤ m → Res ((f26.J I (AM.lim ⟨P, I, genF P Sh.prims⟩) (m)).1.1.1.1 (.ptr (.own kr) 0) (.ptr (.own h.next) 0) g) Q := by
  intro m hm
  unfold mP0 at hm
  obtain ⟨n, rfl⟩ : ∃ n, m = n + 1 := ⟨m - 1, by omega⟩
  obtain ⟨g1, c1, o1, R1⟩ := rSizeG S.rd ok
  obtain ⟨z1, z2, _⟩ := pSize_fits s ok
  have hkr := S.kr
  have hlo := S.lo
  have hbl := S.ext.lo
  have q1 := (o1.2 h.next (by omega)).trans S.box
  have ok2 := (peSg.list.fits s ok).2.1
  have hle := pList_le peSg ok
  have hrun : Res ((f26.J I (AM.lim ⟨P, I, genF P Sh.prims⟩) (n)).1.2.1.1 (.ptr (.own kr) 0) (.ptr (.own h.next) 0) (.int .i64 ((pSize s).1 : Int)) g1) Q :=
    rPgL5 (I := I) (h00 := g) (kp := h.next) (out := pList pSg s) (M := mP4 (pList pSg s).2) (by omega) (by omega) (by omega) (fun F u G L hbx => tP4 (I := I) ok2 (S.next (g' := g1) (s' := s) (by omega) L hle hbx) fun G' u3 u4 u5 S' => hQ G' u u3 u4 u5 S') (pSize s).1 [] .nils (pSize s).2 _ g1 (LpS.begin R1 o1) z2 (by simp; omega) q1 (by rw [List.nil_append]; rfl) n (by omega)
  clear hQ S R1 o1
  rw [f26.n0]; unfold f26.b0
  simp (disch := first | exact D.go | fail) [setR, List.getElem?_cons_zero, List.getElem?_cons_succ, c1]
  exact hrun
def PgQ (I : Inp) (hb h : AHeap) (kr : Nat) (q : Pg) (s : Rd) : AVal → AHeap → Prop := fun u g => u = .ptr (.own h.next) 0 ∧ PgA I g (.own h.next) 0 q ∧ RdS I hb g kr s ∧ RKeep kr h g
theorem PgS.done {hb h G : AHeap} {kr : Nat} {s : Rd} {u1 u2 u3 u4 u5 : AVal} {q : Pg} (S : PgS I hb h G kr (fun g' => (((((True ∧ SlV' I (fun g => SlC 2 (At I g TyC)) 1 g' u1 q.recs) ∧ SlV' I (fun g => SgC I g) 3 g' u2 q.sigs) ∧ SlV' I (fun g => SlC 1 (IntA I g)) 1 g' u3 q.faces) ∧ SlV' I (fun g => ImC I g) 3 g' u4 q.impls) ∧ SlV' I (fun g => FuC I g) 3 g' u5 q.funcs)) s [u1, u2, u3, u4, u5, .int .i64 q.main]) (hm : InR q.main) : PgQ I hb h kr q s (.ptr (.own h.next) 0) G := by
  obtain ⟨F', i', _⟩ := S.it
  obtain ⟨⟨⟨⟨⟨_, a1⟩, a2⟩, a3⟩, a4⟩, a5⟩ := i'.now
  have hlo := S.lo
  exact ⟨rfl, ⟨_, ⟨u1, u2, u3, u4, u5, rfl, hm, a1, a2, a3, a4, a5⟩, Cells.own S.box (by omega) fun i v hv => by rw [Nat.zero_add]; exact hv⟩, S.rd, by omega, fun m hm hne => S.keep m hm hne⟩
theorem rPgRun {hb h H g1 : AHeap} {kr : Nat} {s : Rd} (ok : RdOk s) (S : PgS I hb h H kr (fun _ => True) s [.nils, .nils, .nils, .nils, .nils, Z 0]) (o1 : Only kr H g1) (R1 : RdS I hb g1 kr (pSize s).2)
    {x1 : List (List Ty) × Rd} {x2 : List Sg × Rd} {x3 : List (List Int) × Rd} {x4 : List Im × Rd} {x5 : List Fu × Rd} {x6 : Int × Rd} (e1 : pList pTypes s = x1) (e2 : pList pSg x1.2 = x2) (e3 : pList pNums x2.2 = x3) (e4 : pList pIm x3.2 = x4) (e5 : pList pFu x4.2 = x5) (e6 : pNum x5.2 = x6) :
    Res ((f26.J I (AM.lim ⟨P, I, genF P Sh.prims⟩) (3 * (pSize s).1 + 3 + mP0 x1.2)).1.1.1.2 (.ptr (.own kr) 0) (.ptr (.own h.next) 0) (.int .i64 ((pSize s).1 : Int)) g1) (PgQ I hb h kr ⟨x1.1, x2.1, x3.1, x4.1, x5.1, x6.1⟩ x6.2) := by
  obtain ⟨z1, z2, _⟩ := pSize_fits s ok
  have hkr := S.kr
  have hlo := S.lo
  have hbl := S.ext.lo
  have q1 := (o1.2 h.next (by omega)).trans S.box
  have ok2 := (peTypes.list.fits s ok).2.1
  have hle := pList_le peTypes ok
  rw [e1] at ok2 hle
  have ok3 := (peSg.list.fits _ ok2).2.1
  rw [e2] at ok3
  have ok4 := (peNums.list.fits _ ok3).2.1
  rw [e3] at ok4
  have ok5 := (peIm.list.fits _ ok4).2.1
  rw [e4] at ok5
  have ok6 := (peFu.list.fits _ ok5).2.1
  rw [e5] at ok6
  have hm := (peNum.fits _ ok6).1
  rw [e6] at hm
  refine rPgL1 (I := I) (h00 := H) (kp := h.next) (out := x1) (M := mP0 x1.2) (by omega) (by omega) (by omega) (fun F u1 G L hbx => tP0 (I := I) ok2 (S.next (g' := g1) (s' := s) (by omega) L hle hbx) fun G' u2 u3 u4 u5 S' => ?_) (pSize s).1 [] .nils (pSize s).2 _ g1 (LpS.begin R1 o1) z2 (by simp; omega) q1 (by rw [List.nil_append, ← e1]; rfl) _ (Nat.le_refl _)
  simp only [e2, e3, e4, e5, e6] at S'
  exact PgS.done (q := ⟨x1.1, x2.1, x3.1, x4.1, x5.1, x6.1⟩) S' hm
theorem pPg_eq (s : Rd) : pPg s = (⟨(pList pTypes s).1, (pList pSg (pList pTypes s).2).1, (pList pNums (pList pSg (pList pTypes s).2).2).1, (pList pIm (pList pNums (pList pSg (pList pTypes s).2).2).2).1, (pList pFu (pList pIm (pList pNums (pList pSg (pList pTypes s).2).2).2).2).1, (pNum (pList pFu (pList pIm (pList pNums (pList pSg (pList pTypes s).2).2).2).2).2).1⟩, (pNum (pList pFu (pList pIm (pList pNums (pList pSg (pList pTypes s).2).2).2).2).2).2) := by
  simp only [pPg, pMap, pSeq, mkPg]
/-- A program is read, or not. -/
theorem rPgG {hb h : AHeap} {kr : Nat} {s : Rd} (R : RdS I hb h kr s) (ok : RdOk s) : Res ((AM.lim ⟨P, I, genF P Sh.prims⟩) 26 [.ptr (.own kr) 0] h) (PgQ I hb h kr (pPg s).1 (pPg s).2) := by
  have hkr := R.hi
  obtain ⟨H, hH⟩ : ∃ H, H = h.alloc ⟨[.nils, .nils, .nils, .nils, .nils, Z 0], true⟩ := ⟨_, rfl⟩
  have xH : Ext h H := by rw [hH]; exact (Ext.refl h).alloc
  have hHn : H.next = h.next + 1 := by rw [hH]; simp
  have hHb : H.get h.next = some ⟨[.nils, .nils, .nils, .nils, .nils, Z 0], true⟩ := by rw [hH]; exact AHeap.alloc_at (Nb.o rfl)
  have RH : RdS I hb H kr s := R.mono xH.lo (xH.same _ hkr) (R.ext.trans xH)
  have S : PgS I hb h H kr (fun _ => True) s [.nils, .nils, .nils, .nils, .nils, Z 0] :=
    ⟨RH, ⟨fun _ => False, It.pure fun _ => trivial, fun m hm => hm.elim⟩, fun m hm _ => xH.same m hm, by omega, hHb, hkr, R.ext⟩
  obtain ⟨g1, c1, o1, R1⟩ := rSizeG RH ok
  have hrun := rPgRun ok S o1 R1 rfl rfl rfl rfl rfl rfl
  rw [pPg_eq]
  refine f26.lim rfl (n := 3 * (pSize s).1 + 3 + mP0 (pList pTypes s).2) ?_
  unfold f26.e
  rw [hH] at c1
  have z6 : (AVal.agg [.nils, .nils, .nils, .nils, .nils, Z 0]).cells = [.nils, .nils, .nils, .nils, .nils, Z 0] := rfl
  generalize mP0 (pList pTypes s).2 = M at *
  generalize hQ : PgQ I hb h kr _ _ = Q at *
  clear hQ S R1 o1 R RH xH hH hHb
  simp (disch := first | exact D.go | fail) [setR, List.getElem?_cons_zero, List.getElem?_cons_succ, c1, z6]
  exact hrun
end
end
end Go.Proofs.YtncjcnipagdmlaaDoor.Tx

set_option linter.unusedSimpArgs false
set_option linter.unusedVariables false
namespace Go.Proofs.YtncjcnipagdmlaaDoor.Tx
noncomputable section
open Go.AM Go.Proofs.YtncjcnipagdmlaaDoor.Sf
section
variable {I : Inp} {h0 : AHeap} {α : Type}
/-! a program, written -/
/-- The state of a loop: what is written so far. -/
def WrL (hb : AHeap) (kw : Nat) (acc : List Nat) (h : AHeap) : Prop := WrAt hb h kw acc
theorem tL1 {v : AVal} {xs : List (List Ty)} (sv : SlOf 1 (At I h0 (SlC 2 (At I h0 TyC))) v xs) (hok : ∀ x ∈ xs, True) {hb : AHeap} (e0 : Ext h0 hb) {kw : Nat} {v0 : AVal} (hxl : xs.length ≤ 1048576) {out : List Nat} {Q : AVal → AHeap → Prop} {M : Nat}
    (hT : ∀ g, WrAt hb g kw out → ∀ m, M ≤ m → Res ((f24.J I (AM.lim ⟨P, I, genF P Sh.prims⟩) (m)).1.1.1.1 v0 (.ptr (.own kw) 0) g) Q) :
    ∀ (d i : Nat), i + d = xs.length → ∀ (acc : List Nat) (h : AHeap), WrAt hb h kw acc → acc ++ (xs.drop i).flatMap typesB = out → out.length ≤ 26000000 →
    ∀ N, 3 * d + 3 + M ≤ N → Res ((f24.J I (AM.lim ⟨P, I, genF P Sh.prims⟩) (N)).1.1.1.2 v0 (.ptr (.own kw) 0) v (.int .i64 (xs.length : Int)) (.int .i64 (i : Int)) h) Q := by
  intro d
  induction d with
  | zero =>
    intro i hi acc h W ho hl N hN
    obtain ⟨n, rfl⟩ : ∃ n, N = n + 1 := ⟨N - 1, by omega⟩
    rw [List.drop_eq_nil_of_le (by omega), List.flatMap_nil, List.append_nil] at ho
    have hq := hT h (by rw [← ho]; exact W) n (by omega)
    have hlt : ¬ (i : Int) < (xs.length : Int) := by omega
    have hlt' : ¬ i < xs.length := by omega
    clear hT W
    rw [f24.n1]; unfold f24.b1
    simp (disch := first | exact D.go | fail) [setR, List.getElem?_cons_zero, List.getElem?_cons_succ, hlt, hlt']
    exact hq
  | succ d ih =>
    intro i hi acc h W ho hl N hN
    obtain ⟨n, rfl⟩ : ∃ n, N = n + 3 := ⟨N - 3, by omega⟩
    have hib : i < xs.length := by omega
    have hx : xs[i]? = some xs[i] := List.getElem?_eq_getElem hib
    have hd : xs.drop i = xs[i] :: xs.drop (i + 1) := List.drop_eq_getElem_cons hib
    have hxo := hok _ (List.getElem_mem hib)
    generalize xs[i] = x at *
    rw [hd, List.flatMap_cons, ← List.append_assoc] at ho
    have hlo : (acc ++ typesB x).length + ((xs.drop (i + 1)).flatMap typesB).length ≤ 26000000 := by rw [← List.length_append, ho]; exact hl
    have hla : acc.length + (typesB x).length ≤ 26000000 := by rw [List.length_append] at hlo; omega
    obtain ⟨l, o, p1, cs, hc, cells⟩ := sv.at hx
    have hwi := wrap_in (n := (i : Int) + 1) ⟨by omega, by omega⟩
    have hlt : (i : Int) < (xs.length : Int) := by omega
    have hlt' : i < xs.length := by omega
    have eh := e0.trans W.ext
    obtain ⟨u, rfl, su⟩ := hc
    have so1 := su.one
    have so2 := su.cells
    have r1 := cells.rd0 h eh
    obtain ⟨gz, cz, Wz, _⟩ := wTypes (I := I) su e0 W (by have := typesB_ge x; omega)
    have hi2 := ih (i + 1) (by omega) _ gz Wz (by rw [← ho]) hl n (by omega)
    simp only [Int.natCast_add, Int.natCast_one] at hi2
    clear hT ih sv hok ho hlo hla hx hd hxo
    rw [f24.n1]; unfold f24.b1
    simp (disch := first | exact D.go | fail) [setR, List.getElem?_cons_zero, List.getElem?_cons_succ, hlt, hlt', f24.n2, f24.b2, f24.n3, f24.b3, hwi, p1, r1, so1, so2, cz]
    exact hi2
theorem tL5 {v : AVal} {xs : List Sg} (sv : SlOf 3 (At I h0 (SgC I h0)) v xs) (hok : ∀ x ∈ xs, True) {hb : AHeap} (e0 : Ext h0 hb) {kw : Nat} {v0 : AVal} (hxl : xs.length ≤ 1048576) {out : List Nat} {Q : AVal → AHeap → Prop} {M : Nat}
    (hT : ∀ g, WrAt hb g kw out → ∀ m, M ≤ m → Res ((f24.J I (AM.lim ⟨P, I, genF P Sh.prims⟩) (m)).1.1.2.2.2 v0 (.ptr (.own kw) 0) g) Q) :
    ∀ (d i : Nat), i + d = xs.length → ∀ (acc : List Nat) (h : AHeap), WrAt hb h kw acc → acc ++ (xs.drop i).flatMap sgB = out → out.length ≤ 26000000 →
    ∀ N, 3 * d + 3 + M ≤ N → Res ((f24.J I (AM.lim ⟨P, I, genF P Sh.prims⟩) (N)).1.2.1.1 v0 (.ptr (.own kw) 0) v (.int .i64 (xs.length : Int)) (.int .i64 (i : Int)) h) Q := by
  intro d
  induction d with
  | zero =>
    intro i hi acc h W ho hl N hN
    obtain ⟨n, rfl⟩ : ∃ n, N = n + 1 := ⟨N - 1, by omega⟩
    rw [List.drop_eq_nil_of_le (by omega), List.flatMap_nil, List.append_nil] at ho
    have hq := hT h (by rw [← ho]; exact W) n (by omega)
    have hlt : ¬ (i : Int) < (xs.length : Int) := by omega
    have hlt' : ¬ i < xs.length := by omega
    clear hT W
    rw [f24.n5]; unfold f24.b5
    simp (disch := first | exact D.go | fail) [setR, List.getElem?_cons_zero, List.getElem?_cons_succ, hlt, hlt']
    exact hq
  | succ d ih =>
    intro i hi acc h W ho hl N hN
    obtain ⟨n, rfl⟩ : ∃ n, N = n + 3 := ⟨N - 3, by omega⟩
    have hib : i < xs.length := by omega
    have hx : xs[i]? = some xs[i] := List.getElem?_eq_getElem hib
    have hd : xs.drop i = xs[i] :: xs.drop (i + 1) := List.drop_eq_getElem_cons hib
    have hxo := hok _ (List.getElem_mem hib)
    generalize xs[i] = x at *
    rw [hd, List.flatMap_cons, ← List.append_assoc] at ho
    have hlo : (acc ++ sgB x).length + ((xs.drop (i + 1)).flatMap sgB).length ≤ 26000000 := by rw [← List.length_append, ho]; exact hl
    have hla : acc.length + (sgB x).length ≤ 26000000 := by rw [List.length_append] at hlo; omega
    obtain ⟨l, o, p1, cs, hc, cells⟩ := sv.at hx
    have hwi := wrap_in (n := (i : Int) + 1) ⟨by omega, by omega⟩
    have hlt : (i : Int) < (xs.length : Int) := by omega
    have hlt' : i < xs.length := by omega
    have eh := e0.trans W.ext
    obtain ⟨u, rfl, su, k1, k2⟩ := hc
    have so1 := su.one
    have so2 := su.cells
    obtain ⟨H, hH⟩ : ∃ H, H = (h.alloc ⟨[.nils, Z 0, Z 0], true⟩).set h.next ⟨[u, .int .i64 x.res.kind, .int .i64 x.res.n], true⟩ := ⟨_, rfl⟩
    have xH : Ext h H := by rw [hH]; exact (Ext.refl h).alloc.set (Nb.o (Nat.le_refl _))
    have hHn : H.next = h.next + 1 := by rw [hH]; simp
    have hHk : H.get h.next = some ⟨[u, .int .i64 x.res.kind, .int .i64 x.res.n], true⟩ := by rw [hH]; exact AHeap.set_at (Nb.o rfl)
    have za : (h.alloc ⟨[.nils, Z 0, Z 0], true⟩).get h.next = some ⟨[.nils, Z 0, Z 0], true⟩ := AHeap.alloc_at (Nb.o rfl)
    have zc : (AVal.agg [u, .int .i64 x.res.kind, .int .i64 x.res.n]).cells = [u, .int .i64 x.res.kind, .int .i64 x.res.n] := rfl
    have zs : ((h.alloc ⟨[.nils, Z 0, Z 0], true⟩).set h.next ⟨[u, .int .i64 x.res.kind, .int .i64 x.res.n], true⟩).get h.next = some ⟨[u, .int .i64 x.res.kind, .int .i64 x.res.n], true⟩ := AHeap.set_at (Nb.o rfl)
    have pH := W.new xH (m := h.next) (Nat.le_refl _) (by omega)
    have r3 : rds I h l o 3 = some [u, .int .i64 x.res.kind, .int .i64 x.res.n] := cells.rds h eh rfl (by omega)
    have hsg : (sgB x).length = (typesB x.params).length + ((numB x.res.kind).length + (numB x.res.n).length) := by unfold sgB; simp only [List.length_append]
    obtain ⟨g1, c1, W1, K1⟩ := wTypes (I := I) su e0 (W.mono xH) (by have := typesB_ge x.params; omega)
    have a1 := K1.pv pH
    obtain ⟨g2, c2, W2, K2⟩ := wNum (I := I) k1 W1 (by rw [List.length_append]; omega)
    have a2 := K2.pv a1.2
    have q1 := a1.1.trans hHk
    have q2 := a2.1.trans q1
    obtain ⟨gz, cz, Wz, _⟩ := wNum (I := I) k2 W2 (by simp only [List.length_append]; omega)
    simp only [List.append_assoc] at Wz
    change WrAt hb gz kw (acc ++ sgB x) at Wz
    rw [hH] at c1
    have hi2 := ih (i + 1) (by omega) _ gz Wz (by rw [← ho]) hl n (by omega)
    simp only [Int.natCast_add, Int.natCast_one] at hi2
    clear hT ih sv hok ho hlo hla hx hd hxo
    rw [f24.n5]; unfold f24.b5
    simp (disch := first | exact D.go | fail) [setR, List.getElem?_cons_zero, List.getElem?_cons_succ, hlt, hlt', f24.n6, f24.b6, f24.n7, f24.b7, hwi, p1, r3, so1, so2, za, zc, zs, c1, q1, c2, q2, cz]
    exact hi2
theorem tL9 {v : AVal} {xs : List (List Int)} (sv : SlOf 1 (At I h0 (SlC 1 (IntA I h0))) v xs) (hok : ∀ x ∈ xs, x.length ≤ 1048576) {hb : AHeap} (e0 : Ext h0 hb) {kw : Nat} {v0 : AVal} (hxl : xs.length ≤ 1048576) {out : List Nat} {Q : AVal → AHeap → Prop} {M : Nat}
    (hT : ∀ g, WrAt hb g kw out → ∀ m, M ≤ m → Res ((f24.J I (AM.lim ⟨P, I, genF P Sh.prims⟩) (m)).1.2.2.2.1 v0 (.ptr (.own kw) 0) g) Q) :
    ∀ (d i : Nat), i + d = xs.length → ∀ (acc : List Nat) (h : AHeap), WrAt hb h kw acc → acc ++ (xs.drop i).flatMap numsB = out → out.length ≤ 26000000 →
    ∀ N, 3 * d + 3 + M ≤ N → Res ((f24.J I (AM.lim ⟨P, I, genF P Sh.prims⟩) (N)).1.2.2.2.2 v0 (.ptr (.own kw) 0) v (.int .i64 (xs.length : Int)) (.int .i64 (i : Int)) h) Q := by
  intro d
  induction d with
  | zero =>
    intro i hi acc h W ho hl N hN
    obtain ⟨n, rfl⟩ : ∃ n, N = n + 1 := ⟨N - 1, by omega⟩
    rw [List.drop_eq_nil_of_le (by omega), List.flatMap_nil, List.append_nil] at ho
    have hq := hT h (by rw [← ho]; exact W) n (by omega)
    have hlt : ¬ (i : Int) < (xs.length : Int) := by omega
    have hlt' : ¬ i < xs.length := by omega
    clear hT W
    rw [f24.n9]; unfold f24.b9
    simp (disch := first | exact D.go | fail) [setR, List.getElem?_cons_zero, List.getElem?_cons_succ, hlt, hlt']
    exact hq
  | succ d ih =>
    intro i hi acc h W ho hl N hN
    obtain ⟨n, rfl⟩ : ∃ n, N = n + 3 := ⟨N - 3, by omega⟩
    have hib : i < xs.length := by omega
    have hx : xs[i]? = some xs[i] := List.getElem?_eq_getElem hib
    have hd : xs.drop i = xs[i] :: xs.drop (i + 1) := List.drop_eq_getElem_cons hib
    have hxo := hok _ (List.getElem_mem hib)
    generalize xs[i] = x at *
    rw [hd, List.flatMap_cons, ← List.append_assoc] at ho
    have hlo : (acc ++ numsB x).length + ((xs.drop (i + 1)).flatMap numsB).length ≤ 26000000 := by rw [← List.length_append, ho]; exact hl
    have hla : acc.length + (numsB x).length ≤ 26000000 := by rw [List.length_append] at hlo; omega
    obtain ⟨l, o, p1, cs, hc, cells⟩ := sv.at hx
    have hwi := wrap_in (n := (i : Int) + 1) ⟨by omega, by omega⟩
    have hlt : (i : Int) < (xs.length : Int) := by omega
    have hlt' : i < xs.length := by omega
    have eh := e0.trans W.ext
    obtain ⟨u, rfl, su⟩ := hc
    have so1 := su.one
    have so2 := su.cells
    obtain ⟨H, hH⟩ : ∃ H, H = (h.alloc ⟨[.nils], true⟩).set h.next ⟨[u], true⟩ := ⟨_, rfl⟩
    have xH : Ext h H := by rw [hH]; exact (Ext.refl h).alloc.set (Nb.o (Nat.le_refl _))
    have hHn : H.next = h.next + 1 := by rw [hH]; simp
    have hHk : H.get h.next = some ⟨[u], true⟩ := by rw [hH]; exact AHeap.set_at (Nb.o rfl)
    have za : (h.alloc ⟨[.nils], true⟩).get h.next = some ⟨[.nils], true⟩ := AHeap.alloc_at (Nb.o rfl)
    have zc : (AVal.agg [u]).cells = [u] := rfl
    have zs : ((h.alloc ⟨[.nils], true⟩).set h.next ⟨[u], true⟩).get h.next = some ⟨[u], true⟩ := AHeap.set_at (Nb.o rfl)
    have pH := W.new xH (m := h.next) (Nat.le_refl _) (by omega)
    have r3 : rds I h l o 1 = some [u] := cells.rds h eh rfl (by omega)
    obtain ⟨gz, cz, Wz, _⟩ := wNums (I := I) su hxo e0 (W.mono xH) (by omega)
    rw [hH] at cz
    have hi2 := ih (i + 1) (by omega) _ gz Wz (by rw [← ho]) hl n (by omega)
    simp only [Int.natCast_add, Int.natCast_one] at hi2
    clear hT ih sv hok ho hlo hla hx hd hxo
    rw [f24.n9]; unfold f24.b9
    simp (disch := first | exact D.go | fail) [setR, List.getElem?_cons_zero, List.getElem?_cons_succ, hlt, hlt', f24.n10, f24.b10, f24.n11, f24.b11, hwi, p1, r3, so1, so2, za, zc, zs, cz]
    exact hi2
theorem tL13 {v : AVal} {xs : List Im} (sv : SlOf 3 (At I h0 (ImC I h0)) v xs) (hok : ∀ x ∈ xs, x.funcs.length ≤ 1048576) {hb : AHeap} (e0 : Ext h0 hb) {kw : Nat} {v0 : AVal} (hxl : xs.length ≤ 1048576) {out : List Nat} {Q : AVal → AHeap → Prop} {M : Nat}
    (hT : ∀ g, WrAt hb g kw out → ∀ m, M ≤ m → Res ((f24.J I (AM.lim ⟨P, I, genF P Sh.prims⟩) (m)).2.1.2.1 v0 (.ptr (.own kw) 0) g) Q) :
    ∀ (d i : Nat), i + d = xs.length → ∀ (acc : List Nat) (h : AHeap), WrAt hb h kw acc → acc ++ (xs.drop i).flatMap imB = out → out.length ≤ 26000000 →
    ∀ N, 3 * d + 3 + M ≤ N → Res ((f24.J I (AM.lim ⟨P, I, genF P Sh.prims⟩) (N)).2.1.2.2.1 v0 (.ptr (.own kw) 0) v (.int .i64 (xs.length : Int)) (.int .i64 (i : Int)) h) Q := by
  intro d
  induction d with
  | zero =>
    intro i hi acc h W ho hl N hN
    obtain ⟨n, rfl⟩ : ∃ n, N = n + 1 := ⟨N - 1, by omega⟩
    rw [List.drop_eq_nil_of_le (by omega), List.flatMap_nil, List.append_nil] at ho
    have hq := hT h (by rw [← ho]; exact W) n (by omega)
    have hlt : ¬ (i : Int) < (xs.length : Int) := by omega
    have hlt' : ¬ i < xs.length := by omega
    clear hT W
    rw [f24.n13]; unfold f24.b13
    simp (disch := first | exact D.go | fail) [setR, List.getElem?_cons_zero, List.getElem?_cons_succ, hlt, hlt']
    exact hq
  | succ d ih =>
    intro i hi acc h W ho hl N hN
    obtain ⟨n, rfl⟩ : ∃ n, N = n + 3 := ⟨N - 3, by omega⟩
    have hib : i < xs.length := by omega
    have hx : xs[i]? = some xs[i] := List.getElem?_eq_getElem hib
    have hd : xs.drop i = xs[i] :: xs.drop (i + 1) := List.drop_eq_getElem_cons hib
    have hxo := hok _ (List.getElem_mem hib)
    generalize xs[i] = x at *
    rw [hd, List.flatMap_cons, ← List.append_assoc] at ho
    have hlo : (acc ++ imB x).length + ((xs.drop (i + 1)).flatMap imB).length ≤ 26000000 := by rw [← List.length_append, ho]; exact hl
    have hla : acc.length + (imB x).length ≤ 26000000 := by rw [List.length_append] at hlo; omega
    obtain ⟨l, o, p1, cs, hc, cells⟩ := sv.at hx
    have hwi := wrap_in (n := (i : Int) + 1) ⟨by omega, by omega⟩
    have hlt : (i : Int) < (xs.length : Int) := by omega
    have hlt' : i < xs.length := by omega
    have eh := e0.trans W.ext
    obtain ⟨u, rfl, k1, k2, su⟩ := hc
    have so1 := su.one
    have so2 := su.cells
    obtain ⟨H, hH⟩ : ∃ H, H = (h.alloc ⟨[Z 0, Z 0, .nils], true⟩).set h.next ⟨[.int .i64 x.rec_, .int .i64 x.face, u], true⟩ := ⟨_, rfl⟩
    have xH : Ext h H := by rw [hH]; exact (Ext.refl h).alloc.set (Nb.o (Nat.le_refl _))
    have hHn : H.next = h.next + 1 := by rw [hH]; simp
    have hHk : H.get h.next = some ⟨[.int .i64 x.rec_, .int .i64 x.face, u], true⟩ := by rw [hH]; exact AHeap.set_at (Nb.o rfl)
    have za : (h.alloc ⟨[Z 0, Z 0, .nils], true⟩).get h.next = some ⟨[Z 0, Z 0, .nils], true⟩ := AHeap.alloc_at (Nb.o rfl)
    have zc : (AVal.agg [.int .i64 x.rec_, .int .i64 x.face, u]).cells = [.int .i64 x.rec_, .int .i64 x.face, u] := rfl
    have zs : ((h.alloc ⟨[Z 0, Z 0, .nils], true⟩).set h.next ⟨[.int .i64 x.rec_, .int .i64 x.face, u], true⟩).get h.next = some ⟨[.int .i64 x.rec_, .int .i64 x.face, u], true⟩ := AHeap.set_at (Nb.o rfl)
    have pH := W.new xH (m := h.next) (Nat.le_refl _) (by omega)
    have r3 : rds I h l o 3 = some [.int .i64 x.rec_, .int .i64 x.face, u] := cells.rds h eh rfl (by omega)
    have hsg : (imB x).length = (numB x.rec_).length + ((numB x.face).length + (numsB x.funcs).length) := by unfold imB; simp only [List.length_append]
    obtain ⟨g1, c1, W1, K1⟩ := wNum (I := I) k1 (W.mono xH) (by omega)
    have a1 := K1.pv pH
    obtain ⟨g2, c2, W2, K2⟩ := wNum (I := I) k2 W1 (by rw [List.length_append]; omega)
    have a2 := K2.pv a1.2
    have q1 := a1.1.trans hHk
    have q2 := a2.1.trans q1
    obtain ⟨gz, cz, Wz, _⟩ := wNums (I := I) su hxo e0 W2 (by simp only [List.length_append]; omega)
    simp only [List.append_assoc] at Wz
    change WrAt hb gz kw (acc ++ imB x) at Wz
    rw [hH] at c1
    have hi2 := ih (i + 1) (by omega) _ gz Wz (by rw [← ho]) hl n (by omega)
    simp only [Int.natCast_add, Int.natCast_one] at hi2
    clear hT ih sv hok ho hlo hla hx hd hxo
    rw [f24.n13]; unfold f24.b13
    simp (disch := first | exact D.go | fail) [setR, List.getElem?_cons_zero, List.getElem?_cons_succ, hlt, hlt', f24.n14, f24.b14, f24.n15, f24.b15, hwi, p1, r3, so1, so2, za, zc, zs, c1, q1, c2, q2, cz]
    exact hi2
theorem tL17 {v : AVal} {xs : List Fu} (sv : SlOf 3 (At I h0 (FuC I h0)) v xs) (hok : ∀ x ∈ xs, FuOk x) {hb : AHeap} (e0 : Ext h0 hb) {kw : Nat} {v0 : AVal} (hxl : xs.length ≤ 1048576) {out : List Nat} {Q : AVal → AHeap → Prop} {M : Nat}
    (hT : ∀ g, WrAt hb g kw out → ∀ m, M ≤ m → Res ((f24.J I (AM.lim ⟨P, I, genF P Sh.prims⟩) (m)).2.2.1.2 v0 (.ptr (.own kw) 0) g) Q) :
    ∀ (d i : Nat), i + d = xs.length → ∀ (acc : List Nat) (h : AHeap), WrAt hb h kw acc → acc ++ (xs.drop i).flatMap fuB = out → out.length ≤ 26000000 →
    ∀ N, 3 * d + 3 + M ≤ N → Res ((f24.J I (AM.lim ⟨P, I, genF P Sh.prims⟩) (N)).2.2.2.1 v0 (.ptr (.own kw) 0) v (.int .i64 (xs.length : Int)) (.int .i64 (i : Int)) h) Q := by
  intro d
  induction d with
  | zero =>
    intro i hi acc h W ho hl N hN
    obtain ⟨n, rfl⟩ : ∃ n, N = n + 1 := ⟨N - 1, by omega⟩
    rw [List.drop_eq_nil_of_le (by omega), List.flatMap_nil, List.append_nil] at ho
    have hq := hT h (by rw [← ho]; exact W) n (by omega)
    have hlt : ¬ (i : Int) < (xs.length : Int) := by omega
    have hlt' : ¬ i < xs.length := by omega
    clear hT W
    rw [f24.n17]; unfold f24.b17
    simp (disch := first | exact D.go | fail) [setR, List.getElem?_cons_zero, List.getElem?_cons_succ, hlt, hlt']
    exact hq
  | succ d ih =>
    intro i hi acc h W ho hl N hN
    obtain ⟨n, rfl⟩ : ∃ n, N = n + 3 := ⟨N - 3, by omega⟩
    have hib : i < xs.length := by omega
    have hx : xs[i]? = some xs[i] := List.getElem?_eq_getElem hib
    have hd : xs.drop i = xs[i] :: xs.drop (i + 1) := List.drop_eq_getElem_cons hib
    have hxo := hok _ (List.getElem_mem hib)
    generalize xs[i] = x at *
    rw [hd, List.flatMap_cons, ← List.append_assoc] at ho
    have hlo : (acc ++ fuB x).length + ((xs.drop (i + 1)).flatMap fuB).length ≤ 26000000 := by rw [← List.length_append, ho]; exact hl
    have hla : acc.length + (fuB x).length ≤ 26000000 := by rw [List.length_append] at hlo; omega
    obtain ⟨l, o, p1, cs, hc, cells⟩ := sv.at hx
    have hwi := wrap_in (n := (i : Int) + 1) ⟨by omega, by omega⟩
    have hlt : (i : Int) < (xs.length : Int) := by omega
    have hlt' : i < xs.length := by omega
    have eh := e0.trans W.ext
    have hF : FuC I h0 cs x := hc
    obtain ⟨u, u', rfl, k1, su, su'⟩ := hc
    have so1 := su.one
    have so2 := su.cells
    have so3 := su'.one
    have so4 := su'.cells
    obtain ⟨H, hH⟩ : ∃ H, H = (h.alloc ⟨[Z 0, .nils, .nils], true⟩).set h.next ⟨[.int .i64 x.sig, u, u'], true⟩ := ⟨_, rfl⟩
    have xH : Ext h H := by rw [hH]; exact (Ext.refl h).alloc.set (Nb.o (Nat.le_refl _))
    have hHn : H.next = h.next + 1 := by rw [hH]; simp
    have hHk : H.get h.next = some ⟨[.int .i64 x.sig, u, u'], true⟩ := by rw [hH]; exact AHeap.set_at (Nb.o rfl)
    have za : (h.alloc ⟨[Z 0, .nils, .nils], true⟩).get h.next = some ⟨[Z 0, .nils, .nils], true⟩ := AHeap.alloc_at (Nb.o rfl)
    have zc : (AVal.agg [.int .i64 x.sig, u, u']).cells = [.int .i64 x.sig, u, u'] := rfl
    have zs : ((h.alloc ⟨[Z 0, .nils, .nils], true⟩).set h.next ⟨[.int .i64 x.sig, u, u'], true⟩).get h.next = some ⟨[.int .i64 x.sig, u, u'], true⟩ := AHeap.set_at (Nb.o rfl)
    have pH := W.new xH (m := h.next) (Nat.le_refl _) (by omega)
    have r3 : rds I h l o 3 = some [.int .i64 x.sig, u, u'] := cells.rds h eh rfl (by omega)
    obtain ⟨gz, cz, Wz, _⟩ := wFn (I := I) hF hxo e0 (W.mono xH) (by omega)
    rw [hH] at cz
    have hi2 := ih (i + 1) (by omega) _ gz Wz (by rw [← ho]) hl n (by omega)
    simp only [Int.natCast_add, Int.natCast_one] at hi2
    clear hT ih sv hok ho hlo hla hx hd hxo
    rw [f24.n17]; unfold f24.b17
    simp (disch := first | exact D.go | fail) [setR, List.getElem?_cons_zero, List.getElem?_cons_succ, hlt, hlt', f24.n18, f24.b18, f24.n19, f24.b19, hwi, p1, r3, so1, so2, so3, so4, za, zc, zs, cz]
    exact hi2
end
end
end Go.Proofs.YtncjcnipagdmlaaDoor.Tx

set_option linter.unusedSimpArgs false
set_option linter.unusedVariables false
namespace Go.Proofs.YtncjcnipagdmlaaDoor.Tx
noncomputable section
open Go.AM Go.Proofs.YtncjcnipagdmlaaDoor.Sf
section
variable {I : Inp} {h0 : AHeap} {α : Type}
/-! a program, written -/
def oB1 (q : Pg) : List Nat := numB q.recs.length ++ q.recs.flatMap typesB
def oB2 (q : Pg) : List Nat := (oB1 q ++ numB q.sigs.length) ++ q.sigs.flatMap sgB
def oB3 (q : Pg) : List Nat := (oB2 q ++ numB q.faces.length) ++ q.faces.flatMap numsB
def oB4 (q : Pg) : List Nat := (oB3 q ++ numB q.impls.length) ++ q.impls.flatMap imB
def oB5 (q : Pg) : List Nat := (oB4 q ++ numB q.funcs.length) ++ q.funcs.flatMap fuB
theorem oB_all (q : Pg) : pgB q = oB5 q ++ numB q.main := by
  unfold pgB oB5 oB4 oB3 oB2 oB1
  simp only [List.append_assoc]
/-- A program that came in or was made, its parts at hand. -/
structure PgV (I : Inp) (h0 : AHeap) (l : AM.Loc) (o : Nat) (q : Pg) (v1 v2 v3 v4 v5 : AVal) : Prop where
  cells : Cells I h0 l o [v1, v2, v3, v4, v5, .int .i64 q.main]
  s1 : SlOf 1 (At I h0 (SlC 2 (At I h0 TyC))) v1 q.recs
  s2 : SlOf 3 (At I h0 (SgC I h0)) v2 q.sigs
  s3 : SlOf 1 (At I h0 (SlC 1 (IntA I h0))) v3 q.faces
  s4 : SlOf 3 (At I h0 (ImC I h0)) v4 q.impls
  s5 : SlOf 3 (At I h0 (FuC I h0)) v5 q.funcs
  ok : PgR q
  len : (pgB q).length ≤ 25000000
theorem fuOk_of {f : Fu} (h : FuR f) : FuOk f := fun b hb => ⟨(h.2.2.2 b hb).1.1, fun i hi => ((h.2.2.2 b hb).1.2 i hi).2.2.2.2.2.1⟩
def TxQ (hb : AHeap) (q : Pg) : AVal → AHeap → Prop := fun u g => Own byF 1 hb g u (pgB q) ∧ Ext hb g
theorem tT16 {l : AM.Loc} {o : Nat} {q : Pg} {v1 v2 v3 v4 v5 : AVal} (V : PgV I h0 l o q v1 v2 v3 v4 v5) {hb g : AHeap} {kw : Nat} (e0 : Ext h0 hb) (W : WrAt hb g kw (oB5 q)) : ∀ m, 2 ≤ m → Res ((f24.J I (AM.lim ⟨P, I, genF P Sh.prims⟩) (m)).2.2.1.2 (.ptr l o) (.ptr (.own kw) 0) g) (TxQ hb q) := by
  intro m hm
  obtain ⟨n, rfl⟩ : ∃ n, m = n + 1 := ⟨m - 1, by omega⟩
  have ha := congrArg List.length (oB_all q)
  rw [List.length_append] at ha
  have hl := V.len
  have r5 := V.cells.rd5 g (e0.trans W.ext)
  obtain ⟨g1, c1, W1, _⟩ := wNum (I := I) V.ok.2.2.2.2.2 W (by omega)
  obtain ⟨w, hw, ow, _⟩ := W1.at_
  rw [← oB_all] at ow
  have hq : TxQ hb q w g1 := ⟨ow, W1.ext⟩
  generalize TxQ hb q = Q at *
  clear W W1 ow V
  rw [f24.n16]; unfold f24.b16
  simp (disch := first | exact D.go | fail) [setR, List.getElem?_cons_zero, List.getElem?_cons_succ, r5, c1, hw]
  exact hq
def mT12 (q : Pg) : Nat := 3 * q.funcs.length + 5 + 2
theorem tT12 {l : AM.Loc} {o : Nat} {q : Pg} {v1 v2 v3 v4 v5 : AVal} (V : PgV I h0 l o q v1 v2 v3 v4 v5) {hb g : AHeap} {kw : Nat} (e0 : Ext h0 hb) (W : WrAt hb g kw (oB4 q)) : ∀ m, mT12 q ≤ m → Res ((f24.J I (AM.lim ⟨P, I, genF P Sh.prims⟩) (m)).2.1.2.1 (.ptr l o) (.ptr (.own kw) 0) g) (TxQ hb q) := by
  intro m hm
  unfold mT12 at hm
  obtain ⟨n, rfl⟩ : ∃ n, m = n + 1 := ⟨m - 1, by omega⟩
  have hl := V.len
  have hle : (oB5 q).length ≤ (pgB q).length := by
    rw [oB_all]; simp only [List.length_append]; omega
  have hle' : (oB4 q).length ≤ (oB5 q).length := by
    unfold oB5; simp only [List.length_append]; omega
  have hxl := V.ok.2.2.2.2.1.1
  obtain ⟨g1, c1, W1, _⟩ := wNum (I := I) (n := (q.funcs.length : Int)) ⟨by omega, by omega⟩ W (by omega)
  have ra := V.cells.rd4 g (e0.trans W.ext)
  have rb := V.cells.rd4 g1 (e0.trans W1.ext)
  have ln := V.s5.len
  have hrun : Res ((f24.J I (AM.lim ⟨P, I, genF P Sh.prims⟩) (n)).2.2.2.1 (.ptr l o) (.ptr (.own kw) 0) v5 (.int .i64 (q.funcs.length : Int)) (.int .i64 ((0 : Nat) : Int)) g1) (TxQ hb q) :=
    tL17 (I := I) V.s5 (fun x hx => fuOk_of (V.ok.2.2.2.2.1.2 x hx)) e0 hxl (out := oB5 q) (M := 2) (fun g W m hm => tT16 V e0 W m hm) q.funcs.length 0 (by omega) _ g1 W1 (by rw [List.drop_zero]; rfl) (by omega) n (by omega)
  have so1 := V.s5.one
  have so2 := V.s5.cells
  generalize TxQ hb q = Q at *
  clear W W1 V hle hle' hxl
  rw [f24.n12]; unfold f24.b12
  simp (disch := first | exact D.go | fail) [setR, List.getElem?_cons_zero, List.getElem?_cons_succ, ra, rb, ln, c1, so1, so2]
  exact hrun
def mT8 (q : Pg) : Nat := 3 * q.impls.length + 5 + mT12 q
theorem tT8 {l : AM.Loc} {o : Nat} {q : Pg} {v1 v2 v3 v4 v5 : AVal} (V : PgV I h0 l o q v1 v2 v3 v4 v5) {hb g : AHeap} {kw : Nat} (e0 : Ext h0 hb) (W : WrAt hb g kw (oB3 q)) : ∀ m, mT8 q ≤ m → Res ((f24.J I (AM.lim ⟨P, I, genF P Sh.prims⟩) (m)).1.2.2.2.1 (.ptr l o) (.ptr (.own kw) 0) g) (TxQ hb q) := by
  intro m hm
  unfold mT8 at hm
  obtain ⟨n, rfl⟩ : ∃ n, m = n + 1 := ⟨m - 1, by omega⟩
  have hl := V.len
  have hle : (oB4 q).length ≤ (pgB q).length := by
    rw [oB_all]; unfold oB5; simp only [List.length_append]; omega
  have hle' : (oB3 q).length ≤ (oB4 q).length := by
    unfold oB4; simp only [List.length_append]; omega
  have hxl := V.ok.2.2.2.1.1
  obtain ⟨g1, c1, W1, _⟩ := wNum (I := I) (n := (q.impls.length : Int)) ⟨by omega, by omega⟩ W (by omega)
  have ra := V.cells.rd3 g (e0.trans W.ext)
  have rb := V.cells.rd3 g1 (e0.trans W1.ext)
  have ln := V.s4.len
  have hrun : Res ((f24.J I (AM.lim ⟨P, I, genF P Sh.prims⟩) (n)).2.1.2.2.1 (.ptr l o) (.ptr (.own kw) 0) v4 (.int .i64 (q.impls.length : Int)) (.int .i64 ((0 : Nat) : Int)) g1) (TxQ hb q) :=
    tL13 (I := I) V.s4 (fun x hx => (V.ok.2.2.2.1.2 x hx).2.2.1) e0 hxl (out := oB4 q) (M := mT12 q) (fun g W m hm => tT12 V e0 W m hm) q.impls.length 0 (by omega) _ g1 W1 (by rw [List.drop_zero]; rfl) (by omega) n (by omega)
  have so1 := V.s4.one
  have so2 := V.s4.cells
  generalize TxQ hb q = Q at *
  clear W W1 V hle hle' hxl
  rw [f24.n8]; unfold f24.b8
  simp (disch := first | exact D.go | fail) [setR, List.getElem?_cons_zero, List.getElem?_cons_succ, ra, rb, ln, c1, so1, so2]
  exact hrun
def mT4 (q : Pg) : Nat := 3 * q.faces.length + 5 + mT8 q
theorem tT4 {l : AM.Loc} {o : Nat} {q : Pg} {v1 v2 v3 v4 v5 : AVal} (V : PgV I h0 l o q v1 v2 v3 v4 v5) {hb g : AHeap} {kw : Nat} (e0 : Ext h0 hb) (W : WrAt hb g kw (oB2 q)) : ∀ m, mT4 q ≤ m → Res ((f24.J I (AM.lim ⟨P, I, genF P Sh.prims⟩) (m)).1.1.2.2.2 (.ptr l o) (.ptr (.own kw) 0) g) (TxQ hb q) := by
  intro m hm
  unfold mT4 at hm
  obtain ⟨n, rfl⟩ : ∃ n, m = n + 1 := ⟨m - 1, by omega⟩
  have hl := V.len
  have hle : (oB3 q).length ≤ (pgB q).length := by
    rw [oB_all]; unfold oB5; unfold oB4; simp only [List.length_append]; omega
  have hle' : (oB2 q).length ≤ (oB3 q).length := by
    unfold oB3; simp only [List.length_append]; omega
  have hxl := V.ok.2.2.1.1
  obtain ⟨g1, c1, W1, _⟩ := wNum (I := I) (n := (q.faces.length : Int)) ⟨by omega, by omega⟩ W (by omega)
  have ra := V.cells.rd2 g (e0.trans W.ext)
  have rb := V.cells.rd2 g1 (e0.trans W1.ext)
  have ln := V.s3.len
  have hrun : Res ((f24.J I (AM.lim ⟨P, I, genF P Sh.prims⟩) (n)).1.2.2.2.2 (.ptr l o) (.ptr (.own kw) 0) v3 (.int .i64 (q.faces.length : Int)) (.int .i64 ((0 : Nat) : Int)) g1) (TxQ hb q) :=
    tL9 (I := I) V.s3 (fun x hx => (V.ok.2.2.1.2 x hx).1) e0 hxl (out := oB3 q) (M := mT8 q) (fun g W m hm => tT8 V e0 W m hm) q.faces.length 0 (by omega) _ g1 W1 (by rw [List.drop_zero]; rfl) (by omega) n (by omega)
  have so1 := V.s3.one
  have so2 := V.s3.cells
  generalize TxQ hb q = Q at *
  clear W W1 V hle hle' hxl
  rw [f24.n4]; unfold f24.b4
  simp (disch := first | exact D.go | fail) [setR, List.getElem?_cons_zero, List.getElem?_cons_succ, ra, rb, ln, c1, so1, so2]
  exact hrun
def mT0 (q : Pg) : Nat := 3 * q.sigs.length + 5 + mT4 q
theorem tT0 {l : AM.Loc} {o : Nat} {q : Pg} {v1 v2 v3 v4 v5 : AVal} (V : PgV I h0 l o q v1 v2 v3 v4 v5) {hb g : AHeap} {kw : Nat} (e0 : Ext h0 hb) (W : WrAt hb g kw (oB1 q)) : ∀ m, mT0 q ≤ m → Res ((f24.J I (AM.lim ⟨P, I, genF P Sh.prims⟩) (m)).1.1.1.1 (.ptr l o) (.ptr (.own kw) 0) g) (TxQ hb q) := by
  intro m hm
  unfold mT0 at hm
  obtain ⟨n, rfl⟩ : ∃ n, m = n + 1 := ⟨m - 1, by omega⟩
  have hl := V.len
  have hle : (oB2 q).length ≤ (pgB q).length := by
    rw [oB_all]; unfold oB5; unfold oB4; unfold oB3; simp only [List.length_append]; omega
  have hle' : (oB1 q).length ≤ (oB2 q).length := by
    unfold oB2; simp only [List.length_append]; omega
  have hxl := V.ok.2.1.1
  obtain ⟨g1, c1, W1, _⟩ := wNum (I := I) (n := (q.sigs.length : Int)) ⟨by omega, by omega⟩ W (by omega)
  have ra := V.cells.rd1 g (e0.trans W.ext)
  have rb := V.cells.rd1 g1 (e0.trans W1.ext)
  have ln := V.s2.len
  have hrun : Res ((f24.J I (AM.lim ⟨P, I, genF P Sh.prims⟩) (n)).1.2.1.1 (.ptr l o) (.ptr (.own kw) 0) v2 (.int .i64 (q.sigs.length : Int)) (.int .i64 ((0 : Nat) : Int)) g1) (TxQ hb q) :=
    tL5 (I := I) V.s2 (fun _ _ => trivial) e0 hxl (out := oB2 q) (M := mT4 q) (fun g W m hm => tT4 V e0 W m hm) q.sigs.length 0 (by omega) _ g1 W1 (by rw [List.drop_zero]; rfl) (by omega) n (by omega)
  have so1 := V.s2.one
  have so2 := V.s2.cells
  generalize TxQ hb q = Q at *
  clear W W1 V hle hle' hxl
  rw [f24.n0]; unfold f24.b0
  simp (disch := first | exact D.go | fail) [setR, List.getElem?_cons_zero, List.getElem?_cons_succ, ra, rb, ln, c1, so1, so2]
  exact hrun
/-- A program is written. -/
theorem tTextG {l : AM.Loc} {o : Nat} {q : Pg} (hq : PgA I h0 l o q) (ok : PgR q) (len : (pgB q).length ≤ 25000000) (hb : AHeap) (e0 : Ext h0 hb) : Res ((AM.lim ⟨P, I, genF P Sh.prims⟩) 24 [.ptr l o] hb) (TxQ hb q) := by
  obtain ⟨cs, ⟨v1, v2, v3, v4, v5, rfl, _, s1, s2, s3, s4, s5⟩, cells⟩ := hq
  have V : PgV I h0 l o q v1 v2 v3 v4 v5 := ⟨cells, s1, s2, s3, s4, s5, ok, len⟩
  obtain ⟨H, hH⟩ : ∃ H, H = hb.alloc ⟨[.nils], true⟩ := ⟨_, rfl⟩
  have xH : Ext hb H := by rw [hH]; exact (Ext.refl hb).alloc
  have hHn : H.next = hb.next + 1 := by rw [hH]; simp
  have hHk : H.get hb.next = some ⟨[.nils], true⟩ := by rw [hH]; exact AHeap.alloc_at (Nb.o rfl)
  have W0 : WrAt hb H hb.next [] := ⟨Nat.le_refl _, by omega, xH, .nils, hHk, Own.nil, fun k o n c e => by cases e⟩
  have hxl := ok.1.1
  have hle : (oB1 q).length ≤ (pgB q).length := by
    rw [oB_all]; unfold oB5 oB4 oB3 oB2; simp only [List.length_append]; omega
  obtain ⟨g1, c1, W1, _⟩ := wNum (I := I) (n := (q.recs.length : Int)) ⟨by omega, by omega⟩ W0 (by simp)
  have ra := cells.rd0 H (e0.trans xH)
  have rb := cells.rd0 g1 (e0.trans W1.ext)
  have ln := s1.len
  rw [List.nil_append] at W1
  have hrun : Res ((f24.J I (AM.lim ⟨P, I, genF P Sh.prims⟩) (3 * q.recs.length + 3 + mT0 q)).1.1.1.2 (.ptr l o) (.ptr (.own hb.next) 0) v1 (.int .i64 (q.recs.length : Int)) (.int .i64 ((0 : Nat) : Int)) g1) (TxQ hb q) :=
    tL1 (I := I) s1 (fun _ _ => trivial) e0 hxl (out := oB1 q) (M := mT0 q) (fun g W m hm => tT0 V e0 W m hm) q.recs.length 0 (by omega) _ g1 W1 (by rw [List.drop_zero]; rfl) (by omega) _ (Nat.le_refl _)
  have so1 := s1.one
  have so2 := s1.cells
  have z1 : (AVal.agg [.nils]).cells = [.nils] := rfl
  refine f24.lim rfl (n := 3 * q.recs.length + 3 + mT0 q) ?_
  unfold f24.e
  rw [hH] at c1 ra
  generalize mT0 q = M at *
  generalize TxQ hb q = Q at *
  clear W0 W1 V hle hxl hH xH hHk s1 s2 s3 s4 s5 cells ok len
  simp (disch := first | exact D.go | fail) [setR, List.getElem?_cons_zero, List.getElem?_cons_succ, ra, rb, ln, c1, so1, so2, z1]
  exact hrun
end
end
end Go.Proofs.YtncjcnipagdmlaaDoor.Tx

set_option linter.unusedSimpArgs false
set_option linter.unusedVariables false
namespace Go.Proofs.YtncjcnipagdmlaaDoor.Tx
noncomputable section
open Go.AM Go.Proofs.YtncjcnipagdmlaaDoor.Sf
section
variable {I : Inp} {h0 : AHeap}
/-! Encode and Decode of any program -/
theorem natsEq_iff {a b : List Nat} : natsEq a b = true ↔ a = b := ⟨natsEq_eq, fun h => by rw [h]; exact natsEq_self b⟩
theorem tyB_lt (t : Ty) : ∀ x ∈ tyB t, x < 256 := by
  intro x hx
  unfold tyB at hx
  rcases List.mem_append.1 hx with h | h <;> exact varint_lt _ x h
theorem flat_lt {α : Type} {f : α → List Nat} (hf : ∀ a, ∀ x ∈ f a, x < 256) (xs : List α) (n : Int) : ∀ x ∈ numB n ++ xs.flatMap f, x < 256 := by
  intro x hx
  rcases List.mem_append.1 hx with h | h
  · exact varint_lt _ x h
  · obtain ⟨a, _, ha⟩ := List.mem_flatMap.1 h
    exact hf a x ha
theorem app_lt {a b : List Nat} (ha : ∀ x ∈ a, x < 256) (hb : ∀ x ∈ b, x < 256) : ∀ x ∈ a ++ b, x < 256 := fun x hx => by
  rcases List.mem_append.1 hx with h | h
  · exact ha x h
  · exact hb x h
theorem numB_lt (n : Int) : ∀ x ∈ numB n, x < 256 := varint_lt _
theorem typesB_lt (xs : List Ty) : ∀ x ∈ typesB xs, x < 256 := flat_lt tyB_lt xs _
theorem insB_lt (i : Ins) : ∀ x ∈ insB i, x < 256 :=
  app_lt (numB_lt _) (app_lt (numB_lt _) (app_lt (numB_lt _) (app_lt (numB_lt _) (app_lt (numB_lt _) (numsB_lt _)))))
theorem blkB_lt (b : Bk) : ∀ x ∈ blkB b, x < 256 := by
  have h := app_lt (flat_lt insB_lt b.code b.code.length) (app_lt (numB_lt b.fin) (app_lt (numB_lt b.reg) (app_lt (numB_lt b.to) (numB_lt b.els))))
  unfold blkB
  rw [List.append_assoc] at h
  exact h
theorem fuB_lt (f : Fu) : ∀ x ∈ fuB f, x < 256 := app_lt (numB_lt _) (app_lt (typesB_lt _) (flat_lt blkB_lt _ _))
theorem sgB_lt (s : Sg) : ∀ x ∈ sgB s, x < 256 := app_lt (typesB_lt _) (app_lt (numB_lt _) (numB_lt _))
theorem imB_lt (m : Im) : ∀ x ∈ imB m, x < 256 := app_lt (numB_lt _) (app_lt (numB_lt _) (numsB_lt _))
theorem pgB_lt (q : Pg) : ∀ x ∈ pgB q, x < 256 := by
  have h := app_lt (flat_lt typesB_lt q.recs q.recs.length) (app_lt (flat_lt sgB_lt q.sigs q.sigs.length) (app_lt (flat_lt numsB_lt q.faces q.faces.length) (app_lt (flat_lt imB_lt q.impls q.impls.length) (app_lt (flat_lt fuB_lt q.funcs q.funcs.length) (numB_lt q.main)))))
  unfold pgB
  simp only [List.append_assoc] at h
  exact h
theorem pgB_ne (q : Pg) : pgB q ≠ [] := fun e => by
  have := pePg.one q
  rw [e] at this
  simp at this
/-- Whether bytes are a program's. -/
def IsPg (bs : List Nat) (q : Pg) : Prop := pPg (some bs) = (q, some []) ∧ pgB q = bs
def DecQ (I : Inp) (hb : AHeap) (bs : List Nat) : AVal → AHeap → Prop := fun u g => Ext hb g ∧
  ((∃ kp q, u = .tuple [.ptr (.own kp) 0, .nili] ∧ PgA I g (.own kp) 0 q ∧ PgR q ∧ IsPg bs q) ∨ (∃ e, u = .tuple [.nilp, e] ∧ Refd g e ∧ ∀ q, ¬ IsPg bs q))
theorem tEqual {u v : AVal} {g : AHeap} {a b : List Nat} (s1 : pToStr I u g = some (.str a)) (s2 : pToStr I v g = some (.str b)) : (AM.lim ⟨P, I, genF P Sh.prims⟩) 27 [u, v] g = some (.bool (natsEq a b), g) := by
  refine Res.eq (f27.lim rfl (n := 1) ?_)
  unfold f27.e
  have hst : pBin .eql (.str a) (.str b) = some (.bool (natsEq a b)) := nrfl
  generalize natsEq a b = c at *
  simp (disch := first | exact D.go | fail) [setR, List.getElem?_cons_zero, List.getElem?_cons_succ, s1, s2, hst]
theorem tDecodeG {hb : AHeap} {v : AVal} {bs : List Nat} (bv : ByS I hb v bs) (hby : ∀ x ∈ bs, x < 256) (hl : bs.length ≤ 20000) : Res ((AM.lim ⟨P, I, genF P Sh.prims⟩) 15 [v] hb) (DecQ I hb bs) := by
  obtain ⟨H, hH⟩ : ∃ H, H = hb.alloc ⟨[v, .bool false], true⟩ := ⟨_, rfl⟩
  have xH : Ext hb H := by rw [hH]; exact (Ext.refl hb).alloc
  have hHn : H.next = hb.next + 1 := by rw [hH]; simp
  have hHk : H.get hb.next = some ⟨[v, .bool false], true⟩ := by rw [hH]; exact AHeap.alloc_at (Nb.o rfl)
  have R : RdS I hb H hb.next (some bs) := ⟨Nat.le_refl _, by omega, xH, v, hHk, bv⟩
  have ok : RdOk (some bs) := fun b e => by cases e; exact ⟨hby, by omega⟩
  obtain ⟨_, g1, c1, rfl, pa, R1, K1⟩ := rPgG R ok
  obtain ⟨pr, _, pl⟩ := pePg.fits (some bs) ok
  obtain ⟨b1, q1, bb1⟩ := R1.at_
  have lv := bv.len
  have n0 : ¬ (20000 : Int) < (bs.length : Int) := by omega
  have n1 : ¬ 20000 < bs.length := by omega
  have o1 := bv.one
  have c1' : (AM.lim ⟨P, I, genF P Sh.prims⟩) 26 [.ptr (.own hb.next) 0] (hb.alloc ⟨[v, .bool false], true⟩) = some (.ptr (.own H.next) 0, g1) := by rw [← hH]; exact c1
  obtain ⟨e, g3, c3, rf, x3⟩ := tRefused (I := I) g1
  have hbad : (∀ q, ¬ IsPg bs q) → DecQ I hb bs (.tuple [.nilp, e]) g3 := fun h => ⟨R1.ext.trans x3, .inr ⟨e, rfl, rf, h⟩⟩
  have hpq : pPg (some bs) = ((pPg (some bs)).1, (pPg (some bs)).2) := rfl
  unfold IsPg at hbad
  cases hs : (pPg (some bs)).2 with
  | none =>
    rw [hs] at q1
    simp only [Option.isNone_none] at q1
    have hq := hbad fun q hq => by rw [hq.1] at hs; cases hs
    refine f15.lim rfl (n := 3) ?_
    unfold f15.e
    generalize DecQ I hb bs = Q at *
    generalize ((bs.length : Nat) : Int) = L at *
    generalize H.next = kp at *
    clear R R1 K1 hH xH hHk bv pa pr pl hbad ok rf
    simp (disch := first | exact D.go | fail) [setR, List.getElem?_cons_zero, List.getElem?_cons_succ, f15.n0, f15.b0, lv, n0, c1', q1, c3, o1.1, o1.2]
    exact hq
  | some t =>
    rw [hs] at q1 bb1
    simp only [Option.isNone_some] at q1
    simp only [Option.getD_some] at bb1
    have lb1 := bb1.len
    by_cases ht : t = []
    · subst ht
      have hne : bs ≠ [] := fun e => by
        subst e
        rw [pPg_eq] at hs
        have : pPg (some []) = pPg (some []) := rfl
        revert hs
        simp [pList, pSize, pNum, vP, pRep_none, pRep_zero, pRep]
      have ha : (pgB (pPg (some bs)).1).length ≤ 25000000 := by
        rw [hs] at pl
        rw [if_neg (by simp)] at pl
        simp only [Rd.left] at pl
        omega
      obtain ⟨u2, g2, c2, o2, x2⟩ := tTextG (I := I) pa pr ha g1 (Ext.refl g1)
      have s1 := toStr_by (I := I) (own_by (I := I) o2 (pgB_lt _) (by omega)) (pgB_ne _) g2 (Ext.refl g2)
      have s2 := toStr_by (I := I) bv hne g2 (R1.ext.trans x2)
      have ceq := tEqual s1 s2
      obtain ⟨e', g4, c4, rf', x4⟩ := tRefused (I := I) g2
      simp only [List.length_nil, Int.natCast_zero] at lb1
      by_cases hx : pgB (pPg (some bs)).1 = bs
      · have hq : DecQ I hb bs (.tuple [.ptr (.own H.next) 0, .nili]) g2 := by
          exact ⟨R1.ext.trans x2, .inl ⟨H.next, _, rfl, PgA.mono pa x2, pr, by rw [hpq, hs], hx⟩⟩
        rw [natsEq_iff.2 hx] at ceq
        refine f15.lim rfl (n := 3) ?_
        unfold f15.e
        generalize DecQ I hb bs = Q at *
        generalize ((bs.length : Nat) : Int) = L at *
        generalize H.next = kp at *
        clear R R1 K1 hH xH hHk bv pa pr pl hbad ok rf rf' s1 s2 o2 hx
        simp (disch := first | exact D.go | fail) [setR, List.getElem?_cons_zero, List.getElem?_cons_succ, f15.n0, f15.b0, f15.n1, f15.b1, lv, n0, c1', q1, lb1, c2, ceq, o1.1, o1.2]
        exact hq
      · have hq : DecQ I hb bs (.tuple [.nilp, e']) g4 := ⟨(R1.ext.trans x2).trans x4, .inr ⟨e', rfl, rf', fun q hq => hx (by rw [hq.1]; exact hq.2)⟩⟩
        have hf : natsEq (pgB (pPg (some bs)).1) bs = false := by
          cases hh : natsEq (pgB (pPg (some bs)).1) bs with
          | false => rfl
          | true => exact absurd (natsEq_iff.1 hh) hx
        rw [hf] at ceq
        refine f15.lim rfl (n := 3) ?_
        unfold f15.e
        generalize DecQ I hb bs = Q at *
        generalize ((bs.length : Nat) : Int) = L at *
        generalize H.next = kp at *
        clear R R1 K1 hH xH hHk bv pa pr pl hbad ok rf rf' s1 s2 o2 hx
        simp (disch := first | exact D.go | fail) [setR, List.getElem?_cons_zero, List.getElem?_cons_succ, f15.n0, f15.b0, f15.n1, f15.b1, lv, n0, c1', q1, lb1, c2, ceq, c4, o1.1, o1.2]
        exact hq
    · have hq := hbad fun q hq => ht (by rw [hq.1] at hs; cases hs; rfl)
      have hp : (0 : Int) < (t.length : Int) := by have := List.length_pos_iff.2 ht; omega
      refine f15.lim rfl (n := 3) ?_
      unfold f15.e
      generalize DecQ I hb bs = Q at *
      generalize ((bs.length : Nat) : Int) = L at *
      generalize ((t.length : Nat) : Int) = L2 at *
      generalize H.next = kp at *
      clear R R1 K1 hH xH hHk bv pa pr pl hbad ok rf
      simp (disch := first | exact D.go | fail) [setR, List.getElem?_cons_zero, List.getElem?_cons_succ, f15.n0, f15.b0, lv, n0, c1', q1, lb1, hp, c3, o1.1, o1.2]
      exact hq
end
end
end Go.Proofs.YtncjcnipagdmlaaDoor.Tx

set_option linter.unusedSimpArgs false
set_option linter.unusedVariables false
namespace Go.Proofs.YtncjcnipagdmlaaDoor.Tx
noncomputable section
open Go.AM Go.Proofs.YtncjcnipagdmlaaDoor.Sf
section
variable {I : Inp} {h0 : AHeap} {α : Type}
/-! the reference's bytes of a program: its lists -/
/-- What is appended, and what is kept. -/
theorem by_app {hb h g1 : AHeap} {acc bs : List Nat} {w u1 : AVal} (hw : Own byF 1 hb h w acc) (e : Ext hb h) (x1 : Ext h g1) (A1 : Own byF 1 h g1 u1 bs) (hl : acc.length + bs.length ≤ 19000000000) :
    ∃ u2 g2, sAppend I 1 1 w u1 g1 = some (u2, g2) ∧ Own byF 1 hb g2 u2 (acc ++ bs) ∧ Ext hb g2 ∧ ∀ m, NotB w m → m < h.next → g1.get m = h.get m ∧ g2.get m = h.get m ∧ NotB u2 m ∧ m < g2.next := by
  obtain ⟨u2, g2, c2, A2, x2, hk⟩ := app_own_all (I := I) byFix (bytes := 1) (hw.mono x1) (e.trans x1) (A1.src byFix) (by omega) (by omega)
  refine ⟨u2, g2, c2, A2, x2, fun m hm hml => ?_⟩
  have hml1 : m < g1.next := by have := x1.lo; omega
  obtain ⟨k1, k2⟩ := hk.2 m hm hml1
  exact ⟨x1.same m hml, k1.trans (x1.same m hml), k2, by have := hk.1; omega⟩
theorem AVal.self_of {sz : Nat} {R : AM.Loc → Nat → α → Prop} {v : AVal} {xs : List α} (s : SlOf sz R v xs) : v.eqb v = true := s.self
theorem eL1 {l : AM.Loc} {o : Nat} {q : Pg} {v1 v2 v3 v4 v5 : AVal} (V : PgV I h0 l o q v1 v2 v3 v4 v5) (hok : ∀ x ∈ q.recs, AllOk TyR x) {hb : AHeap} (e0 : Ext h0 hb) (hxl : q.recs.length ≤ 1048576) {out : List Nat} {Q : AVal → AHeap → Prop} {M : Nat}
    (hT : ∀ w g, Own byF 1 hb g w out → Ext hb g → ∀ m, M ≤ m → Res ((f12.J I (AM.lim ⟨P, I, genF P Sh.prims⟩) (m)).1.1.1.1 (.ptr l o) w g) Q) :
    ∀ (d i : Nat), i + d = q.recs.length → ∀ (acc : List Nat) (w : AVal) (h : AHeap), Own byF 1 hb h w acc → Ext hb h → acc ++ (q.recs.drop i).flatMap typesB = out → out.length ≤ 26000000 →
    ∀ N, 3 * d + 3 + M ≤ N → Res ((f12.J I (AM.lim ⟨P, I, genF P Sh.prims⟩) (N)).1.1.1.2 (.ptr l o) w (.int .i64 (i : Int)) h) Q := by
  intro d
  induction d with
  | zero =>
    intro i hi acc w h W E ho hl N hN
    obtain ⟨n, rfl⟩ : ∃ n, N = n + 1 := ⟨N - 1, by omega⟩
    rw [List.drop_eq_nil_of_le (by omega), List.flatMap_nil, List.append_nil] at ho
    have hq := hT w h (by rw [← ho]; exact W) E n (by omega)
    have hlt : ¬ (i : Int) < (q.recs.length : Int) := by omega
    have hlt' : ¬ i < q.recs.length := by omega
    have rv := V.cells.rd0 h (e0.trans E)
    have ln := V.s1.len
    have sv1 := V.s1.one
    have sv2 := V.s1.cells
    clear hT W V
    rw [f12.n1]; unfold f12.b1
    simp (disch := first | exact D.go | fail) [setR, List.getElem?_cons_zero, List.getElem?_cons_succ, rv, ln, sv1, sv2, hlt, hlt']
    exact hq
  | succ d ih =>
    intro i hi acc w h W E ho hl N hN
    obtain ⟨n, rfl⟩ : ∃ n, N = n + 3 := ⟨N - 3, by omega⟩
    have hib : i < q.recs.length := by omega
    have hx : q.recs[i]? = some q.recs[i] := List.getElem?_eq_getElem hib
    have hd : q.recs.drop i = q.recs[i] :: q.recs.drop (i + 1) := List.drop_eq_getElem_cons hib
    have hxo := hok _ (List.getElem_mem hib)
    generalize q.recs[i] = x at *
    rw [hd, List.flatMap_cons, ← List.append_assoc] at ho
    have hlo : (acc ++ typesB x).length + ((q.recs.drop (i + 1)).flatMap typesB).length ≤ 26000000 := by rw [← List.length_append, ho]; exact hl
    have hla : acc.length + (typesB x).length ≤ 26000000 := by rw [List.length_append] at hlo; omega
    obtain ⟨lx, ox, p1, cs, hc, cells⟩ := V.s1.at hx
    have hwi := wrap_in (n := (i : Int) + 1) ⟨by omega, by omega⟩
    have hlt : (i : Int) < (q.recs.length : Int) := by omega
    have hlt' : i < q.recs.length := by omega
    have rv := V.cells.rd0 h (e0.trans E)
    have ln := V.s1.len
    have sv1 := V.s1.one
    have sv2 := V.s1.cells
    have sv3 := V.s1.self
    have eh := e0.trans E
    obtain ⟨u, rfl, su⟩ := hc
    have so1 := su.one
    have so2 := su.cells
    have r1 := cells.rd0 h eh
    obtain ⟨u1, g1, c1, A1, x1⟩ := rTys (I := I) su hxo.1 h eh
    obtain ⟨wz, gz, cz, Wz, Ez, _⟩ := by_app (I := I) W E x1 A1 (by omega)
    have hi2 := ih (i + 1) (by omega) _ wz gz Wz Ez (by rw [← ho]) hl n (by omega)
    simp only [Int.natCast_add, Int.natCast_one] at hi2
    clear hT ih V hok ho hlo hla hx hd hxo
    rw [f12.n1]; unfold f12.b1
    simp (disch := first | exact D.go | fail) [setR, List.getElem?_cons_zero, List.getElem?_cons_succ, rv, ln, sv1, sv2, sv3, hlt, hlt', f12.n2, f12.b2, f12.n3, f12.b3, hwi, p1, r1, so1, so2, c1, cz]
    exact hi2
theorem eL5 {l : AM.Loc} {o : Nat} {q : Pg} {v1 v2 v3 v4 v5 : AVal} (V : PgV I h0 l o q v1 v2 v3 v4 v5) (hok : ∀ x ∈ q.sigs, AllOk TyR x.params) {hb : AHeap} (e0 : Ext h0 hb) (hxl : q.sigs.length ≤ 1048576) {out : List Nat} {Q : AVal → AHeap → Prop} {M : Nat}
    (hT : ∀ w g, Own byF 1 hb g w out → Ext hb g → ∀ m, M ≤ m → Res ((f12.J I (AM.lim ⟨P, I, genF P Sh.prims⟩) (m)).1.1.2.2.2 (.ptr l o) w g) Q) :
    ∀ (d i : Nat), i + d = q.sigs.length → ∀ (acc : List Nat) (w : AVal) (h : AHeap), Own byF 1 hb h w acc → Ext hb h → acc ++ (q.sigs.drop i).flatMap sgB = out → out.length ≤ 26000000 →
    ∀ N, 3 * d + 3 + M ≤ N → Res ((f12.J I (AM.lim ⟨P, I, genF P Sh.prims⟩) (N)).1.2.1.1 (.ptr l o) w (.int .i64 (i : Int)) h) Q := by
  intro d
  induction d with
  | zero =>
    intro i hi acc w h W E ho hl N hN
    obtain ⟨n, rfl⟩ : ∃ n, N = n + 1 := ⟨N - 1, by omega⟩
    rw [List.drop_eq_nil_of_le (by omega), List.flatMap_nil, List.append_nil] at ho
    have hq := hT w h (by rw [← ho]; exact W) E n (by omega)
    have hlt : ¬ (i : Int) < (q.sigs.length : Int) := by omega
    have hlt' : ¬ i < q.sigs.length := by omega
    have rv := V.cells.rd1 h (e0.trans E)
    have ln := V.s2.len
    have sv1 := V.s2.one
    have sv2 := V.s2.cells
    clear hT W V
    rw [f12.n5]; unfold f12.b5
    simp (disch := first | exact D.go | fail) [setR, List.getElem?_cons_zero, List.getElem?_cons_succ, rv, ln, sv1, sv2, hlt, hlt']
    exact hq
  | succ d ih =>
    intro i hi acc w h W E ho hl N hN
    obtain ⟨n, rfl⟩ : ∃ n, N = n + 3 := ⟨N - 3, by omega⟩
    have hib : i < q.sigs.length := by omega
    have hx : q.sigs[i]? = some q.sigs[i] := List.getElem?_eq_getElem hib
    have hd : q.sigs.drop i = q.sigs[i] :: q.sigs.drop (i + 1) := List.drop_eq_getElem_cons hib
    have hxo := hok _ (List.getElem_mem hib)
    generalize q.sigs[i] = x at *
    rw [hd, List.flatMap_cons, ← List.append_assoc] at ho
    have hlo : (acc ++ sgB x).length + ((q.sigs.drop (i + 1)).flatMap sgB).length ≤ 26000000 := by rw [← List.length_append, ho]; exact hl
    have hla : acc.length + (sgB x).length ≤ 26000000 := by rw [List.length_append] at hlo; omega
    obtain ⟨lx, ox, p1, cs, hc, cells⟩ := V.s2.at hx
    have hwi := wrap_in (n := (i : Int) + 1) ⟨by omega, by omega⟩
    have hlt : (i : Int) < (q.sigs.length : Int) := by omega
    have hlt' : i < q.sigs.length := by omega
    have rv := V.cells.rd1 h (e0.trans E)
    have ln := V.s2.len
    have sv1 := V.s2.one
    have sv2 := V.s2.cells
    have sv3 := V.s2.self
    have eh := e0.trans E
    obtain ⟨u, rfl, su, k1, k2⟩ := hc
    have so1 := su.one
    have so2 := su.cells
    have r1 := cells.rd0 h eh
    have hsg : (sgB x).length = (typesB x.params).length + ((numB x.res.kind).length + (numB x.res.n).length) := by unfold sgB; simp only [List.length_append]
    obtain ⟨u1, g1, c1, A1, x1⟩ := rTys (I := I) su hxo.1 h eh
    obtain ⟨w1, h1, d1, W1, E1, _⟩ := by_app (I := I) W E x1 A1 (by omega)
    obtain ⟨u2, g2, c2, A2, x2⟩ := rNum (I := I) k1 h1
    obtain ⟨w2, h2, d2, W2, E2, _⟩ := by_app (I := I) W1 E1 x2 A2 (by rw [List.length_append]; omega)
    obtain ⟨u3, g3, c3, A3, x3⟩ := rNum (I := I) k2 h2
    obtain ⟨wz, gz, cz, Wz, Ez, _⟩ := by_app (I := I) W2 E2 x3 A3 (by simp only [List.length_append]; omega)
    simp only [List.append_assoc] at Wz
    change Own byF 1 hb gz wz (acc ++ sgB x) at Wz
    have rb := V.cells.rd1 h1 (e0.trans E1)
    have rb1 := V.cells.rd1 g2 (e0.trans (E1.trans x2))
    have rb2 := V.cells.rd1 h2 (e0.trans E2)
    have r2 := cells.rd1 h1 (e0.trans E1)
    have r3 := cells.rd2 h2 (e0.trans E2)
    have rc := cells.rd2 h1 (e0.trans E1)
    have rc1 := cells.rd2 g2 (e0.trans (E1.trans x2))
    have hi2 := ih (i + 1) (by omega) _ wz gz Wz Ez (by rw [← ho]) hl n (by omega)
    simp only [Int.natCast_add, Int.natCast_one] at hi2
    clear hT ih V hok ho hlo hla hx hd hxo
    rw [f12.n5]; unfold f12.b5
    simp (disch := first | exact D.go | fail) [setR, List.getElem?_cons_zero, List.getElem?_cons_succ, rv, ln, sv1, sv2, sv3, hlt, hlt', f12.n6, f12.b6, f12.n7, f12.b7, hwi, p1, r1, r2, r3, rb, rc, rb1, rc1, rb2, so1, so2, c1, d1, c2, d2, c3, cz]
    exact hi2
theorem eL9 {l : AM.Loc} {o : Nat} {q : Pg} {v1 v2 v3 v4 v5 : AVal} (V : PgV I h0 l o q v1 v2 v3 v4 v5) (hok : ∀ x ∈ q.faces, AllOk InR x) {hb : AHeap} (e0 : Ext h0 hb) (hxl : q.faces.length ≤ 1048576) {out : List Nat} {Q : AVal → AHeap → Prop} {M : Nat}
    (hT : ∀ w g, Own byF 1 hb g w out → Ext hb g → ∀ m, M ≤ m → Res ((f12.J I (AM.lim ⟨P, I, genF P Sh.prims⟩) (m)).1.2.2.1 (.ptr l o) w g) Q) :
    ∀ (d i : Nat), i + d = q.faces.length → ∀ (acc : List Nat) (w : AVal) (h : AHeap), Own byF 1 hb h w acc → Ext hb h → acc ++ (q.faces.drop i).flatMap numsB = out → out.length ≤ 26000000 →
    ∀ N, 3 * d + 3 + M ≤ N → Res ((f12.J I (AM.lim ⟨P, I, genF P Sh.prims⟩) (N)).1.2.2.2.1 (.ptr l o) w (.int .i64 (i : Int)) h) Q := by
  intro d
  induction d with
  | zero =>
    intro i hi acc w h W E ho hl N hN
    obtain ⟨n, rfl⟩ : ∃ n, N = n + 1 := ⟨N - 1, by omega⟩
    rw [List.drop_eq_nil_of_le (by omega), List.flatMap_nil, List.append_nil] at ho
    have hq := hT w h (by rw [← ho]; exact W) E n (by omega)
    have hlt : ¬ (i : Int) < (q.faces.length : Int) := by omega
    have hlt' : ¬ i < q.faces.length := by omega
    have rv := V.cells.rd2 h (e0.trans E)
    have ln := V.s3.len
    have sv1 := V.s3.one
    have sv2 := V.s3.cells
    clear hT W V
    rw [f12.n9]; unfold f12.b9
    simp (disch := first | exact D.go | fail) [setR, List.getElem?_cons_zero, List.getElem?_cons_succ, rv, ln, sv1, sv2, hlt, hlt']
    exact hq
  | succ d ih =>
    intro i hi acc w h W E ho hl N hN
    obtain ⟨n, rfl⟩ : ∃ n, N = n + 3 := ⟨N - 3, by omega⟩
    have hib : i < q.faces.length := by omega
    have hx : q.faces[i]? = some q.faces[i] := List.getElem?_eq_getElem hib
    have hd : q.faces.drop i = q.faces[i] :: q.faces.drop (i + 1) := List.drop_eq_getElem_cons hib
    have hxo := hok _ (List.getElem_mem hib)
    generalize q.faces[i] = x at *
    rw [hd, List.flatMap_cons, ← List.append_assoc] at ho
    have hlo : (acc ++ numsB x).length + ((q.faces.drop (i + 1)).flatMap numsB).length ≤ 26000000 := by rw [← List.length_append, ho]; exact hl
    have hla : acc.length + (numsB x).length ≤ 26000000 := by rw [List.length_append] at hlo; omega
    obtain ⟨lx, ox, p1, cs, hc, cells⟩ := V.s3.at hx
    have hwi := wrap_in (n := (i : Int) + 1) ⟨by omega, by omega⟩
    have hlt : (i : Int) < (q.faces.length : Int) := by omega
    have hlt' : i < q.faces.length := by omega
    have rv := V.cells.rd2 h (e0.trans E)
    have ln := V.s3.len
    have sv1 := V.s3.one
    have sv2 := V.s3.cells
    have sv3 := V.s3.self
    have eh := e0.trans E
    obtain ⟨u, rfl, su⟩ := hc
    have so1 := su.one
    have so2 := su.cells
    have r1 := cells.rd0 h eh
    obtain ⟨u1, g1, c1, A1, x1⟩ := rNums (I := I) su hxo.1 h eh
    obtain ⟨wz, gz, cz, Wz, Ez, _⟩ := by_app (I := I) W E x1 A1 (by omega)
    have hi2 := ih (i + 1) (by omega) _ wz gz Wz Ez (by rw [← ho]) hl n (by omega)
    simp only [Int.natCast_add, Int.natCast_one] at hi2
    clear hT ih V hok ho hlo hla hx hd hxo
    rw [f12.n9]; unfold f12.b9
    simp (disch := first | exact D.go | fail) [setR, List.getElem?_cons_zero, List.getElem?_cons_succ, rv, ln, sv1, sv2, sv3, hlt, hlt', f12.n10, f12.b10, f12.n11, f12.b11, hwi, p1, r1, so1, so2, c1, cz]
    exact hi2
theorem eL13 {l : AM.Loc} {o : Nat} {q : Pg} {v1 v2 v3 v4 v5 : AVal} (V : PgV I h0 l o q v1 v2 v3 v4 v5) (hok : ∀ x ∈ q.impls, AllOk InR x.funcs) {hb : AHeap} (e0 : Ext h0 hb) (hxl : q.impls.length ≤ 1048576) {out : List Nat} {Q : AVal → AHeap → Prop} {M : Nat}
    (hT : ∀ w g, Own byF 1 hb g w out → Ext hb g → ∀ m, M ≤ m → Res ((f12.J I (AM.lim ⟨P, I, genF P Sh.prims⟩) (m)).2.1.1.2.1 (.ptr l o) w g) Q) :
    ∀ (d i : Nat), i + d = q.impls.length → ∀ (acc : List Nat) (w : AVal) (h : AHeap), Own byF 1 hb h w acc → Ext hb h → acc ++ (q.impls.drop i).flatMap imB = out → out.length ≤ 26000000 →
    ∀ N, 3 * d + 3 + M ≤ N → Res ((f12.J I (AM.lim ⟨P, I, genF P Sh.prims⟩) (N)).2.1.1.2.2 (.ptr l o) w (.int .i64 (i : Int)) h) Q := by
  intro d
  induction d with
  | zero =>
    intro i hi acc w h W E ho hl N hN
    obtain ⟨n, rfl⟩ : ∃ n, N = n + 1 := ⟨N - 1, by omega⟩
    rw [List.drop_eq_nil_of_le (by omega), List.flatMap_nil, List.append_nil] at ho
    have hq := hT w h (by rw [← ho]; exact W) E n (by omega)
    have hlt : ¬ (i : Int) < (q.impls.length : Int) := by omega
    have hlt' : ¬ i < q.impls.length := by omega
    have rv := V.cells.rd3 h (e0.trans E)
    have ln := V.s4.len
    have sv1 := V.s4.one
    have sv2 := V.s4.cells
    clear hT W V
    rw [f12.n13]; unfold f12.b13
    simp (disch := first | exact D.go | fail) [setR, List.getElem?_cons_zero, List.getElem?_cons_succ, rv, ln, sv1, sv2, hlt, hlt']
    exact hq
  | succ d ih =>
    intro i hi acc w h W E ho hl N hN
    obtain ⟨n, rfl⟩ : ∃ n, N = n + 3 := ⟨N - 3, by omega⟩
    have hib : i < q.impls.length := by omega
    have hx : q.impls[i]? = some q.impls[i] := List.getElem?_eq_getElem hib
    have hd : q.impls.drop i = q.impls[i] :: q.impls.drop (i + 1) := List.drop_eq_getElem_cons hib
    have hxo := hok _ (List.getElem_mem hib)
    generalize q.impls[i] = x at *
    rw [hd, List.flatMap_cons, ← List.append_assoc] at ho
    have hlo : (acc ++ imB x).length + ((q.impls.drop (i + 1)).flatMap imB).length ≤ 26000000 := by rw [← List.length_append, ho]; exact hl
    have hla : acc.length + (imB x).length ≤ 26000000 := by rw [List.length_append] at hlo; omega
    obtain ⟨lx, ox, p1, cs, hc, cells⟩ := V.s4.at hx
    have hwi := wrap_in (n := (i : Int) + 1) ⟨by omega, by omega⟩
    have hlt : (i : Int) < (q.impls.length : Int) := by omega
    have hlt' : i < q.impls.length := by omega
    have rv := V.cells.rd3 h (e0.trans E)
    have ln := V.s4.len
    have sv1 := V.s4.one
    have sv2 := V.s4.cells
    have sv3 := V.s4.self
    have eh := e0.trans E
    obtain ⟨u, rfl, k1, k2, su⟩ := hc
    have so1 := su.one
    have so2 := su.cells
    have r1 := cells.rd0 h eh
    have hsg : (imB x).length = (numB x.rec_).length + ((numB x.face).length + (numsB x.funcs).length) := by unfold imB; simp only [List.length_append]
    obtain ⟨u1, g1, c1, A1, x1⟩ := rNum (I := I) k1 h
    obtain ⟨w1, h1, d1, W1, E1, _⟩ := by_app (I := I) W E x1 A1 (by omega)
    obtain ⟨u2, g2, c2, A2, x2⟩ := rNum (I := I) k2 h1
    obtain ⟨w2, h2, d2, W2, E2, _⟩ := by_app (I := I) W1 E1 x2 A2 (by rw [List.length_append]; omega)
    obtain ⟨u3, g3, c3, A3, x3⟩ := rNums (I := I) su hxo.1 h2 (e0.trans E2)
    obtain ⟨wz, gz, cz, Wz, Ez, _⟩ := by_app (I := I) W2 E2 x3 A3 (by simp only [List.length_append]; omega)
    simp only [List.append_assoc] at Wz
    change Own byF 1 hb gz wz (acc ++ imB x) at Wz
    have rb := V.cells.rd3 h1 (e0.trans E1)
    have rb1 := V.cells.rd3 g1 (e0.trans (E.trans x1))
    have rb2 := V.cells.rd3 h2 (e0.trans E2)
    have r2 := cells.rd1 h1 (e0.trans E1)
    have rd := cells.rd1 h eh
    have rd1 := cells.rd1 g1 (e0.trans (E.trans x1))
    have r3 := cells.rd2 h2 (e0.trans E2)
    have hi2 := ih (i + 1) (by omega) _ wz gz Wz Ez (by rw [← ho]) hl n (by omega)
    simp only [Int.natCast_add, Int.natCast_one] at hi2
    clear hT ih V hok ho hlo hla hx hd hxo
    rw [f12.n13]; unfold f12.b13
    simp (disch := first | exact D.go | fail) [setR, List.getElem?_cons_zero, List.getElem?_cons_succ, rv, ln, sv1, sv2, sv3, hlt, hlt', f12.n14, f12.b14, f12.n15, f12.b15, hwi, p1, r1, r2, r3, rb, rb1, rb2, rd, rd1, so1, so2, c1, d1, c2, d2, c3, cz]
    exact hi2
end
end
end Go.Proofs.YtncjcnipagdmlaaDoor.Tx

set_option linter.unusedSimpArgs false
set_option linter.unusedVariables false
namespace Go.Proofs.YtncjcnipagdmlaaDoor.Tx
noncomputable section
open Go.AM Go.Proofs.YtncjcnipagdmlaaDoor.Sf
section
variable {I : Inp} {h0 : AHeap} {α : Type}
/-! the reference's bytes of a program: its functions, the whole -/
theorem eL20 {l : AM.Loc} {o : Nat} {vb vr : AVal} {sg : Int} {v8 : AVal} {bs : List Bk} (sb : SlOf 5 (At I h0 (BkC I h0)) vb bs) (hok : AllOk BkR bs) {hb : AHeap} (e0 : Ext h0 hb) {k : Nat} {out : List Nat} {Q : AVal → AHeap → Prop} {M : Nat}
    (hT : ∀ w g, Own byF 1 hb g w out → Ext hb g → ∀ m, M ≤ m → Res ((f12.J I (AM.lim ⟨P, I, genF P Sh.prims⟩) (m)).2.2.1.2.2 (.ptr l o) w v8 g) Q) :
    ∀ (d i : Nat), i + d = bs.length → ∀ (acc : List Nat) (w : AVal) (h : AHeap), Own byF 1 hb h w acc → Ext hb h → h.get k = some ⟨[.int .i64 sg, vr, vb], true⟩ → k < h.next → NotB w k → acc ++ (bs.drop i).flatMap blkB = out → out.length ≤ 26000000 →
    ∀ N, 3 * d + 3 + M ≤ N → Res ((f12.J I (AM.lim ⟨P, I, genF P Sh.prims⟩) (N)).2.2.2.1 (.ptr l o) w v8 (.ptr (.own k) 0) (.int .i64 (i : Int)) h) Q := by
  have hbl := hok.1
  intro d
  induction d with
  | zero =>
    intro i hi acc w h W E hk hkl nk ho hl N hN
    obtain ⟨n, rfl⟩ : ∃ n, N = n + 1 := ⟨N - 1, by omega⟩
    rw [List.drop_eq_nil_of_le (by omega), List.flatMap_nil, List.append_nil] at ho
    have hq := hT w h (by rw [← ho]; exact W) E n (by omega)
    have hlt : ¬ (i : Int) < (bs.length : Int) := by omega
    have hlt' : ¬ i < bs.length := by omega
    have ln := sb.len
    have sv1 := sb.one
    have sv2 := sb.cells
    clear hT W sb
    rw [f12.n20]; unfold f12.b20
    simp (disch := first | exact D.go | fail) [setR, List.getElem?_cons_zero, List.getElem?_cons_succ, hk, ln, sv1, sv2, hlt, hlt']
    exact hq
  | succ d ih =>
    intro i hi acc w h W E hk hkl nk ho hl N hN
    obtain ⟨n, rfl⟩ : ∃ n, N = n + 3 := ⟨N - 3, by omega⟩
    have hib : i < bs.length := by omega
    have hx : bs[i]? = some bs[i] := List.getElem?_eq_getElem hib
    have hd : bs.drop i = bs[i] :: bs.drop (i + 1) := List.drop_eq_getElem_cons hib
    have hxo := hok.2 _ (List.getElem_mem hib)
    generalize bs[i] = x at *
    rw [hd, List.flatMap_cons, ← List.append_assoc] at ho
    have hlo : (acc ++ blkB x).length + ((bs.drop (i + 1)).flatMap blkB).length ≤ 26000000 := by rw [← List.length_append, ho]; exact hl
    have hla : acc.length + (blkB x).length ≤ 26000000 := by rw [List.length_append] at hlo; omega
    obtain ⟨lx, ox, p1, cs, hc, cells⟩ := sb.at hx
    have hwi := wrap_in (n := (i : Int) + 1) ⟨by omega, by omega⟩
    have hlt : (i : Int) < (bs.length : Int) := by omega
    have hlt' : i < bs.length := by omega
    have ln := sb.len
    have sv1 := sb.one
    have sv2 := sb.cells
    have eh := e0.trans E
    have hcl : cs.length = 5 := by obtain ⟨u, rfl, _⟩ := hc; rfl
    have r5 : rds I h lx ox 5 = some cs := cells.rds h eh hcl (by omega)
    obtain ⟨u1, g1, c1, A1, x1⟩ := rBlk (I := I) hc hxo.1.1 (by omega) (fun i hi => (hxo.1.2 i hi).2.2.2.2.2.1) h eh
    obtain ⟨wz, gz, cz, Wz, Ez, Kz⟩ := by_app (I := I) W E x1 A1 (by omega)
    obtain ⟨_, q1, q2, q3⟩ := Kz k nk hkl
    have hi2 := ih (i + 1) (by omega) _ wz gz Wz Ez (q1.trans hk) q3 q2 (by rw [← ho]) hl n (by omega)
    simp only [Int.natCast_add, Int.natCast_one] at hi2
    obtain ⟨a0, a1, a2, a3, a4, rfl⟩ : ∃ a0 a1 a2 a3 a4, cs = [a0, a1, a2, a3, a4] := by
      match cs, hcl with
      | [a0, a1, a2, a3, a4], _ => exact ⟨a0, a1, a2, a3, a4, rfl⟩
    clear hT ih sb hok ho hlo hla hx hd hxo cells Kz
    rw [f12.n20]; unfold f12.b20
    simp (disch := first | exact D.go | fail) [setR, List.getElem?_cons_zero, List.getElem?_cons_succ, hk, ln, sv1, sv2, hlt, hlt', f12.n21, f12.b21, f12.n22, f12.b22, hwi, p1, r5, c1, cz]
    exact hi2
theorem eL17 {l : AM.Loc} {o : Nat} {q : Pg} {v1 v2 v3 v4 v5 : AVal} (V : PgV I h0 l o q v1 v2 v3 v4 v5) (hok : ∀ x ∈ q.funcs, FuR x) {hb : AHeap} (e0 : Ext h0 hb) (hxl : q.funcs.length ≤ 1048576) {out : List Nat} {Q : AVal → AHeap → Prop} {M : Nat}
    (hT : ∀ w g, Own byF 1 hb g w out → Ext hb g → ∀ m, M ≤ m → Res ((f12.J I (AM.lim ⟨P, I, genF P Sh.prims⟩) (m)).2.1.2.2.2 (.ptr l o) w g) Q) :
    ∀ (d i : Nat), i + d = q.funcs.length → ∀ (acc : List Nat) (w : AVal) (h : AHeap), Own byF 1 hb h w acc → Ext hb h → acc ++ (q.funcs.drop i).flatMap fuB = out → out.length ≤ 26000000 →
    ∀ N, 4000000 * d + 3 + M ≤ N → Res ((f12.J I (AM.lim ⟨P, I, genF P Sh.prims⟩) (N)).2.2.1.1 (.ptr l o) w (.int .i64 (i : Int)) h) Q := by
  intro d
  induction d with
  | zero =>
    intro i hi acc w h W E ho hl N hN
    obtain ⟨n, rfl⟩ : ∃ n, N = n + 1 := ⟨N - 1, by omega⟩
    rw [List.drop_eq_nil_of_le (by omega), List.flatMap_nil, List.append_nil] at ho
    have hq := hT w h (by rw [← ho]; exact W) E n (by omega)
    have hlt : ¬ (i : Int) < (q.funcs.length : Int) := by omega
    have hlt' : ¬ i < q.funcs.length := by omega
    have rv := V.cells.rd4 h (e0.trans E)
    have ln := V.s5.len
    have sv1 := V.s5.one
    have sv2 := V.s5.cells
    clear hT W V
    rw [f12.n17]; unfold f12.b17
    simp (disch := first | exact D.go | fail) [setR, List.getElem?_cons_zero, List.getElem?_cons_succ, rv, ln, sv1, sv2, hlt, hlt']
    exact hq
  | succ d ih =>
    intro i hi acc w h W E ho hl N hN
    obtain ⟨n, rfl⟩ : ∃ n, N = n + 2 := ⟨N - 2, by omega⟩
    have hib : i < q.funcs.length := by omega
    have hx : q.funcs[i]? = some q.funcs[i] := List.getElem?_eq_getElem hib
    have hd : q.funcs.drop i = q.funcs[i] :: q.funcs.drop (i + 1) := List.drop_eq_getElem_cons hib
    have hxo := hok _ (List.getElem_mem hib)
    generalize q.funcs[i] = x at *
    rw [hd, List.flatMap_cons, ← List.append_assoc] at ho
    have hlo : (acc ++ fuB x).length + ((q.funcs.drop (i + 1)).flatMap fuB).length ≤ 26000000 := by rw [← List.length_append, ho]; exact hl
    have hla : acc.length + (fuB x).length ≤ 26000000 := by rw [List.length_append] at hlo; omega
    obtain ⟨lx, ox, p1, cs, hc, cells⟩ := V.s5.at hx
    obtain ⟨u, u', rfl, k1, su, su'⟩ := hc
    have hwi := wrap_in (n := (i : Int) + 1) ⟨by omega, by omega⟩
    have hlt : (i : Int) < (q.funcs.length : Int) := by omega
    have hlt' : i < q.funcs.length := by omega
    have rv := V.cells.rd4 h (e0.trans E)
    have ln := V.s5.len
    have sv1 := V.s5.one
    have sv2 := V.s5.cells
    have eh := e0.trans E
    have r5 : rds I h lx ox 3 = some [.int .i64 x.sig, u, u'] := cells.rds h eh rfl (by omega)
    have hfu : (fuB x).length = (numB x.sig).length + ((typesB x.regs).length + ((numB x.blocks.length).length + (x.blocks.flatMap blkB).length)) := by unfold fuB; simp only [List.length_append]
    have hbl := hxo.2.2.1
    obtain ⟨H, hH⟩ : ∃ H, H = (h.alloc ⟨[Z 0, .nils, .nils], true⟩).set h.next ⟨[.int .i64 x.sig, u, u'], true⟩ := ⟨_, rfl⟩
    have xH : Ext h H := by rw [hH]; exact (Ext.refl h).alloc.set (Nb.o (Nat.le_refl _))
    have hHn : H.next = h.next + 1 := by rw [hH]; simp
    have hHk : H.get h.next = some ⟨[.int .i64 x.sig, u, u'], true⟩ := by rw [hH]; exact AHeap.set_at (Nb.o rfl)
    have za : (h.alloc ⟨[Z 0, .nils, .nils], true⟩).get h.next = some ⟨[Z 0, .nils, .nils], true⟩ := AHeap.alloc_at (Nb.o rfl)
    have zc : (AVal.agg [.int .i64 x.sig, u, u']).cells = [.int .i64 x.sig, u, u'] := rfl
    have zs : ((h.alloc ⟨[Z 0, .nils, .nils], true⟩).set h.next ⟨[.int .i64 x.sig, u, u'], true⟩).get h.next = some ⟨[.int .i64 x.sig, u, u'], true⟩ := AHeap.set_at (Nb.o rfl)
    have nw : NotB w h.next := W.notB (.inr (Nat.le_refl _))
    have EH := E.trans xH
    obtain ⟨u1, g1, c1, A1, x1⟩ := rNum (I := I) k1 H
    obtain ⟨w1, h1, d1, W1, E1, K1⟩ := by_app (I := I) (W.mono xH) EH x1 A1 (by omega)
    obtain ⟨m1, n1, o1, l1⟩ := K1 h.next nw (by omega)
    have q1 := n1.trans hHk
    obtain ⟨u2, g2, c2, A2, x2⟩ := rTys (I := I) su hxo.2.1.1 h1 (e0.trans E1)
    obtain ⟨w2, h2, d2, W2, E2, K2⟩ := by_app (I := I) W1 E1 x2 A2 (by rw [List.length_append]; omega)
    obtain ⟨m2, n2, o2, l2⟩ := K2 h.next o1 l1
    have q2 := n2.trans q1
    obtain ⟨u3, g3, c3, A3, x3⟩ := rNum (I := I) (n := (x.blocks.length : Int)) ⟨by omega, by omega⟩ h2
    obtain ⟨w3, h3, d3, W3, E3, K3⟩ := by_app (I := I) W2 E2 x3 A3 (by simp only [List.length_append]; omega)
    obtain ⟨m3, n3, o3, l3⟩ := K3 h.next o2 l2
    have q3 := n3.trans q2
    have hrun : Res ((f12.J I (AM.lim ⟨P, I, genF P Sh.prims⟩) (n)).2.2.2.1 (.ptr l o) w3 (.int .i64 (i : Int)) (.ptr (.own h.next) 0) (.int .i64 ((0 : Nat) : Int)) h3) Q := by
      refine eL20 (I := I) su' hxo.2.2 e0 (out := acc ++ fuB x) (M := 4000000 * d + 3 + M + 1) (fun w' g' W' E' m hm => ?_) x.blocks.length 0 (by omega) _ w3 h3 W3 E3 q3 l3 o3 (by unfold fuB; simp only [List.drop_zero, List.append_assoc]) (by rw [List.length_append]; omega) n (by omega)
      obtain ⟨m', rfl⟩ : ∃ m', m = m' + 1 := ⟨m - 1, by omega⟩
      have hi2 := ih (i + 1) (by omega) _ w' g' W' E' ho hl m' (by omega)
      simp only [Int.natCast_add, Int.natCast_one] at hi2
      clear hT ih V hok ho hlo hla hx hd hxo K1 K2 K3 W1 W2 W3 A1 A2 A3 W W' su su' cells
      rw [f12.n19]; unfold f12.b19
      simp (disch := first | exact D.go | fail) [setR, List.getElem?_cons_zero, List.getElem?_cons_succ, hwi]
      exact hi2
    have ln' := su'.len
    have so1 := su.one
    have so2 := su.cells
    have so3 := su'.one
    have so4 := su'.cells
    rw [hH] at c1
    clear hT ih V hok ho hlo hla hx hd hxo K1 K2 K3 W1 W2 W3 A1 A2 A3 W su su' cells hH xH hHk
    rw [f12.n17]; unfold f12.b17
    simp (disch := first | exact D.go | fail) [setR, List.getElem?_cons_zero, List.getElem?_cons_succ, rv, ln, sv1, sv2, hlt, hlt', f12.n18, f12.b18, p1, r5, za, zc, zs, c1, d1, q1, c2, d2, q2, c3, d3, ln', so1, so2, so3, so4]
    exact hrun
end
end
end Go.Proofs.YtncjcnipagdmlaaDoor.Tx

set_option linter.unusedSimpArgs false
set_option linter.unusedVariables false
namespace Go.Proofs.YtncjcnipagdmlaaDoor.Tx
noncomputable section
open Go.AM Go.Proofs.YtncjcnipagdmlaaDoor.Sf
section
variable {I : Inp} {h0 : AHeap} {α : Type}
/-! the reference's bytes of a program -/
theorem eT16 {l : AM.Loc} {o : Nat} {q : Pg} {v1 v2 v3 v4 v5 : AVal} (V : PgV I h0 l o q v1 v2 v3 v4 v5) {hb g : AHeap} {w : AVal} (e0 : Ext h0 hb) (W : Own byF 1 hb g w (oB5 q)) (E : Ext hb g) : ∀ m, 2 ≤ m → Res ((f12.J I (AM.lim ⟨P, I, genF P Sh.prims⟩) (m)).2.1.2.2.2 (.ptr l o) w g) (TxQ hb q) := by
  intro m hm
  obtain ⟨n, rfl⟩ : ∃ n, m = n + 1 := ⟨m - 1, by omega⟩
  have ha := congrArg List.length (oB_all q)
  rw [List.length_append] at ha
  have hl := V.len
  have r5 := V.cells.rd5 g (e0.trans E)
  obtain ⟨u1, g1, c1, A1, x1⟩ := rNum (I := I) V.ok.2.2.2.2.2 g
  obtain ⟨wz, gz, cz, Wz, Ez, _⟩ := by_app (I := I) W E x1 A1 (by omega)
  rw [← oB_all] at Wz
  have hq : TxQ hb q wz gz := ⟨Wz, Ez⟩
  generalize TxQ hb q = Q at *
  clear W A1 Wz V
  rw [f12.n16]; unfold f12.b16
  simp (disch := first | exact D.go | fail) [setR, List.getElem?_cons_zero, List.getElem?_cons_succ, r5, c1, cz]
  exact hq
def mE12 (q : Pg) : Nat := 4000000 * q.funcs.length + 5 + 2
theorem eT12 {l : AM.Loc} {o : Nat} {q : Pg} {v1 v2 v3 v4 v5 : AVal} (V : PgV I h0 l o q v1 v2 v3 v4 v5) {hb g : AHeap} {w : AVal} (e0 : Ext h0 hb) (W : Own byF 1 hb g w (oB4 q)) (E : Ext hb g) : ∀ m, mE12 q ≤ m → Res ((f12.J I (AM.lim ⟨P, I, genF P Sh.prims⟩) (m)).2.1.1.2.1 (.ptr l o) w g) (TxQ hb q) := by
  intro m hm
  unfold mE12 at hm
  obtain ⟨n, rfl⟩ : ∃ n, m = n + 1 := ⟨m - 1, by omega⟩
  have hl := V.len
  have hle : (oB5 q).length ≤ (pgB q).length := by
    rw [oB_all]; simp only [List.length_append]; omega
  have hle' : (oB4 q).length + (numB q.funcs.length).length ≤ (oB5 q).length := by
    unfold oB5; simp only [List.length_append]; omega
  have hxl := V.ok.2.2.2.2.1.1
  have ra := V.cells.rd4 g (e0.trans E)
  have ln := V.s5.len
  obtain ⟨u1, g1, c1, A1, x1⟩ := rNum (I := I) (n := (q.funcs.length : Int)) ⟨by omega, by omega⟩ g
  obtain ⟨wz, gz, cz, Wz, Ez, _⟩ := by_app (I := I) W E x1 A1 (by omega)
  have hrun : Res ((f12.J I (AM.lim ⟨P, I, genF P Sh.prims⟩) (n)).2.2.1.1 (.ptr l o) wz (.int .i64 ((0 : Nat) : Int)) gz) (TxQ hb q) :=
    eL17 (I := I) V (V.ok.2.2.2.2.1.2) e0 hxl (out := oB5 q) (M := 2) (fun w g W E m hm => eT16 V e0 W E m hm) q.funcs.length 0 (by omega) _ wz gz Wz Ez (by rw [List.drop_zero]; rfl) (by omega) n (by omega)
  have so1 := V.s5.one
  have so2 := V.s5.cells
  generalize TxQ hb q = Q at *
  clear W A1 Wz V hle hle' hxl
  rw [f12.n12]; unfold f12.b12
  simp (disch := first | exact D.go | fail) [setR, List.getElem?_cons_zero, List.getElem?_cons_succ, ra, ln, c1, cz, so1, so2]
  exact hrun
def mE8 (q : Pg) : Nat := 3 * q.impls.length + 5 + mE12 q
theorem eT8 {l : AM.Loc} {o : Nat} {q : Pg} {v1 v2 v3 v4 v5 : AVal} (V : PgV I h0 l o q v1 v2 v3 v4 v5) {hb g : AHeap} {w : AVal} (e0 : Ext h0 hb) (W : Own byF 1 hb g w (oB3 q)) (E : Ext hb g) : ∀ m, mE8 q ≤ m → Res ((f12.J I (AM.lim ⟨P, I, genF P Sh.prims⟩) (m)).1.2.2.1 (.ptr l o) w g) (TxQ hb q) := by
  intro m hm
  unfold mE8 at hm
  obtain ⟨n, rfl⟩ : ∃ n, m = n + 1 := ⟨m - 1, by omega⟩
  have hl := V.len
  have hle : (oB4 q).length ≤ (pgB q).length := by
    rw [oB_all]; unfold oB5; simp only [List.length_append]; omega
  have hle' : (oB3 q).length + (numB q.impls.length).length ≤ (oB4 q).length := by
    unfold oB4; simp only [List.length_append]; omega
  have hxl := V.ok.2.2.2.1.1
  have ra := V.cells.rd3 g (e0.trans E)
  have ln := V.s4.len
  obtain ⟨u1, g1, c1, A1, x1⟩ := rNum (I := I) (n := (q.impls.length : Int)) ⟨by omega, by omega⟩ g
  obtain ⟨wz, gz, cz, Wz, Ez, _⟩ := by_app (I := I) W E x1 A1 (by omega)
  have hrun : Res ((f12.J I (AM.lim ⟨P, I, genF P Sh.prims⟩) (n)).2.1.1.2.2 (.ptr l o) wz (.int .i64 ((0 : Nat) : Int)) gz) (TxQ hb q) :=
    eL13 (I := I) V (fun x hx => (V.ok.2.2.2.1.2 x hx).2.2) e0 hxl (out := oB4 q) (M := mE12 q) (fun w g W E m hm => eT12 V e0 W E m hm) q.impls.length 0 (by omega) _ wz gz Wz Ez (by rw [List.drop_zero]; rfl) (by omega) n (by omega)
  have so1 := V.s4.one
  have so2 := V.s4.cells
  generalize TxQ hb q = Q at *
  clear W A1 Wz V hle hle' hxl
  rw [f12.n8]; unfold f12.b8
  simp (disch := first | exact D.go | fail) [setR, List.getElem?_cons_zero, List.getElem?_cons_succ, ra, ln, c1, cz, so1, so2]
  exact hrun
def mE4 (q : Pg) : Nat := 3 * q.faces.length + 5 + mE8 q
theorem eT4 {l : AM.Loc} {o : Nat} {q : Pg} {v1 v2 v3 v4 v5 : AVal} (V : PgV I h0 l o q v1 v2 v3 v4 v5) {hb g : AHeap} {w : AVal} (e0 : Ext h0 hb) (W : Own byF 1 hb g w (oB2 q)) (E : Ext hb g) : ∀ m, mE4 q ≤ m → Res ((f12.J I (AM.lim ⟨P, I, genF P Sh.prims⟩) (m)).1.1.2.2.2 (.ptr l o) w g) (TxQ hb q) := by
  intro m hm
  unfold mE4 at hm
  obtain ⟨n, rfl⟩ : ∃ n, m = n + 1 := ⟨m - 1, by omega⟩
  have hl := V.len
  have hle : (oB3 q).length ≤ (pgB q).length := by
    rw [oB_all]; unfold oB5; unfold oB4; simp only [List.length_append]; omega
  have hle' : (oB2 q).length + (numB q.faces.length).length ≤ (oB3 q).length := by
    unfold oB3; simp only [List.length_append]; omega
  have hxl := V.ok.2.2.1.1
  have ra := V.cells.rd2 g (e0.trans E)
  have ln := V.s3.len
  obtain ⟨u1, g1, c1, A1, x1⟩ := rNum (I := I) (n := (q.faces.length : Int)) ⟨by omega, by omega⟩ g
  obtain ⟨wz, gz, cz, Wz, Ez, _⟩ := by_app (I := I) W E x1 A1 (by omega)
  have hrun : Res ((f12.J I (AM.lim ⟨P, I, genF P Sh.prims⟩) (n)).1.2.2.2.1 (.ptr l o) wz (.int .i64 ((0 : Nat) : Int)) gz) (TxQ hb q) :=
    eL9 (I := I) V (V.ok.2.2.1.2) e0 hxl (out := oB3 q) (M := mE8 q) (fun w g W E m hm => eT8 V e0 W E m hm) q.faces.length 0 (by omega) _ wz gz Wz Ez (by rw [List.drop_zero]; rfl) (by omega) n (by omega)
  have so1 := V.s3.one
  have so2 := V.s3.cells
  generalize TxQ hb q = Q at *
  clear W A1 Wz V hle hle' hxl
  rw [f12.n4]; unfold f12.b4
  simp (disch := first | exact D.go | fail) [setR, List.getElem?_cons_zero, List.getElem?_cons_succ, ra, ln, c1, cz, so1, so2]
  exact hrun
def mE0 (q : Pg) : Nat := 3 * q.sigs.length + 5 + mE4 q
theorem eT0 {l : AM.Loc} {o : Nat} {q : Pg} {v1 v2 v3 v4 v5 : AVal} (V : PgV I h0 l o q v1 v2 v3 v4 v5) {hb g : AHeap} {w : AVal} (e0 : Ext h0 hb) (W : Own byF 1 hb g w (oB1 q)) (E : Ext hb g) : ∀ m, mE0 q ≤ m → Res ((f12.J I (AM.lim ⟨P, I, genF P Sh.prims⟩) (m)).1.1.1.1 (.ptr l o) w g) (TxQ hb q) := by
  intro m hm
  unfold mE0 at hm
  obtain ⟨n, rfl⟩ : ∃ n, m = n + 1 := ⟨m - 1, by omega⟩
  have hl := V.len
  have hle : (oB2 q).length ≤ (pgB q).length := by
    rw [oB_all]; unfold oB5; unfold oB4; unfold oB3; simp only [List.length_append]; omega
  have hle' : (oB1 q).length + (numB q.sigs.length).length ≤ (oB2 q).length := by
    unfold oB2; simp only [List.length_append]; omega
  have hxl := V.ok.2.1.1
  have ra := V.cells.rd1 g (e0.trans E)
  have ln := V.s2.len
  obtain ⟨u1, g1, c1, A1, x1⟩ := rNum (I := I) (n := (q.sigs.length : Int)) ⟨by omega, by omega⟩ g
  obtain ⟨wz, gz, cz, Wz, Ez, _⟩ := by_app (I := I) W E x1 A1 (by omega)
  have hrun : Res ((f12.J I (AM.lim ⟨P, I, genF P Sh.prims⟩) (n)).1.2.1.1 (.ptr l o) wz (.int .i64 ((0 : Nat) : Int)) gz) (TxQ hb q) :=
    eL5 (I := I) V (fun x hx => (V.ok.2.1.2 x hx).1) e0 hxl (out := oB2 q) (M := mE4 q) (fun w g W E m hm => eT4 V e0 W E m hm) q.sigs.length 0 (by omega) _ wz gz Wz Ez (by rw [List.drop_zero]; rfl) (by omega) n (by omega)
  have so1 := V.s2.one
  have so2 := V.s2.cells
  generalize TxQ hb q = Q at *
  clear W A1 Wz V hle hle' hxl
  rw [f12.n0]; unfold f12.b0
  simp (disch := first | exact D.go | fail) [setR, List.getElem?_cons_zero, List.getElem?_cons_succ, ra, ln, c1, cz, so1, so2]
  exact hrun
/-- A program's bytes by the reference. -/
theorem tREncG {l : AM.Loc} {o : Nat} {q : Pg} (hq : PgA I h0 l o q) (ok : PgR q) (len : (pgB q).length ≤ 25000000) (hb : AHeap) (e0 : Ext h0 hb) : Res ((AM.lim ⟨P, I, genF P Sh.prims⟩) 12 [.ptr l o] hb) (TxQ hb q) := by
  obtain ⟨cs, ⟨v1, v2, v3, v4, v5, rfl, _, s1, s2, s3, s4, s5⟩, cells⟩ := hq
  have V : PgV I h0 l o q v1 v2 v3 v4 v5 := ⟨cells, s1, s2, s3, s4, s5, ok, len⟩
  have hxl := ok.1.1
  have hle : (oB1 q).length ≤ (pgB q).length := by
    rw [oB_all]; unfold oB5 oB4 oB3 oB2; simp only [List.length_append]; omega
  have ra := cells.rd0 hb e0
  have ln := s1.len
  obtain ⟨u1, g1, c1, A1, x1⟩ := rNum (I := I) (n := (q.recs.length : Int)) ⟨by omega, by omega⟩ hb
  have hrun : Res ((f12.J I (AM.lim ⟨P, I, genF P Sh.prims⟩) (3 * q.recs.length + 3 + mE0 q)).1.1.1.2 (.ptr l o) u1 (.int .i64 ((0 : Nat) : Int)) g1) (TxQ hb q) :=
    eL1 (I := I) V ok.1.2 e0 hxl (out := oB1 q) (M := mE0 q) (fun w g W E m hm => eT0 V e0 W E m hm) q.recs.length 0 (by omega) _ u1 g1 A1 x1 (by rw [List.drop_zero]; rfl) (by omega) _ (Nat.le_refl _)
  have so1 := s1.one
  have so2 := s1.cells
  refine f12.lim rfl (n := 3 * q.recs.length + 3 + mE0 q) ?_
  unfold f12.e
  generalize mE0 q = M at *
  generalize TxQ hb q = Q at *
  clear V hle hxl s1 s2 s3 s4 s5 cells ok len A1
  simp (disch := first | exact D.go | fail) [setR, List.getElem?_cons_zero, List.getElem?_cons_succ, ra, ln, c1, so1, so2]
  exact hrun
/-- A program is written, or refused. -/
theorem tEncodeG {l : AM.Loc} {o : Nat} {q : Pg} (hq : PgA I h0 l o q) (ok : PgR q) (len : (pgB q).length ≤ 25000000) (hb : AHeap) (e0 : Ext h0 hb) : Res ((AM.lim ⟨P, I, genF P Sh.prims⟩) 13 [.ptr l o] hb) fun u g => Ext hb g ∧
    (((pgB q).length ≤ 20000 ∧ ∃ v, u = .tuple [v, .nili] ∧ Own byF 1 hb g v (pgB q)) ∨ (20000 < (pgB q).length ∧ ∃ e, u = .tuple [.nils, e] ∧ Refd g e)) := by
  obtain ⟨v, g, c1, ow, x⟩ := tTextG hq ok len hb e0
  have hlen := ow.len
  by_cases hl : 20000 < (pgB q).length
  · obtain ⟨e, g2, c2, rf, x2⟩ := tRefused (I := I) g
    refine ⟨_, g2, ?_, x.trans x2, .inr ⟨hl, e, rfl, rf⟩⟩
    have n0 : (20000 : Int) < ((pgB q).length : Int) := by omega
    refine Res.eq (f13.lim rfl (n := 3) ?_)
    unfold f13.e
    generalize ((pgB q).length : Int) = L at *
    clear hq ok len ow rf
    simp (disch := first | exact D.go | fail) [setR, List.getElem?_cons_zero, List.getElem?_cons_succ, f13.n0, f13.b0, f13.n1, f13.b1, c1, hlen, n0, c2]
  · refine ⟨_, g, ?_, x, .inl ⟨by omega, v, rfl, ow⟩⟩
    have n0 : ¬ (20000 : Int) < ((pgB q).length : Int) := by omega
    refine Res.eq (f13.lim rfl (n := 3) ?_)
    unfold f13.e
    generalize ((pgB q).length : Int) = L at *
    clear hq ok len ow
    simp (disch := first | exact D.go | fail) [setR, List.getElem?_cons_zero, List.getElem?_cons_succ, f13.n0, f13.b0, f13.n1, f13.b1, c1, hlen, n0]
end
end
end Go.Proofs.YtncjcnipagdmlaaDoor.Tx

set_option linter.unusedSimpArgs false
set_option linter.unusedVariables false
namespace Go.Proofs.YtncjcnipagdmlaaDoor.Tx
noncomputable section
open Go.AM Go.Proofs.YtncjcnipagdmlaaDoor.Sf
/-! what came in, and how much it holds -/
structure BulkOk {H : Type} (B : DataW H → Nat) : Prop where
  ptr : ∀ d, B d ≤ B (.ptr d)
  agg : ∀ ps d, d ∈ ps → B d ≤ B (.agg ps)
  len : ∀ es sp, es.length ≤ B (.slice es sp)
  elem : ∀ es sp d, d ∈ es → B d ≤ B (.slice es sp)
section
variable {α : Type} {H : Type} {enc : TypeId × Value → H} {P : Program} {W : World} {B : DataW H → Nat} {M : Nat}
def OpensM [Sig] (B : DataW H → Nat) (M : Nat) (enc : TypeId × Value → H) (P : Program) (W : World) (h0 : AHeap) (e : TypeId) (C : List AVal → α → Prop) : Prop :=
  ∀ n cs y, DataW.trod enc P W 0 (fun _ => true) true n e cs = some y → cs.length = P.cellsOf e → B y.1 ≤ M → ∃ al x, cs.map canon = al.map some ∧ C al x
theorem OpensM.of [Sig] {h0 : AHeap} {e : TypeId} {C : List AVal → α → Prop} (hC : Opens enc P W h0 e C) : OpensM B M enc P W h0 e C := fun n cs y h hc _ => hC n cs y h hc
theorem OpensM.at [Sig] {h0 : AHeap} {e : TypeId} {C : List AVal → α → Prop} (hC : OpensM B M enc P W h0 e C) {n b o : Nat} {cs : List Value} {y : DataW H × List MemPlace} (h : DataW.trod enc P W 0 (fun _ => true) true n e cs = some y) (hb : B y.1 ≤ M)
    (hl : Lies W b o cs) (hc : cs.length = P.cellsOf e) : ∃ x, At (inpOf W) h0 C (.inp (2 * b)) o x := by
  obtain ⟨al, x, ha, hx⟩ := hC n cs y h hc hb
  exact ⟨x, al, hx, hl.cells ha⟩
theorem mapM_mem {β γ : Type} {g : β → Option γ} : ∀ {l : List β} {r : List γ}, l.mapM g = some r → ∀ a ∈ l, ∃ y ∈ r, g a = some y
  | [], r, h, a, ha => by cases ha
  | b :: l, r, h, a, ha => by
    rw [List.mapM_cons] at h
    cases hb : g b with
    | none => simp [hb] at h
    | some y =>
      cases hl : l.mapM g with
      | none => simp [hb, hl] at h
      | some ys =>
        simp [hb, hl] at h
        subst h
        cases ha with
        | head => exact ⟨y, by simp, hb⟩
        | tail _ hm =>
          obtain ⟨z, hz, e⟩ := mapM_mem hl a hm
          exact ⟨z, by simp [hz], e⟩
theorem trod_fieldsM (hB : BulkOk B) {n : Nat} {t : TypeId} {l : List (TypeId × Nat)} {cs : List Value} {x : DataW H × List MemPlace} (ht : structOf P t = some l) (h : DataW.trod enc P W 0 (fun _ => true) true n t cs = some x) (hb : B x.1 ≤ M) :
    cs.length = P.cellsOf t ∧ ∃ m, ∀ p ∈ l, ∃ y, DataW.trod enc P W 0 (fun _ => true) true m p.1 ((cs.drop p.2).take (P.cellsOf p.1)) = some y ∧ B y.1 ≤ M := by
  unfold structOf at ht
  split at ht
  · rename_i fs hu
    cases ht
    cases n with
    | zero => cases h
    | succ n =>
      rw [DataW.trod_step] at h
      unfold DataW.trodStep at h
      rw [hu] at h
      split at h <;> try (rename_i e; cases e; done)
      case h_9 fs' he =>
        cases he
        split at h
        · rename_i hl
          refine ⟨hl, n, fun p hp => ?_⟩
          obtain ⟨f, hf, rfl⟩ := List.mem_map.1 hp
          rw [Option.map_eq_some_iff] at h
          obtain ⟨r, hr, rfl⟩ := h
          obtain ⟨y, hy, e⟩ := mapM_mem hr f hf
          exact ⟨y, e, Nat.le_trans (hB.agg _ _ (List.mem_map.2 ⟨y, hy, rfl⟩)) hb⟩
        · cases h
      case h_21 => exact absurd rfl (‹∀ fs' : Array Field, some (TypeDesc.struct fs) = some (TypeDesc.struct fs') → False› fs)
  · cases ht
theorem fieldM [Sig] {h0 : AHeap} {C : List AVal → α → Prop} {m : Nat} {cs : List Value} {e k sz : Nat} (hR : OpensM B M enc P W h0 e C) (hc : P.cellsOf e = sz) (hk : k + sz ≤ cs.length)
    (h : ∃ y, DataW.trod enc P W 0 (fun _ => true) true m e ((cs.drop k).take (P.cellsOf e)) = some y ∧ B y.1 ≤ M) : ∃ al x, ((cs.drop k).take sz).map canon = al.map some ∧ C al x := by
  obtain ⟨y, hy, hb⟩ := h
  rw [hc] at hy
  exact hR m _ y hy (by simp; omega) hb
theorem opensM_sl [Sig] {h0 : AHeap} {t e : TypeId} {C : List AVal → α → Prop} {S : α → Prop} {sz : Nat} (hB : BulkOk B) (ht : P.underlying t = some (.slice e)) (hsz : P.cellsOf e = sz) (hc : 0 < sz) (hR : OpensM B M enc P W h0 e fun cs x => C cs x ∧ S x) :
    OpensM B M enc P W h0 t fun cs xs => SlC sz (At (inpOf W) h0 C) cs xs ∧ (xs.length ≤ M ∧ ∀ x ∈ xs, S x) := by
  intro n cs y h _ hbk
  rcases Go.Deep.open_slice ht h with ⟨rfl, _⟩ | ⟨a, len, cap, m, n', D, Pl, rfl, _, hl, hmx, hm, rfl, hx⟩
  · exact ⟨_, [], rfl, ⟨_, rfl, SlOf.nil⟩, by simp, by simp⟩
  · rcases Nat.eq_zero_or_pos cap with hz | hz
    · subst hz
      obtain rfl : len = 0 := by omega
      refine ⟨[.sl (.inp 0) 0 0 (.known 0)], [], rfl, ⟨_, rfl, .inr ⟨.inp 0, 0, .known 0, rfl, fun m hm => ?_, ⟨by simp, fun _ => ⟨0, rfl⟩⟩, fun i x h => by simp at h⟩⟩, by simp, by simp⟩
      simp at hm; subst hm; rfl
    · have hmc : m = cap := by simpa using hm
      have cell : ∀ i, i < m → ∃ cs', DataW.trod enc P W 0 (fun _ => true) true n' e cs' = some (D i, Pl i) ∧ cs'.length = P.cellsOf e ∧ ∀ j, j < cs'.length → W.cell? ((a.add (i * P.cellsOf e)).add j) = cs'[j]? := by
        intro i hi
        obtain ⟨cs', h1, h2⟩ := hx i hi
        obtain ⟨_, hlen, hget⟩ := World.cells?_some h1
        exact ⟨cs', h2, hlen, fun j hj => by rw [hget j (by omega)]⟩
      have hsp : a.spot = none := by
        obtain ⟨cs', _, hlen, hg⟩ := cell 0 (by omega)
        have := hg 0 (by omega)
        rw [Nat.zero_mul, show (a.add 0).add 0 = a from rfl, List.getElem?_eq_getElem (by omega)] at this
        unfold World.cell? at this
        split at this
        · cases hs : a.spot with
          | none => rfl
          | some s => rw [hs] at this; cases this
        · cases this
      obtain ⟨b, o, sp⟩ := a
      simp only at hsp
      subst hsp
      obtain ⟨xs, hlx, hxs⟩ := choose_list (R := fun i x => At (inpOf W) h0 (fun cs x => C cs x ∧ S x) (.inp (2 * b)) (o + i * P.cellsOf e) x) len fun i hi => by
        obtain ⟨cs', h2, hlen, hg⟩ := cell i (by omega)
        refine hR.at h2 ?_ (fun j hj => ?_) hlen
        · refine Nat.le_trans (hB.elem _ _ _ ?_) hbk
          exact List.mem_map.2 ⟨i, List.mem_range.2 hi, rfl⟩
        · rw [← hg j hj, addr_add, addr_add]
      refine ⟨[.sl (.inp (2 * b)) o len (.known cap)], xs, by simp [canon_sl hl hz], ⟨_, rfl, .inr ⟨_, _, _, by rw [hlx], fun m hm => ?_, ?_, fun i x hi => ?_⟩⟩, ?_, fun x hx => ?_⟩
      · rw [hlx] at hm
        exact Nat.ble_eq_true_of_le (by omega)
      · exact ⟨by rw [hlx]; simp only [maxLen] at hmx; omega, fun _ => ⟨_, rfl⟩⟩
      · rw [← hsz]; exact At.mono (fun _ _ h => h.1) (hxs i x hi) (Ext.refl _)
      · have h1 := Nat.le_trans (hB.len _ _) hbk
        rw [List.length_map, List.length_range] at h1
        omega
      · obtain ⟨i, hi⟩ := List.getElem?_of_mem hx
        obtain ⟨_, h1, _⟩ := hxs i x hi
        exact h1.2
variable [Sig] {T : TyIds} {h0 : AHeap}
def insS (M : Nat) (i : Ins) : Prop := i.args.length ≤ M
def bkS (M : Nat) (b : Bk) : Prop := b.code.length ≤ M ∧ ∀ i ∈ b.code, insS M i
def fuS (M : Nat) (f : Fu) : Prop := f.blocks.length ≤ M ∧ ∀ b ∈ f.blocks, bkS M b
def pgS (M : Nat) (q : Pg) : Prop := q.funcs.length ≤ M ∧ ∀ f ∈ q.funcs, fuS M f
theorem opensM_is (hB : BulkOk B) (K : T.Ok P) : OpensM (α := List Int) B M enc P W h0 T.ints fun cs xs => SlC 1 (IntA (inpOf W) h0) cs xs ∧ (xs.length ≤ M ∧ ∀ x ∈ xs, True) := opensM_sl (S := fun _ => True) hB K.ints K.intC (by omega) (fun n cs y h hc _ => by
  obtain ⟨al, x, a, b⟩ := opens_i (h0 := h0) K n cs y h hc
  exact ⟨al, x, a, b, trivial⟩)
theorem opensM_ins (hB : BulkOk B) (K : T.Ok P) : OpensM (α := Ins) B M enc P W h0 T.ins fun cs x => InsC (inpOf W) h0 cs x ∧ insS M x := by
  intro n cs y h hc hbk
  rw [K.insC] at hc
  obtain ⟨_, m, hm⟩ := trod_fieldsM hB K.ins h hbk
  obtain ⟨a0, x0, e0, q0⟩ := fieldM (OpensM.of (opens_i (h0 := h0) K)) K.intC (k := 0) (by omega) (hm (T.int, 0) (by simp))
  obtain ⟨a1, x1, e1, q1⟩ := fieldM (OpensM.of (opens_i (h0 := h0) K)) K.intC (k := 1) (by omega) (hm (T.int, 1) (by simp))
  obtain ⟨a2, x2, e2, q2⟩ := fieldM (OpensM.of (opens_i (h0 := h0) K)) K.intC (k := 2) (by omega) (hm (T.int, 2) (by simp))
  obtain ⟨a3, x3, e3, q3⟩ := fieldM (OpensM.of (opens_i (h0 := h0) K)) K.intC (k := 3) (by omega) (hm (T.int, 3) (by simp))
  obtain ⟨a4, x4, e4, q4⟩ := fieldM (OpensM.of (opens_i (h0 := h0) K)) K.intC (k := 4) (by omega) (hm (T.int, 4) (by simp))
  obtain ⟨a5, x5, e5, q5⟩ := fieldM (opensM_is (M := M) (h0 := h0) hB K) K.intsC (k := 5) (by omega) (hm (T.ints, 5) (by simp))
  have ecs : cs = (cs.drop 0).take 1 ++ (cs.drop 1).take 1 ++ (cs.drop 2).take 1 ++ (cs.drop 3).take 1 ++ (cs.drop 4).take 1 ++ (cs.drop 5).take 1 := by
    match cs, hc with
    | [c0, c1, c2, c3, c4, c5], _ => rfl
  have em : cs.map canon = (a0 ++ a1 ++ a2 ++ a3 ++ a4 ++ a5).map some := by
    rw [ecs]
    simp only [List.map_append, e0, e1, e2, e3, e4, e5]
  obtain ⟨rfl, r0⟩ := q0
  obtain ⟨rfl, r1⟩ := q1
  obtain ⟨rfl, r2⟩ := q2
  obtain ⟨rfl, r3⟩ := q3
  obtain ⟨rfl, r4⟩ := q4
  obtain ⟨⟨v5, rfl, s5⟩, l5⟩ := q5
  exact ⟨_, ⟨x0, x1, x2, x3, x4, x5⟩, em, ⟨v5, rfl, s5, r0, r1, r2, r3, r4⟩, l5.1⟩
theorem opensM_inss (hB : BulkOk B) (K : T.Ok P) : OpensM (α := List Ins) B M enc P W h0 T.inss fun cs xs => SlC 6 (At (inpOf W) h0 (InsC (inpOf W) h0)) cs xs ∧ (xs.length ≤ M ∧ ∀ x ∈ xs, insS M x) := opensM_sl hB K.inss K.insC (by omega) (opensM_ins hB K)
theorem opensM_bk (hB : BulkOk B) (K : T.Ok P) : OpensM (α := Bk) B M enc P W h0 T.bk fun cs x => BkC (inpOf W) h0 cs x ∧ bkS M x := by
  intro n cs y h hc hbk
  rw [K.bkC] at hc
  obtain ⟨_, m, hm⟩ := trod_fieldsM hB K.bk h hbk
  obtain ⟨a0, x0, e0, q0⟩ := fieldM (opensM_inss (M := M) (h0 := h0) hB K) K.inssC (k := 0) (by omega) (hm (T.inss, 0) (by simp))
  obtain ⟨a1, x1, e1, q1⟩ := fieldM (OpensM.of (opens_i (h0 := h0) K)) K.intC (k := 1) (by omega) (hm (T.int, 1) (by simp))
  obtain ⟨a2, x2, e2, q2⟩ := fieldM (OpensM.of (opens_i (h0 := h0) K)) K.intC (k := 2) (by omega) (hm (T.int, 2) (by simp))
  obtain ⟨a3, x3, e3, q3⟩ := fieldM (OpensM.of (opens_i (h0 := h0) K)) K.intC (k := 3) (by omega) (hm (T.int, 3) (by simp))
  obtain ⟨a4, x4, e4, q4⟩ := fieldM (OpensM.of (opens_i (h0 := h0) K)) K.intC (k := 4) (by omega) (hm (T.int, 4) (by simp))
  have ecs : cs = (cs.drop 0).take 1 ++ (cs.drop 1).take 1 ++ (cs.drop 2).take 1 ++ (cs.drop 3).take 1 ++ (cs.drop 4).take 1 := by
    match cs, hc with
    | [c0, c1, c2, c3, c4], _ => rfl
  have em : cs.map canon = (a0 ++ a1 ++ a2 ++ a3 ++ a4).map some := by
    rw [ecs]
    simp only [List.map_append, e0, e1, e2, e3, e4]
  obtain ⟨⟨v0, rfl, s0⟩, l0⟩ := q0
  obtain ⟨rfl, r1⟩ := q1
  obtain ⟨rfl, r2⟩ := q2
  obtain ⟨rfl, r3⟩ := q3
  obtain ⟨rfl, r4⟩ := q4
  exact ⟨_, ⟨x0, x1, x2, x3, x4⟩, em, ⟨v0, rfl, s0, r1, r2, r3, r4⟩, l0⟩
theorem opensM_bks (hB : BulkOk B) (K : T.Ok P) : OpensM (α := List Bk) B M enc P W h0 T.bks fun cs xs => SlC 5 (At (inpOf W) h0 (BkC (inpOf W) h0)) cs xs ∧ (xs.length ≤ M ∧ ∀ x ∈ xs, bkS M x) := opensM_sl hB K.bks K.bkC (by omega) (opensM_bk hB K)
theorem opensM_fu (hB : BulkOk B) (K : T.Ok P) : OpensM (α := Fu) B M enc P W h0 T.fu fun cs x => FuC (inpOf W) h0 cs x ∧ fuS M x := by
  intro n cs y h hc hbk
  rw [K.fuC] at hc
  obtain ⟨_, m, hm⟩ := trod_fieldsM hB K.fu h hbk
  obtain ⟨a0, x0, e0, q0⟩ := fieldM (OpensM.of (opens_i (h0 := h0) K)) K.intC (k := 0) (by omega) (hm (T.int, 0) (by simp))
  obtain ⟨a1, x1, e1, q1⟩ := fieldM (OpensM.of (opens_tys (h0 := h0) K)) K.tysC (k := 1) (by omega) (hm (T.tys, 1) (by simp))
  obtain ⟨a2, x2, e2, q2⟩ := fieldM (opensM_bks (M := M) (h0 := h0) hB K) K.bksC (k := 2) (by omega) (hm (T.bks, 2) (by simp))
  have ecs : cs = (cs.drop 0).take 1 ++ (cs.drop 1).take 1 ++ (cs.drop 2).take 1 := by
    match cs, hc with
    | [c0, c1, c2], _ => rfl
  have em : cs.map canon = (a0 ++ a1 ++ a2).map some := by
    rw [ecs]
    simp only [List.map_append, e0, e1, e2]
  obtain ⟨rfl, r0⟩ := q0
  obtain ⟨v1, rfl, s1⟩ := q1
  obtain ⟨⟨v2, rfl, s2⟩, l2⟩ := q2
  exact ⟨_, ⟨x0, x1, x2⟩, em, ⟨v1, v2, rfl, r0, s1, s2⟩, l2⟩
theorem opensM_fus (hB : BulkOk B) (K : T.Ok P) : OpensM (α := List Fu) B M enc P W h0 T.fus fun cs xs => SlC 3 (At (inpOf W) h0 (FuC (inpOf W) h0)) cs xs ∧ (xs.length ≤ M ∧ ∀ x ∈ xs, fuS M x) := opensM_sl hB K.fus K.fuC (by omega) (opensM_fu hB K)
theorem opensM_pg (hB : BulkOk B) (K : T.Ok P) : OpensM (α := Pg) B M enc P W h0 T.pg fun cs x => PgC (inpOf W) h0 cs x ∧ pgS M x := by
  intro n cs y h hc hbk
  rw [K.pgC] at hc
  obtain ⟨_, m, hm⟩ := trod_fieldsM hB K.pg h hbk
  obtain ⟨a0, x0, e0, q0⟩ := fieldM (OpensM.of (opens_recs (h0 := h0) K)) K.recsC (k := 0) (by omega) (hm (T.recs, 0) (by simp))
  obtain ⟨a1, x1, e1, q1⟩ := fieldM (OpensM.of (opens_sgs (h0 := h0) K)) K.sgsC (k := 1) (by omega) (hm (T.sgs, 1) (by simp))
  obtain ⟨a2, x2, e2, q2⟩ := fieldM (OpensM.of (opens_faces (h0 := h0) K)) K.facesC (k := 2) (by omega) (hm (T.faces, 2) (by simp))
  obtain ⟨a3, x3, e3, q3⟩ := fieldM (OpensM.of (opens_ims (h0 := h0) K)) K.imsC (k := 3) (by omega) (hm (T.ims, 3) (by simp))
  obtain ⟨a4, x4, e4, q4⟩ := fieldM (opensM_fus (M := M) (h0 := h0) hB K) K.fusC (k := 4) (by omega) (hm (T.fus, 4) (by simp))
  obtain ⟨a5, x5, e5, q5⟩ := fieldM (OpensM.of (opens_i (h0 := h0) K)) K.intC (k := 5) (by omega) (hm (T.int, 5) (by simp))
  have ecs : cs = (cs.drop 0).take 1 ++ (cs.drop 1).take 1 ++ (cs.drop 2).take 1 ++ (cs.drop 3).take 1 ++ (cs.drop 4).take 1 ++ (cs.drop 5).take 1 := by
    match cs, hc with
    | [c0, c1, c2, c3, c4, c5], _ => rfl
  have em : cs.map canon = (a0 ++ a1 ++ a2 ++ a3 ++ a4 ++ a5).map some := by
    rw [ecs]
    simp only [List.map_append, e0, e1, e2, e3, e4, e5]
  obtain ⟨v0, rfl, s0⟩ := q0
  obtain ⟨v1, rfl, s1⟩ := q1
  obtain ⟨v2, rfl, s2⟩ := q2
  obtain ⟨v3, rfl, s3⟩ := q3
  obtain ⟨⟨v4, rfl, s4⟩, l4⟩ := q4
  obtain ⟨rfl, r5⟩ := q5
  exact ⟨_, ⟨x0, x1, x2, x3, x4, x5⟩, em, ⟨v0, v1, v2, v3, v4, rfl, r5, s0, s1, s2, s3, s4⟩, l4⟩
theorem openM_pg (hB : BulkOk B) (K : T.Ok P) {r : Reach} {b0 t : Nat} {v : Value} {d : DataW H} {p : List MemPlace} (ht : P.underlying t = some (.pointer T.pg)) (ho : Value.okWide P W r b0 t v) (h : DataW.Trod enc P W 0 (fun _ => true) true t v d p) (hbk : B d ≤ M) :
    v = .pointer none ∨ ∃ b o q, v = .pointer (some ⟨b, o, none⟩) ∧ PgA (inpOf W) h0 (.inp (2 * b)) o q ∧ pgS M q := by
  obtain ⟨a, rfl⟩ := Go.WideShapes.okWide_pointer ht ho
  cases a with
  | none => exact .inl rfl
  | some a =>
    right
    obtain ⟨n, hn⟩ := h
    cases n with
    | zero => cases hn
    | succ n =>
      rw [DataW.trod_step] at hn
      unfold DataW.trodStep at hn
      simp only [Value.cells, ht] at hn
      rw [Option.map_eq_some_iff] at hn
      obtain ⟨y, hy, hyd⟩ := hn
      rw [Option.bind_eq_some_iff] at hy
      obtain ⟨cs, hcs, hy⟩ := hy
      obtain ⟨_, hlen, hg⟩ := World.cells?_some hcs
      rw [K.pgC] at hlen hg
      have hsp : a.spot = none := by
        have := hg 0 (by omega)
        rw [show a.add 0 = a from rfl, List.getElem?_eq_getElem (by omega)] at this
        unfold World.cell? at this
        split at this
        · cases hs : a.spot with
          | none => rfl
          | some s => rw [hs] at this; cases this
        · cases this
      obtain ⟨b, o, sp⟩ := a
      simp only at hsp
      subst hsp
      cases hyd
      obtain ⟨q, cs, hq, hc⟩ := (opensM_pg (h0 := h0) hB K).at (b := b) (o := o) hy (Nat.le_trans (hB.ptr _) hbk) (fun i hi => by rw [← hg i (by omega), addr_add]) (by rw [hlen, K.pgC])
      exact ⟨b, o, q, rfl, ⟨cs, hq.1, hc⟩, hq.2⟩
end
end
end Go.Proofs.YtncjcnipagdmlaaDoor.Tx

set_option linter.unusedSimpArgs false
set_option linter.unusedVariables false
namespace Go.Proofs.YtncjcnipagdmlaaDoor.Tx
noncomputable section
open Go.AM Go.Proofs.YtncjcnipagdmlaaDoor.Sf
/-! what came in, and how many bytes it is -/
structure BulkW {H : Type} (B : DataW H → Nat) : Prop where
  one : ∀ d, 1 ≤ B d
  ptr : ∀ d, B d ≤ B (.ptr d)
  agg : ∀ ps, (ps.map B).sum ≤ B (.agg ps)
  slice : ∀ es sp, (es.map B).sum + 1 ≤ B (.slice es sp)
section
variable {α : Type} {H : Type} {enc : TypeId × Value → H} {P : Program} {W : World} {B : DataW H → Nat}
def OpensW [Sig] (B : DataW H → Nat) (enc : TypeId × Value → H) (P : Program) (W : World) (h0 : AHeap) (e : TypeId) (C : List AVal → α → Prop) (en : α → List Nat) (ok : α → Prop) : Prop :=
  ∀ n cs y, DataW.trod enc P W 0 (fun _ => true) true n e cs = some y → cs.length = P.cellsOf e → ∃ al x, cs.map canon = al.map some ∧ C al x ∧ (en x).length ≤ 10 * B y.1 ∧ (B y.1 ≤ 1048576 → ok x)
theorem mapM_idx {β γ : Type} {g : β → Option γ} : ∀ {l : List β} {r : List γ}, l.mapM g = some r → r.length = l.length ∧ ∀ (i : Nat) (a : β) (y : γ), l[i]? = some a → r[i]? = some y → g a = some y
  | [], r, h => by
    simp at h; subst h
    exact ⟨rfl, fun i a y h => by simp at h⟩
  | b :: l, r, h => by
    rw [List.mapM_cons] at h
    cases hb : g b with
    | none => simp [hb] at h
    | some y =>
      cases hl : l.mapM g with
      | none => simp [hb, hl] at h
      | some ys =>
        simp [hb, hl] at h
        subst h
        obtain ⟨i1, i2⟩ := mapM_idx hl
        refine ⟨by simp [i1], fun i a z ha hz => ?_⟩
        cases i with
        | zero => simp at ha hz; subst ha hz; exact hb
        | succ i => simp at ha hz; exact i2 i a z ha hz
theorem trod_fieldsW (hB : BulkW B) {n : Nat} {t : TypeId} {l : List (TypeId × Nat)} {cs : List Value} {x : DataW H × List MemPlace} (ht : structOf P t = some l) (h : DataW.trod enc P W 0 (fun _ => true) true n t cs = some x) :
    ∃ (m : Nat) (ys : List (DataW H × List MemPlace)), ys.length = l.length ∧ (∀ (i : Nat) (p : TypeId × Nat) (y : DataW H × List MemPlace), l[i]? = some p → ys[i]? = some y → DataW.trod enc P W 0 (fun _ => true) true m p.1 ((cs.drop p.2).take (P.cellsOf p.1)) = some y) ∧ (ys.map fun y => B y.1).sum ≤ B x.1 := by
  unfold structOf at ht
  split at ht
  · rename_i fs hu
    cases ht
    cases n with
    | zero => cases h
    | succ n =>
      rw [DataW.trod_step] at h
      unfold DataW.trodStep at h
      rw [hu] at h
      split at h <;> try (rename_i e; cases e; done)
      case h_9 fs' he =>
        cases he
        split at h
        · rename_i hl
          rw [Option.map_eq_some_iff] at h
          obtain ⟨r, hr, rfl⟩ := h
          obtain ⟨i1, i2⟩ := mapM_idx hr
          refine ⟨n, r, by simp [i1], fun i p y hp hy => ?_, ?_⟩
          · rw [List.getElem?_map, Option.map_eq_some_iff] at hp
            obtain ⟨f, hf, rfl⟩ := hp
            exact i2 i f y hf hy
          · have := hB.agg (r.map Prod.fst)
            rw [List.map_map] at this
            exact this
        · cases h
      case h_21 => exact absurd rfl (‹∀ fs' : Array Field, some (TypeDesc.struct fs) = some (TypeDesc.struct fs') → False› fs)
  · cases ht
theorem fieldW [Sig] {h0 : AHeap} {C : List AVal → α → Prop} {en : α → List Nat} {ok : α → Prop} {m : Nat} {cs : List Value} {e k sz : Nat} {y : DataW H × List MemPlace} (hR : OpensW B enc P W h0 e C en ok) (hc : P.cellsOf e = sz) (hk : k + sz ≤ cs.length)
    (hy : DataW.trod enc P W 0 (fun _ => true) true m e ((cs.drop k).take (P.cellsOf e)) = some y) : ∃ al x, ((cs.drop k).take sz).map canon = al.map some ∧ C al x ∧ (en x).length ≤ 10 * B y.1 ∧ (B y.1 ≤ 1048576 → ok x) := by
  rw [hc] at hy
  exact hR m _ y hy (by simp; omega)
theorem sum_flat {en : α → List Nat} : ∀ (xs : List α) (f : Nat → Nat), (∀ i x, xs[i]? = some x → (en x).length ≤ 10 * f i) → (xs.flatMap en).length ≤ 10 * ((List.range xs.length).map f).sum
  | [], f, _ => by simp
  | x :: xs, f, h => by
    have h1 := h 0 x rfl
    have h2 := sum_flat xs (fun i => f (i + 1)) fun i y hy => h (i + 1) y (by simpa using hy)
    rw [List.length_cons, List.range_succ_eq_map, List.map_cons, List.sum_cons, List.map_map, List.flatMap_cons, List.length_append]
    have : (f ∘ Nat.succ) = fun i => f (i + 1) := rfl
    rw [this]; omega
theorem opensW_sl [Sig] {h0 : AHeap} {t e : TypeId} {C : List AVal → α → Prop} {en : α → List Nat} {ok : α → Prop} {sz : Nat} (hB : BulkW B) (ht : P.underlying t = some (.slice e)) (hsz : P.cellsOf e = sz) (hc : 0 < sz) (hR : OpensW B enc P W h0 e C en ok) :
    OpensW B enc P W h0 t (SlC sz (At (inpOf W) h0 C)) (listB en) (AllOk ok) := by
  intro n cs y h _
  have e0 : (listB en ([] : List α)).length = 1 := by show (numB 0 ++ []).length = 1; rw [List.append_nil, numB0]; rfl
  have ek : AllOk ok ([] : List α) := ⟨by simp, fun x hx => by (simp at hx)⟩
  rcases Go.Deep.open_slice ht h with ⟨rfl, _⟩ | ⟨a, len, cap, m, n', D, Pl, rfl, _, hl, hmx, hm, rfl, hx⟩
  · exact ⟨_, [], rfl, ⟨_, rfl, SlOf.nil⟩, by rw [e0]; have := hB.one y.1; omega, fun _ => ek⟩
  · rcases Nat.eq_zero_or_pos cap with hz | hz
    · subst hz
      obtain rfl : len = 0 := by omega
      refine ⟨[.sl (.inp 0) 0 0 (.known 0)], [], rfl, ⟨_, rfl, .inr ⟨.inp 0, 0, .known 0, rfl, fun m hm => ?_, ⟨by simp, fun _ => ⟨0, rfl⟩⟩, fun i x h => by simp at h⟩⟩, by rw [e0]; exact Nat.le_trans (hB.one _) (Nat.le_mul_of_pos_left _ (by omega)), fun _ => ek⟩
      simp at hm; subst hm; rfl
    · have hmc : m = cap := by simpa using hm
      have cell : ∀ i, i < m → ∃ cs', DataW.trod enc P W 0 (fun _ => true) true n' e cs' = some (D i, Pl i) ∧ cs'.length = P.cellsOf e ∧ ∀ j, j < cs'.length → W.cell? ((a.add (i * P.cellsOf e)).add j) = cs'[j]? := by
        intro i hi
        obtain ⟨cs', h1, h2⟩ := hx i hi
        obtain ⟨_, hlen, hget⟩ := World.cells?_some h1
        exact ⟨cs', h2, hlen, fun j hj => by rw [hget j (by omega)]⟩
      have hsp : a.spot = none := by
        obtain ⟨cs', _, hlen, hg⟩ := cell 0 (by omega)
        have := hg 0 (by omega)
        rw [Nat.zero_mul, show (a.add 0).add 0 = a from rfl, List.getElem?_eq_getElem (by omega)] at this
        unfold World.cell? at this
        split at this
        · cases hs : a.spot with
          | none => rfl
          | some s => rw [hs] at this; cases this
        · cases this
      obtain ⟨b, o, sp⟩ := a
      simp only at hsp
      subst hsp
      obtain ⟨xs, hlx, hxs⟩ := choose_list (R := fun i x => At (inpOf W) h0 C (.inp (2 * b)) (o + i * P.cellsOf e) x ∧ (en x).length ≤ 10 * B (D i) ∧ (B (D i) ≤ 1048576 → ok x)) len fun i hi => by
        obtain ⟨cs', h2, hlen, hg⟩ := cell i (by omega)
        obtain ⟨al, x, ha, hx, hw, ho⟩ := hR _ _ _ h2 hlen
        have hli : Lies W b (o + i * P.cellsOf e) cs' := fun j hj => by rw [← hg j hj, addr_add, addr_add]
        exact ⟨x, ⟨al, hx, hli.cells ha⟩, hw, ho⟩
      have hsl := hB.slice ((List.range len).map D)
      have hsum := sum_flat xs (fun i => B (D i)) fun i x hi => (hxs i x hi).2.1
      rw [List.map_map] at hsl
      have hfun : (B ∘ D) = fun i => B (D i) := rfl
      rw [hfun] at hsl
      rw [hlx] at hsum
      have hle : len ≤ ((List.range len).map fun i => B (D i)).sum := by
        have : ∀ l : List Nat, l.length ≤ (l.map fun i => B (D i)).sum := by
          intro l
          induction l with
          | nil => simp
          | cons a r ih => have := hB.one (D a); simp only [List.length_cons, List.map_cons, List.sum_cons]; omega
        simpa using this (List.range len)
      have hpart : ∀ i, i < len → B (D i) ≤ ((List.range len).map fun i => B (D i)).sum := by
        have : ∀ l : List Nat, ∀ i ∈ l, B (D i) ≤ (l.map fun i => B (D i)).sum := by
          intro l
          induction l with
          | nil => intro i hi; cases hi
          | cons a r ih =>
            intro i hi
            simp only [List.map_cons, List.sum_cons]
            rcases List.mem_cons.1 hi with rfl | hi
            · omega
            · have := ih i hi; omega
        exact fun i hi => this _ i (List.mem_range.2 hi)
      refine ⟨[.sl (.inp (2 * b)) o len (.known cap)], xs, by simp [canon_sl hl hz], ⟨_, rfl, .inr ⟨_, _, _, by rw [hlx], fun m hm => ?_, ?_, fun i x hi => ?_⟩⟩, ?_, fun hk => ⟨?_, fun x hx => ?_⟩⟩
      · rw [hlx] at hm
        exact Nat.ble_eq_true_of_le (by omega)
      · exact ⟨by rw [hlx]; simp only [maxLen] at hmx; omega, fun _ => ⟨_, rfl⟩⟩
      · rw [← hsz]; exact (hxs i x hi).1
      · have hn := numB_len (n := (xs.length : Int)) ⟨by omega, by rw [hlx]; simp only [maxLen] at hmx; omega⟩
        unfold listB
        rw [List.length_append]
        refine Nat.le_trans ?_ (Nat.mul_le_mul_left 10 (hsl _))
        omega
      · have := Nat.le_trans (hsl _) hk; omega
      · obtain ⟨i, hi⟩ := List.getElem?_of_mem hx
        refine (hxs i x hi).2.2 ?_
        have := hpart i (by rw [← hlx]; exact (List.getElem?_eq_some_iff.1 hi).1)
        have := Nat.le_trans (hsl _) hk; omega
variable [Sig] {T : TyIds} {h0 : AHeap}
theorem opensW_i (hB : BulkW B) (K : T.Ok P) : OpensW (α := Int) B enc P W h0 T.int IntC numB InR := by
  intro n cs y h hc
  obtain ⟨al, x, a, b⟩ := opens_i (h0 := h0) K n cs y h hc
  exact ⟨al, x, a, b, by have := numB_len b.2; have := hB.one y.1; omega, fun _ => b.2⟩
theorem opensW_is (hB : BulkW B) (K : T.Ok P) : OpensW (α := List Int) B enc P W h0 T.ints (SlC 1 (IntA (inpOf W) h0)) numsB (AllOk InR) := opensW_sl hB K.ints K.intC (by omega) (opensW_i hB K)
theorem opensW_ty (hB : BulkW B) (K : T.Ok P) : OpensW (α := Ty) B enc P W h0 T.ty (TyC) tyB TyR := by
  intro n cs y h hc
  rw [K.tyC] at hc
  obtain ⟨m, ys, hl, hm, hs⟩ := trod_fieldsW hB K.ty h
  obtain ⟨y0, y1, rfl⟩ : ∃ y0 y1, ys = [y0, y1] := by
    match ys, hl with
    | [y0, y1], _ => exact ⟨y0, y1, rfl⟩
  simp only [List.map_cons, List.map_nil, List.sum_cons, List.sum_nil] at hs
  obtain ⟨a0, x0, e0, q0, w0, o0⟩ := fieldW (opensW_i (h0 := h0) hB K) K.intC (k := 0) (by omega) (hm 0 (T.int, 0) y0 rfl rfl)
  obtain ⟨a1, x1, e1, q1, w1, o1⟩ := fieldW (opensW_i (h0 := h0) hB K) K.intC (k := 1) (by omega) (hm 1 (T.int, 1) y1 rfl rfl)
  have ecs : cs = (cs.drop 0).take 1 ++ (cs.drop 1).take 1 := by
    match cs, hc with
    | [c0, c1], _ => rfl
  have em : cs.map canon = (a0 ++ a1).map some := by
    rw [ecs]
    simp only [List.map_append, e0, e1]
  obtain ⟨rfl, r0⟩ := q0
  obtain ⟨rfl, r1⟩ := q1
  refine ⟨_, ⟨x0, x1⟩, em, ⟨rfl, r0, r1⟩, ?_, fun hk => ⟨r0, r1⟩⟩
  · unfold tyB; simp only [List.length_append] at *; omega
theorem opensW_tys (hB : BulkW B) (K : T.Ok P) : OpensW (α := List Ty) B enc P W h0 T.tys (SlC 2 (At (inpOf W) h0 TyC)) typesB (AllOk TyR) := opensW_sl hB K.tys K.tyC (by omega) (opensW_ty hB K)
theorem opensW_recs (hB : BulkW B) (K : T.Ok P) : OpensW (α := List (List Ty)) B enc P W h0 T.recs (SlC 1 (At (inpOf W) h0 (SlC 2 (At (inpOf W) h0 TyC)))) (listB typesB) (AllOk (AllOk TyR)) := opensW_sl hB K.recs K.tysC (by omega) (opensW_tys hB K)
theorem opensW_ins (hB : BulkW B) (K : T.Ok P) : OpensW (α := Ins) B enc P W h0 T.ins (InsC (inpOf W) h0) insB InsR := by
  intro n cs y h hc
  rw [K.insC] at hc
  obtain ⟨m, ys, hl, hm, hs⟩ := trod_fieldsW hB K.ins h
  obtain ⟨y0, y1, y2, y3, y4, y5, rfl⟩ : ∃ y0 y1 y2 y3 y4 y5, ys = [y0, y1, y2, y3, y4, y5] := by
    match ys, hl with
    | [y0, y1, y2, y3, y4, y5], _ => exact ⟨y0, y1, y2, y3, y4, y5, rfl⟩
  simp only [List.map_cons, List.map_nil, List.sum_cons, List.sum_nil] at hs
  obtain ⟨a0, x0, e0, q0, w0, o0⟩ := fieldW (opensW_i (h0 := h0) hB K) K.intC (k := 0) (by omega) (hm 0 (T.int, 0) y0 rfl rfl)
  obtain ⟨a1, x1, e1, q1, w1, o1⟩ := fieldW (opensW_i (h0 := h0) hB K) K.intC (k := 1) (by omega) (hm 1 (T.int, 1) y1 rfl rfl)
  obtain ⟨a2, x2, e2, q2, w2, o2⟩ := fieldW (opensW_i (h0 := h0) hB K) K.intC (k := 2) (by omega) (hm 2 (T.int, 2) y2 rfl rfl)
  obtain ⟨a3, x3, e3, q3, w3, o3⟩ := fieldW (opensW_i (h0 := h0) hB K) K.intC (k := 3) (by omega) (hm 3 (T.int, 3) y3 rfl rfl)
  obtain ⟨a4, x4, e4, q4, w4, o4⟩ := fieldW (opensW_i (h0 := h0) hB K) K.intC (k := 4) (by omega) (hm 4 (T.int, 4) y4 rfl rfl)
  obtain ⟨a5, x5, e5, q5, w5, o5⟩ := fieldW (opensW_is (h0 := h0) hB K) K.intsC (k := 5) (by omega) (hm 5 (T.ints, 5) y5 rfl rfl)
  have ecs : cs = (cs.drop 0).take 1 ++ (cs.drop 1).take 1 ++ (cs.drop 2).take 1 ++ (cs.drop 3).take 1 ++ (cs.drop 4).take 1 ++ (cs.drop 5).take 1 := by
    match cs, hc with
    | [c0, c1, c2, c3, c4, c5], _ => rfl
  have em : cs.map canon = (a0 ++ a1 ++ a2 ++ a3 ++ a4 ++ a5).map some := by
    rw [ecs]
    simp only [List.map_append, e0, e1, e2, e3, e4, e5]
  obtain ⟨rfl, r0⟩ := q0
  obtain ⟨rfl, r1⟩ := q1
  obtain ⟨rfl, r2⟩ := q2
  obtain ⟨rfl, r3⟩ := q3
  obtain ⟨rfl, r4⟩ := q4
  obtain ⟨v5, rfl, s5⟩ := q5
  refine ⟨_, ⟨x0, x1, x2, x3, x4, x5⟩, em, ⟨v5, rfl, s5, r0, r1, r2, r3, r4⟩, ?_, fun hk => ⟨r0, r1, r2, r3, r4, o5 (by omega)⟩⟩
  · unfold insB; simp only [List.length_append] at *; omega
theorem opensW_inss (hB : BulkW B) (K : T.Ok P) : OpensW (α := List Ins) B enc P W h0 T.inss (SlC 6 (At (inpOf W) h0 (InsC (inpOf W) h0))) (listB insB) (AllOk InsR) := opensW_sl hB K.inss K.insC (by omega) (opensW_ins hB K)
theorem opensW_bk (hB : BulkW B) (K : T.Ok P) : OpensW (α := Bk) B enc P W h0 T.bk (BkC (inpOf W) h0) blkB BkR := by
  intro n cs y h hc
  rw [K.bkC] at hc
  obtain ⟨m, ys, hl, hm, hs⟩ := trod_fieldsW hB K.bk h
  obtain ⟨y0, y1, y2, y3, y4, rfl⟩ : ∃ y0 y1 y2 y3 y4, ys = [y0, y1, y2, y3, y4] := by
    match ys, hl with
    | [y0, y1, y2, y3, y4], _ => exact ⟨y0, y1, y2, y3, y4, rfl⟩
  simp only [List.map_cons, List.map_nil, List.sum_cons, List.sum_nil] at hs
  obtain ⟨a0, x0, e0, q0, w0, o0⟩ := fieldW (opensW_inss (h0 := h0) hB K) K.inssC (k := 0) (by omega) (hm 0 (T.inss, 0) y0 rfl rfl)
  obtain ⟨a1, x1, e1, q1, w1, o1⟩ := fieldW (opensW_i (h0 := h0) hB K) K.intC (k := 1) (by omega) (hm 1 (T.int, 1) y1 rfl rfl)
  obtain ⟨a2, x2, e2, q2, w2, o2⟩ := fieldW (opensW_i (h0 := h0) hB K) K.intC (k := 2) (by omega) (hm 2 (T.int, 2) y2 rfl rfl)
  obtain ⟨a3, x3, e3, q3, w3, o3⟩ := fieldW (opensW_i (h0 := h0) hB K) K.intC (k := 3) (by omega) (hm 3 (T.int, 3) y3 rfl rfl)
  obtain ⟨a4, x4, e4, q4, w4, o4⟩ := fieldW (opensW_i (h0 := h0) hB K) K.intC (k := 4) (by omega) (hm 4 (T.int, 4) y4 rfl rfl)
  have ecs : cs = (cs.drop 0).take 1 ++ (cs.drop 1).take 1 ++ (cs.drop 2).take 1 ++ (cs.drop 3).take 1 ++ (cs.drop 4).take 1 := by
    match cs, hc with
    | [c0, c1, c2, c3, c4], _ => rfl
  have em : cs.map canon = (a0 ++ a1 ++ a2 ++ a3 ++ a4).map some := by
    rw [ecs]
    simp only [List.map_append, e0, e1, e2, e3, e4]
  obtain ⟨v0, rfl, s0⟩ := q0
  obtain ⟨rfl, r1⟩ := q1
  obtain ⟨rfl, r2⟩ := q2
  obtain ⟨rfl, r3⟩ := q3
  obtain ⟨rfl, r4⟩ := q4
  refine ⟨_, ⟨x0, x1, x2, x3, x4⟩, em, ⟨v0, rfl, s0, r1, r2, r3, r4⟩, ?_, fun hk => ⟨o0 (by omega), r1, r2, r3, r4⟩⟩
  · unfold blkB; unfold listB at w0; simp only [List.length_append] at *; omega
theorem opensW_bks (hB : BulkW B) (K : T.Ok P) : OpensW (α := List Bk) B enc P W h0 T.bks (SlC 5 (At (inpOf W) h0 (BkC (inpOf W) h0))) (listB blkB) (AllOk BkR) := opensW_sl hB K.bks K.bkC (by omega) (opensW_bk hB K)
theorem opensW_fu (hB : BulkW B) (K : T.Ok P) : OpensW (α := Fu) B enc P W h0 T.fu (FuC (inpOf W) h0) fuB FuR := by
  intro n cs y h hc
  rw [K.fuC] at hc
  obtain ⟨m, ys, hl, hm, hs⟩ := trod_fieldsW hB K.fu h
  obtain ⟨y0, y1, y2, rfl⟩ : ∃ y0 y1 y2, ys = [y0, y1, y2] := by
    match ys, hl with
    | [y0, y1, y2], _ => exact ⟨y0, y1, y2, rfl⟩
  simp only [List.map_cons, List.map_nil, List.sum_cons, List.sum_nil] at hs
  obtain ⟨a0, x0, e0, q0, w0, o0⟩ := fieldW (opensW_i (h0 := h0) hB K) K.intC (k := 0) (by omega) (hm 0 (T.int, 0) y0 rfl rfl)
  obtain ⟨a1, x1, e1, q1, w1, o1⟩ := fieldW (opensW_tys (h0 := h0) hB K) K.tysC (k := 1) (by omega) (hm 1 (T.tys, 1) y1 rfl rfl)
  obtain ⟨a2, x2, e2, q2, w2, o2⟩ := fieldW (opensW_bks (h0 := h0) hB K) K.bksC (k := 2) (by omega) (hm 2 (T.bks, 2) y2 rfl rfl)
  have ecs : cs = (cs.drop 0).take 1 ++ (cs.drop 1).take 1 ++ (cs.drop 2).take 1 := by
    match cs, hc with
    | [c0, c1, c2], _ => rfl
  have em : cs.map canon = (a0 ++ a1 ++ a2).map some := by
    rw [ecs]
    simp only [List.map_append, e0, e1, e2]
  obtain ⟨rfl, r0⟩ := q0
  obtain ⟨v1, rfl, s1⟩ := q1
  obtain ⟨v2, rfl, s2⟩ := q2
  refine ⟨_, ⟨x0, x1, x2⟩, em, ⟨v1, v2, rfl, r0, s1, s2⟩, ?_, fun hk => ⟨r0, o1 (by omega), o2 (by omega)⟩⟩
  · unfold fuB; unfold listB at w2; simp only [List.length_append] at *; omega
theorem opensW_fus (hB : BulkW B) (K : T.Ok P) : OpensW (α := List Fu) B enc P W h0 T.fus (SlC 3 (At (inpOf W) h0 (FuC (inpOf W) h0))) (listB fuB) (AllOk FuR) := opensW_sl hB K.fus K.fuC (by omega) (opensW_fu hB K)
theorem opensW_sg (hB : BulkW B) (K : T.Ok P) : OpensW (α := Sg) B enc P W h0 T.sg (SgC (inpOf W) h0) sgB SgR := by
  intro n cs y h hc
  rw [K.sgC] at hc
  obtain ⟨m, ys, hl, hm, hs⟩ := trod_fieldsW hB K.sg h
  obtain ⟨y0, y1, rfl⟩ : ∃ y0 y1, ys = [y0, y1] := by
    match ys, hl with
    | [y0, y1], _ => exact ⟨y0, y1, rfl⟩
  simp only [List.map_cons, List.map_nil, List.sum_cons, List.sum_nil] at hs
  obtain ⟨a0, x0, e0, q0, w0, o0⟩ := fieldW (opensW_tys (h0 := h0) hB K) K.tysC (k := 0) (by omega) (hm 0 (T.tys, 0) y0 rfl rfl)
  obtain ⟨a1, x1, e1, q1, w1, o1⟩ := fieldW (opensW_ty (h0 := h0) hB K) K.tyC (k := 1) (by omega) (hm 1 (T.ty, 1) y1 rfl rfl)
  have ecs : cs = (cs.drop 0).take 1 ++ (cs.drop 1).take 2 := by
    match cs, hc with
    | [c0, c1, c2], _ => rfl
  have em : cs.map canon = (a0 ++ a1).map some := by
    rw [ecs]
    simp only [List.map_append, e0, e1]
  obtain ⟨v0, rfl, s0⟩ := q0
  obtain ⟨rfl, r1, r2⟩ := q1
  refine ⟨_, ⟨x0, x1⟩, em, ⟨v0, rfl, s0, r1, r2⟩, ?_, fun hk => ⟨o0 (by omega), r1, r2⟩⟩
  · unfold sgB; unfold tyB at w1; simp only [List.length_append] at *; omega
theorem opensW_sgs (hB : BulkW B) (K : T.Ok P) : OpensW (α := List Sg) B enc P W h0 T.sgs (SlC 3 (At (inpOf W) h0 (SgC (inpOf W) h0))) (listB sgB) (AllOk SgR) := opensW_sl hB K.sgs K.sgC (by omega) (opensW_sg hB K)
theorem opensW_face (hB : BulkW B) (K : T.Ok P) : OpensW (α := (List Int)) B enc P W h0 T.face (SlC 1 (IntA (inpOf W) h0)) numsB (AllOk InR) := by
  intro n cs y h hc
  rw [K.faceC] at hc
  obtain ⟨m, ys, hl, hm, hs⟩ := trod_fieldsW hB K.face h
  obtain ⟨y0, rfl⟩ : ∃ y0, ys = [y0] := by
    match ys, hl with
    | [y0], _ => exact ⟨y0, rfl⟩
  simp only [List.map_cons, List.map_nil, List.sum_cons, List.sum_nil] at hs
  obtain ⟨a0, x0, e0, q0, w0, o0⟩ := fieldW (opensW_is (h0 := h0) hB K) K.intsC (k := 0) (by omega) (hm 0 (T.ints, 0) y0 rfl rfl)
  have ecs : cs = (cs.drop 0).take 1 := by
    match cs, hc with
    | [c0], _ => rfl
  have em : cs.map canon = (a0).map some := by
    rw [ecs]
    simp only [List.map_append, e0]
  refine ⟨_, x0, em, q0, ?_, fun hk => o0 (by omega)⟩
  · omega
theorem opensW_faces (hB : BulkW B) (K : T.Ok P) : OpensW (α := List (List Int)) B enc P W h0 T.faces (SlC 1 (At (inpOf W) h0 (SlC 1 (IntA (inpOf W) h0)))) (listB numsB) (AllOk (AllOk InR)) := opensW_sl hB K.faces K.faceC (by omega) (opensW_face hB K)
theorem opensW_im (hB : BulkW B) (K : T.Ok P) : OpensW (α := Im) B enc P W h0 T.im (ImC (inpOf W) h0) imB ImR := by
  intro n cs y h hc
  rw [K.imC] at hc
  obtain ⟨m, ys, hl, hm, hs⟩ := trod_fieldsW hB K.im h
  obtain ⟨y0, y1, y2, rfl⟩ : ∃ y0 y1 y2, ys = [y0, y1, y2] := by
    match ys, hl with
    | [y0, y1, y2], _ => exact ⟨y0, y1, y2, rfl⟩
  simp only [List.map_cons, List.map_nil, List.sum_cons, List.sum_nil] at hs
  obtain ⟨a0, x0, e0, q0, w0, o0⟩ := fieldW (opensW_i (h0 := h0) hB K) K.intC (k := 0) (by omega) (hm 0 (T.int, 0) y0 rfl rfl)
  obtain ⟨a1, x1, e1, q1, w1, o1⟩ := fieldW (opensW_i (h0 := h0) hB K) K.intC (k := 1) (by omega) (hm 1 (T.int, 1) y1 rfl rfl)
  obtain ⟨a2, x2, e2, q2, w2, o2⟩ := fieldW (opensW_is (h0 := h0) hB K) K.intsC (k := 2) (by omega) (hm 2 (T.ints, 2) y2 rfl rfl)
  have ecs : cs = (cs.drop 0).take 1 ++ (cs.drop 1).take 1 ++ (cs.drop 2).take 1 := by
    match cs, hc with
    | [c0, c1, c2], _ => rfl
  have em : cs.map canon = (a0 ++ a1 ++ a2).map some := by
    rw [ecs]
    simp only [List.map_append, e0, e1, e2]
  obtain ⟨rfl, r0⟩ := q0
  obtain ⟨rfl, r1⟩ := q1
  obtain ⟨v2, rfl, s2⟩ := q2
  refine ⟨_, ⟨x0, x1, x2⟩, em, ⟨v2, rfl, r0, r1, s2⟩, ?_, fun hk => ⟨r0, r1, o2 (by omega)⟩⟩
  · unfold imB; simp only [List.length_append] at *; omega
theorem opensW_ims (hB : BulkW B) (K : T.Ok P) : OpensW (α := List Im) B enc P W h0 T.ims (SlC 3 (At (inpOf W) h0 (ImC (inpOf W) h0))) (listB imB) (AllOk ImR) := opensW_sl hB K.ims K.imC (by omega) (opensW_im hB K)
theorem opensW_pg (hB : BulkW B) (K : T.Ok P) : OpensW (α := Pg) B enc P W h0 T.pg (PgC (inpOf W) h0) pgB PgR := by
  intro n cs y h hc
  rw [K.pgC] at hc
  obtain ⟨m, ys, hl, hm, hs⟩ := trod_fieldsW hB K.pg h
  obtain ⟨y0, y1, y2, y3, y4, y5, rfl⟩ : ∃ y0 y1 y2 y3 y4 y5, ys = [y0, y1, y2, y3, y4, y5] := by
    match ys, hl with
    | [y0, y1, y2, y3, y4, y5], _ => exact ⟨y0, y1, y2, y3, y4, y5, rfl⟩
  simp only [List.map_cons, List.map_nil, List.sum_cons, List.sum_nil] at hs
  obtain ⟨a0, x0, e0, q0, w0, o0⟩ := fieldW (opensW_recs (h0 := h0) hB K) K.recsC (k := 0) (by omega) (hm 0 (T.recs, 0) y0 rfl rfl)
  obtain ⟨a1, x1, e1, q1, w1, o1⟩ := fieldW (opensW_sgs (h0 := h0) hB K) K.sgsC (k := 1) (by omega) (hm 1 (T.sgs, 1) y1 rfl rfl)
  obtain ⟨a2, x2, e2, q2, w2, o2⟩ := fieldW (opensW_faces (h0 := h0) hB K) K.facesC (k := 2) (by omega) (hm 2 (T.faces, 2) y2 rfl rfl)
  obtain ⟨a3, x3, e3, q3, w3, o3⟩ := fieldW (opensW_ims (h0 := h0) hB K) K.imsC (k := 3) (by omega) (hm 3 (T.ims, 3) y3 rfl rfl)
  obtain ⟨a4, x4, e4, q4, w4, o4⟩ := fieldW (opensW_fus (h0 := h0) hB K) K.fusC (k := 4) (by omega) (hm 4 (T.fus, 4) y4 rfl rfl)
  obtain ⟨a5, x5, e5, q5, w5, o5⟩ := fieldW (opensW_i (h0 := h0) hB K) K.intC (k := 5) (by omega) (hm 5 (T.int, 5) y5 rfl rfl)
  have ecs : cs = (cs.drop 0).take 1 ++ (cs.drop 1).take 1 ++ (cs.drop 2).take 1 ++ (cs.drop 3).take 1 ++ (cs.drop 4).take 1 ++ (cs.drop 5).take 1 := by
    match cs, hc with
    | [c0, c1, c2, c3, c4, c5], _ => rfl
  have em : cs.map canon = (a0 ++ a1 ++ a2 ++ a3 ++ a4 ++ a5).map some := by
    rw [ecs]
    simp only [List.map_append, e0, e1, e2, e3, e4, e5]
  obtain ⟨v0, rfl, s0⟩ := q0
  obtain ⟨v1, rfl, s1⟩ := q1
  obtain ⟨v2, rfl, s2⟩ := q2
  obtain ⟨v3, rfl, s3⟩ := q3
  obtain ⟨v4, rfl, s4⟩ := q4
  obtain ⟨rfl, r5⟩ := q5
  refine ⟨_, ⟨x0, x1, x2, x3, x4, x5⟩, em, ⟨v0, v1, v2, v3, v4, rfl, r5, s0, s1, s2, s3, s4⟩, ?_, fun hk => ⟨o0 (by omega), o1 (by omega), o2 (by omega), o3 (by omega), o4 (by omega), r5⟩⟩
  · unfold pgB; unfold listB at w0 w1 w2 w3 w4; simp only [List.length_append] at *; omega
theorem openW_pg (hB : BulkW B) (K : T.Ok P) {r : Reach} {b0 t : Nat} {v : Value} {d : DataW H} {p : List MemPlace} (ht : P.underlying t = some (.pointer T.pg)) (ho : Value.okWide P W r b0 t v) (h : DataW.Trod enc P W 0 (fun _ => true) true t v d p) (hbk : B d ≤ 1048576) :
    v = .pointer none ∨ ∃ b o q, v = .pointer (some ⟨b, o, none⟩) ∧ PgA (inpOf W) h0 (.inp (2 * b)) o q ∧ PgR q ∧ (pgB q).length ≤ 10 * B d := by
  obtain ⟨a, rfl⟩ := Go.WideShapes.okWide_pointer ht ho
  cases a with
  | none => exact .inl rfl
  | some a =>
    right
    obtain ⟨n, hn⟩ := h
    cases n with
    | zero => cases hn
    | succ n =>
      rw [DataW.trod_step] at hn
      unfold DataW.trodStep at hn
      simp only [Value.cells, ht] at hn
      rw [Option.map_eq_some_iff] at hn
      obtain ⟨y, hy, hyd⟩ := hn
      rw [Option.bind_eq_some_iff] at hy
      obtain ⟨cs, hcs, hy⟩ := hy
      obtain ⟨_, hlen, hg⟩ := World.cells?_some hcs
      rw [K.pgC] at hlen hg
      have hsp : a.spot = none := by
        have := hg 0 (by omega)
        rw [show a.add 0 = a from rfl, List.getElem?_eq_getElem (by omega)] at this
        unfold World.cell? at this
        split at this
        · cases hs : a.spot with
          | none => rfl
          | some s => rw [hs] at this; cases this
        · cases this
      obtain ⟨b, o, sp⟩ := a
      simp only at hsp
      subst hsp
      cases hyd
      obtain ⟨al, q, ha, hx, hw, hk⟩ := opensW_pg (h0 := h0) hB K _ _ _ hy (by rw [hlen, K.pgC])
      have hp := hB.ptr y.1
      have hli : Lies W b o cs := fun i hi => by rw [← hg i (by omega), addr_add]
      exact ⟨b, o, q, rfl, ⟨al, hx, hli.cells ha⟩, hk (by omega), by omega⟩
end
end
end Go.Proofs.YtncjcnipagdmlaaDoor.Tx

set_option linter.unusedSimpArgs false
set_option linter.unusedVariables false
namespace Go.Proofs.YtncjcnipagdmlaaDoor.Tx
noncomputable section
open Go.AM Go.Proofs.YtncjcnipagdmlaaDoor.Sf
section
variable {I : Inp} {h0 : AHeap}
/-! a program that is not too great -/
def mc (b : Bk) : Nat := min 1000 b.code.length
def mcs : List Bk → Nat
  | [] => 0
  | b :: r => (1 + mc b) + mcs r
def smFrom (m : Nat) : List Fu → Bool
  | [] => dc (m ≤ 150)
  | f :: r => (!dc (14 < (f.blocks.length : Int)) && !dc (20 < (f.regs.length : Int))) && smFrom (m + mcs f.blocks) r
def smallB (q : Pg) : Bool := (((!dc (12 < (q.funcs.length : Int)) && !dc (12 < (q.recs.length : Int))) && !dc (12 < (q.sigs.length : Int))) && !dc (12 < (q.faces.length : Int))) && !dc (14 < (q.impls.length : Int)) && smFrom 0 q.funcs
theorem min_mc (b : Bk) : pMinmax false [Z 1000, .int .i64 (b.code.length : Int)] = some (.int .i64 (mc b : Int)) := by
  simp only [pMinmax, minInts, mc]
  by_cases h : b.code.length < 1000
  · have : ((b.code.length : Int) < 1000) := by omega
    simp [this, Nat.min_eq_right (Nat.le_of_lt h)]
  · have : ¬ ((b.code.length : Int) < 1000) := by omega
    simp [this, Nat.min_eq_left (Nat.le_of_not_lt h)]
theorem tSmall {l : AM.Loc} {o : Nat} {q : Pg} (hq : PgA I h0 l o q) (hb : AHeap) (eb : Ext h0 hb) : Ret ((AM.lim ⟨P, I, genF P Sh.prims⟩) 11 [.ptr l o] hb) hb (.bool (smallB q)) := by
  obtain ⟨_, ⟨vr, vs, vf, vi, vu, rfl, rm, sr, ss, sf, si, su⟩, hc⟩ := hq
  have lu := su.lt
  by_cases hn12 : q.funcs.length ≤ 12
  · obtain ⟨N, hN⟩ := Evt.loop' q.funcs (F := fun i n => ∀ (m : Nat) h, m ≤ 14014 * i → Ext hb h → Res ((f11.J I (AM.lim ⟨P, I, genF P Sh.prims⟩) (n)).1.2.1 (.ptr l o) (.int .i64 m) (.int .i64 i) h) fun u g => u = .bool (smFrom m (q.funcs.drop i)) ∧ Ext hb g)
      (Evt.all 5 fun n m h hm e => by
        have hm' : ((m : Int) ≤ 150) = (m ≤ 150) := by simp; omega
        rw [f11.n2]; unfold f11.b2
        (repeat' (first | refine Rf (fun hF hG => ?_) (fun hF hG => ?_) | assumption | (show Ext _ _; exact Ext.go) | (simp only [AHeap.next_alloc, AHeap.next_set, AHeap.next_kill, AHeap.next_res] at hle hsame) | simp (disch := first | exact D.go | fail) [setR, List.getElem?_cons_zero, List.getElem?_cons_succ, f11.n0, f11.b0, f11.n1, f11.b1, f11.n3, f11.b3, f11.n4, f11.b4, f11.n5, f11.b5, f11.n6, f11.b6, f11.n7, f11.b7, f11.n8, f11.b8, hc.rd0, hc.rd1, hc.rd2, hc.rd3, hc.rd4, hc.rd5, sr.len, ss.len, sf.len, si.len, su.len, sr.self, ss.self, sf.self, si.self, su.self, smFrom, hm', *])))
      (fun i f hf hfo => by
        obtain ⟨lf, of, hif, ⟨_, ⟨wr, wb, rfl, r0, swr, swb⟩, hwf⟩⟩ := su.at hf
        have hlt := lt_of_get hf; have hw := wrap_in (n := (i : Int) + 1) ⟨by omega, by omega⟩
        simp only [Int.natCast_add, Int.natCast_one] at hfo
        by_cases hb14 : f.blocks.length ≤ 14
        · have hb14' : ¬ 14 < (f.blocks.length : Int) := by omega
          have inner := Evt.loop f.blocks (F := fun b n => ∀ (m : Nat) h, m ≤ 14014 * i + 1001 * b → Ext hb h → Res ((f11.J I (AM.lim ⟨P, I, genF P Sh.prims⟩) (n)).2.2.1 (.ptr l o) (.int .i64 m) (.int .i64 i) (.int .i64 b) h) fun u g => u = .bool (smFrom (m + mcs (f.blocks.drop b)) (q.funcs.drop (i + 1))) ∧ Ext hb g) 6
            (Evt.step 6 hfo fun n hn m h hm e => by
              have hlo := e.lo
              have hn' := fun m' hm' => hn m' hm' m h (by omega) e
              rw [f11.n6]; unfold f11.b6
              (repeat' (first | refine Rf (fun hF hG => ?_) (fun hF hG => ?_) | assumption | (show Ext _ _; exact Ext.go) | (simp only [AHeap.next_alloc, AHeap.next_set, AHeap.next_kill, AHeap.next_res] at hle hsame) | simp (disch := first | exact D.go | fail) [setR, List.getElem?_cons_zero, List.getElem?_cons_succ, f11.n4, f11.b4, hc.rd0, hc.rd1, hc.rd2, hc.rd3, hc.rd4, hc.rd5, sr.len, ss.len, sf.len, si.len, su.len, sr.self, ss.self, sf.self, si.self, su.self, hif, hwf.rd2, swb.len, hw, mcs, *])))
            (fun b x n hx ih m h hm e => by
              obtain ⟨l1, o1, hib, ⟨_, ⟨vc, rfl, sc, q1, q2, q3, q4⟩, ha⟩⟩ := swb.at hx
              have hltb := lt_of_get hx; have hwb := wrap_in (n := (b : Int) + 1) ⟨by omega, by omega⟩
              simp only [Int.natCast_add, Int.natCast_one] at ih
              have hmc : mc x ≤ 1000 := Nat.min_le_left _ _
              have hmm := min_mc x
              have hw1 := wrap_in (n := 1 + (mc x : Int)) ⟨by omega, by omega⟩
              have hw2 := wrap_in (n := (m : Int) + (1 + (mc x : Int))) ⟨by omega, by omega⟩
              have hlo := e.lo
              have ih' := fun m' hm' => ih m' hm' (m + (1 + mc x)) h (by omega) e
              simp only [Int.natCast_add, Int.natCast_one, Int.cast_ofNat_Int, Nat.add_assoc] at ih'
              rw [drop_of_get hx]
              rw [f11.n6]; unfold f11.b6
              (repeat' (first | refine Rf (fun hF hG => ?_) (fun hF hG => ?_) | assumption | (show Ext _ _; exact Ext.go) | (simp only [AHeap.next_alloc, AHeap.next_set, AHeap.next_kill, AHeap.next_res] at hle hsame) | simp (disch := first | exact D.go | fail) [setR, List.getElem?_cons_zero, List.getElem?_cons_succ, f11.n7, f11.b7, f11.n8, f11.b8, hc.rd0, hc.rd1, hc.rd2, hc.rd3, hc.rd4, hc.rd5, sr.len, ss.len, sf.len, si.len, su.len, sr.self, ss.self, sf.self, si.self, su.self, hif, hwf.rd2, swb.len, hib, ha.rd0, sc.len, hmm, hltb, hwb, hw1, hw2, mcs, Nat.add_assoc, *])))
            0 (by omega)
          refine Evt.step 8 inner fun n hn m h hm e => ?_
          have hn' := fun m' hm' => hn m' hm' m h (by omega) e
          have hlo := e.lo
          rw [drop_of_get hf]
          rw [f11.n2]; unfold f11.b2
          (repeat' (first | refine Rf (fun hF hG => ?_) (fun hF hG => ?_) | assumption | (show Ext _ _; exact Ext.go) | (simp only [AHeap.next_alloc, AHeap.next_set, AHeap.next_kill, AHeap.next_res] at hle hsame) | simp (disch := first | exact D.go | fail) [setR, List.getElem?_cons_zero, List.getElem?_cons_succ, f11.n3, f11.b3, f11.n5, f11.b5, hc.rd0, hc.rd1, hc.rd2, hc.rd3, hc.rd4, hc.rd5, sr.len, ss.len, sf.len, si.len, su.len, sr.self, ss.self, sf.self, si.self, su.self, hif, hwf.rd1, hwf.rd2, swb.len, swr.len, hlt, hb14', smFrom, *]))
          all_goals (exact hn' _ (by omega))
        · have hb14' : 14 < (f.blocks.length : Int) := by omega
          refine Evt.all 8 fun n m h hm e => ?_
          have hlo := e.lo
          rw [drop_of_get hf]
          rw [f11.n2]; unfold f11.b2
          (repeat' (first | refine Rf (fun hF hG => ?_) (fun hF hG => ?_) | assumption | (show Ext _ _; exact Ext.go) | (simp only [AHeap.next_alloc, AHeap.next_set, AHeap.next_kill, AHeap.next_res] at hle hsame) | simp (disch := first | exact D.go | fail) [setR, List.getElem?_cons_zero, List.getElem?_cons_succ, f11.n3, f11.b3, f11.n5, f11.b5, hc.rd0, hc.rd1, hc.rd2, hc.rd3, hc.rd4, hc.rd5, sr.len, ss.len, sf.len, si.len, su.len, sr.self, ss.self, sf.self, si.self, su.self, hif, hwf.rd1, hwf.rd2, swb.len, swr.len, hlt, hb14', smFrom, *])))
      0 (by omega)
    have hN' := hN (N + 1) (by omega) 0 hb (by omega) (Ext.refl hb)
    have h12 : ¬ 12 < (q.funcs.length : Int) := by omega
    refine f11.lim rfl (n := N + 2) ?_
    unfold f11.e
    (repeat' (first | refine Rf (fun hF hG => ?_) (fun hF hG => ?_) | assumption | (show Ext _ _; exact Ext.go) | (simp only [AHeap.next_alloc, AHeap.next_set, AHeap.next_kill, AHeap.next_res] at hle hsame) | simp (disch := first | exact D.go | fail) [setR, List.getElem?_cons_zero, List.getElem?_cons_succ, f11.n0, f11.b0, hc.rd0, hc.rd1, hc.rd2, hc.rd3, hc.rd4, hc.rd5, sr.len, ss.len, sf.len, si.len, su.len, sr.self, ss.self, sf.self, si.self, su.self, smallB, h12, *]))
    all_goals (exact hN')
  · have h12 : 12 < (q.funcs.length : Int) := by omega
    refine f11.lim rfl (n := 2) ?_
    unfold f11.e
    (repeat' (first | refine Rf (fun hF hG => ?_) (fun hF hG => ?_) | assumption | (show Ext _ _; exact Ext.go) | (simp only [AHeap.next_alloc, AHeap.next_set, AHeap.next_kill, AHeap.next_res] at hle hsame) | simp (disch := first | exact D.go | fail) [setR, List.getElem?_cons_zero, List.getElem?_cons_succ, hc.rd0, hc.rd1, hc.rd2, hc.rd3, hc.rd4, hc.rd5, sr.len, ss.len, sf.len, si.len, su.len, sr.self, ss.self, sf.self, si.self, su.self, smallB, h12, *]))
theorem tSmall_nil (hb : AHeap) : Ret ((AM.lim ⟨P, I, genF P Sh.prims⟩) 11 [.nilp] hb) hb (.bool false) := by
  refine f11.lim rfl (n := 2) ?_
  unfold f11.e
  (repeat' (first | refine Rf (fun hF hG => ?_) (fun hF hG => ?_) | assumption | (show Ext _ _; exact Ext.go) | (simp only [AHeap.next_alloc, AHeap.next_set, AHeap.next_kill, AHeap.next_res] at hle hsame) | simp (disch := first | exact D.go | fail) [setR, List.getElem?_cons_zero, List.getElem?_cons_succ, setR, *]))
/-! what is known of it -/
structure SmOk (q : Pg) : Prop where
  funcs : q.funcs.length ≤ 12
  blocks : ∀ f ∈ q.funcs, f.blocks.length ≤ 14
  pts : (pgPts 0 q.funcs).length ≤ 150
theorem mcs_le (f : Int) : ∀ (l : List Bk) (b : Nat), mcs l ≤ 150 → (fuPts f b l).length = mcs l ∧ ∀ x ∈ l, x.code.length ≤ 150
  | [], b, _ => by simp [fuPts, mcs]
  | x :: r, b, h => by
    simp only [mcs] at h
    have hm : mc x = x.code.length := by unfold mc at h ⊢; omega
    obtain ⟨h1, h2⟩ := mcs_le f r (b + 1) (by omega)
    refine ⟨?_, fun y hy => ?_⟩
    · simp only [fuPts, List.length_append, bkPts_len, h1, mcs, hm]; omega
    · rcases List.mem_cons.1 hy with rfl | hy
      · omega
      · exact h2 y hy
theorem smFrom_ok : ∀ (l : List Fu) (i m : Nat), smFrom m l = true → m ≤ 150 ∧ (∀ f ∈ l, f.blocks.length ≤ 14) ∧ m + (pgPts i l).length ≤ 150
  | [], i, m, h => by simp [smFrom] at h; simp [pgPts, h]
  | f :: r, i, m, h => by
    simp only [smFrom, Bool.and_eq_true, Bool.not_eq_true', dc_eq_false] at h
    obtain ⟨h1, h2, h3⟩ := smFrom_ok r (i + 1) _ h.2
    have hc := (mcs_le i f.blocks 0 (by omega)).1
    refine ⟨by omega, fun g hg => ?_, ?_⟩
    · rcases List.mem_cons.1 hg with rfl | hg
      · have := h.1.1; omega
      · exact h2 g hg
    · simp only [pgPts, List.length_append, hc]; omega
theorem SmOk.of {q : Pg} (h : smallB q = true) : SmOk q := by
  simp only [smallB, Bool.and_eq_true, Bool.not_eq_true', dc_eq_false] at h
  obtain ⟨⟨⟨⟨⟨h1, _⟩, _⟩, _⟩, _⟩, h2⟩ := h
  obtain ⟨_, a, b⟩ := smFrom_ok q.funcs 0 0 h2
  exact ⟨by omega, a, by omega⟩
theorem fuPts_code {f : Int} : ∀ (l : List Bk) (b : Nat), ∀ x ∈ l, x.code.length < (fuPts f b l).length
  | [], b, x, h => by simp at h
  | y :: r, b, x, h => by
    simp only [fuPts, List.length_append, bkPts_len]
    rcases List.mem_cons.1 h with rfl | h
    · omega
    · have := fuPts_code (f := f) r (b + 1) x h; omega
theorem pgPts_fu : ∀ (l : List Fu) (i : Nat), ∀ f ∈ l, ∀ j : Int, (fuPts j 0 f.blocks).length ≤ (pgPts i l).length
  | [], i, f, h, j => by simp at h
  | g :: r, i, f, h, j => by
    simp only [pgPts, List.length_append]
    have hl : ∀ (l : List Bk) (b : Nat) (x y : Int), (fuPts x b l).length = (fuPts y b l).length := by
      intro l
      induction l with
      | nil => intro b x y; rfl
      | cons z l ih => intro b x y; simp only [fuPts, List.length_append, bkPts_len, ih (b + 1) x y]
    rcases List.mem_cons.1 h with rfl | h
    · rw [hl f.blocks 0 j i]; omega
    · have := pgPts_fu r (i + 1) f h j; omega
theorem SmOk.code {q : Pg} (h : SmOk q) : ∀ f ∈ q.funcs, ∀ b ∈ f.blocks, b.code.length ≤ 150 := fun f hf b hb => by
  have h1 := fuPts_code (f := 0) f.blocks 0 b hb
  have h2 := pgPts_fu q.funcs 0 f hf 0
  have := h.pts
  omega
end
end
end Go.Proofs.YtncjcnipagdmlaaDoor.Tx

set_option linter.unusedSimpArgs false
set_option linter.unusedVariables false
namespace Go.Proofs.YtncjcnipagdmlaaDoor.Tx
noncomputable section
open Go.AM Go.Proofs.YtncjcnipagdmlaaDoor.Sf
section
variable {I : Inp} {h0 h1 : AHeap}
/-! any program goes to its bytes and back -/
theorem own_str {hb h : AHeap} {v : AVal} {q : Pg} (o : Own byF 1 hb h v (pgB q)) (hl : (pgB q).length ≤ 25000000) (g : AHeap) (x : Ext h g) : pToStr I v g = some (.str (pgB q)) :=
  toStr_by (own_by o (pgB_lt q) (by omega)) (pgB_ne q) g x
theorem tEqPg {l l' : AM.Loc} {o o' : Nat} {q q' : Pg} (hq : PgA I h0 l o q) (hq' : PgA I h1 l' o' q') (ok : PgR q) (ok' : PgR q') (len : (pgB q).length ≤ 25000000) (len' : (pgB q').length ≤ 25000000) (hb : AHeap) (e0 : Ext h0 hb) (e1 : Ext h1 hb) : Res ((AM.lim ⟨P, I, genF P Sh.prims⟩) 16 [.ptr l o, .ptr l' o'] hb) fun u g => u = .bool (natsEq (pgB q) (pgB q')) ∧ Ext hb g := by
  obtain ⟨u1, g1, c1, o1, x1⟩ := tREncG hq ok len hb e0
  obtain ⟨u2, g2, c2, o2, x2⟩ := tREncG hq' ok' len' g1 (e1.trans x1)
  have s1 := own_str (I := I) o1 len g1 (Ext.refl g1)
  have s1' := own_str (I := I) o1 len g2 x2
  have s2 := own_str (I := I) o2 len' g2 (Ext.refl g2)
  have hst : pBin .eql (.str (pgB q)) (.str (pgB q')) = some (.bool (natsEq (pgB q) (pgB q'))) := nrfl
  refine f16.lim rfl (n := 3) ?_
  unfold f16.e
  have hfin : (AVal.bool (natsEq (pgB q) (pgB q')) = .bool (natsEq (pgB q) (pgB q'))) ∧ Ext hb g2 := ⟨rfl, x1.trans x2⟩
  generalize hQ : (fun (u : AVal) (g : AHeap) => u = .bool (natsEq (pgB q) (pgB q')) ∧ Ext hb g) = Q
  have hq : Q (.bool (natsEq (pgB q) (pgB q'))) g2 := by rw [← hQ]; exact hfin
  generalize natsEq (pgB q) (pgB q') = b at *
  generalize pgB q = a1 at *
  generalize pgB q' = a2 at *
  clear hQ hfin o1 o2 ok ok' hq'
  simp (disch := first | exact D.go | fail) [setR, List.getElem?_cons_zero, List.getElem?_cons_succ, f16.n0, f16.b0, c1, c2, s1, s1', s2, hst]
  exact hq
end
end
end Go.Proofs.YtncjcnipagdmlaaDoor.Tx

set_option linter.unusedSimpArgs false
set_option linter.unusedVariables false
namespace Go.Proofs.YtncjcnipagdmlaaDoor.Tx
noncomputable section
open Go.AM Go.Proofs.YtncjcnipagdmlaaDoor.Sf
section
variable {I : Inp} {h0 : AHeap}
/-! a point's block -/
def fu0' : Fu := ⟨0, [], []⟩
def bk0 : Bk := ⟨[], 0, 0, 0, 0⟩
/-- The block that a point is of. -/
def ofBk (q : Pg) (p : Pt) (fi bi j : Nat) (f : Fu) (b : Bk) : Prop := p = ⟨fi, bi, j⟩ ∧ q.funcs[fi]? = some f ∧ f.blocks[bi]? = some b ∧ j ≤ b.code.length
theorem isPt (q : Pg) (p : Pt) : (∃ fi bi j f b, ofBk q p fi bi j f b) ∨ (p.f < 0 ∨ (q.funcs.length : Int) ≤ p.f ∨ ∃ (fi : Nat) (f : Fu), p.f = fi ∧ q.funcs[fi]? = some f ∧ (p.b < 0 ∨ (f.blocks.length : Int) ≤ p.b ∨ ∃ (bi : Nat) (b : Bk), p.b = bi ∧ f.blocks[bi]? = some b ∧ (p.i < 0 ∨ (b.code.length : Int) < p.i))) := by
  obtain ⟨pf, pb, pi⟩ := p
  by_cases h1 : pf < 0
  · exact .inr (.inl h1)
  by_cases h2 : (q.funcs.length : Int) ≤ pf
  · exact .inr (.inr (.inl h2))
  obtain ⟨fi, rfl⟩ : ∃ n : Nat, pf = n := ⟨pf.toNat, by omega⟩
  have hfl : fi < q.funcs.length := by omega
  have hf := List.getElem?_eq_getElem hfl
  by_cases h3 : pb < 0
  · exact .inr (.inr (.inr ⟨fi, _, rfl, hf, .inl h3⟩))
  by_cases h4 : ((q.funcs[fi]).blocks.length : Int) ≤ pb
  · exact .inr (.inr (.inr ⟨fi, _, rfl, hf, .inr (.inl h4)⟩))
  obtain ⟨bi, rfl⟩ : ∃ n : Nat, pb = n := ⟨pb.toNat, by omega⟩
  have hbl : bi < (q.funcs[fi]).blocks.length := by omega
  have hb := List.getElem?_eq_getElem hbl
  by_cases h5 : pi < 0
  · exact .inr (.inr (.inr ⟨fi, _, rfl, hf, .inr (.inr ⟨bi, _, rfl, hb, .inl h5⟩)⟩))
  by_cases h6 : (((q.funcs[fi]).blocks[bi]).code.length : Int) < pi
  · exact .inr (.inr (.inr ⟨fi, _, rfl, hf, .inr (.inr ⟨bi, _, rfl, hb, .inr h6⟩)⟩))
  obtain ⟨j, rfl⟩ : ∃ n : Nat, pi = n := ⟨pi.toNat, by omega⟩
  exact .inl ⟨fi, bi, j, _, _, rfl, hf, hb, by omega⟩
end
end
end Go.Proofs.YtncjcnipagdmlaaDoor.Tx

set_option linter.unusedSimpArgs false
set_option linter.unusedVariables false
namespace Go.Proofs.YtncjcnipagdmlaaDoor.Tx
noncomputable section
open Go.AM Go.Proofs.YtncjcnipagdmlaaDoor.Sf
section
variable {I : Inp} {h0 : AHeap}
/-! the n-th point -/
theorem bkPts_get {f b : Int} {k : Nat} : ∀ (c j : Nat), k < c → (bkPts f b j c)[k]? = some ⟨f, b, ((j + k : Nat) : Int)⟩
  | 0, j, h => by omega
  | c + 1, j, h => by
    match k with
    | 0 => rfl
    | k + 1 =>
      rw [bkPts, List.getElem?_cons_succ, bkPts_get c (j + 1) (by omega)]
      congr 3; omega
theorem bkPts_app {f b : Int} {k c : Nat} (r : List Pt) : (bkPts f b 0 c ++ r)[k]? = if (k : Int) < (c : Int) then some ⟨f, b, k⟩ else r[k - c]? := by
  by_cases h : k < c
  · rw [if_pos (by omega), List.getElem?_append_left (by rw [bkPts_len]; exact h), bkPts_get c 0 h]; simp
  · rw [if_neg (by omega), List.getElem?_append_right (by rw [bkPts_len]; omega), bkPts_len]
def pV (r : Option Pt) : AVal := .tuple [ptV (r.getD ⟨0, 0, 0⟩), .bool r.isSome]
@[simp] theorem pV_none : pV none = .tuple [ptV ⟨0, 0, 0⟩, .bool false] := rfl
@[simp] theorem pV_some (p : Pt) : pV (some p) = .tuple [ptV p, .bool true] := rfl
end
end
end Go.Proofs.YtncjcnipagdmlaaDoor.Tx

set_option linter.unusedSimpArgs false
set_option linter.unusedVariables false
namespace Go.Proofs.YtncjcnipagdmlaaDoor.Tx
noncomputable section
open Go.AM Go.Proofs.YtncjcnipagdmlaaDoor.Sf
section
variable {I : Inp} {h0 : AHeap}
/-! a point's number -/
def lenB : List Bk → Nat
  | [] => 0
  | b :: r => (b.code.length + 1) + lenB r
def lenF : List Fu → Nat
  | [] => 0
  | f :: r => lenB f.blocks + lenF r
theorem fuPts_len (f : Int) : ∀ (l : List Bk) (b : Nat), (fuPts f b l).length = lenB l
  | [], _ => rfl
  | x :: r, b => by simp only [fuPts, List.length_append, bkPts_len, fuPts_len f r, lenB]
theorem pgPts_len : ∀ (l : List Fu) (i : Nat), (pgPts i l).length = lenF l
  | [], _ => rfl
  | f :: r, i => by simp only [pgPts, List.length_append, fuPts_len, pgPts_len r, lenF]
/-- Where a list has a point. -/
def idxFrom (p : Pt) : Int → List Pt → Int
  | _, [] => -1
  | i, x :: r => if (x.f = p.f ∧ x.b = p.b) ∧ x.i = p.i then i else idxFrom p (i + 1) r
def idxP (q : Pg) (p : Pt) : Int := idxFrom p 0 (pgPts 0 q.funcs)
theorem idxFrom_skip {p : Pt} : ∀ (l r : List Pt) (i : Int), (∀ x ∈ l, x ≠ p) → idxFrom p i (l ++ r) = idxFrom p (i + l.length) r
  | [], r, i, _ => by simp
  | x :: l, r, i, h => by
    have hx := h x (by simp)
    have hn : ¬ ((x.f = p.f ∧ x.b = p.b) ∧ x.i = p.i) := fun hh => hx (by obtain ⟨⟨a, b⟩, c⟩ := hh; cases x; cases p; simp_all)
    rw [List.cons_append, idxFrom, if_neg hn, idxFrom_skip l r (i + 1) fun y hy => h y (by simp [hy])]
    simp only [List.length_cons]; congr 1; omega
theorem idxFrom_none {p : Pt} (l : List Pt) (i : Int) (h : ∀ x ∈ l, x ≠ p) : idxFrom p i l = -1 := by
  have := idxFrom_skip l [] i h
  simpa [idxFrom] using this
theorem idx_bk {f b : Int} {k : Nat} (r : List Pt) : ∀ (c j : Nat) (i : Int), j ≤ k → k < j + c → idxFrom ⟨f, b, k⟩ i (bkPts f b j c ++ r) = i + ((k - j : Nat) : Int)
  | 0, j, i, h1, h2 => by omega
  | c + 1, j, i, h1, h2 => by
    rw [bkPts, List.cons_append, idxFrom]
    by_cases h : j = k
    · subst h; rw [if_pos ⟨⟨rfl, rfl⟩, rfl⟩]; simp
    · rw [if_neg (by simp; omega), idx_bk r c (j + 1) (i + 1) (by omega) (by omega)]
      omega
theorem idx_fu {f : Int} {k : Nat} (r : List Pt) : ∀ (l : List Bk) (b : Nat) (i : Int) (bi : Nat) (x : Bk), l[bi]? = some x → k ≤ x.code.length → idxFrom ⟨f, ((b + bi : Nat) : Int), k⟩ i (fuPts f b l ++ r) = i + lenB (l.take bi) + k
  | [], b, i, bi, x, h, _ => by simp at h
  | y :: l, b, i, 0, x, h, hk => by
    simp at h; subst h
    simp only [fuPts, List.append_assoc, Nat.add_zero, List.take_zero, lenB]
    rw [idx_bk _ _ 0 i (Nat.zero_le _) (by omega)]; simp
  | y :: l, b, i, bi + 1, x, h, hk => by
    simp only [fuPts, List.append_assoc]
    rw [idxFrom_skip _ _ _ (fun z hz => by
      obtain ⟨k', _, _, rfl⟩ := bkPts_mem _ _ hz
      intro e; simp at e; omega)]
    have := idx_fu (f := f) r l (b + 1) (i + (bkPts f b 0 (y.code.length + 1)).length) bi x (by simpa using h) hk
    rw [show b + (bi + 1) = b + 1 + bi by omega, this, bkPts_len]
    simp only [List.take_succ_cons, lenB]; omega
theorem idx_pg {bi k : Nat} {x : Bk} : ∀ (l : List Fu) (a : Nat) (i : Int) (fi : Nat) (f : Fu), l[fi]? = some f → f.blocks[bi]? = some x → k ≤ x.code.length → idxFrom ⟨((a + fi : Nat) : Int), (bi : Int), k⟩ i (pgPts a l) = i + lenF (l.take fi) + lenB (f.blocks.take bi) + k
  | [], a, i, fi, f, h, _, _ => by simp at h
  | g :: l, a, i, 0, f, h, hb, hk => by
    simp at h; subst h
    simp only [pgPts, Nat.add_zero, List.take_zero, lenF]
    have := idx_fu (f := (a : Int)) (pgPts (a + 1) l) g.blocks 0 i bi x hb hk
    simp only [Nat.zero_add] at this
    rw [this]; simp
  | g :: l, a, i, fi + 1, f, h, hb, hk => by
    simp only [pgPts]
    rw [idxFrom_skip _ _ _ (fun z hz => by
      obtain ⟨b', k', _, _, _, rfl⟩ := fuPts_mem _ _ hz
      intro e; simp at e; omega)]
    have := idx_pg l (a + 1) (i + (fuPts a 0 g.blocks).length) fi f (by simpa using h) hb hk
    rw [show a + (fi + 1) = a + 1 + fi by omega, this, fuPts_len]
    simp only [List.take_succ_cons, lenF]; omega
theorem idxP_of {q : Pg} {p : Pt} {fi bi j : Nat} {f : Fu} {b : Bk} (h : ofBk q p fi bi j f b) : idxP q p = ((lenF (q.funcs.take fi) + lenB (f.blocks.take bi) + j : Nat) : Int) := by
  obtain ⟨rfl, hf, hb, hj⟩ := h
  have := idx_pg q.funcs 0 0 fi f hf hb hj
  simp only [Nat.zero_add] at this
  unfold idxP
  rw [this]; omega
theorem idxP_none {q : Pg} {p : Pt} (h : ∀ fi bi j f b, ¬ ofBk q p fi bi j f b) : idxP q p = -1 := by
  refine idxFrom_none _ _ fun x hx e => ?_
  subst e
  obtain ⟨fi, bi, k, f, b, h1, h2, h3, h4⟩ := pgPts_mem _ _ hx
  exact h fi bi k f b ⟨by simpa using h4, h1, h2, h3⟩
theorem pt_at {q : Pg} {n : Nat} {p : Pt} (h : (pgPts 0 q.funcs)[n]? = some p) : ∃ fi bi j f b, ofBk q p fi bi j f b := by
  obtain ⟨fi, bi, k, f, b, h1, h2, h3, h4⟩ := pgPts_mem _ _ (List.mem_of_getElem? h)
  exact ⟨fi, bi, k, f, b, by simpa using h4, h1, h2, h3⟩
/-- The list has no point twice. -/
theorem get_bk {f b : Int} {k c : Nat} (r : List Pt) (hk : k < c) : (bkPts f b 0 c ++ r)[k]? = some ⟨f, b, k⟩ := by
  rw [bkPts_app, if_pos (by omega)]
theorem get_fu {f : Int} {k : Nat} (r : List Pt) : ∀ (l : List Bk) (b bi : Nat) (x : Bk), l[bi]? = some x → k ≤ x.code.length → (fuPts f b l ++ r)[lenB (l.take bi) + k]? = some ⟨f, ((b + bi : Nat) : Int), k⟩
  | [], b, bi, x, h, _ => by simp at h
  | y :: l, b, 0, x, h, hk => by
    simp at h; subst h
    simp only [fuPts, List.append_assoc, Nat.add_zero, List.take_zero, lenB, Nat.zero_add]
    exact get_bk _ (by omega)
  | y :: l, b, bi + 1, x, h, hk => by
    simp only [fuPts, List.append_assoc, List.take_succ_cons, lenB]
    rw [List.getElem?_append_right (by rw [bkPts_len]; omega), bkPts_len, show y.code.length + 1 + lenB (l.take bi) + k - (y.code.length + 1) = lenB (l.take bi) + k by omega, get_fu r l (b + 1) bi x (by simpa using h) hk]
    congr 2; omega
theorem get_pg {bi k : Nat} {x : Bk} : ∀ (l : List Fu) (a fi : Nat) (f : Fu), l[fi]? = some f → f.blocks[bi]? = some x → k ≤ x.code.length → (pgPts a l)[lenF (l.take fi) + lenB (f.blocks.take bi) + k]? = some ⟨((a + fi : Nat) : Int), (bi : Int), k⟩
  | [], a, fi, f, h, _, _ => by simp at h
  | g :: l, a, 0, f, h, hb, hk => by
    simp at h; subst h
    simp only [pgPts, Nat.add_zero, List.take_zero, lenF, Nat.zero_add]
    have := get_fu (f := (a : Int)) (pgPts (a + 1) l) g.blocks 0 bi x hb hk
    simpa only [Nat.zero_add] using this
  | g :: l, a, fi + 1, f, h, hb, hk => by
    simp only [pgPts, List.take_succ_cons, lenF]
    rw [List.getElem?_append_right (by rw [fuPts_len]; omega), fuPts_len, show lenB g.blocks + lenF (l.take fi) + lenB (f.blocks.take bi) + k - lenB g.blocks = lenF (l.take fi) + lenB (f.blocks.take bi) + k by omega, get_pg l (a + 1) fi f (by simpa using h) hb hk]
    congr 2; omega
theorem get_of {q : Pg} {p : Pt} {fi bi j : Nat} {f : Fu} {b : Bk} (h : ofBk q p fi bi j f b) : (pgPts 0 q.funcs)[lenF (q.funcs.take fi) + lenB (f.blocks.take bi) + j]? = some p := by
  obtain ⟨rfl, hf, hb, hj⟩ := h
  have := get_pg q.funcs 0 fi f hf hb hj
  simpa using this
theorem idx_get {p : Pt} : ∀ (l : List Pt) (i : Int), idxFrom p i l = -1 ∨ ∃ k : Nat, idxFrom p i l = i + k ∧ l[k]? = some p
  | [], i => .inl rfl
  | x :: r, i => by
    rw [idxFrom]
    split
    · rename_i h
      exact .inr ⟨0, by simp, by obtain ⟨⟨a, b⟩, c⟩ := h; cases x; cases p; simp_all⟩
    · rcases idx_get (p := p) r (i + 1) with h | ⟨k, h1, h2⟩
      · exact .inl h
      · exact .inr ⟨k + 1, by rw [h1]; omega, by simpa using h2⟩
/-- Two points at one number are one; a point's number is one. -/
theorem num_lt {q : Pg} {p : Pt} {fi bi j : Nat} {f : Fu} {b : Bk} (h : ofBk q p fi bi j f b) : lenF (q.funcs.take fi) + lenB (f.blocks.take bi) + j < (pgPts 0 q.funcs).length := (List.getElem?_eq_some_iff.1 (get_of h)).1
theorem nodup_bk {f b : Int} : ∀ (c j : Nat), (bkPts f b j c).Nodup
  | 0, _ => List.nodup_nil
  | c + 1, j => by
    rw [bkPts, List.nodup_cons]
    refine ⟨fun h => ?_, nodup_bk c (j + 1)⟩
    obtain ⟨k, h1, _, h3⟩ := bkPts_mem _ _ h
    simp at h3; omega
theorem nodup_fu {f : Int} : ∀ (l : List Bk) (b : Nat), (fuPts f b l).Nodup
  | [], _ => List.nodup_nil
  | x :: r, b => by
    rw [fuPts, List.nodup_append]
    refine ⟨nodup_bk _ _, nodup_fu r _, fun x hx y hy e => ?_⟩
    subst e
    obtain ⟨k, _, _, rfl⟩ := bkPts_mem _ _ hx
    obtain ⟨b', k', _, _, _, h3⟩ := fuPts_mem _ _ hy
    simp at h3; omega
theorem nodup_pg : ∀ (l : List Fu) (i : Nat), (pgPts i l).Nodup
  | [], _ => List.nodup_nil
  | x :: r, i => by
    rw [pgPts, List.nodup_append]
    refine ⟨nodup_fu _ _, nodup_pg r _, fun x hx y hy e => ?_⟩
    subst e
    obtain ⟨_, _, _, _, _, rfl⟩ := fuPts_mem _ _ hx
    obtain ⟨_, _, _, _, _, _, _, _, h3⟩ := pgPts_mem _ _ hy
    simp at h3; omega
/-- The n-th point has the number n. -/
theorem idxP_get {q : Pg} {n : Nat} {p : Pt} (h : (pgPts 0 q.funcs)[n]? = some p) : idxP q p = n := by
  obtain ⟨fi, bi, j, f, b, hp⟩ := pt_at h
  have h1 := get_of hp
  rw [idxP_of hp]
  obtain ⟨a1, a2⟩ := List.getElem?_eq_some_iff.1 h
  obtain ⟨b1, b2⟩ := List.getElem?_eq_some_iff.1 h1
  have hpw := List.pairwise_iff_getElem.1 (nodup_pg q.funcs 0)
  have hx : lenF (q.funcs.take fi) + lenB (f.blocks.take bi) + j = n := by
    rcases Nat.lt_trichotomy (lenF (q.funcs.take fi) + lenB (f.blocks.take bi) + j) n with h | h | h
    · exact absurd (b2.trans a2.symm) (hpw _ _ b1 a1 h)
    · exact h
    · exact absurd (a2.trans b2.symm) (hpw _ _ a1 b1 h)
  rw [hx]
end
end
end Go.Proofs.YtncjcnipagdmlaaDoor.Tx

set_option linter.unusedSimpArgs false
set_option linter.unusedVariables false
namespace Go.Proofs.YtncjcnipagdmlaaDoor.Tx
noncomputable section
open Go.AM Go.Proofs.YtncjcnipagdmlaaDoor.Sf
section
variable {I : Inp} {h0 : AHeap}
theorem lenB_drop {l : List Bk} {i : Nat} {x : Bk} (h : l[i]? = some x) : lenB (l.drop i) = (x.code.length + 1) + lenB (l.drop (i + 1)) := by rw [drop_of_get h]; rfl
theorem lenF_drop {l : List Fu} {i : Nat} {x : Fu} (h : l[i]? = some x) : lenF (l.drop i) = lenB x.blocks + lenF (l.drop (i + 1)) := by rw [drop_of_get h]; rfl
end
end
end Go.Proofs.YtncjcnipagdmlaaDoor.Tx

set_option linter.unusedSimpArgs false
set_option linter.unusedVariables false
namespace Go.Proofs.YtncjcnipagdmlaaDoor.Tx
noncomputable section
open Go.AM Go.Proofs.YtncjcnipagdmlaaDoor.Sf
section
variable {I : Inp} {h0 : AHeap}
abbrev ins0 : AVal := .agg [Z 0, Z 0, Z 0, Z 0, Z 0, .nils]
/-! a point's instruction -/
/-! a point's end -/
/-! where an end leads -/
def outsS (b : Bk) : List Int := if b.fin = 1 then [b.to] else if b.fin = 2 then (if b.to = b.els then [b.to] else [b.to, b.els]) else []
end
end
end Go.Proofs.YtncjcnipagdmlaaDoor.Tx

set_option linter.unusedSimpArgs false
set_option linter.unusedVariables false
namespace Go.Proofs.YtncjcnipagdmlaaDoor.Tx
noncomputable section
open Go.AM Go.Proofs.YtncjcnipagdmlaaDoor.Sf
section
variable {I : Inp} {h0 : AHeap}
/-- A slice of numbers that was made here. -/
def IntsO (hb h : AHeap) (v : AVal) (xs : List Int) : Prop :=
  (v = .nils ∧ xs = []) ∨ ∃ k, v = .sl (.own k) 0 xs.length (.grown 1) ∧ h.get k = some ⟨xs.map fun n => AVal.int .i64 n, true⟩ ∧ hb.next ≤ k ∧ k < h.next ∧ xs ≠ []
theorem IntsO.mono {hb h g : AHeap} {v : AVal} {xs : List Int} (a : IntsO hb h v xs) (e : Ext h g) : IntsO hb g v xs := by
  rcases a with a | ⟨k, rfl, hk, h1, h2, h3⟩
  · exact .inl a
  · exact .inr ⟨k, rfl, by rw [e.same k h2]; exact hk, h1, by have := e.lo; omega, h3⟩
theorem IntsO.sl {hb h : AHeap} {v : AVal} {xs : List Int} (a : IntsO hb h v xs) (hl : xs.length ≤ 9223372036854775807) (hr : ∀ x ∈ xs, InR x) : SlOf 1 (IntA I h) v xs := by
  rcases a with ⟨rfl, rfl⟩ | ⟨k, rfl, hk, h1, h2, h3⟩
  · exact SlOf.nil
  · refine .inr ⟨.own k, 0, .grown 1, rfl, fun m hm => by simp [capHas]; exact hm, ⟨hl, fun h => absurd h h3⟩, fun i x hx => ⟨[.int .i64 x], ⟨rfl, hr x (List.mem_of_getElem? hx)⟩, Cells.own hk h2 fun j v hv => ?_⟩⟩
    match j with
    | 0 => simp at hv; subst hv; simp [hx]
    | j + 1 => simp at hv
theorem app_int {hb h : AHeap} {xs : List Int} {v : AVal} (hv : IntsO hb h v xs) (eb : Ext hb h) (x : Int) (hn : xs.length ≤ 1000000) {kw : Nat} {c : Cap} (hw : h.get kw = some ⟨[.int .i64 x], true⟩) :
    Res (sAppend I 1 8 v (.sl (.own kw) 0 1 c) h) fun u g => IntsO hb g u (xs ++ [x]) ∧ Ext hb g := by
  rcases hv with ⟨rfl, rfl⟩ | ⟨k, rfl, hk, h1, h2, h3⟩
  · have := sAppend_nils (I := I) (sz := 1) (bytes := 8) (n := 0) (c := c) hw rfl rfl (by simp only [bigRoom]; omega)
    refine ⟨_, _, this, .inr ⟨h.next, rfl, ?_, eb.lo, by simp, by simp⟩, eb.alloc⟩
    simp [AHeap.alloc_at (Nb.o rfl)]
  · have := sAppend_full (I := I) (sz := 1) (bytes := 8) (n := 0) (c := c) (len := xs.length) hw rfl rfl hk (by rw [List.length_map, Nat.mul_one]) ints_all (by omega) (by simp only [bigRoom]; omega)
    refine ⟨_, _, this, .inr ⟨h.next, ?_, ?_, eb.lo, by simp, by simp⟩, (eb.kill (Nb.o h1)).alloc⟩
    · simp
    · rw [show h.next = (h.kill k).next from rfl, AHeap.alloc_at (Nb.o rfl)]; simp
theorem idxP_rng (q : Pg) (p : Pt) (hz : (pgPts 0 q.funcs).length ≤ 1000000) : InR (idxP q p) ∧ idxP q p < (pgPts 0 q.funcs).length := by
  by_cases hp : ∃ fi bi j f b, ofBk q p fi bi j f b
  · obtain ⟨fi, bi, j, f, b, hp⟩ := hp
    have := num_lt hp
    rw [idxP_of hp]
    exact ⟨⟨by omega, by omega⟩, by omega⟩
  · rw [idxP_none fun a b c d e h => hp ⟨a, b, c, d, e, h⟩]
    exact ⟨⟨by omega, by omega⟩, by omega⟩
/-- What follows an end. -/
def goS (q : Pg) (f : Int) (l : List Int) : List Int := l.filterMap fun t => if 0 ≤ idxP q ⟨f, t, 0⟩ then some (idxP q ⟨f, t, 0⟩) else none
theorem goS_len (q : Pg) (f : Int) : ∀ (l : List Int), (goS q f l).length ≤ l.length := fun l => List.length_filterMap_le ..
theorem outs_len (b : Bk) : (outsS b).length ≤ 2 := by
  unfold outsS
  split
  · simp
  · split
    · split <;> simp
    · simp
end
end
end Go.Proofs.YtncjcnipagdmlaaDoor.Tx

set_option linter.unusedSimpArgs false
set_option linter.unusedVariables false
namespace Go.Proofs.YtncjcnipagdmlaaDoor.Tx
noncomputable section
open Go.AM Go.Proofs.YtncjcnipagdmlaaDoor.Sf
section
variable {I : Inp} {h0 : AHeap}
/-! texts -/
/-- A text is no longer than .. -/
class StrB (s : List Nat) (n : outParam Nat) : Prop where
  le : s.length ≤ n
instance : StrB [] 0 := ⟨by simp⟩
instance {a : Nat} {l : List Nat} {n : Nat} [c : StrB l n] : StrB (a :: l) (n + 1) := ⟨by have := c.le; simp; omega⟩
instance {a b : List Nat} {n m : Nat} [c : StrB a n] [d : StrB b m] : StrB (a ++ b) (n + m) := ⟨by have := c.le; have := d.le; rw [List.length_append]; omega⟩
@[simp] theorem pBin_str {a b : List Nat} {n m : Nat} [c : StrB a n] [d : StrB b m] (h : n + m ≤ 140737488351232) : pBin .add (.str a) (.str b) = some (.str (a ++ b)) := by
  simp only [pBin, abin, sbin]
  rw [Nat.ble_eq_true_of_le (by have := c.le; have := d.le; omega)]
@[simp] theorem pBin_streq (a b : List Nat) : pBin .eql (.str a) (.str b) = some (.bool (natsEq a b)) := nrfl
@[simp] theorem pBin_strne (a b : List Nat) : pBin .neq (.str a) (.str b) = some (.bool (!natsEq a b)) := nrfl
@[simp] theorem natsEq_cons_nil (a : Nat) (l : List Nat) : natsEq (a :: l) [] = false := nrfl
@[simp] theorem natsEq_nil_nil : natsEq [] [] = true := nrfl
@[simp] theorem pUn_neg (a : Int) : pUn .neg (.int .i64 a) = some (.int .i64 (IntKind.i64.wrap (0 - a))) := nrfl
@[simp] theorem pBin_quo (a : Int) : pBin .quo (.int .i64 a) (Z 10) = some (.int .i64 (IntKind.i64.wrap (a.tdiv 10))) := nrfl
@[simp] theorem pBin_rem (a : Int) : pBin .rem (.int .i64 a) (Z 10) = some (.int .i64 (a.tmod 10)) := nrfl
@[simp] theorem pToInt_any (k k' : IntKind) (n : Int) : pToInt k (.int k' n) = some (.int k (k.wrap n)) := nrfl
theorem pToStr_one {h : AHeap} {k : Nat} {x : Nat} {p : Bool} {c : Cap} (hk : h.get k = some ⟨[.int .u8 (x : Int)], p⟩) (hx : x < 256) : pToStr I (.sl (.own k) 0 1 c) h = some (.str [x]) := by
  have hb : Nat.blt x 256 = true := by rw [blt_iff]; simp [hx]
  have hr : rdsK I h (.own k) 0 1 = some [.int .u8 (Int.ofNat x)] := by rw [rdsK_eq, rds_own', hk]; rfl
  have hy : AM.byteOf (AVal.int .u8 (Int.ofNat x)) = some x := by simp only [AM.byteOf, hb]
  simp only [pToStr, hr, List.mapM_cons, List.mapM_nil, hy]
  first | rfl | simp
/-! numbers in decimal -/
def itoaN (n : Int) : List Nat := (Lib.itoa n).map UInt8.toNat
def decN (u : Nat) : List Nat := (Lib.decDigits u).map UInt8.toNat
theorem decN_small {u : Nat} (h : u < 10) : decN u = [48 + u] := by
  unfold decN
  rw [Lib.decDigits_one h]
  simp; omega
theorem decN_big {u : Nat} (h : ¬ u < 10) : decN u = decN (u / 10) ++ [48 + u % 10] := by
  unfold decN
  rw [Lib.decDigits, dif_neg h]
  simp; omega
theorem decN_len {u : Nat} (h : u < 18446744073709551616) : (decN u).length ≤ 20 := by
  unfold decN
  rw [List.length_map, Lib.decDigits_length]
  exact Lib.nDigits_le20 u h
theorem itoaN_nat (u : Nat) : itoaN (u : Int) = decN u := by unfold itoaN decN; rw [Lib.itoa_nonneg]
theorem itoaN_neg (u : Nat) (h : 1 ≤ u) : itoaN (-(u : Int)) = 45 :: decN u := by unfold itoaN decN; rw [Lib.itoa_neg u h]; rfl
/-- A number's text (cut, so that it is short at sight). -/
def decT (n : Int) : List Nat := (itoaN n).take 21
instance (n : Int) : StrB (decT n) 21 := ⟨by unfold decT; rw [List.length_take]; omega⟩
theorem decT_eq {n : Int} (h : InR n) : decT n = itoaN n := by
  unfold decT
  apply List.take_of_length_le
  unfold itoaN
  rw [List.length_map]
  exact Lib.itoa_length_le n h.1 (by have := h.2; omega)
theorem rDec_nat : ∀ (u : Nat), u ≤ 9223372036854775807 → ∀ hb : AHeap, Ret ((AM.lim ⟨P, I, genF P Sh.prims⟩) 28 [.int .i64 (u : Int)] hb) hb (.str (decN u)) := by
  intro u
  induction u using Nat.strongRecOn with
  | _ u ih =>
    intro hu hb
    have n0 : ¬ (u : Int) < 0 := by omega
    by_cases hs : u < 10
    · have hs' : (u : Int) < 10 := by omega
      have hw : IntKind.i64.wrap (48 + (u : Int)) = ((48 + u : Nat) : Int) := by rw [wrap_in ⟨by omega, by omega⟩]; omega
      have hw8 : IntKind.u8.wrap ((48 + u : Nat) : Int) = ((48 + u : Nat) : Int) := by
        simp only [IntKind.wrap, IntKind.bits, IntKind.signed]; simp; omega
      rw [decN_small hs]
      have hst : ∀ h : AHeap, pToStr I (.sl (.own h.next) 0 1 (.known 1)) (h.alloc ⟨[.int .u8 ((48 + u : Nat) : Int)], true⟩) = some (.str [48 + u]) := fun h => pToStr_one (AHeap.alloc_at (Nb.o rfl)) (by omega)
      refine f28.lim rfl (n := 3) ?_
      unfold f28.e
      generalize hx : 48 + u = x at *
      (repeat' (first | refine Rf (fun hF hG => ?_) (fun hF hG => ?_) | assumption | (show Ext _ _; exact Ext.go) | (simp only [AHeap.next_alloc, AHeap.next_set, AHeap.next_kill, AHeap.next_res] at hle hsame) | simp (disch := first | exact D.go | fail) [setR, List.getElem?_cons_zero, List.getElem?_cons_succ, f28.n0, f28.b0, f28.n1, f28.b1, f28.n2, f28.b2, n0, hs', hw, hw8, hst, *]))
    · have hs' : ¬ (u : Int) < 10 := by omega
      have hq : IntKind.i64.wrap ((u : Int).tdiv 10) = ((u / 10 : Nat) : Int) := by
        rw [show (u : Int).tdiv 10 = ((u / 10 : Nat) : Int) from (Int.ofNat_tdiv u 10).symm, wrap_in ⟨by omega, by omega⟩]
      have hr : (u : Int).tmod 10 = ((u % 10 : Nat) : Int) := (Int.ofNat_tmod u 10).symm
      have hq2 : IntKind.i64.wrap ((u : Int) / 10) = ((u / 10 : Nat) : Int) := by rw [wrap_in ⟨by omega, by omega⟩]; omega
      have hr2 : (u : Int) % 10 = ((u % 10 : Nat) : Int) := by omega
      have hw : IntKind.i64.wrap (48 + ((u % 10 : Nat) : Int)) = ((48 + u % 10 : Nat) : Int) := by rw [wrap_in ⟨by omega, by omega⟩]; omega
      have hw8 : IntKind.u8.wrap ((48 + u % 10 : Nat) : Int) = ((48 + u % 10 : Nat) : Int) := by
        simp only [IntKind.wrap, IntKind.bits, IntKind.signed]; simp; omega
      rw [decN_big hs]
      have hrec := fun g => ih (u / 10) (by omega) (by omega) g
      haveI : StrB (decN (u / 10)) 20 := ⟨decN_len (by omega)⟩
      have hst : ∀ (h : AHeap) (k : Nat) , pToStr I (.sl (.own k) 0 1 (.known 1)) (h.set k ⟨[.int .u8 ((48 + u % 10 : Nat) : Int)], true⟩) = some (.str [48 + u % 10]) := fun h k => pToStr_one (AHeap.set_at (Nb.o rfl)) (by omega)
      refine f28.lim rfl (n := 3) ?_
      unfold f28.e
      generalize hx : 48 + u % 10 = x at *
      generalize hz : u / 10 = z at *
      generalize hy : u % 10 = y at *
      (repeat' (first | refine Rf (fun hF hG => ?_) (fun hF hG => ?_) | assumption | (show Ext _ _; exact Ext.go) | (simp only [AHeap.next_alloc, AHeap.next_set, AHeap.next_kill, AHeap.next_res] at hle hsame) | simp (disch := first | exact D.go | fail) [setR, List.getElem?_cons_zero, List.getElem?_cons_succ, f28.n0, f28.b0, f28.n1, f28.b1, f28.n2, f28.b2, n0, hs', hq, hr, hq2, hr2, hw, hw8, hst, *] | (refine Ret.thn (h0 := hb) (hrec _) ?_ (fun g hg hlo hle hsame hx => ?_))))
end
end
end Go.Proofs.YtncjcnipagdmlaaDoor.Tx

set_option linter.unusedSimpArgs false
set_option linter.unusedVariables false
namespace Go.Proofs.YtncjcnipagdmlaaDoor.Tx
noncomputable section
open Go.AM Go.Proofs.YtncjcnipagdmlaaDoor.Sf
section
variable {I : Inp} {h0 : AHeap}
theorem rDec {n : Int} (hn : InR n) (hb : AHeap) : Ret ((AM.lim ⟨P, I, genF P Sh.prims⟩) 28 [.int .i64 n] hb) hb (.str (decT n)) := by
  have hn' := hn
  obtain ⟨h1, h2⟩ := hn'
  rw [decT_eq hn]
  by_cases hp : 0 ≤ n
  · obtain ⟨u, rfl⟩ : ∃ u : Nat, n = u := ⟨n.toNat, by omega⟩
    rw [itoaN_nat]
    exact rDec_nat u (by omega) hb
  · obtain ⟨u, rfl, hu⟩ : ∃ u : Nat, n = -(u : Int) ∧ 1 ≤ u := ⟨n.natAbs, by omega, by omega⟩
    rw [itoaN_neg u hu]
    have hneg : -(u : Int) < 0 := by omega
    by_cases hbig : -(u : Int) < -4611686018427387904
    · have e1 : (-(u : Int)).tdiv 10 = -((u / 10 : Nat) : Int) := by rw [Int.neg_tdiv]; congr 1
      have e2 : (-(u : Int)).tmod 10 = -((u % 10 : Nat) : Int) := by rw [Int.neg_tmod]; congr 1
      have w1 : IntKind.i64.wrap (-((u / 10 : Nat) : Int)) = -((u / 10 : Nat) : Int) := wrap_in ⟨by omega, by omega⟩
      have w2 : IntKind.i64.wrap (0 - -((u / 10 : Nat) : Int)) = ((u / 10 : Nat) : Int) := by rw [wrap_in ⟨by omega, by omega⟩]; omega
      have w3 : IntKind.i64.wrap (0 - -((u % 10 : Nat) : Int)) = ((u % 10 : Nat) : Int) := by rw [wrap_in ⟨by omega, by omega⟩]; omega
      have r1 := fun g => rDec_nat (I := I) (u / 10) (by omega) g
      have r2 := fun g => rDec_nat (I := I) (u % 10) (by omega) g
      have hd := decN_big (u := u) (by omega)
      have hd2 := decN_small (u := u % 10) (by omega)
      haveI : StrB (decN (u / 10)) 20 := ⟨decN_len (by omega)⟩
      haveI : StrB (decN (u % 10)) 20 := ⟨decN_len (by omega)⟩
      rw [hd, ← hd2]
      generalize u / 10 = z at *
      generalize u % 10 = y at *
      generalize -(u : Int) = m at *
      refine f28.lim rfl (n := 3) ?_
      unfold f28.e
      simp only [Int.zero_sub, Int.neg_neg] at w2 w3
      (repeat' (first | refine Rf (fun hF hG => ?_) (fun hF hG => ?_) | assumption | (show Ext _ _; exact Ext.go) | (simp only [AHeap.next_alloc, AHeap.next_set, AHeap.next_kill, AHeap.next_res] at hle hsame) | simp (disch := first | exact D.go | fail) [setR, List.getElem?_cons_zero, List.getElem?_cons_succ, f28.n0, f28.b0, f28.n1, f28.b1, f28.n2, f28.b2, hneg, hbig, e1, e2, w1, w2, w3, *] | (refine Ret.thn (h0 := hb) (r1 _) ?_ (fun g hg hlo hle hsame hx => ?_)) | (refine Ret.thn (h0 := hb) (r2 _) ?_ (fun g hg hlo hle hsame hx => ?_))))
    · have w1 : IntKind.i64.wrap (0 - -(u : Int)) = (u : Int) := by rw [wrap_in ⟨by omega, by omega⟩]; omega
      have r1 := fun g => rDec_nat (I := I) u (by omega) g
      haveI : StrB (decN u) 20 := ⟨decN_len (by omega)⟩
      simp only [Int.zero_sub] at w1
      generalize -(u : Int) = m at *
      refine f28.lim rfl (n := 3) ?_
      unfold f28.e
      (repeat' (first | refine Rf (fun hF hG => ?_) (fun hF hG => ?_) | assumption | (show Ext _ _; exact Ext.go) | (simp only [AHeap.next_alloc, AHeap.next_set, AHeap.next_kill, AHeap.next_res] at hle hsame) | simp (disch := first | exact D.go | fail) [setR, List.getElem?_cons_zero, List.getElem?_cons_succ, f28.n0, f28.b0, f28.n1, f28.b1, f28.n2, f28.b2, hneg, hbig, w1, *] | (refine Ret.thn (h0 := hb) (r1 _) ?_ (fun g hg hlo hle hsame hx => ?_))))
def regT (n : Int) : List Nat := 114 :: decT n
instance (n : Int) : StrB (regT n) 22 := ⟨by unfold regT; have := (inferInstance : StrB (decT n) 21).le; simp; omega⟩
theorem rR {n : Int} (hn : InR n) (hb : AHeap) : Ret ((AM.lim ⟨P, I, genF P Sh.prims⟩) 30 [.int .i64 n] hb) hb (.str (regT n)) := by
  refine f30.lim rfl (n := 0) ?_
  unfold f30.e
  (repeat' (first | refine Rf (fun hF hG => ?_) (fun hF hG => ?_) | assumption | (show Ext _ _; exact Ext.go) | (simp only [AHeap.next_alloc, AHeap.next_set, AHeap.next_kill, AHeap.next_res] at hle hsame) | simp (disch := first | exact D.go | fail) [setR, List.getElem?_cons_zero, List.getElem?_cons_succ, regT, *] | (refine Ret.thn (h0 := hb) (rDec hn _) ?_ (fun g hg hlo hle hsame hx => ?_))))
/-! arguments -/
def tailT : List Int → List Nat
  | [] => []
  | x :: r => [44, 32] ++ (regT x ++ tailT r)
def bodyT : List Int → List Nat
  | [] => []
  | x :: r => regT x ++ tailT r
def argsT (l : List Int) : List Nat := 40 :: (bodyT l ++ [41])
theorem tailT_len : ∀ l : List Int, (tailT l).length ≤ 24 * l.length
  | [] => by simp [tailT]
  | x :: r => by
    have h1 := tailT_len r
    have h2 := (inferInstance : StrB (regT x) 22).le
    simp only [tailT, List.length_append, List.length_cons, List.length_nil]; omega
theorem bodyT_len (l : List Int) : (bodyT l).length ≤ 24 * l.length := by
  cases l with
  | nil => simp [bodyT]
  | cons x r =>
    have h1 := tailT_len r
    have h2 := (inferInstance : StrB (regT x) 22).le
    simp only [bodyT, List.length_append, List.length_cons]; omega
theorem inter_tail : ∀ (r : List Int) (x : Int), ([44, 32] : List Nat).intercalate ((x :: r).map regT) = regT x ++ tailT r
  | [], x => by simp [List.intercalate, tailT]
  | y :: r, x => by
    have := inter_tail r y
    simp only [List.map_cons, List.intercalate, List.intersperse_cons_cons, List.flatten_cons] at this ⊢
    rw [this]; simp [tailT]
theorem inter_body (l : List Int) : ([44, 32] : List Nat).intercalate (l.map regT) = bodyT l := by
  cases l with
  | nil => rfl
  | cons x r => exact inter_tail r x
/-- A slice of texts that was made here. -/
def StrsO (hb h : AHeap) (v : AVal) (xs : List (List Nat)) : Prop :=
  (v = .nils ∧ xs = []) ∨ ∃ k, v = .sl (.own k) 0 xs.length (.grown 1) ∧ h.get k = some ⟨xs.map AVal.str, true⟩ ∧ hb.next ≤ k ∧ k < h.next ∧ xs ≠ []
theorem StrsO.mono {hb h g : AHeap} {v : AVal} {xs : List (List Nat)} (a : StrsO hb h v xs) (e : Ext h g) : StrsO hb g v xs := by
  rcases a with a | ⟨k, rfl, hk, h1, h2, h3⟩
  · exact .inl a
  · exact .inr ⟨k, rfl, by rw [e.same k h2]; exact hk, h1, by have := e.lo; omega, h3⟩
theorem strs_one (xs : List (List Nat)) : ((xs.map AVal.str).all AVal.one) = true := by simp [AVal.one]
theorem app_str {hb h : AHeap} {xs : List (List Nat)} {v : AVal} (hv : StrsO hb h v xs) (eb : Ext hb h) (x : List Nat) (hn : xs.length ≤ 1048576) {kw : Nat} {c : Cap} (hw : h.get kw = some ⟨[.str x], true⟩) :
    Res (sAppend I 1 16 v (.sl (.own kw) 0 1 c) h) fun u g => StrsO hb g u (xs ++ [x]) ∧ Ext hb g := by
  rcases hv with ⟨rfl, rfl⟩ | ⟨k, rfl, hk, h1, h2, h3⟩
  · have := sAppend_nils (I := I) (sz := 1) (bytes := 16) (n := 0) (c := c) hw rfl rfl (by simp only [bigRoom]; omega)
    refine ⟨_, _, this, .inr ⟨h.next, rfl, ?_, eb.lo, by simp, by simp⟩, eb.alloc⟩
    simp [AHeap.alloc_at (Nb.o rfl)]
  · have := sAppend_full (I := I) (sz := 1) (bytes := 16) (n := 0) (c := c) (len := xs.length) hw rfl rfl hk (by rw [List.length_map, Nat.mul_one]) (strs_one xs) (by omega) (by simp only [bigRoom]; omega)
    refine ⟨_, _, this, .inr ⟨h.next, ?_, ?_, eb.lo, by simp, by simp⟩, (eb.kill (Nb.o h1)).alloc⟩
    · simp
    · rw [show h.next = (h.kill k).next from rfl, AHeap.alloc_at (Nb.o rfl)]; simp
theorem rArgs {v : AVal} {xs : List Int} (sv : SlOf 1 (IntA I h0) v xs) (hl : xs.length ≤ 1048576) (hb : AHeap) (eb : Ext h0 hb) : Ret ((AM.lim ⟨P, I, genF P Sh.prims⟩) 45 [v] hb) hb (.str (argsT xs)) := by
  obtain ⟨N, hN⟩ := Evt.loop xs (F := fun i n => ∀ (acc : List Nat) h, acc.length ≤ 1 + 24 * i → Ext hb h → Res ((f45.J I (AM.lim ⟨P, I, genF P Sh.prims⟩) (n)).1.2 v (.str acc) (.int .i64 i) h) fun u g => u = .str (acc ++ ((if i = 0 then bodyT (xs.drop i) else tailT (xs.drop i)) ++ [41])) ∧ Ext hb g) 8
    (Evt.all 8 fun n acc h ha e => by
      haveI : StrB acc 25165825 := ⟨by omega⟩
      rw [f45.n1]; unfold f45.b1
      (repeat' (first | refine Rf (fun hF hG => ?_) (fun hF hG => ?_) | assumption | (show Ext _ _; exact Ext.go) | (simp only [AHeap.next_alloc, AHeap.next_set, AHeap.next_kill, AHeap.next_res] at hle hsame) | simp (disch := first | exact D.go | fail) [setR, List.getElem?_cons_zero, List.getElem?_cons_succ, f45.n0, f45.b0, sv.len, bodyT, tailT, *])))
    (fun i x n hx ih acc h ha e => by
      have hlt := lt_of_get hx; have hwi := wrap_in (n := (i : Int) + 1) ⟨by omega, by omega⟩
      simp only [Int.natCast_add, Int.natCast_one] at ih
      have hlo := e.lo
      obtain ⟨l1, o1, hi, hxa⟩ := sv.at hx
      obtain ⟨hxa, hr⟩ := hxa.int
      have e0 := eb.trans e
      haveI : StrB acc 25165825 := ⟨by omega⟩
      have hrl := (inferInstance : StrB (regT x) 22).le
      rw [drop_of_get hx]
      rw [f45.n1]; unfold f45.b1
      have hi1 : ¬ i + 1 = 0 := by omega
      by_cases hi0 : i = 0
      · have ih' := fun m hm g e => ih m hm (acc ++ regT x) g (by rw [List.length_append]; omega) e
        simp only [hi1, if_false, List.append_assoc] at ih'
        rw [if_pos hi0]
        have hz : ¬ 0 < i := by omega
        clear hi0
        (repeat' (first | refine Rf (fun hF hG => ?_) (fun hF hG => ?_) | assumption | (show Ext _ _; exact Ext.go) | (simp only [AHeap.next_alloc, AHeap.next_set, AHeap.next_kill, AHeap.next_res] at hle hsame) | simp (disch := first | exact D.go | fail) [setR, List.getElem?_cons_zero, List.getElem?_cons_succ, f45.n2, f45.b2, f45.n4, f45.b4, f45.n3, f45.b3, sv.len, hi, hxa, hlt, hwi, hz, bodyT, List.append_assoc, *] | (refine Ret.thn (h0 := hb) (rR hr _) ?_ (fun g hg hlo hle hsame hx => ?_)) | (refine Res.mono (ih' _ (by omega) _ ?_) (fun u g hq => ?_); rotate_left; (obtain ⟨rfl, hq⟩ := hq); rotate_right)))
      · have hpos : 0 < i := by omega
        have ih' := fun m hm g e => ih m hm (acc ++ [44, 32] ++ regT x) g (by simp only [List.length_append, List.length_cons, List.length_nil]; omega) e
        simp only [hi1, if_false, List.append_assoc] at ih'
        (repeat' (first | refine Rf (fun hF hG => ?_) (fun hF hG => ?_) | assumption | (show Ext _ _; exact Ext.go) | (simp only [AHeap.next_alloc, AHeap.next_set, AHeap.next_kill, AHeap.next_res] at hle hsame) | simp (disch := first | exact D.go | fail) [setR, List.getElem?_cons_zero, List.getElem?_cons_succ, f45.n2, f45.b2, f45.n4, f45.b4, f45.n3, f45.b3, sv.len, hi, hxa, hlt, hwi, hpos, hi0, tailT, List.append_assoc, *] | (refine Ret.thn (h0 := hb) (rR hr _) ?_ (fun g hg hlo hle hsame hx => ?_)) | (refine Res.mono (ih' _ (by omega) _ ?_) (fun u g hq => ?_); rotate_left; (obtain ⟨rfl, hq⟩ := hq); rotate_right))))
    0 (by omega)
  refine f45.lim rfl (n := N) ?_
  unfold f45.e
  have := hN N (Nat.le_refl _) [40] hb (by simp) (Ext.refl hb)
  simp only [List.drop_zero, if_true] at this
  exact this
end
end
end Go.Proofs.YtncjcnipagdmlaaDoor.Tx

set_option linter.unusedSimpArgs false
set_option linter.unusedVariables false
namespace Go.Proofs.YtncjcnipagdmlaaDoor.Tx
noncomputable section
open Go.AM Go.Proofs.YtncjcnipagdmlaaDoor.Sf
section
variable {I : Inp} {h0 : AHeap}
/-- append(l, xs...), l made here. -/
theorem app_ints {hb h : AHeap} {xs ys : List Int} {w v : AVal} (hw : IntsO hb h w xs) (sv : SlOf 1 (IntA I h0) v ys) (eb : Ext hb h) (e0 : Ext h0 h) (hn : xs.length + ys.length ≤ 1000000) :
    Res (sAppend I 1 8 w v h) fun u g => IntsO hb g u (xs ++ ys) ∧ Ext hb g := by
  cases ys with
  | nil =>
    have : sAppend I 1 8 w v h = some (w, h) := by
      have hz : ∃ y, (v = .nils ∨ ∃ b o c, v = .sl (.inp b) o 0 c) ∧ y = v := by
        rcases sv with ⟨rfl, _⟩ | ⟨l, o, cap, rfl, _, hn, _⟩
        · exact ⟨_, .inl rfl, rfl⟩
        · obtain ⟨b, rfl⟩ := hn.2 rfl
          exact ⟨_, .inr ⟨b, o, cap, rfl⟩, rfl⟩
      obtain ⟨_, hz, _⟩ := hz
      rcases hw with ⟨rfl, rfl⟩ | ⟨k, rfl, _⟩
      · rcases hz with rfl | ⟨b, o, c, rfl⟩ <;> rfl
      · rcases hz with rfl | ⟨b, o, c, rfl⟩ <;> rfl
    exact ⟨_, _, this, by rw [List.append_nil]; exact hw, eb⟩
  | cons y ys =>
    obtain ⟨l, o, cap, rfl, hr⟩ := ints_cells sv h e0 (by simp)
    rcases hw with ⟨rfl, rfl⟩ | ⟨k, rfl, hk, h1, h2, h3⟩
    · have hb1 : Nat.ble ((y :: ys).length * 8) bigRoom = true := Nat.ble_eq_true_of_le (by simp only [bigRoom]; omega)
      have hb2 : Nat.ble (y :: ys).length bigRoom = true := Nat.ble_eq_true_of_le (by simp only [bigRoom]; omega)
      have : sAppend I 1 8 .nils (.sl l o (y :: ys).length cap) h = some (.sl (.own h.next) 0 (y :: ys).length (.grown 1), h.alloc ⟨(y :: ys).map fun n => AVal.int .i64 n, true⟩) := by
        simp only [sAppend, appendK_eq, appendTo, srcCells, hr]
        simp only [List.length_cons] at hb1 hb2 ⊢
        simp only [ints_all, hb1, hb2]
        rfl
      exact ⟨_, _, this, .inr ⟨h.next, by simp, by rw [AHeap.alloc_at (Nb.o rfl)]; simp, eb.lo, by simp, by simp⟩, eb.alloc⟩
    · have hb1 : Nat.ble ((xs.length + (y :: ys).length) * 8) bigRoom = true := Nat.ble_eq_true_of_le (by simp only [bigRoom]; omega)
      have hb2 : Nat.ble (xs.length + (y :: ys).length) bigRoom = true := Nat.ble_eq_true_of_le (by simp only [bigRoom]; omega)
      have hle : Nat.ble (0 + xs.length * 1) xs.length = true := Nat.ble_eq_true_of_le (by omega)
      have hgt : Nat.ble (0 + xs.length * 1 + (ys.length + 1)) xs.length = false := by
        cases hx : Nat.ble (0 + xs.length * 1 + (ys.length + 1)) xs.length with
        | false => rfl
        | true => have := Nat.le_of_ble_eq_true hx; omega
      have ht : ((xs.map fun n => AVal.int .i64 n).drop 0).take (xs.length * 1) = xs.map fun n => AVal.int .i64 n := by rw [List.drop_zero, List.take_of_length_le (by rw [List.length_map]; omega)]
      have : sAppend I 1 8 (.sl (.own k) 0 xs.length (.grown 1)) (.sl l o (y :: ys).length cap) h = some (.sl (.own h.next) 0 (xs.length + (y :: ys).length) (.grown 1), (h.kill k).alloc ⟨(xs.map fun n => AVal.int .i64 n) ++ ((y :: ys).map fun n => AVal.int .i64 n), true⟩) := by
        simp only [sAppend, appendK_eq, appendTo, srcCells, hr]
        simp only [List.length_cons] at hb1 hb2 ⊢
        simp only [ints_all, hb1, hb2, hk, List.length_map, List.length_cons, Nat.beq_refl, hle, hgt, Bool.and_self, ht, show h.room = true from rfl]
      refine ⟨_, _, this, .inr ⟨h.next, by simp, ?_, eb.lo, by simp, by simp⟩, (eb.kill (Nb.o h1)).alloc⟩
      rw [show h.next = (h.kill k).next from rfl, AHeap.alloc_at (Nb.o rfl)]; simp
theorem IntsO.nil (hb h : AHeap) : IntsO hb h .nils [] := .inl ⟨rfl, rfl⟩
end
end
end Go.Proofs.YtncjcnipagdmlaaDoor.Tx

set_option linter.unusedSimpArgs false
set_option linter.unusedVariables false
namespace Go.Proofs.YtncjcnipagdmlaaDoor.Tx
noncomputable section
open Go.AM Go.Proofs.YtncjcnipagdmlaaDoor.Sf
section
variable {I : Inp} {h0 : AHeap}
theorem app_lit {h : AHeap} {k : Nat} (xs : List Int) (hk : h.get k = some ⟨xs.map fun n => AVal.int .i64 n, true⟩) (hx : xs ≠ []) (hr : ∀ x ∈ xs, InR x) (hl : k < h.next) (hn : xs.length ≤ 1000) (e0 : Ext h0 h) :
    Res (sAppend I 1 8 .nils (.sl (.own k) 0 xs.length (.known xs.length)) h) fun u g => IntsO h g u xs ∧ Ext h g := by
  have sv : SlOf 1 (IntA I h) (.sl (.own k) 0 xs.length (.known xs.length)) xs := ints_new hk hl (fun m hm => by simp [capHas]; simpa using hm) (by omega) hx hr
  exact app_ints (IntsO.nil _ _) sv (Ext.refl _) (Ext.refl _) (by simp; omega)
end
end
end Go.Proofs.YtncjcnipagdmlaaDoor.Tx

set_option linter.unusedSimpArgs false
set_option linter.unusedVariables false
namespace Go.Proofs.YtncjcnipagdmlaaDoor.Tx
noncomputable section
open Go.AM Go.Proofs.YtncjcnipagdmlaaDoor.Sf
section
variable {I : Inp} {h0 : AHeap}
/-! an instruction's line -/
def valT (i : Ins) : List Nat :=
  if i.op = 1 then [99, 111, 110, 115, 116, 32] ++ decT i.n else if i.op = 2 then [97, 100, 100, 32] ++ (regT i.a ++ ([32] ++ regT i.b)) else if i.op = 3 then [115, 111, 117, 114, 99, 101] else if i.op = 4 then [110, 105, 108] else if i.op = 5 then [110, 101, 119]
  else if i.op = 6 then regT i.a else if i.op = 7 then regT i.a ++ ([46] ++ decT i.n) else if i.op = 10 then [102, 117, 110, 99, 32] ++ decT i.n else if i.op = 11 then [105, 102, 97, 99, 101, 32] ++ regT i.a
  else if i.op = 12 then [99, 97, 108, 108, 32] ++ (decT i.n ++ argsT i.args) else if i.op = 13 then [99, 97, 108, 108, 32] ++ (regT i.a ++ argsT i.args) else if i.op = 14 then [99, 97, 108, 108, 32] ++ (regT i.a ++ ([46] ++ (decT i.n ++ argsT i.args))) else []
def lineT (i : Ins) : List Nat :=
  if i.op = 8 then regT i.a ++ ([46] ++ (decT i.n ++ ([32, 61, 32] ++ regT i.b))) else if i.op = 9 then [102, 114, 101, 101, 32] ++ regT i.a else if i.op = 15 then [115, 105, 110, 107, 32] ++ regT i.a
  else if i.op < 1 ∨ 15 < i.op then [63] else regT i.dst ++ ([32, 61, 32] ++ valT i)
theorem argsT_len (l : List Int) (h : l.length ≤ 1048576) : (argsT l).length ≤ 25165826 := by
  have := bodyT_len l
  simp only [argsT, List.length_cons, List.length_append, List.length_nil]; omega
theorem valT_ne {i : Ins} (h : ¬ (i.op < 1 ∨ 15 < i.op)) (h8 : i.op ≠ 8) (h9 : i.op ≠ 9) (h15 : i.op ≠ 15) : ∃ c l, valT i = c :: l := by
  obtain ⟨op, dst, a, b, n, args⟩ := i
  simp only at h h8 h9 h15
  rcases opCases op with rfl | rfl | rfl | rfl | rfl | rfl | rfl | rfl | rfl | rfl | rfl | rfl | rfl | rfl | rfl | h16
  all_goals (first | exact absurd h16 h | contradiction | (simp [valT, regT]))
theorem valT_len {i : Ins} (hm : i.args.length ≤ 1048576) : (valT i).length ≤ 25165926 := by
  obtain ⟨op, dst, a, b, n, args⟩ := i
  simp only at hm
  haveI : StrB (argsT args) 25165826 := ⟨argsT_len _ hm⟩
  rcases opCases op with rfl | rfl | rfl | rfl | rfl | rfl | rfl | rfl | rfl | rfl | rfl | rfl | rfl | rfl | rfl | h16
  all_goals (
    ((try (have n1 : ¬ op = 1 := by omega)); (try (have n2 : ¬ op = 2 := by omega)); (try (have n3 : ¬ op = 3 := by omega)); (try (have n4 : ¬ op = 4 := by omega)); (try (have n5 : ¬ op = 5 := by omega)); (try (have n6 : ¬ op = 6 := by omega)); (try (have n7 : ¬ op = 7 := by omega)); (try (have n8 : ¬ op = 8 := by omega)); (try (have n9 : ¬ op = 9 := by omega)); (try (have n10 : ¬ op = 10 := by omega)); (try (have n11 : ¬ op = 11 := by omega)); (try (have n12 : ¬ op = 12 := by omega)); (try (have n13 : ¬ op = 13 := by omega)); (try (have n14 : ¬ op = 14 := by omega)); (try (have n15 : ¬ op = 15 := by omega)))
    simp [valT, *]
    try (have h1 := (inferInstance : StrB (decT n) 21).le
         have h2 := (inferInstance : StrB (regT a) 22).le
         have h3 := (inferInstance : StrB (regT b) 22).le
         have h4 := (inferInstance : StrB (argsT args) 25165826).le
         omega))
theorem valT_nil {i : Ins} (h : i.op < 1 ∨ 15 < i.op) : valT i = [] := by
  have n1 : ¬ i.op = 1 := by omega
  have n2 : ¬ i.op = 2 := by omega
  have n3 : ¬ i.op = 3 := by omega
  have n4 : ¬ i.op = 4 := by omega
  have n5 : ¬ i.op = 5 := by omega
  have n6 : ¬ i.op = 6 := by omega
  have n7 : ¬ i.op = 7 := by omega
  have n10 : ¬ i.op = 10 := by omega
  have n11 : ¬ i.op = 11 := by omega
  have n12 : ¬ i.op = 12 := by omega
  have n13 : ¬ i.op = 13 := by omega
  have n14 : ¬ i.op = 14 := by omega
  simp only [valT, *, if_false]
theorem rLine {cs : List AVal} {i : Ins} (hi : InsC I h0 cs i) (hm : i.args.length ≤ 1048576) (hb : AHeap) (eb : Ext h0 hb) : Ret ((AM.lim ⟨P, I, genF P Sh.prims⟩) 29 [.agg cs] hb) hb (.str (lineT i)) := by
  obtain ⟨op, dst, a, b, n, args⟩ := i
  obtain ⟨v, rfl, sv, r1, r2, r3, r4, r5⟩ := hi
  simp only at hm r2 r3 r4 r5
  haveI : StrB (argsT args) 25165826 := ⟨argsT_len _ hm⟩
  have o1 := sv.one
  have o2 := sv.self
  rcases opCases op with rfl | rfl | rfl | rfl | rfl | rfl | rfl | rfl | rfl | rfl | rfl | rfl | rfl | rfl | rfl | h16
  all_goals (
    ((try (have n1 : ¬ op = 1 := by omega)); (try (have n2 : ¬ op = 2 := by omega)); (try (have n3 : ¬ op = 3 := by omega)); (try (have n4 : ¬ op = 4 := by omega)); (try (have n5 : ¬ op = 5 := by omega)); (try (have n6 : ¬ op = 6 := by omega)); (try (have n7 : ¬ op = 7 := by omega)); (try (have n8 : ¬ op = 8 := by omega)); (try (have n9 : ¬ op = 9 := by omega)); (try (have n10 : ¬ op = 10 := by omega)); (try (have n11 : ¬ op = 11 := by omega)); (try (have n12 : ¬ op = 12 := by omega)); (try (have n13 : ¬ op = 13 := by omega)); (try (have n14 : ¬ op = 14 := by omega)); (try (have n15 : ¬ op = 15 := by omega)))
    refine f29.lim rfl (n := 3) ?_
    unfold f29.e
    (repeat' (first | refine Rf (fun hF hG => ?_) (fun hF hG => ?_) | assumption | (show Ext _ _; exact Ext.go) | (simp only [AHeap.next_alloc, AHeap.next_set, AHeap.next_kill, AHeap.next_res] at hle hsame) | simp (disch := first | exact D.go | fail) [setR, List.getElem?_cons_zero, List.getElem?_cons_succ, f29.n0, f29.b0, lineT, valT, o1, o2, List.append_assoc, *] | (refine Ret.thn (h0 := hb) (rR r2 _) ?_ (fun g hg hlo hle hsame hx => ?_)) | (refine Ret.thn (h0 := hb) (rR r3 _) ?_ (fun g hg hlo hle hsame hx => ?_)) | (refine Ret.thn (h0 := hb) (rR r4 _) ?_ (fun g hg hlo hle hsame hx => ?_)) | (refine Ret.thn (h0 := hb) (rDec r5 _) ?_ (fun g hg hlo hle hsame hx => ?_)) | (refine Ret.thn (h0 := hb) (rArgs sv (by simp only; omega) _ Ext.go) ?_ (fun g hg hlo hle hsame hx => ?_)))))
end
end
end Go.Proofs.YtncjcnipagdmlaaDoor.Tx

set_option linter.unusedSimpArgs false
set_option linter.unusedVariables false
namespace Go.Proofs.YtncjcnipagdmlaaDoor.Tx
noncomputable section
open Go.AM Go.Proofs.YtncjcnipagdmlaaDoor.Sf
section
variable {I : Inp} {h0 : AHeap}
/-! a program's lines -/
def endT (b : Bk) : List Nat := if b.fin = 1 then [106, 117, 109, 112, 32] ++ decT b.to else if b.fin = 2 then [98, 114, 97, 110, 99, 104, 32] ++ (regT b.reg ++ (32 :: (decT b.to ++ (32 :: decT b.els)))) else if b.fin = 3 then [114, 101, 116, 117, 114, 110, 32] ++ regT b.reg else [63]
def codeL : List Ins → List (List Nat)
  | [] => []
  | i :: r => ([32, 32, 32, 32] ++ lineT i) :: codeL r
def bkL : Nat → List Bk → List (List Nat)
  | _, [] => []
  | n, b :: r => ([32, 32, 98, 108, 111, 99, 107, 32] ++ decT n) :: (codeL b.code ++ (([32, 32, 32, 32] ++ endT b) :: bkL (n + 1) r))
def fuL : Nat → List Fu → List (List Nat)
  | _, [] => []
  | n, f :: r => ([102, 117, 110, 99, 32] ++ decT n) :: (bkL 0 f.blocks ++ fuL (n + 1) r)
def flatL : List (List Nat) → List Nat
  | [] => []
  | l :: r => l ++ (10 :: flatL r)
theorem flatL_app : ∀ a b, flatL (a ++ b) = flatL a ++ flatL b
  | [], b => rfl
  | x :: a, b => by simp [flatL, flatL_app a b]
theorem flatL_len (M : Nat) : ∀ l : List (List Nat), (∀ x ∈ l, x.length ≤ M) → (flatL l).length ≤ l.length * (M + 1)
  | [], _ => by simp [flatL]
  | x :: r, h => by
    have h1 := flatL_len M r fun y hy => h y (by simp [hy])
    have h2 := h x (by simp)
    simp only [flatL, List.length_append, List.length_cons, Nat.add_mul]
    omega
theorem lineT_len {i : Ins} (hm : i.args.length ≤ 1048576) : (lineT i).length ≤ 25165960 := by
  have h0 := valT_len hm
  have h1 := (inferInstance : StrB (decT i.n) 21).le
  have h2 := (inferInstance : StrB (regT i.a) 22).le
  have h3 := (inferInstance : StrB (regT i.b) 22).le
  have h4 := (inferInstance : StrB (regT i.dst) 22).le
  unfold lineT
  split
  · simp only [List.length_append, List.length_cons, List.length_nil]; omega
  · split
    · simp only [List.length_append, List.length_cons, List.length_nil]; omega
    · split
      · simp only [List.length_append, List.length_cons, List.length_nil]; omega
      · split
        · simp
        · simp only [List.length_append, List.length_cons, List.length_nil]; omega
instance (b : Bk) : StrB (endT b) 80 := ⟨by
  have h1 := (inferInstance : StrB (decT b.to) 21).le
  have h2 := (inferInstance : StrB (decT b.els) 21).le
  have h3 := (inferInstance : StrB (regT b.reg) 22).le
  unfold endT
  split
  · simp only [List.length_append, List.length_cons, List.length_nil]; omega
  · split
    · simp only [List.length_append, List.length_cons, List.length_nil]; omega
    · split
      · simp only [List.length_append, List.length_cons, List.length_nil]; omega
      · simp⟩
end
end
end Go.Proofs.YtncjcnipagdmlaaDoor.Tx

set_option linter.unusedSimpArgs false
set_option linter.unusedVariables false
namespace Go.Proofs.YtncjcnipagdmlaaDoor.Tx
noncomputable section
open Go.AM Go.Proofs.YtncjcnipagdmlaaDoor.Sf
section
variable {I : Inp} {h0 : AHeap}
theorem rPrint {l : AM.Loc} {o : Nat} {q : Pg} (hq : PgA I h0 l o q) (hcode : ∀ f ∈ q.funcs, ∀ b ∈ f.blocks, b.code.length ≤ 1000000) (hS : ∀ f ∈ q.funcs, ∀ b ∈ f.blocks, ∀ i ∈ b.code, i.args.length ≤ 1048576)
    (hL : (flatL (fuL 0 q.funcs)).length ≤ 20000000000) (hb : AHeap) (eb : Ext h0 hb) : Ret ((AM.lim ⟨P, I, genF P Sh.prims⟩) 17 [.ptr l o] hb) hb (.str (flatL (fuL 0 q.funcs))) := by
  obtain ⟨_, ⟨vr, vs, vf, vi, vu, rfl, rm, sr, ss, sf, si, su⟩, hc⟩ := hq
  have lu := su.lt
  obtain ⟨N, hN⟩ := Evt.loop' q.funcs (F := fun i n => ∀ (acc : List Nat) h, acc.length + (flatL (fuL i (q.funcs.drop i))).length ≤ 20000000000 → Ext hb h → Res ((f17.J I (AM.lim ⟨P, I, genF P Sh.prims⟩) (n)).1.1.2 (.ptr l o) (.str acc) (.int .i64 i) h) fun u g => u = .str (acc ++ flatL (fuL i (q.funcs.drop i))) ∧ Ext hb g)
    (Evt.all 5 fun n acc h hn e => by
      rw [f17.n1]; unfold f17.b1
      (repeat' (first | refine Rf (fun hF hG => ?_) (fun hF hG => ?_) | assumption | (show Ext _ _; exact Ext.go) | (simp only [AHeap.next_alloc, AHeap.next_set, AHeap.next_kill, AHeap.next_res] at hle hsame) | simp (disch := first | exact D.go | fail) [setR, List.getElem?_cons_zero, List.getElem?_cons_succ, f17.n0, f17.b0, hc.rd0, hc.rd1, hc.rd2, hc.rd3, hc.rd4, hc.rd5, sr.len, ss.len, sf.len, si.len, su.len, sr.self, ss.self, sf.self, si.self, su.self, fuL, flatL, *])))
    (fun i f hf hfo => by
      obtain ⟨lf, of, hif, ⟨_, ⟨wr, wb, rfl, r0, swr, swb⟩, hwf⟩⟩ := su.at hf
      have hlt := lt_of_get hf; have hw := wrap_in (n := (i : Int) + 1) ⟨by omega, by omega⟩
      have hri : InR (i : Int) := ⟨by omega, by omega⟩
      have lb := swb.lt
      simp only [Int.natCast_add, Int.natCast_one] at hfo
      have inner := Evt.loop' f.blocks (F := fun b n => ∀ (acc : List Nat) h, acc.length + (flatL (bkL b (f.blocks.drop b) ++ fuL (i + 1) (q.funcs.drop (i + 1)))).length ≤ 20000000000 → Ext hb h → Res ((f17.J I (AM.lim ⟨P, I, genF P Sh.prims⟩) (n)).1.2.2.2 (.ptr l o) (.str acc) (.int .i64 i) (.int .i64 b) h) fun u g =>
          u = .str (acc ++ flatL (bkL b (f.blocks.drop b) ++ fuL (i + 1) (q.funcs.drop (i + 1)))) ∧ Ext hb g)
        (Evt.step 5 hfo fun n hn acc h hl e => by
          have hlo := e.lo
          have hl' : acc.length + (flatL (fuL (i + 1) (q.funcs.drop (i + 1)))).length ≤ 20000000000 := by simpa [bkL] using hl
          have := fun m hm => hn m hm acc h hl' e
          rw [f17.n4]; unfold f17.b4
          (repeat' (first | refine Rf (fun hF hG => ?_) (fun hF hG => ?_) | assumption | (show Ext _ _; exact Ext.go) | (simp only [AHeap.next_alloc, AHeap.next_set, AHeap.next_kill, AHeap.next_res] at hle hsame) | simp (disch := first | exact D.go | fail) [setR, List.getElem?_cons_zero, List.getElem?_cons_succ, f17.n3, f17.b3, hc.rd0, hc.rd1, hc.rd2, hc.rd3, hc.rd4, hc.rd5, sr.len, ss.len, sf.len, si.len, su.len, sr.self, ss.self, sf.self, si.self, su.self, hif, hwf.rd2, swb.len, hw, bkL, *])))
        (fun b x hx hbo => by
          obtain ⟨l1, o1, hib, ⟨_, ⟨vc, rfl, sc, q1, q2, q3, q4⟩, ha⟩⟩ := swb.at hx
          have hltb := lt_of_get hx; have hwb := wrap_in (n := (b : Int) + 1) ⟨by omega, by omega⟩
          have hrb : InR (b : Int) := ⟨by omega, by omega⟩
          simp only [Int.natCast_add, Int.natCast_one] at hbo
          have lc := hcode f (List.mem_of_getElem? hf) x (List.mem_of_getElem? hx)
          have hld := fun g e => ha.rds (n := 5) g e rfl (by omega)
          have oc := sc.one
          have inn := Evt.loop x.code (F := fun j n => ∀ (acc : List Nat) k h, acc.length + (flatL (codeL (x.code.drop j) ++ (([32, 32, 32, 32] ++ endT x) :: (bkL (b + 1) (f.blocks.drop (b + 1)) ++ fuL (i + 1) (q.funcs.drop (i + 1)))))).length ≤ 20000000000 →
              h.get k = some ⟨[vc, .int .i64 x.fin, .int .i64 x.reg, .int .i64 x.to, .int .i64 x.els], true⟩ → k < h.next → Ext hb h →
              Res ((f17.J I (AM.lim ⟨P, I, genF P Sh.prims⟩) (n)).2.2.1 (.ptr l o) (.str acc) (.int .i64 i) (.int .i64 b) (.ptr (.own k) 0) (.int .i64 j) h) fun u g => u = .str (acc ++ flatL (codeL (x.code.drop j) ++ (([32, 32, 32, 32] ++ endT x) :: (bkL (b + 1) (f.blocks.drop (b + 1)) ++ fuL (i + 1) (q.funcs.drop (i + 1)))))) ∧ Ext hb g) 8
            (by
              refine Evt.step 8 hbo fun n hn acc k h hl hk hkl e => ?_
              have hlo := e.lo
              simp only [List.drop_length, codeL, List.nil_append, flatL, List.length_append, List.length_cons, List.length_nil] at hl ⊢
              have el := (inferInstance : StrB (endT x) 80).le
              have hn' := fun m hm g e => hn m hm (acc ++ (32 :: 32 :: 32 :: 32 :: (endT x ++ [10]))) g (by simp only [flatL_app, List.length_append, List.length_cons, List.length_nil] at hl ⊢; omega) e
              simp only [List.append_assoc, List.cons_append, List.nil_append] at hn' ⊢
              haveI : StrB acc 20000000000 := ⟨by omega⟩
              rw [f17.n8]; unfold f17.b8
              by_cases h1 : x.fin = 1
              · simp only [endT, h1, if_true, List.append_assoc, List.cons_append, List.nil_append] at hn' ⊢
                (repeat' (first | refine Rf (fun hF hG => ?_) (fun hF hG => ?_) | assumption | (show Ext _ _; exact Ext.go) | (simp only [AHeap.next_alloc, AHeap.next_set, AHeap.next_kill, AHeap.next_res] at hle hsame) | simp (disch := first | exact D.go | fail) [setR, List.getElem?_cons_zero, List.getElem?_cons_succ, f17.n7, f17.b7, f17.n6, f17.b6, hk, sc.len, h1, hwb, List.append_assoc, *] | (refine Ret.thn (h0 := hb) (rDec q3 _) ?_ (fun g hg hlo hle hsame hx => ?_))))
              · by_cases h2 : x.fin = 2
                · have n12 : ¬ (2 : Int) = 1 := by omega
                  simp only [endT, h2, n12, if_true, if_false, List.append_assoc, List.cons_append, List.nil_append] at hn' ⊢
                  (repeat' (first | refine Rf (fun hF hG => ?_) (fun hF hG => ?_) | assumption | (show Ext _ _; exact Ext.go) | (simp only [AHeap.next_alloc, AHeap.next_set, AHeap.next_kill, AHeap.next_res] at hle hsame) | simp (disch := first | exact D.go | fail) [setR, List.getElem?_cons_zero, List.getElem?_cons_succ, f17.n7, f17.b7, f17.n6, f17.b6, hk, sc.len, h1, h2, hwb, List.append_assoc, *] | (refine Ret.thn (h0 := hb) (rDec q3 _) ?_ (fun g hg hlo hle hsame hx => ?_)) | (refine Ret.thn (h0 := hb) (rDec q4 _) ?_ (fun g hg hlo hle hsame hx => ?_)) | (refine Ret.thn (h0 := hb) (rR q2 _) ?_ (fun g hg hlo hle hsame hx => ?_))))
                · by_cases h3 : x.fin = 3
                  · have n13 : ¬ (3 : Int) = 1 := by omega
                    have n23 : ¬ (3 : Int) = 2 := by omega
                    simp only [endT, h3, n13, n23, if_true, if_false, List.append_assoc, List.cons_append, List.nil_append] at hn' ⊢
                    (repeat' (first | refine Rf (fun hF hG => ?_) (fun hF hG => ?_) | assumption | (show Ext _ _; exact Ext.go) | (simp only [AHeap.next_alloc, AHeap.next_set, AHeap.next_kill, AHeap.next_res] at hle hsame) | simp (disch := first | exact D.go | fail) [setR, List.getElem?_cons_zero, List.getElem?_cons_succ, f17.n7, f17.b7, f17.n6, f17.b6, hk, sc.len, h1, h2, h3, hwb, List.append_assoc, *] | (refine Ret.thn (h0 := hb) (rR q2 _) ?_ (fun g hg hlo hle hsame hx => ?_))))
                  · simp only [endT, h1, h2, h3, if_false, List.append_assoc, List.cons_append, List.nil_append] at hn' ⊢
                    (repeat' (first | refine Rf (fun hF hG => ?_) (fun hF hG => ?_) | assumption | (show Ext _ _; exact Ext.go) | (simp only [AHeap.next_alloc, AHeap.next_set, AHeap.next_kill, AHeap.next_res] at hle hsame) | simp (disch := first | exact D.go | fail) [setR, List.getElem?_cons_zero, List.getElem?_cons_succ, f17.n7, f17.b7, f17.n6, f17.b6, hk, sc.len, h1, h2, h3, hwb, List.append_assoc, *])))
            (fun j y n hy ih acc k h hl hk hkl e => by
              have hlj := lt_of_get hy
              have hwj := wrap_in (n := (j : Int) + 1) ⟨by omega, by omega⟩
              have hrj : InR (j : Int) := ⟨by omega, by omega⟩
              have hym := hS f (List.mem_of_getElem? hf) x (List.mem_of_getElem? hx) y (List.mem_of_getElem? hy)
              simp only [Int.natCast_add, Int.natCast_one] at ih
              rw [drop_of_get hy] at hl ⊢
              simp only [codeL, List.cons_append, List.nil_append, flatL, List.length_append, List.length_cons, List.length_nil] at hl ⊢
              obtain ⟨l3, o3, hji, ⟨ci, hic, ha3⟩⟩ := sc.at hy
              have hRl := fun g e => rLine hic hym g e
              have hlen := lineT_len hym
              have hld3 : ∀ g, Ext h0 g → rds I g l3 o3 6 = some ci := by
                obtain ⟨v, rfl, sv, _⟩ := hic
                exact fun g e => ha3.rds (n := 6) g e rfl (by omega)
              haveI : StrB acc 20000000000 := ⟨by omega⟩
              haveI : StrB (lineT y) 25165960 := ⟨hlen⟩
              generalize lineT y = L at *
              have ih' := fun m hm g hk hkl e => ih m hm (acc ++ (32 :: 32 :: 32 :: 32 :: (L ++ [10]))) k g (by simp only [flatL_app, flatL, List.length_append, List.length_cons, List.length_nil] at hl ⊢; omega) hk hkl e
              simp only [List.append_assoc, List.cons_append, List.nil_append] at ih'
              have hlo := e.lo
              rw [f17.n8]; unfold f17.b8
              (repeat' (first | refine Rf (fun hF hG => ?_) (fun hF hG => ?_) | assumption | (show Ext _ _; exact Ext.go) | (simp only [AHeap.next_alloc, AHeap.next_set, AHeap.next_kill, AHeap.next_res] at hle hsame) | simp (disch := first | exact D.go | fail) [setR, List.getElem?_cons_zero, List.getElem?_cons_succ, f17.n9, f17.b9, f17.n10, f17.b10, hk, sc.len, hlj, hji, hld3, hwj, List.append_assoc, *] | (refine Ret.thn (h0 := hb) (hRl _ Ext.go) ?_ (fun g hg hlo hle hsame hx => ?_))))
              exact ih' _ (by omega) _ ((hsame k hkl).trans hk) (by omega) hg)
            0 (by omega)
          refine Evt.step 5 inn fun n hn acc h hl e => ?_
          rw [drop_of_get hx] at hl ⊢
          simp only [bkL, List.cons_append, List.nil_append, flatL, List.length_append, List.length_cons, List.length_nil] at hl ⊢
          have dl := (inferInstance : StrB (decT (b : Int)) 21).le
          have hn' := fun m hm k g hk hkl e => hn m hm (acc ++ (32 :: 32 :: 98 :: 108 :: 111 :: 99 :: 107 :: 32 :: (decT (b : Int) ++ [10]))) k g (by simp only [flatL_app, flatL, List.length_append, List.length_cons, List.length_nil, List.drop_zero] at hl ⊢; omega) hk hkl e
          simp only [List.drop_zero, List.append_assoc, List.cons_append, List.nil_append] at hn' ⊢
          haveI : StrB acc 20000000000 := ⟨by omega⟩
          have hlo := e.lo
          rw [f17.n4]; unfold f17.b4
          (repeat' (first | refine Rf (fun hF hG => ?_) (fun hF hG => ?_) | assumption | (show Ext _ _; exact Ext.go) | (simp only [AHeap.next_alloc, AHeap.next_set, AHeap.next_kill, AHeap.next_res] at hle hsame) | simp (disch := first | exact D.go | fail) [setR, List.getElem?_cons_zero, List.getElem?_cons_succ, f17.n5, f17.b5, hc.rd0, hc.rd1, hc.rd2, hc.rd3, hc.rd4, hc.rd5, sr.len, ss.len, sf.len, si.len, su.len, sr.self, ss.self, sf.self, si.self, su.self, hif, hwf.rd2, swb.len, hltb, hib, hld, oc, List.append_assoc, *] | (refine Ret.thn (h0 := hb) (rDec hrb _) ?_ (fun g hg hlo hle hsame hx => ?_))))
          exact hn' _ (by omega) _ _ ((hsame _ (by omega)).trans (AHeap.set_at (Nb.o rfl))) (by omega) hg)
        0 (by omega)
      refine Evt.step 5 inner fun n hn acc h hl e => ?_
      rw [drop_of_get hf] at hl ⊢
      simp only [fuL, List.cons_append, List.nil_append, flatL, List.length_append, List.length_cons, List.length_nil] at hl ⊢
      have dl := (inferInstance : StrB (decT (i : Int)) 21).le
      have hn' := fun m hm g e => hn m hm (acc ++ (102 :: 117 :: 110 :: 99 :: 32 :: (decT (i : Int) ++ [10]))) g (by simp only [flatL_app, List.length_append, List.length_cons, List.length_nil, List.drop_zero] at hl ⊢; omega) e
      simp only [List.drop_zero, List.append_assoc, List.cons_append, List.nil_append] at hn'
      haveI : StrB acc 20000000000 := ⟨by omega⟩
      have hlo := e.lo
      rw [f17.n1]; unfold f17.b1
      (repeat' (first | refine Rf (fun hF hG => ?_) (fun hF hG => ?_) | assumption | (show Ext _ _; exact Ext.go) | (simp only [AHeap.next_alloc, AHeap.next_set, AHeap.next_kill, AHeap.next_res] at hle hsame) | simp (disch := first | exact D.go | fail) [setR, List.getElem?_cons_zero, List.getElem?_cons_succ, f17.n2, f17.b2, hc.rd0, hc.rd1, hc.rd2, hc.rd3, hc.rd4, hc.rd5, sr.len, ss.len, sf.len, si.len, su.len, sr.self, ss.self, sf.self, si.self, su.self, hlt, List.append_assoc, *] | (refine Ret.thn (h0 := hb) (rDec hri _) ?_ (fun g hg hlo hle hsame hx => ?_))))
      exact hn' _ (by omega) _ hg)
    0 (by omega)
  refine f17.lim rfl (n := N) ?_
  unfold f17.e
  have := hN N (Nat.le_refl _) [] hb (by simpa using hL) (Ext.refl hb)
  (repeat' (first | refine Rf (fun hF hG => ?_) (fun hF hG => ?_) | assumption | (show Ext _ _; exact Ext.go) | (simp only [AHeap.next_alloc, AHeap.next_set, AHeap.next_kill, AHeap.next_res] at hle hsame) | simp (disch := first | exact D.go | fail) [setR, List.getElem?_cons_zero, List.getElem?_cons_succ, setR, *]))
end
end
end Go.Proofs.YtncjcnipagdmlaaDoor.Tx

set_option linter.unusedSimpArgs false
set_option linter.unusedVariables false
namespace Go.Proofs.YtncjcnipagdmlaaDoor.Tx
noncomputable section
open Go.AM Go.Proofs.YtncjcnipagdmlaaDoor.Sf
section
variable {I : Inp}
theorem codeL_len : ∀ l : List Ins, (codeL l).length = l.length
  | [] => rfl
  | i :: r => by simp only [codeL, List.length_cons, codeL_len r]
theorem bkL_len : ∀ (l : List Bk) (b : Nat), (bkL b l).length ≤ 2 * lenB l
  | [], b => by simp [bkL]
  | x :: r, b => by
    have := bkL_len r (b + 1)
    simp only [bkL, List.length_cons, List.length_append, codeL_len, lenB]; omega
theorem fuL_len : ∀ (l : List Fu) (i : Nat), (fuL i l).length ≤ l.length + 2 * lenF l
  | [], i => by simp [fuL]
  | f :: r, i => by
    have := fuL_len r (i + 1)
    have := bkL_len f.blocks 0
    simp only [fuL, List.length_cons, List.length_append, lenF]; omega
theorem codeL_mem {x : List Nat} : ∀ l : List Ins, x ∈ codeL l → ∃ i ∈ l, x = [32, 32, 32, 32] ++ lineT i
  | [], h => by simp [codeL] at h
  | i :: r, h => by
    rcases List.mem_cons.1 h with rfl | h
    · exact ⟨i, by simp, rfl⟩
    · obtain ⟨j, hj, e⟩ := codeL_mem r h
      exact ⟨j, by simp [hj], e⟩
theorem bkL_max {x : List Nat} : ∀ (l : List Bk) (n : Nat), (∀ b ∈ l, ∀ i ∈ b.code, i.args.length ≤ 1048576) → x ∈ bkL n l → x.length ≤ 25166000
  | [], n, _, h => by simp [bkL] at h
  | b :: r, n, hS, h => by
    simp only [bkL] at h
    rcases List.mem_cons.1 h with rfl | h
    · have := (inferInstance : StrB (decT (n : Int)) 21).le
      simp only [List.length_append, List.length_cons, List.length_nil]; omega
    · rcases List.mem_append.1 h with h | h
      · obtain ⟨i, hi, rfl⟩ := codeL_mem _ h
        have := lineT_len (hS b (by simp) i hi)
        simp only [List.length_append, List.length_cons, List.length_nil]; omega
      · rcases List.mem_cons.1 h with rfl | h
        · have := (inferInstance : StrB (endT b) 80).le
          simp only [List.length_append, List.length_cons, List.length_nil]; omega
        · exact bkL_max r (n + 1) (fun b hb => hS b (by simp [hb])) h
theorem fuL_max {x : List Nat} : ∀ (l : List Fu) (n : Nat), (∀ f ∈ l, ∀ b ∈ f.blocks, ∀ i ∈ b.code, i.args.length ≤ 1048576) → x ∈ fuL n l → x.length ≤ 25166000
  | [], n, _, h => by simp [fuL] at h
  | f :: r, n, hS, h => by
    simp only [fuL] at h
    rcases List.mem_cons.1 h with rfl | h
    · have := (inferInstance : StrB (decT (n : Int)) 21).le
      simp only [List.length_append, List.length_cons, List.length_nil]; omega
    · rcases List.mem_append.1 h with h | h
      · exact bkL_max _ _ (hS f (by simp)) h
      · exact fuL_max r (n + 1) (fun f hf => hS f (by simp [hf])) h
end
end
end Go.Proofs.YtncjcnipagdmlaaDoor.Tx

set_option linter.unusedSimpArgs false
set_option linter.unusedVariables false
namespace Go.Proofs.YtncjcnipagdmlaaDoor.Tx
noncomputable section
open Go.AM Go.Proofs.YtncjcnipagdmlaaDoor.Sf
section
variable {I : Inp} {h0 h1 : AHeap}
/-! two programs, their bytes, their print -/
def prT (q : Pg) : List Nat := flatL (fuL 0 q.funcs)
theorem tPrint9 {l : AM.Loc} {o : Nat} {q : Pg} (hq : PgA I h0 l o q) (ok : PgR q) (hB : smallB q = true) (hb : AHeap) (eb : Ext h0 hb) : Ret ((AM.lim ⟨P, I, genF P Sh.prims⟩) 17 [.ptr l o] hb) hb (.str (prT q)) := by
  have sm := SmOk.of hB
  have hcode : ∀ f ∈ q.funcs, ∀ b ∈ f.blocks, b.code.length ≤ 1000000 := fun f hf b hb => by have := sm.code f hf b hb; omega
  have hS : ∀ f ∈ q.funcs, ∀ b ∈ f.blocks, ∀ i ∈ b.code, i.args.length ≤ 1048576 := fun f hf b hb i hi => (((ok.2.2.2.2.1.2 f hf).2.2.2 b hb).1.2 i hi).2.2.2.2.2.1
  have hn : (fuL 0 q.funcs).length ≤ 400 := by
    have h1 := fuL_len q.funcs 0
    have h2 := sm.pts
    rw [pgPts_len] at h2
    have h3 := sm.funcs
    omega
  have hL : (flatL (fuL 0 q.funcs)).length ≤ 20000000000 := by
    have h1 := flatL_len 25166000 (fuL 0 q.funcs) fun x hx => fuL_max _ _ hS hx
    have h2 : (fuL 0 q.funcs).length * (25166000 + 1) ≤ 400 * (25166000 + 1) := Nat.mul_le_mul_right _ hn
    omega
  exact rPrint hq hcode hS hL hb eb
theorem twinsOff {p q : AVal} {h : AHeap} {b : Bool} (hs : Ret ((AM.lim ⟨P, I, genF P Sh.prims⟩) 11 [p] h) h (.bool b)) (h2 : ∀ g, Ext h g → b = true → ∃ f, (AM.lim ⟨P, I, genF P Sh.prims⟩) 11 [q] g = some (.bool false, f)) : Res ((AM.lim ⟨P, I, genF P Sh.prims⟩) 7 [p, q] h) fun u _ => u = .bool true := by
  obtain ⟨v, g, hs, rfl, x⟩ := hs
  have hb := begun (I := I) h
  refine f7.lim rfl (n := 4) ?_
  unfold f7.e
  cases b with
  | false => simp (disch := first | exact D.go | fail) [setR, List.getElem?_cons_zero, List.getElem?_cons_succ, hb, f7.n0, f7.b0, hs]
  | true =>
    obtain ⟨f, hf⟩ := h2 g x rfl
    clear h2
    simp (disch := first | exact D.go | fail) [setR, List.getElem?_cons_zero, List.getElem?_cons_succ, hb, f7.n0, f7.b0, hs, hf]
theorem lawTwins {l l' : AM.Loc} {o o' : Nat} {p q : Pg} (hp : PgA I h0 l o p) (hq : PgA I h0 l' o' q) (okp : PgR p) (okq : PgR q) (lp : (pgB p).length ≤ 25000000) (lq : (pgB q).length ≤ 25000000) : Res ((AM.lim ⟨P, I, genF P Sh.prims⟩) 7 [.ptr l o, .ptr l' o'] h0) fun u _ => u = .bool true := by
  cases hB : smallB p with
  | false =>
    have := tSmall (I := I) hp h0 (Ext.refl h0)
    rw [hB] at this
    exact twinsOff this fun g x h => by cases h
  | true =>
    have hs1 := tSmall (I := I) hp h0 (Ext.refl h0)
    rw [hB] at hs1
    cases hC : smallB q with
    | false =>
      refine twinsOff hs1 fun g x _ => ?_
      obtain ⟨v, f, hs, rfl, _⟩ := tSmall (I := I) hq g x
      rw [hC] at hs
      exact ⟨f, hs⟩
    | true =>
      obtain ⟨v, g0, s1, rfl, x0⟩ := hs1
      obtain ⟨v, g, s2, rfl, x00⟩ := tSmall (I := I) hq g0 x0
      rw [hC] at s2
      have x := x0.trans x00
      have hbg := begun (I := I) h0
      obtain ⟨u1, g1, c1, x1, d1⟩ := tEncodeG hp okp lp g x
      obtain ⟨u2, g2, c2, x2, d2⟩ := tEncodeG hq okq lq g1 (x.trans x1)
      rcases d1 with ⟨l1, a, rfl, oa⟩ | ⟨l1, e, rfl, rf⟩
      · rcases d2 with ⟨l2, b, rfl, ob⟩ | ⟨l2, e, rfl, rf⟩
        · have bv := own_by (I := I) (oa.mono x2) (pgB_lt p) (by omega)
          obtain ⟨u3, g3, c3, x3, hd⟩ := tDecodeG (I := I) bv (pgB_lt p) l1
          have hgood := pePg.good p okp []
          rw [List.append_nil] at hgood
          rcases hd with ⟨kp, q', rfl, pa, pr, hi⟩ | ⟨e, rfl, rf, hn⟩
          · obtain rfl : p = q' := by
              have := hi.1
              rw [hgood] at this
              simp only [Prod.mk.injEq] at this
              exact this.1
            have ex := ((x.trans x1).trans x2).trans x3
            obtain ⟨u4, g4, c4, rfl, x4⟩ := tEqPg hp hq okp okq lp lq g3 ex ex
            obtain ⟨u5, g5, c5, rfl, x5⟩ := tPrint9 (I := I) pa pr hB g4 x4
            obtain ⟨u6, g6, c6, rfl, x6⟩ := tPrint9 (I := I) hp okp hB g5 ((ex.trans x4).trans x5)
            have sa3 := own_str (I := I) oa lp g3 (x2.trans x3)
            have sa4 := own_str (I := I) oa lp g4 ((x2.trans x3).trans x4)
            have sb3 := own_str (I := I) ob lq g3 x3
            have sb4 := own_str (I := I) ob lq g4 (x3.trans x4)
            have hst : pBin .eql (.str (pgB p)) (.str (pgB q)) = some (.bool (natsEq (pgB p) (pgB q))) := nrfl
            have hpr : pBin .eql (.str (prT p)) (.str (prT p)) = some (.bool true) := by
              show some (AVal.bool (natsEq (prT p) (prT p))) = _
              rw [natsEq_self]
            have hbe : ∀ b : Bool, pEq P .false .bool .false (.bool b) (.bool b) g4 = some (.bool true) := by
              intro b; cases b <;> rfl
            have hbe := hbe (natsEq (pgB p) (pgB q))
            refine f7.lim rfl (n := 4) ?_
            unfold f7.e
            generalize natsEq (pgB p) (pgB q) = bb at *
            generalize pgB p = a1 at *
            generalize pgB q = a2 at *
            generalize prT p = a3 at *
            clear hp hq okp okq lp lq l1 l2 oa ob bv hgood hi pa pr
            simp (disch := first | exact D.go | fail) [setR, List.getElem?_cons_zero, List.getElem?_cons_succ, hbg, f7.n0, f7.b0, f7.n1, f7.b1, f7.n2, f7.b2, s1, s2, c1, c2, c3, c4, c5, c6, sa3, sa4, sb3, sb4, hst, hpr, hbe]
          · exact absurd ⟨hgood, rfl⟩ (hn p)
        · obtain ⟨k, rfl, _, _⟩ := rf
          refine f7.lim rfl (n := 4) ?_
          unfold f7.e
          clear hp hq okp okq lp lq l1 l2 oa
          simp (disch := first | exact D.go | fail) [setR, List.getElem?_cons_zero, List.getElem?_cons_succ, hbg, f7.n0, f7.b0, f7.n1, f7.b1, s1, s2, c1, c2]
      · obtain ⟨k, rfl, _, _⟩ := rf
        obtain ⟨r1, r2, rfl⟩ : ∃ r1 r2, u2 = .tuple [r1, r2] := by
          rcases d2 with ⟨_, b, rfl, _⟩ | ⟨_, e, rfl, _⟩ <;> exact ⟨_, _, rfl⟩
        refine f7.lim rfl (n := 4) ?_
        unfold f7.e
        clear hp hq okp okq lp lq l1 d2
        simp (disch := first | exact D.go | fail) [setR, List.getElem?_cons_zero, List.getElem?_cons_succ, hbg, f7.n0, f7.b0, f7.n1, f7.b1, s1, s2, c1, c2]
end
end
end Go.Proofs.YtncjcnipagdmlaaDoor.Tx
