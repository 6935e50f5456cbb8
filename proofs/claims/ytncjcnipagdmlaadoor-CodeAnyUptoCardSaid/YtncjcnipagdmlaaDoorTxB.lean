/- Contracts of the functions, part 1: what each function of the program and of the reference comes to. Conditions: as each lemma says. -/
import Derived.Test.YtncjcnipagdmlaaDoorTxA
set_option linter.unusedSimpArgs false
set_option linter.unusedVariables false
namespace Go.Proofs.YtncjcnipagdmlaaDoor.Tx
noncomputable section
open Go.AM Go.Proofs.YtncjcnipagdmlaaDoor.Sf
section
variable {I : Inp} {h0 : AHeap} {α : Type}
/-! a program's lists, read -/
theorem rPgL5 {hb h00 : AHeap} {kr kp : Nat} {a0 a2 a3 a4 a5 : AVal} (hkb : kp < h00.next) (lob : hb.next ≤ kp) (nbr : kp ≠ kr) {Q : AVal → AHeap → Prop} {out : List Sg × Rd} {M : Nat}
    (hT : ∀ F u g, LpS I (fun g => SgC I g) 3 hb h00 g kr kp F u out.1 out.2 → g.get kp = some ⟨[a0, u, a2, a3, a4, a5], true⟩ → ∀ m, M ≤ m → Res ((f26.J I (AM.lim ⟨P, I, genF P Sh.prims⟩) (m)).1.1.2.2.2 (.ptr (.own kr) 0) (.ptr (.own kp) 0) g) Q) :
    ∀ (n : Nat) (acc : List Sg) (v : AVal) (s : Rd) (F : Nat → Prop) (h : AHeap), LpS I (fun g => SgC I g) 3 hb h00 h kr kp F v acc s → RdOk s → acc.length + n ≤ 10000000 → h.get kp = some ⟨[a0, v, a2, a3, a4, a5], true⟩ → (acc ++ (pRep pSg n s).1, (pRep pSg n s).2) = out →
    ∀ N, 3 * n + 3 + M ≤ N → Res ((f26.J I (AM.lim ⟨P, I, genF P Sh.prims⟩) (N)).1.2.1.1 (.ptr (.own kr) 0) (.ptr (.own kp) 0) (.int .i64 (n : Int)) h) Q := by
  intro n
  induction n with
  | zero =>
    intro acc v s F h L ok hl hkv ho N hN
    obtain ⟨n, rfl⟩ : ∃ n, N = n + 1 := ⟨N - 1, by omega⟩
    rw [pRep_zero, List.append_nil] at ho
    have hq := hT F v h (by rw [← ho]; exact L) hkv n (by omega)
    clear hT L
    rw [f26.n5]; unfold f26.b5
    simp (disch := first | exact D.go | fail) [setR, List.getElem?_cons_zero, List.getElem?_cons_succ]
    exact hq
  | succ k ih =>
    intro acc v s F h L ok hl hkv ho N hN
    obtain ⟨v0, hk0, _⟩ := L.rd.at_
    have hpos : (0 : Int) < ((k + 1 : Nat) : Int) := by omega
    cases s with
    | none =>
      obtain ⟨n, rfl⟩ : ∃ n, N = n + 1 := ⟨N - 1, by omega⟩
      rw [pRep_none, List.append_nil] at ho
      have hq := hT F v h (by rw [← ho]; exact L) hkv n (by omega)
      simp only [Option.isNone_none] at hk0
      generalize ((k + 1 : Nat) : Int) = L' at *
      clear hT L ih
      rw [f26.n5]; unfold f26.b5
      simp (disch := first | exact D.go | fail) [setR, List.getElem?_cons_zero, List.getElem?_cons_succ, hpos, hk0]
      exact hq
    | some t =>
      obtain ⟨n, rfl⟩ : ∃ n, N = n + 3 := ⟨N - 3, by omega⟩
      have hkr := L.kr
      have hlo := L.lo
      have hbl := L.rd.ext.lo
      have hkrl := L.rd.lo
      obtain ⟨u, g1, c1, R1, K1, Fu, it1, y1⟩ := rTypsG L.rd ok
      have ok1 := (peTypes.fits _ ok).2.1
      have uo := SlOf.all1 it1.now
      have uo1 := uo.1
      have uo2 := uo.2
      have K1n := K1.1
      obtain ⟨B, hB⟩ : ∃ B, B = (g1.alloc ⟨[.nils, Z 0, Z 0], true⟩).set g1.next ⟨[u, Z 0, Z 0], true⟩ := ⟨_, rfl⟩
      have hBn : B.next = g1.next + 1 := by rw [hB]; simp
      have hBo : ∀ m, m < g1.next → B.get m = g1.get m := fun m hm => by rw [hB, AHeap.set_ne (Nb.o (by omega)), AHeap.alloc_ne (Nb.o (by omega))]
      have hBb : B.get g1.next = some ⟨[u, Z 0, Z 0], true⟩ := by rw [hB]; exact AHeap.set_at (Nb.o rfl)
      have RB : RdS I hb B kr (pTypes (some t)).2 := R1.mono (by omega) (hBo kr (by omega)) ⟨by have := R1.ext.lo; omega, fun m hm => (hBo m (by omega)).trans (R1.ext.same m hm)⟩
      obtain ⟨g2, c2, K2, R2⟩ := rTypG RB ok1
      have d2 := (peTyp.fits _ ok1).1
      have okk := (peTyp.fits _ ok1).2.1
      have K2n := K2.1
      have q2 := (K2.2 g1.next (by omega) (by omega)).trans hBb
      have hx : pSg (some t) = (⟨(pTypes (some t)).1, (pTyp (pTypes (some t)).2).1⟩, (pTyp (pTypes (some t)).2).2) := rfl
      generalize pTyp (pTypes (some t)).2 = y at *
      obtain ⟨D, hD⟩ : ∃ D, D = g2.set g1.next ⟨[u, .int .i64 y.1.kind, .int .i64 y.1.n], true⟩ := ⟨_, rfl⟩
      have hDn : D.next = g2.next := by rw [hD]; simp
      have hDo : ∀ m, m ≠ g1.next → D.get m = g2.get m := fun m hm => by rw [hD, AHeap.set_ne (Nb.o hm)]
      have KD : RKeep kr h D := ⟨by omega, fun m hm hne => by rw [hDo m (by omega), K2.2 m (by omega) hne, hBo m (by omega), K1.2 m hm hne]⟩
      have RD : RdS I hb D kr y.2 := R2.mono (by omega) (hDo kr (by omega)) ⟨by have := R2.ext.lo; omega, fun m hm => (hDo m (by omega)).trans (R2.ext.same m hm)⟩
      have itD : It hb D Fu fun g' => SgC I g' [u, .int .i64 y.1.kind, .int .i64 y.1.n] ⟨(pTypes (some t)).1, y.1⟩ := by
        have i7 := it1.keep (g' := D) (by omega) fun m hm => by
          have := y1 m hm
          have := (it1.lo m hm).2
          rw [hDo m (by omega), K2.2 m (by omega) (by omega), hBo m (by omega)]
        exact ⟨i7.lo, fun g' a b => ⟨u, rfl, i7.ok g' a b, d2.1, d2.2⟩⟩
      obtain ⟨w, G, e1, L1, w1, w2, kG, _⟩ := L.step (I := I) (by omega) RD KD itD rfl (by simp [uo.1]) y1 (bytes := 40) (by omega) (by omega)
      obtain ⟨yy, hyy⟩ : ∃ yy, yy = y.2 := ⟨_, rfl⟩
      rw [← hyy] at hx okk L1
      have hkvg := (KD.2 kp (by omega) nbr).trans hkv
      have hkva : (D.alloc ⟨[u, .int .i64 y.1.kind, .int .i64 y.1.n], true⟩).get kp = D.get kp := AHeap.alloc_ne (Nb.o (by omega))
      rw [hkvg] at hkva
      have qD : D.get g1.next = some ⟨[u, .int .i64 y.1.kind, .int .i64 y.1.n], true⟩ := by rw [hD]; exact AHeap.set_at (Nb.o rfl)
      have hkvq := hkvg
      rw [hD] at hkvq hkva e1 qD
      rw [AHeap.next_set] at e1
      rw [hB] at c2
      have za : (g1.alloc ⟨[.nils, Z 0, Z 0], true⟩).get g1.next = some ⟨[.nils, Z 0, Z 0], true⟩ := AHeap.alloc_at (Nb.o rfl)
      have z4 : (AVal.agg [u, Z 0, Z 0]).cells = [u, Z 0, Z 0] := rfl
      have z5 : (AVal.agg [.int .i64 y.1.kind, .int .i64 y.1.n]).cells = [.int .i64 y.1.kind, .int .i64 y.1.n] := rfl
      have vo1 := L.ls.one.1
      have vo2 := L.ls.one.2
      have vs := L.ls.selfEq
      have hkvG := (kG kp hkb).trans hkvg
      have hrep : (pRep pSg (k + 1) (some t)) = ((pSg (some t)).1 :: (pRep pSg k (pSg (some t)).2).1, (pRep pSg k (pSg (some t)).2).2) := rfl
      rw [hrep] at ho
      rw [hx] at ho
      have hi2 := ih _ w yy _ (G.set kp ⟨[a0, w, a2, a3, a4, a5], true⟩) (L1.set hkb lob nbr _) okk (by simp only [List.length_append, List.length_cons, List.length_nil]; omega) (AHeap.set_at (Nb.o rfl)) (by rw [← ho]; simp) n (by omega)
      have hw : IntKind.i64.wrap (((k + 1 : Nat) : Int) - 1) = (k : Int) := by rw [wrap_in ⟨by omega, by omega⟩]; omega
      simp only [Option.isNone_some] at hk0
      generalize ((k + 1 : Nat) : Int) = L' at *
      clear hT ih L L1 kG ho hrep ok okk hx R1 RB R2 RD K1 K2 KD it1 itD y1 uo hBo hDo hBb hD hB
      rw [f26.n5]; unfold f26.b5
      simp (disch := first | exact D.go | fail) [setR, List.getElem?_cons_zero, List.getElem?_cons_succ, hpos, hk0, f26.n6, f26.b6, f26.n7, f26.b7, hkv, hkvG, e1, w1, w2, vo1, vo2, vs, hw, c1, c2, q2, qD, za, z4, z5, hkvq, hkva, uo1, uo2]
      exact hi2
theorem rPgL13 {hb h00 : AHeap} {kr kp : Nat} {a0 a1 a2 a4 a5 : AVal} (hkb : kp < h00.next) (lob : hb.next ≤ kp) (nbr : kp ≠ kr) {Q : AVal → AHeap → Prop} {out : List Im × Rd} {M : Nat}
    (hT : ∀ F u g, LpS I (fun g => ImC I g) 3 hb h00 g kr kp F u out.1 out.2 → g.get kp = some ⟨[a0, a1, a2, u, a4, a5], true⟩ → ∀ m, M ≤ m → Res ((f26.J I (AM.lim ⟨P, I, genF P Sh.prims⟩) (m)).2.1.2.1 (.ptr (.own kr) 0) (.ptr (.own kp) 0) g) Q) :
    ∀ (n : Nat) (acc : List Im) (v : AVal) (s : Rd) (F : Nat → Prop) (h : AHeap), LpS I (fun g => ImC I g) 3 hb h00 h kr kp F v acc s → RdOk s → acc.length + n ≤ 10000000 → h.get kp = some ⟨[a0, a1, a2, v, a4, a5], true⟩ → (acc ++ (pRep pIm n s).1, (pRep pIm n s).2) = out →
    ∀ N, 3 * n + 3 + M ≤ N → Res ((f26.J I (AM.lim ⟨P, I, genF P Sh.prims⟩) (N)).2.1.2.2.1 (.ptr (.own kr) 0) (.ptr (.own kp) 0) (.int .i64 (n : Int)) h) Q := by
  intro n
  induction n with
  | zero =>
    intro acc v s F h L ok hl hkv ho N hN
    obtain ⟨n, rfl⟩ : ∃ n, N = n + 1 := ⟨N - 1, by omega⟩
    rw [pRep_zero, List.append_nil] at ho
    have hq := hT F v h (by rw [← ho]; exact L) hkv n (by omega)
    clear hT L
    rw [f26.n13]; unfold f26.b13
    simp (disch := first | exact D.go | fail) [setR, List.getElem?_cons_zero, List.getElem?_cons_succ]
    exact hq
  | succ k ih =>
    intro acc v s F h L ok hl hkv ho N hN
    obtain ⟨v0, hk0, _⟩ := L.rd.at_
    have hpos : (0 : Int) < ((k + 1 : Nat) : Int) := by omega
    cases s with
    | none =>
      obtain ⟨n, rfl⟩ : ∃ n, N = n + 1 := ⟨N - 1, by omega⟩
      rw [pRep_none, List.append_nil] at ho
      have hq := hT F v h (by rw [← ho]; exact L) hkv n (by omega)
      simp only [Option.isNone_none] at hk0
      generalize ((k + 1 : Nat) : Int) = L' at *
      clear hT L ih
      rw [f26.n13]; unfold f26.b13
      simp (disch := first | exact D.go | fail) [setR, List.getElem?_cons_zero, List.getElem?_cons_succ, hpos, hk0]
      exact hq
    | some t =>
      obtain ⟨n, rfl⟩ : ∃ n, N = n + 3 := ⟨N - 3, by omega⟩
      have hkr := L.kr
      have hlo := L.lo
      have hbl := L.rd.ext.lo
      have hkrl := L.rd.lo
      obtain ⟨g1, c1, o1, R1⟩ := rNumG L.rd ok
      have ok1 := (peNum.fits _ ok).2.1
      have d1 := (peNum.fits _ ok).1
      obtain ⟨B, hB⟩ : ∃ B, B = (g1.alloc ⟨[Z 0, Z 0, .nils], true⟩).set g1.next ⟨[.int .i64 (pNum (some t)).1, Z 0, .nils], true⟩ := ⟨_, rfl⟩
      have o1n := o1.1
      have hBn : B.next = g1.next + 1 := by rw [hB]; simp
      have hBo : ∀ m, m < g1.next → B.get m = g1.get m := fun m hm => by rw [hB, AHeap.set_ne (Nb.o (by omega)), AHeap.alloc_ne (Nb.o (by omega))]
      have hBb : B.get g1.next = some ⟨[.int .i64 (pNum (some t)).1, Z 0, .nils], true⟩ := by rw [hB]; exact AHeap.set_at (Nb.o rfl)
      have RB : RdS I hb B kr (pNum (some t)).2 := R1.mono (by omega) (hBo kr (by omega)) ⟨by have := R1.ext.lo; omega, fun m hm => (hBo m (by omega)).trans (R1.ext.same m hm)⟩
      obtain ⟨g2, c2, o2, R2⟩ := rNumG RB ok1
      have ok2 := (peNum.fits _ ok1).2.1
      have d2 := (peNum.fits _ ok1).1
      have o2n := o2.1
      have q2 := (o2.2 g1.next (by omega)).trans hBb
      obtain ⟨E, hE⟩ : ∃ E, E = g2.set g1.next ⟨[.int .i64 (pNum (some t)).1, .int .i64 (pNum (pNum (some t)).2).1, .nils], true⟩ := ⟨_, rfl⟩
      have hEn : E.next = g2.next := by rw [hE]; simp
      have hEo : ∀ m, m ≠ g1.next → E.get m = g2.get m := fun m hm => by rw [hE, AHeap.set_ne (Nb.o hm)]
      have hEb : E.get g1.next = some ⟨[.int .i64 (pNum (some t)).1, .int .i64 (pNum (pNum (some t)).2).1, .nils], true⟩ := by rw [hE]; exact AHeap.set_at (Nb.o rfl)
      have RE : RdS I hb E kr (pNum (pNum (some t)).2).2 := R2.mono (by omega) (hEo kr (by omega)) ⟨by have := R2.ext.lo; omega, fun m hm => (hEo m (by omega)).trans (R2.ext.same m hm)⟩
      obtain ⟨u, g3, c3, R3, K3, Fu, it3, y3⟩ := rNumsG RE ok2
      have okk := (peNums.fits _ ok2).2.1
      have uo := SlOf.all1 it3.now
      have uo1 := uo.1
      have uo2 := uo.2
      have K3n := K3.1
      have q3 := (K3.2 g1.next (by omega) (by omega)).trans hEb
      have hx : pIm (some t) = (⟨(pNum (some t)).1, (pNum (pNum (some t)).2).1, (pNums (pNum (pNum (some t)).2).2).1⟩, (pNums (pNum (pNum (some t)).2).2).2) := rfl
      generalize pNums (pNum (pNum (some t)).2).2 = y at *
      generalize pNum (pNum (some t)).2 = x1 at *
      generalize pNum (some t) = x0 at *
      obtain ⟨D, hD⟩ : ∃ D, D = g3.set g1.next ⟨[.int .i64 x0.1, .int .i64 x1.1, u], true⟩ := ⟨_, rfl⟩
      have hDn : D.next = g3.next := by rw [hD]; simp
      have hDo : ∀ m, m ≠ g1.next → D.get m = g3.get m := fun m hm => by rw [hD, AHeap.set_ne (Nb.o hm)]
      have KD : RKeep kr h D := ⟨by omega, fun m hm hne => by rw [hDo m (by omega), K3.2 m (by omega) hne, hEo m (by omega), o2.2 m hne, hBo m (by omega), o1.2 m hne]⟩
      have RD : RdS I hb D kr y.2 := R3.mono (by omega) (hDo kr (by omega)) ⟨by have := R3.ext.lo; omega, fun m hm => (hDo m (by omega)).trans (R3.ext.same m hm)⟩
      have itD : It hb D Fu fun g' => ImC I g' [.int .i64 x0.1, .int .i64 x1.1, u] ⟨x0.1, x1.1, y.1⟩ := by
        have i7 := it3.keep (g' := D) (by omega) fun m hm => by
          have := y3 m hm
          rw [hDo m (by omega)]
        exact ⟨i7.lo, fun g' a b => ⟨u, rfl, d1, d2, i7.ok g' a b⟩⟩
      obtain ⟨w, G, e1, L1, w1, w2, kG, _⟩ := L.step (I := I) (by omega) RD KD itD rfl (by simp [uo.1]) (fun m hm => by have := y3 m hm; omega) (bytes := 40) (by omega) (by omega)
      obtain ⟨yy, hyy⟩ : ∃ yy, yy = y.2 := ⟨_, rfl⟩
      rw [← hyy] at hx okk L1
      have hkvg := (KD.2 kp (by omega) nbr).trans hkv
      have hkva : (D.alloc ⟨[.int .i64 x0.1, .int .i64 x1.1, u], true⟩).get kp = D.get kp := AHeap.alloc_ne (Nb.o (by omega))
      rw [hkvg] at hkva
      have qD : D.get g1.next = some ⟨[.int .i64 x0.1, .int .i64 x1.1, u], true⟩ := by rw [hD]; exact AHeap.set_at (Nb.o rfl)
      have hkvq := hkvg
      rw [hD] at hkvq hkva e1 qD
      rw [AHeap.next_set] at e1
      rw [hB] at c2
      rw [hE] at c3
      have za : (g1.alloc ⟨[Z 0, Z 0, .nils], true⟩).get g1.next = some ⟨[Z 0, Z 0, .nils], true⟩ := AHeap.alloc_at (Nb.o rfl)
      have z4 : (AVal.agg [.int .i64 x0.1, Z 0, .nils]).cells = [.int .i64 x0.1, Z 0, .nils] := rfl
      have vo1 := L.ls.one.1
      have vo2 := L.ls.one.2
      have vs := L.ls.selfEq
      have hkvG := (kG kp hkb).trans hkvg
      have hrep : (pRep pIm (k + 1) (some t)) = ((pIm (some t)).1 :: (pRep pIm k (pIm (some t)).2).1, (pRep pIm k (pIm (some t)).2).2) := rfl
      rw [hrep] at ho
      rw [hx] at ho
      have hi2 := ih _ w yy _ (G.set kp ⟨[a0, a1, a2, w, a4, a5], true⟩) (L1.set hkb lob nbr _) okk (by simp only [List.length_append, List.length_cons, List.length_nil]; omega) (AHeap.set_at (Nb.o rfl)) (by rw [← ho]; simp) n (by omega)
      have hw : IntKind.i64.wrap (((k + 1 : Nat) : Int) - 1) = (k : Int) := by rw [wrap_in ⟨by omega, by omega⟩]; omega
      simp only [Option.isNone_some] at hk0
      generalize ((k + 1 : Nat) : Int) = L' at *
      clear hT ih L L1 kG ho hrep ok okk hx R1 RB R2 RE R3 RD o1 o2 K3 KD it3 itD y3 uo hBo hEo hDo hBb hEb hD hB hE
      rw [f26.n13]; unfold f26.b13
      simp (disch := first | exact D.go | fail) [setR, List.getElem?_cons_zero, List.getElem?_cons_succ, hpos, hk0, f26.n14, f26.b14, f26.n15, f26.b15, hkv, hkvG, e1, w1, w2, vo1, vo2, vs, hw, c1, c2, c3, q2, q3, qD, za, z4, hkvq, hkva, uo1, uo2]
      exact hi2
end
end
end Go.Proofs.YtncjcnipagdmlaaDoor.Tx

set_option linter.unusedSimpArgs false
set_option linter.unusedVariables false
namespace Go.Proofs.YtncjcnipagdmlaaDoor.Tx
noncomputable section
open Go.AM Go.Proofs.YtncjcnipagdmlaaDoor.Sf
section
variable {I : Inp} {h0 : AHeap} {α : Type}
/-! a program, read -/
/-- So far: what was read stays, the program's own block has these cells. -/
structure PgS (I : Inp) (hb h g : AHeap) (kr : Nat) (R : AHeap → Prop) (s : Rd) (cells : List AVal) : Prop where
  rd : RdS I hb g kr s
  it : ∃ F, It hb g F R ∧ ∀ m, F m → h.next + 1 ≤ m
  keep : ∀ m, m < h.next → m ≠ kr → g.get m = h.get m
  lo : h.next + 1 ≤ g.next
  box : g.get h.next = some ⟨cells, true⟩
  kr : kr < h.next
  ext : Ext hb h
theorem PgS.next {hb h g g' G : AHeap} {kr : Nat} {R : AHeap → Prop} {s s' s'' : Rd} {cells cells' : List AVal} (S : PgS I hb h g kr R s cells) {C : AHeap → List AVal → α → Prop} {sz : Nat} {F : Nat → Prop} {u : AVal} {xs : List α} (hz : 0 < sz) (L : LpS I C sz hb g G kr h.next F u xs s'') (hl : xs.length ≤ 9223372036854775807) (hbx : G.get h.next = some ⟨cells', true⟩) :
    PgS I hb h G kr (fun g' => R g' ∧ SlV' I C sz g' u xs) s'' cells' := by
  obtain ⟨F0, i0, y0⟩ := S.it
  have hkr := S.kr
  have hlo := S.lo
  have hLlo := L.lo
  have i1 := i0.keep (g' := G) L.lo fun m hm => L.keep m (i0.lo m hm).2 (by have := y0 m hm; omega) (by have := y0 m hm; omega)
  have i2 := L.ls.sl (I := I) hz hl
  have yo : ∀ m, (F m ∨ ¬ NotB u m) → h.next + 1 ≤ m := fun m hm => Nat.le_of_not_lt fun h => by
    obtain ⟨a, b⟩ := L.young m (by omega)
    rcases hm with hm | hm
    · exact b hm
    · exact hm a
  refine ⟨L.rd, ⟨fun m => F0 m ∨ (F m ∨ ¬ NotB u m), ⟨fun m hm => ?_, fun g' a b => ⟨i1.ok g' a fun m hm => b m (.inl hm), i2.ok g' a fun m hm => b m (.inr hm)⟩⟩, fun m hm => ?_⟩, fun m hm hne => ?_, by omega, hbx, hkr, S.ext⟩
  · rcases hm with hm | hm
    · exact i1.lo m hm
    · exact i2.lo m hm
  · rcases hm with hm | hm
    · exact y0 m hm
    · exact yo m hm
  · rw [L.keep m (by omega) hne (by omega)]
    exact S.keep m hm hne
theorem tP16 {hb h g : AHeap} {kr : Nat} {R : AHeap → Prop} {s : Rd} {u1 u2 u3 u4 u5 : AVal} (ok : RdOk s) (S : PgS I hb h g kr R s [u1, u2, u3, u4, u5, Z 0]) {Q : AVal → AHeap → Prop} (hQ : ∀ G, PgS I hb h G kr R (pNum s).2 [u1, u2, u3, u4, u5, .int .i64 (pNum s).1] → Q (.ptr (.own h.next) 0) G) : ∀ m, 2 ≤ m → Res ((f26.J I (AM.lim ⟨P, I, genF P Sh.prims⟩) (m)).2.2.1.2 (.ptr (.own kr) 0) (.ptr (.own h.next) 0) g) Q := by
  intro m hm
  obtain ⟨n, rfl⟩ : ∃ n, m = n + 1 := ⟨m - 1, by omega⟩
  obtain ⟨g1, c1, o1, R1⟩ := rNumG S.rd ok
  have hkr := S.kr
  have hlo := S.lo
  have hbl := S.ext.lo
  have q1 := (o1.2 h.next (by omega)).trans S.box
  have hq : Q (.ptr (.own h.next) 0) (g1.set h.next ⟨[u1, u2, u3, u4, u5, .int .i64 (pNum s).1], true⟩) := by
    obtain ⟨F0, i0, y0⟩ := S.it
    refine hQ _ ⟨R1.mono (by simp) (AHeap.set_ne (Nb.o (by omega))) (R1.ext.set (Nb.o (by omega))), ⟨F0, i0.keep (by simp [o1.1]) fun m hm => ?_, y0⟩, fun m hm hne => ?_, by simp [o1.1]; omega, AHeap.set_at (Nb.o rfl), hkr, S.ext⟩
    · have := y0 m hm
      rw [AHeap.set_ne (Nb.o (by omega)), o1.2 m (by omega)]
    · rw [AHeap.set_ne (Nb.o (by omega)), o1.2 m hne]
      exact S.keep m hm hne
  clear hQ S R1 o1
  rw [f26.n16]; unfold f26.b16
  simp (disch := first | exact D.go | fail) [setR, List.getElem?_cons_zero, List.getElem?_cons_succ, c1, q1]
  exact hq
def mP12 (s : Rd) : Nat := 3 * (pSize s).1 + 5 + 2
theorem tP12 {hb h g : AHeap} {kr : Nat} {R : AHeap → Prop} {s : Rd} {u1 u2 u3 u4 : AVal} (ok : RdOk s) (S : PgS I hb h g kr R s [u1, u2, u3, u4, .nils, Z 0]) {Q : AVal → AHeap → Prop} (hQ : ∀ G u5, PgS I hb h G kr (fun g' => (R g' ∧ SlV' I (fun g => FuC I g) 3 g' u5 (pList pFu s).1)) (pNum (pList pFu s).2).2 [u1, u2, u3, u4, u5, .int .i64 (pNum (pList pFu s).2).1] → Q (.ptr (.own h.next) 0) G) : ∀ m, mP12 s ≤ m → Res ((f26.J I (AM.lim ⟨P, I, genF P Sh.prims⟩) (m)).2.1.2.1 (.ptr (.own kr) 0) (.ptr (.own h.next) 0) g) Q := by
  intro m hm
  unfold mP12 at hm
  obtain ⟨n, rfl⟩ : ∃ n, m = n + 1 := ⟨m - 1, by omega⟩
  obtain ⟨g1, c1, o1, R1⟩ := rSizeG S.rd ok
  obtain ⟨z1, z2, _⟩ := pSize_fits s ok
  have hkr := S.kr
  have hlo := S.lo
  have hbl := S.ext.lo
  have q1 := (o1.2 h.next (by omega)).trans S.box
  have ok2 := (peFu.list.fits s ok).2.1
  have hle := pList_le peFu ok
  have hrun : Res ((f26.J I (AM.lim ⟨P, I, genF P Sh.prims⟩) (n)).2.2.2.1 (.ptr (.own kr) 0) (.ptr (.own h.next) 0) (.int .i64 ((pSize s).1 : Int)) g1) Q :=
    rPgL17 (I := I) (h00 := g) (kp := h.next) (out := pList pFu s) (M := 2) (by omega) (by omega) (by omega) (fun F u G L hbx => tP16 (I := I) ok2 (S.next (g' := g1) (s' := s) (by omega) L hle hbx) fun G'  S' => hQ G' u  S') (pSize s).1 [] .nils (pSize s).2 _ g1 (LpS.begin R1 o1) z2 (by simp; omega) q1 (by rw [List.nil_append]; rfl) n (by omega)
  clear hQ S R1 o1
  rw [f26.n12]; unfold f26.b12
  simp (disch := first | exact D.go | fail) [setR, List.getElem?_cons_zero, List.getElem?_cons_succ, c1]
  exact hrun
def mP8 (s : Rd) : Nat := 3 * (pSize s).1 + 5 + mP12 (pList pIm s).2
theorem tP8 {hb h g : AHeap} {kr : Nat} {R : AHeap → Prop} {s : Rd} {u1 u2 u3 : AVal} (ok : RdOk s) (S : PgS I hb h g kr R s [u1, u2, u3, .nils, .nils, Z 0]) {Q : AVal → AHeap → Prop} (hQ : ∀ G u4 u5, PgS I hb h G kr (fun g' => ((R g' ∧ SlV' I (fun g => ImC I g) 3 g' u4 (pList pIm s).1) ∧ SlV' I (fun g => FuC I g) 3 g' u5 (pList pFu (pList pIm s).2).1)) (pNum (pList pFu (pList pIm s).2).2).2 [u1, u2, u3, u4, u5, .int .i64 (pNum (pList pFu (pList pIm s).2).2).1] → Q (.ptr (.own h.next) 0) G) : ∀ m, mP8 s ≤ m → Res ((f26.J I (AM.lim ⟨P, I, genF P Sh.prims⟩) (m)).1.2.2.2.1 (.ptr (.own kr) 0) (.ptr (.own h.next) 0) g) Q := by
  intro m hm
  unfold mP8 at hm
  obtain ⟨n, rfl⟩ : ∃ n, m = n + 1 := ⟨m - 1, by omega⟩
  obtain ⟨g1, c1, o1, R1⟩ := rSizeG S.rd ok
  obtain ⟨z1, z2, _⟩ := pSize_fits s ok
  have hkr := S.kr
  have hlo := S.lo
  have hbl := S.ext.lo
  have q1 := (o1.2 h.next (by omega)).trans S.box
  have ok2 := (peIm.list.fits s ok).2.1
  have hle := pList_le peIm ok
  have hrun : Res ((f26.J I (AM.lim ⟨P, I, genF P Sh.prims⟩) (n)).2.1.2.2.1 (.ptr (.own kr) 0) (.ptr (.own h.next) 0) (.int .i64 ((pSize s).1 : Int)) g1) Q :=
    rPgL13 (I := I) (h00 := g) (kp := h.next) (out := pList pIm s) (M := mP12 (pList pIm s).2) (by omega) (by omega) (by omega) (fun F u G L hbx => tP12 (I := I) ok2 (S.next (g' := g1) (s' := s) (by omega) L hle hbx) fun G' u5 S' => hQ G' u u5 S') (pSize s).1 [] .nils (pSize s).2 _ g1 (LpS.begin R1 o1) z2 (by simp; omega) q1 (by rw [List.nil_append]; rfl) n (by omega)
  clear hQ S R1 o1
  rw [f26.n8]; unfold f26.b8
  simp (disch := first | exact D.go | fail) [setR, List.getElem?_cons_zero, List.getElem?_cons_succ, c1]
  exact hrun
def mP4 (s : Rd) : Nat := 3 * (pSize s).1 + 5 + mP8 (pList pNums s).2
theorem tP4 {hb h g : AHeap} {kr : Nat} {R : AHeap → Prop} {s : Rd} {u1 u2 : AVal} (ok : RdOk s) (S : PgS I hb h g kr R s [u1, u2, .nils, .nils, .nils, Z 0]) {Q : AVal → AHeap → Prop} (hQ : ∀ G u3 u4 u5, PgS I hb h G kr (fun g' => (((R g' ∧ SlV' I (fun g => SlC 1 (IntA I g)) 1 g' u3 (pList pNums s).1) ∧ SlV' I (fun g => ImC I g) 3 g' u4 (pList pIm (pList pNums s).2).1) ∧ SlV' I (fun g => FuC I g) 3 g' u5 (pList pFu (pList pIm (pList pNums s).2).2).1)) (pNum (pList pFu (pList pIm (pList pNums s).2).2).2).2 [u1, u2, u3, u4, u5, .int .i64 (pNum (pList pFu (pList pIm (pList pNums s).2).2).2).1] → Q (.ptr (.own h.next) 0) G) : ∀ m, mP4 s ≤ m → Res ((f26.J I (AM.lim ⟨P, I, genF P Sh.prims⟩) (m)).1.1.2.2.2 (.ptr (.own kr) 0) (.ptr (.own h.next) 0) g) Q := by
  intro m hm
  unfold mP4 at hm
  obtain ⟨n, rfl⟩ : ∃ n, m = n + 1 := ⟨m - 1, by omega⟩
  obtain ⟨g1, c1, o1, R1⟩ := rSizeG S.rd ok
  obtain ⟨z1, z2, _⟩ := pSize_fits s ok
  have hkr := S.kr
  have hlo := S.lo
  have hbl := S.ext.lo
  have q1 := (o1.2 h.next (by omega)).trans S.box
  have ok2 := (peNums.list.fits s ok).2.1
  have hle := pList_le peNums ok
  have hrun : Res ((f26.J I (AM.lim ⟨P, I, genF P Sh.prims⟩) (n)).1.2.2.2.2 (.ptr (.own kr) 0) (.ptr (.own h.next) 0) (.int .i64 ((pSize s).1 : Int)) g1) Q :=
    rPgL9 (I := I) (h00 := g) (kp := h.next) (out := pList pNums s) (M := mP8 (pList pNums s).2) (by omega) (by omega) (by omega) (fun F u G L hbx => tP8 (I := I) ok2 (S.next (g' := g1) (s' := s) (by omega) L hle hbx) fun G' u4 u5 S' => hQ G' u u4 u5 S') (pSize s).1 [] .nils (pSize s).2 _ g1 (LpS.begin R1 o1) z2 (by simp; omega) q1 (by rw [List.nil_append]; rfl) n (by omega)
  clear hQ S R1 o1
  rw [f26.n4]; unfold f26.b4
  simp (disch := first | exact D.go | fail) [setR, List.getElem?_cons_zero, List.getElem?_cons_succ, c1]
  exact hrun
def mP0 (s : Rd) : Nat := 3 * (pSize s).1 + 5 + mP4 (pList pSg s).2
theorem tP0 {hb h g : AHeap} {kr : Nat} {R : AHeap → Prop} {s : Rd} {u1 : AVal} (ok : RdOk s) (S : PgS I hb h g kr R s [u1, .nils, .nils, .nils, .nils, Z 0]) {Q : AVal → AHeap → Prop} (hQ : ∀ G u2 u3 u4 u5, PgS I hb h G kr (fun g' => ((((R g' ∧ SlV' I (fun g => SgC I g) 3 g' u2 (pList pSg s).1) ∧ SlV' I (fun g => SlC 1 (IntA I g)) 1 g' u3 (pList pNums (pList pSg s).2).1) ∧ SlV' I (fun g => ImC I g) 3 g' u4 (pList pIm (pList pNums (pList pSg s).2).2).1) ∧ SlV' I (fun g => FuC I g) 3 g' u5 (pList pFu (pList pIm (pList pNums (pList pSg s).2).2).2).1)) (pNum (pList pFu (pList pIm (pList pNums (pList pSg s).2).2).2).2).2 [u1, u2, u3, u4, u5, .int .i64 (pNum (pList pFu (pList pIm (pList pNums (pList pSg s).2).2).2).2).1] → Q (.ptr (.own h.next) 0) G) : ∀ m, mP0 s ≤ m → Res ((f26.J I (AM.lim ⟨P, I, genF P Sh.prims⟩) (m)).1.1.1.1 (.ptr (.own kr) 0) (.ptr (.own h.next) 0) g) Q := by
  intro m hm
  unfold mP0 at hm
  obtain ⟨n, rfl⟩ : ∃ n, m = n + 1 := ⟨m - 1, by omega⟩
  obtain ⟨g1, c1, o1, R1⟩ := rSizeG S.rd ok
  obtain ⟨z1, z2, _⟩ := pSize_fits s ok
  have hkr := S.kr
  have hlo := S.lo
  have hbl := S.ext.lo
  have q1 := (o1.2 h.next (by omega)).trans S.box
  have ok2 := (peSg.list.fits s ok).2.1
  have hle := pList_le peSg ok
  have hrun : Res ((f26.J I (AM.lim ⟨P, I, genF P Sh.prims⟩) (n)).1.2.1.1 (.ptr (.own kr) 0) (.ptr (.own h.next) 0) (.int .i64 ((pSize s).1 : Int)) g1) Q :=
    rPgL5 (I := I) (h00 := g) (kp := h.next) (out := pList pSg s) (M := mP4 (pList pSg s).2) (by omega) (by omega) (by omega) (fun F u G L hbx => tP4 (I := I) ok2 (S.next (g' := g1) (s' := s) (by omega) L hle hbx) fun G' u3 u4 u5 S' => hQ G' u u3 u4 u5 S') (pSize s).1 [] .nils (pSize s).2 _ g1 (LpS.begin R1 o1) z2 (by simp; omega) q1 (by rw [List.nil_append]; rfl) n (by omega)
  clear hQ S R1 o1
  rw [f26.n0]; unfold f26.b0
  simp (disch := first | exact D.go | fail) [setR, List.getElem?_cons_zero, List.getElem?_cons_succ, c1]
  exact hrun
def PgQ (I : Inp) (hb h : AHeap) (kr : Nat) (q : Pg) (s : Rd) : AVal → AHeap → Prop := fun u g => u = .ptr (.own h.next) 0 ∧ PgA I g (.own h.next) 0 q ∧ RdS I hb g kr s ∧ RKeep kr h g
theorem PgS.done {hb h G : AHeap} {kr : Nat} {s : Rd} {u1 u2 u3 u4 u5 : AVal} {q : Pg} (S : PgS I hb h G kr (fun g' => (((((True ∧ SlV' I (fun g => SlC 2 (At I g TyC)) 1 g' u1 q.recs) ∧ SlV' I (fun g => SgC I g) 3 g' u2 q.sigs) ∧ SlV' I (fun g => SlC 1 (IntA I g)) 1 g' u3 q.faces) ∧ SlV' I (fun g => ImC I g) 3 g' u4 q.impls) ∧ SlV' I (fun g => FuC I g) 3 g' u5 q.funcs)) s [u1, u2, u3, u4, u5, .int .i64 q.main]) (hm : InR q.main) : PgQ I hb h kr q s (.ptr (.own h.next) 0) G := by
  obtain ⟨F', i', _⟩ := S.it
  obtain ⟨⟨⟨⟨⟨_, a1⟩, a2⟩, a3⟩, a4⟩, a5⟩ := i'.now
  have hlo := S.lo
  exact ⟨rfl, ⟨_, ⟨u1, u2, u3, u4, u5, rfl, hm, a1, a2, a3, a4, a5⟩, Cells.own S.box (by omega) fun i v hv => by rw [Nat.zero_add]; exact hv⟩, S.rd, by omega, fun m hm hne => S.keep m hm hne⟩
theorem rPgRun {hb h H g1 : AHeap} {kr : Nat} {s : Rd} (ok : RdOk s) (S : PgS I hb h H kr (fun _ => True) s [.nils, .nils, .nils, .nils, .nils, Z 0]) (o1 : Only kr H g1) (R1 : RdS I hb g1 kr (pSize s).2)
    {x1 : List (List Ty) × Rd} {x2 : List Sg × Rd} {x3 : List (List Int) × Rd} {x4 : List Im × Rd} {x5 : List Fu × Rd} {x6 : Int × Rd} (e1 : pList pTypes s = x1) (e2 : pList pSg x1.2 = x2) (e3 : pList pNums x2.2 = x3) (e4 : pList pIm x3.2 = x4) (e5 : pList pFu x4.2 = x5) (e6 : pNum x5.2 = x6) :
    Res ((f26.J I (AM.lim ⟨P, I, genF P Sh.prims⟩) (3 * (pSize s).1 + 3 + mP0 x1.2)).1.1.1.2 (.ptr (.own kr) 0) (.ptr (.own h.next) 0) (.int .i64 ((pSize s).1 : Int)) g1) (PgQ I hb h kr ⟨x1.1, x2.1, x3.1, x4.1, x5.1, x6.1⟩ x6.2) := by
  obtain ⟨z1, z2, _⟩ := pSize_fits s ok
  have hkr := S.kr
  have hlo := S.lo
  have hbl := S.ext.lo
  have q1 := (o1.2 h.next (by omega)).trans S.box
  have ok2 := (peTypes.list.fits s ok).2.1
  have hle := pList_le peTypes ok
  rw [e1] at ok2 hle
  have ok3 := (peSg.list.fits _ ok2).2.1
  rw [e2] at ok3
  have ok4 := (peNums.list.fits _ ok3).2.1
  rw [e3] at ok4
  have ok5 := (peIm.list.fits _ ok4).2.1
  rw [e4] at ok5
  have ok6 := (peFu.list.fits _ ok5).2.1
  rw [e5] at ok6
  have hm := (peNum.fits _ ok6).1
  rw [e6] at hm
  refine rPgL1 (I := I) (h00 := H) (kp := h.next) (out := x1) (M := mP0 x1.2) (by omega) (by omega) (by omega) (fun F u1 G L hbx => tP0 (I := I) ok2 (S.next (g' := g1) (s' := s) (by omega) L hle hbx) fun G' u2 u3 u4 u5 S' => ?_) (pSize s).1 [] .nils (pSize s).2 _ g1 (LpS.begin R1 o1) z2 (by simp; omega) q1 (by rw [List.nil_append, ← e1]; rfl) _ (Nat.le_refl _)
  simp only [e2, e3, e4, e5, e6] at S'
  exact PgS.done (q := ⟨x1.1, x2.1, x3.1, x4.1, x5.1, x6.1⟩) S' hm
theorem pPg_eq (s : Rd) : pPg s = (⟨(pList pTypes s).1, (pList pSg (pList pTypes s).2).1, (pList pNums (pList pSg (pList pTypes s).2).2).1, (pList pIm (pList pNums (pList pSg (pList pTypes s).2).2).2).1, (pList pFu (pList pIm (pList pNums (pList pSg (pList pTypes s).2).2).2).2).1, (pNum (pList pFu (pList pIm (pList pNums (pList pSg (pList pTypes s).2).2).2).2).2).1⟩, (pNum (pList pFu (pList pIm (pList pNums (pList pSg (pList pTypes s).2).2).2).2).2).2) := by
  simp only [pPg, pMap, pSeq, mkPg]
/-- A program is read, or not. -/
theorem rPgG {hb h : AHeap} {kr : Nat} {s : Rd} (R : RdS I hb h kr s) (ok : RdOk s) : Res ((AM.lim ⟨P, I, genF P Sh.prims⟩) 26 [.ptr (.own kr) 0] h) (PgQ I hb h kr (pPg s).1 (pPg s).2) := by
  have hkr := R.hi
  obtain ⟨H, hH⟩ : ∃ H, H = h.alloc ⟨[.nils, .nils, .nils, .nils, .nils, Z 0], true⟩ := ⟨_, rfl⟩
  have xH : Ext h H := by rw [hH]; exact (Ext.refl h).alloc
  have hHn : H.next = h.next + 1 := by rw [hH]; simp
  have hHb : H.get h.next = some ⟨[.nils, .nils, .nils, .nils, .nils, Z 0], true⟩ := by rw [hH]; exact AHeap.alloc_at (Nb.o rfl)
  have RH : RdS I hb H kr s := R.mono xH.lo (xH.same _ hkr) (R.ext.trans xH)
  have S : PgS I hb h H kr (fun _ => True) s [.nils, .nils, .nils, .nils, .nils, Z 0] :=
    ⟨RH, ⟨fun _ => False, It.pure fun _ => trivial, fun m hm => hm.elim⟩, fun m hm _ => xH.same m hm, by omega, hHb, hkr, R.ext⟩
  obtain ⟨g1, c1, o1, R1⟩ := rSizeG RH ok
  have hrun := rPgRun ok S o1 R1 rfl rfl rfl rfl rfl rfl
  rw [pPg_eq]
  refine f26.lim rfl (n := 3 * (pSize s).1 + 3 + mP0 (pList pTypes s).2) ?_
  unfold f26.e
  rw [hH] at c1
  have z6 : (AVal.agg [.nils, .nils, .nils, .nils, .nils, Z 0]).cells = [.nils, .nils, .nils, .nils, .nils, Z 0] := rfl
  generalize mP0 (pList pTypes s).2 = M at *
  generalize hQ : PgQ I hb h kr _ _ = Q at *
  clear hQ S R1 o1 R RH xH hH hHb
  simp (disch := first | exact D.go | fail) [setR, List.getElem?_cons_zero, List.getElem?_cons_succ, c1, z6]
  exact hrun
end
end
end Go.Proofs.YtncjcnipagdmlaaDoor.Tx

set_option linter.unusedSimpArgs false
set_option linter.unusedVariables false
namespace Go.Proofs.YtncjcnipagdmlaaDoor.Tx
noncomputable section
open Go.AM Go.Proofs.YtncjcnipagdmlaaDoor.Sf
section
variable {I : Inp} {h0 : AHeap} {α : Type}
/-! a program, written -/
/-- The state of a loop: what is written so far. -/
def WrL (hb : AHeap) (kw : Nat) (acc : List Nat) (h : AHeap) : Prop := WrAt hb h kw acc
theorem tL1 {v : AVal} {xs : List (List Ty)} (sv : SlOf 1 (At I h0 (SlC 2 (At I h0 TyC))) v xs) (hok : ∀ x ∈ xs, True) {hb : AHeap} (e0 : Ext h0 hb) {kw : Nat} {v0 : AVal} (hxl : xs.length ≤ 1048576) {out : List Nat} {Q : AVal → AHeap → Prop} {M : Nat}
    (hT : ∀ g, WrAt hb g kw out → ∀ m, M ≤ m → Res ((f24.J I (AM.lim ⟨P, I, genF P Sh.prims⟩) (m)).1.1.1.1 v0 (.ptr (.own kw) 0) g) Q) :
    ∀ (d i : Nat), i + d = xs.length → ∀ (acc : List Nat) (h : AHeap), WrAt hb h kw acc → acc ++ (xs.drop i).flatMap typesB = out → out.length ≤ 26000000 →
    ∀ N, 3 * d + 3 + M ≤ N → Res ((f24.J I (AM.lim ⟨P, I, genF P Sh.prims⟩) (N)).1.1.1.2 v0 (.ptr (.own kw) 0) v (.int .i64 (xs.length : Int)) (.int .i64 (i : Int)) h) Q := by
  intro d
  induction d with
  | zero =>
    intro i hi acc h W ho hl N hN
    obtain ⟨n, rfl⟩ : ∃ n, N = n + 1 := ⟨N - 1, by omega⟩
    rw [List.drop_eq_nil_of_le (by omega), List.flatMap_nil, List.append_nil] at ho
    have hq := hT h (by rw [← ho]; exact W) n (by omega)
    have hlt : ¬ (i : Int) < (xs.length : Int) := by omega
    have hlt' : ¬ i < xs.length := by omega
    clear hT W
    rw [f24.n1]; unfold f24.b1
    simp (disch := first | exact D.go | fail) [setR, List.getElem?_cons_zero, List.getElem?_cons_succ, hlt, hlt']
    exact hq
  | succ d ih =>
    intro i hi acc h W ho hl N hN
    obtain ⟨n, rfl⟩ : ∃ n, N = n + 3 := ⟨N - 3, by omega⟩
    have hib : i < xs.length := by omega
    have hx : xs[i]? = some xs[i] := List.getElem?_eq_getElem hib
    have hd : xs.drop i = xs[i] :: xs.drop (i + 1) := List.drop_eq_getElem_cons hib
    have hxo := hok _ (List.getElem_mem hib)
    generalize xs[i] = x at *
    rw [hd, List.flatMap_cons, ← List.append_assoc] at ho
    have hlo : (acc ++ typesB x).length + ((xs.drop (i + 1)).flatMap typesB).length ≤ 26000000 := by rw [← List.length_append, ho]; exact hl
    have hla : acc.length + (typesB x).length ≤ 26000000 := by rw [List.length_append] at hlo; omega
    obtain ⟨l, o, p1, cs, hc, cells⟩ := sv.at hx
    have hwi := wrap_in (n := (i : Int) + 1) ⟨by omega, by omega⟩
    have hlt : (i : Int) < (xs.length : Int) := by omega
    have hlt' : i < xs.length := by omega
    have eh := e0.trans W.ext
    obtain ⟨u, rfl, su⟩ := hc
    have so1 := su.one
    have so2 := su.cells
    have r1 := cells.rd0 h eh
    obtain ⟨gz, cz, Wz, _⟩ := wTypes (I := I) su e0 W (by have := typesB_ge x; omega)
    have hi2 := ih (i + 1) (by omega) _ gz Wz (by rw [← ho]) hl n (by omega)
    simp only [Int.natCast_add, Int.natCast_one] at hi2
    clear hT ih sv hok ho hlo hla hx hd hxo
    rw [f24.n1]; unfold f24.b1
    simp (disch := first | exact D.go | fail) [setR, List.getElem?_cons_zero, List.getElem?_cons_succ, hlt, hlt', f24.n2, f24.b2, f24.n3, f24.b3, hwi, p1, r1, so1, so2, cz]
    exact hi2
theorem tL5 {v : AVal} {xs : List Sg} (sv : SlOf 3 (At I h0 (SgC I h0)) v xs) (hok : ∀ x ∈ xs, True) {hb : AHeap} (e0 : Ext h0 hb) {kw : Nat} {v0 : AVal} (hxl : xs.length ≤ 1048576) {out : List Nat} {Q : AVal → AHeap → Prop} {M : Nat}
    (hT : ∀ g, WrAt hb g kw out → ∀ m, M ≤ m → Res ((f24.J I (AM.lim ⟨P, I, genF P Sh.prims⟩) (m)).1.1.2.2.2 v0 (.ptr (.own kw) 0) g) Q) :
    ∀ (d i : Nat), i + d = xs.length → ∀ (acc : List Nat) (h : AHeap), WrAt hb h kw acc → acc ++ (xs.drop i).flatMap sgB = out → out.length ≤ 26000000 →
    ∀ N, 3 * d + 3 + M ≤ N → Res ((f24.J I (AM.lim ⟨P, I, genF P Sh.prims⟩) (N)).1.2.1.1 v0 (.ptr (.own kw) 0) v (.int .i64 (xs.length : Int)) (.int .i64 (i : Int)) h) Q := by
  intro d
  induction d with
  | zero =>
    intro i hi acc h W ho hl N hN
    obtain ⟨n, rfl⟩ : ∃ n, N = n + 1 := ⟨N - 1, by omega⟩
    rw [List.drop_eq_nil_of_le (by omega), List.flatMap_nil, List.append_nil] at ho
    have hq := hT h (by rw [← ho]; exact W) n (by omega)
    have hlt : ¬ (i : Int) < (xs.length : Int) := by omega
    have hlt' : ¬ i < xs.length := by omega
    clear hT W
    rw [f24.n5]; unfold f24.b5
    simp (disch := first | exact D.go | fail) [setR, List.getElem?_cons_zero, List.getElem?_cons_succ, hlt, hlt']
    exact hq
  | succ d ih =>
    intro i hi acc h W ho hl N hN
    obtain ⟨n, rfl⟩ : ∃ n, N = n + 3 := ⟨N - 3, by omega⟩
    have hib : i < xs.length := by omega
    have hx : xs[i]? = some xs[i] := List.getElem?_eq_getElem hib
    have hd : xs.drop i = xs[i] :: xs.drop (i + 1) := List.drop_eq_getElem_cons hib
    have hxo := hok _ (List.getElem_mem hib)
    generalize xs[i] = x at *
    rw [hd, List.flatMap_cons, ← List.append_assoc] at ho
    have hlo : (acc ++ sgB x).length + ((xs.drop (i + 1)).flatMap sgB).length ≤ 26000000 := by rw [← List.length_append, ho]; exact hl
    have hla : acc.length + (sgB x).length ≤ 26000000 := by rw [List.length_append] at hlo; omega
    obtain ⟨l, o, p1, cs, hc, cells⟩ := sv.at hx
    have hwi := wrap_in (n := (i : Int) + 1) ⟨by omega, by omega⟩
    have hlt : (i : Int) < (xs.length : Int) := by omega
    have hlt' : i < xs.length := by omega
    have eh := e0.trans W.ext
    obtain ⟨u, rfl, su, k1, k2⟩ := hc
    have so1 := su.one
    have so2 := su.cells
    obtain ⟨H, hH⟩ : ∃ H, H = (h.alloc ⟨[.nils, Z 0, Z 0], true⟩).set h.next ⟨[u, .int .i64 x.res.kind, .int .i64 x.res.n], true⟩ := ⟨_, rfl⟩
    have xH : Ext h H := by rw [hH]; exact (Ext.refl h).alloc.set (Nb.o (Nat.le_refl _))
    have hHn : H.next = h.next + 1 := by rw [hH]; simp
    have hHk : H.get h.next = some ⟨[u, .int .i64 x.res.kind, .int .i64 x.res.n], true⟩ := by rw [hH]; exact AHeap.set_at (Nb.o rfl)
    have za : (h.alloc ⟨[.nils, Z 0, Z 0], true⟩).get h.next = some ⟨[.nils, Z 0, Z 0], true⟩ := AHeap.alloc_at (Nb.o rfl)
    have zc : (AVal.agg [u, .int .i64 x.res.kind, .int .i64 x.res.n]).cells = [u, .int .i64 x.res.kind, .int .i64 x.res.n] := rfl
    have zs : ((h.alloc ⟨[.nils, Z 0, Z 0], true⟩).set h.next ⟨[u, .int .i64 x.res.kind, .int .i64 x.res.n], true⟩).get h.next = some ⟨[u, .int .i64 x.res.kind, .int .i64 x.res.n], true⟩ := AHeap.set_at (Nb.o rfl)
    have pH := W.new xH (m := h.next) (Nat.le_refl _) (by omega)
    have r3 : rds I h l o 3 = some [u, .int .i64 x.res.kind, .int .i64 x.res.n] := cells.rds h eh rfl (by omega)
    have hsg : (sgB x).length = (typesB x.params).length + ((numB x.res.kind).length + (numB x.res.n).length) := by unfold sgB; simp only [List.length_append]
    obtain ⟨g1, c1, W1, K1⟩ := wTypes (I := I) su e0 (W.mono xH) (by have := typesB_ge x.params; omega)
    have a1 := K1.pv pH
    obtain ⟨g2, c2, W2, K2⟩ := wNum (I := I) k1 W1 (by rw [List.length_append]; omega)
    have a2 := K2.pv a1.2
    have q1 := a1.1.trans hHk
    have q2 := a2.1.trans q1
    obtain ⟨gz, cz, Wz, _⟩ := wNum (I := I) k2 W2 (by simp only [List.length_append]; omega)
    simp only [List.append_assoc] at Wz
    change WrAt hb gz kw (acc ++ sgB x) at Wz
    rw [hH] at c1
    have hi2 := ih (i + 1) (by omega) _ gz Wz (by rw [← ho]) hl n (by omega)
    simp only [Int.natCast_add, Int.natCast_one] at hi2
    clear hT ih sv hok ho hlo hla hx hd hxo
    rw [f24.n5]; unfold f24.b5
    simp (disch := first | exact D.go | fail) [setR, List.getElem?_cons_zero, List.getElem?_cons_succ, hlt, hlt', f24.n6, f24.b6, f24.n7, f24.b7, hwi, p1, r3, so1, so2, za, zc, zs, c1, q1, c2, q2, cz]
    exact hi2
theorem tL9 {v : AVal} {xs : List (List Int)} (sv : SlOf 1 (At I h0 (SlC 1 (IntA I h0))) v xs) (hok : ∀ x ∈ xs, x.length ≤ 1048576) {hb : AHeap} (e0 : Ext h0 hb) {kw : Nat} {v0 : AVal} (hxl : xs.length ≤ 1048576) {out : List Nat} {Q : AVal → AHeap → Prop} {M : Nat}
    (hT : ∀ g, WrAt hb g kw out → ∀ m, M ≤ m → Res ((f24.J I (AM.lim ⟨P, I, genF P Sh.prims⟩) (m)).1.2.2.2.1 v0 (.ptr (.own kw) 0) g) Q) :
    ∀ (d i : Nat), i + d = xs.length → ∀ (acc : List Nat) (h : AHeap), WrAt hb h kw acc → acc ++ (xs.drop i).flatMap numsB = out → out.length ≤ 26000000 →
    ∀ N, 3 * d + 3 + M ≤ N → Res ((f24.J I (AM.lim ⟨P, I, genF P Sh.prims⟩) (N)).1.2.2.2.2 v0 (.ptr (.own kw) 0) v (.int .i64 (xs.length : Int)) (.int .i64 (i : Int)) h) Q := by
  intro d
  induction d with
  | zero =>
    intro i hi acc h W ho hl N hN
    obtain ⟨n, rfl⟩ : ∃ n, N = n + 1 := ⟨N - 1, by omega⟩
    rw [List.drop_eq_nil_of_le (by omega), List.flatMap_nil, List.append_nil] at ho
    have hq := hT h (by rw [← ho]; exact W) n (by omega)
    have hlt : ¬ (i : Int) < (xs.length : Int) := by omega
    have hlt' : ¬ i < xs.length := by omega
    clear hT W
    rw [f24.n9]; unfold f24.b9
    simp (disch := first | exact D.go | fail) [setR, List.getElem?_cons_zero, List.getElem?_cons_succ, hlt, hlt']
    exact hq
  | succ d ih =>
    intro i hi acc h W ho hl N hN
    obtain ⟨n, rfl⟩ : ∃ n, N = n + 3 := ⟨N - 3, by omega⟩
    have hib : i < xs.length := by omega
    have hx : xs[i]? = some xs[i] := List.getElem?_eq_getElem hib
    have hd : xs.drop i = xs[i] :: xs.drop (i + 1) := List.drop_eq_getElem_cons hib
    have hxo := hok _ (List.getElem_mem hib)
    generalize xs[i] = x at *
    rw [hd, List.flatMap_cons, ← List.append_assoc] at ho
    have hlo : (acc ++ numsB x).length + ((xs.drop (i + 1)).flatMap numsB).length ≤ 26000000 := by rw [← List.length_append, ho]; exact hl
    have hla : acc.length + (numsB x).length ≤ 26000000 := by rw [List.length_append] at hlo; omega
    obtain ⟨l, o, p1, cs, hc, cells⟩ := sv.at hx
    have hwi := wrap_in (n := (i : Int) + 1) ⟨by omega, by omega⟩
    have hlt : (i : Int) < (xs.length : Int) := by omega
    have hlt' : i < xs.length := by omega
    have eh := e0.trans W.ext
    obtain ⟨u, rfl, su⟩ := hc
    have so1 := su.one
    have so2 := su.cells
    obtain ⟨H, hH⟩ : ∃ H, H = (h.alloc ⟨[.nils], true⟩).set h.next ⟨[u], true⟩ := ⟨_, rfl⟩
    have xH : Ext h H := by rw [hH]; exact (Ext.refl h).alloc.set (Nb.o (Nat.le_refl _))
    have hHn : H.next = h.next + 1 := by rw [hH]; simp
    have hHk : H.get h.next = some ⟨[u], true⟩ := by rw [hH]; exact AHeap.set_at (Nb.o rfl)
    have za : (h.alloc ⟨[.nils], true⟩).get h.next = some ⟨[.nils], true⟩ := AHeap.alloc_at (Nb.o rfl)
    have zc : (AVal.agg [u]).cells = [u] := rfl
    have zs : ((h.alloc ⟨[.nils], true⟩).set h.next ⟨[u], true⟩).get h.next = some ⟨[u], true⟩ := AHeap.set_at (Nb.o rfl)
    have pH := W.new xH (m := h.next) (Nat.le_refl _) (by omega)
    have r3 : rds I h l o 1 = some [u] := cells.rds h eh rfl (by omega)
    obtain ⟨gz, cz, Wz, _⟩ := wNums (I := I) su hxo e0 (W.mono xH) (by omega)
    rw [hH] at cz
    have hi2 := ih (i + 1) (by omega) _ gz Wz (by rw [← ho]) hl n (by omega)
    simp only [Int.natCast_add, Int.natCast_one] at hi2
    clear hT ih sv hok ho hlo hla hx hd hxo
    rw [f24.n9]; unfold f24.b9
    simp (disch := first | exact D.go | fail) [setR, List.getElem?_cons_zero, List.getElem?_cons_succ, hlt, hlt', f24.n10, f24.b10, f24.n11, f24.b11, hwi, p1, r3, so1, so2, za, zc, zs, cz]
    exact hi2
theorem tL13 {v : AVal} {xs : List Im} (sv : SlOf 3 (At I h0 (ImC I h0)) v xs) (hok : ∀ x ∈ xs, x.funcs.length ≤ 1048576) {hb : AHeap} (e0 : Ext h0 hb) {kw : Nat} {v0 : AVal} (hxl : xs.length ≤ 1048576) {out : List Nat} {Q : AVal → AHeap → Prop} {M : Nat}
    (hT : ∀ g, WrAt hb g kw out → ∀ m, M ≤ m → Res ((f24.J I (AM.lim ⟨P, I, genF P Sh.prims⟩) (m)).2.1.2.1 v0 (.ptr (.own kw) 0) g) Q) :
    ∀ (d i : Nat), i + d = xs.length → ∀ (acc : List Nat) (h : AHeap), WrAt hb h kw acc → acc ++ (xs.drop i).flatMap imB = out → out.length ≤ 26000000 →
    ∀ N, 3 * d + 3 + M ≤ N → Res ((f24.J I (AM.lim ⟨P, I, genF P Sh.prims⟩) (N)).2.1.2.2.1 v0 (.ptr (.own kw) 0) v (.int .i64 (xs.length : Int)) (.int .i64 (i : Int)) h) Q := by
  intro d
  induction d with
  | zero =>
    intro i hi acc h W ho hl N hN
    obtain ⟨n, rfl⟩ : ∃ n, N = n + 1 := ⟨N - 1, by omega⟩
    rw [List.drop_eq_nil_of_le (by omega), List.flatMap_nil, List.append_nil] at ho
    have hq := hT h (by rw [← ho]; exact W) n (by omega)
    have hlt : ¬ (i : Int) < (xs.length : Int) := by omega
    have hlt' : ¬ i < xs.length := by omega
    clear hT W
    rw [f24.n13]; unfold f24.b13
    simp (disch := first | exact D.go | fail) [setR, List.getElem?_cons_zero, List.getElem?_cons_succ, hlt, hlt']
    exact hq
  | succ d ih =>
    intro i hi acc h W ho hl N hN
    obtain ⟨n, rfl⟩ : ∃ n, N = n + 3 := ⟨N - 3, by omega⟩
    have hib : i < xs.length := by omega
    have hx : xs[i]? = some xs[i] := List.getElem?_eq_getElem hib
    have hd : xs.drop i = xs[i] :: xs.drop (i + 1) := List.drop_eq_getElem_cons hib
    have hxo := hok _ (List.getElem_mem hib)
    generalize xs[i] = x at *
    rw [hd, List.flatMap_cons, ← List.append_assoc] at ho
    have hlo : (acc ++ imB x).length + ((xs.drop (i + 1)).flatMap imB).length ≤ 26000000 := by rw [← List.length_append, ho]; exact hl
    have hla : acc.length + (imB x).length ≤ 26000000 := by rw [List.length_append] at hlo; omega
    obtain ⟨l, o, p1, cs, hc, cells⟩ := sv.at hx
    have hwi := wrap_in (n := (i : Int) + 1) ⟨by omega, by omega⟩
    have hlt : (i : Int) < (xs.length : Int) := by omega
    have hlt' : i < xs.length := by omega
    have eh := e0.trans W.ext
    obtain ⟨u, rfl, k1, k2, su⟩ := hc
    have so1 := su.one
    have so2 := su.cells
    obtain ⟨H, hH⟩ : ∃ H, H = (h.alloc ⟨[Z 0, Z 0, .nils], true⟩).set h.next ⟨[.int .i64 x.rec_, .int .i64 x.face, u], true⟩ := ⟨_, rfl⟩
    have xH : Ext h H := by rw [hH]; exact (Ext.refl h).alloc.set (Nb.o (Nat.le_refl _))
    have hHn : H.next = h.next + 1 := by rw [hH]; simp
    have hHk : H.get h.next = some ⟨[.int .i64 x.rec_, .int .i64 x.face, u], true⟩ := by rw [hH]; exact AHeap.set_at (Nb.o rfl)
    have za : (h.alloc ⟨[Z 0, Z 0, .nils], true⟩).get h.next = some ⟨[Z 0, Z 0, .nils], true⟩ := AHeap.alloc_at (Nb.o rfl)
    have zc : (AVal.agg [.int .i64 x.rec_, .int .i64 x.face, u]).cells = [.int .i64 x.rec_, .int .i64 x.face, u] := rfl
    have zs : ((h.alloc ⟨[Z 0, Z 0, .nils], true⟩).set h.next ⟨[.int .i64 x.rec_, .int .i64 x.face, u], true⟩).get h.next = some ⟨[.int .i64 x.rec_, .int .i64 x.face, u], true⟩ := AHeap.set_at (Nb.o rfl)
    have pH := W.new xH (m := h.next) (Nat.le_refl _) (by omega)
    have r3 : rds I h l o 3 = some [.int .i64 x.rec_, .int .i64 x.face, u] := cells.rds h eh rfl (by omega)
    have hsg : (imB x).length = (numB x.rec_).length + ((numB x.face).length + (numsB x.funcs).length) := by unfold imB; simp only [List.length_append]
    obtain ⟨g1, c1, W1, K1⟩ := wNum (I := I) k1 (W.mono xH) (by omega)
    have a1 := K1.pv pH
    obtain ⟨g2, c2, W2, K2⟩ := wNum (I := I) k2 W1 (by rw [List.length_append]; omega)
    have a2 := K2.pv a1.2
    have q1 := a1.1.trans hHk
    have q2 := a2.1.trans q1
    obtain ⟨gz, cz, Wz, _⟩ := wNums (I := I) su hxo e0 W2 (by simp only [List.length_append]; omega)
    simp only [List.append_assoc] at Wz
    change WrAt hb gz kw (acc ++ imB x) at Wz
    rw [hH] at c1
    have hi2 := ih (i + 1) (by omega) _ gz Wz (by rw [← ho]) hl n (by omega)
    simp only [Int.natCast_add, Int.natCast_one] at hi2
    clear hT ih sv hok ho hlo hla hx hd hxo
    rw [f24.n13]; unfold f24.b13
    simp (disch := first | exact D.go | fail) [setR, List.getElem?_cons_zero, List.getElem?_cons_succ, hlt, hlt', f24.n14, f24.b14, f24.n15, f24.b15, hwi, p1, r3, so1, so2, za, zc, zs, c1, q1, c2, q2, cz]
    exact hi2
theorem tL17 {v : AVal} {xs : List Fu} (sv : SlOf 3 (At I h0 (FuC I h0)) v xs) (hok : ∀ x ∈ xs, FuOk x) {hb : AHeap} (e0 : Ext h0 hb) {kw : Nat} {v0 : AVal} (hxl : xs.length ≤ 1048576) {out : List Nat} {Q : AVal → AHeap → Prop} {M : Nat}
    (hT : ∀ g, WrAt hb g kw out → ∀ m, M ≤ m → Res ((f24.J I (AM.lim ⟨P, I, genF P Sh.prims⟩) (m)).2.2.1.2 v0 (.ptr (.own kw) 0) g) Q) :
    ∀ (d i : Nat), i + d = xs.length → ∀ (acc : List Nat) (h : AHeap), WrAt hb h kw acc → acc ++ (xs.drop i).flatMap fuB = out → out.length ≤ 26000000 →
    ∀ N, 3 * d + 3 + M ≤ N → Res ((f24.J I (AM.lim ⟨P, I, genF P Sh.prims⟩) (N)).2.2.2.1 v0 (.ptr (.own kw) 0) v (.int .i64 (xs.length : Int)) (.int .i64 (i : Int)) h) Q := by
  intro d
  induction d with
  | zero =>
    intro i hi acc h W ho hl N hN
    obtain ⟨n, rfl⟩ : ∃ n, N = n + 1 := ⟨N - 1, by omega⟩
    rw [List.drop_eq_nil_of_le (by omega), List.flatMap_nil, List.append_nil] at ho
    have hq := hT h (by rw [← ho]; exact W) n (by omega)
    have hlt : ¬ (i : Int) < (xs.length : Int) := by omega
    have hlt' : ¬ i < xs.length := by omega
    clear hT W
    rw [f24.n17]; unfold f24.b17
    simp (disch := first | exact D.go | fail) [setR, List.getElem?_cons_zero, List.getElem?_cons_succ, hlt, hlt']
    exact hq
  | succ d ih =>
    intro i hi acc h W ho hl N hN
    obtain ⟨n, rfl⟩ : ∃ n, N = n + 3 := ⟨N - 3, by omega⟩
    have hib : i < xs.length := by omega
    have hx : xs[i]? = some xs[i] := List.getElem?_eq_getElem hib
    have hd : xs.drop i = xs[i] :: xs.drop (i + 1) := List.drop_eq_getElem_cons hib
    have hxo := hok _ (List.getElem_mem hib)
    generalize xs[i] = x at *
    rw [hd, List.flatMap_cons, ← List.append_assoc] at ho
    have hlo : (acc ++ fuB x).length + ((xs.drop (i + 1)).flatMap fuB).length ≤ 26000000 := by rw [← List.length_append, ho]; exact hl
    have hla : acc.length + (fuB x).length ≤ 26000000 := by rw [List.length_append] at hlo; omega
    obtain ⟨l, o, p1, cs, hc, cells⟩ := sv.at hx
    have hwi := wrap_in (n := (i : Int) + 1) ⟨by omega, by omega⟩
    have hlt : (i : Int) < (xs.length : Int) := by omega
    have hlt' : i < xs.length := by omega
    have eh := e0.trans W.ext
    have hF : FuC I h0 cs x := hc
    obtain ⟨u, u', rfl, k1, su, su'⟩ := hc
    have so1 := su.one
    have so2 := su.cells
    have so3 := su'.one
    have so4 := su'.cells
    obtain ⟨H, hH⟩ : ∃ H, H = (h.alloc ⟨[Z 0, .nils, .nils], true⟩).set h.next ⟨[.int .i64 x.sig, u, u'], true⟩ := ⟨_, rfl⟩
    have xH : Ext h H := by rw [hH]; exact (Ext.refl h).alloc.set (Nb.o (Nat.le_refl _))
    have hHn : H.next = h.next + 1 := by rw [hH]; simp
    have hHk : H.get h.next = some ⟨[.int .i64 x.sig, u, u'], true⟩ := by rw [hH]; exact AHeap.set_at (Nb.o rfl)
    have za : (h.alloc ⟨[Z 0, .nils, .nils], true⟩).get h.next = some ⟨[Z 0, .nils, .nils], true⟩ := AHeap.alloc_at (Nb.o rfl)
    have zc : (AVal.agg [.int .i64 x.sig, u, u']).cells = [.int .i64 x.sig, u, u'] := rfl
    have zs : ((h.alloc ⟨[Z 0, .nils, .nils], true⟩).set h.next ⟨[.int .i64 x.sig, u, u'], true⟩).get h.next = some ⟨[.int .i64 x.sig, u, u'], true⟩ := AHeap.set_at (Nb.o rfl)
    have pH := W.new xH (m := h.next) (Nat.le_refl _) (by omega)
    have r3 : rds I h l o 3 = some [.int .i64 x.sig, u, u'] := cells.rds h eh rfl (by omega)
    obtain ⟨gz, cz, Wz, _⟩ := wFn (I := I) hF hxo e0 (W.mono xH) (by omega)
    rw [hH] at cz
    have hi2 := ih (i + 1) (by omega) _ gz Wz (by rw [← ho]) hl n (by omega)
    simp only [Int.natCast_add, Int.natCast_one] at hi2
    clear hT ih sv hok ho hlo hla hx hd hxo
    rw [f24.n17]; unfold f24.b17
    simp (disch := first | exact D.go | fail) [setR, List.getElem?_cons_zero, List.getElem?_cons_succ, hlt, hlt', f24.n18, f24.b18, f24.n19, f24.b19, hwi, p1, r3, so1, so2, so3, so4, za, zc, zs, cz]
    exact hi2
end
end
end Go.Proofs.YtncjcnipagdmlaaDoor.Tx

set_option linter.unusedSimpArgs false
set_option linter.unusedVariables false
namespace Go.Proofs.YtncjcnipagdmlaaDoor.Tx
noncomputable section
open Go.AM Go.Proofs.YtncjcnipagdmlaaDoor.Sf
section
variable {I : Inp} {h0 : AHeap} {α : Type}
/-! a program, written -/
def oB1 (q : Pg) : List Nat := numB q.recs.length ++ q.recs.flatMap typesB
def oB2 (q : Pg) : List Nat := (oB1 q ++ numB q.sigs.length) ++ q.sigs.flatMap sgB
def oB3 (q : Pg) : List Nat := (oB2 q ++ numB q.faces.length) ++ q.faces.flatMap numsB
def oB4 (q : Pg) : List Nat := (oB3 q ++ numB q.impls.length) ++ q.impls.flatMap imB
def oB5 (q : Pg) : List Nat := (oB4 q ++ numB q.funcs.length) ++ q.funcs.flatMap fuB
theorem oB_all (q : Pg) : pgB q = oB5 q ++ numB q.main := by
  unfold pgB oB5 oB4 oB3 oB2 oB1
  simp only [List.append_assoc]
/-- A program that came in or was made, its parts at hand. -/
structure PgV (I : Inp) (h0 : AHeap) (l : AM.Loc) (o : Nat) (q : Pg) (v1 v2 v3 v4 v5 : AVal) : Prop where
  cells : Cells I h0 l o [v1, v2, v3, v4, v5, .int .i64 q.main]
  s1 : SlOf 1 (At I h0 (SlC 2 (At I h0 TyC))) v1 q.recs
  s2 : SlOf 3 (At I h0 (SgC I h0)) v2 q.sigs
  s3 : SlOf 1 (At I h0 (SlC 1 (IntA I h0))) v3 q.faces
  s4 : SlOf 3 (At I h0 (ImC I h0)) v4 q.impls
  s5 : SlOf 3 (At I h0 (FuC I h0)) v5 q.funcs
  ok : PgR q
  len : (pgB q).length ≤ 25000000
theorem fuOk_of {f : Fu} (h : FuR f) : FuOk f := fun b hb => ⟨(h.2.2.2 b hb).1.1, fun i hi => ((h.2.2.2 b hb).1.2 i hi).2.2.2.2.2.1⟩
def TxQ (hb : AHeap) (q : Pg) : AVal → AHeap → Prop := fun u g => Own byF 1 hb g u (pgB q) ∧ Ext hb g
theorem tT16 {l : AM.Loc} {o : Nat} {q : Pg} {v1 v2 v3 v4 v5 : AVal} (V : PgV I h0 l o q v1 v2 v3 v4 v5) {hb g : AHeap} {kw : Nat} (e0 : Ext h0 hb) (W : WrAt hb g kw (oB5 q)) : ∀ m, 2 ≤ m → Res ((f24.J I (AM.lim ⟨P, I, genF P Sh.prims⟩) (m)).2.2.1.2 (.ptr l o) (.ptr (.own kw) 0) g) (TxQ hb q) := by
  intro m hm
  obtain ⟨n, rfl⟩ : ∃ n, m = n + 1 := ⟨m - 1, by omega⟩
  have ha := congrArg List.length (oB_all q)
  rw [List.length_append] at ha
  have hl := V.len
  have r5 := V.cells.rd5 g (e0.trans W.ext)
  obtain ⟨g1, c1, W1, _⟩ := wNum (I := I) V.ok.2.2.2.2.2 W (by omega)
  obtain ⟨w, hw, ow, _⟩ := W1.at_
  rw [← oB_all] at ow
  have hq : TxQ hb q w g1 := ⟨ow, W1.ext⟩
  generalize TxQ hb q = Q at *
  clear W W1 ow V
  rw [f24.n16]; unfold f24.b16
  simp (disch := first | exact D.go | fail) [setR, List.getElem?_cons_zero, List.getElem?_cons_succ, r5, c1, hw]
  exact hq
def mT12 (q : Pg) : Nat := 3 * q.funcs.length + 5 + 2
theorem tT12 {l : AM.Loc} {o : Nat} {q : Pg} {v1 v2 v3 v4 v5 : AVal} (V : PgV I h0 l o q v1 v2 v3 v4 v5) {hb g : AHeap} {kw : Nat} (e0 : Ext h0 hb) (W : WrAt hb g kw (oB4 q)) : ∀ m, mT12 q ≤ m → Res ((f24.J I (AM.lim ⟨P, I, genF P Sh.prims⟩) (m)).2.1.2.1 (.ptr l o) (.ptr (.own kw) 0) g) (TxQ hb q) := by
  intro m hm
  unfold mT12 at hm
  obtain ⟨n, rfl⟩ : ∃ n, m = n + 1 := ⟨m - 1, by omega⟩
  have hl := V.len
  have hle : (oB5 q).length ≤ (pgB q).length := by
    rw [oB_all]; simp only [List.length_append]; omega
  have hle' : (oB4 q).length ≤ (oB5 q).length := by
    unfold oB5; simp only [List.length_append]; omega
  have hxl := V.ok.2.2.2.2.1.1
  obtain ⟨g1, c1, W1, _⟩ := wNum (I := I) (n := (q.funcs.length : Int)) ⟨by omega, by omega⟩ W (by omega)
  have ra := V.cells.rd4 g (e0.trans W.ext)
  have rb := V.cells.rd4 g1 (e0.trans W1.ext)
  have ln := V.s5.len
  have hrun : Res ((f24.J I (AM.lim ⟨P, I, genF P Sh.prims⟩) (n)).2.2.2.1 (.ptr l o) (.ptr (.own kw) 0) v5 (.int .i64 (q.funcs.length : Int)) (.int .i64 ((0 : Nat) : Int)) g1) (TxQ hb q) :=
    tL17 (I := I) V.s5 (fun x hx => fuOk_of (V.ok.2.2.2.2.1.2 x hx)) e0 hxl (out := oB5 q) (M := 2) (fun g W m hm => tT16 V e0 W m hm) q.funcs.length 0 (by omega) _ g1 W1 (by rw [List.drop_zero]; rfl) (by omega) n (by omega)
  have so1 := V.s5.one
  have so2 := V.s5.cells
  generalize TxQ hb q = Q at *
  clear W W1 V hle hle' hxl
  rw [f24.n12]; unfold f24.b12
  simp (disch := first | exact D.go | fail) [setR, List.getElem?_cons_zero, List.getElem?_cons_succ, ra, rb, ln, c1, so1, so2]
  exact hrun
def mT8 (q : Pg) : Nat := 3 * q.impls.length + 5 + mT12 q
theorem tT8 {l : AM.Loc} {o : Nat} {q : Pg} {v1 v2 v3 v4 v5 : AVal} (V : PgV I h0 l o q v1 v2 v3 v4 v5) {hb g : AHeap} {kw : Nat} (e0 : Ext h0 hb) (W : WrAt hb g kw (oB3 q)) : ∀ m, mT8 q ≤ m → Res ((f24.J I (AM.lim ⟨P, I, genF P Sh.prims⟩) (m)).1.2.2.2.1 (.ptr l o) (.ptr (.own kw) 0) g) (TxQ hb q) := by
  intro m hm
  unfold mT8 at hm
  obtain ⟨n, rfl⟩ : ∃ n, m = n + 1 := ⟨m - 1, by omega⟩
  have hl := V.len
  have hle : (oB4 q).length ≤ (pgB q).length := by
    rw [oB_all]; unfold oB5; simp only [List.length_append]; omega
  have hle' : (oB3 q).length ≤ (oB4 q).length := by
    unfold oB4; simp only [List.length_append]; omega
  have hxl := V.ok.2.2.2.1.1
  obtain ⟨g1, c1, W1, _⟩ := wNum (I := I) (n := (q.impls.length : Int)) ⟨by omega, by omega⟩ W (by omega)
  have ra := V.cells.rd3 g (e0.trans W.ext)
  have rb := V.cells.rd3 g1 (e0.trans W1.ext)
  have ln := V.s4.len
  have hrun : Res ((f24.J I (AM.lim ⟨P, I, genF P Sh.prims⟩) (n)).2.1.2.2.1 (.ptr l o) (.ptr (.own kw) 0) v4 (.int .i64 (q.impls.length : Int)) (.int .i64 ((0 : Nat) : Int)) g1) (TxQ hb q) :=
    tL13 (I := I) V.s4 (fun x hx => (V.ok.2.2.2.1.2 x hx).2.2.1) e0 hxl (out := oB4 q) (M := mT12 q) (fun g W m hm => tT12 V e0 W m hm) q.impls.length 0 (by omega) _ g1 W1 (by rw [List.drop_zero]; rfl) (by omega) n (by omega)
  have so1 := V.s4.one
  have so2 := V.s4.cells
  generalize TxQ hb q = Q at *
  clear W W1 V hle hle' hxl
  rw [f24.n8]; unfold f24.b8
  simp (disch := first | exact D.go | fail) [setR, List.getElem?_cons_zero, List.getElem?_cons_succ, ra, rb, ln, c1, so1, so2]
  exact hrun
def mT4 (q : Pg) : Nat := 3 * q.faces.length + 5 + mT8 q
theorem tT4 {l : AM.Loc} {o : Nat} {q : Pg} {v1 v2 v3 v4 v5 : AVal} (V : PgV I h0 l o q v1 v2 v3 v4 v5) {hb g : AHeap} {kw : Nat} (e0 : Ext h0 hb) (W : WrAt hb g kw (oB2 q)) : ∀ m, mT4 q ≤ m → Res ((f24.J I (AM.lim ⟨P, I, genF P Sh.prims⟩) (m)).1.1.2.2.2 (.ptr l o) (.ptr (.own kw) 0) g) (TxQ hb q) := by
  intro m hm
  unfold mT4 at hm
  obtain ⟨n, rfl⟩ : ∃ n, m = n + 1 := ⟨m - 1, by omega⟩
  have hl := V.len
  have hle : (oB3 q).length ≤ (pgB q).length := by
    rw [oB_all]; unfold oB5; unfold oB4; simp only [List.length_append]; omega
  have hle' : (oB2 q).length ≤ (oB3 q).length := by
    unfold oB3; simp only [List.length_append]; omega
  have hxl := V.ok.2.2.1.1
  obtain ⟨g1, c1, W1, _⟩ := wNum (I := I) (n := (q.faces.length : Int)) ⟨by omega, by omega⟩ W (by omega)
  have ra := V.cells.rd2 g (e0.trans W.ext)
  have rb := V.cells.rd2 g1 (e0.trans W1.ext)
  have ln := V.s3.len
  have hrun : Res ((f24.J I (AM.lim ⟨P, I, genF P Sh.prims⟩) (n)).1.2.2.2.2 (.ptr l o) (.ptr (.own kw) 0) v3 (.int .i64 (q.faces.length : Int)) (.int .i64 ((0 : Nat) : Int)) g1) (TxQ hb q) :=
    tL9 (I := I) V.s3 (fun x hx => (V.ok.2.2.1.2 x hx).1) e0 hxl (out := oB3 q) (M := mT8 q) (fun g W m hm => tT8 V e0 W m hm) q.faces.length 0 (by omega) _ g1 W1 (by rw [List.drop_zero]; rfl) (by omega) n (by omega)
  have so1 := V.s3.one
  have so2 := V.s3.cells
  generalize TxQ hb q = Q at *
  clear W W1 V hle hle' hxl
  rw [f24.n4]; unfold f24.b4
  simp (disch := first | exact D.go | fail) [setR, List.getElem?_cons_zero, List.getElem?_cons_succ, ra, rb, ln, c1, so1, so2]
  exact hrun
def mT0 (q : Pg) : Nat := 3 * q.sigs.length + 5 + mT4 q
theorem tT0 {l : AM.Loc} {o : Nat} {q : Pg} {v1 v2 v3 v4 v5 : AVal} (V : PgV I h0 l o q v1 v2 v3 v4 v5) {hb g : AHeap} {kw : Nat} (e0 : Ext h0 hb) (W : WrAt hb g kw (oB1 q)) : ∀ m, mT0 q ≤ m → Res ((f24.J I (AM.lim ⟨P, I, genF P Sh.prims⟩) (m)).1.1.1.1 (.ptr l o) (.ptr (.own kw) 0) g) (TxQ hb q) := by
  intro m hm
  unfold mT0 at hm
  obtain ⟨n, rfl⟩ : ∃ n, m = n + 1 := ⟨m - 1, by omega⟩
  have hl := V.len
  have hle : (oB2 q).length ≤ (pgB q).length := by
    rw [oB_all]; unfold oB5; unfold oB4; unfold oB3; simp only [List.length_append]; omega
  have hle' : (oB1 q).length ≤ (oB2 q).length := by
    unfold oB2; simp only [List.length_append]; omega
  have hxl := V.ok.2.1.1
  obtain ⟨g1, c1, W1, _⟩ := wNum (I := I) (n := (q.sigs.length : Int)) ⟨by omega, by omega⟩ W (by omega)
  have ra := V.cells.rd1 g (e0.trans W.ext)
  have rb := V.cells.rd1 g1 (e0.trans W1.ext)
  have ln := V.s2.len
  have hrun : Res ((f24.J I (AM.lim ⟨P, I, genF P Sh.prims⟩) (n)).1.2.1.1 (.ptr l o) (.ptr (.own kw) 0) v2 (.int .i64 (q.sigs.length : Int)) (.int .i64 ((0 : Nat) : Int)) g1) (TxQ hb q) :=
    tL5 (I := I) V.s2 (fun _ _ => trivial) e0 hxl (out := oB2 q) (M := mT4 q) (fun g W m hm => tT4 V e0 W m hm) q.sigs.length 0 (by omega) _ g1 W1 (by rw [List.drop_zero]; rfl) (by omega) n (by omega)
  have so1 := V.s2.one
  have so2 := V.s2.cells
  generalize TxQ hb q = Q at *
  clear W W1 V hle hle' hxl
  rw [f24.n0]; unfold f24.b0
  simp (disch := first | exact D.go | fail) [setR, List.getElem?_cons_zero, List.getElem?_cons_succ, ra, rb, ln, c1, so1, so2]
  exact hrun
/-- A program is written. -/
theorem tTextG {l : AM.Loc} {o : Nat} {q : Pg} (hq : PgA I h0 l o q) (ok : PgR q) (len : (pgB q).length ≤ 25000000) (hb : AHeap) (e0 : Ext h0 hb) : Res ((AM.lim ⟨P, I, genF P Sh.prims⟩) 24 [.ptr l o] hb) (TxQ hb q) := by
  obtain ⟨cs, ⟨v1, v2, v3, v4, v5, rfl, _, s1, s2, s3, s4, s5⟩, cells⟩ := hq
  have V : PgV I h0 l o q v1 v2 v3 v4 v5 := ⟨cells, s1, s2, s3, s4, s5, ok, len⟩
  obtain ⟨H, hH⟩ : ∃ H, H = hb.alloc ⟨[.nils], true⟩ := ⟨_, rfl⟩
  have xH : Ext hb H := by rw [hH]; exact (Ext.refl hb).alloc
  have hHn : H.next = hb.next + 1 := by rw [hH]; simp
  have hHk : H.get hb.next = some ⟨[.nils], true⟩ := by rw [hH]; exact AHeap.alloc_at (Nb.o rfl)
  have W0 : WrAt hb H hb.next [] := ⟨Nat.le_refl _, by omega, xH, .nils, hHk, Own.nil, fun k o n c e => by cases e⟩
  have hxl := ok.1.1
  have hle : (oB1 q).length ≤ (pgB q).length := by
    rw [oB_all]; unfold oB5 oB4 oB3 oB2; simp only [List.length_append]; omega
  obtain ⟨g1, c1, W1, _⟩ := wNum (I := I) (n := (q.recs.length : Int)) ⟨by omega, by omega⟩ W0 (by simp)
  have ra := cells.rd0 H (e0.trans xH)
  have rb := cells.rd0 g1 (e0.trans W1.ext)
  have ln := s1.len
  rw [List.nil_append] at W1
  have hrun : Res ((f24.J I (AM.lim ⟨P, I, genF P Sh.prims⟩) (3 * q.recs.length + 3 + mT0 q)).1.1.1.2 (.ptr l o) (.ptr (.own hb.next) 0) v1 (.int .i64 (q.recs.length : Int)) (.int .i64 ((0 : Nat) : Int)) g1) (TxQ hb q) :=
    tL1 (I := I) s1 (fun _ _ => trivial) e0 hxl (out := oB1 q) (M := mT0 q) (fun g W m hm => tT0 V e0 W m hm) q.recs.length 0 (by omega) _ g1 W1 (by rw [List.drop_zero]; rfl) (by omega) _ (Nat.le_refl _)
  have so1 := s1.one
  have so2 := s1.cells
  have z1 : (AVal.agg [.nils]).cells = [.nils] := rfl
  refine f24.lim rfl (n := 3 * q.recs.length + 3 + mT0 q) ?_
  unfold f24.e
  rw [hH] at c1 ra
  generalize mT0 q = M at *
  generalize TxQ hb q = Q at *
  clear W0 W1 V hle hxl hH xH hHk s1 s2 s3 s4 s5 cells ok len
  simp (disch := first | exact D.go | fail) [setR, List.getElem?_cons_zero, List.getElem?_cons_succ, ra, rb, ln, c1, so1, so2, z1]
  exact hrun
end
end
end Go.Proofs.YtncjcnipagdmlaaDoor.Tx

set_option linter.unusedSimpArgs false
set_option linter.unusedVariables false
namespace Go.Proofs.YtncjcnipagdmlaaDoor.Tx
noncomputable section
open Go.AM Go.Proofs.YtncjcnipagdmlaaDoor.Sf
section
variable {I : Inp} {h0 : AHeap}
/-! Encode and Decode of any program -/
theorem natsEq_iff {a b : List Nat} : natsEq a b = true ↔ a = b := ⟨natsEq_eq, fun h => by rw [h]; exact natsEq_self b⟩
theorem tyB_lt (t : Ty) : ∀ x ∈ tyB t, x < 256 := by
  intro x hx
  unfold tyB at hx
  rcases List.mem_append.1 hx with h | h <;> exact varint_lt _ x h
theorem flat_lt {α : Type} {f : α → List Nat} (hf : ∀ a, ∀ x ∈ f a, x < 256) (xs : List α) (n : Int) : ∀ x ∈ numB n ++ xs.flatMap f, x < 256 := by
  intro x hx
  rcases List.mem_append.1 hx with h | h
  · exact varint_lt _ x h
  · obtain ⟨a, _, ha⟩ := List.mem_flatMap.1 h
    exact hf a x ha
theorem app_lt {a b : List Nat} (ha : ∀ x ∈ a, x < 256) (hb : ∀ x ∈ b, x < 256) : ∀ x ∈ a ++ b, x < 256 := fun x hx => by
  rcases List.mem_append.1 hx with h | h
  · exact ha x h
  · exact hb x h
theorem numB_lt (n : Int) : ∀ x ∈ numB n, x < 256 := varint_lt _
theorem typesB_lt (xs : List Ty) : ∀ x ∈ typesB xs, x < 256 := flat_lt tyB_lt xs _
theorem insB_lt (i : Ins) : ∀ x ∈ insB i, x < 256 :=
  app_lt (numB_lt _) (app_lt (numB_lt _) (app_lt (numB_lt _) (app_lt (numB_lt _) (app_lt (numB_lt _) (numsB_lt _)))))
theorem blkB_lt (b : Bk) : ∀ x ∈ blkB b, x < 256 := by
  have h := app_lt (flat_lt insB_lt b.code b.code.length) (app_lt (numB_lt b.fin) (app_lt (numB_lt b.reg) (app_lt (numB_lt b.to) (numB_lt b.els))))
  unfold blkB
  rw [List.append_assoc] at h
  exact h
theorem fuB_lt (f : Fu) : ∀ x ∈ fuB f, x < 256 := app_lt (numB_lt _) (app_lt (typesB_lt _) (flat_lt blkB_lt _ _))
theorem sgB_lt (s : Sg) : ∀ x ∈ sgB s, x < 256 := app_lt (typesB_lt _) (app_lt (numB_lt _) (numB_lt _))
theorem imB_lt (m : Im) : ∀ x ∈ imB m, x < 256 := app_lt (numB_lt _) (app_lt (numB_lt _) (numsB_lt _))
theorem pgB_lt (q : Pg) : ∀ x ∈ pgB q, x < 256 := by
  have h := app_lt (flat_lt typesB_lt q.recs q.recs.length) (app_lt (flat_lt sgB_lt q.sigs q.sigs.length) (app_lt (flat_lt numsB_lt q.faces q.faces.length) (app_lt (flat_lt imB_lt q.impls q.impls.length) (app_lt (flat_lt fuB_lt q.funcs q.funcs.length) (numB_lt q.main)))))
  unfold pgB
  simp only [List.append_assoc] at h
  exact h
theorem pgB_ne (q : Pg) : pgB q ≠ [] := fun e => by
  have := pePg.one q
  rw [e] at this
  simp at this
/-- Whether bytes are a program's. -/
def IsPg (bs : List Nat) (q : Pg) : Prop := pPg (some bs) = (q, some []) ∧ pgB q = bs
def DecQ (I : Inp) (hb : AHeap) (bs : List Nat) : AVal → AHeap → Prop := fun u g => Ext hb g ∧
  ((∃ kp q, u = .tuple [.ptr (.own kp) 0, .nili] ∧ PgA I g (.own kp) 0 q ∧ PgR q ∧ IsPg bs q) ∨ (∃ e, u = .tuple [.nilp, e] ∧ Refd g e ∧ ∀ q, ¬ IsPg bs q))
theorem tEqual {u v : AVal} {g : AHeap} {a b : List Nat} (s1 : pToStr I u g = some (.str a)) (s2 : pToStr I v g = some (.str b)) : (AM.lim ⟨P, I, genF P Sh.prims⟩) 27 [u, v] g = some (.bool (natsEq a b), g) := by
  refine Res.eq (f27.lim rfl (n := 1) ?_)
  unfold f27.e
  have hst : pBin .eql (.str a) (.str b) = some (.bool (natsEq a b)) := nrfl
  generalize natsEq a b = c at *
  simp (disch := first | exact D.go | fail) [setR, List.getElem?_cons_zero, List.getElem?_cons_succ, s1, s2, hst]
theorem tDecodeG {hb : AHeap} {v : AVal} {bs : List Nat} (bv : ByS I hb v bs) (hby : ∀ x ∈ bs, x < 256) (hl : bs.length ≤ 20000) : Res ((AM.lim ⟨P, I, genF P Sh.prims⟩) 15 [v] hb) (DecQ I hb bs) := by
  obtain ⟨H, hH⟩ : ∃ H, H = hb.alloc ⟨[v, .bool false], true⟩ := ⟨_, rfl⟩
  have xH : Ext hb H := by rw [hH]; exact (Ext.refl hb).alloc
  have hHn : H.next = hb.next + 1 := by rw [hH]; simp
  have hHk : H.get hb.next = some ⟨[v, .bool false], true⟩ := by rw [hH]; exact AHeap.alloc_at (Nb.o rfl)
  have R : RdS I hb H hb.next (some bs) := ⟨Nat.le_refl _, by omega, xH, v, hHk, bv⟩
  have ok : RdOk (some bs) := fun b e => by cases e; exact ⟨hby, by omega⟩
  obtain ⟨_, g1, c1, rfl, pa, R1, K1⟩ := rPgG R ok
  obtain ⟨pr, _, pl⟩ := pePg.fits (some bs) ok
  obtain ⟨b1, q1, bb1⟩ := R1.at_
  have lv := bv.len
  have n0 : ¬ (20000 : Int) < (bs.length : Int) := by omega
  have n1 : ¬ 20000 < bs.length := by omega
  have o1 := bv.one
  have c1' : (AM.lim ⟨P, I, genF P Sh.prims⟩) 26 [.ptr (.own hb.next) 0] (hb.alloc ⟨[v, .bool false], true⟩) = some (.ptr (.own H.next) 0, g1) := by rw [← hH]; exact c1
  obtain ⟨e, g3, c3, rf, x3⟩ := tRefused (I := I) g1
  have hbad : (∀ q, ¬ IsPg bs q) → DecQ I hb bs (.tuple [.nilp, e]) g3 := fun h => ⟨R1.ext.trans x3, .inr ⟨e, rfl, rf, h⟩⟩
  have hpq : pPg (some bs) = ((pPg (some bs)).1, (pPg (some bs)).2) := rfl
  unfold IsPg at hbad
  cases hs : (pPg (some bs)).2 with
  | none =>
    rw [hs] at q1
    simp only [Option.isNone_none] at q1
    have hq := hbad fun q hq => by rw [hq.1] at hs; cases hs
    refine f15.lim rfl (n := 3) ?_
    unfold f15.e
    generalize DecQ I hb bs = Q at *
    generalize ((bs.length : Nat) : Int) = L at *
    generalize H.next = kp at *
    clear R R1 K1 hH xH hHk bv pa pr pl hbad ok rf
    simp (disch := first | exact D.go | fail) [setR, List.getElem?_cons_zero, List.getElem?_cons_succ, f15.n0, f15.b0, lv, n0, c1', q1, c3, o1.1, o1.2]
    exact hq
  | some t =>
    rw [hs] at q1 bb1
    simp only [Option.isNone_some] at q1
    simp only [Option.getD_some] at bb1
    have lb1 := bb1.len
    by_cases ht : t = []
    · subst ht
      have hne : bs ≠ [] := fun e => by
        subst e
        rw [pPg_eq] at hs
        have : pPg (some []) = pPg (some []) := rfl
        revert hs
        simp [pList, pSize, pNum, vP, pRep_none, pRep_zero, pRep]
      have ha : (pgB (pPg (some bs)).1).length ≤ 25000000 := by
        rw [hs] at pl
        rw [if_neg (by simp)] at pl
        simp only [Rd.left] at pl
        omega
      obtain ⟨u2, g2, c2, o2, x2⟩ := tTextG (I := I) pa pr ha g1 (Ext.refl g1)
      have s1 := toStr_by (I := I) (own_by (I := I) o2 (pgB_lt _) (by omega)) (pgB_ne _) g2 (Ext.refl g2)
      have s2 := toStr_by (I := I) bv hne g2 (R1.ext.trans x2)
      have ceq := tEqual s1 s2
      obtain ⟨e', g4, c4, rf', x4⟩ := tRefused (I := I) g2
      simp only [List.length_nil, Int.natCast_zero] at lb1
      by_cases hx : pgB (pPg (some bs)).1 = bs
      · have hq : DecQ I hb bs (.tuple [.ptr (.own H.next) 0, .nili]) g2 := by
          exact ⟨R1.ext.trans x2, .inl ⟨H.next, _, rfl, PgA.mono pa x2, pr, by rw [hpq, hs], hx⟩⟩
        rw [natsEq_iff.2 hx] at ceq
        refine f15.lim rfl (n := 3) ?_
        unfold f15.e
        generalize DecQ I hb bs = Q at *
        generalize ((bs.length : Nat) : Int) = L at *
        generalize H.next = kp at *
        clear R R1 K1 hH xH hHk bv pa pr pl hbad ok rf rf' s1 s2 o2 hx
        simp (disch := first | exact D.go | fail) [setR, List.getElem?_cons_zero, List.getElem?_cons_succ, f15.n0, f15.b0, f15.n1, f15.b1, lv, n0, c1', q1, lb1, c2, ceq, o1.1, o1.2]
        exact hq
      · have hq : DecQ I hb bs (.tuple [.nilp, e']) g4 := ⟨(R1.ext.trans x2).trans x4, .inr ⟨e', rfl, rf', fun q hq => hx (by rw [hq.1]; exact hq.2)⟩⟩
        have hf : natsEq (pgB (pPg (some bs)).1) bs = false := by
          cases hh : natsEq (pgB (pPg (some bs)).1) bs with
          | false => rfl
          | true => exact absurd (natsEq_iff.1 hh) hx
        rw [hf] at ceq
        refine f15.lim rfl (n := 3) ?_
        unfold f15.e
        generalize DecQ I hb bs = Q at *
        generalize ((bs.length : Nat) : Int) = L at *
        generalize H.next = kp at *
        clear R R1 K1 hH xH hHk bv pa pr pl hbad ok rf rf' s1 s2 o2 hx
        simp (disch := first | exact D.go | fail) [setR, List.getElem?_cons_zero, List.getElem?_cons_succ, f15.n0, f15.b0, f15.n1, f15.b1, lv, n0, c1', q1, lb1, c2, ceq, c4, o1.1, o1.2]
        exact hq
    · have hq := hbad fun q hq => ht (by rw [hq.1] at hs; cases hs; rfl)
      have hp : (0 : Int) < (t.length : Int) := by have := List.length_pos_iff.2 ht; omega
      refine f15.lim rfl (n := 3) ?_
      unfold f15.e
      generalize DecQ I hb bs = Q at *
      generalize ((bs.length : Nat) : Int) = L at *
      generalize ((t.length : Nat) : Int) = L2 at *
      generalize H.next = kp at *
      clear R R1 K1 hH xH hHk bv pa pr pl hbad ok rf
      simp (disch := first | exact D.go | fail) [setR, List.getElem?_cons_zero, List.getElem?_cons_succ, f15.n0, f15.b0, lv, n0, c1', q1, lb1, hp, c3, o1.1, o1.2]
      exact hq
end
end
end Go.Proofs.YtncjcnipagdmlaaDoor.Tx

set_option linter.unusedSimpArgs false
set_option linter.unusedVariables false
namespace Go.Proofs.YtncjcnipagdmlaaDoor.Tx
noncomputable section
open Go.AM Go.Proofs.YtncjcnipagdmlaaDoor.Sf
section
variable {I : Inp} {h0 : AHeap} {α : Type}
/-! the reference's bytes of a program: its lists -/
/-- What is appended, and what is kept. -/
theorem by_app {hb h g1 : AHeap} {acc bs : List Nat} {w u1 : AVal} (hw : Own byF 1 hb h w acc) (e : Ext hb h) (x1 : Ext h g1) (A1 : Own byF 1 h g1 u1 bs) (hl : acc.length + bs.length ≤ 19000000000) :
    ∃ u2 g2, sAppend I 1 1 w u1 g1 = some (u2, g2) ∧ Own byF 1 hb g2 u2 (acc ++ bs) ∧ Ext hb g2 ∧ ∀ m, NotB w m → m < h.next → g1.get m = h.get m ∧ g2.get m = h.get m ∧ NotB u2 m ∧ m < g2.next := by
  obtain ⟨u2, g2, c2, A2, x2, hk⟩ := app_own_all (I := I) byFix (bytes := 1) (hw.mono x1) (e.trans x1) (A1.src byFix) (by omega) (by omega)
  refine ⟨u2, g2, c2, A2, x2, fun m hm hml => ?_⟩
  have hml1 : m < g1.next := by have := x1.lo; omega
  obtain ⟨k1, k2⟩ := hk.2 m hm hml1
  exact ⟨x1.same m hml, k1.trans (x1.same m hml), k2, by have := hk.1; omega⟩
theorem AVal.self_of {sz : Nat} {R : AM.Loc → Nat → α → Prop} {v : AVal} {xs : List α} (s : SlOf sz R v xs) : v.eqb v = true := s.self
theorem eL1 {l : AM.Loc} {o : Nat} {q : Pg} {v1 v2 v3 v4 v5 : AVal} (V : PgV I h0 l o q v1 v2 v3 v4 v5) (hok : ∀ x ∈ q.recs, AllOk TyR x) {hb : AHeap} (e0 : Ext h0 hb) (hxl : q.recs.length ≤ 1048576) {out : List Nat} {Q : AVal → AHeap → Prop} {M : Nat}
    (hT : ∀ w g, Own byF 1 hb g w out → Ext hb g → ∀ m, M ≤ m → Res ((f12.J I (AM.lim ⟨P, I, genF P Sh.prims⟩) (m)).1.1.1.1 (.ptr l o) w g) Q) :
    ∀ (d i : Nat), i + d = q.recs.length → ∀ (acc : List Nat) (w : AVal) (h : AHeap), Own byF 1 hb h w acc → Ext hb h → acc ++ (q.recs.drop i).flatMap typesB = out → out.length ≤ 26000000 →
    ∀ N, 3 * d + 3 + M ≤ N → Res ((f12.J I (AM.lim ⟨P, I, genF P Sh.prims⟩) (N)).1.1.1.2 (.ptr l o) w (.int .i64 (i : Int)) h) Q := by
  intro d
  induction d with
  | zero =>
    intro i hi acc w h W E ho hl N hN
    obtain ⟨n, rfl⟩ : ∃ n, N = n + 1 := ⟨N - 1, by omega⟩
    rw [List.drop_eq_nil_of_le (by omega), List.flatMap_nil, List.append_nil] at ho
    have hq := hT w h (by rw [← ho]; exact W) E n (by omega)
    have hlt : ¬ (i : Int) < (q.recs.length : Int) := by omega
    have hlt' : ¬ i < q.recs.length := by omega
    have rv := V.cells.rd0 h (e0.trans E)
    have ln := V.s1.len
    have sv1 := V.s1.one
    have sv2 := V.s1.cells
    clear hT W V
    rw [f12.n1]; unfold f12.b1
    simp (disch := first | exact D.go | fail) [setR, List.getElem?_cons_zero, List.getElem?_cons_succ, rv, ln, sv1, sv2, hlt, hlt']
    exact hq
  | succ d ih =>
    intro i hi acc w h W E ho hl N hN
    obtain ⟨n, rfl⟩ : ∃ n, N = n + 3 := ⟨N - 3, by omega⟩
    have hib : i < q.recs.length := by omega
    have hx : q.recs[i]? = some q.recs[i] := List.getElem?_eq_getElem hib
    have hd : q.recs.drop i = q.recs[i] :: q.recs.drop (i + 1) := List.drop_eq_getElem_cons hib
    have hxo := hok _ (List.getElem_mem hib)
    generalize q.recs[i] = x at *
    rw [hd, List.flatMap_cons, ← List.append_assoc] at ho
    have hlo : (acc ++ typesB x).length + ((q.recs.drop (i + 1)).flatMap typesB).length ≤ 26000000 := by rw [← List.length_append, ho]; exact hl
    have hla : acc.length + (typesB x).length ≤ 26000000 := by rw [List.length_append] at hlo; omega
    obtain ⟨lx, ox, p1, cs, hc, cells⟩ := V.s1.at hx
    have hwi := wrap_in (n := (i : Int) + 1) ⟨by omega, by omega⟩
    have hlt : (i : Int) < (q.recs.length : Int) := by omega
    have hlt' : i < q.recs.length := by omega
    have rv := V.cells.rd0 h (e0.trans E)
    have ln := V.s1.len
    have sv1 := V.s1.one
    have sv2 := V.s1.cells
    have sv3 := V.s1.self
    have eh := e0.trans E
    obtain ⟨u, rfl, su⟩ := hc
    have so1 := su.one
    have so2 := su.cells
    have r1 := cells.rd0 h eh
    obtain ⟨u1, g1, c1, A1, x1⟩ := rTys (I := I) su hxo.1 h eh
    obtain ⟨wz, gz, cz, Wz, Ez, _⟩ := by_app (I := I) W E x1 A1 (by omega)
    have hi2 := ih (i + 1) (by omega) _ wz gz Wz Ez (by rw [← ho]) hl n (by omega)
    simp only [Int.natCast_add, Int.natCast_one] at hi2
    clear hT ih V hok ho hlo hla hx hd hxo
    rw [f12.n1]; unfold f12.b1
    simp (disch := first | exact D.go | fail) [setR, List.getElem?_cons_zero, List.getElem?_cons_succ, rv, ln, sv1, sv2, sv3, hlt, hlt', f12.n2, f12.b2, f12.n3, f12.b3, hwi, p1, r1, so1, so2, c1, cz]
    exact hi2
theorem eL5 {l : AM.Loc} {o : Nat} {q : Pg} {v1 v2 v3 v4 v5 : AVal} (V : PgV I h0 l o q v1 v2 v3 v4 v5) (hok : ∀ x ∈ q.sigs, AllOk TyR x.params) {hb : AHeap} (e0 : Ext h0 hb) (hxl : q.sigs.length ≤ 1048576) {out : List Nat} {Q : AVal → AHeap → Prop} {M : Nat}
    (hT : ∀ w g, Own byF 1 hb g w out → Ext hb g → ∀ m, M ≤ m → Res ((f12.J I (AM.lim ⟨P, I, genF P Sh.prims⟩) (m)).1.1.2.2.2 (.ptr l o) w g) Q) :
    ∀ (d i : Nat), i + d = q.sigs.length → ∀ (acc : List Nat) (w : AVal) (h : AHeap), Own byF 1 hb h w acc → Ext hb h → acc ++ (q.sigs.drop i).flatMap sgB = out → out.length ≤ 26000000 →
    ∀ N, 3 * d + 3 + M ≤ N → Res ((f12.J I (AM.lim ⟨P, I, genF P Sh.prims⟩) (N)).1.2.1.1 (.ptr l o) w (.int .i64 (i : Int)) h) Q := by
  intro d
  induction d with
  | zero =>
    intro i hi acc w h W E ho hl N hN
    obtain ⟨n, rfl⟩ : ∃ n, N = n + 1 := ⟨N - 1, by omega⟩
    rw [List.drop_eq_nil_of_le (by omega), List.flatMap_nil, List.append_nil] at ho
    have hq := hT w h (by rw [← ho]; exact W) E n (by omega)
    have hlt : ¬ (i : Int) < (q.sigs.length : Int) := by omega
    have hlt' : ¬ i < q.sigs.length := by omega
    have rv := V.cells.rd1 h (e0.trans E)
    have ln := V.s2.len
    have sv1 := V.s2.one
    have sv2 := V.s2.cells
    clear hT W V
    rw [f12.n5]; unfold f12.b5
    simp (disch := first | exact D.go | fail) [setR, List.getElem?_cons_zero, List.getElem?_cons_succ, rv, ln, sv1, sv2, hlt, hlt']
    exact hq
  | succ d ih =>
    intro i hi acc w h W E ho hl N hN
    obtain ⟨n, rfl⟩ : ∃ n, N = n + 3 := ⟨N - 3, by omega⟩
    have hib : i < q.sigs.length := by omega
    have hx : q.sigs[i]? = some q.sigs[i] := List.getElem?_eq_getElem hib
    have hd : q.sigs.drop i = q.sigs[i] :: q.sigs.drop (i + 1) := List.drop_eq_getElem_cons hib
    have hxo := hok _ (List.getElem_mem hib)
    generalize q.sigs[i] = x at *
    rw [hd, List.flatMap_cons, ← List.append_assoc] at ho
    have hlo : (acc ++ sgB x).length + ((q.sigs.drop (i + 1)).flatMap sgB).length ≤ 26000000 := by rw [← List.length_append, ho]; exact hl
    have hla : acc.length + (sgB x).length ≤ 26000000 := by rw [List.length_append] at hlo; omega
    obtain ⟨lx, ox, p1, cs, hc, cells⟩ := V.s2.at hx
    have hwi := wrap_in (n := (i : Int) + 1) ⟨by omega, by omega⟩
    have hlt : (i : Int) < (q.sigs.length : Int) := by omega
    have hlt' : i < q.sigs.length := by omega
    have rv := V.cells.rd1 h (e0.trans E)
    have ln := V.s2.len
    have sv1 := V.s2.one
    have sv2 := V.s2.cells
    have sv3 := V.s2.self
    have eh := e0.trans E
    obtain ⟨u, rfl, su, k1, k2⟩ := hc
    have so1 := su.one
    have so2 := su.cells
    have r1 := cells.rd0 h eh
    have hsg : (sgB x).length = (typesB x.params).length + ((numB x.res.kind).length + (numB x.res.n).length) := by unfold sgB; simp only [List.length_append]
    obtain ⟨u1, g1, c1, A1, x1⟩ := rTys (I := I) su hxo.1 h eh
    obtain ⟨w1, h1, d1, W1, E1, _⟩ := by_app (I := I) W E x1 A1 (by omega)
    obtain ⟨u2, g2, c2, A2, x2⟩ := rNum (I := I) k1 h1
    obtain ⟨w2, h2, d2, W2, E2, _⟩ := by_app (I := I) W1 E1 x2 A2 (by rw [List.length_append]; omega)
    obtain ⟨u3, g3, c3, A3, x3⟩ := rNum (I := I) k2 h2
    obtain ⟨wz, gz, cz, Wz, Ez, _⟩ := by_app (I := I) W2 E2 x3 A3 (by simp only [List.length_append]; omega)
    simp only [List.append_assoc] at Wz
    change Own byF 1 hb gz wz (acc ++ sgB x) at Wz
    have rb := V.cells.rd1 h1 (e0.trans E1)
    have rb1 := V.cells.rd1 g2 (e0.trans (E1.trans x2))
    have rb2 := V.cells.rd1 h2 (e0.trans E2)
    have r2 := cells.rd1 h1 (e0.trans E1)
    have r3 := cells.rd2 h2 (e0.trans E2)
    have rc := cells.rd2 h1 (e0.trans E1)
    have rc1 := cells.rd2 g2 (e0.trans (E1.trans x2))
    have hi2 := ih (i + 1) (by omega) _ wz gz Wz Ez (by rw [← ho]) hl n (by omega)
    simp only [Int.natCast_add, Int.natCast_one] at hi2
    clear hT ih V hok ho hlo hla hx hd hxo
    rw [f12.n5]; unfold f12.b5
    simp (disch := first | exact D.go | fail) [setR, List.getElem?_cons_zero, List.getElem?_cons_succ, rv, ln, sv1, sv2, sv3, hlt, hlt', f12.n6, f12.b6, f12.n7, f12.b7, hwi, p1, r1, r2, r3, rb, rc, rb1, rc1, rb2, so1, so2, c1, d1, c2, d2, c3, cz]
    exact hi2
theorem eL9 {l : AM.Loc} {o : Nat} {q : Pg} {v1 v2 v3 v4 v5 : AVal} (V : PgV I h0 l o q v1 v2 v3 v4 v5) (hok : ∀ x ∈ q.faces, AllOk InR x) {hb : AHeap} (e0 : Ext h0 hb) (hxl : q.faces.length ≤ 1048576) {out : List Nat} {Q : AVal → AHeap → Prop} {M : Nat}
    (hT : ∀ w g, Own byF 1 hb g w out → Ext hb g → ∀ m, M ≤ m → Res ((f12.J I (AM.lim ⟨P, I, genF P Sh.prims⟩) (m)).1.2.2.1 (.ptr l o) w g) Q) :
    ∀ (d i : Nat), i + d = q.faces.length → ∀ (acc : List Nat) (w : AVal) (h : AHeap), Own byF 1 hb h w acc → Ext hb h → acc ++ (q.faces.drop i).flatMap numsB = out → out.length ≤ 26000000 →
    ∀ N, 3 * d + 3 + M ≤ N → Res ((f12.J I (AM.lim ⟨P, I, genF P Sh.prims⟩) (N)).1.2.2.2.1 (.ptr l o) w (.int .i64 (i : Int)) h) Q := by
  intro d
  induction d with
  | zero =>
    intro i hi acc w h W E ho hl N hN
    obtain ⟨n, rfl⟩ : ∃ n, N = n + 1 := ⟨N - 1, by omega⟩
    rw [List.drop_eq_nil_of_le (by omega), List.flatMap_nil, List.append_nil] at ho
    have hq := hT w h (by rw [← ho]; exact W) E n (by omega)
    have hlt : ¬ (i : Int) < (q.faces.length : Int) := by omega
    have hlt' : ¬ i < q.faces.length := by omega
    have rv := V.cells.rd2 h (e0.trans E)
    have ln := V.s3.len
    have sv1 := V.s3.one
    have sv2 := V.s3.cells
    clear hT W V
    rw [f12.n9]; unfold f12.b9
    simp (disch := first | exact D.go | fail) [setR, List.getElem?_cons_zero, List.getElem?_cons_succ, rv, ln, sv1, sv2, hlt, hlt']
    exact hq
  | succ d ih =>
    intro i hi acc w h W E ho hl N hN
    obtain ⟨n, rfl⟩ : ∃ n, N = n + 3 := ⟨N - 3, by omega⟩
    have hib : i < q.faces.length := by omega
    have hx : q.faces[i]? = some q.faces[i] := List.getElem?_eq_getElem hib
    have hd : q.faces.drop i = q.faces[i] :: q.faces.drop (i + 1) := List.drop_eq_getElem_cons hib
    have hxo := hok _ (List.getElem_mem hib)
    generalize q.faces[i] = x at *
    rw [hd, List.flatMap_cons, ← List.append_assoc] at ho
    have hlo : (acc ++ numsB x).length + ((q.faces.drop (i + 1)).flatMap numsB).length ≤ 26000000 := by rw [← List.length_append, ho]; exact hl
    have hla : acc.length + (numsB x).length ≤ 26000000 := by rw [List.length_append] at hlo; omega
    obtain ⟨lx, ox, p1, cs, hc, cells⟩ := V.s3.at hx
    have hwi := wrap_in (n := (i : Int) + 1) ⟨by omega, by omega⟩
    have hlt : (i : Int) < (q.faces.length : Int) := by omega
    have hlt' : i < q.faces.length := by omega
    have rv := V.cells.rd2 h (e0.trans E)
    have ln := V.s3.len
    have sv1 := V.s3.one
    have sv2 := V.s3.cells
    have sv3 := V.s3.self
    have eh := e0.trans E
    obtain ⟨u, rfl, su⟩ := hc
    have so1 := su.one
    have so2 := su.cells
    have r1 := cells.rd0 h eh
    obtain ⟨u1, g1, c1, A1, x1⟩ := rNums (I := I) su hxo.1 h eh
    obtain ⟨wz, gz, cz, Wz, Ez, _⟩ := by_app (I := I) W E x1 A1 (by omega)
    have hi2 := ih (i + 1) (by omega) _ wz gz Wz Ez (by rw [← ho]) hl n (by omega)
    simp only [Int.natCast_add, Int.natCast_one] at hi2
    clear hT ih V hok ho hlo hla hx hd hxo
    rw [f12.n9]; unfold f12.b9
    simp (disch := first | exact D.go | fail) [setR, List.getElem?_cons_zero, List.getElem?_cons_succ, rv, ln, sv1, sv2, sv3, hlt, hlt', f12.n10, f12.b10, f12.n11, f12.b11, hwi, p1, r1, so1, so2, c1, cz]
    exact hi2
theorem eL13 {l : AM.Loc} {o : Nat} {q : Pg} {v1 v2 v3 v4 v5 : AVal} (V : PgV I h0 l o q v1 v2 v3 v4 v5) (hok : ∀ x ∈ q.impls, AllOk InR x.funcs) {hb : AHeap} (e0 : Ext h0 hb) (hxl : q.impls.length ≤ 1048576) {out : List Nat} {Q : AVal → AHeap → Prop} {M : Nat}
    (hT : ∀ w g, Own byF 1 hb g w out → Ext hb g → ∀ m, M ≤ m → Res ((f12.J I (AM.lim ⟨P, I, genF P Sh.prims⟩) (m)).2.1.1.2.1 (.ptr l o) w g) Q) :
    ∀ (d i : Nat), i + d = q.impls.length → ∀ (acc : List Nat) (w : AVal) (h : AHeap), Own byF 1 hb h w acc → Ext hb h → acc ++ (q.impls.drop i).flatMap imB = out → out.length ≤ 26000000 →
    ∀ N, 3 * d + 3 + M ≤ N → Res ((f12.J I (AM.lim ⟨P, I, genF P Sh.prims⟩) (N)).2.1.1.2.2 (.ptr l o) w (.int .i64 (i : Int)) h) Q := by
  intro d
  induction d with
  | zero =>
    intro i hi acc w h W E ho hl N hN
    obtain ⟨n, rfl⟩ : ∃ n, N = n + 1 := ⟨N - 1, by omega⟩
    rw [List.drop_eq_nil_of_le (by omega), List.flatMap_nil, List.append_nil] at ho
    have hq := hT w h (by rw [← ho]; exact W) E n (by omega)
    have hlt : ¬ (i : Int) < (q.impls.length : Int) := by omega
    have hlt' : ¬ i < q.impls.length := by omega
    have rv := V.cells.rd3 h (e0.trans E)
    have ln := V.s4.len
    have sv1 := V.s4.one
    have sv2 := V.s4.cells
    clear hT W V
    rw [f12.n13]; unfold f12.b13
    simp (disch := first | exact D.go | fail) [setR, List.getElem?_cons_zero, List.getElem?_cons_succ, rv, ln, sv1, sv2, hlt, hlt']
    exact hq
  | succ d ih =>
    intro i hi acc w h W E ho hl N hN
    obtain ⟨n, rfl⟩ : ∃ n, N = n + 3 := ⟨N - 3, by omega⟩
    have hib : i < q.impls.length := by omega
    have hx : q.impls[i]? = some q.impls[i] := List.getElem?_eq_getElem hib
    have hd : q.impls.drop i = q.impls[i] :: q.impls.drop (i + 1) := List.drop_eq_getElem_cons hib
    have hxo := hok _ (List.getElem_mem hib)
    generalize q.impls[i] = x at *
    rw [hd, List.flatMap_cons, ← List.append_assoc] at ho
    have hlo : (acc ++ imB x).length + ((q.impls.drop (i + 1)).flatMap imB).length ≤ 26000000 := by rw [← List.length_append, ho]; exact hl
    have hla : acc.length + (imB x).length ≤ 26000000 := by rw [List.length_append] at hlo; omega
    obtain ⟨lx, ox, p1, cs, hc, cells⟩ := V.s4.at hx
    have hwi := wrap_in (n := (i : Int) + 1) ⟨by omega, by omega⟩
    have hlt : (i : Int) < (q.impls.length : Int) := by omega
    have hlt' : i < q.impls.length := by omega
    have rv := V.cells.rd3 h (e0.trans E)
    have ln := V.s4.len
    have sv1 := V.s4.one
    have sv2 := V.s4.cells
    have sv3 := V.s4.self
    have eh := e0.trans E
    obtain ⟨u, rfl, k1, k2, su⟩ := hc
    have so1 := su.one
    have so2 := su.cells
    have r1 := cells.rd0 h eh
    have hsg : (imB x).length = (numB x.rec_).length + ((numB x.face).length + (numsB x.funcs).length) := by unfold imB; simp only [List.length_append]
    obtain ⟨u1, g1, c1, A1, x1⟩ := rNum (I := I) k1 h
    obtain ⟨w1, h1, d1, W1, E1, _⟩ := by_app (I := I) W E x1 A1 (by omega)
    obtain ⟨u2, g2, c2, A2, x2⟩ := rNum (I := I) k2 h1
    obtain ⟨w2, h2, d2, W2, E2, _⟩ := by_app (I := I) W1 E1 x2 A2 (by rw [List.length_append]; omega)
    obtain ⟨u3, g3, c3, A3, x3⟩ := rNums (I := I) su hxo.1 h2 (e0.trans E2)
    obtain ⟨wz, gz, cz, Wz, Ez, _⟩ := by_app (I := I) W2 E2 x3 A3 (by simp only [List.length_append]; omega)
    simp only [List.append_assoc] at Wz
    change Own byF 1 hb gz wz (acc ++ imB x) at Wz
    have rb := V.cells.rd3 h1 (e0.trans E1)
    have rb1 := V.cells.rd3 g1 (e0.trans (E.trans x1))
    have rb2 := V.cells.rd3 h2 (e0.trans E2)
    have r2 := cells.rd1 h1 (e0.trans E1)
    have rd := cells.rd1 h eh
    have rd1 := cells.rd1 g1 (e0.trans (E.trans x1))
    have r3 := cells.rd2 h2 (e0.trans E2)
    have hi2 := ih (i + 1) (by omega) _ wz gz Wz Ez (by rw [← ho]) hl n (by omega)
    simp only [Int.natCast_add, Int.natCast_one] at hi2
    clear hT ih V hok ho hlo hla hx hd hxo
    rw [f12.n13]; unfold f12.b13
    simp (disch := first | exact D.go | fail) [setR, List.getElem?_cons_zero, List.getElem?_cons_succ, rv, ln, sv1, sv2, sv3, hlt, hlt', f12.n14, f12.b14, f12.n15, f12.b15, hwi, p1, r1, r2, r3, rb, rb1, rb2, rd, rd1, so1, so2, c1, d1, c2, d2, c3, cz]
    exact hi2
end
end
end Go.Proofs.YtncjcnipagdmlaaDoor.Tx

set_option linter.unusedSimpArgs false
set_option linter.unusedVariables false
namespace Go.Proofs.YtncjcnipagdmlaaDoor.Tx
noncomputable section
open Go.AM Go.Proofs.YtncjcnipagdmlaaDoor.Sf
section
variable {I : Inp} {h0 : AHeap} {α : Type}
/-! the reference's bytes of a program: its functions, the whole -/
theorem eL20 {l : AM.Loc} {o : Nat} {vb vr : AVal} {sg : Int} {v8 : AVal} {bs : List Bk} (sb : SlOf 5 (At I h0 (BkC I h0)) vb bs) (hok : AllOk BkR bs) {hb : AHeap} (e0 : Ext h0 hb) {k : Nat} {out : List Nat} {Q : AVal → AHeap → Prop} {M : Nat}
    (hT : ∀ w g, Own byF 1 hb g w out → Ext hb g → ∀ m, M ≤ m → Res ((f12.J I (AM.lim ⟨P, I, genF P Sh.prims⟩) (m)).2.2.1.2.2 (.ptr l o) w v8 g) Q) :
    ∀ (d i : Nat), i + d = bs.length → ∀ (acc : List Nat) (w : AVal) (h : AHeap), Own byF 1 hb h w acc → Ext hb h → h.get k = some ⟨[.int .i64 sg, vr, vb], true⟩ → k < h.next → NotB w k → acc ++ (bs.drop i).flatMap blkB = out → out.length ≤ 26000000 →
    ∀ N, 3 * d + 3 + M ≤ N → Res ((f12.J I (AM.lim ⟨P, I, genF P Sh.prims⟩) (N)).2.2.2.1 (.ptr l o) w v8 (.ptr (.own k) 0) (.int .i64 (i : Int)) h) Q := by
  have hbl := hok.1
  intro d
  induction d with
  | zero =>
    intro i hi acc w h W E hk hkl nk ho hl N hN
    obtain ⟨n, rfl⟩ : ∃ n, N = n + 1 := ⟨N - 1, by omega⟩
    rw [List.drop_eq_nil_of_le (by omega), List.flatMap_nil, List.append_nil] at ho
    have hq := hT w h (by rw [← ho]; exact W) E n (by omega)
    have hlt : ¬ (i : Int) < (bs.length : Int) := by omega
    have hlt' : ¬ i < bs.length := by omega
    have ln := sb.len
    have sv1 := sb.one
    have sv2 := sb.cells
    clear hT W sb
    rw [f12.n20]; unfold f12.b20
    simp (disch := first | exact D.go | fail) [setR, List.getElem?_cons_zero, List.getElem?_cons_succ, hk, ln, sv1, sv2, hlt, hlt']
    exact hq
  | succ d ih =>
    intro i hi acc w h W E hk hkl nk ho hl N hN
    obtain ⟨n, rfl⟩ : ∃ n, N = n + 3 := ⟨N - 3, by omega⟩
    have hib : i < bs.length := by omega
    have hx : bs[i]? = some bs[i] := List.getElem?_eq_getElem hib
    have hd : bs.drop i = bs[i] :: bs.drop (i + 1) := List.drop_eq_getElem_cons hib
    have hxo := hok.2 _ (List.getElem_mem hib)
    generalize bs[i] = x at *
    rw [hd, List.flatMap_cons, ← List.append_assoc] at ho
    have hlo : (acc ++ blkB x).length + ((bs.drop (i + 1)).flatMap blkB).length ≤ 26000000 := by rw [← List.length_append, ho]; exact hl
    have hla : acc.length + (blkB x).length ≤ 26000000 := by rw [List.length_append] at hlo; omega
    obtain ⟨lx, ox, p1, cs, hc, cells⟩ := sb.at hx
    have hwi := wrap_in (n := (i : Int) + 1) ⟨by omega, by omega⟩
    have hlt : (i : Int) < (bs.length : Int) := by omega
    have hlt' : i < bs.length := by omega
    have ln := sb.len
    have sv1 := sb.one
    have sv2 := sb.cells
    have eh := e0.trans E
    have hcl : cs.length = 5 := by obtain ⟨u, rfl, _⟩ := hc; rfl
    have r5 : rds I h lx ox 5 = some cs := cells.rds h eh hcl (by omega)
    obtain ⟨u1, g1, c1, A1, x1⟩ := rBlk (I := I) hc hxo.1.1 (by omega) (fun i hi => (hxo.1.2 i hi).2.2.2.2.2.1) h eh
    obtain ⟨wz, gz, cz, Wz, Ez, Kz⟩ := by_app (I := I) W E x1 A1 (by omega)
    obtain ⟨_, q1, q2, q3⟩ := Kz k nk hkl
    have hi2 := ih (i + 1) (by omega) _ wz gz Wz Ez (q1.trans hk) q3 q2 (by rw [← ho]) hl n (by omega)
    simp only [Int.natCast_add, Int.natCast_one] at hi2
    obtain ⟨a0, a1, a2, a3, a4, rfl⟩ : ∃ a0 a1 a2 a3 a4, cs = [a0, a1, a2, a3, a4] := by
      match cs, hcl with
      | [a0, a1, a2, a3, a4], _ => exact ⟨a0, a1, a2, a3, a4, rfl⟩
    clear hT ih sb hok ho hlo hla hx hd hxo cells Kz
    rw [f12.n20]; unfold f12.b20
    simp (disch := first | exact D.go | fail) [setR, List.getElem?_cons_zero, List.getElem?_cons_succ, hk, ln, sv1, sv2, hlt, hlt', f12.n21, f12.b21, f12.n22, f12.b22, hwi, p1, r5, c1, cz]
    exact hi2
theorem eL17 {l : AM.Loc} {o : Nat} {q : Pg} {v1 v2 v3 v4 v5 : AVal} (V : PgV I h0 l o q v1 v2 v3 v4 v5) (hok : ∀ x ∈ q.funcs, FuR x) {hb : AHeap} (e0 : Ext h0 hb) (hxl : q.funcs.length ≤ 1048576) {out : List Nat} {Q : AVal → AHeap → Prop} {M : Nat}
    (hT : ∀ w g, Own byF 1 hb g w out → Ext hb g → ∀ m, M ≤ m → Res ((f12.J I (AM.lim ⟨P, I, genF P Sh.prims⟩) (m)).2.1.2.2.2 (.ptr l o) w g) Q) :
    ∀ (d i : Nat), i + d = q.funcs.length → ∀ (acc : List Nat) (w : AVal) (h : AHeap), Own byF 1 hb h w acc → Ext hb h → acc ++ (q.funcs.drop i).flatMap fuB = out → out.length ≤ 26000000 →
    ∀ N, 4000000 * d + 3 + M ≤ N → Res ((f12.J I (AM.lim ⟨P, I, genF P Sh.prims⟩) (N)).2.2.1.1 (.ptr l o) w (.int .i64 (i : Int)) h) Q := by
  intro d
  induction d with
  | zero =>
    intro i hi acc w h W E ho hl N hN
    obtain ⟨n, rfl⟩ : ∃ n, N = n + 1 := ⟨N - 1, by omega⟩
    rw [List.drop_eq_nil_of_le (by omega), List.flatMap_nil, List.append_nil] at ho
    have hq := hT w h (by rw [← ho]; exact W) E n (by omega)
    have hlt : ¬ (i : Int) < (q.funcs.length : Int) := by omega
    have hlt' : ¬ i < q.funcs.length := by omega
    have rv := V.cells.rd4 h (e0.trans E)
    have ln := V.s5.len
    have sv1 := V.s5.one
    have sv2 := V.s5.cells
    clear hT W V
    rw [f12.n17]; unfold f12.b17
    simp (disch := first | exact D.go | fail) [setR, List.getElem?_cons_zero, List.getElem?_cons_succ, rv, ln, sv1, sv2, hlt, hlt']
    exact hq
  | succ d ih =>
    intro i hi acc w h W E ho hl N hN
    obtain ⟨n, rfl⟩ : ∃ n, N = n + 2 := ⟨N - 2, by omega⟩
    have hib : i < q.funcs.length := by omega
    have hx : q.funcs[i]? = some q.funcs[i] := List.getElem?_eq_getElem hib
    have hd : q.funcs.drop i = q.funcs[i] :: q.funcs.drop (i + 1) := List.drop_eq_getElem_cons hib
    have hxo := hok _ (List.getElem_mem hib)
    generalize q.funcs[i] = x at *
    rw [hd, List.flatMap_cons, ← List.append_assoc] at ho
    have hlo : (acc ++ fuB x).length + ((q.funcs.drop (i + 1)).flatMap fuB).length ≤ 26000000 := by rw [← List.length_append, ho]; exact hl
    have hla : acc.length + (fuB x).length ≤ 26000000 := by rw [List.length_append] at hlo; omega
    obtain ⟨lx, ox, p1, cs, hc, cells⟩ := V.s5.at hx
    obtain ⟨u, u', rfl, k1, su, su'⟩ := hc
    have hwi := wrap_in (n := (i : Int) + 1) ⟨by omega, by omega⟩
    have hlt : (i : Int) < (q.funcs.length : Int) := by omega
    have hlt' : i < q.funcs.length := by omega
    have rv := V.cells.rd4 h (e0.trans E)
    have ln := V.s5.len
    have sv1 := V.s5.one
    have sv2 := V.s5.cells
    have eh := e0.trans E
    have r5 : rds I h lx ox 3 = some [.int .i64 x.sig, u, u'] := cells.rds h eh rfl (by omega)
    have hfu : (fuB x).length = (numB x.sig).length + ((typesB x.regs).length + ((numB x.blocks.length).length + (x.blocks.flatMap blkB).length)) := by unfold fuB; simp only [List.length_append]
    have hbl := hxo.2.2.1
    obtain ⟨H, hH⟩ : ∃ H, H = (h.alloc ⟨[Z 0, .nils, .nils], true⟩).set h.next ⟨[.int .i64 x.sig, u, u'], true⟩ := ⟨_, rfl⟩
    have xH : Ext h H := by rw [hH]; exact (Ext.refl h).alloc.set (Nb.o (Nat.le_refl _))
    have hHn : H.next = h.next + 1 := by rw [hH]; simp
    have hHk : H.get h.next = some ⟨[.int .i64 x.sig, u, u'], true⟩ := by rw [hH]; exact AHeap.set_at (Nb.o rfl)
    have za : (h.alloc ⟨[Z 0, .nils, .nils], true⟩).get h.next = some ⟨[Z 0, .nils, .nils], true⟩ := AHeap.alloc_at (Nb.o rfl)
    have zc : (AVal.agg [.int .i64 x.sig, u, u']).cells = [.int .i64 x.sig, u, u'] := rfl
    have zs : ((h.alloc ⟨[Z 0, .nils, .nils], true⟩).set h.next ⟨[.int .i64 x.sig, u, u'], true⟩).get h.next = some ⟨[.int .i64 x.sig, u, u'], true⟩ := AHeap.set_at (Nb.o rfl)
    have nw : NotB w h.next := W.notB (.inr (Nat.le_refl _))
    have EH := E.trans xH
    obtain ⟨u1, g1, c1, A1, x1⟩ := rNum (I := I) k1 H
    obtain ⟨w1, h1, d1, W1, E1, K1⟩ := by_app (I := I) (W.mono xH) EH x1 A1 (by omega)
    obtain ⟨m1, n1, o1, l1⟩ := K1 h.next nw (by omega)
    have q1 := n1.trans hHk
    obtain ⟨u2, g2, c2, A2, x2⟩ := rTys (I := I) su hxo.2.1.1 h1 (e0.trans E1)
    obtain ⟨w2, h2, d2, W2, E2, K2⟩ := by_app (I := I) W1 E1 x2 A2 (by rw [List.length_append]; omega)
    obtain ⟨m2, n2, o2, l2⟩ := K2 h.next o1 l1
    have q2 := n2.trans q1
    obtain ⟨u3, g3, c3, A3, x3⟩ := rNum (I := I) (n := (x.blocks.length : Int)) ⟨by omega, by omega⟩ h2
    obtain ⟨w3, h3, d3, W3, E3, K3⟩ := by_app (I := I) W2 E2 x3 A3 (by simp only [List.length_append]; omega)
    obtain ⟨m3, n3, o3, l3⟩ := K3 h.next o2 l2
    have q3 := n3.trans q2
    have hrun : Res ((f12.J I (AM.lim ⟨P, I, genF P Sh.prims⟩) (n)).2.2.2.1 (.ptr l o) w3 (.int .i64 (i : Int)) (.ptr (.own h.next) 0) (.int .i64 ((0 : Nat) : Int)) h3) Q := by
      refine eL20 (I := I) su' hxo.2.2 e0 (out := acc ++ fuB x) (M := 4000000 * d + 3 + M + 1) (fun w' g' W' E' m hm => ?_) x.blocks.length 0 (by omega) _ w3 h3 W3 E3 q3 l3 o3 (by unfold fuB; simp only [List.drop_zero, List.append_assoc]) (by rw [List.length_append]; omega) n (by omega)
      obtain ⟨m', rfl⟩ : ∃ m', m = m' + 1 := ⟨m - 1, by omega⟩
      have hi2 := ih (i + 1) (by omega) _ w' g' W' E' ho hl m' (by omega)
      simp only [Int.natCast_add, Int.natCast_one] at hi2
      clear hT ih V hok ho hlo hla hx hd hxo K1 K2 K3 W1 W2 W3 A1 A2 A3 W W' su su' cells
      rw [f12.n19]; unfold f12.b19
      simp (disch := first | exact D.go | fail) [setR, List.getElem?_cons_zero, List.getElem?_cons_succ, hwi]
      exact hi2
    have ln' := su'.len
    have so1 := su.one
    have so2 := su.cells
    have so3 := su'.one
    have so4 := su'.cells
    rw [hH] at c1
    clear hT ih V hok ho hlo hla hx hd hxo K1 K2 K3 W1 W2 W3 A1 A2 A3 W su su' cells hH xH hHk
    rw [f12.n17]; unfold f12.b17
    simp (disch := first | exact D.go | fail) [setR, List.getElem?_cons_zero, List.getElem?_cons_succ, rv, ln, sv1, sv2, hlt, hlt', f12.n18, f12.b18, p1, r5, za, zc, zs, c1, d1, q1, c2, d2, q2, c3, d3, ln', so1, so2, so3, so4]
    exact hrun
end
end
end Go.Proofs.YtncjcnipagdmlaaDoor.Tx

set_option linter.unusedSimpArgs false
set_option linter.unusedVariables false
namespace Go.Proofs.YtncjcnipagdmlaaDoor.Tx
noncomputable section
open Go.AM Go.Proofs.YtncjcnipagdmlaaDoor.Sf
section
variable {I : Inp} {h0 : AHeap} {α : Type}
/-! the reference's bytes of a program -/
theorem eT16 {l : AM.Loc} {o : Nat} {q : Pg} {v1 v2 v3 v4 v5 : AVal} (V : PgV I h0 l o q v1 v2 v3 v4 v5) {hb g : AHeap} {w : AVal} (e0 : Ext h0 hb) (W : Own byF 1 hb g w (oB5 q)) (E : Ext hb g) : ∀ m, 2 ≤ m → Res ((f12.J I (AM.lim ⟨P, I, genF P Sh.prims⟩) (m)).2.1.2.2.2 (.ptr l o) w g) (TxQ hb q) := by
  intro m hm
  obtain ⟨n, rfl⟩ : ∃ n, m = n + 1 := ⟨m - 1, by omega⟩
  have ha := congrArg List.length (oB_all q)
  rw [List.length_append] at ha
  have hl := V.len
  have r5 := V.cells.rd5 g (e0.trans E)
  obtain ⟨u1, g1, c1, A1, x1⟩ := rNum (I := I) V.ok.2.2.2.2.2 g
  obtain ⟨wz, gz, cz, Wz, Ez, _⟩ := by_app (I := I) W E x1 A1 (by omega)
  rw [← oB_all] at Wz
  have hq : TxQ hb q wz gz := ⟨Wz, Ez⟩
  generalize TxQ hb q = Q at *
  clear W A1 Wz V
  rw [f12.n16]; unfold f12.b16
  simp (disch := first | exact D.go | fail) [setR, List.getElem?_cons_zero, List.getElem?_cons_succ, r5, c1, cz]
  exact hq
def mE12 (q : Pg) : Nat := 4000000 * q.funcs.length + 5 + 2
theorem eT12 {l : AM.Loc} {o : Nat} {q : Pg} {v1 v2 v3 v4 v5 : AVal} (V : PgV I h0 l o q v1 v2 v3 v4 v5) {hb g : AHeap} {w : AVal} (e0 : Ext h0 hb) (W : Own byF 1 hb g w (oB4 q)) (E : Ext hb g) : ∀ m, mE12 q ≤ m → Res ((f12.J I (AM.lim ⟨P, I, genF P Sh.prims⟩) (m)).2.1.1.2.1 (.ptr l o) w g) (TxQ hb q) := by
  intro m hm
  unfold mE12 at hm
  obtain ⟨n, rfl⟩ : ∃ n, m = n + 1 := ⟨m - 1, by omega⟩
  have hl := V.len
  have hle : (oB5 q).length ≤ (pgB q).length := by
    rw [oB_all]; simp only [List.length_append]; omega
  have hle' : (oB4 q).length + (numB q.funcs.length).length ≤ (oB5 q).length := by
    unfold oB5; simp only [List.length_append]; omega
  have hxl := V.ok.2.2.2.2.1.1
  have ra := V.cells.rd4 g (e0.trans E)
  have ln := V.s5.len
  obtain ⟨u1, g1, c1, A1, x1⟩ := rNum (I := I) (n := (q.funcs.length : Int)) ⟨by omega, by omega⟩ g
  obtain ⟨wz, gz, cz, Wz, Ez, _⟩ := by_app (I := I) W E x1 A1 (by omega)
  have hrun : Res ((f12.J I (AM.lim ⟨P, I, genF P Sh.prims⟩) (n)).2.2.1.1 (.ptr l o) wz (.int .i64 ((0 : Nat) : Int)) gz) (TxQ hb q) :=
    eL17 (I := I) V (V.ok.2.2.2.2.1.2) e0 hxl (out := oB5 q) (M := 2) (fun w g W E m hm => eT16 V e0 W E m hm) q.funcs.length 0 (by omega) _ wz gz Wz Ez (by rw [List.drop_zero]; rfl) (by omega) n (by omega)
  have so1 := V.s5.one
  have so2 := V.s5.cells
  generalize TxQ hb q = Q at *
  clear W A1 Wz V hle hle' hxl
  rw [f12.n12]; unfold f12.b12
  simp (disch := first | exact D.go | fail) [setR, List.getElem?_cons_zero, List.getElem?_cons_succ, ra, ln, c1, cz, so1, so2]
  exact hrun
def mE8 (q : Pg) : Nat := 3 * q.impls.length + 5 + mE12 q
theorem eT8 {l : AM.Loc} {o : Nat} {q : Pg} {v1 v2 v3 v4 v5 : AVal} (V : PgV I h0 l o q v1 v2 v3 v4 v5) {hb g : AHeap} {w : AVal} (e0 : Ext h0 hb) (W : Own byF 1 hb g w (oB3 q)) (E : Ext hb g) : ∀ m, mE8 q ≤ m → Res ((f12.J I (AM.lim ⟨P, I, genF P Sh.prims⟩) (m)).1.2.2.1 (.ptr l o) w g) (TxQ hb q) := by
  intro m hm
  unfold mE8 at hm
  obtain ⟨n, rfl⟩ : ∃ n, m = n + 1 := ⟨m - 1, by omega⟩
  have hl := V.len
  have hle : (oB4 q).length ≤ (pgB q).length := by
    rw [oB_all]; unfold oB5; simp only [List.length_append]; omega
  have hle' : (oB3 q).length + (numB q.impls.length).length ≤ (oB4 q).length := by
    unfold oB4; simp only [List.length_append]; omega
  have hxl := V.ok.2.2.2.1.1
  have ra := V.cells.rd3 g (e0.trans E)
  have ln := V.s4.len
  obtain ⟨u1, g1, c1, A1, x1⟩ := rNum (I := I) (n := (q.impls.length : Int)) ⟨by omega, by omega⟩ g
  obtain ⟨wz, gz, cz, Wz, Ez, _⟩ := by_app (I := I) W E x1 A1 (by omega)
  have hrun : Res ((f12.J I (AM.lim ⟨P, I, genF P Sh.prims⟩) (n)).2.1.1.2.2 (.ptr l o) wz (.int .i64 ((0 : Nat) : Int)) gz) (TxQ hb q) :=
    eL13 (I := I) V (fun x hx => (V.ok.2.2.2.1.2 x hx).2.2) e0 hxl (out := oB4 q) (M := mE12 q) (fun w g W E m hm => eT12 V e0 W E m hm) q.impls.length 0 (by omega) _ wz gz Wz Ez (by rw [List.drop_zero]; rfl) (by omega) n (by omega)
  have so1 := V.s4.one
  have so2 := V.s4.cells
  generalize TxQ hb q = Q at *
  clear W A1 Wz V hle hle' hxl
  rw [f12.n8]; unfold f12.b8
  simp (disch := first | exact D.go | fail) [setR, List.getElem?_cons_zero, List.getElem?_cons_succ, ra, ln, c1, cz, so1, so2]
  exact hrun
def mE4 (q : Pg) : Nat := 3 * q.faces.length + 5 + mE8 q
theorem eT4 {l : AM.Loc} {o : Nat} {q : Pg} {v1 v2 v3 v4 v5 : AVal} (V : PgV I h0 l o q v1 v2 v3 v4 v5) {hb g : AHeap} {w : AVal} (e0 : Ext h0 hb) (W : Own byF 1 hb g w (oB2 q)) (E : Ext hb g) : ∀ m, mE4 q ≤ m → Res ((f12.J I (AM.lim ⟨P, I, genF P Sh.prims⟩) (m)).1.1.2.2.2 (.ptr l o) w g) (TxQ hb q) := by
  intro m hm
  unfold mE4 at hm
  obtain ⟨n, rfl⟩ : ∃ n, m = n + 1 := ⟨m - 1, by omega⟩
  have hl := V.len
  have hle : (oB3 q).length ≤ (pgB q).length := by
    rw [oB_all]; unfold oB5; unfold oB4; simp only [List.length_append]; omega
  have hle' : (oB2 q).length + (numB q.faces.length).length ≤ (oB3 q).length := by
    unfold oB3; simp only [List.length_append]; omega
  have hxl := V.ok.2.2.1.1
  have ra := V.cells.rd2 g (e0.trans E)
  have ln := V.s3.len
  obtain ⟨u1, g1, c1, A1, x1⟩ := rNum (I := I) (n := (q.faces.length : Int)) ⟨by omega, by omega⟩ g
  obtain ⟨wz, gz, cz, Wz, Ez, _⟩ := by_app (I := I) W E x1 A1 (by omega)
  have hrun : Res ((f12.J I (AM.lim ⟨P, I, genF P Sh.prims⟩) (n)).1.2.2.2.1 (.ptr l o) wz (.int .i64 ((0 : Nat) : Int)) gz) (TxQ hb q) :=
    eL9 (I := I) V (V.ok.2.2.1.2) e0 hxl (out := oB3 q) (M := mE8 q) (fun w g W E m hm => eT8 V e0 W E m hm) q.faces.length 0 (by omega) _ wz gz Wz Ez (by rw [List.drop_zero]; rfl) (by omega) n (by omega)
  have so1 := V.s3.one
  have so2 := V.s3.cells
  generalize TxQ hb q = Q at *
  clear W A1 Wz V hle hle' hxl
  rw [f12.n4]; unfold f12.b4
  simp (disch := first | exact D.go | fail) [setR, List.getElem?_cons_zero, List.getElem?_cons_succ, ra, ln, c1, cz, so1, so2]
  exact hrun
def mE0 (q : Pg) : Nat := 3 * q.sigs.length + 5 + mE4 q
theorem eT0 {l : AM.Loc} {o : Nat} {q : Pg} {v1 v2 v3 v4 v5 : AVal} (V : PgV I h0 l o q v1 v2 v3 v4 v5) {hb g : AHeap} {w : AVal} (e0 : Ext h0 hb) (W : Own byF 1 hb g w (oB1 q)) (E : Ext hb g) : ∀ m, mE0 q ≤ m → Res ((f12.J I (AM.lim ⟨P, I, genF P Sh.prims⟩) (m)).1.1.1.1 (.ptr l o) w g) (TxQ hb q) := by
  intro m hm
  unfold mE0 at hm
  obtain ⟨n, rfl⟩ : ∃ n, m = n + 1 := ⟨m - 1, by omega⟩
  have hl := V.len
  have hle : (oB2 q).length ≤ (pgB q).length := by
    rw [oB_all]; unfold oB5; unfold oB4; unfold oB3; simp only [List.length_append]; omega
  have hle' : (oB1 q).length + (numB q.sigs.length).length ≤ (oB2 q).length := by
    unfold oB2; simp only [List.length_append]; omega
  have hxl := V.ok.2.1.1
  have ra := V.cells.rd1 g (e0.trans E)
  have ln := V.s2.len
  obtain ⟨u1, g1, c1, A1, x1⟩ := rNum (I := I) (n := (q.sigs.length : Int)) ⟨by omega, by omega⟩ g
  obtain ⟨wz, gz, cz, Wz, Ez, _⟩ := by_app (I := I) W E x1 A1 (by omega)
  have hrun : Res ((f12.J I (AM.lim ⟨P, I, genF P Sh.prims⟩) (n)).1.2.1.1 (.ptr l o) wz (.int .i64 ((0 : Nat) : Int)) gz) (TxQ hb q) :=
    eL5 (I := I) V (fun x hx => (V.ok.2.1.2 x hx).1) e0 hxl (out := oB2 q) (M := mE4 q) (fun w g W E m hm => eT4 V e0 W E m hm) q.sigs.length 0 (by omega) _ wz gz Wz Ez (by rw [List.drop_zero]; rfl) (by omega) n (by omega)
  have so1 := V.s2.one
  have so2 := V.s2.cells
  generalize TxQ hb q = Q at *
  clear W A1 Wz V hle hle' hxl
  rw [f12.n0]; unfold f12.b0
  simp (disch := first | exact D.go | fail) [setR, List.getElem?_cons_zero, List.getElem?_cons_succ, ra, ln, c1, cz, so1, so2]
  exact hrun
/-- A program's bytes by the reference. -/
theorem tREncG {l : AM.Loc} {o : Nat} {q : Pg} (hq : PgA I h0 l o q) (ok : PgR q) (len : (pgB q).length ≤ 25000000) (hb : AHeap) (e0 : Ext h0 hb) : Res ((AM.lim ⟨P, I, genF P Sh.prims⟩) 12 [.ptr l o] hb) (TxQ hb q) := by
  obtain ⟨cs, ⟨v1, v2, v3, v4, v5, rfl, _, s1, s2, s3, s4, s5⟩, cells⟩ := hq
  have V : PgV I h0 l o q v1 v2 v3 v4 v5 := ⟨cells, s1, s2, s3, s4, s5, ok, len⟩
  have hxl := ok.1.1
  have hle : (oB1 q).length ≤ (pgB q).length := by
    rw [oB_all]; unfold oB5 oB4 oB3 oB2; simp only [List.length_append]; omega
  have ra := cells.rd0 hb e0
  have ln := s1.len
  obtain ⟨u1, g1, c1, A1, x1⟩ := rNum (I := I) (n := (q.recs.length : Int)) ⟨by omega, by omega⟩ hb
  have hrun : Res ((f12.J I (AM.lim ⟨P, I, genF P Sh.prims⟩) (3 * q.recs.length + 3 + mE0 q)).1.1.1.2 (.ptr l o) u1 (.int .i64 ((0 : Nat) : Int)) g1) (TxQ hb q) :=
    eL1 (I := I) V ok.1.2 e0 hxl (out := oB1 q) (M := mE0 q) (fun w g W E m hm => eT0 V e0 W E m hm) q.recs.length 0 (by omega) _ u1 g1 A1 x1 (by rw [List.drop_zero]; rfl) (by omega) _ (Nat.le_refl _)
  have so1 := s1.one
  have so2 := s1.cells
  refine f12.lim rfl (n := 3 * q.recs.length + 3 + mE0 q) ?_
  unfold f12.e
  generalize mE0 q = M at *
  generalize TxQ hb q = Q at *
  clear V hle hxl s1 s2 s3 s4 s5 cells ok len A1
  simp (disch := first | exact D.go | fail) [setR, List.getElem?_cons_zero, List.getElem?_cons_succ, ra, ln, c1, so1, so2]
  exact hrun
/-- A program is written, or refused. -/
theorem tEncodeG {l : AM.Loc} {o : Nat} {q : Pg} (hq : PgA I h0 l o q) (ok : PgR q) (len : (pgB q).length ≤ 25000000) (hb : AHeap) (e0 : Ext h0 hb) : Res ((AM.lim ⟨P, I, genF P Sh.prims⟩) 13 [.ptr l o] hb) fun u g => Ext hb g ∧
    (((pgB q).length ≤ 20000 ∧ ∃ v, u = .tuple [v, .nili] ∧ Own byF 1 hb g v (pgB q)) ∨ (20000 < (pgB q).length ∧ ∃ e, u = .tuple [.nils, e] ∧ Refd g e)) := by
  obtain ⟨v, g, c1, ow, x⟩ := tTextG hq ok len hb e0
  have hlen := ow.len
  by_cases hl : 20000 < (pgB q).length
  · obtain ⟨e, g2, c2, rf, x2⟩ := tRefused (I := I) g
    refine ⟨_, g2, ?_, x.trans x2, .inr ⟨hl, e, rfl, rf⟩⟩
    have n0 : (20000 : Int) < ((pgB q).length : Int) := by omega
    refine Res.eq (f13.lim rfl (n := 3) ?_)
    unfold f13.e
    generalize ((pgB q).length : Int) = L at *
    clear hq ok len ow rf
    simp (disch := first | exact D.go | fail) [setR, List.getElem?_cons_zero, List.getElem?_cons_succ, f13.n0, f13.b0, f13.n1, f13.b1, c1, hlen, n0, c2]
  · refine ⟨_, g, ?_, x, .inl ⟨by omega, v, rfl, ow⟩⟩
    have n0 : ¬ (20000 : Int) < ((pgB q).length : Int) := by omega
    refine Res.eq (f13.lim rfl (n := 3) ?_)
    unfold f13.e
    generalize ((pgB q).length : Int) = L at *
    clear hq ok len ow
    simp (disch := first | exact D.go | fail) [setR, List.getElem?_cons_zero, List.getElem?_cons_succ, f13.n0, f13.b0, f13.n1, f13.b1, c1, hlen, n0]
end
end
end Go.Proofs.YtncjcnipagdmlaaDoor.Tx

set_option linter.unusedSimpArgs false
set_option linter.unusedVariables false
namespace Go.Proofs.YtncjcnipagdmlaaDoor.Tx
noncomputable section
open Go.AM Go.Proofs.YtncjcnipagdmlaaDoor.Sf
/-! what came in, and how much it holds -/
structure BulkOk {H : Type} (B : DataW H → Nat) : Prop where
  ptr : ∀ d, B d ≤ B (.ptr d)
  agg : ∀ ps d, d ∈ ps → B d ≤ B (.agg ps)
  len : ∀ es sp, es.length ≤ B (.slice es sp)
  elem : ∀ es sp d, d ∈ es → B d ≤ B (.slice es sp)
section
variable {α : Type} {H : Type} {enc : TypeId × Value → H} {P : Program} {W : World} {B : DataW H → Nat} {M : Nat}
def OpensM [Sig] (B : DataW H → Nat) (M : Nat) (enc : TypeId × Value → H) (P : Program) (W : World) (h0 : AHeap) (e : TypeId) (C : List AVal → α → Prop) : Prop :=
  ∀ n cs y, DataW.trod enc P W 0 (fun _ => true) true n e cs = some y → cs.length = P.cellsOf e → B y.1 ≤ M → ∃ al x, cs.map canon = al.map some ∧ C al x
theorem OpensM.of [Sig] {h0 : AHeap} {e : TypeId} {C : List AVal → α → Prop} (hC : Opens enc P W h0 e C) : OpensM B M enc P W h0 e C := fun n cs y h hc _ => hC n cs y h hc
theorem OpensM.at [Sig] {h0 : AHeap} {e : TypeId} {C : List AVal → α → Prop} (hC : OpensM B M enc P W h0 e C) {n b o : Nat} {cs : List Value} {y : DataW H × List MemPlace} (h : DataW.trod enc P W 0 (fun _ => true) true n e cs = some y) (hb : B y.1 ≤ M)
    (hl : Lies W b o cs) (hc : cs.length = P.cellsOf e) : ∃ x, At (inpOf W) h0 C (.inp (2 * b)) o x := by
  obtain ⟨al, x, ha, hx⟩ := hC n cs y h hc hb
  exact ⟨x, al, hx, hl.cells ha⟩
theorem mapM_mem {β γ : Type} {g : β → Option γ} : ∀ {l : List β} {r : List γ}, l.mapM g = some r → ∀ a ∈ l, ∃ y ∈ r, g a = some y
  | [], r, h, a, ha => by cases ha
  | b :: l, r, h, a, ha => by
    rw [List.mapM_cons] at h
    cases hb : g b with
    | none => simp [hb] at h
    | some y =>
      cases hl : l.mapM g with
      | none => simp [hb, hl] at h
      | some ys =>
        simp [hb, hl] at h
        subst h
        cases ha with
        | head => exact ⟨y, by simp, hb⟩
        | tail _ hm =>
          obtain ⟨z, hz, e⟩ := mapM_mem hl a hm
          exact ⟨z, by simp [hz], e⟩
theorem trod_fieldsM (hB : BulkOk B) {n : Nat} {t : TypeId} {l : List (TypeId × Nat)} {cs : List Value} {x : DataW H × List MemPlace} (ht : structOf P t = some l) (h : DataW.trod enc P W 0 (fun _ => true) true n t cs = some x) (hb : B x.1 ≤ M) :
    cs.length = P.cellsOf t ∧ ∃ m, ∀ p ∈ l, ∃ y, DataW.trod enc P W 0 (fun _ => true) true m p.1 ((cs.drop p.2).take (P.cellsOf p.1)) = some y ∧ B y.1 ≤ M := by
  unfold structOf at ht
  split at ht
  · rename_i fs hu
    cases ht
    cases n with
    | zero => cases h
    | succ n =>
      rw [DataW.trod_step] at h
      unfold DataW.trodStep at h
      rw [hu] at h
      split at h <;> try (rename_i e; cases e; done)
      case h_9 fs' he =>
        cases he
        split at h
        · rename_i hl
          refine ⟨hl, n, fun p hp => ?_⟩
          obtain ⟨f, hf, rfl⟩ := List.mem_map.1 hp
          rw [Option.map_eq_some_iff] at h
          obtain ⟨r, hr, rfl⟩ := h
          obtain ⟨y, hy, e⟩ := mapM_mem hr f hf
          exact ⟨y, e, Nat.le_trans (hB.agg _ _ (List.mem_map.2 ⟨y, hy, rfl⟩)) hb⟩
        · cases h
      case h_21 => exact absurd rfl (‹∀ fs' : Array Field, some (TypeDesc.struct fs) = some (TypeDesc.struct fs') → False› fs)
  · cases ht
theorem fieldM [Sig] {h0 : AHeap} {C : List AVal → α → Prop} {m : Nat} {cs : List Value} {e k sz : Nat} (hR : OpensM B M enc P W h0 e C) (hc : P.cellsOf e = sz) (hk : k + sz ≤ cs.length)
    (h : ∃ y, DataW.trod enc P W 0 (fun _ => true) true m e ((cs.drop k).take (P.cellsOf e)) = some y ∧ B y.1 ≤ M) : ∃ al x, ((cs.drop k).take sz).map canon = al.map some ∧ C al x := by
  obtain ⟨y, hy, hb⟩ := h
  rw [hc] at hy
  exact hR m _ y hy (by simp; omega) hb
theorem opensM_sl [Sig] {h0 : AHeap} {t e : TypeId} {C : List AVal → α → Prop} {S : α → Prop} {sz : Nat} (hB : BulkOk B) (ht : P.underlying t = some (.slice e)) (hsz : P.cellsOf e = sz) (hc : 0 < sz) (hR : OpensM B M enc P W h0 e fun cs x => C cs x ∧ S x) :
    OpensM B M enc P W h0 t fun cs xs => SlC sz (At (inpOf W) h0 C) cs xs ∧ (xs.length ≤ M ∧ ∀ x ∈ xs, S x) := by
  intro n cs y h _ hbk
  rcases Go.Deep.open_slice ht h with ⟨rfl, _⟩ | ⟨a, len, cap, m, n', D, Pl, rfl, _, hl, hmx, hm, rfl, hx⟩
  · exact ⟨_, [], rfl, ⟨_, rfl, SlOf.nil⟩, by simp, by simp⟩
  · rcases Nat.eq_zero_or_pos cap with hz | hz
    · subst hz
      obtain rfl : len = 0 := by omega
      refine ⟨[.sl (.inp 0) 0 0 (.known 0)], [], rfl, ⟨_, rfl, .inr ⟨.inp 0, 0, .known 0, rfl, fun m hm => ?_, ⟨by simp, fun _ => ⟨0, rfl⟩⟩, fun i x h => by simp at h⟩⟩, by simp, by simp⟩
      simp at hm; subst hm; rfl
    · have hmc : m = cap := by simpa using hm
      have cell : ∀ i, i < m → ∃ cs', DataW.trod enc P W 0 (fun _ => true) true n' e cs' = some (D i, Pl i) ∧ cs'.length = P.cellsOf e ∧ ∀ j, j < cs'.length → W.cell? ((a.add (i * P.cellsOf e)).add j) = cs'[j]? := by
        intro i hi
        obtain ⟨cs', h1, h2⟩ := hx i hi
        obtain ⟨_, hlen, hget⟩ := World.cells?_some h1
        exact ⟨cs', h2, hlen, fun j hj => by rw [hget j (by omega)]⟩
      have hsp : a.spot = none := by
        obtain ⟨cs', _, hlen, hg⟩ := cell 0 (by omega)
        have := hg 0 (by omega)
        rw [Nat.zero_mul, show (a.add 0).add 0 = a from rfl, List.getElem?_eq_getElem (by omega)] at this
        unfold World.cell? at this
        split at this
        · cases hs : a.spot with
          | none => rfl
          | some s => rw [hs] at this; cases this
        · cases this
      obtain ⟨b, o, sp⟩ := a
      simp only at hsp
      subst hsp
      obtain ⟨xs, hlx, hxs⟩ := choose_list (R := fun i x => At (inpOf W) h0 (fun cs x => C cs x ∧ S x) (.inp (2 * b)) (o + i * P.cellsOf e) x) len fun i hi => by
        obtain ⟨cs', h2, hlen, hg⟩ := cell i (by omega)
        refine hR.at h2 ?_ (fun j hj => ?_) hlen
        · refine Nat.le_trans (hB.elem _ _ _ ?_) hbk
          exact List.mem_map.2 ⟨i, List.mem_range.2 hi, rfl⟩
        · rw [← hg j hj, addr_add, addr_add]
      refine ⟨[.sl (.inp (2 * b)) o len (.known cap)], xs, by simp [canon_sl hl hz], ⟨_, rfl, .inr ⟨_, _, _, by rw [hlx], fun m hm => ?_, ?_, fun i x hi => ?_⟩⟩, ?_, fun x hx => ?_⟩
      · rw [hlx] at hm
        exact Nat.ble_eq_true_of_le (by omega)
      · exact ⟨by rw [hlx]; simp only [maxLen] at hmx; omega, fun _ => ⟨_, rfl⟩⟩
      · rw [← hsz]; exact At.mono (fun _ _ h => h.1) (hxs i x hi) (Ext.refl _)
      · have h1 := Nat.le_trans (hB.len _ _) hbk
        rw [List.length_map, List.length_range] at h1
        omega
      · obtain ⟨i, hi⟩ := List.getElem?_of_mem hx
        obtain ⟨_, h1, _⟩ := hxs i x hi
        exact h1.2
variable [Sig] {T : TyIds} {h0 : AHeap}
def insS (M : Nat) (i : Ins) : Prop := i.args.length ≤ M
def bkS (M : Nat) (b : Bk) : Prop := b.code.length ≤ M ∧ ∀ i ∈ b.code, insS M i
def fuS (M : Nat) (f : Fu) : Prop := f.blocks.length ≤ M ∧ ∀ b ∈ f.blocks, bkS M b
def pgS (M : Nat) (q : Pg) : Prop := q.funcs.length ≤ M ∧ ∀ f ∈ q.funcs, fuS M f
theorem opensM_is (hB : BulkOk B) (K : T.Ok P) : OpensM (α := List Int) B M enc P W h0 T.ints fun cs xs => SlC 1 (IntA (inpOf W) h0) cs xs ∧ (xs.length ≤ M ∧ ∀ x ∈ xs, True) := opensM_sl (S := fun _ => True) hB K.ints K.intC (by omega) (fun n cs y h hc _ => by
  obtain ⟨al, x, a, b⟩ := opens_i (h0 := h0) K n cs y h hc
  exact ⟨al, x, a, b, trivial⟩)
theorem opensM_ins (hB : BulkOk B) (K : T.Ok P) : OpensM (α := Ins) B M enc P W h0 T.ins fun cs x => InsC (inpOf W) h0 cs x ∧ insS M x := by
  intro n cs y h hc hbk
  rw [K.insC] at hc
  obtain ⟨_, m, hm⟩ := trod_fieldsM hB K.ins h hbk
  obtain ⟨a0, x0, e0, q0⟩ := fieldM (OpensM.of (opens_i (h0 := h0) K)) K.intC (k := 0) (by omega) (hm (T.int, 0) (by simp))
  obtain ⟨a1, x1, e1, q1⟩ := fieldM (OpensM.of (opens_i (h0 := h0) K)) K.intC (k := 1) (by omega) (hm (T.int, 1) (by simp))
  obtain ⟨a2, x2, e2, q2⟩ := fieldM (OpensM.of (opens_i (h0 := h0) K)) K.intC (k := 2) (by omega) (hm (T.int, 2) (by simp))
  obtain ⟨a3, x3, e3, q3⟩ := fieldM (OpensM.of (opens_i (h0 := h0) K)) K.intC (k := 3) (by omega) (hm (T.int, 3) (by simp))
  obtain ⟨a4, x4, e4, q4⟩ := fieldM (OpensM.of (opens_i (h0 := h0) K)) K.intC (k := 4) (by omega) (hm (T.int, 4) (by simp))
  obtain ⟨a5, x5, e5, q5⟩ := fieldM (opensM_is (M := M) (h0 := h0) hB K) K.intsC (k := 5) (by omega) (hm (T.ints, 5) (by simp))
  have ecs : cs = (cs.drop 0).take 1 ++ (cs.drop 1).take 1 ++ (cs.drop 2).take 1 ++ (cs.drop 3).take 1 ++ (cs.drop 4).take 1 ++ (cs.drop 5).take 1 := by
    match cs, hc with
    | [c0, c1, c2, c3, c4, c5], _ => rfl
  have em : cs.map canon = (a0 ++ a1 ++ a2 ++ a3 ++ a4 ++ a5).map some := by
    rw [ecs]
    simp only [List.map_append, e0, e1, e2, e3, e4, e5]
  obtain ⟨rfl, r0⟩ := q0
  obtain ⟨rfl, r1⟩ := q1
  obtain ⟨rfl, r2⟩ := q2
  obtain ⟨rfl, r3⟩ := q3
  obtain ⟨rfl, r4⟩ := q4
  obtain ⟨⟨v5, rfl, s5⟩, l5⟩ := q5
  exact ⟨_, ⟨x0, x1, x2, x3, x4, x5⟩, em, ⟨v5, rfl, s5, r0, r1, r2, r3, r4⟩, l5.1⟩
theorem opensM_inss (hB : BulkOk B) (K : T.Ok P) : OpensM (α := List Ins) B M enc P W h0 T.inss fun cs xs => SlC 6 (At (inpOf W) h0 (InsC (inpOf W) h0)) cs xs ∧ (xs.length ≤ M ∧ ∀ x ∈ xs, insS M x) := opensM_sl hB K.inss K.insC (by omega) (opensM_ins hB K)
theorem opensM_bk (hB : BulkOk B) (K : T.Ok P) : OpensM (α := Bk) B M enc P W h0 T.bk fun cs x => BkC (inpOf W) h0 cs x ∧ bkS M x := by
  intro n cs y h hc hbk
  rw [K.bkC] at hc
  obtain ⟨_, m, hm⟩ := trod_fieldsM hB K.bk h hbk
  obtain ⟨a0, x0, e0, q0⟩ := fieldM (opensM_inss (M := M) (h0 := h0) hB K) K.inssC (k := 0) (by omega) (hm (T.inss, 0) (by simp))
  obtain ⟨a1, x1, e1, q1⟩ := fieldM (OpensM.of (opens_i (h0 := h0) K)) K.intC (k := 1) (by omega) (hm (T.int, 1) (by simp))
  obtain ⟨a2, x2, e2, q2⟩ := fieldM (OpensM.of (opens_i (h0 := h0) K)) K.intC (k := 2) (by omega) (hm (T.int, 2) (by simp))
  obtain ⟨a3, x3, e3, q3⟩ := fieldM (OpensM.of (opens_i (h0 := h0) K)) K.intC (k := 3) (by omega) (hm (T.int, 3) (by simp))
  obtain ⟨a4, x4, e4, q4⟩ := fieldM (OpensM.of (opens_i (h0 := h0) K)) K.intC (k := 4) (by omega) (hm (T.int, 4) (by simp))
  have ecs : cs = (cs.drop 0).take 1 ++ (cs.drop 1).take 1 ++ (cs.drop 2).take 1 ++ (cs.drop 3).take 1 ++ (cs.drop 4).take 1 := by
    match cs, hc with
    | [c0, c1, c2, c3, c4], _ => rfl
  have em : cs.map canon = (a0 ++ a1 ++ a2 ++ a3 ++ a4).map some := by
    rw [ecs]
    simp only [List.map_append, e0, e1, e2, e3, e4]
  obtain ⟨⟨v0, rfl, s0⟩, l0⟩ := q0
  obtain ⟨rfl, r1⟩ := q1
  obtain ⟨rfl, r2⟩ := q2
  obtain ⟨rfl, r3⟩ := q3
  obtain ⟨rfl, r4⟩ := q4
  exact ⟨_, ⟨x0, x1, x2, x3, x4⟩, em, ⟨v0, rfl, s0, r1, r2, r3, r4⟩, l0⟩
theorem opensM_bks (hB : BulkOk B) (K : T.Ok P) : OpensM (α := List Bk) B M enc P W h0 T.bks fun cs xs => SlC 5 (At (inpOf W) h0 (BkC (inpOf W) h0)) cs xs ∧ (xs.length ≤ M ∧ ∀ x ∈ xs, bkS M x) := opensM_sl hB K.bks K.bkC (by omega) (opensM_bk hB K)
theorem opensM_fu (hB : BulkOk B) (K : T.Ok P) : OpensM (α := Fu) B M enc P W h0 T.fu fun cs x => FuC (inpOf W) h0 cs x ∧ fuS M x := by
  intro n cs y h hc hbk
  rw [K.fuC] at hc
  obtain ⟨_, m, hm⟩ := trod_fieldsM hB K.fu h hbk
  obtain ⟨a0, x0, e0, q0⟩ := fieldM (OpensM.of (opens_i (h0 := h0) K)) K.intC (k := 0) (by omega) (hm (T.int, 0) (by simp))
  obtain ⟨a1, x1, e1, q1⟩ := fieldM (OpensM.of (opens_tys (h0 := h0) K)) K.tysC (k := 1) (by omega) (hm (T.tys, 1) (by simp))
  obtain ⟨a2, x2, e2, q2⟩ := fieldM (opensM_bks (M := M) (h0 := h0) hB K) K.bksC (k := 2) (by omega) (hm (T.bks, 2) (by simp))
  have ecs : cs = (cs.drop 0).take 1 ++ (cs.drop 1).take 1 ++ (cs.drop 2).take 1 := by
    match cs, hc with
    | [c0, c1, c2], _ => rfl
  have em : cs.map canon = (a0 ++ a1 ++ a2).map some := by
    rw [ecs]
    simp only [List.map_append, e0, e1, e2]
  obtain ⟨rfl, r0⟩ := q0
  obtain ⟨v1, rfl, s1⟩ := q1
  obtain ⟨⟨v2, rfl, s2⟩, l2⟩ := q2
  exact ⟨_, ⟨x0, x1, x2⟩, em, ⟨v1, v2, rfl, r0, s1, s2⟩, l2⟩
theorem opensM_fus (hB : BulkOk B) (K : T.Ok P) : OpensM (α := List Fu) B M enc P W h0 T.fus fun cs xs => SlC 3 (At (inpOf W) h0 (FuC (inpOf W) h0)) cs xs ∧ (xs.length ≤ M ∧ ∀ x ∈ xs, fuS M x) := opensM_sl hB K.fus K.fuC (by omega) (opensM_fu hB K)
theorem opensM_pg (hB : BulkOk B) (K : T.Ok P) : OpensM (α := Pg) B M enc P W h0 T.pg fun cs x => PgC (inpOf W) h0 cs x ∧ pgS M x := by
  intro n cs y h hc hbk
  rw [K.pgC] at hc
  obtain ⟨_, m, hm⟩ := trod_fieldsM hB K.pg h hbk
  obtain ⟨a0, x0, e0, q0⟩ := fieldM (OpensM.of (opens_recs (h0 := h0) K)) K.recsC (k := 0) (by omega) (hm (T.recs, 0) (by simp))
  obtain ⟨a1, x1, e1, q1⟩ := fieldM (OpensM.of (opens_sgs (h0 := h0) K)) K.sgsC (k := 1) (by omega) (hm (T.sgs, 1) (by simp))
  obtain ⟨a2, x2, e2, q2⟩ := fieldM (OpensM.of (opens_faces (h0 := h0) K)) K.facesC (k := 2) (by omega) (hm (T.faces, 2) (by simp))
  obtain ⟨a3, x3, e3, q3⟩ := fieldM (OpensM.of (opens_ims (h0 := h0) K)) K.imsC (k := 3) (by omega) (hm (T.ims, 3) (by simp))
  obtain ⟨a4, x4, e4, q4⟩ := fieldM (opensM_fus (M := M) (h0 := h0) hB K) K.fusC (k := 4) (by omega) (hm (T.fus, 4) (by simp))
  obtain ⟨a5, x5, e5, q5⟩ := fieldM (OpensM.of (opens_i (h0 := h0) K)) K.intC (k := 5) (by omega) (hm (T.int, 5) (by simp))
  have ecs : cs = (cs.drop 0).take 1 ++ (cs.drop 1).take 1 ++ (cs.drop 2).take 1 ++ (cs.drop 3).take 1 ++ (cs.drop 4).take 1 ++ (cs.drop 5).take 1 := by
    match cs, hc with
    | [c0, c1, c2, c3, c4, c5], _ => rfl
  have em : cs.map canon = (a0 ++ a1 ++ a2 ++ a3 ++ a4 ++ a5).map some := by
    rw [ecs]
    simp only [List.map_append, e0, e1, e2, e3, e4, e5]
  obtain ⟨v0, rfl, s0⟩ := q0
  obtain ⟨v1, rfl, s1⟩ := q1
  obtain ⟨v2, rfl, s2⟩ := q2
  obtain ⟨v3, rfl, s3⟩ := q3
  obtain ⟨⟨v4, rfl, s4⟩, l4⟩ := q4
  obtain ⟨rfl, r5⟩ := q5
  exact ⟨_, ⟨x0, x1, x2, x3, x4, x5⟩, em, ⟨v0, v1, v2, v3, v4, rfl, r5, s0, s1, s2, s3, s4⟩, l4⟩
theorem openM_pg (hB : BulkOk B) (K : T.Ok P) {r : Reach} {b0 t : Nat} {v : Value} {d : DataW H} {p : List MemPlace} (ht : P.underlying t = some (.pointer T.pg)) (ho : Value.okWide P W r b0 t v) (h : DataW.Trod enc P W 0 (fun _ => true) true t v d p) (hbk : B d ≤ M) :
    v = .pointer none ∨ ∃ b o q, v = .pointer (some ⟨b, o, none⟩) ∧ PgA (inpOf W) h0 (.inp (2 * b)) o q ∧ pgS M q := by
  obtain ⟨a, rfl⟩ := Go.WideShapes.okWide_pointer ht ho
  cases a with
  | none => exact .inl rfl
  | some a =>
    right
    obtain ⟨n, hn⟩ := h
    cases n with
    | zero => cases hn
    | succ n =>
      rw [DataW.trod_step] at hn
      unfold DataW.trodStep at hn
      simp only [Value.cells, ht] at hn
      rw [Option.map_eq_some_iff] at hn
      obtain ⟨y, hy, hyd⟩ := hn
      rw [Option.bind_eq_some_iff] at hy
      obtain ⟨cs, hcs, hy⟩ := hy
      obtain ⟨_, hlen, hg⟩ := World.cells?_some hcs
      rw [K.pgC] at hlen hg
      have hsp : a.spot = none := by
        have := hg 0 (by omega)
        rw [show a.add 0 = a from rfl, List.getElem?_eq_getElem (by omega)] at this
        unfold World.cell? at this
        split at this
        · cases hs : a.spot with
          | none => rfl
          | some s => rw [hs] at this; cases this
        · cases this
      obtain ⟨b, o, sp⟩ := a
      simp only at hsp
      subst hsp
      cases hyd
      obtain ⟨q, cs, hq, hc⟩ := (opensM_pg (h0 := h0) hB K).at (b := b) (o := o) hy (Nat.le_trans (hB.ptr _) hbk) (fun i hi => by rw [← hg i (by omega), addr_add]) (by rw [hlen, K.pgC])
      exact ⟨b, o, q, rfl, ⟨cs, hq.1, hc⟩, hq.2⟩
end
end
end Go.Proofs.YtncjcnipagdmlaaDoor.Tx

set_option linter.unusedSimpArgs false
set_option linter.unusedVariables false
namespace Go.Proofs.YtncjcnipagdmlaaDoor.Tx
noncomputable section
open Go.AM Go.Proofs.YtncjcnipagdmlaaDoor.Sf
/-! what came in, and how many bytes it is -/
structure BulkW {H : Type} (B : DataW H → Nat) : Prop where
  one : ∀ d, 1 ≤ B d
  ptr : ∀ d, B d ≤ B (.ptr d)
  agg : ∀ ps, (ps.map B).sum ≤ B (.agg ps)
  slice : ∀ es sp, (es.map B).sum + 1 ≤ B (.slice es sp)
section
variable {α : Type} {H : Type} {enc : TypeId × Value → H} {P : Program} {W : World} {B : DataW H → Nat}
def OpensW [Sig] (B : DataW H → Nat) (enc : TypeId × Value → H) (P : Program) (W : World) (h0 : AHeap) (e : TypeId) (C : List AVal → α → Prop) (en : α → List Nat) (ok : α → Prop) : Prop :=
  ∀ n cs y, DataW.trod enc P W 0 (fun _ => true) true n e cs = some y → cs.length = P.cellsOf e → ∃ al x, cs.map canon = al.map some ∧ C al x ∧ (en x).length ≤ 10 * B y.1 ∧ (B y.1 ≤ 1048576 → ok x)
theorem mapM_idx {β γ : Type} {g : β → Option γ} : ∀ {l : List β} {r : List γ}, l.mapM g = some r → r.length = l.length ∧ ∀ (i : Nat) (a : β) (y : γ), l[i]? = some a → r[i]? = some y → g a = some y
  | [], r, h => by
    simp at h; subst h
    exact ⟨rfl, fun i a y h => by simp at h⟩
  | b :: l, r, h => by
    rw [List.mapM_cons] at h
    cases hb : g b with
    | none => simp [hb] at h
    | some y =>
      cases hl : l.mapM g with
      | none => simp [hb, hl] at h
      | some ys =>
        simp [hb, hl] at h
        subst h
        obtain ⟨i1, i2⟩ := mapM_idx hl
        refine ⟨by simp [i1], fun i a z ha hz => ?_⟩
        cases i with
        | zero => simp at ha hz; subst ha hz; exact hb
        | succ i => simp at ha hz; exact i2 i a z ha hz
theorem trod_fieldsW (hB : BulkW B) {n : Nat} {t : TypeId} {l : List (TypeId × Nat)} {cs : List Value} {x : DataW H × List MemPlace} (ht : structOf P t = some l) (h : DataW.trod enc P W 0 (fun _ => true) true n t cs = some x) :
    ∃ (m : Nat) (ys : List (DataW H × List MemPlace)), ys.length = l.length ∧ (∀ (i : Nat) (p : TypeId × Nat) (y : DataW H × List MemPlace), l[i]? = some p → ys[i]? = some y → DataW.trod enc P W 0 (fun _ => true) true m p.1 ((cs.drop p.2).take (P.cellsOf p.1)) = some y) ∧ (ys.map fun y => B y.1).sum ≤ B x.1 := by
  unfold structOf at ht
  split at ht
  · rename_i fs hu
    cases ht
    cases n with
    | zero => cases h
    | succ n =>
      rw [DataW.trod_step] at h
      unfold DataW.trodStep at h
      rw [hu] at h
      split at h <;> try (rename_i e; cases e; done)
      case h_9 fs' he =>
        cases he
        split at h
        · rename_i hl
          rw [Option.map_eq_some_iff] at h
          obtain ⟨r, hr, rfl⟩ := h
          obtain ⟨i1, i2⟩ := mapM_idx hr
          refine ⟨n, r, by simp [i1], fun i p y hp hy => ?_, ?_⟩
          · rw [List.getElem?_map, Option.map_eq_some_iff] at hp
            obtain ⟨f, hf, rfl⟩ := hp
            exact i2 i f y hf hy
          · have := hB.agg (r.map Prod.fst)
            rw [List.map_map] at this
            exact this
        · cases h
      case h_21 => exact absurd rfl (‹∀ fs' : Array Field, some (TypeDesc.struct fs) = some (TypeDesc.struct fs') → False› fs)
  · cases ht
theorem fieldW [Sig] {h0 : AHeap} {C : List AVal → α → Prop} {en : α → List Nat} {ok : α → Prop} {m : Nat} {cs : List Value} {e k sz : Nat} {y : DataW H × List MemPlace} (hR : OpensW B enc P W h0 e C en ok) (hc : P.cellsOf e = sz) (hk : k + sz ≤ cs.length)
    (hy : DataW.trod enc P W 0 (fun _ => true) true m e ((cs.drop k).take (P.cellsOf e)) = some y) : ∃ al x, ((cs.drop k).take sz).map canon = al.map some ∧ C al x ∧ (en x).length ≤ 10 * B y.1 ∧ (B y.1 ≤ 1048576 → ok x) := by
  rw [hc] at hy
  exact hR m _ y hy (by simp; omega)
theorem sum_flat {en : α → List Nat} : ∀ (xs : List α) (f : Nat → Nat), (∀ i x, xs[i]? = some x → (en x).length ≤ 10 * f i) → (xs.flatMap en).length ≤ 10 * ((List.range xs.length).map f).sum
  | [], f, _ => by simp
  | x :: xs, f, h => by
    have h1 := h 0 x rfl
    have h2 := sum_flat xs (fun i => f (i + 1)) fun i y hy => h (i + 1) y (by simpa using hy)
    rw [List.length_cons, List.range_succ_eq_map, List.map_cons, List.sum_cons, List.map_map, List.flatMap_cons, List.length_append]
    have : (f ∘ Nat.succ) = fun i => f (i + 1) := rfl
    rw [this]; omega
theorem opensW_sl [Sig] {h0 : AHeap} {t e : TypeId} {C : List AVal → α → Prop} {en : α → List Nat} {ok : α → Prop} {sz : Nat} (hB : BulkW B) (ht : P.underlying t = some (.slice e)) (hsz : P.cellsOf e = sz) (hc : 0 < sz) (hR : OpensW B enc P W h0 e C en ok) :
    OpensW B enc P W h0 t (SlC sz (At (inpOf W) h0 C)) (listB en) (AllOk ok) := by
  intro n cs y h _
  have e0 : (listB en ([] : List α)).length = 1 := by show (numB 0 ++ []).length = 1; rw [List.append_nil, numB0]; rfl
  have ek : AllOk ok ([] : List α) := ⟨by simp, fun x hx => by (simp at hx)⟩
  rcases Go.Deep.open_slice ht h with ⟨rfl, _⟩ | ⟨a, len, cap, m, n', D, Pl, rfl, _, hl, hmx, hm, rfl, hx⟩
  · exact ⟨_, [], rfl, ⟨_, rfl, SlOf.nil⟩, by rw [e0]; have := hB.one y.1; omega, fun _ => ek⟩
  · rcases Nat.eq_zero_or_pos cap with hz | hz
    · subst hz
      obtain rfl : len = 0 := by omega
      refine ⟨[.sl (.inp 0) 0 0 (.known 0)], [], rfl, ⟨_, rfl, .inr ⟨.inp 0, 0, .known 0, rfl, fun m hm => ?_, ⟨by simp, fun _ => ⟨0, rfl⟩⟩, fun i x h => by simp at h⟩⟩, by rw [e0]; exact Nat.le_trans (hB.one _) (Nat.le_mul_of_pos_left _ (by omega)), fun _ => ek⟩
      simp at hm; subst hm; rfl
    · have hmc : m = cap := by simpa using hm
      have cell : ∀ i, i < m → ∃ cs', DataW.trod enc P W 0 (fun _ => true) true n' e cs' = some (D i, Pl i) ∧ cs'.length = P.cellsOf e ∧ ∀ j, j < cs'.length → W.cell? ((a.add (i * P.cellsOf e)).add j) = cs'[j]? := by
        intro i hi
        obtain ⟨cs', h1, h2⟩ := hx i hi
        obtain ⟨_, hlen, hget⟩ := World.cells?_some h1
        exact ⟨cs', h2, hlen, fun j hj => by rw [hget j (by omega)]⟩
      have hsp : a.spot = none := by
        obtain ⟨cs', _, hlen, hg⟩ := cell 0 (by omega)
        have := hg 0 (by omega)
        rw [Nat.zero_mul, show (a.add 0).add 0 = a from rfl, List.getElem?_eq_getElem (by omega)] at this
        unfold World.cell? at this
        split at this
        · cases hs : a.spot with
          | none => rfl
          | some s => rw [hs] at this; cases this
        · cases this
      obtain ⟨b, o, sp⟩ := a
      simp only at hsp
      subst hsp
      obtain ⟨xs, hlx, hxs⟩ := choose_list (R := fun i x => At (inpOf W) h0 C (.inp (2 * b)) (o + i * P.cellsOf e) x ∧ (en x).length ≤ 10 * B (D i) ∧ (B (D i) ≤ 1048576 → ok x)) len fun i hi => by
        obtain ⟨cs', h2, hlen, hg⟩ := cell i (by omega)
        obtain ⟨al, x, ha, hx, hw, ho⟩ := hR _ _ _ h2 hlen
        have hli : Lies W b (o + i * P.cellsOf e) cs' := fun j hj => by rw [← hg j hj, addr_add, addr_add]
        exact ⟨x, ⟨al, hx, hli.cells ha⟩, hw, ho⟩
      have hsl := hB.slice ((List.range len).map D)
      have hsum := sum_flat xs (fun i => B (D i)) fun i x hi => (hxs i x hi).2.1
      rw [List.map_map] at hsl
      have hfun : (B ∘ D) = fun i => B (D i) := rfl
      rw [hfun] at hsl
      rw [hlx] at hsum
      have hle : len ≤ ((List.range len).map fun i => B (D i)).sum := by
        have : ∀ l : List Nat, l.length ≤ (l.map fun i => B (D i)).sum := by
          intro l
          induction l with
          | nil => simp
          | cons a r ih => have := hB.one (D a); simp only [List.length_cons, List.map_cons, List.sum_cons]; omega
        simpa using this (List.range len)
      have hpart : ∀ i, i < len → B (D i) ≤ ((List.range len).map fun i => B (D i)).sum := by
        have : ∀ l : List Nat, ∀ i ∈ l, B (D i) ≤ (l.map fun i => B (D i)).sum := by
          intro l
          induction l with
          | nil => intro i hi; cases hi
          | cons a r ih =>
            intro i hi
            simp only [List.map_cons, List.sum_cons]
            rcases List.mem_cons.1 hi with rfl | hi
            · omega
            · have := ih i hi; omega
        exact fun i hi => this _ i (List.mem_range.2 hi)
      refine ⟨[.sl (.inp (2 * b)) o len (.known cap)], xs, by simp [canon_sl hl hz], ⟨_, rfl, .inr ⟨_, _, _, by rw [hlx], fun m hm => ?_, ?_, fun i x hi => ?_⟩⟩, ?_, fun hk => ⟨?_, fun x hx => ?_⟩⟩
      · rw [hlx] at hm
        exact Nat.ble_eq_true_of_le (by omega)
      · exact ⟨by rw [hlx]; simp only [maxLen] at hmx; omega, fun _ => ⟨_, rfl⟩⟩
      · rw [← hsz]; exact (hxs i x hi).1
      · have hn := numB_len (n := (xs.length : Int)) ⟨by omega, by rw [hlx]; simp only [maxLen] at hmx; omega⟩
        unfold listB
        rw [List.length_append]
        refine Nat.le_trans ?_ (Nat.mul_le_mul_left 10 (hsl _))
        omega
      · have := Nat.le_trans (hsl _) hk; omega
      · obtain ⟨i, hi⟩ := List.getElem?_of_mem hx
        refine (hxs i x hi).2.2 ?_
        have := hpart i (by rw [← hlx]; exact (List.getElem?_eq_some_iff.1 hi).1)
        have := Nat.le_trans (hsl _) hk; omega
variable [Sig] {T : TyIds} {h0 : AHeap}
theorem opensW_i (hB : BulkW B) (K : T.Ok P) : OpensW (α := Int) B enc P W h0 T.int IntC numB InR := by
  intro n cs y h hc
  obtain ⟨al, x, a, b⟩ := opens_i (h0 := h0) K n cs y h hc
  exact ⟨al, x, a, b, by have := numB_len b.2; have := hB.one y.1; omega, fun _ => b.2⟩
theorem opensW_is (hB : BulkW B) (K : T.Ok P) : OpensW (α := List Int) B enc P W h0 T.ints (SlC 1 (IntA (inpOf W) h0)) numsB (AllOk InR) := opensW_sl hB K.ints K.intC (by omega) (opensW_i hB K)
theorem opensW_ty (hB : BulkW B) (K : T.Ok P) : OpensW (α := Ty) B enc P W h0 T.ty (TyC) tyB TyR := by
  intro n cs y h hc
  rw [K.tyC] at hc
  obtain ⟨m, ys, hl, hm, hs⟩ := trod_fieldsW hB K.ty h
  obtain ⟨y0, y1, rfl⟩ : ∃ y0 y1, ys = [y0, y1] := by
    match ys, hl with
    | [y0, y1], _ => exact ⟨y0, y1, rfl⟩
  simp only [List.map_cons, List.map_nil, List.sum_cons, List.sum_nil] at hs
  obtain ⟨a0, x0, e0, q0, w0, o0⟩ := fieldW (opensW_i (h0 := h0) hB K) K.intC (k := 0) (by omega) (hm 0 (T.int, 0) y0 rfl rfl)
  obtain ⟨a1, x1, e1, q1, w1, o1⟩ := fieldW (opensW_i (h0 := h0) hB K) K.intC (k := 1) (by omega) (hm 1 (T.int, 1) y1 rfl rfl)
  have ecs : cs = (cs.drop 0).take 1 ++ (cs.drop 1).take 1 := by
    match cs, hc with
    | [c0, c1], _ => rfl
  have em : cs.map canon = (a0 ++ a1).map some := by
    rw [ecs]
    simp only [List.map_append, e0, e1]
  obtain ⟨rfl, r0⟩ := q0
  obtain ⟨rfl, r1⟩ := q1
  refine ⟨_, ⟨x0, x1⟩, em, ⟨rfl, r0, r1⟩, ?_, fun hk => ⟨r0, r1⟩⟩
  · unfold tyB; simp only [List.length_append] at *; omega
theorem opensW_tys (hB : BulkW B) (K : T.Ok P) : OpensW (α := List Ty) B enc P W h0 T.tys (SlC 2 (At (inpOf W) h0 TyC)) typesB (AllOk TyR) := opensW_sl hB K.tys K.tyC (by omega) (opensW_ty hB K)
theorem opensW_recs (hB : BulkW B) (K : T.Ok P) : OpensW (α := List (List Ty)) B enc P W h0 T.recs (SlC 1 (At (inpOf W) h0 (SlC 2 (At (inpOf W) h0 TyC)))) (listB typesB) (AllOk (AllOk TyR)) := opensW_sl hB K.recs K.tysC (by omega) (opensW_tys hB K)
theorem opensW_ins (hB : BulkW B) (K : T.Ok P) : OpensW (α := Ins) B enc P W h0 T.ins (InsC (inpOf W) h0) insB InsR := by
  intro n cs y h hc
  rw [K.insC] at hc
  obtain ⟨m, ys, hl, hm, hs⟩ := trod_fieldsW hB K.ins h
  obtain ⟨y0, y1, y2, y3, y4, y5, rfl⟩ : ∃ y0 y1 y2 y3 y4 y5, ys = [y0, y1, y2, y3, y4, y5] := by
    match ys, hl with
    | [y0, y1, y2, y3, y4, y5], _ => exact ⟨y0, y1, y2, y3, y4, y5, rfl⟩
  simp only [List.map_cons, List.map_nil, List.sum_cons, List.sum_nil] at hs
  obtain ⟨a0, x0, e0, q0, w0, o0⟩ := fieldW (opensW_i (h0 := h0) hB K) K.intC (k := 0) (by omega) (hm 0 (T.int, 0) y0 rfl rfl)
  obtain ⟨a1, x1, e1, q1, w1, o1⟩ := fieldW (opensW_i (h0 := h0) hB K) K.intC (k := 1) (by omega) (hm 1 (T.int, 1) y1 rfl rfl)
  obtain ⟨a2, x2, e2, q2, w2, o2⟩ := fieldW (opensW_i (h0 := h0) hB K) K.intC (k := 2) (by omega) (hm 2 (T.int, 2) y2 rfl rfl)
  obtain ⟨a3, x3, e3, q3, w3, o3⟩ := fieldW (opensW_i (h0 := h0) hB K) K.intC (k := 3) (by omega) (hm 3 (T.int, 3) y3 rfl rfl)
  obtain ⟨a4, x4, e4, q4, w4, o4⟩ := fieldW (opensW_i (h0 := h0) hB K) K.intC (k := 4) (by omega) (hm 4 (T.int, 4) y4 rfl rfl)
  obtain ⟨a5, x5, e5, q5, w5, o5⟩ := fieldW (opensW_is (h0 := h0) hB K) K.intsC (k := 5) (by omega) (hm 5 (T.ints, 5) y5 rfl rfl)
  have ecs : cs = (cs.drop 0).take 1 ++ (cs.drop 1).take 1 ++ (cs.drop 2).take 1 ++ (cs.drop 3).take 1 ++ (cs.drop 4).take 1 ++ (cs.drop 5).take 1 := by
    match cs, hc with
    | [c0, c1, c2, c3, c4, c5], _ => rfl
  have em : cs.map canon = (a0 ++ a1 ++ a2 ++ a3 ++ a4 ++ a5).map some := by
    rw [ecs]
    simp only [List.map_append, e0, e1, e2, e3, e4, e5]
  obtain ⟨rfl, r0⟩ := q0
  obtain ⟨rfl, r1⟩ := q1
  obtain ⟨rfl, r2⟩ := q2
  obtain ⟨rfl, r3⟩ := q3
  obtain ⟨rfl, r4⟩ := q4
  obtain ⟨v5, rfl, s5⟩ := q5
  refine ⟨_, ⟨x0, x1, x2, x3, x4, x5⟩, em, ⟨v5, rfl, s5, r0, r1, r2, r3, r4⟩, ?_, fun hk => ⟨r0, r1, r2, r3, r4, o5 (by omega)⟩⟩
  · unfold insB; simp only [List.length_append] at *; omega
theorem opensW_inss (hB : BulkW B) (K : T.Ok P) : OpensW (α := List Ins) B enc P W h0 T.inss (SlC 6 (At (inpOf W) h0 (InsC (inpOf W) h0))) (listB insB) (AllOk InsR) := opensW_sl hB K.inss K.insC (by omega) (opensW_ins hB K)
theorem opensW_bk (hB : BulkW B) (K : T.Ok P) : OpensW (α := Bk) B enc P W h0 T.bk (BkC (inpOf W) h0) blkB BkR := by
  intro n cs y h hc
  rw [K.bkC] at hc
  obtain ⟨m, ys, hl, hm, hs⟩ := trod_fieldsW hB K.bk h
  obtain ⟨y0, y1, y2, y3, y4, rfl⟩ : ∃ y0 y1 y2 y3 y4, ys = [y0, y1, y2, y3, y4] := by
    match ys, hl with
    | [y0, y1, y2, y3, y4], _ => exact ⟨y0, y1, y2, y3, y4, rfl⟩
  simp only [List.map_cons, List.map_nil, List.sum_cons, List.sum_nil] at hs
  obtain ⟨a0, x0, e0, q0, w0, o0⟩ := fieldW (opensW_inss (h0 := h0) hB K) K.inssC (k := 0) (by omega) (hm 0 (T.inss, 0) y0 rfl rfl)
  obtain ⟨a1, x1, e1, q1, w1, o1⟩ := fieldW (opensW_i (h0 := h0) hB K) K.intC (k := 1) (by omega) (hm 1 (T.int, 1) y1 rfl rfl)
  obtain ⟨a2, x2, e2, q2, w2, o2⟩ := fieldW (opensW_i (h0 := h0) hB K) K.intC (k := 2) (by omega) (hm 2 (T.int, 2) y2 rfl rfl)
  obtain ⟨a3, x3, e3, q3, w3, o3⟩ := fieldW (opensW_i (h0 := h0) hB K) K.intC (k := 3) (by omega) (hm 3 (T.int, 3) y3 rfl rfl)
  obtain ⟨a4, x4, e4, q4, w4, o4⟩ := fieldW (opensW_i (h0 := h0) hB K) K.intC (k := 4) (by omega) (hm 4 (T.int, 4) y4 rfl rfl)
  have ecs : cs = (cs.drop 0).take 1 ++ (cs.drop 1).take 1 ++ (cs.drop 2).take 1 ++ (cs.drop 3).take 1 ++ (cs.drop 4).take 1 := by
    match cs, hc with
    | [c0, c1, c2, c3, c4], _ => rfl
  have em : cs.map canon = (a0 ++ a1 ++ a2 ++ a3 ++ a4).map some := by
    rw [ecs]
    simp only [List.map_append, e0, e1, e2, e3, e4]
  obtain ⟨v0, rfl, s0⟩ := q0
  obtain ⟨rfl, r1⟩ := q1
  obtain ⟨rfl, r2⟩ := q2
  obtain ⟨rfl, r3⟩ := q3
  obtain ⟨rfl, r4⟩ := q4
  refine ⟨_, ⟨x0, x1, x2, x3, x4⟩, em, ⟨v0, rfl, s0, r1, r2, r3, r4⟩, ?_, fun hk => ⟨o0 (by omega), r1, r2, r3, r4⟩⟩
  · unfold blkB; unfold listB at w0; simp only [List.length_append] at *; omega
theorem opensW_bks (hB : BulkW B) (K : T.Ok P) : OpensW (α := List Bk) B enc P W h0 T.bks (SlC 5 (At (inpOf W) h0 (BkC (inpOf W) h0))) (listB blkB) (AllOk BkR) := opensW_sl hB K.bks K.bkC (by omega) (opensW_bk hB K)
theorem opensW_fu (hB : BulkW B) (K : T.Ok P) : OpensW (α := Fu) B enc P W h0 T.fu (FuC (inpOf W) h0) fuB FuR := by
  intro n cs y h hc
  rw [K.fuC] at hc
  obtain ⟨m, ys, hl, hm, hs⟩ := trod_fieldsW hB K.fu h
  obtain ⟨y0, y1, y2, rfl⟩ : ∃ y0 y1 y2, ys = [y0, y1, y2] := by
    match ys, hl with
    | [y0, y1, y2], _ => exact ⟨y0, y1, y2, rfl⟩
  simp only [List.map_cons, List.map_nil, List.sum_cons, List.sum_nil] at hs
  obtain ⟨a0, x0, e0, q0, w0, o0⟩ := fieldW (opensW_i (h0 := h0) hB K) K.intC (k := 0) (by omega) (hm 0 (T.int, 0) y0 rfl rfl)
  obtain ⟨a1, x1, e1, q1, w1, o1⟩ := fieldW (opensW_tys (h0 := h0) hB K) K.tysC (k := 1) (by omega) (hm 1 (T.tys, 1) y1 rfl rfl)
  obtain ⟨a2, x2, e2, q2, w2, o2⟩ := fieldW (opensW_bks (h0 := h0) hB K) K.bksC (k := 2) (by omega) (hm 2 (T.bks, 2) y2 rfl rfl)
  have ecs : cs = (cs.drop 0).take 1 ++ (cs.drop 1).take 1 ++ (cs.drop 2).take 1 := by
    match cs, hc with
    | [c0, c1, c2], _ => rfl
  have em : cs.map canon = (a0 ++ a1 ++ a2).map some := by
    rw [ecs]
    simp only [List.map_append, e0, e1, e2]
  obtain ⟨rfl, r0⟩ := q0
  obtain ⟨v1, rfl, s1⟩ := q1
  obtain ⟨v2, rfl, s2⟩ := q2
  refine ⟨_, ⟨x0, x1, x2⟩, em, ⟨v1, v2, rfl, r0, s1, s2⟩, ?_, fun hk => ⟨r0, o1 (by omega), o2 (by omega)⟩⟩
  · unfold fuB; unfold listB at w2; simp only [List.length_append] at *; omega
theorem opensW_fus (hB : BulkW B) (K : T.Ok P) : OpensW (α := List Fu) B enc P W h0 T.fus (SlC 3 (At (inpOf W) h0 (FuC (inpOf W) h0))) (listB fuB) (AllOk FuR) := opensW_sl hB K.fus K.fuC (by omega) (opensW_fu hB K)
theorem opensW_sg (hB : BulkW B) (K : T.Ok P) : OpensW (α := Sg) B enc P W h0 T.sg (SgC (inpOf W) h0) sgB SgR := by
  intro n cs y h hc
  rw [K.sgC] at hc
  obtain ⟨m, ys, hl, hm, hs⟩ := trod_fieldsW hB K.sg h
  obtain ⟨y0, y1, rfl⟩ : ∃ y0 y1, ys = [y0, y1] := by
    match ys, hl with
    | [y0, y1], _ => exact ⟨y0, y1, rfl⟩
  simp only [List.map_cons, List.map_nil, List.sum_cons, List.sum_nil] at hs
  obtain ⟨a0, x0, e0, q0, w0, o0⟩ := fieldW (opensW_tys (h0 := h0) hB K) K.tysC (k := 0) (by omega) (hm 0 (T.tys, 0) y0 rfl rfl)
  obtain ⟨a1, x1, e1, q1, w1, o1⟩ := fieldW (opensW_ty (h0 := h0) hB K) K.tyC (k := 1) (by omega) (hm 1 (T.ty, 1) y1 rfl rfl)
  have ecs : cs = (cs.drop 0).take 1 ++ (cs.drop 1).take 2 := by
    match cs, hc with
    | [c0, c1, c2], _ => rfl
  have em : cs.map canon = (a0 ++ a1).map some := by
    rw [ecs]
    simp only [List.map_append, e0, e1]
  obtain ⟨v0, rfl, s0⟩ := q0
  obtain ⟨rfl, r1, r2⟩ := q1
  refine ⟨_, ⟨x0, x1⟩, em, ⟨v0, rfl, s0, r1, r2⟩, ?_, fun hk => ⟨o0 (by omega), r1, r2⟩⟩
  · unfold sgB; unfold tyB at w1; simp only [List.length_append] at *; omega
theorem opensW_sgs (hB : BulkW B) (K : T.Ok P) : OpensW (α := List Sg) B enc P W h0 T.sgs (SlC 3 (At (inpOf W) h0 (SgC (inpOf W) h0))) (listB sgB) (AllOk SgR) := opensW_sl hB K.sgs K.sgC (by omega) (opensW_sg hB K)
theorem opensW_face (hB : BulkW B) (K : T.Ok P) : OpensW (α := (List Int)) B enc P W h0 T.face (SlC 1 (IntA (inpOf W) h0)) numsB (AllOk InR) := by
  intro n cs y h hc
  rw [K.faceC] at hc
  obtain ⟨m, ys, hl, hm, hs⟩ := trod_fieldsW hB K.face h
  obtain ⟨y0, rfl⟩ : ∃ y0, ys = [y0] := by
    match ys, hl with
    | [y0], _ => exact ⟨y0, rfl⟩
  simp only [List.map_cons, List.map_nil, List.sum_cons, List.sum_nil] at hs
  obtain ⟨a0, x0, e0, q0, w0, o0⟩ := fieldW (opensW_is (h0 := h0) hB K) K.intsC (k := 0) (by omega) (hm 0 (T.ints, 0) y0 rfl rfl)
  have ecs : cs = (cs.drop 0).take 1 := by
    match cs, hc with
    | [c0], _ => rfl
  have em : cs.map canon = (a0).map some := by
    rw [ecs]
    simp only [List.map_append, e0]
  refine ⟨_, x0, em, q0, ?_, fun hk => o0 (by omega)⟩
  · omega
theorem opensW_faces (hB : BulkW B) (K : T.Ok P) : OpensW (α := List (List Int)) B enc P W h0 T.faces (SlC 1 (At (inpOf W) h0 (SlC 1 (IntA (inpOf W) h0)))) (listB numsB) (AllOk (AllOk InR)) := opensW_sl hB K.faces K.faceC (by omega) (opensW_face hB K)
theorem opensW_im (hB : BulkW B) (K : T.Ok P) : OpensW (α := Im) B enc P W h0 T.im (ImC (inpOf W) h0) imB ImR := by
  intro n cs y h hc
  rw [K.imC] at hc
  obtain ⟨m, ys, hl, hm, hs⟩ := trod_fieldsW hB K.im h
  obtain ⟨y0, y1, y2, rfl⟩ : ∃ y0 y1 y2, ys = [y0, y1, y2] := by
    match ys, hl with
    | [y0, y1, y2], _ => exact ⟨y0, y1, y2, rfl⟩
  simp only [List.map_cons, List.map_nil, List.sum_cons, List.sum_nil] at hs
  obtain ⟨a0, x0, e0, q0, w0, o0⟩ := fieldW (opensW_i (h0 := h0) hB K) K.intC (k := 0) (by omega) (hm 0 (T.int, 0) y0 rfl rfl)
  obtain ⟨a1, x1, e1, q1, w1, o1⟩ := fieldW (opensW_i (h0 := h0) hB K) K.intC (k := 1) (by omega) (hm 1 (T.int, 1) y1 rfl rfl)
  obtain ⟨a2, x2, e2, q2, w2, o2⟩ := fieldW (opensW_is (h0 := h0) hB K) K.intsC (k := 2) (by omega) (hm 2 (T.ints, 2) y2 rfl rfl)
  have ecs : cs = (cs.drop 0).take 1 ++ (cs.drop 1).take 1 ++ (cs.drop 2).take 1 := by
    match cs, hc with
    | [c0, c1, c2], _ => rfl
  have em : cs.map canon = (a0 ++ a1 ++ a2).map some := by
    rw [ecs]
    simp only [List.map_append, e0, e1, e2]
  obtain ⟨rfl, r0⟩ := q0
  obtain ⟨rfl, r1⟩ := q1
  obtain ⟨v2, rfl, s2⟩ := q2
  refine ⟨_, ⟨x0, x1, x2⟩, em, ⟨v2, rfl, r0, r1, s2⟩, ?_, fun hk => ⟨r0, r1, o2 (by omega)⟩⟩
  · unfold imB; simp only [List.length_append] at *; omega
theorem opensW_ims (hB : BulkW B) (K : T.Ok P) : OpensW (α := List Im) B enc P W h0 T.ims (SlC 3 (At (inpOf W) h0 (ImC (inpOf W) h0))) (listB imB) (AllOk ImR) := opensW_sl hB K.ims K.imC (by omega) (opensW_im hB K)
theorem opensW_pg (hB : BulkW B) (K : T.Ok P) : OpensW (α := Pg) B enc P W h0 T.pg (PgC (inpOf W) h0) pgB PgR := by
  intro n cs y h hc
  rw [K.pgC] at hc
  obtain ⟨m, ys, hl, hm, hs⟩ := trod_fieldsW hB K.pg h
  obtain ⟨y0, y1, y2, y3, y4, y5, rfl⟩ : ∃ y0 y1 y2 y3 y4 y5, ys = [y0, y1, y2, y3, y4, y5] := by
    match ys, hl with
    | [y0, y1, y2, y3, y4, y5], _ => exact ⟨y0, y1, y2, y3, y4, y5, rfl⟩
  simp only [List.map_cons, List.map_nil, List.sum_cons, List.sum_nil] at hs
  obtain ⟨a0, x0, e0, q0, w0, o0⟩ := fieldW (opensW_recs (h0 := h0) hB K) K.recsC (k := 0) (by omega) (hm 0 (T.recs, 0) y0 rfl rfl)
  obtain ⟨a1, x1, e1, q1, w1, o1⟩ := fieldW (opensW_sgs (h0 := h0) hB K) K.sgsC (k := 1) (by omega) (hm 1 (T.sgs, 1) y1 rfl rfl)
  obtain ⟨a2, x2, e2, q2, w2, o2⟩ := fieldW (opensW_faces (h0 := h0) hB K) K.facesC (k := 2) (by omega) (hm 2 (T.faces, 2) y2 rfl rfl)
  obtain ⟨a3, x3, e3, q3, w3, o3⟩ := fieldW (opensW_ims (h0 := h0) hB K) K.imsC (k := 3) (by omega) (hm 3 (T.ims, 3) y3 rfl rfl)
  obtain ⟨a4, x4, e4, q4, w4, o4⟩ := fieldW (opensW_fus (h0 := h0) hB K) K.fusC (k := 4) (by omega) (hm 4 (T.fus, 4) y4 rfl rfl)
  obtain ⟨a5, x5, e5, q5, w5, o5⟩ := fieldW (opensW_i (h0 := h0) hB K) K.intC (k := 5) (by omega) (hm 5 (T.int, 5) y5 rfl rfl)
  have ecs : cs = (cs.drop 0).take 1 ++ (cs.drop 1).take 1 ++ (cs.drop 2).take 1 ++ (cs.drop 3).take 1 ++ (cs.drop 4).take 1 ++ (cs.drop 5).take 1 := by
    match cs, hc with
    | [c0, c1, c2, c3, c4, c5], _ => rfl
  have em : cs.map canon = (a0 ++ a1 ++ a2 ++ a3 ++ a4 ++ a5).map some := by
    rw [ecs]
    simp only [List.map_append, e0, e1, e2, e3, e4, e5]
  obtain ⟨v0, rfl, s0⟩ := q0
  obtain ⟨v1, rfl, s1⟩ := q1
  obtain ⟨v2, rfl, s2⟩ := q2
  obtain ⟨v3, rfl, s3⟩ := q3
  obtain ⟨v4, rfl, s4⟩ := q4
  obtain ⟨rfl, r5⟩ := q5
  refine ⟨_, ⟨x0, x1, x2, x3, x4, x5⟩, em, ⟨v0, v1, v2, v3, v4, rfl, r5, s0, s1, s2, s3, s4⟩, ?_, fun hk => ⟨o0 (by omega), o1 (by omega), o2 (by omega), o3 (by omega), o4 (by omega), r5⟩⟩
  · unfold pgB; unfold listB at w0 w1 w2 w3 w4; simp only [List.length_append] at *; omega
theorem openW_pg (hB : BulkW B) (K : T.Ok P) {r : Reach} {b0 t : Nat} {v : Value} {d : DataW H} {p : List MemPlace} (ht : P.underlying t = some (.pointer T.pg)) (ho : Value.okWide P W r b0 t v) (h : DataW.Trod enc P W 0 (fun _ => true) true t v d p) (hbk : B d ≤ 1048576) :
    v = .pointer none ∨ ∃ b o q, v = .pointer (some ⟨b, o, none⟩) ∧ PgA (inpOf W) h0 (.inp (2 * b)) o q ∧ PgR q ∧ (pgB q).length ≤ 10 * B d := by
  obtain ⟨a, rfl⟩ := Go.WideShapes.okWide_pointer ht ho
  cases a with
  | none => exact .inl rfl
  | some a =>
    right
    obtain ⟨n, hn⟩ := h
    cases n with
    | zero => cases hn
    | succ n =>
      rw [DataW.trod_step] at hn
      unfold DataW.trodStep at hn
      simp only [Value.cells, ht] at hn
      rw [Option.map_eq_some_iff] at hn
      obtain ⟨y, hy, hyd⟩ := hn
      rw [Option.bind_eq_some_iff] at hy
      obtain ⟨cs, hcs, hy⟩ := hy
      obtain ⟨_, hlen, hg⟩ := World.cells?_some hcs
      rw [K.pgC] at hlen hg
      have hsp : a.spot = none := by
        have := hg 0 (by omega)
        rw [show a.add 0 = a from rfl, List.getElem?_eq_getElem (by omega)] at this
        unfold World.cell? at this
        split at this
        · cases hs : a.spot with
          | none => rfl
          | some s => rw [hs] at this; cases this
        · cases this
      obtain ⟨b, o, sp⟩ := a
      simp only at hsp
      subst hsp
      cases hyd
      obtain ⟨al, q, ha, hx, hw, hk⟩ := opensW_pg (h0 := h0) hB K _ _ _ hy (by rw [hlen, K.pgC])
      have hp := hB.ptr y.1
      have hli : Lies W b o cs := fun i hi => by rw [← hg i (by omega), addr_add]
      exact ⟨b, o, q, rfl, ⟨al, hx, hli.cells ha⟩, hk (by omega), by omega⟩
end
end
end Go.Proofs.YtncjcnipagdmlaaDoor.Tx

set_option linter.unusedSimpArgs false
set_option linter.unusedVariables false
namespace Go.Proofs.YtncjcnipagdmlaaDoor.Tx
noncomputable section
open Go.AM Go.Proofs.YtncjcnipagdmlaaDoor.Sf
section
variable {I : Inp} {h0 : AHeap}
/-! a program that is not too great -/
def mc (b : Bk) : Nat := min 1000 b.code.length
def mcs : List Bk → Nat
  | [] => 0
  | b :: r => (1 + mc b) + mcs r
def smFrom (m : Nat) : List Fu → Bool
  | [] => dc (m ≤ 150)
  | f :: r => (!dc (14 < (f.blocks.length : Int)) && !dc (20 < (f.regs.length : Int))) && smFrom (m + mcs f.blocks) r
def smallB (q : Pg) : Bool := (((!dc (12 < (q.funcs.length : Int)) && !dc (12 < (q.recs.length : Int))) && !dc (12 < (q.sigs.length : Int))) && !dc (12 < (q.faces.length : Int))) && !dc (14 < (q.impls.length : Int)) && smFrom 0 q.funcs
theorem min_mc (b : Bk) : pMinmax false [Z 1000, .int .i64 (b.code.length : Int)] = some (.int .i64 (mc b : Int)) := by
  simp only [pMinmax, minInts, mc]
  by_cases h : b.code.length < 1000
  · have : ((b.code.length : Int) < 1000) := by omega
    simp [this, Nat.min_eq_right (Nat.le_of_lt h)]
  · have : ¬ ((b.code.length : Int) < 1000) := by omega
    simp [this, Nat.min_eq_left (Nat.le_of_not_lt h)]
theorem tSmall {l : AM.Loc} {o : Nat} {q : Pg} (hq : PgA I h0 l o q) (hb : AHeap) (eb : Ext h0 hb) : Ret ((AM.lim ⟨P, I, genF P Sh.prims⟩) 11 [.ptr l o] hb) hb (.bool (smallB q)) := by
  obtain ⟨_, ⟨vr, vs, vf, vi, vu, rfl, rm, sr, ss, sf, si, su⟩, hc⟩ := hq
  have lu := su.lt
  by_cases hn12 : q.funcs.length ≤ 12
  · obtain ⟨N, hN⟩ := Evt.loop' q.funcs (F := fun i n => ∀ (m : Nat) h, m ≤ 14014 * i → Ext hb h → Res ((f11.J I (AM.lim ⟨P, I, genF P Sh.prims⟩) (n)).1.2.1 (.ptr l o) (.int .i64 m) (.int .i64 i) h) fun u g => u = .bool (smFrom m (q.funcs.drop i)) ∧ Ext hb g)
      (Evt.all 5 fun n m h hm e => by
        have hm' : ((m : Int) ≤ 150) = (m ≤ 150) := by simp; omega
        rw [f11.n2]; unfold f11.b2
        (repeat' (first | refine Rf (fun hF hG => ?_) (fun hF hG => ?_) | assumption | (show Ext _ _; exact Ext.go) | (simp only [AHeap.next_alloc, AHeap.next_set, AHeap.next_kill, AHeap.next_res] at hle hsame) | simp (disch := first | exact D.go | fail) [setR, List.getElem?_cons_zero, List.getElem?_cons_succ, f11.n0, f11.b0, f11.n1, f11.b1, f11.n3, f11.b3, f11.n4, f11.b4, f11.n5, f11.b5, f11.n6, f11.b6, f11.n7, f11.b7, f11.n8, f11.b8, hc.rd0, hc.rd1, hc.rd2, hc.rd3, hc.rd4, hc.rd5, sr.len, ss.len, sf.len, si.len, su.len, sr.self, ss.self, sf.self, si.self, su.self, smFrom, hm', *])))
      (fun i f hf hfo => by
        obtain ⟨lf, of, hif, ⟨_, ⟨wr, wb, rfl, r0, swr, swb⟩, hwf⟩⟩ := su.at hf
        have hlt := lt_of_get hf; have hw := wrap_in (n := (i : Int) + 1) ⟨by omega, by omega⟩
        simp only [Int.natCast_add, Int.natCast_one] at hfo
        by_cases hb14 : f.blocks.length ≤ 14
        · have hb14' : ¬ 14 < (f.blocks.length : Int) := by omega
          have inner := Evt.loop f.blocks (F := fun b n => ∀ (m : Nat) h, m ≤ 14014 * i + 1001 * b → Ext hb h → Res ((f11.J I (AM.lim ⟨P, I, genF P Sh.prims⟩) (n)).2.2.1 (.ptr l o) (.int .i64 m) (.int .i64 i) (.int .i64 b) h) fun u g => u = .bool (smFrom (m + mcs (f.blocks.drop b)) (q.funcs.drop (i + 1))) ∧ Ext hb g) 6
            (Evt.step 6 hfo fun n hn m h hm e => by
              have hlo := e.lo
              have hn' := fun m' hm' => hn m' hm' m h (by omega) e
              rw [f11.n6]; unfold f11.b6
              (repeat' (first | refine Rf (fun hF hG => ?_) (fun hF hG => ?_) | assumption | (show Ext _ _; exact Ext.go) | (simp only [AHeap.next_alloc, AHeap.next_set, AHeap.next_kill, AHeap.next_res] at hle hsame) | simp (disch := first | exact D.go | fail) [setR, List.getElem?_cons_zero, List.getElem?_cons_succ, f11.n4, f11.b4, hc.rd0, hc.rd1, hc.rd2, hc.rd3, hc.rd4, hc.rd5, sr.len, ss.len, sf.len, si.len, su.len, sr.self, ss.self, sf.self, si.self, su.self, hif, hwf.rd2, swb.len, hw, mcs, *])))
            (fun b x n hx ih m h hm e => by
              obtain ⟨l1, o1, hib, ⟨_, ⟨vc, rfl, sc, q1, q2, q3, q4⟩, ha⟩⟩ := swb.at hx
              have hltb := lt_of_get hx; have hwb := wrap_in (n := (b : Int) + 1) ⟨by omega, by omega⟩
              simp only [Int.natCast_add, Int.natCast_one] at ih
              have hmc : mc x ≤ 1000 := Nat.min_le_left _ _
              have hmm := min_mc x
              have hw1 := wrap_in (n := 1 + (mc x : Int)) ⟨by omega, by omega⟩
              have hw2 := wrap_in (n := (m : Int) + (1 + (mc x : Int))) ⟨by omega, by omega⟩
              have hlo := e.lo
              have ih' := fun m' hm' => ih m' hm' (m + (1 + mc x)) h (by omega) e
              simp only [Int.natCast_add, Int.natCast_one, Int.cast_ofNat_Int, Nat.add_assoc] at ih'
              rw [drop_of_get hx]
              rw [f11.n6]; unfold f11.b6
              (repeat' (first | refine Rf (fun hF hG => ?_) (fun hF hG => ?_) | assumption | (show Ext _ _; exact Ext.go) | (simp only [AHeap.next_alloc, AHeap.next_set, AHeap.next_kill, AHeap.next_res] at hle hsame) | simp (disch := first | exact D.go | fail) [setR, List.getElem?_cons_zero, List.getElem?_cons_succ, f11.n7, f11.b7, f11.n8, f11.b8, hc.rd0, hc.rd1, hc.rd2, hc.rd3, hc.rd4, hc.rd5, sr.len, ss.len, sf.len, si.len, su.len, sr.self, ss.self, sf.self, si.self, su.self, hif, hwf.rd2, swb.len, hib, ha.rd0, sc.len, hmm, hltb, hwb, hw1, hw2, mcs, Nat.add_assoc, *])))
            0 (by omega)
          refine Evt.step 8 inner fun n hn m h hm e => ?_
          have hn' := fun m' hm' => hn m' hm' m h (by omega) e
          have hlo := e.lo
          rw [drop_of_get hf]
          rw [f11.n2]; unfold f11.b2
          (repeat' (first | refine Rf (fun hF hG => ?_) (fun hF hG => ?_) | assumption | (show Ext _ _; exact Ext.go) | (simp only [AHeap.next_alloc, AHeap.next_set, AHeap.next_kill, AHeap.next_res] at hle hsame) | simp (disch := first | exact D.go | fail) [setR, List.getElem?_cons_zero, List.getElem?_cons_succ, f11.n3, f11.b3, f11.n5, f11.b5, hc.rd0, hc.rd1, hc.rd2, hc.rd3, hc.rd4, hc.rd5, sr.len, ss.len, sf.len, si.len, su.len, sr.self, ss.self, sf.self, si.self, su.self, hif, hwf.rd1, hwf.rd2, swb.len, swr.len, hlt, hb14', smFrom, *]))
          all_goals (exact hn' _ (by omega))
        · have hb14' : 14 < (f.blocks.length : Int) := by omega
          refine Evt.all 8 fun n m h hm e => ?_
          have hlo := e.lo
          rw [drop_of_get hf]
          rw [f11.n2]; unfold f11.b2
          (repeat' (first | refine Rf (fun hF hG => ?_) (fun hF hG => ?_) | assumption | (show Ext _ _; exact Ext.go) | (simp only [AHeap.next_alloc, AHeap.next_set, AHeap.next_kill, AHeap.next_res] at hle hsame) | simp (disch := first | exact D.go | fail) [setR, List.getElem?_cons_zero, List.getElem?_cons_succ, f11.n3, f11.b3, f11.n5, f11.b5, hc.rd0, hc.rd1, hc.rd2, hc.rd3, hc.rd4, hc.rd5, sr.len, ss.len, sf.len, si.len, su.len, sr.self, ss.self, sf.self, si.self, su.self, hif, hwf.rd1, hwf.rd2, swb.len, swr.len, hlt, hb14', smFrom, *])))
      0 (by omega)
    have hN' := hN (N + 1) (by omega) 0 hb (by omega) (Ext.refl hb)
    have h12 : ¬ 12 < (q.funcs.length : Int) := by omega
    refine f11.lim rfl (n := N + 2) ?_
    unfold f11.e
    (repeat' (first | refine Rf (fun hF hG => ?_) (fun hF hG => ?_) | assumption | (show Ext _ _; exact Ext.go) | (simp only [AHeap.next_alloc, AHeap.next_set, AHeap.next_kill, AHeap.next_res] at hle hsame) | simp (disch := first | exact D.go | fail) [setR, List.getElem?_cons_zero, List.getElem?_cons_succ, f11.n0, f11.b0, hc.rd0, hc.rd1, hc.rd2, hc.rd3, hc.rd4, hc.rd5, sr.len, ss.len, sf.len, si.len, su.len, sr.self, ss.self, sf.self, si.self, su.self, smallB, h12, *]))
    all_goals (exact hN')
  · have h12 : 12 < (q.funcs.length : Int) := by omega
    refine f11.lim rfl (n := 2) ?_
    unfold f11.e
    (repeat' (first | refine Rf (fun hF hG => ?_) (fun hF hG => ?_) | assumption | (show Ext _ _; exact Ext.go) | (simp only [AHeap.next_alloc, AHeap.next_set, AHeap.next_kill, AHeap.next_res] at hle hsame) | simp (disch := first | exact D.go | fail) [setR, List.getElem?_cons_zero, List.getElem?_cons_succ, hc.rd0, hc.rd1, hc.rd2, hc.rd3, hc.rd4, hc.rd5, sr.len, ss.len, sf.len, si.len, su.len, sr.self, ss.self, sf.self, si.self, su.self, smallB, h12, *]))
theorem tSmall_nil (hb : AHeap) : Ret ((AM.lim ⟨P, I, genF P Sh.prims⟩) 11 [.nilp] hb) hb (.bool false) := by
  refine f11.lim rfl (n := 2) ?_
  unfold f11.e
  (repeat' (first | refine Rf (fun hF hG => ?_) (fun hF hG => ?_) | assumption | (show Ext _ _; exact Ext.go) | (simp only [AHeap.next_alloc, AHeap.next_set, AHeap.next_kill, AHeap.next_res] at hle hsame) | simp (disch := first | exact D.go | fail) [setR, List.getElem?_cons_zero, List.getElem?_cons_succ, setR, *]))
/-! what is known of it -/
structure SmOk (q : Pg) : Prop where
  funcs : q.funcs.length ≤ 12
  blocks : ∀ f ∈ q.funcs, f.blocks.length ≤ 14
  pts : (pgPts 0 q.funcs).length ≤ 150
theorem mcs_le (f : Int) : ∀ (l : List Bk) (b : Nat), mcs l ≤ 150 → (fuPts f b l).length = mcs l ∧ ∀ x ∈ l, x.code.length ≤ 150
  | [], b, _ => by simp [fuPts, mcs]
  | x :: r, b, h => by
    simp only [mcs] at h
    have hm : mc x = x.code.length := by unfold mc at h ⊢; omega
    obtain ⟨h1, h2⟩ := mcs_le f r (b + 1) (by omega)
    refine ⟨?_, fun y hy => ?_⟩
    · simp only [fuPts, List.length_append, bkPts_len, h1, mcs, hm]; omega
    · rcases List.mem_cons.1 hy with rfl | hy
      · omega
      · exact h2 y hy
theorem smFrom_ok : ∀ (l : List Fu) (i m : Nat), smFrom m l = true → m ≤ 150 ∧ (∀ f ∈ l, f.blocks.length ≤ 14) ∧ m + (pgPts i l).length ≤ 150
  | [], i, m, h => by simp [smFrom] at h; simp [pgPts, h]
  | f :: r, i, m, h => by
    simp only [smFrom, Bool.and_eq_true, Bool.not_eq_true', dc_eq_false] at h
    obtain ⟨h1, h2, h3⟩ := smFrom_ok r (i + 1) _ h.2
    have hc := (mcs_le i f.blocks 0 (by omega)).1
    refine ⟨by omega, fun g hg => ?_, ?_⟩
    · rcases List.mem_cons.1 hg with rfl | hg
      · have := h.1.1; omega
      · exact h2 g hg
    · simp only [pgPts, List.length_append, hc]; omega
theorem SmOk.of {q : Pg} (h : smallB q = true) : SmOk q := by
  simp only [smallB, Bool.and_eq_true, Bool.not_eq_true', dc_eq_false] at h
  obtain ⟨⟨⟨⟨⟨h1, _⟩, _⟩, _⟩, _⟩, h2⟩ := h
  obtain ⟨_, a, b⟩ := smFrom_ok q.funcs 0 0 h2
  exact ⟨by omega, a, by omega⟩
theorem fuPts_code {f : Int} : ∀ (l : List Bk) (b : Nat), ∀ x ∈ l, x.code.length < (fuPts f b l).length
  | [], b, x, h => by simp at h
  | y :: r, b, x, h => by
    simp only [fuPts, List.length_append, bkPts_len]
    rcases List.mem_cons.1 h with rfl | h
    · omega
    · have := fuPts_code (f := f) r (b + 1) x h; omega
theorem pgPts_fu : ∀ (l : List Fu) (i : Nat), ∀ f ∈ l, ∀ j : Int, (fuPts j 0 f.blocks).length ≤ (pgPts i l).length
  | [], i, f, h, j => by simp at h
  | g :: r, i, f, h, j => by
    simp only [pgPts, List.length_append]
    have hl : ∀ (l : List Bk) (b : Nat) (x y : Int), (fuPts x b l).length = (fuPts y b l).length := by
      intro l
      induction l with
      | nil => intro b x y; rfl
      | cons z l ih => intro b x y; simp only [fuPts, List.length_append, bkPts_len, ih (b + 1) x y]
    rcases List.mem_cons.1 h with rfl | h
    · rw [hl f.blocks 0 j i]; omega
    · have := pgPts_fu r (i + 1) f h j; omega
theorem SmOk.code {q : Pg} (h : SmOk q) : ∀ f ∈ q.funcs, ∀ b ∈ f.blocks, b.code.length ≤ 150 := fun f hf b hb => by
  have h1 := fuPts_code (f := 0) f.blocks 0 b hb
  have h2 := pgPts_fu q.funcs 0 f hf 0
  have := h.pts
  omega
end
end
end Go.Proofs.YtncjcnipagdmlaaDoor.Tx

set_option linter.unusedSimpArgs false
set_option linter.unusedVariables false
namespace Go.Proofs.YtncjcnipagdmlaaDoor.Tx
noncomputable section
open Go.AM Go.Proofs.YtncjcnipagdmlaaDoor.Sf
section
variable {I : Inp} {h0 h1 : AHeap}
/-! any program goes to its bytes and back -/
theorem own_str {hb h : AHeap} {v : AVal} {q : Pg} (o : Own byF 1 hb h v (pgB q)) (hl : (pgB q).length ≤ 25000000) (g : AHeap) (x : Ext h g) : pToStr I v g = some (.str (pgB q)) :=
  toStr_by (own_by o (pgB_lt q) (by omega)) (pgB_ne q) g x
theorem tEqPg {l l' : AM.Loc} {o o' : Nat} {q q' : Pg} (hq : PgA I h0 l o q) (hq' : PgA I h1 l' o' q') (ok : PgR q) (ok' : PgR q') (len : (pgB q).length ≤ 25000000) (len' : (pgB q').length ≤ 25000000) (hb : AHeap) (e0 : Ext h0 hb) (e1 : Ext h1 hb) : Res ((AM.lim ⟨P, I, genF P Sh.prims⟩) 16 [.ptr l o, .ptr l' o'] hb) fun u g => u = .bool (natsEq (pgB q) (pgB q')) ∧ Ext hb g := by
  obtain ⟨u1, g1, c1, o1, x1⟩ := tREncG hq ok len hb e0
  obtain ⟨u2, g2, c2, o2, x2⟩ := tREncG hq' ok' len' g1 (e1.trans x1)
  have s1 := own_str (I := I) o1 len g1 (Ext.refl g1)
  have s1' := own_str (I := I) o1 len g2 x2
  have s2 := own_str (I := I) o2 len' g2 (Ext.refl g2)
  have hst : pBin .eql (.str (pgB q)) (.str (pgB q')) = some (.bool (natsEq (pgB q) (pgB q'))) := nrfl
  refine f16.lim rfl (n := 3) ?_
  unfold f16.e
  have hfin : (AVal.bool (natsEq (pgB q) (pgB q')) = .bool (natsEq (pgB q) (pgB q'))) ∧ Ext hb g2 := ⟨rfl, x1.trans x2⟩
  generalize hQ : (fun (u : AVal) (g : AHeap) => u = .bool (natsEq (pgB q) (pgB q')) ∧ Ext hb g) = Q
  have hq : Q (.bool (natsEq (pgB q) (pgB q'))) g2 := by rw [← hQ]; exact hfin
  generalize natsEq (pgB q) (pgB q') = b at *
  generalize pgB q = a1 at *
  generalize pgB q' = a2 at *
  clear hQ hfin o1 o2 ok ok' hq'
  simp (disch := first | exact D.go | fail) [setR, List.getElem?_cons_zero, List.getElem?_cons_succ, f16.n0, f16.b0, c1, c2, s1, s1', s2, hst]
  exact hq
theorem lawBytes_nil (hb : AHeap) : Res ((AM.lim ⟨P, I, genF P Sh.prims⟩) 3 [.nilp] hb) fun u _ => u = .bool true := by
  obtain ⟨v, g, hs, rfl, x⟩ := tSmall_nil (I := I) hb
  refine f3.lim rfl (n := 3) ?_
  unfold f3.e
  simp (disch := first | exact D.go | fail) [setR, List.getElem?_cons_zero, List.getElem?_cons_succ, begun, f3.n0, f3.b0, hs]
theorem lawBytes {l : AM.Loc} {o : Nat} {q : Pg} (hq : PgA I h0 l o q) (ok : PgR q) (len : (pgB q).length ≤ 25000000) : Res ((AM.lim ⟨P, I, genF P Sh.prims⟩) 3 [.ptr l o] h0) fun u _ => u = .bool true := by
  obtain ⟨v, g, hs, rfl, x⟩ := tSmall (I := I) hq h0 (Ext.refl h0)
  cases hB : smallB q with
  | false =>
    rw [hB] at hs
    refine f3.lim rfl (n := 3) ?_
    unfold f3.e
    simp (disch := first | exact D.go | fail) [setR, List.getElem?_cons_zero, List.getElem?_cons_succ, begun, f3.n0, f3.b0, hs]
  | true =>
    rw [hB] at hs
    obtain ⟨u1, g1, c1, o1, x1⟩ := tREncG hq ok len g x
    obtain ⟨u2, g2, c2, x2, hc⟩ := tEncodeG hq ok len g1 (x.trans x1)
    have l1 := o1.len
    rcases hc with ⟨hl, v2, rfl, o2⟩ | ⟨hl, e, rfl, rf⟩
    · have bv := own_by (I := I) o2 (pgB_lt q) (by omega)
      obtain ⟨u3, g3, c3, x3, hd⟩ := tDecodeG (I := I) bv (pgB_lt q) hl
      have hgood := pePg.good q ok []
      rw [List.append_nil] at hgood
      rcases hd with ⟨kp, q', rfl, pa, pr, hi⟩ | ⟨e, rfl, rf, hn⟩
      · obtain rfl : q = q' := by
          have := hi.1
          rw [hgood] at this
          simp only [Prod.mk.injEq] at this
          exact this.1
        obtain ⟨u4, g4, c4, rfl, x4⟩ := tEqPg hq pa ok pr len len g3 (((x.trans x1).trans x2).trans x3) (Ext.refl g3)
        rw [natsEq_self] at c4
        have s1 := own_str (I := I) o1 len g3 (x2.trans x3)
        have s2 := own_str (I := I) o2 len g3 x3
        have hst : pBin .eql (.str (pgB q)) (.str (pgB q)) = some (.bool true) := by
          show some (AVal.bool (natsEq (pgB q) (pgB q))) = _
          rw [natsEq_self]
        have n0 : ¬ (20000 : Int) < ((pgB q).length : Int) := by omega
        refine f3.lim rfl (n := 4) ?_
        unfold f3.e
        generalize ((pgB q).length : Int) = L at *
        generalize pgB q = a1 at *
        clear hq ok len hl o1 o2 bv hgood hi pa pr
        simp (disch := first | exact D.go | fail) [setR, List.getElem?_cons_zero, List.getElem?_cons_succ, begun, f3.n0, f3.b0, f3.n1, f3.b1, f3.n2, f3.b2, hs, c1, c2, c3, c4, l1, n0, s1, s2, hst]
      · exact absurd ⟨hgood, rfl⟩ (hn q)
    · obtain ⟨g3, c3, x3⟩ := tWhyB (I := I) rf
      have n0 : (20000 : Int) < ((pgB q).length : Int) := by omega
      refine f3.lim rfl (n := 4) ?_
      unfold f3.e
      generalize ((pgB q).length : Int) = L at *
      clear hq ok len hl o1 rf
      simp (disch := first | exact D.go | fail) [setR, List.getElem?_cons_zero, List.getElem?_cons_succ, begun, f3.n0, f3.b0, f3.n1, f3.b1, hs, c1, c2, c3, l1, n0]
end
end
end Go.Proofs.YtncjcnipagdmlaaDoor.Tx

set_option linter.unusedSimpArgs false
set_option linter.unusedVariables false
namespace Go.Proofs.YtncjcnipagdmlaaDoor.Tx
noncomputable section
open Go.AM Go.Proofs.YtncjcnipagdmlaaDoor.Sf
section
variable {I : Inp} {h0 h1 : AHeap}
/-! bytes that are cut, or longer -/
theorem ByS.src {hb : AHeap} {v : AVal} {bs : List Nat} (a : ByS I hb v bs) (hne : bs ≠ []) {g : AHeap} (x : Ext hb g) : SrcL byF 1 I g v bs := by
  rcases a with ⟨rfl, rfl⟩ | ⟨l, o, cap, rfl, hc, hn, hr⟩
  · exact absurd rfl hne
  · have e : ∀ l : List Nat, l.flatMap byF = l.map fun b : Nat => AVal.int .u8 (b : Int) := by
      intro l; induction l with
      | nil => rfl
      | cons a t ih => rw [List.flatMap_cons, ih]; rfl
    have h1 : AM.rds I g l o (bs.map fun b : Nat => AVal.int .u8 (b : Int)).length = some (bs.map fun b : Nat => AVal.int .u8 (b : Int)) := rds_of (by simpa using hne) fun i v hv => by
      rw [List.getElem?_map, Option.map_eq_some_iff] at hv
      obtain ⟨b, hb, rfl⟩ := hv
      exact (hr i b hb).2 g x
    rw [List.length_map] at h1
    exact .inr ⟨hne, l, o, cap, rfl, by rw [Nat.mul_one, e]; exact h1⟩
theorem ByS.mono' {hb hc : AHeap} {v : AVal} {bs : List Nat} (a : ByS I hb v bs) (x : Ext hb hc) : ByS I hc v bs := by
  rcases a with a | ⟨l, o, cap, e, h1, h2, h3⟩
  · exact .inl a
  · exact .inr ⟨l, o, cap, e, h1, h2, fun i y hy => ⟨(h3 i y hy).1, fun g e' => (h3 i y hy).2 g (x.trans e')⟩⟩
theorem lawCut_nil (hb : AHeap) (n : Int) : Res ((AM.lim ⟨P, I, genF P Sh.prims⟩) 6 [.nilp, .int .i64 n] hb) fun u _ => u = .bool true := by
  obtain ⟨v, g, hs, rfl, x⟩ := tSmall_nil (I := I) hb
  refine f6.lim rfl (n := 3) ?_
  unfold f6.e
  simp (disch := first | exact D.go | fail) [setR, List.getElem?_cons_zero, List.getElem?_cons_succ, begun, f6.n0, f6.b0, hs]
theorem lawCut {l : AM.Loc} {o : Nat} {q : Pg} (hq : PgA I h0 l o q) (ok : PgR q) (len : (pgB q).length ≤ 25000000) (n : Int) : Res ((AM.lim ⟨P, I, genF P Sh.prims⟩) 6 [.ptr l o, .int .i64 n] h0) fun u _ => u = .bool true := by
  obtain ⟨v, g, hs, rfl, x⟩ := tSmall (I := I) hq h0 (Ext.refl h0)
  cases hB : smallB q with
  | false =>
    rw [hB] at hs
    refine f6.lim rfl (n := 3) ?_
    unfold f6.e
    simp (disch := first | exact D.go | fail) [setR, List.getElem?_cons_zero, List.getElem?_cons_succ, begun, f6.n0, f6.b0, hs]
  | true =>
    rw [hB] at hs
    obtain ⟨u1, g1, c1, o1, x1⟩ := tREncG hq ok len g x
    have l1 := o1.len
    by_cases hc : n < 0 ∨ ((pgB q).length : Int) ≤ n ∨ (5000 : Int) < ((pgB q).length : Int)
    · refine f6.lim rfl (n := 4) ?_
      unfold f6.e
      generalize ((pgB q).length : Int) = L at *
      clear hq ok len o1
      by_cases n0 : n < 0
      · simp (disch := first | exact D.go | fail) [setR, List.getElem?_cons_zero, List.getElem?_cons_succ, begun, f6.n0, f6.b0, f6.n1, f6.b1, hs, c1, l1, n0]
      · by_cases n1 : L ≤ n
        · simp (disch := first | exact D.go | fail) [setR, List.getElem?_cons_zero, List.getElem?_cons_succ, begun, f6.n0, f6.b0, f6.n1, f6.b1, hs, c1, l1, n0, n1]
        · have n2 : 5000 < L := by omega
          simp (disch := first | exact D.go | fail) [setR, List.getElem?_cons_zero, List.getElem?_cons_succ, begun, f6.n0, f6.b0, f6.n1, f6.b1, hs, c1, l1, n0, n1, n2]
    · have n0 : ¬ n < 0 := by omega
      have n1 : ¬ ((pgB q).length : Int) ≤ n := by omega
      have n2 : ¬ (5000 : Int) < ((pgB q).length : Int) := by omega
      obtain ⟨k, rfl⟩ : ∃ k : Nat, n = (k : Int) := ⟨n.toNat, by omega⟩
      have hk : k < (pgB q).length := by omega
      have bv := own_by (I := I) o1 (pgB_lt q) (by omega)
      obtain ⟨w1, s1, b1⟩ := bv.to (m := k) (by omega)
      obtain ⟨w2, s2, b2⟩ := bv.to (m := k + 1) (by omega)
      have hby : ∀ m, ∀ y ∈ (pgB q).take m, y < 256 := fun m y hy => pgB_lt q y (List.mem_of_mem_take hy)
      obtain ⟨u3, g3, c3, x3, hd3⟩ := tDecodeG (I := I) b1 (hby k) (by rw [List.length_take]; omega)
      obtain ⟨e3, rfl, rf3⟩ : ∃ e, u3 = .tuple [.nilp, e] ∧ Refd g3 e := by
        rcases hd3 with ⟨kp, q', rfl, pa, pr, hi⟩ | ⟨e, rfl, rf, _⟩
        · exfalso
          have hcut : pgB q = pgB q' ++ (pgB q).drop k := by rw [hi.2, List.take_append_drop]
          have := (pg_cut ok pr hcut).2
          have := congrArg List.length this
          simp at this; omega
        · exact ⟨e, rfl, rf⟩
      obtain ⟨w4, g4, a4, o4, x4, _⟩ := app_own_all (I := I) byFix (hb := g3) (xs := []) (v := .nils) (bytes := 1) Own.nil (Ext.refl g3) (bv.src (pgB_ne q) x3) (by omega) (by simp; omega)
      rw [List.nil_append] at o4
      have hne2 : (pgB q).take (k + 1) ≠ [] := by
        intro e
        have := congrArg List.length e
        rw [List.length_take] at this
        simp only [List.length_nil] at this; omega
      obtain ⟨w5, g5, a5, o5, x5, _⟩ := app_own_all (I := I) byFix (hb := g3) (bytes := 1) o4 x4 (b2.src hne2 (x3.trans x4)) (by omega) (by rw [List.length_take]; omega)
      have bv5 := own_by (I := I) o5 (app_lt (pgB_lt q) (hby (k + 1))) (by rw [List.length_append, List.length_take]; omega)
      obtain ⟨u6, g6, c6, x6, hd6⟩ := tDecodeG (I := I) bv5 (app_lt (pgB_lt q) (hby (k + 1))) (by rw [List.length_append, List.length_take]; omega)
      obtain ⟨e6, rfl, rf6⟩ : ∃ e, u6 = .tuple [.nilp, e] ∧ Refd g6 e := by
        rcases hd6 with ⟨kp, q', rfl, pa, pr, hi⟩ | ⟨e, rfl, rf, _⟩
        · exfalso
          exact hne2 (pg_cut pr ok hi.2).2
        · exact ⟨e, rfl, rf⟩
      obtain ⟨g7, c7, x7⟩ := tWhyB (I := I) (rf3.mono (x5.trans x6))
      obtain ⟨g8, c8, x8⟩ := tWhyB (I := I) (rf6.mono x7)
      have hw := wrap_in (n := (k : Int) + 1) ⟨by omega, by omega⟩
      have ov := o1.v1
      simp only [Int.natCast_add, Int.natCast_one] at s2
      refine f6.lim rfl (n := 4) ?_
      unfold f6.e
      have ov1 := ov.1
      have ov2 := ov.2
      have n0' : ¬ (k : Int) < 0 := n0
      generalize ((pgB q).length : Int) = L at *
      generalize (k : Int) = K at *
      clear hq ok len o1 hc hk bv b1 b2 hby rf3 rf6 o4 o5 hne2 bv5 ov
      simp (disch := first | exact D.go | fail) [setR, List.getElem?_cons_zero, List.getElem?_cons_succ, begun, f6.n0, f6.b0, f6.n1, f6.b1, f6.n2, f6.b2, hs, c1, l1, n0, n1, n2, s1, s2, c3, a4, hw, a5, c6, c7, c8, ov1, ov2]
end
end
end Go.Proofs.YtncjcnipagdmlaaDoor.Tx

set_option linter.unusedSimpArgs false
set_option linter.unusedVariables false
namespace Go.Proofs.YtncjcnipagdmlaaDoor.Tx
noncomputable section
open Go.AM Go.Proofs.YtncjcnipagdmlaaDoor.Sf
section
variable {I : Inp} {h0 h1 : AHeap}
/-! bytes: whose they are, or refused -/
theorem tWhereB {g : AHeap} {e : AVal} (a : Refd g e) : ∃ f, (AM.lim ⟨P, I, genF P Sh.prims⟩) 31 [e] g = some (.tuple [.agg [Z 0, Z 0, Z 0], .bool false], f) ∧ Ext g f := by
  obtain ⟨k, rfl, h1, h2⟩ := a
  obtain ⟨G, hG⟩ : ∃ G, G = g.alloc ⟨[Z 0, Z 0, Z 0], true⟩ := ⟨_, rfl⟩
  have xG : Ext g G := by rw [hG]; exact (Ext.refl g).alloc
  have hGn : G.next = g.next + 1 := by rw [hG]; simp
  have hGq : G.get g.next = some ⟨[Z 0, Z 0, Z 0], true⟩ := by rw [hG]; exact AHeap.alloc_at (Nb.o rfl)
  have q : (AM.lim ⟨P, I, genF P Sh.prims⟩) 38 [.iface 69 (.ptr (.own k) 0), .iface 97 (.ptr (.own G.next) 0)] (G.alloc ⟨[.nilp], true⟩) = some (.bool true, (G.alloc ⟨[.nilp], true⟩).set G.next ⟨[.ptr (.own k) 0], true⟩) := by
    refine lim_of (C := ⟨P, I, genF P Sh.prims⟩) (n := 1) ?_
    simp only [callF, genF, show Sh.prims 38 = some (AM.asPrim 69 97) from rfl]
    simp only [asPrim, Nat.beq_refl, Bool.and_self, AHeap.alloc_at (h := G) (b := ⟨[.nilp], true⟩) (Nb.o rfl), show (([AVal.nilp] : List AVal)[0]?) = some .nilp from rfl, wr_mk]
    rfl
  obtain ⟨f, hf⟩ : ∃ f, f = (G.alloc ⟨[.nilp], true⟩).set G.next ⟨[.ptr (.own k) 0], true⟩ := ⟨_, rfl⟩
  have xf : Ext G f := by rw [hf]; exact (Ext.refl G).alloc.set (Nb.o (Nat.le_refl _))
  have c1 : (AM.lim ⟨P, I, genF P Sh.prims⟩) 25 [.iface 69 (.ptr (.own k) 0)] G = some (.ptr (.own k) 0, f) := by
    refine Res.eq (f25.lim rfl (n := 1) ?_)
    unfold f25.e
    subst hf
    simp (disch := first | exact D.go | fail) [setR, List.getElem?_cons_zero, List.getElem?_cons_succ, f25.n0, f25.b0, q]
  have k1 := ((xG.trans xf).same _ h2).trans h1
  have q1 := (xf.same _ (by omega)).trans hGq
  have hs : (f.set g.next ⟨[Z 0, Z 0, Z 0], true⟩).get g.next = some ⟨[Z 0, Z 0, Z 0], true⟩ := AHeap.set_at (Nb.o rfl)
  refine ⟨f.set g.next ⟨[Z 0, Z 0, Z 0], true⟩, ?_, (xG.trans xf).set (Nb.o (Nat.le_refl _))⟩
  have z3 : (AVal.agg [Z 0, Z 0, Z 0]).cells = [Z 0, Z 0, Z 0] := rfl
  rw [hG] at c1
  refine Res.eq (f31.lim rfl (n := 2) ?_)
  unfold f31.e
  clear hf xf xG hG hGn hGq q
  simp (disch := first | exact D.go | fail) [setR, List.getElem?_cons_zero, List.getElem?_cons_succ, f31.n0, f31.b0, c1, k1, q1, z3, hs]
theorem tTold {hb : AHeap} {v : AVal} {bs : List Nat} (bv : ByS I hb v bs) (hby : ∀ x ∈ bs, x < 256) : Res ((AM.lim ⟨P, I, genF P Sh.prims⟩) 18 [v] hb) fun u g => u = .bool true ∧ Ext hb g := by
  have hd : Res ((AM.lim ⟨P, I, genF P Sh.prims⟩) 15 [v] hb) fun u g => Ext hb g ∧ ((∃ kp q, u = .tuple [.ptr (.own kp) 0, .nili] ∧ PgA I g (.own kp) 0 q ∧ PgR q ∧ pgB q = bs ∧ bs.length ≤ 20000) ∨ ∃ e, u = .tuple [.nilp, e] ∧ Refd g e) := by
    by_cases hl : 20000 < bs.length
    · obtain ⟨e, g, c, rf, x⟩ := tDecodeL (I := I) bv.len hl
      exact ⟨_, g, c, x, .inr ⟨e, rfl, rf⟩⟩
    · obtain ⟨u, g, c, x, h⟩ := tDecodeG (I := I) bv hby (by omega)
      refine ⟨u, g, c, x, ?_⟩
      rcases h with ⟨kp, q, e, pa, pr, hi⟩ | ⟨e, h1, h2, _⟩
      · exact .inl ⟨kp, q, e, pa, pr, hi.2, by omega⟩
      · exact .inr ⟨e, h1, h2⟩
  obtain ⟨u1, g1, c1, x1, h⟩ := hd
  rcases h with ⟨kp, q, rfl, pa, pr, rfl, hl⟩ | ⟨e, rfl, rf⟩
  · obtain ⟨u2, g2, c2, o2, x2⟩ := tREncG pa pr (by omega) g1 (Ext.refl g1)
    have s1 := own_str (I := I) o2 (by omega) g2 (Ext.refl g2)
    have s2 := toStr_by bv (pgB_ne q) g1 x1
    have s3 := toStr_by bv (pgB_ne q) g2 (x1.trans x2)
    have hst : pBin .eql (.str (pgB q)) (.str (pgB q)) = some (.bool true) := by
      show some (AVal.bool (natsEq (pgB q) (pgB q))) = _
      rw [natsEq_self]
    refine f18.lim rfl (n := 3) ?_
    unfold f18.e
    generalize hQ : (fun (u : AVal) (g : AHeap) => u = .bool true ∧ Ext hb g) = Q
    have hq : Q (.bool true) g2 := by rw [← hQ]; exact ⟨rfl, x1.trans x2⟩
    generalize pgB q = a1 at *
    clear hQ pa pr o2 bv
    simp (disch := first | exact D.go | fail) [setR, List.getElem?_cons_zero, List.getElem?_cons_succ, f18.n0, f18.b0, c1, c2, s1, s2, s3, hst]
    exact hq
  · obtain ⟨g2, c2, x2⟩ := tWhereB (I := I) rf
    obtain ⟨G, hG⟩ : ∃ G, G = (g2.alloc ⟨[Z 0, Z 0, Z 0], true⟩).set g2.next ⟨[Z 0, Z 0, Z 0], true⟩ := ⟨_, rfl⟩
    have xG : Ext g2 G := by rw [hG]; exact (Ext.refl g2).alloc.set (Nb.o (Nat.le_refl _))
    obtain ⟨g3, c3, x3⟩ := tWhyB (I := I) ((rf.mono x2).mono xG)
    obtain ⟨k, rfl, _, _⟩ := rf
    refine f18.lim rfl (n := 3) ?_
    unfold f18.e
    generalize hQ : (fun (u : AVal) (g : AHeap) => u = .bool true ∧ Ext hb g) = Q
    have hq : Q (.bool true) g3 := by rw [← hQ]; exact ⟨rfl, ((x1.trans x2).trans xG).trans x3⟩
    have za : (g2.alloc ⟨[Z 0, Z 0, Z 0], true⟩).get g2.next = some ⟨[Z 0, Z 0, Z 0], true⟩ := AHeap.alloc_at (Nb.o rfl)
    have z3 : (AVal.agg [Z 0, Z 0, Z 0]).cells = [Z 0, Z 0, Z 0] := rfl
    rw [hG] at c3
    clear hQ hG xG bv
    simp (disch := first | exact D.go | fail) [setR, List.getElem?_cons_zero, List.getElem?_cons_succ, f18.n0, f18.b0, c1, c2, c3, za, z3]
    exact hq
end
end
end Go.Proofs.YtncjcnipagdmlaaDoor.Tx

set_option linter.unusedSimpArgs false
set_option linter.unusedVariables false
namespace Go.Proofs.YtncjcnipagdmlaaDoor.Tx
noncomputable section
open Go.AM Go.Proofs.YtncjcnipagdmlaaDoor.Sf
section
variable {I : Inp} {h0 h1 : AHeap}
/-! any bytes -/
def ByteC (cs : List AVal) (x : Nat) : Prop := cs = [.int .u8 (x : Int)] ∧ x < 256
theorem sl_by {v : AVal} {bs : List Nat} (s : SlOf 1 (At I h0 ByteC) v bs) : ByS I h0 v bs ∧ ∀ x ∈ bs, x < 256 := by
  have hb : ∀ x ∈ bs, x < 256 := fun x hx => by
    obtain ⟨i, hi⟩ := List.getElem?_of_mem hx
    obtain ⟨l, o, _, cs, hc, _⟩ := s.at hi
    exact hc.2
  refine ⟨?_, hb⟩
  rcases s with ⟨rfl, rfl⟩ | ⟨l, o, cap, rfl, hc, hn, hx⟩
  · exact .inl ⟨rfl, rfl⟩
  · refine .inr ⟨l, o, cap, rfl, hc, hn.1, fun i x hi => ?_⟩
    obtain ⟨cs, ⟨rfl, h2⟩, cells⟩ := hx i x hi
    refine ⟨h2, fun g e => ?_⟩
    have := cells.rd0 g e
    rw [Nat.mul_one] at this
    exact this
/-- A part of a block of one's own: bytes that one may turn. -/
structure OwB (h : AHeap) (k m : Nat) (full : List Nat) (v : AVal) : Prop where
  v : ∃ cap, v = .sl (.own k) 0 m cap ∧ CapOk cap 1 m
  at_ : h.get k = some ⟨full.flatMap byF, true⟩
  hi : k < h.next
  le : m ≤ full.length
  by_ : ∀ x ∈ full, x < 256
  len : full.length ≤ 25000000
theorem OwB.bys {h : AHeap} {k m : Nat} {full : List Nat} {v : AVal} (a : OwB h k m full v) : ByS I h v (full.take m) := by
  obtain ⟨cap, rfl, hc⟩ := a.v
  have hm := a.le
  have hl := a.len
  have hlen : (full.take m).length = m := by rw [List.length_take]; omega
  refine .inr ⟨.own k, 0, cap, by rw [hlen], by rw [hlen]; exact hc, by rw [hlen]; omega, fun i x hi => ⟨a.by_ x (List.mem_of_mem_take (List.mem_of_getElem? hi)), fun g e => ?_⟩⟩
  have hi' : full[i]? = some x := by
    rw [List.getElem?_take] at hi
    split at hi
    · exact hi
    · cases hi
  have := byFix.get full i x 0 (.int .u8 (x : Int)) hi' rfl
  rw [rd_own', e.same k a.hi, a.at_]
  simpa using this
theorem OwB.src {h g : AHeap} {k m : Nat} {full : List Nat} {v : AVal} (a : OwB h k m full v) (x : Ext h g) : SrcL byF 1 I g v (full.take m) := by
  by_cases hz : m = 0
  · subst hz
    obtain ⟨cap, rfl, hc⟩ := a.v
    refine .inl ⟨rfl, .inr ⟨.own k, 0, cap, rfl, ?_⟩⟩
    rw [rds_own', x.same k a.hi, a.at_]
    simp
  · refine (a.bys (I := I)).src (fun e => ?_) x
    have := congrArg List.length e
    have := a.le
    rw [List.length_take] at *
    simp only [List.length_nil] at *
    omega
theorem flat_set (full : List Nat) (i z : Nat) : (full.flatMap byF).set i (.int .u8 (z : Int)) = (full.set i z).flatMap byF := by
  have e : ∀ l : List Nat, l.flatMap byF = l.map fun b : Nat => AVal.int .u8 (b : Int) := by
    intro l; induction l with
    | nil => rfl
    | cons a t ih => rw [List.flatMap_cons, ih]; rfl
  rw [e, e, List.map_set]
theorem OwB.set {h : AHeap} {k m : Nat} {full : List Nat} {v : AVal} (a : OwB h k m full v) {i z : Nat} (hz : z < 256) : OwB (h.set k ⟨(full.set i z).flatMap byF, true⟩) k m (full.set i z) v :=
  ⟨a.v, AHeap.set_at (Nb.o rfl), by simpa using a.hi, by simpa using a.le, fun x hx => by
    rcases List.mem_or_eq_of_mem_set hx with h | h
    · exact a.by_ x h
    · omega, by simpa using a.len⟩
/-- The end of the law: are the bytes told, and with one more? -/
theorem anyEnd {h : AHeap} {k m : Nat} {full : List Nat} {v : AVal} (a : OwB h k m full v) (n : Nat) : Res ((f9.J I (AM.lim ⟨P, I, genF P Sh.prims⟩) (n + 1)).2.2.2 v h) fun u _ => u = .bool true := by
  have bv := a.bys (I := I)
  have hby : ∀ x ∈ full.take m, x < 256 := fun x hx => a.by_ x (List.mem_of_mem_take hx)
  have hlen : (full.take m).length ≤ 25000000 := by rw [List.length_take]; have := a.len; omega
  have lv := bv.len
  obtain ⟨u1, g1, c1, rfl, x1⟩ := tTold (I := I) bv hby
  obtain ⟨w2, g2, c2, o2, x2, _⟩ := app_own_all (I := I) byFix (hb := g1) (xs := []) (v := .nils) (bytes := 1) Own.nil (Ext.refl g1) (a.src x1) (by omega) (by simp only [List.length_nil]; omega)
  rw [List.nil_append] at o2
  obtain ⟨w3, g3, c3, o3, x3, _⟩ := app_own (I := I) (f := byF) byFix (hb := g1) (h := g2.alloc ⟨byF 0, true⟩) (bytes := 1) (kw := g2.next) (c := .known 1) (o2.mono (Ext.refl g2).alloc) x2.alloc 0 (by omega) (by omega) (AHeap.alloc_at (Nb.o rfl))
  have hby3 : ∀ x ∈ full.take m ++ [0], x < 256 := app_lt hby (fun x hx => by simp at hx; omega)
  have b3 := own_by (I := I) o3 hby3 (by rw [List.length_append, List.length_singleton]; omega)
  obtain ⟨u4, g4, c4, rfl, x4⟩ := tTold (I := I) b3 hby3
  have ow := o2.v1
  obtain ⟨cap, hv, _⟩ := a.v
  have e0 : (byF 0 : List AVal) = [.int .u8 0] := rfl
  rw [e0] at c3
  generalize hQ : (fun (u : AVal) (_ : AHeap) => u = AVal.bool true) = Q
  have hq : ∀ g, Q (.bool true) g := fun g => by rw [← hQ]
  generalize (((full.take m).length : Nat) : Int) = L at *
  have vo : v.one = true ∧ v.cells = [v] := by rw [hv]; exact ⟨rfl, rfl⟩
  have vo1 := vo.1
  have vo2 := vo.2
  have ow1 := ow.1
  have ow2 := ow.2
  clear a bv hby o2 o3 hby3 b3 hQ hv vo ow hlen
  rw [f9.n5]; unfold f9.b5
  by_cases hL : 20000 < L
  · simp (disch := first | exact D.go | fail) [setR, List.getElem?_cons_zero, List.getElem?_cons_succ, lv, hL]
    exact hq _
  · simp (disch := first | exact D.go | fail) [setR, List.getElem?_cons_zero, List.getElem?_cons_succ, lv, hL, c1, c2, c3, c4, vo1, vo2, ow1, ow2]
    exact hq _
/-- A byte is turned, or none. -/
theorem anyXor {h : AHeap} {k m : Nat} {full : List Nat} {v : AVal} (a : OwB h k m full v) (at_ : Int) {x : Int} (n : Nat) : Res ((f9.J I (AM.lim ⟨P, I, genF P Sh.prims⟩) (n + 2)).2.2.1 (.int .i64 at_) (.int .u8 x) v h) fun u _ => u = .bool true := by
  have bv := a.bys (I := I)
  have lv := bv.len
  have hle := a.le
  have hfl := a.len
  have hlen : (full.take m).length = m := by rw [List.length_take]; omega
  rw [hlen] at lv
  have hend := anyEnd (I := I) a n
  by_cases hc : 0 < m ∧ 0 ≤ at_
  · obtain ⟨k', rfl⟩ : ∃ k' : Nat, at_ = (k' : Int) := ⟨at_.toNat, by omega⟩
    have hrem : pBin .rem (.int .i64 (k' : Int)) (.int .i64 (m : Int)) = some (.int .i64 ((k' % m : Nat) : Int)) := by
      show (if (m : Int) = 0 then none else some (AVal.int .i64 (Int.tmod (k' : Int) (m : Int)))) = _
      rw [if_neg (by omega)]; rfl
    have him : k' % m < m := Nat.mod_lt _ hc.1
    generalize k' % m = i at *
    have hx : (full.take m)[i]? = some full[i] := by rw [List.getElem?_take_of_lt him, List.getElem?_eq_getElem (by omega)]
    generalize full[i] = y at *
    obtain ⟨_, l, o, p1, hrd⟩ := bv.at_ hx
    have hrd := hrd h (Ext.refl h)
    obtain ⟨cap, hv, hcap⟩ := a.v
    have hp : pIndexAddr 1 v (.int .i64 (i : Int)) = some (.ptr (.own k) i) := by
      rw [hv]
      have h0 : pIndexAddr 1 (.sl (.own k) 0 m cap) (.int .i64 (i : Int)) = some (.ptr (.own k) (0 + i * 1)) := pIndexAddr_sl him
      simpa using h0
    rw [p1] at hp
    simp only [Option.some.injEq, AVal.ptr.injEq] at hp
    obtain ⟨rfl, rfl⟩ := hp
    obtain ⟨z, hz, hz8⟩ : ∃ z : Nat, pBin .xor (.int .u8 (y : Int)) (.int .u8 x) = some (.int .u8 (z : Int)) ∧ z < 256 := by
      refine ⟨(BitVec.ofInt 8 (y : Int) ^^^ BitVec.ofInt 8 x).toNat, ?_, (BitVec.ofInt 8 (y : Int) ^^^ BitVec.ofInt 8 x).isLt⟩
      show some (AVal.int .u8 (IntKind.u8.wrap ((BitVec.ofInt 8 (y : Int) ^^^ BitVec.ofInt 8 x).toNat : Int))) = _
      rw [wrapB (BitVec.ofInt 8 (y : Int) ^^^ BitVec.ofInt 8 x).isLt]
    have hend2 := anyEnd (I := I) (a.set (i := o) hz8) n
    rw [← flat_set] at hend2
    have hk := a.at_
    have hwl : o + 1 ≤ (full.flatMap byF).length := by rw [byFix.lenAll]; omega
    rw [List.set_eq_take_append_cons_drop, if_pos (by omega)] at hend2
    have c0 : (0 : Int) < (m : Int) := by omega
    have c1 : ¬ ((k' : Int) < 0) := by omega
    have c1' : (0 : Int) ≤ (k' : Int) := by omega
    generalize full.flatMap byF = cells at *
    generalize hQ : (fun (u : AVal) (_ : AHeap) => u = AVal.bool true) = Q at *
    generalize (k' : Int) = K at *
    generalize (m : Int) = M at *
    clear a bv hQ hend hx hc hle hfl hlen hv him
    rw [f9.n4]; unfold f9.b4
    simp (disch := first | exact D.go | fail) [setR, List.getElem?_cons_zero, List.getElem?_cons_succ, lv, c0, c1, c1', hrem, p1, hrd, hz, hk, hwl]
    exact hend2
  · by_cases c0 : (0 : Int) < (m : Int)
    · have c1 : ¬ 0 ≤ at_ := fun h => hc ⟨by omega, h⟩
      generalize hQ : (fun (u : AVal) (_ : AHeap) => u = AVal.bool true) = Q at *
      generalize (m : Int) = M at *
      clear a bv hQ hc hle hfl hlen
      rw [f9.n4]; unfold f9.b4
      simp (disch := first | exact D.go | fail) [setR, List.getElem?_cons_zero, List.getElem?_cons_succ, lv, c0, c1]
      exact hend
    · generalize hQ : (fun (u : AVal) (_ : AHeap) => u = AVal.bool true) = Q at *
      generalize (m : Int) = M at *
      clear a bv hQ hc hle hfl hlen
      rw [f9.n4]; unfold f9.b4
      simp (disch := first | exact D.go | fail) [setR, List.getElem?_cons_zero, List.getElem?_cons_succ, lv, c0]
      exact hend
end
end
end Go.Proofs.YtncjcnipagdmlaaDoor.Tx

set_option linter.unusedSimpArgs false
set_option linter.unusedVariables false
namespace Go.Proofs.YtncjcnipagdmlaaDoor.Tx
noncomputable section
open Go.AM Go.Proofs.YtncjcnipagdmlaaDoor.Sf
section
variable {I : Inp} {h0 h1 : AHeap}
theorem OwB.to {h : AHeap} {k n m : Nat} {full : List Nat} {v : AVal} (a : OwB h k n full v) (hm : m ≤ n) : ∃ u, pSliceS 1 v none (some (.int .i64 (m : Int))) none = some u ∧ OwB h k m full u := by
  obtain ⟨cap, rfl, hc⟩ := a.v
  have hn := a.le
  refine ⟨.sl (.own k) (0 + 0 * 1) (m - 0) (capMinus cap 0), ?_, ⟨capMinus cap 0, by simp, capOk_less hc hm⟩, a.at_, a.hi, by omega, a.by_, a.len⟩
  show (match Nat.ble 0 m && capHas cap 1 n m with
    | true => some (AVal.sl (.own k) (0 + 0 * 1) (m - 0) (capMinus cap 0))
    | false => none) = _
  rw [Nat.ble_eq_true_of_le (Nat.zero_le _), hc m hm]; rfl
theorem anyPg {l : AM.Loc} {o : Nat} {q : Pg} (hq : PgA I h0 l o q) (ok : PgR q) (len : (pgB q).length ≤ 25000000) (at_ cut : Int) (hcut : InR cut) {x : Int} {h : AHeap} (e : Ext h0 h) (n : Nat) : Res ((f9.J I (AM.lim ⟨P, I, genF P Sh.prims⟩) (n + 4)).1.2.2 (.ptr l o) (.int .i64 at_) (.int .u8 x) (.int .i64 cut) h) fun u _ => u = .bool true := by
  obtain ⟨v, g, hs, rfl, xg⟩ := tSmall (I := I) hq h e
  cases hB : smallB q with
  | false =>
    rw [hB] at hs
    rw [f9.n2]; unfold f9.b2
    simp (disch := first | exact D.go | fail) [setR, List.getElem?_cons_zero, List.getElem?_cons_succ, hs]
  | true =>
    rw [hB] at hs
    obtain ⟨u1, g1, c1, o1, x1⟩ := tREncG hq ok len g (e.trans xg)
    have l1 := o1.len
    have ov := o1.v1
    obtain ⟨k, a⟩ : ∃ k, OwB g1 k (pgB q).length (pgB q) u1 := by
      rcases o1 with ⟨_, h⟩ | ⟨k, rfl, hk, y1, y2, y3⟩
      · exact absurd h (pgB_ne q)
      · exact ⟨k, ⟨.grown 1, rfl, fun m hm => by simp [capHas]; exact hm⟩, hk, y2, Nat.le_refl _, pgB_lt q, len⟩
    by_cases hc : 0 < cut ∧ cut ≤ ((pgB q).length : Int)
    · obtain ⟨c, rfl⟩ : ∃ c : Nat, cut = (c : Int) := ⟨cut.toNat, by omega⟩
      obtain ⟨u2, s2, a2⟩ := a.to (m := (pgB q).length - c) (by omega)
      have hend := anyXor (I := I) a2 at_ (x := x) n
      have hw : IntKind.i64.wrap (((pgB q).length : Int) - (c : Int)) = (((pgB q).length - c : Nat) : Int) := by rw [wrap_in ⟨by omega, by omega⟩]; omega
      have n0 := hc.1
      have n1 := hc.2
      generalize hQ : (fun (u : AVal) (_ : AHeap) => u = AVal.bool true) = Q at *
      generalize (((pgB q).length - c : Nat) : Int) = M at *
      generalize ((pgB q).length : Int) = L at *
      generalize (c : Int) = C at *
      have ov1 := ov.1
      have ov2 := ov.2
      clear hq ok len o1 a a2 hQ hc hcut ov
      rw [f9.n2]; unfold f9.b2
      simp (disch := first | exact D.go | fail) [setR, List.getElem?_cons_zero, List.getElem?_cons_succ, hs, f9.n3, f9.b3, c1, l1, n0, n1, hw, s2, ov1, ov2]
      exact hend
    · have hend := anyXor (I := I) a at_ (x := x) n
      generalize hQ : (fun (u : AVal) (_ : AHeap) => u = AVal.bool true) = Q at *
      generalize ((pgB q).length : Int) = L at *
      have ov1 := ov.1
      have ov2 := ov.2
      clear hq ok len o1 a hQ hcut ov
      by_cases n0 : 0 < cut
      · have n1 : ¬ cut ≤ L := fun h => hc ⟨n0, h⟩
        clear hc
        rw [f9.n2]; unfold f9.b2
        simp (disch := first | exact D.go | fail) [setR, List.getElem?_cons_zero, List.getElem?_cons_succ, hs, f9.n3, f9.b3, c1, l1, n0, n1, ov1, ov2]
        exact hend
      · clear hc
        rw [f9.n2]; unfold f9.b2
        simp (disch := first | exact D.go | fail) [setR, List.getElem?_cons_zero, List.getElem?_cons_succ, hs, f9.n3, f9.b3, c1, l1, n0, ov1, ov2]
        exact hend
theorem anyNil (at_ cut : Int) {x : Int} (h : AHeap) (n : Nat) : Res ((f9.J I (AM.lim ⟨P, I, genF P Sh.prims⟩) (n + 4)).1.2.2 .nilp (.int .i64 at_) (.int .u8 x) (.int .i64 cut) h) fun u _ => u = .bool true := by
  obtain ⟨v, g, hs, rfl, xg⟩ := tSmall_nil (I := I) h
  rw [f9.n2]; unfold f9.b2
  simp (disch := first | exact D.go | fail) [setR, List.getElem?_cons_zero, List.getElem?_cons_succ, hs]
theorem lawAny {vp vr : AVal} {bs : List Nat} (at_ cut x : Int) (bv : ByS I h0 vr bs) (hby : ∀ y ∈ bs, y < 256) (hp : ∀ h, Ext h0 h → Res ((f9.J I (AM.lim ⟨P, I, genF P Sh.prims⟩) (6)).1.2.2 vp (.int .i64 at_) (.int .u8 x) (.int .i64 cut) h) fun u _ => u = .bool true) : Res ((AM.lim ⟨P, I, genF P Sh.prims⟩) 9 [vp, vr, .int .i64 at_, .int .u8 x, .int .i64 cut] h0) fun u _ => u = .bool true := by
  have h1 : ∀ {w : AVal} {cs : List Nat}, ByS I h0 w cs → (∀ y ∈ cs, y < 256) → Res ((f9.J I (AM.lim ⟨P, I, genF P Sh.prims⟩) (7)).1.2.1 vp w (.int .i64 at_) (.int .u8 x) (.int .i64 cut) h0) fun u _ => u = .bool true := by
    intro w cs b hb
    obtain ⟨u, g, c, rfl, xg⟩ := tTold (I := I) b hb
    have hend := hp g xg
    generalize hQ : (fun (u : AVal) (_ : AHeap) => u = AVal.bool true) = Q at *
    clear hQ hp b bv
    rw [f9.n1]; unfold f9.b1
    simp (disch := first | exact D.go | fail) [setR, List.getElem?_cons_zero, List.getElem?_cons_succ, c]
    exact hend
  have lv := bv.len
  have hb := begun (I := I) h0
  refine f9.lim rfl (n := 8) ?_
  unfold f9.e
  by_cases hl : 200 < bs.length
  · obtain ⟨u, s, b2⟩ := bv.to (m := 200) (by omega)
    have hend := h1 b2 fun y hy => hby y (List.mem_of_mem_take hy)
    have n0 : (200 : Int) < (bs.length : Int) := by omega
    have s' : pSliceS 1 vr none (some (Z 200)) none = some u := s
    have o1 := bv.one
    generalize hQ : (fun (u : AVal) (_ : AHeap) => u = AVal.bool true) = Q at *
    generalize (bs.length : Int) = L at *
    clear hQ h1 hp bv b2 hby hl s
    simp (disch := first | exact D.go | fail) [setR, List.getElem?_cons_zero, List.getElem?_cons_succ, hb, f9.n0, f9.b0, lv, n0, s', o1.1, o1.2]
    exact hend
  · have hend := h1 bv hby
    have n0 : ¬ (200 : Int) < (bs.length : Int) := by omega
    have o1 := bv.one
    generalize hQ : (fun (u : AVal) (_ : AHeap) => u = AVal.bool true) = Q at *
    generalize (bs.length : Int) = L at *
    clear hQ h1 hp bv hby hl
    simp (disch := first | exact D.go | fail) [setR, List.getElem?_cons_zero, List.getElem?_cons_succ, hb, f9.n0, f9.b0, lv, n0, o1.1, o1.2]
    exact hend
end
end
end Go.Proofs.YtncjcnipagdmlaaDoor.Tx

set_option linter.unusedSimpArgs false
set_option linter.unusedVariables false
namespace Go.Proofs.YtncjcnipagdmlaaDoor.Tx
noncomputable section
open Go.AM Go.Proofs.YtncjcnipagdmlaaDoor.Sf
theorem opens_byte [Sig] {H : Type} {enc : TypeId × Value → H} {P : Program} {W : World} {h0 : AHeap} {e : TypeId} (he : P.underlying e = some (.int .u8)) : Opens (α := Nat) enc P W h0 e ByteC := by
  intro n cs y h _
  obtain ⟨m, rfl, hw⟩ := trod_int he h
  have hm : 0 ≤ m ∧ m < 256 := by
    simp [Lit.wf, IntKind.min, IntKind.max, IntKind.bits, IntKind.signed] at hw
    omega
  refine ⟨[.int .u8 m], m.toNat, rfl, ?_, by omega⟩
  rw [Int.toNat_of_nonneg hm.1]
theorem inR_of {n : Int} (hw : (Lit.int .i64 n).wf = true) : InR n := by
  have hw := wrap_wf hw
  simp [IntKind.wrap, IntKind.bits, IntKind.signed] at hw
  unfold InR
  omega
end
end Go.Proofs.YtncjcnipagdmlaaDoor.Tx
