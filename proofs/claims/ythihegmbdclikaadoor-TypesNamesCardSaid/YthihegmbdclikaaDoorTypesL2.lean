import Derived.Test.YthihegmbdclikaaDoorTypesI
import Derived.Test.YthihegmbdclikaaDoorTypesL1
set_option linter.unusedSimpArgs false
set_option linter.unusedVariables false
namespace Go.Proofs.YthihegmbdclikaaDoor.Tx
noncomputable section
open Go.AM Go.Proofs.YthihegmbdclikaaDoor.Sf
section
variable {I : Inp}
theorem bounds_facts {q : Pg} (h : boundsB q = true) : (∀ x ∈ q.funcs, ∀ y ∈ x.blocks, y.code.length ≤ 1000000 ∧ ∀ z ∈ y.code, z.args.length ≤ 1000000) ∧ q.funcs.length ≤ 1000000 := by
  simp only [boundsB, lensB, innerB, Bool.and_eq_true, dc_eq_true] at h
  obtain ⟨⟨⟨_, hf⟩, _⟩, ⟨_, hb⟩, _⟩ := h
  refine ⟨fun x hx y hy => ?_, by omega⟩
  have hx' := hb x hx
  simp only [bodyB, Bool.and_eq_true, dc_eq_true] at hx'
  have hy' := hx'.2 y hy
  exact ⟨by omega, fun z hz => by have := hy'.2 z hz; omega⟩
theorem bkFrom_ge {PI : Ins → Bool} {ok : Bool} {f b : Int} {p : Pt} : ∀ (l : List Ins) (k : Nat), bkFrom PI ok f b k l = some p → p.f = f
  | [], k, h => by
    unfold bkFrom at h
    split at h
    · cases h
    · cases h; rfl
  | i :: r, k, h => by
    unfold bkFrom at h
    split at h
    · exact bkFrom_ge r (k + 1) h
    · cases h; rfl
theorem fuFrom_ge {PI : Ins → Bool} {PB : Bk → Bool} {f : Int} {p : Pt} : ∀ (l : List Bk) (b : Nat), fuFrom PI PB f b l = some p → p.f = f
  | [], b, h => by simp [fuFrom] at h
  | x :: r, b, h => by
    unfold fuFrom at h
    rw [Option.or_eq_some_iff] at h
    rcases h with h | ⟨_, h⟩
    · exact bkFrom_ge _ _ h
    · exact fuFrom_ge r (b + 1) h
theorem namesFrom_ge {q : Pg} {p : Pt} : ∀ (l : List Fu) (i : Nat), namesFrom q i l = some p → 0 ≤ p.f ∨ p = noPt
  | [], i, h => by
    unfold namesFrom at h
    split at h
    · cases h
    · cases h; exact .inr rfl
  | f :: r, i, h => by
    unfold namesFrom at h
    split at h
    · rw [Option.or_eq_some_iff] at h
      rcases h with h | ⟨_, h⟩
      · exact .inl (by rw [fuFrom_ge _ _ h]; omega)
      · exact namesFrom_ge r (i + 1) h
    · cases h; exact .inr rfl
theorem namesS_ge {q : Pg} {p : Pt} (h : namesS q = some p) : 0 ≤ p.f ∨ p = noPt := by
  unfold namesS at h
  split at h
  · exact namesFrom_ge _ _ h
  · cases h; exact .inr rfl
theorem lawNames {l : AM.Loc} {o : Nat} {q : Pg} {hb : AHeap} (hq : PgA I hb l o q) : Res ((AM.lim ⟨P, I, genF P Sh.prims⟩) 7 [.ptr l o] hb) fun u _ => u = .bool true := by
  cases hB : boundsB q
  · refine f7.lim rfl (n := 4) ?_
    unfold f7.e
    (repeat' (first | (refine Res_fork (fun hF => ?_) (fun hF => ?_) <;> (try have hG := Int.not_lt.2 hF) <;> (try have hG := Int.not_le.2 hF) <;> (try have hG := Int.not_lt.1 hF) <;> (try have hG := Int.not_le.1 hF)) | assumption | exact Ext.refl _ | refine Ext.trans eb ?_ | refine Ext.alloc ?_ | refine Ext.res ?_ | refine Ext.set ?_ ?_ | refine Ext.kill ?_ ?_ | ((repeat (first | with_reducible refine AHeap.Le_alloc ?_ | with_reducible refine AHeap.Le_set ?_ | with_reducible refine AHeap.Le_kill ?_ | with_reducible refine AHeap.Le_res ?_)); exact AHeap.Le.of (by omega)) | refine Ext.trans ?_ (by assumption) | (simp only [AHeap.next_alloc, AHeap.next_set, AHeap.next_kill, AHeap.next_res] at hle hsame) | simp (disch := first | omega | assumption | ((repeat (first | with_reducible refine AHeap.At_alloc ?_ | with_reducible refine AHeap.At_set ?_ | with_reducible refine AHeap.At_kill ?_ | with_reducible refine AHeap.At_res ?_)); exact AHeap.At.of (by omega)) | ((repeat (first | with_reducible refine AHeap.Ne_alloc ?_ | with_reducible refine AHeap.Ne_set ?_ | with_reducible refine AHeap.Ne_kill ?_ | with_reducible refine AHeap.Ne_res ?_)); exact AHeap.Ne.of (by omega)) | ((repeat (first | with_reducible refine AHeap.Le_alloc ?_ | with_reducible refine AHeap.Le_set ?_ | with_reducible refine AHeap.Le_kill ?_ | with_reducible refine AHeap.Le_res ?_)); exact AHeap.Le.of (by omega)) | (simp only [AHeap.next_alloc, AHeap.next_set, AHeap.next_kill, AHeap.next_res]; omega) | (repeat' (first | assumption | exact Ext.refl _ | refine Ext.trans eb ?_ | refine Ext.alloc ?_ | refine Ext.res ?_ | refine Ext.set ?_ ?_ | refine Ext.kill ?_ ?_ | ((repeat (first | with_reducible refine AHeap.Le_alloc ?_ | with_reducible refine AHeap.Le_set ?_ | with_reducible refine AHeap.Le_kill ?_ | with_reducible refine AHeap.Le_res ?_)); exact AHeap.Le.of (by omega)) | refine Ext.trans ?_ (by assumption)))) [setR, AHeap.alloc_at, AHeap.alloc_ne, AHeap.set_at, AHeap.set_ne, AHeap.kill_ne, List.getElem?_cons_zero, List.getElem?_cons_succ, f7.n0, f7.b0, f7.n1, f7.b1, f7.n2, f7.b2, begun, hB, *] | (refine Ret.thn (h0 := hb) (rBounds hq _ (by (repeat' (first | assumption | exact Ext.refl _ | refine Ext.trans eb ?_ | refine Ext.alloc ?_ | refine Ext.res ?_ | refine Ext.set ?_ ?_ | refine Ext.kill ?_ ?_ | ((repeat (first | with_reducible refine AHeap.Le_alloc ?_ | with_reducible refine AHeap.Le_set ?_ | with_reducible refine AHeap.Le_kill ?_ | with_reducible refine AHeap.Le_res ?_)); exact AHeap.Le.of (by omega)) | refine Ext.trans ?_ (by assumption))))) ?_ (fun g hg hlo hle hsame hx => ?_))))
  · obtain ⟨ha, hl⟩ := bounds_facts hB
    cases hN : namesS q with
    | none =>
      have tN : ∀ h, Ext hb h → Ret ((AM.lim ⟨P, I, genF P Sh.prims⟩) 20 [.ptr l o] h) h .nili := fun h e => by
        have := tNames hq h e
        rw [hN] at this
        exact this
      refine f7.lim rfl (n := 4) ?_
      unfold f7.e
      (repeat' (first | (refine Res_fork (fun hF => ?_) (fun hF => ?_) <;> (try have hG := Int.not_lt.2 hF) <;> (try have hG := Int.not_le.2 hF) <;> (try have hG := Int.not_lt.1 hF) <;> (try have hG := Int.not_le.1 hF)) | assumption | exact Ext.refl _ | refine Ext.trans eb ?_ | refine Ext.alloc ?_ | refine Ext.res ?_ | refine Ext.set ?_ ?_ | refine Ext.kill ?_ ?_ | ((repeat (first | with_reducible refine AHeap.Le_alloc ?_ | with_reducible refine AHeap.Le_set ?_ | with_reducible refine AHeap.Le_kill ?_ | with_reducible refine AHeap.Le_res ?_)); exact AHeap.Le.of (by omega)) | refine Ext.trans ?_ (by assumption) | (simp only [AHeap.next_alloc, AHeap.next_set, AHeap.next_kill, AHeap.next_res] at hle hsame) | simp (disch := first | omega | assumption | ((repeat (first | with_reducible refine AHeap.At_alloc ?_ | with_reducible refine AHeap.At_set ?_ | with_reducible refine AHeap.At_kill ?_ | with_reducible refine AHeap.At_res ?_)); exact AHeap.At.of (by omega)) | ((repeat (first | with_reducible refine AHeap.Ne_alloc ?_ | with_reducible refine AHeap.Ne_set ?_ | with_reducible refine AHeap.Ne_kill ?_ | with_reducible refine AHeap.Ne_res ?_)); exact AHeap.Ne.of (by omega)) | ((repeat (first | with_reducible refine AHeap.Le_alloc ?_ | with_reducible refine AHeap.Le_set ?_ | with_reducible refine AHeap.Le_kill ?_ | with_reducible refine AHeap.Le_res ?_)); exact AHeap.Le.of (by omega)) | (simp only [AHeap.next_alloc, AHeap.next_set, AHeap.next_kill, AHeap.next_res]; omega) | (repeat' (first | assumption | exact Ext.refl _ | refine Ext.trans eb ?_ | refine Ext.alloc ?_ | refine Ext.res ?_ | refine Ext.set ?_ ?_ | refine Ext.kill ?_ ?_ | ((repeat (first | with_reducible refine AHeap.Le_alloc ?_ | with_reducible refine AHeap.Le_set ?_ | with_reducible refine AHeap.Le_kill ?_ | with_reducible refine AHeap.Le_res ?_)); exact AHeap.Le.of (by omega)) | refine Ext.trans ?_ (by assumption)))) [setR, AHeap.alloc_at, AHeap.alloc_ne, AHeap.set_at, AHeap.set_ne, AHeap.kill_ne, List.getElem?_cons_zero, List.getElem?_cons_succ, f7.n0, f7.b0, f7.n1, f7.b1, f7.n2, f7.b2, begun, hB, hN, noPt_f, noPt_b, noPt_i, *] | (refine Ret.thn (h0 := hb) (rBounds hq _ (by (repeat' (first | assumption | exact Ext.refl _ | refine Ext.trans eb ?_ | refine Ext.alloc ?_ | refine Ext.res ?_ | refine Ext.set ?_ ?_ | refine Ext.kill ?_ ?_ | ((repeat (first | with_reducible refine AHeap.Le_alloc ?_ | with_reducible refine AHeap.Le_set ?_ | with_reducible refine AHeap.Le_kill ?_ | with_reducible refine AHeap.Le_res ?_)); exact AHeap.Le.of (by omega)) | refine Ext.trans ?_ (by assumption))))) ?_ (fun g hg hlo hle hsame hx => ?_)) | (refine Ret.thn (h0 := hb) (rNames hq _ (by (repeat' (first | assumption | exact Ext.refl _ | refine Ext.trans eb ?_ | refine Ext.alloc ?_ | refine Ext.res ?_ | refine Ext.set ?_ ?_ | refine Ext.kill ?_ ?_ | ((repeat (first | with_reducible refine AHeap.Le_alloc ?_ | with_reducible refine AHeap.Le_set ?_ | with_reducible refine AHeap.Le_kill ?_ | with_reducible refine AHeap.Le_res ?_)); exact AHeap.Le.of (by omega)) | refine Ext.trans ?_ (by assumption)))) ha hl) ?_ (fun g hg hlo hle hsame hx => ?_)) | (refine Ret.thn (h0 := hb) (tN _ (by (repeat' (first | assumption | exact Ext.refl _ | refine Ext.trans eb ?_ | refine Ext.alloc ?_ | refine Ext.res ?_ | refine Ext.set ?_ ?_ | refine Ext.kill ?_ ?_ | ((repeat (first | with_reducible refine AHeap.Le_alloc ?_ | with_reducible refine AHeap.Le_set ?_ | with_reducible refine AHeap.Le_kill ?_ | with_reducible refine AHeap.Le_res ?_)); exact AHeap.Le.of (by omega)) | refine Ext.trans ?_ (by assumption))))) ?_ (fun g hg hlo hle hsame hx => ?_))))
    | some p =>
      have tN : ∀ h, Ext hb h → Res ((AM.lim ⟨P, I, genF P Sh.prims⟩) 20 [.ptr l o] h) fun u g => ErrIs I g 3 p u ∧ Ext h g := fun h e => by
        have := tNames hq h e
        rw [hN] at this
        exact this
      refine f7.lim rfl (n := 4) ?_
      unfold f7.e
      (repeat' (first | (refine Res_fork (fun hF => ?_) (fun hF => ?_) <;> (try have hG := Int.not_lt.2 hF) <;> (try have hG := Int.not_le.2 hF) <;> (try have hG := Int.not_lt.1 hF) <;> (try have hG := Int.not_le.1 hF)) | assumption | exact Ext.refl _ | refine Ext.trans eb ?_ | refine Ext.alloc ?_ | refine Ext.res ?_ | refine Ext.set ?_ ?_ | refine Ext.kill ?_ ?_ | ((repeat (first | with_reducible refine AHeap.Le_alloc ?_ | with_reducible refine AHeap.Le_set ?_ | with_reducible refine AHeap.Le_kill ?_ | with_reducible refine AHeap.Le_res ?_)); exact AHeap.Le.of (by omega)) | refine Ext.trans ?_ (by assumption) | (simp only [AHeap.next_alloc, AHeap.next_set, AHeap.next_kill, AHeap.next_res] at hle hsame) | simp (disch := first | omega | assumption | ((repeat (first | with_reducible refine AHeap.At_alloc ?_ | with_reducible refine AHeap.At_set ?_ | with_reducible refine AHeap.At_kill ?_ | with_reducible refine AHeap.At_res ?_)); exact AHeap.At.of (by omega)) | ((repeat (first | with_reducible refine AHeap.Ne_alloc ?_ | with_reducible refine AHeap.Ne_set ?_ | with_reducible refine AHeap.Ne_kill ?_ | with_reducible refine AHeap.Ne_res ?_)); exact AHeap.Ne.of (by omega)) | ((repeat (first | with_reducible refine AHeap.Le_alloc ?_ | with_reducible refine AHeap.Le_set ?_ | with_reducible refine AHeap.Le_kill ?_ | with_reducible refine AHeap.Le_res ?_)); exact AHeap.Le.of (by omega)) | (simp only [AHeap.next_alloc, AHeap.next_set, AHeap.next_kill, AHeap.next_res]; omega) | (repeat' (first | assumption | exact Ext.refl _ | refine Ext.trans eb ?_ | refine Ext.alloc ?_ | refine Ext.res ?_ | refine Ext.set ?_ ?_ | refine Ext.kill ?_ ?_ | ((repeat (first | with_reducible refine AHeap.Le_alloc ?_ | with_reducible refine AHeap.Le_set ?_ | with_reducible refine AHeap.Le_kill ?_ | with_reducible refine AHeap.Le_res ?_)); exact AHeap.Le.of (by omega)) | refine Ext.trans ?_ (by assumption)))) [setR, AHeap.alloc_at, AHeap.alloc_ne, AHeap.set_at, AHeap.set_ne, AHeap.kill_ne, List.getElem?_cons_zero, List.getElem?_cons_succ, f7.n0, f7.b0, f7.n1, f7.b1, f7.n2, f7.b2, begun, hB, hN, *] | (refine Ret.thn (h0 := hb) (rBounds hq _ (by (repeat' (first | assumption | exact Ext.refl _ | refine Ext.trans eb ?_ | refine Ext.alloc ?_ | refine Ext.res ?_ | refine Ext.set ?_ ?_ | refine Ext.kill ?_ ?_ | ((repeat (first | with_reducible refine AHeap.Le_alloc ?_ | with_reducible refine AHeap.Le_set ?_ | with_reducible refine AHeap.Le_kill ?_ | with_reducible refine AHeap.Le_res ?_)); exact AHeap.Le.of (by omega)) | refine Ext.trans ?_ (by assumption))))) ?_ (fun g hg hlo hle hsame hx => ?_)) | (refine Ret.thn (h0 := hb) (rNames hq _ (by (repeat' (first | assumption | exact Ext.refl _ | refine Ext.trans eb ?_ | refine Ext.alloc ?_ | refine Ext.res ?_ | refine Ext.set ?_ ?_ | refine Ext.kill ?_ ?_ | ((repeat (first | with_reducible refine AHeap.Le_alloc ?_ | with_reducible refine AHeap.Le_set ?_ | with_reducible refine AHeap.Le_kill ?_ | with_reducible refine AHeap.Le_res ?_)); exact AHeap.Le.of (by omega)) | refine Ext.trans ?_ (by assumption)))) ha hl) ?_ (fun g hg hlo hle hsame hx => ?_)) | (refine Res.call (h0 := hb) (tN _ (by (repeat' (first | assumption | exact Ext.refl _ | refine Ext.trans eb ?_ | refine Ext.alloc ?_ | refine Ext.res ?_ | refine Ext.set ?_ ?_ | refine Ext.kill ?_ ?_ | ((repeat (first | with_reducible refine AHeap.Le_alloc ?_ | with_reducible refine AHeap.Le_set ?_ | with_reducible refine AHeap.Le_kill ?_ | with_reducible refine AHeap.Le_res ?_)); exact AHeap.Le.of (by omega)) | refine Ext.trans ?_ (by assumption))))) ?_ (fun u g hA hg hlo hle hsame hx => ?_)) | (refine Ret.thn (h0 := hb) (says_err _ (hA.mono (by (repeat' (first | assumption | exact Ext.refl _ | refine Ext.trans eb ?_ | refine Ext.alloc ?_ | refine Ext.res ?_ | refine Ext.set ?_ ?_ | refine Ext.kill ?_ ?_ | ((repeat (first | with_reducible refine AHeap.Le_alloc ?_ | with_reducible refine AHeap.Le_set ?_ | with_reducible refine AHeap.Le_kill ?_ | with_reducible refine AHeap.Le_res ?_)); exact AHeap.Le.of (by omega)) | refine Ext.trans ?_ (by assumption))))) 3 p (by simp) rfl rfl (namesS_ge hN)) ?_ (fun g hg hlo hle hsame hx => ?_))))
theorem lawNames_nil (hb : AHeap) : Res ((AM.lim ⟨P, I, genF P Sh.prims⟩) 7 [.nilp] hb) fun u _ => u = .bool true := by
  refine f7.lim rfl (n := 4) ?_
  unfold f7.e
  (repeat' (first | (refine Res_fork (fun hF => ?_) (fun hF => ?_) <;> (try have hG := Int.not_lt.2 hF) <;> (try have hG := Int.not_le.2 hF) <;> (try have hG := Int.not_lt.1 hF) <;> (try have hG := Int.not_le.1 hF)) | assumption | exact Ext.refl _ | refine Ext.trans eb ?_ | refine Ext.alloc ?_ | refine Ext.res ?_ | refine Ext.set ?_ ?_ | refine Ext.kill ?_ ?_ | ((repeat (first | with_reducible refine AHeap.Le_alloc ?_ | with_reducible refine AHeap.Le_set ?_ | with_reducible refine AHeap.Le_kill ?_ | with_reducible refine AHeap.Le_res ?_)); exact AHeap.Le.of (by omega)) | refine Ext.trans ?_ (by assumption) | (simp only [AHeap.next_alloc, AHeap.next_set, AHeap.next_kill, AHeap.next_res] at hle hsame) | simp (disch := first | omega | assumption | ((repeat (first | with_reducible refine AHeap.At_alloc ?_ | with_reducible refine AHeap.At_set ?_ | with_reducible refine AHeap.At_kill ?_ | with_reducible refine AHeap.At_res ?_)); exact AHeap.At.of (by omega)) | ((repeat (first | with_reducible refine AHeap.Ne_alloc ?_ | with_reducible refine AHeap.Ne_set ?_ | with_reducible refine AHeap.Ne_kill ?_ | with_reducible refine AHeap.Ne_res ?_)); exact AHeap.Ne.of (by omega)) | ((repeat (first | with_reducible refine AHeap.Le_alloc ?_ | with_reducible refine AHeap.Le_set ?_ | with_reducible refine AHeap.Le_kill ?_ | with_reducible refine AHeap.Le_res ?_)); exact AHeap.Le.of (by omega)) | (simp only [AHeap.next_alloc, AHeap.next_set, AHeap.next_kill, AHeap.next_res]; omega) | (repeat' (first | assumption | exact Ext.refl _ | refine Ext.trans eb ?_ | refine Ext.alloc ?_ | refine Ext.res ?_ | refine Ext.set ?_ ?_ | refine Ext.kill ?_ ?_ | ((repeat (first | with_reducible refine AHeap.Le_alloc ?_ | with_reducible refine AHeap.Le_set ?_ | with_reducible refine AHeap.Le_kill ?_ | with_reducible refine AHeap.Le_res ?_)); exact AHeap.Le.of (by omega)) | refine Ext.trans ?_ (by assumption)))) [setR, AHeap.alloc_at, AHeap.alloc_ne, AHeap.set_at, AHeap.set_ne, AHeap.kill_ne, List.getElem?_cons_zero, List.getElem?_cons_succ, f7.n0, f7.b0, f7.n1, f7.b1, f7.n2, f7.b2, begun, *] | (refine Ret.thn (h0 := hb) (rBounds_nil _) ?_ (fun g hg hlo hle hsame hx => ?_))))
end
end
end Go.Proofs.YthihegmbdclikaaDoor.Tx
