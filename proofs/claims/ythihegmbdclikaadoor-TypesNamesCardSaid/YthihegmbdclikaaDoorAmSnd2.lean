/- AM, part 6: '==': what the abstract machine computes is what the model computes. -/
import Derived.Test.YthihegmbdclikaaDoorAmSnd1
import Derived.Laws.StructEq
namespace Go.AM
noncomputable section
open Go.RowKit
set_option linter.unusedSectionVars false
variable [Sig]

section
variable {P : Program} {W : World} {ι : Map} {h : AHeap} {w : World}

theorem own_block (r : Rep W ι h w) {k : Nat} {b : Blk} {o : Nat} {a : Addr} (hk : h.get k = some b) (ha : (Loc.own k).at ι o a) :
    ∃ pl cs e fz, ι k = some pl ∧ a = ⟨pl.blk, pl.off + o, none⟩ ∧ w.heap[pl.blk]? = some (.cells cs e fz) ∧ (b.plain = true → fz = (0, 0)) := by
  obtain ⟨pl, hp, rfl⟩ := ha
  obtain ⟨pl', hp', _, cs, e, fz, hg, _, hpl, _⟩ := r.own k b hk
  rw [hp] at hp'; cases hp'
  exact ⟨pl, cs, e, fz, hp, rfl, hg, hpl⟩

theorem eqb_spec {l l' : Loc} (h : l.eqb l' = true) : l = l' := by
  cases l <;> cases l' <;> simp only [Loc.eqb, Nat.beq_eq, reduceCtorEq] at h
  · rw [h]
  · rw [h]

theorem at_unique {ι : Map} {l : Loc} {o o' : Nat} {a a' : Addr} (h : l.at ι o a) (h' : l.at ι o' a') : (a = a') ↔ o = o' := by
  cases l with
  | inp b =>
    have h1 : a = ⟨(place b).1, (place b).2 + o, none⟩ := h
    have h2 : a' = ⟨(place b).1, (place b).2 + o', none⟩ := h'
    subst h1; subst h2
    simp
  | own k =>
    obtain ⟨pl, hp, rfl⟩ := h
    obtain ⟨pl', hp', rfl⟩ := h'
    rw [hp] at hp'; cases hp'
    simp

theorem ptrEq_sound (r : Rep W ι h w) {x y : AVal} {p q : Value} {b : Bool} (he : ptrEq h x y = some b) (hx : VRel ι x p) (hy : VRel ι y q) (d : Nat) {t e : TypeId} {j : TypeInfo}
    (ht : P.underlying t = some (.pointer e)) (hj : P.info? e = some j) (hs : j.size ≠ 0) : (Op.equalIn (d + 1) t p q).run P w = .ok b w := by
  unfold ptrEq at he
  split at he
  · cases he; rw [inv_nilp hx, inv_nilp hy]; simp [Op.equalIn, run_underlying ht]
  · cases he; rw [inv_nilp hx]; obtain ⟨a, rfl, _⟩ := inv_ptr hy; simp [Op.equalIn, run_underlying ht]
  · cases he; rw [inv_nilp hy]; obtain ⟨a, rfl, _⟩ := inv_ptr hx; simp [Op.equalIn, run_underlying ht]
  · rename_i l o l' o'
    obtain ⟨a, rfl, ha⟩ := inv_ptr hx
    obtain ⟨a', rfl, ha'⟩ := inv_ptr hy
    split at he
    · rename_i hl
      cases he
      have := eqb_spec hl
      subst this
      have hu := at_unique ha ha'
      have hsame : (sameAddr a a').run P w = .ok (Nat.beq o o') w := by
        have hb : a.block = a'.block := by
          cases l with
          | inp b => rw [show a = ⟨(place b).1, (place b).2 + o, none⟩ from ha, show a' = ⟨(place b).1, (place b).2 + o', none⟩ from ha']
          | own k =>
            obtain ⟨pl, hp, rfl⟩ := ha
            obtain ⟨pl', hp', rfl⟩ := ha'
            rw [hp] at hp'; cases hp'; rfl
        simp only [sameAddr, hb, beq_self_eq_true, if_true]
        show Result.ok _ w = _
        congr 1
        rw [Bool.eq_iff_iff, beq_iff_eq, hu]
        simp [Nat.beq_eq]
      simp [Op.equalIn, run_underlying ht, sizeOf, typeInfo, hj, hs, hsame]
    · split at he
      · rename_i hl _ hap
        cases he
        cases l with
        | inp b => simp [apartB] at hap
        | own k =>
          cases l' with
          | inp b => simp [apartB] at hap
          | own k' =>
            cases hx' : h.get k with
            | none => simp [apartB, hx'] at hap
            | some x =>
            cases hy' : h.get k' with
            | none => simp [apartB, hx', hy'] at hap
            | some y =>
              simp only [apartB, hx', hy', Bool.and_eq_true] at hap
              obtain ⟨pl, cs, e1, fz, hp, rfl, hg, hpl⟩ := own_block r hx' ha
              obtain ⟨pl', cs', e2, fz', hp', rfl, hg', hpl'⟩ := own_block r hy' ha'
              rw [hpl hap.1] at hg
              rw [hpl' hap.2] at hg'
              have hne : k ≠ k' := fun e => by subst e; simp [Loc.eqb, Nat.beq_refl] at hl
              have hb : pl.blk ≠ pl'.blk := fun e => hne (r.inj _ _ _ _ _ _ hx' hy' hp hp' e)
              have := run_sameAddr_other (P := P) w (a := ⟨pl.blk, pl.off + o, none⟩) (b := ⟨pl'.blk, pl'.off + o', none⟩) (fun e => hb (congrArg Addr.block e)) hg hg'
              simp [Op.equalIn, run_underlying ht, sizeOf, typeInfo, hj, hs, this]
      · cases he
  · cases he

theorem part_scalar {t : TypeId} {k : ST} (ht : scalarT P t = some k) {xs : Array Value} {i : Nat} {v : Value} (hx : xs[i]? = some v) (w : World) : (part t xs i).run P w = .ok v w := by
  unfold scalarT at ht
  split at ht
  · rename_i hu; simp [part, isAgg, run_underlying hu, hx]
  · rename_i hu; simp [part, isAgg, run_underlying hu, hx]
  · rename_i hu; simp [part, isAgg, run_underlying hu, hx]
  · cases ht

theorem scalarEq_sound {k : ST} {x y : AVal} {p q : Value} {b : Bool} (he : scalarEq k x y = some b) (hx : VRel ι x p) (hy : VRel ι y q) (d : Nat) {t : TypeId} (ht : scalarT P t = some k) (w : World) :
    (Op.equalIn (d + 1) t p q).run P w = .ok b w := by
  unfold scalarEq at he
  split at he
  · rename_i k a k' b'
    split at he
    · rename_i hk
      subst hk
      cases he
      rw [inv_int hx, inv_int hy]
      unfold scalarT at ht
      split at ht <;> cases ht
      rename_i hu
      simp [Op.equalIn, run_underlying hu]
    · cases he
  · cases he
    rw [inv_bool hx, inv_bool hy]
    unfold scalarT at ht
    split at ht <;> cases ht
    rename_i hu
    simp [Op.equalIn, run_underlying hu]
  · cases he
    obtain ⟨s, rfl, rfl⟩ := inv_str hx
    obtain ⟨s', rfl, rfl⟩ := inv_str hy
    rw [natsEq_spec]
    unfold scalarT at ht
    split at ht <;> cases ht
    rename_i hu
    simp [Op.equalIn, run_underlying hu, beq_toListBytes, Lib.toList_data]
  · cases he

theorem scalarsEq_sound : ∀ {fs : List Field} {ks : List ST} {i : Nat}, scalarFields P i fs = some ks → ∀ {x y : List AVal} {p q : Array Value} {b : Bool}, scalarsEq ks x y = some b →
    VRels ι x (p.toList.drop i) → VRels ι y (q.toList.drop i) → ∀ (d : Nat) (w : World), (Op.eqFields (d + 1) p q fs).run P w = .ok b w := by
  intro fs
  induction fs with
  | nil =>
    intro ks i hk x y p q b he hx hy d w
    simp only [scalarFields, Option.some.injEq] at hk
    subst hk
    cases x <;> cases y <;> simp only [scalarsEq, reduceCtorEq] at he
    cases he
    rfl
  | cons f fs ih =>
    intro ks i hk x y p q b he hx hy d w
    simp only [scalarFields] at hk
    split at hk
    · rename_i k ks' hc hk1 hk2
      cases hk
      simp only [Bool.and_eq_true, bne_iff_ne, Nat.beq_eq] at hc
      obtain ⟨hname, hoff⟩ := hc
      cases x <;> cases y <;> simp only [scalarsEq, reduceCtorEq] at he
      rename_i a x' b0 y'
      obtain ⟨u, hu, hua⟩ := hx.get (i := 0) rfl
      obtain ⟨v, hv, hva⟩ := hy.get (i := 0) rfl
      rw [List.getElem?_drop, Nat.add_zero, Array.getElem?_toList] at hu hv
      have hx' : VRels ι x' (p.toList.drop (i + 1)) := by simpa [List.drop_drop] using hx.drop 1
      have hy' : VRels ι y' (q.toList.drop (i + 1)) := by simpa [List.drop_drop] using hy.drop 1
      have hpu := part_scalar (P := P) hk1 (xs := p) (i := f.offset) (by rw [hoff]; exact hu) w
      have hpv := part_scalar (P := P) hk1 (xs := q) (i := f.offset) (by rw [hoff]; exact hv) w
      simp only [Op.eqFields, ne_eq, hname, not_false_eq_true, if_true]
      cases hs : scalarEq k a b0 with
      | none => simp [hs] at he
      | some r =>
        have h1 := scalarEq_sound (P := P) hs hua hva d hk1 w
        cases r with
        | false => simp only [hs] at he; cases he; simp [hpu, hpv, h1]
        | true =>
          simp only [hs] at he
          have := ih hk2 he hx' hy' d w
          simp [hpu, hpv, h1, this]
    · cases hk

/-- The comparison itself. -/
theorem aeq_sound (r : Rep W ι h w) {ek : EqK} {c : Bool} {t : TypeId} {x y : AVal} {p q : Value} {b : Bool} (hk : eqKind P t = some ek) (he : aeq P h ek c x y = some b)
    (hx : VRel ι x p) (hy : VRel ι y q) : (Op.equal t p q).run P w = .ok b w := by
  have hd : ∃ d, Op.equal t p q = Op.equalIn (d + 2) t p q := ⟨9998, rfl⟩
  obtain ⟨d, hd⟩ := hd
  rw [hd]
  clear hd
  unfold eqKind at hk
  split at hk
  · rename_i hu
    cases hk
    simp only [aeq] at he
    unfold boolEq at he
    split at he <;> cases he
    rw [inv_bool hx, inv_bool hy]
    rw [show d + 2 = (d + 1) + 1 from rfl, Op.equalIn]; simp [run_underlying hu]
  · rename_i e hu
    split at hk
    · rename_i n hsz
      cases hk
      unfold sizeP at hsz
      split at hsz
      · rename_i j hj
        simp only [Option.some.injEq] at hsz
        exact ptrEq_sound r he hx hy _ hu hj (by omega)
      · cases hsz
    · cases hk
  · rename_i e hu
    cases hk
    simp only [aeq] at he
    unfold nilEqS at he
    split at he
    · cases he; rw [inv_nils hx, inv_nils hy]; rw [show d + 2 = (d + 1) + 1 from rfl, Op.equalIn]; simp [run_underlying hu]
    · cases he; rw [inv_nils hx]; obtain ⟨a, c', rfl, _⟩ := inv_sl hy; rw [show d + 2 = (d + 1) + 1 from rfl, Op.equalIn]; simp [run_underlying hu]
    · cases he; rw [inv_nils hy]; obtain ⟨a, c', rfl, _⟩ := inv_sl hx; rw [show d + 2 = (d + 1) + 1 from rfl, Op.equalIn]; simp [run_underlying hu]
    · cases he
  · rename_i hu
    cases hk
    simp only [aeq] at he
    unfold nilEqF at he
    split at he
    · cases he; rw [inv_nilf hx, inv_nilf hy]; rw [show d + 2 = (d + 1) + 1 from rfl, Op.equalIn]; simp [run_underlying hu]
    · cases he; rw [inv_nilf hx]; obtain ⟨a, c', rfl, _⟩ := inv_func hy; rw [show d + 2 = (d + 1) + 1 from rfl, Op.equalIn]; simp [run_underlying hu]
    · cases he; rw [inv_nilf hy]; obtain ⟨a, c', rfl, _⟩ := inv_func hx; rw [show d + 2 = (d + 1) + 1 from rfl, Op.equalIn]; simp [run_underlying hu]
    · cases he
  · rename_i ms hu
    cases hk
    simp only [aeq] at he
    unfold ifaceEq at he
    split at he
    · split at he
      · cases he; rw [inv_nili hx, inv_nili hy]; rw [show d + 2 = (d + 1) + 1 from rfl, Op.equalIn]; simp [run_underlying hu]
      · cases he
    · cases he; rw [inv_nili hx]; obtain ⟨a, rfl, _⟩ := inv_iface hy; rw [show d + 2 = (d + 1) + 1 from rfl, Op.equalIn]; simp [run_underlying hu]
    · cases he; rw [inv_nili hy]; obtain ⟨a, rfl, _⟩ := inv_iface hx; rw [show d + 2 = (d + 1) + 1 from rfl, Op.equalIn]; simp [run_underlying hu]
    · rename_i t1 a t2 b'
      obtain ⟨u, rfl, hu1⟩ := inv_iface hx
      obtain ⟨v, rfl, hv1⟩ := inv_iface hy
      split at he
      · rename_i hne
        cases he
        rw [show d + 2 = (d + 1) + 1 from rfl, Op.equalIn]; simp [run_underlying hu, hne]
      · rename_i hne
        simp only [ne_eq, Classical.not_not] at hne
        subst hne
        split at he
        · rename_i hp
          unfold ptrTy at hp
          split at hp
          · rename_i e i hpe hpi
            simp only [Bool.and_eq_true] at hp
            obtain ⟨hcomp, hsz⟩ := hp
            split at hsz
            · rename_i j hj
              have := ptrEq_sound (P := P) r he hu1 hv1 d hpe hj (of_decide_eq_true hsz)
              rw [show d + 2 = (d + 1) + 1 from rfl, Op.equalIn]
              simp [run_underlying hu, typeInfo, hpi, hcomp, this]
            · cases hsz
          · cases hp
        · cases he
    · cases he
  · rename_i fs hu
    split at hk
    · rename_i ks hks hc
      cases hk
      simp only [Bool.and_eq_true, Bool.not_eq_true'] at hc
      simp only [aeq] at he
      unfold structEq at he
      split at he
      · rename_i a b'
        obtain ⟨us, rfl, hus⟩ := inv_agg hx
        obtain ⟨vs, rfl, hvs⟩ := inv_agg hy
        have hf : P.fieldsOf t = fs := by simp [Program.fieldsOf, hu]
        rw [run_equalIn_struct w (d + 1) t us vs (by rw [hf]; exact hu) hc.1, hf]
        exact scalarsEq_sound hks he (by simpa using hus) (by simpa using hvs) d w
      · cases he
    · cases hk
  · cases hk

theorem eqGuard_none {op : BinOp} (h1 : op ≠ .eql) (h2 : op ≠ .neq) (t : TypeId) (x y : Operand) (p q : Value) (w : World) : (eqGuard op t x y p q).run P w = .ok () w := by
  cases op <;> first | rfl | exact absurd rfl h1 | exact absurd rfl h2

theorem eqGuard_sound {op : BinOp} {ek : EqK} {t : TypeId} {x y : Operand} {p q : Value} {a b : AVal} {v : Bool} (hk : eqKind P t = some ek) (he : aeq P h ek (isConstO x || isConstO y) a b = some v)
    (hx : VRel ι a p) (hy : VRel ι b q) (w : World) : (eqGuard op t x y p q).run P w = .ok () w := by
  have key : ∀ op : BinOp, op = .eql ∨ op = .neq → (eqGuard op t x y p q).run P w = .ok () w := by
    intro op hop
    cases hx with
    | nili =>
      cases hy with
      | nili =>
        have hc : (isConstO x || isConstO y) = true := by
          cases ek <;> simp only [aeq, boolEq, ptrEq, nilEqS, nilEqF, structEq, ifaceEq, reduceCtorEq] at he
          split at he
          · assumption
          · cases he
        rcases hop with rfl | rfl <;> cases x <;> cases y <;> first | rfl | cases hc
      | _ => rcases hop with rfl | rfl <;> rfl
    | agg cs us hs =>
      cases hy with
      | agg cs' us' hs' =>
        have hg : P.eqGuardType P.depth t = false := by
          unfold eqKind at hk
          split at hk <;> first | (cases hk; simp only [aeq, boolEq, nilEqS, nilEqF, ifaceEq, reduceCtorEq] at he; done) | skip
          · split at hk
            · cases hk; simp only [aeq, ptrEq, reduceCtorEq] at he
            · cases hk
          · split at hk
            · rename_i hc
              simp only [Bool.and_eq_true, Bool.not_eq_true'] at hc
              exact hc.2
            · cases hk
          · cases hk
        rcases hop with rfl | rfl <;> simp [eqGuard, hg]
      | _ => rcases hop with rfl | rfl <;> rfl
    | _ => rcases hop with rfl | rfl <;> rfl
  by_cases h1 : op = .eql
  · exact key op (.inl h1)
  · by_cases h2 : op = .neq
    · exact key op (.inr h2)
    · exact eqGuard_none h1 h2 t x y p q w
end

end

end Go.AM
