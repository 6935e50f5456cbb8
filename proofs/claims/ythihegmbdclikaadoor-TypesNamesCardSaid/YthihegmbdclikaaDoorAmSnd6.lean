/- AM, part 10: cuts of strings and arrays, fields, indexes, assertions, lengths: what the abstract machine computes is what the model computes. -/
import Derived.Test.YthihegmbdclikaaDoorAmSnd5
namespace Go.AM
noncomputable section
open Go.RowKit
set_option linter.unusedSectionVars false
variable [Sig]

section
variable {P : Program} {W : World} {I : Inp} {ι : Map} {h : AHeap} {w : World}

theorem sliceStr_op {t : TypeId} {lo hi : Option Operand} {lo' hi' : Option AOpd} {s : List Nat} {p : Value} {a b : Nat} (hu : P.underlying t = some .string)
    (h1 : cOpt lo = some lo') (h2 : cOpt hi = some hi') {n : Nat} {f : Fr} {ac : Act} (hr : FrRel ι n f ac.tmps) (hx : VRel ι (.str s) p)
    (e1 : optNat f 0 lo' = some a) (e2 : optNat f s.length hi' = some b) (hab : a ≤ b) (hb : b ≤ s.length) (w : World) :
    ∃ u, (Instr.sliceAt t p (lo.map ac.eval) (hi.map ac.eval) none).run P w = .ok u w ∧ VRel ι (.str ((s.drop a).take (b - a))) u := by
  obtain ⟨s', rfl, rfl⟩ := inv_str hx
  have hl : (s'.data.toList.map UInt8.toNat).length = s'.size := by simp
  rw [hl] at e2 hb
  have r1 := optNat_rel h1 hr e1
  have r2 := optNat_rel h2 hr e2
  have := run_bounds (P := P) (isS := false) (mx := none) (cap := s'.size) r1 r2 (.inl ⟨rfl, rfl⟩) (by simp) hab hb (Nat.le_refl _) w
  refine ⟨.string (s'.extract a b), by simp [Instr.sliceAt, Instr.slice, run_underlying hu, this], .str _ _ ?_⟩
  have : (s'.extract a b).data.toList = (s'.data.toList.drop a).take (b - a) := by
    rw [ByteArray.data_extract, Array.toList_extract]
  rw [this, List.map_take, List.map_drop]

theorem sliceArr_op {t e : TypeId} {sz m : Nat} {lo hi mx : Option Operand} {lo' hi' mx' : Option AOpd} {l : Loc} {o : Nat} {v : AVal} {p : Value} (hu : P.underlying t = some (.array m e)) (hsz : sizeP P e = some sz)
    (h1 : cOpt lo = some lo') (h2 : cOpt hi = some hi') (h3 : cOpt mx = some mx') {n : Nat} {f : Fr} {a : Act} (hr : FrRel ι n f a.tmps) (hx : VRel ι (.ptr l o) p) (hv : sliceOf f sz (.sl l o m (.known m)) lo' hi' mx' = some v) (w : World) :
    ∃ u, (Instr.sliceAt t p (lo.map a.eval) (hi.map a.eval) (mx.map a.eval)).run P w = .ok u w ∧ VRel ι v u := by
  obtain ⟨ad, rfl, had⟩ := inv_ptr hx
  obtain ⟨i, hi1, hs⟩ := sizeP_spec hsz
  simp only [sliceOf] at hv
  split at hv
  · rename_i a' b' e1 e2
    have r1 := optNat_rel h1 hr e1
    have r2 := optNat_rel h2 hr e2
    split at hv
    · split at hv
      · rename_i hc
        cases hv
        simp only [Bool.and_eq_true] at hc
        have hab := Nat.le_of_ble_eq_true hc.1
        have hbc : b' ≤ m := Nat.le_of_ble_eq_true hc.2
        have hmx : mx = none := by cases mx with | none => rfl | some y => simp only [cOpt] at h3; split at h3 <;> cases h3
        subst hmx
        have := run_bounds (P := P) (isS := false) (mx := none) (cap := m) r1 r2 (.inl ⟨rfl, rfl⟩) (by simp) hab hbc (Nat.le_refl _) w
        have hcr := cut_rel (ι := ι) (ad := ad) (cap := .known m) (cap' := capMinus (.known m) a') (len := m) (fun _ => had) rfl hc.2 hab hbc (Nat.le_refl _) (.inl ⟨rfl, rfl⟩)
        refine ⟨_, ?_, hcr⟩
        simp only [Instr.sliceAt, Instr.sureAddr, Sem.run_bind, run_underlying hu, Result.andThen_ok, Option.map_none, this, run_sizeOf' hi1, hs, Sem.run_pure]
      · cases hv
    · rename_i m'
      cases e3 : asNat (m'.ev f) with
      | none => simp [e3] at hv
      | some mm =>
        cases hi' with
        | none => simp [e3] at hv
        | some y =>
        simp only [e3] at hv
        split at hv
        · rename_i hc
          cases hv
          simp only [Bool.and_eq_true] at hc
          obtain ⟨⟨hc1, hc2⟩, hc3⟩ := hc
          have hab := Nat.le_of_ble_eq_true hc1
          have hbm := Nat.le_of_ble_eq_true hc2
          have hmc : mm ≤ m := Nat.le_of_ble_eq_true hc3
          have r3 : IdxRel (mx.map a.eval) m mm := optNat_rel h3 hr (d := m) (by simp only [optNat]; exact e3)
          have hm : (mx.map a.eval).isSome = true → (hi.map a.eval).isSome = true := by
            intro _
            cases hi with
            | none => simp only [cOpt, Option.some.injEq] at h2; cases h2
            | some z => simp
          have := run_bounds (P := P) (isS := false) (cap := m) r1 r2 r3 hm hab hbm hmc w
          have hcr := cut_rel (ι := ι) (ad := ad) (sz := sz) (cap := .known m) (cap' := .known (mm - a')) (len := m) (fun _ => had) rfl (Nat.ble_eq_true_of_le (Nat.le_trans hbm hmc)) hab hbm hmc (.inr rfl)
          refine ⟨_, ?_, hcr⟩
          simp only [Instr.sliceAt, Instr.sureAddr, Sem.run_bind, run_underlying hu, Result.andThen_ok, this, run_sizeOf' hi1, hs, Sem.run_pure]
        · cases hv
  · cases hv

theorem fieldAddr_op {s : TypeId} {fields : Array Field} {i m : Nat} {fd : Field} {l : Loc} {o : Nat} {p : Value} (hu : P.underlying s = some (.struct fields)) (hf : fields[i]? = some fd) (hs : sizeP P fd.type = some (m + 1))
    (hx : VRel ι (.ptr l o) p) (w : World) : ∃ u, (Instr.fieldAt s p i).run P w = .ok u w ∧ VRel ι (.ptr l (o + fd.offset)) u := by
  obtain ⟨a, rfl, ha⟩ := inv_ptr hx
  obtain ⟨j, hj, hm⟩ := sizeP_spec hs
  refine ⟨.pointer (some (a.add fd.offset)), ?_, .ptr _ _ _ (Loc.at_add ha)⟩
  simp [Instr.fieldAt, run_underlying hu, hf, Instr.sureAddr, fieldPlace, run_sizeOf' hj, hm]

theorem part1 {t : TypeId} (ht : isAggP P t = some false) {cs : Array Value} {off : Nat} {v : Value} (hv : cs[off]? = some v) (w : World) : (part t cs off).run P w = .ok v w := by
  simp [part, isAggP_spec ht, hv]
theorem partN {t : TypeId} {n : Nat} (ht : isAggP P t = some true) (hn : sizeP P t = some n) {cs : Array Value} {off : Nat} (w : World) : (part t cs off).run P w = .ok (.agg (cs.extract off (off + n))) w := by
  obtain ⟨i, hi, hs⟩ := sizeP_spec hn
  simp [part, isAggP_spec ht, run_sizeOf' hi, hs]

theorem extract_rel {cs : List AVal} {us : Array Value} (hr : VRels ι cs us.toList) (off n : Nat) : VRels ι ((cs.drop off).take n) (us.extract off (off + n)).toList := by
  have : (us.extract off (off + n)).toList = (us.toList.drop off).take n := by
    rw [Array.toList_extract]
    simp
  rw [this]
  exact (hr.drop off).take n

theorem field1_op {t : TypeId} {fields : Array Field} {i : Nat} {fd : Field} {cs : List AVal} {v : AVal} {p : Value} (hu : P.underlying t = some (.struct fields)) (hf : fields[i]? = some fd) (ht : isAggP P fd.type = some false)
    (hx : VRel ι (.agg cs) p) (hv : cs[fd.offset]? = some v) (w : World) : ∃ u, (Instr.field t p i).run P w = .ok u w ∧ VRel ι v u := by
  obtain ⟨us, rfl, hus⟩ := inv_agg hx
  obtain ⟨u, hu1, hr⟩ := hus.get hv
  rw [Array.getElem?_toList] at hu1
  exact ⟨u, by simp [Instr.field, run_underlying hu, hf, asAgg, part1 ht hu1], hr⟩

theorem fieldN_op {t : TypeId} {fields : Array Field} {i n : Nat} {fd : Field} {cs : List AVal} {p : Value} (hu : P.underlying t = some (.struct fields)) (hf : fields[i]? = some fd) (ht : isAggP P fd.type = some true) (hn : sizeP P fd.type = some n)
    (hx : VRel ι (.agg cs) p) (w : World) : ∃ u, (Instr.field t p i).run P w = .ok u w ∧ VRel ι (.agg ((cs.drop fd.offset).take n)) u := by
  obtain ⟨us, rfl, hus⟩ := inv_agg hx
  exact ⟨_, by simp [Instr.field, run_underlying hu, hf, asAgg, partN ht hn], .agg _ _ (extract_rel hus _ _)⟩

theorem idx_int {v : AVal} {q : Value} {j : Nat} (hq : VRel ι v q) (hj : asNat v = some j) : ∃ k, q = .int k (j : Int) := by
  obtain ⟨k, rfl⟩ := asNat_spec hj
  exact ⟨k, inv_int hq⟩

theorem indexAddr_op {t e : TypeId} {sz : Nat} {l : Loc} {o n j : Nat} {cap : Cap} {p q : Value} {vi : AVal} (hu : P.underlying t = some (.slice e)) (hsz : sizeP P e = some sz) (hx : VRel ι (.sl l o n cap) p) (hq : VRel ι vi q)
    (hj : asNat vi = some j) (hlt : j < n) (w : World) : ∃ u, (Instr.indexAt t p q).run P w = .ok u w ∧ VRel ι (.ptr l (o + j * sz)) u := by
  obtain ⟨a, c, rfl, hlc, hat, _⟩ := inv_sl hx
  obtain ⟨k, rfl⟩ := idx_int hq hj
  obtain ⟨i, hi, hs⟩ := sizeP_spec hsz
  refine ⟨.pointer (some (a.add (j * sz))), ?_, .ptr _ _ _ (Loc.at_add (hat (by omega)))⟩
  simp [Instr.indexAt, asIntOf, run_underlying hu, hlt, run_sizeOf' hi, hs]

theorem indexAddrArr_op {t e : TypeId} {sz : Nat} {l : Loc} {o n j : Nat} {p q : Value} {vi : AVal} (hu : P.underlying t = some (.array n e)) (hsz : sizeP P e = some sz) (hx : VRel ι (.ptr l o) p) (hq : VRel ι vi q)
    (hj : asNat vi = some j) (hlt : j < n) (w : World) : ∃ u, (Instr.indexAt t p q).run P w = .ok u w ∧ VRel ι (.ptr l (o + j * sz)) u := by
  obtain ⟨a, rfl, ha⟩ := inv_ptr hx
  obtain ⟨k, rfl⟩ := idx_int hq hj
  obtain ⟨i, hi, hs⟩ := sizeP_spec hsz
  refine ⟨.pointer (some (a.add (j * sz))), ?_, .ptr _ _ _ (Loc.at_add ha)⟩
  simp [Instr.indexAt, asIntOf, run_underlying hu, Instr.sureAddr, hlt, run_sizeOf' hi, hs]

theorem indexStr_op {t : TypeId} {s : List Nat} {j b : Nat} {p q : Value} {vi : AVal} (hu : P.underlying t = some .string) (hx : VRel ι (.str s) p) (hq : VRel ι vi q)
    (hj : asNat vi = some j) (hb : s[j]? = some b) (w : World) : ∃ u, (Instr.index t p q).run P w = .ok u w ∧ VRel ι (.int .u8 b) u := by
  obtain ⟨s', rfl, rfl⟩ := inv_str hx
  obtain ⟨k, rfl⟩ := idx_int hq hj
  simp only [List.getElem?_map, Option.map_eq_some_iff] at hb
  obtain ⟨c, hc, rfl⟩ := hb
  rw [Array.getElem?_toList] at hc
  have hj' : j < s'.size := (Array.getElem?_eq_some_iff.1 hc).1
  have hcc : s'[j]? = some c := by
    rw [getElem?_pos s' j hj']
    have := (Array.getElem?_eq_some_iff.1 hc).2
    exact congrArg some this
  exact ⟨.int .u8 c.toNat, by simp [Instr.index, asIntOf, run_underlying hu, hcc], .int _ _⟩

theorem index1_op {t e : TypeId} {n j : Nat} {cs : List AVal} {v : AVal} {p q : Value} {vi : AVal} (hu : P.underlying t = some (.array n e)) (ht : isAggP P e = some false) (hsz : sizeP P e = some 1) (hx : VRel ι (.agg cs) p) (hq : VRel ι vi q)
    (hj : asNat vi = some j) (hlt : j < n) (hv : cs[j]? = some v) (w : World) : ∃ u, (Instr.index t p q).run P w = .ok u w ∧ VRel ι v u := by
  obtain ⟨us, rfl, hus⟩ := inv_agg hx
  obtain ⟨k, rfl⟩ := idx_int hq hj
  obtain ⟨i, hi, hs⟩ := sizeP_spec hsz
  obtain ⟨u, hu1, hr⟩ := hus.get hv
  rw [Array.getElem?_toList] at hu1
  exact ⟨u, by simp [Instr.index, asIntOf, run_underlying hu, hlt, run_sizeOf' hi, hs, part1 ht hu1], hr⟩

theorem indexN_op {t e : TypeId} {n j sz : Nat} {cs : List AVal} {p q : Value} {vi : AVal} (hu : P.underlying t = some (.array n e)) (ht : isAggP P e = some true) (hsz : sizeP P e = some sz) (hx : VRel ι (.agg cs) p) (hq : VRel ι vi q)
    (hj : asNat vi = some j) (hlt : j < n) (w : World) : ∃ u, (Instr.index t p q).run P w = .ok u w ∧ VRel ι (.agg ((cs.drop (j * sz)).take sz)) u := by
  obtain ⟨us, rfl, hus⟩ := inv_agg hx
  obtain ⟨k, rfl⟩ := idx_int hq hj
  obtain ⟨i, hi, hs⟩ := sizeP_spec hsz
  exact ⟨_, by simp [Instr.index, asIntOf, run_underlying hu, hlt, run_sizeOf' hi, hs, partN ht hsz], .agg _ _ (extract_rel hus _ _)⟩

theorem extract_op {vs : List AVal} {i : Nat} {v : AVal} {p : Value} (hx : VRel ι (.tuple vs) p) (hv : vs[i]? = some v) (w : World) : ∃ u, (Instr.extract p i).run P w = .ok u w ∧ VRel ι v u := by
  obtain ⟨us, rfl, hus⟩ := inv_tuple hx
  obtain ⟨u, hu1, hr⟩ := hus.get hv
  rw [Array.getElem?_toList] at hu1
  exact ⟨u, by simp [Instr.extract, hu1], hr⟩

theorem len_op {t : TypeId} {d : TypeDesc} {x : AVal} {p : Value} {n : Nat} {ts : Array TypeId} {ty : TypeId} {ps : Array Value} (h0 : ts[0]? = some t) (h1 : ps[0]? = some p)
    (hu : P.underlying t = some d) (hd : d = .string ∧ (∃ s, x = .str s ∧ n = s.length) ∨ (∃ e, d = .slice e) ∧ ((x = .nils ∧ n = 0) ∨ ∃ l o c, x = .sl l o n c)) (hx : VRel ι x p) (w : World) :
    (Builtin.len_ ts ty ps).run P w = .ok (.int .i64 n) w := by
  rcases hd with ⟨rfl, s, rfl, rfl⟩ | ⟨⟨e, rfl⟩, ⟨rfl, rfl⟩ | ⟨l, o, c, rfl⟩⟩
  · obtain ⟨s', rfl, rfl⟩ := inv_str hx
    have hl : (s'.data.toList.map UInt8.toNat).length = s'.size := by simp
    rw [hl]
    simp [Builtin.len_, h0, h1, run_underlying hu, goInt]
  · rw [inv_nils hx] at h1
    simp [Builtin.len_, h0, h1, run_underlying hu, goInt]
  · obtain ⟨a, c', rfl, _⟩ := inv_sl hx
    simp [Builtin.len_, h0, h1, run_underlying hu, goInt]

theorem minInts_max {k : IntKind} : ∀ {a : Int} {xs : List AVal} {v : AVal}, minInts true k a xs = some v → ∀ {us : List Value}, VRels ι xs us → ∀ w, ∃ u, (us.foldlM Builtin.max2 (.int k a)).run P w = .ok u w ∧ VRel ι v u := by
  intro a xs
  induction xs generalizing a with
  | nil => intro v hv us hr w; cases hr; simp only [minInts, Option.some.injEq] at hv; subst hv; exact ⟨_, rfl, .int _ _⟩
  | cons x r ih =>
    intro v hv us hr w
    cases hr with
    | cons hv1 hrs =>
      unfold minInts at hv
      split at hv
      · rename_i heq; cases heq
      · rename_i k1 a1 k2 b r' heq
        cases heq
        split at hv
        · rename_i hk
          subst hk
          rw [inv_int hv1]
          obtain ⟨u, h1, h2⟩ := ih hv hrs w
          refine ⟨u, ?_, h2⟩
          simp only [if_true] at h1
          simp [List.foldlM_cons, Builtin.max2, h1]
        · cases hv
      · cases hv

theorem minInts_min {k : IntKind} : ∀ {a : Int} {xs : List AVal} {v : AVal}, minInts false k a xs = some v → ∀ {us : List Value}, VRels ι xs us → ∀ w, ∃ u, (us.foldlM Builtin.min2 (.int k a)).run P w = .ok u w ∧ VRel ι v u := by
  intro a xs
  induction xs generalizing a with
  | nil => intro v hv us hr w; cases hr; simp only [minInts, Option.some.injEq] at hv; subst hv; exact ⟨_, rfl, .int _ _⟩
  | cons x r ih =>
    intro v hv us hr w
    cases hr with
    | cons hv1 hrs =>
      unfold minInts at hv
      split at hv
      · rename_i heq; cases heq
      · rename_i k1 a1 k2 b r' heq
        cases heq
        split at hv
        · rename_i hk
          subst hk
          rw [inv_int hv1]
          obtain ⟨u, h1, h2⟩ := ih hv hrs w
          refine ⟨u, ?_, h2⟩
          simp only [Bool.false_eq_true, if_false] at h1
          simp [List.foldlM_cons, Builtin.min2, h1]
        · cases hv
      · cases hv
end

end

end Go.AM
