/- AM, part 7: operations that read, write and make memory: what the abstract machine computes is what the model computes. -/
import Derived.Test.YthihegmbdclikaaDoorAmSnd2
import Derived.Laws.Tables
import Derived.Laws.BytesString
import Derived.Laws.IdiomStrings
import Derived.Great.BuildSlice
namespace Go.AM
noncomputable section
open Go.RowKit
set_option linter.unusedSectionVars false
variable [Sig]

section
variable {P : Program} {W : World} {I : Inp} {ι : Map} {h : AHeap} {w : World}

theorem zeroP_spec {t : TypeId} {z : AVal} (hz : zeroP P t = some z) : ∃ i v, P.info? t = some i ∧ i.zero = some v ∧ ∀ ι, VRel ι z v := by
  unfold zeroP at hz
  split at hz
  · rename_i i hi
    split at hz
    · rename_i v hv; exact ⟨i, v, hi, hv, fun ι => ofConst_rel hz ι⟩
    · cases hz
  · cases hz
theorem sizeP_spec {t : TypeId} {n : Nat} (hz : sizeP P t = some n) : ∃ i, P.info? t = some i ∧ i.size = n := by
  unfold sizeP at hz
  split at hz
  · rename_i i hi; cases hz; exact ⟨i, hi, rfl⟩
  · cases hz
theorem isAggP_spec {t : TypeId} {b : Bool} (hz : isAggP P t = some b) (w : World) : (isAgg t).run P w = .ok b w := by
  unfold isAggP at hz
  split at hz <;> cases hz
  · rename_i hu; simp [isAgg, run_underlying hu]
  · rename_i hu; simp [isAgg, run_underlying hu]
  · rename_i d hd1 hd2 hu
    cases d <;> first | (simp [isAgg, run_underlying hu]; done) | (exact absurd rfl (hd1 _)) | (exact absurd rfl (hd2 _ _))
theorem run_sizeOf' {t : TypeId} {i : TypeInfo} (hi : P.info? t = some i) (w : World) : (sizeOf t).run P w = .ok i.size w := by
  simp [sizeOf, typeInfo, hi]
theorem run_zero' {t : TypeId} {i : TypeInfo} {v : Value} (hi : P.info? t = some i) (hv : i.zero = some v) (w : World) : (zeroValue t).run P w = .ok v w := by
  simp [zeroValue, typeInfo, hi, hv]

theorem get_of_rels {vs : List AVal} {us : List Value} (hr : VRels ι vs us) : ∀ (i : Nat) (v : AVal), vs[i]? = some v → ∃ u, us.toArray[i]? = some u ∧ VRel ι v u := fun i v hv => by
  obtain ⟨u, hu, hr⟩ := hr.get hv
  exact ⟨u, by simpa using hu, hr⟩

/-- A new block whose cells are all known. -/
theorem new_sound (r : Rep W ι h w) (hr : h.room = true) {b : Blk} {us : Array Value} {e : TypeId} (_hp : b.plain = true) (hus : VRels ι b.cells us.toList) :
    Step W ι h w (ι.add h.next ⟨w.heap.size, 0, b.cells.length, us.size⟩) (h.alloc b) (w.alloc (.cells us e)) :=
  alloc_sound r hr (fun i v hv => by obtain ⟨u, hu, hr⟩ := hus.get hv; exact ⟨u, by simpa using hu, hr⟩) (by rw [hus.length]; simp) (fun o _ hf => by simp at hf) (fun _ => rfl)

theorem new_ptr (ι : Map) (k : Nat) (pl : Pl) (hoff : pl.off = 0) : VRel (ι.add k pl) (.ptr (.own k) 0) (.pointer (some ⟨pl.blk, 0, none⟩)) :=
  .ptr _ _ _ ⟨pl, Map.add_self _ _ _, by rw [hoff]⟩

theorem alloc_op (r : Rep W ι h w) {t : TypeId} {z : AVal} (hz : zeroP P t = some z) (hr : h.room = true) (old : Value) :
    ∃ u w' ι', (Instr.alloc t true old).run P w = .ok u w' ∧ VRel ι' (.ptr (.own h.next) 0) u ∧ Step W ι h w ι' (h.alloc ⟨z.cells, true⟩) w' := by
  obtain ⟨i, v, hi, hv, hrel⟩ := zeroP_spec hz
  refine ⟨_, _, _, by simp [Instr.alloc, run_zero' hi hv, newVar, newRow]; exact ⟨rfl, rfl⟩, ?_, new_sound r hr rfl (hrel ι).cells⟩
  exact new_ptr _ _ _ rfl

theorem box_op (r : Rep W ι h w) {t : TypeId} {x : AVal} {p : Value} (hx : VRel ι x p) (hr : h.room = true) :
    ∃ u w' ι', (Instr.box t p).run P w = .ok u w' ∧ VRel ι' (.ptr (.own h.next) 0) u ∧ Step W ι h w ι' (h.alloc ⟨x.cells, true⟩) w' := by
  refine ⟨_, _, _, by simp [Instr.box, newVar, newRow]; exact ⟨rfl, rfl⟩, ?_, new_sound r hr rfl hx.cells⟩
  exact new_ptr _ _ _ rfl

/-! ### parts -/
inductive PartsRel (ι : Map) (f : Fr) (place : Nat → Option (Nat × Nat)) : List (Nat × Value) → List (Nat × Nat × AOpd) → Prop where
  | nil : PartsRel ι f place [] []
  | cons {i off sz : Nat} {v : Value} {x : AOpd} {ps : List (Nat × Value)} {qs : List (Nat × Nat × AOpd)} : place i = some (off, sz) → VRel ι (x.ev f) v → PartsRel ι f place ps qs →
      PartsRel ι f place ((i, v) :: ps) ((off, sz, x) :: qs)

theorem cParts_rel {place : Nat → Option (Nat × Nat)} : ∀ {parts : List (Nat × Operand)} {ps : List (Nat × Nat × AOpd)}, cParts place parts = some ps → ∀ {n : Nat} {f : Fr} {a : Act}, FrRel ι n f a.tmps →
    PartsRel ι f place (parts.map fun (i, x) => (i, a.eval x)) ps := by
  intro parts
  induction parts with
  | nil => intro ps hp n f a _; simp only [cParts, Option.some.injEq] at hp; subst hp; exact .nil
  | cons q r ih =>
    intro ps hp n f a hr
    obtain ⟨i, x⟩ := q
    simp only [cParts] at hp
    split at hp
    · rename_i off n' y ys h1 h2 h3
      cases hp
      exact .cons h1 (cOpd_rel h2 hr) (ih h3 hr)
    · cases hp

theorem foldl_setR : ∀ (vs : List Value) (off j : Nat) (cs : Array Value), off + j + vs.length ≤ cs.size →
    ((vs.zipIdx j).foldl (fun cs (c, j) => cs.setIfInBounds (off + j) c) cs).toList = setR cs.toList (off + j) vs
  | [], off, j, cs, _ => by simp [setR]
  | v :: r, off, j, cs, hl => by
    simp only [List.length_cons] at hl
    rw [List.zipIdx_cons, List.foldl_cons, foldl_setR r off (j + 1) (cs.setIfInBounds (off + j) v) (by simp; omega)]
    have e := list_seg_step cs.toList (off + j) v r (by simp; omega)
    simpa [setR, Array.toList_setIfInBounds, Nat.add_assoc] using e

theorem VRels.setR {vs vs' : List AVal} {us us' : List Value} (h1 : VRels ι vs us) (h2 : VRels ι vs' us') (o : Nat) : VRels ι (setR vs o vs') (setR us o us') := by
  unfold Go.AM.setR
  rw [h2.length]
  exact ((h1.take o).append h2).append (h1.drop _)

theorem fill_sound {f : Fr} {place : Nat → Option (Nat × Nat)} : ∀ {parts : List (Nat × Value)} {ps : List (Nat × Nat × AOpd)}, PartsRel ι f place parts ps → ∀ {cs cs' : List AVal} {us : Array Value},
    fillA f cs ps = some cs' → VRels ι cs us.toList → ∃ us', Instr.fill place us parts = some us' ∧ VRels ι cs' us'.toList := by
  intro parts ps hr
  induction hr with
  | nil => intro cs cs' us hf hus; simp only [fillA, Option.some.injEq] at hf; subst hf; exact ⟨us, rfl, hus⟩
  | @cons i off sz v x ps qs hpl hv _ ih =>
    intro cs cs' us hf hus
    simp only [fillA] at hf
    split at hf
    · rename_i hc
      simp only [Bool.and_eq_true, Nat.beq_eq] at hc
      obtain ⟨hsz, hle⟩ := hc
      have hle' := Nat.le_of_ble_eq_true hle
      have hcl := hv.cells.length
      have hul := hus.length
      simp only [Array.length_toList] at hcl hul
      have hfold := foldl_setR v.cells.toList off 0 us (by simp; omega)
      have hrel : VRels ι (Go.AM.setR cs off (x.ev f).cells) ((v.cells.zipIdx.foldl (fun cs (c, j) => cs.setIfInBounds (off + j) c) us).toList) := by
        rw [← Array.foldl_toList, Array.toList_zipIdx, hfold]
        exact hus.setR hv.cells off
      obtain ⟨us', h1, h2⟩ := ih hf hrel
      refine ⟨us', ?_, h2⟩
      simp only [Instr.fill, hpl]
      rw [if_neg]
      · exact h1
      · simp only [ne_eq, Bool.or_eq_true, decide_eq_true_eq, not_or, Classical.not_not]
        simp
        omega
    · cases hf

theorem build_op {t : TypeId} {f : Fr} {z : AVal} {ps : List (Nat × Nat × AOpd)} {parts : Array (Nat × Value)} {place : Nat → Option (Nat × Nat)} {cs : List AVal}
    (hz : zeroP P t = some z) (hpl : (∃ fields pl, P.underlying t = some (.struct fields) ∧ placesP P fields = some pl ∧ place = (pl.toArray[·]?)) ∨ (∃ n e sz, P.underlying t = some (.array n e) ∧ sizeP P e = some sz ∧ place = fun i => some (i * sz, sz)))
    (hp : PartsRel ι f place parts.toList ps) (hf : fillA f z.cells ps = some cs) (w : World) : ∃ u, (Instr.build t parts).run P w = .ok u w ∧ VRel ι (.agg cs) u := by
  obtain ⟨i, v, hi, hv, hrel⟩ := zeroP_spec hz
  obtain ⟨us', h1, h2⟩ := fill_sound hp hf (hrel ι).cells
  refine ⟨.agg us', ?_, .agg _ _ h2⟩
  refine run_build w t parts us' ?_
  rcases hpl with ⟨fields, pl, hu, hp1, rfl⟩ | ⟨n, e, sz, hu, hsz, rfl⟩
  · unfold placesP at hp1
    simp only [Program.built, hi, hu, hv, hp1]
    exact h1
  · obtain ⟨ie, hie, hs⟩ := sizeP_spec hsz
    simp only [Program.built, hi, hu, hv, hie, hs]
    exact h1

/-! ### zeros -/
theorem zerosFrom_length (z : List AVal) : ∀ (n i : Nat), (zerosFrom z i n).length = n
  | 0, _ => rfl
  | n + 1, i => by simp [zerosFrom, zerosFrom_length z n (i + 1)]
theorem zerosFrom_get (z : List AVal) : ∀ (n i j : Nat), j < n → (zerosFrom z i n)[j]? = some (z.getD ((i + j) % z.length) .nilp)
  | 0, _, _, h => by omega
  | n + 1, i, 0, _ => by simp [zerosFrom]
  | n + 1, i, j + 1, h => by
    simp only [zerosFrom, List.getElem?_cons_succ]
    rw [zerosFrom_get z n (i + 1) j (by omega), show i + 1 + j = i + (j + 1) by omega]
theorem zeros_length (z : List AVal) (n : Nat) : (zeros z n).length = n := zerosFrom_length z n 0
theorem zeros_rel {z : List AVal} {us : Array Value} (hz : VRels ι z us.toList) (h0 : 0 < z.length) (n : Nat) : VRels ι (zeros z n) ((Array.range n).map (us[· % us.size]!)).toList := by
  refine VRels.of_get (by simp [zeros_length]) fun i v u hv hu => ?_
  have hi : i < n := by
    have := (List.getElem?_eq_some_iff.1 hv).1
    rw [zeros_length] at this; exact this
  unfold zeros at hv
  rw [zerosFrom_get z n 0 i hi, Nat.zero_add] at hv
  have hl : z.length = us.size := by simpa using hz.length
  have hm : i % us.size < us.size := Nat.mod_lt _ (by omega)
  simp [hi] at hu
  rw [hl] at hv
  obtain ⟨u', hu', hr⟩ := hz.get (i := i % us.size) (v := v) (by
    simp only [Option.some.injEq] at hv
    rw [← hv, List.getD_eq_getElem?_getD]
    rw [List.getElem?_eq_getElem (by omega)]
    rfl)
  rw [Array.getElem?_toList] at hu'
  rw [← hu, getElem!_pos us (i % us.size) hm]
  rw [Array.getElem?_eq_getElem hm] at hu'
  cases hu'
  exact hr

theorem new_slice (ι : Map) (k : Nat) (pl : Pl) (hoff : pl.off = 0) {len c : Nat} (hc : len ≤ c) : VRel (ι.add k pl) (.sl (.own k) 0 len (.known c)) (.slice (some ⟨pl.blk, 0, none⟩) len c) :=
  .sl _ _ _ _ _ _ hc (fun _ => ⟨pl, Map.add_self _ _ _, by rw [hoff]⟩) rfl

theorem buildSlice_op (r : Rep W ι h w) {t e : TypeId} {n sz : Nat} {f : Fr} {z : AVal} {ps : List (Nat × Nat × AOpd)} {parts : Array (Nat × Value)} {cs : List AVal}
    (hu : P.underlying t = some (.slice e)) (hsz : sizeP P e = some sz) (hz : zeroP P e = some z) (hl : z.cells.length = sz) (h0 : 0 < sz) (hs : n * sz ≤ 16777216)
    (hp : PartsRel ι f (fun i => some (i * sz, sz)) parts.toList ps) (hf : fillA f (zeros z.cells (n * z.cells.length)) ps = some cs) (hr : h.room = true) :
    ∃ u w' ι', (Instr.buildSlice t n parts).run P w = .ok u w' ∧ VRel ι' (.sl (.own h.next) 0 n (.known n)) u ∧ Step W ι h w ι' (h.alloc ⟨cs, true⟩) w' := by
  obtain ⟨i, v, hi, hv, hrel⟩ := zeroP_spec hz
  obtain ⟨i', hi', hs'⟩ := sizeP_spec hsz
  rw [hi] at hi'; cases hi'
  have hzr := zeros_rel (ι := ι) (hrel ι).cells (by omega) (n * sz)
  rw [hl] at hf
  by_cases hn : n * sz = 0
  · obtain ⟨us', h1, h2⟩ := fill_sound hp hf hzr
    refine ⟨_, _, _, ?_, new_slice _ _ _ rfl (Nat.le_refl _), new_sound r hr rfl h2 (e := e)⟩
    rw [hn] at h1
    have hr0 : Array.range 0 = #[] := rfl
    have h1' : Instr.fill (fun i => some (i * sz, sz)) #[] parts.toList = some us' := by simpa [hr0] using h1
    simp [Instr.buildSlice, run_underlying hu, run_sizeOf' hi, hs', hn, hr0, h1', newRow]
  · obtain ⟨us', h1, h2⟩ := fill_sound hp hf hzr
    refine ⟨_, _, _, run_buildSlice w t e n parts us' i v hu hi hv (by rw [hs']; omega) (by rw [hs']; exact hn) (by rw [hs']; exact h1), new_slice _ _ _ rfl (Nat.le_refl _), new_sound r hr rfl h2 (e := e)⟩

theorem makeSlice_op (r : Rep W ι h w) {t e : TypeId} {i : TypeInfo} {z : AVal} {kl kc : IntKind} {l c : Nat}
    (hu : P.underlying t = some (.slice e)) (hi : P.info? e = some i) (hz : zeroP P e = some z) (hl : z.cells.length = i.size) (h0 : 0 < i.size)
    (hlc : l ≤ c) (hb : i.bytes * c ≤ 140737488355328) (hc : c ≤ 140737488355328) (hr : h.room = true) :
    ∃ u w' ι', (Instr.makeSlice t (.int kl (.ofNat l)) (.int kc (.ofNat c))).run P w = .ok u w' ∧ VRel ι' (.sl (.own h.next) 0 l (.known c)) u ∧ Step W ι h w ι' (h.alloc ⟨zeros z.cells (c * z.cells.length), true⟩) w' := by
  obtain ⟨i', v, hi', hv, hrel⟩ := zeroP_spec hz
  rw [hi] at hi'; cases hi'
  have hzr := zeros_rel (ι := ι) (hrel ι).cells (by omega) (c * i.size)
  have hb' : (i.bytes : Int) * (c : Int) ≤ 281474976710656 := by
    have hh : ((i.bytes * c : Nat) : Int) ≤ 281474976710656 := by omega
    rwa [Int.natCast_mul] at hh
  have hrun := run_make (P := P) w t e i v hu hi hv kl kc l c (by omega) (by omega) hb' (by omega)
  simp only [Int.toNat_natCast] at hrun
  rw [hl]
  exact ⟨_, _, _, hrun, new_slice _ _ _ rfl hlc, new_sound r hr rfl hzr (e := e)⟩
end

end

end Go.AM
