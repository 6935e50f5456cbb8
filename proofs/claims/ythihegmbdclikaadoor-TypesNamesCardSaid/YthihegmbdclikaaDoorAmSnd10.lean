/- AM, part 13b: operations that make memory and read none, at a number that is kept for them. -/
import Derived.Test.YthihegmbdclikaaDoorAmSnd9
namespace Go.AM
noncomputable section
open Go.RowKit
set_option linter.unusedSectionVars false
variable [Sig]

section
variable {P : Program} {ι : Map} {w : World}

theorem alloc_run {t : TypeId} {z : AVal} (hz : zeroP P t = some z) (old : Value) :
    ∃ u us e, (Instr.alloc t true old).run P w = .ok u (w.alloc (.cells us e)) ∧ VRels ι z.cells us.toList ∧ ∀ (ι' : Map) (k : Nat), ι' k = some ⟨w.heap.size, 0, z.cells.length, us.size⟩ → VRel ι' (.ptr (.own k) 0) u := by
  obtain ⟨i, v, hi, hv, hrel⟩ := zeroP_spec hz
  refine ⟨_, _, _, by simp [Instr.alloc, run_zero' hi hv, newVar, newRow]; exact ⟨rfl, rfl⟩, (hrel ι).cells, fun ι' k hk => ?_⟩
  exact .ptr _ _ _ ⟨_, hk, rfl⟩

theorem box_run {t : TypeId} {x : AVal} {p : Value} (hx : VRel ι x p) :
    ∃ u us e, (Instr.box t p).run P w = .ok u (w.alloc (.cells us e)) ∧ VRels ι x.cells us.toList ∧ ∀ (ι' : Map) (k : Nat), ι' k = some ⟨w.heap.size, 0, x.cells.length, us.size⟩ → VRel ι' (.ptr (.own k) 0) u := by
  refine ⟨_, _, _, by simp [Instr.box, newVar, newRow]; exact ⟨rfl, rfl⟩, hx.cells, fun ι' k hk => ?_⟩
  exact .ptr _ _ _ ⟨_, hk, rfl⟩

theorem buildSlice_run {t e : TypeId} {n sz : Nat} {f : Fr} {z : AVal} {ps : List (Nat × Nat × AOpd)} {parts : Array (Nat × Value)} {cs : List AVal}
    (hu : P.underlying t = some (.slice e)) (hsz : sizeP P e = some sz) (hz : zeroP P e = some z) (hl : z.cells.length = sz) (h0 : 0 < sz) (hs : n * sz ≤ 16777216)
    (hp : PartsRel ι f (fun i => some (i * sz, sz)) parts.toList ps) (hf : fillA f (zeros z.cells (n * z.cells.length)) ps = some cs) :
    ∃ u us e, (Instr.buildSlice t n parts).run P w = .ok u (w.alloc (.cells us e)) ∧ VRels ι cs us.toList ∧ ∀ (ι' : Map) (k : Nat), ι' k = some ⟨w.heap.size, 0, cs.length, us.size⟩ → VRel ι' (.sl (.own k) 0 n (.known n)) u := by
  obtain ⟨i, v, hi, hv, hrel⟩ := zeroP_spec hz
  obtain ⟨i', hi', hs'⟩ := sizeP_spec hsz
  rw [hi] at hi'; cases hi'
  have hzr := zeros_rel (ι := ι) (hrel ι).cells (by omega) (n * sz)
  rw [hl] at hf
  obtain ⟨us', h1, h2⟩ := fill_sound hp hf hzr
  have fin : ∀ (ι' : Map) (k : Nat), ι' k = some ⟨w.heap.size, 0, cs.length, us'.size⟩ → VRel ι' (.sl (.own k) 0 n (.known n)) (.slice (some ⟨w.heap.size, 0, none⟩) n n) := fun ι' k hk =>
    .sl _ _ _ _ _ _ (Nat.le_refl _) (fun _ => ⟨_, hk, rfl⟩) rfl
  by_cases hn : n * sz = 0
  · refine ⟨_, us', e, ?_, h2, fin⟩
    rw [hn] at h1
    have hr0 : Array.range 0 = #[] := rfl
    have h1' : Instr.fill (fun i => some (i * sz, sz)) #[] parts.toList = some us' := by simpa [hr0] using h1
    simp [Instr.buildSlice, run_underlying hu, run_sizeOf' hi, hs', hn, hr0, h1', newRow]
  · exact ⟨_, us', e, run_buildSlice w t e n parts us' i v hu hi hv (by rw [hs']; omega) (by rw [hs']; exact hn) (by rw [hs']; exact h1), h2, fin⟩

theorem makeSlice_run {t e : TypeId} {i : TypeInfo} {z : AVal} {kl kc : IntKind} {l c : Nat}
    (hu : P.underlying t = some (.slice e)) (hi : P.info? e = some i) (hz : zeroP P e = some z) (hl : z.cells.length = i.size) (h0 : 0 < i.size)
    (hlc : l ≤ c) (hb : i.bytes * c ≤ 140737488355328) (hc : c ≤ 140737488355328) :
    ∃ u us e, (Instr.makeSlice t (.int kl (.ofNat l)) (.int kc (.ofNat c))).run P w = .ok u (w.alloc (.cells us e)) ∧ VRels ι (zeros z.cells (c * z.cells.length)) us.toList ∧
      ∀ (ι' : Map) (k : Nat), ι' k = some ⟨w.heap.size, 0, (zeros z.cells (c * z.cells.length)).length, us.size⟩ → VRel ι' (.sl (.own k) 0 l (.known c)) u := by
  obtain ⟨i', v, hi', hv, hrel⟩ := zeroP_spec hz
  rw [hi] at hi'; cases hi'
  have hzr := zeros_rel (ι := ι) (hrel ι).cells (by omega) (c * i.size)
  have hb' : (i.bytes : Int) * (c : Int) ≤ 281474976710656 := by
    have hh : ((i.bytes * c : Nat) : Int) ≤ 281474976710656 := by omega
    rwa [Int.natCast_mul] at hh
  have hrun := run_make (P := P) w t e i v hu hi hv kl kc l c (by omega) (by omega) hb' (by omega)
  simp only [Int.toNat_natCast] at hrun
  rw [hl]
  exact ⟨_, _, e, hrun, hzr, fun ι' k hk => .sl _ _ _ _ _ _ hlc (fun _ => ⟨_, hk, rfl⟩) rfl⟩

theorem made_run {a : Act} {o : Oper} {s : Sem Value} {u : Value} {w' : World} (he : (execOp a.eval o).run P w = (do Pure.pure (Next.value (← s)) : Sem Next).run P w) (hs : s.run P w = .ok u w') : (execOp a.eval o).run P w = .ok (.value u) w' := by
  rw [he]; simp [hs, Result.andThen]

theorem made_sound {n : Nat} {f : Fr} {a : Act} (fr : FrRel ι n f a.tmps) {o : Oper} {op : AOp} {m : MOp} (hc : cOp P o.op = some op) (hm : op.toM = some m) {k : Nat} {v : AVal} {cs : List AVal} (hmade : m.made f k = some (v, cs)) (w : World) :
    ∃ u us e, (execOp a.eval o).run P w = .ok (.value u) (w.alloc (.cells us e)) ∧ VRels ι cs us.toList ∧ ∀ (ι' : Map), ι' k = some ⟨w.heap.size, 0, cs.length, us.size⟩ → VRel ι' v u := by
  obtain ⟨dst, op', type, pos, after, guard⟩ := o
  cases op' <;> simp only [cOp, reduceCtorEq] at hc
  case alloc t =>
    obtain ⟨z, hz, rfl⟩ := map_some hc
    cases hm
    simp only [MOp.made, Option.some.injEq, Prod.mk.injEq] at hmade
    obtain ⟨rfl, rfl⟩ := hmade
    obtain ⟨u, us, e, h1, h2, h3⟩ := alloc_run (ι := ι) (w := w) hz ((a.eval (.tmp (dst.getD 0))))
    exact ⟨u, us, e, made_run rfl h1, h2, fun ι' hk => h3 ι' k hk⟩
  case box t x =>
    obtain ⟨y, hy, rfl⟩ := map_some hc
    cases hm
    simp only [MOp.made, Option.some.injEq, Prod.mk.injEq] at hmade
    obtain ⟨rfl, rfl⟩ := hmade
    obtain ⟨u, us, e, h1, h2, h3⟩ := box_run (P := P) (ι := ι) (w := w) (t := t) (cOpd_rel hy fr)
    exact ⟨u, us, e, made_run rfl h1, h2, fun ι' hk => h3 ι' k hk⟩
  case buildSlice t n' parts =>
    split at hc
    · rename_i e hu
      split at hc
      · rename_i sz z hsz hz
        split at hc
        · rename_i hcond
          obtain ⟨ps, hps, rfl⟩ := map_some hc
          simp only [Bool.and_eq_true, Nat.beq_eq] at hcond
          cases hm
          simp only [MOp.made] at hmade
          split at hmade
          · rename_i cs' hf
            cases hmade
            obtain ⟨u, us, e, h1, h2, h3⟩ := buildSlice_run (P := P) (ι := ι) (w := w) (parts := parts.map fun (i, x) => (i, a.eval x)) hu hsz hz hcond.1.1 (Nat.le_of_ble_eq_true hcond.1.2) (Nat.le_of_ble_eq_true hcond.2) (by simpa using cParts_rel hps fr) hf
            exact ⟨u, us, e, made_run rfl h1, h2, fun ι' hk => h3 ι' k hk⟩
          · cases hmade
        · cases hc
      · cases hc
    · cases hc
  case makeSlice t l c =>
    split at hc
    · rename_i e hu
      split at hc
      · rename_i i z l' c' hi hz hl hcc
        split at hc
        · rename_i hcond
          cases hc
          cases hm
          simp only [Bool.and_eq_true, Nat.beq_eq] at hcond
          have hlr := cOpd_rel hl fr
          have hcr := cOpd_rel hcc fr
          simp only [MOp.made] at hmade
          split at hmade
          · rename_i ln cn hln hcn
            split at hmade
            · rename_i hb
              cases hmade
              simp only [Bool.and_eq_true] at hb
              obtain ⟨kl, e1⟩ := idx_int hlr hln
              obtain ⟨kc, e2⟩ := idx_int hcr hcn
              obtain ⟨u, us, e, h1, h2, h3⟩ := makeSlice_run (P := P) (ι := ι) (w := w) (kl := kl) (kc := kc) hu hi hz hcond.1 (Nat.le_of_ble_eq_true hcond.2) (Nat.le_of_ble_eq_true hb.1.1) (Nat.le_of_ble_eq_true hb.1.2) (Nat.le_of_ble_eq_true hb.2)
              exact ⟨u, us, e, made_run (s := Instr.makeSlice t (a.eval l) (a.eval c)) rfl (by rw [e1, e2]; exact h1), h2, fun ι' hk => h3 ι' k hk⟩
            · cases hmade
          · cases hmade
        · cases hc
      · cases hc
    · cases hc
  all_goals exfalso
  case call c =>
    repeat' (split at hc)
    all_goals first
      | (cases hc; done)
      | (cases hc; cases hm; done)
      | (unfold cBuiltin at hc
         repeat' (split at hc)
         all_goals first | (cases hc; done) | (cases hc; cases hm; done))
  all_goals first
    | (obtain ⟨y, _, rfl⟩ := map_some hc; cases hm; done)
    | (repeat' (split at hc)
       all_goals first | (cases hc; done) | (cases hc; cases hm; done) | (obtain ⟨y, _, rfl⟩ := map_some hc; cases hm; done))
end

end

end Go.AM
