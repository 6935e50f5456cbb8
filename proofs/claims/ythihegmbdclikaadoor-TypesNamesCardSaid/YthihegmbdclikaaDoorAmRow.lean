/- AM, part 28: what comes from without, as the abstract machine's values; arguments read behind the call as they did. Conditions: as each lemma says. -/
import Derived.Test.YthihegmbdclikaaDoorAmFin
import Derived.Carry
import Derived.OpenShut
namespace Go.AM
noncomputable section
open Go.RowKit Go.WideShapes Go.ChangeShapes
set_option linter.unusedSectionVars false
variable [Sig]

/-- A value that came in, as the abstract machine has it. -/
def canon : Value → Option AVal
  | .bool b => some (.bool b)
  | .int k n => some (.int k n)
  | .string s => some (.str (s.data.toList.map UInt8.toNat))
  | .pointer none => some .nilp
  | .pointer (some ⟨b, o, none⟩) => some (.ptr (.inp (2 * b)) o)
  | .slice none 0 0 => some .nils
  | .slice (some _) 0 0 => some (.sl (.inp 0) 0 0 (.known 0))
  | .slice (some ⟨b, o, none⟩) len cap => if len ≤ cap then some (.sl (.inp (2 * b)) o len (.known cap)) else none
  | .nilFunc => some .nilf
  | .nilIface => some .nili
  | _ => none

theorem canon_rel {v : Value} {a : AVal} (h : canon v = some a) (ι : Map) : VRel ι a v := by
  unfold canon at h
  split at h
  case h_1 => cases h; exact .bool _
  case h_2 => cases h; exact .int _ _
  case h_3 => cases h; exact .str _ _ rfl
  case h_4 => cases h; exact .nilp
  case h_5 b o => cases h; exact .ptr _ _ _ (by show _ = _; rw [place_even]; simp)
  case h_6 => cases h; exact .nils
  case h_7 => cases h; exact .sl _ _ _ _ _ _ (Nat.le_refl _) (fun h => absurd h (by omega)) rfl
  case h_8 =>
    split at h
    · rename_i hle; cases h; exact .sl _ _ _ _ _ _ hle (fun _ => by show _ = _; rw [place_even]; simp) rfl
    · cases h
  case h_9 => cases h; exact .nilf
  case h_10 => cases h; exact .nili
  case h_11 => cases h

theorem wrap_i64 {n : Int} (h0 : -9223372036854775808 ≤ n) (h1 : n < 9223372036854775808) : IntKind.i64.wrap n = n := by
  simp [IntKind.wrap, IntKind.bits, IntKind.signed]; omega
theorem wrap_wf {n : Int} (h : (Lit.int .i64 n).wf = true) : IntKind.i64.wrap n = n := by
  simp [Lit.wf, IntKind.min, IntKind.max, IntKind.bits, IntKind.signed] at h
  exact wrap_i64 (by omega) (by omega)
/-- A number from without stands as a sum. -/
theorem lin_rel {cs : List Int} {n : Int} (hw : (Lit.int .i64 n).wf = true) (h : dotFrom cs 0 = n) (ι : Map) : VRel ι (.lin cs 0) (.int .i64 n) := by
  have := VRel.lin (ι := ι) cs 0
  rw [h, Int.zero_add, wrap_wf hw] at this
  exact this

/-- The cells at the call's begin. -/
def inpOf (W : World) : Inp := fun b o => (W.cell? ⟨(place b).1, (place b).2 + o, none⟩).bind canon
theorem inpOf_ok (W : World) : InpOk W (inpOf W) := by
  intro b o v h
  unfold inpOf at h
  cases hc : W.cell? ⟨(place b).1, (place b).2 + o, none⟩ with
  | none => rw [hc] at h; cases h
  | some u => rw [hc] at h; exact ⟨u, rfl, fun ι => canon_rel h ι⟩

theorem canons_rel {vs : List Value} {as : List AVal} (h : vs.map canon = as.map some) (ι : Map) : VRels ι as vs := by
  induction vs generalizing as with
  | nil => cases as with
    | nil => exact .nil
    | cons a as => cases h
  | cons v vs ih => cases as with
    | nil => cases h
    | cons a as =>
      simp only [List.map_cons, List.cons.injEq] at h
      exact .cons (canon_rel h.1 ι) (ih h.2)

/-- Arguments read behind the call as they did. -/
theorem trodAll_stays {H : Type} {enc : TypeId × Value → H} {P : Program} (hl : laidOutB P = true) {W W' : World} (hb : Below W.heap.size W W') {sp : Nat → Bool} : ∀ {ts : List TypeId} {vs : List Value} {ds : List (DataW H)} {ps : List MemPlace},
    (ts.all fun t => P.readableRec t && decide (t < P.types.size)) = true → DataW.TrodAll enc P W 0 (fun _ => true) true ts vs ds ps → (∀ p ∈ ps, p.block < W.heap.size) → (∀ p ∈ ps, sp p.block = true) → DataW.TrodAll enc P W' 0 sp true ts vs ds ps
  | [], [], [], _, _, h, _, _ => h
  | t :: ts, v :: vs, d :: ds, ps, hts, ⟨p, q, h1, h2, e⟩, hlt, hs => by
    simp only [List.all_cons, Bool.and_eq_true, decide_eq_true_eq] at hts
    subst e
    refine ⟨p, q, ?_, trodAll_stays hl hb hts.2 h2 (fun x hx => hlt x (List.mem_append_right _ hx)) (fun x hx => hs x (List.mem_append_right _ hx)), rfl⟩
    exact WideElems.Trod_stays hl hts.1.1 hts.1.2 h1 (fun x hx => hb.same (hlt x (List.mem_append_left _ hx))) (fun x hx => hs x (List.mem_append_left _ hx))
  | [], _ :: _, _, _, _, h, _, _ => by cases h
  | _ :: _, [], _, _, _, h, _, _ => by cases h
  | [], [], _ :: _, _, _, h, _, _ => by cases h
  | _ :: _, _ :: _, [], _, _, h, _, _ => by cases h

/-! ### opening structs -/
section
variable {H : Type} {enc : TypeId × Value → H} {P : Program} {W : World} {base : Nat} {sp : Nat → Bool} {held : Bool}
theorem trod_int {n : Nat} {t : TypeId} {k : IntKind} {cs : List Value} {x : DataW H × List MemPlace} (ht : P.underlying t = some (.int k)) (h : DataW.trod enc P W base sp held n t cs = some x) : ∃ m, cs = [.int k m] ∧ (Lit.int k m).wf = true := by
  cases n with
  | zero => cases h
  | succ n =>
    rw [DataW.trod_step] at h
    unfold DataW.trodStep at h
    rw [ht] at h
    split at h <;> try (rename_i e; cases e; done)
    all_goals try (rename_i e1 _; cases e1; done)
    all_goals first
      | (rename_i e1; cases e1
         split at h
         · rename_i hk; exact ⟨_, by rw [hk.1], hk.2⟩
         · cases h)
      | cases h
theorem trod_bool {n : Nat} {t : TypeId} {cs : List Value} {x : DataW H × List MemPlace} (ht : P.underlying t = some .bool) (h : DataW.trod enc P W base sp held n t cs = some x) : ∃ b, cs = [.bool b] := by
  cases n with
  | zero => cases h
  | succ n =>
    rw [DataW.trod_step] at h
    unfold DataW.trodStep at h
    rw [ht] at h
    split at h <;> try (rename_i e; cases e; done)
    all_goals first
      | exact ⟨_, rfl⟩
      | cases h
theorem mapM_each {α β : Type} {g : α → Option β} : ∀ {l : List α} {r : List β}, l.mapM g = some r → ∀ a ∈ l, ∃ y, g a = some y
  | [], _, _, a, ha => by cases ha
  | b :: l, r, h, a, ha => by
    rw [List.mapM_cons] at h
    cases hb : g b with
    | none => simp [hb] at h
    | some y =>
      cases hl : l.mapM g with
      | none => simp [hb, hl] at h
      | some ys =>
        cases ha with
        | head => exact ⟨y, hb⟩
        | tail _ hm => exact mapM_each hl a hm
theorem trod_struct {n : Nat} {t : TypeId} {fs : Array Field} {cs : List Value} {x : DataW H × List MemPlace} (ht : P.underlying t = some (.struct fs)) (h : DataW.trod enc P W base sp held n t cs = some x) :
    cs.length = P.cellsOf t ∧ ∃ m, ∀ f ∈ fs.toList, ∃ y, DataW.trod enc P W base sp held m f.type ((cs.drop f.offset).take (P.cellsOf f.type)) = some y := by
  cases n with
  | zero => cases h
  | succ n =>
    rw [DataW.trod_step] at h
    unfold DataW.trodStep at h
    rw [ht] at h
    split at h <;> try (rename_i e; cases e; done)
    case h_9 fs' he =>
      cases he
      split at h
      · rename_i hl
        refine ⟨hl, n, fun f hf => ?_⟩
        rw [Option.map_eq_some_iff] at h
        obtain ⟨r, hr, _⟩ := h
        exact mapM_each hr f hf
      · cases h
    case h_21 => exact absurd rfl (‹∀ fs' : Array Field, some (TypeDesc.struct fs) = some (TypeDesc.struct fs') → False› fs)
/-- A struct's fields: types and places. -/
def structOf (P : Program) (t : TypeId) : Option (List (TypeId × Nat)) :=
  match P.underlying t with
  | some (.struct fs) => some (fs.toList.map fun f => (f.type, f.offset))
  | _ => none
theorem trod_fields {n : Nat} {t : TypeId} {l : List (TypeId × Nat)} {cs : List Value} {x : DataW H × List MemPlace} (ht : structOf P t = some l) (h : DataW.trod enc P W base sp held n t cs = some x) :
    cs.length = P.cellsOf t ∧ ∃ m, ∀ p ∈ l, ∃ y, DataW.trod enc P W base sp held m p.1 ((cs.drop p.2).take (P.cellsOf p.1)) = some y := by
  unfold structOf at ht
  split at ht
  · rename_i fs hu
    cases ht
    obtain ⟨hl, m, hm⟩ := trod_struct hu h
    refine ⟨hl, m, fun p hp => ?_⟩
    obtain ⟨f, hf, rfl⟩ := List.mem_map.1 hp
    exact hm f hf
  · cases ht
/-- A struct that came in by value. -/
theorem open_agg {r : Reach} {b0 : Nat} {t : TypeId} {l : List (TypeId × Nat)} {v : Value} {d : DataW H} {ps : List MemPlace} (ht : structOf P t = some l) (hval : Value.okWide P W r b0 t v) (h : DataW.Trod enc P W base sp held t v d ps) :
    ∃ cs : List Value, v = .agg cs.toArray ∧ cs.length = P.cellsOf t ∧ ∃ m, ∀ p ∈ l, ∃ y, DataW.trod enc P W base sp held m p.1 ((cs.drop p.2).take (P.cellsOf p.1)) = some y := by
  unfold Value.okWide at hval
  have hu : ∃ fs, P.underlying t = some (.struct fs) := by
    unfold structOf at ht
    split at ht
    · rename_i fs hu; exact ⟨fs, hu⟩
    · cases ht
  obtain ⟨fs, hu⟩ := hu
  rw [hu] at hval
  obtain ⟨cs, rfl, hs, _⟩ := hval
  obtain ⟨n, hn⟩ := h
  obtain ⟨hl, m, hm⟩ := trod_fields ht hn
  exact ⟨cs.toList, by simp, hl, m, hm⟩
end
end

end Go.AM
