/- AM, part 17: regions that draw their order: in whatever order the operations come up, what comes out is what the abstract machine computes in the order of the text. -/
import Derived.Test.YthihegmbdclikaaDoorAmRun2
namespace Go.AM
noncomputable section
open Go.RowKit

/-! ### equality of abstract values -/
theorem natsEq_eq : ∀ {a b : List Nat}, natsEq a b = true → a = b
  | [], [], _ => rfl
  | [], _ :: _, h => by cases h
  | _ :: _, [], h => by cases h
  | x :: a, y :: b, h => by
    simp only [natsEq, Bool.and_eq_true, Nat.beq_eq] at h
    rw [h.1, natsEq_eq h.2]
theorem eqI_true {a b : Int} (h : eqI a b = true) : a = b := by rw [eqI_spec] at h; simpa using h
theorem intsEq_eq : ∀ {a b : List Int}, intsEq a b = true → a = b
  | [], [], _ => rfl
  | [], _ :: _, h => by cases h
  | _ :: _, [], h => by cases h
  | x :: a, y :: b, h => by
    simp only [intsEq, Bool.and_eq_true] at h
    rw [eqI_true h.1, intsEq_eq h.2]
theorem loc_eqb {a b : Loc} (h : a.eqb b = true) : a = b := eqb_spec h
theorem cap_eqb {a b : Cap} (h : a.eqb b = true) : a = b := by
  cases a <;> cases b <;> simp only [Cap.eqb, Nat.beq_eq, reduceCtorEq] at h
  · rw [h]
  · rw [h]
theorem fn_eqb {a b : Fn} (h : Fn.eqb a b = true) : a = b := by
  cases a <;> cases b <;> simp only [Fn.eqb, Nat.beq_eq, reduceCtorEq] at h
  rw [h]

mutual
theorem AVal.eqb_eq : ∀ {a b : AVal}, AVal.eqb a b = true → a = b := by
  intro a b h
  cases a <;> cases b <;> simp only [AVal.eqb, Bool.and_eq_true, Nat.beq_eq, beq_iff_eq, decide_eq_true_eq, reduceCtorEq] at h
  case bool.bool => rw [h]
  case int.int => rw [h.1, h.2]
  case str.str => rw [natsEq_eq h]
  case nilp.nilp => rfl
  case ptr.ptr => rw [loc_eqb h.1, h.2]
  case nils.nils => rfl
  case sl.sl => rw [loc_eqb h.1.1.1, h.1.1.2, h.1.2, cap_eqb h.2]
  case nilf.nilf => rfl
  case func.func => rw [fn_eqb h.1.1, AVal.eqbs_eq h.1.2, AVal.eqbs_eq h.2]
  case nili.nili => rfl
  case iface.iface => rw [h.1, AVal.eqb_eq h.2]
  case agg.agg => rw [AVal.eqbs_eq h]
  case tuple.tuple => rw [AVal.eqbs_eq h]
  case nilm.nilm => rfl
  case lin.lin => rw [intsEq_eq h.1, eqI_true h.2]
theorem AVal.eqbs_eq : ∀ {a b : List AVal}, AVal.eqbs a b = true → a = b := by
  intro a b h
  cases a <;> cases b <;> simp only [AVal.eqbs, Bool.and_eq_true, reduceCtorEq] at h
  · rfl
  · rw [AVal.eqb_eq h.1, AVal.eqbs_eq h.2]
end

/-! ### what an operation looks at -/
section
variable {P : Program} {I : Inp} {call : CallFn} {f g : Fr}

theorem ev_congr {x : AOpd} (h : ∀ t ∈ x.looks, f.get t = g.get t) : x.ev f = x.ev g := by
  cases x with
  | tmp t => exact h t (by simp [AOpd.looks])
  | val v => rfl
theorem evs_congr : ∀ {xs : List AOpd}, (∀ t ∈ xs.flatMap AOpd.looks, f.get t = g.get t) → (xs.map fun x : AOpd => x.ev f) = xs.map fun x : AOpd => x.ev g
  | [], _ => rfl
  | x :: xs, h => by
    simp only [List.flatMap_cons, List.mem_append] at h
    simp only [List.map_cons]
    rw [ev_congr (x := x) (fun t ht => h t (.inl ht)), evs_congr (xs := xs) fun t ht => h t (.inr ht)]
theorem fillA_congr : ∀ {ps : List (Nat × Nat × AOpd)}, (∀ t ∈ ps.flatMap (fun p => p.2.2.looks), f.get t = g.get t) → ∀ cs, fillA f cs ps = fillA g cs ps
  | [], _, _ => rfl
  | (off, sz, x) :: ps, h, cs => by
    simp only [List.flatMap_cons, List.mem_append] at h
    simp only [fillA]
    rw [ev_congr (x := x) (fun t ht => h t (.inl ht))]
    split
    · exact fillA_congr (ps := ps) (fun t ht => h t (.inr ht)) _
    · rfl
theorem optNat_congr {x : Option AOpd} (h : ∀ t ∈ optLooks x, f.get t = g.get t) (d : Nat) : optNat f d x = optNat g d x := by
  cases x with
  | none => rfl
  | some y => simp only [optNat]; rw [ev_congr (x := y) h]
theorem sliceOf_congr {sz : Nat} {v : AVal} {lo hi mx : Option AOpd} (h1 : ∀ t ∈ optLooks lo, f.get t = g.get t) (h2 : ∀ t ∈ optLooks hi, f.get t = g.get t) (h3 : ∀ t ∈ optLooks mx, f.get t = g.get t) :
    sliceOf f sz v lo hi mx = sliceOf g sz v lo hi mx := by
  unfold sliceOf
  rw [optNat_congr h1, optNat_congr h2, optNat_congr h3]
  cases v <;> try rfl
  rename_i l o len cap
  simp only []
  rw [optNat_congr h2]
  cases mx with
  | none => rfl
  | some m =>
    have : m.ev f = m.ev g := ev_congr h3
    simp only [this]

theorem made_congr {m : MOp} (h : ∀ t ∈ m.looks, f.get t = g.get t) (k : Nat) : m.made f k = m.made g k := by
  cases m <;> simp only [MOp.looks, List.mem_append] at h <;> simp only [MOp.made]
  case box x => rw [ev_congr h]
  case buildSlice z n ps => rw [fillA_congr h]
  case makeSlice z b a x => rw [ev_congr (x := a) fun t ht => h t (.inl ht), ev_congr (x := x) fun t ht => h t (.inr ht)]

theorem step_congr {op : AOp} (h : ∀ t ∈ op.looks, f.get t = g.get t) (hp : AHeap) : op.step P I f hp = op.step P I g hp := by
  cases op <;> simp only [AOp.looks, List.mem_append] at h <;> simp only [AOp.step]
  case pick c a b => rw [ev_congr (x := c) fun t ht => h t (.inl ht), ev_congr (x := a) fun t ht => h t (.inr (.inl ht)), ev_congr (x := b) fun t ht => h t (.inr (.inr ht))]
  case build z ps => rw [fillA_congr h]
  case buildSlice z n ps => rw [fillA_congr h]
  case store n a x => rw [ev_congr (x := a) fun t ht => h t (.inl ht), ev_congr (x := x) fun t ht => h t (.inr ht)]
  case bin o a x => rw [ev_congr (x := a) fun t ht => h t (.inl ht), ev_congr (x := x) fun t ht => h t (.inr ht)]
  case eq n e c a x => rw [ev_congr (x := a) fun t ht => h t (.inl ht), ev_congr (x := x) fun t ht => h t (.inr ht)]
  case makeSlice z b a x => rw [ev_congr (x := a) fun t ht => h t (.inl ht), ev_congr (x := x) fun t ht => h t (.inr ht)]
  case indexAddr s a x => rw [ev_congr (x := a) fun t ht => h t (.inl ht), ev_congr (x := x) fun t ht => h t (.inr ht)]
  case indexAddrArr s n a x => rw [ev_congr (x := a) fun t ht => h t (.inl ht), ev_congr (x := x) fun t ht => h t (.inr ht)]
  case indexStr a x => rw [ev_congr (x := a) fun t ht => h t (.inl ht), ev_congr (x := x) fun t ht => h t (.inr ht)]
  case index1 s a x => rw [ev_congr (x := a) fun t ht => h t (.inl ht), ev_congr (x := x) fun t ht => h t (.inr ht)]
  case indexN s n a x => rw [ev_congr (x := a) fun t ht => h t (.inl ht), ev_congr (x := x) fun t ht => h t (.inr ht)]
  case append s n a x => rw [ev_congr (x := a) fun t ht => h t (.inl ht), ev_congr (x := x) fun t ht => h t (.inr ht)]
  case mkFunc fn a b => rw [evs_congr (xs := a) fun t ht => h t (.inl ht), evs_congr (xs := b) fun t ht => h t (.inr ht)]
  case sliceS s x lo hi mx =>
    rw [ev_congr (x := x) fun t ht => h t (.inl ht), sliceOf_congr (fun t ht => h t (.inr (.inl ht))) (fun t ht => h t (.inr (.inr (.inl ht)))) (fun t ht => h t (.inr (.inr (.inr ht))))]
  case sliceArr n s x lo hi mx =>
    rw [ev_congr (x := x) fun t ht => h t (.inl ht)]
    cases x.ev g <;> try rfl
    simp only []
    rw [sliceOf_congr (fun t ht => h t (.inr (.inl ht))) (fun t ht => h t (.inr (.inr (.inl ht)))) (fun t ht => h t (.inr (.inr (.inr ht))))]
  case sliceStr x lo hi =>
    rw [ev_congr (x := x) fun t ht => h t (.inl ht)]
    cases x.ev g <;> try rfl
    simp only []
    rw [optNat_congr (fun t ht => h t (.inr (.inl ht))), optNat_congr (fun t ht => h t (.inr (.inr ht)))]
  case minmax m xs => rw [evs_congr h]
  case resv k m => rw [made_congr h]
  all_goals (rw [ev_congr h])

theorem target_congr {op : AOp} (h : ∀ t ∈ op.looks, f.get t = g.get t) : op.target P f = op.target P g := by
  cases op <;> simp only [AOp.looks, List.mem_append] at h <;> simp only [AOp.target]
  case call k xs => rw [evs_congr h]
  case callv x xs => rw [ev_congr (x := x) fun t ht => h t (.inl ht), evs_congr fun t ht => h t (.inr ht)]
  case invoke x nm xs => rw [ev_congr (x := x) fun t ht => h t (.inl ht), evs_congr fun t ht => h t (.inr ht)]

theorem valOper_congr {o : AOper} (h : ∀ t ∈ o.looks, f.get t = g.get t) (hp : AHeap) : valOper P I call o f hp = valOper P I call o g hp := by
  obtain ⟨dst, op, guard⟩ := o
  cases guard with
  | none =>
    simp only [valOper, AOp.stepK_eq]
    rw [target_congr (op := op) h, step_congr (op := op) h]
  | some gd =>
    obtain ⟨t, want⟩ := gd
    simp only [AOper.looks, List.mem_cons] at h
    simp only [valOper, AOp.stepK_eq]
    rw [h t (.inl rfl), target_congr (op := op) fun t ht => h t (.inr ht), step_congr (op := op) fun t ht => h t (.inr ht)]

theorem calm_target {op : AOp} (h : op.calm = true) : op.target P f = none := by
  cases op <;> first | rfl | cases h

theorem calm_heap {op : AOp} (h : op.calm = true) {hp hp' : AHeap} {v : AVal} (hs : op.step P I f hp = some (v, hp')) : hp' = hp := by
  cases op <;> first | (cases h; done) | skip
  all_goals simp only [AOp.step] at hs
  all_goals (repeat' (split at hs))
  all_goals first | (cases hs; done) | (cases hs; rfl)

theorem dry_step {op : AOp} (h : op.dry = true) {hp hp2 : AHeap} {v : AVal} (hs : op.step P I f hp = some (v, hp)) : op.step P I f hp2 = some (v, hp2) := by
  cases op <;> first | (cases h; done) | skip
  all_goals simp only [AOp.step] at hs ⊢
  all_goals (repeat' (split at hs))
  all_goals first
    | (cases hs; done)
    | (cases hs; simp_all; done)
    | simp_all

theorem dry_calm {op : AOp} (h : op.dry = true) : op.calm = true := by
  cases op <;> first | rfl | cases h

theorem val_calm {o : AOper} (h : o.op.calm = true) {hp hp' : AHeap} {v : AVal} (hs : valOper P I call o f hp = some (v, hp')) : hp' = hp := by
  obtain ⟨dst, op, guard⟩ := o
  cases guard with
  | none =>
    simp only [valOper, AOp.stepK_eq, calm_target (f := f) (P := P) h] at hs
    exact calm_heap h hs
  | some gd =>
    simp only [valOper, AOp.stepK_eq, calm_target (f := f) (P := P) h] at hs
    split at hs
    · split at hs
      · exact calm_heap h hs
      · cases hs; rfl
    · cases hs; rfl

theorem val_dry {o : AOper} (h : o.op.dry = true) {hp hp2 : AHeap} {v : AVal} (hs : valOper P I call o f hp = some (v, hp)) : valOper P I call o f hp2 = some (v, hp2) := by
  obtain ⟨dst, op, guard⟩ := o
  have hc := dry_calm h
  cases guard with
  | none =>
    simp only [valOper, AOp.stepK_eq, calm_target (f := f) (P := P) hc] at hs ⊢
    exact dry_step h hs
  | some gd =>
    simp only [valOper, AOp.stepK_eq, calm_target (f := f) (P := P) hc] at hs ⊢
    split at hs
    · split at hs
      · exact dry_step h hs
      · cases hs; rfl
    · cases hs; rfl
end

end

end Go.AM
