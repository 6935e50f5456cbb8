/- AM, part 18: regions that draw their order: the theorem. -/
import Derived.Test.YthihegmbdclikaaDoorAmDraw
namespace Go.AM
noncomputable section
open Go.RowKit

theorem hasN_iff {l : List Nat} {n : Nat} : hasN l n = true ↔ n ∈ l := by
  unfold hasN
  rw [List.any_eq_true]
  constructor
  · rintro ⟨x, hx, hb⟩; have : n = x := by simpa using hb
    subst this; exact hx
  · intro h; exact ⟨n, h, by simp⟩

/-! ### the order -/
theorem befs_spec {D : Nat → Prop} : ∀ (l : List Oper) (acc : List (List Nat)), (∀ i, D i → ∀ j ∈ acc.getD i [], D j) → (∀ i o, l[i]? = some o → D (acc.length + i) → ∀ j ∈ directs o, D j) →
    ∀ i, D i → ∀ j ∈ (befs l acc).getD i [], D j
  | [], acc, h, _, i, hi, j, hj => h i hi j hj
  | o :: r, acc, h, hl, i, hi, j, hj => by
    refine befs_spec r (acc ++ [directs o ++ (directs o).flatMap fun j => acc.getD j []]) ?_ ?_ i hi j hj
    · intro i hi j hj
      by_cases h1 : i < acc.length
      · rw [List.getD_eq_getElem?_getD, List.getElem?_append_left h1, ← List.getD_eq_getElem?_getD] at hj
        exact h i hi j hj
      · rw [List.getD_eq_getElem?_getD, List.getElem?_append_right (by omega), ← List.getD_eq_getElem?_getD] at hj
        by_cases h2 : i = acc.length
        · subst h2
          simp only [Nat.sub_self, List.getD_cons_zero, List.mem_append, List.mem_flatMap] at hj
          have h0 := hl 0 o rfl (by simpa using hi)
          rcases hj with hj | ⟨k, hk, hj⟩
          · exact h0 j hj
          · exact h k (h0 k hk) j hj
        · have : ∃ m, i - acc.length = m + 1 := ⟨i - acc.length - 1, by omega⟩
          obtain ⟨m, hm⟩ := this
          rw [hm] at hj
          simp at hj
    · intro i o' ho hi j hj
      refine hl (i + 1) o' (by simpa using ho) ?_ j hj
      simpa [Nat.add_assoc, Nat.add_comm 1 i] using hi

theorem rowOk_get {b : List (List Nat)} {i : Nat} {x : AOper} : ∀ {l : List AOper} {j : Nat}, rowOk b i x j l = true → ∀ {k : Nat} {y : AOper}, l[k]? = some y → pairOk b i (j + k) x y = true
  | [], _, _, k, y, h => by simp at h
  | z :: l, j, h, 0, y, hy => by
    simp only [rowOk, Bool.and_eq_true] at h
    simp at hy; subst hy; exact h.1
  | z :: l, j, h, k + 1, y, hy => by
    simp only [rowOk, Bool.and_eq_true] at h
    have := rowOk_get h.2 (k := k) (y := y) (by simpa using hy)
    rwa [show j + 1 + k = j + (k + 1) by omega] at this

theorem rowsOk_get {b : List (List Nat)} : ∀ {l : List AOper} {i : Nat}, rowsOk b i l = true → ∀ {p q : Nat} {x y : AOper}, p < q → l[p]? = some x → l[q]? = some y → pairOk b (i + p) (i + q) x y = true
  | [], _, _, p, q, x, y, _, hx, _ => by simp at hx
  | z :: l, i, h, 0, q, x, y, hpq, hx, hy => by
    simp only [rowsOk, Bool.and_eq_true] at h
    simp at hx; subst hx
    obtain ⟨q', rfl⟩ : ∃ q', q = q' + 1 := ⟨q - 1, by omega⟩
    have := rowOk_get h.1 (k := q') (y := y) (by simpa using hy)
    rwa [show i + 1 + q' = i + (q' + 1) by omega] at this
  | z :: l, i, h, p + 1, q, x, y, hpq, hx, hy => by
    simp only [rowsOk, Bool.and_eq_true] at h
    obtain ⟨q', rfl⟩ : ∃ q', q = q' + 1 := ⟨q - 1, by omega⟩
    have := rowsOk_get h.2 (p := p) (q := q') (x := x) (y := y) (by omega) (by simpa using hx) (by simpa using hy)
    rwa [show i + 1 + p = i + (p + 1) by omega, show i + 1 + q' = i + (q' + 1) by omega] at this

theorem edgesOk_get : ∀ {l : List Oper} {i : Nat}, edgesOk i l = true → ∀ {k : Nat} {o : Oper}, l[k]? = some o → ∀ j ∈ directs o, j < i + k
  | [], _, _, k, o, h, _, _ => by simp at h
  | z :: l, i, h, 0, o, ho, j, hj => by
    simp only [edgesOk, Bool.and_eq_true, List.all_eq_true] at h
    simp at ho; subst ho
    exact Nat.le_of_ble_eq_true (h.1 j hj)
  | z :: l, i, h, k + 1, o, ho, j, hj => by
    simp only [edgesOk, Bool.and_eq_true] at h
    have := edgesOk_get h.2 (k := k) (o := o) (by simpa using ho) j hj
    omega

/-! ### those that change the heap -/
def cntH : List AOper → Nat
  | [] => 0
  | x :: r => if x.op.calm then cntH r else cntH r + 1

theorem heavies_length : ∀ (l : List AOper) (i : Nat), (heavies i l).length = cntH l
  | [], _ => rfl
  | x :: r, i => by
    simp only [heavies, cntH]
    split
    · rename_i h; rw [if_pos h]; exact heavies_length r _
    · rename_i h; rw [if_neg (by simp [h])]; simp [heavies_length r _]

/-- The r-th of them. -/
theorem heavies_get : ∀ {l : List AOper} {i r p : Nat}, (heavies i l)[r]? = some p → ∃ k x, p = i + k ∧ l[k]? = some x ∧ x.op.calm = false ∧ cntH (l.take k) = r
  | [], i, r, p, h => by simp [heavies] at h
  | x :: l, i, r, p, h => by
    simp only [heavies] at h
    split at h
    · rename_i hc
      obtain ⟨k, y, rfl, hy, hcy, hr⟩ := heavies_get h
      exact ⟨k + 1, y, by omega, by simpa using hy, hcy, by simp [cntH, hc, hr]⟩
    · rename_i hc
      cases r with
      | zero =>
        simp at h
        exact ⟨0, x, by omega, rfl, by simpa using hc, rfl⟩
      | succ r =>
        obtain ⟨k, y, rfl, hy, hcy, hr⟩ := heavies_get (r := r) (by simpa using h)
        exact ⟨k + 1, y, by omega, by simpa using hy, hcy, by simp [cntH, hc, hr]⟩

theorem heavies_of {l : List AOper} : ∀ {k : Nat} {x : AOper} (i : Nat), l[k]? = some x → x.op.calm = false → (heavies i l)[cntH (l.take k)]? = some (i + k) := by
  induction l with
  | nil => intro k x i h; simp at h
  | cons y l ih =>
    intro k x i h hc
    cases k with
    | zero => simp at h; subst h; simp [heavies, hc, cntH]
    | succ k =>
      have := ih (i + 1) (k := k) (by simpa using h) hc
      rw [show i + 1 + k = i + (k + 1) by omega] at this
      simp only [heavies, List.take_succ_cons, cntH]
      split
      · rename_i hy; rw [if_pos hy]; exact this
      · rename_i hy; rw [if_neg (by simp [hy])]; simpa using this

theorem cntH_take_mono : ∀ (l : List AOper) {p q : Nat}, p ≤ q → cntH (l.take p) ≤ cntH (l.take q)
  | [], p, q, _ => by simp [cntH]
  | x :: l, 0, q, _ => by simp [cntH]
  | x :: l, p + 1, 0, h => by omega
  | x :: l, p + 1, q + 1, h => by
    have := cntH_take_mono l (p := p) (q := q) (by omega)
    simp only [List.take_succ_cons, cntH]
    split <;> omega

theorem cntH_take_succ : ∀ {l : List AOper} {k : Nat} {x : AOper}, l[k]? = some x → cntH (l.take (k + 1)) = cntH (l.take k) + (if x.op.calm then 0 else 1)
  | [], k, x, h => by simp at h
  | y :: l, 0, x, h => by simp at h; subst h; simp [cntH]
  | y :: l, k + 1, x, h => by
    have := cntH_take_succ (l := l) (k := k) (x := x) (by simpa using h)
    simp only [List.take_succ_cons, cntH] at this ⊢
    split <;> omega

theorem info_get {b : List (List Nat)} {kp : Nat → Bool} {hv : List Nat} : ∀ {l : List AOper} {i c : Nat} {k : Nat} {x : AOper}, l[k]? = some x → (infoFrom b kp hv i c l)[k]? = some (!x.op.calm, if x.op.calm = true ∧ x.op.dry = false then
    (List.range (hv.length + 1)).filter fun s => !Nat.beq s (c + cntH (l.take k)) && okAt b kp hv (i + k) s else [])
  | [], _, _, _, _, h => by simp at h
  | y :: l, i, c, 0, x, h => by
    simp at h; subst h
    simp only [infoFrom]
    cases hc : y.op.calm with
    | false => simp
    | true =>
      cases hd : y.op.dry with
      | true => simp
      | false => simp [cntH]
  | y :: l, i, c, k + 1, x, h => by
    have hx : l[k]? = some x := by simpa using h
    simp only [infoFrom]
    have e1 : i + 1 + k = i + (k + 1) := by omega
    cases hc : y.op.calm with
    | false =>
      have := info_get (b := b) (kp := kp) (hv := hv) (i := i + 1) (c := c + 1) hx
      rw [e1] at this
      simp only [List.getElem?_cons_succ, List.take_succ_cons, cntH, hc, Bool.false_eq_true, if_false]
      rw [this, show c + 1 + cntH (l.take k) = c + (cntH (l.take k) + 1) by omega]
    | true =>
      have := info_get (b := b) (kp := kp) (hv := hv) (i := i + 1) (c := c) hx
      rw [e1] at this
      cases hd : y.op.dry with
      | true => simpa [List.getElem?_cons_succ, List.take_succ_cons, cntH, hc] using this
      | false => simpa [List.getElem?_cons_succ, List.take_succ_cons, cntH, hc] using this

theorem infoFrom_length {b : List (List Nat)} {kp : Nat → Bool} {hv : List Nat} : ∀ (l : List AOper) (i c : Nat), (infoFrom b kp hv i c l).length = l.length
  | [], _, _ => rfl
  | y :: l, i, c => by
    simp only [infoFrom]
    split
    · simp [infoFrom_length l]
    · split <;> simp [infoFrom_length l]

/-! ### the run in the order of the text -/
section
variable {P : Program} {I : Inp} {call : CallFn}

theorem trace_cons {x : AOper} {r : List AOper} {f f' : Fr} {h h' : AHeap} {es : List (Fr × AVal × AHeap)} (ht : trace P I call (x :: r) f h = some (es, f', h')) :
    ∃ v h1 es', valOper P I call x f h = some (v, h1) ∧ trace P I call r (putDst x f v) h1 = some (es', f', h') ∧ es = (f, v, h1) :: es' := by
  simp only [trace] at ht
  split at ht
  · rename_i v h1 hv
    split at ht
    · rename_i l f2 h2 hr
      cases ht
      exact ⟨v, h1, l, hv, hr, rfl⟩
    · cases ht
  · cases ht

/-- The k-th operation: the frame and the heap ahead of it, its value, the heap behind it. -/
theorem trace_get : ∀ {l : List AOper} {f f' : Fr} {h h' : AHeap} {es : List (Fr × AVal × AHeap)}, trace P I call l f h = some (es, f', h') → ∀ {k : Nat} {x : AOper}, l[k]? = some x →
    ∃ fk hk v h1, es[k]? = some (fk, v, h1) ∧ valOper P I call x fk hk = some (v, h1) ∧ trace P I call (l.take k) f h = some (es.take k, fk, hk)
  | [], _, _, _, _, _, _, _, _, hx => by simp at hx
  | y :: l, f, f', h, h', es, ht, 0, x, hx => by
    obtain ⟨v, h1, es', hv, _, rfl⟩ := trace_cons ht
    simp at hx; subst hx
    exact ⟨f, h, v, h1, rfl, hv, rfl⟩
  | y :: l, f, f', h, h', es, ht, k + 1, x, hx => by
    obtain ⟨v, h1, es', hv, hr, rfl⟩ := trace_cons ht
    obtain ⟨fk, hk, vk, h1k, e1, e2, e3⟩ := trace_get hr (k := k) (x := x) (by simpa using hx)
    exact ⟨fk, hk, vk, h1k, by simpa using e1, e2, by simp [trace, hv, e3]⟩

theorem trace_length : ∀ {l : List AOper} {f f' : Fr} {h h' : AHeap} {es : List (Fr × AVal × AHeap)}, trace P I call l f h = some (es, f', h') → es.length = l.length
  | [], _, _, _, _, _, ht => by simp only [trace, Option.some.injEq, Prod.mk.injEq] at ht; rw [← ht.1]; rfl
  | y :: l, f, f', h, h', es, ht => by
    obtain ⟨v, h1, es', hv, hr, rfl⟩ := trace_cons ht
    simp [trace_length hr]

/-- The frame behind: what was put, or what was there. -/
theorem trace_frame {n : Nat} (hn : n ≤ 16000) : ∀ {l : List AOper} {f f' : Fr} {h h' : AHeap} {es : List (Fr × AVal × AHeap)}, trace P I call l f h = some (es, f', h') → opersIn n l = true →
    (∀ (p q : Nat) (x y : AOper) (d : Nat), p < q → l[p]? = some x → l[q]? = some y → x.dst = some d → y.dst ≠ some d) → ∀ t : Nat,
    (∀ (k : Nat) (x : AOper) (e : Fr × AVal × AHeap), l[k]? = some x → es[k]? = some e → x.dst = some t → f'.get t = e.2.1) ∧ ((∀ (k : Nat) (x : AOper), l[k]? = some x → x.dst ≠ some t) → f'.get t = f.get t)
  | [], _, _, _, _, _, ht, _, _, t => by
    simp only [trace, Option.some.injEq, Prod.mk.injEq] at ht
    obtain ⟨_, rfl, _⟩ := ht
    exact ⟨fun k x e hx => by simp at hx, fun _ => rfl⟩
  | y :: l, f, f', h, h', es, ht, hin, hd, t => by
    obtain ⟨v, h1, es', hv, hr, rfl⟩ := trace_cons ht
    simp only [opersIn, List.all_cons, Bool.and_eq_true] at hin
    have ih := trace_frame hn hr hin.2 (fun p q x y d hpq hx hy => hd (p + 1) (q + 1) x y d (by omega) (by simpa using hx) (by simpa using hy)) t
    have hput : ∀ d, y.dst = some d → ∀ m, (putDst y f v).get m = if m = d then v else f.get m := by
      intro d e m
      have hlt : d < n := by have := hin.1; rw [e] at this; exact Nat.le_of_ble_eq_true this
      unfold putDst
      rw [e]
      exact Fr.get_put (by show d + 1 < 16384; omega) m
    refine ⟨fun k x e hx he hdx => ?_, fun hno => ?_⟩
    · cases k with
      | zero =>
        simp at hx he
        subst hx; subst he
        have h0 : f'.get t = (putDst y f v).get t := ih.2 fun k x hx => hd 0 (k + 1) y x t (by omega) rfl (by simpa using hx) hdx
        rw [h0, hput t hdx t, if_pos rfl]
      | succ k => exact ih.1 k x e (by simpa using hx) (by simpa using he) hdx
    · have h0 : f'.get t = (putDst y f v).get t := ih.2 fun k x hx => hno (k + 1) x (by simpa using hx)
      rw [h0]
      cases hy : y.dst with
      | none => unfold putDst; rw [hy]
      | some d =>
        rw [hput d hy t, if_neg]
        intro e
        exact hno 0 y rfl (by rw [hy, e])

/-- The heaps. -/
theorem trace_heap {b : List (List Nat)} {kp : Nat → Bool} {hv : List Nat} : ∀ {l : List AOper} {i c : Nat} {f f' : Fr} {h h' : AHeap} {es : List (Fr × AVal × AHeap)}, trace P I call l f h = some (es, f', h') →
    (h :: heapsOf (infoFrom b kp hv i c l) es)[cntH l]? = some h' ∧ (heapsOf (infoFrom b kp hv i c l) es).length = cntH l
  | [], i, c, _, _, _, _, _, ht => by
    simp only [trace, Option.some.injEq, Prod.mk.injEq] at ht
    obtain ⟨rfl, _, rfl⟩ := ht
    exact ⟨rfl, rfl⟩
  | y :: l, i, c, f, f', h, h', es, ht => by
    obtain ⟨v, h1, es', hv1, hr, rfl⟩ := trace_cons ht
    simp only [infoFrom]
    cases hc : y.op.calm with
    | false =>
      have ih := trace_heap (b := b) (kp := kp) (hv := hv) (i := i + 1) (c := c + 1) hr
      simp only [heapsOf, cntH, hc, Bool.false_eq_true, if_false, List.getElem?_cons_succ, List.length_cons]
      exact ⟨ih.1, by rw [ih.2]⟩
    | true =>
      have ih := trace_heap (b := b) (kp := kp) (hv := hv) (i := i + 1) (c := c) hr
      have := val_calm hc hv1
      subst this
      cases hd : y.op.dry with
      | true => simpa [heapsOf, cntH, hc] using ih
      | false => simpa [heapsOf, cntH, hc] using ih

theorem heapsOf_take : ∀ (is : List (Bool × List Nat)) (es : List (Fr × AVal × AHeap)) (k : Nat), ∃ r, heapsOf is es = heapsOf (is.take k) (es.take k) ++ r
  | _, _, 0 => ⟨_, by simp [heapsOf]; rfl⟩
  | [], es, k + 1 => ⟨[], by simp [heapsOf]⟩
  | i :: is, [], k + 1 => ⟨[], by cases i with | mk a l => cases a <;> simp [heapsOf]⟩
  | (a, l) :: is, e :: es, k + 1 => by
    obtain ⟨r, hr⟩ := heapsOf_take is es k
    refine ⟨r, ?_⟩
    obtain ⟨e1, e2, e3⟩ := e
    cases a <;> simp [heapsOf, hr]

theorem infoFrom_take {b : List (List Nat)} {kp : Nat → Bool} {hv : List Nat} : ∀ (l : List AOper) (i c k : Nat), (infoFrom b kp hv i c l).take k = infoFrom b kp hv i c (l.take k)
  | [], i, c, k => by simp [infoFrom]
  | y :: l, i, c, 0 => by simp [infoFrom]
  | y :: l, i, c, k + 1 => by
    simp only [infoFrom, List.take_succ_cons]
    cases y.op.calm with
    | false => simp [infoFrom_take l]
    | true => cases y.op.dry <;> simp [infoFrom_take l]

/-- The heap ahead of the k-th operation is the one behind those ahead of it. -/
theorem trace_heap_at {b : List (List Nat)} {kp : Nat → Bool} {hv : List Nat} {l : List AOper} {f fk : Fr} {h hk : AHeap} {es : List (Fr × AVal × AHeap)} {k : Nat} (ht : trace P I call (l.take k) f h = some (es.take k, fk, hk)) :
    (h :: heapsOf (infoFrom b kp hv 0 0 l) es)[cntH (l.take k)]? = some hk := by
  obtain ⟨r, hr⟩ := heapsOf_take (infoFrom b kp hv 0 0 l) es k
  rw [infoFrom_take] at hr
  have hh := trace_heap (b := b) (kp := kp) (hv := hv) (i := 0) (c := 0) ht
  rw [hr, ← List.cons_append, List.getElem?_append_left (by simp [hh.2])]
  exact hh.1

theorem chkAll_get {hs : List AHeap} : ∀ (os : List AOper) (is : List (Bool × List Nat)) (es : List (Fr × AVal × AHeap)), chkAll P I call hs os is es = true → ∀ (k : Nat) (o : AOper) (fl : Bool) (l : List Nat) (e : Fr × AVal × AHeap),
    os[k]? = some o → is[k]? = some (fl, l) → es[k]? = some e → ∀ s ∈ l, chkOne P I call hs o e s = true := by
  intro os
  induction os with
  | nil => intro is es _ k o fl l e h1; simp at h1
  | cons o os ih =>
    intro is es h k o' fl' l' e' h1 h2 h3 s hs'
    cases is with
    | nil => simp at h2
    | cons i is =>
      cases es with
      | nil => simp at h3
      | cons e es =>
        obtain ⟨a, l⟩ := i
        simp only [chkAll, Bool.and_eq_true, List.all_eq_true] at h
        cases k with
        | zero =>
          simp at h1 h2 h3
          obtain ⟨rfl, rfl⟩ := h2
          subst h1; subst h3
          exact h.1 s hs'
        | succ k => exact ih is es h.2 k o' fl' l' e' (by simpa using h1) (by simpa using h2) (by simpa using h3) s hs'
end

end

end Go.AM
