/- AM, part 19: regions that draw their order: the theorem. Condition: the program follows 'mixedOrders' (as all do that the translator makes). -/
import Derived.Test.YthihegmbdclikaaDoorAmDraw2
namespace Go.AM
noncomputable section
open Go.RowKit
set_option linter.unusedSectionVars false
variable [Sig]

section
variable {P : Program} {W : World} {I : Inp} {call : CallFn}

theorem cOpers_get {ops : Array Oper} : ∀ {l : List Oper} {aos : List AOper}, cOpers P ops l = some aos → aos.length = l.length ∧ ∀ (i : Nat) (o : Oper), l[i]? = some o → ∃ ao, aos[i]? = some ao ∧ cOper P ops o = some ao
  | [], aos, h => by simp only [cOpers, Option.some.injEq] at h; subst h; exact ⟨rfl, fun i o h => by simp at h⟩
  | o :: l, aos, h => by
    simp only [cOpers] at h
    split at h
    · rename_i a as' h1 h2
      cases h
      obtain ⟨e1, e2⟩ := cOpers_get h2
      refine ⟨by simp [e1], fun i o' ho => ?_⟩
      cases i with
      | zero => simp at ho; subst ho; exact ⟨a, rfl, h1⟩
      | succ i => obtain ⟨ao, g1, g2⟩ := e2 i o' (by simpa using ho); exact ⟨ao, by simpa using g1, g2⟩
    · cases h

theorem trace_snoc : ∀ {l : List AOper} {x : AOper} {f fk : Fr} {h hk : AHeap} {es : List (Fr × AVal × AHeap)} {v : AVal} {h1 : AHeap}, trace P I call l f h = some (es, fk, hk) → valOper P I call x fk hk = some (v, h1) →
    trace P I call (l ++ [x]) f h = some (es ++ [(fk, v, h1)], putDst x fk v, h1)
  | [], x, f, fk, h, hk, es, v, h1, ht, hv => by
    simp only [trace, Option.some.injEq, Prod.mk.injEq] at ht
    obtain ⟨rfl, rfl, rfl⟩ := ht
    simp [trace, hv]
  | y :: l, x, f, fk, h, hk, es, v, h1, ht, hv => by
    obtain ⟨v0, h0, es', e1, e2, rfl⟩ := trace_cons ht
    have := trace_snoc e2 hv
    simp [trace, e1, this]

theorem trace_take_succ {l : List AOper} {f f' : Fr} {h h' : AHeap} {es : List (Fr × AVal × AHeap)} (ht : trace P I call l f h = some (es, f', h')) {k : Nat} {x : AOper} (hx : l[k]? = some x) {fk : Fr} {v : AVal} {h1 : AHeap}
    (he : es[k]? = some (fk, v, h1)) : trace P I call (l.take (k + 1)) f h = some (es.take (k + 1), putDst x fk v, h1) := by
  obtain ⟨fk', hk, v', h1', e1, e2, e3⟩ := trace_get ht hx
  rw [he] at e1
  cases e1
  have := trace_snoc e3 e2
  rw [List.take_add_one, List.take_add_one, hx, he]
  exact this

theorem getD_both' {listed : Array Bool} {i : Nat} (h : listed.getD i true = false) : listed.getD i false = false := by
  rcases Nat.lt_or_ge i listed.size with h' | h'
  · simp [h'] at h ⊢; exact h
  · simp [Array.getElem?_eq_none h'] at h

theorem getD_set {listed : Array Bool} {i : Nat} (hi : i < listed.size) (j : Nat) : (listed.setIfInBounds i true).getD j false = if j = i then true else listed.getD j false := by
  by_cases h : j = i
  · subst h; simp [hi]
  · rw [if_neg h, Array.getD_eq_getD_getElem?, Array.getElem?_setIfInBounds_ne (fun e => h e.symm), ← Array.getD_eq_getD_getElem?]

theorem mem_directs {o : Oper} {j : Nat} : j ∈ directs o ↔ ∃ e ∈ o.after, Region.binds .any e = true ∧ e.on = j := by
  unfold directs
  simp only [List.mem_map, List.mem_filter, Array.mem_toList_iff]
  constructor
  · rintro ⟨e, ⟨h1, h2⟩, h3⟩; exact ⟨e, h1, h2, h3⟩
  · rintro ⟨e, h1, h2, h3⟩; exact ⟨e, ⟨h1, h2⟩, h3⟩

theorem getD_rep {m j : Nat} : (Array.replicate m false).getD j false = false := by
  rcases Nat.lt_or_ge j m with h | h
  · simp [h]
  · simp [h]

theorem befs_lt' : ∀ (l : List Oper) (acc : List (List Nat)), (∀ i j, j ∈ acc.getD i [] → j < i) → (∀ (i : Nat) (o : Oper), l[i]? = some o → ∀ j ∈ directs o, j < acc.length + i) → ∀ i j, j ∈ (befs l acc).getD i [] → j < i
  | [], acc, h, _, i, j, hj => h i j hj
  | o :: r, acc, h, hl, i, j, hj => by
    refine befs_lt' r (acc ++ [directs o ++ (directs o).flatMap fun j => acc.getD j []]) ?_ ?_ i j hj
    · intro i j hj
      by_cases h1 : i < acc.length
      · rw [List.getD_eq_getElem?_getD, List.getElem?_append_left h1, ← List.getD_eq_getElem?_getD] at hj
        exact h i j hj
      · rw [List.getD_eq_getElem?_getD, List.getElem?_append_right (by omega), ← List.getD_eq_getElem?_getD] at hj
        by_cases h2 : i = acc.length
        · subst h2
          simp only [Nat.sub_self, List.getD_cons_zero, List.mem_append, List.mem_flatMap] at hj
          rcases hj with hj | ⟨k, hk, hj⟩
          · exact hl 0 o rfl j hj
          · have := hl 0 o rfl k hk
            have := h k j hj
            omega
        · have : ∃ m, i - acc.length = m + 1 := ⟨i - acc.length - 1, by omega⟩
          obtain ⟨m, hm⟩ := this
          rw [hm] at hj
          simp at hj
    · intro i o' ho j hj
      have := hl (i + 1) o' (by simpa using ho) j hj
      simp
      omega

theorem befs_lt {ops : Array Oper} {b : List (List Nat)} (hedges : edgesOk 0 ops.toList = true) (hb : befs ops.toList [] = b) (k j : Nat) (hj : j ∈ b.getD k []) : j < k := by
  rw [← hb] at hj
  exact befs_lt' ops.toList [] (fun i j hj => by simp at hj) (fun i o ho j hj => by simpa using edgesOk_get hedges ho j hj) k j hj


/-! ### what is kept for the operations that make memory -/
/-- A block that lies in the world but not yet in the abstract machine's heap. -/
structure Pend (ι : Map) (w0 : World) (H : AHeap) (w : World) (k : Nat) (cs : List AVal) (pl : Pl) : Prop where
  map : ι k = some pl
  base : w0.heap.size ≤ pl.blk
  lt : pl.blk < w.heap.size
  blk : BlkAt ι w ⟨cs, true⟩ pl
  free : ∀ k' b' pl', H.get k' = some b' → ι k' = some pl' → pl'.blk ≠ pl.blk

theorem BlkAt.keep {ι ι' : Map} {w w' : World} {b : Blk} {pl : Pl} (h : BlkAt ι w b pl) (hle : ι.le ι') (he : w'.heap[pl.blk]? = w.heap[pl.blk]?) : BlkAt ι' w' b pl := by
  obtain ⟨cs, e, fz, hg, h1, h2, h3, h4, h5, h6⟩ := h
  exact ⟨cs, e, fz, by rw [he]; exact hg, h1, h2, h3, h4, h5, fun i v hv => by obtain ⟨u, hu, hr⟩ := h6 i v hv; exact ⟨u, hu, hr.mono hle⟩⟩

theorem Rep.live_lt {ι : Map} {h : AHeap} {w : World} (r : Rep W ι h w) {k : Nat} {b : Blk} {pl : Pl} (hk : h.get k = some b) (hp : ι k = some pl) : pl.blk < w.heap.size := by
  obtain ⟨pl', hp', _, cs, e, fz, hg, _⟩ := r.own k b hk
  rw [hp] at hp'; cases hp'
  exact (Array.getElem?_eq_some_iff.1 hg).1

/-- It comes into the abstract machine's heap. -/
theorem Step.commit {ι ι1 : Map} {hO H : AHeap} {w0 w : World} {k : Nat} {cs : List AVal} {pl : Pl} (s : Step W ι hO w0 ι1 H w) (hbase : W.heap.size ≤ w0.heap.size) (p : Pend ι1 w0 H w k cs pl) (hk : hO.next ≤ k) (hlt : k < H.next) (hn : H.get k = none) :
    Step W ι hO w0 ι1 (H.set k ⟨cs, true⟩) w := by
  have hget := fun m => AHeap.get_set (h := H) (k := k) (b := ⟨cs, true⟩) m
  refine ⟨s.le, ⟨s.rep.below, ?_, ?_, s.rep.fresh⟩, s.size, s.next, ?_, s.old, ?_⟩
  · intro k2 b2 h2
    rw [hget] at h2
    by_cases e : k2 = k
    · subst e; rw [if_pos rfl] at h2; cases h2; exact ⟨pl, p.map, by have := p.base; omega, p.blk⟩
    · rw [if_neg e] at h2; exact s.rep.own k2 b2 h2
  · intro k1 k2 b1 b2 pl1 pl2 h1 h2 hp1 hp2 he
    rw [hget] at h1 h2
    by_cases e1 : k1 = k
    · by_cases e2 : k2 = k
      · omega
      · rw [if_neg e2] at h2
        subst e1
        rw [p.map] at hp1; cases hp1
        exact absurd he.symm (p.free k2 b2 pl2 h2 hp2)
    · rw [if_neg e1] at h1
      by_cases e2 : k2 = k
      · subst e2
        rw [p.map] at hp2; cases hp2
        exact absurd he (p.free k1 b1 pl1 h1 hp1)
      · rw [if_neg e2] at h2
        exact s.rep.inj _ _ _ _ _ _ h1 h2 hp1 hp2 he
  · intro g hg hno
    obtain ⟨e1, e2⟩ := s.keeps g hg hno
    refine ⟨e1, fun k2 b2 pl2 h2 hp2 => ?_⟩
    rw [hget] at h2
    by_cases e : k2 = k
    · subst e; rw [p.map] at hp2; cases hp2; have := p.base; omega
    · rw [if_neg e] at h2; exact e2 k2 b2 pl2 h2 hp2
  · intro k2 hk2 hn2
    rw [hget, if_neg (by omega)]
    exact s.dead k2 hk2 hn2

/-- It is made in the world. -/
theorem Step.pend {ι ι1 : Map} {hO H : AHeap} {w0 w : World} {k : Nat} {cs : List AVal} {us : Array Value} {e : TypeId} (s : Step W ι hO w0 ι1 H w) (hk : hO.next ≤ k) (hlt : k < H.next) (hn : H.get k = none) (hι : ι1 k = none) (hus : VRels ι1 cs us.toList) :
    Step W ι hO w0 (ι1.add k ⟨w.heap.size, 0, cs.length, us.size⟩) H (w.alloc (.cells us e)) ∧ ι1.le (ι1.add k ⟨w.heap.size, 0, cs.length, us.size⟩) ∧
      Pend (ι1.add k ⟨w.heap.size, 0, cs.length, us.size⟩) w0 H (w.alloc (.cells us e)) k cs ⟨w.heap.size, 0, cs.length, us.size⟩ := by
  have hle : ι1.le (ι1.add k ⟨w.heap.size, 0, cs.length, us.size⟩) := Map.le_add hι
  have hsz : (w.alloc (.cells us e)).heap.size = w.heap.size + 1 := by simp
  have hadd : ∀ k2, k2 ≠ k → (ι1.add k ⟨w.heap.size, 0, cs.length, us.size⟩) k2 = ι1 k2 := fun k2 h2 => by unfold Map.add; rw [if_neg h2]
  have hne : ∀ k2 b2, H.get k2 = some b2 → k2 ≠ k := fun k2 b2 h2 e => by subst e; rw [hn] at h2; cases h2
  refine ⟨⟨Map.le_trans s.le hle, ⟨s.rep.below.alloc s.rep.below.size _, ?_, ?_, ?_⟩, by rw [hsz]; have := s.size; omega, s.next, ?_, ?_, s.dead⟩, hle, ⟨Map.add_self _ _ _, s.size, by rw [hsz]; show w.heap.size < w.heap.size + 1; omega, ?_, ?_⟩⟩
  · intro k2 b2 h2
    obtain ⟨pl2, hp2, hb2, hblk⟩ := s.rep.own k2 b2 h2
    exact ⟨pl2, hle _ _ hp2, hb2, hblk.keep hle (Below.heap_alloc _ _ _ (s.rep.live_lt h2 hp2))⟩
  · intro k1 k2 b1 b2 pl1 pl2 h1 h2 hp1 hp2 he
    rw [hadd _ (hne _ _ h1)] at hp1
    rw [hadd _ (hne _ _ h2)] at hp2
    exact s.rep.inj _ _ _ _ _ _ h1 h2 hp1 hp2 he
  · intro k2 h2
    rw [hadd _ (by omega)]
    exact s.rep.fresh k2 h2
  · intro g hg hno
    obtain ⟨e1, e2⟩ := s.keeps g hg hno
    refine ⟨by rw [Below.heap_alloc _ _ _ (by have := s.size; omega)]; exact e1, fun k2 b2 pl2 h2 hp2 => ?_⟩
    rw [hadd _ (hne _ _ h2)] at hp2
    exact e2 k2 b2 pl2 h2 hp2
  · intro k2 h2
    rw [hadd _ (by omega)]
    exact s.old k2 h2
  · refine ⟨us, e, (0, 0), heap_alloc_new w _, fun o _ hf => by simp at hf, fun _ => rfl, by simp, by rw [hus.length]; simp, rfl, fun i v hv => ?_⟩
    obtain ⟨u, hu, hr⟩ := hus.get hv
    exact ⟨u, by simpa using hu, hr.mono hle⟩
  · intro k' b' pl' h' hp'
    rw [hadd _ (hne _ _ h')] at hp'
    have := s.rep.live_lt h' hp'
    show pl'.blk ≠ w.heap.size
    omega

/-- Behind a further step it waits as before. -/
theorem Pend.step {ι1 ι2 : Map} {H H' : AHeap} {w0 w w' : World} {k : Nat} {cs : List AVal} {pl : Pl} (p : Pend ι1 w0 H w k cs pl) (s : Step W ι1 H w ι2 H' w') : Pend ι2 w0 H' w' k cs pl := by
  obtain ⟨e1, e2⟩ := s.keeps pl.blk p.lt p.free
  exact ⟨s.le _ _ p.map, p.base, Nat.lt_of_lt_of_le p.lt s.size, p.blk.keep s.le e1, e2⟩

theorem val_resv {x : AOper} {k : Nat} {m : MOp} (hx : x.op = .resv k m) (hg : x.guard = none) {f : Fr} {h h1 : AHeap} {v : AVal} (hv : valOper P I call x f h = some (v, h1)) : ∃ cs, m.made f k = some (v, cs) ∧ h1 = h.set k ⟨cs, true⟩ := by
  obtain ⟨dst, op, guard⟩ := x
  simp only at hx hg
  subst hx hg
  simp only [valOper, AOp.stepK_eq, AOp.target, AOp.step] at hv
  split at hv
  · rename_i v' cs hm
    cases hv
    exact ⟨cs, hm, rfl⟩
  · cases hv

/-- What holds when just the listed operations have come up. 'π': which operation stands at a place of the list. -/
structure DSt (W : World) (n : Nat) (π : Nat → Nat) (aos : List AOper) (hv : List Nat) (hs : List AHeap) (es : List (Fr × AVal × AHeap)) (f : Fr) (ι : Map) (hO : AHeap) (w0 : World) (listed : Array Bool) (tmps : Array Value) (w : World) (nh : Nat)
    (s : Nat) (ι1 : Map) (H : AHeap) (g : Fr) : Prop where
  hH : hs[s]? = some H
  le : s ≤ hv.length
  done : ∀ (r p : Nat), hv[r]? = some p → r < s → listed.getD (π p) false = true
  early : ∀ (r p : Nat), hv[r]? = some p → s ≤ r → listed.getD (π p) false = true → keptAt aos p = true
  fr : FrRel ι1 n g tmps
  step : Step W ι hO w0 ι1 H w
  nx : nh ≤ H.next
  g1 : ∀ (i : Nat) (x : AOper) (e : Fr × AVal × AHeap) (t : Nat), aos[i]? = some x → es[i]? = some e → x.dst = some t → listed.getD (π i) false = true → g.get t = e.2.1
  g2 : ∀ t : Nat, (∀ (i : Nat) (x : AOper), aos[i]? = some x → listed.getD (π i) false = true → x.dst ≠ some t) → g.get t = f.get t
  keep : ∀ (r p : Nat) (x : AOper) (k : Nat) (m : MOp), hv[r]? = some p → s ≤ r → aos[p]? = some x → x.op = .resv k m → H.get k = none ∧ (listed.getD (π p) false = false → ι1 k = none) ∧
    (listed.getD (π p) false = true → ∀ e, es[p]? = some e → ∃ cs pl, m.made e.1 k = some (e.2.1, cs) ∧ Pend ι1 w0 H w k cs pl)
  apart : ∀ (r p r' p' : Nat) (x x' : AOper) (k k' : Nat) (m m' : MOp) (pl pl' : Pl), hv[r]? = some p → s ≤ r → hv[r']? = some p' → s ≤ r' → aos[p]? = some x → aos[p']? = some x' → x.op = .resv k m → x'.op = .resv k' m' → p ≠ p' →
    listed.getD (π p) false = true → listed.getD (π p') false = true → ι1 k = some pl → ι1 k' = some pl' → pl.blk ≠ pl'.blk

structure DInv (W : World) (n : Nat) (ops : Array Oper) (π : Nat → Nat) (aos : List AOper) (hv : List Nat) (hs : List AHeap) (es : List (Fr × AVal × AHeap)) (f : Fr) (ι : Map) (hO : AHeap) (a0 : Act) (w0 : World) (nh : Nat) (listed : Array Bool) (a : Act) (w : World) : Prop where
  size : listed.size = ops.size
  closed : ∀ (i : Nat) (o : Oper), ops[i]? = some o → listed.getD i false = true → ∀ j ∈ directs o, listed.getD j false = true
  defers : a.defers = a0.defers
  st : ∃ s ι1 H g, DSt W n π aos hv hs es f ι hO w0 listed a.tmps w nh s ι1 H g

/-- What is known of a region's list ahead of its run. -/
structure DStat (P : Program) (ops : Array Oper) (π : Nat → Nat) (aos : List AOper) (b : List (List Nat)) (kp : Nat → Bool) (hv : List Nat) (lo hi : Nat) : Prop where
  len : aos.length = ops.size
  edges : edgesOk 0 ops.toList = true
  lt : ∀ p, p < ops.size → π p < ops.size
  inj : ∀ p q, p < ops.size → q < ops.size → π p = π q → p = q
  sur : ∀ i, i < ops.size → ∃ p, p < ops.size ∧ π p = i
  corr : ∀ p x, aos[p]? = some x → ∃ o, ops[π p]? = some o ∧ ((cOper P ops o = some x ∧ x.op.kept = false) ∨ ∃ k m op, x = ⟨o.dst, .resv k m, none⟩ ∧ o.guard = none ∧ cOp P o.op = some op ∧ op.toM = some m ∧ lo ≤ k ∧ k < hi)
  distinct : ∀ (p q : Nat) (x y : AOper) (k : Nat) (m m' : MOp), aos[p]? = some x → aos[q]? = some y → x.op = .resv k m → y.op = .resv k m' → p = q
  rows : rowsOk b 0 aos = true
  hB : ∀ (D : Nat → Prop), (∀ i o, ops[i]? = some o → D i → ∀ j ∈ directs o, D j) → ∀ p, p < ops.size → D (π p) → ∀ q ∈ b.getD p [], q < ops.size ∧ D (π q)
  hB' : ∀ p, p < ops.size → p ∉ b.getD p []
  hkp : ∀ p, keptAt aos p = true → kp p = true
  hvd : heavies 0 aos = hv

theorem keptAt_spec {l : List AOper} {p : Nat} (h : keptAt l p = true) : ∃ x k m, l[p]? = some x ∧ x.op = .resv k m := by
  unfold keptAt at h
  split at h
  · rename_i x hx
    obtain ⟨dst, op, g⟩ := x
    cases op <;> first | (cases h; done) | exact ⟨_, _, _, hx, rfl⟩
  · cases h

theorem kept_resv {op : AOp} (h : op.kept = true) : ∃ k m, op = .resv k m := by
  cases op <;> first | (cases h; done) | exact ⟨_, _, rfl⟩

section
variable {n : Nat} {ops : Array Oper} {π : Nat → Nat} {aos : List AOper} {b : List (List Nat)} {kp : Nat → Bool} {hv : List Nat} {f f' : Fr} {h h' hO : AHeap} {es : List (Fr × AVal × AHeap)} {ι : Map} {w0 : World} {listed : Array Bool} {tmps : Array Value} {w : World}

theorem heavy_once {p r r' : Nat} (hvd : heavies 0 aos = hv) (h1 : hv[r]? = some p) (h2 : hv[r']? = some p) : r = r' := by
  rw [← hvd] at h1 h2
  obtain ⟨k, x, e, _, _, hc⟩ := heavies_get h1
  obtain ⟨k', x', e', _, _, hc'⟩ := heavies_get h2
  have : k = k' := by omega
  subst this
  rw [← hc, ← hc']

theorem DSt.commit (st : DStat P ops π aos b kp hv hO.next h.next) (htr : trace P I call aos f h = some (es, f', h')) (hbase : W.heap.size ≤ w0.heap.size) {s : Nat} {ι1 : Map} {H : AHeap} {g : Fr}
    (d : DSt W n π aos hv (h :: heapsOf (infoFrom b kp hv 0 0 aos) es) es f ι hO w0 listed tmps w h.next s ι1 H g) {p : Nat} (hp : hv[s]? = some p) (hl : listed.getD (π p) false = true) :
    ∃ H', DSt W n π aos hv (h :: heapsOf (infoFrom b kp hv 0 0 aos) es) es f ι hO w0 listed tmps w h.next (s + 1) ι1 H' g := by
  obtain ⟨x, k, m, hx, hop⟩ := keptAt_spec (d.early s p hp (Nat.le_refl _) hl)
  obtain ⟨o, ho, hcor⟩ := st.corr p x hx
  have hcor' : x.guard = none ∧ hO.next ≤ k ∧ k < h.next := by
    rcases hcor with ⟨_, hk⟩ | ⟨k', m', op, rfl, _, _, _, h1, h2⟩
    · rw [hop] at hk; cases hk
    · cases hop; exact ⟨rfl, h1, h2⟩
  obtain ⟨hg, hlo, hhi⟩ := hcor'
  obtain ⟨fk, hk, v, h1, he, hval, hpre⟩ := trace_get htr hx
  have hcnt : cntH (aos.take p) = s := by
    have hp' := hp
    rw [← st.hvd] at hp'
    obtain ⟨k', x', e', _, _, hc⟩ := heavies_get hp'
    have : p = k' := by omega
    subst this
    exact hc
  have hat := trace_heap_at (b := b) (kp := kp) (hv := hv) hpre
  rw [hcnt] at hat
  have hHk : H = hk := by rw [d.hH] at hat; exact Option.some.inj hat
  subst hHk
  have hat1 := trace_heap_at (b := b) (kp := kp) (hv := hv) (trace_take_succ htr hx he)
  have hcalm : x.op.calm = false := by rw [hop]; rfl
  rw [cntH_take_succ hx, hcnt, hcalm] at hat1
  obtain ⟨cs, hmade, rfl⟩ := val_resv hop hg hval
  obtain ⟨hnone, _, hpend⟩ := d.keep s p x k m hp (Nat.le_refl _) hx hop
  obtain ⟨cs', pl, hmade', pend⟩ := hpend hl _ he
  have hmm : some (v, cs) = some (v, cs') := hmade.symm.trans hmade'
  cases hmm
  have hnx := d.nx
  have hslt : s < hv.length := (List.getElem?_eq_some_iff.1 hp).1
  refine ⟨H.set k ⟨cs, true⟩, ⟨by simpa using hat1, hslt, ?_, fun r q hq hr hlq => d.early r q hq (by omega) hlq, d.fr, d.step.commit hbase pend hlo (by omega) hnone, hnx, d.g1, d.g2, ?_, fun r q r' q' y y' k2 k2' m2 m2' pl2 pl2' h1 h2 h3 h4 => d.apart r q r' q' y y' k2 k2' m2 m2' pl2 pl2' h1 (by omega) h3 (by omega)⟩⟩
  · intro r q hq hr
    by_cases e : r = s
    · subst e; rw [hp] at hq; cases hq; exact hl
    · exact d.done r q hq (by omega)
  · intro r q y k2 m2 hq hr hy hop2
    have hpq : p ≠ q := by
      intro e
      subst e
      have := heavy_once st.hvd hp hq
      omega
    have hkk : k2 ≠ k := by
      intro e
      subst e
      exact hpq (st.distinct p q x y k2 m m2 hx hy hop hop2)
    obtain ⟨q1, q2, q3⟩ := d.keep r q y k2 m2 hq (by omega) hy hop2
    refine ⟨by rw [AHeap.get_set, if_neg hkk]; exact q1, q2, fun hlq e he => ?_⟩
    obtain ⟨cs2, pl2, g1, g2⟩ := q3 hlq e he
    refine ⟨cs2, pl2, g1, g2.map, g2.base, g2.lt, g2.blk, fun k' b' pl' hk' hp' => ?_⟩
    rw [AHeap.get_set] at hk'
    by_cases e : k' = k
    · subst e
      exact d.apart s p r q x y k' k2 m m2 pl' pl2 hp (Nat.le_refl _) hq (by omega) hx hy hop hop2 hpq hl hlq hp' g2.map
    · rw [if_neg e] at hk'
      exact g2.free k' b' pl' hk' hp'

theorem DSt.commits (st : DStat P ops π aos b kp hv hO.next h.next) (htr : trace P I call aos f h = some (es, f', h')) (hbase : W.heap.size ≤ w0.heap.size) {ι1 : Map} {g : Fr} : ∀ (m s : Nat) {H : AHeap},
    DSt W n π aos hv (h :: heapsOf (infoFrom b kp hv 0 0 aos) es) es f ι hO w0 listed tmps w h.next s ι1 H g → s + m ≤ hv.length → (∀ r p, hv[r]? = some p → s ≤ r → r < s + m → listed.getD (π p) false = true) →
    ∃ H', DSt W n π aos hv (h :: heapsOf (infoFrom b kp hv 0 0 aos) es) es f ι hO w0 listed tmps w h.next (s + m) ι1 H' g := by
  intro m
  induction m with
  | zero => intro s H d _ _; exact ⟨H, d⟩
  | succ m ih =>
    intro s H d hle hall
    have hs : s < hv.length := by omega
    obtain ⟨H1, d1⟩ := d.commit st htr hbase (p := hv[s]) (by simp [hs]) (hall s _ (by simp [hs]) (Nat.le_refl _) (by omega))
    obtain ⟨H2, d2⟩ := ih (s + 1) d1 (by omega) fun r p hp h1 h2 => hall r p hp (by omega) (by omega)
    exact ⟨H2, by rw [show s + (m + 1) = s + 1 + m by omega]; exact d2⟩
end

end

end

end Go.AM
