/- AM, part 19: regions that draw their order: the theorem. Condition: the program follows 'mixedOrders' (as all do that the translator makes). -/
import Derived.Test.YthihegmbdclikaaDoorAmDraw2
namespace Go.AM
open Go.RowKit

section
variable {P : Program} {W : World} {I : Inp} {call : CallFn}

theorem cOpers_get {ops : Array Oper} : ∀ {l : List Oper} {aos : List AOper}, cOpers P ops l = some aos → aos.length = l.length ∧ ∀ (i : Nat) (o : Oper), l[i]? = some o → ∃ ao, aos[i]? = some ao ∧ cOper P ops o = some ao
  | [], aos, h => by simp only [cOpers, Option.some.injEq] at h; subst h; exact ⟨rfl, fun i o h => by simp at h⟩
  | o :: l, aos, h => by
    simp only [cOpers] at h
    split at h
    · rename_i a as' h1 h2
      cases h
      obtain ⟨e1, e2⟩ := cOpers_get h2
      refine ⟨by simp [e1], fun i o' ho => ?_⟩
      cases i with
      | zero => simp at ho; subst ho; exact ⟨a, rfl, h1⟩
      | succ i => obtain ⟨ao, g1, g2⟩ := e2 i o' (by simpa using ho); exact ⟨ao, by simpa using g1, g2⟩
    · cases h

theorem trace_snoc : ∀ {l : List AOper} {x : AOper} {f fk : Fr} {h hk : AHeap} {es : List (Fr × AVal × AHeap)} {v : AVal} {h1 : AHeap}, trace P I call l f h = some (es, fk, hk) → valOper P I call x fk hk = some (v, h1) →
    trace P I call (l ++ [x]) f h = some (es ++ [(fk, v, h1)], putDst x fk v, h1)
  | [], x, f, fk, h, hk, es, v, h1, ht, hv => by
    simp only [trace, Option.some.injEq, Prod.mk.injEq] at ht
    obtain ⟨rfl, rfl, rfl⟩ := ht
    simp [trace, hv]
  | y :: l, x, f, fk, h, hk, es, v, h1, ht, hv => by
    obtain ⟨v0, h0, es', e1, e2, rfl⟩ := trace_cons ht
    have := trace_snoc e2 hv
    simp [trace, e1, this]

theorem trace_take_succ {l : List AOper} {f f' : Fr} {h h' : AHeap} {es : List (Fr × AVal × AHeap)} (ht : trace P I call l f h = some (es, f', h')) {k : Nat} {x : AOper} (hx : l[k]? = some x) {fk : Fr} {v : AVal} {h1 : AHeap}
    (he : es[k]? = some (fk, v, h1)) : trace P I call (l.take (k + 1)) f h = some (es.take (k + 1), putDst x fk v, h1) := by
  obtain ⟨fk', hk, v', h1', e1, e2, e3⟩ := trace_get ht hx
  rw [he] at e1
  cases e1
  have := trace_snoc e3 e2
  rw [List.take_add_one, List.take_add_one, hx, he]
  exact this

/-- What holds when just the listed operations have come up. -/
structure DInv (W : World) (n : Nat) (ops : Array Oper) (aos : List AOper) (hv : List Nat) (hs : List AHeap) (es : List (Fr × AVal × AHeap)) (f : Fr) (ι : Map) (h : AHeap) (a0 : Act) (w0 : World) (listed : Array Bool) (a : Act) (w : World) : Prop where
  size : listed.size = ops.size
  closed : ∀ (i : Nat) (o : Oper), ops[i]? = some o → listed.getD i false = true → ∀ j ∈ directs o, listed.getD j false = true
  defers : a.defers = a0.defers
  st : ∃ ι1 s H g, hs[s]? = some H ∧ (∀ (r p : Nat), hv[r]? = some p → (listed.getD p false = true ↔ r < s)) ∧ s ≤ hv.length ∧ FrRel ι1 n g a.tmps ∧ Step W ι h w0 ι1 H w ∧
    (∀ (i : Nat) (x : AOper) (e : Fr × AVal × AHeap) (t : Nat), aos[i]? = some x → es[i]? = some e → x.dst = some t → listed.getD i false = true → g.get t = e.2.1) ∧
    (∀ t : Nat, (∀ (i : Nat) (x : AOper), aos[i]? = some x → listed.getD i false = true → x.dst ≠ some t) → g.get t = f.get t)

theorem getD_both' {listed : Array Bool} {i : Nat} (h : listed.getD i true = false) : listed.getD i false = false := by
  rcases Nat.lt_or_ge i listed.size with h' | h'
  · simp [h'] at h ⊢; exact h
  · simp [Array.getElem?_eq_none h'] at h

theorem getD_set {listed : Array Bool} {i : Nat} (hi : i < listed.size) (j : Nat) : (listed.setIfInBounds i true).getD j false = if j = i then true else listed.getD j false := by
  by_cases h : j = i
  · subst h; simp [hi]
  · rw [if_neg h, Array.getD_eq_getD_getElem?, Array.getElem?_setIfInBounds_ne (fun e => h e.symm), ← Array.getD_eq_getD_getElem?]

theorem mem_directs {o : Oper} {j : Nat} : j ∈ directs o ↔ ∃ e ∈ o.after, Region.binds .any e = true ∧ e.on = j := by
  unfold directs
  simp only [List.mem_map, List.mem_filter, Array.mem_toList_iff]
  constructor
  · rintro ⟨e, ⟨h1, h2⟩, h3⟩; exact ⟨e, h1, h2, h3⟩
  · rintro ⟨e, h1, h2, h3⟩; exact ⟨e, ⟨h1, h2⟩, h3⟩

theorem getD_rep {m j : Nat} : (Array.replicate m false).getD j false = false := by
  rcases Nat.lt_or_ge j m with h | h
  · simp [h]
  · simp [h]

theorem befs_lt' : ∀ (l : List Oper) (acc : List (List Nat)), (∀ i j, j ∈ acc.getD i [] → j < i) → (∀ (i : Nat) (o : Oper), l[i]? = some o → ∀ j ∈ directs o, j < acc.length + i) → ∀ i j, j ∈ (befs l acc).getD i [] → j < i
  | [], acc, h, _, i, j, hj => h i j hj
  | o :: r, acc, h, hl, i, j, hj => by
    refine befs_lt' r (acc ++ [directs o ++ (directs o).flatMap fun j => acc.getD j []]) ?_ ?_ i j hj
    · intro i j hj
      by_cases h1 : i < acc.length
      · rw [List.getD_eq_getElem?_getD, List.getElem?_append_left h1, ← List.getD_eq_getElem?_getD] at hj
        exact h i j hj
      · rw [List.getD_eq_getElem?_getD, List.getElem?_append_right (by omega), ← List.getD_eq_getElem?_getD] at hj
        by_cases h2 : i = acc.length
        · subst h2
          simp only [Nat.sub_self, List.getD_cons_zero, List.mem_append, List.mem_flatMap] at hj
          rcases hj with hj | ⟨k, hk, hj⟩
          · exact hl 0 o rfl j hj
          · have := hl 0 o rfl k hk
            have := h k j hj
            omega
        · have : ∃ m, i - acc.length = m + 1 := ⟨i - acc.length - 1, by omega⟩
          obtain ⟨m, hm⟩ := this
          rw [hm] at hj
          simp at hj
    · intro i o' ho j hj
      have := hl (i + 1) o' (by simpa using ho) j hj
      simp
      omega

theorem befs_lt {ops : Array Oper} {b : List (List Nat)} (hedges : edgesOk 0 ops.toList = true) (hb : befs ops.toList [] = b) (k j : Nat) (hj : j ∈ b.getD k []) : j < k := by
  rw [← hb] at hj
  exact befs_lt' ops.toList [] (fun i j hj => by simp at hj) (fun i o ho j hj => by simpa using edgesOk_get hedges ho j hj) k j hj

theorem draw_ok (hI : InpOk W I) (hcall : CallOk P W call) (hm : P.follows .mixedOrders = true) {n : Nat} (hn : n ≤ 16000) : DrawOk P W I call n := by
  intro ops aos info haos hinfo hin f h es f' h' htr hchk id ι a0 w0 r0 fr0
  -- the static facts
  obtain ⟨hlen, hget⟩ := cOpers_get haos
  have hlen' : aos.length = ops.size := by simpa using hlen
  unfold drawInfo at hinfo
  simp only [] at hinfo
  split at hinfo
  case h_2 => cases hinfo
  rename_i hst
  simp only [Bool.and_eq_true] at hst
  obtain ⟨hedges, hrows⟩ := hst
  simp only [Option.some.injEq] at hinfo
  generalize hb : befs ops.toList [] = b at hrows hinfo
  generalize hhv : heavies 0 aos = hv at hinfo
  subst hinfo
  have pair : ∀ {p q : Nat} {x y : AOper}, p < q → aos[p]? = some x → aos[q]? = some y → pairOk b p q x y = true := fun hpq hx hy => by simpa using rowsOk_get hrows hpq hx hy
  have hdist : ∀ (p q : Nat) (x y : AOper) (d : Nat), p < q → aos[p]? = some x → aos[q]? = some y → x.dst = some d → y.dst ≠ some d := by
    intro p q x y d hpq hx hy hxd hyd
    have := pair hpq hx hy
    simp only [pairOk, hxd, hyd, Bool.and_eq_true, Bool.not_eq_true', Nat.beq_refl, reduceCtorEq, and_false, false_and] at this
  have hdist' : ∀ (p q : Nat) (x y : AOper) (d : Nat), aos[p]? = some x → aos[q]? = some y → x.dst = some d → y.dst = some d → p = q := by
    intro p q x y d hx hy hxd hyd
    rcases Nat.lt_trichotomy p q with h1 | h1 | h1
    · exact absurd hyd (hdist p q x y d h1 hx hy hxd)
    · exact h1
    · exact absurd hxd (hdist q p y x d h1 hy hx hyd)
  have aos_of : ∀ {i : Nat}, i < ops.size → ∃ o x, ops[i]? = some o ∧ aos[i]? = some x ∧ cOper P ops o = some x := by
    intro i hi
    obtain ⟨x, hx, hcx⟩ := hget i ops[i] (by simp [hi])
    exact ⟨ops[i], x, by simp [hi], hx, hcx⟩
  -- what stands ahead of a listed one is listed
  have closedB : ∀ {D : Nat → Prop}, (∀ i o, ops[i]? = some o → D i → ∀ j ∈ directs o, D j) → ∀ i, D i → ∀ j ∈ b.getD i [], D j := by
    intro D hD i hi j hj
    rw [← hb] at hj
    exact befs_spec ops.toList [] (fun i _ j hj => by simp at hj) (fun i o ho hi => hD i o (by simpa using ho) (by simpa using hi)) i hi j hj
  -- the main induction
  have main : ∀ (fuel : Nat) (listed : Array Bool) (a : Act) (w : World), listed.toList.countP (fun b => !b) = fuel →
      DInv W n ops aos hv (h :: heapsOf (infoFrom b hv 0 0 aos) es) es f ι h a0 w0 listed a w →
      wpAny P .any ops (fun e a' w' => e = exOf .normal ∧ Post W ι n h a0 w0 f' h' a' w') fuel listed a w := by
    intro fuel
    induction fuel with
    | zero =>
      intro listed a w hcount inv
      have hall : ∀ i, i < ops.size → listed.getD i false = true := by
        intro i hi
        rw [List.countP_eq_zero] at hcount
        have hi' : i < listed.size := by rw [inv.size]; exact hi
        have := hcount listed[i] (by simp)
        simp at this
        simp [hi', this]
      have hready : Region.ready .any ops listed = [] := by
        cases hr : Region.ready .any ops listed with
        | nil => rfl
        | cons i l =>
          have hmem : i ∈ Region.ready .any ops listed := by rw [hr]; simp
          obtain ⟨hu, oi, hoi, _⟩ := mem_ready.1 hmem
          have hi : i < ops.size := (Array.getElem?_eq_some_iff.1 hoi).1
          have := hall i hi
          rw [getD_both' hu] at this
          cases this
      refine ⟨hready, rfl, ?_⟩
      obtain ⟨ι1, s, H, g, hH, hpre, hs, hfr, hstep, hg1, hg2⟩ := inv.st
      have hhv' : ∀ (r p : Nat), hv[r]? = some p → r < s := by
        intro r p hp
        rw [← hhv] at hp
        obtain ⟨k, x, rfl, hx, _, _⟩ := heavies_get hp
        have hk : k < ops.size := by rw [← hlen']; exact (List.getElem?_eq_some_iff.1 hx).1
        have := hall k hk
        exact (hpre r (0 + k) (by rw [← hhv]; exact hp)).1 (by simpa using this)
      have hseq : s = hv.length := by
        rcases Nat.lt_or_ge s hv.length with h1 | h1
        · have := hhv' s hv[s] (by simp [h1])
          omega
        · omega
      have hth := trace_heap (b := b) (hv := hv) (i := 0) (c := 0) htr
      have hHh : H = h' := by
        rw [hseq, ← hhv, heavies_length] at hH
        rw [hhv] at hH
        rw [hth.1] at hH
        exact (Option.some.inj hH).symm
      subst hHh
      refine ⟨⟨ι1, ⟨hfr.size, fun t => ?_⟩, hstep⟩, inv.defers⟩
      have htf := trace_frame hn htr hin hdist t
      have : f'.get t = g.get t := by
        by_cases hex : ∃ (i : Nat) (x : AOper), aos[i]? = some x ∧ x.dst = some t
        · obtain ⟨i, x, hx, hxt⟩ := hex
          have hi : i < ops.size := by rw [← hlen']; exact (List.getElem?_eq_some_iff.1 hx).1
          have hie : i < es.length := by rw [trace_length htr, hlen']; exact hi
          rw [htf.1 i x es[i] hx (by simp [hie]) hxt, hg1 i x es[i] t hx (by simp [hie]) hxt (hall i hi)]
        · rw [htf.2 fun k x hx hxt => hex ⟨k, x, hx, hxt⟩, hg2 t fun i x hx _ hxt => hex ⟨i, x, hx, hxt⟩]
      rw [this]
      exact hfr.get t
    | succ fuel ih =>
      intro listed a w hcount inv
      constructor
      · intro hempty
        exfalso
        -- the first that is not listed may come up
        have hex : ∃ i, i < ops.size ∧ listed.getD i false = false := by
          have hpos : 0 < listed.toList.countP (fun b => !b) := by omega
          rw [List.countP_pos_iff] at hpos
          obtain ⟨x, hx, hxb⟩ := hpos
          obtain ⟨i, hi, hxi⟩ := List.mem_iff_getElem.1 hx
          have hi' : i < listed.size := by simpa using hi
          refine ⟨i, by rw [← inv.size]; exact hi', ?_⟩
          have : listed[i] = x := by simpa using hxi
          simp [hi', this]
          simpa using hxb
        have hmin : ∃ i, i < ops.size ∧ listed.getD i false = false ∧ ∀ j, j < i → listed.getD j false = true := by
          obtain ⟨i, hi, hu⟩ := hex
          induction i using Nat.strongRecOn with
          | _ i ihi =>
            by_cases hall : ∀ j, j < i → listed.getD j false = true
            · exact ⟨i, hi, hu, hall⟩
            · obtain ⟨j, hj⟩ := Classical.not_forall.1 hall
              have hji : j < i := by
                rcases Nat.lt_or_ge j i with h1 | h1
                · exact h1
                · exact absurd (fun h2 => absurd h2 (by omega)) hj
              have hju : listed.getD j false = false := by
                cases hh : listed.getD j false with
                | false => rfl
                | true => exact absurd (fun _ => hh) hj
              exact ihi j hji (by omega) hju
        obtain ⟨i, hi, hu, hlow⟩ := hmin
        obtain ⟨o, x, ho, hx, _⟩ := aos_of hi
        have hmem : i ∈ Region.ready .any ops listed := by
          refine mem_ready.2 ⟨?_, o, ho, fun e he hbd => ?_⟩
          · have hi' : i < listed.size := by rw [inv.size]; exact hi
            simp [hi'] at hu ⊢; exact hu
          · have hlt := edgesOk_get (i := 0) hedges (k := i) (o := o) (by simpa using ho) e.on (mem_directs.2 ⟨e, he, hbd, rfl⟩)
            exact hlow e.on (by omega)
        rw [hempty] at hmem
        cases hmem
      · intro i hi
        obtain ⟨hu, o, ho, hedge⟩ := mem_ready.1 hi
        have hun := getD_both' hu
        have hio : i < ops.size := (Array.getElem?_eq_some_iff.1 ho).1
        have hil : i < listed.size := by rw [inv.size]; exact hio
        obtain ⟨x, hx, hcx⟩ := hget i o (by simpa using ho)
        have hie : i < es.length := by rw [trace_length htr, hlen']; exact hio
        obtain ⟨fk, hk, v, h1, he, hval, hpre_tr⟩ := trace_get htr hx
        obtain ⟨ι1, s, H, g, hH, hpre, hs, hfr, hstep, hg1, hg2⟩ := inv.st
        have hdir : ∀ j ∈ directs o, listed.getD j false = true := by
          intro j hj
          obtain ⟨e, he1, he2, rfl⟩ := mem_directs.1 hj
          exact hedge e he1 he2
        have hahead : ∀ j ∈ b.getD i [], j = i ∨ listed.getD j false = true := by
          refine closedB (D := fun j => j = i ∨ listed.getD j false = true) ?_ i (.inl rfl)
          intro k ok hok hD j hj
          rcases hD with rfl | hD
          · rw [ho] at hok; cases hok; exact .inr (hdir j hj)
          · exact .inr (inv.closed k ok hok hD j hj)
        have hself : i ∉ b.getD i [] := by
          intro hmem
          have : ∀ k, k = i → ∀ j ∈ b.getD k [], j < k := by
            intro k _
            exact fun j hj => befs_lt hedges hb k j hj
          exact absurd (this i rfl i hmem) (by omega)
        have hahead' : ∀ j ∈ b.getD i [], listed.getD j false = true := by
          intro j hj
          rcases hahead j hj with rfl | h2
          · exact absurd hj hself
          · exact h2
        have hbehind : ∀ j, listed.getD j false = true → i ∉ b.getD j [] := by
          intro j hj hmem
          have := closedB (D := fun j => listed.getD j false = true) inv.closed j hj i hmem
          rw [hun] at this; cases this
        -- the frames agree on what it looks at
        have hagree : ∀ t ∈ x.looks, g.get t = fk.get t := by
          intro t ht
          have htf := trace_frame hn hpre_tr (by
            unfold opersIn at hin ⊢
            rw [List.all_eq_true] at hin ⊢
            exact fun y hy => hin y (List.mem_of_mem_take hy)) (fun p q x y d hpq hx hy => by
            have hp1 : p < i := by have := (List.getElem?_eq_some_iff.1 hx).1; simp at this; omega
            have hq1 : q < i := by have := (List.getElem?_eq_some_iff.1 hy).1; simp at this; omega
            rw [List.getElem?_take_of_lt hp1] at hx
            rw [List.getElem?_take_of_lt hq1] at hy
            exact hdist p q x y d hpq hx hy) t
          by_cases hex : ∃ (j : Nat) (y : AOper), j < i ∧ aos[j]? = some y ∧ y.dst = some t
          · obtain ⟨j, y, hji, hy, hyt⟩ := hex
            have hp := pair hji hy hx
            simp only [pairOk, hyt, Bool.and_eq_true, Bool.or_eq_true, Bool.not_eq_true'] at hp
            have hmem : j ∈ b.getD i [] := by
              rcases hp.1.2.1 with h2 | h2
              · have : hasN x.looks t = true := hasN_iff.2 ht
                rw [this] at h2; cases h2
              · exact hasN_iff.1 h2
            have hlj := hahead' j hmem
            have hje : j < es.length := by omega
            rw [hg1 j y es[j] t hy (by simp [hje]) hyt hlj, htf.1 j y es[j] (by rw [List.getElem?_take_of_lt hji]; exact hy) (by rw [List.getElem?_take_of_lt hji]; simp [hje]) hyt]
          · have h2 : fk.get t = f.get t := htf.2 fun k y hy hyt => by
              have hk1 : k < i := by have := (List.getElem?_eq_some_iff.1 hy).1; simp at this; omega
              rw [List.getElem?_take_of_lt hk1] at hy
              exact hex ⟨k, y, hk1, hy, hyt⟩
            rw [h2]
            refine hg2 t fun j y hy hlj hyt => ?_
            rcases Nat.lt_trichotomy j i with h3 | h3 | h3
            · exact hex ⟨j, y, h3, hy, hyt⟩
            · subst h3; rw [hun] at hlj; cases hlj
            · have hp := pair h3 hx hy
              simp only [pairOk, hyt, Bool.and_eq_true, Bool.or_eq_true, Bool.not_eq_true'] at hp
              rcases hp.2 with h4 | h4
              · have : hasN x.looks t = true := hasN_iff.2 ht
                rw [this] at h4; cases h4
              · exact hbehind j hlj (hasN_iff.1 h4)
        have hat := trace_heap_at (b := b) (hv := hv) hpre_tr
        have hsucc := trace_take_succ htr hx he
        have hat1 := trace_heap_at (b := b) (hv := hv) hsucc
        rw [cntH_take_succ hx] at hat1
        have hx0 : cntH (aos.take i) ≤ hv.length := by
          rw [← hhv, heavies_length]
          have := cntH_take_mono aos (p := i) (q := aos.length) (by omega)
          rwa [List.take_length] at this
        -- the operation's value, in this state
        have hnow : ∃ H', valOper P I call x g H = some (v, H') ∧ ((x.op.calm = true ∧ H' = H) ∨ (x.op.calm = false ∧ s = cntH (aos.take i) ∧ H' = h1)) := by
          cases hcalm : x.op.calm with
          | false =>
            have hvi : hv[cntH (aos.take i)]? = some i := by
              have := heavies_of 0 hx hcalm
              rw [hhv] at this
              simpa using this
            have hge : s ≤ cntH (aos.take i) := by
              rcases Nat.lt_or_ge (cntH (aos.take i)) s with h2 | h2
              · have := (hpre _ _ hvi).2 h2
                rw [hun] at this; cases this
              · exact h2
            have hseq : s = cntH (aos.take i) := by
              rcases Nat.lt_or_ge s (cntH (aos.take i)) with h2 | h2
              · exfalso
                have hsl : s < hv.length := by omega
                obtain ⟨ps, hps⟩ : ∃ p, hv[s]? = some p := ⟨hv[s], by simp [hsl]⟩
                have hps' := hps
                rw [← hhv] at hps'
                obtain ⟨k, y, hky, hy, hcy, hck⟩ := heavies_get hps'
                rw [Nat.zero_add] at hky
                have hki : k < i := by
                  rcases Nat.lt_or_ge k i with h3 | h3
                  · exact h3
                  · have := cntH_take_mono aos h3
                    omega
                have hp := pair hki hy hx
                simp only [pairOk, hcy, hcalm, Bool.false_or, Bool.and_eq_true] at hp
                have hlk := hahead' k (hasN_iff.1 hp.1.1)
                have : s < s := (hpre s k (by rw [hps, hky])).1 hlk
                omega
              · omega
            have hHk : H = hk := by
              rw [hseq, hat] at hH
              exact (Option.some.inj hH).symm
            subst hHk
            exact ⟨h1, by rw [valOper_congr hagree]; exact hval, .inr ⟨rfl, hseq, rfl⟩⟩
          | true =>
            have hh1 := val_calm hcalm hval
            subst hh1
            refine ⟨H, ?_, .inl ⟨rfl, rfl⟩⟩
            rw [valOper_congr hagree]
            by_cases hsc : s = cntH (aos.take i)
            · have : H = h1 := by rw [hsc, hat] at hH; exact (Option.some.inj hH).symm
              rw [this]; exact hval
            · cases hdry : x.op.dry with
              | true => exact val_dry hdry hval
              | false =>
                have hinf := info_get (b := b) (hv := hv) (i := 0) (c := 0) hx
                rw [if_pos ⟨hcalm, hdry⟩, Nat.zero_add, Nat.zero_add] at hinf
                have hmem : s ∈ (List.range (hv.length + 1)).filter fun s => !Nat.beq s (cntH (aos.take i)) && okAt b hv i s := by
                  rw [List.mem_filter]
                  refine ⟨List.mem_range.2 (by omega), ?_⟩
                  rw [Bool.and_eq_true]
                  refine ⟨?_, ?_⟩
                  · cases hbq : Nat.beq s (cntH (aos.take i)) with
                    | false => rfl
                    | true => exact absurd (by simpa using hbq) hsc
                  · unfold okAt
                    rw [Bool.and_eq_true, List.all_eq_true, List.all_eq_true]
                    constructor
                    · intro p hp
                      obtain ⟨q, hqp⟩ := List.mem_iff_getElem?.1 hp
                      have hq := (List.getElem?_eq_some_iff.1 hqp).1
                      have hqs : q < s := by simp at hq; omega
                      rw [List.getElem?_take_of_lt hqs] at hqp
                      have hlp := (hpre q p hqp).2 hqs
                      cases hh : hasN (b.getD p []) i with
                      | false => rfl
                      | true => exact absurd (hasN_iff.1 hh) (hbehind p hlp)
                    · intro p hp
                      obtain ⟨q, hq⟩ := List.mem_iff_getElem?.1 hp
                      rw [List.getElem?_drop] at hq
                      cases hh : hasN (b.getD i []) p with
                      | false => rfl
                      | true =>
                        have := (hpre (s + q) p hq).1 (hahead' p (hasN_iff.1 hh))
                        omega
                have hc1 := chkAll_get aos _ es hchk i x _ _ _ hx hinf he s hmem
                unfold chkOne at hc1
                rw [hH] at hc1
                simp only [] at hc1
                split at hc1
                · rename_i v' H' hv'
                  have e1 := val_calm hcalm hv'
                  have e2 := AVal.eqb_eq hc1
                  rw [hv', e1, e2]
                · cases hc1
        obtain ⟨H', hval', hkind⟩ := hnow
        have hrun : runOper P I call x g H = some (putDst x g v, H') := by simp [runOper, hval']
        have hd : ∀ d, x.dst = some d → d < n := by
          intro d hd
          unfold opersIn at hin
          rw [List.all_eq_true] at hin
          have := hin x (List.mem_of_getElem? hx)
          rw [hd] at this
          exact Nat.le_of_ble_eq_true this
        have := oper_sound hI hcall hn hcx hd hrun hstep.rep hfr (Q := fun e a' w' => e = exOf .normal ∧ Post W ι n h a0 w0 f' h' a' w')
          (next := wpAny P .any ops (fun e a' w' => e = exOf .normal ∧ Post W ι n h a0 w0 f' h' a' w') fuel (listed.setIfInBounds i true)) ?_
        · unfold wpOp
          rw [ho]
          exact this
        · intro a' w' hp
          obtain ⟨⟨ι2, hfr2, hst2⟩, hdef2⟩ := hp
          refine ih _ _ _ ?_ ⟨by simp [inv.size], ?_, hdef2.trans inv.defers, ?_⟩
          · rw [Array.toList_setIfInBounds, List.countP_set (by simpa using hil)]
            have : listed.toList[i]'(by simpa using hil) = false := by
              simp [hil] at hun
              simpa using hun
            rw [this]
            simp only [Bool.not_false, if_true, Bool.not_true, Bool.false_eq_true, if_false]
            omega
          · intro j oj hoj hlj k hk'
            rw [getD_set hil] at hlj ⊢
            by_cases hji : j = i
            · subst hji
              rw [ho] at hoj; cases hoj
              have := hdir k hk'
              by_cases hki : k = j
              · rw [if_pos hki]
              · rw [if_neg hki]; exact this
            · rw [if_neg hji] at hlj
              have := inv.closed j oj hoj hlj k hk'
              by_cases hki : k = i
              · rw [if_pos hki]
              · rw [if_neg hki]; exact this
          · have hgetput : ∀ t, (putDst x g v).get t = (match x.dst with | some d => if t = d then v else g.get t | none => g.get t) := by
              intro t
              unfold putDst
              cases hxd : x.dst with
              | none => rfl
              | some d => exact Fr.get_put (by have := hd d hxd; show d + 1 < 16384; omega) t
            have hgs : (∀ (j : Nat) (y : AOper) (e : Fr × AVal × AHeap) (t : Nat), aos[j]? = some y → es[j]? = some e → y.dst = some t → (listed.setIfInBounds i true).getD j false = true → (putDst x g v).get t = e.2.1) ∧
                (∀ t : Nat, (∀ (j : Nat) (y : AOper), aos[j]? = some y → (listed.setIfInBounds i true).getD j false = true → y.dst ≠ some t) → (putDst x g v).get t = f.get t) := by
              constructor
              · intro j y e t hy hej hyt hlj
                rw [getD_set hil] at hlj
                rw [hgetput]
                by_cases hji : j = i
                · subst hji
                  rw [hx] at hy; cases hy
                  rw [he] at hej; cases hej
                  simp [hyt]
                · rw [if_neg hji] at hlj
                  have hgt := hg1 j y e t hy hej hyt hlj
                  cases hxd : x.dst with
                  | none => exact hgt
                  | some d =>
                    by_cases htd : t = d
                    · subst htd
                      exact absurd (hdist' j i y x t hy hx hyt hxd) hji
                    · simp [htd]; exact hgt
              · intro t hno
                rw [hgetput]
                have hgt : g.get t = f.get t := hg2 t fun j y hy hlj => hno j y hy (by rw [getD_set hil]; split <;> first | rfl | exact hlj)
                cases hxd : x.dst with
                | none => exact hgt
                | some d =>
                  have : t ≠ d := by
                    intro e
                    exact hno i x hx (by rw [getD_set hil]; simp) (by rw [hxd, e])
                  simp [this]; exact hgt
            rcases hkind with ⟨hcalm, rfl⟩ | ⟨hcalm, hseq, rfl⟩
            · refine ⟨ι2, s, H', putDst x g v, hH, ?_, hs, hfr2, hstep.trans hst2, hgs.1, hgs.2⟩
              intro r p hp
              rw [getD_set hil]
              have hpi : p ≠ i := by
                intro e
                subst e
                rw [← hhv] at hp
                obtain ⟨k, y, hky, hy, hcy, _⟩ := heavies_get hp
                rw [Nat.zero_add] at hky
                subst hky
                rw [hx] at hy; cases hy
                rw [hcalm] at hcy; cases hcy
              rw [if_neg hpi]
              exact hpre r p hp
            · have hvi : hv[cntH (aos.take i)]? = some i := by
                have := heavies_of 0 hx hcalm
                rw [hhv] at this
                simpa using this
              have hslt : s < hv.length := by rw [hseq]; exact (List.getElem?_eq_some_iff.1 hvi).1
              refine ⟨ι2, s + 1, H', putDst x g v, ?_, ?_, hslt, hfr2, hstep.trans hst2, hgs.1, hgs.2⟩
              · rw [hcalm] at hat1
                rw [hseq]
                simpa using hat1
              · intro r p hp
                rw [getD_set hil]
                by_cases hpi : p = i
                · rw [if_pos hpi]
                  have hrs : r = s := by
                    rw [← hhv] at hp
                    obtain ⟨k, y, hky, hy, hcy, hck⟩ := heavies_get hp
                    rw [Nat.zero_add] at hky
                    rw [hseq, ← hck]
                    congr 2
                    omega
                  simp; omega
                · rw [if_neg hpi, hpre r p hp]
                  have hrs : r ≠ s := by
                    intro e
                    subst e
                    rw [hseq, hvi] at hp
                    exact hpi (Option.some.inj hp).symm
                  omega
  refine wp_region_any hm (main _ _ _ _ ?_ ?_)
  · rw [Array.toList_replicate, List.countP_replicate]
    simp
  · refine ⟨by simp, ?_, rfl, ι, 0, h, f, rfl, ?_, Nat.zero_le _, fr0, Step.drew r0, ?_, fun _ _ => rfl⟩
    · intro i o _ hi
      rw [getD_rep] at hi
      cases hi
    · intro r p _
      rw [getD_rep]
      simp
    · intro i x e t _ _ _ hi
      rw [getD_rep] at hi
      cases hi
end

end Go.AM
