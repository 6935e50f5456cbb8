/- AM, part 19b: regions that draw their order: the theorem. Condition: the program follows 'mixedOrders' (as all do that the translator makes). -/
import Derived.Test.YthihegmbdclikaaDoorAmDraw3
import Derived.Test.YthihegmbdclikaaDoorAmSnd10
namespace Go.AM
noncomputable section
open Go.RowKit
set_option linter.unusedSectionVars false
variable [Sig]

section
variable {P : Program} {W : World} {I : Inp} {call : CallFn}

theorem draw_core (hI : InpOk W I) (hcall : CallOk P W call) (hm : P.follows .mixedOrders = true) {n : Nat} (hn : n ≤ 16000) {ops : Array Oper} {π : Nat → Nat} {aos : List AOper} {b : List (List Nat)} {kp : Nat → Bool} {hv : List Nat}
    {f f' : Fr} {h h' hO : AHeap} {es : List (Fr × AVal × AHeap)} (sta : DStat P ops π aos b kp hv hO.next h.next) (hin : opersIn n aos = true) (htr : trace P I call aos f h = some (es, f', h'))
    (hchk : chkAll P I call (h :: heapsOf (infoFrom b kp hv 0 0 aos) es) aos (infoFrom b kp hv 0 0 aos) es = true) (id : Nat) {ι : Map} {a0 : Act} {w0 : World} (r0 : Rep W ι hO w0) (s0 : Step W ι hO w0 ι h w0) (fr0 : FrRel ι n f a0.tmps)
    (hfree : ∀ k, hO.next ≤ k → k < h.next → h.get k = none ∧ ι k = none) :
    (Code.region id ops true).wp P (fun e a' w' => e = exOf .normal ∧ Post W ι n hO a0 w0 f' h' a' w') a0 w0 := by
  have hbase : W.heap.size ≤ w0.heap.size := r0.below.size
  have hlen' := sta.len
  have pair : ∀ {p q : Nat} {x y : AOper}, p < q → aos[p]? = some x → aos[q]? = some y → pairOk b p q x y = true := fun hpq hx hy => by simpa using rowsOk_get sta.rows hpq hx hy
  have hdist : ∀ (p q : Nat) (x y : AOper) (d : Nat), p < q → aos[p]? = some x → aos[q]? = some y → x.dst = some d → y.dst ≠ some d := by
    intro p q x y d hpq hx hy hxd hyd
    have := pair hpq hx hy
    simp only [pairOk, hxd, hyd, Bool.and_eq_true, Bool.not_eq_true', Nat.beq_refl, reduceCtorEq, and_false, false_and] at this
  have hdist' : ∀ (p q : Nat) (x y : AOper) (d : Nat), aos[p]? = some x → aos[q]? = some y → x.dst = some d → y.dst = some d → p = q := by
    intro p q x y d hx hy hxd hyd
    rcases Nat.lt_trichotomy p q with h1 | h1 | h1
    · exact absurd hyd (hdist p q x y d h1 hx hy hxd)
    · exact h1
    · exact absurd hxd (hdist q p y x d h1 hy hx hyd)
  have pos_lt : ∀ {p : Nat} {x : AOper}, aos[p]? = some x → p < ops.size := fun hx => by rw [← hlen']; exact (List.getElem?_eq_some_iff.1 hx).1
  have hv_lt : ∀ {r p : Nat}, hv[r]? = some p → ∃ x, aos[p]? = some x ∧ x.op.calm = false ∧ cntH (aos.take p) = r := by
    intro r p hp
    rw [← sta.hvd] at hp
    obtain ⟨k, x, e, hx, hc, hr⟩ := heavies_get hp
    have : p = k := by omega
    subst this
    exact ⟨x, hx, hc, hr⟩
  -- the main induction
  have main : ∀ (fuel : Nat) (listed : Array Bool) (a : Act) (w : World), listed.toList.countP (fun b => !b) = fuel →
      DInv W n ops π aos hv (h :: heapsOf (infoFrom b kp hv 0 0 aos) es) es f ι hO a0 w0 h.next listed a w →
      wpAny P .any ops (fun e a' w' => e = exOf .normal ∧ Post W ι n hO a0 w0 f' h' a' w') fuel listed a w := by
    intro fuel
    induction fuel with
    | zero =>
      intro listed a w hcount inv
      have hall : ∀ i, i < ops.size → listed.getD i false = true := by
        intro i hi
        rw [List.countP_eq_zero] at hcount
        have hi' : i < listed.size := by rw [inv.size]; exact hi
        have := hcount listed[i] (by simp)
        simp at this
        simp [hi', this]
      have hready : Region.ready .any ops listed = [] := by
        cases hr : Region.ready .any ops listed with
        | nil => rfl
        | cons i l =>
          have hmem : i ∈ Region.ready .any ops listed := by rw [hr]; simp
          obtain ⟨hu, oi, hoi, _⟩ := mem_ready.1 hmem
          have hi : i < ops.size := (Array.getElem?_eq_some_iff.1 hoi).1
          have := hall i hi
          rw [getD_both' hu] at this
          cases this
      refine ⟨hready, rfl, ?_⟩
      obtain ⟨s, ι1, H0, g, d0⟩ := inv.st
      obtain ⟨H, d⟩ := d0.commits sta htr hbase (hv.length - s) s (by have := d0.le; omega) fun r p hp _ _ => by
        obtain ⟨x, hx, _⟩ := hv_lt hp
        exact hall _ (sta.lt p (pos_lt hx))
      have hseq : s + (hv.length - s) = hv.length := by have := d0.le; omega
      rw [hseq] at d
      have hth := trace_heap (b := b) (kp := kp) (hv := hv) (i := 0) (c := 0) htr
      have hHh : H = h' := by
        have hH := d.hH
        have e1 : hv.length = cntH aos := by rw [← sta.hvd, heavies_length]
        rw [e1] at hH
        rw [hth.1] at hH
        exact (Option.some.inj hH).symm
      subst hHh
      refine ⟨⟨ι1, ⟨d.fr.size, fun t => ?_⟩, d.step⟩, inv.defers⟩
      have htf := trace_frame hn htr hin hdist t
      have : f'.get t = g.get t := by
        by_cases hex : ∃ (i : Nat) (x : AOper), aos[i]? = some x ∧ x.dst = some t
        · obtain ⟨i, x, hx, hxt⟩ := hex
          have hie : i < es.length := by rw [trace_length htr, hlen']; exact pos_lt hx
          rw [htf.1 i x es[i] hx (by simp [hie]) hxt, d.g1 i x es[i] t hx (by simp [hie]) hxt (hall _ (sta.lt i (pos_lt hx)))]
        · rw [htf.2 fun k x hx hxt => hex ⟨k, x, hx, hxt⟩, d.g2 t fun i x hx _ hxt => hex ⟨i, x, hx, hxt⟩]
      rw [this]
      exact d.fr.get t
    | succ fuel ih =>
      intro listed a w hcount inv
      constructor
      · intro hempty
        exfalso
        -- the first that is not listed may come up
        have hex : ∃ i, i < ops.size ∧ listed.getD i false = false := by
          have hpos : 0 < listed.toList.countP (fun b => !b) := by omega
          rw [List.countP_pos_iff] at hpos
          obtain ⟨x, hx, hxb⟩ := hpos
          obtain ⟨i, hi, hxi⟩ := List.mem_iff_getElem.1 hx
          have hi' : i < listed.size := by simpa using hi
          refine ⟨i, by rw [← inv.size]; exact hi', ?_⟩
          have : listed[i] = x := by simpa using hxi
          simp [hi', this]
          simpa using hxb
        have hmin : ∃ i, i < ops.size ∧ listed.getD i false = false ∧ ∀ j, j < i → listed.getD j false = true := by
          obtain ⟨i, hi, hu⟩ := hex
          induction i using Nat.strongRecOn with
          | _ i ihi =>
            by_cases hall : ∀ j, j < i → listed.getD j false = true
            · exact ⟨i, hi, hu, hall⟩
            · obtain ⟨j, hj⟩ := Classical.not_forall.1 hall
              have hji : j < i := by
                rcases Nat.lt_or_ge j i with h1 | h1
                · exact h1
                · exact absurd (fun h2 => absurd h2 (by omega)) hj
              have hju : listed.getD j false = false := by
                cases hh : listed.getD j false with
                | false => rfl
                | true => exact absurd (fun _ => hh) hj
              exact ihi j hji (by omega) hju
        obtain ⟨i, hi, hu, hlow⟩ := hmin
        have ho : ops[i]? = some ops[i] := by simp [hi]
        have hmem : i ∈ Region.ready .any ops listed := by
          refine mem_ready.2 ⟨?_, ops[i], ho, fun e he hbd => ?_⟩
          · have hi' : i < listed.size := by rw [inv.size]; exact hi
            simp [hi'] at hu ⊢; exact hu
          · have hlt := edgesOk_get (i := 0) sta.edges (k := i) (o := ops[i]) (by simp [hi]) e.on (mem_directs.2 ⟨e, he, hbd, rfl⟩)
            exact hlow e.on (by omega)
        rw [hempty] at hmem
        cases hmem
      · intro i hi
        obtain ⟨hu, o, ho, hedge⟩ := mem_ready.1 hi
        have hun := getD_both' hu
        have hio : i < ops.size := (Array.getElem?_eq_some_iff.1 ho).1
        have hil : i < listed.size := by rw [inv.size]; exact hio
        obtain ⟨p, hps, hpi⟩ := sta.sur i hio
        have hpa : p < aos.length := by rw [hlen']; exact hps
        obtain ⟨x, hx⟩ : ∃ x, aos[p]? = some x := ⟨aos[p], by simp [hpa]⟩
        obtain ⟨o', ho', hcor⟩ := sta.corr p x hx
        rw [hpi, ho] at ho'
        cases ho'
        have hie : p < es.length := by rw [trace_length htr]; exact hpa
        obtain ⟨fk, hk, v, h1, he, hval, hpre_tr⟩ := trace_get htr hx
        obtain ⟨s, ι1, H, g, d⟩ := inv.st
        have hup : listed.getD (π p) false = false := by rw [hpi]; exact hun
        have hdir : ∀ j ∈ directs o, listed.getD j false = true := by
          intro j hj
          obtain ⟨e, he1, he2, rfl⟩ := mem_directs.1 hj
          exact hedge e he1 he2
        have hahead' : ∀ q ∈ b.getD p [], listed.getD (π q) false = true := by
          intro q hq
          have := sta.hB (fun j => j = i ∨ listed.getD j false = true) (fun k ok hok hD j hj => by
            rcases hD with rfl | hD
            · rw [ho] at hok; cases hok; exact .inr (hdir j hj)
            · exact .inr (inv.closed k ok hok hD j hj)) p hps (.inl hpi) q hq
          rcases this.2 with h2 | h2
          · have : q = p := sta.inj q p this.1 hps (by rw [h2, hpi])
            subst this
            exact absurd hq (sta.hB' q hps)
          · exact h2
        have hbehind : ∀ q, q < ops.size → listed.getD (π q) false = true → p ∉ b.getD q [] := by
          intro q hqs hl hmem
          have := (sta.hB (fun j => listed.getD j false = true) inv.closed q hqs hl p hmem).2
          rw [hup] at this; cases this
        -- the frames agree on what it looks at
        have hagree : ∀ t ∈ x.looks, g.get t = fk.get t := by
          intro t ht
          have htf := trace_frame hn hpre_tr (by
            unfold opersIn at hin ⊢
            rw [List.all_eq_true] at hin ⊢
            exact fun y hy => hin y (List.mem_of_mem_take hy)) (fun p1 q1 x1 y1 d1 hpq hx1 hy1 => by
            have hp1 : p1 < p := by have := (List.getElem?_eq_some_iff.1 hx1).1; simp at this; omega
            have hq1 : q1 < p := by have := (List.getElem?_eq_some_iff.1 hy1).1; simp at this; omega
            rw [List.getElem?_take_of_lt hp1] at hx1
            rw [List.getElem?_take_of_lt hq1] at hy1
            exact hdist p1 q1 x1 y1 d1 hpq hx1 hy1) t
          by_cases hex : ∃ (j : Nat) (y : AOper), j < p ∧ aos[j]? = some y ∧ y.dst = some t
          · obtain ⟨j, y, hji, hy, hyt⟩ := hex
            have hp := pair hji hy hx
            simp only [pairOk, hyt, Bool.and_eq_true, Bool.or_eq_true, Bool.not_eq_true'] at hp
            have hmem : j ∈ b.getD p [] := by
              rcases hp.1.2.1 with h2 | h2
              · have : hasN x.looks t = true := hasN_iff.2 ht
                rw [this] at h2; cases h2
              · exact hasN_iff.1 h2
            have hlj := hahead' j hmem
            have hje : j < es.length := by omega
            rw [d.g1 j y es[j] t hy (by simp [hje]) hyt hlj, htf.1 j y es[j] (by rw [List.getElem?_take_of_lt hji]; exact hy) (by rw [List.getElem?_take_of_lt hji]; simp [hje]) hyt]
          · have h2 : fk.get t = f.get t := htf.2 fun k y hy hyt => by
              have hk1 : k < p := by have := (List.getElem?_eq_some_iff.1 hy).1; simp at this; omega
              rw [List.getElem?_take_of_lt hk1] at hy
              exact hex ⟨k, y, hk1, hy, hyt⟩
            rw [h2]
            refine d.g2 t fun j y hy hlj hyt => ?_
            rcases Nat.lt_trichotomy j p with h3 | h3 | h3
            · exact hex ⟨j, y, h3, hy, hyt⟩
            · subst h3; rw [hup] at hlj; cases hlj
            · have hp := pair h3 hx hy
              simp only [pairOk, hyt, Bool.and_eq_true, Bool.or_eq_true, Bool.not_eq_true'] at hp
              rcases hp.2 with h4 | h4
              · have : hasN x.looks t = true := hasN_iff.2 ht
                rw [this] at h4; cases h4
              · exact hbehind j (pos_lt hy) hlj (hasN_iff.1 h4)
        have hat := trace_heap_at (b := b) (kp := kp) (hv := hv) hpre_tr
        have hsucc := trace_take_succ htr hx he
        have hat1 := trace_heap_at (b := b) (kp := kp) (hv := hv) hsucc
        rw [cntH_take_succ hx] at hat1
        have hx0 : cntH (aos.take p) ≤ hv.length := by
          rw [← sta.hvd, heavies_length]
          have := cntH_take_mono aos (p := p) (q := aos.length) (by omega)
          rwa [List.take_length] at this
        have hd : ∀ d, x.dst = some d → d < n := by
          intro d hd
          unfold opersIn at hin
          rw [List.all_eq_true] at hin
          have := hin x (List.mem_of_getElem? hx)
          rw [hd] at this
          exact Nat.le_of_ble_eq_true this
        have hlis : ∀ q, listed.getD q false = true → (listed.setIfInBounds i true).getD q false = true := fun q hq => by rw [getD_set hil]; split <;> first | rfl | exact hq
        have hlis' : ∀ q, q < ops.size → q ≠ p → (listed.setIfInBounds i true).getD (π q) false = listed.getD (π q) false := fun q hq hne => by
          rw [getD_set hil, if_neg]
          intro e
          exact hne (sta.inj q p hq hps (by rw [e, hpi]))
        have hlisp : (listed.setIfInBounds i true).getD (π p) false = true := by rw [getD_set hil, if_pos hpi]
        have hclosed : ∀ (j : Nat) (oj : Oper), ops[j]? = some oj → (listed.setIfInBounds i true).getD j false = true → ∀ k ∈ directs oj, (listed.setIfInBounds i true).getD k false = true := by
          intro j oj hoj hlj k hk'
          rw [getD_set hil] at hlj ⊢
          by_cases hji : j = i
          · subst hji
            rw [ho] at hoj; cases hoj
            have := hdir k hk'
            by_cases hki : k = j
            · rw [if_pos hki]
            · rw [if_neg hki]; exact this
          · rw [if_neg hji] at hlj
            have := inv.closed j oj hoj hlj k hk'
            by_cases hki : k = i
            · rw [if_pos hki]
            · rw [if_neg hki]; exact this
        have hfuel : (listed.setIfInBounds i true).toList.countP (fun b => !b) = fuel := by
          rw [Array.toList_setIfInBounds, List.countP_set (by simpa using hil)]
          have : listed.toList[i]'(by simpa using hil) = false := by
            simp [hil] at hun
            simpa using hun
          rw [this]
          simp only [Bool.not_false, if_true, Bool.not_true, Bool.false_eq_true, if_false]
          omega
        have hgetput : ∀ t, (putDst x g v).get t = (match x.dst with | some d => if t = d then v else g.get t | none => g.get t) := by
          intro t
          unfold putDst
          cases hxd : x.dst with
          | none => rfl
          | some d => exact Fr.get_put (by have := hd d hxd; show d + 1 < 16384; omega) t
        have hgs1 : ∀ (j : Nat) (y : AOper) (e : Fr × AVal × AHeap) (t : Nat), aos[j]? = some y → es[j]? = some e → y.dst = some t → (listed.setIfInBounds i true).getD (π j) false = true → (putDst x g v).get t = e.2.1 := by
          intro j y e t hy hej hyt hlj
          rw [hgetput]
          by_cases hji : j = p
          · subst hji
            rw [hx] at hy; cases hy
            rw [he] at hej; cases hej
            simp [hyt]
          · rw [hlis' j (pos_lt hy) hji] at hlj
            have hgt := d.g1 j y e t hy hej hyt hlj
            cases hxd : x.dst with
            | none => exact hgt
            | some d =>
              by_cases htd : t = d
              · subst htd
                exact absurd (hdist' j p y x t hy hx hyt hxd) hji
              · simp [htd]; exact hgt
        have hgs2 : ∀ t : Nat, (∀ (j : Nat) (y : AOper), aos[j]? = some y → (listed.setIfInBounds i true).getD (π j) false = true → y.dst ≠ some t) → (putDst x g v).get t = f.get t := by
          intro t hno
          rw [hgetput]
          have hgt : g.get t = f.get t := d.g2 t fun j y hy hlj => hno j y hy (hlis _ hlj)
          cases hxd : x.dst with
          | none => exact hgt
          | some d =>
            have : t ≠ d := by
              intro e
              exact hno p x hx hlisp (by rw [hxd, e])
            simp [this]; exact hgt
        have hs_le : x.op.calm = false → s ≤ cntH (aos.take p) := by
          intro hcalm
          have hvi : hv[cntH (aos.take p)]? = some p := by
            have := heavies_of 0 hx hcalm
            rw [sta.hvd] at this
            simpa using this
          rcases Nat.lt_or_ge (cntH (aos.take p)) s with h2 | h2
          · have := d.done _ _ hvi h2
            rw [hup] at this; cases this
          · exact h2
        rcases hcor with ⟨hcx, hkept⟩ | ⟨k, m, op, hxe, hgd, hop, htoM, hlo, hhi⟩
        · -- an operation as it stands in the text
          have hnow : ∃ s1 H1 H', DSt W n π aos hv (h :: heapsOf (infoFrom b kp hv 0 0 aos) es) es f ι hO w0 listed a.tmps w h.next s1 ι1 H1 g ∧ valOper P I call x g H1 = some (v, H') ∧
              ((x.op.calm = true ∧ H' = H1) ∨ (x.op.calm = false ∧ s1 = cntH (aos.take p) ∧ H' = h1)) := by
            cases hcalm : x.op.calm with
            | false =>
              have hge := hs_le hcalm
              obtain ⟨H1, d1⟩ := d.commits sta htr hbase (cntH (aos.take p) - s) s (by omega) fun r q hq hr1 hr2 => by
                obtain ⟨y, hy, hcy, hcq⟩ := hv_lt hq
                have hqp : q < p := by
                  rcases Nat.lt_or_ge q p with h3 | h3
                  · exact h3
                  · have := cntH_take_mono aos h3
                    omega
                have hp := pair hqp hy hx
                simp only [pairOk, hcy, hcalm, hkept, Bool.false_or, Bool.and_eq_true] at hp
                exact hahead' q (hasN_iff.1 hp.1.1)
              rw [show s + (cntH (aos.take p) - s) = cntH (aos.take p) by omega] at d1
              have hHk : H1 = hk := by
                have hH := d1.hH
                rw [hat] at hH
                exact (Option.some.inj hH).symm
              subst hHk
              exact ⟨_, H1, h1, d1, by rw [valOper_congr hagree]; exact hval, .inr ⟨rfl, rfl, rfl⟩⟩
            | true =>
              have hh1 := val_calm hcalm hval
              subst hh1
              refine ⟨s, H, H, d, ?_, .inl ⟨rfl, rfl⟩⟩
              rw [valOper_congr hagree]
              by_cases hsc : s = cntH (aos.take p)
              · have : H = h1 := by
                  have hH := d.hH
                  rw [hsc, hat] at hH; exact (Option.some.inj hH).symm
                rw [this]; exact hval
              · cases hdry : x.op.dry with
                | true => exact val_dry hdry hval
                | false =>
                  have hinf := info_get (b := b) (kp := kp) (hv := hv) (i := 0) (c := 0) hx
                  rw [if_pos ⟨hcalm, hdry⟩, Nat.zero_add, Nat.zero_add] at hinf
                  have hmem : s ∈ (List.range (hv.length + 1)).filter fun s => !Nat.beq s (cntH (aos.take p)) && okAt b kp hv p s := by
                    rw [List.mem_filter]
                    refine ⟨List.mem_range.2 (by have := d.le; omega), ?_⟩
                    rw [Bool.and_eq_true]
                    refine ⟨?_, ?_⟩
                    · cases hbq : Nat.beq s (cntH (aos.take p)) with
                      | false => rfl
                      | true => exact absurd (by simpa using hbq) hsc
                    · unfold okAt
                      rw [Bool.and_eq_true, List.all_eq_true, List.all_eq_true]
                      constructor
                      · intro q hq
                        obtain ⟨r, hrq⟩ := List.mem_iff_getElem?.1 hq
                        have hr := (List.getElem?_eq_some_iff.1 hrq).1
                        have hrs : r < s := by simp at hr; omega
                        rw [List.getElem?_take_of_lt hrs] at hrq
                        have hlq := d.done r q hrq hrs
                        obtain ⟨y, hy, _⟩ := hv_lt hrq
                        cases hh : hasN (b.getD q []) p with
                        | false => rfl
                        | true => exact absurd (hasN_iff.1 hh) (hbehind q (pos_lt hy) hlq)
                      · intro q hq
                        obtain ⟨r, hrq⟩ := List.mem_iff_getElem?.1 hq
                        rw [List.getElem?_drop] at hrq
                        cases hh : hasN (b.getD p []) q with
                        | false => rfl
                        | true =>
                          have := d.early (s + r) q hrq (by omega) (hahead' q (hasN_iff.1 hh))
                          rw [sta.hkp q this]; rfl
                  have hc1 := chkAll_get aos _ es hchk p x _ _ _ hx hinf he s hmem
                  unfold chkOne at hc1
                  rw [d.hH] at hc1
                  simp only [] at hc1
                  split at hc1
                  · rename_i v' H' hv'
                    have e1 := val_calm hcalm hv'
                    have e2 := AVal.eqb_eq hc1
                    rw [hv', e1, e2]
                  · cases hc1
          obtain ⟨s1, H1, H', d1, hval', hkind⟩ := hnow
          have hrun : runOper P I call x g H1 = some (putDst x g v, H') := by simp [runOper, hval']
          have := oper_sound hI hcall hn hcx hd hrun d1.step.rep d1.fr (Q := fun e a' w' => e = exOf .normal ∧ Post W ι n hO a0 w0 f' h' a' w')
            (next := wpAny P .any ops (fun e a' w' => e = exOf .normal ∧ Post W ι n hO a0 w0 f' h' a' w') fuel (listed.setIfInBounds i true)) ?_
          · unfold wpOp
            rw [ho]
            exact this
          · intro a' w' hp
            obtain ⟨⟨ι2, hfr2, hst2⟩, hdef2⟩ := hp
            -- what is kept for
            have hkeep : ∀ (s2 : Nat), s1 ≤ s2 → ∀ (r q : Nat) (y : AOper) (k : Nat) (m : MOp), hv[r]? = some q → s2 ≤ r → aos[q]? = some y → y.op = .resv k m → H'.get k = none ∧ ((listed.setIfInBounds i true).getD (π q) false = false → ι2 k = none) ∧
                ((listed.setIfInBounds i true).getD (π q) false = true → ∀ e, es[q]? = some e → ∃ cs pl, m.made e.1 k = some (e.2.1, cs) ∧ Pend ι2 w0 H' w' k cs pl) := by
              intro s2 hs2 r q y k m hq hr hy hop
              have hqp : q ≠ p := by
                intro e
                subst e
                rw [hx] at hy; cases hy
                rw [hop] at hkept; cases hkept
              obtain ⟨q1, q2, q3⟩ := d1.keep r q y k m hq (by omega) hy hop
              obtain ⟨oq, _, hcq⟩ := sta.corr q y hy
              have hkn : k < H1.next := by
                rcases hcq with ⟨_, hk⟩ | ⟨k', m', op', rfl, _, _, _, _, h2⟩
                · rw [hop] at hk; cases hk
                · cases hop; have := d1.nx; omega
              rw [hlis' q (pos_lt hy) hqp]
              refine ⟨hst2.dead k hkn q1, fun hl => by rw [hst2.old k hkn]; exact q2 hl, fun hl e he => ?_⟩
              obtain ⟨cs, pl, g1, g2⟩ := q3 hl e he
              exact ⟨cs, pl, g1, g2.step hst2⟩
            have hap : ∀ (s2 : Nat), s1 ≤ s2 → ∀ (r q r' q' : Nat) (y y' : AOper) (k k' : Nat) (m m' : MOp) (pl pl' : Pl), hv[r]? = some q → s2 ≤ r → hv[r']? = some q' → s2 ≤ r' → aos[q]? = some y → aos[q']? = some y' → y.op = .resv k m → y'.op = .resv k' m' → q ≠ q' →
                (listed.setIfInBounds i true).getD (π q) false = true → (listed.setIfInBounds i true).getD (π q') false = true → ι2 k = some pl → ι2 k' = some pl' → pl.blk ≠ pl'.blk := by
              intro s2 hs2 r q r' q' y y' k k' m m' pl pl' a1 a2 a3 a4 a5 a6 a7 a8 a9 a10 a11 a12 a13
              have hne : ∀ (q : Nat) (y : AOper) (k : Nat) (m : MOp), aos[q]? = some y → y.op = .resv k m → q ≠ p ∧ k < H1.next := by
                intro q y k m hy hop
                refine ⟨?_, ?_⟩
                · intro e
                  subst e
                  rw [hx] at hy; cases hy
                  rw [hop] at hkept; cases hkept
                · obtain ⟨oq, _, hcq⟩ := sta.corr q y hy
                  rcases hcq with ⟨_, hk⟩ | ⟨k', m', op', rfl, _, _, _, _, h2⟩
                  · rw [hop] at hk; cases hk
                  · cases hop; have := d1.nx; omega
              obtain ⟨b1, b2⟩ := hne q y k m a5 a7
              obtain ⟨c1, c2⟩ := hne q' y' k' m' a6 a8
              rw [hlis' q (pos_lt a5) b1] at a10
              rw [hlis' q' (pos_lt a6) c1] at a11
              rw [hst2.old k b2] at a12
              rw [hst2.old k' c2] at a13
              exact d1.apart r q r' q' y y' k k' m m' pl pl' a1 (by omega) a3 (by omega) a5 a6 a7 a8 a9 a10 a11 a12 a13
            have hearly : ∀ (s2 : Nat), s1 ≤ s2 → (x.op.calm = false → cntH (aos.take p) < s2) → ∀ (r q : Nat), hv[r]? = some q → s2 ≤ r → (listed.setIfInBounds i true).getD (π q) false = true → keptAt aos q = true := by
              intro s2 hs2 hc r q hq hr hl
              obtain ⟨y, hy, hcy, hcq⟩ := hv_lt hq
              have hqp : q ≠ p := by
                intro e
                subst e
                rw [hx] at hy; cases hy
                have := hc hcy
                omega
              rw [hlis' q (pos_lt hy) hqp] at hl
              exact d1.early r q hq (by omega) hl
            refine ih _ _ _ hfuel ⟨by simp [inv.size], hclosed, hdef2.trans inv.defers, ?_⟩
            rcases hkind with ⟨hcalm, rfl⟩ | ⟨hcalm, hseq, rfl⟩
            · refine ⟨s1, ι2, H', putDst x g v, ⟨d1.hH, d1.le, fun r q hq hr => hlis _ (d1.done r q hq hr), hearly s1 (Nat.le_refl _) (fun hc => by rw [hcalm] at hc; cases hc), hfr2, d1.step.trans hst2, d1.nx, hgs1, hgs2, hkeep s1 (Nat.le_refl _), hap s1 (Nat.le_refl _)⟩⟩
            · have hvi : hv[cntH (aos.take p)]? = some p := by
                have := heavies_of 0 hx hcalm
                rw [sta.hvd] at this
                simpa using this
              have hslt : s1 < hv.length := by rw [hseq]; exact (List.getElem?_eq_some_iff.1 hvi).1
              refine ⟨s1 + 1, ι2, H', putDst x g v, ⟨?_, hslt, ?_, hearly (s1 + 1) (by omega) (fun _ => by omega), hfr2, d1.step.trans hst2, Nat.le_trans d1.nx hst2.next, hgs1, hgs2, hkeep (s1 + 1) (by omega), hap (s1 + 1) (by omega)⟩⟩
              · rw [hcalm] at hat1
                rw [hseq]
                simpa using hat1
              · intro r q hq hr
                by_cases e : r = s1
                · have : q = p := by
                    rw [e, hseq, hvi] at hq
                    exact (Option.some.inj hq).symm
                  rw [this]; exact hlisp
                · exact hlis _ (d1.done r q hq (by omega))
        · -- memory that is made at its kept number
          have hxop : x.op = .resv k m := by rw [hxe]
          have hxg : x.guard = none := by rw [hxe]
          have hxd : x.dst = o.dst := by rw [hxe]
          have hcalm : x.op.calm = false := by rw [hxop]; rfl
          have hge := hs_le hcalm
          have hvi : hv[cntH (aos.take p)]? = some p := by
            have := heavies_of 0 hx hcalm
            rw [sta.hvd] at this
            simpa using this
          obtain ⟨cs, hmade, _⟩ := val_resv hxop hxg hval
          have hmade' : m.made g k = some (v, cs) := by
            rw [made_congr (f := g) (g := fk)]
            · exact hmade
            · intro t ht
              refine hagree t ?_
              unfold AOper.looks
              rw [hxg, hxop]
              exact ht
          obtain ⟨q1, q2, _⟩ := d.keep _ p x k m hvi hge hx hxop
          have hιk := q2 hup
          obtain ⟨u, us, e, hex, hus, hvr⟩ := made_sound d.fr hop htoM hmade' w
          have hkn : k < H.next := by have := d.nx; omega
          obtain ⟨st2, hle2, pend⟩ := d.step.pend (e := e) hlo hkn q1 hιk hus
          have hwant : Region.wanted o (yielded ops a.tmps) = true := by simp [Region.wanted, hgd]
          unfold wpOp
          rw [ho]
          show if Region.wanted o (yielded ops a.tmps) then o.wp P a w _ _ ∨ _ else _
          rw [if_pos hwant]
          left
          unfold Oper.wp
          rw [hex]
          refine ih _ _ _ hfuel ⟨by simp [inv.size], hclosed, ?_, ?_⟩
          · have : (a.put o.dst u).defers = a.defers := by cases o.dst <;> rfl
            rw [this]; exact inv.defers
          · have hadd : ∀ k2, k2 ≠ k → (ι1.add k ⟨w.heap.size, 0, cs.length, us.size⟩) k2 = ι1 k2 := fun k2 h2 => by unfold Map.add; rw [if_neg h2]
            have hkk : ∀ (q : Nat) (y : AOper) (k2 : Nat) (m2 : MOp), aos[q]? = some y → y.op = .resv k2 m2 → q ≠ p → k2 ≠ k := by
              intro q y k2 m2 hy hop2 hne e2
              subst e2
              exact hne (sta.distinct q p y x k2 m2 m hy hx hop2 hxop)
            have hblk : ∀ (q : Nat) (pl : Pl) (k2 : Nat) (cs2 : List AVal), Pend ι1 w0 H w k2 cs2 pl → pl.blk ≠ w.heap.size := fun q pl k2 cs2 p2 => by have := p2.lt; omega
            have hfr2 : FrRel (ι1.add k ⟨w.heap.size, 0, cs.length, us.size⟩) n (putDst x g v) (a.put o.dst u).tmps := by
              unfold putDst
              rw [hxd]
              cases hod : o.dst with
              | none => exact d.fr.mono hle2
              | some d2 => exact (d.fr.mono hle2).put hn (hd d2 (by rw [hxd, hod])) (hvr _ (Map.add_self _ _ _))
            have hstepOld : ∀ {k2 : Nat} {cs2 : List AVal} {pl : Pl}, Pend ι1 w0 H w k2 cs2 pl → Pend (ι1.add k ⟨w.heap.size, 0, cs.length, us.size⟩) w0 H (w.alloc (.cells us e)) k2 cs2 pl := fun {k2 cs2 pl} p2 =>
              ⟨hle2 _ _ p2.map, p2.base, by have := p2.lt; simp; omega, p2.blk.keep hle2 (Below.heap_alloc _ _ _ p2.lt), fun k' b' pl' hk' hp' => by
                rw [hadd k' (fun e2 => by subst e2; rw [q1] at hk'; cases hk')] at hp'
                exact p2.free k' b' pl' hk' hp'⟩
            refine ⟨s, _, H, putDst x g v, ⟨d.hH, d.le, fun r q hq hr => hlis _ (d.done r q hq hr), ?_, hfr2, st2, d.nx, hgs1, hgs2, ?_, ?_⟩⟩
            · intro r q hq hr hl
              by_cases e2 : q = p
              · subst e2
                unfold keptAt
                rw [hx]
                show x.op.kept = true
                rw [hxop]; rfl
              · obtain ⟨y, hy, _⟩ := hv_lt hq
                rw [hlis' q (pos_lt hy) e2] at hl
                exact d.early r q hq hr hl
            · intro r q y k2 m2 hq hr hy hop2
              by_cases e2 : q = p
              · subst e2
                rw [hx] at hy; cases hy
                rw [hxop] at hop2; cases hop2
                refine ⟨q1, fun hl => ?_, fun _ e3 he3 => ?_⟩
                · rw [hlisp] at hl; cases hl
                · rw [he] at he3; cases he3
                  exact ⟨cs, _, hmade, pend⟩
              · obtain ⟨t1, t2, t3⟩ := d.keep r q y k2 m2 hq hr hy hop2
                rw [hlis' q (pos_lt hy) e2]
                refine ⟨t1, fun hl => by rw [hadd _ (hkk q y k2 m2 hy hop2 e2)]; exact t2 hl, fun hl e3 he3 => ?_⟩
                obtain ⟨cs2, pl2, g1, g2⟩ := t3 hl e3 he3
                exact ⟨cs2, pl2, g1, hstepOld g2⟩
            · intro r q r' q' y y' k2 k2' m2 m2' pl pl' a1 a2 a3 a4 a5 a6 a7 a8 a9 a10 a11 a12 a13
              have old : ∀ (r q : Nat) (y : AOper) (k2 : Nat) (m2 : MOp) (pl : Pl), hv[r]? = some q → s ≤ r → aos[q]? = some y → y.op = .resv k2 m2 → q ≠ p → (listed.setIfInBounds i true).getD (π q) false = true →
                  (ι1.add k ⟨w.heap.size, 0, cs.length, us.size⟩) k2 = some pl → pl.blk ≠ w.heap.size ∧ ι1 k2 = some pl ∧ listed.getD (π q) false = true := by
                intro r q y k2 m2 pl hq hr hy hop2 hne hl hpl
                rw [hlis' q (pos_lt hy) hne] at hl
                rw [hadd _ (hkk q y k2 m2 hy hop2 hne)] at hpl
                obtain ⟨_, _, t3⟩ := d.keep r q y k2 m2 hq hr hy hop2
                have hqe : q < es.length := by rw [trace_length htr, hlen']; exact pos_lt hy
                obtain ⟨cs2, pl2, _, g2⟩ := t3 hl es[q] (by simp [hqe])
                have e3 := g2.map
                rw [hpl] at e3; cases e3
                exact ⟨hblk q pl k2 cs2 g2, hpl, hl⟩
              have new : ∀ (y : AOper) (k2 : Nat) (m2 : MOp) (pl : Pl), aos[p]? = some y → y.op = .resv k2 m2 → (ι1.add k ⟨w.heap.size, 0, cs.length, us.size⟩) k2 = some pl → pl.blk = w.heap.size := by
                intro y k2 m2 pl hy hop2 hpl
                rw [hx] at hy; cases hy
                rw [hxop] at hop2; cases hop2
                rw [Map.add_self] at hpl; cases hpl
                rfl
              by_cases e2 : q = p
              · subst e2
                have n1 := new y k2 m2 pl a5 a7 a12
                obtain ⟨n2, _, _⟩ := old r' q' y' k2' m2' pl' a3 a4 a6 a8 (fun e => a9 e.symm) a11 a13
                omega
              · obtain ⟨n2, n3, n4⟩ := old r q y k2 m2 pl a1 a2 a5 a7 e2 a10 a12
                by_cases e3 : q' = p
                · subst e3
                  have n1 := new y' k2' m2' pl' a6 a8 a13
                  omega
                · obtain ⟨l2, l3, l4⟩ := old r' q' y' k2' m2' pl' a3 a4 a6 a8 e3 a11 a13
                  exact d.apart r q r' q' y y' k2 k2' m2 m2' pl pl' a1 a2 a3 a4 a5 a6 a7 a8 a9 n4 l4 n3 l3
  refine wp_region_any hm (main _ _ _ _ ?_ ?_)
  · rw [Array.toList_replicate, List.countP_replicate]
    simp
  · refine ⟨by simp, ?_, rfl, 0, ι, h, f, ⟨rfl, Nat.zero_le _, fun r p _ hr => by omega, ?_, fr0, s0.trans (Step.drew s0.rep), Nat.le_refl _, ?_, fun _ _ => rfl, ?_, ?_⟩⟩
    · intro i o _ hi
      rw [getD_rep] at hi
      cases hi
    · intro r p _ _ hi
      rw [getD_rep] at hi
      cases hi
    · intro i x e t _ _ _ hi
      rw [getD_rep] at hi
      cases hi
    · intro r p x k m _ _ hx hop
      obtain ⟨o, _, hc⟩ := sta.corr p x hx
      have : hO.next ≤ k ∧ k < h.next := by
        rcases hc with ⟨_, hk⟩ | ⟨k', m', op', rfl, _, _, _, h1, h2⟩
        · rw [hop] at hk; cases hk
        · cases hop; exact ⟨h1, h2⟩
      obtain ⟨f1, f2⟩ := hfree k this.1 this.2
      refine ⟨f1, fun _ => f2, fun hi => ?_⟩
      rw [getD_rep] at hi
      cases hi
    · intro r q r' q' y y' k k' m m' pl pl' _ _ _ _ _ _ _ _ _ hi
      rw [getD_rep] at hi
      cases hi

/-! ### the two lists -/
theorem never_resv {op : Op} {k : Nat} {m : MOp} (hc : cOp P op = some (.resv k m)) : False := by
  cases op <;> simp only [cOp, reduceCtorEq] at hc
  case call c =>
    repeat' (split at hc)
    all_goals first
      | (cases hc; done)
      | (unfold cBuiltin at hc
         repeat' (split at hc)
         all_goals (cases hc; done))
  all_goals first
    | (obtain ⟨y, _, e⟩ := map_some hc; cases e; done)
    | (repeat' (split at hc)
       all_goals first | (cases hc; done) | (obtain ⟨y, _, e⟩ := map_some hc; cases e; done))

theorem cOper_not_kept {ops : Array Oper} {o : Oper} {x : AOper} (hc : cOper P ops o = some x) : x.op.kept = false := by
  unfold cOper at hc
  split at hc
  · cases hc
  · rename_i ao hao
    have : ao.kept = false := by
      cases hk : ao.kept with
      | false => rfl
      | true => obtain ⟨k, m, rfl⟩ := kept_resv hk; exact (never_resv hao).elim
    split at hc
    · cases hc; exact this
    · split at hc
      · cases hc; exact this
      · cases hc

theorem cOper_parts {ops : Array Oper} {o : Oper} {x : AOper} (hc : cOper P ops o = some x) (hg : x.guard = none) : o.guard = none ∧ cOp P o.op = some x.op ∧ x.dst = o.dst := by
  unfold cOper at hc
  split at hc
  · cases hc
  · rename_i ao hao
    split at hc
    · rename_i h; cases hc; exact ⟨h, hao, rfl⟩
    · split at hc
      · cases hc; cases hg
      · cases hc

theorem befs_length : ∀ (l : List Oper) (acc : List (List Nat)), (befs l acc).length = acc.length + l.length
  | [], acc => by simp [befs]
  | o :: l, acc => by simp only [befs]; rw [befs_length l]; simp; omega

theorem getD_lt {b : List (List Nat)} {i j : Nat} (h : j ∈ b.getD i []) : i < b.length := by
  rcases Nat.lt_or_ge i b.length with h1 | h1
  · exact h1
  · rw [List.getD_eq_getElem?_getD, List.getElem?_eq_none h1] at h
    simp at h

/-- The list as the text has it. -/
theorem stat_plain {ops : Array Oper} {aos : List AOper} {kp : Nat → Bool} {lo hi : Nat} (haos : cOpers P ops ops.toList = some aos) (hedges : edgesOk 0 ops.toList = true) (hrows : rowsOk (befs ops.toList []) 0 aos = true) :
    DStat P ops (fun p => p) aos (befs ops.toList []) kp (heavies 0 aos) lo hi := by
  obtain ⟨hlen, hget⟩ := cOpers_get haos
  have hlen' : aos.length = ops.size := by simpa using hlen
  have hc : ∀ (p : Nat) (x : AOper), aos[p]? = some x → ∃ o, ops[p]? = some o ∧ cOper P ops o = some x := by
    intro p x hx
    have hp : p < ops.size := by rw [← hlen']; exact (List.getElem?_eq_some_iff.1 hx).1
    obtain ⟨y, hy, hcy⟩ := hget p ops[p] (by simp [hp])
    rw [hx] at hy; cases hy
    exact ⟨ops[p], by simp [hp], hcy⟩
  have nok : ∀ (p : Nat) (x : AOper), aos[p]? = some x → x.op.kept = false := fun p x hx => by
    obtain ⟨o, _, hco⟩ := hc p x hx
    exact cOper_not_kept hco
  refine ⟨hlen', hedges, fun p hp => hp, fun p q _ _ e => e, fun i hi => ⟨i, hi, rfl⟩, fun p x hx => ?_, fun p q x y k m m' hx _ hop _ => ?_, hrows, fun D hD p hp hDp q hq => ?_, fun p _ hp => ?_, fun p hp => ?_, rfl⟩
  · obtain ⟨o, ho, hco⟩ := hc p x hx
    exact ⟨o, ho, .inl ⟨hco, nok p x hx⟩⟩
  · have := nok p x hx
    rw [hop] at this; cases this
  · have hlt := befs_lt hedges rfl p q hq
    exact ⟨by omega, befs_spec (D := D) ops.toList [] (fun i _ j hj => by simp at hj) (fun i o ho hi => hD i o (by simpa using ho) (by simpa using hi)) p hDp q hq⟩
  · exact absurd (befs_lt hedges rfl p p hp) (by omega)
  · obtain ⟨x, k, m, hx, hop⟩ := keptAt_spec hp
    have := nok p x hx
    rw [hop] at this; cases this

theorem picks_get {aos : List AOper} : ∀ {perm : List Nat} {l : List AOper}, picks aos perm = some l → l.length = perm.length ∧ ∀ (p : Nat) (x : AOper), l[p]? = some x → aos[perm.getD p 0]? = some x
  | [], l, h => by simp only [picks, Option.some.injEq] at h; subst h; exact ⟨rfl, fun p x h => by simp at h⟩
  | i :: r, l, h => by
    simp only [picks] at h
    split at h
    · rename_i x xs h1 h2
      cases h
      obtain ⟨e1, e2⟩ := picks_get h2
      refine ⟨by simp [e1], fun p y hy => ?_⟩
      cases p with
      | zero => simp at hy; subst hy; simpa using h1
      | succ p => simpa using e2 p y (by simpa using hy)
    · cases h

theorem keepOne_spec {q : Nat} {x y : AOper} (h : keepOne q x = some y) : x.guard = none ∧ ∃ m, x.op.toM = some m ∧ y = ⟨x.dst, .resv q m, none⟩ := by
  unfold keepOne at h
  split at h
  · rename_i m hg hm
    cases h
    exact ⟨hg, m, hm, rfl⟩
  · cases h

theorem keepAll_get : ∀ (l : List AOper) (q : Nat), (keepAll q l).1.length = l.length ∧ q ≤ (keepAll q l).2 ∧ ∀ (p : Nat) (y : AOper), (keepAll q l).1[p]? = some y → ∃ x, l[p]? = some x ∧
    (y = x ∨ ∃ k m, x.guard = none ∧ x.op.toM = some m ∧ y = ⟨x.dst, .resv k m, none⟩ ∧ q ≤ k ∧ k < (keepAll q l).2)
  | [], q => ⟨rfl, Nat.le_refl _, fun p y h => by simp [keepAll] at h⟩
  | x :: r, q => by
    simp only [keepAll]
    split
    · rename_i y hy
      obtain ⟨e1, e2, e3⟩ := keepAll_get r (q + 1)
      refine ⟨by simp [e1], by show q ≤ (keepAll (q + 1) r).2; omega, fun p z hz => ?_⟩
      cases p with
      | zero =>
        simp at hz; subst hz
        obtain ⟨hg, m, hm, rfl⟩ := keepOne_spec hy
        exact ⟨x, rfl, .inr ⟨q, m, hg, hm, rfl, Nat.le_refl _, by show q < (keepAll (q + 1) r).2; omega⟩⟩
      | succ p =>
        obtain ⟨x', hx', h4⟩ := e3 p z (by simpa using hz)
        refine ⟨x', by simpa using hx', ?_⟩
        rcases h4 with h4 | ⟨k, m, a1, a2, a3, a4, a5⟩
        · exact .inl h4
        · exact .inr ⟨k, m, a1, a2, a3, by omega, a5⟩
    · obtain ⟨e1, e2, e3⟩ := keepAll_get r q
      refine ⟨by simp [e1], e2, fun p z hz => ?_⟩
      cases p with
      | zero => simp at hz; subst hz; exact ⟨x, rfl, .inl rfl⟩
      | succ p =>
        obtain ⟨x', hx', h4⟩ := e3 p z (by simpa using hz)
        exact ⟨x', by simpa using hx', h4⟩

/-- No number is kept twice. -/
theorem keepAll_distinct : ∀ (l : List AOper) (q : Nat), (∀ x ∈ l, x.op.kept = false) → ∀ (p p' : Nat) (y y' : AOper) (k : Nat) (m m' : MOp), (keepAll q l).1[p]? = some y → (keepAll q l).1[p']? = some y' → y.op = .resv k m → y'.op = .resv k m' → p = p'
  | [], q, _, p, p', y, y', k, m, m', h, _, _, _ => by simp [keepAll] at h
  | x :: r, q, hno, p, p', y, y', k, m, m', h, h', hop, hop' => by
    have hnr : ∀ x ∈ r, x.op.kept = false := fun x hx => hno x (by simp [hx])
    have notx : ∀ {z : AOper} {k : Nat} {m : MOp}, z ∈ x :: r → z.op ≠ .resv k m := fun hz e => by have := hno _ hz; rw [e] at this; cases this
    have low : ∀ (q' : Nat) (p : Nat) (z : AOper) (k : Nat) (m : MOp), (keepAll q' r).1[p]? = some z → z.op = .resv k m → q' ≤ k := by
      intro q' p z k m hz hop
      obtain ⟨_, _, e3⟩ := keepAll_get r q'
      obtain ⟨x', hx', h4⟩ := e3 p z hz
      rcases h4 with rfl | ⟨k', m', _, _, rfl, h5, _⟩
      · exact absurd hop (notx (by have := List.mem_of_getElem? hx'; simp [this]))
      · cases hop; exact h5
    cases hk : keepOne q x with
    | some z =>
      have e : (keepAll q (x :: r)).1 = z :: (keepAll (q + 1) r).1 := by simp only [keepAll, hk]
      rw [e] at h h'
      obtain ⟨_, mm, _, rfl⟩ := keepOne_spec hk
      cases p with
      | zero =>
        simp at h; subst h
        cases hop
        cases p' with
        | zero => rfl
        | succ p' => exact absurd (low (q + 1) p' y' _ m' (by simpa using h') hop') (by omega)
      | succ p =>
        cases p' with
        | zero =>
          simp at h'; subst h'
          cases hop'
          exact absurd (low (q + 1) p y _ m (by simpa using h) hop) (by omega)
        | succ p' => exact congrArg (· + 1) (keepAll_distinct r (q + 1) hnr p p' y y' k m m' (by simpa using h) (by simpa using h') hop hop')
    | none =>
      have e : (keepAll q (x :: r)).1 = x :: (keepAll q r).1 := by simp only [keepAll, hk]
      rw [e] at h h'
      cases p with
      | zero => simp at h; subst h; exact absurd hop (notx (by simp))
      | succ p =>
        cases p' with
        | zero => simp at h'; subst h'; exact absurd hop' (notx (by simp))
        | succ p' => exact congrArg (· + 1) (keepAll_distinct r q hnr p p' y y' k m m' (by simpa using h) (by simpa using h') hop hop')

theorem nodupN_get : ∀ {l : List Nat}, nodupN l = true → ∀ (p q : Nat), p < l.length → q < l.length → l.getD p 0 = l.getD q 0 → p = q
  | [], _, p, q, hp, _, _ => by simp at hp
  | i :: r, h, p, q, hp, hq, e => by
    simp only [nodupN, Bool.and_eq_true, Bool.not_eq_true'] at h
    have hmem : ∀ p, p < r.length → i ≠ r.getD p 0 := by
      intro p hp e
      have : i ∈ r := by
        rw [e, List.getD_eq_getElem?_getD, List.getElem?_eq_getElem hp]
        exact List.getElem_mem hp
      rw [hasN_iff.2 this] at h
      cases h.1
    cases p with
    | zero =>
      cases q with
      | zero => rfl
      | succ q => simp only [List.getD_cons_zero, List.getD_cons_succ] at e; exact absurd e (hmem q (by simpa using hq))
    | succ p =>
      cases q with
      | zero => simp only [List.getD_cons_zero, List.getD_cons_succ] at e; exact absurd e.symm (hmem p (by simpa using hp))
      | succ q =>
        simp only [List.getD_cons_succ] at e
        exact congrArg (· + 1) (nodupN_get h.2 p q (by simpa using hp) (by simpa using hq) e)

/-! a number counted from a base -/
theorem shift_op (base : Nat) (x : AOper) : (x.shift base).dst = x.dst ∧ (x.shift base).guard = x.guard ∧ (x.shift base).op.calm = x.op.calm ∧ (x.shift base).op.dry = x.op.dry ∧ (x.shift base).op.kept = x.op.kept ∧ (x.shift base).looks = x.looks := by
  obtain ⟨dst, op, g⟩ := x
  unfold AOper.shift
  split
  · rename_i k m h
    simp only at h
    subst h
    exact ⟨rfl, rfl, rfl, rfl, rfl, by cases g <;> rfl⟩
  · exact ⟨rfl, rfl, rfl, rfl, rfl, rfl⟩

theorem shift_pair (base : Nat) (b : List (List Nat)) (i j : Nat) (x y : AOper) : pairOk b i j (x.shift base) (y.shift base) = pairOk b i j x y := by
  obtain ⟨x1, _, x3, _, x5, x6⟩ := shift_op base x
  obtain ⟨y1, _, y3, _, y5, y6⟩ := shift_op base y
  unfold pairOk
  rw [x1, x3, x6, y1, y3, y5, y6]

theorem shift_row (base : Nat) (b : List (List Nat)) (i : Nat) (x : AOper) : ∀ (l : List AOper) (j : Nat), rowOk b i (x.shift base) j (l.map (AOper.shift base)) = rowOk b i x j l
  | [], _ => rfl
  | y :: l, j => by simp only [List.map_cons, rowOk]; rw [shift_pair, shift_row base b i x l]

theorem shift_rows (base : Nat) (b : List (List Nat)) : ∀ (l : List AOper) (j : Nat), rowsOk b j (l.map (AOper.shift base)) = rowsOk b j l
  | [], _ => rfl
  | y :: l, j => by simp only [List.map_cons, rowsOk]; rw [shift_row, shift_rows base b l]

theorem shift_heavies (base : Nat) : ∀ (l : List AOper) (j : Nat), heavies j (l.map (AOper.shift base)) = heavies j l
  | [], _ => rfl
  | y :: l, j => by
    simp only [List.map_cons, heavies]
    rw [(shift_op base y).2.2.1, shift_heavies base l]

theorem shift_info (base : Nat) (b : List (List Nat)) (kp : Nat → Bool) (hv : List Nat) : ∀ (l : List AOper) (i c : Nat), infoFrom b kp hv i c (l.map (AOper.shift base)) = infoFrom b kp hv i c l
  | [], _, _ => rfl
  | y :: l, i, c => by
    simp only [List.map_cons, infoFrom]
    rw [(shift_op base y).2.2.1, (shift_op base y).2.2.2.1, shift_info base b kp hv l, shift_info base b kp hv l]

theorem shift_in (base n : Nat) (l : List AOper) : opersIn n (l.map (AOper.shift base)) = opersIn n l := by
  unfold opersIn
  rw [List.all_map]
  congr 1
  funext x
  simp only [Function.comp, (shift_op base x).1]

/-- The list in another order, memory made at kept numbers. -/
theorem stat_kept {ops : Array Oper} {aos l0 : List AOper} {perm : List Nat} {base : Nat} (haos : cOpers P ops ops.toList = some aos) (hedges : edgesOk 0 ops.toList = true) (hl0 : picks aos perm = some l0)
    (hperm : permOk ops.toList.length perm = true) (hrows : rowsOk (posB (befs ops.toList []) perm) 0 (keepAll 0 l0).1 = true) :
    DStat P ops (fun p => perm.getD p 0) ((keepAll 0 l0).1.map (AOper.shift base)) (posB (befs ops.toList []) perm) (keptAt (keepAll 0 l0).1) (heavies 0 (keepAll 0 l0).1) base (base + (keepAll 0 l0).2) := by
  obtain ⟨hlen, hget⟩ := cOpers_get haos
  have hlen' : aos.length = ops.size := by simpa using hlen
  simp only [permOk, Bool.and_eq_true, List.all_eq_true, Array.length_toList] at hperm
  obtain ⟨⟨hnd, hsur⟩, hpl⟩ := hperm
  have hpl' : perm.length = ops.size := Nat.eq_of_beq_eq_true hpl
  obtain ⟨pl, pg⟩ := picks_get hl0
  obtain ⟨kl, _, kg⟩ := keepAll_get l0 0
  have hc : ∀ (p : Nat) (x : AOper), aos[p]? = some x → ∃ o, ops[p]? = some o ∧ cOper P ops o = some x := by
    intro p x hx
    have hp : p < ops.size := by rw [← hlen']; exact (List.getElem?_eq_some_iff.1 hx).1
    obtain ⟨y, hy, hcy⟩ := hget p ops[p] (by simp [hp])
    rw [hx] at hy; cases hy
    exact ⟨ops[p], by simp [hp], hcy⟩
  have nok : ∀ x ∈ l0, x.op.kept = false := by
    intro x hx
    obtain ⟨p, hp⟩ := List.mem_iff_getElem?.1 hx
    obtain ⟨o, _, hco⟩ := hc _ x (pg p x hp)
    exact cOper_not_kept hco
  have shifted : ∀ {p : Nat} {z : AOper}, ((keepAll 0 l0).1.map (AOper.shift base))[p]? = some z → ∃ y, (keepAll 0 l0).1[p]? = some y ∧ z = y.shift base := by
    intro p z hz
    rw [List.getElem?_map] at hz
    cases hy : (keepAll 0 l0).1[p]? with
    | none => rw [hy] at hz; cases hz
    | some y => rw [hy] at hz; cases hz; exact ⟨y, rfl, rfl⟩
  have unshift : ∀ {y : AOper} {k : Nat} {m : MOp}, (y.shift base).op = .resv k m → ∃ k', y.op = .resv k' m ∧ k = base + k' := by
    intro y k m h
    obtain ⟨dst, op, g⟩ := y
    unfold AOper.shift at h
    split at h
    · rename_i k' m' hop
      cases h
      exact ⟨k', hop, rfl⟩
    · rename_i hno
      exact absurd h (hno k m)
  refine ⟨by rw [List.length_map, kl, pl, hpl'], hedges, fun p hp => ?_, fun p q hp hq e => nodupN_get hnd p q (by omega) (by omega) e, fun i hi => ?_, fun p z hz => ?_, fun p q z z' k m m' hz hz' hop hop' => ?_, by rw [shift_rows]; exact hrows,
    fun D hD p hp hDp q hq => ?_, fun p _ hp => ?_, fun p hp => ?_, shift_heavies _ _ _⟩
  · have hp0 : p < l0.length := by omega
    have := pg p l0[p] (by simp [hp0])
    have := (List.getElem?_eq_some_iff.1 this).1
    omega
  · have := hasN_iff.1 (hsur i (List.mem_range.2 hi))
    obtain ⟨p, hp⟩ := List.mem_iff_getElem?.1 this
    have hpp := (List.getElem?_eq_some_iff.1 hp).1
    exact ⟨p, by omega, by rw [List.getD_eq_getElem?_getD, hp]; rfl⟩
  · obtain ⟨y, hy, rfl⟩ := shifted hz
    obtain ⟨x, hx, hcase⟩ := kg p y hy
    obtain ⟨o, ho, hco⟩ := hc _ x (pg p x hx)
    refine ⟨o, ho, ?_⟩
    rcases hcase with rfl | ⟨k, m, hg, hm, rfl, _, hk⟩
    · left
      have hnk := cOper_not_kept hco
      have : y.shift base = y := by
        unfold AOper.shift
        split
        · rename_i k m h; rw [h] at hnk; cases hnk
        · rfl
      rw [this]
      exact ⟨hco, hnk⟩
    · right
      obtain ⟨g1, g2, g3⟩ := cOper_parts hco hg
      exact ⟨base + k, m, x.op, by rw [← g3]; rfl, g1, g2, hm, by omega, by omega⟩
  · obtain ⟨y, hy, rfl⟩ := shifted hz
    obtain ⟨y', hy', rfl⟩ := shifted hz'
    obtain ⟨k1, h1, e1⟩ := unshift hop
    obtain ⟨k2, h2, e2⟩ := unshift hop'
    have : k1 = k2 := by omega
    subst this
    exact keepAll_distinct l0 0 nok p q y y' k1 m m' hy hy' h1 h2
  · unfold posB at hq
    rw [List.getD_eq_getElem?_getD, List.getElem?_map] at hq
    have hpp : p < perm.length := by omega
    rw [List.getElem?_eq_getElem hpp] at hq
    simp only [Option.map_some, Option.getD_some, List.mem_filter, List.mem_range] at hq
    have e : perm[p] = perm.getD p 0 := by rw [List.getD_eq_getElem?_getD, List.getElem?_eq_getElem hpp]; rfl
    rw [e] at hq
    exact ⟨by omega, befs_spec (D := D) ops.toList [] (fun i _ j hj => by simp at hj) (fun i o ho hi => hD i o (by simpa using ho) (by simpa using hi)) _ hDp _ (hasN_iff.1 hq.2)⟩
  · unfold posB at hp
    rw [List.getD_eq_getElem?_getD, List.getElem?_map] at hp
    have hpp : p < perm.length := by omega
    rw [List.getElem?_eq_getElem hpp] at hp
    simp only [Option.map_some, Option.getD_some, List.mem_filter, List.mem_range] at hp
    have e : perm[p] = perm.getD p 0 := by rw [List.getD_eq_getElem?_getD, List.getElem?_eq_getElem hpp]; rfl
    rw [e] at hp
    exact absurd (befs_lt hedges rfl _ _ (hasN_iff.1 hp.2)) (by omega)
  · unfold keptAt at hp ⊢
    rw [List.getElem?_map] at hp
    cases hy : (keepAll 0 l0).1[p]? with
    | none => rw [hy] at hp; cases hp
    | some y =>
      rw [hy] at hp
      simp only [Option.map_some] at hp
      rw [(shift_op base y).2.2.2.2.1] at hp
      exact hp

/-- Numbers are kept. -/
theorem Step.reserve {ι : Map} {h : AHeap} {w : World} (r : Rep W ι h w) (m : Nat) : Step W ι h w ι ⟨h.t, h.next + m⟩ w :=
  ⟨Map.le_refl _, ⟨r.below, r.own, r.inj, fun k hk => r.fresh k (by have : h.next + m ≤ k := hk; omega)⟩, Nat.le_refl _, by show h.next ≤ h.next + m; omega, fun _ _ hk => ⟨rfl, hk⟩, fun _ _ => rfl, fun _ _ hn => hn⟩

theorem draw_ok (hI : InpOk W I) (hcall : CallOk P W call) (hm : P.follows .mixedOrders = true) {n : Nat} (hn : n ≤ 16000) : DrawOk P W I call n := by
  intro ops aos dc haos hdc hin fu f h x f' h' hex id ι a0 w0 r0 fr0
  unfold drawInfo at hdc
  simp only [] at hdc
  split at hdc
  · cases hdc
  · rename_i hedges
    split at hdc
    · rename_i hrows
      cases hdc
      simp only [exec] at hex
      split at hex
      · rename_i es f1 h1 htr
        split at hex
        · rename_i hchk
          cases hex
          exact draw_core hI hcall hm hn (stat_plain haos hedges hrows) hin htr hchk id r0 (Step.refl r0) fr0 fun k h1 h2 => absurd h2 (by omega)
        · cases hex
      · cases hex
    · split at hdc
      · rename_i l0 hl0
        split at hdc
        · rename_i hcond
          cases hdc
          rw [Bool.and_eq_true] at hcond
          obtain ⟨hperm, hrows⟩ := hcond
          simp only at hin hex
          generalize hmm : (keepAll 0 l0).2 = mm at hex
          cases mm with
          | zero =>
            simp only [exec] at hex
            split at hex
            · rename_i es f1 h1 htr
              split at hex
              · rename_i hchk
                cases hex
                have hs := stat_kept (base := h.next) haos hedges hl0 hperm hrows
                have hid : ((keepAll 0 l0).1.map (AOper.shift h.next)) = (keepAll 0 l0).1 := by
                  have : ∀ y ∈ (keepAll 0 l0).1, y.shift h.next = y := by
                    intro y hy
                    obtain ⟨p, hp⟩ := List.mem_iff_getElem?.1 hy
                    obtain ⟨_, _, kg⟩ := keepAll_get l0 0
                    obtain ⟨x, hx, hcase⟩ := kg p y hp
                    rcases hcase with rfl | ⟨k, m, _, _, _, _, hk⟩
                    · obtain ⟨_, pg⟩ := picks_get hl0
                      obtain ⟨hlen, hget⟩ := cOpers_get haos
                      have hxa := pg p y hx
                      have hpp := (List.getElem?_eq_some_iff.1 hxa).1
                      obtain ⟨z, hz, hcz⟩ := hget _ _ (List.getElem?_eq_getElem (Nat.lt_of_lt_of_eq hpp hlen))
                      rw [hxa] at hz; cases hz
                      have hnk := cOper_not_kept hcz
                      unfold AOper.shift
                      split
                      · rename_i k m h; rw [h] at hnk; cases hnk
                      · rfl
                    · omega
                  exact (List.map_congr_left this).trans (List.map_id _)
                rw [hid, hmm] at hs
                exact draw_core (h := h) hI hcall hm hn hs hin htr hchk id r0 (Step.refl r0) fr0 fun k h1 h2 => absurd h2 (by omega)
              · cases hex
            · cases hex
          | succ mm =>
            simp only [exec] at hex
            split at hex
            · rename_i hroom
              split at hex
              · rename_i es f1 h1 htr
                split at hex
                · rename_i hchk
                  cases hex
                  have hs := stat_kept (base := h.next) haos hedges hl0 hperm hrows
                  rw [hmm] at hs
                  rw [← shift_info h.next] at hchk
                  exact draw_core (h := ⟨h.t, h.next + (mm + 1)⟩) hI hcall hm hn hs (by rw [shift_in]; exact hin) htr hchk id r0 (Step.reserve r0 _) fr0 fun k h1 h2 => by
                    have hk : h.get k = none := by
                      cases hg : h.get k with
                      | none => rfl
                      | some b => exact absurd (r0.lt hg) (by omega)
                    exact ⟨hk, r0.fresh k h1⟩
                · cases hex
              · cases hex
            · cases hex
        · cases hdc
      · cases hdc
end

end

end Go.AM
