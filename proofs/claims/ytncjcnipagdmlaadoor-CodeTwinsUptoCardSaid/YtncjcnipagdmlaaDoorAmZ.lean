/- The abstract machine AM, merged, part 2: a deterministic evaluator of the program that is proved sound for the model. Conditions: as each lemma says. -/
import Derived.Test.YtncjcnipagdmlaaDoorAmB
import Derived.Carry
import Derived.OpenShut
import Derived.Deep.Slices
/- AM, part 34: walks over maps whose order is drawn: what holds in every order. Conditions: as each lemma says. -/
namespace Go.AM
noncomputable section
open Go.RowKit
set_option linter.unusedSectionVars false
variable [Sig]

section
variable {P : Program} {W : World} {I : Inp} {ι : Map} {h : AHeap} {w : World} {call : CallFn}

/-- All that a walk's step may come to. -/
def nextL (it : AVal) (h : AHeap) : Option (List (AVal × AHeap)) :=
  match it with
  | .iter k => match h.get k with
    | some ⟨[m, s, l, .tuple seen], p⟩ => match m with
      | .nilm => some [(.tuple [.bool false], h)]
      | .map j => match h.get j with
        | some ⟨c :: es, _⟩ => match natOf c, natOf s, natOf l, natsOf seen with
          | some cn, some sn, some ln, some sl => match leftM sl es with
            | none => none
            | some left => match sl.isEmpty || es.isEmpty || es.any (fun e => match stampOf e with | some b => Nat.blt b ln | none => false) with
              | false => none
              | true => match left with
                | [] => some [(.tuple [.bool false], h)]
                | left => match left.all (fun e => Nat.blt e.2.2 sn) with
                  | true => some (left.map fun e => (.tuple [.bool true, e.1, e.2.1], h.set k ⟨[.map j, .int .i64 (.ofNat sn), .int .i64 (.ofNat cn), .tuple (seen ++ [.int .i64 (.ofNat e.2.2)])], p⟩))
                  | false => none
          | _, _, _, _ => none
        | _ => none
      | _ => none
    | _ => none
  | _ => none

theorem next_draw {w : World} {rb mb since last clock : Nat} {seen : Array Nat} {ms : Array MapEntry} (ty : TypeId) (hi : w.heap[rb]? = some (.mapIter (some mb) since seen last)) (hm : w.heap[mb]? = some (.map ms clock))
    (htest : (!seen.isEmpty && !ms.isEmpty && ms.all (fun x => decide (x.born ≥ last))) = false) (left : List MapEntry) (hleft : (ms.filter fun e => !seen.contains e.born).toList = left) (hold : ∀ x ∈ left, x.born < since) (hne : left ≠ []) :
    ∃ (i : Nat) (e : MapEntry) (w1 : World), left[i]? = some e ∧ (w1 = w ∨ w1 = w.drew) ∧ (Instr.next (.pointer (some ⟨rb, 0, none⟩)) false ty).run P w = .ok (.tuple #[.bool true, e.key, e.val]) { w1 with heap := w1.heap.setIfInBounds rb (.mapIter (some mb) since (seen.push e.born) clock) } := by
  simp only [Instr.next, Sem.run_bind, run_getObj_iter hi, MapKept.run_getObj_map hm, Result.andThen, htest, Bool.false_eq_true, if_false]
  generalize Array.filter (fun e => !seen.contains e.born) ms = L at hleft ⊢
  have hmem : ∀ x ∈ L.toList, x.born < since := fun x hx => hold x (by rw [← hleft]; exact hx)
  have e1 : L.filter (fun x => decide (x.born < since)) = L := Array.filter_eq_self.2 (fun x hx => by simpa using hmem x (by simpa using hx))
  have e2 : L.filter (fun x => decide (x.born ≥ since)) = #[] := by
    rw [Array.filter_eq_empty_iff]
    intro x hx
    have := hmem x (by simpa using hx)
    simp
    omega
  have hLs : L.size = left.length := by rw [← hleft]; simp
  have hpos : 0 < left.length := List.length_pos_iff.2 hne
  have hemp : L.isEmpty = false := by
    have : L.size ≠ 0 := by omega
    simp [Array.isEmpty, this]
  have hch : ∃ (j : Nat) (w1 : World), j < L.size ∧ (w1 = w ∨ w1 = w.drew) ∧ (choose (Question.mapNext L.size)).run P w = .ok j w1 := by
    by_cases hf : L.size ≤ 1
    · exact ⟨0, w, by omega, .inl rfl, by simp [choose, Sem.run, Question.forced, hf]⟩
    · exact ⟨_, w.drew, Nat.mod_lt _ (by omega), .inr rfl, by
        simp only [choose, Sem.run, Question.forced, decide_eq_true_eq, hf, if_false, Question.cut]
        rfl⟩
  obtain ⟨j, w1, hj, hw1, hrun⟩ := hch
  have hi1 : w1.heap[rb]? = some (.mapIter (some mb) since seen last) := by rcases hw1 with rfl | rfl <;> exact hi
  refine ⟨j, L[j], w1, by rw [← hleft, Array.getElem?_toList]; exact Array.getElem?_eq_getElem hj, hw1, ?_⟩
  simp only [e1, e2, Array.append_empty, hemp, Bool.false_eq_true, if_false, Array.empty_append, Array.size_map, hrun, Array.getElem?_map, Array.getElem?_eq_getElem hj, Option.map_some, Sem.run_bind, run_setObj_iter _ hi1, Result.andThen]
  rfl

theorem nextL_op (r : Rep W ι h w) {ty : TypeId} {it : AVal} {p : Value} {outs : List (AVal × AHeap)} (hm : VRel ι it p) (hs : nextL it h = some outs) :
    ∃ o ∈ outs, ∃ u w', (Instr.next p false ty).run P w = .ok u w' ∧ VRel ι o.1 u ∧ Step W ι h w ι o.2 w' := by
  unfold nextL at hs
  split at hs
  · rename_i k
    split at hs
    · rename_i m s l seen pn hb
      obtain ⟨pl, hp, rfl, hbase, hl, mo, since, seenC, last, hg, hrel⟩ := r.iterOf hb hm
      cases hrel with
      | cons hmv hrel => cases hrel with
        | cons hsv hrel => cases hrel with
          | cons hlv hrel => cases hrel with
            | cons hnv hrel =>
              cases hrel
              split at hs
              · cases hs
                have hmo : mo = none := by cases hmv; rfl
                subst hmo
                exact ⟨_, List.mem_singleton.2 rfl, .tuple #[.bool false], w, by simp [Instr.next, run_getObj_iter hg], .tuple _ _ (.cons (.bool _) .nil), Step.refl r⟩
              · rename_i j
                split at hs
                · rename_i c es pm hj
                  obtain ⟨plm, hpm, hmo, hbm, hlm, ms, clock, hgm, hrelm⟩ := r.mapOf hj hmv
                  cases hmo
                  cases hrelm with
                  | cons hc hrelm =>
                    split at hs
                    · rename_i cn sn ln sl hcn hsn hln hsl
                      obtain rfl := natOf_rel hcn hc
                      obtain rfl := natOf_rel hsn hsv
                      obtain rfl := natOf_rel hln hlv
                      obtain ⟨us, hus, hur⟩ := inv_tuple hnv
                      cases hus
                      have hur0 : VRels ι seen (seenC.toList.map fun (n : Nat) => Value.int .i64 (n : Int)) := by simpa using hur
                      have hse : seenC.toList = sl := natsOf_rel hsl hur0
                      split at hs
                      · cases hs
                      · rename_i left hleft
                        split at hs
                        · cases hs
                        · rename_i htest
                          obtain ⟨e1, e2⟩ := leftM_rel hleft hrelm
                          have hlc : (ms.filter fun e => !seenC.contains e.born).toList = ms.toList.filter fun m => !sl.contains m.born := by
                            rw [Array.toList_filter, ← hse]
                            congr 1
                            funext m
                            rw [Array.contains_toList]
                          have hT : (!seenC.isEmpty && !ms.isEmpty && ms.all (fun x => decide (x.born ≥ last))) = false := by
                            simp only [Bool.or_eq_true] at htest
                            rcases htest with (h0 | h0) | h0
                            · have : seenC.isEmpty = true := by
                                rw [← hse] at h0
                                simpa [List.isEmpty_iff] using h0
                              simp [this]
                            · have : ms.isEmpty = true := by
                                have h3 : es = [] := List.isEmpty_iff.1 h0
                                rw [h3] at hrelm
                                have := hrelm.length
                                simp at this
                                simpa using this.symm
                              simp [this]
                            · obtain ⟨m, hm1, hm2⟩ := stamps_rel h0 hrelm
                              have : ms.all (fun x => decide (x.born ≥ last)) = false := by
                                rw [Bool.eq_false_iff]
                                intro ha
                                rw [Array.all_eq_true_iff_forall_mem] at ha
                                have := ha m (by simpa using hm1)
                                simp at this
                                omega
                              simp [this]
                          split at hs
                          · cases hs
                            have h0 : (ms.toList.filter fun m => !sl.contains m.born) = [] := List.length_eq_zero_iff.1 e1
                            exact ⟨_, List.mem_singleton.2 rfl, _, w, (next_run ty hg hgm hT [] (by rw [hlc, h0]) (fun x hx => by cases hx)).1 rfl, .tuple _ _ (.cons (.bool _) .nil), Step.refl r⟩
                          · rename_i hne
                            split at hs
                            · rename_i hall
                              cases hs
                              have hall' : ∀ e ∈ left, e.2.2 < since := fun e he => Nat.le_of_ble_eq_true (List.all_eq_true.1 hall e he)
                              have hlen : (ms.toList.filter fun m => !sl.contains m.born).length = left.length := e1
                              have hget : ∀ (i : Nat) (m : MapEntry), (ms.toList.filter fun m => !sl.contains m.born)[i]? = some m → ∃ key val b, left[i]? = some (key, val, b) ∧ VRel ι key m.key ∧ VRel ι val m.val ∧ m.born = b := fun i m hmi => by
                                have hi := (List.getElem?_eq_some_iff.1 hmi).1
                                have hi2 : i < left.length := by omega
                                obtain ⟨m', a1, a2, a3, a4⟩ := e2 i left[i].1 left[i].2.1 left[i].2.2 (List.getElem?_eq_getElem hi2)
                                rw [hmi] at a1; cases a1
                                exact ⟨_, _, _, List.getElem?_eq_getElem hi2, a2, a3, a4⟩
                              obtain ⟨i, m, w1, hmi, hw1, hrun⟩ := next_draw (P := P) ty hg hgm hT (ms.toList.filter fun m => !sl.contains m.born) hlc (fun x hx => by
                                obtain ⟨i, hi⟩ := List.mem_iff_getElem?.1 hx
                                obtain ⟨key, val, b, g1, _, _, g4⟩ := hget i x hi
                                rw [g4]
                                exact hall' _ (List.mem_of_getElem? g1)) (fun h0 => by
                                have h9 : left.length = 0 := by rw [← hlen, h0]; rfl
                                exact hne (List.length_eq_zero_iff.1 h9))
                              obtain ⟨key, val, b, g1, g2, g3, g4⟩ := hget i m hmi
                              have r1 : Rep W ι h w1 := by rcases hw1 with rfl | rfl <;> first | exact r | exact r.drew
                              have s1 : Step W ι h w ι h w1 := by rcases hw1 with rfl | rfl <;> first | exact Step.refl r | exact Step.drew r
                              have hg1 : w1.heap[pl.blk]? = some (.mapIter (some plm.blk) since seenC last) := by rcases hw1 with rfl | rfl <;> exact hg
                              refine ⟨_, List.mem_map.2 ⟨_, List.mem_of_getElem? g1, rfl⟩, _, _, hrun, .tuple _ _ (.cons (.bool _) (.cons g2 (.cons g3 .nil))), s1.trans (Step.turnIter r1 hb hp hbase hl hg1 ?_)⟩
                              refine .cons hmv (.cons (.int _ _) (.cons (.int _ _) (.cons (.tuple _ _ ?_) .nil)))
                              have := hur0.append (.cons (.int .i64 (b : Int)) .nil)
                              rw [← g4] at this ⊢
                              simpa using this
                            · cases hs
                    · cases hs
                · cases hs
              · cases hs
    · cases hs
  · cases hs

/-- A step of a walk that nothing keeps from coming up. -/
def nextA (o : AOper) : Option AOpd := match o.op, o.guard with
  | .nextM it, none => some it
  | _, _ => none

variable (P I) in
def wpOpsA (call : CallFn) : List AOper → Fr → AHeap → (Fr → AHeap → Prop) → Prop
  | [], f, h, Q => Q f h
  | o :: r, f, h, Q => match nextA o with
    | some it => ∃ outs, nextL (it.ev f) h = some outs ∧ ∀ p ∈ outs, wpOpsA call r (putDst o f p.1) p.2 Q
    | none => ∃ v h1, valOper P I call o f h = some (v, h1) ∧ wpOpsA call r (putDst o f v) h1 Q

def iterA (body : Fr → AHeap → (Ex → Fr → AHeap → Prop) → Prop) : Nat → Fr → AHeap → (Ex → Fr → AHeap → Prop) → Prop
  | 0, _, _, _ => False
  | n + 1, f, h, Q => body f h fun x f1 h1 => match x with
    | .normal => iterA body n f1 h1 Q
    | .exit id => Q (.exit id) f1 h1
    | .ret => Q .ret f1 h1

/-- All blocks have numbers below the next one. -/
def AHeap.Lt (h : AHeap) : Prop := ∀ k b, h.get k = some b → k < h.next

variable (P I) in
/-- What holds behind code, in whatever order the walks go. -/
def wpA (call : CallFn) (n : Nat) : ACode → Fr → AHeap → (Ex → Fr → AHeap → Prop) → Prop
  | .skip, f, h, Q => Q .normal f h
  | .region ops, f, h, Q => wpOpsA P I call ops f h (Q .normal)
  | .draw ops info m, f, h, Q => ∃ x f1 h1, exec P I call n (.draw ops info m) f h = some (x, f1, h1) ∧ Q x f1 h1
  | .seq a b, f, h, Q => wpA call n a f h fun x f1 h1 => match x with
    | .normal => wpA call n b f1 h1 Q
    | .exit id => Q (.exit id) f1 h1
    | .ret => Q .ret f1 h1
  | .cond c t e, f, h, Q => match c.ev f with
    | .bool true => wpA call n t f h Q
    | .bool false => wpA call n e f h Q
    | _ => False
  | .block id c, f, h, Q => wpA call n c f h fun x f1 h1 => match x with
    | .exit i => match Nat.beq i id with
      | true => Q .normal f1 h1
      | false => Q (.exit i) f1 h1
    | .normal => Q .normal f1 h1
    | .ret => Q .ret f1 h1
  | .loop c, f, h, Q => h.Lt → iterA (wpA call n c) n f h Q
  | .exit id, f, h, Q => Q (.exit id) f h
  | .ret, f, h, Q => Q .ret f h

theorem next_inv {op : Op} {it : AOpd} (hc : cOp P op = some (.nextM it)) : ∃ x, op = .next x false ∧ cOpd x = some it := by
  cases op <;> simp only [cOp, reduceCtorEq] at hc
  case next x isS =>
    cases isS with
    | true => cases hc
    | false => obtain ⟨y, hy, e⟩ := map_some hc; cases e; exact ⟨x, rfl, hy⟩
  case call c =>
    repeat' (split at hc)
    all_goals first
      | (cases hc; done)
      | (unfold cBuiltin at hc
         repeat' (split at hc)
         all_goals first | (cases hc; done) | (obtain ⟨y, _, e⟩ := map_some hc; cases e; done))
  case makeMap t r => cases r <;> cases hc
  all_goals first
    | (obtain ⟨y, _, e⟩ := map_some hc; cases e; done)
    | (repeat' (split at hc)
       all_goals first | (cases hc; done) | (obtain ⟨y, _, e⟩ := map_some hc; cases e; done))

theorem opsA_sound (hI : InpOk W I) (hcall : CallOk P W call) {n : Nat} (hn : n ≤ 16000) {ops : Array Oper} {Q : Exit → Act → World → Prop} : ∀ (l : List Oper) (k : Nat), ops.toList.drop k = l → ∀ (aos : List AOper), cOpers P ops l = some aos →
    opersIn n aos = true → ∀ (f : Fr) (h : AHeap) (R : Fr → AHeap → Prop), wpOpsA P I call aos f h R → ∀ (ι : Map) (a : Act) (w : World), Rep W ι h w → FrRel ι n f a.tmps →
    (∀ f' h' a' w', R f' h' → Post W ι n h a w f' h' a' w' → Q .normal a' w') → wpOps P ops Q (List.range' k l.length) a w := by
  intro l
  induction l with
  | nil =>
    intro k hk aos hc hin f h R hr ι a w r fr hQ
    simp only [cOpers, Option.some.injEq] at hc
    subst hc
    exact hQ f h a w hr ⟨⟨ι, fr, Step.refl r⟩, rfl⟩
  | cons o l ih =>
    intro k hk aos hc hin f h R hr ι a w r fr hQ
    simp only [cOpers] at hc
    split at hc
    · rename_i ao aos' hao haos
      cases hc
      simp only [opersIn, List.all_cons, Bool.and_eq_true] at hin
      have hd : ∀ d, ao.dst = some d → d < n := by
        intro d he
        have := hin.1
        rw [he] at this
        exact Nat.le_of_ble_eq_true this
      have hko : ops[k]? = some o := by
        have : (ops.toList.drop k)[0]? = some o := by rw [hk]; rfl
        rw [List.getElem?_drop] at this
        simpa using this
      have hkl : ops.toList.drop (k + 1) = l := by
        have := congrArg (List.drop 1) hk
        rw [List.drop_drop] at this
        simpa using this
      simp only [wpOpsA] at hr
      simp only [List.length_cons, List.range'_succ, wpOps, hko]
      split at hr
      · rename_i it hnext
        obtain ⟨outs, houts, hall⟩ := hr
        have hpar : ao.op = .nextM it ∧ ao.guard = none := by
          unfold nextA at hnext
          split at hnext
          · rename_i it' h1 h2
            cases hnext
            exact ⟨h1, h2⟩
          · cases hnext
        obtain ⟨hg, hop, hdst⟩ := cOper_parts hao hpar.2
        rw [hpar.1] at hop
        obtain ⟨x, hox, hxi⟩ := next_inv hop
        obtain ⟨p, hp, u, w', hrun, hv, hst⟩ := nextL_op (P := P) (ty := o.type) r (cOpd_rel hxi fr) houts
        have hw : Region.wanted o (yielded ops a.tmps) = true := by simp [Region.wanted, hg]
        rw [if_pos hw]
        left
        have hex : (execOp a.eval o).run P w = .ok (.value u) w' := by
          obtain ⟨od, oop, ot, opos, oa, og⟩ := o
          simp only at hox
          subst hox
          show ((do Pure.pure (Next.value (← Instr.next (a.eval x) false ot)) : Sem Next).run P w) = _
          simp [hrun]
        unfold Oper.wp
        rw [hex]
        have hfr1 : FrRel ι n (putDst ao f p.1) (a.put o.dst u).tmps := by
          unfold putDst
          rw [hdst]
          cases hod : o.dst with
          | none => exact fr
          | some d => exact fr.put hn (hd d (by rw [hdst, hod])) hv
        refine ih (k + 1) hkl aos' haos hin.2 _ _ R (hall p hp) ι _ w' hst.rep hfr1 fun f2 h2 a2 w2 hR hp2 => hQ f2 h2 a2 w2 hR (Post.trans hst ?_ hp2)
        cases o.dst <;> rfl
      · obtain ⟨v, h1, hv, hrest⟩ := hr
        have hr1 : runOper P I call ao f h = some (putDst ao f v, h1) := by simp [runOper, hv]
        exact oper_sound hI hcall hn hao hd hr1 r fr fun a1 w1 hp => by
          obtain ⟨⟨ι1, fr1, st1⟩, hd1⟩ := hp
          exact ih (k + 1) hkl aos' haos hin.2 _ h1 R hrest ι1 a1 w1 st1.rep fr1 fun f2 h2 a2 w2 hR hp2 => hQ f2 h2 a2 w2 hR (Post.trans st1 hd1 hp2)
    · cases hc

/-- What code comes to: one of these. -/
def DoesA (P : Program) (W : World) (n : Nat) (c : Code) (f : Fr) (h : AHeap) (Q : Ex → Fr → AHeap → Prop) : Prop :=
  ∀ (ι : Map) (a : Act) (w : World), Rep W ι h w → FrRel ι n f a.tmps → c.wp P (fun e a' w' => ∃ x f' h', Q x f' h' ∧ e = exOf x ∧ Post W ι n h a w f' h' a' w') a w

theorem iterA_sound {n : Nat} {c : Code} {body : Fr → AHeap → (Ex → Fr → AHeap → Prop) → Prop} (hb : ∀ f h Q, body f h Q → DoesA P W n c f h Q) :
    ∀ (m : Nat) (f : Fr) (h : AHeap) (Q : Ex → Fr → AHeap → Prop), iterA body m f h Q → ∀ (ι : Map) (a : Act) (w : World), Rep W ι h w → FrRel ι n f a.tmps →
      Code.rounds P c (fun e a' w' => ∃ x f' h', Q x f' h' ∧ e = exOf x ∧ Post W ι n h a w f' h' a' w') m a w := by
  intro m
  induction m with
  | zero => intro f h Q hr; cases hr
  | succ m ih =>
    intro f h Q hr ι a w r fr
    simp only [iterA] at hr
    rw [rounds_succ]
    refine wp_mono (hb f h _ hr ι a w r fr) fun e a1 w1 ⟨x1, f1, h1, hq, he, hp⟩ => ?_
    subst he
    cases x1 with
    | normal =>
      obtain ⟨⟨ι1, fr1, st1⟩, hd1⟩ := hp
      have := ih f1 h1 Q hq ι1 a1 w1 st1.rep fr1
      show Code.rounds P c _ m a1 w1
      exact rounds_mono (fun e a2 w2 ⟨x, f2, h2, q, e1, e2⟩ => ⟨x, f2, h2, q, e1, Post.trans st1 hd1 e2⟩) this
    | exit id => exact ⟨_, _, _, hq, rfl, hp⟩
    | ret => exact ⟨_, _, _, hq, rfl, hp⟩

theorem wpA_sound (hI : InpOk W I) (hcall : CallOk P W call) {n : Nat} (hn : n ≤ 16000) (hdraw : DrawOk P W I call n) (m : Nat) : ∀ (c : Code) (ac : ACode), cCode P c = some ac → ac.within n = true →
    ∀ (f : Fr) (h : AHeap) (Q : Ex → Fr → AHeap → Prop), wpA P I call m ac f h Q → DoesA P W n c f h Q := by
  intro c
  induction c with
  | skip =>
    intro ac hc hin f h Q hr ι a w r fr
    cases hc
    exact wp_skip ⟨_, _, _, hr, rfl, ⟨ι, fr, Step.refl r⟩, rfl⟩
  | region id ops draw =>
    intro ac hc hin f h Q hr ι a w r fr
    simp only [cCode] at hc
    split at hc
    · obtain ⟨aos, haos, rfl⟩ := map_some hc
      simp only [wpA] at hr
      refine wp_region ?_
      have := opsA_sound hI hcall hn (Q := fun e a' w' => ∃ x f' h', Q x f' h' ∧ e = exOf x ∧ Post W ι n h a w f' h' a' w') ops.toList 0 rfl aos haos hin f h _ hr ι a w r fr (fun f' h' a' w' hq hp => ⟨_, _, _, hq, rfl, hp⟩)
      rwa [Array.length_toList, ← List.range_eq_range'] at this
    · split at hc
      · rename_i aos haos
        obtain ⟨dc, hdc, rfl⟩ := map_some hc
        obtain ⟨x, f', h', he, hq⟩ := hr
        exact wp_mono (hdraw ops aos dc haos hdc hin m f h x f' h' he id ι a w r fr) fun e a' w' ⟨e1, e2⟩ => ⟨x, f', h', hq, e1, e2⟩
      · cases hc
  | seq c1 c2 ih1 ih2 =>
    intro ac hc hin f h Q hr ι a w r fr
    simp only [cCode] at hc
    split at hc
    · rename_i a1 a2 h1 h2
      cases hc
      simp only [ACode.within, Bool.and_eq_true] at hin
      simp only [wpA] at hr
      refine wp_seq (wp_mono (ih1 a1 h1 hin.1 f h _ hr ι a w r fr) fun e b w1 ⟨x1, f1, hh1, hq, hx, hp⟩ => ?_)
      subst hx
      cases x1 with
      | normal =>
        obtain ⟨⟨ι1, fr1, st1⟩, hd1⟩ := hp
        exact wp_mono (ih2 a2 h2 hin.2 f1 hh1 Q hq ι1 b w1 st1.rep fr1) fun e b2 w2 ⟨x, f2, h2, q, q1, q2⟩ => ⟨x, f2, h2, q, q1, Post.trans st1 hd1 q2⟩
      | exit id => exact ⟨_, _, _, hq, rfl, hp⟩
      | ret => exact ⟨_, _, _, hq, rfl, hp⟩
    · cases hc
  | cond o t e iht ihe =>
    intro ac hc hin f h Q hr ι a w r fr
    simp only [cCode] at hc
    split at hc
    · rename_i o' t' e' ho ht he
      cases hc
      simp only [ACode.within, Bool.and_eq_true] at hin
      simp only [wpA] at hr
      have hor := cOpd_rel ho fr
      split at hr
      · rename_i hb
        rw [hb] at hor
        exact wp_cond_true (inv_bool hor) (iht t' ht hin.1 f h Q hr ι a w r fr)
      · rename_i hb
        rw [hb] at hor
        exact wp_cond_false (inv_bool hor) (ihe e' he hin.2 f h Q hr ι a w r fr)
      · cases hr
    · cases hc
  | block id c ih =>
    intro ac hc hin f h Q hr ι a w r fr
    simp only [cCode] at hc
    obtain ⟨ac', hac, rfl⟩ := map_some hc
    simp only [wpA] at hr
    refine wp_block (wp_mono (ih ac' hac hin f h _ hr ι a w r fr) fun e b w1 ⟨x1, f1, hh1, hq, hx, hp⟩ => ?_)
    subst hx
    cases x1 with
    | normal => exact ⟨_, _, _, hq, rfl, hp⟩
    | exit i =>
      simp only at hq
      split at hq
      · rename_i hi
        have : i = id := by simpa using hi
        simp only [exOf, Exit.inBlock, this, if_true]
        exact ⟨_, _, _, hq, rfl, hp⟩
      · rename_i hi
        have : ¬ i = id := by intro e; subst e; simp at hi
        simp only [exOf, Exit.inBlock, this, if_false]
        exact ⟨_, _, _, hq, rfl, hp⟩
    | ret => exact ⟨_, _, _, hq, rfl, hp⟩
  | scope c ih =>
    intro ac hc hin f h Q hr ι a w r fr
    simp only [cCode] at hc
    refine wp_scope_straight (wp_mono (ih ac hc hin f h Q hr ι a w r fr) fun e b w1 ⟨x, f1, h1, hq, hx, hp⟩ => ?_)
    subst hx
    cases x <;> exact ⟨_, _, _, hq, rfl, hp⟩
  | label l =>
    intro ac hc hin f h Q hr ι a w r fr
    cases hc
    exact wp_label ⟨_, _, _, hr, rfl, ⟨ι, fr, Step.refl r⟩, rfl⟩
  | loop c ih =>
    intro ac hc hin f h Q hr ι a w r fr
    simp only [cCode] at hc
    obtain ⟨ac', hac, rfl⟩ := map_some hc
    simp only [wpA] at hr
    exact wp_loop_rounds m (iterA_sound (fun f h Q hb => ih ac' hac hin f h Q hb) m f h Q (hr fun k b hk => r.lt hk) ι a w r fr)
  | exit id =>
    intro ac hc hin f h Q hr ι a w r fr
    cases hc
    exact wp_exit ⟨_, _, _, hr, rfl, ⟨ι, fr, Step.refl r⟩, rfl⟩
  | ret =>
    intro ac hc hin f h Q hr ι a w r fr
    cases hc
    exact wp_ret ⟨_, _, _, hr, rfl, ⟨ι, fr, Step.refl r⟩, rfl⟩
  | _ => intro ac hc; cases hc

/-! ### less is known -/
/-- All that the one knows the other one knows too. -/
structure Knows (h' h : AHeap) : Prop where
  next : h'.next = h.next
  sub : ∀ k b, h.get k = some b → h'.get k = some b
theorem Knows.refl (h : AHeap) : Knows h h := ⟨rfl, fun _ _ e => e⟩
theorem Knows.trans {a b c : AHeap} (x : Knows a b) (y : Knows b c) : Knows a c := ⟨x.next.trans y.next, fun k b e => x.sub k b (y.sub k b e)⟩
theorem Rep.less {h' : AHeap} (r : Rep W ι h' w) (k : Knows h' h) : Rep W ι h w :=
  ⟨r.below, fun m b hm => r.own m b (k.sub m b hm), fun m m' b b' q q' h1 h2 => r.inj m m' b b' q q' (k.sub _ _ h1) (k.sub _ _ h2), fun m hm => r.fresh m (by rw [k.next]; exact hm)⟩
theorem Step.less {h1 h2 : AHeap} {ι' : Map} {w' : World} (s : Step W ι h w ι' h1 w') (k : Knows h1 h2) : Step W ι h w ι' h2 w' := by
  refine ⟨s.le, s.rep.less k, s.size, by rw [← k.next]; exact s.next, fun g hg hno => ?_, s.old, fun m hm hn => ?_, s.drawn⟩
  · obtain ⟨e1, e2⟩ := s.keeps g hg hno
    exact ⟨e1, fun m b q hm hq => e2 m b q (k.sub m b hm) hq⟩
  · have := s.dead m hm hn
    cases hg : h2.get m with
    | none => rfl
    | some b => rw [k.sub m b hg] at this; cases this

/-- A function whose walks may go in any order: it comes to one and the same. -/
theorem prim_any (hI : InpOk W I) (hm : P.follows .mixedOrders = true) (hcall : CallOk P W call) {g : Nat} {fn : Func} {af : AFunc} (hfn : P.funcs[g]? = some fn) (hcf : cFunc P fn = some af) (hname : fn.name ≠ "runtime.NumGoroutine") {p : Prim} {m : Nat}
    (hp : ∀ args h v h', (∀ k b, h.get k = some b → k < h.next) → p args h = some (v, h') → args.length ≤ af.ntmps ∧ wpA P I call m af.body (putArgs 0 args .nil) h fun x f1 h1 => (∀ id, x ≠ .exit id) ∧ ∃ vs, ressOf I f1 h1 af.results = some vs ∧ oneOrTuple vs = v ∧ Knows h1 h') : CallOk1 P W p g := by
  intro args h v h' hr ι w argsC r hrel
  obtain ⟨hle, hwp⟩ := hp args h v h' (fun k b hk => r.lt hk) hr
  unfold cFunc at hcf
  split at hcf
  · cases hcf
  · rename_i c hbody
    split at hcf
    · rename_i ac ars hac hars
      split at hcf
      · rename_i hw
        cases hcf
        simp only [Bool.and_eq_true] at hw
        have hn := Nat.le_of_ble_eq_true hw.2
        have hcallee : (callFunc g argsC).run P w = .ok (.enter g argsC) w := by
          simp [callFunc, hfn, hname, hbody]
        refine .inl ⟨hcallee, ?_⟩
        have hd := wpA_sound hI hcall hn (draw_ok hI hcall hm hn) m c ac hac hw.1 _ _ _ hwp ι ⟨argsC ++ Array.replicate (fn.ntmps - argsC.size) undef, []⟩ w r (start_rel hrel hle hn)
        refine calls_of_wp hfn hbody (wp_mono hd fun e a' w' ⟨x, f1, h1, ⟨hx, vs, hvs, hv, hk⟩, he, hp⟩ => ?_)
        obtain ⟨⟨ι', fr', st⟩, hdef⟩ := hp
        obtain ⟨us, hus, hrv⟩ := res_sound hI st.rep fr' fn.results.toList ars hars vs hvs
        have hresults : (results fn a'.tmps).run P w' = .ok (if h : us.toArray.size = 1 then us.toArray[0] else .tuple us.toArray) w' := by
          rw [results_eq, Array.mapM_eq_mapM_toList]
          simp only [Sem.run_bind, Sem.run_map, hus]
          rfl
        have hfin : a'.defers = [] ∧ ∃ v_1, (results fn a'.tmps).run P w' = .ok v_1 w' ∧ ∃ v_2, Ending.returned v_1 = .returned v_2 ∧ ∃ ι', VRel ι' v v_2 ∧ Step W ι h w ι' h' w' :=
          ⟨hdef, _, hresults, _, rfl, ι', hv ▸ oneOrTuple_rel hrv, st.less hk⟩
        subst he
        cases x with
        | normal => exact hfin
        | exit id => exact absurd rfl (hx id)
        | ret => exact hfin
      · cases hcf
    · cases hcf

/-- What comes to one end comes to it in every order. -/
theorem wpA_mono {n : Nat} : ∀ {c : ACode} {f : Fr} {h : AHeap} {Q Q' : Ex → Fr → AHeap → Prop}, (∀ x f h, Q x f h → Q' x f h) → wpA P I call n c f h Q → wpA P I call n c f h Q' := by
  have opsM : ∀ {l : List AOper} {f : Fr} {h : AHeap} {Q Q' : Fr → AHeap → Prop}, (∀ f h, Q f h → Q' f h) → wpOpsA P I call l f h Q → wpOpsA P I call l f h Q' := by
    intro l
    induction l with
    | nil => intro f h Q Q' hq hw; exact hq _ _ hw
    | cons o l ih =>
      intro f h Q Q' hq hw
      simp only [wpOpsA] at hw ⊢
      split at hw
      · obtain ⟨outs, h1, h2⟩ := hw
        exact ⟨outs, h1, fun p hp => ih hq (h2 p hp)⟩
      · obtain ⟨v, h1, h2, h3⟩ := hw
        exact ⟨v, h1, h2, ih hq h3⟩
  intro c
  induction c with
  | skip => intro f h Q Q' hq hw; exact hq _ _ _ hw
  | region ops => intro f h Q Q' hq hw; exact opsM (fun f h => hq _ f h) hw
  | draw ops info m => intro f h Q Q' hq ⟨x, f1, h1, e, q⟩; exact ⟨x, f1, h1, e, hq _ _ _ q⟩
  | seq a b iha ihb =>
    intro f h Q Q' hq hw
    simp only [wpA] at hw ⊢
    refine iha (fun x f1 h1 q => ?_) hw
    cases x with
    | normal => exact ihb hq q
    | exit id => exact hq _ _ _ q
    | ret => exact hq _ _ _ q
  | cond c t e iht ihe =>
    intro f h Q Q' hq hw
    simp only [wpA] at hw ⊢
    split
    · rename_i hb; rw [hb] at hw; exact iht hq hw
    · rename_i hb; rw [hb] at hw; exact ihe hq hw
    · rename_i h1 h2
      split at hw
      · rename_i hb; exact h1 hb
      · rename_i hb; exact h2 hb
      · exact hw
  | block id c ih =>
    intro f h Q Q' hq hw
    simp only [wpA] at hw ⊢
    refine ih (fun x f1 h1 q => ?_) hw
    cases x with
    | normal => exact hq _ _ _ q
    | exit i =>
      simp only at q ⊢
      split
      · rename_i hb; rw [hb] at q; exact hq _ _ _ q
      · rename_i hb; rw [hb] at q; exact hq _ _ _ q
    | ret => exact hq _ _ _ q
  | loop c ih =>
    intro f h Q Q' hq hw
    simp only [wpA] at hw ⊢
    have : ∀ (m : Nat) (f : Fr) (h : AHeap), iterA (wpA P I call n c) m f h Q → iterA (wpA P I call n c) m f h Q' := by
      intro m
      induction m with
      | zero => intro f h hw; exact hw
      | succ m im =>
        intro f h hw
        simp only [iterA] at hw ⊢
        refine ih (fun x f1 h1 q => ?_) hw
        cases x with
        | normal => exact im f1 h1 q
        | exit id => exact hq _ _ _ q
        | ret => exact hq _ _ _ q
    exact fun hl => this n f h (hw hl)
  | exit id => intro f h Q Q' hq hw; exact hq _ _ _ hw
  | ret => intro f h Q Q' hq hw; exact hq _ _ _ hw
end
end
end Go.AM

/- AM, part 21: what the abstract machine comes to, without a count of rounds: rules to walk by. -/
namespace Go.AM
noncomputable section
open Go.RowKit

section
variable {P : Program} {I : Inp}

/-! ### more rounds, the same answer -/
def Le (c c' : CallFn) : Prop := ∀ g args h r, c g args h = some r → c' g args h = some r

theorem valOper_le {c c' : CallFn} (hc : Le c c') {o : AOper} {f : Fr} {h : AHeap} {r : AVal × AHeap} (hr : valOper P I c o f h = some r) : valOper P I c' o f h = some r := by
  obtain ⟨dst, op, guard⟩ := o
  cases guard with
  | none =>
    simp only [valOper, AOp.stepK_eq] at hr ⊢
    split at hr
    · exact hc _ _ _ _ hr
    · exact hr
  | some gd =>
    simp only [valOper, AOp.stepK_eq] at hr ⊢
    split at hr
    · split at hr
      · split at hr
        · exact hc _ _ _ _ hr
        · exact hr
      · exact hr
    · exact hr

theorem runOper_le {c c' : CallFn} (hc : Le c c') {o : AOper} {f : Fr} {h : AHeap} {r : Fr × AHeap} (hr : runOper P I c o f h = some r) : runOper P I c' o f h = some r := by
  simp only [runOper] at hr ⊢
  split at hr
  · rename_i v h1 hv; rw [valOper_le hc hv]; exact hr
  · cases hr

theorem runOps_le {c c' : CallFn} (hc : Le c c') : ∀ {ops : List AOper} {f : Fr} {h : AHeap} {r : Fr × AHeap}, runOps P I c ops f h = some r → runOps P I c' ops f h = some r
  | [], _, _, _, hr => hr
  | o :: ops, f, h, r, hr => by
    simp only [runOps] at hr ⊢
    split at hr
    · rename_i f1 h1 h2; rw [runOper_le hc h2]; exact runOps_le hc hr
    · cases hr

theorem trace_le {c c' : CallFn} (hc : Le c c') : ∀ {ops : List AOper} {f : Fr} {h : AHeap} {r}, trace P I c ops f h = some r → trace P I c' ops f h = some r
  | [], _, _, _, hr => hr
  | o :: ops, f, h, r, hr => by
    simp only [trace] at hr ⊢
    split at hr
    · rename_i v h1 hv
      rw [valOper_le hc hv]
      split at hr
      · rename_i l f2 h2 ht
        simp only [trace_le hc ht]
        exact hr
      · cases hr
    · cases hr

theorem chkOne_le {c c' : CallFn} (hc : Le c c') {hs : List AHeap} {o : AOper} {e : Fr × AVal × AHeap} {s : Nat} (h : chkOne P I c hs o e s = true) : chkOne P I c' hs o e s = true := by
  unfold chkOne at h ⊢
  split at h
  · split at h
    · rename_i v h1 hv; simp only [valOper_le hc hv]; exact h
    · cases h
  · cases h

theorem chkAll_le {c c' : CallFn} (hc : Le c c') {hs : List AHeap} : ∀ {os : List AOper} {is : List (Bool × List Nat)} {es : List (Fr × AVal × AHeap)}, chkAll P I c hs os is es = true → chkAll P I c' hs os is es = true := by
  intro os
  induction os with
  | nil => intro is es _; rfl
  | cons o os ih =>
    intro is es h
    cases is with
    | nil => rfl
    | cons i is =>
      cases es with
      | nil => rfl
      | cons e es =>
        obtain ⟨a, l⟩ := i
        simp only [chkAll, Bool.and_eq_true, List.all_eq_true] at h ⊢
        exact ⟨fun s hs => chkOne_le hc (h.1 s hs), ih h.2⟩

theorem iter_le {b b' : Fr → AHeap → Option (Ex × Fr × AHeap)} (hb : ∀ f h r, b f h = some r → b' f h = some r) : ∀ {n m : Nat}, n ≤ m → ∀ {f : Fr} {h : AHeap} {r}, iter b n f h = some r → iter b' m f h = some r
  | 0, _, _, _, _, _, hr => by cases hr
  | n + 1, 0, hnm, _, _, _, _ => by omega
  | n + 1, m + 1, hnm, f, h, r, hr => by
    simp only [iter] at hr ⊢
    cases hx : b f h with
    | none => rw [hx] at hr; cases hr
    | some p =>
      obtain ⟨x, f1, h1⟩ := p
      rw [hx] at hr
      rw [hb _ _ _ hx]
      cases x with
      | normal => exact iter_le hb (by omega) hr
      | exit id => exact hr
      | ret => exact hr

theorem exec_le {c c' : CallFn} (hc : Le c c') {n m : Nat} (hnm : n ≤ m) : ∀ (ac : ACode) {f : Fr} {h : AHeap} {r}, exec P I c n ac f h = some r → exec P I c' m ac f h = some r := by
  intro ac
  induction ac with
  | skip => intro f h r hr; exact hr
  | region ops =>
    intro f h r hr
    simp only [exec] at hr ⊢
    split at hr
    · rename_i f1 h1 hx; rw [runOps_le hc hx]; exact hr
    · cases hr
  | draw ops info k =>
    intro f h r hr
    have go : ∀ {ops : List AOper} {h0 : AHeap}, (match trace P I c ops f h0 with
        | some (es, f', h') => match chkAll P I c (h0 :: heapsOf info es) ops info es with
          | true => some (Ex.normal, f', h')
          | false => none
        | none => none) = some r → (match trace P I c' ops f h0 with
        | some (es, f', h') => match chkAll P I c' (h0 :: heapsOf info es) ops info es with
          | true => some (Ex.normal, f', h')
          | false => none
        | none => none) = some r := by
      intro ops h0 hr
      split at hr
      · rename_i es f1 h1 ht
        simp only [trace_le hc ht]
        split at hr
        · rename_i hk; rw [chkAll_le hc hk]; exact hr
        · cases hr
      · cases hr
    cases k with
    | zero => simp only [exec] at hr ⊢; exact go hr
    | succ k =>
      simp only [exec] at hr ⊢
      split at hr
      · exact go hr
      · cases hr
  | seq a b iha ihb =>
    intro f h r hr
    simp only [exec] at hr ⊢
    cases hx : exec P I c n a f h with
    | none => rw [hx] at hr; cases hr
    | some p =>
      obtain ⟨x, f1, h1⟩ := p
      rw [hx] at hr
      rw [iha hx]
      cases x with
      | normal => exact ihb hr
      | exit id => exact hr
      | ret => exact hr
  | cond o t e iht ihe =>
    intro f h r hr
    simp only [exec] at hr ⊢
    split at hr
    · exact iht hr
    · exact ihe hr
    · cases hr
  | block id a ih =>
    intro f h r hr
    simp only [exec] at hr ⊢
    cases hx : exec P I c n a f h with
    | none => rw [hx] at hr; cases hr
    | some p => rw [hx] at hr; rw [ih hx]; exact hr
  | loop a ih =>
    intro f h r hr
    simp only [exec] at hr ⊢
    exact iter_le (fun f h r h1 => ih h1) hnm hr
  | exit id => intro f h r hr; exact hr
  | ret => intro f h r hr; exact hr

theorem callF_le {F : Nat → Option AFn} : ∀ {n m : Nat}, n ≤ m → Le (callF P I F n) (callF P I F m)
  | 0, _, _ => fun g args h r hr => by cases hr
  | n + 1, 0, hnm => by omega
  | n + 1, m + 1, hnm => fun g args h r hr => by
    simp only [callF, execK_eq] at hr ⊢
    split at hr
    · cases hr
    · exact hr
    · split at hr
      · cases hr
      · split at hr
        · cases hr
        · rename_i x f1 h1 hne hx
          rw [exec_le (callF_le (F := F) (show n ≤ m by omega)) (by omega) _ hx]
          cases x with
          | normal => exact hr
          | exit id => exact absurd rfl (hne id)
          | ret => exact hr
        · cases hr
end

/-! ### the rules -/
structure Cx where
  P : Program
  I : Inp
  F : Nat → Option AFn

/-- A call comes to an answer that .. -/
def Ev (C : Cx) (g : Nat) (args : List AVal) (h : AHeap) (R : AVal → AHeap → Prop) : Prop := ∃ n v h', callF C.P C.I C.F n g args h = some (v, h') ∧ R v h'
/-- Code comes to an end that .. -/
def Wp (C : Cx) (c : ACode) (Q : Ex → Fr → AHeap → Prop) (f : Fr) (h : AHeap) : Prop := ∃ n x f' h', exec C.P C.I (callF C.P C.I C.F n) n c f h = some (x, f', h') ∧ Q x f' h'
/-- Operations, one behind the other. -/
def Ops (C : Cx) : List AOper → (Fr → AHeap → Prop) → Fr → AHeap → Prop
  | [], K, f, h => K f h
  | o :: r, K, f, h => ∃ n v h', valOper C.P C.I (callF C.P C.I C.F n) o f h = some (v, h') ∧ Ops C r K (putDst o f v) h'

section
variable {C : Cx}

theorem Ev.mono {g : Nat} {args : List AVal} {h : AHeap} {R R' : AVal → AHeap → Prop} (he : Ev C g args h R) (hr : ∀ v h', R v h' → R' v h') : Ev C g args h R' :=
  let ⟨n, v, h', h1, h2⟩ := he; ⟨n, v, h', h1, hr _ _ h2⟩
theorem Wp.mono {c : ACode} {Q Q' : Ex → Fr → AHeap → Prop} {f : Fr} {h : AHeap} (he : Wp C c Q f h) (hr : ∀ x f' h', Q x f' h' → Q' x f' h') : Wp C c Q' f h :=
  let ⟨n, x, f', h', h1, h2⟩ := he; ⟨n, x, f', h', h1, hr _ _ _ h2⟩

/-- What holds behind the end 'normal', else what was asked. -/
def andThen (K : Fr → AHeap → Prop) (Q : Ex → Fr → AHeap → Prop) : Ex → Fr → AHeap → Prop
  | .normal, f, h => K f h
  | x, f, h => Q x f h

theorem Ops.run : ∀ {ops : List AOper} {K : Fr → AHeap → Prop} {f : Fr} {h : AHeap}, Ops C ops K f h → ∃ n f' h', runOps C.P C.I (callF C.P C.I C.F n) ops f h = some (f', h') ∧ K f' h'
  | [], K, f, h, hk => ⟨0, f, h, rfl, hk⟩
  | o :: r, K, f, h, hk => by
    obtain ⟨n, v, h1, hv, hk⟩ := hk
    obtain ⟨m, f', h', hr, hq⟩ := Ops.run hk
    refine ⟨n + m, f', h', ?_, hq⟩
    have h2 := valOper_le (callF_le (F := C.F) (show n ≤ n + m by omega)) hv
    simp only [runOps, runOper, h2]
    exact runOps_le (callF_le (by omega)) hr

theorem wp_region' {ops : List AOper} {Q : Ex → Fr → AHeap → Prop} {f : Fr} {h : AHeap} (hk : Ops C ops (Q .normal) f h) : Wp C (.region ops) Q f h := by
  obtain ⟨n, f', h', hr, hq⟩ := Ops.run hk
  exact ⟨n, .normal, f', h', by simp [exec, hr], hq⟩

theorem wp_seq' {a b : ACode} {Q : Ex → Fr → AHeap → Prop} {f : Fr} {h : AHeap} (hk : Wp C a (andThen (Wp C b Q) Q) f h) : Wp C (.seq a b) Q f h := by
  obtain ⟨n, x, f1, h1, hr, hq⟩ := hk
  cases x with
  | normal =>
    obtain ⟨m, y, f2, h2, hr2, hq2⟩ := hq
    refine ⟨n + m, y, f2, h2, ?_, hq2⟩
    simp only [exec, exec_le (callF_le (F := C.F) (show n ≤ n + m by omega)) (show n ≤ n + m by omega) _ hr]
    exact exec_le (callF_le (by omega)) (by omega) _ hr2
  | exit id => exact ⟨n, .exit id, f1, h1, by simp [exec, hr], hq⟩
  | ret => exact ⟨n, .ret, f1, h1, by simp [exec, hr], hq⟩

theorem wp_skip' {Q : Ex → Fr → AHeap → Prop} {f : Fr} {h : AHeap} (hk : Q .normal f h) : Wp C .skip Q f h := ⟨0, _, _, _, rfl, hk⟩
theorem wp_ret' {Q : Ex → Fr → AHeap → Prop} {f : Fr} {h : AHeap} (hk : Q .ret f h) : Wp C .ret Q f h := ⟨0, _, _, _, rfl, hk⟩
theorem wp_exit' {id : Nat} {Q : Ex → Fr → AHeap → Prop} {f : Fr} {h : AHeap} (hk : Q (.exit id) f h) : Wp C (.exit id) Q f h := ⟨0, _, _, _, rfl, hk⟩

theorem wp_cond' {c : AOpd} {t e : ACode} {Q : Ex → Fr → AHeap → Prop} {f : Fr} {h : AHeap} {b : Bool} (hc : c.ev f = .bool b) (ht : b = true → Wp C t Q f h) (he : b = false → Wp C e Q f h) : Wp C (.cond c t e) Q f h := by
  cases b with
  | true =>
    obtain ⟨n, x, f1, h1, hr, hq⟩ := ht rfl
    exact ⟨n, x, f1, h1, by simp [exec, hc, hr], hq⟩
  | false =>
    obtain ⟨n, x, f1, h1, hr, hq⟩ := he rfl
    exact ⟨n, x, f1, h1, by simp [exec, hc, hr], hq⟩

/-- Out of a block. -/
def inBlk (id : Nat) (Q : Ex → Fr → AHeap → Prop) : Ex → Fr → AHeap → Prop
  | .exit i, f, h => if i = id then Q .normal f h else Q (.exit i) f h
  | x, f, h => Q x f h

theorem wp_block' {id : Nat} {c : ACode} {Q : Ex → Fr → AHeap → Prop} {f : Fr} {h : AHeap} (hk : Wp C c (inBlk id Q) f h) : Wp C (.block id c) Q f h := by
  obtain ⟨n, x, f1, h1, hr, hq⟩ := hk
  cases x with
  | normal => exact ⟨n, .normal, f1, h1, by simp [exec, hr], hq⟩
  | exit i =>
    simp only [inBlk] at hq
    by_cases hi : i = id
    · rw [if_pos hi] at hq
      exact ⟨n, .normal, f1, h1, by simp [exec, hr, hi], hq⟩
    · rw [if_neg hi] at hq
      refine ⟨n, .exit i, f1, h1, ?_, hq⟩
      have : Nat.beq i id = false := by
        cases hb : Nat.beq i id with
        | false => rfl
        | true => exact absurd (by simpa using hb) hi
      simp [exec, hr, this]
  | ret => exact ⟨n, .ret, f1, h1, by simp [exec, hr], hq⟩

theorem wp_loop_once {c : ACode} {Q : Ex → Fr → AHeap → Prop} {f : Fr} {h : AHeap} (hk : Wp C c (andThen (Wp C (.loop c) Q) Q) f h) : Wp C (.loop c) Q f h := by
  obtain ⟨n, x, f1, h1, hr, hq⟩ := hk
  cases x with
  | normal =>
    obtain ⟨m, y, f2, h2, hr2, hq2⟩ := hq
    refine ⟨n + m + 1, y, f2, h2, ?_, hq2⟩
    simp only [exec, iter]
    rw [exec_le (callF_le (F := C.F) (show n ≤ n + m + 1 by omega)) (show n ≤ n + m + 1 by omega) _ hr]
    simp only [exec] at hr2
    exact iter_le (fun f h r h1 => exec_le (callF_le (show m ≤ n + m + 1 by omega)) (by omega) c h1) (show m ≤ n + m by omega) hr2
  | exit id =>
    refine ⟨n + 1, .exit id, f1, h1, ?_, hq⟩
    simp only [exec, iter]
    rw [exec_le (callF_le (F := C.F) (show n ≤ n + 1 by omega)) (show n ≤ n + 1 by omega) _ hr]
  | ret =>
    refine ⟨n + 1, .ret, f1, h1, ?_, hq⟩
    simp only [exec, iter]
    rw [exec_le (callF_le (F := C.F) (show n ≤ n + 1 by omega)) (show n ≤ n + 1 by omega) _ hr]

/-- A loop, by what holds at its head and a measure. -/
theorem wp_loop' {c : ACode} {Q : Ex → Fr → AHeap → Prop} (J : Nat → Fr → AHeap → Prop) (hround : ∀ k f h, J k f h → Wp C c (andThen (fun f' h' => ∃ k', k' < k ∧ J k' f' h') Q) f h) : ∀ (k : Nat) (f : Fr) (h : AHeap), J k f h → Wp C (.loop c) Q f h := by
  intro k
  induction k using Nat.strongRecOn with
  | _ k ih =>
    intro f h hj
    refine wp_loop_once (Wp.mono (hround k f h hj) fun x f' h' hx => ?_)
    cases x with
    | normal => obtain ⟨k', hlt, hj'⟩ := hx; exact ih k' hlt f' h' hj'
    | exit id => exact hx
    | ret => exact hx

/-! operations -/
theorem ops_nil {K : Fr → AHeap → Prop} {f : Fr} {h : AHeap} (hk : K f h) : Ops C [] K f h := hk
/-- An operation that is no call. -/
theorem ops_step {d : Option Nat} {op : AOp} {r : List AOper} {K : Fr → AHeap → Prop} {f : Fr} {h : AHeap} {v : AVal} {h' : AHeap} (ht : op.target C.P f = none) (hs : op.step C.P C.I f h = some (v, h'))
    (hk : Ops C r K (putDst ⟨d, op, none⟩ f v) h') : Ops C (⟨d, op, none⟩ :: r) K f h :=
  ⟨0, v, h', by simp [valOper, AOp.stepK_eq, ht, hs], hk⟩
theorem ops_skip {d : Option Nat} {op : AOp} {t : Nat} {want b : Bool} {r : List AOper} {K : Fr → AHeap → Prop} {f : Fr} {h : AHeap} (hg : f.get t = .bool b) (hb : (b == want) = false)
    (hk : Ops C r K (putDst ⟨d, op, some (t, want)⟩ f aundef) h) : Ops C (⟨d, op, some (t, want)⟩ :: r) K f h :=
  ⟨0, aundef, h, by simp [valOper, hg, hb], hk⟩
theorem ops_guard {d : Option Nat} {op : AOp} {t : Nat} {want b : Bool} {r : List AOper} {K : Fr → AHeap → Prop} {f : Fr} {h : AHeap} (hg : f.get t = .bool b) (hb : (b == want) = true)
    (hk : Ops C (⟨d, op, none⟩ :: r) K f h) : Ops C (⟨d, op, some (t, want)⟩ :: r) K f h := by
  obtain ⟨n, v, h', hv, hk⟩ := hk
  exact ⟨n, v, h', by simpa [valOper, hg, hb] using hv, hk⟩
/-- A call. -/
theorem ops_call {d : Option Nat} {op : AOp} {r : List AOper} {K : Fr → AHeap → Prop} {f : Fr} {h : AHeap} {g : Nat} {args : List AVal} (ht : op.target C.P f = some (g, args))
    (he : Ev C g args h fun v h' => Ops C r K (putDst ⟨d, op, none⟩ f v) h') : Ops C (⟨d, op, none⟩ :: r) K f h := by
  obtain ⟨n, v, h', hr, hk⟩ := he
  exact ⟨n, v, h', by simp [valOper, ht, hr], hk⟩

/-- A function. -/
theorem ev_of_wp {g : Nat} {fn : AFunc} {args : List AVal} {h : AHeap} {R : AVal → AHeap → Prop} (hF : C.F g = some (.code fn)) (hl : Nat.ble args.length fn.ntmps = true)
    (hw : Wp C fn.body (fun x f h' => (∀ id, x ≠ .exit id) ∧ ∃ vs, ressOf C.I f h' fn.results = some vs ∧ R (oneOrTuple vs) h') (putArgs 0 args .nil) h) : Ev C g args h R := by
  obtain ⟨n, x, f1, h1, hr, hne, vs, hvs, hq⟩ := hw
  refine ⟨n + 1, oneOrTuple vs, h1, ?_, hq⟩
  simp only [callF, execK_eq, hF, hl, hr]
  cases x with
  | normal => simp [hvs]
  | exit id => exact absurd rfl (hne id)
  | ret => simp [hvs]

theorem ev_prim {g : Nat} {p : Prim} {args : List AVal} {h : AHeap} {R : AVal → AHeap → Prop} {v : AVal} {h' : AHeap} (hF : C.F g = some (.prim p)) (hp : p args h = some (v, h')) (hr : R v h') : Ev C g args h R :=
  ⟨1, v, h', by simp [callF, hF, hp], hr⟩
end

end

end Go.AM

/- AM, part 23: operations on values (no frame), code in continuation style with labels at its loops and joins; what it computes the abstract machine computes. Conditions: as each lemma says. -/
namespace Go.AM
noncomputable section
open Go.RowKit

abbrev Rs := Option (AVal × AHeap)
/-- A frame, as a function. -/
abbrev Fun := Nat → AVal
def Fun.put (ρ : Fun) (d : Nat) (v : AVal) : Fun := fun n => Bool.rec (motive := fun _ => AVal) (ρ n) v (Nat.beq n d)
def AOpd.evV (ρ : Fun) : AOpd → AVal
  | .tmp t => ρ t
  | .val v => v


/-! ### quick lists: the kernel reduces recursors quickest -/
section
variable {α : Type}
def nthK (l : List α) : Nat → Option α :=
  List.rec (motive := fun _ => Nat → Option α) (fun _ => none) (fun a _ ih n => Nat.rec (motive := fun _ => Option α) (some a) (fun m _ => ih m) n) l
theorem nthK_eq : ∀ (l : List α) (n : Nat), nthK l n = l[n]?
  | [], _ => rfl
  | _ :: _, 0 => rfl
  | _ :: l, n + 1 => (nthK_eq l n).trans (by simp)
def someCons (a : α) (r : Option (List α)) : Option (List α) := Option.rec (motive := fun _ => Option (List α)) none (fun t => some (a :: t)) r
def takeK (n : Nat) : List α → Option (List α) :=
  Nat.rec (motive := fun _ => List α → Option (List α)) (fun _ => some []) (fun _ ih l => List.rec (motive := fun _ => Option (List α)) none (fun a r _ => someCons a (ih r)) l) n
def cutK (o n : Nat) : List α → Option (List α) :=
  Nat.rec (motive := fun _ => List α → Option (List α)) (fun l => takeK n l) (fun _ ih l => List.rec (motive := fun _ => Option (List α)) none (fun _ r _ => ih r) l) o
theorem takeK_eq : ∀ (n : Nat) (l : List α), takeK n l = match Nat.ble n l.length with | true => some (l.take n) | false => none
  | 0, l => by cases l <;> rfl
  | n + 1, [] => rfl
  | n + 1, a :: l => by
    show someCons a (takeK n l) = _
    rw [takeK_eq n l]
    have : Nat.ble (n + 1) (a :: l).length = Nat.ble n l.length := rfl
    rw [this]
    cases Nat.ble n l.length <;> rfl
theorem cutK_eq : ∀ (o n : Nat) (l : List α), cutK o n l = match Nat.ble (o + n) l.length with | true => some ((l.drop o).take n) | false => none
  | 0, n, l => by
    show takeK n l = _
    rw [takeK_eq, Nat.zero_add]; rfl
  | o + 1, n, [] => by
    show none = _
    rw [show o + 1 + n = (o + n) + 1 by omega]; rfl
  | o + 1, n, a :: l => by
    show cutK o n l = _
    rw [cutK_eq o n l, show o + 1 + n = (o + n) + 1 by omega]
    rfl
def overK (xs : List α) : List α → Option (List α) :=
  List.rec (motive := fun _ => List α → Option (List α)) (fun l => some l) (fun x _ ih l => List.rec (motive := fun _ => Option (List α)) none (fun _ r _ => someCons x (ih r)) l) xs
def setK (o : Nat) (xs : List α) : List α → Option (List α) :=
  Nat.rec (motive := fun _ => List α → Option (List α)) (fun l => overK xs l) (fun _ ih l => List.rec (motive := fun _ => Option (List α)) none (fun a r _ => someCons a (ih r)) l) o
theorem overK_eq : ∀ (xs l : List α), overK xs l = match Nat.ble xs.length l.length with | true => some (xs ++ l.drop xs.length) | false => none
  | [], l => by cases l <;> rfl
  | x :: xs, [] => rfl
  | x :: xs, a :: l => by
    show someCons x (overK xs l) = _
    rw [overK_eq xs l]
    have : Nat.ble (x :: xs).length (a :: l).length = Nat.ble xs.length l.length := rfl
    rw [this]
    cases Nat.ble xs.length l.length <;> rfl
theorem setK_eq : ∀ (o : Nat) (xs l : List α), setK o xs l = match Nat.ble (o + xs.length) l.length with | true => some (setR l o xs) | false => none
  | 0, xs, l => by
    show overK xs l = _
    rw [overK_eq, Nat.zero_add]
    cases Nat.ble xs.length l.length <;> simp [setR]
  | o + 1, xs, [] => by
    show none = _
    rw [show o + 1 + xs.length = (o + xs.length) + 1 by omega]; rfl
  | o + 1, xs, a :: l => by
    show someCons a (setK o xs l) = _
    rw [setK_eq o xs l, show o + 1 + xs.length = (o + xs.length) + 1 by omega]
    have : Nat.ble (o + xs.length + 1) (a :: l).length = Nat.ble (o + xs.length) l.length := rfl
    rw [this]
    cases Nat.ble (o + xs.length) l.length
    · rfl
    · show some (a :: setR l o xs) = some (setR (a :: l) (o + 1) xs)
      simp [setR, show o + 1 + xs.length = (o + xs.length) + 1 by omega]
def appK (xs ys : List α) : List α := List.rec (motive := fun _ => List α) ys (fun a _ ih => a :: ih) xs
theorem appK_eq : ∀ (xs ys : List α), appK xs ys = xs ++ ys
  | [], _ => rfl
  | x :: xs, ys => congrArg (x :: ·) (appK_eq xs ys)
def allK (p : α → Bool) (l : List α) : Bool := List.rec (motive := fun _ => Bool) true (fun a _ ih => Bool.rec (motive := fun _ => Bool) false ih (p a)) l
theorem allK_eq (p : α → Bool) : ∀ (l : List α), allK p l = l.all p
  | [] => rfl
  | a :: l => by
    show Bool.rec (motive := fun _ => Bool) false (allK p l) (p a) = _
    rw [allK_eq p l, List.all_cons]
    cases p a <;> rfl
def lenK (l : List α) : Nat := List.rec (motive := fun _ => Nat) 0 (fun _ _ ih => Nat.succ ih) l
theorem lenK_eq : ∀ (l : List α), lenK l = l.length
  | [] => rfl
  | _ :: l => congrArg Nat.succ (lenK_eq l)
end

def rdK (I : Inp) (h : AHeap) (l : Loc) (o : Nat) : Option AVal :=
  Loc.rec (motive := fun _ => Option AVal) (fun b => I b o) (fun k => Option.rec (motive := fun _ => Option AVal) none (fun b => nthK b.cells o) (h.get k)) l
theorem rdK_eq (I : Inp) (h : AHeap) (l : Loc) (o : Nat) : rdK I h l o = rd I h l o := by
  cases l with
  | inp b => rfl
  | own k =>
    show Option.rec (motive := fun _ => Option AVal) none (fun b => nthK b.cells o) (h.get k) = _
    simp only [rd]
    cases h.get k with
    | none => rfl
    | some b => exact nthK_eq _ _
def rdsK (I : Inp) (h : AHeap) (l : Loc) (o n : Nat) : Option (List AVal) :=
  Loc.rec (motive := fun _ => Option (List AVal)) (fun b => rdsInp I b o n) (fun k => Option.rec (motive := fun _ => Option (List AVal)) none (fun b => cutK o n b.cells) (h.get k)) l
theorem rdsK_eq (I : Inp) (h : AHeap) (l : Loc) (o n : Nat) : rdsK I h l o n = rds I h l o n := by
  cases l with
  | inp b => rfl
  | own k =>
    show Option.rec (motive := fun _ => Option (List AVal)) none (fun b => cutK o n b.cells) (h.get k) = _
    simp only [rds]
    cases h.get k with
    | none => rfl
    | some b => exact cutK_eq _ _ _
def Blk.wrK (b : Blk) (o : Nat) (cs : List AVal) : Option Blk :=
  Bool.rec (motive := fun _ => Option Blk) none (Option.rec (motive := fun _ => Option Blk) none (fun l => some ⟨l, b.plain⟩) (setK o cs b.cells)) (allK AVal.one cs)
theorem Blk.wrK_eq (b : Blk) (o : Nat) (cs : List AVal) : b.wrK o cs = b.wr o cs := by
  unfold Blk.wrK Blk.wr
  rw [allK_eq, setK_eq]
  cases hx : cs.all AVal.one <;> cases hy : Nat.ble (o + cs.length) b.cells.length <;> rfl

def appendK (I : Inp) (h : AHeap) (sz bytes : Nat) (x y : AVal) : Option (AVal × AHeap) :=
  match (match y with
    | .nils => some (0, [])
    | .sl l o len _ => match rdsK I h l o (len * sz) with
      | some cs => some (len, cs)
      | none => none
    | .str s => match Nat.beq sz 1 with
      | true => some (s.length, s.map fun b : Nat => .int .u8 (.ofNat b))
      | false => none
    | _ => none) with
  | none => none
  | some (n, news) =>
    match n with
    | 0 => match x with
      | .nils | .sl _ _ _ _ => some (x, h)
      | _ => none
    | n + 1 =>
      match allK AVal.one news with
      | false => none
      | true =>
      match x with
      | .nils => match h.room && Nat.ble ((n + 1) * bytes) bigRoom && Nat.ble (n + 1) bigRoom with
        | true => some (.sl (.own h.next) 0 (n + 1) (.grown sz), h.alloc ⟨news, true⟩)
        | false => none
      | .sl l o len cap =>
        match Nat.ble ((len + (n + 1)) * bytes) bigRoom && Nat.ble (len + (n + 1)) bigRoom with
        | false => none
        | true =>
        match cap with
        | .known c => match Nat.ble (len + (n + 1)) c with
          | true => match l with
            | .own k => match h.get k with
              | some b => match b.wrK (o + len * sz) news with
                | some b' => some (.sl l o (len + (n + 1)) cap, h.set k b')
                | none => none
              | none => none
            | .inp _ => none
          | false => match rdsK I h l o (len * sz), h.room with
            | some olds, true => match allK AVal.one olds with
              | true => some (.sl (.own h.next) 0 (len + (n + 1)) (.grown sz), h.alloc ⟨appK olds news, true⟩)
              | false => none
            | _, _ => none
        | .grown s => match l with
          | .inp _ => none
          | .own k => match h.get k with
            | none => none
            | some b => match Nat.beq s sz && Nat.ble (o + len * sz) (lenK b.cells) with
              | false => none
              | true => match Nat.ble (o + len * sz + lenK news) (lenK b.cells) with
                | true => match b.wrK (o + len * sz) news with
                  | some b' => some (.sl l o (len + (n + 1)) cap, h.set k b')
                  | none => none
                | false => match h.room && allK AVal.one ((b.cells.drop o).take (len * sz)) with
                  | true => some (.sl (.own h.next) 0 (len + (n + 1)) (.grown sz), (h.kill k).alloc ⟨appK ((b.cells.drop o).take (len * sz)) news, b.plain⟩)
                  | false => none
      | _ => none
theorem appendK_eq (I : Inp) (h : AHeap) (sz bytes : Nat) (x y : AVal) : appendK I h sz bytes x y = appendTo I h sz bytes x y := by
  unfold appendK appendTo srcCells
  simp only [rdsK_eq, allK_eq, appK_eq, lenK_eq, Blk.wrK_eq]
  rfl

def fillV : List AVal → List (Nat × Nat × AVal) → Option (List AVal)
  | cs, [] => some cs
  | cs, (off, sz, x) :: r =>
    match Nat.beq (lenK x.cells) sz with
    | true => Option.rec (motive := fun _ => Option (List AVal)) none (fun cs => fillV cs r) (setK off x.cells cs)
    | false => none

def optNatV (d : Nat) : Option AVal → Option Nat
  | none => some d
  | some x => asNat x

def sliceV (sz : Nat) (x : AVal) (lo hi mx : Option AVal) : Option AVal :=
  match x with
  | .nils => match optNatV 0 lo, optNatV 0 hi, optNatV 0 mx, mx.isNone || hi.isSome with
    | some 0, some 0, some 0, true => some .nils
    | _, _, _, _ => none
  | .sl l o len cap =>
    match optNatV 0 lo, optNatV len hi with
    | some a, some b =>
      match mx with
      | none => match Nat.ble a b && capHas cap sz len b with
        | true => some (.sl l (o + a * sz) (b - a) (capMinus cap a))
        | false => none
      | some m => match asNat m, hi with
        | some m, some _ => match Nat.ble a b && Nat.ble b m && capHas cap sz len m with
          | true => some (.sl l (o + a * sz) (b - a) (.known (m - a)))
          | false => none
        | _, _ => none
    | _, _ => none
  | _ => none

def pPick (c a b : AVal) : Option AVal :=
  match c with
  | .bool true => some a
  | .bool false => some b
  | _ => none
def bnd (r : Rs) (k : AVal → AHeap → Rs) : Rs :=
  Option.rec (motive := fun _ => Rs) none (fun p => Prod.rec (motive := fun _ => Rs) (fun v h => k v h) p) r
def bndP (r : Option AVal) (k : AVal → Rs) : Rs := Option.rec (motive := fun _ => Rs) none (fun v => k v) r

/-- A value, the heap as it was. -/
def lift (r : Option AVal) (h : AHeap) : Rs := Option.rec (motive := fun _ => Rs) none (fun v => some (v, h)) r
def sAlloc (z : List AVal) (h : AHeap) : Rs :=
  match h.room with
  | true => some (.ptr (.own h.next) 0, h.alloc ⟨z, true⟩)
  | false => none
def sBox (x : AVal) (h : AHeap) : Rs :=
  match h.room with
  | true => some (.ptr (.own h.next) 0, h.alloc ⟨x.cells, true⟩)
  | false => none
def pBuild (z : List AVal) (ps : List (Nat × Nat × AVal)) : Option AVal :=
  match fillV z ps with
  | some cs => some (.agg cs)
  | none => none
def sBuildSlice (z : List AVal) (n : Nat) (ps : List (Nat × Nat × AVal)) (h : AHeap) : Rs :=
  match fillV (zeros z (n * z.length)) ps, h.room with
  | some cs, true => some (.sl (.own h.next) 0 n (.known n), h.alloc ⟨cs, true⟩)
  | _, _ => none
def pLoad1 (I : Inp) (a : AVal) (h : AHeap) : Option AVal :=
  match a with
  | .ptr l o => rdK I h l o
  | _ => none
def pLoadN (I : Inp) (n : Nat) (a : AVal) (h : AHeap) : Option AVal :=
  match a with
  | .ptr l o => match rdsK I h l o n with
    | some cs => some (.agg cs)
    | none => none
  | _ => none
def sStore (n : Nat) (a x : AVal) (h : AHeap) : Rs :=
  match a with
  | .ptr (.own k) o => match h.get k, Nat.beq (lenK x.cells) n with
    | some b, true => match b.wrK o x.cells with
      | some b' => some (aundef, h.set k b')
      | none => none
    | _, _ => none
  | _ => none
def pNilCheck (x : AVal) : Option AVal :=
  match x with
  | .ptr l o => some (.ptr l o)
  | .sl l o n c => some (.sl l o n c)
  | .func (.func g) a b => some (.func (.func g) a b)
  | _ => none
def pBin (op : BinOp) (x y : AVal) : Option AVal := abin op x y
def pEq (P : Program) (neg : Bool) (ek : EqK) (c : Bool) (x y : AVal) (h : AHeap) : Option AVal :=
  match aeq P h ek c x y with
  | some b => some (.bool (if neg then !b else b))
  | none => none
def pUn (op : UnOp) (x : AVal) : Option AVal := aun op x
def pToInt (k : IntKind) (x : AVal) : Option AVal :=
  match x with
  | .int _ n => some (.int k (k.wrap n))
  | _ => none
def sToBytes (x : AVal) (h : AHeap) : Rs :=
  match x, h.room && fitsS x with
  | .str s, true => some (.sl (.own h.next) 0 s.length (.grown 1), h.alloc ⟨s.map fun b : Nat => .int .u8 (.ofNat b), false⟩)
  | _, _ => none
def byteOf : AVal → Option Nat
  | .int .u8 (.ofNat b) => (match Nat.blt b 256 with | true => some b | false => none)
  | _ => none
def pToStr (I : Inp) (x : AVal) (h : AHeap) : Option AVal :=
  match x with
  | .nils => some (.str [])
  | .sl l o n _ => match rdsK I h l o n with
    | some cs => match cs.mapM (m := Option) byteOf with
      | some bs => some (.str bs)
      | none => none
    | none => none
  | _ => none
def pAsStr (x : AVal) : Option AVal :=
  match x with
  | .str s => some (.str s)
  | _ => none
def sMakeSlice (z : List AVal) (bytes : Nat) (l c : AVal) (h : AHeap) : Rs :=
  match asNat l, asNat c, h.room with
  | some l, some c, true => match Nat.ble l c && Nat.ble (bytes * c) 140737488355328 && Nat.ble c 140737488355328 with
    | true => some (.sl (.own h.next) 0 l (.known c), h.alloc ⟨zeros z (c * z.length), true⟩)
    | false => none
  | _, _, _ => none
def sResvAlloc (k : Nat) (z : List AVal) (h : AHeap) : Rs := some (.ptr (.own k) 0, h.set k ⟨z, true⟩)
def sResvBox (k : Nat) (x : AVal) (h : AHeap) : Rs := some (.ptr (.own k) 0, h.set k ⟨x.cells, true⟩)
def sResvSlice (k : Nat) (z : List AVal) (n : Nat) (ps : List (Nat × Nat × AVal)) (h : AHeap) : Rs :=
  match fillV (zeros z (n * z.length)) ps with
  | some cs => some (.sl (.own k) 0 n (.known n), h.set k ⟨cs, true⟩)
  | none => none
def sResvMake (k : Nat) (z : List AVal) (bytes : Nat) (l c : AVal) (h : AHeap) : Rs :=
  match asNat l, asNat c with
  | some l, some c => match Nat.ble l c && Nat.ble (bytes * c) 140737488355328 && Nat.ble c 140737488355328 with
    | true => some (.sl (.own k) 0 l (.known c), h.set k ⟨zeros z (c * z.length), true⟩)
    | false => none
  | _, _ => none
def sResvMap (k : Nat) (h : AHeap) : Rs := some (.map k, h.set k ⟨[.int .i64 0], true⟩)
def pSliceS (sz : Nat) (x : AVal) (lo hi mx : Option AVal) : Option AVal := sliceV sz x lo hi mx
def pSliceStr (x : AVal) (lo hi : Option AVal) : Option AVal :=
  match x with
  | .str s => match optNatV 0 lo, optNatV s.length hi with
    | some a, some b => match Nat.ble a b && Nat.ble b s.length with
      | true => some (.str ((s.drop a).take (b - a)))
      | false => none
    | _, _ => none
  | _ => none
def pSliceArr (n sz : Nat) (x : AVal) (lo hi mx : Option AVal) : Option AVal :=
  match x with
  | .ptr l o => match sliceV sz (.sl l o n (.known n)) lo hi mx with
    | some v => some v
    | none => none
  | _ => none
def pFieldAddr (off : Nat) (x : AVal) : Option AVal :=
  match x with
  | .ptr l o => some (.ptr l (o + off))
  | _ => none
def pField1 (off : Nat) (x : AVal) : Option AVal :=
  match x with
  | .agg cs => nthK cs off
  | _ => none
def pFieldN (off n : Nat) (x : AVal) : Option AVal :=
  match x with
  | .agg cs => match cutK off n cs with
    | some l => some (.agg l)
    | none => none
  | _ => none
def pIndexAddr (sz : Nat) (x i : AVal) : Option AVal :=
  match x, asNat i with
  | .sl l o n _, some j => match Nat.blt j n with
    | true => some (.ptr l (o + j * sz))
    | false => none
  | _, _ => none
def pIndexAddrArr (n sz : Nat) (x i : AVal) : Option AVal :=
  match x, asNat i with
  | .ptr l o, some j => match Nat.blt j n with
    | true => some (.ptr l (o + j * sz))
    | false => none
  | _, _ => none
def pIndexStr (x i : AVal) : Option AVal :=
  match x, asNat i with
  | .str s, some j => match nthK s j with
    | some b => some (.int .u8 b)
    | none => none
  | _, _ => none
def pIndex1 (n : Nat) (x i : AVal) : Option AVal :=
  match x, asNat i with
  | .agg cs, some j => match nthK cs j, Nat.blt j n with
    | some v, true => some v
    | _, _ => none
  | _, _ => none
def pIndexN (n sz : Nat) (x i : AVal) : Option AVal :=
  match x, asNat i with
  | .agg cs, some j => match Nat.blt j n && Nat.ble (j * sz + sz) cs.length with
    | true => some (.agg ((cs.drop (j * sz)).take sz))
    | _ => none
  | _, _ => none
def pExtract (x : AVal) (i : Nat) : Option AVal :=
  match x with
  | .tuple vs => nthK vs i
  | _ => none
def pAssertI (P : Program) (t : TypeId) (z : AVal) (ok : Bool) (x : AVal) : Option AVal :=
  match x with
  | .nili => if ok then some (.tuple [z, .bool false]) else none
  | .iface u v => match implB P t u with
    | some true => some (if ok then .tuple [.iface u v, .bool true] else .iface u v)
    | some false => if ok then some (.tuple [z, .bool false]) else none
    | none => none
  | _ => none
def pAssertT (t : TypeId) (z : AVal) (ok : Bool) (x : AVal) : Option AVal :=
  match x with
  | .nili => if ok then some (.tuple [z, .bool false]) else none
  | .iface u v => if u = t then some (if ok then .tuple [v, .bool true] else v) else if ok then some (.tuple [z, .bool false]) else none
  | _ => none
def pLenStr (x : AVal) : Option AVal :=
  match x with
  | .str s => some (.int .i64 s.length)
  | _ => none
def pLenSl (x : AVal) : Option AVal :=
  match x with
  | .nils => some (.int .i64 0)
  | .sl _ _ n _ => some (.int .i64 n)
  | _ => none
def pMinmax (mx : Bool) (xs : List AVal) : Option AVal :=
  match xs with
  | AVal.int k a :: r => match minInts mx k a r with
    | some v => some v
    | none => none
  | _ => none
def sAppend (I : Inp) (sz bytes : Nat) (x y : AVal) (h : AHeap) : Rs := appendK I h sz bytes x y

/-! the function that a call enters -/
def sCallv (call : CallFn) (x : AVal) (args : List AVal) (h : AHeap) : Rs :=
  match x with
  | .func (.func g) first captured => call g (first ++ args ++ captured) h
  | _ => none
def sInvoke (P : Program) (call : CallFn) (x : AVal) (name : String) (args : List AVal) (h : AHeap) : Rs :=
  match x with
  | .iface t v => match methodOf P t name, v with
    | some g, .nilp => call g (v :: args) h
    | some g, .ptr _ _ => call g (v :: args) h
    | _, _ => none
  | _ => none

section
variable (P : Program) (I : Inp) (call : CallFn)

def evs (ρ : Fun) (xs : List AOpd) : List AVal := xs.map (AOpd.evV ρ)
def evPs (ρ : Fun) (ps : List (Nat × Nat × AOpd)) : List (Nat × Nat × AVal) := ps.map fun p => (p.1, p.2.1, p.2.2.evV ρ)

def MOp.stepV (ρ : Fun) (k : Nat) (h : AHeap) : MOp → Rs
  | .alloc z => sResvAlloc k z h
  | .box x => sResvBox k (x.evV ρ) h
  | .buildSlice z n ps => sResvSlice k z n (evPs ρ ps) h
  | .makeSlice z bytes l c => sResvMake k z bytes (l.evV ρ) (c.evV ρ) h
  | .mapNew => sResvMap k h

/-- An operation, calls too. -/
def AOp.runV (ρ : Fun) (h : AHeap) : AOp → Rs
  | .move x => some (x.evV ρ, h)
  | .pick c a b => lift (pPick (c.evV ρ) (a.evV ρ) (b.evV ρ)) h
  | .alloc z => sAlloc z h
  | .box x => sBox (x.evV ρ) h
  | .build z ps => lift (pBuild z (evPs ρ ps)) h
  | .buildSlice z n ps => sBuildSlice z n (evPs ρ ps) h
  | .load1 a => lift (pLoad1 I (a.evV ρ) h) h
  | .loadN n a => lift (pLoadN I n (a.evV ρ) h) h
  | .store n a x => sStore n (a.evV ρ) (x.evV ρ) h
  | .nilCheck x => lift (pNilCheck (x.evV ρ)) h
  | .bin op x y => lift (pBin op (x.evV ρ) (y.evV ρ)) h
  | .eq neg ek c x y => lift (pEq P neg ek c (x.evV ρ) (y.evV ρ) h) h
  | .un op x => lift (pUn op (x.evV ρ)) h
  | .toInt k x => lift (pToInt k (x.evV ρ)) h
  | .toBytes x => sToBytes (x.evV ρ) h
  | .toStr x => lift (pToStr I (x.evV ρ) h) h
  | .asStr x => lift (pAsStr (x.evV ρ)) h
  | .iface t x => some (.iface t (x.evV ρ), h)
  | .mkFunc fn a b => some (.func fn (evs ρ a) (evs ρ b), h)
  | .makeSlice z bytes l c => sMakeSlice z bytes (l.evV ρ) (c.evV ρ) h
  | .resv k m => m.stepV ρ k h
  | .sliceS sz x lo hi mx => lift (pSliceS sz (x.evV ρ) (lo.map (AOpd.evV ρ)) (hi.map (AOpd.evV ρ)) (mx.map (AOpd.evV ρ))) h
  | .sliceStr x lo hi => lift (pSliceStr (x.evV ρ) (lo.map (AOpd.evV ρ)) (hi.map (AOpd.evV ρ))) h
  | .sliceArr n sz x lo hi mx => lift (pSliceArr n sz (x.evV ρ) (lo.map (AOpd.evV ρ)) (hi.map (AOpd.evV ρ)) (mx.map (AOpd.evV ρ))) h
  | .fieldAddr off x => lift (pFieldAddr off (x.evV ρ)) h
  | .field1 off x => lift (pField1 off (x.evV ρ)) h
  | .fieldN off n x => lift (pFieldN off n (x.evV ρ)) h
  | .indexAddr sz x i => lift (pIndexAddr sz (x.evV ρ) (i.evV ρ)) h
  | .indexAddrArr n sz x i => lift (pIndexAddrArr n sz (x.evV ρ) (i.evV ρ)) h
  | .indexStr x i => lift (pIndexStr (x.evV ρ) (i.evV ρ)) h
  | .index1 n x i => lift (pIndex1 n (x.evV ρ) (i.evV ρ)) h
  | .indexN n sz x i => lift (pIndexN n sz (x.evV ρ) (i.evV ρ)) h
  | .extract x i => lift (pExtract (x.evV ρ) i) h
  | .assertI t z ok x => lift (pAssertI P t z ok (x.evV ρ)) h
  | .assertT t z ok x => lift (pAssertT t z ok (x.evV ρ)) h
  | .lenStr x => lift (pLenStr (x.evV ρ)) h
  | .lenSl x => lift (pLenSl (x.evV ρ)) h
  | .minmax mx xs => lift (pMinmax mx (evs ρ xs)) h
  | .append sz bytes x y => sAppend I sz bytes (x.evV ρ) (y.evV ρ) h
  | .mapNew => mapNewV h
  | .mapGet kk z ok m k => lift (mapGetV kk z ok (m.evV ρ) (k.evV ρ) h) h
  | .mapPut kk m k x => mapPutV kk (m.evV ρ) (k.evV ρ) (x.evV ρ) h
  | .mapEnt kk z m k => mapEntV kk z (m.evV ρ) (k.evV ρ) h
  | .entPut m k x => entPutV (m.evV ρ) (k.evV ρ) (x.evV ρ) h
  | .capS x => lift (capV (x.evV ρ)) h
  | .appZ sz bytes z x n => appZV sz bytes z (x.evV ρ) (n.evV ρ) h
  | .stuck => none
  | .mapDel kk m k => mapDelV kk (m.evV ρ) (k.evV ρ) h
  | .lenMap m => lift (lenMapV (m.evV ρ) h) h
  | .clearS z x => clearV z (x.evV ρ) h
  | .rangeM m => rangeV (m.evV ρ) h
  | .nextM m => nextV (m.evV ρ) h
  | .entryM m => lift (entryMV (m.evV ρ) h) h
  | .call g args => call g (evs ρ args) h
  | .callv x args => sCallv call (x.evV ρ) (evs ρ args) h
  | .invoke x name args => sInvoke P call (x.evV ρ) name (evs ρ args) h

/-- The same, with what follows. -/
def AOp.bindV (ρ : Fun) (h : AHeap) (kk : AVal → AHeap → Rs) : AOp → Rs
  | .move x => kk (x.evV ρ) h
  | .pick c a b => bndP (pPick (c.evV ρ) (a.evV ρ) (b.evV ρ)) fun v => kk v h
  | .alloc z => bnd (sAlloc z h) kk
  | .box x => bnd (sBox (x.evV ρ) h) kk
  | .build z ps => bndP (pBuild z (evPs ρ ps)) fun v => kk v h
  | .buildSlice z n ps => bnd (sBuildSlice z n (evPs ρ ps) h) kk
  | .load1 a => bndP (pLoad1 I (a.evV ρ) h) fun v => kk v h
  | .loadN n a => bndP (pLoadN I n (a.evV ρ) h) fun v => kk v h
  | .store n a x => bnd (sStore n (a.evV ρ) (x.evV ρ) h) kk
  | .nilCheck x => bndP (pNilCheck (x.evV ρ)) fun v => kk v h
  | .bin op x y => bndP (pBin op (x.evV ρ) (y.evV ρ)) fun v => kk v h
  | .eq neg ek c x y => bndP (pEq P neg ek c (x.evV ρ) (y.evV ρ) h) fun v => kk v h
  | .un op x => bndP (pUn op (x.evV ρ)) fun v => kk v h
  | .toInt k x => bndP (pToInt k (x.evV ρ)) fun v => kk v h
  | .toBytes x => bnd (sToBytes (x.evV ρ) h) kk
  | .toStr x => bndP (pToStr I (x.evV ρ) h) fun v => kk v h
  | .asStr x => bndP (pAsStr (x.evV ρ)) fun v => kk v h
  | .iface t x => kk (.iface t (x.evV ρ)) h
  | .mkFunc fn a b => kk (.func fn (evs ρ a) (evs ρ b)) h
  | .makeSlice z bytes l c => bnd (sMakeSlice z bytes (l.evV ρ) (c.evV ρ) h) kk
  | .resv k m => bnd (m.stepV ρ k h) kk
  | .sliceS sz x lo hi mx => bndP (pSliceS sz (x.evV ρ) (lo.map (AOpd.evV ρ)) (hi.map (AOpd.evV ρ)) (mx.map (AOpd.evV ρ))) fun v => kk v h
  | .sliceStr x lo hi => bndP (pSliceStr (x.evV ρ) (lo.map (AOpd.evV ρ)) (hi.map (AOpd.evV ρ))) fun v => kk v h
  | .sliceArr n sz x lo hi mx => bndP (pSliceArr n sz (x.evV ρ) (lo.map (AOpd.evV ρ)) (hi.map (AOpd.evV ρ)) (mx.map (AOpd.evV ρ))) fun v => kk v h
  | .fieldAddr off x => bndP (pFieldAddr off (x.evV ρ)) fun v => kk v h
  | .field1 off x => bndP (pField1 off (x.evV ρ)) fun v => kk v h
  | .fieldN off n x => bndP (pFieldN off n (x.evV ρ)) fun v => kk v h
  | .indexAddr sz x i => bndP (pIndexAddr sz (x.evV ρ) (i.evV ρ)) fun v => kk v h
  | .indexAddrArr n sz x i => bndP (pIndexAddrArr n sz (x.evV ρ) (i.evV ρ)) fun v => kk v h
  | .indexStr x i => bndP (pIndexStr (x.evV ρ) (i.evV ρ)) fun v => kk v h
  | .index1 n x i => bndP (pIndex1 n (x.evV ρ) (i.evV ρ)) fun v => kk v h
  | .indexN n sz x i => bndP (pIndexN n sz (x.evV ρ) (i.evV ρ)) fun v => kk v h
  | .extract x i => bndP (pExtract (x.evV ρ) i) fun v => kk v h
  | .assertI t z ok x => bndP (pAssertI P t z ok (x.evV ρ)) fun v => kk v h
  | .assertT t z ok x => bndP (pAssertT t z ok (x.evV ρ)) fun v => kk v h
  | .lenStr x => bndP (pLenStr (x.evV ρ)) fun v => kk v h
  | .lenSl x => bndP (pLenSl (x.evV ρ)) fun v => kk v h
  | .minmax mx xs => bndP (pMinmax mx (evs ρ xs)) fun v => kk v h
  | .append sz bytes x y => bnd (sAppend I sz bytes (x.evV ρ) (y.evV ρ) h) kk
  | .mapNew => bnd (mapNewV h) kk
  | .mapGet q z ok m k => bndP (mapGetV q z ok (m.evV ρ) (k.evV ρ) h) fun v => kk v h
  | .mapPut q m k x => bnd (mapPutV q (m.evV ρ) (k.evV ρ) (x.evV ρ) h) kk
  | .mapEnt q z m k => bnd (mapEntV q z (m.evV ρ) (k.evV ρ) h) kk
  | .entPut m k x => bnd (entPutV (m.evV ρ) (k.evV ρ) (x.evV ρ) h) kk
  | .capS x => bndP (capV (x.evV ρ)) fun v => kk v h
  | .appZ sz bytes z x n => bnd (appZV sz bytes z (x.evV ρ) (n.evV ρ) h) kk
  | .stuck => none
  | .mapDel q m k => bnd (mapDelV q (m.evV ρ) (k.evV ρ) h) kk
  | .lenMap m => bndP (lenMapV (m.evV ρ) h) fun v => kk v h
  | .clearS z x => bnd (clearV z (x.evV ρ) h) kk
  | .rangeM m => bnd (rangeV (m.evV ρ) h) kk
  | .nextM m => bnd (nextV (m.evV ρ) h) kk
  | .entryM m => bndP (entryMV (m.evV ρ) h) fun v => kk v h
  | .call g args => bnd (call g (evs ρ args) h) kk
  | .callv x args => bnd (sCallv call (x.evV ρ) (evs ρ args) h) kk
  | .invoke x name args => bnd (sInvoke P call (x.evV ρ) name (evs ρ args) h) kk

def sGuard (c : AVal) (want : Bool) (r : Rs) (h : AHeap) : Rs :=
  match c with
  | .bool b => match b == want with
    | true => r
    | false => some (aundef, h)
  | _ => some (aundef, h)

def valV (o : AOper) (ρ : Fun) (h : AHeap) : Rs :=
  match o.guard with
  | none => o.op.runV P I call ρ h
  | some (t, want) => sGuard (ρ t) want (o.op.runV P I call ρ h) h
end

section
variable (P : Program) (I : Inp) (call : CallFn)
def bindO (o : AOper) (ρ : Fun) (h : AHeap) (k : AVal → AHeap → Rs) : Rs :=
  match o.guard with
  | none => o.op.bindV P I call ρ h k
  | some (t, want) => bnd (sGuard (ρ t) want (o.op.runV P I call ρ h) h) k
theorem bnd_lift (r : Option AVal) (h : AHeap) (k : AVal → AHeap → Rs) : bndP r (fun v => k v h) = bnd (lift r h) k := by cases r <;> rfl
theorem bindV_eq (ρ : Fun) (h : AHeap) (k : AVal → AHeap → Rs) (op : AOp) : op.bindV P I call ρ h k = bnd (op.runV P I call ρ h) k := by
  cases op <;> first | rfl | exact bnd_lift _ _ _
theorem bindO_eq (o : AOper) (ρ : Fun) (h : AHeap) (k : AVal → AHeap → Rs) : bindO P I call o ρ h k = bnd (valV P I call o ρ h) k := by
  unfold bindO valV
  split
  · exact bindV_eq _ _ _ _ _ _ _
  · rfl
end

/-! ### they are the abstract machine's -/
section
variable {P : Program} {I : Inp} {call : CallFn}

theorem evV_get (f : Fr) (x : AOpd) : x.evV (Fr.get f) = x.ev f := by cases x <;> rfl
theorem evs_get (f : Fr) (xs : List AOpd) : evs (Fr.get f) xs = xs.map (·.ev f) := by
  unfold evs; exact List.map_congr_left fun x _ => evV_get f x
theorem fillV_eq (f : Fr) : ∀ (ps : List (Nat × Nat × AOpd)) (cs : List AVal), fillV cs (evPs (Fr.get f) ps) = fillA f cs ps
  | [], cs => rfl
  | (off, sz, x) :: r, cs => by
    show (match Nat.beq (lenK (x.evV (Fr.get f)).cells) sz with
      | true => Option.rec (motive := fun _ => Option (List AVal)) none (fun cs => fillV cs (evPs (Fr.get f) r)) (setK off (x.evV (Fr.get f)).cells cs)
      | false => none) = _
    rw [evV_get, lenK_eq, setK_eq]
    simp only [fillA]
    cases h1 : Nat.beq (AOpd.ev f x).cells.length sz <;> cases h2 : Nat.ble (off + (AOpd.ev f x).cells.length) cs.length
    · rfl
    · rfl
    · rfl
    · exact fillV_eq f r _
theorem optNatV_eq (f : Fr) (d : Nat) (x : Option AOpd) : optNatV d (x.map (AOpd.evV (Fr.get f))) = optNat f d x := by
  cases x with
  | none => rfl
  | some x => show asNat (x.evV (Fr.get f)) = _; rw [evV_get]; rfl
theorem sliceV_eq (f : Fr) (sz : Nat) (v : AVal) (lo hi mx : Option AOpd) :
    sliceV sz v (lo.map (AOpd.evV (Fr.get f))) (hi.map (AOpd.evV (Fr.get f))) (mx.map (AOpd.evV (Fr.get f))) = sliceOf f sz v lo hi mx := by
  cases v <;> simp only [sliceV, sliceOf, optNatV_eq]
  case nils =>
    cases mx <;> cases hi <;> rfl
  case sl l o n c =>
    cases mx with
    | none => rfl
    | some m =>
      simp only [Option.map_some, evV_get]
      generalize optNat f 0 lo = p
      generalize optNat f n hi = q
      generalize asNat (m.ev f) = r
      cases hi <;> cases p <;> cases q <;> cases r <;> rfl

theorem runV_step (f : Fr) (h : AHeap) (op : AOp) : op.runV P I call (Fr.get f) h = (match op.target P f with
    | some (g, args) => call g args h
    | none => op.stepK P I f h) := by
  cases op
  case call g args => simp only [AOp.runV, AOp.target, evs_get]
  case callv x args =>
    simp only [AOp.runV, AOp.target, evs_get, evV_get, sCallv]
    cases x.ev f <;> try rfl
    rename_i fn a b
    cases fn <;> rfl
  case invoke x name args =>
    simp only [AOp.runV, AOp.target, evs_get, evV_get, sInvoke]
    cases x.ev f <;> try rfl
    rename_i t v
    cases hm : methodOf P t name with
    | none => cases v <;> simp only [hm] <;> rfl
    | some g => cases v <;> simp only [hm] <;> rfl
  case resv k m =>
    cases m with
    | alloc z => rfl
    | mapNew => rfl
    | box x => simp only [AOp.runV, AOp.target, AOp.stepK, stepK_resv, MOp.stepV, MOp.made, sResvBox, evV_get]
    | buildSlice z n ps =>
      simp only [AOp.runV, AOp.target, AOp.stepK, stepK_resv, MOp.stepV, MOp.made, sResvSlice, fillV_eq]
      cases fillA f (zeros z (n * z.length)) ps <;> rfl
    | makeSlice z bytes l c =>
      simp only [AOp.runV, AOp.target, AOp.stepK, stepK_resv, MOp.stepV, MOp.made, sResvMake, evV_get]
      cases asNat (l.ev f) <;> cases asNat (c.ev f) <;> try rfl
      rename_i a b
      dsimp only
      generalize (Nat.ble a b && Nat.ble (bytes * b) 140737488355328 && Nat.ble b 140737488355328) = q
      cases q <;> rfl
  case pick c a b =>
    simp only [AOp.runV, AOp.target, AOp.stepK, stepK_pick, pPick, lift, evV_get]
    generalize c.ev f = q0
    cases q0 <;> try rfl
    rename_i b; cases b <;> rfl
  case build z ps =>
    simp only [AOp.runV, AOp.target, AOp.stepK, stepK_build, pBuild, lift, fillV_eq]
    generalize fillA f z ps = q0
    cases q0 <;> rfl
  case buildSlice z n ps =>
    simp only [AOp.runV, AOp.target, AOp.stepK, stepK_buildSlice, sBuildSlice, fillV_eq]
    rfl
  case load1 a =>
    simp only [AOp.runV, AOp.target, AOp.stepK, stepK_load1, pLoad1, lift, evV_get]
    generalize a.ev f = q0
    cases q0 <;> try rfl
    rename_i l o; dsimp only; rw [rdK_eq]; generalize rd I h l o = q1; cases q1 <;> rfl
  case loadN n a =>
    simp only [AOp.runV, AOp.target, AOp.stepK, stepK_loadN, pLoadN, lift, evV_get]
    generalize a.ev f = q0
    cases q0 <;> try rfl
    rename_i l o; dsimp only; rw [rdsK_eq]; generalize rds I h l o n = q1; cases q1 <;> rfl
  case nilCheck x =>
    simp only [AOp.runV, AOp.target, AOp.stepK, stepK_nilCheck, pNilCheck, lift, evV_get]
    generalize x.ev f = q0
    cases q0 <;> try rfl
    rename_i fn a b; cases fn <;> rfl
  case bin op x y =>
    simp only [AOp.runV, AOp.target, AOp.stepK, stepK_bin, pBin, lift, evV_get]
    generalize abin op (x.ev f) (y.ev f) = q0
    cases q0 <;> rfl
  case eq neg ek c x y =>
    simp only [AOp.runV, AOp.target, AOp.stepK, stepK_eq, pEq, lift, evV_get]
    generalize aeq P h ek c (x.ev f) (y.ev f) = q0
    cases q0 <;> rfl
  case un op x =>
    simp only [AOp.runV, AOp.target, AOp.stepK, stepK_un, pUn, lift, evV_get]
    generalize aun op (x.ev f) = q0
    cases q0 <;> rfl
  case toInt k x =>
    simp only [AOp.runV, AOp.target, AOp.stepK, stepK_toInt, pToInt, lift, evV_get]
    generalize x.ev f = q0
    cases q0 <;> rfl
  case toStr x =>
    simp only [AOp.runV, AOp.target, AOp.stepK, stepK_toStr, pToStr, lift, evV_get]
    generalize x.ev f = q0
    cases q0 <;> try rfl
    rename_i l o n c
    dsimp only
    rw [rdsK_eq]
    generalize rds I h l o n = q1
    cases q1 with
    | none => rfl
    | some cs =>
      show _ = (match List.mapM (m := Option) byteOf cs with | some bs => some (AVal.str bs, h) | none => none)
      dsimp only
      generalize cs.mapM (m := Option) byteOf = q2
      cases q2 <;> rfl
  case asStr x =>
    simp only [AOp.runV, AOp.target, AOp.stepK, stepK_asStr, pAsStr, lift, evV_get]
    generalize x.ev f = q0
    cases q0 <;> rfl
  case sliceS sz x lo hi mx =>
    simp only [AOp.runV, AOp.target, AOp.stepK, stepK_sliceS, pSliceS, lift, sliceV_eq, evV_get]
    generalize sliceOf f sz (x.ev f) lo hi mx = q0
    cases q0 <;> rfl
  case sliceStr x lo hi =>
    simp only [AOp.runV, AOp.target, AOp.stepK, stepK_sliceStr, pSliceStr, lift, optNatV_eq, evV_get]
    generalize x.ev f = q0
    cases q0 <;> try rfl
    rename_i s
    dsimp only
    generalize optNat f 0 lo = q1
    generalize optNat f s.length hi = q2
    cases q1 <;> cases q2 <;> try rfl
    rename_i a b
    dsimp only
    generalize (Nat.ble a b && Nat.ble b s.length) = q3
    cases q3 <;> rfl
  case sliceArr n sz x lo hi mx =>
    simp only [AOp.runV, AOp.target, AOp.stepK, stepK_sliceArr, pSliceArr, lift, sliceV_eq, evV_get]
    generalize x.ev f = q0
    cases q0 <;> try rfl
    rename_i l o
    dsimp only
    generalize sliceOf f sz (.sl l o n (.known n)) lo hi mx = q1
    cases q1 <;> rfl
  case fieldAddr off x =>
    simp only [AOp.runV, AOp.target, AOp.stepK, stepK_fieldAddr, pFieldAddr, lift, evV_get]
    generalize x.ev f = q0
    cases q0 <;> rfl
  case field1 off x =>
    simp only [AOp.runV, AOp.target, AOp.stepK, stepK_field1, pField1, lift, evV_get]
    generalize x.ev f = q0
    cases q0 <;> try rfl
    rename_i cs; dsimp only; rw [nthK_eq]; generalize cs[off]? = q1; cases q1 <;> rfl
  case fieldN off n x =>
    simp only [AOp.runV, AOp.target, AOp.stepK, stepK_fieldN, pFieldN, lift, evV_get]
    generalize x.ev f = q0
    cases q0 <;> try rfl
    rename_i cs; dsimp only; rw [cutK_eq]; generalize Nat.ble (off + n) cs.length = q1; cases q1 <;> rfl
  case indexAddr sz x i =>
    simp only [AOp.runV, AOp.target, AOp.stepK, stepK_indexAddr, pIndexAddr, lift, evV_get]
    generalize x.ev f = q0
    generalize asNat (i.ev f) = q1
    cases q0 <;> cases q1 <;> try rfl
    rename_i j; dsimp only; generalize Nat.blt j _ = q2; cases q2 <;> rfl
  case indexAddrArr n sz x i =>
    simp only [AOp.runV, AOp.target, AOp.stepK, stepK_indexAddrArr, pIndexAddrArr, lift, evV_get]
    generalize x.ev f = q0
    generalize asNat (i.ev f) = q1
    cases q0 <;> cases q1 <;> try rfl
    rename_i j; dsimp only; generalize Nat.blt j _ = q2; cases q2 <;> rfl
  case indexStr x i =>
    simp only [AOp.runV, AOp.target, AOp.stepK, stepK_indexStr, pIndexStr, lift, evV_get]
    generalize x.ev f = q0
    generalize asNat (i.ev f) = q1
    cases q0 <;> cases q1 <;> try rfl
    rename_i s j; dsimp only; rw [nthK_eq]; generalize s[j]? = q2; cases q2 <;> rfl
  case index1 n x i =>
    simp only [AOp.runV, AOp.target, AOp.stepK, stepK_index1, pIndex1, lift, evV_get]
    generalize x.ev f = q0
    generalize asNat (i.ev f) = q1
    cases q0 <;> cases q1 <;> try rfl
    rename_i s j; dsimp only; rw [nthK_eq]; generalize s[j]? = q2; generalize Nat.blt j n = q3; cases q2 <;> cases q3 <;> rfl
  case indexN n sz x i =>
    simp only [AOp.runV, AOp.target, AOp.stepK, stepK_indexN, pIndexN, lift, evV_get]
    generalize x.ev f = q0
    generalize asNat (i.ev f) = q1
    cases q0 <;> cases q1 <;> try rfl
    rename_i cs j; dsimp only; generalize (Nat.blt j n && Nat.ble (j * sz + sz) cs.length) = q2; cases q2 <;> rfl
  case extract x i =>
    simp only [AOp.runV, AOp.target, AOp.stepK, stepK_extract, pExtract, lift, evV_get]
    generalize x.ev f = q0
    cases q0 <;> try rfl
    rename_i vs; dsimp only; rw [nthK_eq]; generalize vs[i]? = q1; cases q1 <;> rfl
  case assertI t z ok x =>
    simp only [AOp.runV, AOp.target, AOp.stepK, stepK_assertI, pAssertI, lift, evV_get]
    generalize x.ev f = q0
    cases q0 <;> try rfl
    · cases ok <;> rfl
    · rename_i u v
      dsimp only
      generalize implB P t u = q1
      cases q1 with
      | none => rfl
      | some b => cases b <;> cases ok <;> rfl
  case assertT t z ok x =>
    simp only [AOp.runV, AOp.target, AOp.stepK, stepK_assertT, pAssertT, lift, evV_get]
    generalize x.ev f = q0
    cases q0 <;> try rfl
    · cases ok <;> rfl
    · rename_i u v
      dsimp only
      by_cases hu : u = t <;> cases ok <;> simp only [hu, if_true, if_false, Bool.false_eq_true]
  case lenStr x =>
    simp only [AOp.runV, AOp.target, AOp.stepK, stepK_lenStr, pLenStr, lift, evV_get]
    generalize x.ev f = q0
    cases q0 <;> rfl
  case mapGet kk z ok m k =>
    simp only [AOp.runV, AOp.target, AOp.stepK, lift, evV_get]
    generalize mapGetV kk z ok (m.ev f) (k.ev f) h = q0
    cases q0 <;> rfl
  case entryM m =>
    simp only [AOp.runV, AOp.target, AOp.stepK, lift, evV_get]
    generalize entryMV (m.ev f) h = q0
    cases q0 <;> rfl
  case capS x =>
    simp only [AOp.runV, AOp.target, AOp.stepK, lift, evV_get]
    generalize capV (x.ev f) = q0
    cases q0 <;> rfl
  case lenMap m =>
    simp only [AOp.runV, AOp.target, AOp.stepK, lift, evV_get]
    generalize lenMapV (m.ev f) h = q0
    cases q0 <;> rfl
  case lenSl x =>
    simp only [AOp.runV, AOp.target, AOp.stepK, stepK_lenSl, pLenSl, lift, evV_get]
    generalize x.ev f = q0
    cases q0 <;> rfl
  case minmax mx xs =>
    simp only [AOp.runV, AOp.target, AOp.stepK, stepK_minmax, pMinmax, lift, evs_get]
    generalize xs.map (fun x : AOpd => x.ev f) = q0
    cases q0 with
    | nil => rfl
    | cons a r =>
      cases a <;> try rfl
      rename_i k n
      dsimp only
      generalize minInts mx k n r = q1
      cases q1 <;> rfl
  case store n a x =>
    simp only [AOp.runV, AOp.target, AOp.stepK, stepK_store, sStore, evV_get, lenK_eq, Blk.wrK_eq]
    rfl
  case append sz bytes x y => simp only [AOp.runV, AOp.target, AOp.stepK, stepK_append, sAppend, evV_get, appendK_eq]
  case mkFunc fn a b =>
    simp only [AOp.runV, AOp.target, AOp.stepK, stepK_mkFunc, evs_get]
    try rfl
  all_goals simp only [AOp.runV, AOp.target, AOp.stepK, evV_get] <;> rfl

theorem valV_eq (o : AOper) (f : Fr) (h : AHeap) : valV P I call o (Fr.get f) h = valOper P I call o f h := by
  obtain ⟨dst, op, guard⟩ := o
  cases guard with
  | none => simp only [valV, valOper, runV_step]; rfl
  | some g =>
    obtain ⟨t, want⟩ := g
    simp only [valV, valOper, runV_step, sGuard]
    cases f.get t <;> rfl
end
end

end Go.AM

/- AM, part 24: code in continuation style, labels at its loops and joins; what it computes the abstract machine computes. Conditions: as each lemma says. -/
namespace Go.AM
noncomputable section
open Go.RowKit

theorem bnd_some (v : AVal) (h : AHeap) (k : AVal → AHeap → Rs) : bnd (some (v, h)) k = k v h := rfl
theorem bnd_none (k : AVal → AHeap → Rs) : bnd none k = none := rfl
theorem bnd_inv {r : Rs} {k : AVal → AHeap → Rs} {x : AVal × AHeap} (h : bnd r k = some x) : ∃ v h', r = some (v, h') ∧ k v h' = some x := by
  cases r with
  | none => cases h
  | some p => exact ⟨p.1, p.2, rfl, h⟩

def sCond (c : AVal) (e t : Rs) : Rs :=
  match c with
  | .bool b => Bool.rec (motive := fun _ => Rs) e t b
  | _ => none

def sCheck (b : Bool) (r : Rs) : Rs := Bool.rec (motive := fun _ => Rs) none r b

/-- Numbers are kept. -/
def sKeep (m : Nat) (h : AHeap) (k : AHeap → Rs) : Rs :=
  Bool.rec (motive := fun _ => Rs) none (k ⟨h.t, h.next + (m + 1)⟩) h.room

def putV (o : AOper) (ρ : Fun) (v : AVal) : Fun :=
  match o.dst with
  | some d => ρ.put d v
  | none => ρ

/-- Is an operation's value the same in another heap? -/
def sSame (r : Rs) (v : AVal) : Bool :=
  match r with
  | some (v', _) => v'.eqb v
  | none => false

section
variable (P : Program) (I : Inp) (call : CallFn)

def opsC : List AOper → (Fun → AHeap → Rs) → Fun → AHeap → Rs
  | [], k, ρ, h => k ρ h
  | o :: r, k, ρ, h => bindO P I call o ρ h fun v h => opsC r k (putV o ρ v) h

def chkV (H : List AHeap) (o : AOper) (ρ : Fun) (v : AVal) : List Nat → Bool
  | [] => true
  | s :: l => (match H[s]? with | some h => sSame (valV P I call o ρ h) v | none => false) && chkV H o ρ v l

def pushH (b : Bool) (hs : List AHeap) (h : AHeap) : List AHeap := Bool.rec (motive := fun _ => List AHeap) hs (hs ++ [h]) b

/-- Checks that must hold at the end. -/
def drawC : List AOper → List (Bool × List Nat) → List AHeap → (List AHeap → Rs → Rs) → (Fun → AHeap → Rs) → Fun → AHeap → Rs
  | [], _, hs, ck, k, ρ, h => ck hs (k ρ h)
  | o :: os, [], hs, ck, k, ρ, h => bindO P I call o ρ h fun v h1 => drawC os [] hs ck k (putV o ρ v) h1
  | o :: os, (b, l) :: is, hs, ck, k, ρ, h => bindO P I call o ρ h fun v h1 =>
      drawC os is (pushH b hs h1)
        (match l with
          | [] => ck
          | s :: l => fun H r => ck H (sCheck (chkV P I call H o ρ v (s :: l)) r)) k (putV o ρ v) h1

def ACode.flat : ACode → Bool
  | .skip => true
  | .region _ => true
  | .draw _ _ _ => true
  | .seq a b => a.flat && b.flat
  | _ => false

/-- How many labels code has: its loops, and what follows what is not straight. -/
def ACode.cnt : ACode → Nat
  | .seq a b => match a.flat with
    | true => b.cnt
    | false => 1 + a.cnt + b.cnt
  | .cond _ t e => t.cnt + e.cnt
  | .block _ c => c.cnt
  | .loop c => 1 + c.cnt
  | _ => 0

abbrev Jmp := Nat → Fun → AHeap → Rs
abbrev Kont := Ex → Fun → AHeap → Rs

def kSeq (j : Fun → AHeap → Rs) (k : Kont) : Kont
  | .normal, ρ, h => j ρ h
  | .exit i, ρ, h => k (.exit i) ρ h
  | .ret, ρ, h => k .ret ρ h

def kBlk (id : Nat) (k : Kont) : Kont
  | .normal, ρ, h => k .normal ρ h
  | .exit i, ρ, h => match Nat.beq i id with
    | true => k .normal ρ h
    | false => k (.exit i) ρ h
  | .ret, ρ, h => k .ret ρ h

def execC (J : Jmp) : ACode → Nat → Kont → Fun → AHeap → Rs
  | .skip, _, k, ρ, h => k .normal ρ h
  | .region ops, _, k, ρ, h => opsC P I call ops (k .normal) ρ h
  | .draw ops info m, _, k, ρ, h => match m with
    | 0 => drawC P I call ops info [h] (fun _ r => r) (k .normal) ρ h
    | m + 1 => sKeep m h fun h0 => drawC P I call (ops.map (AOper.shift h.next)) info [h0] (fun _ r => r) (k .normal) ρ h0
  | .seq a b, n, k, ρ, h => match a.flat with
    | true => execC J a n (kSeq (execC J b n k) k) ρ h
    | false => execC J a (n + 1) (kSeq (J n) k) ρ h
  | .cond c t e, n, k, ρ, h => sCond (c.evV ρ) (execC J e (n + t.cnt) k ρ h) (execC J t n k ρ h)
  | .block id c, n, k, ρ, h => execC J c n (kBlk id k) ρ h
  | .loop _, n, _, ρ, h => J n ρ h
  | .exit id, _, k, ρ, h => k (.exit id) ρ h
  | .ret, _, k, ρ, h => k .ret ρ h

/-- What stands at a label. -/
def labC (J : Jmp) : ACode → Nat → Kont → Nat → Fun → AHeap → Rs
  | .seq a b, n, k, id => match a.flat with
    | true => labC J b n k id
    | false => match Nat.beq id n with
      | true => execC P I call J b (n + 1 + a.cnt) k
      | false => match Nat.blt id (n + 1 + a.cnt) with
        | true => labC J a (n + 1) (kSeq (J n) k) id
        | false => labC J b (n + 1 + a.cnt) k id
  | .cond _ t e, n, k, id => match Nat.blt id (n + t.cnt) with
    | true => labC J t n k id
    | false => labC J e (n + t.cnt) k id
  | .block i c, n, k, id => labC J c n (kBlk i k) id
  | .loop c, n, k, id => match Nat.beq id n with
    | true => execC P I call J c (n + 1) (kSeq (J n) k)
    | false => labC J c (n + 1) (kSeq (J n) k) id
  | _, _, _, _ => fun _ _ => none

def sRes1 (I : Inp) (x : AVal) (h : AHeap) : Option AVal :=
  match x with
  | .ptr l o => rd I h l o
  | _ => none
def sResN (I : Inp) (n : Nat) (x : AVal) (h : AHeap) : Option AVal :=
  match x with
  | .ptr l o => (rds I h l o n).map .agg
  | _ => none
def sCons (a : Option AVal) (b : Option (List AVal)) : Option (List AVal) :=
  match a, b with
  | some v, some vs => some (v :: vs)
  | _, _ => none

def resV (I : Inp) (ρ : Fun) (h : AHeap) : ARes → Option AVal
  | .tmp t => some (ρ t)
  | .cell1 t => sRes1 I (ρ t) h
  | .cellN t n => sResN I n (ρ t) h

def ressV (I : Inp) (ρ : Fun) (h : AHeap) : List ARes → Option (List AVal)
  | [] => some []
  | r :: rs => sCons (resV I ρ h r) (ressV I ρ h rs)

def sRet (r : Option (List AVal)) (h : AHeap) : Rs :=
  match r with
  | some vs => some (oneOrTuple vs, h)
  | none => none

/-- The end of a function. -/
def finV (rs : List ARes) : Kont
  | .normal, ρ, h => sRet (ressV I ρ h rs) h
  | .exit _, _, _ => none
  | .ret, ρ, h => sRet (ressV I ρ h rs) h

def argV (args : List AVal) : Fun := fun n => args.getD n aundef
end

/-! ### what it computes the abstract machine computes -/
/-- A call function that says nothing but what the abstract machine says. -/
def CallLe (C : Cx) (call : CallFn) : Prop := ∀ g args h r, call g args h = some r → ∃ n, callF C.P C.I C.F n g args h = some r

section
variable {C : Cx} {call : CallFn}

theorem valV_sound (hc : CallLe C call) {o : AOper} {f : Fr} {h : AHeap} {r : AVal × AHeap} (hr : valV C.P C.I call o (Fr.get f) h = some r) : ∃ n, valOper C.P C.I (callF C.P C.I C.F n) o f h = some r := by
  rw [valV_eq] at hr
  obtain ⟨dst, op, guard⟩ := o
  have go : ∀ {r : AVal × AHeap}, (match op.target C.P f with | some (g, args) => call g args h | none => op.stepK C.P C.I f h) = some r → ∃ n, (match op.target C.P f with | some (g, args) => callF C.P C.I C.F n g args h | none => op.stepK C.P C.I f h) = some r := by
    intro r hr
    cases ht : op.target C.P f with
    | none => rw [ht] at hr; exact ⟨0, hr⟩
    | some p => rw [ht] at hr; exact hc _ _ _ _ hr
  cases guard with
  | none => simp only [valOper] at hr ⊢; exact go hr
  | some g =>
    obtain ⟨t, want⟩ := g
    simp only [valOper] at hr ⊢
    cases hb : f.get t with
    | bool b =>
      rw [hb] at hr
      cases hw : b == want with
      | true => simp only [hw] at hr ⊢; exact go hr
      | false => simp only [hw] at hr ⊢; exact ⟨0, hr⟩
    | _ => rw [hb] at hr; exact ⟨0, hr⟩

theorem get_putDst {n : Nat} (hn : n ≤ 16000) {o : AOper} (hd : ∀ d, o.dst = some d → d < n) (f : Fr) (v : AVal) : Fr.get (putDst o f v) = putV o (Fr.get f) v := by
  unfold putDst putV
  cases hdst : o.dst with
  | none => rfl
  | some d =>
    have := hd d hdst
    funext m
    rw [Fr.get_put (by show d + 1 < 16384; omega)]
    show _ = (Bool.rec (motive := fun _ => AVal) (Fr.get f m) v (Nat.beq m d))
    rw [beq_if]

theorem opersIn_cons {n : Nat} {o : AOper} {r : List AOper} (h : opersIn n (o :: r) = true) : (∀ d, o.dst = some d → d < n) ∧ opersIn n r = true := by
  simp only [opersIn, List.all_cons, Bool.and_eq_true] at h
  refine ⟨fun d he => ?_, h.2⟩
  have := h.1
  rw [he] at this
  exact Nat.le_of_ble_eq_true this

theorem opsC_sound (hc : CallLe C call) {n : Nat} (hn : n ≤ 16000) {k : Fun → AHeap → Rs} {r : AVal × AHeap} : ∀ (ops : List AOper) (f : Fr) (h : AHeap), opersIn n ops = true → opsC C.P C.I call ops k (Fr.get f) h = some r →
    Ops C ops (fun f' h' => k (Fr.get f') h' = some r) f h
  | [], f, h, _, hr => hr
  | o :: ops, f, h, hin, hr => by
    obtain ⟨hd, hin⟩ := opersIn_cons hin
    obtain ⟨v, h1, hv, hk⟩ := bnd_inv ((bindO_eq ..).symm.trans hr)
    obtain ⟨m, hm⟩ := valV_sound hc hv
    rw [← get_putDst hn hd] at hk
    exact ⟨m, v, h1, hm, opsC_sound hc hn ops _ _ hin hk⟩

theorem chkV_sound (hc : CallLe C call) {H : List AHeap} {o : AOper} {f : Fr} {v : AVal} {h1 : AHeap} : ∀ (l : List Nat), chkV C.P C.I call H o (Fr.get f) v l = true → ∃ n, l.all (chkOne C.P C.I (callF C.P C.I C.F n) H o (f, v, h1)) = true
  | [], _ => ⟨0, rfl⟩
  | s :: l, h => by
    simp only [chkV, Bool.and_eq_true] at h
    obtain ⟨n, hn⟩ := chkV_sound hc l h.2
    have h1 := h.1
    split at h1
    · rename_i h2 hs
      unfold sSame at h1
      split at h1
      · rename_i v' h3 hv
        obtain ⟨m, hm⟩ := valV_sound hc hv
        refine ⟨n + m, ?_⟩
        simp only [List.all_cons, Bool.and_eq_true]
        refine ⟨?_, ?_⟩
        · simp only [chkOne, hs, valOper_le (callF_le (F := C.F) (show m ≤ n + m by omega)) hm]
          exact h1
        · rw [List.all_eq_true] at hn ⊢
          exact fun s hs => chkOne_le (callF_le (by omega)) (hn s hs)
      · cases h1
    · cases h1

theorem sCheck_inv {b : Bool} {r : Rs} {x : AVal × AHeap} (h : sCheck b r = some x) : b = true ∧ r = some x := by
  cases b with
  | true => exact ⟨rfl, h⟩
  | false => cases h

theorem drawC_sound (hc : CallLe C call) {n : Nat} (hn : n ≤ 16000) {k : Fun → AHeap → Rs} {r : AVal × AHeap} : ∀ (ops : List AOper) (is : List (Bool × List Nat)) (hs : List AHeap) (ck : List AHeap → Rs → Rs) (T : List AHeap → Prop) (f : Fr) (h : AHeap),
    (∀ H x, ck H x = some r → T H ∧ x = some r) → opersIn n ops = true → drawC C.P C.I call ops is hs ck k (Fr.get f) h = some r →
    ∃ m es f' h', trace C.P C.I (callF C.P C.I C.F m) ops f h = some (es, f', h') ∧ T (hs ++ heapsOf is es) ∧ chkAll C.P C.I (callF C.P C.I C.F m) (hs ++ heapsOf is es) ops is es = true ∧ k (Fr.get f') h' = some r
  | [], is, hs, ck, T, f, h, hT, _, hr => by
    obtain ⟨h1, h2⟩ := hT _ _ hr
    refine ⟨0, [], f, h, rfl, ?_, ?_, h2⟩
    · cases is with
      | nil => simpa [heapsOf] using h1
      | cons i is => obtain ⟨b, l⟩ := i; cases b <;> simpa [heapsOf] using h1
    · rfl
  | o :: ops, [], hs, ck, T, f, h, hT, hin, hr => by
    obtain ⟨hd, hin⟩ := opersIn_cons hin
    obtain ⟨v, h1, hv, hk⟩ := bnd_inv ((bindO_eq ..).symm.trans hr)
    obtain ⟨m, hm⟩ := valV_sound hc hv
    rw [← get_putDst hn hd] at hk
    obtain ⟨m', es, f', h', ht, h2, h3, h4⟩ := drawC_sound hc hn ops [] hs ck T _ _ hT hin hk
    refine ⟨m + m', (f, v, h1) :: es, f', h', ?_, ?_, ?_, h4⟩
    · simp only [trace, valOper_le (callF_le (F := C.F) (show m ≤ m + m' by omega)) hm, trace_le (callF_le (F := C.F) (show m' ≤ m + m' by omega)) ht]
    · simpa [heapsOf] using h2
    · rfl
  | o :: ops, (b, l) :: is, hs, ck, T, f, h, hT, hin, hr => by
    obtain ⟨hd, hin⟩ := opersIn_cons hin
    obtain ⟨v, h1, hv, hk⟩ := bnd_inv ((bindO_eq ..).symm.trans hr)
    obtain ⟨m, hm⟩ := valV_sound hc hv
    rw [← get_putDst hn hd] at hk
    obtain ⟨m', es, f', h', ht, ⟨h2, h2'⟩, h3, h4⟩ := drawC_sound hc hn ops is _ _ (fun H => T H ∧ chkV C.P C.I call H o (Fr.get f) v l = true) _ _ (fun H x hx => by
      cases l with
      | nil => exact ⟨⟨(hT _ _ hx).1, rfl⟩, (hT _ _ hx).2⟩
      | cons s l =>
        obtain ⟨q1, q2⟩ := hT _ _ hx
        obtain ⟨q3, q4⟩ := sCheck_inv q2
        exact ⟨⟨q1, q3⟩, q4⟩) hin hk
    have hheap : hs ++ heapsOf ((b, l) :: is) ((f, v, h1) :: es) = pushH b hs h1 ++ heapsOf is es := by
      cases b <;> simp [heapsOf, pushH]
    obtain ⟨q, hq⟩ := chkV_sound (h1 := h1) hc l h2'
    refine ⟨m + m' + q, (f, v, h1) :: es, f', h', ?_, ?_, ?_, h4⟩
    · simp only [trace, valOper_le (callF_le (F := C.F) (show m ≤ m + m' + q by omega)) hm, trace_le (callF_le (F := C.F) (show m' ≤ m + m' + q by omega)) ht]
    · rw [hheap]; exact h2
    · rw [hheap]
      simp only [chkAll, Bool.and_eq_true]
      refine ⟨?_, chkAll_le (callF_le (F := C.F) (show m' ≤ m + m' + q by omega)) h3⟩
      rw [List.all_eq_true] at hq ⊢
      exact fun s hs => chkOne_le (callF_le (F := C.F) (show q ≤ m + m' + q by omega)) (hq s hs)

theorem shift_dst (base : Nat) (x : AOper) : (x.shift base).dst = x.dst := by
  unfold AOper.shift
  split <;> rfl
theorem opersIn_shift {n base : Nat} {ops : List AOper} (h : opersIn n ops = true) : opersIn n (ops.map (AOper.shift base)) = true := by
  unfold opersIn at h ⊢
  rw [List.all_eq_true] at h ⊢
  intro x hx
  obtain ⟨y, hy, rfl⟩ := List.mem_map.1 hx
  rw [shift_dst]
  exact h y hy

/-- What follows, as a condition on the machine's end. -/
abbrev Post1 := Ex → Fun → AHeap → Prop
def WpF (C : Cx) (c : ACode) (Q : Post1) (ρ : Fun) (h : AHeap) : Prop := ∀ f, Fr.get f = ρ → Wp C c (fun x f' h' => Q x (Fr.get f') h') f h

def pSeq (j : Fun → AHeap → Prop) (Q : Post1) : Post1
  | .normal, ρ, h => j ρ h
  | .exit i, ρ, h => Q (.exit i) ρ h
  | .ret, ρ, h => Q .ret ρ h
def pBlk (id : Nat) (Q : Post1) : Post1
  | .normal, ρ, h => Q .normal ρ h
  | .exit i, ρ, h => if i = id then Q .normal ρ h else Q (.exit i) ρ h
  | .ret, ρ, h => Q .ret ρ h

/-- What a label means. -/
def labP (C : Cx) : ACode → Nat → Post1 → Nat → Fun → AHeap → Prop
  | .seq a b, n, Q, id => match a.flat with
    | true => labP C b n Q id
    | false => match Nat.beq id n with
      | true => WpF C b Q
      | false => match Nat.blt id (n + 1 + a.cnt) with
        | true => labP C a (n + 1) (pSeq (WpF C b Q) Q) id
        | false => labP C b (n + 1 + a.cnt) Q id
  | .cond _ t e, n, Q, id => match Nat.blt id (n + t.cnt) with
    | true => labP C t n Q id
    | false => labP C e (n + t.cnt) Q id
  | .block i c, n, Q, id => labP C c n (pBlk i Q) id
  | .loop c, n, Q, id => match Nat.beq id n with
    | true => WpF C (.loop c) Q
    | false => labP C c (n + 1) (pSeq (WpF C (.loop c) Q) Q) id
  | _, _, _, _ => fun _ _ => True

theorem flat_cnt : ∀ {c : ACode}, c.flat = true → c.cnt = 0
  | .skip, _ => rfl
  | .region _, _ => rfl
  | .draw _ _ _, _ => rfl
  | .seq a b, h => by
    simp only [ACode.flat, Bool.and_eq_true] at h
    simp only [ACode.cnt, h.1, flat_cnt h.2]
  | .cond _ _ _, h => by cases h
  | .block _ _, h => by cases h
  | .loop _, h => by cases h
  | .exit _, h => by cases h
  | .ret, h => by cases h

theorem blt_iff (a b : Nat) : Nat.blt a b = decide (a < b) := by
  rw [Bool.eq_iff_iff]; simp only [Nat.blt, Nat.ble_eq, decide_eq_true_eq]; omega
theorem beq_iff (a b : Nat) : Nat.beq a b = decide (a = b) := by
  rw [Bool.eq_iff_iff]; simp

theorem execC_sound (hc : CallLe C call) {n : Nat} (hn : n ≤ 16000) {r : AVal × AHeap} {J : Jmp} : ∀ (c : ACode) (b : Nat) (k : Kont) (Q : Post1), c.within n = true →
    (∀ id, b ≤ id → id < b + c.cnt → ∀ ρ h, J id ρ h = some r → labP C c b Q id ρ h) → (∀ x ρ h, k x ρ h = some r → Q x ρ h) → ∀ ρ h, execC C.P C.I call J c b k ρ h = some r → WpF C c Q ρ h := by
  intro c
  induction c with
  | skip => intro b k Q hw hJ hk ρ h hr f hf; subst hf; exact wp_skip' (hk _ _ _ hr)
  | region ops =>
    intro b k Q hw hJ hk ρ h hr f hf
    subst hf
    have := opsC_sound hc hn ops f h hw hr
    obtain ⟨m, f', h', h1, h2⟩ := Ops.run this
    exact ⟨m, .normal, f', h', by simp [exec, h1], hk _ _ _ h2⟩
  | draw ops info m =>
    intro b k Q hw hJ hk ρ h hr f hf
    subst hf
    cases m with
    | zero =>
      obtain ⟨m, es, f', h', ht, _, h3, h4⟩ := drawC_sound hc hn ops info [h] (fun _ r => r) (fun _ => True) f h (fun _ _ hx => ⟨trivial, hx⟩) hw hr
      refine ⟨m, .normal, f', h', ?_, hk _ _ _ h4⟩
      simp only [List.singleton_append] at h3
      simp only [exec, ht, h3]
    | succ m =>
      simp only [execC, sKeep] at hr
      cases hroom : h.room with
      | false => rw [hroom] at hr; cases hr
      | true =>
        rw [hroom] at hr
        obtain ⟨m', es, f', h', ht, _, h3, h4⟩ := drawC_sound hc hn _ info _ (fun _ r => r) (fun _ => True) f _ (fun _ _ hx => ⟨trivial, hx⟩) (opersIn_shift hw) hr
        refine ⟨m', .normal, f', h', ?_, hk _ _ _ h4⟩
        simp only [List.singleton_append] at h3
        simp only [exec, hroom, ht, h3]
  | seq a b' iha ihb =>
    intro b k Q hw hJ hk ρ h hr f hf
    simp only [ACode.within, Bool.and_eq_true] at hw
    simp only [execC] at hr
    cases hfl : a.flat with
    | true =>
      simp only [hfl] at hr
      have hca := flat_cnt hfl
      have hJb : ∀ id, b ≤ id → id < b + b'.cnt → ∀ ρ h, J id ρ h = some r → labP C b' b Q id ρ h := fun id h1 h2 ρ h hj => by
        have := hJ id h1 (by simp only [ACode.cnt, hfl]; exact h2) ρ h hj
        simpa only [labP, hfl] using this
      have := iha b (kSeq (execC C.P C.I call J b' b k) k) (pSeq (WpF C b' Q) Q) hw.1 (fun id h1 h2 => by omega) (fun x ρ h hx => by
        cases x with
        | normal => exact ihb b k Q hw.2 hJb hk ρ h hx
        | exit i => exact hk _ _ _ hx
        | ret => exact hk _ _ _ hx) ρ h hr f hf
      refine wp_seq' (this.mono fun x f' h' hq => ?_)
      cases x with
      | normal => exact hq f' rfl
      | exit i => exact hq
      | ret => exact hq
    | false =>
      simp only [hfl] at hr
      have hcnt : (ACode.seq a b').cnt = 1 + a.cnt + b'.cnt := by simp only [ACode.cnt, hfl]
      have := iha (b + 1) (kSeq (J b) k) (pSeq (WpF C b' Q) Q) hw.1 (fun id h1 h2 ρ h hj => by
        have := hJ id (by omega) (by omega) ρ h hj
        simp only [labP, hfl, beq_iff, blt_iff, show ¬ id = b by omega, show id < b + 1 + a.cnt by omega, decide_true, decide_false] at this
        exact this) (fun x ρ h hx => by
        cases x with
        | normal =>
          have := hJ b (by omega) (by omega) ρ h hx
          simp only [labP, hfl, beq_iff, decide_true] at this
          exact this
        | exit i => exact hk _ _ _ hx
        | ret => exact hk _ _ _ hx) ρ h hr f hf
      refine wp_seq' (this.mono fun x f' h' hq => ?_)
      cases x with
      | normal => exact hq f' rfl
      | exit i => exact hq
      | ret => exact hq
  | cond o t e iht ihe =>
    intro b k Q hw hJ hk ρ h hr f hf
    simp only [ACode.within, Bool.and_eq_true] at hw
    simp only [execC, sCond] at hr
    have hev : o.ev f = o.evV ρ := by subst hf; exact (evV_get f o).symm
    have hcnt : (ACode.cond o t e).cnt = t.cnt + e.cnt := rfl
    cases hx : o.evV ρ with
    | bool v =>
      rw [hx] at hr
      refine wp_cond' (hev.trans hx) (fun hv => ?_) (fun hv => ?_)
      · subst hv
        refine iht b k Q hw.1 (fun id h1 h2 ρ h hj => ?_) hk ρ h hr f hf
        have := hJ id h1 (by omega) ρ h hj
        simpa only [labP, blt_iff, show id < b + t.cnt from h2, decide_true] using this
      · subst hv
        refine ihe (b + t.cnt) k Q hw.2 (fun id h1 h2 ρ h hj => ?_) hk ρ h hr f hf
        have := hJ id (by omega) (by omega) ρ h hj
        simpa only [labP, blt_iff, show ¬ id < b + t.cnt by omega, decide_false] using this
    | _ => rw [hx] at hr; cases hr
  | block i c ih =>
    intro b k Q hw hJ hk ρ h hr f hf
    refine wp_block' ((ih b (kBlk i k) (pBlk i Q) hw hJ (fun x ρ h hx => ?_) ρ h hr f hf).mono fun x f' h' hq => ?_)
    · cases x with
      | normal => exact hk _ _ _ hx
      | ret => exact hk _ _ _ hx
      | exit j =>
        simp only [kBlk] at hx
        simp only [pBlk]
        by_cases hj : j = i
        · subst hj
          simp only [Nat.beq_refl] at hx
          rw [if_pos rfl]; exact hk _ _ _ hx
        · have : Nat.beq j i = false := by rw [beq_iff]; simpa using hj
          simp only [this] at hx
          rw [if_neg hj]; exact hk _ _ _ hx
    · cases x with
      | normal => exact hq
      | ret => exact hq
      | exit j => exact hq
  | loop c ih =>
    intro b k Q hw hJ hk ρ h hr f hf
    have := hJ b (by omega) (by simp only [ACode.cnt]; omega) ρ h hr
    simp only [labP, beq_iff, decide_true] at this
    exact this f hf
  | exit id => intro b k Q hw hJ hk ρ h hr f hf; subst hf; exact wp_exit' (hk _ _ _ hr)
  | ret => intro b k Q hw hJ hk ρ h hr f hf; subst hf; exact wp_ret' (hk _ _ _ hr)

theorem labC_sound (hc : CallLe C call) {n : Nat} (hn : n ≤ 16000) {r : AVal × AHeap} {J : Jmp} : ∀ (c : ACode) (b : Nat) (k : Kont) (Q : Post1), c.within n = true →
    (∀ id, b ≤ id → id < b + c.cnt → ∀ ρ h, J id ρ h = some r → labP C c b Q id ρ h) → (∀ x ρ h, k x ρ h = some r → Q x ρ h) → ∀ id, b ≤ id → id < b + c.cnt → ∀ ρ h, labC C.P C.I call J c b k id ρ h = some r → labP C c b Q id ρ h := by
  intro c
  induction c with
  | seq a b' iha ihb =>
    intro b k Q hw hJ hk id hb1 hb2 ρ h hr
    simp only [ACode.within, Bool.and_eq_true] at hw
    simp only [labC] at hr
    simp only [labP]
    cases hfl : a.flat with
    | true =>
      simp only [hfl] at hr ⊢
      have hcnt : (ACode.seq a b').cnt = b'.cnt := by simp only [ACode.cnt, hfl]
      refine ihb b k Q hw.2 (fun id h1 h2 ρ h hj => ?_) hk id hb1 (by omega) ρ h hr
      have := hJ id h1 (by omega) ρ h hj
      simpa only [labP, hfl] using this
    | false =>
      simp only [hfl, beq_iff, blt_iff] at hr ⊢
      have hcnt : (ACode.seq a b').cnt = 1 + a.cnt + b'.cnt := by simp only [ACode.cnt, hfl]
      have hJb : ∀ id, b + 1 + a.cnt ≤ id → id < b + 1 + a.cnt + b'.cnt → ∀ ρ h, J id ρ h = some r → labP C b' (b + 1 + a.cnt) Q id ρ h := fun id h1 h2 ρ h hj => by
        have := hJ id (by omega) (by omega) ρ h hj
        simpa only [labP, hfl, beq_iff, blt_iff, show ¬ id = b by omega, show ¬ id < b + 1 + a.cnt by omega, decide_false] using this
      by_cases h0 : id = b
      · simp only [h0, decide_true] at hr ⊢
        exact execC_sound hc hn b' _ k Q hw.2 hJb hk ρ h hr
      · simp only [h0, decide_false] at hr ⊢
        by_cases h1 : id < b + 1 + a.cnt
        · simp only [h1, decide_true] at hr ⊢
          refine iha (b + 1) (kSeq (J b) k) (pSeq (WpF C b' Q) Q) hw.1 (fun id h1 h2 ρ h hj => ?_) (fun x ρ h hx => ?_) id (by omega) (by omega) ρ h hr
          · have := hJ id (by omega) (by omega) ρ h hj
            simpa only [labP, hfl, beq_iff, blt_iff, show ¬ id = b by omega, show id < b + 1 + a.cnt by omega, decide_true, decide_false] using this
          · cases x with
            | normal =>
              have := hJ b (by omega) (by omega) ρ h hx
              simp only [labP, hfl, beq_iff, decide_true] at this
              exact this
            | exit i => exact hk _ _ _ hx
            | ret => exact hk _ _ _ hx
        · simp only [h1, decide_false] at hr ⊢
          exact ihb _ k Q hw.2 hJb hk id (by omega) (by omega) ρ h hr
  | cond o t e iht ihe =>
    intro b k Q hw hJ hk id hb1 hb2 ρ h hr
    simp only [ACode.within, Bool.and_eq_true] at hw
    simp only [labC, blt_iff] at hr
    simp only [labP, blt_iff]
    have hcnt : (ACode.cond o t e).cnt = t.cnt + e.cnt := rfl
    by_cases h1 : id < b + t.cnt
    · simp only [h1, decide_true] at hr ⊢
      refine iht b k Q hw.1 (fun id h1 h2 ρ h hj => ?_) hk id hb1 (by omega) ρ h hr
      have := hJ id h1 (by omega) ρ h hj
      simpa only [labP, blt_iff, show id < b + t.cnt from h2, decide_true] using this
    · simp only [h1, decide_false] at hr ⊢
      refine ihe (b + t.cnt) k Q hw.2 (fun id h1 h2 ρ h hj => ?_) hk id (by omega) (by omega) ρ h hr
      have := hJ id (by omega) (by omega) ρ h hj
      simpa only [labP, blt_iff, show ¬ id < b + t.cnt by omega, decide_false] using this
  | block i c ih =>
    intro b k Q hw hJ hk id hb1 hb2 ρ h hr
    refine ih b (kBlk i k) (pBlk i Q) hw hJ (fun x ρ h hx => ?_) id hb1 hb2 ρ h hr
    cases x with
    | normal => exact hk _ _ _ hx
    | ret => exact hk _ _ _ hx
    | exit j =>
      simp only [kBlk] at hx
      simp only [pBlk]
      by_cases hj : j = i
      · subst hj
        simp only [Nat.beq_refl] at hx
        rw [if_pos rfl]; exact hk _ _ _ hx
      · have : Nat.beq j i = false := by rw [beq_iff]; simpa using hj
        simp only [this] at hx
        rw [if_neg hj]; exact hk _ _ _ hx
  | loop c ih =>
    intro b k Q hw hJ hk id hb1 hb2 ρ h hr
    simp only [ACode.within] at hw
    have hcnt : (ACode.loop c).cnt = 1 + c.cnt := rfl
    have hJc : ∀ id, b + 1 ≤ id → id < b + 1 + c.cnt → ∀ ρ h, J id ρ h = some r → labP C c (b + 1) (pSeq (WpF C (.loop c) Q) Q) id ρ h := fun id h1 h2 ρ h hj => by
      have := hJ id (by omega) (by omega) ρ h hj
      simpa only [labP, beq_iff, show ¬ id = b by omega, decide_false] using this
    have hkc : ∀ x ρ h, kSeq (J b) k x ρ h = some r → pSeq (WpF C (.loop c) Q) Q x ρ h := fun x ρ h hx => by
      cases x with
      | normal =>
        have := hJ b (by omega) (by omega) ρ h hx
        simp only [labP, beq_iff, decide_true] at this
        exact this
      | exit i => exact hk _ _ _ hx
      | ret => exact hk _ _ _ hx
    simp only [labC, beq_iff] at hr
    simp only [labP, beq_iff]
    by_cases h0 : id = b
    · simp only [h0, decide_true] at hr ⊢
      intro f hf
      have := execC_sound hc hn c (b + 1) (kSeq (J b) k) (pSeq (WpF C (.loop c) Q) Q) hw hJc hkc ρ h hr f hf
      refine wp_loop_once (this.mono fun x f' h' hq => ?_)
      cases x with
      | normal => exact hq f' rfl
      | exit i => exact hq
      | ret => exact hq
    · simp only [h0, decide_false] at hr ⊢
      exact ih (b + 1) _ _ hw hJc hkc id (by omega) (by omega) ρ h hr
  | skip => intro b k Q hw hJ hk id hb1 hb2 ρ h hr; simp only [ACode.cnt] at hb2; omega
  | region ops => intro b k Q hw hJ hk id hb1 hb2 ρ h hr; simp only [ACode.cnt] at hb2; omega
  | draw ops info m => intro b k Q hw hJ hk id hb1 hb2 ρ h hr; simp only [ACode.cnt] at hb2; omega
  | exit i => intro b k Q hw hJ hk id hb1 hb2 ρ h hr; simp only [ACode.cnt] at hb2; omega
  | ret => intro b k Q hw hJ hk id hb1 hb2 ρ h hr; simp only [ACode.cnt] at hb2; omega

/-! ### functions -/
theorem resV_get (f : Fr) (h : AHeap) (x : ARes) : resV C.I (Fr.get f) h x = resOf C.I f h x := by
  cases x <;> simp only [resV, resOf, sRes1, sResN] <;> cases f.get _ <;> rfl
theorem ressV_get (f : Fr) (h : AHeap) : ∀ (rs : List ARes), ressV C.I (Fr.get f) h rs = ressOf C.I f h rs
  | [] => rfl
  | r :: rs => by simp only [ressV, ressOf, resV_get, ressV_get f h rs, sCons]; rfl

theorem putArgs_getV : ∀ (args : List AVal) (i : Nat) (f : Fr), i + args.length ≤ 16000 → ∀ t, (putArgs i args f).get t = if i ≤ t ∧ t < i + args.length then args.getD (t - i) aundef else f.get t
  | [], i, f, _, t => by
    rw [if_neg (by simp only [List.length_nil]; omega)]; rfl
  | v :: r, i, f, hl, t => by
    simp only [List.length_cons] at hl
    simp only [putArgs]
    rw [putArgs_getV r (i + 1) _ (by omega), Fr.get_put (by show i + 1 < 16384; omega)]
    simp only [List.length_cons]
    by_cases h0 : t = i
    · subst h0
      rw [if_neg (by omega), if_pos rfl, if_pos (by omega)]
      simp
    · by_cases h1 : i + 1 ≤ t ∧ t < i + 1 + r.length
      · rw [if_pos h1, if_pos (by omega)]
        obtain ⟨d, hd⟩ : ∃ d, t - i = d + 1 := ⟨t - i - 1, by omega⟩
        rw [hd, show t - (i + 1) = d by omega]
        simp
      · rw [if_neg h1, if_neg h0, if_neg (by omega)]

theorem argV_get {args : List AVal} (hl : args.length ≤ 16000) : Fr.get (putArgs 0 args .nil) = argV args := by
  funext t
  rw [putArgs_getV _ _ _ (by omega)]
  simp only [Nat.zero_le, true_and, Nat.zero_add, Nat.sub_zero]
  by_cases h : t < args.length
  · rw [if_pos h]; rfl
  · rw [if_neg h]
    show Fr.get .nil t = args.getD t aundef
    rw [List.getD_eq_getElem?_getD, List.getElem?_eq_none (by omega)]
    rfl

/-- A function by its labels. 'JS n': the labels, with 'n' jumps left. -/
structure SFn (C : Cx) (call : CallFn) (fn : AFunc) (JS : Nat → Jmp) : Prop where
  zero : ∀ id, id < fn.body.cnt → ∀ ρ h, JS 0 id ρ h = none
  succ : ∀ n id, id < fn.body.cnt → ∀ ρ h, JS (n + 1) id ρ h = labC C.P C.I call (JS n) fn.body 0 (finV C.I fn.results) id ρ h

theorem finV_inv {fn : AFunc} {x : Ex} {ρ : Fun} {h : AHeap} {r : AVal × AHeap} (hx : finV C.I fn.results x ρ h = some r) : (∀ id, x ≠ .exit id) ∧ ∃ vs, ressV C.I ρ h fn.results = some vs ∧ r = (oneOrTuple vs, h) := by
  have go : sRet (ressV C.I ρ h fn.results) h = some r → ∃ vs, ressV C.I ρ h fn.results = some vs ∧ r = (oneOrTuple vs, h) := fun hx => by
    unfold sRet at hx
    split at hx
    · rename_i vs hvs; exact ⟨vs, hvs, by cases hx; rfl⟩
    · cases hx
  cases x with
  | normal => exact ⟨fun id e => (by cases e), go hx⟩
  | exit i => cases hx
  | ret => exact ⟨fun id e => (by cases e), go hx⟩

theorem fn_sound (hc : CallLe C call) {g : Nat} {fn : AFunc} (hF : C.F g = some (.code fn)) (hn : fn.ntmps ≤ 16000) (hw : fn.body.within fn.ntmps = true) {JS : Nat → Jmp} (hS : SFn C call fn JS) {n : Nat} {args : List AVal} {h : AHeap} {r : AVal × AHeap}
    (hl : Nat.ble args.length fn.ntmps = true) (hr : execC C.P C.I call (JS n) fn.body 0 (finV C.I fn.results) (argV args) h = some r) : ∃ m, callF C.P C.I C.F m g args h = some r := by
  let Q : Post1 := fun x ρ h => (∀ id, x ≠ .exit id) ∧ ∃ vs, ressV C.I ρ h fn.results = some vs ∧ r = (oneOrTuple vs, h)
  have hJ : ∀ n, ∀ id, 0 ≤ id → id < 0 + fn.body.cnt → ∀ ρ h, JS n id ρ h = some r → labP C fn.body 0 Q id ρ h := by
    intro n
    induction n with
    | zero => intro id _ h2 ρ h hj; rw [hS.zero id (by omega)] at hj; cases hj
    | succ n ih =>
      intro id h1 h2 ρ h hj
      rw [hS.succ n id (by omega)] at hj
      exact labC_sound hc hn fn.body 0 _ Q hw ih (fun x ρ h hx => finV_inv hx) id h1 h2 ρ h hj
  have hle := Nat.le_of_ble_eq_true hl
  have := execC_sound hc hn fn.body 0 _ Q hw (hJ n) (fun x ρ h hx => finV_inv hx) _ h hr (putArgs 0 args .nil) (argV_get (by omega))
  have hev := ev_of_wp (R := fun v h' => r = (v, h')) hF hl (this.mono fun x f' h' ⟨hne, vs, hvs, he⟩ => ⟨hne, vs, by rw [← ressV_get]; exact hvs, he⟩)
  obtain ⟨m, v, h', h1, h2⟩ := hev
  exact ⟨m, by rw [h1, h2]⟩
end
end

end Go.AM

/- AM, part 25: tables of functions by their labels; the limit of all counts of rounds. Conditions: as each lemma says. -/
namespace Go.AM
noncomputable section
open Go.RowKit

/-- A function: by what calls come to, and a count of jumps. -/
abbrev SF := CallFn → Nat → List AVal → AHeap → Rs

section
variable {P : Program} {I : Inp} {F : Nat → Option AFn}

def SfOk (P : Program) (I : Inp) (F : Nat → Option AFn) (g : Nat) (s : SF) : Prop :=
  ∀ call, CallLe ⟨P, I, F⟩ call → ∀ n args h r, s call n args h = some r → ∃ m, callF P I F m g args h = some r

/-- A function's answers: a structure, so that the kernel keeps what a number stands for. -/
structure Fn1 where
  run : List AVal → AHeap → Rs

def runP (tab : Nat → Option SF) (n : Nat) : Nat → Fn1 :=
  Nat.rec (motive := fun _ => Nat → Fn1) (fun _ => ⟨fun _ _ => none⟩) (fun n ih g => Option.rec (motive := fun _ => Fn1) ⟨fun _ _ => none⟩ (fun s => ⟨s (fun g => (ih g).run) n⟩) (tab g)) n
def runS (tab : Nat → Option SF) (n : Nat) : CallFn := fun g => (runP tab n g).run

theorem runS_le {tab : Nat → Option SF} (ht : ∀ g s, tab g = some s → SfOk P I F g s) : ∀ n, CallLe ⟨P, I, F⟩ (runS tab n)
  | 0 => fun g args h r hr => by cases hr
  | n + 1 => fun g args h r hr => by
    have e : runS tab (n + 1) g args h = (Option.rec (motive := fun _ => Fn1) ⟨fun _ _ => none⟩ (fun s => ⟨s (runS tab n) n⟩) (tab g) : Fn1).run args h := rfl
    cases hg : tab g with
    | none =>
      rw [e, hg] at hr; cases hr
    | some s =>
      rw [e, hg] at hr
      exact ht g s hg _ (runS_le ht n) n args h r hr

def primSF (p : Prim) : SF := fun _ _ args h => p args h
theorem primSF_ok {g : Nat} {p : Prim} (hF : F g = some (.prim p)) : SfOk P I F g (primSF p) :=
  fun _ _ _ args h r hr => ⟨1, by simp only [callF, hF]; exact hr⟩

/-- A table, prims ahead. -/
def withPrims (prims : Nat → Option Prim) (tab : Nat → Option SF) (g : Nat) : Option SF :=
  Option.rec (motive := fun _ => Option SF) (tab g) (fun p => some (primSF p)) (prims g)

theorem withPrims_ok {prims : Nat → Option Prim} {tab : Nat → Option SF} (ht : ∀ g s, prims g = none → tab g = some s → SfOk P I (genF P prims) g s) :
    ∀ g s, withPrims prims tab g = some s → SfOk P I (genF P prims) g s := by
  intro g s hs
  unfold withPrims at hs
  cases hp : prims g with
  | none => rw [hp] at hs; exact ht g s hp hs
  | some p =>
    rw [hp] at hs
    cases hs
    exact primSF_ok (by unfold genF; rw [hp])

/-- The abstract machine's text of a function. -/
def codeOf (P : Program) (g : Nat) : Option AFunc :=
  match P.funcs[g]? with
  | none => none
  | some fn => cFunc P fn
theorem genF_code {prims : Nat → Option Prim} {g : Nat} {fn : AFunc} (hp : prims g = none) (hc : codeOf P g = some fn) : genF P prims g = some (.code fn) := by
  unfold genF codeOf at *
  rw [hp]
  cases h : P.funcs[g]? with
  | none => rw [h] at hc; cases hc
  | some f => rw [h] at hc; simp only [] at hc ⊢; rw [hc]

/-! ### the limit -/
open Classical in
/-- What a call comes to, whatever the rounds. -/
def lim (C : Cx) : CallFn := fun g args h => if hx : ∃ r n, callF C.P C.I C.F n g args h = some r then some (Classical.choose hx) else none

variable {C : Cx}
theorem lim_of {n g : Nat} {args : List AVal} {h : AHeap} {r : AVal × AHeap} (hr : callF C.P C.I C.F n g args h = some r) : lim C g args h = some r := by
  classical
  have hx : ∃ r n, callF C.P C.I C.F n g args h = some r := ⟨r, n, hr⟩
  unfold lim
  rw [dif_pos hx]
  obtain ⟨m, hm⟩ := Classical.choose_spec hx
  have h1 := callF_le (P := C.P) (I := C.I) (F := C.F) (show m ≤ m + n by omega) _ _ _ _ hm
  have h2 := callF_le (P := C.P) (I := C.I) (F := C.F) (show n ≤ m + n by omega) _ _ _ _ hr
  rw [h2] at h1
  exact h1.symm ▸ rfl
theorem lim_le : CallLe C (lim C) := by
  intro g args h r hr
  unfold lim at hr
  split at hr
  · rename_i hx
    obtain ⟨m, hm⟩ := Classical.choose_spec hx
    cases hr
    exact ⟨m, hm⟩
  · cases hr
theorem lim_sf {g : Nat} {s : SF} (hs : SfOk C.P C.I C.F g s) {n : Nat} {args : List AVal} {h : AHeap} {r : AVal × AHeap} (hr : s (lim C) n args h = some r) : lim C g args h = some r := by
  obtain ⟨m, hm⟩ := hs (lim C) (fun g args h r hr => lim_le g args h r hr) n args h r hr
  exact lim_of hm
theorem lim_runS {tab : Nat → Option SF} (ht : ∀ g s, tab g = some s → SfOk C.P C.I C.F g s) {n g : Nat} {args : List AVal} {h : AHeap} {r : AVal × AHeap} (hr : runS tab n g args h = some r) : lim C g args h = some r := by
  obtain ⟨m, hm⟩ := runS_le ht n g args h r hr
  exact lim_of hm
end
end

end Go.AM

/- AM, part 26: a law that the table of labels calls true is true. Conditions: as each lemma says. -/
namespace Go.AM
noncomputable section
open Go.RowKit

section
variable {P : Program} {I : Inp}
theorem run_true {prims : Nat → Option Prim} {tab : Nat → Option SF} (ht : ∀ g s, prims g = none → tab g = some s → SfOk P I (genF P prims) g s) {n g : Nat} {args : List AVal} {h : AHeap}
    (hrun : saysTrue (runS (withPrims prims tab) n g args h) = true) : ∃ m, saysTrue (callF P I (genF P prims) m g args h) = true := by
  obtain ⟨h', hr⟩ := saysTrue_spec hrun
  obtain ⟨m, hm⟩ := runS_le (withPrims_ok ht) n g args h _ hr
  exact ⟨m, by rw [show callF P I (genF P prims) m g args h = some (.bool true, h') from hm]; rfl⟩

theorem lim_true {C : Cx} {g : Nat} {args : List AVal} {h h' : AHeap} (hr : lim C g args h = some (.bool true, h')) : ∃ m, saysTrue (callF C.P C.I C.F m g args h) = true := by
  obtain ⟨m, hm⟩ := lim_le g args h _ hr
  exact ⟨m, by rw [hm]; rfl⟩
end
end

end Go.AM

/- AM, part 31: short names for code, tables of labels, what is alike for every function. Conditions: as each lemma says. -/
namespace Go.AM
noncomputable section
open Go.RowKit
universe u

/-! ### short names -/
def kN (x : AVal) (k : AVal → Rs) : Rs := bndP (pNilCheck x) k
def kF (n : Nat) (x : AVal) (k : AVal → Rs) : Rs := bndP (pFieldAddr n x) k
def kL (I : Inp) (x : AVal) (h : AHeap) (k : AVal → Rs) : Rs := bndP (pLoad1 I x h) k
def kM (I : Inp) (n : Nat) (x : AVal) (h : AHeap) (k : AVal → Rs) : Rs := bndP (pLoadN I n x h) k
def kI (n : Nat) (x i : AVal) (k : AVal → Rs) : Rs := bndP (pIndexAddr n x i) k
def kB (o : BinOp) (x y : AVal) (k : AVal → Rs) : Rs := bndP (pBin o x y) k
def kZ (x : AVal) (k : AVal → Rs) : Rs := bndP (pLenSl x) k
def kU (o : UnOp) (x : AVal) (k : AVal → Rs) : Rs := bndP (pUn o x) k
def kX (x : AVal) (i : Nat) (k : AVal → Rs) : Rs := bndP (pExtract x i) k
def kP (c a b : AVal) (k : AVal → Rs) : Rs := bndP (pPick c a b) k
def kE (n : Nat) (x : AVal) (k : AVal → Rs) : Rs := bndP (pField1 n x) k
def kC (call : CallFn) (g : Nat) (xs : List AVal) (h : AHeap) (k : AVal → AHeap → Rs) : Rs := bnd (call g xs h) k
def kS (n : Nat) (a x : AVal) (h : AHeap) (k : AVal → AHeap → Rs) : Rs := bnd (sStore n a x h) k
def kA (z : List AVal) (h : AHeap) (k : AVal → AHeap → Rs) : Rs := bnd (sAlloc z h) k
def gS (c : AVal) (w : Bool) (r : Rs) (h : AHeap) (k : AVal → AHeap → Rs) : Rs := bnd (sGuard c w r h) k
def gP (c : AVal) (w : Bool) (x : Option AVal) (h : AHeap) (k : AVal → AHeap → Rs) : Rs := bnd (sGuard c w (lift x h) h) k
def gV (c : AVal) (w : Bool) (v : AVal) (h : AHeap) (k : AVal → AHeap → Rs) : Rs := bnd (sGuard c w (some (v, h)) h) k
abbrev Z (n : Nat) : AVal := .int .i64 (.ofNat n)
abbrev bT : AVal := .bool .true
abbrev bF : AVal := .bool .false

/-! ### labels -/
abbrev A0 := AHeap → Rs
abbrev A1 := AVal → A0
abbrev A2 := AVal → A1
abbrev A3 := AVal → A2
abbrev A4 := AVal → A3
abbrev A5 := AVal → A4
abbrev A6 := AVal → A5
abbrev A7 := AVal → A6
abbrev A8 := AVal → A7
abbrev A9 := AVal → A8
class Zr (α : Type u) where
  z : α
instance : Zr Rs := ⟨none⟩
instance {α : Type} [Zr α] : Zr (AVal → α) := ⟨fun _ => Zr.z⟩
instance {α : Type} [Zr α] : Zr (AHeap → α) := ⟨fun _ => Zr.z⟩
instance {α β : Type} [Zr α] [Zr β] : Zr (α × β) := ⟨(Zr.z, Zr.z)⟩
/-- A label's code, its values by their numbers in a frame; a function's, by a list. -/
class Ap (α : Type) where
  ap : α → List Nat → Fun → AHeap → Rs
  ar : α → List AVal → AHeap → Rs
  n : Nat
  all : α → (List AVal → AHeap → Rs) → Prop
  law : ∀ (f : α) (g : List AVal → AHeap → Rs), all f g → ∀ l h r, ar f l h = some r → l.length = n ∧ g l h = some r
instance : Ap (AHeap → Rs) where
  ap f l _ h := match l with
    | [] => f h
    | _ :: _ => none
  ar f l h := match l with
    | [] => f h
    | _ :: _ => none
  n := 0
  all f g := ∀ h, f h = g [] h
  law f g a l h r e := by
    cases l with
    | nil => exact ⟨rfl, (a h).symm.trans e⟩
    | cons x l => cases e
instance {α : Type} [Ap α] : Ap (AVal → α) where
  ap f l ρ h := match l with
    | [] => none
    | x :: r => Ap.ap (f (ρ x)) r ρ h
  ar f l h := match l with
    | [] => none
    | x :: r => Ap.ar (f x) r h
  n := Ap.n α + 1
  all f g := ∀ x, Ap.all (f x) (fun l => g (x :: l))
  law f g a l h r e := by
    cases l with
    | nil => cases e
    | cons x l =>
      obtain ⟨h1, h2⟩ := Ap.law (f x) (fun l => g (x :: l)) (a x) l h r e
      exact ⟨by rw [List.length_cons, h1], h2⟩
def jmp (l : List (Fun → AHeap → Rs)) : Jmp := fun id ρ h => Option.rec (motive := fun _ => Rs) none (fun f => f ρ h) (nthK l id)
/-- The values below a number, the last one ahead. -/
def upto {α : Type} (f : Nat → α) (n : Nat) : List α := Nat.rec (motive := fun _ => List α) [] (fun k ih => f k :: ih) n
theorem of_upto {α : Type} {f g : Nat → α} : ∀ {n : Nat}, upto f n = upto g n → ∀ id, id < n → f id = g id
  | n + 1, h, id, hi => by
    have h' : f n :: upto f n = g n :: upto g n := h
    simp only [List.cons.injEq] at h'
    rcases Nat.lt_succ_iff_lt_or_eq.1 hi with hi | rfl
    · exact of_upto h'.2 id hi
    · exact h'.1

section
variable {P : Program} {I : Inp} {F : Nat → Option AFn} {call : CallFn} {fn : AFunc} {JS : Nat → Jmp}
/-- A function's code (nothing, if there is none). -/
def cOf (P : Program) (g : Nat) : AFunc := Option.rec (motive := fun _ => AFunc) ⟨0, 0, [], .skip⟩ (fun c => c) (codeOf P g)
theorem SFn.all (m : Nat) (hm : Nat.ble fn.body.cnt m = true) (h0 : ∀ ρ h, upto (fun id => JS 0 id ρ h) m = upto (fun _ => none) m)
    (h1 : ∀ n ρ h, upto (fun id => JS (n + 1) id ρ h) m = upto (fun id => labC P I call (JS n) fn.body 0 (finV I fn.results) id ρ h) m) : SFn ⟨P, I, F⟩ call fn JS :=
  ⟨fun id hid ρ h => of_upto (h0 ρ h) id (Nat.lt_of_lt_of_le hid (Nat.le_of_ble_eq_true hm)), fun n id hid ρ h => of_upto (h1 n ρ h) id (Nat.lt_of_lt_of_le hid (Nat.le_of_ble_eq_true hm))⟩
theorem okOf {α : Type} [Ap α] {g : Nat} {e : CallFn → Nat → α} {JC : CallFn → Nat → Jmp} (hF : F g = some (.code fn)) (h1 : (Nat.ble fn.ntmps 16000 && fn.body.within fn.ntmps && Nat.ble (Ap.n α) fn.ntmps) = true) (hS : ∀ call, SFn ⟨P, I, F⟩ call fn (JC call))
    (hs : ∀ call n, Ap.all (e call n) (fun l h => execC P I call (JC call n) fn.body 0 (finV I fn.results) (argV l) h)) : SfOk P I F g (fun call n => Ap.ar (e call n)) := by
  intro call hc n args h r hr
  simp only [Bool.and_eq_true] at h1
  obtain ⟨hk, he⟩ := Ap.law _ _ (hs call n) args h r hr
  exact fn_sound (C := ⟨P, I, F⟩) (n := n) hc hF (Nat.le_of_ble_eq_true h1.1.1) h1.1.2 (hS call) (by rw [hk]; exact h1.2) he
end

/-! ### a function by its labels, in one piece -/
/-- Labels in a tuple, their numbers in one of the same form. -/
class Tp (α : Type) where
  ix : Type
  fl : α → ix → List (Fun → AHeap → Rs)
instance : Tp Unit := ⟨Unit, fun _ _ => []⟩
instance {α : Type} [Ap (AVal → α)] : Tp (AVal → α) := ⟨List Nat, fun f l => [Ap.ap f l]⟩
instance : Tp (AHeap → Rs) := ⟨List Nat, fun f l => [Ap.ap f l]⟩
instance {α β : Type} [Tp α] [Tp β] : Tp (α × β) := ⟨Tp.ix α × Tp.ix β, fun p i => Tp.fl p.1 i.1 ++ Tp.fl p.2 i.2⟩
instance : Zr Unit := ⟨()⟩
abbrev Lb (J α : Type) := Inp → CallFn → J → α
def Jm {J : Type} [Zr J] (T : Lb J J) (I : Inp) (call : CallFn) (n : Nat) : J := Nat.rec (motive := fun _ => J) Zr.z (fun _ j => T I call j) n
def runL {J α : Type} [Zr J] [Ap α] (T : Lb J J) (e : Lb J α) (I : Inp) : SF := fun call n => Ap.ar (e I call (Jm T I call n))
/-- What stands for a function's code. -/
structure FOk (P : Program) (g : Nat) (run : Inp → SF) : Prop where
  code : codeOf P g = some (cOf P g)
  ok : ∀ I F, F g = some (.code (cOf P g)) → SfOk P I F g (run I)
theorem FOk.of {P : Program} {g : Nat} {J α : Type} [Zr J] [Tp J] [Ap α] {T : Lb J J} {e : Lb J α} (m : Nat) (ix : Tp.ix J) (hc : codeOf P g = some (cOf P g) := by kernel_rfl)
    (h1 : (Nat.ble (cOf P g).ntmps 16000 && (cOf P g).body.within (cOf P g).ntmps && Nat.ble (Ap.n α) (cOf P g).ntmps && Nat.ble (cOf P g).body.cnt m) = true := by kernel_rfl)
    (h0 : ∀ ρ h, upto (fun id => jmp (Tp.fl (Zr.z : J) ix) id ρ h) m = upto (fun _ => none) m := by intro ρ h; kernel_rfl)
    (hS : ∀ I call j ρ h, upto (fun id => jmp (Tp.fl (T I call j) ix) id ρ h) m = upto (fun id => labC P I call (jmp (Tp.fl j ix)) (cOf P g).body 0 (finV I (cOf P g).results) id ρ h) m := by intro I call j ρ h; kernel_rfl)
    (hs : ∀ I call j, Ap.all (e I call j) (fun l h => execC P I call (jmp (Tp.fl j ix)) (cOf P g).body 0 (finV I (cOf P g).results) (argV l) h) := by intro I call j; (repeat intro _); kernel_rfl) : FOk P g (runL T e) := by
  rw [Bool.and_eq_true] at h1
  exact ⟨hc, fun I F hF => okOf (e := fun call n => e I call (Jm T I call n)) (JC := fun call n => jmp (Tp.fl (Jm T I call n) ix)) hF h1.1 (fun call => .all m h1.2 h0 fun n ρ h => hS I call _ ρ h) fun call n => hs I call _⟩

/-! the table -/
def brT (g m : Nat) (a b : Option SF) : Option SF := Bool.rec (motive := fun _ => Option SF) a b (Nat.blt g m)
def lfT (g k : Nat) (s : SF) : Option SF := Bool.rec (motive := fun _ => Option SF) none (some s) (Nat.beq g k)
theorem tbL {P : Program} {I : Inp} {prims : Nat → Option Prim} {g k : Nat} {run : Inp → SF} (h : FOk P k run) : prims g = none → ∀ s, lfT g k (run I) = some s → SfOk P I (genF P prims) g s := by
  intro hp s hs
  unfold lfT at hs
  cases hb : Nat.beq g k with
  | false => rw [hb] at hs; cases hs
  | true =>
    rw [hb] at hs; cases hs
    have := Nat.eq_of_beq_eq_true hb
    subst this
    exact h.ok I _ (genF_code hp h.code)
theorem tbF {P : Program} {I : Inp} {prims : Nat → Option Prim} {g m : Nat} {a b : Option SF} (ha : prims g = none → ∀ s, a = some s → SfOk P I (genF P prims) g s) (hb : prims g = none → ∀ s, b = some s → SfOk P I (genF P prims) g s) :
    prims g = none → ∀ s, brT g m a b = some s → SfOk P I (genF P prims) g s := by
  intro hp s hs
  unfold brT at hs
  cases hx : Nat.blt g m with
  | false => rw [hx] at hs; exact ha hp s hs
  | true => rw [hx] at hs; exact hb hp s hs
end

end Go.AM

/- AM, part 27: symbolic runs: rules for simp, forks, calls; what came in or was made, by addresses. Conditions: as each lemma says. -/
namespace Go.AM
noncomputable section
open Go.RowKit
universe u

/-- An answer there is, and .. of it holds. -/
def Res (r : Rs) (Q : AVal → AHeap → Prop) : Prop := ∃ v h', r = some (v, h') ∧ Q v h'
/-- (no rewriting by unfolding: the kernel would run the code) -/
theorem nrfl {α : Sort u} {a : α} : a = a := Eq.refl a
/-! What follows, where simp does not look. -/
class KtP where
  k : AVal → Rs
class KtS where
  k : AVal → AHeap → Rs
class ThR where
  r : Rs
def BndP (r : Option AVal) [c : KtP] : Rs := bndP r c.k
def Bnd (r : Rs) [c : KtS] : Rs := bnd r c.k
def Cond (c : AVal) [e : ThR] [t : ThR] : Rs := sCond c e.r t.r
/-- Either way. -/
def Fork (p : Prop) [a : ThR] [b : ThR] : Rs := @ite _ p (Classical.propDecidable p) a.r b.r
@[simp↓] theorem to_BndP (r : Option AVal) (k : AVal → Rs) : bndP r k = @BndP r ⟨k⟩ := nrfl
@[simp↓] theorem to_Bnd (r : Rs) (k : AVal → AHeap → Rs) : bnd r k = @Bnd r ⟨k⟩ := nrfl
@[simp↓] theorem to_Cond (c : AVal) (e t : Rs) : sCond c e t = @Cond c ⟨e⟩ ⟨t⟩ := nrfl

/-! Guarded operations, shorter. -/
@[simp↓] theorem to_gS (c : AVal) (w : Bool) (r : Rs) (h : AHeap) (k : AVal → AHeap → Rs) : gS c w r h k = @Bnd (sGuard c w r h) ⟨k⟩ := nrfl
@[simp↓] theorem to_gP (c : AVal) (w : Bool) (x : Option AVal) (h : AHeap) (k : AVal → AHeap → Rs) : gP c w x h k = @Bnd (sGuard c w (lift x h) h) ⟨k⟩ := nrfl
@[simp↓] theorem to_gV (c : AVal) (w : Bool) (v : AVal) (h : AHeap) (k : AVal → AHeap → Rs) : gV c w v h k = @Bnd (sGuard c w (some (v, h)) h) ⟨k⟩ := nrfl

section
variable {P : Program} {I : Inp} {h : AHeap} {α : Type}

@[simp] theorem Res_some {v : AVal} {Q : AVal → AHeap → Prop} : Res (some (v, h)) Q ↔ Q v h :=
  ⟨fun ⟨_, _, e, hq⟩ => by cases e; exact hq, fun hq => ⟨_, _, rfl, hq⟩⟩
theorem Res.mono {r : Rs} {Q Q' : AVal → AHeap → Prop} (hr : Res r Q) (hq : ∀ v h, Q v h → Q' v h) : Res r Q' :=
  let ⟨v, h', e, q⟩ := hr; ⟨v, h', e, hq _ _ q⟩
theorem Res.thn {r : Rs} {k : AVal → AHeap → Rs} {Q : AVal → AHeap → Prop} (hr : Res r fun v h' => Res (k v h') Q) : Res (bnd r k) Q := by
  obtain ⟨v, h', e, q⟩ := hr
  rw [e]; exact q
theorem Res.eq {r : Rs} {v : AVal} {h' : AHeap} (hr : Res r fun u g => u = v ∧ g = h') : r = some (v, h') := by
  obtain ⟨_, _, e, rfl, rfl⟩ := hr; exact e
theorem Res.of_eq {r : Rs} {v : AVal} {h' : AHeap} {Q : AVal → AHeap → Prop} (e : r = some (v, h')) (q : Q v h') : Res r Q := ⟨v, h', e, q⟩
theorem Res_fork {p : Prop} {a b : Rs} {Q : AVal → AHeap → Prop} (ha : p → Res a Q) (hb : ¬ p → Res b Q) : Res (@Fork p ⟨a⟩ ⟨b⟩) Q := by
  unfold Fork
  split
  · exact ha ‹_›
  · exact hb ‹_›
@[simp] theorem Fork_true (a b : Rs) : @Fork True ⟨a⟩ ⟨b⟩ = a := if_pos trivial
@[simp] theorem Fork_false (a b : Rs) : @Fork False ⟨a⟩ ⟨b⟩ = b := if_neg id
@[simp] theorem Fork_not (p : Prop) (a b : Rs) : @Fork (¬ p) ⟨a⟩ ⟨b⟩ = @Fork p ⟨b⟩ ⟨a⟩ := by
  unfold Fork
  by_cases hp : p <;> simp [hp]

/-- What a test's two ways tell besides. -/
class Opp (p : Prop) (q r : outParam Prop) : Prop where
  yes : p → q
  no : ¬ p → r
instance (priority := low) (p : Prop) : Opp p True True := ⟨fun _ => trivial, fun _ => trivial⟩
instance (a b : Int) : Opp (a < b) (¬ b ≤ a) (b ≤ a) := ⟨Int.not_le.2, Int.not_lt.1⟩
instance (a b : Int) : Opp (a ≤ b) (¬ b < a) (b < a) := ⟨Int.not_lt.2, Int.not_le.1⟩
theorem Rf {p q r : Prop} {a b : Rs} {Q : AVal → AHeap → Prop} [c : Opp p q r] (ha : p → q → Res a Q) (hb : ¬ p → r → Res b Q) : Res (@Fork p ⟨a⟩ ⟨b⟩) Q :=
  Res_fork (fun h => ha h (c.yes h)) (fun h => hb h (c.no h))

/-- Of all counts from some on. -/
def Evt (F : Nat → Prop) : Prop := ∃ N, ∀ n, N ≤ n → F n
theorem Evt.shift {F : Nat → Prop} (c : Nat) (hf : ∃ N, ∀ m, N ≤ m → F (m + c)) : Evt F := by
  obtain ⟨N, hN⟩ := hf
  exact ⟨N + c, fun n hn => by have := hN (n - c) (by omega); rwa [show n - c + c = n by omega] at this⟩
theorem Evt.all {F : Nat → Prop} (c : Nat) (hf : ∀ m, F (m + c)) : Evt F := Evt.shift c ⟨0, fun m _ => hf m⟩
theorem Evt.step {F G : Nat → Prop} (c : Nat) (hg : Evt G) (hf : ∀ m, (∀ n, m ≤ n → G n) → F (m + c)) : Evt F := by
  obtain ⟨N, hN⟩ := hg
  exact Evt.shift c ⟨N, fun m hm => hf m fun n hn => hN n (Nat.le_trans hm hn)⟩

/-- A loop over a list, by the place it stands at. -/
theorem Evt.loop {α : Type} (xs : List α) {F : Nat → Nat → Prop} (c : Nat) (hend : Evt (F xs.length)) (hstep : ∀ i x n, xs[i]? = some x → (∀ m, n ≤ m → F (i + 1) m) → F i (n + c)) (i : Nat) (hi : i ≤ xs.length) : Evt (F i) := by
  have key : ∀ d i, xs.length = i + d → Evt (F i) := by
    intro d
    induction d with
    | zero => intro i hi; obtain rfl : i = xs.length := by omega
              exact hend
    | succ d ih =>
      intro i hi
      have hlt : i < xs.length := by omega
      exact Evt.step c (ih (i + 1) (by omega)) fun m hm => hstep i xs[i] m (List.getElem?_eq_getElem hlt) hm
  exact key (xs.length - i) i (by omega)
/-- .. whose rounds hold loops of their own. -/
theorem Evt.loop' {α : Type} (xs : List α) {F : Nat → Nat → Prop} (hend : Evt (F xs.length)) (hstep : ∀ i x, xs[i]? = some x → Evt (F (i + 1)) → Evt (F i)) (i : Nat) (hi : i ≤ xs.length) : Evt (F i) := by
  have key : ∀ d i, xs.length = i + d → Evt (F i) := by
    intro d
    induction d with
    | zero => intro i hi; obtain rfl : i = xs.length := by omega
              exact hend
    | succ d ih =>
      intro i hi
      have hlt : i < xs.length := by omega
      exact hstep i xs[i] (List.getElem?_eq_getElem hlt) (ih (i + 1) (by omega))
  exact key (xs.length - i) i (by omega)
theorem drop_of_get {α : Type} {xs : List α} {i : Nat} {x : α} (hx : xs[i]? = some x) : xs.drop i = x :: xs.drop (i + 1) := by
  obtain ⟨hl, rfl⟩ := List.getElem?_eq_some_iff.1 hx
  exact List.drop_eq_getElem_cons hl
theorem lt_of_get {α : Type} {xs : List α} {i : Nat} {x : α} (hx : xs[i]? = some x) : i < xs.length := (List.getElem?_eq_some_iff.1 hx).1

/-! ### heaps -/
@[simp] theorem AHeap.next_alloc (b : Blk) : (h.alloc b).next = h.next + 1 := nrfl
@[simp] theorem AHeap.next_set (k : Nat) (b : Blk) : (h.set k b).next = h.next := nrfl
@[simp] theorem AHeap.next_kill (k : Nat) : (h.kill k).next = h.next := nrfl
/-- Some numbers are kept. -/
@[irreducible] def AHeap.rsv (h : AHeap) (m : Nat) : AHeap := ⟨h.t, h.next + m⟩
theorem AHeap.rsv_eq (h : AHeap) (m : Nat) : h.rsv m = ⟨h.t, h.next + m⟩ := by unfold AHeap.rsv; rfl
@[simp] theorem AHeap.next_res (m : Nat) : (h.rsv m).next = h.next + m := by rw [AHeap.rsv_eq]
/-- How two numbers stand (simp does not look into it). -/
def Nb (r : Nat → Nat → Prop) (a b : Nat) : Prop := r a b
abbrev AHeap.At : Nat → Nat → Prop := Nb Eq
abbrev AHeap.Ne : Nat → Nat → Prop := Nb (fun a b => a ≠ b)
abbrev AHeap.Le : Nat → Nat → Prop := Nb LE.le
section
variable {r : Nat → Nat → Prop} {b : Blk} {k j m : Nat}
theorem Nb.a (e : Nb r k (h.next + 1)) : Nb r k (h.alloc b).next := e
theorem Nb.s (e : Nb r k h.next) : Nb r k (h.set j b).next := e
theorem Nb.q (e : Nb r k h.next) : Nb r k (h.kill j).next := e
theorem Nb.t (e : Nb r k (h.next + m)) : Nb r k (h.rsv m).next := by rw [AHeap.next_res]; exact e
theorem Nb.o {a b : Nat} (e : r a b) : Nb r a b := e
end
@[simp] theorem AHeap.alloc_at {b : Blk} {k : Nat} (hk : AHeap.At k h.next) : (h.alloc b).get k = some b := by
  unfold AHeap.At Nb at hk
  rw [AHeap.get_alloc, if_pos hk]
@[simp] theorem AHeap.alloc_ne {b : Blk} {k : Nat} (hk : AHeap.Ne k h.next) : (h.alloc b).get k = h.get k := by
  unfold AHeap.Ne Nb at hk
  rw [AHeap.get_alloc, if_neg hk]
@[simp] theorem AHeap.set_at {b : Blk} {k m : Nat} (hk : AHeap.At m k) : (h.set k b).get m = some b := by
  unfold AHeap.At Nb at hk
  rw [AHeap.get_set, if_pos hk]
@[simp] theorem AHeap.set_ne {b : Blk} {k m : Nat} (hk : AHeap.Ne m k) : (h.set k b).get m = h.get m := by
  unfold AHeap.Ne Nb at hk
  rw [AHeap.get_set, if_neg hk]
@[simp] theorem AHeap.kill_ne {k m : Nat} (hk : AHeap.Ne m k) : (h.kill k).get m = h.get m := by
  unfold AHeap.Ne Nb at hk
  rw [AHeap.get_kill, if_neg hk]
@[simp] theorem AHeap.get_res (m k : Nat) : (h.rsv m).get k = h.get k := by rw [AHeap.rsv_eq]; rfl

/-- From a heap to a later one that has turned none of its blocks. -/
structure Ext (h h' : AHeap) : Prop where
  lo : h.next ≤ h'.next
  same : ∀ k, k < h.next → h'.get k = h.get k
theorem Ext.refl (h : AHeap) : Ext h h := ⟨Nat.le_refl _, fun _ _ => rfl⟩
theorem Ext.trans {h1 h2 h3 : AHeap} (e : Ext h1 h2) (e' : Ext h2 h3) : Ext h1 h3 :=
  ⟨Nat.le_trans e.lo e'.lo, fun k hk => (e'.same k (Nat.lt_of_lt_of_le hk e.lo)).trans (e.same k hk)⟩
theorem Ext.alloc {h1 h2 : AHeap} (e : Ext h1 h2) {b : Blk} : Ext h1 (h2.alloc b) :=
  ⟨by have := e.lo; simp; omega, fun k hk => by rw [AHeap.alloc_ne (Nb.o (by have := e.lo; omega))]; exact e.same k hk⟩
theorem Ext.set {h1 h2 : AHeap} (e : Ext h1 h2) {k : Nat} {b : Blk} (hk : AHeap.Le h1.next k) : Ext h1 (h2.set k b) :=
  ⟨e.lo, fun m hm => by rw [AHeap.set_ne (Nb.o (by unfold AHeap.Le Nb at hk; omega))]; exact e.same m hm⟩
theorem Ext.kill {h1 h2 : AHeap} (e : Ext h1 h2) {k : Nat} (hk : AHeap.Le h1.next k) : Ext h1 (h2.kill k) :=
  ⟨e.lo, fun m hm => by rw [AHeap.kill_ne (Nb.o (by unfold AHeap.Le Nb at hk; omega))]; exact e.same m hm⟩
theorem Ext.res {h1 h2 : AHeap} (e : Ext h1 h2) {m : Nat} : Ext h1 (h2.rsv m) := ⟨by have := e.lo; simp; omega, fun k hk => by rw [AHeap.get_res]; exact e.same k hk⟩

/-! Side goals: what is found without a word. -/
theorem Nb.go {r : Nat → Nat → Prop} {a b : Nat} (h : Nb r a b := by first | ((repeat (first | with_reducible refine Nb.a ?_ | with_reducible refine Nb.s ?_ | with_reducible refine Nb.q ?_ | with_reducible refine Nb.t ?_)); exact Nb.o (by first | omega | (simp only [AHeap.next_alloc, AHeap.next_set, AHeap.next_kill, AHeap.next_res]; done) | (simp only [AHeap.next_alloc, AHeap.next_set, AHeap.next_kill, AHeap.next_res]; omega))) | fail) : Nb r a b := h
theorem Ext.go {a b : AHeap} (h : Ext a b := by first | ((repeat' (first | assumption | exact Ext.refl _ | refine Ext.trans eb ?_ | refine Ext.alloc ?_ | refine Ext.res ?_ | refine Ext.set ?_ ?_ | refine Ext.kill ?_ ?_ | (show Nb _ _ _; exact Nb.go) | refine Ext.trans ?_ (by assumption))); done) | fail) : Ext a b := h
theorem D.go {p : Prop} (h : p := by first | omega | assumption | (show Nb _ _ _; exact Nb.go) | (simp only [AHeap.next_alloc, AHeap.next_set, AHeap.next_kill, AHeap.next_res]; omega) | (show Ext _ _; exact Ext.go) | fail) : p := h

/-- A call's answer; nothing old is turned. -/
def Ret (r : Rs) (h : AHeap) (s : AVal) : Prop := Res r fun v g => v = s ∧ Ext h g
theorem Ret.mk {r : Rs} {s : AVal} {g : AHeap} (e : r = some (s, g)) (x : Ext h g) : Ret r h s := ⟨s, g, e, rfl, x⟩
theorem Ret.thn {r : Rs} {s : AVal} {h0 : AHeap} {k : AVal → AHeap → Rs} {Q : AVal → AHeap → Prop} (c : Ret r h s) (e : Ext h0 h) (hk : ∀ g, Ext h0 g → h0.next ≤ g.next → h.next ≤ g.next → (∀ k, k < h.next → g.get k = h.get k) → Ext h g → Res (k s g) Q) : Res (@Bnd r ⟨k⟩) Q := by
  obtain ⟨v, g, er, rfl, x⟩ := c
  rw [er]
  exact hk g (e.trans x) (e.trans x).lo x.lo x.same x
/-- A call's answer and what holds of it. -/
theorem Res.call {r : Rs} {h0 : AHeap} {k : AVal → AHeap → Rs} {Q A : AVal → AHeap → Prop} (c : Res r fun v g => A v g ∧ Ext h g) (e : Ext h0 h) (hk : ∀ v g, A v g → Ext h0 g → h0.next ≤ g.next → h.next ≤ g.next → (∀ k, k < h.next → g.get k = h.get k) → Ext h g → Res (k v g) Q) : Res (@Bnd r ⟨k⟩) Q := by
  obtain ⟨v, g, er, a, x⟩ := c
  rw [er]
  exact hk v g a (e.trans x) (e.trans x).lo x.lo x.same x

/-- An answer's condition, of an equal thing. -/
theorem Res_post {β : Type} {A : β → AVal → AHeap → Prop} {b b' : β} {r : Rs} {hb : AHeap} (c : Res r fun u g => A b u g ∧ Ext hb g) (e : b = b') : Res r fun u g => A b' u g ∧ Ext hb g := by rw [← e]; exact c

/-! ### straight code -/
@[simp] theorem Bnd_some (v : AVal) (k : AVal → AHeap → Rs) : @Bnd (some (v, h)) ⟨k⟩ = k v h := nrfl
@[simp] theorem Bnd_none (k : AVal → AHeap → Rs) : @Bnd none ⟨k⟩ = none := nrfl
@[simp] theorem BndP_some (v : AVal) (k : AVal → Rs) : @BndP (some v) ⟨k⟩ = k v := nrfl
@[simp] theorem BndP_none (k : AVal → Rs) : @BndP none ⟨k⟩ = none := nrfl
@[simp] theorem lift_some' (v : AVal) : lift (some v) h = some (v, h) := nrfl
@[simp] theorem sGuard_tt (r : Rs) : sGuard (.bool true) true r h = r := nrfl
@[simp] theorem sGuard_ff (r : Rs) : sGuard (.bool false) false r h = r := nrfl
@[simp] theorem sGuard_tf (r : Rs) : sGuard (.bool true) false r h = some (aundef, h) := nrfl
@[simp] theorem sGuard_ft (r : Rs) : sGuard (.bool false) true r h = some (aundef, h) := nrfl
@[simp] theorem sGuard_un (w : Bool) (r : Rs) : sGuard aundef w r h = some (aundef, h) := nrfl
@[simp] theorem Cond_any (b : Bool) (e t : Rs) : @Cond (.bool b) ⟨e⟩ ⟨t⟩ = @Fork (b = true) ⟨t⟩ ⟨e⟩ := by
  unfold Fork
  cases b
  · rw [if_neg (by simp)]; rfl
  · rw [if_pos rfl]; rfl
@[simp] theorem guard_t_any (b : Bool) (r : Rs) (k : AVal → AHeap → Rs) : @Bnd (sGuard (.bool b) true r h) ⟨k⟩ = @Fork (b = true) ⟨@Bnd r ⟨k⟩⟩ ⟨k aundef h⟩ := by
  unfold Fork
  cases b <;> simp
@[simp] theorem guard_f_any (b : Bool) (r : Rs) (k : AVal → AHeap → Rs) : @Bnd (sGuard (.bool b) false r h) ⟨k⟩ = @Fork (b = true) ⟨k aundef h⟩ ⟨@Bnd r ⟨k⟩⟩ := by
  unfold Fork
  cases b <;> simp
@[simp] theorem sCheck_t (r : Rs) : sCheck true r = r := nrfl
@[simp] theorem pPick_t (a b : AVal) : pPick (.bool true) a b = some a := nrfl
@[simp] theorem pPick_f (a b : AVal) : pPick (.bool false) a b = some b := nrfl
@[simp] theorem pick_any (b : Bool) (x y : AVal) (k : AVal → Rs) : @BndP (pPick (.bool b) x y) ⟨k⟩ = @Fork (b = true) ⟨k x⟩ ⟨k y⟩ := by
  unfold Fork
  cases b <;> simp
@[simp] theorem pNilCheck_ptr (l : Loc) (o : Nat) : pNilCheck (.ptr l o) = some (.ptr l o) := nrfl
@[simp] theorem pNilCheck_sl (l : Loc) (o n : Nat) (c : Cap) : pNilCheck (.sl l o n c) = some (.sl l o n c) := nrfl
@[simp] theorem pNilCheck_func (g : Nat) (a b : List AVal) : pNilCheck (.func (.func g) a b) = some (.func (.func g) a b) := nrfl
@[simp] theorem pFieldAddr_ptr (off : Nat) (l : Loc) (o : Nat) : pFieldAddr off (.ptr l o) = some (.ptr l (o + off)) := nrfl
@[simp] theorem pLoad1_ptr (l : Loc) (o : Nat) : pLoad1 I (.ptr l o) h = rd I h l o := rdK_eq ..
@[simp] theorem pLoadN_ptr (n : Nat) (l : Loc) (o : Nat) : pLoadN I n (.ptr l o) h = (rds I h l o n).map .agg := by
  show (match rdsK I h l o n with | some cs => some (AVal.agg cs) | none => none) = _
  rw [rdsK_eq]; cases rds I h l o n <;> rfl
@[simp] theorem sRes1_ptr (l : Loc) (o : Nat) : sRes1 I (.ptr l o) h = rd I h l o := nrfl
@[simp] theorem sResN_ptr (n : Nat) (l : Loc) (o : Nat) : sResN I n (.ptr l o) h = (rds I h l o n).map .agg := nrfl
@[simp] theorem sCons_some (v : AVal) (vs : List AVal) : sCons (some v) (some vs) = some (v :: vs) := nrfl
@[simp] theorem sRet_one (v : AVal) : sRet (some [v]) h = some (v, h) := nrfl
@[simp] theorem sRet_two (v u : AVal) (vs : List AVal) : sRet (some (v :: u :: vs)) h = some (.tuple (v :: u :: vs), h) := nrfl
@[simp] theorem sRet_none : sRet (some []) h = some (.tuple [], h) := nrfl
@[simp] theorem pField1_agg (off : Nat) (cs : List AVal) : pField1 off (.agg cs) = cs[off]? := nthK_eq ..
@[simp] theorem pExtract_tuple (vs : List AVal) (i : Nat) : pExtract (.tuple vs) i = vs[i]? := nthK_eq ..
@[simp] theorem pUn_not (b : Bool) : pUn .not (.bool b) = some (.bool !b) := nrfl
@[simp] theorem pLenSl_nils : pLenSl .nils = some (.int .i64 0) := nrfl
@[simp] theorem pLenSl_sl (l : Loc) (o n : Nat) (c : Cap) : pLenSl (.sl l o n c) = some (.int .i64 n) := nrfl
@[simp] theorem pLenStr_str (s : List Nat) : pLenStr (.str s) = some (.int .i64 s.length) := nrfl
theorem pIndexAddr_sl {sz : Nat} {l : Loc} {o n j : Nat} {c : Cap} {k : IntKind} (hj : j < n) : pIndexAddr sz (.sl l o n c) (.int k (j : Int)) = some (.ptr l (o + j * sz)) := by
  show (match Nat.blt j n with | true => some (AVal.ptr l (o + j * sz)) | false => none) = _
  rw [blt_iff]; simp [hj]
@[simp] theorem sCallv_func (C : CallFn) (g : Nat) (a b x : List AVal) : sCallv C (.func (.func g) a b) x h = C g (a ++ x ++ b) h := nrfl

@[simp] theorem cells_int (k : IntKind) (n : Int) : (.int k n : AVal).cells = [.int k n] := nrfl
@[simp] theorem one_int (k : IntKind) (n : Int) : (.int k n : AVal).one = true := nrfl
@[simp] theorem cells_bool (b : Bool) : (.bool b : AVal).cells = [.bool b] := nrfl
@[simp] theorem one_bool (b : Bool) : (.bool b : AVal).one = true := nrfl
@[simp] theorem cells_str (s : List Nat) : (.str s : AVal).cells = [.str s] := nrfl
@[simp] theorem one_str (s : List Nat) : (.str s : AVal).one = true := nrfl
@[simp] theorem cells_nilp : (.nilp : AVal).cells = [.nilp] := nrfl
@[simp] theorem one_nilp : (.nilp : AVal).one = true := nrfl
@[simp] theorem cells_ptr (l : Loc) (o : Nat) : (.ptr l o : AVal).cells = [.ptr l o] := nrfl
@[simp] theorem one_ptr (l : Loc) (o : Nat) : (.ptr l o : AVal).one = true := nrfl
@[simp] theorem cells_nils : (.nils : AVal).cells = [.nils] := nrfl
@[simp] theorem one_nils : (.nils : AVal).one = true := nrfl
@[simp] theorem cells_sl (l : Loc) (o n : Nat) (c : Cap) : (.sl l o n c : AVal).cells = [.sl l o n c] := nrfl
@[simp] theorem one_sl (l : Loc) (o n : Nat) (c : Cap) : (.sl l o n c : AVal).one = true := nrfl
@[simp] theorem cells_nilf : (.nilf : AVal).cells = [.nilf] := nrfl
@[simp] theorem one_nilf : (.nilf : AVal).one = true := nrfl
@[simp] theorem cells_func (f : Fn) (a b : List AVal) : (.func f a b : AVal).cells = [.func f a b] := nrfl
@[simp] theorem one_func (f : Fn) (a b : List AVal) : (.func f a b : AVal).one = true := nrfl
@[simp] theorem cells_nili : (.nili : AVal).cells = [.nili] := nrfl
@[simp] theorem one_nili : (.nili : AVal).one = true := nrfl
@[simp] theorem cells_iface (t : TypeId) (v : AVal) : (.iface t v : AVal).cells = [.iface t v] := nrfl
@[simp] theorem one_iface (t : TypeId) (v : AVal) : (.iface t v : AVal).one = true := nrfl
@[simp] theorem cells_agg (cs : List AVal) : (.agg cs : AVal).cells = cs := nrfl
@[simp] theorem zerosFrom_zero (z : List AVal) (i : Nat) : zerosFrom z i 0 = [] := nrfl
@[simp] theorem setR_all {β : Type} (l xs : List β) (e : xs.length = l.length) : setR l 0 xs = xs := by
  unfold setR
  rw [List.take_zero, List.nil_append, Nat.zero_add, e, List.drop_length, List.append_nil]

/-! comparing, counting -/
/-- Does it hold? (no instance: the kernel never reckons it out) -/
def dc (p : Prop) : Bool := @decide p (Classical.propDecidable p)
theorem dc_decide (p : Prop) [Decidable p] : dc p = decide p := by unfold dc; congr
@[simp] theorem dc_eq_true (p : Prop) : (dc p = true) = p := by simp [dc]
@[simp] theorem dc_eq_false (p : Prop) : (dc p = false) = ¬ p := by simp [dc]
@[simp] theorem dc_true : dc True = true := by simp [dc]
@[simp] theorem dc_false : dc False = false := by simp [dc]
@[simp] theorem dc_not (p : Prop) : dc (¬ p) = !dc p := by by_cases h : p <;> simp [dc, h]
@[simp] theorem dc_and (p q : Prop) : dc (p ∧ q) = (dc p && dc q) := by by_cases h : p <;> by_cases h' : q <;> simp [dc, h, h']
@[simp] theorem dc_or (p q : Prop) : dc (p ∨ q) = (dc p || dc q) := by by_cases h : p <;> by_cases h' : q <;> simp [dc, h, h']
@[simp] theorem dc_inj (p q : Prop) : (dc p = dc q) = (p ↔ q) := by by_cases h : p <;> by_cases h' : q <;> simp [dc, h, h']
@[simp] theorem dc_bool (b : Bool) : dc (b = true) = b := by cases b <;> simp [dc]
@[simp] theorem dc_boolf (b : Bool) : dc (b = false) = !b := by cases b <;> simp [dc]
theorem dc_of {p : Prop} (h : p) : dc p = true := by simp [h]
theorem dc_off {p : Prop} (h : ¬ p) : dc p = false := by simp [h]
@[simp] theorem pBin_add (k : IntKind) (a b : Int) : pBin .add (.int k a) (.int k b) = some (.int k (k.wrap (a + b))) := by simp [pBin, abin, ibin]
@[simp] theorem pBin_sub (k : IntKind) (a b : Int) : pBin .sub (.int k a) (.int k b) = some (.int k (k.wrap (a - b))) := by simp [pBin, abin, ibin]
@[simp] theorem pBin_mul (k : IntKind) (a b : Int) : pBin .mul (.int k a) (.int k b) = some (.int k (k.wrap (a * b))) := by simp [pBin, abin, ibin]
@[simp] theorem pBin_eql (k : IntKind) (a b : Int) : pBin .eql (.int k a) (.int k b) = some (.bool (dc (a = b))) := by simp [pBin, abin, ibin, eqI_spec, dc_decide]; rfl
@[simp] theorem pBin_neq (k : IntKind) (a b : Int) : pBin .neq (.int k a) (.int k b) = some (.bool (dc (¬ a = b))) := by simp [pBin, abin, ibin, eqI_spec, dc_decide]; rfl
@[simp] theorem pBin_lss (k : IntKind) (a b : Int) : pBin .lss (.int k a) (.int k b) = some (.bool (dc (a < b))) := by simp [pBin, abin, ibin, ltI_spec, dc_decide]
@[simp] theorem pBin_gtr (k : IntKind) (a b : Int) : pBin .gtr (.int k a) (.int k b) = some (.bool (dc (b < a))) := by simp [pBin, abin, ibin, ltI_spec, dc_decide]
@[simp] theorem pBin_leq (k : IntKind) (a b : Int) : pBin .leq (.int k a) (.int k b) = some (.bool (dc (a ≤ b))) := by simp [pBin, abin, ibin, ltI_spec, dc_decide, ← Int.not_lt]
@[simp] theorem pBin_geq (k : IntKind) (a b : Int) : pBin .geq (.int k a) (.int k b) = some (.bool (dc (b ≤ a))) := by simp [pBin, abin, ibin, ltI_spec, dc_decide, ← Int.not_lt]

@[simp] theorem pEq_ptr_nil (neg c : Bool) (l : Loc) (o : Nat) : pEq P neg .ptr c (.ptr l o) .nilp h = some (.bool neg) := by cases neg <;> rfl
@[simp] theorem pEq_nil_ptr (neg c : Bool) (l : Loc) (o : Nat) : pEq P neg .ptr c .nilp (.ptr l o) h = some (.bool neg) := by cases neg <;> rfl
@[simp] theorem pEq_nil_nil (neg c : Bool) : pEq P neg .ptr c .nilp .nilp h = some (.bool !neg) := by cases neg <;> rfl
@[simp] theorem pEq_sl_nil (neg c : Bool) (l : Loc) (o n : Nat) (cp : Cap) : pEq P neg .slice c (.sl l o n cp) .nils h = some (.bool neg) := by cases neg <;> rfl
@[simp] theorem pEq_nils (neg c : Bool) : pEq P neg .slice c .nils .nils h = some (.bool !neg) := by cases neg <;> rfl
@[simp] theorem pEq_nili (neg : Bool) : pEq P neg .iface true .nili .nili h = some (.bool !neg) := by cases neg <;> rfl
@[simp] theorem pEq_iface_nili (neg c : Bool) (t : TypeId) (v : AVal) : pEq P neg .iface c (.iface t v) .nili h = some (.bool neg) := by cases neg <;> rfl
@[simp] theorem pEq_bool (neg c : Bool) (a b : Bool) : pEq P neg .bool c (.bool a) (.bool b) h = some (.bool (if neg then !(a == b) else (a == b))) := nrfl

/-- A number that an int holds. -/
def InR (n : Int) : Prop := -9223372036854775808 ≤ n ∧ n < 9223372036854775808
theorem wrap_in {n : Int} (h : InR n) : IntKind.i64.wrap n = n := by
  obtain ⟨h0, h1⟩ := h
  simp [IntKind.wrap, IntKind.bits, IntKind.signed]; omega

theorem wrap_addl (a b : Int) : IntKind.i64.wrap (IntKind.i64.wrap a + b) = IntKind.i64.wrap (a + b) := by
  simp [IntKind.wrap, IntKind.bits, IntKind.signed]; omega
theorem wrap_addr (a b : Int) : IntKind.i64.wrap (a + IntKind.i64.wrap b) = IntKind.i64.wrap (a + b) := by
  simp [IntKind.wrap, IntKind.bits, IntKind.signed]; omega
theorem wrap_wrap (a : Int) : IntKind.i64.wrap (IntKind.i64.wrap a) = IntKind.i64.wrap a := by
  simp [IntKind.wrap, IntKind.bits, IntKind.signed]; omega
theorem wrap_rng (a : Int) : InR (IntKind.i64.wrap a) := by
  unfold InR
  simp [IntKind.wrap, IntKind.bits, IntKind.signed]; omega
/-- A sum over a list. -/
def sumL {α : Type} (f : α → Int) : List α → Int
  | [] => 0
  | x :: xs => f x + sumL f xs

/-- All of a list (simp does not look into it). -/
def AllL {α : Type} (p : α → Prop) (xs : List α) : Prop := ∀ x ∈ xs, p x
instance {α : Type} (p : α → Prop) [DecidablePred p] (xs : List α) : Decidable (AllL p xs) := by unfold AllL; infer_instance
@[simp] theorem AllL_nil {α : Type} (p : α → Prop) : AllL p [] ↔ True := by simp [AllL]
@[simp] theorem AllL_cons {α : Type} (p : α → Prop) (x : α) (xs : List α) : AllL p (x :: xs) ↔ p x ∧ AllL p xs := by simp [AllL]

theorem sumL_one {α : Type} (xs : List α) : sumL (fun _ => (1 : Int)) xs = xs.length := by
  induction xs with
  | nil => rfl
  | cons x xs ih => simp only [sumL, ih, List.length_cons]; omega

theorem AllL_take {α : Type} {p : α → Prop} {xs : List α} {i : Nat} {x : α} (h : AllL p (xs.take i)) (hx : xs[i]? = some x) (px : p x) : AllL p (xs.take (i + 1)) := by
  intro y hy
  rw [List.take_add_one, hx] at hy
  rcases List.mem_append.1 hy with hy | hy
  · exact h y hy
  · simp at hy; subst hy; exact px

/-! making and storing -/
@[simp] theorem sAlloc_eq {z : List AVal} : sAlloc z h = some (.ptr (.own h.next) 0, h.alloc ⟨z, true⟩) := nrfl
@[simp] theorem sBox_eq {x : AVal} : sBox x h = some (.ptr (.own h.next) 0, h.alloc ⟨x.cells, true⟩) := nrfl
theorem sBuildSlice_eq {z : List AVal} {n : Nat} {ps : List (Nat × Nat × AVal)} {cs : List AVal} (hf : fillV (zeros z (n * z.length)) ps = some cs) :
    sBuildSlice z n ps h = some (.sl (.own h.next) 0 n (.known n), h.alloc ⟨cs, true⟩) := by simp only [sBuildSlice, hf]; rfl
@[simp] theorem sKeep_eq (m : Nat) (k : AHeap → Rs) : sKeep m h k = k (h.rsv (m + 1)) := by rw [AHeap.rsv_eq]; rfl

@[simp] theorem fillV_nil (cs : List AVal) : fillV cs [] = some cs := nrfl
@[simp] theorem fillV_cons (cs : List AVal) (off sz : Nat) (x : AVal) (r : List (Nat × Nat × AVal)) :
    fillV cs ((off, sz, x) :: r) = if x.cells.length = sz ∧ off + x.cells.length ≤ cs.length then fillV (setR cs off x.cells) r else none := by
  show (match Nat.beq (lenK x.cells) sz with
    | true => Option.rec (motive := fun _ => Option (List AVal)) none (fun cs => fillV cs r) (setK off x.cells cs)
    | false => none) = _
  rw [lenK_eq, setK_eq, beq_iff]
  by_cases h1 : x.cells.length = sz
  · by_cases h2 : off + x.cells.length ≤ cs.length
    · simp only [h1, decide_true, true_and]
      rw [if_pos (by omega), Nat.ble_eq_true_of_le (by omega)]
    · have : Nat.ble (off + x.cells.length) cs.length = false := by
        cases hx : Nat.ble (off + x.cells.length) cs.length with
        | false => rfl
        | true => exact absurd (Nat.le_of_ble_eq_true hx) h2
      simp only [h1, decide_true, true_and]
      rw [if_neg (by omega), ← h1, this]
  · simp only [h1, decide_false, false_and, if_false]
@[simp] theorem pBuild_eq (z : List AVal) (ps : List (Nat × Nat × AVal)) : pBuild z ps = (fillV z ps).map .agg := by
  unfold pBuild
  cases fillV z ps <;> rfl
@[simp] theorem sBuildSlice_eq' (z : List AVal) (n : Nat) (ps : List (Nat × Nat × AVal)) : sBuildSlice z n ps h = (fillV (zeros z (n * z.length)) ps).map fun cs => (.sl (.own h.next) 0 n (.known n), h.alloc ⟨cs, true⟩) := by
  unfold sBuildSlice
  cases fillV (zeros z (n * z.length)) ps <;> rfl
@[simp] theorem zeros_eq (z : List AVal) (n : Nat) : zeros z n = zerosFrom z 0 n := nrfl
@[simp] theorem zerosFrom_succ (z : List AVal) (i n : Nat) : zerosFrom z i (n + 1) = z.getD (i % z.length) .nilp :: zerosFrom z (i + 1) n := by
  first | rfl | simp [zerosFrom]

/-! checks of draws -/
@[simp] theorem sSame_some (v v' : AVal) : sSame (some (v', h)) v = v'.eqb v := nrfl
@[simp] theorem eqb_int (k : IntKind) (n : Int) : (AVal.int k n).eqb (.int k n) = true := by simp [AVal.eqb]
@[simp] theorem eqb_bool (b : Bool) : (AVal.bool b).eqb (.bool b) = true := by simp [AVal.eqb]
@[simp] theorem eqb_agg (a b : List AVal) : (AVal.agg a).eqb (.agg b) = AVal.eqbs a b := by simp [AVal.eqb]
@[simp] theorem eqb_tuple (a b : List AVal) : (AVal.tuple a).eqb (.tuple b) = AVal.eqbs a b := by simp [AVal.eqb]
@[simp] theorem eqbs_nil : AVal.eqbs [] [] = true := by simp [AVal.eqbs]
@[simp] theorem eqbs_cons (a b : AVal) (x y : List AVal) : AVal.eqbs (a :: x) (b :: y) = (a.eqb b && AVal.eqbs x y) := by simp [AVal.eqbs]
@[simp] theorem eqb_map (k : Nat) : (AVal.map k).eqb (.map k) = true := by simp [AVal.eqb]
@[simp] theorem eqb_nilm : AVal.nilm.eqb .nilm = true := by simp [AVal.eqb]
@[simp] theorem eqb_nilp : AVal.nilp.eqb .nilp = true := by simp [AVal.eqb]
@[simp] theorem eqb_nils : AVal.nils.eqb .nils = true := by simp [AVal.eqb]
@[simp] theorem eqb_nili : AVal.nili.eqb .nili = true := by simp [AVal.eqb]
@[simp] theorem Loc.eqb_self (l : Loc) : l.eqb l = true := by cases l <;> simp [Loc.eqb]
@[simp] theorem Cap.eqb_self (c : Cap) : c.eqb c = true := by cases c <;> simp [Cap.eqb]
@[simp] theorem eqb_ptr (l : Loc) (o : Nat) : (AVal.ptr l o).eqb (.ptr l o) = true := by simp [AVal.eqb]
@[simp] theorem eqb_sl (l : Loc) (o n : Nat) (c : Cap) : (AVal.sl l o n c).eqb (.sl l o n c) = true := by simp [AVal.eqb]
@[simp] theorem eqb_iface (t : TypeId) (a b : AVal) : (AVal.iface t a).eqb (.iface t b) = a.eqb b := by simp [AVal.eqb]
@[simp] theorem natsEq_self : ∀ (s : List Nat), natsEq s s = true
  | [] => rfl
  | a :: s => by simp [natsEq, natsEq_self s]
@[simp] theorem eqb_str (s : List Nat) : (AVal.str s).eqb (.str s) = true := by simp [AVal.eqb]

/-! reading and writing, whatever the heap -/
@[simp] theorem rd_own' (k o : Nat) : rd I h (.own k) o = (h.get k).bind fun b => b.cells[o]? := by
  simp only [rd]; cases h.get k <;> rfl
@[simp] theorem rds_own' (k o n : Nat) : rds I h (.own k) o n = (h.get k).bind fun b => if o + n ≤ b.cells.length then some ((b.cells.drop o).take n) else none := by
  simp only [rds]
  cases h.get k with
  | none => rfl
  | some b =>
    simp only [Option.bind_some]
    by_cases hl : o + n ≤ b.cells.length
    · rw [if_pos hl, Nat.ble_eq_true_of_le hl]
    · have : Nat.ble (o + n) b.cells.length = false := by
        cases hx : Nat.ble (o + n) b.cells.length with
        | false => rfl
        | true => exact absurd (Nat.le_of_ble_eq_true hx) hl
      rw [if_neg hl, this]
@[simp] theorem wr_mk (cells : List AVal) (p : Bool) (o : Nat) (cs : List AVal) : (⟨cells, p⟩ : Blk).wr o cs = if o + cs.length ≤ cells.length ∧ cs.all AVal.one = true then some ⟨setR cells o cs, p⟩ else none := by
  unfold Blk.wr
  have hble : Nat.ble (o + cs.length) cells.length = decide (o + cs.length ≤ cells.length) := by rw [Bool.eq_iff_iff]; simp
  simp only [hble]
  by_cases hl : o + cs.length ≤ cells.length <;> by_cases h1 : cs.all AVal.one = true
  · simp only [hl, h1, and_self, if_true, decide_true, Bool.true_and]
  · have : cs.all AVal.one = false := by simpa using h1
    rw [this]; simp [hl]
  · simp only [hl, decide_false, Bool.false_and, false_and, if_false]
  · simp only [hl, decide_false, Bool.false_and, false_and, if_false]
@[simp] theorem sStore_own' (n k o : Nat) (x : AVal) : sStore n (.ptr (.own k) o) x h = (h.get k).bind fun b => if x.cells.length = n then (b.wr o x.cells).map fun b' => (aundef, h.set k b') else none := by
  simp only [sStore, lenK_eq, Blk.wrK_eq]
  cases h.get k with
  | none => rfl
  | some b =>
    simp only [Option.bind_some, beq_iff]
    by_cases hl : x.cells.length = n
    · simp only [hl, decide_true, if_true]; cases b.wr o x.cells <;> rfl
    · simp only [hl, decide_false, if_false]

/-- An append to nil. -/
theorem sAppend_nils {sz bytes k n : Nat} {news : List AVal} {p : Bool} {c : Cap} (hk : h.get k = some ⟨news, p⟩) (hl : news.length = (n + 1) * sz) (h1 : news.all AVal.one = true) (hb : (n + 1) * bytes ≤ bigRoom ∧ n + 1 ≤ bigRoom) :
    sAppend I sz bytes .nils (.sl (.own k) 0 (n + 1) c) h = some (.sl (.own h.next) 0 (n + 1) (.grown sz), h.alloc ⟨news, true⟩) := by
  simp only [sAppend, appendK_eq, appendTo, srcCells, rds_own', hk, Option.bind_some]
  rw [if_pos (by simp [hl])]
  simp only [List.drop_zero, ← hl, List.take_length, h1]
  rw [show h.room = true from rfl, Nat.ble_eq_true_of_le hb.1, Nat.ble_eq_true_of_le hb.2]
  rfl

/-- An append to a slice that was grown and is full. -/
theorem sAppend_full {sz bytes k n kx len : Nat} {news olds : List AVal} {p px : Bool} {c : Cap} (hk : h.get k = some ⟨news, p⟩) (hl : news.length = (n + 1) * sz) (h1 : news.all AVal.one = true) (hkx : h.get kx = some ⟨olds, px⟩) (hlx : olds.length = len * sz) (h1x : olds.all AVal.one = true)
    (hsz : 0 < sz) (hb : (len + (n + 1)) * bytes ≤ bigRoom ∧ len + (n + 1) ≤ bigRoom) :
    sAppend I sz bytes (.sl (.own kx) 0 len (.grown sz)) (.sl (.own k) 0 (n + 1) c) h = some (.sl (.own h.next) 0 (len + (n + 1)) (.grown sz), (h.kill kx).alloc ⟨olds ++ news, px⟩) := by
  simp only [sAppend, appendK_eq, appendTo, srcCells, rds_own', hk, Option.bind_some]
  rw [if_pos (by simp [hl])]
  simp only [List.drop_zero, ← hl, List.take_length, h1, hkx]
  rw [Nat.ble_eq_true_of_le hb.1, Nat.ble_eq_true_of_le hb.2]
  have hle : Nat.ble (0 + olds.length) olds.length = true := Nat.ble_eq_true_of_le (by omega)
  have hgt : Nat.ble (0 + olds.length + news.length) olds.length = false := by
    cases hx : Nat.ble (0 + olds.length + news.length) olds.length with
    | false => rfl
    | true =>
      have := Nat.le_of_ble_eq_true hx
      have : 0 < (n + 1) * sz := Nat.mul_pos (by omega) hsz
      omega
  simp only [Bool.and_self, Nat.beq_refl, show h.room = true from rfl, ← hlx, List.take_length, h1x, hle, hgt]

/-! ### what lies at an address, from a heap on -/
/-- A cell holds a value, in this heap and all later ones. -/
def CellAt (I : Inp) (h0 : AHeap) (l : Loc) (o : Nat) (v : AVal) : Prop := ∀ g, Ext h0 g → rd I g l o = some v
theorem CellAt.mono {h1 : AHeap} {l : Loc} {o : Nat} {v : AVal} (c : CellAt I h l o v) (e : Ext h h1) : CellAt I h1 l o v := fun g x => c g (e.trans x)
theorem CellAt.own {k o : Nat} {v : AVal} {b : Blk} (hb : h.get k = some b) (hk : k < h.next) (hv : b.cells[o]? = some v) : CellAt I h (.own k) o v := fun g x => by
  rw [rd_own', x.same k hk, hb]; exact hv
theorem CellAt.inp {b o : Nat} {v : AVal} (hv : I b o = some v) : CellAt I h (.inp b) o v := fun _ _ => hv
def IntAt (I : Inp) (h0 : AHeap) (l : Loc) (o : Nat) (n : Int) : Prop := CellAt I h0 l o (.int .i64 n) ∧ InR n
theorem IntAt.mono {h1 : AHeap} {l : Loc} {o : Nat} {v : Int} (c : IntAt I h l o v) (e : Ext h h1) : IntAt I h1 l o v := ⟨c.1.mono e, c.2⟩
theorem rds_inp {b o n : Nat} : rds I h (.inp b) o n = rdsInp I b o n := rfl

end
end

end Go.AM

/- AM, part 31b: the short names' rules. Conditions: as each lemma says. -/
namespace Go.AM
noncomputable section
open Go.RowKit

section
variable {I : Inp} {n : Nat} {x y : AVal} {h : AHeap} {k : AVal → Rs} {kk : AVal → AHeap → Rs}
@[simp↓] theorem to_kN : kN x k = @BndP (pNilCheck x) ⟨k⟩ := nrfl
@[simp↓] theorem to_kF : kF n x k = @BndP (pFieldAddr n x) ⟨k⟩ := nrfl
@[simp↓] theorem to_kL : kL I x h k = @BndP (pLoad1 I x h) ⟨k⟩ := nrfl
@[simp↓] theorem to_kM : kM I n x h k = @BndP (pLoadN I n x h) ⟨k⟩ := nrfl
@[simp↓] theorem to_kI : kI n x y k = @BndP (pIndexAddr n x y) ⟨k⟩ := nrfl
@[simp↓] theorem to_kB {o : BinOp} : kB o x y k = @BndP (pBin o x y) ⟨k⟩ := nrfl
@[simp↓] theorem to_kZ : kZ x k = @BndP (pLenSl x) ⟨k⟩ := nrfl
@[simp↓] theorem to_kU {o : UnOp} : kU o x k = @BndP (pUn o x) ⟨k⟩ := nrfl
@[simp↓] theorem to_kX : kX x n k = @BndP (pExtract x n) ⟨k⟩ := nrfl
@[simp↓] theorem to_kP {c : AVal} : kP c x y k = @BndP (pPick c x y) ⟨k⟩ := nrfl
@[simp↓] theorem to_kE : kE n x k = @BndP (pField1 n x) ⟨k⟩ := nrfl
@[simp↓] theorem to_kC {call : CallFn} {g : Nat} {xs : List AVal} : kC call g xs h kk = @Bnd (call g xs h) ⟨kk⟩ := nrfl
@[simp↓] theorem to_kS : kS n x y h kk = @Bnd (sStore n x y h) ⟨kk⟩ := nrfl
@[simp↓] theorem to_kA {z : List AVal} : kA z h kk = @Bnd (sAlloc z h) ⟨kk⟩ := nrfl
end
section
variable {h : AHeap}
@[simp] theorem sResvAlloc_eq (k : Nat) (z : List AVal) : sResvAlloc k z h = some (.ptr (.own k) 0, h.set k ⟨z, true⟩) := nrfl
@[simp] theorem sResvBox_eq (k : Nat) (x : AVal) : sResvBox k x h = some (.ptr (.own k) 0, h.set k ⟨x.cells, true⟩) := nrfl
@[simp] theorem sResvSlice_eq (k : Nat) (z : List AVal) (n : Nat) (ps : List (Nat × Nat × AVal)) : sResvSlice k z n ps h = (fillV (zeros z (n * z.length)) ps).map fun cs => (.sl (.own k) 0 n (.known n), h.set k ⟨cs, true⟩) := by
  unfold sResvSlice
  cases fillV (zeros z (n * z.length)) ps <;> rfl
end
section
variable {P : Program} {I : Inp} {fn : AFunc}
theorem limOf {prims : Nat → Option Prim} {g n : Nat} {args : List AVal} {h : AHeap} {Q : AVal → AHeap → Prop} {s : SF} {r : Rs} (hp : prims g = none) (hc : codeOf P g = some fn) (hok : ∀ F, F g = some (.code fn) → SfOk P I F g s) (hr : Res r Q)
    (he : s (AM.lim ⟨P, I, genF P prims⟩) n args h = r) : Res (AM.lim ⟨P, I, genF P prims⟩ g args h) Q := by
  obtain ⟨v, h', e, q⟩ := hr
  exact ⟨v, h', lim_sf (C := ⟨P, I, genF P prims⟩) (n := n) (hok _ (genF_code hp hc)) (he.trans e), q⟩
end
end

end Go.AM

/- AM, part 28: what comes from without, as the abstract machine's values; arguments read behind the call as they did. Conditions: as each lemma says. -/
namespace Go.AM
noncomputable section
open Go.RowKit Go.WideShapes Go.ChangeShapes
set_option linter.unusedSectionVars false
variable [Sig]

/-- A value that came in, as the abstract machine has it. -/
def canon : Value → Option AVal
  | .bool b => some (.bool b)
  | .int k n => some (.int k n)
  | .string s => some (.str (s.data.toList.map UInt8.toNat))
  | .pointer none => some .nilp
  | .pointer (some ⟨b, o, none⟩) => some (.ptr (.inp (2 * b)) o)
  | .slice none 0 0 => some .nils
  | .slice (some _) 0 0 => some (.sl (.inp 0) 0 0 (.known 0))
  | .slice (some ⟨b, o, none⟩) len cap => if len ≤ cap then some (.sl (.inp (2 * b)) o len (.known cap)) else none
  | .nilFunc => some .nilf
  | .nilIface => some .nili
  | _ => none

theorem canon_rel {v : Value} {a : AVal} (h : canon v = some a) (ι : Map) : VRel ι a v := by
  unfold canon at h
  split at h
  case h_1 => cases h; exact .bool _
  case h_2 => cases h; exact .int _ _
  case h_3 => cases h; exact .str _ _ rfl
  case h_4 => cases h; exact .nilp
  case h_5 b o => cases h; exact .ptr _ _ _ (by show _ = _; rw [place_even]; simp)
  case h_6 => cases h; exact .nils
  case h_7 => cases h; exact .sl _ _ _ _ _ _ (Nat.le_refl _) (fun h => absurd h (by omega)) rfl
  case h_8 =>
    split at h
    · rename_i hle; cases h; exact .sl _ _ _ _ _ _ hle (fun _ => by show _ = _; rw [place_even]; simp) rfl
    · cases h
  case h_9 => cases h; exact .nilf
  case h_10 => cases h; exact .nili
  case h_11 => cases h

theorem wrap_i64 {n : Int} (h0 : -9223372036854775808 ≤ n) (h1 : n < 9223372036854775808) : IntKind.i64.wrap n = n := by
  simp [IntKind.wrap, IntKind.bits, IntKind.signed]; omega
theorem wrap_wf {n : Int} (h : (Lit.int .i64 n).wf = true) : IntKind.i64.wrap n = n := by
  simp [Lit.wf, IntKind.min, IntKind.max, IntKind.bits, IntKind.signed] at h
  exact wrap_i64 (by omega) (by omega)
/-- A number from without stands as a sum. -/
theorem lin_rel {cs : List Int} {n : Int} (hw : (Lit.int .i64 n).wf = true) (h : dotFrom cs 0 = n) (ι : Map) : VRel ι (.lin cs 0) (.int .i64 n) := by
  have := VRel.lin (ι := ι) cs 0
  rw [h, Int.zero_add, wrap_wf hw] at this
  exact this

/-- The cells at the call's begin. -/
def inpOf (W : World) : Inp := fun b o => (W.cell? ⟨(place b).1, (place b).2 + o, none⟩).bind canon
theorem inpOf_ok (W : World) : InpOk W (inpOf W) := by
  intro b o v h
  unfold inpOf at h
  cases hc : W.cell? ⟨(place b).1, (place b).2 + o, none⟩ with
  | none => rw [hc] at h; cases h
  | some u => rw [hc] at h; exact ⟨u, rfl, fun ι => canon_rel h ι⟩

theorem canons_rel {vs : List Value} {as : List AVal} (h : vs.map canon = as.map some) (ι : Map) : VRels ι as vs := by
  induction vs generalizing as with
  | nil => cases as with
    | nil => exact .nil
    | cons a as => cases h
  | cons v vs ih => cases as with
    | nil => cases h
    | cons a as =>
      simp only [List.map_cons, List.cons.injEq] at h
      exact .cons (canon_rel h.1 ι) (ih h.2)

/-- Arguments read behind the call as they did. -/
theorem trodAll_stays {H : Type} {enc : TypeId × Value → H} {P : Program} (hl : laidOutB P = true) {W W' : World} (hb : Below W.heap.size W W') {sp : Nat → Bool} : ∀ {ts : List TypeId} {vs : List Value} {ds : List (DataW H)} {ps : List MemPlace},
    (ts.all fun t => P.readableRec t && decide (t < P.types.size)) = true → DataW.TrodAll enc P W 0 (fun _ => true) true ts vs ds ps → (∀ p ∈ ps, p.block < W.heap.size) → (∀ p ∈ ps, sp p.block = true) → DataW.TrodAll enc P W' 0 sp true ts vs ds ps
  | [], [], [], _, _, h, _, _ => h
  | t :: ts, v :: vs, d :: ds, ps, hts, ⟨p, q, h1, h2, e⟩, hlt, hs => by
    simp only [List.all_cons, Bool.and_eq_true, decide_eq_true_eq] at hts
    subst e
    refine ⟨p, q, ?_, trodAll_stays hl hb hts.2 h2 (fun x hx => hlt x (List.mem_append_right _ hx)) (fun x hx => hs x (List.mem_append_right _ hx)), rfl⟩
    exact WideElems.Trod_stays hl hts.1.1 hts.1.2 h1 (fun x hx => hb.same (hlt x (List.mem_append_left _ hx))) (fun x hx => hs x (List.mem_append_left _ hx))
  | [], _ :: _, _, _, _, h, _, _ => by cases h
  | _ :: _, [], _, _, _, h, _, _ => by cases h
  | [], [], _ :: _, _, _, h, _, _ => by cases h
  | _ :: _, _ :: _, [], _, _, h, _, _ => by cases h

/-! ### opening structs -/
section
variable {H : Type} {enc : TypeId × Value → H} {P : Program} {W : World} {base : Nat} {sp : Nat → Bool} {held : Bool}
theorem trod_int {n : Nat} {t : TypeId} {k : IntKind} {cs : List Value} {x : DataW H × List MemPlace} (ht : P.underlying t = some (.int k)) (h : DataW.trod enc P W base sp held n t cs = some x) : ∃ m, cs = [.int k m] ∧ (Lit.int k m).wf = true := by
  cases n with
  | zero => cases h
  | succ n =>
    rw [DataW.trod_step] at h
    unfold DataW.trodStep at h
    rw [ht] at h
    split at h <;> try (rename_i e; cases e; done)
    all_goals try (rename_i e1 _; cases e1; done)
    all_goals first
      | (rename_i e1; cases e1
         split at h
         · rename_i hk; exact ⟨_, by rw [hk.1], hk.2⟩
         · cases h)
      | cases h
theorem trod_bool {n : Nat} {t : TypeId} {cs : List Value} {x : DataW H × List MemPlace} (ht : P.underlying t = some .bool) (h : DataW.trod enc P W base sp held n t cs = some x) : ∃ b, cs = [.bool b] := by
  cases n with
  | zero => cases h
  | succ n =>
    rw [DataW.trod_step] at h
    unfold DataW.trodStep at h
    rw [ht] at h
    split at h <;> try (rename_i e; cases e; done)
    all_goals first
      | exact ⟨_, rfl⟩
      | cases h
theorem mapM_each {α β : Type} {g : α → Option β} : ∀ {l : List α} {r : List β}, l.mapM g = some r → ∀ a ∈ l, ∃ y, g a = some y
  | [], _, _, a, ha => by cases ha
  | b :: l, r, h, a, ha => by
    rw [List.mapM_cons] at h
    cases hb : g b with
    | none => simp [hb] at h
    | some y =>
      cases hl : l.mapM g with
      | none => simp [hb, hl] at h
      | some ys =>
        cases ha with
        | head => exact ⟨y, hb⟩
        | tail _ hm => exact mapM_each hl a hm
theorem trod_struct {n : Nat} {t : TypeId} {fs : Array Field} {cs : List Value} {x : DataW H × List MemPlace} (ht : P.underlying t = some (.struct fs)) (h : DataW.trod enc P W base sp held n t cs = some x) :
    cs.length = P.cellsOf t ∧ ∃ m, ∀ f ∈ fs.toList, ∃ y, DataW.trod enc P W base sp held m f.type ((cs.drop f.offset).take (P.cellsOf f.type)) = some y := by
  cases n with
  | zero => cases h
  | succ n =>
    rw [DataW.trod_step] at h
    unfold DataW.trodStep at h
    rw [ht] at h
    split at h <;> try (rename_i e; cases e; done)
    case h_9 fs' he =>
      cases he
      split at h
      · rename_i hl
        refine ⟨hl, n, fun f hf => ?_⟩
        rw [Option.map_eq_some_iff] at h
        obtain ⟨r, hr, _⟩ := h
        exact mapM_each hr f hf
      · cases h
    case h_21 => exact absurd rfl (‹∀ fs' : Array Field, some (TypeDesc.struct fs) = some (TypeDesc.struct fs') → False› fs)
/-- A struct's fields: types and places. -/
def structOf (P : Program) (t : TypeId) : Option (List (TypeId × Nat)) :=
  match P.underlying t with
  | some (.struct fs) => some (fs.toList.map fun f => (f.type, f.offset))
  | _ => none
theorem trod_fields {n : Nat} {t : TypeId} {l : List (TypeId × Nat)} {cs : List Value} {x : DataW H × List MemPlace} (ht : structOf P t = some l) (h : DataW.trod enc P W base sp held n t cs = some x) :
    cs.length = P.cellsOf t ∧ ∃ m, ∀ p ∈ l, ∃ y, DataW.trod enc P W base sp held m p.1 ((cs.drop p.2).take (P.cellsOf p.1)) = some y := by
  unfold structOf at ht
  split at ht
  · rename_i fs hu
    cases ht
    obtain ⟨hl, m, hm⟩ := trod_struct hu h
    refine ⟨hl, m, fun p hp => ?_⟩
    obtain ⟨f, hf, rfl⟩ := List.mem_map.1 hp
    exact hm f hf
  · cases ht
/-- A struct that came in by value. -/
theorem open_agg {r : Reach} {b0 : Nat} {t : TypeId} {l : List (TypeId × Nat)} {v : Value} {d : DataW H} {ps : List MemPlace} (ht : structOf P t = some l) (hval : Value.okWide P W r b0 t v) (h : DataW.Trod enc P W base sp held t v d ps) :
    ∃ cs : List Value, v = .agg cs.toArray ∧ cs.length = P.cellsOf t ∧ ∃ m, ∀ p ∈ l, ∃ y, DataW.trod enc P W base sp held m p.1 ((cs.drop p.2).take (P.cellsOf p.1)) = some y := by
  unfold Value.okWide at hval
  have hu : ∃ fs, P.underlying t = some (.struct fs) := by
    unfold structOf at ht
    split at ht
    · rename_i fs hu; exact ⟨fs, hu⟩
    · cases ht
  obtain ⟨fs, hu⟩ := hu
  rw [hu] at hval
  obtain ⟨cs, rfl, hs, _⟩ := hval
  obtain ⟨n, hn⟩ := h
  obtain ⟨hl, m, hm⟩ := trod_fields ht hn
  exact ⟨cs.toList, by simp, hl, m, hm⟩
end
end

end Go.AM

/- AM, part 29: what lies at addresses, from a heap on: cells, slices, structs; programs that came in. Conditions: as each lemma says. -/
namespace Go.AM
noncomputable section
open Go.RowKit Go.WideShapes Go.ChangeShapes

/-! ### cells, slices, structs -/
section
variable {α β : Type} {I : Inp} {h0 h1 : AHeap}
/-- The cells lie from that address on, in this heap and all later ones. -/
def Cells (I : Inp) (h0 : AHeap) (l : Loc) (o : Nat) (cs : List AVal) : Prop := ∀ g, Ext h0 g → ∀ i v, cs[i]? = some v → rd I g l (o + i) = some v
theorem Cells.mono {l : Loc} {o : Nat} {cs : List AVal} (c : Cells I h0 l o cs) (e : Ext h0 h1) : Cells I h1 l o cs := fun g x => c g (e.trans x)
theorem Cells.rd {l : Loc} {o : Nat} {cs : List AVal} (c : Cells I h0 l o cs) (g : AHeap) (i : Nat) (e : Ext h0 g) (hi : i < cs.length) : AM.rd I g l (o + i) = cs[i]? := by
  rw [List.getElem?_eq_getElem hi]
  exact c g e i _ (List.getElem?_eq_getElem hi)
theorem Cells.rd0 {l : Loc} {o : Nat} {v : AVal} {cs : List AVal} (c : Cells I h0 l o (v :: cs)) (g : AHeap) (e : Ext h0 g) : AM.rd I g l o = some v := c g e 0 v rfl
theorem Cells.rd1 {l : Loc} {o : Nat} {v0 v1 : AVal} {cs : List AVal} (c : Cells I h0 l o (v0 :: v1 :: cs)) (g : AHeap) (e : Ext h0 g) : AM.rd I g l (o + 1) = some v1 := c g e 1 v1 rfl
theorem Cells.rd2 {l : Loc} {o : Nat} {v0 v1 v2 : AVal} {cs : List AVal} (c : Cells I h0 l o (v0 :: v1 :: v2 :: cs)) (g : AHeap) (e : Ext h0 g) : AM.rd I g l (o + 2) = some v2 := c g e 2 v2 rfl
theorem Cells.rd3 {l : Loc} {o : Nat} {v0 v1 v2 v3 : AVal} {cs : List AVal} (c : Cells I h0 l o (v0 :: v1 :: v2 :: v3 :: cs)) (g : AHeap) (e : Ext h0 g) : AM.rd I g l (o + 3) = some v3 := c g e 3 v3 rfl
theorem Cells.rd4 {l : Loc} {o : Nat} {v0 v1 v2 v3 v4 : AVal} {cs : List AVal} (c : Cells I h0 l o (v0 :: v1 :: v2 :: v3 :: v4 :: cs)) (g : AHeap) (e : Ext h0 g) : AM.rd I g l (o + 4) = some v4 := c g e 4 v4 rfl
theorem Cells.rd5 {l : Loc} {o : Nat} {v0 v1 v2 v3 v4 v5 : AVal} {cs : List AVal} (c : Cells I h0 l o (v0 :: v1 :: v2 :: v3 :: v4 :: v5 :: cs)) (g : AHeap) (e : Ext h0 g) : AM.rd I g l (o + 5) = some v5 := c g e 5 v5 rfl
theorem rdsInp_of {b : Nat} : ∀ {vs : List AVal} {o : Nat}, (∀ i v, vs[i]? = some v → I b (o + i) = some v) → rdsInp I b o vs.length = some vs
  | [], _, _ => rfl
  | v :: vs, o, h => by
    have h0 := h 0 v rfl
    have hr := rdsInp_of (vs := vs) (o := o + 1) fun i u hu => by rw [show o + 1 + i = o + (i + 1) by omega]; exact h (i + 1) u (by simpa using hu)
    simp only [Nat.add_zero] at h0
    simp only [List.length_cons, rdsInp, h0, hr]
theorem rds_of {g : AHeap} {l : Loc} {o : Nat} {vs : List AVal} (hne : vs ≠ []) (h : ∀ i v, vs[i]? = some v → AM.rd I g l (o + i) = some v) : rds I g l o vs.length = some vs := by
  cases l with
  | inp b => exact rdsInp_of h
  | own k =>
    have hp : 0 < vs.length := List.length_pos_iff.2 hne
    rw [rds_own']
    have hb := h 0 _ (List.getElem?_eq_getElem hp)
    rw [rd_own'] at hb
    cases hg : g.get k with
    | none => rw [hg] at hb; cases hb
    | some b =>
      have hall : ∀ i v, vs[i]? = some v → b.cells[o + i]? = some v := fun i v hv => by
        have := h i v hv
        rw [rd_own', hg] at this
        exact this
      have hlen : o + vs.length ≤ b.cells.length := by
        have := hall (vs.length - 1) _ (List.getElem?_eq_getElem (by omega))
        have := (List.getElem?_eq_some_iff.1 this).1
        omega
      simp only [Option.bind_some, if_pos hlen, Option.some.injEq]
      apply List.ext_getElem?
      intro i
      by_cases hi : i < vs.length
      · rw [List.getElem?_take_of_lt hi, List.getElem?_drop, List.getElem?_eq_getElem hi]
        exact hall i _ (List.getElem?_eq_getElem hi)
      · rw [List.getElem?_eq_none (by simp; omega), List.getElem?_eq_none (by omega)]
theorem Cells.rds {l : Loc} {o n : Nat} {cs : List AVal} (c : Cells I h0 l o cs) (g : AHeap) (e : Ext h0 g) (hn : cs.length = n) (h0 : 0 < n) : AM.rds I g l o n = some cs := by
  subst hn
  exact rds_of (by intro e; subst e; simp at h0) fun i v hv => c g e i v hv
theorem Cells.own {k : Nat} {b : Blk} {o : Nat} {cs : List AVal} (hb : h0.get k = some b) (hk : k < h0.next) (hc : ∀ i v, cs[i]? = some v → b.cells[o + i]? = some v) : Cells I h0 (.own k) o cs := fun g e i v hv => by
  rw [rd_own', e.same k hk, hb]
  exact hc i v hv
theorem Cells.sub {l : Loc} {o d : Nat} {cs ds : List AVal} (c : Cells I h0 l o cs) (hd : ∀ i v, ds[i]? = some v → cs[d + i]? = some v) : Cells I h0 l (o + d) ds := fun g e i v hv => by
  rw [Nat.add_assoc]; exact c g e (d + i) v (hd i v hv)

/-- A thing lies at an address: its cells do. -/
def At (I : Inp) (h0 : AHeap) (C : List AVal → α → Prop) (l : Loc) (o : Nat) (x : α) : Prop := ∃ cs, C cs x ∧ Cells I h0 l o cs
theorem At.mono {C C' : List AVal → α → Prop} (hC : ∀ cs x, C cs x → C' cs x) {l : Loc} {o : Nat} {x : α} (a : At I h0 C l o x) (e : Ext h0 h1) : At I h1 C' l o x :=
  let ⟨cs, c, hc⟩ := a; ⟨cs, hC _ _ c, hc.mono e⟩

/-- The i-th, or another one. -/
def nth {α : Type} (xs : List α) (i : Int) (d : α) : α := xs.getD i.toNat d
theorem nth_nat {α : Type} {xs : List α} {k : Nat} {x : α} (h : xs[k]? = some x) (d : α) : nth xs (k : Int) d = x := by simp [nth, List.getD, h]
/-- Whatever is cut within the length is within the capacity. -/
def CapOk (cap : Cap) (sz len : Nat) : Prop := ∀ m, m ≤ len → capHas cap sz len m = true
/-- A slice of things, each of so many cells. -/
def SlOf (sz : Nat) (R : Loc → Nat → α → Prop) (v : AVal) (xs : List α) : Prop :=
  (v = .nils ∧ xs = []) ∨ ∃ l o cap, v = .sl l o xs.length cap ∧ CapOk cap sz xs.length ∧ (xs.length ≤ 9223372036854775807 ∧ (xs = [] → ∃ b, l = .inp b)) ∧ ∀ i x, xs[i]? = some x → R l (o + i * sz) x
section
variable {sz : Nat} {R R' : Loc → Nat → α → Prop} {v : AVal} {xs : List α}
theorem SlOf.mono (hR : ∀ l o x, R l o x → R' l o x) (h : SlOf sz R v xs) : SlOf sz R' v xs := by
  rcases h with h | ⟨l, o, cap, e, c, n, hx⟩
  · exact .inl h
  · exact .inr ⟨l, o, cap, e, c, n, fun i x hi => hR _ _ _ (hx i x hi)⟩
theorem SlOf.len (h : SlOf sz R v xs) : pLenSl v = some (.int .i64 xs.length) := by
  rcases h with ⟨rfl, rfl⟩ | ⟨l, o, cap, rfl, _⟩ <;> rfl
theorem SlOf.lt (h : SlOf sz R v xs) : xs.length ≤ 9223372036854775807 := by
  rcases h with ⟨rfl, rfl⟩ | ⟨l, o, cap, rfl, _, hn, _⟩
  · simp
  · exact hn.1
theorem SlOf.one (h : SlOf sz R v xs) : v.one = true := by
  rcases h with ⟨rfl, rfl⟩ | ⟨l, o, cap, rfl, _, hn, _⟩ <;> rfl
theorem SlOf.cells (h : SlOf sz R v xs) : v.cells = [v] := by
  rcases h with ⟨rfl, rfl⟩ | ⟨l, o, cap, rfl, _, hn, _⟩ <;> rfl
theorem SlOf.at (h : SlOf sz R v xs) {i : Nat} {x : α} (hx : xs[i]? = some x) : ∃ l o, pIndexAddr sz v (.int .i64 (i : Int)) = some (.ptr l o) ∧ R l o x := by
  rcases h with ⟨rfl, rfl⟩ | ⟨l, o, cap, rfl, _, _, hR⟩
  · simp at hx
  · exact ⟨l, o + i * sz, pIndexAddr_sl (List.getElem?_eq_some_iff.1 hx).1, hR i x hx⟩
theorem SlOf.atI (h : SlOf sz R v xs) {i : Int} (h0 : 0 ≤ i) (h1 : i < xs.length) (d : α) : ∃ l o, pIndexAddr sz v (.int .i64 i) = some (.ptr l o) ∧ R l o (nth xs i d) ∧ nth xs i d ∈ xs := by
  unfold nth
  obtain ⟨k, rfl⟩ : ∃ k : Nat, i = k := ⟨i.toNat, by omega⟩
  have hk : k < xs.length := by omega
  have hx : xs[k]? = some xs[k] := List.getElem?_eq_getElem hk
  obtain ⟨l, o, h2, h3⟩ := h.at hx
  have e : xs.getD (Int.toNat k) d = xs[k] := by simp [List.getD, hx]
  exact ⟨l, o, h2, by rw [e]; exact h3, by rw [e]; exact List.getElem_mem hk⟩
theorem SlOf.self (h : SlOf sz R v xs) : v.eqb v = true := by
  rcases h with ⟨rfl, rfl⟩ | ⟨l, o, cap, rfl, _⟩ <;> simp
theorem SlOf.nil : SlOf sz R .nils [] := .inl ⟨rfl, rfl⟩
end

def IntC (cs : List AVal) (n : Int) : Prop := cs = [.int .i64 n] ∧ InR n
def SlC (sz : Nat) (R : Loc → Nat → α → Prop) (cs : List AVal) (xs : List α) : Prop := ∃ v, cs = [v] ∧ SlOf sz R v xs
/-- A number at an address. -/
abbrev IntA (I : Inp) (h0 : AHeap) : Loc → Nat → Int → Prop := At I h0 IntC
theorem At.int {l : Loc} {o : Nat} {n : Int} (a : IntA I h0 l o n) : (∀ g, Ext h0 g → rd I g l o = some (.int .i64 n)) ∧ InR n := by
  obtain ⟨_, ⟨rfl, hr⟩, hc⟩ := a
  exact ⟨fun g e => hc.rd0 g e, hr⟩

/-- The cells of a slice of numbers. -/
theorem ints_cells {v : AVal} {xs : List Int} (sv : SlOf 1 (IntA I h0) v xs) (g : AHeap) (e : Ext h0 g) (hne : xs ≠ []) : ∃ l o cap, v = .sl l o xs.length cap ∧ AM.rds I g l o (xs.length * 1) = some (xs.map fun n => AVal.int .i64 n) := by
  rcases sv with ⟨rfl, rfl⟩ | ⟨l, o, cap, rfl, _, _, hx⟩
  · exact absurd rfl hne
  · refine ⟨l, o, cap, rfl, ?_⟩
    have := rds_of (I := I) (g := g) (l := l) (o := o) (vs := xs.map fun n => AVal.int .i64 n) (by simpa using hne) fun i v hv => by
      rw [List.getElem?_map, Option.map_eq_some_iff] at hv
      obtain ⟨n, hn, rfl⟩ := hv
      have := (At.int (hx i n hn)).1 g e
      rw [Nat.mul_one] at this
      exact this
    rw [List.length_map] at this
    rw [Nat.mul_one]
    exact this
theorem ints_all {xs : List Int} : ((xs.map fun n => AVal.int .i64 n).all AVal.one) = true := by simp
/-- A new block of numbers. -/
theorem ints_new {h : AHeap} {k : Nat} {p : Bool} {xs : List Int} {cap : Cap} (hk : h.get k = some ⟨xs.map fun n => AVal.int .i64 n, p⟩) (hl : k < h.next) (hc : CapOk cap 1 xs.length) (hm : xs.length ≤ 9223372036854775807) (hne : xs ≠ []) (hr : ∀ x ∈ xs, InR x) :
    SlOf 1 (IntA I h) (.sl (.own k) 0 xs.length cap) xs := by
  refine .inr ⟨.own k, 0, cap, rfl, hc, ⟨hm, fun h => absurd h hne⟩, fun i x hx => ⟨[.int .i64 x], ⟨rfl, hr x (List.mem_of_getElem? hx)⟩, Cells.own hk hl fun j v hv => ?_⟩⟩
  match j with
  | 0 => simp at hv; subst hv; simp [hx]
  | j + 1 => simp at hv
theorem SlOf.ranges {v : AVal} {xs : List Int} (sv : SlOf 1 (IntA I h0) v xs) : ∀ x ∈ xs, InR x := by
  intro x hx
  obtain ⟨i, hi⟩ := List.getElem?_of_mem hx
  obtain ⟨l, o, _, h⟩ := sv.at hi
  exact (At.int h).2
/-- append([]int(nil), xs...). -/
theorem append_nil_ints {v : AVal} {xs : List Int} {h : AHeap} (sv : SlOf 1 (IntA I h0) v xs) (e : Ext h0 h) (hs : xs.length ≤ 1000000) : Res (sAppend I 1 8 .nils v h) fun u g => SlOf 1 (IntA I g) u xs ∧ Ext h g := by
  cases xs with
  | nil =>
    have : sAppend I 1 8 .nils v h = some (.nils, h) := by
      rcases sv with ⟨rfl, _⟩ | ⟨l, o, cap, rfl, _, hn, _⟩
      · rfl
      · obtain ⟨b, rfl⟩ := hn.2 rfl
        rfl
    exact ⟨_, _, this, SlOf.nil, Ext.refl h⟩
  | cons x xs =>
    obtain ⟨l, o, cap, rfl, hr⟩ := ints_cells sv h e (by simp)
    have hb : Nat.ble ((x :: xs).length * 8) bigRoom = true := Nat.ble_eq_true_of_le (by simp only [bigRoom]; omega)
    have hb2 : Nat.ble (x :: xs).length bigRoom = true := Nat.ble_eq_true_of_le (by simp only [bigRoom]; omega)
    have : sAppend I 1 8 .nils (.sl l o (x :: xs).length cap) h = some (.sl (.own h.next) 0 (x :: xs).length (.grown 1), h.alloc ⟨(x :: xs).map fun n => AVal.int .i64 n, true⟩) := by
      simp only [sAppend, appendK_eq, appendTo, srcCells, hr]
      simp only [List.length_cons] at hb hb2 ⊢
      simp only [ints_all, hb, hb2]
      rfl
    exact ⟨_, _, this, ints_new (AHeap.alloc_at (Nb.o rfl)) (by simp) (fun m hm => by simp [capHas]; simpa using hm) (by omega) (by simp) sv.ranges, (Ext.refl h).alloc⟩
/-- append([]int{a}, xs...). -/
theorem append_one_ints {v : AVal} {a : Int} {xs : List Int} {h : AHeap} {k : Nat} (hk : h.get k = some ⟨[.int .i64 a], true⟩) (hkl : k < h.next) (ha : InR a) (sv : SlOf 1 (IntA I h0) v xs) (e : Ext h0 h) (hs : xs.length ≤ 1000000) :
    Res (sAppend I 1 8 (.sl (.own k) 0 1 (.known 1)) v h) fun u g => SlOf 1 (IntA I g) u (a :: xs) ∧ Ext h g := by
  cases xs with
  | nil =>
    have : sAppend I 1 8 (.sl (.own k) 0 1 (.known 1)) v h = some (.sl (.own k) 0 1 (.known 1), h) := by
      rcases sv with ⟨rfl, _⟩ | ⟨l, o, cap, rfl, _, hn, _⟩
      · rfl
      · obtain ⟨b, rfl⟩ := hn.2 rfl
        rfl
    exact ⟨_, _, this, ints_new (xs := [a]) hk hkl (fun m hm => by simp [capHas]; simpa using hm) (by simp) (by simp) (by simpa using ha), Ext.refl h⟩
  | cons x xs =>
    obtain ⟨l, o, cap, rfl, hr⟩ := ints_cells sv h e (by simp)
    have hb : Nat.ble ((1 + (x :: xs).length) * 8) bigRoom = true := Nat.ble_eq_true_of_le (by simp only [bigRoom]; omega)
    have hb2 : Nat.ble (1 + (x :: xs).length) bigRoom = true := Nat.ble_eq_true_of_le (by simp only [bigRoom]; omega)
    have hc : Nat.ble (1 + (x :: xs).length) 1 = false := by
      cases hx : Nat.ble (1 + (x :: xs).length) 1 with
      | false => rfl
      | true => exact absurd (Nat.le_of_ble_eq_true hx) (by simp)
    have : sAppend I 1 8 (.sl (.own k) 0 1 (.known 1)) (.sl l o (x :: xs).length cap) h = some (.sl (.own h.next) 0 (a :: x :: xs).length (.grown 1), h.alloc ⟨(a :: x :: xs).map fun n => AVal.int .i64 n, true⟩) := by
      simp only [sAppend, appendK_eq, appendTo, srcCells, hr]
      simp only [List.length_cons] at hb hb2 hc ⊢
      simp only [ints_all, hb, hb2, Bool.and_self, hc]
      have h1 : AM.rds I h (.own k) 0 (1 * 1) = some [.int .i64 a] := by simp [hk]
      simp only [h1]
      simp [show h.room = true from rfl, Nat.add_comm]
    exact ⟨_, _, this, ints_new (AHeap.alloc_at (Nb.o rfl)) (by simp) (fun m hm => by simp [capHas]; simpa using hm) (by simp at hs ⊢; omega) (by simp) (fun y hy => by
      rcases List.mem_cons.1 hy with rfl | hy
      · exact ha
      · exact sv.ranges y hy), (Ext.refl h).alloc⟩

/-! the program's own types -/
structure Ty where
  kind : Int
  n : Int
  deriving DecidableEq, Inhabited
def TyC (cs : List AVal) (t : Ty) : Prop := cs = [.int .i64 t.kind, .int .i64 t.n] ∧ InR t.kind ∧ InR t.n
structure Ins where
  op : Int
  dst : Int
  a : Int
  b : Int
  n : Int
  args : List Int
  deriving DecidableEq, Inhabited
def InsC (I : Inp) (h0 : AHeap) (cs : List AVal) (t : Ins) : Prop := ∃ v, cs = [.int .i64 t.op, .int .i64 t.dst, .int .i64 t.a, .int .i64 t.b, .int .i64 t.n, v] ∧ SlOf 1 (IntA I h0) v t.args ∧ InR t.op ∧ InR t.dst ∧ InR t.a ∧ InR t.b ∧ InR t.n
structure Bk where
  code : List Ins
  fin : Int
  reg : Int
  to : Int
  els : Int
  deriving DecidableEq, Inhabited
def BkC (I : Inp) (h0 : AHeap) (cs : List AVal) (t : Bk) : Prop := ∃ v, cs = [v, .int .i64 t.fin, .int .i64 t.reg, .int .i64 t.to, .int .i64 t.els] ∧ SlOf 6 (At I h0 (InsC I h0)) v t.code ∧ InR t.fin ∧ InR t.reg ∧ InR t.to ∧ InR t.els
structure Fu where
  sig : Int
  regs : List Ty
  blocks : List Bk
  deriving DecidableEq, Inhabited
def FuC (I : Inp) (h0 : AHeap) (cs : List AVal) (t : Fu) : Prop := ∃ v u, cs = [.int .i64 t.sig, v, u] ∧ InR t.sig ∧ SlOf 2 (At I h0 TyC) v t.regs ∧ SlOf 5 (At I h0 (BkC I h0)) u t.blocks
structure Sg where
  params : List Ty
  res : Ty
  deriving DecidableEq, Inhabited
def SgC (I : Inp) (h0 : AHeap) (cs : List AVal) (t : Sg) : Prop := ∃ v, cs = [v, .int .i64 t.res.kind, .int .i64 t.res.n] ∧ SlOf 2 (At I h0 TyC) v t.params ∧ InR t.res.kind ∧ InR t.res.n
structure Im where
  rec_ : Int
  face : Int
  funcs : List Int
  deriving DecidableEq, Inhabited
def ImC (I : Inp) (h0 : AHeap) (cs : List AVal) (t : Im) : Prop := ∃ v, cs = [.int .i64 t.rec_, .int .i64 t.face, v] ∧ InR t.rec_ ∧ InR t.face ∧ SlOf 1 (IntA I h0) v t.funcs
structure Pg where
  recs : List (List Ty)
  sigs : List Sg
  faces : List (List Int)
  impls : List Im
  funcs : List Fu
  main : Int
  deriving DecidableEq, Inhabited
def PgC (I : Inp) (h0 : AHeap) (cs : List AVal) (p : Pg) : Prop := ∃ vr vs vf vi vu, cs = [vr, vs, vf, vi, vu, .int .i64 p.main] ∧ InR p.main ∧ SlOf 1 (At I h0 (SlC 2 (At I h0 TyC))) vr p.recs ∧ SlOf 3 (At I h0 (SgC I h0)) vs p.sigs ∧
  SlOf 1 (At I h0 (SlC 1 (IntA I h0))) vf p.faces ∧ SlOf 3 (At I h0 (ImC I h0)) vi p.impls ∧ SlOf 3 (At I h0 (FuC I h0)) vu p.funcs
abbrev PgA (I : Inp) (h0 : AHeap) : Loc → Nat → Pg → Prop := At I h0 (PgC I h0)

theorem IntA.mono {l : Loc} {o : Nat} {x : Int} (a : IntA I h0 l o x) (e : Ext h0 h1) : IntA I h1 l o x := At.mono (fun _ _ h => h) a e
theorem TyA.mono {l : Loc} {o : Nat} {x : Ty} (a : At I h0 TyC l o x) (e : Ext h0 h1) : At I h1 TyC l o x := At.mono (fun _ _ h => h) a e
theorem InsC.mono {cs : List AVal} {x : Ins} (a : InsC I h0 cs x) (e : Ext h0 h1) : InsC I h1 cs x :=
  let ⟨v, e1, s, r⟩ := a; ⟨v, e1, s.mono fun _ _ _ h => h.mono e, r⟩
theorem InsA.mono {l : Loc} {o : Nat} {x : Ins} (a : At I h0 (InsC I h0) l o x) (e : Ext h0 h1) : At I h1 (InsC I h1) l o x := At.mono (fun _ _ h => h.mono e) a e
theorem BkC.mono {cs : List AVal} {x : Bk} (a : BkC I h0 cs x) (e : Ext h0 h1) : BkC I h1 cs x :=
  let ⟨v, e1, s, r⟩ := a; ⟨v, e1, s.mono fun _ _ _ h => InsA.mono h e, r⟩
theorem BkA.mono {l : Loc} {o : Nat} {x : Bk} (a : At I h0 (BkC I h0) l o x) (e : Ext h0 h1) : At I h1 (BkC I h1) l o x := At.mono (fun _ _ h => h.mono e) a e
theorem FuC.mono {cs : List AVal} {x : Fu} (a : FuC I h0 cs x) (e : Ext h0 h1) : FuC I h1 cs x :=
  let ⟨v, u, e1, r, s, t⟩ := a; ⟨v, u, e1, r, s.mono fun _ _ _ h => TyA.mono h e, t.mono fun _ _ _ h => BkA.mono h e⟩
theorem FuA.mono {l : Loc} {o : Nat} {x : Fu} (a : At I h0 (FuC I h0) l o x) (e : Ext h0 h1) : At I h1 (FuC I h1) l o x := At.mono (fun _ _ h => h.mono e) a e
theorem SgC.mono {cs : List AVal} {x : Sg} (a : SgC I h0 cs x) (e : Ext h0 h1) : SgC I h1 cs x :=
  let ⟨v, e1, s, r⟩ := a; ⟨v, e1, s.mono fun _ _ _ h => TyA.mono h e, r⟩
theorem SgA.mono {l : Loc} {o : Nat} {x : Sg} (a : At I h0 (SgC I h0) l o x) (e : Ext h0 h1) : At I h1 (SgC I h1) l o x := At.mono (fun _ _ h => h.mono e) a e
theorem ImC.mono {cs : List AVal} {x : Im} (a : ImC I h0 cs x) (e : Ext h0 h1) : ImC I h1 cs x :=
  let ⟨v, e1, r, r', s⟩ := a; ⟨v, e1, r, r', s.mono fun _ _ _ h => IntA.mono h e⟩
theorem ImA.mono {l : Loc} {o : Nat} {x : Im} (a : At I h0 (ImC I h0) l o x) (e : Ext h0 h1) : At I h1 (ImC I h1) l o x := At.mono (fun _ _ h => h.mono e) a e
theorem RecA.mono {l : Loc} {o : Nat} {x : List Ty} (a : At I h0 (SlC 2 (At I h0 TyC)) l o x) (e : Ext h0 h1) : At I h1 (SlC 2 (At I h1 TyC)) l o x :=
  At.mono (fun _ _ h => let ⟨v, e1, s⟩ := h; ⟨v, e1, s.mono fun _ _ _ h => TyA.mono h e⟩) a e
theorem FaceA.mono {l : Loc} {o : Nat} {x : List Int} (a : At I h0 (SlC 1 (IntA I h0)) l o x) (e : Ext h0 h1) : At I h1 (SlC 1 (IntA I h1)) l o x :=
  At.mono (fun _ _ h => let ⟨v, e1, s⟩ := h; ⟨v, e1, s.mono fun _ _ _ h => IntA.mono h e⟩) a e
theorem PgA.mono {l : Loc} {o : Nat} {x : Pg} (a : PgA I h0 l o x) (e : Ext h0 h1) : PgA I h1 l o x :=
  At.mono (fun _ _ h => let ⟨vr, vs, vf, vi, vu, e1, r, a, b, c, d, f⟩ := h; ⟨vr, vs, vf, vi, vu, e1, r, a.mono fun _ _ _ h => RecA.mono h e, b.mono fun _ _ _ h => SgA.mono h e, c.mono fun _ _ _ h => FaceA.mono h e,
    d.mono fun _ _ _ h => ImA.mono h e, f.mono fun _ _ _ h => FuA.mono h e⟩) a e
end

/-! ### what came in -/
section
variable {α : Type} {H : Type} {enc : TypeId × Value → H} {P : Program} {W : World}
/-- The cells lie in the world from there on. -/
def Lies (W : World) (b o : Nat) (cs : List Value) : Prop := ∀ i, i < cs.length → W.cell? ⟨b, o + i, none⟩ = cs[i]?

theorem Lies.sub {b o : Nat} {cs : List Value} (h : Lies W b o cs) (d n : Nat) (hd : d + n ≤ cs.length) : Lies W b (o + d) ((cs.drop d).take n) := by
  intro i hi
  simp at hi
  rw [show o + d + i = o + (d + i) by omega, h (d + i) (by omega), List.getElem?_take_of_lt (by omega), List.getElem?_drop]
theorem Lies.inp [Sig] {b o : Nat} {cs : List Value} (h : Lies W b o cs) {i : Nat} {u : Value} {a : AVal} (hu : cs[i]? = some u) (ha : canon u = some a) : inpOf W (2 * b) (o + i) = some a := by
  have hi : i < cs.length := (List.getElem?_eq_some_iff.1 hu).1
  unfold inpOf
  rw [place_even]
  simp only [Nat.zero_add]
  rw [h i hi, hu]
  exact ha


/-- What reads as a type 'e' stands for a thing of C, from whatever heap on. -/
def Opens [Sig] (enc : TypeId × Value → H) (P : Program) (W : World) (h0 : AHeap) (e : TypeId) (C : List AVal → α → Prop) : Prop :=
  ∀ n cs y, DataW.trod enc P W 0 (fun _ => true) true n e cs = some y → cs.length = P.cellsOf e → ∃ as x, cs.map canon = as.map some ∧ C as x

theorem Lies.cells [Sig] {b o : Nat} {cs : List Value} {as : List AVal} {h0 : AHeap} (h : Lies W b o cs) (ha : cs.map canon = as.map some) : Cells (inpOf W) h0 (.inp (2 * b)) o as := by
  intro g _ i v hv
  have hc : (cs.map canon)[i]? = some (some v) := by rw [ha, List.getElem?_map, hv]; rfl
  rw [List.getElem?_map, Option.map_eq_some_iff] at hc
  obtain ⟨u, hu, hcu⟩ := hc
  exact h.inp hu hcu
theorem Opens.at [Sig] {h0 : AHeap} {e : TypeId} {C : List AVal → α → Prop} (hC : Opens enc P W h0 e C) {n b o : Nat} {cs : List Value} {y : DataW H × List MemPlace} (h : DataW.trod enc P W 0 (fun _ => true) true n e cs = some y)
    (hl : Lies W b o cs) (hc : cs.length = P.cellsOf e) : ∃ x, At (inpOf W) h0 C (.inp (2 * b)) o x := by
  obtain ⟨as, x, ha, hx⟩ := hC n cs y h hc
  exact ⟨x, as, hx, hl.cells ha⟩

theorem opens_int [Sig] {h0 : AHeap} {e : TypeId} (he : P.underlying e = some (.int .i64)) : Opens (α := Int) enc P W h0 e IntC := by
  intro n cs y h _
  obtain ⟨m, rfl, hw⟩ := trod_int he h
  refine ⟨_, m, rfl, rfl, ?_⟩
  have hw := wrap_wf hw
  simp [IntKind.wrap, IntKind.bits, IntKind.signed] at hw
  unfold InR
  omega

theorem choose_list {R : Nat → α → Prop} : ∀ (n : Nat), (∀ i, i < n → ∃ x, R i x) → ∃ xs : List α, xs.length = n ∧ ∀ i x, xs[i]? = some x → R i x
  | 0, _ => ⟨[], rfl, fun i x h => by simp at h⟩
  | n + 1, h => by
    obtain ⟨xs, hl, hx⟩ := choose_list n fun i hi => h i (by omega)
    obtain ⟨y, hy⟩ := h n (by omega)
    refine ⟨xs ++ [y], by simp [hl], fun i x he => ?_⟩
    by_cases hi : i < n
    · rw [List.getElem?_append_left (by omega)] at he; exact hx i x he
    · rw [List.getElem?_append_right (by omega)] at he
      have : i - xs.length = 0 := by
        rcases Nat.eq_zero_or_pos (i - xs.length) with h0 | h0
        · exact h0
        · rw [List.getElem?_eq_none (by simp; omega)] at he; cases he
      rw [this] at he
      simp at he
      subst he
      rw [show i = n by omega]
      exact hy

theorem canon_sl {b o len cap : Nat} (hl : len ≤ cap) (hz : 0 < cap) : canon (.slice (some ⟨b, o, none⟩) len cap) = some (.sl (.inp (2 * b)) o len (.known cap)) := by
  obtain ⟨c, rfl⟩ : ∃ c, cap = c + 1 := ⟨cap - 1, by omega⟩
  cases len with
  | zero => rfl
  | succ l =>
    show (if l + 1 ≤ c + 1 then _ else none) = _
    rw [if_pos hl]


theorem opens_sl [Sig] {h0 : AHeap} {t e : TypeId} {C : List AVal → α → Prop} {sz : Nat} (ht : P.underlying t = some (.slice e)) (hsz : P.cellsOf e = sz) (hc : 0 < sz) (hR : Opens enc P W h0 e C) :
    Opens enc P W h0 t (SlC sz (At (inpOf W) h0 C)) := by
  intro n cs y h _
  rcases Go.Deep.open_slice ht h with ⟨rfl, _⟩ | ⟨a, len, cap, m, n', D, Pl, rfl, _, hl, hmx, hm, _, hx⟩
  · exact ⟨_, [], rfl, _, rfl, SlOf.nil⟩
  · rcases Nat.eq_zero_or_pos cap with hz | hz
    · subst hz
      obtain rfl : len = 0 := by omega
      refine ⟨[.sl (.inp 0) 0 0 (.known 0)], [], rfl, _, rfl, .inr ⟨.inp 0, 0, .known 0, rfl, fun m hm => ?_, ⟨by simp, fun _ => ⟨0, rfl⟩⟩, fun i x h => by simp at h⟩⟩
      simp at hm; subst hm; rfl
    · have hmc : m = cap := by simpa using hm
      have cell : ∀ i, i < m → ∃ cs', DataW.trod enc P W 0 (fun _ => true) true n' e cs' = some (D i, Pl i) ∧ cs'.length = P.cellsOf e ∧ ∀ j, j < cs'.length → W.cell? ((a.add (i * P.cellsOf e)).add j) = cs'[j]? := by
        intro i hi
        obtain ⟨cs', h1, h2⟩ := hx i hi
        obtain ⟨_, hlen, hget⟩ := World.cells?_some h1
        exact ⟨cs', h2, hlen, fun j hj => by rw [hget j (by omega)]⟩
      have hsp : a.spot = none := by
        obtain ⟨cs', _, hlen, hg⟩ := cell 0 (by omega)
        have := hg 0 (by omega)
        rw [Nat.zero_mul, show (a.add 0).add 0 = a from rfl, List.getElem?_eq_getElem (by omega)] at this
        unfold World.cell? at this
        split at this
        · cases hs : a.spot with
          | none => rfl
          | some s => rw [hs] at this; cases this
        · cases this
      obtain ⟨b, o, sp⟩ := a
      simp only at hsp
      subst hsp
      obtain ⟨xs, hlx, hxs⟩ := choose_list (R := fun i x => At (inpOf W) h0 C (.inp (2 * b)) (o + i * P.cellsOf e) x) len fun i hi => by
        obtain ⟨cs', h2, hlen, hg⟩ := cell i (by omega)
        refine hR.at h2 (fun j hj => ?_) hlen
        rw [← hg j hj, addr_add, addr_add]
      refine ⟨[.sl (.inp (2 * b)) o len (.known cap)], xs, by simp [canon_sl hl hz], _, rfl, .inr ⟨_, _, _, by rw [hlx], fun m hm => ?_, ?_, fun i x hi => ?_⟩⟩
      · rw [hlx] at hm
        exact Nat.ble_eq_true_of_le (by omega)
      · exact ⟨by rw [hlx]; simp only [maxLen] at hmx; omega, fun _ => ⟨_, rfl⟩⟩
      · rw [← hsz]; exact hxs i x hi

/-- A struct: each field by itself. -/
theorem opens_field [Sig] {h0 : AHeap} {C : List AVal → α → Prop} {m : Nat} {cs : List Value} {e k sz : Nat} (hR : Opens enc P W h0 e C) (hc : P.cellsOf e = sz) (hk : k + sz ≤ cs.length)
    (h : ∃ y, DataW.trod enc P W 0 (fun _ => true) true m e ((cs.drop k).take (P.cellsOf e)) = some y) : ∃ as x, ((cs.drop k).take sz).map canon = as.map some ∧ C as x := by
  obtain ⟨y, hy⟩ := h
  rw [hc] at hy
  exact hR m _ y hy (by simp; omega)

/-- The numbers of the program's types in a seat. -/
structure TyIds where
  int : Nat
  ints : Nat
  ty : Nat
  tys : Nat
  recs : Nat
  ins : Nat
  inss : Nat
  bk : Nat
  bks : Nat
  fu : Nat
  fus : Nat
  sg : Nat
  sgs : Nat
  face : Nat
  faces : Nat
  im : Nat
  ims : Nat
  pg : Nat
/-- What is asked of them, each by kernel_rfl. -/
structure TyIds.Ok (T : TyIds) (P : Program) : Prop where
  int : P.underlying T.int = some (.int .i64)
  intC : P.cellsOf T.int = 1
  ints : P.underlying T.ints = some (.slice T.int)
  intsC : P.cellsOf T.ints = 1
  ty : structOf P T.ty = some [(T.int, 0), (T.int, 1)]
  tyC : P.cellsOf T.ty = 2
  tys : P.underlying T.tys = some (.slice T.ty)
  tysC : P.cellsOf T.tys = 1
  recs : P.underlying T.recs = some (.slice T.tys)
  recsC : P.cellsOf T.recs = 1
  ins : structOf P T.ins = some [(T.int, 0), (T.int, 1), (T.int, 2), (T.int, 3), (T.int, 4), (T.ints, 5)]
  insC : P.cellsOf T.ins = 6
  inss : P.underlying T.inss = some (.slice T.ins)
  inssC : P.cellsOf T.inss = 1
  bk : structOf P T.bk = some [(T.inss, 0), (T.int, 1), (T.int, 2), (T.int, 3), (T.int, 4)]
  bkC : P.cellsOf T.bk = 5
  bks : P.underlying T.bks = some (.slice T.bk)
  bksC : P.cellsOf T.bks = 1
  fu : structOf P T.fu = some [(T.int, 0), (T.tys, 1), (T.bks, 2)]
  fuC : P.cellsOf T.fu = 3
  fus : P.underlying T.fus = some (.slice T.fu)
  fusC : P.cellsOf T.fus = 1
  sg : structOf P T.sg = some [(T.tys, 0), (T.ty, 1)]
  sgC : P.cellsOf T.sg = 3
  sgs : P.underlying T.sgs = some (.slice T.sg)
  sgsC : P.cellsOf T.sgs = 1
  face : structOf P T.face = some [(T.ints, 0)]
  faceC : P.cellsOf T.face = 1
  faces : P.underlying T.faces = some (.slice T.face)
  facesC : P.cellsOf T.faces = 1
  im : structOf P T.im = some [(T.int, 0), (T.int, 1), (T.ints, 2)]
  imC : P.cellsOf T.im = 3
  ims : P.underlying T.ims = some (.slice T.im)
  imsC : P.cellsOf T.ims = 1
  pg : structOf P T.pg = some [(T.recs, 0), (T.sgs, 1), (T.faces, 2), (T.ims, 3), (T.fus, 4), (T.int, 5)]
  pgC : P.cellsOf T.pg = 6


variable [Sig] {T : TyIds} {h0 : AHeap}
theorem opens_i (K : T.Ok P) : Opens (α := Int) enc P W h0 T.int IntC := opens_int K.int
theorem opens_is (K : T.Ok P) : Opens (α := List Int) enc P W h0 T.ints (SlC 1 (IntA (inpOf W) h0)) := opens_sl K.ints K.intC (by omega) (opens_i K)
theorem opens_ty (K : T.Ok P) : Opens (α := Ty) enc P W h0 T.ty (TyC) := by
  intro n cs y h hc
  rw [K.tyC] at hc
  obtain ⟨_, m, hm⟩ := trod_fields K.ty h
  obtain ⟨a0, x0, e0, q0⟩ := opens_field (opens_i (h0 := h0) K) K.intC (k := 0) (by omega) (hm (T.int, 0) (by simp))
  obtain ⟨a1, x1, e1, q1⟩ := opens_field (opens_i (h0 := h0) K) K.intC (k := 1) (by omega) (hm (T.int, 1) (by simp))
  have ecs : cs = (cs.drop 0).take 1 ++ (cs.drop 1).take 1 := by
    match cs, hc with
    | [c0, c1], _ => rfl
  have em : cs.map canon = (a0 ++ a1).map some := by
    rw [ecs]
    simp only [List.map_append, e0, e1]
  obtain ⟨rfl, r0⟩ := q0
  obtain ⟨rfl, r1⟩ := q1
  exact ⟨_, ⟨x0, x1⟩, em, rfl, r0, r1⟩
theorem opens_tys (K : T.Ok P) : Opens (α := List Ty) enc P W h0 T.tys (SlC 2 (At (inpOf W) h0 TyC)) := opens_sl K.tys K.tyC (by omega) (opens_ty K)
theorem opens_recs (K : T.Ok P) : Opens (α := List (List Ty)) enc P W h0 T.recs (SlC 1 (At (inpOf W) h0 (SlC 2 (At (inpOf W) h0 TyC)))) := opens_sl K.recs K.tysC (by omega) (opens_tys K)
theorem opens_ins (K : T.Ok P) : Opens (α := Ins) enc P W h0 T.ins (InsC (inpOf W) h0) := by
  intro n cs y h hc
  rw [K.insC] at hc
  obtain ⟨_, m, hm⟩ := trod_fields K.ins h
  obtain ⟨a0, x0, e0, q0⟩ := opens_field (opens_i (h0 := h0) K) K.intC (k := 0) (by omega) (hm (T.int, 0) (by simp))
  obtain ⟨a1, x1, e1, q1⟩ := opens_field (opens_i (h0 := h0) K) K.intC (k := 1) (by omega) (hm (T.int, 1) (by simp))
  obtain ⟨a2, x2, e2, q2⟩ := opens_field (opens_i (h0 := h0) K) K.intC (k := 2) (by omega) (hm (T.int, 2) (by simp))
  obtain ⟨a3, x3, e3, q3⟩ := opens_field (opens_i (h0 := h0) K) K.intC (k := 3) (by omega) (hm (T.int, 3) (by simp))
  obtain ⟨a4, x4, e4, q4⟩ := opens_field (opens_i (h0 := h0) K) K.intC (k := 4) (by omega) (hm (T.int, 4) (by simp))
  obtain ⟨a5, x5, e5, q5⟩ := opens_field (opens_is (h0 := h0) K) K.intsC (k := 5) (by omega) (hm (T.ints, 5) (by simp))
  have ecs : cs = (cs.drop 0).take 1 ++ (cs.drop 1).take 1 ++ (cs.drop 2).take 1 ++ (cs.drop 3).take 1 ++ (cs.drop 4).take 1 ++ (cs.drop 5).take 1 := by
    match cs, hc with
    | [c0, c1, c2, c3, c4, c5], _ => rfl
  have em : cs.map canon = (a0 ++ a1 ++ a2 ++ a3 ++ a4 ++ a5).map some := by
    rw [ecs]
    simp only [List.map_append, e0, e1, e2, e3, e4, e5]
  obtain ⟨rfl, r0⟩ := q0
  obtain ⟨rfl, r1⟩ := q1
  obtain ⟨rfl, r2⟩ := q2
  obtain ⟨rfl, r3⟩ := q3
  obtain ⟨rfl, r4⟩ := q4
  obtain ⟨v5, rfl, s5⟩ := q5
  exact ⟨_, ⟨x0, x1, x2, x3, x4, x5⟩, em, v5, rfl, s5, r0, r1, r2, r3, r4⟩
theorem opens_inss (K : T.Ok P) : Opens (α := List Ins) enc P W h0 T.inss (SlC 6 (At (inpOf W) h0 (InsC (inpOf W) h0))) := opens_sl K.inss K.insC (by omega) (opens_ins K)
theorem opens_bk (K : T.Ok P) : Opens (α := Bk) enc P W h0 T.bk (BkC (inpOf W) h0) := by
  intro n cs y h hc
  rw [K.bkC] at hc
  obtain ⟨_, m, hm⟩ := trod_fields K.bk h
  obtain ⟨a0, x0, e0, q0⟩ := opens_field (opens_inss (h0 := h0) K) K.inssC (k := 0) (by omega) (hm (T.inss, 0) (by simp))
  obtain ⟨a1, x1, e1, q1⟩ := opens_field (opens_i (h0 := h0) K) K.intC (k := 1) (by omega) (hm (T.int, 1) (by simp))
  obtain ⟨a2, x2, e2, q2⟩ := opens_field (opens_i (h0 := h0) K) K.intC (k := 2) (by omega) (hm (T.int, 2) (by simp))
  obtain ⟨a3, x3, e3, q3⟩ := opens_field (opens_i (h0 := h0) K) K.intC (k := 3) (by omega) (hm (T.int, 3) (by simp))
  obtain ⟨a4, x4, e4, q4⟩ := opens_field (opens_i (h0 := h0) K) K.intC (k := 4) (by omega) (hm (T.int, 4) (by simp))
  have ecs : cs = (cs.drop 0).take 1 ++ (cs.drop 1).take 1 ++ (cs.drop 2).take 1 ++ (cs.drop 3).take 1 ++ (cs.drop 4).take 1 := by
    match cs, hc with
    | [c0, c1, c2, c3, c4], _ => rfl
  have em : cs.map canon = (a0 ++ a1 ++ a2 ++ a3 ++ a4).map some := by
    rw [ecs]
    simp only [List.map_append, e0, e1, e2, e3, e4]
  obtain ⟨v0, rfl, s0⟩ := q0
  obtain ⟨rfl, r1⟩ := q1
  obtain ⟨rfl, r2⟩ := q2
  obtain ⟨rfl, r3⟩ := q3
  obtain ⟨rfl, r4⟩ := q4
  exact ⟨_, ⟨x0, x1, x2, x3, x4⟩, em, v0, rfl, s0, r1, r2, r3, r4⟩
theorem opens_bks (K : T.Ok P) : Opens (α := List Bk) enc P W h0 T.bks (SlC 5 (At (inpOf W) h0 (BkC (inpOf W) h0))) := opens_sl K.bks K.bkC (by omega) (opens_bk K)
theorem opens_fu (K : T.Ok P) : Opens (α := Fu) enc P W h0 T.fu (FuC (inpOf W) h0) := by
  intro n cs y h hc
  rw [K.fuC] at hc
  obtain ⟨_, m, hm⟩ := trod_fields K.fu h
  obtain ⟨a0, x0, e0, q0⟩ := opens_field (opens_i (h0 := h0) K) K.intC (k := 0) (by omega) (hm (T.int, 0) (by simp))
  obtain ⟨a1, x1, e1, q1⟩ := opens_field (opens_tys (h0 := h0) K) K.tysC (k := 1) (by omega) (hm (T.tys, 1) (by simp))
  obtain ⟨a2, x2, e2, q2⟩ := opens_field (opens_bks (h0 := h0) K) K.bksC (k := 2) (by omega) (hm (T.bks, 2) (by simp))
  have ecs : cs = (cs.drop 0).take 1 ++ (cs.drop 1).take 1 ++ (cs.drop 2).take 1 := by
    match cs, hc with
    | [c0, c1, c2], _ => rfl
  have em : cs.map canon = (a0 ++ a1 ++ a2).map some := by
    rw [ecs]
    simp only [List.map_append, e0, e1, e2]
  obtain ⟨rfl, r0⟩ := q0
  obtain ⟨v1, rfl, s1⟩ := q1
  obtain ⟨v2, rfl, s2⟩ := q2
  exact ⟨_, ⟨x0, x1, x2⟩, em, v1, v2, rfl, r0, s1, s2⟩
theorem opens_fus (K : T.Ok P) : Opens (α := List Fu) enc P W h0 T.fus (SlC 3 (At (inpOf W) h0 (FuC (inpOf W) h0))) := opens_sl K.fus K.fuC (by omega) (opens_fu K)
theorem opens_sg (K : T.Ok P) : Opens (α := Sg) enc P W h0 T.sg (SgC (inpOf W) h0) := by
  intro n cs y h hc
  rw [K.sgC] at hc
  obtain ⟨_, m, hm⟩ := trod_fields K.sg h
  obtain ⟨a0, x0, e0, q0⟩ := opens_field (opens_tys (h0 := h0) K) K.tysC (k := 0) (by omega) (hm (T.tys, 0) (by simp))
  obtain ⟨a1, x1, e1, q1⟩ := opens_field (opens_ty (h0 := h0) K) K.tyC (k := 1) (by omega) (hm (T.ty, 1) (by simp))
  have ecs : cs = (cs.drop 0).take 1 ++ (cs.drop 1).take 2 := by
    match cs, hc with
    | [c0, c1, c2], _ => rfl
  have em : cs.map canon = (a0 ++ a1).map some := by
    rw [ecs]
    simp only [List.map_append, e0, e1]
  obtain ⟨v0, rfl, s0⟩ := q0
  obtain ⟨rfl, r1, r2⟩ := q1
  exact ⟨_, ⟨x0, x1⟩, em, v0, rfl, s0, r1, r2⟩
theorem opens_sgs (K : T.Ok P) : Opens (α := List Sg) enc P W h0 T.sgs (SlC 3 (At (inpOf W) h0 (SgC (inpOf W) h0))) := opens_sl K.sgs K.sgC (by omega) (opens_sg K)
theorem opens_face (K : T.Ok P) : Opens (α := List Int) enc P W h0 T.face (SlC 1 (IntA (inpOf W) h0)) := by
  intro n cs y h hc
  rw [K.faceC] at hc
  obtain ⟨_, m, hm⟩ := trod_fields K.face h
  obtain ⟨a0, x0, e0, q0⟩ := opens_field (opens_is (h0 := h0) K) K.intsC (k := 0) (by omega) (hm (T.ints, 0) (by simp))
  have ecs : cs = (cs.drop 0).take 1 := by
    match cs, hc with
    | [c0], _ => rfl
  have em : cs.map canon = (a0).map some := by
    rw [ecs]
    simp only [List.map_append, e0]
  obtain ⟨v0, rfl, s0⟩ := q0
  exact ⟨_, x0, em, v0, rfl, s0⟩
theorem opens_faces (K : T.Ok P) : Opens (α := List (List Int)) enc P W h0 T.faces (SlC 1 (At (inpOf W) h0 (SlC 1 (IntA (inpOf W) h0)))) := opens_sl K.faces K.faceC (by omega) (opens_face K)
theorem opens_im (K : T.Ok P) : Opens (α := Im) enc P W h0 T.im (ImC (inpOf W) h0) := by
  intro n cs y h hc
  rw [K.imC] at hc
  obtain ⟨_, m, hm⟩ := trod_fields K.im h
  obtain ⟨a0, x0, e0, q0⟩ := opens_field (opens_i (h0 := h0) K) K.intC (k := 0) (by omega) (hm (T.int, 0) (by simp))
  obtain ⟨a1, x1, e1, q1⟩ := opens_field (opens_i (h0 := h0) K) K.intC (k := 1) (by omega) (hm (T.int, 1) (by simp))
  obtain ⟨a2, x2, e2, q2⟩ := opens_field (opens_is (h0 := h0) K) K.intsC (k := 2) (by omega) (hm (T.ints, 2) (by simp))
  have ecs : cs = (cs.drop 0).take 1 ++ (cs.drop 1).take 1 ++ (cs.drop 2).take 1 := by
    match cs, hc with
    | [c0, c1, c2], _ => rfl
  have em : cs.map canon = (a0 ++ a1 ++ a2).map some := by
    rw [ecs]
    simp only [List.map_append, e0, e1, e2]
  obtain ⟨rfl, r0⟩ := q0
  obtain ⟨rfl, r1⟩ := q1
  obtain ⟨v2, rfl, s2⟩ := q2
  exact ⟨_, ⟨x0, x1, x2⟩, em, v2, rfl, r0, r1, s2⟩
theorem opens_ims (K : T.Ok P) : Opens (α := List Im) enc P W h0 T.ims (SlC 3 (At (inpOf W) h0 (ImC (inpOf W) h0))) := opens_sl K.ims K.imC (by omega) (opens_im K)
/-- A program that came in. -/
theorem opens_pg (K : T.Ok P) : Opens (α := Pg) enc P W h0 T.pg (PgC (inpOf W) h0) := by
  intro n cs y h hc
  rw [K.pgC] at hc
  obtain ⟨_, m, hm⟩ := trod_fields K.pg h
  obtain ⟨a0, x0, e0, q0⟩ := opens_field (opens_recs (h0 := h0) K) K.recsC (k := 0) (by omega) (hm (T.recs, 0) (by simp))
  obtain ⟨a1, x1, e1, q1⟩ := opens_field (opens_sgs (h0 := h0) K) K.sgsC (k := 1) (by omega) (hm (T.sgs, 1) (by simp))
  obtain ⟨a2, x2, e2, q2⟩ := opens_field (opens_faces (h0 := h0) K) K.facesC (k := 2) (by omega) (hm (T.faces, 2) (by simp))
  obtain ⟨a3, x3, e3, q3⟩ := opens_field (opens_ims (h0 := h0) K) K.imsC (k := 3) (by omega) (hm (T.ims, 3) (by simp))
  obtain ⟨a4, x4, e4, q4⟩ := opens_field (opens_fus (h0 := h0) K) K.fusC (k := 4) (by omega) (hm (T.fus, 4) (by simp))
  obtain ⟨a5, x5, e5, q5⟩ := opens_field (opens_i (h0 := h0) K) K.intC (k := 5) (by omega) (hm (T.int, 5) (by simp))
  have ecs : cs = (cs.drop 0).take 1 ++ (cs.drop 1).take 1 ++ (cs.drop 2).take 1 ++ (cs.drop 3).take 1 ++ (cs.drop 4).take 1 ++ (cs.drop 5).take 1 := by
    match cs, hc with
    | [c0, c1, c2, c3, c4, c5], _ => rfl
  have em : cs.map canon = (a0 ++ a1 ++ a2 ++ a3 ++ a4 ++ a5).map some := by
    rw [ecs]
    simp only [List.map_append, e0, e1, e2, e3, e4, e5]
  obtain ⟨v0, rfl, s0⟩ := q0
  obtain ⟨v1, rfl, s1⟩ := q1
  obtain ⟨v2, rfl, s2⟩ := q2
  obtain ⟨v3, rfl, s3⟩ := q3
  obtain ⟨v4, rfl, s4⟩ := q4
  obtain ⟨rfl, r5⟩ := q5
  exact ⟨_, ⟨x0, x1, x2, x3, x4, x5⟩, em, v0, v1, v2, v3, v4, rfl, r5, s0, s1, s2, s3, s4⟩

/-- A pointer to a program that came in. -/
theorem open_pg (K : T.Ok P) {r : Reach} {b0 t : Nat} {v : Value} {d : DataW H} {p : List MemPlace} (ht : P.underlying t = some (.pointer T.pg)) (ho : Value.okWide P W r b0 t v) (h : DataW.Trod enc P W 0 (fun _ => true) true t v d p) :
    v = .pointer none ∨ ∃ b o q, v = .pointer (some ⟨b, o, none⟩) ∧ PgA (inpOf W) h0 (.inp (2 * b)) o q := by
  obtain ⟨a, rfl⟩ := okWide_pointer ht ho
  cases a with
  | none => exact .inl rfl
  | some a =>
    right
    obtain ⟨n, hn⟩ := h
    cases n with
    | zero => cases hn
    | succ n =>
      rw [DataW.trod_step] at hn
      unfold DataW.trodStep at hn
      simp only [Value.cells, ht] at hn
      rw [Option.map_eq_some_iff] at hn
      obtain ⟨y, hy, _⟩ := hn
      rw [Option.bind_eq_some_iff] at hy
      obtain ⟨cs, hcs, hy⟩ := hy
      obtain ⟨_, hlen, hg⟩ := World.cells?_some hcs
      rw [K.pgC] at hlen hg
      have hsp : a.spot = none := by
        have := hg 0 (by omega)
        rw [show a.add 0 = a from rfl, List.getElem?_eq_getElem (by omega)] at this
        unfold World.cell? at this
        split at this
        · cases hs : a.spot with
          | none => rfl
          | some s => rw [hs] at this; cases this
        · cases this
      obtain ⟨b, o, sp⟩ := a
      simp only at hsp
      subst hsp
      obtain ⟨q, hq⟩ := (opens_pg (h0 := h0) K).at (b := b) (o := o) hy (fun i hi => by rw [← hg i (by omega), addr_add]) (by rw [hlen, K.pgC])
      exact ⟨b, o, q, rfl, hq⟩
end
end

end Go.AM
