/- AM, part 12: every operation that is no call: what the abstract machine computes is what the model computes. -/
import Derived.Test.YthihegmbdclikaaDoorAmSnd7
namespace Go.AM
noncomputable section
open Go.RowKit
set_option linter.unusedSectionVars false
variable [Sig]

/-- What an operation comes to. -/
def Comes (P : Program) (W : World) (ι : Map) (h : AHeap) (a : Act) (o : Oper) (w : World) (v : AVal) (h' : AHeap) : Prop :=
  ∃ u w' ι', ((execOp a.eval o).run P w = .ok (.value u) w' ∨ ((execOp a.eval o).run P w = .ok .skip w' ∧ u = undef)) ∧ VRel ι' v u ∧ Step W ι h w ι' h' w'

section
variable {P : Program} {W : World} {I : Inp} {ι : Map} {h : AHeap} {w : World}

/-- An operation that computes a value and leaves memory alone. -/
theorem Comes.pure (r : Rep W ι h w) {a : Act} {o : Oper} {v : AVal} {u : Value} (hrun : (execOp a.eval o).run P w = .ok (.value u) w) (hv : VRel ι v u) : Comes P W ι h a o w v h :=
  ⟨u, w, ι, .inl hrun, hv, Step.refl r⟩
theorem Comes.made {a : Act} {o : Oper} {v : AVal} {h' : AHeap} {s : Sem Value} (he : (execOp a.eval o).run P w = (do Pure.pure (Next.value (← s)) : Sem Next).run P w) (hs : ∃ u w' ι', s.run P w = .ok u w' ∧ VRel ι' v u ∧ Step W ι h w ι' h' w') :
    Comes P W ι h a o w v h' := by
  obtain ⟨u, w', ι', hrun, hv, hst⟩ := hs
  exact ⟨u, w', ι', .inl (by rw [he]; simp [hrun]), hv, hst⟩
theorem Comes.val (r : Rep W ι h w) {a : Act} {o : Oper} {v : AVal} {s : Sem Value} (he : (execOp a.eval o).run P w = (do Pure.pure (Next.value (← s)) : Sem Next).run P w) (hs : ∃ u, s.run P w = .ok u w ∧ VRel ι v u) : Comes P W ι h a o w v h := by
  obtain ⟨u, hrun, hv⟩ := hs
  exact ⟨u, w, ι, .inl (by rw [he]; simp [hrun]), hv, Step.refl r⟩

theorem cOpt_none {x : Option AOpd} {y : Option Operand} (hy : cOpt y = some x) (hx : x = none) : y = none := by
  cases y with
  | none => rfl
  | some z => subst hx; simp only [cOpt] at hy; split at hy <;> cases hy

theorem key_builtin {a : Act} {o : Oper} {c : Call} {b : Builtin} (ho : o.op = .call c) (hcal : c.callee = .builtin b) (w : World) :
    ∃ consts, (execOp a.eval o).run P w = (builtin b c.argTypes o.type consts (c.args.map a.eval)).run P w := by
  refine ⟨c.args.map isConstO, ?_⟩
  simp only [execOp, ho, resolve, hcal]
  show Sem.run P (builtin b c.argTypes o.type (Array.map _ c.args) (Array.map a.eval c.args)) w = _
  congr 3

theorem builtin_sound (hI : InpOk W I) (r : Rep W ι h w) {n : Nat} {f : Fr} {a : Act} (fr : FrRel ι n f a.tmps) {o : Oper} {c : Call} {b : Builtin} (ho : o.op = .call c) (hcal : c.callee = .builtin b) {args : List AOpd}
    (hargs : cOpds c.args.toList = some args) {ao : AOp} (hc : cBuiltin P b c.argTypes.toList args = some ao) {v : AVal} {h' : AHeap} (hs : ao.step P I f h = some (v, h')) : Comes P W ι h a o w v h' := by
  have hrel := cOpds_rel hargs fr
  obtain ⟨consts, key⟩ := key_builtin (P := P) (a := a) ho hcal w
  have htl : c.argTypes = c.argTypes.toList.toArray := by simp
  have hal : c.args.map a.eval = (c.args.toList.map a.eval).toArray := by rw [← Array.toList_map, Array.toArray_toList]
  generalize c.args.toList.map a.eval = us at hrel hal
  generalize c.argTypes.toList = ts at hc htl
  rw [htl, hal] at key
  unfold cBuiltin at hc
  split at hc
  · -- len
    rename_i t ts' x xs
    cases hrel with
    | cons hx hxs =>
      rename_i u us'
      have hx : VRel ι (x.ev f) u := hx
      split at hc
      · rename_i hu
        cases hc
        simp only [AOp.step] at hs
        split at hs
        · rename_i s hev
          cases hs
          exact Comes.val r key ⟨_, len_op (x := x.ev f) rfl rfl hu (.inl ⟨rfl, _, hev, rfl⟩) hx w, .int _ _⟩
        · cases hs
      · rename_i e hu
        cases hc
        simp only [AOp.step] at hs
        split at hs
        · rename_i hev
          cases hs
          exact Comes.val r key ⟨_, len_op (x := x.ev f) rfl rfl hu (.inr ⟨⟨e, rfl⟩, .inl ⟨hev, rfl⟩⟩) hx w, .int _ _⟩
        · rename_i l o n cap hev
          cases hs
          exact Comes.val r key ⟨_, len_op (x := x.ev f) rfl rfl hu (.inr ⟨⟨e, rfl⟩, .inr ⟨_, _, _, hev⟩⟩) hx w, .int _ _⟩
        · cases hs
      · cases hc
  · -- append
    rename_i t u x y
    cases hrel with
    | cons hx hxs =>
      cases hxs with
      | cons hy hnil =>
        cases hnil
        split at hc
        · rename_i e d ht hu
          split at hc
          · rename_i i z hi hz hd
            split at hc
            · rename_i hcond
              cases hc
              simp only [Bool.and_eq_true, Nat.beq_eq] at hcond
              have hpos : 0 < i.size := Nat.le_of_ble_eq_true hcond.2
              have hd' : d = .string ∨ ∃ e', d = .slice e' := by
                cases d <;> first | exact .inl rfl | exact .inr ⟨_, rfl⟩ | cases hd
              simp only [AOp.step] at hs
              exact Comes.made key (append_op hI r ht hu hd' hi hz hcond.1 hpos hx hy hs)
            · cases hc
          · cases hc
        · cases hc
  · rename_i x xs
    cases hc
    simp only [AOp.step] at hs
    cases hrel with
    | cons hx hxs =>
      rename_i u us'
      simp only [List.map_cons] at hs
      split at hs
      · rename_i k a0 rr heq
        split at hs
        · rename_i v0 hv0
          cases hs
          simp only [List.cons.injEq] at heq
          have hx : VRel ι (x.ev f) u := hx
          rw [heq.1] at hx
          rw [heq.2] at hxs
          obtain ⟨u0, h1, h2⟩ := minInts_min (P := P) hv0 hxs w
          rw [inv_int hx] at key
          exact Comes.val r key ⟨u0, by simpa [Builtin.min_] using h1, h2⟩
        · cases hs
      · cases hs
  · rename_i x xs
    cases hc
    simp only [AOp.step] at hs
    cases hrel with
    | cons hx hxs =>
      rename_i u us'
      simp only [List.map_cons] at hs
      split at hs
      · rename_i k a0 rr heq
        split at hs
        · rename_i v0 hv0
          cases hs
          simp only [List.cons.injEq] at heq
          have hx : VRel ι (x.ev f) u := hx
          rw [heq.1] at hx
          rw [heq.2] at hxs
          obtain ⟨u0, h1, h2⟩ := minInts_max (P := P) hv0 hxs w
          rw [inv_int hx] at key
          exact Comes.val r key ⟨u0, by simpa [Builtin.max_] using h1, h2⟩
        · cases hs
      · cases hs
  · cases hc
end

end

end Go.AM
