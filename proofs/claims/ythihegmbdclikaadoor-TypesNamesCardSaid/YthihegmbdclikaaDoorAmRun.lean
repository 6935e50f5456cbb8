/- AM, part 14: code, calls: what the abstract machine computes is what the model computes, on every tape. -/
import Derived.Test.YthihegmbdclikaaDoorAmSnd9
namespace Go.AM
noncomputable section
open Go.RowKit
set_option linter.unusedSectionVars false
variable [Sig]

/-- What a call of a function comes to, where it stands in an operation: it enters and returns, or answers at once. -/
def Ans (P : Program) (g : Nat) (args : Array Value) (w : World) (R : Value → World → Prop) : Prop :=
  ((callFunc g args).run P w = .ok (.enter g args) w ∧ Calls P g args w (fun e w' => ∃ v, e = .returned v ∧ R v w')) ∨
  (∃ v w', (callFunc g args).run P w = .ok (.value v) w' ∧ R v w')

/-- A function of the abstract machine is what the model's is. -/
def CallOk1 (P : Program) (W : World) (p : List AVal → AHeap → Option (AVal × AHeap)) (g : Nat) : Prop :=
  ∀ args h v h', p args h = some (v, h') → ∀ ι w argsC, Rep W ι h w → VRels ι args argsC.toList →
    Ans P g argsC w (fun u w' => ∃ ι', VRel ι' v u ∧ Step W ι h w ι' h' w')

def CallOk (P : Program) (W : World) (call : CallFn) : Prop := ∀ g, CallOk1 P W (call g) g

theorem Ans.mono {P : Program} {g : Nat} {args : Array Value} {w : World} {R R' : Value → World → Prop} (h : Ans P g args w R) (hr : ∀ v w', R v w' → R' v w') : Ans P g args w R' := by
  rcases h with ⟨h1, h2⟩ | ⟨v, w', h1, h2⟩
  · exact .inl ⟨h1, h2.mono fun e w' ⟨v, he, hv⟩ => ⟨v, he, hr _ _ hv⟩⟩
  · exact .inr ⟨v, w', h1, hr _ _ h2⟩

section
variable {P : Program} {W : World} {I : Inp}

theorem Oper.wp_of_ans {o : Oper} {a : Act} {w : World} {g : Nat} {args : Array Value} {R : Value → World → Prop} {next : Act → World → Prop} {Q : Exit → Act → World → Prop}
    (he : (execOp a.eval o).run P w = (callFunc g args).run P w) (hans : Ans P g args w R) (hn : ∀ v w', R v w' → next (a.put o.dst v) w') : o.wp P a w next Q := by
  unfold Oper.wp
  rw [he]
  rcases hans with ⟨h1, h2⟩ | ⟨v, w', h1, h2⟩
  · rw [h1]
    show Calls P g args w _
    exact h2.mono fun e w' ⟨v, hv, hr⟩ => by subst hv; exact hn v w' hr
  · rw [h1]
    exact hn v w' h2

/-! ### which function a call enters -/
theorem target_sound {ι : Map} {n : Nat} {f : Fr} {a : Act} (fr : FrRel ι n f a.tmps) {o : Oper} {ao : AOp} (hc : cOp P o.op = some ao) {g : Nat} {args : List AVal} (ht : ao.target P f = some (g, args)) (w : World) :
    ∃ argsC, VRels ι args argsC.toList ∧ (execOp a.eval o).run P w = (callFunc g argsC).run P w := by
  obtain ⟨dst, op, type, pos, after, guard⟩ := o
  have hcall : ∃ c, op = .call c := by
    cases op <;> simp only [cOp, reduceCtorEq] at hc
    case call c => exact ⟨c, rfl⟩
    all_goals exfalso
    all_goals first
      | (obtain ⟨y, _, rfl⟩ := map_some hc; cases ht; done)
      | (repeat' (split at hc)
         all_goals first | (cases hc; done) | (cases hc; cases ht; done) | (obtain ⟨y, _, rfl⟩ := map_some hc; cases ht; done))
  obtain ⟨c, rfl⟩ := hcall
  simp only [cOp] at hc
  split at hc
  · cases hc
  · rename_i as hargs
    have hrel := cOpds_rel hargs fr
    have hal : c.args.toList.map a.eval = (c.args.map a.eval).toList := by rw [Array.toList_map]
    rw [hal] at hrel
    split at hc
    · rename_i g' hcal
      cases hc
      simp only [AOp.target, Option.some.injEq, Prod.mk.injEq] at ht
      obtain ⟨rfl, rfl⟩ := ht
      refine ⟨c.args.map a.eval, hrel, ?_⟩
      simp [execOp, resolve, hcal, Act.eval, Deferred.ofValue, invoke]
    · rename_i x hcal
      split at hc
      · rename_i x' hx
        cases hc
        simp only [AOp.target] at ht
        have hxr := cOpd_rel hx fr
        split at ht
        · rename_i g' first captured he
          cases ht
          rw [he] at hxr
          obtain ⟨f', c', hp, h1, h2⟩ := inv_func hxr
          refine ⟨f' ++ c.args.map a.eval ++ c', by rw [Array.toList_append, Array.toList_append]; exact (h1.append hrel).append h2, ?_⟩
          simp [execOp, resolve, hcal, hp, Deferred.ofValue, invoke]
        · cases ht
      · cases hc
    · rename_i x name hcal
      split at hc
      · rename_i x' hx
        cases hc
        simp only [AOp.target] at ht
        have hxr := cOpd_rel hx fr
        split at ht
        · rename_i t v he
          rw [he] at hxr
          obtain ⟨u, hp, hu⟩ := inv_iface hxr
          have hm : ∀ g', methodOf P t name = some g' → (match u with | .pointer _ => True | _ => False) → (execOp a.eval ⟨dst, .call c, type, pos, after, guard⟩).run P w = (callFunc g' (#[u] ++ c.args.map a.eval)).run P w := by
            intro g' hg hpu
            unfold methodOf at hg
            split at hg
            · cases hg
            · rename_i i hi
              split at hg
              · cases hg
              · rename_i m hfind
                split at hg
                · rename_i e0 f0 e1 hpath hfunc hund
                  cases hg
                  have hmeth : (method ((P.types.size + Made.depth)) t u name).run P w = .ok (g', u) w := by
                    have hpos : 0 < Made.depth := by decide
                    have hd : ∃ k, P.types.size + Made.depth = k + 1 := ⟨P.types.size + Made.depth - 1, by omega⟩
                    obtain ⟨k, hk⟩ := hd
                    rw [hk]
                    simp [method, typeInfo, hi, hfind, hpath, follow, hfunc, receiverAt, run_underlying hund, Place.get]
                  have h0 : (#[Value.iface t u] ++ Array.map a.eval c.args)[0]? = some (.iface t u) := by
                    rw [Array.getElem?_append_left (by simp)]; rfl
                  have hx1 : (Array.map a.eval c.args).extract 0 c.args.size = Array.map a.eval c.args := by
                    have hs : c.args.size = (Array.map a.eval c.args).size := by simp
                    rw [hs, Array.extract_size]
                  simp [execOp, resolve, hcal, hp, invoke, callMethod, h0, hx1, hmeth]
                · cases hg
          split at ht
          · rename_i g' hg
            cases ht
            have hu' := inv_nilp hu
            subst hu'
            exact ⟨#[.pointer none] ++ c.args.map a.eval, by rw [Array.toList_append]; exact .cons hu hrel, hm _ hg trivial⟩
          · rename_i g' l o hg
            cases ht
            obtain ⟨ad, rfl, had⟩ := inv_ptr hu
            exact ⟨#[.pointer (some ad)] ++ c.args.map a.eval, by rw [Array.toList_append]; exact .cons hu hrel, hm _ hg trivial⟩
          · cases ht
        · cases ht
      · cases hc
    · rename_i b hcal
      exfalso
      unfold cBuiltin at hc
      repeat' (split at hc)
      all_goals first | (cases hc; done) | (cases hc; cases ht; done)
end

end

end Go.AM
