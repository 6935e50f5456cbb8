/- AM, part 20: a law that the abstract machine calls true is true; the row's last step. -/
import Derived.Test.YthihegmbdclikaaDoorAmRun3
import Derived.ProofKit
namespace Go.AM
noncomputable section
open Go.RowKit Go.WideShapes Go.ChangeShapes
set_option linter.unusedSectionVars false
variable [Sig]

abbrev Prim := List AVal → AHeap → Option (AVal × AHeap)

/-- The program's functions; some by a contract that stands in their place. -/
def genF (P : Program) (prims : Nat → Option Prim) (g : Nat) : Option AFn :=
  match prims g with
  | some p => some (.prim p)
  | none => match P.funcs[g]? with
    | none => none
    | some fn => match cFunc P fn with
      | some af => some (.code af)
      | none => none

theorem genF_ok {P : Program} {W : World} {prims : Nat → Option Prim} (hname : P.funcs.toList.all (fun f => f.name != "runtime.NumGoroutine") = true) (hp : ∀ g p, prims g = some p → CallOk1 P W p g) : FnsOk P W (genF P prims) := by
  constructor
  · intro g af h
    unfold genF at h
    split at h
    · cases h
    · split at h
      · cases h
      · rename_i fn hfn
        split at h
        · rename_i af' haf
          cases h
          refine ⟨fn, hfn, haf, ?_⟩
          rw [List.all_eq_true] at hname
          have := hname fn (Array.mem_toList_iff.2 (Array.mem_of_getElem? hfn))
          simpa using this
        · cases h
  · intro g p h
    unfold genF at h
    split at h
    · rename_i p' hp'
      cases h
      exact hp g _ hp'
    · split at h
      · cases h
      · split at h <;> cases h

def saysTrue : Option (AVal × AHeap) → Bool
  | some (.bool true, _) => true
  | _ => false

theorem saysTrue_spec {o : Option (AVal × AHeap)} (h : saysTrue o = true) : ∃ h', o = some (.bool true, h') := by
  unfold saysTrue at h
  split at h
  · exact ⟨_, rfl⟩
  · cases h

theorem noInp (W : World) : InpOk W (fun _ _ => none) := fun b o v h => by cases h

/-- A law of closed values. -/
theorem law_closed {P : Program} (hm : P.follows .mixedOrders = true) (hname : P.funcs.toList.all (fun f => f.name != "runtime.NumGoroutine") = true) {prims : Nat → Option Prim} {n g : Nat} {args : List AVal} {argsC : Array Value} (W : World)
    (hp : ∀ g p, prims g = some p → CallOk1 P W p g) (hargs : VRels (fun _ => none) args argsC.toList) (hg : prims g = none) {I : Inp} (hI : InpOk W I)
    (hrun : saysTrue (callF P I (genF P prims) n g args ⟨.nil, 0⟩) = true) : Calls P g argsC W (fun e w' => e = .returned (.bool true) ∧ Below W.heap.size W w') := by
  obtain ⟨h', hr⟩ := saysTrue_spec hrun
  have hF := genF_ok (W := W) hname hp
  have hcode : ∃ af, genF P prims g = some (.code af) := by
    cases n with
    | zero => cases hr
    | succ n =>
      simp only [callF] at hr
      cases hgF : genF P prims g with
      | none => rw [hgF] at hr; cases hr
      | some x =>
        cases x with
        | code af => exact ⟨af, rfl⟩
        | prim p =>
          exfalso
          unfold genF at hgF
          rw [hg] at hgF
          simp only [] at hgF
          split at hgF
          · cases hgF
          · split at hgF <;> cases hgF
  obtain ⟨af, haf⟩ := hcode
  exact law_true hI hm hF hargs haf hr

/-- The row's last step, where of the world behind the call it is known that nothing of what was there has turned. -/
theorem post_below {H : Type} {enc : TypeId × Value → H} {P : Program} {f : Func} {s : ChangeSpec} {apart fresh handsOn again : Bool} {W W' : World} {args : Array Value} {v : Value} {ds gs : List (DataW H)} {before pa pv : List MemPlace}
    (hW : DataW.Whole enc P f.params.toList s.vars apart W args.toList ds gs before)
    (hres : ∀ (b : Nat) (sp : Nat → Bool) (hd : Bool), DataW.TrodAll enc P W' b sp hd f.resultTypes.toList (v.resultList f.resultTypes.size) (s.fn H (ds ++ gs)).results [])
    (hargs : ∀ sp : Nat → Bool, (∀ p ∈ before, sp p.block = true) → DataW.TrodAll enc P W' 0 sp true f.params.toList args.toList (s.fn H (ds ++ gs)).args pa)
    (hvars : ∀ sp : Nat → Bool, (∀ p ∈ before, sp p.block = true) → DataW.TrodVars enc P W' sp s.vars (s.fn H (ds ++ gs)).vars pv)
    (hps : before = pa ++ pv) (hb : Below W.heap.size W W')
    (hok : ∀ (j : Nat) (t : TypeId) (r : Value), f.resultTypes[j]? = some t → (v.resultList f.resultTypes.size)[j]? = some r → Value.okWide P W' .any 0 t r) :
    s.post enc P f apart fresh handsOn again W args v W' := by
  have below : ∀ p ∈ before, p.block < W.heap.size := fun p hp => hW.lt p hp
  have kept : ∀ p ∈ before, decide (p.block < W.heap.size) = true := fun p hp => by simpa using below p hp
  have inPlace : ∀ p, p ∈ pa ++ pv → p ∈ before := fun p hp => by rw [hps]; exact hp
  refine ⟨ds, gs, before, [], pa, pv, hW, hres _ _ _, hargs (fun b => decide (b < W.heap.size)) kept, hvars (fun b => decide (b < W.heap.size)) kept, World.keptBut_mono (fun p hp => ⟨hp, ?_⟩) (hb.frame (· ∈ before)), fun _ => ?_⟩
  · rw [hps, List.mem_append] at hp
    exact .inr hp
  · obtain ⟨_, _, _, _, _, frozen, apartOnes⟩ := hW
    refine ⟨hok, _, _, ([] ++ pa) ++ pv, ⟨[] ++ pa, pv, trodAll_append (hargs _ (fun _ _ => rfl)) (hres _ _ _), hvars _ (fun _ _ => rfl), rfl, fun b off hp => ?_, fun ha => ?_⟩, fun p hp _ => ?_⟩
    · have hin := inPlace (.cell b off) (by simpa using hp)
      rw [hb.frozen (below _ hin)]
      exact frozen b off hin
    · have := apartOnes ha
      rw [hps] at this
      simpa using this
    · exact inPlace p (by simpa using hp)

end

end Go.AM
