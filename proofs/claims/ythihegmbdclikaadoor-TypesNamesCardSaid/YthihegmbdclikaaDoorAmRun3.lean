/- AM, part 16: functions: what the abstract machine computes is what the model computes, on every tape. -/
import Derived.Test.YthihegmbdclikaaDoorAmDraw4
namespace Go.AM
noncomputable section
open Go.RowKit
set_option linter.unusedSectionVars false
variable [Sig]

section
variable {P : Program} {W : World} {I : Inp}

theorem putArgs_get : ∀ (args : List AVal) (i : Nat) (f : Fr), i + args.length ≤ 16000 → ∀ t, (putArgs i args f).get t = if i ≤ t ∧ t < i + args.length then args.getD (t - i) aundef else f.get t := by
  intro args
  induction args with
  | nil => intro i f _ t; simp only [putArgs, List.length_nil]; rw [if_neg (by omega)]
  | cons v r ih =>
    intro i f hl t
    simp only [List.length_cons] at hl ⊢
    simp only [putArgs]
    rw [ih (i + 1) _ (by omega) t, Fr.get_put (by show i + 1 < 16384; omega)]
    by_cases h1 : i + 1 ≤ t ∧ t < i + 1 + r.length
    · rw [if_pos h1, if_pos (by omega)]
      have : t - i = (t - (i + 1)) + 1 := by omega
      rw [this, List.getD_cons_succ]
    · rw [if_neg h1]
      by_cases h2 : t = i
      · rw [if_pos h2, if_pos (by omega), h2]; simp
      · rw [if_neg h2, if_neg (by omega)]

theorem start_rel {ι : Map} {n : Nat} {args : List AVal} {argsC : Array Value} (hr : VRels ι args argsC.toList) (hl : args.length ≤ n) (hn : n ≤ 16000) :
    FrRel ι n (putArgs 0 args .nil) (argsC ++ Array.replicate (n - argsC.size) undef) := by
  have hs : args.length = argsC.size := by simpa using hr.length
  refine ⟨by simp; omega, fun t => ?_⟩
  rw [putArgs_get args 0 .nil (by omega) t]
  by_cases ht : t < args.length
  · rw [if_pos (by omega)]
    obtain ⟨u, hu, hv⟩ := hr.get (i := t) (v := args.getD t aundef) (by
      rw [List.getD_eq_getElem?_getD, List.getElem?_eq_getElem ht]; rfl)
    rw [Array.getElem?_toList] at hu
    rw [Array.getD_eq_getD_getElem?, Array.getElem?_append_left (by omega), hu]
    simpa using hv
  · rw [if_neg (by omega)]
    have hg : Fr.get Tr.nil t = aundef := rfl
    rw [hg, Array.getD_eq_getD_getElem?, Array.getElem?_append_right (by omega)]
    have : ((Array.replicate (n - argsC.size) undef)[t - argsC.size]?).getD undef = undef := by
      rw [Array.getElem?_replicate]
      split <;> rfl
    rw [this]
    exact undef_rel ι

def resRun (tmps : Array Value) (rv : ResultVar) : Sem Value :=
  match rv with
  | .tmp t => pure (tmps.getD t undef)
  | .cell a t => do loadVar t (← asAddr (tmps.getD a undef))

theorem results_eq (fn : Func) (tmps : Array Value) : results fn tmps = (do
    let vs ← fn.results.mapM (resRun tmps)
    pure (if h : vs.size = 1 then vs[0] else .tuple vs)) := by
  unfold results
  congr 2

theorem res_sound (hI : InpOk W I) {ι : Map} {n : Nat} {f : Fr} {h : AHeap} {tmps : Array Value} {w : World} (r : Rep W ι h w) (fr : FrRel ι n f tmps) : ∀ (rs : List ResultVar) (ars : List ARes), cRes P rs = some ars →
    ∀ vs, ressOf I f h ars = some vs → ∃ us, (rs.mapM (resRun tmps)).run P w = .ok us w ∧ VRels ι vs us := by
  intro rs
  induction rs with
  | nil => intro ars hc vs hv; cases hc; cases hv; exact ⟨[], by simp, .nil⟩
  | cons rv rs ih =>
    intro ars hc vs hv
    cases rv with
    | tmp t =>
      simp only [cRes] at hc
      obtain ⟨ars', hars, rfl⟩ := map_some hc
      simp only [ressOf, resOf] at hv
      split at hv
      · rename_i v vs' hv1 hv2
        cases hv
        cases hv1
        obtain ⟨us, h1, h2⟩ := ih ars' hars vs' hv2
        exact ⟨tmps.getD t undef :: us, by simp only [List.mapM_cons, resRun, Sem.run_bind, Sem.run_pure, Result.andThen_ok, h1], .cons (fr.get t) h2⟩
      · cases hv
    | cell a t =>
      simp only [cRes] at hc
      split at hc
      · rename_i m ars' ht hm hars
        cases hc
        simp only [ressOf] at hv
        split at hv
        · rename_i v vs' hv1 hv2
          cases hv
          simp only [resOf] at hv1
          have hfa := fr.get a
          split at hv1
          · rename_i l o he
            rw [he] at hfa
            obtain ⟨cs, hcs, rfl⟩ := map_some hv1
            obtain ⟨us, h1, h2⟩ := ih ars' hars vs' hv2
            obtain ⟨u, hu, hur⟩ := loadN_op hI r ht hm hfa hcs
            obtain ⟨ad, hp, had⟩ := inv_ptr hfa
            rw [hp] at hu
            have hu' : (loadVar t ad).run P w = .ok u w := by simpa [Instr.loadAt, Instr.sureAddr] using hu
            have hasA : (asAddr (tmps.getD a undef)).run P w = .ok ad w := by rw [hp]; rfl
            exact ⟨u :: us, by simp only [List.mapM_cons, resRun, Sem.run_bind, hasA, Sem.run_pure, Result.andThen_ok, hu', h1], .cons hur h2⟩
          · cases hv1
        · cases hv
      · rename_i m ars' ht hm hars
        cases hc
        simp only [ressOf] at hv
        split at hv
        · rename_i v vs' hv1 hv2
          cases hv
          simp only [resOf] at hv1
          have hfa := fr.get a
          split at hv1
          · rename_i l o he
            rw [he] at hfa
            obtain ⟨us, h1, h2⟩ := ih ars' hars vs' hv2
            obtain ⟨u, hu, hur⟩ := load1_op hI r ht hfa hv1
            obtain ⟨ad, hp, had⟩ := inv_ptr hfa
            rw [hp] at hu
            have hu' : (loadVar t ad).run P w = .ok u w := by simpa [Instr.loadAt, Instr.sureAddr] using hu
            have hasA : (asAddr (tmps.getD a undef)).run P w = .ok ad w := by rw [hp]; rfl
            exact ⟨u :: us, by simp only [List.mapM_cons, resRun, Sem.run_bind, hasA, Sem.run_pure, Result.andThen_ok, hu', h1], .cons hur h2⟩
          · cases hv1
        · cases hv
      · cases hc

theorem oneOrTuple_rel {ι : Map} {vs : List AVal} {us : List Value} (hr : VRels ι vs us) : VRel ι (oneOrTuple vs) (if h : us.toArray.size = 1 then us.toArray[0] else .tuple us.toArray) := by
  cases hr with
  | nil => exact .tuple _ _ .nil
  | cons hv hs =>
    cases hs with
    | nil => simpa [oneOrTuple] using hv
    | cons hv2 hs2 =>
      simp only [oneOrTuple]
      rw [dif_neg (by simp)]
      exact .tuple _ _ (.cons hv (.cons hv2 hs2))

/-- The functions of the abstract machine stand for the program's. -/
structure FnsOk (P : Program) (W : World) (F : Nat → Option AFn) : Prop where
  code : ∀ g af, F g = some (.code af) → ∃ fn, P.funcs[g]? = some fn ∧ cFunc P fn = some af ∧ fn.name ≠ "runtime.NumGoroutine"
  prim : ∀ g p, F g = some (.prim p) → CallOk1 P W p g

theorem callF_sound (hI : InpOk W I) (hm : P.follows .mixedOrders = true) {F : Nat → Option AFn} (hF : FnsOk P W F) : ∀ n, CallOk P W (callF P I F n) := by
  intro n
  induction n with
  | zero => intro g args h v h' hr; cases hr
  | succ n ih =>
    intro g args h v h' hr ι w argsC r hrel
    simp only [callF, execK_eq] at hr
    split at hr
    · cases hr
    · rename_i p hp
      exact hF.prim g p hp args h v h' hr ι w argsC r hrel
    · rename_i af haf
      obtain ⟨fn, hfn, hcf, hname⟩ := hF.code g af haf
      unfold cFunc at hcf
      split at hcf
      · cases hcf
      · rename_i c hbody
        split at hcf
        · rename_i ac ars hac hars
          split at hcf
          · rename_i hw
            cases hcf
            simp only [Bool.and_eq_true] at hw
            have hn := Nat.le_of_ble_eq_true hw.2
            split at hr
            · cases hr
            · rename_i hle
              have hle' := Nat.le_of_ble_eq_true hle
              have hcallee : (callFunc g argsC).run P w = .ok (.enter g argsC) w := by
                simp [callFunc, hfn, hname, hbody]
              refine .inl ⟨hcallee, ?_⟩
              have hx : ∀ x f1 h1, exec P I (callF P I F n) n ac (putArgs 0 args .nil) h = some (x, f1, h1) → (∀ id, x ≠ .exit id) → (match ressOf I f1 h1 ars with
                  | some vs => some (oneOrTuple vs, h1) | none => none) = some (v, h') → Calls P g argsC w (fun e w' => ∃ v_1, e = .returned v_1 ∧ ∃ ι', VRel ι' v v_1 ∧ Step W ι h w ι' h' w') := by
                intro x f1 h1 hex hne hres
                split at hres
                · rename_i vs hvs
                  cases hres
                  have hd := exec_sound hI ih hn (draw_ok hI ih hm hn) n c ac hac hw.1 _ _ _ _ _ hex ι ⟨argsC ++ Array.replicate (fn.ntmps - argsC.size) undef, []⟩ w r (start_rel hrel hle' hn)
                  refine calls_of_wp hfn hbody (wp_mono hd fun e a' w' ⟨he, hp⟩ => ?_)
                  obtain ⟨⟨ι', fr', st⟩, hdef⟩ := hp
                  obtain ⟨us, hus, hrv⟩ := res_sound hI st.rep fr' fn.results.toList ars hars vs hvs
                  have hresults : (results fn a'.tmps).run P w' = .ok (if h : us.toArray.size = 1 then us.toArray[0] else .tuple us.toArray) w' := by
                    rw [results_eq, Array.mapM_eq_mapM_toList]
                    simp only [Sem.run_bind, Sem.run_map, hus]
                    rfl
                  have hfin : a'.defers = [] ∧ ∃ v_1, (results fn a'.tmps).run P w' = .ok v_1 w' ∧ ∃ v_2, Ending.returned v_1 = .returned v_2 ∧ ∃ ι', VRel ι' (oneOrTuple vs) v_2 ∧ Step W ι h w ι' _ w' :=
                    ⟨hdef, _, hresults, _, rfl, ι', oneOrTuple_rel hrv, st⟩
                  subst he
                  cases x with
                  | normal => exact hfin
                  | exit id => exact absurd rfl (hne id)
                  | ret => exact hfin
                · cases hres
              split at hr
              · cases hr
              · rename_i x f1 h1 hne hex
                exact hx x f1 h1 hex (fun id e => by subst e; exact hne id rfl) hr
              · cases hr
          · cases hcf
        · cases hcf
/-- The world as the abstract machine's empty heap. -/
theorem rep_start (W : World) : Rep W (fun _ => none) ⟨.nil, 0⟩ W := by
  have hn : ∀ k b, (⟨.nil, 0⟩ : AHeap).get k ≠ some b := fun k b h => by cases h
  exact ⟨Below.refl _ _, fun k b h => absurd h (hn k b), fun k k' b b' pl pl' h => absurd h (hn k b), fun _ _ => rfl⟩

/-- A law that the abstract machine calls true is true. -/
theorem law_true (hI : InpOk W I) (hm : P.follows .mixedOrders = true) {F : Nat → Option AFn} (hF : FnsOk P W F) {n g : Nat} {args : List AVal} {argsC : Array Value} (hargs : VRels (fun _ => none) args argsC.toList) {h' : AHeap}
    {af : AFunc} (hg : F g = some (.code af)) (hrun : callF P I F n g args ⟨.nil, 0⟩ = some (.bool true, h')) : Calls P g argsC W (fun e w' => e = .returned (.bool true) ∧ Below W.heap.size W w') := by
  have h := callF_sound hI hm hF n g args _ _ _ hrun _ W argsC (rep_start W) hargs
  obtain ⟨fn, hfn, hcf, hname⟩ := hF.code g af hg
  have hb : fn.body.isSome = true := by
    unfold cFunc at hcf
    split at hcf
    · cases hcf
    · rename_i c hc; rw [hc]; rfl
  obtain ⟨c, hc⟩ := Option.isSome_iff_exists.1 hb
  rcases h with ⟨_, h2⟩ | ⟨v, w', h1, _⟩
  · exact h2.mono fun e w' ⟨v, he, ι', hv, hst⟩ => by
      rw [inv_bool hv] at he
      exact ⟨he, hst.rep.below⟩
  · simp [callFunc, hfn, hname, hc] at h1
end

end

end Go.AM
