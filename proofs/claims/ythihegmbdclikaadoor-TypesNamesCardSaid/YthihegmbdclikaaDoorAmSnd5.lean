/- AM, part 9: cuts, indexes, append: what the abstract machine computes is what the model computes. -/
import Derived.Test.YthihegmbdclikaaDoorAmSnd4
namespace Go.AM
noncomputable section
open Go.RowKit
set_option linter.unusedSectionVars false
variable [Sig]

section
variable {P : Program} {W : World} {I : Inp} {ι : Map} {h : AHeap} {w : World}

/-- An index that is known. -/
def IdxRel (lo : Option Value) (d a : Nat) : Prop := (lo = none ∧ a = d) ∨ ∃ k, lo = some (.int k (a : Int))

theorem asNat_spec {v : AVal} {n : Nat} (hv : asNat v = some n) : ∃ k, v = .int k (n : Int) := by
  unfold asNat at hv
  split at hv
  · cases hv; exact ⟨_, rfl⟩
  · cases hv

theorem optNat_rel {lo : Option Operand} {lo' : Option AOpd} (hc : cOpt lo = some lo') {n : Nat} {f : Fr} {a : Act} (hr : FrRel ι n f a.tmps) {d m : Nat} (ho : optNat f d lo' = some m) :
    IdxRel (lo.map a.eval) d m := by
  cases lo with
  | none => simp only [cOpt, Option.some.injEq] at hc; subst hc; simp only [optNat, Option.some.injEq] at ho; exact .inl ⟨rfl, ho.symm⟩
  | some x =>
    simp only [cOpt] at hc
    split at hc
    · rename_i y hy
      cases hc
      simp only [optNat] at ho
      obtain ⟨k, hk⟩ := asNat_spec ho
      have := cOpd_rel hy hr
      rw [hk] at this
      exact .inr ⟨k, by rw [Option.map_some, inv_int this]⟩
    · cases hc

theorem run_bound {k : IntKind} {n y : Nat} (hn : n ≤ y) (c : BoundsCode) (w : World) : (Instr.sliceBound (.int k (n : Int)) y c).run P w = .ok n w := by
  simp [Instr.sliceBound, asIntOf, hn]

theorem run_bounds {isS : Bool} {len cap a b m : Nat} {lo hi mx : Option Value} (hlo : IdxRel lo 0 a) (hhi : IdxRel hi len b) (hmx : IdxRel mx cap m) (hm : mx.isSome = true → hi.isSome = true)
    (hab : a ≤ b) (hbm : b ≤ m) (hmc : m ≤ cap) (w : World) : (Instr.sliceBounds isS len cap lo hi mx).run P w = .ok (a, b, m) w := by
  rcases hmx with ⟨rfl, rfl⟩ | ⟨km, rfl⟩
  · rcases hhi with ⟨rfl, rfl⟩ | ⟨kh, rfl⟩
    · rcases hlo with ⟨rfl, rfl⟩ | ⟨kl, rfl⟩
      · simp [Instr.sliceBounds]
      · simp [Instr.sliceBounds, run_bound hab]
    · rcases hlo with ⟨rfl, rfl⟩ | ⟨kl, rfl⟩
      · simp [Instr.sliceBounds, run_bound hbm]
      · simp [Instr.sliceBounds, run_bound hbm, run_bound hab]
  · rcases hhi with ⟨rfl, rfl⟩ | ⟨kh, rfl⟩
    · simp at hm
    · rcases hlo with ⟨rfl, rfl⟩ | ⟨kl, rfl⟩
      · simp [Instr.sliceBounds, run_bound hbm, run_bound hmc]
      · simp [Instr.sliceBounds, run_bound hbm, run_bound hmc, run_bound hab]

theorem Loc.at_add {l : Loc} {o k : Nat} {a : Addr} (ha : l.at ι o a) : l.at ι (o + k) (a.add k) := by
  cases l with
  | inp b =>
    have : a = ⟨(place b).1, (place b).2 + o, none⟩ := ha
    subst this
    show _ = _
    rw [addr_add, Nat.add_assoc]
  | own q =>
    obtain ⟨pl, hp, rfl⟩ := ha
    exact ⟨pl, hp, by rw [addr_add, Nat.add_assoc]⟩

theorem cap_bound {cap : Cap} {sz len b c : Nat} {l : Loc} {o : Nat} (hb : capHas cap sz len b = true) (hl : len ≤ c) (hc : capOk ι l o c cap) : b ≤ c := by
  cases cap with
  | known c' =>
    have : c = c' := hc
    subst this
    exact Nat.le_of_ble_eq_true hb
  | grown s =>
    simp only [capHas, Bool.and_eq_true] at hb
    have := Nat.le_of_ble_eq_true hb.1
    omega

/-- The value that a cut gives. -/
theorem cut_rel {l : Loc} {o a b m c sz len : Nat} {cap cap' : Cap} {ad : Addr} (hat : 0 < c → l.at ι o ad) (hok : capOk ι l o c cap) (hcap : capHas cap sz len b = true) (hab : a ≤ b) (hbm : b ≤ m) (hmc : m ≤ c)
    (hc' : (cap' = capMinus cap a ∧ m = c) ∨ cap' = .known (m - a)) :
    VRel ι (.sl l (o + a * sz) (b - a) cap') (.slice (some (if m = a then ad else ad.add (a * sz))) (b - a) (m - a)) := by
  refine .sl _ _ _ _ _ _ (by omega) (fun h0 => ?_) ?_
  · rw [if_neg (by omega)]
    exact Loc.at_add (hat (by omega))
  · rcases hc' with ⟨rfl, rfl⟩ | rfl
    · cases cap with
      | known c' => have : m = c' := hok; subst this; rfl
      | grown s =>
        obtain ⟨k, pl, rfl, hp, h1, h2, h3⟩ := hok
        simp only [capHas, Bool.and_eq_true, Nat.beq_eq] at hcap
        obtain ⟨_, rfl⟩ := hcap
        have : m * s = a * s + (m - a) * s := by rw [← Nat.add_mul]; congr 1; omega
        exact ⟨k, pl, rfl, hp, by omega, by omega, h3⟩
    · rfl

theorem slice_op {t e : TypeId} {sz : Nat} {lo hi mx : Option Operand} {lo' hi' mx' : Option AOpd} {x v : AVal} {p : Value} (hu : P.underlying t = some (.slice e)) (hsz : sizeP P e = some sz)
    (h1 : cOpt lo = some lo') (h2 : cOpt hi = some hi') (h3 : cOpt mx = some mx') {n : Nat} {f : Fr} {a : Act} (hr : FrRel ι n f a.tmps) (hx : VRel ι x p) (hv : sliceOf f sz x lo' hi' mx' = some v) (w : World) :
    ∃ u, (Instr.sliceAt t p (lo.map a.eval) (hi.map a.eval) (mx.map a.eval)).run P w = .ok u w ∧ VRel ι v u := by
  obtain ⟨i, hi1, hs⟩ := sizeP_spec hsz
  unfold sliceOf at hv
  split at hv
  · rw [inv_nils hx]
    split at hv
    · rename_i e1 e2 e3 e4
      cases hv
      have r1 := optNat_rel h1 hr e1
      have r2 := optNat_rel h2 hr e2
      have r3 := optNat_rel h3 hr e3
      have hm : (mx.map a.eval).isSome = true → (hi.map a.eval).isSome = true := by
        cases mx with
        | none => simp
        | some y =>
          cases hi with
          | none =>
            simp only [cOpt, Option.some.injEq] at h2
            subst h2
            simp only [cOpt] at h3
            split at h3
            · cases h3; simp at e4
            · cases h3
          | some z => simp
      have := run_bounds (P := P) (isS := true) r1 r2 r3 hm (Nat.le_refl _) (Nat.le_refl _) (Nat.le_refl _) w
      exact ⟨.slice none 0 0, by simp [Instr.sliceAt, Instr.slice, run_underlying hu, this, run_sizeOf' hi1], .nils⟩
    · cases hv
  · rename_i l o len cap
    obtain ⟨ad, c, rfl, hlc, hat, hok⟩ := inv_sl hx
    split at hv
    · rename_i a' b' e1 e2
      have r1 := optNat_rel h1 hr e1
      have r2 := optNat_rel h2 hr e2
      split at hv
      · split at hv
        · rename_i hc
          cases hv
          simp only [Bool.and_eq_true] at hc
          have hab := Nat.le_of_ble_eq_true hc.1
          have hbc := cap_bound hc.2 hlc hok
          have hmx : mx = none := by cases mx with | none => rfl | some y => simp only [cOpt] at h3; split at h3 <;> cases h3
          subst hmx
          have := run_bounds (P := P) (isS := true) (mx := none) (cap := c) r1 r2 (.inl ⟨rfl, rfl⟩) (by simp) hab hbc (Nat.le_refl _) w
          have hcr := cut_rel (ad := ad) (cap' := capMinus cap a') hat hok hc.2 hab hbc (Nat.le_refl _) (.inl ⟨rfl, rfl⟩)
          refine ⟨_, ?_, hcr⟩
          simp only [Instr.sliceAt, Instr.slice, Sem.run_bind, run_underlying hu, Result.andThen_ok, Option.map_none, this, run_sizeOf' hi1, hs]
          by_cases hca : c = a'
          · simp [hca]
          · simp [hca]
        · cases hv
      · rename_i m'
        cases e3 : asNat (m'.ev f) with
        | none => simp [e3] at hv
        | some mm =>
          cases hi' with
          | none => simp [e3] at hv
          | some y =>
          simp only [e3] at hv
          split at hv
          · rename_i hc
            cases hv
            simp only [Bool.and_eq_true] at hc
            obtain ⟨⟨hc1, hc2⟩, hc3⟩ := hc
            have hab := Nat.le_of_ble_eq_true hc1
            have hbm := Nat.le_of_ble_eq_true hc2
            have hmc := cap_bound hc3 hlc hok
            have r3 : IdxRel (mx.map a.eval) c mm := optNat_rel h3 hr (d := c) (by simp only [optNat]; exact e3)
            have hm : (mx.map a.eval).isSome = true → (hi.map a.eval).isSome = true := by
              intro _
              cases hi with
              | none => simp only [cOpt, Option.some.injEq] at h2; cases h2
              | some z => simp
            have := run_bounds (P := P) (isS := true) (cap := c) r1 r2 r3 hm hab hbm hmc w
            have hcb : capHas cap sz len b' = true := by
              cases cap with
              | known c' => exact Nat.ble_eq_true_of_le (Nat.le_trans hbm (Nat.le_of_ble_eq_true hc3))
              | grown s =>
                simp only [capHas, Bool.and_eq_true] at hc3 ⊢
                exact ⟨Nat.ble_eq_true_of_le (Nat.le_trans hbm (Nat.le_of_ble_eq_true hc3.1)), hc3.2⟩
            have hcr := cut_rel (ad := ad) (cap' := .known (mm - a')) hat hok hcb hab hbm hmc (.inr rfl)
            refine ⟨_, ?_, hcr⟩
            simp only [Instr.sliceAt, Instr.slice, Sem.run_bind, run_underlying hu, Result.andThen_ok, this, run_sizeOf' hi1, hs]
            by_cases hca : mm = a'
            · simp [hca]
            · simp [hca]
          · cases hv
    · cases hv
  · cases hv
end

end

end Go.AM
