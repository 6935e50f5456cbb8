/- AM, part 5: operands, constants, pure operations: what the abstract machine computes is what the model computes. -/
import Derived.Test.YthihegmbdclikaaDoorAmComp
import Derived.WideLaws
import Derived.LaidEqlPtr
import Derived.Lib.Strings
namespace Go.AM
noncomputable section
open Go.RowKit
set_option linter.unusedSectionVars false
variable [Sig]

theorem ofConst1_rel {v : Value} {x : AVal} (h : ofConst1 v = some x) (ι : Map) : VRel ι x v := by
  unfold ofConst1 at h
  split at h <;> first | (cases h; first | exact .str _ _ rfl | constructor) | cases h

theorem ofConsts_rel : ∀ {vs : List Value} {xs : List AVal}, ofConsts vs = some xs → ∀ (ι : Map), VRels ι xs vs := by
  intro vs
  induction vs with
  | nil => intro xs h ι; simp only [ofConsts, Option.some.injEq] at h; subst h; exact .nil
  | cons v r ih =>
    intro xs h ι
    simp only [ofConsts] at h
    split at h
    · rename_i x xs' hx hxs
      cases h
      exact .cons (ofConst1_rel hx ι) (ih hxs ι)
    · cases h

theorem ofConst_rel {v : Value} {x : AVal} (h : ofConst v = some x) (ι : Map) : VRel ι x v := by
  unfold ofConst at h
  split at h
  · split at h
    · rename_i hx; cases h; exact .agg _ _ (ofConsts_rel hx ι)
    · cases h
  · split at h
    · rename_i hx; cases h; exact .tuple _ _ (ofConsts_rel hx ι)
    · cases h
  · exact ofConst1_rel h ι

/-- A frame stands for the model's. -/
structure FrRel (ι : Map) (n : Nat) (f : Fr) (tmps : Array Value) : Prop where
  size : tmps.size = n
  get : ∀ t, VRel ι (f.get t) (tmps.getD t undef)

theorem FrRel.mono {ι ι' : Map} {n : Nat} {f : Fr} {tmps : Array Value} (h : ι.le ι') (r : FrRel ι n f tmps) : FrRel ι' n f tmps := ⟨r.size, fun t => (r.get t).mono h⟩

theorem undef_rel (ι : Map) : VRel ι aundef undef := .tuple _ _ .nil

theorem FrRel.put {ι : Map} {n : Nat} {f : Fr} {tmps : Array Value} (r : FrRel ι n f tmps) (hn : n ≤ 16000) {d : Nat} (hd : d < n) {v : AVal} {u : Value} (hv : VRel ι v u) :
    FrRel ι n (f.put d v) (tmps.setIfInBounds d u) := by
  refine ⟨by simp [r.size], fun t => ?_⟩
  rw [Fr.get_put (by show d + 1 < 16384; omega)]
  by_cases h : t = d
  · subst h
    rw [if_pos rfl, Array.getD_eq_getD_getElem?, Array.getElem?_setIfInBounds_self_of_lt (by rw [r.size]; exact hd)]
    exact hv
  · rw [if_neg h, Array.getD_eq_getD_getElem?, Array.getElem?_setIfInBounds_ne (fun e => h e.symm), ← Array.getD_eq_getD_getElem?]
    exact r.get t

theorem cOpd_rel {x : Operand} {y : AOpd} (h : cOpd x = some y) {ι : Map} {n : Nat} {f : Fr} {a : Act} (r : FrRel ι n f a.tmps) : VRel ι (y.ev f) (a.eval x) := by
  cases x with
  | tmp t => simp only [cOpd, Option.some.injEq] at h; subst h; exact r.get t
  | const v =>
    simp only [cOpd] at h
    split at h
    · rename_i hx; cases h; exact ofConst_rel hx ι
    · cases h
  | global g => simp only [cOpd, Option.some.injEq] at h; subst h; exact .ptr _ _ _ (by show _ = _; rw [place_even])
  | func g => simp only [cOpd, Option.some.injEq] at h; subst h; exact .func _ _ _ _ _ .nil .nil

theorem cOpds_rel : ∀ {xs : List Operand} {ys : List AOpd}, cOpds xs = some ys → ∀ {ι : Map} {n : Nat} {f : Fr} {a : Act}, FrRel ι n f a.tmps →
    VRels ι (ys.map (·.ev f)) (xs.map a.eval) := by
  intro xs
  induction xs with
  | nil => intro ys h ι n f a _; simp only [cOpds, Option.some.injEq] at h; subst h; exact .nil
  | cons x r ih =>
    intro ys h ι n f a hr
    simp only [cOpds] at h
    split at h
    · rename_i y ys' hy hys
      cases h
      exact .cons (cOpd_rel hy hr) (ih hys hr)
    · cases h

/-! ### inversions -/
section
variable {ι : Map}
theorem inv_int {k : IntKind} {n : Int} {u : Value} (h : VRel ι (.int k n) u) : u = .int k n := by cases h; rfl
theorem inv_bool {b : Bool} {u : Value} (h : VRel ι (.bool b) u) : u = .bool b := by cases h; rfl
theorem inv_str {l : List Nat} {u : Value} (h : VRel ι (.str l) u) : ∃ s : ByteArray, u = .string s ∧ l = s.data.toList.map UInt8.toNat := by cases h with | str s l e => exact ⟨s, rfl, e⟩
theorem inv_ptr {l : Loc} {o : Nat} {u : Value} (h : VRel ι (.ptr l o) u) : ∃ a, u = .pointer (some a) ∧ l.at ι o a := by cases h with | ptr l o a ha => exact ⟨a, rfl, ha⟩
theorem inv_nilp {u : Value} (h : VRel ι .nilp u) : u = .pointer none := by cases h; rfl
theorem inv_nils {u : Value} (h : VRel ι .nils u) : u = .slice none 0 0 := by cases h; rfl
theorem inv_sl {l : Loc} {o len : Nat} {cap : Cap} {u : Value} (h : VRel ι (.sl l o len cap) u) :
    ∃ a c, u = .slice (some a) len c ∧ len ≤ c ∧ (0 < c → l.at ι o a) ∧ capOk ι l o c cap := by cases h with | sl l o len cap a c h1 h2 h3 => exact ⟨a, c, rfl, h1, h2, h3⟩
theorem inv_nilf {u : Value} (h : VRel ι .nilf u) : u = .nilFunc := by cases h; rfl
theorem inv_nili {u : Value} (h : VRel ι .nili u) : u = .nilIface := by cases h; rfl
theorem inv_iface {t : TypeId} {v : AVal} {u : Value} (h : VRel ι (.iface t v) u) : ∃ x, u = .iface t x ∧ VRel ι v x := by cases h with | iface t v u hv => exact ⟨u, rfl, hv⟩
theorem inv_agg {cs : List AVal} {u : Value} (h : VRel ι (.agg cs) u) : ∃ us, u = .agg us ∧ VRels ι cs us.toList := by cases h with | agg cs us hv => exact ⟨us, rfl, hv⟩
theorem inv_tuple {cs : List AVal} {u : Value} (h : VRel ι (.tuple cs) u) : ∃ us, u = .tuple us ∧ VRels ι cs us.toList := by cases h with | tuple cs us hv => exact ⟨us, rfl, hv⟩
theorem inv_func {fn : Fn} {f c : List AVal} {u : Value} (h : VRel ι (.func fn f c) u) : ∃ f' c', u = .func fn f' c' ∧ VRels ι f f'.toList ∧ VRels ι c c'.toList := by
  cases h with | func fn f c f' c' h1 h2 => exact ⟨f', c', rfl, h1, h2⟩
end

/-! ### strings -/
theorem natsEq_spec : ∀ (x y : List UInt8), natsEq (x.map UInt8.toNat) (y.map UInt8.toNat) = (x == y)
  | [], [] => rfl
  | [], _ :: _ => rfl
  | _ :: _, [] => rfl
  | a :: x, b :: y => by
    simp only [List.map_cons, natsEq, natsEq_spec x y, List.cons_beq_cons]
    congr 1
    rw [Bool.eq_iff_iff]
    simp [UInt8.toNat_inj]
theorem natLess_spec : ∀ (x y : List UInt8), natLess (x.map UInt8.toNat) (y.map UInt8.toNat) = Op.bytesLess x y
  | [], [] => rfl
  | [], _ :: _ => rfl
  | _ :: _, [] => rfl
  | a :: x, b :: y => by
    simp only [List.map_cons, natLess, natLess_spec x y, Op.bytesLess]
    congr 1
    · rw [Bool.eq_iff_iff]; simp [Nat.blt, UInt8.lt_iff_toNat_lt, Nat.succ_le_iff]
    · congr 1
      rw [Bool.eq_iff_iff]
      simp [UInt8.toNat_inj]

section
variable {P : Program} {ι : Map}

theorem leI_spec (a b : Int) : (!ltI b a) = decide (a ≤ b) := by
  rw [ltI_spec, Bool.eq_iff_iff]; simp

theorem ibin_sound {op : BinOp} {k : IntKind} {a b : Int} {v : AVal} (h : ibin op k a b = some v) (w : World) (t : TypeId) (hs : op ≠ .shl ∧ op ≠ .shr) :
    ∃ u, (binOp op t (.int k a) (.int k b)).run P w = .ok u w ∧ VRel ι v u := by
  unfold ibin at h
  cases op
  case shl => exact absurd rfl hs.1
  case shr => exact absurd rfl hs.2
  all_goals simp only at h
  case quo =>
    split at h
    · cases h
    · cases h; rename_i hb; exact ⟨_, by simp [binOp, Op.intDiv, hb], .int _ _⟩
  case rem =>
    split at h
    · cases h
    · cases h; rename_i hb; exact ⟨_, by simp [binOp, Op.intDiv, hb], .int _ _⟩
  case eql => cases h; exact ⟨_, by simp only [binOp, ne_eq, not_true, if_false]; rfl, by rw [eqI_spec]; constructor⟩
  case neq => cases h; exact ⟨_, by simp only [binOp, ne_eq, not_true, if_false]; rfl, by rw [eqI_spec]; constructor⟩
  case lss => cases h; exact ⟨_, by simp only [binOp, ne_eq, not_true, if_false]; rfl, by rw [ltI_spec]; constructor⟩
  case leq => cases h; exact ⟨_, by simp only [binOp, ne_eq, not_true, if_false]; rfl, by rw [leI_spec]; constructor⟩
  case gtr => cases h; exact ⟨_, by simp only [binOp, ne_eq, not_true, if_false]; rfl, by rw [ltI_spec]; constructor⟩
  case geq => cases h; exact ⟨_, by simp only [binOp, ne_eq, not_true, if_false]; rfl, by rw [leI_spec]; constructor⟩
  all_goals (cases h; refine ⟨_, by simp only [binOp, ne_eq, not_true, if_false]; rfl, ?_⟩; constructor)

theorem ishift_sound {op : BinOp} {k k' : IntKind} {a b : Int} {v : AVal} (h : ishift op k a b = some v) (w : World) (t : TypeId) :
    ∃ u, (binOp op t (.int k a) (.int k' b)).run P w = .ok u w ∧ VRel ι v u := by
  unfold ishift at h
  split at h
  · cases h
  · rename_i hb
    cases op <;> simp only [reduceCtorEq] at h
    all_goals (cases h; exact ⟨_, by simp only [binOp, Op.shift, if_neg hb]; rfl, .int _ _⟩)

theorem sbin_sound {op : BinOp} {x y : ByteArray} {v : AVal} (h : sbin op (x.data.toList.map UInt8.toNat) (y.data.toList.map UInt8.toNat) = some v) (w : World) (t : TypeId) :
    ∃ u, (binOp op t (.string x) (.string y)).run P w = .ok u w ∧ VRel ι v u := by
  unfold sbin at h
  cases op <;> simp only [reduceCtorEq] at h
  case add =>
    split at h
    · rename_i hle
      cases h
      have hl := Nat.le_of_ble_eq_true hle
      simp only [List.length_map, Array.length_toList] at hl
      have hl' : x.size + y.size ≤ 140737488351232 := hl
      refine ⟨.string (x ++ y), ?_, .str _ _ (by simp [ByteArray.data_append])⟩
      have : ¬ ((x.size + y.size : Nat) : Int) > IntKind.i64.max := by simp only [IntKind.max, IntKind.signed, IntKind.bits]; simp; omega
      simp only [binOp, Op.stringOp, if_neg this]
      rfl
    · cases h
  all_goals
    simp only [natsEq_spec, natLess_spec] at h
    cases h
    refine ⟨_, by simp only [binOp, Op.stringOp, Lib.toList_data]; rfl, .bool _⟩

/-! ### numbers from without -/
theorem wrap_wrap_add (a b : Int) : IntKind.i64.wrap (IntKind.i64.wrap a + IntKind.i64.wrap b) = IntKind.i64.wrap (a + b) := by
  simp only [IntKind.wrap, IntKind.bits, IntKind.signed]; simp; omega
theorem emod_mul_emod (a d m : Int) : (a % m * d) % m = (a * d) % m := by rw [Int.mul_emod, Int.emod_emod_of_dvd _ (Int.dvd_refl m), ← Int.mul_emod]
theorem dot_addL : ∀ (cs ds : List Int) (i : Nat), dotFrom (addL cs ds) i = dotFrom cs i + dotFrom ds i
  | [], b, i => by simp [addL, dotFrom]
  | a :: x, [], i => by simp [addL, dotFrom]
  | a :: x, b :: y, i => by
    simp only [addL, dotFrom, dot_addL x y, Int.add_mul]; omega
theorem dot_mul (d : Int) : ∀ (cs : List Int) (i : Nat), dotFrom (cs.map (· * d)) i = dotFrom cs i * d
  | [], i => by simp [dotFrom]
  | a :: x, i => by
    simp only [List.map_cons, dotFrom, dot_mul d x, Int.add_mul]
    rw [Int.mul_right_comm]
theorem asLin_rel {x : AVal} {cs : List Int} {c : Int} {p : Value} (h : asLin x = some (cs, c)) (hx : VRel ι x p) : p = .int .i64 (IntKind.i64.wrap (c + dotFrom cs 0)) := by
  unfold asLin at h
  split at h
  · cases h; cases hx; rfl
  · split at h
    · rename_i he
      cases h
      rw [inv_int hx]
      rw [eqI_spec] at he
      simp only [beq_iff_eq] at he
      simp [dotFrom, he]
    · cases h
  · cases h
theorem intsEq_eq' : ∀ {a b : List Int}, intsEq a b = true → a = b
  | [], [], _ => rfl
  | [], _ :: _, h => by cases h
  | _ :: _, [], h => by cases h
  | x :: a, y :: b, h => by
    simp only [intsEq, Bool.and_eq_true, eqI_spec, beq_iff_eq] at h
    rw [h.1, intsEq_eq' h.2]
theorem wrap_mul (a d : Int) : IntKind.i64.wrap (IntKind.i64.wrap a * IntKind.i64.wrap d) = IntKind.i64.wrap (a * d) := by
  have key : ∀ x : Int, IntKind.i64.wrap x = (x + 9223372036854775808) % 18446744073709551616 - 9223372036854775808 := fun x => by
    simp only [IntKind.wrap, IntKind.bits, IntKind.signed]; simp; omega
  have e : ∀ x : Int, ∃ q, IntKind.i64.wrap x = x + 18446744073709551616 * q := fun x => by
    refine ⟨-((x + 9223372036854775808) / 18446744073709551616), ?_⟩
    rw [key]; omega
  obtain ⟨q, hq⟩ := e a
  obtain ⟨r, hr⟩ := e d
  have : IntKind.i64.wrap a * IntKind.i64.wrap d = a * d + 18446744073709551616 * (a * r + q * d + 18446744073709551616 * q * r) := by
    rw [hq, hr]
    simp only [Int.add_mul, Int.mul_add, Int.mul_assoc, Int.mul_comm, Int.mul_left_comm]
    omega
  rw [this, key, key]
  omega
theorem lbin_sound {op : BinOp} {x y v : AVal} {p q : Value} (h : lbin op x y = some v) (hx : VRel ι x p) (hy : VRel ι y q) (w : World) (t : TypeId) :
    ∃ u, (binOp op t p q).run P w = .ok u w ∧ VRel ι v u := by
  unfold lbin at h
  split at h
  · rename_i cs c ds d hcs hds
    rw [asLin_rel hcs hx, asLin_rel hds hy]
    cases op <;> simp only [reduceCtorEq] at h
    case add =>
      cases h
      refine ⟨_, by simp only [binOp, ne_eq, not_true, if_false]; rfl, ?_⟩
      rw [wrap_wrap_add, show c + dotFrom cs 0 + (d + dotFrom ds 0) = (c + d) + dotFrom (addL cs ds) 0 by rw [dot_addL]; omega]
      exact .lin _ _
    case mul =>
      split at h
      · cases h
        refine ⟨_, by simp only [binOp, ne_eq, not_true, if_false]; rfl, ?_⟩
        rw [wrap_mul, show (c + dotFrom cs 0) * (d + dotFrom [] 0) = c * d + dotFrom (cs.map (· * d)) 0 by rw [dot_mul]; simp [dotFrom, Int.add_mul]]
        exact .lin _ _
      · cases h
    case eql =>
      split at h
      · rename_i he
        cases h
        simp only [Bool.and_eq_true, eqI_spec, beq_iff_eq] at he
        rw [intsEq_eq' he.1, he.2]
        exact ⟨_, by simp only [binOp, ne_eq, not_true, if_false]; rfl, by simp; exact .bool _⟩
      · cases h
    case neq =>
      split at h
      · rename_i he
        cases h
        simp only [Bool.and_eq_true, eqI_spec, beq_iff_eq] at he
        rw [intsEq_eq' he.1, he.2]
        exact ⟨_, by simp only [binOp, ne_eq, not_true, if_false]; rfl, by simp; exact .bool _⟩
      · cases h
  · cases h
theorem lbin_ints {op : BinOp} {x y v : AVal} {p q : Value} (h : lbin op x y = some v) (hx : VRel ι x p) (hy : VRel ι y q) : ∃ a b, p = .int .i64 a ∧ q = .int .i64 b := by
  unfold lbin at h
  split at h
  · rename_i cs c ds d hcs hds
    exact ⟨_, _, asLin_rel hcs hx, asLin_rel hds hy⟩
  · cases h

theorem abin_sound {op : BinOp} {x y v : AVal} {p q : Value} (h : abin op x y = some v) (hx : VRel ι x p) (hy : VRel ι y q) (w : World) (t : TypeId) :
    ∃ u, (binOp op t p q).run P w = .ok u w ∧ VRel ι v u := by
  unfold abin at h
  split at h
  · rename_i k a k' b
    rw [inv_int hx, inv_int hy]
    cases op <;> simp only at h
    case shl => exact ishift_sound h w t
    case shr => exact ishift_sound h w t
    all_goals
      split at h
      · rename_i hk; subst hk; exact ibin_sound h w t (by simp)
      · cases h
  · obtain ⟨s, rfl, rfl⟩ := inv_str hx
    obtain ⟨s', rfl, rfl⟩ := inv_str hy
    exact sbin_sound h w t
  · exact lbin_sound h hx hy w t

theorem aun_sound {op : UnOp} {x v : AVal} {p : Value} (h : aun op x = some v) (hx : VRel ι x p) (w : World) :
    ∃ u, (Op.unary op p).run P w = .ok u w ∧ VRel ι v u := by
  unfold aun at h
  split at h
  · cases h; rw [inv_int hx]; exact ⟨_, rfl, .int _ _⟩
  · cases h; rw [inv_int hx]; exact ⟨_, rfl, .int _ _⟩
  · cases h; rw [inv_bool hx]; exact ⟨_, rfl, .bool _⟩
  · cases h
end

end

end Go.AM
