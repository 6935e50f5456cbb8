/- AM, part 13: every operation that is no call of a Go function. -/
import Derived.Test.YthihegmbdclikaaDoorAmSnd8
namespace Go.AM
noncomputable section
open Go.RowKit
set_option linter.unusedSectionVars false
variable [Sig]

section
variable {P : Program} {W : World} {I : Inp} {ι : Map} {h : AHeap} {w : World}

theorem map_some {α β : Type} {x : Option α} {g : α → β} {y : β} (hx : x.map g = some y) : ∃ z, x = some z ∧ y = g z := by
  cases x with
  | none => cases hx
  | some z => cases hx; exact ⟨z, rfl, rfl⟩

theorem binOp_eq {ek : EqK} {c b : Bool} {x y : AVal} {p q : Value} (hb : aeq P h ek c x y = some b) (hx : VRel ι x p) (hy : VRel ι y q) (t : TypeId) :
    binOp .eql t p q = (do pure (.bool (← Op.equal t p q))) ∧ binOp .neq t p q = (do pure (.bool (!(← Op.equal t p q)))) := by
  cases ek <;> simp only [aeq, reduceCtorEq] at hb
  · unfold boolEq at hb
    split at hb
    · rw [inv_bool hx, inv_bool hy]; exact ⟨rfl, rfl⟩
    · cases hb
  · unfold ptrEq at hb
    split at hb
    · rw [inv_nilp hx, inv_nilp hy]; exact ⟨rfl, rfl⟩
    · obtain ⟨a, rfl, _⟩ := inv_ptr hy; rw [inv_nilp hx]; exact ⟨rfl, rfl⟩
    · obtain ⟨a, rfl, _⟩ := inv_ptr hx; rw [inv_nilp hy]; exact ⟨rfl, rfl⟩
    · obtain ⟨a, rfl, _⟩ := inv_ptr hx; obtain ⟨a, rfl, _⟩ := inv_ptr hy; exact ⟨rfl, rfl⟩
    · cases hb
  · unfold nilEqS at hb
    split at hb
    · rw [inv_nils hx, inv_nils hy]; exact ⟨rfl, rfl⟩
    · obtain ⟨a, c', rfl, _⟩ := inv_sl hy; rw [inv_nils hx]; exact ⟨rfl, rfl⟩
    · obtain ⟨a, c', rfl, _⟩ := inv_sl hx; rw [inv_nils hy]; exact ⟨rfl, rfl⟩
    · cases hb
  · unfold nilEqF at hb
    split at hb
    · rw [inv_nilf hx, inv_nilf hy]; exact ⟨rfl, rfl⟩
    · obtain ⟨a, c', rfl, _⟩ := inv_func hy; rw [inv_nilf hx]; exact ⟨rfl, rfl⟩
    · obtain ⟨a, c', rfl, _⟩ := inv_func hx; rw [inv_nilf hy]; exact ⟨rfl, rfl⟩
    · cases hb
  · unfold ifaceEq at hb
    split at hb
    · rw [inv_nili hx, inv_nili hy]; exact ⟨rfl, rfl⟩
    · obtain ⟨a, rfl, _⟩ := inv_iface hy; rw [inv_nili hx]; exact ⟨rfl, rfl⟩
    · obtain ⟨a, rfl, _⟩ := inv_iface hx; rw [inv_nili hy]; exact ⟨rfl, rfl⟩
    · obtain ⟨a, rfl, _⟩ := inv_iface hx; obtain ⟨a, rfl, _⟩ := inv_iface hy; exact ⟨rfl, rfl⟩
    · cases hb
  · unfold structEq at hb
    split at hb
    · obtain ⟨a, rfl, _⟩ := inv_agg hx; obtain ⟨a, rfl, _⟩ := inv_agg hy; exact ⟨rfl, rfl⟩
    · cases hb

set_option maxHeartbeats 4000000 in
theorem step_sound (hI : InpOk W I) (r : Rep W ι h w) {n : Nat} {f : Fr} {a : Act} (fr : FrRel ι n f a.tmps) {o : Oper} {ao : AOp} (hc : cOp P o.op = some ao) {v : AVal} {h' : AHeap}
    (hs : ao.step P I f h = some (v, h')) : Comes P W ι h a o w v h' := by
  obtain ⟨dst, op, type, pos, after, guard⟩ := o
  cases op <;> simp only [cOp, reduceCtorEq] at hc
  case move x =>
    obtain ⟨y, hy, rfl⟩ := map_some hc
    cases hs
    exact Comes.pure r rfl (cOpd_rel hy fr)
  case assign x =>
    obtain ⟨y, hy, rfl⟩ := map_some hc
    cases hs
    exact Comes.pure r rfl (cOpd_rel hy fr)
  case pick c x y =>
    split at hc
    · rename_i c' x' y' h1 h2 h3
      cases hc
      have hcr := cOpd_rel h1 fr
      simp only [AOp.step] at hs
      split at hs
      · rename_i he
        cases hs
        rw [he] at hcr
        exact Comes.pure r (u := a.eval x) (by simp [execOp, inv_bool hcr, asBool]) (cOpd_rel h2 fr)
      · rename_i he
        cases hs
        rw [he] at hcr
        exact Comes.pure r (u := a.eval y) (by simp [execOp, inv_bool hcr, asBool]) (cOpd_rel h3 fr)
      · cases hs
    · cases hc
  case alloc t =>
    obtain ⟨z, hz, rfl⟩ := map_some hc
    simp only [AOp.step] at hs
    split at hs
    · rename_i hr
      cases hs
      exact Comes.made rfl (alloc_op r hz hr _)
    · cases hs
  case box t x =>
    obtain ⟨y, hy, rfl⟩ := map_some hc
    simp only [AOp.step] at hs
    split at hs
    · rename_i hr
      cases hs
      exact Comes.made rfl (box_op r (cOpd_rel hy fr) hr)
    · cases hs
  case build t parts =>
    split at hc
    · rename_i z fields hz hu
      split at hc
      · rename_i pl hpl
        obtain ⟨ps, hps, rfl⟩ := map_some hc
        simp only [AOp.step] at hs
        split at hs
        · rename_i cs hf
          cases hs
          exact Comes.val r rfl (build_op hz (.inl ⟨fields, pl, hu, hpl, rfl⟩) (by simpa using cParts_rel hps fr) hf w)
        · cases hs
      · cases hc
    · rename_i z n' e hz hu
      split at hc
      · rename_i sz hsz
        obtain ⟨ps, hps, rfl⟩ := map_some hc
        simp only [AOp.step] at hs
        split at hs
        · rename_i cs hf
          cases hs
          exact Comes.val r rfl (build_op hz (.inr ⟨_, e, sz, hu, hsz, rfl⟩) (by simpa using cParts_rel hps fr) hf w)
        · cases hs
      · cases hc
    · cases hc
  case buildSlice t m parts =>
    split at hc
    · rename_i e hu
      split at hc
      · rename_i sz z hsz hz
        split at hc
        · rename_i hcond
          obtain ⟨ps, hps, rfl⟩ := map_some hc
          simp only [Bool.and_eq_true, Nat.beq_eq] at hcond
          simp only [AOp.step] at hs
          split at hs
          · rename_i cs hf hr
            cases hs
            exact Comes.made rfl (buildSlice_op r hu hsz hz hcond.1.1 (Nat.le_of_ble_eq_true hcond.1.2) (Nat.le_of_ble_eq_true hcond.2) (by simpa using cParts_rel hps fr) hf hr)
          · cases hs
        · cases hc
      · cases hc
    · cases hc
  case load t x =>
    split at hc
    · rename_i m y ht hm hy
      cases hc
      simp only [AOp.step] at hs
      have hx := cOpd_rel hy fr
      split at hs
      · rename_i l off he
        rw [he] at hx
        split at hs
        · rename_i cs hcs
          cases hs
          exact Comes.val r rfl (loadN_op hI r ht hm hx hcs)
        · cases hs
      · cases hs
    · rename_i m y ht hm hy
      cases hc
      simp only [AOp.step] at hs
      have hx := cOpd_rel hy fr
      split at hs
      · rename_i l off he
        rw [he] at hx
        split at hs
        · rename_i v0 hv0
          cases hs
          exact Comes.val r rfl (load1_op hI r ht hx hv0)
        · cases hs
      · cases hs
    · cases hc
  case store t x y =>
    split at hc
    · rename_i m x' y' hm hx hy
      cases hc
      simp only [AOp.step] at hs
      have hxr := cOpd_rel hx fr
      have hyr := cOpd_rel hy fr
      split at hs
      · rename_i k off he
        rw [he] at hxr
        split at hs
        · rename_i b hk hl
          split at hs
          · rename_i b' hw
            cases hs
            obtain ⟨w', hrun, hst⟩ := store_op (P := P) r hm hxr hyr (by simpa using hl) hk hw
            exact ⟨undef, w', ι, .inr ⟨by simp [execOp, hrun], rfl⟩, undef_rel _, hst⟩
          · cases hs
        · cases hs
      · cases hs
    · cases hc
  case nilCheck x =>
    obtain ⟨y, hy, rfl⟩ := map_some hc
    simp only [AOp.step] at hs
    have hx := cOpd_rel hy fr
    split at hs
    · rename_i l off he
      cases hs
      rw [he] at hx
      obtain ⟨ad, hp, had⟩ := inv_ptr hx
      rw [hp] at hx
      exact Comes.pure r (by simp [execOp, hp]) hx
    · rename_i l off m c he
      cases hs
      rw [he] at hx
      obtain ⟨ad, c', hp, _⟩ := inv_sl hx
      rw [hp] at hx
      exact Comes.pure r (by simp [execOp, hp]) hx
    · rename_i g aa bb he
      cases hs
      rw [he] at hx
      obtain ⟨f', c', hp, _⟩ := inv_func hx
      rw [hp] at hx
      exact Comes.pure r (by simp [execOp, hp]) hx
    · cases hs
  case binOp bop t x y yt =>
    split at hc
    · rename_i x' y' hx hy
      have hxr := cOpd_rel hx fr
      have hyr := cOpd_rel hy fr
      have plain : ∀ {vv : AVal}, abin bop (x'.ev f) (y'.ev f) = some vv → Comes P W ι h a ⟨dst, .binOp bop t x y yt, type, pos, after, guard⟩ w vv h := by
        intro vv hb
        obtain ⟨u, hu1, hu2⟩ := abin_sound (P := P) hb hxr hyr w t
        refine Comes.pure r (u := u) ?_ hu2
        have hg : (eqGuard bop t x y (a.eval x) (a.eval y)).run P w = .ok () w := by
          by_cases h1 : bop = .eql
          · subst h1
            unfold abin at hb
            split at hb
            · rename_i e1 e2; rw [e1] at hxr; rw [e2] at hyr; rw [inv_int hxr, inv_int hyr]; rfl
            · rename_i e1 e2; rw [e1] at hxr; rw [e2] at hyr; obtain ⟨s, hs1, _⟩ := inv_str hxr; obtain ⟨s', hs2, _⟩ := inv_str hyr; rw [hs1, hs2]; rfl
            · obtain ⟨n1, n2, e1, e2⟩ := lbin_ints hb hxr hyr; rw [e1, e2]; rfl
          · by_cases h2 : bop = .neq
            · subst h2
              unfold abin at hb
              split at hb
              · rename_i e1 e2; rw [e1] at hxr; rw [e2] at hyr; rw [inv_int hxr, inv_int hyr]; rfl
              · rename_i e1 e2; rw [e1] at hxr; rw [e2] at hyr; obtain ⟨s, hs1, _⟩ := inv_str hxr; obtain ⟨s', hs2, _⟩ := inv_str hyr; rw [hs1, hs2]; rfl
              · obtain ⟨n1, n2, e1, e2⟩ := lbin_ints hb hxr hyr; rw [e1, e2]; rfl
            · exact eqGuard_none h1 h2 t x y _ _ w
        simp [execOp, hg, hu1]
      have plain' : ao = .bin bop x' y' → Comes P W ι h a ⟨dst, .binOp bop t x y yt, type, pos, after, guard⟩ w v h' := by
        intro e
        subst e
        simp only [AOp.step] at hs
        split at hs
        · rename_i vv hb; cases hs; exact plain hb
        · cases hs
      have eqs : bop = .eql ∨ bop = .neq → ∀ ek, eqKind P t = some ek → ao = .eq (bop == .neq) ek (isConstO x || isConstO y) x' y' → Comes P W ι h a ⟨dst, .binOp bop t x y yt, type, pos, after, guard⟩ w v h' := by
        intro hbop ek hek e
        subst e
        simp only [AOp.step] at hs
        split at hs
        · rename_i b hb
          cases hs
          have hg := eqGuard_sound (P := P) (op := bop) hek hb hxr hyr w
          have he := aeq_sound (P := P) r hek hb hxr hyr
          obtain ⟨h1, h2⟩ := binOp_eq hb hxr hyr t
          refine Comes.pure r (u := .bool (if (bop == .neq) = true then !b else b)) ?_ (.bool _)
          rcases hbop with rfl | rfl
          · simp [execOp, hg, h1, he]
          · simp [execOp, hg, h2, he]
        · cases hs
      cases bop
      case eql =>
        simp only at hc
        split at hc
        · exact plain' (by cases hc; rfl)
        · exact plain' (by cases hc; rfl)
        · obtain ⟨ek, hek, e⟩ := map_some hc
          exact eqs (.inl rfl) ek hek e
      case neq =>
        simp only at hc
        split at hc
        · exact plain' (by cases hc; rfl)
        · exact plain' (by cases hc; rfl)
        · obtain ⟨ek, hek, e⟩ := map_some hc
          exact eqs (.inr rfl) ek hek e
      all_goals exact plain' (by cases hc; rfl)
    · cases hc
  case unOp uop t x =>
    obtain ⟨y, hy, rfl⟩ := map_some hc
    simp only [AOp.step] at hs
    split at hs
    · rename_i vv hv
      cases hs
      exact Comes.val r rfl (aun_sound hv (cOpd_rel hy fr) w)
    · cases hs
  case convert src dst' x =>
    split at hc
    · rename_i y k0 k hy hsrc hdst
      cases hc
      have hx := cOpd_rel hy fr
      simp only [AOp.step] at hs
      split at hs
      · rename_i k1 m he
        cases hs
        rw [he] at hx
        exact Comes.pure r (u := .int k (k.wrap m)) (by simp [execOp, convert, run_underlying hsrc, run_underlying hdst, inv_int hx, Conv.intToInt]) (.int _ _)
      · cases hs
    · rename_i y hy hsrc hdst
      cases hc
      have hx := cOpd_rel hy fr
      simp only [AOp.step] at hs
      split at hs
      · rename_i s he
        cases hs
        rw [he] at hx
        obtain ⟨s', hs', e⟩ := inv_str hx
        exact Comes.pure r (u := .string s') (by simp [execOp, convert, run_underlying hsrc, run_underlying hdst, hs']) (.str _ _ e)
      · cases hs
    · rename_i y e hy hsrc hdst
      split at hc
      · rename_i he
        cases hc
        have hx := cOpd_rel hy fr
        simp only [AOp.step] at hs
        split at hs
        · rename_i s hev hr
          cases hs
          rw [hev] at hx
          exact Comes.made rfl (toBytes_op r hsrc hdst he hx hr)
        · cases hs
      · cases hc
    · rename_i y e hy hsrc hdst
      split at hc
      · rename_i he
        cases hc
        have hx := cOpd_rel hy fr
        simp only [AOp.step] at hs
        split at hs
        · rename_i hev
          cases hs
          rw [hev] at hx
          have hx' := inv_nils hx
          exact Comes.pure r (u := .string .empty) (by simp [execOp, hx', toStr_nil hsrc hdst he]) (.str _ _ rfl)
        · rename_i l off m cap hev
          rw [hev] at hx
          split at hs
          · rename_i cs hcs
            split at hs
            · rename_i bs hbs
              cases hs
              exact Comes.val r rfl (toStr_op hI r hsrc hdst he hx hcs hbs)
            · cases hs
          · cases hs
        · cases hs
      · cases hc
    · cases hc
  case makeInterface t x =>
    split at hc
    · cases hc
    · rename_i d hne hu
      obtain ⟨y, hy, rfl⟩ := map_some hc
      cases hs
      refine Comes.pure r (u := .iface t (a.eval x)) ?_ (.iface _ _ _ (cOpd_rel hy fr))
      cases d <;> first | exact absurd rfl (hne _) | simp [execOp, Instr.makeInterface, run_underlying hu]
    · cases hc
  case makeFunc fn xs ys =>
    split at hc
    · rename_i xs' ys' hx hy
      cases hc
      cases hs
      refine Comes.pure r (u := .func fn (xs.map a.eval) (ys.map a.eval)) (by simp [execOp, Instr.makeFunc]) (.func _ _ _ _ _ ?_ ?_)
      · rw [Array.toList_map]; exact cOpds_rel hx fr
      · rw [Array.toList_map]; exact cOpds_rel hy fr
    · cases hc
  case makeSlice t l c =>
    split at hc
    · rename_i e hu
      split at hc
      · rename_i i z l' c' hi hz hl hcc
        split at hc
        · rename_i hcond
          cases hc
          simp only [Bool.and_eq_true, Nat.beq_eq] at hcond
          have hlr := cOpd_rel hl fr
          have hcr := cOpd_rel hcc fr
          simp only [AOp.step] at hs
          split at hs
          · rename_i ln cn hln hcn hr
            split at hs
            · rename_i hb
              cases hs
              simp only [Bool.and_eq_true] at hb
              obtain ⟨kl, e1⟩ := idx_int hlr hln
              obtain ⟨kc, e2⟩ := idx_int hcr hcn
              have := makeSlice_op (P := P) r (kl := kl) (kc := kc) hu hi hz hcond.1 (Nat.le_of_ble_eq_true hcond.2) (Nat.le_of_ble_eq_true hb.1.1) (Nat.le_of_ble_eq_true hb.1.2) (Nat.le_of_ble_eq_true hb.2) hr
              exact Comes.made (s := Instr.makeSlice t (a.eval l) (a.eval c)) rfl (by rw [e1, e2]; exact this)
            · cases hs
          · cases hs
        · cases hc
      · cases hc
    · cases hc
  case slice t x lo hi mx =>
    split at hc
    · rename_i x' lo' hi' mx' m e hx hlo hhi hmx hu
      obtain ⟨sz, hsz, rfl⟩ := map_some hc
      have hxr := cOpd_rel hx fr
      simp only [AOp.step] at hs
      split at hs
      · rename_i l off he
        rw [he] at hxr
        split at hs
        · rename_i vv hv
          cases hs
          exact Comes.val r rfl (sliceArr_op hu hsz hlo hhi hmx fr hxr hv w)
        · cases hs
      · cases hs
    · rename_i x' lo' hi' hx hlo hhi hmx hu
      cases hc
      have hxr := cOpd_rel hx fr
      have hmn := cOpt_none hmx rfl
      subst hmn
      simp only [AOp.step] at hs
      split at hs
      · rename_i s he
        rw [he] at hxr
        split at hs
        · rename_i aa bb e1 e2
          split at hs
          · rename_i hb
            cases hs
            simp only [Bool.and_eq_true] at hb
            exact Comes.val r rfl (sliceStr_op hu hlo hhi fr hxr e1 e2 (Nat.le_of_ble_eq_true hb.1) (Nat.le_of_ble_eq_true hb.2) w)
          · cases hs
        · cases hs
      · cases hs
    · rename_i x' lo' hi' mx' e hx hlo hhi hmx hu
      obtain ⟨sz, hsz, rfl⟩ := map_some hc
      have hxr := cOpd_rel hx fr
      simp only [AOp.step] at hs
      split at hs
      · rename_i vv hv
        cases hs
        exact Comes.val r rfl (slice_op hu hsz hlo hhi hmx fr hxr hv w)
      · cases hs
    · cases hc
  case fieldAddr s x i =>
    split at hc
    · rename_i fields x' hu hx
      split at hc
      · rename_i fd hf
        split at hc
        · rename_i m hsz
          cases hc
          have hxr := cOpd_rel hx fr
          simp only [AOp.step] at hs
          split at hs
          · rename_i l off he
            cases hs
            rw [he] at hxr
            exact Comes.val r rfl (fieldAddr_op hu hf hsz hxr w)
          · cases hs
        · cases hc
      · cases hc
    · cases hc
  case field t x i =>
    split at hc
    · rename_i fields x' hu hx
      split at hc
      · rename_i fd hf
        have hxr := cOpd_rel hx fr
        split at hc
        · rename_i m ht hsz
          cases hc
          simp only [AOp.step] at hs
          split at hs
          · rename_i cs he
            rw [he] at hxr
            split at hs
            · cases hs
              exact Comes.val r rfl (fieldN_op hu hf ht hsz hxr w)
            · cases hs
          · cases hs
        · rename_i m ht hsz
          cases hc
          simp only [AOp.step] at hs
          split at hs
          · rename_i cs he
            rw [he] at hxr
            split at hs
            · rename_i vv hv
              cases hs
              exact Comes.val r rfl (field1_op hu hf ht hxr hv w)
            · cases hs
          · cases hs
        · cases hc
      · cases hc
    · cases hc
  case indexAddr t x i =>
    split at hc
    · rename_i m e x' i' hu hx hi
      obtain ⟨sz, hsz, rfl⟩ := map_some hc
      have hxr := cOpd_rel hx fr
      have hir := cOpd_rel hi fr
      simp only [AOp.step] at hs
      split at hs
      · rename_i l off j he hj
        rw [he] at hxr
        split at hs
        · rename_i hlt
          cases hs
          exact Comes.val r rfl (indexAddrArr_op hu hsz hxr hir hj (Nat.le_of_ble_eq_true hlt) w)
        · cases hs
      · cases hs
    · rename_i e x' i' hu hx hi
      obtain ⟨sz, hsz, rfl⟩ := map_some hc
      have hxr := cOpd_rel hx fr
      have hir := cOpd_rel hi fr
      simp only [AOp.step] at hs
      split at hs
      · rename_i l off m cap j he hj
        rw [he] at hxr
        split at hs
        · rename_i hlt
          cases hs
          exact Comes.val r rfl (indexAddr_op hu hsz hxr hir hj (Nat.le_of_ble_eq_true hlt) w)
        · cases hs
      · cases hs
    · cases hc
  case index t x i =>
    split at hc
    · rename_i m e x' i' hu hx hi
      have hxr := cOpd_rel hx fr
      have hir := cOpd_rel hi fr
      split at hc
      · rename_i sz ht hsz
        cases hc
        simp only [AOp.step] at hs
        split at hs
        · rename_i cs j he hj
          rw [he] at hxr
          split at hs
          · rename_i hb
            cases hs
            simp only [Bool.and_eq_true] at hb
            exact Comes.val r rfl (indexN_op hu ht hsz hxr hir hj (Nat.le_of_ble_eq_true hb.1) w)
          · cases hs
        · cases hs
      · rename_i ht hsz
        cases hc
        simp only [AOp.step] at hs
        split at hs
        · rename_i cs j he hj
          rw [he] at hxr
          split at hs
          · rename_i vv hv hlt
            cases hs
            exact Comes.val r rfl (index1_op hu ht hsz hxr hir hj (Nat.le_of_ble_eq_true hlt) hv w)
          · cases hs
        · cases hs
      · cases hc
    · rename_i x' i' hu hx hi
      cases hc
      have hxr := cOpd_rel hx fr
      have hir := cOpd_rel hi fr
      simp only [AOp.step] at hs
      split at hs
      · rename_i s j he hj
        rw [he] at hxr
        split at hs
        · rename_i b hb
          cases hs
          exact Comes.val r rfl (indexStr_op hu hxr hir hj hb w)
        · cases hs
      · cases hs
    · cases hc
  case extract x i =>
    obtain ⟨y, hy, rfl⟩ := map_some hc
    have hxr := cOpd_rel hy fr
    simp only [AOp.step] at hs
    split at hs
    · rename_i vs he
      rw [he] at hxr
      split at hs
      · rename_i vv hv
        cases hs
        exact Comes.val r rfl (extract_op hxr hv w)
      · cases hs
    · cases hs
  case typeAssert x xt t ok =>
    split at hc
    · rename_i x' z ms hx hz hu
      cases hc
      obtain ⟨i, zv, hi, hzv, hzr⟩ := zeroP_spec hz
      have hxr := cOpd_rel hx fr
      simp only [AOp.step] at hs
      split at hs
      · rename_i he
        rw [he] at hxr
        split at hs
        · rename_i hok
          cases hs
          refine Comes.pure r (u := .tuple #[zv, .bool false]) ?_ (.tuple _ _ (.cons (hzr ι) (.cons (.bool _) .nil)))
          simp [execOp, Instr.typeAssert, run_underlying hu, inv_nili hxr, hok, run_zero' hi hzv]
        · cases hs
      · rename_i u vv he
        rw [he] at hxr
        obtain ⟨y, hy, hyr⟩ := inv_iface hxr
        split at hs
        · rename_i himp
          cases hs
          unfold implB at himp
          split at himp
          · rename_i want iu hu' hiu
            rw [hu] at hu'
            cases hu'
            simp only [Option.some.injEq, Option.isNone_iff_eq_none] at himp
            by_cases hok : ok = true
            · subst hok
              exact Comes.pure r (u := .tuple #[.iface u y, .bool true]) (by simp [execOp, Instr.typeAssert, run_underlying hu, hy, typeInfo, hiu, himp]) (.tuple _ _ (.cons (.iface _ _ _ hyr) (.cons (.bool _) .nil)))
            · simp only [Bool.not_eq_true] at hok
              subst hok
              exact Comes.pure r (u := .iface u y) (by simp [execOp, Instr.typeAssert, run_underlying hu, hy, typeInfo, hiu, himp]) (.iface _ _ _ hyr)
          · cases himp
        · rename_i himp
          split at hs
          · rename_i hok
            cases hs
            unfold implB at himp
            split at himp
            · rename_i want iu hu' hiu
              rw [hu] at hu'
              cases hu'
              cases hm : Instr.missingMethod ms iu.methods with
              | none => simp [hm] at himp
              | some m =>
                refine Comes.pure r (u := .tuple #[zv, .bool false]) ?_ (.tuple _ _ (.cons (hzr ι) (.cons (.bool _) .nil)))
                simp [execOp, Instr.typeAssert, run_underlying hu, hy, typeInfo, hiu, hm, hok, run_zero' hi hzv]
            · cases himp
          · cases hs
        · cases hs
      · cases hs
    · rename_i x' z d hne hx hz hu
      cases hc
      obtain ⟨i, zv, hi, hzv, hzr⟩ := zeroP_spec hz
      have hxr := cOpd_rel hx fr
      simp only [AOp.step] at hs
      split at hs
      · rename_i he
        rw [he] at hxr
        split at hs
        · rename_i hok
          cases hs
          refine Comes.pure r (u := .tuple #[zv, .bool false]) ?_ (.tuple _ _ (.cons (hzr ι) (.cons (.bool _) .nil)))
          cases d <;> first | exact absurd rfl (hne _) | simp [execOp, Instr.typeAssert, run_underlying hu, inv_nili hxr, hok, run_zero' hi hzv]
        · cases hs
      · rename_i u vv he
        rw [he] at hxr
        obtain ⟨y, hy, hyr⟩ := inv_iface hxr
        split at hs
        · rename_i hut
          subst hut
          cases hs
          by_cases hok : ok = true
          · subst hok
            refine Comes.pure r (u := .tuple #[y, .bool true]) ?_ (.tuple _ _ (.cons hyr (.cons (.bool _) .nil)))
            cases d <;> first | exact absurd rfl (hne _) | simp [execOp, Instr.typeAssert, run_underlying hu, hy]
          · simp only [Bool.not_eq_true] at hok
            subst hok
            refine Comes.pure r (u := y) ?_ hyr
            cases d <;> first | exact absurd rfl (hne _) | simp [execOp, Instr.typeAssert, run_underlying hu, hy]
        · rename_i hut
          split at hs
          · rename_i hok
            cases hs
            refine Comes.pure r (u := .tuple #[zv, .bool false]) ?_ (.tuple _ _ (.cons (hzr ι) (.cons (.bool _) .nil)))
            cases d <;> first | exact absurd rfl (hne _) | simp [execOp, Instr.typeAssert, run_underlying hu, hy, hut, hok, run_zero' hi hzv]
          · cases hs
      · cases hs
    · cases hc
  case call c =>
    split at hc
    · cases hc
    · rename_i args hargs
      split at hc
      · cases hc; cases hs
      · split at hc
        · cases hc; cases hs
        · cases hc
      · split at hc
        · cases hc; cases hs
        · cases hc
      · rename_i b hcal
        exact builtin_sound hI r fr rfl hcal hargs hc hs
end

end

end Go.AM
