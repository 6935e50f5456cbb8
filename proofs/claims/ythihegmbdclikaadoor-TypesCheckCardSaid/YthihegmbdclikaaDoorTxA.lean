/- Contracts of the functions, part 0: what each function of the program and of the reference comes to. Conditions: as each lemma says. -/
import Derived.Test.YthihegmbdclikaaDoorSfT
import Derived.Test.YthihegmbdclikaaDoorAmZ
import Derived.Test.YthihegmbdclikaaDoorSh
set_option linter.unusedSimpArgs false
set_option linter.unusedVariables false
namespace Go.Proofs.YthihegmbdclikaaDoor.Tx
noncomputable section
open Go.AM Go.Proofs.YthihegmbdclikaaDoor.Sf
section
variable {I : Inp} {h0 : AHeap}
def inB (n s : Int) : Prop := 0 ≤ n ∧ n < s

theorem tin (n s : Int) (h : AHeap) : (AM.lim ⟨P, I, genF P Sh.prims⟩) 25 [.int .i64 n, .int .i64 s] h = some (.bool (dc (inB n s)), h) := by
  refine Res.eq (f25.lim rfl (n := 0) ?_)
  unfold f25.e
  (repeat' (first | refine Rf (fun hF hG => ?_) (fun hF hG => ?_) | assumption | (show Ext _ _; exact Ext.go) | (simp only [AHeap.next_alloc, AHeap.next_set, AHeap.next_kill, AHeap.next_res] at hle hsame) | simp (disch := first | exact D.go | fail) [setR, List.getElem?_cons_zero, List.getElem?_cons_succ, inB, *]))
theorem rin (n s : Int) (h : AHeap) : (AM.lim ⟨P, I, genF P Sh.prims⟩) 42 [.int .i64 n, .int .i64 s] h = some (.bool (dc (inB n s)), h) := by
  refine Res.eq (f42.lim rfl (n := 0) ?_)
  unfold f42.e
  (repeat' (first | refine Rf (fun hF hG => ?_) (fun hF hG => ?_) | assumption | (show Ext _ _; exact Ext.go) | (simp only [AHeap.next_alloc, AHeap.next_set, AHeap.next_kill, AHeap.next_res] at hle hsame) | simp (disch := first | exact D.go | fail) [setR, List.getElem?_cons_zero, List.getElem?_cons_succ, inB, *]))
def regP (c : Bool) (r s : Int) : Prop := if c then inB r s else r = 0
theorem treg (c : Bool) (r s : Int) (h : AHeap) : (AM.lim ⟨P, I, genF P Sh.prims⟩) 60 [.bool c, .int .i64 r, .int .i64 s] h = some (.bool (dc (regP c r s)), h) := by
  refine Res.eq (f60.lim rfl (n := 1) ?_)
  unfold f60.e
  cases c
  · (repeat' (first | refine Rf (fun hF hG => ?_) (fun hF hG => ?_) | assumption | (show Ext _ _; exact Ext.go) | (simp only [AHeap.next_alloc, AHeap.next_set, AHeap.next_kill, AHeap.next_res] at hle hsame) | simp (disch := first | exact D.go | fail) [setR, List.getElem?_cons_zero, List.getElem?_cons_succ, f60.n0, f60.b0, regP, *]))
  · (repeat' (first | refine Rf (fun hF hG => ?_) (fun hF hG => ?_) | assumption | (show Ext _ _; exact Ext.go) | (simp only [AHeap.next_alloc, AHeap.next_set, AHeap.next_kill, AHeap.next_res] at hle hsame) | simp (disch := first | exact D.go | fail) [setR, List.getElem?_cons_zero, List.getElem?_cons_succ, f60.n0, f60.b0, tin, regP, *]))

/-- Does a type name something? -/
def namedP (q : Pg) (t : Ty) : Prop :=
  if t.kind = 0 then t.n = 0 else if t.kind = 1 then inB t.n q.recs.length else if t.kind = 2 then inB t.n q.sigs.length else if t.kind = 3 then inB t.n q.faces.length else False

theorem tnamed {l : AM.Loc} {o : Nat} {q : Pg} (hq : PgA I h0 l o q) (t : Ty) (hb : AHeap) (eb : Ext h0 hb) : Ret ((AM.lim ⟨P, I, genF P Sh.prims⟩) 57 [.ptr l o, .agg [.int .i64 t.kind, .int .i64 t.n]] hb) hb (.bool (dc (namedP q t))) := by
  obtain ⟨_, ⟨vr, vs, vf, vi, vu, rfl, rm, sr, ss, sf, si, su⟩, hc⟩ := hq
  refine f57.lim rfl (n := 2) ?_
  unfold f57.e
  (repeat' (first | refine Rf (fun hF hG => ?_) (fun hF hG => ?_) | assumption | (show Ext _ _; exact Ext.go) | (simp only [AHeap.next_alloc, AHeap.next_set, AHeap.next_kill, AHeap.next_res] at hle hsame) | simp (disch := first | exact D.go | fail) [setR, List.getElem?_cons_zero, List.getElem?_cons_succ, f57.n0, f57.b0, tin, hc.rd0, hc.rd1, hc.rd2, hc.rd3, hc.rd4, hc.rd5, sr.len, ss.len, sf.len, si.len, su.len, namedP, *]))
theorem rnamed {l : AM.Loc} {o : Nat} {q : Pg} (hq : PgA I h0 l o q) (t : Ty) (hb : AHeap) (eb : Ext h0 hb) : Ret ((AM.lim ⟨P, I, genF P Sh.prims⟩) 41 [.ptr l o, .agg [.int .i64 t.kind, .int .i64 t.n]] hb) hb (.bool (dc (namedP q t))) := by
  obtain ⟨_, ⟨vr, vs, vf, vi, vu, rfl, rm, sr, ss, sf, si, su⟩, hc⟩ := hq
  refine f41.lim rfl (n := 2) ?_
  unfold f41.e
  (repeat' (first | refine Rf (fun hF hG => ?_) (fun hF hG => ?_) | assumption | (show Ext _ _; exact Ext.go) | (simp only [AHeap.next_alloc, AHeap.next_set, AHeap.next_kill, AHeap.next_res] at hle hsame) | simp (disch := first | exact D.go | fail) [setR, List.getElem?_cons_zero, List.getElem?_cons_succ, f41.n0, f41.b0, tin, hc.rd0, hc.rd1, hc.rd2, hc.rd3, hc.rd4, hc.rd5, sr.len, ss.len, sf.len, si.len, su.len, namedP, inB, *]))

theorem tnumbers {v : AVal} {xs : List Int} (sv : SlOf 1 (IntA I h0) v xs) (s : Int) (hb : AHeap) (eb : Ext h0 hb) : Ret ((AM.lim ⟨P, I, genF P Sh.prims⟩) 58 [v, .int .i64 s] hb) hb (.bool (dc (AllL (fun x => inB x s) xs))) := by
  have hL := sv.lt
  obtain ⟨N, hN⟩ := Evt.loop xs (F := fun i n => ∀ h, Ext hb h → Res ((f58.J I (AM.lim ⟨P, I, genF P Sh.prims⟩) (n)).1.2 (.int .i64 s) v (.int .i64 xs.length) (.int .i64 i) h) fun u g => u = .bool (dc (AllL (fun x => inB x s) (xs.drop i))) ∧ Ext hb g) 5
    (Evt.all 5 fun n h e => by
      rw [f58.n1]; unfold f58.b1
      (repeat' (first | refine Rf (fun hF hG => ?_) (fun hF hG => ?_) | assumption | (show Ext _ _; exact Ext.go) | (simp only [AHeap.next_alloc, AHeap.next_set, AHeap.next_kill, AHeap.next_res] at hle hsame) | simp (disch := first | exact D.go | fail) [setR, List.getElem?_cons_zero, List.getElem?_cons_succ, f58.n0, f58.b0, f58.n2, f58.b2, f58.n3, f58.b3, *])))
    (fun i x n hx ih h e => by
      obtain ⟨l, o, hi, ha⟩ := sv.at hx
      obtain ⟨ha, hr⟩ := ha.int
      have hlt := lt_of_get hx
      have hw := wrap_in (n := (i : Int) + 1) ⟨by omega, by omega⟩
      simp only [Int.natCast_add, Int.natCast_one] at ih
      rw [drop_of_get hx]
      rw [f58.n1]; unfold f58.b1
      (repeat' (first | refine Rf (fun hF hG => ?_) (fun hF hG => ?_) | assumption | (show Ext _ _; exact Ext.go) | (simp only [AHeap.next_alloc, AHeap.next_set, AHeap.next_kill, AHeap.next_res] at hle hsame) | simp (disch := first | exact D.go | fail) [setR, List.getElem?_cons_zero, List.getElem?_cons_succ, f58.n0, f58.b0, f58.n2, f58.b2, f58.n3, f58.b3, tin, hi, ha, hw, hlt, *] | (refine Res.mono (ih _ (by omega) _ ?_) (fun u g hq => ?_); rotate_left; (obtain ⟨rfl, hq⟩ := hq); rotate_right))))
    0 (by omega)
  refine f58.lim rfl (n := N) ?_
  unfold f58.e
  (repeat' (first | refine Rf (fun hF hG => ?_) (fun hF hG => ?_) | assumption | (show Ext _ _; exact Ext.go) | (simp only [AHeap.next_alloc, AHeap.next_set, AHeap.next_kill, AHeap.next_res] at hle hsame) | simp (disch := first | exact D.go | fail) [setR, List.getElem?_cons_zero, List.getElem?_cons_succ, sv.len, *] | (refine Res.mono (hN _ (Nat.le_refl _) _ ?_) (fun u g hq => ?_); rotate_left; (obtain ⟨rfl, hq⟩ := hq); rotate_right)))
theorem tall {l : AM.Loc} {o : Nat} {q : Pg} (hq : PgA I h0 l o q) {v : AVal} {xs : List Ty} (sv : SlOf 2 (At I h0 TyC) v xs) (hb : AHeap) (eb : Ext h0 hb) : Ret ((AM.lim ⟨P, I, genF P Sh.prims⟩) 27 [.ptr l o, v] hb) hb (.bool (dc (AllL (namedP q) xs))) := by
  have hL := sv.lt
  obtain ⟨N, hN⟩ := Evt.loop xs (F := fun i n => ∀ h, Ext hb h → Res ((f27.J I (AM.lim ⟨P, I, genF P Sh.prims⟩) (n)).1.2 (.ptr l o) v (.int .i64 xs.length) (.int .i64 i) h) fun u g => u = .bool (dc (AllL (namedP q) (xs.drop i))) ∧ Ext hb g) 5
    (Evt.all 5 fun n h e => by
      rw [f27.n1]; unfold f27.b1
      (repeat' (first | refine Rf (fun hF hG => ?_) (fun hF hG => ?_) | assumption | (show Ext _ _; exact Ext.go) | (simp only [AHeap.next_alloc, AHeap.next_set, AHeap.next_kill, AHeap.next_res] at hle hsame) | simp (disch := first | exact D.go | fail) [setR, List.getElem?_cons_zero, List.getElem?_cons_succ, f27.n0, f27.b0, f27.n2, f27.b2, f27.n3, f27.b3, *])))
    (fun i x n hx ih h e => by
      obtain ⟨l1, o1, hi, ⟨_, ⟨rfl, r0, r1⟩, ha⟩⟩ := sv.at hx
      have hld := fun g e => ha.rds (n := 2) g e rfl (by omega)
      have hlt := lt_of_get hx
      have hw := wrap_in (n := (i : Int) + 1) ⟨by omega, by omega⟩
      simp only [Int.natCast_add, Int.natCast_one] at ih
      rw [drop_of_get hx]
      rw [f27.n1]; unfold f27.b1
      have hlo := e.lo
      (repeat' (first | refine Rf (fun hF hG => ?_) (fun hF hG => ?_) | assumption | (show Ext _ _; exact Ext.go) | (simp only [AHeap.next_alloc, AHeap.next_set, AHeap.next_kill, AHeap.next_res] at hle hsame) | simp (disch := first | exact D.go | fail) [setR, List.getElem?_cons_zero, List.getElem?_cons_succ, f27.n0, f27.b0, f27.n2, f27.b2, f27.n3, f27.b3, hi, hld, hw, hlt, *] | (refine Ret.thn (h0 := hb) (tnamed hq _ _ Ext.go) ?_ (fun g hg hlo hle hsame hx => ?_)) | (refine Res.mono (ih _ (by omega) _ ?_) (fun u g hq => ?_); rotate_left; (obtain ⟨rfl, hq⟩ := hq); rotate_right))))
    0 (by omega)
  refine f27.lim rfl (n := N) ?_
  unfold f27.e
  (repeat' (first | refine Rf (fun hF hG => ?_) (fun hF hG => ?_) | assumption | (show Ext _ _; exact Ext.go) | (simp only [AHeap.next_alloc, AHeap.next_set, AHeap.next_kill, AHeap.next_res] at hle hsame) | simp (disch := first | exact D.go | fail) [setR, List.getElem?_cons_zero, List.getElem?_cons_succ, sv.len, *] | (refine Res.mono (hN _ (Nat.le_refl _) _ ?_) (fun u g hq => ?_); rotate_left; (obtain ⟨rfl, hq⟩ := hq); rotate_right)))

/-- Do all lists ahead of the functions name something? -/
def listsB (q : Pg) : Bool := dc (AllL (fun r => AllL (namedP q) r) q.recs) && dc (AllL (fun s => AllL (namedP q) s.params ∧ namedP q s.res) q.sigs) && dc (AllL (fun f => AllL (fun x => inB x q.sigs.length) f) q.faces) &&
  dc (AllL (fun m => inB m.rec_ q.recs.length ∧ inB m.face q.faces.length ∧ AllL (fun x => inB x q.funcs.length) m.funcs) q.impls)
theorem tlists {l : AM.Loc} {o : Nat} {q : Pg} (hq : PgA I h0 l o q) (hb : AHeap) (eb : Ext h0 hb) : Ret ((AM.lim ⟨P, I, genF P Sh.prims⟩) 26 [.ptr l o] hb) hb (.bool (listsB q)) := by
  have hq' := hq
  obtain ⟨_, ⟨vr, vs, vf, vi, vu, rfl, rm, sr, ss, sf, si, su⟩, hc⟩ := hq
  have lr := sr.lt; have ls := ss.lt; have lf := sf.lt; have li := si.lt
  have h4 := Evt.loop q.impls (F := fun i n => ∀ (ok : Bool) h, Ext hb h → Res ((f26.J I (AM.lim ⟨P, I, genF P Sh.prims⟩) (n)).2.2.1.2 (.ptr l o) (.bool ok) vi (.int .i64 q.impls.length) (.int .i64 i) h) fun u g => u = .bool (ok && dc (AllL (fun m => inB m.rec_ q.recs.length ∧ inB m.face q.faces.length ∧ AllL (fun x => inB x q.funcs.length) m.funcs) (q.impls.drop i))) ∧ Ext hb g) 8
    (Evt.all 8 fun n ok h e => by
      rw [f26.n13]; unfold f26.b13
      (repeat' (first | refine Rf (fun hF hG => ?_) (fun hF hG => ?_) | assumption | (show Ext _ _; exact Ext.go) | (simp only [AHeap.next_alloc, AHeap.next_set, AHeap.next_kill, AHeap.next_res] at hle hsame) | simp (disch := first | exact D.go | fail) [setR, List.getElem?_cons_zero, List.getElem?_cons_succ, f26.n0, f26.b0, f26.n2, f26.b2, f26.n3, f26.b3, f26.n4, f26.b4, f26.n6, f26.b6, f26.n7, f26.b7, f26.n8, f26.b8, f26.n10, f26.b10, f26.n11, f26.b11, f26.n12, f26.b12, f26.n14, f26.b14, f26.n15, f26.b15, *])))
    (fun i x n hx ih ok h e => by
      obtain ⟨l1, o1, hi, ⟨_, ⟨w, rfl, r0, r1, sw⟩, ha⟩⟩ := si.at hx
      have hld := fun g e => ha.rds (n := 3) g e rfl (by omega)
      have hlt := lt_of_get hx
      have hw := wrap_in (n := (i : Int) + 1) ⟨by omega, by omega⟩
      simp only [Int.natCast_add, Int.natCast_one] at ih
      rw [drop_of_get hx]
      rw [f26.n13]; unfold f26.b13
      have hlo := e.lo
      (repeat' (first | refine Rf (fun hF hG => ?_) (fun hF hG => ?_) | assumption | (show Ext _ _; exact Ext.go) | (simp only [AHeap.next_alloc, AHeap.next_set, AHeap.next_kill, AHeap.next_res] at hle hsame) | simp (disch := first | exact D.go | fail) [setR, List.getElem?_cons_zero, List.getElem?_cons_succ, f26.n0, f26.b0, f26.n2, f26.b2, f26.n3, f26.b3, f26.n4, f26.b4, f26.n6, f26.b6, f26.n7, f26.b7, f26.n8, f26.b8, f26.n10, f26.b10, f26.n11, f26.b11, f26.n12, f26.b12, f26.n14, f26.b14, f26.n15, f26.b15, hi, hld, hw, hlt, tin, hc.rd0, hc.rd1, hc.rd2, hc.rd3, hc.rd4, hc.rd5, sr.len, ss.len, sf.len, si.len, su.len, sw.one, sw.cells, *] | (refine Ret.thn (h0 := hb) (tnumbers sw _ _ Ext.go) ?_ (fun g hg hlo hle hsame hx => ?_)) | (refine Res.mono (ih _ (by omega) _ _ ?_) (fun u g hq => ?_); rotate_left; (obtain ⟨rfl, hq⟩ := hq); rotate_right))))
    0 (by omega)
  have h3 := Evt.loop q.faces (F := fun i n => ∀ (ok : Bool) h, Ext hb h → Res ((f26.J I (AM.lim ⟨P, I, genF P Sh.prims⟩) (n)).2.1.1.2 (.ptr l o) (.bool ok) vf (.int .i64 q.faces.length) (.int .i64 i) h) fun u g => u = .bool (ok && dc (AllL (fun f => AllL (fun x => inB x q.sigs.length) f) (q.faces.drop i)) && dc (AllL (fun m => inB m.rec_ q.recs.length ∧ inB m.face q.faces.length ∧ AllL (fun x => inB x q.funcs.length) m.funcs) (q.impls))) ∧ Ext hb g) 8
    (Evt.step 8 h4 fun n hn ok h e => by
      rw [f26.n9]; unfold f26.b9
      (repeat' (first | refine Rf (fun hF hG => ?_) (fun hF hG => ?_) | assumption | (show Ext _ _; exact Ext.go) | (simp only [AHeap.next_alloc, AHeap.next_set, AHeap.next_kill, AHeap.next_res] at hle hsame) | simp (disch := first | exact D.go | fail) [setR, List.getElem?_cons_zero, List.getElem?_cons_succ, f26.n0, f26.b0, f26.n2, f26.b2, f26.n3, f26.b3, f26.n4, f26.b4, f26.n6, f26.b6, f26.n7, f26.b7, f26.n8, f26.b8, f26.n10, f26.b10, f26.n11, f26.b11, f26.n12, f26.b12, f26.n14, f26.b14, f26.n15, f26.b15, hc.rd0, hc.rd1, hc.rd2, hc.rd3, hc.rd4, hc.rd5, sr.len, ss.len, sf.len, si.len, su.len, *] | (refine Res.mono (hn _ (by omega) _ _ ?_) (fun u g hq => ?_); rotate_left; (obtain ⟨rfl, hq⟩ := hq); rotate_right))))
    (fun i x n hx ih ok h e => by
      obtain ⟨l1, o1, hi, ⟨_, ⟨w, rfl, sw⟩, ha⟩⟩ := sf.at hx
      have hld := fun g e => ha.rds (n := 1) g e rfl (by omega)
      have hlt := lt_of_get hx
      have hw := wrap_in (n := (i : Int) + 1) ⟨by omega, by omega⟩
      simp only [Int.natCast_add, Int.natCast_one] at ih
      rw [drop_of_get hx]
      rw [f26.n9]; unfold f26.b9
      have hlo := e.lo
      (repeat' (first | refine Rf (fun hF hG => ?_) (fun hF hG => ?_) | assumption | (show Ext _ _; exact Ext.go) | (simp only [AHeap.next_alloc, AHeap.next_set, AHeap.next_kill, AHeap.next_res] at hle hsame) | simp (disch := first | exact D.go | fail) [setR, List.getElem?_cons_zero, List.getElem?_cons_succ, f26.n0, f26.b0, f26.n2, f26.b2, f26.n3, f26.b3, f26.n4, f26.b4, f26.n6, f26.b6, f26.n7, f26.b7, f26.n8, f26.b8, f26.n10, f26.b10, f26.n11, f26.b11, f26.n12, f26.b12, f26.n14, f26.b14, f26.n15, f26.b15, hi, hld, hw, hlt, tin, hc.rd0, hc.rd1, hc.rd2, hc.rd3, hc.rd4, hc.rd5, sr.len, ss.len, sf.len, si.len, su.len, sw.one, sw.cells, *] | (refine Ret.thn (h0 := hb) (tnumbers sw _ _ Ext.go) ?_ (fun g hg hlo hle hsame hx => ?_)) | (refine Res.mono (ih _ (by omega) _ _ ?_) (fun u g hq => ?_); rotate_left; (obtain ⟨rfl, hq⟩ := hq); rotate_right))))
    0 (by omega)
  have h2 := Evt.loop q.sigs (F := fun i n => ∀ (ok : Bool) h, Ext hb h → Res ((f26.J I (AM.lim ⟨P, I, genF P Sh.prims⟩) (n)).1.2.1.2 (.ptr l o) (.bool ok) vs (.int .i64 q.sigs.length) (.int .i64 i) h) fun u g => u = .bool (ok && dc (AllL (fun s => (AllL (namedP q) s.params) ∧ namedP q s.res) (q.sigs.drop i)) && dc (AllL (fun f => AllL (fun x => inB x q.sigs.length) f) (q.faces)) && dc (AllL (fun m => inB m.rec_ q.recs.length ∧ inB m.face q.faces.length ∧ AllL (fun x => inB x q.funcs.length) m.funcs) (q.impls))) ∧ Ext hb g) 8
    (Evt.step 8 h3 fun n hn ok h e => by
      rw [f26.n5]; unfold f26.b5
      (repeat' (first | refine Rf (fun hF hG => ?_) (fun hF hG => ?_) | assumption | (show Ext _ _; exact Ext.go) | (simp only [AHeap.next_alloc, AHeap.next_set, AHeap.next_kill, AHeap.next_res] at hle hsame) | simp (disch := first | exact D.go | fail) [setR, List.getElem?_cons_zero, List.getElem?_cons_succ, f26.n0, f26.b0, f26.n2, f26.b2, f26.n3, f26.b3, f26.n4, f26.b4, f26.n6, f26.b6, f26.n7, f26.b7, f26.n8, f26.b8, f26.n10, f26.b10, f26.n11, f26.b11, f26.n12, f26.b12, f26.n14, f26.b14, f26.n15, f26.b15, hc.rd0, hc.rd1, hc.rd2, hc.rd3, hc.rd4, hc.rd5, sr.len, ss.len, sf.len, si.len, su.len, *] | (refine Res.mono (hn _ (by omega) _ _ ?_) (fun u g hq => ?_); rotate_left; (obtain ⟨rfl, hq⟩ := hq); rotate_right))))
    (fun i x n hx ih ok h e => by
      obtain ⟨l1, o1, hi, ⟨_, ⟨w, rfl, sw, r0, r1⟩, ha⟩⟩ := ss.at hx
      have hld := fun g e => ha.rds (n := 3) g e rfl (by omega)
      have hlt := lt_of_get hx
      have hw := wrap_in (n := (i : Int) + 1) ⟨by omega, by omega⟩
      simp only [Int.natCast_add, Int.natCast_one] at ih
      rw [drop_of_get hx]
      rw [f26.n5]; unfold f26.b5
      have hlo := e.lo
      (repeat' (first | refine Rf (fun hF hG => ?_) (fun hF hG => ?_) | assumption | (show Ext _ _; exact Ext.go) | (simp only [AHeap.next_alloc, AHeap.next_set, AHeap.next_kill, AHeap.next_res] at hle hsame) | simp (disch := first | exact D.go | fail) [setR, List.getElem?_cons_zero, List.getElem?_cons_succ, f26.n0, f26.b0, f26.n2, f26.b2, f26.n3, f26.b3, f26.n4, f26.b4, f26.n6, f26.b6, f26.n7, f26.b7, f26.n8, f26.b8, f26.n10, f26.b10, f26.n11, f26.b11, f26.n12, f26.b12, f26.n14, f26.b14, f26.n15, f26.b15, hi, hld, hw, hlt, tin, hc.rd0, hc.rd1, hc.rd2, hc.rd3, hc.rd4, hc.rd5, sr.len, ss.len, sf.len, si.len, su.len, sw.one, sw.cells, *] | (refine Ret.thn (h0 := hb) (tall hq' sw _ Ext.go) ?_ (fun g hg hlo hle hsame hx => ?_)) | (refine Ret.thn (h0 := hb) (tnamed hq' x.res _ Ext.go) ?_ (fun g hg hlo hle hsame hx => ?_)) | (refine Res.mono (ih _ (by omega) _ _ ?_) (fun u g hq => ?_); rotate_left; (obtain ⟨rfl, hq⟩ := hq); rotate_right))))
    0 (by omega)
  obtain ⟨N, hN⟩ := Evt.loop q.recs (F := fun i n => ∀ (ok : Bool) h, Ext hb h → Res ((f26.J I (AM.lim ⟨P, I, genF P Sh.prims⟩) (n)).1.1.1.2 (.ptr l o) (.bool ok) vr (.int .i64 q.recs.length) (.int .i64 i) h) fun u g => u = .bool (ok && dc (AllL (fun r => AllL (namedP q) r) (q.recs.drop i)) && dc (AllL (fun s => (AllL (namedP q) s.params) ∧ namedP q s.res) (q.sigs)) && dc (AllL (fun f => AllL (fun x => inB x q.sigs.length) f) (q.faces)) && dc (AllL (fun m => inB m.rec_ q.recs.length ∧ inB m.face q.faces.length ∧ AllL (fun x => inB x q.funcs.length) m.funcs) (q.impls))) ∧ Ext hb g) 8
    (Evt.step 8 h2 fun n hn ok h e => by
      rw [f26.n1]; unfold f26.b1
      (repeat' (first | refine Rf (fun hF hG => ?_) (fun hF hG => ?_) | assumption | (show Ext _ _; exact Ext.go) | (simp only [AHeap.next_alloc, AHeap.next_set, AHeap.next_kill, AHeap.next_res] at hle hsame) | simp (disch := first | exact D.go | fail) [setR, List.getElem?_cons_zero, List.getElem?_cons_succ, f26.n0, f26.b0, f26.n2, f26.b2, f26.n3, f26.b3, f26.n4, f26.b4, f26.n6, f26.b6, f26.n7, f26.b7, f26.n8, f26.b8, f26.n10, f26.b10, f26.n11, f26.b11, f26.n12, f26.b12, f26.n14, f26.b14, f26.n15, f26.b15, hc.rd0, hc.rd1, hc.rd2, hc.rd3, hc.rd4, hc.rd5, sr.len, ss.len, sf.len, si.len, su.len, *] | (refine Res.mono (hn _ (by omega) _ _ ?_) (fun u g hq => ?_); rotate_left; (obtain ⟨rfl, hq⟩ := hq); rotate_right))))
    (fun i x n hx ih ok h e => by
      obtain ⟨l1, o1, hi, ⟨_, ⟨w, rfl, sw⟩, ha⟩⟩ := sr.at hx
      have hlt := lt_of_get hx
      have hw := wrap_in (n := (i : Int) + 1) ⟨by omega, by omega⟩
      simp only [Int.natCast_add, Int.natCast_one] at ih
      rw [drop_of_get hx]
      rw [f26.n1]; unfold f26.b1
      have hlo := e.lo
      (repeat' (first | refine Rf (fun hF hG => ?_) (fun hF hG => ?_) | assumption | (show Ext _ _; exact Ext.go) | (simp only [AHeap.next_alloc, AHeap.next_set, AHeap.next_kill, AHeap.next_res] at hle hsame) | simp (disch := first | exact D.go | fail) [setR, List.getElem?_cons_zero, List.getElem?_cons_succ, f26.n0, f26.b0, f26.n2, f26.b2, f26.n3, f26.b3, f26.n4, f26.b4, f26.n6, f26.b6, f26.n7, f26.b7, f26.n8, f26.b8, f26.n10, f26.b10, f26.n11, f26.b11, f26.n12, f26.b12, f26.n14, f26.b14, f26.n15, f26.b15, hi, ha.rd0, hw, hlt, tin, hc.rd0, hc.rd1, hc.rd2, hc.rd3, hc.rd4, hc.rd5, sr.len, ss.len, sf.len, si.len, su.len, sw.one, sw.cells, *] | (refine Ret.thn (h0 := hb) (tall hq' sw _ Ext.go) ?_ (fun g hg hlo hle hsame hx => ?_)) | (refine Res.mono (ih _ (by omega) _ _ ?_) (fun u g hq => ?_); rotate_left; (obtain ⟨rfl, hq⟩ := hq); rotate_right))))
    0 (by omega)
  refine f26.lim rfl (n := N) ?_
  unfold f26.e
  (repeat' (first | refine Rf (fun hF hG => ?_) (fun hF hG => ?_) | assumption | (show Ext _ _; exact Ext.go) | (simp only [AHeap.next_alloc, AHeap.next_set, AHeap.next_kill, AHeap.next_res] at hle hsame) | simp (disch := first | exact D.go | fail) [setR, List.getElem?_cons_zero, List.getElem?_cons_succ, hc.rd0, hc.rd1, hc.rd2, hc.rd3, hc.rd4, hc.rd5, sr.len, ss.len, sf.len, si.len, su.len, listsB, *] | (refine Res.mono (hN _ (Nat.le_refl _) _ _ ?_) (fun u g hq => ?_); rotate_left; (obtain ⟨rfl, hq⟩ := hq); rotate_right)))
end
end
end Go.Proofs.YthihegmbdclikaaDoor.Tx

set_option linter.unusedSimpArgs false
set_option linter.unusedVariables false
namespace Go.Proofs.YthihegmbdclikaaDoor.Tx
noncomputable section
open Go.AM Go.Proofs.YthihegmbdclikaaDoor.Sf
section
variable {I : Inp} {h0 : AHeap}
/-! errors -/
structure Pt where
  f : Int
  b : Int
  i : Int
  deriving DecidableEq, Inhabited
def noPt : Pt := ⟨-1, 0, 0⟩
abbrev ptV (p : Pt) : AVal := .agg [.int .i64 p.f, .int .i64 p.b, .int .i64 p.i]
/-- An error's value: why, where; it wraps nothing. -/
def ErrIs (I : Inp) (h : AHeap) (w : Int) (p : Pt) (v : AVal) : Prop := ∃ k, v = .iface 92 (.ptr (.own k) 0) ∧ k < h.next ∧ Cells I h (.own k) 0 [.int .i64 w, .int .i64 p.f, .int .i64 p.b, .int .i64 p.i, .nili]
theorem ErrIs.mono {h h1 : AHeap} {w : Int} {p : Pt} {v : AVal} (a : ErrIs I h w p v) (e : Ext h h1) : ErrIs I h1 w p v :=
  let ⟨k, e1, l, c⟩ := a; ⟨k, e1, Nat.lt_of_lt_of_le l e.lo, c.mono e⟩
theorem rnone (hb : AHeap) : Ret ((AM.lim ⟨P, I, genF P Sh.prims⟩) 45 [] hb) hb (ptV noPt) := by
  refine f45.lim rfl (n := 0) ?_
  unfold f45.e
  (repeat' (first | refine Rf (fun hF hG => ?_) (fun hF hG => ?_) | assumption | (show Ext _ _; exact Ext.go) | (simp only [AHeap.next_alloc, AHeap.next_set, AHeap.next_kill, AHeap.next_res] at hle hsame) | simp (disch := first | exact D.go | fail) [setR, List.getElem?_cons_zero, List.getElem?_cons_succ, noPt, *]))
theorem rnowhere (hb : AHeap) : Ret ((AM.lim ⟨P, I, genF P Sh.prims⟩) 17 [] hb) hb (ptV noPt) := by
  refine f17.lim rfl (n := 0) ?_
  unfold f17.e
  (repeat' (first | refine Rf (fun hF hG => ?_) (fun hF hG => ?_) | assumption | (show Ext _ _; exact Ext.go) | (simp only [AHeap.next_alloc, AHeap.next_set, AHeap.next_kill, AHeap.next_res] at hle hsame) | simp (disch := first | exact D.go | fail) [setR, List.getElem?_cons_zero, List.getElem?_cons_succ, noPt, *]))
theorem enew (w : Int) (p : Pt) (hb : AHeap) : Res ((AM.lim ⟨P, I, genF P Sh.prims⟩) 44 [.int .i64 w, ptV p, .nili] hb) fun v g => ErrIs I g w p v ∧ Ext hb g := by
  refine f44.lim rfl (n := 0) ?_
  unfold f44.e
  (repeat' (first | refine Rf (fun hF hG => ?_) (fun hF hG => ?_) | assumption | (show Ext _ _; exact Ext.go) | (simp only [AHeap.next_alloc, AHeap.next_set, AHeap.next_kill, AHeap.next_res] at hle hsame) | simp (disch := first | exact D.go | fail) [setR, List.getElem?_cons_zero, List.getElem?_cons_succ, setR, *]))
  refine ⟨⟨hb.next + 1, rfl, by simp, Cells.own (AHeap.alloc_at (Nb.o (by simp))) (by simp) fun i v hv => by simpa using hv⟩, Ext.go⟩
theorem tbound (hb : AHeap) : Res ((AM.lim ⟨P, I, genF P Sh.prims⟩) 39 [] hb) fun v g => ErrIs I g 2 noPt v ∧ Ext hb g := by
  refine f39.lim rfl (n := 0) ?_
  unfold f39.e
  (repeat' (first | refine Rf (fun hF hG => ?_) (fun hF hG => ?_) | assumption | (show Ext _ _; exact Ext.go) | (simp only [AHeap.next_alloc, AHeap.next_set, AHeap.next_kill, AHeap.next_res] at hle hsame) | simp (disch := first | exact D.go | fail) [setR, List.getElem?_cons_zero, List.getElem?_cons_succ, setR, *] | (refine Ret.thn (h0 := hb) (rnone _) ?_ (fun g hg hlo hle hsame hx => ?_)) | (refine Res.call (h0 := hb) (enew 2 noPt _) ?_ (fun u g hA hg hlo hle hsame hx => ?_))))
theorem efirst {w : Int} {p : Pt} {v : AVal} (hb : AHeap) (hv : ErrIs I hb w p v) : Res ((AM.lim ⟨P, I, genF P Sh.prims⟩) 56 [v] hb) fun u g => (∃ k, u = .ptr (.own k) 0 ∧ k < g.next ∧ Cells I g (.own k) 0 [.int .i64 w, .int .i64 p.f, .int .i64 p.b, .int .i64 p.i, .nili]) ∧ Ext hb g := by
  obtain ⟨k, rfl, hk, hc⟩ := hv
  have hAs : ∀ (e : Nat) (l : AM.Loc) (o j q : Nat) (h : AHeap) (b b' : Blk), e = 92 → h.get j = some b → (∃ x, b.cells[q]? = some x) → b.wr q [.ptr l o] = some b' →
      (AM.lim ⟨P, I, genF P Sh.prims⟩) 65 [.iface e (.ptr l o), .iface 105 (.ptr (.own j) q)] h = some (.bool true, h.set j b') := by
    intro e l o j q h b b' he hj ⟨x, hx⟩ hw
    subst he
    refine lim_of (C := ⟨P, I, genF P Sh.prims⟩) (n := 1) ?_
    simp only [callF, genF, show Sh.prims 65 = some (AM.asPrim 92 105) from rfl]
    simp only [asPrim, Nat.beq_refl, Bool.and_self, hj, hx, hw]
  have hA := hAs 92 (.own k) 0 hb.next 0 (hb.alloc ⟨[.nilp], true⟩) ⟨[.nilp], true⟩ ⟨[.ptr (.own k) 0], true⟩ rfl (AHeap.alloc_at (Nb.o rfl)) ⟨_, rfl⟩ rfl
  refine f56.lim rfl (n := 2) ?_
  unfold f56.e
  (repeat' (first | refine Rf (fun hF hG => ?_) (fun hF hG => ?_) | assumption | (show Ext _ _; exact Ext.go) | (simp only [AHeap.next_alloc, AHeap.next_set, AHeap.next_kill, AHeap.next_res] at hle hsame) | simp (disch := first | exact D.go | fail) [setR, List.getElem?_cons_zero, List.getElem?_cons_succ, f56.n0, f56.b0, hA, *]))
  have e2 : Ext hb ((hb.alloc ⟨[.nilp], true⟩).set hb.next ⟨[.ptr (.own k) 0], true⟩) := Ext.go
  exact ⟨⟨by omega, hc.mono e2⟩, e2⟩
theorem efirst_nil (hb : AHeap) : Ret ((AM.lim ⟨P, I, genF P Sh.prims⟩) 56 [.nili] hb) hb .nilp := by
  have hAs : ∀ (t : AVal) (h : AHeap), (AM.lim ⟨P, I, genF P Sh.prims⟩) 65 [.nili, t] h = some (.bool false, h) := by
    intro t h
    refine lim_of (C := ⟨P, I, genF P Sh.prims⟩) (n := 1) ?_
    simp only [callF, genF, show Sh.prims 65 = some (AM.asPrim 92 105) from rfl]
    simp only [asPrim]
  refine f56.lim rfl (n := 2) ?_
  unfold f56.e
  (repeat' (first | refine Rf (fun hF hG => ?_) (fun hF hG => ?_) | assumption | (show Ext _ _; exact Ext.go) | (simp only [AHeap.next_alloc, AHeap.next_set, AHeap.next_kill, AHeap.next_res] at hle hsame) | simp (disch := first | exact D.go | fail) [setR, List.getElem?_cons_zero, List.getElem?_cons_succ, f56.n0, f56.b0, hAs, *]))
theorem ewhy {w : Int} {p : Pt} {v : AVal} (hb : AHeap) (hv : ErrIs I hb w p v) : Ret ((AM.lim ⟨P, I, genF P Sh.prims⟩) 24 [v] hb) hb (.int .i64 w) := by
  refine f24.lim rfl (n := 2) ?_
  unfold f24.e
  refine Res.call (h0 := hb) (efirst hb hv) (Ext.refl hb) (fun u g hA hg hlo hle hsame hx => ?_)
  obtain ⟨k, rfl, hk, hc⟩ := hA
  (repeat' (first | refine Rf (fun hF hG => ?_) (fun hF hG => ?_) | assumption | (show Ext _ _; exact Ext.go) | (simp only [AHeap.next_alloc, AHeap.next_set, AHeap.next_kill, AHeap.next_res] at hle hsame) | simp (disch := first | exact D.go | fail) [setR, List.getElem?_cons_zero, List.getElem?_cons_succ, f24.n0, f24.b0, hc.rd0, hc.rd1, hc.rd2, hc.rd3, hc.rd4, *]))
theorem ewhere {w : Int} {p : Pt} {v : AVal} (hb : AHeap) (hv : ErrIs I hb w p v) : Ret ((AM.lim ⟨P, I, genF P Sh.prims⟩) 38 [v] hb) hb (.tuple [if 0 ≤ p.f then ptV p else ptV ⟨0, 0, 0⟩, .bool (dc (0 ≤ p.f))]) := by
  refine f38.lim rfl (n := 2) ?_
  unfold f38.e
  simp only [sAlloc_eq, to_Bnd, to_kA, to_kC, to_kS, Bnd_some]
  have e1 : Ext hb (hb.alloc ⟨[Z 0, Z 0, Z 0], true⟩) := Ext.go
  refine Res.call (h0 := hb) (efirst _ (hv.mono e1)) e1 (fun u g hA hg hlo hle hsame hx => ?_)
  obtain ⟨k, rfl, hk, hc⟩ := hA
  have hld := fun g e => (Cells.sub (d := 1) (ds := [.int .i64 p.f, .int .i64 p.b, .int .i64 p.i]) hc (fun i v hv => by rw [Nat.add_comm]; have := (List.getElem?_eq_some_iff.1 hv).1; simp at this; match i, this with | 0, _ => exact hv | 1, _ => exact hv | 2, _ => exact hv)).rds (n := 3) g e rfl (by omega)
  have hn : hb.next < g.next := by simp only [AHeap.next_alloc] at hle; omega
  have hs := hsame hb.next (by simp)
  (repeat' (first | refine Rf (fun hF hG => ?_) (fun hF hG => ?_) | assumption | (show Ext _ _; exact Ext.go) | (simp only [AHeap.next_alloc, AHeap.next_set, AHeap.next_kill, AHeap.next_res] at hle hsame) | simp (disch := first | exact D.go | fail) [setR, List.getElem?_cons_zero, List.getElem?_cons_succ, f38.n0, f38.b0, hc.rd0, hc.rd1, hc.rd2, hc.rd3, hc.rd4, hs, *]))

/-- Is the refusal just that one? -/
theorem says_nil (v : AVal) (hv : v = .nili) (w : Int) (p : Pt) (hb : AHeap) : Ret ((AM.lim ⟨P, I, genF P Sh.prims⟩) 15 [v, .int .i64 w, ptV p] hb) hb (.bool (dc (w = 0))) := by
  subst hv
  refine f15.lim rfl (n := 3) ?_
  unfold f15.e
  (repeat' (first | refine Rf (fun hF hG => ?_) (fun hF hG => ?_) | assumption | (show Ext _ _; exact Ext.go) | (simp only [AHeap.next_alloc, AHeap.next_set, AHeap.next_kill, AHeap.next_res] at hle hsame) | simp (disch := first | exact D.go | fail) [setR, List.getElem?_cons_zero, List.getElem?_cons_succ, f15.n0, f15.b0, f15.n1, f15.b1, f15.n2, f15.b2, *]))
theorem says_err {w : Int} {p : Pt} {v : AVal} (hb : AHeap) (hv : ErrIs I hb w p v) (w' : Int) (p' : Pt) (hw : w' ≠ 0) (hp : p = p') (hww : w = w') (hq : 0 ≤ p.f ∨ p = noPt) : Ret ((AM.lim ⟨P, I, genF P Sh.prims⟩) 15 [v, .int .i64 w', ptV p'] hb) hb (.bool true) := by
  subst hp hww
  have hv' := hv
  obtain ⟨k, rfl, hk, hc⟩ := hv'
  refine f15.lim rfl (n := 3) ?_
  unfold f15.e
  have e1 : Ext hb (hb.alloc ⟨(ptV p).cells, true⟩) := Ext.go
  have hw0 : ¬ w = 0 := hw
  by_cases hf : 0 ≤ p.f
  · (repeat' (first | refine Rf (fun hF hG => ?_) (fun hF hG => ?_) | assumption | (show Ext _ _; exact Ext.go) | (simp only [AHeap.next_alloc, AHeap.next_set, AHeap.next_kill, AHeap.next_res] at hle hsame) | simp (disch := first | exact D.go | fail) [setR, List.getElem?_cons_zero, List.getElem?_cons_succ, f15.n0, f15.b0, f15.n1, f15.b1, f15.n2, f15.b2, hw0, hf, *] | (refine Ret.thn (h0 := hb) (ewhere _ (hv.mono Ext.go)) ?_ (fun g hg hlo hle hsame hx => ?_)) | (refine Ret.thn (h0 := hb) (ewhy _ (hv.mono Ext.go)) ?_ (fun g hg hlo hle hsame hx => ?_))))
  · obtain rfl : p = noPt := by rcases hq with h | h; exact absurd h hf; exact h
    have hn : (noPt.f) = -1 := rfl
    (repeat' (first | refine Rf (fun hF hG => ?_) (fun hF hG => ?_) | assumption | (show Ext _ _; exact Ext.go) | (simp only [AHeap.next_alloc, AHeap.next_set, AHeap.next_kill, AHeap.next_res] at hle hsame) | simp (disch := first | exact D.go | fail) [setR, List.getElem?_cons_zero, List.getElem?_cons_succ, f15.n0, f15.b0, f15.n1, f15.b1, f15.n2, f15.b2, hw0, hn, *] | (refine Ret.thn (h0 := hb) (ewhere _ (hv.mono Ext.go)) ?_ (fun g hg hlo hle hsame hx => ?_)) | (refine Ret.thn (h0 := hb) (ewhy _ (hv.mono Ext.go)) ?_ (fun g hg hlo hle hsame hx => ?_))))

/-! bounds -/
def ptsF (f : Fu) : Int := sumL (fun b : Bk => (b.code.length : Int) + 1) f.blocks
def alsB (b : Bk) : Int := sumL (fun i : Ins => if i.op = 5 then 1 else 0) b.code
def alsF (f : Fu) : Int := sumL alsB f.blocks
def bodyB (f : Fu) : Bool := dc ((f.regs.length : Int) ≤ 16) && dc ((f.blocks.length : Int) ≤ 12) && !dc (f.blocks = []) && dc (AllL (fun b : Bk => (b.code.length : Int) ≤ 30 ∧ AllL (fun i : Ins => (i.args.length : Int) ≤ 4) b.code) f.blocks)
theorem tbody {cs : List AVal} {f : Fu} (hf : FuC I h0 cs f) (hb : AHeap) (eb : Ext h0 hb) : Ret ((AM.lim ⟨P, I, genF P Sh.prims⟩) 40 [.agg cs] hb) hb (.tuple [.bool (bodyB f), .int .i64 (IntKind.i64.wrap (ptsF f)), .int .i64 (IntKind.i64.wrap (alsF f))]) := by
  obtain ⟨vr, vb, rfl, r0, sr, sb⟩ := hf
  have lr := sr.lt; have lb := sb.lt
  obtain ⟨N, hN⟩ := Evt.loop' f.blocks (F := fun i n => ∀ (ok : Bool) (a c : Int) h, Ext hb h → Res ((f40.J I (AM.lim ⟨P, I, genF P Sh.prims⟩) (n)).1.2.1 (.bool ok) (.int .i64 (IntKind.i64.wrap a)) (.int .i64 (IntKind.i64.wrap c)) vb (.int .i64 f.blocks.length) (.int .i64 i) h) fun u g =>
      u = .tuple [.bool (ok && dc (AllL (fun b : Bk => (b.code.length : Int) ≤ 30 ∧ AllL (fun i : Ins => (i.args.length : Int) ≤ 4) b.code) (f.blocks.drop i))), .int .i64 (IntKind.i64.wrap (a + sumL (fun b : Bk => (b.code.length : Int) + 1) (f.blocks.drop i))), .int .i64 (IntKind.i64.wrap (c + sumL alsB (f.blocks.drop i)))] ∧ Ext hb g)
    (Evt.all 5 fun n ok a c h e => by
      rw [f40.n1]; unfold f40.b1
      (repeat' (first | refine Rf (fun hF hG => ?_) (fun hF hG => ?_) | assumption | (show Ext _ _; exact Ext.go) | (simp only [AHeap.next_alloc, AHeap.next_set, AHeap.next_kill, AHeap.next_res] at hle hsame) | simp (disch := first | exact D.go | fail) [setR, List.getElem?_cons_zero, List.getElem?_cons_succ, f40.n0, f40.b0, f40.n2, f40.b2, f40.n3, f40.b3, f40.n4, f40.b4, f40.n5, f40.b5, f40.n6, f40.b6, sumL, *])))
    (fun i x hx ih => by
      obtain ⟨l1, o1, hi, ⟨_, ⟨w, rfl, sw, q1, q2, q3, q4⟩, ha⟩⟩ := sb.at hx
      have hld := fun g e => ha.rds (n := 5) g e rfl (by omega)
      have lw := sw.lt
      have hlt := lt_of_get hx; have hw := wrap_in (n := (i : Int) + 1) ⟨by omega, by omega⟩
      have inner := Evt.loop x.code (F := fun j n => ∀ (ok : Bool) (a c : Int) h, Ext hb h → Res ((f40.J I (AM.lim ⟨P, I, genF P Sh.prims⟩) (n)).2.1.2 (.bool ok) (.int .i64 (IntKind.i64.wrap a)) (.int .i64 (IntKind.i64.wrap c)) vb (.int .i64 f.blocks.length) (.int .i64 i) w (.int .i64 x.code.length) (.int .i64 j) h) fun u g =>
          u = .tuple [.bool (ok && dc (AllL (fun i : Ins => (i.args.length : Int) ≤ 4) (x.code.drop j)) && dc (AllL (fun b : Bk => (b.code.length : Int) ≤ 30 ∧ AllL (fun i : Ins => (i.args.length : Int) ≤ 4) b.code) (f.blocks.drop (i + 1)))), .int .i64 (IntKind.i64.wrap (a + sumL (fun b : Bk => (b.code.length : Int) + 1) (f.blocks.drop (i + 1)))), .int .i64 (IntKind.i64.wrap (c + sumL (fun i : Ins => if i.op = 5 then 1 else 0) (x.code.drop j) + sumL alsB (f.blocks.drop (i + 1))))] ∧ Ext hb g) 5
        (Evt.step 5 ih fun n ih ok a c h e => by
          simp only [Int.natCast_add, Int.natCast_one] at ih
          rw [f40.n4]; unfold f40.b4
          (repeat' (first | refine Rf (fun hF hG => ?_) (fun hF hG => ?_) | assumption | (show Ext _ _; exact Ext.go) | (simp only [AHeap.next_alloc, AHeap.next_set, AHeap.next_kill, AHeap.next_res] at hle hsame) | simp (disch := first | exact D.go | fail) [setR, List.getElem?_cons_zero, List.getElem?_cons_succ, f40.n0, f40.b0, f40.n2, f40.b2, f40.n3, f40.b3, f40.n5, f40.b5, f40.n6, f40.b6, sumL, hw, *] | (refine Res.mono (ih _ (by omega) _ _ _ _ ?_) (fun u g hq => ?_); rotate_left; (obtain ⟨rfl, hq⟩ := hq); rotate_right))))
        (fun j y n hy jh ok a c h e => by
          obtain ⟨l2, o2, hj, ⟨_, ⟨wa, rfl, swa, _⟩, hy'⟩⟩ := sw.at hy
          have hld2 := fun g e => hy'.rds (n := 6) g e rfl (by omega)
          have hlt2 := lt_of_get hy; have hw2 := wrap_in (n := (j : Int) + 1) ⟨by omega, by omega⟩
          simp only [Int.natCast_add, Int.natCast_one] at jh
          rw [drop_of_get hy]
          rw [f40.n4]; unfold f40.b4
          have hlo := e.lo
          (repeat' (first | refine Rf (fun hF hG => ?_) (fun hF hG => ?_) | assumption | (show Ext _ _; exact Ext.go) | (simp only [AHeap.next_alloc, AHeap.next_set, AHeap.next_kill, AHeap.next_res] at hle hsame) | simp (disch := first | exact D.go | fail) [setR, List.getElem?_cons_zero, List.getElem?_cons_succ, f40.n0, f40.b0, f40.n2, f40.b2, f40.n3, f40.b3, f40.n5, f40.b5, f40.n6, f40.b6, sumL, hj, hld2, hw2, hlt2, swa.one, swa.len, wrap_addl, Int.add_assoc, *] | (refine Res.mono (jh _ (by omega) _ _ _ _ ?_) (fun u g hq => ?_); rotate_left; (obtain ⟨rfl, hq⟩ := hq); rotate_right))))
        0 (by omega)
      refine Evt.step 5 inner fun n jh ok a c h e => ?_
      rw [drop_of_get hx]
      rw [f40.n1]; unfold f40.b1
      have hlo := e.lo
      (repeat' (first | refine Rf (fun hF hG => ?_) (fun hF hG => ?_) | assumption | (show Ext _ _; exact Ext.go) | (simp only [AHeap.next_alloc, AHeap.next_set, AHeap.next_kill, AHeap.next_res] at hle hsame) | simp (disch := first | exact D.go | fail) [setR, List.getElem?_cons_zero, List.getElem?_cons_succ, f40.n0, f40.b0, f40.n2, f40.b2, f40.n3, f40.b3, f40.n5, f40.b5, f40.n6, f40.b6, sumL, hi, hld, hw, hlt, sw.one, sw.len, wrap_addl, wrap_addr, Int.add_assoc, alsB, *] | (refine Res.mono (jh _ (by omega) _ _ _ _ ?_) (fun u g hq => ?_); rotate_left; (obtain ⟨rfl, hq⟩ := hq); rotate_right))))
    0 (by omega)
  refine f40.lim rfl (n := N) ?_
  unfold f40.e
  have hN0 := fun ok h e => hN N (Nat.le_refl _) ok 0 0 h e
  simp only [show IntKind.i64.wrap 0 = 0 from rfl, Int.zero_add] at hN0
  (repeat' (first | refine Rf (fun hF hG => ?_) (fun hF hG => ?_) | assumption | (show Ext _ _; exact Ext.go) | (simp only [AHeap.next_alloc, AHeap.next_set, AHeap.next_kill, AHeap.next_res] at hle hsame) | simp (disch := first | exact D.go | fail) [setR, List.getElem?_cons_zero, List.getElem?_cons_succ, sr.len, sb.len, bodyB, ptsF, alsF, List.length_pos_iff, List.length_eq_zero_iff, *] | (refine Res.mono (hN0 _ _ ?_) (fun u g hq => ?_); rotate_left; (obtain ⟨rfl, hq⟩ := hq); rotate_right)))
end
end
end Go.Proofs.YthihegmbdclikaaDoor.Tx

set_option linter.unusedSimpArgs false
set_option linter.unusedVariables false
namespace Go.Proofs.YthihegmbdclikaaDoor.Tx
noncomputable section
open Go.AM Go.Proofs.YthihegmbdclikaaDoor.Sf
section
variable {I : Inp} {h0 : AHeap}
/-- The lengths of what stands in a program. -/
def lensB (q : Pg) : Bool := dc ((q.recs.length : Int) ≤ 6) && dc ((q.sigs.length : Int) ≤ 10) && dc ((q.faces.length : Int) ≤ 4) && dc ((q.impls.length : Int) ≤ 12) && dc ((q.funcs.length : Int) ≤ 12) && !dc ((q.funcs.length : Int) = 0)
def innerB (q : Pg) : Bool := dc (AllL (fun r : List Ty => (r.length : Int) ≤ 4) q.recs) && dc (AllL (fun s : Sg => (s.params.length : Int) ≤ 4) q.sigs) && dc (AllL (fun f : List Int => (f.length : Int) ≤ 3) q.faces) && dc (AllL (fun m : Im => (m.funcs.length : Int) ≤ 3) q.impls) && dc (AllL (fun f => bodyB f = true) q.funcs)
def boundsB (q : Pg) : Bool := lensB q && (innerB q && dc (IntKind.i64.wrap (sumL ptsF q.funcs) ≤ 600 ∧ IntKind.i64.wrap (sumL alsF q.funcs) ≤ 40))

/-- A refusal just if not. -/
def BPost (I : Inp) (b : Bool) (u : AVal) (g : AHeap) : Prop := (b = true → u = .nili) ∧ (b = false → ErrIs I g 2 noPt u)
@[simp] theorem BPost_nil (g : AHeap) : BPost I true .nili g := ⟨fun _ => rfl, fun h => absurd h (by simp)⟩
theorem BPost_err {g : AHeap} {u : AVal} (h : ErrIs I g 2 noPt u) : BPost I false u g := ⟨fun h => absurd h (by simp), fun _ => h⟩
theorem tBounds {l : AM.Loc} {o : Nat} {q : Pg} (hq : PgA I h0 l o q) (hb : AHeap) (eb : Ext h0 hb) : Res ((AM.lim ⟨P, I, genF P Sh.prims⟩) 16 [.ptr l o] hb) fun u g => BPost I (boundsB q) u g ∧ Ext hb g := by
  have hq' := hq
  obtain ⟨_, ⟨vr, vs, vf, vi, vu, rfl, rm, sr, ss, sf, si, su⟩, hc⟩ := hq
  have lr := sr.lt; have ls := ss.lt; have lf := sf.lt; have li := si.lt; have lu := su.lt
  have h5 := Evt.loop q.funcs (F := fun i n => ∀ (ok : Bool) (a c : Int) h, Ext hb h → Res ((f16.J I (AM.lim ⟨P, I, genF P Sh.prims⟩) (n)).2.2.1.2.2 (.bool ok) (.int .i64 (IntKind.i64.wrap a)) (.int .i64 (IntKind.i64.wrap c)) vu (.int .i64 q.funcs.length) (.int .i64 i) h) fun u g =>
      BPost I (ok && (dc (AllL (fun f => bodyB f = true) (q.funcs.drop i)) && dc (IntKind.i64.wrap (a + sumL ptsF (q.funcs.drop i)) ≤ 600 ∧ IntKind.i64.wrap (c + sumL alsF (q.funcs.drop i)) ≤ 40))) u g ∧ Ext hb g) 8
    (Evt.all 8 fun n ok a c h e => by
      rw [f16.n18]; unfold f16.b18
      (repeat' (first | refine Rf (fun hF hG => ?_) (fun hF hG => ?_) | assumption | (show Ext _ _; exact Ext.go) | (simp only [AHeap.next_alloc, AHeap.next_set, AHeap.next_kill, AHeap.next_res] at hle hsame) | simp (disch := first | exact D.go | fail) [setR, List.getElem?_cons_zero, List.getElem?_cons_succ, f16.n0, f16.b0, f16.n1, f16.b1, f16.n3, f16.b3, f16.n4, f16.b4, f16.n5, f16.b5, f16.n7, f16.b7, f16.n8, f16.b8, f16.n9, f16.b9, f16.n11, f16.b11, f16.n12, f16.b12, f16.n13, f16.b13, f16.n15, f16.b15, f16.n16, f16.b16, f16.n17, f16.b17, f16.n19, f16.b19, f16.n20, f16.b20, f16.n21, f16.b21, sumL, Bool.and_assoc, BPost_err, *] | (refine Res.call (h0 := hb) (tbound _) ?_ (fun u g hA hg hlo hle hsame hx => ?_)))))
    (fun i x n hx ih ok a c h e => by
      obtain ⟨l1, o1, hi, ⟨cs, hf, ha⟩⟩ := su.at hx
      have hcs : cs.length = 3 := by obtain ⟨v, u, rfl, _⟩ := hf; rfl
      have hld := fun g e => ha.rds (n := 3) g e hcs (by omega)
      have hlt := lt_of_get hx; have hw := wrap_in (n := (i : Int) + 1) ⟨by omega, by omega⟩; simp only [Int.natCast_add, Int.natCast_one] at ih; rw [drop_of_get hx]; have hlo := e.lo
      rw [f16.n18]; unfold f16.b18
      have hf' := hf
      obtain ⟨v, u, rfl, _, sv, su'⟩ := hf'
      (repeat' (first | refine Rf (fun hF hG => ?_) (fun hF hG => ?_) | assumption | (show Ext _ _; exact Ext.go) | (simp only [AHeap.next_alloc, AHeap.next_set, AHeap.next_kill, AHeap.next_res] at hle hsame) | simp (disch := first | exact D.go | fail) [setR, List.getElem?_cons_zero, List.getElem?_cons_succ, f16.n0, f16.b0, f16.n1, f16.b1, f16.n3, f16.b3, f16.n4, f16.b4, f16.n5, f16.b5, f16.n7, f16.b7, f16.n8, f16.b8, f16.n9, f16.b9, f16.n11, f16.b11, f16.n12, f16.b12, f16.n13, f16.b13, f16.n15, f16.b15, f16.n16, f16.b16, f16.n17, f16.b17, f16.n19, f16.b19, f16.n20, f16.b20, f16.n21, f16.b21, sumL, hi, hld, hw, hlt, sv.one, su'.one, wrap_addl, wrap_addr, Int.add_assoc, Bool.and_assoc, BPost_err, *] | (refine Ret.thn (h0 := hb) (tbody hf _ Ext.go) ?_ (fun g hg hlo hle hsame hx => ?_)) | (refine Res_post (A := BPost I) (ih _ (by omega) _ _ _ _ ?_) ?_))))
    0 (by omega)
  have h5 : Evt fun n => ∀ (ok : Bool) h, Ext hb h → Res ((f16.J I (AM.lim ⟨P, I, genF P Sh.prims⟩) (n)).2.2.1.2.2 (.bool ok) (Z 0) (Z 0) vu (.int .i64 q.funcs.length) (.int .i64 0) h) fun u g => BPost I (ok && (dc (AllL (fun f => bodyB f = true) q.funcs) && dc (IntKind.i64.wrap (sumL ptsF q.funcs) ≤ 600 ∧ IntKind.i64.wrap (sumL alsF q.funcs) ≤ 40))) u g ∧ Ext hb g := by
    obtain ⟨N, hN⟩ := h5
    refine ⟨N, fun n hn ok h e => ?_⟩
    have := hN n hn ok 0 0 h e
    simp only [Int.zero_add, List.drop_zero] at this
    exact this
  have h4 := Evt.loop q.impls (F := fun i n => ∀ (ok : Bool) h, Ext hb h → Res ((f16.J I (AM.lim ⟨P, I, genF P Sh.prims⟩) (n)).2.1.2.2.1 (.ptr l o) (.bool ok) vi (.int .i64 q.impls.length) (.int .i64 i) h) fun u g =>
      BPost I (ok && (dc (AllL (fun m : Im => (m.funcs.length : Int) ≤ 3) (q.impls.drop i)) && (dc (AllL (fun f => bodyB f = true) q.funcs) && dc (IntKind.i64.wrap (sumL ptsF q.funcs) ≤ 600 ∧ IntKind.i64.wrap (sumL alsF q.funcs) ≤ 40)))) u g ∧ Ext hb g) 8
    (Evt.step 8 h5 fun n hn ok h e => by
      rw [f16.n14]; unfold f16.b14
      (repeat' (first | refine Rf (fun hF hG => ?_) (fun hF hG => ?_) | assumption | (show Ext _ _; exact Ext.go) | (simp only [AHeap.next_alloc, AHeap.next_set, AHeap.next_kill, AHeap.next_res] at hle hsame) | simp (disch := first | exact D.go | fail) [setR, List.getElem?_cons_zero, List.getElem?_cons_succ, f16.n0, f16.b0, f16.n1, f16.b1, f16.n3, f16.b3, f16.n4, f16.b4, f16.n5, f16.b5, f16.n7, f16.b7, f16.n8, f16.b8, f16.n9, f16.b9, f16.n11, f16.b11, f16.n12, f16.b12, f16.n13, f16.b13, f16.n15, f16.b15, f16.n16, f16.b16, f16.n17, f16.b17, f16.n19, f16.b19, f16.n20, f16.b20, f16.n21, f16.b21, hc.rd0, hc.rd1, hc.rd2, hc.rd3, hc.rd4, hc.rd5, sr.len, ss.len, sf.len, si.len, su.len, Bool.and_assoc, BPost_err, *] | (refine Res_post (A := BPost I) (hn _ (by omega) _ _ ?_) ?_))))
    (fun i x n hx ih ok h e => by
      obtain ⟨l1, o1, hi, ⟨_, ⟨w, rfl, r0, r1, sw⟩, ha⟩⟩ := si.at hx
      have hld := fun g e => ha.rds (n := 3) g e rfl (by omega)
      have hlt := lt_of_get hx; have hw := wrap_in (n := (i : Int) + 1) ⟨by omega, by omega⟩; simp only [Int.natCast_add, Int.natCast_one] at ih; rw [drop_of_get hx]; have hlo := e.lo
      rw [f16.n14]; unfold f16.b14
      (repeat' (first | refine Rf (fun hF hG => ?_) (fun hF hG => ?_) | assumption | (show Ext _ _; exact Ext.go) | (simp only [AHeap.next_alloc, AHeap.next_set, AHeap.next_kill, AHeap.next_res] at hle hsame) | simp (disch := first | exact D.go | fail) [setR, List.getElem?_cons_zero, List.getElem?_cons_succ, f16.n0, f16.b0, f16.n1, f16.b1, f16.n3, f16.b3, f16.n4, f16.b4, f16.n5, f16.b5, f16.n7, f16.b7, f16.n8, f16.b8, f16.n9, f16.b9, f16.n11, f16.b11, f16.n12, f16.b12, f16.n13, f16.b13, f16.n15, f16.b15, f16.n16, f16.b16, f16.n17, f16.b17, f16.n19, f16.b19, f16.n20, f16.b20, f16.n21, f16.b21, hi, hld, hw, hlt, hc.rd0, hc.rd1, hc.rd2, hc.rd3, hc.rd4, hc.rd5, sr.len, ss.len, sf.len, si.len, su.len, sw.one, sw.cells, sw.len, Bool.and_assoc, BPost_err, *] | (refine Res_post (A := BPost I) (ih _ (by omega) _ _ ?_) ?_))))
    0 (by omega)
  have h3 := Evt.loop q.faces (F := fun i n => ∀ (ok : Bool) h, Ext hb h → Res ((f16.J I (AM.lim ⟨P, I, genF P Sh.prims⟩) (n)).1.2.2.2.2 (.ptr l o) (.bool ok) vf (.int .i64 q.faces.length) (.int .i64 i) h) fun u g =>
      BPost I (ok && (dc (AllL (fun f : List Int => (f.length : Int) ≤ 3) (q.faces.drop i)) && (dc (AllL (fun m : Im => (m.funcs.length : Int) ≤ 3) q.impls) && (dc (AllL (fun f => bodyB f = true) q.funcs) && dc (IntKind.i64.wrap (sumL ptsF q.funcs) ≤ 600 ∧ IntKind.i64.wrap (sumL alsF q.funcs) ≤ 40))))) u g ∧ Ext hb g) 8
    (Evt.step 8 h4 fun n hn ok h e => by
      rw [f16.n10]; unfold f16.b10
      (repeat' (first | refine Rf (fun hF hG => ?_) (fun hF hG => ?_) | assumption | (show Ext _ _; exact Ext.go) | (simp only [AHeap.next_alloc, AHeap.next_set, AHeap.next_kill, AHeap.next_res] at hle hsame) | simp (disch := first | exact D.go | fail) [setR, List.getElem?_cons_zero, List.getElem?_cons_succ, f16.n0, f16.b0, f16.n1, f16.b1, f16.n3, f16.b3, f16.n4, f16.b4, f16.n5, f16.b5, f16.n7, f16.b7, f16.n8, f16.b8, f16.n9, f16.b9, f16.n11, f16.b11, f16.n12, f16.b12, f16.n13, f16.b13, f16.n15, f16.b15, f16.n16, f16.b16, f16.n17, f16.b17, f16.n19, f16.b19, f16.n20, f16.b20, f16.n21, f16.b21, hc.rd0, hc.rd1, hc.rd2, hc.rd3, hc.rd4, hc.rd5, sr.len, ss.len, sf.len, si.len, su.len, Bool.and_assoc, BPost_err, *] | (refine Res_post (A := BPost I) (hn _ (by omega) _ _ ?_) ?_))))
    (fun i x n hx ih ok h e => by
      obtain ⟨l1, o1, hi, ⟨_, ⟨w, rfl, sw⟩, ha⟩⟩ := sf.at hx
      have hld := fun g e => ha.rds (n := 1) g e rfl (by omega)
      have hlt := lt_of_get hx; have hw := wrap_in (n := (i : Int) + 1) ⟨by omega, by omega⟩; simp only [Int.natCast_add, Int.natCast_one] at ih; rw [drop_of_get hx]; have hlo := e.lo
      rw [f16.n10]; unfold f16.b10
      (repeat' (first | refine Rf (fun hF hG => ?_) (fun hF hG => ?_) | assumption | (show Ext _ _; exact Ext.go) | (simp only [AHeap.next_alloc, AHeap.next_set, AHeap.next_kill, AHeap.next_res] at hle hsame) | simp (disch := first | exact D.go | fail) [setR, List.getElem?_cons_zero, List.getElem?_cons_succ, f16.n0, f16.b0, f16.n1, f16.b1, f16.n3, f16.b3, f16.n4, f16.b4, f16.n5, f16.b5, f16.n7, f16.b7, f16.n8, f16.b8, f16.n9, f16.b9, f16.n11, f16.b11, f16.n12, f16.b12, f16.n13, f16.b13, f16.n15, f16.b15, f16.n16, f16.b16, f16.n17, f16.b17, f16.n19, f16.b19, f16.n20, f16.b20, f16.n21, f16.b21, hi, hld, hw, hlt, hc.rd0, hc.rd1, hc.rd2, hc.rd3, hc.rd4, hc.rd5, sr.len, ss.len, sf.len, si.len, su.len, sw.one, sw.cells, sw.len, Bool.and_assoc, BPost_err, *] | (refine Res_post (A := BPost I) (ih _ (by omega) _ _ ?_) ?_))))
    0 (by omega)
  have h2 := Evt.loop q.sigs (F := fun i n => ∀ (ok : Bool) h, Ext hb h → Res ((f16.J I (AM.lim ⟨P, I, genF P Sh.prims⟩) (n)).1.2.1.2.1 (.ptr l o) (.bool ok) vs (.int .i64 q.sigs.length) (.int .i64 i) h) fun u g =>
      BPost I (ok && (dc (AllL (fun s : Sg => (s.params.length : Int) ≤ 4) (q.sigs.drop i)) && (dc (AllL (fun f : List Int => (f.length : Int) ≤ 3) q.faces) && (dc (AllL (fun m : Im => (m.funcs.length : Int) ≤ 3) q.impls) && (dc (AllL (fun f => bodyB f = true) q.funcs) && dc (IntKind.i64.wrap (sumL ptsF q.funcs) ≤ 600 ∧ IntKind.i64.wrap (sumL alsF q.funcs) ≤ 40)))))) u g ∧ Ext hb g) 8
    (Evt.step 8 h3 fun n hn ok h e => by
      rw [f16.n6]; unfold f16.b6
      (repeat' (first | refine Rf (fun hF hG => ?_) (fun hF hG => ?_) | assumption | (show Ext _ _; exact Ext.go) | (simp only [AHeap.next_alloc, AHeap.next_set, AHeap.next_kill, AHeap.next_res] at hle hsame) | simp (disch := first | exact D.go | fail) [setR, List.getElem?_cons_zero, List.getElem?_cons_succ, f16.n0, f16.b0, f16.n1, f16.b1, f16.n3, f16.b3, f16.n4, f16.b4, f16.n5, f16.b5, f16.n7, f16.b7, f16.n8, f16.b8, f16.n9, f16.b9, f16.n11, f16.b11, f16.n12, f16.b12, f16.n13, f16.b13, f16.n15, f16.b15, f16.n16, f16.b16, f16.n17, f16.b17, f16.n19, f16.b19, f16.n20, f16.b20, f16.n21, f16.b21, hc.rd0, hc.rd1, hc.rd2, hc.rd3, hc.rd4, hc.rd5, sr.len, ss.len, sf.len, si.len, su.len, Bool.and_assoc, BPost_err, *] | (refine Res_post (A := BPost I) (hn _ (by omega) _ _ ?_) ?_))))
    (fun i x n hx ih ok h e => by
      obtain ⟨l1, o1, hi, ⟨_, ⟨w, rfl, sw, r0, r1⟩, ha⟩⟩ := ss.at hx
      have hld := fun g e => ha.rds (n := 3) g e rfl (by omega)
      have hlt := lt_of_get hx; have hw := wrap_in (n := (i : Int) + 1) ⟨by omega, by omega⟩; simp only [Int.natCast_add, Int.natCast_one] at ih; rw [drop_of_get hx]; have hlo := e.lo
      rw [f16.n6]; unfold f16.b6
      (repeat' (first | refine Rf (fun hF hG => ?_) (fun hF hG => ?_) | assumption | (show Ext _ _; exact Ext.go) | (simp only [AHeap.next_alloc, AHeap.next_set, AHeap.next_kill, AHeap.next_res] at hle hsame) | simp (disch := first | exact D.go | fail) [setR, List.getElem?_cons_zero, List.getElem?_cons_succ, f16.n0, f16.b0, f16.n1, f16.b1, f16.n3, f16.b3, f16.n4, f16.b4, f16.n5, f16.b5, f16.n7, f16.b7, f16.n8, f16.b8, f16.n9, f16.b9, f16.n11, f16.b11, f16.n12, f16.b12, f16.n13, f16.b13, f16.n15, f16.b15, f16.n16, f16.b16, f16.n17, f16.b17, f16.n19, f16.b19, f16.n20, f16.b20, f16.n21, f16.b21, hi, hld, hw, hlt, hc.rd0, hc.rd1, hc.rd2, hc.rd3, hc.rd4, hc.rd5, sr.len, ss.len, sf.len, si.len, su.len, sw.one, sw.cells, sw.len, Bool.and_assoc, BPost_err, *] | (refine Res_post (A := BPost I) (ih _ (by omega) _ _ ?_) ?_))))
    0 (by omega)
  obtain ⟨N, hN⟩ := Evt.loop q.recs (F := fun i n => ∀ (ok : Bool) h, Ext hb h → Res ((f16.J I (AM.lim ⟨P, I, genF P Sh.prims⟩) (n)).1.1.2.1 (.ptr l o) (.bool ok) vr (.int .i64 q.recs.length) (.int .i64 i) h) fun u g =>
      BPost I (ok && (dc (AllL (fun r : List Ty => (r.length : Int) ≤ 4) (q.recs.drop i)) && (dc (AllL (fun s : Sg => (s.params.length : Int) ≤ 4) q.sigs) && (dc (AllL (fun f : List Int => (f.length : Int) ≤ 3) q.faces) && (dc (AllL (fun m : Im => (m.funcs.length : Int) ≤ 3) q.impls) && (dc (AllL (fun f => bodyB f = true) q.funcs) && dc (IntKind.i64.wrap (sumL ptsF q.funcs) ≤ 600 ∧ IntKind.i64.wrap (sumL alsF q.funcs) ≤ 40))))))) u g ∧ Ext hb g) 8
    (Evt.step 8 h2 fun n hn ok h e => by
      rw [f16.n2]; unfold f16.b2
      (repeat' (first | refine Rf (fun hF hG => ?_) (fun hF hG => ?_) | assumption | (show Ext _ _; exact Ext.go) | (simp only [AHeap.next_alloc, AHeap.next_set, AHeap.next_kill, AHeap.next_res] at hle hsame) | simp (disch := first | exact D.go | fail) [setR, List.getElem?_cons_zero, List.getElem?_cons_succ, f16.n0, f16.b0, f16.n1, f16.b1, f16.n3, f16.b3, f16.n4, f16.b4, f16.n5, f16.b5, f16.n7, f16.b7, f16.n8, f16.b8, f16.n9, f16.b9, f16.n11, f16.b11, f16.n12, f16.b12, f16.n13, f16.b13, f16.n15, f16.b15, f16.n16, f16.b16, f16.n17, f16.b17, f16.n19, f16.b19, f16.n20, f16.b20, f16.n21, f16.b21, hc.rd0, hc.rd1, hc.rd2, hc.rd3, hc.rd4, hc.rd5, sr.len, ss.len, sf.len, si.len, su.len, Bool.and_assoc, BPost_err, *] | (refine Res_post (A := BPost I) (hn _ (by omega) _ _ ?_) ?_))))
    (fun i x n hx ih ok h e => by
      obtain ⟨l1, o1, hi, ⟨_, ⟨w, rfl, sw⟩, ha⟩⟩ := sr.at hx
      have hlt := lt_of_get hx; have hw := wrap_in (n := (i : Int) + 1) ⟨by omega, by omega⟩; simp only [Int.natCast_add, Int.natCast_one] at ih; rw [drop_of_get hx]; have hlo := e.lo
      rw [f16.n2]; unfold f16.b2
      (repeat' (first | refine Rf (fun hF hG => ?_) (fun hF hG => ?_) | assumption | (show Ext _ _; exact Ext.go) | (simp only [AHeap.next_alloc, AHeap.next_set, AHeap.next_kill, AHeap.next_res] at hle hsame) | simp (disch := first | exact D.go | fail) [setR, List.getElem?_cons_zero, List.getElem?_cons_succ, f16.n0, f16.b0, f16.n1, f16.b1, f16.n3, f16.b3, f16.n4, f16.b4, f16.n5, f16.b5, f16.n7, f16.b7, f16.n8, f16.b8, f16.n9, f16.b9, f16.n11, f16.b11, f16.n12, f16.b12, f16.n13, f16.b13, f16.n15, f16.b15, f16.n16, f16.b16, f16.n17, f16.b17, f16.n19, f16.b19, f16.n20, f16.b20, f16.n21, f16.b21, hi, ha.rd0, hw, hlt, hc.rd0, hc.rd1, hc.rd2, hc.rd3, hc.rd4, hc.rd5, sr.len, ss.len, sf.len, si.len, su.len, sw.one, sw.cells, sw.len, Bool.and_assoc, BPost_err, *] | (refine Res_post (A := BPost I) (ih _ (by omega) _ _ ?_) ?_))))
    0 (by omega)
  refine f16.lim rfl (n := N + 1) ?_
  unfold f16.e
  (repeat' (first | refine Rf (fun hF hG => ?_) (fun hF hG => ?_) | assumption | (show Ext _ _; exact Ext.go) | (simp only [AHeap.next_alloc, AHeap.next_set, AHeap.next_kill, AHeap.next_res] at hle hsame) | simp (disch := first | exact D.go | fail) [setR, List.getElem?_cons_zero, List.getElem?_cons_succ, f16.n0, f16.b0, f16.n1, f16.b1, f16.n3, f16.b3, f16.n4, f16.b4, f16.n5, f16.b5, f16.n7, f16.b7, f16.n8, f16.b8, f16.n9, f16.b9, f16.n11, f16.b11, f16.n12, f16.b12, f16.n13, f16.b13, f16.n15, f16.b15, f16.n16, f16.b16, f16.n17, f16.b17, f16.n19, f16.b19, f16.n20, f16.b20, f16.n21, f16.b21, hc.rd0, hc.rd1, hc.rd2, hc.rd3, hc.rd4, hc.rd5, sr.len, ss.len, sf.len, si.len, su.len, boundsB, lensB, innerB, Bool.and_assoc, BPost_err, *] | (refine Res.call (h0 := hb) (tbound _) ?_ (fun u g hA hg hlo hle hsame hx => ?_)) | (refine Res_post (A := BPost I) (hN _ (by omega) _ _ ?_) ?_)))
theorem tBounds_nil (hb : AHeap) : Res ((AM.lim ⟨P, I, genF P Sh.prims⟩) 16 [.nilp] hb) fun u g => BPost I false u g ∧ Ext hb g := by
  refine f16.lim rfl (n := 1) ?_
  unfold f16.e
  (repeat' (first | refine Rf (fun hF hG => ?_) (fun hF hG => ?_) | assumption | (show Ext _ _; exact Ext.go) | (simp only [AHeap.next_alloc, AHeap.next_set, AHeap.next_kill, AHeap.next_res] at hle hsame) | simp (disch := first | exact D.go | fail) [setR, List.getElem?_cons_zero, List.getElem?_cons_succ, f16.n0, f16.b0, f16.n1, f16.b1, f16.n2, f16.b2, f16.n3, f16.b3, f16.n4, f16.b4, f16.n5, f16.b5, f16.n6, f16.b6, f16.n7, f16.b7, f16.n8, f16.b8, f16.n9, f16.b9, f16.n10, f16.b10, f16.n11, f16.b11, f16.n12, f16.b12, f16.n13, f16.b13, f16.n14, f16.b14, f16.n15, f16.b15, f16.n16, f16.b16, f16.n17, f16.b17, f16.n18, f16.b18, f16.n19, f16.b19, f16.n20, f16.b20, f16.n21, f16.b21, Bool.and_assoc, BPost_err, *] | (refine Res.call (h0 := hb) (tbound _) ?_ (fun u g hA hg hlo hle hsame hx => ?_))))

theorem rBounds {l : AM.Loc} {o : Nat} {q : Pg} (hq : PgA I h0 l o q) (hb : AHeap) (eb : Ext h0 hb) : Ret ((AM.lim ⟨P, I, genF P Sh.prims⟩) 18 [.ptr l o] hb) hb (.bool (boundsB q)) := by
  have hq' := hq
  obtain ⟨_, ⟨vr, vs, vf, vi, vu, rfl, rm, sr, ss, sf, si, su⟩, hc⟩ := hq
  have lr := sr.lt; have ls := ss.lt; have lf := sf.lt; have li := si.lt; have lu := su.lt
  have h5 := Evt.loop' q.funcs (F := fun i n => ∀ (a c : Int) h, Ext hb h → Res ((f18.J I (AM.lim ⟨P, I, genF P Sh.prims⟩) (n)).2.1.1.2.2 (.ptr l o) (.int .i64 (IntKind.i64.wrap a)) (.int .i64 (IntKind.i64.wrap c)) (.int .i64 i) h) fun u g =>
      u = .bool (dc (AllL (fun f => bodyB f = true) (q.funcs.drop i)) && dc (IntKind.i64.wrap (a + sumL ptsF (q.funcs.drop i)) ≤ 600 ∧ IntKind.i64.wrap (c + sumL alsF (q.funcs.drop i)) ≤ 40)) ∧ Ext hb g)
    (Evt.all 8 fun n a c h e => by
      rw [f18.n18]; unfold f18.b18
      (repeat' (first | refine Rf (fun hF hG => ?_) (fun hF hG => ?_) | assumption | (show Ext _ _; exact Ext.go) | (simp only [AHeap.next_alloc, AHeap.next_set, AHeap.next_kill, AHeap.next_res] at hle hsame) | simp (disch := first | exact D.go | fail) [setR, List.getElem?_cons_zero, List.getElem?_cons_succ, f18.n0, f18.b0, f18.n1, f18.b1, f18.n3, f18.b3, f18.n4, f18.b4, f18.n5, f18.b5, f18.n7, f18.b7, f18.n8, f18.b8, f18.n9, f18.b9, f18.n11, f18.b11, f18.n12, f18.b12, f18.n13, f18.b13, f18.n15, f18.b15, f18.n16, f18.b16, f18.n17, f18.b17, f18.n19, f18.b19, f18.n20, f18.b20, f18.n21, f18.b21, f18.n23, f18.b23, f18.n24, f18.b24, f18.n25, f18.b25, f18.n26, f18.b26, f18.n28, f18.b28, f18.n29, f18.b29, f18.n30, f18.b30, sumL, hc.rd0, hc.rd1, hc.rd2, hc.rd3, hc.rd4, hc.rd5, sr.len, ss.len, sf.len, si.len, su.len, *])))
    (fun i x hx ih => by
      obtain ⟨l1, o1, hi, ⟨_, ⟨wr, wb, rfl, r0, swr, swb⟩, ha⟩⟩ := su.at hx
      have hld := fun g e => ha.rds (n := 3) g e rfl (by omega)
      have lwb := swb.lt
      have hlt := lt_of_get hx; have hw := wrap_in (n := (i : Int) + 1) ⟨by omega, by omega⟩
      have blk := Evt.loop' x.blocks (F := fun j n => ∀ (a c : Int) (hf : AHeap) (k : Nat) (h : AHeap), Ext hb hf → Cells I hf (.own k) 0 [.int .i64 x.sig, wr, wb] → Ext hf h → Res ((f18.J I (AM.lim ⟨P, I, genF P Sh.prims⟩) (n)).2.1.2.2.2 (.ptr l o) (.int .i64 (IntKind.i64.wrap a)) (.int .i64 (IntKind.i64.wrap c)) (.int .i64 i) (.ptr (.own k) 0) (.int .i64 j) h) fun u g =>
          u = .bool (dc (AllL (fun b : Bk => (b.code.length : Int) ≤ 30 ∧ AllL (fun i : Ins => (i.args.length : Int) ≤ 4) b.code) (x.blocks.drop j)) && (dc (AllL (fun f => bodyB f = true) (q.funcs.drop (i + 1))) &&
            dc (IntKind.i64.wrap (a + (sumL (fun b : Bk => (b.code.length : Int) + 1) (x.blocks.drop j) + sumL ptsF (q.funcs.drop (i + 1)))) ≤ 600 ∧ IntKind.i64.wrap (c + (sumL alsB (x.blocks.drop j) + sumL alsF (q.funcs.drop (i + 1)))) ≤ 40))) ∧ Ext hb g)
        (Evt.step 8 ih fun n ih a c hf k h ef hcf e' => by
          have e := ef.trans e'
          simp only [Int.natCast_add, Int.natCast_one] at ih
          rw [f18.n22]; unfold f18.b22
          (repeat' (first | refine Rf (fun hF hG => ?_) (fun hF hG => ?_) | assumption | (show Ext _ _; exact Ext.go) | (simp only [AHeap.next_alloc, AHeap.next_set, AHeap.next_kill, AHeap.next_res] at hle hsame) | simp (disch := first | exact D.go | fail) [setR, List.getElem?_cons_zero, List.getElem?_cons_succ, f18.n0, f18.b0, f18.n1, f18.b1, f18.n3, f18.b3, f18.n4, f18.b4, f18.n5, f18.b5, f18.n7, f18.b7, f18.n8, f18.b8, f18.n9, f18.b9, f18.n11, f18.b11, f18.n12, f18.b12, f18.n13, f18.b13, f18.n15, f18.b15, f18.n16, f18.b16, f18.n17, f18.b17, f18.n19, f18.b19, f18.n20, f18.b20, f18.n21, f18.b21, f18.n23, f18.b23, f18.n24, f18.b24, f18.n25, f18.b25, f18.n26, f18.b26, f18.n28, f18.b28, f18.n29, f18.b29, f18.n30, f18.b30, sumL, hcf.rd0, hcf.rd1, hcf.rd2, swb.len, hw, *] | (refine Res.mono (ih _ (by omega) _ _ _ ?_) (fun u g hq => ?_); rotate_left; (obtain ⟨rfl, hq⟩ := hq); rotate_right))))
        (fun j y hy jh => by
          obtain ⟨l2, o2, hj, ⟨_, ⟨wc, rfl, swc, _⟩, hy'⟩⟩ := swb.at hy
          have lwc := swc.lt
          have hlt2 := lt_of_get hy; have hw2 := wrap_in (n := (j : Int) + 1) ⟨by omega, by omega⟩
          have cod := Evt.loop y.code (F := fun m n => ∀ (a c : Int) (hf : AHeap) (k : Nat) (h : AHeap), Ext hb hf → Cells I hf (.own k) 0 [.int .i64 x.sig, wr, wb] → Ext hf h → Res ((f18.J I (AM.lim ⟨P, I, genF P Sh.prims⟩) (n)).2.2.2.1.1 (.ptr l o) (.int .i64 (IntKind.i64.wrap a)) (.int .i64 (IntKind.i64.wrap c)) (.int .i64 i) (.ptr (.own k) 0) (.int .i64 j) (.int .i64 m) h) fun u g =>
              u = .bool (dc (AllL (fun i : Ins => (i.args.length : Int) ≤ 4) (y.code.drop m)) && (dc (AllL (fun b : Bk => (b.code.length : Int) ≤ 30 ∧ AllL (fun i : Ins => (i.args.length : Int) ≤ 4) b.code) (x.blocks.drop (j + 1))) && (dc (AllL (fun f => bodyB f = true) (q.funcs.drop (i + 1))) &&
                dc (IntKind.i64.wrap (a + (sumL (fun _ => (1 : Int)) (y.code.drop m) + (1 + (sumL (fun b : Bk => (b.code.length : Int) + 1) (x.blocks.drop (j + 1)) + sumL ptsF (q.funcs.drop (i + 1)))))) ≤ 600 ∧
                  IntKind.i64.wrap (c + (sumL (fun i : Ins => if i.op = 5 then 1 else 0) (y.code.drop m) + (sumL alsB (x.blocks.drop (j + 1)) + sumL alsF (q.funcs.drop (i + 1))))) ≤ 40)))) ∧ Ext hb g) 8
            (Evt.step 8 jh fun n jh a c hf k h ef hcf e' => by
              have e := ef.trans e'
              simp only [Int.natCast_add, Int.natCast_one] at jh
              rw [f18.n27]; unfold f18.b27
              (repeat' (first | refine Rf (fun hF hG => ?_) (fun hF hG => ?_) | assumption | (show Ext _ _; exact Ext.go) | (simp only [AHeap.next_alloc, AHeap.next_set, AHeap.next_kill, AHeap.next_res] at hle hsame) | simp (disch := first | exact D.go | fail) [setR, List.getElem?_cons_zero, List.getElem?_cons_succ, f18.n0, f18.b0, f18.n1, f18.b1, f18.n3, f18.b3, f18.n4, f18.b4, f18.n5, f18.b5, f18.n7, f18.b7, f18.n8, f18.b8, f18.n9, f18.b9, f18.n11, f18.b11, f18.n12, f18.b12, f18.n13, f18.b13, f18.n15, f18.b15, f18.n16, f18.b16, f18.n17, f18.b17, f18.n19, f18.b19, f18.n20, f18.b20, f18.n21, f18.b21, f18.n23, f18.b23, f18.n24, f18.b24, f18.n25, f18.b25, f18.n26, f18.b26, f18.n28, f18.b28, f18.n29, f18.b29, f18.n30, f18.b30, sumL, hcf.rd0, hcf.rd1, hcf.rd2, swb.len, hw2, hj, hy'.rd0, swc.len, wrap_addl, Int.add_assoc, *] | (refine Res.mono (jh _ (by omega) _ _ hf k _ ef hcf ?_) (fun u g hq => ?_); rotate_left; (obtain ⟨rfl, hq⟩ := hq); rotate_right))))
            (fun m z n hz mh a c hf k h ef hcf e' => by
              obtain ⟨l3, o3, hm, ⟨_, ⟨wa, rfl, swa, _⟩, hz'⟩⟩ := swc.at hz
              have hlt3 := lt_of_get hz; have hw3 := wrap_in (n := (m : Int) + 1) ⟨by omega, by omega⟩
              have e := ef.trans e'
              simp only [Int.natCast_add, Int.natCast_one] at mh
              rw [drop_of_get hz]
              rw [f18.n27]; unfold f18.b27
              have hlo := e.lo
              (repeat' (first | refine Rf (fun hF hG => ?_) (fun hF hG => ?_) | assumption | (show Ext _ _; exact Ext.go) | (simp only [AHeap.next_alloc, AHeap.next_set, AHeap.next_kill, AHeap.next_res] at hle hsame) | simp (disch := first | exact D.go | fail) [setR, List.getElem?_cons_zero, List.getElem?_cons_succ, f18.n0, f18.b0, f18.n1, f18.b1, f18.n3, f18.b3, f18.n4, f18.b4, f18.n5, f18.b5, f18.n7, f18.b7, f18.n8, f18.b8, f18.n9, f18.b9, f18.n11, f18.b11, f18.n12, f18.b12, f18.n13, f18.b13, f18.n15, f18.b15, f18.n16, f18.b16, f18.n17, f18.b17, f18.n19, f18.b19, f18.n20, f18.b20, f18.n21, f18.b21, f18.n23, f18.b23, f18.n24, f18.b24, f18.n25, f18.b25, f18.n26, f18.b26, f18.n28, f18.b28, f18.n29, f18.b29, f18.n30, f18.b30, sumL, hcf.rd0, hcf.rd1, hcf.rd2, hz'.rd0, hz'.rd1, hz'.rd2, hz'.rd3, hz'.rd4, hz'.rd5, swb.len, hw3, hj, hm, hy'.rd0, swc.len, swa.len, hlt3, wrap_addl, Int.add_assoc, *] | (refine Res.mono (mh _ (by omega) _ _ hf k _ ef hcf ?_) (fun u g hq => ?_); rotate_left; (obtain ⟨rfl, hq⟩ := hq); rotate_right))))
            0 (by omega)
          refine Evt.step 8 cod fun n mh a c hf k h ef hcf e' => ?_
          have e := ef.trans e'
          rw [drop_of_get hy]
          rw [f18.n22]; unfold f18.b22
          have hlo := e.lo
          (repeat' (first | refine Rf (fun hF hG => ?_) (fun hF hG => ?_) | assumption | (show Ext _ _; exact Ext.go) | (simp only [AHeap.next_alloc, AHeap.next_set, AHeap.next_kill, AHeap.next_res] at hle hsame) | simp (disch := first | exact D.go | fail) [setR, List.getElem?_cons_zero, List.getElem?_cons_succ, f18.n0, f18.b0, f18.n1, f18.b1, f18.n3, f18.b3, f18.n4, f18.b4, f18.n5, f18.b5, f18.n7, f18.b7, f18.n8, f18.b8, f18.n9, f18.b9, f18.n11, f18.b11, f18.n12, f18.b12, f18.n13, f18.b13, f18.n15, f18.b15, f18.n16, f18.b16, f18.n17, f18.b17, f18.n19, f18.b19, f18.n20, f18.b20, f18.n21, f18.b21, f18.n23, f18.b23, f18.n24, f18.b24, f18.n25, f18.b25, f18.n26, f18.b26, f18.n28, f18.b28, f18.n29, f18.b29, f18.n30, f18.b30, sumL, hcf.rd0, hcf.rd1, hcf.rd2, swb.len, hw2, hj, hy'.rd0, swc.len, hlt2, sumL_one, alsB, Int.add_assoc, Bool.and_assoc, *] | (refine Res.mono (mh _ (by omega) _ _ hf k _ ef hcf ?_) (fun u g hq => ?_); rotate_left; (obtain ⟨rfl, hq⟩ := hq); rotate_right))))
        0 (by omega)
      refine Evt.step 8 blk fun n jh a c h e => ?_
      rw [drop_of_get hx]
      rw [f18.n18]; unfold f18.b18
      have hlo := e.lo
      have hcf : Cells I ((h.alloc ⟨[Z 0, .nils, .nils], true⟩).set h.next ⟨[.int .i64 x.sig, wr, wb], true⟩) (.own h.next) 0 [.int .i64 x.sig, wr, wb] :=
        Cells.own (AHeap.set_at (Nb.o rfl)) (by simp) fun i v hv => by simpa using hv
      (repeat' (first | refine Rf (fun hF hG => ?_) (fun hF hG => ?_) | assumption | (show Ext _ _; exact Ext.go) | (simp only [AHeap.next_alloc, AHeap.next_set, AHeap.next_kill, AHeap.next_res] at hle hsame) | simp (disch := first | exact D.go | fail) [setR, List.getElem?_cons_zero, List.getElem?_cons_succ, f18.n0, f18.b0, f18.n1, f18.b1, f18.n3, f18.b3, f18.n4, f18.b4, f18.n5, f18.b5, f18.n7, f18.b7, f18.n8, f18.b8, f18.n9, f18.b9, f18.n11, f18.b11, f18.n12, f18.b12, f18.n13, f18.b13, f18.n15, f18.b15, f18.n16, f18.b16, f18.n17, f18.b17, f18.n19, f18.b19, f18.n20, f18.b20, f18.n21, f18.b21, f18.n23, f18.b23, f18.n24, f18.b24, f18.n25, f18.b25, f18.n26, f18.b26, f18.n28, f18.b28, f18.n29, f18.b29, f18.n30, f18.b30, sumL, hc.rd0, hc.rd1, hc.rd2, hc.rd3, hc.rd4, hc.rd5, sr.len, ss.len, sf.len, si.len, su.len, hi, hld, hw, hlt, swr.one, swr.len, swb.one, swb.len, bodyB, ptsF, alsF, Int.add_assoc, List.length_pos_iff, List.length_eq_zero_iff, Bool.and_assoc, *] | (refine Res.mono (jh _ (by omega) _ _ _ _ _ Ext.go hcf ?_) (fun u g hq => ?_); rotate_left; (obtain ⟨rfl, hq⟩ := hq); rotate_right))))
    0 (by omega)
  have h5 : Evt fun n => ∀ h, Ext hb h → Res ((f18.J I (AM.lim ⟨P, I, genF P Sh.prims⟩) (n)).2.1.1.2.2 (.ptr l o) (Z 0) (Z 0) (.int .i64 0) h) fun u g => u = .bool (dc (AllL (fun f => bodyB f = true) q.funcs) && dc (IntKind.i64.wrap (sumL ptsF q.funcs) ≤ 600 ∧ IntKind.i64.wrap (sumL alsF q.funcs) ≤ 40)) ∧ Ext hb g := by
    obtain ⟨N, hN⟩ := h5
    refine ⟨N, fun n hn h e => ?_⟩
    have := hN n hn 0 0 h e
    simp only [Int.zero_add, List.drop_zero] at this
    exact this
  have h4 := Evt.loop q.impls (F := fun i n => ∀ h, Ext hb h → Res ((f18.J I (AM.lim ⟨P, I, genF P Sh.prims⟩) (n)).1.2.2.2.2 (.ptr l o) (.int .i64 i) h) fun u g =>
      u = .bool (dc (AllL (fun m : Im => (m.funcs.length : Int) ≤ 3) (q.impls.drop i)) && (dc (AllL (fun f => bodyB f = true) q.funcs) && dc (IntKind.i64.wrap (sumL ptsF q.funcs) ≤ 600 ∧ IntKind.i64.wrap (sumL alsF q.funcs) ≤ 40))) ∧ Ext hb g) 8
    (Evt.step 8 h5 fun n hn h e => by
      rw [f18.n14]; unfold f18.b14
      (repeat' (first | refine Rf (fun hF hG => ?_) (fun hF hG => ?_) | assumption | (show Ext _ _; exact Ext.go) | (simp only [AHeap.next_alloc, AHeap.next_set, AHeap.next_kill, AHeap.next_res] at hle hsame) | simp (disch := first | exact D.go | fail) [setR, List.getElem?_cons_zero, List.getElem?_cons_succ, f18.n0, f18.b0, f18.n1, f18.b1, f18.n3, f18.b3, f18.n4, f18.b4, f18.n5, f18.b5, f18.n7, f18.b7, f18.n8, f18.b8, f18.n9, f18.b9, f18.n11, f18.b11, f18.n12, f18.b12, f18.n13, f18.b13, f18.n15, f18.b15, f18.n16, f18.b16, f18.n17, f18.b17, f18.n19, f18.b19, f18.n20, f18.b20, f18.n21, f18.b21, f18.n23, f18.b23, f18.n24, f18.b24, f18.n25, f18.b25, f18.n26, f18.b26, f18.n28, f18.b28, f18.n29, f18.b29, f18.n30, f18.b30, hc.rd0, hc.rd1, hc.rd2, hc.rd3, hc.rd4, hc.rd5, sr.len, ss.len, sf.len, si.len, su.len, *] | (refine Res.mono (hn _ (by omega) _ ?_) (fun u g hq => ?_); rotate_left; (obtain ⟨rfl, hq⟩ := hq); rotate_right))))
    (fun i x n hx ih h e => by
      obtain ⟨l1, o1, hi, ⟨_, ⟨w, rfl, r0, r1, sw⟩, ha⟩⟩ := si.at hx
      have hlt := lt_of_get hx; have hw := wrap_in (n := (i : Int) + 1) ⟨by omega, by omega⟩; simp only [Int.natCast_add, Int.natCast_one] at ih; rw [drop_of_get hx]; have hlo := e.lo
      rw [f18.n14]; unfold f18.b14
      (repeat' (first | refine Rf (fun hF hG => ?_) (fun hF hG => ?_) | assumption | (show Ext _ _; exact Ext.go) | (simp only [AHeap.next_alloc, AHeap.next_set, AHeap.next_kill, AHeap.next_res] at hle hsame) | simp (disch := first | exact D.go | fail) [setR, List.getElem?_cons_zero, List.getElem?_cons_succ, f18.n0, f18.b0, f18.n1, f18.b1, f18.n3, f18.b3, f18.n4, f18.b4, f18.n5, f18.b5, f18.n7, f18.b7, f18.n8, f18.b8, f18.n9, f18.b9, f18.n11, f18.b11, f18.n12, f18.b12, f18.n13, f18.b13, f18.n15, f18.b15, f18.n16, f18.b16, f18.n17, f18.b17, f18.n19, f18.b19, f18.n20, f18.b20, f18.n21, f18.b21, f18.n23, f18.b23, f18.n24, f18.b24, f18.n25, f18.b25, f18.n26, f18.b26, f18.n28, f18.b28, f18.n29, f18.b29, f18.n30, f18.b30, hi, hw, hlt, hc.rd0, hc.rd1, hc.rd2, hc.rd3, hc.rd4, hc.rd5, sr.len, ss.len, sf.len, si.len, su.len, ha.rd0, ha.rd1, ha.rd2, sw.one, sw.cells, sw.len, *] | (refine Res.mono (ih _ (by omega) _ ?_) (fun u g hq => ?_); rotate_left; (obtain ⟨rfl, hq⟩ := hq); rotate_right))))
    0 (by omega)
  have h3 := Evt.loop q.faces (F := fun i n => ∀ h, Ext hb h → Res ((f18.J I (AM.lim ⟨P, I, genF P Sh.prims⟩) (n)).1.2.1.2.2 (.ptr l o) (.int .i64 i) h) fun u g =>
      u = .bool (dc (AllL (fun f : List Int => (f.length : Int) ≤ 3) (q.faces.drop i)) && (dc (AllL (fun m : Im => (m.funcs.length : Int) ≤ 3) q.impls) && (dc (AllL (fun f => bodyB f = true) q.funcs) && dc (IntKind.i64.wrap (sumL ptsF q.funcs) ≤ 600 ∧ IntKind.i64.wrap (sumL alsF q.funcs) ≤ 40)))) ∧ Ext hb g) 8
    (Evt.step 8 h4 fun n hn h e => by
      rw [f18.n10]; unfold f18.b10
      (repeat' (first | refine Rf (fun hF hG => ?_) (fun hF hG => ?_) | assumption | (show Ext _ _; exact Ext.go) | (simp only [AHeap.next_alloc, AHeap.next_set, AHeap.next_kill, AHeap.next_res] at hle hsame) | simp (disch := first | exact D.go | fail) [setR, List.getElem?_cons_zero, List.getElem?_cons_succ, f18.n0, f18.b0, f18.n1, f18.b1, f18.n3, f18.b3, f18.n4, f18.b4, f18.n5, f18.b5, f18.n7, f18.b7, f18.n8, f18.b8, f18.n9, f18.b9, f18.n11, f18.b11, f18.n12, f18.b12, f18.n13, f18.b13, f18.n15, f18.b15, f18.n16, f18.b16, f18.n17, f18.b17, f18.n19, f18.b19, f18.n20, f18.b20, f18.n21, f18.b21, f18.n23, f18.b23, f18.n24, f18.b24, f18.n25, f18.b25, f18.n26, f18.b26, f18.n28, f18.b28, f18.n29, f18.b29, f18.n30, f18.b30, hc.rd0, hc.rd1, hc.rd2, hc.rd3, hc.rd4, hc.rd5, sr.len, ss.len, sf.len, si.len, su.len, *] | (refine Res.mono (hn _ (by omega) _ ?_) (fun u g hq => ?_); rotate_left; (obtain ⟨rfl, hq⟩ := hq); rotate_right))))
    (fun i x n hx ih h e => by
      obtain ⟨l1, o1, hi, ⟨_, ⟨w, rfl, sw⟩, ha⟩⟩ := sf.at hx
      have hlt := lt_of_get hx; have hw := wrap_in (n := (i : Int) + 1) ⟨by omega, by omega⟩; simp only [Int.natCast_add, Int.natCast_one] at ih; rw [drop_of_get hx]; have hlo := e.lo
      rw [f18.n10]; unfold f18.b10
      (repeat' (first | refine Rf (fun hF hG => ?_) (fun hF hG => ?_) | assumption | (show Ext _ _; exact Ext.go) | (simp only [AHeap.next_alloc, AHeap.next_set, AHeap.next_kill, AHeap.next_res] at hle hsame) | simp (disch := first | exact D.go | fail) [setR, List.getElem?_cons_zero, List.getElem?_cons_succ, f18.n0, f18.b0, f18.n1, f18.b1, f18.n3, f18.b3, f18.n4, f18.b4, f18.n5, f18.b5, f18.n7, f18.b7, f18.n8, f18.b8, f18.n9, f18.b9, f18.n11, f18.b11, f18.n12, f18.b12, f18.n13, f18.b13, f18.n15, f18.b15, f18.n16, f18.b16, f18.n17, f18.b17, f18.n19, f18.b19, f18.n20, f18.b20, f18.n21, f18.b21, f18.n23, f18.b23, f18.n24, f18.b24, f18.n25, f18.b25, f18.n26, f18.b26, f18.n28, f18.b28, f18.n29, f18.b29, f18.n30, f18.b30, hi, hw, hlt, hc.rd0, hc.rd1, hc.rd2, hc.rd3, hc.rd4, hc.rd5, sr.len, ss.len, sf.len, si.len, su.len, ha.rd0, sw.one, sw.cells, sw.len, *] | (refine Res.mono (ih _ (by omega) _ ?_) (fun u g hq => ?_); rotate_left; (obtain ⟨rfl, hq⟩ := hq); rotate_right))))
    0 (by omega)
  have h2 := Evt.loop q.sigs (F := fun i n => ∀ h, Ext hb h → Res ((f18.J I (AM.lim ⟨P, I, genF P Sh.prims⟩) (n)).1.1.2.2.2 (.ptr l o) (.int .i64 i) h) fun u g =>
      u = .bool (dc (AllL (fun s : Sg => (s.params.length : Int) ≤ 4) (q.sigs.drop i)) && (dc (AllL (fun f : List Int => (f.length : Int) ≤ 3) q.faces) && (dc (AllL (fun m : Im => (m.funcs.length : Int) ≤ 3) q.impls) && (dc (AllL (fun f => bodyB f = true) q.funcs) && dc (IntKind.i64.wrap (sumL ptsF q.funcs) ≤ 600 ∧ IntKind.i64.wrap (sumL alsF q.funcs) ≤ 40))))) ∧ Ext hb g) 8
    (Evt.step 8 h3 fun n hn h e => by
      rw [f18.n6]; unfold f18.b6
      (repeat' (first | refine Rf (fun hF hG => ?_) (fun hF hG => ?_) | assumption | (show Ext _ _; exact Ext.go) | (simp only [AHeap.next_alloc, AHeap.next_set, AHeap.next_kill, AHeap.next_res] at hle hsame) | simp (disch := first | exact D.go | fail) [setR, List.getElem?_cons_zero, List.getElem?_cons_succ, f18.n0, f18.b0, f18.n1, f18.b1, f18.n3, f18.b3, f18.n4, f18.b4, f18.n5, f18.b5, f18.n7, f18.b7, f18.n8, f18.b8, f18.n9, f18.b9, f18.n11, f18.b11, f18.n12, f18.b12, f18.n13, f18.b13, f18.n15, f18.b15, f18.n16, f18.b16, f18.n17, f18.b17, f18.n19, f18.b19, f18.n20, f18.b20, f18.n21, f18.b21, f18.n23, f18.b23, f18.n24, f18.b24, f18.n25, f18.b25, f18.n26, f18.b26, f18.n28, f18.b28, f18.n29, f18.b29, f18.n30, f18.b30, hc.rd0, hc.rd1, hc.rd2, hc.rd3, hc.rd4, hc.rd5, sr.len, ss.len, sf.len, si.len, su.len, *] | (refine Res.mono (hn _ (by omega) _ ?_) (fun u g hq => ?_); rotate_left; (obtain ⟨rfl, hq⟩ := hq); rotate_right))))
    (fun i x n hx ih h e => by
      obtain ⟨l1, o1, hi, ⟨_, ⟨w, rfl, sw, r0, r1⟩, ha⟩⟩ := ss.at hx
      have hlt := lt_of_get hx; have hw := wrap_in (n := (i : Int) + 1) ⟨by omega, by omega⟩; simp only [Int.natCast_add, Int.natCast_one] at ih; rw [drop_of_get hx]; have hlo := e.lo
      rw [f18.n6]; unfold f18.b6
      (repeat' (first | refine Rf (fun hF hG => ?_) (fun hF hG => ?_) | assumption | (show Ext _ _; exact Ext.go) | (simp only [AHeap.next_alloc, AHeap.next_set, AHeap.next_kill, AHeap.next_res] at hle hsame) | simp (disch := first | exact D.go | fail) [setR, List.getElem?_cons_zero, List.getElem?_cons_succ, f18.n0, f18.b0, f18.n1, f18.b1, f18.n3, f18.b3, f18.n4, f18.b4, f18.n5, f18.b5, f18.n7, f18.b7, f18.n8, f18.b8, f18.n9, f18.b9, f18.n11, f18.b11, f18.n12, f18.b12, f18.n13, f18.b13, f18.n15, f18.b15, f18.n16, f18.b16, f18.n17, f18.b17, f18.n19, f18.b19, f18.n20, f18.b20, f18.n21, f18.b21, f18.n23, f18.b23, f18.n24, f18.b24, f18.n25, f18.b25, f18.n26, f18.b26, f18.n28, f18.b28, f18.n29, f18.b29, f18.n30, f18.b30, hi, hw, hlt, hc.rd0, hc.rd1, hc.rd2, hc.rd3, hc.rd4, hc.rd5, sr.len, ss.len, sf.len, si.len, su.len, ha.rd0, sw.one, sw.cells, sw.len, *] | (refine Res.mono (ih _ (by omega) _ ?_) (fun u g hq => ?_); rotate_left; (obtain ⟨rfl, hq⟩ := hq); rotate_right))))
    0 (by omega)
  have h1 := Evt.loop q.recs (F := fun i n => ∀ h, Ext hb h → Res ((f18.J I (AM.lim ⟨P, I, genF P Sh.prims⟩) (n)).1.1.1.2.2 (.ptr l o) (.int .i64 i) h) fun u g =>
      u = .bool (dc (AllL (fun r : List Ty => (r.length : Int) ≤ 4) (q.recs.drop i)) && (dc (AllL (fun s : Sg => (s.params.length : Int) ≤ 4) q.sigs) && (dc (AllL (fun f : List Int => (f.length : Int) ≤ 3) q.faces) && (dc (AllL (fun m : Im => (m.funcs.length : Int) ≤ 3) q.impls) && (dc (AllL (fun f => bodyB f = true) q.funcs) && dc (IntKind.i64.wrap (sumL ptsF q.funcs) ≤ 600 ∧ IntKind.i64.wrap (sumL alsF q.funcs) ≤ 40)))))) ∧ Ext hb g) 8
    (Evt.step 8 h2 fun n hn h e => by
      rw [f18.n2]; unfold f18.b2
      (repeat' (first | refine Rf (fun hF hG => ?_) (fun hF hG => ?_) | assumption | (show Ext _ _; exact Ext.go) | (simp only [AHeap.next_alloc, AHeap.next_set, AHeap.next_kill, AHeap.next_res] at hle hsame) | simp (disch := first | exact D.go | fail) [setR, List.getElem?_cons_zero, List.getElem?_cons_succ, f18.n0, f18.b0, f18.n1, f18.b1, f18.n3, f18.b3, f18.n4, f18.b4, f18.n5, f18.b5, f18.n7, f18.b7, f18.n8, f18.b8, f18.n9, f18.b9, f18.n11, f18.b11, f18.n12, f18.b12, f18.n13, f18.b13, f18.n15, f18.b15, f18.n16, f18.b16, f18.n17, f18.b17, f18.n19, f18.b19, f18.n20, f18.b20, f18.n21, f18.b21, f18.n23, f18.b23, f18.n24, f18.b24, f18.n25, f18.b25, f18.n26, f18.b26, f18.n28, f18.b28, f18.n29, f18.b29, f18.n30, f18.b30, hc.rd0, hc.rd1, hc.rd2, hc.rd3, hc.rd4, hc.rd5, sr.len, ss.len, sf.len, si.len, su.len, *] | (refine Res.mono (hn _ (by omega) _ ?_) (fun u g hq => ?_); rotate_left; (obtain ⟨rfl, hq⟩ := hq); rotate_right))))
    (fun i x n hx ih h e => by
      obtain ⟨l1, o1, hi, ⟨_, ⟨w, rfl, sw⟩, ha⟩⟩ := sr.at hx
      have hlt := lt_of_get hx; have hw := wrap_in (n := (i : Int) + 1) ⟨by omega, by omega⟩; simp only [Int.natCast_add, Int.natCast_one] at ih; rw [drop_of_get hx]; have hlo := e.lo
      rw [f18.n2]; unfold f18.b2
      (repeat' (first | refine Rf (fun hF hG => ?_) (fun hF hG => ?_) | assumption | (show Ext _ _; exact Ext.go) | (simp only [AHeap.next_alloc, AHeap.next_set, AHeap.next_kill, AHeap.next_res] at hle hsame) | simp (disch := first | exact D.go | fail) [setR, List.getElem?_cons_zero, List.getElem?_cons_succ, f18.n0, f18.b0, f18.n1, f18.b1, f18.n3, f18.b3, f18.n4, f18.b4, f18.n5, f18.b5, f18.n7, f18.b7, f18.n8, f18.b8, f18.n9, f18.b9, f18.n11, f18.b11, f18.n12, f18.b12, f18.n13, f18.b13, f18.n15, f18.b15, f18.n16, f18.b16, f18.n17, f18.b17, f18.n19, f18.b19, f18.n20, f18.b20, f18.n21, f18.b21, f18.n23, f18.b23, f18.n24, f18.b24, f18.n25, f18.b25, f18.n26, f18.b26, f18.n28, f18.b28, f18.n29, f18.b29, f18.n30, f18.b30, hi, hw, hlt, hc.rd0, hc.rd1, hc.rd2, hc.rd3, hc.rd4, hc.rd5, sr.len, ss.len, sf.len, si.len, su.len, ha.rd0, sw.one, sw.cells, sw.len, *] | (refine Res.mono (ih _ (by omega) _ ?_) (fun u g hq => ?_); rotate_left; (obtain ⟨rfl, hq⟩ := hq); rotate_right))))
    0 (by omega)
  obtain ⟨N, hN⟩ := h1
  refine f18.lim rfl (n := N + 1) ?_
  unfold f18.e
  (repeat' (first | refine Rf (fun hF hG => ?_) (fun hF hG => ?_) | assumption | (show Ext _ _; exact Ext.go) | (simp only [AHeap.next_alloc, AHeap.next_set, AHeap.next_kill, AHeap.next_res] at hle hsame) | simp (disch := first | exact D.go | fail) [setR, List.getElem?_cons_zero, List.getElem?_cons_succ, f18.n0, f18.b0, f18.n1, f18.b1, f18.n3, f18.b3, f18.n4, f18.b4, f18.n5, f18.b5, f18.n7, f18.b7, f18.n8, f18.b8, f18.n9, f18.b9, f18.n11, f18.b11, f18.n12, f18.b12, f18.n13, f18.b13, f18.n15, f18.b15, f18.n16, f18.b16, f18.n17, f18.b17, f18.n19, f18.b19, f18.n20, f18.b20, f18.n21, f18.b21, f18.n23, f18.b23, f18.n24, f18.b24, f18.n25, f18.b25, f18.n26, f18.b26, f18.n28, f18.b28, f18.n29, f18.b29, f18.n30, f18.b30, hc.rd0, hc.rd1, hc.rd2, hc.rd3, hc.rd4, hc.rd5, sr.len, ss.len, sf.len, si.len, su.len, boundsB, lensB, innerB, Bool.and_assoc, *] | (refine Res.mono (hN _ (by omega) _ ?_) (fun u g hq => ?_); rotate_left; (obtain ⟨rfl, hq⟩ := hq); rotate_right)))
theorem rBounds_nil (hb : AHeap) : Ret ((AM.lim ⟨P, I, genF P Sh.prims⟩) 18 [.nilp] hb) hb (.bool false) := by
  refine f18.lim rfl (n := 1) ?_
  unfold f18.e
  (repeat' (first | refine Rf (fun hF hG => ?_) (fun hF hG => ?_) | assumption | (show Ext _ _; exact Ext.go) | (simp only [AHeap.next_alloc, AHeap.next_set, AHeap.next_kill, AHeap.next_res] at hle hsame) | simp (disch := first | exact D.go | fail) [setR, List.getElem?_cons_zero, List.getElem?_cons_succ, f18.n0, f18.b0, f18.n1, f18.b1, f18.n2, f18.b2, f18.n3, f18.b3, f18.n4, f18.b4, f18.n5, f18.b5, f18.n6, f18.b6, f18.n7, f18.b7, f18.n8, f18.b8, f18.n9, f18.b9, f18.n10, f18.b10, f18.n11, f18.b11, f18.n12, f18.b12, f18.n13, f18.b13, f18.n14, f18.b14, f18.n15, f18.b15, f18.n16, f18.b16, f18.n17, f18.b17, f18.n18, f18.b18, f18.n19, f18.b19, f18.n20, f18.b20, f18.n21, f18.b21, f18.n22, f18.b22, f18.n23, f18.b23, f18.n24, f18.b24, f18.n25, f18.b25, f18.n26, f18.b26, f18.n27, f18.b27, f18.n28, f18.b28, f18.n29, f18.b29, f18.n30, f18.b30, *]))
end
end
end Go.Proofs.YthihegmbdclikaaDoor.Tx

set_option linter.unusedSimpArgs false
set_option linter.unusedVariables false
namespace Go.Proofs.YthihegmbdclikaaDoor.Tx
noncomputable section
open Go.AM Go.Proofs.YthihegmbdclikaaDoor.Sf
section
variable {I : Inp} {h0 : AHeap}
/-! ends of blocks -/
def endB (f : Fu) (b : Bk) : Bool :=
  if b.fin = 1 then dc (b.reg = 0) && (dc (inB b.to f.blocks.length) && dc (b.els = 0)) else if b.fin = 2 then dc (inB b.reg f.regs.length) && (dc (inB b.to f.blocks.length) && dc (inB b.els f.blocks.length))
  else if b.fin = 3 then dc (inB b.reg f.regs.length) && (dc (b.to = 0) && dc (b.els = 0)) else false
theorem tend {cf cb : List AVal} {f : Fu} {b : Bk} (hf : FuC I h0 cf f) (hk : BkC I h0 cb b) (hb : AHeap) (eb : Ext h0 hb) : Ret ((AM.lim ⟨P, I, genF P Sh.prims⟩) 49 [.agg cf, .agg cb] hb) hb (.bool (endB f b)) := by
  obtain ⟨vr, vb, rfl, r0, sr, sb⟩ := hf
  obtain ⟨vc, rfl, sc, _⟩ := hk
  refine f49.lim rfl (n := 2) ?_
  unfold f49.e
  (repeat' (first | refine Rf (fun hF hG => ?_) (fun hF hG => ?_) | assumption | (show Ext _ _; exact Ext.go) | (simp only [AHeap.next_alloc, AHeap.next_set, AHeap.next_kill, AHeap.next_res] at hle hsame) | simp (disch := first | exact D.go | fail) [setR, List.getElem?_cons_zero, List.getElem?_cons_succ, f49.n0, f49.b0, tin, sr.len, sb.len, endB, *]))
theorem rending {cf cb : List AVal} {f : Fu} {b : Bk} (hf : FuC I h0 cf f) (hk : BkC I h0 cb b) (hb : AHeap) (eb : Ext h0 hb) : Ret ((AM.lim ⟨P, I, genF P Sh.prims⟩) 43 [.agg cf, .agg cb] hb) hb (.bool (endB f b)) := by
  obtain ⟨vr, vb, rfl, r0, sr, sb⟩ := hf
  obtain ⟨vc, rfl, sc, _⟩ := hk
  refine f43.lim rfl (n := 2) ?_
  unfold f43.e
  (repeat' (first | refine Rf (fun hF hG => ?_) (fun hF hG => ?_) | assumption | (show Ext _ _; exact Ext.go) | (simp only [AHeap.next_alloc, AHeap.next_set, AHeap.next_kill, AHeap.next_res] at hle hsame) | simp (disch := first | exact D.go | fail) [setR, List.getElem?_cons_zero, List.getElem?_cons_succ, f43.n0, f43.b0, rin, sr.len, sb.len, sb.self, endB, *]))
/-! instructions -/
structure Cn where
  dst : Bool
  a : Bool
  b : Bool
  n : Bool
  args : Bool
  ok : Bool
def cn (op : Int) : Cn :=
  if op = 1 then ⟨true, false, false, true, false, true⟩ else if op = 10 then ⟨true, false, false, true, false, true⟩ else if op = 3 then ⟨true, false, false, false, false, true⟩ else if op = 4 then ⟨true, false, false, false, false, true⟩
  else if op = 5 then ⟨true, false, false, false, false, true⟩ else if op = 2 then ⟨true, true, true, false, false, true⟩ else if op = 6 then ⟨true, true, false, false, false, true⟩ else if op = 11 then ⟨true, true, false, false, false, true⟩
  else if op = 7 then ⟨true, true, false, true, false, true⟩ else if op = 8 then ⟨false, true, true, true, false, true⟩ else if op = 9 then ⟨false, true, false, false, false, true⟩ else if op = 15 then ⟨false, true, false, false, false, true⟩
  else if op = 14 then ⟨true, true, false, true, true, true⟩ else if op = 13 then ⟨true, true, false, false, true, true⟩ else if op = 12 then ⟨true, false, false, true, true, true⟩ else ⟨false, false, false, false, false, false⟩
abbrev cnV (c : Cn) : AVal := .tuple [.bool c.dst, .bool c.a, .bool c.b, .bool c.n, .bool c.args, .bool c.ok]
theorem tcounted {cs : List AVal} {i : Ins} (hi : InsC I h0 cs i) (hb : AHeap) : Ret ((AM.lim ⟨P, I, genF P Sh.prims⟩) 59 [.agg cs] hb) hb (cnV (cn i.op)) := by
  obtain ⟨v, rfl, sv, _⟩ := hi
  refine f59.lim rfl (n := 30) ?_
  unfold f59.e
  (repeat' (first | refine Rf (fun hF hG => ?_) (fun hF hG => ?_) | assumption | (show Ext _ _; exact Ext.go) | (simp only [AHeap.next_alloc, AHeap.next_set, AHeap.next_kill, AHeap.next_res] at hle hsame) | simp (disch := first | exact D.go | fail) [setR, List.getElem?_cons_zero, List.getElem?_cons_succ, f59.n0, f59.b0, f59.n1, f59.b1, f59.n2, f59.b2, f59.n3, f59.b3, f59.n4, f59.b4, f59.n5, f59.b5, f59.n6, f59.b6, f59.n7, f59.b7, f59.n8, f59.b8, f59.n9, f59.b9, f59.n10, f59.b10, f59.n11, f59.b11, f59.n12, f59.b12, f59.n13, f59.b13, f59.n14, f59.b14, f59.n15, f59.b15, f59.n16, f59.b16, f59.n17, f59.b17, f59.n18, f59.b18, f59.n19, f59.b19, f59.n20, f59.b20, f59.n21, f59.b21, f59.n22, f59.b22, f59.n23, f59.b23, f59.n24, f59.b24, *]))
  all_goals (first | (simp [cn, *]; done) | (simp [cn, *]; (show Ext _ _; exact Ext.go)))
/-- The last look: what N names. -/
def restB (q : Pg) (f : Fu) (i : Ins) : Bool :=
  if i.op = 10 then dc (inB i.n q.funcs.length) else if i.op = 12 then dc (inB i.n q.funcs.length)
  else if i.op = 7 then (let t := nth f.regs i.a ⟨0, 0⟩; !dc (t.kind = 1) || dc (inB i.n (nth q.recs t.n []).length))
  else if i.op = 8 then (let t := nth f.regs i.a ⟨0, 0⟩; !dc (t.kind = 1) || dc (inB i.n (nth q.recs t.n []).length))
  else if i.op = 14 then (let t := nth f.regs i.a ⟨0, 0⟩; !dc (t.kind = 3) || dc (inB i.n (nth q.faces t.n []).length)) else true
def instrB (q : Pg) (f : Fu) (i : Ins) : Bool :=
  let c := cn i.op
  c.ok && (dc (regP c.dst i.dst f.regs.length) && (dc (regP c.a i.a f.regs.length) && (dc (regP c.b i.b f.regs.length) && ((c.n || dc (i.n = 0)) && ((c.args || dc (i.args = [])) && (dc (AllL (fun x => inB x f.regs.length) i.args) && restB q f i))))))

theorem opCases (op : Int) : op = 1 ∨ op = 2 ∨ op = 3 ∨ op = 4 ∨ op = 5 ∨ op = 6 ∨ op = 7 ∨ op = 8 ∨ op = 9 ∨ op = 10 ∨ op = 11 ∨ op = 12 ∨ op = 13 ∨ op = 14 ∨ op = 15 ∨ (op < 1 ∨ 15 < op) := by omega
theorem cn_other {op : Int} (h : op < 1 ∨ 15 < op) : cn op = ⟨false, false, false, false, false, false⟩ := by simp [cn, (show ¬ op = 1 by omega), (show ¬ op = 2 by omega), (show ¬ op = 3 by omega), (show ¬ op = 4 by omega), (show ¬ op = 5 by omega), (show ¬ op = 6 by omega), (show ¬ op = 7 by omega), (show ¬ op = 8 by omega), (show ¬ op = 9 by omega), (show ¬ op = 10 by omega), (show ¬ op = 11 by omega), (show ¬ op = 12 by omega), (show ¬ op = 13 by omega), (show ¬ op = 14 by omega), (show ¬ op = 15 by omega)]
theorem cn_1 : cn 1 = ⟨true, false, false, true, false, true⟩ := by simp [cn]
theorem cn_2 : cn 2 = ⟨true, true, true, false, false, true⟩ := by simp [cn]
theorem cn_3 : cn 3 = ⟨true, false, false, false, false, true⟩ := by simp [cn]
theorem cn_4 : cn 4 = ⟨true, false, false, false, false, true⟩ := by simp [cn]
theorem cn_5 : cn 5 = ⟨true, false, false, false, false, true⟩ := by simp [cn]
theorem cn_6 : cn 6 = ⟨true, true, false, false, false, true⟩ := by simp [cn]
theorem cn_7 : cn 7 = ⟨true, true, false, true, false, true⟩ := by simp [cn]
theorem cn_8 : cn 8 = ⟨false, true, true, true, false, true⟩ := by simp [cn]
theorem cn_9 : cn 9 = ⟨false, true, false, false, false, true⟩ := by simp [cn]
theorem cn_10 : cn 10 = ⟨true, false, false, true, false, true⟩ := by simp [cn]
theorem cn_11 : cn 11 = ⟨true, true, false, false, false, true⟩ := by simp [cn]
theorem cn_12 : cn 12 = ⟨true, false, false, true, true, true⟩ := by simp [cn]
theorem cn_13 : cn 13 = ⟨true, true, false, false, true, true⟩ := by simp [cn]
theorem cn_14 : cn 14 = ⟨true, true, false, true, true, true⟩ := by simp [cn]
theorem cn_15 : cn 15 = ⟨false, true, false, false, false, true⟩ := by simp [cn]
theorem namedP_1 {q : Pg} {t : Ty} (h : namedP q t) (k : t.kind = 1) : inB t.n q.recs.length := by simpa [namedP, k] using h
theorem namedP_2 {q : Pg} {t : Ty} (h : namedP q t) (k : t.kind = 2) : inB t.n q.sigs.length := by simpa [namedP, k] using h
theorem namedP_3 {q : Pg} {t : Ty} (h : namedP q t) (k : t.kind = 3) : inB t.n q.faces.length := by simpa [namedP, k] using h
set_option maxHeartbeats 4000000 in
theorem tinstr {l : AM.Loc} {o : Nat} {q : Pg} (hq : PgA I h0 l o q) {cf cs : List AVal} {f : Fu} {i : Ins} (hf : FuC I h0 cf f) (hi : InsC I h0 cs i) (hn : AllL (namedP q) f.regs) (hb : AHeap) (eb : Ext h0 hb) :
    Ret ((AM.lim ⟨P, I, genF P Sh.prims⟩) 28 [.ptr l o, .agg cf, .agg cs] hb) hb (.bool (instrB q f i)) := by
  have hq' := hq
  obtain ⟨_, ⟨vr, vs, vf, vi, vu, rfl, rm, sr, ss, sf, si, su⟩, hc⟩ := hq
  obtain ⟨wr, wb, rfl, r0, swr, swb⟩ := hf
  obtain ⟨op, dst, a, b, n, args⟩ := i
  have hi' := hi
  obtain ⟨v, rfl, sv, _⟩ := hi
  have h2 : AllL (namedP q) f.regs := hn
  by_cases hop : op = 7 ∨ op = 8 ∨ op = 14
  · by_cases ha : inB a f.regs.length
    · obtain ⟨l1, o1, hx1, ⟨_, ⟨rfl, _, _⟩, hx2⟩, hmem⟩ := swr.atI ha.1 ha.2 ⟨0, 0⟩
      have hnt := hn _ hmem
      generalize ht : nth f.regs a ⟨0, 0⟩ = t at *
      rw [← or_assoc] at hop
      rcases hop with hop | rfl
      · by_cases k1 : t.kind = 1
        · have h1 := namedP_1 hnt k1
          obtain ⟨l2, o2, hy1, ⟨_, ⟨w, rfl, sw⟩, hy2⟩, _⟩ := sr.atI h1.1 h1.2 []
          rcases hop with rfl | rfl
          all_goals (
            refine f28.lim rfl (n := 5) ?_
            unfold f28.e
            (repeat' (first | refine Rf (fun hF hG => ?_) (fun hF hG => ?_) | assumption | (show Ext _ _; exact Ext.go) | (simp only [AHeap.next_alloc, AHeap.next_set, AHeap.next_kill, AHeap.next_res] at hle hsame) | simp (disch := first | exact D.go | fail) [setR, List.getElem?_cons_zero, List.getElem?_cons_succ, f28.n0, f28.b0, f28.n1, f28.b1, f28.n2, f28.b2, f28.n3, f28.b3, tin, treg, swr.len, sv.len, hc.rd0, hc.rd1, hc.rd2, hc.rd3, hc.rd4, hc.rd5, sr.len, ss.len, sf.len, si.len, su.len, hx1, hx2.rd0, hx2.rd1, ht, ha, hy1, hy2.rd0, sw.len, k1, cn_1, cn_2, cn_3, cn_4, cn_5, cn_6, cn_7, cn_8, cn_9, cn_10, cn_11, cn_12, cn_13, cn_14, cn_15, cn_other, instrB, restB, regP, List.length_pos_iff, *] | (refine Ret.thn (h0 := hb) (tcounted hi' _) ?_ (fun g hg hlo hle hsame hx => ?_)) | (refine Ret.thn (h0 := hb) (tnumbers sv _ _ Ext.go) ?_ (fun g hg hlo hle hsame hx => ?_)))))
        · rcases hop with rfl | rfl
          all_goals (
            refine f28.lim rfl (n := 5) ?_
            unfold f28.e
            (repeat' (first | refine Rf (fun hF hG => ?_) (fun hF hG => ?_) | assumption | (show Ext _ _; exact Ext.go) | (simp only [AHeap.next_alloc, AHeap.next_set, AHeap.next_kill, AHeap.next_res] at hle hsame) | simp (disch := first | exact D.go | fail) [setR, List.getElem?_cons_zero, List.getElem?_cons_succ, f28.n0, f28.b0, f28.n1, f28.b1, f28.n2, f28.b2, f28.n3, f28.b3, tin, treg, swr.len, sv.len, hc.rd0, hc.rd1, hc.rd2, hc.rd3, hc.rd4, hc.rd5, sr.len, ss.len, sf.len, si.len, su.len, hx1, hx2.rd0, hx2.rd1, ht, ha, k1, cn_1, cn_2, cn_3, cn_4, cn_5, cn_6, cn_7, cn_8, cn_9, cn_10, cn_11, cn_12, cn_13, cn_14, cn_15, cn_other, instrB, restB, regP, List.length_pos_iff, *] | (refine Ret.thn (h0 := hb) (tcounted hi' _) ?_ (fun g hg hlo hle hsame hx => ?_)) | (refine Ret.thn (h0 := hb) (tnumbers sv _ _ Ext.go) ?_ (fun g hg hlo hle hsame hx => ?_)))))
      · by_cases k3 : t.kind = 3
        · have h1 := namedP_3 hnt k3
          obtain ⟨l2, o2, hy1, ⟨_, ⟨w, rfl, sw⟩, hy2⟩, _⟩ := sf.atI h1.1 h1.2 []
          refine f28.lim rfl (n := 5) ?_
          unfold f28.e
          (repeat' (first | refine Rf (fun hF hG => ?_) (fun hF hG => ?_) | assumption | (show Ext _ _; exact Ext.go) | (simp only [AHeap.next_alloc, AHeap.next_set, AHeap.next_kill, AHeap.next_res] at hle hsame) | simp (disch := first | exact D.go | fail) [setR, List.getElem?_cons_zero, List.getElem?_cons_succ, f28.n0, f28.b0, f28.n1, f28.b1, f28.n2, f28.b2, f28.n3, f28.b3, tin, treg, swr.len, sv.len, hc.rd0, hc.rd1, hc.rd2, hc.rd3, hc.rd4, hc.rd5, sr.len, ss.len, sf.len, si.len, su.len, hx1, hx2.rd0, hx2.rd1, ht, ha, hy1, hy2.rd0, sw.len, k3, cn_1, cn_2, cn_3, cn_4, cn_5, cn_6, cn_7, cn_8, cn_9, cn_10, cn_11, cn_12, cn_13, cn_14, cn_15, cn_other, instrB, restB, regP, List.length_pos_iff, *] | (refine Ret.thn (h0 := hb) (tcounted hi' _) ?_ (fun g hg hlo hle hsame hx => ?_)) | (refine Ret.thn (h0 := hb) (tnumbers sv _ _ Ext.go) ?_ (fun g hg hlo hle hsame hx => ?_))))
        · refine f28.lim rfl (n := 5) ?_
          unfold f28.e
          (repeat' (first | refine Rf (fun hF hG => ?_) (fun hF hG => ?_) | assumption | (show Ext _ _; exact Ext.go) | (simp only [AHeap.next_alloc, AHeap.next_set, AHeap.next_kill, AHeap.next_res] at hle hsame) | simp (disch := first | exact D.go | fail) [setR, List.getElem?_cons_zero, List.getElem?_cons_succ, f28.n0, f28.b0, f28.n1, f28.b1, f28.n2, f28.b2, f28.n3, f28.b3, tin, treg, swr.len, sv.len, hc.rd0, hc.rd1, hc.rd2, hc.rd3, hc.rd4, hc.rd5, sr.len, ss.len, sf.len, si.len, su.len, hx1, hx2.rd0, hx2.rd1, ht, ha, k3, cn_1, cn_2, cn_3, cn_4, cn_5, cn_6, cn_7, cn_8, cn_9, cn_10, cn_11, cn_12, cn_13, cn_14, cn_15, cn_other, instrB, restB, regP, List.length_pos_iff, *] | (refine Ret.thn (h0 := hb) (tcounted hi' _) ?_ (fun g hg hlo hle hsame hx => ?_)) | (refine Ret.thn (h0 := hb) (tnumbers sv _ _ Ext.go) ?_ (fun g hg hlo hle hsame hx => ?_))))
    · rcases hop with rfl | rfl | rfl
      all_goals (
        refine f28.lim rfl (n := 5) ?_
        unfold f28.e
        (repeat' (first | refine Rf (fun hF hG => ?_) (fun hF hG => ?_) | assumption | (show Ext _ _; exact Ext.go) | (simp only [AHeap.next_alloc, AHeap.next_set, AHeap.next_kill, AHeap.next_res] at hle hsame) | simp (disch := first | exact D.go | fail) [setR, List.getElem?_cons_zero, List.getElem?_cons_succ, f28.n0, f28.b0, f28.n1, f28.b1, f28.n2, f28.b2, f28.n3, f28.b3, tin, treg, swr.len, sv.len, hc.rd0, hc.rd1, hc.rd2, hc.rd3, hc.rd4, hc.rd5, sr.len, ss.len, sf.len, si.len, su.len, ha, cn_1, cn_2, cn_3, cn_4, cn_5, cn_6, cn_7, cn_8, cn_9, cn_10, cn_11, cn_12, cn_13, cn_14, cn_15, cn_other, instrB, restB, regP, List.length_pos_iff, *] | (refine Ret.thn (h0 := hb) (tcounted hi' _) ?_ (fun g hg hlo hle hsame hx => ?_)) | (refine Ret.thn (h0 := hb) (tnumbers sv _ _ Ext.go) ?_ (fun g hg hlo hle hsame hx => ?_)))))
  · rcases opCases op with rfl | rfl | rfl | rfl | rfl | rfl | rfl | rfl | rfl | rfl | rfl | rfl | rfl | rfl | rfl | h16
    all_goals (first
      | (exact absurd (by decide) hop)
      | (
        refine f28.lim rfl (n := 5) ?_
        unfold f28.e
        (repeat' (first | refine Rf (fun hF hG => ?_) (fun hF hG => ?_) | assumption | (show Ext _ _; exact Ext.go) | (simp only [AHeap.next_alloc, AHeap.next_set, AHeap.next_kill, AHeap.next_res] at hle hsame) | simp (disch := first | exact D.go | fail) [setR, List.getElem?_cons_zero, List.getElem?_cons_succ, f28.n0, f28.b0, f28.n1, f28.b1, f28.n2, f28.b2, f28.n3, f28.b3, tin, treg, swr.len, sv.len, hc.rd0, hc.rd1, hc.rd2, hc.rd3, hc.rd4, hc.rd5, sr.len, ss.len, sf.len, si.len, su.len, cn_1, cn_2, cn_3, cn_4, cn_5, cn_6, cn_7, cn_8, cn_9, cn_10, cn_11, cn_12, cn_13, cn_14, cn_15, cn_other, instrB, restB, regP, List.length_pos_iff, *] | (refine Ret.thn (h0 := hb) (tcounted hi' _) ?_ (fun g hg hlo hle hsame hx => ?_)) | (refine Ret.thn (h0 := hb) (tnumbers sv _ _ Ext.go) ?_ (fun g hg hlo hle hsame hx => ?_))))))
end
end
end Go.Proofs.YthihegmbdclikaaDoor.Tx

set_option linter.unusedSimpArgs false
set_option linter.unusedVariables false
namespace Go.Proofs.YthihegmbdclikaaDoor.Tx
noncomputable section
open Go.AM Go.Proofs.YthihegmbdclikaaDoor.Sf
section
variable {I : Inp} {h0 : AHeap}
/-! what an instruction defines and reads -/
def defB (op : Int) : Bool := !dc (op < 1) && (!dc (15 < op) && (!dc (op = 8) && (!dc (op = 9) && !dc (op = 15))))
def dstOf (i : Ins) : Int := if defB i.op = true then i.dst else 0
theorem rDef {cs : List AVal} {i : Ins} (hi : InsC I h0 cs i) (hb : AHeap) : Ret ((AM.lim ⟨P, I, genF P Sh.prims⟩) 12 [.agg cs] hb) hb (.tuple [.int .i64 (dstOf i), .bool (defB i.op)]) := by
  obtain ⟨v, rfl, sv, _⟩ := hi
  refine f12.lim rfl (n := 2) ?_
  unfold f12.e
  (repeat' (first | refine Rf (fun hF hG => ?_) (fun hF hG => ?_) | assumption | (show Ext _ _; exact Ext.go) | (simp only [AHeap.next_alloc, AHeap.next_set, AHeap.next_kill, AHeap.next_res] at hle hsame) | simp (disch := first | exact D.go | fail) [setR, List.getElem?_cons_zero, List.getElem?_cons_succ, f12.n0, f12.b0, dstOf, defB, *]))
def usesL (i : Ins) : List Int :=
  if i.op = 2 then [i.a, i.b] else if i.op = 8 then [i.a, i.b] else if i.op = 6 then [i.a] else if i.op = 7 then [i.a] else if i.op = 9 then [i.a] else if i.op = 11 then [i.a] else if i.op = 15 then [i.a]
  else if i.op = 12 then i.args else if i.op = 13 then i.a :: i.args else if i.op = 14 then i.a :: i.args else []
theorem rUses {cs : List AVal} {i : Ins} (hi : InsC I h0 cs i) (hm : i.args.length ≤ 1000000) (hb : AHeap) (eb : Ext h0 hb) : Res ((AM.lim ⟨P, I, genF P Sh.prims⟩) 63 [.agg cs] hb) fun u g => SlOf 1 (IntA I g) u (usesL i) ∧ Ext hb g := by
  obtain ⟨op, dst, a, b, n, args⟩ := i
  obtain ⟨v, rfl, sv, r1, r2, r3, r4, r5⟩ := hi
  have one : ∀ (h : AHeap), SlOf 1 (IntA I (h.alloc ⟨[.int .i64 a], true⟩)) (.sl (.own h.next) 0 1 (.known 1)) [a] := fun h =>
    ints_new (xs := [a]) (AHeap.alloc_at (Nb.o rfl)) (by simp) (fun m hm => by simp [capHas]; simpa using hm) (by simp) (by simp) (by simpa using r3)
  have two : ∀ (h : AHeap), SlOf 1 (IntA I (h.alloc ⟨[.int .i64 a, .int .i64 b], true⟩)) (.sl (.own h.next) 0 2 (.known 2)) [a, b] := fun h =>
    ints_new (xs := [a, b]) (AHeap.alloc_at (Nb.o rfl)) (by simp) (fun m hm => by simp [capHas]; simpa using hm) (by simp) (by simp) (by simpa using ⟨r3, r4⟩)
  have hn := SlOf.nil (sz := 1) (R := IntA I (hb.alloc ⟨[.int .i64 op, .int .i64 dst, .int .i64 a, .int .i64 b, .int .i64 n, v], true⟩))
  have one' := one (hb.alloc ⟨[.int .i64 op, .int .i64 dst, .int .i64 a, .int .i64 b, .int .i64 n, v], true⟩)
  have two' := two (hb.alloc ⟨[.int .i64 op, .int .i64 dst, .int .i64 a, .int .i64 b, .int .i64 n, v], true⟩)
  simp only [AHeap.next_alloc] at one' two'
  rcases opCases op with rfl | rfl | rfl | rfl | rfl | rfl | rfl | rfl | rfl | rfl | rfl | rfl | rfl | rfl | rfl | h16
  all_goals (
    ((try (have n1 : ¬ op = 1 := by omega)); (try (have n2 : ¬ op = 2 := by omega)); (try (have n3 : ¬ op = 3 := by omega)); (try (have n4 : ¬ op = 4 := by omega)); (try (have n5 : ¬ op = 5 := by omega)); (try (have n6 : ¬ op = 6 := by omega)); (try (have n7 : ¬ op = 7 := by omega)); (try (have n8 : ¬ op = 8 := by omega)); (try (have n9 : ¬ op = 9 := by omega)); (try (have n10 : ¬ op = 10 := by omega)); (try (have n11 : ¬ op = 11 := by omega)); (try (have n12 : ¬ op = 12 := by omega)); (try (have n13 : ¬ op = 13 := by omega)); (try (have n14 : ¬ op = 14 := by omega)); (try (have n15 : ¬ op = 15 := by omega)))
    refine f63.lim rfl (n := 8) ?_
    unfold f63.e
    (repeat' (first | refine Rf (fun hF hG => ?_) (fun hF hG => ?_) | assumption | (show Ext _ _; exact Ext.go) | (simp only [AHeap.next_alloc, AHeap.next_set, AHeap.next_kill, AHeap.next_res] at hle hsame) | simp (disch := first | exact D.go | fail) [setR, List.getElem?_cons_zero, List.getElem?_cons_succ, f63.n0, f63.b0, f63.n1, f63.b1, f63.n2, f63.b2, f63.n3, f63.b3, usesL, *] | (refine Res.call (h0 := hb) (append_nil_ints sv Ext.go hm) ?_ (fun u g hA hg hlo hle hsame hx => ?_)) | (refine Res.call (h0 := hb) (append_one_ints (k := hb.next + 1) (a := a) (AHeap.alloc_at (by exact Nb.o (by simp))) (by simp) r3 sv Ext.go hm) ?_ (fun u g hA hg hlo hle hsame hx => ?_)))))
end
end
end Go.Proofs.YthihegmbdclikaaDoor.Tx

set_option linter.unusedSimpArgs false
set_option linter.unusedVariables false
namespace Go.Proofs.YthihegmbdclikaaDoor.Tx
noncomputable section
open Go.AM Go.Proofs.YthihegmbdclikaaDoor.Sf
section
variable {I : Inp} {h0 : AHeap}
def aB (op : Int) : Bool := dc (op = 2) || ((!dc (op < 6) && !dc (9 < op)) || (dc (op = 11) || !dc (op < 13)))
def tailB (q : Pg) (f : Fu) (i : Ins) : Bool :=
  (aB i.op || dc (i.a = 0)) && ((dc (i.op = 2) || (dc (i.op = 8) || dc (i.b = 0))) && ((dc (i.args = []) || (!dc (i.op < 12) && !dc (14 < i.op))) &&
    (if i.op = 1 then true else if i.op = 7 then restB q f i else if i.op = 8 then restB q f i else if i.op = 10 then restB q f i else if i.op = 12 then restB q f i else if i.op = 14 then restB q f i else dc (i.n = 0))))
theorem rtail {l : AM.Loc} {o : Nat} {q : Pg} (hq : PgA I h0 l o q) {f : Fu} {i : Ins} {wr wb v : AVal} (swr : SlOf 2 (At I h0 TyC) wr f.regs) (sv : SlOf 1 (IntA I h0) v i.args) (hn : AllL (namedP q) f.regs)
    (hu : AllL (fun x => inB x f.regs.length) (usesL i)) (hop1 : 1 ≤ i.op) (hop2 : i.op ≤ 15) {hs hb : AHeap} (es : Ext hs hb) (eb : Ext h0 hb) {k4 k5 : Nat} (hA : Cells I hb (.own k4) 0 [.int .i64 f.sig, wr, wb])
    (hB : Cells I hb (.own k5) 0 [.int .i64 i.op, .int .i64 i.dst, .int .i64 i.a, .int .i64 i.b, .int .i64 i.n, v]) (m : Nat) (h : AHeap) (e : Ext hb h) :
    Res ((f33.J I (AM.lim ⟨P, I, genF P Sh.prims⟩) (m + 8)).1.2.1 (.ptr l o) (.ptr (.own k4) 0) (.ptr (.own k5) 0) h) fun u g => u = .bool (tailB q f i) ∧ Ext hs g := by
  have hlo := e.lo; have hls := es.lo
  obtain ⟨_, ⟨vr, vs, vf, vi, vu, rfl, rm, sr, ss, sf, si, su⟩, hc⟩ := hq
  obtain ⟨op, dst, a, b, n, args⟩ := i
  simp only at hop1 hop2
  by_cases hop : op = 7 ∨ op = 8 ∨ op = 14
  · have ha : inB a f.regs.length := by rcases hop with rfl | rfl | rfl <;> simp [usesL] at hu <;> first | exact hu | exact hu.1
    obtain ⟨l1, o1, hx1, ⟨_, ⟨rfl, _, _⟩, hx2⟩, hmem⟩ := swr.atI ha.1 ha.2 ⟨0, 0⟩
    have hld := fun g e => hx2.rds (n := 2) g e rfl (by omega)
    have hnt := hn _ hmem
    generalize ht : nth f.regs a ⟨0, 0⟩ = t at *
    rw [← or_assoc] at hop
    rcases hop with hop | rfl
    · by_cases k1 : t.kind = 1
      · have h1 := namedP_1 hnt k1
        obtain ⟨l2, o2, hy1, ⟨_, ⟨w, rfl, sw⟩, hy2⟩, _⟩ := sr.atI h1.1 h1.2 []
        rcases hop with rfl | rfl
        all_goals (
          rw [f33.n2]; unfold f33.b2
          (repeat' (first | refine Rf (fun hF hG => ?_) (fun hF hG => ?_) | assumption | (show Ext _ _; exact Ext.go) | (simp only [AHeap.next_alloc, AHeap.next_set, AHeap.next_kill, AHeap.next_res] at hle hsame) | simp (disch := first | exact D.go | fail) [setR, List.getElem?_cons_zero, List.getElem?_cons_succ, f33.n0, f33.b0, f33.n1, f33.b1, f33.n2, f33.b2, f33.n4, f33.b4, f33.n5, f33.b5, f33.n6, f33.b6, f33.n7, f33.b7, f33.n8, f33.b8, f33.n9, f33.b9, rin, hA.rd0, hA.rd1, hA.rd2, hB.rd0, hB.rd1, hB.rd2, hB.rd3, hB.rd4, hB.rd5, swr.len, sv.len, hc.rd0, hc.rd1, hc.rd2, hc.rd3, hc.rd4, hc.rd5, sr.len, ss.len, sf.len, si.len, su.len, hx1, hld, hy1, hy2.rd0, sw.len, k1, ht, tailB, aB, restB, List.length_pos_iff, *])))
      · rcases hop with rfl | rfl
        all_goals (
          rw [f33.n2]; unfold f33.b2
          (repeat' (first | refine Rf (fun hF hG => ?_) (fun hF hG => ?_) | assumption | (show Ext _ _; exact Ext.go) | (simp only [AHeap.next_alloc, AHeap.next_set, AHeap.next_kill, AHeap.next_res] at hle hsame) | simp (disch := first | exact D.go | fail) [setR, List.getElem?_cons_zero, List.getElem?_cons_succ, f33.n0, f33.b0, f33.n1, f33.b1, f33.n2, f33.b2, f33.n4, f33.b4, f33.n5, f33.b5, f33.n6, f33.b6, f33.n7, f33.b7, f33.n8, f33.b8, f33.n9, f33.b9, rin, hA.rd0, hA.rd1, hA.rd2, hB.rd0, hB.rd1, hB.rd2, hB.rd3, hB.rd4, hB.rd5, swr.len, sv.len, hc.rd0, hc.rd1, hc.rd2, hc.rd3, hc.rd4, hc.rd5, sr.len, ss.len, sf.len, si.len, su.len, hx1, hld, k1, ht, tailB, aB, restB, List.length_pos_iff, *])))
    · by_cases k3 : t.kind = 3
      · have h1 := namedP_3 hnt k3
        obtain ⟨l2, o2, hy1, ⟨_, ⟨w, rfl, sw⟩, hy2⟩, _⟩ := sf.atI h1.1 h1.2 []
        rw [f33.n2]; unfold f33.b2
        (repeat' (first | refine Rf (fun hF hG => ?_) (fun hF hG => ?_) | assumption | (show Ext _ _; exact Ext.go) | (simp only [AHeap.next_alloc, AHeap.next_set, AHeap.next_kill, AHeap.next_res] at hle hsame) | simp (disch := first | exact D.go | fail) [setR, List.getElem?_cons_zero, List.getElem?_cons_succ, f33.n0, f33.b0, f33.n1, f33.b1, f33.n2, f33.b2, f33.n4, f33.b4, f33.n5, f33.b5, f33.n6, f33.b6, f33.n7, f33.b7, f33.n8, f33.b8, f33.n9, f33.b9, rin, hA.rd0, hA.rd1, hA.rd2, hB.rd0, hB.rd1, hB.rd2, hB.rd3, hB.rd4, hB.rd5, swr.len, sv.len, hc.rd0, hc.rd1, hc.rd2, hc.rd3, hc.rd4, hc.rd5, sr.len, ss.len, sf.len, si.len, su.len, hx1, hld, hy1, hy2.rd0, sw.len, k3, ht, tailB, aB, restB, List.length_pos_iff, *]))
      · rw [f33.n2]; unfold f33.b2
        (repeat' (first | refine Rf (fun hF hG => ?_) (fun hF hG => ?_) | assumption | (show Ext _ _; exact Ext.go) | (simp only [AHeap.next_alloc, AHeap.next_set, AHeap.next_kill, AHeap.next_res] at hle hsame) | simp (disch := first | exact D.go | fail) [setR, List.getElem?_cons_zero, List.getElem?_cons_succ, f33.n0, f33.b0, f33.n1, f33.b1, f33.n2, f33.b2, f33.n4, f33.b4, f33.n5, f33.b5, f33.n6, f33.b6, f33.n7, f33.b7, f33.n8, f33.b8, f33.n9, f33.b9, rin, hA.rd0, hA.rd1, hA.rd2, hB.rd0, hB.rd1, hB.rd2, hB.rd3, hB.rd4, hB.rd5, swr.len, sv.len, hc.rd0, hc.rd1, hc.rd2, hc.rd3, hc.rd4, hc.rd5, sr.len, ss.len, sf.len, si.len, su.len, hx1, hld, k3, ht, tailB, aB, restB, List.length_pos_iff, *]))
  · have hops : op = 1 ∨ op = 2 ∨ op = 3 ∨ op = 4 ∨ op = 5 ∨ op = 6 ∨ op = 9 ∨ op = 10 ∨ op = 11 ∨ op = 12 ∨ op = 13 ∨ op = 15 := by omega
    rcases hops with rfl | rfl | rfl | rfl | rfl | rfl | rfl | rfl | rfl | rfl | rfl | rfl
    all_goals (
      rw [f33.n2]; unfold f33.b2
      (repeat' (first | refine Rf (fun hF hG => ?_) (fun hF hG => ?_) | assumption | (show Ext _ _; exact Ext.go) | (simp only [AHeap.next_alloc, AHeap.next_set, AHeap.next_kill, AHeap.next_res] at hle hsame) | simp (disch := first | exact D.go | fail) [setR, List.getElem?_cons_zero, List.getElem?_cons_succ, f33.n0, f33.b0, f33.n1, f33.b1, f33.n2, f33.b2, f33.n4, f33.b4, f33.n5, f33.b5, f33.n6, f33.b6, f33.n7, f33.b7, f33.n8, f33.b8, f33.n9, f33.b9, rin, hA.rd0, hA.rd1, hA.rd2, hB.rd0, hB.rd1, hB.rd2, hB.rd3, hB.rd4, hB.rd5, swr.len, sv.len, hc.rd0, hc.rd1, hc.rd2, hc.rd3, hc.rd4, hc.rd5, sr.len, ss.len, sf.len, si.len, su.len, tailB, aB, restB, List.length_pos_iff, *])))
def rinstrB (q : Pg) (f : Fu) (i : Ins) : Bool :=
  (!dc (i.op < 1) && !dc (15 < i.op)) && ((if defB i.op = true then dc (inB i.dst f.regs.length) else dc (i.dst = 0)) && (dc (AllL (fun x => inB x f.regs.length) (usesL i)) && tailB q f i))
theorem rinstrB_eq (q : Pg) (f : Fu) (i : Ins) : rinstrB q f i = instrB q f i := by
  obtain ⟨op, dst, a, b, n, args⟩ := i
  rcases opCases op with rfl | rfl | rfl | rfl | rfl | rfl | rfl | rfl | rfl | rfl | rfl | rfl | rfl | rfl | rfl | h16
  case inr.inr.inr.inr.inr.inr.inr.inr.inr.inr.inr.inr.inr.inr.inr =>
    simp only [rinstrB, instrB, cn_other h16, Bool.false_and]
    rcases h16 with h | h
    · simp [h]
    · simp [h]
  all_goals simp [rinstrB, instrB, cn_1, cn_2, cn_3, cn_4, cn_5, cn_6, cn_7, cn_8, cn_9, cn_10, cn_11, cn_12, cn_13, cn_14, cn_15, defB, usesL, tailB, aB, restB, regP]
  all_goals (cases args <;> simp [Bool.and_comm, Bool.and_left_comm, Bool.and_assoc])
theorem rinstr {l : AM.Loc} {o : Nat} {q : Pg} (hq : PgA I h0 l o q) {cf cs : List AVal} {f : Fu} {i : Ins} (hf : FuC I h0 cf f) (hi : InsC I h0 cs i) (hn : AllL (namedP q) f.regs) (hm : i.args.length ≤ 1000000) (hb : AHeap) (eb : Ext h0 hb) :
    Ret ((AM.lim ⟨P, I, genF P Sh.prims⟩) 33 [.ptr l o, .agg cf, .agg cs] hb) hb (.bool (instrB q f i)) := by
  rw [← rinstrB_eq]
  have hf' := hf; have hi' := hi
  obtain ⟨wr, wb, rfl, r0, swr, swb⟩ := hf
  obtain ⟨v, rfl, sv, _⟩ := hi
  by_cases hop : 1 ≤ i.op ∧ i.op ≤ 15
  · obtain ⟨hop1, hop2⟩ := hop
    have hlu : (usesL i).length ≤ 1000001 := by
      unfold usesL
      repeat' split
      all_goals (first | omega | (simp; done) | (simp; omega))
    obtain ⟨N, hN⟩ := Evt.loop (usesL i) (F := fun j n => ∀ (hb' : AHeap) (k4 k5 : Nat) (vu : AVal) (h : AHeap), Ext hb hb' → Cells I hb' (.own k4) 0 [.int .i64 f.sig, wr, wb] →
        Cells I hb' (.own k5) 0 [.int .i64 i.op, .int .i64 i.dst, .int .i64 i.a, .int .i64 i.b, .int .i64 i.n, v] → SlOf 1 (IntA I hb') vu (usesL i) → AllL (fun x => inB x f.regs.length) ((usesL i).take j) → Ext hb' h →
        Res ((f33.J I (AM.lim ⟨P, I, genF P Sh.prims⟩) (n)).1.2.2.1 (.ptr l o) (.ptr (.own k4) 0) (.ptr (.own k5) 0) (.int .i64 f.regs.length) vu (.int .i64 j) h) fun u g => u = .bool (dc (AllL (fun x => inB x f.regs.length) ((usesL i).drop j)) && tailB q f i) ∧ Ext hb g) 10
      (Evt.all 10 fun n hb' k4 k5 vu h es hA hB su ht e => by
        rw [List.take_length] at ht
        have tl := fun h e => rtail hq swr sv hn ht hop1 hop2 es (eb.trans es) hA hB n h e
        have tl1 := fun h e => rtail hq swr sv hn ht hop1 hop2 es (eb.trans es) hA hB (n + 1) h e
        rw [f33.n3]; unfold f33.b3
        (repeat' (first | refine Rf (fun hF hG => ?_) (fun hF hG => ?_) | assumption | (show Ext _ _; exact Ext.go) | (simp only [AHeap.next_alloc, AHeap.next_set, AHeap.next_kill, AHeap.next_res] at hle hsame) | simp (disch := first | exact D.go | fail) [setR, List.getElem?_cons_zero, List.getElem?_cons_succ, su.len, f33.n1, f33.b1, *] | (refine Res.mono (tl _ ?_) (fun u g hq => ?_); rotate_left; (obtain ⟨rfl, hq⟩ := hq); rotate_right) | (refine Res.mono (tl1 _ ?_) (fun u g hq => ?_); rotate_left; (obtain ⟨rfl, hq⟩ := hq); rotate_right))))
      (fun j x n hx ih hb' k4 k5 vu h es hA hB su ht e => by
        obtain ⟨l1, o1, hi1, ha⟩ := su.at hx
        obtain ⟨ha, _⟩ := ha.int
        have hlt := lt_of_get hx; have hw := wrap_in (n := (j : Int) + 1) ⟨by omega, by omega⟩
        simp only [Int.natCast_add, Int.natCast_one] at ih
        rw [drop_of_get hx]
        have hlo := e.lo
        rw [f33.n3]; unfold f33.b3
        (repeat' (first | refine Rf (fun hF hG => ?_) (fun hF hG => ?_) | assumption | (show Ext _ _; exact Ext.go) | (simp only [AHeap.next_alloc, AHeap.next_set, AHeap.next_kill, AHeap.next_res] at hle hsame) | simp (disch := first | exact D.go | fail) [setR, List.getElem?_cons_zero, List.getElem?_cons_succ, f33.n0, f33.b0, f33.n1, f33.b1, f33.n4, f33.b4, f33.n5, f33.b5, f33.n6, f33.b6, f33.n7, f33.b7, f33.n8, f33.b8, f33.n9, f33.b9, su.len, hi1, ha, hw, hlt, rin, *] | (refine Res.mono (ih _ (by omega) _ _ _ _ _ es hA hB su (AllL_take ht hx hF) ?_) (fun u g hq => ?_); rotate_left; (obtain ⟨rfl, hq⟩ := hq); rotate_right))))
      0 (by omega)
    refine f33.lim rfl (n := N + 2) ?_
    unfold f33.e
    (repeat' (first | refine Rf (fun hF hG => ?_) (fun hF hG => ?_) | assumption | (show Ext _ _; exact Ext.go) | (simp only [AHeap.next_alloc, AHeap.next_set, AHeap.next_kill, AHeap.next_res] at hle hsame) | simp (disch := first | exact D.go | fail) [setR, List.getElem?_cons_zero, List.getElem?_cons_succ, f33.n0, f33.b0, f33.n1, f33.b1, rin, swr.len, rinstrB, dstOf, (show ¬ i.op < 1 by omega), (show ¬ 15 < i.op by omega), *] | (refine Ret.thn (h0 := hb) (rDef hi' _) ?_ (fun g hg hlo hle hsame hx => ?_)) | (refine Res.call (h0 := hb) (rUses hi' hm _ Ext.go) ?_ (fun u g hA hg hlo hle hsame hx => ?_))))
    all_goals (
      have hA1 : Cells I g (.own hb.next) 0 [.int .i64 f.sig, wr, wb] := Cells.own (b := ⟨[.int .i64 f.sig, wr, wb], true⟩) (by simp (disch := first | exact D.go | fail) [setR, List.getElem?_cons_zero, List.getElem?_cons_succ, *]) (by omega) (fun i v hv => by simpa using hv)
      have hB1 : Cells I g (.own (hb.next + 1)) 0 [.int .i64 i.op, .int .i64 i.dst, .int .i64 i.a, .int .i64 i.b, .int .i64 i.n, v] :=
        Cells.own (b := ⟨[.int .i64 i.op, .int .i64 i.dst, .int .i64 i.a, .int .i64 i.b, .int .i64 i.n, v], true⟩) (by simp (disch := first | exact D.go | fail) [setR, List.getElem?_cons_zero, List.getElem?_cons_succ, *]) (by omega) (fun i v hv => by simpa using hv)
      have hG1 : Ext hb g := Ext.go
      have := hN N (Nat.le_refl _) g _ _ _ g hG1 hA1 hB1 hA (by simp) (Ext.refl g)
      simp only [List.drop_zero] at this
      exact this)
  · refine f33.lim rfl (n := 2) ?_
    unfold f33.e
    rcases (show i.op < 1 ∨ 15 < i.op by omega) with hh | hh
    · (repeat' (first | refine Rf (fun hF hG => ?_) (fun hF hG => ?_) | assumption | (show Ext _ _; exact Ext.go) | (simp only [AHeap.next_alloc, AHeap.next_set, AHeap.next_kill, AHeap.next_res] at hle hsame) | simp (disch := first | exact D.go | fail) [setR, List.getElem?_cons_zero, List.getElem?_cons_succ, f33.n0, f33.b0, f33.n1, f33.b1, f33.n2, f33.b2, f33.n3, f33.b3, f33.n4, f33.b4, f33.n5, f33.b5, f33.n6, f33.b6, f33.n7, f33.b7, f33.n8, f33.b8, f33.n9, f33.b9, rinstrB, hh, *]))
    · (repeat' (first | refine Rf (fun hF hG => ?_) (fun hF hG => ?_) | assumption | (show Ext _ _; exact Ext.go) | (simp only [AHeap.next_alloc, AHeap.next_set, AHeap.next_kill, AHeap.next_res] at hle hsame) | simp (disch := first | exact D.go | fail) [setR, List.getElem?_cons_zero, List.getElem?_cons_succ, f33.n0, f33.b0, f33.n1, f33.b1, f33.n2, f33.b2, f33.n3, f33.b3, f33.n4, f33.b4, f33.n5, f33.b5, f33.n6, f33.b6, f33.n7, f33.b7, f33.n8, f33.b8, f33.n9, f33.b9, rinstrB, hh, *]))
end
end
end Go.Proofs.YthihegmbdclikaaDoor.Tx

set_option linter.unusedSimpArgs false
set_option linter.unusedVariables false
namespace Go.Proofs.YthihegmbdclikaaDoor.Tx
noncomputable section
open Go.AM Go.Proofs.YthihegmbdclikaaDoor.Sf
section
variable {I : Inp} {h0 : AHeap}
/-! the first point at which something is not so -/
def bkFrom (PI : Ins → Bool) (ok : Bool) (f b : Int) : Nat → List Ins → Option Pt
  | k, [] => if ok = true then none else some ⟨f, b, k⟩
  | k, i :: r => if PI i = true then bkFrom PI ok f b (k + 1) r else some ⟨f, b, k⟩
def fuFrom (PI : Ins → Bool) (PB : Bk → Bool) (f : Int) : Nat → List Bk → Option Pt
  | _, [] => none
  | b, x :: r => (bkFrom PI (PB x) f b 0 x.code).or (fuFrom PI PB f (b + 1) r)
/-- Nil, or the refusal at that point. -/
def WPost (I : Inp) (w : Int) (r : Option Pt) (u : AVal) (g : AHeap) : Prop := match r with
  | none => u = .nili
  | some p => ErrIs I g w p u
@[simp] theorem WPost_none (w : Int) (u : AVal) (g : AHeap) : WPost I w none u g ↔ u = .nili := Iff.rfl
@[simp] theorem WPost_some (w : Int) (p : Pt) (u : AVal) (g : AHeap) : WPost I w (some p) u g ↔ ErrIs I g w p u := Iff.rfl
theorem twalk {l : AM.Loc} {o : Nat} {q : Pg} (hq : PgA I h0 l o q) {w : Int} {fi : Nat} {f : Fu} (hfi : q.funcs[fi]? = some f) {vI vB : AVal} {PI : Ins → Bool} {PB : Bk → Bool} (hb : AHeap) (eb : Ext h0 hb)
    (hI : ∀ g cs i, Ext hb g → InsC I h0 cs i → Ret (sCallv (AM.lim ⟨P, I, genF P Sh.prims⟩) vI [.int .i64 fi, .agg cs] g) g (.bool (PI i))) (hB : ∀ g cs b, Ext hb g → BkC I h0 cs b → b ∈ f.blocks → Ret (sCallv (AM.lim ⟨P, I, genF P Sh.prims⟩) vB [.int .i64 fi, .agg cs] g) g (.bool (PB b))) :
    Res ((AM.lim ⟨P, I, genF P Sh.prims⟩) 46 [.ptr l o, .int .i64 w, .int .i64 fi, vI, vB] hb) fun u g => WPost I w (fuFrom PI PB fi 0 f.blocks) u g ∧ Ext hb g := by
  obtain ⟨_, ⟨vr, vs, vf, vi, vu, rfl, rm, sr, ss, sf, si, su⟩, hc⟩ := hq
  obtain ⟨lf, of, hif, ⟨_, ⟨wr, wb, rfl, r0, swr, swb⟩, hf⟩⟩ := su.at hfi
  have lb := swb.lt
  obtain ⟨N, hN⟩ := Evt.loop' f.blocks (F := fun i n => ∀ h, Ext hb h → Res ((f46.J I (AM.lim ⟨P, I, genF P Sh.prims⟩) (n)).1.1.2 (.int .i64 w) (.int .i64 fi) vI vB wb (.int .i64 f.blocks.length) (.int .i64 i) h) fun u g => WPost I w (fuFrom PI PB fi i (f.blocks.drop i)) u g ∧ Ext hb g)
    (Evt.all 5 fun n h e => by
      rw [f46.n1]; unfold f46.b1
      (repeat' (first | refine Rf (fun hF hG => ?_) (fun hF hG => ?_) | assumption | (show Ext _ _; exact Ext.go) | (simp only [AHeap.next_alloc, AHeap.next_set, AHeap.next_kill, AHeap.next_res] at hle hsame) | simp (disch := first | exact D.go | fail) [setR, List.getElem?_cons_zero, List.getElem?_cons_succ, f46.n0, f46.b0, f46.n2, f46.b2, f46.n3, f46.b3, f46.n4, f46.b4, f46.n5, f46.b5, f46.n6, f46.b6, f46.n7, f46.b7, fuFrom, *])))
    (fun i x hx ih => by
      obtain ⟨l1, o1, hi, ⟨_, ⟨vc, rfl, sc, q1, q2, q3, q4⟩, ha⟩⟩ := swb.at hx
      have hld := fun g e => ha.rds (n := 5) g e rfl (by omega)
      have lc := sc.lt
      have hxm := List.mem_of_getElem? hx
      have hlt := lt_of_get hx; have hw := wrap_in (n := (i : Int) + 1) ⟨by omega, by omega⟩
      have inner := Evt.loop x.code (F := fun j n => ∀ (hf : AHeap) (k : Nat) (h : AHeap), Ext hb hf → Cells I hf (.own k) 0 [vc, .int .i64 x.fin, .int .i64 x.reg, .int .i64 x.to, .int .i64 x.els] → Ext hf h →
          Res ((f46.J I (AM.lim ⟨P, I, genF P Sh.prims⟩) (n)).2.1.2 (.int .i64 w) (.int .i64 fi) vI vB (.int .i64 i) (.ptr (.own k) 0) wb (.int .i64 f.blocks.length) (.int .i64 i) vc (.int .i64 x.code.length) (.int .i64 j) h) fun u g =>
            WPost I w ((bkFrom PI (PB x) fi i j (x.code.drop j)).or (fuFrom PI PB fi (i + 1) (f.blocks.drop (i + 1)))) u g ∧ Ext hb g) 8
        (Evt.step 8 ih fun n ih hf k h es hcf e' => by
          have e := es.trans e'
          have hlo := e.lo; have hlf := e'.lo
          have hld5 := fun g e => hcf.rds (n := 5) g e rfl (by omega)
          have hbk : BkC I h0 [vc, .int .i64 x.fin, .int .i64 x.reg, .int .i64 x.to, .int .i64 x.els] x := ⟨vc, rfl, sc, q1, q2, q3, q4⟩
          simp only [Int.natCast_add, Int.natCast_one] at ih
          rw [f46.n5]; unfold f46.b5
          (repeat' (first | refine Rf (fun hF hG => ?_) (fun hF hG => ?_) | assumption | (show Ext _ _; exact Ext.go) | (simp only [AHeap.next_alloc, AHeap.next_set, AHeap.next_kill, AHeap.next_res] at hle hsame) | simp (disch := first | exact D.go | fail) [setR, List.getElem?_cons_zero, List.getElem?_cons_succ, f46.n0, f46.b0, f46.n2, f46.b2, f46.n3, f46.b3, f46.n4, f46.b4, f46.n6, f46.b6, f46.n7, f46.b7, bkFrom, hld5, hcf.rd0, hcf.rd1, hcf.rd2, hcf.rd3, hcf.rd4, sc.len, hw, *] | (refine Ret.thn (h0 := hb) (hB _ _ _ Ext.go hbk hxm) ?_ (fun g hg hlo hle hsame hx => ?_)) | (refine Res.call (h0 := hb) (enew w ⟨fi, i, x.code.length⟩ _) ?_ (fun u g hA hg hlo hle hsame hx => ?_)) | (refine Res_post (A := WPost I w) (ih _ (by omega) _ ?_) ?_))))
        (fun j y n hy jh hf k h es hcf e' => by
          have e := es.trans e'
          have hlo := e.lo; have hlf := e'.lo
          obtain ⟨l2, o2, hj, ⟨cs, hys, hy'⟩⟩ := sc.at hy
          have hys' := hys
          obtain ⟨va, rfl, sva, _⟩ := hys'
          have hld2 := fun g e => hy'.rds (n := 6) g e rfl (by omega)
          have hlt2 := lt_of_get hy; have hw2 := wrap_in (n := (j : Int) + 1) ⟨by omega, by omega⟩
          simp only [Int.natCast_add, Int.natCast_one] at jh
          rw [drop_of_get hy]
          rw [f46.n5]; unfold f46.b5
          (repeat' (first | refine Rf (fun hF hG => ?_) (fun hF hG => ?_) | assumption | (show Ext _ _; exact Ext.go) | (simp only [AHeap.next_alloc, AHeap.next_set, AHeap.next_kill, AHeap.next_res] at hle hsame) | simp (disch := first | exact D.go | fail) [setR, List.getElem?_cons_zero, List.getElem?_cons_succ, f46.n0, f46.b0, f46.n2, f46.b2, f46.n3, f46.b3, f46.n4, f46.b4, f46.n6, f46.b6, f46.n7, f46.b7, bkFrom, hj, hld2, hw2, hlt2, sva.one, *] | (refine Ret.thn (h0 := hb) (hI _ _ _ Ext.go hys) ?_ (fun g hg hlo hle hsame hx => ?_)) | (refine Res.call (h0 := hb) (enew w ⟨fi, i, j⟩ _) ?_ (fun u g hA hg hlo hle hsame hx => ?_)) | (refine Res_post (A := WPost I w) (jh _ (by omega) hf k _ es hcf ?_) ?_))))
        0 (by omega)
      refine Evt.step 8 inner fun n jh h e => ?_
      have hlo := e.lo
      have hcf : Cells I ((h.alloc ⟨[.nils, Z 0, Z 0, Z 0, Z 0], true⟩).set h.next ⟨[vc, .int .i64 x.fin, .int .i64 x.reg, .int .i64 x.to, .int .i64 x.els], true⟩) (.own h.next) 0 [vc, .int .i64 x.fin, .int .i64 x.reg, .int .i64 x.to, .int .i64 x.els] :=
        Cells.own (AHeap.set_at (Nb.o rfl)) (by simp) fun i v hv => by simpa using hv
      rw [drop_of_get hx]
      rw [f46.n1]; unfold f46.b1
      (repeat' (first | refine Rf (fun hF hG => ?_) (fun hF hG => ?_) | assumption | (show Ext _ _; exact Ext.go) | (simp only [AHeap.next_alloc, AHeap.next_set, AHeap.next_kill, AHeap.next_res] at hle hsame) | simp (disch := first | exact D.go | fail) [setR, List.getElem?_cons_zero, List.getElem?_cons_succ, f46.n0, f46.b0, f46.n2, f46.b2, f46.n3, f46.b3, f46.n4, f46.b4, f46.n6, f46.b6, f46.n7, f46.b7, fuFrom, hi, hld, hlt, sc.len, sc.one, *] | (refine Res_post (A := WPost I w) (jh _ (by omega) _ _ _ Ext.go hcf ?_) ?_))))
    0 (by omega)
  refine f46.lim rfl (n := N) ?_
  unfold f46.e
  (repeat' (first | refine Rf (fun hF hG => ?_) (fun hF hG => ?_) | assumption | (show Ext _ _; exact Ext.go) | (simp only [AHeap.next_alloc, AHeap.next_set, AHeap.next_kill, AHeap.next_res] at hle hsame) | simp (disch := first | exact D.go | fail) [setR, List.getElem?_cons_zero, List.getElem?_cons_succ, hc.rd0, hc.rd1, hc.rd2, hc.rd3, hc.rd4, hc.rd5, sr.len, ss.len, sf.len, si.len, su.len, hif, hf.rd0, hf.rd1, hf.rd2, swb.len, *] | (refine Res_post (A := WPost I w) (hN _ (Nat.le_refl _) _ ?_) ?_)))
theorem tclosI {l : AM.Loc} {o : Nat} {q : Pg} (hq : PgA I h0 l o q) {cf cs : List AVal} {f : Fu} {i : Ins} (hf : FuC I h0 cf f) (hi : InsC I h0 cs i) (hn : AllL (namedP q) f.regs) (x : AVal) {k1 k5 : Nat} (hb : AHeap) (eb : Ext h0 hb)
    (c1 : Cells I hb (.own k1) 0 [.ptr l o]) (c5 : Cells I hb (.own k5) 0 cf) : Ret ((AM.lim ⟨P, I, genF P Sh.prims⟩) 47 [x, .agg cs, .ptr (.own k1) 0, .ptr (.own k5) 0] hb) hb (.bool (instrB q f i)) := by
  have hcf : cf.length = 3 := by obtain ⟨v, u, rfl, _⟩ := hf; rfl
  have hcs : cs.length = 6 := by obtain ⟨v, rfl, _⟩ := hi; rfl
  have hld := fun g e => c5.rds (n := 3) g e hcf (by omega)
  have hi' := hi
  obtain ⟨v, rfl, sv, _⟩ := hi'
  refine f47.lim rfl (n := 2) ?_
  unfold f47.e
  (repeat' (first | refine Rf (fun hF hG => ?_) (fun hF hG => ?_) | assumption | (show Ext _ _; exact Ext.go) | (simp only [AHeap.next_alloc, AHeap.next_set, AHeap.next_kill, AHeap.next_res] at hle hsame) | simp (disch := first | exact D.go | fail) [setR, List.getElem?_cons_zero, List.getElem?_cons_succ, setR, c1.rd0, hld, *] | (refine Ret.thn (h0 := hb) (tinstr hq hf hi hn _ Ext.go) ?_ (fun g hg hlo hle hsame hx => ?_))))
theorem tclosB {l : AM.Loc} {o : Nat} {q : Pg} (hq : PgA I h0 l o q) {cf cs : List AVal} {f : Fu} {b : Bk} (hf : FuC I h0 cf f) (hk : BkC I h0 cs b) (x : AVal) {k5 : Nat} (hb : AHeap) (eb : Ext h0 hb)
    (c5 : Cells I hb (.own k5) 0 cf) : Ret ((AM.lim ⟨P, I, genF P Sh.prims⟩) 48 [x, .agg cs, .ptr (.own k5) 0] hb) hb (.bool (endB f b)) := by
  have hcf : cf.length = 3 := by obtain ⟨v, u, rfl, _⟩ := hf; rfl
  have hld := fun g e => c5.rds (n := 3) g e hcf (by omega)
  have hk' := hk
  obtain ⟨v, rfl, sv, _⟩ := hk'
  refine f48.lim rfl (n := 2) ?_
  unfold f48.e
  (repeat' (first | refine Rf (fun hF hG => ?_) (fun hF hG => ?_) | assumption | (show Ext _ _; exact Ext.go) | (simp only [AHeap.next_alloc, AHeap.next_set, AHeap.next_kill, AHeap.next_res] at hle hsame) | simp (disch := first | exact D.go | fail) [setR, List.getElem?_cons_zero, List.getElem?_cons_succ, setR, hld, *] | (refine Ret.thn (h0 := hb) (tend hf hk _ Ext.go) ?_ (fun g hg hlo hle hsame hx => ?_))))
def namesFrom (q : Pg) : Nat → List Fu → Option Pt
  | _, [] => if dc (inB q.main q.funcs.length) = true then none else some noPt
  | i, f :: r => if (dc (inB f.sig q.sigs.length) && dc (AllL (namedP q) f.regs)) = true then (fuFrom (instrB q f) (endB f) i 0 f.blocks).or (namesFrom q (i + 1) r) else some noPt
def namesS (q : Pg) : Option Pt := if listsB q = true then namesFrom q 0 q.funcs else some noPt
theorem tNames {l : AM.Loc} {o : Nat} {q : Pg} (hq : PgA I h0 l o q) (hs : AHeap) (es : Ext h0 hs) : Res ((AM.lim ⟨P, I, genF P Sh.prims⟩) 20 [.ptr l o] hs) fun u g => WPost I 3 (namesS q) u g ∧ Ext hs g := by
  have hq' := hq
  obtain ⟨_, ⟨vr, vs, vf, vi, vu, rfl, rm, sr, ss, sf, si, su⟩, hc⟩ := hq
  have lu := su.lt
  have key := Evt.loop q.funcs (F := fun i n => ∀ (hb : AHeap) (k1 : Nat) (v3 : AVal) (h : AHeap), Ext hs hb → Cells I hb (.own k1) 0 [.ptr l o] → ErrIs I hb 3 noPt v3 → Ext hb h → Res ((f20.J I (AM.lim ⟨P, I, genF P Sh.prims⟩) (n)).1.2.2 (.ptr (.own k1) 0) v3 vu (.int .i64 q.funcs.length) (.int .i64 i) h) fun u g =>
      WPost I 3 (namesFrom q i (q.funcs.drop i)) u g ∧ Ext hs g) 8
    (Evt.all 8 fun n hb k1 v3 h es' c1 he e => by
      have eb := es.trans es'
      have hlo := e.lo; have hls := es'.lo
      have her := fun g (x : Ext hb g) => he.mono x
      rw [f20.n2]; unfold f20.b2
      (repeat' (first | refine Rf (fun hF hG => ?_) (fun hF hG => ?_) | assumption | (show Ext _ _; exact Ext.go) | (simp only [AHeap.next_alloc, AHeap.next_set, AHeap.next_kill, AHeap.next_res] at hle hsame) | simp (disch := first | exact D.go | fail) [setR, List.getElem?_cons_zero, List.getElem?_cons_succ, f20.n0, f20.b0, f20.n1, f20.b1, f20.n3, f20.b3, f20.n4, f20.b4, f20.n5, f20.b5, f20.n6, f20.b6, namesFrom, c1.rd0, hc.rd0, hc.rd1, hc.rd2, hc.rd3, hc.rd4, hc.rd5, sr.len, ss.len, sf.len, si.len, su.len, tin, her, *])))
    (fun i x n hx ih hb k1 v3 h es' c1 he e => by
      have eb := es.trans es'
      have hlo := e.lo; have hls := es'.lo
      have her := fun g (x : Ext hb g) => he.mono x
      obtain ⟨l1, o1, hi, ⟨cf, hf, ha⟩⟩ := su.at hx
      have hf' := hf
      obtain ⟨wr, wb, rfl, r0, swr, swb⟩ := hf'
      have hld := fun g e => ha.rds (n := 3) g e rfl (by omega)
      have hlt := lt_of_get hx; have hw := wrap_in (n := (i : Int) + 1) ⟨by omega, by omega⟩
      simp only [Int.natCast_add, Int.natCast_one] at ih
      rw [drop_of_get hx]
      have hc5 : Cells I ((h.alloc ⟨[Z 0, .nils, .nils], true⟩).set h.next ⟨[.int .i64 x.sig, wr, wb], true⟩) (.own h.next) 0 [.int .i64 x.sig, wr, wb] :=
        Cells.own (AHeap.set_at (Nb.o rfl)) (by simp) fun i v hv => by simpa using hv
      rw [f20.n2]; unfold f20.b2
      (repeat' (first | refine Rf (fun hF hG => ?_) (fun hF hG => ?_) | assumption | (show Ext _ _; exact Ext.go) | (simp only [AHeap.next_alloc, AHeap.next_set, AHeap.next_kill, AHeap.next_res] at hle hsame) | simp (disch := first | exact D.go | fail) [setR, List.getElem?_cons_zero, List.getElem?_cons_succ, f20.n0, f20.b0, f20.n1, f20.b1, f20.n3, f20.b3, f20.n4, f20.b4, f20.n6, f20.b6, namesFrom, c1.rd0, hc.rd0, hc.rd1, hc.rd2, hc.rd3, hc.rd4, hc.rd5, sr.len, ss.len, sf.len, si.len, su.len, tin, her, hi, hld, hlt, swr.one, swb.one, *] | (refine Ret.thn (h0 := hb) (tall hq' swr _ Ext.go) ?_ (fun g hg hlo hle hsame hx => ?_))))
      rw [f20.n5]; unfold f20.b5
      have hc5' := hc5.mono hx
      have c1' := c1.mono hg
      have eg := eb.trans hg
      have tw := twalk hq' (w := 3) (fi := i) (by assumption) (vI := .func (.func 47) [] [.ptr (.own k1) 0, .ptr (.own h.next) 0]) (vB := .func (.func 48) [] [.ptr (.own h.next) 0]) (PI := instrB q x) (PB := endB x) g eg
        (fun g' cs ins e' hins => by
          simp only [sCallv_func, List.nil_append, List.cons_append]
          exact tclosI hq' hf hins hF _ g' (eg.trans e') (c1'.mono e') (hc5'.mono e'))
        (fun g' cs bk e' hbk _ => by
          simp only [sCallv_func, List.nil_append, List.cons_append]
          exact tclosB hq' hf hbk _ g' (eg.trans e') (hc5'.mono e'))
      simp only [to_BndP, to_kL, to_kN, to_kF, to_kM, to_kI, to_kX, to_Bnd, to_kA, to_kC, to_kS, pLoad1_ptr, c1'.rd0 g (Ext.refl g), BndP_some]
      refine Res.call (h0 := hb) tw hg (fun u g2 hA hg2 hlo2 hle2 hsame2 hx2 => ?_)
      have hsg : Ext hs g2 := es'.trans hg2
      cases hfu : fuFrom (instrB q x) (endB x) i 0 x.blocks with
      | none =>
        rw [hfu] at hA
        obtain rfl : u = .nili := hA
        (repeat' (first | refine Rf (fun hF hG => ?_) (fun hF hG => ?_) | assumption | (show Ext _ _; exact Ext.go) | (simp only [AHeap.next_alloc, AHeap.next_set, AHeap.next_kill, AHeap.next_res] at hle hsame) | simp (disch := first | exact D.go | fail) [setR, List.getElem?_cons_zero, List.getElem?_cons_succ, f20.n0, f20.b0, f20.n1, f20.b1, f20.n3, f20.b3, f20.n4, f20.b4, f20.n6, f20.b6, hw, hfu, *] | (refine Res_post (A := WPost I 3) (ih _ (by omega) hb k1 v3 _ es' c1 he ?_) ?_)))
      | some p =>
        rw [hfu] at hA
        have hA2 : ErrIs I g2 3 p u := hA
        obtain ⟨k, rfl, hk, hck⟩ := hA
        (repeat' (first | refine Rf (fun hF hG => ?_) (fun hF hG => ?_) | assumption | (show Ext _ _; exact Ext.go) | (simp only [AHeap.next_alloc, AHeap.next_set, AHeap.next_kill, AHeap.next_res] at hle hsame) | simp (disch := first | exact D.go | fail) [setR, List.getElem?_cons_zero, List.getElem?_cons_succ, f20.n0, f20.b0, f20.n1, f20.b1, f20.n3, f20.b3, f20.n4, f20.b4, f20.n6, f20.b6, hw, hfu, *])))
    0 (by omega)
  obtain ⟨N, hN⟩ := key
  obtain ⟨hb, rfl⟩ : ∃ hb, hb = hs := ⟨_, rfl⟩
  refine f20.lim rfl (n := N + 1) ?_
  unfold f20.e
  (repeat' (first | refine Rf (fun hF hG => ?_) (fun hF hG => ?_) | assumption | (show Ext _ _; exact Ext.go) | (simp only [AHeap.next_alloc, AHeap.next_set, AHeap.next_kill, AHeap.next_res] at hle hsame) | simp (disch := first | exact D.go | fail) [setR, List.getElem?_cons_zero, List.getElem?_cons_succ, f20.n0, f20.b0, hc.rd0, hc.rd1, hc.rd2, hc.rd3, hc.rd4, hc.rd5, sr.len, ss.len, sf.len, si.len, su.len, namesS, *] | (refine Ret.thn (h0 := hb) (rnone _) ?_ (fun g hg hlo hle hsame hx => ?_)) | (refine Res.call (h0 := hb) (enew 3 noPt _) ?_ (fun u g hA hg hlo hle hsame hx => ?_)) | (refine Ret.thn (h0 := hb) (tlists hq' _ (es.trans Ext.go)) ?_ (fun g hg hlo hle hsame hx => ?_))))
  · exact hA.mono hx
  · have c1 : Cells I g (.own hb.next) 0 [.ptr l o] := Cells.own (b := ⟨[.ptr l o], true⟩) (by simp (disch := first | exact D.go | fail) [setR, List.getElem?_cons_zero, List.getElem?_cons_succ, *]) (by omega) (fun i v hv => by simpa using hv)
    have := hN N (Nat.le_refl _) g _ u g hg c1 (hA.mono hx) (Ext.refl g)
    simp only [List.drop_zero] at this
    exact this
end
end
end Go.Proofs.YthihegmbdclikaaDoor.Tx

set_option linter.unusedSimpArgs false
set_option linter.unusedVariables false
namespace Go.Proofs.YthihegmbdclikaaDoor.Tx
noncomputable section
open Go.AM Go.Proofs.YthihegmbdclikaaDoor.Sf
section
variable {I : Inp} {h0 : AHeap}
def rV (r : Option Pt) : AVal := .tuple [ptV (r.getD noPt), .bool r.isNone]
@[simp] theorem rV_none : rV none = .tuple [ptV noPt, .bool true] := rfl
@[simp] theorem rV_some (p : Pt) : rV (some p) = .tuple [ptV p, .bool false] := rfl
theorem noPt_f : noPt.f = -1 := rfl
theorem noPt_b : noPt.b = 0 := rfl
theorem noPt_i : noPt.i = 0 := rfl
theorem rN_code {l : AM.Loc} {o : Nat} {q : Pg} (hq : PgA I h0 l o q) {hs : AHeap} (es0 : Ext h0 hs) {i j : Nat} {x : Fu} {y : Bk} {wr wb wc : AVal} (hfu : FuC I h0 [.int .i64 x.sig, wr, wb] x) (hn : AllL (namedP q) x.regs)
    (hy : x.blocks[j]? = some y) (hargs : ∀ z ∈ y.code, z.args.length ≤ 1000000) (hcl : y.code.length ≤ 1000000) (R : Option Pt)
    (next : Evt fun n => ∀ (hb : AHeap) (k2 : Nat), Ext hs hb → hs.next ≤ k2 → k2 < hb.next → (∀ g, Ext hb g → g.get k2 = some ⟨[Z 0, Z 0, Z 0], true⟩) → ∀ (k15 : Nat) (h : AHeap), Cells I hb (.own k15) 0 [.int .i64 x.sig, wr, wb] → Ext hb h → Res ((f19.J I (AM.lim ⟨P, I, genF P Sh.prims⟩) (n)).2.2.2.1.1 (.ptr l o) (.ptr (.own k2) 0) (.int .i64 i) (.ptr (.own k15) 0) (.int .i64 ((j : Int) + 1)) h) fun u g => u = rV R ∧ Ext hs g) :
    Evt fun n => ∀ (hb : AHeap) (k2 : Nat), Ext hs hb → hs.next ≤ k2 → k2 < hb.next → (∀ g, Ext hb g → g.get k2 = some ⟨[Z 0, Z 0, Z 0], true⟩) → ∀ (k15 : Nat) (h : AHeap), Cells I hb (.own k15) 0 [.int .i64 x.sig, wr, wb] → Ext hb h → Res ((f19.J I (AM.lim ⟨P, I, genF P Sh.prims⟩) (n)).2.2.2.2.1 (.ptr l o) (.ptr (.own k2) 0) (.int .i64 i) (.ptr (.own k15) 0) (.int .i64 j) (Z 0) h) fun u g =>
      u = rV ((bkFrom (instrB q x) (endB x y) i j 0 y.code).or R) ∧ Ext hs g := by
  have hq' := hq
  obtain ⟨_, ⟨vr, vs, vf, vi, vu, rfl, rm, sr, ss, sf, si, su⟩, hc⟩ := hq
  have hfu' := hfu
  obtain ⟨wr', wb', e0, r0, swr, swb⟩ := hfu'
  simp only [List.cons.injEq, and_true, true_and] at e0
  obtain ⟨rfl, rfl⟩ := e0
  have lwb := swb.lt
  obtain ⟨l2, o2, hj, ⟨cy, hyc, hy'⟩⟩ := swb.at hy
  have hlt2 := lt_of_get hy; have hw2 := wrap_in (n := (j : Int) + 1) ⟨by omega, by omega⟩
  have hyc' := hyc
  obtain ⟨wcc, rfl, swc, p1, p2, p3, p4⟩ := hyc'
  have lwc := swc.lt
  have hld5 := fun g e => hy'.rds (n := 5) g e rfl (by omega)
  have key := Evt.loop y.code (F := fun k n => ∀ (hb : AHeap) (k2 : Nat), Ext hs hb → hs.next ≤ k2 → k2 < hb.next → (∀ g, Ext hb g → g.get k2 = some ⟨[Z 0, Z 0, Z 0], true⟩) → ∀ (k15 : Nat) (h : AHeap), Cells I hb (.own k15) 0 [.int .i64 x.sig, wr, wb] → Ext hb h → Res ((f19.J I (AM.lim ⟨P, I, genF P Sh.prims⟩) (n)).2.2.2.2.1 (.ptr l o) (.ptr (.own k2) 0) (.int .i64 i) (.ptr (.own k15) 0) (.int .i64 j) (.int .i64 k) h) fun u g =>
      u = rV ((bkFrom (instrB q x) (endB x y) i j k (y.code.drop k)).or R) ∧ Ext hs g) 8
    (Evt.step 8 next fun n nx hb k2 es lo2 hi2 hval k15 h c15 e => by
      have eb := es0.trans es; have hlo := e.lo; have hls := es.lo
      have hlf := fun g e => c15.rds (n := 3) g e rfl (by omega)
      have hw3 := wrap_in (n := (y.code.length : Int) + 1) ⟨by omega, by omega⟩
      have hl1 : ¬ ((y.code.length : Int) + 1 ≤ y.code.length) := by omega
      rw [f19.n42]; unfold f19.b42
      (repeat' (first | refine Rf (fun hF hG => ?_) (fun hF hG => ?_) | assumption | (show Ext _ _; exact Ext.go) | (simp only [AHeap.next_alloc, AHeap.next_set, AHeap.next_kill, AHeap.next_res] at hle hsame) | simp (disch := first | exact D.go | fail) [setR, List.getElem?_cons_zero, List.getElem?_cons_succ, f19.n0, f19.b0, f19.n2, f19.b2, f19.n3, f19.b3, f19.n5, f19.b5, f19.n6, f19.b6, f19.n7, f19.b7, f19.n9, f19.b9, f19.n10, f19.b10, f19.n11, f19.b11, f19.n13, f19.b13, f19.n14, f19.b14, f19.n15, f19.b15, f19.n17, f19.b17, f19.n18, f19.b18, f19.n20, f19.b20, f19.n21, f19.b21, f19.n22, f19.b22, f19.n24, f19.b24, f19.n25, f19.b25, f19.n27, f19.b27, f19.n28, f19.b28, f19.n29, f19.b29, f19.n30, f19.b30, f19.n32, f19.b32, f19.n33, f19.b33, f19.n34, f19.b34, f19.n36, f19.b36, f19.n37, f19.b37, f19.n38, f19.b38, f19.n40, f19.b40, f19.n41, f19.b41, f19.n43, f19.b43, f19.n44, f19.b44, f19.n42, f19.b42, bkFrom, hval, c15.rd0, c15.rd1, c15.rd2, hlf, hj, hy'.rd0, hy'.rd1, hy'.rd2, hy'.rd3, hy'.rd4, hld5, swc.len, hw2, hw3, hl1, swb.len, *] | (refine Ret.thn (h0 := hb) (rending hfu hyc _ Ext.go) ?_ (fun g hg hlo hle hsame hx => ?_)) | (refine Res.mono (nx _ (by omega) hb k2 es lo2 hi2 hval k15 _ c15 ?_) (fun u g hq => ?_); rotate_left; (obtain ⟨rfl, hq⟩ := hq); rotate_right))))
    (fun k z n hz ih hb k2 es lo2 hi2 hval k15 h c15 e => by
      have eb := es0.trans es; have hlo := e.lo; have hls := es.lo
      have hlf := fun g e => c15.rds (n := 3) g e rfl (by omega)
      obtain ⟨l3, o3, hk, ⟨cz, hzc, hz'⟩⟩ := swc.at hz
      have hzc' := hzc
      obtain ⟨wz, rfl, swz, _⟩ := hzc'
      have hld6 := fun g e => hz'.rds (n := 6) g e rfl (by omega)
      have hlt3 := lt_of_get hz; have hw3 := wrap_in (n := (k : Int) + 1) ⟨by omega, by omega⟩
      have hle3 : (k : Int) ≤ y.code.length := by omega
      have hne3 : ¬ (k : Int) = y.code.length := by omega
      simp only [Int.natCast_add, Int.natCast_one] at ih
      rw [drop_of_get hz]
      rw [f19.n42]; unfold f19.b42
      (repeat' (first | refine Rf (fun hF hG => ?_) (fun hF hG => ?_) | assumption | (show Ext _ _; exact Ext.go) | (simp only [AHeap.next_alloc, AHeap.next_set, AHeap.next_kill, AHeap.next_res] at hle hsame) | simp (disch := first | exact D.go | fail) [setR, List.getElem?_cons_zero, List.getElem?_cons_succ, f19.n0, f19.b0, f19.n2, f19.b2, f19.n3, f19.b3, f19.n5, f19.b5, f19.n6, f19.b6, f19.n7, f19.b7, f19.n9, f19.b9, f19.n10, f19.b10, f19.n11, f19.b11, f19.n13, f19.b13, f19.n14, f19.b14, f19.n15, f19.b15, f19.n17, f19.b17, f19.n18, f19.b18, f19.n20, f19.b20, f19.n21, f19.b21, f19.n22, f19.b22, f19.n24, f19.b24, f19.n25, f19.b25, f19.n27, f19.b27, f19.n28, f19.b28, f19.n29, f19.b29, f19.n30, f19.b30, f19.n32, f19.b32, f19.n33, f19.b33, f19.n34, f19.b34, f19.n36, f19.b36, f19.n37, f19.b37, f19.n38, f19.b38, f19.n40, f19.b40, f19.n41, f19.b41, f19.n43, f19.b43, f19.n44, f19.b44, bkFrom, hval, c15.rd0, c15.rd1, c15.rd2, hlf, hj, hy'.rd0, hy'.rd1, hy'.rd2, hy'.rd3, hy'.rd4, hld6, hk, hlt3, hle3, hne3, swc.len, hw2, hw3, swb.len, *] | (refine Ret.thn (h0 := hb) (rinstr hq' hfu hzc hn (hargs z (List.mem_of_getElem? hz)) _ Ext.go) ?_ (fun g hg hlo hle hsame hx => ?_)) | (refine Res.mono (ih _ (by omega) hb k2 es lo2 hi2 hval k15 _ c15 ?_) (fun u g hq => ?_); rotate_left; (obtain ⟨rfl, hq⟩ := hq); rotate_right))))
    0 (by omega)
  obtain ⟨N, hN⟩ := key
  refine ⟨N, fun n hn => ?_⟩
  have := hN n hn
  simp only [List.drop_zero] at this
  exact this
theorem rN_blocks {l : AM.Loc} {o : Nat} {q : Pg} (hq : PgA I h0 l o q) {hs : AHeap} (es0 : Ext h0 hs) {i : Nat} {x : Fu} {wr wb : AVal} (hfu : FuC I h0 [.int .i64 x.sig, wr, wb] x) (hn : AllL (namedP q) x.regs)
    (hargs : ∀ y ∈ x.blocks, y.code.length ≤ 1000000 ∧ ∀ z ∈ y.code, z.args.length ≤ 1000000) (hil : (i : Int) + 1 < 9223372036854775808) (R : Option Pt)
    (next : Evt fun n => ∀ (hb : AHeap) (k2 : Nat), Ext hs hb → hs.next ≤ k2 → k2 < hb.next → (∀ g, Ext hb g → g.get k2 = some ⟨[Z 0, Z 0, Z 0], true⟩) → ∀ (h : AHeap), Ext hb h → Res ((f19.J I (AM.lim ⟨P, I, genF P Sh.prims⟩) (n)).2.1.2.2.2.1 (.ptr l o) (.ptr (.own k2) 0) (.int .i64 ((i : Int) + 1)) h) fun u g => u = rV R ∧ Ext hs g) :
    Evt fun n => ∀ (hb : AHeap) (k2 : Nat), Ext hs hb → hs.next ≤ k2 → k2 < hb.next → (∀ g, Ext hb g → g.get k2 = some ⟨[Z 0, Z 0, Z 0], true⟩) → ∀ (k15 : Nat) (h : AHeap), Cells I hb (.own k15) 0 [.int .i64 x.sig, wr, wb] → Ext hb h → Res ((f19.J I (AM.lim ⟨P, I, genF P Sh.prims⟩) (n)).2.2.2.1.1 (.ptr l o) (.ptr (.own k2) 0) (.int .i64 i) (.ptr (.own k15) 0) (Z 0) h) fun u g =>
      u = rV ((fuFrom (instrB q x) (endB x) i 0 x.blocks).or R) ∧ Ext hs g := by
  have hq' := hq
  obtain ⟨_, ⟨vr, vs, vf, vi, vu, rfl, rm, sr, ss, sf, si, su⟩, hc⟩ := hq
  have hfu' := hfu
  obtain ⟨wr', wb', e0, r0, swr, swb⟩ := hfu'
  simp only [List.cons.injEq, and_true, true_and] at e0
  obtain ⟨rfl, rfl⟩ := e0
  have lwb := swb.lt
  have hwi := wrap_in (n := (i : Int) + 1) ⟨by omega, by omega⟩
  have key := Evt.loop' x.blocks (F := fun j n => ∀ (hb : AHeap) (k2 : Nat), Ext hs hb → hs.next ≤ k2 → k2 < hb.next → (∀ g, Ext hb g → g.get k2 = some ⟨[Z 0, Z 0, Z 0], true⟩) → ∀ (k15 : Nat) (h : AHeap), Cells I hb (.own k15) 0 [.int .i64 x.sig, wr, wb] → Ext hb h → Res ((f19.J I (AM.lim ⟨P, I, genF P Sh.prims⟩) (n)).2.2.2.1.1 (.ptr l o) (.ptr (.own k2) 0) (.int .i64 i) (.ptr (.own k15) 0) (.int .i64 j) h) fun u g =>
      u = rV ((fuFrom (instrB q x) (endB x) i j (x.blocks.drop j)).or R) ∧ Ext hs g)
    (Evt.step 8 next fun n nx hb k2 es lo2 hi2 hval k15 h c15 e => by
      have eb := es0.trans es; have hlo := e.lo; have hls := es.lo
      rw [f19.n39]; unfold f19.b39
      (repeat' (first | refine Rf (fun hF hG => ?_) (fun hF hG => ?_) | assumption | (show Ext _ _; exact Ext.go) | (simp only [AHeap.next_alloc, AHeap.next_set, AHeap.next_kill, AHeap.next_res] at hle hsame) | simp (disch := first | exact D.go | fail) [setR, List.getElem?_cons_zero, List.getElem?_cons_succ, f19.n0, f19.b0, f19.n2, f19.b2, f19.n3, f19.b3, f19.n5, f19.b5, f19.n6, f19.b6, f19.n7, f19.b7, f19.n9, f19.b9, f19.n10, f19.b10, f19.n11, f19.b11, f19.n13, f19.b13, f19.n14, f19.b14, f19.n15, f19.b15, f19.n17, f19.b17, f19.n18, f19.b18, f19.n20, f19.b20, f19.n21, f19.b21, f19.n22, f19.b22, f19.n24, f19.b24, f19.n25, f19.b25, f19.n27, f19.b27, f19.n28, f19.b28, f19.n29, f19.b29, f19.n30, f19.b30, f19.n32, f19.b32, f19.n33, f19.b33, f19.n34, f19.b34, f19.n36, f19.b36, f19.n37, f19.b37, f19.n38, f19.b38, f19.n40, f19.b40, f19.n41, f19.b41, f19.n43, f19.b43, f19.n44, f19.b44, fuFrom, c15.rd0, c15.rd1, c15.rd2, swb.len, hwi, *] | (refine Res.mono (nx _ (by omega) hb k2 es lo2 hi2 hval _ ?_) (fun u g hq => ?_); rotate_left; (obtain ⟨rfl, hq⟩ := hq); rotate_right))))
    (fun j y hy ih => by
      have hlt := lt_of_get hy
      have ih' : Evt fun n => ∀ (hb : AHeap) (k2 : Nat), Ext hs hb → hs.next ≤ k2 → k2 < hb.next → (∀ g, Ext hb g → g.get k2 = some ⟨[Z 0, Z 0, Z 0], true⟩) → ∀ (k15 : Nat) (h : AHeap), Cells I hb (.own k15) 0 [.int .i64 x.sig, wr, wb] → Ext hb h → Res ((f19.J I (AM.lim ⟨P, I, genF P Sh.prims⟩) (n)).2.2.2.1.1 (.ptr l o) (.ptr (.own k2) 0) (.int .i64 i) (.ptr (.own k15) 0) (.int .i64 ((j : Int) + 1)) h) fun u g =>
          u = rV ((fuFrom (instrB q x) (endB x) i (j + 1) (x.blocks.drop (j + 1))).or R) ∧ Ext hs g := ih
      have cd := rN_code (wc := wb) hq' es0 hfu hn hy (hargs y (List.mem_of_getElem? hy)).2 (hargs y (List.mem_of_getElem? hy)).1 _ ih'
      refine Evt.step 8 cd fun n nx hb k2 es lo2 hi2 hval k15 h c15 e => ?_
      have eb := es0.trans es; have hlo := e.lo; have hls := es.lo
      rw [drop_of_get hy]
      rw [f19.n39]; unfold f19.b39
      (repeat' (first | refine Rf (fun hF hG => ?_) (fun hF hG => ?_) | assumption | (show Ext _ _; exact Ext.go) | (simp only [AHeap.next_alloc, AHeap.next_set, AHeap.next_kill, AHeap.next_res] at hle hsame) | simp (disch := first | exact D.go | fail) [setR, List.getElem?_cons_zero, List.getElem?_cons_succ, f19.n0, f19.b0, f19.n2, f19.b2, f19.n3, f19.b3, f19.n5, f19.b5, f19.n6, f19.b6, f19.n7, f19.b7, f19.n9, f19.b9, f19.n10, f19.b10, f19.n11, f19.b11, f19.n13, f19.b13, f19.n14, f19.b14, f19.n15, f19.b15, f19.n17, f19.b17, f19.n18, f19.b18, f19.n20, f19.b20, f19.n21, f19.b21, f19.n22, f19.b22, f19.n24, f19.b24, f19.n25, f19.b25, f19.n27, f19.b27, f19.n28, f19.b28, f19.n29, f19.b29, f19.n30, f19.b30, f19.n32, f19.b32, f19.n33, f19.b33, f19.n34, f19.b34, f19.n36, f19.b36, f19.n37, f19.b37, f19.n38, f19.b38, f19.n40, f19.b40, f19.n41, f19.b41, f19.n43, f19.b43, f19.n44, f19.b44, fuFrom, c15.rd0, c15.rd1, c15.rd2, swb.len, hlt, Option.or_assoc, *] | (refine Res.mono (nx _ (by omega) hb k2 es lo2 hi2 hval k15 _ c15 ?_) (fun u g hq => ?_); rotate_left; (obtain ⟨rfl, hq⟩ := hq); rotate_right))))
    0 (by omega)
  obtain ⟨N, hN⟩ := key
  refine ⟨N, fun n hn => ?_⟩
  have := hN n hn
  simp only [List.drop_zero] at this
  exact this
theorem rN_funcs {l : AM.Loc} {o : Nat} {q : Pg} (hq : PgA I h0 l o q) {hs : AHeap} (es0 : Ext h0 hs) (hargs : ∀ x ∈ q.funcs, ∀ y ∈ x.blocks, y.code.length ≤ 1000000 ∧ ∀ z ∈ y.code, z.args.length ≤ 1000000) (hfl : q.funcs.length ≤ 1000000) :
    Evt fun n => ∀ (hb : AHeap) (k2 : Nat), Ext hs hb → hs.next ≤ k2 → k2 < hb.next → (∀ g, Ext hb g → g.get k2 = some ⟨[Z 0, Z 0, Z 0], true⟩) → ∀ (h : AHeap), Ext hb h → Res ((f19.J I (AM.lim ⟨P, I, genF P Sh.prims⟩) (n)).2.1.2.2.2.1 (.ptr l o) (.ptr (.own k2) 0) (Z 0) h) fun u g => u = rV (namesFrom q 0 q.funcs) ∧ Ext hs g := by
  have hq' := hq
  obtain ⟨_, ⟨vr, vs, vf, vi, vu, rfl, rm, sr, ss, sf, si, su⟩, hc⟩ := hq
  have key := Evt.loop' q.funcs (F := fun i n => ∀ (hb : AHeap) (k2 : Nat), Ext hs hb → hs.next ≤ k2 → k2 < hb.next → (∀ g, Ext hb g → g.get k2 = some ⟨[Z 0, Z 0, Z 0], true⟩) → ∀ (h : AHeap), Ext hb h → Res ((f19.J I (AM.lim ⟨P, I, genF P Sh.prims⟩) (n)).2.1.2.2.2.1 (.ptr l o) (.ptr (.own k2) 0) (.int .i64 i) h) fun u g => u = rV (namesFrom q i (q.funcs.drop i)) ∧ Ext hs g)
    (Evt.all 8 fun n hb k2 es lo2 hi2 hval h e => by
      have eb := es0.trans es; have hlo := e.lo; have hls := es.lo
      rw [f19.n31]; unfold f19.b31
      (repeat' (first | refine Rf (fun hF hG => ?_) (fun hF hG => ?_) | assumption | (show Ext _ _; exact Ext.go) | (simp only [AHeap.next_alloc, AHeap.next_set, AHeap.next_kill, AHeap.next_res] at hle hsame) | simp (disch := first | exact D.go | fail) [setR, List.getElem?_cons_zero, List.getElem?_cons_succ, f19.n0, f19.b0, f19.n2, f19.b2, f19.n3, f19.b3, f19.n5, f19.b5, f19.n6, f19.b6, f19.n7, f19.b7, f19.n9, f19.b9, f19.n10, f19.b10, f19.n11, f19.b11, f19.n13, f19.b13, f19.n14, f19.b14, f19.n15, f19.b15, f19.n17, f19.b17, f19.n18, f19.b18, f19.n20, f19.b20, f19.n21, f19.b21, f19.n22, f19.b22, f19.n24, f19.b24, f19.n25, f19.b25, f19.n27, f19.b27, f19.n28, f19.b28, f19.n29, f19.b29, f19.n30, f19.b30, f19.n32, f19.b32, f19.n33, f19.b33, f19.n34, f19.b34, f19.n36, f19.b36, f19.n37, f19.b37, f19.n38, f19.b38, f19.n40, f19.b40, f19.n41, f19.b41, f19.n43, f19.b43, f19.n44, f19.b44, namesFrom, hval, hc.rd0, hc.rd1, hc.rd2, hc.rd3, hc.rd4, hc.rd5, sr.len, ss.len, sf.len, si.len, su.len, rin, su.self, noPt_f, noPt_b, noPt_i, *] | (refine Ret.thn (h0 := hb) (rnowhere _) ?_ (fun g hg hlo hle hsame hx => ?_))))
      all_goals (refine ⟨by by_cases hP : inB q.main q.funcs.length <;> simp [hP, noPt_f, noPt_b, noPt_i], Ext.set (es.trans hg) (Nb.o (by omega))⟩))
    (fun i x hx ih => by
      obtain ⟨l1, o1, hi, ⟨cf, hf, ha⟩⟩ := su.at hx
      have hf' := hf
      obtain ⟨wr, wb, rfl, r0, swr, swb⟩ := hf'
      have lwr := swr.lt
      have hld := fun g e => ha.rds (n := 3) g e rfl (by omega)
      have hlt := lt_of_get hx
      have hreg := Evt.loop x.regs (F := fun j n => ∀ (hb : AHeap) (k2 : Nat), Ext hs hb → hs.next ≤ k2 → k2 < hb.next → (∀ g, Ext hb g → g.get k2 = some ⟨[Z 0, Z 0, Z 0], true⟩) → ∀ (ok : Bool) (k15 : Nat) (h : AHeap), (ok = true → AllL (namedP q) (x.regs.take j)) → Cells I hb (.own k15) 0 [.int .i64 x.sig, wr, wb] → Ext hb h → Res ((f19.J I (AM.lim ⟨P, I, genF P Sh.prims⟩) (n)).2.2.1.1.2.2 (.ptr l o) (.ptr (.own k2) 0) (.bool ok) (.int .i64 i) (.ptr (.own k15) 0) (.int .i64 j) h) fun u g =>
          u = rV (if (ok && dc (AllL (namedP q) (x.regs.drop j))) = true then (fuFrom (instrB q x) (endB x) i 0 x.blocks).or (namesFrom q (i + 1) (q.funcs.drop (i + 1))) else some noPt) ∧ Ext hs g) 8
        (by
          by_cases hn : AllL (namedP q) x.regs
          · have blk := rN_blocks hq' es0 hf hn (hargs x (List.mem_of_getElem? hx)) (by omega) (namesFrom q (i + 1) (q.funcs.drop (i + 1))) ih
            refine Evt.step 8 blk fun n nx hb k2 es lo2 hi2 hval ok k15 h hok c15 e => ?_
            have eb := es0.trans es; have hlo := e.lo; have hls := es.lo
            rw [f19.n35]; unfold f19.b35
            (repeat' (first | refine Rf (fun hF hG => ?_) (fun hF hG => ?_) | assumption | (show Ext _ _; exact Ext.go) | (simp only [AHeap.next_alloc, AHeap.next_set, AHeap.next_kill, AHeap.next_res] at hle hsame) | simp (disch := first | exact D.go | fail) [setR, List.getElem?_cons_zero, List.getElem?_cons_succ, f19.n0, f19.b0, f19.n2, f19.b2, f19.n3, f19.b3, f19.n5, f19.b5, f19.n6, f19.b6, f19.n7, f19.b7, f19.n9, f19.b9, f19.n10, f19.b10, f19.n11, f19.b11, f19.n13, f19.b13, f19.n14, f19.b14, f19.n15, f19.b15, f19.n17, f19.b17, f19.n18, f19.b18, f19.n20, f19.b20, f19.n21, f19.b21, f19.n22, f19.b22, f19.n24, f19.b24, f19.n25, f19.b25, f19.n27, f19.b27, f19.n28, f19.b28, f19.n29, f19.b29, f19.n30, f19.b30, f19.n32, f19.b32, f19.n33, f19.b33, f19.n34, f19.b34, f19.n36, f19.b36, f19.n37, f19.b37, f19.n38, f19.b38, f19.n40, f19.b40, f19.n41, f19.b41, f19.n43, f19.b43, f19.n44, f19.b44, hval, c15.rd0, c15.rd1, c15.rd2, swr.len, noPt_f, noPt_b, noPt_i, *] | (refine Ret.thn (h0 := hb) (rnowhere _) ?_ (fun g hg hlo hle hsame hx => ?_)) | (refine Res.mono (nx _ (by omega) hb k2 es lo2 hi2 hval k15 _ c15 ?_) (fun u g hq => ?_); rotate_left; (obtain ⟨rfl, hq⟩ := hq); rotate_right)))
          · refine Evt.all 8 fun n hb k2 es lo2 hi2 hval ok k15 h hok c15 e => ?_
            have eb := es0.trans es; have hlo := e.lo; have hls := es.lo
            rw [List.take_length] at hok
            obtain rfl : ok = false := by cases ok with
              | false => rfl
              | true => exact absurd (hok rfl) hn
            rw [f19.n35]; unfold f19.b35
            (repeat' (first | refine Rf (fun hF hG => ?_) (fun hF hG => ?_) | assumption | (show Ext _ _; exact Ext.go) | (simp only [AHeap.next_alloc, AHeap.next_set, AHeap.next_kill, AHeap.next_res] at hle hsame) | simp (disch := first | exact D.go | fail) [setR, List.getElem?_cons_zero, List.getElem?_cons_succ, f19.n0, f19.b0, f19.n2, f19.b2, f19.n3, f19.b3, f19.n5, f19.b5, f19.n6, f19.b6, f19.n7, f19.b7, f19.n9, f19.b9, f19.n10, f19.b10, f19.n11, f19.b11, f19.n13, f19.b13, f19.n14, f19.b14, f19.n15, f19.b15, f19.n17, f19.b17, f19.n18, f19.b18, f19.n20, f19.b20, f19.n21, f19.b21, f19.n22, f19.b22, f19.n24, f19.b24, f19.n25, f19.b25, f19.n27, f19.b27, f19.n28, f19.b28, f19.n29, f19.b29, f19.n30, f19.b30, f19.n32, f19.b32, f19.n33, f19.b33, f19.n34, f19.b34, f19.n36, f19.b36, f19.n37, f19.b37, f19.n38, f19.b38, f19.n40, f19.b40, f19.n41, f19.b41, f19.n43, f19.b43, f19.n44, f19.b44, hval, c15.rd0, c15.rd1, c15.rd2, swr.len, noPt_f, noPt_b, noPt_i, *] | (refine Ret.thn (h0 := hb) (rnowhere _) ?_ (fun g hg hlo hle hsame hx => ?_)))))
        (fun j t n ht jh hb k2 es lo2 hi2 hval ok k15 h hok c15 e => by
          have eb := es0.trans es; have hlo := e.lo; have hls := es.lo
          obtain ⟨l2, o2, hj, ⟨_, ⟨rfl, _, _⟩, ht'⟩⟩ := swr.at ht
          have hld2 := fun g e => ht'.rds (n := 2) g e rfl (by omega)
          have hlt2 := lt_of_get ht; have hw2 := wrap_in (n := (j : Int) + 1) ⟨by omega, by omega⟩
          simp only [Int.natCast_add, Int.natCast_one] at jh
          rw [drop_of_get ht]
          rw [f19.n35]; unfold f19.b35
          (repeat' (first | refine Rf (fun hF hG => ?_) (fun hF hG => ?_) | assumption | (show Ext _ _; exact Ext.go) | (simp only [AHeap.next_alloc, AHeap.next_set, AHeap.next_kill, AHeap.next_res] at hle hsame) | simp (disch := first | exact D.go | fail) [setR, List.getElem?_cons_zero, List.getElem?_cons_succ, f19.n0, f19.b0, f19.n2, f19.b2, f19.n3, f19.b3, f19.n5, f19.b5, f19.n6, f19.b6, f19.n7, f19.b7, f19.n9, f19.b9, f19.n10, f19.b10, f19.n11, f19.b11, f19.n13, f19.b13, f19.n14, f19.b14, f19.n15, f19.b15, f19.n17, f19.b17, f19.n18, f19.b18, f19.n20, f19.b20, f19.n21, f19.b21, f19.n22, f19.b22, f19.n24, f19.b24, f19.n25, f19.b25, f19.n27, f19.b27, f19.n28, f19.b28, f19.n29, f19.b29, f19.n30, f19.b30, f19.n32, f19.b32, f19.n33, f19.b33, f19.n34, f19.b34, f19.n36, f19.b36, f19.n37, f19.b37, f19.n38, f19.b38, f19.n40, f19.b40, f19.n41, f19.b41, f19.n43, f19.b43, f19.n44, f19.b44, hval, c15.rd0, c15.rd1, c15.rd2, swr.len, hj, hld2, hlt2, hw2, *] | (refine Ret.thn (h0 := hb) (rnamed hq' t _ Ext.go) ?_ (fun g hg hlo hle hsame hx => ?_))))
          · refine Res.mono (jh (n + 5) (by omega) hb k2 es lo2 hi2 hval (dc (namedP q t)) k15 _ (fun hd => AllL_take (hok hF) ht (Eq.mp (dc_eq_true _) hd)) c15 Ext.go) (fun u g hq => ?_)
            obtain ⟨rfl, hq⟩ := hq
            refine ⟨?_, hq⟩
            simp only [hF, AllL_cons, dc_and, Bool.true_and]
          · refine Res.mono (jh (n + 5) (by omega) hb k2 es lo2 hi2 hval false k15 _ (fun hd => absurd hd (by simp)) c15 Ext.go) (fun u g hq => ?_)
            obtain ⟨rfl, hq⟩ := hq
            refine ⟨?_, hq⟩
            simp)
        0 (by omega)
      refine Evt.step 8 hreg fun n nx hb k2 es lo2 hi2 hval h e => ?_
      have eb := es0.trans es; have hlo := e.lo; have hls := es.lo
      rw [drop_of_get hx]
      rw [f19.n31]; unfold f19.b31
      (repeat' (first | refine Rf (fun hF hG => ?_) (fun hF hG => ?_) | assumption | (show Ext _ _; exact Ext.go) | (simp only [AHeap.next_alloc, AHeap.next_set, AHeap.next_kill, AHeap.next_res] at hle hsame) | simp (disch := first | exact D.go | fail) [setR, List.getElem?_cons_zero, List.getElem?_cons_succ, f19.n0, f19.b0, f19.n2, f19.b2, f19.n3, f19.b3, f19.n5, f19.b5, f19.n6, f19.b6, f19.n7, f19.b7, f19.n9, f19.b9, f19.n10, f19.b10, f19.n11, f19.b11, f19.n13, f19.b13, f19.n14, f19.b14, f19.n15, f19.b15, f19.n17, f19.b17, f19.n18, f19.b18, f19.n20, f19.b20, f19.n21, f19.b21, f19.n22, f19.b22, f19.n24, f19.b24, f19.n25, f19.b25, f19.n27, f19.b27, f19.n28, f19.b28, f19.n29, f19.b29, f19.n30, f19.b30, f19.n32, f19.b32, f19.n33, f19.b33, f19.n34, f19.b34, f19.n36, f19.b36, f19.n37, f19.b37, f19.n38, f19.b38, f19.n40, f19.b40, f19.n41, f19.b41, f19.n43, f19.b43, f19.n44, f19.b44, hval, hc.rd0, hc.rd1, hc.rd2, hc.rd3, hc.rd4, hc.rd5, sr.len, ss.len, sf.len, si.len, su.len, hi, hld, hlt, rin, swr.one, swb.one, namesFrom, *]))
      have eX : Ext hb ((h.alloc ⟨[Z 0, .nils, .nils], true⟩).set h.next ⟨[.int .i64 x.sig, wr, wb], true⟩) := Ext.go
      have hcf : Cells I ((h.alloc ⟨[Z 0, .nils, .nils], true⟩).set h.next ⟨[.int .i64 x.sig, wr, wb], true⟩) (.own h.next) 0 [.int .i64 x.sig, wr, wb] := Cells.own (AHeap.set_at (Nb.o rfl)) (by simp) fun i v hv => by simpa using hv
      refine Res.mono (nx _ (by omega) ((h.alloc ⟨[Z 0, .nils, .nils], true⟩).set h.next ⟨[.int .i64 x.sig, wr, wb], true⟩) k2 (es.trans eX) lo2 (by have := eX.lo; omega) (fun g e' => hval g (eX.trans e')) (dc (inB x.sig q.sigs.length)) h.next _ (fun _ y hy => by rw [List.take_zero] at hy; cases hy) hcf (Ext.refl _)) (fun u g hq => ?_)
      obtain ⟨rfl, hq⟩ := hq
      refine ⟨?_, hq⟩
      simp only [namesFrom, List.drop_zero, dc_and])
    0 (by omega)
  obtain ⟨N, hN⟩ := key
  refine ⟨N, fun n hn => ?_⟩
  have := hN n hn
  simp only [List.drop_zero] at this
  exact this
end
end
end Go.Proofs.YthihegmbdclikaaDoor.Tx

set_option linter.unusedSimpArgs false
set_option linter.unusedVariables false
namespace Go.Proofs.YthihegmbdclikaaDoor.Tx
noncomputable section
open Go.AM Go.Proofs.YthihegmbdclikaaDoor.Sf
section
variable {I : Inp} {h0 : AHeap}
def finV (q : Pg) (b : Bool) : AVal := rV (if b = true then namesFrom q 0 q.funcs else some noPt)
theorem finV_t (q : Pg) : finV q true = rV (namesFrom q 0 q.funcs) := by simp [finV]
theorem finV_f (q : Pg) : finV q false = .tuple [ptV noPt, .bool false] := by simp [finV]
theorem rNames {l : AM.Loc} {o : Nat} {q : Pg} (hq : PgA I h0 l o q) (hs : AHeap) (es0 : Ext h0 hs) (hargs : ∀ x ∈ q.funcs, ∀ y ∈ x.blocks, y.code.length ≤ 1000000 ∧ ∀ z ∈ y.code, z.args.length ≤ 1000000) (hfl : q.funcs.length ≤ 1000000) :
    Ret ((AM.lim ⟨P, I, genF P Sh.prims⟩) 19 [.ptr l o] hs) hs (rV (namesS q)) := by
  have hfun := rN_funcs hq es0 hargs hfl
  have hq' := hq
  obtain ⟨_, ⟨vr, vs, vf, vi, vu, rfl, rm, sr, ss, sf, si, su⟩, hc⟩ := hq
  have lr := sr.lt; have ls := ss.lt; have lf := sf.lt; have li := si.lt; have lu := su.lt
  have h4 := Evt.loop' q.impls (F := fun i n => ∀ (hb : AHeap) (k2 : Nat), Ext hs hb → hs.next ≤ k2 → k2 < hb.next → (∀ g, Ext hb g → g.get k2 = some ⟨[Z 0, Z 0, Z 0], true⟩) → ∀ (ok : Bool) (h : AHeap), Ext hb h → Res ((f19.J I (AM.lim ⟨P, I, genF P Sh.prims⟩) (n)).2.1.1.1.2 (.ptr l o) (.ptr (.own k2) 0) (.bool ok) (.int .i64 i) h) fun u g => u = finV q (ok && dc (AllL (fun m => inB m.rec_ q.recs.length ∧ inB m.face q.faces.length ∧ AllL (fun x => inB x q.funcs.length) m.funcs) (q.impls.drop i))) ∧ Ext hs g)
    (Evt.step 8 hfun fun n nx hb k2 es lo2 hi2 hval ok h e => by
      have eb := es0.trans es; have hlo := e.lo; have hls := es.lo
      rw [f19.n23]; unfold f19.b23
      (repeat' (first | refine Rf (fun hF hG => ?_) (fun hF hG => ?_) | assumption | (show Ext _ _; exact Ext.go) | (simp only [AHeap.next_alloc, AHeap.next_set, AHeap.next_kill, AHeap.next_res] at hle hsame) | simp (disch := first | exact D.go | fail) [setR, List.getElem?_cons_zero, List.getElem?_cons_succ, f19.n0, f19.b0, f19.n2, f19.b2, f19.n3, f19.b3, f19.n5, f19.b5, f19.n6, f19.b6, f19.n7, f19.b7, f19.n9, f19.b9, f19.n10, f19.b10, f19.n11, f19.b11, f19.n13, f19.b13, f19.n14, f19.b14, f19.n15, f19.b15, f19.n17, f19.b17, f19.n18, f19.b18, f19.n20, f19.b20, f19.n21, f19.b21, f19.n22, f19.b22, f19.n24, f19.b24, f19.n25, f19.b25, f19.n27, f19.b27, f19.n28, f19.b28, f19.n29, f19.b29, f19.n30, f19.b30, f19.n32, f19.b32, f19.n33, f19.b33, f19.n34, f19.b34, f19.n36, f19.b36, f19.n37, f19.b37, f19.n38, f19.b38, f19.n40, f19.b40, f19.n41, f19.b41, f19.n43, f19.b43, f19.n44, f19.b44, hval, hc.rd0, hc.rd1, hc.rd2, hc.rd3, hc.rd4, hc.rd5, sr.len, ss.len, sf.len, si.len, su.len, noPt_f, noPt_b, noPt_i, finV_t, finV_f, *] | (refine Ret.thn (h0 := hb) (rnowhere _) ?_ (fun g hg hlo hle hsame hx => ?_)) | (refine Res.mono (nx _ (by omega) hb k2 es lo2 hi2 hval _ ?_) (fun u g hq => ?_); rotate_left; (obtain ⟨rfl, hq⟩ := hq); rotate_right))))
    (fun i x hx ih => by
      obtain ⟨l1, o1, hi, ⟨_, ⟨w, rfl, r0, r1, sw⟩, ha⟩⟩ := si.at hx
      have hld := fun g e => ha.rds (n := 3) g e rfl (by omega)
      have lw := sw.lt
      have hlt := lt_of_get hx; have hw := wrap_in (n := (i : Int) + 1) ⟨by omega, by omega⟩
      have inner := Evt.loop x.funcs (F := fun j n => ∀ (hb : AHeap) (k2 : Nat), Ext hs hb → hs.next ≤ k2 → k2 < hb.next → (∀ g, Ext hb g → g.get k2 = some ⟨[Z 0, Z 0, Z 0], true⟩) → ∀ (ok : Bool) (k12 : Nat) (h : AHeap), Cells I hb (.own k12) 0 [.int .i64 x.rec_, .int .i64 x.face, w] → Ext hb h → Res ((f19.J I (AM.lim ⟨P, I, genF P Sh.prims⟩) (n)).2.1.1.2.2.2 (.ptr l o) (.ptr (.own k2) 0) (.bool ok) (.int .i64 i) (.ptr (.own k12) 0) (.int .i64 j) h) fun u g =>
          u = finV q (ok && (dc (AllL (fun x => inB x q.funcs.length) (x.funcs.drop j)) && dc (AllL (fun m => inB m.rec_ q.recs.length ∧ inB m.face q.faces.length ∧ AllL (fun x => inB x q.funcs.length) m.funcs) (q.impls.drop (i + 1))))) ∧ Ext hs g) 8
        (Evt.step 8 ih fun n nx hb k2 es lo2 hi2 hval ok k12 h c12 e => by
          have eb := es0.trans es; have hlo := e.lo; have hls := es.lo
          simp only [Int.natCast_add, Int.natCast_one] at nx
          rw [f19.n26]; unfold f19.b26
          (repeat' (first | refine Rf (fun hF hG => ?_) (fun hF hG => ?_) | assumption | (show Ext _ _; exact Ext.go) | (simp only [AHeap.next_alloc, AHeap.next_set, AHeap.next_kill, AHeap.next_res] at hle hsame) | simp (disch := first | exact D.go | fail) [setR, List.getElem?_cons_zero, List.getElem?_cons_succ, f19.n0, f19.b0, f19.n2, f19.b2, f19.n3, f19.b3, f19.n5, f19.b5, f19.n6, f19.b6, f19.n7, f19.b7, f19.n9, f19.b9, f19.n10, f19.b10, f19.n11, f19.b11, f19.n13, f19.b13, f19.n14, f19.b14, f19.n15, f19.b15, f19.n17, f19.b17, f19.n18, f19.b18, f19.n20, f19.b20, f19.n21, f19.b21, f19.n22, f19.b22, f19.n24, f19.b24, f19.n25, f19.b25, f19.n27, f19.b27, f19.n28, f19.b28, f19.n29, f19.b29, f19.n30, f19.b30, f19.n32, f19.b32, f19.n33, f19.b33, f19.n34, f19.b34, f19.n36, f19.b36, f19.n37, f19.b37, f19.n38, f19.b38, f19.n40, f19.b40, f19.n41, f19.b41, f19.n43, f19.b43, f19.n44, f19.b44, c12.rd0, c12.rd1, c12.rd2, sw.len, hw, *] | (refine Res_post (A := fun b u _ => u = finV q b) (nx _ (by omega) hb k2 es lo2 hi2 hval _ _ ?_) ?_))))
        (fun j y n hy jh hb k2 es lo2 hi2 hval ok k12 h c12 e => by
          have eb := es0.trans es; have hlo := e.lo; have hls := es.lo
          obtain ⟨l2, o2, hj, hy'⟩ := sw.at hy
          obtain ⟨hy', _⟩ := hy'.int
          have hlt2 := lt_of_get hy; have hw2 := wrap_in (n := (j : Int) + 1) ⟨by omega, by omega⟩
          simp only [Int.natCast_add, Int.natCast_one] at jh
          rw [drop_of_get hy]
          rw [f19.n26]; unfold f19.b26
          (repeat' (first | refine Rf (fun hF hG => ?_) (fun hF hG => ?_) | assumption | (show Ext _ _; exact Ext.go) | (simp only [AHeap.next_alloc, AHeap.next_set, AHeap.next_kill, AHeap.next_res] at hle hsame) | simp (disch := first | exact D.go | fail) [setR, List.getElem?_cons_zero, List.getElem?_cons_succ, f19.n0, f19.b0, f19.n2, f19.b2, f19.n3, f19.b3, f19.n5, f19.b5, f19.n6, f19.b6, f19.n7, f19.b7, f19.n9, f19.b9, f19.n10, f19.b10, f19.n11, f19.b11, f19.n13, f19.b13, f19.n14, f19.b14, f19.n15, f19.b15, f19.n17, f19.b17, f19.n18, f19.b18, f19.n20, f19.b20, f19.n21, f19.b21, f19.n22, f19.b22, f19.n24, f19.b24, f19.n25, f19.b25, f19.n27, f19.b27, f19.n28, f19.b28, f19.n29, f19.b29, f19.n30, f19.b30, f19.n32, f19.b32, f19.n33, f19.b33, f19.n34, f19.b34, f19.n36, f19.b36, f19.n37, f19.b37, f19.n38, f19.b38, f19.n40, f19.b40, f19.n41, f19.b41, f19.n43, f19.b43, f19.n44, f19.b44, c12.rd0, c12.rd1, c12.rd2, sw.len, hj, hy', hlt2, hw2, hc.rd0, hc.rd1, hc.rd2, hc.rd3, hc.rd4, hc.rd5, sr.len, ss.len, sf.len, si.len, su.len, rin, Bool.and_assoc, *] | (refine Res_post (A := fun b u _ => u = finV q b) (jh _ (by omega) hb k2 es lo2 hi2 hval _ k12 _ c12 ?_) ?_))))
        0 (by omega)
      refine Evt.step 8 inner fun n nx hb k2 es lo2 hi2 hval ok h e => ?_
      have eb := es0.trans es; have hlo := e.lo; have hls := es.lo
      have eX : Ext hb ((h.alloc ⟨[Z 0, Z 0, .nils], true⟩).set h.next ⟨[.int .i64 x.rec_, .int .i64 x.face, w], true⟩) := Ext.go
      have hcf : Cells I ((h.alloc ⟨[Z 0, Z 0, .nils], true⟩).set h.next ⟨[.int .i64 x.rec_, .int .i64 x.face, w], true⟩) (.own h.next) 0 [.int .i64 x.rec_, .int .i64 x.face, w] := Cells.own (AHeap.set_at (Nb.o rfl)) (by simp) fun i v hv => by simpa using hv
      have nx' := fun m hm ok g (e' : Ext _ g) => nx m hm ((h.alloc ⟨[Z 0, Z 0, .nils], true⟩).set h.next ⟨[.int .i64 x.rec_, .int .i64 x.face, w], true⟩) k2 (es.trans eX) lo2 (by have := eX.lo; omega) (fun g e' => hval g (eX.trans e')) ok h.next g hcf e'
      rw [drop_of_get hx]
      rw [f19.n23]; unfold f19.b23
      (repeat' (first | refine Rf (fun hF hG => ?_) (fun hF hG => ?_) | assumption | (show Ext _ _; exact Ext.go) | (simp only [AHeap.next_alloc, AHeap.next_set, AHeap.next_kill, AHeap.next_res] at hle hsame) | simp (disch := first | exact D.go | fail) [setR, List.getElem?_cons_zero, List.getElem?_cons_succ, f19.n0, f19.b0, f19.n2, f19.b2, f19.n3, f19.b3, f19.n5, f19.b5, f19.n6, f19.b6, f19.n7, f19.b7, f19.n9, f19.b9, f19.n10, f19.b10, f19.n11, f19.b11, f19.n13, f19.b13, f19.n14, f19.b14, f19.n15, f19.b15, f19.n17, f19.b17, f19.n18, f19.b18, f19.n20, f19.b20, f19.n21, f19.b21, f19.n22, f19.b22, f19.n24, f19.b24, f19.n25, f19.b25, f19.n27, f19.b27, f19.n28, f19.b28, f19.n29, f19.b29, f19.n30, f19.b30, f19.n32, f19.b32, f19.n33, f19.b33, f19.n34, f19.b34, f19.n36, f19.b36, f19.n37, f19.b37, f19.n38, f19.b38, f19.n40, f19.b40, f19.n41, f19.b41, f19.n43, f19.b43, f19.n44, f19.b44, hc.rd0, hc.rd1, hc.rd2, hc.rd3, hc.rd4, hc.rd5, sr.len, ss.len, sf.len, si.len, su.len, hi, hld, hlt, rin, sw.one, Bool.and_assoc, *] | (refine Res_post (A := fun b u _ => u = finV q b) (nx' _ (by omega) _ _ ?_) ?_))))
    0 (by omega)
  have h3 := Evt.loop' q.faces (F := fun i n => ∀ (hb : AHeap) (k2 : Nat), Ext hs hb → hs.next ≤ k2 → k2 < hb.next → (∀ g, Ext hb g → g.get k2 = some ⟨[Z 0, Z 0, Z 0], true⟩) → ∀ (ok : Bool) (h : AHeap), Ext hb h → Res ((f19.J I (AM.lim ⟨P, I, genF P Sh.prims⟩) (n)).1.2.2.1.1 (.ptr l o) (.ptr (.own k2) 0) (.bool ok) (.int .i64 i) h) fun u g => u = finV q (ok && (dc (AllL (fun f => AllL (fun x => inB x q.sigs.length) f) (q.faces.drop i)) && (dc (AllL (fun m => inB m.rec_ q.recs.length ∧ inB m.face q.faces.length ∧ AllL (fun x => inB x q.funcs.length) m.funcs) q.impls)))) ∧ Ext hs g)
    (Evt.step 8 h4 fun n nx hb k2 es lo2 hi2 hval ok h e => by
      have eb := es0.trans es; have hlo := e.lo; have hls := es.lo
      rw [f19.n16]; unfold f19.b16
      (repeat' (first | refine Rf (fun hF hG => ?_) (fun hF hG => ?_) | assumption | (show Ext _ _; exact Ext.go) | (simp only [AHeap.next_alloc, AHeap.next_set, AHeap.next_kill, AHeap.next_res] at hle hsame) | simp (disch := first | exact D.go | fail) [setR, List.getElem?_cons_zero, List.getElem?_cons_succ, f19.n0, f19.b0, f19.n2, f19.b2, f19.n3, f19.b3, f19.n5, f19.b5, f19.n6, f19.b6, f19.n7, f19.b7, f19.n9, f19.b9, f19.n10, f19.b10, f19.n11, f19.b11, f19.n13, f19.b13, f19.n14, f19.b14, f19.n15, f19.b15, f19.n17, f19.b17, f19.n18, f19.b18, f19.n20, f19.b20, f19.n21, f19.b21, f19.n22, f19.b22, f19.n24, f19.b24, f19.n25, f19.b25, f19.n27, f19.b27, f19.n28, f19.b28, f19.n29, f19.b29, f19.n30, f19.b30, f19.n32, f19.b32, f19.n33, f19.b33, f19.n34, f19.b34, f19.n36, f19.b36, f19.n37, f19.b37, f19.n38, f19.b38, f19.n40, f19.b40, f19.n41, f19.b41, f19.n43, f19.b43, f19.n44, f19.b44, hc.rd0, hc.rd1, hc.rd2, hc.rd3, hc.rd4, hc.rd5, sr.len, ss.len, sf.len, si.len, su.len, *] | (refine Res_post (A := fun b u _ => u = finV q b) (nx _ (by omega) hb k2 es lo2 hi2 hval _ _ ?_) ?_))))
    (fun i x hx ih => by
      obtain ⟨l1, o1, hi, ⟨_, ⟨w, rfl, sw⟩, ha⟩⟩ := sf.at hx
      have lw := sw.lt
      have hlt := lt_of_get hx; have hw := wrap_in (n := (i : Int) + 1) ⟨by omega, by omega⟩
      have inner := Evt.loop x (F := fun j n => ∀ (hb : AHeap) (k2 : Nat), Ext hs hb → hs.next ≤ k2 → k2 < hb.next → (∀ g, Ext hb g → g.get k2 = some ⟨[Z 0, Z 0, Z 0], true⟩) → ∀ (ok : Bool) (h : AHeap), Ext hb h → Res ((f19.J I (AM.lim ⟨P, I, genF P Sh.prims⟩) (n)).1.2.2.2.1 (.ptr l o) (.ptr (.own k2) 0) (.bool ok) (.int .i64 i) (.int .i64 j) h) fun u g =>
          u = finV q (ok && (dc (AllL (fun x => inB x q.sigs.length) (x.drop j)) && ((dc (AllL (fun f => AllL (fun x => inB x q.sigs.length) f) (q.faces.drop (i + 1))) && (dc (AllL (fun m => inB m.rec_ q.recs.length ∧ inB m.face q.faces.length ∧ AllL (fun x => inB x q.funcs.length) m.funcs) q.impls)))))) ∧ Ext hs g) 8
        (Evt.step 8 ih fun n nx hb k2 es lo2 hi2 hval ok h e => by
          have eb := es0.trans es; have hlo := e.lo; have hls := es.lo
          simp only [Int.natCast_add, Int.natCast_one] at nx
          rw [f19.n19]; unfold f19.b19
          (repeat' (first | refine Rf (fun hF hG => ?_) (fun hF hG => ?_) | assumption | (show Ext _ _; exact Ext.go) | (simp only [AHeap.next_alloc, AHeap.next_set, AHeap.next_kill, AHeap.next_res] at hle hsame) | simp (disch := first | exact D.go | fail) [setR, List.getElem?_cons_zero, List.getElem?_cons_succ, f19.n0, f19.b0, f19.n2, f19.b2, f19.n3, f19.b3, f19.n5, f19.b5, f19.n6, f19.b6, f19.n7, f19.b7, f19.n9, f19.b9, f19.n10, f19.b10, f19.n11, f19.b11, f19.n13, f19.b13, f19.n14, f19.b14, f19.n15, f19.b15, f19.n17, f19.b17, f19.n18, f19.b18, f19.n20, f19.b20, f19.n21, f19.b21, f19.n22, f19.b22, f19.n24, f19.b24, f19.n25, f19.b25, f19.n27, f19.b27, f19.n28, f19.b28, f19.n29, f19.b29, f19.n30, f19.b30, f19.n32, f19.b32, f19.n33, f19.b33, f19.n34, f19.b34, f19.n36, f19.b36, f19.n37, f19.b37, f19.n38, f19.b38, f19.n40, f19.b40, f19.n41, f19.b41, f19.n43, f19.b43, f19.n44, f19.b44, hc.rd0, hc.rd1, hc.rd2, hc.rd3, hc.rd4, hc.rd5, sr.len, ss.len, sf.len, si.len, su.len, hi, hlt, ha.rd0, sw.len, hw, Bool.and_assoc, *] | (refine Res_post (A := fun b u _ => u = finV q b) (nx _ (by omega) hb k2 es lo2 hi2 hval _ _ ?_) ?_))))
        (fun j y n hy jh hb k2 es lo2 hi2 hval ok h e => by
          have eb := es0.trans es; have hlo := e.lo; have hls := es.lo
          obtain ⟨l2, o2, hj, hy'⟩ := sw.at hy
          obtain ⟨hy', _⟩ := hy'.int
          have hlt2 := lt_of_get hy; have hw2 := wrap_in (n := (j : Int) + 1) ⟨by omega, by omega⟩
          simp only [Int.natCast_add, Int.natCast_one] at jh
          rw [drop_of_get hy]
          rw [f19.n19]; unfold f19.b19
          (repeat' (first | refine Rf (fun hF hG => ?_) (fun hF hG => ?_) | assumption | (show Ext _ _; exact Ext.go) | (simp only [AHeap.next_alloc, AHeap.next_set, AHeap.next_kill, AHeap.next_res] at hle hsame) | simp (disch := first | exact D.go | fail) [setR, List.getElem?_cons_zero, List.getElem?_cons_succ, f19.n0, f19.b0, f19.n2, f19.b2, f19.n3, f19.b3, f19.n5, f19.b5, f19.n6, f19.b6, f19.n7, f19.b7, f19.n9, f19.b9, f19.n10, f19.b10, f19.n11, f19.b11, f19.n13, f19.b13, f19.n14, f19.b14, f19.n15, f19.b15, f19.n17, f19.b17, f19.n18, f19.b18, f19.n20, f19.b20, f19.n21, f19.b21, f19.n22, f19.b22, f19.n24, f19.b24, f19.n25, f19.b25, f19.n27, f19.b27, f19.n28, f19.b28, f19.n29, f19.b29, f19.n30, f19.b30, f19.n32, f19.b32, f19.n33, f19.b33, f19.n34, f19.b34, f19.n36, f19.b36, f19.n37, f19.b37, f19.n38, f19.b38, f19.n40, f19.b40, f19.n41, f19.b41, f19.n43, f19.b43, f19.n44, f19.b44, hc.rd0, hc.rd1, hc.rd2, hc.rd3, hc.rd4, hc.rd5, sr.len, ss.len, sf.len, si.len, su.len, hi, hlt, ha.rd0, sw.len, hj, hy', hlt2, hw2, rin, Bool.and_assoc, *] | (refine Res_post (A := fun b u _ => u = finV q b) (jh _ (by omega) hb k2 es lo2 hi2 hval _ _ ?_) ?_))))
        0 (by omega)
      refine Evt.step 8 inner fun n nx hb k2 es lo2 hi2 hval ok h e => ?_
      have eb := es0.trans es; have hlo := e.lo; have hls := es.lo
      rw [drop_of_get hx]
      rw [f19.n16]; unfold f19.b16
      (repeat' (first | refine Rf (fun hF hG => ?_) (fun hF hG => ?_) | assumption | (show Ext _ _; exact Ext.go) | (simp only [AHeap.next_alloc, AHeap.next_set, AHeap.next_kill, AHeap.next_res] at hle hsame) | simp (disch := first | exact D.go | fail) [setR, List.getElem?_cons_zero, List.getElem?_cons_succ, f19.n0, f19.b0, f19.n2, f19.b2, f19.n3, f19.b3, f19.n5, f19.b5, f19.n6, f19.b6, f19.n7, f19.b7, f19.n9, f19.b9, f19.n10, f19.b10, f19.n11, f19.b11, f19.n13, f19.b13, f19.n14, f19.b14, f19.n15, f19.b15, f19.n17, f19.b17, f19.n18, f19.b18, f19.n20, f19.b20, f19.n21, f19.b21, f19.n22, f19.b22, f19.n24, f19.b24, f19.n25, f19.b25, f19.n27, f19.b27, f19.n28, f19.b28, f19.n29, f19.b29, f19.n30, f19.b30, f19.n32, f19.b32, f19.n33, f19.b33, f19.n34, f19.b34, f19.n36, f19.b36, f19.n37, f19.b37, f19.n38, f19.b38, f19.n40, f19.b40, f19.n41, f19.b41, f19.n43, f19.b43, f19.n44, f19.b44, hc.rd0, hc.rd1, hc.rd2, hc.rd3, hc.rd4, hc.rd5, sr.len, ss.len, sf.len, si.len, su.len, hi, hlt, Bool.and_assoc, *] | (refine Res_post (A := fun b u _ => u = finV q b) (nx _ (by omega) hb k2 es lo2 hi2 hval _ _ ?_) ?_))))
    0 (by omega)
  have h2 := Evt.loop' q.sigs (F := fun i n => ∀ (hb : AHeap) (k2 : Nat), Ext hs hb → hs.next ≤ k2 → k2 < hb.next → (∀ g, Ext hb g → g.get k2 = some ⟨[Z 0, Z 0, Z 0], true⟩) → ∀ (ok : Bool) (h : AHeap), Ext hb h → Res ((f19.J I (AM.lim ⟨P, I, genF P Sh.prims⟩) (n)).1.1.2.2.1 (.ptr l o) (.ptr (.own k2) 0) (.bool ok) (.int .i64 i) h) fun u g => u = finV q (ok && (dc (AllL (fun s => AllL (namedP q) s.params ∧ namedP q s.res) (q.sigs.drop i)) && (dc (AllL (fun f => AllL (fun x => inB x q.sigs.length) f) q.faces) && dc (AllL (fun m => inB m.rec_ q.recs.length ∧ inB m.face q.faces.length ∧ AllL (fun x => inB x q.funcs.length) m.funcs) q.impls)))) ∧ Ext hs g)
    (Evt.step 8 h3 fun n nx hb k2 es lo2 hi2 hval ok h e => by
      have eb := es0.trans es; have hlo := e.lo; have hls := es.lo
      rw [f19.n8]; unfold f19.b8
      (repeat' (first | refine Rf (fun hF hG => ?_) (fun hF hG => ?_) | assumption | (show Ext _ _; exact Ext.go) | (simp only [AHeap.next_alloc, AHeap.next_set, AHeap.next_kill, AHeap.next_res] at hle hsame) | simp (disch := first | exact D.go | fail) [setR, List.getElem?_cons_zero, List.getElem?_cons_succ, f19.n0, f19.b0, f19.n2, f19.b2, f19.n3, f19.b3, f19.n5, f19.b5, f19.n6, f19.b6, f19.n7, f19.b7, f19.n9, f19.b9, f19.n10, f19.b10, f19.n11, f19.b11, f19.n13, f19.b13, f19.n14, f19.b14, f19.n15, f19.b15, f19.n17, f19.b17, f19.n18, f19.b18, f19.n20, f19.b20, f19.n21, f19.b21, f19.n22, f19.b22, f19.n24, f19.b24, f19.n25, f19.b25, f19.n27, f19.b27, f19.n28, f19.b28, f19.n29, f19.b29, f19.n30, f19.b30, f19.n32, f19.b32, f19.n33, f19.b33, f19.n34, f19.b34, f19.n36, f19.b36, f19.n37, f19.b37, f19.n38, f19.b38, f19.n40, f19.b40, f19.n41, f19.b41, f19.n43, f19.b43, f19.n44, f19.b44, hc.rd0, hc.rd1, hc.rd2, hc.rd3, hc.rd4, hc.rd5, sr.len, ss.len, sf.len, si.len, su.len, *] | (refine Res_post (A := fun b u _ => u = finV q b) (nx _ (by omega) hb k2 es lo2 hi2 hval _ _ ?_) ?_))))
    (fun i x hx ih => by
      obtain ⟨l1, o1, hi, ⟨_, ⟨w, rfl, sw, r0, r1⟩, ha⟩⟩ := ss.at hx
      have lw := sw.lt
      have hlt := lt_of_get hx; have hw := wrap_in (n := (i : Int) + 1) ⟨by omega, by omega⟩
      have hldr := fun g e => (Cells.sub (d := 1) (ds := [.int .i64 x.res.kind, .int .i64 x.res.n]) ha (fun i v hv => by rw [Nat.add_comm]; match i with | 0 => exact hv | 1 => exact hv | i + 2 => simp at hv)).rds (n := 2) g e rfl (by omega)
      have inner := Evt.loop x.params (F := fun j n => ∀ (hb : AHeap) (k2 : Nat), Ext hs hb → hs.next ≤ k2 → k2 < hb.next → (∀ g, Ext hb g → g.get k2 = some ⟨[Z 0, Z 0, Z 0], true⟩) → ∀ (ok : Bool) (h : AHeap), Ext hb h → Res ((f19.J I (AM.lim ⟨P, I, genF P Sh.prims⟩) (n)).1.2.1.1.2 (.ptr l o) (.ptr (.own k2) 0) (.bool ok) (.int .i64 i) (.int .i64 j) h) fun u g =>
          u = finV q (ok && (dc (AllL (namedP q) (x.params.drop j)) && (dc (namedP q x.res) && (dc (AllL (fun s => AllL (namedP q) s.params ∧ namedP q s.res) (q.sigs.drop (i + 1))) && (dc (AllL (fun f => AllL (fun x => inB x q.sigs.length) f) q.faces) && dc (AllL (fun m => inB m.rec_ q.recs.length ∧ inB m.face q.faces.length ∧ AllL (fun x => inB x q.funcs.length) m.funcs) q.impls)))))) ∧ Ext hs g) 8
        (Evt.step 8 ih fun n nx hb k2 es lo2 hi2 hval ok h e => by
          have eb := es0.trans es; have hlo := e.lo; have hls := es.lo
          simp only [Int.natCast_add, Int.natCast_one] at nx
          rw [f19.n12]; unfold f19.b12
          (repeat' (first | refine Rf (fun hF hG => ?_) (fun hF hG => ?_) | assumption | (show Ext _ _; exact Ext.go) | (simp only [AHeap.next_alloc, AHeap.next_set, AHeap.next_kill, AHeap.next_res] at hle hsame) | simp (disch := first | exact D.go | fail) [setR, List.getElem?_cons_zero, List.getElem?_cons_succ, f19.n0, f19.b0, f19.n2, f19.b2, f19.n3, f19.b3, f19.n5, f19.b5, f19.n6, f19.b6, f19.n7, f19.b7, f19.n9, f19.b9, f19.n10, f19.b10, f19.n11, f19.b11, f19.n13, f19.b13, f19.n14, f19.b14, f19.n15, f19.b15, f19.n17, f19.b17, f19.n18, f19.b18, f19.n20, f19.b20, f19.n21, f19.b21, f19.n22, f19.b22, f19.n24, f19.b24, f19.n25, f19.b25, f19.n27, f19.b27, f19.n28, f19.b28, f19.n29, f19.b29, f19.n30, f19.b30, f19.n32, f19.b32, f19.n33, f19.b33, f19.n34, f19.b34, f19.n36, f19.b36, f19.n37, f19.b37, f19.n38, f19.b38, f19.n40, f19.b40, f19.n41, f19.b41, f19.n43, f19.b43, f19.n44, f19.b44, hc.rd0, hc.rd1, hc.rd2, hc.rd3, hc.rd4, hc.rd5, sr.len, ss.len, sf.len, si.len, su.len, hi, hlt, ha.rd0, hldr, sw.len, hw, Bool.and_assoc, *] | (refine Ret.thn (h0 := hb) (rnamed hq' x.res _ Ext.go) ?_ (fun g hg hlo hle hsame hx => ?_)) | (refine Res_post (A := fun b u _ => u = finV q b) (nx _ (by omega) hb k2 es lo2 hi2 hval _ _ ?_) ?_))))
        (fun j y n hy jh hb k2 es lo2 hi2 hval ok h e => by
          have eb := es0.trans es; have hlo := e.lo; have hls := es.lo
          obtain ⟨l2, o2, hj, ⟨_, ⟨rfl, _, _⟩, hy'⟩⟩ := sw.at hy
          have hld2 := fun g e => hy'.rds (n := 2) g e rfl (by omega)
          have hlt2 := lt_of_get hy; have hw2 := wrap_in (n := (j : Int) + 1) ⟨by omega, by omega⟩
          simp only [Int.natCast_add, Int.natCast_one] at jh
          rw [drop_of_get hy]
          rw [f19.n12]; unfold f19.b12
          (repeat' (first | refine Rf (fun hF hG => ?_) (fun hF hG => ?_) | assumption | (show Ext _ _; exact Ext.go) | (simp only [AHeap.next_alloc, AHeap.next_set, AHeap.next_kill, AHeap.next_res] at hle hsame) | simp (disch := first | exact D.go | fail) [setR, List.getElem?_cons_zero, List.getElem?_cons_succ, f19.n0, f19.b0, f19.n2, f19.b2, f19.n3, f19.b3, f19.n5, f19.b5, f19.n6, f19.b6, f19.n7, f19.b7, f19.n9, f19.b9, f19.n10, f19.b10, f19.n11, f19.b11, f19.n13, f19.b13, f19.n14, f19.b14, f19.n15, f19.b15, f19.n17, f19.b17, f19.n18, f19.b18, f19.n20, f19.b20, f19.n21, f19.b21, f19.n22, f19.b22, f19.n24, f19.b24, f19.n25, f19.b25, f19.n27, f19.b27, f19.n28, f19.b28, f19.n29, f19.b29, f19.n30, f19.b30, f19.n32, f19.b32, f19.n33, f19.b33, f19.n34, f19.b34, f19.n36, f19.b36, f19.n37, f19.b37, f19.n38, f19.b38, f19.n40, f19.b40, f19.n41, f19.b41, f19.n43, f19.b43, f19.n44, f19.b44, hc.rd0, hc.rd1, hc.rd2, hc.rd3, hc.rd4, hc.rd5, sr.len, ss.len, sf.len, si.len, su.len, hi, hlt, ha.rd0, hldr, sw.len, hj, hld2, hlt2, hw2, rin, Bool.and_assoc, *] | (refine Ret.thn (h0 := hb) (rnamed hq' y _ Ext.go) ?_ (fun g hg hlo hle hsame hx => ?_)) | (refine Res_post (A := fun b u _ => u = finV q b) (jh _ (by omega) hb k2 es lo2 hi2 hval _ _ ?_) ?_))))
        0 (by omega)
      refine Evt.step 8 inner fun n nx hb k2 es lo2 hi2 hval ok h e => ?_
      have eb := es0.trans es; have hlo := e.lo; have hls := es.lo
      rw [drop_of_get hx]
      rw [f19.n8]; unfold f19.b8
      (repeat' (first | refine Rf (fun hF hG => ?_) (fun hF hG => ?_) | assumption | (show Ext _ _; exact Ext.go) | (simp only [AHeap.next_alloc, AHeap.next_set, AHeap.next_kill, AHeap.next_res] at hle hsame) | simp (disch := first | exact D.go | fail) [setR, List.getElem?_cons_zero, List.getElem?_cons_succ, f19.n0, f19.b0, f19.n2, f19.b2, f19.n3, f19.b3, f19.n5, f19.b5, f19.n6, f19.b6, f19.n7, f19.b7, f19.n9, f19.b9, f19.n10, f19.b10, f19.n11, f19.b11, f19.n13, f19.b13, f19.n14, f19.b14, f19.n15, f19.b15, f19.n17, f19.b17, f19.n18, f19.b18, f19.n20, f19.b20, f19.n21, f19.b21, f19.n22, f19.b22, f19.n24, f19.b24, f19.n25, f19.b25, f19.n27, f19.b27, f19.n28, f19.b28, f19.n29, f19.b29, f19.n30, f19.b30, f19.n32, f19.b32, f19.n33, f19.b33, f19.n34, f19.b34, f19.n36, f19.b36, f19.n37, f19.b37, f19.n38, f19.b38, f19.n40, f19.b40, f19.n41, f19.b41, f19.n43, f19.b43, f19.n44, f19.b44, hc.rd0, hc.rd1, hc.rd2, hc.rd3, hc.rd4, hc.rd5, sr.len, ss.len, sf.len, si.len, su.len, hi, hlt, Bool.and_assoc, *] | (refine Res_post (A := fun b u _ => u = finV q b) (nx _ (by omega) hb k2 es lo2 hi2 hval _ _ ?_) ?_))))
    0 (by omega)
  have h1 := Evt.loop' q.recs (F := fun i n => ∀ (hb : AHeap) (k2 : Nat), Ext hs hb → hs.next ≤ k2 → k2 < hb.next → (∀ g, Ext hb g → g.get k2 = some ⟨[Z 0, Z 0, Z 0], true⟩) → ∀ (ok : Bool) (h : AHeap), Ext hb h → Res ((f19.J I (AM.lim ⟨P, I, genF P Sh.prims⟩) (n)).1.1.1.1.2 (.ptr l o) (.ptr (.own k2) 0) (.bool ok) (.int .i64 i) h) fun u g => u = finV q (ok && (dc (AllL (fun r => AllL (namedP q) r) (q.recs.drop i)) && (dc (AllL (fun s => AllL (namedP q) s.params ∧ namedP q s.res) q.sigs) && (dc (AllL (fun f => AllL (fun x => inB x q.sigs.length) f) q.faces) && dc (AllL (fun m => inB m.rec_ q.recs.length ∧ inB m.face q.faces.length ∧ AllL (fun x => inB x q.funcs.length) m.funcs) q.impls))))) ∧ Ext hs g)
    (Evt.step 8 h2 fun n nx hb k2 es lo2 hi2 hval ok h e => by
      have eb := es0.trans es; have hlo := e.lo; have hls := es.lo
      rw [f19.n1]; unfold f19.b1
      (repeat' (first | refine Rf (fun hF hG => ?_) (fun hF hG => ?_) | assumption | (show Ext _ _; exact Ext.go) | (simp only [AHeap.next_alloc, AHeap.next_set, AHeap.next_kill, AHeap.next_res] at hle hsame) | simp (disch := first | exact D.go | fail) [setR, List.getElem?_cons_zero, List.getElem?_cons_succ, f19.n0, f19.b0, f19.n2, f19.b2, f19.n3, f19.b3, f19.n5, f19.b5, f19.n6, f19.b6, f19.n7, f19.b7, f19.n9, f19.b9, f19.n10, f19.b10, f19.n11, f19.b11, f19.n13, f19.b13, f19.n14, f19.b14, f19.n15, f19.b15, f19.n17, f19.b17, f19.n18, f19.b18, f19.n20, f19.b20, f19.n21, f19.b21, f19.n22, f19.b22, f19.n24, f19.b24, f19.n25, f19.b25, f19.n27, f19.b27, f19.n28, f19.b28, f19.n29, f19.b29, f19.n30, f19.b30, f19.n32, f19.b32, f19.n33, f19.b33, f19.n34, f19.b34, f19.n36, f19.b36, f19.n37, f19.b37, f19.n38, f19.b38, f19.n40, f19.b40, f19.n41, f19.b41, f19.n43, f19.b43, f19.n44, f19.b44, hc.rd0, hc.rd1, hc.rd2, hc.rd3, hc.rd4, hc.rd5, sr.len, ss.len, sf.len, si.len, su.len, *] | (refine Res_post (A := fun b u _ => u = finV q b) (nx _ (by omega) hb k2 es lo2 hi2 hval _ _ ?_) ?_))))
    (fun i x hx ih => by
      obtain ⟨l1, o1, hi, ⟨_, ⟨w, rfl, sw⟩, ha⟩⟩ := sr.at hx
      have lw := sw.lt
      have hlt := lt_of_get hx; have hw := wrap_in (n := (i : Int) + 1) ⟨by omega, by omega⟩
      have inner := Evt.loop x (F := fun j n => ∀ (hb : AHeap) (k2 : Nat), Ext hs hb → hs.next ≤ k2 → k2 < hb.next → (∀ g, Ext hb g → g.get k2 = some ⟨[Z 0, Z 0, Z 0], true⟩) → ∀ (ok : Bool) (h : AHeap), Ext hb h → Res ((f19.J I (AM.lim ⟨P, I, genF P Sh.prims⟩) (n)).1.1.1.2.2.2 (.ptr l o) (.ptr (.own k2) 0) (.bool ok) (.int .i64 i) (.int .i64 j) h) fun u g =>
          u = finV q (ok && (dc (AllL (namedP q) (x.drop j)) && ((dc (AllL (fun r => AllL (namedP q) r) (q.recs.drop (i + 1))) && (dc (AllL (fun s => AllL (namedP q) s.params ∧ namedP q s.res) q.sigs) && (dc (AllL (fun f => AllL (fun x => inB x q.sigs.length) f) q.faces) && dc (AllL (fun m => inB m.rec_ q.recs.length ∧ inB m.face q.faces.length ∧ AllL (fun x => inB x q.funcs.length) m.funcs) q.impls))))))) ∧ Ext hs g) 8
        (Evt.step 8 ih fun n nx hb k2 es lo2 hi2 hval ok h e => by
          have eb := es0.trans es; have hlo := e.lo; have hls := es.lo
          simp only [Int.natCast_add, Int.natCast_one] at nx
          rw [f19.n4]; unfold f19.b4
          (repeat' (first | refine Rf (fun hF hG => ?_) (fun hF hG => ?_) | assumption | (show Ext _ _; exact Ext.go) | (simp only [AHeap.next_alloc, AHeap.next_set, AHeap.next_kill, AHeap.next_res] at hle hsame) | simp (disch := first | exact D.go | fail) [setR, List.getElem?_cons_zero, List.getElem?_cons_succ, f19.n0, f19.b0, f19.n2, f19.b2, f19.n3, f19.b3, f19.n5, f19.b5, f19.n6, f19.b6, f19.n7, f19.b7, f19.n9, f19.b9, f19.n10, f19.b10, f19.n11, f19.b11, f19.n13, f19.b13, f19.n14, f19.b14, f19.n15, f19.b15, f19.n17, f19.b17, f19.n18, f19.b18, f19.n20, f19.b20, f19.n21, f19.b21, f19.n22, f19.b22, f19.n24, f19.b24, f19.n25, f19.b25, f19.n27, f19.b27, f19.n28, f19.b28, f19.n29, f19.b29, f19.n30, f19.b30, f19.n32, f19.b32, f19.n33, f19.b33, f19.n34, f19.b34, f19.n36, f19.b36, f19.n37, f19.b37, f19.n38, f19.b38, f19.n40, f19.b40, f19.n41, f19.b41, f19.n43, f19.b43, f19.n44, f19.b44, hc.rd0, hc.rd1, hc.rd2, hc.rd3, hc.rd4, hc.rd5, sr.len, ss.len, sf.len, si.len, su.len, hi, hlt, ha.rd0, sw.len, hw, Bool.and_assoc, *] | (refine Res_post (A := fun b u _ => u = finV q b) (nx _ (by omega) hb k2 es lo2 hi2 hval _ _ ?_) ?_))))
        (fun j y n hy jh hb k2 es lo2 hi2 hval ok h e => by
          have eb := es0.trans es; have hlo := e.lo; have hls := es.lo
          obtain ⟨l2, o2, hj, ⟨_, ⟨rfl, _, _⟩, hy'⟩⟩ := sw.at hy
          have hld2 := fun g e => hy'.rds (n := 2) g e rfl (by omega)
          have hlt2 := lt_of_get hy; have hw2 := wrap_in (n := (j : Int) + 1) ⟨by omega, by omega⟩
          simp only [Int.natCast_add, Int.natCast_one] at jh
          rw [drop_of_get hy]
          rw [f19.n4]; unfold f19.b4
          (repeat' (first | refine Rf (fun hF hG => ?_) (fun hF hG => ?_) | assumption | (show Ext _ _; exact Ext.go) | (simp only [AHeap.next_alloc, AHeap.next_set, AHeap.next_kill, AHeap.next_res] at hle hsame) | simp (disch := first | exact D.go | fail) [setR, List.getElem?_cons_zero, List.getElem?_cons_succ, f19.n0, f19.b0, f19.n2, f19.b2, f19.n3, f19.b3, f19.n5, f19.b5, f19.n6, f19.b6, f19.n7, f19.b7, f19.n9, f19.b9, f19.n10, f19.b10, f19.n11, f19.b11, f19.n13, f19.b13, f19.n14, f19.b14, f19.n15, f19.b15, f19.n17, f19.b17, f19.n18, f19.b18, f19.n20, f19.b20, f19.n21, f19.b21, f19.n22, f19.b22, f19.n24, f19.b24, f19.n25, f19.b25, f19.n27, f19.b27, f19.n28, f19.b28, f19.n29, f19.b29, f19.n30, f19.b30, f19.n32, f19.b32, f19.n33, f19.b33, f19.n34, f19.b34, f19.n36, f19.b36, f19.n37, f19.b37, f19.n38, f19.b38, f19.n40, f19.b40, f19.n41, f19.b41, f19.n43, f19.b43, f19.n44, f19.b44, hc.rd0, hc.rd1, hc.rd2, hc.rd3, hc.rd4, hc.rd5, sr.len, ss.len, sf.len, si.len, su.len, hi, hlt, ha.rd0, sw.len, hj, hld2, hlt2, hw2, rin, Bool.and_assoc, *] | (refine Ret.thn (h0 := hb) (rnamed hq' y _ Ext.go) ?_ (fun g hg hlo hle hsame hx => ?_)) | (refine Res_post (A := fun b u _ => u = finV q b) (jh _ (by omega) hb k2 es lo2 hi2 hval _ _ ?_) ?_))))
        0 (by omega)
      refine Evt.step 8 inner fun n nx hb k2 es lo2 hi2 hval ok h e => ?_
      have eb := es0.trans es; have hlo := e.lo; have hls := es.lo
      rw [drop_of_get hx]
      rw [f19.n1]; unfold f19.b1
      (repeat' (first | refine Rf (fun hF hG => ?_) (fun hF hG => ?_) | assumption | (show Ext _ _; exact Ext.go) | (simp only [AHeap.next_alloc, AHeap.next_set, AHeap.next_kill, AHeap.next_res] at hle hsame) | simp (disch := first | exact D.go | fail) [setR, List.getElem?_cons_zero, List.getElem?_cons_succ, f19.n0, f19.b0, f19.n2, f19.b2, f19.n3, f19.b3, f19.n5, f19.b5, f19.n6, f19.b6, f19.n7, f19.b7, f19.n9, f19.b9, f19.n10, f19.b10, f19.n11, f19.b11, f19.n13, f19.b13, f19.n14, f19.b14, f19.n15, f19.b15, f19.n17, f19.b17, f19.n18, f19.b18, f19.n20, f19.b20, f19.n21, f19.b21, f19.n22, f19.b22, f19.n24, f19.b24, f19.n25, f19.b25, f19.n27, f19.b27, f19.n28, f19.b28, f19.n29, f19.b29, f19.n30, f19.b30, f19.n32, f19.b32, f19.n33, f19.b33, f19.n34, f19.b34, f19.n36, f19.b36, f19.n37, f19.b37, f19.n38, f19.b38, f19.n40, f19.b40, f19.n41, f19.b41, f19.n43, f19.b43, f19.n44, f19.b44, hc.rd0, hc.rd1, hc.rd2, hc.rd3, hc.rd4, hc.rd5, sr.len, ss.len, sf.len, si.len, su.len, hi, hlt, Bool.and_assoc, *] | (refine Res_post (A := fun b u _ => u = finV q b) (nx _ (by omega) hb k2 es lo2 hi2 hval _ _ ?_) ?_))))
    0 (by omega)
  obtain ⟨N, hN⟩ := h1
  have nb := hN N (Nat.le_refl _) (hs.alloc ⟨[Z 0, Z 0, Z 0], true⟩) hs.next (Ext.refl hs).alloc (Nat.le_refl _) (by simp) (fun g e => by rw [e.same _ (by simp)]; exact AHeap.alloc_at (Nb.o rfl)) true (hs.alloc ⟨[Z 0, Z 0, Z 0], true⟩) (Ext.refl _)
  refine f19.lim rfl (n := N) ?_
  unfold f19.e
  simp only [sAlloc_eq, to_Bnd, to_kA, to_kC, to_kS, Bnd_some]
  refine Res.mono nb (fun u g hq => ?_)
  obtain ⟨rfl, hq⟩ := hq
  refine ⟨?_, hq⟩
  simp only [finV, namesS, listsB, List.drop_zero, Bool.true_and, Bool.and_assoc]
end
end
end Go.Proofs.YthihegmbdclikaaDoor.Tx

set_option linter.unusedSimpArgs false
set_option linter.unusedVariables false
namespace Go.Proofs.YthihegmbdclikaaDoor.Tx
noncomputable section
open Go.AM Go.Proofs.YthihegmbdclikaaDoor.Sf
def tyIds : TyIds := ⟨3, 35, 26, 27, 28, 41, 42, 44, 45, 47, 32, 39, 29, 37, 30, 49, 31, 34⟩
theorem tyOk : tyIds.Ok P := by
  constructor <;> kernel_rfl
section
variable {I : Inp}
theorem begun (h : AHeap) : (AM.lim ⟨P, I, genF P Sh.prims⟩) 10 [] h = some (.bool true, h) := by
  refine lim_of (C := ⟨P, I, genF P Sh.prims⟩) (n := 1) ?_
  simp only [callF, genF, show Sh.prims 10 = some AM.yesPrim from rfl]; rfl
theorem lawTrue {g : Nat} {args : List AVal} (hr : Res ((AM.lim ⟨P, I, genF P Sh.prims⟩) g args ⟨.nil, 0⟩) fun u _ => u = .bool true) : ∃ m, saysTrue (callF P I (genF P Sh.prims) m g args ⟨.nil, 0⟩) = true := by
  obtain ⟨v, h', e, rfl⟩ := hr
  exact lim_true (C := ⟨P, I, genF P Sh.prims⟩) e
end
end
end Go.Proofs.YthihegmbdclikaaDoor.Tx

set_option linter.unusedSimpArgs false
set_option linter.unusedVariables false
namespace Go.Proofs.YthihegmbdclikaaDoor.Tx
noncomputable section
open Go.AM Go.Proofs.YthihegmbdclikaaDoor.Sf
section
variable {I : Inp}
theorem bounds_facts {q : Pg} (h : boundsB q = true) : (∀ x ∈ q.funcs, ∀ y ∈ x.blocks, y.code.length ≤ 1000000 ∧ ∀ z ∈ y.code, z.args.length ≤ 1000000) ∧ q.funcs.length ≤ 1000000 := by
  simp only [boundsB, lensB, innerB, Bool.and_eq_true, dc_eq_true] at h
  obtain ⟨⟨⟨_, hf⟩, _⟩, ⟨_, hb⟩, _⟩ := h
  refine ⟨fun x hx y hy => ?_, by omega⟩
  have hx' := hb x hx
  simp only [bodyB, Bool.and_eq_true, dc_eq_true] at hx'
  have hy' := hx'.2 y hy
  exact ⟨by omega, fun z hz => by have := hy'.2 z hz; omega⟩
theorem bkFrom_ge {PI : Ins → Bool} {ok : Bool} {f b : Int} {p : Pt} : ∀ (l : List Ins) (k : Nat), bkFrom PI ok f b k l = some p → p.f = f
  | [], k, h => by
    unfold bkFrom at h
    split at h
    · cases h
    · cases h; rfl
  | i :: r, k, h => by
    unfold bkFrom at h
    split at h
    · exact bkFrom_ge r (k + 1) h
    · cases h; rfl
theorem fuFrom_ge {PI : Ins → Bool} {PB : Bk → Bool} {f : Int} {p : Pt} : ∀ (l : List Bk) (b : Nat), fuFrom PI PB f b l = some p → p.f = f
  | [], b, h => by simp [fuFrom] at h
  | x :: r, b, h => by
    unfold fuFrom at h
    rw [Option.or_eq_some_iff] at h
    rcases h with h | ⟨_, h⟩
    · exact bkFrom_ge _ _ h
    · exact fuFrom_ge r (b + 1) h
theorem namesFrom_ge {q : Pg} {p : Pt} : ∀ (l : List Fu) (i : Nat), namesFrom q i l = some p → 0 ≤ p.f ∨ p = noPt
  | [], i, h => by
    unfold namesFrom at h
    split at h
    · cases h
    · cases h; exact .inr rfl
  | f :: r, i, h => by
    unfold namesFrom at h
    split at h
    · rw [Option.or_eq_some_iff] at h
      rcases h with h | ⟨_, h⟩
      · exact .inl (by rw [fuFrom_ge _ _ h]; omega)
      · exact namesFrom_ge r (i + 1) h
    · cases h; exact .inr rfl
theorem namesS_ge {q : Pg} {p : Pt} (h : namesS q = some p) : 0 ≤ p.f ∨ p = noPt := by
  unfold namesS at h
  split at h
  · exact namesFrom_ge _ _ h
  · cases h; exact .inr rfl
end
end
end Go.Proofs.YthihegmbdclikaaDoor.Tx

set_option linter.unusedSimpArgs false
set_option linter.unusedVariables false
namespace Go.Proofs.YthihegmbdclikaaDoor.Tx
noncomputable section
open Go.AM Go.Proofs.YthihegmbdclikaaDoor.Sf
section
variable {I : Inp} {h0 : AHeap}
/-! types are alike -/
@[simp] theorem pEq_two (neg c : Bool) (k k' : IntKind) (a b a' b' : Int) (h : AHeap) : pEq P neg (.struct [.i, .i]) c (.agg [.int k a, .int k' b]) (.agg [.int k a', .int k' b']) h = some (.bool (if neg then !dc (a = a' ∧ b = b') else dc (a = a' ∧ b = b'))) := by
  simp only [pEq, aeq, structEq, scalarsEq, scalarEq, eqI_spec, dc_decide]
  rw [show (a == a') = decide (a = a') by rw [Bool.eq_iff_iff]; simp, show (b == b') = decide (b = b') by rw [Bool.eq_iff_iff]; simp]
  by_cases h1 : a = a' <;> by_cases h2 : b = b' <;> simp [h1, h2]
abbrev tyV (t : Ty) : AVal := .agg [.int .i64 t.kind, .int .i64 t.n]
def tyE (a b : Ty) : Prop := a.kind = b.kind ∧ a.n = b.n
@[simp high] theorem pEq_ty (neg c : Bool) (a b : Ty) (h : AHeap) : pEq P neg (.struct [.i, .i]) c (tyV a) (tyV b) h = some (.bool (if neg then !dc (tyE a b) else dc (tyE a b))) := pEq_two ..
theorem req (a b : Ty) (hb : AHeap) : Ret ((AM.lim ⟨P, I, genF P Sh.prims⟩) 35 [tyV a, tyV b] hb) hb (.bool (dc (tyE a b))) := by
  refine f35.lim rfl (n := 2) ?_
  unfold f35.e
  (repeat' (first | refine Rf (fun hF hG => ?_) (fun hF hG => ?_) | assumption | (show Ext _ _; exact Ext.go) | (simp only [AHeap.next_alloc, AHeap.next_set, AHeap.next_kill, AHeap.next_res] at hle hsame) | simp (disch := first | exact D.go | fail) [setR, List.getElem?_cons_zero, List.getElem?_cons_succ, setR, tyE, *]))
theorem rtyp {cf : List AVal} {f : Fu} (hf : FuC I h0 cf f) {r : Int} (hr : inB r f.regs.length) (hb : AHeap) (eb : Ext h0 hb) : Ret ((AM.lim ⟨P, I, genF P Sh.prims⟩) 34 [.agg cf, .int .i64 r] hb) hb (tyV (nth f.regs r ⟨0, 0⟩)) := by
  obtain ⟨wr, wb, rfl, r0, swr, swb⟩ := hf
  obtain ⟨l1, o1, hi, ⟨_, ⟨rfl, q0, q1⟩, ha⟩, _⟩ := swr.atI hr.1 hr.2 ⟨0, 0⟩
  have hld := fun g e => ha.rds (n := 2) g e rfl (by omega)
  refine f34.lim rfl (n := 2) ?_
  unfold f34.e
  (repeat' (first | refine Rf (fun hF hG => ?_) (fun hF hG => ?_) | assumption | (show Ext _ _; exact Ext.go) | (simp only [AHeap.next_alloc, AHeap.next_set, AHeap.next_kill, AHeap.next_res] at hle hsame) | simp (disch := first | exact D.go | fail) [setR, List.getElem?_cons_zero, List.getElem?_cons_succ, setR, hi, hld, *]))
/-! which Impl -/
def implFrom (a b : Int) : Nat → List Im → Int
  | _, [] => -1
  | i, m :: r => if m.rec_ = a ∧ m.face = b then i else implFrom a b (i + 1) r
theorem rImpl {l : AM.Loc} {o : Nat} {q : Pg} (hq : PgA I h0 l o q) (a b : Int) (hb : AHeap) (eb : Ext h0 hb) : Ret ((AM.lim ⟨P, I, genF P Sh.prims⟩) 36 [.ptr l o, .int .i64 a, .int .i64 b] hb) hb (.int .i64 (implFrom a b 0 q.impls)) := by
  obtain ⟨_, ⟨vr, vs, vf, vi, vu, rfl, rm, sr, ss, sf, si, su⟩, hc⟩ := hq
  have hL := si.lt
  obtain ⟨N, hN⟩ := Evt.loop q.impls (F := fun i n => ∀ h, Ext hb h → Res ((f36.J I (AM.lim ⟨P, I, genF P Sh.prims⟩) (n)).1.2 (.ptr l o) (.int .i64 a) (.int .i64 b) (.int .i64 i) h) fun u g => u = .int .i64 (implFrom a b i (q.impls.drop i)) ∧ Ext hb g) 5
    (Evt.all 5 fun n h e => by
      rw [f36.n1]; unfold f36.b1
      (repeat' (first | refine Rf (fun hF hG => ?_) (fun hF hG => ?_) | assumption | (show Ext _ _; exact Ext.go) | (simp only [AHeap.next_alloc, AHeap.next_set, AHeap.next_kill, AHeap.next_res] at hle hsame) | simp (disch := first | exact D.go | fail) [setR, List.getElem?_cons_zero, List.getElem?_cons_succ, f36.n0, f36.b0, f36.n2, f36.b2, f36.n3, f36.b3, hc.rd0, hc.rd1, hc.rd2, hc.rd3, hc.rd4, hc.rd5, sr.len, ss.len, sf.len, si.len, su.len, implFrom, *])))
    (fun i x n hx ih h e => by
      obtain ⟨l1, o1, hi, ⟨_, ⟨w, rfl, r0, r1, sw⟩, ha⟩⟩ := si.at hx
      have hlt := lt_of_get hx; have hw := wrap_in (n := (i : Int) + 1) ⟨by omega, by omega⟩; simp only [Int.natCast_add, Int.natCast_one] at ih; rw [drop_of_get hx]; have hlo := e.lo
      rw [f36.n1]; unfold f36.b1
      (repeat' (first | refine Rf (fun hF hG => ?_) (fun hF hG => ?_) | assumption | (show Ext _ _; exact Ext.go) | (simp only [AHeap.next_alloc, AHeap.next_set, AHeap.next_kill, AHeap.next_res] at hle hsame) | simp (disch := first | exact D.go | fail) [setR, List.getElem?_cons_zero, List.getElem?_cons_succ, f36.n0, f36.b0, f36.n2, f36.b2, f36.n3, f36.b3, hc.rd0, hc.rd1, hc.rd2, hc.rd3, hc.rd4, hc.rd5, sr.len, ss.len, sf.len, si.len, su.len, hi, ha.rd0, ha.rd1, hw, hlt, implFrom, *] | (refine Res.mono (ih _ (by omega) _ ?_) (fun u g hq => ?_); rotate_left; (obtain ⟨rfl, hq⟩ := hq); rotate_right))))
    0 (by omega)
  refine f36.lim rfl (n := N) ?_
  unfold f36.e
  (repeat' (first | refine Rf (fun hF hG => ?_) (fun hF hG => ?_) | assumption | (show Ext _ _; exact Ext.go) | (simp only [AHeap.next_alloc, AHeap.next_set, AHeap.next_kill, AHeap.next_res] at hle hsame) | simp (disch := first | exact D.go | fail) [setR, List.getElem?_cons_zero, List.getElem?_cons_succ, setR, *] | (refine Res.mono (hN _ (Nat.le_refl _) _ ?_) (fun u g hq => ?_); rotate_left; (obtain ⟨rfl, hq⟩ := hq); rotate_right)))
theorem timpl1 {cs : List AVal} {m : Im} (hm : ImC I h0 cs m) (a b : Int) {k4 k5 : Nat} (hb : AHeap) (eb : Ext h0 hb) (c4 : Cells I hb (.own k4) 0 [.int .i64 a]) (c5 : Cells I hb (.own k5) 0 [.int .i64 b]) :
    Ret ((AM.lim ⟨P, I, genF P Sh.prims⟩) 62 [.agg cs, .ptr (.own k4) 0, .ptr (.own k5) 0] hb) hb (.bool (dc (m.rec_ = a ∧ m.face = b))) := by
  obtain ⟨w, rfl, r0, r1, sw⟩ := hm
  refine f62.lim rfl (n := 2) ?_
  unfold f62.e
  (repeat' (first | refine Rf (fun hF hG => ?_) (fun hF hG => ?_) | assumption | (show Ext _ _; exact Ext.go) | (simp only [AHeap.next_alloc, AHeap.next_set, AHeap.next_kill, AHeap.next_res] at hle hsame) | simp (disch := first | exact D.go | fail) [setR, List.getElem?_cons_zero, List.getElem?_cons_succ, setR, c4.rd0, c5.rd0, sw.one, *]))
theorem tIdx {v : AVal} {ms : List Im} (sv : SlOf 3 (At I h0 (ImC I h0)) v ms) (a b : Int) {k4 k5 : Nat} (hb : AHeap) (eb : Ext h0 hb) (c4 : Cells I hb (.own k4) 0 [.int .i64 a]) (c5 : Cells I hb (.own k5) 0 [.int .i64 b]) :
    Ret ((AM.lim ⟨P, I, genF P Sh.prims⟩) 61 [v, .func (.func 62) [] [.ptr (.own k4) 0, .ptr (.own k5) 0]] hb) hb (.int .i64 (implFrom a b 0 ms)) := by
  have hL := sv.lt
  obtain ⟨N, hN⟩ := Evt.loop ms (F := fun i n => ∀ h, Ext hb h → Res ((f61.J I (AM.lim ⟨P, I, genF P Sh.prims⟩) (n)).1.2 v (.func (.func 62) [] [.ptr (.own k4) 0, .ptr (.own k5) 0]) (.int .i64 ms.length) (.int .i64 i) h) fun u g => u = .int .i64 (implFrom a b i (ms.drop i)) ∧ Ext hb g) 5
    (Evt.all 5 fun n h e => by
      rw [f61.n1]; unfold f61.b1
      (repeat' (first | refine Rf (fun hF hG => ?_) (fun hF hG => ?_) | assumption | (show Ext _ _; exact Ext.go) | (simp only [AHeap.next_alloc, AHeap.next_set, AHeap.next_kill, AHeap.next_res] at hle hsame) | simp (disch := first | exact D.go | fail) [setR, List.getElem?_cons_zero, List.getElem?_cons_succ, f61.n0, f61.b0, f61.n2, f61.b2, f61.n3, f61.b3, implFrom, *])))
    (fun i x n hx ih h e => by
      obtain ⟨l1, o1, hi, ⟨cs, hm, ha⟩⟩ := sv.at hx
      have hcs : cs.length = 3 := by obtain ⟨w, rfl, _⟩ := hm; rfl
      have hld := fun g e => ha.rds (n := 3) g e hcs (by omega)
      have hlt := lt_of_get hx; have hw := wrap_in (n := (i : Int) + 1) ⟨by omega, by omega⟩; simp only [Int.natCast_add, Int.natCast_one] at ih; rw [drop_of_get hx]; have hlo := e.lo
      rw [f61.n1]; unfold f61.b1
      (repeat' (first | refine Rf (fun hF hG => ?_) (fun hF hG => ?_) | assumption | (show Ext _ _; exact Ext.go) | (simp only [AHeap.next_alloc, AHeap.next_set, AHeap.next_kill, AHeap.next_res] at hle hsame) | simp (disch := first | exact D.go | fail) [setR, List.getElem?_cons_zero, List.getElem?_cons_succ, f61.n0, f61.b0, f61.n2, f61.b2, f61.n3, f61.b3, hi, hld, hw, hlt, implFrom, *] | (refine Ret.thn (h0 := hb) (timpl1 hm a b _ Ext.go (c4.mono Ext.go) (c5.mono Ext.go)) ?_ (fun g hg hlo hle hsame hx => ?_)) | (refine Res.mono (ih _ (by omega) _ ?_) (fun u g hq => ?_); rotate_left; (obtain ⟨rfl, hq⟩ := hq); rotate_right))))
    0 (by omega)
  refine f61.lim rfl (n := N) ?_
  unfold f61.e
  (repeat' (first | refine Rf (fun hF hG => ?_) (fun hF hG => ?_) | assumption | (show Ext _ _; exact Ext.go) | (simp only [AHeap.next_alloc, AHeap.next_set, AHeap.next_kill, AHeap.next_res] at hle hsame) | simp (disch := first | exact D.go | fail) [setR, List.getElem?_cons_zero, List.getElem?_cons_succ, sv.len, *] | (refine Res.mono (hN _ (Nat.le_refl _) _ ?_) (fun u g hq => ?_); rotate_left; (obtain ⟨rfl, hq⟩ := hq); rotate_right)))
theorem tImpl {l : AM.Loc} {o : Nat} {q : Pg} (hq : PgA I h0 l o q) (a b : Int) (hb : AHeap) (eb : Ext h0 hb) : Ret ((AM.lim ⟨P, I, genF P Sh.prims⟩) 31 [.ptr l o, .int .i64 a, .int .i64 b] hb) hb (.int .i64 (implFrom a b 0 q.impls)) := by
  obtain ⟨_, ⟨vr, vs, vf, vi, vu, rfl, rm, sr, ss, sf, si, su⟩, hc⟩ := hq
  have hbl := eb.lo
  have c4 : Cells I ((hb.alloc ⟨[.int .i64 a], true⟩).alloc ⟨[.int .i64 b], true⟩) (.own hb.next) 0 [.int .i64 a] := Cells.own (b := ⟨[.int .i64 a], true⟩) (by simp (disch := first | exact D.go | fail) [setR, List.getElem?_cons_zero, List.getElem?_cons_succ, *]) (by simp; omega) (fun i v hv => by simpa using hv)
  have c5 : Cells I ((hb.alloc ⟨[.int .i64 a], true⟩).alloc ⟨[.int .i64 b], true⟩) (.own (hb.next + 1)) 0 [.int .i64 b] := Cells.own (b := ⟨[.int .i64 b], true⟩) (by simp (disch := first | exact D.go | fail) [setR, List.getElem?_cons_zero, List.getElem?_cons_succ, *]) (by simp) (fun i v hv => by simpa using hv)
  refine f31.lim rfl (n := 2) ?_
  unfold f31.e
  (repeat' (first | refine Rf (fun hF hG => ?_) (fun hF hG => ?_) | assumption | (show Ext _ _; exact Ext.go) | (simp only [AHeap.next_alloc, AHeap.next_set, AHeap.next_kill, AHeap.next_res] at hle hsame) | simp (disch := first | exact D.go | fail) [setR, List.getElem?_cons_zero, List.getElem?_cons_succ, setR, hc.rd0, hc.rd1, hc.rd2, hc.rd3, hc.rd4, hc.rd5, sr.len, ss.len, sf.len, si.len, su.len, *] | (refine Ret.thn (h0 := hb) (tIdx si a b _ Ext.go c4 c5) ?_ (fun g hg hlo hle hsame hx => ?_))))
end
end
end Go.Proofs.YthihegmbdclikaaDoor.Tx

set_option linter.unusedSimpArgs false
set_option linter.unusedVariables false
namespace Go.Proofs.YthihegmbdclikaaDoor.Tx
noncomputable section
open Go.AM Go.Proofs.YthihegmbdclikaaDoor.Sf
section
variable {I : Inp} {h0 : AHeap}
/-! what is known of a program whose names are right -/
structure NOk (q : Pg) : Prop where
  recs : ∀ r ∈ q.recs, AllL (namedP q) r
  sigs : ∀ s ∈ q.sigs, AllL (namedP q) s.params ∧ namedP q s.res
  faces : ∀ f ∈ q.faces, AllL (fun x => inB x q.sigs.length) f
  impls : ∀ m ∈ q.impls, inB m.rec_ q.recs.length ∧ inB m.face q.faces.length ∧ AllL (fun x => inB x q.funcs.length) m.funcs
  sig : ∀ f ∈ q.funcs, inB f.sig q.sigs.length
  regs : ∀ f ∈ q.funcs, AllL (namedP q) f.regs
  code : ∀ f ∈ q.funcs, ∀ b ∈ f.blocks, ∀ i ∈ b.code, instrB q f i = true
  fin : ∀ f ∈ q.funcs, ∀ b ∈ f.blocks, endB f b = true
  main : inB q.main q.funcs.length
theorem bkFrom_none {PI : Ins → Bool} {ok : Bool} {f b : Int} : ∀ (l : List Ins) (k : Nat), bkFrom PI ok f b k l = none → ok = true ∧ ∀ i ∈ l, PI i = true
  | [], k, h => by
    unfold bkFrom at h
    split at h
    · exact ⟨‹_›, by simp⟩
    · cases h
  | i :: r, k, h => by
    unfold bkFrom at h
    split at h
    · obtain ⟨a, b⟩ := bkFrom_none r (k + 1) h
      exact ⟨a, by simpa using ⟨‹_›, b⟩⟩
    · cases h
theorem fuFrom_none {PI : Ins → Bool} {PB : Bk → Bool} {f : Int} : ∀ (l : List Bk) (b : Nat), fuFrom PI PB f b l = none → ∀ x ∈ l, PB x = true ∧ ∀ i ∈ x.code, PI i = true
  | [], b, h => by simp
  | x :: r, b, h => by
    unfold fuFrom at h
    rw [Option.or_eq_none_iff] at h
    have := bkFrom_none _ _ h.1
    have h2 := fuFrom_none r (b + 1) h.2
    intro y hy
    rcases List.mem_cons.1 hy with rfl | hy
    · exact this
    · exact h2 y hy
theorem namesFrom_none {q : Pg} : ∀ (l : List Fu) (i : Nat), namesFrom q i l = none → inB q.main q.funcs.length ∧ ∀ f ∈ l, inB f.sig q.sigs.length ∧ AllL (namedP q) f.regs ∧ ∀ b ∈ f.blocks, endB f b = true ∧ ∀ i ∈ b.code, instrB q f i = true
  | [], i, h => by
    unfold namesFrom at h
    split at h
    · exact ⟨by simpa using ‹dc _ = true›, by simp⟩
    · cases h
  | f :: r, i, h => by
    unfold namesFrom at h
    split at h
    · rename_i hc
      rw [Option.or_eq_none_iff] at h
      obtain ⟨a, b⟩ := namesFrom_none r (i + 1) h.2
      simp only [Bool.and_eq_true, dc_eq_true] at hc
      refine ⟨a, fun g hg => ?_⟩
      rcases List.mem_cons.1 hg with rfl | hg
      · exact ⟨hc.1, hc.2, fuFrom_none _ _ h.1⟩
      · exact b g hg
    · cases h
theorem NOk.of {q : Pg} (h : namesS q = none) : NOk q := by
  unfold namesS at h
  split at h
  · rename_i hl
    obtain ⟨hm, hf⟩ := namesFrom_none _ _ h
    simp only [listsB, Bool.and_eq_true, dc_eq_true] at hl
    exact ⟨hl.1.1.1, hl.1.1.2, hl.1.2, hl.2, fun f x => (hf f x).1, fun f x => (hf f x).2.1, fun f x b y i z => ((hf f x).2.2 b y).2 i z, fun f x b y => ((hf f x).2.2 b y).1, hm⟩
  · cases h
theorem nth_mem {α : Type} {xs : List α} {i : Int} (h : inB i xs.length) (d : α) : nth xs i d ∈ xs := by
  obtain ⟨h1, h2⟩ := h
  unfold nth
  have hk : i.toNat < xs.length := by omega
  rw [List.getD_eq_getElem?_getD, List.getElem?_eq_getElem hk]
  exact List.getElem_mem hk
/-! two lists of types -/
def preT : List Ty → List Ty → Prop
  | _, [] => True
  | [], _ :: _ => False
  | x :: xs, t :: ts => tyE x t ∧ preT xs ts
@[simp] theorem preT_nil (xs : List Ty) : preT xs [] = True := by cases xs <;> rfl
theorem preT_take : ∀ (xs ts : List Ty), ts.length ≤ xs.length → preT (xs.take ts.length) ts = preT xs ts
  | xs, [], _ => by simp
  | [], _ :: _, h => by simp at h
  | x :: xs, t :: ts, h => by simp only [List.length_cons, List.take_succ_cons, preT, preT_take xs ts (by simpa using h)]
/-- A slice to read from. -/
structure SlV {α : Type} (sz : Nat) (R : AM.Loc → Nat → α → Prop) (v : AVal) (xs : List α) : Prop where
  len : pLenSl v = some (.int .i64 xs.length)
  lt : xs.length ≤ 9223372036854775807
  at_ : ∀ {i : Nat} {x : α}, xs[i]? = some x → ∃ l o, pIndexAddr sz v (.int .i64 (i : Int)) = some (.ptr l o) ∧ R l o x
theorem _root_.Go.AM.SlOf.v {α : Type} {sz : Nat} {R : AM.Loc → Nat → α → Prop} {v : AVal} {xs : List α} (s : SlOf sz R v xs) : SlV sz R v xs := ⟨s.len, s.lt, s.at⟩
theorem _root_.Go.AM.SlOf.cut {α : Type} {sz : Nat} {R : AM.Loc → Nat → α → Prop} {v : AVal} {xs : List α} (s : SlOf sz R v xs) {m : Nat} (hm : m ≤ xs.length) : ∃ u, pSliceS sz v none (some (.int .i64 m)) none = some u ∧ SlV sz R u (xs.take m) := by
  rcases s with ⟨rfl, rfl⟩ | ⟨l, o, cap, rfl, c, n, hx⟩
  · obtain rfl : m = 0 := by simpa using hm
    exact ⟨.nils, rfl, by simpa using SlOf.v (SlOf.nil (R := R) (sz := sz))⟩
  · have hc := c m hm
    refine ⟨.sl l o m (capMinus cap 0), ?_, ?_, ?_, ?_⟩
    · show sliceV _ _ _ _ _ = _
      simp only [sliceV, optNatV, asNat]
      have : asNat (.int .i64 (m : Int)) = some m := rfl
      have hz : Nat.ble 0 m = true := Nat.ble_eq_true_of_le (Nat.zero_le m)
      simp [this, hc, hz]
    · simp [List.length_take, Nat.min_eq_left hm]
    · rw [List.length_take, Nat.min_eq_left hm]; omega
    · intro i x hi
      have hlt := (List.getElem?_eq_some_iff.1 hi).1
      rw [List.length_take, Nat.min_eq_left hm] at hlt
      rw [List.getElem?_take_of_lt hlt] at hi
      exact ⟨l, o + i * sz, pIndexAddr_sl hlt, hx i x hi⟩
theorem tEqual {v w : AVal} {xs ys : List Ty} (sv : SlV 2 (At I h0 TyC) v xs) (sw : SlV 2 (At I h0 TyC) w ys) (he : xs.length = ys.length) (hb : AHeap) (eb : Ext h0 hb) : Ret ((AM.lim ⟨P, I, genF P Sh.prims⟩) 64 [v, w] hb) hb (.bool (dc (preT xs ys))) := by
  have hL := sw.lt
  obtain ⟨N, hN⟩ := Evt.loop ys (F := fun i n => ∀ h, Ext hb h → Res ((f64.J I (AM.lim ⟨P, I, genF P Sh.prims⟩) (n)).2.1 v w (.int .i64 ys.length) (.int .i64 i) h) fun u g => u = .bool (dc (preT (xs.drop i) (ys.drop i))) ∧ Ext hb g) 5
    (Evt.all 5 fun n h e => by
      rw [f64.n2]; unfold f64.b2
      (repeat' (first | refine Rf (fun hF hG => ?_) (fun hF hG => ?_) | assumption | (show Ext _ _; exact Ext.go) | (simp only [AHeap.next_alloc, AHeap.next_set, AHeap.next_kill, AHeap.next_res] at hle hsame) | simp (disch := first | exact D.go | fail) [setR, List.getElem?_cons_zero, List.getElem?_cons_succ, f64.n0, f64.b0, f64.n1, f64.b1, f64.n3, f64.b3, f64.n4, f64.b4, *])))
    (fun i x n hx ih h e => by
      obtain ⟨l1, o1, hi, ⟨_, ⟨rfl, q0, q1⟩, ha⟩⟩ := sw.at_ hx
      have hld := fun g e => ha.rds (n := 2) g e rfl (by omega)
      have hlt := lt_of_get hx
      obtain ⟨y, hy⟩ : ∃ y, xs[i]? = some y := ⟨xs[i], List.getElem?_eq_getElem (by omega)⟩
      obtain ⟨l2, o2, hi2, ⟨_, ⟨rfl, q2, q3⟩, ha2⟩⟩ := sv.at_ hy
      have hld2 := fun g e => ha2.rds (n := 2) g e rfl (by omega)
      have hw := wrap_in (n := (i : Int) + 1) ⟨by omega, by omega⟩; simp only [Int.natCast_add, Int.natCast_one] at ih; rw [drop_of_get hx, drop_of_get hy]; have hlo := e.lo
      rw [f64.n2]; unfold f64.b2
      (repeat' (first | refine Rf (fun hF hG => ?_) (fun hF hG => ?_) | assumption | (show Ext _ _; exact Ext.go) | (simp only [AHeap.next_alloc, AHeap.next_set, AHeap.next_kill, AHeap.next_res] at hle hsame) | simp (disch := first | exact D.go | fail) [setR, List.getElem?_cons_zero, List.getElem?_cons_succ, f64.n0, f64.b0, f64.n1, f64.b1, f64.n3, f64.b3, f64.n4, f64.b4, hi, hld, hi2, hld2, hw, hlt, preT, *] | (refine Res.mono (ih _ (by omega) _ ?_) (fun u g hq => ?_); rotate_left; (obtain ⟨rfl, hq⟩ := hq); rotate_right))))
    0 (by omega)
  have hl1 := sv.len
  rw [he] at hl1
  refine f64.lim rfl (n := N + 1) ?_
  unfold f64.e
  (repeat' (first | refine Rf (fun hF hG => ?_) (fun hF hG => ?_) | assumption | (show Ext _ _; exact Ext.go) | (simp only [AHeap.next_alloc, AHeap.next_set, AHeap.next_kill, AHeap.next_res] at hle hsame) | simp (disch := first | exact D.go | fail) [setR, List.getElem?_cons_zero, List.getElem?_cons_succ, hl1, sw.len, f64.n0, f64.b0, *] | (refine Res.mono (hN _ (by omega) _ ?_) (fun u g hq => ?_); rotate_left; (obtain ⟨rfl, hq⟩ := hq); rotate_right)))
def paramsP (q : Pg) (f : Fu) : Prop := preT f.regs (nth q.sigs f.sig ⟨[], ⟨0, 0⟩⟩).params
theorem preT_len : ∀ {xs ts : List Ty}, preT xs ts → ts.length ≤ xs.length
  | _, [], _ => by simp
  | [], _ :: _, h => h.elim
  | x :: xs, t :: ts, h => by simpa using preT_len h.2
theorem tparams {l : AM.Loc} {o : Nat} {q : Pg} (hq : PgA I h0 l o q) {cf : List AVal} {f : Fu} (hf : FuC I h0 cf f) (hs : inB f.sig q.sigs.length) (hb : AHeap) (eb : Ext h0 hb) : Ret ((AM.lim ⟨P, I, genF P Sh.prims⟩) 52 [.ptr l o, .agg cf] hb) hb (.bool (dc (paramsP q f))) := by
  obtain ⟨_, ⟨vr, vs, vf, vi, vu, rfl, rm, sr, ss, sf, si, su⟩, hc⟩ := hq
  obtain ⟨wr, wb, rfl, r0, swr, swb⟩ := hf
  obtain ⟨l1, o1, hi, ⟨_, ⟨w, rfl, sw, q0, q1⟩, ha⟩, _⟩ := ss.atI hs.1 hs.2 ⟨[], ⟨0, 0⟩⟩
  generalize hsg : nth q.sigs f.sig ⟨[], ⟨0, 0⟩⟩ = s at *
  by_cases hle : s.params.length ≤ f.regs.length
  · obtain ⟨u, hu, su'⟩ := swr.cut hle
    have hpt : preT (f.regs.take s.params.length) s.params = preT f.regs s.params := preT_take _ _ hle
    have tE := fun g e => tEqual (hb := g) su' sw.v (by rw [List.length_take, Nat.min_eq_left hle]) e
    simp only [hpt] at tE
    refine f52.lim rfl (n := 2) ?_
    unfold f52.e
    (repeat' (first | refine Rf (fun hF hG => ?_) (fun hF hG => ?_) | assumption | (show Ext _ _; exact Ext.go) | (simp only [AHeap.next_alloc, AHeap.next_set, AHeap.next_kill, AHeap.next_res] at hle hsame) | simp (disch := first | exact D.go | fail) [setR, List.getElem?_cons_zero, List.getElem?_cons_succ, setR, hc.rd0, hc.rd1, hc.rd2, hc.rd3, hc.rd4, hc.rd5, sr.len, ss.len, sf.len, si.len, su.len, hi, ha.rd0, swr.len, sw.len, swr.one, swb.one, hu, paramsP, hsg, *] | (refine Ret.thn (h0 := hb) (tE _ Ext.go) ?_ (fun g hg hlo hle hsame hx => ?_))))
  · have hno : ¬ preT f.regs s.params := fun h => hle (preT_len h)
    refine f52.lim rfl (n := 2) ?_
    unfold f52.e
    (repeat' (first | refine Rf (fun hF hG => ?_) (fun hF hG => ?_) | assumption | (show Ext _ _; exact Ext.go) | (simp only [AHeap.next_alloc, AHeap.next_set, AHeap.next_kill, AHeap.next_res] at hle hsame) | simp (disch := first | exact D.go | fail) [setR, List.getElem?_cons_zero, List.getElem?_cons_succ, setR, hc.rd0, hc.rd1, hc.rd2, hc.rd3, hc.rd4, hc.rd5, sr.len, ss.len, sf.len, si.len, su.len, hi, ha.rd0, swr.len, sw.len, swr.one, swb.one, paramsP, hsg, hno, *]))
end
end
end Go.Proofs.YthihegmbdclikaaDoor.Tx

set_option linter.unusedSimpArgs false
set_option linter.unusedVariables false
namespace Go.Proofs.YthihegmbdclikaaDoor.Tx
noncomputable section
open Go.AM Go.Proofs.YthihegmbdclikaaDoor.Sf
section
variable {I : Inp} {h0 : AHeap}
abbrev fu0 : Fu := ⟨0, [], []⟩
abbrev sg0 : Sg := ⟨[], ⟨0, 0⟩⟩
abbrev ty0 : Ty := ⟨0, 0⟩
theorem tsig {l : AM.Loc} {o : Nat} {q : Pg} (hq : PgA I h0 l o q) {n : Int} (hn : inB n q.funcs.length) (hb : AHeap) (eb : Ext h0 hb) :
    Ret ((AM.lim ⟨P, I, genF P Sh.prims⟩) 30 [.ptr l o, .int .i64 n] hb) hb (.tuple [.int .i64 (nth q.funcs n fu0).sig, .bool (dc (inB (nth q.funcs n fu0).sig q.sigs.length))]) := by
  obtain ⟨_, ⟨vr, vs, vf, vi, vu, rfl, rm, sr, ss, sf, si, su⟩, hc⟩ := hq
  obtain ⟨l1, o1, hi, ⟨_, ⟨wr, wb, rfl, r0, swr, swb⟩, ha⟩, _⟩ := su.atI hn.1 hn.2 fu0
  refine f30.lim rfl (n := 2) ?_
  unfold f30.e
  (repeat' (first | refine Rf (fun hF hG => ?_) (fun hF hG => ?_) | assumption | (show Ext _ _; exact Ext.go) | (simp only [AHeap.next_alloc, AHeap.next_set, AHeap.next_kill, AHeap.next_res] at hle hsame) | simp (disch := first | exact D.go | fail) [setR, List.getElem?_cons_zero, List.getElem?_cons_succ, setR, hc.rd0, hc.rd1, hc.rd2, hc.rd3, hc.rd4, hc.rd5, sr.len, ss.len, sf.len, si.len, su.len, hi, ha.rd0, tin, *]))
def endT (q : Pg) (f : Fu) (b : Bk) : Bool :=
  if b.fin = 2 then dc ((nth f.regs b.reg ty0).kind = 0) else if b.fin = 3 then dc (tyE (nth f.regs b.reg ty0) (nth q.sigs f.sig sg0).res) else true
theorem tends {l : AM.Loc} {o : Nat} {q : Pg} (hq : PgA I h0 l o q) {cf cb : List AVal} {f : Fu} {b : Bk} (hf : FuC I h0 cf f) (hk : BkC I h0 cb b) (hs : inB f.sig q.sigs.length) (he : b.fin = 2 ∨ b.fin = 3 → inB b.reg f.regs.length) (hb : AHeap) (eb : Ext h0 hb) :
    Ret ((AM.lim ⟨P, I, genF P Sh.prims⟩) 55 [.ptr l o, .agg cf, .agg cb] hb) hb (.bool (endT q f b)) := by
  obtain ⟨_, ⟨vr, vs, vf, vi, vu, rfl, rm, sr, ss, sf, si, su⟩, hc⟩ := hq
  obtain ⟨wr, wb, rfl, r0, swr, swb⟩ := hf
  obtain ⟨vc, rfl, sc, _⟩ := hk
  obtain ⟨l1, o1, hi, ⟨_, ⟨w, rfl, sw, q0, q1⟩, ha⟩, _⟩ := ss.atI hs.1 hs.2 sg0
  generalize hsg : nth q.sigs f.sig sg0 = s at *
  by_cases h23 : b.fin = 2 ∨ b.fin = 3
  · have hr := he h23
    obtain ⟨l2, o2, hi2, ⟨_, ⟨rfl, q2, q3⟩, ha2⟩, _⟩ := swr.atI hr.1 hr.2 ty0
    generalize htt : nth f.regs b.reg ty0 = t at *
    have hld := fun g e => ha.rds (n := 3) g e rfl (by omega)
    have hld2 := fun g e => ha2.rds (n := 2) g e rfl (by omega)
    have hs1 : ∀ g, Ext h0 g → rds I g l1 (o1 + 1) 2 = some [.int .i64 s.res.kind, .int .i64 s.res.n] := fun g e => Cells.rds (Cells.sub (d := 1) (ds := [.int .i64 s.res.kind, .int .i64 s.res.n]) ha (fun i v hv => by
      match i with
      | 0 => simpa using hv
      | 1 => simpa using hv
      | i + 2 => simp at hv)) g e rfl (by omega)
    refine f55.lim rfl (n := 2) ?_
    unfold f55.e
    (repeat' (first | refine Rf (fun hF hG => ?_) (fun hF hG => ?_) | assumption | (show Ext _ _; exact Ext.go) | (simp only [AHeap.next_alloc, AHeap.next_set, AHeap.next_kill, AHeap.next_res] at hle hsame) | simp (disch := first | exact D.go | fail) [setR, List.getElem?_cons_zero, List.getElem?_cons_succ, f55.n0, f55.b0, hc.rd0, hc.rd1, hc.rd2, hc.rd3, hc.rd4, hc.rd5, sr.len, ss.len, sf.len, si.len, su.len, hi, hi2, ha2.rd0, hld2, hs1, hsg, htt, endT, swr.one, swb.one, sc.one, *]))
  · obtain ⟨h2, h3⟩ : b.fin ≠ 2 ∧ b.fin ≠ 3 := by omega
    clear h23
    refine f55.lim rfl (n := 2) ?_
    unfold f55.e
    (repeat' (first | refine Rf (fun hF hG => ?_) (fun hF hG => ?_) | assumption | (show Ext _ _; exact Ext.go) | (simp only [AHeap.next_alloc, AHeap.next_set, AHeap.next_kill, AHeap.next_res] at hle hsame) | simp (disch := first | exact D.go | fail) [setR, List.getElem?_cons_zero, List.getElem?_cons_succ, f55.n0, f55.b0, hc.rd0, hc.rd1, hc.rd2, hc.rd3, hc.rd4, hc.rd5, sr.len, ss.len, sf.len, si.len, su.len, endT, swr.one, swb.one, sc.one, *]))
/-! calls -/
def argsT (rg : List Ty) : List Int → List Ty → Prop
  | [], _ => True
  | _ :: _, [] => False
  | a :: r, t :: ts => tyE (nth rg a ty0) t ∧ argsT rg r ts
def callS (f : Fu) (i : Ins) (s : Sg) : Bool := dc (i.args.length = s.params.length) && (dc (tyE (nth f.regs i.dst ty0) s.res) && dc (argsT f.regs i.args s.params))
theorem rcall {v0 : AVal} {cf ci cs : List AVal} {f : Fu} {i : Ins} {s : Sg} (hf : FuC I h0 cf f) (hi : InsC I h0 ci i) (hs : SgC I h0 cs s) (hg : AllL (fun x => inB x f.regs.length) i.args) (hd : inB i.dst f.regs.length) (hb : AHeap) (eb : Ext h0 hb) :
    Ret ((AM.lim ⟨P, I, genF P Sh.prims⟩) 37 [v0, .agg cf, .agg ci, .agg cs] hb) hb (.bool (callS f i s)) := by
  obtain ⟨wr, wb, rfl, r0, swr, swb⟩ := hf
  obtain ⟨v, rfl, sv, _⟩ := hi
  obtain ⟨w, rfl, sw, q0, q1⟩ := hs
  have hL := sv.lt
  obtain ⟨l2, o2, hd1, ⟨_, ⟨rfl, q2, q3⟩, ha2⟩, _⟩ := swr.atI hd.1 hd.2 ty0
  have hld2 := fun g e => ha2.rds (n := 2) g e rfl (by omega)
  generalize hH : (((hb.alloc ⟨[.int .i64 f.sig, wr, wb], true⟩).alloc ⟨[.int .i64 i.op, .int .i64 i.dst, .int .i64 i.a, .int .i64 i.b, .int .i64 i.n, v], true⟩).alloc ⟨[w, .int .i64 s.res.kind, .int .i64 s.res.n], true⟩) = H
  have hn : H.next = hb.next + 3 := by subst hH; rfl
  have eH : Ext hb H := by subst hH; exact Ext.go
  have c5 : Cells I H (.own hb.next) 0 [.int .i64 f.sig, wr, wb] := by
    rw [← hH]; exact Cells.own (b := ⟨[.int .i64 f.sig, wr, wb], true⟩) (by simp (disch := first | exact D.go | fail) [setR, List.getElem?_cons_zero, List.getElem?_cons_succ]) (by show hb.next < hb.next + 3; omega) (fun i v hv => by simpa using hv)
  have c6 : Cells I H (.own (hb.next + 1)) 0 [.int .i64 i.op, .int .i64 i.dst, .int .i64 i.a, .int .i64 i.b, .int .i64 i.n, v] := by
    rw [← hH]; exact Cells.own (b := ⟨[.int .i64 i.op, .int .i64 i.dst, .int .i64 i.a, .int .i64 i.b, .int .i64 i.n, v], true⟩) (by simp (disch := first | exact D.go | fail) [setR, List.getElem?_cons_zero, List.getElem?_cons_succ]) (by show hb.next + 1 < hb.next + 3; omega) (fun i v hv => by simpa using hv)
  have c7 : Cells I H (.own (hb.next + 1 + 1)) 0 [w, .int .i64 s.res.kind, .int .i64 s.res.n] := by
    rw [← hH]; exact Cells.own (b := ⟨[w, .int .i64 s.res.kind, .int .i64 s.res.n], true⟩) (by simp (disch := first | exact D.go | fail) [setR, List.getElem?_cons_zero, List.getElem?_cons_succ]) (by simp) (fun i v hv => by simpa using hv)
  have c7s : ∀ g, Ext H g → rds I g (.own (hb.next + 1 + 1)) 1 2 = some [.int .i64 s.res.kind, .int .i64 s.res.n] := fun g e => by
    have := Cells.rds (n := 2) (Cells.sub (d := 1) (ds := [.int .i64 s.res.kind, .int .i64 s.res.n]) c7 (fun i v hv => by
      match i with
      | 0 => simpa using hv
      | 1 => simpa using hv
      | i + 2 => simp at hv)) g e rfl (by omega)
    simpa using this
  have hlo := eH.lo
  by_cases hlenI : (i.args.length : Int) = s.params.length
  · have hlen : i.args.length = s.params.length := by omega
    have hz : i.args.drop s.params.length = [] := by rw [← hlen]; simp
    obtain ⟨N, hN⟩ := Evt.loop i.args (F := fun j n => ∀ h, Ext H h → Res ((f37.J I (AM.lim ⟨P, I, genF P Sh.prims⟩) (n)).2.1 (.ptr (.own hb.next) 0) (.ptr (.own (hb.next + 1)) 0) (.ptr (.own (hb.next + 1 + 1)) 0) (.int .i64 j) h) fun u g =>
        u = .bool (dc (tyE (nth f.regs i.dst ty0) s.res) && dc (argsT f.regs (i.args.drop j) (s.params.drop j))) ∧ Ext hb g) 5
      (Evt.all 5 fun n h e => by
        rw [f37.n2]; unfold f37.b2
        (repeat' (first | refine Rf (fun hF hG => ?_) (fun hF hG => ?_) | assumption | (show Ext _ _; exact Ext.go) | (simp only [AHeap.next_alloc, AHeap.next_set, AHeap.next_kill, AHeap.next_res] at hle hsame) | simp (disch := first | exact D.go | fail) [setR, List.getElem?_cons_zero, List.getElem?_cons_succ, f37.n0, f37.b0, f37.n1, f37.b1, f37.n3, f37.b3, f37.n4, f37.b4, c5.rd0, c5.rd1, c5.rd2, c6.rd0, c6.rd1, c6.rd2, c6.rd3, c6.rd4, c6.rd5, c7.rd0, c7.rd1, c7.rd2, c7s, sv.len, hd1, hld2, argsT, *] | (refine Ret.thn (h0 := hb) (req _ _ _) ?_ (fun g hg hlo hle hsame hx => ?_)))))
      (fun i' x n hx ih h e => by
        obtain ⟨l1, o1, hi1, ha⟩ := sv.at hx
        obtain ⟨ha, _⟩ := ha.int
        have hin := hg x (List.mem_of_getElem? hx)
        obtain ⟨l3, o3, hi3, ⟨_, ⟨rfl, q4, q5⟩, ha3⟩, _⟩ := swr.atI hin.1 hin.2 ty0
        have hld3 := fun g e => ha3.rds (n := 2) g e rfl (by omega)
        have hlt := lt_of_get hx
        have hlt2 : i' < s.params.length := by omega
        obtain ⟨y, hy⟩ : ∃ y, s.params[i']? = some y := ⟨s.params[i'], List.getElem?_eq_getElem (by omega)⟩
        obtain ⟨l4, o4, hi4, ⟨_, ⟨rfl, q6, q7⟩, ha4⟩⟩ := sw.at hy
        have hld4 := fun g e => ha4.rds (n := 2) g e rfl (by omega)
        have hw := wrap_in (n := (i' : Int) + 1) ⟨by omega, by omega⟩; simp only [Int.natCast_add, Int.natCast_one] at ih; rw [drop_of_get hx, drop_of_get hy]; have hlo := e.lo
        rw [f37.n2]; unfold f37.b2
        (repeat' (first | refine Rf (fun hF hG => ?_) (fun hF hG => ?_) | assumption | (show Ext _ _; exact Ext.go) | (simp only [AHeap.next_alloc, AHeap.next_set, AHeap.next_kill, AHeap.next_res] at hle hsame) | simp (disch := first | exact D.go | fail) [setR, List.getElem?_cons_zero, List.getElem?_cons_succ, f37.n0, f37.b0, f37.n1, f37.b1, f37.n3, f37.b3, f37.n4, f37.b4, c5.rd0, c5.rd1, c5.rd2, c6.rd0, c6.rd1, c6.rd2, c6.rd3, c6.rd4, c6.rd5, c7.rd0, c7.rd1, c7.rd2, sv.len, hi1, ha, hi3, hld3, hi4, hld4, hw, hlt, argsT, *] | (refine Ret.thn (h0 := hb) (req _ _ _) ?_ (fun g hg hlo hle hsame hx => ?_)) | (refine Res.mono (ih _ (by omega) _ ?_) (fun u g hq => ?_); rotate_left; (obtain ⟨rfl, hq⟩ := hq); rotate_right))))
      0 (by omega)
    refine f37.lim rfl (n := N + 2) ?_
    unfold f37.e
    (repeat' (first | refine Rf (fun hF hG => ?_) (fun hF hG => ?_) | assumption | (show Ext _ _; exact Ext.go) | (simp only [AHeap.next_alloc, AHeap.next_set, AHeap.next_kill, AHeap.next_res] at hle hsame) | simp (disch := first | exact D.go | fail) [setR, List.getElem?_cons_zero, List.getElem?_cons_succ, f37.n0, f37.b0, c6.rd0, c6.rd1, c6.rd2, c6.rd3, c6.rd4, c6.rd5, c7.rd0, c7.rd1, c7.rd2, sv.len, sw.len, hlen, swr.one, swb.one, sv.one, sw.one, callS, hH, *] | (refine Res.mono (hN _ (by omega) _ ?_) (fun u g hq => ?_); rotate_left; (obtain ⟨rfl, hq⟩ := hq); rotate_right)))
  · have hlenN : ¬ i.args.length = s.params.length := by omega
    refine f37.lim rfl (n := 2) ?_
    unfold f37.e
    (repeat' (first | refine Rf (fun hF hG => ?_) (fun hF hG => ?_) | assumption | (show Ext _ _; exact Ext.go) | (simp only [AHeap.next_alloc, AHeap.next_set, AHeap.next_kill, AHeap.next_res] at hle hsame) | simp (disch := first | exact D.go | fail) [setR, List.getElem?_cons_zero, List.getElem?_cons_succ, f37.n0, f37.b0, f37.n1, f37.b1, f37.n2, f37.b2, f37.n3, f37.b3, f37.n4, f37.b4, c6.rd0, c6.rd1, c6.rd2, c6.rd3, c6.rd4, c6.rd5, c7.rd0, c7.rd1, c7.rd2, sv.len, sw.len, hlenI, hlenN, callS, swr.one, swb.one, sv.one, sw.one, hH, *]))
end
end
end Go.Proofs.YthihegmbdclikaaDoor.Tx

set_option linter.unusedSimpArgs false
set_option linter.unusedVariables false
namespace Go.Proofs.YthihegmbdclikaaDoor.Tx
noncomputable section
open Go.AM Go.Proofs.YthihegmbdclikaaDoor.Sf
section
variable {I : Inp} {h0 : AHeap}
/-! what an instruction's names tell -/
structure InOk (q : Pg) (f : Fu) (i : Ins) : Prop where
  op : 1 ≤ i.op ∧ i.op ≤ 15
  dst : (cn i.op).dst = true → inB i.dst f.regs.length
  a : (cn i.op).a = true → inB i.a f.regs.length
  b : (cn i.op).b = true → inB i.b f.regs.length
  args : AllL (fun x => inB x f.regs.length) i.args
  rest : restB q f i = true
theorem InOk.of {q : Pg} {f : Fu} {i : Ins} (h : instrB q f i = true) : InOk q f i := by
  simp only [instrB, Bool.and_eq_true, dc_eq_true] at h
  obtain ⟨h1, h2, h3, h4, h5, h6, h7, h8⟩ := h
  have hop : 1 ≤ i.op ∧ i.op ≤ 15 := by
    by_cases hx : i.op < 1 ∨ 15 < i.op
    · rw [cn_other hx] at h1; cases h1
    · omega
  refine ⟨hop, fun h => ?_, fun h => ?_, fun h => ?_, h7, h8⟩
  · simpa [regP, h] using h2
  · simpa [regP, h] using h3
  · simpa [regP, h] using h4
/-! calls -/
def callee (q : Pg) (f : Fu) (i : Ins) : Option Int :=
  if i.op = 12 then some (nth q.funcs i.n fu0).sig
  else if i.op = 13 then (if (nth f.regs i.a ty0).kind = 2 then some (nth f.regs i.a ty0).n else none)
  else if i.op = 14 then (if (nth f.regs i.a ty0).kind = 3 then some (nth (nth q.faces (nth f.regs i.a ty0).n []) i.n 0) else none) else none
def callB (q : Pg) (f : Fu) (i : Ins) : Bool := match callee q f i with
  | none => false
  | some s => callS f i (nth q.sigs s sg0)
theorem tcallT {l : AM.Loc} {o : Nat} {q : Pg} (hq : PgA I h0 l o q) {f : Fu} {i : Ins} {wr v : AVal} (swr : SlOf 2 (At I h0 TyC) wr f.regs) (sv : SlOf 1 (IntA I h0) v i.args) {s : Int} (hs : inB s q.sigs.length)
    (hg : AllL (fun x => inB x f.regs.length) i.args) (hd : inB i.dst f.regs.length) {k5 : Nat} (hb : AHeap) (eb : Ext h0 hb) (c5 : Cells I hb (.own k5) 0 [.int .i64 i.op, .int .i64 i.dst, .int .i64 i.a, .int .i64 i.b, .int .i64 i.n, v]) :
    ∃ N, ∀ n, N ≤ n → ∀ h, Ext hb h → Res ((f32.J I (AM.lim ⟨P, I, genF P Sh.prims⟩) (n)).1.1 (.ptr l o) wr (.ptr (.own k5) 0) (.int .i64 s) (.bool true) h) fun u g => u = .bool (callS f i (nth q.sigs s sg0)) ∧ Ext hb g := by
  obtain ⟨_, ⟨vr, vs, vf, vi, vu, rfl, rm, sr, ss, sf, si, su⟩, hc⟩ := hq
  have hL := sv.lt
  obtain ⟨l1, o1, hi, ⟨_, ⟨w, rfl, sw, q0, q1⟩, ha⟩, _⟩ := ss.atI hs.1 hs.2 sg0
  generalize hsg : nth q.sigs s sg0 = sg at *
  obtain ⟨l2, o2, hd1, ⟨_, ⟨rfl, q2, q3⟩, ha2⟩, _⟩ := swr.atI hd.1 hd.2 ty0
  have hld2 := fun g e => ha2.rds (n := 2) g e rfl (by omega)
  have hs1 : ∀ g, Ext h0 g → rds I g l1 (o1 + 1) 2 = some [.int .i64 sg.res.kind, .int .i64 sg.res.n] := fun g e => Cells.rds (Cells.sub (d := 1) (ds := [.int .i64 sg.res.kind, .int .i64 sg.res.n]) ha (fun i v hv => by
      match i with
      | 0 => simpa using hv
      | 1 => simpa using hv
      | i + 2 => simp at hv)) g e rfl (by omega)
  by_cases hlenI : (i.args.length : Int) = sg.params.length
  · have hlen : i.args.length = sg.params.length := by omega
    obtain ⟨N, hN⟩ := Evt.loop i.args (F := fun j n => ∀ h, Ext hb h → Res ((f32.J I (AM.lim ⟨P, I, genF P Sh.prims⟩) (n)).2.1 (.ptr l o) wr (.int .i64 s) v (.int .i64 sg.params.length) (.int .i64 j) h) fun u g =>
        u = .bool (dc (argsT f.regs (i.args.drop j) (sg.params.drop j))) ∧ Ext hb g) 5
      (Evt.all 5 fun n h e => by
        have hz : i.args.drop sg.params.length = [] := by rw [← hlen]; simp
        rw [f32.n3]; unfold f32.b3
        (repeat' (first | refine Rf (fun hF hG => ?_) (fun hF hG => ?_) | assumption | (show Ext _ _; exact Ext.go) | (simp only [AHeap.next_alloc, AHeap.next_set, AHeap.next_kill, AHeap.next_res] at hle hsame) | simp (disch := first | exact D.go | fail) [setR, List.getElem?_cons_zero, List.getElem?_cons_succ, f32.n0, f32.b0, f32.n1, f32.b1, f32.n2, f32.b2, f32.n4, f32.b4, f32.n5, f32.b5, argsT, *])))
      (fun j x n hx ih h e => by
        obtain ⟨l3, o3, hi1, ha3⟩ := sv.at hx
        obtain ⟨ha3, _⟩ := ha3.int
        have hin := hg x (List.mem_of_getElem? hx)
        obtain ⟨l4, o4, hi3, ⟨_, ⟨rfl, q4, q5⟩, ha4⟩, _⟩ := swr.atI hin.1 hin.2 ty0
        have hld4 := fun g e => ha4.rds (n := 2) g e rfl (by omega)
        have hlt := lt_of_get hx
        have hlt2 : j < sg.params.length := by omega
        obtain ⟨y, hy⟩ : ∃ y, sg.params[j]? = some y := ⟨sg.params[j], List.getElem?_eq_getElem (by omega)⟩
        obtain ⟨l5, o5, hi4, ⟨_, ⟨rfl, q6, q7⟩, ha5⟩⟩ := sw.at hy
        have hld5 := fun g e => ha5.rds (n := 2) g e rfl (by omega)
        have hw := wrap_in (n := (j : Int) + 1) ⟨by omega, by omega⟩; simp only [Int.natCast_add, Int.natCast_one] at ih; rw [drop_of_get hx, drop_of_get hy]; have hlo := e.lo
        rw [f32.n3]; unfold f32.b3
        (repeat' (first | refine Rf (fun hF hG => ?_) (fun hF hG => ?_) | assumption | (show Ext _ _; exact Ext.go) | (simp only [AHeap.next_alloc, AHeap.next_set, AHeap.next_kill, AHeap.next_res] at hle hsame) | simp (disch := first | exact D.go | fail) [setR, List.getElem?_cons_zero, List.getElem?_cons_succ, f32.n0, f32.b0, f32.n1, f32.b1, f32.n2, f32.b2, f32.n4, f32.b4, f32.n5, f32.b5, hc.rd0, hc.rd1, hc.rd2, hc.rd3, hc.rd4, hc.rd5, sr.len, ss.len, sf.len, si.len, su.len, sv.len, hi1, ha3, hi3, hld4, hi4, hld5, hi, ha.rd0, hw, hlt, argsT, *] | (refine Res.mono (ih _ (by omega) _ ?_) (fun u g hq => ?_); rotate_left; (obtain ⟨rfl, hq⟩ := hq); rotate_right))))
      0 (by omega)
    refine ⟨N + 2, fun n hn h e => ?_⟩
    obtain ⟨n, rfl⟩ : ∃ m, n = m + 2 := ⟨n - 2, by omega⟩
    rw [f32.n0]; unfold f32.b0
    (repeat' (first | refine Rf (fun hF hG => ?_) (fun hF hG => ?_) | assumption | (show Ext _ _; exact Ext.go) | (simp only [AHeap.next_alloc, AHeap.next_set, AHeap.next_kill, AHeap.next_res] at hle hsame) | simp (disch := first | exact D.go | fail) [setR, List.getElem?_cons_zero, List.getElem?_cons_succ, f32.n1, f32.b1, hc.rd0, hc.rd1, hc.rd2, hc.rd3, hc.rd4, hc.rd5, sr.len, ss.len, sf.len, si.len, su.len, c5.rd0, c5.rd1, c5.rd2, c5.rd3, c5.rd4, c5.rd5, hi, ha.rd0, hs1, hd1, hld2, sv.len, sw.len, hlen, swr.one, sv.one, callS, *] | (refine Res.mono (hN _ (by omega) _ ?_) (fun u g hq => ?_); rotate_left; (obtain ⟨rfl, hq⟩ := hq); rotate_right)))
  · have hlenN : ¬ i.args.length = sg.params.length := by omega
    refine ⟨1, fun n hn h e => ?_⟩
    obtain ⟨n, rfl⟩ : ∃ m, n = m + 1 := ⟨n - 1, by omega⟩
    rw [f32.n0]; unfold f32.b0
    (repeat' (first | refine Rf (fun hF hG => ?_) (fun hF hG => ?_) | assumption | (show Ext _ _; exact Ext.go) | (simp only [AHeap.next_alloc, AHeap.next_set, AHeap.next_kill, AHeap.next_res] at hle hsame) | simp (disch := first | exact D.go | fail) [setR, List.getElem?_cons_zero, List.getElem?_cons_succ, hc.rd0, hc.rd1, hc.rd2, hc.rd3, hc.rd4, hc.rd5, sr.len, ss.len, sf.len, si.len, su.len, c5.rd0, c5.rd1, c5.rd2, c5.rd3, c5.rd4, c5.rd5, hi, ha.rd0, sv.len, sw.len, hlenI, hlenN, callS, *]))
theorem callee_in {q : Pg} {f : Fu} {i : Ins} {s : Int} (hN : NOk q) (hr : AllL (namedP q) f.regs) (hi : InOk q f i) (h : callee q f i = some s) : inB s q.sigs.length := by
  unfold callee at h
  split at h
  · rename_i h12
    cases h
    exact hN.sig _ (nth_mem (by have := hi.rest; simpa [restB, h12] using this) _)
  · split at h
    · rename_i h12 h13
      split at h
      · cases h
        exact namedP_2 (hr _ (nth_mem (hi.a (by rw [h13]; rfl)) _)) ‹_›
      · cases h
    · split at h
      · rename_i h12 h13 h14
        split at h
        · rename_i k3
          cases h
          have h1 := namedP_3 (hr _ (nth_mem (hi.a (by rw [h14]; rfl)) _)) k3
          have h2 : inB i.n (nth q.faces (nth f.regs i.a ty0).n []).length := by have := hi.rest; simpa [restB, h14, k3] using this
          exact hN.faces _ (nth_mem h1 []) _ (nth_mem h2 0)
        · cases h
      · cases h
theorem tcall {l : AM.Loc} {o : Nat} {q : Pg} (hq : PgA I h0 l o q) (hN : NOk q) {wr : AVal} {ci : List AVal} {f : Fu} {i : Ins} (swr : SlOf 2 (At I h0 TyC) wr f.regs) (hr : AllL (namedP q) f.regs) (hi : InsC I h0 ci i) (ho : InOk q f i) (hop : i.op = 12 ∨ i.op = 13 ∨ i.op = 14)
    (hb : AHeap) (eb : Ext h0 hb) : Ret ((AM.lim ⟨P, I, genF P Sh.prims⟩) 32 [.ptr l o, wr, .agg ci] hb) hb (.bool (callB q f i)) := by
  have hq' := hq
  obtain ⟨_, ⟨vr, vs, vf, vi, vu, rfl, rm, sr, ss, sf, si, su⟩, hc⟩ := hq
  obtain ⟨v, rfl, sv, _⟩ := hi
  have hd : inB i.dst f.regs.length := ho.dst (by rcases hop with h | h | h <;> rw [h] <;> rfl)
  have hcal := fun s => callee_in (s := s) hN hr ho
  have hg := ho.args
  generalize hH : (hb.alloc ⟨[.int .i64 i.op, .int .i64 i.dst, .int .i64 i.a, .int .i64 i.b, .int .i64 i.n, v], true⟩) = H
  have hn : H.next = hb.next + 1 := by subst hH; rfl
  have eH : Ext hb H := by subst hH; exact Ext.go
  have c5 : Cells I H (.own hb.next) 0 [.int .i64 i.op, .int .i64 i.dst, .int .i64 i.a, .int .i64 i.b, .int .i64 i.n, v] := by
    rw [← hH]; exact Cells.own (b := ⟨[.int .i64 i.op, .int .i64 i.dst, .int .i64 i.a, .int .i64 i.b, .int .i64 i.n, v], true⟩) (by simp (disch := first | exact D.go | fail) [setR, List.getElem?_cons_zero, List.getElem?_cons_succ]) (by show hb.next < hb.next + 1; omega) (fun i v hv => by simpa using hv)
  have hT := fun s hs => tcallT (s := s) hq' swr sv hs hg hd H (eb.trans eH) c5
  have hsn := sv.one
  have hlo := eH.lo
  unfold callB
  rcases hop with h12 | h13 | h14
  · have hH2 := hH; rw [h12] at hH2
    have hfn : inB i.n q.funcs.length := by have := ho.rest; simpa [restB, h12] using this
    have hsg := hN.sig _ (nth_mem hfn fu0)
    obtain ⟨N, hN'⟩ := hT _ hsg
    have hce : callee q f i = some (nth q.funcs i.n fu0).sig := by simp [callee, h12]
    refine f32.lim rfl (n := N) ?_
    unfold f32.e
    (repeat' (first | refine Rf (fun hF hG => ?_) (fun hF hG => ?_) | assumption | (show Ext _ _; exact Ext.go) | (simp only [AHeap.next_alloc, AHeap.next_set, AHeap.next_kill, AHeap.next_res] at hle hsame) | simp (disch := first | exact D.go | fail) [setR, List.getElem?_cons_zero, List.getElem?_cons_succ, c5.rd0, c5.rd1, c5.rd2, c5.rd3, c5.rd4, c5.rd5, h12, hce, hsg, hH2, hsn, *] | (refine Ret.thn (h0 := hb) (tsig hq' hfn _ Ext.go) ?_ (fun g hg hlo hle hsame hx => ?_)) | (refine Res.mono (hN' _ (Nat.le_refl _) _ ?_) (fun u g hq => ?_); rotate_left; (obtain ⟨rfl, hq⟩ := hq); rotate_right)))
  · have hH2 := hH; rw [h13] at hH2
    have hra := ho.a (by rw [h13]; rfl)
    obtain ⟨l2, o2, hd1, ⟨_, ⟨rfl, q2, q3⟩, ha2⟩, _⟩ := swr.atI hra.1 hra.2 ty0
    by_cases k2 : (nth f.regs i.a ty0).kind = 2
    · have hce : callee q f i = some (nth f.regs i.a ty0).n := by simp [callee, h13, k2]
      obtain ⟨N, hN'⟩ := hT _ (hcal _ hce)
      refine f32.lim rfl (n := N) ?_
      unfold f32.e
      (repeat' (first | refine Rf (fun hF hG => ?_) (fun hF hG => ?_) | assumption | (show Ext _ _; exact Ext.go) | (simp only [AHeap.next_alloc, AHeap.next_set, AHeap.next_kill, AHeap.next_res] at hle hsame) | simp (disch := first | exact D.go | fail) [setR, List.getElem?_cons_zero, List.getElem?_cons_succ, c5.rd0, c5.rd1, c5.rd2, c5.rd3, c5.rd4, c5.rd5, h13, hce, hd1, ha2.rd0, ha2.rd1, k2, hH2, hsn, *] | (refine Res.mono (hN' _ (Nat.le_refl _) _ ?_) (fun u g hq => ?_); rotate_left; (obtain ⟨rfl, hq⟩ := hq); rotate_right)))
    · have hce : callee q f i = none := by simp [callee, h13, k2]
      refine f32.lim rfl (n := 1) ?_
      unfold f32.e
      (repeat' (first | refine Rf (fun hF hG => ?_) (fun hF hG => ?_) | assumption | (show Ext _ _; exact Ext.go) | (simp only [AHeap.next_alloc, AHeap.next_set, AHeap.next_kill, AHeap.next_res] at hle hsame) | simp (disch := first | exact D.go | fail) [setR, List.getElem?_cons_zero, List.getElem?_cons_succ, c5.rd0, c5.rd1, c5.rd2, c5.rd3, c5.rd4, c5.rd5, f32.n0, f32.b0, h13, hce, hd1, ha2.rd0, ha2.rd1, k2, hH2, hsn, *]))
  · have hH2 := hH; rw [h14] at hH2
    have hra := ho.a (by rw [h14]; rfl)
    obtain ⟨l2, o2, hd1, ⟨_, ⟨rfl, q2, q3⟩, ha2⟩, _⟩ := swr.atI hra.1 hra.2 ty0
    by_cases k3 : (nth f.regs i.a ty0).kind = 3
    · have hce : callee q f i = some (nth (nth q.faces (nth f.regs i.a ty0).n []) i.n 0) := by simp [callee, h14, k3]
      obtain ⟨N, hN'⟩ := hT _ (hcal _ hce)
      have h1 := namedP_3 (hr _ (nth_mem hra _)) k3
      have h2 : inB i.n (nth q.faces (nth f.regs i.a ty0).n []).length := by have := ho.rest; simpa [restB, h14, k3] using this
      obtain ⟨l3, o3, hy1, ⟨_, ⟨w, rfl, sw⟩, hy2⟩, _⟩ := sf.atI h1.1 h1.2 []
      obtain ⟨l4, o4, hz1, hz2, _⟩ := sw.atI h2.1 h2.2 0
      obtain ⟨hz2, _⟩ := hz2.int
      refine f32.lim rfl (n := N) ?_
      unfold f32.e
      (repeat' (first | refine Rf (fun hF hG => ?_) (fun hF hG => ?_) | assumption | (show Ext _ _; exact Ext.go) | (simp only [AHeap.next_alloc, AHeap.next_set, AHeap.next_kill, AHeap.next_res] at hle hsame) | simp (disch := first | exact D.go | fail) [setR, List.getElem?_cons_zero, List.getElem?_cons_succ, c5.rd0, c5.rd1, c5.rd2, c5.rd3, c5.rd4, c5.rd5, hc.rd0, hc.rd1, hc.rd2, hc.rd3, hc.rd4, hc.rd5, sr.len, ss.len, sf.len, si.len, su.len, h14, hce, hd1, ha2.rd0, ha2.rd1, hy1, hy2.rd0, hz1, hz2, k3, hH2, hsn, *] | (refine Res.mono (hN' _ (Nat.le_refl _) _ ?_) (fun u g hq => ?_); rotate_left; (obtain ⟨rfl, hq⟩ := hq); rotate_right)))
    · have hce : callee q f i = none := by simp [callee, h14, k3]
      refine f32.lim rfl (n := 1) ?_
      unfold f32.e
      (repeat' (first | refine Rf (fun hF hG => ?_) (fun hF hG => ?_) | assumption | (show Ext _ _; exact Ext.go) | (simp only [AHeap.next_alloc, AHeap.next_set, AHeap.next_kill, AHeap.next_res] at hle hsame) | simp (disch := first | exact D.go | fail) [setR, List.getElem?_cons_zero, List.getElem?_cons_succ, c5.rd0, c5.rd1, c5.rd2, c5.rd3, c5.rd4, c5.rd5, f32.n0, f32.b0, h14, hce, hd1, ha2.rd0, ha2.rd1, k3, hH2, hsn, *]))
end
end
end Go.Proofs.YthihegmbdclikaaDoor.Tx

set_option linter.unusedSimpArgs false
set_option linter.unusedVariables false
namespace Go.Proofs.YthihegmbdclikaaDoor.Tx
noncomputable section
open Go.AM Go.Proofs.YthihegmbdclikaaDoor.Sf
section
variable {I : Inp} {h0 : AHeap}
/-- Does an instruction fit, if its names are right? -/
def fitsO (q : Pg) (f : Fu) (i : Ins) : Bool :=
  if i.op = 1 then dc ((nth f.regs i.dst ty0).kind = 0) else if i.op = 3 then dc ((nth f.regs i.dst ty0).kind = 0)
  else if i.op = 2 then dc ((nth f.regs i.dst ty0).kind = 0) && (dc ((nth f.regs i.a ty0).kind = 0) && dc ((nth f.regs i.b ty0).kind = 0))
  else if i.op = 4 then !dc ((nth f.regs i.dst ty0).kind = 0) else if i.op = 5 then dc ((nth f.regs i.dst ty0).kind = 1)
  else if i.op = 6 then dc (tyE (nth f.regs i.a ty0) (nth f.regs i.dst ty0))
  else if i.op = 7 then dc ((nth f.regs i.a ty0).kind = 1) && dc (tyE (nth (nth q.recs (nth f.regs i.a ty0).n []) i.n ty0) (nth f.regs i.dst ty0))
  else if i.op = 8 then dc ((nth f.regs i.a ty0).kind = 1) && dc (tyE (nth (nth q.recs (nth f.regs i.a ty0).n []) i.n ty0) (nth f.regs i.b ty0))
  else if i.op = 9 then dc ((nth f.regs i.a ty0).kind = 1)
  else if i.op = 10 then dc ((nth f.regs i.dst ty0).kind = 2) && dc ((nth f.regs i.dst ty0).n = (nth q.funcs i.n fu0).sig)
  else if i.op = 11 then dc ((nth f.regs i.dst ty0).kind = 3) && (dc ((nth f.regs i.a ty0).kind = 1) && dc (0 ≤ implFrom (nth f.regs i.a ty0).n (nth f.regs i.dst ty0).n 0 q.impls))
  else if i.op = 15 then dc ((nth f.regs i.a ty0).kind = 0) else callB q f i
theorem tyE_comm (a b : Ty) : tyE a b = tyE b a := by simp only [tyE, eq_comm]
set_option maxHeartbeats 4000000 in
theorem rFits {l : AM.Loc} {o : Nat} {q : Pg} (hq : PgA I h0 l o q) (hN : NOk q) {cf ci : List AVal} {f : Fu} {i : Ins} (hf : FuC I h0 cf f) (hi : InsC I h0 ci i) (hr : AllL (namedP q) f.regs) (hm : i.args.length ≤ 1000000) (hb : AHeap) (eb : Ext h0 hb) :
    Ret ((AM.lim ⟨P, I, genF P Sh.prims⟩) 14 [.ptr l o, .agg cf, .agg ci] hb) hb (.bool (instrB q f i && fitsO q f i)) := by
  have hq' := hq; have hf' := hf; have hi' := hi
  obtain ⟨_, ⟨vr, vs, vf, vi, vu, rfl, rm, sr, ss, sf, si, su⟩, hc⟩ := hq
  obtain ⟨wr, wb, rfl, r0, swr, swb⟩ := hf'
  obtain ⟨v, rfl, sv, _⟩ := hi'
  have hn1 := swr.one; have hn2 := swb.one; have hn3 := sv.one
  have hs1 := swr.cells; have hs2 := swb.cells; have hs3 := sv.cells
  have hself1 := swr.self; have hself2 := swb.self; have hself3 := sv.self
  cases hB : instrB q f i
  · refine f14.lim rfl (n := 6) ?_; unfold f14.e
    (repeat' (first | refine Rf (fun hF hG => ?_) (fun hF hG => ?_) | assumption | (show Ext _ _; exact Ext.go) | (simp only [AHeap.next_alloc, AHeap.next_set, AHeap.next_kill, AHeap.next_res] at hle hsame) | simp (disch := first | exact D.go | fail) [setR, List.getElem?_cons_zero, List.getElem?_cons_succ, hB, *] | (refine Ret.thn (h0 := hb) (rinstr hq' hf hi hr hm _ Ext.go) ?_ (fun g hg hlo hle hsame hx => ?_))))
  · have ho := InOk.of hB
    obtain ⟨op, dst, a, b, n, args⟩ := i
    have hop := ho.op
    have hops : op = 1 ∨ op = 2 ∨ op = 3 ∨ op = 4 ∨ op = 5 ∨ op = 6 ∨ op = 7 ∨ op = 8 ∨ op = 9 ∨ op = 10 ∨ op = 11 ∨ op = 12 ∨ op = 13 ∨ op = 14 ∨ op = 15 := by simp only at hop; omega
    rcases hops with rfl | rfl | rfl | rfl | rfl | rfl | rfl | rfl | rfl | rfl | rfl | rfl | rfl | rfl | rfl
    · have hd := ho.dst rfl
      refine f14.lim rfl (n := 6) ?_; unfold f14.e
      (repeat' (first | refine Rf (fun hF hG => ?_) (fun hF hG => ?_) | assumption | (show Ext _ _; exact Ext.go) | (simp only [AHeap.next_alloc, AHeap.next_set, AHeap.next_kill, AHeap.next_res] at hle hsame) | simp (disch := first | exact D.go | fail) [setR, List.getElem?_cons_zero, List.getElem?_cons_succ, f14.n0, f14.b0, f14.n1, f14.b1, f14.n2, f14.b2, hB, fitsO, *] | (refine Ret.thn (h0 := hb) (rinstr hq' hf hi hr hm _ Ext.go) ?_ (fun g hg hlo hle hsame hx => ?_)) | (refine Ret.thn (h0 := hb) (rtyp hf hd _ Ext.go) ?_ (fun g hg hlo hle hsame hx => ?_))))
    · have hd := ho.dst rfl; have ha := ho.a rfl; have hbb := ho.b rfl
      refine f14.lim rfl (n := 6) ?_; unfold f14.e
      (repeat' (first | refine Rf (fun hF hG => ?_) (fun hF hG => ?_) | assumption | (show Ext _ _; exact Ext.go) | (simp only [AHeap.next_alloc, AHeap.next_set, AHeap.next_kill, AHeap.next_res] at hle hsame) | simp (disch := first | exact D.go | fail) [setR, List.getElem?_cons_zero, List.getElem?_cons_succ, f14.n0, f14.b0, f14.n1, f14.b1, f14.n2, f14.b2, hB, fitsO, *] | (refine Ret.thn (h0 := hb) (rinstr hq' hf hi hr hm _ Ext.go) ?_ (fun g hg hlo hle hsame hx => ?_)) | (refine Ret.thn (h0 := hb) (rtyp hf hd _ Ext.go) ?_ (fun g hg hlo hle hsame hx => ?_)) | (refine Ret.thn (h0 := hb) (rtyp hf ha _ Ext.go) ?_ (fun g hg hlo hle hsame hx => ?_)) | (refine Ret.thn (h0 := hb) (rtyp hf hbb _ Ext.go) ?_ (fun g hg hlo hle hsame hx => ?_))))
    · have hd := ho.dst rfl
      refine f14.lim rfl (n := 6) ?_; unfold f14.e
      (repeat' (first | refine Rf (fun hF hG => ?_) (fun hF hG => ?_) | assumption | (show Ext _ _; exact Ext.go) | (simp only [AHeap.next_alloc, AHeap.next_set, AHeap.next_kill, AHeap.next_res] at hle hsame) | simp (disch := first | exact D.go | fail) [setR, List.getElem?_cons_zero, List.getElem?_cons_succ, f14.n0, f14.b0, f14.n1, f14.b1, f14.n2, f14.b2, hB, fitsO, *] | (refine Ret.thn (h0 := hb) (rinstr hq' hf hi hr hm _ Ext.go) ?_ (fun g hg hlo hle hsame hx => ?_)) | (refine Ret.thn (h0 := hb) (rtyp hf hd _ Ext.go) ?_ (fun g hg hlo hle hsame hx => ?_))))
    · have hd := ho.dst rfl
      refine f14.lim rfl (n := 6) ?_; unfold f14.e
      (repeat' (first | refine Rf (fun hF hG => ?_) (fun hF hG => ?_) | assumption | (show Ext _ _; exact Ext.go) | (simp only [AHeap.next_alloc, AHeap.next_set, AHeap.next_kill, AHeap.next_res] at hle hsame) | simp (disch := first | exact D.go | fail) [setR, List.getElem?_cons_zero, List.getElem?_cons_succ, f14.n0, f14.b0, f14.n1, f14.b1, f14.n2, f14.b2, hB, fitsO, *] | (refine Ret.thn (h0 := hb) (rinstr hq' hf hi hr hm _ Ext.go) ?_ (fun g hg hlo hle hsame hx => ?_)) | (refine Ret.thn (h0 := hb) (rtyp hf hd _ Ext.go) ?_ (fun g hg hlo hle hsame hx => ?_))))
    · have hd := ho.dst rfl
      refine f14.lim rfl (n := 6) ?_; unfold f14.e
      (repeat' (first | refine Rf (fun hF hG => ?_) (fun hF hG => ?_) | assumption | (show Ext _ _; exact Ext.go) | (simp only [AHeap.next_alloc, AHeap.next_set, AHeap.next_kill, AHeap.next_res] at hle hsame) | simp (disch := first | exact D.go | fail) [setR, List.getElem?_cons_zero, List.getElem?_cons_succ, f14.n0, f14.b0, f14.n1, f14.b1, f14.n2, f14.b2, hB, fitsO, *] | (refine Ret.thn (h0 := hb) (rinstr hq' hf hi hr hm _ Ext.go) ?_ (fun g hg hlo hle hsame hx => ?_)) | (refine Ret.thn (h0 := hb) (rtyp hf hd _ Ext.go) ?_ (fun g hg hlo hle hsame hx => ?_))))
    · have hd := ho.dst rfl; have ha := ho.a rfl
      have hco := tyE_comm (nth f.regs dst ty0) (nth f.regs a ty0)
      refine f14.lim rfl (n := 6) ?_; unfold f14.e
      (repeat' (first | refine Rf (fun hF hG => ?_) (fun hF hG => ?_) | assumption | (show Ext _ _; exact Ext.go) | (simp only [AHeap.next_alloc, AHeap.next_set, AHeap.next_kill, AHeap.next_res] at hle hsame) | simp (disch := first | exact D.go | fail) [setR, List.getElem?_cons_zero, List.getElem?_cons_succ, f14.n0, f14.b0, f14.n1, f14.b1, f14.n2, f14.b2, hB, fitsO, *] | (refine Ret.thn (h0 := hb) (rinstr hq' hf hi hr hm _ Ext.go) ?_ (fun g hg hlo hle hsame hx => ?_)) | (refine Ret.thn (h0 := hb) (rtyp hf hd _ Ext.go) ?_ (fun g hg hlo hle hsame hx => ?_)) | (refine Ret.thn (h0 := hb) (rtyp hf ha _ Ext.go) ?_ (fun g hg hlo hle hsame hx => ?_)) | (refine Ret.thn (h0 := hb) (req _ _ _) ?_ (fun g hg hlo hle hsame hx => ?_))))
    · have hd := ho.dst rfl; have ha := ho.a rfl
      by_cases k1 : (nth f.regs a ty0).kind = 1
      · have h1 := namedP_1 (hr _ (nth_mem ha _)) k1
        have h2 : inB n (nth q.recs (nth f.regs a ty0).n []).length := by have := ho.rest; simpa [restB, k1] using this
        obtain ⟨l3, o3, hy1, ⟨_, ⟨w, rfl, sw⟩, hy2⟩, _⟩ := sr.atI h1.1 h1.2 []
        obtain ⟨l4, o4, hz1, ⟨_, ⟨rfl, _, _⟩, hz2⟩, _⟩ := sw.atI h2.1 h2.2 ty0
        have hzd := fun g e => hz2.rds (n := 2) g e rfl (by omega)
        refine f14.lim rfl (n := 6) ?_; unfold f14.e
        (repeat' (first | refine Rf (fun hF hG => ?_) (fun hF hG => ?_) | assumption | (show Ext _ _; exact Ext.go) | (simp only [AHeap.next_alloc, AHeap.next_set, AHeap.next_kill, AHeap.next_res] at hle hsame) | simp (disch := first | exact D.go | fail) [setR, List.getElem?_cons_zero, List.getElem?_cons_succ, f14.n0, f14.b0, f14.n1, f14.b1, f14.n2, f14.b2, hc.rd0, hc.rd1, hc.rd2, hc.rd3, hc.rd4, hc.rd5, sr.len, ss.len, sf.len, si.len, su.len, sr.self, ss.self, sf.self, si.self, su.self, hB, fitsO, k1, hy1, hy2.rd0, hz1, hzd, sw.self, *] | (refine Ret.thn (h0 := hb) (rinstr hq' hf hi hr hm _ Ext.go) ?_ (fun g hg hlo hle hsame hx => ?_)) | (refine Ret.thn (h0 := hb) (rtyp hf hd _ Ext.go) ?_ (fun g hg hlo hle hsame hx => ?_)) | (refine Ret.thn (h0 := hb) (rtyp hf ha _ Ext.go) ?_ (fun g hg hlo hle hsame hx => ?_)) | (refine Ret.thn (h0 := hb) (req _ _ _) ?_ (fun g hg hlo hle hsame hx => ?_))))
      · refine f14.lim rfl (n := 6) ?_; unfold f14.e
        (repeat' (first | refine Rf (fun hF hG => ?_) (fun hF hG => ?_) | assumption | (show Ext _ _; exact Ext.go) | (simp only [AHeap.next_alloc, AHeap.next_set, AHeap.next_kill, AHeap.next_res] at hle hsame) | simp (disch := first | exact D.go | fail) [setR, List.getElem?_cons_zero, List.getElem?_cons_succ, f14.n0, f14.b0, f14.n1, f14.b1, f14.n2, f14.b2, hB, fitsO, k1, *] | (refine Ret.thn (h0 := hb) (rinstr hq' hf hi hr hm _ Ext.go) ?_ (fun g hg hlo hle hsame hx => ?_)) | (refine Ret.thn (h0 := hb) (rtyp hf ha _ Ext.go) ?_ (fun g hg hlo hle hsame hx => ?_))))
    · have hbb := ho.b rfl; have ha := ho.a rfl
      by_cases k1 : (nth f.regs a ty0).kind = 1
      · have h1 := namedP_1 (hr _ (nth_mem ha _)) k1
        have h2 : inB n (nth q.recs (nth f.regs a ty0).n []).length := by have := ho.rest; simpa [restB, k1] using this
        obtain ⟨l3, o3, hy1, ⟨_, ⟨w, rfl, sw⟩, hy2⟩, _⟩ := sr.atI h1.1 h1.2 []
        obtain ⟨l4, o4, hz1, ⟨_, ⟨rfl, _, _⟩, hz2⟩, _⟩ := sw.atI h2.1 h2.2 ty0
        have hzd := fun g e => hz2.rds (n := 2) g e rfl (by omega)
        refine f14.lim rfl (n := 6) ?_; unfold f14.e
        (repeat' (first | refine Rf (fun hF hG => ?_) (fun hF hG => ?_) | assumption | (show Ext _ _; exact Ext.go) | (simp only [AHeap.next_alloc, AHeap.next_set, AHeap.next_kill, AHeap.next_res] at hle hsame) | simp (disch := first | exact D.go | fail) [setR, List.getElem?_cons_zero, List.getElem?_cons_succ, f14.n0, f14.b0, f14.n1, f14.b1, f14.n2, f14.b2, hc.rd0, hc.rd1, hc.rd2, hc.rd3, hc.rd4, hc.rd5, sr.len, ss.len, sf.len, si.len, su.len, sr.self, ss.self, sf.self, si.self, su.self, hB, fitsO, k1, hy1, hy2.rd0, hz1, hzd, sw.self, *] | (refine Ret.thn (h0 := hb) (rinstr hq' hf hi hr hm _ Ext.go) ?_ (fun g hg hlo hle hsame hx => ?_)) | (refine Ret.thn (h0 := hb) (rtyp hf hbb _ Ext.go) ?_ (fun g hg hlo hle hsame hx => ?_)) | (refine Ret.thn (h0 := hb) (rtyp hf ha _ Ext.go) ?_ (fun g hg hlo hle hsame hx => ?_)) | (refine Ret.thn (h0 := hb) (req _ _ _) ?_ (fun g hg hlo hle hsame hx => ?_))))
      · refine f14.lim rfl (n := 6) ?_; unfold f14.e
        (repeat' (first | refine Rf (fun hF hG => ?_) (fun hF hG => ?_) | assumption | (show Ext _ _; exact Ext.go) | (simp only [AHeap.next_alloc, AHeap.next_set, AHeap.next_kill, AHeap.next_res] at hle hsame) | simp (disch := first | exact D.go | fail) [setR, List.getElem?_cons_zero, List.getElem?_cons_succ, f14.n0, f14.b0, f14.n1, f14.b1, f14.n2, f14.b2, hB, fitsO, k1, *] | (refine Ret.thn (h0 := hb) (rinstr hq' hf hi hr hm _ Ext.go) ?_ (fun g hg hlo hle hsame hx => ?_)) | (refine Ret.thn (h0 := hb) (rtyp hf ha _ Ext.go) ?_ (fun g hg hlo hle hsame hx => ?_))))
    · have ha := ho.a rfl
      refine f14.lim rfl (n := 6) ?_; unfold f14.e
      (repeat' (first | refine Rf (fun hF hG => ?_) (fun hF hG => ?_) | assumption | (show Ext _ _; exact Ext.go) | (simp only [AHeap.next_alloc, AHeap.next_set, AHeap.next_kill, AHeap.next_res] at hle hsame) | simp (disch := first | exact D.go | fail) [setR, List.getElem?_cons_zero, List.getElem?_cons_succ, f14.n0, f14.b0, f14.n1, f14.b1, f14.n2, f14.b2, hB, fitsO, *] | (refine Ret.thn (h0 := hb) (rinstr hq' hf hi hr hm _ Ext.go) ?_ (fun g hg hlo hle hsame hx => ?_)) | (refine Ret.thn (h0 := hb) (rtyp hf ha _ Ext.go) ?_ (fun g hg hlo hle hsame hx => ?_))))
    · have hd := ho.dst rfl
      have hfn : inB n q.funcs.length := by have := ho.rest; simpa [restB] using this
      obtain ⟨l3, o3, hy1, ⟨_, ⟨_, _, rfl, _⟩, hy2⟩, _⟩ := su.atI hfn.1 hfn.2 fu0
      refine f14.lim rfl (n := 6) ?_; unfold f14.e
      (repeat' (first | refine Rf (fun hF hG => ?_) (fun hF hG => ?_) | assumption | (show Ext _ _; exact Ext.go) | (simp only [AHeap.next_alloc, AHeap.next_set, AHeap.next_kill, AHeap.next_res] at hle hsame) | simp (disch := first | exact D.go | fail) [setR, List.getElem?_cons_zero, List.getElem?_cons_succ, f14.n0, f14.b0, f14.n1, f14.b1, f14.n2, f14.b2, hc.rd0, hc.rd1, hc.rd2, hc.rd3, hc.rd4, hc.rd5, sr.len, ss.len, sf.len, si.len, su.len, sr.self, ss.self, sf.self, si.self, su.self, hB, fitsO, hy1, hy2.rd0, *] | (refine Ret.thn (h0 := hb) (rinstr hq' hf hi hr hm _ Ext.go) ?_ (fun g hg hlo hle hsame hx => ?_)) | (refine Ret.thn (h0 := hb) (rtyp hf hd _ Ext.go) ?_ (fun g hg hlo hle hsame hx => ?_))))
    · have hd := ho.dst rfl; have ha := ho.a rfl
      refine f14.lim rfl (n := 6) ?_; unfold f14.e
      (repeat' (first | refine Rf (fun hF hG => ?_) (fun hF hG => ?_) | assumption | (show Ext _ _; exact Ext.go) | (simp only [AHeap.next_alloc, AHeap.next_set, AHeap.next_kill, AHeap.next_res] at hle hsame) | simp (disch := first | exact D.go | fail) [setR, List.getElem?_cons_zero, List.getElem?_cons_succ, f14.n0, f14.b0, f14.n1, f14.b1, f14.n2, f14.b2, hB, fitsO, *] | (refine Ret.thn (h0 := hb) (rinstr hq' hf hi hr hm _ Ext.go) ?_ (fun g hg hlo hle hsame hx => ?_)) | (refine Ret.thn (h0 := hb) (rtyp hf hd _ Ext.go) ?_ (fun g hg hlo hle hsame hx => ?_)) | (refine Ret.thn (h0 := hb) (rtyp hf ha _ Ext.go) ?_ (fun g hg hlo hle hsame hx => ?_)) | (refine Ret.thn (h0 := hb) (rImpl hq' _ _ _ Ext.go) ?_ (fun g hg hlo hle hsame hx => ?_))))
    · have hd := ho.dst rfl; have hag := ho.args
      have hfn : inB n q.funcs.length := by have := ho.rest; simpa [restB] using this
      have hsg := hN.sig _ (nth_mem hfn fu0)
      obtain ⟨l3, o3, hy1, ⟨_, ⟨_, _, rfl, _⟩, hy2⟩, _⟩ := su.atI hfn.1 hfn.2 fu0
      obtain ⟨l4, o4, hz1, ⟨cs, hcs, hz2⟩, _⟩ := ss.atI hsg.1 hsg.2 sg0
      have hcl : cs.length = 3 := by obtain ⟨w, rfl, _⟩ := hcs; rfl
      have hzd := fun g e => hz2.rds (n := 3) g e hcl (by omega)
      refine f14.lim rfl (n := 6) ?_; unfold f14.e
      (repeat' (first | refine Rf (fun hF hG => ?_) (fun hF hG => ?_) | assumption | (show Ext _ _; exact Ext.go) | (simp only [AHeap.next_alloc, AHeap.next_set, AHeap.next_kill, AHeap.next_res] at hle hsame) | simp (disch := first | exact D.go | fail) [setR, List.getElem?_cons_zero, List.getElem?_cons_succ, f14.n0, f14.b0, f14.n1, f14.b1, f14.n2, f14.b2, hc.rd0, hc.rd1, hc.rd2, hc.rd3, hc.rd4, hc.rd5, sr.len, ss.len, sf.len, si.len, su.len, sr.self, ss.self, sf.self, si.self, su.self, hB, fitsO, hy1, hy2.rd0, hz1, hzd, callB, callee, *] | (refine Ret.thn (h0 := hb) (rinstr hq' hf hi hr hm _ Ext.go) ?_ (fun g hg hlo hle hsame hx => ?_)) | (refine Ret.thn (h0 := hb) (rcall hf hi hcs hag hd _ Ext.go) ?_ (fun g hg hlo hle hsame hx => ?_))))
    · have hd := ho.dst rfl; have ha := ho.a rfl; have hag := ho.args
      by_cases k2 : (nth f.regs a ty0).kind = 2
      · have hsg := namedP_2 (hr _ (nth_mem ha _)) k2
        obtain ⟨l4, o4, hz1, ⟨cs, hcs, hz2⟩, _⟩ := ss.atI hsg.1 hsg.2 sg0
        have hcl : cs.length = 3 := by obtain ⟨w, rfl, _⟩ := hcs; rfl
        have hzd := fun g e => hz2.rds (n := 3) g e hcl (by omega)
        refine f14.lim rfl (n := 6) ?_; unfold f14.e
        (repeat' (first | refine Rf (fun hF hG => ?_) (fun hF hG => ?_) | assumption | (show Ext _ _; exact Ext.go) | (simp only [AHeap.next_alloc, AHeap.next_set, AHeap.next_kill, AHeap.next_res] at hle hsame) | simp (disch := first | exact D.go | fail) [setR, List.getElem?_cons_zero, List.getElem?_cons_succ, f14.n0, f14.b0, f14.n1, f14.b1, f14.n2, f14.b2, hc.rd0, hc.rd1, hc.rd2, hc.rd3, hc.rd4, hc.rd5, sr.len, ss.len, sf.len, si.len, su.len, sr.self, ss.self, sf.self, si.self, su.self, hB, fitsO, hz1, hzd, k2, callB, callee, *] | (refine Ret.thn (h0 := hb) (rinstr hq' hf hi hr hm _ Ext.go) ?_ (fun g hg hlo hle hsame hx => ?_)) | (refine Ret.thn (h0 := hb) (rtyp hf ha _ Ext.go) ?_ (fun g hg hlo hle hsame hx => ?_)) | (refine Ret.thn (h0 := hb) (rcall hf hi hcs hag hd _ Ext.go) ?_ (fun g hg hlo hle hsame hx => ?_))))
      · refine f14.lim rfl (n := 6) ?_; unfold f14.e
        (repeat' (first | refine Rf (fun hF hG => ?_) (fun hF hG => ?_) | assumption | (show Ext _ _; exact Ext.go) | (simp only [AHeap.next_alloc, AHeap.next_set, AHeap.next_kill, AHeap.next_res] at hle hsame) | simp (disch := first | exact D.go | fail) [setR, List.getElem?_cons_zero, List.getElem?_cons_succ, f14.n0, f14.b0, f14.n1, f14.b1, f14.n2, f14.b2, hc.rd0, hc.rd1, hc.rd2, hc.rd3, hc.rd4, hc.rd5, sr.len, ss.len, sf.len, si.len, su.len, sr.self, ss.self, sf.self, si.self, su.self, hB, fitsO, k2, callB, callee, *] | (refine Ret.thn (h0 := hb) (rinstr hq' hf hi hr hm _ Ext.go) ?_ (fun g hg hlo hle hsame hx => ?_)) | (refine Ret.thn (h0 := hb) (rtyp hf ha _ Ext.go) ?_ (fun g hg hlo hle hsame hx => ?_))))
    · have hd := ho.dst rfl; have ha := ho.a rfl; have hag := ho.args
      by_cases k3 : (nth f.regs a ty0).kind = 3
      · have h1 := namedP_3 (hr _ (nth_mem ha _)) k3
        have h2 : inB n (nth q.faces (nth f.regs a ty0).n []).length := by have := ho.rest; simpa [restB, k3] using this
        obtain ⟨l3, o3, hy1, ⟨_, ⟨w, rfl, sw⟩, hy2⟩, _⟩ := sf.atI h1.1 h1.2 []
        obtain ⟨l5, o5, hw1, hw2, hwm⟩ := sw.atI h2.1 h2.2 0
        obtain ⟨hw2, _⟩ := hw2.int
        have hsg := hN.faces _ (nth_mem h1 []) _ hwm
        obtain ⟨l4, o4, hz1, ⟨cs, hcs, hz2⟩, _⟩ := ss.atI hsg.1 hsg.2 sg0
        have hcl : cs.length = 3 := by obtain ⟨w, rfl, _⟩ := hcs; rfl
        have hzd := fun g e => hz2.rds (n := 3) g e hcl (by omega)
        refine f14.lim rfl (n := 6) ?_; unfold f14.e
        (repeat' (first | refine Rf (fun hF hG => ?_) (fun hF hG => ?_) | assumption | (show Ext _ _; exact Ext.go) | (simp only [AHeap.next_alloc, AHeap.next_set, AHeap.next_kill, AHeap.next_res] at hle hsame) | simp (disch := first | exact D.go | fail) [setR, List.getElem?_cons_zero, List.getElem?_cons_succ, f14.n0, f14.b0, f14.n1, f14.b1, f14.n2, f14.b2, hc.rd0, hc.rd1, hc.rd2, hc.rd3, hc.rd4, hc.rd5, sr.len, ss.len, sf.len, si.len, su.len, sr.self, ss.self, sf.self, si.self, su.self, hB, fitsO, hy1, hy2.rd0, hw1, hw2, hz1, hzd, sw.self, k3, callB, callee, *] | (refine Ret.thn (h0 := hb) (rinstr hq' hf hi hr hm _ Ext.go) ?_ (fun g hg hlo hle hsame hx => ?_)) | (refine Ret.thn (h0 := hb) (rtyp hf ha _ Ext.go) ?_ (fun g hg hlo hle hsame hx => ?_)) | (refine Ret.thn (h0 := hb) (rcall hf hi hcs hag hd _ Ext.go) ?_ (fun g hg hlo hle hsame hx => ?_))))
      · refine f14.lim rfl (n := 6) ?_; unfold f14.e
        (repeat' (first | refine Rf (fun hF hG => ?_) (fun hF hG => ?_) | assumption | (show Ext _ _; exact Ext.go) | (simp only [AHeap.next_alloc, AHeap.next_set, AHeap.next_kill, AHeap.next_res] at hle hsame) | simp (disch := first | exact D.go | fail) [setR, List.getElem?_cons_zero, List.getElem?_cons_succ, f14.n0, f14.b0, f14.n1, f14.b1, f14.n2, f14.b2, hc.rd0, hc.rd1, hc.rd2, hc.rd3, hc.rd4, hc.rd5, sr.len, ss.len, sf.len, si.len, su.len, sr.self, ss.self, sf.self, si.self, su.self, hB, fitsO, k3, callB, callee, *] | (refine Ret.thn (h0 := hb) (rinstr hq' hf hi hr hm _ Ext.go) ?_ (fun g hg hlo hle hsame hx => ?_)) | (refine Ret.thn (h0 := hb) (rtyp hf ha _ Ext.go) ?_ (fun g hg hlo hle hsame hx => ?_))))
    · have ha := ho.a rfl
      refine f14.lim rfl (n := 6) ?_; unfold f14.e
      (repeat' (first | refine Rf (fun hF hG => ?_) (fun hF hG => ?_) | assumption | (show Ext _ _; exact Ext.go) | (simp only [AHeap.next_alloc, AHeap.next_set, AHeap.next_kill, AHeap.next_res] at hle hsame) | simp (disch := first | exact D.go | fail) [setR, List.getElem?_cons_zero, List.getElem?_cons_succ, f14.n0, f14.b0, f14.n1, f14.b1, f14.n2, f14.b2, hB, fitsO, *] | (refine Ret.thn (h0 := hb) (rinstr hq' hf hi hr hm _ Ext.go) ?_ (fun g hg hlo hle hsame hx => ?_)) | (refine Ret.thn (h0 := hb) (rtyp hf ha _ Ext.go) ?_ (fun g hg hlo hle hsame hx => ?_))))
end
end
end Go.Proofs.YthihegmbdclikaaDoor.Tx
