/- Contracts of the functions, part 1: what each function of the program and of the reference comes to. Conditions: as each lemma says. -/
import Derived.Test.YthihegmbdclikaaDoorTxA
set_option linter.unusedSimpArgs false
set_option linter.unusedVariables false
namespace Go.Proofs.YthihegmbdclikaaDoor.Tx
noncomputable section
open Go.AM Go.Proofs.YthihegmbdclikaaDoor.Sf
section
variable {I : Inp} {h0 : AHeap}
theorem tkind {f : Fu} {wr : AVal} (swr : SlOf 2 (At I h0 TyC) wr f.regs) {r : Int} (hr : inB r f.regs.length) {k7 : Nat} (hb : AHeap) (eb : Ext h0 hb) (c7 : Cells I hb (.own k7) 0 [wr]) :
    Ret ((AM.lim ⟨P, I, genF P Sh.prims⟩) 29 [.int .i64 r, .ptr (.own k7) 0] hb) hb (.int .i64 (nth f.regs r ty0).kind) := by
  obtain ⟨l1, o1, hi, ⟨_, ⟨rfl, q0, q1⟩, ha⟩, _⟩ := swr.atI hr.1 hr.2 ty0
  refine f29.lim rfl (n := 2) ?_
  unfold f29.e
  (repeat' (first | refine Rf (fun hF hG => ?_) (fun hF hG => ?_) | assumption | (show Ext _ _; exact Ext.go) | (simp only [AHeap.next_alloc, AHeap.next_set, AHeap.next_kill, AHeap.next_res] at hle hsame) | simp (disch := first | exact D.go | fail) [setR, List.getElem?_cons_zero, List.getElem?_cons_succ, setR, hi, ha.rd0, c7.rd0, *]))
set_option maxHeartbeats 4000000 in
theorem tFitsT {l : AM.Loc} {o : Nat} {q : Pg} (hq : PgA I h0 l o q) (hN : NOk q) {ci : List AVal} {f : Fu} {i : Ins} {fi : Nat} (hfi : q.funcs[fi]? = some f) (hi : InsC I h0 ci i) (hr : AllL (namedP q) f.regs) (ho : InOk q f i) {k5 : Nat} {hs hH : AHeap} (es : Ext hs hH) (eH : Ext h0 hH)
    (c5 : Cells I hH (.own k5) 0 ci) (m : Nat) (hb : AHeap) (e : Ext hH hb) :
    Res ((f13.J I (AM.lim ⟨P, I, genF P Sh.prims⟩) (m + 20)).1.1.1.1.1 (.ptr l o) (.int .i64 fi) (.ptr (.own k5) 0) hb) fun u g => u = .bool (fitsO q f i) ∧ Ext hs g := by
  have hq' := hq; have hi' := hi
  have eb := eH.trans e
  have ehs := es.trans e
  have hlo := eH.lo; have hlo2 := e.lo; have hlo3 := es.lo
  have hci : ci.length = 6 := by obtain ⟨v, rfl, _⟩ := hi; rfl
  have c5s := fun g e => c5.rds (n := 6) g e hci (by omega)
  obtain ⟨_, ⟨vr, vs, vf, vi, vu, rfl, rm, sr, ss, sf, si, su⟩, hc⟩ := hq
  obtain ⟨lf, of, hif, ⟨_, ⟨wr, wb, rfl, r0, swr, swb⟩, hwf⟩⟩ := su.at hfi
  have c7 : Cells I ((hb.alloc ⟨[.nils], true⟩).set hb.next ⟨[wr], true⟩) (.own hb.next) 0 [wr] := Cells.own (AHeap.set_at (Nb.o rfl)) (by simp) fun i v hv => by simpa using hv
  obtain ⟨v, rfl, sv, _⟩ := hi'
  have hn1 := swr.one; have hn2 := swr.cells
  obtain ⟨op, dst, a, b, n, args⟩ := i
  have hop := ho.op
  have hops : op = 1 ∨ op = 2 ∨ op = 3 ∨ op = 4 ∨ op = 5 ∨ op = 6 ∨ op = 7 ∨ op = 8 ∨ op = 9 ∨ op = 10 ∨ op = 11 ∨ op = 12 ∨ op = 13 ∨ op = 14 ∨ op = 15 := by simp only at hop; omega
  rcases hops with rfl | rfl | rfl | rfl | rfl | rfl | rfl | rfl | rfl | rfl | rfl | rfl | rfl | rfl | rfl
  · have hd := ho.dst rfl
    rw [f13.n0]; unfold f13.b0
    (repeat' (first | refine Rf (fun hF hG => ?_) (fun hF hG => ?_) | assumption | (show Ext _ _; exact Ext.go) | (simp only [AHeap.next_alloc, AHeap.next_set, AHeap.next_kill, AHeap.next_res] at hle hsame) | simp (disch := first | exact D.go | fail) [setR, List.getElem?_cons_zero, List.getElem?_cons_succ, f13.n1, f13.b1, f13.n2, f13.b2, f13.n3, f13.b3, f13.n4, f13.b4, f13.n5, f13.b5, f13.n6, f13.b6, f13.n7, f13.b7, f13.n8, f13.b8, f13.n9, f13.b9, f13.n10, f13.b10, f13.n11, f13.b11, f13.n12, f13.b12, f13.n13, f13.b13, f13.n14, f13.b14, f13.n15, f13.b15, f13.n16, f13.b16, f13.n17, f13.b17, f13.n18, f13.b18, f13.n19, f13.b19, f13.n20, f13.b20, f13.n21, f13.b21, f13.n22, f13.b22, f13.n23, f13.b23, f13.n24, f13.b24, f13.n25, f13.b25, f13.n26, f13.b26, f13.n27, f13.b27, f13.n28, f13.b28, f13.n29, f13.b29, f13.n30, f13.b30, f13.n31, f13.b31, f13.n32, f13.b32, f13.n33, f13.b33, f13.n34, f13.b34, hc.rd0, hc.rd1, hc.rd2, hc.rd3, hc.rd4, hc.rd5, sr.len, ss.len, sf.len, si.len, su.len, sr.self, ss.self, sf.self, si.self, su.self, hif, hwf.rd0, hwf.rd1, c5.rd0, c5.rd1, c5.rd2, c5.rd3, c5.rd4, c5.rd5, c5s, c7.rd0, hn1, hn2, fitsO, *] | (refine Ret.thn (h0 := hb) (tkind swr hd _ Ext.go (c7.mono Ext.go)) ?_ (fun g hg hlo hle hsame hx => ?_))))
  · have hd := ho.dst rfl; have ha := ho.a rfl; have hbb := ho.b rfl
    rw [f13.n0]; unfold f13.b0
    (repeat' (first | refine Rf (fun hF hG => ?_) (fun hF hG => ?_) | assumption | (show Ext _ _; exact Ext.go) | (simp only [AHeap.next_alloc, AHeap.next_set, AHeap.next_kill, AHeap.next_res] at hle hsame) | simp (disch := first | exact D.go | fail) [setR, List.getElem?_cons_zero, List.getElem?_cons_succ, f13.n1, f13.b1, f13.n2, f13.b2, f13.n3, f13.b3, f13.n4, f13.b4, f13.n5, f13.b5, f13.n6, f13.b6, f13.n7, f13.b7, f13.n8, f13.b8, f13.n9, f13.b9, f13.n10, f13.b10, f13.n11, f13.b11, f13.n12, f13.b12, f13.n13, f13.b13, f13.n14, f13.b14, f13.n15, f13.b15, f13.n16, f13.b16, f13.n17, f13.b17, f13.n18, f13.b18, f13.n19, f13.b19, f13.n20, f13.b20, f13.n21, f13.b21, f13.n22, f13.b22, f13.n23, f13.b23, f13.n24, f13.b24, f13.n25, f13.b25, f13.n26, f13.b26, f13.n27, f13.b27, f13.n28, f13.b28, f13.n29, f13.b29, f13.n30, f13.b30, f13.n31, f13.b31, f13.n32, f13.b32, f13.n33, f13.b33, f13.n34, f13.b34, hc.rd0, hc.rd1, hc.rd2, hc.rd3, hc.rd4, hc.rd5, sr.len, ss.len, sf.len, si.len, su.len, sr.self, ss.self, sf.self, si.self, su.self, hif, hwf.rd0, hwf.rd1, c5.rd0, c5.rd1, c5.rd2, c5.rd3, c5.rd4, c5.rd5, c5s, c7.rd0, hn1, hn2, fitsO, *] | (refine Ret.thn (h0 := hb) (tkind swr hd _ Ext.go (c7.mono Ext.go)) ?_ (fun g hg hlo hle hsame hx => ?_)) | (refine Ret.thn (h0 := hb) (tkind swr ha _ Ext.go (c7.mono Ext.go)) ?_ (fun g hg hlo hle hsame hx => ?_)) | (refine Ret.thn (h0 := hb) (tkind swr hbb _ Ext.go (c7.mono Ext.go)) ?_ (fun g hg hlo hle hsame hx => ?_))))
  · have hd := ho.dst rfl
    rw [f13.n0]; unfold f13.b0
    (repeat' (first | refine Rf (fun hF hG => ?_) (fun hF hG => ?_) | assumption | (show Ext _ _; exact Ext.go) | (simp only [AHeap.next_alloc, AHeap.next_set, AHeap.next_kill, AHeap.next_res] at hle hsame) | simp (disch := first | exact D.go | fail) [setR, List.getElem?_cons_zero, List.getElem?_cons_succ, f13.n1, f13.b1, f13.n2, f13.b2, f13.n3, f13.b3, f13.n4, f13.b4, f13.n5, f13.b5, f13.n6, f13.b6, f13.n7, f13.b7, f13.n8, f13.b8, f13.n9, f13.b9, f13.n10, f13.b10, f13.n11, f13.b11, f13.n12, f13.b12, f13.n13, f13.b13, f13.n14, f13.b14, f13.n15, f13.b15, f13.n16, f13.b16, f13.n17, f13.b17, f13.n18, f13.b18, f13.n19, f13.b19, f13.n20, f13.b20, f13.n21, f13.b21, f13.n22, f13.b22, f13.n23, f13.b23, f13.n24, f13.b24, f13.n25, f13.b25, f13.n26, f13.b26, f13.n27, f13.b27, f13.n28, f13.b28, f13.n29, f13.b29, f13.n30, f13.b30, f13.n31, f13.b31, f13.n32, f13.b32, f13.n33, f13.b33, f13.n34, f13.b34, hc.rd0, hc.rd1, hc.rd2, hc.rd3, hc.rd4, hc.rd5, sr.len, ss.len, sf.len, si.len, su.len, sr.self, ss.self, sf.self, si.self, su.self, hif, hwf.rd0, hwf.rd1, c5.rd0, c5.rd1, c5.rd2, c5.rd3, c5.rd4, c5.rd5, c5s, c7.rd0, hn1, hn2, fitsO, *] | (refine Ret.thn (h0 := hb) (tkind swr hd _ Ext.go (c7.mono Ext.go)) ?_ (fun g hg hlo hle hsame hx => ?_))))
  · have hd := ho.dst rfl
    rw [f13.n0]; unfold f13.b0
    (repeat' (first | refine Rf (fun hF hG => ?_) (fun hF hG => ?_) | assumption | (show Ext _ _; exact Ext.go) | (simp only [AHeap.next_alloc, AHeap.next_set, AHeap.next_kill, AHeap.next_res] at hle hsame) | simp (disch := first | exact D.go | fail) [setR, List.getElem?_cons_zero, List.getElem?_cons_succ, f13.n1, f13.b1, f13.n2, f13.b2, f13.n3, f13.b3, f13.n4, f13.b4, f13.n5, f13.b5, f13.n6, f13.b6, f13.n7, f13.b7, f13.n8, f13.b8, f13.n9, f13.b9, f13.n10, f13.b10, f13.n11, f13.b11, f13.n12, f13.b12, f13.n13, f13.b13, f13.n14, f13.b14, f13.n15, f13.b15, f13.n16, f13.b16, f13.n17, f13.b17, f13.n18, f13.b18, f13.n19, f13.b19, f13.n20, f13.b20, f13.n21, f13.b21, f13.n22, f13.b22, f13.n23, f13.b23, f13.n24, f13.b24, f13.n25, f13.b25, f13.n26, f13.b26, f13.n27, f13.b27, f13.n28, f13.b28, f13.n29, f13.b29, f13.n30, f13.b30, f13.n31, f13.b31, f13.n32, f13.b32, f13.n33, f13.b33, f13.n34, f13.b34, hc.rd0, hc.rd1, hc.rd2, hc.rd3, hc.rd4, hc.rd5, sr.len, ss.len, sf.len, si.len, su.len, sr.self, ss.self, sf.self, si.self, su.self, hif, hwf.rd0, hwf.rd1, c5.rd0, c5.rd1, c5.rd2, c5.rd3, c5.rd4, c5.rd5, c5s, c7.rd0, hn1, hn2, fitsO, *] | (refine Ret.thn (h0 := hb) (tkind swr hd _ Ext.go (c7.mono Ext.go)) ?_ (fun g hg hlo hle hsame hx => ?_))))
  · have hd := ho.dst rfl
    rw [f13.n0]; unfold f13.b0
    (repeat' (first | refine Rf (fun hF hG => ?_) (fun hF hG => ?_) | assumption | (show Ext _ _; exact Ext.go) | (simp only [AHeap.next_alloc, AHeap.next_set, AHeap.next_kill, AHeap.next_res] at hle hsame) | simp (disch := first | exact D.go | fail) [setR, List.getElem?_cons_zero, List.getElem?_cons_succ, f13.n1, f13.b1, f13.n2, f13.b2, f13.n3, f13.b3, f13.n4, f13.b4, f13.n5, f13.b5, f13.n6, f13.b6, f13.n7, f13.b7, f13.n8, f13.b8, f13.n9, f13.b9, f13.n10, f13.b10, f13.n11, f13.b11, f13.n12, f13.b12, f13.n13, f13.b13, f13.n14, f13.b14, f13.n15, f13.b15, f13.n16, f13.b16, f13.n17, f13.b17, f13.n18, f13.b18, f13.n19, f13.b19, f13.n20, f13.b20, f13.n21, f13.b21, f13.n22, f13.b22, f13.n23, f13.b23, f13.n24, f13.b24, f13.n25, f13.b25, f13.n26, f13.b26, f13.n27, f13.b27, f13.n28, f13.b28, f13.n29, f13.b29, f13.n30, f13.b30, f13.n31, f13.b31, f13.n32, f13.b32, f13.n33, f13.b33, f13.n34, f13.b34, hc.rd0, hc.rd1, hc.rd2, hc.rd3, hc.rd4, hc.rd5, sr.len, ss.len, sf.len, si.len, su.len, sr.self, ss.self, sf.self, si.self, su.self, hif, hwf.rd0, hwf.rd1, c5.rd0, c5.rd1, c5.rd2, c5.rd3, c5.rd4, c5.rd5, c5s, c7.rd0, hn1, hn2, fitsO, *] | (refine Ret.thn (h0 := hb) (tkind swr hd _ Ext.go (c7.mono Ext.go)) ?_ (fun g hg hlo hle hsame hx => ?_))))
  · have hd := ho.dst rfl; have ha := ho.a rfl
    obtain ⟨ld, od, hd1, ⟨_, ⟨rfl, qd1, qd2⟩, hd2⟩, _⟩ := swr.atI hd.1 hd.2 ty0; have hdl := fun g e => hd2.rds (n := 2) g e rfl (by omega); obtain ⟨la, oa, ha1, ⟨_, ⟨rfl, qa1, qa2⟩, ha2⟩, _⟩ := swr.atI ha.1 ha.2 ty0; have hal := fun g e => ha2.rds (n := 2) g e rfl (by omega)
    rw [f13.n0]; unfold f13.b0
    (repeat' (first | refine Rf (fun hF hG => ?_) (fun hF hG => ?_) | assumption | (show Ext _ _; exact Ext.go) | (simp only [AHeap.next_alloc, AHeap.next_set, AHeap.next_kill, AHeap.next_res] at hle hsame) | simp (disch := first | exact D.go | fail) [setR, List.getElem?_cons_zero, List.getElem?_cons_succ, f13.n1, f13.b1, f13.n2, f13.b2, f13.n3, f13.b3, f13.n4, f13.b4, f13.n5, f13.b5, f13.n6, f13.b6, f13.n7, f13.b7, f13.n8, f13.b8, f13.n9, f13.b9, f13.n10, f13.b10, f13.n11, f13.b11, f13.n12, f13.b12, f13.n13, f13.b13, f13.n14, f13.b14, f13.n15, f13.b15, f13.n16, f13.b16, f13.n17, f13.b17, f13.n18, f13.b18, f13.n19, f13.b19, f13.n20, f13.b20, f13.n21, f13.b21, f13.n22, f13.b22, f13.n23, f13.b23, f13.n24, f13.b24, f13.n25, f13.b25, f13.n26, f13.b26, f13.n27, f13.b27, f13.n28, f13.b28, f13.n29, f13.b29, f13.n30, f13.b30, f13.n31, f13.b31, f13.n32, f13.b32, f13.n33, f13.b33, f13.n34, f13.b34, hc.rd0, hc.rd1, hc.rd2, hc.rd3, hc.rd4, hc.rd5, sr.len, ss.len, sf.len, si.len, su.len, sr.self, ss.self, sf.self, si.self, su.self, hif, hwf.rd0, hwf.rd1, c5.rd0, c5.rd1, c5.rd2, c5.rd3, c5.rd4, c5.rd5, c5s, c7.rd0, hn1, hn2, fitsO, hd1, hdl, ha1, hal, *]))
  · have hd := ho.dst rfl; have ha := ho.a rfl
    obtain ⟨ld, od, hd1, ⟨_, ⟨rfl, qd1, qd2⟩, hd2⟩, _⟩ := swr.atI hd.1 hd.2 ty0; have hdl := fun g e => hd2.rds (n := 2) g e rfl (by omega); obtain ⟨la, oa, ha1, ⟨_, ⟨rfl, qa1, qa2⟩, ha2⟩, _⟩ := swr.atI ha.1 ha.2 ty0; have hal := fun g e => ha2.rds (n := 2) g e rfl (by omega)
    by_cases k1 : (nth f.regs a ty0).kind = 1
    · have h1 := namedP_1 (hr _ (nth_mem ha _)) k1
      have h2 : inB n (nth q.recs (nth f.regs a ty0).n []).length := by have := ho.rest; simpa [restB, k1] using this
      obtain ⟨l3, o3, hy1, ⟨_, ⟨w, rfl, sw⟩, hy2⟩, _⟩ := sr.atI h1.1 h1.2 []
      obtain ⟨l4, o4, hz1, ⟨_, ⟨rfl, _, _⟩, hz2⟩, _⟩ := sw.atI h2.1 h2.2 ty0
      have hzd := fun g e => hz2.rds (n := 2) g e rfl (by omega)
      rw [f13.n0]; unfold f13.b0
      (repeat' (first | refine Rf (fun hF hG => ?_) (fun hF hG => ?_) | assumption | (show Ext _ _; exact Ext.go) | (simp only [AHeap.next_alloc, AHeap.next_set, AHeap.next_kill, AHeap.next_res] at hle hsame) | simp (disch := first | exact D.go | fail) [setR, List.getElem?_cons_zero, List.getElem?_cons_succ, f13.n1, f13.b1, f13.n2, f13.b2, f13.n3, f13.b3, f13.n4, f13.b4, f13.n5, f13.b5, f13.n6, f13.b6, f13.n7, f13.b7, f13.n8, f13.b8, f13.n9, f13.b9, f13.n10, f13.b10, f13.n11, f13.b11, f13.n12, f13.b12, f13.n13, f13.b13, f13.n14, f13.b14, f13.n15, f13.b15, f13.n16, f13.b16, f13.n17, f13.b17, f13.n18, f13.b18, f13.n19, f13.b19, f13.n20, f13.b20, f13.n21, f13.b21, f13.n22, f13.b22, f13.n23, f13.b23, f13.n24, f13.b24, f13.n25, f13.b25, f13.n26, f13.b26, f13.n27, f13.b27, f13.n28, f13.b28, f13.n29, f13.b29, f13.n30, f13.b30, f13.n31, f13.b31, f13.n32, f13.b32, f13.n33, f13.b33, f13.n34, f13.b34, hc.rd0, hc.rd1, hc.rd2, hc.rd3, hc.rd4, hc.rd5, sr.len, ss.len, sf.len, si.len, su.len, sr.self, ss.self, sf.self, si.self, su.self, hif, hwf.rd0, hwf.rd1, c5.rd0, c5.rd1, c5.rd2, c5.rd3, c5.rd4, c5.rd5, c5s, c7.rd0, hn1, hn2, fitsO, hd1, hdl, ha1, hal, ha2.rd0, ha2.rd1, k1, hy1, hy2.rd0, hz1, hzd, sw.self, *] | (refine Ret.thn (h0 := hb) (tkind swr ha _ Ext.go (c7.mono Ext.go)) ?_ (fun g hg hlo hle hsame hx => ?_))))
    · rw [f13.n0]; unfold f13.b0
      (repeat' (first | refine Rf (fun hF hG => ?_) (fun hF hG => ?_) | assumption | (show Ext _ _; exact Ext.go) | (simp only [AHeap.next_alloc, AHeap.next_set, AHeap.next_kill, AHeap.next_res] at hle hsame) | simp (disch := first | exact D.go | fail) [setR, List.getElem?_cons_zero, List.getElem?_cons_succ, f13.n1, f13.b1, f13.n2, f13.b2, f13.n3, f13.b3, f13.n4, f13.b4, f13.n5, f13.b5, f13.n6, f13.b6, f13.n7, f13.b7, f13.n8, f13.b8, f13.n9, f13.b9, f13.n10, f13.b10, f13.n11, f13.b11, f13.n12, f13.b12, f13.n13, f13.b13, f13.n14, f13.b14, f13.n15, f13.b15, f13.n16, f13.b16, f13.n17, f13.b17, f13.n18, f13.b18, f13.n19, f13.b19, f13.n20, f13.b20, f13.n21, f13.b21, f13.n22, f13.b22, f13.n23, f13.b23, f13.n24, f13.b24, f13.n25, f13.b25, f13.n26, f13.b26, f13.n27, f13.b27, f13.n28, f13.b28, f13.n29, f13.b29, f13.n30, f13.b30, f13.n31, f13.b31, f13.n32, f13.b32, f13.n33, f13.b33, f13.n34, f13.b34, hc.rd0, hc.rd1, hc.rd2, hc.rd3, hc.rd4, hc.rd5, sr.len, ss.len, sf.len, si.len, su.len, sr.self, ss.self, sf.self, si.self, su.self, hif, hwf.rd0, hwf.rd1, c5.rd0, c5.rd1, c5.rd2, c5.rd3, c5.rd4, c5.rd5, c5s, c7.rd0, hn1, hn2, fitsO, k1, *] | (refine Ret.thn (h0 := hb) (tkind swr ha _ Ext.go (c7.mono Ext.go)) ?_ (fun g hg hlo hle hsame hx => ?_))))
  · have hbb := ho.b rfl; have ha := ho.a rfl
    obtain ⟨lb, ob, hb1, ⟨_, ⟨rfl, qb1, qb2⟩, hb2⟩, _⟩ := swr.atI hbb.1 hbb.2 ty0; have hbl := fun g e => hb2.rds (n := 2) g e rfl (by omega); obtain ⟨la, oa, ha1, ⟨_, ⟨rfl, qa1, qa2⟩, ha2⟩, _⟩ := swr.atI ha.1 ha.2 ty0; have hal := fun g e => ha2.rds (n := 2) g e rfl (by omega)
    by_cases k1 : (nth f.regs a ty0).kind = 1
    · have h1 := namedP_1 (hr _ (nth_mem ha _)) k1
      have h2 : inB n (nth q.recs (nth f.regs a ty0).n []).length := by have := ho.rest; simpa [restB, k1] using this
      obtain ⟨l3, o3, hy1, ⟨_, ⟨w, rfl, sw⟩, hy2⟩, _⟩ := sr.atI h1.1 h1.2 []
      obtain ⟨l4, o4, hz1, ⟨_, ⟨rfl, _, _⟩, hz2⟩, _⟩ := sw.atI h2.1 h2.2 ty0
      have hzd := fun g e => hz2.rds (n := 2) g e rfl (by omega)
      rw [f13.n0]; unfold f13.b0
      (repeat' (first | refine Rf (fun hF hG => ?_) (fun hF hG => ?_) | assumption | (show Ext _ _; exact Ext.go) | (simp only [AHeap.next_alloc, AHeap.next_set, AHeap.next_kill, AHeap.next_res] at hle hsame) | simp (disch := first | exact D.go | fail) [setR, List.getElem?_cons_zero, List.getElem?_cons_succ, f13.n1, f13.b1, f13.n2, f13.b2, f13.n3, f13.b3, f13.n4, f13.b4, f13.n5, f13.b5, f13.n6, f13.b6, f13.n7, f13.b7, f13.n8, f13.b8, f13.n9, f13.b9, f13.n10, f13.b10, f13.n11, f13.b11, f13.n12, f13.b12, f13.n13, f13.b13, f13.n14, f13.b14, f13.n15, f13.b15, f13.n16, f13.b16, f13.n17, f13.b17, f13.n18, f13.b18, f13.n19, f13.b19, f13.n20, f13.b20, f13.n21, f13.b21, f13.n22, f13.b22, f13.n23, f13.b23, f13.n24, f13.b24, f13.n25, f13.b25, f13.n26, f13.b26, f13.n27, f13.b27, f13.n28, f13.b28, f13.n29, f13.b29, f13.n30, f13.b30, f13.n31, f13.b31, f13.n32, f13.b32, f13.n33, f13.b33, f13.n34, f13.b34, hc.rd0, hc.rd1, hc.rd2, hc.rd3, hc.rd4, hc.rd5, sr.len, ss.len, sf.len, si.len, su.len, sr.self, ss.self, sf.self, si.self, su.self, hif, hwf.rd0, hwf.rd1, c5.rd0, c5.rd1, c5.rd2, c5.rd3, c5.rd4, c5.rd5, c5s, c7.rd0, hn1, hn2, fitsO, hb1, hbl, ha1, hal, ha2.rd0, ha2.rd1, k1, hy1, hy2.rd0, hz1, hzd, sw.self, *] | (refine Ret.thn (h0 := hb) (tkind swr ha _ Ext.go (c7.mono Ext.go)) ?_ (fun g hg hlo hle hsame hx => ?_))))
    · rw [f13.n0]; unfold f13.b0
      (repeat' (first | refine Rf (fun hF hG => ?_) (fun hF hG => ?_) | assumption | (show Ext _ _; exact Ext.go) | (simp only [AHeap.next_alloc, AHeap.next_set, AHeap.next_kill, AHeap.next_res] at hle hsame) | simp (disch := first | exact D.go | fail) [setR, List.getElem?_cons_zero, List.getElem?_cons_succ, f13.n1, f13.b1, f13.n2, f13.b2, f13.n3, f13.b3, f13.n4, f13.b4, f13.n5, f13.b5, f13.n6, f13.b6, f13.n7, f13.b7, f13.n8, f13.b8, f13.n9, f13.b9, f13.n10, f13.b10, f13.n11, f13.b11, f13.n12, f13.b12, f13.n13, f13.b13, f13.n14, f13.b14, f13.n15, f13.b15, f13.n16, f13.b16, f13.n17, f13.b17, f13.n18, f13.b18, f13.n19, f13.b19, f13.n20, f13.b20, f13.n21, f13.b21, f13.n22, f13.b22, f13.n23, f13.b23, f13.n24, f13.b24, f13.n25, f13.b25, f13.n26, f13.b26, f13.n27, f13.b27, f13.n28, f13.b28, f13.n29, f13.b29, f13.n30, f13.b30, f13.n31, f13.b31, f13.n32, f13.b32, f13.n33, f13.b33, f13.n34, f13.b34, hc.rd0, hc.rd1, hc.rd2, hc.rd3, hc.rd4, hc.rd5, sr.len, ss.len, sf.len, si.len, su.len, sr.self, ss.self, sf.self, si.self, su.self, hif, hwf.rd0, hwf.rd1, c5.rd0, c5.rd1, c5.rd2, c5.rd3, c5.rd4, c5.rd5, c5s, c7.rd0, hn1, hn2, fitsO, k1, *] | (refine Ret.thn (h0 := hb) (tkind swr ha _ Ext.go (c7.mono Ext.go)) ?_ (fun g hg hlo hle hsame hx => ?_))))
  · have ha := ho.a rfl
    rw [f13.n0]; unfold f13.b0
    (repeat' (first | refine Rf (fun hF hG => ?_) (fun hF hG => ?_) | assumption | (show Ext _ _; exact Ext.go) | (simp only [AHeap.next_alloc, AHeap.next_set, AHeap.next_kill, AHeap.next_res] at hle hsame) | simp (disch := first | exact D.go | fail) [setR, List.getElem?_cons_zero, List.getElem?_cons_succ, f13.n1, f13.b1, f13.n2, f13.b2, f13.n3, f13.b3, f13.n4, f13.b4, f13.n5, f13.b5, f13.n6, f13.b6, f13.n7, f13.b7, f13.n8, f13.b8, f13.n9, f13.b9, f13.n10, f13.b10, f13.n11, f13.b11, f13.n12, f13.b12, f13.n13, f13.b13, f13.n14, f13.b14, f13.n15, f13.b15, f13.n16, f13.b16, f13.n17, f13.b17, f13.n18, f13.b18, f13.n19, f13.b19, f13.n20, f13.b20, f13.n21, f13.b21, f13.n22, f13.b22, f13.n23, f13.b23, f13.n24, f13.b24, f13.n25, f13.b25, f13.n26, f13.b26, f13.n27, f13.b27, f13.n28, f13.b28, f13.n29, f13.b29, f13.n30, f13.b30, f13.n31, f13.b31, f13.n32, f13.b32, f13.n33, f13.b33, f13.n34, f13.b34, hc.rd0, hc.rd1, hc.rd2, hc.rd3, hc.rd4, hc.rd5, sr.len, ss.len, sf.len, si.len, su.len, sr.self, ss.self, sf.self, si.self, su.self, hif, hwf.rd0, hwf.rd1, c5.rd0, c5.rd1, c5.rd2, c5.rd3, c5.rd4, c5.rd5, c5s, c7.rd0, hn1, hn2, fitsO, *] | (refine Ret.thn (h0 := hb) (tkind swr ha _ Ext.go (c7.mono Ext.go)) ?_ (fun g hg hlo hle hsame hx => ?_))))
  · have hd := ho.dst rfl
    obtain ⟨ld, od, hd1, ⟨_, ⟨rfl, qd1, qd2⟩, hd2⟩, _⟩ := swr.atI hd.1 hd.2 ty0; have hdl := fun g e => hd2.rds (n := 2) g e rfl (by omega)
    have hfn : inB n q.funcs.length := by have := ho.rest; simpa [restB] using this
    have hsg := hN.sig _ (nth_mem hfn fu0)
    rw [f13.n0]; unfold f13.b0
    (repeat' (first | refine Rf (fun hF hG => ?_) (fun hF hG => ?_) | assumption | (show Ext _ _; exact Ext.go) | (simp only [AHeap.next_alloc, AHeap.next_set, AHeap.next_kill, AHeap.next_res] at hle hsame) | simp (disch := first | exact D.go | fail) [setR, List.getElem?_cons_zero, List.getElem?_cons_succ, f13.n1, f13.b1, f13.n2, f13.b2, f13.n3, f13.b3, f13.n4, f13.b4, f13.n5, f13.b5, f13.n6, f13.b6, f13.n7, f13.b7, f13.n8, f13.b8, f13.n9, f13.b9, f13.n10, f13.b10, f13.n11, f13.b11, f13.n12, f13.b12, f13.n13, f13.b13, f13.n14, f13.b14, f13.n15, f13.b15, f13.n16, f13.b16, f13.n17, f13.b17, f13.n18, f13.b18, f13.n19, f13.b19, f13.n20, f13.b20, f13.n21, f13.b21, f13.n22, f13.b22, f13.n23, f13.b23, f13.n24, f13.b24, f13.n25, f13.b25, f13.n26, f13.b26, f13.n27, f13.b27, f13.n28, f13.b28, f13.n29, f13.b29, f13.n30, f13.b30, f13.n31, f13.b31, f13.n32, f13.b32, f13.n33, f13.b33, f13.n34, f13.b34, hc.rd0, hc.rd1, hc.rd2, hc.rd3, hc.rd4, hc.rd5, sr.len, ss.len, sf.len, si.len, su.len, sr.self, ss.self, sf.self, si.self, su.self, hif, hwf.rd0, hwf.rd1, c5.rd0, c5.rd1, c5.rd2, c5.rd3, c5.rd4, c5.rd5, c5s, c7.rd0, hn1, hn2, fitsO, hd1, hdl, hsg, *] | (refine Ret.thn (h0 := hb) (tsig hq' hfn _ Ext.go) ?_ (fun g hg hlo hle hsame hx => ?_))))
  · have hd := ho.dst rfl; have ha := ho.a rfl
    obtain ⟨ld, od, hd1, ⟨_, ⟨rfl, qd1, qd2⟩, hd2⟩, _⟩ := swr.atI hd.1 hd.2 ty0; have hdl := fun g e => hd2.rds (n := 2) g e rfl (by omega); obtain ⟨la, oa, ha1, ⟨_, ⟨rfl, qa1, qa2⟩, ha2⟩, _⟩ := swr.atI ha.1 ha.2 ty0; have hal := fun g e => ha2.rds (n := 2) g e rfl (by omega)
    rw [f13.n0]; unfold f13.b0
    (repeat' (first | refine Rf (fun hF hG => ?_) (fun hF hG => ?_) | assumption | (show Ext _ _; exact Ext.go) | (simp only [AHeap.next_alloc, AHeap.next_set, AHeap.next_kill, AHeap.next_res] at hle hsame) | simp (disch := first | exact D.go | fail) [setR, List.getElem?_cons_zero, List.getElem?_cons_succ, f13.n1, f13.b1, f13.n2, f13.b2, f13.n3, f13.b3, f13.n4, f13.b4, f13.n5, f13.b5, f13.n6, f13.b6, f13.n7, f13.b7, f13.n8, f13.b8, f13.n9, f13.b9, f13.n10, f13.b10, f13.n11, f13.b11, f13.n12, f13.b12, f13.n13, f13.b13, f13.n14, f13.b14, f13.n15, f13.b15, f13.n16, f13.b16, f13.n17, f13.b17, f13.n18, f13.b18, f13.n19, f13.b19, f13.n20, f13.b20, f13.n21, f13.b21, f13.n22, f13.b22, f13.n23, f13.b23, f13.n24, f13.b24, f13.n25, f13.b25, f13.n26, f13.b26, f13.n27, f13.b27, f13.n28, f13.b28, f13.n29, f13.b29, f13.n30, f13.b30, f13.n31, f13.b31, f13.n32, f13.b32, f13.n33, f13.b33, f13.n34, f13.b34, hc.rd0, hc.rd1, hc.rd2, hc.rd3, hc.rd4, hc.rd5, sr.len, ss.len, sf.len, si.len, su.len, sr.self, ss.self, sf.self, si.self, su.self, hif, hwf.rd0, hwf.rd1, c5.rd0, c5.rd1, c5.rd2, c5.rd3, c5.rd4, c5.rd5, c5s, c7.rd0, hn1, hn2, fitsO, hd1, hd2.rd0, hd2.rd1, ha1, ha2.rd0, ha2.rd1, *] | (refine Ret.thn (h0 := hb) (tkind swr hd _ Ext.go (c7.mono Ext.go)) ?_ (fun g hg hlo hle hsame hx => ?_)) | (refine Ret.thn (h0 := hb) (tkind swr ha _ Ext.go (c7.mono Ext.go)) ?_ (fun g hg hlo hle hsame hx => ?_)) | (refine Ret.thn (h0 := hb) (tImpl hq' _ _ _ Ext.go) ?_ (fun g hg hlo hle hsame hx => ?_))))
  · rw [f13.n0]; unfold f13.b0
    (repeat' (first | refine Rf (fun hF hG => ?_) (fun hF hG => ?_) | assumption | (show Ext _ _; exact Ext.go) | (simp only [AHeap.next_alloc, AHeap.next_set, AHeap.next_kill, AHeap.next_res] at hle hsame) | simp (disch := first | exact D.go | fail) [setR, List.getElem?_cons_zero, List.getElem?_cons_succ, f13.n1, f13.b1, f13.n2, f13.b2, f13.n3, f13.b3, f13.n4, f13.b4, f13.n5, f13.b5, f13.n6, f13.b6, f13.n7, f13.b7, f13.n8, f13.b8, f13.n9, f13.b9, f13.n10, f13.b10, f13.n11, f13.b11, f13.n12, f13.b12, f13.n13, f13.b13, f13.n14, f13.b14, f13.n15, f13.b15, f13.n16, f13.b16, f13.n17, f13.b17, f13.n18, f13.b18, f13.n19, f13.b19, f13.n20, f13.b20, f13.n21, f13.b21, f13.n22, f13.b22, f13.n23, f13.b23, f13.n24, f13.b24, f13.n25, f13.b25, f13.n26, f13.b26, f13.n27, f13.b27, f13.n28, f13.b28, f13.n29, f13.b29, f13.n30, f13.b30, f13.n31, f13.b31, f13.n32, f13.b32, f13.n33, f13.b33, f13.n34, f13.b34, hc.rd0, hc.rd1, hc.rd2, hc.rd3, hc.rd4, hc.rd5, sr.len, ss.len, sf.len, si.len, su.len, sr.self, ss.self, sf.self, si.self, su.self, hif, hwf.rd0, hwf.rd1, c5.rd0, c5.rd1, c5.rd2, c5.rd3, c5.rd4, c5.rd5, c5s, c7.rd0, hn1, hn2, fitsO, *] | (refine Ret.thn (h0 := hb) (tcall hq' hN swr hr hi ho (by simp) _ Ext.go) ?_ (fun g hg hlo hle hsame hx => ?_))))
  · rw [f13.n0]; unfold f13.b0
    (repeat' (first | refine Rf (fun hF hG => ?_) (fun hF hG => ?_) | assumption | (show Ext _ _; exact Ext.go) | (simp only [AHeap.next_alloc, AHeap.next_set, AHeap.next_kill, AHeap.next_res] at hle hsame) | simp (disch := first | exact D.go | fail) [setR, List.getElem?_cons_zero, List.getElem?_cons_succ, f13.n1, f13.b1, f13.n2, f13.b2, f13.n3, f13.b3, f13.n4, f13.b4, f13.n5, f13.b5, f13.n6, f13.b6, f13.n7, f13.b7, f13.n8, f13.b8, f13.n9, f13.b9, f13.n10, f13.b10, f13.n11, f13.b11, f13.n12, f13.b12, f13.n13, f13.b13, f13.n14, f13.b14, f13.n15, f13.b15, f13.n16, f13.b16, f13.n17, f13.b17, f13.n18, f13.b18, f13.n19, f13.b19, f13.n20, f13.b20, f13.n21, f13.b21, f13.n22, f13.b22, f13.n23, f13.b23, f13.n24, f13.b24, f13.n25, f13.b25, f13.n26, f13.b26, f13.n27, f13.b27, f13.n28, f13.b28, f13.n29, f13.b29, f13.n30, f13.b30, f13.n31, f13.b31, f13.n32, f13.b32, f13.n33, f13.b33, f13.n34, f13.b34, hc.rd0, hc.rd1, hc.rd2, hc.rd3, hc.rd4, hc.rd5, sr.len, ss.len, sf.len, si.len, su.len, sr.self, ss.self, sf.self, si.self, su.self, hif, hwf.rd0, hwf.rd1, c5.rd0, c5.rd1, c5.rd2, c5.rd3, c5.rd4, c5.rd5, c5s, c7.rd0, hn1, hn2, fitsO, *] | (refine Ret.thn (h0 := hb) (tcall hq' hN swr hr hi ho (by simp) _ Ext.go) ?_ (fun g hg hlo hle hsame hx => ?_))))
  · rw [f13.n0]; unfold f13.b0
    (repeat' (first | refine Rf (fun hF hG => ?_) (fun hF hG => ?_) | assumption | (show Ext _ _; exact Ext.go) | (simp only [AHeap.next_alloc, AHeap.next_set, AHeap.next_kill, AHeap.next_res] at hle hsame) | simp (disch := first | exact D.go | fail) [setR, List.getElem?_cons_zero, List.getElem?_cons_succ, f13.n1, f13.b1, f13.n2, f13.b2, f13.n3, f13.b3, f13.n4, f13.b4, f13.n5, f13.b5, f13.n6, f13.b6, f13.n7, f13.b7, f13.n8, f13.b8, f13.n9, f13.b9, f13.n10, f13.b10, f13.n11, f13.b11, f13.n12, f13.b12, f13.n13, f13.b13, f13.n14, f13.b14, f13.n15, f13.b15, f13.n16, f13.b16, f13.n17, f13.b17, f13.n18, f13.b18, f13.n19, f13.b19, f13.n20, f13.b20, f13.n21, f13.b21, f13.n22, f13.b22, f13.n23, f13.b23, f13.n24, f13.b24, f13.n25, f13.b25, f13.n26, f13.b26, f13.n27, f13.b27, f13.n28, f13.b28, f13.n29, f13.b29, f13.n30, f13.b30, f13.n31, f13.b31, f13.n32, f13.b32, f13.n33, f13.b33, f13.n34, f13.b34, hc.rd0, hc.rd1, hc.rd2, hc.rd3, hc.rd4, hc.rd5, sr.len, ss.len, sf.len, si.len, su.len, sr.self, ss.self, sf.self, si.self, su.self, hif, hwf.rd0, hwf.rd1, c5.rd0, c5.rd1, c5.rd2, c5.rd3, c5.rd4, c5.rd5, c5s, c7.rd0, hn1, hn2, fitsO, *] | (refine Ret.thn (h0 := hb) (tcall hq' hN swr hr hi ho (by simp) _ Ext.go) ?_ (fun g hg hlo hle hsame hx => ?_))))
  · have ha := ho.a rfl
    rw [f13.n0]; unfold f13.b0
    (repeat' (first | refine Rf (fun hF hG => ?_) (fun hF hG => ?_) | assumption | (show Ext _ _; exact Ext.go) | (simp only [AHeap.next_alloc, AHeap.next_set, AHeap.next_kill, AHeap.next_res] at hle hsame) | simp (disch := first | exact D.go | fail) [setR, List.getElem?_cons_zero, List.getElem?_cons_succ, f13.n1, f13.b1, f13.n2, f13.b2, f13.n3, f13.b3, f13.n4, f13.b4, f13.n5, f13.b5, f13.n6, f13.b6, f13.n7, f13.b7, f13.n8, f13.b8, f13.n9, f13.b9, f13.n10, f13.b10, f13.n11, f13.b11, f13.n12, f13.b12, f13.n13, f13.b13, f13.n14, f13.b14, f13.n15, f13.b15, f13.n16, f13.b16, f13.n17, f13.b17, f13.n18, f13.b18, f13.n19, f13.b19, f13.n20, f13.b20, f13.n21, f13.b21, f13.n22, f13.b22, f13.n23, f13.b23, f13.n24, f13.b24, f13.n25, f13.b25, f13.n26, f13.b26, f13.n27, f13.b27, f13.n28, f13.b28, f13.n29, f13.b29, f13.n30, f13.b30, f13.n31, f13.b31, f13.n32, f13.b32, f13.n33, f13.b33, f13.n34, f13.b34, hc.rd0, hc.rd1, hc.rd2, hc.rd3, hc.rd4, hc.rd5, sr.len, ss.len, sf.len, si.len, su.len, sr.self, ss.self, sf.self, si.self, su.self, hif, hwf.rd0, hwf.rd1, c5.rd0, c5.rd1, c5.rd2, c5.rd3, c5.rd4, c5.rd5, c5s, c7.rd0, hn1, hn2, fitsO, *] | (refine Ret.thn (h0 := hb) (tkind swr ha _ Ext.go (c7.mono Ext.go)) ?_ (fun g hg hlo hle hsame hx => ?_))))
theorem tFits {l : AM.Loc} {o : Nat} {q : Pg} (hq : PgA I h0 l o q) (hN : NOk q) (hl : listsB q = true) {ci : List AVal} {f : Fu} {i : Ins} {fi : Nat} (hfi : q.funcs[fi]? = some f) (hi : InsC I h0 ci i) (hr : AllL (namedP q) f.regs) (hb : AHeap) (eb : Ext h0 hb) :
    Ret ((AM.lim ⟨P, I, genF P Sh.prims⟩) 13 [.ptr l o, .int .i64 fi, .agg ci] hb) hb (.bool (instrB q f i && fitsO q f i)) := by
  have hq' := hq; have hi' := hi
  obtain ⟨_, ⟨vr, vs, vf, vi, vu, rfl, rm, sr, ss, sf, si, su⟩, hc⟩ := hq
  obtain ⟨lf, of, hif, ⟨cf, hf, hwf⟩⟩ := su.at hfi
  have hf' := hf
  obtain ⟨wr, wb, rfl, r0, swr, swb⟩ := hf'
  have hwl := fun g e => hwf.rds (n := 3) g e rfl (by omega)
  obtain ⟨v, rfl, sv, _⟩ := hi'
  have hlt := lt_of_get hfi
  have hn1 := swr.one; have hn2 := swr.cells; have hn3 := sv.one
  have hfin : inB (fi : Int) q.funcs.length := ⟨by omega, by omega⟩
  cases hB : instrB q f i
  · refine f13.lim rfl (n := 2) ?_
    unfold f13.e
    (repeat' (first | refine Rf (fun hF hG => ?_) (fun hF hG => ?_) | assumption | (show Ext _ _; exact Ext.go) | (simp only [AHeap.next_alloc, AHeap.next_set, AHeap.next_kill, AHeap.next_res] at hle hsame) | simp (disch := first | exact D.go | fail) [setR, List.getElem?_cons_zero, List.getElem?_cons_succ, hc.rd0, hc.rd1, hc.rd2, hc.rd3, hc.rd4, hc.rd5, sr.len, ss.len, sf.len, si.len, su.len, sr.self, ss.self, sf.self, si.self, su.self, hif, hwf.rd0, hwf.rd1, hwl, tin, hfin, hl, hB, hn3, *] | (refine Ret.thn (h0 := hb) (tlists hq' _ Ext.go) ?_ (fun g hg hlo hle hsame hx => ?_)) | (refine Ret.thn (h0 := hb) (tall hq' swr _ Ext.go) ?_ (fun g hg hlo hle hsame hx => ?_)) | (refine Ret.thn (h0 := hb) (tinstr hq' hf hi hr _ Ext.go) ?_ (fun g hg hlo hle hsame hx => ?_))))
  · have ho := InOk.of hB
    generalize hH : (hb.alloc ⟨[.int .i64 i.op, .int .i64 i.dst, .int .i64 i.a, .int .i64 i.b, .int .i64 i.n, v], true⟩) = H
    have hn : H.next = hb.next + 1 := by subst hH; rfl
    have eH : Ext hb H := by subst hH; exact Ext.go
    have c5 : Cells I H (.own hb.next) 0 [.int .i64 i.op, .int .i64 i.dst, .int .i64 i.a, .int .i64 i.b, .int .i64 i.n, v] := by
      rw [← hH]; exact Cells.own (b := ⟨[.int .i64 i.op, .int .i64 i.dst, .int .i64 i.a, .int .i64 i.b, .int .i64 i.n, v], true⟩) (by simp (disch := first | exact D.go | fail) [setR, List.getElem?_cons_zero, List.getElem?_cons_succ]) (by show hb.next < hb.next + 1; omega) (fun i v hv => by simpa using hv)
    have c5s := fun g e => c5.rds (n := 6) g e rfl (by omega)
    have hT := fun g e => tFitsT hq' hN hfi hi hr ho eH (eb.trans eH) c5 0 g e
    have hlo := eH.lo
    refine f13.lim rfl (n := 20) ?_
    unfold f13.e
    (repeat' (first | refine Rf (fun hF hG => ?_) (fun hF hG => ?_) | assumption | (show Ext _ _; exact Ext.go) | (simp only [AHeap.next_alloc, AHeap.next_set, AHeap.next_kill, AHeap.next_res] at hle hsame) | simp (disch := first | exact D.go | fail) [setR, List.getElem?_cons_zero, List.getElem?_cons_succ, hc.rd0, hc.rd1, hc.rd2, hc.rd3, hc.rd4, hc.rd5, sr.len, ss.len, sf.len, si.len, su.len, sr.self, ss.self, sf.self, si.self, su.self, hif, hwf.rd0, hwf.rd1, hwl, tin, hfin, hl, hB, hH, hn3, c5s, *] | (refine Ret.thn (h0 := hb) (tlists hq' _ Ext.go) ?_ (fun g hg hlo hle hsame hx => ?_)) | (refine Ret.thn (h0 := hb) (tall hq' swr _ Ext.go) ?_ (fun g hg hlo hle hsame hx => ?_)) | (refine Ret.thn (h0 := hb) (tinstr hq' hf hi hr _ Ext.go) ?_ (fun g hg hlo hle hsame hx => ?_)) | (refine Res.mono (hT _ ?_) (fun u g hq => ?_); rotate_left; (obtain ⟨rfl, hq⟩ := hq); rotate_right)))
end
end
end Go.Proofs.YthihegmbdclikaaDoor.Tx

set_option linter.unusedSimpArgs false
set_option linter.unusedVariables false
namespace Go.Proofs.YthihegmbdclikaaDoor.Tx
noncomputable section
open Go.AM Go.Proofs.YthihegmbdclikaaDoor.Sf
section
variable {I : Inp} {h0 : AHeap}
def fitsI (q : Pg) (f : Fu) (i : Ins) : Bool := instrB q f i && fitsO q f i
def mainB (q : Pg) : Bool := dc ((nth q.sigs (nth q.funcs q.main fu0).sig sg0).params = []) && dc ((nth q.sigs (nth q.funcs q.main fu0).sig sg0).res.kind = 0)
def checkFrom (q : Pg) : Nat → List Fu → Option Pt
  | _, [] => if mainB q = true then none else some noPt
  | i, f :: r => (fuFrom (fitsI q f) (endT q f) i 0 f.blocks).or (checkFrom q (i + 1) r)
def checkS (q : Pg) : Option Pt := if dc (AllL (paramsP q) q.funcs) = true then checkFrom q 0 q.funcs else some noPt
theorem tcheckI {l : AM.Loc} {o : Nat} {q : Pg} (hq : PgA I h0 l o q) (hN : NOk q) (hl : listsB q = true) {cs : List AVal} {f : Fu} {i : Ins} {fi : Nat} (hfi : q.funcs[fi]? = some f) (hi : InsC I h0 cs i) {k1 : Nat} (hb : AHeap) (eb : Ext h0 hb) (c1 : Cells I hb (.own k1) 0 [.ptr l o]) :
    Ret ((AM.lim ⟨P, I, genF P Sh.prims⟩) 53 [.int .i64 fi, .agg cs, .ptr (.own k1) 0] hb) hb (.bool (fitsI q f i)) := by
  have hr := hN.regs f (List.mem_of_getElem? hfi)
  have hi' := hi
  obtain ⟨v, rfl, sv, _⟩ := hi'
  have hn3 := sv.one
  refine f53.lim rfl (n := 2) ?_
  unfold f53.e
  (repeat' (first | refine Rf (fun hF hG => ?_) (fun hF hG => ?_) | assumption | (show Ext _ _; exact Ext.go) | (simp only [AHeap.next_alloc, AHeap.next_set, AHeap.next_kill, AHeap.next_res] at hle hsame) | simp (disch := first | exact D.go | fail) [setR, List.getElem?_cons_zero, List.getElem?_cons_succ, setR, c1.rd0, fitsI, *] | (refine Ret.thn (h0 := hb) (tFits hq hN hl hfi hi hr _ Ext.go) ?_ (fun g hg hlo hle hsame hx => ?_))))
theorem tcheckB {l : AM.Loc} {o : Nat} {q : Pg} (hq : PgA I h0 l o q) (hN : NOk q) {cs : List AVal} {f : Fu} {b : Bk} {fi : Nat} (hfi : q.funcs[fi]? = some f) (hk : BkC I h0 cs b) (hbm : b ∈ f.blocks) {k1 : Nat} (hb : AHeap) (eb : Ext h0 hb) (c1 : Cells I hb (.own k1) 0 [.ptr l o]) :
    Ret ((AM.lim ⟨P, I, genF P Sh.prims⟩) 54 [.int .i64 fi, .agg cs, .ptr (.own k1) 0] hb) hb (.bool (endT q f b)) := by
  have hq' := hq
  obtain ⟨_, ⟨vr, vs, vf, vi, vu, rfl, rm, sr, ss, sf, si, su⟩, hc⟩ := hq
  have hfm := List.mem_of_getElem? hfi
  have hsg := hN.sig f hfm
  have hfin := hN.fin f hfm b hbm
  have he : b.fin = 2 ∨ b.fin = 3 → inB b.reg f.regs.length := by
    rintro (h | h)
    · have := hfin; simp [endB, h] at this; exact this.1
    · have := hfin; simp [endB, h] at this; exact this.1
  obtain ⟨lf, of, hif, ⟨cf, hf, hwf⟩⟩ := su.at hfi
  have hf' := hf
  obtain ⟨wr, wb, rfl, r0, swr, swb⟩ := hf'
  have hwl := fun g e => hwf.rds (n := 3) g e rfl (by omega)
  have hk' := hk
  obtain ⟨v, rfl, sv, _⟩ := hk'
  have hn3 := sv.one
  refine f54.lim rfl (n := 2) ?_
  unfold f54.e
  (repeat' (first | refine Rf (fun hF hG => ?_) (fun hF hG => ?_) | assumption | (show Ext _ _; exact Ext.go) | (simp only [AHeap.next_alloc, AHeap.next_set, AHeap.next_kill, AHeap.next_res] at hle hsame) | simp (disch := first | exact D.go | fail) [setR, List.getElem?_cons_zero, List.getElem?_cons_succ, setR, c1.rd0, hc.rd0, hc.rd1, hc.rd2, hc.rd3, hc.rd4, hc.rd5, sr.len, ss.len, sf.len, si.len, su.len, sr.self, ss.self, sf.self, si.self, su.self, hif, hwl, *] | (refine Ret.thn (h0 := hb) (tends hq' hf hk hsg he _ Ext.go) ?_ (fun g hg hlo hle hsame hx => ?_))))
end
end
end Go.Proofs.YthihegmbdclikaaDoor.Tx

set_option linter.unusedSimpArgs false
set_option linter.unusedVariables false
namespace Go.Proofs.YthihegmbdclikaaDoor.Tx
noncomputable section
open Go.AM Go.Proofs.YthihegmbdclikaaDoor.Sf
section
variable {I : Inp} {h0 : AHeap}
theorem tCheck {l : AM.Loc} {o : Nat} {q : Pg} (hq : PgA I h0 l o q) (hN : NOk q) (hl : listsB q = true) (hs : AHeap) (es : Ext h0 hs) : Res ((AM.lim ⟨P, I, genF P Sh.prims⟩) 23 [.ptr l o] hs) fun u g => WPost I 4 (checkS q) u g ∧ Ext hs g := by
  have hq' := hq
  obtain ⟨_, ⟨vr, vs, vf, vi, vu, rfl, rm, sr, ss, sf, si, su⟩, hc⟩ := hq
  have lu := su.lt
  obtain ⟨lm, om, hmi, ⟨_, ⟨wmr, wmb, rfl, _⟩, hmf⟩, _⟩ := su.atI hN.main.1 hN.main.2 fu0
  have hmsg := hN.sig _ (nth_mem hN.main fu0)
  obtain ⟨lg, og, hgi, ⟨_, ⟨wg, rfl, sg, _, _⟩, hgf⟩, _⟩ := ss.atI hmsg.1 hmsg.2 sg0
  have hgl := fun g e => hgf.rds (n := 3) g e rfl (by omega)
  have hg1 := sg.one; have hg2 := sg.len; have hg3 := sg.self
  have key := Evt.loop q.funcs (F := fun i n => ∀ (hb : AHeap) (k1 : Nat) (v3 : AVal) (h : AHeap), Ext hs hb → Cells I hb (.own k1) 0 [.ptr l o] → ErrIs I hb 4 noPt v3 → Ext hb h → Res ((f23.J I (AM.lim ⟨P, I, genF P Sh.prims⟩) (n)).2.1.2 (.ptr (.own k1) 0) v3 (.int .i64 q.funcs.length) (.int .i64 i) h) fun u g =>
      WPost I 4 (checkFrom q i (q.funcs.drop i)) u g ∧ Ext hs g) 8
    (Evt.all 8 fun n hb k1 v3 h es' c1 he e => by
      have eb := es.trans es'
      have hlo := e.lo; have hls := es'.lo
      have her := fun g (x : Ext hb g) => he.mono x
      rw [f23.n5]; unfold f23.b5
      (repeat' (first | refine Rf (fun hF hG => ?_) (fun hF hG => ?_) | assumption | (show Ext _ _; exact Ext.go) | (simp only [AHeap.next_alloc, AHeap.next_set, AHeap.next_kill, AHeap.next_res] at hle hsame) | simp (disch := first | exact D.go | fail) [setR, List.getElem?_cons_zero, List.getElem?_cons_succ, f23.n0, f23.b0, f23.n1, f23.b1, f23.n2, f23.b2, f23.n3, f23.b3, f23.n4, f23.b4, f23.n6, f23.b6, f23.n7, f23.b7, f23.n8, f23.b8, checkFrom, c1.rd0, hc.rd0, hc.rd1, hc.rd2, hc.rd3, hc.rd4, hc.rd5, sr.len, ss.len, sf.len, si.len, su.len, sr.self, ss.self, sf.self, si.self, su.self, her, hmi, hmf.rd0, hgi, hgl, hg1, hg2, hg3, mainB, List.length_pos_iff, *])))
    (fun i x n hx ih hb k1 v3 h es' c1 he e => by
      have eb := es.trans es'
      have hlo := e.lo; have hls := es'.lo
      have her := fun g (x : Ext hb g) => he.mono x
      have hlt := lt_of_get hx; have hw := wrap_in (n := (i : Int) + 1) ⟨by omega, by omega⟩
      simp only [Int.natCast_add, Int.natCast_one] at ih
      have hxi := hx
      rw [drop_of_get hx]
      rw [f23.n5]; unfold f23.b5
      have c1' := c1.mono e
      have eg := eb.trans e
      have ehs := es'.trans e
      have tw := twalk hq' (w := 4) (fi := i) hxi (vI := .func (.func 53) [] [.ptr (.own k1) 0]) (vB := .func (.func 54) [] [.ptr (.own k1) 0]) (PI := fitsI q x) (PB := endT q x) h eg
        (fun g' cs ins e' hins => by
          simp only [sCallv_func, List.nil_append, List.cons_append]
          exact tcheckI hq' hN hl hxi hins g' (eg.trans e') (c1'.mono e'))
        (fun g' cs bk e' hbk hbm => by
          simp only [sCallv_func, List.nil_append, List.cons_append]
          exact tcheckB hq' hN hxi hbk hbm g' (eg.trans e') (c1'.mono e'))
      cases hfu : fuFrom (fitsI q x) (endT q x) i 0 x.blocks with
      | none =>
        rw [hfu] at tw
        simp only [WPost_none] at tw
        (repeat' (first | refine Rf (fun hF hG => ?_) (fun hF hG => ?_) | assumption | (show Ext _ _; exact Ext.go) | (simp only [AHeap.next_alloc, AHeap.next_set, AHeap.next_kill, AHeap.next_res] at hle hsame) | simp (disch := first | exact D.go | fail) [setR, List.getElem?_cons_zero, List.getElem?_cons_succ, f23.n0, f23.b0, f23.n1, f23.b1, f23.n2, f23.b2, f23.n3, f23.b3, f23.n4, f23.b4, f23.n6, f23.b6, f23.n7, f23.b7, f23.n8, f23.b8, checkFrom, c1.rd0, her, hw, hlt, hfu, *] | (refine Res.call (h0 := hb) (tw) ?_ (fun u g hA hg hlo hle hsame hx => ?_)) | (refine Res_post (A := WPost I 4) (ih _ (by omega) hb k1 v3 _ es' c1 he ?_) ?_)))
      | some p =>
        rw [hfu] at tw
        simp only [WPost_some] at tw
        (repeat' (first | refine Rf (fun hF hG => ?_) (fun hF hG => ?_) | assumption | (show Ext _ _; exact Ext.go) | (simp only [AHeap.next_alloc, AHeap.next_set, AHeap.next_kill, AHeap.next_res] at hle hsame) | simp (disch := first | exact D.go | fail) [setR, List.getElem?_cons_zero, List.getElem?_cons_succ, f23.n0, f23.b0, f23.n1, f23.b1, f23.n2, f23.b2, f23.n3, f23.b3, f23.n4, f23.b4, f23.n6, f23.b6, f23.n7, f23.b7, f23.n8, f23.b8, checkFrom, c1.rd0, her, hw, hlt, hfu, *] | (refine Res.call (h0 := hb) (tw) ?_ (fun u g hA hg hlo hle hsame hx => ?_))))
        have hA2 := hA
        obtain ⟨k, rfl, hk, hck⟩ := hA
        (repeat' (first | refine Rf (fun hF hG => ?_) (fun hF hG => ?_) | assumption | (show Ext _ _; exact Ext.go) | (simp only [AHeap.next_alloc, AHeap.next_set, AHeap.next_kill, AHeap.next_res] at hle hsame) | simp (disch := first | exact D.go | fail) [setR, List.getElem?_cons_zero, List.getElem?_cons_succ, f23.n0, f23.b0, f23.n1, f23.b1, f23.n2, f23.b2, f23.n3, f23.b3, f23.n4, f23.b4, f23.n6, f23.b6, f23.n7, f23.b7, f23.n8, f23.b8, hA2, *])))
    0 (by omega)
  have key2 := Evt.loop q.funcs (F := fun i n => ∀ (hb : AHeap) (k1 : Nat) (v3 : AVal) (h : AHeap), Ext hs hb → Cells I hb (.own k1) 0 [.ptr l o] → ErrIs I hb 4 noPt v3 → Ext hb h → Res ((f23.J I (AM.lim ⟨P, I, genF P Sh.prims⟩) (n)).1.1.2 (.ptr (.own k1) 0) v3 vu (.int .i64 q.funcs.length) (.int .i64 i) h) fun u g =>
      WPost I 4 (if dc (AllL (paramsP q) (q.funcs.drop i)) = true then checkFrom q 0 q.funcs else some noPt) u g ∧ Ext hs g) 8
    (Evt.step 8 key fun n hn hb k1 v3 h es' c1 he e => by
      have eb := es.trans es'
      have hlo := e.lo; have hls := es'.lo
      rw [f23.n1]; unfold f23.b1
      (repeat' (first | refine Rf (fun hF hG => ?_) (fun hF hG => ?_) | assumption | (show Ext _ _; exact Ext.go) | (simp only [AHeap.next_alloc, AHeap.next_set, AHeap.next_kill, AHeap.next_res] at hle hsame) | simp (disch := first | exact D.go | fail) [setR, List.getElem?_cons_zero, List.getElem?_cons_succ, f23.n0, f23.b0, c1.rd0, hc.rd0, hc.rd1, hc.rd2, hc.rd3, hc.rd4, hc.rd5, sr.len, ss.len, sf.len, si.len, su.len, sr.self, ss.self, sf.self, si.self, su.self, *] | (refine Res_post (A := WPost I 4) (hn _ (by omega) hb k1 v3 _ es' c1 he ?_) ?_))))
    (fun i x n hx ih hb k1 v3 h es' c1 he e => by
      have eb := es.trans es'
      have hlo := e.lo; have hls := es'.lo
      have her := fun g (x : Ext hb g) => he.mono x
      have hlt := lt_of_get hx; have hw := wrap_in (n := (i : Int) + 1) ⟨by omega, by omega⟩
      simp only [Int.natCast_add, Int.natCast_one] at ih
      obtain ⟨l1, o1, hi, ⟨cf, hf, ha⟩⟩ := su.at hx
      have hf' := hf
      obtain ⟨wr, wb, rfl, r0, swr, swb⟩ := hf'
      have hld := fun g e => ha.rds (n := 3) g e rfl (by omega)
      have hsg := hN.sig x (List.mem_of_getElem? hx)
      have hn1 := swr.one; have hn2 := swb.one
      rw [drop_of_get hx]
      rw [f23.n1]; unfold f23.b1
      (repeat' (first | refine Rf (fun hF hG => ?_) (fun hF hG => ?_) | assumption | (show Ext _ _; exact Ext.go) | (simp only [AHeap.next_alloc, AHeap.next_set, AHeap.next_kill, AHeap.next_res] at hle hsame) | simp (disch := first | exact D.go | fail) [setR, List.getElem?_cons_zero, List.getElem?_cons_succ, f23.n2, f23.b2, f23.n3, f23.b3, f23.n4, f23.b4, f23.n6, f23.b6, f23.n7, f23.b7, f23.n8, f23.b8, c1.rd0, hi, hld, her, hw, hlt, hn1, hn2, *] | (refine Ret.thn (h0 := hb) (tparams hq' hf hsg _ Ext.go) ?_ (fun g hg hlo hle hsame hx => ?_)) | (refine Res_post (A := WPost I 4) (ih _ (by omega) hb k1 v3 _ es' c1 he ?_) ?_)))
      all_goals (have hz := AllL_cons (paramsP q) x (q.funcs.drop (i + 1)); simp only [hF, true_and] at hz; simp only [hz]))
    0 (by omega)
  obtain ⟨N, hN'⟩ := key2
  obtain ⟨hb, rfl⟩ : ∃ hb, hb = hs := ⟨_, rfl⟩
  refine f23.lim rfl (n := N + 1) ?_
  unfold f23.e
  (repeat' (first | refine Rf (fun hF hG => ?_) (fun hF hG => ?_) | assumption | (show Ext _ _; exact Ext.go) | (simp only [AHeap.next_alloc, AHeap.next_set, AHeap.next_kill, AHeap.next_res] at hle hsame) | simp (disch := first | exact D.go | fail) [setR, List.getElem?_cons_zero, List.getElem?_cons_succ, hc.rd0, hc.rd1, hc.rd2, hc.rd3, hc.rd4, hc.rd5, sr.len, ss.len, sf.len, si.len, su.len, sr.self, ss.self, sf.self, si.self, su.self, checkS, *] | (refine Ret.thn (h0 := hb) (rnone _) ?_ (fun g hg hlo hle hsame hx => ?_)) | (refine Res.call (h0 := hb) (enew 4 noPt _) ?_ (fun u g hA hg hlo hle hsame hx => ?_))))
  have c1 : Cells I g (.own hb.next) 0 [.ptr l o] := Cells.own (b := ⟨[.ptr l o], true⟩) (by simp (disch := first | exact D.go | fail) [setR, List.getElem?_cons_zero, List.getElem?_cons_succ, *]) (by omega) (fun i v hv => by simpa using hv)
  have := hN' (N + 1) (by omega) g _ u g hg c1 hA (Ext.refl g)
  simp only [List.drop_zero] at this
  exact this
end
end
end Go.Proofs.YthihegmbdclikaaDoor.Tx

set_option linter.unusedSimpArgs false
set_option linter.unusedVariables false
namespace Go.Proofs.YthihegmbdclikaaDoor.Tx
noncomputable section
open Go.AM Go.Proofs.YthihegmbdclikaaDoor.Sf
section
variable {I : Inp} {h0 : AHeap}
theorem Res.after {r : Rs} {k : AVal → AHeap → Rs} {Q A : AVal → AHeap → Prop} (c : Res r A) (hk : ∀ v g, A v g → Res (k v g) Q) : Res (@Bnd r ⟨k⟩) Q := by
  obtain ⟨v, g, er, a⟩ := c
  rw [er]
  exact hk v g a
def ptCells (p : Pt) : List AVal := [.int .i64 p.f, .int .i64 p.b, .int .i64 p.i]
theorem pts_len : ∀ xs : List Pt, (xs.flatMap ptCells).length = xs.length * 3
  | [] => rfl
  | x :: xs => by simp only [List.flatMap_cons, List.length_append, List.length_cons, pts_len xs, ptCells, List.length_nil]; omega
theorem pts_one : ∀ xs : List Pt, (xs.flatMap ptCells).all AVal.one = true
  | [] => rfl
  | x :: xs => by simp only [List.flatMap_cons, List.all_append, pts_one xs, Bool.and_true]; rfl
/-- A slice of points that was made here. -/
def PtsO (hb h : AHeap) (v : AVal) (xs : List Pt) : Prop :=
  (v = .nils ∧ xs = []) ∨ ∃ k, v = .sl (.own k) 0 xs.length (.grown 3) ∧ h.get k = some ⟨xs.flatMap ptCells, true⟩ ∧ hb.next ≤ k ∧ k < h.next ∧ xs ≠ []
theorem PtsO.mono {hb h g : AHeap} {v : AVal} {xs : List Pt} (a : PtsO hb h v xs) (e : Ext h g) : PtsO hb g v xs := by
  rcases a with a | ⟨k, rfl, hk, h1, h2, h3⟩
  · exact .inl a
  · exact .inr ⟨k, rfl, by rw [e.same k h2]; exact hk, h1, by have := e.lo; omega, h3⟩
theorem app_pt {hb h : AHeap} {xs : List Pt} {v : AVal} (hv : PtsO hb h v xs) (eb : Ext hb h) (p : Pt) (hn : xs.length ≤ 1000000) {kw : Nat} {c : Cap} (hw : h.get kw = some ⟨ptCells p, true⟩) :
    Res (sAppend I 3 24 v (.sl (.own kw) 0 1 c) h) fun u g => PtsO hb g u (xs ++ [p]) ∧ Ext hb g := by
  rcases hv with ⟨rfl, rfl⟩ | ⟨k, rfl, hk, h1, h2, h3⟩
  · have := sAppend_nils (I := I) (sz := 3) (bytes := 24) (n := 0) (c := c) hw rfl rfl (by simp only [bigRoom]; omega)
    refine ⟨_, _, this, .inr ⟨h.next, rfl, ?_, eb.lo, by simp, by simp⟩, eb.alloc⟩
    simp [AHeap.alloc_at (Nb.o rfl)]
  · have := sAppend_full (I := I) (sz := 3) (bytes := 24) (n := 0) (c := c) hw rfl rfl hk (pts_len xs) (pts_one xs) (by omega) (by simp only [bigRoom]; omega)
    refine ⟨_, _, this, .inr ⟨h.next, ?_, ?_, eb.lo, by simp, by simp⟩, (eb.kill (Nb.o h1)).alloc⟩
    · simp
    · rw [show h.next = (h.kill k).next from rfl, AHeap.alloc_at (Nb.o rfl)]; simp
/-! all points -/
def bkPts (f b : Int) (j : Nat) : Nat → List Pt
  | 0 => []
  | c + 1 => ⟨f, b, j⟩ :: bkPts f b (j + 1) c
def fuPts (f : Int) : Nat → List Bk → List Pt
  | _, [] => []
  | b, x :: r => bkPts f b 0 (x.code.length + 1) ++ fuPts f (b + 1) r
def pgPts : Nat → List Fu → List Pt
  | _, [] => []
  | i, f :: r => fuPts i 0 f.blocks ++ pgPts (i + 1) r
theorem bkPts_len (f b : Int) : ∀ (c j : Nat), (bkPts f b j c).length = c
  | 0, _ => rfl
  | c + 1, j => by simp [bkPts, bkPts_len f b c]
theorem rPoints {l : AM.Loc} {o : Nat} {q : Pg} (hq : PgA I h0 l o q) (hz : (pgPts 0 q.funcs).length ≤ 1000000) (hcode : ∀ f ∈ q.funcs, ∀ b ∈ f.blocks, b.code.length ≤ 1000000) (hb : AHeap) (eb : Ext h0 hb) :
    Res ((AM.lim ⟨P, I, genF P Sh.prims⟩) 50 [.ptr l o] hb) fun u g => PtsO hb g u (pgPts 0 q.funcs) ∧ Ext hb g := by
  obtain ⟨_, ⟨vr, vs, vf, vi, vu, rfl, rm, sr, ss, sf, si, su⟩, hc⟩ := hq
  have lu := su.lt
  obtain ⟨N, hN⟩ := Evt.loop' q.funcs (F := fun i n => ∀ acc v h, PtsO hb h v acc → Ext hb h → acc.length + (pgPts i (q.funcs.drop i)).length ≤ 1000000 → Res ((f50.J I (AM.lim ⟨P, I, genF P Sh.prims⟩) (n)).1.1.2 (.ptr l o) v (.int .i64 i) h) fun u g => PtsO hb g u (acc ++ pgPts i (q.funcs.drop i)) ∧ Ext hb g)
    (Evt.all 5 fun n acc v h hv e hn => by
      rw [f50.n1]; unfold f50.b1
      (repeat' (first | refine Rf (fun hF hG => ?_) (fun hF hG => ?_) | assumption | (show Ext _ _; exact Ext.go) | (simp only [AHeap.next_alloc, AHeap.next_set, AHeap.next_kill, AHeap.next_res] at hle hsame) | simp (disch := first | exact D.go | fail) [setR, List.getElem?_cons_zero, List.getElem?_cons_succ, f50.n0, f50.b0, f50.n2, f50.b2, f50.n3, f50.b3, f50.n4, f50.b4, f50.n5, f50.b5, f50.n6, f50.b6, f50.n7, f50.b7, f50.n8, f50.b8, f50.n9, f50.b9, hc.rd0, hc.rd1, hc.rd2, hc.rd3, hc.rd4, hc.rd5, sr.len, ss.len, sf.len, si.len, su.len, sr.self, ss.self, sf.self, si.self, su.self, pgPts, *])))
    (fun i f hf hfo => by
      obtain ⟨lf, of, hif, ⟨_, ⟨wr, wb, rfl, r0, swr, swb⟩, hwf⟩⟩ := su.at hf
      have hlt := lt_of_get hf; have hw := wrap_in (n := (i : Int) + 1) ⟨by omega, by omega⟩
      have lb := swb.lt
      simp only [Int.natCast_add, Int.natCast_one] at hfo
      have inner := Evt.loop' f.blocks (F := fun b n => ∀ acc v h, PtsO hb h v acc → Ext hb h → acc.length + (fuPts i b (f.blocks.drop b) ++ pgPts (i + 1) (q.funcs.drop (i + 1))).length ≤ 1000000 → Res ((f50.J I (AM.lim ⟨P, I, genF P Sh.prims⟩) (n)).1.2.2.2 (.ptr l o) v (.int .i64 i) (.int .i64 b) h) fun u g =>
          PtsO hb g u (acc ++ (fuPts i b (f.blocks.drop b) ++ pgPts (i + 1) (q.funcs.drop (i + 1)))) ∧ Ext hb g)
        (Evt.step 5 hfo fun n hn acc v h hv e hl => by
          have hlo := e.lo
          have hl' : acc.length + (pgPts (i + 1) (q.funcs.drop (i + 1))).length ≤ 1000000 := by simpa [fuPts] using hl
          have := fun m hm => hn m hm acc v h hv e hl'
          rw [f50.n4]; unfold f50.b4
          (repeat' (first | refine Rf (fun hF hG => ?_) (fun hF hG => ?_) | assumption | (show Ext _ _; exact Ext.go) | (simp only [AHeap.next_alloc, AHeap.next_set, AHeap.next_kill, AHeap.next_res] at hle hsame) | simp (disch := first | exact D.go | fail) [setR, List.getElem?_cons_zero, List.getElem?_cons_succ, f50.n3, f50.b3, hc.rd0, hc.rd1, hc.rd2, hc.rd3, hc.rd4, hc.rd5, sr.len, ss.len, sf.len, si.len, su.len, sr.self, ss.self, sf.self, si.self, su.self, hif, hwf.rd2, swb.len, hw, fuPts, *])))
        (fun b x hx hbo => by
          obtain ⟨l1, o1, hib, ⟨_, ⟨vc, rfl, sc, q1, q2, q3, q4⟩, ha⟩⟩ := swb.at hx
          have hltb := lt_of_get hx; have hwb := wrap_in (n := (b : Int) + 1) ⟨by omega, by omega⟩
          simp only [Int.natCast_add, Int.natCast_one] at hbo
          have lc := hcode f (List.mem_of_getElem? hf) x (List.mem_of_getElem? hx)
          have inn := Evt.loop (List.range (x.code.length + 1)) (F := fun j n => ∀ acc v h, PtsO hb h v acc → Ext hb h → acc.length + (bkPts i b j (x.code.length + 1 - j) ++ (fuPts i (b + 1) (f.blocks.drop (b + 1)) ++ pgPts (i + 1) (q.funcs.drop (i + 1)))).length ≤ 1000000 →
              Res ((f50.J I (AM.lim ⟨P, I, genF P Sh.prims⟩) (n)).2.2.1 (.ptr l o) v (.int .i64 i) (.int .i64 b) (.int .i64 j) h) fun u g => PtsO hb g u (acc ++ (bkPts i b j (x.code.length + 1 - j) ++ (fuPts i (b + 1) (f.blocks.drop (b + 1)) ++ pgPts (i + 1) (q.funcs.drop (i + 1))))) ∧ Ext hb g) 8
            (by
              simp only [List.length_range]
              exact Evt.step 8 hbo fun n hn acc v h hv e hl => by
                have hle : ¬ ((x.code.length : Int) + 1 ≤ x.code.length) := by omega
                have hl' : acc.length + (fuPts i (b + 1) (f.blocks.drop (b + 1)) ++ pgPts (i + 1) (q.funcs.drop (i + 1))).length ≤ 1000000 := by simpa [bkPts] using hl
                have hn' := fun m hm => hn m hm acc v h hv e hl'
                rw [f50.n7]; unfold f50.b7
                (repeat' (first | refine Rf (fun hF hG => ?_) (fun hF hG => ?_) | assumption | (show Ext _ _; exact Ext.go) | (simp only [AHeap.next_alloc, AHeap.next_set, AHeap.next_kill, AHeap.next_res] at hle hsame) | simp (disch := first | exact D.go | fail) [setR, List.getElem?_cons_zero, List.getElem?_cons_succ, f50.n6, f50.b6, hc.rd0, hc.rd1, hc.rd2, hc.rd3, hc.rd4, hc.rd5, sr.len, ss.len, sf.len, si.len, su.len, sr.self, ss.self, sf.self, si.self, su.self, hif, hwf.rd2, hib, ha.rd0, sc.len, hwb, hle, bkPts, *])))
            (fun j y n hy ih acc v h hv e hl => by
              have hj : j < x.code.length + 1 := by simpa using lt_of_get hy
              have hjl : (j : Int) ≤ x.code.length := by omega
              have hwj := wrap_in (n := (j : Int) + 1) ⟨by omega, by omega⟩
              simp only [Int.natCast_add, Int.natCast_one] at ih
              have hb1 : bkPts i b j (x.code.length + 1 - j) = ⟨i, b, j⟩ :: bkPts i b (j + 1) (x.code.length + 1 - (j + 1)) := by
                rw [show x.code.length + 1 - j = (x.code.length + 1 - (j + 1)) + 1 by omega]; rfl
              rw [hb1] at hl ⊢
              have hlo := e.lo
              rw [f50.n7]; unfold f50.b7
              (repeat' (first | refine Rf (fun hF hG => ?_) (fun hF hG => ?_) | assumption | (show Ext _ _; exact Ext.go) | (simp only [AHeap.next_alloc, AHeap.next_set, AHeap.next_kill, AHeap.next_res] at hle hsame) | simp (disch := first | exact D.go | fail) [setR, List.getElem?_cons_zero, List.getElem?_cons_succ, f50.n8, f50.b8, hc.rd0, hc.rd1, hc.rd2, hc.rd3, hc.rd4, hc.rd5, sr.len, ss.len, sf.len, si.len, su.len, sr.self, ss.self, sf.self, si.self, su.self, hif, hwf.rd2, hib, ha.rd0, sc.len, hjl, *]))
              refine Res.after (app_pt (hv.mono (Ext.refl h).alloc) e.alloc ⟨i, b, j⟩ (by omega) (AHeap.alloc_at (Nb.o rfl))) (fun u g hA => ?_)
              have hi2 := fun m hm => ih m hm (acc ++ [⟨i, b, j⟩]) u g hA.1 hA.2 (by simp at hl ⊢; omega)
              simp only [List.append_assoc, List.cons_append, List.nil_append, Nat.add_sub_add_right] at hi2
              (repeat' (first | refine Rf (fun hF hG => ?_) (fun hF hG => ?_) | assumption | (show Ext _ _; exact Ext.go) | (simp only [AHeap.next_alloc, AHeap.next_set, AHeap.next_kill, AHeap.next_res] at hle hsame) | simp (disch := first | exact D.go | fail) [setR, List.getElem?_cons_zero, List.getElem?_cons_succ, f50.n9, f50.b9, hwj, *])))
            0 (by omega)
          refine Evt.step 5 inn fun n hn acc v h hv e hl => ?_
          rw [drop_of_get hx] at hl ⊢
          have hn' := fun m hm => hn m hm acc v h hv e (by simpa [fuPts] using hl)
          simp only [Nat.sub_zero] at hn'
          have hlo := e.lo
          rw [f50.n4]; unfold f50.b4
          (repeat' (first | refine Rf (fun hF hG => ?_) (fun hF hG => ?_) | assumption | (show Ext _ _; exact Ext.go) | (simp only [AHeap.next_alloc, AHeap.next_set, AHeap.next_kill, AHeap.next_res] at hle hsame) | simp (disch := first | exact D.go | fail) [setR, List.getElem?_cons_zero, List.getElem?_cons_succ, f50.n5, f50.b5, hc.rd0, hc.rd1, hc.rd2, hc.rd3, hc.rd4, hc.rd5, sr.len, ss.len, sf.len, si.len, su.len, sr.self, ss.self, sf.self, si.self, su.self, hif, hwf.rd2, swb.len, hltb, fuPts, List.append_assoc, *]))
          exact hn' _ (by omega))
        0 (by omega)
      refine Evt.step 5 inner fun n hn acc v h hv e hl => ?_
      rw [drop_of_get hf] at hl ⊢
      have hn' := fun m hm => hn m hm acc v h hv e (by simpa [pgPts] using hl)
      simp only [List.drop_zero] at hn'
      have hlo := e.lo
      rw [f50.n1]; unfold f50.b1
      (repeat' (first | refine Rf (fun hF hG => ?_) (fun hF hG => ?_) | assumption | (show Ext _ _; exact Ext.go) | (simp only [AHeap.next_alloc, AHeap.next_set, AHeap.next_kill, AHeap.next_res] at hle hsame) | simp (disch := first | exact D.go | fail) [setR, List.getElem?_cons_zero, List.getElem?_cons_succ, f50.n2, f50.b2, hc.rd0, hc.rd1, hc.rd2, hc.rd3, hc.rd4, hc.rd5, sr.len, ss.len, sf.len, si.len, su.len, sr.self, ss.self, sf.self, si.self, su.self, hlt, pgPts, *]))
      exact hn' _ (by omega))
    0 (by omega)
  refine f50.lim rfl (n := N) ?_
  unfold f50.e
  have := hN N (Nat.le_refl _) [] .nils hb (.inl ⟨rfl, rfl⟩) (Ext.refl hb) (by simpa using hz)
  (repeat' (first | refine Rf (fun hF hG => ?_) (fun hF hG => ?_) | assumption | (show Ext _ _; exact Ext.go) | (simp only [AHeap.next_alloc, AHeap.next_set, AHeap.next_kill, AHeap.next_res] at hle hsame) | simp (disch := first | exact D.go | fail) [setR, List.getElem?_cons_zero, List.getElem?_cons_succ, setR, *]))
end
end
end Go.Proofs.YthihegmbdclikaaDoor.Tx

set_option linter.unusedSimpArgs false
set_option linter.unusedVariables false
namespace Go.Proofs.YthihegmbdclikaaDoor.Tx
noncomputable section
open Go.AM Go.Proofs.YthihegmbdclikaaDoor.Sf
section
variable {I : Inp} {h0 : AHeap}
theorem rCode_some {l : AM.Loc} {o : Nat} {q : Pg} (hq : PgA I h0 l o q) {fi bi j : Nat} {f : Fu} {b : Bk} {i : Ins} (hf : q.funcs[fi]? = some f) (hb' : f.blocks[bi]? = some b) (hj : b.code[j]? = some i) :
    ∃ ci, InsC I h0 ci i ∧ ∀ hb, Ext h0 hb → Ret ((AM.lim ⟨P, I, genF P Sh.prims⟩) 51 [.ptr l o, .agg [.int .i64 fi, .int .i64 bi, .int .i64 j]] hb) hb (.tuple [.agg ci, .bool true]) := by
  obtain ⟨_, ⟨vr, vs, vf, vi, vu, rfl, rm, sr, ss, sf, si, su⟩, hc⟩ := hq
  obtain ⟨lf, of, hif, ⟨_, ⟨wr, wb, rfl, r0, swr, swb⟩, hwf⟩⟩ := su.at hf; obtain ⟨l1, o1, hib, ⟨_, ⟨vc, rfl, sc, q1, q2, q3, q4⟩, ha⟩⟩ := swb.at hb'; have hl1 := lt_of_get hf; have hl2 := lt_of_get hb'; have n1 : ¬ (fi : Int) < 0 := (by omega); have n2 : ¬ (bi : Int) < 0 := (by omega); have n3 : ¬ (j : Int) < 0 := (by omega); have m1 : ¬ q.funcs.length ≤ fi := (by omega); have m2 : ¬ f.blocks.length ≤ bi := (by omega)
  have hl3 := lt_of_get hj; have m3 : ¬ b.code.length ≤ j := (by omega)
  obtain ⟨l3, o3, hji, ⟨ci, hi, ha3⟩⟩ := sc.at hj
  refine ⟨ci, hi, fun hb eb => ?_⟩
  obtain ⟨v, rfl, sv, _⟩ := hi
  have hld := fun g e => ha3.rds (n := 6) g e rfl (by omega)
  have hn1 := sv.one
  refine f51.lim rfl (n := 3) ?_
  unfold f51.e
  (repeat' (first | refine Rf (fun hF hG => ?_) (fun hF hG => ?_) | assumption | (show Ext _ _; exact Ext.go) | (simp only [AHeap.next_alloc, AHeap.next_set, AHeap.next_kill, AHeap.next_res] at hle hsame) | simp (disch := first | exact D.go | fail) [setR, List.getElem?_cons_zero, List.getElem?_cons_succ, f51.n0, f51.b0, hc.rd0, hc.rd1, hc.rd2, hc.rd3, hc.rd4, hc.rd5, sr.len, ss.len, sf.len, si.len, su.len, sr.self, ss.self, sf.self, si.self, su.self, hif, hwf.rd2, swb.len, hib, ha.rd0, sc.len, hji, hld, n1, n2, n3, m1, m2, m3, hn1, *]))
theorem rCode_none {l : AM.Loc} {o : Nat} {q : Pg} (hq : PgA I h0 l o q) {fi bi j : Nat} {f : Fu} {b : Bk} (hf : q.funcs[fi]? = some f) (hb' : f.blocks[bi]? = some b) (hj : j = b.code.length) (hb : AHeap) (eb : Ext h0 hb) :
    Ret ((AM.lim ⟨P, I, genF P Sh.prims⟩) 51 [.ptr l o, .agg [.int .i64 fi, .int .i64 bi, .int .i64 j]] hb) hb (.tuple [.agg [Z 0, Z 0, Z 0, Z 0, Z 0, .nils], .bool false]) := by
  obtain ⟨_, ⟨vr, vs, vf, vi, vu, rfl, rm, sr, ss, sf, si, su⟩, hc⟩ := hq
  obtain ⟨lf, of, hif, ⟨_, ⟨wr, wb, rfl, r0, swr, swb⟩, hwf⟩⟩ := su.at hf; obtain ⟨l1, o1, hib, ⟨_, ⟨vc, rfl, sc, q1, q2, q3, q4⟩, ha⟩⟩ := swb.at hb'; have hl1 := lt_of_get hf; have hl2 := lt_of_get hb'; have n1 : ¬ (fi : Int) < 0 := (by omega); have n2 : ¬ (bi : Int) < 0 := (by omega); have n3 : ¬ (j : Int) < 0 := (by omega); have m1 : ¬ q.funcs.length ≤ fi := (by omega); have m2 : ¬ f.blocks.length ≤ bi := (by omega)
  have hl3 : ¬ ((j : Int) < b.code.length) := by omega
  have m3 : b.code.length ≤ j := by omega
  refine f51.lim rfl (n := 3) ?_
  unfold f51.e
  (repeat' (first | refine Rf (fun hF hG => ?_) (fun hF hG => ?_) | assumption | (show Ext _ _; exact Ext.go) | (simp only [AHeap.next_alloc, AHeap.next_set, AHeap.next_kill, AHeap.next_res] at hle hsame) | simp (disch := first | exact D.go | fail) [setR, List.getElem?_cons_zero, List.getElem?_cons_succ, f51.n0, f51.b0, hc.rd0, hc.rd1, hc.rd2, hc.rd3, hc.rd4, hc.rd5, sr.len, ss.len, sf.len, si.len, su.len, sr.self, ss.self, sf.self, si.self, su.self, hif, hwf.rd2, swb.len, hib, ha.rd0, sc.len, n1, n2, n3, m1, m2, m3, *]))
end
end
end Go.Proofs.YthihegmbdclikaaDoor.Tx

set_option linter.unusedSimpArgs false
set_option linter.unusedVariables false
namespace Go.Proofs.YthihegmbdclikaaDoor.Tx
noncomputable section
open Go.AM Go.Proofs.YthihegmbdclikaaDoor.Sf
section
variable {I : Inp} {h0 : AHeap}
theorem pMinmax_two (b : Int) : ∃ c, pMinmax false [Z 1000, .int .i64 b] = some (.int .i64 c) := ⟨if b < 1000 then b else 1000, by simp [pMinmax, minInts]⟩
/-- A bool. -/
def IsB (u : AVal) : Prop := ∃ b, u = .bool b
@[simp] theorem IsB_bool (b : Bool) : IsB (.bool b) = True := by simp [IsB]
theorem small_ends {l : AM.Loc} {o : Nat} {q : Pg} (hq : PgA I h0 l o q) (hb : AHeap) (eb : Ext h0 hb) : Res ((AM.lim ⟨P, I, genF P Sh.prims⟩) 21 [.ptr l o] hb) fun u g => IsB u ∧ Ext hb g := by
  obtain ⟨_, ⟨vr, vs, vf, vi, vu, rfl, rm, sr, ss, sf, si, su⟩, hc⟩ := hq
  have lu := su.lt
  obtain ⟨N, hN⟩ := Evt.loop' q.funcs (F := fun i n => ∀ (m : Int) h, Ext hb h → Res ((f21.J I (AM.lim ⟨P, I, genF P Sh.prims⟩) (n)).1.2.1 (.ptr l o) (.int .i64 m) (.int .i64 i) h) fun u g => IsB u ∧ Ext hb g)
    (Evt.all 5 fun n m h e => by
      rw [f21.n2]; unfold f21.b2
      (repeat' (first | refine Rf (fun hF hG => ?_) (fun hF hG => ?_) | assumption | (show Ext _ _; exact Ext.go) | (simp only [AHeap.next_alloc, AHeap.next_set, AHeap.next_kill, AHeap.next_res] at hle hsame) | simp (disch := first | exact D.go | fail) [setR, List.getElem?_cons_zero, List.getElem?_cons_succ, f21.n0, f21.b0, f21.n1, f21.b1, f21.n3, f21.b3, f21.n4, f21.b4, f21.n5, f21.b5, f21.n6, f21.b6, f21.n7, f21.b7, f21.n8, f21.b8, hc.rd0, hc.rd1, hc.rd2, hc.rd3, hc.rd4, hc.rd5, sr.len, ss.len, sf.len, si.len, su.len, sr.self, ss.self, sf.self, si.self, su.self, *])))
    (fun i f hf hfo => by
      obtain ⟨lf, of, hif, ⟨_, ⟨wr, wb, rfl, r0, swr, swb⟩, hwf⟩⟩ := su.at hf
      have hlt := lt_of_get hf; have hw := wrap_in (n := (i : Int) + 1) ⟨by omega, by omega⟩
      have lb := swb.lt
      simp only [Int.natCast_add, Int.natCast_one] at hfo
      have inner := Evt.loop f.blocks (F := fun b n => ∀ (m : Int) h, Ext hb h → Res ((f21.J I (AM.lim ⟨P, I, genF P Sh.prims⟩) (n)).2.2.1 (.ptr l o) (.int .i64 m) (.int .i64 i) (.int .i64 b) h) fun u g => IsB u ∧ Ext hb g) 6
        (Evt.step 6 hfo fun n hn m h e => by
          have hlo := e.lo
          have hn' := fun m' hm => hn m' hm m h e
          rw [f21.n6]; unfold f21.b6
          (repeat' (first | refine Rf (fun hF hG => ?_) (fun hF hG => ?_) | assumption | (show Ext _ _; exact Ext.go) | (simp only [AHeap.next_alloc, AHeap.next_set, AHeap.next_kill, AHeap.next_res] at hle hsame) | simp (disch := first | exact D.go | fail) [setR, List.getElem?_cons_zero, List.getElem?_cons_succ, f21.n4, f21.b4, hc.rd0, hc.rd1, hc.rd2, hc.rd3, hc.rd4, hc.rd5, sr.len, ss.len, sf.len, si.len, su.len, sr.self, ss.self, sf.self, si.self, su.self, hif, hwf.rd2, swb.len, hw, *])))
        (fun b x n hx ih m h e => by
          obtain ⟨l1, o1, hib, ⟨_, ⟨vc, rfl, sc, q1, q2, q3, q4⟩, ha⟩⟩ := swb.at hx
          have hltb := lt_of_get hx; have hwb := wrap_in (n := (b : Int) + 1) ⟨by omega, by omega⟩
          simp only [Int.natCast_add, Int.natCast_one] at ih
          obtain ⟨mm, hmm⟩ := pMinmax_two (x.code.length : Int)
          have hlo := e.lo
          have ih' := fun m' hm mm => ih m' hm mm h e
          rw [f21.n6]; unfold f21.b6
          (repeat' (first | refine Rf (fun hF hG => ?_) (fun hF hG => ?_) | assumption | (show Ext _ _; exact Ext.go) | (simp only [AHeap.next_alloc, AHeap.next_set, AHeap.next_kill, AHeap.next_res] at hle hsame) | simp (disch := first | exact D.go | fail) [setR, List.getElem?_cons_zero, List.getElem?_cons_succ, f21.n7, f21.b7, f21.n8, f21.b8, hc.rd0, hc.rd1, hc.rd2, hc.rd3, hc.rd4, hc.rd5, sr.len, ss.len, sf.len, si.len, su.len, sr.self, ss.self, sf.self, si.self, su.self, hif, hwf.rd2, swb.len, hib, ha.rd0, sc.len, hmm, hltb, hwb, *])))
        0 (by omega)
      refine Evt.step 8 inner fun n hn m h e => ?_
      have hn' := fun m' hm => hn m' hm m h e
      have hlo := e.lo
      rw [f21.n2]; unfold f21.b2
      (repeat' (first | refine Rf (fun hF hG => ?_) (fun hF hG => ?_) | assumption | (show Ext _ _; exact Ext.go) | (simp only [AHeap.next_alloc, AHeap.next_set, AHeap.next_kill, AHeap.next_res] at hle hsame) | simp (disch := first | exact D.go | fail) [setR, List.getElem?_cons_zero, List.getElem?_cons_succ, f21.n3, f21.b3, f21.n5, f21.b5, hc.rd0, hc.rd1, hc.rd2, hc.rd3, hc.rd4, hc.rd5, sr.len, ss.len, sf.len, si.len, su.len, sr.self, ss.self, sf.self, si.self, su.self, hif, hwf.rd1, hwf.rd2, swb.len, swr.len, hlt, *]))
      all_goals (exact hn' _ (by omega)))
    0 (by omega)
  have hN' := fun m => hN (N + 1) (by omega) m hb (Ext.refl hb)
  refine f21.lim rfl (n := N + 2) ?_
  unfold f21.e
  (repeat' (first | refine Rf (fun hF hG => ?_) (fun hF hG => ?_) | assumption | (show Ext _ _; exact Ext.go) | (simp only [AHeap.next_alloc, AHeap.next_set, AHeap.next_kill, AHeap.next_res] at hle hsame) | simp (disch := first | exact D.go | fail) [setR, List.getElem?_cons_zero, List.getElem?_cons_succ, f21.n0, f21.b0, hc.rd0, hc.rd1, hc.rd2, hc.rd3, hc.rd4, hc.rd5, sr.len, ss.len, sf.len, si.len, su.len, sr.self, ss.self, sf.self, si.self, su.self, *]))
  all_goals (exact hN' _)
end
end
end Go.Proofs.YthihegmbdclikaaDoor.Tx

set_option linter.unusedSimpArgs false
set_option linter.unusedVariables false
namespace Go.Proofs.YthihegmbdclikaaDoor.Tx
noncomputable section
open Go.AM Go.Proofs.YthihegmbdclikaaDoor.Sf
section
variable {I : Inp} {h0 : AHeap}
theorem fuPts_le (f : Int) : ∀ (l : List Bk) (b : Nat), (∀ x ∈ l, x.code.length ≤ 30) → (fuPts f b l).length ≤ 31 * l.length
  | [], b, _ => by simp [fuPts]
  | x :: r, b, h => by
    have := fuPts_le f r (b + 1) fun y hy => h y (by simp [hy])
    have hx := h x (by simp)
    simp only [fuPts, List.length_append, bkPts_len, List.length_cons]
    omega
theorem pgPts_le : ∀ (l : List Fu) (i : Nat), (∀ f ∈ l, f.blocks.length ≤ 12 ∧ ∀ x ∈ f.blocks, x.code.length ≤ 30) → (pgPts i l).length ≤ 372 * l.length
  | [], i, _ => by simp [pgPts]
  | f :: r, i, h => by
    have := pgPts_le r (i + 1) fun y hy => h y (by simp [hy])
    have hx := h f (by simp)
    have := fuPts_le i f.blocks 0 hx.2
    simp only [pgPts, List.length_append, List.length_cons]
    omega
theorem pgPts_small {q : Pg} (h : boundsB q = true) : (pgPts 0 q.funcs).length ≤ 1000000 := by
  simp only [boundsB, lensB, innerB, Bool.and_eq_true, dc_eq_true] at h
  obtain ⟨⟨⟨_, hf⟩, _⟩, ⟨_, hb⟩, _⟩ := h
  have := pgPts_le q.funcs 0 fun f hx => by
    have hx' := hb f hx
    simp only [bodyB, Bool.and_eq_true, dc_eq_true] at hx'
    refine ⟨by omega, fun y hy => ?_⟩
    have := (hx'.2 y hy).1
    omega
  omega
end
end
end Go.Proofs.YthihegmbdclikaaDoor.Tx

set_option linter.unusedSimpArgs false
set_option linter.unusedVariables false
namespace Go.Proofs.YthihegmbdclikaaDoor.Tx
noncomputable section
open Go.AM Go.Proofs.YthihegmbdclikaaDoor.Sf
section
variable {I : Inp} {h0 : AHeap}
theorem find_bk {ok : Pt → Bool} {PI : Ins → Bool} {pb : Bool} {f b : Int} {code : List Ins} (h1 : ∀ (k : Nat) i, code[k]? = some i → ok ⟨f, b, k⟩ = PI i) (h2 : ok ⟨f, b, code.length⟩ = pb) :
    ∀ (c j : Nat), j + c = code.length → (bkPts f b j (c + 1)).find? (fun p => !ok p) = bkFrom PI pb f b j (code.drop j)
  | 0, j, h => by
    obtain rfl : j = code.length := by omega
    simp only [bkPts, List.drop_length, bkFrom, List.find?_cons, h2]
    cases pb <;> simp
  | c + 1, j, h => by
    have hj : j < code.length := by omega
    have hx := List.getElem?_eq_getElem hj
    rw [drop_of_get hx, bkPts, List.find?_cons, h1 j _ hx, bkFrom]
    cases hp : PI code[j]
    · simp
    · simpa using find_bk h1 h2 c (j + 1) (by omega)
/-- Is a point as it should be? -/
def okP (q : Pg) (p : Pt) : Bool := match q.funcs[p.f.toNat]? with
  | none => true
  | some f => match f.blocks[p.b.toNat]? with
    | none => true
    | some b => match b.code[p.i.toNat]? with
      | some i => fitsI q f i
      | none => endT q f b
theorem find_fu {q : Pg} {fi : Nat} {f : Fu} (hf : q.funcs[fi]? = some f) : ∀ (l : List Bk) (b : Nat), f.blocks.drop b = l → (fuPts fi b l).find? (fun p => !okP q p) = fuFrom (fitsI q f) (endT q f) fi b l
  | [], b, _ => by simp [fuPts, fuFrom]
  | x :: r, b, h => by
    have hx : f.blocks[b]? = some x := by
      have := congrArg (·[0]?) h
      simpa using this
    have hr : f.blocks.drop (b + 1) = r := by
      have := congrArg (List.drop 1) h
      simpa [Nat.add_comm] using this
    rw [fuPts, fuFrom, List.find?_append, find_fu hf r (b + 1) hr]
    rw [find_bk (ok := okP q) (PI := fitsI q f) (pb := endT q f x) (code := x.code) (fun k i hk => by simp [okP, hf, hx, hk]) (by simp [okP, hf, hx]) x.code.length 0 (by omega)]
    rfl
theorem find_pg {q : Pg} : ∀ (l : List Fu) (i : Nat), q.funcs.drop i = l → ((pgPts i l).find? (fun p => !okP q p)).or (if mainB q = true then none else some noPt) = checkFrom q i l
  | [], i, _ => by simp [pgPts, checkFrom]
  | f :: r, i, h => by
    have hx : q.funcs[i]? = some f := by
      have := congrArg (·[0]?) h
      simpa using this
    have hr : q.funcs.drop (i + 1) = r := by
      have := congrArg (List.drop 1) h
      simpa [Nat.add_comm] using this
    rw [pgPts, checkFrom, List.find?_append, find_fu hx f.blocks 0 rfl, ← find_pg r (i + 1) hr, Option.or_assoc]
end
end
end Go.Proofs.YthihegmbdclikaaDoor.Tx

set_option linter.unusedSimpArgs false
set_option linter.unusedVariables false
namespace Go.Proofs.YthihegmbdclikaaDoor.Tx
noncomputable section
open Go.AM Go.Proofs.YthihegmbdclikaaDoor.Sf
section
variable {I : Inp} {h0 : AHeap}
def PtC (cs : List AVal) (p : Pt) : Prop := cs = ptCells p
theorem pts_get : ∀ (xs : List Pt) (i : Nat) (x : Pt) (j : Nat) (v : AVal), xs[i]? = some x → (ptCells x)[j]? = some v → (xs.flatMap ptCells)[i * 3 + j]? = some v
  | [], i, x, j, v, h, _ => by simp at h
  | y :: ys, 0, x, j, v, h, hv => by
    simp at h; subst h
    have hj : j < 3 := by have := (List.getElem?_eq_some_iff.1 hv).1; simpa [ptCells] using this
    rw [List.flatMap_cons, List.getElem?_append_left (by simp [ptCells]; omega)]
    simpa using hv
  | y :: ys, i + 1, x, j, v, h, hv => by
    have := pts_get ys i x j v (by simpa using h) hv
    rw [List.flatMap_cons, List.getElem?_append_right (by simp [ptCells]; omega)]
    rw [show (i + 1) * 3 + j - (ptCells y).length = i * 3 + j by simp [ptCells]; omega]
    exact this
theorem PtsO.v {hb h : AHeap} {v : AVal} {xs : List Pt} (a : PtsO hb h v xs) (hl : xs.length ≤ 1000000) : SlV 3 (At I h PtC) v xs := by
  rcases a with ⟨rfl, rfl⟩ | ⟨k, rfl, hk, h1, h2, h3⟩
  · exact SlOf.v SlOf.nil
  · refine ⟨rfl, by omega, fun {i x} hx => ⟨.own k, 0 + i * 3, pIndexAddr_sl (List.getElem?_eq_some_iff.1 hx).1, ptCells x, rfl, Cells.own hk h2 fun j v hv => ?_⟩⟩
    simp only [Nat.zero_add]
    exact pts_get xs i x j v hx hv
end
end
end Go.Proofs.YthihegmbdclikaaDoor.Tx

set_option linter.unusedSimpArgs false
set_option linter.unusedVariables false
namespace Go.Proofs.YthihegmbdclikaaDoor.Tx
noncomputable section
open Go.AM Go.Proofs.YthihegmbdclikaaDoor.Sf
section
variable {I : Inp} {h0 : AHeap}
theorem bkPts_mem {f b : Int} {p : Pt} : ∀ (c j : Nat), p ∈ bkPts f b j c → ∃ k : Nat, j ≤ k ∧ k < j + c ∧ p = ⟨f, b, k⟩
  | 0, j, h => by simp [bkPts] at h
  | c + 1, j, h => by
    rcases List.mem_cons.1 h with rfl | h
    · exact ⟨j, by omega, by omega, rfl⟩
    · obtain ⟨k, h1, h2, h3⟩ := bkPts_mem c (j + 1) h
      exact ⟨k, by omega, by omega, h3⟩
theorem fuPts_mem {f : Int} {p : Pt} : ∀ (l : List Bk) (b : Nat), p ∈ fuPts f b l → ∃ (bi k : Nat) (x : Bk), l[bi]? = some x ∧ k ≤ x.code.length ∧ p = ⟨f, ((b + bi : Nat) : Int), k⟩
  | [], b, h => by simp [fuPts] at h
  | x :: r, b, h => by
    rcases List.mem_append.1 h with h | h
    · obtain ⟨k, h1, h2, h3⟩ := bkPts_mem _ _ h
      exact ⟨0, k, x, rfl, by omega, h3⟩
    · obtain ⟨bi, k, y, h1, h2, h3⟩ := fuPts_mem r (b + 1) h
      exact ⟨bi + 1, k, y, by simpa using h1, h2, by rw [h3]; congr 2; omega⟩
theorem pgPts_mem {p : Pt} : ∀ (l : List Fu) (i : Nat), p ∈ pgPts i l → ∃ (fi bi k : Nat) (f : Fu) (x : Bk), l[fi]? = some f ∧ f.blocks[bi]? = some x ∧ k ≤ x.code.length ∧ p = ⟨((i + fi : Nat) : Int), (bi : Int), k⟩
  | [], i, h => by simp [pgPts] at h
  | f :: r, i, h => by
    rcases List.mem_append.1 h with h | h
    · obtain ⟨bi, k, x, h1, h2, h3⟩ := fuPts_mem _ _ h
      exact ⟨0, bi, k, f, x, rfl, h1, h2, by simpa using h3⟩
    · obtain ⟨fi, bi, k, g, x, h1, h2, h3, h4⟩ := pgPts_mem r (i + 1) h
      exact ⟨fi + 1, bi, k, g, x, by simpa using h1, h2, h3, by rw [h4]; congr 2; omega⟩
set_option maxHeartbeats 4000000 in
theorem rT_points {l : AM.Loc} {o : Nat} {q : Pg} (hq : PgA I h0 l o q) (hN : NOk q) (hargs : ∀ x ∈ q.funcs, ∀ y ∈ x.blocks, y.code.length ≤ 1000000 ∧ ∀ z ∈ y.code, z.args.length ≤ 1000000) {hs : AHeap} (es0 : Ext h0 hs) (hpl : (pgPts 0 q.funcs).length ≤ 1000000) :
    Evt fun n => ∀ (hb : AHeap) (k2 : Nat), Ext hs hb → hs.next ≤ k2 → k2 < hb.next → (∀ g, Ext hb g → g.get k2 = some ⟨[Z 0, Z 0, Z 0], true⟩) → ∀ (v : AVal), SlV 3 (At I hb PtC) v (pgPts 0 q.funcs) → ∀ (h : AHeap), Ext hb h → Res ((f22.J I (AM.lim ⟨P, I, genF P Sh.prims⟩) (n)).2.1.2.2 (.ptr l o) (.ptr (.own k2) 0) v (Z 0) h) fun u g =>
      u = rV (((pgPts 0 q.funcs).find? (fun p => !okP q p)).or (if mainB q = true then none else some noPt)) ∧ Ext hs g := by
  have hq' := hq
  obtain ⟨_, ⟨vr, vs, vf, vi, vu, rfl, rm, sr, ss, sf, si, su⟩, hc⟩ := hq
  have lu := su.lt
  obtain ⟨lm, om, hmi, ⟨_, ⟨wmr, wmb, rfl, _⟩, hmf⟩, _⟩ := su.atI hN.main.1 hN.main.2 fu0
  have hmsg := hN.sig _ (nth_mem hN.main fu0)
  obtain ⟨lg, og, hgi, ⟨_, ⟨wg, rfl, sg, _, _⟩, hgf⟩, _⟩ := ss.atI hmsg.1 hmsg.2 sg0
  have hgl := fun g e => hgf.rds (n := 3) g e rfl (by omega)
  have hg1 := sg.one; have hg2 := sg.len; have hg3 := sg.self; have hg4 := sg.cells
  have key := Evt.loop (pgPts 0 q.funcs) (F := fun j n => ∀ (hb : AHeap) (k2 : Nat), Ext hs hb → hs.next ≤ k2 → k2 < hb.next → (∀ g, Ext hb g → g.get k2 = some ⟨[Z 0, Z 0, Z 0], true⟩) → ∀ (v : AVal), SlV 3 (At I hb PtC) v (pgPts 0 q.funcs) → ∀ (h : AHeap), Ext hb h → Res ((f22.J I (AM.lim ⟨P, I, genF P Sh.prims⟩) (n)).2.1.2.2 (.ptr l o) (.ptr (.own k2) 0) v (.int .i64 j) h) fun u g =>
      u = rV ((((pgPts 0 q.funcs).drop j).find? (fun p => !okP q p)).or (if mainB q = true then none else some noPt)) ∧ Ext hs g) 8
    (Evt.all 8 fun n hb k2 es lo2 hi2 hval v sv h e => by
      have eb := es0.trans es; have hlo := e.lo; have hls := es.lo
      rw [f22.n9]; unfold f22.b9
      by_cases hr0 : (nth q.sigs (nth q.funcs q.main fu0).sig sg0).res.kind = 0
      · (repeat' (first | refine Rf (fun hF hG => ?_) (fun hF hG => ?_) | assumption | (show Ext _ _; exact Ext.go) | (simp only [AHeap.next_alloc, AHeap.next_set, AHeap.next_kill, AHeap.next_res] at hle hsame) | simp (disch := first | exact D.go | fail) [setR, List.getElem?_cons_zero, List.getElem?_cons_succ, f22.n10, f22.b10, f22.n11, f22.b11, f22.n12, f22.b12, f22.n13, f22.b13, f22.n8, f22.b8, hval, hc.rd0, hc.rd1, hc.rd2, hc.rd3, hc.rd4, hc.rd5, sr.len, ss.len, sf.len, si.len, su.len, sr.self, ss.self, sf.self, si.self, su.self, sv.len, hmi, hmf.rd0, hgi, hgl, hg1, hg2, hg3, hg4, hr0, mainB, noPt_f, noPt_b, noPt_i, List.length_pos_iff, *] | (refine Ret.thn (h0 := hb) (rnowhere _) ?_ (fun g hg hlo hle hsame hx => ?_))))
      · (repeat' (first | refine Rf (fun hF hG => ?_) (fun hF hG => ?_) | assumption | (show Ext _ _; exact Ext.go) | (simp only [AHeap.next_alloc, AHeap.next_set, AHeap.next_kill, AHeap.next_res] at hle hsame) | simp (disch := first | exact D.go | fail) [setR, List.getElem?_cons_zero, List.getElem?_cons_succ, f22.n10, f22.b10, f22.n11, f22.b11, f22.n12, f22.b12, f22.n13, f22.b13, f22.n8, f22.b8, hval, hc.rd0, hc.rd1, hc.rd2, hc.rd3, hc.rd4, hc.rd5, sr.len, ss.len, sf.len, si.len, su.len, sr.self, ss.self, sf.self, si.self, su.self, sv.len, hmi, hmf.rd0, hgi, hgl, hg1, hg2, hg3, hg4, hr0, mainB, noPt_f, noPt_b, noPt_i, List.length_pos_iff, *] | (refine Ret.thn (h0 := hb) (rnowhere _) ?_ (fun g hg hlo hle hsame hx => ?_)))))
    (fun j p n hp ih hb k2 es lo2 hi2 hval v sv h e => by
      have eb := es0.trans es; have hlo := e.lo; have hls := es.lo
      have hlt := lt_of_get hp; have hw := wrap_in (n := (j : Int) + 1) ⟨by omega, by omega⟩
      simp only [Int.natCast_add, Int.natCast_one] at ih
      obtain ⟨fi, bi, k, f, x, hf, hx, hk, rfl⟩ := pgPts_mem _ _ (List.mem_of_getElem? hp)
      simp only [Nat.zero_add] at hp
      obtain ⟨lp, op, hpi, ⟨_, rfl, hpc⟩⟩ := sv.at_ hp
      have hpl3 := fun g e => hpc.rds (n := 3) g e rfl (by omega)
      obtain ⟨lf, of, hfi, ⟨cf, hfu, hfa⟩⟩ := su.at hf
      have hfu' := hfu
      obtain ⟨wr, wb, rfl, r0, swr, swb⟩ := hfu'
      have hfl := fun g e => hfa.rds (n := 3) g e rfl (by omega)
      obtain ⟨lb, ob, hbi, ⟨cb, hbk, hba⟩⟩ := swb.at hx
      have hbk' := hbk
      obtain ⟨wc, rfl, swc, _⟩ := hbk'
      have hbl := fun g e => hba.rds (n := 5) g e rfl (by omega)
      have hfm := List.mem_of_getElem? hf; have hxm := List.mem_of_getElem? hx
      have hn1 := swr.one; have hn2 := swb.one; have hn3 := swc.one
      have hs1 := swr.self; have hs2 := swb.self; have hs3 := swc.self
      rw [drop_of_get hp]
      by_cases hke : k = x.code.length
      · subst hke
        have hok : okP q ⟨fi, bi, x.code.length⟩ = endT q f x := by simp [okP, hf, hx]
        have hsg := hN.sig f hfm
        have hfin := hN.fin f hfm x hxm
        obtain ⟨l5, o5, hz1, ⟨_, ⟨w5, rfl, sw5, q5, q6⟩, hz2⟩, _⟩ := ss.atI hsg.1 hsg.2 sg0
        have hrs : ∀ g, Ext h0 g → rds I g l5 (o5 + 1) 2 = some [.int .i64 (nth q.sigs f.sig sg0).res.kind, .int .i64 (nth q.sigs f.sig sg0).res.n] := fun g e => Cells.rds (Cells.sub (d := 1) (ds := [.int .i64 (nth q.sigs f.sig sg0).res.kind, .int .i64 (nth q.sigs f.sig sg0).res.n]) hz2 (fun i v hv => by
          match i with
          | 0 => simpa using hv
          | 1 => simpa using hv
          | i + 2 => simp at hv)) g e rfl (by omega)
        have hrc := rCode_none (j := x.code.length) hq' hf hx rfl
        rw [f22.n9]; unfold f22.b9
        by_cases h2 : x.fin = 2
        · have hr : inB x.reg f.regs.length := by have := hfin; simp [endB, h2] at this; exact this.1
          obtain ⟨l6, o6, hr1, ⟨_, ⟨rfl, _, _⟩, hr2⟩, _⟩ := swr.atI hr.1 hr.2 ty0
          by_cases hk0 : (nth f.regs x.reg ty0).kind = 0
          · (repeat' (first | refine Rf (fun hF hG => ?_) (fun hF hG => ?_) | assumption | (show Ext _ _; exact Ext.go) | (simp only [AHeap.next_alloc, AHeap.next_set, AHeap.next_kill, AHeap.next_res] at hle hsame) | simp (disch := first | exact D.go | fail) [setR, List.getElem?_cons_zero, List.getElem?_cons_succ, f22.n10, f22.b10, f22.n11, f22.b11, f22.n12, f22.b12, f22.n13, f22.b13, f22.n8, f22.b8, hval, hc.rd0, hc.rd1, hc.rd2, hc.rd3, hc.rd4, hc.rd5, sr.len, ss.len, sf.len, si.len, su.len, sr.self, ss.self, sf.self, si.self, su.self, sv.len, hw, hlt, hpi, hpc.rd0, hpc.rd1, hpc.rd2, hpl3, hfi, hfl, hbi, hbl, hok, ptCells, List.find?_cons, endT, h2, hk0, hr1, hr2.rd0, *] | (refine Ret.thn (h0 := hb) (hrc _ Ext.go) ?_ (fun g hg hlo hle hsame hx => ?_)) | (refine Res.mono (ih _ (by omega) hb k2 es lo2 hi2 hval v sv _ ?_) (fun u g hq => ?_); rotate_left; (obtain ⟨rfl, hq⟩ := hq); rotate_right)))
          · (repeat' (first | refine Rf (fun hF hG => ?_) (fun hF hG => ?_) | assumption | (show Ext _ _; exact Ext.go) | (simp only [AHeap.next_alloc, AHeap.next_set, AHeap.next_kill, AHeap.next_res] at hle hsame) | simp (disch := first | exact D.go | fail) [setR, List.getElem?_cons_zero, List.getElem?_cons_succ, f22.n10, f22.b10, f22.n11, f22.b11, f22.n12, f22.b12, f22.n13, f22.b13, f22.n8, f22.b8, hval, hc.rd0, hc.rd1, hc.rd2, hc.rd3, hc.rd4, hc.rd5, sr.len, ss.len, sf.len, si.len, su.len, sr.self, ss.self, sf.self, si.self, su.self, sv.len, hw, hlt, hpi, hpc.rd0, hpc.rd1, hpc.rd2, hpl3, hfi, hfl, hbi, hbl, hok, ptCells, List.find?_cons, endT, h2, hk0, hr1, hr2.rd0, *] | (refine Ret.thn (h0 := hb) (hrc _ Ext.go) ?_ (fun g hg hlo hle hsame hx => ?_)) | (refine Res.mono (ih _ (by omega) hb k2 es lo2 hi2 hval v sv _ ?_) (fun u g hq => ?_); rotate_left; (obtain ⟨rfl, hq⟩ := hq); rotate_right)))
        · by_cases h3 : x.fin = 3
          · have hr : inB x.reg f.regs.length := by have := hfin; simp [endB, h3] at this; exact this.1
            obtain ⟨l6, o6, hr1, ⟨_, ⟨rfl, _, _⟩, hr2⟩, _⟩ := swr.atI hr.1 hr.2 ty0
            have hr3 := fun g e => hr2.rds (n := 2) g e rfl (by omega)
            by_cases hk0 : tyE (nth f.regs x.reg ty0) (nth q.sigs f.sig sg0).res
            · (repeat' (first | refine Rf (fun hF hG => ?_) (fun hF hG => ?_) | assumption | (show Ext _ _; exact Ext.go) | (simp only [AHeap.next_alloc, AHeap.next_set, AHeap.next_kill, AHeap.next_res] at hle hsame) | simp (disch := first | exact D.go | fail) [setR, List.getElem?_cons_zero, List.getElem?_cons_succ, f22.n10, f22.b10, f22.n11, f22.b11, f22.n12, f22.b12, f22.n13, f22.b13, f22.n8, f22.b8, hval, hc.rd0, hc.rd1, hc.rd2, hc.rd3, hc.rd4, hc.rd5, sr.len, ss.len, sf.len, si.len, su.len, sr.self, ss.self, sf.self, si.self, su.self, sv.len, hw, hlt, hpi, hpc.rd0, hpc.rd1, hpc.rd2, hpl3, hfi, hfl, hbi, hbl, hok, ptCells, List.find?_cons, endT, h3, hk0, hr1, hr3, hz1, hrs, *] | (refine Ret.thn (h0 := hb) (hrc _ Ext.go) ?_ (fun g hg hlo hle hsame hx => ?_)) | (refine Ret.thn (h0 := hb) (req _ _ _) ?_ (fun g hg hlo hle hsame hx => ?_)) | (refine Res.mono (ih _ (by omega) hb k2 es lo2 hi2 hval v sv _ ?_) (fun u g hq => ?_); rotate_left; (obtain ⟨rfl, hq⟩ := hq); rotate_right)))
            · (repeat' (first | refine Rf (fun hF hG => ?_) (fun hF hG => ?_) | assumption | (show Ext _ _; exact Ext.go) | (simp only [AHeap.next_alloc, AHeap.next_set, AHeap.next_kill, AHeap.next_res] at hle hsame) | simp (disch := first | exact D.go | fail) [setR, List.getElem?_cons_zero, List.getElem?_cons_succ, f22.n10, f22.b10, f22.n11, f22.b11, f22.n12, f22.b12, f22.n13, f22.b13, f22.n8, f22.b8, hval, hc.rd0, hc.rd1, hc.rd2, hc.rd3, hc.rd4, hc.rd5, sr.len, ss.len, sf.len, si.len, su.len, sr.self, ss.self, sf.self, si.self, su.self, sv.len, hw, hlt, hpi, hpc.rd0, hpc.rd1, hpc.rd2, hpl3, hfi, hfl, hbi, hbl, hok, ptCells, List.find?_cons, endT, h3, hk0, hr1, hr3, hz1, hrs, *] | (refine Ret.thn (h0 := hb) (hrc _ Ext.go) ?_ (fun g hg hlo hle hsame hx => ?_)) | (refine Ret.thn (h0 := hb) (req _ _ _) ?_ (fun g hg hlo hle hsame hx => ?_)) | (refine Res.mono (ih _ (by omega) hb k2 es lo2 hi2 hval v sv _ ?_) (fun u g hq => ?_); rotate_left; (obtain ⟨rfl, hq⟩ := hq); rotate_right)))
          · (repeat' (first | refine Rf (fun hF hG => ?_) (fun hF hG => ?_) | assumption | (show Ext _ _; exact Ext.go) | (simp only [AHeap.next_alloc, AHeap.next_set, AHeap.next_kill, AHeap.next_res] at hle hsame) | simp (disch := first | exact D.go | fail) [setR, List.getElem?_cons_zero, List.getElem?_cons_succ, f22.n10, f22.b10, f22.n11, f22.b11, f22.n12, f22.b12, f22.n13, f22.b13, f22.n8, f22.b8, hval, hc.rd0, hc.rd1, hc.rd2, hc.rd3, hc.rd4, hc.rd5, sr.len, ss.len, sf.len, si.len, su.len, sr.self, ss.self, sf.self, si.self, su.self, sv.len, hw, hlt, hpi, hpc.rd0, hpc.rd1, hpc.rd2, hpl3, hfi, hfl, hbi, hbl, hok, ptCells, List.find?_cons, endT, h2, h3, *] | (refine Ret.thn (h0 := hb) (hrc _ Ext.go) ?_ (fun g hg hlo hle hsame hx => ?_)) | (refine Res.mono (ih _ (by omega) hb k2 es lo2 hi2 hval v sv _ ?_) (fun u g hq => ?_); rotate_left; (obtain ⟨rfl, hq⟩ := hq); rotate_right)))
      · obtain ⟨i, hi⟩ : ∃ i, x.code[k]? = some i := ⟨x.code[k], List.getElem?_eq_getElem (by omega)⟩
        obtain ⟨ci, hic, hco⟩ := rCode_some hq' hf hx hi
        have hic' := hic
        obtain ⟨va, rfl, sva, _⟩ := hic'
        have hn4 := sva.one; have hs4 := sva.self
        have hok : okP q ⟨fi, bi, k⟩ = fitsI q f i := by simp [okP, hf, hx, hi]
        rw [f22.n9]; unfold f22.b9
        cases hfit : fitsI q f i
        · have hfit' := hfit
          unfold fitsI at hfit'
          (repeat' (first | refine Rf (fun hF hG => ?_) (fun hF hG => ?_) | assumption | (show Ext _ _; exact Ext.go) | (simp only [AHeap.next_alloc, AHeap.next_set, AHeap.next_kill, AHeap.next_res] at hle hsame) | simp (disch := first | exact D.go | fail) [setR, List.getElem?_cons_zero, List.getElem?_cons_succ, f22.n10, f22.b10, f22.n11, f22.b11, f22.n12, f22.b12, f22.n13, f22.b13, f22.n8, f22.b8, hval, hc.rd0, hc.rd1, hc.rd2, hc.rd3, hc.rd4, hc.rd5, sr.len, ss.len, sf.len, si.len, su.len, sr.self, ss.self, sf.self, si.self, su.self, sv.len, hw, hlt, hpi, hpc.rd0, hpc.rd1, hpc.rd2, hpl3, hfi, hfl, hbi, hbl, hok, hfit, hfit', ptCells, List.find?_cons, *] | (refine Ret.thn (h0 := hb) (hco _ Ext.go) ?_ (fun g hg hlo hle hsame hx => ?_)) | (refine Ret.thn (h0 := hb) (rFits hq' hN hfu hic (hN.regs f hfm) ((hargs f hfm x hxm).2 i (List.mem_of_getElem? hi)) _ Ext.go) ?_ (fun g hg hlo hle hsame hx => ?_))))
        · have hfit' := hfit
          unfold fitsI at hfit'
          (repeat' (first | refine Rf (fun hF hG => ?_) (fun hF hG => ?_) | assumption | (show Ext _ _; exact Ext.go) | (simp only [AHeap.next_alloc, AHeap.next_set, AHeap.next_kill, AHeap.next_res] at hle hsame) | simp (disch := first | exact D.go | fail) [setR, List.getElem?_cons_zero, List.getElem?_cons_succ, f22.n10, f22.b10, f22.n11, f22.b11, f22.n12, f22.b12, f22.n13, f22.b13, f22.n8, f22.b8, hval, hc.rd0, hc.rd1, hc.rd2, hc.rd3, hc.rd4, hc.rd5, sr.len, ss.len, sf.len, si.len, su.len, sr.self, ss.self, sf.self, si.self, su.self, sv.len, hw, hlt, hpi, hpc.rd0, hpc.rd1, hpc.rd2, hpl3, hfi, hfl, hbi, hbl, hok, hfit, hfit', ptCells, List.find?_cons, *] | (refine Ret.thn (h0 := hb) (hco _ Ext.go) ?_ (fun g hg hlo hle hsame hx => ?_)) | (refine Ret.thn (h0 := hb) (rFits hq' hN hfu hic (hN.regs f hfm) ((hargs f hfm x hxm).2 i (List.mem_of_getElem? hi)) _ Ext.go) ?_ (fun g hg hlo hle hsame hx => ?_)) | (refine Res.mono (ih _ (by omega) hb k2 es lo2 hi2 hval v sv _ ?_) (fun u g hq => ?_); rotate_left; (obtain ⟨rfl, hq⟩ := hq); rotate_right))))
    0 (by omega)
  obtain ⟨N, hN'⟩ := key
  refine ⟨N, fun n hn => ?_⟩
  have := hN' n hn
  simp only [List.drop_zero] at this
  exact this
theorem rT_params {l : AM.Loc} {o : Nat} {q : Pg} (hq : PgA I h0 l o q) (hN : NOk q) {hs : AHeap} (es0 : Ext h0 hs) (R : Option Pt)
    (next : Evt fun n => ∀ (hb : AHeap) (k2 : Nat), Ext hs hb → hs.next ≤ k2 → k2 < hb.next → (∀ g, Ext hb g → g.get k2 = some ⟨[Z 0, Z 0, Z 0], true⟩) → ∀ (h : AHeap), Ext hb h → Res ((f22.J I (AM.lim ⟨P, I, genF P Sh.prims⟩) (n)).1.1.1 (.ptr l o) (.ptr (.own k2) 0) h) fun u g => u = rV R ∧ Ext hs g) :
    Evt fun n => ∀ (hb : AHeap) (k2 : Nat), Ext hs hb → hs.next ≤ k2 → k2 < hb.next → (∀ g, Ext hb g → g.get k2 = some ⟨[Z 0, Z 0, Z 0], true⟩) → ∀ (h : AHeap), Ext hb h → Res ((f22.J I (AM.lim ⟨P, I, genF P Sh.prims⟩) (n)).1.1.2.1 (.ptr l o) (.ptr (.own k2) 0) (Z 0) h) fun u g => u = rV (if dc (AllL (paramsP q) q.funcs) = true then R else some noPt) ∧ Ext hs g := by
  have hq' := hq
  obtain ⟨_, ⟨vr, vs, vf, vi, vu, rfl, rm, sr, ss, sf, si, su⟩, hc⟩ := hq
  have lu := su.lt
  have key := Evt.loop' q.funcs (F := fun i n => ∀ (hb : AHeap) (k2 : Nat), Ext hs hb → hs.next ≤ k2 → k2 < hb.next → (∀ g, Ext hb g → g.get k2 = some ⟨[Z 0, Z 0, Z 0], true⟩) → ∀ (h : AHeap), Ext hb h → Res ((f22.J I (AM.lim ⟨P, I, genF P Sh.prims⟩) (n)).1.1.2.1 (.ptr l o) (.ptr (.own k2) 0) (.int .i64 i) h) fun u g => u = rV (if dc (AllL (paramsP q) (q.funcs.drop i)) = true then R else some noPt) ∧ Ext hs g)
    (Evt.step 8 next fun n nx hb k2 es lo2 hi2 hval h e => by
      have eb := es0.trans es; have hlo := e.lo; have hls := es.lo
      rw [f22.n1]; unfold f22.b1
      (repeat' (first | refine Rf (fun hF hG => ?_) (fun hF hG => ?_) | assumption | (show Ext _ _; exact Ext.go) | (simp only [AHeap.next_alloc, AHeap.next_set, AHeap.next_kill, AHeap.next_res] at hle hsame) | simp (disch := first | exact D.go | fail) [setR, List.getElem?_cons_zero, List.getElem?_cons_succ, hc.rd0, hc.rd1, hc.rd2, hc.rd3, hc.rd4, hc.rd5, sr.len, ss.len, sf.len, si.len, su.len, sr.self, ss.self, sf.self, si.self, su.self, *] | (refine Res.mono (nx _ (by omega) hb k2 es lo2 hi2 hval _ ?_) (fun u g hq => ?_); rotate_left; (obtain ⟨rfl, hq⟩ := hq); rotate_right))))
    (fun i f hf ih => by
      have hlt := lt_of_get hf; have hw := wrap_in (n := (i : Int) + 1) ⟨by omega, by omega⟩
      simp only [Int.natCast_add, Int.natCast_one] at ih
      obtain ⟨lf, of, hfi, ⟨cf, hfu, hfa⟩⟩ := su.at hf
      have hfu' := hfu
      obtain ⟨wr, wb, rfl, r0, swr, swb⟩ := hfu'
      have hsg := hN.sig f (List.mem_of_getElem? hf)
      obtain ⟨l5, o5, hz1, ⟨_, ⟨w5, rfl, sw5, q5, q6⟩, hz2⟩, _⟩ := ss.atI hsg.1 hsg.2 sg0
      have lwr := swr.lt
      rw [drop_of_get hf]
      have hpp : paramsP q f = preT f.regs (nth q.sigs f.sig sg0).params := rfl
      by_cases hle : (nth q.sigs f.sig sg0).params.length ≤ f.regs.length
      · have hnlt : ¬ (f.regs.length : Int) < (nth q.sigs f.sig sg0).params.length := by omega
        have inner := Evt.loop (nth q.sigs f.sig sg0).params (F := fun k n => ∀ (hb : AHeap) (k2 : Nat), Ext hs hb → hs.next ≤ k2 → k2 < hb.next → (∀ g, Ext hb g → g.get k2 = some ⟨[Z 0, Z 0, Z 0], true⟩) → ∀ (h : AHeap), Ext hb h → Res ((f22.J I (AM.lim ⟨P, I, genF P Sh.prims⟩) (n)).1.2.2.1 (.ptr l o) (.ptr (.own k2) 0) (.int .i64 i) w5 (.int .i64 k) h) fun u g =>
            u = rV (if (dc (preT (f.regs.drop k) ((nth q.sigs f.sig sg0).params.drop k)) && dc (AllL (paramsP q) (q.funcs.drop (i + 1)))) = true then R else some noPt) ∧ Ext hs g) 8
          (Evt.step 8 ih fun n ih hb k2 es lo2 hi2 hval h e => by
            have eb := es0.trans es; have hlo := e.lo; have hls := es.lo
            rw [f22.n5]; unfold f22.b5
            (repeat' (first | refine Rf (fun hF hG => ?_) (fun hF hG => ?_) | assumption | (show Ext _ _; exact Ext.go) | (simp only [AHeap.next_alloc, AHeap.next_set, AHeap.next_kill, AHeap.next_res] at hle hsame) | simp (disch := first | exact D.go | fail) [setR, List.getElem?_cons_zero, List.getElem?_cons_succ, f22.n3, f22.b3, sw5.len, hw, *] | (refine Res.mono (ih _ (by omega) hb k2 es lo2 hi2 hval _ ?_) (fun u g hq => ?_); rotate_left; (obtain ⟨rfl, hq⟩ := hq); rotate_right)))
            all_goals (simp only [List.drop_length, preT_nil, dc_true, Bool.true_and]))
          (fun k t n ht jh hb k2 es lo2 hi2 hval h e => by
            have eb := es0.trans es; have hlo := e.lo; have hls := es.lo
            have hltk := lt_of_get ht; have hwk := wrap_in (n := (k : Int) + 1) ⟨by omega, by omega⟩
            simp only [Int.natCast_add, Int.natCast_one] at jh
            obtain ⟨l6, o6, hk1, ⟨_, ⟨rfl, _, _⟩, hk2⟩⟩ := sw5.at ht
            have hk3 := fun g e => hk2.rds (n := 2) g e rfl (by omega)
            obtain ⟨y, hy⟩ : ∃ y, f.regs[k]? = some y := ⟨f.regs[k], List.getElem?_eq_getElem (by omega)⟩
            obtain ⟨l7, o7, hr1, ⟨_, ⟨rfl, _, _⟩, hr2⟩⟩ := swr.at hy
            have hr3 := fun g e => hr2.rds (n := 2) g e rfl (by omega)
            rw [drop_of_get ht, drop_of_get hy]
            rw [f22.n5]; unfold f22.b5
            (repeat' (first | refine Rf (fun hF hG => ?_) (fun hF hG => ?_) | assumption | (show Ext _ _; exact Ext.go) | (simp only [AHeap.next_alloc, AHeap.next_set, AHeap.next_kill, AHeap.next_res] at hle hsame) | simp (disch := first | exact D.go | fail) [setR, List.getElem?_cons_zero, List.getElem?_cons_succ, f22.n6, f22.b6, f22.n7, f22.b7, hval, hc.rd0, hc.rd1, hc.rd2, hc.rd3, hc.rd4, hc.rd5, sr.len, ss.len, sf.len, si.len, su.len, sr.self, ss.self, sf.self, si.self, su.self, sw5.len, hfi, hfa.rd1, hltk, hwk, hk1, hk3, hr1, hr3, preT, noPt_f, noPt_b, noPt_i, *] | (refine Ret.thn (h0 := hb) (req _ _ _) ?_ (fun g hg hlo hle hsame hx => ?_)) | (refine Ret.thn (h0 := hb) (rnowhere _) ?_ (fun g hg hlo hle hsame hx => ?_)) | (refine Res.mono (jh _ (by omega) hb k2 es lo2 hi2 hval _ ?_) (fun u g hq => ?_); rotate_left; (obtain ⟨rfl, hq⟩ := hq); rotate_right)))
            all_goals (simp only [dc_and, dc_of hF, Bool.true_and]))
          0 (by omega)
        refine Evt.step 8 inner fun n nx hb k2 es lo2 hi2 hval h e => ?_
        have eb := es0.trans es; have hlo := e.lo; have hls := es.lo
        rw [f22.n1]; unfold f22.b1
        (repeat' (first | refine Rf (fun hF hG => ?_) (fun hF hG => ?_) | assumption | (show Ext _ _; exact Ext.go) | (simp only [AHeap.next_alloc, AHeap.next_set, AHeap.next_kill, AHeap.next_res] at hle hsame) | simp (disch := first | exact D.go | fail) [setR, List.getElem?_cons_zero, List.getElem?_cons_succ, f22.n2, f22.b2, f22.n4, f22.b4, hval, hc.rd0, hc.rd1, hc.rd2, hc.rd3, hc.rd4, hc.rd5, sr.len, ss.len, sf.len, si.len, su.len, sr.self, ss.self, sf.self, si.self, su.self, swr.len, sw5.len, hfi, hfa.rd0, hfa.rd1, hz1, hz2.rd0, hlt, hnlt, hpp, *] | (refine Res.mono (nx _ (by omega) hb k2 es lo2 hi2 hval _ ?_) (fun u g hq => ?_); rotate_left; (obtain ⟨rfl, hq⟩ := hq); rotate_right)))
        all_goals (simp only [List.drop_zero, AllL_cons, hpp, dc_and])
      · have hlt2 : (f.regs.length : Int) < (nth q.sigs f.sig sg0).params.length := by omega
        have hno : ¬ preT f.regs (nth q.sigs f.sig sg0).params := fun h => hle (preT_len h)
        refine Evt.all 8 fun n hb k2 es lo2 hi2 hval h e => ?_
        have eb := es0.trans es; have hlo := e.lo; have hls := es.lo
        rw [f22.n1]; unfold f22.b1
        (repeat' (first | refine Rf (fun hF hG => ?_) (fun hF hG => ?_) | assumption | (show Ext _ _; exact Ext.go) | (simp only [AHeap.next_alloc, AHeap.next_set, AHeap.next_kill, AHeap.next_res] at hle hsame) | simp (disch := first | exact D.go | fail) [setR, List.getElem?_cons_zero, List.getElem?_cons_succ, f22.n2, f22.b2, f22.n4, f22.b4, hval, hc.rd0, hc.rd1, hc.rd2, hc.rd3, hc.rd4, hc.rd5, sr.len, ss.len, sf.len, si.len, su.len, sr.self, ss.self, sf.self, si.self, su.self, swr.len, sw5.len, hfi, hfa.rd0, hfa.rd1, hz1, hz2.rd0, hlt, hlt2, hpp, hno, noPt_f, noPt_b, noPt_i, *] | (refine Ret.thn (h0 := hb) (rnowhere _) ?_ (fun g hg hlo hle hsame hx => ?_)))))
    0 (by omega)
  obtain ⟨N, hN'⟩ := key
  refine ⟨N, fun n hn => ?_⟩
  have := hN' n hn
  simp only [List.drop_zero] at this
  exact this
theorem rTypes {l : AM.Loc} {o : Nat} {q : Pg} (hq : PgA I h0 l o q) (hN : NOk q) (hargs : ∀ x ∈ q.funcs, ∀ y ∈ x.blocks, y.code.length ≤ 1000000 ∧ ∀ z ∈ y.code, z.args.length ≤ 1000000) (hpl : (pgPts 0 q.funcs).length ≤ 1000000) (hs : AHeap) (es0 : Ext h0 hs) :
    Res ((AM.lim ⟨P, I, genF P Sh.prims⟩) 22 [.ptr l o] hs) fun u g => u = rV (checkS q) ∧ Ext hs g := by
  have p1 := rT_points hq hN hargs es0 hpl
  have hfp := find_pg (q := q) q.funcs 0 rfl
  rw [hfp] at p1
  have p0 : Evt fun n => ∀ (hb : AHeap) (k2 : Nat), Ext hs hb → hs.next ≤ k2 → k2 < hb.next → (∀ g, Ext hb g → g.get k2 = some ⟨[Z 0, Z 0, Z 0], true⟩) → ∀ (h : AHeap), Ext hb h → Res ((f22.J I (AM.lim ⟨P, I, genF P Sh.prims⟩) (n)).1.1.1 (.ptr l o) (.ptr (.own k2) 0) h) fun u g => u = rV (checkFrom q 0 q.funcs) ∧ Ext hs g :=
    Evt.step 8 p1 fun n nx hb k2 es lo2 hi2 hval h e => by
      have eb := es0.trans es; have hlo := e.lo; have hls := es.lo
      rw [f22.n0]; unfold f22.b0
      simp only [to_Bnd, to_kA, to_kC, to_kS]
      refine Res.after (rPoints hq hpl (fun f hf b hb => (hargs f hf b hb).1) h Ext.go) (fun u g hA => ?_)
      exact nx _ (by omega) g k2 (es.trans (e.trans hA.2)) lo2 (by have := hA.2.lo; omega) (fun g' e' => hval g' (e.trans (hA.2.trans e'))) u (hA.1.v hpl) g (Ext.refl g)
  obtain ⟨N, hN'⟩ := rT_params hq hN es0 _ p0
  refine f22.lim rfl (n := N) ?_
  unfold f22.e
  simp only [sAlloc_eq, to_Bnd, to_kA, to_kC, to_kS, Bnd_some]
  have := hN' N (by omega) (hs.alloc ⟨[Z 0, Z 0, Z 0], true⟩) hs.next (Ext.refl hs).alloc (Nat.le_refl _) (by simp) (fun g e => by rw [e.same _ (by simp)]; exact AHeap.alloc_at (Nb.o rfl)) _ (Ext.refl _)
  exact this
end
end
end Go.Proofs.YthihegmbdclikaaDoor.Tx

set_option linter.unusedSimpArgs false
set_option linter.unusedVariables false
namespace Go.Proofs.YthihegmbdclikaaDoor.Tx
noncomputable section
open Go.AM Go.Proofs.YthihegmbdclikaaDoor.Sf
section
variable {I : Inp}
theorem checkFrom_ge {q : Pg} {p : Pt} : ∀ (l : List Fu) (i : Nat), checkFrom q i l = some p → 0 ≤ p.f ∨ p = noPt
  | [], i, h => by
    unfold checkFrom at h
    split at h
    · cases h
    · cases h; exact .inr rfl
  | f :: r, i, h => by
    unfold checkFrom at h
    rw [Option.or_eq_some_iff] at h
    rcases h with h | ⟨_, h⟩
    · exact .inl (by rw [fuFrom_ge _ _ h]; omega)
    · exact checkFrom_ge r (i + 1) h
theorem checkS_ge {q : Pg} {p : Pt} (h : checkS q = some p) : 0 ≤ p.f ∨ p = noPt := by
  unfold checkS at h
  split at h
  · exact checkFrom_ge _ _ h
  · cases h; exact .inr rfl
theorem namesS_lists {q : Pg} (h : namesS q = none) : listsB q = true := by
  unfold namesS at h
  split at h
  · assumption
  · cases h
theorem lawCheck {l : AM.Loc} {o : Nat} {q : Pg} {hb : AHeap} (hq : PgA I hb l o q) : Res ((AM.lim ⟨P, I, genF P Sh.prims⟩) 8 [.ptr l o] hb) fun u _ => u = .bool true := by
  cases hB : boundsB q
  · refine f8.lim rfl (n := 5) ?_
    unfold f8.e
    (repeat' (first | refine Rf (fun hF hG => ?_) (fun hF hG => ?_) | assumption | (show Ext _ _; exact Ext.go) | (simp only [AHeap.next_alloc, AHeap.next_set, AHeap.next_kill, AHeap.next_res] at hle hsame) | simp (disch := first | exact D.go | fail) [setR, List.getElem?_cons_zero, List.getElem?_cons_succ, f8.n0, f8.b0, f8.n1, f8.b1, f8.n2, f8.b2, f8.n3, f8.b3, begun, hB, *] | (refine Ret.thn (h0 := hb) (rBounds hq _ Ext.go) ?_ (fun g hg hlo hle hsame hx => ?_))))
  · obtain ⟨ha, hl⟩ := bounds_facts hB
    refine f8.lim rfl (n := 5) ?_
    unfold f8.e
    (repeat' (first | refine Rf (fun hF hG => ?_) (fun hF hG => ?_) | assumption | (show Ext _ _; exact Ext.go) | (simp only [AHeap.next_alloc, AHeap.next_set, AHeap.next_kill, AHeap.next_res] at hle hsame) | simp (disch := first | exact D.go | fail) [setR, List.getElem?_cons_zero, List.getElem?_cons_succ, f8.n0, f8.b0, begun, hB, *] | (refine Ret.thn (h0 := hb) (rBounds hq _ Ext.go) ?_ (fun g hg hlo hle hsame hx => ?_)) | (refine Res.call (h0 := hb) (small_ends hq _ Ext.go) ?_ (fun u g hA hg hlo hle hsame hx => ?_))))
    obtain ⟨b, rfl⟩ := hA
    cases b
    · (repeat' (first | refine Rf (fun hF hG => ?_) (fun hF hG => ?_) | assumption | (show Ext _ _; exact Ext.go) | (simp only [AHeap.next_alloc, AHeap.next_set, AHeap.next_kill, AHeap.next_res] at hle hsame) | simp (disch := first | exact D.go | fail) [setR, List.getElem?_cons_zero, List.getElem?_cons_succ, f8.n0, f8.b0, f8.n1, f8.b1, f8.n2, f8.b2, f8.n3, f8.b3, *]))
    · cases hN : namesS q with
      | some p => (repeat' (first | refine Rf (fun hF hG => ?_) (fun hF hG => ?_) | assumption | (show Ext _ _; exact Ext.go) | (simp only [AHeap.next_alloc, AHeap.next_set, AHeap.next_kill, AHeap.next_res] at hle hsame) | simp (disch := first | exact D.go | fail) [setR, List.getElem?_cons_zero, List.getElem?_cons_succ, f8.n0, f8.b0, f8.n1, f8.b1, f8.n2, f8.b2, f8.n3, f8.b3, hN, *] | (refine Ret.thn (h0 := hb) (rNames hq _ Ext.go ha hl) ?_ (fun g hg hlo hle hsame hx => ?_))))
      | none =>
        have hn := NOk.of hN
        have hls := namesS_lists hN
        have hpl := pgPts_small hB
        cases hC : checkS q with
        | none =>
          have tC : ∀ h, Ext hb h → Ret ((AM.lim ⟨P, I, genF P Sh.prims⟩) 23 [.ptr l o] h) h .nili := fun h e => by
            have := tCheck hq hn hls h e
            rw [hC] at this
            exact this
          have rT := fun h e => rTypes hq hn ha hpl h e
          rw [hC] at rT
          (repeat' (first | refine Rf (fun hF hG => ?_) (fun hF hG => ?_) | assumption | (show Ext _ _; exact Ext.go) | (simp only [AHeap.next_alloc, AHeap.next_set, AHeap.next_kill, AHeap.next_res] at hle hsame) | simp (disch := first | exact D.go | fail) [setR, List.getElem?_cons_zero, List.getElem?_cons_succ, f8.n0, f8.b0, f8.n1, f8.b1, f8.n2, f8.b2, f8.n3, f8.b3, hN, noPt_f, noPt_b, noPt_i, *] | (refine Ret.thn (h0 := hb) (rNames hq _ Ext.go ha hl) ?_ (fun g hg hlo hle hsame hx => ?_)) | (refine Ret.thn (h0 := hb) (rT _ Ext.go) ?_ (fun g hg hlo hle hsame hx => ?_)) | (refine Ret.thn (h0 := hb) (tC _ Ext.go) ?_ (fun g hg hlo hle hsame hx => ?_))))
        | some p =>
          have tC : ∀ h, Ext hb h → Res ((AM.lim ⟨P, I, genF P Sh.prims⟩) 23 [.ptr l o] h) fun u g => ErrIs I g 4 p u ∧ Ext h g := fun h e => by
            have := tCheck hq hn hls h e
            rw [hC] at this
            exact this
          have rT := fun h e => rTypes hq hn ha hpl h e
          rw [hC] at rT
          (repeat' (first | refine Rf (fun hF hG => ?_) (fun hF hG => ?_) | assumption | (show Ext _ _; exact Ext.go) | (simp only [AHeap.next_alloc, AHeap.next_set, AHeap.next_kill, AHeap.next_res] at hle hsame) | simp (disch := first | exact D.go | fail) [setR, List.getElem?_cons_zero, List.getElem?_cons_succ, f8.n0, f8.b0, f8.n1, f8.b1, f8.n2, f8.b2, f8.n3, f8.b3, hN, noPt_f, noPt_b, noPt_i, *] | (refine Ret.thn (h0 := hb) (rNames hq _ Ext.go ha hl) ?_ (fun g hg hlo hle hsame hx => ?_)) | (refine Ret.thn (h0 := hb) (rT _ Ext.go) ?_ (fun g hg hlo hle hsame hx => ?_)) | (refine Res.call (h0 := hb) (tC _ Ext.go) ?_ (fun u g hA hg hlo hle hsame hx => ?_)) | (refine Ret.thn (h0 := hb) (says_err _ (hA.mono Ext.go) 4 p (by simp) rfl rfl (checkS_ge hC)) ?_ (fun g hg hlo hle hsame hx => ?_))))
theorem lawCheck_nil (hb : AHeap) : Res ((AM.lim ⟨P, I, genF P Sh.prims⟩) 8 [.nilp] hb) fun u _ => u = .bool true := by
  refine f8.lim rfl (n := 4) ?_
  unfold f8.e
  (repeat' (first | refine Rf (fun hF hG => ?_) (fun hF hG => ?_) | assumption | (show Ext _ _; exact Ext.go) | (simp only [AHeap.next_alloc, AHeap.next_set, AHeap.next_kill, AHeap.next_res] at hle hsame) | simp (disch := first | exact D.go | fail) [setR, List.getElem?_cons_zero, List.getElem?_cons_succ, f8.n0, f8.b0, f8.n1, f8.b1, f8.n2, f8.b2, f8.n3, f8.b3, begun, *] | (refine Ret.thn (h0 := hb) (rBounds_nil _) ?_ (fun g hg hlo hle hsame hx => ?_))))
end
end
end Go.Proofs.YthihegmbdclikaaDoor.Tx
