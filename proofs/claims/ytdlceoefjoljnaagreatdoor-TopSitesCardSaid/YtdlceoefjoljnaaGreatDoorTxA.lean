/- The orders by which the program sorts, and small: what each comes to; sorting by them. Conditions: as each lemma says. -/
import Derived.Test.YtdlceoefjoljnaaGreatDoorSgT
import Derived.Test.YtdlceoefjoljnaaGreatDoorAmZ
import Derived.Test.YtdlceoefjoljnaaGreatDoorSrt
import Derived.Test.YtdlceoefjoljnaaGreatDoorLib
set_option linter.unusedSimpArgs false
set_option linter.unusedVariables false
namespace Go.Proofs.YtdlceoefjoljnaaGreatDoor.Tx
noncomputable section
open Go.AM Go.Proofs.YtdlceoefjoljnaaGreatDoor.Sg
section
variable {I : Inp}
noncomputable def Sh0.prims (g : Nat) : Option AM.Prim := none
def cmpI (a b : Int) : Int := if a < b then -1 else if b < a then 1 else 0
def orI : List Int → Int
 | [] => 0
 | x :: r => if x = 0 then orI r else x
theorem lexC_cons (a b : Int) (x y : List Int) : lexC (a :: x) (b :: y) = if cmpI a b = 0 then lexC x y else cmpI a b := by
 unfold lexC cmpI
 simp only [lexLt_cons]
 by_cases h1 : a < b
 · simp [h1]
 · by_cases h2 : b < a
   · simp [h1, h2]
   · simp [h1, h2]
theorem lexC_nil : lexC [] [] = 0 := by simp [lexC, lexLt]
theorem rNaN (a : Int) (hb : AHeap) : Ret ((AM.lim ⟨P, I, genF P Sh0.prims⟩) 114 [.int .i64 a] hb) hb (.bool false) := by
 refine f114.lim rfl (n := 2) ?_
 unfold f114.e
 (repeat' (first | refine Rf (fun hF hG => ?_) (fun hF hG => ?_) | assumption | (show Ext _ _; exact Ext.go) | (simp only [AHeap.next_alloc, AHeap.next_set, AHeap.next_kill, AHeap.next_res] at hle hsame) | simp (disch := first | exact D.go | fail) [setR, List.getElem?_cons_zero, List.getElem?_cons_succ, setR, *]))
theorem tCompare (a b : Int) (hb : AHeap) : Ret ((AM.lim ⟨P, I, genF P Sh0.prims⟩) 63 [.int .i64 a, .int .i64 b] hb) hb (.int .i64 (cmpI a b)) := by
 refine f63.lim rfl (n := 6) ?_
 unfold f63.e
 (repeat' (first | refine Rf (fun hF hG => ?_) (fun hF hG => ?_) | assumption | (show Ext _ _; exact Ext.go) | (simp only [AHeap.next_alloc, AHeap.next_set, AHeap.next_kill, AHeap.next_res] at hle hsame) | simp (disch := first | exact D.go | fail) [setR, List.getElem?_cons_zero, List.getElem?_cons_succ, f63.n0, f63.b0, f63.n1, f63.b1, f63.n2, f63.b2, f63.n3, f63.b3, f63.n4, f63.b4, cmpI, *] | (refine Ret.thn (h0 := hb) (rNaN _ _) ?_ (fun g hg hlo hle hsame hx => ?_))))
theorem tOr (L : List Int) {n : Nat} (hn : L.length = n) (hL : n ≤ 1000) (k : Nat) (c : AM.Cap) (hb : AHeap) (hkl : AHeap.Le (k + 1) hb.next) (hk : hb.get k = some ⟨L.map (.int .i64), true⟩) : Ret ((AM.lim ⟨P, I, genF P Sh0.prims⟩) 62 [.sl (.own k) 0 n c] hb) hb (.int .i64 (orI L)) := by
 have hkl' : k < hb.next := hkl
 clear hkl
 obtain ⟨N, hN⟩ := Evt.loop L (F := fun i n' => ∀ h, Ext hb h → Res ((f62.J I (AM.lim ⟨P, I, genF P Sh0.prims⟩) (n')).1.2 (Z 0) (.sl (.own k) 0 n c) (.int .i64 n) (.int .i64 (i : Int)) h) fun u g => u = .int .i64 (orI (L.drop i)) ∧ Ext hb g) 5
  (Evt.all 5 fun m h e => by
   rw [f62.n1]; unfold f62.b1
   clear hk
   have hd : L.drop n = [] := List.drop_of_length_le (by omega)
   (repeat' (first | refine Rf (fun hF hG => ?_) (fun hF hG => ?_) | assumption | (show Ext _ _; exact Ext.go) | (simp only [AHeap.next_alloc, AHeap.next_set, AHeap.next_kill, AHeap.next_res] at hle hsame) | simp (disch := first | exact D.go | fail) [setR, List.getElem?_cons_zero, List.getElem?_cons_succ, f62.n0, f62.b0, f62.n2, f62.b2, f62.n3, f62.b3, orI, hn, hd, *])))
  (fun i x m hx ih h e => by
   have hi := pIndexAddr_sl (sz := 1) (l := .own k) (o := 0) (c := c) (k := .i64) (j := i) (n := n) (by rw [← hn]; exact lt_of_get hx)
   have hld : rd I h (.own k) (0 + i * 1) = some (.int .i64 x) := by
    simp only [rd, e.same k hkl', hk]; simp [hx]
   have hlt := lt_of_get hx; have hw := wrap_in (n := (i : Int) + 1) ⟨by omega, by omega⟩; simp only [Int.natCast_add, Int.natCast_one] at ih; rw [drop_of_get hx]; have hlo := e.lo
   have hlt' : i < n := by omega
   rw [f62.n1]; unfold f62.b1
   clear hk hx
   simp only [Nat.zero_add, Nat.mul_one] at hi hld
   (repeat' (first | refine Rf (fun hF hG => ?_) (fun hF hG => ?_) | assumption | (show Ext _ _; exact Ext.go) | (simp only [AHeap.next_alloc, AHeap.next_set, AHeap.next_kill, AHeap.next_res] at hle hsame) | simp (disch := first | exact D.go | fail) [setR, List.getElem?_cons_zero, List.getElem?_cons_succ, f62.n0, f62.b0, f62.n2, f62.b2, f62.n3, f62.b3, hi, hld, hw, orI, *] | (refine Res.mono (ih _ (by omega) _ ?_) (fun u g hq => ?_); rotate_left; (obtain ⟨rfl, hq⟩ := hq); rotate_right))))
  0 (by omega)
 refine f62.lim rfl (n := N) ?_
 unfold f62.e
 (repeat' (first | refine Rf (fun hF hG => ?_) (fun hF hG => ?_) | assumption | (show Ext _ _; exact Ext.go) | (simp only [AHeap.next_alloc, AHeap.next_set, AHeap.next_kill, AHeap.next_res] at hle hsame) | simp (disch := first | exact D.go | fail) [setR, List.getElem?_cons_zero, List.getElem?_cons_succ, setR, *] | (refine Res.mono (hN _ (Nat.le_refl _) _ ?_) (fun u g hq => ?_); rotate_left; (obtain ⟨rfl, hq⟩ := hq); rotate_right)))
theorem tAlarm (a b c d : Int) (hb : AHeap) : Ret ((AM.lim ⟨P, I, genF P Sh0.prims⟩) 61 [.agg [.int .i64 a, .int .i64 b], .agg [.int .i64 c, .int .i64 d]] hb) hb (.int .i64 (orI [cmpI a c, cmpI b d])) := by
 refine f61.lim rfl (n := 9) ?_
 unfold f61.e
 (repeat' (first | refine Rf (fun hF hG => ?_) (fun hF hG => ?_) | assumption | (show Ext _ _; exact Ext.go) | (simp only [AHeap.next_alloc, AHeap.next_set, AHeap.next_kill, AHeap.next_res] at hle hsame) | simp (disch := first | exact D.go | fail) [setR, List.getElem?_cons_zero, List.getElem?_cons_succ, setR, *] | (refine Ret.thn (h0 := hb) (tCompare _ _ _) ?_ (fun g hg hlo hle hsame hx => ?_)) | (refine Ret.thn (h0 := hb) (tOr [cmpI a c, cmpI b d] rfl (by simp) _ _ _ (Nb.go) (AHeap.alloc_at (Nb.o rfl))) ?_ (fun g hg hlo hle hsame hx => ?_))))
theorem tEdge (a b c d : Int) (hb : AHeap) : Ret ((AM.lim ⟨P, I, genF P Sh0.prims⟩) 100 [.agg [.int .i64 a, .int .i64 b], .agg [.int .i64 c, .int .i64 d]] hb) hb (.int .i64 (orI [cmpI a c, cmpI b d])) := by
 refine f100.lim rfl (n := 9) ?_
 unfold f100.e
 (repeat' (first | refine Rf (fun hF hG => ?_) (fun hF hG => ?_) | assumption | (show Ext _ _; exact Ext.go) | (simp only [AHeap.next_alloc, AHeap.next_set, AHeap.next_kill, AHeap.next_res] at hle hsame) | simp (disch := first | exact D.go | fail) [setR, List.getElem?_cons_zero, List.getElem?_cons_succ, setR, *] | (refine Ret.thn (h0 := hb) (tCompare _ _ _) ?_ (fun g hg hlo hle hsame hx => ?_)) | (refine Ret.thn (h0 := hb) (tOr [cmpI a c, cmpI b d] rfl (by simp) _ _ _ (Nb.go) (AHeap.alloc_at (Nb.o rfl))) ?_ (fun g hg hlo hle hsame hx => ?_))))
theorem tCellM (a b c d : Int) (hb : AHeap) : Ret ((AM.lim ⟨P, I, genF P Sh0.prims⟩) 230 [.agg [.int .i64 a, .int .i64 b], .agg [.int .i64 c, .int .i64 d]] hb) hb (.int .i64 (orI [cmpI a c, cmpI b d])) := by
 refine f230.lim rfl (n := 9) ?_
 unfold f230.e
 (repeat' (first | refine Rf (fun hF hG => ?_) (fun hF hG => ?_) | assumption | (show Ext _ _; exact Ext.go) | (simp only [AHeap.next_alloc, AHeap.next_set, AHeap.next_kill, AHeap.next_res] at hle hsame) | simp (disch := first | exact D.go | fail) [setR, List.getElem?_cons_zero, List.getElem?_cons_succ, setR, *] | (refine Ret.thn (h0 := hb) (tCompare _ _ _) ?_ (fun g hg hlo hle hsame hx => ?_)) | (refine Ret.thn (h0 := hb) (tOr [cmpI a c, cmpI b d] rfl (by simp) _ _ _ (Nb.go) (AHeap.alloc_at (Nb.o rfl))) ?_ (fun g hg hlo hle hsame hx => ?_))))
theorem tCellR (a b c d : Int) (hb : AHeap) : Ret ((AM.lim ⟨P, I, genF P Sh0.prims⟩) 313 [.agg [.int .i64 a, .int .i64 b], .agg [.int .i64 c, .int .i64 d]] hb) hb (.int .i64 (orI [cmpI a c, cmpI b d])) := by
 refine f313.lim rfl (n := 9) ?_
 unfold f313.e
 (repeat' (first | refine Rf (fun hF hG => ?_) (fun hF hG => ?_) | assumption | (show Ext _ _; exact Ext.go) | (simp only [AHeap.next_alloc, AHeap.next_set, AHeap.next_kill, AHeap.next_res] at hle hsame) | simp (disch := first | exact D.go | fail) [setR, List.getElem?_cons_zero, List.getElem?_cons_succ, setR, *] | (refine Ret.thn (h0 := hb) (tCompare _ _ _) ?_ (fun g hg hlo hle hsame hx => ?_)) | (refine Ret.thn (h0 := hb) (tOr [cmpI a c, cmpI b d] rfl (by simp) _ _ _ (Nb.go) (AHeap.alloc_at (Nb.o rfl))) ?_ (fun g hg hlo hle hsame hx => ?_))))
abbrev v5 (a b c d e : Int) : AVal := .agg [.int .i64 a, .int .i64 b, .int .i64 c, .int .i64 d, .int .i64 e]
theorem tPlace (a b c d e a' b' c' d' e' : Int) (hb : AHeap) : Ret ((AM.lim ⟨P, I, genF P Sh0.prims⟩) 87 [v5 a b c d e, v5 a' b' c' d' e'] hb) hb (.int .i64 (orI [cmpI a a', cmpI b b', cmpI c c', cmpI d d', cmpI e e'])) := by
 refine f87.lim rfl (n := 9) ?_
 unfold f87.e
 (repeat' (first | refine Rf (fun hF hG => ?_) (fun hF hG => ?_) | assumption | (show Ext _ _; exact Ext.go) | (simp only [AHeap.next_alloc, AHeap.next_set, AHeap.next_kill, AHeap.next_res] at hle hsame) | simp (disch := first | exact D.go | fail) [setR, List.getElem?_cons_zero, List.getElem?_cons_succ, setR, *] | (refine Ret.thn (h0 := hb) (tCompare _ _ _) ?_ (fun g hg hlo hle hsame hx => ?_)) | (refine Ret.thn (h0 := hb) (tOr [cmpI a a', cmpI b b', cmpI c c', cmpI d d', cmpI e e'] rfl (by simp) _ _ _ (Nb.go) (AHeap.alloc_at (Nb.o rfl))) ?_ (fun g hg hlo hle hsame hx => ?_))))
theorem tLess (a b c d e a' b' c' d' e' : Int) (hb : AHeap) : Ret ((AM.lim ⟨P, I, genF P Sh0.prims⟩) 254 [v5 a b c d e, v5 a' b' c' d' e'] hb) hb (.bool (dc (orI [cmpI a a', cmpI b b', cmpI c c', cmpI d d', cmpI e e'] < 0))) := by
 refine f254.lim rfl (n := 9) ?_
 unfold f254.e
 (repeat' (first | refine Rf (fun hF hG => ?_) (fun hF hG => ?_) | assumption | (show Ext _ _; exact Ext.go) | (simp only [AHeap.next_alloc, AHeap.next_set, AHeap.next_kill, AHeap.next_res] at hle hsame) | simp (disch := first | exact D.go | fail) [setR, List.getElem?_cons_zero, List.getElem?_cons_succ, setR, *] | (refine Ret.thn (h0 := hb) (tPlace _ _ _ _ _ _ _ _ _ _ _) ?_ (fun g hg hlo hle hsame hx => ?_))))
theorem orI_neg (a b c d e a' b' c' d' e' : Int) : orI [cmpI a a', cmpI b b', cmpI c c', cmpI d d', cmpI e e'] = lexC [a, b, c, d, e] [a', b', c', d', e'] := by
 simp only [lexC_cons, lexC_nil, orI]
theorem tSort1 (a b c d e a' b' c' d' e' : Int) (hb : AHeap) : Ret ((AM.lim ⟨P, I, genF P Sh0.prims⟩) 253 [v5 a b c d e, v5 a' b' c' d' e'] hb) hb (.int .i64 (if orI [cmpI a a', cmpI b b', cmpI c c', cmpI d d', cmpI e e'] < 0 then -1 else if orI [cmpI a' a, cmpI b' b, cmpI c' c, cmpI d' d, cmpI e' e] < 0 then 1 else 0)) := by
 refine f253.lim rfl (n := 9) ?_
 unfold f253.e
 generalize hx : orI [cmpI a a', cmpI b b', cmpI c c', cmpI d d', cmpI e e'] = x
 generalize hy : orI [cmpI a' a, cmpI b' b, cmpI c' c, cmpI d' d, cmpI e' e] = y
 have h1 := fun h => tLess (I := I) a b c d e a' b' c' d' e' h
 have h2 := fun h => tLess (I := I) a' b' c' d' e' a b c d e h
 simp only [hx, hy] at h1 h2
 clear hx hy
 (repeat' (first | refine Rf (fun hF hG => ?_) (fun hF hG => ?_) | assumption | (show Ext _ _; exact Ext.go) | (simp only [AHeap.next_alloc, AHeap.next_set, AHeap.next_kill, AHeap.next_res] at hle hsame) | simp (disch := first | exact D.go | fail) [setR, List.getElem?_cons_zero, List.getElem?_cons_succ, f253.n0, f253.b0, *] | (refine Ret.thn (h0 := hb) (h1 _) ?_ (fun g hg hlo hle hsame hx => ?_)) | (refine Ret.thn (h0 := hb) (h2 _) ?_ (fun g hg hlo hle hsame hx => ?_))))
def smallI (n k : Int) : Int := if n.tmod k < 0 then IntKind.i64.wrap (0 - n.tmod k) else n.tmod k
theorem tSmall (n k : Int) (hk : k ≠ 0) (hb : AHeap) : Res ((AM.lim ⟨P, I, genF P Sh0.prims⟩) 22 [.int .i64 n, .int .i64 k] hb) fun v g => v = .int .i64 (smallI n k) ∧ g = hb := by
 have hr : pBin .rem (.int .i64 n) (.int .i64 k) = some (.int .i64 (n.tmod k)) := by
  show (if k = 0 then none else some (AVal.int .i64 (n.tmod k))) = _
  rw [if_neg hk]
 have hn : ∀ m : Int, pUn .neg (.int .i64 m) = some (.int .i64 (IntKind.i64.wrap (0 - m))) := fun _ => rfl
 refine f22.lim rfl (n := 3) ?_
 unfold f22.e
 generalize hm : n.tmod k = m at *
 (repeat' (first | refine Rf (fun hF hG => ?_) (fun hF hG => ?_) | assumption | (show Ext _ _; exact Ext.go) | (simp only [AHeap.next_alloc, AHeap.next_set, AHeap.next_kill, AHeap.next_res] at hle hsame) | simp (disch := first | exact D.go | fail) [setR, List.getElem?_cons_zero, List.getElem?_cons_succ, f22.n0, f22.b0, hr, hn, smallI, *]))
end
end
end Go.Proofs.YtdlceoefjoljnaaGreatDoor.Tx

set_option linter.unusedSimpArgs false
set_option linter.unusedVariables false
namespace Go.Proofs.YtdlceoefjoljnaaGreatDoor.Tx
noncomputable section
open Go.AM Go.RowKit Go.Proofs.YtdlceoefjoljnaaGreatDoor.Sg
theorem mixed : P.follows .mixedOrders = true := by kernel_rfl
theorem names : P.funcs.toList.all (fun f => f.name != "runtime.NumGoroutine") = true := by kernel_rfl
theorem two (x : El 2) : ∃ a b, x.1 = [a, b] := by
 obtain ⟨l, h⟩ := x
 match l, h with
 | [a, b], _ => exact ⟨a, b, rfl⟩
theorem five (x : El 5) : ∃ a b c d e, x.1 = [a, b, c, d, e] := by
 obtain ⟨l, h⟩ := x
 match l, h with
 | [a, b, c, d, e], _ => exact ⟨a, b, c, d, e, rfl⟩
theorem lay2 {g : Nat} (henter : ∀ args w, (callFunc g args).run P w = .ok (.enter g args) w) (h : ∀ (I : Inp) (a b c d : Int) (hb : AHeap), Ret ((AM.lim ⟨P, I, genF P Sh0.prims⟩) g [.agg [.int .i64 a, .int .i64 b], .agg [.int .i64 c, .int .i64 d]] hb) hb (.int .i64 (orI [cmpI a c, cmpI b d]))) (blk off size : Nat) (w : World) :
 Go.Proofs.CmpLays P g #[] (elEnc 2) 2 (elC 2) blk off size w :=
 cmpLays_of mixed names henter (fun x y => by
  obtain ⟨a, b, hx⟩ := two x
  obtain ⟨c, d, hy⟩ := two y
  obtain ⟨v, h', e, rfl, _⟩ := h (fun _ _ => none) a b c d ⟨.nil, 0⟩
  refine ⟨h', ?_⟩
  rw [show elC 2 x y = orI [cmpI a c, cmpI b d] by unfold elC; rw [hx, hy]; simp only [lexC_cons, lexC_nil, orI], hx, hy]
  exact e) blk off size w
theorem lay5 {g : Nat} (henter : ∀ args w, (callFunc g args).run P w = .ok (.enter g args) w) (h : ∀ (I : Inp) (a b c d e a' b' c' d' e' : Int) (hb : AHeap), Ret ((AM.lim ⟨P, I, genF P Sh0.prims⟩) g [v5 a b c d e, v5 a' b' c' d' e'] hb) hb (.int .i64 (lexC [a, b, c, d, e] [a', b', c', d', e']))) (blk off size : Nat) (w : World) :
 Go.Proofs.CmpLays P g #[] (elEnc 5) 5 (elC 5) blk off size w :=
 cmpLays_of mixed names henter (fun x y => by
  obtain ⟨a, b, c, d, e, hx⟩ := five x
  obtain ⟨a', b', c', d', e', hy⟩ := five y
  obtain ⟨v, h', he, rfl, _⟩ := h (fun _ _ => none) a b c d e a' b' c' d' e' ⟨.nil, 0⟩
  refine ⟨h', ?_⟩
  rw [show elC 5 x y = lexC [a, b, c, d, e] [a', b', c', d', e'] by unfold elC; rw [hx, hy], hx, hy]
  exact he) blk off size w
theorem lexC_by (x y : List Int) : (if lexC x y < 0 then (-1 : Int) else if lexC y x < 0 then 1 else 0) = lexC x y := by
 have h1 := lexC_neg x y
 have h2 := lexC_neg y x
 by_cases a : lexC x y < 0
 · rw [if_pos a]
   have : lexLt x y = true := by rw [← h1]; simpa using a
   unfold lexC; rw [if_pos this]
 · have c : lexLt x y = false := by rw [← h1]; simpa using a
   rw [if_neg a]
   by_cases b : lexC y x < 0
   · rw [if_pos b]
     have : lexLt y x = true := by rw [← h2]; simpa using b
     unfold lexC; rw [c, this]; rfl
   · rw [if_neg b]
     have : lexLt y x = false := by rw [← h2]; simpa using b
     unfold lexC; rw [c, this]; rfl
theorem enter (g : Nat) (h : ((P.funcs[g]?).any fun fn => fn.name != "runtime.NumGoroutine" && fn.body.isSome) = true) (args : Array Value) (w : World) : (callFunc g args).run P w = .ok (.enter g args) w := enter_code h args w
theorem lay_alarm (blk off size : Nat) (w : World) : Go.Proofs.CmpLays P 61 #[] (elEnc 2) 2 (elC 2) blk off size w := lay2 (enter _ (by kernel_rfl)) (fun I => tAlarm) blk off size w
theorem lay_edge (blk off size : Nat) (w : World) : Go.Proofs.CmpLays P 100 #[] (elEnc 2) 2 (elC 2) blk off size w := lay2 (enter _ (by kernel_rfl)) (fun I => tEdge) blk off size w
theorem lay_cellM (blk off size : Nat) (w : World) : Go.Proofs.CmpLays P 230 #[] (elEnc 2) 2 (elC 2) blk off size w := lay2 (enter _ (by kernel_rfl)) (fun I => tCellM) blk off size w
theorem lay_cellR (blk off size : Nat) (w : World) : Go.Proofs.CmpLays P 313 #[] (elEnc 2) 2 (elC 2) blk off size w := lay2 (enter _ (by kernel_rfl)) (fun I => tCellR) blk off size w
theorem lay_place (blk off size : Nat) (w : World) : Go.Proofs.CmpLays P 87 #[] (elEnc 5) 5 (elC 5) blk off size w := lay5 (enter _ (by kernel_rfl)) (fun I a b c d e a' b' c' d' e' hb => by
 have := tPlace (I := I) a b c d e a' b' c' d' e' hb
 rw [orI_neg] at this; exact this) blk off size w
theorem lay_sort1 (blk off size : Nat) (w : World) : Go.Proofs.CmpLays P 253 #[] (elEnc 5) 5 (elC 5) blk off size w := lay5 (enter _ (by kernel_rfl)) (fun I a b c d e a' b' c' d' e' hb => by
 have := tSort1 (I := I) a b c d e a' b' c' d' e' hb
 rw [orI_neg, orI_neg, lexC_by] at this; exact this) blk off size w
section
variable [AM.Sig] {W : World}
theorem sort_alarm : CallOk1 P W (sortP 2 [61]) 60 :=
 sortP_ok (by decide) (enter _ (by kernel_rfl)) (fun p cap fv w => Go.Proofs.AnyF.slices_SortFunc_none Tryz.sort60 p cap fv w) fun g hg blk off cap d w hH hblk hsz => by
  obtain rfl := List.mem_singleton.1 hg
  exact Go.Proofs.AnyQ.slices_SortFunc Tryz.sort60 2 Tryz.isAgg55 Tryz.sizeOf55 (elEnc 2) (elEnc_len 2) (elEnc_one 2) (elC 2) (el_swo 2) _ #[] blk off cap d w (enter _ (by kernel_rfl)) (lay_alarm _ _ _ _) hH hblk hsz
theorem sort_edge : CallOk1 P W (sortP 2 [100]) 99 :=
 sortP_ok (by decide) (enter _ (by kernel_rfl)) (fun p cap fv w => Go.Proofs.AnyF.slices_SortFunc_none Tryz.sort99 p cap fv w) fun g hg blk off cap d w hH hblk hsz => by
  obtain rfl := List.mem_singleton.1 hg
  exact Go.Proofs.AnyQ.slices_SortFunc Tryz.sort99 2 Tryz.isAgg84 Tryz.sizeOf84 (elEnc 2) (elEnc_len 2) (elEnc_one 2) (elC 2) (el_swo 2) _ #[] blk off cap d w (enter _ (by kernel_rfl)) (lay_edge _ _ _ _) hH hblk hsz
theorem sort_cell : CallOk1 P W (sortP 2 [230, 313]) 229 :=
 sortP_ok (by decide) (enter _ (by kernel_rfl)) (fun p cap fv w => Go.Proofs.AnyF.slices_SortFunc_none Tryz.sort229 p cap fv w) fun g hg blk off cap d w hH hblk hsz => by
  have hc : Go.Proofs.CmpLays P g #[] (elEnc 2) 2 (elC 2) blk off d.size w ∧ ∀ args w, (callFunc g args).run P w = .ok (.enter g args) w := by
   rw [List.mem_cons, List.mem_singleton] at hg
   rcases hg with rfl | rfl
   · exact ⟨lay_cellM _ _ _ _, enter _ (by kernel_rfl)⟩
   · exact ⟨lay_cellR _ _ _ _, enter _ (by kernel_rfl)⟩
  exact Go.Proofs.AnyQ.slices_SortFunc Tryz.sort229 2 Tryz.isAgg161 Tryz.sizeOf161 (elEnc 2) (elEnc_len 2) (elEnc_one 2) (elC 2) (el_swo 2) _ #[] blk off cap d w hc.2 hc.1 hH hblk hsz
theorem sort_place : CallOk1 P W (sortP 5 [87, 253]) 86 :=
 sortP_ok (by decide) (enter _ (by kernel_rfl)) (fun p cap fv w => Go.Proofs.AnyF.slices_SortFunc_none Tryz.sort86 p cap fv w) fun g hg blk off cap d w hH hblk hsz => by
  have hc : Go.Proofs.CmpLays P g #[] (elEnc 5) 5 (elC 5) blk off d.size w ∧ ∀ args w, (callFunc g args).run P w = .ok (.enter g args) w := by
   rw [List.mem_cons, List.mem_singleton] at hg
   rcases hg with rfl | rfl
   · exact ⟨lay_place _ _ _ _, enter _ (by kernel_rfl)⟩
   · exact ⟨lay_sort1 _ _ _ _, enter _ (by kernel_rfl)⟩
  exact Go.Proofs.AnyQ.slices_SortFunc Tryz.sort86 5 Tryz.isAgg163 Tryz.sizeOf163 (elEnc 5) (elEnc_len 5) (elEnc_one 5) (elC 5) (el_swo 5) _ #[] blk off cap d w hc.2 hc.1 hH hblk hsz
theorem dele : CallOk1 P W delP 128 :=
 delP_ok (enter _ (by kernel_rfl)) (fun a c w => Tryz.slices_Delete_int_empty a c w) fun blk off cap i j zs w hH h1 h2 h3 h4 => Tryz.slices_Delete_int blk off cap i j zs w hH h1 h2 h3 h4
theorem small_ok {l : List (List Int × Int × Int)} (hl : ∀ e ∈ l, e.2.1 ≠ 0 ∧ smallI (IntKind.i64.wrap (dotFrom e.1 0)) e.2.1 = e.2.2) : CallOk1 P W (pickP l) 22 :=
 pickP_ok (lim_ok (I := fun _ _ => none) mixed names (noInp W) (prims := Sh0.prims) (fun g p hp => by cases hp) _) (fun n k h hk => by
  obtain ⟨v, h', e, rfl, rfl⟩ := tSmall (I := fun _ _ => none) n k hk h
  exact e) hl
end
end
end Go.Proofs.YtdlceoefjoljnaaGreatDoor.Tx
