/- AM, part 27: symbolic runs: rules for simp, forks, calls; what came in or was made, by addresses. Conditions: as each lemma says. -/
import Derived.Test.YthihegmbdclikaaDoorAmFin
namespace Go.AM
noncomputable section
open Go.RowKit
universe u

/-- An answer there is, and .. of it holds. -/
def Res (r : Rs) (Q : AVal → AHeap → Prop) : Prop := ∃ v h', r = some (v, h') ∧ Q v h'
/-- (no rewriting by unfolding: the kernel would run the code) -/
theorem nrfl {α : Sort u} {a : α} : a = a := Eq.refl a
/-! What follows, where simp does not look. -/
class KtP where
  k : AVal → Rs
class KtS where
  k : AVal → AHeap → Rs
class ThR where
  r : Rs
def BndP (r : Option AVal) [c : KtP] : Rs := bndP r c.k
def Bnd (r : Rs) [c : KtS] : Rs := bnd r c.k
def Cond (c : AVal) [e : ThR] [t : ThR] : Rs := sCond c e.r t.r
/-- Either way. -/
def Fork (p : Prop) [a : ThR] [b : ThR] : Rs := @ite _ p (Classical.propDecidable p) a.r b.r
@[simp↓] theorem to_BndP (r : Option AVal) (k : AVal → Rs) : bndP r k = @BndP r ⟨k⟩ := nrfl
@[simp↓] theorem to_Bnd (r : Rs) (k : AVal → AHeap → Rs) : bnd r k = @Bnd r ⟨k⟩ := nrfl
@[simp↓] theorem to_Cond (c : AVal) (e t : Rs) : sCond c e t = @Cond c ⟨e⟩ ⟨t⟩ := nrfl

section
variable {P : Program} {I : Inp} {h : AHeap} {α : Type}

@[simp] theorem Res_some {v : AVal} {Q : AVal → AHeap → Prop} : Res (some (v, h)) Q ↔ Q v h :=
  ⟨fun ⟨_, _, e, hq⟩ => by cases e; exact hq, fun hq => ⟨_, _, rfl, hq⟩⟩
theorem Res.mono {r : Rs} {Q Q' : AVal → AHeap → Prop} (hr : Res r Q) (hq : ∀ v h, Q v h → Q' v h) : Res r Q' :=
  let ⟨v, h', e, q⟩ := hr; ⟨v, h', e, hq _ _ q⟩
theorem Res.thn {r : Rs} {k : AVal → AHeap → Rs} {Q : AVal → AHeap → Prop} (hr : Res r fun v h' => Res (k v h') Q) : Res (bnd r k) Q := by
  obtain ⟨v, h', e, q⟩ := hr
  rw [e]; exact q
theorem Res.eq {r : Rs} {v : AVal} {h' : AHeap} (hr : Res r fun u g => u = v ∧ g = h') : r = some (v, h') := by
  obtain ⟨_, _, e, rfl, rfl⟩ := hr; exact e
theorem Res.of_eq {r : Rs} {v : AVal} {h' : AHeap} {Q : AVal → AHeap → Prop} (e : r = some (v, h')) (q : Q v h') : Res r Q := ⟨v, h', e, q⟩
theorem Res_fork {p : Prop} {a b : Rs} {Q : AVal → AHeap → Prop} (ha : p → Res a Q) (hb : ¬ p → Res b Q) : Res (@Fork p ⟨a⟩ ⟨b⟩) Q := by
  unfold Fork
  split
  · exact ha ‹_›
  · exact hb ‹_›
@[simp] theorem Fork_true (a b : Rs) : @Fork True ⟨a⟩ ⟨b⟩ = a := if_pos trivial
@[simp] theorem Fork_false (a b : Rs) : @Fork False ⟨a⟩ ⟨b⟩ = b := if_neg id
@[simp] theorem Fork_not (p : Prop) (a b : Rs) : @Fork (¬ p) ⟨a⟩ ⟨b⟩ = @Fork p ⟨b⟩ ⟨a⟩ := by
  unfold Fork
  by_cases hp : p <;> simp [hp]

/-- Of all counts from some on. -/
def Evt (F : Nat → Prop) : Prop := ∃ N, ∀ n, N ≤ n → F n
theorem Evt.shift {F : Nat → Prop} (c : Nat) (hf : ∃ N, ∀ m, N ≤ m → F (m + c)) : Evt F := by
  obtain ⟨N, hN⟩ := hf
  exact ⟨N + c, fun n hn => by have := hN (n - c) (by omega); rwa [show n - c + c = n by omega] at this⟩
theorem Evt.all {F : Nat → Prop} (c : Nat) (hf : ∀ m, F (m + c)) : Evt F := Evt.shift c ⟨0, fun m _ => hf m⟩
theorem Evt.step {F G : Nat → Prop} (c : Nat) (hg : Evt G) (hf : ∀ m, (∀ n, m ≤ n → G n) → F (m + c)) : Evt F := by
  obtain ⟨N, hN⟩ := hg
  exact Evt.shift c ⟨N, fun m hm => hf m fun n hn => hN n (Nat.le_trans hm hn)⟩

/-- A loop over a list, by the place it stands at. -/
theorem Evt.loop {α : Type} (xs : List α) {F : Nat → Nat → Prop} (c : Nat) (hend : Evt (F xs.length)) (hstep : ∀ i x n, xs[i]? = some x → (∀ m, n ≤ m → F (i + 1) m) → F i (n + c)) (i : Nat) (hi : i ≤ xs.length) : Evt (F i) := by
  have key : ∀ d i, xs.length = i + d → Evt (F i) := by
    intro d
    induction d with
    | zero => intro i hi; obtain rfl : i = xs.length := by omega
              exact hend
    | succ d ih =>
      intro i hi
      have hlt : i < xs.length := by omega
      exact Evt.step c (ih (i + 1) (by omega)) fun m hm => hstep i xs[i] m (List.getElem?_eq_getElem hlt) hm
  exact key (xs.length - i) i (by omega)
/-- .. whose rounds hold loops of their own. -/
theorem Evt.loop' {α : Type} (xs : List α) {F : Nat → Nat → Prop} (hend : Evt (F xs.length)) (hstep : ∀ i x, xs[i]? = some x → Evt (F (i + 1)) → Evt (F i)) (i : Nat) (hi : i ≤ xs.length) : Evt (F i) := by
  have key : ∀ d i, xs.length = i + d → Evt (F i) := by
    intro d
    induction d with
    | zero => intro i hi; obtain rfl : i = xs.length := by omega
              exact hend
    | succ d ih =>
      intro i hi
      have hlt : i < xs.length := by omega
      exact hstep i xs[i] (List.getElem?_eq_getElem hlt) (ih (i + 1) (by omega))
  exact key (xs.length - i) i (by omega)
theorem drop_of_get {α : Type} {xs : List α} {i : Nat} {x : α} (hx : xs[i]? = some x) : xs.drop i = x :: xs.drop (i + 1) := by
  obtain ⟨hl, rfl⟩ := List.getElem?_eq_some_iff.1 hx
  exact List.drop_eq_getElem_cons hl
theorem lt_of_get {α : Type} {xs : List α} {i : Nat} {x : α} (hx : xs[i]? = some x) : i < xs.length := (List.getElem?_eq_some_iff.1 hx).1

/-! ### heaps -/
@[simp] theorem AHeap.next_alloc (b : Blk) : (h.alloc b).next = h.next + 1 := nrfl
@[simp] theorem AHeap.next_set (k : Nat) (b : Blk) : (h.set k b).next = h.next := nrfl
@[simp] theorem AHeap.next_kill (k : Nat) : (h.kill k).next = h.next := nrfl
/-- Some numbers are kept. -/
@[irreducible] def AHeap.rsv (h : AHeap) (m : Nat) : AHeap := ⟨h.t, h.next + m⟩
theorem AHeap.rsv_eq (h : AHeap) (m : Nat) : h.rsv m = ⟨h.t, h.next + m⟩ := by unfold AHeap.rsv; rfl
@[simp] theorem AHeap.next_res (m : Nat) : (h.rsv m).next = h.next + m := by rw [AHeap.rsv_eq]
/-- The same number; another one; a smaller one; no greater one (simp does not look into these). -/
def AHeap.At (a b : Nat) : Prop := a = b
def AHeap.Ne (a b : Nat) : Prop := a ≠ b
def AHeap.Le (a b : Nat) : Prop := a ≤ b
theorem AHeap.At_alloc {b : Blk} {k : Nat} (e : AHeap.At k (h.next + 1)) : AHeap.At k (h.alloc b).next := e
theorem AHeap.At_set {b : Blk} {k j : Nat} (e : AHeap.At k h.next) : AHeap.At k (h.set j b).next := e
theorem AHeap.At_kill {k j : Nat} (e : AHeap.At k h.next) : AHeap.At k (h.kill j).next := e
theorem AHeap.At_res {k m : Nat} (e : AHeap.At k (h.next + m)) : AHeap.At k (h.rsv m).next := by rw [AHeap.next_res]; exact e
theorem AHeap.Ne_alloc {b : Blk} {k : Nat} (e : AHeap.Ne k (h.next + 1)) : AHeap.Ne k (h.alloc b).next := e
theorem AHeap.Ne_set {b : Blk} {k j : Nat} (e : AHeap.Ne k h.next) : AHeap.Ne k (h.set j b).next := e
theorem AHeap.Ne_kill {k j : Nat} (e : AHeap.Ne k h.next) : AHeap.Ne k (h.kill j).next := e
theorem AHeap.Ne_res {k m : Nat} (e : AHeap.Ne k (h.next + m)) : AHeap.Ne k (h.rsv m).next := by rw [AHeap.next_res]; exact e
theorem AHeap.Le_alloc {b : Blk} {k : Nat} (e : AHeap.Le k (h.next + 1)) : AHeap.Le k (h.alloc b).next := e
theorem AHeap.Le_set {b : Blk} {k j : Nat} (e : AHeap.Le k h.next) : AHeap.Le k (h.set j b).next := e
theorem AHeap.Le_kill {k j : Nat} (e : AHeap.Le k h.next) : AHeap.Le k (h.kill j).next := e
theorem AHeap.Le_res {k m : Nat} (e : AHeap.Le k (h.next + m)) : AHeap.Le k (h.rsv m).next := by rw [AHeap.next_res]; exact e
theorem AHeap.At.of {a b : Nat} (e : a = b) : AHeap.At a b := e
theorem AHeap.Ne.of {a b : Nat} (e : a ≠ b) : AHeap.Ne a b := e
theorem AHeap.Le.of {a b : Nat} (e : a ≤ b) : AHeap.Le a b := e
theorem AHeap.alloc_at {b : Blk} {k : Nat} (hk : AHeap.At k h.next) : (h.alloc b).get k = some b := by
  unfold AHeap.At at hk
  rw [AHeap.get_alloc, if_pos hk]
theorem AHeap.alloc_ne {b : Blk} {k : Nat} (hk : AHeap.Ne k h.next) : (h.alloc b).get k = h.get k := by
  unfold AHeap.Ne at hk
  rw [AHeap.get_alloc, if_neg hk]
theorem AHeap.set_at {b : Blk} {k m : Nat} (hk : AHeap.At m k) : (h.set k b).get m = some b := by
  unfold AHeap.At at hk
  rw [AHeap.get_set, if_pos hk]
theorem AHeap.set_ne {b : Blk} {k m : Nat} (hk : AHeap.Ne m k) : (h.set k b).get m = h.get m := by
  unfold AHeap.Ne at hk
  rw [AHeap.get_set, if_neg hk]
theorem AHeap.kill_ne {k m : Nat} (hk : AHeap.Ne m k) : (h.kill k).get m = h.get m := by
  unfold AHeap.Ne at hk
  rw [AHeap.get_kill, if_neg hk]
@[simp] theorem AHeap.get_res (m k : Nat) : (h.rsv m).get k = h.get k := by rw [AHeap.rsv_eq]; rfl

/-- From a heap to a later one that has turned none of its blocks. -/
structure Ext (h h' : AHeap) : Prop where
  lo : h.next ≤ h'.next
  same : ∀ k, k < h.next → h'.get k = h.get k
theorem Ext.refl (h : AHeap) : Ext h h := ⟨Nat.le_refl _, fun _ _ => rfl⟩
theorem Ext.trans {h1 h2 h3 : AHeap} (e : Ext h1 h2) (e' : Ext h2 h3) : Ext h1 h3 :=
  ⟨Nat.le_trans e.lo e'.lo, fun k hk => (e'.same k (Nat.lt_of_lt_of_le hk e.lo)).trans (e.same k hk)⟩
theorem Ext.alloc {h1 h2 : AHeap} (e : Ext h1 h2) {b : Blk} : Ext h1 (h2.alloc b) :=
  ⟨by have := e.lo; simp; omega, fun k hk => by rw [AHeap.alloc_ne (by have := e.lo; unfold AHeap.Ne; omega)]; exact e.same k hk⟩
theorem Ext.set {h1 h2 : AHeap} (e : Ext h1 h2) {k : Nat} {b : Blk} (hk : AHeap.Le h1.next k) : Ext h1 (h2.set k b) :=
  ⟨e.lo, fun m hm => by rw [AHeap.set_ne (by unfold AHeap.Le at hk; unfold AHeap.Ne; omega)]; exact e.same m hm⟩
theorem Ext.kill {h1 h2 : AHeap} (e : Ext h1 h2) {k : Nat} (hk : AHeap.Le h1.next k) : Ext h1 (h2.kill k) :=
  ⟨e.lo, fun m hm => by rw [AHeap.kill_ne (by unfold AHeap.Le at hk; unfold AHeap.Ne; omega)]; exact e.same m hm⟩
theorem Ext.res {h1 h2 : AHeap} (e : Ext h1 h2) {m : Nat} : Ext h1 (h2.rsv m) := ⟨by have := e.lo; simp; omega, fun k hk => by rw [AHeap.get_res]; exact e.same k hk⟩

/-- A call's answer; nothing old is turned. -/
def Ret (r : Rs) (h : AHeap) (s : AVal) : Prop := Res r fun v g => v = s ∧ Ext h g
theorem Ret.mk {r : Rs} {s : AVal} {g : AHeap} (e : r = some (s, g)) (x : Ext h g) : Ret r h s := ⟨s, g, e, rfl, x⟩
theorem Ret.thn {r : Rs} {s : AVal} {h0 : AHeap} {k : AVal → AHeap → Rs} {Q : AVal → AHeap → Prop} (c : Ret r h s) (e : Ext h0 h) (hk : ∀ g, Ext h0 g → h0.next ≤ g.next → h.next ≤ g.next → (∀ k, k < h.next → g.get k = h.get k) → Ext h g → Res (k s g) Q) : Res (@Bnd r ⟨k⟩) Q := by
  obtain ⟨v, g, er, rfl, x⟩ := c
  rw [er]
  exact hk g (e.trans x) (e.trans x).lo x.lo x.same x
/-- A call's answer and what holds of it. -/
theorem Res.call {r : Rs} {h0 : AHeap} {k : AVal → AHeap → Rs} {Q A : AVal → AHeap → Prop} (c : Res r fun v g => A v g ∧ Ext h g) (e : Ext h0 h) (hk : ∀ v g, A v g → Ext h0 g → h0.next ≤ g.next → h.next ≤ g.next → (∀ k, k < h.next → g.get k = h.get k) → Ext h g → Res (k v g) Q) : Res (@Bnd r ⟨k⟩) Q := by
  obtain ⟨v, g, er, a, x⟩ := c
  rw [er]
  exact hk v g a (e.trans x) (e.trans x).lo x.lo x.same x

/-- An answer's condition, of an equal thing. -/
theorem Res_post {β : Type} {A : β → AVal → AHeap → Prop} {b b' : β} {r : Rs} {hb : AHeap} (c : Res r fun u g => A b u g ∧ Ext hb g) (e : b = b') : Res r fun u g => A b' u g ∧ Ext hb g := by rw [← e]; exact c

/-! ### straight code -/
@[simp] theorem Bnd_some (v : AVal) (k : AVal → AHeap → Rs) : @Bnd (some (v, h)) ⟨k⟩ = k v h := nrfl
@[simp] theorem Bnd_none (k : AVal → AHeap → Rs) : @Bnd none ⟨k⟩ = none := nrfl
@[simp] theorem BndP_some (v : AVal) (k : AVal → Rs) : @BndP (some v) ⟨k⟩ = k v := nrfl
@[simp] theorem BndP_none (k : AVal → Rs) : @BndP none ⟨k⟩ = none := nrfl
@[simp] theorem lift_some' (v : AVal) : lift (some v) h = some (v, h) := nrfl
@[simp] theorem sGuard_tt (r : Rs) : sGuard (.bool true) true r h = r := nrfl
@[simp] theorem sGuard_ff (r : Rs) : sGuard (.bool false) false r h = r := nrfl
@[simp] theorem sGuard_tf (r : Rs) : sGuard (.bool true) false r h = some (aundef, h) := nrfl
@[simp] theorem sGuard_ft (r : Rs) : sGuard (.bool false) true r h = some (aundef, h) := nrfl
@[simp] theorem sGuard_un (w : Bool) (r : Rs) : sGuard aundef w r h = some (aundef, h) := nrfl
@[simp] theorem Cond_any (b : Bool) (e t : Rs) : @Cond (.bool b) ⟨e⟩ ⟨t⟩ = @Fork (b = true) ⟨t⟩ ⟨e⟩ := by
  unfold Fork
  cases b
  · rw [if_neg (by simp)]; rfl
  · rw [if_pos rfl]; rfl
@[simp] theorem guard_t_any (b : Bool) (r : Rs) (k : AVal → AHeap → Rs) : @Bnd (sGuard (.bool b) true r h) ⟨k⟩ = @Fork (b = true) ⟨@Bnd r ⟨k⟩⟩ ⟨k aundef h⟩ := by
  unfold Fork
  cases b <;> simp
@[simp] theorem guard_f_any (b : Bool) (r : Rs) (k : AVal → AHeap → Rs) : @Bnd (sGuard (.bool b) false r h) ⟨k⟩ = @Fork (b = true) ⟨k aundef h⟩ ⟨@Bnd r ⟨k⟩⟩ := by
  unfold Fork
  cases b <;> simp
@[simp] theorem sCheck_t (r : Rs) : sCheck true r = r := nrfl
@[simp] theorem pPick_t (a b : AVal) : pPick (.bool true) a b = some a := nrfl
@[simp] theorem pPick_f (a b : AVal) : pPick (.bool false) a b = some b := nrfl
@[simp] theorem pick_any (b : Bool) (x y : AVal) (k : AVal → Rs) : @BndP (pPick (.bool b) x y) ⟨k⟩ = @Fork (b = true) ⟨k x⟩ ⟨k y⟩ := by
  unfold Fork
  cases b <;> simp
@[simp] theorem pNilCheck_ptr (l : Loc) (o : Nat) : pNilCheck (.ptr l o) = some (.ptr l o) := nrfl
@[simp] theorem pNilCheck_sl (l : Loc) (o n : Nat) (c : Cap) : pNilCheck (.sl l o n c) = some (.sl l o n c) := nrfl
@[simp] theorem pNilCheck_func (g : Nat) (a b : List AVal) : pNilCheck (.func (.func g) a b) = some (.func (.func g) a b) := nrfl
@[simp] theorem pFieldAddr_ptr (off : Nat) (l : Loc) (o : Nat) : pFieldAddr off (.ptr l o) = some (.ptr l (o + off)) := nrfl
@[simp] theorem pLoad1_ptr (l : Loc) (o : Nat) : pLoad1 I (.ptr l o) h = rd I h l o := rdK_eq ..
@[simp] theorem pLoadN_ptr (n : Nat) (l : Loc) (o : Nat) : pLoadN I n (.ptr l o) h = (rds I h l o n).map .agg := by
  show (match rdsK I h l o n with | some cs => some (AVal.agg cs) | none => none) = _
  rw [rdsK_eq]; cases rds I h l o n <;> rfl
@[simp] theorem sRes1_ptr (l : Loc) (o : Nat) : sRes1 I (.ptr l o) h = rd I h l o := nrfl
@[simp] theorem sResN_ptr (n : Nat) (l : Loc) (o : Nat) : sResN I n (.ptr l o) h = (rds I h l o n).map .agg := nrfl
@[simp] theorem sCons_some (v : AVal) (vs : List AVal) : sCons (some v) (some vs) = some (v :: vs) := nrfl
@[simp] theorem sRet_one (v : AVal) : sRet (some [v]) h = some (v, h) := nrfl
@[simp] theorem sRet_two (v u : AVal) (vs : List AVal) : sRet (some (v :: u :: vs)) h = some (.tuple (v :: u :: vs), h) := nrfl
@[simp] theorem sRet_none : sRet (some []) h = some (.tuple [], h) := nrfl
@[simp] theorem pField1_agg (off : Nat) (cs : List AVal) : pField1 off (.agg cs) = cs[off]? := nthK_eq ..
@[simp] theorem pExtract_tuple (vs : List AVal) (i : Nat) : pExtract (.tuple vs) i = vs[i]? := nthK_eq ..
@[simp] theorem pUn_not (b : Bool) : pUn .not (.bool b) = some (.bool !b) := nrfl
@[simp] theorem pLenSl_nils : pLenSl .nils = some (.int .i64 0) := nrfl
@[simp] theorem pLenSl_sl (l : Loc) (o n : Nat) (c : Cap) : pLenSl (.sl l o n c) = some (.int .i64 n) := nrfl
@[simp] theorem pLenStr_str (s : List Nat) : pLenStr (.str s) = some (.int .i64 s.length) := nrfl
theorem pIndexAddr_sl {sz : Nat} {l : Loc} {o n j : Nat} {c : Cap} {k : IntKind} (hj : j < n) : pIndexAddr sz (.sl l o n c) (.int k (j : Int)) = some (.ptr l (o + j * sz)) := by
  show (match Nat.blt j n with | true => some (AVal.ptr l (o + j * sz)) | false => none) = _
  rw [blt_iff]; simp [hj]
@[simp] theorem sCallv_func (C : CallFn) (g : Nat) (a b x : List AVal) : sCallv C (.func (.func g) a b) x h = C g (a ++ x ++ b) h := nrfl

@[simp] theorem cells_int (k : IntKind) (n : Int) : (.int k n : AVal).cells = [.int k n] := nrfl
@[simp] theorem one_int (k : IntKind) (n : Int) : (.int k n : AVal).one = true := nrfl
@[simp] theorem cells_bool (b : Bool) : (.bool b : AVal).cells = [.bool b] := nrfl
@[simp] theorem one_bool (b : Bool) : (.bool b : AVal).one = true := nrfl
@[simp] theorem cells_str (s : List Nat) : (.str s : AVal).cells = [.str s] := nrfl
@[simp] theorem one_str (s : List Nat) : (.str s : AVal).one = true := nrfl
@[simp] theorem cells_nilp : (.nilp : AVal).cells = [.nilp] := nrfl
@[simp] theorem one_nilp : (.nilp : AVal).one = true := nrfl
@[simp] theorem cells_ptr (l : Loc) (o : Nat) : (.ptr l o : AVal).cells = [.ptr l o] := nrfl
@[simp] theorem one_ptr (l : Loc) (o : Nat) : (.ptr l o : AVal).one = true := nrfl
@[simp] theorem cells_nils : (.nils : AVal).cells = [.nils] := nrfl
@[simp] theorem one_nils : (.nils : AVal).one = true := nrfl
@[simp] theorem cells_sl (l : Loc) (o n : Nat) (c : Cap) : (.sl l o n c : AVal).cells = [.sl l o n c] := nrfl
@[simp] theorem one_sl (l : Loc) (o n : Nat) (c : Cap) : (.sl l o n c : AVal).one = true := nrfl
@[simp] theorem cells_nilf : (.nilf : AVal).cells = [.nilf] := nrfl
@[simp] theorem one_nilf : (.nilf : AVal).one = true := nrfl
@[simp] theorem cells_func (f : Fn) (a b : List AVal) : (.func f a b : AVal).cells = [.func f a b] := nrfl
@[simp] theorem one_func (f : Fn) (a b : List AVal) : (.func f a b : AVal).one = true := nrfl
@[simp] theorem cells_nili : (.nili : AVal).cells = [.nili] := nrfl
@[simp] theorem one_nili : (.nili : AVal).one = true := nrfl
@[simp] theorem cells_iface (t : TypeId) (v : AVal) : (.iface t v : AVal).cells = [.iface t v] := nrfl
@[simp] theorem one_iface (t : TypeId) (v : AVal) : (.iface t v : AVal).one = true := nrfl
@[simp] theorem cells_agg (cs : List AVal) : (.agg cs : AVal).cells = cs := nrfl
@[simp] theorem zerosFrom_zero (z : List AVal) (i : Nat) : zerosFrom z i 0 = [] := nrfl
@[simp] theorem setR_all {β : Type} (l xs : List β) (e : xs.length = l.length) : setR l 0 xs = xs := by
  unfold setR
  rw [List.take_zero, List.nil_append, Nat.zero_add, e, List.drop_length, List.append_nil]

/-! comparing, counting -/
/-- Does it hold? (no instance: the kernel never reckons it out) -/
def dc (p : Prop) : Bool := @decide p (Classical.propDecidable p)
theorem dc_decide (p : Prop) [Decidable p] : dc p = decide p := by unfold dc; congr
@[simp] theorem dc_eq_true (p : Prop) : (dc p = true) = p := by simp [dc]
@[simp] theorem dc_eq_false (p : Prop) : (dc p = false) = ¬ p := by simp [dc]
@[simp] theorem dc_true : dc True = true := by simp [dc]
@[simp] theorem dc_false : dc False = false := by simp [dc]
@[simp] theorem dc_not (p : Prop) : dc (¬ p) = !dc p := by by_cases h : p <;> simp [dc, h]
@[simp] theorem dc_and (p q : Prop) : dc (p ∧ q) = (dc p && dc q) := by by_cases h : p <;> by_cases h' : q <;> simp [dc, h, h']
@[simp] theorem dc_or (p q : Prop) : dc (p ∨ q) = (dc p || dc q) := by by_cases h : p <;> by_cases h' : q <;> simp [dc, h, h']
@[simp] theorem dc_inj (p q : Prop) : (dc p = dc q) = (p ↔ q) := by by_cases h : p <;> by_cases h' : q <;> simp [dc, h, h']
@[simp] theorem dc_bool (b : Bool) : dc (b = true) = b := by cases b <;> simp [dc]
@[simp] theorem dc_boolf (b : Bool) : dc (b = false) = !b := by cases b <;> simp [dc]
theorem dc_of {p : Prop} (h : p) : dc p = true := by simp [h]
theorem dc_off {p : Prop} (h : ¬ p) : dc p = false := by simp [h]
@[simp] theorem pBin_add (k : IntKind) (a b : Int) : pBin .add (.int k a) (.int k b) = some (.int k (k.wrap (a + b))) := by simp [pBin, abin, ibin]
@[simp] theorem pBin_sub (k : IntKind) (a b : Int) : pBin .sub (.int k a) (.int k b) = some (.int k (k.wrap (a - b))) := by simp [pBin, abin, ibin]
@[simp] theorem pBin_mul (k : IntKind) (a b : Int) : pBin .mul (.int k a) (.int k b) = some (.int k (k.wrap (a * b))) := by simp [pBin, abin, ibin]
@[simp] theorem pBin_eql (k : IntKind) (a b : Int) : pBin .eql (.int k a) (.int k b) = some (.bool (dc (a = b))) := by simp [pBin, abin, ibin, eqI_spec, dc_decide]; rfl
@[simp] theorem pBin_neq (k : IntKind) (a b : Int) : pBin .neq (.int k a) (.int k b) = some (.bool (dc (¬ a = b))) := by simp [pBin, abin, ibin, eqI_spec, dc_decide]; rfl
@[simp] theorem pBin_lss (k : IntKind) (a b : Int) : pBin .lss (.int k a) (.int k b) = some (.bool (dc (a < b))) := by simp [pBin, abin, ibin, ltI_spec, dc_decide]
@[simp] theorem pBin_gtr (k : IntKind) (a b : Int) : pBin .gtr (.int k a) (.int k b) = some (.bool (dc (b < a))) := by simp [pBin, abin, ibin, ltI_spec, dc_decide]
@[simp] theorem pBin_leq (k : IntKind) (a b : Int) : pBin .leq (.int k a) (.int k b) = some (.bool (dc (a ≤ b))) := by simp [pBin, abin, ibin, ltI_spec, dc_decide, ← Int.not_lt]
@[simp] theorem pBin_geq (k : IntKind) (a b : Int) : pBin .geq (.int k a) (.int k b) = some (.bool (dc (b ≤ a))) := by simp [pBin, abin, ibin, ltI_spec, dc_decide, ← Int.not_lt]

@[simp] theorem pEq_ptr_nil (neg c : Bool) (l : Loc) (o : Nat) : pEq P neg .ptr c (.ptr l o) .nilp h = some (.bool neg) := by cases neg <;> rfl
@[simp] theorem pEq_nil_ptr (neg c : Bool) (l : Loc) (o : Nat) : pEq P neg .ptr c .nilp (.ptr l o) h = some (.bool neg) := by cases neg <;> rfl
@[simp] theorem pEq_nil_nil (neg c : Bool) : pEq P neg .ptr c .nilp .nilp h = some (.bool !neg) := by cases neg <;> rfl
@[simp] theorem pEq_sl_nil (neg c : Bool) (l : Loc) (o n : Nat) (cp : Cap) : pEq P neg .slice c (.sl l o n cp) .nils h = some (.bool neg) := by cases neg <;> rfl
@[simp] theorem pEq_nils (neg c : Bool) : pEq P neg .slice c .nils .nils h = some (.bool !neg) := by cases neg <;> rfl
@[simp] theorem pEq_nili (neg : Bool) : pEq P neg .iface true .nili .nili h = some (.bool !neg) := by cases neg <;> rfl
@[simp] theorem pEq_iface_nili (neg c : Bool) (t : TypeId) (v : AVal) : pEq P neg .iface c (.iface t v) .nili h = some (.bool neg) := by cases neg <;> rfl
@[simp] theorem pEq_bool (neg c : Bool) (a b : Bool) : pEq P neg .bool c (.bool a) (.bool b) h = some (.bool (if neg then !(a == b) else (a == b))) := nrfl

/-- A number that an int holds. -/
def InR (n : Int) : Prop := -9223372036854775808 ≤ n ∧ n < 9223372036854775808
theorem wrap_in {n : Int} (h : InR n) : IntKind.i64.wrap n = n := by
  obtain ⟨h0, h1⟩ := h
  simp [IntKind.wrap, IntKind.bits, IntKind.signed]; omega

theorem wrap_addl (a b : Int) : IntKind.i64.wrap (IntKind.i64.wrap a + b) = IntKind.i64.wrap (a + b) := by
  simp [IntKind.wrap, IntKind.bits, IntKind.signed]; omega
theorem wrap_addr (a b : Int) : IntKind.i64.wrap (a + IntKind.i64.wrap b) = IntKind.i64.wrap (a + b) := by
  simp [IntKind.wrap, IntKind.bits, IntKind.signed]; omega
theorem wrap_wrap (a : Int) : IntKind.i64.wrap (IntKind.i64.wrap a) = IntKind.i64.wrap a := by
  simp [IntKind.wrap, IntKind.bits, IntKind.signed]; omega
theorem wrap_rng (a : Int) : InR (IntKind.i64.wrap a) := by
  unfold InR
  simp [IntKind.wrap, IntKind.bits, IntKind.signed]; omega
/-- A sum over a list. -/
def sumL {α : Type} (f : α → Int) : List α → Int
  | [] => 0
  | x :: xs => f x + sumL f xs

/-- All of a list (simp does not look into it). -/
def AllL {α : Type} (p : α → Prop) (xs : List α) : Prop := ∀ x ∈ xs, p x
instance {α : Type} (p : α → Prop) [DecidablePred p] (xs : List α) : Decidable (AllL p xs) := by unfold AllL; infer_instance
@[simp] theorem AllL_nil {α : Type} (p : α → Prop) : AllL p [] ↔ True := by simp [AllL]
@[simp] theorem AllL_cons {α : Type} (p : α → Prop) (x : α) (xs : List α) : AllL p (x :: xs) ↔ p x ∧ AllL p xs := by simp [AllL]

theorem sumL_one {α : Type} (xs : List α) : sumL (fun _ => (1 : Int)) xs = xs.length := by
  induction xs with
  | nil => rfl
  | cons x xs ih => simp only [sumL, ih, List.length_cons]; omega

theorem AllL_take {α : Type} {p : α → Prop} {xs : List α} {i : Nat} {x : α} (h : AllL p (xs.take i)) (hx : xs[i]? = some x) (px : p x) : AllL p (xs.take (i + 1)) := by
  intro y hy
  rw [List.take_add_one, hx] at hy
  rcases List.mem_append.1 hy with hy | hy
  · exact h y hy
  · simp at hy; subst hy; exact px

/-! making and storing -/
@[simp] theorem sAlloc_eq {z : List AVal} : sAlloc z h = some (.ptr (.own h.next) 0, h.alloc ⟨z, true⟩) := nrfl
@[simp] theorem sBox_eq {x : AVal} : sBox x h = some (.ptr (.own h.next) 0, h.alloc ⟨x.cells, true⟩) := nrfl
theorem sBuildSlice_eq {z : List AVal} {n : Nat} {ps : List (Nat × Nat × AVal)} {cs : List AVal} (hf : fillV (zeros z (n * z.length)) ps = some cs) :
    sBuildSlice z n ps h = some (.sl (.own h.next) 0 n (.known n), h.alloc ⟨cs, true⟩) := by simp only [sBuildSlice, hf]; rfl
@[simp] theorem sKeep_eq (m : Nat) (k : AHeap → Rs) : sKeep m h k = k (h.rsv (m + 1)) := by rw [AHeap.rsv_eq]; rfl

@[simp] theorem fillV_nil (cs : List AVal) : fillV cs [] = some cs := nrfl
@[simp] theorem fillV_cons (cs : List AVal) (off sz : Nat) (x : AVal) (r : List (Nat × Nat × AVal)) :
    fillV cs ((off, sz, x) :: r) = if x.cells.length = sz ∧ off + x.cells.length ≤ cs.length then fillV (setR cs off x.cells) r else none := by
  show (match Nat.beq (lenK x.cells) sz with
    | true => Option.rec (motive := fun _ => Option (List AVal)) none (fun cs => fillV cs r) (setK off x.cells cs)
    | false => none) = _
  rw [lenK_eq, setK_eq, beq_iff]
  by_cases h1 : x.cells.length = sz
  · by_cases h2 : off + x.cells.length ≤ cs.length
    · simp only [h1, decide_true, true_and]
      rw [if_pos (by omega), Nat.ble_eq_true_of_le (by omega)]
    · have : Nat.ble (off + x.cells.length) cs.length = false := by
        cases hx : Nat.ble (off + x.cells.length) cs.length with
        | false => rfl
        | true => exact absurd (Nat.le_of_ble_eq_true hx) h2
      simp only [h1, decide_true, true_and]
      rw [if_neg (by omega), ← h1, this]
  · simp only [h1, decide_false, false_and, if_false]
@[simp] theorem pBuild_eq (z : List AVal) (ps : List (Nat × Nat × AVal)) : pBuild z ps = (fillV z ps).map .agg := by
  unfold pBuild
  cases fillV z ps <;> rfl
@[simp] theorem sBuildSlice_eq' (z : List AVal) (n : Nat) (ps : List (Nat × Nat × AVal)) : sBuildSlice z n ps h = (fillV (zeros z (n * z.length)) ps).map fun cs => (.sl (.own h.next) 0 n (.known n), h.alloc ⟨cs, true⟩) := by
  unfold sBuildSlice
  cases fillV (zeros z (n * z.length)) ps <;> rfl
@[simp] theorem zeros_eq (z : List AVal) (n : Nat) : zeros z n = zerosFrom z 0 n := nrfl
@[simp] theorem zerosFrom_succ (z : List AVal) (i n : Nat) : zerosFrom z i (n + 1) = z.getD (i % z.length) .nilp :: zerosFrom z (i + 1) n := by
  first | rfl | simp [zerosFrom]

/-! checks of draws -/
@[simp] theorem sSame_some (v v' : AVal) : sSame (some (v', h)) v = v'.eqb v := nrfl
@[simp] theorem eqb_int (k : IntKind) (n : Int) : (AVal.int k n).eqb (.int k n) = true := by simp [AVal.eqb]
@[simp] theorem eqb_bool (b : Bool) : (AVal.bool b).eqb (.bool b) = true := by simp [AVal.eqb]
@[simp] theorem eqb_agg (a b : List AVal) : (AVal.agg a).eqb (.agg b) = AVal.eqbs a b := by simp [AVal.eqb]
@[simp] theorem eqb_tuple (a b : List AVal) : (AVal.tuple a).eqb (.tuple b) = AVal.eqbs a b := by simp [AVal.eqb]
@[simp] theorem eqbs_nil : AVal.eqbs [] [] = true := by simp [AVal.eqbs]
@[simp] theorem eqbs_cons (a b : AVal) (x y : List AVal) : AVal.eqbs (a :: x) (b :: y) = (a.eqb b && AVal.eqbs x y) := by simp [AVal.eqbs]
@[simp] theorem eqb_nilp : AVal.nilp.eqb .nilp = true := by simp [AVal.eqb]
@[simp] theorem eqb_nils : AVal.nils.eqb .nils = true := by simp [AVal.eqb]
@[simp] theorem eqb_nili : AVal.nili.eqb .nili = true := by simp [AVal.eqb]
@[simp] theorem Loc.eqb_self (l : Loc) : l.eqb l = true := by cases l <;> simp [Loc.eqb]
@[simp] theorem Cap.eqb_self (c : Cap) : c.eqb c = true := by cases c <;> simp [Cap.eqb]
@[simp] theorem eqb_ptr (l : Loc) (o : Nat) : (AVal.ptr l o).eqb (.ptr l o) = true := by simp [AVal.eqb]
@[simp] theorem eqb_sl (l : Loc) (o n : Nat) (c : Cap) : (AVal.sl l o n c).eqb (.sl l o n c) = true := by simp [AVal.eqb]
@[simp] theorem eqb_iface (t : TypeId) (a b : AVal) : (AVal.iface t a).eqb (.iface t b) = a.eqb b := by simp [AVal.eqb]
@[simp] theorem natsEq_self : ∀ (s : List Nat), natsEq s s = true
  | [] => rfl
  | a :: s => by simp [natsEq, natsEq_self s]
@[simp] theorem eqb_str (s : List Nat) : (AVal.str s).eqb (.str s) = true := by simp [AVal.eqb]

/-! reading and writing, whatever the heap -/
@[simp] theorem rd_own' (k o : Nat) : rd I h (.own k) o = (h.get k).bind fun b => b.cells[o]? := by
  simp only [rd]; cases h.get k <;> rfl
@[simp] theorem rds_own' (k o n : Nat) : rds I h (.own k) o n = (h.get k).bind fun b => if o + n ≤ b.cells.length then some ((b.cells.drop o).take n) else none := by
  simp only [rds]
  cases h.get k with
  | none => rfl
  | some b =>
    simp only [Option.bind_some]
    by_cases hl : o + n ≤ b.cells.length
    · rw [if_pos hl, Nat.ble_eq_true_of_le hl]
    · have : Nat.ble (o + n) b.cells.length = false := by
        cases hx : Nat.ble (o + n) b.cells.length with
        | false => rfl
        | true => exact absurd (Nat.le_of_ble_eq_true hx) hl
      rw [if_neg hl, this]
@[simp] theorem wr_mk (cells : List AVal) (p : Bool) (o : Nat) (cs : List AVal) : (⟨cells, p⟩ : Blk).wr o cs = if o + cs.length ≤ cells.length ∧ cs.all AVal.one = true then some ⟨setR cells o cs, p⟩ else none := by
  unfold Blk.wr
  have hble : Nat.ble (o + cs.length) cells.length = decide (o + cs.length ≤ cells.length) := by rw [Bool.eq_iff_iff]; simp
  simp only [hble]
  by_cases hl : o + cs.length ≤ cells.length <;> by_cases h1 : cs.all AVal.one = true
  · simp only [hl, h1, and_self, if_true, decide_true, Bool.true_and]
  · have : cs.all AVal.one = false := by simpa using h1
    rw [this]; simp [hl]
  · simp only [hl, decide_false, Bool.false_and, false_and, if_false]
  · simp only [hl, decide_false, Bool.false_and, false_and, if_false]
@[simp] theorem sStore_own' (n k o : Nat) (x : AVal) : sStore n (.ptr (.own k) o) x h = (h.get k).bind fun b => if x.cells.length = n then (b.wr o x.cells).map fun b' => (aundef, h.set k b') else none := by
  simp only [sStore, lenK_eq, Blk.wrK_eq]
  cases h.get k with
  | none => rfl
  | some b =>
    simp only [Option.bind_some, beq_iff]
    by_cases hl : x.cells.length = n
    · simp only [hl, decide_true, if_true]; cases b.wr o x.cells <;> rfl
    · simp only [hl, decide_false, if_false]

/-- An append to nil. -/
theorem sAppend_nils {sz bytes k n : Nat} {news : List AVal} {p : Bool} {c : Cap} (hk : h.get k = some ⟨news, p⟩) (hl : news.length = (n + 1) * sz) (h1 : news.all AVal.one = true) (hb : (n + 1) * bytes ≤ bigRoom ∧ n + 1 ≤ bigRoom) :
    sAppend I sz bytes .nils (.sl (.own k) 0 (n + 1) c) h = some (.sl (.own h.next) 0 (n + 1) (.grown sz), h.alloc ⟨news, true⟩) := by
  simp only [sAppend, appendK_eq, appendTo, srcCells, rds_own', hk, Option.bind_some]
  rw [if_pos (by simp [hl])]
  simp only [List.drop_zero, ← hl, List.take_length, h1]
  rw [show h.room = true from rfl, Nat.ble_eq_true_of_le hb.1, Nat.ble_eq_true_of_le hb.2]
  rfl

/-- An append to a slice that was grown and is full. -/
theorem sAppend_full {sz bytes k n kx len : Nat} {news olds : List AVal} {p px : Bool} {c : Cap} (hk : h.get k = some ⟨news, p⟩) (hl : news.length = (n + 1) * sz) (h1 : news.all AVal.one = true) (hkx : h.get kx = some ⟨olds, px⟩) (hlx : olds.length = len * sz) (h1x : olds.all AVal.one = true)
    (hsz : 0 < sz) (hb : (len + (n + 1)) * bytes ≤ bigRoom ∧ len + (n + 1) ≤ bigRoom) :
    sAppend I sz bytes (.sl (.own kx) 0 len (.grown sz)) (.sl (.own k) 0 (n + 1) c) h = some (.sl (.own h.next) 0 (len + (n + 1)) (.grown sz), (h.kill kx).alloc ⟨olds ++ news, px⟩) := by
  simp only [sAppend, appendK_eq, appendTo, srcCells, rds_own', hk, Option.bind_some]
  rw [if_pos (by simp [hl])]
  simp only [List.drop_zero, ← hl, List.take_length, h1, hkx]
  rw [Nat.ble_eq_true_of_le hb.1, Nat.ble_eq_true_of_le hb.2]
  have hle : Nat.ble (0 + olds.length) olds.length = true := Nat.ble_eq_true_of_le (by omega)
  have hgt : Nat.ble (0 + olds.length + news.length) olds.length = false := by
    cases hx : Nat.ble (0 + olds.length + news.length) olds.length with
    | false => rfl
    | true =>
      have := Nat.le_of_ble_eq_true hx
      have : 0 < (n + 1) * sz := Nat.mul_pos (by omega) hsz
      omega
  simp only [Bool.and_self, Nat.beq_refl, show h.room = true from rfl, ← hlx, List.take_length, h1x, hle, hgt]

/-! ### what lies at an address, from a heap on -/
/-- A cell holds a value, in this heap and all later ones. -/
def CellAt (I : Inp) (h0 : AHeap) (l : Loc) (o : Nat) (v : AVal) : Prop := ∀ g, Ext h0 g → rd I g l o = some v
theorem CellAt.mono {h1 : AHeap} {l : Loc} {o : Nat} {v : AVal} (c : CellAt I h l o v) (e : Ext h h1) : CellAt I h1 l o v := fun g x => c g (e.trans x)
theorem CellAt.own {k o : Nat} {v : AVal} {b : Blk} (hb : h.get k = some b) (hk : k < h.next) (hv : b.cells[o]? = some v) : CellAt I h (.own k) o v := fun g x => by
  rw [rd_own', x.same k hk, hb]; exact hv
theorem CellAt.inp {b o : Nat} {v : AVal} (hv : I b o = some v) : CellAt I h (.inp b) o v := fun _ _ => hv
def IntAt (I : Inp) (h0 : AHeap) (l : Loc) (o : Nat) (n : Int) : Prop := CellAt I h0 l o (.int .i64 n) ∧ InR n
theorem IntAt.mono {h1 : AHeap} {l : Loc} {o : Nat} {v : Int} (c : IntAt I h l o v) (e : Ext h h1) : IntAt I h1 l o v := ⟨c.1.mono e, c.2⟩
theorem rds_inp {b o n : Nat} : rds I h (.inp b) o n = rdsInp I b o n := rfl

end
end

end Go.AM
