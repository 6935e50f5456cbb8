/- AM, part 27: rules for simp: what operations on values come to. Conditions: as each lemma says. -/
import Derived.Test.YtechgpjdlkjjoaaGreatDoorAmFin
namespace Go.AM
noncomputable section
open Go.RowKit

/-- An answer there is, and .. of it holds. -/
def Res (r : Rs) (Q : AVal → AHeap → Prop) : Prop := ∃ v h', r = some (v, h') ∧ Q v h'

section
variable {P : Program} {I : Inp} {h : AHeap} {α : Type}

@[simp] theorem Res_some {v : AVal} {Q : AVal → AHeap → Prop} : Res (some (v, h)) Q ↔ Q v h :=
  ⟨fun ⟨_, _, e, hq⟩ => by cases e; exact hq, fun hq => ⟨_, _, rfl, hq⟩⟩
theorem Res.mono {r : Rs} {Q Q' : AVal → AHeap → Prop} (hr : Res r Q) (hq : ∀ v h, Q v h → Q' v h) : Res r Q' :=
  let ⟨v, h', e, q⟩ := hr; ⟨v, h', e, hq _ _ q⟩
theorem Res.bnd {r : Rs} {k : AVal → AHeap → Rs} {Q : AVal → AHeap → Prop} (hr : Res r fun v h' => Res (k v h') Q) : Res (bnd r k) Q := by
  obtain ⟨v, h', e, q⟩ := hr
  rw [e]; exact q
theorem Res.eq {r : Rs} {v : AVal} {h' : AHeap} (hr : Res r fun u g => u = v ∧ g = h') : r = some (v, h') := by
  obtain ⟨_, _, e, rfl, rfl⟩ := hr; exact e

@[simp] theorem bnd_some' (v : AVal) (k : AVal → AHeap → Rs) : bnd (some (v, h)) k = k v h := rfl
@[simp] theorem bnd_none' (k : AVal → AHeap → Rs) : bnd none k = none := rfl
@[simp] theorem bndP_some' (v : AVal) (k : AVal → Rs) : bndP (some v) k = k v := rfl
@[simp] theorem bndP_none' (k : AVal → Rs) : bndP none k = none := rfl
@[simp] theorem lift_some' (v : AVal) : lift (some v) h = some (v, h) := rfl
@[simp] theorem sGuard_tt (r : Rs) : sGuard (.bool true) true r h = r := rfl
@[simp] theorem sGuard_ff (r : Rs) : sGuard (.bool false) false r h = r := rfl
@[simp] theorem sGuard_tf (r : Rs) : sGuard (.bool true) false r h = some (aundef, h) := rfl
@[simp] theorem sGuard_ft (r : Rs) : sGuard (.bool false) true r h = some (aundef, h) := rfl
@[simp] theorem sCond_t (e t : Rs) : sCond (.bool true) e t = t := rfl
@[simp] theorem sCond_f (e t : Rs) : sCond (.bool false) e t = e := rfl
theorem sCond_dec (p : Prop) [Decidable p] (e t : Rs) : sCond (.bool (decide p)) e t = if p then t else e := by by_cases hp : p <;> simp [hp]
@[simp] theorem sCheck_t (r : Rs) : sCheck true r = r := rfl
@[simp] theorem pPick_t (a b : AVal) : pPick (.bool true) a b = some a := rfl
@[simp] theorem pPick_f (a b : AVal) : pPick (.bool false) a b = some b := rfl
@[simp] theorem pNilCheck_ptr (l : Loc) (o : Nat) : pNilCheck (.ptr l o) = some (.ptr l o) := rfl
@[simp] theorem pNilCheck_sl (l : Loc) (o n : Nat) (c : Cap) : pNilCheck (.sl l o n c) = some (.sl l o n c) := rfl
@[simp] theorem pFieldAddr_ptr (off : Nat) (l : Loc) (o : Nat) : pFieldAddr off (.ptr l o) = some (.ptr l (o + off)) := rfl
@[simp] theorem pLoad1_ptr (l : Loc) (o : Nat) : pLoad1 I (.ptr l o) h = rd I h l o := rdK_eq ..
@[simp] theorem pLoadN_ptr (n : Nat) (l : Loc) (o : Nat) : pLoadN I n (.ptr l o) h = (rds I h l o n).map .agg := by
  show (match rdsK I h l o n with | some cs => some (AVal.agg cs) | none => none) = _
  rw [rdsK_eq]; cases rds I h l o n <;> rfl
theorem rd_own {k o : Nat} {b : Blk} (hk : h.get k = some b) : rd I h (.own k) o = b.cells[o]? := by simp only [rd, hk]
theorem rds_own {k o n : Nat} {b : Blk} (hk : h.get k = some b) (hl : o + n ≤ b.cells.length) : rds I h (.own k) o n = some ((b.cells.drop o).take n) := by
  simp only [rds, hk, Nat.ble_eq_true_of_le hl]
@[simp] theorem pField1_agg (off : Nat) (cs : List AVal) : pField1 off (.agg cs) = cs[off]? := nthK_eq ..
@[simp] theorem pExtract_tuple (vs : List AVal) (i : Nat) : pExtract (.tuple vs) i = vs[i]? := nthK_eq ..
@[simp] theorem pUn_not (b : Bool) : pUn .not (.bool b) = some (.bool !b) := rfl
@[simp] theorem pLenSl_nils : pLenSl .nils = some (.int .i64 0) := rfl
@[simp] theorem pLenSl_sl (l : Loc) (o n : Nat) (c : Cap) : pLenSl (.sl l o n c) = some (.int .i64 n) := rfl
@[simp] theorem pLenStr_str (s : List Nat) : pLenStr (.str s) = some (.int .i64 s.length) := rfl
theorem pIndexAddr_sl {sz : Nat} {l : Loc} {o n j : Nat} {c : Cap} {k : IntKind} (hj : j < n) : pIndexAddr sz (.sl l o n c) (.int k (.ofNat j)) = some (.ptr l (o + j * sz)) := by
  show (match Nat.blt j n with | true => some (AVal.ptr l (o + j * sz)) | false => none) = _
  rw [blt_iff]; simp [hj]

@[simp] theorem cells_int (k : IntKind) (n : Int) : (.int k n : AVal).cells = [.int k n] := rfl
@[simp] theorem one_int (k : IntKind) (n : Int) : (.int k n : AVal).one = true := rfl
@[simp] theorem cells_bool (b : Bool) : (.bool b : AVal).cells = [.bool b] := rfl
@[simp] theorem one_bool (b : Bool) : (.bool b : AVal).one = true := rfl
@[simp] theorem cells_str (s : List Nat) : (.str s : AVal).cells = [.str s] := rfl
@[simp] theorem one_str (s : List Nat) : (.str s : AVal).one = true := rfl
@[simp] theorem cells_nilp : (.nilp : AVal).cells = [.nilp] := rfl
@[simp] theorem one_nilp : (.nilp : AVal).one = true := rfl
@[simp] theorem cells_ptr (l : Loc) (o : Nat) : (.ptr l o : AVal).cells = [.ptr l o] := rfl
@[simp] theorem one_ptr (l : Loc) (o : Nat) : (.ptr l o : AVal).one = true := rfl
@[simp] theorem cells_nils : (.nils : AVal).cells = [.nils] := rfl
@[simp] theorem one_nils : (.nils : AVal).one = true := rfl
@[simp] theorem cells_sl (l : Loc) (o n : Nat) (c : Cap) : (.sl l o n c : AVal).cells = [.sl l o n c] := rfl
@[simp] theorem one_sl (l : Loc) (o n : Nat) (c : Cap) : (.sl l o n c : AVal).one = true := rfl
@[simp] theorem cells_nilf : (.nilf : AVal).cells = [.nilf] := rfl
@[simp] theorem one_nilf : (.nilf : AVal).one = true := rfl
@[simp] theorem cells_func (f : Fn) (a b : List AVal) : (.func f a b : AVal).cells = [.func f a b] := rfl
@[simp] theorem one_func (f : Fn) (a b : List AVal) : (.func f a b : AVal).one = true := rfl
@[simp] theorem cells_nili : (.nili : AVal).cells = [.nili] := rfl
@[simp] theorem one_nili : (.nili : AVal).one = true := rfl
@[simp] theorem cells_iface (t : TypeId) (v : AVal) : (.iface t v : AVal).cells = [.iface t v] := rfl
@[simp] theorem one_iface (t : TypeId) (v : AVal) : (.iface t v : AVal).one = true := rfl
@[simp] theorem cells_agg (cs : List AVal) : (.agg cs : AVal).cells = cs := rfl
@[simp] theorem zerosFrom_zero (z : List AVal) (i : Nat) : zerosFrom z i 0 = [] := rfl

/-! comparing, counting -/
@[simp] theorem pBin_add (k : IntKind) (a b : Int) : pBin .add (.int k a) (.int k b) = some (.int k (k.wrap (a + b))) := by simp [pBin, abin, ibin]
@[simp] theorem pBin_sub (k : IntKind) (a b : Int) : pBin .sub (.int k a) (.int k b) = some (.int k (k.wrap (a - b))) := by simp [pBin, abin, ibin]
@[simp] theorem pBin_mul (k : IntKind) (a b : Int) : pBin .mul (.int k a) (.int k b) = some (.int k (k.wrap (a * b))) := by simp [pBin, abin, ibin]
@[simp] theorem pBin_eql (k : IntKind) (a b : Int) : pBin .eql (.int k a) (.int k b) = some (.bool (decide (a = b))) := by simp [pBin, abin, ibin, eqI_spec]; rfl
@[simp] theorem pBin_neq (k : IntKind) (a b : Int) : pBin .neq (.int k a) (.int k b) = some (.bool (decide (a ≠ b))) := by simp [pBin, abin, ibin, eqI_spec]; rfl
@[simp] theorem pBin_lss (k : IntKind) (a b : Int) : pBin .lss (.int k a) (.int k b) = some (.bool (decide (a < b))) := by simp [pBin, abin, ibin, ltI_spec]
@[simp] theorem pBin_gtr (k : IntKind) (a b : Int) : pBin .gtr (.int k a) (.int k b) = some (.bool (decide (b < a))) := by simp [pBin, abin, ibin, ltI_spec]
@[simp] theorem pBin_leq (k : IntKind) (a b : Int) : pBin .leq (.int k a) (.int k b) = some (.bool (decide (a ≤ b))) := by simp [pBin, abin, ibin, ltI_spec, ← Int.not_lt]
@[simp] theorem pBin_geq (k : IntKind) (a b : Int) : pBin .geq (.int k a) (.int k b) = some (.bool (decide (b ≤ a))) := by simp [pBin, abin, ibin, ltI_spec, ← Int.not_lt]

@[simp] theorem pEq_ptr_nil (neg c : Bool) (l : Loc) (o : Nat) : pEq P neg .ptr c (.ptr l o) .nilp h = some (.bool neg) := by cases neg <;> rfl
@[simp] theorem pEq_nil_ptr (neg c : Bool) (l : Loc) (o : Nat) : pEq P neg .ptr c .nilp (.ptr l o) h = some (.bool neg) := by cases neg <;> rfl
@[simp] theorem pEq_nil_nil (neg c : Bool) : pEq P neg .ptr c .nilp .nilp h = some (.bool !neg) := by cases neg <;> rfl
@[simp] theorem pEq_sl_nil (neg c : Bool) (l : Loc) (o n : Nat) (cp : Cap) : pEq P neg .slice c (.sl l o n cp) .nils h = some (.bool neg) := by cases neg <;> rfl
@[simp] theorem pEq_nils (neg c : Bool) : pEq P neg .slice c .nils .nils h = some (.bool !neg) := by cases neg <;> rfl
@[simp] theorem pEq_nili (neg : Bool) : pEq P neg .iface true .nili .nili h = some (.bool !neg) := by cases neg <;> rfl
@[simp] theorem pEq_iface_nili (neg c : Bool) (t : TypeId) (v : AVal) : pEq P neg .iface c (.iface t v) .nili h = some (.bool neg) := by cases neg <;> rfl
@[simp] theorem pEq_bool (neg c : Bool) (a b : Bool) : pEq P neg .bool c (.bool a) (.bool b) h = some (.bool (if neg then !(a == b) else (a == b))) := rfl

theorem wrap_in {n : Int} (h0 : -9223372036854775808 ≤ n) (h1 : n < 9223372036854775808) : IntKind.i64.wrap n = n := by
  simp [IntKind.wrap, IntKind.bits, IntKind.signed]; omega

/-! heaps -/
@[simp] theorem AHeap.next_alloc (b : Blk) : (h.alloc b).next = h.next + 1 := rfl
@[simp] theorem AHeap.next_set (k : Nat) (b : Blk) : (h.set k b).next = h.next := rfl
@[simp] theorem AHeap.next_kill (k : Nat) : (h.kill k).next = h.next := rfl
/-- The same number (simp does not look into it). -/
def AHeap.At (a b : Nat) : Prop := a = b
theorem AHeap.room_of (hn : h.next + 2 ≤ 16777216) : h.room = true := Nat.ble_eq_true_of_le hn
theorem AHeap.alloc_at {b : Blk} {k : Nat} (hn : h.next + 2 ≤ 16777216) (hk : AHeap.At k h.next) : (h.alloc b).get k = some b := by
  unfold AHeap.At at hk
  rw [AHeap.get_alloc (AHeap.room_of hn), if_pos hk]
theorem AHeap.alloc_ne {b : Blk} {k : Nat} (hn : h.next + 2 ≤ 16777216) (hk : k ≠ h.next) : (h.alloc b).get k = h.get k := by
  rw [AHeap.get_alloc (AHeap.room_of hn), if_neg hk]
theorem AHeap.set_at {b : Blk} {k m : Nat} (hn : k + 1 < 16777216) (hk : AHeap.At m k) : (h.set k b).get m = some b := by
  unfold AHeap.At at hk
  rw [AHeap.get_set hn, if_pos hk]
theorem AHeap.set_ne {b : Blk} {k m : Nat} (hn : k + 1 < 16777216) (hk : m ≠ k) : (h.set k b).get m = h.get m := by
  rw [AHeap.get_set hn, if_neg hk]
theorem AHeap.kill_ne {k m : Nat} (hn : k + 1 < 16777216) (hk : m ≠ k) : (h.kill k).get m = h.get m := by
  rw [AHeap.get_kill hn, if_neg hk]

theorem sAlloc_eq {z : List AVal} (hn : h.next + 2 ≤ 16777216) : sAlloc z h = some (.ptr (.own h.next) 0, h.alloc ⟨z, true⟩) := by simp only [sAlloc, AHeap.room_of hn]
theorem sBox_eq {x : AVal} (hn : h.next + 2 ≤ 16777216) : sBox x h = some (.ptr (.own h.next) 0, h.alloc ⟨x.cells, true⟩) := by simp only [sBox, AHeap.room_of hn]
theorem sBuildSlice_eq {z : List AVal} {n : Nat} {ps : List (Nat × Nat × AVal)} {cs : List AVal} (hf : fillV (zeros z (n * z.length)) ps = some cs) (hn : h.next + 2 ≤ 16777216) :
    sBuildSlice z n ps h = some (.sl (.own h.next) 0 n (.known n), h.alloc ⟨cs, true⟩) := by simp only [sBuildSlice, hf, AHeap.room_of hn]
theorem sStore_own {n k o : Nat} {x : AVal} {b b' : Blk} (hk : h.get k = some b) (hl : x.cells.length = n) (hw : b.wr o x.cells = some b') : sStore n (.ptr (.own k) o) x h = some (aundef, h.set k b') := by
  have : Nat.beq (lenK x.cells) n = true := by rw [lenK_eq, hl]; exact Nat.beq_refl n
  simp only [sStore, hk, this, Blk.wrK_eq, hw]
/-! checks of draws -/
@[simp] theorem sSame_some (v v' : AVal) : sSame (some (v', h)) v = v'.eqb v := rfl
@[simp] theorem eqb_int (k : IntKind) (n : Int) : (AVal.int k n).eqb (.int k n) = true := by simp [AVal.eqb]
@[simp] theorem eqb_bool (b : Bool) : (AVal.bool b).eqb (.bool b) = true := by simp [AVal.eqb]
@[simp] theorem eqb_agg (a b : List AVal) : (AVal.agg a).eqb (.agg b) = AVal.eqbs a b := by simp [AVal.eqb]
@[simp] theorem eqb_tuple (a b : List AVal) : (AVal.tuple a).eqb (.tuple b) = AVal.eqbs a b := by simp [AVal.eqb]
@[simp] theorem eqbs_nil : AVal.eqbs [] [] = true := by simp [AVal.eqbs]
@[simp] theorem eqbs_cons (a b : AVal) (x y : List AVal) : AVal.eqbs (a :: x) (b :: y) = (a.eqb b && AVal.eqbs x y) := by simp [AVal.eqbs]
@[simp] theorem eqb_nilp : AVal.nilp.eqb .nilp = true := by simp [AVal.eqb]
@[simp] theorem eqb_nils : AVal.nils.eqb .nils = true := by simp [AVal.eqb]
@[simp] theorem eqb_nili : AVal.nili.eqb .nili = true := by simp [AVal.eqb]
@[simp] theorem Loc.eqb_self (l : Loc) : l.eqb l = true := by cases l <;> simp [Loc.eqb]
@[simp] theorem Cap.eqb_self (c : Cap) : c.eqb c = true := by cases c <;> simp [Cap.eqb]
@[simp] theorem eqb_ptr (l : Loc) (o : Nat) : (AVal.ptr l o).eqb (.ptr l o) = true := by simp [AVal.eqb]
@[simp] theorem eqb_sl (l : Loc) (o n : Nat) (c : Cap) : (AVal.sl l o n c).eqb (.sl l o n c) = true := by simp [AVal.eqb]
@[simp] theorem eqb_iface (t : TypeId) (a b : AVal) : (AVal.iface t a).eqb (.iface t b) = a.eqb b := by simp [AVal.eqb]
@[simp] theorem natsEq_self : ∀ (s : List Nat), natsEq s s = true
  | [] => rfl
  | a :: s => by simp [natsEq, natsEq_self s]
@[simp] theorem eqb_str (s : List Nat) : (AVal.str s).eqb (.str s) = true := by simp [AVal.eqb]

/-- From a heap to a later one that has made at most 'c' blocks more and turned none. -/
structure Ext (c : Nat) (h h' : AHeap) : Prop where
  lo : h.next ≤ h'.next
  hi : h'.next ≤ h.next + c
  same : ∀ k, k < h.next → h'.get k = h.get k
theorem Ext.refl (h : AHeap) : Ext 0 h h := ⟨Nat.le_refl _, Nat.le_refl _, fun _ _ => rfl⟩
theorem Ext.trans {a b : Nat} {h1 h2 h3 : AHeap} (e : Ext a h1 h2) (e' : Ext b h2 h3) : Ext (a + b) h1 h3 :=
  ⟨Nat.le_trans e.lo e'.lo, by have := e.hi; have := e'.hi; omega, fun k hk => (e'.same k (Nat.lt_of_lt_of_le hk e.lo)).trans (e.same k hk)⟩
theorem Ext.le {a b : Nat} {h1 h2 : AHeap} (e : Ext a h1 h2) (hab : a ≤ b) : Ext b h1 h2 := ⟨e.lo, by have := e.hi; omega, e.same⟩
theorem Ext.alloc {a : Nat} {h1 h2 : AHeap} (e : Ext a h1 h2) {b : Blk} (hn : h2.next + 2 ≤ 16777216) : Ext (a + 1) h1 (h2.alloc b) :=
  ⟨by have := e.lo; simp; omega, by have := e.hi; simp; omega, fun k hk => by rw [AHeap.alloc_ne hn (by have := e.lo; omega)]; exact e.same k hk⟩
theorem Ext.set {a : Nat} {h1 h2 : AHeap} (e : Ext a h1 h2) {k : Nat} {b : Blk} (hn : k + 1 < 16777216) (hk : h1.next ≤ k) : Ext a h1 (h2.set k b) :=
  ⟨e.lo, e.hi, fun m hm => by rw [AHeap.set_ne hn (by omega)]; exact e.same m hm⟩

/-! reading and writing, whatever the heap -/
@[simp] theorem rd_own' (k o : Nat) : rd I h (.own k) o = (h.get k).bind fun b => b.cells[o]? := by
  simp only [rd]; cases h.get k <;> rfl
@[simp] theorem rds_own' (k o n : Nat) : rds I h (.own k) o n = (h.get k).bind fun b => if o + n ≤ b.cells.length then some ((b.cells.drop o).take n) else none := by
  simp only [rds]
  cases h.get k with
  | none => rfl
  | some b =>
    simp only [Option.bind_some]
    by_cases hl : o + n ≤ b.cells.length
    · rw [if_pos hl, Nat.ble_eq_true_of_le hl]
    · have : Nat.ble (o + n) b.cells.length = false := by
        cases hx : Nat.ble (o + n) b.cells.length with
        | false => rfl
        | true => exact absurd (Nat.le_of_ble_eq_true hx) hl
      rw [if_neg hl, this]
@[simp] theorem wr_mk (cells : List AVal) (p : Bool) (o : Nat) (cs : List AVal) : (⟨cells, p⟩ : Blk).wr o cs = if o + cs.length ≤ cells.length ∧ cs.all AVal.one = true then some ⟨setR cells o cs, p⟩ else none := by
  unfold Blk.wr
  have hble : Nat.ble (o + cs.length) cells.length = decide (o + cs.length ≤ cells.length) := by rw [Bool.eq_iff_iff]; simp
  simp only [hble]
  by_cases hl : o + cs.length ≤ cells.length <;> by_cases h1 : cs.all AVal.one = true
  · simp only [hl, h1, and_self, if_true, decide_true, Bool.true_and]
  · have : cs.all AVal.one = false := by simpa using h1
    rw [this]; simp [hl]
  · simp only [hl, decide_false, Bool.false_and, false_and, if_false]
  · simp only [hl, decide_false, Bool.false_and, false_and, if_false]
@[simp] theorem sStore_own' (n k o : Nat) (x : AVal) : sStore n (.ptr (.own k) o) x h = (h.get k).bind fun b => if x.cells.length = n then (b.wr o x.cells).map fun b' => (aundef, h.set k b') else none := by
  simp only [sStore, lenK_eq, Blk.wrK_eq]
  cases h.get k with
  | none => rfl
  | some b =>
    simp only [Option.bind_some, beq_iff]
    by_cases hl : x.cells.length = n
    · simp only [hl, decide_true, if_true]; cases b.wr o x.cells <;> rfl
    · simp only [hl, decide_false, if_false]

/-- An append to nil. -/
theorem sAppend_nils {sz bytes k n : Nat} {news : List AVal} {p : Bool} {c : Cap} (hk : h.get k = some ⟨news, p⟩) (hl : news.length = (n + 1) * sz) (h1 : news.all AVal.one = true) (hb : (n + 1) * bytes ≤ bigRoom ∧ n + 1 ≤ bigRoom) (hn : h.next + 2 ≤ 16777216) :
    sAppend I sz bytes .nils (.sl (.own k) 0 (n + 1) c) h = some (.sl (.own h.next) 0 (n + 1) (.grown sz), h.alloc ⟨news, true⟩) := by
  simp only [sAppend, appendK_eq, appendTo, srcCells, rds_own', hk, Option.bind_some]
  rw [if_pos (by simp [hl])]
  simp only [List.drop_zero, ← hl, List.take_length, h1]
  rw [AHeap.room_of hn, Nat.ble_eq_true_of_le hb.1, Nat.ble_eq_true_of_le hb.2]
  rfl

/-- An append to a slice that was grown and is full. -/
theorem sAppend_full {sz bytes k n kx len : Nat} {news olds : List AVal} {p px : Bool} {c : Cap} (hk : h.get k = some ⟨news, p⟩) (hl : news.length = (n + 1) * sz) (h1 : news.all AVal.one = true) (hkx : h.get kx = some ⟨olds, px⟩) (hlx : olds.length = len * sz) (h1x : olds.all AVal.one = true)
    (hsz : 0 < sz) (hb : (len + (n + 1)) * bytes ≤ bigRoom ∧ len + (n + 1) ≤ bigRoom) (hn : h.next + 2 ≤ 16777216) :
    sAppend I sz bytes (.sl (.own kx) 0 len (.grown sz)) (.sl (.own k) 0 (n + 1) c) h = some (.sl (.own h.next) 0 (len + (n + 1)) (.grown sz), (h.kill kx).alloc ⟨olds ++ news, px⟩) := by
  simp only [sAppend, appendK_eq, appendTo, srcCells, rds_own', hk, Option.bind_some]
  rw [if_pos (by simp [hl])]
  simp only [List.drop_zero, ← hl, List.take_length, h1, hkx]
  rw [Nat.ble_eq_true_of_le hb.1, Nat.ble_eq_true_of_le hb.2]
  have hle : Nat.ble (0 + olds.length) olds.length = true := Nat.ble_eq_true_of_le (by omega)
  have hgt : Nat.ble (0 + olds.length + news.length) olds.length = false := by
    cases hx : Nat.ble (0 + olds.length + news.length) olds.length with
    | false => rfl
    | true =>
      have := Nat.le_of_ble_eq_true hx
      have : 0 < (n + 1) * sz := Nat.mul_pos (by omega) hsz
      omega
  simp only [Bool.and_self, Nat.beq_refl, AHeap.room_of hn, ← hlx, List.take_length, h1x, hle, hgt]
end
end

end Go.AM
