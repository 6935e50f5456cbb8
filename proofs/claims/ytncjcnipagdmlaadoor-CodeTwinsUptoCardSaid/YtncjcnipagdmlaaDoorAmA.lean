/- The abstract machine AM, merged, part 0: a deterministic evaluator of the program that is proved sound for the model. Conditions: as each lemma says. -/
import Derived.Orders
import Derived.LoopN
import Derived.Below
import Derived.Laws.MakeOwn
import Derived.WalkKit
import Derived.Laws.CopyRow
import Derived.WideLaws
import Derived.LaidEqlPtr
import Derived.Lib.Strings
import Derived.Laws.StructEq
import Derived.Laws.Tables
import Derived.Laws.BytesString
import Derived.Laws.IdiomStrings
import Derived.Great.BuildSlice
/- AM, part 1: the abstract machine's values, tries, heaps; how they stand for the model's values and worlds. Conditions: none (definitions and lemmas). -/
namespace Go.AM
noncomputable section
open Go.RowKit

/-- A block: of the world at the call's begin (by its number), or made by the call (by an abstract number). -/
inductive Loc where
  | inp (b : Nat)
  | own (k : Nat)
  deriving DecidableEq, Inhabited

/-- A slice's capacity: it is known; or the slice was grown by append (its element has 'sz' cells) and reaches at least to the end of the known cells of its block. -/
inductive Cap where
  | known (c : Nat)
  | grown (sz : Nat)
  deriving DecidableEq, Inhabited

/-- Abstract values. A string is its bytes. 'sl l o len cap': a slice that is not nil: at cell 'o' of block 'l', 'len' elements; its capacity. -/
inductive AVal where
  | bool (b : Bool)
  | int (k : IntKind) (n : Int)
  | str (s : List Nat)
  | nilp
  | ptr (l : Loc) (o : Nat)
  | nils
  | sl (l : Loc) (o len : Nat) (cap : Cap)
  | nilf
  | func (fn : Fn) (first captured : List AVal)
  | nili
  | iface (t : TypeId) (v : AVal)
  | agg (cs : List AVal)
  | tuple (vs : List AVal)
  | nilm
  | map (k : Nat)
  | iter (k : Nat)
  | lin (cs : List Int) (c : Int)
  deriving Inhabited

abbrev aundef : AVal := .tuple []

def AVal.cells : AVal → List AVal
  | .agg cs => cs
  | v => [v]

/-! ### tries -/
inductive Tr (α : Type) where
  | nil
  | node (v : Option α) (l r : Tr α)
  deriving Inhabited

/- by recursors: the kernel reduces these quickest -/
def Tr.get {α : Type} (t : Tr α) : Nat → Option α :=
  Tr.rec (motive := fun _ => Nat → Option α) (fun _ => none) (fun v _ _ ihl ihr n => Bool.rec (Bool.rec (ihr (Nat.sub (Nat.div n 2) 1)) (ihl (Nat.div n 2)) (Nat.beq (Nat.mod n 2) 1)) v (Nat.beq n 0)) t

def Tr.put {α : Type} (d : Nat) : Tr α → Nat → Option α → Tr α :=
  Nat.rec (motive := fun _ => Tr α → Nat → Option α → Tr α) (fun t _ _ => t) (fun _ ih t n x =>
    Tr.rec (motive := fun _ => Tr α)
      (Bool.rec (Bool.rec (.node none .nil (ih .nil (Nat.sub (Nat.div n 2) 1) x)) (.node none (ih .nil (Nat.div n 2) x) .nil) (Nat.beq (Nat.mod n 2) 1)) (.node x .nil .nil) (Nat.beq n 0))
      (fun v l r _ _ => Bool.rec (Bool.rec (.node v l (ih r (Nat.sub (Nat.div n 2) 1) x)) (.node v (ih l (Nat.div n 2) x) r) (Nat.beq (Nat.mod n 2) 1)) (.node x l r) (Nat.beq n 0)) t) d

theorem beq_if {β : Type} (a b : β) (n m : Nat) : (Bool.rec a b (Nat.beq n m) : β) = if n = m then b else a := by
  by_cases h : n = m
  · have : Nat.beq n m = true := by rw [h]; simp
    rw [this, if_pos h]
  · have : Nat.beq n m = false := by cases hh : Nat.beq n m <;> simp_all
    rw [this, if_neg h]

theorem Tr.get_nil {α : Type} (n : Nat) : (Tr.nil : Tr α).get n = none := rfl
theorem Tr.get_node {α : Type} (v : Option α) (l r : Tr α) (n : Nat) :
    (Tr.node v l r).get n = if n = 0 then v else if n % 2 = 1 then l.get (n / 2) else r.get (n / 2 - 1) := by
  show (Bool.rec (Bool.rec (r.get (n / 2 - 1)) (l.get (n / 2)) (Nat.beq (n % 2) 1)) v (Nat.beq n 0) : Option α) = _
  rw [beq_if, beq_if]

def Tr.top {α : Type} : Tr α → Option α × Tr α × Tr α
  | .nil => (none, .nil, .nil)
  | .node v l r => (v, l, r)

theorem Tr.get_top {α : Type} (t : Tr α) (n : Nat) :
    t.get n = if n = 0 then t.top.1 else if n % 2 = 1 then t.top.2.1.get (n / 2) else t.top.2.2.get (n / 2 - 1) := by
  cases t with
  | nil => simp [Tr.top, Tr.get_nil]
  | node v l r => simp [Tr.top, Tr.get_node]

theorem Tr.put_succ {α : Type} (f : Nat) (t : Tr α) (n : Nat) (x : Option α) :
    Tr.put (f + 1) t n x = if n = 0 then .node x t.top.2.1 t.top.2.2 else if n % 2 = 1 then .node t.top.1 (Tr.put f t.top.2.1 (n / 2) x) t.top.2.2
      else .node t.top.1 t.top.2.1 (Tr.put f t.top.2.2 (n / 2 - 1) x) := by
  cases t with
  | nil =>
    show (Bool.rec (Bool.rec (.node none .nil (Tr.put f .nil (n / 2 - 1) x)) (.node none (Tr.put f .nil (n / 2) x) .nil) (Nat.beq (n % 2) 1)) (.node x .nil .nil) (Nat.beq n 0) : Tr α) = _
    rw [beq_if, beq_if]; rfl
  | node v l r =>
    show (Bool.rec (Bool.rec (.node v l (Tr.put f r (n / 2 - 1) x)) (.node v (Tr.put f l (n / 2) x) r) (Nat.beq (n % 2) 1)) (.node x l r) (Nat.beq n 0) : Tr α) = _
    rw [beq_if, beq_if]; rfl

theorem Tr.get_put {α : Type} : ∀ (f : Nat) (t : Tr α) (n m : Nat) (x : Option α), n + 1 < 2 ^ f →
    (Tr.put f t n x).get m = if m = n then x else t.get m := by
  intro f
  induction f with
  | zero => intro t n m x h; simp at h
  | succ f ih =>
    intro t n m x h
    have h2 : 2 ^ (f + 1) = 2 * 2 ^ f := by rw [Nat.pow_succ]; omega
    rw [Tr.put_succ, Tr.get_top t m]
    by_cases hn : n = 0
    · subst hn
      simp only [if_true, Tr.get_node]
      by_cases hm : m = 0
      · simp [hm]
      · simp [hm]
    · rw [if_neg hn]
      by_cases hn1 : n % 2 = 1
      · rw [if_pos hn1]
        simp only [Tr.get_node]
        by_cases hm : m = 0
        · subst hm; simp [show ¬ (0 = n) from fun e => hn e.symm]
        · simp only [if_neg hm]
          by_cases hm1 : m % 2 = 1
          · simp only [if_pos hm1]
            rw [ih _ _ _ _ (by omega)]
            by_cases he : m = n
            · simp [he]
            · rw [if_neg he, if_neg (by omega)]
          · simp only [if_neg hm1]
            rw [if_neg (by intro e; subst e; exact hm1 hn1)]
      · rw [if_neg hn1]
        simp only [Tr.get_node]
        by_cases hm : m = 0
        · subst hm; simp [show ¬ (0 = n) from fun e => hn e.symm]
        · simp only [if_neg hm]
          by_cases hm1 : m % 2 = 1
          · simp only [if_pos hm1]
            rw [if_neg (by intro e; subst e; exact hn1 hm1)]
          · simp only [if_neg hm1]
            rw [ih _ _ _ _ (by omega)]
            by_cases he : m = n
            · simp [he]
            · rw [if_neg he, if_neg (by omega)]

/-! ### heaps and frames -/
/-- A block's cells; 'plain': it was made by no conversion of a string. -/
structure Blk where
  cells : List AVal
  plain : Bool := true
  deriving Inhabited

abbrev depthF : Nat := 14

structure AHeap where
  t : Tr Blk
  next : Nat
  deriving Inhabited

def AHeap.get (h : AHeap) (k : Nat) : Option Blk := h.t.get k
/-- There is room always: a trie is as deep as it must be. -/
def AHeap.room (_ : AHeap) : Bool := true
theorem lt_pow_self (n : Nat) : n + 1 < 2 ^ (n + 2) := by
  induction n with
  | zero => decide
  | succ n ih => rw [Nat.pow_succ]; omega
def AHeap.set (h : AHeap) (k : Nat) (b : Blk) : AHeap := ⟨Tr.put (k + 2) h.t k (some b), h.next⟩
def AHeap.kill (h : AHeap) (k : Nat) : AHeap := ⟨Tr.put (k + 2) h.t k none, h.next⟩
def AHeap.alloc (h : AHeap) (b : Blk) : AHeap := ⟨Tr.put (h.next + 2) h.t h.next (some b), h.next + 1⟩

theorem AHeap.get_set {h : AHeap} {k : Nat} {b : Blk} (m : Nat) : (h.set k b).get m = if m = k then some b else h.get m := by
  unfold AHeap.set AHeap.get
  exact Tr.get_put (k + 2) h.t k m (some b) (lt_pow_self k)
theorem AHeap.get_kill {h : AHeap} {k : Nat} (m : Nat) : (h.kill k).get m = if m = k then none else h.get m := by
  unfold AHeap.kill AHeap.get
  exact Tr.get_put (k + 2) h.t k m none (lt_pow_self k)
theorem AHeap.get_alloc {h : AHeap} {b : Blk} (m : Nat) : (h.alloc b).get m = if m = h.next then some b else h.get m := by
  unfold AHeap.alloc AHeap.get
  exact Tr.get_put (h.next + 2) h.t h.next m (some b) (lt_pow_self h.next)

abbrev Fr := Tr AVal
def Fr.get (f : Fr) (t : Nat) : AVal := (Tr.get f t).getD aundef
def Fr.put (f : Fr) (t : Nat) (v : AVal) : Fr := Tr.put depthF f t (some v)
theorem Fr.get_put {f : Fr} {t : Nat} {v : AVal} (ht : t + 1 < 2 ^ depthF) (m : Nat) : (f.put t v).get m = if m = t then v else f.get m := by
  unfold Fr.get Fr.put
  rw [Tr.get_put _ _ _ _ _ ht]
  by_cases h : m = t <;> simp [h]

/-! ### how they stand for the model's -/
/-- Where a block of the call's own lies: its first abstract cell is cell 'off' of block 'blk'; 'n' cells are known, 'room' cells there are. (Less room than is known, by one: the block is a map; by two: a walk over a map.) -/
structure Pl where
  blk : Nat
  off : Nat
  n : Nat
  room : Nat

abbrev Map := Nat → Option Pl

/-- What comes from without: numbers, by their places; where the blocks lie that are known by odd numbers (an even number is twice a block's own). -/
class Sig where
  val : Nat → Int
  far : Nat → Nat × Nat
instance (priority := low) Sig.zero : Sig := ⟨fun _ => 0, fun _ => (0, 0)⟩
def place [Sig] (k : Nat) : Nat × Nat := if k % 2 = 0 then (k / 2, 0) else Sig.far (k / 2)
theorem place_even [Sig] (b : Nat) : place (2 * b) = (b, 0) := by
  unfold place
  rw [if_pos (by omega)]
  congr 1; omega
theorem place_odd [Sig] (b : Nat) : place (2 * b + 1) = Sig.far b := by
  unfold place
  rw [if_neg (by omega)]
  congr 1; omega

def Loc.at [Sig] (ι : Map) (l : Loc) (o : Nat) (a : Addr) : Prop :=
  match l with
  | .inp b => a = ⟨(place b).1, (place b).2 + o, none⟩
  | .own k => ∃ pl, ι k = some pl ∧ pl.n ≤ pl.room ∧ a = ⟨pl.blk, pl.off + o, none⟩

def capOk (ι : Map) (l : Loc) (o c : Nat) : Cap → Prop
  | .known c' => c = c'
  | .grown sz => ∃ k pl, l = .own k ∧ ι k = some pl ∧ pl.n ≤ o + c * sz ∧ o + c * sz ≤ pl.room ∧ 0 < sz ∧ c ≤ 9223372036854775807

/-- A sum of so many of each number from the i-th on. -/
def dotFrom [Sig] : List Int → Nat → Int
  | [], _ => 0
  | a :: r, i => a * Sig.val i + dotFrom r (i + 1)

set_option linter.unusedSectionVars false
variable [Sig]
mutual
inductive VRel (ι : Map) : AVal → Value → Prop where
  | bool (b : Bool) : VRel ι (.bool b) (.bool b)
  | int (k : IntKind) (n : Int) : VRel ι (.int k n) (.int k n)
  | str (s : ByteArray) (l : List Nat) : l = s.data.toList.map UInt8.toNat → VRel ι (.str l) (.string s)
  | nilp : VRel ι .nilp (.pointer none)
  | ptr (l : Loc) (o : Nat) (a : Addr) : l.at ι o a → VRel ι (.ptr l o) (.pointer (some a))
  | nils : VRel ι .nils (.slice none 0 0)
  | sl (l : Loc) (o len : Nat) (cap : Cap) (a : Addr) (c : Nat) : len ≤ c → (0 < c → l.at ι o a) → capOk ι l o c cap →
      VRel ι (.sl l o len cap) (.slice (some a) len c)
  | nilf : VRel ι .nilf .nilFunc
  | func (fn : Fn) (f c : List AVal) (f' c' : Array Value) : VRels ι f f'.toList → VRels ι c c'.toList → VRel ι (.func fn f c) (.func fn f' c')
  | nili : VRel ι .nili .nilIface
  | iface (t : TypeId) (v : AVal) (u : Value) : VRel ι v u → VRel ι (.iface t v) (.iface t u)
  | agg (cs : List AVal) (us : Array Value) : VRels ι cs us.toList → VRel ι (.agg cs) (.agg us)
  | tuple (cs : List AVal) (us : Array Value) : VRels ι cs us.toList → VRel ι (.tuple cs) (.tuple us)
  | nilm : VRel ι .nilm (.map none)
  | map (k : Nat) (pl : Pl) : ι k = some pl → pl.n = pl.room + 1 → VRel ι (.map k) (.map (some pl.blk))
  | iter (k : Nat) (pl : Pl) : ι k = some pl → pl.n = pl.room + 2 → VRel ι (.iter k) (.pointer (some ⟨pl.blk, 0, none⟩))
  | lin (cs : List Int) (c : Int) : VRel ι (.lin cs c) (.int .i64 (IntKind.i64.wrap (c + dotFrom cs 0)))
inductive VRels (ι : Map) : List AVal → List Value → Prop where
  | nil : VRels ι [] []
  | cons {v : AVal} {u : Value} {vs : List AVal} {us : List Value} : VRel ι v u → VRels ι vs us → VRels ι (v :: vs) (u :: us)
end

def Map.le (ι ι' : Map) : Prop := ∀ k pl, ι k = some pl → ι' k = some pl
theorem Map.le_refl (ι : Map) : ι.le ι := fun _ _ h => h
theorem Map.le_trans {a b c : Map} (h : a.le b) (h' : b.le c) : a.le c := fun k pl hk => h' k pl (h k pl hk)

theorem Loc.at_mono {ι ι' : Map} (h : ι.le ι') {l : Loc} {o : Nat} {a : Addr} (ha : l.at ι o a) : l.at ι' o a := by
  cases l with
  | inp b => exact ha
  | own k => obtain ⟨pl, hp, e⟩ := ha; exact ⟨pl, h _ _ hp, e⟩
theorem capOk_mono {ι ι' : Map} (h : ι.le ι') {l : Loc} {o c : Nat} {cap : Cap} (hc : capOk ι l o c cap) : capOk ι' l o c cap := by
  cases cap with
  | known c' => exact hc
  | grown sz => obtain ⟨k, pl, e, hp, h1, h2⟩ := hc; exact ⟨k, pl, e, h _ _ hp, h1, h2⟩

mutual
theorem VRel.mono {ι ι' : Map} (h : ι.le ι') : ∀ {v : AVal} {u : Value}, VRel ι v u → VRel ι' v u
  | _, _, .bool b => .bool b
  | _, _, .int k n => .int k n
  | _, _, .str s l e => .str s l e
  | _, _, .nilp => .nilp
  | _, _, .ptr l o a ha => .ptr l o a (Loc.at_mono h ha)
  | _, _, .nils => .nils
  | _, _, .sl l o len cap a c h1 h2 h3 => .sl l o len cap a c h1 (fun hc => Loc.at_mono h (h2 hc)) (capOk_mono h h3)
  | _, _, .nilf => .nilf
  | _, _, .func fn f c f' c' h1 h2 => .func fn f c f' c' (VRels.mono h h1) (VRels.mono h h2)
  | _, _, .nili => .nili
  | _, _, .iface t v u hv => .iface t v u (VRel.mono h hv)
  | _, _, .agg cs us hs => .agg cs us (VRels.mono h hs)
  | _, _, .tuple cs us hs => .tuple cs us (VRels.mono h hs)
  | _, _, .nilm => .nilm
  | _, _, .map k pl hp hl => .map k pl (h _ _ hp) hl
  | _, _, .iter k pl hp hl => .iter k pl (h _ _ hp) hl
  | _, _, .lin cs c => .lin cs c
theorem VRels.mono {ι ι' : Map} (h : ι.le ι') : ∀ {vs : List AVal} {us : List Value}, VRels ι vs us → VRels ι' vs us
  | _, _, .nil => .nil
  | _, _, .cons hv hs => .cons (VRel.mono h hv) (VRels.mono h hs)
end

theorem VRels.length {ι : Map} : ∀ {vs : List AVal} {us : List Value}, VRels ι vs us → vs.length = us.length
  | _, _, .nil => rfl
  | _, _, .cons _ hs => by simp [VRels.length hs]
theorem VRels.get {ι : Map} : ∀ {vs : List AVal} {us : List Value}, VRels ι vs us → ∀ {i : Nat} {v : AVal}, vs[i]? = some v → ∃ u, us[i]? = some u ∧ VRel ι v u
  | _, _, .nil, i, v, h => by simp at h
  | _, _, .cons hv hs, i, v, h => by
    cases i with
    | zero => simp at h; subst h; exact ⟨_, rfl, hv⟩
    | succ i => simp at h; obtain ⟨u, hu, hr⟩ := VRels.get hs h; exact ⟨u, by simpa using hu, hr⟩
theorem VRels.append {ι : Map} : ∀ {vs : List AVal} {us : List Value} {vs' : List AVal} {us' : List Value}, VRels ι vs us → VRels ι vs' us' → VRels ι (vs ++ vs') (us ++ us')
  | _, _, _, _, .nil, h => h
  | _, _, _, _, .cons hv hs, h => .cons hv (VRels.append hs h)
theorem VRels.take {ι : Map} : ∀ {vs : List AVal} {us : List Value} (n : Nat), VRels ι vs us → VRels ι (vs.take n) (us.take n)
  | _, _, 0, _ => by simpa using VRels.nil
  | _, _, n + 1, .nil => by simpa using VRels.nil
  | _, _, n + 1, .cons hv hs => by simpa using VRels.cons hv (VRels.take n hs)
theorem VRels.drop {ι : Map} : ∀ {vs : List AVal} {us : List Value} (n : Nat), VRels ι vs us → VRels ι (vs.drop n) (us.drop n)
  | _, _, 0, h => by simpa using h
  | _, _, n + 1, .nil => by simpa using VRels.nil
  | _, _, n + 1, .cons hv hs => by simpa using VRels.drop n hs
theorem VRels.of_get {ι : Map} : ∀ {vs : List AVal} {us : List Value}, vs.length = us.length → (∀ (i : Nat) v u, vs[i]? = some v → us[i]? = some u → VRel ι v u) → VRels ι vs us
  | [], [], _, _ => .nil
  | [], _ :: _, h, _ => by simp at h
  | _ :: _, [], h, _ => by simp at h
  | v :: vs, u :: us, h, hh => .cons (hh 0 v u rfl rfl) (VRels.of_get (by simpa using h) fun i v' u' h1 h2 => hh (i + 1) v' u' (by simpa using h1) (by simpa using h2))

theorem VRel.cells {ι : Map} {v : AVal} {u : Value} (h : VRel ι v u) : VRels ι v.cells u.cells.toList := by
  cases h <;> first
    | (rename_i hs; exact hs)
    | (simp only [AVal.cells, Value.cells]; exact .cons (by constructor <;> assumption) .nil)
    | (simp only [AVal.cells, Value.cells]; exact .cons (by assumption) .nil)

end

end Go.AM

/- AM, part 2: the abstract heap stands for a world; what is read, written and made. Conditions: as each lemma says. -/
namespace Go.AM
noncomputable section
open Go.RowKit
set_option linter.unusedSectionVars false
variable [Sig]

def AVal.one : AVal → Bool
  | .agg _ | .tuple _ => false
  | _ => true

theorem VRel.one {ι : Map} {v : AVal} {u : Value} (h : VRel ι v u) (h1 : v.one = true) : u.oneCell' = true := by
  cases h <;> first | rfl | exact h1

theorem VRels.one {ι : Map} : ∀ {vs : List AVal} {us : List Value}, VRels ι vs us → vs.all AVal.one = true → ∀ u ∈ us, u.oneCell' = true
  | _, _, .nil, _, u, hu => by cases hu
  | _, _, .cons hv hs, h, u, hu => by
    simp only [List.all_cons, Bool.and_eq_true] at h
    cases hu with
    | head => exact hv.one h.1
    | tail _ hm => exact VRels.one hs h.2 u hm

/-- A block of cells of the call's own lies in the world. -/
def CellsAt (ι : Map) (w : World) (b : Blk) (pl : Pl) : Prop :=
  ∃ (cs : Array Value) (e : TypeId) (fz : Nat × Nat), w.heap[pl.blk]? = some (.cells cs e fz) ∧ (∀ o, o < cs.size → ¬ (fz.1 ≤ o ∧ o < fz.2)) ∧ (b.plain = true → fz = (0, 0)) ∧
    pl.off + pl.room ≤ cs.size ∧ pl.n ≤ pl.room ∧ b.cells.length = pl.n ∧ ∀ i v, b.cells[i]? = some v → ∃ u, cs[pl.off + i]? = some u ∧ VRel ι v u

/-- An entry: its key, its value, its stamp. -/
abbrev entryV (m : MapEntry) : Value := .tuple #[m.key, m.val, .int .i64 m.born]
/-- A map of the call's own: its clock, then its entries in the order in which they came. -/
def MapAt (ι : Map) (w : World) (b : Blk) (pl : Pl) : Prop :=
  pl.n = pl.room + 1 ∧ ∃ (ms : Array MapEntry) (clock : Nat), w.heap[pl.blk]? = some (.map ms clock) ∧ VRels ι b.cells (.int .i64 clock :: ms.toList.map entryV)
/-- A walk over a map. -/
def IterAt (ι : Map) (w : World) (b : Blk) (pl : Pl) : Prop :=
  pl.n = pl.room + 2 ∧ ∃ (m : Option Nat) (since : Nat) (seen : Array Nat) (last : Nat), w.heap[pl.blk]? = some (.mapIter m since seen last) ∧ VRels ι b.cells [.map m, .int .i64 since, .int .i64 last, .tuple (seen.map fun (n : Nat) => Value.int .i64 (n : Int))]

/-- A block of the call's own lies in the world. -/
def BlkAt (ι : Map) (w : World) (b : Blk) (pl : Pl) : Prop := CellsAt ι w b pl ∨ MapAt ι w b pl ∨ IterAt ι w b pl

theorem BlkAt.lt {ι : Map} {w : World} {b : Blk} {pl : Pl} (h : BlkAt ι w b pl) : pl.blk < w.heap.size := by
  rcases h with ⟨cs, e, fz, hg, _⟩ | ⟨_, ms, c, hg, _⟩ | ⟨_, m, s, n, l, hg, _⟩
  · exact (Array.getElem?_eq_some_iff.1 hg).1
  · exact (Array.getElem?_eq_some_iff.1 hg).1
  · exact (Array.getElem?_eq_some_iff.1 hg).1
theorem CellsAt.keep {ι ι' : Map} {w w' : World} {b : Blk} {pl : Pl} (h : CellsAt ι w b pl) (hle : ι.le ι') (he : w'.heap[pl.blk]? = w.heap[pl.blk]?) : CellsAt ι' w' b pl := by
  obtain ⟨cs, e, fz, hg, h1, h2, h3, h4, h5, h6⟩ := h
  exact ⟨cs, e, fz, by rw [he]; exact hg, h1, h2, h3, h4, h5, fun i v hv => by obtain ⟨u, hu, hr⟩ := h6 i v hv; exact ⟨u, hu, hr.mono hle⟩⟩
theorem MapAt.keep {ι ι' : Map} {w w' : World} {b : Blk} {pl : Pl} (h : MapAt ι w b pl) (hle : ι.le ι') (he : w'.heap[pl.blk]? = w.heap[pl.blk]?) : MapAt ι' w' b pl := by
  obtain ⟨h0, ms, c, hg, h1⟩ := h
  exact ⟨h0, ms, c, by rw [he]; exact hg, h1.mono hle⟩
theorem IterAt.keep {ι ι' : Map} {w w' : World} {b : Blk} {pl : Pl} (h : IterAt ι w b pl) (hle : ι.le ι') (he : w'.heap[pl.blk]? = w.heap[pl.blk]?) : IterAt ι' w' b pl := by
  obtain ⟨h0, m, s, n, l, hg, h1⟩ := h
  exact ⟨h0, m, s, n, l, by rw [he]; exact hg, h1.mono hle⟩
theorem BlkAt.keep {ι ι' : Map} {w w' : World} {b : Blk} {pl : Pl} (h : BlkAt ι w b pl) (hle : ι.le ι') (he : w'.heap[pl.blk]? = w.heap[pl.blk]?) : BlkAt ι' w' b pl := by
  rcases h with h | h | h
  · exact .inl (h.keep hle he)
  · exact .inr (.inl (h.keep hle he))
  · exact .inr (.inr (h.keep hle he))
theorem BlkAt.cells {ι : Map} {w : World} {b : Blk} {pl : Pl} (h : BlkAt ι w b pl) (hr : pl.n ≤ pl.room) : CellsAt ι w b pl := by
  rcases h with h | h | h
  · exact h
  · have := h.1; omega
  · have := h.1; omega
theorem BlkAt.maps {ι : Map} {w : World} {b : Blk} {pl : Pl} (h : BlkAt ι w b pl) (hr : pl.n = pl.room + 1) : MapAt ι w b pl := by
  rcases h with ⟨cs, e, fz, _, _, _, _, hn, _⟩ | h | h
  · omega
  · exact h
  · have := h.1; omega
theorem BlkAt.iters {ι : Map} {w : World} {b : Blk} {pl : Pl} (h : BlkAt ι w b pl) (hr : pl.n = pl.room + 2) : IterAt ι w b pl := by
  rcases h with ⟨cs, e, fz, _, _, _, _, hn, _⟩ | h | h
  · omega
  · have := h.1; omega
  · exact h

structure Rep (W : World) (ι : Map) (h : AHeap) (w : World) : Prop where
  below : Below W.heap.size W w
  own : ∀ k b, h.get k = some b → ∃ pl, ι k = some pl ∧ W.heap.size ≤ pl.blk ∧ BlkAt ι w b pl
  inj : ∀ k k' b b' pl pl', h.get k = some b → h.get k' = some b' → ι k = some pl → ι k' = some pl' → pl.blk = pl'.blk → k = k'
  fresh : ∀ k, h.next ≤ k → ι k = none

theorem Rep.lt {W : World} {ι : Map} {h : AHeap} {w : World} (r : Rep W ι h w) {k : Nat} {b : Blk} (hk : h.get k = some b) : k < h.next := by
  obtain ⟨pl, hp, _⟩ := r.own k b hk
  rcases Nat.lt_or_ge k h.next with hh | hh
  · exact hh
  · rw [r.fresh k hh] at hp; cases hp

theorem Rep.map_lt {W : World} {ι : Map} {h : AHeap} {w : World} (r : Rep W ι h w) {k : Nat} {pl : Pl} (hk : ι k = some pl) : k < h.next := by
  rcases Nat.lt_or_ge k h.next with hh | hh
  · exact hh
  · rw [r.fresh k hh] at hk; cases hk

theorem Rep.live_lt {W : World} {ι : Map} {h : AHeap} {w : World} (r : Rep W ι h w) {k : Nat} {b : Blk} {pl : Pl} (hk : h.get k = some b) (hp : ι k = some pl) : pl.blk < w.heap.size := by
  obtain ⟨pl', hp', _, hb⟩ := r.own k b hk
  rw [hp] at hp'; cases hp'
  exact hb.lt
theorem Rep.cellsOf {W : World} {ι : Map} {h : AHeap} {w : World} (r : Rep W ι h w) {k o : Nat} {b : Blk} {a : Addr} (hk : h.get k = some b) (ha : (Loc.own k).at ι o a) :
    ∃ pl, ι k = some pl ∧ a = ⟨pl.blk, pl.off + o, none⟩ ∧ W.heap.size ≤ pl.blk ∧ CellsAt ι w b pl := by
  obtain ⟨pl, hp, hn, e⟩ := ha
  obtain ⟨pl', hp', hb, hblk⟩ := r.own k b hk
  rw [hp] at hp'; cases hp'
  exact ⟨pl, hp, e, hb, hblk.cells hn⟩
theorem Rep.mapOf {W : World} {ι : Map} {h : AHeap} {w : World} (r : Rep W ι h w) {k : Nat} {b : Blk} {u : Value} (hk : h.get k = some b) (hv : VRel ι (.map k) u) :
    ∃ pl, ι k = some pl ∧ u = .map (some pl.blk) ∧ W.heap.size ≤ pl.blk ∧ MapAt ι w b pl := by
  cases hv with
  | map _ pl hp hl =>
    obtain ⟨pl', hp', hb, hblk⟩ := r.own k b hk
    rw [hp] at hp'; cases hp'
    exact ⟨pl, hp, rfl, hb, hblk.maps hl⟩

theorem Rep.iterOf {W : World} {ι : Map} {h : AHeap} {w : World} (r : Rep W ι h w) {k : Nat} {b : Blk} {u : Value} (hk : h.get k = some b) (hv : VRel ι (.iter k) u) :
    ∃ pl, ι k = some pl ∧ u = .pointer (some ⟨pl.blk, 0, none⟩) ∧ W.heap.size ≤ pl.blk ∧ IterAt ι w b pl := by
  cases hv with
  | iter _ pl hp hl =>
    obtain ⟨pl', hp', hb, hblk⟩ := r.own k b hk
    rw [hp] at hp'; cases hp'
    exact ⟨pl, hp, rfl, hb, hblk.iters hl⟩

/-- From one state to a later one. -/
structure Step (W : World) (ι : Map) (h : AHeap) (w : World) (ι' : Map) (h' : AHeap) (w' : World) : Prop where
  le : ι.le ι'
  rep : Rep W ι' h' w'
  size : w.heap.size ≤ w'.heap.size
  next : h.next ≤ h'.next
  keeps : ∀ g, g < w.heap.size → (∀ k b pl, h.get k = some b → ι k = some pl → pl.blk ≠ g) →
    w'.heap[g]? = w.heap[g]? ∧ ∀ k b pl, h'.get k = some b → ι' k = some pl → pl.blk ≠ g
  old : ∀ k, k < h.next → ι' k = ι k
  dead : ∀ k, k < h.next → h.get k = none → h'.get k = none
  drawn : w.drawn ≤ w'.drawn

theorem Step.refl {W : World} {ι : Map} {h : AHeap} {w : World} (r : Rep W ι h w) : Step W ι h w ι h w :=
  ⟨Map.le_refl _, r, Nat.le_refl _, Nat.le_refl _, fun _ _ hk => ⟨rfl, hk⟩, fun _ _ => rfl, fun _ _ hk => hk, Nat.le_refl _⟩

theorem Step.trans {W : World} {ι ι1 ι2 : Map} {h h1 h2 : AHeap} {w w1 w2 : World} (s : Step W ι h w ι1 h1 w1) (s' : Step W ι1 h1 w1 ι2 h2 w2) : Step W ι h w ι2 h2 w2 :=
  ⟨Map.le_trans s.le s'.le, s'.rep, Nat.le_trans s.size s'.size, Nat.le_trans s.next s'.next, fun g hg hk => by
    obtain ⟨e1, k1⟩ := s.keeps g hg hk
    obtain ⟨e2, k2⟩ := s'.keeps g (Nat.lt_of_lt_of_le hg s.size) k1
    exact ⟨e2.trans e1, k2⟩, fun k hk => (s'.old k (Nat.lt_of_lt_of_le hk s.next)).trans (s.old k hk), fun k hk hn => s'.dead k (Nat.lt_of_lt_of_le hk s.next) (s.dead k hk hn), Nat.le_trans s.drawn s'.drawn⟩

/-- A draw. -/
theorem Rep.drew {W : World} {ι : Map} {h : AHeap} {w : World} (r : Rep W ι h w) : Rep W ι h w.drew :=
  ⟨r.below.drew, r.own, r.inj, r.fresh⟩
theorem Step.drew {W : World} {ι : Map} {h : AHeap} {w : World} (r : Rep W ι h w) : Step W ι h w ι h w.drew :=
  ⟨Map.le_refl _, r.drew, Nat.le_refl _, Nat.le_refl _, fun _ _ hk => ⟨rfl, hk⟩, fun _ _ => rfl, fun _ _ hk => hk, Nat.le_succ _⟩

/-! ### reading -/
/-- The cells at the call's begin. -/
abbrev Inp := Nat → Nat → Option AVal
def InpOk (W : World) (I : Inp) : Prop := ∀ b o v, I b o = some v → ∃ u, W.cell? ⟨(place b).1, (place b).2 + o, none⟩ = some u ∧ ∀ ι, VRel ι v u

def rdsInp (I : Inp) (b o : Nat) : Nat → Option (List AVal)
  | 0 => some []
  | n + 1 => match I b o with
    | none => none
    | some v => match rdsInp I b (o + 1) n with
      | none => none
      | some vs => some (v :: vs)

def rds (I : Inp) (h : AHeap) (l : Loc) (o n : Nat) : Option (List AVal) :=
  match l with
  | .inp b => rdsInp I b o n
  | .own k => match h.get k with
    | none => none
    | some b => match Nat.ble (o + n) b.cells.length with
      | true => some ((b.cells.drop o).take n)
      | false => none

def rd (I : Inp) (h : AHeap) (l : Loc) (o : Nat) : Option AVal :=
  match l with
  | .inp b => I b o
  | .own k => match h.get k with
    | none => none
    | some b => b.cells[o]?

theorem addr_add (b o j : Nat) : (⟨b, o, none⟩ : Addr).add j = ⟨b, o + j, none⟩ := by unfold Addr.add; split <;> simp_all

theorem rdsInp_sound {W : World} {I : Inp} (hI : InpOk W I) : ∀ (n b o : Nat) (cs : List AVal), rdsInp I b o n = some cs →
    cs.length = n ∧ ∃ us, (∀ ι, VRels ι cs us) ∧ ∀ j u, us[j]? = some u → W.cell? ⟨(place b).1, (place b).2 + (o + j), none⟩ = some u := by
  intro n
  induction n with
  | zero =>
    intro b o cs h
    simp only [rdsInp, Option.some.injEq] at h
    subst h
    exact ⟨rfl, [], fun _ => .nil, fun j u hj => by simp at hj⟩
  | succ n ih =>
    intro b o cs h
    simp only [rdsInp] at h
    split at h
    · cases h
    · rename_i v hv
      split at h
      · cases h
      · rename_i vs hvs
        simp only [Option.some.injEq] at h
        subst h
        obtain ⟨hl, us, hr, hc⟩ := ih b (o + 1) vs hvs
        obtain ⟨u, hu, hur⟩ := hI b o v hv
        refine ⟨by simp [hl], u :: us, fun ι => .cons (hur ι) (hr ι), fun j x hj => ?_⟩
        cases j with
        | zero => simp at hj; subst hj; exact hu
        | succ j =>
          have := hc j x (by simpa using hj)
          rw [show o + 1 + j = o + (j + 1) by omega] at this
          exact this

theorem rds_sound {W : World} {I : Inp} (hI : InpOk W I) {ι : Map} {h : AHeap} {w : World} (r : Rep W ι h w) {l : Loc} {o n : Nat} {cs : List AVal} {a : Addr}
    (hr : rds I h l o n = some cs) (ha : l.at ι o a) : cs.length = n ∧ ∃ us, VRels ι cs us ∧ ∀ j u, us[j]? = some u → w.cell? (a.add j) = some u := by
  cases l with
  | inp b =>
    obtain ⟨hl, us, h1, h2⟩ := rdsInp_sound hI n b o cs hr
    refine ⟨hl, us, h1 ι, fun j u hj => ?_⟩
    have hc := h2 j u hj
    have ha' : a = ⟨(place b).1, (place b).2 + o, none⟩ := ha
    subst ha'
    rw [addr_add, Nat.add_assoc]
    have hb : (place b).1 < W.heap.size := World.block_lt_of_cell? W ⟨(place b).1, (place b).2 + (o + j), none⟩ hc
    rw [r.below.cell (p := ⟨(place b).1, (place b).2 + (o + j), none⟩) hb]
    exact hc
  | own k =>
    simp only [rds] at hr
    split at hr
    · cases hr
    · rename_i b hb
      split at hr
      · rename_i hle
        have hle' := Nat.le_of_ble_eq_true hle
        simp only [Option.some.injEq] at hr
        subst hr
        obtain ⟨pl, hp, rfl, _, cs, e, fz, hg, _, _, hroom, hn, hlen, hcells⟩ := r.cellsOf hb ha
        have hlen2 : (List.take n (List.drop o b.cells)).length = n := by simp; omega
        refine ⟨hlen2, (cs.toList.drop (pl.off + o)).take n, ?_, ?_⟩
        · refine VRels.of_get (by simp; omega) fun i v u hv hu => ?_
          have hi : i < n := by
            have := (List.getElem?_eq_some_iff.1 hv).1
            rw [hlen2] at this; exact this
          rw [List.getElem?_take_of_lt hi, List.getElem?_drop] at hv hu
          obtain ⟨u', hu', hr'⟩ := hcells (o + i) v hv
          rw [← Nat.add_assoc] at hu'
          rw [Array.getElem?_toList, hu'] at hu
          cases hu
          exact hr'
        · intro j u hj
          rw [addr_add]
          have hjn : j < n := by
            have h1 := (List.getElem?_eq_some_iff.1 hj).1
            simp at h1; omega
          rw [List.getElem?_take_of_lt hjn, List.getElem?_drop, Array.getElem?_toList] at hj
          simp [World.cell?, hg, hj]
      · cases hr

theorem rd_sound {W : World} {I : Inp} (hI : InpOk W I) {ι : Map} {h : AHeap} {w : World} (r : Rep W ι h w) {l : Loc} {o : Nat} {v : AVal} {a : Addr}
    (hr : rd I h l o = some v) (ha : l.at ι o a) : ∃ u, w.cell? a = some u ∧ VRel ι v u := by
  cases l with
  | inp b =>
    obtain ⟨u, hu, hv⟩ := hI b o v hr
    have ha' : a = ⟨(place b).1, (place b).2 + o, none⟩ := ha
    subst ha'
    have hb : (place b).1 < W.heap.size := World.block_lt_of_cell? W ⟨(place b).1, (place b).2 + o, none⟩ hu
    exact ⟨u, by rw [r.below.cell (p := ⟨(place b).1, (place b).2 + o, none⟩) hb]; exact hu, hv ι⟩
  | own k =>
    simp only [rd] at hr
    split at hr
    · cases hr
    · rename_i b hb
      obtain ⟨pl, hp, rfl, _, cs, e, fz, hg, _, _, hroom, hn, hlen, hcells⟩ := r.cellsOf hb ha
      obtain ⟨u, hu, hv⟩ := hcells o v hr
      exact ⟨u, by simp [World.cell?, hg, hu], hv⟩

/-! ### writing -/
def setR {α : Type} (l : List α) (o : Nat) (xs : List α) : List α := l.take o ++ xs ++ l.drop (o + xs.length)

theorem setR_length {α : Type} {l : List α} {o : Nat} {xs : List α} (h : o + xs.length ≤ l.length) : (setR l o xs).length = l.length := by
  simp [setR]; omega

theorem setR_get {α : Type} {l : List α} {o : Nat} {xs : List α} (h : o + xs.length ≤ l.length) (i : Nat) :
    (setR l o xs)[i]? = if o ≤ i ∧ i < o + xs.length then xs[i - o]? else l[i]? := by
  unfold setR
  by_cases h1 : i < o
  · rw [List.append_assoc, List.getElem?_append_left (by simp; omega), List.getElem?_take_of_lt h1, if_neg (by omega)]
  · by_cases h2 : i < o + xs.length
    · rw [if_pos ⟨by omega, h2⟩, List.getElem?_append_left (by simp; omega), List.getElem?_append_right (by simp; omega)]
      congr 1
      simp; omega
    · rw [if_neg (by omega), List.getElem?_append_right (by simp; omega), List.getElem?_drop]
      congr 1
      simp; omega

/-- Some cells of a block are written. -/
def Blk.wr (b : Blk) (o : Nat) (cs : List AVal) : Option Blk :=
  match Nat.ble (o + cs.length) b.cells.length && cs.all AVal.one with
  | true => some { b with cells := setR b.cells o cs }
  | false => none

theorem run_storeCells_fz (P : Program) (g o : Nat) (t : TypeId) (fz : Nat × Nat) : ∀ (vs : List Value) (i : Nat) (cur : Array Value) (w : World), w.heap[g]? = some (.cells cur t fz) →
    (∀ j, j < cur.size → ¬ (fz.1 ≤ j ∧ j < fz.2)) → o + i + vs.length ≤ cur.size → (∀ v ∈ vs, v.oneCell' = true) →
    (storeCells ⟨g, o, none⟩ vs i).run P w = .ok () (w.setRow g (setR cur.toList (o + i) vs).toArray)
  | [], i, cur, w, hg, _, _, _ => by
    simp only [storeCells, setR, List.append_nil, List.length_nil, Nat.add_zero, List.take_append_drop, Array.toArray_toList]
    rw [setRow_self w g cur t fz hg]
    rfl
  | v :: rest, i, cur, w, hg, hz, hl, h1 => by
    have hi : o + i < cur.size := by simp at hl; omega
    have hadd : (⟨g, o, none⟩ : Addr).add i = ⟨g, o + i, none⟩ := by unfold Addr.add; split <;> simp_all
    have hcell : w.cell? ⟨g, o + i, none⟩ = some cur[o + i] := by simp [World.cell?, hg, hi]
    have hfro : w.frozen? ⟨g, o + i, none⟩ = false := by
      have := hz (o + i) hi
      simp [World.frozen?, hg]
      omega
    have hst : (store ((⟨g, o, none⟩ : Addr).add i) v).run P w = .ok () (w.setRow g (cur.setIfInBounds (o + i) v)) := by
      rw [hadd, run_store P w _ v _ (h1 v (by simp)), hcell]
      simp [hfro, setCell_eq_setRow w g (o + i) cur t fz v hg]
    have ih := run_storeCells_fz P g o t fz rest (i + 1) (cur.setIfInBounds (o + i) v) (w.setRow g (cur.setIfInBounds (o + i) v)) (setRow_heap w g cur _ t _ hg) (by simpa using hz) (by simp at hl ⊢; omega) (fun x hx => h1 x (by simp [hx]))
    simp only [storeCells, Sem.run_bind, hst, Result.andThen_ok, ih, setRow_setRow]
    congr 3
    have e := list_seg_step cur.toList (o + i) v rest (by simp at hl ⊢; omega)
    simpa [setR, Array.toList_setIfInBounds, Nat.add_assoc] using e

theorem setRow_other (w : World) (g : Nat) (cs : Array Value) (k : Nat) (h : k ≠ g) : (w.setRow g cs).heap[k]? = w.heap[k]? := by
  simp only [World.setRow, Array.getElem?_modify]
  rw [if_neg (by omega)]
theorem setRow_size (w : World) (g : Nat) (cs : Array Value) : (w.setRow g cs).heap.size = w.heap.size := by simp [World.setRow]

/-- A block is turned. -/
theorem Step.turn {W : World} {ι : Map} {h : AHeap} {w : World} (r : Rep W ι h w) {k : Nat} {b b' : Blk} {pl : Pl} {w' : World} (hk : h.get k = some b) (hp : ι k = some pl) (hbelow : Below W.heap.size w w') (hsz : w'.heap.size = w.heap.size)
    (hother : ∀ g, g ≠ pl.blk → w'.heap[g]? = w.heap[g]?) (hnew : BlkAt ι w' b' pl) (hdr : w.drawn ≤ w'.drawn := by exact Nat.le_refl _) : Step W ι h w ι (h.set k b') w' := by
  obtain ⟨plx, hpx, hbase, hblk⟩ := r.own k b hk
  rw [hp] at hpx; cases hpx
  refine ⟨Map.le_refl _, ⟨r.below.trans hbelow, ?_, ?_, r.fresh⟩, by rw [hsz]; exact Nat.le_refl _, Nat.le_refl _, ?_, fun _ _ => rfl, fun k2 _ h2 => by
    rw [AHeap.get_set]
    by_cases hkk : k2 = k
    · subst hkk; rw [hk] at h2; cases h2
    · rw [if_neg hkk]; exact h2, hdr⟩
  · intro k2 b2 h2
    rw [AHeap.get_set] at h2
    by_cases hkk : k2 = k
    · subst hkk
      rw [if_pos rfl] at h2
      cases h2
      exact ⟨pl, hp, hbase, hnew⟩
    · rw [if_neg hkk] at h2
      obtain ⟨pl2, hp2, hb2, hblk2⟩ := r.own k2 b2 h2
      exact ⟨pl2, hp2, hb2, hblk2.keep (Map.le_refl _) (hother _ (fun e => hkk (r.inj k2 k b2 b pl2 pl h2 hk hp2 hp e)))⟩
  · intro k1 k2 b1 b2 pl1 pl2 h1 h2
    rw [AHeap.get_set] at h1 h2
    have h1' : ∃ b1', h.get k1 = some b1' := by
      by_cases hkk : k1 = k
      · exact ⟨b, hkk ▸ hk⟩
      · rw [if_neg hkk] at h1; exact ⟨_, h1⟩
    have h2' : ∃ b2', h.get k2 = some b2' := by
      by_cases hkk : k2 = k
      · exact ⟨b, hkk ▸ hk⟩
      · rw [if_neg hkk] at h2; exact ⟨_, h2⟩
    obtain ⟨_, h1'⟩ := h1'
    obtain ⟨_, h2'⟩ := h2'
    exact r.inj _ _ _ _ _ _ h1' h2'
  · intro g hgs hno
    refine ⟨hother _ (fun e => hno k b pl hk hp e.symm), fun k2 b2 pl2 h2 hp2 => ?_⟩
    rw [AHeap.get_set] at h2
    by_cases hkk : k2 = k
    · subst hkk; exact hno k2 b pl2 hk hp2
    · rw [if_neg hkk] at h2; exact hno k2 b2 pl2 h2 hp2

theorem wr_sound (P : Program) {W : World} {ι : Map} {h : AHeap} {w : World} (r : Rep W ι h w) {k o : Nat} {b b' : Blk} {cs : List AVal} {us : List Value} {a : Addr}
    (hk : h.get k = some b) (hw : b.wr o cs = some b') (ha : (Loc.own k).at ι o a) (hus : VRels ι cs us) :
    ∃ w', (storeCells a us).run P w = .ok () w' ∧ Step W ι h w ι (h.set k b') w' := by
  unfold Blk.wr at hw
  split at hw
  case h_2 => cases hw
  rename_i hc
  simp only [Bool.and_eq_true] at hc
  obtain ⟨hle, hone⟩ := hc
  have hle' := Nat.le_of_ble_eq_true hle
  simp only [Option.some.injEq] at hw
  subst hw
  obtain ⟨pl, hp, rfl, hbase, cur, e, fz, hg, hz, hplain, hroom, hn, hlen, hcells⟩ := r.cellsOf hk ha
  have hul : us.length = cs.length := hus.length.symm
  have hrun := run_storeCells_fz P pl.blk (pl.off + o) e fz us 0 cur w hg hz (by omega) (hus.one hone)
  refine ⟨_, hrun, ?_⟩
  have hnew := setRow_heap w pl.blk cur (setR cur.toList (pl.off + o + 0) us).toArray e fz hg
  have hfit : pl.off + o + 0 + us.length ≤ cur.toList.length := by simp; omega
  have hsize : ((setR cur.toList (pl.off + o + 0) us).toArray).size = cur.size := by rw [List.size_toArray, setR_length hfit]; simp
  refine Step.turn r hk hp ⟨rfl, rfl, rfl, by rw [setRow_size]; exact Nat.le_refl _, fun i hi => setRow_other _ _ _ _ (by omega)⟩ (setRow_size _ _ _) (fun g hg => setRow_other _ _ _ _ hg) (.inl ?_)
  refine ⟨_, e, fz, hnew, by rw [hsize]; exact hz, hplain, by rw [hsize]; exact hroom, hn, ?_, ?_⟩
  · rw [setR_length (by omega)]; exact hlen
  · intro i v hv
    rw [setR_get (by omega)] at hv
    rw [List.getElem?_toArray, setR_get hfit]
    by_cases hin : o ≤ i ∧ i < o + cs.length
    · rw [if_pos hin] at hv
      rw [if_pos (by omega)]
      obtain ⟨u, hu, hru⟩ := hus.get hv
      refine ⟨u, ?_, hru⟩
      rw [← hu]
      congr 1
      omega
    · rw [if_neg hin] at hv
      rw [if_neg (by omega), Array.getElem?_toList]
      exact hcells i v hv

/-! ### making -/
def Map.add (ι : Map) (k : Nat) (pl : Pl) : Map := fun j => if j = k then some pl else ι j
theorem Map.le_add {ι : Map} {k : Nat} {pl : Pl} (h : ι k = none) : ι.le (ι.add k pl) := fun j p hj => by
  unfold Map.add
  by_cases e : j = k
  · subst e; rw [h] at hj; cases hj
  · rw [if_neg e]; exact hj
theorem Map.add_self (ι : Map) (k : Nat) (pl : Pl) : ι.add k pl k = some pl := by simp [Map.add]

/-- A new block, whatever it is. -/
theorem Step.fresh {W : World} {ι : Map} {h : AHeap} {w : World} (r : Rep W ι h w) {b : Blk} {O : Obj} {pl : Pl} (hpl : pl.blk = w.heap.size) (hnew : BlkAt (ι.add h.next pl) (w.alloc O) b pl) :
    Step W ι h w (ι.add h.next pl) (h.alloc b) (w.alloc O) := by
  have hnone := r.fresh h.next (Nat.le_refl _)
  have hle : ι.le (ι.add h.next pl) := Map.le_add hnone
  have hsz : (w.alloc O).heap.size = w.heap.size + 1 := by simp
  refine ⟨hle, ⟨r.below.alloc r.below.size _, ?_, ?_, ?_⟩, by omega, by show h.next ≤ h.next + 1; omega, ?_, fun k hk => by unfold Map.add; rw [if_neg (by omega)], fun k hk hn => by rw [AHeap.get_alloc, if_neg (by omega)]; exact hn, Nat.le_refl _⟩
  · intro k2 b2 h2
    rw [AHeap.get_alloc] at h2
    by_cases hkk : k2 = h.next
    · subst hkk
      rw [if_pos rfl] at h2
      cases h2
      exact ⟨pl, Map.add_self _ _ _, by rw [hpl]; exact r.below.size, hnew⟩
    · rw [if_neg hkk] at h2
      obtain ⟨pl2, hp2, hb2, hblk⟩ := r.own k2 b2 h2
      exact ⟨pl2, hle _ _ hp2, hb2, hblk.keep hle (Below.heap_alloc _ _ _ hblk.lt)⟩
  · intro k1 k2 b1 b2 pl1 pl2 h1 h2 hp1 hp2 he
    rw [AHeap.get_alloc] at h1 h2
    unfold Map.add at hp1 hp2
    by_cases e1 : k1 = h.next
    · by_cases e2 : k2 = h.next
      · omega
      · rw [if_pos e1] at hp1
        rw [if_neg e2] at hp2 h2
        cases hp1
        have := r.live_lt h2 hp2
        omega
    · rw [if_neg e1] at hp1 h1
      by_cases e2 : k2 = h.next
      · rw [if_pos e2] at hp2
        cases hp2
        have := r.live_lt h1 hp1
        omega
      · rw [if_neg e2] at hp2 h2
        exact r.inj _ _ _ _ _ _ h1 h2 hp1 hp2 he
  · intro k hk
    have : k ≠ h.next := by have : (h.alloc b).next = h.next + 1 := rfl; omega
    unfold Map.add
    rw [if_neg this]
    exact r.fresh k (by have : (h.alloc b).next = h.next + 1 := rfl; omega)
  · intro g hgs hno
    refine ⟨Below.heap_alloc _ _ _ hgs, fun k2 b2 pl2 h2 hp2 => ?_⟩
    rw [AHeap.get_alloc] at h2
    unfold Map.add at hp2
    by_cases e2 : k2 = h.next
    · rw [if_pos e2] at hp2; cases hp2; omega
    · rw [if_neg e2] at hp2 h2; exact hno k2 b2 pl2 h2 hp2

/-- A new block. 'spare': cells behind those that are known. -/
theorem alloc_sound {W : World} {ι : Map} {h : AHeap} {w : World} (r : Rep W ι h w) {b : Blk} {us : Array Value} {e : TypeId} {fz : Nat × Nat}
    (_hr : h.room = true) (hus : ∀ (i : Nat) (v : AVal), b.cells[i]? = some v → ∃ u, us[i]? = some u ∧ VRel ι v u) (hl : b.cells.length ≤ us.size) (hz : ∀ o, o < us.size → ¬ (fz.1 ≤ o ∧ o < fz.2)) (hpl : b.plain = true → fz = (0, 0)) :
    Step W ι h w (ι.add h.next ⟨w.heap.size, 0, b.cells.length, us.size⟩) (h.alloc b) (w.alloc (.cells us e fz)) := by
  have hle : ι.le (ι.add h.next ⟨w.heap.size, 0, b.cells.length, us.size⟩) := Map.le_add (r.fresh h.next (Nat.le_refl _))
  refine Step.fresh r rfl (.inl ⟨us, e, fz, heap_alloc_new w _, hz, hpl, by simp, hl, rfl, fun i v hv => ?_⟩)
  obtain ⟨u, hu, hru⟩ := hus i v hv
  exact ⟨u, by simpa using hu, hru.mono hle⟩

/-- A new map. -/
theorem newMap_sound {W : World} {ι : Map} {h : AHeap} {w : World} (r : Rep W ι h w) : Step W ι h w (ι.add h.next ⟨w.heap.size, 0, 1, 0⟩) (h.alloc ⟨[.int .i64 0], true⟩) (w.alloc (.map #[] 0)) :=
  Step.fresh r rfl (.inr (.inl ⟨rfl, #[], 0, heap_alloc_new w _, .cons (.int _ _) .nil⟩))
/-- A new walk over a map. -/
theorem newIter_sound {W : World} {ι : Map} {h : AHeap} {w : World} (r : Rep W ι h w) {v : AVal} {m : Option Nat} {c : Nat} (hv : VRel ι v (.map m)) :
    Step W ι h w (ι.add h.next ⟨w.heap.size, 0, 2, 0⟩) (h.alloc ⟨[v, .int .i64 c, .int .i64 c, .tuple []], true⟩) (w.alloc (.mapIter m c #[] c)) :=
  Step.fresh r rfl (.inr (.inr ⟨rfl, m, c, #[], c, heap_alloc_new w _, .cons (hv.mono (Map.le_add (r.fresh _ (Nat.le_refl _)))) (.cons (.int _ _) (.cons (.int _ _) (.cons (.tuple _ _ (by simpa using VRels.nil)) .nil)))⟩))

/-- A block is forgotten. -/
theorem kill_sound {W : World} {ι : Map} {h : AHeap} {w : World} (r : Rep W ι h w) {k : Nat} {b : Blk} (_hk : h.get k = some b) : Step W ι h w ι (h.kill k) w := by
  refine ⟨Map.le_refl _, ⟨r.below, ?_, ?_, r.fresh⟩, Nat.le_refl _, Nat.le_refl _, fun g hg hno => ⟨rfl, fun k2 b2 pl2 h2 => ?_⟩, fun _ _ => rfl, fun k2 _ h2 => by rw [AHeap.get_kill]; split <;> first | rfl | exact h2, Nat.le_refl _⟩
  · intro k2 b2 h2
    rw [AHeap.get_kill] at h2
    split at h2
    · cases h2
    · exact r.own k2 b2 h2
  · intro k1 k2 b1 b2 pl1 pl2 h1 h2
    rw [AHeap.get_kill] at h1 h2
    split at h1
    · cases h1
    · split at h2
      · cases h2
      · exact r.inj _ _ _ _ _ _ h1 h2
  · rw [AHeap.get_kill] at h2
    split at h2
    · cases h2
    · exact hno k2 b2 pl2 h2

end

end Go.AM

/- AM, part 3: operations with their types resolved, what they compute. (definitions alone) -/
namespace Go.AM
noncomputable section
open Go.RowKit

inductive AOpd where
  | tmp (t : Nat)
  | val (v : AVal)
  deriving Inhabited

def AOpd.ev (f : Fr) : AOpd → AVal
  | .tmp t => f.get t
  | .val v => v

/-- A type of one cell that is compared by what it holds. -/
inductive ST where
  | b | i | s
  deriving DecidableEq, Inhabited

/-- By what two values of a type are compared. -/
inductive EqK where
  | bool | ptr | slice | func | map | iface
  | struct (ks : List ST)
  deriving DecidableEq, Inhabited

/-- Operations that make memory and read none. -/
inductive MOp where
  | alloc (z : List AVal)
  | box (x : AOpd)
  | buildSlice (z : List AVal) (len : Nat) (ps : List (Nat × Nat × AOpd))
  | makeSlice (z : List AVal) (bytes : Nat) (l c : AOpd)
  | mapNew
  deriving Inhabited

/-- By what two keys of a map are compared. -/
inductive KeyK where
  | one (k : ST)
  | many (ks : List ST)
  deriving DecidableEq, Inhabited

inductive AOp where
  | move (x : AOpd)
  | pick (c a b : AOpd)
  | alloc (z : List AVal)
  | box (x : AOpd)
  | build (z : List AVal) (ps : List (Nat × Nat × AOpd))
  | buildSlice (z : List AVal) (len : Nat) (ps : List (Nat × Nat × AOpd))
  | load1 (a : AOpd)
  | loadN (n : Nat) (a : AOpd)
  | store (n : Nat) (a x : AOpd)
  | nilCheck (x : AOpd)
  | bin (op : BinOp) (x y : AOpd)
  | eq (neg : Bool) (ek : EqK) (c : Bool) (x y : AOpd)
  | un (op : UnOp) (x : AOpd)
  | toInt (k : IntKind) (x : AOpd)
  | toBytes (x : AOpd)
  | toStr (x : AOpd)
  | asStr (x : AOpd)
  | iface (t : TypeId) (x : AOpd)
  | mkFunc (fn : Fn) (first captured : List AOpd)
  | makeSlice (z : List AVal) (bytes : Nat) (l c : AOpd)
  | sliceS (sz : Nat) (x : AOpd) (lo hi mx : Option AOpd)
  | sliceStr (x : AOpd) (lo hi : Option AOpd)
  | sliceArr (n sz : Nat) (x : AOpd) (lo hi mx : Option AOpd)
  | fieldAddr (off : Nat) (x : AOpd)
  | field1 (off : Nat) (x : AOpd)
  | fieldN (off n : Nat) (x : AOpd)
  | indexAddr (sz : Nat) (x i : AOpd)
  | indexAddrArr (n sz : Nat) (x i : AOpd)
  | indexStr (x i : AOpd)
  | index1 (n : Nat) (x i : AOpd)
  | indexN (n sz : Nat) (x i : AOpd)
  | extract (x : AOpd) (i : Nat)
  | assertI (asserted : TypeId) (z : AVal) (ok : Bool) (x : AOpd)
  | assertT (asserted : TypeId) (z : AVal) (ok : Bool) (x : AOpd)
  | lenStr (x : AOpd)
  | lenSl (x : AOpd)
  | minmax (mx : Bool) (xs : List AOpd)
  | append (sz bytes : Nat) (x y : AOpd)
  | call (f : Nat) (args : List AOpd)
  | callv (x : AOpd) (args : List AOpd)
  | invoke (x : AOpd) (name : String) (args : List AOpd)
  | resv (k : Nat) (m : MOp)
  | mapNew
  | mapGet (kk : KeyK) (z : AVal) (ok : Bool) (m k : AOpd)
  | mapPut (kk : KeyK) (m k x : AOpd)
  | mapDel (kk : KeyK) (m k : AOpd)
  | lenMap (m : AOpd)
  | mapEnt (kk : KeyK) (z : AVal) (m k : AOpd)
  | entPut (m s x : AOpd)
  | capS (x : AOpd)
  | appZ (sz bytes : Nat) (z : List AVal) (x n : AOpd)
  | stuck
  | rangeM (m : AOpd)
  | nextM (it : AOpd)
  | entryM (it : AOpd)
  | clearS (z : List AVal) (x : AOpd)
  deriving Inhabited

structure AOper where
  dst : Option Nat
  op : AOp
  guard : Option (Nat × Bool)
  deriving Inhabited

inductive ACode where
  | skip
  | region (ops : List AOper)
  | draw (ops : List AOper) (info : List (Bool × List Nat)) (m : Nat)
  | seq (a b : ACode)
  | cond (c : AOpd) (t e : ACode)
  | block (id : Nat) (c : ACode)
  | loop (c : ACode)
  | exit (id : Nat)
  | ret
  deriving Inhabited

inductive ARes where
  | tmp (t : Nat)
  | cell1 (t : Nat)
  | cellN (t n : Nat)
  deriving Inhabited

structure AFunc where
  ntmps : Nat
  nargs : Nat
  results : List ARes
  body : ACode
  deriving Inhabited

/-! ### pure parts -/
def natLess : List Nat → List Nat → Bool
  | _, [] => false
  | [], _ :: _ => true
  | a :: x, b :: y => Nat.blt a b || (Nat.beq a b && natLess x y)

def natsEq : List Nat → List Nat → Bool
  | [], [] => true
  | a :: x, b :: y => Nat.beq a b && natsEq x y
  | _, _ => false

def ltI : Int → Int → Bool
  | .ofNat a, .ofNat b => Nat.blt a b
  | .negSucc _, .ofNat _ => true
  | .ofNat _, .negSucc _ => false
  | .negSucc a, .negSucc b => Nat.blt b a
def eqI : Int → Int → Bool
  | .ofNat a, .ofNat b => Nat.beq a b
  | .negSucc a, .negSucc b => Nat.beq a b
  | _, _ => false
theorem ltI_spec (a b : Int) : ltI a b = decide (a < b) := by
  cases a <;> cases b <;> simp only [ltI]
  · rename_i x y
    rw [Bool.eq_iff_iff]
    simp only [Nat.blt, Nat.ble_eq, decide_eq_true_eq, Int.ofNat_eq_natCast, Int.ofNat_lt]
    omega
  · rename_i x y
    symm; rw [decide_eq_false_iff_not]; simp only [Int.ofNat_eq_natCast, Int.negSucc_eq]; omega
  · rename_i x y
    symm; rw [decide_eq_true_eq]; simp only [Int.ofNat_eq_natCast, Int.negSucc_eq]; omega
  · rename_i x y
    rw [Bool.eq_iff_iff]
    simp only [Nat.blt, Nat.ble_eq, decide_eq_true_eq, Int.negSucc_eq]
    omega
theorem eqI_spec (a b : Int) : eqI a b = (a == b) := by
  cases a <;> cases b <;> simp only [eqI] <;> rw [Bool.eq_iff_iff] <;> simp <;> omega

def ibin (op : BinOp) (k : IntKind) (a b : Int) : Option AVal :=
  match op with
  | .add => some (.int k (k.wrap (a + b)))
  | .sub => some (.int k (k.wrap (a - b)))
  | .mul => some (.int k (k.wrap (a * b)))
  | .quo => if b = 0 then none else some (.int k (k.wrap (a.tdiv b)))
  | .rem => if b = 0 then none else some (.int k (a.tmod b))
  | .and => some (.int k (k.wrap (BitVec.ofInt k.bits a &&& BitVec.ofInt k.bits b).toNat))
  | .or => some (.int k (k.wrap (BitVec.ofInt k.bits a ||| BitVec.ofInt k.bits b).toNat))
  | .xor => some (.int k (k.wrap (BitVec.ofInt k.bits a ^^^ BitVec.ofInt k.bits b).toNat))
  | .andNot => some (.int k (k.wrap (BitVec.ofInt k.bits a &&& ~~~ BitVec.ofInt k.bits b).toNat))
  | .eql => some (.bool (eqI a b))
  | .neq => some (.bool (!eqI a b))
  | .lss => some (.bool (ltI a b))
  | .leq => some (.bool (!ltI b a))
  | .gtr => some (.bool (ltI b a))
  | .geq => some (.bool (!ltI a b))
  | .shl | .shr => none

def ishift (op : BinOp) (k : IntKind) (x y : Int) : Option AVal :=
  if y < 0 then none else
  match op with
  | .shl => some (.int k (k.wrap (x * 2 ^ (min y.toNat k.bits))))
  | .shr => some (.int k (x.fdiv (2 ^ (min y.toNat k.bits))))
  | _ => none

def sbin (op : BinOp) (x y : List Nat) : Option AVal :=
  match op with
  | .add => match Nat.ble (x.length + y.length) 140737488351232 with
    | true => some (.str (x ++ y))
    | false => none
  | .eql => some (.bool (natsEq x y))
  | .neq => some (.bool (!natsEq x y))
  | .lss => some (.bool (natLess x y))
  | .leq => some (.bool (natLess x y || natsEq x y))
  | .gtr => some (.bool (!(natLess x y || natsEq x y)))
  | .geq => some (.bool (!natLess x y))
  | _ => none

/-- Numbers from without, in sums. -/
def asLin : AVal → Option (List Int × Int)
  | .lin cs c => some (cs, c)
  | .int .i64 a => match eqI (IntKind.i64.wrap a) a with
    | true => some ([], a)
    | false => none
  | _ => none
def addL : List Int → List Int → List Int
  | [], b => b
  | a, [] => a
  | x :: a, y :: b => (x + y) :: addL a b
def intsEq : List Int → List Int → Bool
  | [], [] => true
  | a :: x, b :: y => eqI a b && intsEq x y
  | _, _ => false
def lbin (op : BinOp) (x y : AVal) : Option AVal :=
  match asLin x, asLin y with
  | some (cs, c), some (ds, d) => match op with
    | .add => some (.lin (addL cs ds) (c + d))
    | .mul => match ds with
      | [] => some (.lin (cs.map (· * d)) (c * d))
      | _ => none
    | .eql => match intsEq cs ds && eqI c d with
      | true => some (.bool true)
      | false => none
    | .neq => match intsEq cs ds && eqI c d with
      | true => some (.bool false)
      | false => none
    | _ => none
  | _, _ => none

def abin (op : BinOp) (x y : AVal) : Option AVal :=
  match x, y with
  | .int k a, .int k' b =>
    match op with
    | .shl | .shr => ishift op k a b
    | _ => if k = k' then ibin op k a b else none
  | .str a, .str b => sbin op a b
  | x, y => lbin op x y

def Loc.eqb : Loc → Loc → Bool
  | .inp a, .inp b => Nat.beq a b
  | .own a, .own b => Nat.beq a b
  | _, _ => false

/-- Are two blocks surely apart for '=='? -/
def apartB (h : AHeap) : Loc → Loc → Bool
  | .own a, .own b => match h.get a, h.get b with
    | some x, some y => x.plain && y.plain
    | _, _ => false
  | _, _ => false

def scalarEq : ST → AVal → AVal → Option Bool
  | .i, .int k a, .int k' b => if k = k' then some (a == b) else none
  | .b, .bool a, .bool b => some (a == b)
  | .s, .str a, .str b => some (natsEq a b)
  | _, _, _ => none

def scalarsEq : List ST → List AVal → List AVal → Option Bool
  | [], [], [] => some true
  | k :: ks, a :: x, b :: y => match scalarEq k a b with
    | none => none
    | some false => some false
    | some true => scalarsEq ks x y
  | _, _, _ => none

def Cap.eqb : Cap → Cap → Bool
  | .known a, .known b => Nat.beq a b
  | .grown a, .grown b => Nat.beq a b
  | _, _ => false

def Fn.eqb : Fn → Fn → Bool
  | .func a, .func b => Nat.beq a b
  | _, _ => false

mutual
def AVal.eqb : AVal → AVal → Bool
  | .bool a, .bool b => a == b
  | .int k a, .int k' b => decide (k = k') && decide (a = b)
  | .str a, .str b => natsEq a b
  | .nilp, .nilp => true
  | .ptr l o, .ptr l' o' => l.eqb l' && Nat.beq o o'
  | .nils, .nils => true
  | .sl l o n c, .sl l' o' n' c' => l.eqb l' && Nat.beq o o' && Nat.beq n n' && c.eqb c'
  | .nilf, .nilf => true
  | .func f a b, .func f' a' b' => Fn.eqb f f' && AVal.eqbs a a' && AVal.eqbs b b'
  | .nili, .nili => true
  | .iface t v, .iface t' v' => Nat.beq t t' && AVal.eqb v v'
  | .agg a, .agg b => AVal.eqbs a b
  | .tuple a, .tuple b => AVal.eqbs a b
  | .nilm, .nilm => true
  | .map k, .map k' => Nat.beq k k'
  | .iter k, .iter k' => Nat.beq k k'
  | .lin cs c, .lin ds d => intsEq cs ds && eqI c d
  | _, _ => false
def AVal.eqbs : List AVal → List AVal → Bool
  | [], [] => true
  | a :: x, b :: y => AVal.eqb a b && AVal.eqbs x y
  | _, _ => false
end

/-- Is a type a pointer's whose element has cells, and can it be compared? -/
def ptrTy (P : Program) (t : TypeId) : Bool :=
  match P.underlying t, P.info? t with
  | some (.pointer e), some i => i.comparable && (match P.info? e with | some j => decide (j.size ≠ 0) | none => false)
  | _, _ => false

def ptrEq (h : AHeap) : AVal → AVal → Option Bool
  | .nilp, .nilp => some true
  | .nilp, .ptr _ _ => some false
  | .ptr _ _, .nilp => some false
  | .ptr l o, .ptr l' o' => match l.eqb l' with
    | true => some (Nat.beq o o')
    | false => match apartB h l l' with
      | true => some false
      | false => none
  | _, _ => none

def boolEq : AVal → AVal → Option Bool
  | .bool a, .bool b => some (a == b)
  | _, _ => none

def nilEqS : AVal → AVal → Option Bool
  | .nils, .nils => some true
  | .nils, .sl _ _ _ _ => some false
  | .sl _ _ _ _, .nils => some false
  | _, _ => none

def nilEqF : AVal → AVal → Option Bool
  | .nilf, .nilf => some true
  | .nilf, .func _ _ _ => some false
  | .func _ _ _, .nilf => some false
  | _, _ => none

def ifaceEq (P : Program) (h : AHeap) (c : Bool) : AVal → AVal → Option Bool
  | .nili, .nili => if c then some true else none
  | .nili, .iface _ _ => some false
  | .iface _ _, .nili => some false
  | .iface t a, .iface t' b => if t ≠ t' then some false else if ptrTy P t then ptrEq h a b else none
  | _, _ => none

def structEq (ks : List ST) : AVal → AVal → Option Bool
  | .agg a, .agg b => scalarsEq ks a b
  | _, _ => none

def aeq (P : Program) (h : AHeap) (ek : EqK) (c : Bool) (x y : AVal) : Option Bool :=
  match ek with
  | .bool => boolEq x y
  | .ptr => ptrEq h x y
  | .slice => nilEqS x y
  | .func => nilEqF x y
  | .iface => ifaceEq P h c x y
  | .struct ks => structEq ks x y
  | .map => none

def aun (op : UnOp) (x : AVal) : Option AVal :=
  match op, x with
  | .neg, .int k n => some (.int k (k.wrap (0 - n)))
  | .xor, .int k n => some (.int k (k.wrap (BitVec.ofInt k.bits (if k.signed then -1 else k.max) ^^^ BitVec.ofInt k.bits n).toNat))
  | .not, .bool b => some (.bool !b)
  | _, _ => none

/-- 'n' zero values, cell by cell. -/
def zerosFrom (z : List AVal) (i : Nat) : Nat → List AVal
  | 0 => []
  | n + 1 => z.getD (i % z.length) .nilp :: zerosFrom z (i + 1) n

def zeros (z : List AVal) (n : Nat) : List AVal := zerosFrom z 0 n

def fillA (f : Fr) : List AVal → List (Nat × Nat × AOpd) → Option (List AVal)
  | cs, [] => some cs
  | cs, (off, sz, x) :: r =>
    let v := (x.ev f).cells
    match Nat.beq v.length sz && Nat.ble (off + v.length) cs.length with
    | true => fillA f (setR cs off v) r
    | false => none

def asNat : AVal → Option Nat
  | .int _ (.ofNat n) => some n
  | _ => none

def optNat (f : Fr) (d : Nat) : Option AOpd → Option Nat
  | none => some d
  | some x => asNat (x.ev f)

def callOf : Fn → Option Nat
  | .func f => some f
  | _ => none

/-- The function of a method of a value of a type, where it is called as it stands. -/
def methodOf (P : Program) (t : TypeId) (name : String) : Option Nat :=
  match P.info? t with
  | none => none
  | some i => match i.methods.find? (·.name == name) with
    | none => none
    | some m => match m.path.toList, m.func, P.underlying t with
      | [], some (f, true), some (.pointer _) => some f
      | _, _, _ => none

def implB (P : Program) (asserted t : TypeId) : Option Bool :=
  match P.underlying asserted, P.info? t with
  | some (.interface want), some i => some (Instr.missingMethod want i.methods).isNone
  | _, _ => none

/-- A capacity behind a cut. -/
def capMinus (c : Cap) (l : Nat) : Cap :=
  match c with
  | .known c => .known (c - l)
  | .grown sz => .grown sz

/-- Is an index surely within a capacity; may a slice of elements of 'sz' cells be cut there? -/
def capHas (c : Cap) (sz len m : Nat) : Bool :=
  match c with
  | .known c => Nat.ble m c
  | .grown s => Nat.ble m len && Nat.beq s sz

def sliceOf (f : Fr) (sz : Nat) (x : AVal) (lo hi mx : Option AOpd) : Option AVal :=
  match x with
  | .nils => match optNat f 0 lo, optNat f 0 hi, optNat f 0 mx, mx.isNone || hi.isSome with
    | some 0, some 0, some 0, true => some .nils
    | _, _, _, _ => none
  | .sl l o len cap =>
    match optNat f 0 lo, optNat f len hi with
    | some a, some b =>
      match mx with
      | none => match Nat.ble a b && capHas cap sz len b with
        | true => some (.sl l (o + a * sz) (b - a) (capMinus cap a))
        | false => none
      | some m => match asNat (m.ev f), hi with
        | some m, some _ => match Nat.ble a b && Nat.ble b m && capHas cap sz len m with
          | true => some (.sl l (o + a * sz) (b - a) (.known (m - a)))
          | false => none
        | _, _ => none
    | _, _ => none
  | _ => none

def minInts (mx : Bool) : IntKind → Int → List AVal → Option AVal
  | k, a, [] => some (.int k a)
  | k, a, .int k' b :: r => if k = k' then minInts mx k (if mx then (if b > a then b else a) else (if b < a then b else a)) r else none
  | _, _, _ => none

/-- What an append reads of its second argument. -/
def srcCells (I : Inp) (h : AHeap) (sz : Nat) : AVal → Option (Nat × List AVal)
  | .nils => some (0, [])
  | .sl l o len _ => match rds I h l o (len * sz) with
    | some cs => some (len, cs)
    | none => none
  | .str s => match Nat.beq sz 1 with
    | true => some (s.length, s.map fun b : Nat => .int .u8 (.ofNat b))
    | false => none
  | _ => none

def bigRoom : Nat := 140737488355328

def appendTo (I : Inp) (h : AHeap) (sz bytes : Nat) (x y : AVal) : Option (AVal × AHeap) :=
  match srcCells I h sz y with
  | none => none
  | some (n, news) =>
    match n with
    | 0 => match x with
      | .nils | .sl _ _ _ _ => some (x, h)
      | _ => none
    | n + 1 =>
      match news.all AVal.one with
      | false => none
      | true =>
      match x with
      | .nils => match h.room && Nat.ble ((n + 1) * bytes) bigRoom && Nat.ble (n + 1) bigRoom with
        | true => some (.sl (.own h.next) 0 (n + 1) (.grown sz), h.alloc ⟨news, true⟩)
        | false => none
      | .sl l o len cap =>
        match Nat.ble ((len + (n + 1)) * bytes) bigRoom && Nat.ble (len + (n + 1)) bigRoom with
        | false => none
        | true =>
        match cap with
        | .known c => match Nat.ble (len + (n + 1)) c with
          | true => match l with
            | .own k => match h.get k with
              | some b => match b.wr (o + len * sz) news with
                | some b' => some (.sl l o (len + (n + 1)) cap, h.set k b')
                | none => none
              | none => none
            | .inp _ => none
          | false => match rds I h l o (len * sz), h.room with
            | some olds, true => match olds.all AVal.one with
              | true => some (.sl (.own h.next) 0 (len + (n + 1)) (.grown sz), h.alloc ⟨olds ++ news, true⟩)
              | false => none
            | _, _ => none
        | .grown s => match l with
          | .inp _ => none
          | .own k => match h.get k with
            | none => none
            | some b => match Nat.beq s sz && Nat.ble (o + len * sz) b.cells.length with
              | false => none
              | true => match Nat.ble (o + len * sz + news.length) b.cells.length with
                | true => match b.wr (o + len * sz) news with
                  | some b' => some (.sl l o (len + (n + 1)) cap, h.set k b')
                  | none => none
                | false => match h.room && ((b.cells.drop o).take (len * sz)).all AVal.one with
                  | true => some (.sl (.own h.next) 0 (len + (n + 1)) (.grown sz), (h.kill k).alloc ⟨(b.cells.drop o).take (len * sz) ++ news, b.plain⟩)
                  | false => none
      | _ => none

/-! ### what an operation does, but for calls -/
def boolOf : AVal → Option Bool
  | .bool b => some b
  | _ => none

/-- No text is longer than memory bears. -/
def fitsS : AVal → Bool
  | .str s => Nat.ble s.length 140737488355328
  | _ => true

/-! ### maps -/
def keyEq : KeyK → AVal → AVal → Option Bool
  | .one k, a, b => scalarEq k a b
  | .many ks, a, b => structEq ks a b

/-- Where a key stands among a map's entries, its value and its stamp. -/
def findM (kk : KeyK) (key : AVal) : List AVal → Nat → Option (Option (Nat × AVal × AVal))
  | [], _ => some none
  | .tuple [k, v, s] :: r, i => match keyEq kk key k with
    | some true => some (some (i, v, s))
    | some false => findM kk key r (i + 1)
    | none => none
  | _, _ => none

def mapGetV (kk : KeyK) (z : AVal) (ok : Bool) (m key : AVal) (h : AHeap) : Option AVal :=
  match m with
  | .nilm => match keyEq kk key key with
    | some true => some (if ok then .tuple [z, .bool false] else z)
    | _ => none
  | .map k => match h.get k with
    | some ⟨_ :: es, _⟩ => match keyEq kk key key with
      | some true => match findM kk key es 0 with
        | none => none
        | some none => some (if ok then .tuple [z, .bool false] else z)
        | some (some (_, v, _)) => some (if ok then .tuple [v, .bool true] else v)
      | _ => none
    | _ => none
  | _ => none

def mapNewV (h : AHeap) : Option (AVal × AHeap) := some (.map h.next, h.alloc ⟨[.int .i64 0], true⟩)

def natOf : AVal → Option Nat
  | .int .i64 (.ofNat n) => some n
  | _ => none

def mapPutV (kk : KeyK) (m key x : AVal) (h : AHeap) : Option (AVal × AHeap) :=
  match m with
  | .map k => match h.get k with
    | some ⟨c :: es, p⟩ => match keyEq kk key key with
      | some true => match findM kk key es 0 with
        | none => none
        | some none => match natOf c with
          | some n => some (aundef, h.set k ⟨.int .i64 (.ofNat (n + 1)) :: (es ++ [.tuple [key, x, .int .i64 (.ofNat n)]]), p⟩)
          | none => none
        | some (some (i, _, s)) => some (aundef, h.set k ⟨c :: es.set i (.tuple [key, x, s]), p⟩)
      | _ => none
    | _ => none
  | _ => none

/-- An entry, made where there is none: its value and its stamp. -/
def mapEntV (kk : KeyK) (z m key : AVal) (h : AHeap) : Option (AVal × AHeap) :=
  match m with
  | .map k => match h.get k with
    | some ⟨c :: es, p⟩ => match keyEq kk key key with
      | some true => match findM kk key es 0 with
        | none => none
        | some none => match natOf c with
          | some n => some (.tuple [z, .int .i64 (.ofNat n)], h.set k ⟨.int .i64 (.ofNat (n + 1)) :: (es ++ [.tuple [key, z, .int .i64 (.ofNat n)]]), p⟩)
          | none => none
        | some (some (i, v, s)) => some (.tuple [v, s], h.set k ⟨c :: es.set i (.tuple [key, v, s]), p⟩)
      | _ => none
    | _ => none
  | _ => none

/-- The entry of a stamp. -/
def findS (st : Nat) : List AVal → Nat → Option (Nat × AVal × AVal)
  | .tuple [k, _, s] :: r, i => match natOf s with
    | some n => match Nat.beq n st with
      | true => some (i, k, s)
      | false => findS st r (i + 1)
    | none => none
  | _, _ => none
def entPutV (m st x : AVal) (h : AHeap) : Option (AVal × AHeap) :=
  match m, natOf st with
  | .map k, some n => match h.get k with
    | some ⟨c :: es, p⟩ => match findS n es 0 with
      | some (i, key, s) => some (aundef, h.set k ⟨c :: es.set i (.tuple [key, x, s]), p⟩)
      | none => none
    | _ => none
  | _, _ => none

def capV : AVal → Option AVal
  | .nils => some (.int .i64 0)
  | .sl _ _ _ (.known c) => some (.int .i64 c)
  | _ => none

/-- A new row of zero values, behind nil. -/
def appZV (sz bytes : Nat) (z : List AVal) (x n : AVal) (h : AHeap) : Option (AVal × AHeap) :=
  match x, natOf n with
  | .nils, some (n + 1) => match h.room && Nat.ble ((n + 1) * bytes) 140737488355328 && Nat.ble (n + 1) 140737488355328 with
    | true => some (.sl (.own h.next) 0 (n + 1) (.grown sz), h.alloc ⟨zeros z ((n + 1) * z.length), true⟩)
    | false => none
  | _, _ => none

def mapDelV (kk : KeyK) (m key : AVal) (h : AHeap) : Option (AVal × AHeap) :=
  match m with
  | .map k => match h.get k with
    | some ⟨c :: es, p⟩ => match keyEq kk key key with
      | some true => match findM kk key es 0 with
        | none => none
        | some none => some (.tuple [], h.set k ⟨c :: es, p⟩)
        | some (some (i, _, _)) => some (.tuple [], h.set k ⟨c :: es.eraseIdx i, p⟩)
      | _ => none
    | _ => none
  | _ => none

def lenMapV (m : AVal) (h : AHeap) : Option AVal :=
  match m with
  | .nilm => some (.int .i64 0)
  | .map k => match h.get k with
    | some ⟨_ :: es, _⟩ => some (.int .i64 es.length)
    | _ => none
  | _ => none

/-! walks over a map: the abstract machine goes on only where no order is drawn -/
def rangeV (m : AVal) (h : AHeap) : Option (AVal × AHeap) :=
  match m with
  | .nilm => some (.iter h.next, h.alloc ⟨[.nilm, .int .i64 0, .int .i64 0, .tuple []], true⟩)
  | .map k => match h.get k with
    | some ⟨c :: _, _⟩ => match natOf c with
      | some n => some (.iter h.next, h.alloc ⟨[.map k, .int .i64 (.ofNat n), .int .i64 (.ofNat n), .tuple []], true⟩)
      | none => none
    | _ => none
  | _ => none

def natsOf : List AVal → Option (List Nat)
  | [] => some []
  | v :: r => match natOf v, natsOf r with
    | some n, some ns => some (n :: ns)
    | _, _ => none
/-- An entry whose stamp is not among those seen. -/
def leftM (seen : List Nat) : List AVal → Option (List (AVal × AVal × Nat))
  | [] => some []
  | .tuple [k, v, s] :: r => match natOf s, leftM seen r with
    | some n, some l => match seen.any (Nat.beq n) with
      | true => some l
      | false => some ((k, v, n) :: l)
    | _, _ => none
  | _ => none
def stampOf : AVal → Option Nat
  | .tuple [_, _, s] => natOf s
  | _ => none
def nextV (it : AVal) (h : AHeap) : Option (AVal × AHeap) :=
  match it with
  | .iter k => match h.get k with
    | some ⟨[m, s, l, .tuple seen], p⟩ => match m with
      | .nilm => some (.tuple [.bool false], h)
      | .map j => match h.get j with
        | some ⟨c :: es, _⟩ => match natOf c, natOf s, natOf l, natsOf seen with
          | some cn, some sn, some ln, some sl => match leftM sl es with
            | none => none
            | some left => match sl.isEmpty || es.isEmpty || es.any (fun e => match stampOf e with | some b => Nat.blt b ln | none => false) with
              | false => none
              | true => match left with
                | [] => some (.tuple [.bool false], h)
                | [(key, v, b)] => match Nat.blt b sn with
                  | true => some (.tuple [.bool true, key, v], h.set k ⟨[.map j, .int .i64 (.ofNat sn), .int .i64 (.ofNat cn), .tuple (seen ++ [.int .i64 (.ofNat b)])], p⟩)
                  | false => none
                | _ => none
          | _, _, _, _ => none
        | _ => none
      | _ => none
    | _ => none
  | _ => none
def entryAt (n : Nat) : List AVal → Option AVal
  | [] => none
  | .tuple [k, v, s] :: r => match natOf s with
    | some b => match Nat.beq b n with
      | true => some (.tuple [k, v])
      | false => entryAt n r
    | none => none
  | _ => none
def entryMV (it : AVal) (h : AHeap) : Option AVal :=
  match it with
  | .iter k => match h.get k with
    | some ⟨[.map j, _, l, .tuple seen], _⟩ => match h.get j with
      | some ⟨c :: es, _⟩ => match natOf c, natOf l, natsOf seen with
        | some cn, some ln, some sl => match Nat.beq cn ln, sl.getLast? with
          | true, some b => entryAt b es
          | _, _ => none
        | _, _, _ => none
      | _ => none
    | _ => none
  | _ => none

/-- A slice's elements become the zero value. -/
def clearV (z : List AVal) (x : AVal) (h : AHeap) : Option (AVal × AHeap) :=
  match x with
  | .nils => some (.tuple [], h)
  | .sl l o n _ => match n with
    | 0 => some (.tuple [], h)
    | n + 1 => match l with
      | .own k => match h.get k with
        | some b => match b.wr o (zeros z ((n + 1) * z.length)) with
          | some b' => some (.tuple [], h.set k b')
          | none => none
        | none => none
      | .inp _ => none
  | _ => none

/-- The value and the cells, at a number that is kept for it. -/
def MOp.made (f : Fr) (k : Nat) : MOp → Option (AVal × List AVal)
  | .alloc z => some (.ptr (.own k) 0, z)
  | .box x => some (.ptr (.own k) 0, (x.ev f).cells)
  | .buildSlice z n ps => match fillA f (zeros z (n * z.length)) ps with
    | some cs => some (.sl (.own k) 0 n (.known n), cs)
    | none => none
  | .makeSlice z bytes l c => match asNat (l.ev f), asNat (c.ev f) with
    | some l, some c => match Nat.ble l c && Nat.ble (bytes * c) 140737488355328 && Nat.ble c 140737488355328 with
      | true => some (.sl (.own k) 0 l (.known c), zeros z (c * z.length))
      | false => none
    | _, _ => none
  | .mapNew => some (.map k, [.int .i64 0])

def AOp.step (P : Program) (I : Inp) (f : Fr) (h : AHeap) : AOp → Option (AVal × AHeap)
  | .move x => some (x.ev f, h)
  | .pick c a b => match c.ev f with
    | .bool true => some (a.ev f, h)
    | .bool false => some (b.ev f, h)
    | _ => none
  | .alloc z => match h.room with
    | true => some (.ptr (.own h.next) 0, h.alloc ⟨z, true⟩)
    | false => none
  | .box x => match h.room with
    | true => some (.ptr (.own h.next) 0, h.alloc ⟨(x.ev f).cells, true⟩)
    | false => none
  | .build z ps => match fillA f z ps with
    | some cs => some (.agg cs, h)
    | none => none
  | .buildSlice z n ps => match fillA f (zeros z (n * z.length)) ps, h.room with
    | some cs, true => some (.sl (.own h.next) 0 n (.known n), h.alloc ⟨cs, true⟩)
    | _, _ => none
  | .load1 a => match a.ev f with
    | .ptr l o => match rd I h l o with
      | some v => some (v, h)
      | none => none
    | _ => none
  | .loadN n a => match a.ev f with
    | .ptr l o => match rds I h l o n with
      | some cs => some (.agg cs, h)
      | none => none
    | _ => none
  | .store n a x => match a.ev f with
    | .ptr (.own k) o => match h.get k, Nat.beq (x.ev f).cells.length n with
      | some b, true => match b.wr o (x.ev f).cells with
        | some b' => some (aundef, h.set k b')
        | none => none
      | _, _ => none
    | _ => none
  | .nilCheck x => match x.ev f with
    | .ptr l o => some (.ptr l o, h)
    | .sl l o n c => some (.sl l o n c, h)
    | .func (.func g) a b => some (.func (.func g) a b, h)
    | _ => none
  | .bin op x y => match abin op (x.ev f) (y.ev f) with
    | some v => some (v, h)
    | none => none
  | .eq neg ek c x y => match aeq P h ek c (x.ev f) (y.ev f) with
    | some b => some (.bool (if neg then !b else b), h)
    | none => none
  | .un op x => match aun op (x.ev f) with
    | some v => some (v, h)
    | none => none
  | .toInt k x => match x.ev f with
    | .int _ n => some (.int k (k.wrap n), h)
    | _ => none
  | .toBytes x => match x.ev f, h.room && fitsS (x.ev f) with
    | .str s, true => some (.sl (.own h.next) 0 s.length (.grown 1), h.alloc ⟨s.map fun b : Nat => .int .u8 (.ofNat b), false⟩)
    | _, _ => none
  | .toStr x => match x.ev f with
    | .nils => some (.str [], h)
    | .sl l o n _ => match rds I h l o n with
      | some cs => match cs.mapM (m := Option) (fun | .int .u8 (.ofNat b) => (match Nat.blt b 256 with | true => some b | false => none) | _ => none) with
        | some bs => some (.str bs, h)
        | none => none
      | none => none
    | _ => none
  | .asStr x => match x.ev f with
    | .str s => some (.str s, h)
    | _ => none
  | .iface t x => some (.iface t (x.ev f), h)
  | .mkFunc fn a b => some (.func fn (a.map (·.ev f)) (b.map (·.ev f)), h)
  | .makeSlice z bytes l c => match asNat (l.ev f), asNat (c.ev f), h.room with
    | some l, some c, true => match Nat.ble l c && Nat.ble (bytes * c) 140737488355328 && Nat.ble c 140737488355328 with
      | true => some (.sl (.own h.next) 0 l (.known c), h.alloc ⟨zeros z (c * z.length), true⟩)
      | false => none
    | _, _, _ => none
  | .resv k m => match m.made f k with
    | some (v, cs) => some (v, h.set k ⟨cs, true⟩)
    | none => none
  | .sliceS sz x lo hi mx => match sliceOf f sz (x.ev f) lo hi mx with
    | some v => some (v, h)
    | none => none
  | .sliceStr x lo hi => match x.ev f with
    | .str s => match optNat f 0 lo, optNat f s.length hi with
      | some a, some b => match Nat.ble a b && Nat.ble b s.length with
        | true => some (.str ((s.drop a).take (b - a)), h)
        | false => none
      | _, _ => none
    | _ => none
  | .sliceArr n sz x lo hi mx => match x.ev f with
    | .ptr l o => match sliceOf f sz (.sl l o n (.known n)) lo hi mx with
      | some v => some (v, h)
      | none => none
    | _ => none
  | .fieldAddr off x => match x.ev f with
    | .ptr l o => some (.ptr l (o + off), h)
    | _ => none
  | .field1 off x => match x.ev f with
    | .agg cs => match cs[off]? with
      | some v => some (v, h)
      | none => none
    | _ => none
  | .fieldN off n x => match x.ev f with
    | .agg cs => match Nat.ble (off + n) cs.length with
      | true => some (.agg ((cs.drop off).take n), h)
      | false => none
    | _ => none
  | .indexAddr sz x i => match x.ev f, asNat (i.ev f) with
    | .sl l o n _, some j => match Nat.blt j n with
      | true => some (.ptr l (o + j * sz), h)
      | false => none
    | _, _ => none
  | .indexAddrArr n sz x i => match x.ev f, asNat (i.ev f) with
    | .ptr l o, some j => match Nat.blt j n with
      | true => some (.ptr l (o + j * sz), h)
      | false => none
    | _, _ => none
  | .indexStr x i => match x.ev f, asNat (i.ev f) with
    | .str s, some j => match s[j]? with
      | some b => some (.int .u8 b, h)
      | none => none
    | _, _ => none
  | .index1 n x i => match x.ev f, asNat (i.ev f) with
    | .agg cs, some j => match cs[j]?, Nat.blt j n with
      | some v, true => some (v, h)
      | _, _ => none
    | _, _ => none
  | .indexN n sz x i => match x.ev f, asNat (i.ev f) with
    | .agg cs, some j => match Nat.blt j n && Nat.ble (j * sz + sz) cs.length with
      | true => some (.agg ((cs.drop (j * sz)).take sz), h)
      | _ => none
    | _, _ => none
  | .extract x i => match x.ev f with
    | .tuple vs => match vs[i]? with
      | some v => some (v, h)
      | none => none
    | _ => none
  | .assertI t z ok x => match x.ev f with
    | .nili => if ok then some (.tuple [z, .bool false], h) else none
    | .iface u v => match implB P t u with
      | some true => some (if ok then .tuple [.iface u v, .bool true] else .iface u v, h)
      | some false => if ok then some (.tuple [z, .bool false], h) else none
      | none => none
    | _ => none
  | .assertT t z ok x => match x.ev f with
    | .nili => if ok then some (.tuple [z, .bool false], h) else none
    | .iface u v => if u = t then some (if ok then .tuple [v, .bool true] else v, h) else if ok then some (.tuple [z, .bool false], h) else none
    | _ => none
  | .lenStr x => match x.ev f with
    | .str s => some (.int .i64 s.length, h)
    | _ => none
  | .lenSl x => match x.ev f with
    | .nils => some (.int .i64 0, h)
    | .sl _ _ n _ => some (.int .i64 n, h)
    | _ => none
  | .minmax mx xs => match xs.map (fun x : AOpd => x.ev f) with
    | AVal.int k a :: r => match minInts mx k a r with
      | some v => some (v, h)
      | none => none
    | _ => none
  | .append sz bytes x y => appendTo I h sz bytes (x.ev f) (y.ev f)
  | .mapNew => mapNewV h
  | .mapGet kk z ok m k => match mapGetV kk z ok (m.ev f) (k.ev f) h with
    | some v => some (v, h)
    | none => none
  | .mapPut kk m k x => mapPutV kk (m.ev f) (k.ev f) (x.ev f) h
  | .mapEnt kk z m k => mapEntV kk z (m.ev f) (k.ev f) h
  | .entPut m s x => entPutV (m.ev f) (s.ev f) (x.ev f) h
  | .capS x => match capV (x.ev f) with
    | some v => some (v, h)
    | none => none
  | .appZ sz bytes z x n => appZV sz bytes z (x.ev f) (n.ev f) h
  | .stuck => none
  | .mapDel kk m k => mapDelV kk (m.ev f) (k.ev f) h
  | .lenMap m => match lenMapV (m.ev f) h with
    | some v => some (v, h)
    | none => none
  | .clearS z x => clearV z (x.ev f) h
  | .rangeM m => rangeV (m.ev f) h
  | .nextM it => nextV (it.ev f) h
  | .entryM it => match entryMV (it.ev f) h with
    | some v => some (v, h)
    | none => none
  | .call _ _ | .callv _ _ | .invoke _ _ _ => none

/-! the same, each operation by itself: quicker to reduce -/
def stepK_move (f : Fr) (h : AHeap) (x : AOpd) : Option (AVal × AHeap) :=
  some (x.ev f, h)
def stepK_pick (f : Fr) (h : AHeap) (c : AOpd) (a : AOpd) (b : AOpd) : Option (AVal × AHeap) :=
  match c.ev f with
  | .bool true => some (a.ev f, h)
  | .bool false => some (b.ev f, h)
  | _ => none
def stepK_alloc (h : AHeap) (z : List AVal) : Option (AVal × AHeap) :=
  match h.room with
  | true => some (.ptr (.own h.next) 0, h.alloc ⟨z, true⟩)
  | false => none
def stepK_box (f : Fr) (h : AHeap) (x : AOpd) : Option (AVal × AHeap) :=
  match h.room with
  | true => some (.ptr (.own h.next) 0, h.alloc ⟨(x.ev f).cells, true⟩)
  | false => none
def stepK_build (f : Fr) (h : AHeap) (z : List AVal) (ps : List (Nat × Nat × AOpd)) : Option (AVal × AHeap) :=
  match fillA f z ps with
  | some cs => some (.agg cs, h)
  | none => none
def stepK_buildSlice (f : Fr) (h : AHeap) (z : List AVal) (n : Nat) (ps : List (Nat × Nat × AOpd)) : Option (AVal × AHeap) :=
  match fillA f (zeros z (n * z.length)) ps, h.room with
  | some cs, true => some (.sl (.own h.next) 0 n (.known n), h.alloc ⟨cs, true⟩)
  | _, _ => none
def stepK_load1 (I : Inp) (f : Fr) (h : AHeap) (a : AOpd) : Option (AVal × AHeap) :=
  match a.ev f with
  | .ptr l o => match rd I h l o with
    | some v => some (v, h)
    | none => none
  | _ => none
def stepK_loadN (I : Inp) (f : Fr) (h : AHeap) (n : Nat) (a : AOpd) : Option (AVal × AHeap) :=
  match a.ev f with
  | .ptr l o => match rds I h l o n with
    | some cs => some (.agg cs, h)
    | none => none
  | _ => none
def stepK_store (f : Fr) (h : AHeap) (n : Nat) (a : AOpd) (x : AOpd) : Option (AVal × AHeap) :=
  match a.ev f with
  | .ptr (.own k) o => match h.get k, Nat.beq (x.ev f).cells.length n with
    | some b, true => match b.wr o (x.ev f).cells with
      | some b' => some (aundef, h.set k b')
      | none => none
    | _, _ => none
  | _ => none
def stepK_nilCheck (f : Fr) (h : AHeap) (x : AOpd) : Option (AVal × AHeap) :=
  match x.ev f with
  | .ptr l o => some (.ptr l o, h)
  | .sl l o n c => some (.sl l o n c, h)
  | .func (.func g) a b => some (.func (.func g) a b, h)
  | _ => none
def stepK_bin (f : Fr) (h : AHeap) (op : BinOp) (x : AOpd) (y : AOpd) : Option (AVal × AHeap) :=
  match abin op (x.ev f) (y.ev f) with
  | some v => some (v, h)
  | none => none
def stepK_eq (P : Program) (f : Fr) (h : AHeap) (neg : Bool) (ek : EqK) (c : Bool) (x : AOpd) (y : AOpd) : Option (AVal × AHeap) :=
  match aeq P h ek c (x.ev f) (y.ev f) with
  | some b => some (.bool (if neg then !b else b), h)
  | none => none
def stepK_un (f : Fr) (h : AHeap) (op : UnOp) (x : AOpd) : Option (AVal × AHeap) :=
  match aun op (x.ev f) with
  | some v => some (v, h)
  | none => none
def stepK_toInt (f : Fr) (h : AHeap) (k : IntKind) (x : AOpd) : Option (AVal × AHeap) :=
  match x.ev f with
  | .int _ n => some (.int k (k.wrap n), h)
  | _ => none
def stepK_toBytes (f : Fr) (h : AHeap) (x : AOpd) : Option (AVal × AHeap) :=
  match x.ev f, h.room && fitsS (x.ev f) with
  | .str s, true => some (.sl (.own h.next) 0 s.length (.grown 1), h.alloc ⟨s.map fun b : Nat => .int .u8 (.ofNat b), false⟩)
  | _, _ => none
def stepK_toStr (I : Inp) (f : Fr) (h : AHeap) (x : AOpd) : Option (AVal × AHeap) :=
  match x.ev f with
  | .nils => some (.str [], h)
  | .sl l o n _ => match rds I h l o n with
    | some cs => match cs.mapM (m := Option) (fun | .int .u8 (.ofNat b) => (match Nat.blt b 256 with | true => some b | false => none) | _ => none) with
      | some bs => some (.str bs, h)
      | none => none
    | none => none
  | _ => none
def stepK_asStr (f : Fr) (h : AHeap) (x : AOpd) : Option (AVal × AHeap) :=
  match x.ev f with
  | .str s => some (.str s, h)
  | _ => none
def stepK_iface (f : Fr) (h : AHeap) (t : TypeId) (x : AOpd) : Option (AVal × AHeap) :=
  some (.iface t (x.ev f), h)
def stepK_mkFunc (f : Fr) (h : AHeap) (fn : Fn) (a : List AOpd) (b : List AOpd) : Option (AVal × AHeap) :=
  some (.func fn (a.map (·.ev f)) (b.map (·.ev f)), h)
def stepK_makeSlice (f : Fr) (h : AHeap) (z : List AVal) (bytes : Nat) (l : AOpd) (c : AOpd) : Option (AVal × AHeap) :=
  match asNat (l.ev f), asNat (c.ev f), h.room with
  | some l, some c, true => match Nat.ble l c && Nat.ble (bytes * c) 140737488355328 && Nat.ble c 140737488355328 with
    | true => some (.sl (.own h.next) 0 l (.known c), h.alloc ⟨zeros z (c * z.length), true⟩)
    | false => none
  | _, _, _ => none
def stepK_resv (f : Fr) (h : AHeap) (k : Nat) (m : MOp) : Option (AVal × AHeap) :=
  match m.made f k with
  | some (v, cs) => some (v, h.set k ⟨cs, true⟩)
  | none => none
def stepK_sliceS (f : Fr) (h : AHeap) (sz : Nat) (x : AOpd) (lo : Option AOpd) (hi : Option AOpd) (mx : Option AOpd) : Option (AVal × AHeap) :=
  match sliceOf f sz (x.ev f) lo hi mx with
  | some v => some (v, h)
  | none => none
def stepK_sliceStr (f : Fr) (h : AHeap) (x : AOpd) (lo : Option AOpd) (hi : Option AOpd) : Option (AVal × AHeap) :=
  match x.ev f with
  | .str s => match optNat f 0 lo, optNat f s.length hi with
    | some a, some b => match Nat.ble a b && Nat.ble b s.length with
      | true => some (.str ((s.drop a).take (b - a)), h)
      | false => none
    | _, _ => none
  | _ => none
def stepK_sliceArr (f : Fr) (h : AHeap) (n : Nat) (sz : Nat) (x : AOpd) (lo : Option AOpd) (hi : Option AOpd) (mx : Option AOpd) : Option (AVal × AHeap) :=
  match x.ev f with
  | .ptr l o => match sliceOf f sz (.sl l o n (.known n)) lo hi mx with
    | some v => some (v, h)
    | none => none
  | _ => none
def stepK_fieldAddr (f : Fr) (h : AHeap) (off : Nat) (x : AOpd) : Option (AVal × AHeap) :=
  match x.ev f with
  | .ptr l o => some (.ptr l (o + off), h)
  | _ => none
def stepK_field1 (f : Fr) (h : AHeap) (off : Nat) (x : AOpd) : Option (AVal × AHeap) :=
  match x.ev f with
  | .agg cs => match cs[off]? with
    | some v => some (v, h)
    | none => none
  | _ => none
def stepK_fieldN (f : Fr) (h : AHeap) (off : Nat) (n : Nat) (x : AOpd) : Option (AVal × AHeap) :=
  match x.ev f with
  | .agg cs => match Nat.ble (off + n) cs.length with
    | true => some (.agg ((cs.drop off).take n), h)
    | false => none
  | _ => none
def stepK_indexAddr (f : Fr) (h : AHeap) (sz : Nat) (x : AOpd) (i : AOpd) : Option (AVal × AHeap) :=
  match x.ev f, asNat (i.ev f) with
  | .sl l o n _, some j => match Nat.blt j n with
    | true => some (.ptr l (o + j * sz), h)
    | false => none
  | _, _ => none
def stepK_indexAddrArr (f : Fr) (h : AHeap) (n : Nat) (sz : Nat) (x : AOpd) (i : AOpd) : Option (AVal × AHeap) :=
  match x.ev f, asNat (i.ev f) with
  | .ptr l o, some j => match Nat.blt j n with
    | true => some (.ptr l (o + j * sz), h)
    | false => none
  | _, _ => none
def stepK_indexStr (f : Fr) (h : AHeap) (x : AOpd) (i : AOpd) : Option (AVal × AHeap) :=
  match x.ev f, asNat (i.ev f) with
  | .str s, some j => match s[j]? with
    | some b => some (.int .u8 b, h)
    | none => none
  | _, _ => none
def stepK_index1 (f : Fr) (h : AHeap) (n : Nat) (x : AOpd) (i : AOpd) : Option (AVal × AHeap) :=
  match x.ev f, asNat (i.ev f) with
  | .agg cs, some j => match cs[j]?, Nat.blt j n with
    | some v, true => some (v, h)
    | _, _ => none
  | _, _ => none
def stepK_indexN (f : Fr) (h : AHeap) (n : Nat) (sz : Nat) (x : AOpd) (i : AOpd) : Option (AVal × AHeap) :=
  match x.ev f, asNat (i.ev f) with
  | .agg cs, some j => match Nat.blt j n && Nat.ble (j * sz + sz) cs.length with
    | true => some (.agg ((cs.drop (j * sz)).take sz), h)
    | _ => none
  | _, _ => none
def stepK_extract (f : Fr) (h : AHeap) (x : AOpd) (i : Nat) : Option (AVal × AHeap) :=
  match x.ev f with
  | .tuple vs => match vs[i]? with
    | some v => some (v, h)
    | none => none
  | _ => none
def stepK_assertI (P : Program) (f : Fr) (h : AHeap) (t : TypeId) (z : AVal) (ok : Bool) (x : AOpd) : Option (AVal × AHeap) :=
  match x.ev f with
  | .nili => if ok then some (.tuple [z, .bool false], h) else none
  | .iface u v => match implB P t u with
    | some true => some (if ok then .tuple [.iface u v, .bool true] else .iface u v, h)
    | some false => if ok then some (.tuple [z, .bool false], h) else none
    | none => none
  | _ => none
def stepK_assertT (f : Fr) (h : AHeap) (t : TypeId) (z : AVal) (ok : Bool) (x : AOpd) : Option (AVal × AHeap) :=
  match x.ev f with
  | .nili => if ok then some (.tuple [z, .bool false], h) else none
  | .iface u v => if u = t then some (if ok then .tuple [v, .bool true] else v, h) else if ok then some (.tuple [z, .bool false], h) else none
  | _ => none
def stepK_lenStr (f : Fr) (h : AHeap) (x : AOpd) : Option (AVal × AHeap) :=
  match x.ev f with
  | .str s => some (.int .i64 s.length, h)
  | _ => none
def stepK_lenSl (f : Fr) (h : AHeap) (x : AOpd) : Option (AVal × AHeap) :=
  match x.ev f with
  | .nils => some (.int .i64 0, h)
  | .sl _ _ n _ => some (.int .i64 n, h)
  | _ => none
def stepK_minmax (f : Fr) (h : AHeap) (mx : Bool) (xs : List AOpd) : Option (AVal × AHeap) :=
  match xs.map (fun x : AOpd => x.ev f) with
  | AVal.int k a :: r => match minInts mx k a r with
    | some v => some (v, h)
    | none => none
  | _ => none
def stepK_append (I : Inp) (f : Fr) (h : AHeap) (sz : Nat) (bytes : Nat) (x : AOpd) (y : AOpd) : Option (AVal × AHeap) :=
  appendTo I h sz bytes (x.ev f) (y.ev f)

def AOp.stepK (P : Program) (I : Inp) (f : Fr) (h : AHeap) : AOp → Option (AVal × AHeap)
  | .move x => stepK_move f h x
  | .pick c a b => stepK_pick f h c a b
  | .alloc z => stepK_alloc h z
  | .box x => stepK_box f h x
  | .build z ps => stepK_build f h z ps
  | .buildSlice z n ps => stepK_buildSlice f h z n ps
  | .load1 a => stepK_load1 I f h a
  | .loadN n a => stepK_loadN I f h n a
  | .store n a x => stepK_store f h n a x
  | .nilCheck x => stepK_nilCheck f h x
  | .bin op x y => stepK_bin f h op x y
  | .eq neg ek c x y => stepK_eq P f h neg ek c x y
  | .un op x => stepK_un f h op x
  | .toInt k x => stepK_toInt f h k x
  | .toBytes x => stepK_toBytes f h x
  | .toStr x => stepK_toStr I f h x
  | .asStr x => stepK_asStr f h x
  | .iface t x => stepK_iface f h t x
  | .mkFunc fn a b => stepK_mkFunc f h fn a b
  | .makeSlice z bytes l c => stepK_makeSlice f h z bytes l c
  | .resv k m => stepK_resv f h k m
  | .sliceS sz x lo hi mx => stepK_sliceS f h sz x lo hi mx
  | .sliceStr x lo hi => stepK_sliceStr f h x lo hi
  | .sliceArr n sz x lo hi mx => stepK_sliceArr f h n sz x lo hi mx
  | .fieldAddr off x => stepK_fieldAddr f h off x
  | .field1 off x => stepK_field1 f h off x
  | .fieldN off n x => stepK_fieldN f h off n x
  | .indexAddr sz x i => stepK_indexAddr f h sz x i
  | .indexAddrArr n sz x i => stepK_indexAddrArr f h n sz x i
  | .indexStr x i => stepK_indexStr f h x i
  | .index1 n x i => stepK_index1 f h n x i
  | .indexN n sz x i => stepK_indexN f h n sz x i
  | .extract x i => stepK_extract f h x i
  | .assertI t z ok x => stepK_assertI P f h t z ok x
  | .assertT t z ok x => stepK_assertT f h t z ok x
  | .lenStr x => stepK_lenStr f h x
  | .lenSl x => stepK_lenSl f h x
  | .minmax mx xs => stepK_minmax f h mx xs
  | .append sz bytes x y => stepK_append I f h sz bytes x y
  | .mapNew => mapNewV h
  | .mapGet kk z ok m k => match mapGetV kk z ok (m.ev f) (k.ev f) h with
    | some v => some (v, h)
    | none => none
  | .mapPut kk m k x => mapPutV kk (m.ev f) (k.ev f) (x.ev f) h
  | .mapEnt kk z m k => mapEntV kk z (m.ev f) (k.ev f) h
  | .entPut m s x => entPutV (m.ev f) (s.ev f) (x.ev f) h
  | .capS x => match capV (x.ev f) with
    | some v => some (v, h)
    | none => none
  | .appZ sz bytes z x n => appZV sz bytes z (x.ev f) (n.ev f) h
  | .stuck => none
  | .mapDel kk m k => mapDelV kk (m.ev f) (k.ev f) h
  | .lenMap m => match lenMapV (m.ev f) h with
    | some v => some (v, h)
    | none => none
  | .clearS z x => clearV z (x.ev f) h
  | .rangeM m => rangeV (m.ev f) h
  | .nextM it => nextV (it.ev f) h
  | .entryM it => match entryMV (it.ev f) h with
    | some v => some (v, h)
    | none => none
  | .call _ _ | .callv _ _ | .invoke _ _ _ => none

theorem AOp.stepK_eq (P : Program) (I : Inp) (f : Fr) (h : AHeap) (op : AOp) : op.stepK P I f h = op.step P I f h := by
  cases op <;> rfl

/-- The function that a call enters, and its arguments. -/
def AOp.target (P : Program) (f : Fr) : AOp → Option (Nat × List AVal)
  | .call g args => some (g, args.map (·.ev f))
  | .callv x args => match x.ev f with
    | .func (.func g) first captured => some (g, first ++ args.map (·.ev f) ++ captured)
    | _ => none
  | .invoke x name args => match x.ev f with
    | .iface t v => match methodOf P t name, v with
      | some g, .nilp => some (g, v :: args.map (·.ev f))
      | some g, .ptr _ _ => some (g, v :: args.map (·.ev f))
      | _, _ => none
    | _ => none
  | _ => none

end

end Go.AM

/- AM, part 4: the model's code to the abstract machine's, and how that runs. (definitions alone) -/
namespace Go.AM
noncomputable section
open Go.RowKit

def ofConst1 : Value → Option AVal
  | .bool b => some (.bool b)
  | .int k n => some (.int k n)
  | .string s => some (.str (s.data.toList.map UInt8.toNat))
  | .pointer none => some .nilp
  | .slice none 0 0 => some .nils
  | .nilFunc => some .nilf
  | .nilIface => some .nili
  | .map none => some .nilm
  | _ => none

def ofConsts : List Value → Option (List AVal)
  | [] => some []
  | v :: r => match ofConst1 v, ofConsts r with
    | some x, some xs => some (x :: xs)
    | _, _ => none

def ofConst : Value → Option AVal
  | .agg cs => match ofConsts cs.toList with
    | some xs => some (.agg xs)
    | none => none
  | .tuple cs => match ofConsts cs.toList with
    | some xs => some (.tuple xs)
    | none => none
  | v => ofConst1 v

def cOpd : Operand → Option AOpd
  | .tmp t => some (.tmp t)
  | .const v => match ofConst v with
    | some x => some (.val x)
    | none => none
  | .global g => some (.val (.ptr (.inp (2 * g)) 0))
  | .func f => some (.val (.func (.func f) [] []))

def cOpds : List Operand → Option (List AOpd)
  | [] => some []
  | x :: r => match cOpd x, cOpds r with
    | some y, some ys => some (y :: ys)
    | _, _ => none

def cOpt : Option Operand → Option (Option AOpd)
  | none => some none
  | some x => match cOpd x with
    | some y => some (some y)
    | none => none

def sizeP (P : Program) (t : TypeId) : Option Nat :=
  match P.info? t with
  | some i => some i.size
  | none => none

def zeroP (P : Program) (t : TypeId) : Option AVal :=
  match P.info? t with
  | some i => match i.zero with
    | some v => ofConst v
    | none => none
  | none => none

def isAggP (P : Program) (t : TypeId) : Option Bool :=
  match P.underlying t with
  | some (.struct _) | some (.array _ _) => some true
  | some _ => some false
  | none => none

def scalarT (P : Program) (t : TypeId) : Option ST :=
  match P.underlying t with
  | some .bool => some .b
  | some (.int _) => some .i
  | some .string => some .s
  | _ => none

def flatFields (P : Program) (nest : TypeId → Option (List ST)) : Nat → List Field → Option (List ST)
  | _, [] => some []
  | i, f :: r => match f.name != "_" && Nat.beq f.offset i with
    | true => match scalarT P f.type with
      | some k => (flatFields P nest (i + 1) r).map (k :: ·)
      | none => match nest f.type with
        | some ks => (flatFields P nest (i + ks.length) r).map (ks ++ ·)
        | none => none
    | false => none

/-- The cells of a struct, all of them scalars (structs in it are laid flat). -/
def flatT (P : Program) : Nat → TypeId → Option (List ST)
  | 0, _ => none
  | d + 1, t => match P.underlying t with
    | some (.struct fs) => match flatFields P (flatT P d) 0 fs.toList, !P.stoodInHeld t && !P.eqGuardType P.depth t, sizeP P t with
      | some ks, true, some n => match Nat.beq n ks.length with
        | true => some ks
        | false => none
      | _, _, _ => none
    | _ => none

def placesP (P : Program) (fields : Array Field) : Option (List (Nat × Nat)) :=
  fields.toList.mapM (fun f => (P.info? f.type).map fun i => (f.offset, i.size))

def cParts (place : Nat → Option (Nat × Nat)) : List (Nat × Operand) → Option (List (Nat × Nat × AOpd))
  | [] => some []
  | (i, x) :: r => match place i, cOpd x, cParts place r with
    | some (off, n), some y, some ys => some ((off, n, y) :: ys)
    | _, _, _ => none

def isConstO : Operand → Bool
  | .const _ => true
  | _ => false

def eqKind (P : Program) (t : TypeId) : Option EqK :=
  match P.underlying t with
  | some .bool => some .bool
  | some (.pointer e) => match sizeP P e with
    | some (_ + 1) => some .ptr
    | _ => none
  | some (.slice _) => some .slice
  | some (.func _ _ _) => some .func
  | some (.interface _) => some .iface
  | some (.struct _) => match flatT P 3 t with
    | some ks => some (.struct ks)
    | none => none
  | _ => none

def keyT (P : Program) (t : TypeId) : Option KeyK :=
  match scalarT P t with
  | some k => some (.one k)
  | none => match P.underlying t with
    | some (.struct _) => match flatT P 3 t with
      | some ks => some (.many ks)
      | none => none
    | _ => none

def cBuiltin (P : Program) (b : Builtin) (argTypes : List TypeId) (args : List AOpd) : Option AOp :=
  match b, argTypes, args with
  | .len, t :: _, x :: _ => match P.underlying t with
    | some .string => some (.lenStr x)
    | some (.slice _) => some (.lenSl x)
    | some (.map _ _) => some (.lenMap x)
    | _ => none
  | .delete, t :: _, x :: y :: _ => match P.underlying t with
    | some (.map k _) => (keyT P k).map fun kk => .mapDel kk x y
    | _ => none
  | .clear, t :: _, x :: _ => match P.underlying t with
    | some (.slice e) => match P.info? e, zeroP P e with
      | some i, some z => match Nat.beq z.cells.length i.size && Nat.blt 0 i.size with
        | true => some (.clearS z.cells x)
        | false => none
      | _, _ => none
    | _ => none
  | .append, [t, u], [x, y] => match P.underlying t, P.underlying u with
    | some (.slice e), some d => match P.info? e, zeroP P e, d with
      | some i, some z, .string => match Nat.beq z.cells.length i.size && Nat.blt 0 i.size with
        | true => some (.append i.size i.bytes x y)
        | false => none
      | some i, some z, .slice _ => match Nat.beq z.cells.length i.size && Nat.blt 0 i.size with
        | true => some (.append i.size i.bytes x y)
        | false => none
      | some i, some z, .int _ => match Nat.beq z.cells.length i.size && Nat.blt 0 i.size with
        | true => some (.appZ i.size i.bytes z.cells x y)
        | false => none
      | _, _, _ => none
    | _, _ => none
  | .cap, t :: _, x :: _ => match P.underlying t with
    | some (.slice _) => some (.capS x)
    | _ => none
  | .min, _, x :: xs => some (.minmax false (x :: xs))
  | .max, _, x :: xs => some (.minmax true (x :: xs))
  | _, _, _ => none

def cOp (P : Program) (op : Op) : Option AOp :=
  match op with
  | .move x | .assign x => (cOpd x).map .move
  | .pick c a b => match cOpd c, cOpd a, cOpd b with
    | some c, some a, some b => some (.pick c a b)
    | _, _, _ => none
  | .alloc t => (zeroP P t).map fun z => .alloc z.cells
  | .box _ x => (cOpd x).map .box
  | .build t parts => match zeroP P t, P.underlying t with
    | some z, some (.struct fields) => match placesP P fields with
      | some pl => (cParts (pl.toArray[·]?) parts.toList).map (.build z.cells)
      | none => none
    | some z, some (.array _ e) => match sizeP P e with
      | some n => (cParts (fun i => some (i * n, n)) parts.toList).map (.build z.cells)
      | none => none
    | _, _ => none
  | .buildSlice t n parts => match P.underlying t with
    | some (.slice e) => match sizeP P e, zeroP P e with
      | some sz, some z => match Nat.beq z.cells.length sz && Nat.blt 0 sz && Nat.ble (n * sz) 16777216 with
        | true => (cParts (fun i => some (i * sz, sz)) parts.toList).map (.buildSlice z.cells n)
        | false => none
      | _, _ => none
    | _ => none
  | .load t a => match isAggP P t, sizeP P t, cOpd a with
    | some true, some n, some a => some (.loadN n a)
    | some false, some _, some a => some (.load1 a)
    | _, _, _ => none
  | .store t a x => match sizeP P t, cOpd a, cOpd x with
    | some n, some a, some x => some (.store n a x)
    | _, _, _ => none
  | .nilCheck x => (cOpd x).map .nilCheck
  | .binOp op t x y _ => match cOpd x, cOpd y with
    | some x', some y' => match op with
      | .eql | .neq => match P.underlying t with
        | some (.int _) | some .string => some (.bin op x' y')
        | _ => (eqKind P t).map fun ek => .eq (op == .neq) ek (isConstO x || isConstO y) x' y'
      | _ => some (.bin op x' y')
    | _, _ => none
  | .unOp op _ x => (cOpd x).map (.un op)
  | .convert src dst x => match cOpd x, P.underlying src, P.underlying dst with
    | some x, some (.int _), some (.int k) => some (.toInt k x)
    | some x, some .string, some .string => some (.asStr x)
    | some x, some .string, some (.slice e) => match P.underlying e with
      | some (.int .u8) => some (.toBytes x)
      | _ => none
    | some x, some (.slice e), some .string => match P.underlying e with
      | some (.int .u8) => some (.toStr x)
      | _ => none
    | _, _, _ => none
  | .makeInterface t x => match P.underlying t with
    | some (.interface _) => none
    | some _ => (cOpd x).map (.iface t)
    | none => none
  | .makeFunc fn a b => match cOpds a.toList, cOpds b.toList with
    | some a, some b => some (.mkFunc fn a b)
    | _, _ => none
  | .makeSlice t l c => match P.underlying t with
    | some (.slice e) => match P.info? e, zeroP P e, cOpd l, cOpd c with
      | some i, some z, some l, some c => match Nat.beq z.cells.length i.size && Nat.blt 0 i.size with
        | true => some (.makeSlice z.cells i.bytes l c)
        | false => none
      | _, _, _, _ => none
    | _ => none
  | .slice t x lo hi mx => match cOpd x, cOpt lo, cOpt hi, cOpt mx, P.underlying t with
    | some x, some lo, some hi, some mx, some (.array n e) => (sizeP P e).map fun sz => .sliceArr n sz x lo hi mx
    | some x, some lo, some hi, some none, some .string => some (.sliceStr x lo hi)
    | some x, some lo, some hi, some mx, some (.slice e) => (sizeP P e).map fun sz => .sliceS sz x lo hi mx
    | _, _, _, _, _ => none
  | .fieldAddr s x i => match P.underlying s, cOpd x with
    | some (.struct fields), some x => match fields[i]? with
      | some f => match sizeP P f.type with
        | some (_ + 1) => some (.fieldAddr f.offset x)
        | _ => none
      | none => none
    | _, _ => none
  | .field t x i => match P.underlying t, cOpd x with
    | some (.struct fields), some x => match fields[i]? with
      | some f => match isAggP P f.type, sizeP P f.type with
        | some true, some n => some (.fieldN f.offset n x)
        | some false, some _ => some (.field1 f.offset x)
        | _, _ => none
      | none => none
    | _, _ => none
  | .indexAddr t x i => match P.underlying t, cOpd x, cOpd i with
    | some (.array n e), some x, some i => (sizeP P e).map fun sz => .indexAddrArr n sz x i
    | some (.slice e), some x, some i => (sizeP P e).map fun sz => .indexAddr sz x i
    | _, _, _ => none
  | .index t x i => match P.underlying t, cOpd x, cOpd i with
    | some (.array n e), some x, some i => match isAggP P e, sizeP P e with
      | some true, some sz => some (.indexN n sz x i)
      | some false, some 1 => some (.index1 n x i)
      | _, _ => none
    | some .string, some x, some i => some (.indexStr x i)
    | _, _, _ => none
  | .makeMap _ none => some .mapNew
  | .range t x => match P.underlying t with
    | some (.map _ _) => (cOpd x).map .rangeM
    | _ => none
  | .next x isS => match isS with
    | false => (cOpd x).map .nextM
    | true => none
  | .entry x => (cOpd x).map .entryM
  | .lookup t x ix ok => match P.underlying t, cOpd x, cOpd ix with
    | some (.map k e), some x, some ix => match keyT P k, zeroP P e with
      | some kk, some z => some (.mapGet kk z ok x ix)
      | _, _ => none
    | _, _, _ => none
  | .mapUpdate t m ix x | .insert t m ix x => match P.underlying t, cOpd m, cOpd ix, cOpd x with
    | some (.map k _), some m, some ix, some x => (keyT P k).map fun kk => .mapPut kk m ix x
    | _, _, _, _ => none
  | .mapEntry t m ix => match P.underlying t, cOpd m, cOpd ix with
    | some (.map k e), some m, some ix => match keyT P k, zeroP P e with
      | some kk, some z => some (.mapEnt kk z m ix)
      | _, _ => none
    | _, _, _ => none
  | .entryStore _ m st x => match cOpd m, cOpd st, cOpd x with
    | some m, some st, some x => some (.entPut m st x)
    | _, _, _ => none
  | .panic _ => some .stuck
  | .extract x i => (cOpd x).map fun x => .extract x i
  | .typeAssert x _ t ok => match cOpd x, zeroP P t, P.underlying t with
    | some x, some z, some (.interface _) => some (.assertI t z ok x)
    | some x, some z, some _ => some (.assertT t z ok x)
    | _, _, _ => none
  | .call c => match cOpds c.args.toList with
    | none => none
    | some args => match c.callee with
      | .value (.func f) => some (.call f args)
      | .value x => match cOpd x with
        | some x => some (.callv x args)
        | none => none
      | .invoke x name => match cOpd x with
        | some x => some (.invoke x name args)
        | none => none
      | .builtin b => cBuiltin P b c.argTypes.toList args
  | _ => none

def cOper (P : Program) (ops : Array Oper) (o : Oper) : Option AOper :=
  match cOp P o.op with
  | none => none
  | some ao => match o.guard with
    | none => some ⟨o.dst, ao, none⟩
    | some (j, want) => match (ops[j]?).bind (·.dst) with
      | some t => some ⟨o.dst, ao, some (t, want)⟩
      | none => none

def cOpers (P : Program) (ops : Array Oper) : List Oper → Option (List AOper)
  | [] => some []
  | o :: r => match cOper P ops o, cOpers P ops r with
    | some a, some as' => some (a :: as')
    | _, _ => none

/-! ### regions that draw their order -/
def AOpd.looks : AOpd → List Nat
  | .tmp t => [t]
  | .val _ => []
def optLooks : Option AOpd → List Nat
  | some x => x.looks
  | none => []

def MOp.looks : MOp → List Nat
  | .alloc _ => []
  | .box x => x.looks
  | .buildSlice _ _ ps => ps.flatMap fun p => p.2.2.looks
  | .makeSlice _ _ l c => l.looks ++ c.looks
  | .mapNew => []

/-- The slots that an operation reads. -/
def AOp.looks : AOp → List Nat
  | .move x | .box x | .load1 x | .loadN _ x | .nilCheck x | .un _ x | .toInt _ x | .toBytes x | .toStr x | .asStr x | .iface _ x | .fieldAddr _ x | .field1 _ x | .fieldN _ _ x
  | .extract x _ | .assertI _ _ _ x | .assertT _ _ _ x | .lenStr x | .lenSl x => x.looks
  | .pick c a b => c.looks ++ (a.looks ++ b.looks)
  | .alloc _ => []
  | .build _ ps | .buildSlice _ _ ps => ps.flatMap fun p => p.2.2.looks
  | .store _ a x | .bin _ a x | .eq _ _ _ a x | .makeSlice _ _ a x | .indexAddr _ a x | .indexAddrArr _ _ a x | .indexStr a x | .index1 _ a x | .indexN _ _ a x | .append _ _ a x => a.looks ++ x.looks
  | .mkFunc _ a b => a.flatMap AOpd.looks ++ b.flatMap AOpd.looks
  | .sliceS _ x lo hi mx | .sliceArr _ _ x lo hi mx => x.looks ++ (optLooks lo ++ (optLooks hi ++ optLooks mx))
  | .sliceStr x lo hi => x.looks ++ (optLooks lo ++ optLooks hi)
  | .minmax _ xs => xs.flatMap AOpd.looks
  | .call _ xs => xs.flatMap AOpd.looks
  | .callv x xs => x.looks ++ xs.flatMap AOpd.looks
  | .invoke x _ xs => x.looks ++ xs.flatMap AOpd.looks
  | .resv _ m => m.looks
  | .mapNew => []
  | .mapGet _ _ _ m k | .mapDel _ m k => m.looks ++ k.looks
  | .mapPut _ m k x | .entPut m k x => m.looks ++ (k.looks ++ x.looks)
  | .mapEnt _ _ m k | .appZ _ _ _ m k => m.looks ++ k.looks
  | .capS x => x.looks
  | .stuck => []
  | .lenMap m | .clearS _ m | .rangeM m | .nextM m | .entryM m => m.looks

/-- It leaves the heap alone. -/
def AOp.calm : AOp → Bool
  | .alloc _ | .box _ | .buildSlice _ _ _ | .store _ _ _ | .toBytes _ | .makeSlice _ _ _ _ | .append _ _ _ _ | .call _ _ | .callv _ _ | .invoke _ _ _ | .resv _ _ | .mapNew | .mapEnt _ _ _ _ | .entPut _ _ _ | .appZ _ _ _ _ _ | .stuck | .mapPut _ _ _ _ | .mapDel _ _ _ | .clearS _ _ | .rangeM _ | .nextM _ => false
  | _ => true

/-- It does not even read the heap. -/
def AOp.dry : AOp → Bool
  | .load1 _ | .loadN _ _ | .toStr _ | .eq _ _ _ _ _ | .mapGet _ _ _ _ _ | .lenMap _ | .entryM _ => false
  | op => op.calm

def AOper.looks (o : AOper) : List Nat :=
  match o.guard with
  | some (t, _) => t :: o.op.looks
  | none => o.op.looks

def directs (o : Oper) : List Nat := (o.after.toList.filter (Region.binds .any)).map (·.on)

/-- What stands ahead of each operation, in every order. -/
def befs : List Oper → List (List Nat) → List (List Nat)
  | [], acc => acc
  | o :: r, acc => befs r (acc ++ [directs o ++ (directs o).flatMap fun j => acc.getD j []])

def hasN (l : List Nat) (n : Nat) : Bool := l.any (Nat.beq n)

/-- It makes memory at a number that is kept for it. -/
def AOp.kept : AOp → Bool
  | .resv _ _ => true
  | _ => false

/-- Two operations, the first ahead of the second in the list: may they stand in a region that draws? -/
def pairOk (b : List (List Nat)) (i j : Nat) (x y : AOper) : Bool :=
  (x.op.calm || y.op.calm || y.op.kept || hasN (b.getD j []) i) &&
  (match x.dst with
    | some d => (!hasN y.looks d || hasN (b.getD j []) i) && (match y.dst with | some e => !Nat.beq d e | none => true)
    | none => true) &&
  (match y.dst with
    | some d => !hasN x.looks d || hasN (b.getD j []) i
    | none => true)

def rowOk (b : List (List Nat)) (i : Nat) (x : AOper) : Nat → List AOper → Bool
  | _, [] => true
  | j, y :: r => pairOk b i j x y && rowOk b i x (j + 1) r

def rowsOk (b : List (List Nat)) : Nat → List AOper → Bool
  | _, [] => true
  | i, x :: r => rowOk b i x (i + 1) r && rowsOk b (i + 1) r

def edgesOk : Nat → List Oper → Bool
  | _, [] => true
  | i, o :: r => (directs o).all (fun j => Nat.blt j i) && edgesOk (i + 1) r

/-- The numbers of those operations that change the heap. -/
def heavies : Nat → List AOper → List Nat
  | _, [] => []
  | i, x :: r => match x.op.calm with
    | true => heavies (i + 1) r
    | false => i :: heavies (i + 1) r

def keptAt (l : List AOper) (p : Nat) : Bool := match l[p]? with | some x => x.op.kept | none => false
/-- .. whatever else has come up. -/
def keptU (l : List AOper) (p : Nat) : Bool := match l[p]? with | some ⟨_, op, none⟩ => op.kept | _ => false

/-- May operation 'i' come up behind just the first 's' of them (and some of those that are kept for)? -/
def okAt (b : List (List Nat)) (kp : Nat → Bool) (hv : List Nat) (i s : Nat) : Bool := (hv.take s).all (fun p => !hasN (b.getD p []) i) && (hv.drop s).all (fun p => !hasN (b.getD i []) p || kp p)

/-! text of bytes that were just laid down: what is read is what was laid, whoever else has come up -/
def posIn (q : Nat) : List Nat → Nat → Option Nat
  | [], _ => none
  | x :: r, i => match Nat.beq x q with
    | true => some i
    | false => posIn q r (i + 1)
def defAt (t : Nat) : List AOper → Nat → Option Nat
  | [], _ => none
  | x :: r, i => match x.dst with
    | some d => match Nat.beq d t with
      | true => some i
      | false => defAt t r (i + 1)
    | none => defAt t r (i + 1)
def strTmp (x : AOper) : Option Nat :=
  match x.guard, x.op with
  | none, .toStr (.tmp t) => some t
  | _, _ => none
/-- Which heap a check is made at: of such a text the one behind what was laid. -/
def effIx (full : List AOper) (hv : List Nat) (p : Nat) (x : AOper) (s : Nat) : Nat :=
  match strTmp x with
  | none => s
  | some t => match defAt t full 0 with
    | none => s
    | some q => match keptU full q && Nat.blt q p, posIn q hv 0 with
      | true, some r => match Nat.ble s r with
        | true => r + 1
        | false => s
      | _, _ => s

def infoFrom (ef : Nat → AOper → Nat → Nat) (b : List (List Nat)) (kp : Nat → Bool) (hv : List Nat) : Nat → Nat → List AOper → List (Bool × List Nat)
  | _, _, [] => []
  | i, c, x :: r => match x.op.calm with
    | false => (true, []) :: infoFrom ef b kp hv (i + 1) (c + 1) r
    | true => match x.op.dry with
      | true => (false, []) :: infoFrom ef b kp hv (i + 1) c r
      | false => (false, ((List.range (hv.length + 1)).filter fun s => !Nat.beq s c && okAt b kp hv i s).map (ef i x)) :: infoFrom ef b kp hv (i + 1) c r

/-! the order in which the abstract machine takes them: what makes memory as late as it may be -/
def addAll (l acc : List Nat) : List Nat := l.foldl (fun acc i => if hasN acc i then acc else acc ++ [i]) acc
def sunk (b : List (List Nat)) (n : Nat) : List Nat → List Nat → List Nat
  | [], acc => addAll (List.range n) acc
  | j :: r, acc => sunk b n r (addAll [j] (addAll ((List.range n).filter (hasN (b.getD j []))) acc))

def AOp.toM : AOp → Option MOp
  | .alloc z => some (.alloc z)
  | .box x => some (.box x)
  | .buildSlice z n ps => some (.buildSlice z n ps)
  | .makeSlice z bytes l c => some (.makeSlice z bytes l c)
  | .mapNew => some .mapNew
  | _ => none

/-- The same operation, its memory at the number that is kept for it. -/
def keepOne (q : Nat) (x : AOper) : Option AOper :=
  match x.op.toM with
  | some m => some ⟨x.dst, .resv q m, x.guard⟩
  | none => none

def keepAll : Nat → List AOper → List AOper × Nat
  | q, [] => ([], q)
  | q, x :: r => match keepOne q x with
    | some y => ((y :: (keepAll (q + 1) r).1), (keepAll (q + 1) r).2)
    | none => ((x :: (keepAll q r).1), (keepAll q r).2)

def picks (aos : List AOper) : List Nat → Option (List AOper)
  | [] => some []
  | i :: r => match aos[i]?, picks aos r with
    | some x, some xs => some (x :: xs)
    | _, _ => none

def nodupN : List Nat → Bool
  | [] => true
  | i :: r => !hasN r i && nodupN r

/-- What stands ahead of each, by the places in the list 'perm'. -/
def posB (b : List (List Nat)) (perm : List Nat) : List (List Nat) :=
  perm.map fun i => (List.range perm.length).filter fun q => hasN (b.getD i []) (perm.getD q 0)

structure DrawC where
  ops : List AOper
  info : List (Bool × List Nat)
  m : Nat

def permOk (n : Nat) (perm : List Nat) : Bool := nodupN perm && (List.range n).all (hasN perm) && Nat.beq perm.length n

def drawInfo (ops : List Oper) (aos : List AOper) : Option DrawC :=
  let b := befs ops []
  match edgesOk 0 ops with
  | false => none
  | true => match rowsOk b 0 aos with
    | true => some ⟨aos, infoFrom (fun _ _ s => s) b (fun _ => false) (heavies 0 aos) 0 0 aos, 0⟩
    | false =>
      let hs := (List.range ops.length).filter fun i => match aos[i]? with | some x => !x.op.calm && (keepOne 0 x).isNone | none => false
      let perm := sunk b ops.length hs []
      match picks aos perm with
      | some l0 =>
        let l := (keepAll 0 l0).1
        let pb := posB b perm
        match permOk ops.length perm && rowsOk pb 0 l with
        | true => some ⟨l, infoFrom (effIx l (heavies 0 l)) pb (keptAt l) (heavies 0 l) 0 0 l, (keepAll 0 l0).2⟩
        | false => none
      | none => none

def cCode (P : Program) : Code → Option ACode
  | .skip => some .skip
  | .region _ ops draw => match draw with
    | false => (cOpers P ops ops.toList).map .region
    | true => match cOpers P ops ops.toList with
      | some aos => (drawInfo ops.toList aos).map fun d => .draw d.ops d.info d.m
      | none => none
  | .seq a b => match cCode P a, cCode P b with
    | some a, some b => some (.seq a b)
    | _, _ => none
  | .cond c t e => match cOpd c, cCode P t, cCode P e with
    | some c, some t, some e => some (.cond c t e)
    | _, _, _ => none
  | .block id c => (cCode P c).map (.block id)
  | .loop c => (cCode P c).map .loop
  | .scope c => cCode P c
  | .label _ => some .skip
  | .exit id => some (.exit id)
  | .ret => some .ret
  | _ => none

def cRes (P : Program) : List ResultVar → Option (List ARes)
  | [] => some []
  | .tmp t :: r => (cRes P r).map (.tmp t :: ·)
  | .cell a t :: r => match isAggP P t, sizeP P t, cRes P r with
    | some true, some n, some rs => some (.cellN a n :: rs)
    | some false, some _, some rs => some (.cell1 a :: rs)
    | _, _, _ => none

def opersIn (n : Nat) (ops : List AOper) : Bool := ops.all fun o => match o.dst with | some d => Nat.blt d n | none => true

def ACode.within (n : Nat) : ACode → Bool
  | .region ops | .draw ops _ _ => opersIn n ops
  | .seq a b => a.within n && b.within n
  | .cond _ a b => a.within n && b.within n
  | .block _ c | .loop c => c.within n
  | _ => true

def cFunc (P : Program) (fn : Func) : Option AFunc :=
  match fn.body with
  | none => none
  | some c => match cCode P c, cRes P fn.results.toList with
    | some c, some rs => match c.within fn.ntmps && Nat.ble fn.ntmps 16000 with
      | true => some ⟨fn.ntmps, fn.params.size, rs, c⟩
      | false => none
    | _, _ => none

/-! ### running -/
inductive Ex where
  | normal
  | exit (id : Nat)
  | ret
  deriving DecidableEq, Inhabited

abbrev CallFn := Nat → List AVal → AHeap → Option (AVal × AHeap)

section
variable (P : Program) (I : Inp)

/-- The value that an operation gives, and the heap behind it. -/
def valOper (call : CallFn) (o : AOper) (f : Fr) (h : AHeap) : Option (AVal × AHeap) :=
  match o.guard with
  | none => match o.op.target P f with
    | some (g, args) => call g args h
    | none => o.op.stepK P I f h
  | some (t, want) => match f.get t with
    | .bool b => match b == want with
      | true => match o.op.target P f with
        | some (g, args) => call g args h
        | none => o.op.stepK P I f h
      | false => some (aundef, h)
    | _ => some (aundef, h)

def putDst (o : AOper) (f : Fr) (v : AVal) : Fr :=
  match o.dst with
  | some d => f.put d v
  | none => f

def runOper (call : CallFn) (o : AOper) (f : Fr) (h : AHeap) : Option (Fr × AHeap) :=
  match valOper P I call o f h with
  | some (v, h) => some (putDst o f v, h)
  | none => none

def runOps (call : CallFn) : List AOper → Fr → AHeap → Option (Fr × AHeap)
  | [], f, h => some (f, h)
  | o :: r, f, h => match runOper P I call o f h with
    | some (f, h) => runOps call r f h
    | none => none

/-- A region that draws its order, in the order of the text: of each operation the frame ahead of it, its value, the heap behind it. -/
def trace (call : CallFn) : List AOper → Fr → AHeap → Option (List (Fr × AVal × AHeap) × Fr × AHeap)
  | [], f, h => some ([], f, h)
  | o :: r, f, h => match valOper P I call o f h with
    | some (v, h1) => match trace call r (putDst o f v) h1 with
      | some (l, f', h') => some ((f, v, h1) :: l, f', h')
      | none => none
    | none => none

/-- Its number counted from a base. -/
def AOper.shift (base : Nat) (x : AOper) : AOper :=
  match x.op with
  | .resv k m => ⟨x.dst, .resv (base + k) m, x.guard⟩
  | _ => x

def heapsOf : List (Bool × List Nat) → List (Fr × AVal × AHeap) → List AHeap
  | (true, _) :: is, (_, _, h) :: es => h :: heapsOf is es
  | (false, _) :: is, _ :: es => heapsOf is es
  | _, _ => []

def chkOne (call : CallFn) (hs : List AHeap) (o : AOper) (e : Fr × AVal × AHeap) (s : Nat) : Bool :=
  match hs[s]? with
  | some h => match valOper P I call o e.1 h with
    | some (v, _) => v.eqb e.2.1
    | none => false
  | none => false

def chkAll (call : CallFn) (hs : List AHeap) : List AOper → List (Bool × List Nat) → List (Fr × AVal × AHeap) → Bool
  | o :: os, (_, l) :: is, e :: es => l.all (chkOne P I call hs o e) && chkAll call hs os is es
  | _, _, _ => true

def iter (body : Fr → AHeap → Option (Ex × Fr × AHeap)) : Nat → Fr → AHeap → Option (Ex × Fr × AHeap)
  | 0, _, _ => none
  | n + 1, f, h => match body f h with
    | some (.normal, f, h) => iter body n f h
    | r => r

def exec (call : CallFn) (n : Nat) : ACode → Fr → AHeap → Option (Ex × Fr × AHeap)
  | .skip, f, h => some (.normal, f, h)
  | .region ops, f, h => match runOps P I call ops f h with
    | some (f, h) => some (.normal, f, h)
    | none => none
  | .draw ops info m, f, h => match m with
    | 0 => match trace P I call ops f h with
      | some (es, f', h') => match chkAll P I call (h :: heapsOf info es) ops info es with
        | true => some (.normal, f', h')
        | false => none
      | none => none
    | m + 1 => match h.room with
      | true => match trace P I call (ops.map (AOper.shift h.next)) f ⟨h.t, h.next + (m + 1)⟩ with
        | some (es, f', h') => match chkAll P I call (⟨h.t, h.next + (m + 1)⟩ :: heapsOf info es) (ops.map (AOper.shift h.next)) info es with
          | true => some (.normal, f', h')
          | false => none
        | none => none
      | false => none
  | .seq a b, f, h => match exec call n a f h with
    | some (.normal, f, h) => exec call n b f h
    | r => r
  | .cond c t e, f, h => match c.ev f with
    | .bool true => exec call n t f h
    | .bool false => exec call n e f h
    | _ => none
  | .block id c, f, h => match exec call n c f h with
    | some (.exit i, f, h) => match Nat.beq i id with
      | true => some (.normal, f, h)
      | false => some (.exit i, f, h)
    | r => r
  | .loop c, f, h => iter (exec call n c) n f h
  | .exit id, f, h => some (.exit id, f, h)
  | .ret, f, h => some (.ret, f, h)

/-! the same by recursors: quicker to reduce -/
def runOpsK (call : CallFn) (l : List AOper) : Fr → AHeap → Option (Fr × AHeap) :=
  List.rec (motive := fun _ => Fr → AHeap → Option (Fr × AHeap)) (fun f h => some (f, h))
    (fun o _ ih f h => Option.rec (motive := fun _ => Option (Fr × AHeap)) none (fun p => Prod.rec (motive := fun _ => Option (Fr × AHeap)) (fun v h => ih (putDst o f v) h) p) (valOper P I call o f h)) l

theorem runOpsK_eq (call : CallFn) : ∀ (l : List AOper) (f : Fr) (h : AHeap), runOpsK P I call l f h = runOps P I call l f h
  | [], _, _ => rfl
  | o :: r, f, h => by
    show (Option.rec (motive := fun _ => Option (Fr × AHeap)) none (fun p => Prod.rec (motive := fun _ => Option (Fr × AHeap)) (fun v h => runOpsK P I call r (putDst o f v) h) p) (valOper P I call o f h)) = _
    simp only [runOps, runOper]
    cases hv : valOper P I call o f h with
    | none => rfl
    | some p => obtain ⟨v, h1⟩ := p; exact runOpsK_eq call r _ _

def thenK (k : Fr → AHeap → Option (Ex × Fr × AHeap)) (r : Option (Ex × Fr × AHeap)) : Option (Ex × Fr × AHeap) :=
  Option.rec (motive := fun _ => Option (Ex × Fr × AHeap)) none (fun p => Prod.rec (motive := fun _ => Option (Ex × Fr × AHeap)) (fun x q => Ex.rec (motive := fun _ => Option (Ex × Fr × AHeap)) (Prod.rec (motive := fun _ => Option (Ex × Fr × AHeap)) (fun f h => k f h) q) (fun id => some (.exit id, q)) (some (.ret, q)) x) p) r

def execK (call : CallFn) (n : Nat) (c : ACode) : Fr → AHeap → Option (Ex × Fr × AHeap) :=
  ACode.rec (motive := fun _ => Fr → AHeap → Option (Ex × Fr × AHeap))
    (fun f h => some (.normal, f, h))
    (fun ops f h => Option.rec (motive := fun _ => Option (Ex × Fr × AHeap)) none (fun p => Prod.rec (motive := fun _ => Option (Ex × Fr × AHeap)) (fun f h => some (.normal, f, h)) p) (runOpsK P I call ops f h))
    (fun ops info m f h => exec P I call n (.draw ops info m) f h)
    (fun _ _ iha ihb f h => thenK ihb (iha f h))
    (fun c _ _ iht ihe f h => match c.ev f with
      | .bool b => Bool.rec (motive := fun _ => Option (Ex × Fr × AHeap)) (ihe f h) (iht f h) b
      | _ => none)
    (fun id _ ih f h => match ih f h with
      | some (.exit i, f, h) => match Nat.beq i id with
        | true => some (.normal, f, h)
        | false => some (.exit i, f, h)
      | r => r)
    (fun _ ih f h => iter ih n f h)
    (fun id f h => some (.exit id, f, h))
    (fun f h => some (.ret, f, h))
    c

theorem execK_eq (call : CallFn) (n : Nat) : ∀ (c : ACode), execK P I call n c = exec P I call n c := by
  intro c
  induction c with
  | skip => rfl
  | region ops =>
    funext f h
    show (Option.rec (motive := fun _ => Option (Ex × Fr × AHeap)) none (fun p => Prod.rec (motive := fun _ => Option (Ex × Fr × AHeap)) (fun f h => some (.normal, f, h)) p) (runOpsK P I call ops f h)) = _
    rw [runOpsK_eq]
    simp only [exec]
    cases runOps P I call ops f h with
    | none => rfl
    | some p => rfl
  | draw ops info m => rfl
  | seq a b iha ihb =>
    funext f h
    show thenK (execK P I call n b) (execK P I call n a f h) = _
    rw [iha, ihb]
    simp only [exec]
    cases exec P I call n a f h with
    | none => rfl
    | some p => obtain ⟨x, f1, h1⟩ := p; cases x <;> rfl
  | cond c t e iht ihe =>
    funext f h
    show (match c.ev f with
      | .bool b => Bool.rec (motive := fun _ => Option (Ex × Fr × AHeap)) (execK P I call n e f h) (execK P I call n t f h) b
      | _ => none) = _
    rw [iht, ihe]
    simp only [exec]
    cases c.ev f with
    | bool b => cases b <;> rfl
    | _ => rfl
  | block id c ih =>
    funext f h
    show (match execK P I call n c f h with
      | some (.exit i, f, h) => match Nat.beq i id with
        | true => some (Ex.normal, f, h)
        | false => some (.exit i, f, h)
      | r => r) = _
    rw [ih]
    simp only [exec]
  | loop c ih =>
    funext f h
    show iter (execK P I call n c) n f h = _
    rw [ih]
    simp only [exec]
  | exit id => rfl
  | ret => rfl

def putArgs : Nat → List AVal → Fr → Fr
  | _, [], f => f
  | i, v :: r, f => putArgs (i + 1) r (f.put i v)

def resOf (f : Fr) (h : AHeap) : ARes → Option AVal
  | .tmp t => some (f.get t)
  | .cell1 t => match f.get t with
    | .ptr l o => rd I h l o
    | _ => none
  | .cellN t n => match f.get t with
    | .ptr l o => (rds I h l o n).map .agg
    | _ => none

def ressOf (f : Fr) (h : AHeap) : List ARes → Option (List AVal)
  | [] => some []
  | r :: rs => match resOf I f h r, ressOf f h rs with
    | some v, some vs => some (v :: vs)
    | _, _ => none

def oneOrTuple : List AVal → AVal
  | [v] => v
  | vs => .tuple vs

/-- A function, or a contract that stands in its place. -/
inductive AFn where
  | code (f : AFunc)
  | prim (g : List AVal → AHeap → Option (AVal × AHeap))

def callF (F : Nat → Option AFn) : Nat → CallFn
  | 0, _, _, _ => none
  | n + 1, g, args, h => match F g with
    | none => none
    | some (.prim p) => p args h
    | some (.code fn) => match Nat.ble args.length fn.ntmps with
      | false => none
      | true => match execK P I (callF F n) n fn.body (putArgs 0 args .nil) h with
        | some (.exit _, _, _) => none
        | some (_, f, h) => match ressOf I f h fn.results with
          | some vs => some (oneOrTuple vs, h)
          | none => none
        | none => none
end

end

end Go.AM

/- AM, part 5: operands, constants, pure operations: what the abstract machine computes is what the model computes. -/
namespace Go.AM
noncomputable section
open Go.RowKit
set_option linter.unusedSectionVars false
variable [Sig]

theorem ofConst1_rel {v : Value} {x : AVal} (h : ofConst1 v = some x) (ι : Map) : VRel ι x v := by
  unfold ofConst1 at h
  split at h <;> first | (cases h; first | exact .str _ _ rfl | constructor) | cases h

theorem ofConsts_rel : ∀ {vs : List Value} {xs : List AVal}, ofConsts vs = some xs → ∀ (ι : Map), VRels ι xs vs := by
  intro vs
  induction vs with
  | nil => intro xs h ι; simp only [ofConsts, Option.some.injEq] at h; subst h; exact .nil
  | cons v r ih =>
    intro xs h ι
    simp only [ofConsts] at h
    split at h
    · rename_i x xs' hx hxs
      cases h
      exact .cons (ofConst1_rel hx ι) (ih hxs ι)
    · cases h

theorem ofConst_rel {v : Value} {x : AVal} (h : ofConst v = some x) (ι : Map) : VRel ι x v := by
  unfold ofConst at h
  split at h
  · split at h
    · rename_i hx; cases h; exact .agg _ _ (ofConsts_rel hx ι)
    · cases h
  · split at h
    · rename_i hx; cases h; exact .tuple _ _ (ofConsts_rel hx ι)
    · cases h
  · exact ofConst1_rel h ι

/-- A frame stands for the model's. -/
structure FrRel (ι : Map) (n : Nat) (f : Fr) (tmps : Array Value) : Prop where
  size : tmps.size = n
  get : ∀ t, VRel ι (f.get t) (tmps.getD t undef)

theorem FrRel.mono {ι ι' : Map} {n : Nat} {f : Fr} {tmps : Array Value} (h : ι.le ι') (r : FrRel ι n f tmps) : FrRel ι' n f tmps := ⟨r.size, fun t => (r.get t).mono h⟩

theorem undef_rel (ι : Map) : VRel ι aundef undef := .tuple _ _ .nil

theorem FrRel.put {ι : Map} {n : Nat} {f : Fr} {tmps : Array Value} (r : FrRel ι n f tmps) (hn : n ≤ 16000) {d : Nat} (hd : d < n) {v : AVal} {u : Value} (hv : VRel ι v u) :
    FrRel ι n (f.put d v) (tmps.setIfInBounds d u) := by
  refine ⟨by simp [r.size], fun t => ?_⟩
  rw [Fr.get_put (by show d + 1 < 16384; omega)]
  by_cases h : t = d
  · subst h
    rw [if_pos rfl, Array.getD_eq_getD_getElem?, Array.getElem?_setIfInBounds_self_of_lt (by rw [r.size]; exact hd)]
    exact hv
  · rw [if_neg h, Array.getD_eq_getD_getElem?, Array.getElem?_setIfInBounds_ne (fun e => h e.symm), ← Array.getD_eq_getD_getElem?]
    exact r.get t

theorem cOpd_rel {x : Operand} {y : AOpd} (h : cOpd x = some y) {ι : Map} {n : Nat} {f : Fr} {a : Act} (r : FrRel ι n f a.tmps) : VRel ι (y.ev f) (a.eval x) := by
  cases x with
  | tmp t => simp only [cOpd, Option.some.injEq] at h; subst h; exact r.get t
  | const v =>
    simp only [cOpd] at h
    split at h
    · rename_i hx; cases h; exact ofConst_rel hx ι
    · cases h
  | global g => simp only [cOpd, Option.some.injEq] at h; subst h; exact .ptr _ _ _ (by show _ = _; rw [place_even])
  | func g => simp only [cOpd, Option.some.injEq] at h; subst h; exact .func _ _ _ _ _ .nil .nil

theorem cOpds_rel : ∀ {xs : List Operand} {ys : List AOpd}, cOpds xs = some ys → ∀ {ι : Map} {n : Nat} {f : Fr} {a : Act}, FrRel ι n f a.tmps →
    VRels ι (ys.map (·.ev f)) (xs.map a.eval) := by
  intro xs
  induction xs with
  | nil => intro ys h ι n f a _; simp only [cOpds, Option.some.injEq] at h; subst h; exact .nil
  | cons x r ih =>
    intro ys h ι n f a hr
    simp only [cOpds] at h
    split at h
    · rename_i y ys' hy hys
      cases h
      exact .cons (cOpd_rel hy hr) (ih hys hr)
    · cases h

/-! ### inversions -/
section
variable {ι : Map}
theorem inv_int {k : IntKind} {n : Int} {u : Value} (h : VRel ι (.int k n) u) : u = .int k n := by cases h; rfl
theorem inv_bool {b : Bool} {u : Value} (h : VRel ι (.bool b) u) : u = .bool b := by cases h; rfl
theorem inv_str {l : List Nat} {u : Value} (h : VRel ι (.str l) u) : ∃ s : ByteArray, u = .string s ∧ l = s.data.toList.map UInt8.toNat := by cases h with | str s l e => exact ⟨s, rfl, e⟩
theorem inv_ptr {l : Loc} {o : Nat} {u : Value} (h : VRel ι (.ptr l o) u) : ∃ a, u = .pointer (some a) ∧ l.at ι o a := by cases h with | ptr l o a ha => exact ⟨a, rfl, ha⟩
theorem inv_nilp {u : Value} (h : VRel ι .nilp u) : u = .pointer none := by cases h; rfl
theorem inv_nils {u : Value} (h : VRel ι .nils u) : u = .slice none 0 0 := by cases h; rfl
theorem inv_sl {l : Loc} {o len : Nat} {cap : Cap} {u : Value} (h : VRel ι (.sl l o len cap) u) :
    ∃ a c, u = .slice (some a) len c ∧ len ≤ c ∧ (0 < c → l.at ι o a) ∧ capOk ι l o c cap := by cases h with | sl l o len cap a c h1 h2 h3 => exact ⟨a, c, rfl, h1, h2, h3⟩
theorem inv_nilf {u : Value} (h : VRel ι .nilf u) : u = .nilFunc := by cases h; rfl
theorem inv_nili {u : Value} (h : VRel ι .nili u) : u = .nilIface := by cases h; rfl
theorem inv_iface {t : TypeId} {v : AVal} {u : Value} (h : VRel ι (.iface t v) u) : ∃ x, u = .iface t x ∧ VRel ι v x := by cases h with | iface t v u hv => exact ⟨u, rfl, hv⟩
theorem inv_agg {cs : List AVal} {u : Value} (h : VRel ι (.agg cs) u) : ∃ us, u = .agg us ∧ VRels ι cs us.toList := by cases h with | agg cs us hv => exact ⟨us, rfl, hv⟩
theorem inv_tuple {cs : List AVal} {u : Value} (h : VRel ι (.tuple cs) u) : ∃ us, u = .tuple us ∧ VRels ι cs us.toList := by cases h with | tuple cs us hv => exact ⟨us, rfl, hv⟩
theorem inv_func {fn : Fn} {f c : List AVal} {u : Value} (h : VRel ι (.func fn f c) u) : ∃ f' c', u = .func fn f' c' ∧ VRels ι f f'.toList ∧ VRels ι c c'.toList := by
  cases h with | func fn f c f' c' h1 h2 => exact ⟨f', c', rfl, h1, h2⟩
end

/-! ### strings -/
theorem natsEq_spec : ∀ (x y : List UInt8), natsEq (x.map UInt8.toNat) (y.map UInt8.toNat) = (x == y)
  | [], [] => rfl
  | [], _ :: _ => rfl
  | _ :: _, [] => rfl
  | a :: x, b :: y => by
    simp only [List.map_cons, natsEq, natsEq_spec x y, List.cons_beq_cons]
    congr 1
    rw [Bool.eq_iff_iff]
    simp [UInt8.toNat_inj]
theorem natLess_spec : ∀ (x y : List UInt8), natLess (x.map UInt8.toNat) (y.map UInt8.toNat) = Op.bytesLess x y
  | [], [] => rfl
  | [], _ :: _ => rfl
  | _ :: _, [] => rfl
  | a :: x, b :: y => by
    simp only [List.map_cons, natLess, natLess_spec x y, Op.bytesLess]
    congr 1
    · rw [Bool.eq_iff_iff]; simp [Nat.blt, UInt8.lt_iff_toNat_lt, Nat.succ_le_iff]
    · congr 1
      rw [Bool.eq_iff_iff]
      simp [UInt8.toNat_inj]

section
variable {P : Program} {ι : Map}

theorem leI_spec (a b : Int) : (!ltI b a) = decide (a ≤ b) := by
  rw [ltI_spec, Bool.eq_iff_iff]; simp

theorem ibin_sound {op : BinOp} {k : IntKind} {a b : Int} {v : AVal} (h : ibin op k a b = some v) (w : World) (t : TypeId) (hs : op ≠ .shl ∧ op ≠ .shr) :
    ∃ u, (binOp op t (.int k a) (.int k b)).run P w = .ok u w ∧ VRel ι v u := by
  unfold ibin at h
  cases op
  case shl => exact absurd rfl hs.1
  case shr => exact absurd rfl hs.2
  all_goals simp only at h
  case quo =>
    split at h
    · cases h
    · cases h; rename_i hb; exact ⟨_, by simp [binOp, Op.intDiv, hb], .int _ _⟩
  case rem =>
    split at h
    · cases h
    · cases h; rename_i hb; exact ⟨_, by simp [binOp, Op.intDiv, hb], .int _ _⟩
  case eql => cases h; exact ⟨_, by simp only [binOp, ne_eq, not_true, if_false]; rfl, by rw [eqI_spec]; constructor⟩
  case neq => cases h; exact ⟨_, by simp only [binOp, ne_eq, not_true, if_false]; rfl, by rw [eqI_spec]; constructor⟩
  case lss => cases h; exact ⟨_, by simp only [binOp, ne_eq, not_true, if_false]; rfl, by rw [ltI_spec]; constructor⟩
  case leq => cases h; exact ⟨_, by simp only [binOp, ne_eq, not_true, if_false]; rfl, by rw [leI_spec]; constructor⟩
  case gtr => cases h; exact ⟨_, by simp only [binOp, ne_eq, not_true, if_false]; rfl, by rw [ltI_spec]; constructor⟩
  case geq => cases h; exact ⟨_, by simp only [binOp, ne_eq, not_true, if_false]; rfl, by rw [leI_spec]; constructor⟩
  all_goals (cases h; refine ⟨_, by simp only [binOp, ne_eq, not_true, if_false]; rfl, ?_⟩; constructor)

theorem ishift_sound {op : BinOp} {k k' : IntKind} {a b : Int} {v : AVal} (h : ishift op k a b = some v) (w : World) (t : TypeId) :
    ∃ u, (binOp op t (.int k a) (.int k' b)).run P w = .ok u w ∧ VRel ι v u := by
  unfold ishift at h
  split at h
  · cases h
  · rename_i hb
    cases op <;> simp only [reduceCtorEq] at h
    all_goals (cases h; exact ⟨_, by simp only [binOp, Op.shift, if_neg hb]; rfl, .int _ _⟩)

theorem sbin_sound {op : BinOp} {x y : ByteArray} {v : AVal} (h : sbin op (x.data.toList.map UInt8.toNat) (y.data.toList.map UInt8.toNat) = some v) (w : World) (t : TypeId) :
    ∃ u, (binOp op t (.string x) (.string y)).run P w = .ok u w ∧ VRel ι v u := by
  unfold sbin at h
  cases op <;> simp only [reduceCtorEq] at h
  case add =>
    split at h
    · rename_i hle
      cases h
      have hl := Nat.le_of_ble_eq_true hle
      simp only [List.length_map, Array.length_toList] at hl
      have hl' : x.size + y.size ≤ 140737488351232 := hl
      refine ⟨.string (x ++ y), ?_, .str _ _ (by simp [ByteArray.data_append])⟩
      have : ¬ ((x.size + y.size : Nat) : Int) > IntKind.i64.max := by simp only [IntKind.max, IntKind.signed, IntKind.bits]; simp; omega
      simp only [binOp, Op.stringOp, if_neg this]
      rfl
    · cases h
  all_goals
    simp only [natsEq_spec, natLess_spec] at h
    cases h
    refine ⟨_, by simp only [binOp, Op.stringOp, Lib.toList_data]; rfl, .bool _⟩

/-! ### numbers from without -/
theorem wrap_wrap_add (a b : Int) : IntKind.i64.wrap (IntKind.i64.wrap a + IntKind.i64.wrap b) = IntKind.i64.wrap (a + b) := by
  simp only [IntKind.wrap, IntKind.bits, IntKind.signed]; simp; omega
theorem emod_mul_emod (a d m : Int) : (a % m * d) % m = (a * d) % m := by rw [Int.mul_emod, Int.emod_emod_of_dvd _ (Int.dvd_refl m), ← Int.mul_emod]
theorem dot_addL : ∀ (cs ds : List Int) (i : Nat), dotFrom (addL cs ds) i = dotFrom cs i + dotFrom ds i
  | [], b, i => by simp [addL, dotFrom]
  | a :: x, [], i => by simp [addL, dotFrom]
  | a :: x, b :: y, i => by
    simp only [addL, dotFrom, dot_addL x y, Int.add_mul]; omega
theorem dot_mul (d : Int) : ∀ (cs : List Int) (i : Nat), dotFrom (cs.map (· * d)) i = dotFrom cs i * d
  | [], i => by simp [dotFrom]
  | a :: x, i => by
    simp only [List.map_cons, dotFrom, dot_mul d x, Int.add_mul]
    rw [Int.mul_right_comm]
theorem asLin_rel {x : AVal} {cs : List Int} {c : Int} {p : Value} (h : asLin x = some (cs, c)) (hx : VRel ι x p) : p = .int .i64 (IntKind.i64.wrap (c + dotFrom cs 0)) := by
  unfold asLin at h
  split at h
  · cases h; cases hx; rfl
  · split at h
    · rename_i he
      cases h
      rw [inv_int hx]
      rw [eqI_spec] at he
      simp only [beq_iff_eq] at he
      simp [dotFrom, he]
    · cases h
  · cases h
theorem intsEq_eq' : ∀ {a b : List Int}, intsEq a b = true → a = b
  | [], [], _ => rfl
  | [], _ :: _, h => by cases h
  | _ :: _, [], h => by cases h
  | x :: a, y :: b, h => by
    simp only [intsEq, Bool.and_eq_true, eqI_spec, beq_iff_eq] at h
    rw [h.1, intsEq_eq' h.2]
theorem wrap_mul (a d : Int) : IntKind.i64.wrap (IntKind.i64.wrap a * IntKind.i64.wrap d) = IntKind.i64.wrap (a * d) := by
  have key : ∀ x : Int, IntKind.i64.wrap x = (x + 9223372036854775808) % 18446744073709551616 - 9223372036854775808 := fun x => by
    simp only [IntKind.wrap, IntKind.bits, IntKind.signed]; simp; omega
  have e : ∀ x : Int, ∃ q, IntKind.i64.wrap x = x + 18446744073709551616 * q := fun x => by
    refine ⟨-((x + 9223372036854775808) / 18446744073709551616), ?_⟩
    rw [key]; omega
  obtain ⟨q, hq⟩ := e a
  obtain ⟨r, hr⟩ := e d
  have : IntKind.i64.wrap a * IntKind.i64.wrap d = a * d + 18446744073709551616 * (a * r + q * d + 18446744073709551616 * q * r) := by
    rw [hq, hr]
    simp only [Int.add_mul, Int.mul_add, Int.mul_assoc, Int.mul_comm, Int.mul_left_comm]
    omega
  rw [this, key, key]
  omega
theorem lbin_sound {op : BinOp} {x y v : AVal} {p q : Value} (h : lbin op x y = some v) (hx : VRel ι x p) (hy : VRel ι y q) (w : World) (t : TypeId) :
    ∃ u, (binOp op t p q).run P w = .ok u w ∧ VRel ι v u := by
  unfold lbin at h
  split at h
  · rename_i cs c ds d hcs hds
    rw [asLin_rel hcs hx, asLin_rel hds hy]
    cases op <;> simp only [reduceCtorEq] at h
    case add =>
      cases h
      refine ⟨_, by simp only [binOp, ne_eq, not_true, if_false]; rfl, ?_⟩
      rw [wrap_wrap_add, show c + dotFrom cs 0 + (d + dotFrom ds 0) = (c + d) + dotFrom (addL cs ds) 0 by rw [dot_addL]; omega]
      exact .lin _ _
    case mul =>
      split at h
      · cases h
        refine ⟨_, by simp only [binOp, ne_eq, not_true, if_false]; rfl, ?_⟩
        rw [wrap_mul, show (c + dotFrom cs 0) * (d + dotFrom [] 0) = c * d + dotFrom (cs.map (· * d)) 0 by rw [dot_mul]; simp [dotFrom, Int.add_mul]]
        exact .lin _ _
      · cases h
    case eql =>
      split at h
      · rename_i he
        cases h
        simp only [Bool.and_eq_true, eqI_spec, beq_iff_eq] at he
        rw [intsEq_eq' he.1, he.2]
        exact ⟨_, by simp only [binOp, ne_eq, not_true, if_false]; rfl, by simp; exact .bool _⟩
      · cases h
    case neq =>
      split at h
      · rename_i he
        cases h
        simp only [Bool.and_eq_true, eqI_spec, beq_iff_eq] at he
        rw [intsEq_eq' he.1, he.2]
        exact ⟨_, by simp only [binOp, ne_eq, not_true, if_false]; rfl, by simp; exact .bool _⟩
      · cases h
  · cases h
theorem lbin_ints {op : BinOp} {x y v : AVal} {p q : Value} (h : lbin op x y = some v) (hx : VRel ι x p) (hy : VRel ι y q) : ∃ a b, p = .int .i64 a ∧ q = .int .i64 b := by
  unfold lbin at h
  split at h
  · rename_i cs c ds d hcs hds
    exact ⟨_, _, asLin_rel hcs hx, asLin_rel hds hy⟩
  · cases h

theorem abin_sound {op : BinOp} {x y v : AVal} {p q : Value} (h : abin op x y = some v) (hx : VRel ι x p) (hy : VRel ι y q) (w : World) (t : TypeId) :
    ∃ u, (binOp op t p q).run P w = .ok u w ∧ VRel ι v u := by
  unfold abin at h
  split at h
  · rename_i k a k' b
    rw [inv_int hx, inv_int hy]
    cases op <;> simp only at h
    case shl => exact ishift_sound h w t
    case shr => exact ishift_sound h w t
    all_goals
      split at h
      · rename_i hk; subst hk; exact ibin_sound h w t (by simp)
      · cases h
  · obtain ⟨s, rfl, rfl⟩ := inv_str hx
    obtain ⟨s', rfl, rfl⟩ := inv_str hy
    exact sbin_sound h w t
  · exact lbin_sound h hx hy w t

theorem aun_sound {op : UnOp} {x v : AVal} {p : Value} (h : aun op x = some v) (hx : VRel ι x p) (w : World) :
    ∃ u, (Op.unary op p).run P w = .ok u w ∧ VRel ι v u := by
  unfold aun at h
  split at h
  · cases h; rw [inv_int hx]; exact ⟨_, rfl, .int _ _⟩
  · cases h; rw [inv_int hx]; exact ⟨_, rfl, .int _ _⟩
  · cases h; rw [inv_bool hx]; exact ⟨_, rfl, .bool _⟩
  · cases h
end

end

end Go.AM

/- AM, part 6: '==': what the abstract machine computes is what the model computes. -/
namespace Go.AM
noncomputable section
open Go.RowKit
set_option linter.unusedSectionVars false
variable [Sig]

section
variable {P : Program} {W : World} {ι : Map} {h : AHeap} {w : World}

theorem own_block (r : Rep W ι h w) {k : Nat} {b : Blk} {o : Nat} {a : Addr} (hk : h.get k = some b) (ha : (Loc.own k).at ι o a) :
    ∃ pl cs e fz, ι k = some pl ∧ a = ⟨pl.blk, pl.off + o, none⟩ ∧ w.heap[pl.blk]? = some (.cells cs e fz) ∧ (b.plain = true → fz = (0, 0)) := by
  obtain ⟨pl, hp, rfl, _, cs, e, fz, hg, _, hpl, _⟩ := r.cellsOf hk ha
  exact ⟨pl, cs, e, fz, hp, rfl, hg, hpl⟩

theorem eqb_spec {l l' : Loc} (h : l.eqb l' = true) : l = l' := by
  cases l <;> cases l' <;> simp only [Loc.eqb, Nat.beq_eq, reduceCtorEq] at h
  · rw [h]
  · rw [h]

theorem at_unique {ι : Map} {l : Loc} {o o' : Nat} {a a' : Addr} (h : l.at ι o a) (h' : l.at ι o' a') : (a = a') ↔ o = o' := by
  cases l with
  | inp b =>
    have h1 : a = ⟨(place b).1, (place b).2 + o, none⟩ := h
    have h2 : a' = ⟨(place b).1, (place b).2 + o', none⟩ := h'
    subst h1; subst h2
    simp
  | own k =>
    obtain ⟨pl, hp, _, rfl⟩ := h
    obtain ⟨pl', hp', _, rfl⟩ := h'
    rw [hp] at hp'; cases hp'
    simp

theorem ptrEq_sound (r : Rep W ι h w) {x y : AVal} {p q : Value} {b : Bool} (he : ptrEq h x y = some b) (hx : VRel ι x p) (hy : VRel ι y q) (d : Nat) {t e : TypeId} {j : TypeInfo}
    (ht : P.underlying t = some (.pointer e)) (hj : P.info? e = some j) (hs : j.size ≠ 0) : (Op.equalIn (d + 1) t p q).run P w = .ok b w := by
  unfold ptrEq at he
  split at he
  · cases he; rw [inv_nilp hx, inv_nilp hy]; simp [Op.equalIn, run_underlying ht]
  · cases he; rw [inv_nilp hx]; obtain ⟨a, rfl, _⟩ := inv_ptr hy; simp [Op.equalIn, run_underlying ht]
  · cases he; rw [inv_nilp hy]; obtain ⟨a, rfl, _⟩ := inv_ptr hx; simp [Op.equalIn, run_underlying ht]
  · rename_i l o l' o'
    obtain ⟨a, rfl, ha⟩ := inv_ptr hx
    obtain ⟨a', rfl, ha'⟩ := inv_ptr hy
    split at he
    · rename_i hl
      cases he
      have := eqb_spec hl
      subst this
      have hu := at_unique ha ha'
      have hsame : (sameAddr a a').run P w = .ok (Nat.beq o o') w := by
        have hb : a.block = a'.block := by
          cases l with
          | inp b => rw [show a = ⟨(place b).1, (place b).2 + o, none⟩ from ha, show a' = ⟨(place b).1, (place b).2 + o', none⟩ from ha']
          | own k =>
            obtain ⟨pl, hp, _, rfl⟩ := ha
            obtain ⟨pl', hp', _, rfl⟩ := ha'
            rw [hp] at hp'; cases hp'; rfl
        simp only [sameAddr, hb, beq_self_eq_true, if_true]
        show Result.ok _ w = _
        congr 1
        rw [Bool.eq_iff_iff, beq_iff_eq, hu]
        simp [Nat.beq_eq]
      simp [Op.equalIn, run_underlying ht, sizeOf, typeInfo, hj, hs, hsame]
    · split at he
      · rename_i hl _ hap
        cases he
        cases l with
        | inp b => simp [apartB] at hap
        | own k =>
          cases l' with
          | inp b => simp [apartB] at hap
          | own k' =>
            cases hx' : h.get k with
            | none => simp [apartB, hx'] at hap
            | some x =>
            cases hy' : h.get k' with
            | none => simp [apartB, hx', hy'] at hap
            | some y =>
              simp only [apartB, hx', hy', Bool.and_eq_true] at hap
              obtain ⟨pl, cs, e1, fz, hp, rfl, hg, hpl⟩ := own_block r hx' ha
              obtain ⟨pl', cs', e2, fz', hp', rfl, hg', hpl'⟩ := own_block r hy' ha'
              rw [hpl hap.1] at hg
              rw [hpl' hap.2] at hg'
              have hne : k ≠ k' := fun e => by subst e; simp [Loc.eqb, Nat.beq_refl] at hl
              have hb : pl.blk ≠ pl'.blk := fun e => hne (r.inj _ _ _ _ _ _ hx' hy' hp hp' e)
              have := run_sameAddr_other (P := P) w (a := ⟨pl.blk, pl.off + o, none⟩) (b := ⟨pl'.blk, pl'.off + o', none⟩) (fun e => hb (congrArg Addr.block e)) hg hg'
              simp [Op.equalIn, run_underlying ht, sizeOf, typeInfo, hj, hs, this]
      · cases he
  · cases he

theorem part_scalar {t : TypeId} {k : ST} (ht : scalarT P t = some k) {xs : Array Value} {i : Nat} {v : Value} (hx : xs[i]? = some v) (w : World) : (part t xs i).run P w = .ok v w := by
  unfold scalarT at ht
  split at ht
  · rename_i hu; simp [part, isAgg, run_underlying hu, hx]
  · rename_i hu; simp [part, isAgg, run_underlying hu, hx]
  · rename_i hu; simp [part, isAgg, run_underlying hu, hx]
  · cases ht

theorem scalarEq_sound {k : ST} {x y : AVal} {p q : Value} {b : Bool} (he : scalarEq k x y = some b) (hx : VRel ι x p) (hy : VRel ι y q) (d : Nat) {t : TypeId} (ht : scalarT P t = some k) (w : World) :
    (Op.equalIn (d + 1) t p q).run P w = .ok b w := by
  unfold scalarEq at he
  split at he
  · rename_i k a k' b'
    split at he
    · rename_i hk
      subst hk
      cases he
      rw [inv_int hx, inv_int hy]
      unfold scalarT at ht
      split at ht <;> cases ht
      rename_i hu
      simp [Op.equalIn, run_underlying hu]
    · cases he
  · cases he
    rw [inv_bool hx, inv_bool hy]
    unfold scalarT at ht
    split at ht <;> cases ht
    rename_i hu
    simp [Op.equalIn, run_underlying hu]
  · cases he
    obtain ⟨s, rfl, rfl⟩ := inv_str hx
    obtain ⟨s', rfl, rfl⟩ := inv_str hy
    rw [natsEq_spec]
    unfold scalarT at ht
    split at ht <;> cases ht
    rename_i hu
    simp [Op.equalIn, run_underlying hu, beq_toListBytes, Lib.toList_data]
  · cases he

theorem scalarsEq_append : ∀ {ks ks' : List ST} {x y : List AVal} {b : Bool}, scalarsEq (ks ++ ks') x y = some b →
    (scalarsEq ks (x.take ks.length) (y.take ks.length) = some false ∧ b = false) ∨ (scalarsEq ks (x.take ks.length) (y.take ks.length) = some true ∧ scalarsEq ks' (x.drop ks.length) (y.drop ks.length) = some b)
  | [], ks', x, y, b, h => .inr ⟨by simp [scalarsEq], by simpa using h⟩
  | k :: ks, ks', [], y, b, h => by cases y <;> simp [scalarsEq] at h
  | k :: ks, ks', a :: x, [], b, h => by simp [scalarsEq] at h
  | k :: ks, ks', a :: x, c :: y, b, h => by
    simp only [List.cons_append, scalarsEq] at h
    simp only [List.length_cons, List.take_succ_cons, List.drop_succ_cons, scalarsEq]
    split at h
    · cases h
    · cases h
      simp
    · exact scalarsEq_append h

theorem partF {t : TypeId} {fs : Array Field} {n : Nat} (hu : P.underlying t = some (.struct fs)) (hn : sizeP P t = some n) {cs : Array Value} {off : Nat} (w : World) : (part t cs off).run P w = .ok (.agg (cs.extract off (off + n))) w := by
  unfold sizeP at hn
  split at hn
  · rename_i j hj
    cases hn
    simp [part, isAgg, run_underlying hu, sizeOf, typeInfo, hj]
  · cases hn

theorem flatFields_sound {nest : TypeId → Option (List ST)} {d : Nat}
    (hnest : ∀ t ks, nest t = some ks → ∃ fs, P.underlying t = some (.struct fs) ∧ sizeP P t = some ks.length ∧ ∀ {x y : List AVal} {p q : Array Value} {b : Bool}, scalarsEq ks x y = some b → VRels ι x p.toList → VRels ι y q.toList → ∀ w : World, (Op.equalIn (d + 1) t (.agg p) (.agg q)).run P w = .ok b w) :
    ∀ {fs : List Field} {ks : List ST} {i : Nat}, flatFields P nest i fs = some ks → ∀ {x y : List AVal} {p q : Array Value} {b : Bool}, scalarsEq ks x y = some b →
    VRels ι x (p.toList.drop i) → VRels ι y (q.toList.drop i) → ∀ (w : World), (Op.eqFields (d + 1) p q fs).run P w = .ok b w := by
  intro fs
  induction fs with
  | nil =>
    intro ks i hk x y p q b he hx hy w
    simp only [flatFields, Option.some.injEq] at hk
    subst hk
    cases x <;> cases y <;> simp only [scalarsEq, reduceCtorEq] at he
    cases he
    rfl
  | cons f fs ih =>
    intro ks i hk x y p q b he hx hy w
    simp only [flatFields] at hk
    split at hk
    · rename_i hc
      simp only [Bool.and_eq_true, bne_iff_ne, Nat.beq_eq] at hc
      obtain ⟨hname, hoff⟩ := hc
      simp only [Op.eqFields, ne_eq, hname, not_false_eq_true, if_true]
      split at hk
      · rename_i k hk1
        obtain ⟨ks', hk2, rfl⟩ := Option.map_eq_some_iff.1 hk
        cases x <;> cases y <;> simp only [scalarsEq, reduceCtorEq] at he
        rename_i a x' b0 y'
        obtain ⟨u, hu, hua⟩ := hx.get (i := 0) rfl
        obtain ⟨v, hv, hva⟩ := hy.get (i := 0) rfl
        rw [List.getElem?_drop, Nat.add_zero, Array.getElem?_toList] at hu hv
        have hx' : VRels ι x' (p.toList.drop (i + 1)) := by simpa [List.drop_drop] using hx.drop 1
        have hy' : VRels ι y' (q.toList.drop (i + 1)) := by simpa [List.drop_drop] using hy.drop 1
        have hpu := part_scalar (P := P) hk1 (xs := p) (i := f.offset) (by rw [hoff]; exact hu) w
        have hpv := part_scalar (P := P) hk1 (xs := q) (i := f.offset) (by rw [hoff]; exact hv) w
        cases hs : scalarEq k a b0 with
        | none => simp [hs] at he
        | some r =>
          have h1 := scalarEq_sound (P := P) hs hua hva d hk1 w
          cases r with
          | false => simp only [hs] at he; cases he; simp [hpu, hpv, h1]
          | true =>
            simp only [hs] at he
            have := ih hk2 he hx' hy' w
            simp [hpu, hpv, h1, this]
      · split at hk
        · rename_i ks1 hk1
          obtain ⟨ks', hk2, rfl⟩ := Option.map_eq_some_iff.1 hk
          obtain ⟨fs1, hu1, hsz, hsnd⟩ := hnest _ _ hk1
          have hpu := partF hu1 hsz (cs := p) (off := f.offset) w
          have hpv := partF hu1 hsz (cs := q) (off := f.offset) w
          have rx : VRels ι (x.take ks1.length) (p.extract f.offset (f.offset + ks1.length)).toList := by
            have : (p.extract f.offset (f.offset + ks1.length)).toList = (p.toList.drop i).take ks1.length := by
              rw [hoff]; simp [Array.toList_extract, List.extract_eq_take_drop]
            rw [this]; exact hx.take _
          have ry : VRels ι (y.take ks1.length) (q.extract f.offset (f.offset + ks1.length)).toList := by
            have : (q.extract f.offset (f.offset + ks1.length)).toList = (q.toList.drop i).take ks1.length := by
              rw [hoff]; simp [Array.toList_extract, List.extract_eq_take_drop]
            rw [this]; exact hy.take _
          rcases scalarsEq_append he with ⟨h1, rfl⟩ | ⟨h1, h2⟩
          · have h3 := hsnd h1 rx ry w
            simp [hpu, hpv, h3]
          · have h3 := hsnd h1 rx ry w
            have hx' : VRels ι (x.drop ks1.length) (p.toList.drop (i + ks1.length)) := by simpa [List.drop_drop] using hx.drop ks1.length
            have hy' : VRels ι (y.drop ks1.length) (q.toList.drop (i + ks1.length)) := by simpa [List.drop_drop] using hy.drop ks1.length
            have := ih hk2 h2 hx' hy' w
            simp [hpu, hpv, h3, this]
        · cases hk
    · cases hk

theorem flatT_inv {d : Nat} {t : TypeId} {ks : List ST} (h : flatT P (d + 1) t = some ks) : ∃ fs, P.underlying t = some (.struct fs) ∧ flatFields P (flatT P d) 0 fs.toList = some ks ∧ P.stoodInHeld t = false ∧ P.eqGuardType P.depth t = false ∧ sizeP P t = some ks.length := by
  unfold flatT at h
  split at h
  · rename_i fs hu
    split at h
    · rename_i ks' n hk hc hn
      split at h
      · rename_i hb
        cases h
        simp only [Bool.and_eq_true, Bool.not_eq_true'] at hc
        rw [Nat.beq_eq] at hb
        subst hb
        exact ⟨fs, hu, hk, hc.1, hc.2, hn⟩
      · cases h
    · cases h
  · cases h

theorem flatT_sound (e : Nat) : ∀ {d : Nat} {t : TypeId} {ks : List ST}, flatT P d t = some ks → ∀ {x y : List AVal} {p q : Array Value} {b : Bool}, scalarsEq ks x y = some b → VRels ι x p.toList → VRels ι y q.toList → ∀ w : World,
    (Op.equalIn (e + 1 + d) t (.agg p) (.agg q)).run P w = .ok b w
  | 0, t, ks, h => by cases h
  | d + 1, t, ks, h => by
    intro he hx hy w
    rename_i x y p q b
    obtain ⟨fs, hu, hk, hs, _, hn⟩ := flatT_inv h
    have hf : P.fieldsOf t = fs := by simp [Program.fieldsOf, hu]
    have hd : e + 1 + (d + 1) = (e + 1 + d) + 1 := by omega
    rw [hd, run_equalIn_struct w (e + 1 + d) t p q (by rw [hf]; exact hu) hs, hf]
    have hd' : e + 1 + d = (e + d) + 1 := by omega
    rw [hd']
    exact flatFields_sound (nest := flatT P d) (d := e + d) (fun t ks ht => by
      obtain ⟨d', rfl⟩ : ∃ d', d = d' + 1 := by cases d with
        | zero => cases ht
        | succ d' => exact ⟨d', rfl⟩
      obtain ⟨fs', hu', _, _, _, hn'⟩ := flatT_inv ht
      refine ⟨fs', hu', hn', fun he hx hy w => ?_⟩
      have := flatT_sound e ht he hx hy w
      have hq : e + (d' + 1) + 1 = e + 1 + (d' + 1) := by omega
      rw [hq]
      exact this) hk he (by simpa using hx) (by simpa using hy) w

/-- The comparison itself. -/
theorem aeq_sound (r : Rep W ι h w) {ek : EqK} {c : Bool} {t : TypeId} {x y : AVal} {p q : Value} {b : Bool} (hk : eqKind P t = some ek) (he : aeq P h ek c x y = some b)
    (hx : VRel ι x p) (hy : VRel ι y q) : (Op.equal t p q).run P w = .ok b w := by
  have hd : ∃ d, Op.equal t p q = Op.equalIn (d + 1 + 3) t p q := ⟨9996, rfl⟩
  obtain ⟨d, hd⟩ := hd
  rw [hd]
  clear hd
  unfold eqKind at hk
  split at hk
  · rename_i hu
    cases hk
    simp only [aeq] at he
    unfold boolEq at he
    split at he <;> cases he
    rw [inv_bool hx, inv_bool hy]
    rw [show d + 1 + 3 = (d + 3) + 1 from rfl, Op.equalIn]; simp [run_underlying hu]
  · rename_i e hu
    split at hk
    · rename_i n hsz
      cases hk
      unfold sizeP at hsz
      split at hsz
      · rename_i j hj
        simp only [Option.some.injEq] at hsz
        exact ptrEq_sound r he hx hy _ hu hj (by omega)
      · cases hsz
    · cases hk
  · rename_i e hu
    cases hk
    simp only [aeq] at he
    unfold nilEqS at he
    split at he
    · cases he; rw [inv_nils hx, inv_nils hy]; rw [show d + 1 + 3 = (d + 3) + 1 from rfl, Op.equalIn]; simp [run_underlying hu]
    · cases he; rw [inv_nils hx]; obtain ⟨a, c', rfl, _⟩ := inv_sl hy; rw [show d + 1 + 3 = (d + 3) + 1 from rfl, Op.equalIn]; simp [run_underlying hu]
    · cases he; rw [inv_nils hy]; obtain ⟨a, c', rfl, _⟩ := inv_sl hx; rw [show d + 1 + 3 = (d + 3) + 1 from rfl, Op.equalIn]; simp [run_underlying hu]
    · cases he
  · rename_i hu
    cases hk
    simp only [aeq] at he
    unfold nilEqF at he
    split at he
    · cases he; rw [inv_nilf hx, inv_nilf hy]; rw [show d + 1 + 3 = (d + 3) + 1 from rfl, Op.equalIn]; simp [run_underlying hu]
    · cases he; rw [inv_nilf hx]; obtain ⟨a, c', rfl, _⟩ := inv_func hy; rw [show d + 1 + 3 = (d + 3) + 1 from rfl, Op.equalIn]; simp [run_underlying hu]
    · cases he; rw [inv_nilf hy]; obtain ⟨a, c', rfl, _⟩ := inv_func hx; rw [show d + 1 + 3 = (d + 3) + 1 from rfl, Op.equalIn]; simp [run_underlying hu]
    · cases he
  · rename_i ms hu
    cases hk
    simp only [aeq] at he
    unfold ifaceEq at he
    split at he
    · split at he
      · cases he; rw [inv_nili hx, inv_nili hy]; rw [show d + 1 + 3 = (d + 3) + 1 from rfl, Op.equalIn]; simp [run_underlying hu]
      · cases he
    · cases he; rw [inv_nili hx]; obtain ⟨a, rfl, _⟩ := inv_iface hy; rw [show d + 1 + 3 = (d + 3) + 1 from rfl, Op.equalIn]; simp [run_underlying hu]
    · cases he; rw [inv_nili hy]; obtain ⟨a, rfl, _⟩ := inv_iface hx; rw [show d + 1 + 3 = (d + 3) + 1 from rfl, Op.equalIn]; simp [run_underlying hu]
    · rename_i t1 a t2 b'
      obtain ⟨u, rfl, hu1⟩ := inv_iface hx
      obtain ⟨v, rfl, hv1⟩ := inv_iface hy
      split at he
      · rename_i hne
        cases he
        rw [show d + 1 + 3 = (d + 3) + 1 from rfl, Op.equalIn]; simp [run_underlying hu, hne]
      · rename_i hne
        simp only [ne_eq, Classical.not_not] at hne
        subst hne
        split at he
        · rename_i hp
          unfold ptrTy at hp
          split at hp
          · rename_i e i hpe hpi
            simp only [Bool.and_eq_true] at hp
            obtain ⟨hcomp, hsz⟩ := hp
            split at hsz
            · rename_i j hj
              have := ptrEq_sound (P := P) r he hu1 hv1 (d + 2) hpe hj (of_decide_eq_true hsz)
              rw [show d + 1 + 3 = (d + 3) + 1 from rfl, Op.equalIn]
              simp [run_underlying hu, typeInfo, hpi, hcomp, this]
            · cases hsz
          · cases hp
        · cases he
    · cases he
  · rename_i fs hu
    split at hk
    · rename_i ks hks
      cases hk
      simp only [aeq] at he
      unfold structEq at he
      split at he
      · rename_i a b'
        obtain ⟨us, rfl, hus⟩ := inv_agg hx
        obtain ⟨vs, rfl, hvs⟩ := inv_agg hy
        have := flatT_sound d hks he hus hvs w
        exact this
      · cases he
    · cases hk
  · cases hk

theorem eqGuard_none {op : BinOp} (h1 : op ≠ .eql) (h2 : op ≠ .neq) (t : TypeId) (x y : Operand) (p q : Value) (w : World) : (eqGuard op t x y p q).run P w = .ok () w := by
  cases op <;> first | rfl | exact absurd rfl h1 | exact absurd rfl h2

theorem eqGuard_sound {op : BinOp} {ek : EqK} {t : TypeId} {x y : Operand} {p q : Value} {a b : AVal} {v : Bool} (hk : eqKind P t = some ek) (he : aeq P h ek (isConstO x || isConstO y) a b = some v)
    (hx : VRel ι a p) (hy : VRel ι b q) (w : World) : (eqGuard op t x y p q).run P w = .ok () w := by
  have key : ∀ op : BinOp, op = .eql ∨ op = .neq → (eqGuard op t x y p q).run P w = .ok () w := by
    intro op hop
    cases hx with
    | nili =>
      cases hy with
      | nili =>
        have hc : (isConstO x || isConstO y) = true := by
          cases ek <;> simp only [aeq, boolEq, ptrEq, nilEqS, nilEqF, structEq, ifaceEq, reduceCtorEq] at he
          split at he
          · assumption
          · cases he
        rcases hop with rfl | rfl <;> cases x <;> cases y <;> first | rfl | cases hc
      | _ => rcases hop with rfl | rfl <;> rfl
    | agg cs us hs =>
      cases hy with
      | agg cs' us' hs' =>
        have hg : P.eqGuardType P.depth t = false := by
          unfold eqKind at hk
          split at hk <;> first | (cases hk; simp only [aeq, boolEq, nilEqS, nilEqF, ifaceEq, reduceCtorEq] at he; done) | skip
          · split at hk
            · cases hk; simp only [aeq, ptrEq, reduceCtorEq] at he
            · cases hk
          · split at hk
            · rename_i hc
              obtain ⟨_, _, _, _, hg, _⟩ := flatT_inv hc
              exact hg
            · cases hk
          · cases hk
        rcases hop with rfl | rfl <;> simp [eqGuard, hg]
      | _ => rcases hop with rfl | rfl <;> rfl
    | _ => rcases hop with rfl | rfl <;> rfl
  by_cases h1 : op = .eql
  · exact key op (.inl h1)
  · by_cases h2 : op = .neq
    · exact key op (.inr h2)
    · exact eqGuard_none h1 h2 t x y p q w
end

end

end Go.AM

/- AM, part 7: operations that read, write and make memory: what the abstract machine computes is what the model computes. -/
namespace Go.AM
noncomputable section
open Go.RowKit
set_option linter.unusedSectionVars false
variable [Sig]

section
variable {P : Program} {W : World} {I : Inp} {ι : Map} {h : AHeap} {w : World}

theorem zeroP_spec {t : TypeId} {z : AVal} (hz : zeroP P t = some z) : ∃ i v, P.info? t = some i ∧ i.zero = some v ∧ ∀ ι, VRel ι z v := by
  unfold zeroP at hz
  split at hz
  · rename_i i hi
    split at hz
    · rename_i v hv; exact ⟨i, v, hi, hv, fun ι => ofConst_rel hz ι⟩
    · cases hz
  · cases hz
theorem sizeP_spec {t : TypeId} {n : Nat} (hz : sizeP P t = some n) : ∃ i, P.info? t = some i ∧ i.size = n := by
  unfold sizeP at hz
  split at hz
  · rename_i i hi; cases hz; exact ⟨i, hi, rfl⟩
  · cases hz
theorem isAggP_spec {t : TypeId} {b : Bool} (hz : isAggP P t = some b) (w : World) : (isAgg t).run P w = .ok b w := by
  unfold isAggP at hz
  split at hz <;> cases hz
  · rename_i hu; simp [isAgg, run_underlying hu]
  · rename_i hu; simp [isAgg, run_underlying hu]
  · rename_i d hd1 hd2 hu
    cases d <;> first | (simp [isAgg, run_underlying hu]; done) | (exact absurd rfl (hd1 _)) | (exact absurd rfl (hd2 _ _))
theorem run_sizeOf' {t : TypeId} {i : TypeInfo} (hi : P.info? t = some i) (w : World) : (sizeOf t).run P w = .ok i.size w := by
  simp [sizeOf, typeInfo, hi]
theorem run_zero' {t : TypeId} {i : TypeInfo} {v : Value} (hi : P.info? t = some i) (hv : i.zero = some v) (w : World) : (zeroValue t).run P w = .ok v w := by
  simp [zeroValue, typeInfo, hi, hv]

theorem get_of_rels {vs : List AVal} {us : List Value} (hr : VRels ι vs us) : ∀ (i : Nat) (v : AVal), vs[i]? = some v → ∃ u, us.toArray[i]? = some u ∧ VRel ι v u := fun i v hv => by
  obtain ⟨u, hu, hr⟩ := hr.get hv
  exact ⟨u, by simpa using hu, hr⟩

/-- A new block whose cells are all known. -/
theorem new_sound (r : Rep W ι h w) (hr : h.room = true) {b : Blk} {us : Array Value} {e : TypeId} (_hp : b.plain = true) (hus : VRels ι b.cells us.toList) :
    Step W ι h w (ι.add h.next ⟨w.heap.size, 0, b.cells.length, us.size⟩) (h.alloc b) (w.alloc (.cells us e)) :=
  alloc_sound r hr (fun i v hv => by obtain ⟨u, hu, hr⟩ := hus.get hv; exact ⟨u, by simpa using hu, hr⟩) (by rw [hus.length]; simp) (fun o _ hf => by simp at hf) (fun _ => rfl)

theorem new_ptr (ι : Map) (k : Nat) (pl : Pl) (hoff : pl.off = 0) (hn : pl.n ≤ pl.room) : VRel (ι.add k pl) (.ptr (.own k) 0) (.pointer (some ⟨pl.blk, 0, none⟩)) :=
  .ptr _ _ _ ⟨pl, Map.add_self _ _ _, hn, by rw [hoff]⟩
theorem VRels.len_le {ι : Map} {cs : List AVal} {us : Array Value} (h : VRels ι cs us.toList) : cs.length ≤ us.size := by rw [h.length]; simp

theorem alloc_op (r : Rep W ι h w) {t : TypeId} {z : AVal} (hz : zeroP P t = some z) (hr : h.room = true) (old : Value) :
    ∃ u w' ι', (Instr.alloc t true old).run P w = .ok u w' ∧ VRel ι' (.ptr (.own h.next) 0) u ∧ Step W ι h w ι' (h.alloc ⟨z.cells, true⟩) w' := by
  obtain ⟨i, v, hi, hv, hrel⟩ := zeroP_spec hz
  refine ⟨_, _, _, by simp [Instr.alloc, run_zero' hi hv, newVar, newRow]; exact ⟨rfl, rfl⟩, ?_, new_sound r hr rfl (hrel ι).cells⟩
  exact new_ptr _ _ _ rfl (hrel ι).cells.len_le

theorem box_op (r : Rep W ι h w) {t : TypeId} {x : AVal} {p : Value} (hx : VRel ι x p) (hr : h.room = true) :
    ∃ u w' ι', (Instr.box t p).run P w = .ok u w' ∧ VRel ι' (.ptr (.own h.next) 0) u ∧ Step W ι h w ι' (h.alloc ⟨x.cells, true⟩) w' := by
  refine ⟨_, _, _, by simp [Instr.box, newVar, newRow]; exact ⟨rfl, rfl⟩, ?_, new_sound r hr rfl hx.cells⟩
  exact new_ptr _ _ _ rfl hx.cells.len_le

/-! ### parts -/
inductive PartsRel (ι : Map) (f : Fr) (place : Nat → Option (Nat × Nat)) : List (Nat × Value) → List (Nat × Nat × AOpd) → Prop where
  | nil : PartsRel ι f place [] []
  | cons {i off sz : Nat} {v : Value} {x : AOpd} {ps : List (Nat × Value)} {qs : List (Nat × Nat × AOpd)} : place i = some (off, sz) → VRel ι (x.ev f) v → PartsRel ι f place ps qs →
      PartsRel ι f place ((i, v) :: ps) ((off, sz, x) :: qs)

theorem cParts_rel {place : Nat → Option (Nat × Nat)} : ∀ {parts : List (Nat × Operand)} {ps : List (Nat × Nat × AOpd)}, cParts place parts = some ps → ∀ {n : Nat} {f : Fr} {a : Act}, FrRel ι n f a.tmps →
    PartsRel ι f place (parts.map fun (i, x) => (i, a.eval x)) ps := by
  intro parts
  induction parts with
  | nil => intro ps hp n f a _; simp only [cParts, Option.some.injEq] at hp; subst hp; exact .nil
  | cons q r ih =>
    intro ps hp n f a hr
    obtain ⟨i, x⟩ := q
    simp only [cParts] at hp
    split at hp
    · rename_i off n' y ys h1 h2 h3
      cases hp
      exact .cons h1 (cOpd_rel h2 hr) (ih h3 hr)
    · cases hp

theorem foldl_setR : ∀ (vs : List Value) (off j : Nat) (cs : Array Value), off + j + vs.length ≤ cs.size →
    ((vs.zipIdx j).foldl (fun cs (c, j) => cs.setIfInBounds (off + j) c) cs).toList = setR cs.toList (off + j) vs
  | [], off, j, cs, _ => by simp [setR]
  | v :: r, off, j, cs, hl => by
    simp only [List.length_cons] at hl
    rw [List.zipIdx_cons, List.foldl_cons, foldl_setR r off (j + 1) (cs.setIfInBounds (off + j) v) (by simp; omega)]
    have e := list_seg_step cs.toList (off + j) v r (by simp; omega)
    simpa [setR, Array.toList_setIfInBounds, Nat.add_assoc] using e

theorem VRels.setR {vs vs' : List AVal} {us us' : List Value} (h1 : VRels ι vs us) (h2 : VRels ι vs' us') (o : Nat) : VRels ι (setR vs o vs') (setR us o us') := by
  unfold Go.AM.setR
  rw [h2.length]
  exact ((h1.take o).append h2).append (h1.drop _)

theorem fill_sound {f : Fr} {place : Nat → Option (Nat × Nat)} : ∀ {parts : List (Nat × Value)} {ps : List (Nat × Nat × AOpd)}, PartsRel ι f place parts ps → ∀ {cs cs' : List AVal} {us : Array Value},
    fillA f cs ps = some cs' → VRels ι cs us.toList → ∃ us', Instr.fill place us parts = some us' ∧ VRels ι cs' us'.toList := by
  intro parts ps hr
  induction hr with
  | nil => intro cs cs' us hf hus; simp only [fillA, Option.some.injEq] at hf; subst hf; exact ⟨us, rfl, hus⟩
  | @cons i off sz v x ps qs hpl hv _ ih =>
    intro cs cs' us hf hus
    simp only [fillA] at hf
    split at hf
    · rename_i hc
      simp only [Bool.and_eq_true, Nat.beq_eq] at hc
      obtain ⟨hsz, hle⟩ := hc
      have hle' := Nat.le_of_ble_eq_true hle
      have hcl := hv.cells.length
      have hul := hus.length
      simp only [Array.length_toList] at hcl hul
      have hfold := foldl_setR v.cells.toList off 0 us (by simp; omega)
      have hrel : VRels ι (Go.AM.setR cs off (x.ev f).cells) ((v.cells.zipIdx.foldl (fun cs (c, j) => cs.setIfInBounds (off + j) c) us).toList) := by
        rw [← Array.foldl_toList, Array.toList_zipIdx, hfold]
        exact hus.setR hv.cells off
      obtain ⟨us', h1, h2⟩ := ih hf hrel
      refine ⟨us', ?_, h2⟩
      simp only [Instr.fill, hpl]
      rw [if_neg]
      · exact h1
      · simp only [ne_eq, Bool.or_eq_true, decide_eq_true_eq, not_or, Classical.not_not]
        simp
        omega
    · cases hf

theorem build_op {t : TypeId} {f : Fr} {z : AVal} {ps : List (Nat × Nat × AOpd)} {parts : Array (Nat × Value)} {place : Nat → Option (Nat × Nat)} {cs : List AVal}
    (hz : zeroP P t = some z) (hpl : (∃ fields pl, P.underlying t = some (.struct fields) ∧ placesP P fields = some pl ∧ place = (pl.toArray[·]?)) ∨ (∃ n e sz, P.underlying t = some (.array n e) ∧ sizeP P e = some sz ∧ place = fun i => some (i * sz, sz)))
    (hp : PartsRel ι f place parts.toList ps) (hf : fillA f z.cells ps = some cs) (w : World) : ∃ u, (Instr.build t parts).run P w = .ok u w ∧ VRel ι (.agg cs) u := by
  obtain ⟨i, v, hi, hv, hrel⟩ := zeroP_spec hz
  obtain ⟨us', h1, h2⟩ := fill_sound hp hf (hrel ι).cells
  refine ⟨.agg us', ?_, .agg _ _ h2⟩
  refine run_build w t parts us' ?_
  rcases hpl with ⟨fields, pl, hu, hp1, rfl⟩ | ⟨n, e, sz, hu, hsz, rfl⟩
  · unfold placesP at hp1
    simp only [Program.built, hi, hu, hv, hp1]
    exact h1
  · obtain ⟨ie, hie, hs⟩ := sizeP_spec hsz
    simp only [Program.built, hi, hu, hv, hie, hs]
    exact h1

/-! ### zeros -/
theorem zerosFrom_length (z : List AVal) : ∀ (n i : Nat), (zerosFrom z i n).length = n
  | 0, _ => rfl
  | n + 1, i => by simp [zerosFrom, zerosFrom_length z n (i + 1)]
theorem zerosFrom_get (z : List AVal) : ∀ (n i j : Nat), j < n → (zerosFrom z i n)[j]? = some (z.getD ((i + j) % z.length) .nilp)
  | 0, _, _, h => by omega
  | n + 1, i, 0, _ => by simp [zerosFrom]
  | n + 1, i, j + 1, h => by
    simp only [zerosFrom, List.getElem?_cons_succ]
    rw [zerosFrom_get z n (i + 1) j (by omega), show i + 1 + j = i + (j + 1) by omega]
theorem zeros_length (z : List AVal) (n : Nat) : (zeros z n).length = n := zerosFrom_length z n 0
theorem zeros_rel {z : List AVal} {us : Array Value} (hz : VRels ι z us.toList) (h0 : 0 < z.length) (n : Nat) : VRels ι (zeros z n) ((Array.range n).map (us[· % us.size]!)).toList := by
  refine VRels.of_get (by simp [zeros_length]) fun i v u hv hu => ?_
  have hi : i < n := by
    have := (List.getElem?_eq_some_iff.1 hv).1
    rw [zeros_length] at this; exact this
  unfold zeros at hv
  rw [zerosFrom_get z n 0 i hi, Nat.zero_add] at hv
  have hl : z.length = us.size := by simpa using hz.length
  have hm : i % us.size < us.size := Nat.mod_lt _ (by omega)
  simp [hi] at hu
  rw [hl] at hv
  obtain ⟨u', hu', hr⟩ := hz.get (i := i % us.size) (v := v) (by
    simp only [Option.some.injEq] at hv
    rw [← hv, List.getD_eq_getElem?_getD]
    rw [List.getElem?_eq_getElem (by omega)]
    rfl)
  rw [Array.getElem?_toList] at hu'
  rw [← hu, getElem!_pos us (i % us.size) hm]
  rw [Array.getElem?_eq_getElem hm] at hu'
  cases hu'
  exact hr

theorem new_slice (ι : Map) (k : Nat) (pl : Pl) (hoff : pl.off = 0) (hn : pl.n ≤ pl.room) {len c : Nat} (hc : len ≤ c) : VRel (ι.add k pl) (.sl (.own k) 0 len (.known c)) (.slice (some ⟨pl.blk, 0, none⟩) len c) :=
  .sl _ _ _ _ _ _ hc (fun _ => ⟨pl, Map.add_self _ _ _, hn, by rw [hoff]⟩) rfl

theorem buildSlice_op (r : Rep W ι h w) {t e : TypeId} {n sz : Nat} {f : Fr} {z : AVal} {ps : List (Nat × Nat × AOpd)} {parts : Array (Nat × Value)} {cs : List AVal}
    (hu : P.underlying t = some (.slice e)) (hsz : sizeP P e = some sz) (hz : zeroP P e = some z) (hl : z.cells.length = sz) (h0 : 0 < sz) (hs : n * sz ≤ 16777216)
    (hp : PartsRel ι f (fun i => some (i * sz, sz)) parts.toList ps) (hf : fillA f (zeros z.cells (n * z.cells.length)) ps = some cs) (hr : h.room = true) :
    ∃ u w' ι', (Instr.buildSlice t n parts).run P w = .ok u w' ∧ VRel ι' (.sl (.own h.next) 0 n (.known n)) u ∧ Step W ι h w ι' (h.alloc ⟨cs, true⟩) w' := by
  obtain ⟨i, v, hi, hv, hrel⟩ := zeroP_spec hz
  obtain ⟨i', hi', hs'⟩ := sizeP_spec hsz
  rw [hi] at hi'; cases hi'
  have hzr := zeros_rel (ι := ι) (hrel ι).cells (by omega) (n * sz)
  rw [hl] at hf
  by_cases hn : n * sz = 0
  · obtain ⟨us', h1, h2⟩ := fill_sound hp hf hzr
    refine ⟨_, _, _, ?_, new_slice _ _ _ rfl h2.len_le (Nat.le_refl _), new_sound r hr rfl h2 (e := e)⟩
    rw [hn] at h1
    have hr0 : Array.range 0 = #[] := rfl
    have h1' : Instr.fill (fun i => some (i * sz, sz)) #[] parts.toList = some us' := by simpa [hr0] using h1
    simp [Instr.buildSlice, run_underlying hu, run_sizeOf' hi, hs', hn, hr0, h1', newRow]
  · obtain ⟨us', h1, h2⟩ := fill_sound hp hf hzr
    refine ⟨_, _, _, run_buildSlice w t e n parts us' i v hu hi hv (by rw [hs']; omega) (by rw [hs']; exact hn) (by rw [hs']; exact h1), new_slice _ _ _ rfl h2.len_le (Nat.le_refl _), new_sound r hr rfl h2 (e := e)⟩

theorem makeSlice_op (r : Rep W ι h w) {t e : TypeId} {i : TypeInfo} {z : AVal} {kl kc : IntKind} {l c : Nat}
    (hu : P.underlying t = some (.slice e)) (hi : P.info? e = some i) (hz : zeroP P e = some z) (hl : z.cells.length = i.size) (h0 : 0 < i.size)
    (hlc : l ≤ c) (hb : i.bytes * c ≤ 140737488355328) (hc : c ≤ 140737488355328) (hr : h.room = true) :
    ∃ u w' ι', (Instr.makeSlice t (.int kl (.ofNat l)) (.int kc (.ofNat c))).run P w = .ok u w' ∧ VRel ι' (.sl (.own h.next) 0 l (.known c)) u ∧ Step W ι h w ι' (h.alloc ⟨zeros z.cells (c * z.cells.length), true⟩) w' := by
  obtain ⟨i', v, hi', hv, hrel⟩ := zeroP_spec hz
  rw [hi] at hi'; cases hi'
  have hzr := zeros_rel (ι := ι) (hrel ι).cells (by omega) (c * i.size)
  have hb' : (i.bytes : Int) * (c : Int) ≤ 281474976710656 := by
    have hh : ((i.bytes * c : Nat) : Int) ≤ 281474976710656 := by omega
    rwa [Int.natCast_mul] at hh
  have hrun := run_make (P := P) w t e i v hu hi hv kl kc l c (by omega) (by omega) hb' (by omega)
  simp only [Int.toNat_natCast] at hrun
  rw [hl]
  exact ⟨_, _, _, hrun, new_slice _ _ _ rfl hzr.len_le hlc, new_sound r hr rfl hzr (e := e)⟩
end

end

end Go.AM

/- AM, part 8: loads, stores, conversions, cuts, indexes, append: what the abstract machine computes is what the model computes. -/
namespace Go.AM
noncomputable section
open Go.RowKit
set_option linter.unusedSectionVars false
variable [Sig]

section
variable {P : Program} {W : World} {I : Inp} {ι : Map} {h : AHeap} {w : World}

theorem load1_op (hI : InpOk W I) (r : Rep W ι h w) {t : TypeId} {l : Loc} {o : Nat} {p : Value} {v : AVal} (ht : isAggP P t = some false) (hx : VRel ι (.ptr l o) p) (hv : rd I h l o = some v) :
    ∃ u, (Instr.loadAt t p).run P w = .ok u w ∧ VRel ι v u := by
  obtain ⟨a, rfl, ha⟩ := inv_ptr hx
  obtain ⟨u, hu, hr⟩ := rd_sound hI r hv ha
  exact ⟨u, by simp [Instr.loadAt, Instr.sureAddr, loadVar, isAggP_spec ht, run_load, hu], hr⟩

theorem loadN_op (hI : InpOk W I) (r : Rep W ι h w) {t : TypeId} {n : Nat} {l : Loc} {o : Nat} {p : Value} {cs : List AVal} (ht : isAggP P t = some true) (hn : sizeP P t = some n)
    (hx : VRel ι (.ptr l o) p) (hv : rds I h l o n = some cs) : ∃ u, (Instr.loadAt t p).run P w = .ok u w ∧ VRel ι (.agg cs) u := by
  obtain ⟨a, rfl, ha⟩ := inv_ptr hx
  obtain ⟨i, hi, hs⟩ := sizeP_spec hn
  obtain ⟨hl, us, hr, hc⟩ := rds_sound hI r hv ha
  have hlen : us.length = n := by rw [← hr.length, hl]
  have := run_loadCells_list (P := P) w a us hc
  rw [hlen] at this
  exact ⟨.agg us.toArray, by simp [Instr.loadAt, Instr.sureAddr, loadVar, isAggP_spec ht, run_sizeOf' hi, hs, this], .agg _ _ (by simpa using hr)⟩

theorem store_op (r : Rep W ι h w) {t : TypeId} {n k o : Nat} {p q : Value} {x : AVal} {b b' : Blk} (hn : sizeP P t = some n) (hp : VRel ι (.ptr (.own k) o) p) (hq : VRel ι x q)
    (hl : x.cells.length = n) (hk : h.get k = some b) (hw : b.wr o x.cells = some b') : ∃ w', (Instr.storeAt t p q).run P w = .ok () w' ∧ Step W ι h w ι (h.set k b') w' := by
  obtain ⟨a, rfl, ha⟩ := inv_ptr hp
  obtain ⟨i, hi, hs⟩ := sizeP_spec hn
  obtain ⟨w', hrun, hst⟩ := wr_sound P r hk hw ha hq.cells
  have hsz : q.cells.size = i.size := by
    have := hq.cells.length
    simp only [Array.length_toList] at this
    omega
  exact ⟨w', by simp [Instr.storeAt, Instr.sureAddr, storeVar, run_sizeOf' hi, hsz, hrun], hst⟩

/-! ### strings and bytes -/
theorem bytes_cells {s : ByteArray} (i : Nat) (v : AVal) (hv : ((s.data.toList.map UInt8.toNat).map fun b : Nat => AVal.int .u8 (.ofNat b))[i]? = some v) (rest : Array Value) :
    ∃ u, (s.data.map (fun b => Value.int .u8 b.toNat) ++ rest)[i]? = some u ∧ VRel ι v u := by
  simp only [List.getElem?_map, Option.map_eq_some_iff] at hv
  obtain ⟨_, ⟨b, hb, rfl⟩, rfl⟩ := hv
  refine ⟨.int .u8 b.toNat, ?_, .int _ _⟩
  have hi : i < s.data.size := by
    have := (List.getElem?_eq_some_iff.1 hb).1
    simpa using this
  rw [Array.getElem?_append_left (by simpa using hi)]
  simp only [Array.getElem?_map]
  rw [Array.getElem?_toList] at hb
  rw [hb]
  rfl

theorem grownCap_ge (w : World) (need old : Nat) (e : TypeId) : need ≤ grownCap w need old e := by simp [grownCap, Question.cut]

theorem toBytes_op (r : Rep W ι h w) {src dst e : TypeId} {s : List Nat} {p : Value} (hs : P.underlying src = some .string) (hd : P.underlying dst = some (.slice e)) (he : P.underlying e = some (.int .u8))
    (hp : VRel ι (.str s) p) (hr : h.room = true) (hlen9 : s.length ≤ 140737488355328) :
    ∃ u w' ι', (convert src dst p).run P w = .ok u w' ∧ VRel ι' (.sl (.own h.next) 0 s.length (.grown 1)) u ∧ Step W ι h w ι' (h.alloc ⟨s.map fun b : Nat => .int .u8 (.ofNat b), false⟩) w' := by
  obtain ⟨s', rfl, rfl⟩ := inv_str hp
  have hb := run_bytes_of_string (P := P) w src dst e s' hs hd he
  have hc := grownCap_ge w s'.size 0 e
  have hsz : s'.data.size = s'.size := rfl
  have hst := (Step.drew r).trans (alloc_sound (W := W) (ι := ι) r.drew (b := ⟨(s'.data.toList.map UInt8.toNat).map fun b : Nat => .int .u8 (.ofNat b), false⟩) (us := bytesRow s' (grownCap w s'.size 0 e)) (e := e)
      (fz := ((bytesRow s' (grownCap w s'.size 0 e)).size, (bytesRow s' (grownCap w s'.size 0 e)).size + 1)) hr (fun i v hv => bytes_cells i v hv _) (by simp [bytesRow]) (fun o ho hf => by omega) (fun hh => by cases hh))
  have hv := VRel.sl (ι := ι.add h.next ⟨w.drew.heap.size, 0, ((s'.data.toList.map UInt8.toNat).map fun b : Nat => AVal.int .u8 (.ofNat b)).length, (bytesRow s' (grownCap w s'.size 0 e)).size⟩)
    (.own h.next) 0 s'.size (.grown 1) ⟨w.heap.size, 0, none⟩ (grownCap w s'.size 0 e) hc (fun _ => ⟨_, Map.add_self _ _ _, by simp [bytesRow, hsz], rfl⟩)
    ⟨_, _, rfl, Map.add_self _ _ _, by simp [hsz]; exact hc, by simp [bytesRow, hsz]; omega, Nat.one_pos, grownCap_le_maxLen w _ _ e (by unfold maxLen; simp at hlen9; omega)⟩
  have hlen : (s'.data.toList.map UInt8.toNat).length = s'.size := by simp [hsz]
  rw [hlen]
  exact ⟨_, _, _, hb, hv, hst⟩

theorem mapM_bytes : ∀ {cs : List AVal} {bs : List Nat}, cs.mapM (m := Option) (fun | .int .u8 (.ofNat b) => (match Nat.blt b 256 with | true => some b | false => none) | _ => none) = some bs →
    cs = bs.map (fun b : Nat => AVal.int .u8 (.ofNat b)) ∧ ∀ b ∈ bs, b < 256 := by
  intro cs
  induction cs with
  | nil => intro bs hb; simp at hb; subst hb; simp
  | cons c r ih =>
    intro bs hb
    rw [List.mapM_cons] at hb
    simp only [bind, Option.bind_eq_some_iff, pure, Option.some.injEq] at hb
    obtain ⟨b, hb1, bs', hb2, rfl⟩ := hb
    split at hb1
    · rename_i b0
      split at hb1
      · rename_i hlt
        cases hb1
        obtain ⟨h1, h2⟩ := ih hb2
        refine ⟨by rw [h1]; rfl, fun x hx => ?_⟩
        have hlt' : b < 256 := by have := Nat.le_of_ble_eq_true hlt; omega
        cases hx with
        | head => exact hlt'
        | tail _ hm => exact h2 x hm
      · cases hb1
    · cases hb1

theorem rels_bytes : ∀ {bs : List Nat} {us : List Value}, VRels ι (bs.map (fun b : Nat => AVal.int .u8 (.ofNat b))) us → us = (bs.map (fun b : Nat => (b : Int))).map (Value.int .u8)
  | [], _, hr => by cases hr; rfl
  | b :: bs, _, hr => by
    cases hr with
    | cons hv hs => rw [inv_int hv, rels_bytes hs]; rfl

theorem toStr_nil {src dst e : TypeId} (hs : P.underlying src = some (.slice e)) (hd : P.underlying dst = some .string) (he : P.underlying e = some (.int .u8)) (w : World) :
    (convert src dst (.slice none 0 0)).run P w = .ok (.string .empty) w := by
  simp [convert, run_underlying hs, run_underlying hd, run_underlying he, Conv.bytesToString]

theorem ofNat_toNat_bytes : ∀ (bs : List Nat), (∀ b ∈ bs, b < 256) → ((bs.map (fun b : Nat => (b : Int))).map fun n => UInt8.ofNat n.toNat).map UInt8.toNat = bs
  | [], _ => rfl
  | b :: bs, hb => by
    simp only [List.map_cons, Int.toNat_natCast]
    rw [ofNat_toNat_bytes bs (fun x hx => hb x (by simp [hx]))]
    congr 1
    have := hb b (by simp)
    simp; omega

theorem foldl_push : ∀ (l : List Int) (r : ByteArray), (l.foldl (fun r n => r.push (UInt8.ofNat n.toNat)) r).data.toList = r.data.toList ++ l.map fun n => UInt8.ofNat n.toNat
  | [], r => by simp
  | x :: l, r => by rw [List.foldl_cons, foldl_push l]; simp [ByteArray.push]

theorem toStr_op (hI : InpOk W I) (r : Rep W ι h w) {src dst e : TypeId} {l : Loc} {o n : Nat} {cap : Cap} {p : Value} {cs : List AVal} {bs : List Nat} (hs : P.underlying src = some (.slice e)) (hd : P.underlying dst = some .string) (he : P.underlying e = some (.int .u8))
    (hp : VRel ι (.sl l o n cap) p) (hv : rds I h l o n = some cs) (hb : cs.mapM (m := Option) (fun | .int .u8 (.ofNat b) => (match Nat.blt b 256 with | true => some b | false => none) | _ => none) = some bs) :
    ∃ u, (convert src dst p).run P w = .ok u w ∧ VRel ι (.str bs) u := by
  obtain ⟨a, c, rfl, hlc, hat, _⟩ := inv_sl hp
  obtain ⟨hcs, hlt⟩ := mapM_bytes hb
  rcases Nat.eq_zero_or_pos n with hn | hn
  · subst hn
    have : cs = [] := by
      have : cs.length = 0 := by
        cases l with
        | inp b => simp only [rds, rdsInp, Option.some.injEq] at hv; subst hv; rfl
        | own k =>
          simp only [rds] at hv
          split at hv
          · cases hv
          · split at hv
            · cases hv; simp
            · cases hv
      exact List.length_eq_zero_iff.1 this
    subst this
    have hbs : bs = [] := by cases bs with | nil => rfl | cons _ _ => cases hcs
    subst hbs
    refine ⟨.string .empty, ?_, .str _ _ rfl⟩
    have hl := run_loadCells_list (P := P) w a [] (by simp)
    have := run_bytesToString (P := P) w a 0 c [] (by simpa using hl)
    simp [convert, run_underlying hs, run_underlying hd, run_underlying he, this]
  · obtain ⟨hl, us, hr, hc⟩ := rds_sound hI r hv (hat (by omega))
    rw [hcs] at hr
    have hus := rels_bytes hr
    have hlen : us.length = n := by rw [← hr.length, ← hcs, hl]
    have h1 := run_loadCells_list (P := P) w a us hc
    rw [hlen, hus] at h1
    have := run_bytesToString (P := P) w a n c (bs.map (fun b : Nat => (b : Int))) h1
    refine ⟨_, by simp only [convert, run_underlying hs, run_underlying hd, run_underlying he, Sem.run_bind, Result.andThen_ok]; exact this, .str _ _ ?_⟩
    rw [foldl_push]
    show bs = ([] ++ _).map _
    rw [List.nil_append, ofNat_toNat_bytes bs hlt]
end

end

end Go.AM

/- AM, part 9: cuts, indexes, append: what the abstract machine computes is what the model computes. -/
namespace Go.AM
noncomputable section
open Go.RowKit
set_option linter.unusedSectionVars false
variable [Sig]

section
variable {P : Program} {W : World} {I : Inp} {ι : Map} {h : AHeap} {w : World}

/-- An index that is known. -/
def IdxRel (lo : Option Value) (d a : Nat) : Prop := (lo = none ∧ a = d) ∨ ∃ k, lo = some (.int k (a : Int))

theorem asNat_spec {v : AVal} {n : Nat} (hv : asNat v = some n) : ∃ k, v = .int k (n : Int) := by
  unfold asNat at hv
  split at hv
  · cases hv; exact ⟨_, rfl⟩
  · cases hv

theorem optNat_rel {lo : Option Operand} {lo' : Option AOpd} (hc : cOpt lo = some lo') {n : Nat} {f : Fr} {a : Act} (hr : FrRel ι n f a.tmps) {d m : Nat} (ho : optNat f d lo' = some m) :
    IdxRel (lo.map a.eval) d m := by
  cases lo with
  | none => simp only [cOpt, Option.some.injEq] at hc; subst hc; simp only [optNat, Option.some.injEq] at ho; exact .inl ⟨rfl, ho.symm⟩
  | some x =>
    simp only [cOpt] at hc
    split at hc
    · rename_i y hy
      cases hc
      simp only [optNat] at ho
      obtain ⟨k, hk⟩ := asNat_spec ho
      have := cOpd_rel hy hr
      rw [hk] at this
      exact .inr ⟨k, by rw [Option.map_some, inv_int this]⟩
    · cases hc

theorem run_bound {k : IntKind} {n y : Nat} (hn : n ≤ y) (c : BoundsCode) (w : World) : (Instr.sliceBound (.int k (n : Int)) y c).run P w = .ok n w := by
  simp [Instr.sliceBound, asIntOf, hn]

theorem run_bounds {isS : Bool} {len cap a b m : Nat} {lo hi mx : Option Value} (hlo : IdxRel lo 0 a) (hhi : IdxRel hi len b) (hmx : IdxRel mx cap m) (hm : mx.isSome = true → hi.isSome = true)
    (hab : a ≤ b) (hbm : b ≤ m) (hmc : m ≤ cap) (w : World) : (Instr.sliceBounds isS len cap lo hi mx).run P w = .ok (a, b, m) w := by
  rcases hmx with ⟨rfl, rfl⟩ | ⟨km, rfl⟩
  · rcases hhi with ⟨rfl, rfl⟩ | ⟨kh, rfl⟩
    · rcases hlo with ⟨rfl, rfl⟩ | ⟨kl, rfl⟩
      · simp [Instr.sliceBounds]
      · simp [Instr.sliceBounds, run_bound hab]
    · rcases hlo with ⟨rfl, rfl⟩ | ⟨kl, rfl⟩
      · simp [Instr.sliceBounds, run_bound hbm]
      · simp [Instr.sliceBounds, run_bound hbm, run_bound hab]
  · rcases hhi with ⟨rfl, rfl⟩ | ⟨kh, rfl⟩
    · simp at hm
    · rcases hlo with ⟨rfl, rfl⟩ | ⟨kl, rfl⟩
      · simp [Instr.sliceBounds, run_bound hbm, run_bound hmc]
      · simp [Instr.sliceBounds, run_bound hbm, run_bound hmc, run_bound hab]

theorem Loc.at_add {l : Loc} {o k : Nat} {a : Addr} (ha : l.at ι o a) : l.at ι (o + k) (a.add k) := by
  cases l with
  | inp b =>
    have : a = ⟨(place b).1, (place b).2 + o, none⟩ := ha
    subst this
    show _ = _
    rw [addr_add, Nat.add_assoc]
  | own q =>
    obtain ⟨pl, hp, hn, rfl⟩ := ha
    exact ⟨pl, hp, hn, by rw [addr_add, Nat.add_assoc]⟩

theorem cap_bound {cap : Cap} {sz len b c : Nat} {l : Loc} {o : Nat} (hb : capHas cap sz len b = true) (hl : len ≤ c) (hc : capOk ι l o c cap) : b ≤ c := by
  cases cap with
  | known c' =>
    have : c = c' := hc
    subst this
    exact Nat.le_of_ble_eq_true hb
  | grown s =>
    simp only [capHas, Bool.and_eq_true] at hb
    have := Nat.le_of_ble_eq_true hb.1
    omega

/-- The value that a cut gives. -/
theorem cut_rel {l : Loc} {o a b m c sz len : Nat} {cap cap' : Cap} {ad : Addr} (hat : 0 < c → l.at ι o ad) (hok : capOk ι l o c cap) (hcap : capHas cap sz len b = true) (hab : a ≤ b) (hbm : b ≤ m) (hmc : m ≤ c)
    (hc' : (cap' = capMinus cap a ∧ m = c) ∨ cap' = .known (m - a)) :
    VRel ι (.sl l (o + a * sz) (b - a) cap') (.slice (some (if m = a then ad else ad.add (a * sz))) (b - a) (m - a)) := by
  refine .sl _ _ _ _ _ _ (by omega) (fun h0 => ?_) ?_
  · rw [if_neg (by omega)]
    exact Loc.at_add (hat (by omega))
  · rcases hc' with ⟨rfl, rfl⟩ | rfl
    · cases cap with
      | known c' => have : m = c' := hok; subst this; rfl
      | grown s =>
        obtain ⟨k, pl, rfl, hp, h1, h2, h3, h4⟩ := hok
        simp only [capHas, Bool.and_eq_true, Nat.beq_eq] at hcap
        obtain ⟨_, rfl⟩ := hcap
        have : m * s = a * s + (m - a) * s := by rw [← Nat.add_mul]; congr 1; omega
        exact ⟨k, pl, rfl, hp, by omega, by omega, h3, by omega⟩
    · rfl

theorem slice_op {t e : TypeId} {sz : Nat} {lo hi mx : Option Operand} {lo' hi' mx' : Option AOpd} {x v : AVal} {p : Value} (hu : P.underlying t = some (.slice e)) (hsz : sizeP P e = some sz)
    (h1 : cOpt lo = some lo') (h2 : cOpt hi = some hi') (h3 : cOpt mx = some mx') {n : Nat} {f : Fr} {a : Act} (hr : FrRel ι n f a.tmps) (hx : VRel ι x p) (hv : sliceOf f sz x lo' hi' mx' = some v) (w : World) :
    ∃ u, (Instr.sliceAt t p (lo.map a.eval) (hi.map a.eval) (mx.map a.eval)).run P w = .ok u w ∧ VRel ι v u := by
  obtain ⟨i, hi1, hs⟩ := sizeP_spec hsz
  unfold sliceOf at hv
  split at hv
  · rw [inv_nils hx]
    split at hv
    · rename_i e1 e2 e3 e4
      cases hv
      have r1 := optNat_rel h1 hr e1
      have r2 := optNat_rel h2 hr e2
      have r3 := optNat_rel h3 hr e3
      have hm : (mx.map a.eval).isSome = true → (hi.map a.eval).isSome = true := by
        cases mx with
        | none => simp
        | some y =>
          cases hi with
          | none =>
            simp only [cOpt, Option.some.injEq] at h2
            subst h2
            simp only [cOpt] at h3
            split at h3
            · cases h3; simp at e4
            · cases h3
          | some z => simp
      have := run_bounds (P := P) (isS := true) r1 r2 r3 hm (Nat.le_refl _) (Nat.le_refl _) (Nat.le_refl _) w
      exact ⟨.slice none 0 0, by simp [Instr.sliceAt, Instr.slice, run_underlying hu, this, run_sizeOf' hi1], .nils⟩
    · cases hv
  · rename_i l o len cap
    obtain ⟨ad, c, rfl, hlc, hat, hok⟩ := inv_sl hx
    split at hv
    · rename_i a' b' e1 e2
      have r1 := optNat_rel h1 hr e1
      have r2 := optNat_rel h2 hr e2
      split at hv
      · split at hv
        · rename_i hc
          cases hv
          simp only [Bool.and_eq_true] at hc
          have hab := Nat.le_of_ble_eq_true hc.1
          have hbc := cap_bound hc.2 hlc hok
          have hmx : mx = none := by cases mx with | none => rfl | some y => simp only [cOpt] at h3; split at h3 <;> cases h3
          subst hmx
          have := run_bounds (P := P) (isS := true) (mx := none) (cap := c) r1 r2 (.inl ⟨rfl, rfl⟩) (by simp) hab hbc (Nat.le_refl _) w
          have hcr := cut_rel (ad := ad) (cap' := capMinus cap a') hat hok hc.2 hab hbc (Nat.le_refl _) (.inl ⟨rfl, rfl⟩)
          refine ⟨_, ?_, hcr⟩
          simp only [Instr.sliceAt, Instr.slice, Sem.run_bind, run_underlying hu, Result.andThen_ok, Option.map_none, this, run_sizeOf' hi1, hs]
          by_cases hca : c = a'
          · simp [hca]
          · simp [hca]
        · cases hv
      · rename_i m'
        cases e3 : asNat (m'.ev f) with
        | none => simp [e3] at hv
        | some mm =>
          cases hi' with
          | none => simp [e3] at hv
          | some y =>
          simp only [e3] at hv
          split at hv
          · rename_i hc
            cases hv
            simp only [Bool.and_eq_true] at hc
            obtain ⟨⟨hc1, hc2⟩, hc3⟩ := hc
            have hab := Nat.le_of_ble_eq_true hc1
            have hbm := Nat.le_of_ble_eq_true hc2
            have hmc := cap_bound hc3 hlc hok
            have r3 : IdxRel (mx.map a.eval) c mm := optNat_rel h3 hr (d := c) (by simp only [optNat]; exact e3)
            have hm : (mx.map a.eval).isSome = true → (hi.map a.eval).isSome = true := by
              intro _
              cases hi with
              | none => simp only [cOpt, Option.some.injEq] at h2; cases h2
              | some z => simp
            have := run_bounds (P := P) (isS := true) (cap := c) r1 r2 r3 hm hab hbm hmc w
            have hcb : capHas cap sz len b' = true := by
              cases cap with
              | known c' => exact Nat.ble_eq_true_of_le (Nat.le_trans hbm (Nat.le_of_ble_eq_true hc3))
              | grown s =>
                simp only [capHas, Bool.and_eq_true] at hc3 ⊢
                exact ⟨Nat.ble_eq_true_of_le (Nat.le_trans hbm (Nat.le_of_ble_eq_true hc3.1)), hc3.2⟩
            have hcr := cut_rel (ad := ad) (cap' := .known (mm - a')) hat hok hcb hab hbm hmc (.inr rfl)
            refine ⟨_, ?_, hcr⟩
            simp only [Instr.sliceAt, Instr.slice, Sem.run_bind, run_underlying hu, Result.andThen_ok, this, run_sizeOf' hi1, hs]
            by_cases hca : mm = a'
            · simp [hca]
            · simp [hca]
          · cases hv
    · cases hv
  · cases hv
end

end

end Go.AM

/- AM, part 10: cuts of strings and arrays, fields, indexes, assertions, lengths: what the abstract machine computes is what the model computes. -/
namespace Go.AM
noncomputable section
open Go.RowKit
set_option linter.unusedSectionVars false
variable [Sig]

section
variable {P : Program} {W : World} {I : Inp} {ι : Map} {h : AHeap} {w : World}

theorem sliceStr_op {t : TypeId} {lo hi : Option Operand} {lo' hi' : Option AOpd} {s : List Nat} {p : Value} {a b : Nat} (hu : P.underlying t = some .string)
    (h1 : cOpt lo = some lo') (h2 : cOpt hi = some hi') {n : Nat} {f : Fr} {ac : Act} (hr : FrRel ι n f ac.tmps) (hx : VRel ι (.str s) p)
    (e1 : optNat f 0 lo' = some a) (e2 : optNat f s.length hi' = some b) (hab : a ≤ b) (hb : b ≤ s.length) (w : World) :
    ∃ u, (Instr.sliceAt t p (lo.map ac.eval) (hi.map ac.eval) none).run P w = .ok u w ∧ VRel ι (.str ((s.drop a).take (b - a))) u := by
  obtain ⟨s', rfl, rfl⟩ := inv_str hx
  have hl : (s'.data.toList.map UInt8.toNat).length = s'.size := by simp
  rw [hl] at e2 hb
  have r1 := optNat_rel h1 hr e1
  have r2 := optNat_rel h2 hr e2
  have := run_bounds (P := P) (isS := false) (mx := none) (cap := s'.size) r1 r2 (.inl ⟨rfl, rfl⟩) (by simp) hab hb (Nat.le_refl _) w
  refine ⟨.string (s'.extract a b), by simp [Instr.sliceAt, Instr.slice, run_underlying hu, this], .str _ _ ?_⟩
  have : (s'.extract a b).data.toList = (s'.data.toList.drop a).take (b - a) := by
    rw [ByteArray.data_extract, Array.toList_extract]
  rw [this, List.map_take, List.map_drop]

theorem sliceArr_op {t e : TypeId} {sz m : Nat} {lo hi mx : Option Operand} {lo' hi' mx' : Option AOpd} {l : Loc} {o : Nat} {v : AVal} {p : Value} (hu : P.underlying t = some (.array m e)) (hsz : sizeP P e = some sz)
    (h1 : cOpt lo = some lo') (h2 : cOpt hi = some hi') (h3 : cOpt mx = some mx') {n : Nat} {f : Fr} {a : Act} (hr : FrRel ι n f a.tmps) (hx : VRel ι (.ptr l o) p) (hv : sliceOf f sz (.sl l o m (.known m)) lo' hi' mx' = some v) (w : World) :
    ∃ u, (Instr.sliceAt t p (lo.map a.eval) (hi.map a.eval) (mx.map a.eval)).run P w = .ok u w ∧ VRel ι v u := by
  obtain ⟨ad, rfl, had⟩ := inv_ptr hx
  obtain ⟨i, hi1, hs⟩ := sizeP_spec hsz
  simp only [sliceOf] at hv
  split at hv
  · rename_i a' b' e1 e2
    have r1 := optNat_rel h1 hr e1
    have r2 := optNat_rel h2 hr e2
    split at hv
    · split at hv
      · rename_i hc
        cases hv
        simp only [Bool.and_eq_true] at hc
        have hab := Nat.le_of_ble_eq_true hc.1
        have hbc : b' ≤ m := Nat.le_of_ble_eq_true hc.2
        have hmx : mx = none := by cases mx with | none => rfl | some y => simp only [cOpt] at h3; split at h3 <;> cases h3
        subst hmx
        have := run_bounds (P := P) (isS := false) (mx := none) (cap := m) r1 r2 (.inl ⟨rfl, rfl⟩) (by simp) hab hbc (Nat.le_refl _) w
        have hcr := cut_rel (ι := ι) (ad := ad) (cap := .known m) (cap' := capMinus (.known m) a') (len := m) (fun _ => had) rfl hc.2 hab hbc (Nat.le_refl _) (.inl ⟨rfl, rfl⟩)
        refine ⟨_, ?_, hcr⟩
        simp only [Instr.sliceAt, Instr.sureAddr, Sem.run_bind, run_underlying hu, Result.andThen_ok, Option.map_none, this, run_sizeOf' hi1, hs, Sem.run_pure]
      · cases hv
    · rename_i m'
      cases e3 : asNat (m'.ev f) with
      | none => simp [e3] at hv
      | some mm =>
        cases hi' with
        | none => simp [e3] at hv
        | some y =>
        simp only [e3] at hv
        split at hv
        · rename_i hc
          cases hv
          simp only [Bool.and_eq_true] at hc
          obtain ⟨⟨hc1, hc2⟩, hc3⟩ := hc
          have hab := Nat.le_of_ble_eq_true hc1
          have hbm := Nat.le_of_ble_eq_true hc2
          have hmc : mm ≤ m := Nat.le_of_ble_eq_true hc3
          have r3 : IdxRel (mx.map a.eval) m mm := optNat_rel h3 hr (d := m) (by simp only [optNat]; exact e3)
          have hm : (mx.map a.eval).isSome = true → (hi.map a.eval).isSome = true := by
            intro _
            cases hi with
            | none => simp only [cOpt, Option.some.injEq] at h2; cases h2
            | some z => simp
          have := run_bounds (P := P) (isS := false) (cap := m) r1 r2 r3 hm hab hbm hmc w
          have hcr := cut_rel (ι := ι) (ad := ad) (sz := sz) (cap := .known m) (cap' := .known (mm - a')) (len := m) (fun _ => had) rfl (Nat.ble_eq_true_of_le (Nat.le_trans hbm hmc)) hab hbm hmc (.inr rfl)
          refine ⟨_, ?_, hcr⟩
          simp only [Instr.sliceAt, Instr.sureAddr, Sem.run_bind, run_underlying hu, Result.andThen_ok, this, run_sizeOf' hi1, hs, Sem.run_pure]
        · cases hv
  · cases hv

theorem fieldAddr_op {s : TypeId} {fields : Array Field} {i m : Nat} {fd : Field} {l : Loc} {o : Nat} {p : Value} (hu : P.underlying s = some (.struct fields)) (hf : fields[i]? = some fd) (hs : sizeP P fd.type = some (m + 1))
    (hx : VRel ι (.ptr l o) p) (w : World) : ∃ u, (Instr.fieldAt s p i).run P w = .ok u w ∧ VRel ι (.ptr l (o + fd.offset)) u := by
  obtain ⟨a, rfl, ha⟩ := inv_ptr hx
  obtain ⟨j, hj, hm⟩ := sizeP_spec hs
  refine ⟨.pointer (some (a.add fd.offset)), ?_, .ptr _ _ _ (Loc.at_add ha)⟩
  simp [Instr.fieldAt, run_underlying hu, hf, Instr.sureAddr, fieldPlace, run_sizeOf' hj, hm]

theorem part1 {t : TypeId} (ht : isAggP P t = some false) {cs : Array Value} {off : Nat} {v : Value} (hv : cs[off]? = some v) (w : World) : (part t cs off).run P w = .ok v w := by
  simp [part, isAggP_spec ht, hv]
theorem partN {t : TypeId} {n : Nat} (ht : isAggP P t = some true) (hn : sizeP P t = some n) {cs : Array Value} {off : Nat} (w : World) : (part t cs off).run P w = .ok (.agg (cs.extract off (off + n))) w := by
  obtain ⟨i, hi, hs⟩ := sizeP_spec hn
  simp [part, isAggP_spec ht, run_sizeOf' hi, hs]

theorem extract_rel {cs : List AVal} {us : Array Value} (hr : VRels ι cs us.toList) (off n : Nat) : VRels ι ((cs.drop off).take n) (us.extract off (off + n)).toList := by
  have : (us.extract off (off + n)).toList = (us.toList.drop off).take n := by
    rw [Array.toList_extract]
    simp
  rw [this]
  exact (hr.drop off).take n

theorem field1_op {t : TypeId} {fields : Array Field} {i : Nat} {fd : Field} {cs : List AVal} {v : AVal} {p : Value} (hu : P.underlying t = some (.struct fields)) (hf : fields[i]? = some fd) (ht : isAggP P fd.type = some false)
    (hx : VRel ι (.agg cs) p) (hv : cs[fd.offset]? = some v) (w : World) : ∃ u, (Instr.field t p i).run P w = .ok u w ∧ VRel ι v u := by
  obtain ⟨us, rfl, hus⟩ := inv_agg hx
  obtain ⟨u, hu1, hr⟩ := hus.get hv
  rw [Array.getElem?_toList] at hu1
  exact ⟨u, by simp [Instr.field, run_underlying hu, hf, asAgg, part1 ht hu1], hr⟩

theorem fieldN_op {t : TypeId} {fields : Array Field} {i n : Nat} {fd : Field} {cs : List AVal} {p : Value} (hu : P.underlying t = some (.struct fields)) (hf : fields[i]? = some fd) (ht : isAggP P fd.type = some true) (hn : sizeP P fd.type = some n)
    (hx : VRel ι (.agg cs) p) (w : World) : ∃ u, (Instr.field t p i).run P w = .ok u w ∧ VRel ι (.agg ((cs.drop fd.offset).take n)) u := by
  obtain ⟨us, rfl, hus⟩ := inv_agg hx
  exact ⟨_, by simp [Instr.field, run_underlying hu, hf, asAgg, partN ht hn], .agg _ _ (extract_rel hus _ _)⟩

theorem idx_int {v : AVal} {q : Value} {j : Nat} (hq : VRel ι v q) (hj : asNat v = some j) : ∃ k, q = .int k (j : Int) := by
  obtain ⟨k, rfl⟩ := asNat_spec hj
  exact ⟨k, inv_int hq⟩

theorem indexAddr_op {t e : TypeId} {sz : Nat} {l : Loc} {o n j : Nat} {cap : Cap} {p q : Value} {vi : AVal} (hu : P.underlying t = some (.slice e)) (hsz : sizeP P e = some sz) (hx : VRel ι (.sl l o n cap) p) (hq : VRel ι vi q)
    (hj : asNat vi = some j) (hlt : j < n) (w : World) : ∃ u, (Instr.indexAt t p q).run P w = .ok u w ∧ VRel ι (.ptr l (o + j * sz)) u := by
  obtain ⟨a, c, rfl, hlc, hat, _⟩ := inv_sl hx
  obtain ⟨k, rfl⟩ := idx_int hq hj
  obtain ⟨i, hi, hs⟩ := sizeP_spec hsz
  refine ⟨.pointer (some (a.add (j * sz))), ?_, .ptr _ _ _ (Loc.at_add (hat (by omega)))⟩
  simp [Instr.indexAt, asIntOf, run_underlying hu, hlt, run_sizeOf' hi, hs]

theorem indexAddrArr_op {t e : TypeId} {sz : Nat} {l : Loc} {o n j : Nat} {p q : Value} {vi : AVal} (hu : P.underlying t = some (.array n e)) (hsz : sizeP P e = some sz) (hx : VRel ι (.ptr l o) p) (hq : VRel ι vi q)
    (hj : asNat vi = some j) (hlt : j < n) (w : World) : ∃ u, (Instr.indexAt t p q).run P w = .ok u w ∧ VRel ι (.ptr l (o + j * sz)) u := by
  obtain ⟨a, rfl, ha⟩ := inv_ptr hx
  obtain ⟨k, rfl⟩ := idx_int hq hj
  obtain ⟨i, hi, hs⟩ := sizeP_spec hsz
  refine ⟨.pointer (some (a.add (j * sz))), ?_, .ptr _ _ _ (Loc.at_add ha)⟩
  simp [Instr.indexAt, asIntOf, run_underlying hu, Instr.sureAddr, hlt, run_sizeOf' hi, hs]

theorem indexStr_op {t : TypeId} {s : List Nat} {j b : Nat} {p q : Value} {vi : AVal} (hu : P.underlying t = some .string) (hx : VRel ι (.str s) p) (hq : VRel ι vi q)
    (hj : asNat vi = some j) (hb : s[j]? = some b) (w : World) : ∃ u, (Instr.index t p q).run P w = .ok u w ∧ VRel ι (.int .u8 b) u := by
  obtain ⟨s', rfl, rfl⟩ := inv_str hx
  obtain ⟨k, rfl⟩ := idx_int hq hj
  simp only [List.getElem?_map, Option.map_eq_some_iff] at hb
  obtain ⟨c, hc, rfl⟩ := hb
  rw [Array.getElem?_toList] at hc
  have hj' : j < s'.size := (Array.getElem?_eq_some_iff.1 hc).1
  have hcc : s'[j]? = some c := by
    rw [getElem?_pos s' j hj']
    have := (Array.getElem?_eq_some_iff.1 hc).2
    exact congrArg some this
  exact ⟨.int .u8 c.toNat, by simp [Instr.index, asIntOf, run_underlying hu, hcc], .int _ _⟩

theorem index1_op {t e : TypeId} {n j : Nat} {cs : List AVal} {v : AVal} {p q : Value} {vi : AVal} (hu : P.underlying t = some (.array n e)) (ht : isAggP P e = some false) (hsz : sizeP P e = some 1) (hx : VRel ι (.agg cs) p) (hq : VRel ι vi q)
    (hj : asNat vi = some j) (hlt : j < n) (hv : cs[j]? = some v) (w : World) : ∃ u, (Instr.index t p q).run P w = .ok u w ∧ VRel ι v u := by
  obtain ⟨us, rfl, hus⟩ := inv_agg hx
  obtain ⟨k, rfl⟩ := idx_int hq hj
  obtain ⟨i, hi, hs⟩ := sizeP_spec hsz
  obtain ⟨u, hu1, hr⟩ := hus.get hv
  rw [Array.getElem?_toList] at hu1
  exact ⟨u, by simp [Instr.index, asIntOf, run_underlying hu, hlt, run_sizeOf' hi, hs, part1 ht hu1], hr⟩

theorem indexN_op {t e : TypeId} {n j sz : Nat} {cs : List AVal} {p q : Value} {vi : AVal} (hu : P.underlying t = some (.array n e)) (ht : isAggP P e = some true) (hsz : sizeP P e = some sz) (hx : VRel ι (.agg cs) p) (hq : VRel ι vi q)
    (hj : asNat vi = some j) (hlt : j < n) (w : World) : ∃ u, (Instr.index t p q).run P w = .ok u w ∧ VRel ι (.agg ((cs.drop (j * sz)).take sz)) u := by
  obtain ⟨us, rfl, hus⟩ := inv_agg hx
  obtain ⟨k, rfl⟩ := idx_int hq hj
  obtain ⟨i, hi, hs⟩ := sizeP_spec hsz
  exact ⟨_, by simp [Instr.index, asIntOf, run_underlying hu, hlt, run_sizeOf' hi, hs, partN ht hsz], .agg _ _ (extract_rel hus _ _)⟩

theorem extract_op {vs : List AVal} {i : Nat} {v : AVal} {p : Value} (hx : VRel ι (.tuple vs) p) (hv : vs[i]? = some v) (w : World) : ∃ u, (Instr.extract p i).run P w = .ok u w ∧ VRel ι v u := by
  obtain ⟨us, rfl, hus⟩ := inv_tuple hx
  obtain ⟨u, hu1, hr⟩ := hus.get hv
  rw [Array.getElem?_toList] at hu1
  exact ⟨u, by simp [Instr.extract, hu1], hr⟩

theorem len_op {t : TypeId} {d : TypeDesc} {x : AVal} {p : Value} {n : Nat} {ts : Array TypeId} {ty : TypeId} {ps : Array Value} (h0 : ts[0]? = some t) (h1 : ps[0]? = some p)
    (hu : P.underlying t = some d) (hd : d = .string ∧ (∃ s, x = .str s ∧ n = s.length) ∨ (∃ e, d = .slice e) ∧ ((x = .nils ∧ n = 0) ∨ ∃ l o c, x = .sl l o n c)) (hx : VRel ι x p) (w : World) :
    (Builtin.len_ ts ty ps).run P w = .ok (.int .i64 n) w := by
  rcases hd with ⟨rfl, s, rfl, rfl⟩ | ⟨⟨e, rfl⟩, ⟨rfl, rfl⟩ | ⟨l, o, c, rfl⟩⟩
  · obtain ⟨s', rfl, rfl⟩ := inv_str hx
    have hl : (s'.data.toList.map UInt8.toNat).length = s'.size := by simp
    rw [hl]
    simp [Builtin.len_, h0, h1, run_underlying hu, goInt]
  · rw [inv_nils hx] at h1
    simp [Builtin.len_, h0, h1, run_underlying hu, goInt]
  · obtain ⟨a, c', rfl, _⟩ := inv_sl hx
    simp [Builtin.len_, h0, h1, run_underlying hu, goInt]

theorem minInts_max {k : IntKind} : ∀ {a : Int} {xs : List AVal} {v : AVal}, minInts true k a xs = some v → ∀ {us : List Value}, VRels ι xs us → ∀ w, ∃ u, (us.foldlM Builtin.max2 (.int k a)).run P w = .ok u w ∧ VRel ι v u := by
  intro a xs
  induction xs generalizing a with
  | nil => intro v hv us hr w; cases hr; simp only [minInts, Option.some.injEq] at hv; subst hv; exact ⟨_, rfl, .int _ _⟩
  | cons x r ih =>
    intro v hv us hr w
    cases hr with
    | cons hv1 hrs =>
      unfold minInts at hv
      split at hv
      · rename_i heq; cases heq
      · rename_i k1 a1 k2 b r' heq
        cases heq
        split at hv
        · rename_i hk
          subst hk
          rw [inv_int hv1]
          obtain ⟨u, h1, h2⟩ := ih hv hrs w
          refine ⟨u, ?_, h2⟩
          simp only [if_true] at h1
          simp [List.foldlM_cons, Builtin.max2, h1]
        · cases hv
      · cases hv

theorem minInts_min {k : IntKind} : ∀ {a : Int} {xs : List AVal} {v : AVal}, minInts false k a xs = some v → ∀ {us : List Value}, VRels ι xs us → ∀ w, ∃ u, (us.foldlM Builtin.min2 (.int k a)).run P w = .ok u w ∧ VRel ι v u := by
  intro a xs
  induction xs generalizing a with
  | nil => intro v hv us hr w; cases hr; simp only [minInts, Option.some.injEq] at hv; subst hv; exact ⟨_, rfl, .int _ _⟩
  | cons x r ih =>
    intro v hv us hr w
    cases hr with
    | cons hv1 hrs =>
      unfold minInts at hv
      split at hv
      · rename_i heq; cases heq
      · rename_i k1 a1 k2 b r' heq
        cases heq
        split at hv
        · rename_i hk
          subst hk
          rw [inv_int hv1]
          obtain ⟨u, h1, h2⟩ := ih hv hrs w
          refine ⟨u, ?_, h2⟩
          simp only [Bool.false_eq_true, if_false] at h1
          simp [List.foldlM_cons, Builtin.min2, h1]
        · cases hv
      · cases hv
end

end

end Go.AM

/- AM, part 11: append: what the abstract machine computes is what the model computes. -/
namespace Go.AM
noncomputable section
open Go.RowKit
set_option linter.unusedSectionVars false
variable [Sig]

section
variable {P : Program} {W : World} {I : Inp} {ι : Map} {h : AHeap} {w : World}

theorem run_append_room' {t u e ty : TypeId} {d : TypeDesc} {i : TypeInfo} (ht : P.underlying t = some (.slice e)) (hu : P.underlying u = some d) (hd : d = .string ∨ ∃ e', d = .slice e') (hi : P.info? e = some i)
    {a : Addr} {sLen sCap n : Nat} {q : Value} {us : List Value} {w w' : World} (hn : (Builtin.lenOf q).run P w = .ok n w) (hf : (Builtin.firstCells i.size n q).run P w = .ok us.toArray w)
    (hroom : sLen + n ≤ sCap) (hst : (storeCells (a.add (sLen * i.size)) us).run P w = .ok () w') :
    (Builtin.append_ #[t, u] ty #[.slice (some a) sLen sCap, q]).run P w = .ok (.slice (some a) (sLen + n) sCap) w' := by
  rcases hd with rfl | ⟨e', rfl⟩ <;> simp [Builtin.append_, run_underlying ht, run_underlying hu, run_sizeOf' hi, hn, hroom, hf, hst]

theorem run_append_grow' {t u e ty : TypeId} {d : TypeDesc} {i : TypeInfo} {z : Value} (ht : P.underlying t = some (.slice e)) (hu : P.underlying u = some d) (hd : d = .string ∨ ∃ e', d = .slice e') (hi : P.info? e = some i) (hz : i.zero = some z)
    {base : Option Addr} {sLen sCap n : Nat} {q : Value} {us olds : List Value} {w : World} (hn : (Builtin.lenOf q).run P w = .ok n w) (hf : (Builtin.firstCells i.size n q).run P w.drew = .ok us.toArray w.drew)
    (ho : (Builtin.firstCells i.size sLen (.slice base sLen sCap)).run P w.drew = .ok olds.toArray w.drew)
    (hg : sCap < sLen + n) (h63 : sLen + n ≤ 140737488355328) (hfit : (sLen + n) * i.bytes ≤ 140737488355328) :
    (Builtin.append_ #[t, u] ty #[.slice base sLen sCap, q]).run P w = .ok (.slice (some ⟨w.heap.size, 0, none⟩) (sLen + n) (grownCap w (sLen + n) sCap e))
      (w.drew.alloc (.cells (olds.toArray ++ us.toArray ++ Builtin.zeroCells z.cells (grownCap w (sLen + n) sCap e - (sLen + n))) e)) := by
  have hn' : ¬ (sLen + n ≤ sCap) := by omega
  have h63' : ¬ (9223372036854775807 < ((sLen : Int) + (n : Int))) := by omega
  have h48 := growslice_fits hg hfit
  have h48' : ¬ (281474976710656 < Builtin.nextslicecap (sLen + n) sCap * i.bytes) := by omega
  rcases hd with rfl | ⟨e', rfl⟩ <;>
    (simp [Builtin.append_, run_underlying ht, run_underlying hu, run_sizeOf' hi, typeInfo, zeroValue, hi, hz, hn, hn', h63', h48', Question.forced, hf, ho, newRow, grownCap]
     congr 2
     apply Array.ext'
     simp [List.append_assoc])

theorem src_sound (hI : InpOk W I) (r : Rep W ι h w) {sz n : Nat} {y : AVal} {q : Value} {news : List AVal} (hs : srcCells I h sz y = some (n, news)) (hy : VRel ι y q) (h0 : 0 < n) :
    ∃ us : List Value, VRels ι news us ∧ us.length = n * sz ∧ ∀ w' : World, w'.heap = w.heap → (Builtin.lenOf q).run P w' = .ok n w' ∧ (Builtin.firstCells sz n q).run P w' = .ok us.toArray w' := by
  unfold srcCells at hs
  split at hs
  · cases hs; omega
  · rename_i l o len cap
    split at hs
    · rename_i cs hcs
      cases hs
      obtain ⟨a, c, rfl, hlc, hat, _⟩ := inv_sl hy
      obtain ⟨hl, us, hr, hc⟩ := rds_sound hI r hcs (hat (by omega))
      refine ⟨us, hr, by rw [← hr.length, hl], fun w' hw' => ⟨by simp [Builtin.lenOf], ?_⟩⟩
      refine run_firstCells_some w' sz n a n c us (by rw [← hr.length, hl]) fun j v hj => ?_
      have := hc j v hj
      unfold World.cell? at this ⊢
      rw [hw']
      exact this
    · cases hs
  · rename_i s
    split at hs
    · rename_i hsz
      have hsz' : sz = 1 := by simpa using hsz
      subst hsz'
      cases hs
      obtain ⟨s', rfl, rfl⟩ := inv_str hy
      have hl : (s'.data.toList.map UInt8.toNat).length = s'.size := by simp
      refine ⟨(s'.data.map fun b => Value.int .u8 b.toNat).toList, ?_, by simp, fun w' _ => ⟨by rw [hl]; simp [Builtin.lenOf], ?_⟩⟩
      · refine VRels.of_get (by simp) fun i v u hv hu => ?_
        obtain ⟨u', hu', hr⟩ := bytes_cells (ι := ι) i v hv #[]
        simp only [Array.append_empty] at hu'
        rw [Array.getElem?_toList, hu'] at hu
        cases hu
        exact hr
      · have hx : s'.extract 0 s'.size = s' := by
          have : (s'.extract 0 s'.size).data = s'.data := by rw [ByteArray.data_extract]; exact Array.extract_size
          cases s'; cases hh : ByteArray.extract _ 0 _; rw [hh] at this; simpa using this
        rw [hl]
        simp only [Builtin.firstCells, hx, Array.toArray_toList]
        rfl
    · cases hs
  · cases hs

theorem zeroCells_size {z : Value} (n : Nat) : (Builtin.zeroCells z.cells n).size = n * z.cells.size := by simp [Builtin.zeroCells]

/-- The new row that an append makes. -/
theorem grow_step (r : Rep W ι h w) {sz need c : Nat} {e : TypeId} {olds news : List AVal} {uo un : List Value} {rest : Array Value} {plain : Bool} (hr : h.room = true) (ho : VRels ι olds uo) (hn : VRels ι news un)
    (hlen : olds.length + news.length = need * sz) (hrest : rest.size = (c - need) * sz) (hc : need ≤ c) (hsz : 0 < sz) (hmax : c ≤ 9223372036854775807) :
    ∃ ι', VRel ι' (.sl (.own h.next) 0 need (.grown sz)) (.slice (some ⟨w.heap.size, 0, none⟩) need c) ∧ Step W ι h w ι' (h.alloc ⟨olds ++ news, plain⟩) (w.drew.alloc (.cells (uo.toArray ++ un.toArray ++ rest) e)) := by
  have hb := (ho.append hn)
  have hlo := ho.length
  have hln := hn.length
  have hst := (Step.drew r).trans (alloc_sound (W := W) (ι := ι) r.drew (b := ⟨olds ++ news, plain⟩) (us := uo.toArray ++ un.toArray ++ rest) (e := e) (fz := (0, 0)) hr
    (fun i v hv => by
      obtain ⟨u, hu, hr⟩ := hb.get hv
      refine ⟨u, ?_, hr⟩
      have hi := (List.getElem?_eq_some_iff.1 hu).1
      rw [Array.getElem?_append_left (by simpa using hi)]
      simpa using hu)
    (by simp; omega) (fun o _ hf => by simp at hf) (fun _ => rfl))
  refine ⟨_, .sl _ _ _ _ _ _ hc (fun _ => ⟨_, Map.add_self _ _ _, by simp; omega, rfl⟩) ⟨_, _, rfl, Map.add_self _ _ _, ?_, ?_, hsz, hmax⟩, hst⟩
  · simp only [List.length_append]
    have : need * sz ≤ c * sz := Nat.mul_le_mul_right _ hc
    omega
  · simp only [Array.size_append, List.size_toArray]
    have : c * sz = need * sz + (c - need) * sz := by rw [← Nat.add_mul]; congr 1; omega
    omega

/-- An append in place: the block goes on under a new name. -/
theorem take_over (r : Rep W ι h w) {k : Nat} {b b' : Blk} {pl : Pl} {cs cs' : Array Value} {e : TypeId} {fz : Nat × Nat} {off n room : Nat} (hr : h.room = true) (hk : h.get k = some b) (hp : ι k = some pl) (hbase : W.heap.size ≤ pl.blk)
    (hg : w.heap[pl.blk]? = some (.cells cs e fz)) (hz : ∀ o, o < cs.size → ¬ (fz.1 ≤ o ∧ o < fz.2)) (hplain : b'.plain = true → fz = (0, 0)) (hs : cs'.size = cs.size)
    (h1 : off + room ≤ cs.size) (h2 : n ≤ room) (h3 : b'.cells.length = n) (h4 : ∀ (i : Nat) (v : AVal), b'.cells[i]? = some v → ∃ u, cs'[off + i]? = some u ∧ VRel ι v u) :
    Step W ι h w (ι.add h.next ⟨pl.blk, off, n, room⟩) ((h.kill k).alloc b') (w.setRow pl.blk cs') := by
  have hnone := r.fresh h.next (Nat.le_refl _)
  have hle : ι.le (ι.add h.next ⟨pl.blk, off, n, room⟩) := Map.le_add hnone
  have hnew := setRow_heap w pl.blk cs cs' e fz hg
  have hroom : (h.kill k).room = true := hr
  have hget : ∀ m, ((h.kill k).alloc b').get m = if m = h.next then some b' else if m = k then none else h.get m := by
    intro m
    rw [AHeap.get_alloc, show (h.kill k).next = h.next from rfl]
    by_cases hm : m = h.next
    · rw [if_pos hm, if_pos hm]
    · rw [if_neg hm, if_neg hm, AHeap.get_kill]
  refine ⟨hle, ⟨?_, ?_, ?_, ?_⟩, by rw [setRow_size]; exact Nat.le_refl _, by show h.next ≤ h.next + 1; omega, ?_,
    fun m hm => by unfold Map.add; rw [if_neg (by omega)], fun m hm hn => by rw [hget, if_neg (by omega)]; split <;> first | rfl | exact hn, Nat.le_refl _⟩
  · exact r.below.trans ⟨rfl, rfl, rfl, by rw [setRow_size]; exact Nat.le_refl _, fun i hi => setRow_other _ _ _ _ (by omega)⟩
  · intro m bm hm
    rw [hget] at hm
    by_cases e1 : m = h.next
    · rw [if_pos e1] at hm
      cases hm
      subst e1
      refine ⟨_, Map.add_self _ _ _, hbase, .inl ⟨cs', e, fz, hnew, by rw [hs]; exact hz, hplain, by rw [hs]; exact h1, h2, h3, fun i v hv => ?_⟩⟩
      obtain ⟨u, hu, hr⟩ := h4 i v hv
      exact ⟨u, hu, hr.mono hle⟩
    · rw [if_neg e1] at hm
      by_cases e2 : m = k
      · rw [if_pos e2] at hm; cases hm
      · rw [if_neg e2] at hm
        obtain ⟨pl2, hp2, hb2, hblk⟩ := r.own m bm hm
        exact ⟨pl2, hle _ _ hp2, hb2, hblk.keep hle (setRow_other _ _ _ _ (fun e => e2 (r.inj m k bm b pl2 pl hm hk hp2 hp e)))⟩
  · intro m m' bm bm' plm plm' hm hm' hpm hpm' he
    rw [hget] at hm hm'
    unfold Map.add at hpm hpm'
    by_cases e1 : m = h.next
    · by_cases e1' : m' = h.next
      · omega
      · rw [if_neg e1'] at hm' hpm'
        rw [if_pos e1] at hpm
        cases hpm
        by_cases e2 : m' = k
        · rw [if_pos e2] at hm'; cases hm'
        · rw [if_neg e2] at hm'
          exact absurd (r.inj k m' b bm' pl plm' hk hm' hp hpm' he).symm e2
    · rw [if_neg e1] at hm hpm
      by_cases e2 : m = k
      · rw [if_pos e2] at hm; cases hm
      · rw [if_neg e2] at hm
        by_cases e1' : m' = h.next
        · rw [if_pos e1'] at hpm'
          cases hpm'
          exact absurd (r.inj m k bm b plm pl hm hk hpm hp he) e2
        · rw [if_neg e1'] at hm' hpm'
          by_cases e2' : m' = k
          · rw [if_pos e2'] at hm'; cases hm'
          · rw [if_neg e2'] at hm'
            exact r.inj _ _ _ _ _ _ hm hm' hpm hpm' he
  · intro m hm
    have h5 : ((h.kill k).alloc b').next = h.next + 1 := rfl
    unfold Map.add
    rw [if_neg (by omega)]
    exact r.fresh m (by omega)
  · intro g hgs hno
    refine ⟨setRow_other _ _ _ _ (fun e => hno k b pl hk hp e.symm), fun m bm plm hm hpm => ?_⟩
    rw [hget] at hm
    unfold Map.add at hpm
    by_cases e1 : m = h.next
    · rw [if_pos e1] at hpm; cases hpm; exact hno k b pl hk hp
    · rw [if_neg e1] at hm hpm
      by_cases e2 : m = k
      · rw [if_pos e2] at hm; cases hm
      · rw [if_neg e2] at hm; exact hno m bm plm hm hpm

set_option maxHeartbeats 1000000 in
theorem append_op (hI : InpOk W I) (r : Rep W ι h w) {t u e ty : TypeId} {d : TypeDesc} {i : TypeInfo} {z : AVal} (ht : P.underlying t = some (.slice e)) (hu : P.underlying u = some d) (hd : d = .string ∨ ∃ e', d = .slice e') (hi : P.info? e = some i)
    (hz : zeroP P e = some z) (hzl : z.cells.length = i.size) (hpos : 0 < i.size) {x y v : AVal} {p q : Value} {h' : AHeap} (hx : VRel ι x p) (hy : VRel ι y q) (ha : appendTo I h i.size i.bytes x y = some (v, h')) :
    ∃ u' w' ι', (Builtin.append_ #[t, u] ty #[p, q]).run P w = .ok u' w' ∧ VRel ι' v u' ∧ Step W ι h w ι' h' w' := by
  obtain ⟨i', zv, hi', hzv, hzrel⟩ := zeroP_spec hz
  rw [hi] at hi'; cases hi'
  have hzs : zv.cells.size = i.size := by
    have := (hzrel ι).cells.length
    simp only [Array.length_toList] at this
    omega
  unfold appendTo at ha
  split at ha
  · cases ha
  rename_i n news hs
  split at ha
  · -- nothing is appended
    have hlen0 : (Builtin.lenOf q).run P w = .ok 0 w ∧ (Builtin.firstCells i.size 0 q).run P w = .ok ([] : List Value).toArray w := by
      unfold srcCells at hs
      split at hs
      · rw [inv_nils hy]; simp [Builtin.lenOf, Builtin.firstCells]
      · split at hs
        · cases hs
          obtain ⟨a, c, rfl, _⟩ := inv_sl hy
          exact ⟨by simp [Builtin.lenOf], run_firstCells_some w i.size 0 a 0 c [] (by simp) (by simp)⟩
        · cases hs
      · split at hs
        · rename_i s _ _
          simp only [Option.some.injEq, Prod.mk.injEq] at hs
          obtain ⟨s', rfl, hs1⟩ := inv_str hy
          have hsz0 : s'.size = 0 := by
            have h1 := congrArg List.length hs1
            have h2 : s.length = s'.size := by simpa using h1
            omega
          have he : s'.extract 0 0 = .empty := by simp
          exact ⟨by simp [Builtin.lenOf, hsz0], by simp [Builtin.firstCells]⟩
        · cases hs
      · cases hs
    split at ha
    · cases ha
      rw [inv_nils hx]
      have : (Builtin.append_ #[t, u] ty #[.slice none 0 0, q]).run P w = .ok (.slice none 0 0) w := by
        rcases hd with rfl | ⟨e', rfl⟩ <;> simp [Builtin.append_, run_underlying ht, run_underlying hu, run_sizeOf' hi, hlen0.1, hlen0.2]
      exact ⟨_, _, _, this, .nils, Step.refl r⟩
    · cases ha
      obtain ⟨a, c, rfl, hlc, hat, hok⟩ := inv_sl hx
      have := run_append_room' (ty := ty) ht hu hd hi (a := a) (sCap := c) hlen0.1 hlen0.2 (by omega) (w' := w) rfl
      exact ⟨_, _, _, this, hx, Step.refl r⟩
    · cases ha
  · rename_i n
    split at ha
    · cases ha
    rename_i hone
    obtain ⟨us, hus, hul, hrun⟩ := src_sound (P := P) hI r hs hy (by omega)
    split at ha
    · -- onto nil
      split at ha
      · rename_i hc
        cases ha
        simp only [Bool.and_eq_true] at hc
        obtain ⟨⟨hr, hb⟩, hb2⟩ := hc
        rw [inv_nils hx]
        have hb' := Nat.le_of_ble_eq_true hb
        have hb2' := Nat.le_of_ble_eq_true hb2
        simp only [bigRoom] at hb' hb2'
        have := run_append_grow' (ty := ty) ht hu hd hi hzv (base := none) (sLen := 0) (sCap := 0) (n := n + 1) (olds := []) (hrun w rfl).1 (hrun w.drew rfl).2 (by simp [Builtin.firstCells]) (by omega) (by omega) (by simpa using hb')
        obtain ⟨ι', hv, hst⟩ := grow_step (plain := true) (e := e) (sz := i.size) (need := n + 1) (c := grownCap w (0 + (n + 1)) 0 e) (rest := Builtin.zeroCells zv.cells (grownCap w (0 + (n + 1)) 0 e - (0 + (n + 1)))) r hr (.nil) hus
          (by rw [List.length_nil, Nat.zero_add, hus.length, hul]) (by rw [zeroCells_size, hzs]; simp) (by have := grownCap_ge w (0 + (n + 1)) 0 e; omega) hpos (grownCap_le_maxLen w _ _ e (by unfold maxLen; omega))
        rw [Nat.zero_add] at this hv hst
        exact ⟨_, _, _, this, hv, by simpa using hst⟩
      · cases ha
    · rename_i l o len cap
      obtain ⟨a, c, rfl, hlc, hat, hok⟩ := inv_sl hx
      split at ha
      · cases ha
      rename_i hc
      simp only [Bool.and_eq_true] at hc
      have hb1 := Nat.le_of_ble_eq_true hc.1
      have hb2 := Nat.le_of_ble_eq_true hc.2
      simp only [bigRoom] at hb1 hb2
      split at ha
      · -- the capacity is known
        rename_i c'
        have hcc : c = c' := hok
        subst hcc
        split at ha
        · rename_i hle
          have hle' := Nat.le_of_ble_eq_true hle
          split at ha
          · rename_i k
            split at ha
            · rename_i b hk
              split at ha
              · rename_i b' hw
                cases ha
                have hat' := Loc.at_add (k := len * i.size) (hat (by omega))
                obtain ⟨w', hst, hstep⟩ := wr_sound P r hk hw hat' hus
                have := run_append_room' (ty := ty) ht hu hd hi (a := a) (sCap := c) (hrun w rfl).1 (hrun w rfl).2 hle' hst
                exact ⟨_, _, _, this, .sl _ _ _ _ _ _ hle' hat rfl, hstep⟩
              · cases ha
            · cases ha
          · cases ha
        · rename_i hle
          have hgt : c < len + (n + 1) := by
            rcases Nat.lt_or_ge c (len + (n + 1)) with h1 | h1
            · exact h1
            · have := Nat.ble_eq_true_of_le h1; rw [this] at hle; cases hle
          split at ha
          · rename_i olds ho hr
            split at ha
            · cases ha
              have hold : ∃ uo : List Value, VRels ι olds uo ∧ uo.length = len * i.size ∧ (Builtin.firstCells i.size len (.slice (some a) len c)).run P w.drew = .ok uo.toArray w.drew := by
                rcases Nat.eq_zero_or_pos c with h0 | h0
                · have hl0 : len = 0 := by omega
                  subst hl0
                  have hol : olds = [] := by
                    have : olds.length = 0 := by
                      cases l with
                      | inp b => simp only [rds, Nat.zero_mul, rdsInp, Option.some.injEq] at ho; subst ho; rfl
                      | own k =>
                        simp only [rds] at ho
                        split at ho
                        · cases ho
                        · split at ho
                          · cases ho; simp
                          · cases ho
                    exact List.length_eq_zero_iff.1 this
                  subst hol
                  exact ⟨[], .nil, by simp, run_firstCells_some w.drew i.size 0 a 0 c [] (by simp) (by simp)⟩
                · obtain ⟨hl, uo, hro, hco⟩ := rds_sound hI r ho (hat h0)
                  exact ⟨uo, hro, by rw [← hro.length, hl], run_firstCells_some w.drew i.size len a len c uo (by rw [← hro.length, hl]) hco⟩
              obtain ⟨uo, hro, hlo, hfo⟩ := hold
              have := run_append_grow' (ty := ty) ht hu hd hi hzv (base := some a) (sLen := len) (sCap := c) (n := n + 1) (olds := uo) (hrun w rfl).1 (hrun w.drew rfl).2 hfo hgt hb2 hb1
              obtain ⟨ι', hv, hst⟩ := grow_step (plain := true) (e := e) (sz := i.size) (need := len + (n + 1)) (c := grownCap w (len + (n + 1)) c e) (rest := Builtin.zeroCells zv.cells (grownCap w (len + (n + 1)) c e - (len + (n + 1)))) r hr hro hus
                (by rw [hro.length, hlo, hus.length, hul, ← Nat.add_mul]) (by rw [zeroCells_size, hzs]) (grownCap_ge w _ _ e) hpos (grownCap_le_maxLen w _ _ e (by unfold maxLen; omega))
              exact ⟨_, _, _, this, hv, hst⟩
            · cases ha
          · cases ha
      · -- it was grown
        rename_i s
        split at ha
        · cases ha
        · rename_i k
          split at ha
          · cases ha
          · rename_i b hk
            split at ha
            · cases ha
            · rename_i hc2
              simp only [Bool.and_eq_true, Nat.beq_eq] at hc2
              obtain ⟨rfl, hble⟩ := hc2
              have hble' := Nat.le_of_ble_eq_true hble
              obtain ⟨k', pl, hkk, hp, hn1, hn2, _, hcm⟩ := hok
              cases hkk
              obtain ⟨pl', hp', hbase, hblk⟩ := r.own k b hk
              rw [hp] at hp'; cases hp'
              obtain ⟨cs, e2, fz, hg, hz0, hplain, hroom, hnr, hlb, hcells⟩ := hblk.cells (by omega)
              split at ha
              · -- within what is known
                rename_i hin
                have hin' := Nat.le_of_ble_eq_true hin
                split at ha
                · rename_i b' hw
                  cases ha
                  have hnl := hus.length
                  have hul' : us.length = (n + 1) * i.size := hul
                  have hfit : len + (n + 1) ≤ c := by
                    rcases Nat.lt_or_ge c (len + (n + 1)) with h1 | h1
                    · have : (c + 1) * i.size ≤ (len + (n + 1)) * i.size := Nat.mul_le_mul_right _ h1
                      rw [Nat.add_mul, Nat.one_mul] at this
                      rw [Nat.add_mul] at this
                      omega
                    · exact h1
                  have hat' := Loc.at_add (k := len * i.size) (hat (by omega))
                  obtain ⟨w', hst, hstep⟩ := wr_sound P r hk hw hat' hus
                  have := run_append_room' (ty := ty) ht hu hd hi (a := a) (sCap := c) (hrun w rfl).1 (hrun w rfl).2 hfit hst
                  exact ⟨_, _, _, this, .sl _ _ _ _ _ _ hfit hat ⟨k, pl, rfl, hp, hn1, hn2, hpos, hcm⟩, hstep⟩
                · cases ha
              · -- beyond it: in place or not, nobody knows
                split at ha
                · rename_i hc3
                  cases ha
                  simp only [Bool.and_eq_true] at hc3
                  obtain ⟨hr, hone2⟩ := hc3
                  have holds : rds I h (.own k) o (len * i.size) = some ((b.cells.drop o).take (len * i.size)) := by
                    simp only [rds, hk, hble]
                  rcases Nat.lt_or_ge c (len + (n + 1)) with hgt | hfit
                  · -- a new array
                    have hold : ∃ uo : List Value, VRels ι ((b.cells.drop o).take (len * i.size)) uo ∧ uo.length = len * i.size ∧ (Builtin.firstCells i.size len (.slice (some a) len c)).run P w.drew = .ok uo.toArray w.drew := by
                      rcases Nat.eq_zero_or_pos c with h0 | h0
                      · have hl0 : len = 0 := by omega
                        subst hl0
                        exact ⟨[], by simpa using VRels.nil, by simp, run_firstCells_some w.drew i.size 0 a 0 c [] (by simp) (by simp)⟩
                      · obtain ⟨hl, uo, hro, hco⟩ := rds_sound hI r holds (hat h0)
                        exact ⟨uo, hro, by rw [← hro.length, hl], run_firstCells_some w.drew i.size len a len c uo (by rw [← hro.length, hl]) hco⟩
                    obtain ⟨uo, hro, hlo, hfo⟩ := hold
                    have := run_append_grow' (ty := ty) ht hu hd hi hzv (base := some a) (sLen := len) (sCap := c) (n := n + 1) (olds := uo) (hrun w rfl).1 (hrun w.drew rfl).2 hfo hgt hb2 hb1
                    have hkill := kill_sound r hk
                    obtain ⟨ι', hv, hst⟩ := grow_step (plain := b.plain) (e := e) (sz := i.size) (need := len + (n + 1)) (c := grownCap w (len + (n + 1)) c e) (rest := Builtin.zeroCells zv.cells (grownCap w (len + (n + 1)) c e - (len + (n + 1)))) hkill.rep hr hro hus
                      (by rw [hro.length, hlo, hus.length, hul, ← Nat.add_mul]) (by rw [zeroCells_size, hzs]) (grownCap_ge w _ _ e) hpos (grownCap_le_maxLen w _ _ e (by unfold maxLen; omega))
                    exact ⟨_, _, _, this, hv, hkill.trans hst⟩
                  · -- in place
                    have ha0 := hat (by omega)
                    obtain ⟨pl2, hp2, _, rfl⟩ := ha0
                    rw [hp] at hp2
                    cases hp2
                    have hc1 : (len + (n + 1)) * i.size ≤ c * i.size := Nat.mul_le_mul_right _ hfit
                    have hc2 : (len + (n + 1)) * i.size = len * i.size + us.length := by rw [hul, Nat.add_mul]
                    have hfz := run_storeCells_fz P pl.blk (pl.off + o + len * i.size) e2 fz us 0 cs w hg hz0 (by omega) (hus.one hone)
                    have hst : (storeCells ((⟨pl.blk, pl.off + o, none⟩ : Addr).add (len * i.size)) us).run P w = .ok () (w.setRow pl.blk (setR cs.toList (pl.off + o + len * i.size + 0) us).toArray) := by
                      rw [addr_add]; exact hfz
                    have := run_append_room' (ty := ty) ht hu hd hi (a := ⟨pl.blk, pl.off + o, none⟩) (sCap := c) (hrun w rfl).1 (hrun w rfl).2 hfit hst
                    have hfit2 : pl.off + o + len * i.size + 0 + us.length ≤ cs.toList.length := by simp; omega
                    have hol : ((b.cells.drop o).take (len * i.size)).length = len * i.size := by simp; omega
                    have hstep := take_over (b' := ⟨(b.cells.drop o).take (len * i.size) ++ news, b.plain⟩) (cs' := (setR cs.toList (pl.off + o + len * i.size + 0) us).toArray) (off := pl.off + o) (n := (len + (n + 1)) * i.size) (room := pl.room - o) r hr hk hp hbase hg hz0 hplain
                      (by rw [List.size_toArray, setR_length hfit2]; simp) (by omega) (by omega) (by simp only [List.length_append, hol, hus.length]; omega)
                      (fun j v hv => by
                        rw [List.getElem?_toArray, setR_get hfit2]
                        by_cases hj : j < len * i.size
                        · rw [List.getElem?_append_left (by omega), List.getElem?_take_of_lt hj, List.getElem?_drop] at hv
                          rw [if_neg (by omega), Array.getElem?_toList, Nat.add_assoc]
                          exact hcells (o + j) v hv
                        · rw [List.getElem?_append_right (by omega), hol] at hv
                          have hj2 : j - len * i.size < us.length := by
                            have := (List.getElem?_eq_some_iff.1 hv).1
                            rw [hus.length] at this; exact this
                          obtain ⟨u, hu1, hr1⟩ := hus.get hv
                          rw [if_pos (by omega)]
                          exact ⟨u, by rw [← hu1]; congr 1; omega, hr1⟩)
                    exact ⟨_, _, _, this, .sl _ _ _ _ _ _ hfit (fun _ => ⟨_, Map.add_self _ _ _, by show (len + (n + 1)) * i.size ≤ pl.room - o; omega, rfl⟩) ⟨_, _, rfl, Map.add_self _ _ _, by show (len + (n + 1)) * i.size ≤ 0 + c * i.size; omega, by show 0 + c * i.size ≤ pl.room - o; omega, hpos, hcm⟩, hstep⟩
                · cases ha
    · cases ha
end

end

end Go.AM
