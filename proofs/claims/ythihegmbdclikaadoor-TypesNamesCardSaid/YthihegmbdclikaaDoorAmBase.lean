/- AM, part 1: the abstract machine's values, tries, heaps; how they stand for the model's values and worlds. Conditions: none (definitions and lemmas). -/
import Derived.Orders
import Derived.LoopN
import Derived.Below
import Derived.Laws.MakeOwn
import Derived.WalkKit
namespace Go.AM
noncomputable section
open Go.RowKit

/-- A block: of the world at the call's begin (by its number), or made by the call (by an abstract number). -/
inductive Loc where
  | inp (b : Nat)
  | own (k : Nat)
  deriving DecidableEq, Inhabited

/-- A slice's capacity: it is known; or the slice was grown by append (its element has 'sz' cells) and reaches at least to the end of the known cells of its block. -/
inductive Cap where
  | known (c : Nat)
  | grown (sz : Nat)
  deriving DecidableEq, Inhabited

/-- Abstract values. A string is its bytes. 'sl l o len cap': a slice that is not nil: at cell 'o' of block 'l', 'len' elements; its capacity. -/
inductive AVal where
  | bool (b : Bool)
  | int (k : IntKind) (n : Int)
  | str (s : List Nat)
  | nilp
  | ptr (l : Loc) (o : Nat)
  | nils
  | sl (l : Loc) (o len : Nat) (cap : Cap)
  | nilf
  | func (fn : Fn) (first captured : List AVal)
  | nili
  | iface (t : TypeId) (v : AVal)
  | agg (cs : List AVal)
  | tuple (vs : List AVal)
  | nilm
  | map (k : Nat)
  | lin (cs : List Int) (c : Int)
  deriving Inhabited

abbrev aundef : AVal := .tuple []

def AVal.cells : AVal → List AVal
  | .agg cs => cs
  | v => [v]

/-! ### tries -/
inductive Tr (α : Type) where
  | nil
  | node (v : Option α) (l r : Tr α)
  deriving Inhabited

/- by recursors: the kernel reduces these quickest -/
def Tr.get {α : Type} (t : Tr α) : Nat → Option α :=
  Tr.rec (motive := fun _ => Nat → Option α) (fun _ => none) (fun v _ _ ihl ihr n => Bool.rec (Bool.rec (ihr (Nat.sub (Nat.div n 2) 1)) (ihl (Nat.div n 2)) (Nat.beq (Nat.mod n 2) 1)) v (Nat.beq n 0)) t

def Tr.put {α : Type} (d : Nat) : Tr α → Nat → Option α → Tr α :=
  Nat.rec (motive := fun _ => Tr α → Nat → Option α → Tr α) (fun t _ _ => t) (fun _ ih t n x =>
    Tr.rec (motive := fun _ => Tr α)
      (Bool.rec (Bool.rec (.node none .nil (ih .nil (Nat.sub (Nat.div n 2) 1) x)) (.node none (ih .nil (Nat.div n 2) x) .nil) (Nat.beq (Nat.mod n 2) 1)) (.node x .nil .nil) (Nat.beq n 0))
      (fun v l r _ _ => Bool.rec (Bool.rec (.node v l (ih r (Nat.sub (Nat.div n 2) 1) x)) (.node v (ih l (Nat.div n 2) x) r) (Nat.beq (Nat.mod n 2) 1)) (.node x l r) (Nat.beq n 0)) t) d

theorem beq_if {β : Type} (a b : β) (n m : Nat) : (Bool.rec a b (Nat.beq n m) : β) = if n = m then b else a := by
  by_cases h : n = m
  · have : Nat.beq n m = true := by rw [h]; simp
    rw [this, if_pos h]
  · have : Nat.beq n m = false := by cases hh : Nat.beq n m <;> simp_all
    rw [this, if_neg h]

theorem Tr.get_nil {α : Type} (n : Nat) : (Tr.nil : Tr α).get n = none := rfl
theorem Tr.get_node {α : Type} (v : Option α) (l r : Tr α) (n : Nat) :
    (Tr.node v l r).get n = if n = 0 then v else if n % 2 = 1 then l.get (n / 2) else r.get (n / 2 - 1) := by
  show (Bool.rec (Bool.rec (r.get (n / 2 - 1)) (l.get (n / 2)) (Nat.beq (n % 2) 1)) v (Nat.beq n 0) : Option α) = _
  rw [beq_if, beq_if]

def Tr.top {α : Type} : Tr α → Option α × Tr α × Tr α
  | .nil => (none, .nil, .nil)
  | .node v l r => (v, l, r)

theorem Tr.get_top {α : Type} (t : Tr α) (n : Nat) :
    t.get n = if n = 0 then t.top.1 else if n % 2 = 1 then t.top.2.1.get (n / 2) else t.top.2.2.get (n / 2 - 1) := by
  cases t with
  | nil => simp [Tr.top, Tr.get_nil]
  | node v l r => simp [Tr.top, Tr.get_node]

theorem Tr.put_succ {α : Type} (f : Nat) (t : Tr α) (n : Nat) (x : Option α) :
    Tr.put (f + 1) t n x = if n = 0 then .node x t.top.2.1 t.top.2.2 else if n % 2 = 1 then .node t.top.1 (Tr.put f t.top.2.1 (n / 2) x) t.top.2.2
      else .node t.top.1 t.top.2.1 (Tr.put f t.top.2.2 (n / 2 - 1) x) := by
  cases t with
  | nil =>
    show (Bool.rec (Bool.rec (.node none .nil (Tr.put f .nil (n / 2 - 1) x)) (.node none (Tr.put f .nil (n / 2) x) .nil) (Nat.beq (n % 2) 1)) (.node x .nil .nil) (Nat.beq n 0) : Tr α) = _
    rw [beq_if, beq_if]; rfl
  | node v l r =>
    show (Bool.rec (Bool.rec (.node v l (Tr.put f r (n / 2 - 1) x)) (.node v (Tr.put f l (n / 2) x) r) (Nat.beq (n % 2) 1)) (.node x l r) (Nat.beq n 0) : Tr α) = _
    rw [beq_if, beq_if]; rfl

theorem Tr.get_put {α : Type} : ∀ (f : Nat) (t : Tr α) (n m : Nat) (x : Option α), n + 1 < 2 ^ f →
    (Tr.put f t n x).get m = if m = n then x else t.get m := by
  intro f
  induction f with
  | zero => intro t n m x h; simp at h
  | succ f ih =>
    intro t n m x h
    have h2 : 2 ^ (f + 1) = 2 * 2 ^ f := by rw [Nat.pow_succ]; omega
    rw [Tr.put_succ, Tr.get_top t m]
    by_cases hn : n = 0
    · subst hn
      simp only [if_true, Tr.get_node]
      by_cases hm : m = 0
      · simp [hm]
      · simp [hm]
    · rw [if_neg hn]
      by_cases hn1 : n % 2 = 1
      · rw [if_pos hn1]
        simp only [Tr.get_node]
        by_cases hm : m = 0
        · subst hm; simp [show ¬ (0 = n) from fun e => hn e.symm]
        · simp only [if_neg hm]
          by_cases hm1 : m % 2 = 1
          · simp only [if_pos hm1]
            rw [ih _ _ _ _ (by omega)]
            by_cases he : m = n
            · simp [he]
            · rw [if_neg he, if_neg (by omega)]
          · simp only [if_neg hm1]
            rw [if_neg (by intro e; subst e; exact hm1 hn1)]
      · rw [if_neg hn1]
        simp only [Tr.get_node]
        by_cases hm : m = 0
        · subst hm; simp [show ¬ (0 = n) from fun e => hn e.symm]
        · simp only [if_neg hm]
          by_cases hm1 : m % 2 = 1
          · simp only [if_pos hm1]
            rw [if_neg (by intro e; subst e; exact hn1 hm1)]
          · simp only [if_neg hm1]
            rw [ih _ _ _ _ (by omega)]
            by_cases he : m = n
            · simp [he]
            · rw [if_neg he, if_neg (by omega)]

/-! ### heaps and frames -/
/-- A block's cells; 'plain': it was made by no conversion of a string. -/
structure Blk where
  cells : List AVal
  plain : Bool := true
  deriving Inhabited

abbrev depthF : Nat := 14

structure AHeap where
  t : Tr Blk
  next : Nat
  deriving Inhabited

def AHeap.get (h : AHeap) (k : Nat) : Option Blk := h.t.get k
/-- There is room always: a trie is as deep as it must be. -/
def AHeap.room (_ : AHeap) : Bool := true
theorem lt_pow_self (n : Nat) : n + 1 < 2 ^ (n + 2) := by
  induction n with
  | zero => decide
  | succ n ih => rw [Nat.pow_succ]; omega
def AHeap.set (h : AHeap) (k : Nat) (b : Blk) : AHeap := ⟨Tr.put (k + 2) h.t k (some b), h.next⟩
def AHeap.kill (h : AHeap) (k : Nat) : AHeap := ⟨Tr.put (k + 2) h.t k none, h.next⟩
def AHeap.alloc (h : AHeap) (b : Blk) : AHeap := ⟨Tr.put (h.next + 2) h.t h.next (some b), h.next + 1⟩

theorem AHeap.get_set {h : AHeap} {k : Nat} {b : Blk} (m : Nat) : (h.set k b).get m = if m = k then some b else h.get m := by
  unfold AHeap.set AHeap.get
  exact Tr.get_put (k + 2) h.t k m (some b) (lt_pow_self k)
theorem AHeap.get_kill {h : AHeap} {k : Nat} (m : Nat) : (h.kill k).get m = if m = k then none else h.get m := by
  unfold AHeap.kill AHeap.get
  exact Tr.get_put (k + 2) h.t k m none (lt_pow_self k)
theorem AHeap.get_alloc {h : AHeap} {b : Blk} (m : Nat) : (h.alloc b).get m = if m = h.next then some b else h.get m := by
  unfold AHeap.alloc AHeap.get
  exact Tr.get_put (h.next + 2) h.t h.next m (some b) (lt_pow_self h.next)

abbrev Fr := Tr AVal
def Fr.get (f : Fr) (t : Nat) : AVal := (Tr.get f t).getD aundef
def Fr.put (f : Fr) (t : Nat) (v : AVal) : Fr := Tr.put depthF f t (some v)
theorem Fr.get_put {f : Fr} {t : Nat} {v : AVal} (ht : t + 1 < 2 ^ depthF) (m : Nat) : (f.put t v).get m = if m = t then v else f.get m := by
  unfold Fr.get Fr.put
  rw [Tr.get_put _ _ _ _ _ ht]
  by_cases h : m = t <;> simp [h]

/-! ### how they stand for the model's -/
/-- Where a block of the call's own lies: its first abstract cell is cell 'off' of block 'blk'; 'n' cells are known, 'room' cells there are. -/
structure Pl where
  blk : Nat
  off : Nat
  n : Nat
  room : Nat

abbrev Map := Nat → Option Pl

/-- What comes from without: numbers, by their places; where the blocks lie that are known by odd numbers (an even number is twice a block's own). -/
class Sig where
  val : Nat → Int
  far : Nat → Nat × Nat
instance (priority := low) Sig.zero : Sig := ⟨fun _ => 0, fun _ => (0, 0)⟩
def place [Sig] (k : Nat) : Nat × Nat := if k % 2 = 0 then (k / 2, 0) else Sig.far (k / 2)
theorem place_even [Sig] (b : Nat) : place (2 * b) = (b, 0) := by
  unfold place
  rw [if_pos (by omega)]
  congr 1; omega
theorem place_odd [Sig] (b : Nat) : place (2 * b + 1) = Sig.far b := by
  unfold place
  rw [if_neg (by omega)]
  congr 1; omega

def Loc.at [Sig] (ι : Map) (l : Loc) (o : Nat) (a : Addr) : Prop :=
  match l with
  | .inp b => a = ⟨(place b).1, (place b).2 + o, none⟩
  | .own k => ∃ pl, ι k = some pl ∧ a = ⟨pl.blk, pl.off + o, none⟩

def capOk (ι : Map) (l : Loc) (o c : Nat) : Cap → Prop
  | .known c' => c = c'
  | .grown sz => ∃ k pl, l = .own k ∧ ι k = some pl ∧ pl.n ≤ o + c * sz ∧ o + c * sz ≤ pl.room ∧ 0 < sz

/-- A sum of so many of each number from the i-th on. -/
def dotFrom [Sig] : List Int → Nat → Int
  | [], _ => 0
  | a :: r, i => a * Sig.val i + dotFrom r (i + 1)

set_option linter.unusedSectionVars false
variable [Sig]
mutual
inductive VRel (ι : Map) : AVal → Value → Prop where
  | bool (b : Bool) : VRel ι (.bool b) (.bool b)
  | int (k : IntKind) (n : Int) : VRel ι (.int k n) (.int k n)
  | str (s : ByteArray) (l : List Nat) : l = s.data.toList.map UInt8.toNat → VRel ι (.str l) (.string s)
  | nilp : VRel ι .nilp (.pointer none)
  | ptr (l : Loc) (o : Nat) (a : Addr) : l.at ι o a → VRel ι (.ptr l o) (.pointer (some a))
  | nils : VRel ι .nils (.slice none 0 0)
  | sl (l : Loc) (o len : Nat) (cap : Cap) (a : Addr) (c : Nat) : len ≤ c → (0 < c → l.at ι o a) → capOk ι l o c cap →
      VRel ι (.sl l o len cap) (.slice (some a) len c)
  | nilf : VRel ι .nilf .nilFunc
  | func (fn : Fn) (f c : List AVal) (f' c' : Array Value) : VRels ι f f'.toList → VRels ι c c'.toList → VRel ι (.func fn f c) (.func fn f' c')
  | nili : VRel ι .nili .nilIface
  | iface (t : TypeId) (v : AVal) (u : Value) : VRel ι v u → VRel ι (.iface t v) (.iface t u)
  | agg (cs : List AVal) (us : Array Value) : VRels ι cs us.toList → VRel ι (.agg cs) (.agg us)
  | tuple (cs : List AVal) (us : Array Value) : VRels ι cs us.toList → VRel ι (.tuple cs) (.tuple us)
  | nilm : VRel ι .nilm (.map none)
  | lin (cs : List Int) (c : Int) : VRel ι (.lin cs c) (.int .i64 (IntKind.i64.wrap (c + dotFrom cs 0)))
inductive VRels (ι : Map) : List AVal → List Value → Prop where
  | nil : VRels ι [] []
  | cons {v : AVal} {u : Value} {vs : List AVal} {us : List Value} : VRel ι v u → VRels ι vs us → VRels ι (v :: vs) (u :: us)
end

def Map.le (ι ι' : Map) : Prop := ∀ k pl, ι k = some pl → ι' k = some pl
theorem Map.le_refl (ι : Map) : ι.le ι := fun _ _ h => h
theorem Map.le_trans {a b c : Map} (h : a.le b) (h' : b.le c) : a.le c := fun k pl hk => h' k pl (h k pl hk)

theorem Loc.at_mono {ι ι' : Map} (h : ι.le ι') {l : Loc} {o : Nat} {a : Addr} (ha : l.at ι o a) : l.at ι' o a := by
  cases l with
  | inp b => exact ha
  | own k => obtain ⟨pl, hp, e⟩ := ha; exact ⟨pl, h _ _ hp, e⟩
theorem capOk_mono {ι ι' : Map} (h : ι.le ι') {l : Loc} {o c : Nat} {cap : Cap} (hc : capOk ι l o c cap) : capOk ι' l o c cap := by
  cases cap with
  | known c' => exact hc
  | grown sz => obtain ⟨k, pl, e, hp, h1, h2⟩ := hc; exact ⟨k, pl, e, h _ _ hp, h1, h2⟩

mutual
theorem VRel.mono {ι ι' : Map} (h : ι.le ι') : ∀ {v : AVal} {u : Value}, VRel ι v u → VRel ι' v u
  | _, _, .bool b => .bool b
  | _, _, .int k n => .int k n
  | _, _, .str s l e => .str s l e
  | _, _, .nilp => .nilp
  | _, _, .ptr l o a ha => .ptr l o a (Loc.at_mono h ha)
  | _, _, .nils => .nils
  | _, _, .sl l o len cap a c h1 h2 h3 => .sl l o len cap a c h1 (fun hc => Loc.at_mono h (h2 hc)) (capOk_mono h h3)
  | _, _, .nilf => .nilf
  | _, _, .func fn f c f' c' h1 h2 => .func fn f c f' c' (VRels.mono h h1) (VRels.mono h h2)
  | _, _, .nili => .nili
  | _, _, .iface t v u hv => .iface t v u (VRel.mono h hv)
  | _, _, .agg cs us hs => .agg cs us (VRels.mono h hs)
  | _, _, .tuple cs us hs => .tuple cs us (VRels.mono h hs)
  | _, _, .nilm => .nilm
  | _, _, .lin cs c => .lin cs c
theorem VRels.mono {ι ι' : Map} (h : ι.le ι') : ∀ {vs : List AVal} {us : List Value}, VRels ι vs us → VRels ι' vs us
  | _, _, .nil => .nil
  | _, _, .cons hv hs => .cons (VRel.mono h hv) (VRels.mono h hs)
end

theorem VRels.length {ι : Map} : ∀ {vs : List AVal} {us : List Value}, VRels ι vs us → vs.length = us.length
  | _, _, .nil => rfl
  | _, _, .cons _ hs => by simp [VRels.length hs]
theorem VRels.get {ι : Map} : ∀ {vs : List AVal} {us : List Value}, VRels ι vs us → ∀ {i : Nat} {v : AVal}, vs[i]? = some v → ∃ u, us[i]? = some u ∧ VRel ι v u
  | _, _, .nil, i, v, h => by simp at h
  | _, _, .cons hv hs, i, v, h => by
    cases i with
    | zero => simp at h; subst h; exact ⟨_, rfl, hv⟩
    | succ i => simp at h; obtain ⟨u, hu, hr⟩ := VRels.get hs h; exact ⟨u, by simpa using hu, hr⟩
theorem VRels.append {ι : Map} : ∀ {vs : List AVal} {us : List Value} {vs' : List AVal} {us' : List Value}, VRels ι vs us → VRels ι vs' us' → VRels ι (vs ++ vs') (us ++ us')
  | _, _, _, _, .nil, h => h
  | _, _, _, _, .cons hv hs, h => .cons hv (VRels.append hs h)
theorem VRels.take {ι : Map} : ∀ {vs : List AVal} {us : List Value} (n : Nat), VRels ι vs us → VRels ι (vs.take n) (us.take n)
  | _, _, 0, _ => by simpa using VRels.nil
  | _, _, n + 1, .nil => by simpa using VRels.nil
  | _, _, n + 1, .cons hv hs => by simpa using VRels.cons hv (VRels.take n hs)
theorem VRels.drop {ι : Map} : ∀ {vs : List AVal} {us : List Value} (n : Nat), VRels ι vs us → VRels ι (vs.drop n) (us.drop n)
  | _, _, 0, h => by simpa using h
  | _, _, n + 1, .nil => by simpa using VRels.nil
  | _, _, n + 1, .cons hv hs => by simpa using VRels.drop n hs
theorem VRels.of_get {ι : Map} : ∀ {vs : List AVal} {us : List Value}, vs.length = us.length → (∀ (i : Nat) v u, vs[i]? = some v → us[i]? = some u → VRel ι v u) → VRels ι vs us
  | [], [], _, _ => .nil
  | [], _ :: _, h, _ => by simp at h
  | _ :: _, [], h, _ => by simp at h
  | v :: vs, u :: us, h, hh => .cons (hh 0 v u rfl rfl) (VRels.of_get (by simpa using h) fun i v' u' h1 h2 => hh (i + 1) v' u' (by simpa using h1) (by simpa using h2))

theorem VRel.cells {ι : Map} {v : AVal} {u : Value} (h : VRel ι v u) : VRels ι v.cells u.cells.toList := by
  cases h <;> first
    | (rename_i hs; exact hs)
    | (simp only [AVal.cells, Value.cells]; exact .cons (by constructor <;> assumption) .nil)
    | (simp only [AVal.cells, Value.cells]; exact .cons (by assumption) .nil)

end

end Go.AM
