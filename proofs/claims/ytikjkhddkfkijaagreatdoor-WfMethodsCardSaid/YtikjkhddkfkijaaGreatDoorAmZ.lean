/- The abstract machine AM, merged, part 2: a deterministic evaluator of the program that is proved sound for the model. Conditions: as each lemma says. -/
import Derived.Test.YtikjkhddkfkijaaGreatDoorAmB
import Derived.Deep.Slices
/- AM, part 29: what lies at addresses, from a heap on: cells, slices, structs; programs that came in. Conditions: as each lemma says. -/
namespace Go.AM
noncomputable section
open Go.RowKit Go.WideShapes Go.ChangeShapes

/-! ### cells, slices, structs -/
section
variable {α β : Type} {I : Inp} {h0 h1 : AHeap}
/-- The cells lie from that address on, in this heap and all later ones. -/
def Cells (I : Inp) (h0 : AHeap) (l : Loc) (o : Nat) (cs : List AVal) : Prop := ∀ g, Ext h0 g → ∀ i v, cs[i]? = some v → rd I g l (o + i) = some v
theorem Cells.mono {l : Loc} {o : Nat} {cs : List AVal} (c : Cells I h0 l o cs) (e : Ext h0 h1) : Cells I h1 l o cs := fun g x => c g (e.trans x)
theorem Cells.rd {l : Loc} {o : Nat} {cs : List AVal} (c : Cells I h0 l o cs) (g : AHeap) (i : Nat) (e : Ext h0 g) (hi : i < cs.length) : AM.rd I g l (o + i) = cs[i]? := by
  rw [List.getElem?_eq_getElem hi]
  exact c g e i _ (List.getElem?_eq_getElem hi)
theorem Cells.rd0 {l : Loc} {o : Nat} {v : AVal} {cs : List AVal} (c : Cells I h0 l o (v :: cs)) (g : AHeap) (e : Ext h0 g) : AM.rd I g l o = some v := c g e 0 v rfl
theorem Cells.rd1 {l : Loc} {o : Nat} {v0 v1 : AVal} {cs : List AVal} (c : Cells I h0 l o (v0 :: v1 :: cs)) (g : AHeap) (e : Ext h0 g) : AM.rd I g l (o + 1) = some v1 := c g e 1 v1 rfl
theorem Cells.rd2 {l : Loc} {o : Nat} {v0 v1 v2 : AVal} {cs : List AVal} (c : Cells I h0 l o (v0 :: v1 :: v2 :: cs)) (g : AHeap) (e : Ext h0 g) : AM.rd I g l (o + 2) = some v2 := c g e 2 v2 rfl
theorem Cells.rd3 {l : Loc} {o : Nat} {v0 v1 v2 v3 : AVal} {cs : List AVal} (c : Cells I h0 l o (v0 :: v1 :: v2 :: v3 :: cs)) (g : AHeap) (e : Ext h0 g) : AM.rd I g l (o + 3) = some v3 := c g e 3 v3 rfl
theorem Cells.rd4 {l : Loc} {o : Nat} {v0 v1 v2 v3 v4 : AVal} {cs : List AVal} (c : Cells I h0 l o (v0 :: v1 :: v2 :: v3 :: v4 :: cs)) (g : AHeap) (e : Ext h0 g) : AM.rd I g l (o + 4) = some v4 := c g e 4 v4 rfl
theorem Cells.rd5 {l : Loc} {o : Nat} {v0 v1 v2 v3 v4 v5 : AVal} {cs : List AVal} (c : Cells I h0 l o (v0 :: v1 :: v2 :: v3 :: v4 :: v5 :: cs)) (g : AHeap) (e : Ext h0 g) : AM.rd I g l (o + 5) = some v5 := c g e 5 v5 rfl
theorem rdsInp_of {b : Nat} : ∀ {vs : List AVal} {o : Nat}, (∀ i v, vs[i]? = some v → I b (o + i) = some v) → rdsInp I b o vs.length = some vs
  | [], _, _ => rfl
  | v :: vs, o, h => by
    have h0 := h 0 v rfl
    have hr := rdsInp_of (vs := vs) (o := o + 1) fun i u hu => by rw [show o + 1 + i = o + (i + 1) by omega]; exact h (i + 1) u (by simpa using hu)
    simp only [Nat.add_zero] at h0
    simp only [List.length_cons, rdsInp, h0, hr]
theorem rds_of {g : AHeap} {l : Loc} {o : Nat} {vs : List AVal} (hne : vs ≠ []) (h : ∀ i v, vs[i]? = some v → AM.rd I g l (o + i) = some v) : rds I g l o vs.length = some vs := by
  cases l with
  | inp b => exact rdsInp_of h
  | own k =>
    have hp : 0 < vs.length := List.length_pos_iff.2 hne
    rw [rds_own']
    have hb := h 0 _ (List.getElem?_eq_getElem hp)
    rw [rd_own'] at hb
    cases hg : g.get k with
    | none => rw [hg] at hb; cases hb
    | some b =>
      have hall : ∀ i v, vs[i]? = some v → b.cells[o + i]? = some v := fun i v hv => by
        have := h i v hv
        rw [rd_own', hg] at this
        exact this
      have hlen : o + vs.length ≤ b.cells.length := by
        have := hall (vs.length - 1) _ (List.getElem?_eq_getElem (by omega))
        have := (List.getElem?_eq_some_iff.1 this).1
        omega
      simp only [Option.bind_some, if_pos hlen, Option.some.injEq]
      apply List.ext_getElem?
      intro i
      by_cases hi : i < vs.length
      · rw [List.getElem?_take_of_lt hi, List.getElem?_drop, List.getElem?_eq_getElem hi]
        exact hall i _ (List.getElem?_eq_getElem hi)
      · rw [List.getElem?_eq_none (by simp; omega), List.getElem?_eq_none (by omega)]
theorem Cells.rds {l : Loc} {o n : Nat} {cs : List AVal} (c : Cells I h0 l o cs) (g : AHeap) (e : Ext h0 g) (hn : cs.length = n) (h0 : 0 < n) : AM.rds I g l o n = some cs := by
  subst hn
  exact rds_of (by intro e; subst e; simp at h0) fun i v hv => c g e i v hv
theorem Cells.own {k : Nat} {b : Blk} {o : Nat} {cs : List AVal} (hb : h0.get k = some b) (hk : k < h0.next) (hc : ∀ i v, cs[i]? = some v → b.cells[o + i]? = some v) : Cells I h0 (.own k) o cs := fun g e i v hv => by
  rw [rd_own', e.same k hk, hb]
  exact hc i v hv
theorem Cells.sub {l : Loc} {o d : Nat} {cs ds : List AVal} (c : Cells I h0 l o cs) (hd : ∀ i v, ds[i]? = some v → cs[d + i]? = some v) : Cells I h0 l (o + d) ds := fun g e i v hv => by
  rw [Nat.add_assoc]; exact c g e (d + i) v (hd i v hv)

/-- A thing lies at an address: its cells do. -/
def At (I : Inp) (h0 : AHeap) (C : List AVal → α → Prop) (l : Loc) (o : Nat) (x : α) : Prop := ∃ cs, C cs x ∧ Cells I h0 l o cs
theorem At.mono {C C' : List AVal → α → Prop} (hC : ∀ cs x, C cs x → C' cs x) {l : Loc} {o : Nat} {x : α} (a : At I h0 C l o x) (e : Ext h0 h1) : At I h1 C' l o x :=
  let ⟨cs, c, hc⟩ := a; ⟨cs, hC _ _ c, hc.mono e⟩

/-- The i-th, or another one. -/
def nth {α : Type} (xs : List α) (i : Int) (d : α) : α := xs.getD i.toNat d
theorem nth_nat {α : Type} {xs : List α} {k : Nat} {x : α} (h : xs[k]? = some x) (d : α) : nth xs (k : Int) d = x := by simp [nth, List.getD, h]
/-- Whatever is cut within the length is within the capacity. -/
def CapOk (cap : Cap) (sz len : Nat) : Prop := ∀ m, m ≤ len → capHas cap sz len m = true
/-- A slice of things, each of so many cells. -/
def SlOf (sz : Nat) (R : Loc → Nat → α → Prop) (v : AVal) (xs : List α) : Prop :=
  (v = .nils ∧ xs = []) ∨ ∃ l o cap, v = .sl l o xs.length cap ∧ CapOk cap sz xs.length ∧ (xs.length ≤ 9223372036854775807 ∧ (xs = [] → ∃ b, l = .inp b)) ∧ ∀ i x, xs[i]? = some x → R l (o + i * sz) x
section
variable {sz : Nat} {R R' : Loc → Nat → α → Prop} {v : AVal} {xs : List α}
theorem SlOf.mono (hR : ∀ l o x, R l o x → R' l o x) (h : SlOf sz R v xs) : SlOf sz R' v xs := by
  rcases h with h | ⟨l, o, cap, e, c, n, hx⟩
  · exact .inl h
  · exact .inr ⟨l, o, cap, e, c, n, fun i x hi => hR _ _ _ (hx i x hi)⟩
theorem SlOf.len (h : SlOf sz R v xs) : pLenSl v = some (.int .i64 xs.length) := by
  rcases h with ⟨rfl, rfl⟩ | ⟨l, o, cap, rfl, _⟩ <;> rfl
theorem SlOf.lt (h : SlOf sz R v xs) : xs.length ≤ 9223372036854775807 := by
  rcases h with ⟨rfl, rfl⟩ | ⟨l, o, cap, rfl, _, hn, _⟩
  · simp
  · exact hn.1
theorem SlOf.one (h : SlOf sz R v xs) : v.one = true := by
  rcases h with ⟨rfl, rfl⟩ | ⟨l, o, cap, rfl, _, hn, _⟩ <;> rfl
theorem SlOf.cells (h : SlOf sz R v xs) : v.cells = [v] := by
  rcases h with ⟨rfl, rfl⟩ | ⟨l, o, cap, rfl, _, hn, _⟩ <;> rfl
theorem SlOf.at (h : SlOf sz R v xs) {i : Nat} {x : α} (hx : xs[i]? = some x) : ∃ l o, pIndexAddr sz v (.int .i64 (i : Int)) = some (.ptr l o) ∧ R l o x := by
  rcases h with ⟨rfl, rfl⟩ | ⟨l, o, cap, rfl, _, _, hR⟩
  · simp at hx
  · exact ⟨l, o + i * sz, pIndexAddr_sl (List.getElem?_eq_some_iff.1 hx).1, hR i x hx⟩
theorem SlOf.atI (h : SlOf sz R v xs) {i : Int} (h0 : 0 ≤ i) (h1 : i < xs.length) (d : α) : ∃ l o, pIndexAddr sz v (.int .i64 i) = some (.ptr l o) ∧ R l o (nth xs i d) ∧ nth xs i d ∈ xs := by
  unfold nth
  obtain ⟨k, rfl⟩ : ∃ k : Nat, i = k := ⟨i.toNat, by omega⟩
  have hk : k < xs.length := by omega
  have hx : xs[k]? = some xs[k] := List.getElem?_eq_getElem hk
  obtain ⟨l, o, h2, h3⟩ := h.at hx
  have e : xs.getD (Int.toNat k) d = xs[k] := by simp [List.getD, hx]
  exact ⟨l, o, h2, by rw [e]; exact h3, by rw [e]; exact List.getElem_mem hk⟩
theorem SlOf.self (h : SlOf sz R v xs) : v.eqb v = true := by
  rcases h with ⟨rfl, rfl⟩ | ⟨l, o, cap, rfl, _⟩ <;> simp
theorem SlOf.nil : SlOf sz R .nils [] := .inl ⟨rfl, rfl⟩
end

def IntC (cs : List AVal) (n : Int) : Prop := cs = [.int .i64 n] ∧ InR n
def SlC (sz : Nat) (R : Loc → Nat → α → Prop) (cs : List AVal) (xs : List α) : Prop := ∃ v, cs = [v] ∧ SlOf sz R v xs
/-- A number at an address. -/
abbrev IntA (I : Inp) (h0 : AHeap) : Loc → Nat → Int → Prop := At I h0 IntC
theorem At.int {l : Loc} {o : Nat} {n : Int} (a : IntA I h0 l o n) : (∀ g, Ext h0 g → rd I g l o = some (.int .i64 n)) ∧ InR n := by
  obtain ⟨_, ⟨rfl, hr⟩, hc⟩ := a
  exact ⟨fun g e => hc.rd0 g e, hr⟩

/-- The cells of a slice of numbers. -/
theorem ints_cells {v : AVal} {xs : List Int} (sv : SlOf 1 (IntA I h0) v xs) (g : AHeap) (e : Ext h0 g) (hne : xs ≠ []) : ∃ l o cap, v = .sl l o xs.length cap ∧ AM.rds I g l o (xs.length * 1) = some (xs.map fun n => AVal.int .i64 n) := by
  rcases sv with ⟨rfl, rfl⟩ | ⟨l, o, cap, rfl, _, _, hx⟩
  · exact absurd rfl hne
  · refine ⟨l, o, cap, rfl, ?_⟩
    have := rds_of (I := I) (g := g) (l := l) (o := o) (vs := xs.map fun n => AVal.int .i64 n) (by simpa using hne) fun i v hv => by
      rw [List.getElem?_map, Option.map_eq_some_iff] at hv
      obtain ⟨n, hn, rfl⟩ := hv
      have := (At.int (hx i n hn)).1 g e
      rw [Nat.mul_one] at this
      exact this
    rw [List.length_map] at this
    rw [Nat.mul_one]
    exact this
theorem ints_all {xs : List Int} : ((xs.map fun n => AVal.int .i64 n).all AVal.one) = true := by simp
/-- A new block of numbers. -/
theorem ints_new {h : AHeap} {k : Nat} {p : Bool} {xs : List Int} {cap : Cap} (hk : h.get k = some ⟨xs.map fun n => AVal.int .i64 n, p⟩) (hl : k < h.next) (hc : CapOk cap 1 xs.length) (hm : xs.length ≤ 9223372036854775807) (hne : xs ≠ []) (hr : ∀ x ∈ xs, InR x) :
    SlOf 1 (IntA I h) (.sl (.own k) 0 xs.length cap) xs := by
  refine .inr ⟨.own k, 0, cap, rfl, hc, ⟨hm, fun h => absurd h hne⟩, fun i x hx => ⟨[.int .i64 x], ⟨rfl, hr x (List.mem_of_getElem? hx)⟩, Cells.own hk hl fun j v hv => ?_⟩⟩
  match j with
  | 0 => simp at hv; subst hv; simp [hx]
  | j + 1 => simp at hv
theorem SlOf.ranges {v : AVal} {xs : List Int} (sv : SlOf 1 (IntA I h0) v xs) : ∀ x ∈ xs, InR x := by
  intro x hx
  obtain ⟨i, hi⟩ := List.getElem?_of_mem hx
  obtain ⟨l, o, _, h⟩ := sv.at hi
  exact (At.int h).2
/-- append([]int(nil), xs...). -/
theorem append_nil_ints {v : AVal} {xs : List Int} {h : AHeap} (sv : SlOf 1 (IntA I h0) v xs) (e : Ext h0 h) (hs : xs.length ≤ 1000000) : Res (sAppend I 1 8 .nils v h) fun u g => SlOf 1 (IntA I g) u xs ∧ Ext h g := by
  cases xs with
  | nil =>
    have : sAppend I 1 8 .nils v h = some (.nils, h) := by
      rcases sv with ⟨rfl, _⟩ | ⟨l, o, cap, rfl, _, hn, _⟩
      · rfl
      · obtain ⟨b, rfl⟩ := hn.2 rfl
        rfl
    exact ⟨_, _, this, SlOf.nil, Ext.refl h⟩
  | cons x xs =>
    obtain ⟨l, o, cap, rfl, hr⟩ := ints_cells sv h e (by simp)
    have hb : Nat.ble ((x :: xs).length * 8) bigRoom = true := Nat.ble_eq_true_of_le (by simp only [bigRoom]; omega)
    have hb2 : Nat.ble (x :: xs).length bigRoom = true := Nat.ble_eq_true_of_le (by simp only [bigRoom]; omega)
    have : sAppend I 1 8 .nils (.sl l o (x :: xs).length cap) h = some (.sl (.own h.next) 0 (x :: xs).length (.grown 1), h.alloc ⟨(x :: xs).map fun n => AVal.int .i64 n, true⟩) := by
      simp only [sAppend, appendK_eq, appendTo, srcCells, hr]
      simp only [List.length_cons] at hb hb2 ⊢
      simp only [ints_all, hb, hb2]
      rfl
    exact ⟨_, _, this, ints_new (AHeap.alloc_at (Nb.o rfl)) (by simp) (fun m hm => by simp [capHas]; simpa using hm) (by omega) (by simp) sv.ranges, (Ext.refl h).alloc⟩
/-- append([]int{a}, xs...). -/
theorem append_one_ints {v : AVal} {a : Int} {xs : List Int} {h : AHeap} {k : Nat} (hk : h.get k = some ⟨[.int .i64 a], true⟩) (hkl : k < h.next) (ha : InR a) (sv : SlOf 1 (IntA I h0) v xs) (e : Ext h0 h) (hs : xs.length ≤ 1000000) :
    Res (sAppend I 1 8 (.sl (.own k) 0 1 (.known 1)) v h) fun u g => SlOf 1 (IntA I g) u (a :: xs) ∧ Ext h g := by
  cases xs with
  | nil =>
    have : sAppend I 1 8 (.sl (.own k) 0 1 (.known 1)) v h = some (.sl (.own k) 0 1 (.known 1), h) := by
      rcases sv with ⟨rfl, _⟩ | ⟨l, o, cap, rfl, _, hn, _⟩
      · rfl
      · obtain ⟨b, rfl⟩ := hn.2 rfl
        rfl
    exact ⟨_, _, this, ints_new (xs := [a]) hk hkl (fun m hm => by simp [capHas]; simpa using hm) (by simp) (by simp) (by simpa using ha), Ext.refl h⟩
  | cons x xs =>
    obtain ⟨l, o, cap, rfl, hr⟩ := ints_cells sv h e (by simp)
    have hb : Nat.ble ((1 + (x :: xs).length) * 8) bigRoom = true := Nat.ble_eq_true_of_le (by simp only [bigRoom]; omega)
    have hb2 : Nat.ble (1 + (x :: xs).length) bigRoom = true := Nat.ble_eq_true_of_le (by simp only [bigRoom]; omega)
    have hc : Nat.ble (1 + (x :: xs).length) 1 = false := by
      cases hx : Nat.ble (1 + (x :: xs).length) 1 with
      | false => rfl
      | true => exact absurd (Nat.le_of_ble_eq_true hx) (by simp)
    have : sAppend I 1 8 (.sl (.own k) 0 1 (.known 1)) (.sl l o (x :: xs).length cap) h = some (.sl (.own h.next) 0 (a :: x :: xs).length (.grown 1), h.alloc ⟨(a :: x :: xs).map fun n => AVal.int .i64 n, true⟩) := by
      simp only [sAppend, appendK_eq, appendTo, srcCells, hr]
      simp only [List.length_cons] at hb hb2 hc ⊢
      simp only [ints_all, hb, hb2, Bool.and_self, hc]
      have h1 : AM.rds I h (.own k) 0 (1 * 1) = some [.int .i64 a] := by simp [hk]
      simp only [h1]
      simp [show h.room = true from rfl, Nat.add_comm]
    exact ⟨_, _, this, ints_new (AHeap.alloc_at (Nb.o rfl)) (by simp) (fun m hm => by simp [capHas]; simpa using hm) (by simp at hs ⊢; omega) (by simp) (fun y hy => by
      rcases List.mem_cons.1 hy with rfl | hy
      · exact ha
      · exact sv.ranges y hy), (Ext.refl h).alloc⟩

/-! the program's own types -/
structure Ty where
  kind : Int
  n : Int
  deriving DecidableEq, Inhabited
def TyC (cs : List AVal) (t : Ty) : Prop := cs = [.int .i64 t.kind, .int .i64 t.n] ∧ InR t.kind ∧ InR t.n
structure Ins where
  op : Int
  dst : Int
  a : Int
  b : Int
  n : Int
  args : List Int
  deriving DecidableEq, Inhabited
def InsC (I : Inp) (h0 : AHeap) (cs : List AVal) (t : Ins) : Prop := ∃ v, cs = [.int .i64 t.op, .int .i64 t.dst, .int .i64 t.a, .int .i64 t.b, .int .i64 t.n, v] ∧ SlOf 1 (IntA I h0) v t.args ∧ InR t.op ∧ InR t.dst ∧ InR t.a ∧ InR t.b ∧ InR t.n
structure Bk where
  code : List Ins
  fin : Int
  reg : Int
  to : Int
  els : Int
  deriving DecidableEq, Inhabited
def BkC (I : Inp) (h0 : AHeap) (cs : List AVal) (t : Bk) : Prop := ∃ v, cs = [v, .int .i64 t.fin, .int .i64 t.reg, .int .i64 t.to, .int .i64 t.els] ∧ SlOf 6 (At I h0 (InsC I h0)) v t.code ∧ InR t.fin ∧ InR t.reg ∧ InR t.to ∧ InR t.els
structure Fu where
  sig : Int
  regs : List Ty
  blocks : List Bk
  deriving DecidableEq, Inhabited
def FuC (I : Inp) (h0 : AHeap) (cs : List AVal) (t : Fu) : Prop := ∃ v u, cs = [.int .i64 t.sig, v, u] ∧ InR t.sig ∧ SlOf 2 (At I h0 TyC) v t.regs ∧ SlOf 5 (At I h0 (BkC I h0)) u t.blocks
structure Sg where
  params : List Ty
  res : Ty
  deriving DecidableEq, Inhabited
def SgC (I : Inp) (h0 : AHeap) (cs : List AVal) (t : Sg) : Prop := ∃ v, cs = [v, .int .i64 t.res.kind, .int .i64 t.res.n] ∧ SlOf 2 (At I h0 TyC) v t.params ∧ InR t.res.kind ∧ InR t.res.n
structure Im where
  rec_ : Int
  face : Int
  funcs : List Int
  deriving DecidableEq, Inhabited
def ImC (I : Inp) (h0 : AHeap) (cs : List AVal) (t : Im) : Prop := ∃ v, cs = [.int .i64 t.rec_, .int .i64 t.face, v] ∧ InR t.rec_ ∧ InR t.face ∧ SlOf 1 (IntA I h0) v t.funcs
structure Pg where
  recs : List (List Ty)
  sigs : List Sg
  faces : List (List Int)
  impls : List Im
  funcs : List Fu
  main : Int
  deriving DecidableEq, Inhabited
def PgC (I : Inp) (h0 : AHeap) (cs : List AVal) (p : Pg) : Prop := ∃ vr vs vf vi vu, cs = [vr, vs, vf, vi, vu, .int .i64 p.main] ∧ InR p.main ∧ SlOf 1 (At I h0 (SlC 2 (At I h0 TyC))) vr p.recs ∧ SlOf 3 (At I h0 (SgC I h0)) vs p.sigs ∧
  SlOf 1 (At I h0 (SlC 1 (IntA I h0))) vf p.faces ∧ SlOf 3 (At I h0 (ImC I h0)) vi p.impls ∧ SlOf 3 (At I h0 (FuC I h0)) vu p.funcs
abbrev PgA (I : Inp) (h0 : AHeap) : Loc → Nat → Pg → Prop := At I h0 (PgC I h0)

theorem IntA.mono {l : Loc} {o : Nat} {x : Int} (a : IntA I h0 l o x) (e : Ext h0 h1) : IntA I h1 l o x := At.mono (fun _ _ h => h) a e
theorem TyA.mono {l : Loc} {o : Nat} {x : Ty} (a : At I h0 TyC l o x) (e : Ext h0 h1) : At I h1 TyC l o x := At.mono (fun _ _ h => h) a e
theorem InsC.mono {cs : List AVal} {x : Ins} (a : InsC I h0 cs x) (e : Ext h0 h1) : InsC I h1 cs x :=
  let ⟨v, e1, s, r⟩ := a; ⟨v, e1, s.mono fun _ _ _ h => h.mono e, r⟩
theorem InsA.mono {l : Loc} {o : Nat} {x : Ins} (a : At I h0 (InsC I h0) l o x) (e : Ext h0 h1) : At I h1 (InsC I h1) l o x := At.mono (fun _ _ h => h.mono e) a e
theorem BkC.mono {cs : List AVal} {x : Bk} (a : BkC I h0 cs x) (e : Ext h0 h1) : BkC I h1 cs x :=
  let ⟨v, e1, s, r⟩ := a; ⟨v, e1, s.mono fun _ _ _ h => InsA.mono h e, r⟩
theorem BkA.mono {l : Loc} {o : Nat} {x : Bk} (a : At I h0 (BkC I h0) l o x) (e : Ext h0 h1) : At I h1 (BkC I h1) l o x := At.mono (fun _ _ h => h.mono e) a e
theorem FuC.mono {cs : List AVal} {x : Fu} (a : FuC I h0 cs x) (e : Ext h0 h1) : FuC I h1 cs x :=
  let ⟨v, u, e1, r, s, t⟩ := a; ⟨v, u, e1, r, s.mono fun _ _ _ h => TyA.mono h e, t.mono fun _ _ _ h => BkA.mono h e⟩
theorem FuA.mono {l : Loc} {o : Nat} {x : Fu} (a : At I h0 (FuC I h0) l o x) (e : Ext h0 h1) : At I h1 (FuC I h1) l o x := At.mono (fun _ _ h => h.mono e) a e
theorem SgC.mono {cs : List AVal} {x : Sg} (a : SgC I h0 cs x) (e : Ext h0 h1) : SgC I h1 cs x :=
  let ⟨v, e1, s, r⟩ := a; ⟨v, e1, s.mono fun _ _ _ h => TyA.mono h e, r⟩
theorem SgA.mono {l : Loc} {o : Nat} {x : Sg} (a : At I h0 (SgC I h0) l o x) (e : Ext h0 h1) : At I h1 (SgC I h1) l o x := At.mono (fun _ _ h => h.mono e) a e
theorem ImC.mono {cs : List AVal} {x : Im} (a : ImC I h0 cs x) (e : Ext h0 h1) : ImC I h1 cs x :=
  let ⟨v, e1, r, r', s⟩ := a; ⟨v, e1, r, r', s.mono fun _ _ _ h => IntA.mono h e⟩
theorem ImA.mono {l : Loc} {o : Nat} {x : Im} (a : At I h0 (ImC I h0) l o x) (e : Ext h0 h1) : At I h1 (ImC I h1) l o x := At.mono (fun _ _ h => h.mono e) a e
theorem RecA.mono {l : Loc} {o : Nat} {x : List Ty} (a : At I h0 (SlC 2 (At I h0 TyC)) l o x) (e : Ext h0 h1) : At I h1 (SlC 2 (At I h1 TyC)) l o x :=
  At.mono (fun _ _ h => let ⟨v, e1, s⟩ := h; ⟨v, e1, s.mono fun _ _ _ h => TyA.mono h e⟩) a e
theorem FaceA.mono {l : Loc} {o : Nat} {x : List Int} (a : At I h0 (SlC 1 (IntA I h0)) l o x) (e : Ext h0 h1) : At I h1 (SlC 1 (IntA I h1)) l o x :=
  At.mono (fun _ _ h => let ⟨v, e1, s⟩ := h; ⟨v, e1, s.mono fun _ _ _ h => IntA.mono h e⟩) a e
theorem PgA.mono {l : Loc} {o : Nat} {x : Pg} (a : PgA I h0 l o x) (e : Ext h0 h1) : PgA I h1 l o x :=
  At.mono (fun _ _ h => let ⟨vr, vs, vf, vi, vu, e1, r, a, b, c, d, f⟩ := h; ⟨vr, vs, vf, vi, vu, e1, r, a.mono fun _ _ _ h => RecA.mono h e, b.mono fun _ _ _ h => SgA.mono h e, c.mono fun _ _ _ h => FaceA.mono h e,
    d.mono fun _ _ _ h => ImA.mono h e, f.mono fun _ _ _ h => FuA.mono h e⟩) a e
end

/-! ### what came in -/
section
variable {α : Type} {H : Type} {enc : TypeId × Value → H} {P : Program} {W : World}
/-- The cells lie in the world from there on. -/
def Lies (W : World) (b o : Nat) (cs : List Value) : Prop := ∀ i, i < cs.length → W.cell? ⟨b, o + i, none⟩ = cs[i]?

theorem Lies.sub {b o : Nat} {cs : List Value} (h : Lies W b o cs) (d n : Nat) (hd : d + n ≤ cs.length) : Lies W b (o + d) ((cs.drop d).take n) := by
  intro i hi
  simp at hi
  rw [show o + d + i = o + (d + i) by omega, h (d + i) (by omega), List.getElem?_take_of_lt (by omega), List.getElem?_drop]
theorem Lies.inp [Sig] {b o : Nat} {cs : List Value} (h : Lies W b o cs) {i : Nat} {u : Value} {a : AVal} (hu : cs[i]? = some u) (ha : canon u = some a) : inpOf W (2 * b) (o + i) = some a := by
  have hi : i < cs.length := (List.getElem?_eq_some_iff.1 hu).1
  unfold inpOf
  rw [place_even]
  simp only [Nat.zero_add]
  rw [h i hi, hu]
  exact ha


/-- What reads as a type 'e' stands for a thing of C, from whatever heap on. -/
def Opens [Sig] (enc : TypeId × Value → H) (P : Program) (W : World) (h0 : AHeap) (e : TypeId) (C : List AVal → α → Prop) : Prop :=
  ∀ n cs y, DataW.trod enc P W 0 (fun _ => true) true n e cs = some y → cs.length = P.cellsOf e → ∃ as x, cs.map canon = as.map some ∧ C as x

theorem Lies.cells [Sig] {b o : Nat} {cs : List Value} {as : List AVal} {h0 : AHeap} (h : Lies W b o cs) (ha : cs.map canon = as.map some) : Cells (inpOf W) h0 (.inp (2 * b)) o as := by
  intro g _ i v hv
  have hc : (cs.map canon)[i]? = some (some v) := by rw [ha, List.getElem?_map, hv]; rfl
  rw [List.getElem?_map, Option.map_eq_some_iff] at hc
  obtain ⟨u, hu, hcu⟩ := hc
  exact h.inp hu hcu
theorem Opens.at [Sig] {h0 : AHeap} {e : TypeId} {C : List AVal → α → Prop} (hC : Opens enc P W h0 e C) {n b o : Nat} {cs : List Value} {y : DataW H × List MemPlace} (h : DataW.trod enc P W 0 (fun _ => true) true n e cs = some y)
    (hl : Lies W b o cs) (hc : cs.length = P.cellsOf e) : ∃ x, At (inpOf W) h0 C (.inp (2 * b)) o x := by
  obtain ⟨as, x, ha, hx⟩ := hC n cs y h hc
  exact ⟨x, as, hx, hl.cells ha⟩

theorem opens_int [Sig] {h0 : AHeap} {e : TypeId} (he : P.underlying e = some (.int .i64)) : Opens (α := Int) enc P W h0 e IntC := by
  intro n cs y h _
  obtain ⟨m, rfl, hw⟩ := trod_int he h
  refine ⟨_, m, rfl, rfl, ?_⟩
  have hw := wrap_wf hw
  simp [IntKind.wrap, IntKind.bits, IntKind.signed] at hw
  unfold InR
  omega

theorem choose_list {R : Nat → α → Prop} : ∀ (n : Nat), (∀ i, i < n → ∃ x, R i x) → ∃ xs : List α, xs.length = n ∧ ∀ i x, xs[i]? = some x → R i x
  | 0, _ => ⟨[], rfl, fun i x h => by simp at h⟩
  | n + 1, h => by
    obtain ⟨xs, hl, hx⟩ := choose_list n fun i hi => h i (by omega)
    obtain ⟨y, hy⟩ := h n (by omega)
    refine ⟨xs ++ [y], by simp [hl], fun i x he => ?_⟩
    by_cases hi : i < n
    · rw [List.getElem?_append_left (by omega)] at he; exact hx i x he
    · rw [List.getElem?_append_right (by omega)] at he
      have : i - xs.length = 0 := by
        rcases Nat.eq_zero_or_pos (i - xs.length) with h0 | h0
        · exact h0
        · rw [List.getElem?_eq_none (by simp; omega)] at he; cases he
      rw [this] at he
      simp at he
      subst he
      rw [show i = n by omega]
      exact hy

theorem canon_sl {b o len cap : Nat} (hl : len ≤ cap) (hz : 0 < cap) : canon (.slice (some ⟨b, o, none⟩) len cap) = some (.sl (.inp (2 * b)) o len (.known cap)) := by
  obtain ⟨c, rfl⟩ : ∃ c, cap = c + 1 := ⟨cap - 1, by omega⟩
  cases len with
  | zero => rfl
  | succ l =>
    show (if l + 1 ≤ c + 1 then _ else none) = _
    rw [if_pos hl]


theorem opens_sl [Sig] {h0 : AHeap} {t e : TypeId} {C : List AVal → α → Prop} {sz : Nat} (ht : P.underlying t = some (.slice e)) (hsz : P.cellsOf e = sz) (hc : 0 < sz) (hR : Opens enc P W h0 e C) :
    Opens enc P W h0 t (SlC sz (At (inpOf W) h0 C)) := by
  intro n cs y h _
  rcases Go.Deep.open_slice ht h with ⟨rfl, _⟩ | ⟨a, len, cap, m, n', D, Pl, rfl, _, hl, hmx, hm, _, hx⟩
  · exact ⟨_, [], rfl, _, rfl, SlOf.nil⟩
  · rcases Nat.eq_zero_or_pos cap with hz | hz
    · subst hz
      obtain rfl : len = 0 := by omega
      refine ⟨[.sl (.inp 0) 0 0 (.known 0)], [], rfl, _, rfl, .inr ⟨.inp 0, 0, .known 0, rfl, fun m hm => ?_, ⟨by simp, fun _ => ⟨0, rfl⟩⟩, fun i x h => by simp at h⟩⟩
      simp at hm; subst hm; rfl
    · have hmc : m = cap := by simpa using hm
      have cell : ∀ i, i < m → ∃ cs', DataW.trod enc P W 0 (fun _ => true) true n' e cs' = some (D i, Pl i) ∧ cs'.length = P.cellsOf e ∧ ∀ j, j < cs'.length → W.cell? ((a.add (i * P.cellsOf e)).add j) = cs'[j]? := by
        intro i hi
        obtain ⟨cs', h1, h2⟩ := hx i hi
        obtain ⟨_, hlen, hget⟩ := World.cells?_some h1
        exact ⟨cs', h2, hlen, fun j hj => by rw [hget j (by omega)]⟩
      have hsp : a.spot = none := by
        obtain ⟨cs', _, hlen, hg⟩ := cell 0 (by omega)
        have := hg 0 (by omega)
        rw [Nat.zero_mul, show (a.add 0).add 0 = a from rfl, List.getElem?_eq_getElem (by omega)] at this
        unfold World.cell? at this
        split at this
        · cases hs : a.spot with
          | none => rfl
          | some s => rw [hs] at this; cases this
        · cases this
      obtain ⟨b, o, sp⟩ := a
      simp only at hsp
      subst hsp
      obtain ⟨xs, hlx, hxs⟩ := choose_list (R := fun i x => At (inpOf W) h0 C (.inp (2 * b)) (o + i * P.cellsOf e) x) len fun i hi => by
        obtain ⟨cs', h2, hlen, hg⟩ := cell i (by omega)
        refine hR.at h2 (fun j hj => ?_) hlen
        rw [← hg j hj, addr_add, addr_add]
      refine ⟨[.sl (.inp (2 * b)) o len (.known cap)], xs, by simp [canon_sl hl hz], _, rfl, .inr ⟨_, _, _, by rw [hlx], fun m hm => ?_, ?_, fun i x hi => ?_⟩⟩
      · rw [hlx] at hm
        exact Nat.ble_eq_true_of_le (by omega)
      · exact ⟨by rw [hlx]; simp only [maxLen] at hmx; omega, fun _ => ⟨_, rfl⟩⟩
      · rw [← hsz]; exact hxs i x hi

/-- A struct: each field by itself. -/
theorem opens_field [Sig] {h0 : AHeap} {C : List AVal → α → Prop} {m : Nat} {cs : List Value} {e k sz : Nat} (hR : Opens enc P W h0 e C) (hc : P.cellsOf e = sz) (hk : k + sz ≤ cs.length)
    (h : ∃ y, DataW.trod enc P W 0 (fun _ => true) true m e ((cs.drop k).take (P.cellsOf e)) = some y) : ∃ as x, ((cs.drop k).take sz).map canon = as.map some ∧ C as x := by
  obtain ⟨y, hy⟩ := h
  rw [hc] at hy
  exact hR m _ y hy (by simp; omega)

/-- The numbers of the program's types in a seat. -/
structure TyIds where
  int : Nat
  ints : Nat
  ty : Nat
  tys : Nat
  recs : Nat
  ins : Nat
  inss : Nat
  bk : Nat
  bks : Nat
  fu : Nat
  fus : Nat
  sg : Nat
  sgs : Nat
  face : Nat
  faces : Nat
  im : Nat
  ims : Nat
  pg : Nat
/-- What is asked of them, each by kernel_rfl. -/
structure TyIds.Ok (T : TyIds) (P : Program) : Prop where
  int : P.underlying T.int = some (.int .i64)
  intC : P.cellsOf T.int = 1
  ints : P.underlying T.ints = some (.slice T.int)
  intsC : P.cellsOf T.ints = 1
  ty : structOf P T.ty = some [(T.int, 0), (T.int, 1)]
  tyC : P.cellsOf T.ty = 2
  tys : P.underlying T.tys = some (.slice T.ty)
  tysC : P.cellsOf T.tys = 1
  recs : P.underlying T.recs = some (.slice T.tys)
  recsC : P.cellsOf T.recs = 1
  ins : structOf P T.ins = some [(T.int, 0), (T.int, 1), (T.int, 2), (T.int, 3), (T.int, 4), (T.ints, 5)]
  insC : P.cellsOf T.ins = 6
  inss : P.underlying T.inss = some (.slice T.ins)
  inssC : P.cellsOf T.inss = 1
  bk : structOf P T.bk = some [(T.inss, 0), (T.int, 1), (T.int, 2), (T.int, 3), (T.int, 4)]
  bkC : P.cellsOf T.bk = 5
  bks : P.underlying T.bks = some (.slice T.bk)
  bksC : P.cellsOf T.bks = 1
  fu : structOf P T.fu = some [(T.int, 0), (T.tys, 1), (T.bks, 2)]
  fuC : P.cellsOf T.fu = 3
  fus : P.underlying T.fus = some (.slice T.fu)
  fusC : P.cellsOf T.fus = 1
  sg : structOf P T.sg = some [(T.tys, 0), (T.ty, 1)]
  sgC : P.cellsOf T.sg = 3
  sgs : P.underlying T.sgs = some (.slice T.sg)
  sgsC : P.cellsOf T.sgs = 1
  face : structOf P T.face = some [(T.ints, 0)]
  faceC : P.cellsOf T.face = 1
  faces : P.underlying T.faces = some (.slice T.face)
  facesC : P.cellsOf T.faces = 1
  im : structOf P T.im = some [(T.int, 0), (T.int, 1), (T.ints, 2)]
  imC : P.cellsOf T.im = 3
  ims : P.underlying T.ims = some (.slice T.im)
  imsC : P.cellsOf T.ims = 1
  pg : structOf P T.pg = some [(T.recs, 0), (T.sgs, 1), (T.faces, 2), (T.ims, 3), (T.fus, 4), (T.int, 5)]
  pgC : P.cellsOf T.pg = 6


variable [Sig] {T : TyIds} {h0 : AHeap}
theorem opens_i (K : T.Ok P) : Opens (α := Int) enc P W h0 T.int IntC := opens_int K.int
theorem opens_is (K : T.Ok P) : Opens (α := List Int) enc P W h0 T.ints (SlC 1 (IntA (inpOf W) h0)) := opens_sl K.ints K.intC (by omega) (opens_i K)
theorem opens_ty (K : T.Ok P) : Opens (α := Ty) enc P W h0 T.ty (TyC) := by
  intro n cs y h hc
  rw [K.tyC] at hc
  obtain ⟨_, m, hm⟩ := trod_fields K.ty h
  obtain ⟨a0, x0, e0, q0⟩ := opens_field (opens_i (h0 := h0) K) K.intC (k := 0) (by omega) (hm (T.int, 0) (by simp))
  obtain ⟨a1, x1, e1, q1⟩ := opens_field (opens_i (h0 := h0) K) K.intC (k := 1) (by omega) (hm (T.int, 1) (by simp))
  have ecs : cs = (cs.drop 0).take 1 ++ (cs.drop 1).take 1 := by
    match cs, hc with
    | [c0, c1], _ => rfl
  have em : cs.map canon = (a0 ++ a1).map some := by
    rw [ecs]
    simp only [List.map_append, e0, e1]
  obtain ⟨rfl, r0⟩ := q0
  obtain ⟨rfl, r1⟩ := q1
  exact ⟨_, ⟨x0, x1⟩, em, rfl, r0, r1⟩
theorem opens_tys (K : T.Ok P) : Opens (α := List Ty) enc P W h0 T.tys (SlC 2 (At (inpOf W) h0 TyC)) := opens_sl K.tys K.tyC (by omega) (opens_ty K)
theorem opens_recs (K : T.Ok P) : Opens (α := List (List Ty)) enc P W h0 T.recs (SlC 1 (At (inpOf W) h0 (SlC 2 (At (inpOf W) h0 TyC)))) := opens_sl K.recs K.tysC (by omega) (opens_tys K)
theorem opens_ins (K : T.Ok P) : Opens (α := Ins) enc P W h0 T.ins (InsC (inpOf W) h0) := by
  intro n cs y h hc
  rw [K.insC] at hc
  obtain ⟨_, m, hm⟩ := trod_fields K.ins h
  obtain ⟨a0, x0, e0, q0⟩ := opens_field (opens_i (h0 := h0) K) K.intC (k := 0) (by omega) (hm (T.int, 0) (by simp))
  obtain ⟨a1, x1, e1, q1⟩ := opens_field (opens_i (h0 := h0) K) K.intC (k := 1) (by omega) (hm (T.int, 1) (by simp))
  obtain ⟨a2, x2, e2, q2⟩ := opens_field (opens_i (h0 := h0) K) K.intC (k := 2) (by omega) (hm (T.int, 2) (by simp))
  obtain ⟨a3, x3, e3, q3⟩ := opens_field (opens_i (h0 := h0) K) K.intC (k := 3) (by omega) (hm (T.int, 3) (by simp))
  obtain ⟨a4, x4, e4, q4⟩ := opens_field (opens_i (h0 := h0) K) K.intC (k := 4) (by omega) (hm (T.int, 4) (by simp))
  obtain ⟨a5, x5, e5, q5⟩ := opens_field (opens_is (h0 := h0) K) K.intsC (k := 5) (by omega) (hm (T.ints, 5) (by simp))
  have ecs : cs = (cs.drop 0).take 1 ++ (cs.drop 1).take 1 ++ (cs.drop 2).take 1 ++ (cs.drop 3).take 1 ++ (cs.drop 4).take 1 ++ (cs.drop 5).take 1 := by
    match cs, hc with
    | [c0, c1, c2, c3, c4, c5], _ => rfl
  have em : cs.map canon = (a0 ++ a1 ++ a2 ++ a3 ++ a4 ++ a5).map some := by
    rw [ecs]
    simp only [List.map_append, e0, e1, e2, e3, e4, e5]
  obtain ⟨rfl, r0⟩ := q0
  obtain ⟨rfl, r1⟩ := q1
  obtain ⟨rfl, r2⟩ := q2
  obtain ⟨rfl, r3⟩ := q3
  obtain ⟨rfl, r4⟩ := q4
  obtain ⟨v5, rfl, s5⟩ := q5
  exact ⟨_, ⟨x0, x1, x2, x3, x4, x5⟩, em, v5, rfl, s5, r0, r1, r2, r3, r4⟩
theorem opens_inss (K : T.Ok P) : Opens (α := List Ins) enc P W h0 T.inss (SlC 6 (At (inpOf W) h0 (InsC (inpOf W) h0))) := opens_sl K.inss K.insC (by omega) (opens_ins K)
theorem opens_bk (K : T.Ok P) : Opens (α := Bk) enc P W h0 T.bk (BkC (inpOf W) h0) := by
  intro n cs y h hc
  rw [K.bkC] at hc
  obtain ⟨_, m, hm⟩ := trod_fields K.bk h
  obtain ⟨a0, x0, e0, q0⟩ := opens_field (opens_inss (h0 := h0) K) K.inssC (k := 0) (by omega) (hm (T.inss, 0) (by simp))
  obtain ⟨a1, x1, e1, q1⟩ := opens_field (opens_i (h0 := h0) K) K.intC (k := 1) (by omega) (hm (T.int, 1) (by simp))
  obtain ⟨a2, x2, e2, q2⟩ := opens_field (opens_i (h0 := h0) K) K.intC (k := 2) (by omega) (hm (T.int, 2) (by simp))
  obtain ⟨a3, x3, e3, q3⟩ := opens_field (opens_i (h0 := h0) K) K.intC (k := 3) (by omega) (hm (T.int, 3) (by simp))
  obtain ⟨a4, x4, e4, q4⟩ := opens_field (opens_i (h0 := h0) K) K.intC (k := 4) (by omega) (hm (T.int, 4) (by simp))
  have ecs : cs = (cs.drop 0).take 1 ++ (cs.drop 1).take 1 ++ (cs.drop 2).take 1 ++ (cs.drop 3).take 1 ++ (cs.drop 4).take 1 := by
    match cs, hc with
    | [c0, c1, c2, c3, c4], _ => rfl
  have em : cs.map canon = (a0 ++ a1 ++ a2 ++ a3 ++ a4).map some := by
    rw [ecs]
    simp only [List.map_append, e0, e1, e2, e3, e4]
  obtain ⟨v0, rfl, s0⟩ := q0
  obtain ⟨rfl, r1⟩ := q1
  obtain ⟨rfl, r2⟩ := q2
  obtain ⟨rfl, r3⟩ := q3
  obtain ⟨rfl, r4⟩ := q4
  exact ⟨_, ⟨x0, x1, x2, x3, x4⟩, em, v0, rfl, s0, r1, r2, r3, r4⟩
theorem opens_bks (K : T.Ok P) : Opens (α := List Bk) enc P W h0 T.bks (SlC 5 (At (inpOf W) h0 (BkC (inpOf W) h0))) := opens_sl K.bks K.bkC (by omega) (opens_bk K)
theorem opens_fu (K : T.Ok P) : Opens (α := Fu) enc P W h0 T.fu (FuC (inpOf W) h0) := by
  intro n cs y h hc
  rw [K.fuC] at hc
  obtain ⟨_, m, hm⟩ := trod_fields K.fu h
  obtain ⟨a0, x0, e0, q0⟩ := opens_field (opens_i (h0 := h0) K) K.intC (k := 0) (by omega) (hm (T.int, 0) (by simp))
  obtain ⟨a1, x1, e1, q1⟩ := opens_field (opens_tys (h0 := h0) K) K.tysC (k := 1) (by omega) (hm (T.tys, 1) (by simp))
  obtain ⟨a2, x2, e2, q2⟩ := opens_field (opens_bks (h0 := h0) K) K.bksC (k := 2) (by omega) (hm (T.bks, 2) (by simp))
  have ecs : cs = (cs.drop 0).take 1 ++ (cs.drop 1).take 1 ++ (cs.drop 2).take 1 := by
    match cs, hc with
    | [c0, c1, c2], _ => rfl
  have em : cs.map canon = (a0 ++ a1 ++ a2).map some := by
    rw [ecs]
    simp only [List.map_append, e0, e1, e2]
  obtain ⟨rfl, r0⟩ := q0
  obtain ⟨v1, rfl, s1⟩ := q1
  obtain ⟨v2, rfl, s2⟩ := q2
  exact ⟨_, ⟨x0, x1, x2⟩, em, v1, v2, rfl, r0, s1, s2⟩
theorem opens_fus (K : T.Ok P) : Opens (α := List Fu) enc P W h0 T.fus (SlC 3 (At (inpOf W) h0 (FuC (inpOf W) h0))) := opens_sl K.fus K.fuC (by omega) (opens_fu K)
theorem opens_sg (K : T.Ok P) : Opens (α := Sg) enc P W h0 T.sg (SgC (inpOf W) h0) := by
  intro n cs y h hc
  rw [K.sgC] at hc
  obtain ⟨_, m, hm⟩ := trod_fields K.sg h
  obtain ⟨a0, x0, e0, q0⟩ := opens_field (opens_tys (h0 := h0) K) K.tysC (k := 0) (by omega) (hm (T.tys, 0) (by simp))
  obtain ⟨a1, x1, e1, q1⟩ := opens_field (opens_ty (h0 := h0) K) K.tyC (k := 1) (by omega) (hm (T.ty, 1) (by simp))
  have ecs : cs = (cs.drop 0).take 1 ++ (cs.drop 1).take 2 := by
    match cs, hc with
    | [c0, c1, c2], _ => rfl
  have em : cs.map canon = (a0 ++ a1).map some := by
    rw [ecs]
    simp only [List.map_append, e0, e1]
  obtain ⟨v0, rfl, s0⟩ := q0
  obtain ⟨rfl, r1, r2⟩ := q1
  exact ⟨_, ⟨x0, x1⟩, em, v0, rfl, s0, r1, r2⟩
theorem opens_sgs (K : T.Ok P) : Opens (α := List Sg) enc P W h0 T.sgs (SlC 3 (At (inpOf W) h0 (SgC (inpOf W) h0))) := opens_sl K.sgs K.sgC (by omega) (opens_sg K)
theorem opens_face (K : T.Ok P) : Opens (α := List Int) enc P W h0 T.face (SlC 1 (IntA (inpOf W) h0)) := by
  intro n cs y h hc
  rw [K.faceC] at hc
  obtain ⟨_, m, hm⟩ := trod_fields K.face h
  obtain ⟨a0, x0, e0, q0⟩ := opens_field (opens_is (h0 := h0) K) K.intsC (k := 0) (by omega) (hm (T.ints, 0) (by simp))
  have ecs : cs = (cs.drop 0).take 1 := by
    match cs, hc with
    | [c0], _ => rfl
  have em : cs.map canon = (a0).map some := by
    rw [ecs]
    simp only [List.map_append, e0]
  obtain ⟨v0, rfl, s0⟩ := q0
  exact ⟨_, x0, em, v0, rfl, s0⟩
theorem opens_faces (K : T.Ok P) : Opens (α := List (List Int)) enc P W h0 T.faces (SlC 1 (At (inpOf W) h0 (SlC 1 (IntA (inpOf W) h0)))) := opens_sl K.faces K.faceC (by omega) (opens_face K)
theorem opens_im (K : T.Ok P) : Opens (α := Im) enc P W h0 T.im (ImC (inpOf W) h0) := by
  intro n cs y h hc
  rw [K.imC] at hc
  obtain ⟨_, m, hm⟩ := trod_fields K.im h
  obtain ⟨a0, x0, e0, q0⟩ := opens_field (opens_i (h0 := h0) K) K.intC (k := 0) (by omega) (hm (T.int, 0) (by simp))
  obtain ⟨a1, x1, e1, q1⟩ := opens_field (opens_i (h0 := h0) K) K.intC (k := 1) (by omega) (hm (T.int, 1) (by simp))
  obtain ⟨a2, x2, e2, q2⟩ := opens_field (opens_is (h0 := h0) K) K.intsC (k := 2) (by omega) (hm (T.ints, 2) (by simp))
  have ecs : cs = (cs.drop 0).take 1 ++ (cs.drop 1).take 1 ++ (cs.drop 2).take 1 := by
    match cs, hc with
    | [c0, c1, c2], _ => rfl
  have em : cs.map canon = (a0 ++ a1 ++ a2).map some := by
    rw [ecs]
    simp only [List.map_append, e0, e1, e2]
  obtain ⟨rfl, r0⟩ := q0
  obtain ⟨rfl, r1⟩ := q1
  obtain ⟨v2, rfl, s2⟩ := q2
  exact ⟨_, ⟨x0, x1, x2⟩, em, v2, rfl, r0, r1, s2⟩
theorem opens_ims (K : T.Ok P) : Opens (α := List Im) enc P W h0 T.ims (SlC 3 (At (inpOf W) h0 (ImC (inpOf W) h0))) := opens_sl K.ims K.imC (by omega) (opens_im K)
/-- A program that came in. -/
theorem opens_pg (K : T.Ok P) : Opens (α := Pg) enc P W h0 T.pg (PgC (inpOf W) h0) := by
  intro n cs y h hc
  rw [K.pgC] at hc
  obtain ⟨_, m, hm⟩ := trod_fields K.pg h
  obtain ⟨a0, x0, e0, q0⟩ := opens_field (opens_recs (h0 := h0) K) K.recsC (k := 0) (by omega) (hm (T.recs, 0) (by simp))
  obtain ⟨a1, x1, e1, q1⟩ := opens_field (opens_sgs (h0 := h0) K) K.sgsC (k := 1) (by omega) (hm (T.sgs, 1) (by simp))
  obtain ⟨a2, x2, e2, q2⟩ := opens_field (opens_faces (h0 := h0) K) K.facesC (k := 2) (by omega) (hm (T.faces, 2) (by simp))
  obtain ⟨a3, x3, e3, q3⟩ := opens_field (opens_ims (h0 := h0) K) K.imsC (k := 3) (by omega) (hm (T.ims, 3) (by simp))
  obtain ⟨a4, x4, e4, q4⟩ := opens_field (opens_fus (h0 := h0) K) K.fusC (k := 4) (by omega) (hm (T.fus, 4) (by simp))
  obtain ⟨a5, x5, e5, q5⟩ := opens_field (opens_i (h0 := h0) K) K.intC (k := 5) (by omega) (hm (T.int, 5) (by simp))
  have ecs : cs = (cs.drop 0).take 1 ++ (cs.drop 1).take 1 ++ (cs.drop 2).take 1 ++ (cs.drop 3).take 1 ++ (cs.drop 4).take 1 ++ (cs.drop 5).take 1 := by
    match cs, hc with
    | [c0, c1, c2, c3, c4, c5], _ => rfl
  have em : cs.map canon = (a0 ++ a1 ++ a2 ++ a3 ++ a4 ++ a5).map some := by
    rw [ecs]
    simp only [List.map_append, e0, e1, e2, e3, e4, e5]
  obtain ⟨v0, rfl, s0⟩ := q0
  obtain ⟨v1, rfl, s1⟩ := q1
  obtain ⟨v2, rfl, s2⟩ := q2
  obtain ⟨v3, rfl, s3⟩ := q3
  obtain ⟨v4, rfl, s4⟩ := q4
  obtain ⟨rfl, r5⟩ := q5
  exact ⟨_, ⟨x0, x1, x2, x3, x4, x5⟩, em, v0, v1, v2, v3, v4, rfl, r5, s0, s1, s2, s3, s4⟩

/-- A pointer to a program that came in. -/
theorem open_pg (K : T.Ok P) {r : Reach} {b0 t : Nat} {v : Value} {d : DataW H} {p : List MemPlace} (ht : P.underlying t = some (.pointer T.pg)) (ho : Value.okWide P W r b0 t v) (h : DataW.Trod enc P W 0 (fun _ => true) true t v d p) :
    v = .pointer none ∨ ∃ b o q, v = .pointer (some ⟨b, o, none⟩) ∧ PgA (inpOf W) h0 (.inp (2 * b)) o q := by
  obtain ⟨a, rfl⟩ := okWide_pointer ht ho
  cases a with
  | none => exact .inl rfl
  | some a =>
    right
    obtain ⟨n, hn⟩ := h
    cases n with
    | zero => cases hn
    | succ n =>
      rw [DataW.trod_step] at hn
      unfold DataW.trodStep at hn
      simp only [Value.cells, ht] at hn
      rw [Option.map_eq_some_iff] at hn
      obtain ⟨y, hy, _⟩ := hn
      rw [Option.bind_eq_some_iff] at hy
      obtain ⟨cs, hcs, hy⟩ := hy
      obtain ⟨_, hlen, hg⟩ := World.cells?_some hcs
      rw [K.pgC] at hlen hg
      have hsp : a.spot = none := by
        have := hg 0 (by omega)
        rw [show a.add 0 = a from rfl, List.getElem?_eq_getElem (by omega)] at this
        unfold World.cell? at this
        split at this
        · cases hs : a.spot with
          | none => rfl
          | some s => rw [hs] at this; cases this
        · cases this
      obtain ⟨b, o, sp⟩ := a
      simp only at hsp
      subst hsp
      obtain ⟨q, hq⟩ := (opens_pg (h0 := h0) K).at (b := b) (o := o) hy (fun i hi => by rw [← hg i (by omega), addr_add]) (by rw [hlen, K.pgC])
      exact ⟨b, o, q, rfl, hq⟩
end
end

end Go.AM
