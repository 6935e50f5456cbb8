/- AM, part 2: the abstract heap stands for a world; what is read, written and made. Conditions: as each lemma says. -/
import Derived.Test.YthihegmbdclikaaDoorAmBase
import Derived.Laws.CopyRow
namespace Go.AM
noncomputable section
open Go.RowKit
set_option linter.unusedSectionVars false
variable [Sig]

def AVal.one : AVal → Bool
  | .agg _ | .tuple _ => false
  | _ => true

theorem VRel.one {ι : Map} {v : AVal} {u : Value} (h : VRel ι v u) (h1 : v.one = true) : u.oneCell' = true := by
  cases h <;> first | rfl | exact h1

theorem VRels.one {ι : Map} : ∀ {vs : List AVal} {us : List Value}, VRels ι vs us → vs.all AVal.one = true → ∀ u ∈ us, u.oneCell' = true
  | _, _, .nil, _, u, hu => by cases hu
  | _, _, .cons hv hs, h, u, hu => by
    simp only [List.all_cons, Bool.and_eq_true] at h
    cases hu with
    | head => exact hv.one h.1
    | tail _ hm => exact VRels.one hs h.2 u hm

/-- A block of the call's own lies in the world. -/
def BlkAt (ι : Map) (w : World) (b : Blk) (pl : Pl) : Prop :=
  ∃ (cs : Array Value) (e : TypeId) (fz : Nat × Nat), w.heap[pl.blk]? = some (.cells cs e fz) ∧ (∀ o, o < cs.size → ¬ (fz.1 ≤ o ∧ o < fz.2)) ∧ (b.plain = true → fz = (0, 0)) ∧
    pl.off + pl.room ≤ cs.size ∧ pl.n ≤ pl.room ∧ b.cells.length = pl.n ∧ ∀ i v, b.cells[i]? = some v → ∃ u, cs[pl.off + i]? = some u ∧ VRel ι v u

structure Rep (W : World) (ι : Map) (h : AHeap) (w : World) : Prop where
  below : Below W.heap.size W w
  own : ∀ k b, h.get k = some b → ∃ pl, ι k = some pl ∧ W.heap.size ≤ pl.blk ∧ BlkAt ι w b pl
  inj : ∀ k k' b b' pl pl', h.get k = some b → h.get k' = some b' → ι k = some pl → ι k' = some pl' → pl.blk = pl'.blk → k = k'
  fresh : ∀ k, h.next ≤ k → ι k = none

theorem Rep.lt {W : World} {ι : Map} {h : AHeap} {w : World} (r : Rep W ι h w) {k : Nat} {b : Blk} (hk : h.get k = some b) : k < h.next := by
  obtain ⟨pl, hp, _⟩ := r.own k b hk
  rcases Nat.lt_or_ge k h.next with hh | hh
  · exact hh
  · rw [r.fresh k hh] at hp; cases hp

theorem Rep.map_lt {W : World} {ι : Map} {h : AHeap} {w : World} (r : Rep W ι h w) {k : Nat} {pl : Pl} (hk : ι k = some pl) : k < h.next := by
  rcases Nat.lt_or_ge k h.next with hh | hh
  · exact hh
  · rw [r.fresh k hh] at hk; cases hk

/-- From one state to a later one. -/
structure Step (W : World) (ι : Map) (h : AHeap) (w : World) (ι' : Map) (h' : AHeap) (w' : World) : Prop where
  le : ι.le ι'
  rep : Rep W ι' h' w'
  size : w.heap.size ≤ w'.heap.size
  next : h.next ≤ h'.next
  keeps : ∀ g, g < w.heap.size → (∀ k b pl, h.get k = some b → ι k = some pl → pl.blk ≠ g) →
    w'.heap[g]? = w.heap[g]? ∧ ∀ k b pl, h'.get k = some b → ι' k = some pl → pl.blk ≠ g
  old : ∀ k, k < h.next → ι' k = ι k
  dead : ∀ k, k < h.next → h.get k = none → h'.get k = none

theorem Step.refl {W : World} {ι : Map} {h : AHeap} {w : World} (r : Rep W ι h w) : Step W ι h w ι h w :=
  ⟨Map.le_refl _, r, Nat.le_refl _, Nat.le_refl _, fun _ _ hk => ⟨rfl, hk⟩, fun _ _ => rfl, fun _ _ hk => hk⟩

theorem Step.trans {W : World} {ι ι1 ι2 : Map} {h h1 h2 : AHeap} {w w1 w2 : World} (s : Step W ι h w ι1 h1 w1) (s' : Step W ι1 h1 w1 ι2 h2 w2) : Step W ι h w ι2 h2 w2 :=
  ⟨Map.le_trans s.le s'.le, s'.rep, Nat.le_trans s.size s'.size, Nat.le_trans s.next s'.next, fun g hg hk => by
    obtain ⟨e1, k1⟩ := s.keeps g hg hk
    obtain ⟨e2, k2⟩ := s'.keeps g (Nat.lt_of_lt_of_le hg s.size) k1
    exact ⟨e2.trans e1, k2⟩, fun k hk => (s'.old k (Nat.lt_of_lt_of_le hk s.next)).trans (s.old k hk), fun k hk hn => s'.dead k (Nat.lt_of_lt_of_le hk s.next) (s.dead k hk hn)⟩

/-- A draw. -/
theorem Rep.drew {W : World} {ι : Map} {h : AHeap} {w : World} (r : Rep W ι h w) : Rep W ι h w.drew :=
  ⟨r.below.drew, r.own, r.inj, r.fresh⟩
theorem Step.drew {W : World} {ι : Map} {h : AHeap} {w : World} (r : Rep W ι h w) : Step W ι h w ι h w.drew :=
  ⟨Map.le_refl _, r.drew, Nat.le_refl _, Nat.le_refl _, fun _ _ hk => ⟨rfl, hk⟩, fun _ _ => rfl, fun _ _ hk => hk⟩

/-! ### reading -/
/-- The cells at the call's begin. -/
abbrev Inp := Nat → Nat → Option AVal
def InpOk (W : World) (I : Inp) : Prop := ∀ b o v, I b o = some v → ∃ u, W.cell? ⟨(place b).1, (place b).2 + o, none⟩ = some u ∧ ∀ ι, VRel ι v u

def rdsInp (I : Inp) (b o : Nat) : Nat → Option (List AVal)
  | 0 => some []
  | n + 1 => match I b o with
    | none => none
    | some v => match rdsInp I b (o + 1) n with
      | none => none
      | some vs => some (v :: vs)

def rds (I : Inp) (h : AHeap) (l : Loc) (o n : Nat) : Option (List AVal) :=
  match l with
  | .inp b => rdsInp I b o n
  | .own k => match h.get k with
    | none => none
    | some b => match Nat.ble (o + n) b.cells.length with
      | true => some ((b.cells.drop o).take n)
      | false => none

def rd (I : Inp) (h : AHeap) (l : Loc) (o : Nat) : Option AVal :=
  match l with
  | .inp b => I b o
  | .own k => match h.get k with
    | none => none
    | some b => b.cells[o]?

theorem addr_add (b o j : Nat) : (⟨b, o, none⟩ : Addr).add j = ⟨b, o + j, none⟩ := by unfold Addr.add; split <;> simp_all

theorem rdsInp_sound {W : World} {I : Inp} (hI : InpOk W I) : ∀ (n b o : Nat) (cs : List AVal), rdsInp I b o n = some cs →
    cs.length = n ∧ ∃ us, (∀ ι, VRels ι cs us) ∧ ∀ j u, us[j]? = some u → W.cell? ⟨(place b).1, (place b).2 + (o + j), none⟩ = some u := by
  intro n
  induction n with
  | zero =>
    intro b o cs h
    simp only [rdsInp, Option.some.injEq] at h
    subst h
    exact ⟨rfl, [], fun _ => .nil, fun j u hj => by simp at hj⟩
  | succ n ih =>
    intro b o cs h
    simp only [rdsInp] at h
    split at h
    · cases h
    · rename_i v hv
      split at h
      · cases h
      · rename_i vs hvs
        simp only [Option.some.injEq] at h
        subst h
        obtain ⟨hl, us, hr, hc⟩ := ih b (o + 1) vs hvs
        obtain ⟨u, hu, hur⟩ := hI b o v hv
        refine ⟨by simp [hl], u :: us, fun ι => .cons (hur ι) (hr ι), fun j x hj => ?_⟩
        cases j with
        | zero => simp at hj; subst hj; exact hu
        | succ j =>
          have := hc j x (by simpa using hj)
          rw [show o + 1 + j = o + (j + 1) by omega] at this
          exact this

theorem rds_sound {W : World} {I : Inp} (hI : InpOk W I) {ι : Map} {h : AHeap} {w : World} (r : Rep W ι h w) {l : Loc} {o n : Nat} {cs : List AVal} {a : Addr}
    (hr : rds I h l o n = some cs) (ha : l.at ι o a) : cs.length = n ∧ ∃ us, VRels ι cs us ∧ ∀ j u, us[j]? = some u → w.cell? (a.add j) = some u := by
  cases l with
  | inp b =>
    obtain ⟨hl, us, h1, h2⟩ := rdsInp_sound hI n b o cs hr
    refine ⟨hl, us, h1 ι, fun j u hj => ?_⟩
    have hc := h2 j u hj
    have ha' : a = ⟨(place b).1, (place b).2 + o, none⟩ := ha
    subst ha'
    rw [addr_add, Nat.add_assoc]
    have hb : (place b).1 < W.heap.size := World.block_lt_of_cell? W ⟨(place b).1, (place b).2 + (o + j), none⟩ hc
    rw [r.below.cell (p := ⟨(place b).1, (place b).2 + (o + j), none⟩) hb]
    exact hc
  | own k =>
    simp only [rds] at hr
    split at hr
    · cases hr
    · rename_i b hb
      split at hr
      · rename_i hle
        have hle' := Nat.le_of_ble_eq_true hle
        simp only [Option.some.injEq] at hr
        subst hr
        obtain ⟨pl, hp, _, cs, e, fz, hg, _, _, hroom, hn, hlen, hcells⟩ := r.own k b hb
        obtain ⟨pl', hp', rfl⟩ := ha
        rw [hp] at hp'
        cases hp'
        have hlen2 : (List.take n (List.drop o b.cells)).length = n := by simp; omega
        refine ⟨hlen2, (cs.toList.drop (pl.off + o)).take n, ?_, ?_⟩
        · refine VRels.of_get (by simp; omega) fun i v u hv hu => ?_
          have hi : i < n := by
            have := (List.getElem?_eq_some_iff.1 hv).1
            rw [hlen2] at this; exact this
          rw [List.getElem?_take_of_lt hi, List.getElem?_drop] at hv hu
          obtain ⟨u', hu', hr'⟩ := hcells (o + i) v hv
          rw [← Nat.add_assoc] at hu'
          rw [Array.getElem?_toList, hu'] at hu
          cases hu
          exact hr'
        · intro j u hj
          rw [addr_add]
          have hjn : j < n := by
            have h1 := (List.getElem?_eq_some_iff.1 hj).1
            simp at h1; omega
          rw [List.getElem?_take_of_lt hjn, List.getElem?_drop, Array.getElem?_toList] at hj
          simp [World.cell?, hg, hj]
      · cases hr

theorem rd_sound {W : World} {I : Inp} (hI : InpOk W I) {ι : Map} {h : AHeap} {w : World} (r : Rep W ι h w) {l : Loc} {o : Nat} {v : AVal} {a : Addr}
    (hr : rd I h l o = some v) (ha : l.at ι o a) : ∃ u, w.cell? a = some u ∧ VRel ι v u := by
  cases l with
  | inp b =>
    obtain ⟨u, hu, hv⟩ := hI b o v hr
    have ha' : a = ⟨(place b).1, (place b).2 + o, none⟩ := ha
    subst ha'
    have hb : (place b).1 < W.heap.size := World.block_lt_of_cell? W ⟨(place b).1, (place b).2 + o, none⟩ hu
    exact ⟨u, by rw [r.below.cell (p := ⟨(place b).1, (place b).2 + o, none⟩) hb]; exact hu, hv ι⟩
  | own k =>
    simp only [rd] at hr
    split at hr
    · cases hr
    · rename_i b hb
      obtain ⟨pl, hp, _, cs, e, fz, hg, _, _, hroom, hn, hlen, hcells⟩ := r.own k b hb
      obtain ⟨pl', hp', rfl⟩ := ha
      rw [hp] at hp'
      cases hp'
      obtain ⟨u, hu, hv⟩ := hcells o v hr
      exact ⟨u, by simp [World.cell?, hg, hu], hv⟩

/-! ### writing -/
def setR {α : Type} (l : List α) (o : Nat) (xs : List α) : List α := l.take o ++ xs ++ l.drop (o + xs.length)

theorem setR_length {α : Type} {l : List α} {o : Nat} {xs : List α} (h : o + xs.length ≤ l.length) : (setR l o xs).length = l.length := by
  simp [setR]; omega

theorem setR_get {α : Type} {l : List α} {o : Nat} {xs : List α} (h : o + xs.length ≤ l.length) (i : Nat) :
    (setR l o xs)[i]? = if o ≤ i ∧ i < o + xs.length then xs[i - o]? else l[i]? := by
  unfold setR
  by_cases h1 : i < o
  · rw [List.append_assoc, List.getElem?_append_left (by simp; omega), List.getElem?_take_of_lt h1, if_neg (by omega)]
  · by_cases h2 : i < o + xs.length
    · rw [if_pos ⟨by omega, h2⟩, List.getElem?_append_left (by simp; omega), List.getElem?_append_right (by simp; omega)]
      congr 1
      simp; omega
    · rw [if_neg (by omega), List.getElem?_append_right (by simp; omega), List.getElem?_drop]
      congr 1
      simp; omega

/-- Some cells of a block are written. -/
def Blk.wr (b : Blk) (o : Nat) (cs : List AVal) : Option Blk :=
  match Nat.ble (o + cs.length) b.cells.length && cs.all AVal.one with
  | true => some { b with cells := setR b.cells o cs }
  | false => none

theorem run_storeCells_fz (P : Program) (g o : Nat) (t : TypeId) (fz : Nat × Nat) : ∀ (vs : List Value) (i : Nat) (cur : Array Value) (w : World), w.heap[g]? = some (.cells cur t fz) →
    (∀ j, j < cur.size → ¬ (fz.1 ≤ j ∧ j < fz.2)) → o + i + vs.length ≤ cur.size → (∀ v ∈ vs, v.oneCell' = true) →
    (storeCells ⟨g, o, none⟩ vs i).run P w = .ok () (w.setRow g (setR cur.toList (o + i) vs).toArray)
  | [], i, cur, w, hg, _, _, _ => by
    simp only [storeCells, setR, List.append_nil, List.length_nil, Nat.add_zero, List.take_append_drop, Array.toArray_toList]
    rw [setRow_self w g cur t fz hg]
    rfl
  | v :: rest, i, cur, w, hg, hz, hl, h1 => by
    have hi : o + i < cur.size := by simp at hl; omega
    have hadd : (⟨g, o, none⟩ : Addr).add i = ⟨g, o + i, none⟩ := by unfold Addr.add; split <;> simp_all
    have hcell : w.cell? ⟨g, o + i, none⟩ = some cur[o + i] := by simp [World.cell?, hg, hi]
    have hfro : w.frozen? ⟨g, o + i, none⟩ = false := by
      have := hz (o + i) hi
      simp [World.frozen?, hg]
      omega
    have hst : (store ((⟨g, o, none⟩ : Addr).add i) v).run P w = .ok () (w.setRow g (cur.setIfInBounds (o + i) v)) := by
      rw [hadd, run_store P w _ v _ (h1 v (by simp)), hcell]
      simp [hfro, setCell_eq_setRow w g (o + i) cur t fz v hg]
    have ih := run_storeCells_fz P g o t fz rest (i + 1) (cur.setIfInBounds (o + i) v) (w.setRow g (cur.setIfInBounds (o + i) v)) (setRow_heap w g cur _ t _ hg) (by simpa using hz) (by simp at hl ⊢; omega) (fun x hx => h1 x (by simp [hx]))
    simp only [storeCells, Sem.run_bind, hst, Result.andThen_ok, ih, setRow_setRow]
    congr 3
    have e := list_seg_step cur.toList (o + i) v rest (by simp at hl ⊢; omega)
    simpa [setR, Array.toList_setIfInBounds, Nat.add_assoc] using e

theorem setRow_other (w : World) (g : Nat) (cs : Array Value) (k : Nat) (h : k ≠ g) : (w.setRow g cs).heap[k]? = w.heap[k]? := by
  simp only [World.setRow, Array.getElem?_modify]
  rw [if_neg (by omega)]
theorem setRow_size (w : World) (g : Nat) (cs : Array Value) : (w.setRow g cs).heap.size = w.heap.size := by simp [World.setRow]

theorem wr_sound (P : Program) {W : World} {ι : Map} {h : AHeap} {w : World} (r : Rep W ι h w) {k o : Nat} {b b' : Blk} {cs : List AVal} {us : List Value} {a : Addr}
    (hk : h.get k = some b) (hw : b.wr o cs = some b') (ha : (Loc.own k).at ι o a) (hus : VRels ι cs us) :
    ∃ w', (storeCells a us).run P w = .ok () w' ∧ Step W ι h w ι (h.set k b') w' := by
  unfold Blk.wr at hw
  split at hw
  case h_2 => cases hw
  rename_i hc
  simp only [Bool.and_eq_true] at hc
  obtain ⟨hle, hone⟩ := hc
  have hle' := Nat.le_of_ble_eq_true hle
  simp only [Option.some.injEq] at hw
  subst hw
  obtain ⟨pl, hp, hbase, cur, e, fz, hg, hz, hplain, hroom, hn, hlen, hcells⟩ := r.own k b hk
  obtain ⟨pl', hp', rfl⟩ := ha
  rw [hp] at hp'
  cases hp'
  have hul : us.length = cs.length := hus.length.symm
  have hrun := run_storeCells_fz P pl.blk (pl.off + o) e fz us 0 cur w hg hz (by omega) (hus.one hone)
  refine ⟨_, hrun, ?_⟩
  have hnew := setRow_heap w pl.blk cur (setR cur.toList (pl.off + o + 0) us).toArray e fz hg
  have hfit : pl.off + o + 0 + us.length ≤ cur.toList.length := by simp; omega
  have hsize : ((setR cur.toList (pl.off + o + 0) us).toArray).size = cur.size := by rw [List.size_toArray, setR_length hfit]; simp
  refine ⟨Map.le_refl _, ⟨?_, ?_, ?_, r.fresh⟩, by rw [setRow_size]; exact Nat.le_refl _, Nat.le_refl _, ?_, fun _ _ => rfl, fun k2 _ h2 => by
    rw [AHeap.get_set]
    by_cases hkk : k2 = k
    · subst hkk; rw [hk] at h2; cases h2
    · rw [if_neg hkk]; exact h2⟩
  · refine r.below.trans ⟨rfl, rfl, rfl, by rw [setRow_size]; exact Nat.le_refl _, fun i hi => setRow_other _ _ _ _ (by omega)⟩
  · intro k2 b2 h2
    rw [AHeap.get_set] at h2
    by_cases hkk : k2 = k
    · subst hkk
      rw [if_pos rfl] at h2
      cases h2
      refine ⟨pl, hp, hbase, _, e, fz, hnew, by rw [hsize]; exact hz, hplain, by rw [hsize]; exact hroom, hn, ?_, ?_⟩
      · rw [setR_length (by omega)]; exact hlen
      · intro i v hv
        rw [setR_get (by omega)] at hv
        rw [List.getElem?_toArray, setR_get hfit]
        by_cases hin : o ≤ i ∧ i < o + cs.length
        · rw [if_pos hin] at hv
          rw [if_pos (by omega)]
          obtain ⟨u, hu, hru⟩ := hus.get hv
          refine ⟨u, ?_, hru⟩
          rw [← hu]
          congr 1
          omega
        · rw [if_neg hin] at hv
          rw [if_neg (by omega), Array.getElem?_toList]
          exact hcells i v hv
    · rw [if_neg hkk] at h2
      obtain ⟨pl2, hp2, hb2, cs2, e2, fz2, hg2, rest⟩ := r.own k2 b2 h2
      refine ⟨pl2, hp2, hb2, cs2, e2, fz2, ?_, rest⟩
      rw [setRow_other _ _ _ _ (fun e => hkk (r.inj k2 k b2 b pl2 pl h2 hk hp2 hp e))]
      exact hg2
  · intro k1 k2 b1 b2 pl1 pl2 h1 h2
    rw [AHeap.get_set] at h1 h2
    have h1' : ∃ b1', h.get k1 = some b1' := by
      by_cases hkk : k1 = k
      · exact ⟨b, hkk ▸ hk⟩
      · rw [if_neg hkk] at h1; exact ⟨_, h1⟩
    have h2' : ∃ b2', h.get k2 = some b2' := by
      by_cases hkk : k2 = k
      · exact ⟨b, hkk ▸ hk⟩
      · rw [if_neg hkk] at h2; exact ⟨_, h2⟩
    obtain ⟨_, h1'⟩ := h1'
    obtain ⟨_, h2'⟩ := h2'
    exact r.inj _ _ _ _ _ _ h1' h2'
  · intro g hgs hno
    refine ⟨setRow_other _ _ _ _ (fun e => hno k b pl hk hp e.symm), fun k2 b2 pl2 h2 hp2 => ?_⟩
    rw [AHeap.get_set] at h2
    by_cases hkk : k2 = k
    · subst hkk; exact hno k2 b pl2 hk hp2
    · rw [if_neg hkk] at h2; exact hno k2 b2 pl2 h2 hp2

/-! ### making -/
def Map.add (ι : Map) (k : Nat) (pl : Pl) : Map := fun j => if j = k then some pl else ι j
theorem Map.le_add {ι : Map} {k : Nat} {pl : Pl} (h : ι k = none) : ι.le (ι.add k pl) := fun j p hj => by
  unfold Map.add
  by_cases e : j = k
  · subst e; rw [h] at hj; cases hj
  · rw [if_neg e]; exact hj
theorem Map.add_self (ι : Map) (k : Nat) (pl : Pl) : ι.add k pl k = some pl := by simp [Map.add]

/-- A new block. 'spare': cells behind those that are known. -/
theorem alloc_sound {W : World} {ι : Map} {h : AHeap} {w : World} (r : Rep W ι h w) {b : Blk} {us : Array Value} {e : TypeId} {fz : Nat × Nat}
    (hr : h.room = true) (hus : ∀ (i : Nat) (v : AVal), b.cells[i]? = some v → ∃ u, us[i]? = some u ∧ VRel ι v u) (hl : b.cells.length ≤ us.size) (hz : ∀ o, o < us.size → ¬ (fz.1 ≤ o ∧ o < fz.2)) (hpl : b.plain = true → fz = (0, 0)) :
    Step W ι h w (ι.add h.next ⟨w.heap.size, 0, b.cells.length, us.size⟩) (h.alloc b) (w.alloc (.cells us e fz)) := by
  have hnone := r.fresh h.next (Nat.le_refl _)
  have hle : ι.le (ι.add h.next ⟨w.heap.size, 0, b.cells.length, us.size⟩) := Map.le_add hnone
  have hnew : (w.alloc (.cells us e fz)).heap[w.heap.size]? = some (.cells us e fz) := heap_alloc_new w _
  have hsz : (w.alloc (.cells us e fz)).heap.size = w.heap.size + 1 := by simp
  have live : ∀ k b, h.get k = some b → ∀ pl, ι k = some pl → pl.blk < w.heap.size := by
    intro k b hk pl hp
    obtain ⟨pl', hp', _, cs, e, fz, hg, _⟩ := r.own k b hk
    rw [hp] at hp'; cases hp'
    exact (Array.getElem?_eq_some_iff.1 hg).1
  refine ⟨hle, ⟨r.below.alloc r.below.size _, ?_, ?_, ?_⟩, by omega, by show h.next ≤ h.next + 1; omega, ?_, fun k hk => by unfold Map.add; rw [if_neg (by omega)], fun k hk hn => by rw [AHeap.get_alloc, if_neg (by omega)]; exact hn⟩
  · intro k2 b2 h2
    rw [AHeap.get_alloc] at h2
    by_cases hkk : k2 = h.next
    · subst hkk
      rw [if_pos rfl] at h2
      cases h2
      refine ⟨_, Map.add_self _ _ _, r.below.size, us, e, fz, hnew, hz, hpl, by simp, hl, rfl, fun i v hv => ?_⟩
      obtain ⟨u, hu, hru⟩ := hus i v hv
      exact ⟨u, by simpa using hu, hru.mono hle⟩
    · rw [if_neg hkk] at h2
      obtain ⟨pl2, hp2, hb2, cs2, e2, fz2, hg2, h3, h4, h5, h6, h7, h9⟩ := r.own k2 b2 h2
      refine ⟨pl2, hle _ _ hp2, hb2, cs2, e2, fz2, ?_, h3, h4, h5, h6, h7, fun i v hv => ?_⟩
      · rw [Below.heap_alloc _ _ _ (live k2 b2 h2 pl2 hp2)]; exact hg2
      · obtain ⟨u, hu, hru⟩ := h9 i v hv; exact ⟨u, hu, hru.mono hle⟩
  · intro k1 k2 b1 b2 pl1 pl2 h1 h2 hp1 hp2 he
    rw [AHeap.get_alloc] at h1 h2
    unfold Map.add at hp1 hp2
    by_cases e1 : k1 = h.next
    · by_cases e2 : k2 = h.next
      · omega
      · rw [if_pos e1] at hp1
        rw [if_neg e2] at hp2 h2
        cases hp1
        have := live k2 b2 h2 pl2 hp2
        simp at he; omega
    · rw [if_neg e1] at hp1 h1
      by_cases e2 : k2 = h.next
      · rw [if_pos e2] at hp2
        cases hp2
        have := live k1 b1 h1 pl1 hp1
        simp at he; omega
      · rw [if_neg e2] at hp2 h2
        exact r.inj _ _ _ _ _ _ h1 h2 hp1 hp2 he
  · intro k hk
    have : k ≠ h.next := by have : (h.alloc b).next = h.next + 1 := rfl; omega
    unfold Map.add
    rw [if_neg this]
    exact r.fresh k (by have : (h.alloc b).next = h.next + 1 := rfl; omega)
  · intro g hgs hno
    refine ⟨Below.heap_alloc _ _ _ hgs, fun k2 b2 pl2 h2 hp2 => ?_⟩
    rw [AHeap.get_alloc] at h2
    unfold Map.add at hp2
    by_cases e2 : k2 = h.next
    · rw [if_pos e2] at hp2; cases hp2; show w.heap.size ≠ g; omega
    · rw [if_neg e2] at hp2 h2; exact hno k2 b2 pl2 h2 hp2

/-- A block is forgotten. -/
theorem kill_sound {W : World} {ι : Map} {h : AHeap} {w : World} (r : Rep W ι h w) {k : Nat} {b : Blk} (hk : h.get k = some b) : Step W ι h w ι (h.kill k) w := by
  refine ⟨Map.le_refl _, ⟨r.below, ?_, ?_, r.fresh⟩, Nat.le_refl _, Nat.le_refl _, fun g hg hno => ⟨rfl, fun k2 b2 pl2 h2 => ?_⟩, fun _ _ => rfl, fun k2 _ h2 => by rw [AHeap.get_kill]; split <;> first | rfl | exact h2⟩
  · intro k2 b2 h2
    rw [AHeap.get_kill] at h2
    split at h2
    · cases h2
    · exact r.own k2 b2 h2
  · intro k1 k2 b1 b2 pl1 pl2 h1 h2
    rw [AHeap.get_kill] at h1 h2
    split at h1
    · cases h1
    · split at h2
      · cases h2
      · exact r.inj _ _ _ _ _ _ h1 h2
  · rw [AHeap.get_kill] at h2
    split at h2
    · cases h2
    · exact hno k2 b2 pl2 h2

end

end Go.AM
