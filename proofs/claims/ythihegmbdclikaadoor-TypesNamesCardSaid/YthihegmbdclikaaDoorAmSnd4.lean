/- AM, part 8: loads, stores, conversions, cuts, indexes, append: what the abstract machine computes is what the model computes. -/
import Derived.Test.YthihegmbdclikaaDoorAmSnd3
namespace Go.AM
noncomputable section
open Go.RowKit
set_option linter.unusedSectionVars false
variable [Sig]

section
variable {P : Program} {W : World} {I : Inp} {ι : Map} {h : AHeap} {w : World}

theorem load1_op (hI : InpOk W I) (r : Rep W ι h w) {t : TypeId} {l : Loc} {o : Nat} {p : Value} {v : AVal} (ht : isAggP P t = some false) (hx : VRel ι (.ptr l o) p) (hv : rd I h l o = some v) :
    ∃ u, (Instr.loadAt t p).run P w = .ok u w ∧ VRel ι v u := by
  obtain ⟨a, rfl, ha⟩ := inv_ptr hx
  obtain ⟨u, hu, hr⟩ := rd_sound hI r hv ha
  exact ⟨u, by simp [Instr.loadAt, Instr.sureAddr, loadVar, isAggP_spec ht, run_load, hu], hr⟩

theorem loadN_op (hI : InpOk W I) (r : Rep W ι h w) {t : TypeId} {n : Nat} {l : Loc} {o : Nat} {p : Value} {cs : List AVal} (ht : isAggP P t = some true) (hn : sizeP P t = some n)
    (hx : VRel ι (.ptr l o) p) (hv : rds I h l o n = some cs) : ∃ u, (Instr.loadAt t p).run P w = .ok u w ∧ VRel ι (.agg cs) u := by
  obtain ⟨a, rfl, ha⟩ := inv_ptr hx
  obtain ⟨i, hi, hs⟩ := sizeP_spec hn
  obtain ⟨hl, us, hr, hc⟩ := rds_sound hI r hv ha
  have hlen : us.length = n := by rw [← hr.length, hl]
  have := run_loadCells_list (P := P) w a us hc
  rw [hlen] at this
  exact ⟨.agg us.toArray, by simp [Instr.loadAt, Instr.sureAddr, loadVar, isAggP_spec ht, run_sizeOf' hi, hs, this], .agg _ _ (by simpa using hr)⟩

theorem store_op (r : Rep W ι h w) {t : TypeId} {n k o : Nat} {p q : Value} {x : AVal} {b b' : Blk} (hn : sizeP P t = some n) (hp : VRel ι (.ptr (.own k) o) p) (hq : VRel ι x q)
    (hl : x.cells.length = n) (hk : h.get k = some b) (hw : b.wr o x.cells = some b') : ∃ w', (Instr.storeAt t p q).run P w = .ok () w' ∧ Step W ι h w ι (h.set k b') w' := by
  obtain ⟨a, rfl, ha⟩ := inv_ptr hp
  obtain ⟨i, hi, hs⟩ := sizeP_spec hn
  obtain ⟨w', hrun, hst⟩ := wr_sound P r hk hw ha hq.cells
  have hsz : q.cells.size = i.size := by
    have := hq.cells.length
    simp only [Array.length_toList] at this
    omega
  exact ⟨w', by simp [Instr.storeAt, Instr.sureAddr, storeVar, run_sizeOf' hi, hsz, hrun], hst⟩

/-! ### strings and bytes -/
theorem bytes_cells {s : ByteArray} (i : Nat) (v : AVal) (hv : ((s.data.toList.map UInt8.toNat).map fun b : Nat => AVal.int .u8 (.ofNat b))[i]? = some v) (rest : Array Value) :
    ∃ u, (s.data.map (fun b => Value.int .u8 b.toNat) ++ rest)[i]? = some u ∧ VRel ι v u := by
  simp only [List.getElem?_map, Option.map_eq_some_iff] at hv
  obtain ⟨_, ⟨b, hb, rfl⟩, rfl⟩ := hv
  refine ⟨.int .u8 b.toNat, ?_, .int _ _⟩
  have hi : i < s.data.size := by
    have := (List.getElem?_eq_some_iff.1 hb).1
    simpa using this
  rw [Array.getElem?_append_left (by simpa using hi)]
  simp only [Array.getElem?_map]
  rw [Array.getElem?_toList] at hb
  rw [hb]
  rfl

theorem grownCap_ge (w : World) (need old : Nat) (e : TypeId) : need ≤ grownCap w need old e := by simp [grownCap, Question.cut]

theorem toBytes_op (r : Rep W ι h w) {src dst e : TypeId} {s : List Nat} {p : Value} (hs : P.underlying src = some .string) (hd : P.underlying dst = some (.slice e)) (he : P.underlying e = some (.int .u8))
    (hp : VRel ι (.str s) p) (hr : h.room = true) :
    ∃ u w' ι', (convert src dst p).run P w = .ok u w' ∧ VRel ι' (.sl (.own h.next) 0 s.length (.grown 1)) u ∧ Step W ι h w ι' (h.alloc ⟨s.map fun b : Nat => .int .u8 (.ofNat b), false⟩) w' := by
  obtain ⟨s', rfl, rfl⟩ := inv_str hp
  have hb := run_bytes_of_string (P := P) w src dst e s' hs hd he
  have hc := grownCap_ge w s'.size 0 e
  have hsz : s'.data.size = s'.size := rfl
  have hst := (Step.drew r).trans (alloc_sound (W := W) (ι := ι) r.drew (b := ⟨(s'.data.toList.map UInt8.toNat).map fun b : Nat => .int .u8 (.ofNat b), false⟩) (us := bytesRow s' (grownCap w s'.size 0 e)) (e := e)
      (fz := ((bytesRow s' (grownCap w s'.size 0 e)).size, (bytesRow s' (grownCap w s'.size 0 e)).size + 1)) hr (fun i v hv => bytes_cells i v hv _) (by simp [bytesRow]) (fun o ho hf => by omega) (fun hh => by cases hh))
  have hv := VRel.sl (ι := ι.add h.next ⟨w.drew.heap.size, 0, ((s'.data.toList.map UInt8.toNat).map fun b : Nat => AVal.int .u8 (.ofNat b)).length, (bytesRow s' (grownCap w s'.size 0 e)).size⟩)
    (.own h.next) 0 s'.size (.grown 1) ⟨w.heap.size, 0, none⟩ (grownCap w s'.size 0 e) hc (fun _ => ⟨_, Map.add_self _ _ _, rfl⟩)
    ⟨_, _, rfl, Map.add_self _ _ _, by simp [hsz]; exact hc, by simp [bytesRow, hsz]; omega, Nat.one_pos⟩
  have hlen : (s'.data.toList.map UInt8.toNat).length = s'.size := by simp [hsz]
  rw [hlen]
  exact ⟨_, _, _, hb, hv, hst⟩

theorem mapM_bytes : ∀ {cs : List AVal} {bs : List Nat}, cs.mapM (m := Option) (fun | .int .u8 (.ofNat b) => (match Nat.blt b 256 with | true => some b | false => none) | _ => none) = some bs →
    cs = bs.map (fun b : Nat => AVal.int .u8 (.ofNat b)) ∧ ∀ b ∈ bs, b < 256 := by
  intro cs
  induction cs with
  | nil => intro bs hb; simp at hb; subst hb; simp
  | cons c r ih =>
    intro bs hb
    rw [List.mapM_cons] at hb
    simp only [bind, Option.bind_eq_some_iff, pure, Option.some.injEq] at hb
    obtain ⟨b, hb1, bs', hb2, rfl⟩ := hb
    split at hb1
    · rename_i b0
      split at hb1
      · rename_i hlt
        cases hb1
        obtain ⟨h1, h2⟩ := ih hb2
        refine ⟨by rw [h1]; rfl, fun x hx => ?_⟩
        have hlt' : b < 256 := by have := Nat.le_of_ble_eq_true hlt; omega
        cases hx with
        | head => exact hlt'
        | tail _ hm => exact h2 x hm
      · cases hb1
    · cases hb1

theorem rels_bytes : ∀ {bs : List Nat} {us : List Value}, VRels ι (bs.map (fun b : Nat => AVal.int .u8 (.ofNat b))) us → us = (bs.map (fun b : Nat => (b : Int))).map (Value.int .u8)
  | [], _, hr => by cases hr; rfl
  | b :: bs, _, hr => by
    cases hr with
    | cons hv hs => rw [inv_int hv, rels_bytes hs]; rfl

theorem toStr_nil {src dst e : TypeId} (hs : P.underlying src = some (.slice e)) (hd : P.underlying dst = some .string) (he : P.underlying e = some (.int .u8)) (w : World) :
    (convert src dst (.slice none 0 0)).run P w = .ok (.string .empty) w := by
  simp [convert, run_underlying hs, run_underlying hd, run_underlying he, Conv.bytesToString]

theorem ofNat_toNat_bytes : ∀ (bs : List Nat), (∀ b ∈ bs, b < 256) → ((bs.map (fun b : Nat => (b : Int))).map fun n => UInt8.ofNat n.toNat).map UInt8.toNat = bs
  | [], _ => rfl
  | b :: bs, hb => by
    simp only [List.map_cons, Int.toNat_natCast]
    rw [ofNat_toNat_bytes bs (fun x hx => hb x (by simp [hx]))]
    congr 1
    have := hb b (by simp)
    simp; omega

theorem foldl_push : ∀ (l : List Int) (r : ByteArray), (l.foldl (fun r n => r.push (UInt8.ofNat n.toNat)) r).data.toList = r.data.toList ++ l.map fun n => UInt8.ofNat n.toNat
  | [], r => by simp
  | x :: l, r => by rw [List.foldl_cons, foldl_push l]; simp [ByteArray.push]

theorem toStr_op (hI : InpOk W I) (r : Rep W ι h w) {src dst e : TypeId} {l : Loc} {o n : Nat} {cap : Cap} {p : Value} {cs : List AVal} {bs : List Nat} (hs : P.underlying src = some (.slice e)) (hd : P.underlying dst = some .string) (he : P.underlying e = some (.int .u8))
    (hp : VRel ι (.sl l o n cap) p) (hv : rds I h l o n = some cs) (hb : cs.mapM (m := Option) (fun | .int .u8 (.ofNat b) => (match Nat.blt b 256 with | true => some b | false => none) | _ => none) = some bs) :
    ∃ u, (convert src dst p).run P w = .ok u w ∧ VRel ι (.str bs) u := by
  obtain ⟨a, c, rfl, hlc, hat, _⟩ := inv_sl hp
  obtain ⟨hcs, hlt⟩ := mapM_bytes hb
  rcases Nat.eq_zero_or_pos n with hn | hn
  · subst hn
    have : cs = [] := by
      have : cs.length = 0 := by
        cases l with
        | inp b => simp only [rds, rdsInp, Option.some.injEq] at hv; subst hv; rfl
        | own k =>
          simp only [rds] at hv
          split at hv
          · cases hv
          · split at hv
            · cases hv; simp
            · cases hv
      exact List.length_eq_zero_iff.1 this
    subst this
    have hbs : bs = [] := by cases bs with | nil => rfl | cons _ _ => cases hcs
    subst hbs
    refine ⟨.string .empty, ?_, .str _ _ rfl⟩
    have hl := run_loadCells_list (P := P) w a [] (by simp)
    have := run_bytesToString (P := P) w a 0 c [] (by simpa using hl)
    simp [convert, run_underlying hs, run_underlying hd, run_underlying he, this]
  · obtain ⟨hl, us, hr, hc⟩ := rds_sound hI r hv (hat (by omega))
    rw [hcs] at hr
    have hus := rels_bytes hr
    have hlen : us.length = n := by rw [← hr.length, ← hcs, hl]
    have h1 := run_loadCells_list (P := P) w a us hc
    rw [hlen, hus] at h1
    have := run_bytesToString (P := P) w a n c (bs.map (fun b : Nat => (b : Int))) h1
    refine ⟨_, by simp only [convert, run_underlying hs, run_underlying hd, run_underlying he, Sem.run_bind, Result.andThen_ok]; exact this, .str _ _ ?_⟩
    rw [foldl_push]
    show bs = ([] ++ _).map _
    rw [List.nil_append, ofNat_toNat_bytes bs hlt]
end

end

end Go.AM
