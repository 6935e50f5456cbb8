/- AM, part 11: append: what the abstract machine computes is what the model computes. -/
import Derived.Test.YthihegmbdclikaaDoorAmSnd6
namespace Go.AM
noncomputable section
open Go.RowKit
set_option linter.unusedSectionVars false
variable [Sig]

section
variable {P : Program} {W : World} {I : Inp} {ι : Map} {h : AHeap} {w : World}

theorem run_append_room' {t u e ty : TypeId} {d : TypeDesc} {i : TypeInfo} (ht : P.underlying t = some (.slice e)) (hu : P.underlying u = some d) (hd : d = .string ∨ ∃ e', d = .slice e') (hi : P.info? e = some i)
    {a : Addr} {sLen sCap n : Nat} {q : Value} {us : List Value} {w w' : World} (hn : (Builtin.lenOf q).run P w = .ok n w) (hf : (Builtin.firstCells i.size n q).run P w = .ok us.toArray w)
    (hroom : sLen + n ≤ sCap) (hst : (storeCells (a.add (sLen * i.size)) us).run P w = .ok () w') :
    (Builtin.append_ #[t, u] ty #[.slice (some a) sLen sCap, q]).run P w = .ok (.slice (some a) (sLen + n) sCap) w' := by
  rcases hd with rfl | ⟨e', rfl⟩ <;> simp [Builtin.append_, run_underlying ht, run_underlying hu, run_sizeOf' hi, hn, hroom, hf, hst]

theorem run_append_grow' {t u e ty : TypeId} {d : TypeDesc} {i : TypeInfo} {z : Value} (ht : P.underlying t = some (.slice e)) (hu : P.underlying u = some d) (hd : d = .string ∨ ∃ e', d = .slice e') (hi : P.info? e = some i) (hz : i.zero = some z)
    {base : Option Addr} {sLen sCap n : Nat} {q : Value} {us olds : List Value} {w : World} (hn : (Builtin.lenOf q).run P w = .ok n w) (hf : (Builtin.firstCells i.size n q).run P w.drew = .ok us.toArray w.drew)
    (ho : (Builtin.firstCells i.size sLen (.slice base sLen sCap)).run P w.drew = .ok olds.toArray w.drew)
    (hg : sCap < sLen + n) (h63 : sLen + n ≤ 140737488355328) (hfit : (sLen + n) * i.bytes ≤ 140737488355328) :
    (Builtin.append_ #[t, u] ty #[.slice base sLen sCap, q]).run P w = .ok (.slice (some ⟨w.heap.size, 0, none⟩) (sLen + n) (grownCap w (sLen + n) sCap e))
      (w.drew.alloc (.cells (olds.toArray ++ us.toArray ++ Builtin.zeroCells z.cells (grownCap w (sLen + n) sCap e - (sLen + n))) e)) := by
  have hn' : ¬ (sLen + n ≤ sCap) := by omega
  have h63' : ¬ (9223372036854775807 < ((sLen : Int) + (n : Int))) := by omega
  have h48 := growslice_fits hg hfit
  have h48' : ¬ (281474976710656 < Builtin.nextslicecap (sLen + n) sCap * i.bytes) := by omega
  rcases hd with rfl | ⟨e', rfl⟩ <;>
    (simp [Builtin.append_, run_underlying ht, run_underlying hu, run_sizeOf' hi, typeInfo, zeroValue, hi, hz, hn, hn', h63', h48', Question.forced, hf, ho, newRow, grownCap]
     congr 2
     apply Array.ext'
     simp [List.append_assoc])

theorem src_sound (hI : InpOk W I) (r : Rep W ι h w) {sz n : Nat} {y : AVal} {q : Value} {news : List AVal} (hs : srcCells I h sz y = some (n, news)) (hy : VRel ι y q) (h0 : 0 < n) :
    ∃ us : List Value, VRels ι news us ∧ us.length = n * sz ∧ ∀ w' : World, w'.heap = w.heap → (Builtin.lenOf q).run P w' = .ok n w' ∧ (Builtin.firstCells sz n q).run P w' = .ok us.toArray w' := by
  unfold srcCells at hs
  split at hs
  · cases hs; omega
  · rename_i l o len cap
    split at hs
    · rename_i cs hcs
      cases hs
      obtain ⟨a, c, rfl, hlc, hat, _⟩ := inv_sl hy
      obtain ⟨hl, us, hr, hc⟩ := rds_sound hI r hcs (hat (by omega))
      refine ⟨us, hr, by rw [← hr.length, hl], fun w' hw' => ⟨by simp [Builtin.lenOf], ?_⟩⟩
      refine run_firstCells_some w' sz n a n c us (by rw [← hr.length, hl]) fun j v hj => ?_
      have := hc j v hj
      unfold World.cell? at this ⊢
      rw [hw']
      exact this
    · cases hs
  · rename_i s
    split at hs
    · rename_i hsz
      have hsz' : sz = 1 := by simpa using hsz
      subst hsz'
      cases hs
      obtain ⟨s', rfl, rfl⟩ := inv_str hy
      have hl : (s'.data.toList.map UInt8.toNat).length = s'.size := by simp
      refine ⟨(s'.data.map fun b => Value.int .u8 b.toNat).toList, ?_, by simp, fun w' _ => ⟨by rw [hl]; simp [Builtin.lenOf], ?_⟩⟩
      · refine VRels.of_get (by simp) fun i v u hv hu => ?_
        obtain ⟨u', hu', hr⟩ := bytes_cells (ι := ι) i v hv #[]
        simp only [Array.append_empty] at hu'
        rw [Array.getElem?_toList, hu'] at hu
        cases hu
        exact hr
      · have hx : s'.extract 0 s'.size = s' := by
          have : (s'.extract 0 s'.size).data = s'.data := by rw [ByteArray.data_extract]; exact Array.extract_size
          cases s'; cases hh : ByteArray.extract _ 0 _; rw [hh] at this; simpa using this
        rw [hl]
        simp only [Builtin.firstCells, hx, Array.toArray_toList]
        rfl
    · cases hs
  · cases hs

theorem zeroCells_size {z : Value} (n : Nat) : (Builtin.zeroCells z.cells n).size = n * z.cells.size := by simp [Builtin.zeroCells]

/-- The new row that an append makes. -/
theorem grow_step (r : Rep W ι h w) {sz need c : Nat} {e : TypeId} {olds news : List AVal} {uo un : List Value} {rest : Array Value} {plain : Bool} (hr : h.room = true) (ho : VRels ι olds uo) (hn : VRels ι news un)
    (hlen : olds.length + news.length = need * sz) (hrest : rest.size = (c - need) * sz) (hc : need ≤ c) (hsz : 0 < sz) :
    ∃ ι', VRel ι' (.sl (.own h.next) 0 need (.grown sz)) (.slice (some ⟨w.heap.size, 0, none⟩) need c) ∧ Step W ι h w ι' (h.alloc ⟨olds ++ news, plain⟩) (w.drew.alloc (.cells (uo.toArray ++ un.toArray ++ rest) e)) := by
  have hb := (ho.append hn)
  have hlo := ho.length
  have hln := hn.length
  have hst := (Step.drew r).trans (alloc_sound (W := W) (ι := ι) r.drew (b := ⟨olds ++ news, plain⟩) (us := uo.toArray ++ un.toArray ++ rest) (e := e) (fz := (0, 0)) hr
    (fun i v hv => by
      obtain ⟨u, hu, hr⟩ := hb.get hv
      refine ⟨u, ?_, hr⟩
      have hi := (List.getElem?_eq_some_iff.1 hu).1
      rw [Array.getElem?_append_left (by simpa using hi)]
      simpa using hu)
    (by simp; omega) (fun o _ hf => by simp at hf) (fun _ => rfl))
  refine ⟨_, .sl _ _ _ _ _ _ hc (fun _ => ⟨_, Map.add_self _ _ _, rfl⟩) ⟨_, _, rfl, Map.add_self _ _ _, ?_, ?_, hsz⟩, hst⟩
  · simp only [List.length_append]
    have : need * sz ≤ c * sz := Nat.mul_le_mul_right _ hc
    omega
  · simp only [Array.size_append, List.size_toArray]
    have : c * sz = need * sz + (c - need) * sz := by rw [← Nat.add_mul]; congr 1; omega
    omega

/-- An append in place: the block goes on under a new name. -/
theorem take_over (r : Rep W ι h w) {k : Nat} {b b' : Blk} {pl : Pl} {cs cs' : Array Value} {e : TypeId} {fz : Nat × Nat} {off n room : Nat} (hr : h.room = true) (hk : h.get k = some b) (hp : ι k = some pl) (hbase : W.heap.size ≤ pl.blk)
    (hg : w.heap[pl.blk]? = some (.cells cs e fz)) (hz : ∀ o, o < cs.size → ¬ (fz.1 ≤ o ∧ o < fz.2)) (hplain : b'.plain = true → fz = (0, 0)) (hs : cs'.size = cs.size)
    (h1 : off + room ≤ cs.size) (h2 : n ≤ room) (h3 : b'.cells.length = n) (h4 : ∀ (i : Nat) (v : AVal), b'.cells[i]? = some v → ∃ u, cs'[off + i]? = some u ∧ VRel ι v u) :
    Step W ι h w (ι.add h.next ⟨pl.blk, off, n, room⟩) ((h.kill k).alloc b') (w.setRow pl.blk cs') := by
  have hnone := r.fresh h.next (Nat.le_refl _)
  have hle : ι.le (ι.add h.next ⟨pl.blk, off, n, room⟩) := Map.le_add hnone
  have hnew := setRow_heap w pl.blk cs cs' e fz hg
  have hroom : (h.kill k).room = true := hr
  have hget : ∀ m, ((h.kill k).alloc b').get m = if m = h.next then some b' else if m = k then none else h.get m := by
    intro m
    rw [AHeap.get_alloc, show (h.kill k).next = h.next from rfl]
    by_cases hm : m = h.next
    · rw [if_pos hm, if_pos hm]
    · rw [if_neg hm, if_neg hm, AHeap.get_kill]
  refine ⟨hle, ⟨?_, ?_, ?_, ?_⟩, by rw [setRow_size]; exact Nat.le_refl _, by show h.next ≤ h.next + 1; omega, ?_,
    fun m hm => by unfold Map.add; rw [if_neg (by omega)], fun m hm hn => by rw [hget, if_neg (by omega)]; split <;> first | rfl | exact hn⟩
  · exact r.below.trans ⟨rfl, rfl, rfl, by rw [setRow_size]; exact Nat.le_refl _, fun i hi => setRow_other _ _ _ _ (by omega)⟩
  · intro m bm hm
    rw [hget] at hm
    by_cases e1 : m = h.next
    · rw [if_pos e1] at hm
      cases hm
      subst e1
      refine ⟨_, Map.add_self _ _ _, hbase, cs', e, fz, hnew, by rw [hs]; exact hz, hplain, by rw [hs]; exact h1, h2, h3, fun i v hv => ?_⟩
      obtain ⟨u, hu, hr⟩ := h4 i v hv
      exact ⟨u, hu, hr.mono hle⟩
    · rw [if_neg e1] at hm
      by_cases e2 : m = k
      · rw [if_pos e2] at hm; cases hm
      · rw [if_neg e2] at hm
        obtain ⟨pl2, hp2, hb2, cs2, e2', fz2, hg2, g1, g2, g3, g4, g5, g6⟩ := r.own m bm hm
        refine ⟨pl2, hle _ _ hp2, hb2, cs2, e2', fz2, ?_, g1, g2, g3, g4, g5, fun i v hv => ?_⟩
        · rw [setRow_other _ _ _ _ (fun e => e2 (r.inj m k bm b pl2 pl hm hk hp2 hp e))]; exact hg2
        · obtain ⟨u, hu, hr⟩ := g6 i v hv; exact ⟨u, hu, hr.mono hle⟩
  · intro m m' bm bm' plm plm' hm hm' hpm hpm' he
    rw [hget] at hm hm'
    unfold Map.add at hpm hpm'
    by_cases e1 : m = h.next
    · by_cases e1' : m' = h.next
      · omega
      · rw [if_neg e1'] at hm' hpm'
        rw [if_pos e1] at hpm
        cases hpm
        by_cases e2 : m' = k
        · rw [if_pos e2] at hm'; cases hm'
        · rw [if_neg e2] at hm'
          exact absurd (r.inj k m' b bm' pl plm' hk hm' hp hpm' he).symm e2
    · rw [if_neg e1] at hm hpm
      by_cases e2 : m = k
      · rw [if_pos e2] at hm; cases hm
      · rw [if_neg e2] at hm
        by_cases e1' : m' = h.next
        · rw [if_pos e1'] at hpm'
          cases hpm'
          exact absurd (r.inj m k bm b plm pl hm hk hpm hp he) e2
        · rw [if_neg e1'] at hm' hpm'
          by_cases e2' : m' = k
          · rw [if_pos e2'] at hm'; cases hm'
          · rw [if_neg e2'] at hm'
            exact r.inj _ _ _ _ _ _ hm hm' hpm hpm' he
  · intro m hm
    have h5 : ((h.kill k).alloc b').next = h.next + 1 := rfl
    unfold Map.add
    rw [if_neg (by omega)]
    exact r.fresh m (by omega)
  · intro g hgs hno
    refine ⟨setRow_other _ _ _ _ (fun e => hno k b pl hk hp e.symm), fun m bm plm hm hpm => ?_⟩
    rw [hget] at hm
    unfold Map.add at hpm
    by_cases e1 : m = h.next
    · rw [if_pos e1] at hpm; cases hpm; exact hno k b pl hk hp
    · rw [if_neg e1] at hm hpm
      by_cases e2 : m = k
      · rw [if_pos e2] at hm; cases hm
      · rw [if_neg e2] at hm; exact hno m bm plm hm hpm

set_option maxHeartbeats 1000000 in
theorem append_op (hI : InpOk W I) (r : Rep W ι h w) {t u e ty : TypeId} {d : TypeDesc} {i : TypeInfo} {z : AVal} (ht : P.underlying t = some (.slice e)) (hu : P.underlying u = some d) (hd : d = .string ∨ ∃ e', d = .slice e') (hi : P.info? e = some i)
    (hz : zeroP P e = some z) (hzl : z.cells.length = i.size) (hpos : 0 < i.size) {x y v : AVal} {p q : Value} {h' : AHeap} (hx : VRel ι x p) (hy : VRel ι y q) (ha : appendTo I h i.size i.bytes x y = some (v, h')) :
    ∃ u' w' ι', (Builtin.append_ #[t, u] ty #[p, q]).run P w = .ok u' w' ∧ VRel ι' v u' ∧ Step W ι h w ι' h' w' := by
  obtain ⟨i', zv, hi', hzv, hzrel⟩ := zeroP_spec hz
  rw [hi] at hi'; cases hi'
  have hzs : zv.cells.size = i.size := by
    have := (hzrel ι).cells.length
    simp only [Array.length_toList] at this
    omega
  unfold appendTo at ha
  split at ha
  · cases ha
  rename_i n news hs
  split at ha
  · -- nothing is appended
    have hlen0 : (Builtin.lenOf q).run P w = .ok 0 w ∧ (Builtin.firstCells i.size 0 q).run P w = .ok ([] : List Value).toArray w := by
      unfold srcCells at hs
      split at hs
      · rw [inv_nils hy]; simp [Builtin.lenOf, Builtin.firstCells]
      · split at hs
        · cases hs
          obtain ⟨a, c, rfl, _⟩ := inv_sl hy
          exact ⟨by simp [Builtin.lenOf], run_firstCells_some w i.size 0 a 0 c [] (by simp) (by simp)⟩
        · cases hs
      · split at hs
        · rename_i s _ _
          simp only [Option.some.injEq, Prod.mk.injEq] at hs
          obtain ⟨s', rfl, hs1⟩ := inv_str hy
          have hsz0 : s'.size = 0 := by
            have h1 := congrArg List.length hs1
            have h2 : s.length = s'.size := by simpa using h1
            omega
          have he : s'.extract 0 0 = .empty := by simp
          exact ⟨by simp [Builtin.lenOf, hsz0], by simp [Builtin.firstCells]⟩
        · cases hs
      · cases hs
    split at ha
    · cases ha
      rw [inv_nils hx]
      have : (Builtin.append_ #[t, u] ty #[.slice none 0 0, q]).run P w = .ok (.slice none 0 0) w := by
        rcases hd with rfl | ⟨e', rfl⟩ <;> simp [Builtin.append_, run_underlying ht, run_underlying hu, run_sizeOf' hi, hlen0.1, hlen0.2]
      exact ⟨_, _, _, this, .nils, Step.refl r⟩
    · cases ha
      obtain ⟨a, c, rfl, hlc, hat, hok⟩ := inv_sl hx
      have := run_append_room' (ty := ty) ht hu hd hi (a := a) (sCap := c) hlen0.1 hlen0.2 (by omega) (w' := w) rfl
      exact ⟨_, _, _, this, hx, Step.refl r⟩
    · cases ha
  · rename_i n
    split at ha
    · cases ha
    rename_i hone
    obtain ⟨us, hus, hul, hrun⟩ := src_sound (P := P) hI r hs hy (by omega)
    split at ha
    · -- onto nil
      split at ha
      · rename_i hc
        cases ha
        simp only [Bool.and_eq_true] at hc
        obtain ⟨⟨hr, hb⟩, hb2⟩ := hc
        rw [inv_nils hx]
        have hb' := Nat.le_of_ble_eq_true hb
        have hb2' := Nat.le_of_ble_eq_true hb2
        simp only [bigRoom] at hb' hb2'
        have := run_append_grow' (ty := ty) ht hu hd hi hzv (base := none) (sLen := 0) (sCap := 0) (n := n + 1) (olds := []) (hrun w rfl).1 (hrun w.drew rfl).2 (by simp [Builtin.firstCells]) (by omega) (by omega) (by simpa using hb')
        obtain ⟨ι', hv, hst⟩ := grow_step (plain := true) (e := e) (sz := i.size) (need := n + 1) (c := grownCap w (0 + (n + 1)) 0 e) (rest := Builtin.zeroCells zv.cells (grownCap w (0 + (n + 1)) 0 e - (0 + (n + 1)))) r hr (.nil) hus
          (by rw [List.length_nil, Nat.zero_add, hus.length, hul]) (by rw [zeroCells_size, hzs]; simp) (by have := grownCap_ge w (0 + (n + 1)) 0 e; omega) hpos
        rw [Nat.zero_add] at this hv hst
        exact ⟨_, _, _, this, hv, by simpa using hst⟩
      · cases ha
    · rename_i l o len cap
      obtain ⟨a, c, rfl, hlc, hat, hok⟩ := inv_sl hx
      split at ha
      · cases ha
      rename_i hc
      simp only [Bool.and_eq_true] at hc
      have hb1 := Nat.le_of_ble_eq_true hc.1
      have hb2 := Nat.le_of_ble_eq_true hc.2
      simp only [bigRoom] at hb1 hb2
      split at ha
      · -- the capacity is known
        rename_i c'
        have hcc : c = c' := hok
        subst hcc
        split at ha
        · rename_i hle
          have hle' := Nat.le_of_ble_eq_true hle
          split at ha
          · rename_i k
            split at ha
            · rename_i b hk
              split at ha
              · rename_i b' hw
                cases ha
                have hat' := Loc.at_add (k := len * i.size) (hat (by omega))
                obtain ⟨w', hst, hstep⟩ := wr_sound P r hk hw hat' hus
                have := run_append_room' (ty := ty) ht hu hd hi (a := a) (sCap := c) (hrun w rfl).1 (hrun w rfl).2 hle' hst
                exact ⟨_, _, _, this, .sl _ _ _ _ _ _ hle' hat rfl, hstep⟩
              · cases ha
            · cases ha
          · cases ha
        · rename_i hle
          have hgt : c < len + (n + 1) := by
            rcases Nat.lt_or_ge c (len + (n + 1)) with h1 | h1
            · exact h1
            · have := Nat.ble_eq_true_of_le h1; rw [this] at hle; cases hle
          split at ha
          · rename_i olds ho hr
            split at ha
            · cases ha
              have hold : ∃ uo : List Value, VRels ι olds uo ∧ uo.length = len * i.size ∧ (Builtin.firstCells i.size len (.slice (some a) len c)).run P w.drew = .ok uo.toArray w.drew := by
                rcases Nat.eq_zero_or_pos c with h0 | h0
                · have hl0 : len = 0 := by omega
                  subst hl0
                  have hol : olds = [] := by
                    have : olds.length = 0 := by
                      cases l with
                      | inp b => simp only [rds, Nat.zero_mul, rdsInp, Option.some.injEq] at ho; subst ho; rfl
                      | own k =>
                        simp only [rds] at ho
                        split at ho
                        · cases ho
                        · split at ho
                          · cases ho; simp
                          · cases ho
                    exact List.length_eq_zero_iff.1 this
                  subst hol
                  exact ⟨[], .nil, by simp, run_firstCells_some w.drew i.size 0 a 0 c [] (by simp) (by simp)⟩
                · obtain ⟨hl, uo, hro, hco⟩ := rds_sound hI r ho (hat h0)
                  exact ⟨uo, hro, by rw [← hro.length, hl], run_firstCells_some w.drew i.size len a len c uo (by rw [← hro.length, hl]) hco⟩
              obtain ⟨uo, hro, hlo, hfo⟩ := hold
              have := run_append_grow' (ty := ty) ht hu hd hi hzv (base := some a) (sLen := len) (sCap := c) (n := n + 1) (olds := uo) (hrun w rfl).1 (hrun w.drew rfl).2 hfo hgt hb2 hb1
              obtain ⟨ι', hv, hst⟩ := grow_step (plain := true) (e := e) (sz := i.size) (need := len + (n + 1)) (c := grownCap w (len + (n + 1)) c e) (rest := Builtin.zeroCells zv.cells (grownCap w (len + (n + 1)) c e - (len + (n + 1)))) r hr hro hus
                (by rw [hro.length, hlo, hus.length, hul, ← Nat.add_mul]) (by rw [zeroCells_size, hzs]) (grownCap_ge w _ _ e) hpos
              exact ⟨_, _, _, this, hv, hst⟩
            · cases ha
          · cases ha
      · -- it was grown
        rename_i s
        split at ha
        · cases ha
        · rename_i k
          split at ha
          · cases ha
          · rename_i b hk
            split at ha
            · cases ha
            · rename_i hc2
              simp only [Bool.and_eq_true, Nat.beq_eq] at hc2
              obtain ⟨rfl, hble⟩ := hc2
              have hble' := Nat.le_of_ble_eq_true hble
              obtain ⟨k', pl, hkk, hp, hn1, hn2, _⟩ := hok
              cases hkk
              obtain ⟨pl', hp', hbase, cs, e2, fz, hg, hz0, hplain, hroom, hnr, hlb, hcells⟩ := r.own k b hk
              rw [hp] at hp'; cases hp'
              split at ha
              · -- within what is known
                rename_i hin
                have hin' := Nat.le_of_ble_eq_true hin
                split at ha
                · rename_i b' hw
                  cases ha
                  have hnl := hus.length
                  have hul' : us.length = (n + 1) * i.size := hul
                  have hfit : len + (n + 1) ≤ c := by
                    rcases Nat.lt_or_ge c (len + (n + 1)) with h1 | h1
                    · have : (c + 1) * i.size ≤ (len + (n + 1)) * i.size := Nat.mul_le_mul_right _ h1
                      rw [Nat.add_mul, Nat.one_mul] at this
                      rw [Nat.add_mul] at this
                      omega
                    · exact h1
                  have hat' := Loc.at_add (k := len * i.size) (hat (by omega))
                  obtain ⟨w', hst, hstep⟩ := wr_sound P r hk hw hat' hus
                  have := run_append_room' (ty := ty) ht hu hd hi (a := a) (sCap := c) (hrun w rfl).1 (hrun w rfl).2 hfit hst
                  exact ⟨_, _, _, this, .sl _ _ _ _ _ _ hfit hat ⟨k, pl, rfl, hp, hn1, hn2, hpos⟩, hstep⟩
                · cases ha
              · -- beyond it: in place or not, nobody knows
                split at ha
                · rename_i hc3
                  cases ha
                  simp only [Bool.and_eq_true] at hc3
                  obtain ⟨hr, hone2⟩ := hc3
                  have holds : rds I h (.own k) o (len * i.size) = some ((b.cells.drop o).take (len * i.size)) := by
                    simp only [rds, hk, hble]
                  rcases Nat.lt_or_ge c (len + (n + 1)) with hgt | hfit
                  · -- a new array
                    have hold : ∃ uo : List Value, VRels ι ((b.cells.drop o).take (len * i.size)) uo ∧ uo.length = len * i.size ∧ (Builtin.firstCells i.size len (.slice (some a) len c)).run P w.drew = .ok uo.toArray w.drew := by
                      rcases Nat.eq_zero_or_pos c with h0 | h0
                      · have hl0 : len = 0 := by omega
                        subst hl0
                        exact ⟨[], by simpa using VRels.nil, by simp, run_firstCells_some w.drew i.size 0 a 0 c [] (by simp) (by simp)⟩
                      · obtain ⟨hl, uo, hro, hco⟩ := rds_sound hI r holds (hat h0)
                        exact ⟨uo, hro, by rw [← hro.length, hl], run_firstCells_some w.drew i.size len a len c uo (by rw [← hro.length, hl]) hco⟩
                    obtain ⟨uo, hro, hlo, hfo⟩ := hold
                    have := run_append_grow' (ty := ty) ht hu hd hi hzv (base := some a) (sLen := len) (sCap := c) (n := n + 1) (olds := uo) (hrun w rfl).1 (hrun w.drew rfl).2 hfo hgt hb2 hb1
                    have hkill := kill_sound r hk
                    obtain ⟨ι', hv, hst⟩ := grow_step (plain := b.plain) (e := e) (sz := i.size) (need := len + (n + 1)) (c := grownCap w (len + (n + 1)) c e) (rest := Builtin.zeroCells zv.cells (grownCap w (len + (n + 1)) c e - (len + (n + 1)))) hkill.rep hr hro hus
                      (by rw [hro.length, hlo, hus.length, hul, ← Nat.add_mul]) (by rw [zeroCells_size, hzs]) (grownCap_ge w _ _ e) hpos
                    exact ⟨_, _, _, this, hv, hkill.trans hst⟩
                  · -- in place
                    have ha0 := hat (by omega)
                    obtain ⟨pl2, hp2, rfl⟩ := ha0
                    rw [hp] at hp2
                    cases hp2
                    have hc1 : (len + (n + 1)) * i.size ≤ c * i.size := Nat.mul_le_mul_right _ hfit
                    have hc2 : (len + (n + 1)) * i.size = len * i.size + us.length := by rw [hul, Nat.add_mul]
                    have hfz := run_storeCells_fz P pl.blk (pl.off + o + len * i.size) e2 fz us 0 cs w hg hz0 (by omega) (hus.one hone)
                    have hst : (storeCells ((⟨pl.blk, pl.off + o, none⟩ : Addr).add (len * i.size)) us).run P w = .ok () (w.setRow pl.blk (setR cs.toList (pl.off + o + len * i.size + 0) us).toArray) := by
                      rw [addr_add]; exact hfz
                    have := run_append_room' (ty := ty) ht hu hd hi (a := ⟨pl.blk, pl.off + o, none⟩) (sCap := c) (hrun w rfl).1 (hrun w rfl).2 hfit hst
                    have hfit2 : pl.off + o + len * i.size + 0 + us.length ≤ cs.toList.length := by simp; omega
                    have hol : ((b.cells.drop o).take (len * i.size)).length = len * i.size := by simp; omega
                    have hstep := take_over (b' := ⟨(b.cells.drop o).take (len * i.size) ++ news, b.plain⟩) (cs' := (setR cs.toList (pl.off + o + len * i.size + 0) us).toArray) (off := pl.off + o) (n := (len + (n + 1)) * i.size) (room := pl.room - o) r hr hk hp hbase hg hz0 hplain
                      (by rw [List.size_toArray, setR_length hfit2]; simp) (by omega) (by omega) (by simp only [List.length_append, hol, hus.length]; omega)
                      (fun j v hv => by
                        rw [List.getElem?_toArray, setR_get hfit2]
                        by_cases hj : j < len * i.size
                        · rw [List.getElem?_append_left (by omega), List.getElem?_take_of_lt hj, List.getElem?_drop] at hv
                          rw [if_neg (by omega), Array.getElem?_toList, Nat.add_assoc]
                          exact hcells (o + j) v hv
                        · rw [List.getElem?_append_right (by omega), hol] at hv
                          have hj2 : j - len * i.size < us.length := by
                            have := (List.getElem?_eq_some_iff.1 hv).1
                            rw [hus.length] at this; exact this
                          obtain ⟨u, hu1, hr1⟩ := hus.get hv
                          rw [if_pos (by omega)]
                          exact ⟨u, by rw [← hu1]; congr 1; omega, hr1⟩)
                    exact ⟨_, _, _, this, .sl _ _ _ _ _ _ hfit (fun _ => ⟨_, Map.add_self _ _ _, rfl⟩) ⟨_, _, rfl, Map.add_self _ _ _, by show (len + (n + 1)) * i.size ≤ 0 + c * i.size; omega, by show 0 + c * i.size ≤ pl.room - o; omega, hpos⟩, hstep⟩
                · cases ha
    · cases ha
end

end

end Go.AM
