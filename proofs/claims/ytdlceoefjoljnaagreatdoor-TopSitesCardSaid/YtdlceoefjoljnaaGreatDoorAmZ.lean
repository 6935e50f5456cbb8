/- The abstract machine AM, merged, part 3: a deterministic evaluator of the program that is proved sound for the model. Conditions: as each lemma says. -/
import Derived.Test.YtdlceoefjoljnaaGreatDoorAmC
/- AM, part 46: the round of a walk that turns rows. Conditions: as each lemma says. -/
namespace Go.AM
noncomputable section
open Go.RowKit
set_option linter.unusedSectionVars false
set_option linter.unusedSimpArgs false
theorem map_inj_of_nodup {α β : Type} {g : α → β} : ∀ {l : List α}, (l.map g).Nodup → ∀ x ∈ l, ∀ y ∈ l, g x = g y → x = y
 | [], _, x, hx, _, _, _ => by cases hx
 | z :: l, h, x, hx, y, hy, he => by
   simp only [List.map_cons, List.nodup_cons] at h
   rcases List.mem_cons.1 hx with e1 | hx'
   · rcases List.mem_cons.1 hy with e2 | hy'
     · rw [e1, e2]
     · exact absurd (List.mem_map.2 ⟨y, hy', by rw [← e1]; exact he.symm⟩) h.1
   · rcases List.mem_cons.1 hy with e2 | hy'
     · exact absurd (List.mem_map.2 ⟨x, hx', by rw [← e2]; exact he⟩) h.1
     · exact map_inj_of_nodup h.2 x hx' y hy' he
theorem sumN_append : ∀ (a b : List Trn), sumN (a ++ b) = sumN a + sumN b
 | [], b => by simp [sumN]
 | x :: a, b => by simp only [List.cons_append, sumN, sumN_append a b]; omega
theorem sumN_perm {a b : List Trn} (h : a.Perm b) : sumN a = sumN b := by
 induction h with
 | nil => rfl
 | cons x _ ih => simp only [sumN, ih]
 | swap x y l => simp only [sumN]; omega
 | trans _ _ h1 h2 => exact h1.trans h2
theorem eqbs_ints : ∀ l : List Int, AVal.eqbs (l.map (AVal.int .i64)) (l.map (AVal.int .i64)) = true
 | [] => rfl
 | x :: l => by
   simp only [List.map_cons, AVal.eqbs, AVal.eqb, eqbs_ints l]
   simp
theorem eqbPtr (l : Loc) (o : Nat) : AVal.eqb (.ptr l o) (.ptr l o) = true := by
 have : l.eqb l = true := by cases l <;> simp [Loc.eqb]
 simp only [AVal.eqb, this, Nat.beq_refl]; rfl
theorem eqbMap (k : Nat) : AVal.eqb (.map k) (.map k) = true := by simp only [AVal.eqb, Nat.beq_refl]
section
variable {P : Program} {I : Inp} {call : CallFn} {d : Option Nat} {f : Fr} {h h1 : AHeap} {v : AVal}
theorem trc_nil : trace P I call [] f h = some ([], f, h) := rfl
theorem trc_cons {o : AOper} {r : List AOper} {l : List (Fr × AVal × AHeap)} {f' : Fr} {h' : AHeap} (hv : valOper P I call o f h = some (v, h1)) (ht : trace P I call r (putDst o f v) h1 = some (l, f', h')) : trace P I call (o :: r) f h = some ((f, v, h1) :: l, f', h') := by
 simp only [trace, hv, ht]
theorem wpA_draw0 {ops : List AOper} {info : List (Bool × List Nat)} {es : List (Fr × AVal × AHeap)} {f' : Fr} {h' : AHeap} {m : Nat} {Q : Ex → Fr → AHeap → Prop} (ht : trace P I call ops f h = some (es, f', h')) (hc : chkAll P I call (h :: heapsOf info es) ops info es = true) (hq : Q .normal f' h') : wpA P I call m (.draw ops info 0) f h Q := by
 refine ⟨.normal, f', h', ?_, hq⟩
 simp only [exec, ht, hc]
theorem V_mapPut {kk : KeyK} {x k y : AOpd} {M : Nat} {key tv : AVal} (hx : x.ev f = .map M) (hk : k.ev f = key) (hy : y.ev f = tv) (hr : mapPutV kk (.map M) key tv h = some (v, h1)) : valOper P I call ⟨d, .mapPut kk x k y, none⟩ f h = some (v, h1) := by
 show mapPutV kk (x.ev f) (k.ev f) (y.ev f) h = _
 rw [hx, hk, hy]; exact hr
theorem V_mapGet {kk : KeyK} {z : AVal} {ok : Bool} {x k : AOpd} {M : Nat} {key : AVal} (hx : x.ev f = .map M) (hk : k.ev f = key) (hr : mapGetV kk z ok (.map M) key h = some v) : valOper P I call ⟨d, .mapGet kk z ok x k, none⟩ f h = some (v, h) := by
 show (match mapGetV kk z ok (x.ev f) (k.ev f) h with | some v => some (v, h) | none => none) = _
 rw [hx, hk, hr]
theorem V_add {x y : AOpd} {a b c : Nat} (hx : x.ev f = .int .i64 (.ofNat a)) (hy : y.ev f = .int .i64 (.ofNat b)) (hc : a + b = c) (hl : c ≤ 2000000000) : valOper P I call ⟨d, .bin .add x y, none⟩ f h = some (.int .i64 (.ofNat c), h) := by
 show stepK_bin f h .add x y = _
 simp only [stepK_bin, hx, hy]
 have : abin .add (.int .i64 (.ofNat a)) (.int .i64 (.ofNat b)) = some (.int .i64 (.ofNat c)) := by
  show (if IntKind.i64 = IntKind.i64 then ibin .add .i64 (.ofNat a) (.ofNat b) else none) = _
  rw [if_pos rfl]
  show some (AVal.int .i64 (IntKind.i64.wrap (Int.ofNat a + Int.ofNat b))) = _
  have e : IntKind.i64.wrap (Int.ofNat a + Int.ofNat b) = Int.ofNat c := by
   simp only [IntKind.wrap, IntKind.bits, IntKind.signed]
   simp
   omega
  rw [e]
 rw [this]
def round51 (sg cg cc : Nat) : ACode :=
 .seq (.region [⟨some 121, .nextM (.tmp 120), none⟩, ⟨some 122, .extract (.tmp 121) 0, none⟩]) (.seq (.cond (.tmp 122) .skip (.exit 4)) (.block 5 (.seq (.region [⟨some 123, .entryM (.tmp 120), none⟩, ⟨some 124, .extract (.tmp 123) 0, none⟩, ⟨some 125, .extract (.tmp 123) 1, none⟩, ⟨some 12, .alloc [.int .i64 (.ofNat 0), .int .i64 (.ofNat 0), .int .i64 (.ofNat 0), .int .i64 (.ofNat 0), .int .i64 (.ofNat 0)], none⟩, ⟨none, .store 5 (.tmp 12) (.tmp 124), none⟩, ⟨some 13, .move (.tmp 125), none⟩])
  (.seq (.region [⟨some 126, .move (.tmp 13), none⟩, ⟨some 127, .call sg [.tmp 126, .val (.func (.func cg) [] [])], none⟩])
  (.seq (.draw [⟨some 128, .move (.tmp 5), none⟩, ⟨some 129, .nilCheck (.tmp 128), none⟩, ⟨some 130, .fieldAddr 3 (.tmp 129), none⟩, ⟨some 131, .load1 (.tmp 130), none⟩, ⟨some 132, .nilCheck (.tmp 131), none⟩, ⟨some 133, .fieldAddr 0 (.tmp 132), none⟩, ⟨some 134, .load1 (.tmp 133), none⟩, ⟨some 135, .loadN 5 (.tmp 12), none⟩, ⟨some 136, .move (.tmp 13), none⟩, ⟨some 137, .call cc [.tmp 136], none⟩, ⟨none, .mapPut (.many [.i, .i, .i, .i, .i]) (.tmp 134) (.tmp 135) (.tmp 137), none⟩]
   [(false, []), (false, []), (false, []), (false, [1]), (false, []), (false, []), (false, [1]), (false, [1]), (false, []), (true, []), (true, [])] 0)
  (.draw [⟨some 138, .move (.tmp 5), none⟩, ⟨some 139, .nilCheck (.tmp 138), none⟩, ⟨some 140, .fieldAddr 3 (.tmp 139), none⟩, ⟨some 141, .load1 (.tmp 140), none⟩, ⟨some 142, .nilCheck (.tmp 141), none⟩, ⟨some 143, .fieldAddr 1 (.tmp 142), none⟩, ⟨some 144, .load1 (.tmp 143), none⟩, ⟨some 145, .move (.tmp 5), none⟩, ⟨some 146, .nilCheck (.tmp 145), none⟩, ⟨some 147, .fieldAddr 3 (.tmp 146), none⟩, ⟨some 148, .load1 (.tmp 147), none⟩, ⟨some 149, .nilCheck (.tmp 148), none⟩, ⟨some 150, .fieldAddr 0 (.tmp 149), none⟩, ⟨some 151, .load1 (.tmp 150), none⟩, ⟨some 152, .loadN 5 (.tmp 12), none⟩, ⟨some 153, .mapGet (.many [.i, .i, .i, .i, .i]) .nils false (.tmp 151) (.tmp 152), none⟩, ⟨some 154, .lenSl (.tmp 153), none⟩, ⟨some 155, .bin .add (.tmp 144) (.tmp 154), none⟩, ⟨some 156, .nilCheck (.tmp 141), none⟩, ⟨some 157, .fieldAddr 1 (.tmp 156), none⟩, ⟨none, .store 1 (.tmp 157) (.tmp 155), none⟩]
   [(false, []), (false, []), (false, []), (false, []), (false, []), (false, []), (false, []), (false, []), (false, []), (false, []), (false, []), (false, []), (false, []), (false, []), (false, []), (false, []), (false, []), (false, []), (false, []), (false, []), (true, [])] 0))))))
structure GotM (T : En → Trn) (h : AHeap) (q : Mk) (picked : List En) (f : Fr) (h1 : AHeap) : Prop where
 it : f.get 120 = .iter h.next
 m5 : f.get 5 = .ptr (.own q.K) 0
 nx : h1.next = h.next + 1 + picked.length
 seen : h1.get h.next = some ⟨[.map q.M, .int .i64 (.ofNat q.cn), .int .i64 (.ofNat q.cn), .tuple (stampsV (picked.map (·.2.2)))], true⟩
 mp : h1.get q.M = some ⟨.int .i64 (.ofNat q.cn) :: (updE (fun e => (T e).v) (picked.map (·.2.2)) q.E).map tupE, true⟩
 gr : h1.get q.G = some ⟨[.map q.M, .int .i64 (.ofNat (sumN (picked.map T)))], true⟩
 done : ∀ e ∈ picked, h1.get (T e).b = some (T e).blk
 old : ∀ k b, h.get k = some b → k ≠ q.M → k ≠ q.G → (∀ e ∈ picked, k ≠ (T e).b) → h1.get k = some b
theorem round51_step {gs : List Nat} {sg cg cc : Nat} {p0 : Prim} (hcs : ∀ a h, call sg a h = sortP 5 gs a h) (hcc : ∀ a h, call cc a h = oneP p0 a h) {q : Mk} (hlt0 : ∀ k b, h.get k = some b → k < h.next) (ok : MkOk gs cg p0 h q) {m : Nat}
 {picked : List En} {h1 : AHeap} (hp : (picked ++ leftOf (picked.map (·.2.2)) q.E).Perm q.E) (hne : leftOf (picked.map (·.2.2)) q.E ≠ []) (g : GotM (trnOf gs cg (oneP p0) h) h q picked f h1) :
 wpA P I call m (round51 sg cg cc) f h1 fun x f1 h2 => x = .normal ∧ ∃ e ∈ leftOf (picked.map (·.2.2)) q.E, GotM (trnOf gs cg (oneP p0) h) h q (picked ++ [e]) f1 h2 := by
 generalize hT : trnOf gs cg (oneP p0) h = T at g ⊢
 obtain ⟨⟨pM, hM⟩, hk, hcn, hnd, hlen⟩ := walkE_spec ok.w
 have hts := ok.ts
 rw [hT] at hts
 have hnx := g.nx
 have hnd2 := ok.nd
 rw [hts, List.map_map] at hnd2
 simp only [List.nodup_cons, List.mem_cons, not_or] at hnd2
 obtain ⟨⟨hKG, hKM, hKb⟩, ⟨hGM, hGb⟩, hMb, hbn⟩ := hnd2
 have hb3 : ∀ e ∈ q.E, (T e).b ≠ q.K ∧ (T e).b ≠ q.G ∧ (T e).b ≠ q.M := fun e he => by
  have hm : (T e).b ∈ q.E.map ((fun x => x.b) ∘ T) := List.mem_map.2 ⟨e, he, rfl⟩
  exact ⟨fun h0 => hKb (h0 ▸ hm), fun h0 => hGb (h0 ▸ hm), fun h0 => hMb (h0 ▸ hm)⟩
 have hGl := hlt0 _ _ ok.g
 have hMl := hlt0 _ _ hM
 obtain ⟨bK, hKh, hK3⟩ : ∃ bK, h.get q.K = some bK ∧ bK.cells[3]? = some (.ptr (.own q.G) 0) := by
  have := ok.kg
  unfold rd at this
  simp only at this
  split at this
  · cases this
  · rename_i b hb; exact ⟨b, hb, this⟩
 have hKl := hlt0 _ _ hKh
 have hmpk : ∀ e ∈ picked, e ∈ q.E := fun e he => hp.mem_iff.1 (List.mem_append.2 (.inl he))
 have hK1 : h1.get q.K = some bK := g.old _ _ hKh hKM hKG fun e he h0 => (hb3 e (hmpk e he)).1 h0.symm
 have hleft := left_updE (fun e => (T e).v) (picked.map (·.2.2)) q.E
 have hM1 := g.mp
 have hstamp : ∀ e ∈ updE (fun e => (T e).v) (picked.map (·.2.2)) q.E, e.2.2 < q.cn := fun e he => by
  have : e.2.2 ∈ q.E.map (·.2.2) := by rw [← updE_stamps (fun e => (T e).v) (picked.map (·.2.2)) q.E]; exact List.mem_map.2 ⟨e, he, rfl⟩
  obtain ⟨x, hx, hxe⟩ := List.mem_map.1 this
  rw [← hxe]; exact hcn x hx
 have hndU : ((updE (fun e => (T e).v) (picked.map (·.2.2)) q.E).map (·.2.2)).Nodup := by rw [updE_stamps]; exact hnd
 simp only [round51, wpA]
 refine wpOpsA_next rfl (by rw [show (AOpd.tmp 120).ev f = .iter h.next from g.it]; exact nextL_walk_cons g.seen hM1 (leftM_tupE _) hstamp (by rw [hleft]; exact hne)) fun o ho => ?_
 rw [hleft] at ho
 obtain ⟨e, he, rfl⟩ := List.mem_map.1 ho
 have heE : e ∈ q.E := (List.mem_filter.1 he).1
 have hns : (picked.map (·.2.2)).any (Nat.beq e.2.2) = false := by
  have := (List.mem_filter.1 he).2
  simpa using this
 have heU : e ∈ updE (fun e => (T e).v) (picked.map (·.2.2)) q.E := by
  have : e ∈ leftOf (picked.map (·.2.2)) (updE (fun e => (T e).v) (picked.map (·.2.2)) q.E) := by rw [hleft]; exact he
  exact (List.mem_filter.1 this).1
 have hnp : ∀ x ∈ picked, (T e).b ≠ (T x).b := fun x hx h0 => by
  have hex : e = x := map_inj_of_nodup hbn e heE x (hmpk x hx) h0
  subst hex
  have : (picked.map (·.2.2)).any (Nat.beq e.2.2) = true := List.any_eq_true.2 ⟨e.2.2, List.mem_map.2 ⟨e, hx, rfl⟩, Nat.beq_refl _⟩
  rw [hns] at this; cases this
 obtain ⟨hk1, hk2⟩ := hk e heE
 obtain ⟨⟨blk0, hb0⟩, ⟨l2, o2, n2, c2, hv, hn2⟩, hgo⟩ := turnE_spec (ok.tn e heE)
 rw [hT] at hb0 hv hn2 hgo
 obtain ⟨hbK, hbG, hbM⟩ := hb3 e heE
 have hbl := hlt0 _ _ hb0
 have hb1 : h1.get (T e).b = some blk0 := g.old _ _ hb0 hbM hbG hnp
 obtain ⟨j, hj⟩ := List.mem_iff_getElem?.1 heE
 obtain ⟨hkeq, vf, sf, hfind⟩ := keysOk_spec ok.keys j e hj
 rw [Nat.zero_add] at hfind
 have hcells : e.1.cells = (kiI e.1).map (AVal.int .i64) := congrArg AVal.cells hk1
 generalize hh2 : h1.set h.next ⟨[.map q.M, .int .i64 (.ofNat q.cn), .int .i64 (.ofNat q.cn), .tuple (stampsV (picked.map (·.2.2) ++ [e.2.2]))], true⟩ = h2
 have hnx2 : h2.next = h.next + 1 + picked.length := by rw [← hh2]; exact hnx
 have hit2 : h2.get h.next = some ⟨[.map q.M, .int .i64 (.ofNat q.cn), .int .i64 (.ofNat q.cn), .tuple (stampsV (picked.map (·.2.2) ++ [e.2.2]))], true⟩ := by rw [← hh2, AHeap.get_set, if_pos rfl]
 have ho2 : ∀ k, k ≠ h.next → h2.get k = h1.get k := fun k hk => by rw [← hh2, AHeap.get_set, if_neg hk]
 refine wpOpsA_one rfl (V_extract (vs := [.bool true, e.1, e.2.1]) (v := .bool true) (by simp (disch := decide) [AOpd.ev, putDst, Fr.gp]) rfl) ?_
 refine wpOpsA_nil ?_
 dsimp only [putDst]
 rw [show (AOpd.tmp 122).ev (Fr.put (Fr.put f 121 (.tuple [.bool true, e.1, e.2.1])) 122 (.bool true)) = .bool true from (by simp (disch := decide) [AOpd.ev, putDst, Fr.gp])]
 dsimp only
 generalize hf1 : Fr.put (Fr.put f 121 (.tuple [.bool true, e.1, e.2.1])) 122 (.bool true) = f1
 have hf1i : f1.get 120 = .iter h.next := by rw [← hf1]; simp (disch := decide) [Fr.gp, g.it]
 have hf15 : f1.get 5 = .ptr (.own q.K) 0 := by rw [← hf1]; simp (disch := decide) [Fr.gp, g.m5]
 refine wpOpsA_one rfl (V_entry (kk := h.next) (j := q.M) (cn := q.cn) (sl := picked.map (·.2.2)) (e := e) (p := true) hf1i hit2 (by rw [ho2 _ (by omega)]; exact hM1) hndU heU) ?_
 refine wpOpsA_one rfl (V_extract (vs := [e.1, e.2.1]) (v := e.1) (by simp (disch := decide) [AOpd.ev, putDst, Fr.gp]) rfl) ?_
 refine wpOpsA_one rfl (V_extract (vs := [e.1, e.2.1]) (v := e.2.1) (by simp (disch := decide) [AOpd.ev, putDst, Fr.gp]) rfl) ?_
 refine wpOpsA_one rfl V_alloc ?_
 refine wpOpsA_one rfl (V_store (b := ⟨[.int .i64 (.ofNat 0), .int .i64 (.ofNat 0), .int .i64 (.ofNat 0), .int .i64 (.ofNat 0), .int .i64 (.ofNat 0)], true⟩) (b' := ⟨(kiI e.1).map (AVal.int .i64), true⟩) (k := h2.next) (o := 0) (by simp (disch := decide) [AOpd.ev, putDst, Fr.gp]) (by rw [AHeap.get_alloc, if_pos rfl])
  (by rw [show (AOpd.tmp 124).ev _ = e.1 from (by simp (disch := decide) [AOpd.ev, putDst, Fr.gp]), hcells, List.length_map, hk2])
  (by rw [show (AOpd.tmp 124).ev _ = e.1 from (by simp (disch := decide) [AOpd.ev, putDst, Fr.gp]), hcells]; exact wr_all (by rw [List.length_map, hk2]; rfl) (ints_one _))) ?_
 refine wpOpsA_one rfl V_move ?_
 refine wpOpsA_nil ?_
 dsimp only [putDst]
 generalize hh3 : (h2.alloc ⟨[.int .i64 (.ofNat 0), .int .i64 (.ofNat 0), .int .i64 (.ofNat 0), .int .i64 (.ofNat 0), .int .i64 (.ofNat 0)], true⟩).set h2.next ⟨(kiI e.1).map (AVal.int .i64), true⟩ = h3
 have hnx3 : h3.next = h2.next + 1 := by rw [← hh3]; rfl
 have hA3 : h3.get h2.next = some ⟨(kiI e.1).map (AVal.int .i64), true⟩ := by rw [← hh3, AHeap.get_set, if_pos rfl]
 have ho3 : ∀ k, k ≠ h2.next → h3.get k = h2.get k := fun k hk => by rw [← hh3, AHeap.get_set, if_neg hk, AHeap.get_alloc, if_neg hk]
 have e31 : ∀ k, k < h.next → h3.get k = h1.get k := fun k hk => by rw [ho3 k (by omega), ho2 k (by omega)]
 obtain ⟨blk1, v1, hs, hc⟩ := hgo h3 (by rw [e31 _ hbl, hb1, hb0])
 generalize hf2 : Fr.put (Fr.put (Fr.put (Fr.put (Fr.put f1 123 _) 124 _) 125 _) 12 _) 13 _ = f2
 have f2i : f2.get 120 = .iter h.next := by rw [← hf2]; simp (disch := decide) [Fr.gp, hf1i]
 have f25 : f2.get 5 = .ptr (.own q.K) 0 := by rw [← hf2]; simp (disch := decide) [Fr.gp, hf15]
 have f212 : f2.get 12 = .ptr (.own h2.next) 0 := by rw [← hf2]; simp (disch := decide) [Fr.gp]
 have f213 : f2.get 13 = e.2.1 := by rw [← hf2]; simp (disch := decide) [Fr.gp, AOpd.ev]
 refine wpOpsA_one rfl V_move (wpOpsA_one rfl (V_call (v := v1) (h1 := h3.set (T e).b blk1) ?_) (wpOpsA_nil ?_))
 · simp only [List.map_cons, List.map_nil]
   rw [show (AOpd.tmp 126).ev _ = e.2.1 from (by simp (disch := decide) [AOpd.ev, putDst, Fr.gp, f213]), hcs]; exact hs
 dsimp only [putDst]
 generalize hh4 : h3.set (T e).b blk1 = h4 at hc
 have ho4 : ∀ k, k ≠ (T e).b → h4.get k = h3.get k := fun k hk => by rw [← hh4, AHeap.get_set, if_neg hk]
 have hnx4 : h4.next = h3.next := by rw [← hh4]; rfl
 generalize hf3 : Fr.put (Fr.put f2 126 _) 127 v1 = f3
 have f3i : f3.get 120 = .iter h.next := by rw [← hf3]; simp (disch := decide) [Fr.gp, f2i]
 have f35 : f3.get 5 = .ptr (.own q.K) 0 := by rw [← hf3]; simp (disch := decide) [Fr.gp, f25]
 have f312 : f3.get 12 = .ptr (.own h2.next) 0 := by rw [← hf3]; simp (disch := decide) [Fr.gp, f212]
 have f313 : f3.get 13 = e.2.1 := by rw [← hf3]; simp (disch := decide) [Fr.gp, f213]
 have hK4 : h4.get q.K = some bK := by rw [ho4 _ hbK.symm, e31 _ hKl]; exact hK1
 have hG4 : h4.get q.G = some ⟨[.map q.M, .int .i64 (.ofNat (sumN (picked.map T)))], true⟩ := by rw [ho4 _ hbG.symm, e31 _ hGl]; exact g.gr
 have hM4 : h4.get q.M = some ⟨.int .i64 (.ofNat q.cn) :: (updE (fun e => (T e).v) (picked.map (·.2.2)) q.E).map tupE, true⟩ := by rw [ho4 _ hbM.symm, e31 _ hMl]; exact hM1
 have hA4 : h4.get h2.next = some ⟨(kiI e.1).map (AVal.int .i64), true⟩ := by rw [ho4 _ (by omega)]; exact hA3
 generalize hh5 : h4.set (T e).b (T e).blk = h5 at hc
 have ho5 : ∀ k, k ≠ (T e).b → h5.get k = h4.get k := fun k hk => by rw [← hh5, AHeap.get_set, if_neg hk]
 have hb5 : h5.get (T e).b = some (T e).blk := by rw [← hh5, AHeap.get_set, if_pos rfl]
 have hnx5 : h5.next = h4.next := by rw [← hh5]; rfl
 have hK5 : h5.get q.K = some bK := by rw [ho5 _ hbK.symm]; exact hK4
 have hG5 : h5.get q.G = some ⟨[.map q.M, .int .i64 (.ofNat (sumN (picked.map T)))], true⟩ := by rw [ho5 _ hbG.symm]; exact hG4
 have hM5 : h5.get q.M = some ⟨.int .i64 (.ofNat q.cn) :: (updE (fun e => (T e).v) (picked.map (·.2.2)) q.E).map tupE, true⟩ := by rw [ho5 _ hbM.symm]; exact hM4
 have hA5 : h5.get h2.next = some ⟨(kiI e.1).map (AVal.int .i64), true⟩ := by rw [ho5 _ (by omega)]; exact hA4
 have hkN : (AVal.agg ((kiI e.1).map (AVal.int .i64))) = e.1 := hk1.symm
 obtain ⟨xU, _, hxU, hfU⟩ := findM_idx (L' := updE (fun e => (T e).v) (picked.map (·.2.2)) q.E) 0 (updE_keys _ _ _).symm hfind
 rw [Nat.sub_zero] at hxU
 have hput := mapPut_at (x := (T e).v) hM5 hkeq hfU hxU
 have hxs : xU.2.2 = e.2.2 := by
  have := updE_get (f := fun e => (T e).v) (S := picked.map (·.2.2)) hj
  rw [hns] at this
  rw [this] at hxU; cases hxU; rfl
 rw [hxs, updE_set (f := fun e => (T e).v) hnd hj] at hput
 generalize hh6 : h5.set q.M ⟨.int .i64 (.ofNat q.cn) :: (updE (fun e => (T e).v) (picked.map (·.2.2) ++ [e.2.2]) q.E).map tupE, true⟩ = h6 at hput
 have ho6 : ∀ k, k ≠ q.M → h6.get k = h5.get k := fun k hk => by rw [← hh6, AHeap.get_set, if_neg hk]
 have hM6 : h6.get q.M = some ⟨.int .i64 (.ofNat q.cn) :: (updE (fun e => (T e).v) (picked.map (·.2.2) ++ [e.2.2]) q.E).map tupE, true⟩ := by rw [← hh6, AHeap.get_set, if_pos rfl]
 have hnx6 : h6.next = h5.next := by rw [← hh6]; rfl
 have hK6 : h6.get q.K = some bK := by rw [ho6 _ hKM]; exact hK5
 have hG6 : h6.get q.G = some ⟨[.map q.M, .int .i64 (.ofNat (sumN (picked.map T)))], true⟩ := by rw [ho6 _ hGM]; exact hG5
 have hA6 : h6.get h2.next = some ⟨(kiI e.1).map (AVal.int .i64), true⟩ := by rw [ho6 _ (by omega)]; exact hA5
 have rK4 : rd I h4 (.own q.K) (0 + 3) = some (.ptr (.own q.G) 0) := by simp only [rd, hK4]; exact hK3
 have rK5 : rd I h5 (.own q.K) (0 + 3) = some (.ptr (.own q.G) 0) := by simp only [rd, hK5]; exact hK3
 have rK6 : rd I h6 (.own q.K) (0 + 3) = some (.ptr (.own q.G) 0) := by simp only [rd, hK6]; exact hK3
 have rG4 : rd I h4 (.own q.G) (0 + 0) = some (.map q.M) := by simp only [rd, hG4]; rfl
 have rG5 : rd I h5 (.own q.G) (0 + 0) = some (.map q.M) := by simp only [rd, hG5]; rfl
 have rG6 : rd I h6 (.own q.G) (0 + 0) = some (.map q.M) := by simp only [rd, hG6]; rfl
 have rG61 : rd I h6 (.own q.G) (0 + 1) = some (.int .i64 (.ofNat (sumN (picked.map T)))) := by simp only [rd, hG6]; rfl
 have rA4 : rds I h4 (.own h2.next) 0 5 = some ((kiI e.1).map (AVal.int .i64)) := rds_all hA4 (by show ((kiI e.1).map (AVal.int .i64)).length = 5; rw [List.length_map, hk2])
 have rA5 : rds I h5 (.own h2.next) 0 5 = some ((kiI e.1).map (AVal.int .i64)) := rds_all hA5 (by show ((kiI e.1).map (AVal.int .i64)).length = 5; rw [List.length_map, hk2])
 have rA6 : rds I h6 (.own h2.next) 0 5 = some ((kiI e.1).map (AVal.int .i64)) := rds_all hA6 (by show ((kiI e.1).map (AVal.int .i64)).length = 5; rw [List.length_map, hk2])
 refine wpA_draw0 (trc_cons V_move (trc_cons (V_nilCheck (l := .own q.K) (o := 0) (by simp (disch := decide) [AOpd.ev, putDst, Fr.gp, f35])) (trc_cons (V_field (l := .own q.K) (o := 0) (by simp (disch := decide) [AOpd.ev, putDst, Fr.gp])) (trc_cons (V_load1 (l := .own q.K) (o := 0 + 3) (by simp (disch := decide) [AOpd.ev, putDst, Fr.gp]) rK4) (trc_cons (V_nilCheck (l := .own q.G) (o := 0) (by simp (disch := decide) [AOpd.ev, putDst, Fr.gp])) (trc_cons (V_field (l := .own q.G) (o := 0) (by simp (disch := decide) [AOpd.ev, putDst, Fr.gp])) (trc_cons (V_load1 (l := .own q.G) (o := 0 + 0) (by simp (disch := decide) [AOpd.ev, putDst, Fr.gp]) rG4)
  (trc_cons (V_loadN (l := .own h2.next) (o := 0) (by simp (disch := decide) [AOpd.ev, putDst, Fr.gp, f312]) rA4) (trc_cons V_move (trc_cons (V_call (v := (T e).v) (h1 := h5) (by simp only [List.map_cons, List.map_nil]; rw [show (AOpd.tmp 136).ev _ = e.2.1 from (by simp (disch := decide) [AOpd.ev, putDst, Fr.gp, f313]), hcc]; exact hc)) (trc_cons (V_mapPut (M := q.M) (key := e.1) (tv := (T e).v) (by simp (disch := decide) [AOpd.ev, putDst, Fr.gp]) (by simp (disch := decide) [AOpd.ev, putDst, Fr.gp, hkN]) (by simp (disch := decide) [AOpd.ev, putDst, Fr.gp]) hput) trc_nil))))))))))) ?_ ?_
 · have c1 : ∀ F : Fr, (AOpd.tmp 130).ev F = .ptr (.own q.K) (0 + 3) → chkOne P I call [h4, h5, h6] ⟨some 131, .load1 (.tmp 130), none⟩ (F, .ptr (.own q.G) 0, h4) 1 = true := fun F hF => by
    unfold chkOne
    simp only [List.getElem?_cons_succ, List.getElem?_cons_zero]
    rw [V_load1 (l := .own q.K) (o := 0 + 3) hF rK5]
    exact eqbPtr _ _
   have c2 : ∀ F : Fr, (AOpd.tmp 133).ev F = .ptr (.own q.G) (0 + 0) → chkOne P I call [h4, h5, h6] ⟨some 134, .load1 (.tmp 133), none⟩ (F, .map q.M, h4) 1 = true := fun F hF => by
    unfold chkOne
    simp only [List.getElem?_cons_succ, List.getElem?_cons_zero]
    rw [V_load1 (l := .own q.G) (o := 0 + 0) hF rG5]
    exact eqbMap _
   have c3 : ∀ F : Fr, (AOpd.tmp 12).ev F = .ptr (.own h2.next) 0 → chkOne P I call [h4, h5, h6] ⟨some 135, .loadN 5 (.tmp 12), none⟩ (F, .agg ((kiI e.1).map (AVal.int .i64)), h4) 1 = true := fun F hF => by
    unfold chkOne
    simp only [List.getElem?_cons_succ, List.getElem?_cons_zero]
    rw [V_loadN (l := .own h2.next) (o := 0) hF rA5]
    simp only [AVal.eqb]
    exact eqbs_ints _
   simp only [heapsOf, chkAll, List.all_nil, List.all_cons, Bool.true_and, Bool.and_true, Bool.and_eq_true]
   exact ⟨c1 _ (by simp (disch := decide) [AOpd.ev, putDst, Fr.gp]), c2 _ (by simp (disch := decide) [AOpd.ev, putDst, Fr.gp]), c3 _ (by simp (disch := decide) [AOpd.ev, putDst, Fr.gp, f312])⟩
 dsimp only [putDst]
 generalize hf4 : Fr.put (Fr.put (Fr.put (Fr.put (Fr.put (Fr.put (Fr.put (Fr.put (Fr.put (Fr.put f3 128 _) 129 _) 130 _) 131 _) 132 _) 133 _) 134 _) 135 _) 136 _) 137 (T e).v = f4
 have f4i : f4.get 120 = .iter h.next := by rw [← hf4]; simp (disch := decide) [Fr.gp, f3i]
 have f45 : f4.get 5 = .ptr (.own q.K) 0 := by rw [← hf4]; simp (disch := decide) [Fr.gp, f35]
 have f412 : f4.get 12 = .ptr (.own h2.next) 0 := by rw [← hf4]; simp (disch := decide) [Fr.gp, f312]
 obtain ⟨yU, _, hyU, hgU⟩ := findM_idx (L' := updE (fun e => (T e).v) (picked.map (·.2.2) ++ [e.2.2]) q.E) 0 (updE_keys _ _ _).symm hfind
 rw [Nat.sub_zero] at hyU
 have hyv : yU.2.1 = (T e).v := by
  have := updE_get (f := fun e => (T e).v) (S := picked.map (·.2.2) ++ [e.2.2]) hj
  rw [List.any_append, show [e.2.2].any (Nat.beq e.2.2) = true from by simp, Bool.or_true] at this
  rw [this] at hyU; cases hyU; rfl
 have hget := mapGet_at (z := .nils) (ok := false) hM6 hkeq hgU hyU
 rw [hyv, if_neg (by decide)] at hget
 have hsum : sumN (picked.map T) + (T e).n = sumN ((picked ++ [e]).map T) := by rw [List.map_append, sumN_append]; simp [sumN]
 have hsl : sumN ((picked ++ [e]).map T) ≤ 2000000000 := by
  have h9 : ((picked ++ [e]) ++ leftOf (picked.map (·.2.2) ++ [e.2.2]) q.E).Perm q.E := by
   rw [List.append_assoc]
   exact (List.Perm.append_left picked (left_erase hnd he)).trans hp
  have h8 := sumN_perm (h9.map T)
  rw [List.map_append, sumN_append, ← hts] at h8
  have := ok.sum
  omega
 refine wpA_draw0 (trc_cons V_move (trc_cons (V_nilCheck (l := .own q.K) (o := 0) (by simp (disch := decide) [AOpd.ev, putDst, Fr.gp, f45])) (trc_cons (V_field (l := .own q.K) (o := 0) (by simp (disch := decide) [AOpd.ev, putDst, Fr.gp])) (trc_cons (V_load1 (l := .own q.K) (o := 0 + 3) (by simp (disch := decide) [AOpd.ev, putDst, Fr.gp]) rK6) (trc_cons (V_nilCheck (l := .own q.G) (o := 0) (by simp (disch := decide) [AOpd.ev, putDst, Fr.gp])) (trc_cons (V_field (l := .own q.G) (o := 0) (by simp (disch := decide) [AOpd.ev, putDst, Fr.gp])) (trc_cons (V_load1 (l := .own q.G) (o := 0 + 1) (by simp (disch := decide) [AOpd.ev, putDst, Fr.gp]) rG61)
  (trc_cons V_move (trc_cons (V_nilCheck (l := .own q.K) (o := 0) (by simp (disch := decide) [AOpd.ev, putDst, Fr.gp, f45])) (trc_cons (V_field (l := .own q.K) (o := 0) (by simp (disch := decide) [AOpd.ev, putDst, Fr.gp])) (trc_cons (V_load1 (l := .own q.K) (o := 0 + 3) (by simp (disch := decide) [AOpd.ev, putDst, Fr.gp]) rK6) (trc_cons (V_nilCheck (l := .own q.G) (o := 0) (by simp (disch := decide) [AOpd.ev, putDst, Fr.gp])) (trc_cons (V_field (l := .own q.G) (o := 0) (by simp (disch := decide) [AOpd.ev, putDst, Fr.gp])) (trc_cons (V_load1 (l := .own q.G) (o := 0 + 0) (by simp (disch := decide) [AOpd.ev, putDst, Fr.gp]) rG6)
  (trc_cons (V_loadN (l := .own h2.next) (o := 0) (by simp (disch := decide) [AOpd.ev, putDst, Fr.gp, f412]) rA6) (trc_cons (V_mapGet (M := q.M) (key := e.1) (by simp (disch := decide) [AOpd.ev, putDst, Fr.gp]) (by simp (disch := decide) [AOpd.ev, putDst, Fr.gp, hkN]) hget) (trc_cons (V_lenSl (l := l2) (o := o2) (n := n2) (c := c2) (by rw [← hv]; exact (by simp (disch := decide) [AOpd.ev, putDst, Fr.gp]))) (trc_cons (V_add (a := sumN (picked.map T)) (b := n2) (by simp (disch := decide) [AOpd.ev, putDst, Fr.gp]) (by simp (disch := decide) [AOpd.ev, putDst, Fr.gp]) (by rw [hn2]; exact hsum) hsl)
  (trc_cons (V_nilCheck (l := .own q.G) (o := 0) (by simp (disch := decide) [AOpd.ev, putDst, Fr.gp])) (trc_cons (V_field (l := .own q.G) (o := 0) (by simp (disch := decide) [AOpd.ev, putDst, Fr.gp])) (trc_cons (V_store (k := q.G) (o := 0 + 1) (b' := ⟨[.map q.M, .int .i64 (.ofNat (sumN ((picked ++ [e]).map T)))], true⟩) (by simp (disch := decide) [AOpd.ev, putDst, Fr.gp]) hG6 (by simp (disch := decide) [AOpd.ev, putDst, Fr.gp, AVal.cells]) (by simp (disch := decide) [AOpd.ev, putDst, Fr.gp, AVal.cells]; rfl)) trc_nil))))))))))))))))))))) ?_ ?_
 · simp only [heapsOf, chkAll, List.all_nil, Bool.true_and]
 dsimp only [putDst]
 generalize hh7 : h6.set q.G ⟨[.map q.M, .int .i64 (.ofNat (sumN ((picked ++ [e]).map T)))], true⟩ = h7
 have ho7 : ∀ k, k ≠ q.G → h7.get k = h6.get k := fun k hk => by rw [← hh7, AHeap.get_set, if_neg hk]
 have e71 : ∀ k, k < h.next → k ≠ q.G → k ≠ q.M → k ≠ (T e).b → h7.get k = h1.get k := fun k h0 a b c => by rw [ho7 k a, ho6 k b, ho5 k c, ho4 k c, e31 k h0]
 refine ⟨trivial, e, he, ?_, ?_, ?_, ?_, ?_, ?_, fun x hx => ?_, fun k b hkb a1 a2 a3 => ?_⟩
 · simp (disch := decide) [Fr.gp, f4i]
 · simp (disch := decide) [Fr.gp, f45]
 · rw [← hh7]
   show h6.next = _
   rw [List.length_append, List.length_singleton]; omega
 · rw [ho7 _ (by omega), ho6 _ (by omega), ho5 _ (by omega), ho4 _ (by omega), ho3 _ (by omega), hit2, List.map_append]; rfl
 · rw [ho7 _ (fun h0 => hGM h0.symm), hM6, List.map_append]; rfl
 · rw [← hh7, AHeap.get_set, if_pos rfl]
 · rcases List.mem_append.1 hx with hx | hx
   · obtain ⟨a1, a2, a3⟩ := hb3 x (hmpk x hx)
     obtain ⟨blkx, hbx⟩ : ∃ b, h.get (T x).b = some b := by
      have := (turnE_spec (ok.tn x (hmpk x hx))).1
      rw [hT] at this; exact this
     rw [e71 _ (hlt0 _ _ hbx) a2 a3 (fun h0 => hnp x hx h0.symm)]
     exact g.done x hx
   · obtain rfl := List.mem_singleton.1 hx
     rw [ho7 _ hbG, ho6 _ hbM]; exact hb5
 · rw [e71 k (hlt0 _ _ hkb) a2 a1 (a3 e (by simp))]
   exact g.old k b hkb a1 a2 fun x hx => a3 x (by simp [hx])
end
end
end Go.AM

/- AM, part 47: the function whose walk turns rows, as a primitive. Conditions: as each lemma says. -/
namespace Go.AM
noncomputable section
open Go.RowKit
set_option linter.unusedSectionVars false
set_option linter.unusedSimpArgs false
section
variable {P : Program} {I : Inp} {call : CallFn}
theorem round51_end {gs : List Nat} {sg cg cc : Nat} {p0 : Prim} {q : Mk} {h : AHeap} (ok : MkOk gs cg p0 h q) {T : En → Trn} {m : Nat} {picked : List En} {f : Fr} {h1 : AHeap} (he : leftOf (picked.map (·.2.2)) q.E = []) (g : GotM T h q picked f h1) :
 wpA P I call m (round51 sg cg cc) f h1 fun x f1 h2 => x = .exit 4 ∧ GotM T h q picked f1 h2 := by
 obtain ⟨⟨pM, hM⟩, hk, hcn, hnd, hlen⟩ := walkE_spec ok.w
 have hstamp : ∀ e ∈ updE (fun e => (T e).v) (picked.map (·.2.2)) q.E, e.2.2 < q.cn := fun e he => by
  have : e.2.2 ∈ q.E.map (·.2.2) := by rw [← updE_stamps (fun e => (T e).v) (picked.map (·.2.2)) q.E]; exact List.mem_map.2 ⟨e, he, rfl⟩
  obtain ⟨x, hx, hxe⟩ := List.mem_map.1 this
  rw [← hxe]; exact hcn x hx
 simp only [round51, wpA]
 refine wpOpsA_next rfl (by rw [show (AOpd.tmp 120).ev f = .iter h.next from g.it]; exact nextL_walk_nil g.seen g.mp (leftM_tupE _) hstamp (by rw [left_updE]; exact he)) fun o ho => ?_
 obtain rfl := List.mem_singleton.1 ho
 refine wpOpsA_one rfl (V_extract (vs := [.bool false]) (v := .bool false) (by simp (disch := decide) [AOpd.ev, putDst, Fr.gp]) rfl) ?_
 refine wpOpsA_nil ?_
 dsimp only [putDst]
 rw [show (AOpd.tmp 122).ev (Fr.put (Fr.put f 121 (.tuple [.bool false])) 122 (.bool false)) = .bool false from (by simp (disch := decide) [AOpd.ev, putDst, Fr.gp])]
 dsimp only
 refine ⟨trivial, ?_, ?_, g.nx, g.seen, g.mp, g.gr, g.done, g.old⟩
 · simp (disch := decide) [Fr.gp, g.it]
 · simp (disch := decide) [Fr.gp, g.m5]
theorem loop51 {gs : List Nat} {sg cg cc : Nat} {p0 : Prim} (hcs : ∀ a h, call sg a h = sortP 5 gs a h) (hcc : ∀ a h, call cc a h = oneP p0 a h) {q : Mk} {h : AHeap} (hlt0 : ∀ k b, h.get k = some b → k < h.next) (ok : MkOk gs cg p0 h q) {f : Fr} {h1 : AHeap}
 (g : GotM (trnOf gs cg (oneP p0) h) h q [] f h1) {m : Nat} (hm : 1000000 < m) :
 wpA P I call m (.block 4 (.loop (round51 sg cg cc))) f h1 fun x f1 h2 => x = .normal ∧ ∃ picked, picked.Perm q.E ∧ GotM (trnOf gs cg (oneP p0) h) h q picked f1 h2 := by
 obtain ⟨_, _, _, hnd, hlen⟩ := walkE_spec ok.w
 have hE : leftOf [] q.E = q.E := List.filter_eq_self.2 fun e _ => rfl
 show h1.Lt → iterA (wpA P I call m (round51 sg cg cc)) m f h1 _
 intro _
 refine iterA_walk (body := wpA P I call m (round51 sg cg cc)) (E := q.E) (fun hq hw => wpA_mono hq hw) hnd (fun picked f h2 => GotM (trnOf gs cg (oneP p0) h) h q picked f h2) (fun picked f h2 hp hne g => round51_step hcs hcc hlt0 ok hp hne g)
  (fun picked f h2 hp he g => by
   refine wpA_mono (Q := fun x f1 h3 => x = .exit 4 ∧ GotM (trnOf gs cg (oneP p0) h) h q picked f1 h3) (fun x f1 h3 hx => ?_) (round51_end ok he g)
   obtain ⟨rfl, hx⟩ := hx
   exact ⟨by simp, rfl, picked, hp, hx⟩) m f h1 [] (by rw [List.map_nil, List.nil_append, hE]) (by rw [List.map_nil, hE]; omega) g
theorem gotM_knows {gs : List Nat} {cg : Nat} {p0 : Prim} {q : Mk} {h : AHeap} (ok : MkOk gs cg p0 h q) {picked : List En} (hp : picked.Perm q.E) {f : Fr} {h1 : AHeap} (g : GotM (trnOf gs cg (oneP p0) h) h q picked f h1) : Knows h1 (q.behind h) := by
 refine ⟨?_, fun k b hk => ?_⟩
 · rw [g.nx, hp.length_eq]
   unfold Mk.behind
   rw [setsH_next]
 · generalize hT : trnOf gs cg (oneP p0) h = T at g
   have hts := ok.ts
   rw [hT] at hts
   rcases setsH_get _ _ k b hk with h0 | ⟨h0, h2⟩
   · unfold Mk.sets at h0
     rcases List.mem_append.1 h0 with h0 | h0
     · obtain ⟨t, ht, he⟩ := List.mem_map.1 h0
       rw [hts] at ht
       obtain ⟨e, hee, rfl⟩ := List.mem_map.1 ht
       cases he
       exact g.done e (hp.mem_iff.2 hee)
     · simp only [List.mem_cons, List.not_mem_nil, or_false] at h0
       rcases h0 with h0 | h0
       · cases h0
         rw [g.mp]
         congr 3
         rw [hts]
         have hz : ∀ (L : List En), List.zipWith (fun e t => tupE (e.1, t.v, e.2.2)) L (L.map T) = L.map fun e => tupE (e.1, (T e).v, e.2.2) := by
          intro L
          induction L with
          | nil => rfl
          | cons x L ih => simp only [List.map_cons, List.zipWith_cons_cons, ih]
         rw [hz]
         unfold updE
         rw [List.map_map]
         apply List.map_congr_left
         intro e he
         have : (picked.map (·.2.2)).any (Nat.beq e.2.2) = true := List.any_eq_true.2 ⟨e.2.2, List.mem_map.2 ⟨e, hp.mem_iff.2 he, rfl⟩, Nat.beq_refl _⟩
         simp only [Function.comp, this]
       · cases h0
         rw [g.gr, hts]
         rw [sumN_perm (hp.map T)]
   · have h3 : h.get k = some b := h2
     refine g.old k b h3 (fun e => ?_) (fun e => ?_) fun x hx e => ?_
     · exact h0 _ (List.mem_append.2 (.inr (List.mem_cons_self ..))) e.symm
     · exact h0 _ (List.mem_append.2 (.inr (List.mem_cons_of_mem _ (List.mem_cons_self ..)))) e.symm
     · refine h0 ((T x).b, (T x).blk) ?_ e.symm
       unfold Mk.sets
       refine List.mem_append.2 (.inl (List.mem_map.2 ⟨T x, ?_, rfl⟩))
       rw [hts]
       exact List.mem_map.2 ⟨x, hp.mem_iff.1 hx, rfl⟩
def makeC (a1 a2 a3 a4 a5 : ACode) (sg cg cc : Nat) : AFunc := ⟨162, 2, [.tmp 4], .seq a1 (.seq a2 (.seq a3 (.seq a4 (.seq a5 (.seq (.seq (.region [⟨some 113, .move (.tmp 5), none⟩, ⟨some 114, .nilCheck (.tmp 113), none⟩, ⟨some 115, .fieldAddr 3 (.tmp 114), none⟩, ⟨some 116, .load1 (.tmp 115), none⟩, ⟨some 117, .nilCheck (.tmp 116), none⟩, ⟨some 118, .fieldAddr 0 (.tmp 117), none⟩, ⟨some 119, .load1 (.tmp 118), none⟩, ⟨some 120, .rangeM (.tmp 119), none⟩])
 (.block 4 (.loop (round51 sg cg cc)))) (.seq (.region [⟨some 158, .move (.tmp 5), none⟩, ⟨some 159, .nilCheck (.tmp 158), none⟩, ⟨some 160, .fieldAddr 3 (.tmp 159), none⟩, ⟨some 161, .load1 (.tmp 160), none⟩, ⟨some 4, .move (.tmp 161), none⟩]) .ret))))))⟩
variable (P I) in
def makeP (call : CallFn) (m : Nat) (a1 a2 a3 a4 a5 : ACode) (gs : List Nat) (cg : Nat) (pc : Prim) : Prim := fun args h =>
 match args with
 | [x, y] => match execK P I call m (.seq a1 (.seq a2 (.seq a3 (.seq a4 a5)))) (putArgs 0 [x, y] .nil) h with
   | some (.normal, f, h1) => match mkOf gs cg pc (f.get 5) (h1.kill h1.next) with
     | some q => some (.ptr (.own q.G) 0, q.behind (h1.kill h1.next))
     | none => none
   | _ => none
 | _ => none
theorem exec_seq {n : Nat} {a b : ACode} {f f2 : Fr} {h h2 : AHeap} (he : exec P I call n (.seq a b) f h = some (.normal, f2, h2)) : ∃ f1 h1, exec P I call n a f h = some (.normal, f1, h1) ∧ exec P I call n b f1 h1 = some (.normal, f2, h2) := by
 simp only [exec] at he
 cases ha : exec P I call n a f h with
 | none => rw [ha] at he; cases he
 | some r =>
   obtain ⟨x, f1, h1⟩ := r
   rw [ha] at he
   cases x with
   | normal => exact ⟨f1, h1, rfl, he⟩
   | exit id => cases he
   | ret => cases he
theorem wpA_seq_of {n : Nat} {a b : ACode} {f f1 : Fr} {h h1 : AHeap} {Q : Ex → Fr → AHeap → Prop} (he : exec P I call n a f h = some (.normal, f1, h1)) (hk : wpA P I call n b f1 h1 Q) : wpA P I call n (.seq a b) f h Q := by
 show wpA P I call n a f h _
 exact wpA_of_exec he hk
theorem wpA_loop_lt {n id : Nat} {c : ACode} {f : Fr} {h : AHeap} {Q : Ex → Fr → AHeap → Prop} (hk : h.Lt → wpA P I call n (.block id (.loop c)) f h Q) : wpA P I call n (.block id (.loop c)) f h Q :=
 fun hl => hk hl hl
theorem makeP_hp {a1 a2 a3 a4 a5 : ACode} {sg cg cc m : Nat} {gs : List Nat} {p0 : Prim} (hm : 1000000 < m) (hcs : ∀ a h, call sg a h = sortP 5 gs a h) (hcc : ∀ a h, call cc a h = oneP p0 a h) :
 ∀ args h v h', (∀ k b, h.get k = some b → k < h.next) → makeP P I call m a1 a2 a3 a4 a5 gs cg (oneP p0) args h = some (v, h') → args.length ≤ (makeC a1 a2 a3 a4 a5 sg cg cc).ntmps ∧ wpA P I call m (makeC a1 a2 a3 a4 a5 sg cg cc).body (putArgs 0 args .nil) h fun x f1 h1 => (∀ id, x ≠ .exit id) ∧ ∃ vs, ressOf I f1 h1 (makeC a1 a2 a3 a4 a5 sg cg cc).results = some vs ∧ oneOrTuple vs = v ∧ Knows h1 h' := by
 intro args h v h' _ hr
 unfold makeP at hr
 split at hr
 · rename_i x y
   split at hr
   · rename_i f5 h1 hx
     split at hr
     · rename_i q hq
       cases hr
       rw [execK_eq] at hx
       obtain ⟨f1, g1, x1, hx⟩ := exec_seq hx
       obtain ⟨f2, g2, x2, hx⟩ := exec_seq hx
       obtain ⟨f3, g3, x3, hx⟩ := exec_seq hx
       obtain ⟨f4, g4, x4, x5⟩ := exec_seq hx
       obtain ⟨h55, ok⟩ := mkOf_spec hq
       refine ⟨by show 2 ≤ 162; decide, ?_⟩
       refine wpA_seq_of x1 (wpA_seq_of x2 (wpA_seq_of x3 (wpA_seq_of x4 (wpA_seq_of x5 ?_))))
       obtain ⟨⟨pM, hM⟩, _, _, _, _⟩ := walkE_spec ok.w
       have hun : ∀ k b, (h1.kill h1.next).get k = some b → k ≠ h1.next ∧ h1.get k = some b := fun k b hk => by
        rw [AHeap.get_kill] at hk
        by_cases he : k = h1.next
        · rw [if_pos he] at hk; cases hk
        · rw [if_neg he] at hk; exact ⟨he, hk⟩
       obtain ⟨bK, hKh, hK3⟩ : ∃ bK, (h1.kill h1.next).get q.K = some bK ∧ bK.cells[3]? = some (.ptr (.own q.G) 0) := by
        have := ok.kg
        unfold rd at this
        simp only at this
        split at this
        · cases this
        · rename_i b hb; exact ⟨b, hb, this⟩
       obtain ⟨hKn, hK1⟩ := hun _ _ hKh
       obtain ⟨hGn, hG1⟩ := hun _ _ ok.g
       obtain ⟨hMn, hM1⟩ := hun _ _ hM
       generalize hB : ACode.block 4 (.loop (round51 sg cg cc)) = B
       simp only [wpA]
       refine wpOpsA_one rfl V_move (wpOpsA_one rfl (V_nilCheck (l := .own q.K) (o := 0) (by simp (disch := decide) [AOpd.ev, putDst, Fr.gp, h55])) (wpOpsA_one rfl (V_field (l := .own q.K) (o := 0) (by simp (disch := decide) [AOpd.ev, putDst, Fr.gp])) (wpOpsA_one rfl (V_load1 (l := .own q.K) (o := 0 + 3) (v := .ptr (.own q.G) 0) (by simp (disch := decide) [AOpd.ev, putDst, Fr.gp]) (by simp only [rd, hK1]; exact hK3)) (wpOpsA_one rfl (V_nilCheck (l := .own q.G) (o := 0) (by simp (disch := decide) [AOpd.ev, putDst, Fr.gp]))
        (wpOpsA_one rfl (V_field (l := .own q.G) (o := 0) (by simp (disch := decide) [AOpd.ev, putDst, Fr.gp])) (wpOpsA_one rfl (V_load1 (l := .own q.G) (o := 0 + 0) (v := .map q.M) (by simp (disch := decide) [AOpd.ev, putDst, Fr.gp]) (by simp only [rd, hG1]; rfl)) (wpOpsA_one rfl (V_range (j := q.M) (by simp (disch := decide) [AOpd.ev, putDst, Fr.gp]) hM1) (wpOpsA_nil ?_))))))))
       dsimp only [putDst]
       generalize hf : Fr.put (Fr.put (Fr.put (Fr.put (Fr.put (Fr.put (Fr.put (Fr.put f5 113 _) 114 _) 115 _) 116 _) 117 _) 118 _) 119 _) 120 (AVal.iter h1.next) = f6
       have f65 : f6.get 5 = .ptr (.own q.K) 0 := by rw [← hf]; simp (disch := decide) [Fr.gp, h55]
       have f6i : f6.get 120 = .iter h1.next := by rw [← hf]; simp (disch := decide) [Fr.gp]
       subst hB
       refine wpA_loop_lt fun hlt => ?_
       have hlt0 : ∀ k b, (h1.kill h1.next).get k = some b → k < (h1.kill h1.next).next := fun k b hk => by
        obtain ⟨hne, hk1⟩ := hun k b hk
        have := hlt k b (by rw [AHeap.get_alloc, if_neg hne]; exact hk1)
        have h9 : k < h1.next + 1 := this
        show k < h1.next
        omega
       have hpl := ok.pl
       obtain ⟨csM, hpl⟩ := hpl
       rw [hM] at hpl
       have hpt : pM = true := by cases hpl; rfl
       subst hpt
       refine wpA_mono (fun x f7 h7 hx => ?_) (loop51 (h := h1.kill h1.next) hcs hcc hlt0 ok (f := f6) ⟨f6i, f65, rfl, ?_, ?_, ?_, (fun _ he => by cases he), fun k b hk _ _ _ => ?_⟩ hm)
       · obtain ⟨rfl, picked, hp, g⟩ := hx
         dsimp only
         have hkn := gotM_knows ok hp g
         have hK7 : h7.get q.K = some bK := g.old _ _ hKh (fun e => by
          have := ok.nd; simp only [List.nodup_cons, List.mem_cons, not_or] at this; exact this.1.2.1 e) (fun e => by
          have := ok.nd; simp only [List.nodup_cons, List.mem_cons, not_or] at this; exact this.1.1 e) fun x hx e => by
           have := ok.nd
           rw [ok.ts] at this
           simp only [List.nodup_cons, List.mem_cons, not_or, List.map_map] at this
           exact this.1.2.2 (List.mem_map.2 ⟨x, hp.mem_iff.1 hx, e.symm⟩)
         refine wpOpsA_one rfl V_move (wpOpsA_one rfl (V_nilCheck (l := .own q.K) (o := 0) (by simp (disch := decide) [AOpd.ev, putDst, Fr.gp, g.m5])) (wpOpsA_one rfl (V_field (l := .own q.K) (o := 0) (by simp (disch := decide) [AOpd.ev, putDst, Fr.gp])) (wpOpsA_one rfl (V_load1 (l := .own q.K) (o := 0 + 3) (v := .ptr (.own q.G) 0) (by simp (disch := decide) [AOpd.ev, putDst, Fr.gp]) (by simp only [rd, hK7]; exact hK3)) (wpOpsA_one rfl V_move (wpOpsA_nil ?_)))))
         dsimp only [putDst]
         refine ⟨fun id => by simp, [.ptr (.own q.G) 0], ?_, rfl, hkn⟩
         show ressOf I _ _ [.tmp 4] = _
         simp only [ressOf, resOf]
         simp (disch := decide) [AOpd.ev, Fr.gp]
       · rw [AHeap.get_alloc, if_pos (by rfl)]; rfl
       · rw [AHeap.get_alloc, if_neg hMn, hM1, List.map_nil, updE_nil]
       · rw [AHeap.get_alloc, if_neg hGn, hG1]; rfl
       · obtain ⟨hne, hk1⟩ := hun k b hk
         rw [AHeap.get_alloc, if_neg hne]; exact hk1
     · cases hr
   · cases hr
 · cases hr
end
end
end Go.AM
