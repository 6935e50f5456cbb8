/- The functions of the program by their labels, on values, part 3: what they compute the abstract machine computes. Conditions: none. -/
import Derived.Test.YtechgpjdlkjjoaaGreatDoorSf2
import Derived.Test.YtechgpjdlkjjoaaGreatDoorProg
namespace Go.Proofs.YtechgpjdlkjjoaaGreatDoor.Sf
open Go.AM
set_option linter.unusedVariables false
/-! (*haruspex/bitset.Set).Meet -/
noncomputable def c166 : AFunc := (AFunc.mk 31 2 [(.tmp 4)] (.seq (.region [(S 4 (.move (.val .nilp)) .none)]) (.seq (.region [(M 7 0), (S 8 (.call 175 [(T 7)]) .none), (M 5 8)]) (.seq (.seq (.region [(M 9 5), (NC 10 9), (FA 11 0 10), (L1 12 11), (S 13 (.lenSl (T 12)) .none), (S 14 (.move (V 0)) .none)]) (.block 0 (.loop (.seq (.region [(S 15 (.bin .lss (T 14) (T 13)) .none)]) (.seq (.cond (T 15) .skip (.exit 0)) (.seq (.block 1 (.seq (.region [(M 16 14), (M 6 16)]) (.draw [(M 17 5), (NC 18 17), (FA 19 0 18), (L1 20 19), (M 21 6), (S 22 (.indexAddr 1 (T 20) (T 21)) .none), (L1 23 22), (M 24 1), (M 25 6), (S 26 (.call 162 [(T 24), (T 25)]) .none), (S 27 (.bin .and (T 23) (T 26)) .none), (S 28 (.indexAddr 1 (T 20) (T 21)) .none), (AOper.mk .none (.store 1 (T 28) (T 27)) .none)] [N, N, N, (.false, [1]), N, N, (.false, [1]), N, N, Y, N, N, Y] 0))) (.region [(S 29 (.bin .add (T 14) (V 1)) .none), (M 14 29)]))))))) (.seq (.region [(M 30 5), (M 4 30)]) .ret)))))
abbrev f166.Js : Type := (((AVal → AHeap → Rs) × (AVal → AVal → AVal → AVal → AHeap → Rs)) × ((AVal → AVal → AVal → AVal → AHeap → Rs) × (AVal → AVal → AVal → AVal → AHeap → Rs)))
noncomputable def f166.b0 (I : Inp) (call : CallFn) (j : f166.Js) (v5 : AVal) (h : AHeap) : Rs :=
  some (v5, h)
noncomputable def f166.b1 (I : Inp) (call : CallFn) (j : f166.Js) (v1 v5 v13 v14 : AVal) (h : AHeap) : Rs :=
  bndP (pBin .lss v14 v13) fun v15 =>
  sCond v15 (
  j.1.1 v5 h) (
  j.2.1 v1 v5 v13 v14 h)
noncomputable def f166.b2 (I : Inp) (call : CallFn) (j : f166.Js) (v1 v5 v13 v14 : AVal) (h : AHeap) : Rs :=
  bndP (pNilCheck v5) fun v18 =>
  bndP (pFieldAddr 0 v18) fun v19 =>
  bndP (pLoad1 I v19 h) fun v20 =>
  bndP (pIndexAddr 1 v20 v14) fun v22 =>
  bndP (pLoad1 I v22 h) fun v23 =>
  bnd (call 162 [v1, v14] h) fun v26 h1 =>
  bndP (pBin .and v23 v26) fun v27 =>
  bndP (pIndexAddr 1 v20 v14) fun v28 =>
  bnd (sStore 1 v28 v27 h1) fun _ h2 =>
  sCheck (sSame (lift (pLoad1 I v19 h1) h1) v20 && true) (
  sCheck (sSame (lift (pLoad1 I v22 h1) h1) v23 && true) (
  j.2.2 v1 v5 v13 v14 h2))
noncomputable def f166.b3 (I : Inp) (call : CallFn) (j : f166.Js) (v1 v5 v13 v14 : AVal) (h : AHeap) : Rs :=
  bndP (pBin .add v14 (Z 1)) fun v29 =>
  j.1.2 v1 v5 v13 v29 h
noncomputable def f166.e (I : Inp) (call : CallFn) (j : f166.Js) (v0 v1 : AVal) (h : AHeap) : Rs :=
  bnd (call 175 [v0] h) fun v8 h1 =>
  bndP (pNilCheck v8) fun v10 =>
  bndP (pFieldAddr 0 v10) fun v11 =>
  bndP (pLoad1 I v11 h1) fun v12 =>
  bndP (pLenSl v12) fun v13 =>
  j.1.2 v1 v8 v13 (Z 0) h1
noncomputable def f166.J (I : Inp) (call : CallFn) (n : Nat) : f166.Js :=
  Nat.rec (motive := fun _ => f166.Js) (((fun _ _ => none), (fun _ _ _ _ _ => none)), ((fun _ _ _ _ _ => none), (fun _ _ _ _ _ => none))) (fun _ ih => ((f166.b0 I call ih, f166.b1 I call ih), (f166.b2 I call ih, f166.b3 I call ih))) n
noncomputable def f166.JS (I : Inp) (call : CallFn) (n : Nat) : Jmp := fun id ρ h =>
  (Bool.rec (motive := fun _ => _) (Bool.rec (motive := fun _ => _) ((f166.J I call n).2.2 (ρ 1) (ρ 5) (ρ 13) (ρ 14) h) ((f166.J I call n).2.1 (ρ 1) (ρ 5) (ρ 13) (ρ 14) h) (Nat.blt id 3)) (Bool.rec (motive := fun _ => _) ((f166.J I call n).1.2 (ρ 1) (ρ 5) (ρ 13) (ρ 14) h) ((f166.J I call n).1.1 (ρ 5) h) (Nat.blt id 1)) (Nat.blt id 2))
theorem f166.q0 (I : Inp) (call : CallFn) (n : Nat) (ρ : Fun) (h : AHeap) : f166.JS I call (n + 1) 0 ρ h = labC P I call (f166.JS I call n) c166.body 0 (finV I c166.results) 0 ρ h := by kernel_rfl
theorem f166.q1 (I : Inp) (call : CallFn) (n : Nat) (ρ : Fun) (h : AHeap) : f166.JS I call (n + 1) 1 ρ h = labC P I call (f166.JS I call n) c166.body 0 (finV I c166.results) 1 ρ h := by kernel_rfl
theorem f166.q2 (I : Inp) (call : CallFn) (n : Nat) (ρ : Fun) (h : AHeap) : f166.JS I call (n + 1) 2 ρ h = labC P I call (f166.JS I call n) c166.body 0 (finV I c166.results) 2 ρ h := by kernel_rfl
theorem f166.q3 (I : Inp) (call : CallFn) (n : Nat) (ρ : Fun) (h : AHeap) : f166.JS I call (n + 1) 3 ρ h = labC P I call (f166.JS I call n) c166.body 0 (finV I c166.results) 3 ρ h := by kernel_rfl
theorem f166.S (I : Inp) (F : Nat → Option AFn) (call : CallFn) : SFn ⟨P, I, F⟩ call c166 (f166.JS I call) :=
  ⟨fun id hid ρ h => by
    have hc : c166.body.cnt = 4 := by kernel_rfl
    rw [hc] at hid
    exact match id, hid with
    | 0, _ => rfl
    | 1, _ => rfl
    | 2, _ => rfl
    | 3, _ => rfl
    | id + 4, hid => absurd hid (by omega), fun n id hid ρ h => by
    have hc : c166.body.cnt = 4 := by kernel_rfl
    rw [hc] at hid
    exact match id, hid with
    | 0, _ => f166.q0 I call n ρ h
    | 1, _ => f166.q1 I call n ρ h
    | 2, _ => f166.q2 I call n ρ h
    | 3, _ => f166.q3 I call n ρ h
    | id + 4, hid => absurd hid (by omega)⟩
noncomputable def f166.run (I : Inp) : SF := fun call n a h =>
  match a with
  | [v0, v1] => f166.e I call (f166.J I call n) v0 v1 h
  | _ => none
theorem f166.qe (I : Inp) (call : CallFn) (n : Nat) (v0 v1 : AVal) (h : AHeap) : f166.e I call (f166.J I call n) v0 v1 h = execC P I call (f166.JS I call n) c166.body 0 (finV I c166.results) (argV [v0, v1]) h := by kernel_rfl
theorem f166.code : codeOf P 166 = some c166 := by kernel_rfl
theorem f166.ok (I : Inp) (F : Nat → Option AFn) (hF : F 166 = some (.code c166)) : SfOk P I F 166 (f166.run I) := by
  intro call hc n args h r hr
  unfold f166.run at hr
  split at hr
  · exact fn_sound (C := ⟨P, I, F⟩) (n := n) hc hF (Nat.le_of_ble_eq_true (by kernel_rfl)) (by kernel_rfl) (f166.S I F call) (by kernel_rfl) ((f166.qe I call n _ _ h).symm.trans hr)
  · cases hr
/-! (*haruspex/bitset.Set).Eq -/
noncomputable def c167 : AFunc := (AFunc.mk 13 2 [(.tmp 4)] (.seq (.region [(S 4 (.move (.val (.bool .false))) .none)]) (.seq (.region [(M 5 0), (M 6 1), (S 7 (.call 139 [(T 5), (T 6)]) .none), (M 8 7), (S 9 (.move (T 1)) (.some (8, .true))), (S 10 (.move (T 0)) (.some (8, .true))), (S 11 (.call 139 [(T 9), (T 10)]) (.some (8, .true))), (S 12 (.pick (T 8) (T 11) (.val (.bool .false))) .none), (M 4 12)]) .ret)))
abbrev f167.Js : Type := Unit
noncomputable def f167.e (I : Inp) (call : CallFn) (j : f167.Js) (v0 v1 : AVal) (h : AHeap) : Rs :=
  bnd (call 139 [v0, v1] h) fun v7 h1 =>
  bnd (sGuard v7 .true (some (v1, h1)) h1) fun v9 h2 =>
  bnd (sGuard v7 .true (some (v0, h2)) h2) fun v10 h3 =>
  bnd (sGuard v7 .true (call 139 [v9, v10] h3) h3) fun v11 h4 =>
  bndP (pPick v7 v11 (.bool .false)) fun v12 =>
  some (v12, h4)
theorem f167.S (I : Inp) (F : Nat → Option AFn) (call : CallFn) : SFn ⟨P, I, F⟩ call c167 (fun _ _ _ _ => none) :=
  ⟨fun _ _ _ _ => rfl, fun n id hid => absurd hid (by rw [show c167.body.cnt = 0 by kernel_rfl]; omega)⟩
noncomputable def f167.run (I : Inp) : SF := fun call n a h =>
  match a with
  | [v0, v1] => f167.e I call () v0 v1 h
  | _ => none
theorem f167.qe (I : Inp) (call : CallFn) (n : Nat) (v0 v1 : AVal) (h : AHeap) : f167.e I call () v0 v1 h = execC P I call (fun _ _ _ => none) c167.body 0 (finV I c167.results) (argV [v0, v1]) h := by kernel_rfl
theorem f167.code : codeOf P 167 = some c167 := by kernel_rfl
theorem f167.ok (I : Inp) (F : Nat → Option AFn) (hF : F 167 = some (.code c167)) : SfOk P I F 167 (f167.run I) := by
  intro call hc n args h r hr
  unfold f167.run at hr
  split at hr
  · exact fn_sound (C := ⟨P, I, F⟩) (n := n) hc hF (Nat.le_of_ble_eq_true (by kernel_rfl)) (by kernel_rfl) (f167.S I F call) (by kernel_rfl) ((f167.qe I call n _ _ h).symm.trans hr)
  · cases hr
/-! (*haruspex/bitset.Set).words -/
noncomputable def c168 : AFunc := (AFunc.mk 9 1 [(.tmp 2)] (.seq (.region [(S 2 (.move (.val .nils)) .none)]) (.seq (.seq (.region [(M 3 0), (S 4 (.eq .false .ptr .true (T 3) (.val .nilp)) .none)]) (.cond (T 4) (.seq (.region [(S 2 (.move (.val .nils)) .none)]) .ret) .skip)) (.seq (.region [(M 5 0), (NC 6 5), (FA 7 0 6), (L1 8 7), (M 2 8)]) .ret))))
abbrev f168.Js : Type := (AVal → AHeap → Rs)
noncomputable def f168.b0 (I : Inp) (call : CallFn) (j : f168.Js) (v0 : AVal) (h : AHeap) : Rs :=
  bndP (pNilCheck v0) fun v6 =>
  bndP (pFieldAddr 0 v6) fun v7 =>
  bndP (pLoad1 I v7 h) fun v8 =>
  some (v8, h)
noncomputable def f168.e (I : Inp) (call : CallFn) (j : f168.Js) (v0 : AVal) (h : AHeap) : Rs :=
  bndP (pEq P .false .ptr .true v0 .nilp h) fun v4 =>
  sCond v4 (
  j v0 h) (
  some (.nils, h))
noncomputable def f168.J (I : Inp) (call : CallFn) (n : Nat) : f168.Js :=
  Nat.rec (motive := fun _ => f168.Js) (fun _ _ => none) (fun _ ih => f168.b0 I call ih) n
noncomputable def f168.JS (I : Inp) (call : CallFn) (n : Nat) : Jmp := fun id ρ h =>
  ((f168.J I call n) (ρ 0) h)
theorem f168.q0 (I : Inp) (call : CallFn) (n : Nat) (ρ : Fun) (h : AHeap) : f168.JS I call (n + 1) 0 ρ h = labC P I call (f168.JS I call n) c168.body 0 (finV I c168.results) 0 ρ h := by kernel_rfl
theorem f168.S (I : Inp) (F : Nat → Option AFn) (call : CallFn) : SFn ⟨P, I, F⟩ call c168 (f168.JS I call) :=
  ⟨fun id hid ρ h => by
    have hc : c168.body.cnt = 1 := by kernel_rfl
    rw [hc] at hid
    exact match id, hid with
    | 0, _ => rfl
    | id + 1, hid => absurd hid (by omega), fun n id hid ρ h => by
    have hc : c168.body.cnt = 1 := by kernel_rfl
    rw [hc] at hid
    exact match id, hid with
    | 0, _ => f168.q0 I call n ρ h
    | id + 1, hid => absurd hid (by omega)⟩
noncomputable def f168.run (I : Inp) : SF := fun call n a h =>
  match a with
  | [v0] => f168.e I call (f168.J I call n) v0 h
  | _ => none
theorem f168.qe (I : Inp) (call : CallFn) (n : Nat) (v0 : AVal) (h : AHeap) : f168.e I call (f168.J I call n) v0 h = execC P I call (f168.JS I call n) c168.body 0 (finV I c168.results) (argV [v0]) h := by kernel_rfl
theorem f168.code : codeOf P 168 = some c168 := by kernel_rfl
theorem f168.ok (I : Inp) (F : Nat → Option AFn) (hF : F 168 = some (.code c168)) : SfOk P I F 168 (f168.run I) := by
  intro call hc n args h r hr
  unfold f168.run at hr
  split at hr
  · exact fn_sound (C := ⟨P, I, F⟩) (n := n) hc hF (Nat.le_of_ble_eq_true (by kernel_rfl)) (by kernel_rfl) (f168.S I F call) (by kernel_rfl) ((f168.qe I call n _ h).symm.trans hr)
  · cases hr
/-! haruspex/graph.behind -/
noncomputable def c173 : AFunc := (AFunc.mk 36 4 [(.tmp 8)] (.seq (.region [(S 4 (.box (T 0)) .none), (S 8 (.move (.val .nils)) .none)]) (.seq (.seq (.region [(M 11 2), (M 12 1), (S 13 (.call 141 [(T 11), (T 12)]) .none), (S 14 (.un .not (T 13)) .none)]) (.cond (T 14) (.seq (.region [(M 15 3), (M 8 15)]) .ret) .skip)) (.seq (.seq (.region [(FA 16 1 4), (L1 17 16), (M 18 1), (S 19 (.indexAddr 1 (T 17) (T 18)) .none), (L1 20 19), (S 21 (.lenSl (T 20)) .none), (S 22 (.move (V 0)) .none)]) (.block 0 (.loop (.seq (.region [(S 23 (.bin .lss (T 22) (T 21)) .none)]) (.seq (.cond (T 23) .skip (.exit 0)) (.seq (.block 1 (.seq (.region [(S 24 (.indexAddr 1 (T 20) (T 22)) .none), (L1 25 24), (M 10 25)]) (.region [(S 26 (.loadN 2 (T 4)) .none), (M 27 10), (M 28 2), (M 29 3), (S 30 (.call 173 [(T 26), (T 27), (T 28), (T 29)]) .none), (M 3 30)]))) (.region [(S 31 (.bin .add (T 22) (V 1)) .none), (M 22 31)]))))))) (.seq (.region [(M 32 3), (M 33 1), (S 34 (.buildSlice [(Z 0)] 1 [(0, (1, (T 33)))]) .none), (S 35 (.append 1 8 (T 32) (T 34)) .none), (M 8 35)]) .ret)))))
abbrev f173.Js : Type := (((AVal → AVal → AVal → AVal → AHeap → Rs) × (AVal → AVal → AHeap → Rs)) × ((AVal → AVal → AVal → AVal → AVal → AVal → AVal → AHeap → Rs) × ((AVal → AVal → AVal → AVal → AVal → AVal → AVal → AHeap → Rs) × (AVal → AVal → AVal → AVal → AVal → AVal → AVal → AHeap → Rs))))
noncomputable def f173.b0 (I : Inp) (call : CallFn) (j : f173.Js) (v1 v2 v3 v4 : AVal) (h : AHeap) : Rs :=
  bndP (pFieldAddr 1 v4) fun v16 =>
  bndP (pLoad1 I v16 h) fun v17 =>
  bndP (pIndexAddr 1 v17 v1) fun v19 =>
  bndP (pLoad1 I v19 h) fun v20 =>
  bndP (pLenSl v20) fun v21 =>
  j.2.1 v1 v2 v3 v4 v20 v21 (Z 0) h
noncomputable def f173.b1 (I : Inp) (call : CallFn) (j : f173.Js) (v1 v3 : AVal) (h : AHeap) : Rs :=
  bnd (sBuildSlice [(Z 0)] 1 [(0, 1, v1)] h) fun v34 h1 =>
  bnd (sAppend I 1 8 v3 v34 h1) fun v35 h2 =>
  some (v35, h2)
noncomputable def f173.b2 (I : Inp) (call : CallFn) (j : f173.Js) (v1 v2 v3 v4 v20 v21 v22 : AVal) (h : AHeap) : Rs :=
  bndP (pBin .lss v22 v21) fun v23 =>
  sCond v23 (
  j.1.2 v1 v3 h) (
  j.2.2.1 v1 v2 v3 v4 v20 v21 v22 h)
noncomputable def f173.b3 (I : Inp) (call : CallFn) (j : f173.Js) (v1 v2 v3 v4 v20 v21 v22 : AVal) (h : AHeap) : Rs :=
  bndP (pIndexAddr 1 v20 v22) fun v24 =>
  bndP (pLoad1 I v24 h) fun v25 =>
  bndP (pLoadN I 2 v4 h) fun v26 =>
  bnd (call 173 [v26, v25, v2, v3] h) fun v30 h1 =>
  j.2.2.2 v1 v2 v30 v4 v20 v21 v22 h1
noncomputable def f173.b4 (I : Inp) (call : CallFn) (j : f173.Js) (v1 v2 v3 v4 v20 v21 v22 : AVal) (h : AHeap) : Rs :=
  bndP (pBin .add v22 (Z 1)) fun v31 =>
  j.2.1 v1 v2 v3 v4 v20 v21 v31 h
noncomputable def f173.e (I : Inp) (call : CallFn) (j : f173.Js) (v0 v1 v2 v3 : AVal) (h : AHeap) : Rs :=
  bnd (sBox v0 h) fun v4 h1 =>
  bnd (call 141 [v2, v1] h1) fun v13 h2 =>
  bndP (pUn .not v13) fun v14 =>
  sCond v14 (
  j.1.1 v1 v2 v3 v4 h2) (
  some (v3, h2))
noncomputable def f173.J (I : Inp) (call : CallFn) (n : Nat) : f173.Js :=
  Nat.rec (motive := fun _ => f173.Js) (((fun _ _ _ _ _ => none), (fun _ _ _ => none)), ((fun _ _ _ _ _ _ _ _ => none), ((fun _ _ _ _ _ _ _ _ => none), (fun _ _ _ _ _ _ _ _ => none)))) (fun _ ih => ((f173.b0 I call ih, f173.b1 I call ih), (f173.b2 I call ih, (f173.b3 I call ih, f173.b4 I call ih)))) n
noncomputable def f173.JS (I : Inp) (call : CallFn) (n : Nat) : Jmp := fun id ρ h =>
  (Bool.rec (motive := fun _ => _) (Bool.rec (motive := fun _ => _) (Bool.rec (motive := fun _ => _) ((f173.J I call n).2.2.2 (ρ 1) (ρ 2) (ρ 3) (ρ 4) (ρ 20) (ρ 21) (ρ 22) h) ((f173.J I call n).2.2.1 (ρ 1) (ρ 2) (ρ 3) (ρ 4) (ρ 20) (ρ 21) (ρ 22) h) (Nat.blt id 4)) ((f173.J I call n).2.1 (ρ 1) (ρ 2) (ρ 3) (ρ 4) (ρ 20) (ρ 21) (ρ 22) h) (Nat.blt id 3)) (Bool.rec (motive := fun _ => _) ((f173.J I call n).1.2 (ρ 1) (ρ 3) h) ((f173.J I call n).1.1 (ρ 1) (ρ 2) (ρ 3) (ρ 4) h) (Nat.blt id 1)) (Nat.blt id 2))
theorem f173.q0 (I : Inp) (call : CallFn) (n : Nat) (ρ : Fun) (h : AHeap) : f173.JS I call (n + 1) 0 ρ h = labC P I call (f173.JS I call n) c173.body 0 (finV I c173.results) 0 ρ h := by kernel_rfl
theorem f173.q1 (I : Inp) (call : CallFn) (n : Nat) (ρ : Fun) (h : AHeap) : f173.JS I call (n + 1) 1 ρ h = labC P I call (f173.JS I call n) c173.body 0 (finV I c173.results) 1 ρ h := by kernel_rfl
theorem f173.q2 (I : Inp) (call : CallFn) (n : Nat) (ρ : Fun) (h : AHeap) : f173.JS I call (n + 1) 2 ρ h = labC P I call (f173.JS I call n) c173.body 0 (finV I c173.results) 2 ρ h := by kernel_rfl
theorem f173.q3 (I : Inp) (call : CallFn) (n : Nat) (ρ : Fun) (h : AHeap) : f173.JS I call (n + 1) 3 ρ h = labC P I call (f173.JS I call n) c173.body 0 (finV I c173.results) 3 ρ h := by kernel_rfl
theorem f173.q4 (I : Inp) (call : CallFn) (n : Nat) (ρ : Fun) (h : AHeap) : f173.JS I call (n + 1) 4 ρ h = labC P I call (f173.JS I call n) c173.body 0 (finV I c173.results) 4 ρ h := by kernel_rfl
theorem f173.S (I : Inp) (F : Nat → Option AFn) (call : CallFn) : SFn ⟨P, I, F⟩ call c173 (f173.JS I call) :=
  ⟨fun id hid ρ h => by
    have hc : c173.body.cnt = 5 := by kernel_rfl
    rw [hc] at hid
    exact match id, hid with
    | 0, _ => rfl
    | 1, _ => rfl
    | 2, _ => rfl
    | 3, _ => rfl
    | 4, _ => rfl
    | id + 5, hid => absurd hid (by omega), fun n id hid ρ h => by
    have hc : c173.body.cnt = 5 := by kernel_rfl
    rw [hc] at hid
    exact match id, hid with
    | 0, _ => f173.q0 I call n ρ h
    | 1, _ => f173.q1 I call n ρ h
    | 2, _ => f173.q2 I call n ρ h
    | 3, _ => f173.q3 I call n ρ h
    | 4, _ => f173.q4 I call n ρ h
    | id + 5, hid => absurd hid (by omega)⟩
noncomputable def f173.run (I : Inp) : SF := fun call n a h =>
  match a with
  | [v0, v1, v2, v3] => f173.e I call (f173.J I call n) v0 v1 v2 v3 h
  | _ => none
theorem f173.qe (I : Inp) (call : CallFn) (n : Nat) (v0 v1 v2 v3 : AVal) (h : AHeap) : f173.e I call (f173.J I call n) v0 v1 v2 v3 h = execC P I call (f173.JS I call n) c173.body 0 (finV I c173.results) (argV [v0, v1, v2, v3]) h := by kernel_rfl
theorem f173.code : codeOf P 173 = some c173 := by kernel_rfl
theorem f173.ok (I : Inp) (F : Nat → Option AFn) (hF : F 173 = some (.code c173)) : SfOk P I F 173 (f173.run I) := by
  intro call hc n args h r hr
  unfold f173.run at hr
  split at hr
  · exact fn_sound (C := ⟨P, I, F⟩) (n := n) hc hF (Nat.le_of_ble_eq_true (by kernel_rfl)) (by kernel_rfl) (f173.S I F call) (by kernel_rfl) ((f173.qe I call n _ _ _ _ h).symm.trans hr)
  · cases hr
/-! slices.Reverse[[]int,int] -/
noncomputable def c174 : AFunc := (AFunc.mk 28 1 [] (.seq (.region [(M 4 0), (S 5 (.lenSl (T 4)) .none), (S 6 (.bin .sub (T 5) (V 1)) .none), (S 2 (.move (V 0)) .none), (M 3 6)]) (.block 0 (.loop (.seq (.seq (.region [(M 7 2), (M 8 3), (S 9 (.bin .lss (T 7) (T 8)) .none)]) (.cond (T 9) .skip (.exit 0))) (.seq (.block 1 (.draw [(M 14 0), (M 15 2), (M 16 0), (M 17 3), (M 18 0), (M 19 3), (S 20 (.indexAddr 1 (T 18) (T 19)) .none), (L1 21 20), (M 22 0), (M 23 2), (S 24 (.indexAddr 1 (T 22) (T 23)) .none), (L1 25 24), (S 26 (.indexAddr 1 (T 14) (T 15)) .none), (AOper.mk .none (.store 1 (T 26) (T 21)) .none), (S 27 (.indexAddr 1 (T 16) (T 17)) .none), (AOper.mk .none (.store 1 (T 27) (T 25)) .none)] [N, N, N, N, N, N, N, N, N, N, N, N, N, Y, N, Y] 0)) (.region [(M 10 2), (S 11 (.bin .add (T 10) (V 1)) .none), (M 12 3), (S 13 (.bin .sub (T 12) (V 1)) .none), (M 2 11), (M 3 13)])))))))
abbrev f174.Js : Type := ((AVal → AVal → AVal → AHeap → Rs) × ((AVal → AVal → AVal → AHeap → Rs) × (AVal → AVal → AVal → AHeap → Rs)))
noncomputable def f174.b0 (I : Inp) (call : CallFn) (j : f174.Js) (v0 v2 v3 : AVal) (h : AHeap) : Rs :=
  bndP (pBin .lss v2 v3) fun v9 =>
  sCond v9 (
  some (.tuple [], h)) (
  j.2.1 v0 v2 v3 h)
noncomputable def f174.b1 (I : Inp) (call : CallFn) (j : f174.Js) (v0 v2 v3 : AVal) (h : AHeap) : Rs :=
  bndP (pIndexAddr 1 v0 v3) fun v20 =>
  bndP (pLoad1 I v20 h) fun v21 =>
  bndP (pIndexAddr 1 v0 v2) fun v24 =>
  bndP (pLoad1 I v24 h) fun v25 =>
  bndP (pIndexAddr 1 v0 v2) fun v26 =>
  bnd (sStore 1 v26 v21 h) fun _ h1 =>
  bndP (pIndexAddr 1 v0 v3) fun v27 =>
  bnd (sStore 1 v27 v25 h1) fun _ h2 =>
  j.2.2 v0 v2 v3 h2
noncomputable def f174.b2 (I : Inp) (call : CallFn) (j : f174.Js) (v0 v2 v3 : AVal) (h : AHeap) : Rs :=
  bndP (pBin .add v2 (Z 1)) fun v11 =>
  bndP (pBin .sub v3 (Z 1)) fun v13 =>
  j.1 v0 v11 v13 h
noncomputable def f174.e (I : Inp) (call : CallFn) (j : f174.Js) (v0 : AVal) (h : AHeap) : Rs :=
  bndP (pLenSl v0) fun v5 =>
  bndP (pBin .sub v5 (Z 1)) fun v6 =>
  j.1 v0 (Z 0) v6 h
noncomputable def f174.J (I : Inp) (call : CallFn) (n : Nat) : f174.Js :=
  Nat.rec (motive := fun _ => f174.Js) ((fun _ _ _ _ => none), ((fun _ _ _ _ => none), (fun _ _ _ _ => none))) (fun _ ih => (f174.b0 I call ih, (f174.b1 I call ih, f174.b2 I call ih))) n
noncomputable def f174.JS (I : Inp) (call : CallFn) (n : Nat) : Jmp := fun id ρ h =>
  (Bool.rec (motive := fun _ => _) (Bool.rec (motive := fun _ => _) ((f174.J I call n).2.2 (ρ 0) (ρ 2) (ρ 3) h) ((f174.J I call n).2.1 (ρ 0) (ρ 2) (ρ 3) h) (Nat.blt id 2)) ((f174.J I call n).1 (ρ 0) (ρ 2) (ρ 3) h) (Nat.blt id 1))
theorem f174.q0 (I : Inp) (call : CallFn) (n : Nat) (ρ : Fun) (h : AHeap) : f174.JS I call (n + 1) 0 ρ h = labC P I call (f174.JS I call n) c174.body 0 (finV I c174.results) 0 ρ h := by kernel_rfl
theorem f174.q1 (I : Inp) (call : CallFn) (n : Nat) (ρ : Fun) (h : AHeap) : f174.JS I call (n + 1) 1 ρ h = labC P I call (f174.JS I call n) c174.body 0 (finV I c174.results) 1 ρ h := by kernel_rfl
theorem f174.q2 (I : Inp) (call : CallFn) (n : Nat) (ρ : Fun) (h : AHeap) : f174.JS I call (n + 1) 2 ρ h = labC P I call (f174.JS I call n) c174.body 0 (finV I c174.results) 2 ρ h := by kernel_rfl
theorem f174.S (I : Inp) (F : Nat → Option AFn) (call : CallFn) : SFn ⟨P, I, F⟩ call c174 (f174.JS I call) :=
  ⟨fun id hid ρ h => by
    have hc : c174.body.cnt = 3 := by kernel_rfl
    rw [hc] at hid
    exact match id, hid with
    | 0, _ => rfl
    | 1, _ => rfl
    | 2, _ => rfl
    | id + 3, hid => absurd hid (by omega), fun n id hid ρ h => by
    have hc : c174.body.cnt = 3 := by kernel_rfl
    rw [hc] at hid
    exact match id, hid with
    | 0, _ => f174.q0 I call n ρ h
    | 1, _ => f174.q1 I call n ρ h
    | 2, _ => f174.q2 I call n ρ h
    | id + 3, hid => absurd hid (by omega)⟩
noncomputable def f174.run (I : Inp) : SF := fun call n a h =>
  match a with
  | [v0] => f174.e I call (f174.J I call n) v0 h
  | _ => none
theorem f174.qe (I : Inp) (call : CallFn) (n : Nat) (v0 : AVal) (h : AHeap) : f174.e I call (f174.J I call n) v0 h = execC P I call (f174.JS I call n) c174.body 0 (finV I c174.results) (argV [v0]) h := by kernel_rfl
theorem f174.code : codeOf P 174 = some c174 := by kernel_rfl
theorem f174.ok (I : Inp) (F : Nat → Option AFn) (hF : F 174 = some (.code c174)) : SfOk P I F 174 (f174.run I) := by
  intro call hc n args h r hr
  unfold f174.run at hr
  split at hr
  · exact fn_sound (C := ⟨P, I, F⟩) (n := n) hc hF (Nat.le_of_ble_eq_true (by kernel_rfl)) (by kernel_rfl) (f174.S I F call) (by kernel_rfl) ((f174.qe I call n _ h).symm.trans hr)
  · cases hr
/-! (*haruspex/bitset.Set).Copy -/
noncomputable def c175 : AFunc := (AFunc.mk 8 1 [(.tmp 2)] (.seq (.region [(S 2 (.move (.val .nilp)) .none)]) (.seq (.region [(M 3 0), (S 4 (.call 168 [(T 3)]) .none), (S 5 (.call 179 [(T 4)]) .none), (S 6 (.build [.nils] [(0, (1, (T 5)))]) .none), (S 7 (.box (T 6)) .none), (M 2 7)]) .ret)))
abbrev f175.Js : Type := Unit
noncomputable def f175.e (I : Inp) (call : CallFn) (j : f175.Js) (v0 : AVal) (h : AHeap) : Rs :=
  bnd (call 168 [v0] h) fun v4 h1 =>
  bnd (call 179 [v4] h1) fun v5 h2 =>
  bndP (pBuild [.nils] [(0, 1, v5)]) fun v6 =>
  bnd (sBox v6 h2) fun v7 h3 =>
  some (v7, h3)
theorem f175.S (I : Inp) (F : Nat → Option AFn) (call : CallFn) : SFn ⟨P, I, F⟩ call c175 (fun _ _ _ _ => none) :=
  ⟨fun _ _ _ _ => rfl, fun n id hid => absurd hid (by rw [show c175.body.cnt = 0 by kernel_rfl]; omega)⟩
noncomputable def f175.run (I : Inp) : SF := fun call n a h =>
  match a with
  | [v0] => f175.e I call () v0 h
  | _ => none
theorem f175.qe (I : Inp) (call : CallFn) (n : Nat) (v0 : AVal) (h : AHeap) : f175.e I call () v0 h = execC P I call (fun _ _ _ => none) c175.body 0 (finV I c175.results) (argV [v0]) h := by kernel_rfl
theorem f175.code : codeOf P 175 = some c175 := by kernel_rfl
theorem f175.ok (I : Inp) (F : Nat → Option AFn) (hF : F 175 = some (.code c175)) : SfOk P I F 175 (f175.run I) := by
  intro call hc n args h r hr
  unfold f175.run at hr
  split at hr
  · exact fn_sound (C := ⟨P, I, F⟩) (n := n) hc hF (Nat.le_of_ble_eq_true (by kernel_rfl)) (by kernel_rfl) (f175.S I F call) (by kernel_rfl) ((f175.qe I call n _ h).symm.trans hr)
  · cases hr
/-! slices.Clone[[]uint64,uint64] -/
noncomputable def c179 : AFunc := (AFunc.mk 8 1 [(.tmp 2)] (.seq (.region [(S 2 (.move (.val .nils)) .none)]) (.seq (.seq (.region [(M 3 0), (S 4 (.eq .false .slice .true (T 3) (.val .nils)) .none)]) (.cond (T 4) (.seq (.region [(S 2 (.move (.val .nils)) .none)]) .ret) .skip)) (.seq (.region [(S 5 (.buildSlice [(.int .u64 (.ofNat 0))] 0 []) .none), (M 6 0), (S 7 (.append 1 8 (T 5) (T 6)) .none), (M 2 7)]) .ret))))
abbrev f179.Js : Type := (AVal → AHeap → Rs)
noncomputable def f179.b0 (I : Inp) (call : CallFn) (j : f179.Js) (v0 : AVal) (h : AHeap) : Rs :=
  bnd (sBuildSlice [(.int .u64 (.ofNat 0))] 0 [] h) fun v5 h1 =>
  bnd (sAppend I 1 8 v5 v0 h1) fun v7 h2 =>
  some (v7, h2)
noncomputable def f179.e (I : Inp) (call : CallFn) (j : f179.Js) (v0 : AVal) (h : AHeap) : Rs :=
  bndP (pEq P .false .slice .true v0 .nils h) fun v4 =>
  sCond v4 (
  j v0 h) (
  some (.nils, h))
noncomputable def f179.J (I : Inp) (call : CallFn) (n : Nat) : f179.Js :=
  Nat.rec (motive := fun _ => f179.Js) (fun _ _ => none) (fun _ ih => f179.b0 I call ih) n
noncomputable def f179.JS (I : Inp) (call : CallFn) (n : Nat) : Jmp := fun id ρ h =>
  ((f179.J I call n) (ρ 0) h)
theorem f179.q0 (I : Inp) (call : CallFn) (n : Nat) (ρ : Fun) (h : AHeap) : f179.JS I call (n + 1) 0 ρ h = labC P I call (f179.JS I call n) c179.body 0 (finV I c179.results) 0 ρ h := by kernel_rfl
theorem f179.S (I : Inp) (F : Nat → Option AFn) (call : CallFn) : SFn ⟨P, I, F⟩ call c179 (f179.JS I call) :=
  ⟨fun id hid ρ h => by
    have hc : c179.body.cnt = 1 := by kernel_rfl
    rw [hc] at hid
    exact match id, hid with
    | 0, _ => rfl
    | id + 1, hid => absurd hid (by omega), fun n id hid ρ h => by
    have hc : c179.body.cnt = 1 := by kernel_rfl
    rw [hc] at hid
    exact match id, hid with
    | 0, _ => f179.q0 I call n ρ h
    | id + 1, hid => absurd hid (by omega)⟩
noncomputable def f179.run (I : Inp) : SF := fun call n a h =>
  match a with
  | [v0] => f179.e I call (f179.J I call n) v0 h
  | _ => none
theorem f179.qe (I : Inp) (call : CallFn) (n : Nat) (v0 : AVal) (h : AHeap) : f179.e I call (f179.J I call n) v0 h = execC P I call (f179.JS I call n) c179.body 0 (finV I c179.results) (argV [v0]) h := by kernel_rfl
theorem f179.code : codeOf P 179 = some c179 := by kernel_rfl
theorem f179.ok (I : Inp) (F : Nat → Option AFn) (hF : F 179 = some (.code c179)) : SfOk P I F 179 (f179.run I) := by
  intro call hc n args h r hr
  unfold f179.run at hr
  split at hr
  · exact fn_sound (C := ⟨P, I, F⟩) (n := n) hc hF (Nat.le_of_ble_eq_true (by kernel_rfl)) (by kernel_rfl) (f179.S I F call) (by kernel_rfl) ((f179.qe I call n _ h).symm.trans hr)
  · cases hr
end Go.Proofs.YtechgpjdlkjjoaaGreatDoor.Sf
