/- The functions of the program by their labels, on values, part 1: what they compute the abstract machine computes. Conditions: none. -/
import Derived.Test.YtechgpjdlkjjoaaGreatDoorSf0
import Derived.Test.YtechgpjdlkjjoaaGreatDoorProg
namespace Go.Proofs.YtechgpjdlkjjoaaGreatDoor.Sf
open Go.AM
set_option linter.unusedVariables false
/-! haruspex/types.Check -/
noncomputable def c92 : AFunc := (AFunc.mk 71 1 [(.tmp 2)] (.seq (.region [(S 1 (.box (T 0)) .none), (S 2 (.move (.val .nili)) .none)]) (.seq (.region [(S 9 (.call 66 []) .none), (S 10 (.call 67 [(V 4), (T 9), (.val .nili)]) .none), (M 3 10)]) (.seq (.seq (.region [(L1 11 1), (NC 12 11), (FA 13 4 12), (L1 14 13), (S 15 (.lenSl (T 14)) .none), (S 16 (.move (V 0)) .none)]) (.block 0 (.loop (.seq (.region [(S 17 (.bin .lss (T 16) (T 15)) .none)]) (.seq (.cond (T 17) .skip (.exit 0)) (.seq (.block 1 (.seq (.region [(S 18 (.indexAddr 3 (T 14) (T 16)) .none), (S 19 (.loadN 3 (T 18)) .none), (S 5 (.alloc [(Z 0), .nils, .nils]) .none), (AOper.mk .none (.store 3 (T 5) (T 19)) .none)]) (.seq (.region [(L1 20 1), (S 21 (.loadN 3 (T 5)) .none), (S 22 (.call 128 [(T 20), (T 21)]) .none), (S 23 (.un .not (T 22)) .none)]) (.cond (T 23) (.seq (.region [(M 24 3), (M 2 24)]) .ret) .skip)))) (.region [(S 25 (.bin .add (T 16) (V 1)) .none), (M 16 25)]))))))) (.seq (.seq (.region [(L1 26 1), (NC 27 26), (FA 28 4 27), (L1 29 28), (S 30 (.lenSl (T 29)) .none), (S 31 (.move (V 0)) .none)]) (.block 2 (.loop (.seq (.region [(S 32 (.bin .lss (T 31) (T 30)) .none)]) (.seq (.cond (T 32) .skip (.exit 2)) (.seq (.block 3 (.seq (.region [(M 33 31), (M 6 33)]) (.seq (.region [(L1 34 1), (M 35 6), (S 36 (.mkFunc (.func 129) [] [(T 1)]) .none), (S 37 (.mkFunc (.func 131) [] [(T 1)]) .none), (S 38 (.call 121 [(T 34), (V 4), (T 35), (T 36), (T 37)]) .none), (M 7 38)]) (.seq (.region [(M 39 7), (S 40 (.eq .true .iface .true (T 39) (.val .nili)) .none)]) (.cond (T 40) (.seq (.region [(M 41 7), (M 2 41)]) .ret) .skip))))) (.region [(S 42 (.bin .add (T 31) (V 1)) .none), (M 31 42)]))))))) (.seq (.seq (.draw [(L1 43 1), (NC 44 43), (FA 45 1 44), (L1 46 45), (L1 47 1), (NC 48 47), (FA 49 4 48), (L1 50 49), (L1 51 1), (NC 52 51), (FA 53 5 52), (L1 54 53), (S 55 (.indexAddr 3 (T 50) (T 54)) .none), (FA 56 0 55), (L1 57 56), (S 58 (.indexAddr 3 (T 46) (T 57)) .none), (S 59 (.loadN 3 (T 58)) .none), (S 8 (.alloc [.nils, (Z 0), (Z 0)]) .none), (AOper.mk .none (.store 3 (T 8) (T 59)) .none)] [(.false, [1]), N, N, (.false, [1]), (.false, [1]), N, N, (.false, [1]), (.false, [1]), N, N, (.false, [1]), N, N, (.false, [1]), N, (.false, [1]), Y, Y] 0) (.seq (.region [(FA 60 0 8), (L1 61 60), (S 62 (.lenSl (T 61)) .none), (S 63 (.bin .gtr (T 62) (V 0)) .none), (M 64 63), (S 65 (.fieldAddr 1 (T 8)) (.some (64, .false))), (S 66 (.fieldAddr 0 (T 65)) (.some (64, .false))), (S 67 (.load1 (T 66)) (.some (64, .false))), (S 68 (.bin .neq (T 67) (V 0)) (.some (64, .false))), (S 69 (.pick (T 64) (.val (.bool .true)) (T 68)) .none)]) (.cond (T 69) (.seq (.region [(M 70 3), (M 2 70)]) .ret) .skip))) (.seq (.region [(S 2 (.move (.val .nili)) .none)]) .ret)))))))
abbrev f92.Js : Type := ((((AVal → AVal → AHeap → Rs) × (AVal → AVal → AVal → AVal → AVal → AHeap → Rs)) × ((AVal → AVal → AVal → AVal → AVal → AHeap → Rs) × (AVal → AVal → AVal → AVal → AVal → AHeap → Rs))) × (((AVal → AVal → AHeap → Rs) × (AVal → AVal → AVal → AVal → AHeap → Rs)) × ((AVal → AVal → AVal → AVal → AHeap → Rs) × ((AVal → AVal → AVal → AVal → AHeap → Rs) × (AHeap → Rs)))))
noncomputable def f92.b0 (I : Inp) (call : CallFn) (j : f92.Js) (v1 v3 : AVal) (h : AHeap) : Rs :=
  bndP (pLoad1 I v1 h) fun v26 =>
  bndP (pNilCheck v26) fun v27 =>
  bndP (pFieldAddr 4 v27) fun v28 =>
  bndP (pLoad1 I v28 h) fun v29 =>
  bndP (pLenSl v29) fun v30 =>
  j.2.1.2 v1 v3 v30 (Z 0) h
noncomputable def f92.b1 (I : Inp) (call : CallFn) (j : f92.Js) (v1 v3 v14 v15 v16 : AVal) (h : AHeap) : Rs :=
  bndP (pBin .lss v16 v15) fun v17 =>
  sCond v17 (
  j.1.1.1 v1 v3 h) (
  j.1.2.1 v1 v3 v14 v15 v16 h)
noncomputable def f92.b2 (I : Inp) (call : CallFn) (j : f92.Js) (v1 v3 v14 v15 v16 : AVal) (h : AHeap) : Rs :=
  bndP (pIndexAddr 3 v14 v16) fun v18 =>
  bndP (pLoadN I 3 v18 h) fun v19 =>
  bnd (sAlloc [(Z 0), .nils, .nils] h) fun v5 h1 =>
  bnd (sStore 3 v5 v19 h1) fun _ h2 =>
  bndP (pLoad1 I v1 h2) fun v20 =>
  bndP (pLoadN I 3 v5 h2) fun v21 =>
  bnd (call 128 [v20, v21] h2) fun v22 h3 =>
  bndP (pUn .not v22) fun v23 =>
  sCond v23 (
  j.1.2.2 v1 v3 v14 v15 v16 h3) (
  some (v3, h3))
noncomputable def f92.b3 (I : Inp) (call : CallFn) (j : f92.Js) (v1 v3 v14 v15 v16 : AVal) (h : AHeap) : Rs :=
  bndP (pBin .add v16 (Z 1)) fun v25 =>
  j.1.1.2 v1 v3 v14 v15 v25 h
noncomputable def f92.b4 (I : Inp) (call : CallFn) (j : f92.Js) (v1 v3 : AVal) (h : AHeap) : Rs :=
  bndP (pLoad1 I v1 h) fun v43 =>
  bndP (pNilCheck v43) fun v44 =>
  bndP (pFieldAddr 1 v44) fun v45 =>
  bndP (pLoad1 I v45 h) fun v46 =>
  bndP (pLoad1 I v1 h) fun v47 =>
  bndP (pNilCheck v47) fun v48 =>
  bndP (pFieldAddr 4 v48) fun v49 =>
  bndP (pLoad1 I v49 h) fun v50 =>
  bndP (pLoad1 I v1 h) fun v51 =>
  bndP (pNilCheck v51) fun v52 =>
  bndP (pFieldAddr 5 v52) fun v53 =>
  bndP (pLoad1 I v53 h) fun v54 =>
  bndP (pIndexAddr 3 v50 v54) fun v55 =>
  bndP (pFieldAddr 0 v55) fun v56 =>
  bndP (pLoad1 I v56 h) fun v57 =>
  bndP (pIndexAddr 3 v46 v57) fun v58 =>
  bndP (pLoadN I 3 v58 h) fun v59 =>
  bnd (sAlloc [.nils, (Z 0), (Z 0)] h) fun v8 h1 =>
  bnd (sStore 3 v8 v59 h1) fun _ h2 =>
  sCheck (sSame (lift (pLoad1 I v1 h1) h1) v43 && true) (
  sCheck (sSame (lift (pLoad1 I v45 h1) h1) v46 && true) (
  sCheck (sSame (lift (pLoad1 I v1 h1) h1) v47 && true) (
  sCheck (sSame (lift (pLoad1 I v49 h1) h1) v50 && true) (
  sCheck (sSame (lift (pLoad1 I v1 h1) h1) v51 && true) (
  sCheck (sSame (lift (pLoad1 I v53 h1) h1) v54 && true) (
  sCheck (sSame (lift (pLoad1 I v56 h1) h1) v57 && true) (
  sCheck (sSame (lift (pLoadN I 3 v58 h1) h1) v59 && true) (
  bndP (pFieldAddr 0 v8) fun v60 =>
  bndP (pLoad1 I v60 h2) fun v61 =>
  bndP (pLenSl v61) fun v62 =>
  bndP (pBin .gtr v62 (Z 0)) fun v63 =>
  bnd (sGuard v63 .false (lift (pFieldAddr 1 v8) h2) h2) fun v65 h3 =>
  bnd (sGuard v63 .false (lift (pFieldAddr 0 v65) h3) h3) fun v66 h4 =>
  bnd (sGuard v63 .false (lift (pLoad1 I v66 h4) h4) h4) fun v67 h5 =>
  bnd (sGuard v63 .false (lift (pBin .neq v67 (Z 0)) h5) h5) fun v68 h6 =>
  bndP (pPick v63 (.bool .true) v68) fun v69 =>
  sCond v69 (
  j.2.2.2.2 h6) (
  some (v3, h6))))))))))
noncomputable def f92.b5 (I : Inp) (call : CallFn) (j : f92.Js) (v1 v3 v30 v31 : AVal) (h : AHeap) : Rs :=
  bndP (pBin .lss v31 v30) fun v32 =>
  sCond v32 (
  j.2.1.1 v1 v3 h) (
  j.2.2.1 v1 v3 v30 v31 h)
noncomputable def f92.b6 (I : Inp) (call : CallFn) (j : f92.Js) (v1 v3 v30 v31 : AVal) (h : AHeap) : Rs :=
  bndP (pLoad1 I v1 h) fun v34 =>
  bnd (call 121 [v34, (Z 4), v31, (.func (.func 129) [] [v1]), (.func (.func 131) [] [v1])] h) fun v38 h1 =>
  bndP (pEq P .true .iface .true v38 .nili h1) fun v40 =>
  sCond v40 (
  j.2.2.2.1 v1 v3 v30 v31 h1) (
  some (v38, h1))
noncomputable def f92.b7 (I : Inp) (call : CallFn) (j : f92.Js) (v1 v3 v30 v31 : AVal) (h : AHeap) : Rs :=
  bndP (pBin .add v31 (Z 1)) fun v42 =>
  j.2.1.2 v1 v3 v30 v42 h
noncomputable def f92.b8 (I : Inp) (call : CallFn) (j : f92.Js) (h : AHeap) : Rs :=
  some (.nili, h)
noncomputable def f92.e (I : Inp) (call : CallFn) (j : f92.Js) (v0 : AVal) (h : AHeap) : Rs :=
  bnd (sBox v0 h) fun v1 h1 =>
  bnd (call 66 [] h1) fun v9 h2 =>
  bnd (call 67 [(Z 4), v9, .nili] h2) fun v10 h3 =>
  bndP (pLoad1 I v1 h3) fun v11 =>
  bndP (pNilCheck v11) fun v12 =>
  bndP (pFieldAddr 4 v12) fun v13 =>
  bndP (pLoad1 I v13 h3) fun v14 =>
  bndP (pLenSl v14) fun v15 =>
  j.1.1.2 v1 v10 v14 v15 (Z 0) h3
noncomputable def f92.J (I : Inp) (call : CallFn) (n : Nat) : f92.Js :=
  Nat.rec (motive := fun _ => f92.Js) ((((fun _ _ _ => none), (fun _ _ _ _ _ _ => none)), ((fun _ _ _ _ _ _ => none), (fun _ _ _ _ _ _ => none))), (((fun _ _ _ => none), (fun _ _ _ _ _ => none)), ((fun _ _ _ _ _ => none), ((fun _ _ _ _ _ => none), (fun _ => none))))) (fun _ ih => (((f92.b0 I call ih, f92.b1 I call ih), (f92.b2 I call ih, f92.b3 I call ih)), ((f92.b4 I call ih, f92.b5 I call ih), (f92.b6 I call ih, (f92.b7 I call ih, f92.b8 I call ih))))) n
noncomputable def f92.JS (I : Inp) (call : CallFn) (n : Nat) : Jmp := fun id ρ h =>
  (Bool.rec (motive := fun _ => _) (Bool.rec (motive := fun _ => _) (Bool.rec (motive := fun _ => _) (Bool.rec (motive := fun _ => _) ((f92.J I call n).2.2.2.2 h) ((f92.J I call n).2.2.2.1 (ρ 1) (ρ 3) (ρ 30) (ρ 31) h) (Nat.blt id 8)) ((f92.J I call n).2.2.1 (ρ 1) (ρ 3) (ρ 30) (ρ 31) h) (Nat.blt id 7)) (Bool.rec (motive := fun _ => _) ((f92.J I call n).2.1.2 (ρ 1) (ρ 3) (ρ 30) (ρ 31) h) ((f92.J I call n).2.1.1 (ρ 1) (ρ 3) h) (Nat.blt id 5)) (Nat.blt id 6)) (Bool.rec (motive := fun _ => _) (Bool.rec (motive := fun _ => _) ((f92.J I call n).1.2.2 (ρ 1) (ρ 3) (ρ 14) (ρ 15) (ρ 16) h) ((f92.J I call n).1.2.1 (ρ 1) (ρ 3) (ρ 14) (ρ 15) (ρ 16) h) (Nat.blt id 3)) (Bool.rec (motive := fun _ => _) ((f92.J I call n).1.1.2 (ρ 1) (ρ 3) (ρ 14) (ρ 15) (ρ 16) h) ((f92.J I call n).1.1.1 (ρ 1) (ρ 3) h) (Nat.blt id 1)) (Nat.blt id 2)) (Nat.blt id 4))
theorem f92.q0 (I : Inp) (call : CallFn) (n : Nat) (ρ : Fun) (h : AHeap) : f92.JS I call (n + 1) 0 ρ h = labC P I call (f92.JS I call n) c92.body 0 (finV I c92.results) 0 ρ h := by kernel_rfl
theorem f92.q1 (I : Inp) (call : CallFn) (n : Nat) (ρ : Fun) (h : AHeap) : f92.JS I call (n + 1) 1 ρ h = labC P I call (f92.JS I call n) c92.body 0 (finV I c92.results) 1 ρ h := by kernel_rfl
theorem f92.q2 (I : Inp) (call : CallFn) (n : Nat) (ρ : Fun) (h : AHeap) : f92.JS I call (n + 1) 2 ρ h = labC P I call (f92.JS I call n) c92.body 0 (finV I c92.results) 2 ρ h := by kernel_rfl
theorem f92.q3 (I : Inp) (call : CallFn) (n : Nat) (ρ : Fun) (h : AHeap) : f92.JS I call (n + 1) 3 ρ h = labC P I call (f92.JS I call n) c92.body 0 (finV I c92.results) 3 ρ h := by kernel_rfl
theorem f92.q4 (I : Inp) (call : CallFn) (n : Nat) (ρ : Fun) (h : AHeap) : f92.JS I call (n + 1) 4 ρ h = labC P I call (f92.JS I call n) c92.body 0 (finV I c92.results) 4 ρ h := by kernel_rfl
theorem f92.q5 (I : Inp) (call : CallFn) (n : Nat) (ρ : Fun) (h : AHeap) : f92.JS I call (n + 1) 5 ρ h = labC P I call (f92.JS I call n) c92.body 0 (finV I c92.results) 5 ρ h := by kernel_rfl
theorem f92.q6 (I : Inp) (call : CallFn) (n : Nat) (ρ : Fun) (h : AHeap) : f92.JS I call (n + 1) 6 ρ h = labC P I call (f92.JS I call n) c92.body 0 (finV I c92.results) 6 ρ h := by kernel_rfl
theorem f92.q7 (I : Inp) (call : CallFn) (n : Nat) (ρ : Fun) (h : AHeap) : f92.JS I call (n + 1) 7 ρ h = labC P I call (f92.JS I call n) c92.body 0 (finV I c92.results) 7 ρ h := by kernel_rfl
theorem f92.q8 (I : Inp) (call : CallFn) (n : Nat) (ρ : Fun) (h : AHeap) : f92.JS I call (n + 1) 8 ρ h = labC P I call (f92.JS I call n) c92.body 0 (finV I c92.results) 8 ρ h := by kernel_rfl
theorem f92.S (I : Inp) (F : Nat → Option AFn) (call : CallFn) : SFn ⟨P, I, F⟩ call c92 (f92.JS I call) :=
  ⟨fun id hid ρ h => by
    have hc : c92.body.cnt = 9 := by kernel_rfl
    rw [hc] at hid
    exact match id, hid with
    | 0, _ => rfl
    | 1, _ => rfl
    | 2, _ => rfl
    | 3, _ => rfl
    | 4, _ => rfl
    | 5, _ => rfl
    | 6, _ => rfl
    | 7, _ => rfl
    | 8, _ => rfl
    | id + 9, hid => absurd hid (by omega), fun n id hid ρ h => by
    have hc : c92.body.cnt = 9 := by kernel_rfl
    rw [hc] at hid
    exact match id, hid with
    | 0, _ => f92.q0 I call n ρ h
    | 1, _ => f92.q1 I call n ρ h
    | 2, _ => f92.q2 I call n ρ h
    | 3, _ => f92.q3 I call n ρ h
    | 4, _ => f92.q4 I call n ρ h
    | 5, _ => f92.q5 I call n ρ h
    | 6, _ => f92.q6 I call n ρ h
    | 7, _ => f92.q7 I call n ρ h
    | 8, _ => f92.q8 I call n ρ h
    | id + 9, hid => absurd hid (by omega)⟩
noncomputable def f92.run (I : Inp) : SF := fun call n a h =>
  match a with
  | [v0] => f92.e I call (f92.J I call n) v0 h
  | _ => none
theorem f92.qe (I : Inp) (call : CallFn) (n : Nat) (v0 : AVal) (h : AHeap) : f92.e I call (f92.J I call n) v0 h = execC P I call (f92.JS I call n) c92.body 0 (finV I c92.results) (argV [v0]) h := by kernel_rfl
theorem f92.code : codeOf P 92 = some c92 := by kernel_rfl
theorem f92.ok (I : Inp) (F : Nat → Option AFn) (hF : F 92 = some (.code c92)) : SfOk P I F 92 (f92.run I) := by
  intro call hc n args h r hr
  unfold f92.run at hr
  split at hr
  · exact fn_sound (C := ⟨P, I, F⟩) (n := n) hc hF (Nat.le_of_ble_eq_true (by kernel_rfl)) (by kernel_rfl) (f92.S I F call) (by kernel_rfl) ((f92.qe I call n _ h).symm.trans hr)
  · cases hr
/-! haruspex/assign.Shape -/
noncomputable def c93 : AFunc := (AFunc.mk 41 1 [(.tmp 2)] (.seq (.region [(S 2 (.move (.val .nili)) .none)]) (.seq (.seq (.region [(M 6 0), (NC 7 6), (FA 8 4 7), (L1 9 8), (S 10 (.lenSl (T 9)) .none), (S 11 (.move (V 0)) .none)]) (.block 0 (.loop (.seq (.region [(S 12 (.bin .lss (T 11) (T 10)) .none)]) (.seq (.cond (T 12) .skip (.exit 0)) (.seq (.block 1 (.seq (.region [(M 13 11), (M 3 13)]) (.seq (.region [(M 14 0), (M 15 3), (S 16 (.call 134 [(T 14), (T 15)]) .none), (S 17 (.buildSlice [(Z 0)] 1 [(0, (1, (V 0)))]) .none), (S 18 (.call 133 [(T 16), (T 17)]) .none), (M 4 18)]) (.seq (.region [(M 19 0), (NC 20 19), (FA 21 4 20), (L1 22 21), (M 23 3), (S 24 (.indexAddr 3 (T 22) (T 23)) .none), (FA 25 2 24), (L1 26 25), (S 27 (.lenSl (T 26)) .none), (S 28 (.move (V 0)) .none)]) (.block 2 (.loop (.seq (.region [(S 29 (.bin .lss (T 28) (T 27)) .none)]) (.seq (.cond (T 29) .skip (.exit 2)) (.seq (.block 3 (.seq (.region [(M 30 28), (M 5 30)]) (.seq (.region [(M 31 4), (M 32 5), (S 33 (.call 135 [(T 31), (T 32)]) .none), (S 34 (.un .not (T 33)) .none)]) (.cond (T 34) (.seq (.region [(M 35 3), (M 36 5), (S 37 (.build [(Z 0), (Z 0), (Z 0)] [(0, (1, (T 35))), (1, (1, (T 36)))]) .none), (S 38 (.call 67 [(V 6), (T 37), (.val .nili)]) .none), (M 2 38)]) .ret) .skip)))) (.region [(S 39 (.bin .add (T 28) (V 1)) .none), (M 28 39)])))))))))) (.region [(S 40 (.bin .add (T 11) (V 1)) .none), (M 11 40)]))))))) (.seq (.region [(S 2 (.move (.val .nili)) .none)]) .ret))))
abbrev f93.Js : Type := (((AHeap → Rs) × ((AVal → AVal → AVal → AHeap → Rs) × (AVal → AVal → AVal → AHeap → Rs))) × (((AVal → AVal → AVal → AHeap → Rs) × (AVal → AVal → AVal → AVal → AVal → AVal → AVal → AHeap → Rs)) × ((AVal → AVal → AVal → AVal → AVal → AVal → AVal → AHeap → Rs) × (AVal → AVal → AVal → AVal → AVal → AVal → AVal → AHeap → Rs))))
noncomputable def f93.b0 (I : Inp) (call : CallFn) (j : f93.Js) (h : AHeap) : Rs :=
  some (.nili, h)
noncomputable def f93.b1 (I : Inp) (call : CallFn) (j : f93.Js) (v0 v10 v11 : AVal) (h : AHeap) : Rs :=
  bndP (pBin .lss v11 v10) fun v12 =>
  sCond v12 (
  j.1.1 h) (
  j.1.2.2 v0 v10 v11 h)
noncomputable def f93.b2 (I : Inp) (call : CallFn) (j : f93.Js) (v0 v10 v11 : AVal) (h : AHeap) : Rs :=
  bnd (call 134 [v0, v11] h) fun v16 h1 =>
  bnd (sBuildSlice [(Z 0)] 1 [(0, 1, (Z 0))] h1) fun v17 h2 =>
  bnd (call 133 [v16, v17] h2) fun v18 h3 =>
  bndP (pNilCheck v0) fun v20 =>
  bndP (pFieldAddr 4 v20) fun v21 =>
  bndP (pLoad1 I v21 h3) fun v22 =>
  bndP (pIndexAddr 3 v22 v11) fun v24 =>
  bndP (pFieldAddr 2 v24) fun v25 =>
  bndP (pLoad1 I v25 h3) fun v26 =>
  bndP (pLenSl v26) fun v27 =>
  j.2.1.2 v0 v11 v18 v10 v11 v27 (Z 0) h3
noncomputable def f93.b3 (I : Inp) (call : CallFn) (j : f93.Js) (v0 v10 v11 : AVal) (h : AHeap) : Rs :=
  bndP (pBin .add v11 (Z 1)) fun v40 =>
  j.1.2.1 v0 v10 v40 h
noncomputable def f93.b4 (I : Inp) (call : CallFn) (j : f93.Js) (v0 v3 v4 v10 v11 v27 v28 : AVal) (h : AHeap) : Rs :=
  bndP (pBin .lss v28 v27) fun v29 =>
  sCond v29 (
  j.2.1.1 v0 v10 v11 h) (
  j.2.2.1 v0 v3 v4 v10 v11 v27 v28 h)
noncomputable def f93.b5 (I : Inp) (call : CallFn) (j : f93.Js) (v0 v3 v4 v10 v11 v27 v28 : AVal) (h : AHeap) : Rs :=
  bnd (call 135 [v4, v28] h) fun v33 h1 =>
  bndP (pUn .not v33) fun v34 =>
  sCond v34 (
  j.2.2.2 v0 v3 v4 v10 v11 v27 v28 h1) (
  bndP (pBuild [(Z 0), (Z 0), (Z 0)] [(0, 1, v3), (1, 1, v28)]) fun v37 =>
  bnd (call 67 [(Z 6), v37, .nili] h1) fun v38 h2 =>
  some (v38, h2))
noncomputable def f93.b6 (I : Inp) (call : CallFn) (j : f93.Js) (v0 v3 v4 v10 v11 v27 v28 : AVal) (h : AHeap) : Rs :=
  bndP (pBin .add v28 (Z 1)) fun v39 =>
  j.2.1.2 v0 v3 v4 v10 v11 v27 v39 h
noncomputable def f93.e (I : Inp) (call : CallFn) (j : f93.Js) (v0 : AVal) (h : AHeap) : Rs :=
  bndP (pNilCheck v0) fun v7 =>
  bndP (pFieldAddr 4 v7) fun v8 =>
  bndP (pLoad1 I v8 h) fun v9 =>
  bndP (pLenSl v9) fun v10 =>
  j.1.2.1 v0 v10 (Z 0) h
noncomputable def f93.J (I : Inp) (call : CallFn) (n : Nat) : f93.Js :=
  Nat.rec (motive := fun _ => f93.Js) (((fun _ => none), ((fun _ _ _ _ => none), (fun _ _ _ _ => none))), (((fun _ _ _ _ => none), (fun _ _ _ _ _ _ _ _ => none)), ((fun _ _ _ _ _ _ _ _ => none), (fun _ _ _ _ _ _ _ _ => none)))) (fun _ ih => ((f93.b0 I call ih, (f93.b1 I call ih, f93.b2 I call ih)), ((f93.b3 I call ih, f93.b4 I call ih), (f93.b5 I call ih, f93.b6 I call ih)))) n
noncomputable def f93.JS (I : Inp) (call : CallFn) (n : Nat) : Jmp := fun id ρ h =>
  (Bool.rec (motive := fun _ => _) (Bool.rec (motive := fun _ => _) (Bool.rec (motive := fun _ => _) ((f93.J I call n).2.2.2 (ρ 0) (ρ 3) (ρ 4) (ρ 10) (ρ 11) (ρ 27) (ρ 28) h) ((f93.J I call n).2.2.1 (ρ 0) (ρ 3) (ρ 4) (ρ 10) (ρ 11) (ρ 27) (ρ 28) h) (Nat.blt id 6)) (Bool.rec (motive := fun _ => _) ((f93.J I call n).2.1.2 (ρ 0) (ρ 3) (ρ 4) (ρ 10) (ρ 11) (ρ 27) (ρ 28) h) ((f93.J I call n).2.1.1 (ρ 0) (ρ 10) (ρ 11) h) (Nat.blt id 4)) (Nat.blt id 5)) (Bool.rec (motive := fun _ => _) (Bool.rec (motive := fun _ => _) ((f93.J I call n).1.2.2 (ρ 0) (ρ 10) (ρ 11) h) ((f93.J I call n).1.2.1 (ρ 0) (ρ 10) (ρ 11) h) (Nat.blt id 2)) ((f93.J I call n).1.1 h) (Nat.blt id 1)) (Nat.blt id 3))
theorem f93.q0 (I : Inp) (call : CallFn) (n : Nat) (ρ : Fun) (h : AHeap) : f93.JS I call (n + 1) 0 ρ h = labC P I call (f93.JS I call n) c93.body 0 (finV I c93.results) 0 ρ h := by kernel_rfl
theorem f93.q1 (I : Inp) (call : CallFn) (n : Nat) (ρ : Fun) (h : AHeap) : f93.JS I call (n + 1) 1 ρ h = labC P I call (f93.JS I call n) c93.body 0 (finV I c93.results) 1 ρ h := by kernel_rfl
theorem f93.q2 (I : Inp) (call : CallFn) (n : Nat) (ρ : Fun) (h : AHeap) : f93.JS I call (n + 1) 2 ρ h = labC P I call (f93.JS I call n) c93.body 0 (finV I c93.results) 2 ρ h := by kernel_rfl
theorem f93.q3 (I : Inp) (call : CallFn) (n : Nat) (ρ : Fun) (h : AHeap) : f93.JS I call (n + 1) 3 ρ h = labC P I call (f93.JS I call n) c93.body 0 (finV I c93.results) 3 ρ h := by kernel_rfl
theorem f93.q4 (I : Inp) (call : CallFn) (n : Nat) (ρ : Fun) (h : AHeap) : f93.JS I call (n + 1) 4 ρ h = labC P I call (f93.JS I call n) c93.body 0 (finV I c93.results) 4 ρ h := by kernel_rfl
theorem f93.q5 (I : Inp) (call : CallFn) (n : Nat) (ρ : Fun) (h : AHeap) : f93.JS I call (n + 1) 5 ρ h = labC P I call (f93.JS I call n) c93.body 0 (finV I c93.results) 5 ρ h := by kernel_rfl
theorem f93.q6 (I : Inp) (call : CallFn) (n : Nat) (ρ : Fun) (h : AHeap) : f93.JS I call (n + 1) 6 ρ h = labC P I call (f93.JS I call n) c93.body 0 (finV I c93.results) 6 ρ h := by kernel_rfl
theorem f93.S (I : Inp) (F : Nat → Option AFn) (call : CallFn) : SFn ⟨P, I, F⟩ call c93 (f93.JS I call) :=
  ⟨fun id hid ρ h => by
    have hc : c93.body.cnt = 7 := by kernel_rfl
    rw [hc] at hid
    exact match id, hid with
    | 0, _ => rfl
    | 1, _ => rfl
    | 2, _ => rfl
    | 3, _ => rfl
    | 4, _ => rfl
    | 5, _ => rfl
    | 6, _ => rfl
    | id + 7, hid => absurd hid (by omega), fun n id hid ρ h => by
    have hc : c93.body.cnt = 7 := by kernel_rfl
    rw [hc] at hid
    exact match id, hid with
    | 0, _ => f93.q0 I call n ρ h
    | 1, _ => f93.q1 I call n ρ h
    | 2, _ => f93.q2 I call n ρ h
    | 3, _ => f93.q3 I call n ρ h
    | 4, _ => f93.q4 I call n ρ h
    | 5, _ => f93.q5 I call n ρ h
    | 6, _ => f93.q6 I call n ρ h
    | id + 7, hid => absurd hid (by omega)⟩
noncomputable def f93.run (I : Inp) : SF := fun call n a h =>
  match a with
  | [v0] => f93.e I call (f93.J I call n) v0 h
  | _ => none
theorem f93.qe (I : Inp) (call : CallFn) (n : Nat) (v0 : AVal) (h : AHeap) : f93.e I call (f93.J I call n) v0 h = execC P I call (f93.JS I call n) c93.body 0 (finV I c93.results) (argV [v0]) h := by kernel_rfl
theorem f93.code : codeOf P 93 = some c93 := by kernel_rfl
theorem f93.ok (I : Inp) (F : Nat → Option AFn) (hF : F 93 = some (.code c93)) : SfOk P I F 93 (f93.run I) := by
  intro call hc n args h r hr
  unfold f93.run at hr
  split at hr
  · exact fn_sound (C := ⟨P, I, F⟩) (n := n) hc hF (Nat.le_of_ble_eq_true (by kernel_rfl)) (by kernel_rfl) (f93.S I F call) (by kernel_rfl) ((f93.qe I call n _ h).symm.trans hr)
  · cases hr
/-! haruspex/assign.Check -/
noncomputable def c94 : AFunc := (AFunc.mk 96 1 [(.tmp 2)] (.seq (.region [(S 2 (.move (.val .nili)) .none)]) (.seq (.seq (.region [(M 12 0), (NC 13 12), (FA 14 4 13), (L1 15 14), (S 16 (.lenSl (T 15)) .none), (S 17 (.move (V 0)) .none)]) (.block 0 (.loop (.seq (.region [(S 18 (.bin .lss (T 17) (T 16)) .none)]) (.seq (.cond (T 18) .skip (.exit 0)) (.seq (.block 1 (.seq (.region [(M 19 17), (S 20 (.indexAddr 3 (T 15) (T 17)) .none), (S 21 (.loadN 3 (T 20)) .none), (S 4 (.alloc [(Z 0), .nils, .nils]) .none), (M 3 19), (AOper.mk .none (.store 3 (T 4) (T 21)) .none)]) (.seq (.region [(M 22 0), (M 23 3), (S 24 (.call 134 [(T 22), (T 23)]) .none), (S 25 (.buildSlice [(Z 0)] 1 [(0, (1, (V 0)))]) .none), (S 26 (.call 133 [(T 24), (T 25)]) .none), (M 5 26)]) (.seq (.region [(M 27 0), (M 28 3), (S 29 (.call 136 [(T 27), (T 28)]) .none), (S 30 (.lenSl (T 29)) .none), (S 31 (.move (V 0)) .none)]) (.block 2 (.loop (.seq (.region [(S 32 (.bin .lss (T 31) (T 30)) .none)]) (.seq (.cond (T 32) .skip (.exit 2)) (.seq (.block 3 (.seq (.region [(M 33 31), (S 34 (.indexAddr 1 (T 29) (T 31)) .none), (L1 35 34), (M 6 33), (M 7 35)]) (.seq (.seq (.region [(M 36 5), (M 37 6), (S 38 (.call 135 [(T 36), (T 37)]) .none), (S 39 (.un .not (T 38)) .none)]) (.cond (T 39) (.exit 3) .skip)) (.seq (.seq (.region [(FA 40 2 4), (L1 41 40), (M 42 6), (S 43 (.indexAddr 5 (T 41) (T 42)) .none), (FA 44 0 43), (L1 45 44), (S 46 (.lenSl (T 45)) .none), (S 47 (.move (V 0)) .none)]) (.block 4 (.loop (.seq (.region [(S 48 (.bin .lss (T 47) (T 46)) .none)]) (.seq (.cond (T 48) .skip (.exit 4)) (.seq (.block 5 (.seq (.region [(M 49 47), (S 50 (.indexAddr 6 (T 45) (T 47)) .none), (S 51 (.loadN 6 (T 50)) .none), (S 9 (.alloc [(Z 0), (Z 0), (Z 0), (Z 0), (Z 0), .nils]) .none), (M 8 49), (AOper.mk .none (.store 6 (T 9) (T 51)) .none)]) (.seq (.seq (.region [(S 52 (.loadN 6 (T 9)) .none), (S 53 (.call 138 [(T 52)]) .none), (S 54 (.call 137 [(T 53)]) .none), (M 55 7), (S 56 (.call 139 [(T 54), (T 55)]) .none), (S 57 (.un .not (T 56)) .none)]) (.cond (T 57) (.seq (.region [(M 58 3), (M 59 6), (M 60 8), (S 61 (.build [(Z 0), (Z 0), (Z 0)] [(0, (1, (T 58))), (1, (1, (T 59))), (2, (1, (T 60)))]) .none), (S 62 (.call 67 [(V 5), (T 61), (.val .nili)]) .none), (M 2 62)]) .ret) .skip)) (.seq (.region [(S 64 (.loadN 6 (T 9)) .none), (S 65 (.call 140 [(T 64)]) .none), (M 63 65), (S 66 (.extract (T 63) 0) .none), (S 67 (.extract (T 63) 1) .none), (M 10 66), (M 11 67)]) (.seq (.region [(M 68 11)]) (.cond (T 68) (.region [(M 69 7), (M 70 10), (S 71 (.call 141 [(T 69), (T 70)]) .none)]) .skip)))))) (.region [(S 72 (.bin .add (T 47) (V 1)) .none), (M 47 72)]))))))) (.seq (.region [(FA 73 2 4), (L1 74 73), (M 75 6), (S 76 (.indexAddr 5 (T 74) (T 75)) .none), (S 77 (.loadN 5 (T 76)) .none), (S 78 (.call 142 [(T 77)]) .none), (S 79 (.call 137 [(T 78)]) .none), (M 80 7), (S 81 (.call 139 [(T 79), (T 80)]) .none), (S 82 (.un .not (T 81)) .none)]) (.cond (T 82) (.seq (.region [(M 83 3), (M 84 6), (FA 85 2 4), (L1 86 85), (M 87 6), (S 88 (.indexAddr 5 (T 86) (T 87)) .none), (FA 89 0 88), (L1 90 89), (S 91 (.lenSl (T 90)) .none), (S 92 (.build [(Z 0), (Z 0), (Z 0)] [(0, (1, (T 83))), (1, (1, (T 84))), (2, (1, (T 91)))]) .none), (S 93 (.call 67 [(V 5), (T 92), (.val .nili)]) .none), (M 2 93)]) .ret) .skip)))))) (.region [(S 94 (.bin .add (T 31) (V 1)) .none), (M 31 94)])))))))))) (.region [(S 95 (.bin .add (T 17) (V 1)) .none), (M 17 95)]))))))) (.seq (.region [(S 2 (.move (.val .nili)) .none)]) .ret))))
abbrev f94.Js : Type := ((((AHeap → Rs) × ((AVal → AVal → AVal → AVal → AHeap → Rs) × (AVal → AVal → AVal → AVal → AHeap → Rs))) × ((AVal → AVal → AVal → AVal → AHeap → Rs) × ((AVal → AVal → AVal → AVal → AVal → AVal → AVal → AVal → AVal → AVal → AHeap → Rs) × (AVal → AVal → AVal → AVal → AVal → AVal → AVal → AVal → AVal → AVal → AHeap → Rs)))) × (((AVal → AVal → AVal → AVal → AVal → AVal → AVal → AVal → AVal → AVal → AHeap → Rs) × ((AVal → AVal → AVal → AVal → AVal → AVal → AVal → AVal → AVal → AVal → AVal → AVal → AHeap → Rs) × (AVal → AVal → AVal → AVal → AVal → AVal → AVal → AVal → AVal → AVal → AVal → AVal → AHeap → Rs))) × (((AVal → AVal → AVal → AVal → AVal → AVal → AVal → AVal → AVal → AVal → AVal → AVal → AVal → AVal → AVal → AHeap → Rs) × (AVal → AVal → AVal → AVal → AVal → AVal → AVal → AVal → AVal → AVal → AVal → AVal → AVal → AVal → AVal → AHeap → Rs)) × ((AVal → AVal → AVal → AVal → AVal → AVal → AVal → AVal → AVal → AVal → AVal → AVal → AVal → AVal → AVal → AHeap → Rs) × (AVal → AVal → AVal → AVal → AVal → AVal → AVal → AVal → AVal → AVal → AVal → AVal → AVal → AVal → AVal → AVal → AHeap → Rs)))))
noncomputable def f94.b0 (I : Inp) (call : CallFn) (j : f94.Js) (h : AHeap) : Rs :=
  some (.nili, h)
noncomputable def f94.b1 (I : Inp) (call : CallFn) (j : f94.Js) (v0 v15 v16 v17 : AVal) (h : AHeap) : Rs :=
  bndP (pBin .lss v17 v16) fun v18 =>
  sCond v18 (
  j.1.1.1 h) (
  j.1.1.2.2 v0 v15 v16 v17 h)
noncomputable def f94.b2 (I : Inp) (call : CallFn) (j : f94.Js) (v0 v15 v16 v17 : AVal) (h : AHeap) : Rs :=
  bndP (pIndexAddr 3 v15 v17) fun v20 =>
  bndP (pLoadN I 3 v20 h) fun v21 =>
  bnd (sAlloc [(Z 0), .nils, .nils] h) fun v4 h1 =>
  bnd (sStore 3 v4 v21 h1) fun _ h2 =>
  bnd (call 134 [v0, v17] h2) fun v24 h3 =>
  bnd (sBuildSlice [(Z 0)] 1 [(0, 1, (Z 0))] h3) fun v25 h4 =>
  bnd (call 133 [v24, v25] h4) fun v26 h5 =>
  bnd (call 136 [v0, v17] h5) fun v29 h6 =>
  bndP (pLenSl v29) fun v30 =>
  j.1.2.2.1 v0 v17 v4 v26 v15 v16 v17 v29 v30 (Z 0) h6
noncomputable def f94.b3 (I : Inp) (call : CallFn) (j : f94.Js) (v0 v15 v16 v17 : AVal) (h : AHeap) : Rs :=
  bndP (pBin .add v17 (Z 1)) fun v95 =>
  j.1.1.2.1 v0 v15 v16 v95 h
noncomputable def f94.b4 (I : Inp) (call : CallFn) (j : f94.Js) (v0 v3 v4 v5 v15 v16 v17 v29 v30 v31 : AVal) (h : AHeap) : Rs :=
  bndP (pBin .lss v31 v30) fun v32 =>
  sCond v32 (
  j.1.2.1 v0 v15 v16 v17 h) (
  j.1.2.2.2 v0 v3 v4 v5 v15 v16 v17 v29 v30 v31 h)
noncomputable def f94.b5 (I : Inp) (call : CallFn) (j : f94.Js) (v0 v3 v4 v5 v15 v16 v17 v29 v30 v31 : AVal) (h : AHeap) : Rs :=
  bndP (pIndexAddr 1 v29 v31) fun v34 =>
  bndP (pLoad1 I v34 h) fun v35 =>
  bnd (call 135 [v5, v31] h) fun v38 h1 =>
  bndP (pUn .not v38) fun v39 =>
  sCond v39 (
  j.2.1.2.1 v0 v3 v4 v5 v31 v35 v15 v16 v17 v29 v30 v31 h1) (
  j.2.1.1 v0 v3 v4 v5 v15 v16 v17 v29 v30 v31 h1)
noncomputable def f94.b6 (I : Inp) (call : CallFn) (j : f94.Js) (v0 v3 v4 v5 v15 v16 v17 v29 v30 v31 : AVal) (h : AHeap) : Rs :=
  bndP (pBin .add v31 (Z 1)) fun v94 =>
  j.1.2.2.1 v0 v3 v4 v5 v15 v16 v17 v29 v30 v94 h
noncomputable def f94.b7 (I : Inp) (call : CallFn) (j : f94.Js) (v0 v3 v4 v5 v6 v7 v15 v16 v17 v29 v30 v31 : AVal) (h : AHeap) : Rs :=
  bndP (pFieldAddr 2 v4) fun v40 =>
  bndP (pLoad1 I v40 h) fun v41 =>
  bndP (pIndexAddr 5 v41 v6) fun v43 =>
  bndP (pFieldAddr 0 v43) fun v44 =>
  bndP (pLoad1 I v44 h) fun v45 =>
  bndP (pLenSl v45) fun v46 =>
  j.2.2.1.1 v0 v3 v4 v5 v6 v7 v15 v16 v17 v29 v30 v31 v45 v46 (Z 0) h
noncomputable def f94.b8 (I : Inp) (call : CallFn) (j : f94.Js) (v0 v3 v4 v5 v6 v7 v15 v16 v17 v29 v30 v31 : AVal) (h : AHeap) : Rs :=
  bndP (pFieldAddr 2 v4) fun v73 =>
  bndP (pLoad1 I v73 h) fun v74 =>
  bndP (pIndexAddr 5 v74 v6) fun v76 =>
  bndP (pLoadN I 5 v76 h) fun v77 =>
  bnd (call 142 [v77] h) fun v78 h1 =>
  bnd (call 137 [v78] h1) fun v79 h2 =>
  bnd (call 139 [v79, v7] h2) fun v81 h3 =>
  bndP (pUn .not v81) fun v82 =>
  sCond v82 (
  j.2.1.1 v0 v3 v4 v5 v15 v16 v17 v29 v30 v31 h3) (
  bndP (pFieldAddr 2 v4) fun v85 =>
  bndP (pLoad1 I v85 h3) fun v86 =>
  bndP (pIndexAddr 5 v86 v6) fun v88 =>
  bndP (pFieldAddr 0 v88) fun v89 =>
  bndP (pLoad1 I v89 h3) fun v90 =>
  bndP (pLenSl v90) fun v91 =>
  bndP (pBuild [(Z 0), (Z 0), (Z 0)] [(0, 1, v3), (1, 1, v6), (2, 1, v91)]) fun v92 =>
  bnd (call 67 [(Z 5), v92, .nili] h3) fun v93 h4 =>
  some (v93, h4))
noncomputable def f94.b9 (I : Inp) (call : CallFn) (j : f94.Js) (v0 v3 v4 v5 v6 v7 v15 v16 v17 v29 v30 v31 v45 v46 v47 : AVal) (h : AHeap) : Rs :=
  bndP (pBin .lss v47 v46) fun v48 =>
  sCond v48 (
  j.2.1.2.2 v0 v3 v4 v5 v6 v7 v15 v16 v17 v29 v30 v31 h) (
  j.2.2.1.2 v0 v3 v4 v5 v6 v7 v15 v16 v17 v29 v30 v31 v45 v46 v47 h)
noncomputable def f94.b10 (I : Inp) (call : CallFn) (j : f94.Js) (v0 v3 v4 v5 v6 v7 v15 v16 v17 v29 v30 v31 v45 v46 v47 : AVal) (h : AHeap) : Rs :=
  bndP (pIndexAddr 6 v45 v47) fun v50 =>
  bndP (pLoadN I 6 v50 h) fun v51 =>
  bnd (sAlloc [(Z 0), (Z 0), (Z 0), (Z 0), (Z 0), .nils] h) fun v9 h1 =>
  bnd (sStore 6 v9 v51 h1) fun _ h2 =>
  bndP (pLoadN I 6 v9 h2) fun v52 =>
  bnd (call 138 [v52] h2) fun v53 h3 =>
  bnd (call 137 [v53] h3) fun v54 h4 =>
  bnd (call 139 [v54, v7] h4) fun v56 h5 =>
  bndP (pUn .not v56) fun v57 =>
  sCond v57 (
  j.2.2.2.2 v0 v3 v4 v5 v6 v7 v9 v15 v16 v17 v29 v30 v31 v45 v46 v47 h5) (
  bndP (pBuild [(Z 0), (Z 0), (Z 0)] [(0, 1, v3), (1, 1, v6), (2, 1, v47)]) fun v61 =>
  bnd (call 67 [(Z 5), v61, .nili] h5) fun v62 h6 =>
  some (v62, h6))
noncomputable def f94.b11 (I : Inp) (call : CallFn) (j : f94.Js) (v0 v3 v4 v5 v6 v7 v15 v16 v17 v29 v30 v31 v45 v46 v47 : AVal) (h : AHeap) : Rs :=
  bndP (pBin .add v47 (Z 1)) fun v72 =>
  j.2.2.1.1 v0 v3 v4 v5 v6 v7 v15 v16 v17 v29 v30 v31 v45 v46 v72 h
noncomputable def f94.b12 (I : Inp) (call : CallFn) (j : f94.Js) (v0 v3 v4 v5 v6 v7 v9 v15 v16 v17 v29 v30 v31 v45 v46 v47 : AVal) (h : AHeap) : Rs :=
  bndP (pLoadN I 6 v9 h) fun v64 =>
  bnd (call 140 [v64] h) fun v65 h1 =>
  bndP (pExtract v65 0) fun v66 =>
  bndP (pExtract v65 1) fun v67 =>
  sCond v67 (
  j.2.2.2.1 v0 v3 v4 v5 v6 v7 v15 v16 v17 v29 v30 v31 v45 v46 v47 h1) (
  bnd (call 141 [v7, v66] h1) fun v71 h2 =>
  j.2.2.2.1 v0 v3 v4 v5 v6 v7 v15 v16 v17 v29 v30 v31 v45 v46 v47 h2)
noncomputable def f94.e (I : Inp) (call : CallFn) (j : f94.Js) (v0 : AVal) (h : AHeap) : Rs :=
  bndP (pNilCheck v0) fun v13 =>
  bndP (pFieldAddr 4 v13) fun v14 =>
  bndP (pLoad1 I v14 h) fun v15 =>
  bndP (pLenSl v15) fun v16 =>
  j.1.1.2.1 v0 v15 v16 (Z 0) h
noncomputable def f94.J (I : Inp) (call : CallFn) (n : Nat) : f94.Js :=
  Nat.rec (motive := fun _ => f94.Js) ((((fun _ => none), ((fun _ _ _ _ _ => none), (fun _ _ _ _ _ => none))), ((fun _ _ _ _ _ => none), ((fun _ _ _ _ _ _ _ _ _ _ _ => none), (fun _ _ _ _ _ _ _ _ _ _ _ => none)))), (((fun _ _ _ _ _ _ _ _ _ _ _ => none), ((fun _ _ _ _ _ _ _ _ _ _ _ _ _ => none), (fun _ _ _ _ _ _ _ _ _ _ _ _ _ => none))), (((fun _ _ _ _ _ _ _ _ _ _ _ _ _ _ _ _ => none), (fun _ _ _ _ _ _ _ _ _ _ _ _ _ _ _ _ => none)), ((fun _ _ _ _ _ _ _ _ _ _ _ _ _ _ _ _ => none), (fun _ _ _ _ _ _ _ _ _ _ _ _ _ _ _ _ _ => none))))) (fun _ ih => (((f94.b0 I call ih, (f94.b1 I call ih, f94.b2 I call ih)), (f94.b3 I call ih, (f94.b4 I call ih, f94.b5 I call ih))), ((f94.b6 I call ih, (f94.b7 I call ih, f94.b8 I call ih)), ((f94.b9 I call ih, f94.b10 I call ih), (f94.b11 I call ih, f94.b12 I call ih))))) n
noncomputable def f94.JS (I : Inp) (call : CallFn) (n : Nat) : Jmp := fun id ρ h =>
  (Bool.rec (motive := fun _ => _) (Bool.rec (motive := fun _ => _) (Bool.rec (motive := fun _ => _) (Bool.rec (motive := fun _ => _) ((f94.J I call n).2.2.2.2 (ρ 0) (ρ 3) (ρ 4) (ρ 5) (ρ 6) (ρ 7) (ρ 9) (ρ 15) (ρ 16) (ρ 17) (ρ 29) (ρ 30) (ρ 31) (ρ 45) (ρ 46) (ρ 47) h) ((f94.J I call n).2.2.2.1 (ρ 0) (ρ 3) (ρ 4) (ρ 5) (ρ 6) (ρ 7) (ρ 15) (ρ 16) (ρ 17) (ρ 29) (ρ 30) (ρ 31) (ρ 45) (ρ 46) (ρ 47) h) (Nat.blt id 12)) (Bool.rec (motive := fun _ => _) ((f94.J I call n).2.2.1.2 (ρ 0) (ρ 3) (ρ 4) (ρ 5) (ρ 6) (ρ 7) (ρ 15) (ρ 16) (ρ 17) (ρ 29) (ρ 30) (ρ 31) (ρ 45) (ρ 46) (ρ 47) h) ((f94.J I call n).2.2.1.1 (ρ 0) (ρ 3) (ρ 4) (ρ 5) (ρ 6) (ρ 7) (ρ 15) (ρ 16) (ρ 17) (ρ 29) (ρ 30) (ρ 31) (ρ 45) (ρ 46) (ρ 47) h) (Nat.blt id 10)) (Nat.blt id 11)) (Bool.rec (motive := fun _ => _) (Bool.rec (motive := fun _ => _) ((f94.J I call n).2.1.2.2 (ρ 0) (ρ 3) (ρ 4) (ρ 5) (ρ 6) (ρ 7) (ρ 15) (ρ 16) (ρ 17) (ρ 29) (ρ 30) (ρ 31) h) ((f94.J I call n).2.1.2.1 (ρ 0) (ρ 3) (ρ 4) (ρ 5) (ρ 6) (ρ 7) (ρ 15) (ρ 16) (ρ 17) (ρ 29) (ρ 30) (ρ 31) h) (Nat.blt id 8)) ((f94.J I call n).2.1.1 (ρ 0) (ρ 3) (ρ 4) (ρ 5) (ρ 15) (ρ 16) (ρ 17) (ρ 29) (ρ 30) (ρ 31) h) (Nat.blt id 7)) (Nat.blt id 9)) (Bool.rec (motive := fun _ => _) (Bool.rec (motive := fun _ => _) (Bool.rec (motive := fun _ => _) ((f94.J I call n).1.2.2.2 (ρ 0) (ρ 3) (ρ 4) (ρ 5) (ρ 15) (ρ 16) (ρ 17) (ρ 29) (ρ 30) (ρ 31) h) ((f94.J I call n).1.2.2.1 (ρ 0) (ρ 3) (ρ 4) (ρ 5) (ρ 15) (ρ 16) (ρ 17) (ρ 29) (ρ 30) (ρ 31) h) (Nat.blt id 5)) ((f94.J I call n).1.2.1 (ρ 0) (ρ 15) (ρ 16) (ρ 17) h) (Nat.blt id 4)) (Bool.rec (motive := fun _ => _) (Bool.rec (motive := fun _ => _) ((f94.J I call n).1.1.2.2 (ρ 0) (ρ 15) (ρ 16) (ρ 17) h) ((f94.J I call n).1.1.2.1 (ρ 0) (ρ 15) (ρ 16) (ρ 17) h) (Nat.blt id 2)) ((f94.J I call n).1.1.1 h) (Nat.blt id 1)) (Nat.blt id 3)) (Nat.blt id 6))
theorem f94.q0 (I : Inp) (call : CallFn) (n : Nat) (ρ : Fun) (h : AHeap) : f94.JS I call (n + 1) 0 ρ h = labC P I call (f94.JS I call n) c94.body 0 (finV I c94.results) 0 ρ h := by kernel_rfl
theorem f94.q1 (I : Inp) (call : CallFn) (n : Nat) (ρ : Fun) (h : AHeap) : f94.JS I call (n + 1) 1 ρ h = labC P I call (f94.JS I call n) c94.body 0 (finV I c94.results) 1 ρ h := by kernel_rfl
theorem f94.q2 (I : Inp) (call : CallFn) (n : Nat) (ρ : Fun) (h : AHeap) : f94.JS I call (n + 1) 2 ρ h = labC P I call (f94.JS I call n) c94.body 0 (finV I c94.results) 2 ρ h := by kernel_rfl
theorem f94.q3 (I : Inp) (call : CallFn) (n : Nat) (ρ : Fun) (h : AHeap) : f94.JS I call (n + 1) 3 ρ h = labC P I call (f94.JS I call n) c94.body 0 (finV I c94.results) 3 ρ h := by kernel_rfl
theorem f94.q4 (I : Inp) (call : CallFn) (n : Nat) (ρ : Fun) (h : AHeap) : f94.JS I call (n + 1) 4 ρ h = labC P I call (f94.JS I call n) c94.body 0 (finV I c94.results) 4 ρ h := by kernel_rfl
theorem f94.q5 (I : Inp) (call : CallFn) (n : Nat) (ρ : Fun) (h : AHeap) : f94.JS I call (n + 1) 5 ρ h = labC P I call (f94.JS I call n) c94.body 0 (finV I c94.results) 5 ρ h := by kernel_rfl
theorem f94.q6 (I : Inp) (call : CallFn) (n : Nat) (ρ : Fun) (h : AHeap) : f94.JS I call (n + 1) 6 ρ h = labC P I call (f94.JS I call n) c94.body 0 (finV I c94.results) 6 ρ h := by kernel_rfl
theorem f94.q7 (I : Inp) (call : CallFn) (n : Nat) (ρ : Fun) (h : AHeap) : f94.JS I call (n + 1) 7 ρ h = labC P I call (f94.JS I call n) c94.body 0 (finV I c94.results) 7 ρ h := by kernel_rfl
theorem f94.q8 (I : Inp) (call : CallFn) (n : Nat) (ρ : Fun) (h : AHeap) : f94.JS I call (n + 1) 8 ρ h = labC P I call (f94.JS I call n) c94.body 0 (finV I c94.results) 8 ρ h := by kernel_rfl
theorem f94.q9 (I : Inp) (call : CallFn) (n : Nat) (ρ : Fun) (h : AHeap) : f94.JS I call (n + 1) 9 ρ h = labC P I call (f94.JS I call n) c94.body 0 (finV I c94.results) 9 ρ h := by kernel_rfl
theorem f94.q10 (I : Inp) (call : CallFn) (n : Nat) (ρ : Fun) (h : AHeap) : f94.JS I call (n + 1) 10 ρ h = labC P I call (f94.JS I call n) c94.body 0 (finV I c94.results) 10 ρ h := by kernel_rfl
theorem f94.q11 (I : Inp) (call : CallFn) (n : Nat) (ρ : Fun) (h : AHeap) : f94.JS I call (n + 1) 11 ρ h = labC P I call (f94.JS I call n) c94.body 0 (finV I c94.results) 11 ρ h := by kernel_rfl
theorem f94.q12 (I : Inp) (call : CallFn) (n : Nat) (ρ : Fun) (h : AHeap) : f94.JS I call (n + 1) 12 ρ h = labC P I call (f94.JS I call n) c94.body 0 (finV I c94.results) 12 ρ h := by kernel_rfl
theorem f94.S (I : Inp) (F : Nat → Option AFn) (call : CallFn) : SFn ⟨P, I, F⟩ call c94 (f94.JS I call) :=
  ⟨fun id hid ρ h => by
    have hc : c94.body.cnt = 13 := by kernel_rfl
    rw [hc] at hid
    exact match id, hid with
    | 0, _ => rfl
    | 1, _ => rfl
    | 2, _ => rfl
    | 3, _ => rfl
    | 4, _ => rfl
    | 5, _ => rfl
    | 6, _ => rfl
    | 7, _ => rfl
    | 8, _ => rfl
    | 9, _ => rfl
    | 10, _ => rfl
    | 11, _ => rfl
    | 12, _ => rfl
    | id + 13, hid => absurd hid (by omega), fun n id hid ρ h => by
    have hc : c94.body.cnt = 13 := by kernel_rfl
    rw [hc] at hid
    exact match id, hid with
    | 0, _ => f94.q0 I call n ρ h
    | 1, _ => f94.q1 I call n ρ h
    | 2, _ => f94.q2 I call n ρ h
    | 3, _ => f94.q3 I call n ρ h
    | 4, _ => f94.q4 I call n ρ h
    | 5, _ => f94.q5 I call n ρ h
    | 6, _ => f94.q6 I call n ρ h
    | 7, _ => f94.q7 I call n ρ h
    | 8, _ => f94.q8 I call n ρ h
    | 9, _ => f94.q9 I call n ρ h
    | 10, _ => f94.q10 I call n ρ h
    | 11, _ => f94.q11 I call n ρ h
    | 12, _ => f94.q12 I call n ρ h
    | id + 13, hid => absurd hid (by omega)⟩
noncomputable def f94.run (I : Inp) : SF := fun call n a h =>
  match a with
  | [v0] => f94.e I call (f94.J I call n) v0 h
  | _ => none
theorem f94.qe (I : Inp) (call : CallFn) (n : Nat) (v0 : AVal) (h : AHeap) : f94.e I call (f94.J I call n) v0 h = execC P I call (f94.JS I call n) c94.body 0 (finV I c94.results) (argV [v0]) h := by kernel_rfl
theorem f94.code : codeOf P 94 = some c94 := by kernel_rfl
theorem f94.ok (I : Inp) (F : Nat → Option AFn) (hF : F 94 = some (.code c94)) : SfOk P I F 94 (f94.run I) := by
  intro call hc n args h r hr
  unfold f94.run at hr
  split at hr
  · exact fn_sound (C := ⟨P, I, F⟩) (n := n) hc hF (Nat.le_of_ble_eq_true (by kernel_rfl)) (by kernel_rfl) (f94.S I F call) (by kernel_rfl) ((f94.qe I call n _ h).symm.trans hr)
  · cases hr
/-! haruspex/refuse.first -/
noncomputable def c95 : AFunc := (AFunc.mk 9 1 [(.tmp 2)] (.seq (.region [(S 2 (.move (.val .nilp)) .none)]) (.seq (.region [(S 3 (.alloc [.nilp]) .none)]) (.seq (.seq (.region [(M 4 0), (S 5 (.iface 201 (T 3)) .none), (S 6 (.call 143 [(T 4), (T 5)]) .none), (S 7 (.un .not (T 6)) .none)]) (.cond (T 7) (.seq (.region [(S 2 (.move (.val .nilp)) .none)]) .ret) .skip)) (.seq (.region [(L1 8 3), (M 2 8)]) .ret)))))
abbrev f95.Js : Type := (AVal → AHeap → Rs)
noncomputable def f95.b0 (I : Inp) (call : CallFn) (j : f95.Js) (v3 : AVal) (h : AHeap) : Rs :=
  bndP (pLoad1 I v3 h) fun v8 =>
  some (v8, h)
noncomputable def f95.e (I : Inp) (call : CallFn) (j : f95.Js) (v0 : AVal) (h : AHeap) : Rs :=
  bnd (sAlloc [.nilp] h) fun v3 h1 =>
  bnd (call 143 [v0, (.iface 201 v3)] h1) fun v6 h2 =>
  bndP (pUn .not v6) fun v7 =>
  sCond v7 (
  j v3 h2) (
  some (.nilp, h2))
noncomputable def f95.J (I : Inp) (call : CallFn) (n : Nat) : f95.Js :=
  Nat.rec (motive := fun _ => f95.Js) (fun _ _ => none) (fun _ ih => f95.b0 I call ih) n
noncomputable def f95.JS (I : Inp) (call : CallFn) (n : Nat) : Jmp := fun id ρ h =>
  ((f95.J I call n) (ρ 3) h)
theorem f95.q0 (I : Inp) (call : CallFn) (n : Nat) (ρ : Fun) (h : AHeap) : f95.JS I call (n + 1) 0 ρ h = labC P I call (f95.JS I call n) c95.body 0 (finV I c95.results) 0 ρ h := by kernel_rfl
theorem f95.S (I : Inp) (F : Nat → Option AFn) (call : CallFn) : SFn ⟨P, I, F⟩ call c95 (f95.JS I call) :=
  ⟨fun id hid ρ h => by
    have hc : c95.body.cnt = 1 := by kernel_rfl
    rw [hc] at hid
    exact match id, hid with
    | 0, _ => rfl
    | id + 1, hid => absurd hid (by omega), fun n id hid ρ h => by
    have hc : c95.body.cnt = 1 := by kernel_rfl
    rw [hc] at hid
    exact match id, hid with
    | 0, _ => f95.q0 I call n ρ h
    | id + 1, hid => absurd hid (by omega)⟩
noncomputable def f95.run (I : Inp) : SF := fun call n a h =>
  match a with
  | [v0] => f95.e I call (f95.J I call n) v0 h
  | _ => none
theorem f95.qe (I : Inp) (call : CallFn) (n : Nat) (v0 : AVal) (h : AHeap) : f95.e I call (f95.J I call n) v0 h = execC P I call (f95.JS I call n) c95.body 0 (finV I c95.results) (argV [v0]) h := by kernel_rfl
theorem f95.code : codeOf P 95 = some c95 := by kernel_rfl
theorem f95.ok (I : Inp) (F : Nat → Option AFn) (hF : F 95 = some (.code c95)) : SfOk P I F 95 (f95.run I) := by
  intro call hc n args h r hr
  unfold f95.run at hr
  split at hr
  · exact fn_sound (C := ⟨P, I, F⟩) (n := n) hc hF (Nat.le_of_ble_eq_true (by kernel_rfl)) (by kernel_rfl) (f95.S I F call) (by kernel_rfl) ((f95.qe I call n _ h).symm.trans hr)
  · cases hr
/-! haruspex/value.Add -/
noncomputable def c96 : AFunc := (AFunc.mk 26 2 [(.cellN 4 3)] (.seq (.region [(S 2 (.box (T 0)) .none), (S 3 (.box (T 1)) .none), (S 4 (.alloc [(Z 0), (Z 0), (.bool .false)]) .none)]) (.seq (.seq (.region [(FA 5 0 2), (L1 6 5), (S 7 (.bin .neq (T 6) (V 0)) .none), (M 8 7), (S 9 (.fieldAddr 0 (T 3)) (.some (8, .false))), (S 10 (.load1 (T 9)) (.some (8, .false))), (S 11 (.bin .neq (T 10) (V 0)) (.some (8, .false))), (S 12 (.pick (T 8) (.val (.bool .true)) (T 11)) .none)]) (.cond (T 12) (.seq (.region [(S 13 (.build [(Z 0), (Z 0), (.bool .false)] []) .none), (AOper.mk .none (.store 3 (T 4) (T 13)) .none)]) .ret) .skip)) (.seq (.region [(FA 14 1 2), (L1 15 14), (FA 16 1 3), (L1 17 16), (S 18 (.bin .add (T 15) (T 17)) .none), (FA 19 2 2), (L1 20 19), (M 21 20), (S 22 (.fieldAddr 2 (T 3)) (.some (21, .false))), (S 23 (.load1 (T 22)) (.some (21, .false))), (S 24 (.pick (T 21) (.val (.bool .true)) (T 23)) .none), (S 25 (.build [(Z 0), (Z 0), (.bool .false)] [(0, (1, (V 0))), (1, (1, (T 18))), (2, (1, (T 24)))]) .none), (AOper.mk .none (.store 3 (T 4) (T 25)) .none)]) .ret))))
abbrev f96.Js : Type := (AVal → AVal → AVal → AHeap → Rs)
noncomputable def f96.b0 (I : Inp) (call : CallFn) (j : f96.Js) (v2 v3 v4 : AVal) (h : AHeap) : Rs :=
  bndP (pFieldAddr 1 v2) fun v14 =>
  bndP (pLoad1 I v14 h) fun v15 =>
  bndP (pFieldAddr 1 v3) fun v16 =>
  bndP (pLoad1 I v16 h) fun v17 =>
  bndP (pBin .add v15 v17) fun v18 =>
  bndP (pFieldAddr 2 v2) fun v19 =>
  bndP (pLoad1 I v19 h) fun v20 =>
  bnd (sGuard v20 .false (lift (pFieldAddr 2 v3) h) h) fun v22 h1 =>
  bnd (sGuard v20 .false (lift (pLoad1 I v22 h1) h1) h1) fun v23 h2 =>
  bndP (pPick v20 (.bool .true) v23) fun v24 =>
  bndP (pBuild [(Z 0), (Z 0), (.bool .false)] [(0, 1, (Z 0)), (1, 1, v18), (2, 1, v24)]) fun v25 =>
  bnd (sStore 3 v4 v25 h2) fun _ h3 =>
  sRet (sCons (sResN I 3 v4 h3) (some [])) h3
noncomputable def f96.e (I : Inp) (call : CallFn) (j : f96.Js) (v0 v1 : AVal) (h : AHeap) : Rs :=
  bnd (sBox v0 h) fun v2 h1 =>
  bnd (sBox v1 h1) fun v3 h2 =>
  bnd (sAlloc [(Z 0), (Z 0), (.bool .false)] h2) fun v4 h3 =>
  bndP (pFieldAddr 0 v2) fun v5 =>
  bndP (pLoad1 I v5 h3) fun v6 =>
  bndP (pBin .neq v6 (Z 0)) fun v7 =>
  bnd (sGuard v7 .false (lift (pFieldAddr 0 v3) h3) h3) fun v9 h4 =>
  bnd (sGuard v7 .false (lift (pLoad1 I v9 h4) h4) h4) fun v10 h5 =>
  bnd (sGuard v7 .false (lift (pBin .neq v10 (Z 0)) h5) h5) fun v11 h6 =>
  bndP (pPick v7 (.bool .true) v11) fun v12 =>
  sCond v12 (
  j v2 v3 v4 h6) (
  bndP (pBuild [(Z 0), (Z 0), (.bool .false)] []) fun v13 =>
  bnd (sStore 3 v4 v13 h6) fun _ h7 =>
  sRet (sCons (sResN I 3 v4 h7) (some [])) h7)
noncomputable def f96.J (I : Inp) (call : CallFn) (n : Nat) : f96.Js :=
  Nat.rec (motive := fun _ => f96.Js) (fun _ _ _ _ => none) (fun _ ih => f96.b0 I call ih) n
noncomputable def f96.JS (I : Inp) (call : CallFn) (n : Nat) : Jmp := fun id ρ h =>
  ((f96.J I call n) (ρ 2) (ρ 3) (ρ 4) h)
theorem f96.q0 (I : Inp) (call : CallFn) (n : Nat) (ρ : Fun) (h : AHeap) : f96.JS I call (n + 1) 0 ρ h = labC P I call (f96.JS I call n) c96.body 0 (finV I c96.results) 0 ρ h := by kernel_rfl
theorem f96.S (I : Inp) (F : Nat → Option AFn) (call : CallFn) : SFn ⟨P, I, F⟩ call c96 (f96.JS I call) :=
  ⟨fun id hid ρ h => by
    have hc : c96.body.cnt = 1 := by kernel_rfl
    rw [hc] at hid
    exact match id, hid with
    | 0, _ => rfl
    | id + 1, hid => absurd hid (by omega), fun n id hid ρ h => by
    have hc : c96.body.cnt = 1 := by kernel_rfl
    rw [hc] at hid
    exact match id, hid with
    | 0, _ => f96.q0 I call n ρ h
    | id + 1, hid => absurd hid (by omega)⟩
noncomputable def f96.run (I : Inp) : SF := fun call n a h =>
  match a with
  | [v0, v1] => f96.e I call (f96.J I call n) v0 v1 h
  | _ => none
theorem f96.qe (I : Inp) (call : CallFn) (n : Nat) (v0 v1 : AVal) (h : AHeap) : f96.e I call (f96.J I call n) v0 v1 h = execC P I call (f96.JS I call n) c96.body 0 (finV I c96.results) (argV [v0, v1]) h := by kernel_rfl
theorem f96.code : codeOf P 96 = some c96 := by kernel_rfl
theorem f96.ok (I : Inp) (F : Nat → Option AFn) (hF : F 96 = some (.code c96)) : SfOk P I F 96 (f96.run I) := by
  intro call hc n args h r hr
  unfold f96.run at hr
  split at hr
  · exact fn_sound (C := ⟨P, I, F⟩) (n := n) hc hF (Nat.le_of_ble_eq_true (by kernel_rfl)) (by kernel_rfl) (f96.S I F call) (by kernel_rfl) ((f96.qe I call n _ _ h).symm.trans hr)
  · cases hr
/-! haruspex/value.Zero -/
noncomputable def c97 : AFunc := (AFunc.mk 8 1 [(.cellN 2 3)] (.seq (.region [(S 1 (.box (T 0)) .none), (S 2 (.alloc [(Z 0), (Z 0), (.bool .false)]) .none)]) (.seq (.seq (.region [(FA 3 0 1), (L1 4 3), (S 5 (.bin .eql (T 4) (V 0)) .none)]) (.cond (T 5) (.seq (.region [(S 6 (.build [(Z 0), (Z 0), (.bool .false)] [(0, (1, (V 0)))]) .none), (AOper.mk .none (.store 3 (T 2) (T 6)) .none)]) .ret) .skip)) (.seq (.region [(S 7 (.build [(Z 0), (Z 0), (.bool .false)] [(0, (1, (V 1)))]) .none), (AOper.mk .none (.store 3 (T 2) (T 7)) .none)]) .ret))))
abbrev f97.Js : Type := (AVal → AHeap → Rs)
noncomputable def f97.b0 (I : Inp) (call : CallFn) (j : f97.Js) (v2 : AVal) (h : AHeap) : Rs :=
  bndP (pBuild [(Z 0), (Z 0), (.bool .false)] [(0, 1, (Z 1))]) fun v7 =>
  bnd (sStore 3 v2 v7 h) fun _ h1 =>
  sRet (sCons (sResN I 3 v2 h1) (some [])) h1
noncomputable def f97.e (I : Inp) (call : CallFn) (j : f97.Js) (v0 : AVal) (h : AHeap) : Rs :=
  bnd (sBox v0 h) fun v1 h1 =>
  bnd (sAlloc [(Z 0), (Z 0), (.bool .false)] h1) fun v2 h2 =>
  bndP (pFieldAddr 0 v1) fun v3 =>
  bndP (pLoad1 I v3 h2) fun v4 =>
  bndP (pBin .eql v4 (Z 0)) fun v5 =>
  sCond v5 (
  j v2 h2) (
  bndP (pBuild [(Z 0), (Z 0), (.bool .false)] [(0, 1, (Z 0))]) fun v6 =>
  bnd (sStore 3 v2 v6 h2) fun _ h3 =>
  sRet (sCons (sResN I 3 v2 h3) (some [])) h3)
noncomputable def f97.J (I : Inp) (call : CallFn) (n : Nat) : f97.Js :=
  Nat.rec (motive := fun _ => f97.Js) (fun _ _ => none) (fun _ ih => f97.b0 I call ih) n
noncomputable def f97.JS (I : Inp) (call : CallFn) (n : Nat) : Jmp := fun id ρ h =>
  ((f97.J I call n) (ρ 2) h)
theorem f97.q0 (I : Inp) (call : CallFn) (n : Nat) (ρ : Fun) (h : AHeap) : f97.JS I call (n + 1) 0 ρ h = labC P I call (f97.JS I call n) c97.body 0 (finV I c97.results) 0 ρ h := by kernel_rfl
theorem f97.S (I : Inp) (F : Nat → Option AFn) (call : CallFn) : SFn ⟨P, I, F⟩ call c97 (f97.JS I call) :=
  ⟨fun id hid ρ h => by
    have hc : c97.body.cnt = 1 := by kernel_rfl
    rw [hc] at hid
    exact match id, hid with
    | 0, _ => rfl
    | id + 1, hid => absurd hid (by omega), fun n id hid ρ h => by
    have hc : c97.body.cnt = 1 := by kernel_rfl
    rw [hc] at hid
    exact match id, hid with
    | 0, _ => f97.q0 I call n ρ h
    | id + 1, hid => absurd hid (by omega)⟩
noncomputable def f97.run (I : Inp) : SF := fun call n a h =>
  match a with
  | [v0] => f97.e I call (f97.J I call n) v0 h
  | _ => none
theorem f97.qe (I : Inp) (call : CallFn) (n : Nat) (v0 : AVal) (h : AHeap) : f97.e I call (f97.J I call n) v0 h = execC P I call (f97.JS I call n) c97.body 0 (finV I c97.results) (argV [v0]) h := by kernel_rfl
theorem f97.code : codeOf P 97 = some c97 := by kernel_rfl
theorem f97.ok (I : Inp) (F : Nat → Option AFn) (hF : F 97 = some (.code c97)) : SfOk P I F 97 (f97.run I) := by
  intro call hc n args h r hr
  unfold f97.run at hr
  split at hr
  · exact fn_sound (C := ⟨P, I, F⟩) (n := n) hc hF (Nat.le_of_ble_eq_true (by kernel_rfl)) (by kernel_rfl) (f97.S I F call) (by kernel_rfl) ((f97.qe I call n _ h).symm.trans hr)
  · cases hr
/-! (*haruspex/sem.Machine).target -/
noncomputable def c98 : AFunc := (AFunc.mk 135 3 [(.tmp 6)] (.seq (.region [(S 5 (.box (T 2)) .none), (S 6 (.move (V 0)) .none)]) (.seq (.seq (.draw [(M 13 1), (NC 14 13), (FA 15 2 14), (L1 16 15), (FA 17 2 5), (L1 18 17), (S 19 (.indexAddr 3 (T 16) (T 18)) .none), (S 20 (.loadN 3 (T 19)) .none), (S 7 (.alloc [(Z 0), (Z 0), (.bool .false)]) .none), (AOper.mk .none (.store 3 (T 7) (T 20)) .none)] [N, N, N, (.false, [1]), N, (.false, [1]), N, (.false, [1]), Y, Y] 0) (.block 0 (.seq (.region [(FA 22 0 5), (L1 23 22), (S 24 (.bin .eql (T 23) (V 12)) .none), (M 21 24)]) (.cond (T 21) (.seq (.region [(FA 25 4 5), (L1 26 25), (M 6 26)]) .ret) (.seq (.region [(FA 28 0 5), (L1 29 28), (S 30 (.bin .eql (T 29) (V 13)) .none), (M 31 30), (S 32 (.fieldAddr 0 (T 7)) (.some (31, .true))), (S 33 (.load1 (T 32)) (.some (31, .true))), (S 34 (.bin .eql (T 33) (V 3)) (.some (31, .true))), (S 35 (.pick (T 31) (T 34) (.val (.bool .false))) .none), (M 27 35)]) (.cond (T 27) (.seq (.region [(FA 36 1 7), (L1 37 36), (M 6 37)]) .ret) (.seq (.region [(FA 39 0 5), (L1 40 39), (S 41 (.bin .eql (T 40) (V 14)) .none), (M 42 41), (S 43 (.fieldAddr 0 (T 7)) (.some (42, .true))), (S 44 (.load1 (T 43)) (.some (42, .true))), (S 45 (.bin .eql (T 44) (V 2)) (.some (42, .true))), (S 46 (.pick (T 42) (T 45) (.val (.bool .false))) .none), (M 38 46)]) (.cond (T 38) (.seq (.draw [(M 52 0), (NC 53 52), (FA 54 2 53), (L1 55 54), (FA 56 1 7), (L1 57 56), (S 58 (.call 54 [(T 55), (T 57)]) .none), (M 48 0), (NC 49 48), (FA 50 0 49), (L1 51 50), (S 59 (.call 70 [(T 51), (T 58)]) .none), (M 47 59), (S 60 (.extract (T 47) 0) .none), (S 8 (.resv 0 (.alloc [(Z 0), (Z 0), (Z 0)])) .none), (AOper.mk .none (.store 3 (T 8) (T 60)) .none), (S 61 (.extract (T 47) 1) .none), (M 9 61)] [N, N, N, N, N, N, Y, N, N, N, (.false, [0]), Y, N, N, Y, Y, N, N] 1) (.seq (.draw [(M 67 0), (NC 68 67), (FA 69 2 68), (L1 70 69), (FA 71 1 7), (L1 72 71), (S 73 (.call 54 [(T 70), (T 72)]) .none), (M 63 0), (NC 64 63), (FA 65 0 64), (L1 66 65), (S 74 (.call 45 [(T 66), (T 73)]) .none), (M 62 74), (S 75 (.extract (T 62) 0) .none), (S 10 (.resv 0 (.alloc [(Z 0), (Z 0), (Z 0), (Z 0), (Z 0), .nils])) .none), (AOper.mk .none (.store 6 (T 10) (T 75)) .none), (S 76 (.extract (T 62) 1) .none), (M 11 76)] [N, N, N, N, N, N, Y, N, N, N, (.false, [0]), Y, N, N, Y, Y, N, N] 1) (.seq (.draw [(M 77 0), (NC 78 77), (FA 79 0 78), (L1 80 79), (M 81 0), (NC 82 81), (FA 83 0 82), (L1 84 83), (NC 85 84), (FA 86 4 85), (L1 87 86), (FA 88 0 8), (L1 89 88), (S 90 (.indexAddr 3 (T 87) (T 89)) .none), (FA 91 1 90), (L1 92 91), (FA 93 1 10), (L1 94 93), (S 95 (.indexAddr 2 (T 92) (T 94)) .none), (FA 96 1 95), (L1 97 96), (M 98 0), (NC 99 98), (FA 100 0 99), (L1 101 100), (NC 102 101), (FA 103 4 102), (L1 104 103), (M 105 1), (NC 106 105), (FA 107 0 106), (L1 108 107), (S 109 (.indexAddr 3 (T 104) (T 108)) .none), (FA 110 1 109), (L1 111 110), (FA 112 2 5), (L1 113 112), (S 114 (.indexAddr 2 (T 111) (T 113)) .none), (FA 115 1 114), (L1 116 115), (S 117 (.call 126 [(T 80), (T 97), (T 116)]) .none), (M 12 117)] [N, N, N, N, N, N, N, N, N, N, N, N, N, N, N, N, N, N, N, N, N, N, N, N, N, N, N, N, N, N, N, N, N, N, N, N, N, N, N, N, Y, N] 0) (.seq (.region [(M 118 12), (S 119 (.bin .geq (T 118) (V 0)) .none)]) (.cond (T 119) (.seq (.draw [(M 120 0), (NC 121 120), (FA 122 0 121), (L1 123 122), (NC 124 123), (FA 125 3 124), (L1 126 125), (M 127 12), (S 128 (.indexAddr 3 (T 126) (T 127)) .none), (FA 129 2 128), (L1 130 129), (FA 131 4 5), (L1 132 131), (S 133 (.indexAddr 1 (T 130) (T 132)) .none), (L1 134 133), (M 6 134)] [N, N, N, N, N, N, N, N, N, N, N, N, N, N, N, N] 0) .ret) .skip))))) .skip)))))))) (.seq (.region [(S 6 (.move (.val (.int .i64 (.negSucc 0)))) .none)]) .ret))))
abbrev f98.Js : Type := (AHeap → Rs)
noncomputable def f98.b0 (I : Inp) (call : CallFn) (j : f98.Js) (h : AHeap) : Rs :=
  some ((.int .i64 (.negSucc 0)), h)
noncomputable def f98.e (I : Inp) (call : CallFn) (j : f98.Js) (v0 v1 v2 : AVal) (h : AHeap) : Rs :=
  bnd (sBox v2 h) fun v5 h1 =>
  bndP (pNilCheck v1) fun v14 =>
  bndP (pFieldAddr 2 v14) fun v15 =>
  bndP (pLoad1 I v15 h1) fun v16 =>
  bndP (pFieldAddr 2 v5) fun v17 =>
  bndP (pLoad1 I v17 h1) fun v18 =>
  bndP (pIndexAddr 3 v16 v18) fun v19 =>
  bndP (pLoadN I 3 v19 h1) fun v20 =>
  bnd (sAlloc [(Z 0), (Z 0), (.bool .false)] h1) fun v7 h2 =>
  bnd (sStore 3 v7 v20 h2) fun _ h3 =>
  sCheck (sSame (lift (pLoad1 I v15 h2) h2) v16 && true) (
  sCheck (sSame (lift (pLoad1 I v17 h2) h2) v18 && true) (
  sCheck (sSame (lift (pLoadN I 3 v19 h2) h2) v20 && true) (
  bndP (pFieldAddr 0 v5) fun v22 =>
  bndP (pLoad1 I v22 h3) fun v23 =>
  bndP (pBin .eql v23 (Z 12)) fun v24 =>
  sCond v24 (
  bndP (pFieldAddr 0 v5) fun v28 =>
  bndP (pLoad1 I v28 h3) fun v29 =>
  bndP (pBin .eql v29 (Z 13)) fun v30 =>
  bnd (sGuard v30 .true (lift (pFieldAddr 0 v7) h3) h3) fun v32 h4 =>
  bnd (sGuard v30 .true (lift (pLoad1 I v32 h4) h4) h4) fun v33 h5 =>
  bnd (sGuard v30 .true (lift (pBin .eql v33 (Z 3)) h5) h5) fun v34 h6 =>
  bndP (pPick v30 v34 (.bool .false)) fun v35 =>
  sCond v35 (
  bndP (pFieldAddr 0 v5) fun v39 =>
  bndP (pLoad1 I v39 h6) fun v40 =>
  bndP (pBin .eql v40 (Z 14)) fun v41 =>
  bnd (sGuard v41 .true (lift (pFieldAddr 0 v7) h6) h6) fun v43 h7 =>
  bnd (sGuard v41 .true (lift (pLoad1 I v43 h7) h7) h7) fun v44 h8 =>
  bnd (sGuard v41 .true (lift (pBin .eql v44 (Z 2)) h8) h8) fun v45 h9 =>
  bndP (pPick v41 v45 (.bool .false)) fun v46 =>
  sCond v46 (
  j h9) (
  sKeep 0 h9 fun h10 =>
  bndP (pNilCheck v0) fun v53 =>
  bndP (pFieldAddr 2 v53) fun v54 =>
  bndP (pLoad1 I v54 h10) fun v55 =>
  bndP (pFieldAddr 1 v7) fun v56 =>
  bndP (pLoad1 I v56 h10) fun v57 =>
  bnd (call 54 [v55, v57] h10) fun v58 h11 =>
  bndP (pNilCheck v0) fun v49 =>
  bndP (pFieldAddr 0 v49) fun v50 =>
  bndP (pLoad1 I v50 h11) fun v51 =>
  bnd (call 70 [v51, v58] h11) fun v59 h12 =>
  bndP (pExtract v59 0) fun v60 =>
  bnd (sResvAlloc (h9.next + 0) [(Z 0), (Z 0), (Z 0)] h12) fun v8 h13 =>
  bnd (sStore 3 v8 v60 h13) fun _ h14 =>
  bndP (pExtract v59 1) fun v61 =>
  sCheck (sSame (lift (pLoad1 I v50 h10) h10) v51 && true) (
  sKeep 0 h14 fun h15 =>
  bndP (pNilCheck v0) fun v68 =>
  bndP (pFieldAddr 2 v68) fun v69 =>
  bndP (pLoad1 I v69 h15) fun v70 =>
  bndP (pFieldAddr 1 v7) fun v71 =>
  bndP (pLoad1 I v71 h15) fun v72 =>
  bnd (call 54 [v70, v72] h15) fun v73 h16 =>
  bndP (pNilCheck v0) fun v64 =>
  bndP (pFieldAddr 0 v64) fun v65 =>
  bndP (pLoad1 I v65 h16) fun v66 =>
  bnd (call 45 [v66, v73] h16) fun v74 h17 =>
  bndP (pExtract v74 0) fun v75 =>
  bnd (sResvAlloc (h14.next + 0) [(Z 0), (Z 0), (Z 0), (Z 0), (Z 0), .nils] h17) fun v10 h18 =>
  bnd (sStore 6 v10 v75 h18) fun _ h19 =>
  bndP (pExtract v74 1) fun v76 =>
  sCheck (sSame (lift (pLoad1 I v65 h15) h15) v66 && true) (
  bndP (pNilCheck v0) fun v78 =>
  bndP (pFieldAddr 0 v78) fun v79 =>
  bndP (pLoad1 I v79 h19) fun v80 =>
  bndP (pNilCheck v0) fun v82 =>
  bndP (pFieldAddr 0 v82) fun v83 =>
  bndP (pLoad1 I v83 h19) fun v84 =>
  bndP (pNilCheck v84) fun v85 =>
  bndP (pFieldAddr 4 v85) fun v86 =>
  bndP (pLoad1 I v86 h19) fun v87 =>
  bndP (pFieldAddr 0 v8) fun v88 =>
  bndP (pLoad1 I v88 h19) fun v89 =>
  bndP (pIndexAddr 3 v87 v89) fun v90 =>
  bndP (pFieldAddr 1 v90) fun v91 =>
  bndP (pLoad1 I v91 h19) fun v92 =>
  bndP (pFieldAddr 1 v10) fun v93 =>
  bndP (pLoad1 I v93 h19) fun v94 =>
  bndP (pIndexAddr 2 v92 v94) fun v95 =>
  bndP (pFieldAddr 1 v95) fun v96 =>
  bndP (pLoad1 I v96 h19) fun v97 =>
  bndP (pNilCheck v0) fun v99 =>
  bndP (pFieldAddr 0 v99) fun v100 =>
  bndP (pLoad1 I v100 h19) fun v101 =>
  bndP (pNilCheck v101) fun v102 =>
  bndP (pFieldAddr 4 v102) fun v103 =>
  bndP (pLoad1 I v103 h19) fun v104 =>
  bndP (pNilCheck v1) fun v106 =>
  bndP (pFieldAddr 0 v106) fun v107 =>
  bndP (pLoad1 I v107 h19) fun v108 =>
  bndP (pIndexAddr 3 v104 v108) fun v109 =>
  bndP (pFieldAddr 1 v109) fun v110 =>
  bndP (pLoad1 I v110 h19) fun v111 =>
  bndP (pFieldAddr 2 v5) fun v112 =>
  bndP (pLoad1 I v112 h19) fun v113 =>
  bndP (pIndexAddr 2 v111 v113) fun v114 =>
  bndP (pFieldAddr 1 v114) fun v115 =>
  bndP (pLoad1 I v115 h19) fun v116 =>
  bnd (call 126 [v80, v97, v116] h19) fun v117 h20 =>
  bndP (pBin .geq v117 (Z 0)) fun v119 =>
  sCond v119 (
  j h20) (
  bndP (pNilCheck v0) fun v121 =>
  bndP (pFieldAddr 0 v121) fun v122 =>
  bndP (pLoad1 I v122 h20) fun v123 =>
  bndP (pNilCheck v123) fun v124 =>
  bndP (pFieldAddr 3 v124) fun v125 =>
  bndP (pLoad1 I v125 h20) fun v126 =>
  bndP (pIndexAddr 3 v126 v117) fun v128 =>
  bndP (pFieldAddr 2 v128) fun v129 =>
  bndP (pLoad1 I v129 h20) fun v130 =>
  bndP (pFieldAddr 4 v5) fun v131 =>
  bndP (pLoad1 I v131 h20) fun v132 =>
  bndP (pIndexAddr 1 v130 v132) fun v133 =>
  bndP (pLoad1 I v133 h20) fun v134 =>
  some (v134, h20)))))) (
  bndP (pFieldAddr 1 v7) fun v36 =>
  bndP (pLoad1 I v36 h6) fun v37 =>
  some (v37, h6))) (
  bndP (pFieldAddr 4 v5) fun v25 =>
  bndP (pLoad1 I v25 h3) fun v26 =>
  some (v26, h3)))))
noncomputable def f98.J (I : Inp) (call : CallFn) (n : Nat) : f98.Js :=
  Nat.rec (motive := fun _ => f98.Js) (fun _ => none) (fun _ ih => f98.b0 I call ih) n
noncomputable def f98.JS (I : Inp) (call : CallFn) (n : Nat) : Jmp := fun id ρ h =>
  ((f98.J I call n) h)
theorem f98.q0 (I : Inp) (call : CallFn) (n : Nat) (ρ : Fun) (h : AHeap) : f98.JS I call (n + 1) 0 ρ h = labC P I call (f98.JS I call n) c98.body 0 (finV I c98.results) 0 ρ h := by kernel_rfl
theorem f98.S (I : Inp) (F : Nat → Option AFn) (call : CallFn) : SFn ⟨P, I, F⟩ call c98 (f98.JS I call) :=
  ⟨fun id hid ρ h => by
    have hc : c98.body.cnt = 1 := by kernel_rfl
    rw [hc] at hid
    exact match id, hid with
    | 0, _ => rfl
    | id + 1, hid => absurd hid (by omega), fun n id hid ρ h => by
    have hc : c98.body.cnt = 1 := by kernel_rfl
    rw [hc] at hid
    exact match id, hid with
    | 0, _ => f98.q0 I call n ρ h
    | id + 1, hid => absurd hid (by omega)⟩
noncomputable def f98.run (I : Inp) : SF := fun call n a h =>
  match a with
  | [v0, v1, v2] => f98.e I call (f98.J I call n) v0 v1 v2 h
  | _ => none
theorem f98.qe (I : Inp) (call : CallFn) (n : Nat) (v0 v1 v2 : AVal) (h : AHeap) : f98.e I call (f98.J I call n) v0 v1 v2 h = execC P I call (f98.JS I call n) c98.body 0 (finV I c98.results) (argV [v0, v1, v2]) h := by kernel_rfl
theorem f98.code : codeOf P 98 = some c98 := by kernel_rfl
theorem f98.ok (I : Inp) (F : Nat → Option AFn) (hF : F 98 = some (.code c98)) : SfOk P I F 98 (f98.run I) := by
  intro call hc n args h r hr
  unfold f98.run at hr
  split at hr
  · exact fn_sound (C := ⟨P, I, F⟩) (n := n) hc hF (Nat.le_of_ble_eq_true (by kernel_rfl)) (by kernel_rfl) (f98.S I F call) (by kernel_rfl) ((f98.qe I call n _ _ _ h).symm.trans hr)
  · cases hr
/-! (*haruspex/value.Heap).Set -/
noncomputable def c99 : AFunc := (AFunc.mk 24 4 [(.tmp 8)] (.seq (.region [(S 7 (.box (T 3)) .none), (S 8 (.move (V 0)) .none)]) (.seq (.region [(M 12 0), (M 13 1), (M 14 2), (S 15 (.call 88 [(T 12), (T 13), (T 14)]) .none), (M 11 15), (S 16 (.extract (T 11) 0) .none), (S 17 (.extract (T 11) 1) .none), (M 9 16), (M 10 17)]) (.seq (.seq (.region [(M 18 10), (S 19 (.bin .eql (T 18) (V 0)) .none)]) (.cond (T 19) (.region [(M 20 9), (S 21 (.loadN 3 (T 7)) .none), (NC 22 20), (AOper.mk .none (.store 3 (T 22) (T 21)) .none)]) .skip)) (.seq (.region [(M 23 10), (M 8 23)]) .ret)))))
abbrev f99.Js : Type := (AVal → AHeap → Rs)
noncomputable def f99.b0 (I : Inp) (call : CallFn) (j : f99.Js) (v10 : AVal) (h : AHeap) : Rs :=
  some (v10, h)
noncomputable def f99.e (I : Inp) (call : CallFn) (j : f99.Js) (v0 v1 v2 v3 : AVal) (h : AHeap) : Rs :=
  bnd (sBox v3 h) fun v7 h1 =>
  bnd (call 88 [v0, v1, v2] h1) fun v15 h2 =>
  bndP (pExtract v15 0) fun v16 =>
  bndP (pExtract v15 1) fun v17 =>
  bndP (pBin .eql v17 (Z 0)) fun v19 =>
  sCond v19 (
  j v17 h2) (
  bndP (pLoadN I 3 v7 h2) fun v21 =>
  bndP (pNilCheck v16) fun v22 =>
  bnd (sStore 3 v22 v21 h2) fun _ h3 =>
  j v17 h3)
noncomputable def f99.J (I : Inp) (call : CallFn) (n : Nat) : f99.Js :=
  Nat.rec (motive := fun _ => f99.Js) (fun _ _ => none) (fun _ ih => f99.b0 I call ih) n
noncomputable def f99.JS (I : Inp) (call : CallFn) (n : Nat) : Jmp := fun id ρ h =>
  ((f99.J I call n) (ρ 10) h)
theorem f99.q0 (I : Inp) (call : CallFn) (n : Nat) (ρ : Fun) (h : AHeap) : f99.JS I call (n + 1) 0 ρ h = labC P I call (f99.JS I call n) c99.body 0 (finV I c99.results) 0 ρ h := by kernel_rfl
theorem f99.S (I : Inp) (F : Nat → Option AFn) (call : CallFn) : SFn ⟨P, I, F⟩ call c99 (f99.JS I call) :=
  ⟨fun id hid ρ h => by
    have hc : c99.body.cnt = 1 := by kernel_rfl
    rw [hc] at hid
    exact match id, hid with
    | 0, _ => rfl
    | id + 1, hid => absurd hid (by omega), fun n id hid ρ h => by
    have hc : c99.body.cnt = 1 := by kernel_rfl
    rw [hc] at hid
    exact match id, hid with
    | 0, _ => f99.q0 I call n ρ h
    | id + 1, hid => absurd hid (by omega)⟩
noncomputable def f99.run (I : Inp) : SF := fun call n a h =>
  match a with
  | [v0, v1, v2, v3] => f99.e I call (f99.J I call n) v0 v1 v2 v3 h
  | _ => none
theorem f99.qe (I : Inp) (call : CallFn) (n : Nat) (v0 v1 v2 v3 : AVal) (h : AHeap) : f99.e I call (f99.J I call n) v0 v1 v2 v3 h = execC P I call (f99.JS I call n) c99.body 0 (finV I c99.results) (argV [v0, v1, v2, v3]) h := by kernel_rfl
theorem f99.code : codeOf P 99 = some c99 := by kernel_rfl
theorem f99.ok (I : Inp) (F : Nat → Option AFn) (hF : F 99 = some (.code c99)) : SfOk P I F 99 (f99.run I) := by
  intro call hc n args h r hr
  unfold f99.run at hr
  split at hr
  · exact fn_sound (C := ⟨P, I, F⟩) (n := n) hc hF (Nat.le_of_ble_eq_true (by kernel_rfl)) (by kernel_rfl) (f99.S I F call) (by kernel_rfl) ((f99.qe I call n _ _ _ _ h).symm.trans hr)
  · cases hr
/-! (*haruspex/value.Heap).Free -/
noncomputable def c100 : AFunc := (AFunc.mk 20 2 [(.tmp 4)] (.seq (.region [(S 4 (.move (V 0)) .none)]) (.seq (.region [(M 6 0), (M 7 1), (S 8 (.call 83 [(T 6), (T 7)]) .none), (M 5 8)]) (.seq (.block 0 (.seq (.region [(M 10 5), (S 11 (.eq .false .ptr .true (T 10) (.val .nilp)) .none), (M 9 11)]) (.cond (T 9) (.seq (.region [(S 4 (.move (V 1)) .none)]) .ret) (.seq (.region [(M 13 5), (NC 14 13), (FA 15 2 14), (L1 16 15), (M 12 16)]) (.cond (T 12) (.seq (.region [(S 4 (.move (V 2)) .none)]) .ret) .skip))))) (.seq (.region [(M 17 5), (NC 18 17), (FA 19 2 18), (AOper.mk .none (.store 1 (T 19) (.val (.bool .true))) .none)]) (.seq (.region [(S 4 (.move (V 0)) .none)]) .ret))))))
abbrev f100.Js : Type := (AVal → AHeap → Rs)
noncomputable def f100.b0 (I : Inp) (call : CallFn) (j : f100.Js) (v5 : AVal) (h : AHeap) : Rs :=
  bndP (pNilCheck v5) fun v18 =>
  bndP (pFieldAddr 2 v18) fun v19 =>
  bnd (sStore 1 v19 (.bool .true) h) fun _ h1 =>
  some ((Z 0), h1)
noncomputable def f100.e (I : Inp) (call : CallFn) (j : f100.Js) (v0 v1 : AVal) (h : AHeap) : Rs :=
  bnd (call 83 [v0, v1] h) fun v8 h1 =>
  bndP (pEq P .false .ptr .true v8 .nilp h1) fun v11 =>
  sCond v11 (
  bndP (pNilCheck v8) fun v14 =>
  bndP (pFieldAddr 2 v14) fun v15 =>
  bndP (pLoad1 I v15 h1) fun v16 =>
  sCond v16 (
  j v8 h1) (
  some ((Z 2), h1))) (
  some ((Z 1), h1))
noncomputable def f100.J (I : Inp) (call : CallFn) (n : Nat) : f100.Js :=
  Nat.rec (motive := fun _ => f100.Js) (fun _ _ => none) (fun _ ih => f100.b0 I call ih) n
noncomputable def f100.JS (I : Inp) (call : CallFn) (n : Nat) : Jmp := fun id ρ h =>
  ((f100.J I call n) (ρ 5) h)
theorem f100.q0 (I : Inp) (call : CallFn) (n : Nat) (ρ : Fun) (h : AHeap) : f100.JS I call (n + 1) 0 ρ h = labC P I call (f100.JS I call n) c100.body 0 (finV I c100.results) 0 ρ h := by kernel_rfl
theorem f100.S (I : Inp) (F : Nat → Option AFn) (call : CallFn) : SFn ⟨P, I, F⟩ call c100 (f100.JS I call) :=
  ⟨fun id hid ρ h => by
    have hc : c100.body.cnt = 1 := by kernel_rfl
    rw [hc] at hid
    exact match id, hid with
    | 0, _ => rfl
    | id + 1, hid => absurd hid (by omega), fun n id hid ρ h => by
    have hc : c100.body.cnt = 1 := by kernel_rfl
    rw [hc] at hid
    exact match id, hid with
    | 0, _ => f100.q0 I call n ρ h
    | id + 1, hid => absurd hid (by omega)⟩
noncomputable def f100.run (I : Inp) : SF := fun call n a h =>
  match a with
  | [v0, v1] => f100.e I call (f100.J I call n) v0 v1 h
  | _ => none
theorem f100.qe (I : Inp) (call : CallFn) (n : Nat) (v0 v1 : AVal) (h : AHeap) : f100.e I call (f100.J I call n) v0 v1 h = execC P I call (f100.JS I call n) c100.body 0 (finV I c100.results) (argV [v0, v1]) h := by kernel_rfl
theorem f100.code : codeOf P 100 = some c100 := by kernel_rfl
theorem f100.ok (I : Inp) (F : Nat → Option AFn) (hF : F 100 = some (.code c100)) : SfOk P I F 100 (f100.run I) := by
  intro call hc n args h r hr
  unfold f100.run at hr
  split at hr
  · exact fn_sound (C := ⟨P, I, F⟩) (n := n) hc hF (Nat.le_of_ble_eq_true (by kernel_rfl)) (by kernel_rfl) (f100.S I F call) (by kernel_rfl) ((f100.qe I call n _ _ h).symm.trans hr)
  · cases hr
/-! haruspex/types.bound -/
noncomputable def c116 : AFunc := (AFunc.mk 3 0 [(.tmp 0)] (.seq (.region [(S 0 (.move (.val .nili)) .none)]) (.seq (.region [(S 1 (.call 66 []) .none), (S 2 (.call 67 [(V 2), (T 1), (.val .nili)]) .none), (M 0 2)]) .ret)))
abbrev f116.Js : Type := Unit
noncomputable def f116.e (I : Inp) (call : CallFn) (j : f116.Js) (h : AHeap) : Rs :=
  bnd (call 66 [] h) fun v1 h1 =>
  bnd (call 67 [(Z 2), v1, .nili] h1) fun v2 h2 =>
  some (v2, h2)
theorem f116.S (I : Inp) (F : Nat → Option AFn) (call : CallFn) : SFn ⟨P, I, F⟩ call c116 (fun _ _ _ _ => none) :=
  ⟨fun _ _ _ _ => rfl, fun n id hid => absurd hid (by rw [show c116.body.cnt = 0 by kernel_rfl]; omega)⟩
noncomputable def f116.run (I : Inp) : SF := fun call n a h =>
  match a with
  | [] => f116.e I call () h
  | _ => none
theorem f116.qe (I : Inp) (call : CallFn) (n : Nat) (h : AHeap) : f116.e I call () h = execC P I call (fun _ _ _ => none) c116.body 0 (finV I c116.results) (argV []) h := by kernel_rfl
theorem f116.code : codeOf P 116 = some c116 := by kernel_rfl
theorem f116.ok (I : Inp) (F : Nat → Option AFn) (hF : F 116 = some (.code c116)) : SfOk P I F 116 (f116.run I) := by
  intro call hc n args h r hr
  unfold f116.run at hr
  split at hr
  · exact fn_sound (C := ⟨P, I, F⟩) (n := n) hc hF (Nat.le_of_ble_eq_true (by kernel_rfl)) (by kernel_rfl) (f116.S I F call) (by kernel_rfl) ((f116.qe I call n h).symm.trans hr)
  · cases hr
/-! haruspex/types.body -/
noncomputable def c117 : AFunc := (AFunc.mk 72 1 [(.tmp 2), (.tmp 3), (.tmp 4)] (.seq (.region [(S 1 (.box (T 0)) .none), (S 2 (.move (.val (.bool .false))) .none), (S 3 (.move (V 0)) .none), (S 4 (.move (V 0)) .none)]) (.seq (.region [(FA 12 1 1), (L1 13 12), (S 14 (.lenSl (T 13)) .none), (S 15 (.bin .leq (T 14) (V 16)) .none), (M 16 15), (S 17 (.fieldAddr 2 (T 1)) (.some (16, .true))), (S 18 (.load1 (T 17)) (.some (16, .true))), (S 19 (.lenSl (T 18)) (.some (16, .true))), (S 20 (.bin .leq (T 19) (V 12)) (.some (16, .true))), (S 21 (.pick (T 16) (T 20) (.val (.bool .false))) .none), (M 22 21), (S 23 (.fieldAddr 2 (T 1)) (.some (22, .true))), (S 24 (.load1 (T 23)) (.some (22, .true))), (S 25 (.lenSl (T 24)) (.some (22, .true))), (S 26 (.bin .gtr (T 25) (V 0)) (.some (22, .true))), (S 27 (.pick (T 22) (T 26) (.val (.bool .false))) .none), (M 5 27)]) (.seq (.region [(S 6 (.move (V 0)) .none), (S 7 (.move (V 0)) .none)]) (.seq (.seq (.region [(FA 28 2 1), (L1 29 28), (S 30 (.lenSl (T 29)) .none), (S 31 (.move (V 0)) .none)]) (.block 0 (.loop (.seq (.region [(S 32 (.bin .lss (T 31) (T 30)) .none)]) (.seq (.cond (T 32) .skip (.exit 0)) (.seq (.block 1 (.seq (.region [(S 33 (.indexAddr 5 (T 29) (T 31)) .none), (S 34 (.loadN 5 (T 33)) .none), (S 9 (.alloc [.nils, (Z 0), (Z 0), (Z 0), (Z 0)]) .none), (AOper.mk .none (.store 5 (T 9) (T 34)) .none)]) (.seq (.region [(M 35 5), (M 36 35), (S 37 (.fieldAddr 0 (T 9)) (.some (36, .true))), (S 38 (.load1 (T 37)) (.some (36, .true))), (S 39 (.lenSl (T 38)) (.some (36, .true))), (S 40 (.bin .leq (T 39) (V 30)) (.some (36, .true))), (S 41 (.pick (T 36) (T 40) (.val (.bool .false))) .none), (M 5 41)]) (.seq (.region [(M 42 6), (FA 43 0 9), (L1 44 43), (S 45 (.lenSl (T 44)) .none), (S 46 (.bin .add (T 45) (V 1)) .none), (S 47 (.bin .add (T 42) (T 46)) .none), (M 6 47)]) (.seq (.region [(FA 48 0 9), (L1 49 48), (S 50 (.lenSl (T 49)) .none), (S 51 (.move (V 0)) .none)]) (.block 2 (.loop (.seq (.region [(S 52 (.bin .lss (T 51) (T 50)) .none)]) (.seq (.cond (T 52) .skip (.exit 2)) (.seq (.block 3 (.seq (.region [(S 53 (.indexAddr 6 (T 49) (T 51)) .none), (S 54 (.loadN 6 (T 53)) .none), (S 11 (.alloc [(Z 0), (Z 0), (Z 0), (Z 0), (Z 0), .nils]) .none), (AOper.mk .none (.store 6 (T 11) (T 54)) .none)]) (.seq (.region [(M 55 5), (M 56 55), (S 57 (.fieldAddr 5 (T 11)) (.some (56, .true))), (S 58 (.load1 (T 57)) (.some (56, .true))), (S 59 (.lenSl (T 58)) (.some (56, .true))), (S 60 (.bin .leq (T 59) (V 4)) (.some (56, .true))), (S 61 (.pick (T 56) (T 60) (.val (.bool .false))) .none), (M 5 61)]) (.seq (.region [(FA 62 0 11), (L1 63 62), (S 64 (.bin .eql (T 63) (V 5)) .none)]) (.cond (T 64) (.region [(M 65 7), (S 66 (.bin .add (T 65) (V 1)) .none), (M 7 66)]) .skip))))) (.region [(S 67 (.bin .add (T 51) (V 1)) .none), (M 51 67)]))))))))))) (.region [(S 68 (.bin .add (T 31) (V 1)) .none), (M 31 68)]))))))) (.seq (.region [(M 69 5), (M 70 6), (M 71 7), (M 2 69), (M 3 70), (M 4 71)]) .ret))))))
abbrev f117.Js : Type := (((AVal → AVal → AVal → AHeap → Rs) × ((AVal → AVal → AVal → AVal → AVal → AVal → AHeap → Rs) × (AVal → AVal → AVal → AVal → AVal → AVal → AHeap → Rs))) × (((AVal → AVal → AVal → AVal → AVal → AVal → AHeap → Rs) × (AVal → AVal → AVal → AVal → AVal → AVal → AVal → AVal → AVal → AHeap → Rs)) × ((AVal → AVal → AVal → AVal → AVal → AVal → AVal → AVal → AVal → AHeap → Rs) × (AVal → AVal → AVal → AVal → AVal → AVal → AVal → AVal → AVal → AHeap → Rs))))
noncomputable def f117.b0 (I : Inp) (call : CallFn) (j : f117.Js) (v5 v6 v7 : AVal) (h : AHeap) : Rs :=
  some (.tuple [v5, v6, v7], h)
noncomputable def f117.b1 (I : Inp) (call : CallFn) (j : f117.Js) (v5 v6 v7 v29 v30 v31 : AVal) (h : AHeap) : Rs :=
  bndP (pBin .lss v31 v30) fun v32 =>
  sCond v32 (
  j.1.1 v5 v6 v7 h) (
  j.1.2.2 v5 v6 v7 v29 v30 v31 h)
noncomputable def f117.b2 (I : Inp) (call : CallFn) (j : f117.Js) (v5 v6 v7 v29 v30 v31 : AVal) (h : AHeap) : Rs :=
  bndP (pIndexAddr 5 v29 v31) fun v33 =>
  bndP (pLoadN I 5 v33 h) fun v34 =>
  bnd (sAlloc [.nils, (Z 0), (Z 0), (Z 0), (Z 0)] h) fun v9 h1 =>
  bnd (sStore 5 v9 v34 h1) fun _ h2 =>
  bnd (sGuard v5 .true (lift (pFieldAddr 0 v9) h2) h2) fun v37 h3 =>
  bnd (sGuard v5 .true (lift (pLoad1 I v37 h3) h3) h3) fun v38 h4 =>
  bnd (sGuard v5 .true (lift (pLenSl v38) h4) h4) fun v39 h5 =>
  bnd (sGuard v5 .true (lift (pBin .leq v39 (Z 30)) h5) h5) fun v40 h6 =>
  bndP (pPick v5 v40 (.bool .false)) fun v41 =>
  bndP (pFieldAddr 0 v9) fun v43 =>
  bndP (pLoad1 I v43 h6) fun v44 =>
  bndP (pLenSl v44) fun v45 =>
  bndP (pBin .add v45 (Z 1)) fun v46 =>
  bndP (pBin .add v6 v46) fun v47 =>
  bndP (pFieldAddr 0 v9) fun v48 =>
  bndP (pLoad1 I v48 h6) fun v49 =>
  bndP (pLenSl v49) fun v50 =>
  j.2.1.2 v41 v47 v7 v29 v30 v31 v49 v50 (Z 0) h6
noncomputable def f117.b3 (I : Inp) (call : CallFn) (j : f117.Js) (v5 v6 v7 v29 v30 v31 : AVal) (h : AHeap) : Rs :=
  bndP (pBin .add v31 (Z 1)) fun v68 =>
  j.1.2.1 v5 v6 v7 v29 v30 v68 h
noncomputable def f117.b4 (I : Inp) (call : CallFn) (j : f117.Js) (v5 v6 v7 v29 v30 v31 v49 v50 v51 : AVal) (h : AHeap) : Rs :=
  bndP (pBin .lss v51 v50) fun v52 =>
  sCond v52 (
  j.2.1.1 v5 v6 v7 v29 v30 v31 h) (
  j.2.2.1 v5 v6 v7 v29 v30 v31 v49 v50 v51 h)
noncomputable def f117.b5 (I : Inp) (call : CallFn) (j : f117.Js) (v5 v6 v7 v29 v30 v31 v49 v50 v51 : AVal) (h : AHeap) : Rs :=
  bndP (pIndexAddr 6 v49 v51) fun v53 =>
  bndP (pLoadN I 6 v53 h) fun v54 =>
  bnd (sAlloc [(Z 0), (Z 0), (Z 0), (Z 0), (Z 0), .nils] h) fun v11 h1 =>
  bnd (sStore 6 v11 v54 h1) fun _ h2 =>
  bnd (sGuard v5 .true (lift (pFieldAddr 5 v11) h2) h2) fun v57 h3 =>
  bnd (sGuard v5 .true (lift (pLoad1 I v57 h3) h3) h3) fun v58 h4 =>
  bnd (sGuard v5 .true (lift (pLenSl v58) h4) h4) fun v59 h5 =>
  bnd (sGuard v5 .true (lift (pBin .leq v59 (Z 4)) h5) h5) fun v60 h6 =>
  bndP (pPick v5 v60 (.bool .false)) fun v61 =>
  bndP (pFieldAddr 0 v11) fun v62 =>
  bndP (pLoad1 I v62 h6) fun v63 =>
  bndP (pBin .eql v63 (Z 5)) fun v64 =>
  sCond v64 (
  j.2.2.2 v61 v6 v7 v29 v30 v31 v49 v50 v51 h6) (
  bndP (pBin .add v7 (Z 1)) fun v66 =>
  j.2.2.2 v61 v6 v66 v29 v30 v31 v49 v50 v51 h6)
noncomputable def f117.b6 (I : Inp) (call : CallFn) (j : f117.Js) (v5 v6 v7 v29 v30 v31 v49 v50 v51 : AVal) (h : AHeap) : Rs :=
  bndP (pBin .add v51 (Z 1)) fun v67 =>
  j.2.1.2 v5 v6 v7 v29 v30 v31 v49 v50 v67 h
noncomputable def f117.e (I : Inp) (call : CallFn) (j : f117.Js) (v0 : AVal) (h : AHeap) : Rs :=
  bnd (sBox v0 h) fun v1 h1 =>
  bndP (pFieldAddr 1 v1) fun v12 =>
  bndP (pLoad1 I v12 h1) fun v13 =>
  bndP (pLenSl v13) fun v14 =>
  bndP (pBin .leq v14 (Z 16)) fun v15 =>
  bnd (sGuard v15 .true (lift (pFieldAddr 2 v1) h1) h1) fun v17 h2 =>
  bnd (sGuard v15 .true (lift (pLoad1 I v17 h2) h2) h2) fun v18 h3 =>
  bnd (sGuard v15 .true (lift (pLenSl v18) h3) h3) fun v19 h4 =>
  bnd (sGuard v15 .true (lift (pBin .leq v19 (Z 12)) h4) h4) fun v20 h5 =>
  bndP (pPick v15 v20 (.bool .false)) fun v21 =>
  bnd (sGuard v21 .true (lift (pFieldAddr 2 v1) h5) h5) fun v23 h6 =>
  bnd (sGuard v21 .true (lift (pLoad1 I v23 h6) h6) h6) fun v24 h7 =>
  bnd (sGuard v21 .true (lift (pLenSl v24) h7) h7) fun v25 h8 =>
  bnd (sGuard v21 .true (lift (pBin .gtr v25 (Z 0)) h8) h8) fun v26 h9 =>
  bndP (pPick v21 v26 (.bool .false)) fun v27 =>
  bndP (pFieldAddr 2 v1) fun v28 =>
  bndP (pLoad1 I v28 h9) fun v29 =>
  bndP (pLenSl v29) fun v30 =>
  j.1.2.1 v27 (Z 0) (Z 0) v29 v30 (Z 0) h9
noncomputable def f117.J (I : Inp) (call : CallFn) (n : Nat) : f117.Js :=
  Nat.rec (motive := fun _ => f117.Js) (((fun _ _ _ _ => none), ((fun _ _ _ _ _ _ _ => none), (fun _ _ _ _ _ _ _ => none))), (((fun _ _ _ _ _ _ _ => none), (fun _ _ _ _ _ _ _ _ _ _ => none)), ((fun _ _ _ _ _ _ _ _ _ _ => none), (fun _ _ _ _ _ _ _ _ _ _ => none)))) (fun _ ih => ((f117.b0 I call ih, (f117.b1 I call ih, f117.b2 I call ih)), ((f117.b3 I call ih, f117.b4 I call ih), (f117.b5 I call ih, f117.b6 I call ih)))) n
noncomputable def f117.JS (I : Inp) (call : CallFn) (n : Nat) : Jmp := fun id ρ h =>
  (Bool.rec (motive := fun _ => _) (Bool.rec (motive := fun _ => _) (Bool.rec (motive := fun _ => _) ((f117.J I call n).2.2.2 (ρ 5) (ρ 6) (ρ 7) (ρ 29) (ρ 30) (ρ 31) (ρ 49) (ρ 50) (ρ 51) h) ((f117.J I call n).2.2.1 (ρ 5) (ρ 6) (ρ 7) (ρ 29) (ρ 30) (ρ 31) (ρ 49) (ρ 50) (ρ 51) h) (Nat.blt id 6)) (Bool.rec (motive := fun _ => _) ((f117.J I call n).2.1.2 (ρ 5) (ρ 6) (ρ 7) (ρ 29) (ρ 30) (ρ 31) (ρ 49) (ρ 50) (ρ 51) h) ((f117.J I call n).2.1.1 (ρ 5) (ρ 6) (ρ 7) (ρ 29) (ρ 30) (ρ 31) h) (Nat.blt id 4)) (Nat.blt id 5)) (Bool.rec (motive := fun _ => _) (Bool.rec (motive := fun _ => _) ((f117.J I call n).1.2.2 (ρ 5) (ρ 6) (ρ 7) (ρ 29) (ρ 30) (ρ 31) h) ((f117.J I call n).1.2.1 (ρ 5) (ρ 6) (ρ 7) (ρ 29) (ρ 30) (ρ 31) h) (Nat.blt id 2)) ((f117.J I call n).1.1 (ρ 5) (ρ 6) (ρ 7) h) (Nat.blt id 1)) (Nat.blt id 3))
theorem f117.q0 (I : Inp) (call : CallFn) (n : Nat) (ρ : Fun) (h : AHeap) : f117.JS I call (n + 1) 0 ρ h = labC P I call (f117.JS I call n) c117.body 0 (finV I c117.results) 0 ρ h := by kernel_rfl
theorem f117.q1 (I : Inp) (call : CallFn) (n : Nat) (ρ : Fun) (h : AHeap) : f117.JS I call (n + 1) 1 ρ h = labC P I call (f117.JS I call n) c117.body 0 (finV I c117.results) 1 ρ h := by kernel_rfl
theorem f117.q2 (I : Inp) (call : CallFn) (n : Nat) (ρ : Fun) (h : AHeap) : f117.JS I call (n + 1) 2 ρ h = labC P I call (f117.JS I call n) c117.body 0 (finV I c117.results) 2 ρ h := by kernel_rfl
theorem f117.q3 (I : Inp) (call : CallFn) (n : Nat) (ρ : Fun) (h : AHeap) : f117.JS I call (n + 1) 3 ρ h = labC P I call (f117.JS I call n) c117.body 0 (finV I c117.results) 3 ρ h := by kernel_rfl
theorem f117.q4 (I : Inp) (call : CallFn) (n : Nat) (ρ : Fun) (h : AHeap) : f117.JS I call (n + 1) 4 ρ h = labC P I call (f117.JS I call n) c117.body 0 (finV I c117.results) 4 ρ h := by kernel_rfl
theorem f117.q5 (I : Inp) (call : CallFn) (n : Nat) (ρ : Fun) (h : AHeap) : f117.JS I call (n + 1) 5 ρ h = labC P I call (f117.JS I call n) c117.body 0 (finV I c117.results) 5 ρ h := by kernel_rfl
theorem f117.q6 (I : Inp) (call : CallFn) (n : Nat) (ρ : Fun) (h : AHeap) : f117.JS I call (n + 1) 6 ρ h = labC P I call (f117.JS I call n) c117.body 0 (finV I c117.results) 6 ρ h := by kernel_rfl
theorem f117.S (I : Inp) (F : Nat → Option AFn) (call : CallFn) : SFn ⟨P, I, F⟩ call c117 (f117.JS I call) :=
  ⟨fun id hid ρ h => by
    have hc : c117.body.cnt = 7 := by kernel_rfl
    rw [hc] at hid
    exact match id, hid with
    | 0, _ => rfl
    | 1, _ => rfl
    | 2, _ => rfl
    | 3, _ => rfl
    | 4, _ => rfl
    | 5, _ => rfl
    | 6, _ => rfl
    | id + 7, hid => absurd hid (by omega), fun n id hid ρ h => by
    have hc : c117.body.cnt = 7 := by kernel_rfl
    rw [hc] at hid
    exact match id, hid with
    | 0, _ => f117.q0 I call n ρ h
    | 1, _ => f117.q1 I call n ρ h
    | 2, _ => f117.q2 I call n ρ h
    | 3, _ => f117.q3 I call n ρ h
    | 4, _ => f117.q4 I call n ρ h
    | 5, _ => f117.q5 I call n ρ h
    | 6, _ => f117.q6 I call n ρ h
    | id + 7, hid => absurd hid (by omega)⟩
noncomputable def f117.run (I : Inp) : SF := fun call n a h =>
  match a with
  | [v0] => f117.e I call (f117.J I call n) v0 h
  | _ => none
theorem f117.qe (I : Inp) (call : CallFn) (n : Nat) (v0 : AVal) (h : AHeap) : f117.e I call (f117.J I call n) v0 h = execC P I call (f117.JS I call n) c117.body 0 (finV I c117.results) (argV [v0]) h := by kernel_rfl
theorem f117.code : codeOf P 117 = some c117 := by kernel_rfl
theorem f117.ok (I : Inp) (F : Nat → Option AFn) (hF : F 117 = some (.code c117)) : SfOk P I F 117 (f117.run I) := by
  intro call hc n args h r hr
  unfold f117.run at hr
  split at hr
  · exact fn_sound (C := ⟨P, I, F⟩) (n := n) hc hF (Nat.le_of_ble_eq_true (by kernel_rfl)) (by kernel_rfl) (f117.S I F call) (by kernel_rfl) ((f117.qe I call n _ h).symm.trans hr)
  · cases hr
/-! haruspex/types.lists -/
noncomputable def c118 : AFunc := (AFunc.mk 114 1 [(.tmp 2)] (.seq (.region [(S 2 (.move (.val (.bool .false))) .none)]) (.seq (.region [(S 3 (.move (.val (.bool .true))) .none)]) (.seq (.seq (.region [(M 12 0), (NC 13 12), (FA 14 0 13), (L1 15 14), (S 16 (.lenSl (T 15)) .none), (S 17 (.move (V 0)) .none)]) (.block 0 (.loop (.seq (.region [(S 18 (.bin .lss (T 17) (T 16)) .none)]) (.seq (.cond (T 18) .skip (.exit 0)) (.seq (.block 1 (.seq (.region [(S 19 (.indexAddr 1 (T 15) (T 17)) .none), (L1 20 19), (M 5 20)]) (.region [(M 21 3), (M 22 21), (S 23 (.move (T 0)) (.some (22, .true))), (S 24 (.move (T 5)) (.some (22, .true))), (S 25 (.call 120 [(T 23), (T 24)]) (.some (22, .true))), (S 26 (.pick (T 22) (T 25) (.val (.bool .false))) .none), (M 3 26)]))) (.region [(S 27 (.bin .add (T 17) (V 1)) .none), (M 17 27)]))))))) (.seq (.seq (.region [(M 28 0), (NC 29 28), (FA 30 1 29), (L1 31 30), (S 32 (.lenSl (T 31)) .none), (S 33 (.move (V 0)) .none)]) (.block 2 (.loop (.seq (.region [(S 34 (.bin .lss (T 33) (T 32)) .none)]) (.seq (.cond (T 34) .skip (.exit 2)) (.seq (.block 3 (.seq (.region [(S 35 (.indexAddr 3 (T 31) (T 33)) .none), (S 36 (.loadN 3 (T 35)) .none), (S 7 (.alloc [.nils, (Z 0), (Z 0)]) .none), (AOper.mk .none (.store 3 (T 7) (T 36)) .none)]) (.region [(M 37 3), (M 38 37), (S 39 (.move (T 0)) (.some (38, .true))), (S 40 (.fieldAddr 0 (T 7)) (.some (38, .true))), (S 41 (.load1 (T 40)) (.some (38, .true))), (S 42 (.call 120 [(T 39), (T 41)]) (.some (38, .true))), (S 43 (.pick (T 38) (T 42) (.val (.bool .false))) .none), (M 44 43), (S 45 (.move (T 0)) (.some (44, .true))), (S 46 (.fieldAddr 1 (T 7)) (.some (44, .true))), (S 47 (.loadN 2 (T 46)) (.some (44, .true))), (S 48 (.call 149 [(T 45), (T 47)]) (.some (44, .true))), (S 49 (.pick (T 44) (T 48) (.val (.bool .false))) .none), (M 3 49)]))) (.region [(S 50 (.bin .add (T 33) (V 1)) .none), (M 33 50)]))))))) (.seq (.seq (.region [(M 51 0), (NC 52 51), (FA 53 2 52), (L1 54 53), (S 55 (.lenSl (T 54)) .none), (S 56 (.move (V 0)) .none)]) (.block 4 (.loop (.seq (.region [(S 57 (.bin .lss (T 56) (T 55)) .none)]) (.seq (.cond (T 57) .skip (.exit 4)) (.seq (.block 5 (.seq (.region [(S 58 (.indexAddr 1 (T 54) (T 56)) .none), (S 59 (.loadN 1 (T 58)) .none), (S 9 (.alloc [.nils]) .none), (AOper.mk .none (.store 1 (T 9) (T 59)) .none)]) (.draw [(M 60 3), (M 61 60), (S 62 (.fieldAddr 0 (T 9)) (.some (61, .true))), (S 63 (.load1 (T 62)) (.some (61, .true))), (S 64 (.move (T 0)) (.some (61, .true))), (S 65 (.nilCheck (T 64)) (.some (61, .true))), (S 66 (.fieldAddr 1 (T 65)) (.some (61, .true))), (S 67 (.load1 (T 66)) (.some (61, .true))), (S 68 (.lenSl (T 67)) (.some (61, .true))), (S 69 (.call 150 [(T 63), (T 68)]) (.some (61, .true))), (S 70 (.pick (T 61) (T 69) (.val (.bool .false))) .none), (M 3 70)] [N, N, N, N, N, N, N, N, N, Y, N, N] 0))) (.region [(S 71 (.bin .add (T 56) (V 1)) .none), (M 56 71)]))))))) (.seq (.seq (.region [(M 72 0), (NC 73 72), (FA 74 3 73), (L1 75 74), (S 76 (.lenSl (T 75)) .none), (S 77 (.move (V 0)) .none)]) (.block 6 (.loop (.seq (.region [(S 78 (.bin .lss (T 77) (T 76)) .none)]) (.seq (.cond (T 78) .skip (.exit 6)) (.seq (.block 7 (.seq (.region [(S 79 (.indexAddr 3 (T 75) (T 77)) .none), (S 80 (.loadN 3 (T 79)) .none), (S 11 (.alloc [(Z 0), (Z 0), .nils]) .none), (AOper.mk .none (.store 3 (T 11) (T 80)) .none)]) (.draw [(M 81 3), (M 82 81), (S 83 (.fieldAddr 0 (T 11)) (.some (82, .true))), (S 84 (.load1 (T 83)) (.some (82, .true))), (S 85 (.move (T 0)) (.some (82, .true))), (S 86 (.nilCheck (T 85)) (.some (82, .true))), (S 87 (.fieldAddr 0 (T 86)) (.some (82, .true))), (S 88 (.load1 (T 87)) (.some (82, .true))), (S 89 (.lenSl (T 88)) (.some (82, .true))), (S 90 (.call 119 [(T 84), (T 89)]) (.some (82, .true))), (S 91 (.pick (T 82) (T 90) (.val (.bool .false))) .none), (M 92 91), (S 93 (.fieldAddr 1 (T 11)) (.some (92, .true))), (S 94 (.load1 (T 93)) (.some (92, .true))), (S 95 (.move (T 0)) (.some (92, .true))), (S 96 (.nilCheck (T 95)) (.some (92, .true))), (S 97 (.fieldAddr 2 (T 96)) (.some (92, .true))), (S 98 (.load1 (T 97)) (.some (92, .true))), (S 99 (.lenSl (T 98)) (.some (92, .true))), (S 100 (.call 119 [(T 94), (T 99)]) (.some (92, .true))), (S 101 (.pick (T 92) (T 100) (.val (.bool .false))) .none), (M 102 101), (S 103 (.fieldAddr 2 (T 11)) (.some (102, .true))), (S 104 (.load1 (T 103)) (.some (102, .true))), (S 105 (.move (T 0)) (.some (102, .true))), (S 106 (.nilCheck (T 105)) (.some (102, .true))), (S 107 (.fieldAddr 4 (T 106)) (.some (102, .true))), (S 108 (.load1 (T 107)) (.some (102, .true))), (S 109 (.lenSl (T 108)) (.some (102, .true))), (S 110 (.call 150 [(T 104), (T 109)]) (.some (102, .true))), (S 111 (.pick (T 102) (T 110) (.val (.bool .false))) .none), (M 3 111)] [N, N, N, N, N, N, N, N, N, Y, N, N, N, N, N, N, N, N, N, Y, N, N, N, N, N, N, N, N, N, Y, N, N] 0))) (.region [(S 112 (.bin .add (T 77) (V 1)) .none), (M 77 112)]))))))) (.seq (.region [(M 113 3), (M 2 113)]) .ret))))))))
abbrev f118.Js : Type := (((((AVal → AVal → AHeap → Rs) × (AVal → AVal → AVal → AVal → AVal → AHeap → Rs)) × ((AVal → AVal → AVal → AVal → AVal → AHeap → Rs) × (AVal → AVal → AVal → AVal → AVal → AHeap → Rs))) × (((AVal → AVal → AHeap → Rs) × (AVal → AVal → AVal → AVal → AVal → AHeap → Rs)) × ((AVal → AVal → AVal → AVal → AVal → AHeap → Rs) × (AVal → AVal → AVal → AVal → AVal → AHeap → Rs)))) × ((((AVal → AVal → AHeap → Rs) × (AVal → AVal → AVal → AVal → AVal → AHeap → Rs)) × ((AVal → AVal → AVal → AVal → AVal → AHeap → Rs) × (AVal → AVal → AVal → AVal → AVal → AHeap → Rs))) × (((AVal → AHeap → Rs) × (AVal → AVal → AVal → AVal → AVal → AHeap → Rs)) × ((AVal → AVal → AVal → AVal → AVal → AHeap → Rs) × (AVal → AVal → AVal → AVal → AVal → AHeap → Rs)))))
noncomputable def f118.b0 (I : Inp) (call : CallFn) (j : f118.Js) (v0 v3 : AVal) (h : AHeap) : Rs :=
  bndP (pNilCheck v0) fun v29 =>
  bndP (pFieldAddr 1 v29) fun v30 =>
  bndP (pLoad1 I v30 h) fun v31 =>
  bndP (pLenSl v31) fun v32 =>
  j.1.2.1.2 v0 v3 v31 v32 (Z 0) h
noncomputable def f118.b1 (I : Inp) (call : CallFn) (j : f118.Js) (v0 v3 v15 v16 v17 : AVal) (h : AHeap) : Rs :=
  bndP (pBin .lss v17 v16) fun v18 =>
  sCond v18 (
  j.1.1.1.1 v0 v3 h) (
  j.1.1.2.1 v0 v3 v15 v16 v17 h)
noncomputable def f118.b2 (I : Inp) (call : CallFn) (j : f118.Js) (v0 v3 v15 v16 v17 : AVal) (h : AHeap) : Rs :=
  bndP (pIndexAddr 1 v15 v17) fun v19 =>
  bndP (pLoad1 I v19 h) fun v20 =>
  bnd (sGuard v3 .true (some (v0, h)) h) fun v23 h1 =>
  bnd (sGuard v3 .true (some (v20, h1)) h1) fun v24 h2 =>
  bnd (sGuard v3 .true (call 120 [v23, v24] h2) h2) fun v25 h3 =>
  bndP (pPick v3 v25 (.bool .false)) fun v26 =>
  j.1.1.2.2 v0 v26 v15 v16 v17 h3
noncomputable def f118.b3 (I : Inp) (call : CallFn) (j : f118.Js) (v0 v3 v15 v16 v17 : AVal) (h : AHeap) : Rs :=
  bndP (pBin .add v17 (Z 1)) fun v27 =>
  j.1.1.1.2 v0 v3 v15 v16 v27 h
noncomputable def f118.b4 (I : Inp) (call : CallFn) (j : f118.Js) (v0 v3 : AVal) (h : AHeap) : Rs :=
  bndP (pNilCheck v0) fun v52 =>
  bndP (pFieldAddr 2 v52) fun v53 =>
  bndP (pLoad1 I v53 h) fun v54 =>
  bndP (pLenSl v54) fun v55 =>
  j.2.1.1.2 v0 v3 v54 v55 (Z 0) h
noncomputable def f118.b5 (I : Inp) (call : CallFn) (j : f118.Js) (v0 v3 v31 v32 v33 : AVal) (h : AHeap) : Rs :=
  bndP (pBin .lss v33 v32) fun v34 =>
  sCond v34 (
  j.1.2.1.1 v0 v3 h) (
  j.1.2.2.1 v0 v3 v31 v32 v33 h)
noncomputable def f118.b6 (I : Inp) (call : CallFn) (j : f118.Js) (v0 v3 v31 v32 v33 : AVal) (h : AHeap) : Rs :=
  bndP (pIndexAddr 3 v31 v33) fun v35 =>
  bndP (pLoadN I 3 v35 h) fun v36 =>
  bnd (sAlloc [.nils, (Z 0), (Z 0)] h) fun v7 h1 =>
  bnd (sStore 3 v7 v36 h1) fun _ h2 =>
  bnd (sGuard v3 .true (some (v0, h2)) h2) fun v39 h3 =>
  bnd (sGuard v3 .true (lift (pFieldAddr 0 v7) h3) h3) fun v40 h4 =>
  bnd (sGuard v3 .true (lift (pLoad1 I v40 h4) h4) h4) fun v41 h5 =>
  bnd (sGuard v3 .true (call 120 [v39, v41] h5) h5) fun v42 h6 =>
  bndP (pPick v3 v42 (.bool .false)) fun v43 =>
  bnd (sGuard v43 .true (some (v0, h6)) h6) fun v45 h7 =>
  bnd (sGuard v43 .true (lift (pFieldAddr 1 v7) h7) h7) fun v46 h8 =>
  bnd (sGuard v43 .true (lift (pLoadN I 2 v46 h8) h8) h8) fun v47 h9 =>
  bnd (sGuard v43 .true (call 149 [v45, v47] h9) h9) fun v48 h10 =>
  bndP (pPick v43 v48 (.bool .false)) fun v49 =>
  j.1.2.2.2 v0 v49 v31 v32 v33 h10
noncomputable def f118.b7 (I : Inp) (call : CallFn) (j : f118.Js) (v0 v3 v31 v32 v33 : AVal) (h : AHeap) : Rs :=
  bndP (pBin .add v33 (Z 1)) fun v50 =>
  j.1.2.1.2 v0 v3 v31 v32 v50 h
noncomputable def f118.b8 (I : Inp) (call : CallFn) (j : f118.Js) (v0 v3 : AVal) (h : AHeap) : Rs :=
  bndP (pNilCheck v0) fun v73 =>
  bndP (pFieldAddr 3 v73) fun v74 =>
  bndP (pLoad1 I v74 h) fun v75 =>
  bndP (pLenSl v75) fun v76 =>
  j.2.2.1.2 v0 v3 v75 v76 (Z 0) h
noncomputable def f118.b9 (I : Inp) (call : CallFn) (j : f118.Js) (v0 v3 v54 v55 v56 : AVal) (h : AHeap) : Rs :=
  bndP (pBin .lss v56 v55) fun v57 =>
  sCond v57 (
  j.2.1.1.1 v0 v3 h) (
  j.2.1.2.1 v0 v3 v54 v55 v56 h)
noncomputable def f118.b10 (I : Inp) (call : CallFn) (j : f118.Js) (v0 v3 v54 v55 v56 : AVal) (h : AHeap) : Rs :=
  bndP (pIndexAddr 1 v54 v56) fun v58 =>
  bndP (pLoadN I 1 v58 h) fun v59 =>
  bnd (sAlloc [.nils] h) fun v9 h1 =>
  bnd (sStore 1 v9 v59 h1) fun _ h2 =>
  bnd (sGuard v3 .true (lift (pFieldAddr 0 v9) h2) h2) fun v62 h3 =>
  bnd (sGuard v3 .true (lift (pLoad1 I v62 h3) h3) h3) fun v63 h4 =>
  bnd (sGuard v3 .true (some (v0, h4)) h4) fun v64 h5 =>
  bnd (sGuard v3 .true (lift (pNilCheck v64) h5) h5) fun v65 h6 =>
  bnd (sGuard v3 .true (lift (pFieldAddr 1 v65) h6) h6) fun v66 h7 =>
  bnd (sGuard v3 .true (lift (pLoad1 I v66 h7) h7) h7) fun v67 h8 =>
  bnd (sGuard v3 .true (lift (pLenSl v67) h8) h8) fun v68 h9 =>
  bnd (sGuard v3 .true (call 150 [v63, v68] h9) h9) fun v69 h10 =>
  bndP (pPick v3 v69 (.bool .false)) fun v70 =>
  j.2.1.2.2 v0 v70 v54 v55 v56 h10
noncomputable def f118.b11 (I : Inp) (call : CallFn) (j : f118.Js) (v0 v3 v54 v55 v56 : AVal) (h : AHeap) : Rs :=
  bndP (pBin .add v56 (Z 1)) fun v71 =>
  j.2.1.1.2 v0 v3 v54 v55 v71 h
noncomputable def f118.b12 (I : Inp) (call : CallFn) (j : f118.Js) (v3 : AVal) (h : AHeap) : Rs :=
  some (v3, h)
noncomputable def f118.b13 (I : Inp) (call : CallFn) (j : f118.Js) (v0 v3 v75 v76 v77 : AVal) (h : AHeap) : Rs :=
  bndP (pBin .lss v77 v76) fun v78 =>
  sCond v78 (
  j.2.2.1.1 v3 h) (
  j.2.2.2.1 v0 v3 v75 v76 v77 h)
noncomputable def f118.b14 (I : Inp) (call : CallFn) (j : f118.Js) (v0 v3 v75 v76 v77 : AVal) (h : AHeap) : Rs :=
  bndP (pIndexAddr 3 v75 v77) fun v79 =>
  bndP (pLoadN I 3 v79 h) fun v80 =>
  bnd (sAlloc [(Z 0), (Z 0), .nils] h) fun v11 h1 =>
  bnd (sStore 3 v11 v80 h1) fun _ h2 =>
  bnd (sGuard v3 .true (lift (pFieldAddr 0 v11) h2) h2) fun v83 h3 =>
  bnd (sGuard v3 .true (lift (pLoad1 I v83 h3) h3) h3) fun v84 h4 =>
  bnd (sGuard v3 .true (some (v0, h4)) h4) fun v85 h5 =>
  bnd (sGuard v3 .true (lift (pNilCheck v85) h5) h5) fun v86 h6 =>
  bnd (sGuard v3 .true (lift (pFieldAddr 0 v86) h6) h6) fun v87 h7 =>
  bnd (sGuard v3 .true (lift (pLoad1 I v87 h7) h7) h7) fun v88 h8 =>
  bnd (sGuard v3 .true (lift (pLenSl v88) h8) h8) fun v89 h9 =>
  bnd (sGuard v3 .true (call 119 [v84, v89] h9) h9) fun v90 h10 =>
  bndP (pPick v3 v90 (.bool .false)) fun v91 =>
  bnd (sGuard v91 .true (lift (pFieldAddr 1 v11) h10) h10) fun v93 h11 =>
  bnd (sGuard v91 .true (lift (pLoad1 I v93 h11) h11) h11) fun v94 h12 =>
  bnd (sGuard v91 .true (some (v0, h12)) h12) fun v95 h13 =>
  bnd (sGuard v91 .true (lift (pNilCheck v95) h13) h13) fun v96 h14 =>
  bnd (sGuard v91 .true (lift (pFieldAddr 2 v96) h14) h14) fun v97 h15 =>
  bnd (sGuard v91 .true (lift (pLoad1 I v97 h15) h15) h15) fun v98 h16 =>
  bnd (sGuard v91 .true (lift (pLenSl v98) h16) h16) fun v99 h17 =>
  bnd (sGuard v91 .true (call 119 [v94, v99] h17) h17) fun v100 h18 =>
  bndP (pPick v91 v100 (.bool .false)) fun v101 =>
  bnd (sGuard v101 .true (lift (pFieldAddr 2 v11) h18) h18) fun v103 h19 =>
  bnd (sGuard v101 .true (lift (pLoad1 I v103 h19) h19) h19) fun v104 h20 =>
  bnd (sGuard v101 .true (some (v0, h20)) h20) fun v105 h21 =>
  bnd (sGuard v101 .true (lift (pNilCheck v105) h21) h21) fun v106 h22 =>
  bnd (sGuard v101 .true (lift (pFieldAddr 4 v106) h22) h22) fun v107 h23 =>
  bnd (sGuard v101 .true (lift (pLoad1 I v107 h23) h23) h23) fun v108 h24 =>
  bnd (sGuard v101 .true (lift (pLenSl v108) h24) h24) fun v109 h25 =>
  bnd (sGuard v101 .true (call 150 [v104, v109] h25) h25) fun v110 h26 =>
  bndP (pPick v101 v110 (.bool .false)) fun v111 =>
  j.2.2.2.2 v0 v111 v75 v76 v77 h26
noncomputable def f118.b15 (I : Inp) (call : CallFn) (j : f118.Js) (v0 v3 v75 v76 v77 : AVal) (h : AHeap) : Rs :=
  bndP (pBin .add v77 (Z 1)) fun v112 =>
  j.2.2.1.2 v0 v3 v75 v76 v112 h
noncomputable def f118.e (I : Inp) (call : CallFn) (j : f118.Js) (v0 : AVal) (h : AHeap) : Rs :=
  bndP (pNilCheck v0) fun v13 =>
  bndP (pFieldAddr 0 v13) fun v14 =>
  bndP (pLoad1 I v14 h) fun v15 =>
  bndP (pLenSl v15) fun v16 =>
  j.1.1.1.2 v0 (.bool .true) v15 v16 (Z 0) h
noncomputable def f118.J (I : Inp) (call : CallFn) (n : Nat) : f118.Js :=
  Nat.rec (motive := fun _ => f118.Js) (((((fun _ _ _ => none), (fun _ _ _ _ _ _ => none)), ((fun _ _ _ _ _ _ => none), (fun _ _ _ _ _ _ => none))), (((fun _ _ _ => none), (fun _ _ _ _ _ _ => none)), ((fun _ _ _ _ _ _ => none), (fun _ _ _ _ _ _ => none)))), ((((fun _ _ _ => none), (fun _ _ _ _ _ _ => none)), ((fun _ _ _ _ _ _ => none), (fun _ _ _ _ _ _ => none))), (((fun _ _ => none), (fun _ _ _ _ _ _ => none)), ((fun _ _ _ _ _ _ => none), (fun _ _ _ _ _ _ => none))))) (fun _ ih => ((((f118.b0 I call ih, f118.b1 I call ih), (f118.b2 I call ih, f118.b3 I call ih)), ((f118.b4 I call ih, f118.b5 I call ih), (f118.b6 I call ih, f118.b7 I call ih))), (((f118.b8 I call ih, f118.b9 I call ih), (f118.b10 I call ih, f118.b11 I call ih)), ((f118.b12 I call ih, f118.b13 I call ih), (f118.b14 I call ih, f118.b15 I call ih))))) n
noncomputable def f118.JS (I : Inp) (call : CallFn) (n : Nat) : Jmp := fun id ρ h =>
  (Bool.rec (motive := fun _ => _) (Bool.rec (motive := fun _ => _) (Bool.rec (motive := fun _ => _) (Bool.rec (motive := fun _ => _) ((f118.J I call n).2.2.2.2 (ρ 0) (ρ 3) (ρ 75) (ρ 76) (ρ 77) h) ((f118.J I call n).2.2.2.1 (ρ 0) (ρ 3) (ρ 75) (ρ 76) (ρ 77) h) (Nat.blt id 15)) (Bool.rec (motive := fun _ => _) ((f118.J I call n).2.2.1.2 (ρ 0) (ρ 3) (ρ 75) (ρ 76) (ρ 77) h) ((f118.J I call n).2.2.1.1 (ρ 3) h) (Nat.blt id 13)) (Nat.blt id 14)) (Bool.rec (motive := fun _ => _) (Bool.rec (motive := fun _ => _) ((f118.J I call n).2.1.2.2 (ρ 0) (ρ 3) (ρ 54) (ρ 55) (ρ 56) h) ((f118.J I call n).2.1.2.1 (ρ 0) (ρ 3) (ρ 54) (ρ 55) (ρ 56) h) (Nat.blt id 11)) (Bool.rec (motive := fun _ => _) ((f118.J I call n).2.1.1.2 (ρ 0) (ρ 3) (ρ 54) (ρ 55) (ρ 56) h) ((f118.J I call n).2.1.1.1 (ρ 0) (ρ 3) h) (Nat.blt id 9)) (Nat.blt id 10)) (Nat.blt id 12)) (Bool.rec (motive := fun _ => _) (Bool.rec (motive := fun _ => _) (Bool.rec (motive := fun _ => _) ((f118.J I call n).1.2.2.2 (ρ 0) (ρ 3) (ρ 31) (ρ 32) (ρ 33) h) ((f118.J I call n).1.2.2.1 (ρ 0) (ρ 3) (ρ 31) (ρ 32) (ρ 33) h) (Nat.blt id 7)) (Bool.rec (motive := fun _ => _) ((f118.J I call n).1.2.1.2 (ρ 0) (ρ 3) (ρ 31) (ρ 32) (ρ 33) h) ((f118.J I call n).1.2.1.1 (ρ 0) (ρ 3) h) (Nat.blt id 5)) (Nat.blt id 6)) (Bool.rec (motive := fun _ => _) (Bool.rec (motive := fun _ => _) ((f118.J I call n).1.1.2.2 (ρ 0) (ρ 3) (ρ 15) (ρ 16) (ρ 17) h) ((f118.J I call n).1.1.2.1 (ρ 0) (ρ 3) (ρ 15) (ρ 16) (ρ 17) h) (Nat.blt id 3)) (Bool.rec (motive := fun _ => _) ((f118.J I call n).1.1.1.2 (ρ 0) (ρ 3) (ρ 15) (ρ 16) (ρ 17) h) ((f118.J I call n).1.1.1.1 (ρ 0) (ρ 3) h) (Nat.blt id 1)) (Nat.blt id 2)) (Nat.blt id 4)) (Nat.blt id 8))
theorem f118.q0 (I : Inp) (call : CallFn) (n : Nat) (ρ : Fun) (h : AHeap) : f118.JS I call (n + 1) 0 ρ h = labC P I call (f118.JS I call n) c118.body 0 (finV I c118.results) 0 ρ h := by kernel_rfl
theorem f118.q1 (I : Inp) (call : CallFn) (n : Nat) (ρ : Fun) (h : AHeap) : f118.JS I call (n + 1) 1 ρ h = labC P I call (f118.JS I call n) c118.body 0 (finV I c118.results) 1 ρ h := by kernel_rfl
theorem f118.q2 (I : Inp) (call : CallFn) (n : Nat) (ρ : Fun) (h : AHeap) : f118.JS I call (n + 1) 2 ρ h = labC P I call (f118.JS I call n) c118.body 0 (finV I c118.results) 2 ρ h := by kernel_rfl
theorem f118.q3 (I : Inp) (call : CallFn) (n : Nat) (ρ : Fun) (h : AHeap) : f118.JS I call (n + 1) 3 ρ h = labC P I call (f118.JS I call n) c118.body 0 (finV I c118.results) 3 ρ h := by kernel_rfl
theorem f118.q4 (I : Inp) (call : CallFn) (n : Nat) (ρ : Fun) (h : AHeap) : f118.JS I call (n + 1) 4 ρ h = labC P I call (f118.JS I call n) c118.body 0 (finV I c118.results) 4 ρ h := by kernel_rfl
theorem f118.q5 (I : Inp) (call : CallFn) (n : Nat) (ρ : Fun) (h : AHeap) : f118.JS I call (n + 1) 5 ρ h = labC P I call (f118.JS I call n) c118.body 0 (finV I c118.results) 5 ρ h := by kernel_rfl
theorem f118.q6 (I : Inp) (call : CallFn) (n : Nat) (ρ : Fun) (h : AHeap) : f118.JS I call (n + 1) 6 ρ h = labC P I call (f118.JS I call n) c118.body 0 (finV I c118.results) 6 ρ h := by kernel_rfl
theorem f118.q7 (I : Inp) (call : CallFn) (n : Nat) (ρ : Fun) (h : AHeap) : f118.JS I call (n + 1) 7 ρ h = labC P I call (f118.JS I call n) c118.body 0 (finV I c118.results) 7 ρ h := by kernel_rfl
theorem f118.q8 (I : Inp) (call : CallFn) (n : Nat) (ρ : Fun) (h : AHeap) : f118.JS I call (n + 1) 8 ρ h = labC P I call (f118.JS I call n) c118.body 0 (finV I c118.results) 8 ρ h := by kernel_rfl
theorem f118.q9 (I : Inp) (call : CallFn) (n : Nat) (ρ : Fun) (h : AHeap) : f118.JS I call (n + 1) 9 ρ h = labC P I call (f118.JS I call n) c118.body 0 (finV I c118.results) 9 ρ h := by kernel_rfl
theorem f118.q10 (I : Inp) (call : CallFn) (n : Nat) (ρ : Fun) (h : AHeap) : f118.JS I call (n + 1) 10 ρ h = labC P I call (f118.JS I call n) c118.body 0 (finV I c118.results) 10 ρ h := by kernel_rfl
theorem f118.q11 (I : Inp) (call : CallFn) (n : Nat) (ρ : Fun) (h : AHeap) : f118.JS I call (n + 1) 11 ρ h = labC P I call (f118.JS I call n) c118.body 0 (finV I c118.results) 11 ρ h := by kernel_rfl
theorem f118.q12 (I : Inp) (call : CallFn) (n : Nat) (ρ : Fun) (h : AHeap) : f118.JS I call (n + 1) 12 ρ h = labC P I call (f118.JS I call n) c118.body 0 (finV I c118.results) 12 ρ h := by kernel_rfl
theorem f118.q13 (I : Inp) (call : CallFn) (n : Nat) (ρ : Fun) (h : AHeap) : f118.JS I call (n + 1) 13 ρ h = labC P I call (f118.JS I call n) c118.body 0 (finV I c118.results) 13 ρ h := by kernel_rfl
theorem f118.q14 (I : Inp) (call : CallFn) (n : Nat) (ρ : Fun) (h : AHeap) : f118.JS I call (n + 1) 14 ρ h = labC P I call (f118.JS I call n) c118.body 0 (finV I c118.results) 14 ρ h := by kernel_rfl
theorem f118.q15 (I : Inp) (call : CallFn) (n : Nat) (ρ : Fun) (h : AHeap) : f118.JS I call (n + 1) 15 ρ h = labC P I call (f118.JS I call n) c118.body 0 (finV I c118.results) 15 ρ h := by kernel_rfl
theorem f118.S (I : Inp) (F : Nat → Option AFn) (call : CallFn) : SFn ⟨P, I, F⟩ call c118 (f118.JS I call) :=
  ⟨fun id hid ρ h => by
    have hc : c118.body.cnt = 16 := by kernel_rfl
    rw [hc] at hid
    exact match id, hid with
    | 0, _ => rfl
    | 1, _ => rfl
    | 2, _ => rfl
    | 3, _ => rfl
    | 4, _ => rfl
    | 5, _ => rfl
    | 6, _ => rfl
    | 7, _ => rfl
    | 8, _ => rfl
    | 9, _ => rfl
    | 10, _ => rfl
    | 11, _ => rfl
    | 12, _ => rfl
    | 13, _ => rfl
    | 14, _ => rfl
    | 15, _ => rfl
    | id + 16, hid => absurd hid (by omega), fun n id hid ρ h => by
    have hc : c118.body.cnt = 16 := by kernel_rfl
    rw [hc] at hid
    exact match id, hid with
    | 0, _ => f118.q0 I call n ρ h
    | 1, _ => f118.q1 I call n ρ h
    | 2, _ => f118.q2 I call n ρ h
    | 3, _ => f118.q3 I call n ρ h
    | 4, _ => f118.q4 I call n ρ h
    | 5, _ => f118.q5 I call n ρ h
    | 6, _ => f118.q6 I call n ρ h
    | 7, _ => f118.q7 I call n ρ h
    | 8, _ => f118.q8 I call n ρ h
    | 9, _ => f118.q9 I call n ρ h
    | 10, _ => f118.q10 I call n ρ h
    | 11, _ => f118.q11 I call n ρ h
    | 12, _ => f118.q12 I call n ρ h
    | 13, _ => f118.q13 I call n ρ h
    | 14, _ => f118.q14 I call n ρ h
    | 15, _ => f118.q15 I call n ρ h
    | id + 16, hid => absurd hid (by omega)⟩
noncomputable def f118.run (I : Inp) : SF := fun call n a h =>
  match a with
  | [v0] => f118.e I call (f118.J I call n) v0 h
  | _ => none
theorem f118.qe (I : Inp) (call : CallFn) (n : Nat) (v0 : AVal) (h : AHeap) : f118.e I call (f118.J I call n) v0 h = execC P I call (f118.JS I call n) c118.body 0 (finV I c118.results) (argV [v0]) h := by kernel_rfl
theorem f118.code : codeOf P 118 = some c118 := by kernel_rfl
theorem f118.ok (I : Inp) (F : Nat → Option AFn) (hF : F 118 = some (.code c118)) : SfOk P I F 118 (f118.run I) := by
  intro call hc n args h r hr
  unfold f118.run at hr
  split at hr
  · exact fn_sound (C := ⟨P, I, F⟩) (n := n) hc hF (Nat.le_of_ble_eq_true (by kernel_rfl)) (by kernel_rfl) (f118.S I F call) (by kernel_rfl) ((f118.qe I call n _ h).symm.trans hr)
  · cases hr
/-! haruspex/types.in -/
noncomputable def c119 : AFunc := (AFunc.mk 12 2 [(.tmp 4)] (.seq (.region [(S 4 (.move (.val (.bool .false))) .none)]) (.seq (.region [(M 5 0), (S 6 (.bin .geq (T 5) (V 0)) .none), (M 7 6), (S 8 (.move (T 0)) (.some (7, .true))), (S 9 (.move (T 1)) (.some (7, .true))), (S 10 (.bin .lss (T 8) (T 9)) (.some (7, .true))), (S 11 (.pick (T 7) (T 10) (.val (.bool .false))) .none), (M 4 11)]) .ret)))
abbrev f119.Js : Type := Unit
noncomputable def f119.e (I : Inp) (call : CallFn) (j : f119.Js) (v0 v1 : AVal) (h : AHeap) : Rs :=
  bndP (pBin .geq v0 (Z 0)) fun v6 =>
  bnd (sGuard v6 .true (some (v0, h)) h) fun v8 h1 =>
  bnd (sGuard v6 .true (some (v1, h1)) h1) fun v9 h2 =>
  bnd (sGuard v6 .true (lift (pBin .lss v8 v9) h2) h2) fun v10 h3 =>
  bndP (pPick v6 v10 (.bool .false)) fun v11 =>
  some (v11, h3)
theorem f119.S (I : Inp) (F : Nat → Option AFn) (call : CallFn) : SFn ⟨P, I, F⟩ call c119 (fun _ _ _ _ => none) :=
  ⟨fun _ _ _ _ => rfl, fun n id hid => absurd hid (by rw [show c119.body.cnt = 0 by kernel_rfl]; omega)⟩
noncomputable def f119.run (I : Inp) : SF := fun call n a h =>
  match a with
  | [v0, v1] => f119.e I call () v0 v1 h
  | _ => none
theorem f119.qe (I : Inp) (call : CallFn) (n : Nat) (v0 v1 : AVal) (h : AHeap) : f119.e I call () v0 v1 h = execC P I call (fun _ _ _ => none) c119.body 0 (finV I c119.results) (argV [v0, v1]) h := by kernel_rfl
theorem f119.code : codeOf P 119 = some c119 := by kernel_rfl
theorem f119.ok (I : Inp) (F : Nat → Option AFn) (hF : F 119 = some (.code c119)) : SfOk P I F 119 (f119.run I) := by
  intro call hc n args h r hr
  unfold f119.run at hr
  split at hr
  · exact fn_sound (C := ⟨P, I, F⟩) (n := n) hc hF (Nat.le_of_ble_eq_true (by kernel_rfl)) (by kernel_rfl) (f119.S I F call) (by kernel_rfl) ((f119.qe I call n _ _ h).symm.trans hr)
  · cases hr
/-! haruspex/types.all -/
noncomputable def c120 : AFunc := (AFunc.mk 18 2 [(.tmp 4)] (.seq (.region [(S 4 (.move (.val (.bool .false))) .none)]) (.seq (.seq (.region [(M 7 1), (S 8 (.lenSl (T 7)) .none), (S 9 (.move (V 0)) .none)]) (.block 0 (.loop (.seq (.region [(S 10 (.bin .lss (T 9) (T 8)) .none)]) (.seq (.cond (T 10) .skip (.exit 0)) (.seq (.block 1 (.seq (.region [(S 11 (.indexAddr 2 (T 7) (T 9)) .none), (S 12 (.loadN 2 (T 11)) .none), (S 6 (.alloc [(Z 0), (Z 0)]) .none), (AOper.mk .none (.store 2 (T 6) (T 12)) .none)]) (.seq (.region [(M 13 0), (S 14 (.loadN 2 (T 6)) .none), (S 15 (.call 149 [(T 13), (T 14)]) .none), (S 16 (.un .not (T 15)) .none)]) (.cond (T 16) (.seq (.region [(S 4 (.move (.val (.bool .false))) .none)]) .ret) .skip)))) (.region [(S 17 (.bin .add (T 9) (V 1)) .none), (M 9 17)]))))))) (.seq (.region [(S 4 (.move (.val (.bool .true))) .none)]) .ret))))
abbrev f120.Js : Type := (((AHeap → Rs) × (AVal → AVal → AVal → AVal → AHeap → Rs)) × ((AVal → AVal → AVal → AVal → AHeap → Rs) × (AVal → AVal → AVal → AVal → AHeap → Rs)))
noncomputable def f120.b0 (I : Inp) (call : CallFn) (j : f120.Js) (h : AHeap) : Rs :=
  some ((.bool .true), h)
noncomputable def f120.b1 (I : Inp) (call : CallFn) (j : f120.Js) (v0 v7 v8 v9 : AVal) (h : AHeap) : Rs :=
  bndP (pBin .lss v9 v8) fun v10 =>
  sCond v10 (
  j.1.1 h) (
  j.2.1 v0 v7 v8 v9 h)
noncomputable def f120.b2 (I : Inp) (call : CallFn) (j : f120.Js) (v0 v7 v8 v9 : AVal) (h : AHeap) : Rs :=
  bndP (pIndexAddr 2 v7 v9) fun v11 =>
  bndP (pLoadN I 2 v11 h) fun v12 =>
  bnd (sAlloc [(Z 0), (Z 0)] h) fun v6 h1 =>
  bnd (sStore 2 v6 v12 h1) fun _ h2 =>
  bndP (pLoadN I 2 v6 h2) fun v14 =>
  bnd (call 149 [v0, v14] h2) fun v15 h3 =>
  bndP (pUn .not v15) fun v16 =>
  sCond v16 (
  j.2.2 v0 v7 v8 v9 h3) (
  some ((.bool .false), h3))
noncomputable def f120.b3 (I : Inp) (call : CallFn) (j : f120.Js) (v0 v7 v8 v9 : AVal) (h : AHeap) : Rs :=
  bndP (pBin .add v9 (Z 1)) fun v17 =>
  j.1.2 v0 v7 v8 v17 h
noncomputable def f120.e (I : Inp) (call : CallFn) (j : f120.Js) (v0 v1 : AVal) (h : AHeap) : Rs :=
  bndP (pLenSl v1) fun v8 =>
  j.1.2 v0 v1 v8 (Z 0) h
noncomputable def f120.J (I : Inp) (call : CallFn) (n : Nat) : f120.Js :=
  Nat.rec (motive := fun _ => f120.Js) (((fun _ => none), (fun _ _ _ _ _ => none)), ((fun _ _ _ _ _ => none), (fun _ _ _ _ _ => none))) (fun _ ih => ((f120.b0 I call ih, f120.b1 I call ih), (f120.b2 I call ih, f120.b3 I call ih))) n
noncomputable def f120.JS (I : Inp) (call : CallFn) (n : Nat) : Jmp := fun id ρ h =>
  (Bool.rec (motive := fun _ => _) (Bool.rec (motive := fun _ => _) ((f120.J I call n).2.2 (ρ 0) (ρ 7) (ρ 8) (ρ 9) h) ((f120.J I call n).2.1 (ρ 0) (ρ 7) (ρ 8) (ρ 9) h) (Nat.blt id 3)) (Bool.rec (motive := fun _ => _) ((f120.J I call n).1.2 (ρ 0) (ρ 7) (ρ 8) (ρ 9) h) ((f120.J I call n).1.1 h) (Nat.blt id 1)) (Nat.blt id 2))
theorem f120.q0 (I : Inp) (call : CallFn) (n : Nat) (ρ : Fun) (h : AHeap) : f120.JS I call (n + 1) 0 ρ h = labC P I call (f120.JS I call n) c120.body 0 (finV I c120.results) 0 ρ h := by kernel_rfl
theorem f120.q1 (I : Inp) (call : CallFn) (n : Nat) (ρ : Fun) (h : AHeap) : f120.JS I call (n + 1) 1 ρ h = labC P I call (f120.JS I call n) c120.body 0 (finV I c120.results) 1 ρ h := by kernel_rfl
theorem f120.q2 (I : Inp) (call : CallFn) (n : Nat) (ρ : Fun) (h : AHeap) : f120.JS I call (n + 1) 2 ρ h = labC P I call (f120.JS I call n) c120.body 0 (finV I c120.results) 2 ρ h := by kernel_rfl
theorem f120.q3 (I : Inp) (call : CallFn) (n : Nat) (ρ : Fun) (h : AHeap) : f120.JS I call (n + 1) 3 ρ h = labC P I call (f120.JS I call n) c120.body 0 (finV I c120.results) 3 ρ h := by kernel_rfl
theorem f120.S (I : Inp) (F : Nat → Option AFn) (call : CallFn) : SFn ⟨P, I, F⟩ call c120 (f120.JS I call) :=
  ⟨fun id hid ρ h => by
    have hc : c120.body.cnt = 4 := by kernel_rfl
    rw [hc] at hid
    exact match id, hid with
    | 0, _ => rfl
    | 1, _ => rfl
    | 2, _ => rfl
    | 3, _ => rfl
    | id + 4, hid => absurd hid (by omega), fun n id hid ρ h => by
    have hc : c120.body.cnt = 4 := by kernel_rfl
    rw [hc] at hid
    exact match id, hid with
    | 0, _ => f120.q0 I call n ρ h
    | 1, _ => f120.q1 I call n ρ h
    | 2, _ => f120.q2 I call n ρ h
    | 3, _ => f120.q3 I call n ρ h
    | id + 4, hid => absurd hid (by omega)⟩
noncomputable def f120.run (I : Inp) : SF := fun call n a h =>
  match a with
  | [v0, v1] => f120.e I call (f120.J I call n) v0 v1 h
  | _ => none
theorem f120.qe (I : Inp) (call : CallFn) (n : Nat) (v0 v1 : AVal) (h : AHeap) : f120.e I call (f120.J I call n) v0 v1 h = execC P I call (f120.JS I call n) c120.body 0 (finV I c120.results) (argV [v0, v1]) h := by kernel_rfl
theorem f120.code : codeOf P 120 = some c120 := by kernel_rfl
theorem f120.ok (I : Inp) (F : Nat → Option AFn) (hF : F 120 = some (.code c120)) : SfOk P I F 120 (f120.run I) := by
  intro call hc n args h r hr
  unfold f120.run at hr
  split at hr
  · exact fn_sound (C := ⟨P, I, F⟩) (n := n) hc hF (Nat.le_of_ble_eq_true (by kernel_rfl)) (by kernel_rfl) (f120.S I F call) (by kernel_rfl) ((f120.qe I call n _ _ h).symm.trans hr)
  · cases hr
/-! haruspex/types.walk -/
noncomputable def c121 : AFunc := (AFunc.mk 63 5 [(.tmp 10)] (.seq (.region [(S 10 (.move (.val .nili)) .none)]) (.seq (.seq (.region [(M 15 0), (NC 16 15), (FA 17 4 16), (L1 18 17), (M 19 2), (S 20 (.indexAddr 3 (T 18) (T 19)) .none), (FA 21 2 20), (L1 22 21), (S 23 (.lenSl (T 22)) .none), (S 24 (.move (V 0)) .none)]) (.block 0 (.loop (.seq (.region [(S 25 (.bin .lss (T 24) (T 23)) .none)]) (.seq (.cond (T 25) .skip (.exit 0)) (.seq (.block 1 (.seq (.region [(M 26 24), (S 27 (.indexAddr 5 (T 22) (T 24)) .none), (S 28 (.loadN 5 (T 27)) .none), (S 12 (.alloc [.nils, (Z 0), (Z 0), (Z 0), (Z 0)]) .none), (M 11 26), (AOper.mk .none (.store 5 (T 12) (T 28)) .none)]) (.seq (.seq (.region [(FA 29 0 12), (L1 30 29), (S 31 (.lenSl (T 30)) .none), (S 32 (.move (V 0)) .none)]) (.block 2 (.loop (.seq (.region [(S 33 (.bin .lss (T 32) (T 31)) .none)]) (.seq (.cond (T 33) .skip (.exit 2)) (.seq (.block 3 (.seq (.region [(M 34 32), (S 35 (.indexAddr 6 (T 30) (T 32)) .none), (S 36 (.loadN 6 (T 35)) .none), (S 14 (.alloc [(Z 0), (Z 0), (Z 0), (Z 0), (Z 0), .nils]) .none), (M 13 34), (AOper.mk .none (.store 6 (T 14) (T 36)) .none)]) (.seq (.region [(M 37 3), (M 38 2), (S 39 (.loadN 6 (T 14)) .none), (S 40 (.callv (T 37) [(T 38), (T 39)]) .none), (S 41 (.un .not (T 40)) .none)]) (.cond (T 41) (.seq (.region [(M 42 1), (M 43 2), (M 44 11), (M 45 13), (S 46 (.build [(Z 0), (Z 0), (Z 0)] [(0, (1, (T 43))), (1, (1, (T 44))), (2, (1, (T 45)))]) .none), (S 47 (.call 67 [(T 42), (T 46), (.val .nili)]) .none), (M 10 47)]) .ret) .skip)))) (.region [(S 48 (.bin .add (T 32) (V 1)) .none), (M 32 48)]))))))) (.seq (.region [(M 49 4), (M 50 2), (S 51 (.loadN 5 (T 12)) .none), (S 52 (.callv (T 49) [(T 50), (T 51)]) .none), (S 53 (.un .not (T 52)) .none)]) (.cond (T 53) (.seq (.region [(M 54 1), (M 55 2), (M 56 11), (FA 57 0 12), (L1 58 57), (S 59 (.lenSl (T 58)) .none), (S 60 (.build [(Z 0), (Z 0), (Z 0)] [(0, (1, (T 55))), (1, (1, (T 56))), (2, (1, (T 59)))]) .none), (S 61 (.call 67 [(T 54), (T 60), (.val .nili)]) .none), (M 10 61)]) .ret) .skip))))) (.region [(S 62 (.bin .add (T 24) (V 1)) .none), (M 24 62)]))))))) (.seq (.region [(S 10 (.move (.val .nili)) .none)]) .ret))))
abbrev f121.Js : Type := ((((AHeap → Rs) × (AVal → AVal → AVal → AVal → AVal → AVal → AVal → AHeap → Rs)) × ((AVal → AVal → AVal → AVal → AVal → AVal → AVal → AHeap → Rs) × (AVal → AVal → AVal → AVal → AVal → AVal → AVal → AHeap → Rs))) × (((AVal → AVal → AVal → AVal → AVal → AVal → AVal → AVal → AVal → AHeap → Rs) × (AVal → AVal → AVal → AVal → AVal → AVal → AVal → AVal → AVal → AVal → AVal → AVal → AHeap → Rs)) × ((AVal → AVal → AVal → AVal → AVal → AVal → AVal → AVal → AVal → AVal → AVal → AVal → AHeap → Rs) × (AVal → AVal → AVal → AVal → AVal → AVal → AVal → AVal → AVal → AVal → AVal → AVal → AHeap → Rs))))
noncomputable def f121.b0 (I : Inp) (call : CallFn) (j : f121.Js) (h : AHeap) : Rs :=
  some (.nili, h)
noncomputable def f121.b1 (I : Inp) (call : CallFn) (j : f121.Js) (v1 v2 v3 v4 v22 v23 v24 : AVal) (h : AHeap) : Rs :=
  bndP (pBin .lss v24 v23) fun v25 =>
  sCond v25 (
  j.1.1.1 h) (
  j.1.2.1 v1 v2 v3 v4 v22 v23 v24 h)
noncomputable def f121.b2 (I : Inp) (call : CallFn) (j : f121.Js) (v1 v2 v3 v4 v22 v23 v24 : AVal) (h : AHeap) : Rs :=
  bndP (pIndexAddr 5 v22 v24) fun v27 =>
  bndP (pLoadN I 5 v27 h) fun v28 =>
  bnd (sAlloc [.nils, (Z 0), (Z 0), (Z 0), (Z 0)] h) fun v12 h1 =>
  bnd (sStore 5 v12 v28 h1) fun _ h2 =>
  bndP (pFieldAddr 0 v12) fun v29 =>
  bndP (pLoad1 I v29 h2) fun v30 =>
  bndP (pLenSl v30) fun v31 =>
  j.2.1.2 v1 v2 v3 v4 v24 v12 v22 v23 v24 v30 v31 (Z 0) h2
noncomputable def f121.b3 (I : Inp) (call : CallFn) (j : f121.Js) (v1 v2 v3 v4 v22 v23 v24 : AVal) (h : AHeap) : Rs :=
  bndP (pBin .add v24 (Z 1)) fun v62 =>
  j.1.1.2 v1 v2 v3 v4 v22 v23 v62 h
noncomputable def f121.b4 (I : Inp) (call : CallFn) (j : f121.Js) (v1 v2 v3 v4 v11 v12 v22 v23 v24 : AVal) (h : AHeap) : Rs :=
  bndP (pLoadN I 5 v12 h) fun v51 =>
  bnd (sCallv call v4 [v2, v51] h) fun v52 h1 =>
  bndP (pUn .not v52) fun v53 =>
  sCond v53 (
  j.1.2.2 v1 v2 v3 v4 v22 v23 v24 h1) (
  bndP (pFieldAddr 0 v12) fun v57 =>
  bndP (pLoad1 I v57 h1) fun v58 =>
  bndP (pLenSl v58) fun v59 =>
  bndP (pBuild [(Z 0), (Z 0), (Z 0)] [(0, 1, v2), (1, 1, v11), (2, 1, v59)]) fun v60 =>
  bnd (call 67 [v1, v60, .nili] h1) fun v61 h2 =>
  some (v61, h2))
noncomputable def f121.b5 (I : Inp) (call : CallFn) (j : f121.Js) (v1 v2 v3 v4 v11 v12 v22 v23 v24 v30 v31 v32 : AVal) (h : AHeap) : Rs :=
  bndP (pBin .lss v32 v31) fun v33 =>
  sCond v33 (
  j.2.1.1 v1 v2 v3 v4 v11 v12 v22 v23 v24 h) (
  j.2.2.1 v1 v2 v3 v4 v11 v12 v22 v23 v24 v30 v31 v32 h)
noncomputable def f121.b6 (I : Inp) (call : CallFn) (j : f121.Js) (v1 v2 v3 v4 v11 v12 v22 v23 v24 v30 v31 v32 : AVal) (h : AHeap) : Rs :=
  bndP (pIndexAddr 6 v30 v32) fun v35 =>
  bndP (pLoadN I 6 v35 h) fun v36 =>
  bnd (sAlloc [(Z 0), (Z 0), (Z 0), (Z 0), (Z 0), .nils] h) fun v14 h1 =>
  bnd (sStore 6 v14 v36 h1) fun _ h2 =>
  bndP (pLoadN I 6 v14 h2) fun v39 =>
  bnd (sCallv call v3 [v2, v39] h2) fun v40 h3 =>
  bndP (pUn .not v40) fun v41 =>
  sCond v41 (
  j.2.2.2 v1 v2 v3 v4 v11 v12 v22 v23 v24 v30 v31 v32 h3) (
  bndP (pBuild [(Z 0), (Z 0), (Z 0)] [(0, 1, v2), (1, 1, v11), (2, 1, v32)]) fun v46 =>
  bnd (call 67 [v1, v46, .nili] h3) fun v47 h4 =>
  some (v47, h4))
noncomputable def f121.b7 (I : Inp) (call : CallFn) (j : f121.Js) (v1 v2 v3 v4 v11 v12 v22 v23 v24 v30 v31 v32 : AVal) (h : AHeap) : Rs :=
  bndP (pBin .add v32 (Z 1)) fun v48 =>
  j.2.1.2 v1 v2 v3 v4 v11 v12 v22 v23 v24 v30 v31 v48 h
noncomputable def f121.e (I : Inp) (call : CallFn) (j : f121.Js) (v0 v1 v2 v3 v4 : AVal) (h : AHeap) : Rs :=
  bndP (pNilCheck v0) fun v16 =>
  bndP (pFieldAddr 4 v16) fun v17 =>
  bndP (pLoad1 I v17 h) fun v18 =>
  bndP (pIndexAddr 3 v18 v2) fun v20 =>
  bndP (pFieldAddr 2 v20) fun v21 =>
  bndP (pLoad1 I v21 h) fun v22 =>
  bndP (pLenSl v22) fun v23 =>
  j.1.1.2 v1 v2 v3 v4 v22 v23 (Z 0) h
noncomputable def f121.J (I : Inp) (call : CallFn) (n : Nat) : f121.Js :=
  Nat.rec (motive := fun _ => f121.Js) ((((fun _ => none), (fun _ _ _ _ _ _ _ _ => none)), ((fun _ _ _ _ _ _ _ _ => none), (fun _ _ _ _ _ _ _ _ => none))), (((fun _ _ _ _ _ _ _ _ _ _ => none), (fun _ _ _ _ _ _ _ _ _ _ _ _ _ => none)), ((fun _ _ _ _ _ _ _ _ _ _ _ _ _ => none), (fun _ _ _ _ _ _ _ _ _ _ _ _ _ => none)))) (fun _ ih => (((f121.b0 I call ih, f121.b1 I call ih), (f121.b2 I call ih, f121.b3 I call ih)), ((f121.b4 I call ih, f121.b5 I call ih), (f121.b6 I call ih, f121.b7 I call ih)))) n
noncomputable def f121.JS (I : Inp) (call : CallFn) (n : Nat) : Jmp := fun id ρ h =>
  (Bool.rec (motive := fun _ => _) (Bool.rec (motive := fun _ => _) (Bool.rec (motive := fun _ => _) ((f121.J I call n).2.2.2 (ρ 1) (ρ 2) (ρ 3) (ρ 4) (ρ 11) (ρ 12) (ρ 22) (ρ 23) (ρ 24) (ρ 30) (ρ 31) (ρ 32) h) ((f121.J I call n).2.2.1 (ρ 1) (ρ 2) (ρ 3) (ρ 4) (ρ 11) (ρ 12) (ρ 22) (ρ 23) (ρ 24) (ρ 30) (ρ 31) (ρ 32) h) (Nat.blt id 7)) (Bool.rec (motive := fun _ => _) ((f121.J I call n).2.1.2 (ρ 1) (ρ 2) (ρ 3) (ρ 4) (ρ 11) (ρ 12) (ρ 22) (ρ 23) (ρ 24) (ρ 30) (ρ 31) (ρ 32) h) ((f121.J I call n).2.1.1 (ρ 1) (ρ 2) (ρ 3) (ρ 4) (ρ 11) (ρ 12) (ρ 22) (ρ 23) (ρ 24) h) (Nat.blt id 5)) (Nat.blt id 6)) (Bool.rec (motive := fun _ => _) (Bool.rec (motive := fun _ => _) ((f121.J I call n).1.2.2 (ρ 1) (ρ 2) (ρ 3) (ρ 4) (ρ 22) (ρ 23) (ρ 24) h) ((f121.J I call n).1.2.1 (ρ 1) (ρ 2) (ρ 3) (ρ 4) (ρ 22) (ρ 23) (ρ 24) h) (Nat.blt id 3)) (Bool.rec (motive := fun _ => _) ((f121.J I call n).1.1.2 (ρ 1) (ρ 2) (ρ 3) (ρ 4) (ρ 22) (ρ 23) (ρ 24) h) ((f121.J I call n).1.1.1 h) (Nat.blt id 1)) (Nat.blt id 2)) (Nat.blt id 4))
theorem f121.q0 (I : Inp) (call : CallFn) (n : Nat) (ρ : Fun) (h : AHeap) : f121.JS I call (n + 1) 0 ρ h = labC P I call (f121.JS I call n) c121.body 0 (finV I c121.results) 0 ρ h := by kernel_rfl
theorem f121.q1 (I : Inp) (call : CallFn) (n : Nat) (ρ : Fun) (h : AHeap) : f121.JS I call (n + 1) 1 ρ h = labC P I call (f121.JS I call n) c121.body 0 (finV I c121.results) 1 ρ h := by kernel_rfl
theorem f121.q2 (I : Inp) (call : CallFn) (n : Nat) (ρ : Fun) (h : AHeap) : f121.JS I call (n + 1) 2 ρ h = labC P I call (f121.JS I call n) c121.body 0 (finV I c121.results) 2 ρ h := by kernel_rfl
theorem f121.q3 (I : Inp) (call : CallFn) (n : Nat) (ρ : Fun) (h : AHeap) : f121.JS I call (n + 1) 3 ρ h = labC P I call (f121.JS I call n) c121.body 0 (finV I c121.results) 3 ρ h := by kernel_rfl
theorem f121.q4 (I : Inp) (call : CallFn) (n : Nat) (ρ : Fun) (h : AHeap) : f121.JS I call (n + 1) 4 ρ h = labC P I call (f121.JS I call n) c121.body 0 (finV I c121.results) 4 ρ h := by kernel_rfl
theorem f121.q5 (I : Inp) (call : CallFn) (n : Nat) (ρ : Fun) (h : AHeap) : f121.JS I call (n + 1) 5 ρ h = labC P I call (f121.JS I call n) c121.body 0 (finV I c121.results) 5 ρ h := by kernel_rfl
theorem f121.q6 (I : Inp) (call : CallFn) (n : Nat) (ρ : Fun) (h : AHeap) : f121.JS I call (n + 1) 6 ρ h = labC P I call (f121.JS I call n) c121.body 0 (finV I c121.results) 6 ρ h := by kernel_rfl
theorem f121.q7 (I : Inp) (call : CallFn) (n : Nat) (ρ : Fun) (h : AHeap) : f121.JS I call (n + 1) 7 ρ h = labC P I call (f121.JS I call n) c121.body 0 (finV I c121.results) 7 ρ h := by kernel_rfl
theorem f121.S (I : Inp) (F : Nat → Option AFn) (call : CallFn) : SFn ⟨P, I, F⟩ call c121 (f121.JS I call) :=
  ⟨fun id hid ρ h => by
    have hc : c121.body.cnt = 8 := by kernel_rfl
    rw [hc] at hid
    exact match id, hid with
    | 0, _ => rfl
    | 1, _ => rfl
    | 2, _ => rfl
    | 3, _ => rfl
    | 4, _ => rfl
    | 5, _ => rfl
    | 6, _ => rfl
    | 7, _ => rfl
    | id + 8, hid => absurd hid (by omega), fun n id hid ρ h => by
    have hc : c121.body.cnt = 8 := by kernel_rfl
    rw [hc] at hid
    exact match id, hid with
    | 0, _ => f121.q0 I call n ρ h
    | 1, _ => f121.q1 I call n ρ h
    | 2, _ => f121.q2 I call n ρ h
    | 3, _ => f121.q3 I call n ρ h
    | 4, _ => f121.q4 I call n ρ h
    | 5, _ => f121.q5 I call n ρ h
    | 6, _ => f121.q6 I call n ρ h
    | 7, _ => f121.q7 I call n ρ h
    | id + 8, hid => absurd hid (by omega)⟩
noncomputable def f121.run (I : Inp) : SF := fun call n a h =>
  match a with
  | [v0, v1, v2, v3, v4] => f121.e I call (f121.J I call n) v0 v1 v2 v3 v4 h
  | _ => none
theorem f121.qe (I : Inp) (call : CallFn) (n : Nat) (v0 v1 v2 v3 v4 : AVal) (h : AHeap) : f121.e I call (f121.J I call n) v0 v1 v2 v3 v4 h = execC P I call (f121.JS I call n) c121.body 0 (finV I c121.results) (argV [v0, v1, v2, v3, v4]) h := by kernel_rfl
theorem f121.code : codeOf P 121 = some c121 := by kernel_rfl
theorem f121.ok (I : Inp) (F : Nat → Option AFn) (hF : F 121 = some (.code c121)) : SfOk P I F 121 (f121.run I) := by
  intro call hc n args h r hr
  unfold f121.run at hr
  split at hr
  · exact fn_sound (C := ⟨P, I, F⟩) (n := n) hc hF (Nat.le_of_ble_eq_true (by kernel_rfl)) (by kernel_rfl) (f121.S I F call) (by kernel_rfl) ((f121.qe I call n _ _ _ _ _ h).symm.trans hr)
  · cases hr
/-! haruspex/types.Names$1 -/
noncomputable def c122 : AFunc := (AFunc.mk 11 2 [(.tmp 6)] (.seq (.region [(S 5 (.box (T 1)) .none), (S 6 (.move (.val (.bool .false))) .none)]) (.seq (.region [(L1 7 2), (S 8 (.loadN 3 (T 3)) .none), (S 9 (.loadN 6 (T 5)) .none), (S 10 (.call 123 [(T 7), (T 8), (T 9)]) .none), (M 6 10)]) .ret)))
abbrev f122.Js : Type := Unit
noncomputable def f122.e (I : Inp) (call : CallFn) (j : f122.Js) (v0 v1 v2 v3 : AVal) (h : AHeap) : Rs :=
  bnd (sBox v1 h) fun v5 h1 =>
  bndP (pLoad1 I v2 h1) fun v7 =>
  bndP (pLoadN I 3 v3 h1) fun v8 =>
  bndP (pLoadN I 6 v5 h1) fun v9 =>
  bnd (call 123 [v7, v8, v9] h1) fun v10 h2 =>
  some (v10, h2)
theorem f122.S (I : Inp) (F : Nat → Option AFn) (call : CallFn) : SFn ⟨P, I, F⟩ call c122 (fun _ _ _ _ => none) :=
  ⟨fun _ _ _ _ => rfl, fun n id hid => absurd hid (by rw [show c122.body.cnt = 0 by kernel_rfl]; omega)⟩
noncomputable def f122.run (I : Inp) : SF := fun call n a h =>
  match a with
  | [v0, v1, v2, v3] => f122.e I call () v0 v1 v2 v3 h
  | _ => none
theorem f122.qe (I : Inp) (call : CallFn) (n : Nat) (v0 v1 v2 v3 : AVal) (h : AHeap) : f122.e I call () v0 v1 v2 v3 h = execC P I call (fun _ _ _ => none) c122.body 0 (finV I c122.results) (argV [v0, v1, v2, v3]) h := by kernel_rfl
theorem f122.code : codeOf P 122 = some c122 := by kernel_rfl
theorem f122.ok (I : Inp) (F : Nat → Option AFn) (hF : F 122 = some (.code c122)) : SfOk P I F 122 (f122.run I) := by
  intro call hc n args h r hr
  unfold f122.run at hr
  split at hr
  · exact fn_sound (C := ⟨P, I, F⟩) (n := n) hc hF (Nat.le_of_ble_eq_true (by kernel_rfl)) (by kernel_rfl) (f122.S I F call) (by kernel_rfl) ((f122.qe I call n _ _ _ _ h).symm.trans hr)
  · cases hr
/-! haruspex/types.instr -/
noncomputable def c123 : AFunc := (AFunc.mk 151 3 [(.tmp 6)] (.seq (.region [(S 4 (.box (T 1)) .none), (S 5 (.box (T 2)) .none), (S 6 (.move (.val (.bool .false))) .none)]) (.seq (.region [(S 15 (.loadN 6 (T 5)) .none), (S 16 (.call 151 [(T 15)]) .none), (M 14 16), (S 17 (.extract (T 14) 0) .none), (S 18 (.extract (T 14) 1) .none), (S 19 (.extract (T 14) 2) .none), (S 20 (.extract (T 14) 3) .none), (S 21 (.extract (T 14) 4) .none), (S 22 (.extract (T 14) 5) .none), (M 7 17), (M 8 18), (M 9 19), (M 10 20), (M 11 21), (M 12 22)]) (.seq (.region [(FA 23 1 4), (L1 24 23), (S 25 (.lenSl (T 24)) .none), (M 13 25)]) (.seq (.seq (.region [(M 26 12), (S 27 (.un .not (T 26)) .none), (M 28 27), (S 29 (.move (T 7)) (.some (28, .false))), (S 30 (.fieldAddr 1 (T 5)) (.some (28, .false))), (S 31 (.load1 (T 30)) (.some (28, .false))), (S 32 (.move (T 13)) (.some (28, .false))), (S 33 (.call 152 [(T 29), (T 31), (T 32)]) (.some (28, .false))), (S 34 (.un .not (T 33)) (.some (28, .false))), (S 35 (.pick (T 28) (.val (.bool .true)) (T 34)) .none), (M 36 35), (S 37 (.move (T 8)) (.some (36, .false))), (S 38 (.fieldAddr 2 (T 5)) (.some (36, .false))), (S 39 (.load1 (T 38)) (.some (36, .false))), (S 40 (.move (T 13)) (.some (36, .false))), (S 41 (.call 152 [(T 37), (T 39), (T 40)]) (.some (36, .false))), (S 42 (.un .not (T 41)) (.some (36, .false))), (S 43 (.pick (T 36) (.val (.bool .true)) (T 42)) .none), (M 44 43), (S 45 (.move (T 9)) (.some (44, .false))), (S 46 (.fieldAddr 3 (T 5)) (.some (44, .false))), (S 47 (.load1 (T 46)) (.some (44, .false))), (S 48 (.move (T 13)) (.some (44, .false))), (S 49 (.call 152 [(T 45), (T 47), (T 48)]) (.some (44, .false))), (S 50 (.un .not (T 49)) (.some (44, .false))), (S 51 (.pick (T 44) (.val (.bool .true)) (T 50)) .none), (M 52 51), (S 53 (.move (T 10)) (.some (52, .false))), (S 54 (.un .not (T 53)) (.some (52, .false))), (S 55 (.move (T 54)) (.some (52, .false))), (S 56 (.fieldAddr 4 (T 5)) (.some (55, .true))), (S 57 (.load1 (T 56)) (.some (55, .true))), (S 58 (.bin .neq (T 57) (V 0)) (.some (55, .true))), (S 59 (.pick (T 55) (T 58) (.val (.bool .false))) (.some (52, .false))), (S 60 (.pick (T 52) (.val (.bool .true)) (T 59)) .none), (M 61 60), (S 62 (.move (T 11)) (.some (61, .false))), (S 63 (.un .not (T 62)) (.some (61, .false))), (S 64 (.move (T 63)) (.some (61, .false))), (S 65 (.fieldAddr 5 (T 5)) (.some (64, .true))), (S 66 (.load1 (T 65)) (.some (64, .true))), (S 67 (.lenSl (T 66)) (.some (64, .true))), (S 68 (.bin .gtr (T 67) (V 0)) (.some (64, .true))), (S 69 (.pick (T 64) (T 68) (.val (.bool .false))) (.some (61, .false))), (S 70 (.pick (T 61) (.val (.bool .true)) (T 69)) .none), (M 71 70), (S 72 (.fieldAddr 5 (T 5)) (.some (71, .false))), (S 73 (.load1 (T 72)) (.some (71, .false))), (S 74 (.move (T 13)) (.some (71, .false))), (S 75 (.call 150 [(T 73), (T 74)]) (.some (71, .false))), (S 76 (.un .not (T 75)) (.some (71, .false))), (S 77 (.pick (T 71) (.val (.bool .true)) (T 76)) .none)]) (.cond (T 77) (.seq (.region [(S 6 (.move (.val (.bool .false))) .none)]) .ret) .skip)) (.seq (.seq (.region [(FA 78 0 5), (L1 79 78)]) (.block 0 (.seq (.seq (.region [(S 81 (.bin .eql (T 79) (V 10)) .none), (M 80 81)]) (.cond (T 80) .skip (.region [(S 82 (.bin .eql (T 79) (V 12)) .none), (M 80 82)]))) (.cond (T 80) (.seq (.draw [(FA 83 4 5), (L1 84 83), (M 85 0), (NC 86 85), (FA 87 4 86), (L1 88 87), (S 89 (.lenSl (T 88)) .none), (S 90 (.call 119 [(T 84), (T 89)]) .none), (M 6 90)] [N, N, N, N, N, N, N, Y, N] 0) .ret) (.seq (.seq (.region [(S 92 (.bin .eql (T 79) (V 7)) .none), (M 91 92)]) (.cond (T 91) .skip (.region [(S 93 (.bin .eql (T 79) (V 8)) .none), (M 91 93)]))) (.cond (T 91) (.seq (.draw [(FA 94 1 4), (L1 95 94), (FA 96 2 5), (L1 97 96), (S 98 (.indexAddr 2 (T 95) (T 97)) .none), (FA 99 0 98), (L1 100 99), (S 101 (.bin .neq (T 100) (V 1)) .none), (M 102 101), (S 103 (.fieldAddr 4 (T 5)) (.some (102, .false))), (S 104 (.load1 (T 103)) (.some (102, .false))), (S 105 (.move (T 0)) (.some (102, .false))), (S 106 (.nilCheck (T 105)) (.some (102, .false))), (S 107 (.fieldAddr 0 (T 106)) (.some (102, .false))), (S 108 (.load1 (T 107)) (.some (102, .false))), (S 109 (.fieldAddr 1 (T 4)) (.some (102, .false))), (S 110 (.load1 (T 109)) (.some (102, .false))), (S 111 (.fieldAddr 2 (T 5)) (.some (102, .false))), (S 112 (.load1 (T 111)) (.some (102, .false))), (S 113 (.indexAddr 2 (T 110) (T 112)) (.some (102, .false))), (S 114 (.fieldAddr 1 (T 113)) (.some (102, .false))), (S 115 (.load1 (T 114)) (.some (102, .false))), (S 116 (.indexAddr 1 (T 108) (T 115)) (.some (102, .false))), (S 117 (.load1 (T 116)) (.some (102, .false))), (S 118 (.lenSl (T 117)) (.some (102, .false))), (S 119 (.call 119 [(T 104), (T 118)]) (.some (102, .false))), (S 120 (.pick (T 102) (.val (.bool .true)) (T 119)) .none), (M 6 120)] [N, N, N, N, N, N, N, N, N, N, N, N, N, N, N, N, N, N, N, N, N, N, N, N, N, Y, N, N] 0) .ret) (.seq (.region [(S 122 (.bin .eql (T 79) (V 14)) .none), (M 121 122)]) (.cond (T 121) (.seq (.draw [(FA 123 1 4), (L1 124 123), (FA 125 2 5), (L1 126 125), (S 127 (.indexAddr 2 (T 124) (T 126)) .none), (FA 128 0 127), (L1 129 128), (S 130 (.bin .neq (T 129) (V 3)) .none), (M 131 130), (S 132 (.fieldAddr 4 (T 5)) (.some (131, .false))), (S 133 (.load1 (T 132)) (.some (131, .false))), (S 134 (.move (T 0)) (.some (131, .false))), (S 135 (.nilCheck (T 134)) (.some (131, .false))), (S 136 (.fieldAddr 2 (T 135)) (.some (131, .false))), (S 137 (.load1 (T 136)) (.some (131, .false))), (S 138 (.fieldAddr 1 (T 4)) (.some (131, .false))), (S 139 (.load1 (T 138)) (.some (131, .false))), (S 140 (.fieldAddr 2 (T 5)) (.some (131, .false))), (S 141 (.load1 (T 140)) (.some (131, .false))), (S 142 (.indexAddr 2 (T 139) (T 141)) (.some (131, .false))), (S 143 (.fieldAddr 1 (T 142)) (.some (131, .false))), (S 144 (.load1 (T 143)) (.some (131, .false))), (S 145 (.indexAddr 1 (T 137) (T 144)) (.some (131, .false))), (S 146 (.fieldAddr 0 (T 145)) (.some (131, .false))), (S 147 (.load1 (T 146)) (.some (131, .false))), (S 148 (.lenSl (T 147)) (.some (131, .false))), (S 149 (.call 119 [(T 133), (T 148)]) (.some (131, .false))), (S 150 (.pick (T 131) (.val (.bool .true)) (T 149)) .none), (M 6 150)] [N, N, N, N, N, N, N, N, N, N, N, N, N, N, N, N, N, N, N, N, N, N, N, N, N, N, Y, N, N] 0) .ret) .skip)))))))) (.seq (.region [(S 6 (.move (.val (.bool .true))) .none)]) .ret)))))))
abbrev f123.Js : Type := (((AVal → AVal → AVal → AHeap → Rs) × (AHeap → Rs)) × ((AVal → AVal → AVal → AVal → AVal → AHeap → Rs) × (AVal → AVal → AVal → AVal → AVal → AHeap → Rs)))
noncomputable def f123.b0 (I : Inp) (call : CallFn) (j : f123.Js) (v0 v4 v5 : AVal) (h : AHeap) : Rs :=
  bndP (pFieldAddr 0 v5) fun v78 =>
  bndP (pLoad1 I v78 h) fun v79 =>
  bndP (pBin .eql v79 (Z 10)) fun v81 =>
  sCond v81 (
  bndP (pBin .eql v79 (Z 12)) fun v82 =>
  j.2.1 v0 v4 v5 v79 v82 h) (
  j.2.1 v0 v4 v5 v79 v81 h)
noncomputable def f123.b1 (I : Inp) (call : CallFn) (j : f123.Js) (h : AHeap) : Rs :=
  some ((.bool .true), h)
noncomputable def f123.b2 (I : Inp) (call : CallFn) (j : f123.Js) (v0 v4 v5 v79 v80 : AVal) (h : AHeap) : Rs :=
  sCond v80 (
  bndP (pBin .eql v79 (Z 7)) fun v92 =>
  sCond v92 (
  bndP (pBin .eql v79 (Z 8)) fun v93 =>
  j.2.2 v0 v4 v5 v79 v93 h) (
  j.2.2 v0 v4 v5 v79 v92 h)) (
  bndP (pFieldAddr 4 v5) fun v83 =>
  bndP (pLoad1 I v83 h) fun v84 =>
  bndP (pNilCheck v0) fun v86 =>
  bndP (pFieldAddr 4 v86) fun v87 =>
  bndP (pLoad1 I v87 h) fun v88 =>
  bndP (pLenSl v88) fun v89 =>
  bnd (call 119 [v84, v89] h) fun v90 h1 =>
  some (v90, h1))
noncomputable def f123.b3 (I : Inp) (call : CallFn) (j : f123.Js) (v0 v4 v5 v79 v91 : AVal) (h : AHeap) : Rs :=
  sCond v91 (
  bndP (pBin .eql v79 (Z 14)) fun v122 =>
  sCond v122 (
  j.1.2 h) (
  bndP (pFieldAddr 1 v4) fun v123 =>
  bndP (pLoad1 I v123 h) fun v124 =>
  bndP (pFieldAddr 2 v5) fun v125 =>
  bndP (pLoad1 I v125 h) fun v126 =>
  bndP (pIndexAddr 2 v124 v126) fun v127 =>
  bndP (pFieldAddr 0 v127) fun v128 =>
  bndP (pLoad1 I v128 h) fun v129 =>
  bndP (pBin .neq v129 (Z 3)) fun v130 =>
  bnd (sGuard v130 .false (lift (pFieldAddr 4 v5) h) h) fun v132 h1 =>
  bnd (sGuard v130 .false (lift (pLoad1 I v132 h1) h1) h1) fun v133 h2 =>
  bnd (sGuard v130 .false (some (v0, h2)) h2) fun v134 h3 =>
  bnd (sGuard v130 .false (lift (pNilCheck v134) h3) h3) fun v135 h4 =>
  bnd (sGuard v130 .false (lift (pFieldAddr 2 v135) h4) h4) fun v136 h5 =>
  bnd (sGuard v130 .false (lift (pLoad1 I v136 h5) h5) h5) fun v137 h6 =>
  bnd (sGuard v130 .false (lift (pFieldAddr 1 v4) h6) h6) fun v138 h7 =>
  bnd (sGuard v130 .false (lift (pLoad1 I v138 h7) h7) h7) fun v139 h8 =>
  bnd (sGuard v130 .false (lift (pFieldAddr 2 v5) h8) h8) fun v140 h9 =>
  bnd (sGuard v130 .false (lift (pLoad1 I v140 h9) h9) h9) fun v141 h10 =>
  bnd (sGuard v130 .false (lift (pIndexAddr 2 v139 v141) h10) h10) fun v142 h11 =>
  bnd (sGuard v130 .false (lift (pFieldAddr 1 v142) h11) h11) fun v143 h12 =>
  bnd (sGuard v130 .false (lift (pLoad1 I v143 h12) h12) h12) fun v144 h13 =>
  bnd (sGuard v130 .false (lift (pIndexAddr 1 v137 v144) h13) h13) fun v145 h14 =>
  bnd (sGuard v130 .false (lift (pFieldAddr 0 v145) h14) h14) fun v146 h15 =>
  bnd (sGuard v130 .false (lift (pLoad1 I v146 h15) h15) h15) fun v147 h16 =>
  bnd (sGuard v130 .false (lift (pLenSl v147) h16) h16) fun v148 h17 =>
  bnd (sGuard v130 .false (call 119 [v133, v148] h17) h17) fun v149 h18 =>
  bndP (pPick v130 (.bool .true) v149) fun v150 =>
  some (v150, h18))) (
  bndP (pFieldAddr 1 v4) fun v94 =>
  bndP (pLoad1 I v94 h) fun v95 =>
  bndP (pFieldAddr 2 v5) fun v96 =>
  bndP (pLoad1 I v96 h) fun v97 =>
  bndP (pIndexAddr 2 v95 v97) fun v98 =>
  bndP (pFieldAddr 0 v98) fun v99 =>
  bndP (pLoad1 I v99 h) fun v100 =>
  bndP (pBin .neq v100 (Z 1)) fun v101 =>
  bnd (sGuard v101 .false (lift (pFieldAddr 4 v5) h) h) fun v103 h19 =>
  bnd (sGuard v101 .false (lift (pLoad1 I v103 h19) h19) h19) fun v104 h20 =>
  bnd (sGuard v101 .false (some (v0, h20)) h20) fun v105 h21 =>
  bnd (sGuard v101 .false (lift (pNilCheck v105) h21) h21) fun v106 h22 =>
  bnd (sGuard v101 .false (lift (pFieldAddr 0 v106) h22) h22) fun v107 h23 =>
  bnd (sGuard v101 .false (lift (pLoad1 I v107 h23) h23) h23) fun v108 h24 =>
  bnd (sGuard v101 .false (lift (pFieldAddr 1 v4) h24) h24) fun v109 h25 =>
  bnd (sGuard v101 .false (lift (pLoad1 I v109 h25) h25) h25) fun v110 h26 =>
  bnd (sGuard v101 .false (lift (pFieldAddr 2 v5) h26) h26) fun v111 h27 =>
  bnd (sGuard v101 .false (lift (pLoad1 I v111 h27) h27) h27) fun v112 h28 =>
  bnd (sGuard v101 .false (lift (pIndexAddr 2 v110 v112) h28) h28) fun v113 h29 =>
  bnd (sGuard v101 .false (lift (pFieldAddr 1 v113) h29) h29) fun v114 h30 =>
  bnd (sGuard v101 .false (lift (pLoad1 I v114 h30) h30) h30) fun v115 h31 =>
  bnd (sGuard v101 .false (lift (pIndexAddr 1 v108 v115) h31) h31) fun v116 h32 =>
  bnd (sGuard v101 .false (lift (pLoad1 I v116 h32) h32) h32) fun v117 h33 =>
  bnd (sGuard v101 .false (lift (pLenSl v117) h33) h33) fun v118 h34 =>
  bnd (sGuard v101 .false (call 119 [v104, v118] h34) h34) fun v119 h35 =>
  bndP (pPick v101 (.bool .true) v119) fun v120 =>
  some (v120, h35))
noncomputable def f123.e (I : Inp) (call : CallFn) (j : f123.Js) (v0 v1 v2 : AVal) (h : AHeap) : Rs :=
  bnd (sBox v1 h) fun v4 h1 =>
  bnd (sBox v2 h1) fun v5 h2 =>
  bndP (pLoadN I 6 v5 h2) fun v15 =>
  bnd (call 151 [v15] h2) fun v16 h3 =>
  bndP (pExtract v16 0) fun v17 =>
  bndP (pExtract v16 1) fun v18 =>
  bndP (pExtract v16 2) fun v19 =>
  bndP (pExtract v16 3) fun v20 =>
  bndP (pExtract v16 4) fun v21 =>
  bndP (pExtract v16 5) fun v22 =>
  bndP (pFieldAddr 1 v4) fun v23 =>
  bndP (pLoad1 I v23 h3) fun v24 =>
  bndP (pLenSl v24) fun v25 =>
  bndP (pUn .not v22) fun v27 =>
  bnd (sGuard v27 .false (some (v17, h3)) h3) fun v29 h4 =>
  bnd (sGuard v27 .false (lift (pFieldAddr 1 v5) h4) h4) fun v30 h5 =>
  bnd (sGuard v27 .false (lift (pLoad1 I v30 h5) h5) h5) fun v31 h6 =>
  bnd (sGuard v27 .false (some (v25, h6)) h6) fun v32 h7 =>
  bnd (sGuard v27 .false (call 152 [v29, v31, v32] h7) h7) fun v33 h8 =>
  bnd (sGuard v27 .false (lift (pUn .not v33) h8) h8) fun v34 h9 =>
  bndP (pPick v27 (.bool .true) v34) fun v35 =>
  bnd (sGuard v35 .false (some (v18, h9)) h9) fun v37 h10 =>
  bnd (sGuard v35 .false (lift (pFieldAddr 2 v5) h10) h10) fun v38 h11 =>
  bnd (sGuard v35 .false (lift (pLoad1 I v38 h11) h11) h11) fun v39 h12 =>
  bnd (sGuard v35 .false (some (v25, h12)) h12) fun v40 h13 =>
  bnd (sGuard v35 .false (call 152 [v37, v39, v40] h13) h13) fun v41 h14 =>
  bnd (sGuard v35 .false (lift (pUn .not v41) h14) h14) fun v42 h15 =>
  bndP (pPick v35 (.bool .true) v42) fun v43 =>
  bnd (sGuard v43 .false (some (v19, h15)) h15) fun v45 h16 =>
  bnd (sGuard v43 .false (lift (pFieldAddr 3 v5) h16) h16) fun v46 h17 =>
  bnd (sGuard v43 .false (lift (pLoad1 I v46 h17) h17) h17) fun v47 h18 =>
  bnd (sGuard v43 .false (some (v25, h18)) h18) fun v48 h19 =>
  bnd (sGuard v43 .false (call 152 [v45, v47, v48] h19) h19) fun v49 h20 =>
  bnd (sGuard v43 .false (lift (pUn .not v49) h20) h20) fun v50 h21 =>
  bndP (pPick v43 (.bool .true) v50) fun v51 =>
  bnd (sGuard v51 .false (some (v20, h21)) h21) fun v53 h22 =>
  bnd (sGuard v51 .false (lift (pUn .not v53) h22) h22) fun v54 h23 =>
  bnd (sGuard v51 .false (some (v54, h23)) h23) fun v55 h24 =>
  bnd (sGuard v55 .true (lift (pFieldAddr 4 v5) h24) h24) fun v56 h25 =>
  bnd (sGuard v55 .true (lift (pLoad1 I v56 h25) h25) h25) fun v57 h26 =>
  bnd (sGuard v55 .true (lift (pBin .neq v57 (Z 0)) h26) h26) fun v58 h27 =>
  bnd (sGuard v51 .false (lift (pPick v55 v58 (.bool .false)) h27) h27) fun v59 h28 =>
  bndP (pPick v51 (.bool .true) v59) fun v60 =>
  bnd (sGuard v60 .false (some (v21, h28)) h28) fun v62 h29 =>
  bnd (sGuard v60 .false (lift (pUn .not v62) h29) h29) fun v63 h30 =>
  bnd (sGuard v60 .false (some (v63, h30)) h30) fun v64 h31 =>
  bnd (sGuard v64 .true (lift (pFieldAddr 5 v5) h31) h31) fun v65 h32 =>
  bnd (sGuard v64 .true (lift (pLoad1 I v65 h32) h32) h32) fun v66 h33 =>
  bnd (sGuard v64 .true (lift (pLenSl v66) h33) h33) fun v67 h34 =>
  bnd (sGuard v64 .true (lift (pBin .gtr v67 (Z 0)) h34) h34) fun v68 h35 =>
  bnd (sGuard v60 .false (lift (pPick v64 v68 (.bool .false)) h35) h35) fun v69 h36 =>
  bndP (pPick v60 (.bool .true) v69) fun v70 =>
  bnd (sGuard v70 .false (lift (pFieldAddr 5 v5) h36) h36) fun v72 h37 =>
  bnd (sGuard v70 .false (lift (pLoad1 I v72 h37) h37) h37) fun v73 h38 =>
  bnd (sGuard v70 .false (some (v25, h38)) h38) fun v74 h39 =>
  bnd (sGuard v70 .false (call 150 [v73, v74] h39) h39) fun v75 h40 =>
  bnd (sGuard v70 .false (lift (pUn .not v75) h40) h40) fun v76 h41 =>
  bndP (pPick v70 (.bool .true) v76) fun v77 =>
  sCond v77 (
  j.1.1 v0 v4 v5 h41) (
  some ((.bool .false), h41))
noncomputable def f123.J (I : Inp) (call : CallFn) (n : Nat) : f123.Js :=
  Nat.rec (motive := fun _ => f123.Js) (((fun _ _ _ _ => none), (fun _ => none)), ((fun _ _ _ _ _ _ => none), (fun _ _ _ _ _ _ => none))) (fun _ ih => ((f123.b0 I call ih, f123.b1 I call ih), (f123.b2 I call ih, f123.b3 I call ih))) n
noncomputable def f123.JS (I : Inp) (call : CallFn) (n : Nat) : Jmp := fun id ρ h =>
  (Bool.rec (motive := fun _ => _) (Bool.rec (motive := fun _ => _) ((f123.J I call n).2.2 (ρ 0) (ρ 4) (ρ 5) (ρ 79) (ρ 91) h) ((f123.J I call n).2.1 (ρ 0) (ρ 4) (ρ 5) (ρ 79) (ρ 80) h) (Nat.blt id 3)) (Bool.rec (motive := fun _ => _) ((f123.J I call n).1.2 h) ((f123.J I call n).1.1 (ρ 0) (ρ 4) (ρ 5) h) (Nat.blt id 1)) (Nat.blt id 2))
theorem f123.q0 (I : Inp) (call : CallFn) (n : Nat) (ρ : Fun) (h : AHeap) : f123.JS I call (n + 1) 0 ρ h = labC P I call (f123.JS I call n) c123.body 0 (finV I c123.results) 0 ρ h := by kernel_rfl
theorem f123.q1 (I : Inp) (call : CallFn) (n : Nat) (ρ : Fun) (h : AHeap) : f123.JS I call (n + 1) 1 ρ h = labC P I call (f123.JS I call n) c123.body 0 (finV I c123.results) 1 ρ h := by kernel_rfl
theorem f123.q2 (I : Inp) (call : CallFn) (n : Nat) (ρ : Fun) (h : AHeap) : f123.JS I call (n + 1) 2 ρ h = labC P I call (f123.JS I call n) c123.body 0 (finV I c123.results) 2 ρ h := by kernel_rfl
theorem f123.q3 (I : Inp) (call : CallFn) (n : Nat) (ρ : Fun) (h : AHeap) : f123.JS I call (n + 1) 3 ρ h = labC P I call (f123.JS I call n) c123.body 0 (finV I c123.results) 3 ρ h := by kernel_rfl
theorem f123.S (I : Inp) (F : Nat → Option AFn) (call : CallFn) : SFn ⟨P, I, F⟩ call c123 (f123.JS I call) :=
  ⟨fun id hid ρ h => by
    have hc : c123.body.cnt = 4 := by kernel_rfl
    rw [hc] at hid
    exact match id, hid with
    | 0, _ => rfl
    | 1, _ => rfl
    | 2, _ => rfl
    | 3, _ => rfl
    | id + 4, hid => absurd hid (by omega), fun n id hid ρ h => by
    have hc : c123.body.cnt = 4 := by kernel_rfl
    rw [hc] at hid
    exact match id, hid with
    | 0, _ => f123.q0 I call n ρ h
    | 1, _ => f123.q1 I call n ρ h
    | 2, _ => f123.q2 I call n ρ h
    | 3, _ => f123.q3 I call n ρ h
    | id + 4, hid => absurd hid (by omega)⟩
noncomputable def f123.run (I : Inp) : SF := fun call n a h =>
  match a with
  | [v0, v1, v2] => f123.e I call (f123.J I call n) v0 v1 v2 h
  | _ => none
theorem f123.qe (I : Inp) (call : CallFn) (n : Nat) (v0 v1 v2 : AVal) (h : AHeap) : f123.e I call (f123.J I call n) v0 v1 v2 h = execC P I call (f123.JS I call n) c123.body 0 (finV I c123.results) (argV [v0, v1, v2]) h := by kernel_rfl
theorem f123.code : codeOf P 123 = some c123 := by kernel_rfl
theorem f123.ok (I : Inp) (F : Nat → Option AFn) (hF : F 123 = some (.code c123)) : SfOk P I F 123 (f123.run I) := by
  intro call hc n args h r hr
  unfold f123.run at hr
  split at hr
  · exact fn_sound (C := ⟨P, I, F⟩) (n := n) hc hF (Nat.le_of_ble_eq_true (by kernel_rfl)) (by kernel_rfl) (f123.S I F call) (by kernel_rfl) ((f123.qe I call n _ _ _ h).symm.trans hr)
  · cases hr
/-! haruspex/types.Names$2 -/
noncomputable def c124 : AFunc := (AFunc.mk 9 2 [(.tmp 5)] (.seq (.region [(S 4 (.box (T 1)) .none), (S 5 (.move (.val (.bool .false))) .none)]) (.seq (.region [(S 6 (.loadN 3 (T 2)) .none), (S 7 (.loadN 5 (T 4)) .none), (S 8 (.call 125 [(T 6), (T 7)]) .none), (M 5 8)]) .ret)))
abbrev f124.Js : Type := Unit
noncomputable def f124.e (I : Inp) (call : CallFn) (j : f124.Js) (v0 v1 v2 : AVal) (h : AHeap) : Rs :=
  bnd (sBox v1 h) fun v4 h1 =>
  bndP (pLoadN I 3 v2 h1) fun v6 =>
  bndP (pLoadN I 5 v4 h1) fun v7 =>
  bnd (call 125 [v6, v7] h1) fun v8 h2 =>
  some (v8, h2)
theorem f124.S (I : Inp) (F : Nat → Option AFn) (call : CallFn) : SFn ⟨P, I, F⟩ call c124 (fun _ _ _ _ => none) :=
  ⟨fun _ _ _ _ => rfl, fun n id hid => absurd hid (by rw [show c124.body.cnt = 0 by kernel_rfl]; omega)⟩
noncomputable def f124.run (I : Inp) : SF := fun call n a h =>
  match a with
  | [v0, v1, v2] => f124.e I call () v0 v1 v2 h
  | _ => none
theorem f124.qe (I : Inp) (call : CallFn) (n : Nat) (v0 v1 v2 : AVal) (h : AHeap) : f124.e I call () v0 v1 v2 h = execC P I call (fun _ _ _ => none) c124.body 0 (finV I c124.results) (argV [v0, v1, v2]) h := by kernel_rfl
theorem f124.code : codeOf P 124 = some c124 := by kernel_rfl
theorem f124.ok (I : Inp) (F : Nat → Option AFn) (hF : F 124 = some (.code c124)) : SfOk P I F 124 (f124.run I) := by
  intro call hc n args h r hr
  unfold f124.run at hr
  split at hr
  · exact fn_sound (C := ⟨P, I, F⟩) (n := n) hc hF (Nat.le_of_ble_eq_true (by kernel_rfl)) (by kernel_rfl) (f124.S I F call) (by kernel_rfl) ((f124.qe I call n _ _ _ h).symm.trans hr)
  · cases hr
/-! haruspex/types.end -/
noncomputable def c125 : AFunc := (AFunc.mk 65 2 [(.tmp 4)] (.seq (.region [(S 2 (.box (T 0)) .none), (S 3 (.box (T 1)) .none), (S 4 (.move (.val (.bool .false))) .none)]) (.seq (.region [(FA 6 2 2), (L1 7 6), (S 8 (.lenSl (T 7)) .none), (M 5 8)]) (.seq (.seq (.region [(FA 9 1 3), (L1 10 9)]) (.block 0 (.seq (.region [(S 12 (.bin .eql (T 10) (V 1)) .none), (M 11 12)]) (.cond (T 11) (.seq (.region [(FA 13 2 3), (L1 14 13), (S 15 (.bin .eql (T 14) (V 0)) .none), (M 16 15), (S 17 (.fieldAddr 3 (T 3)) (.some (16, .true))), (S 18 (.load1 (T 17)) (.some (16, .true))), (S 19 (.move (T 5)) (.some (16, .true))), (S 20 (.call 119 [(T 18), (T 19)]) (.some (16, .true))), (S 21 (.pick (T 16) (T 20) (.val (.bool .false))) .none), (M 22 21), (S 23 (.fieldAddr 4 (T 3)) (.some (22, .true))), (S 24 (.load1 (T 23)) (.some (22, .true))), (S 25 (.bin .eql (T 24) (V 0)) (.some (22, .true))), (S 26 (.pick (T 22) (T 25) (.val (.bool .false))) .none), (M 4 26)]) .ret) (.seq (.region [(S 28 (.bin .eql (T 10) (V 2)) .none), (M 27 28)]) (.cond (T 27) (.seq (.region [(FA 29 2 3), (L1 30 29), (FA 31 1 2), (L1 32 31), (S 33 (.lenSl (T 32)) .none), (S 34 (.call 119 [(T 30), (T 33)]) .none), (M 35 34), (S 36 (.fieldAddr 3 (T 3)) (.some (35, .true))), (S 37 (.load1 (T 36)) (.some (35, .true))), (S 38 (.move (T 5)) (.some (35, .true))), (S 39 (.call 119 [(T 37), (T 38)]) (.some (35, .true))), (S 40 (.pick (T 35) (T 39) (.val (.bool .false))) .none), (M 41 40), (S 42 (.fieldAddr 4 (T 3)) (.some (41, .true))), (S 43 (.load1 (T 42)) (.some (41, .true))), (S 44 (.move (T 5)) (.some (41, .true))), (S 45 (.call 119 [(T 43), (T 44)]) (.some (41, .true))), (S 46 (.pick (T 41) (T 45) (.val (.bool .false))) .none), (M 4 46)]) .ret) (.seq (.region [(S 48 (.bin .eql (T 10) (V 3)) .none), (M 47 48)]) (.cond (T 47) (.seq (.region [(FA 49 2 3), (L1 50 49), (FA 51 1 2), (L1 52 51), (S 53 (.lenSl (T 52)) .none), (S 54 (.call 119 [(T 50), (T 53)]) .none), (M 55 54), (S 56 (.fieldAddr 3 (T 3)) (.some (55, .true))), (S 57 (.load1 (T 56)) (.some (55, .true))), (S 58 (.bin .eql (T 57) (V 0)) (.some (55, .true))), (S 59 (.pick (T 55) (T 58) (.val (.bool .false))) .none), (M 60 59), (S 61 (.fieldAddr 4 (T 3)) (.some (60, .true))), (S 62 (.load1 (T 61)) (.some (60, .true))), (S 63 (.bin .eql (T 62) (V 0)) (.some (60, .true))), (S 64 (.pick (T 60) (T 63) (.val (.bool .false))) .none), (M 4 64)]) .ret) .skip)))))))) (.seq (.region [(S 4 (.move (.val (.bool .false))) .none)]) .ret)))))
abbrev f125.Js : Type := (AHeap → Rs)
noncomputable def f125.b0 (I : Inp) (call : CallFn) (j : f125.Js) (h : AHeap) : Rs :=
  some ((.bool .false), h)
noncomputable def f125.e (I : Inp) (call : CallFn) (j : f125.Js) (v0 v1 : AVal) (h : AHeap) : Rs :=
  bnd (sBox v0 h) fun v2 h1 =>
  bnd (sBox v1 h1) fun v3 h2 =>
  bndP (pFieldAddr 2 v2) fun v6 =>
  bndP (pLoad1 I v6 h2) fun v7 =>
  bndP (pLenSl v7) fun v8 =>
  bndP (pFieldAddr 1 v3) fun v9 =>
  bndP (pLoad1 I v9 h2) fun v10 =>
  bndP (pBin .eql v10 (Z 1)) fun v12 =>
  sCond v12 (
  bndP (pBin .eql v10 (Z 2)) fun v28 =>
  sCond v28 (
  bndP (pBin .eql v10 (Z 3)) fun v48 =>
  sCond v48 (
  j h2) (
  bndP (pFieldAddr 2 v3) fun v49 =>
  bndP (pLoad1 I v49 h2) fun v50 =>
  bndP (pFieldAddr 1 v2) fun v51 =>
  bndP (pLoad1 I v51 h2) fun v52 =>
  bndP (pLenSl v52) fun v53 =>
  bnd (call 119 [v50, v53] h2) fun v54 h3 =>
  bnd (sGuard v54 .true (lift (pFieldAddr 3 v3) h3) h3) fun v56 h4 =>
  bnd (sGuard v54 .true (lift (pLoad1 I v56 h4) h4) h4) fun v57 h5 =>
  bnd (sGuard v54 .true (lift (pBin .eql v57 (Z 0)) h5) h5) fun v58 h6 =>
  bndP (pPick v54 v58 (.bool .false)) fun v59 =>
  bnd (sGuard v59 .true (lift (pFieldAddr 4 v3) h6) h6) fun v61 h7 =>
  bnd (sGuard v59 .true (lift (pLoad1 I v61 h7) h7) h7) fun v62 h8 =>
  bnd (sGuard v59 .true (lift (pBin .eql v62 (Z 0)) h8) h8) fun v63 h9 =>
  bndP (pPick v59 v63 (.bool .false)) fun v64 =>
  some (v64, h9))) (
  bndP (pFieldAddr 2 v3) fun v29 =>
  bndP (pLoad1 I v29 h2) fun v30 =>
  bndP (pFieldAddr 1 v2) fun v31 =>
  bndP (pLoad1 I v31 h2) fun v32 =>
  bndP (pLenSl v32) fun v33 =>
  bnd (call 119 [v30, v33] h2) fun v34 h10 =>
  bnd (sGuard v34 .true (lift (pFieldAddr 3 v3) h10) h10) fun v36 h11 =>
  bnd (sGuard v34 .true (lift (pLoad1 I v36 h11) h11) h11) fun v37 h12 =>
  bnd (sGuard v34 .true (some (v8, h12)) h12) fun v38 h13 =>
  bnd (sGuard v34 .true (call 119 [v37, v38] h13) h13) fun v39 h14 =>
  bndP (pPick v34 v39 (.bool .false)) fun v40 =>
  bnd (sGuard v40 .true (lift (pFieldAddr 4 v3) h14) h14) fun v42 h15 =>
  bnd (sGuard v40 .true (lift (pLoad1 I v42 h15) h15) h15) fun v43 h16 =>
  bnd (sGuard v40 .true (some (v8, h16)) h16) fun v44 h17 =>
  bnd (sGuard v40 .true (call 119 [v43, v44] h17) h17) fun v45 h18 =>
  bndP (pPick v40 v45 (.bool .false)) fun v46 =>
  some (v46, h18))) (
  bndP (pFieldAddr 2 v3) fun v13 =>
  bndP (pLoad1 I v13 h2) fun v14 =>
  bndP (pBin .eql v14 (Z 0)) fun v15 =>
  bnd (sGuard v15 .true (lift (pFieldAddr 3 v3) h2) h2) fun v17 h19 =>
  bnd (sGuard v15 .true (lift (pLoad1 I v17 h19) h19) h19) fun v18 h20 =>
  bnd (sGuard v15 .true (some (v8, h20)) h20) fun v19 h21 =>
  bnd (sGuard v15 .true (call 119 [v18, v19] h21) h21) fun v20 h22 =>
  bndP (pPick v15 v20 (.bool .false)) fun v21 =>
  bnd (sGuard v21 .true (lift (pFieldAddr 4 v3) h22) h22) fun v23 h23 =>
  bnd (sGuard v21 .true (lift (pLoad1 I v23 h23) h23) h23) fun v24 h24 =>
  bnd (sGuard v21 .true (lift (pBin .eql v24 (Z 0)) h24) h24) fun v25 h25 =>
  bndP (pPick v21 v25 (.bool .false)) fun v26 =>
  some (v26, h25))
noncomputable def f125.J (I : Inp) (call : CallFn) (n : Nat) : f125.Js :=
  Nat.rec (motive := fun _ => f125.Js) (fun _ => none) (fun _ ih => f125.b0 I call ih) n
noncomputable def f125.JS (I : Inp) (call : CallFn) (n : Nat) : Jmp := fun id ρ h =>
  ((f125.J I call n) h)
theorem f125.q0 (I : Inp) (call : CallFn) (n : Nat) (ρ : Fun) (h : AHeap) : f125.JS I call (n + 1) 0 ρ h = labC P I call (f125.JS I call n) c125.body 0 (finV I c125.results) 0 ρ h := by kernel_rfl
theorem f125.S (I : Inp) (F : Nat → Option AFn) (call : CallFn) : SFn ⟨P, I, F⟩ call c125 (f125.JS I call) :=
  ⟨fun id hid ρ h => by
    have hc : c125.body.cnt = 1 := by kernel_rfl
    rw [hc] at hid
    exact match id, hid with
    | 0, _ => rfl
    | id + 1, hid => absurd hid (by omega), fun n id hid ρ h => by
    have hc : c125.body.cnt = 1 := by kernel_rfl
    rw [hc] at hid
    exact match id, hid with
    | 0, _ => f125.q0 I call n ρ h
    | id + 1, hid => absurd hid (by omega)⟩
noncomputable def f125.run (I : Inp) : SF := fun call n a h =>
  match a with
  | [v0, v1] => f125.e I call (f125.J I call n) v0 v1 h
  | _ => none
theorem f125.qe (I : Inp) (call : CallFn) (n : Nat) (v0 v1 : AVal) (h : AHeap) : f125.e I call (f125.J I call n) v0 v1 h = execC P I call (f125.JS I call n) c125.body 0 (finV I c125.results) (argV [v0, v1]) h := by kernel_rfl
theorem f125.code : codeOf P 125 = some c125 := by kernel_rfl
theorem f125.ok (I : Inp) (F : Nat → Option AFn) (hF : F 125 = some (.code c125)) : SfOk P I F 125 (f125.run I) := by
  intro call hc n args h r hr
  unfold f125.run at hr
  split at hr
  · exact fn_sound (C := ⟨P, I, F⟩) (n := n) hc hF (Nat.le_of_ble_eq_true (by kernel_rfl)) (by kernel_rfl) (f125.S I F call) (by kernel_rfl) ((f125.qe I call n _ _ h).symm.trans hr)
  · cases hr
/-! haruspex/types.Impl -/
noncomputable def c126 : AFunc := (AFunc.mk 13 3 [(.tmp 6)] (.seq (.region [(S 4 (.box (T 1)) .none), (S 5 (.box (T 2)) .none), (S 6 (.move (V 0)) .none)]) (.seq (.region [(M 7 0), (NC 8 7), (FA 9 3 8), (L1 10 9), (S 11 (.mkFunc (.func 154) [] [(T 4), (T 5)]) .none), (S 12 (.call 153 [(T 10), (T 11)]) .none), (M 6 12)]) .ret)))
abbrev f126.Js : Type := Unit
noncomputable def f126.e (I : Inp) (call : CallFn) (j : f126.Js) (v0 v1 v2 : AVal) (h : AHeap) : Rs :=
  bnd (sBox v1 h) fun v4 h1 =>
  bnd (sBox v2 h1) fun v5 h2 =>
  bndP (pNilCheck v0) fun v8 =>
  bndP (pFieldAddr 3 v8) fun v9 =>
  bndP (pLoad1 I v9 h2) fun v10 =>
  bnd (call 153 [v10, (.func (.func 154) [] [v4, v5])] h2) fun v12 h3 =>
  some (v12, h3)
theorem f126.S (I : Inp) (F : Nat → Option AFn) (call : CallFn) : SFn ⟨P, I, F⟩ call c126 (fun _ _ _ _ => none) :=
  ⟨fun _ _ _ _ => rfl, fun n id hid => absurd hid (by rw [show c126.body.cnt = 0 by kernel_rfl]; omega)⟩
noncomputable def f126.run (I : Inp) : SF := fun call n a h =>
  match a with
  | [v0, v1, v2] => f126.e I call () v0 v1 v2 h
  | _ => none
theorem f126.qe (I : Inp) (call : CallFn) (n : Nat) (v0 v1 v2 : AVal) (h : AHeap) : f126.e I call () v0 v1 v2 h = execC P I call (fun _ _ _ => none) c126.body 0 (finV I c126.results) (argV [v0, v1, v2]) h := by kernel_rfl
theorem f126.code : codeOf P 126 = some c126 := by kernel_rfl
theorem f126.ok (I : Inp) (F : Nat → Option AFn) (hF : F 126 = some (.code c126)) : SfOk P I F 126 (f126.run I) := by
  intro call hc n args h r hr
  unfold f126.run at hr
  split at hr
  · exact fn_sound (C := ⟨P, I, F⟩) (n := n) hc hF (Nat.le_of_ble_eq_true (by kernel_rfl)) (by kernel_rfl) (f126.S I F call) (by kernel_rfl) ((f126.qe I call n _ _ _ h).symm.trans hr)
  · cases hr
/-! haruspex/wf.method -/
noncomputable def c127 : AFunc := (AFunc.mk 50 4 [(.tmp 8)] (.seq (.region [(S 8 (.move (.val (.bool .false))) .none)]) (.seq (.draw [(M 12 0), (NC 13 12), (FA 14 1 13), (L1 15 14), (M 16 0), (NC 17 16), (FA 18 4 17), (L1 19 18), (M 20 2), (S 21 (.indexAddr 3 (T 19) (T 20)) .none), (FA 22 0 21), (L1 23 22), (S 24 (.indexAddr 3 (T 15) (T 23)) .none), (S 25 (.loadN 3 (T 24)) .none), (S 9 (.resv 0 (.alloc [.nils, (Z 0), (Z 0)])) .none), (S 10 (.resv 1 (.alloc [.nils, (Z 0), (Z 0)])) .none), (AOper.mk .none (.store 3 (T 9) (T 25)) .none), (M 26 0), (NC 27 26), (FA 28 1 27), (L1 29 28), (M 30 3), (S 31 (.indexAddr 3 (T 29) (T 30)) .none), (S 32 (.loadN 3 (T 31)) .none), (AOper.mk .none (.store 3 (T 10) (T 32)) .none)] [N, N, N, (.false, [1, 2]), N, N, N, (.false, [1, 2]), N, N, N, (.false, [1, 2]), N, (.false, [1, 2]), Y, Y, Y, N, N, N, (.false, [0, 1, 2]), N, N, (.false, [0, 1, 2]), Y] 2) (.seq (.region [(M 33 1), (S 34 (.build [(Z 0), (Z 0)] [(0, (1, (V 1))), (1, (1, (T 33)))]) .none), (S 35 (.buildSlice [(Z 0), (Z 0)] 1 [(0, (2, (T 34)))]) .none), (FA 36 0 10), (L1 37 36), (S 38 (.append 2 16 (T 35) (T 37)) .none), (M 11 38)]) (.seq (.region [(FA 39 0 9), (L1 40 39), (M 41 11), (S 42 (.call 155 [(T 40), (T 41)]) .none), (M 43 42), (S 44 (.fieldAddr 1 (T 9)) (.some (43, .true))), (S 45 (.loadN 2 (T 44)) (.some (43, .true))), (S 46 (.fieldAddr 1 (T 10)) (.some (43, .true))), (S 47 (.loadN 2 (T 46)) (.some (43, .true))), (S 48 (.eq .false (.struct [.i, .i]) .false (T 45) (T 47)) (.some (43, .true))), (S 49 (.pick (T 43) (T 48) (.val (.bool .false))) .none), (M 8 49)]) .ret)))))
abbrev f127.Js : Type := Unit
noncomputable def f127.e (I : Inp) (call : CallFn) (j : f127.Js) (v0 v1 v2 v3 : AVal) (h : AHeap) : Rs :=
  sKeep 1 h fun h1 =>
  bndP (pNilCheck v0) fun v13 =>
  bndP (pFieldAddr 1 v13) fun v14 =>
  bndP (pLoad1 I v14 h1) fun v15 =>
  bndP (pNilCheck v0) fun v17 =>
  bndP (pFieldAddr 4 v17) fun v18 =>
  bndP (pLoad1 I v18 h1) fun v19 =>
  bndP (pIndexAddr 3 v19 v2) fun v21 =>
  bndP (pFieldAddr 0 v21) fun v22 =>
  bndP (pLoad1 I v22 h1) fun v23 =>
  bndP (pIndexAddr 3 v15 v23) fun v24 =>
  bndP (pLoadN I 3 v24 h1) fun v25 =>
  bnd (sResvAlloc (h.next + 0) [.nils, (Z 0), (Z 0)] h1) fun v9 h2 =>
  bnd (sResvAlloc (h.next + 1) [.nils, (Z 0), (Z 0)] h2) fun v10 h3 =>
  bnd (sStore 3 v9 v25 h3) fun _ h4 =>
  bndP (pNilCheck v0) fun v27 =>
  bndP (pFieldAddr 1 v27) fun v28 =>
  bndP (pLoad1 I v28 h4) fun v29 =>
  bndP (pIndexAddr 3 v29 v3) fun v31 =>
  bndP (pLoadN I 3 v31 h4) fun v32 =>
  bnd (sStore 3 v10 v32 h4) fun _ h5 =>
  sCheck (sSame (lift (pLoad1 I v14 h2) h2) v15 && (sSame (lift (pLoad1 I v14 h3) h3) v15 && true)) (
  sCheck (sSame (lift (pLoad1 I v18 h2) h2) v19 && (sSame (lift (pLoad1 I v18 h3) h3) v19 && true)) (
  sCheck (sSame (lift (pLoad1 I v22 h2) h2) v23 && (sSame (lift (pLoad1 I v22 h3) h3) v23 && true)) (
  sCheck (sSame (lift (pLoadN I 3 v24 h2) h2) v25 && (sSame (lift (pLoadN I 3 v24 h3) h3) v25 && true)) (
  sCheck (sSame (lift (pLoad1 I v28 h1) h1) v29 && (sSame (lift (pLoad1 I v28 h2) h2) v29 && (sSame (lift (pLoad1 I v28 h3) h3) v29 && true))) (
  sCheck (sSame (lift (pLoadN I 3 v31 h1) h1) v32 && (sSame (lift (pLoadN I 3 v31 h2) h2) v32 && (sSame (lift (pLoadN I 3 v31 h3) h3) v32 && true))) (
  bndP (pBuild [(Z 0), (Z 0)] [(0, 1, (Z 1)), (1, 1, v1)]) fun v34 =>
  bnd (sBuildSlice [(Z 0), (Z 0)] 1 [(0, 2, v34)] h5) fun v35 h6 =>
  bndP (pFieldAddr 0 v10) fun v36 =>
  bndP (pLoad1 I v36 h6) fun v37 =>
  bnd (sAppend I 2 16 v35 v37 h6) fun v38 h7 =>
  bndP (pFieldAddr 0 v9) fun v39 =>
  bndP (pLoad1 I v39 h7) fun v40 =>
  bnd (call 155 [v40, v38] h7) fun v42 h8 =>
  bnd (sGuard v42 .true (lift (pFieldAddr 1 v9) h8) h8) fun v44 h9 =>
  bnd (sGuard v42 .true (lift (pLoadN I 2 v44 h9) h9) h9) fun v45 h10 =>
  bnd (sGuard v42 .true (lift (pFieldAddr 1 v10) h10) h10) fun v46 h11 =>
  bnd (sGuard v42 .true (lift (pLoadN I 2 v46 h11) h11) h11) fun v47 h12 =>
  bnd (sGuard v42 .true (lift (pEq P .false (.struct [.i, .i]) .false v45 v47 h12) h12) h12) fun v48 h13 =>
  bndP (pPick v42 v48 (.bool .false)) fun v49 =>
  some (v49, h13)))))))
theorem f127.S (I : Inp) (F : Nat → Option AFn) (call : CallFn) : SFn ⟨P, I, F⟩ call c127 (fun _ _ _ _ => none) :=
  ⟨fun _ _ _ _ => rfl, fun n id hid => absurd hid (by rw [show c127.body.cnt = 0 by kernel_rfl]; omega)⟩
noncomputable def f127.run (I : Inp) : SF := fun call n a h =>
  match a with
  | [v0, v1, v2, v3] => f127.e I call () v0 v1 v2 v3 h
  | _ => none
theorem f127.qe (I : Inp) (call : CallFn) (n : Nat) (v0 v1 v2 v3 : AVal) (h : AHeap) : f127.e I call () v0 v1 v2 v3 h = execC P I call (fun _ _ _ => none) c127.body 0 (finV I c127.results) (argV [v0, v1, v2, v3]) h := by kernel_rfl
theorem f127.code : codeOf P 127 = some c127 := by kernel_rfl
theorem f127.ok (I : Inp) (F : Nat → Option AFn) (hF : F 127 = some (.code c127)) : SfOk P I F 127 (f127.run I) := by
  intro call hc n args h r hr
  unfold f127.run at hr
  split at hr
  · exact fn_sound (C := ⟨P, I, F⟩) (n := n) hc hF (Nat.le_of_ble_eq_true (by kernel_rfl)) (by kernel_rfl) (f127.S I F call) (by kernel_rfl) ((f127.qe I call n _ _ _ _ h).symm.trans hr)
  · cases hr
/-! haruspex/types.params -/
noncomputable def c128 : AFunc := (AFunc.mk 30 2 [(.tmp 4)] (.seq (.region [(S 3 (.box (T 1)) .none), (S 4 (.move (.val (.bool .false))) .none)]) (.seq (.draw [(M 6 0), (NC 7 6), (FA 8 1 7), (L1 9 8), (FA 10 0 3), (L1 11 10), (S 12 (.indexAddr 3 (T 9) (T 11)) .none), (FA 13 0 12), (L1 14 13), (M 5 14)] [N, N, N, N, N, N, N, N, N, N] 0) (.seq (.region [(FA 15 1 3), (L1 16 15), (S 17 (.lenSl (T 16)) .none), (M 18 5), (S 19 (.lenSl (T 18)) .none), (S 20 (.bin .geq (T 17) (T 19)) .none), (M 21 20), (S 22 (.fieldAddr 1 (T 3)) (.some (21, .true))), (S 23 (.load1 (T 22)) (.some (21, .true))), (S 24 (.move (T 5)) (.some (21, .true))), (S 25 (.lenSl (T 24)) (.some (21, .true))), (S 26 (.sliceS 2 (T 23) .none (.some (T 25)) .none) (.some (21, .true))), (S 27 (.move (T 5)) (.some (21, .true))), (S 28 (.call 155 [(T 26), (T 27)]) (.some (21, .true))), (S 29 (.pick (T 21) (T 28) (.val (.bool .false))) .none), (M 4 29)]) .ret))))
abbrev f128.Js : Type := Unit
noncomputable def f128.e (I : Inp) (call : CallFn) (j : f128.Js) (v0 v1 : AVal) (h : AHeap) : Rs :=
  bnd (sBox v1 h) fun v3 h1 =>
  bndP (pNilCheck v0) fun v7 =>
  bndP (pFieldAddr 1 v7) fun v8 =>
  bndP (pLoad1 I v8 h1) fun v9 =>
  bndP (pFieldAddr 0 v3) fun v10 =>
  bndP (pLoad1 I v10 h1) fun v11 =>
  bndP (pIndexAddr 3 v9 v11) fun v12 =>
  bndP (pFieldAddr 0 v12) fun v13 =>
  bndP (pLoad1 I v13 h1) fun v14 =>
  bndP (pFieldAddr 1 v3) fun v15 =>
  bndP (pLoad1 I v15 h1) fun v16 =>
  bndP (pLenSl v16) fun v17 =>
  bndP (pLenSl v14) fun v19 =>
  bndP (pBin .geq v17 v19) fun v20 =>
  bnd (sGuard v20 .true (lift (pFieldAddr 1 v3) h1) h1) fun v22 h2 =>
  bnd (sGuard v20 .true (lift (pLoad1 I v22 h2) h2) h2) fun v23 h3 =>
  bnd (sGuard v20 .true (some (v14, h3)) h3) fun v24 h4 =>
  bnd (sGuard v20 .true (lift (pLenSl v24) h4) h4) fun v25 h5 =>
  bnd (sGuard v20 .true (lift (pSliceS 2 v23 none (some v25) none) h5) h5) fun v26 h6 =>
  bnd (sGuard v20 .true (some (v14, h6)) h6) fun v27 h7 =>
  bnd (sGuard v20 .true (call 155 [v26, v27] h7) h7) fun v28 h8 =>
  bndP (pPick v20 v28 (.bool .false)) fun v29 =>
  some (v29, h8)
theorem f128.S (I : Inp) (F : Nat → Option AFn) (call : CallFn) : SFn ⟨P, I, F⟩ call c128 (fun _ _ _ _ => none) :=
  ⟨fun _ _ _ _ => rfl, fun n id hid => absurd hid (by rw [show c128.body.cnt = 0 by kernel_rfl]; omega)⟩
noncomputable def f128.run (I : Inp) : SF := fun call n a h =>
  match a with
  | [v0, v1] => f128.e I call () v0 v1 h
  | _ => none
theorem f128.qe (I : Inp) (call : CallFn) (n : Nat) (v0 v1 : AVal) (h : AHeap) : f128.e I call () v0 v1 h = execC P I call (fun _ _ _ => none) c128.body 0 (finV I c128.results) (argV [v0, v1]) h := by kernel_rfl
theorem f128.code : codeOf P 128 = some c128 := by kernel_rfl
theorem f128.ok (I : Inp) (F : Nat → Option AFn) (hF : F 128 = some (.code c128)) : SfOk P I F 128 (f128.run I) := by
  intro call hc n args h r hr
  unfold f128.run at hr
  split at hr
  · exact fn_sound (C := ⟨P, I, F⟩) (n := n) hc hF (Nat.le_of_ble_eq_true (by kernel_rfl)) (by kernel_rfl) (f128.S I F call) (by kernel_rfl) ((f128.qe I call n _ _ h).symm.trans hr)
  · cases hr
/-! haruspex/types.Check$1 -/
noncomputable def c129 : AFunc := (AFunc.mk 10 2 [(.tmp 5)] (.seq (.region [(S 4 (.box (T 1)) .none), (S 5 (.move (.val (.bool .false))) .none)]) (.seq (.region [(L1 6 2), (M 7 0), (S 8 (.loadN 6 (T 4)) .none), (S 9 (.call 130 [(T 6), (T 7), (T 8)]) .none), (M 5 9)]) .ret)))
abbrev f129.Js : Type := Unit
noncomputable def f129.e (I : Inp) (call : CallFn) (j : f129.Js) (v0 v1 v2 : AVal) (h : AHeap) : Rs :=
  bnd (sBox v1 h) fun v4 h1 =>
  bndP (pLoad1 I v2 h1) fun v6 =>
  bndP (pLoadN I 6 v4 h1) fun v8 =>
  bnd (call 130 [v6, v0, v8] h1) fun v9 h2 =>
  some (v9, h2)
theorem f129.S (I : Inp) (F : Nat → Option AFn) (call : CallFn) : SFn ⟨P, I, F⟩ call c129 (fun _ _ _ _ => none) :=
  ⟨fun _ _ _ _ => rfl, fun n id hid => absurd hid (by rw [show c129.body.cnt = 0 by kernel_rfl]; omega)⟩
noncomputable def f129.run (I : Inp) : SF := fun call n a h =>
  match a with
  | [v0, v1, v2] => f129.e I call () v0 v1 v2 h
  | _ => none
theorem f129.qe (I : Inp) (call : CallFn) (n : Nat) (v0 v1 v2 : AVal) (h : AHeap) : f129.e I call () v0 v1 v2 h = execC P I call (fun _ _ _ => none) c129.body 0 (finV I c129.results) (argV [v0, v1, v2]) h := by kernel_rfl
theorem f129.code : codeOf P 129 = some c129 := by kernel_rfl
theorem f129.ok (I : Inp) (F : Nat → Option AFn) (hF : F 129 = some (.code c129)) : SfOk P I F 129 (f129.run I) := by
  intro call hc n args h r hr
  unfold f129.run at hr
  split at hr
  · exact fn_sound (C := ⟨P, I, F⟩) (n := n) hc hF (Nat.le_of_ble_eq_true (by kernel_rfl)) (by kernel_rfl) (f129.S I F call) (by kernel_rfl) ((f129.qe I call n _ _ _ h).symm.trans hr)
  · cases hr
/-! haruspex/types.Fits -/
noncomputable def c130 : AFunc := (AFunc.mk 245 3 [(.tmp 6)] (.seq (.region [(S 5 (.box (T 2)) .none), (S 6 (.move (.val (.bool .false))) .none)]) (.seq (.seq (.draw [(M 11 0), (S 12 (.eq .false .ptr .true (T 11) (.val .nilp)) .none), (M 13 12), (S 14 (.move (T 1)) (.some (13, .false))), (S 15 (.move (T 0)) (.some (13, .false))), (S 16 (.nilCheck (T 15)) (.some (13, .false))), (S 17 (.fieldAddr 4 (T 16)) (.some (13, .false))), (S 18 (.load1 (T 17)) (.some (13, .false))), (S 19 (.lenSl (T 18)) (.some (13, .false))), (S 20 (.call 119 [(T 14), (T 19)]) (.some (13, .false))), (S 21 (.un .not (T 20)) (.some (13, .false))), (S 22 (.pick (T 13) (.val (.bool .true)) (T 21)) .none), (M 23 22), (S 24 (.move (T 0)) (.some (23, .false))), (S 25 (.call 118 [(T 24)]) (.some (23, .false))), (S 26 (.un .not (T 25)) (.some (23, .false))), (S 27 (.pick (T 23) (.val (.bool .true)) (T 26)) .none), (M 28 27), (S 29 (.move (T 0)) (.some (28, .false))), (S 30 (.move (T 0)) (.some (28, .false))), (S 31 (.nilCheck (T 30)) (.some (28, .false))), (S 32 (.fieldAddr 4 (T 31)) (.some (28, .false))), (S 33 (.load1 (T 32)) (.some (28, .false))), (S 34 (.move (T 1)) (.some (28, .false))), (S 35 (.indexAddr 3 (T 33) (T 34)) (.some (28, .false))), (S 36 (.fieldAddr 1 (T 35)) (.some (28, .false))), (S 37 (.load1 (T 36)) (.some (28, .false))), (S 38 (.call 120 [(T 29), (T 37)]) (.some (28, .false))), (S 39 (.un .not (T 38)) (.some (28, .false))), (S 40 (.pick (T 28) (.val (.bool .true)) (T 39)) .none), (M 41 40), (S 42 (.move (T 0)) (.some (41, .false))), (S 43 (.move (T 0)) (.some (41, .false))), (S 44 (.nilCheck (T 43)) (.some (41, .false))), (S 45 (.fieldAddr 4 (T 44)) (.some (41, .false))), (S 46 (.load1 (T 45)) (.some (41, .false))), (S 47 (.move (T 1)) (.some (41, .false))), (S 48 (.indexAddr 3 (T 46) (T 47)) (.some (41, .false))), (S 49 (.loadN 3 (T 48)) (.some (41, .false))), (S 50 (.loadN 6 (T 5)) (.some (41, .false))), (S 51 (.call 123 [(T 42), (T 49), (T 50)]) (.some (41, .false))), (S 52 (.un .not (T 51)) (.some (41, .false))), (S 53 (.pick (T 41) (.val (.bool .true)) (T 52)) .none)] [N, N, N, N, N, N, N, N, N, Y, N, N, N, N, Y, N, N, N, N, N, N, N, N, N, N, N, N, Y, N, N, N, N, N, N, N, N, N, N, N, N, Y, N, N] 0) (.cond (T 53) (.seq (.region [(S 6 (.move (.val (.bool .false))) .none)]) .ret) .skip)) (.seq (.region [(M 54 0), (NC 55 54), (FA 56 4 55), (L1 57 56), (M 58 1), (S 59 (.indexAddr 3 (T 57) (T 58)) .none), (FA 60 1 59), (L1 61 60), (S 7 (.alloc [.nils]) .none), (AOper.mk .none (.store 1 (T 7) (T 61)) .none)]) (.seq (.region [(S 62 (.mkFunc (.func 156) [] [(T 7)]) .none), (M 8 62)]) (.seq (.seq (.region [(FA 63 0 5), (L1 64 63)]) (.block 0 (.seq (.block 11 (.seq (.block 10 (.seq (.block 9 (.seq (.block 8 (.seq (.block 7 (.seq (.block 6 (.seq (.block 5 (.seq (.block 4 (.seq (.block 3 (.seq (.block 2 (.seq (.block 1 (.seq (.seq (.seq (.region [(S 66 (.bin .eql (T 64) (V 2)) .none), (M 65 66)]) (.cond (T 65) (.exit 1) .skip)) (.seq (.seq (.seq (.region [(S 68 (.bin .eql (T 64) (V 1)) .none), (M 67 68)]) (.cond (T 67) .skip (.region [(S 69 (.bin .eql (T 64) (V 3)) .none), (M 67 69)]))) (.cond (T 67) (.exit 2) .skip)) (.seq (.seq (.region [(S 71 (.bin .eql (T 64) (V 4)) .none), (M 70 71)]) (.cond (T 70) (.exit 3) .skip)) (.seq (.seq (.region [(S 73 (.bin .eql (T 64) (V 5)) .none), (M 72 73)]) (.cond (T 72) (.exit 4) .skip)) (.seq (.seq (.region [(S 75 (.bin .eql (T 64) (V 6)) .none), (M 74 75)]) (.cond (T 74) (.exit 5) .skip)) (.seq (.seq (.region [(S 77 (.bin .eql (T 64) (V 7)) .none), (M 76 77)]) (.cond (T 76) (.exit 6) .skip)) (.seq (.seq (.region [(S 79 (.bin .eql (T 64) (V 8)) .none), (M 78 79)]) (.cond (T 78) (.exit 7) .skip)) (.seq (.seq (.region [(S 81 (.bin .eql (T 64) (V 9)) .none), (M 80 81)]) (.cond (T 80) (.exit 8) .skip)) (.seq (.seq (.region [(S 83 (.bin .eql (T 64) (V 10)) .none), (M 82 83)]) (.cond (T 82) (.exit 9) .skip)) (.seq (.seq (.region [(S 85 (.bin .eql (T 64) (V 11)) .none), (M 84 85)]) (.cond (T 84) (.exit 10) .skip)) (.seq (.region [(S 87 (.bin .eql (T 64) (V 15)) .none), (M 86 87)]) (.cond (T 86) (.exit 11) .skip)))))))))))) (.exit 0))) (.seq (.region [(M 88 8), (FA 89 2 5), (L1 90 89), (S 91 (.callv (T 88) [(T 90)]) .none), (S 92 (.bin .neq (T 91) (V 0)) .none), (M 93 92), (S 94 (.move (T 8)) (.some (93, .false))), (S 95 (.fieldAddr 3 (T 5)) (.some (93, .false))), (S 96 (.load1 (T 95)) (.some (93, .false))), (S 97 (.callv (T 94) [(T 96)]) (.some (93, .false))), (S 98 (.bin .neq (T 97) (V 0)) (.some (93, .false))), (S 99 (.pick (T 93) (.val (.bool .true)) (T 98)) .none)]) (.cond (T 99) (.seq (.region [(S 6 (.move (.val (.bool .false))) .none)]) .ret) .skip)))) (.seq (.seq (.region [(M 100 8), (FA 101 1 5), (L1 102 101), (S 103 (.callv (T 100) [(T 102)]) .none), (S 104 (.bin .eql (T 103) (V 0)) .none), (M 6 104)]) .ret) (.exit 0)))) (.seq (.seq (.region [(M 105 8), (FA 106 1 5), (L1 107 106), (S 108 (.callv (T 105) [(T 107)]) .none), (S 109 (.bin .neq (T 108) (V 0)) .none), (M 6 109)]) .ret) (.exit 0)))) (.seq (.seq (.region [(M 110 8), (FA 111 1 5), (L1 112 111), (S 113 (.callv (T 110) [(T 112)]) .none), (S 114 (.bin .eql (T 113) (V 1)) .none), (M 6 114)]) .ret) (.exit 0)))) (.seq (.seq (.draw [(L1 115 7), (FA 116 2 5), (L1 117 116), (S 118 (.indexAddr 2 (T 115) (T 117)) .none), (S 119 (.loadN 2 (T 118)) .none), (L1 120 7), (FA 121 1 5), (L1 122 121), (S 123 (.indexAddr 2 (T 120) (T 122)) .none), (S 124 (.loadN 2 (T 123)) .none), (S 125 (.eq .false (.struct [.i, .i]) .false (T 119) (T 124)) .none), (M 6 125)] [N, N, N, N, N, N, N, N, N, N, N, N] 0) .ret) (.exit 0)))) (.seq (.seq (.draw [(M 126 8), (FA 127 2 5), (L1 128 127), (S 129 (.callv (T 126) [(T 128)]) .none), (S 130 (.bin .eql (T 129) (V 1)) .none), (M 131 130), (S 132 (.move (T 0)) (.some (131, .true))), (S 133 (.nilCheck (T 132)) (.some (131, .true))), (S 134 (.fieldAddr 0 (T 133)) (.some (131, .true))), (S 135 (.load1 (T 134)) (.some (131, .true))), (S 136 (.load1 (T 7)) (.some (131, .true))), (S 137 (.fieldAddr 2 (T 5)) (.some (131, .true))), (S 138 (.load1 (T 137)) (.some (131, .true))), (S 139 (.indexAddr 2 (T 136) (T 138)) (.some (131, .true))), (S 140 (.fieldAddr 1 (T 139)) (.some (131, .true))), (S 141 (.load1 (T 140)) (.some (131, .true))), (S 142 (.indexAddr 1 (T 135) (T 141)) (.some (131, .true))), (S 143 (.load1 (T 142)) (.some (131, .true))), (S 144 (.fieldAddr 4 (T 5)) (.some (131, .true))), (S 145 (.load1 (T 144)) (.some (131, .true))), (S 146 (.indexAddr 2 (T 143) (T 145)) (.some (131, .true))), (S 147 (.loadN 2 (T 146)) (.some (131, .true))), (S 148 (.load1 (T 7)) (.some (131, .true))), (S 149 (.fieldAddr 1 (T 5)) (.some (131, .true))), (S 150 (.load1 (T 149)) (.some (131, .true))), (S 151 (.indexAddr 2 (T 148) (T 150)) (.some (131, .true))), (S 152 (.loadN 2 (T 151)) (.some (131, .true))), (S 153 (.eq .false (.struct [.i, .i]) .false (T 147) (T 152)) (.some (131, .true))), (S 154 (.pick (T 131) (T 153) (.val (.bool .false))) .none), (M 6 154)] [N, N, N, Y, N, N, N, N, N, N, N, N, N, N, N, N, N, N, N, N, N, N, N, N, N, N, N, N, N, N] 0) .ret) (.exit 0)))) (.seq (.seq (.draw [(M 155 8), (FA 156 2 5), (L1 157 156), (S 158 (.callv (T 155) [(T 157)]) .none), (S 159 (.bin .eql (T 158) (V 1)) .none), (M 160 159), (S 161 (.move (T 0)) (.some (160, .true))), (S 162 (.nilCheck (T 161)) (.some (160, .true))), (S 163 (.fieldAddr 0 (T 162)) (.some (160, .true))), (S 164 (.load1 (T 163)) (.some (160, .true))), (S 165 (.load1 (T 7)) (.some (160, .true))), (S 166 (.fieldAddr 2 (T 5)) (.some (160, .true))), (S 167 (.load1 (T 166)) (.some (160, .true))), (S 168 (.indexAddr 2 (T 165) (T 167)) (.some (160, .true))), (S 169 (.fieldAddr 1 (T 168)) (.some (160, .true))), (S 170 (.load1 (T 169)) (.some (160, .true))), (S 171 (.indexAddr 1 (T 164) (T 170)) (.some (160, .true))), (S 172 (.load1 (T 171)) (.some (160, .true))), (S 173 (.fieldAddr 4 (T 5)) (.some (160, .true))), (S 174 (.load1 (T 173)) (.some (160, .true))), (S 175 (.indexAddr 2 (T 172) (T 174)) (.some (160, .true))), (S 176 (.loadN 2 (T 175)) (.some (160, .true))), (S 177 (.load1 (T 7)) (.some (160, .true))), (S 178 (.fieldAddr 3 (T 5)) (.some (160, .true))), (S 179 (.load1 (T 178)) (.some (160, .true))), (S 180 (.indexAddr 2 (T 177) (T 179)) (.some (160, .true))), (S 181 (.loadN 2 (T 180)) (.some (160, .true))), (S 182 (.eq .false (.struct [.i, .i]) .false (T 176) (T 181)) (.some (160, .true))), (S 183 (.pick (T 160) (T 182) (.val (.bool .false))) .none), (M 6 183)] [N, N, N, Y, N, N, N, N, N, N, N, N, N, N, N, N, N, N, N, N, N, N, N, N, N, N, N, N, N, N] 0) .ret) (.exit 0)))) (.seq (.seq (.region [(M 184 8), (FA 185 2 5), (L1 186 185), (S 187 (.callv (T 184) [(T 186)]) .none), (S 188 (.bin .eql (T 187) (V 1)) .none), (M 6 188)]) .ret) (.exit 0)))) (.seq (.seq (.region [(M 190 0), (FA 191 4 5), (L1 192 191), (S 193 (.call 157 [(T 190), (T 192)]) .none), (M 189 193), (S 194 (.extract (T 189) 0) .none), (S 195 (.extract (T 189) 1) .none), (M 9 194), (M 10 195)]) (.seq (.region [(M 196 10), (M 197 196), (S 198 (.load1 (T 7)) (.some (197, .true))), (S 199 (.fieldAddr 1 (T 5)) (.some (197, .true))), (S 200 (.load1 (T 199)) (.some (197, .true))), (S 201 (.indexAddr 2 (T 198) (T 200)) (.some (197, .true))), (S 202 (.loadN 2 (T 201)) (.some (197, .true))), (S 203 (.move (T 9)) (.some (197, .true))), (S 204 (.build [(Z 0), (Z 0)] [(0, (1, (V 2))), (1, (1, (T 203)))]) (.some (197, .true))), (S 205 (.eq .false (.struct [.i, .i]) .false (T 202) (T 204)) (.some (197, .true))), (S 206 (.pick (T 197) (T 205) (.val (.bool .false))) .none), (M 6 206)]) .ret)) (.exit 0)))) (.seq (.seq (.draw [(M 207 8), (FA 208 1 5), (L1 209 208), (S 210 (.callv (T 207) [(T 209)]) .none), (S 211 (.bin .eql (T 210) (V 3)) .none), (M 212 211), (S 213 (.move (T 8)) (.some (212, .true))), (S 214 (.fieldAddr 2 (T 5)) (.some (212, .true))), (S 215 (.load1 (T 214)) (.some (212, .true))), (S 216 (.callv (T 213) [(T 215)]) (.some (212, .true))), (S 217 (.bin .eql (T 216) (V 1)) (.some (212, .true))), (S 218 (.pick (T 212) (T 217) (.val (.bool .false))) .none), (M 219 218), (S 220 (.move (T 0)) (.some (219, .true))), (S 221 (.load1 (T 7)) (.some (219, .true))), (S 222 (.fieldAddr 2 (T 5)) (.some (219, .true))), (S 223 (.load1 (T 222)) (.some (219, .true))), (S 224 (.indexAddr 2 (T 221) (T 223)) (.some (219, .true))), (S 225 (.fieldAddr 1 (T 224)) (.some (219, .true))), (S 226 (.load1 (T 225)) (.some (219, .true))), (S 227 (.load1 (T 7)) (.some (219, .true))), (S 228 (.fieldAddr 1 (T 5)) (.some (219, .true))), (S 229 (.load1 (T 228)) (.some (219, .true))), (S 230 (.indexAddr 2 (T 227) (T 229)) (.some (219, .true))), (S 231 (.fieldAddr 1 (T 230)) (.some (219, .true))), (S 232 (.load1 (T 231)) (.some (219, .true))), (S 233 (.call 126 [(T 220), (T 226), (T 232)]) (.some (219, .true))), (S 234 (.bin .geq (T 233) (V 0)) (.some (219, .true))), (S 235 (.pick (T 219) (T 234) (.val (.bool .false))) .none), (M 6 235)] [N, N, N, Y, N, N, N, N, N, Y, N, N, N, N, N, N, N, N, N, N, N, N, N, N, N, N, Y, N, N, N] 0) .ret) (.exit 0)))) (.seq (.seq (.region [(M 236 8), (FA 237 2 5), (L1 238 237), (S 239 (.callv (T 236) [(T 238)]) .none), (S 240 (.bin .eql (T 239) (V 0)) .none), (M 6 240)]) .ret) (.exit 0))))) (.seq (.region [(M 241 0), (L1 242 7), (S 243 (.loadN 6 (T 5)) .none), (S 244 (.call 158 [(T 241), (T 242), (T 243)]) .none), (M 6 244)]) .ret)))))))
abbrev f130.Js : Type := ((((((AVal → AVal → AVal → AHeap → Rs) × (AVal → AVal → AVal → AHeap → Rs)) × ((AVal → AVal → AHeap → Rs) × (AVal → AVal → AVal → AVal → AHeap → Rs))) × (((AVal → AVal → AVal → AHeap → Rs) × (AVal → AVal → AHeap → Rs)) × ((AVal → AVal → AVal → AVal → AHeap → Rs) × (AVal → AVal → AVal → AVal → AHeap → Rs)))) × ((((AVal → AVal → AHeap → Rs) × (AVal → AVal → AHeap → Rs)) × ((AVal → AVal → AHeap → Rs) × (AVal → AVal → AHeap → Rs))) × (((AVal → AVal → AHeap → Rs) × (AVal → AVal → AVal → AHeap → Rs)) × ((AVal → AVal → AVal → AVal → AVal → AHeap → Rs) × ((AVal → AVal → AVal → AVal → AVal → AHeap → Rs) × (AVal → AVal → AVal → AVal → AVal → AVal → AHeap → Rs)))))) × (((((AVal → AVal → AVal → AVal → AVal → AHeap → Rs) × (AVal → AVal → AVal → AVal → AVal → AHeap → Rs)) × ((AVal → AVal → AVal → AVal → AVal → AHeap → Rs) × (AVal → AVal → AVal → AVal → AVal → AHeap → Rs))) × (((AVal → AVal → AVal → AVal → AVal → AHeap → Rs) × (AVal → AVal → AVal → AVal → AVal → AHeap → Rs)) × ((AVal → AVal → AVal → AVal → AVal → AHeap → Rs) × ((AVal → AVal → AVal → AVal → AVal → AHeap → Rs) × (AVal → AVal → AVal → AHeap → Rs))))) × ((((AVal → AVal → AVal → AHeap → Rs) × (AVal → AVal → AVal → AHeap → Rs)) × ((AVal → AVal → AVal → AHeap → Rs) × (AVal → AVal → AVal → AHeap → Rs))) × (((AVal → AVal → AVal → AHeap → Rs) × (AVal → AVal → AVal → AHeap → Rs)) × ((AVal → AVal → AVal → AHeap → Rs) × ((AVal → AVal → AVal → AHeap → Rs) × (AVal → AVal → AVal → AHeap → Rs)))))))
noncomputable def f130.b0 (I : Inp) (call : CallFn) (j : f130.Js) (v0 v1 v5 : AVal) (h : AHeap) : Rs :=
  bndP (pNilCheck v0) fun v55 =>
  bndP (pFieldAddr 4 v55) fun v56 =>
  bndP (pLoad1 I v56 h) fun v57 =>
  bndP (pIndexAddr 3 v57 v1) fun v59 =>
  bndP (pFieldAddr 1 v59) fun v60 =>
  bndP (pLoad1 I v60 h) fun v61 =>
  bnd (sAlloc [.nils] h) fun v7 h1 =>
  bnd (sStore 1 v7 v61 h1) fun _ h2 =>
  bndP (pFieldAddr 0 v5) fun v63 =>
  bndP (pLoad1 I v63 h2) fun v64 =>
  bndP (pBin .eql v64 (Z 2)) fun v66 =>
  sCond v66 (
  j.1.2.2.2.1 v0 v5 v7 (.func (.func 156) [] [v7]) v64 h2) (
  j.1.2.2.1.1 v5 (.func (.func 156) [] [v7]) h2)
noncomputable def f130.b1 (I : Inp) (call : CallFn) (j : f130.Js) (v0 v5 v7 : AVal) (h : AHeap) : Rs :=
  bndP (pLoad1 I v7 h) fun v242 =>
  bndP (pLoadN I 6 v5 h) fun v243 =>
  bnd (call 158 [v0, v242, v243] h) fun v244 h1 =>
  some (v244, h1)
noncomputable def f130.b2 (I : Inp) (call : CallFn) (j : f130.Js) (v5 v8 : AVal) (h : AHeap) : Rs :=
  bndP (pFieldAddr 2 v5) fun v237 =>
  bndP (pLoad1 I v237 h) fun v238 =>
  bnd (sCallv call v8 [v238] h) fun v239 h1 =>
  bndP (pBin .eql v239 (Z 0)) fun v240 =>
  some (v240, h1)
noncomputable def f130.b3 (I : Inp) (call : CallFn) (j : f130.Js) (v0 v5 v7 v8 : AVal) (h : AHeap) : Rs :=
  bndP (pFieldAddr 1 v5) fun v208 =>
  bndP (pLoad1 I v208 h) fun v209 =>
  bnd (sCallv call v8 [v209] h) fun v210 h1 =>
  bndP (pBin .eql v210 (Z 3)) fun v211 =>
  bnd (sGuard v211 .true (some (v8, h1)) h1) fun v213 h2 =>
  bnd (sGuard v211 .true (lift (pFieldAddr 2 v5) h2) h2) fun v214 h3 =>
  bnd (sGuard v211 .true (lift (pLoad1 I v214 h3) h3) h3) fun v215 h4 =>
  bnd (sGuard v211 .true (sCallv call v213 [v215] h4) h4) fun v216 h5 =>
  bnd (sGuard v211 .true (lift (pBin .eql v216 (Z 1)) h5) h5) fun v217 h6 =>
  bndP (pPick v211 v217 (.bool .false)) fun v218 =>
  bnd (sGuard v218 .true (some (v0, h6)) h6) fun v220 h7 =>
  bnd (sGuard v218 .true (lift (pLoad1 I v7 h7) h7) h7) fun v221 h8 =>
  bnd (sGuard v218 .true (lift (pFieldAddr 2 v5) h8) h8) fun v222 h9 =>
  bnd (sGuard v218 .true (lift (pLoad1 I v222 h9) h9) h9) fun v223 h10 =>
  bnd (sGuard v218 .true (lift (pIndexAddr 2 v221 v223) h10) h10) fun v224 h11 =>
  bnd (sGuard v218 .true (lift (pFieldAddr 1 v224) h11) h11) fun v225 h12 =>
  bnd (sGuard v218 .true (lift (pLoad1 I v225 h12) h12) h12) fun v226 h13 =>
  bnd (sGuard v218 .true (lift (pLoad1 I v7 h13) h13) h13) fun v227 h14 =>
  bnd (sGuard v218 .true (lift (pFieldAddr 1 v5) h14) h14) fun v228 h15 =>
  bnd (sGuard v218 .true (lift (pLoad1 I v228 h15) h15) h15) fun v229 h16 =>
  bnd (sGuard v218 .true (lift (pIndexAddr 2 v227 v229) h16) h16) fun v230 h17 =>
  bnd (sGuard v218 .true (lift (pFieldAddr 1 v230) h17) h17) fun v231 h18 =>
  bnd (sGuard v218 .true (lift (pLoad1 I v231 h18) h18) h18) fun v232 h19 =>
  bnd (sGuard v218 .true (call 126 [v220, v226, v232] h19) h19) fun v233 h20 =>
  bnd (sGuard v218 .true (lift (pBin .geq v233 (Z 0)) h20) h20) fun v234 h21 =>
  bndP (pPick v218 v234 (.bool .false)) fun v235 =>
  some (v235, h21)
noncomputable def f130.b4 (I : Inp) (call : CallFn) (j : f130.Js) (v0 v5 v7 : AVal) (h : AHeap) : Rs :=
  bndP (pFieldAddr 4 v5) fun v191 =>
  bndP (pLoad1 I v191 h) fun v192 =>
  bnd (call 157 [v0, v192] h) fun v193 h1 =>
  bndP (pExtract v193 0) fun v194 =>
  bndP (pExtract v193 1) fun v195 =>
  bnd (sGuard v195 .true (lift (pLoad1 I v7 h1) h1) h1) fun v198 h2 =>
  bnd (sGuard v195 .true (lift (pFieldAddr 1 v5) h2) h2) fun v199 h3 =>
  bnd (sGuard v195 .true (lift (pLoad1 I v199 h3) h3) h3) fun v200 h4 =>
  bnd (sGuard v195 .true (lift (pIndexAddr 2 v198 v200) h4) h4) fun v201 h5 =>
  bnd (sGuard v195 .true (lift (pLoadN I 2 v201 h5) h5) h5) fun v202 h6 =>
  bnd (sGuard v195 .true (some (v194, h6)) h6) fun v203 h7 =>
  bnd (sGuard v195 .true (lift (pBuild [(Z 0), (Z 0)] [(0, 1, (Z 2)), (1, 1, v203)]) h7) h7) fun v204 h8 =>
  bnd (sGuard v195 .true (lift (pEq P .false (.struct [.i, .i]) .false v202 v204 h8) h8) h8) fun v205 h9 =>
  bndP (pPick v195 v205 (.bool .false)) fun v206 =>
  some (v206, h9)
noncomputable def f130.b5 (I : Inp) (call : CallFn) (j : f130.Js) (v5 v8 : AVal) (h : AHeap) : Rs :=
  bndP (pFieldAddr 2 v5) fun v185 =>
  bndP (pLoad1 I v185 h) fun v186 =>
  bnd (sCallv call v8 [v186] h) fun v187 h1 =>
  bndP (pBin .eql v187 (Z 1)) fun v188 =>
  some (v188, h1)
noncomputable def f130.b6 (I : Inp) (call : CallFn) (j : f130.Js) (v0 v5 v7 v8 : AVal) (h : AHeap) : Rs :=
  bndP (pFieldAddr 2 v5) fun v156 =>
  bndP (pLoad1 I v156 h) fun v157 =>
  bnd (sCallv call v8 [v157] h) fun v158 h1 =>
  bndP (pBin .eql v158 (Z 1)) fun v159 =>
  bnd (sGuard v159 .true (some (v0, h1)) h1) fun v161 h2 =>
  bnd (sGuard v159 .true (lift (pNilCheck v161) h2) h2) fun v162 h3 =>
  bnd (sGuard v159 .true (lift (pFieldAddr 0 v162) h3) h3) fun v163 h4 =>
  bnd (sGuard v159 .true (lift (pLoad1 I v163 h4) h4) h4) fun v164 h5 =>
  bnd (sGuard v159 .true (lift (pLoad1 I v7 h5) h5) h5) fun v165 h6 =>
  bnd (sGuard v159 .true (lift (pFieldAddr 2 v5) h6) h6) fun v166 h7 =>
  bnd (sGuard v159 .true (lift (pLoad1 I v166 h7) h7) h7) fun v167 h8 =>
  bnd (sGuard v159 .true (lift (pIndexAddr 2 v165 v167) h8) h8) fun v168 h9 =>
  bnd (sGuard v159 .true (lift (pFieldAddr 1 v168) h9) h9) fun v169 h10 =>
  bnd (sGuard v159 .true (lift (pLoad1 I v169 h10) h10) h10) fun v170 h11 =>
  bnd (sGuard v159 .true (lift (pIndexAddr 1 v164 v170) h11) h11) fun v171 h12 =>
  bnd (sGuard v159 .true (lift (pLoad1 I v171 h12) h12) h12) fun v172 h13 =>
  bnd (sGuard v159 .true (lift (pFieldAddr 4 v5) h13) h13) fun v173 h14 =>
  bnd (sGuard v159 .true (lift (pLoad1 I v173 h14) h14) h14) fun v174 h15 =>
  bnd (sGuard v159 .true (lift (pIndexAddr 2 v172 v174) h15) h15) fun v175 h16 =>
  bnd (sGuard v159 .true (lift (pLoadN I 2 v175 h16) h16) h16) fun v176 h17 =>
  bnd (sGuard v159 .true (lift (pLoad1 I v7 h17) h17) h17) fun v177 h18 =>
  bnd (sGuard v159 .true (lift (pFieldAddr 3 v5) h18) h18) fun v178 h19 =>
  bnd (sGuard v159 .true (lift (pLoad1 I v178 h19) h19) h19) fun v179 h20 =>
  bnd (sGuard v159 .true (lift (pIndexAddr 2 v177 v179) h20) h20) fun v180 h21 =>
  bnd (sGuard v159 .true (lift (pLoadN I 2 v180 h21) h21) h21) fun v181 h22 =>
  bnd (sGuard v159 .true (lift (pEq P .false (.struct [.i, .i]) .false v176 v181 h22) h22) h22) fun v182 h23 =>
  bndP (pPick v159 v182 (.bool .false)) fun v183 =>
  some (v183, h23)
noncomputable def f130.b7 (I : Inp) (call : CallFn) (j : f130.Js) (v0 v5 v7 v8 : AVal) (h : AHeap) : Rs :=
  bndP (pFieldAddr 2 v5) fun v127 =>
  bndP (pLoad1 I v127 h) fun v128 =>
  bnd (sCallv call v8 [v128] h) fun v129 h1 =>
  bndP (pBin .eql v129 (Z 1)) fun v130 =>
  bnd (sGuard v130 .true (some (v0, h1)) h1) fun v132 h2 =>
  bnd (sGuard v130 .true (lift (pNilCheck v132) h2) h2) fun v133 h3 =>
  bnd (sGuard v130 .true (lift (pFieldAddr 0 v133) h3) h3) fun v134 h4 =>
  bnd (sGuard v130 .true (lift (pLoad1 I v134 h4) h4) h4) fun v135 h5 =>
  bnd (sGuard v130 .true (lift (pLoad1 I v7 h5) h5) h5) fun v136 h6 =>
  bnd (sGuard v130 .true (lift (pFieldAddr 2 v5) h6) h6) fun v137 h7 =>
  bnd (sGuard v130 .true (lift (pLoad1 I v137 h7) h7) h7) fun v138 h8 =>
  bnd (sGuard v130 .true (lift (pIndexAddr 2 v136 v138) h8) h8) fun v139 h9 =>
  bnd (sGuard v130 .true (lift (pFieldAddr 1 v139) h9) h9) fun v140 h10 =>
  bnd (sGuard v130 .true (lift (pLoad1 I v140 h10) h10) h10) fun v141 h11 =>
  bnd (sGuard v130 .true (lift (pIndexAddr 1 v135 v141) h11) h11) fun v142 h12 =>
  bnd (sGuard v130 .true (lift (pLoad1 I v142 h12) h12) h12) fun v143 h13 =>
  bnd (sGuard v130 .true (lift (pFieldAddr 4 v5) h13) h13) fun v144 h14 =>
  bnd (sGuard v130 .true (lift (pLoad1 I v144 h14) h14) h14) fun v145 h15 =>
  bnd (sGuard v130 .true (lift (pIndexAddr 2 v143 v145) h15) h15) fun v146 h16 =>
  bnd (sGuard v130 .true (lift (pLoadN I 2 v146 h16) h16) h16) fun v147 h17 =>
  bnd (sGuard v130 .true (lift (pLoad1 I v7 h17) h17) h17) fun v148 h18 =>
  bnd (sGuard v130 .true (lift (pFieldAddr 1 v5) h18) h18) fun v149 h19 =>
  bnd (sGuard v130 .true (lift (pLoad1 I v149 h19) h19) h19) fun v150 h20 =>
  bnd (sGuard v130 .true (lift (pIndexAddr 2 v148 v150) h20) h20) fun v151 h21 =>
  bnd (sGuard v130 .true (lift (pLoadN I 2 v151 h21) h21) h21) fun v152 h22 =>
  bnd (sGuard v130 .true (lift (pEq P .false (.struct [.i, .i]) .false v147 v152 h22) h22) h22) fun v153 h23 =>
  bndP (pPick v130 v153 (.bool .false)) fun v154 =>
  some (v154, h23)
noncomputable def f130.b8 (I : Inp) (call : CallFn) (j : f130.Js) (v5 v7 : AVal) (h : AHeap) : Rs :=
  bndP (pLoad1 I v7 h) fun v115 =>
  bndP (pFieldAddr 2 v5) fun v116 =>
  bndP (pLoad1 I v116 h) fun v117 =>
  bndP (pIndexAddr 2 v115 v117) fun v118 =>
  bndP (pLoadN I 2 v118 h) fun v119 =>
  bndP (pLoad1 I v7 h) fun v120 =>
  bndP (pFieldAddr 1 v5) fun v121 =>
  bndP (pLoad1 I v121 h) fun v122 =>
  bndP (pIndexAddr 2 v120 v122) fun v123 =>
  bndP (pLoadN I 2 v123 h) fun v124 =>
  bndP (pEq P .false (.struct [.i, .i]) .false v119 v124 h) fun v125 =>
  some (v125, h)
noncomputable def f130.b9 (I : Inp) (call : CallFn) (j : f130.Js) (v5 v8 : AVal) (h : AHeap) : Rs :=
  bndP (pFieldAddr 1 v5) fun v111 =>
  bndP (pLoad1 I v111 h) fun v112 =>
  bnd (sCallv call v8 [v112] h) fun v113 h1 =>
  bndP (pBin .eql v113 (Z 1)) fun v114 =>
  some (v114, h1)
noncomputable def f130.b10 (I : Inp) (call : CallFn) (j : f130.Js) (v5 v8 : AVal) (h : AHeap) : Rs :=
  bndP (pFieldAddr 1 v5) fun v106 =>
  bndP (pLoad1 I v106 h) fun v107 =>
  bnd (sCallv call v8 [v107] h) fun v108 h1 =>
  bndP (pBin .neq v108 (Z 0)) fun v109 =>
  some (v109, h1)
noncomputable def f130.b11 (I : Inp) (call : CallFn) (j : f130.Js) (v5 v8 : AVal) (h : AHeap) : Rs :=
  bndP (pFieldAddr 1 v5) fun v101 =>
  bndP (pLoad1 I v101 h) fun v102 =>
  bnd (sCallv call v8 [v102] h) fun v103 h1 =>
  bndP (pBin .eql v103 (Z 0)) fun v104 =>
  some (v104, h1)
noncomputable def f130.b12 (I : Inp) (call : CallFn) (j : f130.Js) (v5 v8 : AVal) (h : AHeap) : Rs :=
  bndP (pFieldAddr 2 v5) fun v89 =>
  bndP (pLoad1 I v89 h) fun v90 =>
  bnd (sCallv call v8 [v90] h) fun v91 h1 =>
  bndP (pBin .neq v91 (Z 0)) fun v92 =>
  bnd (sGuard v92 .false (some (v8, h1)) h1) fun v94 h2 =>
  bnd (sGuard v92 .false (lift (pFieldAddr 3 v5) h2) h2) fun v95 h3 =>
  bnd (sGuard v92 .false (lift (pLoad1 I v95 h3) h3) h3) fun v96 h4 =>
  bnd (sGuard v92 .false (sCallv call v94 [v96] h4) h4) fun v97 h5 =>
  bnd (sGuard v92 .false (lift (pBin .neq v97 (Z 0)) h5) h5) fun v98 h6 =>
  bndP (pPick v92 (.bool .true) v98) fun v99 =>
  sCond v99 (
  j.1.2.1.2.2 v5 v8 h6) (
  some ((.bool .false), h6))
noncomputable def f130.b13 (I : Inp) (call : CallFn) (j : f130.Js) (v0 v5 v7 : AVal) (h : AHeap) : Rs :=
  j.1.1.1.1.2 v0 v5 v7 h
noncomputable def f130.b14 (I : Inp) (call : CallFn) (j : f130.Js) (v0 v5 v7 v8 v64 : AVal) (h : AHeap) : Rs :=
  bndP (pBin .eql v64 (Z 1)) fun v68 =>
  sCond v68 (
  bndP (pBin .eql v64 (Z 3)) fun v69 =>
  j.1.2.2.2.2.2 v0 v5 v7 v8 v64 v69 h) (
  j.1.2.2.2.2.2 v0 v5 v7 v8 v64 v68 h)
noncomputable def f130.b15 (I : Inp) (call : CallFn) (j : f130.Js) (v0 v5 v7 v8 v64 : AVal) (h : AHeap) : Rs :=
  bndP (pBin .eql v64 (Z 4)) fun v71 =>
  sCond v71 (
  j.2.1.1.1.1 v0 v5 v7 v8 v64 h) (
  j.1.2.1.2.1 v5 v8 h)
noncomputable def f130.b16 (I : Inp) (call : CallFn) (j : f130.Js) (v0 v5 v7 v8 v64 v67 : AVal) (h : AHeap) : Rs :=
  sCond v67 (
  j.1.2.2.2.2.1 v0 v5 v7 v8 v64 h) (
  j.1.2.1.2.2 v5 v8 h)
noncomputable def f130.b17 (I : Inp) (call : CallFn) (j : f130.Js) (v0 v5 v7 v8 v64 : AVal) (h : AHeap) : Rs :=
  bndP (pBin .eql v64 (Z 5)) fun v73 =>
  sCond v73 (
  j.2.1.1.1.2 v0 v5 v7 v8 v64 h) (
  j.1.2.1.1.2 v5 v8 h)
noncomputable def f130.b18 (I : Inp) (call : CallFn) (j : f130.Js) (v0 v5 v7 v8 v64 : AVal) (h : AHeap) : Rs :=
  bndP (pBin .eql v64 (Z 6)) fun v75 =>
  sCond v75 (
  j.2.1.1.2.1 v0 v5 v7 v8 v64 h) (
  j.1.2.1.1.1 v5 v7 h)
noncomputable def f130.b19 (I : Inp) (call : CallFn) (j : f130.Js) (v0 v5 v7 v8 v64 : AVal) (h : AHeap) : Rs :=
  bndP (pBin .eql v64 (Z 7)) fun v77 =>
  sCond v77 (
  j.2.1.1.2.2 v0 v5 v7 v8 v64 h) (
  j.1.1.2.2.2 v0 v5 v7 v8 h)
noncomputable def f130.b20 (I : Inp) (call : CallFn) (j : f130.Js) (v0 v5 v7 v8 v64 : AVal) (h : AHeap) : Rs :=
  bndP (pBin .eql v64 (Z 8)) fun v79 =>
  sCond v79 (
  j.2.1.2.1.1 v0 v5 v7 v8 v64 h) (
  j.1.1.2.2.1 v0 v5 v7 v8 h)
noncomputable def f130.b21 (I : Inp) (call : CallFn) (j : f130.Js) (v0 v5 v7 v8 v64 : AVal) (h : AHeap) : Rs :=
  bndP (pBin .eql v64 (Z 9)) fun v81 =>
  sCond v81 (
  j.2.1.2.1.2 v0 v5 v7 v8 v64 h) (
  j.1.1.2.1.2 v5 v8 h)
noncomputable def f130.b22 (I : Inp) (call : CallFn) (j : f130.Js) (v0 v5 v7 v8 v64 : AVal) (h : AHeap) : Rs :=
  bndP (pBin .eql v64 (Z 10)) fun v83 =>
  sCond v83 (
  j.2.1.2.2.1 v0 v5 v7 v8 v64 h) (
  j.1.1.2.1.1 v0 v5 v7 h)
noncomputable def f130.b23 (I : Inp) (call : CallFn) (j : f130.Js) (v0 v5 v7 v8 v64 : AVal) (h : AHeap) : Rs :=
  bndP (pBin .eql v64 (Z 11)) fun v85 =>
  sCond v85 (
  j.2.1.2.2.2.1 v0 v5 v7 v8 v64 h) (
  j.1.1.1.2.2 v0 v5 v7 v8 h)
noncomputable def f130.b24 (I : Inp) (call : CallFn) (j : f130.Js) (v0 v5 v7 v8 v64 : AVal) (h : AHeap) : Rs :=
  bndP (pBin .eql v64 (Z 15)) fun v87 =>
  sCond v87 (
  j.1.2.2.1.2 v0 v5 v7 h) (
  j.1.1.1.2.1 v5 v8 h)
noncomputable def f130.b25 (I : Inp) (call : CallFn) (j : f130.Js) (v0 v5 v7 : AVal) (h : AHeap) : Rs :=
  j.1.1.1.1.2 v0 v5 v7 h
noncomputable def f130.b26 (I : Inp) (call : CallFn) (j : f130.Js) (v0 v5 v7 : AVal) (h : AHeap) : Rs :=
  j.1.1.1.1.2 v0 v5 v7 h
noncomputable def f130.b27 (I : Inp) (call : CallFn) (j : f130.Js) (v0 v5 v7 : AVal) (h : AHeap) : Rs :=
  j.1.1.1.1.2 v0 v5 v7 h
noncomputable def f130.b28 (I : Inp) (call : CallFn) (j : f130.Js) (v0 v5 v7 : AVal) (h : AHeap) : Rs :=
  j.1.1.1.1.2 v0 v5 v7 h
noncomputable def f130.b29 (I : Inp) (call : CallFn) (j : f130.Js) (v0 v5 v7 : AVal) (h : AHeap) : Rs :=
  j.1.1.1.1.2 v0 v5 v7 h
noncomputable def f130.b30 (I : Inp) (call : CallFn) (j : f130.Js) (v0 v5 v7 : AVal) (h : AHeap) : Rs :=
  j.1.1.1.1.2 v0 v5 v7 h
noncomputable def f130.b31 (I : Inp) (call : CallFn) (j : f130.Js) (v0 v5 v7 : AVal) (h : AHeap) : Rs :=
  j.1.1.1.1.2 v0 v5 v7 h
noncomputable def f130.b32 (I : Inp) (call : CallFn) (j : f130.Js) (v0 v5 v7 : AVal) (h : AHeap) : Rs :=
  j.1.1.1.1.2 v0 v5 v7 h
noncomputable def f130.b33 (I : Inp) (call : CallFn) (j : f130.Js) (v0 v5 v7 : AVal) (h : AHeap) : Rs :=
  j.1.1.1.1.2 v0 v5 v7 h
noncomputable def f130.b34 (I : Inp) (call : CallFn) (j : f130.Js) (v0 v5 v7 : AVal) (h : AHeap) : Rs :=
  j.1.1.1.1.2 v0 v5 v7 h
noncomputable def f130.e (I : Inp) (call : CallFn) (j : f130.Js) (v0 v1 v2 : AVal) (h : AHeap) : Rs :=
  bnd (sBox v2 h) fun v5 h1 =>
  bndP (pEq P .false .ptr .true v0 .nilp h1) fun v12 =>
  bnd (sGuard v12 .false (some (v1, h1)) h1) fun v14 h2 =>
  bnd (sGuard v12 .false (some (v0, h2)) h2) fun v15 h3 =>
  bnd (sGuard v12 .false (lift (pNilCheck v15) h3) h3) fun v16 h4 =>
  bnd (sGuard v12 .false (lift (pFieldAddr 4 v16) h4) h4) fun v17 h5 =>
  bnd (sGuard v12 .false (lift (pLoad1 I v17 h5) h5) h5) fun v18 h6 =>
  bnd (sGuard v12 .false (lift (pLenSl v18) h6) h6) fun v19 h7 =>
  bnd (sGuard v12 .false (call 119 [v14, v19] h7) h7) fun v20 h8 =>
  bnd (sGuard v12 .false (lift (pUn .not v20) h8) h8) fun v21 h9 =>
  bndP (pPick v12 (.bool .true) v21) fun v22 =>
  bnd (sGuard v22 .false (some (v0, h9)) h9) fun v24 h10 =>
  bnd (sGuard v22 .false (call 118 [v24] h10) h10) fun v25 h11 =>
  bnd (sGuard v22 .false (lift (pUn .not v25) h11) h11) fun v26 h12 =>
  bndP (pPick v22 (.bool .true) v26) fun v27 =>
  bnd (sGuard v27 .false (some (v0, h12)) h12) fun v29 h13 =>
  bnd (sGuard v27 .false (some (v0, h13)) h13) fun v30 h14 =>
  bnd (sGuard v27 .false (lift (pNilCheck v30) h14) h14) fun v31 h15 =>
  bnd (sGuard v27 .false (lift (pFieldAddr 4 v31) h15) h15) fun v32 h16 =>
  bnd (sGuard v27 .false (lift (pLoad1 I v32 h16) h16) h16) fun v33 h17 =>
  bnd (sGuard v27 .false (some (v1, h17)) h17) fun v34 h18 =>
  bnd (sGuard v27 .false (lift (pIndexAddr 3 v33 v34) h18) h18) fun v35 h19 =>
  bnd (sGuard v27 .false (lift (pFieldAddr 1 v35) h19) h19) fun v36 h20 =>
  bnd (sGuard v27 .false (lift (pLoad1 I v36 h20) h20) h20) fun v37 h21 =>
  bnd (sGuard v27 .false (call 120 [v29, v37] h21) h21) fun v38 h22 =>
  bnd (sGuard v27 .false (lift (pUn .not v38) h22) h22) fun v39 h23 =>
  bndP (pPick v27 (.bool .true) v39) fun v40 =>
  bnd (sGuard v40 .false (some (v0, h23)) h23) fun v42 h24 =>
  bnd (sGuard v40 .false (some (v0, h24)) h24) fun v43 h25 =>
  bnd (sGuard v40 .false (lift (pNilCheck v43) h25) h25) fun v44 h26 =>
  bnd (sGuard v40 .false (lift (pFieldAddr 4 v44) h26) h26) fun v45 h27 =>
  bnd (sGuard v40 .false (lift (pLoad1 I v45 h27) h27) h27) fun v46 h28 =>
  bnd (sGuard v40 .false (some (v1, h28)) h28) fun v47 h29 =>
  bnd (sGuard v40 .false (lift (pIndexAddr 3 v46 v47) h29) h29) fun v48 h30 =>
  bnd (sGuard v40 .false (lift (pLoadN I 3 v48 h30) h30) h30) fun v49 h31 =>
  bnd (sGuard v40 .false (lift (pLoadN I 6 v5 h31) h31) h31) fun v50 h32 =>
  bnd (sGuard v40 .false (call 123 [v42, v49, v50] h32) h32) fun v51 h33 =>
  bnd (sGuard v40 .false (lift (pUn .not v51) h33) h33) fun v52 h34 =>
  bndP (pPick v40 (.bool .true) v52) fun v53 =>
  sCond v53 (
  j.1.1.1.1.1 v0 v1 v5 h34) (
  some ((.bool .false), h34))
noncomputable def f130.J (I : Inp) (call : CallFn) (n : Nat) : f130.Js :=
  Nat.rec (motive := fun _ => f130.Js) ((((((fun _ _ _ _ => none), (fun _ _ _ _ => none)), ((fun _ _ _ => none), (fun _ _ _ _ _ => none))), (((fun _ _ _ _ => none), (fun _ _ _ => none)), ((fun _ _ _ _ _ => none), (fun _ _ _ _ _ => none)))), ((((fun _ _ _ => none), (fun _ _ _ => none)), ((fun _ _ _ => none), (fun _ _ _ => none))), (((fun _ _ _ => none), (fun _ _ _ _ => none)), ((fun _ _ _ _ _ _ => none), ((fun _ _ _ _ _ _ => none), (fun _ _ _ _ _ _ _ => none)))))), (((((fun _ _ _ _ _ _ => none), (fun _ _ _ _ _ _ => none)), ((fun _ _ _ _ _ _ => none), (fun _ _ _ _ _ _ => none))), (((fun _ _ _ _ _ _ => none), (fun _ _ _ _ _ _ => none)), ((fun _ _ _ _ _ _ => none), ((fun _ _ _ _ _ _ => none), (fun _ _ _ _ => none))))), ((((fun _ _ _ _ => none), (fun _ _ _ _ => none)), ((fun _ _ _ _ => none), (fun _ _ _ _ => none))), (((fun _ _ _ _ => none), (fun _ _ _ _ => none)), ((fun _ _ _ _ => none), ((fun _ _ _ _ => none), (fun _ _ _ _ => none))))))) (fun _ ih => (((((f130.b0 I call ih, f130.b1 I call ih), (f130.b2 I call ih, f130.b3 I call ih)), ((f130.b4 I call ih, f130.b5 I call ih), (f130.b6 I call ih, f130.b7 I call ih))), (((f130.b8 I call ih, f130.b9 I call ih), (f130.b10 I call ih, f130.b11 I call ih)), ((f130.b12 I call ih, f130.b13 I call ih), (f130.b14 I call ih, (f130.b15 I call ih, f130.b16 I call ih))))), ((((f130.b17 I call ih, f130.b18 I call ih), (f130.b19 I call ih, f130.b20 I call ih)), ((f130.b21 I call ih, f130.b22 I call ih), (f130.b23 I call ih, (f130.b24 I call ih, f130.b25 I call ih)))), (((f130.b26 I call ih, f130.b27 I call ih), (f130.b28 I call ih, f130.b29 I call ih)), ((f130.b30 I call ih, f130.b31 I call ih), (f130.b32 I call ih, (f130.b33 I call ih, f130.b34 I call ih))))))) n
noncomputable def f130.JS (I : Inp) (call : CallFn) (n : Nat) : Jmp := fun id ρ h =>
  (Bool.rec (motive := fun _ => _) (Bool.rec (motive := fun _ => _) (Bool.rec (motive := fun _ => _) (Bool.rec (motive := fun _ => _) (Bool.rec (motive := fun _ => _) (Bool.rec (motive := fun _ => _) ((f130.J I call n).2.2.2.2.2.2 (ρ 0) (ρ 5) (ρ 7) h) ((f130.J I call n).2.2.2.2.2.1 (ρ 0) (ρ 5) (ρ 7) h) (Nat.blt id 34)) ((f130.J I call n).2.2.2.2.1 (ρ 0) (ρ 5) (ρ 7) h) (Nat.blt id 33)) (Bool.rec (motive := fun _ => _) ((f130.J I call n).2.2.2.1.2 (ρ 0) (ρ 5) (ρ 7) h) ((f130.J I call n).2.2.2.1.1 (ρ 0) (ρ 5) (ρ 7) h) (Nat.blt id 31)) (Nat.blt id 32)) (Bool.rec (motive := fun _ => _) (Bool.rec (motive := fun _ => _) ((f130.J I call n).2.2.1.2.2 (ρ 0) (ρ 5) (ρ 7) h) ((f130.J I call n).2.2.1.2.1 (ρ 0) (ρ 5) (ρ 7) h) (Nat.blt id 29)) (Bool.rec (motive := fun _ => _) ((f130.J I call n).2.2.1.1.2 (ρ 0) (ρ 5) (ρ 7) h) ((f130.J I call n).2.2.1.1.1 (ρ 0) (ρ 5) (ρ 7) h) (Nat.blt id 27)) (Nat.blt id 28)) (Nat.blt id 30)) (Bool.rec (motive := fun _ => _) (Bool.rec (motive := fun _ => _) (Bool.rec (motive := fun _ => _) (Bool.rec (motive := fun _ => _) ((f130.J I call n).2.1.2.2.2.2 (ρ 0) (ρ 5) (ρ 7) h) ((f130.J I call n).2.1.2.2.2.1 (ρ 0) (ρ 5) (ρ 7) (ρ 8) (ρ 64) h) (Nat.blt id 25)) ((f130.J I call n).2.1.2.2.1 (ρ 0) (ρ 5) (ρ 7) (ρ 8) (ρ 64) h) (Nat.blt id 24)) (Bool.rec (motive := fun _ => _) ((f130.J I call n).2.1.2.1.2 (ρ 0) (ρ 5) (ρ 7) (ρ 8) (ρ 64) h) ((f130.J I call n).2.1.2.1.1 (ρ 0) (ρ 5) (ρ 7) (ρ 8) (ρ 64) h) (Nat.blt id 22)) (Nat.blt id 23)) (Bool.rec (motive := fun _ => _) (Bool.rec (motive := fun _ => _) ((f130.J I call n).2.1.1.2.2 (ρ 0) (ρ 5) (ρ 7) (ρ 8) (ρ 64) h) ((f130.J I call n).2.1.1.2.1 (ρ 0) (ρ 5) (ρ 7) (ρ 8) (ρ 64) h) (Nat.blt id 20)) (Bool.rec (motive := fun _ => _) ((f130.J I call n).2.1.1.1.2 (ρ 0) (ρ 5) (ρ 7) (ρ 8) (ρ 64) h) ((f130.J I call n).2.1.1.1.1 (ρ 0) (ρ 5) (ρ 7) (ρ 8) (ρ 64) h) (Nat.blt id 18)) (Nat.blt id 19)) (Nat.blt id 21)) (Nat.blt id 26)) (Bool.rec (motive := fun _ => _) (Bool.rec (motive := fun _ => _) (Bool.rec (motive := fun _ => _) (Bool.rec (motive := fun _ => _) (Bool.rec (motive := fun _ => _) ((f130.J I call n).1.2.2.2.2.2 (ρ 0) (ρ 5) (ρ 7) (ρ 8) (ρ 64) (ρ 67) h) ((f130.J I call n).1.2.2.2.2.1 (ρ 0) (ρ 5) (ρ 7) (ρ 8) (ρ 64) h) (Nat.blt id 16)) ((f130.J I call n).1.2.2.2.1 (ρ 0) (ρ 5) (ρ 7) (ρ 8) (ρ 64) h) (Nat.blt id 15)) (Bool.rec (motive := fun _ => _) ((f130.J I call n).1.2.2.1.2 (ρ 0) (ρ 5) (ρ 7) h) ((f130.J I call n).1.2.2.1.1 (ρ 5) (ρ 8) h) (Nat.blt id 13)) (Nat.blt id 14)) (Bool.rec (motive := fun _ => _) (Bool.rec (motive := fun _ => _) ((f130.J I call n).1.2.1.2.2 (ρ 5) (ρ 8) h) ((f130.J I call n).1.2.1.2.1 (ρ 5) (ρ 8) h) (Nat.blt id 11)) (Bool.rec (motive := fun _ => _) ((f130.J I call n).1.2.1.1.2 (ρ 5) (ρ 8) h) ((f130.J I call n).1.2.1.1.1 (ρ 5) (ρ 7) h) (Nat.blt id 9)) (Nat.blt id 10)) (Nat.blt id 12)) (Bool.rec (motive := fun _ => _) (Bool.rec (motive := fun _ => _) (Bool.rec (motive := fun _ => _) ((f130.J I call n).1.1.2.2.2 (ρ 0) (ρ 5) (ρ 7) (ρ 8) h) ((f130.J I call n).1.1.2.2.1 (ρ 0) (ρ 5) (ρ 7) (ρ 8) h) (Nat.blt id 7)) (Bool.rec (motive := fun _ => _) ((f130.J I call n).1.1.2.1.2 (ρ 5) (ρ 8) h) ((f130.J I call n).1.1.2.1.1 (ρ 0) (ρ 5) (ρ 7) h) (Nat.blt id 5)) (Nat.blt id 6)) (Bool.rec (motive := fun _ => _) (Bool.rec (motive := fun _ => _) ((f130.J I call n).1.1.1.2.2 (ρ 0) (ρ 5) (ρ 7) (ρ 8) h) ((f130.J I call n).1.1.1.2.1 (ρ 5) (ρ 8) h) (Nat.blt id 3)) (Bool.rec (motive := fun _ => _) ((f130.J I call n).1.1.1.1.2 (ρ 0) (ρ 5) (ρ 7) h) ((f130.J I call n).1.1.1.1.1 (ρ 0) (ρ 1) (ρ 5) h) (Nat.blt id 1)) (Nat.blt id 2)) (Nat.blt id 4)) (Nat.blt id 8)) (Nat.blt id 17))
theorem f130.q0 (I : Inp) (call : CallFn) (n : Nat) (ρ : Fun) (h : AHeap) : f130.JS I call (n + 1) 0 ρ h = labC P I call (f130.JS I call n) c130.body 0 (finV I c130.results) 0 ρ h := by kernel_rfl
theorem f130.q1 (I : Inp) (call : CallFn) (n : Nat) (ρ : Fun) (h : AHeap) : f130.JS I call (n + 1) 1 ρ h = labC P I call (f130.JS I call n) c130.body 0 (finV I c130.results) 1 ρ h := by kernel_rfl
theorem f130.q2 (I : Inp) (call : CallFn) (n : Nat) (ρ : Fun) (h : AHeap) : f130.JS I call (n + 1) 2 ρ h = labC P I call (f130.JS I call n) c130.body 0 (finV I c130.results) 2 ρ h := by kernel_rfl
theorem f130.q3 (I : Inp) (call : CallFn) (n : Nat) (ρ : Fun) (h : AHeap) : f130.JS I call (n + 1) 3 ρ h = labC P I call (f130.JS I call n) c130.body 0 (finV I c130.results) 3 ρ h := by kernel_rfl
theorem f130.q4 (I : Inp) (call : CallFn) (n : Nat) (ρ : Fun) (h : AHeap) : f130.JS I call (n + 1) 4 ρ h = labC P I call (f130.JS I call n) c130.body 0 (finV I c130.results) 4 ρ h := by kernel_rfl
theorem f130.q5 (I : Inp) (call : CallFn) (n : Nat) (ρ : Fun) (h : AHeap) : f130.JS I call (n + 1) 5 ρ h = labC P I call (f130.JS I call n) c130.body 0 (finV I c130.results) 5 ρ h := by kernel_rfl
theorem f130.q6 (I : Inp) (call : CallFn) (n : Nat) (ρ : Fun) (h : AHeap) : f130.JS I call (n + 1) 6 ρ h = labC P I call (f130.JS I call n) c130.body 0 (finV I c130.results) 6 ρ h := by kernel_rfl
theorem f130.q7 (I : Inp) (call : CallFn) (n : Nat) (ρ : Fun) (h : AHeap) : f130.JS I call (n + 1) 7 ρ h = labC P I call (f130.JS I call n) c130.body 0 (finV I c130.results) 7 ρ h := by kernel_rfl
theorem f130.q8 (I : Inp) (call : CallFn) (n : Nat) (ρ : Fun) (h : AHeap) : f130.JS I call (n + 1) 8 ρ h = labC P I call (f130.JS I call n) c130.body 0 (finV I c130.results) 8 ρ h := by kernel_rfl
theorem f130.q9 (I : Inp) (call : CallFn) (n : Nat) (ρ : Fun) (h : AHeap) : f130.JS I call (n + 1) 9 ρ h = labC P I call (f130.JS I call n) c130.body 0 (finV I c130.results) 9 ρ h := by kernel_rfl
theorem f130.q10 (I : Inp) (call : CallFn) (n : Nat) (ρ : Fun) (h : AHeap) : f130.JS I call (n + 1) 10 ρ h = labC P I call (f130.JS I call n) c130.body 0 (finV I c130.results) 10 ρ h := by kernel_rfl
theorem f130.q11 (I : Inp) (call : CallFn) (n : Nat) (ρ : Fun) (h : AHeap) : f130.JS I call (n + 1) 11 ρ h = labC P I call (f130.JS I call n) c130.body 0 (finV I c130.results) 11 ρ h := by kernel_rfl
theorem f130.q12 (I : Inp) (call : CallFn) (n : Nat) (ρ : Fun) (h : AHeap) : f130.JS I call (n + 1) 12 ρ h = labC P I call (f130.JS I call n) c130.body 0 (finV I c130.results) 12 ρ h := by kernel_rfl
theorem f130.q13 (I : Inp) (call : CallFn) (n : Nat) (ρ : Fun) (h : AHeap) : f130.JS I call (n + 1) 13 ρ h = labC P I call (f130.JS I call n) c130.body 0 (finV I c130.results) 13 ρ h := by kernel_rfl
theorem f130.q14 (I : Inp) (call : CallFn) (n : Nat) (ρ : Fun) (h : AHeap) : f130.JS I call (n + 1) 14 ρ h = labC P I call (f130.JS I call n) c130.body 0 (finV I c130.results) 14 ρ h := by kernel_rfl
theorem f130.q15 (I : Inp) (call : CallFn) (n : Nat) (ρ : Fun) (h : AHeap) : f130.JS I call (n + 1) 15 ρ h = labC P I call (f130.JS I call n) c130.body 0 (finV I c130.results) 15 ρ h := by kernel_rfl
theorem f130.q16 (I : Inp) (call : CallFn) (n : Nat) (ρ : Fun) (h : AHeap) : f130.JS I call (n + 1) 16 ρ h = labC P I call (f130.JS I call n) c130.body 0 (finV I c130.results) 16 ρ h := by kernel_rfl
theorem f130.q17 (I : Inp) (call : CallFn) (n : Nat) (ρ : Fun) (h : AHeap) : f130.JS I call (n + 1) 17 ρ h = labC P I call (f130.JS I call n) c130.body 0 (finV I c130.results) 17 ρ h := by kernel_rfl
theorem f130.q18 (I : Inp) (call : CallFn) (n : Nat) (ρ : Fun) (h : AHeap) : f130.JS I call (n + 1) 18 ρ h = labC P I call (f130.JS I call n) c130.body 0 (finV I c130.results) 18 ρ h := by kernel_rfl
theorem f130.q19 (I : Inp) (call : CallFn) (n : Nat) (ρ : Fun) (h : AHeap) : f130.JS I call (n + 1) 19 ρ h = labC P I call (f130.JS I call n) c130.body 0 (finV I c130.results) 19 ρ h := by kernel_rfl
theorem f130.q20 (I : Inp) (call : CallFn) (n : Nat) (ρ : Fun) (h : AHeap) : f130.JS I call (n + 1) 20 ρ h = labC P I call (f130.JS I call n) c130.body 0 (finV I c130.results) 20 ρ h := by kernel_rfl
theorem f130.q21 (I : Inp) (call : CallFn) (n : Nat) (ρ : Fun) (h : AHeap) : f130.JS I call (n + 1) 21 ρ h = labC P I call (f130.JS I call n) c130.body 0 (finV I c130.results) 21 ρ h := by kernel_rfl
theorem f130.q22 (I : Inp) (call : CallFn) (n : Nat) (ρ : Fun) (h : AHeap) : f130.JS I call (n + 1) 22 ρ h = labC P I call (f130.JS I call n) c130.body 0 (finV I c130.results) 22 ρ h := by kernel_rfl
theorem f130.q23 (I : Inp) (call : CallFn) (n : Nat) (ρ : Fun) (h : AHeap) : f130.JS I call (n + 1) 23 ρ h = labC P I call (f130.JS I call n) c130.body 0 (finV I c130.results) 23 ρ h := by kernel_rfl
theorem f130.q24 (I : Inp) (call : CallFn) (n : Nat) (ρ : Fun) (h : AHeap) : f130.JS I call (n + 1) 24 ρ h = labC P I call (f130.JS I call n) c130.body 0 (finV I c130.results) 24 ρ h := by kernel_rfl
theorem f130.q25 (I : Inp) (call : CallFn) (n : Nat) (ρ : Fun) (h : AHeap) : f130.JS I call (n + 1) 25 ρ h = labC P I call (f130.JS I call n) c130.body 0 (finV I c130.results) 25 ρ h := by kernel_rfl
theorem f130.q26 (I : Inp) (call : CallFn) (n : Nat) (ρ : Fun) (h : AHeap) : f130.JS I call (n + 1) 26 ρ h = labC P I call (f130.JS I call n) c130.body 0 (finV I c130.results) 26 ρ h := by kernel_rfl
theorem f130.q27 (I : Inp) (call : CallFn) (n : Nat) (ρ : Fun) (h : AHeap) : f130.JS I call (n + 1) 27 ρ h = labC P I call (f130.JS I call n) c130.body 0 (finV I c130.results) 27 ρ h := by kernel_rfl
theorem f130.q28 (I : Inp) (call : CallFn) (n : Nat) (ρ : Fun) (h : AHeap) : f130.JS I call (n + 1) 28 ρ h = labC P I call (f130.JS I call n) c130.body 0 (finV I c130.results) 28 ρ h := by kernel_rfl
theorem f130.q29 (I : Inp) (call : CallFn) (n : Nat) (ρ : Fun) (h : AHeap) : f130.JS I call (n + 1) 29 ρ h = labC P I call (f130.JS I call n) c130.body 0 (finV I c130.results) 29 ρ h := by kernel_rfl
theorem f130.q30 (I : Inp) (call : CallFn) (n : Nat) (ρ : Fun) (h : AHeap) : f130.JS I call (n + 1) 30 ρ h = labC P I call (f130.JS I call n) c130.body 0 (finV I c130.results) 30 ρ h := by kernel_rfl
theorem f130.q31 (I : Inp) (call : CallFn) (n : Nat) (ρ : Fun) (h : AHeap) : f130.JS I call (n + 1) 31 ρ h = labC P I call (f130.JS I call n) c130.body 0 (finV I c130.results) 31 ρ h := by kernel_rfl
theorem f130.q32 (I : Inp) (call : CallFn) (n : Nat) (ρ : Fun) (h : AHeap) : f130.JS I call (n + 1) 32 ρ h = labC P I call (f130.JS I call n) c130.body 0 (finV I c130.results) 32 ρ h := by kernel_rfl
theorem f130.q33 (I : Inp) (call : CallFn) (n : Nat) (ρ : Fun) (h : AHeap) : f130.JS I call (n + 1) 33 ρ h = labC P I call (f130.JS I call n) c130.body 0 (finV I c130.results) 33 ρ h := by kernel_rfl
theorem f130.q34 (I : Inp) (call : CallFn) (n : Nat) (ρ : Fun) (h : AHeap) : f130.JS I call (n + 1) 34 ρ h = labC P I call (f130.JS I call n) c130.body 0 (finV I c130.results) 34 ρ h := by kernel_rfl
theorem f130.S (I : Inp) (F : Nat → Option AFn) (call : CallFn) : SFn ⟨P, I, F⟩ call c130 (f130.JS I call) :=
  ⟨fun id hid ρ h => by
    have hc : c130.body.cnt = 35 := by kernel_rfl
    rw [hc] at hid
    exact match id, hid with
    | 0, _ => rfl
    | 1, _ => rfl
    | 2, _ => rfl
    | 3, _ => rfl
    | 4, _ => rfl
    | 5, _ => rfl
    | 6, _ => rfl
    | 7, _ => rfl
    | 8, _ => rfl
    | 9, _ => rfl
    | 10, _ => rfl
    | 11, _ => rfl
    | 12, _ => rfl
    | 13, _ => rfl
    | 14, _ => rfl
    | 15, _ => rfl
    | 16, _ => rfl
    | 17, _ => rfl
    | 18, _ => rfl
    | 19, _ => rfl
    | 20, _ => rfl
    | 21, _ => rfl
    | 22, _ => rfl
    | 23, _ => rfl
    | 24, _ => rfl
    | 25, _ => rfl
    | 26, _ => rfl
    | 27, _ => rfl
    | 28, _ => rfl
    | 29, _ => rfl
    | 30, _ => rfl
    | 31, _ => rfl
    | 32, _ => rfl
    | 33, _ => rfl
    | 34, _ => rfl
    | id + 35, hid => absurd hid (by omega), fun n id hid ρ h => by
    have hc : c130.body.cnt = 35 := by kernel_rfl
    rw [hc] at hid
    exact match id, hid with
    | 0, _ => f130.q0 I call n ρ h
    | 1, _ => f130.q1 I call n ρ h
    | 2, _ => f130.q2 I call n ρ h
    | 3, _ => f130.q3 I call n ρ h
    | 4, _ => f130.q4 I call n ρ h
    | 5, _ => f130.q5 I call n ρ h
    | 6, _ => f130.q6 I call n ρ h
    | 7, _ => f130.q7 I call n ρ h
    | 8, _ => f130.q8 I call n ρ h
    | 9, _ => f130.q9 I call n ρ h
    | 10, _ => f130.q10 I call n ρ h
    | 11, _ => f130.q11 I call n ρ h
    | 12, _ => f130.q12 I call n ρ h
    | 13, _ => f130.q13 I call n ρ h
    | 14, _ => f130.q14 I call n ρ h
    | 15, _ => f130.q15 I call n ρ h
    | 16, _ => f130.q16 I call n ρ h
    | 17, _ => f130.q17 I call n ρ h
    | 18, _ => f130.q18 I call n ρ h
    | 19, _ => f130.q19 I call n ρ h
    | 20, _ => f130.q20 I call n ρ h
    | 21, _ => f130.q21 I call n ρ h
    | 22, _ => f130.q22 I call n ρ h
    | 23, _ => f130.q23 I call n ρ h
    | 24, _ => f130.q24 I call n ρ h
    | 25, _ => f130.q25 I call n ρ h
    | 26, _ => f130.q26 I call n ρ h
    | 27, _ => f130.q27 I call n ρ h
    | 28, _ => f130.q28 I call n ρ h
    | 29, _ => f130.q29 I call n ρ h
    | 30, _ => f130.q30 I call n ρ h
    | 31, _ => f130.q31 I call n ρ h
    | 32, _ => f130.q32 I call n ρ h
    | 33, _ => f130.q33 I call n ρ h
    | 34, _ => f130.q34 I call n ρ h
    | id + 35, hid => absurd hid (by omega)⟩
noncomputable def f130.run (I : Inp) : SF := fun call n a h =>
  match a with
  | [v0, v1, v2] => f130.e I call (f130.J I call n) v0 v1 v2 h
  | _ => none
theorem f130.qe (I : Inp) (call : CallFn) (n : Nat) (v0 v1 v2 : AVal) (h : AHeap) : f130.e I call (f130.J I call n) v0 v1 v2 h = execC P I call (f130.JS I call n) c130.body 0 (finV I c130.results) (argV [v0, v1, v2]) h := by kernel_rfl
theorem f130.code : codeOf P 130 = some c130 := by kernel_rfl
theorem f130.ok (I : Inp) (F : Nat → Option AFn) (hF : F 130 = some (.code c130)) : SfOk P I F 130 (f130.run I) := by
  intro call hc n args h r hr
  unfold f130.run at hr
  split at hr
  · exact fn_sound (C := ⟨P, I, F⟩) (n := n) hc hF (Nat.le_of_ble_eq_true (by kernel_rfl)) (by kernel_rfl) (f130.S I F call) (by kernel_rfl) ((f130.qe I call n _ _ _ h).symm.trans hr)
  · cases hr
/-! haruspex/types.Check$2 -/
noncomputable def c131 : AFunc := (AFunc.mk 16 2 [(.tmp 5)] (.seq (.region [(S 4 (.box (T 1)) .none), (S 5 (.move (.val (.bool .false))) .none)]) (.seq (.draw [(L1 6 2), (L1 7 2), (NC 8 7), (FA 9 4 8), (L1 10 9), (M 11 0), (S 12 (.indexAddr 3 (T 10) (T 11)) .none), (S 13 (.loadN 3 (T 12)) .none), (S 14 (.loadN 5 (T 4)) .none), (S 15 (.call 132 [(T 6), (T 13), (T 14)]) .none), (M 5 15)] [N, N, N, N, N, N, N, N, N, Y, N] 0) .ret)))
abbrev f131.Js : Type := Unit
noncomputable def f131.e (I : Inp) (call : CallFn) (j : f131.Js) (v0 v1 v2 : AVal) (h : AHeap) : Rs :=
  bnd (sBox v1 h) fun v4 h1 =>
  bndP (pLoad1 I v2 h1) fun v6 =>
  bndP (pLoad1 I v2 h1) fun v7 =>
  bndP (pNilCheck v7) fun v8 =>
  bndP (pFieldAddr 4 v8) fun v9 =>
  bndP (pLoad1 I v9 h1) fun v10 =>
  bndP (pIndexAddr 3 v10 v0) fun v12 =>
  bndP (pLoadN I 3 v12 h1) fun v13 =>
  bndP (pLoadN I 5 v4 h1) fun v14 =>
  bnd (call 132 [v6, v13, v14] h1) fun v15 h2 =>
  some (v15, h2)
theorem f131.S (I : Inp) (F : Nat → Option AFn) (call : CallFn) : SFn ⟨P, I, F⟩ call c131 (fun _ _ _ _ => none) :=
  ⟨fun _ _ _ _ => rfl, fun n id hid => absurd hid (by rw [show c131.body.cnt = 0 by kernel_rfl]; omega)⟩
noncomputable def f131.run (I : Inp) : SF := fun call n a h =>
  match a with
  | [v0, v1, v2] => f131.e I call () v0 v1 v2 h
  | _ => none
theorem f131.qe (I : Inp) (call : CallFn) (n : Nat) (v0 v1 v2 : AVal) (h : AHeap) : f131.e I call () v0 v1 v2 h = execC P I call (fun _ _ _ => none) c131.body 0 (finV I c131.results) (argV [v0, v1, v2]) h := by kernel_rfl
theorem f131.code : codeOf P 131 = some c131 := by kernel_rfl
theorem f131.ok (I : Inp) (F : Nat → Option AFn) (hF : F 131 = some (.code c131)) : SfOk P I F 131 (f131.run I) := by
  intro call hc n args h r hr
  unfold f131.run at hr
  split at hr
  · exact fn_sound (C := ⟨P, I, F⟩) (n := n) hc hF (Nat.le_of_ble_eq_true (by kernel_rfl)) (by kernel_rfl) (f131.S I F call) (by kernel_rfl) ((f131.qe I call n _ _ _ h).symm.trans hr)
  · cases hr
/-! haruspex/types.ends -/
noncomputable def c132 : AFunc := (AFunc.mk 37 3 [(.tmp 6)] (.seq (.region [(S 4 (.box (T 1)) .none), (S 5 (.box (T 2)) .none), (S 6 (.move (.val (.bool .false))) .none)]) (.seq (.seq (.region [(FA 7 1 5), (L1 8 7)]) (.block 0 (.seq (.region [(S 10 (.bin .eql (T 8) (V 2)) .none), (M 9 10)]) (.cond (T 9) (.seq (.region [(FA 11 1 4), (L1 12 11), (FA 13 2 5), (L1 14 13), (S 15 (.indexAddr 2 (T 12) (T 14)) .none), (FA 16 0 15), (L1 17 16), (S 18 (.bin .eql (T 17) (V 0)) .none), (M 6 18)]) .ret) (.seq (.region [(S 20 (.bin .eql (T 8) (V 3)) .none), (M 19 20)]) (.cond (T 19) (.seq (.draw [(FA 21 1 4), (L1 22 21), (FA 23 2 5), (L1 24 23), (S 25 (.indexAddr 2 (T 22) (T 24)) .none), (S 26 (.loadN 2 (T 25)) .none), (M 27 0), (NC 28 27), (FA 29 1 28), (L1 30 29), (FA 31 0 4), (L1 32 31), (S 33 (.indexAddr 3 (T 30) (T 32)) .none), (FA 34 1 33), (S 35 (.loadN 2 (T 34)) .none), (S 36 (.eq .false (.struct [.i, .i]) .false (T 26) (T 35)) .none), (M 6 36)] [N, N, N, N, N, N, N, N, N, N, N, N, N, N, N, N, N] 0) .ret) .skip)))))) (.seq (.region [(S 6 (.move (.val (.bool .true))) .none)]) .ret))))
abbrev f132.Js : Type := (AHeap → Rs)
noncomputable def f132.b0 (I : Inp) (call : CallFn) (j : f132.Js) (h : AHeap) : Rs :=
  some ((.bool .true), h)
noncomputable def f132.e (I : Inp) (call : CallFn) (j : f132.Js) (v0 v1 v2 : AVal) (h : AHeap) : Rs :=
  bnd (sBox v1 h) fun v4 h1 =>
  bnd (sBox v2 h1) fun v5 h2 =>
  bndP (pFieldAddr 1 v5) fun v7 =>
  bndP (pLoad1 I v7 h2) fun v8 =>
  bndP (pBin .eql v8 (Z 2)) fun v10 =>
  sCond v10 (
  bndP (pBin .eql v8 (Z 3)) fun v20 =>
  sCond v20 (
  j h2) (
  bndP (pFieldAddr 1 v4) fun v21 =>
  bndP (pLoad1 I v21 h2) fun v22 =>
  bndP (pFieldAddr 2 v5) fun v23 =>
  bndP (pLoad1 I v23 h2) fun v24 =>
  bndP (pIndexAddr 2 v22 v24) fun v25 =>
  bndP (pLoadN I 2 v25 h2) fun v26 =>
  bndP (pNilCheck v0) fun v28 =>
  bndP (pFieldAddr 1 v28) fun v29 =>
  bndP (pLoad1 I v29 h2) fun v30 =>
  bndP (pFieldAddr 0 v4) fun v31 =>
  bndP (pLoad1 I v31 h2) fun v32 =>
  bndP (pIndexAddr 3 v30 v32) fun v33 =>
  bndP (pFieldAddr 1 v33) fun v34 =>
  bndP (pLoadN I 2 v34 h2) fun v35 =>
  bndP (pEq P .false (.struct [.i, .i]) .false v26 v35 h2) fun v36 =>
  some (v36, h2))) (
  bndP (pFieldAddr 1 v4) fun v11 =>
  bndP (pLoad1 I v11 h2) fun v12 =>
  bndP (pFieldAddr 2 v5) fun v13 =>
  bndP (pLoad1 I v13 h2) fun v14 =>
  bndP (pIndexAddr 2 v12 v14) fun v15 =>
  bndP (pFieldAddr 0 v15) fun v16 =>
  bndP (pLoad1 I v16 h2) fun v17 =>
  bndP (pBin .eql v17 (Z 0)) fun v18 =>
  some (v18, h2))
noncomputable def f132.J (I : Inp) (call : CallFn) (n : Nat) : f132.Js :=
  Nat.rec (motive := fun _ => f132.Js) (fun _ => none) (fun _ ih => f132.b0 I call ih) n
noncomputable def f132.JS (I : Inp) (call : CallFn) (n : Nat) : Jmp := fun id ρ h =>
  ((f132.J I call n) h)
theorem f132.q0 (I : Inp) (call : CallFn) (n : Nat) (ρ : Fun) (h : AHeap) : f132.JS I call (n + 1) 0 ρ h = labC P I call (f132.JS I call n) c132.body 0 (finV I c132.results) 0 ρ h := by kernel_rfl
theorem f132.S (I : Inp) (F : Nat → Option AFn) (call : CallFn) : SFn ⟨P, I, F⟩ call c132 (f132.JS I call) :=
  ⟨fun id hid ρ h => by
    have hc : c132.body.cnt = 1 := by kernel_rfl
    rw [hc] at hid
    exact match id, hid with
    | 0, _ => rfl
    | id + 1, hid => absurd hid (by omega), fun n id hid ρ h => by
    have hc : c132.body.cnt = 1 := by kernel_rfl
    rw [hc] at hid
    exact match id, hid with
    | 0, _ => f132.q0 I call n ρ h
    | id + 1, hid => absurd hid (by omega)⟩
noncomputable def f132.run (I : Inp) : SF := fun call n a h =>
  match a with
  | [v0, v1, v2] => f132.e I call (f132.J I call n) v0 v1 v2 h
  | _ => none
theorem f132.qe (I : Inp) (call : CallFn) (n : Nat) (v0 v1 v2 : AVal) (h : AHeap) : f132.e I call (f132.J I call n) v0 v1 v2 h = execC P I call (f132.JS I call n) c132.body 0 (finV I c132.results) (argV [v0, v1, v2]) h := by kernel_rfl
theorem f132.code : codeOf P 132 = some c132 := by kernel_rfl
theorem f132.ok (I : Inp) (F : Nat → Option AFn) (hF : F 132 = some (.code c132)) : SfOk P I F 132 (f132.run I) := by
  intro call hc n args h r hr
  unfold f132.run at hr
  split at hr
  · exact fn_sound (C := ⟨P, I, F⟩) (n := n) hc hF (Nat.le_of_ble_eq_true (by kernel_rfl)) (by kernel_rfl) (f132.S I F call) (by kernel_rfl) ((f132.qe I call n _ _ _ h).symm.trans hr)
  · cases hr
/-! haruspex/graph.Reach -/
noncomputable def c133 : AFunc := (AFunc.mk 59 2 [(.tmp 4)] (.seq (.region [(S 2 (.box (T 0)) .none), (S 4 (.move (.val .nilp)) .none)]) (.seq (.region [(S 13 (.build [.nils] []) .none), (S 14 (.box (T 13)) .none), (S 5 (.alloc [.nilp]) .none), (AOper.mk .none (.store 1 (T 5) (T 14)) .none)]) (.seq (.seq (.region [(S 15 (.loadN 2 (T 2)) .none), (S 16 (.call 159 [(T 15)]) .none), (S 17 (.un .not (T 16)) .none)]) (.cond (T 17) (.seq (.region [(L1 18 5), (M 4 18)]) .ret) .skip)) (.seq (.region [(S 6 (.alloc [.nils]) .none)]) (.seq (.region [(S 19 (.mkFunc (.func 160) [] [(T 2), (T 5), (T 6)]) .none), (M 7 19)]) (.seq (.seq (.region [(M 20 1), (S 21 (.lenSl (T 20)) .none), (S 22 (.move (V 0)) .none)]) (.block 0 (.loop (.seq (.region [(S 23 (.bin .lss (T 22) (T 21)) .none)]) (.seq (.cond (T 23) .skip (.exit 0)) (.seq (.block 1 (.seq (.region [(S 24 (.indexAddr 1 (T 20) (T 22)) .none), (L1 25 24), (M 9 25)]) (.region [(M 26 7), (M 27 9), (S 28 (.callv (T 26) [(T 27)]) .none)]))) (.region [(S 29 (.bin .add (T 22) (V 1)) .none), (M 22 29)]))))))) (.seq (.block 2 (.loop (.seq (.seq (.region [(L1 30 6), (S 31 (.lenSl (T 30)) .none), (S 32 (.bin .gtr (T 31) (V 0)) .none)]) (.cond (T 32) .skip (.exit 2))) (.block 3 (.seq (.region [(L1 33 6), (L1 34 6), (S 35 (.lenSl (T 34)) .none), (S 36 (.bin .sub (T 35) (V 1)) .none), (S 37 (.indexAddr 1 (T 33) (T 36)) .none), (L1 38 37), (M 10 38)]) (.seq (.region [(L1 39 6), (L1 40 6), (S 41 (.lenSl (T 40)) .none), (S 42 (.bin .sub (T 41) (V 1)) .none), (S 43 (.sliceS 1 (T 39) .none (.some (T 42)) .none) .none), (AOper.mk .none (.store 1 (T 6) (T 43)) .none)]) (.seq (.region [(FA 44 1 2), (L1 45 44), (M 46 10), (S 47 (.indexAddr 1 (T 45) (T 46)) .none), (L1 48 47), (S 49 (.lenSl (T 48)) .none), (S 50 (.move (V 0)) .none)]) (.block 4 (.loop (.seq (.region [(S 51 (.bin .lss (T 50) (T 49)) .none)]) (.seq (.cond (T 51) .skip (.exit 4)) (.seq (.block 5 (.seq (.region [(S 52 (.indexAddr 1 (T 48) (T 50)) .none), (L1 53 52), (M 12 53)]) (.region [(M 54 7), (M 55 12), (S 56 (.callv (T 54) [(T 55)]) .none)]))) (.region [(S 57 (.bin .add (T 50) (V 1)) .none), (M 50 57)]))))))))))))) (.seq (.region [(L1 58 5), (M 4 58)]) .ret)))))))))
abbrev f133.Js : Type := ((((AVal → AVal → AVal → AHeap → Rs) × (AVal → AVal → AVal → AVal → AHeap → Rs)) × ((AVal → AVal → AVal → AVal → AVal → AVal → AVal → AHeap → Rs) × ((AVal → AVal → AVal → AVal → AVal → AVal → AVal → AHeap → Rs) × (AVal → AVal → AVal → AVal → AVal → AVal → AVal → AHeap → Rs)))) × (((AVal → AHeap → Rs) × ((AVal → AVal → AVal → AVal → AHeap → Rs) × (AVal → AVal → AVal → AVal → AHeap → Rs))) × ((AVal → AVal → AVal → AVal → AVal → AVal → AVal → AHeap → Rs) × ((AVal → AVal → AVal → AVal → AVal → AVal → AVal → AHeap → Rs) × (AVal → AVal → AVal → AVal → AVal → AVal → AVal → AHeap → Rs)))))
noncomputable def f133.b0 (I : Inp) (call : CallFn) (j : f133.Js) (v1 v2 v5 : AVal) (h : AHeap) : Rs :=
  bnd (sAlloc [.nils] h) fun v6 h1 =>
  bndP (pLenSl v1) fun v21 =>
  j.1.2.1 v2 v5 v6 (.func (.func 160) [] [v2, v5, v6]) v1 v21 (Z 0) h1
noncomputable def f133.b1 (I : Inp) (call : CallFn) (j : f133.Js) (v2 v5 v6 v7 : AVal) (h : AHeap) : Rs :=
  j.2.1.2.1 v2 v5 v6 v7 h
noncomputable def f133.b2 (I : Inp) (call : CallFn) (j : f133.Js) (v2 v5 v6 v7 v20 v21 v22 : AVal) (h : AHeap) : Rs :=
  bndP (pBin .lss v22 v21) fun v23 =>
  sCond v23 (
  j.1.1.2 v2 v5 v6 v7 h) (
  j.1.2.2.1 v2 v5 v6 v7 v20 v21 v22 h)
noncomputable def f133.b3 (I : Inp) (call : CallFn) (j : f133.Js) (v2 v5 v6 v7 v20 v21 v22 : AVal) (h : AHeap) : Rs :=
  bndP (pIndexAddr 1 v20 v22) fun v24 =>
  bndP (pLoad1 I v24 h) fun v25 =>
  bnd (sCallv call v7 [v25] h) fun v28 h1 =>
  j.1.2.2.2 v2 v5 v6 v7 v20 v21 v22 h1
noncomputable def f133.b4 (I : Inp) (call : CallFn) (j : f133.Js) (v2 v5 v6 v7 v20 v21 v22 : AVal) (h : AHeap) : Rs :=
  bndP (pBin .add v22 (Z 1)) fun v29 =>
  j.1.2.1 v2 v5 v6 v7 v20 v21 v29 h
noncomputable def f133.b5 (I : Inp) (call : CallFn) (j : f133.Js) (v5 : AVal) (h : AHeap) : Rs :=
  bndP (pLoad1 I v5 h) fun v58 =>
  some (v58, h)
noncomputable def f133.b6 (I : Inp) (call : CallFn) (j : f133.Js) (v2 v5 v6 v7 : AVal) (h : AHeap) : Rs :=
  bndP (pLoad1 I v6 h) fun v30 =>
  bndP (pLenSl v30) fun v31 =>
  bndP (pBin .gtr v31 (Z 0)) fun v32 =>
  sCond v32 (
  j.2.1.1 v5 h) (
  j.2.1.2.2 v2 v5 v6 v7 h)
noncomputable def f133.b7 (I : Inp) (call : CallFn) (j : f133.Js) (v2 v5 v6 v7 : AVal) (h : AHeap) : Rs :=
  bndP (pLoad1 I v6 h) fun v33 =>
  bndP (pLoad1 I v6 h) fun v34 =>
  bndP (pLenSl v34) fun v35 =>
  bndP (pBin .sub v35 (Z 1)) fun v36 =>
  bndP (pIndexAddr 1 v33 v36) fun v37 =>
  bndP (pLoad1 I v37 h) fun v38 =>
  bndP (pLoad1 I v6 h) fun v39 =>
  bndP (pLoad1 I v6 h) fun v40 =>
  bndP (pLenSl v40) fun v41 =>
  bndP (pBin .sub v41 (Z 1)) fun v42 =>
  bndP (pSliceS 1 v39 none (some v42) none) fun v43 =>
  bnd (sStore 1 v6 v43 h) fun _ h1 =>
  bndP (pFieldAddr 1 v2) fun v44 =>
  bndP (pLoad1 I v44 h1) fun v45 =>
  bndP (pIndexAddr 1 v45 v38) fun v47 =>
  bndP (pLoad1 I v47 h1) fun v48 =>
  bndP (pLenSl v48) fun v49 =>
  j.2.2.1 v2 v5 v6 v7 v48 v49 (Z 0) h1
noncomputable def f133.b8 (I : Inp) (call : CallFn) (j : f133.Js) (v2 v5 v6 v7 v48 v49 v50 : AVal) (h : AHeap) : Rs :=
  bndP (pBin .lss v50 v49) fun v51 =>
  sCond v51 (
  j.2.1.2.1 v2 v5 v6 v7 h) (
  j.2.2.2.1 v2 v5 v6 v7 v48 v49 v50 h)
noncomputable def f133.b9 (I : Inp) (call : CallFn) (j : f133.Js) (v2 v5 v6 v7 v48 v49 v50 : AVal) (h : AHeap) : Rs :=
  bndP (pIndexAddr 1 v48 v50) fun v52 =>
  bndP (pLoad1 I v52 h) fun v53 =>
  bnd (sCallv call v7 [v53] h) fun v56 h1 =>
  j.2.2.2.2 v2 v5 v6 v7 v48 v49 v50 h1
noncomputable def f133.b10 (I : Inp) (call : CallFn) (j : f133.Js) (v2 v5 v6 v7 v48 v49 v50 : AVal) (h : AHeap) : Rs :=
  bndP (pBin .add v50 (Z 1)) fun v57 =>
  j.2.2.1 v2 v5 v6 v7 v48 v49 v57 h
noncomputable def f133.e (I : Inp) (call : CallFn) (j : f133.Js) (v0 v1 : AVal) (h : AHeap) : Rs :=
  bnd (sBox v0 h) fun v2 h1 =>
  bndP (pBuild [.nils] []) fun v13 =>
  bnd (sBox v13 h1) fun v14 h2 =>
  bnd (sAlloc [.nilp] h2) fun v5 h3 =>
  bnd (sStore 1 v5 v14 h3) fun _ h4 =>
  bndP (pLoadN I 2 v2 h4) fun v15 =>
  bnd (call 159 [v15] h4) fun v16 h5 =>
  bndP (pUn .not v16) fun v17 =>
  sCond v17 (
  j.1.1.1 v1 v2 v5 h5) (
  bndP (pLoad1 I v5 h5) fun v18 =>
  some (v18, h5))
noncomputable def f133.J (I : Inp) (call : CallFn) (n : Nat) : f133.Js :=
  Nat.rec (motive := fun _ => f133.Js) ((((fun _ _ _ _ => none), (fun _ _ _ _ _ => none)), ((fun _ _ _ _ _ _ _ _ => none), ((fun _ _ _ _ _ _ _ _ => none), (fun _ _ _ _ _ _ _ _ => none)))), (((fun _ _ => none), ((fun _ _ _ _ _ => none), (fun _ _ _ _ _ => none))), ((fun _ _ _ _ _ _ _ _ => none), ((fun _ _ _ _ _ _ _ _ => none), (fun _ _ _ _ _ _ _ _ => none))))) (fun _ ih => (((f133.b0 I call ih, f133.b1 I call ih), (f133.b2 I call ih, (f133.b3 I call ih, f133.b4 I call ih))), ((f133.b5 I call ih, (f133.b6 I call ih, f133.b7 I call ih)), (f133.b8 I call ih, (f133.b9 I call ih, f133.b10 I call ih))))) n
noncomputable def f133.JS (I : Inp) (call : CallFn) (n : Nat) : Jmp := fun id ρ h =>
  (Bool.rec (motive := fun _ => _) (Bool.rec (motive := fun _ => _) (Bool.rec (motive := fun _ => _) (Bool.rec (motive := fun _ => _) ((f133.J I call n).2.2.2.2 (ρ 2) (ρ 5) (ρ 6) (ρ 7) (ρ 48) (ρ 49) (ρ 50) h) ((f133.J I call n).2.2.2.1 (ρ 2) (ρ 5) (ρ 6) (ρ 7) (ρ 48) (ρ 49) (ρ 50) h) (Nat.blt id 10)) ((f133.J I call n).2.2.1 (ρ 2) (ρ 5) (ρ 6) (ρ 7) (ρ 48) (ρ 49) (ρ 50) h) (Nat.blt id 9)) (Bool.rec (motive := fun _ => _) (Bool.rec (motive := fun _ => _) ((f133.J I call n).2.1.2.2 (ρ 2) (ρ 5) (ρ 6) (ρ 7) h) ((f133.J I call n).2.1.2.1 (ρ 2) (ρ 5) (ρ 6) (ρ 7) h) (Nat.blt id 7)) ((f133.J I call n).2.1.1 (ρ 5) h) (Nat.blt id 6)) (Nat.blt id 8)) (Bool.rec (motive := fun _ => _) (Bool.rec (motive := fun _ => _) (Bool.rec (motive := fun _ => _) ((f133.J I call n).1.2.2.2 (ρ 2) (ρ 5) (ρ 6) (ρ 7) (ρ 20) (ρ 21) (ρ 22) h) ((f133.J I call n).1.2.2.1 (ρ 2) (ρ 5) (ρ 6) (ρ 7) (ρ 20) (ρ 21) (ρ 22) h) (Nat.blt id 4)) ((f133.J I call n).1.2.1 (ρ 2) (ρ 5) (ρ 6) (ρ 7) (ρ 20) (ρ 21) (ρ 22) h) (Nat.blt id 3)) (Bool.rec (motive := fun _ => _) ((f133.J I call n).1.1.2 (ρ 2) (ρ 5) (ρ 6) (ρ 7) h) ((f133.J I call n).1.1.1 (ρ 1) (ρ 2) (ρ 5) h) (Nat.blt id 1)) (Nat.blt id 2)) (Nat.blt id 5))
theorem f133.q0 (I : Inp) (call : CallFn) (n : Nat) (ρ : Fun) (h : AHeap) : f133.JS I call (n + 1) 0 ρ h = labC P I call (f133.JS I call n) c133.body 0 (finV I c133.results) 0 ρ h := by kernel_rfl
theorem f133.q1 (I : Inp) (call : CallFn) (n : Nat) (ρ : Fun) (h : AHeap) : f133.JS I call (n + 1) 1 ρ h = labC P I call (f133.JS I call n) c133.body 0 (finV I c133.results) 1 ρ h := by kernel_rfl
theorem f133.q2 (I : Inp) (call : CallFn) (n : Nat) (ρ : Fun) (h : AHeap) : f133.JS I call (n + 1) 2 ρ h = labC P I call (f133.JS I call n) c133.body 0 (finV I c133.results) 2 ρ h := by kernel_rfl
theorem f133.q3 (I : Inp) (call : CallFn) (n : Nat) (ρ : Fun) (h : AHeap) : f133.JS I call (n + 1) 3 ρ h = labC P I call (f133.JS I call n) c133.body 0 (finV I c133.results) 3 ρ h := by kernel_rfl
theorem f133.q4 (I : Inp) (call : CallFn) (n : Nat) (ρ : Fun) (h : AHeap) : f133.JS I call (n + 1) 4 ρ h = labC P I call (f133.JS I call n) c133.body 0 (finV I c133.results) 4 ρ h := by kernel_rfl
theorem f133.q5 (I : Inp) (call : CallFn) (n : Nat) (ρ : Fun) (h : AHeap) : f133.JS I call (n + 1) 5 ρ h = labC P I call (f133.JS I call n) c133.body 0 (finV I c133.results) 5 ρ h := by kernel_rfl
theorem f133.q6 (I : Inp) (call : CallFn) (n : Nat) (ρ : Fun) (h : AHeap) : f133.JS I call (n + 1) 6 ρ h = labC P I call (f133.JS I call n) c133.body 0 (finV I c133.results) 6 ρ h := by kernel_rfl
theorem f133.q7 (I : Inp) (call : CallFn) (n : Nat) (ρ : Fun) (h : AHeap) : f133.JS I call (n + 1) 7 ρ h = labC P I call (f133.JS I call n) c133.body 0 (finV I c133.results) 7 ρ h := by kernel_rfl
theorem f133.q8 (I : Inp) (call : CallFn) (n : Nat) (ρ : Fun) (h : AHeap) : f133.JS I call (n + 1) 8 ρ h = labC P I call (f133.JS I call n) c133.body 0 (finV I c133.results) 8 ρ h := by kernel_rfl
theorem f133.q9 (I : Inp) (call : CallFn) (n : Nat) (ρ : Fun) (h : AHeap) : f133.JS I call (n + 1) 9 ρ h = labC P I call (f133.JS I call n) c133.body 0 (finV I c133.results) 9 ρ h := by kernel_rfl
theorem f133.q10 (I : Inp) (call : CallFn) (n : Nat) (ρ : Fun) (h : AHeap) : f133.JS I call (n + 1) 10 ρ h = labC P I call (f133.JS I call n) c133.body 0 (finV I c133.results) 10 ρ h := by kernel_rfl
theorem f133.S (I : Inp) (F : Nat → Option AFn) (call : CallFn) : SFn ⟨P, I, F⟩ call c133 (f133.JS I call) :=
  ⟨fun id hid ρ h => by
    have hc : c133.body.cnt = 11 := by kernel_rfl
    rw [hc] at hid
    exact match id, hid with
    | 0, _ => rfl
    | 1, _ => rfl
    | 2, _ => rfl
    | 3, _ => rfl
    | 4, _ => rfl
    | 5, _ => rfl
    | 6, _ => rfl
    | 7, _ => rfl
    | 8, _ => rfl
    | 9, _ => rfl
    | 10, _ => rfl
    | id + 11, hid => absurd hid (by omega), fun n id hid ρ h => by
    have hc : c133.body.cnt = 11 := by kernel_rfl
    rw [hc] at hid
    exact match id, hid with
    | 0, _ => f133.q0 I call n ρ h
    | 1, _ => f133.q1 I call n ρ h
    | 2, _ => f133.q2 I call n ρ h
    | 3, _ => f133.q3 I call n ρ h
    | 4, _ => f133.q4 I call n ρ h
    | 5, _ => f133.q5 I call n ρ h
    | 6, _ => f133.q6 I call n ρ h
    | 7, _ => f133.q7 I call n ρ h
    | 8, _ => f133.q8 I call n ρ h
    | 9, _ => f133.q9 I call n ρ h
    | 10, _ => f133.q10 I call n ρ h
    | id + 11, hid => absurd hid (by omega)⟩
noncomputable def f133.run (I : Inp) : SF := fun call n a h =>
  match a with
  | [v0, v1] => f133.e I call (f133.J I call n) v0 v1 h
  | _ => none
theorem f133.qe (I : Inp) (call : CallFn) (n : Nat) (v0 v1 : AVal) (h : AHeap) : f133.e I call (f133.J I call n) v0 v1 h = execC P I call (f133.JS I call n) c133.body 0 (finV I c133.results) (argV [v0, v1]) h := by kernel_rfl
theorem f133.code : codeOf P 133 = some c133 := by kernel_rfl
theorem f133.ok (I : Inp) (F : Nat → Option AFn) (hF : F 133 = some (.code c133)) : SfOk P I F 133 (f133.run I) := by
  intro call hc n args h r hr
  unfold f133.run at hr
  split at hr
  · exact fn_sound (C := ⟨P, I, F⟩) (n := n) hc hF (Nat.le_of_ble_eq_true (by kernel_rfl)) (by kernel_rfl) (f133.S I F call) (by kernel_rfl) ((f133.qe I call n _ _ h).symm.trans hr)
  · cases hr
/-! haruspex/assign.Flow -/
noncomputable def c134 : AFunc := (AFunc.mk 53 2 [(.cellN 4 2)] (.seq (.region [(S 4 (.alloc [(Z 0), .nils]) .none)]) (.seq (.seq (.region [(M 8 0), (S 9 (.eq .false .ptr .true (T 8) (.val .nilp)) .none), (M 10 9), (S 11 (.move (T 1)) (.some (10, .false))), (S 12 (.bin .lss (T 11) (V 0)) (.some (10, .false))), (S 13 (.pick (T 10) (.val (.bool .true)) (T 12)) .none), (M 14 13), (S 15 (.move (T 1)) (.some (14, .false))), (S 16 (.move (T 0)) (.some (14, .false))), (S 17 (.nilCheck (T 16)) (.some (14, .false))), (S 18 (.fieldAddr 4 (T 17)) (.some (14, .false))), (S 19 (.load1 (T 18)) (.some (14, .false))), (S 20 (.lenSl (T 19)) (.some (14, .false))), (S 21 (.bin .geq (T 15) (T 20)) (.some (14, .false))), (S 22 (.pick (T 14) (.val (.bool .true)) (T 21)) .none)]) (.cond (T 22) (.seq (.region [(S 23 (.build [(Z 0), .nils] []) .none), (AOper.mk .none (.store 2 (T 4) (T 23)) .none)]) .ret) .skip)) (.seq (.region [(M 24 0), (NC 25 24), (FA 26 4 25), (L1 27 26), (M 28 1), (S 29 (.indexAddr 3 (T 27) (T 28)) .none), (FA 30 2 29), (L1 31 30), (M 5 31)]) (.seq (.region [(M 32 5), (S 33 (.lenSl (T 32)) .none), (M 34 5), (S 35 (.lenSl (T 34)) .none), (S 36 (.makeSlice [.nils] 24 (T 35) (T 35)) .none), (S 37 (.build [(Z 0), .nils] [(0, (1, (T 33))), (1, (1, (T 36)))]) .none), (S 6 (.alloc [(Z 0), .nils]) .none), (AOper.mk .none (.store 2 (T 6) (T 37)) .none)]) (.seq (.seq (.region [(M 38 5), (S 39 (.lenSl (T 38)) .none), (S 40 (.move (V 0)) .none)]) (.block 0 (.loop (.seq (.region [(S 41 (.bin .lss (T 40) (T 39)) .none)]) (.seq (.cond (T 41) .skip (.exit 0)) (.seq (.block 1 (.seq (.region [(M 42 40), (M 7 42)]) (.draw [(FA 43 1 6), (L1 44 43), (M 45 7), (M 46 5), (M 47 7), (S 48 (.indexAddr 5 (T 46) (T 47)) .none), (S 49 (.call 161 [(T 48)]) .none), (S 50 (.indexAddr 1 (T 44) (T 45)) .none), (AOper.mk .none (.store 1 (T 50) (T 49)) .none)] [N, (.false, [1]), N, N, N, N, Y, N, Y] 0))) (.region [(S 51 (.bin .add (T 40) (V 1)) .none), (M 40 51)]))))))) (.seq (.region [(S 52 (.loadN 2 (T 6)) .none), (AOper.mk .none (.store 2 (T 4) (T 52)) .none)]) .ret)))))))
abbrev f134.Js : Type := (((AVal → AVal → AVal → AHeap → Rs) × (AVal → AVal → AHeap → Rs)) × ((AVal → AVal → AVal → AVal → AVal → AHeap → Rs) × ((AVal → AVal → AVal → AVal → AVal → AHeap → Rs) × (AVal → AVal → AVal → AVal → AVal → AHeap → Rs))))
noncomputable def f134.b0 (I : Inp) (call : CallFn) (j : f134.Js) (v0 v1 v4 : AVal) (h : AHeap) : Rs :=
  bndP (pNilCheck v0) fun v25 =>
  bndP (pFieldAddr 4 v25) fun v26 =>
  bndP (pLoad1 I v26 h) fun v27 =>
  bndP (pIndexAddr 3 v27 v1) fun v29 =>
  bndP (pFieldAddr 2 v29) fun v30 =>
  bndP (pLoad1 I v30 h) fun v31 =>
  bndP (pLenSl v31) fun v33 =>
  bndP (pLenSl v31) fun v35 =>
  bnd (sMakeSlice [.nils] 24 v35 v35 h) fun v36 h1 =>
  bndP (pBuild [(Z 0), .nils] [(0, 1, v33), (1, 1, v36)]) fun v37 =>
  bnd (sAlloc [(Z 0), .nils] h1) fun v6 h2 =>
  bnd (sStore 2 v6 v37 h2) fun _ h3 =>
  bndP (pLenSl v31) fun v39 =>
  j.2.1 v4 v31 v6 v39 (Z 0) h3
noncomputable def f134.b1 (I : Inp) (call : CallFn) (j : f134.Js) (v4 v6 : AVal) (h : AHeap) : Rs :=
  bndP (pLoadN I 2 v6 h) fun v52 =>
  bnd (sStore 2 v4 v52 h) fun _ h1 =>
  sRet (sCons (sResN I 2 v4 h1) (some [])) h1
noncomputable def f134.b2 (I : Inp) (call : CallFn) (j : f134.Js) (v4 v5 v6 v39 v40 : AVal) (h : AHeap) : Rs :=
  bndP (pBin .lss v40 v39) fun v41 =>
  sCond v41 (
  j.1.2 v4 v6 h) (
  j.2.2.1 v4 v5 v6 v39 v40 h)
noncomputable def f134.b3 (I : Inp) (call : CallFn) (j : f134.Js) (v4 v5 v6 v39 v40 : AVal) (h : AHeap) : Rs :=
  bndP (pFieldAddr 1 v6) fun v43 =>
  bndP (pLoad1 I v43 h) fun v44 =>
  bndP (pIndexAddr 5 v5 v40) fun v48 =>
  bnd (call 161 [v48] h) fun v49 h1 =>
  bndP (pIndexAddr 1 v44 v40) fun v50 =>
  bnd (sStore 1 v50 v49 h1) fun _ h2 =>
  sCheck (sSame (lift (pLoad1 I v43 h1) h1) v44 && true) (
  j.2.2.2 v4 v5 v6 v39 v40 h2)
noncomputable def f134.b4 (I : Inp) (call : CallFn) (j : f134.Js) (v4 v5 v6 v39 v40 : AVal) (h : AHeap) : Rs :=
  bndP (pBin .add v40 (Z 1)) fun v51 =>
  j.2.1 v4 v5 v6 v39 v51 h
noncomputable def f134.e (I : Inp) (call : CallFn) (j : f134.Js) (v0 v1 : AVal) (h : AHeap) : Rs :=
  bnd (sAlloc [(Z 0), .nils] h) fun v4 h1 =>
  bndP (pEq P .false .ptr .true v0 .nilp h1) fun v9 =>
  bnd (sGuard v9 .false (some (v1, h1)) h1) fun v11 h2 =>
  bnd (sGuard v9 .false (lift (pBin .lss v11 (Z 0)) h2) h2) fun v12 h3 =>
  bndP (pPick v9 (.bool .true) v12) fun v13 =>
  bnd (sGuard v13 .false (some (v1, h3)) h3) fun v15 h4 =>
  bnd (sGuard v13 .false (some (v0, h4)) h4) fun v16 h5 =>
  bnd (sGuard v13 .false (lift (pNilCheck v16) h5) h5) fun v17 h6 =>
  bnd (sGuard v13 .false (lift (pFieldAddr 4 v17) h6) h6) fun v18 h7 =>
  bnd (sGuard v13 .false (lift (pLoad1 I v18 h7) h7) h7) fun v19 h8 =>
  bnd (sGuard v13 .false (lift (pLenSl v19) h8) h8) fun v20 h9 =>
  bnd (sGuard v13 .false (lift (pBin .geq v15 v20) h9) h9) fun v21 h10 =>
  bndP (pPick v13 (.bool .true) v21) fun v22 =>
  sCond v22 (
  j.1.1 v0 v1 v4 h10) (
  bndP (pBuild [(Z 0), .nils] []) fun v23 =>
  bnd (sStore 2 v4 v23 h10) fun _ h11 =>
  sRet (sCons (sResN I 2 v4 h11) (some [])) h11)
noncomputable def f134.J (I : Inp) (call : CallFn) (n : Nat) : f134.Js :=
  Nat.rec (motive := fun _ => f134.Js) (((fun _ _ _ _ => none), (fun _ _ _ => none)), ((fun _ _ _ _ _ _ => none), ((fun _ _ _ _ _ _ => none), (fun _ _ _ _ _ _ => none)))) (fun _ ih => ((f134.b0 I call ih, f134.b1 I call ih), (f134.b2 I call ih, (f134.b3 I call ih, f134.b4 I call ih)))) n
noncomputable def f134.JS (I : Inp) (call : CallFn) (n : Nat) : Jmp := fun id ρ h =>
  (Bool.rec (motive := fun _ => _) (Bool.rec (motive := fun _ => _) (Bool.rec (motive := fun _ => _) ((f134.J I call n).2.2.2 (ρ 4) (ρ 5) (ρ 6) (ρ 39) (ρ 40) h) ((f134.J I call n).2.2.1 (ρ 4) (ρ 5) (ρ 6) (ρ 39) (ρ 40) h) (Nat.blt id 4)) ((f134.J I call n).2.1 (ρ 4) (ρ 5) (ρ 6) (ρ 39) (ρ 40) h) (Nat.blt id 3)) (Bool.rec (motive := fun _ => _) ((f134.J I call n).1.2 (ρ 4) (ρ 6) h) ((f134.J I call n).1.1 (ρ 0) (ρ 1) (ρ 4) h) (Nat.blt id 1)) (Nat.blt id 2))
theorem f134.q0 (I : Inp) (call : CallFn) (n : Nat) (ρ : Fun) (h : AHeap) : f134.JS I call (n + 1) 0 ρ h = labC P I call (f134.JS I call n) c134.body 0 (finV I c134.results) 0 ρ h := by kernel_rfl
theorem f134.q1 (I : Inp) (call : CallFn) (n : Nat) (ρ : Fun) (h : AHeap) : f134.JS I call (n + 1) 1 ρ h = labC P I call (f134.JS I call n) c134.body 0 (finV I c134.results) 1 ρ h := by kernel_rfl
theorem f134.q2 (I : Inp) (call : CallFn) (n : Nat) (ρ : Fun) (h : AHeap) : f134.JS I call (n + 1) 2 ρ h = labC P I call (f134.JS I call n) c134.body 0 (finV I c134.results) 2 ρ h := by kernel_rfl
theorem f134.q3 (I : Inp) (call : CallFn) (n : Nat) (ρ : Fun) (h : AHeap) : f134.JS I call (n + 1) 3 ρ h = labC P I call (f134.JS I call n) c134.body 0 (finV I c134.results) 3 ρ h := by kernel_rfl
theorem f134.q4 (I : Inp) (call : CallFn) (n : Nat) (ρ : Fun) (h : AHeap) : f134.JS I call (n + 1) 4 ρ h = labC P I call (f134.JS I call n) c134.body 0 (finV I c134.results) 4 ρ h := by kernel_rfl
theorem f134.S (I : Inp) (F : Nat → Option AFn) (call : CallFn) : SFn ⟨P, I, F⟩ call c134 (f134.JS I call) :=
  ⟨fun id hid ρ h => by
    have hc : c134.body.cnt = 5 := by kernel_rfl
    rw [hc] at hid
    exact match id, hid with
    | 0, _ => rfl
    | 1, _ => rfl
    | 2, _ => rfl
    | 3, _ => rfl
    | 4, _ => rfl
    | id + 5, hid => absurd hid (by omega), fun n id hid ρ h => by
    have hc : c134.body.cnt = 5 := by kernel_rfl
    rw [hc] at hid
    exact match id, hid with
    | 0, _ => f134.q0 I call n ρ h
    | 1, _ => f134.q1 I call n ρ h
    | 2, _ => f134.q2 I call n ρ h
    | 3, _ => f134.q3 I call n ρ h
    | 4, _ => f134.q4 I call n ρ h
    | id + 5, hid => absurd hid (by omega)⟩
noncomputable def f134.run (I : Inp) : SF := fun call n a h =>
  match a with
  | [v0, v1] => f134.e I call (f134.J I call n) v0 v1 h
  | _ => none
theorem f134.qe (I : Inp) (call : CallFn) (n : Nat) (v0 v1 : AVal) (h : AHeap) : f134.e I call (f134.J I call n) v0 v1 h = execC P I call (f134.JS I call n) c134.body 0 (finV I c134.results) (argV [v0, v1]) h := by kernel_rfl
theorem f134.code : codeOf P 134 = some c134 := by kernel_rfl
theorem f134.ok (I : Inp) (F : Nat → Option AFn) (hF : F 134 = some (.code c134)) : SfOk P I F 134 (f134.run I) := by
  intro call hc n args h r hr
  unfold f134.run at hr
  split at hr
  · exact fn_sound (C := ⟨P, I, F⟩) (n := n) hc hF (Nat.le_of_ble_eq_true (by kernel_rfl)) (by kernel_rfl) (f134.S I F call) (by kernel_rfl) ((f134.qe I call n _ _ h).symm.trans hr)
  · cases hr
/-! (*haruspex/bitset.Set).Has -/
noncomputable def c135 : AFunc := (AFunc.mk 22 2 [(.tmp 4)] (.seq (.region [(S 4 (.move (.val (.bool .false))) .none)]) (.seq (.region [(M 5 1), (S 6 (.bin .geq (T 5) (V 0)) .none), (M 7 6), (S 8 (.move (T 1)) (.some (7, .true))), (S 9 (.bin .lss (T 8) (V 5000)) (.some (7, .true))), (S 10 (.pick (T 7) (T 9) (.val (.bool .false))) .none), (M 11 10), (S 12 (.move (T 0)) (.some (11, .true))), (S 13 (.move (T 1)) (.some (11, .true))), (S 14 (.bin .quo (T 13) (V 64)) (.some (11, .true))), (S 15 (.call 162 [(T 12), (T 14)]) (.some (11, .true))), (S 16 (.move (T 1)) (.some (11, .true))), (S 17 (.bin .rem (T 16) (V 64)) (.some (11, .true))), (S 18 (.bin .shr (T 15) (T 17)) (.some (11, .true))), (S 19 (.bin .and (T 18) (.val (.int .u64 (.ofNat 1)))) (.some (11, .true))), (S 20 (.bin .eql (T 19) (.val (.int .u64 (.ofNat 1)))) (.some (11, .true))), (S 21 (.pick (T 11) (T 20) (.val (.bool .false))) .none), (M 4 21)]) .ret)))
abbrev f135.Js : Type := Unit
noncomputable def f135.e (I : Inp) (call : CallFn) (j : f135.Js) (v0 v1 : AVal) (h : AHeap) : Rs :=
  bndP (pBin .geq v1 (Z 0)) fun v6 =>
  bnd (sGuard v6 .true (some (v1, h)) h) fun v8 h1 =>
  bnd (sGuard v6 .true (lift (pBin .lss v8 (Z 5000)) h1) h1) fun v9 h2 =>
  bndP (pPick v6 v9 (.bool .false)) fun v10 =>
  bnd (sGuard v10 .true (some (v0, h2)) h2) fun v12 h3 =>
  bnd (sGuard v10 .true (some (v1, h3)) h3) fun v13 h4 =>
  bnd (sGuard v10 .true (lift (pBin .quo v13 (Z 64)) h4) h4) fun v14 h5 =>
  bnd (sGuard v10 .true (call 162 [v12, v14] h5) h5) fun v15 h6 =>
  bnd (sGuard v10 .true (some (v1, h6)) h6) fun v16 h7 =>
  bnd (sGuard v10 .true (lift (pBin .rem v16 (Z 64)) h7) h7) fun v17 h8 =>
  bnd (sGuard v10 .true (lift (pBin .shr v15 v17) h8) h8) fun v18 h9 =>
  bnd (sGuard v10 .true (lift (pBin .and v18 (.int .u64 (.ofNat 1))) h9) h9) fun v19 h10 =>
  bnd (sGuard v10 .true (lift (pBin .eql v19 (.int .u64 (.ofNat 1))) h10) h10) fun v20 h11 =>
  bndP (pPick v10 v20 (.bool .false)) fun v21 =>
  some (v21, h11)
theorem f135.S (I : Inp) (F : Nat → Option AFn) (call : CallFn) : SFn ⟨P, I, F⟩ call c135 (fun _ _ _ _ => none) :=
  ⟨fun _ _ _ _ => rfl, fun n id hid => absurd hid (by rw [show c135.body.cnt = 0 by kernel_rfl]; omega)⟩
noncomputable def f135.run (I : Inp) : SF := fun call n a h =>
  match a with
  | [v0, v1] => f135.e I call () v0 v1 h
  | _ => none
theorem f135.qe (I : Inp) (call : CallFn) (n : Nat) (v0 v1 : AVal) (h : AHeap) : f135.e I call () v0 v1 h = execC P I call (fun _ _ _ => none) c135.body 0 (finV I c135.results) (argV [v0, v1]) h := by kernel_rfl
theorem f135.code : codeOf P 135 = some c135 := by kernel_rfl
theorem f135.ok (I : Inp) (F : Nat → Option AFn) (hF : F 135 = some (.code c135)) : SfOk P I F 135 (f135.run I) := by
  intro call hc n args h r hr
  unfold f135.run at hr
  split at hr
  · exact fn_sound (C := ⟨P, I, F⟩) (n := n) hc hF (Nat.le_of_ble_eq_true (by kernel_rfl)) (by kernel_rfl) (f135.S I F call) (by kernel_rfl) ((f135.qe I call n _ _ h).symm.trans hr)
  · cases hr
end Go.Proofs.YtechgpjdlkjjoaaGreatDoor.Sf
