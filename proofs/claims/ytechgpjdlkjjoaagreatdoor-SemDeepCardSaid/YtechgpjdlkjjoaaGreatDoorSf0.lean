/- The functions of the program by their labels, on values, part 0: what they compute the abstract machine computes. Conditions: none. -/
import Derived.Test.YtechgpjdlkjjoaaGreatDoorAmSim
import Derived.Test.YtechgpjdlkjjoaaGreatDoorProg
namespace Go.Proofs.YtechgpjdlkjjoaaGreatDoor.Sf
open Go.AM
set_option linter.unusedVariables false
noncomputable abbrev P : Program := Tryz.prog
abbrev Z (n : Nat) : AVal := .int .i64 (.ofNat n)
abbrev V (n : Nat) : AOpd := .val (.int .i64 (.ofNat n))
abbrev T (n : Nat) : AOpd := .tmp n
abbrev M (d x : Nat) : AOper := ⟨some d, .move (.tmp x), none⟩
abbrev S (d : Nat) (o : AOp) (g : Option (Nat × Bool)) : AOper := ⟨some d, o, g⟩
abbrev FA (d k x : Nat) : AOper := ⟨some d, .fieldAddr k (.tmp x), none⟩
abbrev L1 (d x : Nat) : AOper := ⟨some d, .load1 (.tmp x), none⟩
abbrev NC (d x : Nat) : AOper := ⟨some d, .nilCheck (.tmp x), none⟩
abbrev N : Bool × List Nat := (false, [])
abbrev Y : Bool × List Nat := (true, [])
/-! haruspex/haruspexlaw14.SemDeep -/
noncomputable def c9 : AFunc := (AFunc.mk 90 1 [(.tmp 2)] (.seq (.region [(S 2 (.move (.val (.bool .false))) .none)]) (.seq (.region [(S 10 (.call 16 []) .none), (M 3 10)]) (.seq (.seq (.region [(M 11 3), (S 12 (.un .not (T 11)) .none)]) (.cond (T 12) (.seq (.region [(S 2 (.move (.val (.bool .false))) .none)]) .ret) .skip)) (.seq (.seq (.region [(M 13 0), (S 14 (.bin .lss (T 13) (V 0)) .none), (M 15 14), (S 16 (.move (T 0)) (.some (15, .false))), (S 17 (.bin .gtr (T 16) (V 20)) (.some (15, .false))), (S 18 (.pick (T 15) (.val (.bool .true)) (T 17)) .none)]) (.cond (T 18) (.seq (.region [(S 2 (.move (.val (.bool .true))) .none)]) .ret) .skip)) (.seq (.region [(S 19 (.call 17 []) .none), (M 4 19)]) (.seq (.region [(M 20 4), (NC 21 20), (FA 22 4 21), (L1 23 22), (S 24 (.indexAddr 3 (T 23) (V 0)) .none), (M 5 24)]) (.seq (.seq (.region [(S 6 (.move (V 0)) .none)]) (.block 0 (.loop (.seq (.seq (.region [(M 25 6), (M 26 0), (S 27 (.bin .lss (T 25) (T 26)) .none)]) (.cond (T 27) .skip (.exit 0))) (.seq (.block 1 (.draw [(M 30 5), (NC 31 30), (FA 32 2 31), (L1 33 32), (M 34 5), (NC 35 34), (FA 36 2 35), (L1 37 36), (S 38 (.indexAddr 5 (T 37) (V 0)) .none), (FA 39 0 38), (L1 40 39), (M 41 6), (S 42 (.build [(Z 0), (Z 0), (Z 0), (Z 0), (Z 0), .nils] [(0, (1, (V 1))), (4, (1, (T 41)))]) .none), (S 43 (.buildSlice [(Z 0), (Z 0), (Z 0), (Z 0), (Z 0), .nils] 1 [(0, (6, (T 42)))]) .none), (S 44 (.append 6 64 (T 40) (T 43)) .none), (S 45 (.indexAddr 5 (T 33) (V 0)) .none), (FA 46 0 45), (AOper.mk .none (.store 1 (T 46) (T 44)) .none)] [N, N, N, (.false, [1, 2]), N, N, N, (.false, [1]), N, N, (.false, [1]), N, N, Y, Y, N, N, Y] 0)) (.region [(M 28 6), (S 29 (.bin .add (T 28) (V 1)) .none), (M 6 29)])))))) (.seq (.draw [(M 47 5), (NC 48 47), (FA 49 2 48), (L1 50 49), (M 51 5), (NC 52 51), (FA 53 2 52), (L1 54 53), (S 55 (.indexAddr 5 (T 54) (V 0)) .none), (FA 56 0 55), (L1 57 56), (S 58 (.build [(Z 0), (Z 0), (Z 0), (Z 0), (Z 0), .nils] [(0, (1, (V 12)))]) .none), (S 59 (.buildSlice [(Z 0), (Z 0), (Z 0), (Z 0), (Z 0), .nils] 1 [(0, (6, (T 58)))]) .none), (S 60 (.append 6 64 (T 57) (T 59)) .none), (S 61 (.indexAddr 5 (T 50) (V 0)) .none), (FA 62 0 61), (AOper.mk .none (.store 1 (T 62) (T 60)) .none)] [N, N, N, (.false, [1, 2]), N, N, N, (.false, [1]), N, N, (.false, [1]), N, Y, Y, N, N, Y] 0) (.seq (.region [(M 63 4), (S 64 (.call 22 [(T 63), (.val .nils)]) .none), (M 7 64)]) (.seq (.seq (.region [(S 8 (.move (V 0)) .none)]) (.block 2 (.loop (.seq (.seq (.region [(M 65 8), (M 66 0), (S 67 (.bin .add (T 66) (V 3)) .none), (S 68 (.bin .mul (V 60) (T 67)) .none), (S 69 (.bin .lss (T 65) (T 68)) .none)]) (.cond (T 69) .skip (.exit 2))) (.seq (.block 3 (.seq (.region [(M 72 7), (S 73 (.call 23 [(T 72)]) .none), (M 9 73)]) (.seq (.region [(M 74 9), (S 75 (.bin .neq (T 74) (V 0)) .none)]) (.cond (T 75) (.seq (.region [(M 76 9), (S 77 (.bin .eql (T 76) (V 6)) .none), (M 78 77), (S 79 (.move (T 7)) (.some (78, .true))), (S 80 (.call 21 [(T 79)]) (.some (78, .true))), (S 81 (.bin .eql (T 80) (V 60)) (.some (78, .true))), (S 82 (.pick (T 78) (T 81) (.val (.bool .false))) .none), (M 83 82), (S 84 (.move (T 7)) (.some (83, .true))), (S 85 (.call 20 [(T 84)]) (.some (83, .true))), (S 86 (.move (T 0)) (.some (83, .true))), (S 87 (.bin .add (T 86) (V 1)) (.some (83, .true))), (S 88 (.bin .eql (T 85) (T 87)) (.some (83, .true))), (S 89 (.pick (T 83) (T 88) (.val (.bool .false))) .none), (M 2 89)]) .ret) .skip)))) (.region [(M 70 8), (S 71 (.bin .add (T 70) (V 1)) .none), (M 8 71)])))))) (.seq (.region [(S 2 (.move (.val (.bool .false))) .none)]) .ret))))))))))))
abbrev f9.Js : Type := ((((AVal → AHeap → Rs) × (AVal → AHeap → Rs)) × ((AVal → AVal → AVal → AHeap → Rs) × ((AVal → AVal → AVal → AVal → AHeap → Rs) × (AVal → AVal → AVal → AVal → AHeap → Rs)))) × (((AVal → AVal → AVal → AVal → AHeap → Rs) × (AHeap → Rs)) × ((AVal → AVal → AVal → AHeap → Rs) × ((AVal → AVal → AVal → AHeap → Rs) × (AVal → AVal → AVal → AHeap → Rs)))))
noncomputable def f9.b0 (I : Inp) (call : CallFn) (j : f9.Js) (v0 : AVal) (h : AHeap) : Rs :=
  bndP (pBin .lss v0 (Z 0)) fun v14 =>
  bnd (sGuard v14 .false (some (v0, h)) h) fun v16 h1 =>
  bnd (sGuard v14 .false (lift (pBin .gtr v16 (Z 20)) h1) h1) fun v17 h2 =>
  bndP (pPick v14 (.bool .true) v17) fun v18 =>
  sCond v18 (
  j.1.1.2 v0 h2) (
  some ((.bool .true), h2))
noncomputable def f9.b1 (I : Inp) (call : CallFn) (j : f9.Js) (v0 : AVal) (h : AHeap) : Rs :=
  bnd (call 17 [] h) fun v19 h1 =>
  bndP (pNilCheck v19) fun v21 =>
  bndP (pFieldAddr 4 v21) fun v22 =>
  bndP (pLoad1 I v22 h1) fun v23 =>
  bndP (pIndexAddr 3 v23 (Z 0)) fun v24 =>
  j.1.2.2.1 v0 v19 v24 (Z 0) h1
noncomputable def f9.b2 (I : Inp) (call : CallFn) (j : f9.Js) (v0 v4 v5 : AVal) (h : AHeap) : Rs :=
  bndP (pNilCheck v5) fun v48 =>
  bndP (pFieldAddr 2 v48) fun v49 =>
  bndP (pLoad1 I v49 h) fun v50 =>
  bndP (pNilCheck v5) fun v52 =>
  bndP (pFieldAddr 2 v52) fun v53 =>
  bndP (pLoad1 I v53 h) fun v54 =>
  bndP (pIndexAddr 5 v54 (Z 0)) fun v55 =>
  bndP (pFieldAddr 0 v55) fun v56 =>
  bndP (pLoad1 I v56 h) fun v57 =>
  bndP (pBuild [(Z 0), (Z 0), (Z 0), (Z 0), (Z 0), .nils] [(0, 1, (Z 12))]) fun v58 =>
  bnd (sBuildSlice [(Z 0), (Z 0), (Z 0), (Z 0), (Z 0), .nils] 1 [(0, 6, v58)] h) fun v59 h1 =>
  bnd (sAppend I 6 64 v57 v59 h1) fun v60 h2 =>
  bndP (pIndexAddr 5 v50 (Z 0)) fun v61 =>
  bndP (pFieldAddr 0 v61) fun v62 =>
  bnd (sStore 1 v62 v60 h2) fun _ h3 =>
  sCheck (sSame (lift (pLoad1 I v49 h1) h1) v50 && (sSame (lift (pLoad1 I v49 h2) h2) v50 && true)) (
  sCheck (sSame (lift (pLoad1 I v53 h1) h1) v54 && true) (
  sCheck (sSame (lift (pLoad1 I v56 h1) h1) v57 && true) (
  bnd (call 22 [v4, .nils] h3) fun v64 h4 =>
  j.2.2.1 v0 v64 (Z 0) h4)))
noncomputable def f9.b3 (I : Inp) (call : CallFn) (j : f9.Js) (v0 v4 v5 v6 : AVal) (h : AHeap) : Rs :=
  bndP (pBin .lss v6 v0) fun v27 =>
  sCond v27 (
  j.1.2.1 v0 v4 v5 h) (
  j.1.2.2.2 v0 v4 v5 v6 h)
noncomputable def f9.b4 (I : Inp) (call : CallFn) (j : f9.Js) (v0 v4 v5 v6 : AVal) (h : AHeap) : Rs :=
  bndP (pNilCheck v5) fun v31 =>
  bndP (pFieldAddr 2 v31) fun v32 =>
  bndP (pLoad1 I v32 h) fun v33 =>
  bndP (pNilCheck v5) fun v35 =>
  bndP (pFieldAddr 2 v35) fun v36 =>
  bndP (pLoad1 I v36 h) fun v37 =>
  bndP (pIndexAddr 5 v37 (Z 0)) fun v38 =>
  bndP (pFieldAddr 0 v38) fun v39 =>
  bndP (pLoad1 I v39 h) fun v40 =>
  bndP (pBuild [(Z 0), (Z 0), (Z 0), (Z 0), (Z 0), .nils] [(0, 1, (Z 1)), (4, 1, v6)]) fun v42 =>
  bnd (sBuildSlice [(Z 0), (Z 0), (Z 0), (Z 0), (Z 0), .nils] 1 [(0, 6, v42)] h) fun v43 h1 =>
  bnd (sAppend I 6 64 v40 v43 h1) fun v44 h2 =>
  bndP (pIndexAddr 5 v33 (Z 0)) fun v45 =>
  bndP (pFieldAddr 0 v45) fun v46 =>
  bnd (sStore 1 v46 v44 h2) fun _ h3 =>
  sCheck (sSame (lift (pLoad1 I v32 h1) h1) v33 && (sSame (lift (pLoad1 I v32 h2) h2) v33 && true)) (
  sCheck (sSame (lift (pLoad1 I v36 h1) h1) v37 && true) (
  sCheck (sSame (lift (pLoad1 I v39 h1) h1) v40 && true) (
  j.2.1.1 v0 v4 v5 v6 h3)))
noncomputable def f9.b5 (I : Inp) (call : CallFn) (j : f9.Js) (v0 v4 v5 v6 : AVal) (h : AHeap) : Rs :=
  bndP (pBin .add v6 (Z 1)) fun v29 =>
  j.1.2.2.1 v0 v4 v5 v29 h
noncomputable def f9.b6 (I : Inp) (call : CallFn) (j : f9.Js) (h : AHeap) : Rs :=
  some ((.bool .false), h)
noncomputable def f9.b7 (I : Inp) (call : CallFn) (j : f9.Js) (v0 v7 v8 : AVal) (h : AHeap) : Rs :=
  bndP (pBin .add v0 (Z 3)) fun v67 =>
  bndP (pBin .mul (Z 60) v67) fun v68 =>
  bndP (pBin .lss v8 v68) fun v69 =>
  sCond v69 (
  j.2.1.2 h) (
  j.2.2.2.1 v0 v7 v8 h)
noncomputable def f9.b8 (I : Inp) (call : CallFn) (j : f9.Js) (v0 v7 v8 : AVal) (h : AHeap) : Rs :=
  bnd (call 23 [v7] h) fun v73 h1 =>
  bndP (pBin .neq v73 (Z 0)) fun v75 =>
  sCond v75 (
  j.2.2.2.2 v0 v7 v8 h1) (
  bndP (pBin .eql v73 (Z 6)) fun v77 =>
  bnd (sGuard v77 .true (some (v7, h1)) h1) fun v79 h2 =>
  bnd (sGuard v77 .true (call 21 [v79] h2) h2) fun v80 h3 =>
  bnd (sGuard v77 .true (lift (pBin .eql v80 (Z 60)) h3) h3) fun v81 h4 =>
  bndP (pPick v77 v81 (.bool .false)) fun v82 =>
  bnd (sGuard v82 .true (some (v7, h4)) h4) fun v84 h5 =>
  bnd (sGuard v82 .true (call 20 [v84] h5) h5) fun v85 h6 =>
  bnd (sGuard v82 .true (some (v0, h6)) h6) fun v86 h7 =>
  bnd (sGuard v82 .true (lift (pBin .add v86 (Z 1)) h7) h7) fun v87 h8 =>
  bnd (sGuard v82 .true (lift (pBin .eql v85 v87) h8) h8) fun v88 h9 =>
  bndP (pPick v82 v88 (.bool .false)) fun v89 =>
  some (v89, h9))
noncomputable def f9.b9 (I : Inp) (call : CallFn) (j : f9.Js) (v0 v7 v8 : AVal) (h : AHeap) : Rs :=
  bndP (pBin .add v8 (Z 1)) fun v71 =>
  j.2.2.1 v0 v7 v71 h
noncomputable def f9.e (I : Inp) (call : CallFn) (j : f9.Js) (v0 : AVal) (h : AHeap) : Rs :=
  bnd (call 16 [] h) fun v10 h1 =>
  bndP (pUn .not v10) fun v12 =>
  sCond v12 (
  j.1.1.1 v0 h1) (
  some ((.bool .false), h1))
noncomputable def f9.J (I : Inp) (call : CallFn) (n : Nat) : f9.Js :=
  Nat.rec (motive := fun _ => f9.Js) ((((fun _ _ => none), (fun _ _ => none)), ((fun _ _ _ _ => none), ((fun _ _ _ _ _ => none), (fun _ _ _ _ _ => none)))), (((fun _ _ _ _ _ => none), (fun _ => none)), ((fun _ _ _ _ => none), ((fun _ _ _ _ => none), (fun _ _ _ _ => none))))) (fun _ ih => (((f9.b0 I call ih, f9.b1 I call ih), (f9.b2 I call ih, (f9.b3 I call ih, f9.b4 I call ih))), ((f9.b5 I call ih, f9.b6 I call ih), (f9.b7 I call ih, (f9.b8 I call ih, f9.b9 I call ih))))) n
noncomputable def f9.JS (I : Inp) (call : CallFn) (n : Nat) : Jmp := fun id ρ h =>
  (Bool.rec (motive := fun _ => _) (Bool.rec (motive := fun _ => _) (Bool.rec (motive := fun _ => _) (Bool.rec (motive := fun _ => _) ((f9.J I call n).2.2.2.2 (ρ 0) (ρ 7) (ρ 8) h) ((f9.J I call n).2.2.2.1 (ρ 0) (ρ 7) (ρ 8) h) (Nat.blt id 9)) ((f9.J I call n).2.2.1 (ρ 0) (ρ 7) (ρ 8) h) (Nat.blt id 8)) (Bool.rec (motive := fun _ => _) ((f9.J I call n).2.1.2 h) ((f9.J I call n).2.1.1 (ρ 0) (ρ 4) (ρ 5) (ρ 6) h) (Nat.blt id 6)) (Nat.blt id 7)) (Bool.rec (motive := fun _ => _) (Bool.rec (motive := fun _ => _) (Bool.rec (motive := fun _ => _) ((f9.J I call n).1.2.2.2 (ρ 0) (ρ 4) (ρ 5) (ρ 6) h) ((f9.J I call n).1.2.2.1 (ρ 0) (ρ 4) (ρ 5) (ρ 6) h) (Nat.blt id 4)) ((f9.J I call n).1.2.1 (ρ 0) (ρ 4) (ρ 5) h) (Nat.blt id 3)) (Bool.rec (motive := fun _ => _) ((f9.J I call n).1.1.2 (ρ 0) h) ((f9.J I call n).1.1.1 (ρ 0) h) (Nat.blt id 1)) (Nat.blt id 2)) (Nat.blt id 5))
theorem f9.q0 (I : Inp) (call : CallFn) (n : Nat) (ρ : Fun) (h : AHeap) : f9.JS I call (n + 1) 0 ρ h = labC P I call (f9.JS I call n) c9.body 0 (finV I c9.results) 0 ρ h := by kernel_rfl
theorem f9.q1 (I : Inp) (call : CallFn) (n : Nat) (ρ : Fun) (h : AHeap) : f9.JS I call (n + 1) 1 ρ h = labC P I call (f9.JS I call n) c9.body 0 (finV I c9.results) 1 ρ h := by kernel_rfl
theorem f9.q2 (I : Inp) (call : CallFn) (n : Nat) (ρ : Fun) (h : AHeap) : f9.JS I call (n + 1) 2 ρ h = labC P I call (f9.JS I call n) c9.body 0 (finV I c9.results) 2 ρ h := by kernel_rfl
theorem f9.q3 (I : Inp) (call : CallFn) (n : Nat) (ρ : Fun) (h : AHeap) : f9.JS I call (n + 1) 3 ρ h = labC P I call (f9.JS I call n) c9.body 0 (finV I c9.results) 3 ρ h := by kernel_rfl
theorem f9.q4 (I : Inp) (call : CallFn) (n : Nat) (ρ : Fun) (h : AHeap) : f9.JS I call (n + 1) 4 ρ h = labC P I call (f9.JS I call n) c9.body 0 (finV I c9.results) 4 ρ h := by kernel_rfl
theorem f9.q5 (I : Inp) (call : CallFn) (n : Nat) (ρ : Fun) (h : AHeap) : f9.JS I call (n + 1) 5 ρ h = labC P I call (f9.JS I call n) c9.body 0 (finV I c9.results) 5 ρ h := by kernel_rfl
theorem f9.q6 (I : Inp) (call : CallFn) (n : Nat) (ρ : Fun) (h : AHeap) : f9.JS I call (n + 1) 6 ρ h = labC P I call (f9.JS I call n) c9.body 0 (finV I c9.results) 6 ρ h := by kernel_rfl
theorem f9.q7 (I : Inp) (call : CallFn) (n : Nat) (ρ : Fun) (h : AHeap) : f9.JS I call (n + 1) 7 ρ h = labC P I call (f9.JS I call n) c9.body 0 (finV I c9.results) 7 ρ h := by kernel_rfl
theorem f9.q8 (I : Inp) (call : CallFn) (n : Nat) (ρ : Fun) (h : AHeap) : f9.JS I call (n + 1) 8 ρ h = labC P I call (f9.JS I call n) c9.body 0 (finV I c9.results) 8 ρ h := by kernel_rfl
theorem f9.q9 (I : Inp) (call : CallFn) (n : Nat) (ρ : Fun) (h : AHeap) : f9.JS I call (n + 1) 9 ρ h = labC P I call (f9.JS I call n) c9.body 0 (finV I c9.results) 9 ρ h := by kernel_rfl
theorem f9.S (I : Inp) (F : Nat → Option AFn) (call : CallFn) : SFn ⟨P, I, F⟩ call c9 (f9.JS I call) :=
  ⟨fun id hid ρ h => by
    have hc : c9.body.cnt = 10 := by kernel_rfl
    rw [hc] at hid
    exact match id, hid with
    | 0, _ => rfl
    | 1, _ => rfl
    | 2, _ => rfl
    | 3, _ => rfl
    | 4, _ => rfl
    | 5, _ => rfl
    | 6, _ => rfl
    | 7, _ => rfl
    | 8, _ => rfl
    | 9, _ => rfl
    | id + 10, hid => absurd hid (by omega), fun n id hid ρ h => by
    have hc : c9.body.cnt = 10 := by kernel_rfl
    rw [hc] at hid
    exact match id, hid with
    | 0, _ => f9.q0 I call n ρ h
    | 1, _ => f9.q1 I call n ρ h
    | 2, _ => f9.q2 I call n ρ h
    | 3, _ => f9.q3 I call n ρ h
    | 4, _ => f9.q4 I call n ρ h
    | 5, _ => f9.q5 I call n ρ h
    | 6, _ => f9.q6 I call n ρ h
    | 7, _ => f9.q7 I call n ρ h
    | 8, _ => f9.q8 I call n ρ h
    | 9, _ => f9.q9 I call n ρ h
    | id + 10, hid => absurd hid (by omega)⟩
noncomputable def f9.run (I : Inp) : SF := fun call n a h =>
  match a with
  | [v0] => f9.e I call (f9.J I call n) v0 h
  | _ => none
theorem f9.qe (I : Inp) (call : CallFn) (n : Nat) (v0 : AVal) (h : AHeap) : f9.e I call (f9.J I call n) v0 h = execC P I call (f9.JS I call n) c9.body 0 (finV I c9.results) (argV [v0]) h := by kernel_rfl
theorem f9.code : codeOf P 9 = some c9 := by kernel_rfl
theorem f9.ok (I : Inp) (F : Nat → Option AFn) (hF : F 9 = some (.code c9)) : SfOk P I F 9 (f9.run I) := by
  intro call hc n args h r hr
  unfold f9.run at hr
  split at hr
  · exact fn_sound (C := ⟨P, I, F⟩) (n := n) hc hF (Nat.le_of_ble_eq_true (by kernel_rfl)) (by kernel_rfl) (f9.S I F call) (by kernel_rfl) ((f9.qe I call n _ h).symm.trans hr)
  · cases hr
/-! haruspex/haruspexlaw14.begun -/
noncomputable def c16 : AFunc := (AFunc.mk 43 0 [(.tmp 0)] (.seq (.region [(S 0 (.move (.val (.bool .false))) .none)]) (.seq (.region [(S 6 (.call 17 []) .none), (S 7 (.call 22 [(T 6), (.val .nils)]) .none), (M 1 7)]) (.seq (.seq (.region [(M 8 1), (S 9 (.eq .false .ptr .true (T 8) (.val .nilp)) .none)]) (.cond (T 9) (.seq (.region [(S 0 (.move (.val (.bool .false))) .none)]) .ret) .skip)) (.seq (.region [(M 10 1), (S 11 (.call 20 [(T 10)]) .none), (M 12 1), (S 13 (.call 21 [(T 12)]) .none), (M 2 11), (M 3 13)]) (.seq (.region [(M 14 1), (S 15 (.call 23 [(T 14)]) .none), (M 16 1), (S 17 (.call 23 [(T 16)]) .none), (M 4 15), (M 5 17)]) (.seq (.region [(M 18 2), (S 19 (.bin .eql (T 18) (V 0)) .none), (M 20 19), (S 21 (.move (T 3)) (.some (20, .true))), (S 22 (.bin .eql (T 21) (V 1)) (.some (20, .true))), (S 23 (.pick (T 20) (T 22) (.val (.bool .false))) .none), (M 24 23), (S 25 (.move (T 4)) (.some (24, .true))), (S 26 (.bin .eql (T 25) (V 0)) (.some (24, .true))), (S 27 (.pick (T 24) (T 26) (.val (.bool .false))) .none), (M 28 27), (S 29 (.move (T 5)) (.some (28, .true))), (S 30 (.bin .eql (T 29) (V 4)) (.some (28, .true))), (S 31 (.pick (T 28) (T 30) (.val (.bool .false))) .none), (M 32 31), (S 33 (.move (T 1)) (.some (32, .true))), (S 34 (.call 23 [(T 33)]) (.some (32, .true))), (S 35 (.bin .eql (T 34) (V 4)) (.some (32, .true))), (S 36 (.pick (T 32) (T 35) (.val (.bool .false))) .none), (M 37 36), (S 38 (.move (T 1)) (.some (37, .true))), (S 39 (.call 19 [(T 38)]) (.some (37, .true))), (S 40 (.field1 1 (T 39)) (.some (37, .true))), (S 41 (.bin .eql (T 40) (V 7)) (.some (37, .true))), (S 42 (.pick (T 37) (T 41) (.val (.bool .false))) .none), (M 0 42)]) .ret)))))))
abbrev f16.Js : Type := (AVal → AHeap → Rs)
noncomputable def f16.b0 (I : Inp) (call : CallFn) (j : f16.Js) (v1 : AVal) (h : AHeap) : Rs :=
  bnd (call 20 [v1] h) fun v11 h1 =>
  bnd (call 21 [v1] h1) fun v13 h2 =>
  bnd (call 23 [v1] h2) fun v15 h3 =>
  bnd (call 23 [v1] h3) fun v17 h4 =>
  bndP (pBin .eql v11 (Z 0)) fun v19 =>
  bnd (sGuard v19 .true (some (v13, h4)) h4) fun v21 h5 =>
  bnd (sGuard v19 .true (lift (pBin .eql v21 (Z 1)) h5) h5) fun v22 h6 =>
  bndP (pPick v19 v22 (.bool .false)) fun v23 =>
  bnd (sGuard v23 .true (some (v15, h6)) h6) fun v25 h7 =>
  bnd (sGuard v23 .true (lift (pBin .eql v25 (Z 0)) h7) h7) fun v26 h8 =>
  bndP (pPick v23 v26 (.bool .false)) fun v27 =>
  bnd (sGuard v27 .true (some (v17, h8)) h8) fun v29 h9 =>
  bnd (sGuard v27 .true (lift (pBin .eql v29 (Z 4)) h9) h9) fun v30 h10 =>
  bndP (pPick v27 v30 (.bool .false)) fun v31 =>
  bnd (sGuard v31 .true (some (v1, h10)) h10) fun v33 h11 =>
  bnd (sGuard v31 .true (call 23 [v33] h11) h11) fun v34 h12 =>
  bnd (sGuard v31 .true (lift (pBin .eql v34 (Z 4)) h12) h12) fun v35 h13 =>
  bndP (pPick v31 v35 (.bool .false)) fun v36 =>
  bnd (sGuard v36 .true (some (v1, h13)) h13) fun v38 h14 =>
  bnd (sGuard v36 .true (call 19 [v38] h14) h14) fun v39 h15 =>
  bnd (sGuard v36 .true (lift (pField1 1 v39) h15) h15) fun v40 h16 =>
  bnd (sGuard v36 .true (lift (pBin .eql v40 (Z 7)) h16) h16) fun v41 h17 =>
  bndP (pPick v36 v41 (.bool .false)) fun v42 =>
  some (v42, h17)
noncomputable def f16.e (I : Inp) (call : CallFn) (j : f16.Js) (h : AHeap) : Rs :=
  bnd (call 17 [] h) fun v6 h1 =>
  bnd (call 22 [v6, .nils] h1) fun v7 h2 =>
  bndP (pEq P .false .ptr .true v7 .nilp h2) fun v9 =>
  sCond v9 (
  j v7 h2) (
  some ((.bool .false), h2))
noncomputable def f16.J (I : Inp) (call : CallFn) (n : Nat) : f16.Js :=
  Nat.rec (motive := fun _ => f16.Js) (fun _ _ => none) (fun _ ih => f16.b0 I call ih) n
noncomputable def f16.JS (I : Inp) (call : CallFn) (n : Nat) : Jmp := fun id ρ h =>
  ((f16.J I call n) (ρ 1) h)
theorem f16.q0 (I : Inp) (call : CallFn) (n : Nat) (ρ : Fun) (h : AHeap) : f16.JS I call (n + 1) 0 ρ h = labC P I call (f16.JS I call n) c16.body 0 (finV I c16.results) 0 ρ h := by kernel_rfl
theorem f16.S (I : Inp) (F : Nat → Option AFn) (call : CallFn) : SFn ⟨P, I, F⟩ call c16 (f16.JS I call) :=
  ⟨fun id hid ρ h => by
    have hc : c16.body.cnt = 1 := by kernel_rfl
    rw [hc] at hid
    exact match id, hid with
    | 0, _ => rfl
    | id + 1, hid => absurd hid (by omega), fun n id hid ρ h => by
    have hc : c16.body.cnt = 1 := by kernel_rfl
    rw [hc] at hid
    exact match id, hid with
    | 0, _ => f16.q0 I call n ρ h
    | id + 1, hid => absurd hid (by omega)⟩
noncomputable def f16.run (I : Inp) : SF := fun call n a h =>
  match a with
  | [] => f16.e I call (f16.J I call n) h
  | _ => none
theorem f16.qe (I : Inp) (call : CallFn) (n : Nat) (h : AHeap) : f16.e I call (f16.J I call n) h = execC P I call (f16.JS I call n) c16.body 0 (finV I c16.results) (argV []) h := by kernel_rfl
theorem f16.code : codeOf P 16 = some c16 := by kernel_rfl
theorem f16.ok (I : Inp) (F : Nat → Option AFn) (hF : F 16 = some (.code c16)) : SfOk P I F 16 (f16.run I) := by
  intro call hc n args h r hr
  unfold f16.run at hr
  split at hr
  · exact fn_sound (C := ⟨P, I, F⟩) (n := n) hc hF (Nat.le_of_ble_eq_true (by kernel_rfl)) (by kernel_rfl) (f16.S I F call) (by kernel_rfl) ((f16.qe I call n h).symm.trans hr)
  · cases hr
/-! haruspex/haruspexlaw10.One -/
noncomputable def c17 : AFunc := (AFunc.mk 13 0 [(.tmp 0)] (.seq (.region [(S 0 (.move (.val .nilp)) .none)]) (.seq (.region [(S 1 (.build [.nils, (Z 0), (Z 0)] []) .none), (S 2 (.buildSlice [.nils, (Z 0), (Z 0)] 1 [(0, (3, (T 1)))]) .none), (S 3 (.build [(Z 0), (Z 0)] []) .none), (S 4 (.buildSlice [(Z 0), (Z 0)] 1 [(0, (2, (T 3)))]) .none), (S 5 (.build [(Z 0), (Z 0), (Z 0), (Z 0), (Z 0), .nils] [(0, (1, (V 1))), (4, (1, (V 7)))]) .none), (S 6 (.buildSlice [(Z 0), (Z 0), (Z 0), (Z 0), (Z 0), .nils] 1 [(0, (6, (T 5)))]) .none), (S 7 (.build [.nils, (Z 0), (Z 0), (Z 0), (Z 0)] [(0, (1, (T 6))), (1, (1, (V 3)))]) .none), (S 8 (.buildSlice [.nils, (Z 0), (Z 0), (Z 0), (Z 0)] 1 [(0, (5, (T 7)))]) .none), (S 9 (.build [(Z 0), .nils, .nils] [(1, (1, (T 4))), (2, (1, (T 8)))]) .none), (S 10 (.buildSlice [(Z 0), .nils, .nils] 1 [(0, (3, (T 9)))]) .none), (S 11 (.build [.nils, .nils, .nils, .nils, .nils, (Z 0)] [(1, (1, (T 2))), (4, (1, (T 10)))]) .none), (S 12 (.box (T 11)) .none), (M 0 12)]) .ret)))
abbrev f17.Js : Type := Unit
noncomputable def f17.e (I : Inp) (call : CallFn) (j : f17.Js) (h : AHeap) : Rs :=
  bndP (pBuild [.nils, (Z 0), (Z 0)] []) fun v1 =>
  bnd (sBuildSlice [.nils, (Z 0), (Z 0)] 1 [(0, 3, v1)] h) fun v2 h1 =>
  bndP (pBuild [(Z 0), (Z 0)] []) fun v3 =>
  bnd (sBuildSlice [(Z 0), (Z 0)] 1 [(0, 2, v3)] h1) fun v4 h2 =>
  bndP (pBuild [(Z 0), (Z 0), (Z 0), (Z 0), (Z 0), .nils] [(0, 1, (Z 1)), (4, 1, (Z 7))]) fun v5 =>
  bnd (sBuildSlice [(Z 0), (Z 0), (Z 0), (Z 0), (Z 0), .nils] 1 [(0, 6, v5)] h2) fun v6 h3 =>
  bndP (pBuild [.nils, (Z 0), (Z 0), (Z 0), (Z 0)] [(0, 1, v6), (1, 1, (Z 3))]) fun v7 =>
  bnd (sBuildSlice [.nils, (Z 0), (Z 0), (Z 0), (Z 0)] 1 [(0, 5, v7)] h3) fun v8 h4 =>
  bndP (pBuild [(Z 0), .nils, .nils] [(1, 1, v4), (2, 1, v8)]) fun v9 =>
  bnd (sBuildSlice [(Z 0), .nils, .nils] 1 [(0, 3, v9)] h4) fun v10 h5 =>
  bndP (pBuild [.nils, .nils, .nils, .nils, .nils, (Z 0)] [(1, 1, v2), (4, 1, v10)]) fun v11 =>
  bnd (sBox v11 h5) fun v12 h6 =>
  some (v12, h6)
theorem f17.S (I : Inp) (F : Nat → Option AFn) (call : CallFn) : SFn ⟨P, I, F⟩ call c17 (fun _ _ _ _ => none) :=
  ⟨fun _ _ _ _ => rfl, fun n id hid => absurd hid (by rw [show c17.body.cnt = 0 by kernel_rfl]; omega)⟩
noncomputable def f17.run (I : Inp) : SF := fun call n a h =>
  match a with
  | [] => f17.e I call () h
  | _ => none
theorem f17.qe (I : Inp) (call : CallFn) (n : Nat) (h : AHeap) : f17.e I call () h = execC P I call (fun _ _ _ => none) c17.body 0 (finV I c17.results) (argV []) h := by kernel_rfl
theorem f17.code : codeOf P 17 = some c17 := by kernel_rfl
theorem f17.ok (I : Inp) (F : Nat → Option AFn) (hF : F 17 = some (.code c17)) : SfOk P I F 17 (f17.run I) := by
  intro call hc n args h r hr
  unfold f17.run at hr
  split at hr
  · exact fn_sound (C := ⟨P, I, F⟩) (n := n) hc hF (Nat.le_of_ble_eq_true (by kernel_rfl)) (by kernel_rfl) (f17.S I F call) (by kernel_rfl) ((f17.qe I call n h).symm.trans hr)
  · cases hr
/-! (*haruspex/sem.Machine).Result -/
noncomputable def c19 : AFunc := (AFunc.mk 10 1 [(.cellN 2 3)] (.seq (.region [(S 2 (.alloc [(Z 0), (Z 0), (.bool .false)]) .none)]) (.seq (.seq (.region [(M 3 0), (S 4 (.eq .false .ptr .true (T 3) (.val .nilp)) .none)]) (.cond (T 4) (.seq (.region [(S 5 (.build [(Z 0), (Z 0), (.bool .false)] []) .none), (AOper.mk .none (.store 3 (T 2) (T 5)) .none)]) .ret) .skip)) (.seq (.region [(M 6 0), (NC 7 6), (FA 8 7 7), (S 9 (.loadN 3 (T 8)) .none), (AOper.mk .none (.store 3 (T 2) (T 9)) .none)]) .ret))))
abbrev f19.Js : Type := (AVal → AVal → AHeap → Rs)
noncomputable def f19.b0 (I : Inp) (call : CallFn) (j : f19.Js) (v0 v2 : AVal) (h : AHeap) : Rs :=
  bndP (pNilCheck v0) fun v7 =>
  bndP (pFieldAddr 7 v7) fun v8 =>
  bndP (pLoadN I 3 v8 h) fun v9 =>
  bnd (sStore 3 v2 v9 h) fun _ h1 =>
  sRet (sCons (sResN I 3 v2 h1) (some [])) h1
noncomputable def f19.e (I : Inp) (call : CallFn) (j : f19.Js) (v0 : AVal) (h : AHeap) : Rs :=
  bnd (sAlloc [(Z 0), (Z 0), (.bool .false)] h) fun v2 h1 =>
  bndP (pEq P .false .ptr .true v0 .nilp h1) fun v4 =>
  sCond v4 (
  j v0 v2 h1) (
  bndP (pBuild [(Z 0), (Z 0), (.bool .false)] []) fun v5 =>
  bnd (sStore 3 v2 v5 h1) fun _ h2 =>
  sRet (sCons (sResN I 3 v2 h2) (some [])) h2)
noncomputable def f19.J (I : Inp) (call : CallFn) (n : Nat) : f19.Js :=
  Nat.rec (motive := fun _ => f19.Js) (fun _ _ _ => none) (fun _ ih => f19.b0 I call ih) n
noncomputable def f19.JS (I : Inp) (call : CallFn) (n : Nat) : Jmp := fun id ρ h =>
  ((f19.J I call n) (ρ 0) (ρ 2) h)
theorem f19.q0 (I : Inp) (call : CallFn) (n : Nat) (ρ : Fun) (h : AHeap) : f19.JS I call (n + 1) 0 ρ h = labC P I call (f19.JS I call n) c19.body 0 (finV I c19.results) 0 ρ h := by kernel_rfl
theorem f19.S (I : Inp) (F : Nat → Option AFn) (call : CallFn) : SFn ⟨P, I, F⟩ call c19 (f19.JS I call) :=
  ⟨fun id hid ρ h => by
    have hc : c19.body.cnt = 1 := by kernel_rfl
    rw [hc] at hid
    exact match id, hid with
    | 0, _ => rfl
    | id + 1, hid => absurd hid (by omega), fun n id hid ρ h => by
    have hc : c19.body.cnt = 1 := by kernel_rfl
    rw [hc] at hid
    exact match id, hid with
    | 0, _ => f19.q0 I call n ρ h
    | id + 1, hid => absurd hid (by omega)⟩
noncomputable def f19.run (I : Inp) : SF := fun call n a h =>
  match a with
  | [v0] => f19.e I call (f19.J I call n) v0 h
  | _ => none
theorem f19.qe (I : Inp) (call : CallFn) (n : Nat) (v0 : AVal) (h : AHeap) : f19.e I call (f19.J I call n) v0 h = execC P I call (f19.JS I call n) c19.body 0 (finV I c19.results) (argV [v0]) h := by kernel_rfl
theorem f19.code : codeOf P 19 = some c19 := by kernel_rfl
theorem f19.ok (I : Inp) (F : Nat → Option AFn) (hF : F 19 = some (.code c19)) : SfOk P I F 19 (f19.run I) := by
  intro call hc n args h r hr
  unfold f19.run at hr
  split at hr
  · exact fn_sound (C := ⟨P, I, F⟩) (n := n) hc hF (Nat.le_of_ble_eq_true (by kernel_rfl)) (by kernel_rfl) (f19.S I F call) (by kernel_rfl) ((f19.qe I call n _ h).symm.trans hr)
  · cases hr
/-! (*haruspex/sem.Machine).At -/
noncomputable def c20 : AFunc := (AFunc.mk 10 1 [(.tmp 2)] (.seq (.region [(S 2 (.move (V 0)) .none)]) (.seq (.seq (.region [(M 3 0), (S 4 (.eq .false .ptr .true (T 3) (.val .nilp)) .none)]) (.cond (T 4) (.seq (.region [(S 2 (.move (.val (.int .i64 (.negSucc 0)))) .none)]) .ret) .skip)) (.seq (.region [(M 5 0), (S 6 (.call 40 [(T 5)]) .none), (NC 7 6), (FA 8 1 7), (L1 9 8), (M 2 9)]) .ret))))
abbrev f20.Js : Type := (AVal → AHeap → Rs)
noncomputable def f20.b0 (I : Inp) (call : CallFn) (j : f20.Js) (v0 : AVal) (h : AHeap) : Rs :=
  bnd (call 40 [v0] h) fun v6 h1 =>
  bndP (pNilCheck v6) fun v7 =>
  bndP (pFieldAddr 1 v7) fun v8 =>
  bndP (pLoad1 I v8 h1) fun v9 =>
  some (v9, h1)
noncomputable def f20.e (I : Inp) (call : CallFn) (j : f20.Js) (v0 : AVal) (h : AHeap) : Rs :=
  bndP (pEq P .false .ptr .true v0 .nilp h) fun v4 =>
  sCond v4 (
  j v0 h) (
  some ((.int .i64 (.negSucc 0)), h))
noncomputable def f20.J (I : Inp) (call : CallFn) (n : Nat) : f20.Js :=
  Nat.rec (motive := fun _ => f20.Js) (fun _ _ => none) (fun _ ih => f20.b0 I call ih) n
noncomputable def f20.JS (I : Inp) (call : CallFn) (n : Nat) : Jmp := fun id ρ h =>
  ((f20.J I call n) (ρ 0) h)
theorem f20.q0 (I : Inp) (call : CallFn) (n : Nat) (ρ : Fun) (h : AHeap) : f20.JS I call (n + 1) 0 ρ h = labC P I call (f20.JS I call n) c20.body 0 (finV I c20.results) 0 ρ h := by kernel_rfl
theorem f20.S (I : Inp) (F : Nat → Option AFn) (call : CallFn) : SFn ⟨P, I, F⟩ call c20 (f20.JS I call) :=
  ⟨fun id hid ρ h => by
    have hc : c20.body.cnt = 1 := by kernel_rfl
    rw [hc] at hid
    exact match id, hid with
    | 0, _ => rfl
    | id + 1, hid => absurd hid (by omega), fun n id hid ρ h => by
    have hc : c20.body.cnt = 1 := by kernel_rfl
    rw [hc] at hid
    exact match id, hid with
    | 0, _ => f20.q0 I call n ρ h
    | id + 1, hid => absurd hid (by omega)⟩
noncomputable def f20.run (I : Inp) : SF := fun call n a h =>
  match a with
  | [v0] => f20.e I call (f20.J I call n) v0 h
  | _ => none
theorem f20.qe (I : Inp) (call : CallFn) (n : Nat) (v0 : AVal) (h : AHeap) : f20.e I call (f20.J I call n) v0 h = execC P I call (f20.JS I call n) c20.body 0 (finV I c20.results) (argV [v0]) h := by kernel_rfl
theorem f20.code : codeOf P 20 = some c20 := by kernel_rfl
theorem f20.ok (I : Inp) (F : Nat → Option AFn) (hF : F 20 = some (.code c20)) : SfOk P I F 20 (f20.run I) := by
  intro call hc n args h r hr
  unfold f20.run at hr
  split at hr
  · exact fn_sound (C := ⟨P, I, F⟩) (n := n) hc hF (Nat.le_of_ble_eq_true (by kernel_rfl)) (by kernel_rfl) (f20.S I F call) (by kernel_rfl) ((f20.qe I call n _ h).symm.trans hr)
  · cases hr
/-! (*haruspex/sem.Machine).Depth -/
noncomputable def c21 : AFunc := (AFunc.mk 10 1 [(.tmp 2)] (.seq (.region [(S 2 (.move (V 0)) .none)]) (.seq (.seq (.region [(M 3 0), (S 4 (.eq .false .ptr .true (T 3) (.val .nilp)) .none)]) (.cond (T 4) (.seq (.region [(S 2 (.move (V 0)) .none)]) .ret) .skip)) (.seq (.region [(M 5 0), (NC 6 5), (FA 7 3 6), (L1 8 7), (S 9 (.lenSl (T 8)) .none), (M 2 9)]) .ret))))
abbrev f21.Js : Type := (AVal → AHeap → Rs)
noncomputable def f21.b0 (I : Inp) (call : CallFn) (j : f21.Js) (v0 : AVal) (h : AHeap) : Rs :=
  bndP (pNilCheck v0) fun v6 =>
  bndP (pFieldAddr 3 v6) fun v7 =>
  bndP (pLoad1 I v7 h) fun v8 =>
  bndP (pLenSl v8) fun v9 =>
  some (v9, h)
noncomputable def f21.e (I : Inp) (call : CallFn) (j : f21.Js) (v0 : AVal) (h : AHeap) : Rs :=
  bndP (pEq P .false .ptr .true v0 .nilp h) fun v4 =>
  sCond v4 (
  j v0 h) (
  some ((Z 0), h))
noncomputable def f21.J (I : Inp) (call : CallFn) (n : Nat) : f21.Js :=
  Nat.rec (motive := fun _ => f21.Js) (fun _ _ => none) (fun _ ih => f21.b0 I call ih) n
noncomputable def f21.JS (I : Inp) (call : CallFn) (n : Nat) : Jmp := fun id ρ h =>
  ((f21.J I call n) (ρ 0) h)
theorem f21.q0 (I : Inp) (call : CallFn) (n : Nat) (ρ : Fun) (h : AHeap) : f21.JS I call (n + 1) 0 ρ h = labC P I call (f21.JS I call n) c21.body 0 (finV I c21.results) 0 ρ h := by kernel_rfl
theorem f21.S (I : Inp) (F : Nat → Option AFn) (call : CallFn) : SFn ⟨P, I, F⟩ call c21 (f21.JS I call) :=
  ⟨fun id hid ρ h => by
    have hc : c21.body.cnt = 1 := by kernel_rfl
    rw [hc] at hid
    exact match id, hid with
    | 0, _ => rfl
    | id + 1, hid => absurd hid (by omega), fun n id hid ρ h => by
    have hc : c21.body.cnt = 1 := by kernel_rfl
    rw [hc] at hid
    exact match id, hid with
    | 0, _ => f21.q0 I call n ρ h
    | id + 1, hid => absurd hid (by omega)⟩
noncomputable def f21.run (I : Inp) : SF := fun call n a h =>
  match a with
  | [v0] => f21.e I call (f21.J I call n) v0 h
  | _ => none
theorem f21.qe (I : Inp) (call : CallFn) (n : Nat) (v0 : AVal) (h : AHeap) : f21.e I call (f21.J I call n) v0 h = execC P I call (f21.JS I call n) c21.body 0 (finV I c21.results) (argV [v0]) h := by kernel_rfl
theorem f21.code : codeOf P 21 = some c21 := by kernel_rfl
theorem f21.ok (I : Inp) (F : Nat → Option AFn) (hF : F 21 = some (.code c21)) : SfOk P I F 21 (f21.run I) := by
  intro call hc n args h r hr
  unfold f21.run at hr
  split at hr
  · exact fn_sound (C := ⟨P, I, F⟩) (n := n) hc hF (Nat.le_of_ble_eq_true (by kernel_rfl)) (by kernel_rfl) (f21.S I F call) (by kernel_rfl) ((f21.qe I call n _ h).symm.trans hr)
  · cases hr
/-! haruspex/sem.New -/
noncomputable def c22 : AFunc := (AFunc.mk 22 2 [(.tmp 4)] (.seq (.region [(S 4 (.move (.val .nilp)) .none)]) (.seq (.seq (.region [(M 6 0), (S 7 (.call 41 [(T 6)]) .none), (S 8 (.eq .true .iface .true (T 7) (.val .nili)) .none)]) (.cond (T 8) (.seq (.region [(S 4 (.move (.val .nilp)) .none)]) .ret) .skip)) (.seq (.region [(M 9 0), (M 10 1), (S 11 (.call 42 [(T 10)]) .none), (S 12 (.call 43 []) .none), (S 13 (.build [.nilp, .nils, .nilp, .nils, (Z 0), (Z 0), (.bool .false), (Z 0), (Z 0), (.bool .false)] [(0, (1, (T 9))), (1, (1, (T 11))), (2, (1, (T 12))), (5, (1, (.val (.int .i64 (.negSucc 0)))))]) .none), (S 14 (.box (T 13)) .none), (M 5 14)]) (.seq (.region [(M 15 5), (M 16 0), (NC 17 16), (FA 18 5 17), (L1 19 18), (S 20 (.call 44 [(T 15), (T 19), (.val .nils)]) .none)]) (.seq (.region [(M 21 5), (M 4 21)]) .ret))))))
abbrev f22.Js : Type := (AVal → AVal → AHeap → Rs)
noncomputable def f22.b0 (I : Inp) (call : CallFn) (j : f22.Js) (v0 v1 : AVal) (h : AHeap) : Rs :=
  bnd (call 42 [v1] h) fun v11 h1 =>
  bnd (call 43 [] h1) fun v12 h2 =>
  bndP (pBuild [.nilp, .nils, .nilp, .nils, (Z 0), (Z 0), (.bool .false), (Z 0), (Z 0), (.bool .false)] [(0, 1, v0), (1, 1, v11), (2, 1, v12), (5, 1, (.int .i64 (.negSucc 0)))]) fun v13 =>
  bnd (sBox v13 h2) fun v14 h3 =>
  bndP (pNilCheck v0) fun v17 =>
  bndP (pFieldAddr 5 v17) fun v18 =>
  bndP (pLoad1 I v18 h3) fun v19 =>
  bnd (call 44 [v14, v19, .nils] h3) fun v20 h4 =>
  some (v14, h4)
noncomputable def f22.e (I : Inp) (call : CallFn) (j : f22.Js) (v0 v1 : AVal) (h : AHeap) : Rs :=
  bnd (call 41 [v0] h) fun v7 h1 =>
  bndP (pEq P .true .iface .true v7 .nili h1) fun v8 =>
  sCond v8 (
  j v0 v1 h1) (
  some (.nilp, h1))
noncomputable def f22.J (I : Inp) (call : CallFn) (n : Nat) : f22.Js :=
  Nat.rec (motive := fun _ => f22.Js) (fun _ _ _ => none) (fun _ ih => f22.b0 I call ih) n
noncomputable def f22.JS (I : Inp) (call : CallFn) (n : Nat) : Jmp := fun id ρ h =>
  ((f22.J I call n) (ρ 0) (ρ 1) h)
theorem f22.q0 (I : Inp) (call : CallFn) (n : Nat) (ρ : Fun) (h : AHeap) : f22.JS I call (n + 1) 0 ρ h = labC P I call (f22.JS I call n) c22.body 0 (finV I c22.results) 0 ρ h := by kernel_rfl
theorem f22.S (I : Inp) (F : Nat → Option AFn) (call : CallFn) : SFn ⟨P, I, F⟩ call c22 (f22.JS I call) :=
  ⟨fun id hid ρ h => by
    have hc : c22.body.cnt = 1 := by kernel_rfl
    rw [hc] at hid
    exact match id, hid with
    | 0, _ => rfl
    | id + 1, hid => absurd hid (by omega), fun n id hid ρ h => by
    have hc : c22.body.cnt = 1 := by kernel_rfl
    rw [hc] at hid
    exact match id, hid with
    | 0, _ => f22.q0 I call n ρ h
    | id + 1, hid => absurd hid (by omega)⟩
noncomputable def f22.run (I : Inp) : SF := fun call n a h =>
  match a with
  | [v0, v1] => f22.e I call (f22.J I call n) v0 v1 h
  | _ => none
theorem f22.qe (I : Inp) (call : CallFn) (n : Nat) (v0 v1 : AVal) (h : AHeap) : f22.e I call (f22.J I call n) v0 v1 h = execC P I call (f22.JS I call n) c22.body 0 (finV I c22.results) (argV [v0, v1]) h := by kernel_rfl
theorem f22.code : codeOf P 22 = some c22 := by kernel_rfl
theorem f22.ok (I : Inp) (F : Nat → Option AFn) (hF : F 22 = some (.code c22)) : SfOk P I F 22 (f22.run I) := by
  intro call hc n args h r hr
  unfold f22.run at hr
  split at hr
  · exact fn_sound (C := ⟨P, I, F⟩) (n := n) hc hF (Nat.le_of_ble_eq_true (by kernel_rfl)) (by kernel_rfl) (f22.S I F call) (by kernel_rfl) ((f22.qe I call n _ _ h).symm.trans hr)
  · cases hr
/-! (*haruspex/sem.Machine).Step -/
noncomputable def c23 : AFunc := (AFunc.mk 64 1 [(.tmp 2)] (.seq (.region [(S 2 (.move (V 0)) .none)]) (.seq (.seq (.region [(M 6 0), (S 7 (.eq .false .ptr .true (T 6) (.val .nilp)) .none)]) (.cond (T 7) (.seq (.region [(S 2 (.move (V 4)) .none)]) .ret) .skip)) (.seq (.region [(M 8 0), (M 9 0), (NC 10 8), (FA 11 5 10), (AOper.mk .none (.store 1 (T 11) (.val (.int .i64 (.negSucc 0)))) .none), (NC 12 9), (FA 13 6 12), (AOper.mk .none (.store 1 (T 13) (.val (.bool .false))) .none)]) (.seq (.seq (.region [(M 14 0), (NC 15 14), (FA 16 4 15), (L1 17 16), (S 18 (.bin .neq (T 17) (V 0)) .none)]) (.cond (T 18) (.seq (.region [(M 19 0), (NC 20 19), (FA 21 4 20), (L1 22 21), (M 2 22)]) .ret) .skip)) (.seq (.region [(M 23 0), (S 24 (.call 40 [(T 23)]) .none), (M 3 24)]) (.seq (.seq (.draw [(M 26 0), (NC 27 26), (FA 28 0 27), (L1 29 28), (M 30 3), (NC 31 30), (FA 32 1 31), (L1 33 32), (S 34 (.call 45 [(T 29), (T 33)]) .none), (M 25 34), (S 35 (.extract (T 25) 0) .none), (S 4 (.resv 0 (.alloc [(Z 0), (Z 0), (Z 0), (Z 0), (Z 0), .nils])) .none), (AOper.mk .none (.store 6 (T 4) (T 35)) .none), (S 36 (.extract (T 25) 1) .none), (M 5 36)] [N, N, N, N, N, N, N, N, Y, N, N, Y, Y, N, N] 1) (.seq (.region [(M 37 5)]) (.cond (T 37) (.region [(M 38 0), (M 39 0), (M 40 3), (S 41 (.loadN 6 (T 4)) .none), (S 42 (.call 46 [(T 39), (T 40), (T 41)]) .none), (NC 43 38), (FA 44 4 43), (AOper.mk .none (.store 1 (T 44) (T 42)) .none)]) (.draw [(M 45 0), (M 46 0), (M 47 3), (M 48 0), (NC 49 48), (FA 50 0 49), (L1 51 50), (M 52 3), (NC 53 52), (FA 54 1 53), (L1 55 54), (S 56 (.call 48 [(T 51), (T 55)]) .none), (S 57 (.call 47 [(T 46), (T 47), (T 56)]) .none), (NC 58 45), (FA 59 4 58), (AOper.mk .none (.store 1 (T 59) (T 57)) .none)] [N, N, N, N, N, N, N, N, N, N, N, Y, Y, N, N, Y] 0)))) (.seq (.region [(M 60 0), (NC 61 60), (FA 62 4 61), (L1 63 62), (M 2 63)]) .ret))))))))
abbrev f23.Js : Type := ((AVal → AHeap → Rs) × ((AVal → AHeap → Rs) × (AVal → AHeap → Rs)))
noncomputable def f23.b0 (I : Inp) (call : CallFn) (j : f23.Js) (v0 : AVal) (h : AHeap) : Rs :=
  bndP (pNilCheck v0) fun v10 =>
  bndP (pFieldAddr 5 v10) fun v11 =>
  bnd (sStore 1 v11 (.int .i64 (.negSucc 0)) h) fun _ h1 =>
  bndP (pNilCheck v0) fun v12 =>
  bndP (pFieldAddr 6 v12) fun v13 =>
  bnd (sStore 1 v13 (.bool .false) h1) fun _ h2 =>
  bndP (pNilCheck v0) fun v15 =>
  bndP (pFieldAddr 4 v15) fun v16 =>
  bndP (pLoad1 I v16 h2) fun v17 =>
  bndP (pBin .neq v17 (Z 0)) fun v18 =>
  sCond v18 (
  j.2.1 v0 h2) (
  bndP (pNilCheck v0) fun v20 =>
  bndP (pFieldAddr 4 v20) fun v21 =>
  bndP (pLoad1 I v21 h2) fun v22 =>
  some (v22, h2))
noncomputable def f23.b1 (I : Inp) (call : CallFn) (j : f23.Js) (v0 : AVal) (h : AHeap) : Rs :=
  bnd (call 40 [v0] h) fun v24 h1 =>
  sKeep 0 h1 fun h2 =>
  bndP (pNilCheck v0) fun v27 =>
  bndP (pFieldAddr 0 v27) fun v28 =>
  bndP (pLoad1 I v28 h2) fun v29 =>
  bndP (pNilCheck v24) fun v31 =>
  bndP (pFieldAddr 1 v31) fun v32 =>
  bndP (pLoad1 I v32 h2) fun v33 =>
  bnd (call 45 [v29, v33] h2) fun v34 h3 =>
  bndP (pExtract v34 0) fun v35 =>
  bnd (sResvAlloc (h1.next + 0) [(Z 0), (Z 0), (Z 0), (Z 0), (Z 0), .nils] h3) fun v4 h4 =>
  bnd (sStore 6 v4 v35 h4) fun _ h5 =>
  bndP (pExtract v34 1) fun v36 =>
  sCond v36 (
  bndP (pNilCheck v0) fun v49 =>
  bndP (pFieldAddr 0 v49) fun v50 =>
  bndP (pLoad1 I v50 h5) fun v51 =>
  bndP (pNilCheck v24) fun v53 =>
  bndP (pFieldAddr 1 v53) fun v54 =>
  bndP (pLoad1 I v54 h5) fun v55 =>
  bnd (call 48 [v51, v55] h5) fun v56 h6 =>
  bnd (call 47 [v0, v24, v56] h6) fun v57 h7 =>
  bndP (pNilCheck v0) fun v58 =>
  bndP (pFieldAddr 4 v58) fun v59 =>
  bnd (sStore 1 v59 v57 h7) fun _ h8 =>
  j.2.2 v0 h8) (
  bndP (pLoadN I 6 v4 h5) fun v41 =>
  bnd (call 46 [v0, v24, v41] h5) fun v42 h9 =>
  bndP (pNilCheck v0) fun v43 =>
  bndP (pFieldAddr 4 v43) fun v44 =>
  bnd (sStore 1 v44 v42 h9) fun _ h10 =>
  j.2.2 v0 h10)
noncomputable def f23.b2 (I : Inp) (call : CallFn) (j : f23.Js) (v0 : AVal) (h : AHeap) : Rs :=
  bndP (pNilCheck v0) fun v61 =>
  bndP (pFieldAddr 4 v61) fun v62 =>
  bndP (pLoad1 I v62 h) fun v63 =>
  some (v63, h)
noncomputable def f23.e (I : Inp) (call : CallFn) (j : f23.Js) (v0 : AVal) (h : AHeap) : Rs :=
  bndP (pEq P .false .ptr .true v0 .nilp h) fun v7 =>
  sCond v7 (
  j.1 v0 h) (
  some ((Z 4), h))
noncomputable def f23.J (I : Inp) (call : CallFn) (n : Nat) : f23.Js :=
  Nat.rec (motive := fun _ => f23.Js) ((fun _ _ => none), ((fun _ _ => none), (fun _ _ => none))) (fun _ ih => (f23.b0 I call ih, (f23.b1 I call ih, f23.b2 I call ih))) n
noncomputable def f23.JS (I : Inp) (call : CallFn) (n : Nat) : Jmp := fun id ρ h =>
  (Bool.rec (motive := fun _ => _) (Bool.rec (motive := fun _ => _) ((f23.J I call n).2.2 (ρ 0) h) ((f23.J I call n).2.1 (ρ 0) h) (Nat.blt id 2)) ((f23.J I call n).1 (ρ 0) h) (Nat.blt id 1))
theorem f23.q0 (I : Inp) (call : CallFn) (n : Nat) (ρ : Fun) (h : AHeap) : f23.JS I call (n + 1) 0 ρ h = labC P I call (f23.JS I call n) c23.body 0 (finV I c23.results) 0 ρ h := by kernel_rfl
theorem f23.q1 (I : Inp) (call : CallFn) (n : Nat) (ρ : Fun) (h : AHeap) : f23.JS I call (n + 1) 1 ρ h = labC P I call (f23.JS I call n) c23.body 0 (finV I c23.results) 1 ρ h := by kernel_rfl
theorem f23.q2 (I : Inp) (call : CallFn) (n : Nat) (ρ : Fun) (h : AHeap) : f23.JS I call (n + 1) 2 ρ h = labC P I call (f23.JS I call n) c23.body 0 (finV I c23.results) 2 ρ h := by kernel_rfl
theorem f23.S (I : Inp) (F : Nat → Option AFn) (call : CallFn) : SFn ⟨P, I, F⟩ call c23 (f23.JS I call) :=
  ⟨fun id hid ρ h => by
    have hc : c23.body.cnt = 3 := by kernel_rfl
    rw [hc] at hid
    exact match id, hid with
    | 0, _ => rfl
    | 1, _ => rfl
    | 2, _ => rfl
    | id + 3, hid => absurd hid (by omega), fun n id hid ρ h => by
    have hc : c23.body.cnt = 3 := by kernel_rfl
    rw [hc] at hid
    exact match id, hid with
    | 0, _ => f23.q0 I call n ρ h
    | 1, _ => f23.q1 I call n ρ h
    | 2, _ => f23.q2 I call n ρ h
    | id + 3, hid => absurd hid (by omega)⟩
noncomputable def f23.run (I : Inp) : SF := fun call n a h =>
  match a with
  | [v0] => f23.e I call (f23.J I call n) v0 h
  | _ => none
theorem f23.qe (I : Inp) (call : CallFn) (n : Nat) (v0 : AVal) (h : AHeap) : f23.e I call (f23.J I call n) v0 h = execC P I call (f23.JS I call n) c23.body 0 (finV I c23.results) (argV [v0]) h := by kernel_rfl
theorem f23.code : codeOf P 23 = some c23 := by kernel_rfl
theorem f23.ok (I : Inp) (F : Nat → Option AFn) (hF : F 23 = some (.code c23)) : SfOk P I F 23 (f23.run I) := by
  intro call hc n args h r hr
  unfold f23.run at hr
  split at hr
  · exact fn_sound (C := ⟨P, I, F⟩) (n := n) hc hF (Nat.le_of_ble_eq_true (by kernel_rfl)) (by kernel_rfl) (f23.S I F call) (by kernel_rfl) ((f23.qe I call n _ h).symm.trans hr)
  · cases hr
/-! (*haruspex/sem.Machine).top -/
noncomputable def c40 : AFunc := (AFunc.mk 15 1 [(.tmp 2)] (.seq (.region [(S 2 (.move (.val .nilp)) .none)]) (.seq (.draw [(M 3 0), (NC 4 3), (FA 5 3 4), (L1 6 5), (M 7 0), (NC 8 7), (FA 9 3 8), (L1 10 9), (S 11 (.lenSl (T 10)) .none), (S 12 (.bin .sub (T 11) (V 1)) .none), (S 13 (.indexAddr 1 (T 6) (T 12)) .none), (L1 14 13), (M 2 14)] [N, N, N, N, N, N, N, N, N, N, N, N, N] 0) .ret)))
abbrev f40.Js : Type := Unit
noncomputable def f40.e (I : Inp) (call : CallFn) (j : f40.Js) (v0 : AVal) (h : AHeap) : Rs :=
  bndP (pNilCheck v0) fun v4 =>
  bndP (pFieldAddr 3 v4) fun v5 =>
  bndP (pLoad1 I v5 h) fun v6 =>
  bndP (pNilCheck v0) fun v8 =>
  bndP (pFieldAddr 3 v8) fun v9 =>
  bndP (pLoad1 I v9 h) fun v10 =>
  bndP (pLenSl v10) fun v11 =>
  bndP (pBin .sub v11 (Z 1)) fun v12 =>
  bndP (pIndexAddr 1 v6 v12) fun v13 =>
  bndP (pLoad1 I v13 h) fun v14 =>
  some (v14, h)
theorem f40.S (I : Inp) (F : Nat → Option AFn) (call : CallFn) : SFn ⟨P, I, F⟩ call c40 (fun _ _ _ _ => none) :=
  ⟨fun _ _ _ _ => rfl, fun n id hid => absurd hid (by rw [show c40.body.cnt = 0 by kernel_rfl]; omega)⟩
noncomputable def f40.run (I : Inp) : SF := fun call n a h =>
  match a with
  | [v0] => f40.e I call () v0 h
  | _ => none
theorem f40.qe (I : Inp) (call : CallFn) (n : Nat) (v0 : AVal) (h : AHeap) : f40.e I call () v0 h = execC P I call (fun _ _ _ => none) c40.body 0 (finV I c40.results) (argV [v0]) h := by kernel_rfl
theorem f40.code : codeOf P 40 = some c40 := by kernel_rfl
theorem f40.ok (I : Inp) (F : Nat → Option AFn) (hF : F 40 = some (.code c40)) : SfOk P I F 40 (f40.run I) := by
  intro call hc n args h r hr
  unfold f40.run at hr
  split at hr
  · exact fn_sound (C := ⟨P, I, F⟩) (n := n) hc hF (Nat.le_of_ble_eq_true (by kernel_rfl)) (by kernel_rfl) (f40.S I F call) (by kernel_rfl) ((f40.qe I call n _ h).symm.trans hr)
  · cases hr
/-! haruspex/wf.Check -/
noncomputable def c41 : AFunc := (AFunc.mk 23 1 [(.tmp 2)] (.seq (.region [(S 2 (.move (.val .nili)) .none)]) (.seq (.region [(M 6 0), (S 7 (.call 64 [(T 6)]) .none), (M 3 7)]) (.seq (.seq (.region [(M 8 3), (S 9 (.eq .false .iface .true (T 8) (.val .nili)) .none)]) (.cond (T 9) (.seq (.region [(S 2 (.move (.val .nili)) .none)]) .ret) .skip)) (.seq (.region [(M 11 3), (S 12 (.call 65 [(T 11)]) .none), (M 10 12), (S 13 (.extract (T 10) 0) .none), (S 14 (.extract (T 10) 1) .none), (S 4 (.alloc [(Z 0), (Z 0), (Z 0)]) .none), (AOper.mk .none (.store 3 (T 4) (T 13)) .none), (M 5 14)]) (.seq (.seq (.region [(M 15 5), (S 16 (.un .not (T 15)) .none)]) (.cond (T 16) (.region [(S 17 (.call 66 []) .none), (AOper.mk .none (.store 3 (T 4) (T 17)) .none)]) .skip)) (.seq (.draw [(M 18 3), (S 19 (.call 68 [(T 18)]) .none), (S 20 (.loadN 3 (T 4)) .none), (M 21 3), (S 22 (.call 67 [(T 19), (T 20), (T 21)]) .none), (M 2 22)] [N, Y, (.false, [0]), N, Y, N] 0) .ret)))))))
abbrev f41.Js : Type := ((AVal → AHeap → Rs) × (AVal → AVal → AHeap → Rs))
noncomputable def f41.b0 (I : Inp) (call : CallFn) (j : f41.Js) (v3 : AVal) (h : AHeap) : Rs :=
  bnd (call 65 [v3] h) fun v12 h1 =>
  bndP (pExtract v12 0) fun v13 =>
  bndP (pExtract v12 1) fun v14 =>
  bnd (sAlloc [(Z 0), (Z 0), (Z 0)] h1) fun v4 h2 =>
  bnd (sStore 3 v4 v13 h2) fun _ h3 =>
  bndP (pUn .not v14) fun v16 =>
  sCond v16 (
  j.2 v3 v4 h3) (
  bnd (call 66 [] h3) fun v17 h4 =>
  bnd (sStore 3 v4 v17 h4) fun _ h5 =>
  j.2 v3 v4 h5)
noncomputable def f41.b1 (I : Inp) (call : CallFn) (j : f41.Js) (v3 v4 : AVal) (h : AHeap) : Rs :=
  bnd (call 68 [v3] h) fun v19 h1 =>
  bndP (pLoadN I 3 v4 h1) fun v20 =>
  bnd (call 67 [v19, v20, v3] h1) fun v22 h2 =>
  sCheck (sSame (lift (pLoadN I 3 v4 h) h) v20 && true) (
  some (v22, h2))
noncomputable def f41.e (I : Inp) (call : CallFn) (j : f41.Js) (v0 : AVal) (h : AHeap) : Rs :=
  bnd (call 64 [v0] h) fun v7 h1 =>
  bndP (pEq P .false .iface .true v7 .nili h1) fun v9 =>
  sCond v9 (
  j.1 v7 h1) (
  some (.nili, h1))
noncomputable def f41.J (I : Inp) (call : CallFn) (n : Nat) : f41.Js :=
  Nat.rec (motive := fun _ => f41.Js) ((fun _ _ => none), (fun _ _ _ => none)) (fun _ ih => (f41.b0 I call ih, f41.b1 I call ih)) n
noncomputable def f41.JS (I : Inp) (call : CallFn) (n : Nat) : Jmp := fun id ρ h =>
  (Bool.rec (motive := fun _ => _) ((f41.J I call n).2 (ρ 3) (ρ 4) h) ((f41.J I call n).1 (ρ 3) h) (Nat.blt id 1))
theorem f41.q0 (I : Inp) (call : CallFn) (n : Nat) (ρ : Fun) (h : AHeap) : f41.JS I call (n + 1) 0 ρ h = labC P I call (f41.JS I call n) c41.body 0 (finV I c41.results) 0 ρ h := by kernel_rfl
theorem f41.q1 (I : Inp) (call : CallFn) (n : Nat) (ρ : Fun) (h : AHeap) : f41.JS I call (n + 1) 1 ρ h = labC P I call (f41.JS I call n) c41.body 0 (finV I c41.results) 1 ρ h := by kernel_rfl
theorem f41.S (I : Inp) (F : Nat → Option AFn) (call : CallFn) : SFn ⟨P, I, F⟩ call c41 (f41.JS I call) :=
  ⟨fun id hid ρ h => by
    have hc : c41.body.cnt = 2 := by kernel_rfl
    rw [hc] at hid
    exact match id, hid with
    | 0, _ => rfl
    | 1, _ => rfl
    | id + 2, hid => absurd hid (by omega), fun n id hid ρ h => by
    have hc : c41.body.cnt = 2 := by kernel_rfl
    rw [hc] at hid
    exact match id, hid with
    | 0, _ => f41.q0 I call n ρ h
    | 1, _ => f41.q1 I call n ρ h
    | id + 2, hid => absurd hid (by omega)⟩
noncomputable def f41.run (I : Inp) : SF := fun call n a h =>
  match a with
  | [v0] => f41.e I call (f41.J I call n) v0 h
  | _ => none
theorem f41.qe (I : Inp) (call : CallFn) (n : Nat) (v0 : AVal) (h : AHeap) : f41.e I call (f41.J I call n) v0 h = execC P I call (f41.JS I call n) c41.body 0 (finV I c41.results) (argV [v0]) h := by kernel_rfl
theorem f41.code : codeOf P 41 = some c41 := by kernel_rfl
theorem f41.ok (I : Inp) (F : Nat → Option AFn) (hF : F 41 = some (.code c41)) : SfOk P I F 41 (f41.run I) := by
  intro call hc n args h r hr
  unfold f41.run at hr
  split at hr
  · exact fn_sound (C := ⟨P, I, F⟩) (n := n) hc hF (Nat.le_of_ble_eq_true (by kernel_rfl)) (by kernel_rfl) (f41.S I F call) (by kernel_rfl) ((f41.qe I call n _ h).symm.trans hr)
  · cases hr
/-! slices.Clone[[]int64,int64] -/
noncomputable def c42 : AFunc := (AFunc.mk 8 1 [(.tmp 2)] (.seq (.region [(S 2 (.move (.val .nils)) .none)]) (.seq (.seq (.region [(M 3 0), (S 4 (.eq .false .slice .true (T 3) (.val .nils)) .none)]) (.cond (T 4) (.seq (.region [(S 2 (.move (.val .nils)) .none)]) .ret) .skip)) (.seq (.region [(S 5 (.buildSlice [(Z 0)] 0 []) .none), (M 6 0), (S 7 (.append 1 8 (T 5) (T 6)) .none), (M 2 7)]) .ret))))
abbrev f42.Js : Type := (AVal → AHeap → Rs)
noncomputable def f42.b0 (I : Inp) (call : CallFn) (j : f42.Js) (v0 : AVal) (h : AHeap) : Rs :=
  bnd (sBuildSlice [(Z 0)] 0 [] h) fun v5 h1 =>
  bnd (sAppend I 1 8 v5 v0 h1) fun v7 h2 =>
  some (v7, h2)
noncomputable def f42.e (I : Inp) (call : CallFn) (j : f42.Js) (v0 : AVal) (h : AHeap) : Rs :=
  bndP (pEq P .false .slice .true v0 .nils h) fun v4 =>
  sCond v4 (
  j v0 h) (
  some (.nils, h))
noncomputable def f42.J (I : Inp) (call : CallFn) (n : Nat) : f42.Js :=
  Nat.rec (motive := fun _ => f42.Js) (fun _ _ => none) (fun _ ih => f42.b0 I call ih) n
noncomputable def f42.JS (I : Inp) (call : CallFn) (n : Nat) : Jmp := fun id ρ h =>
  ((f42.J I call n) (ρ 0) h)
theorem f42.q0 (I : Inp) (call : CallFn) (n : Nat) (ρ : Fun) (h : AHeap) : f42.JS I call (n + 1) 0 ρ h = labC P I call (f42.JS I call n) c42.body 0 (finV I c42.results) 0 ρ h := by kernel_rfl
theorem f42.S (I : Inp) (F : Nat → Option AFn) (call : CallFn) : SFn ⟨P, I, F⟩ call c42 (f42.JS I call) :=
  ⟨fun id hid ρ h => by
    have hc : c42.body.cnt = 1 := by kernel_rfl
    rw [hc] at hid
    exact match id, hid with
    | 0, _ => rfl
    | id + 1, hid => absurd hid (by omega), fun n id hid ρ h => by
    have hc : c42.body.cnt = 1 := by kernel_rfl
    rw [hc] at hid
    exact match id, hid with
    | 0, _ => f42.q0 I call n ρ h
    | id + 1, hid => absurd hid (by omega)⟩
noncomputable def f42.run (I : Inp) : SF := fun call n a h =>
  match a with
  | [v0] => f42.e I call (f42.J I call n) v0 h
  | _ => none
theorem f42.qe (I : Inp) (call : CallFn) (n : Nat) (v0 : AVal) (h : AHeap) : f42.e I call (f42.J I call n) v0 h = execC P I call (f42.JS I call n) c42.body 0 (finV I c42.results) (argV [v0]) h := by kernel_rfl
theorem f42.code : codeOf P 42 = some c42 := by kernel_rfl
theorem f42.ok (I : Inp) (F : Nat → Option AFn) (hF : F 42 = some (.code c42)) : SfOk P I F 42 (f42.run I) := by
  intro call hc n args h r hr
  unfold f42.run at hr
  split at hr
  · exact fn_sound (C := ⟨P, I, F⟩) (n := n) hc hF (Nat.le_of_ble_eq_true (by kernel_rfl)) (by kernel_rfl) (f42.S I F call) (by kernel_rfl) ((f42.qe I call n _ h).symm.trans hr)
  · cases hr
/-! haruspex/value.New -/
noncomputable def c43 : AFunc := (AFunc.mk 3 0 [(.tmp 0)] (.seq (.region [(S 0 (.move (.val .nilp)) .none)]) (.seq (.region [(S 1 (.build [.nils] []) .none), (S 2 (.box (T 1)) .none), (M 0 2)]) .ret)))
abbrev f43.Js : Type := Unit
noncomputable def f43.e (I : Inp) (call : CallFn) (j : f43.Js) (h : AHeap) : Rs :=
  bndP (pBuild [.nils] []) fun v1 =>
  bnd (sBox v1 h) fun v2 h1 =>
  some (v2, h1)
theorem f43.S (I : Inp) (F : Nat → Option AFn) (call : CallFn) : SFn ⟨P, I, F⟩ call c43 (fun _ _ _ _ => none) :=
  ⟨fun _ _ _ _ => rfl, fun n id hid => absurd hid (by rw [show c43.body.cnt = 0 by kernel_rfl]; omega)⟩
noncomputable def f43.run (I : Inp) : SF := fun call n a h =>
  match a with
  | [] => f43.e I call () h
  | _ => none
theorem f43.qe (I : Inp) (call : CallFn) (n : Nat) (h : AHeap) : f43.e I call () h = execC P I call (fun _ _ _ => none) c43.body 0 (finV I c43.results) (argV []) h := by kernel_rfl
theorem f43.code : codeOf P 43 = some c43 := by kernel_rfl
theorem f43.ok (I : Inp) (F : Nat → Option AFn) (hF : F 43 = some (.code c43)) : SfOk P I F 43 (f43.run I) := by
  intro call hc n args h r hr
  unfold f43.run at hr
  split at hr
  · exact fn_sound (C := ⟨P, I, F⟩) (n := n) hc hF (Nat.le_of_ble_eq_true (by kernel_rfl)) (by kernel_rfl) (f43.S I F call) (by kernel_rfl) ((f43.qe I call n h).symm.trans hr)
  · cases hr
/-! (*haruspex/sem.Machine).enter -/
noncomputable def c44 : AFunc := (AFunc.mk 67 3 [] (.seq (.region [(M 10 0), (NC 11 10), (FA 12 0 11), (L1 13 12), (NC 14 13), (FA 15 4 14), (L1 16 15), (M 17 1), (S 18 (.indexAddr 3 (T 16) (T 17)) .none), (FA 19 1 18), (L1 20 19), (S 21 (.lenSl (T 20)) .none), (M 6 21)]) (.seq (.draw [(M 23 0), (NC 24 23), (FA 25 0 24), (L1 26 25), (M 27 1), (S 28 (.build [(Z 0), (Z 0), (Z 0)] [(0, (1, (T 27)))]) .none), (S 29 (.call 69 [(T 26), (T 28)]) .none), (M 22 1), (M 30 6), (S 31 (.resv 0 (.makeSlice [(Z 0), (Z 0), (.bool .false)] 24 (T 30) (T 30))) .none), (M 32 6), (S 33 (.resv 1 (.makeSlice [(.bool .false)] 1 (T 32) (T 32))) .none), (S 34 (.build [(Z 0), (Z 0), .nils, .nils] [(0, (1, (T 22))), (1, (1, (T 29))), (2, (1, (T 31))), (3, (1, (T 33)))]) .none), (S 35 (.resv 2 (.box (T 34))) .none), (M 7 35)] [N, N, N, N, N, N, Y, N, N, Y, N, Y, N, Y, N] 3) (.seq (.seq (.region [(M 36 2), (S 37 (.lenSl (T 36)) .none), (S 38 (.move (V 0)) .none)]) (.block 0 (.loop (.seq (.region [(S 39 (.bin .lss (T 38) (T 37)) .none)]) (.seq (.cond (T 39) .skip (.exit 0)) (.seq (.block 1 (.seq (.region [(M 40 38), (S 41 (.indexAddr 3 (T 36) (T 38)) .none), (S 42 (.loadN 3 (T 41)) .none), (S 9 (.alloc [(Z 0), (Z 0), (.bool .false)]) .none), (M 8 40), (AOper.mk .none (.store 3 (T 9) (T 42)) .none)]) (.draw [(M 43 7), (NC 44 43), (FA 45 2 44), (L1 46 45), (M 47 8), (M 48 7), (NC 49 48), (FA 50 3 49), (L1 51 50), (M 52 8), (S 53 (.loadN 3 (T 9)) .none), (S 54 (.indexAddr 3 (T 46) (T 47)) .none), (AOper.mk .none (.store 3 (T 54) (T 53)) .none), (S 55 (.indexAddr 1 (T 51) (T 52)) .none), (AOper.mk .none (.store 1 (T 55) (.val (.bool .true))) .none)] [N, N, N, N, N, N, N, N, N, N, N, N, Y, N, Y] 0))) (.region [(S 56 (.bin .add (T 38) (V 1)) .none), (M 38 56)]))))))) (.region [(M 57 0), (M 58 0), (NC 59 58), (FA 60 3 59), (L1 61 60), (M 62 7), (S 63 (.buildSlice [.nilp] 1 [(0, (1, (T 62)))]) .none), (S 64 (.append 1 8 (T 61) (T 63)) .none), (NC 65 57), (FA 66 3 65), (AOper.mk .none (.store 1 (T 66) (T 64)) .none)])))))
abbrev f44.Js : Type := (((AVal → AVal → AHeap → Rs) × (AVal → AVal → AVal → AVal → AVal → AHeap → Rs)) × ((AVal → AVal → AVal → AVal → AVal → AHeap → Rs) × (AVal → AVal → AVal → AVal → AVal → AHeap → Rs)))
noncomputable def f44.b0 (I : Inp) (call : CallFn) (j : f44.Js) (v0 v7 : AVal) (h : AHeap) : Rs :=
  bndP (pNilCheck v0) fun v59 =>
  bndP (pFieldAddr 3 v59) fun v60 =>
  bndP (pLoad1 I v60 h) fun v61 =>
  bnd (sBuildSlice [.nilp] 1 [(0, 1, v7)] h) fun v63 h1 =>
  bnd (sAppend I 1 8 v61 v63 h1) fun v64 h2 =>
  bndP (pNilCheck v0) fun v65 =>
  bndP (pFieldAddr 3 v65) fun v66 =>
  bnd (sStore 1 v66 v64 h2) fun _ h3 =>
  some (.tuple [], h3)
noncomputable def f44.b1 (I : Inp) (call : CallFn) (j : f44.Js) (v0 v7 v36 v37 v38 : AVal) (h : AHeap) : Rs :=
  bndP (pBin .lss v38 v37) fun v39 =>
  sCond v39 (
  j.1.1 v0 v7 h) (
  j.2.1 v0 v7 v36 v37 v38 h)
noncomputable def f44.b2 (I : Inp) (call : CallFn) (j : f44.Js) (v0 v7 v36 v37 v38 : AVal) (h : AHeap) : Rs :=
  bndP (pIndexAddr 3 v36 v38) fun v41 =>
  bndP (pLoadN I 3 v41 h) fun v42 =>
  bnd (sAlloc [(Z 0), (Z 0), (.bool .false)] h) fun v9 h1 =>
  bnd (sStore 3 v9 v42 h1) fun _ h2 =>
  bndP (pNilCheck v7) fun v44 =>
  bndP (pFieldAddr 2 v44) fun v45 =>
  bndP (pLoad1 I v45 h2) fun v46 =>
  bndP (pNilCheck v7) fun v49 =>
  bndP (pFieldAddr 3 v49) fun v50 =>
  bndP (pLoad1 I v50 h2) fun v51 =>
  bndP (pLoadN I 3 v9 h2) fun v53 =>
  bndP (pIndexAddr 3 v46 v38) fun v54 =>
  bnd (sStore 3 v54 v53 h2) fun _ h3 =>
  bndP (pIndexAddr 1 v51 v38) fun v55 =>
  bnd (sStore 1 v55 (.bool .true) h3) fun _ h4 =>
  j.2.2 v0 v7 v36 v37 v38 h4
noncomputable def f44.b3 (I : Inp) (call : CallFn) (j : f44.Js) (v0 v7 v36 v37 v38 : AVal) (h : AHeap) : Rs :=
  bndP (pBin .add v38 (Z 1)) fun v56 =>
  j.1.2 v0 v7 v36 v37 v56 h
noncomputable def f44.e (I : Inp) (call : CallFn) (j : f44.Js) (v0 v1 v2 : AVal) (h : AHeap) : Rs :=
  bndP (pNilCheck v0) fun v11 =>
  bndP (pFieldAddr 0 v11) fun v12 =>
  bndP (pLoad1 I v12 h) fun v13 =>
  bndP (pNilCheck v13) fun v14 =>
  bndP (pFieldAddr 4 v14) fun v15 =>
  bndP (pLoad1 I v15 h) fun v16 =>
  bndP (pIndexAddr 3 v16 v1) fun v18 =>
  bndP (pFieldAddr 1 v18) fun v19 =>
  bndP (pLoad1 I v19 h) fun v20 =>
  bndP (pLenSl v20) fun v21 =>
  sKeep 2 h fun h1 =>
  bndP (pNilCheck v0) fun v24 =>
  bndP (pFieldAddr 0 v24) fun v25 =>
  bndP (pLoad1 I v25 h1) fun v26 =>
  bndP (pBuild [(Z 0), (Z 0), (Z 0)] [(0, 1, v1)]) fun v28 =>
  bnd (call 69 [v26, v28] h1) fun v29 h2 =>
  bnd (sResvMake (h.next + 0) [(Z 0), (Z 0), (.bool .false)] 24 v21 v21 h2) fun v31 h3 =>
  bnd (sResvMake (h.next + 1) [(.bool .false)] 1 v21 v21 h3) fun v33 h4 =>
  bndP (pBuild [(Z 0), (Z 0), .nils, .nils] [(0, 1, v1), (1, 1, v29), (2, 1, v31), (3, 1, v33)]) fun v34 =>
  bnd (sResvBox (h.next + 2) v34 h4) fun v35 h5 =>
  bndP (pLenSl v2) fun v37 =>
  j.1.2 v0 v35 v2 v37 (Z 0) h5
noncomputable def f44.J (I : Inp) (call : CallFn) (n : Nat) : f44.Js :=
  Nat.rec (motive := fun _ => f44.Js) (((fun _ _ _ => none), (fun _ _ _ _ _ _ => none)), ((fun _ _ _ _ _ _ => none), (fun _ _ _ _ _ _ => none))) (fun _ ih => ((f44.b0 I call ih, f44.b1 I call ih), (f44.b2 I call ih, f44.b3 I call ih))) n
noncomputable def f44.JS (I : Inp) (call : CallFn) (n : Nat) : Jmp := fun id ρ h =>
  (Bool.rec (motive := fun _ => _) (Bool.rec (motive := fun _ => _) ((f44.J I call n).2.2 (ρ 0) (ρ 7) (ρ 36) (ρ 37) (ρ 38) h) ((f44.J I call n).2.1 (ρ 0) (ρ 7) (ρ 36) (ρ 37) (ρ 38) h) (Nat.blt id 3)) (Bool.rec (motive := fun _ => _) ((f44.J I call n).1.2 (ρ 0) (ρ 7) (ρ 36) (ρ 37) (ρ 38) h) ((f44.J I call n).1.1 (ρ 0) (ρ 7) h) (Nat.blt id 1)) (Nat.blt id 2))
theorem f44.q0 (I : Inp) (call : CallFn) (n : Nat) (ρ : Fun) (h : AHeap) : f44.JS I call (n + 1) 0 ρ h = labC P I call (f44.JS I call n) c44.body 0 (finV I c44.results) 0 ρ h := by kernel_rfl
theorem f44.q1 (I : Inp) (call : CallFn) (n : Nat) (ρ : Fun) (h : AHeap) : f44.JS I call (n + 1) 1 ρ h = labC P I call (f44.JS I call n) c44.body 0 (finV I c44.results) 1 ρ h := by kernel_rfl
theorem f44.q2 (I : Inp) (call : CallFn) (n : Nat) (ρ : Fun) (h : AHeap) : f44.JS I call (n + 1) 2 ρ h = labC P I call (f44.JS I call n) c44.body 0 (finV I c44.results) 2 ρ h := by kernel_rfl
theorem f44.q3 (I : Inp) (call : CallFn) (n : Nat) (ρ : Fun) (h : AHeap) : f44.JS I call (n + 1) 3 ρ h = labC P I call (f44.JS I call n) c44.body 0 (finV I c44.results) 3 ρ h := by kernel_rfl
theorem f44.S (I : Inp) (F : Nat → Option AFn) (call : CallFn) : SFn ⟨P, I, F⟩ call c44 (f44.JS I call) :=
  ⟨fun id hid ρ h => by
    have hc : c44.body.cnt = 4 := by kernel_rfl
    rw [hc] at hid
    exact match id, hid with
    | 0, _ => rfl
    | 1, _ => rfl
    | 2, _ => rfl
    | 3, _ => rfl
    | id + 4, hid => absurd hid (by omega), fun n id hid ρ h => by
    have hc : c44.body.cnt = 4 := by kernel_rfl
    rw [hc] at hid
    exact match id, hid with
    | 0, _ => f44.q0 I call n ρ h
    | 1, _ => f44.q1 I call n ρ h
    | 2, _ => f44.q2 I call n ρ h
    | 3, _ => f44.q3 I call n ρ h
    | id + 4, hid => absurd hid (by omega)⟩
noncomputable def f44.run (I : Inp) : SF := fun call n a h =>
  match a with
  | [v0, v1, v2] => f44.e I call (f44.J I call n) v0 v1 v2 h
  | _ => none
theorem f44.qe (I : Inp) (call : CallFn) (n : Nat) (v0 v1 v2 : AVal) (h : AHeap) : f44.e I call (f44.J I call n) v0 v1 v2 h = execC P I call (f44.JS I call n) c44.body 0 (finV I c44.results) (argV [v0, v1, v2]) h := by kernel_rfl
theorem f44.code : codeOf P 44 = some c44 := by kernel_rfl
theorem f44.ok (I : Inp) (F : Nat → Option AFn) (hF : F 44 = some (.code c44)) : SfOk P I F 44 (f44.run I) := by
  intro call hc n args h r hr
  unfold f44.run at hr
  split at hr
  · exact fn_sound (C := ⟨P, I, F⟩) (n := n) hc hF (Nat.le_of_ble_eq_true (by kernel_rfl)) (by kernel_rfl) (f44.S I F call) (by kernel_rfl) ((f44.qe I call n _ _ _ h).symm.trans hr)
  · cases hr
/-! haruspex/ir.At -/
noncomputable def c45 : AFunc := (AFunc.mk 38 2 [(.cellN 4 6), (.tmp 5)] (.seq (.region [(S 4 (.alloc [(Z 0), (Z 0), (Z 0), (Z 0), (Z 0), .nils]) .none), (S 5 (.move (.val (.bool .false))) .none)]) (.seq (.region [(M 10 0), (M 11 1), (S 12 (.call 70 [(T 10), (T 11)]) .none), (M 9 12), (S 13 (.extract (T 9) 0) .none), (S 14 (.extract (T 9) 1) .none), (S 6 (.alloc [(Z 0), (Z 0), (Z 0)]) .none), (AOper.mk .none (.store 3 (T 6) (T 13)) .none), (M 7 14)]) (.seq (.seq (.region [(M 15 7), (S 16 (.un .not (T 15)) .none)]) (.cond (T 16) (.seq (.region [(S 17 (.build [(Z 0), (Z 0), (Z 0), (Z 0), (Z 0), .nils] []) .none), (AOper.mk .none (.store 6 (T 4) (T 17)) .none), (S 5 (.move (.val (.bool .false))) .none)]) .ret) .skip)) (.seq (.region [(M 18 0), (S 19 (.loadN 3 (T 6)) .none), (S 20 (.call 71 [(T 18), (T 19)]) .none), (M 8 20)]) (.seq (.seq (.draw [(FA 21 2 6), (L1 22 21), (M 23 8), (NC 24 23), (FA 25 0 24), (L1 26 25), (S 27 (.lenSl (T 26)) .none), (S 28 (.bin .eql (T 22) (T 27)) .none)] [N, N, N, N, N, N, N, N] 0) (.cond (T 28) (.seq (.region [(S 29 (.build [(Z 0), (Z 0), (Z 0), (Z 0), (Z 0), .nils] []) .none), (AOper.mk .none (.store 6 (T 4) (T 29)) .none), (S 5 (.move (.val (.bool .false))) .none)]) .ret) .skip)) (.seq (.draw [(M 30 8), (NC 31 30), (FA 32 0 31), (L1 33 32), (FA 34 2 6), (L1 35 34), (S 36 (.indexAddr 6 (T 33) (T 35)) .none), (S 37 (.loadN 6 (T 36)) .none), (AOper.mk .none (.store 6 (T 4) (T 37)) .none), (S 5 (.move (.val (.bool .true))) .none)] [N, N, N, N, N, N, N, N, Y, N] 0) .ret)))))))
abbrev f45.Js : Type := ((AVal → AVal → AVal → AHeap → Rs) × (AVal → AVal → AVal → AHeap → Rs))
noncomputable def f45.b0 (I : Inp) (call : CallFn) (j : f45.Js) (v0 v4 v6 : AVal) (h : AHeap) : Rs :=
  bndP (pLoadN I 3 v6 h) fun v19 =>
  bnd (call 71 [v0, v19] h) fun v20 h1 =>
  bndP (pFieldAddr 2 v6) fun v21 =>
  bndP (pLoad1 I v21 h1) fun v22 =>
  bndP (pNilCheck v20) fun v24 =>
  bndP (pFieldAddr 0 v24) fun v25 =>
  bndP (pLoad1 I v25 h1) fun v26 =>
  bndP (pLenSl v26) fun v27 =>
  bndP (pBin .eql v22 v27) fun v28 =>
  sCond v28 (
  j.2 v4 v6 v20 h1) (
  bndP (pBuild [(Z 0), (Z 0), (Z 0), (Z 0), (Z 0), .nils] []) fun v29 =>
  bnd (sStore 6 v4 v29 h1) fun _ h2 =>
  sRet (sCons (sResN I 6 v4 h2) (sCons (some (.bool .false)) (some []))) h2)
noncomputable def f45.b1 (I : Inp) (call : CallFn) (j : f45.Js) (v4 v6 v8 : AVal) (h : AHeap) : Rs :=
  bndP (pNilCheck v8) fun v31 =>
  bndP (pFieldAddr 0 v31) fun v32 =>
  bndP (pLoad1 I v32 h) fun v33 =>
  bndP (pFieldAddr 2 v6) fun v34 =>
  bndP (pLoad1 I v34 h) fun v35 =>
  bndP (pIndexAddr 6 v33 v35) fun v36 =>
  bndP (pLoadN I 6 v36 h) fun v37 =>
  bnd (sStore 6 v4 v37 h) fun _ h1 =>
  sRet (sCons (sResN I 6 v4 h1) (sCons (some (.bool .true)) (some []))) h1
noncomputable def f45.e (I : Inp) (call : CallFn) (j : f45.Js) (v0 v1 : AVal) (h : AHeap) : Rs :=
  bnd (sAlloc [(Z 0), (Z 0), (Z 0), (Z 0), (Z 0), .nils] h) fun v4 h1 =>
  bnd (call 70 [v0, v1] h1) fun v12 h2 =>
  bndP (pExtract v12 0) fun v13 =>
  bndP (pExtract v12 1) fun v14 =>
  bnd (sAlloc [(Z 0), (Z 0), (Z 0)] h2) fun v6 h3 =>
  bnd (sStore 3 v6 v13 h3) fun _ h4 =>
  bndP (pUn .not v14) fun v16 =>
  sCond v16 (
  j.1 v0 v4 v6 h4) (
  bndP (pBuild [(Z 0), (Z 0), (Z 0), (Z 0), (Z 0), .nils] []) fun v17 =>
  bnd (sStore 6 v4 v17 h4) fun _ h5 =>
  sRet (sCons (sResN I 6 v4 h5) (sCons (some (.bool .false)) (some []))) h5)
noncomputable def f45.J (I : Inp) (call : CallFn) (n : Nat) : f45.Js :=
  Nat.rec (motive := fun _ => f45.Js) ((fun _ _ _ _ => none), (fun _ _ _ _ => none)) (fun _ ih => (f45.b0 I call ih, f45.b1 I call ih)) n
noncomputable def f45.JS (I : Inp) (call : CallFn) (n : Nat) : Jmp := fun id ρ h =>
  (Bool.rec (motive := fun _ => _) ((f45.J I call n).2 (ρ 4) (ρ 6) (ρ 8) h) ((f45.J I call n).1 (ρ 0) (ρ 4) (ρ 6) h) (Nat.blt id 1))
theorem f45.q0 (I : Inp) (call : CallFn) (n : Nat) (ρ : Fun) (h : AHeap) : f45.JS I call (n + 1) 0 ρ h = labC P I call (f45.JS I call n) c45.body 0 (finV I c45.results) 0 ρ h := by kernel_rfl
theorem f45.q1 (I : Inp) (call : CallFn) (n : Nat) (ρ : Fun) (h : AHeap) : f45.JS I call (n + 1) 1 ρ h = labC P I call (f45.JS I call n) c45.body 0 (finV I c45.results) 1 ρ h := by kernel_rfl
theorem f45.S (I : Inp) (F : Nat → Option AFn) (call : CallFn) : SFn ⟨P, I, F⟩ call c45 (f45.JS I call) :=
  ⟨fun id hid ρ h => by
    have hc : c45.body.cnt = 2 := by kernel_rfl
    rw [hc] at hid
    exact match id, hid with
    | 0, _ => rfl
    | 1, _ => rfl
    | id + 2, hid => absurd hid (by omega), fun n id hid ρ h => by
    have hc : c45.body.cnt = 2 := by kernel_rfl
    rw [hc] at hid
    exact match id, hid with
    | 0, _ => f45.q0 I call n ρ h
    | 1, _ => f45.q1 I call n ρ h
    | id + 2, hid => absurd hid (by omega)⟩
noncomputable def f45.run (I : Inp) : SF := fun call n a h =>
  match a with
  | [v0, v1] => f45.e I call (f45.J I call n) v0 v1 h
  | _ => none
theorem f45.qe (I : Inp) (call : CallFn) (n : Nat) (v0 v1 : AVal) (h : AHeap) : f45.e I call (f45.J I call n) v0 v1 h = execC P I call (f45.JS I call n) c45.body 0 (finV I c45.results) (argV [v0, v1]) h := by kernel_rfl
theorem f45.code : codeOf P 45 = some c45 := by kernel_rfl
theorem f45.ok (I : Inp) (F : Nat → Option AFn) (hF : F 45 = some (.code c45)) : SfOk P I F 45 (f45.run I) := by
  intro call hc n args h r hr
  unfold f45.run at hr
  split at hr
  · exact fn_sound (C := ⟨P, I, F⟩) (n := n) hc hF (Nat.le_of_ble_eq_true (by kernel_rfl)) (by kernel_rfl) (f45.S I F call) (by kernel_rfl) ((f45.qe I call n _ _ h).symm.trans hr)
  · cases hr
/-! (*haruspex/sem.Machine).do -/
noncomputable def c46 : AFunc := (AFunc.mk 105 3 [(.tmp 6)] (.seq (.region [(S 5 (.box (T 2)) .none), (S 6 (.move (V 0)) .none)]) (.seq (.seq (.region [(M 11 0), (M 12 1), (S 13 (.loadN 6 (T 5)) .none), (S 14 (.call 72 [(T 11), (T 12), (T 13)]) .none), (M 10 14), (S 15 (.extract (T 10) 0) .none), (S 16 (.extract (T 10) 1) .none), (S 7 (.alloc [(Z 0), (Z 0), (.bool .false)]) .none), (AOper.mk .none (.store 3 (T 7) (T 15)) .none), (M 8 16)]) (.seq (.region [(M 17 8)]) (.cond (T 17) (.seq (.region [(M 18 1), (FA 19 1 5), (L1 20 19), (S 21 (.loadN 3 (T 7)) .none), (S 22 (.call 73 [(T 18), (T 20), (T 21)]) .none), (M 6 22)]) .ret) .skip))) (.seq (.seq (.region [(FA 23 0 5), (L1 24 23)]) (.block 0 (.seq (.region [(S 26 (.bin .eql (T 24) (V 5)) .none), (M 25 26)]) (.cond (T 25) (.seq (.draw [(M 27 0), (NC 28 27), (FA 29 2 28), (L1 30 29), (M 31 1), (NC 32 31), (FA 33 1 32), (L1 34 33), (M 35 0), (NC 36 35), (FA 37 0 36), (L1 38 37), (NC 39 38), (FA 40 0 39), (L1 41 40), (M 42 0), (NC 43 42), (FA 44 0 43), (L1 45 44), (NC 46 45), (FA 47 4 46), (L1 48 47), (M 49 1), (NC 50 49), (FA 51 0 50), (L1 52 51), (S 53 (.indexAddr 3 (T 48) (T 52)) .none), (FA 54 1 53), (L1 55 54), (FA 56 1 5), (L1 57 56), (S 58 (.indexAddr 2 (T 55) (T 57)) .none), (FA 59 1 58), (L1 60 59), (S 61 (.indexAddr 1 (T 41) (T 60)) .none), (L1 62 61), (S 63 (.call 74 [(T 30), (T 34), (T 62)]) .none), (M 9 63)] [N, N, N, N, N, N, N, N, N, N, N, N, N, N, N, N, N, N, N, N, N, N, N, N, N, N, N, N, N, N, N, N, N, N, N, N, Y, N] 0) (.seq (.seq (.region [(M 64 9), (S 65 (.bin .eql (T 64) (V 0)) .none)]) (.cond (T 65) (.seq (.region [(S 6 (.move (V 6)) .none)]) .ret) .skip)) (.seq (.region [(M 66 1), (FA 67 1 5), (L1 68 67), (M 69 9), (S 70 (.build [(Z 0), (Z 0), (.bool .false)] [(0, (1, (V 2))), (1, (1, (T 69)))]) .none), (S 71 (.call 73 [(T 66), (T 68), (T 70)]) .none), (M 6 71)]) .ret))) (.seq (.region [(S 73 (.bin .eql (T 24) (V 15)) .none), (M 72 73)]) (.cond (T 72) (.seq (.draw [(M 74 0), (M 75 1), (NC 76 75), (FA 77 2 76), (L1 78 77), (FA 79 2 5), (L1 80 79), (S 81 (.indexAddr 3 (T 78) (T 80)) .none), (FA 82 2 81), (L1 83 82), (NC 84 74), (FA 85 6 84), (AOper.mk .none (.store 1 (T 85) (T 83)) .none)] [N, N, N, N, N, N, N, N, N, N, N, N, Y] 0) (.seq (.region [(M 86 1), (NC 87 86), (FA 88 1 87), (L1 89 88), (S 90 (.bin .add (T 89) (V 1)) .none), (NC 91 86), (FA 92 1 91), (AOper.mk .none (.store 1 (T 92) (T 90)) .none)]) (.seq (.region [(S 6 (.move (V 0)) .none)]) .ret))) (.seq (.seq (.region [(S 94 (.bin .eql (T 24) (V 12)) .none), (M 93 94)]) (.cond (T 93) .skip (.seq (.region [(S 95 (.bin .eql (T 24) (V 13)) .none), (M 93 95)]) (.cond (T 93) .skip (.region [(S 96 (.bin .eql (T 24) (V 14)) .none), (M 93 96)]))))) (.cond (T 93) (.seq (.region [(M 97 0), (M 98 1), (S 99 (.loadN 6 (T 5)) .none), (S 100 (.call 75 [(T 97), (T 98), (T 99)]) .none), (M 6 100)]) .ret) .skip)))))))) (.seq (.region [(M 101 0), (M 102 1), (S 103 (.loadN 6 (T 5)) .none), (S 104 (.call 76 [(T 101), (T 102), (T 103)]) .none), (M 6 104)]) .ret)))))
abbrev f46.Js : Type := (((AVal → AVal → AVal → AHeap → Rs) × (AVal → AVal → AVal → AHeap → Rs)) × ((AVal → AVal → AVal → AHeap → Rs) × (AVal → AVal → AVal → AVal → AHeap → Rs)))
noncomputable def f46.b0 (I : Inp) (call : CallFn) (j : f46.Js) (v0 v1 v5 : AVal) (h : AHeap) : Rs :=
  bndP (pFieldAddr 0 v5) fun v23 =>
  bndP (pLoad1 I v23 h) fun v24 =>
  bndP (pBin .eql v24 (Z 5)) fun v26 =>
  sCond v26 (
  bndP (pBin .eql v24 (Z 15)) fun v73 =>
  sCond v73 (
  bndP (pBin .eql v24 (Z 12)) fun v94 =>
  sCond v94 (
  bndP (pBin .eql v24 (Z 13)) fun v95 =>
  sCond v95 (
  bndP (pBin .eql v24 (Z 14)) fun v96 =>
  j.2.2 v0 v1 v5 v96 h) (
  j.2.2 v0 v1 v5 v95 h)) (
  j.2.2 v0 v1 v5 v94 h)) (
  bndP (pNilCheck v1) fun v76 =>
  bndP (pFieldAddr 2 v76) fun v77 =>
  bndP (pLoad1 I v77 h) fun v78 =>
  bndP (pFieldAddr 2 v5) fun v79 =>
  bndP (pLoad1 I v79 h) fun v80 =>
  bndP (pIndexAddr 3 v78 v80) fun v81 =>
  bndP (pFieldAddr 2 v81) fun v82 =>
  bndP (pLoad1 I v82 h) fun v83 =>
  bndP (pNilCheck v0) fun v84 =>
  bndP (pFieldAddr 6 v84) fun v85 =>
  bnd (sStore 1 v85 v83 h) fun _ h1 =>
  bndP (pNilCheck v1) fun v87 =>
  bndP (pFieldAddr 1 v87) fun v88 =>
  bndP (pLoad1 I v88 h1) fun v89 =>
  bndP (pBin .add v89 (Z 1)) fun v90 =>
  bndP (pNilCheck v1) fun v91 =>
  bndP (pFieldAddr 1 v91) fun v92 =>
  bnd (sStore 1 v92 v90 h1) fun _ h2 =>
  some ((Z 0), h2))) (
  bndP (pNilCheck v0) fun v28 =>
  bndP (pFieldAddr 2 v28) fun v29 =>
  bndP (pLoad1 I v29 h) fun v30 =>
  bndP (pNilCheck v1) fun v32 =>
  bndP (pFieldAddr 1 v32) fun v33 =>
  bndP (pLoad1 I v33 h) fun v34 =>
  bndP (pNilCheck v0) fun v36 =>
  bndP (pFieldAddr 0 v36) fun v37 =>
  bndP (pLoad1 I v37 h) fun v38 =>
  bndP (pNilCheck v38) fun v39 =>
  bndP (pFieldAddr 0 v39) fun v40 =>
  bndP (pLoad1 I v40 h) fun v41 =>
  bndP (pNilCheck v0) fun v43 =>
  bndP (pFieldAddr 0 v43) fun v44 =>
  bndP (pLoad1 I v44 h) fun v45 =>
  bndP (pNilCheck v45) fun v46 =>
  bndP (pFieldAddr 4 v46) fun v47 =>
  bndP (pLoad1 I v47 h) fun v48 =>
  bndP (pNilCheck v1) fun v50 =>
  bndP (pFieldAddr 0 v50) fun v51 =>
  bndP (pLoad1 I v51 h) fun v52 =>
  bndP (pIndexAddr 3 v48 v52) fun v53 =>
  bndP (pFieldAddr 1 v53) fun v54 =>
  bndP (pLoad1 I v54 h) fun v55 =>
  bndP (pFieldAddr 1 v5) fun v56 =>
  bndP (pLoad1 I v56 h) fun v57 =>
  bndP (pIndexAddr 2 v55 v57) fun v58 =>
  bndP (pFieldAddr 1 v58) fun v59 =>
  bndP (pLoad1 I v59 h) fun v60 =>
  bndP (pIndexAddr 1 v41 v60) fun v61 =>
  bndP (pLoad1 I v61 h) fun v62 =>
  bnd (call 74 [v30, v34, v62] h) fun v63 h3 =>
  bndP (pBin .eql v63 (Z 0)) fun v65 =>
  sCond v65 (
  j.2.1 v1 v5 v63 h3) (
  some ((Z 6), h3)))
noncomputable def f46.b1 (I : Inp) (call : CallFn) (j : f46.Js) (v0 v1 v5 : AVal) (h : AHeap) : Rs :=
  bndP (pLoadN I 6 v5 h) fun v103 =>
  bnd (call 76 [v0, v1, v103] h) fun v104 h1 =>
  some (v104, h1)
noncomputable def f46.b2 (I : Inp) (call : CallFn) (j : f46.Js) (v1 v5 v9 : AVal) (h : AHeap) : Rs :=
  bndP (pFieldAddr 1 v5) fun v67 =>
  bndP (pLoad1 I v67 h) fun v68 =>
  bndP (pBuild [(Z 0), (Z 0), (.bool .false)] [(0, 1, (Z 2)), (1, 1, v9)]) fun v70 =>
  bnd (call 73 [v1, v68, v70] h) fun v71 h1 =>
  some (v71, h1)
noncomputable def f46.b3 (I : Inp) (call : CallFn) (j : f46.Js) (v0 v1 v5 v93 : AVal) (h : AHeap) : Rs :=
  sCond v93 (
  j.1.2 v0 v1 v5 h) (
  bndP (pLoadN I 6 v5 h) fun v99 =>
  bnd (call 75 [v0, v1, v99] h) fun v100 h1 =>
  some (v100, h1))
noncomputable def f46.e (I : Inp) (call : CallFn) (j : f46.Js) (v0 v1 v2 : AVal) (h : AHeap) : Rs :=
  bnd (sBox v2 h) fun v5 h1 =>
  bndP (pLoadN I 6 v5 h1) fun v13 =>
  bnd (call 72 [v0, v1, v13] h1) fun v14 h2 =>
  bndP (pExtract v14 0) fun v15 =>
  bndP (pExtract v14 1) fun v16 =>
  bnd (sAlloc [(Z 0), (Z 0), (.bool .false)] h2) fun v7 h3 =>
  bnd (sStore 3 v7 v15 h3) fun _ h4 =>
  sCond v16 (
  j.1.1 v0 v1 v5 h4) (
  bndP (pFieldAddr 1 v5) fun v19 =>
  bndP (pLoad1 I v19 h4) fun v20 =>
  bndP (pLoadN I 3 v7 h4) fun v21 =>
  bnd (call 73 [v1, v20, v21] h4) fun v22 h5 =>
  some (v22, h5))
noncomputable def f46.J (I : Inp) (call : CallFn) (n : Nat) : f46.Js :=
  Nat.rec (motive := fun _ => f46.Js) (((fun _ _ _ _ => none), (fun _ _ _ _ => none)), ((fun _ _ _ _ => none), (fun _ _ _ _ _ => none))) (fun _ ih => ((f46.b0 I call ih, f46.b1 I call ih), (f46.b2 I call ih, f46.b3 I call ih))) n
noncomputable def f46.JS (I : Inp) (call : CallFn) (n : Nat) : Jmp := fun id ρ h =>
  (Bool.rec (motive := fun _ => _) (Bool.rec (motive := fun _ => _) ((f46.J I call n).2.2 (ρ 0) (ρ 1) (ρ 5) (ρ 93) h) ((f46.J I call n).2.1 (ρ 1) (ρ 5) (ρ 9) h) (Nat.blt id 3)) (Bool.rec (motive := fun _ => _) ((f46.J I call n).1.2 (ρ 0) (ρ 1) (ρ 5) h) ((f46.J I call n).1.1 (ρ 0) (ρ 1) (ρ 5) h) (Nat.blt id 1)) (Nat.blt id 2))
theorem f46.q0 (I : Inp) (call : CallFn) (n : Nat) (ρ : Fun) (h : AHeap) : f46.JS I call (n + 1) 0 ρ h = labC P I call (f46.JS I call n) c46.body 0 (finV I c46.results) 0 ρ h := by kernel_rfl
theorem f46.q1 (I : Inp) (call : CallFn) (n : Nat) (ρ : Fun) (h : AHeap) : f46.JS I call (n + 1) 1 ρ h = labC P I call (f46.JS I call n) c46.body 0 (finV I c46.results) 1 ρ h := by kernel_rfl
theorem f46.q2 (I : Inp) (call : CallFn) (n : Nat) (ρ : Fun) (h : AHeap) : f46.JS I call (n + 1) 2 ρ h = labC P I call (f46.JS I call n) c46.body 0 (finV I c46.results) 2 ρ h := by kernel_rfl
theorem f46.q3 (I : Inp) (call : CallFn) (n : Nat) (ρ : Fun) (h : AHeap) : f46.JS I call (n + 1) 3 ρ h = labC P I call (f46.JS I call n) c46.body 0 (finV I c46.results) 3 ρ h := by kernel_rfl
theorem f46.S (I : Inp) (F : Nat → Option AFn) (call : CallFn) : SFn ⟨P, I, F⟩ call c46 (f46.JS I call) :=
  ⟨fun id hid ρ h => by
    have hc : c46.body.cnt = 4 := by kernel_rfl
    rw [hc] at hid
    exact match id, hid with
    | 0, _ => rfl
    | 1, _ => rfl
    | 2, _ => rfl
    | 3, _ => rfl
    | id + 4, hid => absurd hid (by omega), fun n id hid ρ h => by
    have hc : c46.body.cnt = 4 := by kernel_rfl
    rw [hc] at hid
    exact match id, hid with
    | 0, _ => f46.q0 I call n ρ h
    | 1, _ => f46.q1 I call n ρ h
    | 2, _ => f46.q2 I call n ρ h
    | 3, _ => f46.q3 I call n ρ h
    | id + 4, hid => absurd hid (by omega)⟩
noncomputable def f46.run (I : Inp) : SF := fun call n a h =>
  match a with
  | [v0, v1, v2] => f46.e I call (f46.J I call n) v0 v1 v2 h
  | _ => none
theorem f46.qe (I : Inp) (call : CallFn) (n : Nat) (v0 v1 v2 : AVal) (h : AHeap) : f46.e I call (f46.J I call n) v0 v1 v2 h = execC P I call (f46.JS I call n) c46.body 0 (finV I c46.results) (argV [v0, v1, v2]) h := by kernel_rfl
theorem f46.code : codeOf P 46 = some c46 := by kernel_rfl
theorem f46.ok (I : Inp) (F : Nat → Option AFn) (hF : F 46 = some (.code c46)) : SfOk P I F 46 (f46.run I) := by
  intro call hc n args h r hr
  unfold f46.run at hr
  split at hr
  · exact fn_sound (C := ⟨P, I, F⟩) (n := n) hc hF (Nat.le_of_ble_eq_true (by kernel_rfl)) (by kernel_rfl) (f46.S I F call) (by kernel_rfl) ((f46.qe I call n _ _ _ h).symm.trans hr)
  · cases hr
/-! (*haruspex/sem.Machine).leave -/
noncomputable def c47 : AFunc := (AFunc.mk 107 3 [(.tmp 6)] (.seq (.region [(S 6 (.move (V 0)) .none)]) (.seq (.region [(M 12 2), (NC 13 12), (FA 14 3 13), (L1 15 14), (M 7 15)]) (.seq (.seq (.region [(M 16 2), (NC 17 16), (FA 18 1 17), (L1 19 18)]) (.block 0 (.seq (.region [(S 21 (.bin .eql (T 19) (V 2)) .none), (M 20 21)]) (.cond (T 20) (.seq (.draw [(M 22 1), (NC 23 22), (FA 24 2 23), (L1 25 24), (M 26 2), (NC 27 26), (FA 28 2 27), (L1 29 28), (S 30 (.indexAddr 3 (T 25) (T 29)) .none), (FA 31 1 30), (L1 32 31), (S 33 (.bin .eql (T 32) (V 0)) .none)] [N, N, N, N, N, N, N, N, N, N, N, N] 0) (.cond (T 33) (.region [(M 34 2), (NC 35 34), (FA 36 4 35), (L1 37 36), (M 7 37)]) .skip)) (.seq (.region [(S 39 (.bin .eql (T 19) (V 3)) .none), (M 38 39)]) (.cond (T 38) (.seq (.draw [(M 40 1), (NC 41 40), (FA 42 2 41), (L1 43 42), (M 44 2), (NC 45 44), (FA 46 2 45), (L1 47 46), (S 48 (.indexAddr 3 (T 43) (T 47)) .none), (S 49 (.loadN 3 (T 48)) .none), (S 8 (.alloc [(Z 0), (Z 0), (.bool .false)]) .none), (AOper.mk .none (.store 3 (T 8) (T 49)) .none)] [N, N, N, (.false, [1]), N, N, N, (.false, [1]), N, (.false, [1]), Y, Y] 0) (.seq (.seq (.region [(M 50 0), (NC 51 50), (FA 52 3 51), (L1 53 52), (S 54 (.lenSl (T 53)) .none), (S 55 (.bin .eql (T 54) (V 1)) .none)]) (.cond (T 55) (.seq (.region [(M 56 0), (S 57 (.loadN 3 (T 8)) .none), (NC 58 56), (FA 59 7 58), (AOper.mk .none (.store 3 (T 59) (T 57)) .none)]) (.seq (.region [(S 6 (.move (V 4)) .none)]) .ret)) .skip)) (.seq (.draw [(M 60 0), (M 61 0), (NC 62 61), (FA 63 3 62), (L1 64 63), (M 65 0), (NC 66 65), (FA 67 3 66), (L1 68 67), (S 69 (.lenSl (T 68)) .none), (S 70 (.bin .sub (T 69) (V 1)) .none), (S 71 (.sliceS 1 (T 64) .none (.some (T 70)) .none) .none), (NC 72 60), (FA 73 3 72), (AOper.mk .none (.store 1 (T 73) (T 71)) .none)] [N, N, N, N, N, N, N, N, N, N, N, N, N, N, Y] 0) (.seq (.region [(M 74 0), (S 75 (.call 40 [(T 74)]) .none), (M 9 75)]) (.seq (.draw [(M 77 0), (NC 78 77), (FA 79 0 78), (L1 80 79), (M 81 9), (NC 82 81), (FA 83 1 82), (L1 84 83), (S 85 (.call 45 [(T 80), (T 84)]) .none), (M 76 85), (S 86 (.extract (T 76) 0) .none), (S 10 (.resv 0 (.alloc [(Z 0), (Z 0), (Z 0), (Z 0), (Z 0), .nils])) .none), (AOper.mk .none (.store 6 (T 10) (T 86)) .none), (S 87 (.extract (T 76) 1) .none), (M 11 87)] [N, N, N, N, N, N, N, N, Y, N, N, Y, Y, N, N] 1) (.seq (.region [(M 88 9), (FA 89 1 10), (L1 90 89), (S 91 (.loadN 3 (T 8)) .none), (S 92 (.call 73 [(T 88), (T 90), (T 91)]) .none), (M 6 92)]) .ret)))))) .skip)))))) (.seq (.draw [(M 93 1), (M 94 0), (NC 95 94), (FA 96 0 95), (L1 97 96), (M 98 1), (NC 99 98), (FA 100 0 99), (L1 101 100), (M 102 7), (S 103 (.build [(Z 0), (Z 0), (Z 0)] [(0, (1, (T 101))), (1, (1, (T 102)))]) .none), (S 104 (.call 69 [(T 97), (T 103)]) .none), (NC 105 93), (FA 106 1 105), (AOper.mk .none (.store 1 (T 106) (T 104)) .none)] [N, N, N, N, N, N, N, N, N, N, N, Y, N, N, Y] 0) (.seq (.region [(S 6 (.move (V 0)) .none)]) .ret))))))
abbrev f47.Js : Type := ((AVal → AVal → AVal → AHeap → Rs) × (AVal → AVal → AHeap → Rs))
noncomputable def f47.b0 (I : Inp) (call : CallFn) (j : f47.Js) (v0 v1 v7 : AVal) (h : AHeap) : Rs :=
  bndP (pNilCheck v0) fun v95 =>
  bndP (pFieldAddr 0 v95) fun v96 =>
  bndP (pLoad1 I v96 h) fun v97 =>
  bndP (pNilCheck v1) fun v99 =>
  bndP (pFieldAddr 0 v99) fun v100 =>
  bndP (pLoad1 I v100 h) fun v101 =>
  bndP (pBuild [(Z 0), (Z 0), (Z 0)] [(0, 1, v101), (1, 1, v7)]) fun v103 =>
  bnd (call 69 [v97, v103] h) fun v104 h1 =>
  bndP (pNilCheck v1) fun v105 =>
  bndP (pFieldAddr 1 v105) fun v106 =>
  bnd (sStore 1 v106 v104 h1) fun _ h2 =>
  some ((Z 0), h2)
noncomputable def f47.b1 (I : Inp) (call : CallFn) (j : f47.Js) (v0 v8 : AVal) (h : AHeap) : Rs :=
  bndP (pNilCheck v0) fun v62 =>
  bndP (pFieldAddr 3 v62) fun v63 =>
  bndP (pLoad1 I v63 h) fun v64 =>
  bndP (pNilCheck v0) fun v66 =>
  bndP (pFieldAddr 3 v66) fun v67 =>
  bndP (pLoad1 I v67 h) fun v68 =>
  bndP (pLenSl v68) fun v69 =>
  bndP (pBin .sub v69 (Z 1)) fun v70 =>
  bndP (pSliceS 1 v64 none (some v70) none) fun v71 =>
  bndP (pNilCheck v0) fun v72 =>
  bndP (pFieldAddr 3 v72) fun v73 =>
  bnd (sStore 1 v73 v71 h) fun _ h1 =>
  bnd (call 40 [v0] h1) fun v75 h2 =>
  sKeep 0 h2 fun h3 =>
  bndP (pNilCheck v0) fun v78 =>
  bndP (pFieldAddr 0 v78) fun v79 =>
  bndP (pLoad1 I v79 h3) fun v80 =>
  bndP (pNilCheck v75) fun v82 =>
  bndP (pFieldAddr 1 v82) fun v83 =>
  bndP (pLoad1 I v83 h3) fun v84 =>
  bnd (call 45 [v80, v84] h3) fun v85 h4 =>
  bndP (pExtract v85 0) fun v86 =>
  bnd (sResvAlloc (h2.next + 0) [(Z 0), (Z 0), (Z 0), (Z 0), (Z 0), .nils] h4) fun v10 h5 =>
  bnd (sStore 6 v10 v86 h5) fun _ h6 =>
  bndP (pExtract v85 1) fun v87 =>
  bndP (pFieldAddr 1 v10) fun v89 =>
  bndP (pLoad1 I v89 h6) fun v90 =>
  bndP (pLoadN I 3 v8 h6) fun v91 =>
  bnd (call 73 [v75, v90, v91] h6) fun v92 h7 =>
  some (v92, h7)
noncomputable def f47.e (I : Inp) (call : CallFn) (j : f47.Js) (v0 v1 v2 : AVal) (h : AHeap) : Rs :=
  bndP (pNilCheck v2) fun v13 =>
  bndP (pFieldAddr 3 v13) fun v14 =>
  bndP (pLoad1 I v14 h) fun v15 =>
  bndP (pNilCheck v2) fun v17 =>
  bndP (pFieldAddr 1 v17) fun v18 =>
  bndP (pLoad1 I v18 h) fun v19 =>
  bndP (pBin .eql v19 (Z 2)) fun v21 =>
  sCond v21 (
  bndP (pBin .eql v19 (Z 3)) fun v39 =>
  sCond v39 (
  j.1 v0 v1 v15 h) (
  bndP (pNilCheck v1) fun v41 =>
  bndP (pFieldAddr 2 v41) fun v42 =>
  bndP (pLoad1 I v42 h) fun v43 =>
  bndP (pNilCheck v2) fun v45 =>
  bndP (pFieldAddr 2 v45) fun v46 =>
  bndP (pLoad1 I v46 h) fun v47 =>
  bndP (pIndexAddr 3 v43 v47) fun v48 =>
  bndP (pLoadN I 3 v48 h) fun v49 =>
  bnd (sAlloc [(Z 0), (Z 0), (.bool .false)] h) fun v8 h1 =>
  bnd (sStore 3 v8 v49 h1) fun _ h2 =>
  sCheck (sSame (lift (pLoad1 I v42 h1) h1) v43 && true) (
  sCheck (sSame (lift (pLoad1 I v46 h1) h1) v47 && true) (
  sCheck (sSame (lift (pLoadN I 3 v48 h1) h1) v49 && true) (
  bndP (pNilCheck v0) fun v51 =>
  bndP (pFieldAddr 3 v51) fun v52 =>
  bndP (pLoad1 I v52 h2) fun v53 =>
  bndP (pLenSl v53) fun v54 =>
  bndP (pBin .eql v54 (Z 1)) fun v55 =>
  sCond v55 (
  j.2 v0 v8 h2) (
  bndP (pLoadN I 3 v8 h2) fun v57 =>
  bndP (pNilCheck v0) fun v58 =>
  bndP (pFieldAddr 7 v58) fun v59 =>
  bnd (sStore 3 v59 v57 h2) fun _ h3 =>
  some ((Z 4), h3))))))) (
  bndP (pNilCheck v1) fun v23 =>
  bndP (pFieldAddr 2 v23) fun v24 =>
  bndP (pLoad1 I v24 h) fun v25 =>
  bndP (pNilCheck v2) fun v27 =>
  bndP (pFieldAddr 2 v27) fun v28 =>
  bndP (pLoad1 I v28 h) fun v29 =>
  bndP (pIndexAddr 3 v25 v29) fun v30 =>
  bndP (pFieldAddr 1 v30) fun v31 =>
  bndP (pLoad1 I v31 h) fun v32 =>
  bndP (pBin .eql v32 (Z 0)) fun v33 =>
  sCond v33 (
  j.1 v0 v1 v15 h) (
  bndP (pNilCheck v2) fun v35 =>
  bndP (pFieldAddr 4 v35) fun v36 =>
  bndP (pLoad1 I v36 h) fun v37 =>
  j.1 v0 v1 v37 h))
noncomputable def f47.J (I : Inp) (call : CallFn) (n : Nat) : f47.Js :=
  Nat.rec (motive := fun _ => f47.Js) ((fun _ _ _ _ => none), (fun _ _ _ => none)) (fun _ ih => (f47.b0 I call ih, f47.b1 I call ih)) n
noncomputable def f47.JS (I : Inp) (call : CallFn) (n : Nat) : Jmp := fun id ρ h =>
  (Bool.rec (motive := fun _ => _) ((f47.J I call n).2 (ρ 0) (ρ 8) h) ((f47.J I call n).1 (ρ 0) (ρ 1) (ρ 7) h) (Nat.blt id 1))
theorem f47.q0 (I : Inp) (call : CallFn) (n : Nat) (ρ : Fun) (h : AHeap) : f47.JS I call (n + 1) 0 ρ h = labC P I call (f47.JS I call n) c47.body 0 (finV I c47.results) 0 ρ h := by kernel_rfl
theorem f47.q1 (I : Inp) (call : CallFn) (n : Nat) (ρ : Fun) (h : AHeap) : f47.JS I call (n + 1) 1 ρ h = labC P I call (f47.JS I call n) c47.body 0 (finV I c47.results) 1 ρ h := by kernel_rfl
theorem f47.S (I : Inp) (F : Nat → Option AFn) (call : CallFn) : SFn ⟨P, I, F⟩ call c47 (f47.JS I call) :=
  ⟨fun id hid ρ h => by
    have hc : c47.body.cnt = 2 := by kernel_rfl
    rw [hc] at hid
    exact match id, hid with
    | 0, _ => rfl
    | 1, _ => rfl
    | id + 2, hid => absurd hid (by omega), fun n id hid ρ h => by
    have hc : c47.body.cnt = 2 := by kernel_rfl
    rw [hc] at hid
    exact match id, hid with
    | 0, _ => f47.q0 I call n ρ h
    | 1, _ => f47.q1 I call n ρ h
    | id + 2, hid => absurd hid (by omega)⟩
noncomputable def f47.run (I : Inp) : SF := fun call n a h =>
  match a with
  | [v0, v1, v2] => f47.e I call (f47.J I call n) v0 v1 v2 h
  | _ => none
theorem f47.qe (I : Inp) (call : CallFn) (n : Nat) (v0 v1 v2 : AVal) (h : AHeap) : f47.e I call (f47.J I call n) v0 v1 v2 h = execC P I call (f47.JS I call n) c47.body 0 (finV I c47.results) (argV [v0, v1, v2]) h := by kernel_rfl
theorem f47.code : codeOf P 47 = some c47 := by kernel_rfl
theorem f47.ok (I : Inp) (F : Nat → Option AFn) (hF : F 47 = some (.code c47)) : SfOk P I F 47 (f47.run I) := by
  intro call hc n args h r hr
  unfold f47.run at hr
  split at hr
  · exact fn_sound (C := ⟨P, I, F⟩) (n := n) hc hF (Nat.le_of_ble_eq_true (by kernel_rfl)) (by kernel_rfl) (f47.S I F call) (by kernel_rfl) ((f47.qe I call n _ _ _ h).symm.trans hr)
  · cases hr
/-! haruspex/ir.End -/
noncomputable def c48 : AFunc := (AFunc.mk 28 2 [(.tmp 4)] (.seq (.region [(S 4 (.move (.val .nilp)) .none)]) (.seq (.region [(M 9 0), (M 10 1), (S 11 (.call 70 [(T 9), (T 10)]) .none), (M 8 11), (S 12 (.extract (T 8) 0) .none), (S 13 (.extract (T 8) 1) .none), (S 5 (.alloc [(Z 0), (Z 0), (Z 0)]) .none), (AOper.mk .none (.store 3 (T 5) (T 12)) .none), (M 6 13)]) (.seq (.seq (.region [(M 14 6), (S 15 (.un .not (T 14)) .none)]) (.cond (T 15) (.seq (.region [(S 4 (.move (.val .nilp)) .none)]) .ret) .skip)) (.seq (.region [(M 16 0), (S 17 (.loadN 3 (T 5)) .none), (S 18 (.call 71 [(T 16), (T 17)]) .none), (M 7 18)]) (.seq (.seq (.draw [(FA 19 2 5), (L1 20 19), (M 21 7), (NC 22 21), (FA 23 0 22), (L1 24 23), (S 25 (.lenSl (T 24)) .none), (S 26 (.bin .lss (T 20) (T 25)) .none)] [N, N, N, N, N, N, N, N] 0) (.cond (T 26) (.seq (.region [(S 4 (.move (.val .nilp)) .none)]) .ret) .skip)) (.seq (.region [(M 27 7), (M 4 27)]) .ret)))))))
abbrev f48.Js : Type := ((AVal → AVal → AHeap → Rs) × (AVal → AHeap → Rs))
noncomputable def f48.b0 (I : Inp) (call : CallFn) (j : f48.Js) (v0 v5 : AVal) (h : AHeap) : Rs :=
  bndP (pLoadN I 3 v5 h) fun v17 =>
  bnd (call 71 [v0, v17] h) fun v18 h1 =>
  bndP (pFieldAddr 2 v5) fun v19 =>
  bndP (pLoad1 I v19 h1) fun v20 =>
  bndP (pNilCheck v18) fun v22 =>
  bndP (pFieldAddr 0 v22) fun v23 =>
  bndP (pLoad1 I v23 h1) fun v24 =>
  bndP (pLenSl v24) fun v25 =>
  bndP (pBin .lss v20 v25) fun v26 =>
  sCond v26 (
  j.2 v18 h1) (
  some (.nilp, h1))
noncomputable def f48.b1 (I : Inp) (call : CallFn) (j : f48.Js) (v7 : AVal) (h : AHeap) : Rs :=
  some (v7, h)
noncomputable def f48.e (I : Inp) (call : CallFn) (j : f48.Js) (v0 v1 : AVal) (h : AHeap) : Rs :=
  bnd (call 70 [v0, v1] h) fun v11 h1 =>
  bndP (pExtract v11 0) fun v12 =>
  bndP (pExtract v11 1) fun v13 =>
  bnd (sAlloc [(Z 0), (Z 0), (Z 0)] h1) fun v5 h2 =>
  bnd (sStore 3 v5 v12 h2) fun _ h3 =>
  bndP (pUn .not v13) fun v15 =>
  sCond v15 (
  j.1 v0 v5 h3) (
  some (.nilp, h3))
noncomputable def f48.J (I : Inp) (call : CallFn) (n : Nat) : f48.Js :=
  Nat.rec (motive := fun _ => f48.Js) ((fun _ _ _ => none), (fun _ _ => none)) (fun _ ih => (f48.b0 I call ih, f48.b1 I call ih)) n
noncomputable def f48.JS (I : Inp) (call : CallFn) (n : Nat) : Jmp := fun id ρ h =>
  (Bool.rec (motive := fun _ => _) ((f48.J I call n).2 (ρ 7) h) ((f48.J I call n).1 (ρ 0) (ρ 5) h) (Nat.blt id 1))
theorem f48.q0 (I : Inp) (call : CallFn) (n : Nat) (ρ : Fun) (h : AHeap) : f48.JS I call (n + 1) 0 ρ h = labC P I call (f48.JS I call n) c48.body 0 (finV I c48.results) 0 ρ h := by kernel_rfl
theorem f48.q1 (I : Inp) (call : CallFn) (n : Nat) (ρ : Fun) (h : AHeap) : f48.JS I call (n + 1) 1 ρ h = labC P I call (f48.JS I call n) c48.body 0 (finV I c48.results) 1 ρ h := by kernel_rfl
theorem f48.S (I : Inp) (F : Nat → Option AFn) (call : CallFn) : SFn ⟨P, I, F⟩ call c48 (f48.JS I call) :=
  ⟨fun id hid ρ h => by
    have hc : c48.body.cnt = 2 := by kernel_rfl
    rw [hc] at hid
    exact match id, hid with
    | 0, _ => rfl
    | 1, _ => rfl
    | id + 2, hid => absurd hid (by omega), fun n id hid ρ h => by
    have hc : c48.body.cnt = 2 := by kernel_rfl
    rw [hc] at hid
    exact match id, hid with
    | 0, _ => f48.q0 I call n ρ h
    | 1, _ => f48.q1 I call n ρ h
    | id + 2, hid => absurd hid (by omega)⟩
noncomputable def f48.run (I : Inp) : SF := fun call n a h =>
  match a with
  | [v0, v1] => f48.e I call (f48.J I call n) v0 v1 h
  | _ => none
theorem f48.qe (I : Inp) (call : CallFn) (n : Nat) (v0 v1 : AVal) (h : AHeap) : f48.e I call (f48.J I call n) v0 v1 h = execC P I call (f48.JS I call n) c48.body 0 (finV I c48.results) (argV [v0, v1]) h := by kernel_rfl
theorem f48.code : codeOf P 48 = some c48 := by kernel_rfl
theorem f48.ok (I : Inp) (F : Nat → Option AFn) (hF : F 48 = some (.code c48)) : SfOk P I F 48 (f48.run I) := by
  intro call hc n args h r hr
  unfold f48.run at hr
  split at hr
  · exact fn_sound (C := ⟨P, I, F⟩) (n := n) hc hF (Nat.le_of_ble_eq_true (by kernel_rfl)) (by kernel_rfl) (f48.S I F call) (by kernel_rfl) ((f48.qe I call n _ _ h).symm.trans hr)
  · cases hr
/-! (*haruspex/value.Heap).Site -/
noncomputable def c54 : AFunc := (AFunc.mk 15 2 [(.tmp 4)] (.seq (.region [(S 4 (.move (V 0)) .none)]) (.seq (.seq (.region [(M 6 0), (M 7 1), (S 8 (.call 83 [(T 6), (T 7)]) .none), (M 5 8)]) (.seq (.region [(M 9 5), (S 10 (.eq .true .ptr .true (T 9) (.val .nilp)) .none)]) (.cond (T 10) (.seq (.region [(M 11 5), (NC 12 11), (FA 13 0 12), (L1 14 13), (M 4 14)]) .ret) .skip))) (.seq (.region [(S 4 (.move (.val (.int .i64 (.negSucc 0)))) .none)]) .ret))))
abbrev f54.Js : Type := (AHeap → Rs)
noncomputable def f54.b0 (I : Inp) (call : CallFn) (j : f54.Js) (h : AHeap) : Rs :=
  some ((.int .i64 (.negSucc 0)), h)
noncomputable def f54.e (I : Inp) (call : CallFn) (j : f54.Js) (v0 v1 : AVal) (h : AHeap) : Rs :=
  bnd (call 83 [v0, v1] h) fun v8 h1 =>
  bndP (pEq P .true .ptr .true v8 .nilp h1) fun v10 =>
  sCond v10 (
  j h1) (
  bndP (pNilCheck v8) fun v12 =>
  bndP (pFieldAddr 0 v12) fun v13 =>
  bndP (pLoad1 I v13 h1) fun v14 =>
  some (v14, h1))
noncomputable def f54.J (I : Inp) (call : CallFn) (n : Nat) : f54.Js :=
  Nat.rec (motive := fun _ => f54.Js) (fun _ => none) (fun _ ih => f54.b0 I call ih) n
noncomputable def f54.JS (I : Inp) (call : CallFn) (n : Nat) : Jmp := fun id ρ h =>
  ((f54.J I call n) h)
theorem f54.q0 (I : Inp) (call : CallFn) (n : Nat) (ρ : Fun) (h : AHeap) : f54.JS I call (n + 1) 0 ρ h = labC P I call (f54.JS I call n) c54.body 0 (finV I c54.results) 0 ρ h := by kernel_rfl
theorem f54.S (I : Inp) (F : Nat → Option AFn) (call : CallFn) : SFn ⟨P, I, F⟩ call c54 (f54.JS I call) :=
  ⟨fun id hid ρ h => by
    have hc : c54.body.cnt = 1 := by kernel_rfl
    rw [hc] at hid
    exact match id, hid with
    | 0, _ => rfl
    | id + 1, hid => absurd hid (by omega), fun n id hid ρ h => by
    have hc : c54.body.cnt = 1 := by kernel_rfl
    rw [hc] at hid
    exact match id, hid with
    | 0, _ => f54.q0 I call n ρ h
    | id + 1, hid => absurd hid (by omega)⟩
noncomputable def f54.run (I : Inp) : SF := fun call n a h =>
  match a with
  | [v0, v1] => f54.e I call (f54.J I call n) v0 v1 h
  | _ => none
theorem f54.qe (I : Inp) (call : CallFn) (n : Nat) (v0 v1 : AVal) (h : AHeap) : f54.e I call (f54.J I call n) v0 v1 h = execC P I call (f54.JS I call n) c54.body 0 (finV I c54.results) (argV [v0, v1]) h := by kernel_rfl
theorem f54.code : codeOf P 54 = some c54 := by kernel_rfl
theorem f54.ok (I : Inp) (F : Nat → Option AFn) (hF : F 54 = some (.code c54)) : SfOk P I F 54 (f54.run I) := by
  intro call hc n args h r hr
  unfold f54.run at hr
  split at hr
  · exact fn_sound (C := ⟨P, I, F⟩) (n := n) hc hF (Nat.le_of_ble_eq_true (by kernel_rfl)) (by kernel_rfl) (f54.S I F call) (by kernel_rfl) ((f54.qe I call n _ _ h).symm.trans hr)
  · cases hr
/-! (*haruspex/value.Heap).Get -/
noncomputable def c63 : AFunc := (AFunc.mk 24 3 [(.cellN 6 3), (.tmp 7)] (.seq (.region [(S 6 (.alloc [(Z 0), (Z 0), (.bool .false)]) .none), (S 7 (.move (V 0)) .none)]) (.seq (.region [(M 11 0), (M 12 1), (M 13 2), (S 14 (.call 88 [(T 11), (T 12), (T 13)]) .none), (M 10 14), (S 15 (.extract (T 10) 0) .none), (S 16 (.extract (T 10) 1) .none), (M 8 15), (M 9 16)]) (.seq (.seq (.region [(M 17 9), (S 18 (.bin .neq (T 17) (V 0)) .none)]) (.cond (T 18) (.seq (.region [(S 19 (.build [(Z 0), (Z 0), (.bool .false)] []) .none), (M 20 9), (AOper.mk .none (.store 3 (T 6) (T 19)) .none), (M 7 20)]) .ret) .skip)) (.seq (.region [(M 21 8), (NC 22 21), (S 23 (.loadN 3 (T 22)) .none), (AOper.mk .none (.store 3 (T 6) (T 23)) .none), (S 7 (.move (V 0)) .none)]) .ret)))))
abbrev f63.Js : Type := (AVal → AVal → AHeap → Rs)
noncomputable def f63.b0 (I : Inp) (call : CallFn) (j : f63.Js) (v6 v8 : AVal) (h : AHeap) : Rs :=
  bndP (pNilCheck v8) fun v22 =>
  bndP (pLoadN I 3 v22 h) fun v23 =>
  bnd (sStore 3 v6 v23 h) fun _ h1 =>
  sRet (sCons (sResN I 3 v6 h1) (sCons (some (Z 0)) (some []))) h1
noncomputable def f63.e (I : Inp) (call : CallFn) (j : f63.Js) (v0 v1 v2 : AVal) (h : AHeap) : Rs :=
  bnd (sAlloc [(Z 0), (Z 0), (.bool .false)] h) fun v6 h1 =>
  bnd (call 88 [v0, v1, v2] h1) fun v14 h2 =>
  bndP (pExtract v14 0) fun v15 =>
  bndP (pExtract v14 1) fun v16 =>
  bndP (pBin .neq v16 (Z 0)) fun v18 =>
  sCond v18 (
  j v6 v15 h2) (
  bndP (pBuild [(Z 0), (Z 0), (.bool .false)] []) fun v19 =>
  bnd (sStore 3 v6 v19 h2) fun _ h3 =>
  sRet (sCons (sResN I 3 v6 h3) (sCons (some v16) (some []))) h3)
noncomputable def f63.J (I : Inp) (call : CallFn) (n : Nat) : f63.Js :=
  Nat.rec (motive := fun _ => f63.Js) (fun _ _ _ => none) (fun _ ih => f63.b0 I call ih) n
noncomputable def f63.JS (I : Inp) (call : CallFn) (n : Nat) : Jmp := fun id ρ h =>
  ((f63.J I call n) (ρ 6) (ρ 8) h)
theorem f63.q0 (I : Inp) (call : CallFn) (n : Nat) (ρ : Fun) (h : AHeap) : f63.JS I call (n + 1) 0 ρ h = labC P I call (f63.JS I call n) c63.body 0 (finV I c63.results) 0 ρ h := by kernel_rfl
theorem f63.S (I : Inp) (F : Nat → Option AFn) (call : CallFn) : SFn ⟨P, I, F⟩ call c63 (f63.JS I call) :=
  ⟨fun id hid ρ h => by
    have hc : c63.body.cnt = 1 := by kernel_rfl
    rw [hc] at hid
    exact match id, hid with
    | 0, _ => rfl
    | id + 1, hid => absurd hid (by omega), fun n id hid ρ h => by
    have hc : c63.body.cnt = 1 := by kernel_rfl
    rw [hc] at hid
    exact match id, hid with
    | 0, _ => f63.q0 I call n ρ h
    | id + 1, hid => absurd hid (by omega)⟩
noncomputable def f63.run (I : Inp) : SF := fun call n a h =>
  match a with
  | [v0, v1, v2] => f63.e I call (f63.J I call n) v0 v1 v2 h
  | _ => none
theorem f63.qe (I : Inp) (call : CallFn) (n : Nat) (v0 v1 v2 : AVal) (h : AHeap) : f63.e I call (f63.J I call n) v0 v1 v2 h = execC P I call (f63.JS I call n) c63.body 0 (finV I c63.results) (argV [v0, v1, v2]) h := by kernel_rfl
theorem f63.code : codeOf P 63 = some c63 := by kernel_rfl
theorem f63.ok (I : Inp) (F : Nat → Option AFn) (hF : F 63 = some (.code c63)) : SfOk P I F 63 (f63.run I) := by
  intro call hc n args h r hr
  unfold f63.run at hr
  split at hr
  · exact fn_sound (C := ⟨P, I, F⟩) (n := n) hc hF (Nat.le_of_ble_eq_true (by kernel_rfl)) (by kernel_rfl) (f63.S I F call) (by kernel_rfl) ((f63.qe I call n _ _ _ h).symm.trans hr)
  · cases hr
/-! haruspex/wf.asked -/
noncomputable def c64 : AFunc := (AFunc.mk 35 1 [(.tmp 2)] (.seq (.region [(S 2 (.move (.val .nili)) .none)]) (.seq (.seq (.region [(M 8 0), (S 9 (.call 89 [(T 8)]) .none), (M 3 9)]) (.seq (.region [(M 10 3), (S 11 (.eq .true .iface .true (T 10) (.val .nili)) .none)]) (.cond (T 11) (.seq (.region [(M 12 3), (M 2 12)]) .ret) .skip))) (.seq (.seq (.region [(M 13 0), (S 14 (.call 90 [(T 13)]) .none), (M 4 14)]) (.seq (.region [(M 15 4), (S 16 (.eq .true .iface .true (T 15) (.val .nili)) .none)]) (.cond (T 16) (.seq (.region [(M 17 4), (M 2 17)]) .ret) .skip))) (.seq (.seq (.region [(M 18 0), (S 19 (.call 91 [(T 18)]) .none), (M 5 19)]) (.seq (.region [(M 20 5), (S 21 (.eq .true .iface .true (T 20) (.val .nili)) .none)]) (.cond (T 21) (.seq (.region [(M 22 5), (M 2 22)]) .ret) .skip))) (.seq (.seq (.region [(M 23 0), (S 24 (.call 92 [(T 23)]) .none), (M 6 24)]) (.seq (.region [(M 25 6), (S 26 (.eq .true .iface .true (T 25) (.val .nili)) .none)]) (.cond (T 26) (.seq (.region [(M 27 6), (M 2 27)]) .ret) .skip))) (.seq (.seq (.region [(M 28 0), (S 29 (.call 93 [(T 28)]) .none), (M 7 29)]) (.seq (.region [(M 30 7), (S 31 (.eq .true .iface .true (T 30) (.val .nili)) .none)]) (.cond (T 31) (.seq (.region [(M 32 7), (M 2 32)]) .ret) .skip))) (.seq (.region [(M 33 0), (S 34 (.call 94 [(T 33)]) .none), (M 2 34)]) .ret))))))))
abbrev f64.Js : Type := (((AVal → AHeap → Rs) × (AVal → AHeap → Rs)) × ((AVal → AHeap → Rs) × ((AVal → AHeap → Rs) × (AVal → AHeap → Rs))))
noncomputable def f64.b0 (I : Inp) (call : CallFn) (j : f64.Js) (v0 : AVal) (h : AHeap) : Rs :=
  bnd (call 90 [v0] h) fun v14 h1 =>
  bndP (pEq P .true .iface .true v14 .nili h1) fun v16 =>
  sCond v16 (
  j.1.2 v0 h1) (
  some (v14, h1))
noncomputable def f64.b1 (I : Inp) (call : CallFn) (j : f64.Js) (v0 : AVal) (h : AHeap) : Rs :=
  bnd (call 91 [v0] h) fun v19 h1 =>
  bndP (pEq P .true .iface .true v19 .nili h1) fun v21 =>
  sCond v21 (
  j.2.1 v0 h1) (
  some (v19, h1))
noncomputable def f64.b2 (I : Inp) (call : CallFn) (j : f64.Js) (v0 : AVal) (h : AHeap) : Rs :=
  bnd (call 92 [v0] h) fun v24 h1 =>
  bndP (pEq P .true .iface .true v24 .nili h1) fun v26 =>
  sCond v26 (
  j.2.2.1 v0 h1) (
  some (v24, h1))
noncomputable def f64.b3 (I : Inp) (call : CallFn) (j : f64.Js) (v0 : AVal) (h : AHeap) : Rs :=
  bnd (call 93 [v0] h) fun v29 h1 =>
  bndP (pEq P .true .iface .true v29 .nili h1) fun v31 =>
  sCond v31 (
  j.2.2.2 v0 h1) (
  some (v29, h1))
noncomputable def f64.b4 (I : Inp) (call : CallFn) (j : f64.Js) (v0 : AVal) (h : AHeap) : Rs :=
  bnd (call 94 [v0] h) fun v34 h1 =>
  some (v34, h1)
noncomputable def f64.e (I : Inp) (call : CallFn) (j : f64.Js) (v0 : AVal) (h : AHeap) : Rs :=
  bnd (call 89 [v0] h) fun v9 h1 =>
  bndP (pEq P .true .iface .true v9 .nili h1) fun v11 =>
  sCond v11 (
  j.1.1 v0 h1) (
  some (v9, h1))
noncomputable def f64.J (I : Inp) (call : CallFn) (n : Nat) : f64.Js :=
  Nat.rec (motive := fun _ => f64.Js) (((fun _ _ => none), (fun _ _ => none)), ((fun _ _ => none), ((fun _ _ => none), (fun _ _ => none)))) (fun _ ih => ((f64.b0 I call ih, f64.b1 I call ih), (f64.b2 I call ih, (f64.b3 I call ih, f64.b4 I call ih)))) n
noncomputable def f64.JS (I : Inp) (call : CallFn) (n : Nat) : Jmp := fun id ρ h =>
  (Bool.rec (motive := fun _ => _) (Bool.rec (motive := fun _ => _) (Bool.rec (motive := fun _ => _) ((f64.J I call n).2.2.2 (ρ 0) h) ((f64.J I call n).2.2.1 (ρ 0) h) (Nat.blt id 4)) ((f64.J I call n).2.1 (ρ 0) h) (Nat.blt id 3)) (Bool.rec (motive := fun _ => _) ((f64.J I call n).1.2 (ρ 0) h) ((f64.J I call n).1.1 (ρ 0) h) (Nat.blt id 1)) (Nat.blt id 2))
theorem f64.q0 (I : Inp) (call : CallFn) (n : Nat) (ρ : Fun) (h : AHeap) : f64.JS I call (n + 1) 0 ρ h = labC P I call (f64.JS I call n) c64.body 0 (finV I c64.results) 0 ρ h := by kernel_rfl
theorem f64.q1 (I : Inp) (call : CallFn) (n : Nat) (ρ : Fun) (h : AHeap) : f64.JS I call (n + 1) 1 ρ h = labC P I call (f64.JS I call n) c64.body 0 (finV I c64.results) 1 ρ h := by kernel_rfl
theorem f64.q2 (I : Inp) (call : CallFn) (n : Nat) (ρ : Fun) (h : AHeap) : f64.JS I call (n + 1) 2 ρ h = labC P I call (f64.JS I call n) c64.body 0 (finV I c64.results) 2 ρ h := by kernel_rfl
theorem f64.q3 (I : Inp) (call : CallFn) (n : Nat) (ρ : Fun) (h : AHeap) : f64.JS I call (n + 1) 3 ρ h = labC P I call (f64.JS I call n) c64.body 0 (finV I c64.results) 3 ρ h := by kernel_rfl
theorem f64.q4 (I : Inp) (call : CallFn) (n : Nat) (ρ : Fun) (h : AHeap) : f64.JS I call (n + 1) 4 ρ h = labC P I call (f64.JS I call n) c64.body 0 (finV I c64.results) 4 ρ h := by kernel_rfl
theorem f64.S (I : Inp) (F : Nat → Option AFn) (call : CallFn) : SFn ⟨P, I, F⟩ call c64 (f64.JS I call) :=
  ⟨fun id hid ρ h => by
    have hc : c64.body.cnt = 5 := by kernel_rfl
    rw [hc] at hid
    exact match id, hid with
    | 0, _ => rfl
    | 1, _ => rfl
    | 2, _ => rfl
    | 3, _ => rfl
    | 4, _ => rfl
    | id + 5, hid => absurd hid (by omega), fun n id hid ρ h => by
    have hc : c64.body.cnt = 5 := by kernel_rfl
    rw [hc] at hid
    exact match id, hid with
    | 0, _ => f64.q0 I call n ρ h
    | 1, _ => f64.q1 I call n ρ h
    | 2, _ => f64.q2 I call n ρ h
    | 3, _ => f64.q3 I call n ρ h
    | 4, _ => f64.q4 I call n ρ h
    | id + 5, hid => absurd hid (by omega)⟩
noncomputable def f64.run (I : Inp) : SF := fun call n a h =>
  match a with
  | [v0] => f64.e I call (f64.J I call n) v0 h
  | _ => none
theorem f64.qe (I : Inp) (call : CallFn) (n : Nat) (v0 : AVal) (h : AHeap) : f64.e I call (f64.J I call n) v0 h = execC P I call (f64.JS I call n) c64.body 0 (finV I c64.results) (argV [v0]) h := by kernel_rfl
theorem f64.code : codeOf P 64 = some c64 := by kernel_rfl
theorem f64.ok (I : Inp) (F : Nat → Option AFn) (hF : F 64 = some (.code c64)) : SfOk P I F 64 (f64.run I) := by
  intro call hc n args h r hr
  unfold f64.run at hr
  split at hr
  · exact fn_sound (C := ⟨P, I, F⟩) (n := n) hc hF (Nat.le_of_ble_eq_true (by kernel_rfl)) (by kernel_rfl) (f64.S I F call) (by kernel_rfl) ((f64.qe I call n _ h).symm.trans hr)
  · cases hr
/-! haruspex/refuse.Where -/
noncomputable def c65 : AFunc := (AFunc.mk 22 1 [(.cellN 2 3), (.tmp 3)] (.seq (.region [(S 2 (.alloc [(Z 0), (Z 0), (Z 0)]) .none), (S 3 (.move (.val (.bool .false))) .none)]) (.seq (.seq (.region [(M 5 0), (S 6 (.call 95 [(T 5)]) .none), (M 4 6)]) (.seq (.region [(M 7 4), (S 8 (.eq .true .ptr .true (T 7) (.val .nilp)) .none), (M 9 8), (S 10 (.move (T 4)) (.some (9, .true))), (S 11 (.nilCheck (T 10)) (.some (9, .true))), (S 12 (.fieldAddr 1 (T 11)) (.some (9, .true))), (S 13 (.fieldAddr 0 (T 12)) (.some (9, .true))), (S 14 (.load1 (T 13)) (.some (9, .true))), (S 15 (.bin .geq (T 14) (V 0)) (.some (9, .true))), (S 16 (.pick (T 9) (T 15) (.val (.bool .false))) .none)]) (.cond (T 16) (.seq (.region [(M 17 4), (NC 18 17), (FA 19 1 18), (S 20 (.loadN 3 (T 19)) .none), (AOper.mk .none (.store 3 (T 2) (T 20)) .none), (S 3 (.move (.val (.bool .true))) .none)]) .ret) .skip))) (.seq (.region [(S 21 (.build [(Z 0), (Z 0), (Z 0)] []) .none), (AOper.mk .none (.store 3 (T 2) (T 21)) .none), (S 3 (.move (.val (.bool .false))) .none)]) .ret))))
abbrev f65.Js : Type := (AVal → AHeap → Rs)
noncomputable def f65.b0 (I : Inp) (call : CallFn) (j : f65.Js) (v2 : AVal) (h : AHeap) : Rs :=
  bndP (pBuild [(Z 0), (Z 0), (Z 0)] []) fun v21 =>
  bnd (sStore 3 v2 v21 h) fun _ h1 =>
  sRet (sCons (sResN I 3 v2 h1) (sCons (some (.bool .false)) (some []))) h1
noncomputable def f65.e (I : Inp) (call : CallFn) (j : f65.Js) (v0 : AVal) (h : AHeap) : Rs :=
  bnd (sAlloc [(Z 0), (Z 0), (Z 0)] h) fun v2 h1 =>
  bnd (call 95 [v0] h1) fun v6 h2 =>
  bndP (pEq P .true .ptr .true v6 .nilp h2) fun v8 =>
  bnd (sGuard v8 .true (some (v6, h2)) h2) fun v10 h3 =>
  bnd (sGuard v8 .true (lift (pNilCheck v10) h3) h3) fun v11 h4 =>
  bnd (sGuard v8 .true (lift (pFieldAddr 1 v11) h4) h4) fun v12 h5 =>
  bnd (sGuard v8 .true (lift (pFieldAddr 0 v12) h5) h5) fun v13 h6 =>
  bnd (sGuard v8 .true (lift (pLoad1 I v13 h6) h6) h6) fun v14 h7 =>
  bnd (sGuard v8 .true (lift (pBin .geq v14 (Z 0)) h7) h7) fun v15 h8 =>
  bndP (pPick v8 v15 (.bool .false)) fun v16 =>
  sCond v16 (
  j v2 h8) (
  bndP (pNilCheck v6) fun v18 =>
  bndP (pFieldAddr 1 v18) fun v19 =>
  bndP (pLoadN I 3 v19 h8) fun v20 =>
  bnd (sStore 3 v2 v20 h8) fun _ h9 =>
  sRet (sCons (sResN I 3 v2 h9) (sCons (some (.bool .true)) (some []))) h9)
noncomputable def f65.J (I : Inp) (call : CallFn) (n : Nat) : f65.Js :=
  Nat.rec (motive := fun _ => f65.Js) (fun _ _ => none) (fun _ ih => f65.b0 I call ih) n
noncomputable def f65.JS (I : Inp) (call : CallFn) (n : Nat) : Jmp := fun id ρ h =>
  ((f65.J I call n) (ρ 2) h)
theorem f65.q0 (I : Inp) (call : CallFn) (n : Nat) (ρ : Fun) (h : AHeap) : f65.JS I call (n + 1) 0 ρ h = labC P I call (f65.JS I call n) c65.body 0 (finV I c65.results) 0 ρ h := by kernel_rfl
theorem f65.S (I : Inp) (F : Nat → Option AFn) (call : CallFn) : SFn ⟨P, I, F⟩ call c65 (f65.JS I call) :=
  ⟨fun id hid ρ h => by
    have hc : c65.body.cnt = 1 := by kernel_rfl
    rw [hc] at hid
    exact match id, hid with
    | 0, _ => rfl
    | id + 1, hid => absurd hid (by omega), fun n id hid ρ h => by
    have hc : c65.body.cnt = 1 := by kernel_rfl
    rw [hc] at hid
    exact match id, hid with
    | 0, _ => f65.q0 I call n ρ h
    | id + 1, hid => absurd hid (by omega)⟩
noncomputable def f65.run (I : Inp) : SF := fun call n a h =>
  match a with
  | [v0] => f65.e I call (f65.J I call n) v0 h
  | _ => none
theorem f65.qe (I : Inp) (call : CallFn) (n : Nat) (v0 : AVal) (h : AHeap) : f65.e I call (f65.J I call n) v0 h = execC P I call (f65.JS I call n) c65.body 0 (finV I c65.results) (argV [v0]) h := by kernel_rfl
theorem f65.code : codeOf P 65 = some c65 := by kernel_rfl
theorem f65.ok (I : Inp) (F : Nat → Option AFn) (hF : F 65 = some (.code c65)) : SfOk P I F 65 (f65.run I) := by
  intro call hc n args h r hr
  unfold f65.run at hr
  split at hr
  · exact fn_sound (C := ⟨P, I, F⟩) (n := n) hc hF (Nat.le_of_ble_eq_true (by kernel_rfl)) (by kernel_rfl) (f65.S I F call) (by kernel_rfl) ((f65.qe I call n _ h).symm.trans hr)
  · cases hr
/-! haruspex/refuse.None -/
noncomputable def c66 : AFunc := (AFunc.mk 2 0 [(.cellN 0 3)] (.seq (.region [(S 0 (.alloc [(Z 0), (Z 0), (Z 0)]) .none)]) (.seq (.region [(S 1 (.build [(Z 0), (Z 0), (Z 0)] [(0, (1, (.val (.int .i64 (.negSucc 0)))))]) .none), (AOper.mk .none (.store 3 (T 0) (T 1)) .none)]) .ret)))
abbrev f66.Js : Type := Unit
noncomputable def f66.e (I : Inp) (call : CallFn) (j : f66.Js) (h : AHeap) : Rs :=
  bnd (sAlloc [(Z 0), (Z 0), (Z 0)] h) fun v0 h1 =>
  bndP (pBuild [(Z 0), (Z 0), (Z 0)] [(0, 1, (.int .i64 (.negSucc 0)))]) fun v1 =>
  bnd (sStore 3 v0 v1 h1) fun _ h2 =>
  sRet (sCons (sResN I 3 v0 h2) (some [])) h2
theorem f66.S (I : Inp) (F : Nat → Option AFn) (call : CallFn) : SFn ⟨P, I, F⟩ call c66 (fun _ _ _ _ => none) :=
  ⟨fun _ _ _ _ => rfl, fun n id hid => absurd hid (by rw [show c66.body.cnt = 0 by kernel_rfl]; omega)⟩
noncomputable def f66.run (I : Inp) : SF := fun call n a h =>
  match a with
  | [] => f66.e I call () h
  | _ => none
theorem f66.qe (I : Inp) (call : CallFn) (n : Nat) (h : AHeap) : f66.e I call () h = execC P I call (fun _ _ _ => none) c66.body 0 (finV I c66.results) (argV []) h := by kernel_rfl
theorem f66.code : codeOf P 66 = some c66 := by kernel_rfl
theorem f66.ok (I : Inp) (F : Nat → Option AFn) (hF : F 66 = some (.code c66)) : SfOk P I F 66 (f66.run I) := by
  intro call hc n args h r hr
  unfold f66.run at hr
  split at hr
  · exact fn_sound (C := ⟨P, I, F⟩) (n := n) hc hF (Nat.le_of_ble_eq_true (by kernel_rfl)) (by kernel_rfl) (f66.S I F call) (by kernel_rfl) ((f66.qe I call n h).symm.trans hr)
  · cases hr
/-! haruspex/refuse.New -/
noncomputable def c67 : AFunc := (AFunc.mk 13 3 [(.tmp 6)] (.seq (.region [(S 4 (.box (T 1)) .none), (S 6 (.move (.val .nili)) .none)]) (.seq (.region [(M 7 0), (S 8 (.loadN 3 (T 4)) .none), (M 9 2), (S 10 (.build [(Z 0), (Z 0), (Z 0), (Z 0), .nili] [(0, (1, (T 7))), (1, (3, (T 8))), (4, (1, (T 9)))]) .none), (S 11 (.box (T 10)) .none), (S 12 (.iface 154 (T 11)) .none), (M 6 12)]) .ret)))
abbrev f67.Js : Type := Unit
noncomputable def f67.e (I : Inp) (call : CallFn) (j : f67.Js) (v0 v1 v2 : AVal) (h : AHeap) : Rs :=
  bnd (sBox v1 h) fun v4 h1 =>
  bndP (pLoadN I 3 v4 h1) fun v8 =>
  bndP (pBuild [(Z 0), (Z 0), (Z 0), (Z 0), .nili] [(0, 1, v0), (1, 3, v8), (4, 1, v2)]) fun v10 =>
  bnd (sBox v10 h1) fun v11 h2 =>
  some ((.iface 154 v11), h2)
theorem f67.S (I : Inp) (F : Nat → Option AFn) (call : CallFn) : SFn ⟨P, I, F⟩ call c67 (fun _ _ _ _ => none) :=
  ⟨fun _ _ _ _ => rfl, fun n id hid => absurd hid (by rw [show c67.body.cnt = 0 by kernel_rfl]; omega)⟩
noncomputable def f67.run (I : Inp) : SF := fun call n a h =>
  match a with
  | [v0, v1, v2] => f67.e I call () v0 v1 v2 h
  | _ => none
theorem f67.qe (I : Inp) (call : CallFn) (n : Nat) (v0 v1 v2 : AVal) (h : AHeap) : f67.e I call () v0 v1 v2 h = execC P I call (fun _ _ _ => none) c67.body 0 (finV I c67.results) (argV [v0, v1, v2]) h := by kernel_rfl
theorem f67.code : codeOf P 67 = some c67 := by kernel_rfl
theorem f67.ok (I : Inp) (F : Nat → Option AFn) (hF : F 67 = some (.code c67)) : SfOk P I F 67 (f67.run I) := by
  intro call hc n args h r hr
  unfold f67.run at hr
  split at hr
  · exact fn_sound (C := ⟨P, I, F⟩) (n := n) hc hF (Nat.le_of_ble_eq_true (by kernel_rfl)) (by kernel_rfl) (f67.S I F call) (by kernel_rfl) ((f67.qe I call n _ _ _ h).symm.trans hr)
  · cases hr
/-! haruspex/refuse.Why -/
noncomputable def c68 : AFunc := (AFunc.mk 12 1 [(.tmp 2)] (.seq (.region [(S 2 (.move (V 0)) .none)]) (.seq (.seq (.region [(M 4 0), (S 5 (.call 95 [(T 4)]) .none), (M 3 5)]) (.seq (.region [(M 6 3), (S 7 (.eq .true .ptr .true (T 6) (.val .nilp)) .none)]) (.cond (T 7) (.seq (.region [(M 8 3), (NC 9 8), (FA 10 0 9), (L1 11 10), (M 2 11)]) .ret) .skip))) (.seq (.region [(S 2 (.move (V 0)) .none)]) .ret))))
abbrev f68.Js : Type := (AHeap → Rs)
noncomputable def f68.b0 (I : Inp) (call : CallFn) (j : f68.Js) (h : AHeap) : Rs :=
  some ((Z 0), h)
noncomputable def f68.e (I : Inp) (call : CallFn) (j : f68.Js) (v0 : AVal) (h : AHeap) : Rs :=
  bnd (call 95 [v0] h) fun v5 h1 =>
  bndP (pEq P .true .ptr .true v5 .nilp h1) fun v7 =>
  sCond v7 (
  j h1) (
  bndP (pNilCheck v5) fun v9 =>
  bndP (pFieldAddr 0 v9) fun v10 =>
  bndP (pLoad1 I v10 h1) fun v11 =>
  some (v11, h1))
noncomputable def f68.J (I : Inp) (call : CallFn) (n : Nat) : f68.Js :=
  Nat.rec (motive := fun _ => f68.Js) (fun _ => none) (fun _ ih => f68.b0 I call ih) n
noncomputable def f68.JS (I : Inp) (call : CallFn) (n : Nat) : Jmp := fun id ρ h =>
  ((f68.J I call n) h)
theorem f68.q0 (I : Inp) (call : CallFn) (n : Nat) (ρ : Fun) (h : AHeap) : f68.JS I call (n + 1) 0 ρ h = labC P I call (f68.JS I call n) c68.body 0 (finV I c68.results) 0 ρ h := by kernel_rfl
theorem f68.S (I : Inp) (F : Nat → Option AFn) (call : CallFn) : SFn ⟨P, I, F⟩ call c68 (f68.JS I call) :=
  ⟨fun id hid ρ h => by
    have hc : c68.body.cnt = 1 := by kernel_rfl
    rw [hc] at hid
    exact match id, hid with
    | 0, _ => rfl
    | id + 1, hid => absurd hid (by omega), fun n id hid ρ h => by
    have hc : c68.body.cnt = 1 := by kernel_rfl
    rw [hc] at hid
    exact match id, hid with
    | 0, _ => f68.q0 I call n ρ h
    | id + 1, hid => absurd hid (by omega)⟩
noncomputable def f68.run (I : Inp) : SF := fun call n a h =>
  match a with
  | [v0] => f68.e I call (f68.J I call n) v0 h
  | _ => none
theorem f68.qe (I : Inp) (call : CallFn) (n : Nat) (v0 : AVal) (h : AHeap) : f68.e I call (f68.J I call n) v0 h = execC P I call (f68.JS I call n) c68.body 0 (finV I c68.results) (argV [v0]) h := by kernel_rfl
theorem f68.code : codeOf P 68 = some c68 := by kernel_rfl
theorem f68.ok (I : Inp) (F : Nat → Option AFn) (hF : F 68 = some (.code c68)) : SfOk P I F 68 (f68.run I) := by
  intro call hc n args h r hr
  unfold f68.run at hr
  split at hr
  · exact fn_sound (C := ⟨P, I, F⟩) (n := n) hc hF (Nat.le_of_ble_eq_true (by kernel_rfl)) (by kernel_rfl) (f68.S I F call) (by kernel_rfl) ((f68.qe I call n _ h).symm.trans hr)
  · cases hr
/-! haruspex/ir.Number -/
noncomputable def c69 : AFunc := (AFunc.mk 61 2 [(.tmp 4)] (.seq (.region [(S 3 (.box (T 1)) .none), (S 4 (.move (V 0)) .none)]) (.seq (.seq (.region [(M 8 0), (S 9 (.loadN 3 (T 3)) .none), (S 10 (.call 71 [(T 8), (T 9)]) .none), (S 11 (.eq .false .ptr .true (T 10) (.val .nilp)) .none)]) (.cond (T 11) (.seq (.region [(S 4 (.move (.val (.int .i64 (.negSucc 0)))) .none)]) .ret) .skip)) (.seq (.region [(FA 12 2 3), (L1 13 12), (M 5 13)]) (.seq (.seq (.region [(FA 14 0 3), (L1 15 14), (S 16 (.bin .add (T 15) (V 1)) .none), (S 17 (.move (V 0)) .none)]) (.block 0 (.loop (.seq (.region [(S 18 (.bin .lss (T 17) (T 16)) .none)]) (.seq (.cond (T 18) .skip (.exit 0)) (.seq (.block 1 (.seq (.region [(M 19 17), (M 6 19)]) (.seq (.region [(M 20 0), (NC 21 20), (FA 22 4 21), (L1 23 22), (M 24 6), (S 25 (.indexAddr 3 (T 23) (T 24)) .none), (FA 26 2 25), (L1 27 26), (S 28 (.lenSl (T 27)) .none), (S 29 (.move (V 0)) .none)]) (.block 2 (.loop (.seq (.region [(S 30 (.bin .lss (T 29) (T 28)) .none)]) (.seq (.cond (T 30) .skip (.exit 2)) (.seq (.block 3 (.seq (.region [(M 31 29), (M 7 31)]) (.seq (.region [(M 32 6), (FA 33 0 3), (L1 34 33), (S 35 (.bin .lss (T 32) (T 34)) .none), (M 36 35), (S 37 (.move (T 7)) (.some (36, .false))), (S 38 (.fieldAddr 1 (T 3)) (.some (36, .false))), (S 39 (.load1 (T 38)) (.some (36, .false))), (S 40 (.bin .lss (T 37) (T 39)) (.some (36, .false))), (S 41 (.pick (T 36) (.val (.bool .true)) (T 40)) .none)]) (.cond (T 41) (.region [(M 42 5), (M 43 0), (NC 44 43), (FA 45 4 44), (L1 46 45), (M 47 6), (S 48 (.indexAddr 3 (T 46) (T 47)) .none), (FA 49 2 48), (L1 50 49), (M 51 7), (S 52 (.indexAddr 5 (T 50) (T 51)) .none), (FA 53 0 52), (L1 54 53), (S 55 (.lenSl (T 54)) .none), (S 56 (.bin .add (T 55) (V 1)) .none), (S 57 (.bin .add (T 42) (T 56)) .none), (M 5 57)]) .skip)))) (.region [(S 58 (.bin .add (T 29) (V 1)) .none), (M 29 58)]))))))))) (.region [(S 59 (.bin .add (T 17) (V 1)) .none), (M 17 59)]))))))) (.seq (.region [(M 60 5), (M 4 60)]) .ret))))))
abbrev f69.Js : Type := ((((AVal → AVal → AHeap → Rs) × (AVal → AHeap → Rs)) × ((AVal → AVal → AVal → AVal → AVal → AHeap → Rs) × (AVal → AVal → AVal → AVal → AVal → AHeap → Rs))) × (((AVal → AVal → AVal → AVal → AVal → AHeap → Rs) × (AVal → AVal → AVal → AVal → AVal → AVal → AVal → AVal → AHeap → Rs)) × ((AVal → AVal → AVal → AVal → AVal → AVal → AVal → AVal → AHeap → Rs) × (AVal → AVal → AVal → AVal → AVal → AVal → AVal → AVal → AHeap → Rs))))
noncomputable def f69.b0 (I : Inp) (call : CallFn) (j : f69.Js) (v0 v3 : AVal) (h : AHeap) : Rs :=
  bndP (pFieldAddr 2 v3) fun v12 =>
  bndP (pLoad1 I v12 h) fun v13 =>
  bndP (pFieldAddr 0 v3) fun v14 =>
  bndP (pLoad1 I v14 h) fun v15 =>
  bndP (pBin .add v15 (Z 1)) fun v16 =>
  j.1.2.1 v0 v3 v13 v16 (Z 0) h
noncomputable def f69.b1 (I : Inp) (call : CallFn) (j : f69.Js) (v5 : AVal) (h : AHeap) : Rs :=
  some (v5, h)
noncomputable def f69.b2 (I : Inp) (call : CallFn) (j : f69.Js) (v0 v3 v5 v16 v17 : AVal) (h : AHeap) : Rs :=
  bndP (pBin .lss v17 v16) fun v18 =>
  sCond v18 (
  j.1.1.2 v5 h) (
  j.1.2.2 v0 v3 v5 v16 v17 h)
noncomputable def f69.b3 (I : Inp) (call : CallFn) (j : f69.Js) (v0 v3 v5 v16 v17 : AVal) (h : AHeap) : Rs :=
  bndP (pNilCheck v0) fun v21 =>
  bndP (pFieldAddr 4 v21) fun v22 =>
  bndP (pLoad1 I v22 h) fun v23 =>
  bndP (pIndexAddr 3 v23 v17) fun v25 =>
  bndP (pFieldAddr 2 v25) fun v26 =>
  bndP (pLoad1 I v26 h) fun v27 =>
  bndP (pLenSl v27) fun v28 =>
  j.2.1.2 v0 v3 v5 v17 v16 v17 v28 (Z 0) h
noncomputable def f69.b4 (I : Inp) (call : CallFn) (j : f69.Js) (v0 v3 v5 v16 v17 : AVal) (h : AHeap) : Rs :=
  bndP (pBin .add v17 (Z 1)) fun v59 =>
  j.1.2.1 v0 v3 v5 v16 v59 h
noncomputable def f69.b5 (I : Inp) (call : CallFn) (j : f69.Js) (v0 v3 v5 v6 v16 v17 v28 v29 : AVal) (h : AHeap) : Rs :=
  bndP (pBin .lss v29 v28) fun v30 =>
  sCond v30 (
  j.2.1.1 v0 v3 v5 v16 v17 h) (
  j.2.2.1 v0 v3 v5 v6 v16 v17 v28 v29 h)
noncomputable def f69.b6 (I : Inp) (call : CallFn) (j : f69.Js) (v0 v3 v5 v6 v16 v17 v28 v29 : AVal) (h : AHeap) : Rs :=
  bndP (pFieldAddr 0 v3) fun v33 =>
  bndP (pLoad1 I v33 h) fun v34 =>
  bndP (pBin .lss v6 v34) fun v35 =>
  bnd (sGuard v35 .false (some (v29, h)) h) fun v37 h1 =>
  bnd (sGuard v35 .false (lift (pFieldAddr 1 v3) h1) h1) fun v38 h2 =>
  bnd (sGuard v35 .false (lift (pLoad1 I v38 h2) h2) h2) fun v39 h3 =>
  bnd (sGuard v35 .false (lift (pBin .lss v37 v39) h3) h3) fun v40 h4 =>
  bndP (pPick v35 (.bool .true) v40) fun v41 =>
  sCond v41 (
  j.2.2.2 v0 v3 v5 v6 v16 v17 v28 v29 h4) (
  bndP (pNilCheck v0) fun v44 =>
  bndP (pFieldAddr 4 v44) fun v45 =>
  bndP (pLoad1 I v45 h4) fun v46 =>
  bndP (pIndexAddr 3 v46 v6) fun v48 =>
  bndP (pFieldAddr 2 v48) fun v49 =>
  bndP (pLoad1 I v49 h4) fun v50 =>
  bndP (pIndexAddr 5 v50 v29) fun v52 =>
  bndP (pFieldAddr 0 v52) fun v53 =>
  bndP (pLoad1 I v53 h4) fun v54 =>
  bndP (pLenSl v54) fun v55 =>
  bndP (pBin .add v55 (Z 1)) fun v56 =>
  bndP (pBin .add v5 v56) fun v57 =>
  j.2.2.2 v0 v3 v57 v6 v16 v17 v28 v29 h4)
noncomputable def f69.b7 (I : Inp) (call : CallFn) (j : f69.Js) (v0 v3 v5 v6 v16 v17 v28 v29 : AVal) (h : AHeap) : Rs :=
  bndP (pBin .add v29 (Z 1)) fun v58 =>
  j.2.1.2 v0 v3 v5 v6 v16 v17 v28 v58 h
noncomputable def f69.e (I : Inp) (call : CallFn) (j : f69.Js) (v0 v1 : AVal) (h : AHeap) : Rs :=
  bnd (sBox v1 h) fun v3 h1 =>
  bndP (pLoadN I 3 v3 h1) fun v9 =>
  bnd (call 71 [v0, v9] h1) fun v10 h2 =>
  bndP (pEq P .false .ptr .true v10 .nilp h2) fun v11 =>
  sCond v11 (
  j.1.1.1 v0 v3 h2) (
  some ((.int .i64 (.negSucc 0)), h2))
noncomputable def f69.J (I : Inp) (call : CallFn) (n : Nat) : f69.Js :=
  Nat.rec (motive := fun _ => f69.Js) ((((fun _ _ _ => none), (fun _ _ => none)), ((fun _ _ _ _ _ _ => none), (fun _ _ _ _ _ _ => none))), (((fun _ _ _ _ _ _ => none), (fun _ _ _ _ _ _ _ _ _ => none)), ((fun _ _ _ _ _ _ _ _ _ => none), (fun _ _ _ _ _ _ _ _ _ => none)))) (fun _ ih => (((f69.b0 I call ih, f69.b1 I call ih), (f69.b2 I call ih, f69.b3 I call ih)), ((f69.b4 I call ih, f69.b5 I call ih), (f69.b6 I call ih, f69.b7 I call ih)))) n
noncomputable def f69.JS (I : Inp) (call : CallFn) (n : Nat) : Jmp := fun id ρ h =>
  (Bool.rec (motive := fun _ => _) (Bool.rec (motive := fun _ => _) (Bool.rec (motive := fun _ => _) ((f69.J I call n).2.2.2 (ρ 0) (ρ 3) (ρ 5) (ρ 6) (ρ 16) (ρ 17) (ρ 28) (ρ 29) h) ((f69.J I call n).2.2.1 (ρ 0) (ρ 3) (ρ 5) (ρ 6) (ρ 16) (ρ 17) (ρ 28) (ρ 29) h) (Nat.blt id 7)) (Bool.rec (motive := fun _ => _) ((f69.J I call n).2.1.2 (ρ 0) (ρ 3) (ρ 5) (ρ 6) (ρ 16) (ρ 17) (ρ 28) (ρ 29) h) ((f69.J I call n).2.1.1 (ρ 0) (ρ 3) (ρ 5) (ρ 16) (ρ 17) h) (Nat.blt id 5)) (Nat.blt id 6)) (Bool.rec (motive := fun _ => _) (Bool.rec (motive := fun _ => _) ((f69.J I call n).1.2.2 (ρ 0) (ρ 3) (ρ 5) (ρ 16) (ρ 17) h) ((f69.J I call n).1.2.1 (ρ 0) (ρ 3) (ρ 5) (ρ 16) (ρ 17) h) (Nat.blt id 3)) (Bool.rec (motive := fun _ => _) ((f69.J I call n).1.1.2 (ρ 5) h) ((f69.J I call n).1.1.1 (ρ 0) (ρ 3) h) (Nat.blt id 1)) (Nat.blt id 2)) (Nat.blt id 4))
theorem f69.q0 (I : Inp) (call : CallFn) (n : Nat) (ρ : Fun) (h : AHeap) : f69.JS I call (n + 1) 0 ρ h = labC P I call (f69.JS I call n) c69.body 0 (finV I c69.results) 0 ρ h := by kernel_rfl
theorem f69.q1 (I : Inp) (call : CallFn) (n : Nat) (ρ : Fun) (h : AHeap) : f69.JS I call (n + 1) 1 ρ h = labC P I call (f69.JS I call n) c69.body 0 (finV I c69.results) 1 ρ h := by kernel_rfl
theorem f69.q2 (I : Inp) (call : CallFn) (n : Nat) (ρ : Fun) (h : AHeap) : f69.JS I call (n + 1) 2 ρ h = labC P I call (f69.JS I call n) c69.body 0 (finV I c69.results) 2 ρ h := by kernel_rfl
theorem f69.q3 (I : Inp) (call : CallFn) (n : Nat) (ρ : Fun) (h : AHeap) : f69.JS I call (n + 1) 3 ρ h = labC P I call (f69.JS I call n) c69.body 0 (finV I c69.results) 3 ρ h := by kernel_rfl
theorem f69.q4 (I : Inp) (call : CallFn) (n : Nat) (ρ : Fun) (h : AHeap) : f69.JS I call (n + 1) 4 ρ h = labC P I call (f69.JS I call n) c69.body 0 (finV I c69.results) 4 ρ h := by kernel_rfl
theorem f69.q5 (I : Inp) (call : CallFn) (n : Nat) (ρ : Fun) (h : AHeap) : f69.JS I call (n + 1) 5 ρ h = labC P I call (f69.JS I call n) c69.body 0 (finV I c69.results) 5 ρ h := by kernel_rfl
theorem f69.q6 (I : Inp) (call : CallFn) (n : Nat) (ρ : Fun) (h : AHeap) : f69.JS I call (n + 1) 6 ρ h = labC P I call (f69.JS I call n) c69.body 0 (finV I c69.results) 6 ρ h := by kernel_rfl
theorem f69.q7 (I : Inp) (call : CallFn) (n : Nat) (ρ : Fun) (h : AHeap) : f69.JS I call (n + 1) 7 ρ h = labC P I call (f69.JS I call n) c69.body 0 (finV I c69.results) 7 ρ h := by kernel_rfl
theorem f69.S (I : Inp) (F : Nat → Option AFn) (call : CallFn) : SFn ⟨P, I, F⟩ call c69 (f69.JS I call) :=
  ⟨fun id hid ρ h => by
    have hc : c69.body.cnt = 8 := by kernel_rfl
    rw [hc] at hid
    exact match id, hid with
    | 0, _ => rfl
    | 1, _ => rfl
    | 2, _ => rfl
    | 3, _ => rfl
    | 4, _ => rfl
    | 5, _ => rfl
    | 6, _ => rfl
    | 7, _ => rfl
    | id + 8, hid => absurd hid (by omega), fun n id hid ρ h => by
    have hc : c69.body.cnt = 8 := by kernel_rfl
    rw [hc] at hid
    exact match id, hid with
    | 0, _ => f69.q0 I call n ρ h
    | 1, _ => f69.q1 I call n ρ h
    | 2, _ => f69.q2 I call n ρ h
    | 3, _ => f69.q3 I call n ρ h
    | 4, _ => f69.q4 I call n ρ h
    | 5, _ => f69.q5 I call n ρ h
    | 6, _ => f69.q6 I call n ρ h
    | 7, _ => f69.q7 I call n ρ h
    | id + 8, hid => absurd hid (by omega)⟩
noncomputable def f69.run (I : Inp) : SF := fun call n a h =>
  match a with
  | [v0, v1] => f69.e I call (f69.J I call n) v0 v1 h
  | _ => none
theorem f69.qe (I : Inp) (call : CallFn) (n : Nat) (v0 v1 : AVal) (h : AHeap) : f69.e I call (f69.J I call n) v0 v1 h = execC P I call (f69.JS I call n) c69.body 0 (finV I c69.results) (argV [v0, v1]) h := by kernel_rfl
theorem f69.code : codeOf P 69 = some c69 := by kernel_rfl
theorem f69.ok (I : Inp) (F : Nat → Option AFn) (hF : F 69 = some (.code c69)) : SfOk P I F 69 (f69.run I) := by
  intro call hc n args h r hr
  unfold f69.run at hr
  split at hr
  · exact fn_sound (C := ⟨P, I, F⟩) (n := n) hc hF (Nat.le_of_ble_eq_true (by kernel_rfl)) (by kernel_rfl) (f69.S I F call) (by kernel_rfl) ((f69.qe I call n _ _ h).symm.trans hr)
  · cases hr
/-! haruspex/ir.Point -/
noncomputable def c70 : AFunc := (AFunc.mk 63 2 [(.cellN 4 3), (.tmp 5)] (.seq (.region [(S 4 (.alloc [(Z 0), (Z 0), (Z 0)]) .none), (S 5 (.move (.val (.bool .false))) .none)]) (.seq (.seq (.region [(M 9 0), (S 10 (.eq .false .ptr .true (T 9) (.val .nilp)) .none), (M 11 10), (S 12 (.move (T 1)) (.some (11, .false))), (S 13 (.bin .lss (T 12) (V 0)) (.some (11, .false))), (S 14 (.pick (T 11) (.val (.bool .true)) (T 13)) .none)]) (.cond (T 14) (.seq (.region [(S 15 (.build [(Z 0), (Z 0), (Z 0)] []) .none), (AOper.mk .none (.store 3 (T 4) (T 15)) .none), (S 5 (.move (.val (.bool .false))) .none)]) .ret) .skip)) (.seq (.seq (.region [(M 16 0), (NC 17 16), (FA 18 4 17), (L1 19 18), (S 20 (.lenSl (T 19)) .none), (S 21 (.move (V 0)) .none)]) (.block 0 (.loop (.seq (.region [(S 22 (.bin .lss (T 21) (T 20)) .none)]) (.seq (.cond (T 22) .skip (.exit 0)) (.seq (.block 1 (.seq (.region [(M 23 21), (M 6 23)]) (.seq (.region [(M 24 0), (NC 25 24), (FA 26 4 25), (L1 27 26), (M 28 6), (S 29 (.indexAddr 3 (T 27) (T 28)) .none), (FA 30 2 29), (L1 31 30), (S 32 (.lenSl (T 31)) .none), (S 33 (.move (V 0)) .none)]) (.block 2 (.loop (.seq (.region [(S 34 (.bin .lss (T 33) (T 32)) .none)]) (.seq (.cond (T 34) .skip (.exit 2)) (.seq (.block 3 (.seq (.region [(M 35 33), (M 7 35)]) (.seq (.region [(M 36 0), (NC 37 36), (FA 38 4 37), (L1 39 38), (M 40 6), (S 41 (.indexAddr 3 (T 39) (T 40)) .none), (FA 42 2 41), (L1 43 42), (M 44 7), (S 45 (.indexAddr 5 (T 43) (T 44)) .none), (FA 46 0 45), (L1 47 46), (S 48 (.lenSl (T 47)) .none), (S 49 (.bin .add (T 48) (V 1)) .none), (M 8 49)]) (.seq (.seq (.region [(M 50 1), (M 51 8), (S 52 (.bin .lss (T 50) (T 51)) .none)]) (.cond (T 52) (.seq (.region [(M 53 6), (M 54 7), (M 55 1), (S 56 (.build [(Z 0), (Z 0), (Z 0)] [(0, (1, (T 53))), (1, (1, (T 54))), (2, (1, (T 55)))]) .none), (AOper.mk .none (.store 3 (T 4) (T 56)) .none), (S 5 (.move (.val (.bool .true))) .none)]) .ret) .skip)) (.region [(M 57 1), (M 58 8), (S 59 (.bin .sub (T 57) (T 58)) .none), (M 1 59)]))))) (.region [(S 60 (.bin .add (T 33) (V 1)) .none), (M 33 60)]))))))))) (.region [(S 61 (.bin .add (T 21) (V 1)) .none), (M 21 61)]))))))) (.seq (.region [(S 62 (.build [(Z 0), (Z 0), (Z 0)] []) .none), (AOper.mk .none (.store 3 (T 4) (T 62)) .none), (S 5 (.move (.val (.bool .false))) .none)]) .ret)))))
abbrev f70.Js : Type := ((((AVal → AVal → AVal → AHeap → Rs) × (AVal → AHeap → Rs)) × ((AVal → AVal → AVal → AVal → AVal → AHeap → Rs) × (AVal → AVal → AVal → AVal → AVal → AHeap → Rs))) × (((AVal → AVal → AVal → AVal → AVal → AHeap → Rs) × (AVal → AVal → AVal → AVal → AVal → AVal → AVal → AVal → AHeap → Rs)) × ((AVal → AVal → AVal → AVal → AVal → AVal → AVal → AVal → AHeap → Rs) × ((AVal → AVal → AVal → AVal → AVal → AVal → AVal → AVal → AHeap → Rs) × (AVal → AVal → AVal → AVal → AVal → AVal → AVal → AVal → AVal → AHeap → Rs)))))
noncomputable def f70.b0 (I : Inp) (call : CallFn) (j : f70.Js) (v0 v1 v4 : AVal) (h : AHeap) : Rs :=
  bndP (pNilCheck v0) fun v17 =>
  bndP (pFieldAddr 4 v17) fun v18 =>
  bndP (pLoad1 I v18 h) fun v19 =>
  bndP (pLenSl v19) fun v20 =>
  j.1.2.1 v0 v1 v4 v20 (Z 0) h
noncomputable def f70.b1 (I : Inp) (call : CallFn) (j : f70.Js) (v4 : AVal) (h : AHeap) : Rs :=
  bndP (pBuild [(Z 0), (Z 0), (Z 0)] []) fun v62 =>
  bnd (sStore 3 v4 v62 h) fun _ h1 =>
  sRet (sCons (sResN I 3 v4 h1) (sCons (some (.bool .false)) (some []))) h1
noncomputable def f70.b2 (I : Inp) (call : CallFn) (j : f70.Js) (v0 v1 v4 v20 v21 : AVal) (h : AHeap) : Rs :=
  bndP (pBin .lss v21 v20) fun v22 =>
  sCond v22 (
  j.1.1.2 v4 h) (
  j.1.2.2 v0 v1 v4 v20 v21 h)
noncomputable def f70.b3 (I : Inp) (call : CallFn) (j : f70.Js) (v0 v1 v4 v20 v21 : AVal) (h : AHeap) : Rs :=
  bndP (pNilCheck v0) fun v25 =>
  bndP (pFieldAddr 4 v25) fun v26 =>
  bndP (pLoad1 I v26 h) fun v27 =>
  bndP (pIndexAddr 3 v27 v21) fun v29 =>
  bndP (pFieldAddr 2 v29) fun v30 =>
  bndP (pLoad1 I v30 h) fun v31 =>
  bndP (pLenSl v31) fun v32 =>
  j.2.1.2 v0 v1 v4 v21 v20 v21 v32 (Z 0) h
noncomputable def f70.b4 (I : Inp) (call : CallFn) (j : f70.Js) (v0 v1 v4 v20 v21 : AVal) (h : AHeap) : Rs :=
  bndP (pBin .add v21 (Z 1)) fun v61 =>
  j.1.2.1 v0 v1 v4 v20 v61 h
noncomputable def f70.b5 (I : Inp) (call : CallFn) (j : f70.Js) (v0 v1 v4 v6 v20 v21 v32 v33 : AVal) (h : AHeap) : Rs :=
  bndP (pBin .lss v33 v32) fun v34 =>
  sCond v34 (
  j.2.1.1 v0 v1 v4 v20 v21 h) (
  j.2.2.1 v0 v1 v4 v6 v20 v21 v32 v33 h)
noncomputable def f70.b6 (I : Inp) (call : CallFn) (j : f70.Js) (v0 v1 v4 v6 v20 v21 v32 v33 : AVal) (h : AHeap) : Rs :=
  bndP (pNilCheck v0) fun v37 =>
  bndP (pFieldAddr 4 v37) fun v38 =>
  bndP (pLoad1 I v38 h) fun v39 =>
  bndP (pIndexAddr 3 v39 v6) fun v41 =>
  bndP (pFieldAddr 2 v41) fun v42 =>
  bndP (pLoad1 I v42 h) fun v43 =>
  bndP (pIndexAddr 5 v43 v33) fun v45 =>
  bndP (pFieldAddr 0 v45) fun v46 =>
  bndP (pLoad1 I v46 h) fun v47 =>
  bndP (pLenSl v47) fun v48 =>
  bndP (pBin .add v48 (Z 1)) fun v49 =>
  bndP (pBin .lss v1 v49) fun v52 =>
  sCond v52 (
  j.2.2.2.2 v0 v1 v4 v6 v49 v20 v21 v32 v33 h) (
  bndP (pBuild [(Z 0), (Z 0), (Z 0)] [(0, 1, v6), (1, 1, v33), (2, 1, v1)]) fun v56 =>
  bnd (sStore 3 v4 v56 h) fun _ h1 =>
  sRet (sCons (sResN I 3 v4 h1) (sCons (some (.bool .true)) (some []))) h1)
noncomputable def f70.b7 (I : Inp) (call : CallFn) (j : f70.Js) (v0 v1 v4 v6 v20 v21 v32 v33 : AVal) (h : AHeap) : Rs :=
  bndP (pBin .add v33 (Z 1)) fun v60 =>
  j.2.1.2 v0 v1 v4 v6 v20 v21 v32 v60 h
noncomputable def f70.b8 (I : Inp) (call : CallFn) (j : f70.Js) (v0 v1 v4 v6 v8 v20 v21 v32 v33 : AVal) (h : AHeap) : Rs :=
  bndP (pBin .sub v1 v8) fun v59 =>
  j.2.2.2.1 v0 v59 v4 v6 v20 v21 v32 v33 h
noncomputable def f70.e (I : Inp) (call : CallFn) (j : f70.Js) (v0 v1 : AVal) (h : AHeap) : Rs :=
  bnd (sAlloc [(Z 0), (Z 0), (Z 0)] h) fun v4 h1 =>
  bndP (pEq P .false .ptr .true v0 .nilp h1) fun v10 =>
  bnd (sGuard v10 .false (some (v1, h1)) h1) fun v12 h2 =>
  bnd (sGuard v10 .false (lift (pBin .lss v12 (Z 0)) h2) h2) fun v13 h3 =>
  bndP (pPick v10 (.bool .true) v13) fun v14 =>
  sCond v14 (
  j.1.1.1 v0 v1 v4 h3) (
  bndP (pBuild [(Z 0), (Z 0), (Z 0)] []) fun v15 =>
  bnd (sStore 3 v4 v15 h3) fun _ h4 =>
  sRet (sCons (sResN I 3 v4 h4) (sCons (some (.bool .false)) (some []))) h4)
noncomputable def f70.J (I : Inp) (call : CallFn) (n : Nat) : f70.Js :=
  Nat.rec (motive := fun _ => f70.Js) ((((fun _ _ _ _ => none), (fun _ _ => none)), ((fun _ _ _ _ _ _ => none), (fun _ _ _ _ _ _ => none))), (((fun _ _ _ _ _ _ => none), (fun _ _ _ _ _ _ _ _ _ => none)), ((fun _ _ _ _ _ _ _ _ _ => none), ((fun _ _ _ _ _ _ _ _ _ => none), (fun _ _ _ _ _ _ _ _ _ _ => none))))) (fun _ ih => (((f70.b0 I call ih, f70.b1 I call ih), (f70.b2 I call ih, f70.b3 I call ih)), ((f70.b4 I call ih, f70.b5 I call ih), (f70.b6 I call ih, (f70.b7 I call ih, f70.b8 I call ih))))) n
noncomputable def f70.JS (I : Inp) (call : CallFn) (n : Nat) : Jmp := fun id ρ h =>
  (Bool.rec (motive := fun _ => _) (Bool.rec (motive := fun _ => _) (Bool.rec (motive := fun _ => _) (Bool.rec (motive := fun _ => _) ((f70.J I call n).2.2.2.2 (ρ 0) (ρ 1) (ρ 4) (ρ 6) (ρ 8) (ρ 20) (ρ 21) (ρ 32) (ρ 33) h) ((f70.J I call n).2.2.2.1 (ρ 0) (ρ 1) (ρ 4) (ρ 6) (ρ 20) (ρ 21) (ρ 32) (ρ 33) h) (Nat.blt id 8)) ((f70.J I call n).2.2.1 (ρ 0) (ρ 1) (ρ 4) (ρ 6) (ρ 20) (ρ 21) (ρ 32) (ρ 33) h) (Nat.blt id 7)) (Bool.rec (motive := fun _ => _) ((f70.J I call n).2.1.2 (ρ 0) (ρ 1) (ρ 4) (ρ 6) (ρ 20) (ρ 21) (ρ 32) (ρ 33) h) ((f70.J I call n).2.1.1 (ρ 0) (ρ 1) (ρ 4) (ρ 20) (ρ 21) h) (Nat.blt id 5)) (Nat.blt id 6)) (Bool.rec (motive := fun _ => _) (Bool.rec (motive := fun _ => _) ((f70.J I call n).1.2.2 (ρ 0) (ρ 1) (ρ 4) (ρ 20) (ρ 21) h) ((f70.J I call n).1.2.1 (ρ 0) (ρ 1) (ρ 4) (ρ 20) (ρ 21) h) (Nat.blt id 3)) (Bool.rec (motive := fun _ => _) ((f70.J I call n).1.1.2 (ρ 4) h) ((f70.J I call n).1.1.1 (ρ 0) (ρ 1) (ρ 4) h) (Nat.blt id 1)) (Nat.blt id 2)) (Nat.blt id 4))
theorem f70.q0 (I : Inp) (call : CallFn) (n : Nat) (ρ : Fun) (h : AHeap) : f70.JS I call (n + 1) 0 ρ h = labC P I call (f70.JS I call n) c70.body 0 (finV I c70.results) 0 ρ h := by kernel_rfl
theorem f70.q1 (I : Inp) (call : CallFn) (n : Nat) (ρ : Fun) (h : AHeap) : f70.JS I call (n + 1) 1 ρ h = labC P I call (f70.JS I call n) c70.body 0 (finV I c70.results) 1 ρ h := by kernel_rfl
theorem f70.q2 (I : Inp) (call : CallFn) (n : Nat) (ρ : Fun) (h : AHeap) : f70.JS I call (n + 1) 2 ρ h = labC P I call (f70.JS I call n) c70.body 0 (finV I c70.results) 2 ρ h := by kernel_rfl
theorem f70.q3 (I : Inp) (call : CallFn) (n : Nat) (ρ : Fun) (h : AHeap) : f70.JS I call (n + 1) 3 ρ h = labC P I call (f70.JS I call n) c70.body 0 (finV I c70.results) 3 ρ h := by kernel_rfl
theorem f70.q4 (I : Inp) (call : CallFn) (n : Nat) (ρ : Fun) (h : AHeap) : f70.JS I call (n + 1) 4 ρ h = labC P I call (f70.JS I call n) c70.body 0 (finV I c70.results) 4 ρ h := by kernel_rfl
theorem f70.q5 (I : Inp) (call : CallFn) (n : Nat) (ρ : Fun) (h : AHeap) : f70.JS I call (n + 1) 5 ρ h = labC P I call (f70.JS I call n) c70.body 0 (finV I c70.results) 5 ρ h := by kernel_rfl
theorem f70.q6 (I : Inp) (call : CallFn) (n : Nat) (ρ : Fun) (h : AHeap) : f70.JS I call (n + 1) 6 ρ h = labC P I call (f70.JS I call n) c70.body 0 (finV I c70.results) 6 ρ h := by kernel_rfl
theorem f70.q7 (I : Inp) (call : CallFn) (n : Nat) (ρ : Fun) (h : AHeap) : f70.JS I call (n + 1) 7 ρ h = labC P I call (f70.JS I call n) c70.body 0 (finV I c70.results) 7 ρ h := by kernel_rfl
theorem f70.q8 (I : Inp) (call : CallFn) (n : Nat) (ρ : Fun) (h : AHeap) : f70.JS I call (n + 1) 8 ρ h = labC P I call (f70.JS I call n) c70.body 0 (finV I c70.results) 8 ρ h := by kernel_rfl
theorem f70.S (I : Inp) (F : Nat → Option AFn) (call : CallFn) : SFn ⟨P, I, F⟩ call c70 (f70.JS I call) :=
  ⟨fun id hid ρ h => by
    have hc : c70.body.cnt = 9 := by kernel_rfl
    rw [hc] at hid
    exact match id, hid with
    | 0, _ => rfl
    | 1, _ => rfl
    | 2, _ => rfl
    | 3, _ => rfl
    | 4, _ => rfl
    | 5, _ => rfl
    | 6, _ => rfl
    | 7, _ => rfl
    | 8, _ => rfl
    | id + 9, hid => absurd hid (by omega), fun n id hid ρ h => by
    have hc : c70.body.cnt = 9 := by kernel_rfl
    rw [hc] at hid
    exact match id, hid with
    | 0, _ => f70.q0 I call n ρ h
    | 1, _ => f70.q1 I call n ρ h
    | 2, _ => f70.q2 I call n ρ h
    | 3, _ => f70.q3 I call n ρ h
    | 4, _ => f70.q4 I call n ρ h
    | 5, _ => f70.q5 I call n ρ h
    | 6, _ => f70.q6 I call n ρ h
    | 7, _ => f70.q7 I call n ρ h
    | 8, _ => f70.q8 I call n ρ h
    | id + 9, hid => absurd hid (by omega)⟩
noncomputable def f70.run (I : Inp) : SF := fun call n a h =>
  match a with
  | [v0, v1] => f70.e I call (f70.J I call n) v0 v1 h
  | _ => none
theorem f70.qe (I : Inp) (call : CallFn) (n : Nat) (v0 v1 : AVal) (h : AHeap) : f70.e I call (f70.J I call n) v0 v1 h = execC P I call (f70.JS I call n) c70.body 0 (finV I c70.results) (argV [v0, v1]) h := by kernel_rfl
theorem f70.code : codeOf P 70 = some c70 := by kernel_rfl
theorem f70.ok (I : Inp) (F : Nat → Option AFn) (hF : F 70 = some (.code c70)) : SfOk P I F 70 (f70.run I) := by
  intro call hc n args h r hr
  unfold f70.run at hr
  split at hr
  · exact fn_sound (C := ⟨P, I, F⟩) (n := n) hc hF (Nat.le_of_ble_eq_true (by kernel_rfl)) (by kernel_rfl) (f70.S I F call) (by kernel_rfl) ((f70.qe I call n _ _ h).symm.trans hr)
  · cases hr
/-! haruspex/ir.block -/
noncomputable def c71 : AFunc := (AFunc.mk 69 2 [(.tmp 4)] (.seq (.region [(S 3 (.box (T 1)) .none), (S 4 (.move (.val .nilp)) .none)]) (.seq (.seq (.draw [(M 6 0), (S 7 (.eq .false .ptr .true (T 6) (.val .nilp)) .none), (M 8 7), (S 9 (.fieldAddr 0 (T 3)) (.some (8, .false))), (S 10 (.load1 (T 9)) (.some (8, .false))), (S 11 (.bin .lss (T 10) (V 0)) (.some (8, .false))), (S 12 (.pick (T 8) (.val (.bool .true)) (T 11)) .none), (M 13 12), (S 14 (.fieldAddr 0 (T 3)) (.some (13, .false))), (S 15 (.load1 (T 14)) (.some (13, .false))), (S 16 (.move (T 0)) (.some (13, .false))), (S 17 (.nilCheck (T 16)) (.some (13, .false))), (S 18 (.fieldAddr 4 (T 17)) (.some (13, .false))), (S 19 (.load1 (T 18)) (.some (13, .false))), (S 20 (.lenSl (T 19)) (.some (13, .false))), (S 21 (.bin .geq (T 15) (T 20)) (.some (13, .false))), (S 22 (.pick (T 13) (.val (.bool .true)) (T 21)) .none), (M 23 22), (S 24 (.fieldAddr 1 (T 3)) (.some (23, .false))), (S 25 (.load1 (T 24)) (.some (23, .false))), (S 26 (.bin .lss (T 25) (V 0)) (.some (23, .false))), (S 27 (.pick (T 23) (.val (.bool .true)) (T 26)) .none), (M 28 27), (S 29 (.fieldAddr 1 (T 3)) (.some (28, .false))), (S 30 (.load1 (T 29)) (.some (28, .false))), (S 31 (.move (T 0)) (.some (28, .false))), (S 32 (.nilCheck (T 31)) (.some (28, .false))), (S 33 (.fieldAddr 4 (T 32)) (.some (28, .false))), (S 34 (.load1 (T 33)) (.some (28, .false))), (S 35 (.fieldAddr 0 (T 3)) (.some (28, .false))), (S 36 (.load1 (T 35)) (.some (28, .false))), (S 37 (.indexAddr 3 (T 34) (T 36)) (.some (28, .false))), (S 38 (.fieldAddr 2 (T 37)) (.some (28, .false))), (S 39 (.load1 (T 38)) (.some (28, .false))), (S 40 (.lenSl (T 39)) (.some (28, .false))), (S 41 (.bin .geq (T 30) (T 40)) (.some (28, .false))), (S 42 (.pick (T 28) (.val (.bool .true)) (T 41)) .none)] [N, N, N, N, N, N, N, N, N, N, N, N, N, N, N, N, N, N, N, N, N, N, N, N, N, N, N, N, N, N, N, N, N, N, N, N, N] 0) (.cond (T 42) (.seq (.region [(S 4 (.move (.val .nilp)) .none)]) .ret) .skip)) (.seq (.draw [(M 43 0), (NC 44 43), (FA 45 4 44), (L1 46 45), (FA 47 0 3), (L1 48 47), (S 49 (.indexAddr 3 (T 46) (T 48)) .none), (FA 50 2 49), (L1 51 50), (FA 52 1 3), (L1 53 52), (S 54 (.indexAddr 5 (T 51) (T 53)) .none), (M 5 54)] [N, N, N, N, N, N, N, N, N, N, N, N, N] 0) (.seq (.seq (.draw [(FA 55 2 3), (L1 56 55), (S 57 (.bin .lss (T 56) (V 0)) .none), (M 58 57), (S 59 (.fieldAddr 2 (T 3)) (.some (58, .false))), (S 60 (.load1 (T 59)) (.some (58, .false))), (S 61 (.move (T 5)) (.some (58, .false))), (S 62 (.nilCheck (T 61)) (.some (58, .false))), (S 63 (.fieldAddr 0 (T 62)) (.some (58, .false))), (S 64 (.load1 (T 63)) (.some (58, .false))), (S 65 (.lenSl (T 64)) (.some (58, .false))), (S 66 (.bin .gtr (T 60) (T 65)) (.some (58, .false))), (S 67 (.pick (T 58) (.val (.bool .true)) (T 66)) .none)] [N, N, N, N, N, N, N, N, N, N, N, N, N] 0) (.cond (T 67) (.seq (.region [(S 4 (.move (.val .nilp)) .none)]) .ret) .skip)) (.seq (.region [(M 68 5), (M 4 68)]) .ret))))))
abbrev f71.Js : Type := ((AVal → AVal → AHeap → Rs) × (AVal → AHeap → Rs))
noncomputable def f71.b0 (I : Inp) (call : CallFn) (j : f71.Js) (v0 v3 : AVal) (h : AHeap) : Rs :=
  bndP (pNilCheck v0) fun v44 =>
  bndP (pFieldAddr 4 v44) fun v45 =>
  bndP (pLoad1 I v45 h) fun v46 =>
  bndP (pFieldAddr 0 v3) fun v47 =>
  bndP (pLoad1 I v47 h) fun v48 =>
  bndP (pIndexAddr 3 v46 v48) fun v49 =>
  bndP (pFieldAddr 2 v49) fun v50 =>
  bndP (pLoad1 I v50 h) fun v51 =>
  bndP (pFieldAddr 1 v3) fun v52 =>
  bndP (pLoad1 I v52 h) fun v53 =>
  bndP (pIndexAddr 5 v51 v53) fun v54 =>
  bndP (pFieldAddr 2 v3) fun v55 =>
  bndP (pLoad1 I v55 h) fun v56 =>
  bndP (pBin .lss v56 (Z 0)) fun v57 =>
  bnd (sGuard v57 .false (lift (pFieldAddr 2 v3) h) h) fun v59 h1 =>
  bnd (sGuard v57 .false (lift (pLoad1 I v59 h1) h1) h1) fun v60 h2 =>
  bnd (sGuard v57 .false (some (v54, h2)) h2) fun v61 h3 =>
  bnd (sGuard v57 .false (lift (pNilCheck v61) h3) h3) fun v62 h4 =>
  bnd (sGuard v57 .false (lift (pFieldAddr 0 v62) h4) h4) fun v63 h5 =>
  bnd (sGuard v57 .false (lift (pLoad1 I v63 h5) h5) h5) fun v64 h6 =>
  bnd (sGuard v57 .false (lift (pLenSl v64) h6) h6) fun v65 h7 =>
  bnd (sGuard v57 .false (lift (pBin .gtr v60 v65) h7) h7) fun v66 h8 =>
  bndP (pPick v57 (.bool .true) v66) fun v67 =>
  sCond v67 (
  j.2 v54 h8) (
  some (.nilp, h8))
noncomputable def f71.b1 (I : Inp) (call : CallFn) (j : f71.Js) (v5 : AVal) (h : AHeap) : Rs :=
  some (v5, h)
noncomputable def f71.e (I : Inp) (call : CallFn) (j : f71.Js) (v0 v1 : AVal) (h : AHeap) : Rs :=
  bnd (sBox v1 h) fun v3 h1 =>
  bndP (pEq P .false .ptr .true v0 .nilp h1) fun v7 =>
  bnd (sGuard v7 .false (lift (pFieldAddr 0 v3) h1) h1) fun v9 h2 =>
  bnd (sGuard v7 .false (lift (pLoad1 I v9 h2) h2) h2) fun v10 h3 =>
  bnd (sGuard v7 .false (lift (pBin .lss v10 (Z 0)) h3) h3) fun v11 h4 =>
  bndP (pPick v7 (.bool .true) v11) fun v12 =>
  bnd (sGuard v12 .false (lift (pFieldAddr 0 v3) h4) h4) fun v14 h5 =>
  bnd (sGuard v12 .false (lift (pLoad1 I v14 h5) h5) h5) fun v15 h6 =>
  bnd (sGuard v12 .false (some (v0, h6)) h6) fun v16 h7 =>
  bnd (sGuard v12 .false (lift (pNilCheck v16) h7) h7) fun v17 h8 =>
  bnd (sGuard v12 .false (lift (pFieldAddr 4 v17) h8) h8) fun v18 h9 =>
  bnd (sGuard v12 .false (lift (pLoad1 I v18 h9) h9) h9) fun v19 h10 =>
  bnd (sGuard v12 .false (lift (pLenSl v19) h10) h10) fun v20 h11 =>
  bnd (sGuard v12 .false (lift (pBin .geq v15 v20) h11) h11) fun v21 h12 =>
  bndP (pPick v12 (.bool .true) v21) fun v22 =>
  bnd (sGuard v22 .false (lift (pFieldAddr 1 v3) h12) h12) fun v24 h13 =>
  bnd (sGuard v22 .false (lift (pLoad1 I v24 h13) h13) h13) fun v25 h14 =>
  bnd (sGuard v22 .false (lift (pBin .lss v25 (Z 0)) h14) h14) fun v26 h15 =>
  bndP (pPick v22 (.bool .true) v26) fun v27 =>
  bnd (sGuard v27 .false (lift (pFieldAddr 1 v3) h15) h15) fun v29 h16 =>
  bnd (sGuard v27 .false (lift (pLoad1 I v29 h16) h16) h16) fun v30 h17 =>
  bnd (sGuard v27 .false (some (v0, h17)) h17) fun v31 h18 =>
  bnd (sGuard v27 .false (lift (pNilCheck v31) h18) h18) fun v32 h19 =>
  bnd (sGuard v27 .false (lift (pFieldAddr 4 v32) h19) h19) fun v33 h20 =>
  bnd (sGuard v27 .false (lift (pLoad1 I v33 h20) h20) h20) fun v34 h21 =>
  bnd (sGuard v27 .false (lift (pFieldAddr 0 v3) h21) h21) fun v35 h22 =>
  bnd (sGuard v27 .false (lift (pLoad1 I v35 h22) h22) h22) fun v36 h23 =>
  bnd (sGuard v27 .false (lift (pIndexAddr 3 v34 v36) h23) h23) fun v37 h24 =>
  bnd (sGuard v27 .false (lift (pFieldAddr 2 v37) h24) h24) fun v38 h25 =>
  bnd (sGuard v27 .false (lift (pLoad1 I v38 h25) h25) h25) fun v39 h26 =>
  bnd (sGuard v27 .false (lift (pLenSl v39) h26) h26) fun v40 h27 =>
  bnd (sGuard v27 .false (lift (pBin .geq v30 v40) h27) h27) fun v41 h28 =>
  bndP (pPick v27 (.bool .true) v41) fun v42 =>
  sCond v42 (
  j.1 v0 v3 h28) (
  some (.nilp, h28))
noncomputable def f71.J (I : Inp) (call : CallFn) (n : Nat) : f71.Js :=
  Nat.rec (motive := fun _ => f71.Js) ((fun _ _ _ => none), (fun _ _ => none)) (fun _ ih => (f71.b0 I call ih, f71.b1 I call ih)) n
noncomputable def f71.JS (I : Inp) (call : CallFn) (n : Nat) : Jmp := fun id ρ h =>
  (Bool.rec (motive := fun _ => _) ((f71.J I call n).2 (ρ 5) h) ((f71.J I call n).1 (ρ 0) (ρ 3) h) (Nat.blt id 1))
theorem f71.q0 (I : Inp) (call : CallFn) (n : Nat) (ρ : Fun) (h : AHeap) : f71.JS I call (n + 1) 0 ρ h = labC P I call (f71.JS I call n) c71.body 0 (finV I c71.results) 0 ρ h := by kernel_rfl
theorem f71.q1 (I : Inp) (call : CallFn) (n : Nat) (ρ : Fun) (h : AHeap) : f71.JS I call (n + 1) 1 ρ h = labC P I call (f71.JS I call n) c71.body 0 (finV I c71.results) 1 ρ h := by kernel_rfl
theorem f71.S (I : Inp) (F : Nat → Option AFn) (call : CallFn) : SFn ⟨P, I, F⟩ call c71 (f71.JS I call) :=
  ⟨fun id hid ρ h => by
    have hc : c71.body.cnt = 2 := by kernel_rfl
    rw [hc] at hid
    exact match id, hid with
    | 0, _ => rfl
    | 1, _ => rfl
    | id + 2, hid => absurd hid (by omega), fun n id hid ρ h => by
    have hc : c71.body.cnt = 2 := by kernel_rfl
    rw [hc] at hid
    exact match id, hid with
    | 0, _ => f71.q0 I call n ρ h
    | 1, _ => f71.q1 I call n ρ h
    | id + 2, hid => absurd hid (by omega)⟩
noncomputable def f71.run (I : Inp) : SF := fun call n a h =>
  match a with
  | [v0, v1] => f71.e I call (f71.J I call n) v0 v1 h
  | _ => none
theorem f71.qe (I : Inp) (call : CallFn) (n : Nat) (v0 v1 : AVal) (h : AHeap) : f71.e I call (f71.J I call n) v0 v1 h = execC P I call (f71.JS I call n) c71.body 0 (finV I c71.results) (argV [v0, v1]) h := by kernel_rfl
theorem f71.code : codeOf P 71 = some c71 := by kernel_rfl
theorem f71.ok (I : Inp) (F : Nat → Option AFn) (hF : F 71 = some (.code c71)) : SfOk P I F 71 (f71.run I) := by
  intro call hc n args h r hr
  unfold f71.run at hr
  split at hr
  · exact fn_sound (C := ⟨P, I, F⟩) (n := n) hc hF (Nat.le_of_ble_eq_true (by kernel_rfl)) (by kernel_rfl) (f71.S I F call) (by kernel_rfl) ((f71.qe I call n _ _ h).symm.trans hr)
  · cases hr
/-! (*haruspex/sem.Machine).made -/
noncomputable def c72 : AFunc := (AFunc.mk 79 3 [(.cellN 6 3), (.tmp 7)] (.seq (.region [(S 5 (.box (T 2)) .none), (S 6 (.alloc [(Z 0), (Z 0), (.bool .false)]) .none), (S 7 (.move (.val (.bool .false))) .none)]) (.seq (.seq (.region [(FA 9 0 5), (L1 10 9)]) (.block 0 (.seq (.region [(S 12 (.bin .eql (T 10) (V 1)) .none), (M 11 12)]) (.cond (T 11) (.seq (.region [(FA 13 4 5), (L1 14 13), (S 15 (.build [(Z 0), (Z 0), (.bool .false)] [(0, (1, (V 0))), (1, (1, (T 14)))]) .none), (AOper.mk .none (.store 3 (T 6) (T 15)) .none), (S 7 (.move (.val (.bool .true))) .none)]) .ret) (.seq (.region [(S 17 (.bin .eql (T 10) (V 2)) .none), (M 16 17)]) (.cond (T 16) (.seq (.draw [(M 18 1), (NC 19 18), (FA 20 2 19), (L1 21 20), (FA 22 2 5), (L1 23 22), (S 24 (.indexAddr 3 (T 21) (T 23)) .none), (S 25 (.loadN 3 (T 24)) .none), (M 26 1), (NC 27 26), (FA 28 2 27), (L1 29 28), (FA 30 3 5), (L1 31 30), (S 32 (.indexAddr 3 (T 29) (T 31)) .none), (S 33 (.loadN 3 (T 32)) .none), (S 34 (.call 96 [(T 25), (T 33)]) .none), (AOper.mk .none (.store 3 (T 6) (T 34)) .none), (S 7 (.move (.val (.bool .true))) .none)] [N, N, N, N, N, N, N, N, N, N, N, N, N, N, N, N, Y, Y, N] 0) .ret) (.seq (.region [(S 36 (.bin .eql (T 10) (V 3)) .none), (M 35 36)]) (.cond (T 35) (.seq (.region [(S 8 (.move (V 0)) .none)]) (.seq (.seq (.region [(M 37 0), (NC 38 37), (FA 39 1 38), (L1 40 39), (S 41 (.lenSl (T 40)) .none), (S 42 (.bin .gtr (T 41) (V 0)) .none)]) (.cond (T 42) (.draw [(M 43 0), (M 44 0), (NC 45 44), (FA 46 1 45), (L1 47 46), (S 48 (.indexAddr 1 (T 47) (V 0)) .none), (L1 49 48), (M 50 0), (NC 51 50), (FA 52 1 51), (L1 53 52), (S 54 (.sliceS 1 (T 53) (.some (V 1)) .none .none) .none), (M 8 49), (NC 55 43), (FA 56 1 55), (AOper.mk .none (.store 1 (T 56) (T 54)) .none)] [N, N, N, N, N, N, N, N, N, N, N, N, N, N, N, Y] 0) .skip)) (.seq (.region [(M 57 8), (S 58 (.build [(Z 0), (Z 0), (.bool .false)] [(0, (1, (V 0))), (1, (1, (T 57))), (2, (1, (.val (.bool .true))))]) .none), (AOper.mk .none (.store 3 (T 6) (T 58)) .none), (S 7 (.move (.val (.bool .true))) .none)]) .ret))) (.seq (.region [(S 60 (.bin .eql (T 10) (V 4)) .none), (M 59 60)]) (.cond (T 59) (.seq (.region [(S 61 (.build [(Z 0), (Z 0), (.bool .false)] [(0, (1, (V 1)))]) .none), (AOper.mk .none (.store 3 (T 6) (T 61)) .none), (S 7 (.move (.val (.bool .true))) .none)]) .ret) (.seq (.seq (.region [(S 63 (.bin .eql (T 10) (V 6)) .none), (M 62 63)]) (.cond (T 62) .skip (.region [(S 64 (.bin .eql (T 10) (V 11)) .none), (M 62 64)]))) (.cond (T 62) (.seq (.draw [(M 65 1), (NC 66 65), (FA 67 2 66), (L1 68 67), (FA 69 2 5), (L1 70 69), (S 71 (.indexAddr 3 (T 68) (T 70)) .none), (S 72 (.loadN 3 (T 71)) .none), (AOper.mk .none (.store 3 (T 6) (T 72)) .none), (S 7 (.move (.val (.bool .true))) .none)] [N, N, N, N, N, N, N, N, Y, N] 0) .ret) (.seq (.region [(S 74 (.bin .eql (T 10) (V 10)) .none), (M 73 74)]) (.cond (T 73) (.seq (.region [(FA 75 4 5), (L1 76 75), (S 77 (.build [(Z 0), (Z 0), (.bool .false)] [(0, (1, (V 3))), (1, (1, (T 76)))]) .none), (AOper.mk .none (.store 3 (T 6) (T 77)) .none), (S 7 (.move (.val (.bool .true))) .none)]) .ret) .skip)))))))))))))) (.seq (.region [(S 78 (.build [(Z 0), (Z 0), (.bool .false)] []) .none), (AOper.mk .none (.store 3 (T 6) (T 78)) .none), (S 7 (.move (.val (.bool .false))) .none)]) .ret))))
abbrev f72.Js : Type := ((AVal → AHeap → Rs) × ((AVal → AVal → AHeap → Rs) × (AVal → AVal → AVal → AVal → AVal → AHeap → Rs)))
noncomputable def f72.b0 (I : Inp) (call : CallFn) (j : f72.Js) (v6 : AVal) (h : AHeap) : Rs :=
  bndP (pBuild [(Z 0), (Z 0), (.bool .false)] []) fun v78 =>
  bnd (sStore 3 v6 v78 h) fun _ h1 =>
  sRet (sCons (sResN I 3 v6 h1) (sCons (some (.bool .false)) (some []))) h1
noncomputable def f72.b1 (I : Inp) (call : CallFn) (j : f72.Js) (v6 v8 : AVal) (h : AHeap) : Rs :=
  bndP (pBuild [(Z 0), (Z 0), (.bool .false)] [(0, 1, (Z 0)), (1, 1, v8), (2, 1, (.bool .true))]) fun v58 =>
  bnd (sStore 3 v6 v58 h) fun _ h1 =>
  sRet (sCons (sResN I 3 v6 h1) (sCons (some (.bool .true)) (some []))) h1
noncomputable def f72.b2 (I : Inp) (call : CallFn) (j : f72.Js) (v1 v5 v6 v10 v62 : AVal) (h : AHeap) : Rs :=
  sCond v62 (
  bndP (pBin .eql v10 (Z 10)) fun v74 =>
  sCond v74 (
  j.1 v6 h) (
  bndP (pFieldAddr 4 v5) fun v75 =>
  bndP (pLoad1 I v75 h) fun v76 =>
  bndP (pBuild [(Z 0), (Z 0), (.bool .false)] [(0, 1, (Z 3)), (1, 1, v76)]) fun v77 =>
  bnd (sStore 3 v6 v77 h) fun _ h1 =>
  sRet (sCons (sResN I 3 v6 h1) (sCons (some (.bool .true)) (some []))) h1)) (
  bndP (pNilCheck v1) fun v66 =>
  bndP (pFieldAddr 2 v66) fun v67 =>
  bndP (pLoad1 I v67 h) fun v68 =>
  bndP (pFieldAddr 2 v5) fun v69 =>
  bndP (pLoad1 I v69 h) fun v70 =>
  bndP (pIndexAddr 3 v68 v70) fun v71 =>
  bndP (pLoadN I 3 v71 h) fun v72 =>
  bnd (sStore 3 v6 v72 h) fun _ h2 =>
  sRet (sCons (sResN I 3 v6 h2) (sCons (some (.bool .true)) (some []))) h2)
noncomputable def f72.e (I : Inp) (call : CallFn) (j : f72.Js) (v0 v1 v2 : AVal) (h : AHeap) : Rs :=
  bnd (sBox v2 h) fun v5 h1 =>
  bnd (sAlloc [(Z 0), (Z 0), (.bool .false)] h1) fun v6 h2 =>
  bndP (pFieldAddr 0 v5) fun v9 =>
  bndP (pLoad1 I v9 h2) fun v10 =>
  bndP (pBin .eql v10 (Z 1)) fun v12 =>
  sCond v12 (
  bndP (pBin .eql v10 (Z 2)) fun v17 =>
  sCond v17 (
  bndP (pBin .eql v10 (Z 3)) fun v36 =>
  sCond v36 (
  bndP (pBin .eql v10 (Z 4)) fun v60 =>
  sCond v60 (
  bndP (pBin .eql v10 (Z 6)) fun v63 =>
  sCond v63 (
  bndP (pBin .eql v10 (Z 11)) fun v64 =>
  j.2.2 v1 v5 v6 v10 v64 h2) (
  j.2.2 v1 v5 v6 v10 v63 h2)) (
  bndP (pBuild [(Z 0), (Z 0), (.bool .false)] [(0, 1, (Z 1))]) fun v61 =>
  bnd (sStore 3 v6 v61 h2) fun _ h3 =>
  sRet (sCons (sResN I 3 v6 h3) (sCons (some (.bool .true)) (some []))) h3)) (
  bndP (pNilCheck v0) fun v38 =>
  bndP (pFieldAddr 1 v38) fun v39 =>
  bndP (pLoad1 I v39 h2) fun v40 =>
  bndP (pLenSl v40) fun v41 =>
  bndP (pBin .gtr v41 (Z 0)) fun v42 =>
  sCond v42 (
  j.2.1 v6 (Z 0) h2) (
  bndP (pNilCheck v0) fun v45 =>
  bndP (pFieldAddr 1 v45) fun v46 =>
  bndP (pLoad1 I v46 h2) fun v47 =>
  bndP (pIndexAddr 1 v47 (Z 0)) fun v48 =>
  bndP (pLoad1 I v48 h2) fun v49 =>
  bndP (pNilCheck v0) fun v51 =>
  bndP (pFieldAddr 1 v51) fun v52 =>
  bndP (pLoad1 I v52 h2) fun v53 =>
  bndP (pSliceS 1 v53 (some (Z 1)) none none) fun v54 =>
  bndP (pNilCheck v0) fun v55 =>
  bndP (pFieldAddr 1 v55) fun v56 =>
  bnd (sStore 1 v56 v54 h2) fun _ h4 =>
  j.2.1 v6 v49 h4))) (
  bndP (pNilCheck v1) fun v19 =>
  bndP (pFieldAddr 2 v19) fun v20 =>
  bndP (pLoad1 I v20 h2) fun v21 =>
  bndP (pFieldAddr 2 v5) fun v22 =>
  bndP (pLoad1 I v22 h2) fun v23 =>
  bndP (pIndexAddr 3 v21 v23) fun v24 =>
  bndP (pLoadN I 3 v24 h2) fun v25 =>
  bndP (pNilCheck v1) fun v27 =>
  bndP (pFieldAddr 2 v27) fun v28 =>
  bndP (pLoad1 I v28 h2) fun v29 =>
  bndP (pFieldAddr 3 v5) fun v30 =>
  bndP (pLoad1 I v30 h2) fun v31 =>
  bndP (pIndexAddr 3 v29 v31) fun v32 =>
  bndP (pLoadN I 3 v32 h2) fun v33 =>
  bnd (call 96 [v25, v33] h2) fun v34 h5 =>
  bnd (sStore 3 v6 v34 h5) fun _ h6 =>
  sRet (sCons (sResN I 3 v6 h6) (sCons (some (.bool .true)) (some []))) h6)) (
  bndP (pFieldAddr 4 v5) fun v13 =>
  bndP (pLoad1 I v13 h2) fun v14 =>
  bndP (pBuild [(Z 0), (Z 0), (.bool .false)] [(0, 1, (Z 0)), (1, 1, v14)]) fun v15 =>
  bnd (sStore 3 v6 v15 h2) fun _ h7 =>
  sRet (sCons (sResN I 3 v6 h7) (sCons (some (.bool .true)) (some []))) h7)
noncomputable def f72.J (I : Inp) (call : CallFn) (n : Nat) : f72.Js :=
  Nat.rec (motive := fun _ => f72.Js) ((fun _ _ => none), ((fun _ _ _ => none), (fun _ _ _ _ _ _ => none))) (fun _ ih => (f72.b0 I call ih, (f72.b1 I call ih, f72.b2 I call ih))) n
noncomputable def f72.JS (I : Inp) (call : CallFn) (n : Nat) : Jmp := fun id ρ h =>
  (Bool.rec (motive := fun _ => _) (Bool.rec (motive := fun _ => _) ((f72.J I call n).2.2 (ρ 1) (ρ 5) (ρ 6) (ρ 10) (ρ 62) h) ((f72.J I call n).2.1 (ρ 6) (ρ 8) h) (Nat.blt id 2)) ((f72.J I call n).1 (ρ 6) h) (Nat.blt id 1))
theorem f72.q0 (I : Inp) (call : CallFn) (n : Nat) (ρ : Fun) (h : AHeap) : f72.JS I call (n + 1) 0 ρ h = labC P I call (f72.JS I call n) c72.body 0 (finV I c72.results) 0 ρ h := by kernel_rfl
theorem f72.q1 (I : Inp) (call : CallFn) (n : Nat) (ρ : Fun) (h : AHeap) : f72.JS I call (n + 1) 1 ρ h = labC P I call (f72.JS I call n) c72.body 0 (finV I c72.results) 1 ρ h := by kernel_rfl
theorem f72.q2 (I : Inp) (call : CallFn) (n : Nat) (ρ : Fun) (h : AHeap) : f72.JS I call (n + 1) 2 ρ h = labC P I call (f72.JS I call n) c72.body 0 (finV I c72.results) 2 ρ h := by kernel_rfl
theorem f72.S (I : Inp) (F : Nat → Option AFn) (call : CallFn) : SFn ⟨P, I, F⟩ call c72 (f72.JS I call) :=
  ⟨fun id hid ρ h => by
    have hc : c72.body.cnt = 3 := by kernel_rfl
    rw [hc] at hid
    exact match id, hid with
    | 0, _ => rfl
    | 1, _ => rfl
    | 2, _ => rfl
    | id + 3, hid => absurd hid (by omega), fun n id hid ρ h => by
    have hc : c72.body.cnt = 3 := by kernel_rfl
    rw [hc] at hid
    exact match id, hid with
    | 0, _ => f72.q0 I call n ρ h
    | 1, _ => f72.q1 I call n ρ h
    | 2, _ => f72.q2 I call n ρ h
    | id + 3, hid => absurd hid (by omega)⟩
noncomputable def f72.run (I : Inp) : SF := fun call n a h =>
  match a with
  | [v0, v1, v2] => f72.e I call (f72.J I call n) v0 v1 v2 h
  | _ => none
theorem f72.qe (I : Inp) (call : CallFn) (n : Nat) (v0 v1 v2 : AVal) (h : AHeap) : f72.e I call (f72.J I call n) v0 v1 v2 h = execC P I call (f72.JS I call n) c72.body 0 (finV I c72.results) (argV [v0, v1, v2]) h := by kernel_rfl
theorem f72.code : codeOf P 72 = some c72 := by kernel_rfl
theorem f72.ok (I : Inp) (F : Nat → Option AFn) (hF : F 72 = some (.code c72)) : SfOk P I F 72 (f72.run I) := by
  intro call hc n args h r hr
  unfold f72.run at hr
  split at hr
  · exact fn_sound (C := ⟨P, I, F⟩) (n := n) hc hF (Nat.le_of_ble_eq_true (by kernel_rfl)) (by kernel_rfl) (f72.S I F call) (by kernel_rfl) ((f72.qe I call n _ _ _ h).symm.trans hr)
  · cases hr
/-! (*haruspex/sem.frame).set -/
noncomputable def c73 : AFunc := (AFunc.mk 27 3 [(.tmp 6)] (.seq (.region [(S 5 (.box (T 2)) .none), (S 6 (.move (V 0)) .none)]) (.seq (.draw [(M 7 0), (NC 8 7), (FA 9 2 8), (L1 10 9), (M 11 1), (M 12 0), (NC 13 12), (FA 14 3 13), (L1 15 14), (M 16 1), (S 17 (.loadN 3 (T 5)) .none), (S 18 (.indexAddr 3 (T 10) (T 11)) .none), (AOper.mk .none (.store 3 (T 18) (T 17)) .none), (S 19 (.indexAddr 1 (T 15) (T 16)) .none), (AOper.mk .none (.store 1 (T 19) (.val (.bool .true))) .none)] [N, N, N, N, N, N, N, N, N, N, N, N, Y, N, Y] 0) (.seq (.region [(M 20 0), (NC 21 20), (FA 22 1 21), (L1 23 22), (S 24 (.bin .add (T 23) (V 1)) .none), (NC 25 20), (FA 26 1 25), (AOper.mk .none (.store 1 (T 26) (T 24)) .none)]) (.seq (.region [(S 6 (.move (V 0)) .none)]) .ret)))))
abbrev f73.Js : Type := Unit
noncomputable def f73.e (I : Inp) (call : CallFn) (j : f73.Js) (v0 v1 v2 : AVal) (h : AHeap) : Rs :=
  bnd (sBox v2 h) fun v5 h1 =>
  bndP (pNilCheck v0) fun v8 =>
  bndP (pFieldAddr 2 v8) fun v9 =>
  bndP (pLoad1 I v9 h1) fun v10 =>
  bndP (pNilCheck v0) fun v13 =>
  bndP (pFieldAddr 3 v13) fun v14 =>
  bndP (pLoad1 I v14 h1) fun v15 =>
  bndP (pLoadN I 3 v5 h1) fun v17 =>
  bndP (pIndexAddr 3 v10 v1) fun v18 =>
  bnd (sStore 3 v18 v17 h1) fun _ h2 =>
  bndP (pIndexAddr 1 v15 v1) fun v19 =>
  bnd (sStore 1 v19 (.bool .true) h2) fun _ h3 =>
  bndP (pNilCheck v0) fun v21 =>
  bndP (pFieldAddr 1 v21) fun v22 =>
  bndP (pLoad1 I v22 h3) fun v23 =>
  bndP (pBin .add v23 (Z 1)) fun v24 =>
  bndP (pNilCheck v0) fun v25 =>
  bndP (pFieldAddr 1 v25) fun v26 =>
  bnd (sStore 1 v26 v24 h3) fun _ h4 =>
  some ((Z 0), h4)
theorem f73.S (I : Inp) (F : Nat → Option AFn) (call : CallFn) : SFn ⟨P, I, F⟩ call c73 (fun _ _ _ _ => none) :=
  ⟨fun _ _ _ _ => rfl, fun n id hid => absurd hid (by rw [show c73.body.cnt = 0 by kernel_rfl]; omega)⟩
noncomputable def f73.run (I : Inp) : SF := fun call n a h =>
  match a with
  | [v0, v1, v2] => f73.e I call () v0 v1 v2 h
  | _ => none
theorem f73.qe (I : Inp) (call : CallFn) (n : Nat) (v0 v1 v2 : AVal) (h : AHeap) : f73.e I call () v0 v1 v2 h = execC P I call (fun _ _ _ => none) c73.body 0 (finV I c73.results) (argV [v0, v1, v2]) h := by kernel_rfl
theorem f73.code : codeOf P 73 = some c73 := by kernel_rfl
theorem f73.ok (I : Inp) (F : Nat → Option AFn) (hF : F 73 = some (.code c73)) : SfOk P I F 73 (f73.run I) := by
  intro call hc n args h r hr
  unfold f73.run at hr
  split at hr
  · exact fn_sound (C := ⟨P, I, F⟩) (n := n) hc hF (Nat.le_of_ble_eq_true (by kernel_rfl)) (by kernel_rfl) (f73.S I F call) (by kernel_rfl) ((f73.qe I call n _ _ _ h).symm.trans hr)
  · cases hr
/-! (*haruspex/value.Heap).Alloc -/
noncomputable def c74 : AFunc := (AFunc.mk 56 3 [(.tmp 6)] (.seq (.region [(S 6 (.move (V 0)) .none)]) (.seq (.seq (.region [(M 10 0), (S 11 (.eq .false .ptr .true (T 10) (.val .nilp)) .none), (M 12 11), (S 13 (.move (T 0)) (.some (12, .false))), (S 14 (.nilCheck (T 13)) (.some (12, .false))), (S 15 (.fieldAddr 0 (T 14)) (.some (12, .false))), (S 16 (.load1 (T 15)) (.some (12, .false))), (S 17 (.lenSl (T 16)) (.some (12, .false))), (S 18 (.bin .geq (T 17) (V 400)) (.some (12, .false))), (S 19 (.pick (T 12) (.val (.bool .true)) (T 18)) .none)]) (.cond (T 19) (.seq (.region [(S 6 (.move (V 0)) .none)]) .ret) .skip)) (.seq (.region [(M 20 1), (S 21 (.build [(Z 0), .nils, (.bool .false)] [(0, (1, (T 20)))]) .none), (S 22 (.box (T 21)) .none), (M 7 22)]) (.seq (.seq (.region [(M 23 2), (S 24 (.lenSl (T 23)) .none), (S 25 (.move (V 0)) .none)]) (.block 0 (.loop (.seq (.region [(S 26 (.bin .lss (T 25) (T 24)) .none)]) (.seq (.cond (T 26) .skip (.exit 0)) (.seq (.block 1 (.seq (.region [(S 27 (.indexAddr 2 (T 23) (T 25)) .none), (S 28 (.loadN 2 (T 27)) .none), (S 9 (.alloc [(Z 0), (Z 0)]) .none), (AOper.mk .none (.store 2 (T 9) (T 28)) .none)]) (.draw [(M 29 7), (M 30 7), (NC 31 30), (FA 32 1 31), (L1 33 32), (S 34 (.loadN 2 (T 9)) .none), (S 35 (.call 97 [(T 34)]) .none), (S 36 (.buildSlice [(Z 0), (Z 0), (.bool .false)] 1 [(0, (3, (T 35)))]) .none), (S 37 (.append 3 24 (T 33) (T 36)) .none), (NC 38 29), (FA 39 1 38), (AOper.mk .none (.store 1 (T 39) (T 37)) .none)] [N, N, N, N, (.false, [1, 2]), N, Y, Y, Y, N, N, Y] 0))) (.region [(S 40 (.bin .add (T 25) (V 1)) .none), (M 25 40)]))))))) (.seq (.region [(M 41 0), (M 42 0), (NC 43 42), (FA 44 0 43), (L1 45 44), (M 46 7), (S 47 (.buildSlice [.nilp] 1 [(0, (1, (T 46)))]) .none), (S 48 (.append 1 8 (T 45) (T 47)) .none), (NC 49 41), (FA 50 0 49), (AOper.mk .none (.store 1 (T 50) (T 48)) .none)]) (.seq (.region [(M 51 0), (NC 52 51), (FA 53 0 52), (L1 54 53), (S 55 (.lenSl (T 54)) .none), (M 6 55)]) .ret)))))))
abbrev f74.Js : Type := (((AVal → AVal → AVal → AHeap → Rs) × (AVal → AVal → AHeap → Rs)) × ((AVal → AVal → AVal → AVal → AVal → AHeap → Rs) × ((AVal → AVal → AVal → AVal → AVal → AHeap → Rs) × (AVal → AVal → AVal → AVal → AVal → AHeap → Rs))))
noncomputable def f74.b0 (I : Inp) (call : CallFn) (j : f74.Js) (v0 v1 v2 : AVal) (h : AHeap) : Rs :=
  bndP (pBuild [(Z 0), .nils, (.bool .false)] [(0, 1, v1)]) fun v21 =>
  bnd (sBox v21 h) fun v22 h1 =>
  bndP (pLenSl v2) fun v24 =>
  j.2.1 v0 v22 v2 v24 (Z 0) h1
noncomputable def f74.b1 (I : Inp) (call : CallFn) (j : f74.Js) (v0 v7 : AVal) (h : AHeap) : Rs :=
  bndP (pNilCheck v0) fun v43 =>
  bndP (pFieldAddr 0 v43) fun v44 =>
  bndP (pLoad1 I v44 h) fun v45 =>
  bnd (sBuildSlice [.nilp] 1 [(0, 1, v7)] h) fun v47 h1 =>
  bnd (sAppend I 1 8 v45 v47 h1) fun v48 h2 =>
  bndP (pNilCheck v0) fun v49 =>
  bndP (pFieldAddr 0 v49) fun v50 =>
  bnd (sStore 1 v50 v48 h2) fun _ h3 =>
  bndP (pNilCheck v0) fun v52 =>
  bndP (pFieldAddr 0 v52) fun v53 =>
  bndP (pLoad1 I v53 h3) fun v54 =>
  bndP (pLenSl v54) fun v55 =>
  some (v55, h3)
noncomputable def f74.b2 (I : Inp) (call : CallFn) (j : f74.Js) (v0 v7 v23 v24 v25 : AVal) (h : AHeap) : Rs :=
  bndP (pBin .lss v25 v24) fun v26 =>
  sCond v26 (
  j.1.2 v0 v7 h) (
  j.2.2.1 v0 v7 v23 v24 v25 h)
noncomputable def f74.b3 (I : Inp) (call : CallFn) (j : f74.Js) (v0 v7 v23 v24 v25 : AVal) (h : AHeap) : Rs :=
  bndP (pIndexAddr 2 v23 v25) fun v27 =>
  bndP (pLoadN I 2 v27 h) fun v28 =>
  bnd (sAlloc [(Z 0), (Z 0)] h) fun v9 h1 =>
  bnd (sStore 2 v9 v28 h1) fun _ h2 =>
  bndP (pNilCheck v7) fun v31 =>
  bndP (pFieldAddr 1 v31) fun v32 =>
  bndP (pLoad1 I v32 h2) fun v33 =>
  bndP (pLoadN I 2 v9 h2) fun v34 =>
  bnd (call 97 [v34] h2) fun v35 h3 =>
  bnd (sBuildSlice [(Z 0), (Z 0), (.bool .false)] 1 [(0, 3, v35)] h3) fun v36 h4 =>
  bnd (sAppend I 3 24 v33 v36 h4) fun v37 h5 =>
  bndP (pNilCheck v7) fun v38 =>
  bndP (pFieldAddr 1 v38) fun v39 =>
  bnd (sStore 1 v39 v37 h5) fun _ h6 =>
  sCheck (sSame (lift (pLoad1 I v32 h3) h3) v33 && (sSame (lift (pLoad1 I v32 h4) h4) v33 && true)) (
  j.2.2.2 v0 v7 v23 v24 v25 h6)
noncomputable def f74.b4 (I : Inp) (call : CallFn) (j : f74.Js) (v0 v7 v23 v24 v25 : AVal) (h : AHeap) : Rs :=
  bndP (pBin .add v25 (Z 1)) fun v40 =>
  j.2.1 v0 v7 v23 v24 v40 h
noncomputable def f74.e (I : Inp) (call : CallFn) (j : f74.Js) (v0 v1 v2 : AVal) (h : AHeap) : Rs :=
  bndP (pEq P .false .ptr .true v0 .nilp h) fun v11 =>
  bnd (sGuard v11 .false (some (v0, h)) h) fun v13 h1 =>
  bnd (sGuard v11 .false (lift (pNilCheck v13) h1) h1) fun v14 h2 =>
  bnd (sGuard v11 .false (lift (pFieldAddr 0 v14) h2) h2) fun v15 h3 =>
  bnd (sGuard v11 .false (lift (pLoad1 I v15 h3) h3) h3) fun v16 h4 =>
  bnd (sGuard v11 .false (lift (pLenSl v16) h4) h4) fun v17 h5 =>
  bnd (sGuard v11 .false (lift (pBin .geq v17 (Z 400)) h5) h5) fun v18 h6 =>
  bndP (pPick v11 (.bool .true) v18) fun v19 =>
  sCond v19 (
  j.1.1 v0 v1 v2 h6) (
  some ((Z 0), h6))
noncomputable def f74.J (I : Inp) (call : CallFn) (n : Nat) : f74.Js :=
  Nat.rec (motive := fun _ => f74.Js) (((fun _ _ _ _ => none), (fun _ _ _ => none)), ((fun _ _ _ _ _ _ => none), ((fun _ _ _ _ _ _ => none), (fun _ _ _ _ _ _ => none)))) (fun _ ih => ((f74.b0 I call ih, f74.b1 I call ih), (f74.b2 I call ih, (f74.b3 I call ih, f74.b4 I call ih)))) n
noncomputable def f74.JS (I : Inp) (call : CallFn) (n : Nat) : Jmp := fun id ρ h =>
  (Bool.rec (motive := fun _ => _) (Bool.rec (motive := fun _ => _) (Bool.rec (motive := fun _ => _) ((f74.J I call n).2.2.2 (ρ 0) (ρ 7) (ρ 23) (ρ 24) (ρ 25) h) ((f74.J I call n).2.2.1 (ρ 0) (ρ 7) (ρ 23) (ρ 24) (ρ 25) h) (Nat.blt id 4)) ((f74.J I call n).2.1 (ρ 0) (ρ 7) (ρ 23) (ρ 24) (ρ 25) h) (Nat.blt id 3)) (Bool.rec (motive := fun _ => _) ((f74.J I call n).1.2 (ρ 0) (ρ 7) h) ((f74.J I call n).1.1 (ρ 0) (ρ 1) (ρ 2) h) (Nat.blt id 1)) (Nat.blt id 2))
theorem f74.q0 (I : Inp) (call : CallFn) (n : Nat) (ρ : Fun) (h : AHeap) : f74.JS I call (n + 1) 0 ρ h = labC P I call (f74.JS I call n) c74.body 0 (finV I c74.results) 0 ρ h := by kernel_rfl
theorem f74.q1 (I : Inp) (call : CallFn) (n : Nat) (ρ : Fun) (h : AHeap) : f74.JS I call (n + 1) 1 ρ h = labC P I call (f74.JS I call n) c74.body 0 (finV I c74.results) 1 ρ h := by kernel_rfl
theorem f74.q2 (I : Inp) (call : CallFn) (n : Nat) (ρ : Fun) (h : AHeap) : f74.JS I call (n + 1) 2 ρ h = labC P I call (f74.JS I call n) c74.body 0 (finV I c74.results) 2 ρ h := by kernel_rfl
theorem f74.q3 (I : Inp) (call : CallFn) (n : Nat) (ρ : Fun) (h : AHeap) : f74.JS I call (n + 1) 3 ρ h = labC P I call (f74.JS I call n) c74.body 0 (finV I c74.results) 3 ρ h := by kernel_rfl
theorem f74.q4 (I : Inp) (call : CallFn) (n : Nat) (ρ : Fun) (h : AHeap) : f74.JS I call (n + 1) 4 ρ h = labC P I call (f74.JS I call n) c74.body 0 (finV I c74.results) 4 ρ h := by kernel_rfl
theorem f74.S (I : Inp) (F : Nat → Option AFn) (call : CallFn) : SFn ⟨P, I, F⟩ call c74 (f74.JS I call) :=
  ⟨fun id hid ρ h => by
    have hc : c74.body.cnt = 5 := by kernel_rfl
    rw [hc] at hid
    exact match id, hid with
    | 0, _ => rfl
    | 1, _ => rfl
    | 2, _ => rfl
    | 3, _ => rfl
    | 4, _ => rfl
    | id + 5, hid => absurd hid (by omega), fun n id hid ρ h => by
    have hc : c74.body.cnt = 5 := by kernel_rfl
    rw [hc] at hid
    exact match id, hid with
    | 0, _ => f74.q0 I call n ρ h
    | 1, _ => f74.q1 I call n ρ h
    | 2, _ => f74.q2 I call n ρ h
    | 3, _ => f74.q3 I call n ρ h
    | 4, _ => f74.q4 I call n ρ h
    | id + 5, hid => absurd hid (by omega)⟩
noncomputable def f74.run (I : Inp) : SF := fun call n a h =>
  match a with
  | [v0, v1, v2] => f74.e I call (f74.J I call n) v0 v1 v2 h
  | _ => none
theorem f74.qe (I : Inp) (call : CallFn) (n : Nat) (v0 v1 v2 : AVal) (h : AHeap) : f74.e I call (f74.J I call n) v0 v1 v2 h = execC P I call (f74.JS I call n) c74.body 0 (finV I c74.results) (argV [v0, v1, v2]) h := by kernel_rfl
theorem f74.code : codeOf P 74 = some c74 := by kernel_rfl
theorem f74.ok (I : Inp) (F : Nat → Option AFn) (hF : F 74 = some (.code c74)) : SfOk P I F 74 (f74.run I) := by
  intro call hc n args h r hr
  unfold f74.run at hr
  split at hr
  · exact fn_sound (C := ⟨P, I, F⟩) (n := n) hc hF (Nat.le_of_ble_eq_true (by kernel_rfl)) (by kernel_rfl) (f74.S I F call) (by kernel_rfl) ((f74.qe I call n _ _ _ h).symm.trans hr)
  · cases hr
/-! (*haruspex/sem.Machine).call -/
noncomputable def c75 : AFunc := (AFunc.mk 65 3 [(.tmp 6)] (.seq (.region [(S 5 (.box (T 2)) .none), (S 6 (.move (V 0)) .none)]) (.seq (.region [(M 11 0), (M 12 1), (S 13 (.loadN 6 (T 5)) .none), (S 14 (.call 98 [(T 11), (T 12), (T 13)]) .none), (M 7 14)]) (.seq (.block 0 (.seq (.region [(M 16 7), (S 17 (.bin .lss (T 16) (V 0)) .none), (M 15 17)]) (.cond (T 15) (.seq (.region [(S 6 (.move (V 1)) .none)]) .ret) (.seq (.region [(M 19 0), (NC 20 19), (FA 21 3 20), (L1 22 21), (S 23 (.lenSl (T 22)) .none), (S 24 (.bin .geq (T 23) (V 60)) .none), (M 18 24)]) (.cond (T 18) (.seq (.region [(S 6 (.move (V 6)) .none)]) .ret) .skip))))) (.seq (.region [(S 8 (.move (.val .nils)) .none)]) (.seq (.seq (.region [(FA 25 0 5), (L1 26 25), (S 27 (.bin .eql (T 26) (V 14)) .none)]) (.cond (T 27) (.draw [(M 28 8), (M 29 1), (NC 30 29), (FA 31 2 30), (L1 32 31), (FA 33 2 5), (L1 34 33), (S 35 (.indexAddr 3 (T 32) (T 34)) .none), (S 36 (.loadN 3 (T 35)) .none), (S 37 (.buildSlice [(Z 0), (Z 0), (.bool .false)] 1 [(0, (3, (T 36)))]) .none), (S 38 (.append 3 24 (T 28) (T 37)) .none), (M 8 38)] [N, N, N, N, N, N, N, N, N, Y, Y, N] 0) .skip)) (.seq (.seq (.region [(FA 39 5 5), (L1 40 39), (S 41 (.lenSl (T 40)) .none), (S 42 (.move (V 0)) .none)]) (.block 1 (.loop (.seq (.region [(S 43 (.bin .lss (T 42) (T 41)) .none)]) (.seq (.cond (T 43) .skip (.exit 1)) (.seq (.block 2 (.seq (.region [(S 44 (.indexAddr 1 (T 40) (T 42)) .none), (L1 45 44), (M 10 45)]) (.region [(M 46 8), (M 47 1), (NC 48 47), (FA 49 2 48), (L1 50 49), (M 51 10), (S 52 (.indexAddr 3 (T 50) (T 51)) .none), (S 53 (.loadN 3 (T 52)) .none), (S 54 (.buildSlice [(Z 0), (Z 0), (.bool .false)] 1 [(0, (3, (T 53)))]) .none), (S 55 (.append 3 24 (T 46) (T 54)) .none), (M 8 55)]))) (.region [(S 56 (.bin .add (T 42) (V 1)) .none), (M 42 56)]))))))) (.seq (.region [(M 57 0), (M 58 7), (M 59 8), (S 60 (.call 44 [(T 57), (T 58), (T 59)]) .none)]) (.seq (.region [(M 61 0), (M 62 7), (NC 63 61), (FA 64 5 63), (AOper.mk .none (.store 1 (T 64) (T 62)) .none)]) (.seq (.region [(S 6 (.move (V 0)) .none)]) .ret))))))))))
abbrev f75.Js : Type := (((AVal → AVal → AVal → AVal → AHeap → Rs) × ((AVal → AVal → AVal → AVal → AVal → AHeap → Rs) × (AVal → AVal → AVal → AHeap → Rs))) × ((AVal → AVal → AVal → AVal → AVal → AVal → AVal → AHeap → Rs) × ((AVal → AVal → AVal → AVal → AVal → AVal → AVal → AHeap → Rs) × (AVal → AVal → AVal → AVal → AVal → AVal → AVal → AHeap → Rs))))
noncomputable def f75.b0 (I : Inp) (call : CallFn) (j : f75.Js) (v0 v1 v5 v7 : AVal) (h : AHeap) : Rs :=
  bndP (pFieldAddr 0 v5) fun v25 =>
  bndP (pLoad1 I v25 h) fun v26 =>
  bndP (pBin .eql v26 (Z 14)) fun v27 =>
  sCond v27 (
  j.1.2.1 v0 v1 v5 v7 .nils h) (
  bndP (pNilCheck v1) fun v30 =>
  bndP (pFieldAddr 2 v30) fun v31 =>
  bndP (pLoad1 I v31 h) fun v32 =>
  bndP (pFieldAddr 2 v5) fun v33 =>
  bndP (pLoad1 I v33 h) fun v34 =>
  bndP (pIndexAddr 3 v32 v34) fun v35 =>
  bndP (pLoadN I 3 v35 h) fun v36 =>
  bnd (sBuildSlice [(Z 0), (Z 0), (.bool .false)] 1 [(0, 3, v36)] h) fun v37 h1 =>
  bnd (sAppend I 3 24 .nils v37 h1) fun v38 h2 =>
  j.1.2.1 v0 v1 v5 v7 v38 h2)
noncomputable def f75.b1 (I : Inp) (call : CallFn) (j : f75.Js) (v0 v1 v5 v7 v8 : AVal) (h : AHeap) : Rs :=
  bndP (pFieldAddr 5 v5) fun v39 =>
  bndP (pLoad1 I v39 h) fun v40 =>
  bndP (pLenSl v40) fun v41 =>
  j.2.1 v0 v1 v7 v8 v40 v41 (Z 0) h
noncomputable def f75.b2 (I : Inp) (call : CallFn) (j : f75.Js) (v0 v7 v8 : AVal) (h : AHeap) : Rs :=
  bnd (call 44 [v0, v7, v8] h) fun v60 h1 =>
  bndP (pNilCheck v0) fun v63 =>
  bndP (pFieldAddr 5 v63) fun v64 =>
  bnd (sStore 1 v64 v7 h1) fun _ h2 =>
  some ((Z 0), h2)
noncomputable def f75.b3 (I : Inp) (call : CallFn) (j : f75.Js) (v0 v1 v7 v8 v40 v41 v42 : AVal) (h : AHeap) : Rs :=
  bndP (pBin .lss v42 v41) fun v43 =>
  sCond v43 (
  j.1.2.2 v0 v7 v8 h) (
  j.2.2.1 v0 v1 v7 v8 v40 v41 v42 h)
noncomputable def f75.b4 (I : Inp) (call : CallFn) (j : f75.Js) (v0 v1 v7 v8 v40 v41 v42 : AVal) (h : AHeap) : Rs :=
  bndP (pIndexAddr 1 v40 v42) fun v44 =>
  bndP (pLoad1 I v44 h) fun v45 =>
  bndP (pNilCheck v1) fun v48 =>
  bndP (pFieldAddr 2 v48) fun v49 =>
  bndP (pLoad1 I v49 h) fun v50 =>
  bndP (pIndexAddr 3 v50 v45) fun v52 =>
  bndP (pLoadN I 3 v52 h) fun v53 =>
  bnd (sBuildSlice [(Z 0), (Z 0), (.bool .false)] 1 [(0, 3, v53)] h) fun v54 h1 =>
  bnd (sAppend I 3 24 v8 v54 h1) fun v55 h2 =>
  j.2.2.2 v0 v1 v7 v55 v40 v41 v42 h2
noncomputable def f75.b5 (I : Inp) (call : CallFn) (j : f75.Js) (v0 v1 v7 v8 v40 v41 v42 : AVal) (h : AHeap) : Rs :=
  bndP (pBin .add v42 (Z 1)) fun v56 =>
  j.2.1 v0 v1 v7 v8 v40 v41 v56 h
noncomputable def f75.e (I : Inp) (call : CallFn) (j : f75.Js) (v0 v1 v2 : AVal) (h : AHeap) : Rs :=
  bnd (sBox v2 h) fun v5 h1 =>
  bndP (pLoadN I 6 v5 h1) fun v13 =>
  bnd (call 98 [v0, v1, v13] h1) fun v14 h2 =>
  bndP (pBin .lss v14 (Z 0)) fun v17 =>
  sCond v17 (
  bndP (pNilCheck v0) fun v20 =>
  bndP (pFieldAddr 3 v20) fun v21 =>
  bndP (pLoad1 I v21 h2) fun v22 =>
  bndP (pLenSl v22) fun v23 =>
  bndP (pBin .geq v23 (Z 60)) fun v24 =>
  sCond v24 (
  j.1.1 v0 v1 v5 v14 h2) (
  some ((Z 6), h2))) (
  some ((Z 1), h2))
noncomputable def f75.J (I : Inp) (call : CallFn) (n : Nat) : f75.Js :=
  Nat.rec (motive := fun _ => f75.Js) (((fun _ _ _ _ _ => none), ((fun _ _ _ _ _ _ => none), (fun _ _ _ _ => none))), ((fun _ _ _ _ _ _ _ _ => none), ((fun _ _ _ _ _ _ _ _ => none), (fun _ _ _ _ _ _ _ _ => none)))) (fun _ ih => ((f75.b0 I call ih, (f75.b1 I call ih, f75.b2 I call ih)), (f75.b3 I call ih, (f75.b4 I call ih, f75.b5 I call ih)))) n
noncomputable def f75.JS (I : Inp) (call : CallFn) (n : Nat) : Jmp := fun id ρ h =>
  (Bool.rec (motive := fun _ => _) (Bool.rec (motive := fun _ => _) (Bool.rec (motive := fun _ => _) ((f75.J I call n).2.2.2 (ρ 0) (ρ 1) (ρ 7) (ρ 8) (ρ 40) (ρ 41) (ρ 42) h) ((f75.J I call n).2.2.1 (ρ 0) (ρ 1) (ρ 7) (ρ 8) (ρ 40) (ρ 41) (ρ 42) h) (Nat.blt id 5)) ((f75.J I call n).2.1 (ρ 0) (ρ 1) (ρ 7) (ρ 8) (ρ 40) (ρ 41) (ρ 42) h) (Nat.blt id 4)) (Bool.rec (motive := fun _ => _) (Bool.rec (motive := fun _ => _) ((f75.J I call n).1.2.2 (ρ 0) (ρ 7) (ρ 8) h) ((f75.J I call n).1.2.1 (ρ 0) (ρ 1) (ρ 5) (ρ 7) (ρ 8) h) (Nat.blt id 2)) ((f75.J I call n).1.1 (ρ 0) (ρ 1) (ρ 5) (ρ 7) h) (Nat.blt id 1)) (Nat.blt id 3))
theorem f75.q0 (I : Inp) (call : CallFn) (n : Nat) (ρ : Fun) (h : AHeap) : f75.JS I call (n + 1) 0 ρ h = labC P I call (f75.JS I call n) c75.body 0 (finV I c75.results) 0 ρ h := by kernel_rfl
theorem f75.q1 (I : Inp) (call : CallFn) (n : Nat) (ρ : Fun) (h : AHeap) : f75.JS I call (n + 1) 1 ρ h = labC P I call (f75.JS I call n) c75.body 0 (finV I c75.results) 1 ρ h := by kernel_rfl
theorem f75.q2 (I : Inp) (call : CallFn) (n : Nat) (ρ : Fun) (h : AHeap) : f75.JS I call (n + 1) 2 ρ h = labC P I call (f75.JS I call n) c75.body 0 (finV I c75.results) 2 ρ h := by kernel_rfl
theorem f75.q3 (I : Inp) (call : CallFn) (n : Nat) (ρ : Fun) (h : AHeap) : f75.JS I call (n + 1) 3 ρ h = labC P I call (f75.JS I call n) c75.body 0 (finV I c75.results) 3 ρ h := by kernel_rfl
theorem f75.q4 (I : Inp) (call : CallFn) (n : Nat) (ρ : Fun) (h : AHeap) : f75.JS I call (n + 1) 4 ρ h = labC P I call (f75.JS I call n) c75.body 0 (finV I c75.results) 4 ρ h := by kernel_rfl
theorem f75.q5 (I : Inp) (call : CallFn) (n : Nat) (ρ : Fun) (h : AHeap) : f75.JS I call (n + 1) 5 ρ h = labC P I call (f75.JS I call n) c75.body 0 (finV I c75.results) 5 ρ h := by kernel_rfl
theorem f75.S (I : Inp) (F : Nat → Option AFn) (call : CallFn) : SFn ⟨P, I, F⟩ call c75 (f75.JS I call) :=
  ⟨fun id hid ρ h => by
    have hc : c75.body.cnt = 6 := by kernel_rfl
    rw [hc] at hid
    exact match id, hid with
    | 0, _ => rfl
    | 1, _ => rfl
    | 2, _ => rfl
    | 3, _ => rfl
    | 4, _ => rfl
    | 5, _ => rfl
    | id + 6, hid => absurd hid (by omega), fun n id hid ρ h => by
    have hc : c75.body.cnt = 6 := by kernel_rfl
    rw [hc] at hid
    exact match id, hid with
    | 0, _ => f75.q0 I call n ρ h
    | 1, _ => f75.q1 I call n ρ h
    | 2, _ => f75.q2 I call n ρ h
    | 3, _ => f75.q3 I call n ρ h
    | 4, _ => f75.q4 I call n ρ h
    | 5, _ => f75.q5 I call n ρ h
    | id + 6, hid => absurd hid (by omega)⟩
noncomputable def f75.run (I : Inp) : SF := fun call n a h =>
  match a with
  | [v0, v1, v2] => f75.e I call (f75.J I call n) v0 v1 v2 h
  | _ => none
theorem f75.qe (I : Inp) (call : CallFn) (n : Nat) (v0 v1 v2 : AVal) (h : AHeap) : f75.e I call (f75.J I call n) v0 v1 v2 h = execC P I call (f75.JS I call n) c75.body 0 (finV I c75.results) (argV [v0, v1, v2]) h := by kernel_rfl
theorem f75.code : codeOf P 75 = some c75 := by kernel_rfl
theorem f75.ok (I : Inp) (F : Nat → Option AFn) (hF : F 75 = some (.code c75)) : SfOk P I F 75 (f75.run I) := by
  intro call hc n args h r hr
  unfold f75.run at hr
  split at hr
  · exact fn_sound (C := ⟨P, I, F⟩) (n := n) hc hF (Nat.le_of_ble_eq_true (by kernel_rfl)) (by kernel_rfl) (f75.S I F call) (by kernel_rfl) ((f75.qe I call n _ _ _ h).symm.trans hr)
  · cases hr
/-! (*haruspex/sem.Machine).follow -/
noncomputable def c76 : AFunc := (AFunc.mk 87 3 [(.tmp 6)] (.seq (.region [(S 5 (.box (T 2)) .none), (S 6 (.move (V 0)) .none)]) (.seq (.seq (.draw [(M 11 1), (NC 12 11), (FA 13 2 12), (L1 14 13), (FA 15 2 5), (L1 16 15), (S 17 (.indexAddr 3 (T 14) (T 16)) .none), (FA 18 0 17), (L1 19 18), (S 20 (.bin .neq (T 19) (V 2)) .none)] [N, N, N, N, N, N, N, N, N, N] 0) (.cond (T 20) (.seq (.region [(S 6 (.move (V 1)) .none)]) .ret) .skip)) (.seq (.draw [(M 21 1), (NC 22 21), (FA 23 2 22), (L1 24 23), (FA 25 2 5), (L1 26 25), (S 27 (.indexAddr 3 (T 24) (T 26)) .none), (FA 28 1 27), (L1 29 28), (M 7 29)] [N, N, N, N, N, N, N, N, N, N] 0) (.seq (.region [(S 8 (.move (V 0)) .none)]) (.seq (.seq (.region [(FA 30 0 5), (L1 31 30)]) (.block 0 (.seq (.region [(S 39 (.bin .eql (T 31) (V 7)) .none), (M 38 39)]) (.cond (T 38) (.seq (.draw [(M 41 0), (NC 42 41), (FA 43 2 42), (L1 44 43), (M 45 7), (FA 46 4 5), (L1 47 46), (S 48 (.call 63 [(T 44), (T 45), (T 47)]) .none), (M 40 48), (S 49 (.extract (T 40) 0) .none), (S 9 (.resv 0 (.alloc [(Z 0), (Z 0), (.bool .false)])) .none), (AOper.mk .none (.store 3 (T 9) (T 49)) .none), (S 50 (.extract (T 40) 1) .none), (M 10 50)] [N, N, N, N, N, N, N, Y, N, N, Y, Y, N, N] 1) (.seq (.seq (.region [(M 51 10), (S 52 (.bin .eql (T 51) (V 0)) .none)]) (.cond (T 52) (.seq (.region [(M 53 1), (FA 54 1 5), (L1 55 54), (S 56 (.loadN 3 (T 9)) .none), (S 57 (.call 73 [(T 53), (T 55), (T 56)]) .none), (M 6 57)]) .ret) .skip)) (.region [(M 58 10), (M 8 58)]))) (.seq (.region [(S 60 (.bin .eql (T 31) (V 8)) .none), (M 59 60)]) (.cond (T 59) (.draw [(M 61 0), (NC 62 61), (FA 63 2 62), (L1 64 63), (M 65 7), (FA 66 4 5), (L1 67 66), (M 68 1), (NC 69 68), (FA 70 2 69), (L1 71 70), (FA 72 3 5), (L1 73 72), (S 74 (.indexAddr 3 (T 71) (T 73)) .none), (S 75 (.loadN 3 (T 74)) .none), (S 76 (.call 99 [(T 64), (T 65), (T 67), (T 75)]) .none), (M 8 76)] [N, N, N, N, N, N, N, N, N, N, N, N, N, N, N, Y, N] 0) (.region [(M 32 0), (NC 33 32), (FA 34 2 33), (L1 35 34), (M 36 7), (S 37 (.call 100 [(T 35), (T 36)]) .none), (M 8 37)]))))))) (.seq (.seq (.region [(M 77 8), (S 78 (.bin .eql (T 77) (V 0)) .none)]) (.cond (T 78) (.region [(M 79 1), (NC 80 79), (FA 81 1 80), (L1 82 81), (S 83 (.bin .add (T 82) (V 1)) .none), (NC 84 79), (FA 85 1 84), (AOper.mk .none (.store 1 (T 85) (T 83)) .none)]) .skip)) (.seq (.region [(M 86 8), (M 6 86)]) .ret))))))))
abbrev f76.Js : Type := (((AVal → AVal → AVal → AHeap → Rs) × (AVal → AVal → AHeap → Rs)) × ((AVal → AVal → AHeap → Rs) × (AVal → AHeap → Rs)))
noncomputable def f76.b0 (I : Inp) (call : CallFn) (j : f76.Js) (v0 v1 v5 : AVal) (h : AHeap) : Rs :=
  bndP (pNilCheck v1) fun v22 =>
  bndP (pFieldAddr 2 v22) fun v23 =>
  bndP (pLoad1 I v23 h) fun v24 =>
  bndP (pFieldAddr 2 v5) fun v25 =>
  bndP (pLoad1 I v25 h) fun v26 =>
  bndP (pIndexAddr 3 v24 v26) fun v27 =>
  bndP (pFieldAddr 1 v27) fun v28 =>
  bndP (pLoad1 I v28 h) fun v29 =>
  bndP (pFieldAddr 0 v5) fun v30 =>
  bndP (pLoad1 I v30 h) fun v31 =>
  bndP (pBin .eql v31 (Z 7)) fun v39 =>
  sCond v39 (
  bndP (pBin .eql v31 (Z 8)) fun v60 =>
  sCond v60 (
  bndP (pNilCheck v0) fun v33 =>
  bndP (pFieldAddr 2 v33) fun v34 =>
  bndP (pLoad1 I v34 h) fun v35 =>
  bnd (call 100 [v35, v29] h) fun v37 h1 =>
  j.1.2 v1 v37 h1) (
  bndP (pNilCheck v0) fun v62 =>
  bndP (pFieldAddr 2 v62) fun v63 =>
  bndP (pLoad1 I v63 h) fun v64 =>
  bndP (pFieldAddr 4 v5) fun v66 =>
  bndP (pLoad1 I v66 h) fun v67 =>
  bndP (pNilCheck v1) fun v69 =>
  bndP (pFieldAddr 2 v69) fun v70 =>
  bndP (pLoad1 I v70 h) fun v71 =>
  bndP (pFieldAddr 3 v5) fun v72 =>
  bndP (pLoad1 I v72 h) fun v73 =>
  bndP (pIndexAddr 3 v71 v73) fun v74 =>
  bndP (pLoadN I 3 v74 h) fun v75 =>
  bnd (call 99 [v64, v29, v67, v75] h) fun v76 h2 =>
  j.1.2 v1 v76 h2)) (
  sKeep 0 h fun h3 =>
  bndP (pNilCheck v0) fun v42 =>
  bndP (pFieldAddr 2 v42) fun v43 =>
  bndP (pLoad1 I v43 h3) fun v44 =>
  bndP (pFieldAddr 4 v5) fun v46 =>
  bndP (pLoad1 I v46 h3) fun v47 =>
  bnd (call 63 [v44, v29, v47] h3) fun v48 h4 =>
  bndP (pExtract v48 0) fun v49 =>
  bnd (sResvAlloc (h.next + 0) [(Z 0), (Z 0), (.bool .false)] h4) fun v9 h5 =>
  bnd (sStore 3 v9 v49 h5) fun _ h6 =>
  bndP (pExtract v48 1) fun v50 =>
  bndP (pBin .eql v50 (Z 0)) fun v52 =>
  sCond v52 (
  j.2.1 v1 v50 h6) (
  bndP (pFieldAddr 1 v5) fun v54 =>
  bndP (pLoad1 I v54 h6) fun v55 =>
  bndP (pLoadN I 3 v9 h6) fun v56 =>
  bnd (call 73 [v1, v55, v56] h6) fun v57 h7 =>
  some (v57, h7)))
noncomputable def f76.b1 (I : Inp) (call : CallFn) (j : f76.Js) (v1 v8 : AVal) (h : AHeap) : Rs :=
  bndP (pBin .eql v8 (Z 0)) fun v78 =>
  sCond v78 (
  j.2.2 v8 h) (
  bndP (pNilCheck v1) fun v80 =>
  bndP (pFieldAddr 1 v80) fun v81 =>
  bndP (pLoad1 I v81 h) fun v82 =>
  bndP (pBin .add v82 (Z 1)) fun v83 =>
  bndP (pNilCheck v1) fun v84 =>
  bndP (pFieldAddr 1 v84) fun v85 =>
  bnd (sStore 1 v85 v83 h) fun _ h1 =>
  j.2.2 v8 h1)
noncomputable def f76.b2 (I : Inp) (call : CallFn) (j : f76.Js) (v1 v10 : AVal) (h : AHeap) : Rs :=
  j.1.2 v1 v10 h
noncomputable def f76.b3 (I : Inp) (call : CallFn) (j : f76.Js) (v8 : AVal) (h : AHeap) : Rs :=
  some (v8, h)
noncomputable def f76.e (I : Inp) (call : CallFn) (j : f76.Js) (v0 v1 v2 : AVal) (h : AHeap) : Rs :=
  bnd (sBox v2 h) fun v5 h1 =>
  bndP (pNilCheck v1) fun v12 =>
  bndP (pFieldAddr 2 v12) fun v13 =>
  bndP (pLoad1 I v13 h1) fun v14 =>
  bndP (pFieldAddr 2 v5) fun v15 =>
  bndP (pLoad1 I v15 h1) fun v16 =>
  bndP (pIndexAddr 3 v14 v16) fun v17 =>
  bndP (pFieldAddr 0 v17) fun v18 =>
  bndP (pLoad1 I v18 h1) fun v19 =>
  bndP (pBin .neq v19 (Z 2)) fun v20 =>
  sCond v20 (
  j.1.1 v0 v1 v5 h1) (
  some ((Z 1), h1))
noncomputable def f76.J (I : Inp) (call : CallFn) (n : Nat) : f76.Js :=
  Nat.rec (motive := fun _ => f76.Js) (((fun _ _ _ _ => none), (fun _ _ _ => none)), ((fun _ _ _ => none), (fun _ _ => none))) (fun _ ih => ((f76.b0 I call ih, f76.b1 I call ih), (f76.b2 I call ih, f76.b3 I call ih))) n
noncomputable def f76.JS (I : Inp) (call : CallFn) (n : Nat) : Jmp := fun id ρ h =>
  (Bool.rec (motive := fun _ => _) (Bool.rec (motive := fun _ => _) ((f76.J I call n).2.2 (ρ 8) h) ((f76.J I call n).2.1 (ρ 1) (ρ 10) h) (Nat.blt id 3)) (Bool.rec (motive := fun _ => _) ((f76.J I call n).1.2 (ρ 1) (ρ 8) h) ((f76.J I call n).1.1 (ρ 0) (ρ 1) (ρ 5) h) (Nat.blt id 1)) (Nat.blt id 2))
theorem f76.q0 (I : Inp) (call : CallFn) (n : Nat) (ρ : Fun) (h : AHeap) : f76.JS I call (n + 1) 0 ρ h = labC P I call (f76.JS I call n) c76.body 0 (finV I c76.results) 0 ρ h := by kernel_rfl
theorem f76.q1 (I : Inp) (call : CallFn) (n : Nat) (ρ : Fun) (h : AHeap) : f76.JS I call (n + 1) 1 ρ h = labC P I call (f76.JS I call n) c76.body 0 (finV I c76.results) 1 ρ h := by kernel_rfl
theorem f76.q2 (I : Inp) (call : CallFn) (n : Nat) (ρ : Fun) (h : AHeap) : f76.JS I call (n + 1) 2 ρ h = labC P I call (f76.JS I call n) c76.body 0 (finV I c76.results) 2 ρ h := by kernel_rfl
theorem f76.q3 (I : Inp) (call : CallFn) (n : Nat) (ρ : Fun) (h : AHeap) : f76.JS I call (n + 1) 3 ρ h = labC P I call (f76.JS I call n) c76.body 0 (finV I c76.results) 3 ρ h := by kernel_rfl
theorem f76.S (I : Inp) (F : Nat → Option AFn) (call : CallFn) : SFn ⟨P, I, F⟩ call c76 (f76.JS I call) :=
  ⟨fun id hid ρ h => by
    have hc : c76.body.cnt = 4 := by kernel_rfl
    rw [hc] at hid
    exact match id, hid with
    | 0, _ => rfl
    | 1, _ => rfl
    | 2, _ => rfl
    | 3, _ => rfl
    | id + 4, hid => absurd hid (by omega), fun n id hid ρ h => by
    have hc : c76.body.cnt = 4 := by kernel_rfl
    rw [hc] at hid
    exact match id, hid with
    | 0, _ => f76.q0 I call n ρ h
    | 1, _ => f76.q1 I call n ρ h
    | 2, _ => f76.q2 I call n ρ h
    | 3, _ => f76.q3 I call n ρ h
    | id + 4, hid => absurd hid (by omega)⟩
noncomputable def f76.run (I : Inp) : SF := fun call n a h =>
  match a with
  | [v0, v1, v2] => f76.e I call (f76.J I call n) v0 v1 v2 h
  | _ => none
theorem f76.qe (I : Inp) (call : CallFn) (n : Nat) (v0 v1 v2 : AVal) (h : AHeap) : f76.e I call (f76.J I call n) v0 v1 v2 h = execC P I call (f76.JS I call n) c76.body 0 (finV I c76.results) (argV [v0, v1, v2]) h := by kernel_rfl
theorem f76.code : codeOf P 76 = some c76 := by kernel_rfl
theorem f76.ok (I : Inp) (F : Nat → Option AFn) (hF : F 76 = some (.code c76)) : SfOk P I F 76 (f76.run I) := by
  intro call hc n args h r hr
  unfold f76.run at hr
  split at hr
  · exact fn_sound (C := ⟨P, I, F⟩) (n := n) hc hF (Nat.le_of_ble_eq_true (by kernel_rfl)) (by kernel_rfl) (f76.S I F call) (by kernel_rfl) ((f76.qe I call n _ _ _ h).symm.trans hr)
  · cases hr
/-! (*haruspex/value.Heap).find -/
noncomputable def c83 : AFunc := (AFunc.mk 28 2 [(.tmp 4)] (.seq (.region [(S 4 (.move (.val .nilp)) .none)]) (.seq (.seq (.region [(M 5 0), (S 6 (.eq .false .ptr .true (T 5) (.val .nilp)) .none), (M 7 6), (S 8 (.move (T 1)) (.some (7, .false))), (S 9 (.bin .lss (T 8) (V 1)) (.some (7, .false))), (S 10 (.pick (T 7) (.val (.bool .true)) (T 9)) .none), (M 11 10), (S 12 (.move (T 1)) (.some (11, .false))), (S 13 (.move (T 0)) (.some (11, .false))), (S 14 (.nilCheck (T 13)) (.some (11, .false))), (S 15 (.fieldAddr 0 (T 14)) (.some (11, .false))), (S 16 (.load1 (T 15)) (.some (11, .false))), (S 17 (.lenSl (T 16)) (.some (11, .false))), (S 18 (.bin .gtr (T 12) (T 17)) (.some (11, .false))), (S 19 (.pick (T 11) (.val (.bool .true)) (T 18)) .none)]) (.cond (T 19) (.seq (.region [(S 4 (.move (.val .nilp)) .none)]) .ret) .skip)) (.seq (.region [(M 20 0), (NC 21 20), (FA 22 0 21), (L1 23 22), (M 24 1), (S 25 (.bin .sub (T 24) (V 1)) .none), (S 26 (.indexAddr 1 (T 23) (T 25)) .none), (L1 27 26), (M 4 27)]) .ret))))
abbrev f83.Js : Type := (AVal → AVal → AHeap → Rs)
noncomputable def f83.b0 (I : Inp) (call : CallFn) (j : f83.Js) (v0 v1 : AVal) (h : AHeap) : Rs :=
  bndP (pNilCheck v0) fun v21 =>
  bndP (pFieldAddr 0 v21) fun v22 =>
  bndP (pLoad1 I v22 h) fun v23 =>
  bndP (pBin .sub v1 (Z 1)) fun v25 =>
  bndP (pIndexAddr 1 v23 v25) fun v26 =>
  bndP (pLoad1 I v26 h) fun v27 =>
  some (v27, h)
noncomputable def f83.e (I : Inp) (call : CallFn) (j : f83.Js) (v0 v1 : AVal) (h : AHeap) : Rs :=
  bndP (pEq P .false .ptr .true v0 .nilp h) fun v6 =>
  bnd (sGuard v6 .false (some (v1, h)) h) fun v8 h1 =>
  bnd (sGuard v6 .false (lift (pBin .lss v8 (Z 1)) h1) h1) fun v9 h2 =>
  bndP (pPick v6 (.bool .true) v9) fun v10 =>
  bnd (sGuard v10 .false (some (v1, h2)) h2) fun v12 h3 =>
  bnd (sGuard v10 .false (some (v0, h3)) h3) fun v13 h4 =>
  bnd (sGuard v10 .false (lift (pNilCheck v13) h4) h4) fun v14 h5 =>
  bnd (sGuard v10 .false (lift (pFieldAddr 0 v14) h5) h5) fun v15 h6 =>
  bnd (sGuard v10 .false (lift (pLoad1 I v15 h6) h6) h6) fun v16 h7 =>
  bnd (sGuard v10 .false (lift (pLenSl v16) h7) h7) fun v17 h8 =>
  bnd (sGuard v10 .false (lift (pBin .gtr v12 v17) h8) h8) fun v18 h9 =>
  bndP (pPick v10 (.bool .true) v18) fun v19 =>
  sCond v19 (
  j v0 v1 h9) (
  some (.nilp, h9))
noncomputable def f83.J (I : Inp) (call : CallFn) (n : Nat) : f83.Js :=
  Nat.rec (motive := fun _ => f83.Js) (fun _ _ _ => none) (fun _ ih => f83.b0 I call ih) n
noncomputable def f83.JS (I : Inp) (call : CallFn) (n : Nat) : Jmp := fun id ρ h =>
  ((f83.J I call n) (ρ 0) (ρ 1) h)
theorem f83.q0 (I : Inp) (call : CallFn) (n : Nat) (ρ : Fun) (h : AHeap) : f83.JS I call (n + 1) 0 ρ h = labC P I call (f83.JS I call n) c83.body 0 (finV I c83.results) 0 ρ h := by kernel_rfl
theorem f83.S (I : Inp) (F : Nat → Option AFn) (call : CallFn) : SFn ⟨P, I, F⟩ call c83 (f83.JS I call) :=
  ⟨fun id hid ρ h => by
    have hc : c83.body.cnt = 1 := by kernel_rfl
    rw [hc] at hid
    exact match id, hid with
    | 0, _ => rfl
    | id + 1, hid => absurd hid (by omega), fun n id hid ρ h => by
    have hc : c83.body.cnt = 1 := by kernel_rfl
    rw [hc] at hid
    exact match id, hid with
    | 0, _ => f83.q0 I call n ρ h
    | id + 1, hid => absurd hid (by omega)⟩
noncomputable def f83.run (I : Inp) : SF := fun call n a h =>
  match a with
  | [v0, v1] => f83.e I call (f83.J I call n) v0 v1 h
  | _ => none
theorem f83.qe (I : Inp) (call : CallFn) (n : Nat) (v0 v1 : AVal) (h : AHeap) : f83.e I call (f83.J I call n) v0 v1 h = execC P I call (f83.JS I call n) c83.body 0 (finV I c83.results) (argV [v0, v1]) h := by kernel_rfl
theorem f83.code : codeOf P 83 = some c83 := by kernel_rfl
theorem f83.ok (I : Inp) (F : Nat → Option AFn) (hF : F 83 = some (.code c83)) : SfOk P I F 83 (f83.run I) := by
  intro call hc n args h r hr
  unfold f83.run at hr
  split at hr
  · exact fn_sound (C := ⟨P, I, F⟩) (n := n) hc hF (Nat.le_of_ble_eq_true (by kernel_rfl)) (by kernel_rfl) (f83.S I F call) (by kernel_rfl) ((f83.qe I call n _ _ h).symm.trans hr)
  · cases hr
/-! (*haruspex/value.Heap).cell -/
noncomputable def c88 : AFunc := (AFunc.mk 38 3 [(.tmp 6), (.tmp 7)] (.seq (.region [(S 6 (.move (.val .nilp)) .none), (S 7 (.move (V 0)) .none)]) (.seq (.region [(M 9 0), (M 10 1), (S 11 (.call 83 [(T 9), (T 10)]) .none), (M 8 11)]) (.seq (.block 0 (.seq (.region [(M 13 8), (S 14 (.eq .false .ptr .true (T 13) (.val .nilp)) .none), (M 12 14)]) (.cond (T 12) (.seq (.region [(S 6 (.move (.val .nilp)) .none), (S 7 (.move (V 1)) .none)]) .ret) (.seq (.region [(M 16 8), (NC 17 16), (FA 18 2 17), (L1 19 18), (M 15 19)]) (.cond (T 15) (.seq (.region [(S 6 (.move (.val .nilp)) .none), (S 7 (.move (V 2)) .none)]) .ret) (.seq (.region [(M 21 2), (S 22 (.bin .lss (T 21) (V 0)) .none), (M 23 22), (S 24 (.move (T 2)) (.some (23, .false))), (S 25 (.move (T 8)) (.some (23, .false))), (S 26 (.nilCheck (T 25)) (.some (23, .false))), (S 27 (.fieldAddr 1 (T 26)) (.some (23, .false))), (S 28 (.load1 (T 27)) (.some (23, .false))), (S 29 (.lenSl (T 28)) (.some (23, .false))), (S 30 (.bin .geq (T 24) (T 29)) (.some (23, .false))), (S 31 (.pick (T 23) (.val (.bool .true)) (T 30)) .none), (M 20 31)]) (.cond (T 20) (.seq (.region [(S 6 (.move (.val .nilp)) .none), (S 7 (.move (V 1)) .none)]) .ret) .skip))))))) (.seq (.region [(M 32 8), (NC 33 32), (FA 34 1 33), (L1 35 34), (M 36 2), (S 37 (.indexAddr 3 (T 35) (T 36)) .none), (M 6 37), (S 7 (.move (V 0)) .none)]) .ret)))))
abbrev f88.Js : Type := (AVal → AVal → AHeap → Rs)
noncomputable def f88.b0 (I : Inp) (call : CallFn) (j : f88.Js) (v2 v8 : AVal) (h : AHeap) : Rs :=
  bndP (pNilCheck v8) fun v33 =>
  bndP (pFieldAddr 1 v33) fun v34 =>
  bndP (pLoad1 I v34 h) fun v35 =>
  bndP (pIndexAddr 3 v35 v2) fun v37 =>
  some (.tuple [v37, (Z 0)], h)
noncomputable def f88.e (I : Inp) (call : CallFn) (j : f88.Js) (v0 v1 v2 : AVal) (h : AHeap) : Rs :=
  bnd (call 83 [v0, v1] h) fun v11 h1 =>
  bndP (pEq P .false .ptr .true v11 .nilp h1) fun v14 =>
  sCond v14 (
  bndP (pNilCheck v11) fun v17 =>
  bndP (pFieldAddr 2 v17) fun v18 =>
  bndP (pLoad1 I v18 h1) fun v19 =>
  sCond v19 (
  bndP (pBin .lss v2 (Z 0)) fun v22 =>
  bnd (sGuard v22 .false (some (v2, h1)) h1) fun v24 h2 =>
  bnd (sGuard v22 .false (some (v11, h2)) h2) fun v25 h3 =>
  bnd (sGuard v22 .false (lift (pNilCheck v25) h3) h3) fun v26 h4 =>
  bnd (sGuard v22 .false (lift (pFieldAddr 1 v26) h4) h4) fun v27 h5 =>
  bnd (sGuard v22 .false (lift (pLoad1 I v27 h5) h5) h5) fun v28 h6 =>
  bnd (sGuard v22 .false (lift (pLenSl v28) h6) h6) fun v29 h7 =>
  bnd (sGuard v22 .false (lift (pBin .geq v24 v29) h7) h7) fun v30 h8 =>
  bndP (pPick v22 (.bool .true) v30) fun v31 =>
  sCond v31 (
  j v2 v11 h8) (
  some (.tuple [.nilp, (Z 1)], h8))) (
  some (.tuple [.nilp, (Z 2)], h1))) (
  some (.tuple [.nilp, (Z 1)], h1))
noncomputable def f88.J (I : Inp) (call : CallFn) (n : Nat) : f88.Js :=
  Nat.rec (motive := fun _ => f88.Js) (fun _ _ _ => none) (fun _ ih => f88.b0 I call ih) n
noncomputable def f88.JS (I : Inp) (call : CallFn) (n : Nat) : Jmp := fun id ρ h =>
  ((f88.J I call n) (ρ 2) (ρ 8) h)
theorem f88.q0 (I : Inp) (call : CallFn) (n : Nat) (ρ : Fun) (h : AHeap) : f88.JS I call (n + 1) 0 ρ h = labC P I call (f88.JS I call n) c88.body 0 (finV I c88.results) 0 ρ h := by kernel_rfl
theorem f88.S (I : Inp) (F : Nat → Option AFn) (call : CallFn) : SFn ⟨P, I, F⟩ call c88 (f88.JS I call) :=
  ⟨fun id hid ρ h => by
    have hc : c88.body.cnt = 1 := by kernel_rfl
    rw [hc] at hid
    exact match id, hid with
    | 0, _ => rfl
    | id + 1, hid => absurd hid (by omega), fun n id hid ρ h => by
    have hc : c88.body.cnt = 1 := by kernel_rfl
    rw [hc] at hid
    exact match id, hid with
    | 0, _ => f88.q0 I call n ρ h
    | id + 1, hid => absurd hid (by omega)⟩
noncomputable def f88.run (I : Inp) : SF := fun call n a h =>
  match a with
  | [v0, v1, v2] => f88.e I call (f88.J I call n) v0 v1 v2 h
  | _ => none
theorem f88.qe (I : Inp) (call : CallFn) (n : Nat) (v0 v1 v2 : AVal) (h : AHeap) : f88.e I call (f88.J I call n) v0 v1 v2 h = execC P I call (f88.JS I call n) c88.body 0 (finV I c88.results) (argV [v0, v1, v2]) h := by kernel_rfl
theorem f88.code : codeOf P 88 = some c88 := by kernel_rfl
theorem f88.ok (I : Inp) (F : Nat → Option AFn) (hF : F 88 = some (.code c88)) : SfOk P I F 88 (f88.run I) := by
  intro call hc n args h r hr
  unfold f88.run at hr
  split at hr
  · exact fn_sound (C := ⟨P, I, F⟩) (n := n) hc hF (Nat.le_of_ble_eq_true (by kernel_rfl)) (by kernel_rfl) (f88.S I F call) (by kernel_rfl) ((f88.qe I call n _ _ _ h).symm.trans hr)
  · cases hr
/-! haruspex/types.Bounds -/
noncomputable def c89 : AFunc := (AFunc.mk 174 1 [(.tmp 2)] (.seq (.region [(S 2 (.move (.val .nili)) .none)]) (.seq (.seq (.region [(M 19 0), (S 20 (.eq .false .ptr .true (T 19) (.val .nilp)) .none), (M 21 20), (S 22 (.move (T 0)) (.some (21, .false))), (S 23 (.nilCheck (T 22)) (.some (21, .false))), (S 24 (.fieldAddr 0 (T 23)) (.some (21, .false))), (S 25 (.load1 (T 24)) (.some (21, .false))), (S 26 (.lenSl (T 25)) (.some (21, .false))), (S 27 (.bin .gtr (T 26) (V 6)) (.some (21, .false))), (S 28 (.pick (T 21) (.val (.bool .true)) (T 27)) .none), (M 29 28), (S 30 (.move (T 0)) (.some (29, .false))), (S 31 (.nilCheck (T 30)) (.some (29, .false))), (S 32 (.fieldAddr 1 (T 31)) (.some (29, .false))), (S 33 (.load1 (T 32)) (.some (29, .false))), (S 34 (.lenSl (T 33)) (.some (29, .false))), (S 35 (.bin .gtr (T 34) (V 10)) (.some (29, .false))), (S 36 (.pick (T 29) (.val (.bool .true)) (T 35)) .none), (M 37 36), (S 38 (.move (T 0)) (.some (37, .false))), (S 39 (.nilCheck (T 38)) (.some (37, .false))), (S 40 (.fieldAddr 2 (T 39)) (.some (37, .false))), (S 41 (.load1 (T 40)) (.some (37, .false))), (S 42 (.lenSl (T 41)) (.some (37, .false))), (S 43 (.bin .gtr (T 42) (V 4)) (.some (37, .false))), (S 44 (.pick (T 37) (.val (.bool .true)) (T 43)) .none), (M 45 44), (S 46 (.move (T 0)) (.some (45, .false))), (S 47 (.nilCheck (T 46)) (.some (45, .false))), (S 48 (.fieldAddr 3 (T 47)) (.some (45, .false))), (S 49 (.load1 (T 48)) (.some (45, .false))), (S 50 (.lenSl (T 49)) (.some (45, .false))), (S 51 (.bin .gtr (T 50) (V 12)) (.some (45, .false))), (S 52 (.pick (T 45) (.val (.bool .true)) (T 51)) .none), (M 53 52), (S 54 (.move (T 0)) (.some (53, .false))), (S 55 (.nilCheck (T 54)) (.some (53, .false))), (S 56 (.fieldAddr 4 (T 55)) (.some (53, .false))), (S 57 (.load1 (T 56)) (.some (53, .false))), (S 58 (.lenSl (T 57)) (.some (53, .false))), (S 59 (.bin .gtr (T 58) (V 12)) (.some (53, .false))), (S 60 (.pick (T 53) (.val (.bool .true)) (T 59)) .none), (M 61 60), (S 62 (.move (T 0)) (.some (61, .false))), (S 63 (.nilCheck (T 62)) (.some (61, .false))), (S 64 (.fieldAddr 4 (T 63)) (.some (61, .false))), (S 65 (.load1 (T 64)) (.some (61, .false))), (S 66 (.lenSl (T 65)) (.some (61, .false))), (S 67 (.bin .eql (T 66) (V 0)) (.some (61, .false))), (S 68 (.pick (T 61) (.val (.bool .true)) (T 67)) .none)]) (.cond (T 68) (.seq (.region [(S 69 (.call 116 []) .none), (M 2 69)]) .ret) .skip)) (.seq (.region [(S 3 (.move (.val (.bool .true))) .none)]) (.seq (.seq (.region [(M 70 0), (NC 71 70), (FA 72 0 71), (L1 73 72), (S 74 (.lenSl (T 73)) .none), (S 75 (.move (V 0)) .none)]) (.block 0 (.loop (.seq (.region [(S 76 (.bin .lss (T 75) (T 74)) .none)]) (.seq (.cond (T 76) .skip (.exit 0)) (.seq (.block 1 (.seq (.region [(S 77 (.indexAddr 1 (T 73) (T 75)) .none), (L1 78 77), (M 5 78)]) (.region [(M 79 3), (M 80 79), (S 81 (.move (T 5)) (.some (80, .true))), (S 82 (.lenSl (T 81)) (.some (80, .true))), (S 83 (.bin .leq (T 82) (V 4)) (.some (80, .true))), (S 84 (.pick (T 80) (T 83) (.val (.bool .false))) .none), (M 3 84)]))) (.region [(S 85 (.bin .add (T 75) (V 1)) .none), (M 75 85)]))))))) (.seq (.seq (.region [(M 86 0), (NC 87 86), (FA 88 1 87), (L1 89 88), (S 90 (.lenSl (T 89)) .none), (S 91 (.move (V 0)) .none)]) (.block 2 (.loop (.seq (.region [(S 92 (.bin .lss (T 91) (T 90)) .none)]) (.seq (.cond (T 92) .skip (.exit 2)) (.seq (.block 3 (.seq (.region [(S 93 (.indexAddr 3 (T 89) (T 91)) .none), (S 94 (.loadN 3 (T 93)) .none), (S 7 (.alloc [.nils, (Z 0), (Z 0)]) .none), (AOper.mk .none (.store 3 (T 7) (T 94)) .none)]) (.region [(M 95 3), (M 96 95), (S 97 (.fieldAddr 0 (T 7)) (.some (96, .true))), (S 98 (.load1 (T 97)) (.some (96, .true))), (S 99 (.lenSl (T 98)) (.some (96, .true))), (S 100 (.bin .leq (T 99) (V 4)) (.some (96, .true))), (S 101 (.pick (T 96) (T 100) (.val (.bool .false))) .none), (M 3 101)]))) (.region [(S 102 (.bin .add (T 91) (V 1)) .none), (M 91 102)]))))))) (.seq (.seq (.region [(M 103 0), (NC 104 103), (FA 105 2 104), (L1 106 105), (S 107 (.lenSl (T 106)) .none), (S 108 (.move (V 0)) .none)]) (.block 4 (.loop (.seq (.region [(S 109 (.bin .lss (T 108) (T 107)) .none)]) (.seq (.cond (T 109) .skip (.exit 4)) (.seq (.block 5 (.seq (.region [(S 110 (.indexAddr 1 (T 106) (T 108)) .none), (S 111 (.loadN 1 (T 110)) .none), (S 9 (.alloc [.nils]) .none), (AOper.mk .none (.store 1 (T 9) (T 111)) .none)]) (.region [(M 112 3), (M 113 112), (S 114 (.fieldAddr 0 (T 9)) (.some (113, .true))), (S 115 (.load1 (T 114)) (.some (113, .true))), (S 116 (.lenSl (T 115)) (.some (113, .true))), (S 117 (.bin .leq (T 116) (V 3)) (.some (113, .true))), (S 118 (.pick (T 113) (T 117) (.val (.bool .false))) .none), (M 3 118)]))) (.region [(S 119 (.bin .add (T 108) (V 1)) .none), (M 108 119)]))))))) (.seq (.seq (.region [(M 120 0), (NC 121 120), (FA 122 3 121), (L1 123 122), (S 124 (.lenSl (T 123)) .none), (S 125 (.move (V 0)) .none)]) (.block 6 (.loop (.seq (.region [(S 126 (.bin .lss (T 125) (T 124)) .none)]) (.seq (.cond (T 126) .skip (.exit 6)) (.seq (.block 7 (.seq (.region [(S 127 (.indexAddr 3 (T 123) (T 125)) .none), (S 128 (.loadN 3 (T 127)) .none), (S 11 (.alloc [(Z 0), (Z 0), .nils]) .none), (AOper.mk .none (.store 3 (T 11) (T 128)) .none)]) (.region [(M 129 3), (M 130 129), (S 131 (.fieldAddr 2 (T 11)) (.some (130, .true))), (S 132 (.load1 (T 131)) (.some (130, .true))), (S 133 (.lenSl (T 132)) (.some (130, .true))), (S 134 (.bin .leq (T 133) (V 3)) (.some (130, .true))), (S 135 (.pick (T 130) (T 134) (.val (.bool .false))) .none), (M 3 135)]))) (.region [(S 136 (.bin .add (T 125) (V 1)) .none), (M 125 136)]))))))) (.seq (.region [(S 12 (.move (V 0)) .none), (S 13 (.move (V 0)) .none)]) (.seq (.seq (.region [(M 137 0), (NC 138 137), (FA 139 4 138), (L1 140 139), (S 141 (.lenSl (T 140)) .none), (S 142 (.move (V 0)) .none)]) (.block 8 (.loop (.seq (.region [(S 143 (.bin .lss (T 142) (T 141)) .none)]) (.seq (.cond (T 143) .skip (.exit 8)) (.seq (.block 9 (.seq (.region [(S 144 (.indexAddr 3 (T 140) (T 142)) .none), (S 145 (.loadN 3 (T 144)) .none), (S 15 (.alloc [(Z 0), .nils, .nils]) .none), (AOper.mk .none (.store 3 (T 15) (T 145)) .none)]) (.seq (.region [(S 147 (.loadN 3 (T 15)) .none), (S 148 (.call 117 [(T 147)]) .none), (M 146 148), (S 149 (.extract (T 146) 0) .none), (S 150 (.extract (T 146) 1) .none), (S 151 (.extract (T 146) 2) .none), (M 16 149), (M 17 150), (M 18 151)]) (.seq (.region [(M 152 3), (M 153 152), (S 154 (.move (T 16)) (.some (153, .true))), (S 155 (.pick (T 153) (T 154) (.val (.bool .false))) .none), (M 3 155)]) (.region [(M 156 12), (M 157 17), (S 158 (.bin .add (T 156) (T 157)) .none), (M 159 13), (M 160 18), (S 161 (.bin .add (T 159) (T 160)) .none), (M 12 158), (M 13 161)]))))) (.region [(S 162 (.bin .add (T 142) (V 1)) .none), (M 142 162)]))))))) (.seq (.seq (.region [(M 163 3), (S 164 (.un .not (T 163)) .none), (M 165 164), (S 166 (.move (T 12)) (.some (165, .false))), (S 167 (.bin .gtr (T 166) (V 600)) (.some (165, .false))), (S 168 (.pick (T 165) (.val (.bool .true)) (T 167)) .none), (M 169 168), (S 170 (.move (T 13)) (.some (169, .false))), (S 171 (.bin .gtr (T 170) (V 40)) (.some (169, .false))), (S 172 (.pick (T 169) (.val (.bool .true)) (T 171)) .none)]) (.cond (T 172) (.seq (.region [(S 173 (.call 116 []) .none), (M 2 173)]) .ret) .skip)) (.seq (.region [(S 2 (.move (.val .nili)) .none)]) .ret))))))))))))
abbrev f89.Js : Type := (((((AVal → AHeap → Rs) × (AVal → AVal → AHeap → Rs)) × ((AVal → AVal → AVal → AVal → AVal → AHeap → Rs) × ((AVal → AVal → AVal → AVal → AVal → AHeap → Rs) × (AVal → AVal → AVal → AVal → AVal → AHeap → Rs)))) × (((AVal → AVal → AHeap → Rs) × ((AVal → AVal → AVal → AVal → AVal → AHeap → Rs) × (AVal → AVal → AVal → AVal → AVal → AHeap → Rs))) × ((AVal → AVal → AVal → AVal → AVal → AHeap → Rs) × ((AVal → AVal → AHeap → Rs) × (AVal → AVal → AVal → AVal → AVal → AHeap → Rs))))) × ((((AVal → AVal → AVal → AVal → AVal → AHeap → Rs) × (AVal → AVal → AVal → AVal → AVal → AHeap → Rs)) × ((AVal → AVal → AHeap → Rs) × ((AVal → AVal → AVal → AVal → AVal → AHeap → Rs) × (AVal → AVal → AVal → AVal → AVal → AHeap → Rs)))) × (((AVal → AVal → AVal → AVal → AVal → AHeap → Rs) × ((AVal → AVal → AVal → AHeap → Rs) × (AVal → AVal → AVal → AVal → AVal → AVal → AHeap → Rs))) × ((AVal → AVal → AVal → AVal → AVal → AVal → AHeap → Rs) × ((AVal → AVal → AVal → AVal → AVal → AVal → AHeap → Rs) × (AHeap → Rs))))))
noncomputable def f89.b0 (I : Inp) (call : CallFn) (j : f89.Js) (v0 : AVal) (h : AHeap) : Rs :=
  bndP (pNilCheck v0) fun v71 =>
  bndP (pFieldAddr 0 v71) fun v72 =>
  bndP (pLoad1 I v72 h) fun v73 =>
  bndP (pLenSl v73) fun v74 =>
  j.1.1.2.1 v0 (.bool .true) v73 v74 (Z 0) h
noncomputable def f89.b1 (I : Inp) (call : CallFn) (j : f89.Js) (v0 v3 : AVal) (h : AHeap) : Rs :=
  bndP (pNilCheck v0) fun v87 =>
  bndP (pFieldAddr 1 v87) fun v88 =>
  bndP (pLoad1 I v88 h) fun v89 =>
  bndP (pLenSl v89) fun v90 =>
  j.1.2.1.2.1 v0 v3 v89 v90 (Z 0) h
noncomputable def f89.b2 (I : Inp) (call : CallFn) (j : f89.Js) (v0 v3 v73 v74 v75 : AVal) (h : AHeap) : Rs :=
  bndP (pBin .lss v75 v74) fun v76 =>
  sCond v76 (
  j.1.1.1.2 v0 v3 h) (
  j.1.1.2.2.1 v0 v3 v73 v74 v75 h)
noncomputable def f89.b3 (I : Inp) (call : CallFn) (j : f89.Js) (v0 v3 v73 v74 v75 : AVal) (h : AHeap) : Rs :=
  bndP (pIndexAddr 1 v73 v75) fun v77 =>
  bndP (pLoad1 I v77 h) fun v78 =>
  bnd (sGuard v3 .true (some (v78, h)) h) fun v81 h1 =>
  bnd (sGuard v3 .true (lift (pLenSl v81) h1) h1) fun v82 h2 =>
  bnd (sGuard v3 .true (lift (pBin .leq v82 (Z 4)) h2) h2) fun v83 h3 =>
  bndP (pPick v3 v83 (.bool .false)) fun v84 =>
  j.1.1.2.2.2 v0 v84 v73 v74 v75 h3
noncomputable def f89.b4 (I : Inp) (call : CallFn) (j : f89.Js) (v0 v3 v73 v74 v75 : AVal) (h : AHeap) : Rs :=
  bndP (pBin .add v75 (Z 1)) fun v85 =>
  j.1.1.2.1 v0 v3 v73 v74 v85 h
noncomputable def f89.b5 (I : Inp) (call : CallFn) (j : f89.Js) (v0 v3 : AVal) (h : AHeap) : Rs :=
  bndP (pNilCheck v0) fun v104 =>
  bndP (pFieldAddr 2 v104) fun v105 =>
  bndP (pLoad1 I v105 h) fun v106 =>
  bndP (pLenSl v106) fun v107 =>
  j.1.2.2.2.2 v0 v3 v106 v107 (Z 0) h
noncomputable def f89.b6 (I : Inp) (call : CallFn) (j : f89.Js) (v0 v3 v89 v90 v91 : AVal) (h : AHeap) : Rs :=
  bndP (pBin .lss v91 v90) fun v92 =>
  sCond v92 (
  j.1.2.1.1 v0 v3 h) (
  j.1.2.1.2.2 v0 v3 v89 v90 v91 h)
noncomputable def f89.b7 (I : Inp) (call : CallFn) (j : f89.Js) (v0 v3 v89 v90 v91 : AVal) (h : AHeap) : Rs :=
  bndP (pIndexAddr 3 v89 v91) fun v93 =>
  bndP (pLoadN I 3 v93 h) fun v94 =>
  bnd (sAlloc [.nils, (Z 0), (Z 0)] h) fun v7 h1 =>
  bnd (sStore 3 v7 v94 h1) fun _ h2 =>
  bnd (sGuard v3 .true (lift (pFieldAddr 0 v7) h2) h2) fun v97 h3 =>
  bnd (sGuard v3 .true (lift (pLoad1 I v97 h3) h3) h3) fun v98 h4 =>
  bnd (sGuard v3 .true (lift (pLenSl v98) h4) h4) fun v99 h5 =>
  bnd (sGuard v3 .true (lift (pBin .leq v99 (Z 4)) h5) h5) fun v100 h6 =>
  bndP (pPick v3 v100 (.bool .false)) fun v101 =>
  j.1.2.2.1 v0 v101 v89 v90 v91 h6
noncomputable def f89.b8 (I : Inp) (call : CallFn) (j : f89.Js) (v0 v3 v89 v90 v91 : AVal) (h : AHeap) : Rs :=
  bndP (pBin .add v91 (Z 1)) fun v102 =>
  j.1.2.1.2.1 v0 v3 v89 v90 v102 h
noncomputable def f89.b9 (I : Inp) (call : CallFn) (j : f89.Js) (v0 v3 : AVal) (h : AHeap) : Rs :=
  bndP (pNilCheck v0) fun v121 =>
  bndP (pFieldAddr 3 v121) fun v122 =>
  bndP (pLoad1 I v122 h) fun v123 =>
  bndP (pLenSl v123) fun v124 =>
  j.2.1.2.2.1 v0 v3 v123 v124 (Z 0) h
noncomputable def f89.b10 (I : Inp) (call : CallFn) (j : f89.Js) (v0 v3 v106 v107 v108 : AVal) (h : AHeap) : Rs :=
  bndP (pBin .lss v108 v107) fun v109 =>
  sCond v109 (
  j.1.2.2.2.1 v0 v3 h) (
  j.2.1.1.1 v0 v3 v106 v107 v108 h)
noncomputable def f89.b11 (I : Inp) (call : CallFn) (j : f89.Js) (v0 v3 v106 v107 v108 : AVal) (h : AHeap) : Rs :=
  bndP (pIndexAddr 1 v106 v108) fun v110 =>
  bndP (pLoadN I 1 v110 h) fun v111 =>
  bnd (sAlloc [.nils] h) fun v9 h1 =>
  bnd (sStore 1 v9 v111 h1) fun _ h2 =>
  bnd (sGuard v3 .true (lift (pFieldAddr 0 v9) h2) h2) fun v114 h3 =>
  bnd (sGuard v3 .true (lift (pLoad1 I v114 h3) h3) h3) fun v115 h4 =>
  bnd (sGuard v3 .true (lift (pLenSl v115) h4) h4) fun v116 h5 =>
  bnd (sGuard v3 .true (lift (pBin .leq v116 (Z 3)) h5) h5) fun v117 h6 =>
  bndP (pPick v3 v117 (.bool .false)) fun v118 =>
  j.2.1.1.2 v0 v118 v106 v107 v108 h6
noncomputable def f89.b12 (I : Inp) (call : CallFn) (j : f89.Js) (v0 v3 v106 v107 v108 : AVal) (h : AHeap) : Rs :=
  bndP (pBin .add v108 (Z 1)) fun v119 =>
  j.1.2.2.2.2 v0 v3 v106 v107 v119 h
noncomputable def f89.b13 (I : Inp) (call : CallFn) (j : f89.Js) (v0 v3 : AVal) (h : AHeap) : Rs :=
  bndP (pNilCheck v0) fun v138 =>
  bndP (pFieldAddr 4 v138) fun v139 =>
  bndP (pLoad1 I v139 h) fun v140 =>
  bndP (pLenSl v140) fun v141 =>
  j.2.2.1.2.2 v3 (Z 0) (Z 0) v140 v141 (Z 0) h
noncomputable def f89.b14 (I : Inp) (call : CallFn) (j : f89.Js) (v0 v3 v123 v124 v125 : AVal) (h : AHeap) : Rs :=
  bndP (pBin .lss v125 v124) fun v126 =>
  sCond v126 (
  j.2.1.2.1 v0 v3 h) (
  j.2.1.2.2.2 v0 v3 v123 v124 v125 h)
noncomputable def f89.b15 (I : Inp) (call : CallFn) (j : f89.Js) (v0 v3 v123 v124 v125 : AVal) (h : AHeap) : Rs :=
  bndP (pIndexAddr 3 v123 v125) fun v127 =>
  bndP (pLoadN I 3 v127 h) fun v128 =>
  bnd (sAlloc [(Z 0), (Z 0), .nils] h) fun v11 h1 =>
  bnd (sStore 3 v11 v128 h1) fun _ h2 =>
  bnd (sGuard v3 .true (lift (pFieldAddr 2 v11) h2) h2) fun v131 h3 =>
  bnd (sGuard v3 .true (lift (pLoad1 I v131 h3) h3) h3) fun v132 h4 =>
  bnd (sGuard v3 .true (lift (pLenSl v132) h4) h4) fun v133 h5 =>
  bnd (sGuard v3 .true (lift (pBin .leq v133 (Z 3)) h5) h5) fun v134 h6 =>
  bndP (pPick v3 v134 (.bool .false)) fun v135 =>
  j.2.2.1.1 v0 v135 v123 v124 v125 h6
noncomputable def f89.b16 (I : Inp) (call : CallFn) (j : f89.Js) (v0 v3 v123 v124 v125 : AVal) (h : AHeap) : Rs :=
  bndP (pBin .add v125 (Z 1)) fun v136 =>
  j.2.1.2.2.1 v0 v3 v123 v124 v136 h
noncomputable def f89.b17 (I : Inp) (call : CallFn) (j : f89.Js) (v3 v12 v13 : AVal) (h : AHeap) : Rs :=
  bndP (pUn .not v3) fun v164 =>
  bnd (sGuard v164 .false (some (v12, h)) h) fun v166 h1 =>
  bnd (sGuard v164 .false (lift (pBin .gtr v166 (Z 600)) h1) h1) fun v167 h2 =>
  bndP (pPick v164 (.bool .true) v167) fun v168 =>
  bnd (sGuard v168 .false (some (v13, h2)) h2) fun v170 h3 =>
  bnd (sGuard v168 .false (lift (pBin .gtr v170 (Z 40)) h3) h3) fun v171 h4 =>
  bndP (pPick v168 (.bool .true) v171) fun v172 =>
  sCond v172 (
  j.2.2.2.2.2 h4) (
  bnd (call 116 [] h4) fun v173 h5 =>
  some (v173, h5))
noncomputable def f89.b18 (I : Inp) (call : CallFn) (j : f89.Js) (v3 v12 v13 v140 v141 v142 : AVal) (h : AHeap) : Rs :=
  bndP (pBin .lss v142 v141) fun v143 =>
  sCond v143 (
  j.2.2.1.2.1 v3 v12 v13 h) (
  j.2.2.2.1 v3 v12 v13 v140 v141 v142 h)
noncomputable def f89.b19 (I : Inp) (call : CallFn) (j : f89.Js) (v3 v12 v13 v140 v141 v142 : AVal) (h : AHeap) : Rs :=
  bndP (pIndexAddr 3 v140 v142) fun v144 =>
  bndP (pLoadN I 3 v144 h) fun v145 =>
  bnd (sAlloc [(Z 0), .nils, .nils] h) fun v15 h1 =>
  bnd (sStore 3 v15 v145 h1) fun _ h2 =>
  bndP (pLoadN I 3 v15 h2) fun v147 =>
  bnd (call 117 [v147] h2) fun v148 h3 =>
  bndP (pExtract v148 0) fun v149 =>
  bndP (pExtract v148 1) fun v150 =>
  bndP (pExtract v148 2) fun v151 =>
  bnd (sGuard v3 .true (some (v149, h3)) h3) fun v154 h4 =>
  bndP (pPick v3 v154 (.bool .false)) fun v155 =>
  bndP (pBin .add v12 v150) fun v158 =>
  bndP (pBin .add v13 v151) fun v161 =>
  j.2.2.2.2.1 v155 v158 v161 v140 v141 v142 h4
noncomputable def f89.b20 (I : Inp) (call : CallFn) (j : f89.Js) (v3 v12 v13 v140 v141 v142 : AVal) (h : AHeap) : Rs :=
  bndP (pBin .add v142 (Z 1)) fun v162 =>
  j.2.2.1.2.2 v3 v12 v13 v140 v141 v162 h
noncomputable def f89.b21 (I : Inp) (call : CallFn) (j : f89.Js) (h : AHeap) : Rs :=
  some (.nili, h)
noncomputable def f89.e (I : Inp) (call : CallFn) (j : f89.Js) (v0 : AVal) (h : AHeap) : Rs :=
  bndP (pEq P .false .ptr .true v0 .nilp h) fun v20 =>
  bnd (sGuard v20 .false (some (v0, h)) h) fun v22 h1 =>
  bnd (sGuard v20 .false (lift (pNilCheck v22) h1) h1) fun v23 h2 =>
  bnd (sGuard v20 .false (lift (pFieldAddr 0 v23) h2) h2) fun v24 h3 =>
  bnd (sGuard v20 .false (lift (pLoad1 I v24 h3) h3) h3) fun v25 h4 =>
  bnd (sGuard v20 .false (lift (pLenSl v25) h4) h4) fun v26 h5 =>
  bnd (sGuard v20 .false (lift (pBin .gtr v26 (Z 6)) h5) h5) fun v27 h6 =>
  bndP (pPick v20 (.bool .true) v27) fun v28 =>
  bnd (sGuard v28 .false (some (v0, h6)) h6) fun v30 h7 =>
  bnd (sGuard v28 .false (lift (pNilCheck v30) h7) h7) fun v31 h8 =>
  bnd (sGuard v28 .false (lift (pFieldAddr 1 v31) h8) h8) fun v32 h9 =>
  bnd (sGuard v28 .false (lift (pLoad1 I v32 h9) h9) h9) fun v33 h10 =>
  bnd (sGuard v28 .false (lift (pLenSl v33) h10) h10) fun v34 h11 =>
  bnd (sGuard v28 .false (lift (pBin .gtr v34 (Z 10)) h11) h11) fun v35 h12 =>
  bndP (pPick v28 (.bool .true) v35) fun v36 =>
  bnd (sGuard v36 .false (some (v0, h12)) h12) fun v38 h13 =>
  bnd (sGuard v36 .false (lift (pNilCheck v38) h13) h13) fun v39 h14 =>
  bnd (sGuard v36 .false (lift (pFieldAddr 2 v39) h14) h14) fun v40 h15 =>
  bnd (sGuard v36 .false (lift (pLoad1 I v40 h15) h15) h15) fun v41 h16 =>
  bnd (sGuard v36 .false (lift (pLenSl v41) h16) h16) fun v42 h17 =>
  bnd (sGuard v36 .false (lift (pBin .gtr v42 (Z 4)) h17) h17) fun v43 h18 =>
  bndP (pPick v36 (.bool .true) v43) fun v44 =>
  bnd (sGuard v44 .false (some (v0, h18)) h18) fun v46 h19 =>
  bnd (sGuard v44 .false (lift (pNilCheck v46) h19) h19) fun v47 h20 =>
  bnd (sGuard v44 .false (lift (pFieldAddr 3 v47) h20) h20) fun v48 h21 =>
  bnd (sGuard v44 .false (lift (pLoad1 I v48 h21) h21) h21) fun v49 h22 =>
  bnd (sGuard v44 .false (lift (pLenSl v49) h22) h22) fun v50 h23 =>
  bnd (sGuard v44 .false (lift (pBin .gtr v50 (Z 12)) h23) h23) fun v51 h24 =>
  bndP (pPick v44 (.bool .true) v51) fun v52 =>
  bnd (sGuard v52 .false (some (v0, h24)) h24) fun v54 h25 =>
  bnd (sGuard v52 .false (lift (pNilCheck v54) h25) h25) fun v55 h26 =>
  bnd (sGuard v52 .false (lift (pFieldAddr 4 v55) h26) h26) fun v56 h27 =>
  bnd (sGuard v52 .false (lift (pLoad1 I v56 h27) h27) h27) fun v57 h28 =>
  bnd (sGuard v52 .false (lift (pLenSl v57) h28) h28) fun v58 h29 =>
  bnd (sGuard v52 .false (lift (pBin .gtr v58 (Z 12)) h29) h29) fun v59 h30 =>
  bndP (pPick v52 (.bool .true) v59) fun v60 =>
  bnd (sGuard v60 .false (some (v0, h30)) h30) fun v62 h31 =>
  bnd (sGuard v60 .false (lift (pNilCheck v62) h31) h31) fun v63 h32 =>
  bnd (sGuard v60 .false (lift (pFieldAddr 4 v63) h32) h32) fun v64 h33 =>
  bnd (sGuard v60 .false (lift (pLoad1 I v64 h33) h33) h33) fun v65 h34 =>
  bnd (sGuard v60 .false (lift (pLenSl v65) h34) h34) fun v66 h35 =>
  bnd (sGuard v60 .false (lift (pBin .eql v66 (Z 0)) h35) h35) fun v67 h36 =>
  bndP (pPick v60 (.bool .true) v67) fun v68 =>
  sCond v68 (
  j.1.1.1.1 v0 h36) (
  bnd (call 116 [] h36) fun v69 h37 =>
  some (v69, h37))
noncomputable def f89.J (I : Inp) (call : CallFn) (n : Nat) : f89.Js :=
  Nat.rec (motive := fun _ => f89.Js) (((((fun _ _ => none), (fun _ _ _ => none)), ((fun _ _ _ _ _ _ => none), ((fun _ _ _ _ _ _ => none), (fun _ _ _ _ _ _ => none)))), (((fun _ _ _ => none), ((fun _ _ _ _ _ _ => none), (fun _ _ _ _ _ _ => none))), ((fun _ _ _ _ _ _ => none), ((fun _ _ _ => none), (fun _ _ _ _ _ _ => none))))), ((((fun _ _ _ _ _ _ => none), (fun _ _ _ _ _ _ => none)), ((fun _ _ _ => none), ((fun _ _ _ _ _ _ => none), (fun _ _ _ _ _ _ => none)))), (((fun _ _ _ _ _ _ => none), ((fun _ _ _ _ => none), (fun _ _ _ _ _ _ _ => none))), ((fun _ _ _ _ _ _ _ => none), ((fun _ _ _ _ _ _ _ => none), (fun _ => none)))))) (fun _ ih => ((((f89.b0 I call ih, f89.b1 I call ih), (f89.b2 I call ih, (f89.b3 I call ih, f89.b4 I call ih))), ((f89.b5 I call ih, (f89.b6 I call ih, f89.b7 I call ih)), (f89.b8 I call ih, (f89.b9 I call ih, f89.b10 I call ih)))), (((f89.b11 I call ih, f89.b12 I call ih), (f89.b13 I call ih, (f89.b14 I call ih, f89.b15 I call ih))), ((f89.b16 I call ih, (f89.b17 I call ih, f89.b18 I call ih)), (f89.b19 I call ih, (f89.b20 I call ih, f89.b21 I call ih)))))) n
noncomputable def f89.JS (I : Inp) (call : CallFn) (n : Nat) : Jmp := fun id ρ h =>
  (Bool.rec (motive := fun _ => _) (Bool.rec (motive := fun _ => _) (Bool.rec (motive := fun _ => _) (Bool.rec (motive := fun _ => _) (Bool.rec (motive := fun _ => _) ((f89.J I call n).2.2.2.2.2 h) ((f89.J I call n).2.2.2.2.1 (ρ 3) (ρ 12) (ρ 13) (ρ 140) (ρ 141) (ρ 142) h) (Nat.blt id 21)) ((f89.J I call n).2.2.2.1 (ρ 3) (ρ 12) (ρ 13) (ρ 140) (ρ 141) (ρ 142) h) (Nat.blt id 20)) (Bool.rec (motive := fun _ => _) (Bool.rec (motive := fun _ => _) ((f89.J I call n).2.2.1.2.2 (ρ 3) (ρ 12) (ρ 13) (ρ 140) (ρ 141) (ρ 142) h) ((f89.J I call n).2.2.1.2.1 (ρ 3) (ρ 12) (ρ 13) h) (Nat.blt id 18)) ((f89.J I call n).2.2.1.1 (ρ 0) (ρ 3) (ρ 123) (ρ 124) (ρ 125) h) (Nat.blt id 17)) (Nat.blt id 19)) (Bool.rec (motive := fun _ => _) (Bool.rec (motive := fun _ => _) (Bool.rec (motive := fun _ => _) ((f89.J I call n).2.1.2.2.2 (ρ 0) (ρ 3) (ρ 123) (ρ 124) (ρ 125) h) ((f89.J I call n).2.1.2.2.1 (ρ 0) (ρ 3) (ρ 123) (ρ 124) (ρ 125) h) (Nat.blt id 15)) ((f89.J I call n).2.1.2.1 (ρ 0) (ρ 3) h) (Nat.blt id 14)) (Bool.rec (motive := fun _ => _) ((f89.J I call n).2.1.1.2 (ρ 0) (ρ 3) (ρ 106) (ρ 107) (ρ 108) h) ((f89.J I call n).2.1.1.1 (ρ 0) (ρ 3) (ρ 106) (ρ 107) (ρ 108) h) (Nat.blt id 12)) (Nat.blt id 13)) (Nat.blt id 16)) (Bool.rec (motive := fun _ => _) (Bool.rec (motive := fun _ => _) (Bool.rec (motive := fun _ => _) (Bool.rec (motive := fun _ => _) ((f89.J I call n).1.2.2.2.2 (ρ 0) (ρ 3) (ρ 106) (ρ 107) (ρ 108) h) ((f89.J I call n).1.2.2.2.1 (ρ 0) (ρ 3) h) (Nat.blt id 10)) ((f89.J I call n).1.2.2.1 (ρ 0) (ρ 3) (ρ 89) (ρ 90) (ρ 91) h) (Nat.blt id 9)) (Bool.rec (motive := fun _ => _) (Bool.rec (motive := fun _ => _) ((f89.J I call n).1.2.1.2.2 (ρ 0) (ρ 3) (ρ 89) (ρ 90) (ρ 91) h) ((f89.J I call n).1.2.1.2.1 (ρ 0) (ρ 3) (ρ 89) (ρ 90) (ρ 91) h) (Nat.blt id 7)) ((f89.J I call n).1.2.1.1 (ρ 0) (ρ 3) h) (Nat.blt id 6)) (Nat.blt id 8)) (Bool.rec (motive := fun _ => _) (Bool.rec (motive := fun _ => _) (Bool.rec (motive := fun _ => _) ((f89.J I call n).1.1.2.2.2 (ρ 0) (ρ 3) (ρ 73) (ρ 74) (ρ 75) h) ((f89.J I call n).1.1.2.2.1 (ρ 0) (ρ 3) (ρ 73) (ρ 74) (ρ 75) h) (Nat.blt id 4)) ((f89.J I call n).1.1.2.1 (ρ 0) (ρ 3) (ρ 73) (ρ 74) (ρ 75) h) (Nat.blt id 3)) (Bool.rec (motive := fun _ => _) ((f89.J I call n).1.1.1.2 (ρ 0) (ρ 3) h) ((f89.J I call n).1.1.1.1 (ρ 0) h) (Nat.blt id 1)) (Nat.blt id 2)) (Nat.blt id 5)) (Nat.blt id 11))
theorem f89.q0 (I : Inp) (call : CallFn) (n : Nat) (ρ : Fun) (h : AHeap) : f89.JS I call (n + 1) 0 ρ h = labC P I call (f89.JS I call n) c89.body 0 (finV I c89.results) 0 ρ h := by kernel_rfl
theorem f89.q1 (I : Inp) (call : CallFn) (n : Nat) (ρ : Fun) (h : AHeap) : f89.JS I call (n + 1) 1 ρ h = labC P I call (f89.JS I call n) c89.body 0 (finV I c89.results) 1 ρ h := by kernel_rfl
theorem f89.q2 (I : Inp) (call : CallFn) (n : Nat) (ρ : Fun) (h : AHeap) : f89.JS I call (n + 1) 2 ρ h = labC P I call (f89.JS I call n) c89.body 0 (finV I c89.results) 2 ρ h := by kernel_rfl
theorem f89.q3 (I : Inp) (call : CallFn) (n : Nat) (ρ : Fun) (h : AHeap) : f89.JS I call (n + 1) 3 ρ h = labC P I call (f89.JS I call n) c89.body 0 (finV I c89.results) 3 ρ h := by kernel_rfl
theorem f89.q4 (I : Inp) (call : CallFn) (n : Nat) (ρ : Fun) (h : AHeap) : f89.JS I call (n + 1) 4 ρ h = labC P I call (f89.JS I call n) c89.body 0 (finV I c89.results) 4 ρ h := by kernel_rfl
theorem f89.q5 (I : Inp) (call : CallFn) (n : Nat) (ρ : Fun) (h : AHeap) : f89.JS I call (n + 1) 5 ρ h = labC P I call (f89.JS I call n) c89.body 0 (finV I c89.results) 5 ρ h := by kernel_rfl
theorem f89.q6 (I : Inp) (call : CallFn) (n : Nat) (ρ : Fun) (h : AHeap) : f89.JS I call (n + 1) 6 ρ h = labC P I call (f89.JS I call n) c89.body 0 (finV I c89.results) 6 ρ h := by kernel_rfl
theorem f89.q7 (I : Inp) (call : CallFn) (n : Nat) (ρ : Fun) (h : AHeap) : f89.JS I call (n + 1) 7 ρ h = labC P I call (f89.JS I call n) c89.body 0 (finV I c89.results) 7 ρ h := by kernel_rfl
theorem f89.q8 (I : Inp) (call : CallFn) (n : Nat) (ρ : Fun) (h : AHeap) : f89.JS I call (n + 1) 8 ρ h = labC P I call (f89.JS I call n) c89.body 0 (finV I c89.results) 8 ρ h := by kernel_rfl
theorem f89.q9 (I : Inp) (call : CallFn) (n : Nat) (ρ : Fun) (h : AHeap) : f89.JS I call (n + 1) 9 ρ h = labC P I call (f89.JS I call n) c89.body 0 (finV I c89.results) 9 ρ h := by kernel_rfl
theorem f89.q10 (I : Inp) (call : CallFn) (n : Nat) (ρ : Fun) (h : AHeap) : f89.JS I call (n + 1) 10 ρ h = labC P I call (f89.JS I call n) c89.body 0 (finV I c89.results) 10 ρ h := by kernel_rfl
theorem f89.q11 (I : Inp) (call : CallFn) (n : Nat) (ρ : Fun) (h : AHeap) : f89.JS I call (n + 1) 11 ρ h = labC P I call (f89.JS I call n) c89.body 0 (finV I c89.results) 11 ρ h := by kernel_rfl
theorem f89.q12 (I : Inp) (call : CallFn) (n : Nat) (ρ : Fun) (h : AHeap) : f89.JS I call (n + 1) 12 ρ h = labC P I call (f89.JS I call n) c89.body 0 (finV I c89.results) 12 ρ h := by kernel_rfl
theorem f89.q13 (I : Inp) (call : CallFn) (n : Nat) (ρ : Fun) (h : AHeap) : f89.JS I call (n + 1) 13 ρ h = labC P I call (f89.JS I call n) c89.body 0 (finV I c89.results) 13 ρ h := by kernel_rfl
theorem f89.q14 (I : Inp) (call : CallFn) (n : Nat) (ρ : Fun) (h : AHeap) : f89.JS I call (n + 1) 14 ρ h = labC P I call (f89.JS I call n) c89.body 0 (finV I c89.results) 14 ρ h := by kernel_rfl
theorem f89.q15 (I : Inp) (call : CallFn) (n : Nat) (ρ : Fun) (h : AHeap) : f89.JS I call (n + 1) 15 ρ h = labC P I call (f89.JS I call n) c89.body 0 (finV I c89.results) 15 ρ h := by kernel_rfl
theorem f89.q16 (I : Inp) (call : CallFn) (n : Nat) (ρ : Fun) (h : AHeap) : f89.JS I call (n + 1) 16 ρ h = labC P I call (f89.JS I call n) c89.body 0 (finV I c89.results) 16 ρ h := by kernel_rfl
theorem f89.q17 (I : Inp) (call : CallFn) (n : Nat) (ρ : Fun) (h : AHeap) : f89.JS I call (n + 1) 17 ρ h = labC P I call (f89.JS I call n) c89.body 0 (finV I c89.results) 17 ρ h := by kernel_rfl
theorem f89.q18 (I : Inp) (call : CallFn) (n : Nat) (ρ : Fun) (h : AHeap) : f89.JS I call (n + 1) 18 ρ h = labC P I call (f89.JS I call n) c89.body 0 (finV I c89.results) 18 ρ h := by kernel_rfl
theorem f89.q19 (I : Inp) (call : CallFn) (n : Nat) (ρ : Fun) (h : AHeap) : f89.JS I call (n + 1) 19 ρ h = labC P I call (f89.JS I call n) c89.body 0 (finV I c89.results) 19 ρ h := by kernel_rfl
theorem f89.q20 (I : Inp) (call : CallFn) (n : Nat) (ρ : Fun) (h : AHeap) : f89.JS I call (n + 1) 20 ρ h = labC P I call (f89.JS I call n) c89.body 0 (finV I c89.results) 20 ρ h := by kernel_rfl
theorem f89.q21 (I : Inp) (call : CallFn) (n : Nat) (ρ : Fun) (h : AHeap) : f89.JS I call (n + 1) 21 ρ h = labC P I call (f89.JS I call n) c89.body 0 (finV I c89.results) 21 ρ h := by kernel_rfl
theorem f89.S (I : Inp) (F : Nat → Option AFn) (call : CallFn) : SFn ⟨P, I, F⟩ call c89 (f89.JS I call) :=
  ⟨fun id hid ρ h => by
    have hc : c89.body.cnt = 22 := by kernel_rfl
    rw [hc] at hid
    exact match id, hid with
    | 0, _ => rfl
    | 1, _ => rfl
    | 2, _ => rfl
    | 3, _ => rfl
    | 4, _ => rfl
    | 5, _ => rfl
    | 6, _ => rfl
    | 7, _ => rfl
    | 8, _ => rfl
    | 9, _ => rfl
    | 10, _ => rfl
    | 11, _ => rfl
    | 12, _ => rfl
    | 13, _ => rfl
    | 14, _ => rfl
    | 15, _ => rfl
    | 16, _ => rfl
    | 17, _ => rfl
    | 18, _ => rfl
    | 19, _ => rfl
    | 20, _ => rfl
    | 21, _ => rfl
    | id + 22, hid => absurd hid (by omega), fun n id hid ρ h => by
    have hc : c89.body.cnt = 22 := by kernel_rfl
    rw [hc] at hid
    exact match id, hid with
    | 0, _ => f89.q0 I call n ρ h
    | 1, _ => f89.q1 I call n ρ h
    | 2, _ => f89.q2 I call n ρ h
    | 3, _ => f89.q3 I call n ρ h
    | 4, _ => f89.q4 I call n ρ h
    | 5, _ => f89.q5 I call n ρ h
    | 6, _ => f89.q6 I call n ρ h
    | 7, _ => f89.q7 I call n ρ h
    | 8, _ => f89.q8 I call n ρ h
    | 9, _ => f89.q9 I call n ρ h
    | 10, _ => f89.q10 I call n ρ h
    | 11, _ => f89.q11 I call n ρ h
    | 12, _ => f89.q12 I call n ρ h
    | 13, _ => f89.q13 I call n ρ h
    | 14, _ => f89.q14 I call n ρ h
    | 15, _ => f89.q15 I call n ρ h
    | 16, _ => f89.q16 I call n ρ h
    | 17, _ => f89.q17 I call n ρ h
    | 18, _ => f89.q18 I call n ρ h
    | 19, _ => f89.q19 I call n ρ h
    | 20, _ => f89.q20 I call n ρ h
    | 21, _ => f89.q21 I call n ρ h
    | id + 22, hid => absurd hid (by omega)⟩
noncomputable def f89.run (I : Inp) : SF := fun call n a h =>
  match a with
  | [v0] => f89.e I call (f89.J I call n) v0 h
  | _ => none
theorem f89.qe (I : Inp) (call : CallFn) (n : Nat) (v0 : AVal) (h : AHeap) : f89.e I call (f89.J I call n) v0 h = execC P I call (f89.JS I call n) c89.body 0 (finV I c89.results) (argV [v0]) h := by kernel_rfl
theorem f89.code : codeOf P 89 = some c89 := by kernel_rfl
theorem f89.ok (I : Inp) (F : Nat → Option AFn) (hF : F 89 = some (.code c89)) : SfOk P I F 89 (f89.run I) := by
  intro call hc n args h r hr
  unfold f89.run at hr
  split at hr
  · exact fn_sound (C := ⟨P, I, F⟩) (n := n) hc hF (Nat.le_of_ble_eq_true (by kernel_rfl)) (by kernel_rfl) (f89.S I F call) (by kernel_rfl) ((f89.qe I call n _ h).symm.trans hr)
  · cases hr
/-! haruspex/types.Names -/
noncomputable def c90 : AFunc := (AFunc.mk 61 1 [(.tmp 2)] (.seq (.region [(S 1 (.box (T 0)) .none), (S 2 (.move (.val .nili)) .none)]) (.seq (.region [(S 7 (.call 66 []) .none), (S 8 (.call 67 [(V 3), (T 7), (.val .nili)]) .none), (M 3 8)]) (.seq (.seq (.region [(L1 9 1), (S 10 (.call 118 [(T 9)]) .none), (S 11 (.un .not (T 10)) .none)]) (.cond (T 11) (.seq (.region [(M 12 3), (M 2 12)]) .ret) .skip)) (.seq (.seq (.region [(L1 13 1), (NC 14 13), (FA 15 4 14), (L1 16 15), (S 17 (.lenSl (T 16)) .none), (S 18 (.move (V 0)) .none)]) (.block 0 (.loop (.seq (.region [(S 19 (.bin .lss (T 18) (T 17)) .none)]) (.seq (.cond (T 19) .skip (.exit 0)) (.seq (.block 1 (.seq (.region [(M 20 18), (S 21 (.indexAddr 3 (T 16) (T 18)) .none), (S 22 (.loadN 3 (T 21)) .none), (S 5 (.alloc [(Z 0), .nils, .nils]) .none), (M 4 20), (AOper.mk .none (.store 3 (T 5) (T 22)) .none)]) (.seq (.seq (.draw [(FA 23 0 5), (L1 24 23), (L1 25 1), (NC 26 25), (FA 27 1 26), (L1 28 27), (S 29 (.lenSl (T 28)) .none), (S 30 (.call 119 [(T 24), (T 29)]) .none), (S 31 (.un .not (T 30)) .none), (M 32 31), (S 33 (.load1 (T 1)) (.some (32, .false))), (S 34 (.fieldAddr 1 (T 5)) (.some (32, .false))), (S 35 (.load1 (T 34)) (.some (32, .false))), (S 36 (.call 120 [(T 33), (T 35)]) (.some (32, .false))), (S 37 (.un .not (T 36)) (.some (32, .false))), (S 38 (.pick (T 32) (.val (.bool .true)) (T 37)) .none)] [N, N, N, N, N, N, N, Y, N, N, N, N, N, Y, N, N] 0) (.cond (T 38) (.seq (.region [(M 39 3), (M 2 39)]) .ret) .skip)) (.seq (.region [(L1 40 1), (M 41 4), (S 42 (.mkFunc (.func 122) [] [(T 1), (T 5)]) .none), (S 43 (.mkFunc (.func 124) [] [(T 5)]) .none), (S 44 (.call 121 [(T 40), (V 3), (T 41), (T 42), (T 43)]) .none), (M 6 44)]) (.seq (.region [(M 45 6), (S 46 (.eq .true .iface .true (T 45) (.val .nili)) .none)]) (.cond (T 46) (.seq (.region [(M 47 6), (M 2 47)]) .ret) .skip)))))) (.region [(S 48 (.bin .add (T 18) (V 1)) .none), (M 18 48)]))))))) (.seq (.seq (.draw [(L1 49 1), (NC 50 49), (FA 51 5 50), (L1 52 51), (L1 53 1), (NC 54 53), (FA 55 4 54), (L1 56 55), (S 57 (.lenSl (T 56)) .none), (S 58 (.call 119 [(T 52), (T 57)]) .none), (S 59 (.un .not (T 58)) .none)] [N, N, N, N, N, N, N, N, N, Y, N] 0) (.cond (T 59) (.seq (.region [(M 60 3), (M 2 60)]) .ret) .skip)) (.seq (.region [(S 2 (.move (.val .nili)) .none)]) .ret)))))))
abbrev f90.Js : Type := (((AVal → AVal → AHeap → Rs) × ((AVal → AVal → AHeap → Rs) × (AVal → AVal → AVal → AVal → AVal → AHeap → Rs))) × (((AVal → AVal → AVal → AVal → AVal → AHeap → Rs) × (AVal → AVal → AVal → AVal → AVal → AHeap → Rs)) × ((AVal → AVal → AVal → AVal → AVal → AVal → AVal → AHeap → Rs) × (AHeap → Rs))))
noncomputable def f90.b0 (I : Inp) (call : CallFn) (j : f90.Js) (v1 v3 : AVal) (h : AHeap) : Rs :=
  bndP (pLoad1 I v1 h) fun v13 =>
  bndP (pNilCheck v13) fun v14 =>
  bndP (pFieldAddr 4 v14) fun v15 =>
  bndP (pLoad1 I v15 h) fun v16 =>
  bndP (pLenSl v16) fun v17 =>
  j.1.2.2 v1 v3 v16 v17 (Z 0) h
noncomputable def f90.b1 (I : Inp) (call : CallFn) (j : f90.Js) (v1 v3 : AVal) (h : AHeap) : Rs :=
  bndP (pLoad1 I v1 h) fun v49 =>
  bndP (pNilCheck v49) fun v50 =>
  bndP (pFieldAddr 5 v50) fun v51 =>
  bndP (pLoad1 I v51 h) fun v52 =>
  bndP (pLoad1 I v1 h) fun v53 =>
  bndP (pNilCheck v53) fun v54 =>
  bndP (pFieldAddr 4 v54) fun v55 =>
  bndP (pLoad1 I v55 h) fun v56 =>
  bndP (pLenSl v56) fun v57 =>
  bnd (call 119 [v52, v57] h) fun v58 h1 =>
  bndP (pUn .not v58) fun v59 =>
  sCond v59 (
  j.2.2.2 h1) (
  some (v3, h1))
noncomputable def f90.b2 (I : Inp) (call : CallFn) (j : f90.Js) (v1 v3 v16 v17 v18 : AVal) (h : AHeap) : Rs :=
  bndP (pBin .lss v18 v17) fun v19 =>
  sCond v19 (
  j.1.2.1 v1 v3 h) (
  j.2.1.1 v1 v3 v16 v17 v18 h)
noncomputable def f90.b3 (I : Inp) (call : CallFn) (j : f90.Js) (v1 v3 v16 v17 v18 : AVal) (h : AHeap) : Rs :=
  bndP (pIndexAddr 3 v16 v18) fun v21 =>
  bndP (pLoadN I 3 v21 h) fun v22 =>
  bnd (sAlloc [(Z 0), .nils, .nils] h) fun v5 h1 =>
  bnd (sStore 3 v5 v22 h1) fun _ h2 =>
  bndP (pFieldAddr 0 v5) fun v23 =>
  bndP (pLoad1 I v23 h2) fun v24 =>
  bndP (pLoad1 I v1 h2) fun v25 =>
  bndP (pNilCheck v25) fun v26 =>
  bndP (pFieldAddr 1 v26) fun v27 =>
  bndP (pLoad1 I v27 h2) fun v28 =>
  bndP (pLenSl v28) fun v29 =>
  bnd (call 119 [v24, v29] h2) fun v30 h3 =>
  bndP (pUn .not v30) fun v31 =>
  bnd (sGuard v31 .false (lift (pLoad1 I v1 h3) h3) h3) fun v33 h4 =>
  bnd (sGuard v31 .false (lift (pFieldAddr 1 v5) h4) h4) fun v34 h5 =>
  bnd (sGuard v31 .false (lift (pLoad1 I v34 h5) h5) h5) fun v35 h6 =>
  bnd (sGuard v31 .false (call 120 [v33, v35] h6) h6) fun v36 h7 =>
  bnd (sGuard v31 .false (lift (pUn .not v36) h7) h7) fun v37 h8 =>
  bndP (pPick v31 (.bool .true) v37) fun v38 =>
  sCond v38 (
  j.2.2.1 v1 v3 v18 v5 v16 v17 v18 h8) (
  some (v3, h8))
noncomputable def f90.b4 (I : Inp) (call : CallFn) (j : f90.Js) (v1 v3 v16 v17 v18 : AVal) (h : AHeap) : Rs :=
  bndP (pBin .add v18 (Z 1)) fun v48 =>
  j.1.2.2 v1 v3 v16 v17 v48 h
noncomputable def f90.b5 (I : Inp) (call : CallFn) (j : f90.Js) (v1 v3 v4 v5 v16 v17 v18 : AVal) (h : AHeap) : Rs :=
  bndP (pLoad1 I v1 h) fun v40 =>
  bnd (call 121 [v40, (Z 3), v4, (.func (.func 122) [] [v1, v5]), (.func (.func 124) [] [v5])] h) fun v44 h1 =>
  bndP (pEq P .true .iface .true v44 .nili h1) fun v46 =>
  sCond v46 (
  j.2.1.2 v1 v3 v16 v17 v18 h1) (
  some (v44, h1))
noncomputable def f90.b6 (I : Inp) (call : CallFn) (j : f90.Js) (h : AHeap) : Rs :=
  some (.nili, h)
noncomputable def f90.e (I : Inp) (call : CallFn) (j : f90.Js) (v0 : AVal) (h : AHeap) : Rs :=
  bnd (sBox v0 h) fun v1 h1 =>
  bnd (call 66 [] h1) fun v7 h2 =>
  bnd (call 67 [(Z 3), v7, .nili] h2) fun v8 h3 =>
  bndP (pLoad1 I v1 h3) fun v9 =>
  bnd (call 118 [v9] h3) fun v10 h4 =>
  bndP (pUn .not v10) fun v11 =>
  sCond v11 (
  j.1.1 v1 v8 h4) (
  some (v8, h4))
noncomputable def f90.J (I : Inp) (call : CallFn) (n : Nat) : f90.Js :=
  Nat.rec (motive := fun _ => f90.Js) (((fun _ _ _ => none), ((fun _ _ _ => none), (fun _ _ _ _ _ _ => none))), (((fun _ _ _ _ _ _ => none), (fun _ _ _ _ _ _ => none)), ((fun _ _ _ _ _ _ _ _ => none), (fun _ => none)))) (fun _ ih => ((f90.b0 I call ih, (f90.b1 I call ih, f90.b2 I call ih)), ((f90.b3 I call ih, f90.b4 I call ih), (f90.b5 I call ih, f90.b6 I call ih)))) n
noncomputable def f90.JS (I : Inp) (call : CallFn) (n : Nat) : Jmp := fun id ρ h =>
  (Bool.rec (motive := fun _ => _) (Bool.rec (motive := fun _ => _) (Bool.rec (motive := fun _ => _) ((f90.J I call n).2.2.2 h) ((f90.J I call n).2.2.1 (ρ 1) (ρ 3) (ρ 4) (ρ 5) (ρ 16) (ρ 17) (ρ 18) h) (Nat.blt id 6)) (Bool.rec (motive := fun _ => _) ((f90.J I call n).2.1.2 (ρ 1) (ρ 3) (ρ 16) (ρ 17) (ρ 18) h) ((f90.J I call n).2.1.1 (ρ 1) (ρ 3) (ρ 16) (ρ 17) (ρ 18) h) (Nat.blt id 4)) (Nat.blt id 5)) (Bool.rec (motive := fun _ => _) (Bool.rec (motive := fun _ => _) ((f90.J I call n).1.2.2 (ρ 1) (ρ 3) (ρ 16) (ρ 17) (ρ 18) h) ((f90.J I call n).1.2.1 (ρ 1) (ρ 3) h) (Nat.blt id 2)) ((f90.J I call n).1.1 (ρ 1) (ρ 3) h) (Nat.blt id 1)) (Nat.blt id 3))
theorem f90.q0 (I : Inp) (call : CallFn) (n : Nat) (ρ : Fun) (h : AHeap) : f90.JS I call (n + 1) 0 ρ h = labC P I call (f90.JS I call n) c90.body 0 (finV I c90.results) 0 ρ h := by kernel_rfl
theorem f90.q1 (I : Inp) (call : CallFn) (n : Nat) (ρ : Fun) (h : AHeap) : f90.JS I call (n + 1) 1 ρ h = labC P I call (f90.JS I call n) c90.body 0 (finV I c90.results) 1 ρ h := by kernel_rfl
theorem f90.q2 (I : Inp) (call : CallFn) (n : Nat) (ρ : Fun) (h : AHeap) : f90.JS I call (n + 1) 2 ρ h = labC P I call (f90.JS I call n) c90.body 0 (finV I c90.results) 2 ρ h := by kernel_rfl
theorem f90.q3 (I : Inp) (call : CallFn) (n : Nat) (ρ : Fun) (h : AHeap) : f90.JS I call (n + 1) 3 ρ h = labC P I call (f90.JS I call n) c90.body 0 (finV I c90.results) 3 ρ h := by kernel_rfl
theorem f90.q4 (I : Inp) (call : CallFn) (n : Nat) (ρ : Fun) (h : AHeap) : f90.JS I call (n + 1) 4 ρ h = labC P I call (f90.JS I call n) c90.body 0 (finV I c90.results) 4 ρ h := by kernel_rfl
theorem f90.q5 (I : Inp) (call : CallFn) (n : Nat) (ρ : Fun) (h : AHeap) : f90.JS I call (n + 1) 5 ρ h = labC P I call (f90.JS I call n) c90.body 0 (finV I c90.results) 5 ρ h := by kernel_rfl
theorem f90.q6 (I : Inp) (call : CallFn) (n : Nat) (ρ : Fun) (h : AHeap) : f90.JS I call (n + 1) 6 ρ h = labC P I call (f90.JS I call n) c90.body 0 (finV I c90.results) 6 ρ h := by kernel_rfl
theorem f90.S (I : Inp) (F : Nat → Option AFn) (call : CallFn) : SFn ⟨P, I, F⟩ call c90 (f90.JS I call) :=
  ⟨fun id hid ρ h => by
    have hc : c90.body.cnt = 7 := by kernel_rfl
    rw [hc] at hid
    exact match id, hid with
    | 0, _ => rfl
    | 1, _ => rfl
    | 2, _ => rfl
    | 3, _ => rfl
    | 4, _ => rfl
    | 5, _ => rfl
    | 6, _ => rfl
    | id + 7, hid => absurd hid (by omega), fun n id hid ρ h => by
    have hc : c90.body.cnt = 7 := by kernel_rfl
    rw [hc] at hid
    exact match id, hid with
    | 0, _ => f90.q0 I call n ρ h
    | 1, _ => f90.q1 I call n ρ h
    | 2, _ => f90.q2 I call n ρ h
    | 3, _ => f90.q3 I call n ρ h
    | 4, _ => f90.q4 I call n ρ h
    | 5, _ => f90.q5 I call n ρ h
    | 6, _ => f90.q6 I call n ρ h
    | id + 7, hid => absurd hid (by omega)⟩
noncomputable def f90.run (I : Inp) : SF := fun call n a h =>
  match a with
  | [v0] => f90.e I call (f90.J I call n) v0 h
  | _ => none
theorem f90.qe (I : Inp) (call : CallFn) (n : Nat) (v0 : AVal) (h : AHeap) : f90.e I call (f90.J I call n) v0 h = execC P I call (f90.JS I call n) c90.body 0 (finV I c90.results) (argV [v0]) h := by kernel_rfl
theorem f90.code : codeOf P 90 = some c90 := by kernel_rfl
theorem f90.ok (I : Inp) (F : Nat → Option AFn) (hF : F 90 = some (.code c90)) : SfOk P I F 90 (f90.run I) := by
  intro call hc n args h r hr
  unfold f90.run at hr
  split at hr
  · exact fn_sound (C := ⟨P, I, F⟩) (n := n) hc hF (Nat.le_of_ble_eq_true (by kernel_rfl)) (by kernel_rfl) (f90.S I F call) (by kernel_rfl) ((f90.qe I call n _ h).symm.trans hr)
  · cases hr
/-! haruspex/wf.Methods -/
noncomputable def c91 : AFunc := (AFunc.mk 74 1 [(.tmp 2)] (.seq (.region [(S 2 (.move (.val .nili)) .none)]) (.seq (.seq (.region [(M 8 0), (NC 9 8), (FA 10 3 9), (L1 11 10), (S 12 (.lenSl (T 11)) .none), (S 13 (.move (V 0)) .none)]) (.block 0 (.loop (.seq (.region [(S 14 (.bin .lss (T 13) (T 12)) .none)]) (.seq (.cond (T 14) .skip (.exit 0)) (.seq (.block 1 (.seq (.region [(M 15 13), (S 16 (.indexAddr 3 (T 11) (T 13)) .none), (S 17 (.loadN 3 (T 16)) .none), (S 4 (.alloc [(Z 0), (Z 0), .nils]) .none), (M 3 15), (AOper.mk .none (.store 3 (T 4) (T 17)) .none)]) (.seq (.draw [(M 18 0), (NC 19 18), (FA 20 2 19), (L1 21 20), (FA 22 1 4), (L1 23 22), (S 24 (.indexAddr 1 (T 21) (T 23)) .none), (FA 25 0 24), (L1 26 25), (M 5 26)] [N, N, N, N, N, N, N, N, N, N] 0) (.seq (.region [(FA 27 2 4), (L1 28 27), (S 29 (.lenSl (T 28)) .none), (M 30 5), (S 31 (.lenSl (T 30)) .none), (S 32 (.bin .eql (T 29) (T 31)) .none), (M 33 32), (S 34 (.move (T 0)) (.some (33, .true))), (S 35 (.fieldAddr 0 (T 4)) (.some (33, .true))), (S 36 (.load1 (T 35)) (.some (33, .true))), (S 37 (.fieldAddr 1 (T 4)) (.some (33, .true))), (S 38 (.load1 (T 37)) (.some (33, .true))), (S 39 (.call 126 [(T 34), (T 36), (T 38)]) (.some (33, .true))), (S 40 (.move (T 3)) (.some (33, .true))), (S 41 (.bin .eql (T 39) (T 40)) (.some (33, .true))), (S 42 (.pick (T 33) (T 41) (.val (.bool .false))) .none), (M 6 42)]) (.seq (.seq (.region [(FA 43 2 4), (L1 44 43), (S 45 (.lenSl (T 44)) .none), (M 46 5), (S 47 (.lenSl (T 46)) .none), (S 48 (.minmax .false [(T 45), (T 47)]) .none), (S 49 (.move (V 0)) .none)]) (.block 2 (.loop (.seq (.region [(S 50 (.bin .lss (T 49) (T 48)) .none)]) (.seq (.cond (T 50) .skip (.exit 2)) (.seq (.block 3 (.seq (.region [(M 51 49), (M 7 51)]) (.draw [(M 52 6), (M 53 52), (S 54 (.move (T 0)) (.some (53, .true))), (S 55 (.fieldAddr 0 (T 4)) (.some (53, .true))), (S 56 (.load1 (T 55)) (.some (53, .true))), (S 57 (.fieldAddr 2 (T 4)) (.some (53, .true))), (S 58 (.load1 (T 57)) (.some (53, .true))), (S 59 (.move (T 7)) (.some (53, .true))), (S 60 (.indexAddr 1 (T 58) (T 59)) (.some (53, .true))), (S 61 (.load1 (T 60)) (.some (53, .true))), (S 62 (.move (T 5)) (.some (53, .true))), (S 63 (.move (T 7)) (.some (53, .true))), (S 64 (.indexAddr 1 (T 62) (T 63)) (.some (53, .true))), (S 65 (.load1 (T 64)) (.some (53, .true))), (S 66 (.call 127 [(T 54), (T 56), (T 61), (T 65)]) (.some (53, .true))), (S 67 (.pick (T 53) (T 66) (.val (.bool .false))) .none), (M 6 67)] [N, N, N, N, N, N, N, N, N, N, N, N, N, N, Y, N, N] 0))) (.region [(S 68 (.bin .add (T 49) (V 1)) .none), (M 49 68)]))))))) (.seq (.region [(M 69 6), (S 70 (.un .not (T 69)) .none)]) (.cond (T 70) (.seq (.region [(S 71 (.call 66 []) .none), (S 72 (.call 67 [(V 7), (T 71), (.val .nili)]) .none), (M 2 72)]) .ret) .skip))))))) (.region [(S 73 (.bin .add (T 13) (V 1)) .none), (M 13 73)]))))))) (.seq (.region [(S 2 (.move (.val .nili)) .none)]) .ret))))
abbrev f91.Js : Type := ((((AHeap → Rs) × (AVal → AVal → AVal → AVal → AHeap → Rs)) × ((AVal → AVal → AVal → AVal → AHeap → Rs) × (AVal → AVal → AVal → AVal → AHeap → Rs))) × (((AVal → AVal → AVal → AVal → AVal → AHeap → Rs) × (AVal → AVal → AVal → AVal → AVal → AVal → AVal → AVal → AVal → AHeap → Rs)) × ((AVal → AVal → AVal → AVal → AVal → AVal → AVal → AVal → AVal → AHeap → Rs) × (AVal → AVal → AVal → AVal → AVal → AVal → AVal → AVal → AVal → AHeap → Rs))))
noncomputable def f91.b0 (I : Inp) (call : CallFn) (j : f91.Js) (h : AHeap) : Rs :=
  some (.nili, h)
noncomputable def f91.b1 (I : Inp) (call : CallFn) (j : f91.Js) (v0 v11 v12 v13 : AVal) (h : AHeap) : Rs :=
  bndP (pBin .lss v13 v12) fun v14 =>
  sCond v14 (
  j.1.1.1 h) (
  j.1.2.1 v0 v11 v12 v13 h)
noncomputable def f91.b2 (I : Inp) (call : CallFn) (j : f91.Js) (v0 v11 v12 v13 : AVal) (h : AHeap) : Rs :=
  bndP (pIndexAddr 3 v11 v13) fun v16 =>
  bndP (pLoadN I 3 v16 h) fun v17 =>
  bnd (sAlloc [(Z 0), (Z 0), .nils] h) fun v4 h1 =>
  bnd (sStore 3 v4 v17 h1) fun _ h2 =>
  bndP (pNilCheck v0) fun v19 =>
  bndP (pFieldAddr 2 v19) fun v20 =>
  bndP (pLoad1 I v20 h2) fun v21 =>
  bndP (pFieldAddr 1 v4) fun v22 =>
  bndP (pLoad1 I v22 h2) fun v23 =>
  bndP (pIndexAddr 1 v21 v23) fun v24 =>
  bndP (pFieldAddr 0 v24) fun v25 =>
  bndP (pLoad1 I v25 h2) fun v26 =>
  bndP (pFieldAddr 2 v4) fun v27 =>
  bndP (pLoad1 I v27 h2) fun v28 =>
  bndP (pLenSl v28) fun v29 =>
  bndP (pLenSl v26) fun v31 =>
  bndP (pBin .eql v29 v31) fun v32 =>
  bnd (sGuard v32 .true (some (v0, h2)) h2) fun v34 h3 =>
  bnd (sGuard v32 .true (lift (pFieldAddr 0 v4) h3) h3) fun v35 h4 =>
  bnd (sGuard v32 .true (lift (pLoad1 I v35 h4) h4) h4) fun v36 h5 =>
  bnd (sGuard v32 .true (lift (pFieldAddr 1 v4) h5) h5) fun v37 h6 =>
  bnd (sGuard v32 .true (lift (pLoad1 I v37 h6) h6) h6) fun v38 h7 =>
  bnd (sGuard v32 .true (call 126 [v34, v36, v38] h7) h7) fun v39 h8 =>
  bnd (sGuard v32 .true (some (v13, h8)) h8) fun v40 h9 =>
  bnd (sGuard v32 .true (lift (pBin .eql v39 v40) h9) h9) fun v41 h10 =>
  bndP (pPick v32 v41 (.bool .false)) fun v42 =>
  bndP (pFieldAddr 2 v4) fun v43 =>
  bndP (pLoad1 I v43 h10) fun v44 =>
  bndP (pLenSl v44) fun v45 =>
  bndP (pLenSl v26) fun v47 =>
  bndP (pMinmax .false [v45, v47]) fun v48 =>
  j.2.1.2 v0 v4 v26 v42 v11 v12 v13 v48 (Z 0) h10
noncomputable def f91.b3 (I : Inp) (call : CallFn) (j : f91.Js) (v0 v11 v12 v13 : AVal) (h : AHeap) : Rs :=
  bndP (pBin .add v13 (Z 1)) fun v73 =>
  j.1.1.2 v0 v11 v12 v73 h
noncomputable def f91.b4 (I : Inp) (call : CallFn) (j : f91.Js) (v0 v6 v11 v12 v13 : AVal) (h : AHeap) : Rs :=
  bndP (pUn .not v6) fun v70 =>
  sCond v70 (
  j.1.2.2 v0 v11 v12 v13 h) (
  bnd (call 66 [] h) fun v71 h1 =>
  bnd (call 67 [(Z 7), v71, .nili] h1) fun v72 h2 =>
  some (v72, h2))
noncomputable def f91.b5 (I : Inp) (call : CallFn) (j : f91.Js) (v0 v4 v5 v6 v11 v12 v13 v48 v49 : AVal) (h : AHeap) : Rs :=
  bndP (pBin .lss v49 v48) fun v50 =>
  sCond v50 (
  j.2.1.1 v0 v6 v11 v12 v13 h) (
  j.2.2.1 v0 v4 v5 v6 v11 v12 v13 v48 v49 h)
noncomputable def f91.b6 (I : Inp) (call : CallFn) (j : f91.Js) (v0 v4 v5 v6 v11 v12 v13 v48 v49 : AVal) (h : AHeap) : Rs :=
  bnd (sGuard v6 .true (some (v0, h)) h) fun v54 h1 =>
  bnd (sGuard v6 .true (lift (pFieldAddr 0 v4) h1) h1) fun v55 h2 =>
  bnd (sGuard v6 .true (lift (pLoad1 I v55 h2) h2) h2) fun v56 h3 =>
  bnd (sGuard v6 .true (lift (pFieldAddr 2 v4) h3) h3) fun v57 h4 =>
  bnd (sGuard v6 .true (lift (pLoad1 I v57 h4) h4) h4) fun v58 h5 =>
  bnd (sGuard v6 .true (some (v49, h5)) h5) fun v59 h6 =>
  bnd (sGuard v6 .true (lift (pIndexAddr 1 v58 v59) h6) h6) fun v60 h7 =>
  bnd (sGuard v6 .true (lift (pLoad1 I v60 h7) h7) h7) fun v61 h8 =>
  bnd (sGuard v6 .true (some (v5, h8)) h8) fun v62 h9 =>
  bnd (sGuard v6 .true (some (v49, h9)) h9) fun v63 h10 =>
  bnd (sGuard v6 .true (lift (pIndexAddr 1 v62 v63) h10) h10) fun v64 h11 =>
  bnd (sGuard v6 .true (lift (pLoad1 I v64 h11) h11) h11) fun v65 h12 =>
  bnd (sGuard v6 .true (call 127 [v54, v56, v61, v65] h12) h12) fun v66 h13 =>
  bndP (pPick v6 v66 (.bool .false)) fun v67 =>
  j.2.2.2 v0 v4 v5 v67 v11 v12 v13 v48 v49 h13
noncomputable def f91.b7 (I : Inp) (call : CallFn) (j : f91.Js) (v0 v4 v5 v6 v11 v12 v13 v48 v49 : AVal) (h : AHeap) : Rs :=
  bndP (pBin .add v49 (Z 1)) fun v68 =>
  j.2.1.2 v0 v4 v5 v6 v11 v12 v13 v48 v68 h
noncomputable def f91.e (I : Inp) (call : CallFn) (j : f91.Js) (v0 : AVal) (h : AHeap) : Rs :=
  bndP (pNilCheck v0) fun v9 =>
  bndP (pFieldAddr 3 v9) fun v10 =>
  bndP (pLoad1 I v10 h) fun v11 =>
  bndP (pLenSl v11) fun v12 =>
  j.1.1.2 v0 v11 v12 (Z 0) h
noncomputable def f91.J (I : Inp) (call : CallFn) (n : Nat) : f91.Js :=
  Nat.rec (motive := fun _ => f91.Js) ((((fun _ => none), (fun _ _ _ _ _ => none)), ((fun _ _ _ _ _ => none), (fun _ _ _ _ _ => none))), (((fun _ _ _ _ _ _ => none), (fun _ _ _ _ _ _ _ _ _ _ => none)), ((fun _ _ _ _ _ _ _ _ _ _ => none), (fun _ _ _ _ _ _ _ _ _ _ => none)))) (fun _ ih => (((f91.b0 I call ih, f91.b1 I call ih), (f91.b2 I call ih, f91.b3 I call ih)), ((f91.b4 I call ih, f91.b5 I call ih), (f91.b6 I call ih, f91.b7 I call ih)))) n
noncomputable def f91.JS (I : Inp) (call : CallFn) (n : Nat) : Jmp := fun id ρ h =>
  (Bool.rec (motive := fun _ => _) (Bool.rec (motive := fun _ => _) (Bool.rec (motive := fun _ => _) ((f91.J I call n).2.2.2 (ρ 0) (ρ 4) (ρ 5) (ρ 6) (ρ 11) (ρ 12) (ρ 13) (ρ 48) (ρ 49) h) ((f91.J I call n).2.2.1 (ρ 0) (ρ 4) (ρ 5) (ρ 6) (ρ 11) (ρ 12) (ρ 13) (ρ 48) (ρ 49) h) (Nat.blt id 7)) (Bool.rec (motive := fun _ => _) ((f91.J I call n).2.1.2 (ρ 0) (ρ 4) (ρ 5) (ρ 6) (ρ 11) (ρ 12) (ρ 13) (ρ 48) (ρ 49) h) ((f91.J I call n).2.1.1 (ρ 0) (ρ 6) (ρ 11) (ρ 12) (ρ 13) h) (Nat.blt id 5)) (Nat.blt id 6)) (Bool.rec (motive := fun _ => _) (Bool.rec (motive := fun _ => _) ((f91.J I call n).1.2.2 (ρ 0) (ρ 11) (ρ 12) (ρ 13) h) ((f91.J I call n).1.2.1 (ρ 0) (ρ 11) (ρ 12) (ρ 13) h) (Nat.blt id 3)) (Bool.rec (motive := fun _ => _) ((f91.J I call n).1.1.2 (ρ 0) (ρ 11) (ρ 12) (ρ 13) h) ((f91.J I call n).1.1.1 h) (Nat.blt id 1)) (Nat.blt id 2)) (Nat.blt id 4))
theorem f91.q0 (I : Inp) (call : CallFn) (n : Nat) (ρ : Fun) (h : AHeap) : f91.JS I call (n + 1) 0 ρ h = labC P I call (f91.JS I call n) c91.body 0 (finV I c91.results) 0 ρ h := by kernel_rfl
theorem f91.q1 (I : Inp) (call : CallFn) (n : Nat) (ρ : Fun) (h : AHeap) : f91.JS I call (n + 1) 1 ρ h = labC P I call (f91.JS I call n) c91.body 0 (finV I c91.results) 1 ρ h := by kernel_rfl
theorem f91.q2 (I : Inp) (call : CallFn) (n : Nat) (ρ : Fun) (h : AHeap) : f91.JS I call (n + 1) 2 ρ h = labC P I call (f91.JS I call n) c91.body 0 (finV I c91.results) 2 ρ h := by kernel_rfl
theorem f91.q3 (I : Inp) (call : CallFn) (n : Nat) (ρ : Fun) (h : AHeap) : f91.JS I call (n + 1) 3 ρ h = labC P I call (f91.JS I call n) c91.body 0 (finV I c91.results) 3 ρ h := by kernel_rfl
theorem f91.q4 (I : Inp) (call : CallFn) (n : Nat) (ρ : Fun) (h : AHeap) : f91.JS I call (n + 1) 4 ρ h = labC P I call (f91.JS I call n) c91.body 0 (finV I c91.results) 4 ρ h := by kernel_rfl
theorem f91.q5 (I : Inp) (call : CallFn) (n : Nat) (ρ : Fun) (h : AHeap) : f91.JS I call (n + 1) 5 ρ h = labC P I call (f91.JS I call n) c91.body 0 (finV I c91.results) 5 ρ h := by kernel_rfl
theorem f91.q6 (I : Inp) (call : CallFn) (n : Nat) (ρ : Fun) (h : AHeap) : f91.JS I call (n + 1) 6 ρ h = labC P I call (f91.JS I call n) c91.body 0 (finV I c91.results) 6 ρ h := by kernel_rfl
theorem f91.q7 (I : Inp) (call : CallFn) (n : Nat) (ρ : Fun) (h : AHeap) : f91.JS I call (n + 1) 7 ρ h = labC P I call (f91.JS I call n) c91.body 0 (finV I c91.results) 7 ρ h := by kernel_rfl
theorem f91.S (I : Inp) (F : Nat → Option AFn) (call : CallFn) : SFn ⟨P, I, F⟩ call c91 (f91.JS I call) :=
  ⟨fun id hid ρ h => by
    have hc : c91.body.cnt = 8 := by kernel_rfl
    rw [hc] at hid
    exact match id, hid with
    | 0, _ => rfl
    | 1, _ => rfl
    | 2, _ => rfl
    | 3, _ => rfl
    | 4, _ => rfl
    | 5, _ => rfl
    | 6, _ => rfl
    | 7, _ => rfl
    | id + 8, hid => absurd hid (by omega), fun n id hid ρ h => by
    have hc : c91.body.cnt = 8 := by kernel_rfl
    rw [hc] at hid
    exact match id, hid with
    | 0, _ => f91.q0 I call n ρ h
    | 1, _ => f91.q1 I call n ρ h
    | 2, _ => f91.q2 I call n ρ h
    | 3, _ => f91.q3 I call n ρ h
    | 4, _ => f91.q4 I call n ρ h
    | 5, _ => f91.q5 I call n ρ h
    | 6, _ => f91.q6 I call n ρ h
    | 7, _ => f91.q7 I call n ρ h
    | id + 8, hid => absurd hid (by omega)⟩
noncomputable def f91.run (I : Inp) : SF := fun call n a h =>
  match a with
  | [v0] => f91.e I call (f91.J I call n) v0 h
  | _ => none
theorem f91.qe (I : Inp) (call : CallFn) (n : Nat) (v0 : AVal) (h : AHeap) : f91.e I call (f91.J I call n) v0 h = execC P I call (f91.JS I call n) c91.body 0 (finV I c91.results) (argV [v0]) h := by kernel_rfl
theorem f91.code : codeOf P 91 = some c91 := by kernel_rfl
theorem f91.ok (I : Inp) (F : Nat → Option AFn) (hF : F 91 = some (.code c91)) : SfOk P I F 91 (f91.run I) := by
  intro call hc n args h r hr
  unfold f91.run at hr
  split at hr
  · exact fn_sound (C := ⟨P, I, F⟩) (n := n) hc hF (Nat.le_of_ble_eq_true (by kernel_rfl)) (by kernel_rfl) (f91.S I F call) (by kernel_rfl) ((f91.qe I call n _ h).symm.trans hr)
  · cases hr
end Go.Proofs.YtechgpjdlkjjoaaGreatDoor.Sf
