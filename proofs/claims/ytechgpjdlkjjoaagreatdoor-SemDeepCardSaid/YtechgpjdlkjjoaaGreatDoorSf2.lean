/- The functions of the program by their labels, on values, part 2: what they compute the abstract machine computes. Conditions: none. -/
import Derived.Test.YtechgpjdlkjjoaaGreatDoorSf1
import Derived.Test.YtechgpjdlkjjoaaGreatDoorProg
namespace Go.Proofs.YtechgpjdlkjjoaaGreatDoor.Sf
open Go.AM
set_option linter.unusedVariables false
/-! haruspex/assign.In -/
noncomputable def c136 : AFunc := (AFunc.mk 121 2 [(.tmp 4)] (.seq (.region [(S 4 (.move (.val .nils)) .none)]) (.seq (.seq (.region [(M 17 0), (S 18 (.eq .false .ptr .true (T 17) (.val .nilp)) .none), (M 19 18), (S 20 (.move (T 1)) (.some (19, .false))), (S 21 (.bin .lss (T 20) (V 0)) (.some (19, .false))), (S 22 (.pick (T 19) (.val (.bool .true)) (T 21)) .none), (M 23 22), (S 24 (.move (T 1)) (.some (23, .false))), (S 25 (.move (T 0)) (.some (23, .false))), (S 26 (.nilCheck (T 25)) (.some (23, .false))), (S 27 (.fieldAddr 4 (T 26)) (.some (23, .false))), (S 28 (.load1 (T 27)) (.some (23, .false))), (S 29 (.lenSl (T 28)) (.some (23, .false))), (S 30 (.bin .geq (T 24) (T 29)) (.some (23, .false))), (S 31 (.pick (T 23) (.val (.bool .true)) (T 30)) .none)]) (.cond (T 31) (.seq (.region [(S 4 (.move (.val .nils)) .none)]) .ret) .skip)) (.seq (.region [(M 32 0), (NC 33 32), (FA 34 4 33), (L1 35 34), (M 36 1), (S 37 (.indexAddr 3 (T 35) (T 36)) .none), (S 38 (.loadN 3 (T 37)) .none), (S 5 (.alloc [(Z 0), .nils, .nils]) .none), (AOper.mk .none (.store 3 (T 5) (T 38)) .none)]) (.seq (.region [(FA 39 2 5), (L1 40 39), (S 41 (.lenSl (T 40)) .none), (S 42 (.makeSlice [.nilp] 8 (T 41) (T 41)) .none), (M 6 42)]) (.seq (.seq (.region [(M 43 6), (S 44 (.lenSl (T 43)) .none), (S 45 (.move (V 0)) .none)]) (.block 0 (.loop (.seq (.region [(S 46 (.bin .lss (T 45) (T 44)) .none)]) (.seq (.cond (T 46) .skip (.exit 0)) (.seq (.block 1 (.seq (.region [(M 47 45), (M 7 47)]) (.region [(M 48 6), (M 49 7), (FA 50 1 5), (L1 51 50), (S 52 (.lenSl (T 51)) .none), (S 53 (.call 163 [(T 52)]) .none), (S 54 (.indexAddr 1 (T 48) (T 49)) .none), (AOper.mk .none (.store 1 (T 54) (T 53)) .none)]))) (.region [(S 55 (.bin .add (T 45) (V 1)) .none), (M 45 55)]))))))) (.seq (.draw [(M 56 6), (M 57 0), (NC 58 57), (FA 59 1 58), (L1 60 59), (FA 61 0 5), (L1 62 61), (S 63 (.indexAddr 3 (T 60) (T 62)) .none), (FA 64 0 63), (L1 65 64), (S 66 (.lenSl (T 65)) .none), (S 67 (.call 163 [(T 66)]) .none), (S 68 (.indexAddr 1 (T 56) (V 0)) .none), (AOper.mk .none (.store 1 (T 68) (T 67)) .none)] [N, N, N, N, N, N, N, N, N, N, N, Y, N, Y] 0) (.seq (.region [(M 69 0), (M 70 1), (S 71 (.call 134 [(T 69), (T 70)]) .none), (S 8 (.alloc [(Z 0), .nils]) .none), (AOper.mk .none (.store 2 (T 8) (T 71)) .none)]) (.seq (.region [(S 72 (.loadN 2 (T 8)) .none), (S 73 (.call 164 [(T 72), (V 0)]) .none), (M 9 73)]) (.seq (.seq (.region [(S 10 (.move (.val (.bool .true))) .none)]) (.block 2 (.loop (.seq (.seq (.region [(M 74 10)]) (.cond (T 74) .skip (.exit 2))) (.block 3 (.seq (.region [(S 10 (.move (.val (.bool .false))) .none)]) (.seq (.region [(M 75 9), (S 76 (.lenSl (T 75)) .none), (S 77 (.move (V 0)) .none)]) (.block 4 (.loop (.seq (.region [(S 78 (.bin .lss (T 77) (T 76)) .none)]) (.seq (.cond (T 78) .skip (.exit 4)) (.seq (.block 5 (.seq (.region [(S 79 (.indexAddr 1 (T 75) (T 77)) .none), (L1 80 79), (M 12 80)]) (.seq (.draw [(FA 81 2 5), (L1 82 81), (M 83 12), (S 84 (.indexAddr 5 (T 82) (T 83)) .none), (S 85 (.loadN 5 (T 84)) .none), (M 86 6), (M 87 12), (S 88 (.indexAddr 1 (T 86) (T 87)) .none), (L1 89 88), (S 90 (.call 165 [(T 85), (T 89)]) .none), (M 13 90)] [N, N, N, N, N, N, N, N, N, Y, N] 0) (.seq (.region [(FA 91 1 8), (L1 92 91), (M 93 12), (S 94 (.indexAddr 1 (T 92) (T 93)) .none), (L1 95 94), (S 96 (.lenSl (T 95)) .none), (S 97 (.move (V 0)) .none)]) (.block 6 (.loop (.seq (.region [(S 98 (.bin .lss (T 97) (T 96)) .none)]) (.seq (.cond (T 98) .skip (.exit 6)) (.seq (.block 7 (.seq (.region [(S 99 (.indexAddr 1 (T 95) (T 97)) .none), (L1 100 99), (M 15 100)]) (.seq (.region [(M 101 6), (M 102 15), (S 103 (.indexAddr 1 (T 101) (T 102)) .none), (L1 104 103), (M 105 13), (S 106 (.call 166 [(T 104), (T 105)]) .none), (M 16 106)]) (.seq (.region [(M 107 16), (M 108 6), (M 109 15), (S 110 (.indexAddr 1 (T 108) (T 109)) .none), (L1 111 110), (S 112 (.call 167 [(T 107), (T 111)]) .none), (S 113 (.un .not (T 112)) .none)]) (.cond (T 113) (.region [(M 114 6), (M 115 15), (M 116 16), (S 117 (.indexAddr 1 (T 114) (T 115)) .none), (AOper.mk .none (.store 1 (T 117) (T 116)) .none), (S 10 (.move (.val (.bool .true))) .none)]) .skip))))) (.region [(S 118 (.bin .add (T 97) (V 1)) .none), (M 97 118)])))))))))) (.region [(S 119 (.bin .add (T 77) (V 1)) .none), (M 77 119)]))))))))))))) (.seq (.region [(M 120 6), (M 4 120)]) .ret)))))))))))
abbrev f136.Js : Type := ((((AVal → AVal → AHeap → Rs) × ((AVal → AVal → AVal → AVal → AHeap → Rs) × (AVal → AVal → AVal → AVal → AVal → AVal → AHeap → Rs))) × (((AVal → AVal → AVal → AVal → AVal → AVal → AHeap → Rs) × (AVal → AVal → AVal → AVal → AVal → AVal → AHeap → Rs)) × ((AVal → AHeap → Rs) × (AVal → AVal → AVal → AVal → AVal → AHeap → Rs)))) × (((AVal → AVal → AVal → AVal → AHeap → Rs) × ((AVal → AVal → AVal → AVal → AVal → AVal → AVal → AVal → AHeap → Rs) × (AVal → AVal → AVal → AVal → AVal → AVal → AVal → AVal → AHeap → Rs))) × (((AVal → AVal → AVal → AVal → AVal → AVal → AVal → AVal → AHeap → Rs) × (AVal → AVal → AVal → AVal → AVal → AVal → AVal → AVal → AVal → AVal → AVal → AVal → AHeap → Rs)) × ((AVal → AVal → AVal → AVal → AVal → AVal → AVal → AVal → AVal → AVal → AVal → AVal → AHeap → Rs) × (AVal → AVal → AVal → AVal → AVal → AVal → AVal → AVal → AVal → AVal → AVal → AVal → AHeap → Rs)))))
noncomputable def f136.b0 (I : Inp) (call : CallFn) (j : f136.Js) (v0 v1 : AVal) (h : AHeap) : Rs :=
  bndP (pNilCheck v0) fun v33 =>
  bndP (pFieldAddr 4 v33) fun v34 =>
  bndP (pLoad1 I v34 h) fun v35 =>
  bndP (pIndexAddr 3 v35 v1) fun v37 =>
  bndP (pLoadN I 3 v37 h) fun v38 =>
  bnd (sAlloc [(Z 0), .nils, .nils] h) fun v5 h1 =>
  bnd (sStore 3 v5 v38 h1) fun _ h2 =>
  bndP (pFieldAddr 2 v5) fun v39 =>
  bndP (pLoad1 I v39 h2) fun v40 =>
  bndP (pLenSl v40) fun v41 =>
  bnd (sMakeSlice [.nilp] 8 v41 v41 h2) fun v42 h3 =>
  bndP (pLenSl v42) fun v44 =>
  j.1.1.2.2 v0 v1 v5 v42 v44 (Z 0) h3
noncomputable def f136.b1 (I : Inp) (call : CallFn) (j : f136.Js) (v0 v1 v5 v6 : AVal) (h : AHeap) : Rs :=
  bndP (pNilCheck v0) fun v58 =>
  bndP (pFieldAddr 1 v58) fun v59 =>
  bndP (pLoad1 I v59 h) fun v60 =>
  bndP (pFieldAddr 0 v5) fun v61 =>
  bndP (pLoad1 I v61 h) fun v62 =>
  bndP (pIndexAddr 3 v60 v62) fun v63 =>
  bndP (pFieldAddr 0 v63) fun v64 =>
  bndP (pLoad1 I v64 h) fun v65 =>
  bndP (pLenSl v65) fun v66 =>
  bnd (call 163 [v66] h) fun v67 h1 =>
  bndP (pIndexAddr 1 v6 (Z 0)) fun v68 =>
  bnd (sStore 1 v68 v67 h1) fun _ h2 =>
  bnd (call 134 [v0, v1] h2) fun v71 h3 =>
  bnd (sAlloc [(Z 0), .nils] h3) fun v8 h4 =>
  bnd (sStore 2 v8 v71 h4) fun _ h5 =>
  bndP (pLoadN I 2 v8 h5) fun v72 =>
  bnd (call 164 [v72, (Z 0)] h5) fun v73 h6 =>
  j.1.2.2.2 v5 v6 v8 v73 (.bool .true) h6
noncomputable def f136.b2 (I : Inp) (call : CallFn) (j : f136.Js) (v0 v1 v5 v6 v44 v45 : AVal) (h : AHeap) : Rs :=
  bndP (pBin .lss v45 v44) fun v46 =>
  sCond v46 (
  j.1.1.2.1 v0 v1 v5 v6 h) (
  j.1.2.1.1 v0 v1 v5 v6 v44 v45 h)
noncomputable def f136.b3 (I : Inp) (call : CallFn) (j : f136.Js) (v0 v1 v5 v6 v44 v45 : AVal) (h : AHeap) : Rs :=
  bndP (pFieldAddr 1 v5) fun v50 =>
  bndP (pLoad1 I v50 h) fun v51 =>
  bndP (pLenSl v51) fun v52 =>
  bnd (call 163 [v52] h) fun v53 h1 =>
  bndP (pIndexAddr 1 v6 v45) fun v54 =>
  bnd (sStore 1 v54 v53 h1) fun _ h2 =>
  j.1.2.1.2 v0 v1 v5 v6 v44 v45 h2
noncomputable def f136.b4 (I : Inp) (call : CallFn) (j : f136.Js) (v0 v1 v5 v6 v44 v45 : AVal) (h : AHeap) : Rs :=
  bndP (pBin .add v45 (Z 1)) fun v55 =>
  j.1.1.2.2 v0 v1 v5 v6 v44 v55 h
noncomputable def f136.b5 (I : Inp) (call : CallFn) (j : f136.Js) (v6 : AVal) (h : AHeap) : Rs :=
  some (v6, h)
noncomputable def f136.b6 (I : Inp) (call : CallFn) (j : f136.Js) (v5 v6 v8 v9 v10 : AVal) (h : AHeap) : Rs :=
  sCond v10 (
  j.1.2.2.1 v6 h) (
  j.2.1.1 v5 v6 v8 v9 h)
noncomputable def f136.b7 (I : Inp) (call : CallFn) (j : f136.Js) (v5 v6 v8 v9 : AVal) (h : AHeap) : Rs :=
  bndP (pLenSl v9) fun v76 =>
  j.2.1.2.1 v5 v6 v8 v9 (.bool .false) v9 v76 (Z 0) h
noncomputable def f136.b8 (I : Inp) (call : CallFn) (j : f136.Js) (v5 v6 v8 v9 v10 v75 v76 v77 : AVal) (h : AHeap) : Rs :=
  bndP (pBin .lss v77 v76) fun v78 =>
  sCond v78 (
  j.1.2.2.2 v5 v6 v8 v9 v10 h) (
  j.2.1.2.2 v5 v6 v8 v9 v10 v75 v76 v77 h)
noncomputable def f136.b9 (I : Inp) (call : CallFn) (j : f136.Js) (v5 v6 v8 v9 v10 v75 v76 v77 : AVal) (h : AHeap) : Rs :=
  bndP (pIndexAddr 1 v75 v77) fun v79 =>
  bndP (pLoad1 I v79 h) fun v80 =>
  bndP (pFieldAddr 2 v5) fun v81 =>
  bndP (pLoad1 I v81 h) fun v82 =>
  bndP (pIndexAddr 5 v82 v80) fun v84 =>
  bndP (pLoadN I 5 v84 h) fun v85 =>
  bndP (pIndexAddr 1 v6 v80) fun v88 =>
  bndP (pLoad1 I v88 h) fun v89 =>
  bnd (call 165 [v85, v89] h) fun v90 h1 =>
  bndP (pFieldAddr 1 v8) fun v91 =>
  bndP (pLoad1 I v91 h1) fun v92 =>
  bndP (pIndexAddr 1 v92 v80) fun v94 =>
  bndP (pLoad1 I v94 h1) fun v95 =>
  bndP (pLenSl v95) fun v96 =>
  j.2.2.1.2 v5 v6 v8 v9 v10 v90 v75 v76 v77 v95 v96 (Z 0) h1
noncomputable def f136.b10 (I : Inp) (call : CallFn) (j : f136.Js) (v5 v6 v8 v9 v10 v75 v76 v77 : AVal) (h : AHeap) : Rs :=
  bndP (pBin .add v77 (Z 1)) fun v119 =>
  j.2.1.2.1 v5 v6 v8 v9 v10 v75 v76 v119 h
noncomputable def f136.b11 (I : Inp) (call : CallFn) (j : f136.Js) (v5 v6 v8 v9 v10 v13 v75 v76 v77 v95 v96 v97 : AVal) (h : AHeap) : Rs :=
  bndP (pBin .lss v97 v96) fun v98 =>
  sCond v98 (
  j.2.2.1.1 v5 v6 v8 v9 v10 v75 v76 v77 h) (
  j.2.2.2.1 v5 v6 v8 v9 v10 v13 v75 v76 v77 v95 v96 v97 h)
noncomputable def f136.b12 (I : Inp) (call : CallFn) (j : f136.Js) (v5 v6 v8 v9 v10 v13 v75 v76 v77 v95 v96 v97 : AVal) (h : AHeap) : Rs :=
  bndP (pIndexAddr 1 v95 v97) fun v99 =>
  bndP (pLoad1 I v99 h) fun v100 =>
  bndP (pIndexAddr 1 v6 v100) fun v103 =>
  bndP (pLoad1 I v103 h) fun v104 =>
  bnd (call 166 [v104, v13] h) fun v106 h1 =>
  bndP (pIndexAddr 1 v6 v100) fun v110 =>
  bndP (pLoad1 I v110 h1) fun v111 =>
  bnd (call 167 [v106, v111] h1) fun v112 h2 =>
  bndP (pUn .not v112) fun v113 =>
  sCond v113 (
  j.2.2.2.2 v5 v6 v8 v9 v10 v13 v75 v76 v77 v95 v96 v97 h2) (
  bndP (pIndexAddr 1 v6 v100) fun v117 =>
  bnd (sStore 1 v117 v106 h2) fun _ h3 =>
  j.2.2.2.2 v5 v6 v8 v9 (.bool .true) v13 v75 v76 v77 v95 v96 v97 h3)
noncomputable def f136.b13 (I : Inp) (call : CallFn) (j : f136.Js) (v5 v6 v8 v9 v10 v13 v75 v76 v77 v95 v96 v97 : AVal) (h : AHeap) : Rs :=
  bndP (pBin .add v97 (Z 1)) fun v118 =>
  j.2.2.1.2 v5 v6 v8 v9 v10 v13 v75 v76 v77 v95 v96 v118 h
noncomputable def f136.e (I : Inp) (call : CallFn) (j : f136.Js) (v0 v1 : AVal) (h : AHeap) : Rs :=
  bndP (pEq P .false .ptr .true v0 .nilp h) fun v18 =>
  bnd (sGuard v18 .false (some (v1, h)) h) fun v20 h1 =>
  bnd (sGuard v18 .false (lift (pBin .lss v20 (Z 0)) h1) h1) fun v21 h2 =>
  bndP (pPick v18 (.bool .true) v21) fun v22 =>
  bnd (sGuard v22 .false (some (v1, h2)) h2) fun v24 h3 =>
  bnd (sGuard v22 .false (some (v0, h3)) h3) fun v25 h4 =>
  bnd (sGuard v22 .false (lift (pNilCheck v25) h4) h4) fun v26 h5 =>
  bnd (sGuard v22 .false (lift (pFieldAddr 4 v26) h5) h5) fun v27 h6 =>
  bnd (sGuard v22 .false (lift (pLoad1 I v27 h6) h6) h6) fun v28 h7 =>
  bnd (sGuard v22 .false (lift (pLenSl v28) h7) h7) fun v29 h8 =>
  bnd (sGuard v22 .false (lift (pBin .geq v24 v29) h8) h8) fun v30 h9 =>
  bndP (pPick v22 (.bool .true) v30) fun v31 =>
  sCond v31 (
  j.1.1.1 v0 v1 h9) (
  some (.nils, h9))
noncomputable def f136.J (I : Inp) (call : CallFn) (n : Nat) : f136.Js :=
  Nat.rec (motive := fun _ => f136.Js) ((((fun _ _ _ => none), ((fun _ _ _ _ _ => none), (fun _ _ _ _ _ _ _ => none))), (((fun _ _ _ _ _ _ _ => none), (fun _ _ _ _ _ _ _ => none)), ((fun _ _ => none), (fun _ _ _ _ _ _ => none)))), (((fun _ _ _ _ _ => none), ((fun _ _ _ _ _ _ _ _ _ => none), (fun _ _ _ _ _ _ _ _ _ => none))), (((fun _ _ _ _ _ _ _ _ _ => none), (fun _ _ _ _ _ _ _ _ _ _ _ _ _ => none)), ((fun _ _ _ _ _ _ _ _ _ _ _ _ _ => none), (fun _ _ _ _ _ _ _ _ _ _ _ _ _ => none))))) (fun _ ih => (((f136.b0 I call ih, (f136.b1 I call ih, f136.b2 I call ih)), ((f136.b3 I call ih, f136.b4 I call ih), (f136.b5 I call ih, f136.b6 I call ih))), ((f136.b7 I call ih, (f136.b8 I call ih, f136.b9 I call ih)), ((f136.b10 I call ih, f136.b11 I call ih), (f136.b12 I call ih, f136.b13 I call ih))))) n
noncomputable def f136.JS (I : Inp) (call : CallFn) (n : Nat) : Jmp := fun id ρ h =>
  (Bool.rec (motive := fun _ => _) (Bool.rec (motive := fun _ => _) (Bool.rec (motive := fun _ => _) (Bool.rec (motive := fun _ => _) ((f136.J I call n).2.2.2.2 (ρ 5) (ρ 6) (ρ 8) (ρ 9) (ρ 10) (ρ 13) (ρ 75) (ρ 76) (ρ 77) (ρ 95) (ρ 96) (ρ 97) h) ((f136.J I call n).2.2.2.1 (ρ 5) (ρ 6) (ρ 8) (ρ 9) (ρ 10) (ρ 13) (ρ 75) (ρ 76) (ρ 77) (ρ 95) (ρ 96) (ρ 97) h) (Nat.blt id 13)) (Bool.rec (motive := fun _ => _) ((f136.J I call n).2.2.1.2 (ρ 5) (ρ 6) (ρ 8) (ρ 9) (ρ 10) (ρ 13) (ρ 75) (ρ 76) (ρ 77) (ρ 95) (ρ 96) (ρ 97) h) ((f136.J I call n).2.2.1.1 (ρ 5) (ρ 6) (ρ 8) (ρ 9) (ρ 10) (ρ 75) (ρ 76) (ρ 77) h) (Nat.blt id 11)) (Nat.blt id 12)) (Bool.rec (motive := fun _ => _) (Bool.rec (motive := fun _ => _) ((f136.J I call n).2.1.2.2 (ρ 5) (ρ 6) (ρ 8) (ρ 9) (ρ 10) (ρ 75) (ρ 76) (ρ 77) h) ((f136.J I call n).2.1.2.1 (ρ 5) (ρ 6) (ρ 8) (ρ 9) (ρ 10) (ρ 75) (ρ 76) (ρ 77) h) (Nat.blt id 9)) ((f136.J I call n).2.1.1 (ρ 5) (ρ 6) (ρ 8) (ρ 9) h) (Nat.blt id 8)) (Nat.blt id 10)) (Bool.rec (motive := fun _ => _) (Bool.rec (motive := fun _ => _) (Bool.rec (motive := fun _ => _) ((f136.J I call n).1.2.2.2 (ρ 5) (ρ 6) (ρ 8) (ρ 9) (ρ 10) h) ((f136.J I call n).1.2.2.1 (ρ 6) h) (Nat.blt id 6)) (Bool.rec (motive := fun _ => _) ((f136.J I call n).1.2.1.2 (ρ 0) (ρ 1) (ρ 5) (ρ 6) (ρ 44) (ρ 45) h) ((f136.J I call n).1.2.1.1 (ρ 0) (ρ 1) (ρ 5) (ρ 6) (ρ 44) (ρ 45) h) (Nat.blt id 4)) (Nat.blt id 5)) (Bool.rec (motive := fun _ => _) (Bool.rec (motive := fun _ => _) ((f136.J I call n).1.1.2.2 (ρ 0) (ρ 1) (ρ 5) (ρ 6) (ρ 44) (ρ 45) h) ((f136.J I call n).1.1.2.1 (ρ 0) (ρ 1) (ρ 5) (ρ 6) h) (Nat.blt id 2)) ((f136.J I call n).1.1.1 (ρ 0) (ρ 1) h) (Nat.blt id 1)) (Nat.blt id 3)) (Nat.blt id 7))
theorem f136.q0 (I : Inp) (call : CallFn) (n : Nat) (ρ : Fun) (h : AHeap) : f136.JS I call (n + 1) 0 ρ h = labC P I call (f136.JS I call n) c136.body 0 (finV I c136.results) 0 ρ h := by kernel_rfl
theorem f136.q1 (I : Inp) (call : CallFn) (n : Nat) (ρ : Fun) (h : AHeap) : f136.JS I call (n + 1) 1 ρ h = labC P I call (f136.JS I call n) c136.body 0 (finV I c136.results) 1 ρ h := by kernel_rfl
theorem f136.q2 (I : Inp) (call : CallFn) (n : Nat) (ρ : Fun) (h : AHeap) : f136.JS I call (n + 1) 2 ρ h = labC P I call (f136.JS I call n) c136.body 0 (finV I c136.results) 2 ρ h := by kernel_rfl
theorem f136.q3 (I : Inp) (call : CallFn) (n : Nat) (ρ : Fun) (h : AHeap) : f136.JS I call (n + 1) 3 ρ h = labC P I call (f136.JS I call n) c136.body 0 (finV I c136.results) 3 ρ h := by kernel_rfl
theorem f136.q4 (I : Inp) (call : CallFn) (n : Nat) (ρ : Fun) (h : AHeap) : f136.JS I call (n + 1) 4 ρ h = labC P I call (f136.JS I call n) c136.body 0 (finV I c136.results) 4 ρ h := by kernel_rfl
theorem f136.q5 (I : Inp) (call : CallFn) (n : Nat) (ρ : Fun) (h : AHeap) : f136.JS I call (n + 1) 5 ρ h = labC P I call (f136.JS I call n) c136.body 0 (finV I c136.results) 5 ρ h := by kernel_rfl
theorem f136.q6 (I : Inp) (call : CallFn) (n : Nat) (ρ : Fun) (h : AHeap) : f136.JS I call (n + 1) 6 ρ h = labC P I call (f136.JS I call n) c136.body 0 (finV I c136.results) 6 ρ h := by kernel_rfl
theorem f136.q7 (I : Inp) (call : CallFn) (n : Nat) (ρ : Fun) (h : AHeap) : f136.JS I call (n + 1) 7 ρ h = labC P I call (f136.JS I call n) c136.body 0 (finV I c136.results) 7 ρ h := by kernel_rfl
theorem f136.q8 (I : Inp) (call : CallFn) (n : Nat) (ρ : Fun) (h : AHeap) : f136.JS I call (n + 1) 8 ρ h = labC P I call (f136.JS I call n) c136.body 0 (finV I c136.results) 8 ρ h := by kernel_rfl
theorem f136.q9 (I : Inp) (call : CallFn) (n : Nat) (ρ : Fun) (h : AHeap) : f136.JS I call (n + 1) 9 ρ h = labC P I call (f136.JS I call n) c136.body 0 (finV I c136.results) 9 ρ h := by kernel_rfl
theorem f136.q10 (I : Inp) (call : CallFn) (n : Nat) (ρ : Fun) (h : AHeap) : f136.JS I call (n + 1) 10 ρ h = labC P I call (f136.JS I call n) c136.body 0 (finV I c136.results) 10 ρ h := by kernel_rfl
theorem f136.q11 (I : Inp) (call : CallFn) (n : Nat) (ρ : Fun) (h : AHeap) : f136.JS I call (n + 1) 11 ρ h = labC P I call (f136.JS I call n) c136.body 0 (finV I c136.results) 11 ρ h := by kernel_rfl
theorem f136.q12 (I : Inp) (call : CallFn) (n : Nat) (ρ : Fun) (h : AHeap) : f136.JS I call (n + 1) 12 ρ h = labC P I call (f136.JS I call n) c136.body 0 (finV I c136.results) 12 ρ h := by kernel_rfl
theorem f136.q13 (I : Inp) (call : CallFn) (n : Nat) (ρ : Fun) (h : AHeap) : f136.JS I call (n + 1) 13 ρ h = labC P I call (f136.JS I call n) c136.body 0 (finV I c136.results) 13 ρ h := by kernel_rfl
theorem f136.S (I : Inp) (F : Nat → Option AFn) (call : CallFn) : SFn ⟨P, I, F⟩ call c136 (f136.JS I call) :=
  ⟨fun id hid ρ h => by
    have hc : c136.body.cnt = 14 := by kernel_rfl
    rw [hc] at hid
    exact match id, hid with
    | 0, _ => rfl
    | 1, _ => rfl
    | 2, _ => rfl
    | 3, _ => rfl
    | 4, _ => rfl
    | 5, _ => rfl
    | 6, _ => rfl
    | 7, _ => rfl
    | 8, _ => rfl
    | 9, _ => rfl
    | 10, _ => rfl
    | 11, _ => rfl
    | 12, _ => rfl
    | 13, _ => rfl
    | id + 14, hid => absurd hid (by omega), fun n id hid ρ h => by
    have hc : c136.body.cnt = 14 := by kernel_rfl
    rw [hc] at hid
    exact match id, hid with
    | 0, _ => f136.q0 I call n ρ h
    | 1, _ => f136.q1 I call n ρ h
    | 2, _ => f136.q2 I call n ρ h
    | 3, _ => f136.q3 I call n ρ h
    | 4, _ => f136.q4 I call n ρ h
    | 5, _ => f136.q5 I call n ρ h
    | 6, _ => f136.q6 I call n ρ h
    | 7, _ => f136.q7 I call n ρ h
    | 8, _ => f136.q8 I call n ρ h
    | 9, _ => f136.q9 I call n ρ h
    | 10, _ => f136.q10 I call n ρ h
    | 11, _ => f136.q11 I call n ρ h
    | 12, _ => f136.q12 I call n ρ h
    | 13, _ => f136.q13 I call n ρ h
    | id + 14, hid => absurd hid (by omega)⟩
noncomputable def f136.run (I : Inp) : SF := fun call n a h =>
  match a with
  | [v0, v1] => f136.e I call (f136.J I call n) v0 v1 h
  | _ => none
theorem f136.qe (I : Inp) (call : CallFn) (n : Nat) (v0 v1 : AVal) (h : AHeap) : f136.e I call (f136.J I call n) v0 v1 h = execC P I call (f136.JS I call n) c136.body 0 (finV I c136.results) (argV [v0, v1]) h := by kernel_rfl
theorem f136.code : codeOf P 136 = some c136 := by kernel_rfl
theorem f136.ok (I : Inp) (F : Nat → Option AFn) (hF : F 136 = some (.code c136)) : SfOk P I F 136 (f136.run I) := by
  intro call hc n args h r hr
  unfold f136.run at hr
  split at hr
  · exact fn_sound (C := ⟨P, I, F⟩) (n := n) hc hF (Nat.le_of_ble_eq_true (by kernel_rfl)) (by kernel_rfl) (f136.S I F call) (by kernel_rfl) ((f136.qe I call n _ _ h).symm.trans hr)
  · cases hr
/-! haruspex/bitset.Of -/
noncomputable def c137 : AFunc := (AFunc.mk 19 1 [(.tmp 2)] (.seq (.region [(S 2 (.move (.val .nilp)) .none)]) (.seq (.region [(S 6 (.build [.nils] []) .none), (S 7 (.box (T 6)) .none), (M 3 7)]) (.seq (.seq (.region [(M 8 0), (S 9 (.lenSl (T 8)) .none), (S 10 (.move (V 0)) .none)]) (.block 0 (.loop (.seq (.region [(S 11 (.bin .lss (T 10) (T 9)) .none)]) (.seq (.cond (T 11) .skip (.exit 0)) (.seq (.block 1 (.seq (.region [(S 12 (.indexAddr 1 (T 8) (T 10)) .none), (L1 13 12), (M 5 13)]) (.region [(M 14 3), (M 15 5), (S 16 (.call 141 [(T 14), (T 15)]) .none)]))) (.region [(S 17 (.bin .add (T 10) (V 1)) .none), (M 10 17)]))))))) (.seq (.region [(M 18 3), (M 2 18)]) .ret)))))
abbrev f137.Js : Type := (((AVal → AHeap → Rs) × (AVal → AVal → AVal → AVal → AHeap → Rs)) × ((AVal → AVal → AVal → AVal → AHeap → Rs) × (AVal → AVal → AVal → AVal → AHeap → Rs)))
noncomputable def f137.b0 (I : Inp) (call : CallFn) (j : f137.Js) (v3 : AVal) (h : AHeap) : Rs :=
  some (v3, h)
noncomputable def f137.b1 (I : Inp) (call : CallFn) (j : f137.Js) (v3 v8 v9 v10 : AVal) (h : AHeap) : Rs :=
  bndP (pBin .lss v10 v9) fun v11 =>
  sCond v11 (
  j.1.1 v3 h) (
  j.2.1 v3 v8 v9 v10 h)
noncomputable def f137.b2 (I : Inp) (call : CallFn) (j : f137.Js) (v3 v8 v9 v10 : AVal) (h : AHeap) : Rs :=
  bndP (pIndexAddr 1 v8 v10) fun v12 =>
  bndP (pLoad1 I v12 h) fun v13 =>
  bnd (call 141 [v3, v13] h) fun v16 h1 =>
  j.2.2 v3 v8 v9 v10 h1
noncomputable def f137.b3 (I : Inp) (call : CallFn) (j : f137.Js) (v3 v8 v9 v10 : AVal) (h : AHeap) : Rs :=
  bndP (pBin .add v10 (Z 1)) fun v17 =>
  j.1.2 v3 v8 v9 v17 h
noncomputable def f137.e (I : Inp) (call : CallFn) (j : f137.Js) (v0 : AVal) (h : AHeap) : Rs :=
  bndP (pBuild [.nils] []) fun v6 =>
  bnd (sBox v6 h) fun v7 h1 =>
  bndP (pLenSl v0) fun v9 =>
  j.1.2 v7 v0 v9 (Z 0) h1
noncomputable def f137.J (I : Inp) (call : CallFn) (n : Nat) : f137.Js :=
  Nat.rec (motive := fun _ => f137.Js) (((fun _ _ => none), (fun _ _ _ _ _ => none)), ((fun _ _ _ _ _ => none), (fun _ _ _ _ _ => none))) (fun _ ih => ((f137.b0 I call ih, f137.b1 I call ih), (f137.b2 I call ih, f137.b3 I call ih))) n
noncomputable def f137.JS (I : Inp) (call : CallFn) (n : Nat) : Jmp := fun id ρ h =>
  (Bool.rec (motive := fun _ => _) (Bool.rec (motive := fun _ => _) ((f137.J I call n).2.2 (ρ 3) (ρ 8) (ρ 9) (ρ 10) h) ((f137.J I call n).2.1 (ρ 3) (ρ 8) (ρ 9) (ρ 10) h) (Nat.blt id 3)) (Bool.rec (motive := fun _ => _) ((f137.J I call n).1.2 (ρ 3) (ρ 8) (ρ 9) (ρ 10) h) ((f137.J I call n).1.1 (ρ 3) h) (Nat.blt id 1)) (Nat.blt id 2))
theorem f137.q0 (I : Inp) (call : CallFn) (n : Nat) (ρ : Fun) (h : AHeap) : f137.JS I call (n + 1) 0 ρ h = labC P I call (f137.JS I call n) c137.body 0 (finV I c137.results) 0 ρ h := by kernel_rfl
theorem f137.q1 (I : Inp) (call : CallFn) (n : Nat) (ρ : Fun) (h : AHeap) : f137.JS I call (n + 1) 1 ρ h = labC P I call (f137.JS I call n) c137.body 0 (finV I c137.results) 1 ρ h := by kernel_rfl
theorem f137.q2 (I : Inp) (call : CallFn) (n : Nat) (ρ : Fun) (h : AHeap) : f137.JS I call (n + 1) 2 ρ h = labC P I call (f137.JS I call n) c137.body 0 (finV I c137.results) 2 ρ h := by kernel_rfl
theorem f137.q3 (I : Inp) (call : CallFn) (n : Nat) (ρ : Fun) (h : AHeap) : f137.JS I call (n + 1) 3 ρ h = labC P I call (f137.JS I call n) c137.body 0 (finV I c137.results) 3 ρ h := by kernel_rfl
theorem f137.S (I : Inp) (F : Nat → Option AFn) (call : CallFn) : SFn ⟨P, I, F⟩ call c137 (f137.JS I call) :=
  ⟨fun id hid ρ h => by
    have hc : c137.body.cnt = 4 := by kernel_rfl
    rw [hc] at hid
    exact match id, hid with
    | 0, _ => rfl
    | 1, _ => rfl
    | 2, _ => rfl
    | 3, _ => rfl
    | id + 4, hid => absurd hid (by omega), fun n id hid ρ h => by
    have hc : c137.body.cnt = 4 := by kernel_rfl
    rw [hc] at hid
    exact match id, hid with
    | 0, _ => f137.q0 I call n ρ h
    | 1, _ => f137.q1 I call n ρ h
    | 2, _ => f137.q2 I call n ρ h
    | 3, _ => f137.q3 I call n ρ h
    | id + 4, hid => absurd hid (by omega)⟩
noncomputable def f137.run (I : Inp) : SF := fun call n a h =>
  match a with
  | [v0] => f137.e I call (f137.J I call n) v0 h
  | _ => none
theorem f137.qe (I : Inp) (call : CallFn) (n : Nat) (v0 : AVal) (h : AHeap) : f137.e I call (f137.J I call n) v0 h = execC P I call (f137.JS I call n) c137.body 0 (finV I c137.results) (argV [v0]) h := by kernel_rfl
theorem f137.code : codeOf P 137 = some c137 := by kernel_rfl
theorem f137.ok (I : Inp) (F : Nat → Option AFn) (hF : F 137 = some (.code c137)) : SfOk P I F 137 (f137.run I) := by
  intro call hc n args h r hr
  unfold f137.run at hr
  split at hr
  · exact fn_sound (C := ⟨P, I, F⟩) (n := n) hc hF (Nat.le_of_ble_eq_true (by kernel_rfl)) (by kernel_rfl) (f137.S I F call) (by kernel_rfl) ((f137.qe I call n _ h).symm.trans hr)
  · cases hr
/-! haruspex/ir.Uses -/
noncomputable def c138 : AFunc := (AFunc.mk 42 1 [(.tmp 2)] (.seq (.region [(S 1 (.box (T 0)) .none), (S 2 (.move (.val .nils)) .none)]) (.seq (.region [(S 3 (.move (.val .nils)) .none)]) (.seq (.seq (.region [(FA 4 0 1), (L1 5 4)]) (.block 0 (.seq (.block 4 (.seq (.block 3 (.seq (.block 2 (.seq (.block 1 (.seq (.seq (.seq (.seq (.region [(S 7 (.bin .eql (T 5) (V 2)) .none), (M 6 7)]) (.cond (T 6) .skip (.region [(S 8 (.bin .eql (T 5) (V 8)) .none), (M 6 8)]))) (.cond (T 6) (.exit 1) .skip)) (.seq (.seq (.seq (.region [(S 10 (.bin .eql (T 5) (V 6)) .none), (M 9 10)]) (.cond (T 9) .skip (.seq (.region [(S 11 (.bin .eql (T 5) (V 7)) .none), (M 9 11)]) (.cond (T 9) .skip (.seq (.region [(S 12 (.bin .eql (T 5) (V 9)) .none), (M 9 12)]) (.cond (T 9) .skip (.seq (.region [(S 13 (.bin .eql (T 5) (V 11)) .none), (M 9 13)]) (.cond (T 9) .skip (.region [(S 14 (.bin .eql (T 5) (V 15)) .none), (M 9 14)]))))))))) (.cond (T 9) (.exit 2) .skip)) (.seq (.seq (.seq (.region [(S 16 (.bin .eql (T 5) (V 13)) .none), (M 15 16)]) (.cond (T 15) .skip (.region [(S 17 (.bin .eql (T 5) (V 14)) .none), (M 15 17)]))) (.cond (T 15) (.exit 3) .skip)) (.seq (.region [(S 19 (.bin .eql (T 5) (V 12)) .none), (M 18 19)]) (.cond (T 18) (.exit 4) .skip))))) (.exit 0))) (.seq (.region [(M 20 3), (FA 21 2 1), (L1 22 21), (FA 23 3 1), (L1 24 23), (S 25 (.buildSlice [(Z 0)] 2 [(0, (1, (T 22))), (1, (1, (T 24)))]) .none), (S 26 (.append 1 8 (T 20) (T 25)) .none), (M 3 26)]) (.exit 0)))) (.seq (.region [(M 27 3), (FA 28 2 1), (L1 29 28), (S 30 (.buildSlice [(Z 0)] 1 [(0, (1, (T 29)))]) .none), (S 31 (.append 1 8 (T 27) (T 30)) .none), (M 3 31)]) (.exit 0)))) (.region [(M 32 3), (FA 33 2 1), (L1 34 33), (S 35 (.buildSlice [(Z 0)] 1 [(0, (1, (T 34)))]) .none), (S 36 (.append 1 8 (T 32) (T 35)) .none), (M 3 36)]))) (.seq (.region [(M 37 3), (FA 38 5 1), (L1 39 38), (S 40 (.append 1 8 (T 37) (T 39)) .none), (M 3 40)]) (.exit 0))))) (.seq (.region [(M 41 3), (M 2 41)]) .ret)))))
abbrev f138.Js : Type := ((((AVal → AHeap → Rs) × ((AVal → AVal → AHeap → Rs) × (AVal → AVal → AHeap → Rs))) × ((AVal → AVal → AHeap → Rs) × ((AVal → AVal → AHeap → Rs) × (AVal → AHeap → Rs)))) × (((AVal → AVal → AVal → AHeap → Rs) × ((AVal → AVal → AVal → AVal → AHeap → Rs) × (AVal → AVal → AVal → AHeap → Rs))) × ((AVal → AVal → AVal → AVal → AHeap → Rs) × ((AVal → AVal → AVal → AHeap → Rs) × (AVal → AVal → AVal → AVal → AHeap → Rs)))))
noncomputable def f138.b0 (I : Inp) (call : CallFn) (j : f138.Js) (v3 : AVal) (h : AHeap) : Rs :=
  some (v3, h)
noncomputable def f138.b1 (I : Inp) (call : CallFn) (j : f138.Js) (v1 v3 : AVal) (h : AHeap) : Rs :=
  bndP (pFieldAddr 5 v1) fun v38 =>
  bndP (pLoad1 I v38 h) fun v39 =>
  bnd (sAppend I 1 8 v3 v39 h) fun v40 h1 =>
  j.1.1.1 v40 h1
noncomputable def f138.b2 (I : Inp) (call : CallFn) (j : f138.Js) (v1 v3 : AVal) (h : AHeap) : Rs :=
  bndP (pFieldAddr 2 v1) fun v33 =>
  bndP (pLoad1 I v33 h) fun v34 =>
  bnd (sBuildSlice [(Z 0)] 1 [(0, 1, v34)] h) fun v35 h1 =>
  bnd (sAppend I 1 8 v3 v35 h1) fun v36 h2 =>
  j.1.1.2.1 v1 v36 h2
noncomputable def f138.b3 (I : Inp) (call : CallFn) (j : f138.Js) (v1 v3 : AVal) (h : AHeap) : Rs :=
  bndP (pFieldAddr 2 v1) fun v28 =>
  bndP (pLoad1 I v28 h) fun v29 =>
  bnd (sBuildSlice [(Z 0)] 1 [(0, 1, v29)] h) fun v30 h1 =>
  bnd (sAppend I 1 8 v3 v30 h1) fun v31 h2 =>
  j.1.1.1 v31 h2
noncomputable def f138.b4 (I : Inp) (call : CallFn) (j : f138.Js) (v1 v3 : AVal) (h : AHeap) : Rs :=
  bndP (pFieldAddr 2 v1) fun v21 =>
  bndP (pLoad1 I v21 h) fun v22 =>
  bndP (pFieldAddr 3 v1) fun v23 =>
  bndP (pLoad1 I v23 h) fun v24 =>
  bnd (sBuildSlice [(Z 0)] 2 [(0, 1, v22), (1, 1, v24)] h) fun v25 h1 =>
  bnd (sAppend I 1 8 v3 v25 h1) fun v26 h2 =>
  j.1.1.1 v26 h2
noncomputable def f138.b5 (I : Inp) (call : CallFn) (j : f138.Js) (v3 : AVal) (h : AHeap) : Rs :=
  j.1.1.1 v3 h
noncomputable def f138.b6 (I : Inp) (call : CallFn) (j : f138.Js) (v1 v3 v5 : AVal) (h : AHeap) : Rs :=
  bndP (pBin .eql v5 (Z 6)) fun v10 =>
  sCond v10 (
  bndP (pBin .eql v5 (Z 7)) fun v11 =>
  sCond v11 (
  bndP (pBin .eql v5 (Z 9)) fun v12 =>
  sCond v12 (
  bndP (pBin .eql v5 (Z 11)) fun v13 =>
  sCond v13 (
  bndP (pBin .eql v5 (Z 15)) fun v14 =>
  j.2.2.1 v1 v3 v5 v14 h) (
  j.2.2.1 v1 v3 v5 v13 h)) (
  j.2.2.1 v1 v3 v5 v12 h)) (
  j.2.2.1 v1 v3 v5 v11 h)) (
  j.2.2.1 v1 v3 v5 v10 h)
noncomputable def f138.b7 (I : Inp) (call : CallFn) (j : f138.Js) (v1 v3 v5 v6 : AVal) (h : AHeap) : Rs :=
  sCond v6 (
  j.2.1.1 v1 v3 v5 h) (
  j.1.2.2.1 v1 v3 h)
noncomputable def f138.b8 (I : Inp) (call : CallFn) (j : f138.Js) (v1 v3 v5 : AVal) (h : AHeap) : Rs :=
  bndP (pBin .eql v5 (Z 13)) fun v16 =>
  sCond v16 (
  bndP (pBin .eql v5 (Z 14)) fun v17 =>
  j.2.2.2.2 v1 v3 v5 v17 h) (
  j.2.2.2.2 v1 v3 v5 v16 h)
noncomputable def f138.b9 (I : Inp) (call : CallFn) (j : f138.Js) (v1 v3 v5 v9 : AVal) (h : AHeap) : Rs :=
  sCond v9 (
  j.2.1.2.2 v1 v3 v5 h) (
  j.1.2.1 v1 v3 h)
noncomputable def f138.b10 (I : Inp) (call : CallFn) (j : f138.Js) (v1 v3 v5 : AVal) (h : AHeap) : Rs :=
  bndP (pBin .eql v5 (Z 12)) fun v19 =>
  sCond v19 (
  j.1.2.2.2 v3 h) (
  j.1.1.2.1 v1 v3 h)
noncomputable def f138.b11 (I : Inp) (call : CallFn) (j : f138.Js) (v1 v3 v5 v15 : AVal) (h : AHeap) : Rs :=
  sCond v15 (
  j.2.2.2.1 v1 v3 v5 h) (
  j.1.1.2.2 v1 v3 h)
noncomputable def f138.e (I : Inp) (call : CallFn) (j : f138.Js) (v0 : AVal) (h : AHeap) : Rs :=
  bnd (sBox v0 h) fun v1 h1 =>
  bndP (pFieldAddr 0 v1) fun v4 =>
  bndP (pLoad1 I v4 h1) fun v5 =>
  bndP (pBin .eql v5 (Z 2)) fun v7 =>
  sCond v7 (
  bndP (pBin .eql v5 (Z 8)) fun v8 =>
  j.2.1.2.1 v1 .nils v5 v8 h1) (
  j.2.1.2.1 v1 .nils v5 v7 h1)
noncomputable def f138.J (I : Inp) (call : CallFn) (n : Nat) : f138.Js :=
  Nat.rec (motive := fun _ => f138.Js) ((((fun _ _ => none), ((fun _ _ _ => none), (fun _ _ _ => none))), ((fun _ _ _ => none), ((fun _ _ _ => none), (fun _ _ => none)))), (((fun _ _ _ _ => none), ((fun _ _ _ _ _ => none), (fun _ _ _ _ => none))), ((fun _ _ _ _ _ => none), ((fun _ _ _ _ => none), (fun _ _ _ _ _ => none))))) (fun _ ih => (((f138.b0 I call ih, (f138.b1 I call ih, f138.b2 I call ih)), (f138.b3 I call ih, (f138.b4 I call ih, f138.b5 I call ih))), ((f138.b6 I call ih, (f138.b7 I call ih, f138.b8 I call ih)), (f138.b9 I call ih, (f138.b10 I call ih, f138.b11 I call ih))))) n
noncomputable def f138.JS (I : Inp) (call : CallFn) (n : Nat) : Jmp := fun id ρ h =>
  (Bool.rec (motive := fun _ => _) (Bool.rec (motive := fun _ => _) (Bool.rec (motive := fun _ => _) (Bool.rec (motive := fun _ => _) ((f138.J I call n).2.2.2.2 (ρ 1) (ρ 3) (ρ 5) (ρ 15) h) ((f138.J I call n).2.2.2.1 (ρ 1) (ρ 3) (ρ 5) h) (Nat.blt id 11)) ((f138.J I call n).2.2.1 (ρ 1) (ρ 3) (ρ 5) (ρ 9) h) (Nat.blt id 10)) (Bool.rec (motive := fun _ => _) (Bool.rec (motive := fun _ => _) ((f138.J I call n).2.1.2.2 (ρ 1) (ρ 3) (ρ 5) h) ((f138.J I call n).2.1.2.1 (ρ 1) (ρ 3) (ρ 5) (ρ 6) h) (Nat.blt id 8)) ((f138.J I call n).2.1.1 (ρ 1) (ρ 3) (ρ 5) h) (Nat.blt id 7)) (Nat.blt id 9)) (Bool.rec (motive := fun _ => _) (Bool.rec (motive := fun _ => _) (Bool.rec (motive := fun _ => _) ((f138.J I call n).1.2.2.2 (ρ 3) h) ((f138.J I call n).1.2.2.1 (ρ 1) (ρ 3) h) (Nat.blt id 5)) ((f138.J I call n).1.2.1 (ρ 1) (ρ 3) h) (Nat.blt id 4)) (Bool.rec (motive := fun _ => _) (Bool.rec (motive := fun _ => _) ((f138.J I call n).1.1.2.2 (ρ 1) (ρ 3) h) ((f138.J I call n).1.1.2.1 (ρ 1) (ρ 3) h) (Nat.blt id 2)) ((f138.J I call n).1.1.1 (ρ 3) h) (Nat.blt id 1)) (Nat.blt id 3)) (Nat.blt id 6))
theorem f138.q0 (I : Inp) (call : CallFn) (n : Nat) (ρ : Fun) (h : AHeap) : f138.JS I call (n + 1) 0 ρ h = labC P I call (f138.JS I call n) c138.body 0 (finV I c138.results) 0 ρ h := by kernel_rfl
theorem f138.q1 (I : Inp) (call : CallFn) (n : Nat) (ρ : Fun) (h : AHeap) : f138.JS I call (n + 1) 1 ρ h = labC P I call (f138.JS I call n) c138.body 0 (finV I c138.results) 1 ρ h := by kernel_rfl
theorem f138.q2 (I : Inp) (call : CallFn) (n : Nat) (ρ : Fun) (h : AHeap) : f138.JS I call (n + 1) 2 ρ h = labC P I call (f138.JS I call n) c138.body 0 (finV I c138.results) 2 ρ h := by kernel_rfl
theorem f138.q3 (I : Inp) (call : CallFn) (n : Nat) (ρ : Fun) (h : AHeap) : f138.JS I call (n + 1) 3 ρ h = labC P I call (f138.JS I call n) c138.body 0 (finV I c138.results) 3 ρ h := by kernel_rfl
theorem f138.q4 (I : Inp) (call : CallFn) (n : Nat) (ρ : Fun) (h : AHeap) : f138.JS I call (n + 1) 4 ρ h = labC P I call (f138.JS I call n) c138.body 0 (finV I c138.results) 4 ρ h := by kernel_rfl
theorem f138.q5 (I : Inp) (call : CallFn) (n : Nat) (ρ : Fun) (h : AHeap) : f138.JS I call (n + 1) 5 ρ h = labC P I call (f138.JS I call n) c138.body 0 (finV I c138.results) 5 ρ h := by kernel_rfl
theorem f138.q6 (I : Inp) (call : CallFn) (n : Nat) (ρ : Fun) (h : AHeap) : f138.JS I call (n + 1) 6 ρ h = labC P I call (f138.JS I call n) c138.body 0 (finV I c138.results) 6 ρ h := by kernel_rfl
theorem f138.q7 (I : Inp) (call : CallFn) (n : Nat) (ρ : Fun) (h : AHeap) : f138.JS I call (n + 1) 7 ρ h = labC P I call (f138.JS I call n) c138.body 0 (finV I c138.results) 7 ρ h := by kernel_rfl
theorem f138.q8 (I : Inp) (call : CallFn) (n : Nat) (ρ : Fun) (h : AHeap) : f138.JS I call (n + 1) 8 ρ h = labC P I call (f138.JS I call n) c138.body 0 (finV I c138.results) 8 ρ h := by kernel_rfl
theorem f138.q9 (I : Inp) (call : CallFn) (n : Nat) (ρ : Fun) (h : AHeap) : f138.JS I call (n + 1) 9 ρ h = labC P I call (f138.JS I call n) c138.body 0 (finV I c138.results) 9 ρ h := by kernel_rfl
theorem f138.q10 (I : Inp) (call : CallFn) (n : Nat) (ρ : Fun) (h : AHeap) : f138.JS I call (n + 1) 10 ρ h = labC P I call (f138.JS I call n) c138.body 0 (finV I c138.results) 10 ρ h := by kernel_rfl
theorem f138.q11 (I : Inp) (call : CallFn) (n : Nat) (ρ : Fun) (h : AHeap) : f138.JS I call (n + 1) 11 ρ h = labC P I call (f138.JS I call n) c138.body 0 (finV I c138.results) 11 ρ h := by kernel_rfl
theorem f138.S (I : Inp) (F : Nat → Option AFn) (call : CallFn) : SFn ⟨P, I, F⟩ call c138 (f138.JS I call) :=
  ⟨fun id hid ρ h => by
    have hc : c138.body.cnt = 12 := by kernel_rfl
    rw [hc] at hid
    exact match id, hid with
    | 0, _ => rfl
    | 1, _ => rfl
    | 2, _ => rfl
    | 3, _ => rfl
    | 4, _ => rfl
    | 5, _ => rfl
    | 6, _ => rfl
    | 7, _ => rfl
    | 8, _ => rfl
    | 9, _ => rfl
    | 10, _ => rfl
    | 11, _ => rfl
    | id + 12, hid => absurd hid (by omega), fun n id hid ρ h => by
    have hc : c138.body.cnt = 12 := by kernel_rfl
    rw [hc] at hid
    exact match id, hid with
    | 0, _ => f138.q0 I call n ρ h
    | 1, _ => f138.q1 I call n ρ h
    | 2, _ => f138.q2 I call n ρ h
    | 3, _ => f138.q3 I call n ρ h
    | 4, _ => f138.q4 I call n ρ h
    | 5, _ => f138.q5 I call n ρ h
    | 6, _ => f138.q6 I call n ρ h
    | 7, _ => f138.q7 I call n ρ h
    | 8, _ => f138.q8 I call n ρ h
    | 9, _ => f138.q9 I call n ρ h
    | 10, _ => f138.q10 I call n ρ h
    | 11, _ => f138.q11 I call n ρ h
    | id + 12, hid => absurd hid (by omega)⟩
noncomputable def f138.run (I : Inp) : SF := fun call n a h =>
  match a with
  | [v0] => f138.e I call (f138.J I call n) v0 h
  | _ => none
theorem f138.qe (I : Inp) (call : CallFn) (n : Nat) (v0 : AVal) (h : AHeap) : f138.e I call (f138.J I call n) v0 h = execC P I call (f138.JS I call n) c138.body 0 (finV I c138.results) (argV [v0]) h := by kernel_rfl
theorem f138.code : codeOf P 138 = some c138 := by kernel_rfl
theorem f138.ok (I : Inp) (F : Nat → Option AFn) (hF : F 138 = some (.code c138)) : SfOk P I F 138 (f138.run I) := by
  intro call hc n args h r hr
  unfold f138.run at hr
  split at hr
  · exact fn_sound (C := ⟨P, I, F⟩) (n := n) hc hF (Nat.le_of_ble_eq_true (by kernel_rfl)) (by kernel_rfl) (f138.S I F call) (by kernel_rfl) ((f138.qe I call n _ h).symm.trans hr)
  · cases hr
/-! (*haruspex/bitset.Set).In -/
noncomputable def c139 : AFunc := (AFunc.mk 22 2 [(.tmp 4)] (.seq (.region [(S 4 (.move (.val (.bool .false))) .none)]) (.seq (.seq (.region [(M 7 0), (S 8 (.call 168 [(T 7)]) .none), (S 9 (.lenSl (T 8)) .none), (S 10 (.move (V 0)) .none)]) (.block 0 (.loop (.seq (.region [(S 11 (.bin .lss (T 10) (T 9)) .none)]) (.seq (.cond (T 11) .skip (.exit 0)) (.seq (.block 1 (.seq (.region [(M 12 10), (S 13 (.indexAddr 1 (T 8) (T 10)) .none), (L1 14 13), (M 5 12), (M 6 14)]) (.seq (.region [(M 15 6), (M 16 1), (M 17 5), (S 18 (.call 162 [(T 16), (T 17)]) .none), (S 19 (.bin .andNot (T 15) (T 18)) .none), (S 20 (.bin .neq (T 19) (.val (.int .u64 (.ofNat 0)))) .none)]) (.cond (T 20) (.seq (.region [(S 4 (.move (.val (.bool .false))) .none)]) .ret) .skip)))) (.region [(S 21 (.bin .add (T 10) (V 1)) .none), (M 10 21)]))))))) (.seq (.region [(S 4 (.move (.val (.bool .true))) .none)]) .ret))))
abbrev f139.Js : Type := (((AHeap → Rs) × (AVal → AVal → AVal → AVal → AHeap → Rs)) × ((AVal → AVal → AVal → AVal → AHeap → Rs) × (AVal → AVal → AVal → AVal → AHeap → Rs)))
noncomputable def f139.b0 (I : Inp) (call : CallFn) (j : f139.Js) (h : AHeap) : Rs :=
  some ((.bool .true), h)
noncomputable def f139.b1 (I : Inp) (call : CallFn) (j : f139.Js) (v1 v8 v9 v10 : AVal) (h : AHeap) : Rs :=
  bndP (pBin .lss v10 v9) fun v11 =>
  sCond v11 (
  j.1.1 h) (
  j.2.1 v1 v8 v9 v10 h)
noncomputable def f139.b2 (I : Inp) (call : CallFn) (j : f139.Js) (v1 v8 v9 v10 : AVal) (h : AHeap) : Rs :=
  bndP (pIndexAddr 1 v8 v10) fun v13 =>
  bndP (pLoad1 I v13 h) fun v14 =>
  bnd (call 162 [v1, v10] h) fun v18 h1 =>
  bndP (pBin .andNot v14 v18) fun v19 =>
  bndP (pBin .neq v19 (.int .u64 (.ofNat 0))) fun v20 =>
  sCond v20 (
  j.2.2 v1 v8 v9 v10 h1) (
  some ((.bool .false), h1))
noncomputable def f139.b3 (I : Inp) (call : CallFn) (j : f139.Js) (v1 v8 v9 v10 : AVal) (h : AHeap) : Rs :=
  bndP (pBin .add v10 (Z 1)) fun v21 =>
  j.1.2 v1 v8 v9 v21 h
noncomputable def f139.e (I : Inp) (call : CallFn) (j : f139.Js) (v0 v1 : AVal) (h : AHeap) : Rs :=
  bnd (call 168 [v0] h) fun v8 h1 =>
  bndP (pLenSl v8) fun v9 =>
  j.1.2 v1 v8 v9 (Z 0) h1
noncomputable def f139.J (I : Inp) (call : CallFn) (n : Nat) : f139.Js :=
  Nat.rec (motive := fun _ => f139.Js) (((fun _ => none), (fun _ _ _ _ _ => none)), ((fun _ _ _ _ _ => none), (fun _ _ _ _ _ => none))) (fun _ ih => ((f139.b0 I call ih, f139.b1 I call ih), (f139.b2 I call ih, f139.b3 I call ih))) n
noncomputable def f139.JS (I : Inp) (call : CallFn) (n : Nat) : Jmp := fun id ρ h =>
  (Bool.rec (motive := fun _ => _) (Bool.rec (motive := fun _ => _) ((f139.J I call n).2.2 (ρ 1) (ρ 8) (ρ 9) (ρ 10) h) ((f139.J I call n).2.1 (ρ 1) (ρ 8) (ρ 9) (ρ 10) h) (Nat.blt id 3)) (Bool.rec (motive := fun _ => _) ((f139.J I call n).1.2 (ρ 1) (ρ 8) (ρ 9) (ρ 10) h) ((f139.J I call n).1.1 h) (Nat.blt id 1)) (Nat.blt id 2))
theorem f139.q0 (I : Inp) (call : CallFn) (n : Nat) (ρ : Fun) (h : AHeap) : f139.JS I call (n + 1) 0 ρ h = labC P I call (f139.JS I call n) c139.body 0 (finV I c139.results) 0 ρ h := by kernel_rfl
theorem f139.q1 (I : Inp) (call : CallFn) (n : Nat) (ρ : Fun) (h : AHeap) : f139.JS I call (n + 1) 1 ρ h = labC P I call (f139.JS I call n) c139.body 0 (finV I c139.results) 1 ρ h := by kernel_rfl
theorem f139.q2 (I : Inp) (call : CallFn) (n : Nat) (ρ : Fun) (h : AHeap) : f139.JS I call (n + 1) 2 ρ h = labC P I call (f139.JS I call n) c139.body 0 (finV I c139.results) 2 ρ h := by kernel_rfl
theorem f139.q3 (I : Inp) (call : CallFn) (n : Nat) (ρ : Fun) (h : AHeap) : f139.JS I call (n + 1) 3 ρ h = labC P I call (f139.JS I call n) c139.body 0 (finV I c139.results) 3 ρ h := by kernel_rfl
theorem f139.S (I : Inp) (F : Nat → Option AFn) (call : CallFn) : SFn ⟨P, I, F⟩ call c139 (f139.JS I call) :=
  ⟨fun id hid ρ h => by
    have hc : c139.body.cnt = 4 := by kernel_rfl
    rw [hc] at hid
    exact match id, hid with
    | 0, _ => rfl
    | 1, _ => rfl
    | 2, _ => rfl
    | 3, _ => rfl
    | id + 4, hid => absurd hid (by omega), fun n id hid ρ h => by
    have hc : c139.body.cnt = 4 := by kernel_rfl
    rw [hc] at hid
    exact match id, hid with
    | 0, _ => f139.q0 I call n ρ h
    | 1, _ => f139.q1 I call n ρ h
    | 2, _ => f139.q2 I call n ρ h
    | 3, _ => f139.q3 I call n ρ h
    | id + 4, hid => absurd hid (by omega)⟩
noncomputable def f139.run (I : Inp) : SF := fun call n a h =>
  match a with
  | [v0, v1] => f139.e I call (f139.J I call n) v0 v1 h
  | _ => none
theorem f139.qe (I : Inp) (call : CallFn) (n : Nat) (v0 v1 : AVal) (h : AHeap) : f139.e I call (f139.J I call n) v0 v1 h = execC P I call (f139.JS I call n) c139.body 0 (finV I c139.results) (argV [v0, v1]) h := by kernel_rfl
theorem f139.code : codeOf P 139 = some c139 := by kernel_rfl
theorem f139.ok (I : Inp) (F : Nat → Option AFn) (hF : F 139 = some (.code c139)) : SfOk P I F 139 (f139.run I) := by
  intro call hc n args h r hr
  unfold f139.run at hr
  split at hr
  · exact fn_sound (C := ⟨P, I, F⟩) (n := n) hc hF (Nat.le_of_ble_eq_true (by kernel_rfl)) (by kernel_rfl) (f139.S I F call) (by kernel_rfl) ((f139.qe I call n _ _ h).symm.trans hr)
  · cases hr
/-! haruspex/ir.Def -/
noncomputable def c140 : AFunc := (AFunc.mk 20 1 [(.tmp 2), (.tmp 3)] (.seq (.region [(S 1 (.box (T 0)) .none), (S 2 (.move (V 0)) .none), (S 3 (.move (.val (.bool .false))) .none)]) (.seq (.seq (.region [(FA 4 0 1), (L1 5 4)]) (.block 0 (.seq (.seq (.region [(S 7 (.bin .eql (T 5) (V 8)) .none), (M 6 7)]) (.cond (T 6) .skip (.seq (.region [(S 8 (.bin .eql (T 5) (V 9)) .none), (M 6 8)]) (.cond (T 6) .skip (.region [(S 9 (.bin .eql (T 5) (V 15)) .none), (M 6 9)]))))) (.cond (T 6) (.seq (.region [(S 2 (.move (V 0)) .none), (S 3 (.move (.val (.bool .false))) .none)]) .ret) .skip)))) (.seq (.seq (.region [(FA 10 0 1), (L1 11 10), (S 12 (.bin .lss (T 11) (V 1)) .none), (M 13 12), (S 14 (.fieldAddr 0 (T 1)) (.some (13, .false))), (S 15 (.load1 (T 14)) (.some (13, .false))), (S 16 (.bin .gtr (T 15) (V 15)) (.some (13, .false))), (S 17 (.pick (T 13) (.val (.bool .true)) (T 16)) .none)]) (.cond (T 17) (.seq (.region [(S 2 (.move (V 0)) .none), (S 3 (.move (.val (.bool .false))) .none)]) .ret) .skip)) (.seq (.region [(FA 18 1 1), (L1 19 18), (M 2 19), (S 3 (.move (.val (.bool .true))) .none)]) .ret)))))
abbrev f140.Js : Type := ((AVal → AHeap → Rs) × ((AVal → AVal → AHeap → Rs) × (AVal → AHeap → Rs)))
noncomputable def f140.b0 (I : Inp) (call : CallFn) (j : f140.Js) (v1 : AVal) (h : AHeap) : Rs :=
  bndP (pFieldAddr 0 v1) fun v10 =>
  bndP (pLoad1 I v10 h) fun v11 =>
  bndP (pBin .lss v11 (Z 1)) fun v12 =>
  bnd (sGuard v12 .false (lift (pFieldAddr 0 v1) h) h) fun v14 h1 =>
  bnd (sGuard v12 .false (lift (pLoad1 I v14 h1) h1) h1) fun v15 h2 =>
  bnd (sGuard v12 .false (lift (pBin .gtr v15 (Z 15)) h2) h2) fun v16 h3 =>
  bndP (pPick v12 (.bool .true) v16) fun v17 =>
  sCond v17 (
  j.2.2 v1 h3) (
  some (.tuple [(Z 0), (.bool .false)], h3))
noncomputable def f140.b1 (I : Inp) (call : CallFn) (j : f140.Js) (v1 v6 : AVal) (h : AHeap) : Rs :=
  sCond v6 (
  j.1 v1 h) (
  some (.tuple [(Z 0), (.bool .false)], h))
noncomputable def f140.b2 (I : Inp) (call : CallFn) (j : f140.Js) (v1 : AVal) (h : AHeap) : Rs :=
  bndP (pFieldAddr 1 v1) fun v18 =>
  bndP (pLoad1 I v18 h) fun v19 =>
  some (.tuple [v19, (.bool .true)], h)
noncomputable def f140.e (I : Inp) (call : CallFn) (j : f140.Js) (v0 : AVal) (h : AHeap) : Rs :=
  bnd (sBox v0 h) fun v1 h1 =>
  bndP (pFieldAddr 0 v1) fun v4 =>
  bndP (pLoad1 I v4 h1) fun v5 =>
  bndP (pBin .eql v5 (Z 8)) fun v7 =>
  sCond v7 (
  bndP (pBin .eql v5 (Z 9)) fun v8 =>
  sCond v8 (
  bndP (pBin .eql v5 (Z 15)) fun v9 =>
  j.2.1 v1 v9 h1) (
  j.2.1 v1 v8 h1)) (
  j.2.1 v1 v7 h1)
noncomputable def f140.J (I : Inp) (call : CallFn) (n : Nat) : f140.Js :=
  Nat.rec (motive := fun _ => f140.Js) ((fun _ _ => none), ((fun _ _ _ => none), (fun _ _ => none))) (fun _ ih => (f140.b0 I call ih, (f140.b1 I call ih, f140.b2 I call ih))) n
noncomputable def f140.JS (I : Inp) (call : CallFn) (n : Nat) : Jmp := fun id ρ h =>
  (Bool.rec (motive := fun _ => _) (Bool.rec (motive := fun _ => _) ((f140.J I call n).2.2 (ρ 1) h) ((f140.J I call n).2.1 (ρ 1) (ρ 6) h) (Nat.blt id 2)) ((f140.J I call n).1 (ρ 1) h) (Nat.blt id 1))
theorem f140.q0 (I : Inp) (call : CallFn) (n : Nat) (ρ : Fun) (h : AHeap) : f140.JS I call (n + 1) 0 ρ h = labC P I call (f140.JS I call n) c140.body 0 (finV I c140.results) 0 ρ h := by kernel_rfl
theorem f140.q1 (I : Inp) (call : CallFn) (n : Nat) (ρ : Fun) (h : AHeap) : f140.JS I call (n + 1) 1 ρ h = labC P I call (f140.JS I call n) c140.body 0 (finV I c140.results) 1 ρ h := by kernel_rfl
theorem f140.q2 (I : Inp) (call : CallFn) (n : Nat) (ρ : Fun) (h : AHeap) : f140.JS I call (n + 1) 2 ρ h = labC P I call (f140.JS I call n) c140.body 0 (finV I c140.results) 2 ρ h := by kernel_rfl
theorem f140.S (I : Inp) (F : Nat → Option AFn) (call : CallFn) : SFn ⟨P, I, F⟩ call c140 (f140.JS I call) :=
  ⟨fun id hid ρ h => by
    have hc : c140.body.cnt = 3 := by kernel_rfl
    rw [hc] at hid
    exact match id, hid with
    | 0, _ => rfl
    | 1, _ => rfl
    | 2, _ => rfl
    | id + 3, hid => absurd hid (by omega), fun n id hid ρ h => by
    have hc : c140.body.cnt = 3 := by kernel_rfl
    rw [hc] at hid
    exact match id, hid with
    | 0, _ => f140.q0 I call n ρ h
    | 1, _ => f140.q1 I call n ρ h
    | 2, _ => f140.q2 I call n ρ h
    | id + 3, hid => absurd hid (by omega)⟩
noncomputable def f140.run (I : Inp) : SF := fun call n a h =>
  match a with
  | [v0] => f140.e I call (f140.J I call n) v0 h
  | _ => none
theorem f140.qe (I : Inp) (call : CallFn) (n : Nat) (v0 : AVal) (h : AHeap) : f140.e I call (f140.J I call n) v0 h = execC P I call (f140.JS I call n) c140.body 0 (finV I c140.results) (argV [v0]) h := by kernel_rfl
theorem f140.code : codeOf P 140 = some c140 := by kernel_rfl
theorem f140.ok (I : Inp) (F : Nat → Option AFn) (hF : F 140 = some (.code c140)) : SfOk P I F 140 (f140.run I) := by
  intro call hc n args h r hr
  unfold f140.run at hr
  split at hr
  · exact fn_sound (C := ⟨P, I, F⟩) (n := n) hc hF (Nat.le_of_ble_eq_true (by kernel_rfl)) (by kernel_rfl) (f140.S I F call) (by kernel_rfl) ((f140.qe I call n _ h).symm.trans hr)
  · cases hr
/-! (*haruspex/bitset.Set).Add -/
noncomputable def c141 : AFunc := (AFunc.mk 50 2 [(.tmp 4)] (.seq (.region [(S 4 (.move (.val (.bool .false))) .none)]) (.seq (.seq (.region [(M 5 0), (S 6 (.eq .false .ptr .true (T 5) (.val .nilp)) .none), (M 7 6), (S 8 (.move (T 1)) (.some (7, .false))), (S 9 (.bin .lss (T 8) (V 0)) (.some (7, .false))), (S 10 (.pick (T 7) (.val (.bool .true)) (T 9)) .none), (M 11 10), (S 12 (.move (T 1)) (.some (11, .false))), (S 13 (.bin .geq (T 12) (V 5000)) (.some (11, .false))), (S 14 (.pick (T 11) (.val (.bool .true)) (T 13)) .none), (M 15 14), (S 16 (.move (T 0)) (.some (15, .false))), (S 17 (.move (T 1)) (.some (15, .false))), (S 18 (.call 135 [(T 16), (T 17)]) (.some (15, .false))), (S 19 (.pick (T 15) (.val (.bool .true)) (T 18)) .none)]) (.cond (T 19) (.seq (.region [(S 4 (.move (.val (.bool .false))) .none)]) .ret) .skip)) (.seq (.block 0 (.loop (.seq (.seq (.region [(M 20 0), (NC 21 20), (FA 22 0 21), (L1 23 22), (S 24 (.lenSl (T 23)) .none), (M 25 1), (S 26 (.bin .quo (T 25) (V 64)) .none), (S 27 (.bin .leq (T 24) (T 26)) .none)]) (.cond (T 27) .skip (.exit 0))) (.block 1 (.region [(M 28 0), (M 29 0), (NC 30 29), (FA 31 0 30), (L1 32 31), (S 33 (.buildSlice [(.int .u64 (.ofNat 0))] 1 [(0, (1, (.val (.int .u64 (.ofNat 0)))))]) .none), (S 34 (.append 1 8 (T 32) (T 33)) .none), (NC 35 28), (FA 36 0 35), (AOper.mk .none (.store 1 (T 36) (T 34)) .none)]))))) (.seq (.draw [(M 37 0), (NC 38 37), (FA 39 0 38), (L1 40 39), (M 41 1), (S 42 (.bin .quo (T 41) (V 64)) .none), (S 43 (.indexAddr 1 (T 40) (T 42)) .none), (L1 44 43), (M 45 1), (S 46 (.bin .rem (T 45) (V 64)) .none), (S 47 (.bin .shl (.val (.int .u64 (.ofNat 1))) (T 46)) .none), (S 48 (.bin .or (T 44) (T 47)) .none), (S 49 (.indexAddr 1 (T 40) (T 42)) .none), (AOper.mk .none (.store 1 (T 49) (T 48)) .none)] [N, N, N, N, N, N, N, N, N, N, N, N, N, Y] 0) (.seq (.region [(S 4 (.move (.val (.bool .true))) .none)]) .ret))))))
abbrev f141.Js : Type := (((AVal → AVal → AHeap → Rs) × (AVal → AVal → AHeap → Rs)) × ((AVal → AVal → AHeap → Rs) × (AVal → AVal → AHeap → Rs)))
noncomputable def f141.b0 (I : Inp) (call : CallFn) (j : f141.Js) (v0 v1 : AVal) (h : AHeap) : Rs :=
  j.2.1 v0 v1 h
noncomputable def f141.b1 (I : Inp) (call : CallFn) (j : f141.Js) (v0 v1 : AVal) (h : AHeap) : Rs :=
  bndP (pNilCheck v0) fun v38 =>
  bndP (pFieldAddr 0 v38) fun v39 =>
  bndP (pLoad1 I v39 h) fun v40 =>
  bndP (pBin .quo v1 (Z 64)) fun v42 =>
  bndP (pIndexAddr 1 v40 v42) fun v43 =>
  bndP (pLoad1 I v43 h) fun v44 =>
  bndP (pBin .rem v1 (Z 64)) fun v46 =>
  bndP (pBin .shl (.int .u64 (.ofNat 1)) v46) fun v47 =>
  bndP (pBin .or v44 v47) fun v48 =>
  bndP (pIndexAddr 1 v40 v42) fun v49 =>
  bnd (sStore 1 v49 v48 h) fun _ h1 =>
  some ((.bool .true), h1)
noncomputable def f141.b2 (I : Inp) (call : CallFn) (j : f141.Js) (v0 v1 : AVal) (h : AHeap) : Rs :=
  bndP (pNilCheck v0) fun v21 =>
  bndP (pFieldAddr 0 v21) fun v22 =>
  bndP (pLoad1 I v22 h) fun v23 =>
  bndP (pLenSl v23) fun v24 =>
  bndP (pBin .quo v1 (Z 64)) fun v26 =>
  bndP (pBin .leq v24 v26) fun v27 =>
  sCond v27 (
  j.1.2 v0 v1 h) (
  j.2.2 v0 v1 h)
noncomputable def f141.b3 (I : Inp) (call : CallFn) (j : f141.Js) (v0 v1 : AVal) (h : AHeap) : Rs :=
  bndP (pNilCheck v0) fun v30 =>
  bndP (pFieldAddr 0 v30) fun v31 =>
  bndP (pLoad1 I v31 h) fun v32 =>
  bnd (sBuildSlice [(.int .u64 (.ofNat 0))] 1 [(0, 1, (.int .u64 (.ofNat 0)))] h) fun v33 h1 =>
  bnd (sAppend I 1 8 v32 v33 h1) fun v34 h2 =>
  bndP (pNilCheck v0) fun v35 =>
  bndP (pFieldAddr 0 v35) fun v36 =>
  bnd (sStore 1 v36 v34 h2) fun _ h3 =>
  j.2.1 v0 v1 h3
noncomputable def f141.e (I : Inp) (call : CallFn) (j : f141.Js) (v0 v1 : AVal) (h : AHeap) : Rs :=
  bndP (pEq P .false .ptr .true v0 .nilp h) fun v6 =>
  bnd (sGuard v6 .false (some (v1, h)) h) fun v8 h1 =>
  bnd (sGuard v6 .false (lift (pBin .lss v8 (Z 0)) h1) h1) fun v9 h2 =>
  bndP (pPick v6 (.bool .true) v9) fun v10 =>
  bnd (sGuard v10 .false (some (v1, h2)) h2) fun v12 h3 =>
  bnd (sGuard v10 .false (lift (pBin .geq v12 (Z 5000)) h3) h3) fun v13 h4 =>
  bndP (pPick v10 (.bool .true) v13) fun v14 =>
  bnd (sGuard v14 .false (some (v0, h4)) h4) fun v16 h5 =>
  bnd (sGuard v14 .false (some (v1, h5)) h5) fun v17 h6 =>
  bnd (sGuard v14 .false (call 135 [v16, v17] h6) h6) fun v18 h7 =>
  bndP (pPick v14 (.bool .true) v18) fun v19 =>
  sCond v19 (
  j.1.1 v0 v1 h7) (
  some ((.bool .false), h7))
noncomputable def f141.J (I : Inp) (call : CallFn) (n : Nat) : f141.Js :=
  Nat.rec (motive := fun _ => f141.Js) (((fun _ _ _ => none), (fun _ _ _ => none)), ((fun _ _ _ => none), (fun _ _ _ => none))) (fun _ ih => ((f141.b0 I call ih, f141.b1 I call ih), (f141.b2 I call ih, f141.b3 I call ih))) n
noncomputable def f141.JS (I : Inp) (call : CallFn) (n : Nat) : Jmp := fun id ρ h =>
  (Bool.rec (motive := fun _ => _) (Bool.rec (motive := fun _ => _) ((f141.J I call n).2.2 (ρ 0) (ρ 1) h) ((f141.J I call n).2.1 (ρ 0) (ρ 1) h) (Nat.blt id 3)) (Bool.rec (motive := fun _ => _) ((f141.J I call n).1.2 (ρ 0) (ρ 1) h) ((f141.J I call n).1.1 (ρ 0) (ρ 1) h) (Nat.blt id 1)) (Nat.blt id 2))
theorem f141.q0 (I : Inp) (call : CallFn) (n : Nat) (ρ : Fun) (h : AHeap) : f141.JS I call (n + 1) 0 ρ h = labC P I call (f141.JS I call n) c141.body 0 (finV I c141.results) 0 ρ h := by kernel_rfl
theorem f141.q1 (I : Inp) (call : CallFn) (n : Nat) (ρ : Fun) (h : AHeap) : f141.JS I call (n + 1) 1 ρ h = labC P I call (f141.JS I call n) c141.body 0 (finV I c141.results) 1 ρ h := by kernel_rfl
theorem f141.q2 (I : Inp) (call : CallFn) (n : Nat) (ρ : Fun) (h : AHeap) : f141.JS I call (n + 1) 2 ρ h = labC P I call (f141.JS I call n) c141.body 0 (finV I c141.results) 2 ρ h := by kernel_rfl
theorem f141.q3 (I : Inp) (call : CallFn) (n : Nat) (ρ : Fun) (h : AHeap) : f141.JS I call (n + 1) 3 ρ h = labC P I call (f141.JS I call n) c141.body 0 (finV I c141.results) 3 ρ h := by kernel_rfl
theorem f141.S (I : Inp) (F : Nat → Option AFn) (call : CallFn) : SFn ⟨P, I, F⟩ call c141 (f141.JS I call) :=
  ⟨fun id hid ρ h => by
    have hc : c141.body.cnt = 4 := by kernel_rfl
    rw [hc] at hid
    exact match id, hid with
    | 0, _ => rfl
    | 1, _ => rfl
    | 2, _ => rfl
    | 3, _ => rfl
    | id + 4, hid => absurd hid (by omega), fun n id hid ρ h => by
    have hc : c141.body.cnt = 4 := by kernel_rfl
    rw [hc] at hid
    exact match id, hid with
    | 0, _ => f141.q0 I call n ρ h
    | 1, _ => f141.q1 I call n ρ h
    | 2, _ => f141.q2 I call n ρ h
    | 3, _ => f141.q3 I call n ρ h
    | id + 4, hid => absurd hid (by omega)⟩
noncomputable def f141.run (I : Inp) : SF := fun call n a h =>
  match a with
  | [v0, v1] => f141.e I call (f141.J I call n) v0 v1 h
  | _ => none
theorem f141.qe (I : Inp) (call : CallFn) (n : Nat) (v0 v1 : AVal) (h : AHeap) : f141.e I call (f141.J I call n) v0 v1 h = execC P I call (f141.JS I call n) c141.body 0 (finV I c141.results) (argV [v0, v1]) h := by kernel_rfl
theorem f141.code : codeOf P 141 = some c141 := by kernel_rfl
theorem f141.ok (I : Inp) (F : Nat → Option AFn) (hF : F 141 = some (.code c141)) : SfOk P I F 141 (f141.run I) := by
  intro call hc n args h r hr
  unfold f141.run at hr
  split at hr
  · exact fn_sound (C := ⟨P, I, F⟩) (n := n) hc hF (Nat.le_of_ble_eq_true (by kernel_rfl)) (by kernel_rfl) (f141.S I F call) (by kernel_rfl) ((f141.qe I call n _ _ h).symm.trans hr)
  · cases hr
/-! haruspex/assign.reads -/
noncomputable def c142 : AFunc := (AFunc.mk 14 1 [(.tmp 2)] (.seq (.region [(S 1 (.box (T 0)) .none), (S 2 (.move (.val .nils)) .none)]) (.seq (.seq (.region [(FA 3 1 1), (L1 4 3), (S 5 (.bin .eql (T 4) (V 2)) .none), (M 6 5), (S 7 (.fieldAddr 1 (T 1)) (.some (6, .false))), (S 8 (.load1 (T 7)) (.some (6, .false))), (S 9 (.bin .eql (T 8) (V 3)) (.some (6, .false))), (S 10 (.pick (T 6) (.val (.bool .true)) (T 9)) .none)]) (.cond (T 10) (.seq (.region [(FA 11 2 1), (L1 12 11), (S 13 (.buildSlice [(Z 0)] 1 [(0, (1, (T 12)))]) .none), (M 2 13)]) .ret) .skip)) (.seq (.region [(S 2 (.move (.val .nils)) .none)]) .ret))))
abbrev f142.Js : Type := (AHeap → Rs)
noncomputable def f142.b0 (I : Inp) (call : CallFn) (j : f142.Js) (h : AHeap) : Rs :=
  some (.nils, h)
noncomputable def f142.e (I : Inp) (call : CallFn) (j : f142.Js) (v0 : AVal) (h : AHeap) : Rs :=
  bnd (sBox v0 h) fun v1 h1 =>
  bndP (pFieldAddr 1 v1) fun v3 =>
  bndP (pLoad1 I v3 h1) fun v4 =>
  bndP (pBin .eql v4 (Z 2)) fun v5 =>
  bnd (sGuard v5 .false (lift (pFieldAddr 1 v1) h1) h1) fun v7 h2 =>
  bnd (sGuard v5 .false (lift (pLoad1 I v7 h2) h2) h2) fun v8 h3 =>
  bnd (sGuard v5 .false (lift (pBin .eql v8 (Z 3)) h3) h3) fun v9 h4 =>
  bndP (pPick v5 (.bool .true) v9) fun v10 =>
  sCond v10 (
  j h4) (
  bndP (pFieldAddr 2 v1) fun v11 =>
  bndP (pLoad1 I v11 h4) fun v12 =>
  bnd (sBuildSlice [(Z 0)] 1 [(0, 1, v12)] h4) fun v13 h5 =>
  some (v13, h5))
noncomputable def f142.J (I : Inp) (call : CallFn) (n : Nat) : f142.Js :=
  Nat.rec (motive := fun _ => f142.Js) (fun _ => none) (fun _ ih => f142.b0 I call ih) n
noncomputable def f142.JS (I : Inp) (call : CallFn) (n : Nat) : Jmp := fun id ρ h =>
  ((f142.J I call n) h)
theorem f142.q0 (I : Inp) (call : CallFn) (n : Nat) (ρ : Fun) (h : AHeap) : f142.JS I call (n + 1) 0 ρ h = labC P I call (f142.JS I call n) c142.body 0 (finV I c142.results) 0 ρ h := by kernel_rfl
theorem f142.S (I : Inp) (F : Nat → Option AFn) (call : CallFn) : SFn ⟨P, I, F⟩ call c142 (f142.JS I call) :=
  ⟨fun id hid ρ h => by
    have hc : c142.body.cnt = 1 := by kernel_rfl
    rw [hc] at hid
    exact match id, hid with
    | 0, _ => rfl
    | id + 1, hid => absurd hid (by omega), fun n id hid ρ h => by
    have hc : c142.body.cnt = 1 := by kernel_rfl
    rw [hc] at hid
    exact match id, hid with
    | 0, _ => f142.q0 I call n ρ h
    | id + 1, hid => absurd hid (by omega)⟩
noncomputable def f142.run (I : Inp) : SF := fun call n a h =>
  match a with
  | [v0] => f142.e I call (f142.J I call n) v0 h
  | _ => none
theorem f142.qe (I : Inp) (call : CallFn) (n : Nat) (v0 : AVal) (h : AHeap) : f142.e I call (f142.J I call n) v0 h = execC P I call (f142.JS I call n) c142.body 0 (finV I c142.results) (argV [v0]) h := by kernel_rfl
theorem f142.code : codeOf P 142 = some c142 := by kernel_rfl
theorem f142.ok (I : Inp) (F : Nat → Option AFn) (hF : F 142 = some (.code c142)) : SfOk P I F 142 (f142.run I) := by
  intro call hc n args h r hr
  unfold f142.run at hr
  split at hr
  · exact fn_sound (C := ⟨P, I, F⟩) (n := n) hc hF (Nat.le_of_ble_eq_true (by kernel_rfl)) (by kernel_rfl) (f142.S I F call) (by kernel_rfl) ((f142.qe I call n _ h).symm.trans hr)
  · cases hr
/-! haruspex/types.named -/
noncomputable def c149 : AFunc := (AFunc.mk 42 2 [(.tmp 4)] (.seq (.region [(S 3 (.box (T 1)) .none), (S 4 (.move (.val (.bool .false))) .none)]) (.seq (.seq (.region [(FA 5 0 3), (L1 6 5)]) (.block 0 (.seq (.region [(S 8 (.bin .eql (T 6) (V 0)) .none), (M 7 8)]) (.cond (T 7) (.seq (.region [(FA 9 1 3), (L1 10 9), (S 11 (.bin .eql (T 10) (V 0)) .none), (M 4 11)]) .ret) (.seq (.region [(S 13 (.bin .eql (T 6) (V 1)) .none), (M 12 13)]) (.cond (T 12) (.seq (.draw [(FA 14 1 3), (L1 15 14), (M 16 0), (NC 17 16), (FA 18 0 17), (L1 19 18), (S 20 (.lenSl (T 19)) .none), (S 21 (.call 119 [(T 15), (T 20)]) .none), (M 4 21)] [N, N, N, N, N, N, N, Y, N] 0) .ret) (.seq (.region [(S 23 (.bin .eql (T 6) (V 2)) .none), (M 22 23)]) (.cond (T 22) (.seq (.draw [(FA 24 1 3), (L1 25 24), (M 26 0), (NC 27 26), (FA 28 1 27), (L1 29 28), (S 30 (.lenSl (T 29)) .none), (S 31 (.call 119 [(T 25), (T 30)]) .none), (M 4 31)] [N, N, N, N, N, N, N, Y, N] 0) .ret) (.seq (.region [(S 33 (.bin .eql (T 6) (V 3)) .none), (M 32 33)]) (.cond (T 32) (.seq (.draw [(FA 34 1 3), (L1 35 34), (M 36 0), (NC 37 36), (FA 38 2 37), (L1 39 38), (S 40 (.lenSl (T 39)) .none), (S 41 (.call 119 [(T 35), (T 40)]) .none), (M 4 41)] [N, N, N, N, N, N, N, Y, N] 0) .ret) .skip)))))))))) (.seq (.region [(S 4 (.move (.val (.bool .false))) .none)]) .ret))))
abbrev f149.Js : Type := (AHeap → Rs)
noncomputable def f149.b0 (I : Inp) (call : CallFn) (j : f149.Js) (h : AHeap) : Rs :=
  some ((.bool .false), h)
noncomputable def f149.e (I : Inp) (call : CallFn) (j : f149.Js) (v0 v1 : AVal) (h : AHeap) : Rs :=
  bnd (sBox v1 h) fun v3 h1 =>
  bndP (pFieldAddr 0 v3) fun v5 =>
  bndP (pLoad1 I v5 h1) fun v6 =>
  bndP (pBin .eql v6 (Z 0)) fun v8 =>
  sCond v8 (
  bndP (pBin .eql v6 (Z 1)) fun v13 =>
  sCond v13 (
  bndP (pBin .eql v6 (Z 2)) fun v23 =>
  sCond v23 (
  bndP (pBin .eql v6 (Z 3)) fun v33 =>
  sCond v33 (
  j h1) (
  bndP (pFieldAddr 1 v3) fun v34 =>
  bndP (pLoad1 I v34 h1) fun v35 =>
  bndP (pNilCheck v0) fun v37 =>
  bndP (pFieldAddr 2 v37) fun v38 =>
  bndP (pLoad1 I v38 h1) fun v39 =>
  bndP (pLenSl v39) fun v40 =>
  bnd (call 119 [v35, v40] h1) fun v41 h2 =>
  some (v41, h2))) (
  bndP (pFieldAddr 1 v3) fun v24 =>
  bndP (pLoad1 I v24 h1) fun v25 =>
  bndP (pNilCheck v0) fun v27 =>
  bndP (pFieldAddr 1 v27) fun v28 =>
  bndP (pLoad1 I v28 h1) fun v29 =>
  bndP (pLenSl v29) fun v30 =>
  bnd (call 119 [v25, v30] h1) fun v31 h3 =>
  some (v31, h3))) (
  bndP (pFieldAddr 1 v3) fun v14 =>
  bndP (pLoad1 I v14 h1) fun v15 =>
  bndP (pNilCheck v0) fun v17 =>
  bndP (pFieldAddr 0 v17) fun v18 =>
  bndP (pLoad1 I v18 h1) fun v19 =>
  bndP (pLenSl v19) fun v20 =>
  bnd (call 119 [v15, v20] h1) fun v21 h4 =>
  some (v21, h4))) (
  bndP (pFieldAddr 1 v3) fun v9 =>
  bndP (pLoad1 I v9 h1) fun v10 =>
  bndP (pBin .eql v10 (Z 0)) fun v11 =>
  some (v11, h1))
noncomputable def f149.J (I : Inp) (call : CallFn) (n : Nat) : f149.Js :=
  Nat.rec (motive := fun _ => f149.Js) (fun _ => none) (fun _ ih => f149.b0 I call ih) n
noncomputable def f149.JS (I : Inp) (call : CallFn) (n : Nat) : Jmp := fun id ρ h =>
  ((f149.J I call n) h)
theorem f149.q0 (I : Inp) (call : CallFn) (n : Nat) (ρ : Fun) (h : AHeap) : f149.JS I call (n + 1) 0 ρ h = labC P I call (f149.JS I call n) c149.body 0 (finV I c149.results) 0 ρ h := by kernel_rfl
theorem f149.S (I : Inp) (F : Nat → Option AFn) (call : CallFn) : SFn ⟨P, I, F⟩ call c149 (f149.JS I call) :=
  ⟨fun id hid ρ h => by
    have hc : c149.body.cnt = 1 := by kernel_rfl
    rw [hc] at hid
    exact match id, hid with
    | 0, _ => rfl
    | id + 1, hid => absurd hid (by omega), fun n id hid ρ h => by
    have hc : c149.body.cnt = 1 := by kernel_rfl
    rw [hc] at hid
    exact match id, hid with
    | 0, _ => f149.q0 I call n ρ h
    | id + 1, hid => absurd hid (by omega)⟩
noncomputable def f149.run (I : Inp) : SF := fun call n a h =>
  match a with
  | [v0, v1] => f149.e I call (f149.J I call n) v0 v1 h
  | _ => none
theorem f149.qe (I : Inp) (call : CallFn) (n : Nat) (v0 v1 : AVal) (h : AHeap) : f149.e I call (f149.J I call n) v0 v1 h = execC P I call (f149.JS I call n) c149.body 0 (finV I c149.results) (argV [v0, v1]) h := by kernel_rfl
theorem f149.code : codeOf P 149 = some c149 := by kernel_rfl
theorem f149.ok (I : Inp) (F : Nat → Option AFn) (hF : F 149 = some (.code c149)) : SfOk P I F 149 (f149.run I) := by
  intro call hc n args h r hr
  unfold f149.run at hr
  split at hr
  · exact fn_sound (C := ⟨P, I, F⟩) (n := n) hc hF (Nat.le_of_ble_eq_true (by kernel_rfl)) (by kernel_rfl) (f149.S I F call) (by kernel_rfl) ((f149.qe I call n _ _ h).symm.trans hr)
  · cases hr
/-! haruspex/types.numbers -/
noncomputable def c150 : AFunc := (AFunc.mk 18 2 [(.tmp 4)] (.seq (.region [(S 4 (.move (.val (.bool .false))) .none)]) (.seq (.seq (.region [(M 7 0), (S 8 (.lenSl (T 7)) .none), (S 9 (.move (V 0)) .none)]) (.block 0 (.loop (.seq (.region [(S 10 (.bin .lss (T 9) (T 8)) .none)]) (.seq (.cond (T 10) .skip (.exit 0)) (.seq (.block 1 (.seq (.region [(S 11 (.indexAddr 1 (T 7) (T 9)) .none), (L1 12 11), (M 6 12)]) (.seq (.region [(M 13 6), (M 14 1), (S 15 (.call 119 [(T 13), (T 14)]) .none), (S 16 (.un .not (T 15)) .none)]) (.cond (T 16) (.seq (.region [(S 4 (.move (.val (.bool .false))) .none)]) .ret) .skip)))) (.region [(S 17 (.bin .add (T 9) (V 1)) .none), (M 9 17)]))))))) (.seq (.region [(S 4 (.move (.val (.bool .true))) .none)]) .ret))))
abbrev f150.Js : Type := (((AHeap → Rs) × (AVal → AVal → AVal → AVal → AHeap → Rs)) × ((AVal → AVal → AVal → AVal → AHeap → Rs) × (AVal → AVal → AVal → AVal → AHeap → Rs)))
noncomputable def f150.b0 (I : Inp) (call : CallFn) (j : f150.Js) (h : AHeap) : Rs :=
  some ((.bool .true), h)
noncomputable def f150.b1 (I : Inp) (call : CallFn) (j : f150.Js) (v1 v7 v8 v9 : AVal) (h : AHeap) : Rs :=
  bndP (pBin .lss v9 v8) fun v10 =>
  sCond v10 (
  j.1.1 h) (
  j.2.1 v1 v7 v8 v9 h)
noncomputable def f150.b2 (I : Inp) (call : CallFn) (j : f150.Js) (v1 v7 v8 v9 : AVal) (h : AHeap) : Rs :=
  bndP (pIndexAddr 1 v7 v9) fun v11 =>
  bndP (pLoad1 I v11 h) fun v12 =>
  bnd (call 119 [v12, v1] h) fun v15 h1 =>
  bndP (pUn .not v15) fun v16 =>
  sCond v16 (
  j.2.2 v1 v7 v8 v9 h1) (
  some ((.bool .false), h1))
noncomputable def f150.b3 (I : Inp) (call : CallFn) (j : f150.Js) (v1 v7 v8 v9 : AVal) (h : AHeap) : Rs :=
  bndP (pBin .add v9 (Z 1)) fun v17 =>
  j.1.2 v1 v7 v8 v17 h
noncomputable def f150.e (I : Inp) (call : CallFn) (j : f150.Js) (v0 v1 : AVal) (h : AHeap) : Rs :=
  bndP (pLenSl v0) fun v8 =>
  j.1.2 v1 v0 v8 (Z 0) h
noncomputable def f150.J (I : Inp) (call : CallFn) (n : Nat) : f150.Js :=
  Nat.rec (motive := fun _ => f150.Js) (((fun _ => none), (fun _ _ _ _ _ => none)), ((fun _ _ _ _ _ => none), (fun _ _ _ _ _ => none))) (fun _ ih => ((f150.b0 I call ih, f150.b1 I call ih), (f150.b2 I call ih, f150.b3 I call ih))) n
noncomputable def f150.JS (I : Inp) (call : CallFn) (n : Nat) : Jmp := fun id ρ h =>
  (Bool.rec (motive := fun _ => _) (Bool.rec (motive := fun _ => _) ((f150.J I call n).2.2 (ρ 1) (ρ 7) (ρ 8) (ρ 9) h) ((f150.J I call n).2.1 (ρ 1) (ρ 7) (ρ 8) (ρ 9) h) (Nat.blt id 3)) (Bool.rec (motive := fun _ => _) ((f150.J I call n).1.2 (ρ 1) (ρ 7) (ρ 8) (ρ 9) h) ((f150.J I call n).1.1 h) (Nat.blt id 1)) (Nat.blt id 2))
theorem f150.q0 (I : Inp) (call : CallFn) (n : Nat) (ρ : Fun) (h : AHeap) : f150.JS I call (n + 1) 0 ρ h = labC P I call (f150.JS I call n) c150.body 0 (finV I c150.results) 0 ρ h := by kernel_rfl
theorem f150.q1 (I : Inp) (call : CallFn) (n : Nat) (ρ : Fun) (h : AHeap) : f150.JS I call (n + 1) 1 ρ h = labC P I call (f150.JS I call n) c150.body 0 (finV I c150.results) 1 ρ h := by kernel_rfl
theorem f150.q2 (I : Inp) (call : CallFn) (n : Nat) (ρ : Fun) (h : AHeap) : f150.JS I call (n + 1) 2 ρ h = labC P I call (f150.JS I call n) c150.body 0 (finV I c150.results) 2 ρ h := by kernel_rfl
theorem f150.q3 (I : Inp) (call : CallFn) (n : Nat) (ρ : Fun) (h : AHeap) : f150.JS I call (n + 1) 3 ρ h = labC P I call (f150.JS I call n) c150.body 0 (finV I c150.results) 3 ρ h := by kernel_rfl
theorem f150.S (I : Inp) (F : Nat → Option AFn) (call : CallFn) : SFn ⟨P, I, F⟩ call c150 (f150.JS I call) :=
  ⟨fun id hid ρ h => by
    have hc : c150.body.cnt = 4 := by kernel_rfl
    rw [hc] at hid
    exact match id, hid with
    | 0, _ => rfl
    | 1, _ => rfl
    | 2, _ => rfl
    | 3, _ => rfl
    | id + 4, hid => absurd hid (by omega), fun n id hid ρ h => by
    have hc : c150.body.cnt = 4 := by kernel_rfl
    rw [hc] at hid
    exact match id, hid with
    | 0, _ => f150.q0 I call n ρ h
    | 1, _ => f150.q1 I call n ρ h
    | 2, _ => f150.q2 I call n ρ h
    | 3, _ => f150.q3 I call n ρ h
    | id + 4, hid => absurd hid (by omega)⟩
noncomputable def f150.run (I : Inp) : SF := fun call n a h =>
  match a with
  | [v0, v1] => f150.e I call (f150.J I call n) v0 v1 h
  | _ => none
theorem f150.qe (I : Inp) (call : CallFn) (n : Nat) (v0 v1 : AVal) (h : AHeap) : f150.e I call (f150.J I call n) v0 v1 h = execC P I call (f150.JS I call n) c150.body 0 (finV I c150.results) (argV [v0, v1]) h := by kernel_rfl
theorem f150.code : codeOf P 150 = some c150 := by kernel_rfl
theorem f150.ok (I : Inp) (F : Nat → Option AFn) (hF : F 150 = some (.code c150)) : SfOk P I F 150 (f150.run I) := by
  intro call hc n args h r hr
  unfold f150.run at hr
  split at hr
  · exact fn_sound (C := ⟨P, I, F⟩) (n := n) hc hF (Nat.le_of_ble_eq_true (by kernel_rfl)) (by kernel_rfl) (f150.S I F call) (by kernel_rfl) ((f150.qe I call n _ _ h).symm.trans hr)
  · cases hr
/-! haruspex/types.counted -/
noncomputable def c151 : AFunc := (AFunc.mk 43 1 [(.tmp 2), (.tmp 3), (.tmp 4), (.tmp 5), (.tmp 6), (.tmp 7)] (.seq (.region [(S 1 (.box (T 0)) .none), (S 2 (.move (.val (.bool .false))) .none), (S 3 (.move (.val (.bool .false))) .none), (S 4 (.move (.val (.bool .false))) .none), (S 5 (.move (.val (.bool .false))) .none), (S 6 (.move (.val (.bool .false))) .none), (S 7 (.move (.val (.bool .false))) .none)]) (.seq (.region [(S 7 (.move (.val (.bool .true))) .none)]) (.seq (.seq (.region [(FA 8 0 1), (L1 9 8)]) (.block 0 (.seq (.block 10 (.seq (.block 9 (.seq (.block 8 (.seq (.block 7 (.seq (.block 6 (.seq (.block 5 (.seq (.block 4 (.seq (.block 3 (.seq (.block 2 (.seq (.block 1 (.seq (.seq (.seq (.seq (.region [(S 11 (.bin .eql (T 9) (V 1)) .none), (M 10 11)]) (.cond (T 10) .skip (.region [(S 12 (.bin .eql (T 9) (V 10)) .none), (M 10 12)]))) (.cond (T 10) (.exit 1) .skip)) (.seq (.seq (.seq (.region [(S 14 (.bin .eql (T 9) (V 3)) .none), (M 13 14)]) (.cond (T 13) .skip (.seq (.region [(S 15 (.bin .eql (T 9) (V 4)) .none), (M 13 15)]) (.cond (T 13) .skip (.region [(S 16 (.bin .eql (T 9) (V 5)) .none), (M 13 16)]))))) (.cond (T 13) (.exit 2) .skip)) (.seq (.seq (.region [(S 18 (.bin .eql (T 9) (V 2)) .none), (M 17 18)]) (.cond (T 17) (.exit 3) .skip)) (.seq (.seq (.seq (.region [(S 20 (.bin .eql (T 9) (V 6)) .none), (M 19 20)]) (.cond (T 19) .skip (.region [(S 21 (.bin .eql (T 9) (V 11)) .none), (M 19 21)]))) (.cond (T 19) (.exit 4) .skip)) (.seq (.seq (.region [(S 23 (.bin .eql (T 9) (V 7)) .none), (M 22 23)]) (.cond (T 22) (.exit 5) .skip)) (.seq (.seq (.region [(S 25 (.bin .eql (T 9) (V 8)) .none), (M 24 25)]) (.cond (T 24) (.exit 6) .skip)) (.seq (.seq (.seq (.region [(S 27 (.bin .eql (T 9) (V 9)) .none), (M 26 27)]) (.cond (T 26) .skip (.region [(S 28 (.bin .eql (T 9) (V 15)) .none), (M 26 28)]))) (.cond (T 26) (.exit 7) .skip)) (.seq (.seq (.seq (.region [(S 30 (.bin .eql (T 9) (V 14)) .none), (M 29 30)]) (.cond (T 29) .skip (.region [(S 31 (.bin .eql (T 9) (V 13)) .none), (M 29 31)]))) (.cond (T 29) (.exit 8) .skip)) (.seq (.region [(S 33 (.bin .eql (T 9) (V 12)) .none), (M 32 33)]) (.cond (T 32) (.exit 9) .skip)))))))))) (.exit 10))) (.region [(S 5 (.move (.val (.bool .true))) .none)]))) (.seq (.region [(S 2 (.move (.val (.bool .true))) .none)]) (.exit 0)))) (.region [(S 4 (.move (.val (.bool .true))) .none)]))) (.seq (.region [(S 2 (.move (.val (.bool .true))) .none), (S 3 (.move (.val (.bool .true))) .none)]) (.exit 0)))) (.seq (.region [(S 2 (.move (.val (.bool .true))) .none), (S 3 (.move (.val (.bool .true))) .none), (S 5 (.move (.val (.bool .true))) .none)]) (.exit 0)))) (.seq (.region [(S 3 (.move (.val (.bool .true))) .none), (S 4 (.move (.val (.bool .true))) .none), (S 5 (.move (.val (.bool .true))) .none)]) (.exit 0)))) (.seq (.region [(S 3 (.move (.val (.bool .true))) .none)]) (.exit 0)))) (.region [(S 3 (.move (.val (.bool .true))) .none)]))) (.seq (.seq (.region [(S 2 (.move (.val (.bool .true))) .none), (S 6 (.move (.val (.bool .true))) .none)]) (.region [(FA 34 0 1), (L1 35 34), (S 36 (.bin .neq (T 35) (V 13)) .none), (M 5 36)])) (.exit 0)))) (.seq (.region [(S 7 (.move (.val (.bool .false))) .none)]) (.exit 0))))) (.seq (.region [(M 37 2), (M 38 3), (M 39 4), (M 40 5), (M 41 6), (M 42 7), (M 2 37), (M 3 38), (M 4 39), (M 5 40), (M 6 41), (M 7 42)]) .ret)))))
abbrev f151.Js : Type := (((((AVal → AVal → AVal → AVal → AVal → AVal → AHeap → Rs) × ((AVal → AVal → AVal → AVal → AVal → AHeap → Rs) × (AVal → AVal → AVal → AVal → AHeap → Rs))) × ((AVal → AVal → AVal → AHeap → Rs) × ((AVal → AVal → AVal → AVal → AVal → AHeap → Rs) × (AVal → AVal → AVal → AHeap → Rs)))) × (((AVal → AVal → AVal → AHeap → Rs) × ((AVal → AVal → AVal → AVal → AHeap → Rs) × (AVal → AVal → AVal → AHeap → Rs))) × ((AVal → AVal → AVal → AVal → AVal → AHeap → Rs) × ((AVal → AVal → AVal → AVal → AHeap → Rs) × (AVal → AVal → AVal → AVal → AVal → AHeap → Rs))))) × ((((AVal → AVal → AVal → AVal → AVal → AVal → AVal → AVal → AHeap → Rs) × ((AVal → AVal → AVal → AVal → AVal → AVal → AVal → AVal → AVal → AHeap → Rs) × (AVal → AVal → AVal → AVal → AVal → AVal → AVal → AVal → AHeap → Rs))) × ((AVal → AVal → AVal → AVal → AVal → AVal → AVal → AVal → AVal → AHeap → Rs) × ((AVal → AVal → AVal → AVal → AVal → AVal → AVal → AVal → AHeap → Rs) × (AVal → AVal → AVal → AVal → AVal → AVal → AVal → AVal → AHeap → Rs)))) × (((AVal → AVal → AVal → AVal → AVal → AVal → AVal → AVal → AVal → AHeap → Rs) × ((AVal → AVal → AVal → AVal → AVal → AVal → AVal → AVal → AHeap → Rs) × (AVal → AVal → AVal → AVal → AVal → AVal → AVal → AVal → AHeap → Rs))) × (((AVal → AVal → AVal → AVal → AVal → AVal → AVal → AVal → AHeap → Rs) × (AVal → AVal → AVal → AVal → AVal → AVal → AVal → AVal → AVal → AHeap → Rs)) × ((AVal → AVal → AVal → AVal → AVal → AVal → AVal → AVal → AHeap → Rs) × (AVal → AVal → AVal → AVal → AVal → AVal → AVal → AVal → AVal → AHeap → Rs))))))
noncomputable def f151.b0 (I : Inp) (call : CallFn) (j : f151.Js) (v2 v3 v4 v5 v6 v7 : AVal) (h : AHeap) : Rs :=
  some (.tuple [v2, v3, v4, v5, v6, v7], h)
noncomputable def f151.b1 (I : Inp) (call : CallFn) (j : f151.Js) (v2 v3 v4 v5 v6 : AVal) (h : AHeap) : Rs :=
  j.1.1.1.1 v2 v3 v4 v5 v6 (.bool .false) h
noncomputable def f151.b2 (I : Inp) (call : CallFn) (j : f151.Js) (v1 v3 v4 v7 : AVal) (h : AHeap) : Rs :=
  bndP (pFieldAddr 0 v1) fun v34 =>
  bndP (pLoad1 I v34 h) fun v35 =>
  bndP (pBin .neq v35 (Z 13)) fun v36 =>
  j.1.1.1.1 (.bool .true) v3 v4 v36 (.bool .true) v7 h
noncomputable def f151.b3 (I : Inp) (call : CallFn) (j : f151.Js) (v1 v4 v7 : AVal) (h : AHeap) : Rs :=
  j.1.1.1.2.2 v1 (.bool .true) v4 v7 h
noncomputable def f151.b4 (I : Inp) (call : CallFn) (j : f151.Js) (v2 v4 v5 v6 v7 : AVal) (h : AHeap) : Rs :=
  j.1.1.1.1 v2 (.bool .true) v4 v5 v6 v7 h
noncomputable def f151.b5 (I : Inp) (call : CallFn) (j : f151.Js) (v2 v6 v7 : AVal) (h : AHeap) : Rs :=
  j.1.1.1.1 v2 (.bool .true) (.bool .true) (.bool .true) v6 v7 h
noncomputable def f151.b6 (I : Inp) (call : CallFn) (j : f151.Js) (v4 v6 v7 : AVal) (h : AHeap) : Rs :=
  j.1.1.1.1 (.bool .true) (.bool .true) v4 (.bool .true) v6 v7 h
noncomputable def f151.b7 (I : Inp) (call : CallFn) (j : f151.Js) (v4 v5 v6 v7 : AVal) (h : AHeap) : Rs :=
  j.1.1.1.1 (.bool .true) (.bool .true) v4 v5 v6 v7 h
noncomputable def f151.b8 (I : Inp) (call : CallFn) (j : f151.Js) (v5 v6 v7 : AVal) (h : AHeap) : Rs :=
  j.1.2.1.2.1 (.bool .true) v5 v6 v7 h
noncomputable def f151.b9 (I : Inp) (call : CallFn) (j : f151.Js) (v3 v4 v5 v6 v7 : AVal) (h : AHeap) : Rs :=
  j.1.1.1.1 (.bool .true) v3 v4 v5 v6 v7 h
noncomputable def f151.b10 (I : Inp) (call : CallFn) (j : f151.Js) (v3 v4 v6 v7 : AVal) (h : AHeap) : Rs :=
  j.1.2.2.1 v3 v4 (.bool .true) v6 v7 h
noncomputable def f151.b11 (I : Inp) (call : CallFn) (j : f151.Js) (v2 v3 v4 v5 v6 : AVal) (h : AHeap) : Rs :=
  j.1.1.1.2.1 v2 v3 v4 v5 v6 h
noncomputable def f151.b12 (I : Inp) (call : CallFn) (j : f151.Js) (v1 v2 v3 v4 v5 v6 v7 v9 : AVal) (h : AHeap) : Rs :=
  bndP (pBin .eql v9 (Z 3)) fun v14 =>
  sCond v14 (
  bndP (pBin .eql v9 (Z 4)) fun v15 =>
  sCond v15 (
  bndP (pBin .eql v9 (Z 5)) fun v16 =>
  j.2.1.2.1 v1 v2 v3 v4 v5 v6 v7 v9 v16 h) (
  j.2.1.2.1 v1 v2 v3 v4 v5 v6 v7 v9 v15 h)) (
  j.2.1.2.1 v1 v2 v3 v4 v5 v6 v7 v9 v14 h)
noncomputable def f151.b13 (I : Inp) (call : CallFn) (j : f151.Js) (v1 v2 v3 v4 v5 v6 v7 v9 v10 : AVal) (h : AHeap) : Rs :=
  sCond v10 (
  j.2.1.1.1 v1 v2 v3 v4 v5 v6 v7 v9 h) (
  j.1.2.2.2.1 v3 v4 v6 v7 h)
noncomputable def f151.b14 (I : Inp) (call : CallFn) (j : f151.Js) (v1 v2 v3 v4 v5 v6 v7 v9 : AVal) (h : AHeap) : Rs :=
  bndP (pBin .eql v9 (Z 2)) fun v18 =>
  sCond v18 (
  j.2.1.2.2.1 v1 v2 v3 v4 v5 v6 v7 v9 h) (
  j.1.2.1.2.2 v5 v6 v7 h)
noncomputable def f151.b15 (I : Inp) (call : CallFn) (j : f151.Js) (v1 v2 v3 v4 v5 v6 v7 v9 v13 : AVal) (h : AHeap) : Rs :=
  sCond v13 (
  j.2.1.1.2.2 v1 v2 v3 v4 v5 v6 v7 v9 h) (
  j.1.2.2.1 v3 v4 v5 v6 v7 h)
noncomputable def f151.b16 (I : Inp) (call : CallFn) (j : f151.Js) (v1 v2 v3 v4 v5 v6 v7 v9 : AVal) (h : AHeap) : Rs :=
  bndP (pBin .eql v9 (Z 6)) fun v20 =>
  sCond v20 (
  bndP (pBin .eql v9 (Z 11)) fun v21 =>
  j.2.2.1.1 v1 v2 v3 v4 v5 v6 v7 v9 v21 h) (
  j.2.2.1.1 v1 v2 v3 v4 v5 v6 v7 v9 v20 h)
noncomputable def f151.b17 (I : Inp) (call : CallFn) (j : f151.Js) (v1 v2 v3 v4 v5 v6 v7 v9 : AVal) (h : AHeap) : Rs :=
  bndP (pBin .eql v9 (Z 7)) fun v23 =>
  sCond v23 (
  j.2.2.1.2.1 v1 v2 v3 v4 v5 v6 v7 v9 h) (
  j.1.2.1.1 v4 v6 v7 h)
noncomputable def f151.b18 (I : Inp) (call : CallFn) (j : f151.Js) (v1 v2 v3 v4 v5 v6 v7 v9 v19 : AVal) (h : AHeap) : Rs :=
  sCond v19 (
  j.2.1.2.2.2 v1 v2 v3 v4 v5 v6 v7 v9 h) (
  j.1.2.1.2.1 v4 v5 v6 v7 h)
noncomputable def f151.b19 (I : Inp) (call : CallFn) (j : f151.Js) (v1 v2 v3 v4 v5 v6 v7 v9 : AVal) (h : AHeap) : Rs :=
  bndP (pBin .eql v9 (Z 8)) fun v25 =>
  sCond v25 (
  j.2.2.1.2.2 v1 v2 v3 v4 v5 v6 v7 v9 h) (
  j.1.1.2.2.2 v2 v6 v7 h)
noncomputable def f151.b20 (I : Inp) (call : CallFn) (j : f151.Js) (v1 v2 v3 v4 v5 v6 v7 v9 : AVal) (h : AHeap) : Rs :=
  bndP (pBin .eql v9 (Z 9)) fun v27 =>
  sCond v27 (
  bndP (pBin .eql v9 (Z 15)) fun v28 =>
  j.2.2.2.1.2 v1 v2 v3 v4 v5 v6 v7 v9 v28 h) (
  j.2.2.2.1.2 v1 v2 v3 v4 v5 v6 v7 v9 v27 h)
noncomputable def f151.b21 (I : Inp) (call : CallFn) (j : f151.Js) (v1 v2 v3 v4 v5 v6 v7 v9 : AVal) (h : AHeap) : Rs :=
  bndP (pBin .eql v9 (Z 14)) fun v30 =>
  sCond v30 (
  bndP (pBin .eql v9 (Z 13)) fun v31 =>
  j.2.2.2.2.2 v1 v2 v3 v4 v5 v6 v7 v9 v31 h) (
  j.2.2.2.2.2 v1 v2 v3 v4 v5 v6 v7 v9 v30 h)
noncomputable def f151.b22 (I : Inp) (call : CallFn) (j : f151.Js) (v1 v2 v3 v4 v5 v6 v7 v9 v26 : AVal) (h : AHeap) : Rs :=
  sCond v26 (
  j.2.2.2.1.1 v1 v2 v3 v4 v5 v6 v7 v9 h) (
  j.1.1.2.2.1 v2 v4 v5 v6 v7 h)
noncomputable def f151.b23 (I : Inp) (call : CallFn) (j : f151.Js) (v1 v2 v3 v4 v5 v6 v7 v9 : AVal) (h : AHeap) : Rs :=
  bndP (pBin .eql v9 (Z 12)) fun v33 =>
  sCond v33 (
  j.1.2.2.2.2 v2 v3 v4 v5 v6 h) (
  j.1.1.1.2.2 v1 v3 v4 v7 h)
noncomputable def f151.b24 (I : Inp) (call : CallFn) (j : f151.Js) (v1 v2 v3 v4 v5 v6 v7 v9 v29 : AVal) (h : AHeap) : Rs :=
  sCond v29 (
  j.2.2.2.2.1 v1 v2 v3 v4 v5 v6 v7 v9 h) (
  j.1.1.2.1 v1 v4 v7 h)
noncomputable def f151.e (I : Inp) (call : CallFn) (j : f151.Js) (v0 : AVal) (h : AHeap) : Rs :=
  bnd (sBox v0 h) fun v1 h1 =>
  bndP (pFieldAddr 0 v1) fun v8 =>
  bndP (pLoad1 I v8 h1) fun v9 =>
  bndP (pBin .eql v9 (Z 1)) fun v11 =>
  sCond v11 (
  bndP (pBin .eql v9 (Z 10)) fun v12 =>
  j.2.1.1.2.1 v1 (.bool .false) (.bool .false) (.bool .false) (.bool .false) (.bool .false) (.bool .true) v9 v12 h1) (
  j.2.1.1.2.1 v1 (.bool .false) (.bool .false) (.bool .false) (.bool .false) (.bool .false) (.bool .true) v9 v11 h1)
noncomputable def f151.J (I : Inp) (call : CallFn) (n : Nat) : f151.Js :=
  Nat.rec (motive := fun _ => f151.Js) (((((fun _ _ _ _ _ _ _ => none), ((fun _ _ _ _ _ _ => none), (fun _ _ _ _ _ => none))), ((fun _ _ _ _ => none), ((fun _ _ _ _ _ _ => none), (fun _ _ _ _ => none)))), (((fun _ _ _ _ => none), ((fun _ _ _ _ _ => none), (fun _ _ _ _ => none))), ((fun _ _ _ _ _ _ => none), ((fun _ _ _ _ _ => none), (fun _ _ _ _ _ _ => none))))), ((((fun _ _ _ _ _ _ _ _ _ => none), ((fun _ _ _ _ _ _ _ _ _ _ => none), (fun _ _ _ _ _ _ _ _ _ => none))), ((fun _ _ _ _ _ _ _ _ _ _ => none), ((fun _ _ _ _ _ _ _ _ _ => none), (fun _ _ _ _ _ _ _ _ _ => none)))), (((fun _ _ _ _ _ _ _ _ _ _ => none), ((fun _ _ _ _ _ _ _ _ _ => none), (fun _ _ _ _ _ _ _ _ _ => none))), (((fun _ _ _ _ _ _ _ _ _ => none), (fun _ _ _ _ _ _ _ _ _ _ => none)), ((fun _ _ _ _ _ _ _ _ _ => none), (fun _ _ _ _ _ _ _ _ _ _ => none)))))) (fun _ ih => ((((f151.b0 I call ih, (f151.b1 I call ih, f151.b2 I call ih)), (f151.b3 I call ih, (f151.b4 I call ih, f151.b5 I call ih))), ((f151.b6 I call ih, (f151.b7 I call ih, f151.b8 I call ih)), (f151.b9 I call ih, (f151.b10 I call ih, f151.b11 I call ih)))), (((f151.b12 I call ih, (f151.b13 I call ih, f151.b14 I call ih)), (f151.b15 I call ih, (f151.b16 I call ih, f151.b17 I call ih))), ((f151.b18 I call ih, (f151.b19 I call ih, f151.b20 I call ih)), ((f151.b21 I call ih, f151.b22 I call ih), (f151.b23 I call ih, f151.b24 I call ih)))))) n
noncomputable def f151.JS (I : Inp) (call : CallFn) (n : Nat) : Jmp := fun id ρ h =>
  (Bool.rec (motive := fun _ => _) (Bool.rec (motive := fun _ => _) (Bool.rec (motive := fun _ => _) (Bool.rec (motive := fun _ => _) (Bool.rec (motive := fun _ => _) ((f151.J I call n).2.2.2.2.2 (ρ 1) (ρ 2) (ρ 3) (ρ 4) (ρ 5) (ρ 6) (ρ 7) (ρ 9) (ρ 29) h) ((f151.J I call n).2.2.2.2.1 (ρ 1) (ρ 2) (ρ 3) (ρ 4) (ρ 5) (ρ 6) (ρ 7) (ρ 9) h) (Nat.blt id 24)) (Bool.rec (motive := fun _ => _) ((f151.J I call n).2.2.2.1.2 (ρ 1) (ρ 2) (ρ 3) (ρ 4) (ρ 5) (ρ 6) (ρ 7) (ρ 9) (ρ 26) h) ((f151.J I call n).2.2.2.1.1 (ρ 1) (ρ 2) (ρ 3) (ρ 4) (ρ 5) (ρ 6) (ρ 7) (ρ 9) h) (Nat.blt id 22)) (Nat.blt id 23)) (Bool.rec (motive := fun _ => _) (Bool.rec (motive := fun _ => _) ((f151.J I call n).2.2.1.2.2 (ρ 1) (ρ 2) (ρ 3) (ρ 4) (ρ 5) (ρ 6) (ρ 7) (ρ 9) h) ((f151.J I call n).2.2.1.2.1 (ρ 1) (ρ 2) (ρ 3) (ρ 4) (ρ 5) (ρ 6) (ρ 7) (ρ 9) h) (Nat.blt id 20)) ((f151.J I call n).2.2.1.1 (ρ 1) (ρ 2) (ρ 3) (ρ 4) (ρ 5) (ρ 6) (ρ 7) (ρ 9) (ρ 19) h) (Nat.blt id 19)) (Nat.blt id 21)) (Bool.rec (motive := fun _ => _) (Bool.rec (motive := fun _ => _) (Bool.rec (motive := fun _ => _) ((f151.J I call n).2.1.2.2.2 (ρ 1) (ρ 2) (ρ 3) (ρ 4) (ρ 5) (ρ 6) (ρ 7) (ρ 9) h) ((f151.J I call n).2.1.2.2.1 (ρ 1) (ρ 2) (ρ 3) (ρ 4) (ρ 5) (ρ 6) (ρ 7) (ρ 9) h) (Nat.blt id 17)) ((f151.J I call n).2.1.2.1 (ρ 1) (ρ 2) (ρ 3) (ρ 4) (ρ 5) (ρ 6) (ρ 7) (ρ 9) (ρ 13) h) (Nat.blt id 16)) (Bool.rec (motive := fun _ => _) (Bool.rec (motive := fun _ => _) ((f151.J I call n).2.1.1.2.2 (ρ 1) (ρ 2) (ρ 3) (ρ 4) (ρ 5) (ρ 6) (ρ 7) (ρ 9) h) ((f151.J I call n).2.1.1.2.1 (ρ 1) (ρ 2) (ρ 3) (ρ 4) (ρ 5) (ρ 6) (ρ 7) (ρ 9) (ρ 10) h) (Nat.blt id 14)) ((f151.J I call n).2.1.1.1 (ρ 1) (ρ 2) (ρ 3) (ρ 4) (ρ 5) (ρ 6) (ρ 7) (ρ 9) h) (Nat.blt id 13)) (Nat.blt id 15)) (Nat.blt id 18)) (Bool.rec (motive := fun _ => _) (Bool.rec (motive := fun _ => _) (Bool.rec (motive := fun _ => _) (Bool.rec (motive := fun _ => _) ((f151.J I call n).1.2.2.2.2 (ρ 2) (ρ 3) (ρ 4) (ρ 5) (ρ 6) h) ((f151.J I call n).1.2.2.2.1 (ρ 3) (ρ 4) (ρ 6) (ρ 7) h) (Nat.blt id 11)) ((f151.J I call n).1.2.2.1 (ρ 3) (ρ 4) (ρ 5) (ρ 6) (ρ 7) h) (Nat.blt id 10)) (Bool.rec (motive := fun _ => _) (Bool.rec (motive := fun _ => _) ((f151.J I call n).1.2.1.2.2 (ρ 5) (ρ 6) (ρ 7) h) ((f151.J I call n).1.2.1.2.1 (ρ 4) (ρ 5) (ρ 6) (ρ 7) h) (Nat.blt id 8)) ((f151.J I call n).1.2.1.1 (ρ 4) (ρ 6) (ρ 7) h) (Nat.blt id 7)) (Nat.blt id 9)) (Bool.rec (motive := fun _ => _) (Bool.rec (motive := fun _ => _) (Bool.rec (motive := fun _ => _) ((f151.J I call n).1.1.2.2.2 (ρ 2) (ρ 6) (ρ 7) h) ((f151.J I call n).1.1.2.2.1 (ρ 2) (ρ 4) (ρ 5) (ρ 6) (ρ 7) h) (Nat.blt id 5)) ((f151.J I call n).1.1.2.1 (ρ 1) (ρ 4) (ρ 7) h) (Nat.blt id 4)) (Bool.rec (motive := fun _ => _) (Bool.rec (motive := fun _ => _) ((f151.J I call n).1.1.1.2.2 (ρ 1) (ρ 3) (ρ 4) (ρ 7) h) ((f151.J I call n).1.1.1.2.1 (ρ 2) (ρ 3) (ρ 4) (ρ 5) (ρ 6) h) (Nat.blt id 2)) ((f151.J I call n).1.1.1.1 (ρ 2) (ρ 3) (ρ 4) (ρ 5) (ρ 6) (ρ 7) h) (Nat.blt id 1)) (Nat.blt id 3)) (Nat.blt id 6)) (Nat.blt id 12))
theorem f151.q0 (I : Inp) (call : CallFn) (n : Nat) (ρ : Fun) (h : AHeap) : f151.JS I call (n + 1) 0 ρ h = labC P I call (f151.JS I call n) c151.body 0 (finV I c151.results) 0 ρ h := by kernel_rfl
theorem f151.q1 (I : Inp) (call : CallFn) (n : Nat) (ρ : Fun) (h : AHeap) : f151.JS I call (n + 1) 1 ρ h = labC P I call (f151.JS I call n) c151.body 0 (finV I c151.results) 1 ρ h := by kernel_rfl
theorem f151.q2 (I : Inp) (call : CallFn) (n : Nat) (ρ : Fun) (h : AHeap) : f151.JS I call (n + 1) 2 ρ h = labC P I call (f151.JS I call n) c151.body 0 (finV I c151.results) 2 ρ h := by kernel_rfl
theorem f151.q3 (I : Inp) (call : CallFn) (n : Nat) (ρ : Fun) (h : AHeap) : f151.JS I call (n + 1) 3 ρ h = labC P I call (f151.JS I call n) c151.body 0 (finV I c151.results) 3 ρ h := by kernel_rfl
theorem f151.q4 (I : Inp) (call : CallFn) (n : Nat) (ρ : Fun) (h : AHeap) : f151.JS I call (n + 1) 4 ρ h = labC P I call (f151.JS I call n) c151.body 0 (finV I c151.results) 4 ρ h := by kernel_rfl
theorem f151.q5 (I : Inp) (call : CallFn) (n : Nat) (ρ : Fun) (h : AHeap) : f151.JS I call (n + 1) 5 ρ h = labC P I call (f151.JS I call n) c151.body 0 (finV I c151.results) 5 ρ h := by kernel_rfl
theorem f151.q6 (I : Inp) (call : CallFn) (n : Nat) (ρ : Fun) (h : AHeap) : f151.JS I call (n + 1) 6 ρ h = labC P I call (f151.JS I call n) c151.body 0 (finV I c151.results) 6 ρ h := by kernel_rfl
theorem f151.q7 (I : Inp) (call : CallFn) (n : Nat) (ρ : Fun) (h : AHeap) : f151.JS I call (n + 1) 7 ρ h = labC P I call (f151.JS I call n) c151.body 0 (finV I c151.results) 7 ρ h := by kernel_rfl
theorem f151.q8 (I : Inp) (call : CallFn) (n : Nat) (ρ : Fun) (h : AHeap) : f151.JS I call (n + 1) 8 ρ h = labC P I call (f151.JS I call n) c151.body 0 (finV I c151.results) 8 ρ h := by kernel_rfl
theorem f151.q9 (I : Inp) (call : CallFn) (n : Nat) (ρ : Fun) (h : AHeap) : f151.JS I call (n + 1) 9 ρ h = labC P I call (f151.JS I call n) c151.body 0 (finV I c151.results) 9 ρ h := by kernel_rfl
theorem f151.q10 (I : Inp) (call : CallFn) (n : Nat) (ρ : Fun) (h : AHeap) : f151.JS I call (n + 1) 10 ρ h = labC P I call (f151.JS I call n) c151.body 0 (finV I c151.results) 10 ρ h := by kernel_rfl
theorem f151.q11 (I : Inp) (call : CallFn) (n : Nat) (ρ : Fun) (h : AHeap) : f151.JS I call (n + 1) 11 ρ h = labC P I call (f151.JS I call n) c151.body 0 (finV I c151.results) 11 ρ h := by kernel_rfl
theorem f151.q12 (I : Inp) (call : CallFn) (n : Nat) (ρ : Fun) (h : AHeap) : f151.JS I call (n + 1) 12 ρ h = labC P I call (f151.JS I call n) c151.body 0 (finV I c151.results) 12 ρ h := by kernel_rfl
theorem f151.q13 (I : Inp) (call : CallFn) (n : Nat) (ρ : Fun) (h : AHeap) : f151.JS I call (n + 1) 13 ρ h = labC P I call (f151.JS I call n) c151.body 0 (finV I c151.results) 13 ρ h := by kernel_rfl
theorem f151.q14 (I : Inp) (call : CallFn) (n : Nat) (ρ : Fun) (h : AHeap) : f151.JS I call (n + 1) 14 ρ h = labC P I call (f151.JS I call n) c151.body 0 (finV I c151.results) 14 ρ h := by kernel_rfl
theorem f151.q15 (I : Inp) (call : CallFn) (n : Nat) (ρ : Fun) (h : AHeap) : f151.JS I call (n + 1) 15 ρ h = labC P I call (f151.JS I call n) c151.body 0 (finV I c151.results) 15 ρ h := by kernel_rfl
theorem f151.q16 (I : Inp) (call : CallFn) (n : Nat) (ρ : Fun) (h : AHeap) : f151.JS I call (n + 1) 16 ρ h = labC P I call (f151.JS I call n) c151.body 0 (finV I c151.results) 16 ρ h := by kernel_rfl
theorem f151.q17 (I : Inp) (call : CallFn) (n : Nat) (ρ : Fun) (h : AHeap) : f151.JS I call (n + 1) 17 ρ h = labC P I call (f151.JS I call n) c151.body 0 (finV I c151.results) 17 ρ h := by kernel_rfl
theorem f151.q18 (I : Inp) (call : CallFn) (n : Nat) (ρ : Fun) (h : AHeap) : f151.JS I call (n + 1) 18 ρ h = labC P I call (f151.JS I call n) c151.body 0 (finV I c151.results) 18 ρ h := by kernel_rfl
theorem f151.q19 (I : Inp) (call : CallFn) (n : Nat) (ρ : Fun) (h : AHeap) : f151.JS I call (n + 1) 19 ρ h = labC P I call (f151.JS I call n) c151.body 0 (finV I c151.results) 19 ρ h := by kernel_rfl
theorem f151.q20 (I : Inp) (call : CallFn) (n : Nat) (ρ : Fun) (h : AHeap) : f151.JS I call (n + 1) 20 ρ h = labC P I call (f151.JS I call n) c151.body 0 (finV I c151.results) 20 ρ h := by kernel_rfl
theorem f151.q21 (I : Inp) (call : CallFn) (n : Nat) (ρ : Fun) (h : AHeap) : f151.JS I call (n + 1) 21 ρ h = labC P I call (f151.JS I call n) c151.body 0 (finV I c151.results) 21 ρ h := by kernel_rfl
theorem f151.q22 (I : Inp) (call : CallFn) (n : Nat) (ρ : Fun) (h : AHeap) : f151.JS I call (n + 1) 22 ρ h = labC P I call (f151.JS I call n) c151.body 0 (finV I c151.results) 22 ρ h := by kernel_rfl
theorem f151.q23 (I : Inp) (call : CallFn) (n : Nat) (ρ : Fun) (h : AHeap) : f151.JS I call (n + 1) 23 ρ h = labC P I call (f151.JS I call n) c151.body 0 (finV I c151.results) 23 ρ h := by kernel_rfl
theorem f151.q24 (I : Inp) (call : CallFn) (n : Nat) (ρ : Fun) (h : AHeap) : f151.JS I call (n + 1) 24 ρ h = labC P I call (f151.JS I call n) c151.body 0 (finV I c151.results) 24 ρ h := by kernel_rfl
theorem f151.S (I : Inp) (F : Nat → Option AFn) (call : CallFn) : SFn ⟨P, I, F⟩ call c151 (f151.JS I call) :=
  ⟨fun id hid ρ h => by
    have hc : c151.body.cnt = 25 := by kernel_rfl
    rw [hc] at hid
    exact match id, hid with
    | 0, _ => rfl
    | 1, _ => rfl
    | 2, _ => rfl
    | 3, _ => rfl
    | 4, _ => rfl
    | 5, _ => rfl
    | 6, _ => rfl
    | 7, _ => rfl
    | 8, _ => rfl
    | 9, _ => rfl
    | 10, _ => rfl
    | 11, _ => rfl
    | 12, _ => rfl
    | 13, _ => rfl
    | 14, _ => rfl
    | 15, _ => rfl
    | 16, _ => rfl
    | 17, _ => rfl
    | 18, _ => rfl
    | 19, _ => rfl
    | 20, _ => rfl
    | 21, _ => rfl
    | 22, _ => rfl
    | 23, _ => rfl
    | 24, _ => rfl
    | id + 25, hid => absurd hid (by omega), fun n id hid ρ h => by
    have hc : c151.body.cnt = 25 := by kernel_rfl
    rw [hc] at hid
    exact match id, hid with
    | 0, _ => f151.q0 I call n ρ h
    | 1, _ => f151.q1 I call n ρ h
    | 2, _ => f151.q2 I call n ρ h
    | 3, _ => f151.q3 I call n ρ h
    | 4, _ => f151.q4 I call n ρ h
    | 5, _ => f151.q5 I call n ρ h
    | 6, _ => f151.q6 I call n ρ h
    | 7, _ => f151.q7 I call n ρ h
    | 8, _ => f151.q8 I call n ρ h
    | 9, _ => f151.q9 I call n ρ h
    | 10, _ => f151.q10 I call n ρ h
    | 11, _ => f151.q11 I call n ρ h
    | 12, _ => f151.q12 I call n ρ h
    | 13, _ => f151.q13 I call n ρ h
    | 14, _ => f151.q14 I call n ρ h
    | 15, _ => f151.q15 I call n ρ h
    | 16, _ => f151.q16 I call n ρ h
    | 17, _ => f151.q17 I call n ρ h
    | 18, _ => f151.q18 I call n ρ h
    | 19, _ => f151.q19 I call n ρ h
    | 20, _ => f151.q20 I call n ρ h
    | 21, _ => f151.q21 I call n ρ h
    | 22, _ => f151.q22 I call n ρ h
    | 23, _ => f151.q23 I call n ρ h
    | 24, _ => f151.q24 I call n ρ h
    | id + 25, hid => absurd hid (by omega)⟩
noncomputable def f151.run (I : Inp) : SF := fun call n a h =>
  match a with
  | [v0] => f151.e I call (f151.J I call n) v0 h
  | _ => none
theorem f151.qe (I : Inp) (call : CallFn) (n : Nat) (v0 : AVal) (h : AHeap) : f151.e I call (f151.J I call n) v0 h = execC P I call (f151.JS I call n) c151.body 0 (finV I c151.results) (argV [v0]) h := by kernel_rfl
theorem f151.code : codeOf P 151 = some c151 := by kernel_rfl
theorem f151.ok (I : Inp) (F : Nat → Option AFn) (hF : F 151 = some (.code c151)) : SfOk P I F 151 (f151.run I) := by
  intro call hc n args h r hr
  unfold f151.run at hr
  split at hr
  · exact fn_sound (C := ⟨P, I, F⟩) (n := n) hc hF (Nat.le_of_ble_eq_true (by kernel_rfl)) (by kernel_rfl) (f151.S I F call) (by kernel_rfl) ((f151.qe I call n _ h).symm.trans hr)
  · cases hr
/-! haruspex/types.reg -/
noncomputable def c152 : AFunc := (AFunc.mk 13 3 [(.tmp 6)] (.seq (.region [(S 6 (.move (.val (.bool .false))) .none)]) (.seq (.seq (.region [(M 7 0)]) (.cond (T 7) (.seq (.region [(M 8 1), (M 9 2), (S 10 (.call 119 [(T 8), (T 9)]) .none), (M 6 10)]) .ret) .skip)) (.seq (.region [(M 11 1), (S 12 (.bin .eql (T 11) (V 0)) .none), (M 6 12)]) .ret))))
abbrev f152.Js : Type := (AVal → AHeap → Rs)
noncomputable def f152.b0 (I : Inp) (call : CallFn) (j : f152.Js) (v1 : AVal) (h : AHeap) : Rs :=
  bndP (pBin .eql v1 (Z 0)) fun v12 =>
  some (v12, h)
noncomputable def f152.e (I : Inp) (call : CallFn) (j : f152.Js) (v0 v1 v2 : AVal) (h : AHeap) : Rs :=
  sCond v0 (
  j v1 h) (
  bnd (call 119 [v1, v2] h) fun v10 h1 =>
  some (v10, h1))
noncomputable def f152.J (I : Inp) (call : CallFn) (n : Nat) : f152.Js :=
  Nat.rec (motive := fun _ => f152.Js) (fun _ _ => none) (fun _ ih => f152.b0 I call ih) n
noncomputable def f152.JS (I : Inp) (call : CallFn) (n : Nat) : Jmp := fun id ρ h =>
  ((f152.J I call n) (ρ 1) h)
theorem f152.q0 (I : Inp) (call : CallFn) (n : Nat) (ρ : Fun) (h : AHeap) : f152.JS I call (n + 1) 0 ρ h = labC P I call (f152.JS I call n) c152.body 0 (finV I c152.results) 0 ρ h := by kernel_rfl
theorem f152.S (I : Inp) (F : Nat → Option AFn) (call : CallFn) : SFn ⟨P, I, F⟩ call c152 (f152.JS I call) :=
  ⟨fun id hid ρ h => by
    have hc : c152.body.cnt = 1 := by kernel_rfl
    rw [hc] at hid
    exact match id, hid with
    | 0, _ => rfl
    | id + 1, hid => absurd hid (by omega), fun n id hid ρ h => by
    have hc : c152.body.cnt = 1 := by kernel_rfl
    rw [hc] at hid
    exact match id, hid with
    | 0, _ => f152.q0 I call n ρ h
    | id + 1, hid => absurd hid (by omega)⟩
noncomputable def f152.run (I : Inp) : SF := fun call n a h =>
  match a with
  | [v0, v1, v2] => f152.e I call (f152.J I call n) v0 v1 v2 h
  | _ => none
theorem f152.qe (I : Inp) (call : CallFn) (n : Nat) (v0 v1 v2 : AVal) (h : AHeap) : f152.e I call (f152.J I call n) v0 v1 v2 h = execC P I call (f152.JS I call n) c152.body 0 (finV I c152.results) (argV [v0, v1, v2]) h := by kernel_rfl
theorem f152.code : codeOf P 152 = some c152 := by kernel_rfl
theorem f152.ok (I : Inp) (F : Nat → Option AFn) (hF : F 152 = some (.code c152)) : SfOk P I F 152 (f152.run I) := by
  intro call hc n args h r hr
  unfold f152.run at hr
  split at hr
  · exact fn_sound (C := ⟨P, I, F⟩) (n := n) hc hF (Nat.le_of_ble_eq_true (by kernel_rfl)) (by kernel_rfl) (f152.S I F call) (by kernel_rfl) ((f152.qe I call n _ _ _ h).symm.trans hr)
  · cases hr
/-! slices.IndexFunc[[]haruspex/api.Impl,haruspex/api.Impl] -/
noncomputable def c153 : AFunc := (AFunc.mk 19 2 [(.tmp 4)] (.seq (.region [(S 4 (.move (V 0)) .none)]) (.seq (.seq (.region [(M 6 0), (S 7 (.lenSl (T 6)) .none), (S 8 (.move (V 0)) .none)]) (.block 0 (.loop (.seq (.region [(S 9 (.bin .lss (T 8) (T 7)) .none)]) (.seq (.cond (T 9) .skip (.exit 0)) (.seq (.block 1 (.seq (.region [(M 10 8), (M 5 10)]) (.seq (.region [(M 11 1), (M 12 0), (M 13 5), (S 14 (.indexAddr 3 (T 12) (T 13)) .none), (S 15 (.loadN 3 (T 14)) .none), (S 16 (.callv (T 11) [(T 15)]) .none)]) (.cond (T 16) (.seq (.region [(M 17 5), (M 4 17)]) .ret) .skip)))) (.region [(S 18 (.bin .add (T 8) (V 1)) .none), (M 8 18)]))))))) (.seq (.region [(S 4 (.move (.val (.int .i64 (.negSucc 0)))) .none)]) .ret))))
abbrev f153.Js : Type := (((AHeap → Rs) × (AVal → AVal → AVal → AVal → AHeap → Rs)) × ((AVal → AVal → AVal → AVal → AHeap → Rs) × (AVal → AVal → AVal → AVal → AHeap → Rs)))
noncomputable def f153.b0 (I : Inp) (call : CallFn) (j : f153.Js) (h : AHeap) : Rs :=
  some ((.int .i64 (.negSucc 0)), h)
noncomputable def f153.b1 (I : Inp) (call : CallFn) (j : f153.Js) (v0 v1 v7 v8 : AVal) (h : AHeap) : Rs :=
  bndP (pBin .lss v8 v7) fun v9 =>
  sCond v9 (
  j.1.1 h) (
  j.2.1 v0 v1 v7 v8 h)
noncomputable def f153.b2 (I : Inp) (call : CallFn) (j : f153.Js) (v0 v1 v7 v8 : AVal) (h : AHeap) : Rs :=
  bndP (pIndexAddr 3 v0 v8) fun v14 =>
  bndP (pLoadN I 3 v14 h) fun v15 =>
  bnd (sCallv call v1 [v15] h) fun v16 h1 =>
  sCond v16 (
  j.2.2 v0 v1 v7 v8 h1) (
  some (v8, h1))
noncomputable def f153.b3 (I : Inp) (call : CallFn) (j : f153.Js) (v0 v1 v7 v8 : AVal) (h : AHeap) : Rs :=
  bndP (pBin .add v8 (Z 1)) fun v18 =>
  j.1.2 v0 v1 v7 v18 h
noncomputable def f153.e (I : Inp) (call : CallFn) (j : f153.Js) (v0 v1 : AVal) (h : AHeap) : Rs :=
  bndP (pLenSl v0) fun v7 =>
  j.1.2 v0 v1 v7 (Z 0) h
noncomputable def f153.J (I : Inp) (call : CallFn) (n : Nat) : f153.Js :=
  Nat.rec (motive := fun _ => f153.Js) (((fun _ => none), (fun _ _ _ _ _ => none)), ((fun _ _ _ _ _ => none), (fun _ _ _ _ _ => none))) (fun _ ih => ((f153.b0 I call ih, f153.b1 I call ih), (f153.b2 I call ih, f153.b3 I call ih))) n
noncomputable def f153.JS (I : Inp) (call : CallFn) (n : Nat) : Jmp := fun id ρ h =>
  (Bool.rec (motive := fun _ => _) (Bool.rec (motive := fun _ => _) ((f153.J I call n).2.2 (ρ 0) (ρ 1) (ρ 7) (ρ 8) h) ((f153.J I call n).2.1 (ρ 0) (ρ 1) (ρ 7) (ρ 8) h) (Nat.blt id 3)) (Bool.rec (motive := fun _ => _) ((f153.J I call n).1.2 (ρ 0) (ρ 1) (ρ 7) (ρ 8) h) ((f153.J I call n).1.1 h) (Nat.blt id 1)) (Nat.blt id 2))
theorem f153.q0 (I : Inp) (call : CallFn) (n : Nat) (ρ : Fun) (h : AHeap) : f153.JS I call (n + 1) 0 ρ h = labC P I call (f153.JS I call n) c153.body 0 (finV I c153.results) 0 ρ h := by kernel_rfl
theorem f153.q1 (I : Inp) (call : CallFn) (n : Nat) (ρ : Fun) (h : AHeap) : f153.JS I call (n + 1) 1 ρ h = labC P I call (f153.JS I call n) c153.body 0 (finV I c153.results) 1 ρ h := by kernel_rfl
theorem f153.q2 (I : Inp) (call : CallFn) (n : Nat) (ρ : Fun) (h : AHeap) : f153.JS I call (n + 1) 2 ρ h = labC P I call (f153.JS I call n) c153.body 0 (finV I c153.results) 2 ρ h := by kernel_rfl
theorem f153.q3 (I : Inp) (call : CallFn) (n : Nat) (ρ : Fun) (h : AHeap) : f153.JS I call (n + 1) 3 ρ h = labC P I call (f153.JS I call n) c153.body 0 (finV I c153.results) 3 ρ h := by kernel_rfl
theorem f153.S (I : Inp) (F : Nat → Option AFn) (call : CallFn) : SFn ⟨P, I, F⟩ call c153 (f153.JS I call) :=
  ⟨fun id hid ρ h => by
    have hc : c153.body.cnt = 4 := by kernel_rfl
    rw [hc] at hid
    exact match id, hid with
    | 0, _ => rfl
    | 1, _ => rfl
    | 2, _ => rfl
    | 3, _ => rfl
    | id + 4, hid => absurd hid (by omega), fun n id hid ρ h => by
    have hc : c153.body.cnt = 4 := by kernel_rfl
    rw [hc] at hid
    exact match id, hid with
    | 0, _ => f153.q0 I call n ρ h
    | 1, _ => f153.q1 I call n ρ h
    | 2, _ => f153.q2 I call n ρ h
    | 3, _ => f153.q3 I call n ρ h
    | id + 4, hid => absurd hid (by omega)⟩
noncomputable def f153.run (I : Inp) : SF := fun call n a h =>
  match a with
  | [v0, v1] => f153.e I call (f153.J I call n) v0 v1 h
  | _ => none
theorem f153.qe (I : Inp) (call : CallFn) (n : Nat) (v0 v1 : AVal) (h : AHeap) : f153.e I call (f153.J I call n) v0 v1 h = execC P I call (f153.JS I call n) c153.body 0 (finV I c153.results) (argV [v0, v1]) h := by kernel_rfl
theorem f153.code : codeOf P 153 = some c153 := by kernel_rfl
theorem f153.ok (I : Inp) (F : Nat → Option AFn) (hF : F 153 = some (.code c153)) : SfOk P I F 153 (f153.run I) := by
  intro call hc n args h r hr
  unfold f153.run at hr
  split at hr
  · exact fn_sound (C := ⟨P, I, F⟩) (n := n) hc hF (Nat.le_of_ble_eq_true (by kernel_rfl)) (by kernel_rfl) (f153.S I F call) (by kernel_rfl) ((f153.qe I call n _ _ h).symm.trans hr)
  · cases hr
/-! haruspex/types.Impl$1 -/
noncomputable def c154 : AFunc := (AFunc.mk 15 1 [(.tmp 4)] (.seq (.region [(S 3 (.box (T 0)) .none), (S 4 (.move (.val (.bool .false))) .none)]) (.seq (.region [(FA 5 0 3), (L1 6 5), (L1 7 1), (S 8 (.bin .eql (T 6) (T 7)) .none), (M 9 8), (S 10 (.fieldAddr 1 (T 3)) (.some (9, .true))), (S 11 (.load1 (T 10)) (.some (9, .true))), (S 12 (.load1 (T 2)) (.some (9, .true))), (S 13 (.bin .eql (T 11) (T 12)) (.some (9, .true))), (S 14 (.pick (T 9) (T 13) (.val (.bool .false))) .none), (M 4 14)]) .ret)))
abbrev f154.Js : Type := Unit
noncomputable def f154.e (I : Inp) (call : CallFn) (j : f154.Js) (v0 v1 v2 : AVal) (h : AHeap) : Rs :=
  bnd (sBox v0 h) fun v3 h1 =>
  bndP (pFieldAddr 0 v3) fun v5 =>
  bndP (pLoad1 I v5 h1) fun v6 =>
  bndP (pLoad1 I v1 h1) fun v7 =>
  bndP (pBin .eql v6 v7) fun v8 =>
  bnd (sGuard v8 .true (lift (pFieldAddr 1 v3) h1) h1) fun v10 h2 =>
  bnd (sGuard v8 .true (lift (pLoad1 I v10 h2) h2) h2) fun v11 h3 =>
  bnd (sGuard v8 .true (lift (pLoad1 I v2 h3) h3) h3) fun v12 h4 =>
  bnd (sGuard v8 .true (lift (pBin .eql v11 v12) h4) h4) fun v13 h5 =>
  bndP (pPick v8 v13 (.bool .false)) fun v14 =>
  some (v14, h5)
theorem f154.S (I : Inp) (F : Nat → Option AFn) (call : CallFn) : SFn ⟨P, I, F⟩ call c154 (fun _ _ _ _ => none) :=
  ⟨fun _ _ _ _ => rfl, fun n id hid => absurd hid (by rw [show c154.body.cnt = 0 by kernel_rfl]; omega)⟩
noncomputable def f154.run (I : Inp) : SF := fun call n a h =>
  match a with
  | [v0, v1, v2] => f154.e I call () v0 v1 v2 h
  | _ => none
theorem f154.qe (I : Inp) (call : CallFn) (n : Nat) (v0 v1 v2 : AVal) (h : AHeap) : f154.e I call () v0 v1 v2 h = execC P I call (fun _ _ _ => none) c154.body 0 (finV I c154.results) (argV [v0, v1, v2]) h := by kernel_rfl
theorem f154.code : codeOf P 154 = some c154 := by kernel_rfl
theorem f154.ok (I : Inp) (F : Nat → Option AFn) (hF : F 154 = some (.code c154)) : SfOk P I F 154 (f154.run I) := by
  intro call hc n args h r hr
  unfold f154.run at hr
  split at hr
  · exact fn_sound (C := ⟨P, I, F⟩) (n := n) hc hF (Nat.le_of_ble_eq_true (by kernel_rfl)) (by kernel_rfl) (f154.S I F call) (by kernel_rfl) ((f154.qe I call n _ _ _ h).symm.trans hr)
  · cases hr
/-! slices.Equal[[]haruspex/api.Type,haruspex/api.Type] -/
noncomputable def c155 : AFunc := (AFunc.mk 26 2 [(.tmp 4)] (.seq (.region [(S 4 (.move (.val (.bool .false))) .none)]) (.seq (.seq (.region [(M 6 0), (S 7 (.lenSl (T 6)) .none), (M 8 1), (S 9 (.lenSl (T 8)) .none), (S 10 (.bin .neq (T 7) (T 9)) .none)]) (.cond (T 10) (.seq (.region [(S 4 (.move (.val (.bool .false))) .none)]) .ret) .skip)) (.seq (.seq (.region [(M 11 0), (S 12 (.lenSl (T 11)) .none), (S 13 (.move (V 0)) .none)]) (.block 0 (.loop (.seq (.region [(S 14 (.bin .lss (T 13) (T 12)) .none)]) (.seq (.cond (T 14) .skip (.exit 0)) (.seq (.block 1 (.seq (.region [(M 15 13), (M 5 15)]) (.seq (.draw [(M 16 0), (M 17 5), (S 18 (.indexAddr 2 (T 16) (T 17)) .none), (S 19 (.loadN 2 (T 18)) .none), (M 20 1), (M 21 5), (S 22 (.indexAddr 2 (T 20) (T 21)) .none), (S 23 (.loadN 2 (T 22)) .none), (S 24 (.eq .true (.struct [.i, .i]) .false (T 19) (T 23)) .none)] [N, N, N, N, N, N, N, N, N] 0) (.cond (T 24) (.seq (.region [(S 4 (.move (.val (.bool .false))) .none)]) .ret) .skip)))) (.region [(S 25 (.bin .add (T 13) (V 1)) .none), (M 13 25)]))))))) (.seq (.region [(S 4 (.move (.val (.bool .true))) .none)]) .ret)))))
abbrev f155.Js : Type := (((AVal → AVal → AHeap → Rs) × (AHeap → Rs)) × ((AVal → AVal → AVal → AVal → AHeap → Rs) × ((AVal → AVal → AVal → AVal → AHeap → Rs) × (AVal → AVal → AVal → AVal → AHeap → Rs))))
noncomputable def f155.b0 (I : Inp) (call : CallFn) (j : f155.Js) (v0 v1 : AVal) (h : AHeap) : Rs :=
  bndP (pLenSl v0) fun v12 =>
  j.2.1 v0 v1 v12 (Z 0) h
noncomputable def f155.b1 (I : Inp) (call : CallFn) (j : f155.Js) (h : AHeap) : Rs :=
  some ((.bool .true), h)
noncomputable def f155.b2 (I : Inp) (call : CallFn) (j : f155.Js) (v0 v1 v12 v13 : AVal) (h : AHeap) : Rs :=
  bndP (pBin .lss v13 v12) fun v14 =>
  sCond v14 (
  j.1.2 h) (
  j.2.2.1 v0 v1 v12 v13 h)
noncomputable def f155.b3 (I : Inp) (call : CallFn) (j : f155.Js) (v0 v1 v12 v13 : AVal) (h : AHeap) : Rs :=
  bndP (pIndexAddr 2 v0 v13) fun v18 =>
  bndP (pLoadN I 2 v18 h) fun v19 =>
  bndP (pIndexAddr 2 v1 v13) fun v22 =>
  bndP (pLoadN I 2 v22 h) fun v23 =>
  bndP (pEq P .true (.struct [.i, .i]) .false v19 v23 h) fun v24 =>
  sCond v24 (
  j.2.2.2 v0 v1 v12 v13 h) (
  some ((.bool .false), h))
noncomputable def f155.b4 (I : Inp) (call : CallFn) (j : f155.Js) (v0 v1 v12 v13 : AVal) (h : AHeap) : Rs :=
  bndP (pBin .add v13 (Z 1)) fun v25 =>
  j.2.1 v0 v1 v12 v25 h
noncomputable def f155.e (I : Inp) (call : CallFn) (j : f155.Js) (v0 v1 : AVal) (h : AHeap) : Rs :=
  bndP (pLenSl v0) fun v7 =>
  bndP (pLenSl v1) fun v9 =>
  bndP (pBin .neq v7 v9) fun v10 =>
  sCond v10 (
  j.1.1 v0 v1 h) (
  some ((.bool .false), h))
noncomputable def f155.J (I : Inp) (call : CallFn) (n : Nat) : f155.Js :=
  Nat.rec (motive := fun _ => f155.Js) (((fun _ _ _ => none), (fun _ => none)), ((fun _ _ _ _ _ => none), ((fun _ _ _ _ _ => none), (fun _ _ _ _ _ => none)))) (fun _ ih => ((f155.b0 I call ih, f155.b1 I call ih), (f155.b2 I call ih, (f155.b3 I call ih, f155.b4 I call ih)))) n
noncomputable def f155.JS (I : Inp) (call : CallFn) (n : Nat) : Jmp := fun id ρ h =>
  (Bool.rec (motive := fun _ => _) (Bool.rec (motive := fun _ => _) (Bool.rec (motive := fun _ => _) ((f155.J I call n).2.2.2 (ρ 0) (ρ 1) (ρ 12) (ρ 13) h) ((f155.J I call n).2.2.1 (ρ 0) (ρ 1) (ρ 12) (ρ 13) h) (Nat.blt id 4)) ((f155.J I call n).2.1 (ρ 0) (ρ 1) (ρ 12) (ρ 13) h) (Nat.blt id 3)) (Bool.rec (motive := fun _ => _) ((f155.J I call n).1.2 h) ((f155.J I call n).1.1 (ρ 0) (ρ 1) h) (Nat.blt id 1)) (Nat.blt id 2))
theorem f155.q0 (I : Inp) (call : CallFn) (n : Nat) (ρ : Fun) (h : AHeap) : f155.JS I call (n + 1) 0 ρ h = labC P I call (f155.JS I call n) c155.body 0 (finV I c155.results) 0 ρ h := by kernel_rfl
theorem f155.q1 (I : Inp) (call : CallFn) (n : Nat) (ρ : Fun) (h : AHeap) : f155.JS I call (n + 1) 1 ρ h = labC P I call (f155.JS I call n) c155.body 0 (finV I c155.results) 1 ρ h := by kernel_rfl
theorem f155.q2 (I : Inp) (call : CallFn) (n : Nat) (ρ : Fun) (h : AHeap) : f155.JS I call (n + 1) 2 ρ h = labC P I call (f155.JS I call n) c155.body 0 (finV I c155.results) 2 ρ h := by kernel_rfl
theorem f155.q3 (I : Inp) (call : CallFn) (n : Nat) (ρ : Fun) (h : AHeap) : f155.JS I call (n + 1) 3 ρ h = labC P I call (f155.JS I call n) c155.body 0 (finV I c155.results) 3 ρ h := by kernel_rfl
theorem f155.q4 (I : Inp) (call : CallFn) (n : Nat) (ρ : Fun) (h : AHeap) : f155.JS I call (n + 1) 4 ρ h = labC P I call (f155.JS I call n) c155.body 0 (finV I c155.results) 4 ρ h := by kernel_rfl
theorem f155.S (I : Inp) (F : Nat → Option AFn) (call : CallFn) : SFn ⟨P, I, F⟩ call c155 (f155.JS I call) :=
  ⟨fun id hid ρ h => by
    have hc : c155.body.cnt = 5 := by kernel_rfl
    rw [hc] at hid
    exact match id, hid with
    | 0, _ => rfl
    | 1, _ => rfl
    | 2, _ => rfl
    | 3, _ => rfl
    | 4, _ => rfl
    | id + 5, hid => absurd hid (by omega), fun n id hid ρ h => by
    have hc : c155.body.cnt = 5 := by kernel_rfl
    rw [hc] at hid
    exact match id, hid with
    | 0, _ => f155.q0 I call n ρ h
    | 1, _ => f155.q1 I call n ρ h
    | 2, _ => f155.q2 I call n ρ h
    | 3, _ => f155.q3 I call n ρ h
    | 4, _ => f155.q4 I call n ρ h
    | id + 5, hid => absurd hid (by omega)⟩
noncomputable def f155.run (I : Inp) : SF := fun call n a h =>
  match a with
  | [v0, v1] => f155.e I call (f155.J I call n) v0 v1 h
  | _ => none
theorem f155.qe (I : Inp) (call : CallFn) (n : Nat) (v0 v1 : AVal) (h : AHeap) : f155.e I call (f155.J I call n) v0 v1 h = execC P I call (f155.JS I call n) c155.body 0 (finV I c155.results) (argV [v0, v1]) h := by kernel_rfl
theorem f155.code : codeOf P 155 = some c155 := by kernel_rfl
theorem f155.ok (I : Inp) (F : Nat → Option AFn) (hF : F 155 = some (.code c155)) : SfOk P I F 155 (f155.run I) := by
  intro call hc n args h r hr
  unfold f155.run at hr
  split at hr
  · exact fn_sound (C := ⟨P, I, F⟩) (n := n) hc hF (Nat.le_of_ble_eq_true (by kernel_rfl)) (by kernel_rfl) (f155.S I F call) (by kernel_rfl) ((f155.qe I call n _ _ h).symm.trans hr)
  · cases hr
/-! haruspex/types.Fits$1 -/
noncomputable def c156 : AFunc := (AFunc.mk 9 1 [(.tmp 3)] (.seq (.region [(S 3 (.move (V 0)) .none)]) (.seq (.region [(L1 4 1), (M 5 0), (S 6 (.indexAddr 2 (T 4) (T 5)) .none), (FA 7 0 6), (L1 8 7), (M 3 8)]) .ret)))
abbrev f156.Js : Type := Unit
noncomputable def f156.e (I : Inp) (call : CallFn) (j : f156.Js) (v0 v1 : AVal) (h : AHeap) : Rs :=
  bndP (pLoad1 I v1 h) fun v4 =>
  bndP (pIndexAddr 2 v4 v0) fun v6 =>
  bndP (pFieldAddr 0 v6) fun v7 =>
  bndP (pLoad1 I v7 h) fun v8 =>
  some (v8, h)
theorem f156.S (I : Inp) (F : Nat → Option AFn) (call : CallFn) : SFn ⟨P, I, F⟩ call c156 (fun _ _ _ _ => none) :=
  ⟨fun _ _ _ _ => rfl, fun n id hid => absurd hid (by rw [show c156.body.cnt = 0 by kernel_rfl]; omega)⟩
noncomputable def f156.run (I : Inp) : SF := fun call n a h =>
  match a with
  | [v0, v1] => f156.e I call () v0 v1 h
  | _ => none
theorem f156.qe (I : Inp) (call : CallFn) (n : Nat) (v0 v1 : AVal) (h : AHeap) : f156.e I call () v0 v1 h = execC P I call (fun _ _ _ => none) c156.body 0 (finV I c156.results) (argV [v0, v1]) h := by kernel_rfl
theorem f156.code : codeOf P 156 = some c156 := by kernel_rfl
theorem f156.ok (I : Inp) (F : Nat → Option AFn) (hF : F 156 = some (.code c156)) : SfOk P I F 156 (f156.run I) := by
  intro call hc n args h r hr
  unfold f156.run at hr
  split at hr
  · exact fn_sound (C := ⟨P, I, F⟩) (n := n) hc hF (Nat.le_of_ble_eq_true (by kernel_rfl)) (by kernel_rfl) (f156.S I F call) (by kernel_rfl) ((f156.qe I call n _ _ h).symm.trans hr)
  · cases hr
/-! haruspex/types.sig -/
noncomputable def c157 : AFunc := (AFunc.mk 23 2 [(.tmp 4), (.tmp 5)] (.seq (.region [(S 4 (.move (V 0)) .none), (S 5 (.move (.val (.bool .false))) .none)]) (.seq (.region [(M 7 0), (NC 8 7), (FA 9 4 8), (L1 10 9), (M 11 1), (S 12 (.indexAddr 3 (T 10) (T 11)) .none), (FA 13 0 12), (L1 14 13), (M 6 14)]) (.seq (.region [(M 15 6), (M 16 6), (M 17 0), (NC 18 17), (FA 19 1 18), (L1 20 19), (S 21 (.lenSl (T 20)) .none), (S 22 (.call 119 [(T 16), (T 21)]) .none), (M 4 15), (M 5 22)]) .ret))))
abbrev f157.Js : Type := Unit
noncomputable def f157.e (I : Inp) (call : CallFn) (j : f157.Js) (v0 v1 : AVal) (h : AHeap) : Rs :=
  bndP (pNilCheck v0) fun v8 =>
  bndP (pFieldAddr 4 v8) fun v9 =>
  bndP (pLoad1 I v9 h) fun v10 =>
  bndP (pIndexAddr 3 v10 v1) fun v12 =>
  bndP (pFieldAddr 0 v12) fun v13 =>
  bndP (pLoad1 I v13 h) fun v14 =>
  bndP (pNilCheck v0) fun v18 =>
  bndP (pFieldAddr 1 v18) fun v19 =>
  bndP (pLoad1 I v19 h) fun v20 =>
  bndP (pLenSl v20) fun v21 =>
  bnd (call 119 [v14, v21] h) fun v22 h1 =>
  some (.tuple [v14, v22], h1)
theorem f157.S (I : Inp) (F : Nat → Option AFn) (call : CallFn) : SFn ⟨P, I, F⟩ call c157 (fun _ _ _ _ => none) :=
  ⟨fun _ _ _ _ => rfl, fun n id hid => absurd hid (by rw [show c157.body.cnt = 0 by kernel_rfl]; omega)⟩
noncomputable def f157.run (I : Inp) : SF := fun call n a h =>
  match a with
  | [v0, v1] => f157.e I call () v0 v1 h
  | _ => none
theorem f157.qe (I : Inp) (call : CallFn) (n : Nat) (v0 v1 : AVal) (h : AHeap) : f157.e I call () v0 v1 h = execC P I call (fun _ _ _ => none) c157.body 0 (finV I c157.results) (argV [v0, v1]) h := by kernel_rfl
theorem f157.code : codeOf P 157 = some c157 := by kernel_rfl
theorem f157.ok (I : Inp) (F : Nat → Option AFn) (hF : F 157 = some (.code c157)) : SfOk P I F 157 (f157.run I) := by
  intro call hc n args h r hr
  unfold f157.run at hr
  split at hr
  · exact fn_sound (C := ⟨P, I, F⟩) (n := n) hc hF (Nat.le_of_ble_eq_true (by kernel_rfl)) (by kernel_rfl) (f157.S I F call) (by kernel_rfl) ((f157.qe I call n _ _ h).symm.trans hr)
  · cases hr
/-! haruspex/types.call -/
noncomputable def c158 : AFunc := (AFunc.mk 129 3 [(.tmp 6)] (.seq (.region [(S 5 (.box (T 2)) .none), (S 6 (.move (.val (.bool .false))) .none)]) (.seq (.region [(S 7 (.move (V 0)) .none), (S 8 (.move (.val (.bool .false))) .none)]) (.seq (.block 0 (.seq (.region [(FA 12 0 5), (L1 13 12), (S 14 (.bin .eql (T 13) (V 12)) .none), (M 11 14)]) (.cond (T 11) (.region [(M 16 0), (FA 17 4 5), (L1 18 17), (S 19 (.call 157 [(T 16), (T 18)]) .none), (M 15 19), (S 20 (.extract (T 15) 0) .none), (S 21 (.extract (T 15) 1) .none), (M 7 20), (M 8 21)]) (.seq (.region [(FA 23 0 5), (L1 24 23), (S 25 (.bin .eql (T 24) (V 13)) .none), (M 26 25), (S 27 (.move (T 1)) (.some (26, .true))), (S 28 (.fieldAddr 2 (T 5)) (.some (26, .true))), (S 29 (.load1 (T 28)) (.some (26, .true))), (S 30 (.indexAddr 2 (T 27) (T 29)) (.some (26, .true))), (S 31 (.fieldAddr 0 (T 30)) (.some (26, .true))), (S 32 (.load1 (T 31)) (.some (26, .true))), (S 33 (.bin .eql (T 32) (V 2)) (.some (26, .true))), (S 34 (.pick (T 26) (T 33) (.val (.bool .false))) .none), (M 22 34)]) (.cond (T 22) (.region [(M 35 1), (FA 36 2 5), (L1 37 36), (S 38 (.indexAddr 2 (T 35) (T 37)) .none), (FA 39 1 38), (L1 40 39), (M 7 40), (S 8 (.move (.val (.bool .true))) .none)]) (.seq (.region [(FA 42 0 5), (L1 43 42), (S 44 (.bin .eql (T 43) (V 14)) .none), (M 45 44), (S 46 (.move (T 1)) (.some (45, .true))), (S 47 (.fieldAddr 2 (T 5)) (.some (45, .true))), (S 48 (.load1 (T 47)) (.some (45, .true))), (S 49 (.indexAddr 2 (T 46) (T 48)) (.some (45, .true))), (S 50 (.fieldAddr 0 (T 49)) (.some (45, .true))), (S 51 (.load1 (T 50)) (.some (45, .true))), (S 52 (.bin .eql (T 51) (V 3)) (.some (45, .true))), (S 53 (.pick (T 45) (T 52) (.val (.bool .false))) .none), (M 41 53)]) (.cond (T 41) (.draw [(M 54 0), (NC 55 54), (FA 56 2 55), (L1 57 56), (M 58 1), (FA 59 2 5), (L1 60 59), (S 61 (.indexAddr 2 (T 58) (T 60)) .none), (FA 62 1 61), (L1 63 62), (S 64 (.indexAddr 1 (T 57) (T 63)) .none), (FA 65 0 64), (L1 66 65), (FA 67 4 5), (L1 68 67), (S 69 (.indexAddr 1 (T 66) (T 68)) .none), (L1 70 69), (M 7 70), (S 8 (.move (.val (.bool .true))) .none)] [N, N, N, N, N, N, N, N, N, N, N, N, N, N, N, N, N, N, N] 0) .skip))))))) (.seq (.seq (.draw [(M 71 8), (S 72 (.un .not (T 71)) .none), (M 73 72), (S 74 (.fieldAddr 5 (T 5)) (.some (73, .false))), (S 75 (.load1 (T 74)) (.some (73, .false))), (S 76 (.lenSl (T 75)) (.some (73, .false))), (S 77 (.move (T 0)) (.some (73, .false))), (S 78 (.nilCheck (T 77)) (.some (73, .false))), (S 79 (.fieldAddr 1 (T 78)) (.some (73, .false))), (S 80 (.load1 (T 79)) (.some (73, .false))), (S 81 (.move (T 7)) (.some (73, .false))), (S 82 (.indexAddr 3 (T 80) (T 81)) (.some (73, .false))), (S 83 (.fieldAddr 0 (T 82)) (.some (73, .false))), (S 84 (.load1 (T 83)) (.some (73, .false))), (S 85 (.lenSl (T 84)) (.some (73, .false))), (S 86 (.bin .neq (T 76) (T 85)) (.some (73, .false))), (S 87 (.pick (T 73) (.val (.bool .true)) (T 86)) .none), (M 88 87), (S 89 (.move (T 1)) (.some (88, .false))), (S 90 (.fieldAddr 1 (T 5)) (.some (88, .false))), (S 91 (.load1 (T 90)) (.some (88, .false))), (S 92 (.indexAddr 2 (T 89) (T 91)) (.some (88, .false))), (S 93 (.loadN 2 (T 92)) (.some (88, .false))), (S 94 (.move (T 0)) (.some (88, .false))), (S 95 (.nilCheck (T 94)) (.some (88, .false))), (S 96 (.fieldAddr 1 (T 95)) (.some (88, .false))), (S 97 (.load1 (T 96)) (.some (88, .false))), (S 98 (.move (T 7)) (.some (88, .false))), (S 99 (.indexAddr 3 (T 97) (T 98)) (.some (88, .false))), (S 100 (.fieldAddr 1 (T 99)) (.some (88, .false))), (S 101 (.loadN 2 (T 100)) (.some (88, .false))), (S 102 (.eq .true (.struct [.i, .i]) .false (T 93) (T 101)) (.some (88, .false))), (S 103 (.pick (T 88) (.val (.bool .true)) (T 102)) .none)] [N, N, N, N, N, N, N, N, N, N, N, N, N, N, N, N, N, N, N, N, N, N, N, N, N, N, N, N, N, N, N, N, N] 0) (.cond (T 103) (.seq (.region [(S 6 (.move (.val (.bool .false))) .none)]) .ret) .skip)) (.seq (.seq (.region [(FA 104 5 5), (L1 105 104), (S 106 (.lenSl (T 105)) .none), (S 107 (.move (V 0)) .none)]) (.block 1 (.loop (.seq (.region [(S 108 (.bin .lss (T 107) (T 106)) .none)]) (.seq (.cond (T 108) .skip (.exit 1)) (.seq (.block 2 (.seq (.region [(M 109 107), (S 110 (.indexAddr 1 (T 105) (T 107)) .none), (L1 111 110), (M 9 109), (M 10 111)]) (.seq (.draw [(M 112 1), (M 113 10), (S 114 (.indexAddr 2 (T 112) (T 113)) .none), (S 115 (.loadN 2 (T 114)) .none), (M 116 0), (NC 117 116), (FA 118 1 117), (L1 119 118), (M 120 7), (S 121 (.indexAddr 3 (T 119) (T 120)) .none), (FA 122 0 121), (L1 123 122), (M 124 9), (S 125 (.indexAddr 2 (T 123) (T 124)) .none), (S 126 (.loadN 2 (T 125)) .none), (S 127 (.eq .true (.struct [.i, .i]) .false (T 115) (T 126)) .none)] [N, N, N, N, N, N, N, N, N, N, N, N, N, N, N, N] 0) (.cond (T 127) (.seq (.region [(S 6 (.move (.val (.bool .false))) .none)]) .ret) .skip)))) (.region [(S 128 (.bin .add (T 107) (V 1)) .none), (M 107 128)]))))))) (.seq (.region [(S 6 (.move (.val (.bool .true))) .none)]) .ret)))))))
abbrev f158.Js : Type := (((AVal → AVal → AVal → AVal → AVal → AHeap → Rs) × ((AVal → AVal → AVal → AVal → AHeap → Rs) × (AHeap → Rs))) × ((AVal → AVal → AVal → AVal → AVal → AVal → AHeap → Rs) × ((AVal → AVal → AVal → AVal → AVal → AVal → AHeap → Rs) × (AVal → AVal → AVal → AVal → AVal → AVal → AHeap → Rs))))
noncomputable def f158.b0 (I : Inp) (call : CallFn) (j : f158.Js) (v0 v1 v5 v7 v8 : AVal) (h : AHeap) : Rs :=
  bndP (pUn .not v8) fun v72 =>
  bnd (sGuard v72 .false (lift (pFieldAddr 5 v5) h) h) fun v74 h1 =>
  bnd (sGuard v72 .false (lift (pLoad1 I v74 h1) h1) h1) fun v75 h2 =>
  bnd (sGuard v72 .false (lift (pLenSl v75) h2) h2) fun v76 h3 =>
  bnd (sGuard v72 .false (some (v0, h3)) h3) fun v77 h4 =>
  bnd (sGuard v72 .false (lift (pNilCheck v77) h4) h4) fun v78 h5 =>
  bnd (sGuard v72 .false (lift (pFieldAddr 1 v78) h5) h5) fun v79 h6 =>
  bnd (sGuard v72 .false (lift (pLoad1 I v79 h6) h6) h6) fun v80 h7 =>
  bnd (sGuard v72 .false (some (v7, h7)) h7) fun v81 h8 =>
  bnd (sGuard v72 .false (lift (pIndexAddr 3 v80 v81) h8) h8) fun v82 h9 =>
  bnd (sGuard v72 .false (lift (pFieldAddr 0 v82) h9) h9) fun v83 h10 =>
  bnd (sGuard v72 .false (lift (pLoad1 I v83 h10) h10) h10) fun v84 h11 =>
  bnd (sGuard v72 .false (lift (pLenSl v84) h11) h11) fun v85 h12 =>
  bnd (sGuard v72 .false (lift (pBin .neq v76 v85) h12) h12) fun v86 h13 =>
  bndP (pPick v72 (.bool .true) v86) fun v87 =>
  bnd (sGuard v87 .false (some (v1, h13)) h13) fun v89 h14 =>
  bnd (sGuard v87 .false (lift (pFieldAddr 1 v5) h14) h14) fun v90 h15 =>
  bnd (sGuard v87 .false (lift (pLoad1 I v90 h15) h15) h15) fun v91 h16 =>
  bnd (sGuard v87 .false (lift (pIndexAddr 2 v89 v91) h16) h16) fun v92 h17 =>
  bnd (sGuard v87 .false (lift (pLoadN I 2 v92 h17) h17) h17) fun v93 h18 =>
  bnd (sGuard v87 .false (some (v0, h18)) h18) fun v94 h19 =>
  bnd (sGuard v87 .false (lift (pNilCheck v94) h19) h19) fun v95 h20 =>
  bnd (sGuard v87 .false (lift (pFieldAddr 1 v95) h20) h20) fun v96 h21 =>
  bnd (sGuard v87 .false (lift (pLoad1 I v96 h21) h21) h21) fun v97 h22 =>
  bnd (sGuard v87 .false (some (v7, h22)) h22) fun v98 h23 =>
  bnd (sGuard v87 .false (lift (pIndexAddr 3 v97 v98) h23) h23) fun v99 h24 =>
  bnd (sGuard v87 .false (lift (pFieldAddr 1 v99) h24) h24) fun v100 h25 =>
  bnd (sGuard v87 .false (lift (pLoadN I 2 v100 h25) h25) h25) fun v101 h26 =>
  bnd (sGuard v87 .false (lift (pEq P .true (.struct [.i, .i]) .false v93 v101 h26) h26) h26) fun v102 h27 =>
  bndP (pPick v87 (.bool .true) v102) fun v103 =>
  sCond v103 (
  j.1.2.1 v0 v1 v5 v7 h27) (
  some ((.bool .false), h27))
noncomputable def f158.b1 (I : Inp) (call : CallFn) (j : f158.Js) (v0 v1 v5 v7 : AVal) (h : AHeap) : Rs :=
  bndP (pFieldAddr 5 v5) fun v104 =>
  bndP (pLoad1 I v104 h) fun v105 =>
  bndP (pLenSl v105) fun v106 =>
  j.2.1 v0 v1 v7 v105 v106 (Z 0) h
noncomputable def f158.b2 (I : Inp) (call : CallFn) (j : f158.Js) (h : AHeap) : Rs :=
  some ((.bool .true), h)
noncomputable def f158.b3 (I : Inp) (call : CallFn) (j : f158.Js) (v0 v1 v7 v105 v106 v107 : AVal) (h : AHeap) : Rs :=
  bndP (pBin .lss v107 v106) fun v108 =>
  sCond v108 (
  j.1.2.2 h) (
  j.2.2.1 v0 v1 v7 v105 v106 v107 h)
noncomputable def f158.b4 (I : Inp) (call : CallFn) (j : f158.Js) (v0 v1 v7 v105 v106 v107 : AVal) (h : AHeap) : Rs :=
  bndP (pIndexAddr 1 v105 v107) fun v110 =>
  bndP (pLoad1 I v110 h) fun v111 =>
  bndP (pIndexAddr 2 v1 v111) fun v114 =>
  bndP (pLoadN I 2 v114 h) fun v115 =>
  bndP (pNilCheck v0) fun v117 =>
  bndP (pFieldAddr 1 v117) fun v118 =>
  bndP (pLoad1 I v118 h) fun v119 =>
  bndP (pIndexAddr 3 v119 v7) fun v121 =>
  bndP (pFieldAddr 0 v121) fun v122 =>
  bndP (pLoad1 I v122 h) fun v123 =>
  bndP (pIndexAddr 2 v123 v107) fun v125 =>
  bndP (pLoadN I 2 v125 h) fun v126 =>
  bndP (pEq P .true (.struct [.i, .i]) .false v115 v126 h) fun v127 =>
  sCond v127 (
  j.2.2.2 v0 v1 v7 v105 v106 v107 h) (
  some ((.bool .false), h))
noncomputable def f158.b5 (I : Inp) (call : CallFn) (j : f158.Js) (v0 v1 v7 v105 v106 v107 : AVal) (h : AHeap) : Rs :=
  bndP (pBin .add v107 (Z 1)) fun v128 =>
  j.2.1 v0 v1 v7 v105 v106 v128 h
noncomputable def f158.e (I : Inp) (call : CallFn) (j : f158.Js) (v0 v1 v2 : AVal) (h : AHeap) : Rs :=
  bnd (sBox v2 h) fun v5 h1 =>
  bndP (pFieldAddr 0 v5) fun v12 =>
  bndP (pLoad1 I v12 h1) fun v13 =>
  bndP (pBin .eql v13 (Z 12)) fun v14 =>
  sCond v14 (
  bndP (pFieldAddr 0 v5) fun v23 =>
  bndP (pLoad1 I v23 h1) fun v24 =>
  bndP (pBin .eql v24 (Z 13)) fun v25 =>
  bnd (sGuard v25 .true (some (v1, h1)) h1) fun v27 h2 =>
  bnd (sGuard v25 .true (lift (pFieldAddr 2 v5) h2) h2) fun v28 h3 =>
  bnd (sGuard v25 .true (lift (pLoad1 I v28 h3) h3) h3) fun v29 h4 =>
  bnd (sGuard v25 .true (lift (pIndexAddr 2 v27 v29) h4) h4) fun v30 h5 =>
  bnd (sGuard v25 .true (lift (pFieldAddr 0 v30) h5) h5) fun v31 h6 =>
  bnd (sGuard v25 .true (lift (pLoad1 I v31 h6) h6) h6) fun v32 h7 =>
  bnd (sGuard v25 .true (lift (pBin .eql v32 (Z 2)) h7) h7) fun v33 h8 =>
  bndP (pPick v25 v33 (.bool .false)) fun v34 =>
  sCond v34 (
  bndP (pFieldAddr 0 v5) fun v42 =>
  bndP (pLoad1 I v42 h8) fun v43 =>
  bndP (pBin .eql v43 (Z 14)) fun v44 =>
  bnd (sGuard v44 .true (some (v1, h8)) h8) fun v46 h9 =>
  bnd (sGuard v44 .true (lift (pFieldAddr 2 v5) h9) h9) fun v47 h10 =>
  bnd (sGuard v44 .true (lift (pLoad1 I v47 h10) h10) h10) fun v48 h11 =>
  bnd (sGuard v44 .true (lift (pIndexAddr 2 v46 v48) h11) h11) fun v49 h12 =>
  bnd (sGuard v44 .true (lift (pFieldAddr 0 v49) h12) h12) fun v50 h13 =>
  bnd (sGuard v44 .true (lift (pLoad1 I v50 h13) h13) h13) fun v51 h14 =>
  bnd (sGuard v44 .true (lift (pBin .eql v51 (Z 3)) h14) h14) fun v52 h15 =>
  bndP (pPick v44 v52 (.bool .false)) fun v53 =>
  sCond v53 (
  j.1.1 v0 v1 v5 (Z 0) (.bool .false) h15) (
  bndP (pNilCheck v0) fun v55 =>
  bndP (pFieldAddr 2 v55) fun v56 =>
  bndP (pLoad1 I v56 h15) fun v57 =>
  bndP (pFieldAddr 2 v5) fun v59 =>
  bndP (pLoad1 I v59 h15) fun v60 =>
  bndP (pIndexAddr 2 v1 v60) fun v61 =>
  bndP (pFieldAddr 1 v61) fun v62 =>
  bndP (pLoad1 I v62 h15) fun v63 =>
  bndP (pIndexAddr 1 v57 v63) fun v64 =>
  bndP (pFieldAddr 0 v64) fun v65 =>
  bndP (pLoad1 I v65 h15) fun v66 =>
  bndP (pFieldAddr 4 v5) fun v67 =>
  bndP (pLoad1 I v67 h15) fun v68 =>
  bndP (pIndexAddr 1 v66 v68) fun v69 =>
  bndP (pLoad1 I v69 h15) fun v70 =>
  j.1.1 v0 v1 v5 v70 (.bool .true) h15)) (
  bndP (pFieldAddr 2 v5) fun v36 =>
  bndP (pLoad1 I v36 h8) fun v37 =>
  bndP (pIndexAddr 2 v1 v37) fun v38 =>
  bndP (pFieldAddr 1 v38) fun v39 =>
  bndP (pLoad1 I v39 h8) fun v40 =>
  j.1.1 v0 v1 v5 v40 (.bool .true) h8)) (
  bndP (pFieldAddr 4 v5) fun v17 =>
  bndP (pLoad1 I v17 h1) fun v18 =>
  bnd (call 157 [v0, v18] h1) fun v19 h16 =>
  bndP (pExtract v19 0) fun v20 =>
  bndP (pExtract v19 1) fun v21 =>
  j.1.1 v0 v1 v5 v20 v21 h16)
noncomputable def f158.J (I : Inp) (call : CallFn) (n : Nat) : f158.Js :=
  Nat.rec (motive := fun _ => f158.Js) (((fun _ _ _ _ _ _ => none), ((fun _ _ _ _ _ => none), (fun _ => none))), ((fun _ _ _ _ _ _ _ => none), ((fun _ _ _ _ _ _ _ => none), (fun _ _ _ _ _ _ _ => none)))) (fun _ ih => ((f158.b0 I call ih, (f158.b1 I call ih, f158.b2 I call ih)), (f158.b3 I call ih, (f158.b4 I call ih, f158.b5 I call ih)))) n
noncomputable def f158.JS (I : Inp) (call : CallFn) (n : Nat) : Jmp := fun id ρ h =>
  (Bool.rec (motive := fun _ => _) (Bool.rec (motive := fun _ => _) (Bool.rec (motive := fun _ => _) ((f158.J I call n).2.2.2 (ρ 0) (ρ 1) (ρ 7) (ρ 105) (ρ 106) (ρ 107) h) ((f158.J I call n).2.2.1 (ρ 0) (ρ 1) (ρ 7) (ρ 105) (ρ 106) (ρ 107) h) (Nat.blt id 5)) ((f158.J I call n).2.1 (ρ 0) (ρ 1) (ρ 7) (ρ 105) (ρ 106) (ρ 107) h) (Nat.blt id 4)) (Bool.rec (motive := fun _ => _) (Bool.rec (motive := fun _ => _) ((f158.J I call n).1.2.2 h) ((f158.J I call n).1.2.1 (ρ 0) (ρ 1) (ρ 5) (ρ 7) h) (Nat.blt id 2)) ((f158.J I call n).1.1 (ρ 0) (ρ 1) (ρ 5) (ρ 7) (ρ 8) h) (Nat.blt id 1)) (Nat.blt id 3))
theorem f158.q0 (I : Inp) (call : CallFn) (n : Nat) (ρ : Fun) (h : AHeap) : f158.JS I call (n + 1) 0 ρ h = labC P I call (f158.JS I call n) c158.body 0 (finV I c158.results) 0 ρ h := by kernel_rfl
theorem f158.q1 (I : Inp) (call : CallFn) (n : Nat) (ρ : Fun) (h : AHeap) : f158.JS I call (n + 1) 1 ρ h = labC P I call (f158.JS I call n) c158.body 0 (finV I c158.results) 1 ρ h := by kernel_rfl
theorem f158.q2 (I : Inp) (call : CallFn) (n : Nat) (ρ : Fun) (h : AHeap) : f158.JS I call (n + 1) 2 ρ h = labC P I call (f158.JS I call n) c158.body 0 (finV I c158.results) 2 ρ h := by kernel_rfl
theorem f158.q3 (I : Inp) (call : CallFn) (n : Nat) (ρ : Fun) (h : AHeap) : f158.JS I call (n + 1) 3 ρ h = labC P I call (f158.JS I call n) c158.body 0 (finV I c158.results) 3 ρ h := by kernel_rfl
theorem f158.q4 (I : Inp) (call : CallFn) (n : Nat) (ρ : Fun) (h : AHeap) : f158.JS I call (n + 1) 4 ρ h = labC P I call (f158.JS I call n) c158.body 0 (finV I c158.results) 4 ρ h := by kernel_rfl
theorem f158.q5 (I : Inp) (call : CallFn) (n : Nat) (ρ : Fun) (h : AHeap) : f158.JS I call (n + 1) 5 ρ h = labC P I call (f158.JS I call n) c158.body 0 (finV I c158.results) 5 ρ h := by kernel_rfl
theorem f158.S (I : Inp) (F : Nat → Option AFn) (call : CallFn) : SFn ⟨P, I, F⟩ call c158 (f158.JS I call) :=
  ⟨fun id hid ρ h => by
    have hc : c158.body.cnt = 6 := by kernel_rfl
    rw [hc] at hid
    exact match id, hid with
    | 0, _ => rfl
    | 1, _ => rfl
    | 2, _ => rfl
    | 3, _ => rfl
    | 4, _ => rfl
    | 5, _ => rfl
    | id + 6, hid => absurd hid (by omega), fun n id hid ρ h => by
    have hc : c158.body.cnt = 6 := by kernel_rfl
    rw [hc] at hid
    exact match id, hid with
    | 0, _ => f158.q0 I call n ρ h
    | 1, _ => f158.q1 I call n ρ h
    | 2, _ => f158.q2 I call n ρ h
    | 3, _ => f158.q3 I call n ρ h
    | 4, _ => f158.q4 I call n ρ h
    | 5, _ => f158.q5 I call n ρ h
    | id + 6, hid => absurd hid (by omega)⟩
noncomputable def f158.run (I : Inp) : SF := fun call n a h =>
  match a with
  | [v0, v1, v2] => f158.e I call (f158.J I call n) v0 v1 v2 h
  | _ => none
theorem f158.qe (I : Inp) (call : CallFn) (n : Nat) (v0 v1 v2 : AVal) (h : AHeap) : f158.e I call (f158.J I call n) v0 v1 v2 h = execC P I call (f158.JS I call n) c158.body 0 (finV I c158.results) (argV [v0, v1, v2]) h := by kernel_rfl
theorem f158.code : codeOf P 158 = some c158 := by kernel_rfl
theorem f158.ok (I : Inp) (F : Nat → Option AFn) (hF : F 158 = some (.code c158)) : SfOk P I F 158 (f158.run I) := by
  intro call hc n args h r hr
  unfold f158.run at hr
  split at hr
  · exact fn_sound (C := ⟨P, I, F⟩) (n := n) hc hF (Nat.le_of_ble_eq_true (by kernel_rfl)) (by kernel_rfl) (f158.S I F call) (by kernel_rfl) ((f158.qe I call n _ _ _ h).symm.trans hr)
  · cases hr
/-! haruspex/graph.May -/
noncomputable def c159 : AFunc := (AFunc.mk 46 1 [(.tmp 2)] (.seq (.region [(S 1 (.box (T 0)) .none), (S 2 (.move (.val (.bool .false))) .none)]) (.seq (.seq (.region [(FA 7 0 1), (L1 8 7), (S 9 (.bin .lss (T 8) (V 0)) .none), (M 10 9), (S 11 (.fieldAddr 0 (T 1)) (.some (10, .false))), (S 12 (.load1 (T 11)) (.some (10, .false))), (S 13 (.bin .gtr (T 12) (V 600)) (.some (10, .false))), (S 14 (.pick (T 10) (.val (.bool .true)) (T 13)) .none), (M 15 14), (S 16 (.fieldAddr 1 (T 1)) (.some (15, .false))), (S 17 (.load1 (T 16)) (.some (15, .false))), (S 18 (.lenSl (T 17)) (.some (15, .false))), (S 19 (.fieldAddr 0 (T 1)) (.some (15, .false))), (S 20 (.load1 (T 19)) (.some (15, .false))), (S 21 (.bin .neq (T 18) (T 20)) (.some (15, .false))), (S 22 (.pick (T 15) (.val (.bool .true)) (T 21)) .none)]) (.cond (T 22) (.seq (.region [(S 2 (.move (.val (.bool .false))) .none)]) .ret) .skip)) (.seq (.seq (.region [(FA 23 1 1), (L1 24 23), (S 25 (.lenSl (T 24)) .none), (S 26 (.move (V 0)) .none)]) (.block 0 (.loop (.seq (.region [(S 27 (.bin .lss (T 26) (T 25)) .none)]) (.seq (.cond (T 27) .skip (.exit 0)) (.seq (.block 1 (.seq (.region [(S 28 (.indexAddr 1 (T 24) (T 26)) .none), (L1 29 28), (M 4 29)]) (.seq (.region [(M 30 4), (S 31 (.lenSl (T 30)) .none), (S 32 (.move (V 0)) .none)]) (.block 2 (.loop (.seq (.region [(S 33 (.bin .lss (T 32) (T 31)) .none)]) (.seq (.cond (T 33) .skip (.exit 2)) (.seq (.block 3 (.seq (.region [(S 34 (.indexAddr 1 (T 30) (T 32)) .none), (L1 35 34), (M 6 35)]) (.seq (.region [(M 36 6), (S 37 (.bin .lss (T 36) (V 0)) .none), (M 38 37), (S 39 (.move (T 6)) (.some (38, .false))), (S 40 (.fieldAddr 0 (T 1)) (.some (38, .false))), (S 41 (.load1 (T 40)) (.some (38, .false))), (S 42 (.bin .geq (T 39) (T 41)) (.some (38, .false))), (S 43 (.pick (T 38) (.val (.bool .true)) (T 42)) .none)]) (.cond (T 43) (.seq (.region [(S 2 (.move (.val (.bool .false))) .none)]) .ret) .skip)))) (.region [(S 44 (.bin .add (T 32) (V 1)) .none), (M 32 44)]))))))))) (.region [(S 45 (.bin .add (T 26) (V 1)) .none), (M 26 45)]))))))) (.seq (.region [(S 2 (.move (.val (.bool .true))) .none)]) .ret)))))
abbrev f159.Js : Type := ((((AVal → AHeap → Rs) × (AHeap → Rs)) × ((AVal → AVal → AVal → AVal → AHeap → Rs) × (AVal → AVal → AVal → AVal → AHeap → Rs))) × (((AVal → AVal → AVal → AVal → AHeap → Rs) × (AVal → AVal → AVal → AVal → AVal → AVal → AVal → AHeap → Rs)) × ((AVal → AVal → AVal → AVal → AVal → AVal → AVal → AHeap → Rs) × (AVal → AVal → AVal → AVal → AVal → AVal → AVal → AHeap → Rs))))
noncomputable def f159.b0 (I : Inp) (call : CallFn) (j : f159.Js) (v1 : AVal) (h : AHeap) : Rs :=
  bndP (pFieldAddr 1 v1) fun v23 =>
  bndP (pLoad1 I v23 h) fun v24 =>
  bndP (pLenSl v24) fun v25 =>
  j.1.2.1 v1 v24 v25 (Z 0) h
noncomputable def f159.b1 (I : Inp) (call : CallFn) (j : f159.Js) (h : AHeap) : Rs :=
  some ((.bool .true), h)
noncomputable def f159.b2 (I : Inp) (call : CallFn) (j : f159.Js) (v1 v24 v25 v26 : AVal) (h : AHeap) : Rs :=
  bndP (pBin .lss v26 v25) fun v27 =>
  sCond v27 (
  j.1.1.2 h) (
  j.1.2.2 v1 v24 v25 v26 h)
noncomputable def f159.b3 (I : Inp) (call : CallFn) (j : f159.Js) (v1 v24 v25 v26 : AVal) (h : AHeap) : Rs :=
  bndP (pIndexAddr 1 v24 v26) fun v28 =>
  bndP (pLoad1 I v28 h) fun v29 =>
  bndP (pLenSl v29) fun v31 =>
  j.2.1.2 v1 v24 v25 v26 v29 v31 (Z 0) h
noncomputable def f159.b4 (I : Inp) (call : CallFn) (j : f159.Js) (v1 v24 v25 v26 : AVal) (h : AHeap) : Rs :=
  bndP (pBin .add v26 (Z 1)) fun v45 =>
  j.1.2.1 v1 v24 v25 v45 h
noncomputable def f159.b5 (I : Inp) (call : CallFn) (j : f159.Js) (v1 v24 v25 v26 v30 v31 v32 : AVal) (h : AHeap) : Rs :=
  bndP (pBin .lss v32 v31) fun v33 =>
  sCond v33 (
  j.2.1.1 v1 v24 v25 v26 h) (
  j.2.2.1 v1 v24 v25 v26 v30 v31 v32 h)
noncomputable def f159.b6 (I : Inp) (call : CallFn) (j : f159.Js) (v1 v24 v25 v26 v30 v31 v32 : AVal) (h : AHeap) : Rs :=
  bndP (pIndexAddr 1 v30 v32) fun v34 =>
  bndP (pLoad1 I v34 h) fun v35 =>
  bndP (pBin .lss v35 (Z 0)) fun v37 =>
  bnd (sGuard v37 .false (some (v35, h)) h) fun v39 h1 =>
  bnd (sGuard v37 .false (lift (pFieldAddr 0 v1) h1) h1) fun v40 h2 =>
  bnd (sGuard v37 .false (lift (pLoad1 I v40 h2) h2) h2) fun v41 h3 =>
  bnd (sGuard v37 .false (lift (pBin .geq v39 v41) h3) h3) fun v42 h4 =>
  bndP (pPick v37 (.bool .true) v42) fun v43 =>
  sCond v43 (
  j.2.2.2 v1 v24 v25 v26 v30 v31 v32 h4) (
  some ((.bool .false), h4))
noncomputable def f159.b7 (I : Inp) (call : CallFn) (j : f159.Js) (v1 v24 v25 v26 v30 v31 v32 : AVal) (h : AHeap) : Rs :=
  bndP (pBin .add v32 (Z 1)) fun v44 =>
  j.2.1.2 v1 v24 v25 v26 v30 v31 v44 h
noncomputable def f159.e (I : Inp) (call : CallFn) (j : f159.Js) (v0 : AVal) (h : AHeap) : Rs :=
  bnd (sBox v0 h) fun v1 h1 =>
  bndP (pFieldAddr 0 v1) fun v7 =>
  bndP (pLoad1 I v7 h1) fun v8 =>
  bndP (pBin .lss v8 (Z 0)) fun v9 =>
  bnd (sGuard v9 .false (lift (pFieldAddr 0 v1) h1) h1) fun v11 h2 =>
  bnd (sGuard v9 .false (lift (pLoad1 I v11 h2) h2) h2) fun v12 h3 =>
  bnd (sGuard v9 .false (lift (pBin .gtr v12 (Z 600)) h3) h3) fun v13 h4 =>
  bndP (pPick v9 (.bool .true) v13) fun v14 =>
  bnd (sGuard v14 .false (lift (pFieldAddr 1 v1) h4) h4) fun v16 h5 =>
  bnd (sGuard v14 .false (lift (pLoad1 I v16 h5) h5) h5) fun v17 h6 =>
  bnd (sGuard v14 .false (lift (pLenSl v17) h6) h6) fun v18 h7 =>
  bnd (sGuard v14 .false (lift (pFieldAddr 0 v1) h7) h7) fun v19 h8 =>
  bnd (sGuard v14 .false (lift (pLoad1 I v19 h8) h8) h8) fun v20 h9 =>
  bnd (sGuard v14 .false (lift (pBin .neq v18 v20) h9) h9) fun v21 h10 =>
  bndP (pPick v14 (.bool .true) v21) fun v22 =>
  sCond v22 (
  j.1.1.1 v1 h10) (
  some ((.bool .false), h10))
noncomputable def f159.J (I : Inp) (call : CallFn) (n : Nat) : f159.Js :=
  Nat.rec (motive := fun _ => f159.Js) ((((fun _ _ => none), (fun _ => none)), ((fun _ _ _ _ _ => none), (fun _ _ _ _ _ => none))), (((fun _ _ _ _ _ => none), (fun _ _ _ _ _ _ _ _ => none)), ((fun _ _ _ _ _ _ _ _ => none), (fun _ _ _ _ _ _ _ _ => none)))) (fun _ ih => (((f159.b0 I call ih, f159.b1 I call ih), (f159.b2 I call ih, f159.b3 I call ih)), ((f159.b4 I call ih, f159.b5 I call ih), (f159.b6 I call ih, f159.b7 I call ih)))) n
noncomputable def f159.JS (I : Inp) (call : CallFn) (n : Nat) : Jmp := fun id ρ h =>
  (Bool.rec (motive := fun _ => _) (Bool.rec (motive := fun _ => _) (Bool.rec (motive := fun _ => _) ((f159.J I call n).2.2.2 (ρ 1) (ρ 24) (ρ 25) (ρ 26) (ρ 30) (ρ 31) (ρ 32) h) ((f159.J I call n).2.2.1 (ρ 1) (ρ 24) (ρ 25) (ρ 26) (ρ 30) (ρ 31) (ρ 32) h) (Nat.blt id 7)) (Bool.rec (motive := fun _ => _) ((f159.J I call n).2.1.2 (ρ 1) (ρ 24) (ρ 25) (ρ 26) (ρ 30) (ρ 31) (ρ 32) h) ((f159.J I call n).2.1.1 (ρ 1) (ρ 24) (ρ 25) (ρ 26) h) (Nat.blt id 5)) (Nat.blt id 6)) (Bool.rec (motive := fun _ => _) (Bool.rec (motive := fun _ => _) ((f159.J I call n).1.2.2 (ρ 1) (ρ 24) (ρ 25) (ρ 26) h) ((f159.J I call n).1.2.1 (ρ 1) (ρ 24) (ρ 25) (ρ 26) h) (Nat.blt id 3)) (Bool.rec (motive := fun _ => _) ((f159.J I call n).1.1.2 h) ((f159.J I call n).1.1.1 (ρ 1) h) (Nat.blt id 1)) (Nat.blt id 2)) (Nat.blt id 4))
theorem f159.q0 (I : Inp) (call : CallFn) (n : Nat) (ρ : Fun) (h : AHeap) : f159.JS I call (n + 1) 0 ρ h = labC P I call (f159.JS I call n) c159.body 0 (finV I c159.results) 0 ρ h := by kernel_rfl
theorem f159.q1 (I : Inp) (call : CallFn) (n : Nat) (ρ : Fun) (h : AHeap) : f159.JS I call (n + 1) 1 ρ h = labC P I call (f159.JS I call n) c159.body 0 (finV I c159.results) 1 ρ h := by kernel_rfl
theorem f159.q2 (I : Inp) (call : CallFn) (n : Nat) (ρ : Fun) (h : AHeap) : f159.JS I call (n + 1) 2 ρ h = labC P I call (f159.JS I call n) c159.body 0 (finV I c159.results) 2 ρ h := by kernel_rfl
theorem f159.q3 (I : Inp) (call : CallFn) (n : Nat) (ρ : Fun) (h : AHeap) : f159.JS I call (n + 1) 3 ρ h = labC P I call (f159.JS I call n) c159.body 0 (finV I c159.results) 3 ρ h := by kernel_rfl
theorem f159.q4 (I : Inp) (call : CallFn) (n : Nat) (ρ : Fun) (h : AHeap) : f159.JS I call (n + 1) 4 ρ h = labC P I call (f159.JS I call n) c159.body 0 (finV I c159.results) 4 ρ h := by kernel_rfl
theorem f159.q5 (I : Inp) (call : CallFn) (n : Nat) (ρ : Fun) (h : AHeap) : f159.JS I call (n + 1) 5 ρ h = labC P I call (f159.JS I call n) c159.body 0 (finV I c159.results) 5 ρ h := by kernel_rfl
theorem f159.q6 (I : Inp) (call : CallFn) (n : Nat) (ρ : Fun) (h : AHeap) : f159.JS I call (n + 1) 6 ρ h = labC P I call (f159.JS I call n) c159.body 0 (finV I c159.results) 6 ρ h := by kernel_rfl
theorem f159.q7 (I : Inp) (call : CallFn) (n : Nat) (ρ : Fun) (h : AHeap) : f159.JS I call (n + 1) 7 ρ h = labC P I call (f159.JS I call n) c159.body 0 (finV I c159.results) 7 ρ h := by kernel_rfl
theorem f159.S (I : Inp) (F : Nat → Option AFn) (call : CallFn) : SFn ⟨P, I, F⟩ call c159 (f159.JS I call) :=
  ⟨fun id hid ρ h => by
    have hc : c159.body.cnt = 8 := by kernel_rfl
    rw [hc] at hid
    exact match id, hid with
    | 0, _ => rfl
    | 1, _ => rfl
    | 2, _ => rfl
    | 3, _ => rfl
    | 4, _ => rfl
    | 5, _ => rfl
    | 6, _ => rfl
    | 7, _ => rfl
    | id + 8, hid => absurd hid (by omega), fun n id hid ρ h => by
    have hc : c159.body.cnt = 8 := by kernel_rfl
    rw [hc] at hid
    exact match id, hid with
    | 0, _ => f159.q0 I call n ρ h
    | 1, _ => f159.q1 I call n ρ h
    | 2, _ => f159.q2 I call n ρ h
    | 3, _ => f159.q3 I call n ρ h
    | 4, _ => f159.q4 I call n ρ h
    | 5, _ => f159.q5 I call n ρ h
    | 6, _ => f159.q6 I call n ρ h
    | 7, _ => f159.q7 I call n ρ h
    | id + 8, hid => absurd hid (by omega)⟩
noncomputable def f159.run (I : Inp) : SF := fun call n a h =>
  match a with
  | [v0] => f159.e I call (f159.J I call n) v0 h
  | _ => none
theorem f159.qe (I : Inp) (call : CallFn) (n : Nat) (v0 : AVal) (h : AHeap) : f159.e I call (f159.J I call n) v0 h = execC P I call (f159.JS I call n) c159.body 0 (finV I c159.results) (argV [v0]) h := by kernel_rfl
theorem f159.code : codeOf P 159 = some c159 := by kernel_rfl
theorem f159.ok (I : Inp) (F : Nat → Option AFn) (hF : F 159 = some (.code c159)) : SfOk P I F 159 (f159.run I) := by
  intro call hc n args h r hr
  unfold f159.run at hr
  split at hr
  · exact fn_sound (C := ⟨P, I, F⟩) (n := n) hc hF (Nat.le_of_ble_eq_true (by kernel_rfl)) (by kernel_rfl) (f159.S I F call) (by kernel_rfl) ((f159.qe I call n _ h).symm.trans hr)
  · cases hr
/-! haruspex/graph.Reach$1 -/
noncomputable def c160 : AFunc := (AFunc.mk 22 1 [] (.seq (.region [(M 5 0), (S 6 (.bin .geq (T 5) (V 0)) .none), (M 7 6), (S 8 (.move (T 0)) (.some (7, .true))), (S 9 (.fieldAddr 0 (T 1)) (.some (7, .true))), (S 10 (.load1 (T 9)) (.some (7, .true))), (S 11 (.bin .lss (T 8) (T 10)) (.some (7, .true))), (S 12 (.pick (T 7) (T 11) (.val (.bool .false))) .none), (M 13 12), (S 14 (.load1 (T 2)) (.some (13, .true))), (S 15 (.move (T 0)) (.some (13, .true))), (S 16 (.call 141 [(T 14), (T 15)]) (.some (13, .true))), (S 17 (.pick (T 13) (T 16) (.val (.bool .false))) .none)]) (.cond (T 17) (.region [(L1 18 3), (M 19 0), (S 20 (.buildSlice [(Z 0)] 1 [(0, (1, (T 19)))]) .none), (S 21 (.append 1 8 (T 18) (T 20)) .none), (AOper.mk .none (.store 1 (T 3) (T 21)) .none)]) .skip)))
abbrev f160.Js : Type := Unit
noncomputable def f160.e (I : Inp) (call : CallFn) (j : f160.Js) (v0 v1 v2 v3 : AVal) (h : AHeap) : Rs :=
  bndP (pBin .geq v0 (Z 0)) fun v6 =>
  bnd (sGuard v6 .true (some (v0, h)) h) fun v8 h1 =>
  bnd (sGuard v6 .true (lift (pFieldAddr 0 v1) h1) h1) fun v9 h2 =>
  bnd (sGuard v6 .true (lift (pLoad1 I v9 h2) h2) h2) fun v10 h3 =>
  bnd (sGuard v6 .true (lift (pBin .lss v8 v10) h3) h3) fun v11 h4 =>
  bndP (pPick v6 v11 (.bool .false)) fun v12 =>
  bnd (sGuard v12 .true (lift (pLoad1 I v2 h4) h4) h4) fun v14 h5 =>
  bnd (sGuard v12 .true (some (v0, h5)) h5) fun v15 h6 =>
  bnd (sGuard v12 .true (call 141 [v14, v15] h6) h6) fun v16 h7 =>
  bndP (pPick v12 v16 (.bool .false)) fun v17 =>
  sCond v17 (
  some (.tuple [], h7)) (
  bndP (pLoad1 I v3 h7) fun v18 =>
  bnd (sBuildSlice [(Z 0)] 1 [(0, 1, v0)] h7) fun v20 h8 =>
  bnd (sAppend I 1 8 v18 v20 h8) fun v21 h9 =>
  bnd (sStore 1 v3 v21 h9) fun _ h10 =>
  some (.tuple [], h10))
theorem f160.S (I : Inp) (F : Nat → Option AFn) (call : CallFn) : SFn ⟨P, I, F⟩ call c160 (fun _ _ _ _ => none) :=
  ⟨fun _ _ _ _ => rfl, fun n id hid => absurd hid (by rw [show c160.body.cnt = 0 by kernel_rfl]; omega)⟩
noncomputable def f160.run (I : Inp) : SF := fun call n a h =>
  match a with
  | [v0, v1, v2, v3] => f160.e I call () v0 v1 v2 v3 h
  | _ => none
theorem f160.qe (I : Inp) (call : CallFn) (n : Nat) (v0 v1 v2 v3 : AVal) (h : AHeap) : f160.e I call () v0 v1 v2 v3 h = execC P I call (fun _ _ _ => none) c160.body 0 (finV I c160.results) (argV [v0, v1, v2, v3]) h := by kernel_rfl
theorem f160.code : codeOf P 160 = some c160 := by kernel_rfl
theorem f160.ok (I : Inp) (F : Nat → Option AFn) (hF : F 160 = some (.code c160)) : SfOk P I F 160 (f160.run I) := by
  intro call hc n args h r hr
  unfold f160.run at hr
  split at hr
  · exact fn_sound (C := ⟨P, I, F⟩) (n := n) hc hF (Nat.le_of_ble_eq_true (by kernel_rfl)) (by kernel_rfl) (f160.S I F call) (by kernel_rfl) ((f160.qe I call n _ _ _ _ h).symm.trans hr)
  · cases hr
/-! haruspex/ir.Outs -/
noncomputable def c161 : AFunc := (AFunc.mk 45 1 [(.tmp 2)] (.seq (.region [(S 2 (.move (.val .nils)) .none)]) (.seq (.block 0 (.seq (.seq (.region [(M 4 0), (NC 5 4), (FA 6 1 5), (L1 7 6), (S 8 (.bin .eql (T 7) (V 1)) .none), (M 3 8)]) (.cond (T 3) .skip (.draw [(M 9 0), (NC 10 9), (FA 11 1 10), (L1 12 11), (S 13 (.bin .eql (T 12) (V 2)) .none), (M 14 13), (S 15 (.move (T 0)) (.some (14, .true))), (S 16 (.nilCheck (T 15)) (.some (14, .true))), (S 17 (.fieldAddr 3 (T 16)) (.some (14, .true))), (S 18 (.load1 (T 17)) (.some (14, .true))), (S 19 (.move (T 0)) (.some (14, .true))), (S 20 (.nilCheck (T 19)) (.some (14, .true))), (S 21 (.fieldAddr 4 (T 20)) (.some (14, .true))), (S 22 (.load1 (T 21)) (.some (14, .true))), (S 23 (.bin .eql (T 18) (T 22)) (.some (14, .true))), (S 24 (.pick (T 14) (T 23) (.val (.bool .false))) .none), (M 3 24)] [N, N, N, N, N, N, N, N, N, N, N, N, N, N, N, N, N] 0))) (.cond (T 3) (.seq (.region [(M 25 0), (NC 26 25), (FA 27 3 26), (L1 28 27), (S 29 (.buildSlice [(Z 0)] 1 [(0, (1, (T 28)))]) .none), (M 2 29)]) .ret) (.seq (.region [(M 31 0), (NC 32 31), (FA 33 1 32), (L1 34 33), (S 35 (.bin .eql (T 34) (V 2)) .none), (M 30 35)]) (.cond (T 30) (.seq (.draw [(M 36 0), (NC 37 36), (FA 38 3 37), (L1 39 38), (M 40 0), (NC 41 40), (FA 42 4 41), (L1 43 42), (S 44 (.buildSlice [(Z 0)] 2 [(0, (1, (T 39))), (1, (1, (T 43)))]) .none), (M 2 44)] [N, N, N, N, N, N, N, N, Y, N] 0) .ret) .skip))))) (.seq (.region [(S 2 (.move (.val .nils)) .none)]) .ret))))
abbrev f161.Js : Type := ((AHeap → Rs) × (AVal → AVal → AHeap → Rs))
noncomputable def f161.b0 (I : Inp) (call : CallFn) (j : f161.Js) (h : AHeap) : Rs :=
  some (.nils, h)
noncomputable def f161.b1 (I : Inp) (call : CallFn) (j : f161.Js) (v0 v3 : AVal) (h : AHeap) : Rs :=
  sCond v3 (
  bndP (pNilCheck v0) fun v32 =>
  bndP (pFieldAddr 1 v32) fun v33 =>
  bndP (pLoad1 I v33 h) fun v34 =>
  bndP (pBin .eql v34 (Z 2)) fun v35 =>
  sCond v35 (
  j.1 h) (
  bndP (pNilCheck v0) fun v37 =>
  bndP (pFieldAddr 3 v37) fun v38 =>
  bndP (pLoad1 I v38 h) fun v39 =>
  bndP (pNilCheck v0) fun v41 =>
  bndP (pFieldAddr 4 v41) fun v42 =>
  bndP (pLoad1 I v42 h) fun v43 =>
  bnd (sBuildSlice [(Z 0)] 2 [(0, 1, v39), (1, 1, v43)] h) fun v44 h1 =>
  some (v44, h1))) (
  bndP (pNilCheck v0) fun v26 =>
  bndP (pFieldAddr 3 v26) fun v27 =>
  bndP (pLoad1 I v27 h) fun v28 =>
  bnd (sBuildSlice [(Z 0)] 1 [(0, 1, v28)] h) fun v29 h2 =>
  some (v29, h2))
noncomputable def f161.e (I : Inp) (call : CallFn) (j : f161.Js) (v0 : AVal) (h : AHeap) : Rs :=
  bndP (pNilCheck v0) fun v5 =>
  bndP (pFieldAddr 1 v5) fun v6 =>
  bndP (pLoad1 I v6 h) fun v7 =>
  bndP (pBin .eql v7 (Z 1)) fun v8 =>
  sCond v8 (
  bndP (pNilCheck v0) fun v10 =>
  bndP (pFieldAddr 1 v10) fun v11 =>
  bndP (pLoad1 I v11 h) fun v12 =>
  bndP (pBin .eql v12 (Z 2)) fun v13 =>
  bnd (sGuard v13 .true (some (v0, h)) h) fun v15 h1 =>
  bnd (sGuard v13 .true (lift (pNilCheck v15) h1) h1) fun v16 h2 =>
  bnd (sGuard v13 .true (lift (pFieldAddr 3 v16) h2) h2) fun v17 h3 =>
  bnd (sGuard v13 .true (lift (pLoad1 I v17 h3) h3) h3) fun v18 h4 =>
  bnd (sGuard v13 .true (some (v0, h4)) h4) fun v19 h5 =>
  bnd (sGuard v13 .true (lift (pNilCheck v19) h5) h5) fun v20 h6 =>
  bnd (sGuard v13 .true (lift (pFieldAddr 4 v20) h6) h6) fun v21 h7 =>
  bnd (sGuard v13 .true (lift (pLoad1 I v21 h7) h7) h7) fun v22 h8 =>
  bnd (sGuard v13 .true (lift (pBin .eql v18 v22) h8) h8) fun v23 h9 =>
  bndP (pPick v13 v23 (.bool .false)) fun v24 =>
  j.2 v0 v24 h9) (
  j.2 v0 v8 h)
noncomputable def f161.J (I : Inp) (call : CallFn) (n : Nat) : f161.Js :=
  Nat.rec (motive := fun _ => f161.Js) ((fun _ => none), (fun _ _ _ => none)) (fun _ ih => (f161.b0 I call ih, f161.b1 I call ih)) n
noncomputable def f161.JS (I : Inp) (call : CallFn) (n : Nat) : Jmp := fun id ρ h =>
  (Bool.rec (motive := fun _ => _) ((f161.J I call n).2 (ρ 0) (ρ 3) h) ((f161.J I call n).1 h) (Nat.blt id 1))
theorem f161.q0 (I : Inp) (call : CallFn) (n : Nat) (ρ : Fun) (h : AHeap) : f161.JS I call (n + 1) 0 ρ h = labC P I call (f161.JS I call n) c161.body 0 (finV I c161.results) 0 ρ h := by kernel_rfl
theorem f161.q1 (I : Inp) (call : CallFn) (n : Nat) (ρ : Fun) (h : AHeap) : f161.JS I call (n + 1) 1 ρ h = labC P I call (f161.JS I call n) c161.body 0 (finV I c161.results) 1 ρ h := by kernel_rfl
theorem f161.S (I : Inp) (F : Nat → Option AFn) (call : CallFn) : SFn ⟨P, I, F⟩ call c161 (f161.JS I call) :=
  ⟨fun id hid ρ h => by
    have hc : c161.body.cnt = 2 := by kernel_rfl
    rw [hc] at hid
    exact match id, hid with
    | 0, _ => rfl
    | 1, _ => rfl
    | id + 2, hid => absurd hid (by omega), fun n id hid ρ h => by
    have hc : c161.body.cnt = 2 := by kernel_rfl
    rw [hc] at hid
    exact match id, hid with
    | 0, _ => f161.q0 I call n ρ h
    | 1, _ => f161.q1 I call n ρ h
    | id + 2, hid => absurd hid (by omega)⟩
noncomputable def f161.run (I : Inp) : SF := fun call n a h =>
  match a with
  | [v0] => f161.e I call (f161.J I call n) v0 h
  | _ => none
theorem f161.qe (I : Inp) (call : CallFn) (n : Nat) (v0 : AVal) (h : AHeap) : f161.e I call (f161.J I call n) v0 h = execC P I call (f161.JS I call n) c161.body 0 (finV I c161.results) (argV [v0]) h := by kernel_rfl
theorem f161.code : codeOf P 161 = some c161 := by kernel_rfl
theorem f161.ok (I : Inp) (F : Nat → Option AFn) (hF : F 161 = some (.code c161)) : SfOk P I F 161 (f161.run I) := by
  intro call hc n args h r hr
  unfold f161.run at hr
  split at hr
  · exact fn_sound (C := ⟨P, I, F⟩) (n := n) hc hF (Nat.le_of_ble_eq_true (by kernel_rfl)) (by kernel_rfl) (f161.S I F call) (by kernel_rfl) ((f161.qe I call n _ h).symm.trans hr)
  · cases hr
/-! (*haruspex/bitset.Set).at -/
noncomputable def c162 : AFunc := (AFunc.mk 16 2 [(.tmp 4)] (.seq (.region [(S 4 (.move (.val (.int .u64 (.ofNat 0)))) .none)]) (.seq (.seq (.region [(M 6 0), (S 7 (.call 168 [(T 6)]) .none), (M 5 7)]) (.seq (.region [(M 8 1), (M 9 5), (S 10 (.lenSl (T 9)) .none), (S 11 (.bin .lss (T 8) (T 10)) .none)]) (.cond (T 11) (.seq (.region [(M 12 5), (M 13 1), (S 14 (.indexAddr 1 (T 12) (T 13)) .none), (L1 15 14), (M 4 15)]) .ret) .skip))) (.seq (.region [(S 4 (.move (.val (.int .u64 (.ofNat 0)))) .none)]) .ret))))
abbrev f162.Js : Type := (AHeap → Rs)
noncomputable def f162.b0 (I : Inp) (call : CallFn) (j : f162.Js) (h : AHeap) : Rs :=
  some ((.int .u64 (.ofNat 0)), h)
noncomputable def f162.e (I : Inp) (call : CallFn) (j : f162.Js) (v0 v1 : AVal) (h : AHeap) : Rs :=
  bnd (call 168 [v0] h) fun v7 h1 =>
  bndP (pLenSl v7) fun v10 =>
  bndP (pBin .lss v1 v10) fun v11 =>
  sCond v11 (
  j h1) (
  bndP (pIndexAddr 1 v7 v1) fun v14 =>
  bndP (pLoad1 I v14 h1) fun v15 =>
  some (v15, h1))
noncomputable def f162.J (I : Inp) (call : CallFn) (n : Nat) : f162.Js :=
  Nat.rec (motive := fun _ => f162.Js) (fun _ => none) (fun _ ih => f162.b0 I call ih) n
noncomputable def f162.JS (I : Inp) (call : CallFn) (n : Nat) : Jmp := fun id ρ h =>
  ((f162.J I call n) h)
theorem f162.q0 (I : Inp) (call : CallFn) (n : Nat) (ρ : Fun) (h : AHeap) : f162.JS I call (n + 1) 0 ρ h = labC P I call (f162.JS I call n) c162.body 0 (finV I c162.results) 0 ρ h := by kernel_rfl
theorem f162.S (I : Inp) (F : Nat → Option AFn) (call : CallFn) : SFn ⟨P, I, F⟩ call c162 (f162.JS I call) :=
  ⟨fun id hid ρ h => by
    have hc : c162.body.cnt = 1 := by kernel_rfl
    rw [hc] at hid
    exact match id, hid with
    | 0, _ => rfl
    | id + 1, hid => absurd hid (by omega), fun n id hid ρ h => by
    have hc : c162.body.cnt = 1 := by kernel_rfl
    rw [hc] at hid
    exact match id, hid with
    | 0, _ => f162.q0 I call n ρ h
    | id + 1, hid => absurd hid (by omega)⟩
noncomputable def f162.run (I : Inp) : SF := fun call n a h =>
  match a with
  | [v0, v1] => f162.e I call (f162.J I call n) v0 v1 h
  | _ => none
theorem f162.qe (I : Inp) (call : CallFn) (n : Nat) (v0 v1 : AVal) (h : AHeap) : f162.e I call (f162.J I call n) v0 v1 h = execC P I call (f162.JS I call n) c162.body 0 (finV I c162.results) (argV [v0, v1]) h := by kernel_rfl
theorem f162.code : codeOf P 162 = some c162 := by kernel_rfl
theorem f162.ok (I : Inp) (F : Nat → Option AFn) (hF : F 162 = some (.code c162)) : SfOk P I F 162 (f162.run I) := by
  intro call hc n args h r hr
  unfold f162.run at hr
  split at hr
  · exact fn_sound (C := ⟨P, I, F⟩) (n := n) hc hF (Nat.le_of_ble_eq_true (by kernel_rfl)) (by kernel_rfl) (f162.S I F call) (by kernel_rfl) ((f162.qe I call n _ _ h).symm.trans hr)
  · cases hr
/-! haruspex/assign.first -/
noncomputable def c163 : AFunc := (AFunc.mk 16 1 [(.tmp 2)] (.seq (.region [(S 2 (.move (.val .nilp)) .none)]) (.seq (.region [(S 5 (.build [.nils] []) .none), (S 6 (.box (T 5)) .none), (M 3 6)]) (.seq (.seq (.region [(M 7 0), (S 8 (.move (V 0)) .none)]) (.block 0 (.loop (.seq (.region [(S 9 (.bin .lss (T 8) (T 7)) .none)]) (.seq (.cond (T 9) .skip (.exit 0)) (.seq (.block 1 (.seq (.region [(M 10 8), (M 4 10)]) (.region [(M 11 3), (M 12 4), (S 13 (.call 141 [(T 11), (T 12)]) .none)]))) (.region [(S 14 (.bin .add (T 8) (V 1)) .none), (M 8 14)]))))))) (.seq (.region [(M 15 3), (M 2 15)]) .ret)))))
abbrev f163.Js : Type := (((AVal → AHeap → Rs) × (AVal → AVal → AVal → AHeap → Rs)) × ((AVal → AVal → AVal → AHeap → Rs) × (AVal → AVal → AVal → AHeap → Rs)))
noncomputable def f163.b0 (I : Inp) (call : CallFn) (j : f163.Js) (v3 : AVal) (h : AHeap) : Rs :=
  some (v3, h)
noncomputable def f163.b1 (I : Inp) (call : CallFn) (j : f163.Js) (v3 v7 v8 : AVal) (h : AHeap) : Rs :=
  bndP (pBin .lss v8 v7) fun v9 =>
  sCond v9 (
  j.1.1 v3 h) (
  j.2.1 v3 v7 v8 h)
noncomputable def f163.b2 (I : Inp) (call : CallFn) (j : f163.Js) (v3 v7 v8 : AVal) (h : AHeap) : Rs :=
  bnd (call 141 [v3, v8] h) fun v13 h1 =>
  j.2.2 v3 v7 v8 h1
noncomputable def f163.b3 (I : Inp) (call : CallFn) (j : f163.Js) (v3 v7 v8 : AVal) (h : AHeap) : Rs :=
  bndP (pBin .add v8 (Z 1)) fun v14 =>
  j.1.2 v3 v7 v14 h
noncomputable def f163.e (I : Inp) (call : CallFn) (j : f163.Js) (v0 : AVal) (h : AHeap) : Rs :=
  bndP (pBuild [.nils] []) fun v5 =>
  bnd (sBox v5 h) fun v6 h1 =>
  j.1.2 v6 v0 (Z 0) h1
noncomputable def f163.J (I : Inp) (call : CallFn) (n : Nat) : f163.Js :=
  Nat.rec (motive := fun _ => f163.Js) (((fun _ _ => none), (fun _ _ _ _ => none)), ((fun _ _ _ _ => none), (fun _ _ _ _ => none))) (fun _ ih => ((f163.b0 I call ih, f163.b1 I call ih), (f163.b2 I call ih, f163.b3 I call ih))) n
noncomputable def f163.JS (I : Inp) (call : CallFn) (n : Nat) : Jmp := fun id ρ h =>
  (Bool.rec (motive := fun _ => _) (Bool.rec (motive := fun _ => _) ((f163.J I call n).2.2 (ρ 3) (ρ 7) (ρ 8) h) ((f163.J I call n).2.1 (ρ 3) (ρ 7) (ρ 8) h) (Nat.blt id 3)) (Bool.rec (motive := fun _ => _) ((f163.J I call n).1.2 (ρ 3) (ρ 7) (ρ 8) h) ((f163.J I call n).1.1 (ρ 3) h) (Nat.blt id 1)) (Nat.blt id 2))
theorem f163.q0 (I : Inp) (call : CallFn) (n : Nat) (ρ : Fun) (h : AHeap) : f163.JS I call (n + 1) 0 ρ h = labC P I call (f163.JS I call n) c163.body 0 (finV I c163.results) 0 ρ h := by kernel_rfl
theorem f163.q1 (I : Inp) (call : CallFn) (n : Nat) (ρ : Fun) (h : AHeap) : f163.JS I call (n + 1) 1 ρ h = labC P I call (f163.JS I call n) c163.body 0 (finV I c163.results) 1 ρ h := by kernel_rfl
theorem f163.q2 (I : Inp) (call : CallFn) (n : Nat) (ρ : Fun) (h : AHeap) : f163.JS I call (n + 1) 2 ρ h = labC P I call (f163.JS I call n) c163.body 0 (finV I c163.results) 2 ρ h := by kernel_rfl
theorem f163.q3 (I : Inp) (call : CallFn) (n : Nat) (ρ : Fun) (h : AHeap) : f163.JS I call (n + 1) 3 ρ h = labC P I call (f163.JS I call n) c163.body 0 (finV I c163.results) 3 ρ h := by kernel_rfl
theorem f163.S (I : Inp) (F : Nat → Option AFn) (call : CallFn) : SFn ⟨P, I, F⟩ call c163 (f163.JS I call) :=
  ⟨fun id hid ρ h => by
    have hc : c163.body.cnt = 4 := by kernel_rfl
    rw [hc] at hid
    exact match id, hid with
    | 0, _ => rfl
    | 1, _ => rfl
    | 2, _ => rfl
    | 3, _ => rfl
    | id + 4, hid => absurd hid (by omega), fun n id hid ρ h => by
    have hc : c163.body.cnt = 4 := by kernel_rfl
    rw [hc] at hid
    exact match id, hid with
    | 0, _ => f163.q0 I call n ρ h
    | 1, _ => f163.q1 I call n ρ h
    | 2, _ => f163.q2 I call n ρ h
    | 3, _ => f163.q3 I call n ρ h
    | id + 4, hid => absurd hid (by omega)⟩
noncomputable def f163.run (I : Inp) : SF := fun call n a h =>
  match a with
  | [v0] => f163.e I call (f163.J I call n) v0 h
  | _ => none
theorem f163.qe (I : Inp) (call : CallFn) (n : Nat) (v0 : AVal) (h : AHeap) : f163.e I call (f163.J I call n) v0 h = execC P I call (f163.JS I call n) c163.body 0 (finV I c163.results) (argV [v0]) h := by kernel_rfl
theorem f163.code : codeOf P 163 = some c163 := by kernel_rfl
theorem f163.ok (I : Inp) (F : Nat → Option AFn) (hF : F 163 = some (.code c163)) : SfOk P I F 163 (f163.run I) := by
  intro call hc n args h r hr
  unfold f163.run at hr
  split at hr
  · exact fn_sound (C := ⟨P, I, F⟩) (n := n) hc hF (Nat.le_of_ble_eq_true (by kernel_rfl)) (by kernel_rfl) (f163.S I F call) (by kernel_rfl) ((f163.qe I call n _ h).symm.trans hr)
  · cases hr
/-! haruspex/graph.Order -/
noncomputable def c164 : AFunc := (AFunc.mk 27 2 [(.tmp 4)] (.seq (.region [(S 2 (.box (T 0)) .none), (S 4 (.move (.val .nils)) .none)]) (.seq (.seq (.region [(S 6 (.loadN 2 (T 2)) .none), (S 7 (.call 159 [(T 6)]) .none), (S 8 (.un .not (T 7)) .none), (M 9 8), (S 10 (.move (T 1)) (.some (9, .false))), (S 11 (.bin .lss (T 10) (V 0)) (.some (9, .false))), (S 12 (.pick (T 9) (.val (.bool .true)) (T 11)) .none), (M 13 12), (S 14 (.move (T 1)) (.some (13, .false))), (S 15 (.fieldAddr 0 (T 2)) (.some (13, .false))), (S 16 (.load1 (T 15)) (.some (13, .false))), (S 17 (.bin .geq (T 14) (T 16)) (.some (13, .false))), (S 18 (.pick (T 13) (.val (.bool .true)) (T 17)) .none)]) (.cond (T 18) (.seq (.region [(S 4 (.move (.val .nils)) .none)]) .ret) .skip)) (.seq (.region [(S 19 (.loadN 2 (T 2)) .none), (M 20 1), (S 21 (.build [.nils] []) .none), (S 22 (.box (T 21)) .none), (S 23 (.call 173 [(T 19), (T 20), (T 22), (.val .nils)]) .none), (M 5 23)]) (.seq (.region [(M 24 5), (S 25 (.call 174 [(T 24)]) .none)]) (.seq (.region [(M 26 5), (M 4 26)]) .ret))))))
abbrev f164.Js : Type := (AVal → AVal → AHeap → Rs)
noncomputable def f164.b0 (I : Inp) (call : CallFn) (j : f164.Js) (v1 v2 : AVal) (h : AHeap) : Rs :=
  bndP (pLoadN I 2 v2 h) fun v19 =>
  bndP (pBuild [.nils] []) fun v21 =>
  bnd (sBox v21 h) fun v22 h1 =>
  bnd (call 173 [v19, v1, v22, .nils] h1) fun v23 h2 =>
  bnd (call 174 [v23] h2) fun v25 h3 =>
  some (v23, h3)
noncomputable def f164.e (I : Inp) (call : CallFn) (j : f164.Js) (v0 v1 : AVal) (h : AHeap) : Rs :=
  bnd (sBox v0 h) fun v2 h1 =>
  bndP (pLoadN I 2 v2 h1) fun v6 =>
  bnd (call 159 [v6] h1) fun v7 h2 =>
  bndP (pUn .not v7) fun v8 =>
  bnd (sGuard v8 .false (some (v1, h2)) h2) fun v10 h3 =>
  bnd (sGuard v8 .false (lift (pBin .lss v10 (Z 0)) h3) h3) fun v11 h4 =>
  bndP (pPick v8 (.bool .true) v11) fun v12 =>
  bnd (sGuard v12 .false (some (v1, h4)) h4) fun v14 h5 =>
  bnd (sGuard v12 .false (lift (pFieldAddr 0 v2) h5) h5) fun v15 h6 =>
  bnd (sGuard v12 .false (lift (pLoad1 I v15 h6) h6) h6) fun v16 h7 =>
  bnd (sGuard v12 .false (lift (pBin .geq v14 v16) h7) h7) fun v17 h8 =>
  bndP (pPick v12 (.bool .true) v17) fun v18 =>
  sCond v18 (
  j v1 v2 h8) (
  some (.nils, h8))
noncomputable def f164.J (I : Inp) (call : CallFn) (n : Nat) : f164.Js :=
  Nat.rec (motive := fun _ => f164.Js) (fun _ _ _ => none) (fun _ ih => f164.b0 I call ih) n
noncomputable def f164.JS (I : Inp) (call : CallFn) (n : Nat) : Jmp := fun id ρ h =>
  ((f164.J I call n) (ρ 1) (ρ 2) h)
theorem f164.q0 (I : Inp) (call : CallFn) (n : Nat) (ρ : Fun) (h : AHeap) : f164.JS I call (n + 1) 0 ρ h = labC P I call (f164.JS I call n) c164.body 0 (finV I c164.results) 0 ρ h := by kernel_rfl
theorem f164.S (I : Inp) (F : Nat → Option AFn) (call : CallFn) : SFn ⟨P, I, F⟩ call c164 (f164.JS I call) :=
  ⟨fun id hid ρ h => by
    have hc : c164.body.cnt = 1 := by kernel_rfl
    rw [hc] at hid
    exact match id, hid with
    | 0, _ => rfl
    | id + 1, hid => absurd hid (by omega), fun n id hid ρ h => by
    have hc : c164.body.cnt = 1 := by kernel_rfl
    rw [hc] at hid
    exact match id, hid with
    | 0, _ => f164.q0 I call n ρ h
    | id + 1, hid => absurd hid (by omega)⟩
noncomputable def f164.run (I : Inp) : SF := fun call n a h =>
  match a with
  | [v0, v1] => f164.e I call (f164.J I call n) v0 v1 h
  | _ => none
theorem f164.qe (I : Inp) (call : CallFn) (n : Nat) (v0 v1 : AVal) (h : AHeap) : f164.e I call (f164.J I call n) v0 v1 h = execC P I call (f164.JS I call n) c164.body 0 (finV I c164.results) (argV [v0, v1]) h := by kernel_rfl
theorem f164.code : codeOf P 164 = some c164 := by kernel_rfl
theorem f164.ok (I : Inp) (F : Nat → Option AFn) (hF : F 164 = some (.code c164)) : SfOk P I F 164 (f164.run I) := by
  intro call hc n args h r hr
  unfold f164.run at hr
  split at hr
  · exact fn_sound (C := ⟨P, I, F⟩) (n := n) hc hF (Nat.le_of_ble_eq_true (by kernel_rfl)) (by kernel_rfl) (f164.S I F call) (by kernel_rfl) ((f164.qe I call n _ _ h).symm.trans hr)
  · cases hr
/-! haruspex/assign.out -/
noncomputable def c165 : AFunc := (AFunc.mk 30 2 [(.tmp 4)] (.seq (.region [(S 2 (.box (T 0)) .none), (S 4 (.move (.val .nilp)) .none)]) (.seq (.region [(M 10 1), (S 11 (.call 175 [(T 10)]) .none), (M 5 11)]) (.seq (.seq (.region [(FA 12 0 2), (L1 13 12), (S 14 (.lenSl (T 13)) .none), (S 15 (.move (V 0)) .none)]) (.block 0 (.loop (.seq (.region [(S 16 (.bin .lss (T 15) (T 14)) .none)]) (.seq (.cond (T 16) .skip (.exit 0)) (.seq (.block 1 (.seq (.region [(S 17 (.indexAddr 6 (T 13) (T 15)) .none), (S 18 (.loadN 6 (T 17)) .none), (S 7 (.alloc [(Z 0), (Z 0), (Z 0), (Z 0), (Z 0), .nils]) .none), (AOper.mk .none (.store 6 (T 7) (T 18)) .none)]) (.seq (.region [(S 20 (.loadN 6 (T 7)) .none), (S 21 (.call 140 [(T 20)]) .none), (M 19 21), (S 22 (.extract (T 19) 0) .none), (S 23 (.extract (T 19) 1) .none), (M 8 22), (M 9 23)]) (.seq (.region [(M 24 9)]) (.cond (T 24) (.region [(M 25 5), (M 26 8), (S 27 (.call 141 [(T 25), (T 26)]) .none)]) .skip))))) (.region [(S 28 (.bin .add (T 15) (V 1)) .none), (M 15 28)]))))))) (.seq (.region [(M 29 5), (M 4 29)]) .ret)))))
abbrev f165.Js : Type := (((AVal → AHeap → Rs) × (AVal → AVal → AVal → AVal → AHeap → Rs)) × ((AVal → AVal → AVal → AVal → AHeap → Rs) × (AVal → AVal → AVal → AVal → AHeap → Rs)))
noncomputable def f165.b0 (I : Inp) (call : CallFn) (j : f165.Js) (v5 : AVal) (h : AHeap) : Rs :=
  some (v5, h)
noncomputable def f165.b1 (I : Inp) (call : CallFn) (j : f165.Js) (v5 v13 v14 v15 : AVal) (h : AHeap) : Rs :=
  bndP (pBin .lss v15 v14) fun v16 =>
  sCond v16 (
  j.1.1 v5 h) (
  j.2.1 v5 v13 v14 v15 h)
noncomputable def f165.b2 (I : Inp) (call : CallFn) (j : f165.Js) (v5 v13 v14 v15 : AVal) (h : AHeap) : Rs :=
  bndP (pIndexAddr 6 v13 v15) fun v17 =>
  bndP (pLoadN I 6 v17 h) fun v18 =>
  bnd (sAlloc [(Z 0), (Z 0), (Z 0), (Z 0), (Z 0), .nils] h) fun v7 h1 =>
  bnd (sStore 6 v7 v18 h1) fun _ h2 =>
  bndP (pLoadN I 6 v7 h2) fun v20 =>
  bnd (call 140 [v20] h2) fun v21 h3 =>
  bndP (pExtract v21 0) fun v22 =>
  bndP (pExtract v21 1) fun v23 =>
  sCond v23 (
  j.2.2 v5 v13 v14 v15 h3) (
  bnd (call 141 [v5, v22] h3) fun v27 h4 =>
  j.2.2 v5 v13 v14 v15 h4)
noncomputable def f165.b3 (I : Inp) (call : CallFn) (j : f165.Js) (v5 v13 v14 v15 : AVal) (h : AHeap) : Rs :=
  bndP (pBin .add v15 (Z 1)) fun v28 =>
  j.1.2 v5 v13 v14 v28 h
noncomputable def f165.e (I : Inp) (call : CallFn) (j : f165.Js) (v0 v1 : AVal) (h : AHeap) : Rs :=
  bnd (sBox v0 h) fun v2 h1 =>
  bnd (call 175 [v1] h1) fun v11 h2 =>
  bndP (pFieldAddr 0 v2) fun v12 =>
  bndP (pLoad1 I v12 h2) fun v13 =>
  bndP (pLenSl v13) fun v14 =>
  j.1.2 v11 v13 v14 (Z 0) h2
noncomputable def f165.J (I : Inp) (call : CallFn) (n : Nat) : f165.Js :=
  Nat.rec (motive := fun _ => f165.Js) (((fun _ _ => none), (fun _ _ _ _ _ => none)), ((fun _ _ _ _ _ => none), (fun _ _ _ _ _ => none))) (fun _ ih => ((f165.b0 I call ih, f165.b1 I call ih), (f165.b2 I call ih, f165.b3 I call ih))) n
noncomputable def f165.JS (I : Inp) (call : CallFn) (n : Nat) : Jmp := fun id ρ h =>
  (Bool.rec (motive := fun _ => _) (Bool.rec (motive := fun _ => _) ((f165.J I call n).2.2 (ρ 5) (ρ 13) (ρ 14) (ρ 15) h) ((f165.J I call n).2.1 (ρ 5) (ρ 13) (ρ 14) (ρ 15) h) (Nat.blt id 3)) (Bool.rec (motive := fun _ => _) ((f165.J I call n).1.2 (ρ 5) (ρ 13) (ρ 14) (ρ 15) h) ((f165.J I call n).1.1 (ρ 5) h) (Nat.blt id 1)) (Nat.blt id 2))
theorem f165.q0 (I : Inp) (call : CallFn) (n : Nat) (ρ : Fun) (h : AHeap) : f165.JS I call (n + 1) 0 ρ h = labC P I call (f165.JS I call n) c165.body 0 (finV I c165.results) 0 ρ h := by kernel_rfl
theorem f165.q1 (I : Inp) (call : CallFn) (n : Nat) (ρ : Fun) (h : AHeap) : f165.JS I call (n + 1) 1 ρ h = labC P I call (f165.JS I call n) c165.body 0 (finV I c165.results) 1 ρ h := by kernel_rfl
theorem f165.q2 (I : Inp) (call : CallFn) (n : Nat) (ρ : Fun) (h : AHeap) : f165.JS I call (n + 1) 2 ρ h = labC P I call (f165.JS I call n) c165.body 0 (finV I c165.results) 2 ρ h := by kernel_rfl
theorem f165.q3 (I : Inp) (call : CallFn) (n : Nat) (ρ : Fun) (h : AHeap) : f165.JS I call (n + 1) 3 ρ h = labC P I call (f165.JS I call n) c165.body 0 (finV I c165.results) 3 ρ h := by kernel_rfl
theorem f165.S (I : Inp) (F : Nat → Option AFn) (call : CallFn) : SFn ⟨P, I, F⟩ call c165 (f165.JS I call) :=
  ⟨fun id hid ρ h => by
    have hc : c165.body.cnt = 4 := by kernel_rfl
    rw [hc] at hid
    exact match id, hid with
    | 0, _ => rfl
    | 1, _ => rfl
    | 2, _ => rfl
    | 3, _ => rfl
    | id + 4, hid => absurd hid (by omega), fun n id hid ρ h => by
    have hc : c165.body.cnt = 4 := by kernel_rfl
    rw [hc] at hid
    exact match id, hid with
    | 0, _ => f165.q0 I call n ρ h
    | 1, _ => f165.q1 I call n ρ h
    | 2, _ => f165.q2 I call n ρ h
    | 3, _ => f165.q3 I call n ρ h
    | id + 4, hid => absurd hid (by omega)⟩
noncomputable def f165.run (I : Inp) : SF := fun call n a h =>
  match a with
  | [v0, v1] => f165.e I call (f165.J I call n) v0 v1 h
  | _ => none
theorem f165.qe (I : Inp) (call : CallFn) (n : Nat) (v0 v1 : AVal) (h : AHeap) : f165.e I call (f165.J I call n) v0 v1 h = execC P I call (f165.JS I call n) c165.body 0 (finV I c165.results) (argV [v0, v1]) h := by kernel_rfl
theorem f165.code : codeOf P 165 = some c165 := by kernel_rfl
theorem f165.ok (I : Inp) (F : Nat → Option AFn) (hF : F 165 = some (.code c165)) : SfOk P I F 165 (f165.run I) := by
  intro call hc n args h r hr
  unfold f165.run at hr
  split at hr
  · exact fn_sound (C := ⟨P, I, F⟩) (n := n) hc hF (Nat.le_of_ble_eq_true (by kernel_rfl)) (by kernel_rfl) (f165.S I F call) (by kernel_rfl) ((f165.qe I call n _ _ h).symm.trans hr)
  · cases hr
/-! (*haruspex/bitset.Set).Meet -/
noncomputable def c166 : AFunc := (AFunc.mk 31 2 [(.tmp 4)] (.seq (.region [(S 4 (.move (.val .nilp)) .none)]) (.seq (.region [(M 7 0), (S 8 (.call 175 [(T 7)]) .none), (M 5 8)]) (.seq (.seq (.region [(M 9 5), (NC 10 9), (FA 11 0 10), (L1 12 11), (S 13 (.lenSl (T 12)) .none), (S 14 (.move (V 0)) .none)]) (.block 0 (.loop (.seq (.region [(S 15 (.bin .lss (T 14) (T 13)) .none)]) (.seq (.cond (T 15) .skip (.exit 0)) (.seq (.block 1 (.seq (.region [(M 16 14), (M 6 16)]) (.draw [(M 17 5), (NC 18 17), (FA 19 0 18), (L1 20 19), (M 21 6), (S 22 (.indexAddr 1 (T 20) (T 21)) .none), (L1 23 22), (M 24 1), (M 25 6), (S 26 (.call 162 [(T 24), (T 25)]) .none), (S 27 (.bin .and (T 23) (T 26)) .none), (S 28 (.indexAddr 1 (T 20) (T 21)) .none), (AOper.mk .none (.store 1 (T 28) (T 27)) .none)] [N, N, N, (.false, [1]), N, N, (.false, [1]), N, N, Y, N, N, Y] 0))) (.region [(S 29 (.bin .add (T 14) (V 1)) .none), (M 14 29)]))))))) (.seq (.region [(M 30 5), (M 4 30)]) .ret)))))
abbrev f166.Js : Type := (((AVal → AHeap → Rs) × (AVal → AVal → AVal → AVal → AHeap → Rs)) × ((AVal → AVal → AVal → AVal → AHeap → Rs) × (AVal → AVal → AVal → AVal → AHeap → Rs)))
noncomputable def f166.b0 (I : Inp) (call : CallFn) (j : f166.Js) (v5 : AVal) (h : AHeap) : Rs :=
  some (v5, h)
noncomputable def f166.b1 (I : Inp) (call : CallFn) (j : f166.Js) (v1 v5 v13 v14 : AVal) (h : AHeap) : Rs :=
  bndP (pBin .lss v14 v13) fun v15 =>
  sCond v15 (
  j.1.1 v5 h) (
  j.2.1 v1 v5 v13 v14 h)
noncomputable def f166.b2 (I : Inp) (call : CallFn) (j : f166.Js) (v1 v5 v13 v14 : AVal) (h : AHeap) : Rs :=
  bndP (pNilCheck v5) fun v18 =>
  bndP (pFieldAddr 0 v18) fun v19 =>
  bndP (pLoad1 I v19 h) fun v20 =>
  bndP (pIndexAddr 1 v20 v14) fun v22 =>
  bndP (pLoad1 I v22 h) fun v23 =>
  bnd (call 162 [v1, v14] h) fun v26 h1 =>
  bndP (pBin .and v23 v26) fun v27 =>
  bndP (pIndexAddr 1 v20 v14) fun v28 =>
  bnd (sStore 1 v28 v27 h1) fun _ h2 =>
  sCheck (sSame (lift (pLoad1 I v19 h1) h1) v20 && true) (
  sCheck (sSame (lift (pLoad1 I v22 h1) h1) v23 && true) (
  j.2.2 v1 v5 v13 v14 h2))
noncomputable def f166.b3 (I : Inp) (call : CallFn) (j : f166.Js) (v1 v5 v13 v14 : AVal) (h : AHeap) : Rs :=
  bndP (pBin .add v14 (Z 1)) fun v29 =>
  j.1.2 v1 v5 v13 v29 h
noncomputable def f166.e (I : Inp) (call : CallFn) (j : f166.Js) (v0 v1 : AVal) (h : AHeap) : Rs :=
  bnd (call 175 [v0] h) fun v8 h1 =>
  bndP (pNilCheck v8) fun v10 =>
  bndP (pFieldAddr 0 v10) fun v11 =>
  bndP (pLoad1 I v11 h1) fun v12 =>
  bndP (pLenSl v12) fun v13 =>
  j.1.2 v1 v8 v13 (Z 0) h1
noncomputable def f166.J (I : Inp) (call : CallFn) (n : Nat) : f166.Js :=
  Nat.rec (motive := fun _ => f166.Js) (((fun _ _ => none), (fun _ _ _ _ _ => none)), ((fun _ _ _ _ _ => none), (fun _ _ _ _ _ => none))) (fun _ ih => ((f166.b0 I call ih, f166.b1 I call ih), (f166.b2 I call ih, f166.b3 I call ih))) n
noncomputable def f166.JS (I : Inp) (call : CallFn) (n : Nat) : Jmp := fun id ρ h =>
  (Bool.rec (motive := fun _ => _) (Bool.rec (motive := fun _ => _) ((f166.J I call n).2.2 (ρ 1) (ρ 5) (ρ 13) (ρ 14) h) ((f166.J I call n).2.1 (ρ 1) (ρ 5) (ρ 13) (ρ 14) h) (Nat.blt id 3)) (Bool.rec (motive := fun _ => _) ((f166.J I call n).1.2 (ρ 1) (ρ 5) (ρ 13) (ρ 14) h) ((f166.J I call n).1.1 (ρ 5) h) (Nat.blt id 1)) (Nat.blt id 2))
theorem f166.q0 (I : Inp) (call : CallFn) (n : Nat) (ρ : Fun) (h : AHeap) : f166.JS I call (n + 1) 0 ρ h = labC P I call (f166.JS I call n) c166.body 0 (finV I c166.results) 0 ρ h := by kernel_rfl
theorem f166.q1 (I : Inp) (call : CallFn) (n : Nat) (ρ : Fun) (h : AHeap) : f166.JS I call (n + 1) 1 ρ h = labC P I call (f166.JS I call n) c166.body 0 (finV I c166.results) 1 ρ h := by kernel_rfl
theorem f166.q2 (I : Inp) (call : CallFn) (n : Nat) (ρ : Fun) (h : AHeap) : f166.JS I call (n + 1) 2 ρ h = labC P I call (f166.JS I call n) c166.body 0 (finV I c166.results) 2 ρ h := by kernel_rfl
theorem f166.q3 (I : Inp) (call : CallFn) (n : Nat) (ρ : Fun) (h : AHeap) : f166.JS I call (n + 1) 3 ρ h = labC P I call (f166.JS I call n) c166.body 0 (finV I c166.results) 3 ρ h := by kernel_rfl
theorem f166.S (I : Inp) (F : Nat → Option AFn) (call : CallFn) : SFn ⟨P, I, F⟩ call c166 (f166.JS I call) :=
  ⟨fun id hid ρ h => by
    have hc : c166.body.cnt = 4 := by kernel_rfl
    rw [hc] at hid
    exact match id, hid with
    | 0, _ => rfl
    | 1, _ => rfl
    | 2, _ => rfl
    | 3, _ => rfl
    | id + 4, hid => absurd hid (by omega), fun n id hid ρ h => by
    have hc : c166.body.cnt = 4 := by kernel_rfl
    rw [hc] at hid
    exact match id, hid with
    | 0, _ => f166.q0 I call n ρ h
    | 1, _ => f166.q1 I call n ρ h
    | 2, _ => f166.q2 I call n ρ h
    | 3, _ => f166.q3 I call n ρ h
    | id + 4, hid => absurd hid (by omega)⟩
noncomputable def f166.run (I : Inp) : SF := fun call n a h =>
  match a with
  | [v0, v1] => f166.e I call (f166.J I call n) v0 v1 h
  | _ => none
theorem f166.qe (I : Inp) (call : CallFn) (n : Nat) (v0 v1 : AVal) (h : AHeap) : f166.e I call (f166.J I call n) v0 v1 h = execC P I call (f166.JS I call n) c166.body 0 (finV I c166.results) (argV [v0, v1]) h := by kernel_rfl
theorem f166.code : codeOf P 166 = some c166 := by kernel_rfl
theorem f166.ok (I : Inp) (F : Nat → Option AFn) (hF : F 166 = some (.code c166)) : SfOk P I F 166 (f166.run I) := by
  intro call hc n args h r hr
  unfold f166.run at hr
  split at hr
  · exact fn_sound (C := ⟨P, I, F⟩) (n := n) hc hF (Nat.le_of_ble_eq_true (by kernel_rfl)) (by kernel_rfl) (f166.S I F call) (by kernel_rfl) ((f166.qe I call n _ _ h).symm.trans hr)
  · cases hr
/-! (*haruspex/bitset.Set).Eq -/
noncomputable def c167 : AFunc := (AFunc.mk 13 2 [(.tmp 4)] (.seq (.region [(S 4 (.move (.val (.bool .false))) .none)]) (.seq (.region [(M 5 0), (M 6 1), (S 7 (.call 139 [(T 5), (T 6)]) .none), (M 8 7), (S 9 (.move (T 1)) (.some (8, .true))), (S 10 (.move (T 0)) (.some (8, .true))), (S 11 (.call 139 [(T 9), (T 10)]) (.some (8, .true))), (S 12 (.pick (T 8) (T 11) (.val (.bool .false))) .none), (M 4 12)]) .ret)))
abbrev f167.Js : Type := Unit
noncomputable def f167.e (I : Inp) (call : CallFn) (j : f167.Js) (v0 v1 : AVal) (h : AHeap) : Rs :=
  bnd (call 139 [v0, v1] h) fun v7 h1 =>
  bnd (sGuard v7 .true (some (v1, h1)) h1) fun v9 h2 =>
  bnd (sGuard v7 .true (some (v0, h2)) h2) fun v10 h3 =>
  bnd (sGuard v7 .true (call 139 [v9, v10] h3) h3) fun v11 h4 =>
  bndP (pPick v7 v11 (.bool .false)) fun v12 =>
  some (v12, h4)
theorem f167.S (I : Inp) (F : Nat → Option AFn) (call : CallFn) : SFn ⟨P, I, F⟩ call c167 (fun _ _ _ _ => none) :=
  ⟨fun _ _ _ _ => rfl, fun n id hid => absurd hid (by rw [show c167.body.cnt = 0 by kernel_rfl]; omega)⟩
noncomputable def f167.run (I : Inp) : SF := fun call n a h =>
  match a with
  | [v0, v1] => f167.e I call () v0 v1 h
  | _ => none
theorem f167.qe (I : Inp) (call : CallFn) (n : Nat) (v0 v1 : AVal) (h : AHeap) : f167.e I call () v0 v1 h = execC P I call (fun _ _ _ => none) c167.body 0 (finV I c167.results) (argV [v0, v1]) h := by kernel_rfl
theorem f167.code : codeOf P 167 = some c167 := by kernel_rfl
theorem f167.ok (I : Inp) (F : Nat → Option AFn) (hF : F 167 = some (.code c167)) : SfOk P I F 167 (f167.run I) := by
  intro call hc n args h r hr
  unfold f167.run at hr
  split at hr
  · exact fn_sound (C := ⟨P, I, F⟩) (n := n) hc hF (Nat.le_of_ble_eq_true (by kernel_rfl)) (by kernel_rfl) (f167.S I F call) (by kernel_rfl) ((f167.qe I call n _ _ h).symm.trans hr)
  · cases hr
/-! (*haruspex/bitset.Set).words -/
noncomputable def c168 : AFunc := (AFunc.mk 9 1 [(.tmp 2)] (.seq (.region [(S 2 (.move (.val .nils)) .none)]) (.seq (.seq (.region [(M 3 0), (S 4 (.eq .false .ptr .true (T 3) (.val .nilp)) .none)]) (.cond (T 4) (.seq (.region [(S 2 (.move (.val .nils)) .none)]) .ret) .skip)) (.seq (.region [(M 5 0), (NC 6 5), (FA 7 0 6), (L1 8 7), (M 2 8)]) .ret))))
abbrev f168.Js : Type := (AVal → AHeap → Rs)
noncomputable def f168.b0 (I : Inp) (call : CallFn) (j : f168.Js) (v0 : AVal) (h : AHeap) : Rs :=
  bndP (pNilCheck v0) fun v6 =>
  bndP (pFieldAddr 0 v6) fun v7 =>
  bndP (pLoad1 I v7 h) fun v8 =>
  some (v8, h)
noncomputable def f168.e (I : Inp) (call : CallFn) (j : f168.Js) (v0 : AVal) (h : AHeap) : Rs :=
  bndP (pEq P .false .ptr .true v0 .nilp h) fun v4 =>
  sCond v4 (
  j v0 h) (
  some (.nils, h))
noncomputable def f168.J (I : Inp) (call : CallFn) (n : Nat) : f168.Js :=
  Nat.rec (motive := fun _ => f168.Js) (fun _ _ => none) (fun _ ih => f168.b0 I call ih) n
noncomputable def f168.JS (I : Inp) (call : CallFn) (n : Nat) : Jmp := fun id ρ h =>
  ((f168.J I call n) (ρ 0) h)
theorem f168.q0 (I : Inp) (call : CallFn) (n : Nat) (ρ : Fun) (h : AHeap) : f168.JS I call (n + 1) 0 ρ h = labC P I call (f168.JS I call n) c168.body 0 (finV I c168.results) 0 ρ h := by kernel_rfl
theorem f168.S (I : Inp) (F : Nat → Option AFn) (call : CallFn) : SFn ⟨P, I, F⟩ call c168 (f168.JS I call) :=
  ⟨fun id hid ρ h => by
    have hc : c168.body.cnt = 1 := by kernel_rfl
    rw [hc] at hid
    exact match id, hid with
    | 0, _ => rfl
    | id + 1, hid => absurd hid (by omega), fun n id hid ρ h => by
    have hc : c168.body.cnt = 1 := by kernel_rfl
    rw [hc] at hid
    exact match id, hid with
    | 0, _ => f168.q0 I call n ρ h
    | id + 1, hid => absurd hid (by omega)⟩
noncomputable def f168.run (I : Inp) : SF := fun call n a h =>
  match a with
  | [v0] => f168.e I call (f168.J I call n) v0 h
  | _ => none
theorem f168.qe (I : Inp) (call : CallFn) (n : Nat) (v0 : AVal) (h : AHeap) : f168.e I call (f168.J I call n) v0 h = execC P I call (f168.JS I call n) c168.body 0 (finV I c168.results) (argV [v0]) h := by kernel_rfl
theorem f168.code : codeOf P 168 = some c168 := by kernel_rfl
theorem f168.ok (I : Inp) (F : Nat → Option AFn) (hF : F 168 = some (.code c168)) : SfOk P I F 168 (f168.run I) := by
  intro call hc n args h r hr
  unfold f168.run at hr
  split at hr
  · exact fn_sound (C := ⟨P, I, F⟩) (n := n) hc hF (Nat.le_of_ble_eq_true (by kernel_rfl)) (by kernel_rfl) (f168.S I F call) (by kernel_rfl) ((f168.qe I call n _ h).symm.trans hr)
  · cases hr
/-! haruspex/graph.behind -/
noncomputable def c173 : AFunc := (AFunc.mk 36 4 [(.tmp 8)] (.seq (.region [(S 4 (.box (T 0)) .none), (S 8 (.move (.val .nils)) .none)]) (.seq (.seq (.region [(M 11 2), (M 12 1), (S 13 (.call 141 [(T 11), (T 12)]) .none), (S 14 (.un .not (T 13)) .none)]) (.cond (T 14) (.seq (.region [(M 15 3), (M 8 15)]) .ret) .skip)) (.seq (.seq (.region [(FA 16 1 4), (L1 17 16), (M 18 1), (S 19 (.indexAddr 1 (T 17) (T 18)) .none), (L1 20 19), (S 21 (.lenSl (T 20)) .none), (S 22 (.move (V 0)) .none)]) (.block 0 (.loop (.seq (.region [(S 23 (.bin .lss (T 22) (T 21)) .none)]) (.seq (.cond (T 23) .skip (.exit 0)) (.seq (.block 1 (.seq (.region [(S 24 (.indexAddr 1 (T 20) (T 22)) .none), (L1 25 24), (M 10 25)]) (.region [(S 26 (.loadN 2 (T 4)) .none), (M 27 10), (M 28 2), (M 29 3), (S 30 (.call 173 [(T 26), (T 27), (T 28), (T 29)]) .none), (M 3 30)]))) (.region [(S 31 (.bin .add (T 22) (V 1)) .none), (M 22 31)]))))))) (.seq (.region [(M 32 3), (M 33 1), (S 34 (.buildSlice [(Z 0)] 1 [(0, (1, (T 33)))]) .none), (S 35 (.append 1 8 (T 32) (T 34)) .none), (M 8 35)]) .ret)))))
abbrev f173.Js : Type := (((AVal → AVal → AVal → AVal → AHeap → Rs) × (AVal → AVal → AHeap → Rs)) × ((AVal → AVal → AVal → AVal → AVal → AVal → AVal → AHeap → Rs) × ((AVal → AVal → AVal → AVal → AVal → AVal → AVal → AHeap → Rs) × (AVal → AVal → AVal → AVal → AVal → AVal → AVal → AHeap → Rs))))
noncomputable def f173.b0 (I : Inp) (call : CallFn) (j : f173.Js) (v1 v2 v3 v4 : AVal) (h : AHeap) : Rs :=
  bndP (pFieldAddr 1 v4) fun v16 =>
  bndP (pLoad1 I v16 h) fun v17 =>
  bndP (pIndexAddr 1 v17 v1) fun v19 =>
  bndP (pLoad1 I v19 h) fun v20 =>
  bndP (pLenSl v20) fun v21 =>
  j.2.1 v1 v2 v3 v4 v20 v21 (Z 0) h
noncomputable def f173.b1 (I : Inp) (call : CallFn) (j : f173.Js) (v1 v3 : AVal) (h : AHeap) : Rs :=
  bnd (sBuildSlice [(Z 0)] 1 [(0, 1, v1)] h) fun v34 h1 =>
  bnd (sAppend I 1 8 v3 v34 h1) fun v35 h2 =>
  some (v35, h2)
noncomputable def f173.b2 (I : Inp) (call : CallFn) (j : f173.Js) (v1 v2 v3 v4 v20 v21 v22 : AVal) (h : AHeap) : Rs :=
  bndP (pBin .lss v22 v21) fun v23 =>
  sCond v23 (
  j.1.2 v1 v3 h) (
  j.2.2.1 v1 v2 v3 v4 v20 v21 v22 h)
noncomputable def f173.b3 (I : Inp) (call : CallFn) (j : f173.Js) (v1 v2 v3 v4 v20 v21 v22 : AVal) (h : AHeap) : Rs :=
  bndP (pIndexAddr 1 v20 v22) fun v24 =>
  bndP (pLoad1 I v24 h) fun v25 =>
  bndP (pLoadN I 2 v4 h) fun v26 =>
  bnd (call 173 [v26, v25, v2, v3] h) fun v30 h1 =>
  j.2.2.2 v1 v2 v30 v4 v20 v21 v22 h1
noncomputable def f173.b4 (I : Inp) (call : CallFn) (j : f173.Js) (v1 v2 v3 v4 v20 v21 v22 : AVal) (h : AHeap) : Rs :=
  bndP (pBin .add v22 (Z 1)) fun v31 =>
  j.2.1 v1 v2 v3 v4 v20 v21 v31 h
noncomputable def f173.e (I : Inp) (call : CallFn) (j : f173.Js) (v0 v1 v2 v3 : AVal) (h : AHeap) : Rs :=
  bnd (sBox v0 h) fun v4 h1 =>
  bnd (call 141 [v2, v1] h1) fun v13 h2 =>
  bndP (pUn .not v13) fun v14 =>
  sCond v14 (
  j.1.1 v1 v2 v3 v4 h2) (
  some (v3, h2))
noncomputable def f173.J (I : Inp) (call : CallFn) (n : Nat) : f173.Js :=
  Nat.rec (motive := fun _ => f173.Js) (((fun _ _ _ _ _ => none), (fun _ _ _ => none)), ((fun _ _ _ _ _ _ _ _ => none), ((fun _ _ _ _ _ _ _ _ => none), (fun _ _ _ _ _ _ _ _ => none)))) (fun _ ih => ((f173.b0 I call ih, f173.b1 I call ih), (f173.b2 I call ih, (f173.b3 I call ih, f173.b4 I call ih)))) n
noncomputable def f173.JS (I : Inp) (call : CallFn) (n : Nat) : Jmp := fun id ρ h =>
  (Bool.rec (motive := fun _ => _) (Bool.rec (motive := fun _ => _) (Bool.rec (motive := fun _ => _) ((f173.J I call n).2.2.2 (ρ 1) (ρ 2) (ρ 3) (ρ 4) (ρ 20) (ρ 21) (ρ 22) h) ((f173.J I call n).2.2.1 (ρ 1) (ρ 2) (ρ 3) (ρ 4) (ρ 20) (ρ 21) (ρ 22) h) (Nat.blt id 4)) ((f173.J I call n).2.1 (ρ 1) (ρ 2) (ρ 3) (ρ 4) (ρ 20) (ρ 21) (ρ 22) h) (Nat.blt id 3)) (Bool.rec (motive := fun _ => _) ((f173.J I call n).1.2 (ρ 1) (ρ 3) h) ((f173.J I call n).1.1 (ρ 1) (ρ 2) (ρ 3) (ρ 4) h) (Nat.blt id 1)) (Nat.blt id 2))
theorem f173.q0 (I : Inp) (call : CallFn) (n : Nat) (ρ : Fun) (h : AHeap) : f173.JS I call (n + 1) 0 ρ h = labC P I call (f173.JS I call n) c173.body 0 (finV I c173.results) 0 ρ h := by kernel_rfl
theorem f173.q1 (I : Inp) (call : CallFn) (n : Nat) (ρ : Fun) (h : AHeap) : f173.JS I call (n + 1) 1 ρ h = labC P I call (f173.JS I call n) c173.body 0 (finV I c173.results) 1 ρ h := by kernel_rfl
theorem f173.q2 (I : Inp) (call : CallFn) (n : Nat) (ρ : Fun) (h : AHeap) : f173.JS I call (n + 1) 2 ρ h = labC P I call (f173.JS I call n) c173.body 0 (finV I c173.results) 2 ρ h := by kernel_rfl
theorem f173.q3 (I : Inp) (call : CallFn) (n : Nat) (ρ : Fun) (h : AHeap) : f173.JS I call (n + 1) 3 ρ h = labC P I call (f173.JS I call n) c173.body 0 (finV I c173.results) 3 ρ h := by kernel_rfl
theorem f173.q4 (I : Inp) (call : CallFn) (n : Nat) (ρ : Fun) (h : AHeap) : f173.JS I call (n + 1) 4 ρ h = labC P I call (f173.JS I call n) c173.body 0 (finV I c173.results) 4 ρ h := by kernel_rfl
theorem f173.S (I : Inp) (F : Nat → Option AFn) (call : CallFn) : SFn ⟨P, I, F⟩ call c173 (f173.JS I call) :=
  ⟨fun id hid ρ h => by
    have hc : c173.body.cnt = 5 := by kernel_rfl
    rw [hc] at hid
    exact match id, hid with
    | 0, _ => rfl
    | 1, _ => rfl
    | 2, _ => rfl
    | 3, _ => rfl
    | 4, _ => rfl
    | id + 5, hid => absurd hid (by omega), fun n id hid ρ h => by
    have hc : c173.body.cnt = 5 := by kernel_rfl
    rw [hc] at hid
    exact match id, hid with
    | 0, _ => f173.q0 I call n ρ h
    | 1, _ => f173.q1 I call n ρ h
    | 2, _ => f173.q2 I call n ρ h
    | 3, _ => f173.q3 I call n ρ h
    | 4, _ => f173.q4 I call n ρ h
    | id + 5, hid => absurd hid (by omega)⟩
noncomputable def f173.run (I : Inp) : SF := fun call n a h =>
  match a with
  | [v0, v1, v2, v3] => f173.e I call (f173.J I call n) v0 v1 v2 v3 h
  | _ => none
theorem f173.qe (I : Inp) (call : CallFn) (n : Nat) (v0 v1 v2 v3 : AVal) (h : AHeap) : f173.e I call (f173.J I call n) v0 v1 v2 v3 h = execC P I call (f173.JS I call n) c173.body 0 (finV I c173.results) (argV [v0, v1, v2, v3]) h := by kernel_rfl
theorem f173.code : codeOf P 173 = some c173 := by kernel_rfl
theorem f173.ok (I : Inp) (F : Nat → Option AFn) (hF : F 173 = some (.code c173)) : SfOk P I F 173 (f173.run I) := by
  intro call hc n args h r hr
  unfold f173.run at hr
  split at hr
  · exact fn_sound (C := ⟨P, I, F⟩) (n := n) hc hF (Nat.le_of_ble_eq_true (by kernel_rfl)) (by kernel_rfl) (f173.S I F call) (by kernel_rfl) ((f173.qe I call n _ _ _ _ h).symm.trans hr)
  · cases hr
/-! slices.Reverse[[]int,int] -/
noncomputable def c174 : AFunc := (AFunc.mk 28 1 [] (.seq (.region [(M 4 0), (S 5 (.lenSl (T 4)) .none), (S 6 (.bin .sub (T 5) (V 1)) .none), (S 2 (.move (V 0)) .none), (M 3 6)]) (.block 0 (.loop (.seq (.seq (.region [(M 7 2), (M 8 3), (S 9 (.bin .lss (T 7) (T 8)) .none)]) (.cond (T 9) .skip (.exit 0))) (.seq (.block 1 (.draw [(M 14 0), (M 15 2), (M 16 0), (M 17 3), (M 18 0), (M 19 3), (S 20 (.indexAddr 1 (T 18) (T 19)) .none), (L1 21 20), (M 22 0), (M 23 2), (S 24 (.indexAddr 1 (T 22) (T 23)) .none), (L1 25 24), (S 26 (.indexAddr 1 (T 14) (T 15)) .none), (AOper.mk .none (.store 1 (T 26) (T 21)) .none), (S 27 (.indexAddr 1 (T 16) (T 17)) .none), (AOper.mk .none (.store 1 (T 27) (T 25)) .none)] [N, N, N, N, N, N, N, N, N, N, N, N, N, Y, N, Y] 0)) (.region [(M 10 2), (S 11 (.bin .add (T 10) (V 1)) .none), (M 12 3), (S 13 (.bin .sub (T 12) (V 1)) .none), (M 2 11), (M 3 13)])))))))
abbrev f174.Js : Type := ((AVal → AVal → AVal → AHeap → Rs) × ((AVal → AVal → AVal → AHeap → Rs) × (AVal → AVal → AVal → AHeap → Rs)))
noncomputable def f174.b0 (I : Inp) (call : CallFn) (j : f174.Js) (v0 v2 v3 : AVal) (h : AHeap) : Rs :=
  bndP (pBin .lss v2 v3) fun v9 =>
  sCond v9 (
  some (.tuple [], h)) (
  j.2.1 v0 v2 v3 h)
noncomputable def f174.b1 (I : Inp) (call : CallFn) (j : f174.Js) (v0 v2 v3 : AVal) (h : AHeap) : Rs :=
  bndP (pIndexAddr 1 v0 v3) fun v20 =>
  bndP (pLoad1 I v20 h) fun v21 =>
  bndP (pIndexAddr 1 v0 v2) fun v24 =>
  bndP (pLoad1 I v24 h) fun v25 =>
  bndP (pIndexAddr 1 v0 v2) fun v26 =>
  bnd (sStore 1 v26 v21 h) fun _ h1 =>
  bndP (pIndexAddr 1 v0 v3) fun v27 =>
  bnd (sStore 1 v27 v25 h1) fun _ h2 =>
  j.2.2 v0 v2 v3 h2
noncomputable def f174.b2 (I : Inp) (call : CallFn) (j : f174.Js) (v0 v2 v3 : AVal) (h : AHeap) : Rs :=
  bndP (pBin .add v2 (Z 1)) fun v11 =>
  bndP (pBin .sub v3 (Z 1)) fun v13 =>
  j.1 v0 v11 v13 h
noncomputable def f174.e (I : Inp) (call : CallFn) (j : f174.Js) (v0 : AVal) (h : AHeap) : Rs :=
  bndP (pLenSl v0) fun v5 =>
  bndP (pBin .sub v5 (Z 1)) fun v6 =>
  j.1 v0 (Z 0) v6 h
noncomputable def f174.J (I : Inp) (call : CallFn) (n : Nat) : f174.Js :=
  Nat.rec (motive := fun _ => f174.Js) ((fun _ _ _ _ => none), ((fun _ _ _ _ => none), (fun _ _ _ _ => none))) (fun _ ih => (f174.b0 I call ih, (f174.b1 I call ih, f174.b2 I call ih))) n
noncomputable def f174.JS (I : Inp) (call : CallFn) (n : Nat) : Jmp := fun id ρ h =>
  (Bool.rec (motive := fun _ => _) (Bool.rec (motive := fun _ => _) ((f174.J I call n).2.2 (ρ 0) (ρ 2) (ρ 3) h) ((f174.J I call n).2.1 (ρ 0) (ρ 2) (ρ 3) h) (Nat.blt id 2)) ((f174.J I call n).1 (ρ 0) (ρ 2) (ρ 3) h) (Nat.blt id 1))
theorem f174.q0 (I : Inp) (call : CallFn) (n : Nat) (ρ : Fun) (h : AHeap) : f174.JS I call (n + 1) 0 ρ h = labC P I call (f174.JS I call n) c174.body 0 (finV I c174.results) 0 ρ h := by kernel_rfl
theorem f174.q1 (I : Inp) (call : CallFn) (n : Nat) (ρ : Fun) (h : AHeap) : f174.JS I call (n + 1) 1 ρ h = labC P I call (f174.JS I call n) c174.body 0 (finV I c174.results) 1 ρ h := by kernel_rfl
theorem f174.q2 (I : Inp) (call : CallFn) (n : Nat) (ρ : Fun) (h : AHeap) : f174.JS I call (n + 1) 2 ρ h = labC P I call (f174.JS I call n) c174.body 0 (finV I c174.results) 2 ρ h := by kernel_rfl
theorem f174.S (I : Inp) (F : Nat → Option AFn) (call : CallFn) : SFn ⟨P, I, F⟩ call c174 (f174.JS I call) :=
  ⟨fun id hid ρ h => by
    have hc : c174.body.cnt = 3 := by kernel_rfl
    rw [hc] at hid
    exact match id, hid with
    | 0, _ => rfl
    | 1, _ => rfl
    | 2, _ => rfl
    | id + 3, hid => absurd hid (by omega), fun n id hid ρ h => by
    have hc : c174.body.cnt = 3 := by kernel_rfl
    rw [hc] at hid
    exact match id, hid with
    | 0, _ => f174.q0 I call n ρ h
    | 1, _ => f174.q1 I call n ρ h
    | 2, _ => f174.q2 I call n ρ h
    | id + 3, hid => absurd hid (by omega)⟩
noncomputable def f174.run (I : Inp) : SF := fun call n a h =>
  match a with
  | [v0] => f174.e I call (f174.J I call n) v0 h
  | _ => none
theorem f174.qe (I : Inp) (call : CallFn) (n : Nat) (v0 : AVal) (h : AHeap) : f174.e I call (f174.J I call n) v0 h = execC P I call (f174.JS I call n) c174.body 0 (finV I c174.results) (argV [v0]) h := by kernel_rfl
theorem f174.code : codeOf P 174 = some c174 := by kernel_rfl
theorem f174.ok (I : Inp) (F : Nat → Option AFn) (hF : F 174 = some (.code c174)) : SfOk P I F 174 (f174.run I) := by
  intro call hc n args h r hr
  unfold f174.run at hr
  split at hr
  · exact fn_sound (C := ⟨P, I, F⟩) (n := n) hc hF (Nat.le_of_ble_eq_true (by kernel_rfl)) (by kernel_rfl) (f174.S I F call) (by kernel_rfl) ((f174.qe I call n _ h).symm.trans hr)
  · cases hr
/-! (*haruspex/bitset.Set).Copy -/
noncomputable def c175 : AFunc := (AFunc.mk 8 1 [(.tmp 2)] (.seq (.region [(S 2 (.move (.val .nilp)) .none)]) (.seq (.region [(M 3 0), (S 4 (.call 168 [(T 3)]) .none), (S 5 (.call 179 [(T 4)]) .none), (S 6 (.build [.nils] [(0, (1, (T 5)))]) .none), (S 7 (.box (T 6)) .none), (M 2 7)]) .ret)))
abbrev f175.Js : Type := Unit
noncomputable def f175.e (I : Inp) (call : CallFn) (j : f175.Js) (v0 : AVal) (h : AHeap) : Rs :=
  bnd (call 168 [v0] h) fun v4 h1 =>
  bnd (call 179 [v4] h1) fun v5 h2 =>
  bndP (pBuild [.nils] [(0, 1, v5)]) fun v6 =>
  bnd (sBox v6 h2) fun v7 h3 =>
  some (v7, h3)
theorem f175.S (I : Inp) (F : Nat → Option AFn) (call : CallFn) : SFn ⟨P, I, F⟩ call c175 (fun _ _ _ _ => none) :=
  ⟨fun _ _ _ _ => rfl, fun n id hid => absurd hid (by rw [show c175.body.cnt = 0 by kernel_rfl]; omega)⟩
noncomputable def f175.run (I : Inp) : SF := fun call n a h =>
  match a with
  | [v0] => f175.e I call () v0 h
  | _ => none
theorem f175.qe (I : Inp) (call : CallFn) (n : Nat) (v0 : AVal) (h : AHeap) : f175.e I call () v0 h = execC P I call (fun _ _ _ => none) c175.body 0 (finV I c175.results) (argV [v0]) h := by kernel_rfl
theorem f175.code : codeOf P 175 = some c175 := by kernel_rfl
theorem f175.ok (I : Inp) (F : Nat → Option AFn) (hF : F 175 = some (.code c175)) : SfOk P I F 175 (f175.run I) := by
  intro call hc n args h r hr
  unfold f175.run at hr
  split at hr
  · exact fn_sound (C := ⟨P, I, F⟩) (n := n) hc hF (Nat.le_of_ble_eq_true (by kernel_rfl)) (by kernel_rfl) (f175.S I F call) (by kernel_rfl) ((f175.qe I call n _ h).symm.trans hr)
  · cases hr
/-! slices.Clone[[]uint64,uint64] -/
noncomputable def c179 : AFunc := (AFunc.mk 8 1 [(.tmp 2)] (.seq (.region [(S 2 (.move (.val .nils)) .none)]) (.seq (.seq (.region [(M 3 0), (S 4 (.eq .false .slice .true (T 3) (.val .nils)) .none)]) (.cond (T 4) (.seq (.region [(S 2 (.move (.val .nils)) .none)]) .ret) .skip)) (.seq (.region [(S 5 (.buildSlice [(.int .u64 (.ofNat 0))] 0 []) .none), (M 6 0), (S 7 (.append 1 8 (T 5) (T 6)) .none), (M 2 7)]) .ret))))
abbrev f179.Js : Type := (AVal → AHeap → Rs)
noncomputable def f179.b0 (I : Inp) (call : CallFn) (j : f179.Js) (v0 : AVal) (h : AHeap) : Rs :=
  bnd (sBuildSlice [(.int .u64 (.ofNat 0))] 0 [] h) fun v5 h1 =>
  bnd (sAppend I 1 8 v5 v0 h1) fun v7 h2 =>
  some (v7, h2)
noncomputable def f179.e (I : Inp) (call : CallFn) (j : f179.Js) (v0 : AVal) (h : AHeap) : Rs :=
  bndP (pEq P .false .slice .true v0 .nils h) fun v4 =>
  sCond v4 (
  j v0 h) (
  some (.nils, h))
noncomputable def f179.J (I : Inp) (call : CallFn) (n : Nat) : f179.Js :=
  Nat.rec (motive := fun _ => f179.Js) (fun _ _ => none) (fun _ ih => f179.b0 I call ih) n
noncomputable def f179.JS (I : Inp) (call : CallFn) (n : Nat) : Jmp := fun id ρ h =>
  ((f179.J I call n) (ρ 0) h)
theorem f179.q0 (I : Inp) (call : CallFn) (n : Nat) (ρ : Fun) (h : AHeap) : f179.JS I call (n + 1) 0 ρ h = labC P I call (f179.JS I call n) c179.body 0 (finV I c179.results) 0 ρ h := by kernel_rfl
theorem f179.S (I : Inp) (F : Nat → Option AFn) (call : CallFn) : SFn ⟨P, I, F⟩ call c179 (f179.JS I call) :=
  ⟨fun id hid ρ h => by
    have hc : c179.body.cnt = 1 := by kernel_rfl
    rw [hc] at hid
    exact match id, hid with
    | 0, _ => rfl
    | id + 1, hid => absurd hid (by omega), fun n id hid ρ h => by
    have hc : c179.body.cnt = 1 := by kernel_rfl
    rw [hc] at hid
    exact match id, hid with
    | 0, _ => f179.q0 I call n ρ h
    | id + 1, hid => absurd hid (by omega)⟩
noncomputable def f179.run (I : Inp) : SF := fun call n a h =>
  match a with
  | [v0] => f179.e I call (f179.J I call n) v0 h
  | _ => none
theorem f179.qe (I : Inp) (call : CallFn) (n : Nat) (v0 : AVal) (h : AHeap) : f179.e I call (f179.J I call n) v0 h = execC P I call (f179.JS I call n) c179.body 0 (finV I c179.results) (argV [v0]) h := by kernel_rfl
theorem f179.code : codeOf P 179 = some c179 := by kernel_rfl
theorem f179.ok (I : Inp) (F : Nat → Option AFn) (hF : F 179 = some (.code c179)) : SfOk P I F 179 (f179.run I) := by
  intro call hc n args h r hr
  unfold f179.run at hr
  split at hr
  · exact fn_sound (C := ⟨P, I, F⟩) (n := n) hc hF (Nat.le_of_ble_eq_true (by kernel_rfl)) (by kernel_rfl) (f179.S I F call) (by kernel_rfl) ((f179.qe I call n _ h).symm.trans hr)
  · cases hr
end Go.Proofs.YtechgpjdlkjjoaaGreatDoor.Sf
