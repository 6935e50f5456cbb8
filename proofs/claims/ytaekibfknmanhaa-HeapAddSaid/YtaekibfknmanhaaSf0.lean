/- The functions of the program by their labels, on values, part 0: what they compute the abstract machine computes. Conditions: none. -/
import Derived.Test.YtaekibfknmanhaaAmSim
import Derived.Test.YtaekibfknmanhaaProg
namespace Go.Proofs.Ytaekibfknmanhaa.Sf
open Go.AM
set_option linter.unusedVariables false
noncomputable abbrev P : Program := Try.prog
abbrev Z (n : Nat) : AVal := .int .i64 (.ofNat n)
abbrev V (n : Nat) : AOpd := .val (.int .i64 (.ofNat n))
abbrev T (n : Nat) : AOpd := .tmp n
abbrev M (d x : Nat) : AOper := ⟨some d, .move (.tmp x), none⟩
abbrev S (d : Nat) (o : AOp) (g : Option (Nat × Bool)) : AOper := ⟨some d, o, g⟩
abbrev N : Bool × List Nat := (false, [])
abbrev Y : Bool × List Nat := (true, [])
/-! haruspex/haruspexlaw13.HeapApart -/
noncomputable def c3 : AFunc := (AFunc.mk 128 3 [(.tmp 6)] (.seq (.region [(S 5 (.box (T 2)) .none), (S 6 (.move (.val (.bool .false))) .none)]) (.seq (.region [(S 21 (.call 7 []) .none), (M 7 21)]) (.seq (.seq (.region [(M 22 7), (S 23 (.un .not (T 22)) .none)]) (.cond (T 23) (.seq (.region [(S 6 (.move (.val (.bool .false))) .none)]) .ret) .skip)) (.seq (.seq (.region [(M 24 0), (S 25 (.bin .lss (T 24) (V 1)) .none), (M 26 25), (S 27 (.move (T 0)) (.some (26, .false))), (S 28 (.bin .gtr (T 27) (V 20)) (.some (26, .false))), (S 29 (.pick (T 26) (.val (.bool .true)) (T 28)) .none)]) (.cond (T 29) (.seq (.region [(S 6 (.move (.val (.bool .true))) .none)]) .ret) .skip)) (.seq (.region [(S 30 (.call 8 []) .none), (M 8 30)]) (.seq (.region [(S 31 (.build [(Z 0), (Z 0)] []) .none), (S 32 (.build [(Z 0), (Z 0)] [(0, (1, (V 1)))]) .none), (S 33 (.buildSlice [(Z 0), (Z 0)] 2 [(0, (2, (T 31))), (2, (2, (T 32)))]) .none), (M 9 33)]) (.seq (.seq (.region [(S 10 (.move (V 0)) .none)]) (.block 0 (.loop (.seq (.seq (.region [(M 34 10), (M 35 0), (S 36 (.bin .lss (T 34) (T 35)) .none)]) (.cond (T 36) .skip (.exit 0))) (.seq (.block 1 (.region [(M 39 8), (M 40 10), (M 41 9), (S 42 (.call 9 [(T 39), (T 40), (T 41)]) .none)])) (.region [(M 37 10), (S 38 (.bin .add (T 37) (V 1)) .none), (M 10 38)])))))) (.seq (.region [(S 11 (.alloc [(Z 0), (Z 0), (.bool .false), (Z 0), (Z 0), (.bool .false), (Z 0), (Z 0), (.bool .false), (Z 0), (Z 0), (.bool .false), (Z 0), (Z 0), (.bool .false), (Z 0), (Z 0), (.bool .false), (Z 0), (Z 0), (.bool .false), (Z 0), (Z 0), (.bool .false), (Z 0), (Z 0), (.bool .false), (Z 0), (Z 0), (.bool .false), (Z 0), (Z 0), (.bool .false), (Z 0), (Z 0), (.bool .false), (Z 0), (Z 0), (.bool .false), (Z 0), (Z 0), (.bool .false), (Z 0), (Z 0), (.bool .false), (Z 0), (Z 0), (.bool .false), (Z 0), (Z 0), (.bool .false), (Z 0), (Z 0), (.bool .false), (Z 0), (Z 0), (.bool .false), (Z 0), (Z 0), (.bool .false), (Z 0), (Z 0), (.bool .false), (Z 0), (Z 0), (.bool .false), (Z 0), (Z 0), (.bool .false), (Z 0), (Z 0), (.bool .false), (Z 0), (Z 0), (.bool .false), (Z 0), (Z 0), (.bool .false), (Z 0), (Z 0), (.bool .false), (Z 0), (Z 0), (.bool .false), (Z 0), (Z 0), (.bool .false), (Z 0), (Z 0), (.bool .false), (Z 0), (Z 0), (.bool .false), (Z 0), (Z 0), (.bool .false), (Z 0), (Z 0), (.bool .false), (Z 0), (Z 0), (.bool .false), (Z 0), (Z 0), (.bool .false), (Z 0), (Z 0), (.bool .false), (Z 0), (Z 0), (.bool .false), (Z 0), (Z 0), (.bool .false), (Z 0), (Z 0), (.bool .false), (Z 0), (Z 0), (.bool .false)]) .none)]) (.seq (.seq (.region [(S 12 (.move (V 0)) .none)]) (.block 2 (.loop (.seq (.seq (.region [(M 43 12), (M 44 0), (S 45 (.bin .lss (T 43) (T 44)) .none)]) (.cond (T 45) .skip (.exit 2))) (.seq (.block 3 (.draw [(M 48 12), (M 49 9), (S 50 (.indexAddr 2 (T 49) (V 0)) .none), (S 51 (.loadN 2 (T 50)) .none), (S 52 (.call 10 [(T 51)]) .none), (M 53 9), (S 54 (.indexAddr 2 (T 53) (V 1)) .none), (S 55 (.loadN 2 (T 54)) .none), (S 56 (.call 10 [(T 55)]) .none), (S 57 (.build [(Z 0), (Z 0), (.bool .false), (Z 0), (Z 0), (.bool .false)] [(0, (3, (T 52))), (3, (3, (T 56)))]) .none), (S 58 (.indexAddrArr 20 6 (T 11) (T 48)) .none), (AOper.mk .none (.store 6 (T 58) (T 57)) .none)] [N, N, N, N, Y, N, N, (.false, [0]), Y, N, N, Y] 0)) (.region [(M 46 12), (S 47 (.bin .add (T 46) (V 1)) .none), (M 12 47)])))))) (.seq (.seq (.region [(S 13 (.move (V 0)) .none)]) (.block 4 (.loop (.seq (.seq (.region [(M 59 13), (M 60 1), (S 61 (.lenSl (T 60)) .none), (S 62 (.bin .lss (T 59) (T 61)) .none), (M 63 62), (S 64 (.move (T 13)) (.some (63, .true))), (S 65 (.bin .lss (T 64) (V 30)) (.some (63, .true))), (S 66 (.pick (T 63) (T 65) (.val (.bool .false))) .none)]) (.cond (T 66) .skip (.exit 4))) (.seq (.block 5 (.seq (.region [(M 69 1), (M 70 13), (S 71 (.indexAddr 1 (T 69) (T 70)) .none), (S 72 (.load1 (T 71)) .none), (M 73 0), (S 74 (.bin .rem (T 72) (T 73)) .none), (M 75 0), (S 76 (.bin .add (T 74) (T 75)) .none), (M 77 0), (S 78 (.bin .rem (T 76) (T 77)) .none), (M 14 78)]) (.seq (.region [(M 79 13), (S 80 (.bin .rem (T 79) (V 2)) .none), (M 15 80)]) (.seq (.region [(S 81 (.loadN 3 (T 5)) .none), (S 16 (.alloc [(Z 0), (Z 0), (.bool .false)]) .none), (AOper.mk .none (.store 3 (T 16) (T 81)) .none)]) (.seq (.region [(S 82 (.fieldAddr 1 (T 16)) .none), (S 83 (.load1 (T 82)) .none), (M 84 13), (S 85 (.bin .add (T 83) (T 84)) .none), (S 86 (.fieldAddr 1 (T 16)) .none), (AOper.mk .none (.store 1 (T 86) (T 85)) .none)]) (.seq (.seq (.region [(M 87 8), (M 88 14), (S 89 (.bin .add (T 88) (V 1)) .none), (M 90 15), (S 91 (.loadN 3 (T 16)) .none), (S 92 (.call 11 [(T 87), (T 89), (T 90), (T 91)]) .none), (S 93 (.bin .neq (T 92) (V 0)) .none)]) (.cond (T 93) (.seq (.region [(S 6 (.move (.val (.bool .false))) .none)]) .ret) .skip)) (.draw [(M 94 14), (M 95 15), (S 96 (.loadN 3 (T 16)) .none), (S 97 (.indexAddrArr 20 6 (T 11) (T 94)) .none), (S 98 (.indexAddrArr 2 3 (T 97) (T 95)) .none), (AOper.mk .none (.store 3 (T 98) (T 96)) .none)] [N, N, N, N, N, Y] 0))))))) (.region [(M 67 13), (S 68 (.bin .add (T 67) (V 1)) .none), (M 13 68)])))))) (.seq (.seq (.region [(S 17 (.move (V 0)) .none)]) (.block 6 (.loop (.seq (.seq (.region [(M 99 17), (M 100 0), (S 101 (.bin .lss (T 99) (T 100)) .none)]) (.cond (T 101) .skip (.exit 6))) (.seq (.block 7 (.seq (.region [(S 18 (.move (V 0)) .none)]) (.block 8 (.loop (.seq (.seq (.region [(M 104 18), (S 105 (.bin .lss (T 104) (V 2)) .none)]) (.cond (T 105) .skip (.exit 8))) (.seq (.block 9 (.seq (.region [(M 109 8), (M 110 17), (S 111 (.bin .add (T 110) (V 1)) .none), (M 112 18), (S 113 (.call 12 [(T 109), (T 111), (T 112)]) .none), (M 108 113), (S 114 (.extract (T 108) 0) .none), (S 115 (.extract (T 108) 1) .none), (S 19 (.alloc [(Z 0), (Z 0), (.bool .false)]) .none), (AOper.mk .none (.store 3 (T 19) (T 114)) .none), (M 20 115)]) (.seq (.draw [(M 116 20), (S 117 (.bin .neq (T 116) (V 0)) .none), (M 118 117), (S 119 (.loadN 3 (T 19)) (.some (118, .false))), (S 120 (.move (T 17)) (.some (118, .false))), (S 121 (.move (T 18)) (.some (118, .false))), (S 122 (.indexAddrArr 20 6 (T 11) (T 120)) (.some (118, .false))), (S 123 (.indexAddrArr 2 3 (T 122) (T 121)) (.some (118, .false))), (S 124 (.loadN 3 (T 123)) (.some (118, .false))), (S 125 (.call 13 [(T 119), (T 124)]) (.some (118, .false))), (S 126 (.un .not (T 125)) (.some (118, .false))), (S 127 (.pick (T 118) (.val (.bool .true)) (T 126)) .none)] [N, N, N, N, N, N, N, N, N, Y, N, N] 0) (.cond (T 127) (.seq (.region [(S 6 (.move (.val (.bool .false))) .none)]) .ret) .skip)))) (.region [(M 106 18), (S 107 (.bin .add (T 106) (V 1)) .none), (M 18 107)]))))))) (.region [(M 102 17), (S 103 (.bin .add (T 102) (V 1)) .none), (M 17 103)])))))) (.seq (.region [(S 6 (.move (.val (.bool .true))) .none)]) .ret)))))))))))))
abbrev f3.Js : Type := (((((AVal → AVal → AVal → AHeap → Rs) × (AVal → AVal → AVal → AHeap → Rs)) × ((AVal → AVal → AVal → AVal → AVal → AHeap → Rs) × ((AVal → AVal → AVal → AVal → AVal → AVal → AHeap → Rs) × (AVal → AVal → AVal → AVal → AVal → AVal → AHeap → Rs)))) × (((AVal → AVal → AVal → AVal → AVal → AVal → AHeap → Rs) × ((AVal → AVal → AVal → AVal → AVal → AHeap → Rs) × (AVal → AVal → AVal → AVal → AVal → AVal → AVal → AHeap → Rs))) × ((AVal → AVal → AVal → AVal → AVal → AVal → AVal → AHeap → Rs) × ((AVal → AVal → AVal → AVal → AVal → AVal → AVal → AHeap → Rs) × (AVal → AVal → AVal → AHeap → Rs))))) × ((((AVal → AVal → AVal → AVal → AVal → AVal → AHeap → Rs) × (AVal → AVal → AVal → AVal → AVal → AVal → AHeap → Rs)) × ((AVal → AVal → AVal → AVal → AVal → AVal → AHeap → Rs) × ((AVal → AVal → AVal → AVal → AVal → AVal → AVal → AVal → AVal → AHeap → Rs) × (AHeap → Rs)))) × (((AVal → AVal → AVal → AVal → AHeap → Rs) × ((AVal → AVal → AVal → AVal → AHeap → Rs) × (AVal → AVal → AVal → AVal → AHeap → Rs))) × ((AVal → AVal → AVal → AVal → AVal → AHeap → Rs) × ((AVal → AVal → AVal → AVal → AVal → AHeap → Rs) × (AVal → AVal → AVal → AVal → AVal → AHeap → Rs))))))
noncomputable def f3.b0 (I : Inp) (call : CallFn) (j : f3.Js) (v0 v1 v5 : AVal) (h : AHeap) : Rs :=
  bndP (pBin .lss v0 (Z 1)) fun v25 =>
  bnd (sGuard v25 .false (some (v0, h)) h) fun v27 h1 =>
  bnd (sGuard v25 .false (lift (pBin .gtr v27 (Z 20)) h1) h1) fun v28 h2 =>
  bndP (pPick v25 (.bool .true) v28) fun v29 =>
  sCond v29 (
  j.1.1.1.2 v0 v1 v5 h2) (
  some ((.bool .true), h2))
noncomputable def f3.b1 (I : Inp) (call : CallFn) (j : f3.Js) (v0 v1 v5 : AVal) (h : AHeap) : Rs :=
  bnd (call 8 [] h) fun v30 h1 =>
  bndP (pBuild [(Z 0), (Z 0)] []) fun v31 =>
  bndP (pBuild [(Z 0), (Z 0)] [(0, 1, (Z 1))]) fun v32 =>
  bnd (sBuildSlice [(Z 0), (Z 0)] 2 [(0, 2, v31), (2, 2, v32)] h1) fun v33 h2 =>
  j.1.1.2.2.1 v0 v1 v5 v30 v33 (Z 0) h2
noncomputable def f3.b2 (I : Inp) (call : CallFn) (j : f3.Js) (v0 v1 v5 v8 v9 : AVal) (h : AHeap) : Rs :=
  bnd (sAlloc [(Z 0), (Z 0), (.bool .false), (Z 0), (Z 0), (.bool .false), (Z 0), (Z 0), (.bool .false), (Z 0), (Z 0), (.bool .false), (Z 0), (Z 0), (.bool .false), (Z 0), (Z 0), (.bool .false), (Z 0), (Z 0), (.bool .false), (Z 0), (Z 0), (.bool .false), (Z 0), (Z 0), (.bool .false), (Z 0), (Z 0), (.bool .false), (Z 0), (Z 0), (.bool .false), (Z 0), (Z 0), (.bool .false), (Z 0), (Z 0), (.bool .false), (Z 0), (Z 0), (.bool .false), (Z 0), (Z 0), (.bool .false), (Z 0), (Z 0), (.bool .false), (Z 0), (Z 0), (.bool .false), (Z 0), (Z 0), (.bool .false), (Z 0), (Z 0), (.bool .false), (Z 0), (Z 0), (.bool .false), (Z 0), (Z 0), (.bool .false), (Z 0), (Z 0), (.bool .false), (Z 0), (Z 0), (.bool .false), (Z 0), (Z 0), (.bool .false), (Z 0), (Z 0), (.bool .false), (Z 0), (Z 0), (.bool .false), (Z 0), (Z 0), (.bool .false), (Z 0), (Z 0), (.bool .false), (Z 0), (Z 0), (.bool .false), (Z 0), (Z 0), (.bool .false), (Z 0), (Z 0), (.bool .false), (Z 0), (Z 0), (.bool .false), (Z 0), (Z 0), (.bool .false), (Z 0), (Z 0), (.bool .false), (Z 0), (Z 0), (.bool .false), (Z 0), (Z 0), (.bool .false), (Z 0), (Z 0), (.bool .false), (Z 0), (Z 0), (.bool .false), (Z 0), (Z 0), (.bool .false), (Z 0), (Z 0), (.bool .false)] h) fun v11 h1 =>
  j.1.2.1.2.2 v0 v1 v5 v8 v9 v11 (Z 0) h1
noncomputable def f3.b3 (I : Inp) (call : CallFn) (j : f3.Js) (v0 v1 v5 v8 v9 v10 : AVal) (h : AHeap) : Rs :=
  bndP (pBin .lss v10 v0) fun v36 =>
  sCond v36 (
  j.1.1.2.1 v0 v1 v5 v8 v9 h) (
  j.1.1.2.2.2 v0 v1 v5 v8 v9 v10 h)
noncomputable def f3.b4 (I : Inp) (call : CallFn) (j : f3.Js) (v0 v1 v5 v8 v9 v10 : AVal) (h : AHeap) : Rs :=
  bnd (call 9 [v8, v10, v9] h) fun v42 h1 =>
  j.1.2.1.1 v0 v1 v5 v8 v9 v10 h1
noncomputable def f3.b5 (I : Inp) (call : CallFn) (j : f3.Js) (v0 v1 v5 v8 v9 v10 : AVal) (h : AHeap) : Rs :=
  bndP (pBin .add v10 (Z 1)) fun v38 =>
  j.1.1.2.2.1 v0 v1 v5 v8 v9 v38 h
noncomputable def f3.b6 (I : Inp) (call : CallFn) (j : f3.Js) (v0 v1 v5 v8 v11 : AVal) (h : AHeap) : Rs :=
  j.2.1.1.1 v0 v1 v5 v8 v11 (Z 0) h
noncomputable def f3.b7 (I : Inp) (call : CallFn) (j : f3.Js) (v0 v1 v5 v8 v9 v11 v12 : AVal) (h : AHeap) : Rs :=
  bndP (pBin .lss v12 v0) fun v45 =>
  sCond v45 (
  j.1.2.1.2.1 v0 v1 v5 v8 v11 h) (
  j.1.2.2.1 v0 v1 v5 v8 v9 v11 v12 h)
noncomputable def f3.b8 (I : Inp) (call : CallFn) (j : f3.Js) (v0 v1 v5 v8 v9 v11 v12 : AVal) (h : AHeap) : Rs :=
  bndP (pIndexAddr 2 v9 (Z 0)) fun v50 =>
  bndP (pLoadN I 2 v50 h) fun v51 =>
  bnd (call 10 [v51] h) fun v52 h1 =>
  bndP (pIndexAddr 2 v9 (Z 1)) fun v54 =>
  bndP (pLoadN I 2 v54 h1) fun v55 =>
  bnd (call 10 [v55] h1) fun v56 h2 =>
  bndP (pBuild [(Z 0), (Z 0), (.bool .false), (Z 0), (Z 0), (.bool .false)] [(0, 3, v52), (3, 3, v56)]) fun v57 =>
  bndP (pIndexAddrArr 20 6 v11 v12) fun v58 =>
  bnd (sStore 6 v58 v57 h2) fun _ h3 =>
  sCheck (sSame (lift (pLoadN I 2 v54 h) h) v55 && true) (
  j.1.2.2.2.1 v0 v1 v5 v8 v9 v11 v12 h3)
noncomputable def f3.b9 (I : Inp) (call : CallFn) (j : f3.Js) (v0 v1 v5 v8 v9 v11 v12 : AVal) (h : AHeap) : Rs :=
  bndP (pBin .add v12 (Z 1)) fun v47 =>
  j.1.2.1.2.2 v0 v1 v5 v8 v9 v11 v47 h
noncomputable def f3.b10 (I : Inp) (call : CallFn) (j : f3.Js) (v0 v8 v11 : AVal) (h : AHeap) : Rs :=
  j.2.2.1.1 v0 v8 v11 (Z 0) h
noncomputable def f3.b11 (I : Inp) (call : CallFn) (j : f3.Js) (v0 v1 v5 v8 v11 v13 : AVal) (h : AHeap) : Rs :=
  bndP (pLenSl v1) fun v61 =>
  bndP (pBin .lss v13 v61) fun v62 =>
  bnd (sGuard v62 .true (some (v13, h)) h) fun v64 h1 =>
  bnd (sGuard v62 .true (lift (pBin .lss v64 (Z 30)) h1) h1) fun v65 h2 =>
  bndP (pPick v62 v65 (.bool .false)) fun v66 =>
  sCond v66 (
  j.1.2.2.2.2 v0 v8 v11 h2) (
  j.2.1.1.2 v0 v1 v5 v8 v11 v13 h2)
noncomputable def f3.b12 (I : Inp) (call : CallFn) (j : f3.Js) (v0 v1 v5 v8 v11 v13 : AVal) (h : AHeap) : Rs :=
  bndP (pIndexAddr 1 v1 v13) fun v71 =>
  bndP (pLoad1 I v71 h) fun v72 =>
  bndP (pBin .rem v72 v0) fun v74 =>
  bndP (pBin .add v74 v0) fun v76 =>
  bndP (pBin .rem v76 v0) fun v78 =>
  bndP (pBin .rem v13 (Z 2)) fun v80 =>
  bndP (pLoadN I 3 v5 h) fun v81 =>
  bnd (sAlloc [(Z 0), (Z 0), (.bool .false)] h) fun v16 h1 =>
  bnd (sStore 3 v16 v81 h1) fun _ h2 =>
  bndP (pFieldAddr 1 v16) fun v82 =>
  bndP (pLoad1 I v82 h2) fun v83 =>
  bndP (pBin .add v83 v13) fun v85 =>
  bndP (pFieldAddr 1 v16) fun v86 =>
  bnd (sStore 1 v86 v85 h2) fun _ h3 =>
  bndP (pBin .add v78 (Z 1)) fun v89 =>
  bndP (pLoadN I 3 v16 h3) fun v91 =>
  bnd (call 11 [v8, v89, v80, v91] h3) fun v92 h4 =>
  bndP (pBin .neq v92 (Z 0)) fun v93 =>
  sCond v93 (
  j.2.1.2.2.1 v0 v1 v5 v8 v11 v13 v78 v80 v16 h4) (
  some ((.bool .false), h4))
noncomputable def f3.b13 (I : Inp) (call : CallFn) (j : f3.Js) (v0 v1 v5 v8 v11 v13 : AVal) (h : AHeap) : Rs :=
  bndP (pBin .add v13 (Z 1)) fun v68 =>
  j.2.1.1.1 v0 v1 v5 v8 v11 v68 h
noncomputable def f3.b14 (I : Inp) (call : CallFn) (j : f3.Js) (v0 v1 v5 v8 v11 v13 v14 v15 v16 : AVal) (h : AHeap) : Rs :=
  bndP (pLoadN I 3 v16 h) fun v96 =>
  bndP (pIndexAddrArr 20 6 v11 v14) fun v97 =>
  bndP (pIndexAddrArr 2 3 v97 v15) fun v98 =>
  bnd (sStore 3 v98 v96 h) fun _ h1 =>
  j.2.1.2.1 v0 v1 v5 v8 v11 v13 h1
noncomputable def f3.b15 (I : Inp) (call : CallFn) (j : f3.Js) (h : AHeap) : Rs :=
  some ((.bool .true), h)
noncomputable def f3.b16 (I : Inp) (call : CallFn) (j : f3.Js) (v0 v8 v11 v17 : AVal) (h : AHeap) : Rs :=
  bndP (pBin .lss v17 v0) fun v101 =>
  sCond v101 (
  j.2.1.2.2.2 h) (
  j.2.2.1.2.1 v0 v8 v11 v17 h)
noncomputable def f3.b17 (I : Inp) (call : CallFn) (j : f3.Js) (v0 v8 v11 v17 : AVal) (h : AHeap) : Rs :=
  j.2.2.2.1 v0 v8 v11 v17 (Z 0) h
noncomputable def f3.b18 (I : Inp) (call : CallFn) (j : f3.Js) (v0 v8 v11 v17 : AVal) (h : AHeap) : Rs :=
  bndP (pBin .add v17 (Z 1)) fun v103 =>
  j.2.2.1.1 v0 v8 v11 v103 h
noncomputable def f3.b19 (I : Inp) (call : CallFn) (j : f3.Js) (v0 v8 v11 v17 v18 : AVal) (h : AHeap) : Rs :=
  bndP (pBin .lss v18 (Z 2)) fun v105 =>
  sCond v105 (
  j.2.2.1.2.2 v0 v8 v11 v17 h) (
  j.2.2.2.2.1 v0 v8 v11 v17 v18 h)
noncomputable def f3.b20 (I : Inp) (call : CallFn) (j : f3.Js) (v0 v8 v11 v17 v18 : AVal) (h : AHeap) : Rs :=
  bndP (pBin .add v17 (Z 1)) fun v111 =>
  bnd (call 12 [v8, v111, v18] h) fun v113 h1 =>
  bndP (pExtract v113 0) fun v114 =>
  bndP (pExtract v113 1) fun v115 =>
  bnd (sAlloc [(Z 0), (Z 0), (.bool .false)] h1) fun v19 h2 =>
  bnd (sStore 3 v19 v114 h2) fun _ h3 =>
  bndP (pBin .neq v115 (Z 0)) fun v117 =>
  bnd (sGuard v117 .false (lift (pLoadN I 3 v19 h3) h3) h3) fun v119 h4 =>
  bnd (sGuard v117 .false (some (v17, h4)) h4) fun v120 h5 =>
  bnd (sGuard v117 .false (some (v18, h5)) h5) fun v121 h6 =>
  bnd (sGuard v117 .false (lift (pIndexAddrArr 20 6 v11 v120) h6) h6) fun v122 h7 =>
  bnd (sGuard v117 .false (lift (pIndexAddrArr 2 3 v122 v121) h7) h7) fun v123 h8 =>
  bnd (sGuard v117 .false (lift (pLoadN I 3 v123 h8) h8) h8) fun v124 h9 =>
  bnd (sGuard v117 .false (call 13 [v119, v124] h9) h9) fun v125 h10 =>
  bnd (sGuard v117 .false (lift (pUn .not v125) h10) h10) fun v126 h11 =>
  bndP (pPick v117 (.bool .true) v126) fun v127 =>
  sCond v127 (
  j.2.2.2.2.2 v0 v8 v11 v17 v18 h11) (
  some ((.bool .false), h11))
noncomputable def f3.b21 (I : Inp) (call : CallFn) (j : f3.Js) (v0 v8 v11 v17 v18 : AVal) (h : AHeap) : Rs :=
  bndP (pBin .add v18 (Z 1)) fun v107 =>
  j.2.2.2.1 v0 v8 v11 v17 v107 h
noncomputable def f3.e (I : Inp) (call : CallFn) (j : f3.Js) (v0 v1 v2 : AVal) (h : AHeap) : Rs :=
  bnd (sBox v2 h) fun v5 h1 =>
  bnd (call 7 [] h1) fun v21 h2 =>
  bndP (pUn .not v21) fun v23 =>
  sCond v23 (
  j.1.1.1.1 v0 v1 v5 h2) (
  some ((.bool .false), h2))
noncomputable def f3.J (I : Inp) (call : CallFn) (n : Nat) : f3.Js :=
  Nat.rec (motive := fun _ => f3.Js) (((((fun _ _ _ _ => none), (fun _ _ _ _ => none)), ((fun _ _ _ _ _ _ => none), ((fun _ _ _ _ _ _ _ => none), (fun _ _ _ _ _ _ _ => none)))), (((fun _ _ _ _ _ _ _ => none), ((fun _ _ _ _ _ _ => none), (fun _ _ _ _ _ _ _ _ => none))), ((fun _ _ _ _ _ _ _ _ => none), ((fun _ _ _ _ _ _ _ _ => none), (fun _ _ _ _ => none))))), ((((fun _ _ _ _ _ _ _ => none), (fun _ _ _ _ _ _ _ => none)), ((fun _ _ _ _ _ _ _ => none), ((fun _ _ _ _ _ _ _ _ _ _ => none), (fun _ => none)))), (((fun _ _ _ _ _ => none), ((fun _ _ _ _ _ => none), (fun _ _ _ _ _ => none))), ((fun _ _ _ _ _ _ => none), ((fun _ _ _ _ _ _ => none), (fun _ _ _ _ _ _ => none)))))) (fun _ ih => ((((f3.b0 I call ih, f3.b1 I call ih), (f3.b2 I call ih, (f3.b3 I call ih, f3.b4 I call ih))), ((f3.b5 I call ih, (f3.b6 I call ih, f3.b7 I call ih)), (f3.b8 I call ih, (f3.b9 I call ih, f3.b10 I call ih)))), (((f3.b11 I call ih, f3.b12 I call ih), (f3.b13 I call ih, (f3.b14 I call ih, f3.b15 I call ih))), ((f3.b16 I call ih, (f3.b17 I call ih, f3.b18 I call ih)), (f3.b19 I call ih, (f3.b20 I call ih, f3.b21 I call ih)))))) n
theorem f3.Jn (I : Inp) (call : CallFn) (n : Nat) : f3.J I call (n + 1) = ((((f3.b0 I call (f3.J I call n), f3.b1 I call (f3.J I call n)), (f3.b2 I call (f3.J I call n), (f3.b3 I call (f3.J I call n), f3.b4 I call (f3.J I call n)))), ((f3.b5 I call (f3.J I call n), (f3.b6 I call (f3.J I call n), f3.b7 I call (f3.J I call n))), (f3.b8 I call (f3.J I call n), (f3.b9 I call (f3.J I call n), f3.b10 I call (f3.J I call n))))), (((f3.b11 I call (f3.J I call n), f3.b12 I call (f3.J I call n)), (f3.b13 I call (f3.J I call n), (f3.b14 I call (f3.J I call n), f3.b15 I call (f3.J I call n)))), ((f3.b16 I call (f3.J I call n), (f3.b17 I call (f3.J I call n), f3.b18 I call (f3.J I call n))), (f3.b19 I call (f3.J I call n), (f3.b20 I call (f3.J I call n), f3.b21 I call (f3.J I call n)))))) := rfl
noncomputable def f3.JS (I : Inp) (call : CallFn) (n : Nat) : Jmp := fun id ρ h =>
  (Bool.rec (motive := fun _ => _) (Bool.rec (motive := fun _ => _) (Bool.rec (motive := fun _ => _) (Bool.rec (motive := fun _ => _) (Bool.rec (motive := fun _ => _) ((f3.J I call n).2.2.2.2.2 (ρ 0) (ρ 8) (ρ 11) (ρ 17) (ρ 18) h) ((f3.J I call n).2.2.2.2.1 (ρ 0) (ρ 8) (ρ 11) (ρ 17) (ρ 18) h) (Nat.blt id 21)) ((f3.J I call n).2.2.2.1 (ρ 0) (ρ 8) (ρ 11) (ρ 17) (ρ 18) h) (Nat.blt id 20)) (Bool.rec (motive := fun _ => _) (Bool.rec (motive := fun _ => _) ((f3.J I call n).2.2.1.2.2 (ρ 0) (ρ 8) (ρ 11) (ρ 17) h) ((f3.J I call n).2.2.1.2.1 (ρ 0) (ρ 8) (ρ 11) (ρ 17) h) (Nat.blt id 18)) ((f3.J I call n).2.2.1.1 (ρ 0) (ρ 8) (ρ 11) (ρ 17) h) (Nat.blt id 17)) (Nat.blt id 19)) (Bool.rec (motive := fun _ => _) (Bool.rec (motive := fun _ => _) (Bool.rec (motive := fun _ => _) ((f3.J I call n).2.1.2.2.2 h) ((f3.J I call n).2.1.2.2.1 (ρ 0) (ρ 1) (ρ 5) (ρ 8) (ρ 11) (ρ 13) (ρ 14) (ρ 15) (ρ 16) h) (Nat.blt id 15)) ((f3.J I call n).2.1.2.1 (ρ 0) (ρ 1) (ρ 5) (ρ 8) (ρ 11) (ρ 13) h) (Nat.blt id 14)) (Bool.rec (motive := fun _ => _) ((f3.J I call n).2.1.1.2 (ρ 0) (ρ 1) (ρ 5) (ρ 8) (ρ 11) (ρ 13) h) ((f3.J I call n).2.1.1.1 (ρ 0) (ρ 1) (ρ 5) (ρ 8) (ρ 11) (ρ 13) h) (Nat.blt id 12)) (Nat.blt id 13)) (Nat.blt id 16)) (Bool.rec (motive := fun _ => _) (Bool.rec (motive := fun _ => _) (Bool.rec (motive := fun _ => _) (Bool.rec (motive := fun _ => _) ((f3.J I call n).1.2.2.2.2 (ρ 0) (ρ 8) (ρ 11) h) ((f3.J I call n).1.2.2.2.1 (ρ 0) (ρ 1) (ρ 5) (ρ 8) (ρ 9) (ρ 11) (ρ 12) h) (Nat.blt id 10)) ((f3.J I call n).1.2.2.1 (ρ 0) (ρ 1) (ρ 5) (ρ 8) (ρ 9) (ρ 11) (ρ 12) h) (Nat.blt id 9)) (Bool.rec (motive := fun _ => _) (Bool.rec (motive := fun _ => _) ((f3.J I call n).1.2.1.2.2 (ρ 0) (ρ 1) (ρ 5) (ρ 8) (ρ 9) (ρ 11) (ρ 12) h) ((f3.J I call n).1.2.1.2.1 (ρ 0) (ρ 1) (ρ 5) (ρ 8) (ρ 11) h) (Nat.blt id 7)) ((f3.J I call n).1.2.1.1 (ρ 0) (ρ 1) (ρ 5) (ρ 8) (ρ 9) (ρ 10) h) (Nat.blt id 6)) (Nat.blt id 8)) (Bool.rec (motive := fun _ => _) (Bool.rec (motive := fun _ => _) (Bool.rec (motive := fun _ => _) ((f3.J I call n).1.1.2.2.2 (ρ 0) (ρ 1) (ρ 5) (ρ 8) (ρ 9) (ρ 10) h) ((f3.J I call n).1.1.2.2.1 (ρ 0) (ρ 1) (ρ 5) (ρ 8) (ρ 9) (ρ 10) h) (Nat.blt id 4)) ((f3.J I call n).1.1.2.1 (ρ 0) (ρ 1) (ρ 5) (ρ 8) (ρ 9) h) (Nat.blt id 3)) (Bool.rec (motive := fun _ => _) ((f3.J I call n).1.1.1.2 (ρ 0) (ρ 1) (ρ 5) h) ((f3.J I call n).1.1.1.1 (ρ 0) (ρ 1) (ρ 5) h) (Nat.blt id 1)) (Nat.blt id 2)) (Nat.blt id 5)) (Nat.blt id 11))
theorem f3.z0 (I : Inp) (call : CallFn) (ρ : Fun) (h : AHeap) : f3.JS I call 0 0 ρ h = none := rfl
theorem f3.z1 (I : Inp) (call : CallFn) (ρ : Fun) (h : AHeap) : f3.JS I call 0 1 ρ h = none := rfl
theorem f3.z2 (I : Inp) (call : CallFn) (ρ : Fun) (h : AHeap) : f3.JS I call 0 2 ρ h = none := rfl
theorem f3.z3 (I : Inp) (call : CallFn) (ρ : Fun) (h : AHeap) : f3.JS I call 0 3 ρ h = none := rfl
theorem f3.z4 (I : Inp) (call : CallFn) (ρ : Fun) (h : AHeap) : f3.JS I call 0 4 ρ h = none := rfl
theorem f3.z5 (I : Inp) (call : CallFn) (ρ : Fun) (h : AHeap) : f3.JS I call 0 5 ρ h = none := rfl
theorem f3.z6 (I : Inp) (call : CallFn) (ρ : Fun) (h : AHeap) : f3.JS I call 0 6 ρ h = none := rfl
theorem f3.z7 (I : Inp) (call : CallFn) (ρ : Fun) (h : AHeap) : f3.JS I call 0 7 ρ h = none := rfl
theorem f3.z8 (I : Inp) (call : CallFn) (ρ : Fun) (h : AHeap) : f3.JS I call 0 8 ρ h = none := rfl
theorem f3.z9 (I : Inp) (call : CallFn) (ρ : Fun) (h : AHeap) : f3.JS I call 0 9 ρ h = none := rfl
theorem f3.z10 (I : Inp) (call : CallFn) (ρ : Fun) (h : AHeap) : f3.JS I call 0 10 ρ h = none := rfl
theorem f3.z11 (I : Inp) (call : CallFn) (ρ : Fun) (h : AHeap) : f3.JS I call 0 11 ρ h = none := rfl
theorem f3.z12 (I : Inp) (call : CallFn) (ρ : Fun) (h : AHeap) : f3.JS I call 0 12 ρ h = none := rfl
theorem f3.z13 (I : Inp) (call : CallFn) (ρ : Fun) (h : AHeap) : f3.JS I call 0 13 ρ h = none := rfl
theorem f3.z14 (I : Inp) (call : CallFn) (ρ : Fun) (h : AHeap) : f3.JS I call 0 14 ρ h = none := rfl
theorem f3.z15 (I : Inp) (call : CallFn) (ρ : Fun) (h : AHeap) : f3.JS I call 0 15 ρ h = none := rfl
theorem f3.z16 (I : Inp) (call : CallFn) (ρ : Fun) (h : AHeap) : f3.JS I call 0 16 ρ h = none := rfl
theorem f3.z17 (I : Inp) (call : CallFn) (ρ : Fun) (h : AHeap) : f3.JS I call 0 17 ρ h = none := rfl
theorem f3.z18 (I : Inp) (call : CallFn) (ρ : Fun) (h : AHeap) : f3.JS I call 0 18 ρ h = none := rfl
theorem f3.z19 (I : Inp) (call : CallFn) (ρ : Fun) (h : AHeap) : f3.JS I call 0 19 ρ h = none := rfl
theorem f3.z20 (I : Inp) (call : CallFn) (ρ : Fun) (h : AHeap) : f3.JS I call 0 20 ρ h = none := rfl
theorem f3.z21 (I : Inp) (call : CallFn) (ρ : Fun) (h : AHeap) : f3.JS I call 0 21 ρ h = none := rfl
theorem f3.q0 (I : Inp) (call : CallFn) (n : Nat) (ρ : Fun) (h : AHeap) : f3.JS I call (n + 1) 0 ρ h = labC P I call (f3.JS I call n) c3.body 0 (finV I c3.results) 0 ρ h := by kernel_rfl
theorem f3.q1 (I : Inp) (call : CallFn) (n : Nat) (ρ : Fun) (h : AHeap) : f3.JS I call (n + 1) 1 ρ h = labC P I call (f3.JS I call n) c3.body 0 (finV I c3.results) 1 ρ h := by kernel_rfl
theorem f3.q2 (I : Inp) (call : CallFn) (n : Nat) (ρ : Fun) (h : AHeap) : f3.JS I call (n + 1) 2 ρ h = labC P I call (f3.JS I call n) c3.body 0 (finV I c3.results) 2 ρ h := by kernel_rfl
theorem f3.q3 (I : Inp) (call : CallFn) (n : Nat) (ρ : Fun) (h : AHeap) : f3.JS I call (n + 1) 3 ρ h = labC P I call (f3.JS I call n) c3.body 0 (finV I c3.results) 3 ρ h := by kernel_rfl
theorem f3.q4 (I : Inp) (call : CallFn) (n : Nat) (ρ : Fun) (h : AHeap) : f3.JS I call (n + 1) 4 ρ h = labC P I call (f3.JS I call n) c3.body 0 (finV I c3.results) 4 ρ h := by kernel_rfl
theorem f3.q5 (I : Inp) (call : CallFn) (n : Nat) (ρ : Fun) (h : AHeap) : f3.JS I call (n + 1) 5 ρ h = labC P I call (f3.JS I call n) c3.body 0 (finV I c3.results) 5 ρ h := by kernel_rfl
theorem f3.q6 (I : Inp) (call : CallFn) (n : Nat) (ρ : Fun) (h : AHeap) : f3.JS I call (n + 1) 6 ρ h = labC P I call (f3.JS I call n) c3.body 0 (finV I c3.results) 6 ρ h := by kernel_rfl
theorem f3.q7 (I : Inp) (call : CallFn) (n : Nat) (ρ : Fun) (h : AHeap) : f3.JS I call (n + 1) 7 ρ h = labC P I call (f3.JS I call n) c3.body 0 (finV I c3.results) 7 ρ h := by kernel_rfl
theorem f3.q8 (I : Inp) (call : CallFn) (n : Nat) (ρ : Fun) (h : AHeap) : f3.JS I call (n + 1) 8 ρ h = labC P I call (f3.JS I call n) c3.body 0 (finV I c3.results) 8 ρ h := by kernel_rfl
theorem f3.q9 (I : Inp) (call : CallFn) (n : Nat) (ρ : Fun) (h : AHeap) : f3.JS I call (n + 1) 9 ρ h = labC P I call (f3.JS I call n) c3.body 0 (finV I c3.results) 9 ρ h := by kernel_rfl
theorem f3.q10 (I : Inp) (call : CallFn) (n : Nat) (ρ : Fun) (h : AHeap) : f3.JS I call (n + 1) 10 ρ h = labC P I call (f3.JS I call n) c3.body 0 (finV I c3.results) 10 ρ h := by kernel_rfl
theorem f3.q11 (I : Inp) (call : CallFn) (n : Nat) (ρ : Fun) (h : AHeap) : f3.JS I call (n + 1) 11 ρ h = labC P I call (f3.JS I call n) c3.body 0 (finV I c3.results) 11 ρ h := by kernel_rfl
theorem f3.q12 (I : Inp) (call : CallFn) (n : Nat) (ρ : Fun) (h : AHeap) : f3.JS I call (n + 1) 12 ρ h = labC P I call (f3.JS I call n) c3.body 0 (finV I c3.results) 12 ρ h := by kernel_rfl
theorem f3.q13 (I : Inp) (call : CallFn) (n : Nat) (ρ : Fun) (h : AHeap) : f3.JS I call (n + 1) 13 ρ h = labC P I call (f3.JS I call n) c3.body 0 (finV I c3.results) 13 ρ h := by kernel_rfl
theorem f3.q14 (I : Inp) (call : CallFn) (n : Nat) (ρ : Fun) (h : AHeap) : f3.JS I call (n + 1) 14 ρ h = labC P I call (f3.JS I call n) c3.body 0 (finV I c3.results) 14 ρ h := by kernel_rfl
theorem f3.q15 (I : Inp) (call : CallFn) (n : Nat) (ρ : Fun) (h : AHeap) : f3.JS I call (n + 1) 15 ρ h = labC P I call (f3.JS I call n) c3.body 0 (finV I c3.results) 15 ρ h := by kernel_rfl
theorem f3.q16 (I : Inp) (call : CallFn) (n : Nat) (ρ : Fun) (h : AHeap) : f3.JS I call (n + 1) 16 ρ h = labC P I call (f3.JS I call n) c3.body 0 (finV I c3.results) 16 ρ h := by kernel_rfl
theorem f3.q17 (I : Inp) (call : CallFn) (n : Nat) (ρ : Fun) (h : AHeap) : f3.JS I call (n + 1) 17 ρ h = labC P I call (f3.JS I call n) c3.body 0 (finV I c3.results) 17 ρ h := by kernel_rfl
theorem f3.q18 (I : Inp) (call : CallFn) (n : Nat) (ρ : Fun) (h : AHeap) : f3.JS I call (n + 1) 18 ρ h = labC P I call (f3.JS I call n) c3.body 0 (finV I c3.results) 18 ρ h := by kernel_rfl
theorem f3.q19 (I : Inp) (call : CallFn) (n : Nat) (ρ : Fun) (h : AHeap) : f3.JS I call (n + 1) 19 ρ h = labC P I call (f3.JS I call n) c3.body 0 (finV I c3.results) 19 ρ h := by kernel_rfl
theorem f3.q20 (I : Inp) (call : CallFn) (n : Nat) (ρ : Fun) (h : AHeap) : f3.JS I call (n + 1) 20 ρ h = labC P I call (f3.JS I call n) c3.body 0 (finV I c3.results) 20 ρ h := by kernel_rfl
theorem f3.q21 (I : Inp) (call : CallFn) (n : Nat) (ρ : Fun) (h : AHeap) : f3.JS I call (n + 1) 21 ρ h = labC P I call (f3.JS I call n) c3.body 0 (finV I c3.results) 21 ρ h := by kernel_rfl
theorem f3.S (I : Inp) (F : Nat → Option AFn) (call : CallFn) : SFn ⟨P, I, F⟩ call c3 (f3.JS I call) :=
  ⟨fun id hid ρ h => by
    have hc : c3.body.cnt = 22 := by kernel_rfl
    rw [hc] at hid
    exact match id, hid with
    | 0, _ => f3.z0 I call ρ h
    | 1, _ => f3.z1 I call ρ h
    | 2, _ => f3.z2 I call ρ h
    | 3, _ => f3.z3 I call ρ h
    | 4, _ => f3.z4 I call ρ h
    | 5, _ => f3.z5 I call ρ h
    | 6, _ => f3.z6 I call ρ h
    | 7, _ => f3.z7 I call ρ h
    | 8, _ => f3.z8 I call ρ h
    | 9, _ => f3.z9 I call ρ h
    | 10, _ => f3.z10 I call ρ h
    | 11, _ => f3.z11 I call ρ h
    | 12, _ => f3.z12 I call ρ h
    | 13, _ => f3.z13 I call ρ h
    | 14, _ => f3.z14 I call ρ h
    | 15, _ => f3.z15 I call ρ h
    | 16, _ => f3.z16 I call ρ h
    | 17, _ => f3.z17 I call ρ h
    | 18, _ => f3.z18 I call ρ h
    | 19, _ => f3.z19 I call ρ h
    | 20, _ => f3.z20 I call ρ h
    | 21, _ => f3.z21 I call ρ h
    | id + 22, hid => absurd hid (by omega), fun n id hid ρ h => by
    have hc : c3.body.cnt = 22 := by kernel_rfl
    rw [hc] at hid
    exact match id, hid with
    | 0, _ => f3.q0 I call n ρ h
    | 1, _ => f3.q1 I call n ρ h
    | 2, _ => f3.q2 I call n ρ h
    | 3, _ => f3.q3 I call n ρ h
    | 4, _ => f3.q4 I call n ρ h
    | 5, _ => f3.q5 I call n ρ h
    | 6, _ => f3.q6 I call n ρ h
    | 7, _ => f3.q7 I call n ρ h
    | 8, _ => f3.q8 I call n ρ h
    | 9, _ => f3.q9 I call n ρ h
    | 10, _ => f3.q10 I call n ρ h
    | 11, _ => f3.q11 I call n ρ h
    | 12, _ => f3.q12 I call n ρ h
    | 13, _ => f3.q13 I call n ρ h
    | 14, _ => f3.q14 I call n ρ h
    | 15, _ => f3.q15 I call n ρ h
    | 16, _ => f3.q16 I call n ρ h
    | 17, _ => f3.q17 I call n ρ h
    | 18, _ => f3.q18 I call n ρ h
    | 19, _ => f3.q19 I call n ρ h
    | 20, _ => f3.q20 I call n ρ h
    | 21, _ => f3.q21 I call n ρ h
    | id + 22, hid => absurd hid (by omega)⟩
noncomputable def f3.run (I : Inp) : SF := fun call n a h =>
  match a with
  | [v0, v1, v2] => f3.e I call (f3.J I call n) v0 v1 v2 h
  | _ => none
theorem f3.qe (I : Inp) (call : CallFn) (n : Nat) (v0 v1 v2 : AVal) (h : AHeap) : f3.e I call (f3.J I call n) v0 v1 v2 h = execC P I call (f3.JS I call n) c3.body 0 (finV I c3.results) (argV [v0, v1, v2]) h := by kernel_rfl
theorem f3.code : codeOf P 3 = some c3 := by kernel_rfl
theorem f3.ok (I : Inp) (F : Nat → Option AFn) (hF : F 3 = some (.code c3)) : SfOk P I F 3 (f3.run I) := by
  intro call hc n args h r hr
  unfold f3.run at hr
  split at hr
  · exact fn_sound (C := ⟨P, I, F⟩) (n := n) hc hF (Nat.le_of_ble_eq_true (by kernel_rfl)) (by kernel_rfl) (f3.S I F call) (by kernel_rfl) ((f3.qe I call n _ _ _ h).symm.trans hr)
  · cases hr
theorem f3.qr (I : Inp) (call : CallFn) (n : Nat) (v0 v1 v2 : AVal) (h : AHeap) : f3.run I call n [v0, v1, v2] h = f3.e I call (f3.J I call n) v0 v1 v2 h := by kernel_rfl
theorem f3.lim {I : Inp} {prims : Nat → Option Prim} (hp : prims 3 = none) {n : Nat} {v0 v1 v2 : AVal} {h : AHeap} {Q : AVal → AHeap → Prop} (hr : Res (f3.e I (AM.lim ⟨P, I, genF P prims⟩) (f3.J I (AM.lim ⟨P, I, genF P prims⟩) n) v0 v1 v2 h) Q) :
    Res (AM.lim ⟨P, I, genF P prims⟩ 3 [v0, v1, v2] h) Q := by
  obtain ⟨v, h', e, q⟩ := hr
  exact ⟨v, h', lim_sf (C := ⟨P, I, genF P prims⟩) (n := n) (f3.ok I (genF P prims) (genF_code hp f3.code)) ((f3.qr I _ n v0 v1 v2 h).trans e), q⟩
/-! haruspex/haruspexlaw13.HeapAdd -/
noncomputable def c4 : AFunc := (AFunc.mk 54 3 [(.tmp 6)] (.seq (.region [(S 3 (.box (T 0)) .none), (S 4 (.box (T 1)) .none), (S 5 (.box (T 2)) .none), (S 6 (.move (.val (.bool .false))) .none)]) (.seq (.region [(S 9 (.call 7 []) .none), (M 7 9)]) (.seq (.seq (.region [(M 10 7), (S 11 (.un .not (T 10)) .none)]) (.cond (T 11) (.seq (.region [(S 6 (.move (.val (.bool .false))) .none)]) .ret) .skip)) (.seq (.region [(S 12 (.loadN 3 (T 3)) .none), (S 13 (.loadN 3 (T 4)) .none), (S 14 (.call 14 [(T 12), (T 13)]) .none), (S 8 (.alloc [(Z 0), (Z 0), (.bool .false)]) .none), (AOper.mk .none (.store 3 (T 8) (T 14)) .none)]) (.seq (.seq (.region [(S 15 (.fieldAddr 0 (T 3)) .none), (S 16 (.load1 (T 15)) .none), (S 17 (.bin .neq (T 16) (V 0)) .none), (M 18 17), (S 19 (.fieldAddr 0 (T 4)) (.some (18, .false))), (S 20 (.load1 (T 19)) (.some (18, .false))), (S 21 (.bin .neq (T 20) (V 0)) (.some (18, .false))), (S 22 (.pick (T 18) (.val (.bool .true)) (T 21)) .none)]) (.cond (T 22) (.seq (.draw [(S 23 (.loadN 3 (T 8)) .none), (S 24 (.build [(Z 0), (Z 0), (.bool .false)] []) .none), (S 25 (.call 13 [(T 23), (T 24)]) .none), (M 26 25), (S 27 (.loadN 2 (T 5)) (.some (26, .true))), (S 28 (.call 15 [(T 27)]) (.some (26, .true))), (S 29 (.loadN 2 (T 5)) (.some (26, .true))), (S 30 (.call 10 [(T 29)]) (.some (26, .true))), (S 31 (.call 13 [(T 28), (T 30)]) (.some (26, .true))), (S 32 (.pick (T 26) (T 31) (.val (.bool .false))) .none), (M 6 32)] [N, N, Y, N, N, Y, (.false, [1]), Y, Y, N, N] 0) .ret) .skip)) (.seq (.draw [(S 33 (.loadN 3 (T 8)) .none), (S 34 (.fieldAddr 1 (T 3)) .none), (S 35 (.load1 (T 34)) .none), (S 36 (.fieldAddr 1 (T 4)) .none), (S 37 (.load1 (T 36)) .none), (S 38 (.bin .add (T 35) (T 37)) .none), (S 39 (.fieldAddr 2 (T 3)) .none), (S 40 (.load1 (T 39)) .none), (M 41 40), (S 42 (.fieldAddr 2 (T 4)) (.some (41, .false))), (S 43 (.load1 (T 42)) (.some (41, .false))), (S 44 (.pick (T 41) (.val (.bool .true)) (T 43)) .none), (S 45 (.build [(Z 0), (Z 0), (.bool .false)] [(1, (1, (T 38))), (2, (1, (T 44)))]) .none), (S 46 (.call 13 [(T 33), (T 45)]) .none), (M 47 46), (S 48 (.loadN 2 (T 5)) (.some (47, .true))), (S 49 (.call 15 [(T 48)]) (.some (47, .true))), (S 50 (.loadN 2 (T 5)) (.some (47, .true))), (S 51 (.call 10 [(T 50)]) (.some (47, .true))), (S 52 (.call 13 [(T 49), (T 51)]) (.some (47, .true))), (S 53 (.pick (T 47) (T 52) (.val (.bool .false))) .none), (M 6 53)] [N, N, N, N, N, N, N, N, N, N, N, N, N, Y, N, N, Y, (.false, [1]), Y, Y, N, N] 0) .ret)))))))
abbrev f4.Js : Type := ((AVal → AVal → AVal → AHeap → Rs) × (AVal → AVal → AVal → AVal → AHeap → Rs))
noncomputable def f4.b0 (I : Inp) (call : CallFn) (j : f4.Js) (v3 v4 v5 : AVal) (h : AHeap) : Rs :=
  bndP (pLoadN I 3 v3 h) fun v12 =>
  bndP (pLoadN I 3 v4 h) fun v13 =>
  bnd (call 14 [v12, v13] h) fun v14 h1 =>
  bnd (sAlloc [(Z 0), (Z 0), (.bool .false)] h1) fun v8 h2 =>
  bnd (sStore 3 v8 v14 h2) fun _ h3 =>
  bndP (pFieldAddr 0 v3) fun v15 =>
  bndP (pLoad1 I v15 h3) fun v16 =>
  bndP (pBin .neq v16 (Z 0)) fun v17 =>
  bnd (sGuard v17 .false (lift (pFieldAddr 0 v4) h3) h3) fun v19 h4 =>
  bnd (sGuard v17 .false (lift (pLoad1 I v19 h4) h4) h4) fun v20 h5 =>
  bnd (sGuard v17 .false (lift (pBin .neq v20 (Z 0)) h5) h5) fun v21 h6 =>
  bndP (pPick v17 (.bool .true) v21) fun v22 =>
  sCond v22 (
  j.2 v3 v4 v5 v8 h6) (
  bndP (pLoadN I 3 v8 h6) fun v23 =>
  bndP (pBuild [(Z 0), (Z 0), (.bool .false)] []) fun v24 =>
  bnd (call 13 [v23, v24] h6) fun v25 h7 =>
  bnd (sGuard v25 .true (lift (pLoadN I 2 v5 h7) h7) h7) fun v27 h8 =>
  bnd (sGuard v25 .true (call 15 [v27] h8) h8) fun v28 h9 =>
  bnd (sGuard v25 .true (lift (pLoadN I 2 v5 h9) h9) h9) fun v29 h10 =>
  bnd (sGuard v25 .true (call 10 [v29] h10) h10) fun v30 h11 =>
  bnd (sGuard v25 .true (call 13 [v28, v30] h11) h11) fun v31 h12 =>
  bndP (pPick v25 v31 (.bool .false)) fun v32 =>
  sCheck (sSame (sGuard v25 .true (lift (pLoadN I 2 v5 h7) h7) h7) v29 && true) (
  some (v32, h12)))
noncomputable def f4.b1 (I : Inp) (call : CallFn) (j : f4.Js) (v3 v4 v5 v8 : AVal) (h : AHeap) : Rs :=
  bndP (pLoadN I 3 v8 h) fun v33 =>
  bndP (pFieldAddr 1 v3) fun v34 =>
  bndP (pLoad1 I v34 h) fun v35 =>
  bndP (pFieldAddr 1 v4) fun v36 =>
  bndP (pLoad1 I v36 h) fun v37 =>
  bndP (pBin .add v35 v37) fun v38 =>
  bndP (pFieldAddr 2 v3) fun v39 =>
  bndP (pLoad1 I v39 h) fun v40 =>
  bnd (sGuard v40 .false (lift (pFieldAddr 2 v4) h) h) fun v42 h1 =>
  bnd (sGuard v40 .false (lift (pLoad1 I v42 h1) h1) h1) fun v43 h2 =>
  bndP (pPick v40 (.bool .true) v43) fun v44 =>
  bndP (pBuild [(Z 0), (Z 0), (.bool .false)] [(1, 1, v38), (2, 1, v44)]) fun v45 =>
  bnd (call 13 [v33, v45] h2) fun v46 h3 =>
  bnd (sGuard v46 .true (lift (pLoadN I 2 v5 h3) h3) h3) fun v48 h4 =>
  bnd (sGuard v46 .true (call 15 [v48] h4) h4) fun v49 h5 =>
  bnd (sGuard v46 .true (lift (pLoadN I 2 v5 h5) h5) h5) fun v50 h6 =>
  bnd (sGuard v46 .true (call 10 [v50] h6) h6) fun v51 h7 =>
  bnd (sGuard v46 .true (call 13 [v49, v51] h7) h7) fun v52 h8 =>
  bndP (pPick v46 v52 (.bool .false)) fun v53 =>
  sCheck (sSame (sGuard v46 .true (lift (pLoadN I 2 v5 h3) h3) h3) v50 && true) (
  some (v53, h8))
noncomputable def f4.e (I : Inp) (call : CallFn) (j : f4.Js) (v0 v1 v2 : AVal) (h : AHeap) : Rs :=
  bnd (sBox v0 h) fun v3 h1 =>
  bnd (sBox v1 h1) fun v4 h2 =>
  bnd (sBox v2 h2) fun v5 h3 =>
  bnd (call 7 [] h3) fun v9 h4 =>
  bndP (pUn .not v9) fun v11 =>
  sCond v11 (
  j.1 v3 v4 v5 h4) (
  some ((.bool .false), h4))
noncomputable def f4.J (I : Inp) (call : CallFn) (n : Nat) : f4.Js :=
  Nat.rec (motive := fun _ => f4.Js) ((fun _ _ _ _ => none), (fun _ _ _ _ _ => none)) (fun _ ih => (f4.b0 I call ih, f4.b1 I call ih)) n
theorem f4.Jn (I : Inp) (call : CallFn) (n : Nat) : f4.J I call (n + 1) = (f4.b0 I call (f4.J I call n), f4.b1 I call (f4.J I call n)) := rfl
noncomputable def f4.JS (I : Inp) (call : CallFn) (n : Nat) : Jmp := fun id ρ h =>
  (Bool.rec (motive := fun _ => _) ((f4.J I call n).2 (ρ 3) (ρ 4) (ρ 5) (ρ 8) h) ((f4.J I call n).1 (ρ 3) (ρ 4) (ρ 5) h) (Nat.blt id 1))
theorem f4.z0 (I : Inp) (call : CallFn) (ρ : Fun) (h : AHeap) : f4.JS I call 0 0 ρ h = none := rfl
theorem f4.z1 (I : Inp) (call : CallFn) (ρ : Fun) (h : AHeap) : f4.JS I call 0 1 ρ h = none := rfl
theorem f4.q0 (I : Inp) (call : CallFn) (n : Nat) (ρ : Fun) (h : AHeap) : f4.JS I call (n + 1) 0 ρ h = labC P I call (f4.JS I call n) c4.body 0 (finV I c4.results) 0 ρ h := by kernel_rfl
theorem f4.q1 (I : Inp) (call : CallFn) (n : Nat) (ρ : Fun) (h : AHeap) : f4.JS I call (n + 1) 1 ρ h = labC P I call (f4.JS I call n) c4.body 0 (finV I c4.results) 1 ρ h := by kernel_rfl
theorem f4.S (I : Inp) (F : Nat → Option AFn) (call : CallFn) : SFn ⟨P, I, F⟩ call c4 (f4.JS I call) :=
  ⟨fun id hid ρ h => by
    have hc : c4.body.cnt = 2 := by kernel_rfl
    rw [hc] at hid
    exact match id, hid with
    | 0, _ => f4.z0 I call ρ h
    | 1, _ => f4.z1 I call ρ h
    | id + 2, hid => absurd hid (by omega), fun n id hid ρ h => by
    have hc : c4.body.cnt = 2 := by kernel_rfl
    rw [hc] at hid
    exact match id, hid with
    | 0, _ => f4.q0 I call n ρ h
    | 1, _ => f4.q1 I call n ρ h
    | id + 2, hid => absurd hid (by omega)⟩
noncomputable def f4.run (I : Inp) : SF := fun call n a h =>
  match a with
  | [v0, v1, v2] => f4.e I call (f4.J I call n) v0 v1 v2 h
  | _ => none
theorem f4.qe (I : Inp) (call : CallFn) (n : Nat) (v0 v1 v2 : AVal) (h : AHeap) : f4.e I call (f4.J I call n) v0 v1 v2 h = execC P I call (f4.JS I call n) c4.body 0 (finV I c4.results) (argV [v0, v1, v2]) h := by kernel_rfl
theorem f4.code : codeOf P 4 = some c4 := by kernel_rfl
theorem f4.ok (I : Inp) (F : Nat → Option AFn) (hF : F 4 = some (.code c4)) : SfOk P I F 4 (f4.run I) := by
  intro call hc n args h r hr
  unfold f4.run at hr
  split at hr
  · exact fn_sound (C := ⟨P, I, F⟩) (n := n) hc hF (Nat.le_of_ble_eq_true (by kernel_rfl)) (by kernel_rfl) (f4.S I F call) (by kernel_rfl) ((f4.qe I call n _ _ _ h).symm.trans hr)
  · cases hr
theorem f4.qr (I : Inp) (call : CallFn) (n : Nat) (v0 v1 v2 : AVal) (h : AHeap) : f4.run I call n [v0, v1, v2] h = f4.e I call (f4.J I call n) v0 v1 v2 h := by kernel_rfl
theorem f4.lim {I : Inp} {prims : Nat → Option Prim} (hp : prims 4 = none) {n : Nat} {v0 v1 v2 : AVal} {h : AHeap} {Q : AVal → AHeap → Prop} (hr : Res (f4.e I (AM.lim ⟨P, I, genF P prims⟩) (f4.J I (AM.lim ⟨P, I, genF P prims⟩) n) v0 v1 v2 h) Q) :
    Res (AM.lim ⟨P, I, genF P prims⟩ 4 [v0, v1, v2] h) Q := by
  obtain ⟨v, h', e, q⟩ := hr
  exact ⟨v, h', lim_sf (C := ⟨P, I, genF P prims⟩) (n := n) (f4.ok I (genF P prims) (genF_code hp f4.code)) ((f4.qr I _ n v0 v1 v2 h).trans e), q⟩
/-! haruspex/haruspexlaw13.HeapFull -/
noncomputable def c5 : AFunc := (AFunc.mk 45 1 [(.tmp 2)] (.seq (.region [(S 2 (.move (.val (.bool .false))) .none)]) (.seq (.region [(S 7 (.call 7 []) .none), (M 3 7)]) (.seq (.seq (.region [(M 8 3), (S 9 (.un .not (T 8)) .none)]) (.cond (T 9) (.seq (.region [(S 2 (.move (.val (.bool .false))) .none)]) .ret) .skip)) (.seq (.seq (.region [(M 10 0), (S 11 (.bin .lss (T 10) (V 0)) .none), (M 12 11), (S 13 (.move (T 0)) (.some (12, .false))), (S 14 (.bin .gtr (T 13) (V 450)) (.some (12, .false))), (S 15 (.pick (T 12) (.val (.bool .true)) (T 14)) .none)]) (.cond (T 15) (.seq (.region [(S 2 (.move (.val (.bool .true))) .none)]) .ret) .skip)) (.seq (.region [(S 16 (.call 8 []) .none), (M 4 16)]) (.seq (.seq (.region [(S 5 (.move (V 1)) .none)]) (.block 0 (.loop (.seq (.seq (.region [(M 17 5), (M 18 0), (S 19 (.bin .leq (T 17) (T 18)) .none)]) (.cond (T 19) .skip (.exit 0))) (.seq (.block 1 (.seq (.region [(M 22 4), (M 23 5), (S 24 (.call 9 [(T 22), (T 23), (.val .nils)]) .none), (M 6 24)]) (.seq (.region [(M 25 5), (S 26 (.bin .leq (T 25) (V 400)) .none), (M 27 26), (S 28 (.move (T 6)) (.some (27, .true))), (S 29 (.move (T 5)) (.some (27, .true))), (S 30 (.bin .neq (T 28) (T 29)) (.some (27, .true))), (S 31 (.pick (T 27) (T 30) (.val (.bool .false))) .none), (M 32 31), (S 33 (.move (T 5)) (.some (32, .false))), (S 34 (.bin .gtr (T 33) (V 400)) (.some (32, .false))), (S 35 (.move (T 34)) (.some (32, .false))), (S 36 (.move (T 6)) (.some (35, .true))), (S 37 (.bin .neq (T 36) (V 0)) (.some (35, .true))), (S 38 (.pick (T 35) (T 37) (.val (.bool .false))) (.some (32, .false))), (S 39 (.pick (T 32) (.val (.bool .true)) (T 38)) .none)]) (.cond (T 39) (.seq (.region [(S 2 (.move (.val (.bool .false))) .none)]) .ret) .skip)))) (.region [(M 20 5), (S 21 (.bin .add (T 20) (V 1)) .none), (M 5 21)])))))) (.seq (.region [(M 40 4), (S 41 (.call 16 [(T 40)]) .none), (M 42 0), (S 43 (.minmax .false [(T 42), (V 400)]) .none), (S 44 (.bin .eql (T 41) (T 43)) .none), (M 2 44)]) .ret))))))))
abbrev f5.Js : Type := (((AVal → AHeap → Rs) × ((AVal → AHeap → Rs) × (AVal → AVal → AHeap → Rs))) × ((AVal → AVal → AVal → AHeap → Rs) × ((AVal → AVal → AVal → AHeap → Rs) × (AVal → AVal → AVal → AHeap → Rs))))
noncomputable def f5.b0 (I : Inp) (call : CallFn) (j : f5.Js) (v0 : AVal) (h : AHeap) : Rs :=
  bndP (pBin .lss v0 (Z 0)) fun v11 =>
  bnd (sGuard v11 .false (some (v0, h)) h) fun v13 h1 =>
  bnd (sGuard v11 .false (lift (pBin .gtr v13 (Z 450)) h1) h1) fun v14 h2 =>
  bndP (pPick v11 (.bool .true) v14) fun v15 =>
  sCond v15 (
  j.1.2.1 v0 h2) (
  some ((.bool .true), h2))
noncomputable def f5.b1 (I : Inp) (call : CallFn) (j : f5.Js) (v0 : AVal) (h : AHeap) : Rs :=
  bnd (call 8 [] h) fun v16 h1 =>
  j.2.1 v0 v16 (Z 1) h1
noncomputable def f5.b2 (I : Inp) (call : CallFn) (j : f5.Js) (v0 v4 : AVal) (h : AHeap) : Rs :=
  bnd (call 16 [v4] h) fun v41 h1 =>
  bndP (pMinmax .false [v0, (Z 400)]) fun v43 =>
  bndP (pBin .eql v41 v43) fun v44 =>
  some (v44, h1)
noncomputable def f5.b3 (I : Inp) (call : CallFn) (j : f5.Js) (v0 v4 v5 : AVal) (h : AHeap) : Rs :=
  bndP (pBin .leq v5 v0) fun v19 =>
  sCond v19 (
  j.1.2.2 v0 v4 h) (
  j.2.2.1 v0 v4 v5 h)
noncomputable def f5.b4 (I : Inp) (call : CallFn) (j : f5.Js) (v0 v4 v5 : AVal) (h : AHeap) : Rs :=
  bnd (call 9 [v4, v5, .nils] h) fun v24 h1 =>
  bndP (pBin .leq v5 (Z 400)) fun v26 =>
  bnd (sGuard v26 .true (some (v24, h1)) h1) fun v28 h2 =>
  bnd (sGuard v26 .true (some (v5, h2)) h2) fun v29 h3 =>
  bnd (sGuard v26 .true (lift (pBin .neq v28 v29) h3) h3) fun v30 h4 =>
  bndP (pPick v26 v30 (.bool .false)) fun v31 =>
  bnd (sGuard v31 .false (some (v5, h4)) h4) fun v33 h5 =>
  bnd (sGuard v31 .false (lift (pBin .gtr v33 (Z 400)) h5) h5) fun v34 h6 =>
  bnd (sGuard v31 .false (some (v34, h6)) h6) fun v35 h7 =>
  bnd (sGuard v35 .true (some (v24, h7)) h7) fun v36 h8 =>
  bnd (sGuard v35 .true (lift (pBin .neq v36 (Z 0)) h8) h8) fun v37 h9 =>
  bnd (sGuard v31 .false (lift (pPick v35 v37 (.bool .false)) h9) h9) fun v38 h10 =>
  bndP (pPick v31 (.bool .true) v38) fun v39 =>
  sCond v39 (
  j.2.2.2 v0 v4 v5 h10) (
  some ((.bool .false), h10))
noncomputable def f5.b5 (I : Inp) (call : CallFn) (j : f5.Js) (v0 v4 v5 : AVal) (h : AHeap) : Rs :=
  bndP (pBin .add v5 (Z 1)) fun v21 =>
  j.2.1 v0 v4 v21 h
noncomputable def f5.e (I : Inp) (call : CallFn) (j : f5.Js) (v0 : AVal) (h : AHeap) : Rs :=
  bnd (call 7 [] h) fun v7 h1 =>
  bndP (pUn .not v7) fun v9 =>
  sCond v9 (
  j.1.1 v0 h1) (
  some ((.bool .false), h1))
noncomputable def f5.J (I : Inp) (call : CallFn) (n : Nat) : f5.Js :=
  Nat.rec (motive := fun _ => f5.Js) (((fun _ _ => none), ((fun _ _ => none), (fun _ _ _ => none))), ((fun _ _ _ _ => none), ((fun _ _ _ _ => none), (fun _ _ _ _ => none)))) (fun _ ih => ((f5.b0 I call ih, (f5.b1 I call ih, f5.b2 I call ih)), (f5.b3 I call ih, (f5.b4 I call ih, f5.b5 I call ih)))) n
theorem f5.Jn (I : Inp) (call : CallFn) (n : Nat) : f5.J I call (n + 1) = ((f5.b0 I call (f5.J I call n), (f5.b1 I call (f5.J I call n), f5.b2 I call (f5.J I call n))), (f5.b3 I call (f5.J I call n), (f5.b4 I call (f5.J I call n), f5.b5 I call (f5.J I call n)))) := rfl
noncomputable def f5.JS (I : Inp) (call : CallFn) (n : Nat) : Jmp := fun id ρ h =>
  (Bool.rec (motive := fun _ => _) (Bool.rec (motive := fun _ => _) (Bool.rec (motive := fun _ => _) ((f5.J I call n).2.2.2 (ρ 0) (ρ 4) (ρ 5) h) ((f5.J I call n).2.2.1 (ρ 0) (ρ 4) (ρ 5) h) (Nat.blt id 5)) ((f5.J I call n).2.1 (ρ 0) (ρ 4) (ρ 5) h) (Nat.blt id 4)) (Bool.rec (motive := fun _ => _) (Bool.rec (motive := fun _ => _) ((f5.J I call n).1.2.2 (ρ 0) (ρ 4) h) ((f5.J I call n).1.2.1 (ρ 0) h) (Nat.blt id 2)) ((f5.J I call n).1.1 (ρ 0) h) (Nat.blt id 1)) (Nat.blt id 3))
theorem f5.z0 (I : Inp) (call : CallFn) (ρ : Fun) (h : AHeap) : f5.JS I call 0 0 ρ h = none := rfl
theorem f5.z1 (I : Inp) (call : CallFn) (ρ : Fun) (h : AHeap) : f5.JS I call 0 1 ρ h = none := rfl
theorem f5.z2 (I : Inp) (call : CallFn) (ρ : Fun) (h : AHeap) : f5.JS I call 0 2 ρ h = none := rfl
theorem f5.z3 (I : Inp) (call : CallFn) (ρ : Fun) (h : AHeap) : f5.JS I call 0 3 ρ h = none := rfl
theorem f5.z4 (I : Inp) (call : CallFn) (ρ : Fun) (h : AHeap) : f5.JS I call 0 4 ρ h = none := rfl
theorem f5.z5 (I : Inp) (call : CallFn) (ρ : Fun) (h : AHeap) : f5.JS I call 0 5 ρ h = none := rfl
theorem f5.q0 (I : Inp) (call : CallFn) (n : Nat) (ρ : Fun) (h : AHeap) : f5.JS I call (n + 1) 0 ρ h = labC P I call (f5.JS I call n) c5.body 0 (finV I c5.results) 0 ρ h := by kernel_rfl
theorem f5.q1 (I : Inp) (call : CallFn) (n : Nat) (ρ : Fun) (h : AHeap) : f5.JS I call (n + 1) 1 ρ h = labC P I call (f5.JS I call n) c5.body 0 (finV I c5.results) 1 ρ h := by kernel_rfl
theorem f5.q2 (I : Inp) (call : CallFn) (n : Nat) (ρ : Fun) (h : AHeap) : f5.JS I call (n + 1) 2 ρ h = labC P I call (f5.JS I call n) c5.body 0 (finV I c5.results) 2 ρ h := by kernel_rfl
theorem f5.q3 (I : Inp) (call : CallFn) (n : Nat) (ρ : Fun) (h : AHeap) : f5.JS I call (n + 1) 3 ρ h = labC P I call (f5.JS I call n) c5.body 0 (finV I c5.results) 3 ρ h := by kernel_rfl
theorem f5.q4 (I : Inp) (call : CallFn) (n : Nat) (ρ : Fun) (h : AHeap) : f5.JS I call (n + 1) 4 ρ h = labC P I call (f5.JS I call n) c5.body 0 (finV I c5.results) 4 ρ h := by kernel_rfl
theorem f5.q5 (I : Inp) (call : CallFn) (n : Nat) (ρ : Fun) (h : AHeap) : f5.JS I call (n + 1) 5 ρ h = labC P I call (f5.JS I call n) c5.body 0 (finV I c5.results) 5 ρ h := by kernel_rfl
theorem f5.S (I : Inp) (F : Nat → Option AFn) (call : CallFn) : SFn ⟨P, I, F⟩ call c5 (f5.JS I call) :=
  ⟨fun id hid ρ h => by
    have hc : c5.body.cnt = 6 := by kernel_rfl
    rw [hc] at hid
    exact match id, hid with
    | 0, _ => f5.z0 I call ρ h
    | 1, _ => f5.z1 I call ρ h
    | 2, _ => f5.z2 I call ρ h
    | 3, _ => f5.z3 I call ρ h
    | 4, _ => f5.z4 I call ρ h
    | 5, _ => f5.z5 I call ρ h
    | id + 6, hid => absurd hid (by omega), fun n id hid ρ h => by
    have hc : c5.body.cnt = 6 := by kernel_rfl
    rw [hc] at hid
    exact match id, hid with
    | 0, _ => f5.q0 I call n ρ h
    | 1, _ => f5.q1 I call n ρ h
    | 2, _ => f5.q2 I call n ρ h
    | 3, _ => f5.q3 I call n ρ h
    | 4, _ => f5.q4 I call n ρ h
    | 5, _ => f5.q5 I call n ρ h
    | id + 6, hid => absurd hid (by omega)⟩
noncomputable def f5.run (I : Inp) : SF := fun call n a h =>
  match a with
  | [v0] => f5.e I call (f5.J I call n) v0 h
  | _ => none
theorem f5.qe (I : Inp) (call : CallFn) (n : Nat) (v0 : AVal) (h : AHeap) : f5.e I call (f5.J I call n) v0 h = execC P I call (f5.JS I call n) c5.body 0 (finV I c5.results) (argV [v0]) h := by kernel_rfl
theorem f5.code : codeOf P 5 = some c5 := by kernel_rfl
theorem f5.ok (I : Inp) (F : Nat → Option AFn) (hF : F 5 = some (.code c5)) : SfOk P I F 5 (f5.run I) := by
  intro call hc n args h r hr
  unfold f5.run at hr
  split at hr
  · exact fn_sound (C := ⟨P, I, F⟩) (n := n) hc hF (Nat.le_of_ble_eq_true (by kernel_rfl)) (by kernel_rfl) (f5.S I F call) (by kernel_rfl) ((f5.qe I call n _ h).symm.trans hr)
  · cases hr
theorem f5.qr (I : Inp) (call : CallFn) (n : Nat) (v0 : AVal) (h : AHeap) : f5.run I call n [v0] h = f5.e I call (f5.J I call n) v0 h := by kernel_rfl
theorem f5.lim {I : Inp} {prims : Nat → Option Prim} (hp : prims 5 = none) {n : Nat} {v0 : AVal} {h : AHeap} {Q : AVal → AHeap → Prop} (hr : Res (f5.e I (AM.lim ⟨P, I, genF P prims⟩) (f5.J I (AM.lim ⟨P, I, genF P prims⟩) n) v0 h) Q) :
    Res (AM.lim ⟨P, I, genF P prims⟩ 5 [v0] h) Q := by
  obtain ⟨v, h', e, q⟩ := hr
  exact ⟨v, h', lim_sf (C := ⟨P, I, genF P prims⟩) (n := n) (f5.ok I (genF P prims) (genF_code hp f5.code)) ((f5.qr I _ n v0 h).trans e), q⟩
/-! haruspex/haruspexlaw13.begun -/
noncomputable def c7 : AFunc := (AFunc.mk 87 0 [(.tmp 0)] (.seq (.region [(S 0 (.move (.val (.bool .false))) .none)]) (.seq (.region [(S 11 (.call 8 []) .none), (M 1 11)]) (.seq (.seq (.region [(M 12 1), (S 13 (.eq .false .ptr .true (T 12) (.val .nilp)) .none)]) (.cond (T 13) (.seq (.region [(S 0 (.move (.val (.bool .false))) .none)]) .ret) .skip)) (.seq (.region [(M 14 1), (S 15 (.build [(Z 0), (Z 0)] []) .none), (S 16 (.build [(Z 0), (Z 0)] [(0, (1, (V 1)))]) .none), (S 17 (.buildSlice [(Z 0), (Z 0)] 2 [(0, (2, (T 15))), (2, (2, (T 16)))]) .none), (S 18 (.call 9 [(T 14), (V 7), (T 17)]) .none), (M 2 18)]) (.seq (.region [(M 20 1), (M 21 2), (S 22 (.call 12 [(T 20), (T 21), (V 1)]) .none), (M 19 22), (S 23 (.extract (T 19) 0) .none), (S 24 (.extract (T 19) 1) .none), (S 3 (.alloc [(Z 0), (Z 0), (.bool .false)]) .none), (AOper.mk .none (.store 3 (T 3) (T 23)) .none), (M 4 24)]) (.seq (.region [(M 25 1), (M 26 2), (S 27 (.build [(Z 0), (Z 0), (.bool .false)] [(1, (1, (V 5))), (2, (1, (.val (.bool .true))))]) .none), (S 28 (.call 11 [(T 25), (T 26), (V 0), (T 27)]) .none), (M 5 28)]) (.seq (.region [(M 30 1), (M 31 2), (S 32 (.call 12 [(T 30), (T 31), (V 0)]) .none), (M 29 32), (S 33 (.extract (T 29) 0) .none), (S 34 (.extract (T 29) 1) .none), (S 6 (.alloc [(Z 0), (Z 0), (.bool .false)]) .none), (AOper.mk .none (.store 3 (T 6) (T 33)) .none), (M 7 34)]) (.seq (.region [(M 35 1), (M 36 2), (S 37 (.call 17 [(T 35), (T 36)]) .none), (M 8 37)]) (.seq (.region [(M 39 1), (M 40 2), (S 41 (.call 12 [(T 39), (T 40), (V 0)]) .none), (M 38 41), (S 42 (.extract (T 38) 0) .none), (S 43 (.extract (T 38) 1) .none), (S 9 (.alloc [(Z 0), (Z 0), (.bool .false)]) .none), (AOper.mk .none (.store 3 (T 9) (T 42)) .none), (M 10 43)]) (.seq (.region [(M 44 2), (S 45 (.bin .eql (T 44) (V 1)) .none), (M 46 45), (S 47 (.fieldAddr 0 (T 3)) (.some (46, .true))), (S 48 (.load1 (T 47)) (.some (46, .true))), (S 49 (.bin .eql (T 48) (V 1)) (.some (46, .true))), (S 50 (.pick (T 46) (T 49) (.val (.bool .false))) .none), (M 51 50), (S 52 (.move (T 4)) (.some (51, .true))), (S 53 (.bin .eql (T 52) (V 0)) (.some (51, .true))), (S 54 (.pick (T 51) (T 53) (.val (.bool .false))) .none), (M 55 54), (S 56 (.move (T 5)) (.some (55, .true))), (S 57 (.bin .eql (T 56) (V 0)) (.some (55, .true))), (S 58 (.pick (T 55) (T 57) (.val (.bool .false))) .none), (M 59 58), (S 60 (.fieldAddr 1 (T 6)) (.some (59, .true))), (S 61 (.load1 (T 60)) (.some (59, .true))), (S 62 (.bin .eql (T 61) (V 5)) (.some (59, .true))), (S 63 (.pick (T 59) (T 62) (.val (.bool .false))) .none), (M 64 63), (S 65 (.fieldAddr 2 (T 6)) (.some (64, .true))), (S 66 (.load1 (T 65)) (.some (64, .true))), (S 67 (.pick (T 64) (T 66) (.val (.bool .false))) .none), (M 68 67), (S 69 (.move (T 8)) (.some (68, .true))), (S 70 (.bin .eql (T 69) (V 0)) (.some (68, .true))), (S 71 (.pick (T 68) (T 70) (.val (.bool .false))) .none), (M 72 71), (S 73 (.move (T 10)) (.some (72, .true))), (S 74 (.bin .eql (T 73) (V 2)) (.some (72, .true))), (S 75 (.pick (T 72) (T 74) (.val (.bool .false))) .none), (M 76 75), (S 77 (.move (T 1)) (.some (76, .true))), (S 78 (.move (T 2)) (.some (76, .true))), (S 79 (.call 18 [(T 77), (T 78)]) (.some (76, .true))), (S 80 (.bin .eql (T 79) (V 7)) (.some (76, .true))), (S 81 (.pick (T 76) (T 80) (.val (.bool .false))) .none), (M 82 81), (S 83 (.move (T 1)) (.some (82, .true))), (S 84 (.move (T 2)) (.some (82, .true))), (S 85 (.call 19 [(T 83), (T 84)]) (.some (82, .true))), (S 86 (.pick (T 82) (T 85) (.val (.bool .false))) .none), (M 0 86)]) .ret)))))))))))
abbrev f7.Js : Type := (AVal → AHeap → Rs)
noncomputable def f7.b0 (I : Inp) (call : CallFn) (j : f7.Js) (v1 : AVal) (h : AHeap) : Rs :=
  bndP (pBuild [(Z 0), (Z 0)] []) fun v15 =>
  bndP (pBuild [(Z 0), (Z 0)] [(0, 1, (Z 1))]) fun v16 =>
  bnd (sBuildSlice [(Z 0), (Z 0)] 2 [(0, 2, v15), (2, 2, v16)] h) fun v17 h1 =>
  bnd (call 9 [v1, (Z 7), v17] h1) fun v18 h2 =>
  bnd (call 12 [v1, v18, (Z 1)] h2) fun v22 h3 =>
  bndP (pExtract v22 0) fun v23 =>
  bndP (pExtract v22 1) fun v24 =>
  bnd (sAlloc [(Z 0), (Z 0), (.bool .false)] h3) fun v3 h4 =>
  bnd (sStore 3 v3 v23 h4) fun _ h5 =>
  bndP (pBuild [(Z 0), (Z 0), (.bool .false)] [(1, 1, (Z 5)), (2, 1, (.bool .true))]) fun v27 =>
  bnd (call 11 [v1, v18, (Z 0), v27] h5) fun v28 h6 =>
  bnd (call 12 [v1, v18, (Z 0)] h6) fun v32 h7 =>
  bndP (pExtract v32 0) fun v33 =>
  bndP (pExtract v32 1) fun v34 =>
  bnd (sAlloc [(Z 0), (Z 0), (.bool .false)] h7) fun v6 h8 =>
  bnd (sStore 3 v6 v33 h8) fun _ h9 =>
  bnd (call 17 [v1, v18] h9) fun v37 h10 =>
  bnd (call 12 [v1, v18, (Z 0)] h10) fun v41 h11 =>
  bndP (pExtract v41 0) fun v42 =>
  bndP (pExtract v41 1) fun v43 =>
  bnd (sAlloc [(Z 0), (Z 0), (.bool .false)] h11) fun v9 h12 =>
  bnd (sStore 3 v9 v42 h12) fun _ h13 =>
  bndP (pBin .eql v18 (Z 1)) fun v45 =>
  bnd (sGuard v45 .true (lift (pFieldAddr 0 v3) h13) h13) fun v47 h14 =>
  bnd (sGuard v45 .true (lift (pLoad1 I v47 h14) h14) h14) fun v48 h15 =>
  bnd (sGuard v45 .true (lift (pBin .eql v48 (Z 1)) h15) h15) fun v49 h16 =>
  bndP (pPick v45 v49 (.bool .false)) fun v50 =>
  bnd (sGuard v50 .true (some (v24, h16)) h16) fun v52 h17 =>
  bnd (sGuard v50 .true (lift (pBin .eql v52 (Z 0)) h17) h17) fun v53 h18 =>
  bndP (pPick v50 v53 (.bool .false)) fun v54 =>
  bnd (sGuard v54 .true (some (v28, h18)) h18) fun v56 h19 =>
  bnd (sGuard v54 .true (lift (pBin .eql v56 (Z 0)) h19) h19) fun v57 h20 =>
  bndP (pPick v54 v57 (.bool .false)) fun v58 =>
  bnd (sGuard v58 .true (lift (pFieldAddr 1 v6) h20) h20) fun v60 h21 =>
  bnd (sGuard v58 .true (lift (pLoad1 I v60 h21) h21) h21) fun v61 h22 =>
  bnd (sGuard v58 .true (lift (pBin .eql v61 (Z 5)) h22) h22) fun v62 h23 =>
  bndP (pPick v58 v62 (.bool .false)) fun v63 =>
  bnd (sGuard v63 .true (lift (pFieldAddr 2 v6) h23) h23) fun v65 h24 =>
  bnd (sGuard v63 .true (lift (pLoad1 I v65 h24) h24) h24) fun v66 h25 =>
  bndP (pPick v63 v66 (.bool .false)) fun v67 =>
  bnd (sGuard v67 .true (some (v37, h25)) h25) fun v69 h26 =>
  bnd (sGuard v67 .true (lift (pBin .eql v69 (Z 0)) h26) h26) fun v70 h27 =>
  bndP (pPick v67 v70 (.bool .false)) fun v71 =>
  bnd (sGuard v71 .true (some (v43, h27)) h27) fun v73 h28 =>
  bnd (sGuard v71 .true (lift (pBin .eql v73 (Z 2)) h28) h28) fun v74 h29 =>
  bndP (pPick v71 v74 (.bool .false)) fun v75 =>
  bnd (sGuard v75 .true (some (v1, h29)) h29) fun v77 h30 =>
  bnd (sGuard v75 .true (some (v18, h30)) h30) fun v78 h31 =>
  bnd (sGuard v75 .true (call 18 [v77, v78] h31) h31) fun v79 h32 =>
  bnd (sGuard v75 .true (lift (pBin .eql v79 (Z 7)) h32) h32) fun v80 h33 =>
  bndP (pPick v75 v80 (.bool .false)) fun v81 =>
  bnd (sGuard v81 .true (some (v1, h33)) h33) fun v83 h34 =>
  bnd (sGuard v81 .true (some (v18, h34)) h34) fun v84 h35 =>
  bnd (sGuard v81 .true (call 19 [v83, v84] h35) h35) fun v85 h36 =>
  bndP (pPick v81 v85 (.bool .false)) fun v86 =>
  some (v86, h36)
noncomputable def f7.e (I : Inp) (call : CallFn) (j : f7.Js) (h : AHeap) : Rs :=
  bnd (call 8 [] h) fun v11 h1 =>
  bndP (pEq P .false .ptr .true v11 .nilp h1) fun v13 =>
  sCond v13 (
  j v11 h1) (
  some ((.bool .false), h1))
noncomputable def f7.J (I : Inp) (call : CallFn) (n : Nat) : f7.Js :=
  Nat.rec (motive := fun _ => f7.Js) (fun _ _ => none) (fun _ ih => f7.b0 I call ih) n
theorem f7.Jn (I : Inp) (call : CallFn) (n : Nat) : f7.J I call (n + 1) = f7.b0 I call (f7.J I call n) := rfl
noncomputable def f7.JS (I : Inp) (call : CallFn) (n : Nat) : Jmp := fun id ρ h =>
  ((f7.J I call n) (ρ 1) h)
theorem f7.z0 (I : Inp) (call : CallFn) (ρ : Fun) (h : AHeap) : f7.JS I call 0 0 ρ h = none := rfl
theorem f7.q0 (I : Inp) (call : CallFn) (n : Nat) (ρ : Fun) (h : AHeap) : f7.JS I call (n + 1) 0 ρ h = labC P I call (f7.JS I call n) c7.body 0 (finV I c7.results) 0 ρ h := by kernel_rfl
theorem f7.S (I : Inp) (F : Nat → Option AFn) (call : CallFn) : SFn ⟨P, I, F⟩ call c7 (f7.JS I call) :=
  ⟨fun id hid ρ h => by
    have hc : c7.body.cnt = 1 := by kernel_rfl
    rw [hc] at hid
    exact match id, hid with
    | 0, _ => f7.z0 I call ρ h
    | id + 1, hid => absurd hid (by omega), fun n id hid ρ h => by
    have hc : c7.body.cnt = 1 := by kernel_rfl
    rw [hc] at hid
    exact match id, hid with
    | 0, _ => f7.q0 I call n ρ h
    | id + 1, hid => absurd hid (by omega)⟩
noncomputable def f7.run (I : Inp) : SF := fun call n a h =>
  match a with
  | [] => f7.e I call (f7.J I call n) h
  | _ => none
theorem f7.qe (I : Inp) (call : CallFn) (n : Nat) (h : AHeap) : f7.e I call (f7.J I call n) h = execC P I call (f7.JS I call n) c7.body 0 (finV I c7.results) (argV []) h := by kernel_rfl
theorem f7.code : codeOf P 7 = some c7 := by kernel_rfl
theorem f7.ok (I : Inp) (F : Nat → Option AFn) (hF : F 7 = some (.code c7)) : SfOk P I F 7 (f7.run I) := by
  intro call hc n args h r hr
  unfold f7.run at hr
  split at hr
  · exact fn_sound (C := ⟨P, I, F⟩) (n := n) hc hF (Nat.le_of_ble_eq_true (by kernel_rfl)) (by kernel_rfl) (f7.S I F call) (by kernel_rfl) ((f7.qe I call n h).symm.trans hr)
  · cases hr
theorem f7.qr (I : Inp) (call : CallFn) (n : Nat) (h : AHeap) : f7.run I call n [] h = f7.e I call (f7.J I call n) h := by kernel_rfl
theorem f7.lim {I : Inp} {prims : Nat → Option Prim} (hp : prims 7 = none) {n : Nat} {h : AHeap} {Q : AVal → AHeap → Prop} (hr : Res (f7.e I (AM.lim ⟨P, I, genF P prims⟩) (f7.J I (AM.lim ⟨P, I, genF P prims⟩) n) h) Q) :
    Res (AM.lim ⟨P, I, genF P prims⟩ 7 [] h) Q := by
  obtain ⟨v, h', e, q⟩ := hr
  exact ⟨v, h', lim_sf (C := ⟨P, I, genF P prims⟩) (n := n) (f7.ok I (genF P prims) (genF_code hp f7.code)) ((f7.qr I _ n h).trans e), q⟩
/-! haruspex/value.New -/
noncomputable def c8 : AFunc := (AFunc.mk 3 0 [(.tmp 0)] (.seq (.region [(S 0 (.move (.val .nilp)) .none)]) (.seq (.region [(S 1 (.build [.nils] []) .none), (S 2 (.box (T 1)) .none), (M 0 2)]) .ret)))
abbrev f8.Js : Type := Unit
noncomputable def f8.e (I : Inp) (call : CallFn) (j : f8.Js) (h : AHeap) : Rs :=
  bndP (pBuild [.nils] []) fun v1 =>
  bnd (sBox v1 h) fun v2 h1 =>
  some (v2, h1)
theorem f8.S (I : Inp) (F : Nat → Option AFn) (call : CallFn) : SFn ⟨P, I, F⟩ call c8 (fun _ _ _ _ => none) :=
  ⟨fun _ _ _ _ => rfl, fun n id hid => absurd hid (by rw [show c8.body.cnt = 0 by kernel_rfl]; omega)⟩
noncomputable def f8.run (I : Inp) : SF := fun call n a h =>
  match a with
  | [] => f8.e I call () h
  | _ => none
theorem f8.qe (I : Inp) (call : CallFn) (n : Nat) (h : AHeap) : f8.e I call () h = execC P I call (fun _ _ _ => none) c8.body 0 (finV I c8.results) (argV []) h := by kernel_rfl
theorem f8.code : codeOf P 8 = some c8 := by kernel_rfl
theorem f8.ok (I : Inp) (F : Nat → Option AFn) (hF : F 8 = some (.code c8)) : SfOk P I F 8 (f8.run I) := by
  intro call hc n args h r hr
  unfold f8.run at hr
  split at hr
  · exact fn_sound (C := ⟨P, I, F⟩) (n := n) hc hF (Nat.le_of_ble_eq_true (by kernel_rfl)) (by kernel_rfl) (f8.S I F call) (by kernel_rfl) ((f8.qe I call n h).symm.trans hr)
  · cases hr
theorem f8.qr (I : Inp) (call : CallFn) (n : Nat) (h : AHeap) : f8.run I call n [] h = f8.e I call () h := by kernel_rfl
theorem f8.lim {I : Inp} {prims : Nat → Option Prim} (hp : prims 8 = none) {n : Nat} {h : AHeap} {Q : AVal → AHeap → Prop} (hr : Res (f8.e I (AM.lim ⟨P, I, genF P prims⟩) () h) Q) :
    Res (AM.lim ⟨P, I, genF P prims⟩ 8 [] h) Q := by
  obtain ⟨v, h', e, q⟩ := hr
  exact ⟨v, h', lim_sf (C := ⟨P, I, genF P prims⟩) (n := 0) (f8.ok I (genF P prims) (genF_code hp f8.code)) ((f8.qr I _ 0 h).trans e), q⟩
/-! (*haruspex/value.Heap).Alloc -/
noncomputable def c9 : AFunc := (AFunc.mk 56 3 [(.tmp 6)] (.seq (.region [(S 6 (.move (V 0)) .none)]) (.seq (.seq (.region [(M 10 0), (S 11 (.eq .false .ptr .true (T 10) (.val .nilp)) .none), (M 12 11), (S 13 (.move (T 0)) (.some (12, .false))), (S 14 (.nilCheck (T 13)) (.some (12, .false))), (S 15 (.fieldAddr 0 (T 14)) (.some (12, .false))), (S 16 (.load1 (T 15)) (.some (12, .false))), (S 17 (.lenSl (T 16)) (.some (12, .false))), (S 18 (.bin .geq (T 17) (V 400)) (.some (12, .false))), (S 19 (.pick (T 12) (.val (.bool .true)) (T 18)) .none)]) (.cond (T 19) (.seq (.region [(S 6 (.move (V 0)) .none)]) .ret) .skip)) (.seq (.region [(M 20 1), (S 21 (.build [(Z 0), .nils, (.bool .false)] [(0, (1, (T 20)))]) .none), (S 22 (.box (T 21)) .none), (M 7 22)]) (.seq (.seq (.region [(M 23 2), (S 24 (.lenSl (T 23)) .none), (S 25 (.move (V 0)) .none)]) (.block 0 (.loop (.seq (.region [(S 26 (.bin .lss (T 25) (T 24)) .none)]) (.seq (.cond (T 26) .skip (.exit 0)) (.seq (.block 1 (.seq (.region [(S 27 (.indexAddr 2 (T 23) (T 25)) .none), (S 28 (.loadN 2 (T 27)) .none), (S 9 (.alloc [(Z 0), (Z 0)]) .none), (AOper.mk .none (.store 2 (T 9) (T 28)) .none)]) (.draw [(M 29 7), (M 30 7), (S 31 (.nilCheck (T 30)) .none), (S 32 (.fieldAddr 1 (T 31)) .none), (S 33 (.load1 (T 32)) .none), (S 34 (.loadN 2 (T 9)) .none), (S 35 (.call 15 [(T 34)]) .none), (S 36 (.buildSlice [(Z 0), (Z 0), (.bool .false)] 1 [(0, (3, (T 35)))]) .none), (S 37 (.append 3 24 (T 33) (T 36)) .none), (S 38 (.nilCheck (T 29)) .none), (S 39 (.fieldAddr 1 (T 38)) .none), (AOper.mk .none (.store 1 (T 39) (T 37)) .none)] [N, N, N, N, (.false, [1, 2]), N, Y, Y, Y, N, N, Y] 0))) (.region [(S 40 (.bin .add (T 25) (V 1)) .none), (M 25 40)]))))))) (.seq (.region [(M 41 0), (M 42 0), (S 43 (.nilCheck (T 42)) .none), (S 44 (.fieldAddr 0 (T 43)) .none), (S 45 (.load1 (T 44)) .none), (M 46 7), (S 47 (.buildSlice [.nilp] 1 [(0, (1, (T 46)))]) .none), (S 48 (.append 1 8 (T 45) (T 47)) .none), (S 49 (.nilCheck (T 41)) .none), (S 50 (.fieldAddr 0 (T 49)) .none), (AOper.mk .none (.store 1 (T 50) (T 48)) .none)]) (.seq (.region [(M 51 0), (S 52 (.nilCheck (T 51)) .none), (S 53 (.fieldAddr 0 (T 52)) .none), (S 54 (.load1 (T 53)) .none), (S 55 (.lenSl (T 54)) .none), (M 6 55)]) .ret)))))))
abbrev f9.Js : Type := (((AVal → AVal → AVal → AHeap → Rs) × (AVal → AVal → AHeap → Rs)) × ((AVal → AVal → AVal → AVal → AVal → AHeap → Rs) × ((AVal → AVal → AVal → AVal → AVal → AHeap → Rs) × (AVal → AVal → AVal → AVal → AVal → AHeap → Rs))))
noncomputable def f9.b0 (I : Inp) (call : CallFn) (j : f9.Js) (v0 v1 v2 : AVal) (h : AHeap) : Rs :=
  bndP (pBuild [(Z 0), .nils, (.bool .false)] [(0, 1, v1)]) fun v21 =>
  bnd (sBox v21 h) fun v22 h1 =>
  bndP (pLenSl v2) fun v24 =>
  j.2.1 v0 v22 v2 v24 (Z 0) h1
noncomputable def f9.b1 (I : Inp) (call : CallFn) (j : f9.Js) (v0 v7 : AVal) (h : AHeap) : Rs :=
  bndP (pNilCheck v0) fun v43 =>
  bndP (pFieldAddr 0 v43) fun v44 =>
  bndP (pLoad1 I v44 h) fun v45 =>
  bnd (sBuildSlice [.nilp] 1 [(0, 1, v7)] h) fun v47 h1 =>
  bnd (sAppend I 1 8 v45 v47 h1) fun v48 h2 =>
  bndP (pNilCheck v0) fun v49 =>
  bndP (pFieldAddr 0 v49) fun v50 =>
  bnd (sStore 1 v50 v48 h2) fun _ h3 =>
  bndP (pNilCheck v0) fun v52 =>
  bndP (pFieldAddr 0 v52) fun v53 =>
  bndP (pLoad1 I v53 h3) fun v54 =>
  bndP (pLenSl v54) fun v55 =>
  some (v55, h3)
noncomputable def f9.b2 (I : Inp) (call : CallFn) (j : f9.Js) (v0 v7 v23 v24 v25 : AVal) (h : AHeap) : Rs :=
  bndP (pBin .lss v25 v24) fun v26 =>
  sCond v26 (
  j.1.2 v0 v7 h) (
  j.2.2.1 v0 v7 v23 v24 v25 h)
noncomputable def f9.b3 (I : Inp) (call : CallFn) (j : f9.Js) (v0 v7 v23 v24 v25 : AVal) (h : AHeap) : Rs :=
  bndP (pIndexAddr 2 v23 v25) fun v27 =>
  bndP (pLoadN I 2 v27 h) fun v28 =>
  bnd (sAlloc [(Z 0), (Z 0)] h) fun v9 h1 =>
  bnd (sStore 2 v9 v28 h1) fun _ h2 =>
  bndP (pNilCheck v7) fun v31 =>
  bndP (pFieldAddr 1 v31) fun v32 =>
  bndP (pLoad1 I v32 h2) fun v33 =>
  bndP (pLoadN I 2 v9 h2) fun v34 =>
  bnd (call 15 [v34] h2) fun v35 h3 =>
  bnd (sBuildSlice [(Z 0), (Z 0), (.bool .false)] 1 [(0, 3, v35)] h3) fun v36 h4 =>
  bnd (sAppend I 3 24 v33 v36 h4) fun v37 h5 =>
  bndP (pNilCheck v7) fun v38 =>
  bndP (pFieldAddr 1 v38) fun v39 =>
  bnd (sStore 1 v39 v37 h5) fun _ h6 =>
  sCheck (sSame (lift (pLoad1 I v32 h3) h3) v33 && (sSame (lift (pLoad1 I v32 h4) h4) v33 && true)) (
  j.2.2.2 v0 v7 v23 v24 v25 h6)
noncomputable def f9.b4 (I : Inp) (call : CallFn) (j : f9.Js) (v0 v7 v23 v24 v25 : AVal) (h : AHeap) : Rs :=
  bndP (pBin .add v25 (Z 1)) fun v40 =>
  j.2.1 v0 v7 v23 v24 v40 h
noncomputable def f9.e (I : Inp) (call : CallFn) (j : f9.Js) (v0 v1 v2 : AVal) (h : AHeap) : Rs :=
  bndP (pEq P .false .ptr .true v0 .nilp h) fun v11 =>
  bnd (sGuard v11 .false (some (v0, h)) h) fun v13 h1 =>
  bnd (sGuard v11 .false (lift (pNilCheck v13) h1) h1) fun v14 h2 =>
  bnd (sGuard v11 .false (lift (pFieldAddr 0 v14) h2) h2) fun v15 h3 =>
  bnd (sGuard v11 .false (lift (pLoad1 I v15 h3) h3) h3) fun v16 h4 =>
  bnd (sGuard v11 .false (lift (pLenSl v16) h4) h4) fun v17 h5 =>
  bnd (sGuard v11 .false (lift (pBin .geq v17 (Z 400)) h5) h5) fun v18 h6 =>
  bndP (pPick v11 (.bool .true) v18) fun v19 =>
  sCond v19 (
  j.1.1 v0 v1 v2 h6) (
  some ((Z 0), h6))
noncomputable def f9.J (I : Inp) (call : CallFn) (n : Nat) : f9.Js :=
  Nat.rec (motive := fun _ => f9.Js) (((fun _ _ _ _ => none), (fun _ _ _ => none)), ((fun _ _ _ _ _ _ => none), ((fun _ _ _ _ _ _ => none), (fun _ _ _ _ _ _ => none)))) (fun _ ih => ((f9.b0 I call ih, f9.b1 I call ih), (f9.b2 I call ih, (f9.b3 I call ih, f9.b4 I call ih)))) n
theorem f9.Jn (I : Inp) (call : CallFn) (n : Nat) : f9.J I call (n + 1) = ((f9.b0 I call (f9.J I call n), f9.b1 I call (f9.J I call n)), (f9.b2 I call (f9.J I call n), (f9.b3 I call (f9.J I call n), f9.b4 I call (f9.J I call n)))) := rfl
noncomputable def f9.JS (I : Inp) (call : CallFn) (n : Nat) : Jmp := fun id ρ h =>
  (Bool.rec (motive := fun _ => _) (Bool.rec (motive := fun _ => _) (Bool.rec (motive := fun _ => _) ((f9.J I call n).2.2.2 (ρ 0) (ρ 7) (ρ 23) (ρ 24) (ρ 25) h) ((f9.J I call n).2.2.1 (ρ 0) (ρ 7) (ρ 23) (ρ 24) (ρ 25) h) (Nat.blt id 4)) ((f9.J I call n).2.1 (ρ 0) (ρ 7) (ρ 23) (ρ 24) (ρ 25) h) (Nat.blt id 3)) (Bool.rec (motive := fun _ => _) ((f9.J I call n).1.2 (ρ 0) (ρ 7) h) ((f9.J I call n).1.1 (ρ 0) (ρ 1) (ρ 2) h) (Nat.blt id 1)) (Nat.blt id 2))
theorem f9.z0 (I : Inp) (call : CallFn) (ρ : Fun) (h : AHeap) : f9.JS I call 0 0 ρ h = none := rfl
theorem f9.z1 (I : Inp) (call : CallFn) (ρ : Fun) (h : AHeap) : f9.JS I call 0 1 ρ h = none := rfl
theorem f9.z2 (I : Inp) (call : CallFn) (ρ : Fun) (h : AHeap) : f9.JS I call 0 2 ρ h = none := rfl
theorem f9.z3 (I : Inp) (call : CallFn) (ρ : Fun) (h : AHeap) : f9.JS I call 0 3 ρ h = none := rfl
theorem f9.z4 (I : Inp) (call : CallFn) (ρ : Fun) (h : AHeap) : f9.JS I call 0 4 ρ h = none := rfl
theorem f9.q0 (I : Inp) (call : CallFn) (n : Nat) (ρ : Fun) (h : AHeap) : f9.JS I call (n + 1) 0 ρ h = labC P I call (f9.JS I call n) c9.body 0 (finV I c9.results) 0 ρ h := by kernel_rfl
theorem f9.q1 (I : Inp) (call : CallFn) (n : Nat) (ρ : Fun) (h : AHeap) : f9.JS I call (n + 1) 1 ρ h = labC P I call (f9.JS I call n) c9.body 0 (finV I c9.results) 1 ρ h := by kernel_rfl
theorem f9.q2 (I : Inp) (call : CallFn) (n : Nat) (ρ : Fun) (h : AHeap) : f9.JS I call (n + 1) 2 ρ h = labC P I call (f9.JS I call n) c9.body 0 (finV I c9.results) 2 ρ h := by kernel_rfl
theorem f9.q3 (I : Inp) (call : CallFn) (n : Nat) (ρ : Fun) (h : AHeap) : f9.JS I call (n + 1) 3 ρ h = labC P I call (f9.JS I call n) c9.body 0 (finV I c9.results) 3 ρ h := by kernel_rfl
theorem f9.q4 (I : Inp) (call : CallFn) (n : Nat) (ρ : Fun) (h : AHeap) : f9.JS I call (n + 1) 4 ρ h = labC P I call (f9.JS I call n) c9.body 0 (finV I c9.results) 4 ρ h := by kernel_rfl
theorem f9.S (I : Inp) (F : Nat → Option AFn) (call : CallFn) : SFn ⟨P, I, F⟩ call c9 (f9.JS I call) :=
  ⟨fun id hid ρ h => by
    have hc : c9.body.cnt = 5 := by kernel_rfl
    rw [hc] at hid
    exact match id, hid with
    | 0, _ => f9.z0 I call ρ h
    | 1, _ => f9.z1 I call ρ h
    | 2, _ => f9.z2 I call ρ h
    | 3, _ => f9.z3 I call ρ h
    | 4, _ => f9.z4 I call ρ h
    | id + 5, hid => absurd hid (by omega), fun n id hid ρ h => by
    have hc : c9.body.cnt = 5 := by kernel_rfl
    rw [hc] at hid
    exact match id, hid with
    | 0, _ => f9.q0 I call n ρ h
    | 1, _ => f9.q1 I call n ρ h
    | 2, _ => f9.q2 I call n ρ h
    | 3, _ => f9.q3 I call n ρ h
    | 4, _ => f9.q4 I call n ρ h
    | id + 5, hid => absurd hid (by omega)⟩
noncomputable def f9.run (I : Inp) : SF := fun call n a h =>
  match a with
  | [v0, v1, v2] => f9.e I call (f9.J I call n) v0 v1 v2 h
  | _ => none
theorem f9.qe (I : Inp) (call : CallFn) (n : Nat) (v0 v1 v2 : AVal) (h : AHeap) : f9.e I call (f9.J I call n) v0 v1 v2 h = execC P I call (f9.JS I call n) c9.body 0 (finV I c9.results) (argV [v0, v1, v2]) h := by kernel_rfl
theorem f9.code : codeOf P 9 = some c9 := by kernel_rfl
theorem f9.ok (I : Inp) (F : Nat → Option AFn) (hF : F 9 = some (.code c9)) : SfOk P I F 9 (f9.run I) := by
  intro call hc n args h r hr
  unfold f9.run at hr
  split at hr
  · exact fn_sound (C := ⟨P, I, F⟩) (n := n) hc hF (Nat.le_of_ble_eq_true (by kernel_rfl)) (by kernel_rfl) (f9.S I F call) (by kernel_rfl) ((f9.qe I call n _ _ _ h).symm.trans hr)
  · cases hr
theorem f9.qr (I : Inp) (call : CallFn) (n : Nat) (v0 v1 v2 : AVal) (h : AHeap) : f9.run I call n [v0, v1, v2] h = f9.e I call (f9.J I call n) v0 v1 v2 h := by kernel_rfl
theorem f9.lim {I : Inp} {prims : Nat → Option Prim} (hp : prims 9 = none) {n : Nat} {v0 v1 v2 : AVal} {h : AHeap} {Q : AVal → AHeap → Prop} (hr : Res (f9.e I (AM.lim ⟨P, I, genF P prims⟩) (f9.J I (AM.lim ⟨P, I, genF P prims⟩) n) v0 v1 v2 h) Q) :
    Res (AM.lim ⟨P, I, genF P prims⟩ 9 [v0, v1, v2] h) Q := by
  obtain ⟨v, h', e, q⟩ := hr
  exact ⟨v, h', lim_sf (C := ⟨P, I, genF P prims⟩) (n := n) (f9.ok I (genF P prims) (genF_code hp f9.code)) ((f9.qr I _ n v0 v1 v2 h).trans e), q⟩
/-! haruspex/haruspexref14.Zero -/
noncomputable def c10 : AFunc := (AFunc.mk 8 1 [(.cellN 2 3)] (.seq (.region [(S 1 (.box (T 0)) .none), (S 2 (.alloc [(Z 0), (Z 0), (.bool .false)]) .none)]) (.seq (.seq (.region [(S 3 (.fieldAddr 0 (T 1)) .none), (S 4 (.load1 (T 3)) .none), (S 5 (.bin .eql (T 4) (V 0)) .none)]) (.cond (T 5) (.seq (.region [(S 6 (.build [(Z 0), (Z 0), (.bool .false)] [(0, (1, (V 0)))]) .none), (AOper.mk .none (.store 3 (T 2) (T 6)) .none)]) .ret) .skip)) (.seq (.region [(S 7 (.build [(Z 0), (Z 0), (.bool .false)] [(0, (1, (V 1)))]) .none), (AOper.mk .none (.store 3 (T 2) (T 7)) .none)]) .ret))))
abbrev f10.Js : Type := (AVal → AHeap → Rs)
noncomputable def f10.b0 (I : Inp) (call : CallFn) (j : f10.Js) (v2 : AVal) (h : AHeap) : Rs :=
  bndP (pBuild [(Z 0), (Z 0), (.bool .false)] [(0, 1, (Z 1))]) fun v7 =>
  bnd (sStore 3 v2 v7 h) fun _ h1 =>
  sRet (sCons (sResN I 3 v2 h1) (some [])) h1
noncomputable def f10.e (I : Inp) (call : CallFn) (j : f10.Js) (v0 : AVal) (h : AHeap) : Rs :=
  bnd (sBox v0 h) fun v1 h1 =>
  bnd (sAlloc [(Z 0), (Z 0), (.bool .false)] h1) fun v2 h2 =>
  bndP (pFieldAddr 0 v1) fun v3 =>
  bndP (pLoad1 I v3 h2) fun v4 =>
  bndP (pBin .eql v4 (Z 0)) fun v5 =>
  sCond v5 (
  j v2 h2) (
  bndP (pBuild [(Z 0), (Z 0), (.bool .false)] [(0, 1, (Z 0))]) fun v6 =>
  bnd (sStore 3 v2 v6 h2) fun _ h3 =>
  sRet (sCons (sResN I 3 v2 h3) (some [])) h3)
noncomputable def f10.J (I : Inp) (call : CallFn) (n : Nat) : f10.Js :=
  Nat.rec (motive := fun _ => f10.Js) (fun _ _ => none) (fun _ ih => f10.b0 I call ih) n
theorem f10.Jn (I : Inp) (call : CallFn) (n : Nat) : f10.J I call (n + 1) = f10.b0 I call (f10.J I call n) := rfl
noncomputable def f10.JS (I : Inp) (call : CallFn) (n : Nat) : Jmp := fun id ρ h =>
  ((f10.J I call n) (ρ 2) h)
theorem f10.z0 (I : Inp) (call : CallFn) (ρ : Fun) (h : AHeap) : f10.JS I call 0 0 ρ h = none := rfl
theorem f10.q0 (I : Inp) (call : CallFn) (n : Nat) (ρ : Fun) (h : AHeap) : f10.JS I call (n + 1) 0 ρ h = labC P I call (f10.JS I call n) c10.body 0 (finV I c10.results) 0 ρ h := by kernel_rfl
theorem f10.S (I : Inp) (F : Nat → Option AFn) (call : CallFn) : SFn ⟨P, I, F⟩ call c10 (f10.JS I call) :=
  ⟨fun id hid ρ h => by
    have hc : c10.body.cnt = 1 := by kernel_rfl
    rw [hc] at hid
    exact match id, hid with
    | 0, _ => f10.z0 I call ρ h
    | id + 1, hid => absurd hid (by omega), fun n id hid ρ h => by
    have hc : c10.body.cnt = 1 := by kernel_rfl
    rw [hc] at hid
    exact match id, hid with
    | 0, _ => f10.q0 I call n ρ h
    | id + 1, hid => absurd hid (by omega)⟩
noncomputable def f10.run (I : Inp) : SF := fun call n a h =>
  match a with
  | [v0] => f10.e I call (f10.J I call n) v0 h
  | _ => none
theorem f10.qe (I : Inp) (call : CallFn) (n : Nat) (v0 : AVal) (h : AHeap) : f10.e I call (f10.J I call n) v0 h = execC P I call (f10.JS I call n) c10.body 0 (finV I c10.results) (argV [v0]) h := by kernel_rfl
theorem f10.code : codeOf P 10 = some c10 := by kernel_rfl
theorem f10.ok (I : Inp) (F : Nat → Option AFn) (hF : F 10 = some (.code c10)) : SfOk P I F 10 (f10.run I) := by
  intro call hc n args h r hr
  unfold f10.run at hr
  split at hr
  · exact fn_sound (C := ⟨P, I, F⟩) (n := n) hc hF (Nat.le_of_ble_eq_true (by kernel_rfl)) (by kernel_rfl) (f10.S I F call) (by kernel_rfl) ((f10.qe I call n _ h).symm.trans hr)
  · cases hr
theorem f10.qr (I : Inp) (call : CallFn) (n : Nat) (v0 : AVal) (h : AHeap) : f10.run I call n [v0] h = f10.e I call (f10.J I call n) v0 h := by kernel_rfl
theorem f10.lim {I : Inp} {prims : Nat → Option Prim} (hp : prims 10 = none) {n : Nat} {v0 : AVal} {h : AHeap} {Q : AVal → AHeap → Prop} (hr : Res (f10.e I (AM.lim ⟨P, I, genF P prims⟩) (f10.J I (AM.lim ⟨P, I, genF P prims⟩) n) v0 h) Q) :
    Res (AM.lim ⟨P, I, genF P prims⟩ 10 [v0] h) Q := by
  obtain ⟨v, h', e, q⟩ := hr
  exact ⟨v, h', lim_sf (C := ⟨P, I, genF P prims⟩) (n := n) (f10.ok I (genF P prims) (genF_code hp f10.code)) ((f10.qr I _ n v0 h).trans e), q⟩
/-! (*haruspex/value.Heap).Set -/
noncomputable def c11 : AFunc := (AFunc.mk 24 4 [(.tmp 8)] (.seq (.region [(S 7 (.box (T 3)) .none), (S 8 (.move (V 0)) .none)]) (.seq (.region [(M 12 0), (M 13 1), (M 14 2), (S 15 (.call 20 [(T 12), (T 13), (T 14)]) .none), (M 11 15), (S 16 (.extract (T 11) 0) .none), (S 17 (.extract (T 11) 1) .none), (M 9 16), (M 10 17)]) (.seq (.seq (.region [(M 18 10), (S 19 (.bin .eql (T 18) (V 0)) .none)]) (.cond (T 19) (.region [(M 20 9), (S 21 (.loadN 3 (T 7)) .none), (S 22 (.nilCheck (T 20)) .none), (AOper.mk .none (.store 3 (T 22) (T 21)) .none)]) .skip)) (.seq (.region [(M 23 10), (M 8 23)]) .ret)))))
abbrev f11.Js : Type := (AVal → AHeap → Rs)
noncomputable def f11.b0 (I : Inp) (call : CallFn) (j : f11.Js) (v10 : AVal) (h : AHeap) : Rs :=
  some (v10, h)
noncomputable def f11.e (I : Inp) (call : CallFn) (j : f11.Js) (v0 v1 v2 v3 : AVal) (h : AHeap) : Rs :=
  bnd (sBox v3 h) fun v7 h1 =>
  bnd (call 20 [v0, v1, v2] h1) fun v15 h2 =>
  bndP (pExtract v15 0) fun v16 =>
  bndP (pExtract v15 1) fun v17 =>
  bndP (pBin .eql v17 (Z 0)) fun v19 =>
  sCond v19 (
  j v17 h2) (
  bndP (pLoadN I 3 v7 h2) fun v21 =>
  bndP (pNilCheck v16) fun v22 =>
  bnd (sStore 3 v22 v21 h2) fun _ h3 =>
  j v17 h3)
noncomputable def f11.J (I : Inp) (call : CallFn) (n : Nat) : f11.Js :=
  Nat.rec (motive := fun _ => f11.Js) (fun _ _ => none) (fun _ ih => f11.b0 I call ih) n
theorem f11.Jn (I : Inp) (call : CallFn) (n : Nat) : f11.J I call (n + 1) = f11.b0 I call (f11.J I call n) := rfl
noncomputable def f11.JS (I : Inp) (call : CallFn) (n : Nat) : Jmp := fun id ρ h =>
  ((f11.J I call n) (ρ 10) h)
theorem f11.z0 (I : Inp) (call : CallFn) (ρ : Fun) (h : AHeap) : f11.JS I call 0 0 ρ h = none := rfl
theorem f11.q0 (I : Inp) (call : CallFn) (n : Nat) (ρ : Fun) (h : AHeap) : f11.JS I call (n + 1) 0 ρ h = labC P I call (f11.JS I call n) c11.body 0 (finV I c11.results) 0 ρ h := by kernel_rfl
theorem f11.S (I : Inp) (F : Nat → Option AFn) (call : CallFn) : SFn ⟨P, I, F⟩ call c11 (f11.JS I call) :=
  ⟨fun id hid ρ h => by
    have hc : c11.body.cnt = 1 := by kernel_rfl
    rw [hc] at hid
    exact match id, hid with
    | 0, _ => f11.z0 I call ρ h
    | id + 1, hid => absurd hid (by omega), fun n id hid ρ h => by
    have hc : c11.body.cnt = 1 := by kernel_rfl
    rw [hc] at hid
    exact match id, hid with
    | 0, _ => f11.q0 I call n ρ h
    | id + 1, hid => absurd hid (by omega)⟩
noncomputable def f11.run (I : Inp) : SF := fun call n a h =>
  match a with
  | [v0, v1, v2, v3] => f11.e I call (f11.J I call n) v0 v1 v2 v3 h
  | _ => none
theorem f11.qe (I : Inp) (call : CallFn) (n : Nat) (v0 v1 v2 v3 : AVal) (h : AHeap) : f11.e I call (f11.J I call n) v0 v1 v2 v3 h = execC P I call (f11.JS I call n) c11.body 0 (finV I c11.results) (argV [v0, v1, v2, v3]) h := by kernel_rfl
theorem f11.code : codeOf P 11 = some c11 := by kernel_rfl
theorem f11.ok (I : Inp) (F : Nat → Option AFn) (hF : F 11 = some (.code c11)) : SfOk P I F 11 (f11.run I) := by
  intro call hc n args h r hr
  unfold f11.run at hr
  split at hr
  · exact fn_sound (C := ⟨P, I, F⟩) (n := n) hc hF (Nat.le_of_ble_eq_true (by kernel_rfl)) (by kernel_rfl) (f11.S I F call) (by kernel_rfl) ((f11.qe I call n _ _ _ _ h).symm.trans hr)
  · cases hr
theorem f11.qr (I : Inp) (call : CallFn) (n : Nat) (v0 v1 v2 v3 : AVal) (h : AHeap) : f11.run I call n [v0, v1, v2, v3] h = f11.e I call (f11.J I call n) v0 v1 v2 v3 h := by kernel_rfl
theorem f11.lim {I : Inp} {prims : Nat → Option Prim} (hp : prims 11 = none) {n : Nat} {v0 v1 v2 v3 : AVal} {h : AHeap} {Q : AVal → AHeap → Prop} (hr : Res (f11.e I (AM.lim ⟨P, I, genF P prims⟩) (f11.J I (AM.lim ⟨P, I, genF P prims⟩) n) v0 v1 v2 v3 h) Q) :
    Res (AM.lim ⟨P, I, genF P prims⟩ 11 [v0, v1, v2, v3] h) Q := by
  obtain ⟨v, h', e, q⟩ := hr
  exact ⟨v, h', lim_sf (C := ⟨P, I, genF P prims⟩) (n := n) (f11.ok I (genF P prims) (genF_code hp f11.code)) ((f11.qr I _ n v0 v1 v2 v3 h).trans e), q⟩
/-! (*haruspex/value.Heap).Get -/
noncomputable def c12 : AFunc := (AFunc.mk 24 3 [(.cellN 6 3), (.tmp 7)] (.seq (.region [(S 6 (.alloc [(Z 0), (Z 0), (.bool .false)]) .none), (S 7 (.move (V 0)) .none)]) (.seq (.region [(M 11 0), (M 12 1), (M 13 2), (S 14 (.call 20 [(T 11), (T 12), (T 13)]) .none), (M 10 14), (S 15 (.extract (T 10) 0) .none), (S 16 (.extract (T 10) 1) .none), (M 8 15), (M 9 16)]) (.seq (.seq (.region [(M 17 9), (S 18 (.bin .neq (T 17) (V 0)) .none)]) (.cond (T 18) (.seq (.region [(S 19 (.build [(Z 0), (Z 0), (.bool .false)] []) .none), (M 20 9), (AOper.mk .none (.store 3 (T 6) (T 19)) .none), (M 7 20)]) .ret) .skip)) (.seq (.region [(M 21 8), (S 22 (.nilCheck (T 21)) .none), (S 23 (.loadN 3 (T 22)) .none), (AOper.mk .none (.store 3 (T 6) (T 23)) .none), (S 7 (.move (V 0)) .none)]) .ret)))))
abbrev f12.Js : Type := (AVal → AVal → AHeap → Rs)
noncomputable def f12.b0 (I : Inp) (call : CallFn) (j : f12.Js) (v6 v8 : AVal) (h : AHeap) : Rs :=
  bndP (pNilCheck v8) fun v22 =>
  bndP (pLoadN I 3 v22 h) fun v23 =>
  bnd (sStore 3 v6 v23 h) fun _ h1 =>
  sRet (sCons (sResN I 3 v6 h1) (sCons (some (Z 0)) (some []))) h1
noncomputable def f12.e (I : Inp) (call : CallFn) (j : f12.Js) (v0 v1 v2 : AVal) (h : AHeap) : Rs :=
  bnd (sAlloc [(Z 0), (Z 0), (.bool .false)] h) fun v6 h1 =>
  bnd (call 20 [v0, v1, v2] h1) fun v14 h2 =>
  bndP (pExtract v14 0) fun v15 =>
  bndP (pExtract v14 1) fun v16 =>
  bndP (pBin .neq v16 (Z 0)) fun v18 =>
  sCond v18 (
  j v6 v15 h2) (
  bndP (pBuild [(Z 0), (Z 0), (.bool .false)] []) fun v19 =>
  bnd (sStore 3 v6 v19 h2) fun _ h3 =>
  sRet (sCons (sResN I 3 v6 h3) (sCons (some v16) (some []))) h3)
noncomputable def f12.J (I : Inp) (call : CallFn) (n : Nat) : f12.Js :=
  Nat.rec (motive := fun _ => f12.Js) (fun _ _ _ => none) (fun _ ih => f12.b0 I call ih) n
theorem f12.Jn (I : Inp) (call : CallFn) (n : Nat) : f12.J I call (n + 1) = f12.b0 I call (f12.J I call n) := rfl
noncomputable def f12.JS (I : Inp) (call : CallFn) (n : Nat) : Jmp := fun id ρ h =>
  ((f12.J I call n) (ρ 6) (ρ 8) h)
theorem f12.z0 (I : Inp) (call : CallFn) (ρ : Fun) (h : AHeap) : f12.JS I call 0 0 ρ h = none := rfl
theorem f12.q0 (I : Inp) (call : CallFn) (n : Nat) (ρ : Fun) (h : AHeap) : f12.JS I call (n + 1) 0 ρ h = labC P I call (f12.JS I call n) c12.body 0 (finV I c12.results) 0 ρ h := by kernel_rfl
theorem f12.S (I : Inp) (F : Nat → Option AFn) (call : CallFn) : SFn ⟨P, I, F⟩ call c12 (f12.JS I call) :=
  ⟨fun id hid ρ h => by
    have hc : c12.body.cnt = 1 := by kernel_rfl
    rw [hc] at hid
    exact match id, hid with
    | 0, _ => f12.z0 I call ρ h
    | id + 1, hid => absurd hid (by omega), fun n id hid ρ h => by
    have hc : c12.body.cnt = 1 := by kernel_rfl
    rw [hc] at hid
    exact match id, hid with
    | 0, _ => f12.q0 I call n ρ h
    | id + 1, hid => absurd hid (by omega)⟩
noncomputable def f12.run (I : Inp) : SF := fun call n a h =>
  match a with
  | [v0, v1, v2] => f12.e I call (f12.J I call n) v0 v1 v2 h
  | _ => none
theorem f12.qe (I : Inp) (call : CallFn) (n : Nat) (v0 v1 v2 : AVal) (h : AHeap) : f12.e I call (f12.J I call n) v0 v1 v2 h = execC P I call (f12.JS I call n) c12.body 0 (finV I c12.results) (argV [v0, v1, v2]) h := by kernel_rfl
theorem f12.code : codeOf P 12 = some c12 := by kernel_rfl
theorem f12.ok (I : Inp) (F : Nat → Option AFn) (hF : F 12 = some (.code c12)) : SfOk P I F 12 (f12.run I) := by
  intro call hc n args h r hr
  unfold f12.run at hr
  split at hr
  · exact fn_sound (C := ⟨P, I, F⟩) (n := n) hc hF (Nat.le_of_ble_eq_true (by kernel_rfl)) (by kernel_rfl) (f12.S I F call) (by kernel_rfl) ((f12.qe I call n _ _ _ h).symm.trans hr)
  · cases hr
theorem f12.qr (I : Inp) (call : CallFn) (n : Nat) (v0 v1 v2 : AVal) (h : AHeap) : f12.run I call n [v0, v1, v2] h = f12.e I call (f12.J I call n) v0 v1 v2 h := by kernel_rfl
theorem f12.lim {I : Inp} {prims : Nat → Option Prim} (hp : prims 12 = none) {n : Nat} {v0 v1 v2 : AVal} {h : AHeap} {Q : AVal → AHeap → Prop} (hr : Res (f12.e I (AM.lim ⟨P, I, genF P prims⟩) (f12.J I (AM.lim ⟨P, I, genF P prims⟩) n) v0 v1 v2 h) Q) :
    Res (AM.lim ⟨P, I, genF P prims⟩ 12 [v0, v1, v2] h) Q := by
  obtain ⟨v, h', e, q⟩ := hr
  exact ⟨v, h', lim_sf (C := ⟨P, I, genF P prims⟩) (n := n) (f12.ok I (genF P prims) (genF_code hp f12.code)) ((f12.qr I _ n v0 v1 v2 h).trans e), q⟩
/-! haruspex/haruspexref14.EqValue -/
noncomputable def c13 : AFunc := (AFunc.mk 24 2 [(.tmp 4)] (.seq (.region [(S 2 (.box (T 0)) .none), (S 3 (.box (T 1)) .none), (S 4 (.move (.val (.bool .false))) .none)]) (.seq (.region [(S 5 (.fieldAddr 0 (T 2)) .none), (S 6 (.load1 (T 5)) .none), (S 7 (.fieldAddr 0 (T 3)) .none), (S 8 (.load1 (T 7)) .none), (S 9 (.bin .eql (T 6) (T 8)) .none), (M 10 9), (S 11 (.fieldAddr 1 (T 2)) (.some (10, .true))), (S 12 (.load1 (T 11)) (.some (10, .true))), (S 13 (.fieldAddr 1 (T 3)) (.some (10, .true))), (S 14 (.load1 (T 13)) (.some (10, .true))), (S 15 (.bin .eql (T 12) (T 14)) (.some (10, .true))), (S 16 (.pick (T 10) (T 15) (.val (.bool .false))) .none), (M 17 16), (S 18 (.fieldAddr 2 (T 2)) (.some (17, .true))), (S 19 (.load1 (T 18)) (.some (17, .true))), (S 20 (.fieldAddr 2 (T 3)) (.some (17, .true))), (S 21 (.load1 (T 20)) (.some (17, .true))), (S 22 (.eq .false .bool .false (T 19) (T 21)) (.some (17, .true))), (S 23 (.pick (T 17) (T 22) (.val (.bool .false))) .none), (M 4 23)]) .ret)))
abbrev f13.Js : Type := Unit
noncomputable def f13.e (I : Inp) (call : CallFn) (j : f13.Js) (v0 v1 : AVal) (h : AHeap) : Rs :=
  bnd (sBox v0 h) fun v2 h1 =>
  bnd (sBox v1 h1) fun v3 h2 =>
  bndP (pFieldAddr 0 v2) fun v5 =>
  bndP (pLoad1 I v5 h2) fun v6 =>
  bndP (pFieldAddr 0 v3) fun v7 =>
  bndP (pLoad1 I v7 h2) fun v8 =>
  bndP (pBin .eql v6 v8) fun v9 =>
  bnd (sGuard v9 .true (lift (pFieldAddr 1 v2) h2) h2) fun v11 h3 =>
  bnd (sGuard v9 .true (lift (pLoad1 I v11 h3) h3) h3) fun v12 h4 =>
  bnd (sGuard v9 .true (lift (pFieldAddr 1 v3) h4) h4) fun v13 h5 =>
  bnd (sGuard v9 .true (lift (pLoad1 I v13 h5) h5) h5) fun v14 h6 =>
  bnd (sGuard v9 .true (lift (pBin .eql v12 v14) h6) h6) fun v15 h7 =>
  bndP (pPick v9 v15 (.bool .false)) fun v16 =>
  bnd (sGuard v16 .true (lift (pFieldAddr 2 v2) h7) h7) fun v18 h8 =>
  bnd (sGuard v16 .true (lift (pLoad1 I v18 h8) h8) h8) fun v19 h9 =>
  bnd (sGuard v16 .true (lift (pFieldAddr 2 v3) h9) h9) fun v20 h10 =>
  bnd (sGuard v16 .true (lift (pLoad1 I v20 h10) h10) h10) fun v21 h11 =>
  bnd (sGuard v16 .true (lift (pEq P .false .bool .false v19 v21 h11) h11) h11) fun v22 h12 =>
  bndP (pPick v16 v22 (.bool .false)) fun v23 =>
  some (v23, h12)
theorem f13.S (I : Inp) (F : Nat → Option AFn) (call : CallFn) : SFn ⟨P, I, F⟩ call c13 (fun _ _ _ _ => none) :=
  ⟨fun _ _ _ _ => rfl, fun n id hid => absurd hid (by rw [show c13.body.cnt = 0 by kernel_rfl]; omega)⟩
noncomputable def f13.run (I : Inp) : SF := fun call n a h =>
  match a with
  | [v0, v1] => f13.e I call () v0 v1 h
  | _ => none
theorem f13.qe (I : Inp) (call : CallFn) (n : Nat) (v0 v1 : AVal) (h : AHeap) : f13.e I call () v0 v1 h = execC P I call (fun _ _ _ => none) c13.body 0 (finV I c13.results) (argV [v0, v1]) h := by kernel_rfl
theorem f13.code : codeOf P 13 = some c13 := by kernel_rfl
theorem f13.ok (I : Inp) (F : Nat → Option AFn) (hF : F 13 = some (.code c13)) : SfOk P I F 13 (f13.run I) := by
  intro call hc n args h r hr
  unfold f13.run at hr
  split at hr
  · exact fn_sound (C := ⟨P, I, F⟩) (n := n) hc hF (Nat.le_of_ble_eq_true (by kernel_rfl)) (by kernel_rfl) (f13.S I F call) (by kernel_rfl) ((f13.qe I call n _ _ h).symm.trans hr)
  · cases hr
theorem f13.qr (I : Inp) (call : CallFn) (n : Nat) (v0 v1 : AVal) (h : AHeap) : f13.run I call n [v0, v1] h = f13.e I call () v0 v1 h := by kernel_rfl
theorem f13.lim {I : Inp} {prims : Nat → Option Prim} (hp : prims 13 = none) {n : Nat} {v0 v1 : AVal} {h : AHeap} {Q : AVal → AHeap → Prop} (hr : Res (f13.e I (AM.lim ⟨P, I, genF P prims⟩) () v0 v1 h) Q) :
    Res (AM.lim ⟨P, I, genF P prims⟩ 13 [v0, v1] h) Q := by
  obtain ⟨v, h', e, q⟩ := hr
  exact ⟨v, h', lim_sf (C := ⟨P, I, genF P prims⟩) (n := 0) (f13.ok I (genF P prims) (genF_code hp f13.code)) ((f13.qr I _ 0 v0 v1 h).trans e), q⟩
/-! haruspex/value.Add -/
noncomputable def c14 : AFunc := (AFunc.mk 26 2 [(.cellN 4 3)] (.seq (.region [(S 2 (.box (T 0)) .none), (S 3 (.box (T 1)) .none), (S 4 (.alloc [(Z 0), (Z 0), (.bool .false)]) .none)]) (.seq (.seq (.region [(S 5 (.fieldAddr 0 (T 2)) .none), (S 6 (.load1 (T 5)) .none), (S 7 (.bin .neq (T 6) (V 0)) .none), (M 8 7), (S 9 (.fieldAddr 0 (T 3)) (.some (8, .false))), (S 10 (.load1 (T 9)) (.some (8, .false))), (S 11 (.bin .neq (T 10) (V 0)) (.some (8, .false))), (S 12 (.pick (T 8) (.val (.bool .true)) (T 11)) .none)]) (.cond (T 12) (.seq (.region [(S 13 (.build [(Z 0), (Z 0), (.bool .false)] []) .none), (AOper.mk .none (.store 3 (T 4) (T 13)) .none)]) .ret) .skip)) (.seq (.region [(S 14 (.fieldAddr 1 (T 2)) .none), (S 15 (.load1 (T 14)) .none), (S 16 (.fieldAddr 1 (T 3)) .none), (S 17 (.load1 (T 16)) .none), (S 18 (.bin .add (T 15) (T 17)) .none), (S 19 (.fieldAddr 2 (T 2)) .none), (S 20 (.load1 (T 19)) .none), (M 21 20), (S 22 (.fieldAddr 2 (T 3)) (.some (21, .false))), (S 23 (.load1 (T 22)) (.some (21, .false))), (S 24 (.pick (T 21) (.val (.bool .true)) (T 23)) .none), (S 25 (.build [(Z 0), (Z 0), (.bool .false)] [(0, (1, (V 0))), (1, (1, (T 18))), (2, (1, (T 24)))]) .none), (AOper.mk .none (.store 3 (T 4) (T 25)) .none)]) .ret))))
abbrev f14.Js : Type := (AVal → AVal → AVal → AHeap → Rs)
noncomputable def f14.b0 (I : Inp) (call : CallFn) (j : f14.Js) (v2 v3 v4 : AVal) (h : AHeap) : Rs :=
  bndP (pFieldAddr 1 v2) fun v14 =>
  bndP (pLoad1 I v14 h) fun v15 =>
  bndP (pFieldAddr 1 v3) fun v16 =>
  bndP (pLoad1 I v16 h) fun v17 =>
  bndP (pBin .add v15 v17) fun v18 =>
  bndP (pFieldAddr 2 v2) fun v19 =>
  bndP (pLoad1 I v19 h) fun v20 =>
  bnd (sGuard v20 .false (lift (pFieldAddr 2 v3) h) h) fun v22 h1 =>
  bnd (sGuard v20 .false (lift (pLoad1 I v22 h1) h1) h1) fun v23 h2 =>
  bndP (pPick v20 (.bool .true) v23) fun v24 =>
  bndP (pBuild [(Z 0), (Z 0), (.bool .false)] [(0, 1, (Z 0)), (1, 1, v18), (2, 1, v24)]) fun v25 =>
  bnd (sStore 3 v4 v25 h2) fun _ h3 =>
  sRet (sCons (sResN I 3 v4 h3) (some [])) h3
noncomputable def f14.e (I : Inp) (call : CallFn) (j : f14.Js) (v0 v1 : AVal) (h : AHeap) : Rs :=
  bnd (sBox v0 h) fun v2 h1 =>
  bnd (sBox v1 h1) fun v3 h2 =>
  bnd (sAlloc [(Z 0), (Z 0), (.bool .false)] h2) fun v4 h3 =>
  bndP (pFieldAddr 0 v2) fun v5 =>
  bndP (pLoad1 I v5 h3) fun v6 =>
  bndP (pBin .neq v6 (Z 0)) fun v7 =>
  bnd (sGuard v7 .false (lift (pFieldAddr 0 v3) h3) h3) fun v9 h4 =>
  bnd (sGuard v7 .false (lift (pLoad1 I v9 h4) h4) h4) fun v10 h5 =>
  bnd (sGuard v7 .false (lift (pBin .neq v10 (Z 0)) h5) h5) fun v11 h6 =>
  bndP (pPick v7 (.bool .true) v11) fun v12 =>
  sCond v12 (
  j v2 v3 v4 h6) (
  bndP (pBuild [(Z 0), (Z 0), (.bool .false)] []) fun v13 =>
  bnd (sStore 3 v4 v13 h6) fun _ h7 =>
  sRet (sCons (sResN I 3 v4 h7) (some [])) h7)
noncomputable def f14.J (I : Inp) (call : CallFn) (n : Nat) : f14.Js :=
  Nat.rec (motive := fun _ => f14.Js) (fun _ _ _ _ => none) (fun _ ih => f14.b0 I call ih) n
theorem f14.Jn (I : Inp) (call : CallFn) (n : Nat) : f14.J I call (n + 1) = f14.b0 I call (f14.J I call n) := rfl
noncomputable def f14.JS (I : Inp) (call : CallFn) (n : Nat) : Jmp := fun id ρ h =>
  ((f14.J I call n) (ρ 2) (ρ 3) (ρ 4) h)
theorem f14.z0 (I : Inp) (call : CallFn) (ρ : Fun) (h : AHeap) : f14.JS I call 0 0 ρ h = none := rfl
theorem f14.q0 (I : Inp) (call : CallFn) (n : Nat) (ρ : Fun) (h : AHeap) : f14.JS I call (n + 1) 0 ρ h = labC P I call (f14.JS I call n) c14.body 0 (finV I c14.results) 0 ρ h := by kernel_rfl
theorem f14.S (I : Inp) (F : Nat → Option AFn) (call : CallFn) : SFn ⟨P, I, F⟩ call c14 (f14.JS I call) :=
  ⟨fun id hid ρ h => by
    have hc : c14.body.cnt = 1 := by kernel_rfl
    rw [hc] at hid
    exact match id, hid with
    | 0, _ => f14.z0 I call ρ h
    | id + 1, hid => absurd hid (by omega), fun n id hid ρ h => by
    have hc : c14.body.cnt = 1 := by kernel_rfl
    rw [hc] at hid
    exact match id, hid with
    | 0, _ => f14.q0 I call n ρ h
    | id + 1, hid => absurd hid (by omega)⟩
noncomputable def f14.run (I : Inp) : SF := fun call n a h =>
  match a with
  | [v0, v1] => f14.e I call (f14.J I call n) v0 v1 h
  | _ => none
theorem f14.qe (I : Inp) (call : CallFn) (n : Nat) (v0 v1 : AVal) (h : AHeap) : f14.e I call (f14.J I call n) v0 v1 h = execC P I call (f14.JS I call n) c14.body 0 (finV I c14.results) (argV [v0, v1]) h := by kernel_rfl
theorem f14.code : codeOf P 14 = some c14 := by kernel_rfl
theorem f14.ok (I : Inp) (F : Nat → Option AFn) (hF : F 14 = some (.code c14)) : SfOk P I F 14 (f14.run I) := by
  intro call hc n args h r hr
  unfold f14.run at hr
  split at hr
  · exact fn_sound (C := ⟨P, I, F⟩) (n := n) hc hF (Nat.le_of_ble_eq_true (by kernel_rfl)) (by kernel_rfl) (f14.S I F call) (by kernel_rfl) ((f14.qe I call n _ _ h).symm.trans hr)
  · cases hr
theorem f14.qr (I : Inp) (call : CallFn) (n : Nat) (v0 v1 : AVal) (h : AHeap) : f14.run I call n [v0, v1] h = f14.e I call (f14.J I call n) v0 v1 h := by kernel_rfl
theorem f14.lim {I : Inp} {prims : Nat → Option Prim} (hp : prims 14 = none) {n : Nat} {v0 v1 : AVal} {h : AHeap} {Q : AVal → AHeap → Prop} (hr : Res (f14.e I (AM.lim ⟨P, I, genF P prims⟩) (f14.J I (AM.lim ⟨P, I, genF P prims⟩) n) v0 v1 h) Q) :
    Res (AM.lim ⟨P, I, genF P prims⟩ 14 [v0, v1] h) Q := by
  obtain ⟨v, h', e, q⟩ := hr
  exact ⟨v, h', lim_sf (C := ⟨P, I, genF P prims⟩) (n := n) (f14.ok I (genF P prims) (genF_code hp f14.code)) ((f14.qr I _ n v0 v1 h).trans e), q⟩
/-! haruspex/value.Zero -/
noncomputable def c15 : AFunc := (AFunc.mk 8 1 [(.cellN 2 3)] (.seq (.region [(S 1 (.box (T 0)) .none), (S 2 (.alloc [(Z 0), (Z 0), (.bool .false)]) .none)]) (.seq (.seq (.region [(S 3 (.fieldAddr 0 (T 1)) .none), (S 4 (.load1 (T 3)) .none), (S 5 (.bin .eql (T 4) (V 0)) .none)]) (.cond (T 5) (.seq (.region [(S 6 (.build [(Z 0), (Z 0), (.bool .false)] [(0, (1, (V 0)))]) .none), (AOper.mk .none (.store 3 (T 2) (T 6)) .none)]) .ret) .skip)) (.seq (.region [(S 7 (.build [(Z 0), (Z 0), (.bool .false)] [(0, (1, (V 1)))]) .none), (AOper.mk .none (.store 3 (T 2) (T 7)) .none)]) .ret))))
abbrev f15.Js : Type := (AVal → AHeap → Rs)
noncomputable def f15.b0 (I : Inp) (call : CallFn) (j : f15.Js) (v2 : AVal) (h : AHeap) : Rs :=
  bndP (pBuild [(Z 0), (Z 0), (.bool .false)] [(0, 1, (Z 1))]) fun v7 =>
  bnd (sStore 3 v2 v7 h) fun _ h1 =>
  sRet (sCons (sResN I 3 v2 h1) (some [])) h1
noncomputable def f15.e (I : Inp) (call : CallFn) (j : f15.Js) (v0 : AVal) (h : AHeap) : Rs :=
  bnd (sBox v0 h) fun v1 h1 =>
  bnd (sAlloc [(Z 0), (Z 0), (.bool .false)] h1) fun v2 h2 =>
  bndP (pFieldAddr 0 v1) fun v3 =>
  bndP (pLoad1 I v3 h2) fun v4 =>
  bndP (pBin .eql v4 (Z 0)) fun v5 =>
  sCond v5 (
  j v2 h2) (
  bndP (pBuild [(Z 0), (Z 0), (.bool .false)] [(0, 1, (Z 0))]) fun v6 =>
  bnd (sStore 3 v2 v6 h2) fun _ h3 =>
  sRet (sCons (sResN I 3 v2 h3) (some [])) h3)
noncomputable def f15.J (I : Inp) (call : CallFn) (n : Nat) : f15.Js :=
  Nat.rec (motive := fun _ => f15.Js) (fun _ _ => none) (fun _ ih => f15.b0 I call ih) n
theorem f15.Jn (I : Inp) (call : CallFn) (n : Nat) : f15.J I call (n + 1) = f15.b0 I call (f15.J I call n) := rfl
noncomputable def f15.JS (I : Inp) (call : CallFn) (n : Nat) : Jmp := fun id ρ h =>
  ((f15.J I call n) (ρ 2) h)
theorem f15.z0 (I : Inp) (call : CallFn) (ρ : Fun) (h : AHeap) : f15.JS I call 0 0 ρ h = none := rfl
theorem f15.q0 (I : Inp) (call : CallFn) (n : Nat) (ρ : Fun) (h : AHeap) : f15.JS I call (n + 1) 0 ρ h = labC P I call (f15.JS I call n) c15.body 0 (finV I c15.results) 0 ρ h := by kernel_rfl
theorem f15.S (I : Inp) (F : Nat → Option AFn) (call : CallFn) : SFn ⟨P, I, F⟩ call c15 (f15.JS I call) :=
  ⟨fun id hid ρ h => by
    have hc : c15.body.cnt = 1 := by kernel_rfl
    rw [hc] at hid
    exact match id, hid with
    | 0, _ => f15.z0 I call ρ h
    | id + 1, hid => absurd hid (by omega), fun n id hid ρ h => by
    have hc : c15.body.cnt = 1 := by kernel_rfl
    rw [hc] at hid
    exact match id, hid with
    | 0, _ => f15.q0 I call n ρ h
    | id + 1, hid => absurd hid (by omega)⟩
noncomputable def f15.run (I : Inp) : SF := fun call n a h =>
  match a with
  | [v0] => f15.e I call (f15.J I call n) v0 h
  | _ => none
theorem f15.qe (I : Inp) (call : CallFn) (n : Nat) (v0 : AVal) (h : AHeap) : f15.e I call (f15.J I call n) v0 h = execC P I call (f15.JS I call n) c15.body 0 (finV I c15.results) (argV [v0]) h := by kernel_rfl
theorem f15.code : codeOf P 15 = some c15 := by kernel_rfl
theorem f15.ok (I : Inp) (F : Nat → Option AFn) (hF : F 15 = some (.code c15)) : SfOk P I F 15 (f15.run I) := by
  intro call hc n args h r hr
  unfold f15.run at hr
  split at hr
  · exact fn_sound (C := ⟨P, I, F⟩) (n := n) hc hF (Nat.le_of_ble_eq_true (by kernel_rfl)) (by kernel_rfl) (f15.S I F call) (by kernel_rfl) ((f15.qe I call n _ h).symm.trans hr)
  · cases hr
theorem f15.qr (I : Inp) (call : CallFn) (n : Nat) (v0 : AVal) (h : AHeap) : f15.run I call n [v0] h = f15.e I call (f15.J I call n) v0 h := by kernel_rfl
theorem f15.lim {I : Inp} {prims : Nat → Option Prim} (hp : prims 15 = none) {n : Nat} {v0 : AVal} {h : AHeap} {Q : AVal → AHeap → Prop} (hr : Res (f15.e I (AM.lim ⟨P, I, genF P prims⟩) (f15.J I (AM.lim ⟨P, I, genF P prims⟩) n) v0 h) Q) :
    Res (AM.lim ⟨P, I, genF P prims⟩ 15 [v0] h) Q := by
  obtain ⟨v, h', e, q⟩ := hr
  exact ⟨v, h', lim_sf (C := ⟨P, I, genF P prims⟩) (n := n) (f15.ok I (genF P prims) (genF_code hp f15.code)) ((f15.qr I _ n v0 h).trans e), q⟩
/-! (*haruspex/value.Heap).Len -/
noncomputable def c16 : AFunc := (AFunc.mk 10 1 [(.tmp 2)] (.seq (.region [(S 2 (.move (V 0)) .none)]) (.seq (.seq (.region [(M 3 0), (S 4 (.eq .false .ptr .true (T 3) (.val .nilp)) .none)]) (.cond (T 4) (.seq (.region [(S 2 (.move (V 0)) .none)]) .ret) .skip)) (.seq (.region [(M 5 0), (S 6 (.nilCheck (T 5)) .none), (S 7 (.fieldAddr 0 (T 6)) .none), (S 8 (.load1 (T 7)) .none), (S 9 (.lenSl (T 8)) .none), (M 2 9)]) .ret))))
abbrev f16.Js : Type := (AVal → AHeap → Rs)
noncomputable def f16.b0 (I : Inp) (call : CallFn) (j : f16.Js) (v0 : AVal) (h : AHeap) : Rs :=
  bndP (pNilCheck v0) fun v6 =>
  bndP (pFieldAddr 0 v6) fun v7 =>
  bndP (pLoad1 I v7 h) fun v8 =>
  bndP (pLenSl v8) fun v9 =>
  some (v9, h)
noncomputable def f16.e (I : Inp) (call : CallFn) (j : f16.Js) (v0 : AVal) (h : AHeap) : Rs :=
  bndP (pEq P .false .ptr .true v0 .nilp h) fun v4 =>
  sCond v4 (
  j v0 h) (
  some ((Z 0), h))
noncomputable def f16.J (I : Inp) (call : CallFn) (n : Nat) : f16.Js :=
  Nat.rec (motive := fun _ => f16.Js) (fun _ _ => none) (fun _ ih => f16.b0 I call ih) n
theorem f16.Jn (I : Inp) (call : CallFn) (n : Nat) : f16.J I call (n + 1) = f16.b0 I call (f16.J I call n) := rfl
noncomputable def f16.JS (I : Inp) (call : CallFn) (n : Nat) : Jmp := fun id ρ h =>
  ((f16.J I call n) (ρ 0) h)
theorem f16.z0 (I : Inp) (call : CallFn) (ρ : Fun) (h : AHeap) : f16.JS I call 0 0 ρ h = none := rfl
theorem f16.q0 (I : Inp) (call : CallFn) (n : Nat) (ρ : Fun) (h : AHeap) : f16.JS I call (n + 1) 0 ρ h = labC P I call (f16.JS I call n) c16.body 0 (finV I c16.results) 0 ρ h := by kernel_rfl
theorem f16.S (I : Inp) (F : Nat → Option AFn) (call : CallFn) : SFn ⟨P, I, F⟩ call c16 (f16.JS I call) :=
  ⟨fun id hid ρ h => by
    have hc : c16.body.cnt = 1 := by kernel_rfl
    rw [hc] at hid
    exact match id, hid with
    | 0, _ => f16.z0 I call ρ h
    | id + 1, hid => absurd hid (by omega), fun n id hid ρ h => by
    have hc : c16.body.cnt = 1 := by kernel_rfl
    rw [hc] at hid
    exact match id, hid with
    | 0, _ => f16.q0 I call n ρ h
    | id + 1, hid => absurd hid (by omega)⟩
noncomputable def f16.run (I : Inp) : SF := fun call n a h =>
  match a with
  | [v0] => f16.e I call (f16.J I call n) v0 h
  | _ => none
theorem f16.qe (I : Inp) (call : CallFn) (n : Nat) (v0 : AVal) (h : AHeap) : f16.e I call (f16.J I call n) v0 h = execC P I call (f16.JS I call n) c16.body 0 (finV I c16.results) (argV [v0]) h := by kernel_rfl
theorem f16.code : codeOf P 16 = some c16 := by kernel_rfl
theorem f16.ok (I : Inp) (F : Nat → Option AFn) (hF : F 16 = some (.code c16)) : SfOk P I F 16 (f16.run I) := by
  intro call hc n args h r hr
  unfold f16.run at hr
  split at hr
  · exact fn_sound (C := ⟨P, I, F⟩) (n := n) hc hF (Nat.le_of_ble_eq_true (by kernel_rfl)) (by kernel_rfl) (f16.S I F call) (by kernel_rfl) ((f16.qe I call n _ h).symm.trans hr)
  · cases hr
theorem f16.qr (I : Inp) (call : CallFn) (n : Nat) (v0 : AVal) (h : AHeap) : f16.run I call n [v0] h = f16.e I call (f16.J I call n) v0 h := by kernel_rfl
theorem f16.lim {I : Inp} {prims : Nat → Option Prim} (hp : prims 16 = none) {n : Nat} {v0 : AVal} {h : AHeap} {Q : AVal → AHeap → Prop} (hr : Res (f16.e I (AM.lim ⟨P, I, genF P prims⟩) (f16.J I (AM.lim ⟨P, I, genF P prims⟩) n) v0 h) Q) :
    Res (AM.lim ⟨P, I, genF P prims⟩ 16 [v0] h) Q := by
  obtain ⟨v, h', e, q⟩ := hr
  exact ⟨v, h', lim_sf (C := ⟨P, I, genF P prims⟩) (n := n) (f16.ok I (genF P prims) (genF_code hp f16.code)) ((f16.qr I _ n v0 h).trans e), q⟩
/-! (*haruspex/value.Heap).Free -/
noncomputable def c17 : AFunc := (AFunc.mk 20 2 [(.tmp 4)] (.seq (.region [(S 4 (.move (V 0)) .none)]) (.seq (.region [(M 6 0), (M 7 1), (S 8 (.call 21 [(T 6), (T 7)]) .none), (M 5 8)]) (.seq (.block 0 (.seq (.region [(M 10 5), (S 11 (.eq .false .ptr .true (T 10) (.val .nilp)) .none), (M 9 11)]) (.cond (T 9) (.seq (.region [(S 4 (.move (V 1)) .none)]) .ret) (.seq (.region [(M 13 5), (S 14 (.nilCheck (T 13)) .none), (S 15 (.fieldAddr 2 (T 14)) .none), (S 16 (.load1 (T 15)) .none), (M 12 16)]) (.cond (T 12) (.seq (.region [(S 4 (.move (V 2)) .none)]) .ret) .skip))))) (.seq (.region [(M 17 5), (S 18 (.nilCheck (T 17)) .none), (S 19 (.fieldAddr 2 (T 18)) .none), (AOper.mk .none (.store 1 (T 19) (.val (.bool .true))) .none)]) (.seq (.region [(S 4 (.move (V 0)) .none)]) .ret))))))
abbrev f17.Js : Type := (AVal → AHeap → Rs)
noncomputable def f17.b0 (I : Inp) (call : CallFn) (j : f17.Js) (v5 : AVal) (h : AHeap) : Rs :=
  bndP (pNilCheck v5) fun v18 =>
  bndP (pFieldAddr 2 v18) fun v19 =>
  bnd (sStore 1 v19 (.bool .true) h) fun _ h1 =>
  some ((Z 0), h1)
noncomputable def f17.e (I : Inp) (call : CallFn) (j : f17.Js) (v0 v1 : AVal) (h : AHeap) : Rs :=
  bnd (call 21 [v0, v1] h) fun v8 h1 =>
  bndP (pEq P .false .ptr .true v8 .nilp h1) fun v11 =>
  sCond v11 (
  bndP (pNilCheck v8) fun v14 =>
  bndP (pFieldAddr 2 v14) fun v15 =>
  bndP (pLoad1 I v15 h1) fun v16 =>
  sCond v16 (
  j v8 h1) (
  some ((Z 2), h1))) (
  some ((Z 1), h1))
noncomputable def f17.J (I : Inp) (call : CallFn) (n : Nat) : f17.Js :=
  Nat.rec (motive := fun _ => f17.Js) (fun _ _ => none) (fun _ ih => f17.b0 I call ih) n
theorem f17.Jn (I : Inp) (call : CallFn) (n : Nat) : f17.J I call (n + 1) = f17.b0 I call (f17.J I call n) := rfl
noncomputable def f17.JS (I : Inp) (call : CallFn) (n : Nat) : Jmp := fun id ρ h =>
  ((f17.J I call n) (ρ 5) h)
theorem f17.z0 (I : Inp) (call : CallFn) (ρ : Fun) (h : AHeap) : f17.JS I call 0 0 ρ h = none := rfl
theorem f17.q0 (I : Inp) (call : CallFn) (n : Nat) (ρ : Fun) (h : AHeap) : f17.JS I call (n + 1) 0 ρ h = labC P I call (f17.JS I call n) c17.body 0 (finV I c17.results) 0 ρ h := by kernel_rfl
theorem f17.S (I : Inp) (F : Nat → Option AFn) (call : CallFn) : SFn ⟨P, I, F⟩ call c17 (f17.JS I call) :=
  ⟨fun id hid ρ h => by
    have hc : c17.body.cnt = 1 := by kernel_rfl
    rw [hc] at hid
    exact match id, hid with
    | 0, _ => f17.z0 I call ρ h
    | id + 1, hid => absurd hid (by omega), fun n id hid ρ h => by
    have hc : c17.body.cnt = 1 := by kernel_rfl
    rw [hc] at hid
    exact match id, hid with
    | 0, _ => f17.q0 I call n ρ h
    | id + 1, hid => absurd hid (by omega)⟩
noncomputable def f17.run (I : Inp) : SF := fun call n a h =>
  match a with
  | [v0, v1] => f17.e I call (f17.J I call n) v0 v1 h
  | _ => none
theorem f17.qe (I : Inp) (call : CallFn) (n : Nat) (v0 v1 : AVal) (h : AHeap) : f17.e I call (f17.J I call n) v0 v1 h = execC P I call (f17.JS I call n) c17.body 0 (finV I c17.results) (argV [v0, v1]) h := by kernel_rfl
theorem f17.code : codeOf P 17 = some c17 := by kernel_rfl
theorem f17.ok (I : Inp) (F : Nat → Option AFn) (hF : F 17 = some (.code c17)) : SfOk P I F 17 (f17.run I) := by
  intro call hc n args h r hr
  unfold f17.run at hr
  split at hr
  · exact fn_sound (C := ⟨P, I, F⟩) (n := n) hc hF (Nat.le_of_ble_eq_true (by kernel_rfl)) (by kernel_rfl) (f17.S I F call) (by kernel_rfl) ((f17.qe I call n _ _ h).symm.trans hr)
  · cases hr
theorem f17.qr (I : Inp) (call : CallFn) (n : Nat) (v0 v1 : AVal) (h : AHeap) : f17.run I call n [v0, v1] h = f17.e I call (f17.J I call n) v0 v1 h := by kernel_rfl
theorem f17.lim {I : Inp} {prims : Nat → Option Prim} (hp : prims 17 = none) {n : Nat} {v0 v1 : AVal} {h : AHeap} {Q : AVal → AHeap → Prop} (hr : Res (f17.e I (AM.lim ⟨P, I, genF P prims⟩) (f17.J I (AM.lim ⟨P, I, genF P prims⟩) n) v0 v1 h) Q) :
    Res (AM.lim ⟨P, I, genF P prims⟩ 17 [v0, v1] h) Q := by
  obtain ⟨v, h', e, q⟩ := hr
  exact ⟨v, h', lim_sf (C := ⟨P, I, genF P prims⟩) (n := n) (f17.ok I (genF P prims) (genF_code hp f17.code)) ((f17.qr I _ n v0 v1 h).trans e), q⟩
/-! (*haruspex/value.Heap).Site -/
noncomputable def c18 : AFunc := (AFunc.mk 15 2 [(.tmp 4)] (.seq (.region [(S 4 (.move (V 0)) .none)]) (.seq (.seq (.region [(M 6 0), (M 7 1), (S 8 (.call 21 [(T 6), (T 7)]) .none), (M 5 8)]) (.seq (.region [(M 9 5), (S 10 (.eq .true .ptr .true (T 9) (.val .nilp)) .none)]) (.cond (T 10) (.seq (.region [(M 11 5), (S 12 (.nilCheck (T 11)) .none), (S 13 (.fieldAddr 0 (T 12)) .none), (S 14 (.load1 (T 13)) .none), (M 4 14)]) .ret) .skip))) (.seq (.region [(S 4 (.move (.val (.int .i64 (.negSucc 0)))) .none)]) .ret))))
abbrev f18.Js : Type := (AHeap → Rs)
noncomputable def f18.b0 (I : Inp) (call : CallFn) (j : f18.Js) (h : AHeap) : Rs :=
  some ((.int .i64 (.negSucc 0)), h)
noncomputable def f18.e (I : Inp) (call : CallFn) (j : f18.Js) (v0 v1 : AVal) (h : AHeap) : Rs :=
  bnd (call 21 [v0, v1] h) fun v8 h1 =>
  bndP (pEq P .true .ptr .true v8 .nilp h1) fun v10 =>
  sCond v10 (
  j h1) (
  bndP (pNilCheck v8) fun v12 =>
  bndP (pFieldAddr 0 v12) fun v13 =>
  bndP (pLoad1 I v13 h1) fun v14 =>
  some (v14, h1))
noncomputable def f18.J (I : Inp) (call : CallFn) (n : Nat) : f18.Js :=
  Nat.rec (motive := fun _ => f18.Js) (fun _ => none) (fun _ ih => f18.b0 I call ih) n
theorem f18.Jn (I : Inp) (call : CallFn) (n : Nat) : f18.J I call (n + 1) = f18.b0 I call (f18.J I call n) := rfl
noncomputable def f18.JS (I : Inp) (call : CallFn) (n : Nat) : Jmp := fun id ρ h =>
  ((f18.J I call n) h)
theorem f18.z0 (I : Inp) (call : CallFn) (ρ : Fun) (h : AHeap) : f18.JS I call 0 0 ρ h = none := rfl
theorem f18.q0 (I : Inp) (call : CallFn) (n : Nat) (ρ : Fun) (h : AHeap) : f18.JS I call (n + 1) 0 ρ h = labC P I call (f18.JS I call n) c18.body 0 (finV I c18.results) 0 ρ h := by kernel_rfl
theorem f18.S (I : Inp) (F : Nat → Option AFn) (call : CallFn) : SFn ⟨P, I, F⟩ call c18 (f18.JS I call) :=
  ⟨fun id hid ρ h => by
    have hc : c18.body.cnt = 1 := by kernel_rfl
    rw [hc] at hid
    exact match id, hid with
    | 0, _ => f18.z0 I call ρ h
    | id + 1, hid => absurd hid (by omega), fun n id hid ρ h => by
    have hc : c18.body.cnt = 1 := by kernel_rfl
    rw [hc] at hid
    exact match id, hid with
    | 0, _ => f18.q0 I call n ρ h
    | id + 1, hid => absurd hid (by omega)⟩
noncomputable def f18.run (I : Inp) : SF := fun call n a h =>
  match a with
  | [v0, v1] => f18.e I call (f18.J I call n) v0 v1 h
  | _ => none
theorem f18.qe (I : Inp) (call : CallFn) (n : Nat) (v0 v1 : AVal) (h : AHeap) : f18.e I call (f18.J I call n) v0 v1 h = execC P I call (f18.JS I call n) c18.body 0 (finV I c18.results) (argV [v0, v1]) h := by kernel_rfl
theorem f18.code : codeOf P 18 = some c18 := by kernel_rfl
theorem f18.ok (I : Inp) (F : Nat → Option AFn) (hF : F 18 = some (.code c18)) : SfOk P I F 18 (f18.run I) := by
  intro call hc n args h r hr
  unfold f18.run at hr
  split at hr
  · exact fn_sound (C := ⟨P, I, F⟩) (n := n) hc hF (Nat.le_of_ble_eq_true (by kernel_rfl)) (by kernel_rfl) (f18.S I F call) (by kernel_rfl) ((f18.qe I call n _ _ h).symm.trans hr)
  · cases hr
theorem f18.qr (I : Inp) (call : CallFn) (n : Nat) (v0 v1 : AVal) (h : AHeap) : f18.run I call n [v0, v1] h = f18.e I call (f18.J I call n) v0 v1 h := by kernel_rfl
theorem f18.lim {I : Inp} {prims : Nat → Option Prim} (hp : prims 18 = none) {n : Nat} {v0 v1 : AVal} {h : AHeap} {Q : AVal → AHeap → Prop} (hr : Res (f18.e I (AM.lim ⟨P, I, genF P prims⟩) (f18.J I (AM.lim ⟨P, I, genF P prims⟩) n) v0 v1 h) Q) :
    Res (AM.lim ⟨P, I, genF P prims⟩ 18 [v0, v1] h) Q := by
  obtain ⟨v, h', e, q⟩ := hr
  exact ⟨v, h', lim_sf (C := ⟨P, I, genF P prims⟩) (n := n) (f18.ok I (genF P prims) (genF_code hp f18.code)) ((f18.qr I _ n v0 v1 h).trans e), q⟩
/-! (*haruspex/value.Heap).Freed -/
noncomputable def c19 : AFunc := (AFunc.mk 17 2 [(.tmp 4)] (.seq (.region [(S 4 (.move (.val (.bool .false))) .none)]) (.seq (.region [(M 6 0), (M 7 1), (S 8 (.call 21 [(T 6), (T 7)]) .none), (M 5 8)]) (.seq (.region [(M 9 5), (S 10 (.eq .true .ptr .true (T 9) (.val .nilp)) .none), (M 11 10), (S 12 (.move (T 5)) (.some (11, .true))), (S 13 (.nilCheck (T 12)) (.some (11, .true))), (S 14 (.fieldAddr 2 (T 13)) (.some (11, .true))), (S 15 (.load1 (T 14)) (.some (11, .true))), (S 16 (.pick (T 11) (T 15) (.val (.bool .false))) .none), (M 4 16)]) .ret))))
abbrev f19.Js : Type := Unit
noncomputable def f19.e (I : Inp) (call : CallFn) (j : f19.Js) (v0 v1 : AVal) (h : AHeap) : Rs :=
  bnd (call 21 [v0, v1] h) fun v8 h1 =>
  bndP (pEq P .true .ptr .true v8 .nilp h1) fun v10 =>
  bnd (sGuard v10 .true (some (v8, h1)) h1) fun v12 h2 =>
  bnd (sGuard v10 .true (lift (pNilCheck v12) h2) h2) fun v13 h3 =>
  bnd (sGuard v10 .true (lift (pFieldAddr 2 v13) h3) h3) fun v14 h4 =>
  bnd (sGuard v10 .true (lift (pLoad1 I v14 h4) h4) h4) fun v15 h5 =>
  bndP (pPick v10 v15 (.bool .false)) fun v16 =>
  some (v16, h5)
theorem f19.S (I : Inp) (F : Nat → Option AFn) (call : CallFn) : SFn ⟨P, I, F⟩ call c19 (fun _ _ _ _ => none) :=
  ⟨fun _ _ _ _ => rfl, fun n id hid => absurd hid (by rw [show c19.body.cnt = 0 by kernel_rfl]; omega)⟩
noncomputable def f19.run (I : Inp) : SF := fun call n a h =>
  match a with
  | [v0, v1] => f19.e I call () v0 v1 h
  | _ => none
theorem f19.qe (I : Inp) (call : CallFn) (n : Nat) (v0 v1 : AVal) (h : AHeap) : f19.e I call () v0 v1 h = execC P I call (fun _ _ _ => none) c19.body 0 (finV I c19.results) (argV [v0, v1]) h := by kernel_rfl
theorem f19.code : codeOf P 19 = some c19 := by kernel_rfl
theorem f19.ok (I : Inp) (F : Nat → Option AFn) (hF : F 19 = some (.code c19)) : SfOk P I F 19 (f19.run I) := by
  intro call hc n args h r hr
  unfold f19.run at hr
  split at hr
  · exact fn_sound (C := ⟨P, I, F⟩) (n := n) hc hF (Nat.le_of_ble_eq_true (by kernel_rfl)) (by kernel_rfl) (f19.S I F call) (by kernel_rfl) ((f19.qe I call n _ _ h).symm.trans hr)
  · cases hr
theorem f19.qr (I : Inp) (call : CallFn) (n : Nat) (v0 v1 : AVal) (h : AHeap) : f19.run I call n [v0, v1] h = f19.e I call () v0 v1 h := by kernel_rfl
theorem f19.lim {I : Inp} {prims : Nat → Option Prim} (hp : prims 19 = none) {n : Nat} {v0 v1 : AVal} {h : AHeap} {Q : AVal → AHeap → Prop} (hr : Res (f19.e I (AM.lim ⟨P, I, genF P prims⟩) () v0 v1 h) Q) :
    Res (AM.lim ⟨P, I, genF P prims⟩ 19 [v0, v1] h) Q := by
  obtain ⟨v, h', e, q⟩ := hr
  exact ⟨v, h', lim_sf (C := ⟨P, I, genF P prims⟩) (n := 0) (f19.ok I (genF P prims) (genF_code hp f19.code)) ((f19.qr I _ 0 v0 v1 h).trans e), q⟩
/-! (*haruspex/value.Heap).cell -/
noncomputable def c20 : AFunc := (AFunc.mk 38 3 [(.tmp 6), (.tmp 7)] (.seq (.region [(S 6 (.move (.val .nilp)) .none), (S 7 (.move (V 0)) .none)]) (.seq (.region [(M 9 0), (M 10 1), (S 11 (.call 21 [(T 9), (T 10)]) .none), (M 8 11)]) (.seq (.block 0 (.seq (.region [(M 13 8), (S 14 (.eq .false .ptr .true (T 13) (.val .nilp)) .none), (M 12 14)]) (.cond (T 12) (.seq (.region [(S 6 (.move (.val .nilp)) .none), (S 7 (.move (V 1)) .none)]) .ret) (.seq (.region [(M 16 8), (S 17 (.nilCheck (T 16)) .none), (S 18 (.fieldAddr 2 (T 17)) .none), (S 19 (.load1 (T 18)) .none), (M 15 19)]) (.cond (T 15) (.seq (.region [(S 6 (.move (.val .nilp)) .none), (S 7 (.move (V 2)) .none)]) .ret) (.seq (.region [(M 21 2), (S 22 (.bin .lss (T 21) (V 0)) .none), (M 23 22), (S 24 (.move (T 2)) (.some (23, .false))), (S 25 (.move (T 8)) (.some (23, .false))), (S 26 (.nilCheck (T 25)) (.some (23, .false))), (S 27 (.fieldAddr 1 (T 26)) (.some (23, .false))), (S 28 (.load1 (T 27)) (.some (23, .false))), (S 29 (.lenSl (T 28)) (.some (23, .false))), (S 30 (.bin .geq (T 24) (T 29)) (.some (23, .false))), (S 31 (.pick (T 23) (.val (.bool .true)) (T 30)) .none), (M 20 31)]) (.cond (T 20) (.seq (.region [(S 6 (.move (.val .nilp)) .none), (S 7 (.move (V 1)) .none)]) .ret) .skip))))))) (.seq (.region [(M 32 8), (S 33 (.nilCheck (T 32)) .none), (S 34 (.fieldAddr 1 (T 33)) .none), (S 35 (.load1 (T 34)) .none), (M 36 2), (S 37 (.indexAddr 3 (T 35) (T 36)) .none), (M 6 37), (S 7 (.move (V 0)) .none)]) .ret)))))
abbrev f20.Js : Type := (AVal → AVal → AHeap → Rs)
noncomputable def f20.b0 (I : Inp) (call : CallFn) (j : f20.Js) (v2 v8 : AVal) (h : AHeap) : Rs :=
  bndP (pNilCheck v8) fun v33 =>
  bndP (pFieldAddr 1 v33) fun v34 =>
  bndP (pLoad1 I v34 h) fun v35 =>
  bndP (pIndexAddr 3 v35 v2) fun v37 =>
  some (.tuple [v37, (Z 0)], h)
noncomputable def f20.e (I : Inp) (call : CallFn) (j : f20.Js) (v0 v1 v2 : AVal) (h : AHeap) : Rs :=
  bnd (call 21 [v0, v1] h) fun v11 h1 =>
  bndP (pEq P .false .ptr .true v11 .nilp h1) fun v14 =>
  sCond v14 (
  bndP (pNilCheck v11) fun v17 =>
  bndP (pFieldAddr 2 v17) fun v18 =>
  bndP (pLoad1 I v18 h1) fun v19 =>
  sCond v19 (
  bndP (pBin .lss v2 (Z 0)) fun v22 =>
  bnd (sGuard v22 .false (some (v2, h1)) h1) fun v24 h2 =>
  bnd (sGuard v22 .false (some (v11, h2)) h2) fun v25 h3 =>
  bnd (sGuard v22 .false (lift (pNilCheck v25) h3) h3) fun v26 h4 =>
  bnd (sGuard v22 .false (lift (pFieldAddr 1 v26) h4) h4) fun v27 h5 =>
  bnd (sGuard v22 .false (lift (pLoad1 I v27 h5) h5) h5) fun v28 h6 =>
  bnd (sGuard v22 .false (lift (pLenSl v28) h6) h6) fun v29 h7 =>
  bnd (sGuard v22 .false (lift (pBin .geq v24 v29) h7) h7) fun v30 h8 =>
  bndP (pPick v22 (.bool .true) v30) fun v31 =>
  sCond v31 (
  j v2 v11 h8) (
  some (.tuple [.nilp, (Z 1)], h8))) (
  some (.tuple [.nilp, (Z 2)], h1))) (
  some (.tuple [.nilp, (Z 1)], h1))
noncomputable def f20.J (I : Inp) (call : CallFn) (n : Nat) : f20.Js :=
  Nat.rec (motive := fun _ => f20.Js) (fun _ _ _ => none) (fun _ ih => f20.b0 I call ih) n
theorem f20.Jn (I : Inp) (call : CallFn) (n : Nat) : f20.J I call (n + 1) = f20.b0 I call (f20.J I call n) := rfl
noncomputable def f20.JS (I : Inp) (call : CallFn) (n : Nat) : Jmp := fun id ρ h =>
  ((f20.J I call n) (ρ 2) (ρ 8) h)
theorem f20.z0 (I : Inp) (call : CallFn) (ρ : Fun) (h : AHeap) : f20.JS I call 0 0 ρ h = none := rfl
theorem f20.q0 (I : Inp) (call : CallFn) (n : Nat) (ρ : Fun) (h : AHeap) : f20.JS I call (n + 1) 0 ρ h = labC P I call (f20.JS I call n) c20.body 0 (finV I c20.results) 0 ρ h := by kernel_rfl
theorem f20.S (I : Inp) (F : Nat → Option AFn) (call : CallFn) : SFn ⟨P, I, F⟩ call c20 (f20.JS I call) :=
  ⟨fun id hid ρ h => by
    have hc : c20.body.cnt = 1 := by kernel_rfl
    rw [hc] at hid
    exact match id, hid with
    | 0, _ => f20.z0 I call ρ h
    | id + 1, hid => absurd hid (by omega), fun n id hid ρ h => by
    have hc : c20.body.cnt = 1 := by kernel_rfl
    rw [hc] at hid
    exact match id, hid with
    | 0, _ => f20.q0 I call n ρ h
    | id + 1, hid => absurd hid (by omega)⟩
noncomputable def f20.run (I : Inp) : SF := fun call n a h =>
  match a with
  | [v0, v1, v2] => f20.e I call (f20.J I call n) v0 v1 v2 h
  | _ => none
theorem f20.qe (I : Inp) (call : CallFn) (n : Nat) (v0 v1 v2 : AVal) (h : AHeap) : f20.e I call (f20.J I call n) v0 v1 v2 h = execC P I call (f20.JS I call n) c20.body 0 (finV I c20.results) (argV [v0, v1, v2]) h := by kernel_rfl
theorem f20.code : codeOf P 20 = some c20 := by kernel_rfl
theorem f20.ok (I : Inp) (F : Nat → Option AFn) (hF : F 20 = some (.code c20)) : SfOk P I F 20 (f20.run I) := by
  intro call hc n args h r hr
  unfold f20.run at hr
  split at hr
  · exact fn_sound (C := ⟨P, I, F⟩) (n := n) hc hF (Nat.le_of_ble_eq_true (by kernel_rfl)) (by kernel_rfl) (f20.S I F call) (by kernel_rfl) ((f20.qe I call n _ _ _ h).symm.trans hr)
  · cases hr
theorem f20.qr (I : Inp) (call : CallFn) (n : Nat) (v0 v1 v2 : AVal) (h : AHeap) : f20.run I call n [v0, v1, v2] h = f20.e I call (f20.J I call n) v0 v1 v2 h := by kernel_rfl
theorem f20.lim {I : Inp} {prims : Nat → Option Prim} (hp : prims 20 = none) {n : Nat} {v0 v1 v2 : AVal} {h : AHeap} {Q : AVal → AHeap → Prop} (hr : Res (f20.e I (AM.lim ⟨P, I, genF P prims⟩) (f20.J I (AM.lim ⟨P, I, genF P prims⟩) n) v0 v1 v2 h) Q) :
    Res (AM.lim ⟨P, I, genF P prims⟩ 20 [v0, v1, v2] h) Q := by
  obtain ⟨v, h', e, q⟩ := hr
  exact ⟨v, h', lim_sf (C := ⟨P, I, genF P prims⟩) (n := n) (f20.ok I (genF P prims) (genF_code hp f20.code)) ((f20.qr I _ n v0 v1 v2 h).trans e), q⟩
/-! (*haruspex/value.Heap).find -/
noncomputable def c21 : AFunc := (AFunc.mk 28 2 [(.tmp 4)] (.seq (.region [(S 4 (.move (.val .nilp)) .none)]) (.seq (.seq (.region [(M 5 0), (S 6 (.eq .false .ptr .true (T 5) (.val .nilp)) .none), (M 7 6), (S 8 (.move (T 1)) (.some (7, .false))), (S 9 (.bin .lss (T 8) (V 1)) (.some (7, .false))), (S 10 (.pick (T 7) (.val (.bool .true)) (T 9)) .none), (M 11 10), (S 12 (.move (T 1)) (.some (11, .false))), (S 13 (.move (T 0)) (.some (11, .false))), (S 14 (.nilCheck (T 13)) (.some (11, .false))), (S 15 (.fieldAddr 0 (T 14)) (.some (11, .false))), (S 16 (.load1 (T 15)) (.some (11, .false))), (S 17 (.lenSl (T 16)) (.some (11, .false))), (S 18 (.bin .gtr (T 12) (T 17)) (.some (11, .false))), (S 19 (.pick (T 11) (.val (.bool .true)) (T 18)) .none)]) (.cond (T 19) (.seq (.region [(S 4 (.move (.val .nilp)) .none)]) .ret) .skip)) (.seq (.region [(M 20 0), (S 21 (.nilCheck (T 20)) .none), (S 22 (.fieldAddr 0 (T 21)) .none), (S 23 (.load1 (T 22)) .none), (M 24 1), (S 25 (.bin .sub (T 24) (V 1)) .none), (S 26 (.indexAddr 1 (T 23) (T 25)) .none), (S 27 (.load1 (T 26)) .none), (M 4 27)]) .ret))))
abbrev f21.Js : Type := (AVal → AVal → AHeap → Rs)
noncomputable def f21.b0 (I : Inp) (call : CallFn) (j : f21.Js) (v0 v1 : AVal) (h : AHeap) : Rs :=
  bndP (pNilCheck v0) fun v21 =>
  bndP (pFieldAddr 0 v21) fun v22 =>
  bndP (pLoad1 I v22 h) fun v23 =>
  bndP (pBin .sub v1 (Z 1)) fun v25 =>
  bndP (pIndexAddr 1 v23 v25) fun v26 =>
  bndP (pLoad1 I v26 h) fun v27 =>
  some (v27, h)
noncomputable def f21.e (I : Inp) (call : CallFn) (j : f21.Js) (v0 v1 : AVal) (h : AHeap) : Rs :=
  bndP (pEq P .false .ptr .true v0 .nilp h) fun v6 =>
  bnd (sGuard v6 .false (some (v1, h)) h) fun v8 h1 =>
  bnd (sGuard v6 .false (lift (pBin .lss v8 (Z 1)) h1) h1) fun v9 h2 =>
  bndP (pPick v6 (.bool .true) v9) fun v10 =>
  bnd (sGuard v10 .false (some (v1, h2)) h2) fun v12 h3 =>
  bnd (sGuard v10 .false (some (v0, h3)) h3) fun v13 h4 =>
  bnd (sGuard v10 .false (lift (pNilCheck v13) h4) h4) fun v14 h5 =>
  bnd (sGuard v10 .false (lift (pFieldAddr 0 v14) h5) h5) fun v15 h6 =>
  bnd (sGuard v10 .false (lift (pLoad1 I v15 h6) h6) h6) fun v16 h7 =>
  bnd (sGuard v10 .false (lift (pLenSl v16) h7) h7) fun v17 h8 =>
  bnd (sGuard v10 .false (lift (pBin .gtr v12 v17) h8) h8) fun v18 h9 =>
  bndP (pPick v10 (.bool .true) v18) fun v19 =>
  sCond v19 (
  j v0 v1 h9) (
  some (.nilp, h9))
noncomputable def f21.J (I : Inp) (call : CallFn) (n : Nat) : f21.Js :=
  Nat.rec (motive := fun _ => f21.Js) (fun _ _ _ => none) (fun _ ih => f21.b0 I call ih) n
theorem f21.Jn (I : Inp) (call : CallFn) (n : Nat) : f21.J I call (n + 1) = f21.b0 I call (f21.J I call n) := rfl
noncomputable def f21.JS (I : Inp) (call : CallFn) (n : Nat) : Jmp := fun id ρ h =>
  ((f21.J I call n) (ρ 0) (ρ 1) h)
theorem f21.z0 (I : Inp) (call : CallFn) (ρ : Fun) (h : AHeap) : f21.JS I call 0 0 ρ h = none := rfl
theorem f21.q0 (I : Inp) (call : CallFn) (n : Nat) (ρ : Fun) (h : AHeap) : f21.JS I call (n + 1) 0 ρ h = labC P I call (f21.JS I call n) c21.body 0 (finV I c21.results) 0 ρ h := by kernel_rfl
theorem f21.S (I : Inp) (F : Nat → Option AFn) (call : CallFn) : SFn ⟨P, I, F⟩ call c21 (f21.JS I call) :=
  ⟨fun id hid ρ h => by
    have hc : c21.body.cnt = 1 := by kernel_rfl
    rw [hc] at hid
    exact match id, hid with
    | 0, _ => f21.z0 I call ρ h
    | id + 1, hid => absurd hid (by omega), fun n id hid ρ h => by
    have hc : c21.body.cnt = 1 := by kernel_rfl
    rw [hc] at hid
    exact match id, hid with
    | 0, _ => f21.q0 I call n ρ h
    | id + 1, hid => absurd hid (by omega)⟩
noncomputable def f21.run (I : Inp) : SF := fun call n a h =>
  match a with
  | [v0, v1] => f21.e I call (f21.J I call n) v0 v1 h
  | _ => none
theorem f21.qe (I : Inp) (call : CallFn) (n : Nat) (v0 v1 : AVal) (h : AHeap) : f21.e I call (f21.J I call n) v0 v1 h = execC P I call (f21.JS I call n) c21.body 0 (finV I c21.results) (argV [v0, v1]) h := by kernel_rfl
theorem f21.code : codeOf P 21 = some c21 := by kernel_rfl
theorem f21.ok (I : Inp) (F : Nat → Option AFn) (hF : F 21 = some (.code c21)) : SfOk P I F 21 (f21.run I) := by
  intro call hc n args h r hr
  unfold f21.run at hr
  split at hr
  · exact fn_sound (C := ⟨P, I, F⟩) (n := n) hc hF (Nat.le_of_ble_eq_true (by kernel_rfl)) (by kernel_rfl) (f21.S I F call) (by kernel_rfl) ((f21.qe I call n _ _ h).symm.trans hr)
  · cases hr
theorem f21.qr (I : Inp) (call : CallFn) (n : Nat) (v0 v1 : AVal) (h : AHeap) : f21.run I call n [v0, v1] h = f21.e I call (f21.J I call n) v0 v1 h := by kernel_rfl
theorem f21.lim {I : Inp} {prims : Nat → Option Prim} (hp : prims 21 = none) {n : Nat} {v0 v1 : AVal} {h : AHeap} {Q : AVal → AHeap → Prop} (hr : Res (f21.e I (AM.lim ⟨P, I, genF P prims⟩) (f21.J I (AM.lim ⟨P, I, genF P prims⟩) n) v0 v1 h) Q) :
    Res (AM.lim ⟨P, I, genF P prims⟩ 21 [v0, v1] h) Q := by
  obtain ⟨v, h', e, q⟩ := hr
  exact ⟨v, h', lim_sf (C := ⟨P, I, genF P prims⟩) (n := n) (f21.ok I (genF P prims) (genF_code hp f21.code)) ((f21.qr I _ n v0 v1 h).trans e), q⟩
end Go.Proofs.Ytaekibfknmanhaa.Sf
