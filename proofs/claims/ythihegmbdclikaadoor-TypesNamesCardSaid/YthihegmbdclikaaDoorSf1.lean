/- The functions of the program by their labels, on values, part 1: what they compute the abstract machine computes. Conditions: none. -/
import Derived.Test.YthihegmbdclikaaDoorSf0
import Derived.Test.YthihegmbdclikaaDoorProg
namespace Go.Proofs.YthihegmbdclikaaDoor.Sf
open Go.AM
set_option linter.unusedVariables false
/-! haruspex/types.instr -/
noncomputable def c28 : AFunc := (AFunc.mk 151 3 [(.tmp 6)] (.seq (.region [(S 4 (.box (T 1)) .none), (S 5 (.box (T 2)) .none), (S 6 (.move (.val (.bool .false))) .none)]) (.seq (.region [(S 15 (.loadN 6 (T 5)) .none), (S 16 (.call 59 [(T 15)]) .none), (M 14 16), (S 17 (.extract (T 14) 0) .none), (S 18 (.extract (T 14) 1) .none), (S 19 (.extract (T 14) 2) .none), (S 20 (.extract (T 14) 3) .none), (S 21 (.extract (T 14) 4) .none), (S 22 (.extract (T 14) 5) .none), (M 7 17), (M 8 18), (M 9 19), (M 10 20), (M 11 21), (M 12 22)]) (.seq (.region [(FA 23 1 4), (L1 24 23), (S 25 (.lenSl (T 24)) .none), (M 13 25)]) (.seq (.seq (.region [(M 26 12), (S 27 (.un .not (T 26)) .none), (M 28 27), (S 29 (.move (T 7)) (.some (28, .false))), (S 30 (.fieldAddr 1 (T 5)) (.some (28, .false))), (S 31 (.load1 (T 30)) (.some (28, .false))), (S 32 (.move (T 13)) (.some (28, .false))), (S 33 (.call 60 [(T 29), (T 31), (T 32)]) (.some (28, .false))), (S 34 (.un .not (T 33)) (.some (28, .false))), (S 35 (.pick (T 28) (.val (.bool .true)) (T 34)) .none), (M 36 35), (S 37 (.move (T 8)) (.some (36, .false))), (S 38 (.fieldAddr 2 (T 5)) (.some (36, .false))), (S 39 (.load1 (T 38)) (.some (36, .false))), (S 40 (.move (T 13)) (.some (36, .false))), (S 41 (.call 60 [(T 37), (T 39), (T 40)]) (.some (36, .false))), (S 42 (.un .not (T 41)) (.some (36, .false))), (S 43 (.pick (T 36) (.val (.bool .true)) (T 42)) .none), (M 44 43), (S 45 (.move (T 9)) (.some (44, .false))), (S 46 (.fieldAddr 3 (T 5)) (.some (44, .false))), (S 47 (.load1 (T 46)) (.some (44, .false))), (S 48 (.move (T 13)) (.some (44, .false))), (S 49 (.call 60 [(T 45), (T 47), (T 48)]) (.some (44, .false))), (S 50 (.un .not (T 49)) (.some (44, .false))), (S 51 (.pick (T 44) (.val (.bool .true)) (T 50)) .none), (M 52 51), (S 53 (.move (T 10)) (.some (52, .false))), (S 54 (.un .not (T 53)) (.some (52, .false))), (S 55 (.move (T 54)) (.some (52, .false))), (S 56 (.fieldAddr 4 (T 5)) (.some (55, .true))), (S 57 (.load1 (T 56)) (.some (55, .true))), (S 58 (.bin .neq (T 57) (V 0)) (.some (55, .true))), (S 59 (.pick (T 55) (T 58) (.val (.bool .false))) (.some (52, .false))), (S 60 (.pick (T 52) (.val (.bool .true)) (T 59)) .none), (M 61 60), (S 62 (.move (T 11)) (.some (61, .false))), (S 63 (.un .not (T 62)) (.some (61, .false))), (S 64 (.move (T 63)) (.some (61, .false))), (S 65 (.fieldAddr 5 (T 5)) (.some (64, .true))), (S 66 (.load1 (T 65)) (.some (64, .true))), (S 67 (.lenSl (T 66)) (.some (64, .true))), (S 68 (.bin .gtr (T 67) (V 0)) (.some (64, .true))), (S 69 (.pick (T 64) (T 68) (.val (.bool .false))) (.some (61, .false))), (S 70 (.pick (T 61) (.val (.bool .true)) (T 69)) .none), (M 71 70), (S 72 (.fieldAddr 5 (T 5)) (.some (71, .false))), (S 73 (.load1 (T 72)) (.some (71, .false))), (S 74 (.move (T 13)) (.some (71, .false))), (S 75 (.call 58 [(T 73), (T 74)]) (.some (71, .false))), (S 76 (.un .not (T 75)) (.some (71, .false))), (S 77 (.pick (T 71) (.val (.bool .true)) (T 76)) .none)]) (.cond (T 77) (.seq (.region [(S 6 (.move (.val (.bool .false))) .none)]) .ret) .skip)) (.seq (.seq (.region [(FA 78 0 5), (L1 79 78)]) (.block 0 (.seq (.seq (.region [(S 81 (.bin .eql (T 79) (V 10)) .none), (M 80 81)]) (.cond (T 80) .skip (.region [(S 82 (.bin .eql (T 79) (V 12)) .none), (M 80 82)]))) (.cond (T 80) (.seq (.draw [(FA 83 4 5), (L1 84 83), (M 85 0), (NC 86 85), (FA 87 4 86), (L1 88 87), (S 89 (.lenSl (T 88)) .none), (S 90 (.call 25 [(T 84), (T 89)]) .none), (M 6 90)] [N, N, N, N, N, N, N, Y, N] 0) .ret) (.seq (.seq (.region [(S 92 (.bin .eql (T 79) (V 7)) .none), (M 91 92)]) (.cond (T 91) .skip (.region [(S 93 (.bin .eql (T 79) (V 8)) .none), (M 91 93)]))) (.cond (T 91) (.seq (.draw [(FA 94 1 4), (L1 95 94), (FA 96 2 5), (L1 97 96), (S 98 (.indexAddr 2 (T 95) (T 97)) .none), (FA 99 0 98), (L1 100 99), (S 101 (.bin .neq (T 100) (V 1)) .none), (M 102 101), (S 103 (.fieldAddr 4 (T 5)) (.some (102, .false))), (S 104 (.load1 (T 103)) (.some (102, .false))), (S 105 (.move (T 0)) (.some (102, .false))), (S 106 (.nilCheck (T 105)) (.some (102, .false))), (S 107 (.fieldAddr 0 (T 106)) (.some (102, .false))), (S 108 (.load1 (T 107)) (.some (102, .false))), (S 109 (.fieldAddr 1 (T 4)) (.some (102, .false))), (S 110 (.load1 (T 109)) (.some (102, .false))), (S 111 (.fieldAddr 2 (T 5)) (.some (102, .false))), (S 112 (.load1 (T 111)) (.some (102, .false))), (S 113 (.indexAddr 2 (T 110) (T 112)) (.some (102, .false))), (S 114 (.fieldAddr 1 (T 113)) (.some (102, .false))), (S 115 (.load1 (T 114)) (.some (102, .false))), (S 116 (.indexAddr 1 (T 108) (T 115)) (.some (102, .false))), (S 117 (.load1 (T 116)) (.some (102, .false))), (S 118 (.lenSl (T 117)) (.some (102, .false))), (S 119 (.call 25 [(T 104), (T 118)]) (.some (102, .false))), (S 120 (.pick (T 102) (.val (.bool .true)) (T 119)) .none), (M 6 120)] [N, N, N, N, N, N, N, N, N, N, N, N, N, N, N, N, N, N, N, N, N, N, N, N, N, Y, N, N] 0) .ret) (.seq (.region [(S 122 (.bin .eql (T 79) (V 14)) .none), (M 121 122)]) (.cond (T 121) (.seq (.draw [(FA 123 1 4), (L1 124 123), (FA 125 2 5), (L1 126 125), (S 127 (.indexAddr 2 (T 124) (T 126)) .none), (FA 128 0 127), (L1 129 128), (S 130 (.bin .neq (T 129) (V 3)) .none), (M 131 130), (S 132 (.fieldAddr 4 (T 5)) (.some (131, .false))), (S 133 (.load1 (T 132)) (.some (131, .false))), (S 134 (.move (T 0)) (.some (131, .false))), (S 135 (.nilCheck (T 134)) (.some (131, .false))), (S 136 (.fieldAddr 2 (T 135)) (.some (131, .false))), (S 137 (.load1 (T 136)) (.some (131, .false))), (S 138 (.fieldAddr 1 (T 4)) (.some (131, .false))), (S 139 (.load1 (T 138)) (.some (131, .false))), (S 140 (.fieldAddr 2 (T 5)) (.some (131, .false))), (S 141 (.load1 (T 140)) (.some (131, .false))), (S 142 (.indexAddr 2 (T 139) (T 141)) (.some (131, .false))), (S 143 (.fieldAddr 1 (T 142)) (.some (131, .false))), (S 144 (.load1 (T 143)) (.some (131, .false))), (S 145 (.indexAddr 1 (T 137) (T 144)) (.some (131, .false))), (S 146 (.fieldAddr 0 (T 145)) (.some (131, .false))), (S 147 (.load1 (T 146)) (.some (131, .false))), (S 148 (.lenSl (T 147)) (.some (131, .false))), (S 149 (.call 25 [(T 133), (T 148)]) (.some (131, .false))), (S 150 (.pick (T 131) (.val (.bool .true)) (T 149)) .none), (M 6 150)] [N, N, N, N, N, N, N, N, N, N, N, N, N, N, N, N, N, N, N, N, N, N, N, N, N, N, Y, N, N] 0) .ret) .skip)))))))) (.seq (.region [(S 6 (.move (.val (.bool .true))) .none)]) .ret)))))))
abbrev f28.Js : Type := (((AVal → AVal → AVal → AHeap → Rs) × (AHeap → Rs)) × ((AVal → AVal → AVal → AVal → AVal → AHeap → Rs) × (AVal → AVal → AVal → AVal → AVal → AHeap → Rs)))
noncomputable def f28.b0 (I : Inp) (call : CallFn) (j : f28.Js) (v0 v4 v5 : AVal) (h : AHeap) : Rs :=
  bndP (pFieldAddr 0 v5) fun v78 =>
  bndP (pLoad1 I v78 h) fun v79 =>
  bndP (pBin .eql v79 (Z 10)) fun v81 =>
  sCond v81 (
  bndP (pBin .eql v79 (Z 12)) fun v82 =>
  j.2.1 v0 v4 v5 v79 v82 h) (
  j.2.1 v0 v4 v5 v79 v81 h)
noncomputable def f28.b1 (I : Inp) (call : CallFn) (j : f28.Js) (h : AHeap) : Rs :=
  some ((.bool .true), h)
noncomputable def f28.b2 (I : Inp) (call : CallFn) (j : f28.Js) (v0 v4 v5 v79 v80 : AVal) (h : AHeap) : Rs :=
  sCond v80 (
  bndP (pBin .eql v79 (Z 7)) fun v92 =>
  sCond v92 (
  bndP (pBin .eql v79 (Z 8)) fun v93 =>
  j.2.2 v0 v4 v5 v79 v93 h) (
  j.2.2 v0 v4 v5 v79 v92 h)) (
  bndP (pFieldAddr 4 v5) fun v83 =>
  bndP (pLoad1 I v83 h) fun v84 =>
  bndP (pNilCheck v0) fun v86 =>
  bndP (pFieldAddr 4 v86) fun v87 =>
  bndP (pLoad1 I v87 h) fun v88 =>
  bndP (pLenSl v88) fun v89 =>
  bnd (call 25 [v84, v89] h) fun v90 h1 =>
  some (v90, h1))
noncomputable def f28.b3 (I : Inp) (call : CallFn) (j : f28.Js) (v0 v4 v5 v79 v91 : AVal) (h : AHeap) : Rs :=
  sCond v91 (
  bndP (pBin .eql v79 (Z 14)) fun v122 =>
  sCond v122 (
  j.1.2 h) (
  bndP (pFieldAddr 1 v4) fun v123 =>
  bndP (pLoad1 I v123 h) fun v124 =>
  bndP (pFieldAddr 2 v5) fun v125 =>
  bndP (pLoad1 I v125 h) fun v126 =>
  bndP (pIndexAddr 2 v124 v126) fun v127 =>
  bndP (pFieldAddr 0 v127) fun v128 =>
  bndP (pLoad1 I v128 h) fun v129 =>
  bndP (pBin .neq v129 (Z 3)) fun v130 =>
  bnd (sGuard v130 .false (lift (pFieldAddr 4 v5) h) h) fun v132 h1 =>
  bnd (sGuard v130 .false (lift (pLoad1 I v132 h1) h1) h1) fun v133 h2 =>
  bnd (sGuard v130 .false (some (v0, h2)) h2) fun v134 h3 =>
  bnd (sGuard v130 .false (lift (pNilCheck v134) h3) h3) fun v135 h4 =>
  bnd (sGuard v130 .false (lift (pFieldAddr 2 v135) h4) h4) fun v136 h5 =>
  bnd (sGuard v130 .false (lift (pLoad1 I v136 h5) h5) h5) fun v137 h6 =>
  bnd (sGuard v130 .false (lift (pFieldAddr 1 v4) h6) h6) fun v138 h7 =>
  bnd (sGuard v130 .false (lift (pLoad1 I v138 h7) h7) h7) fun v139 h8 =>
  bnd (sGuard v130 .false (lift (pFieldAddr 2 v5) h8) h8) fun v140 h9 =>
  bnd (sGuard v130 .false (lift (pLoad1 I v140 h9) h9) h9) fun v141 h10 =>
  bnd (sGuard v130 .false (lift (pIndexAddr 2 v139 v141) h10) h10) fun v142 h11 =>
  bnd (sGuard v130 .false (lift (pFieldAddr 1 v142) h11) h11) fun v143 h12 =>
  bnd (sGuard v130 .false (lift (pLoad1 I v143 h12) h12) h12) fun v144 h13 =>
  bnd (sGuard v130 .false (lift (pIndexAddr 1 v137 v144) h13) h13) fun v145 h14 =>
  bnd (sGuard v130 .false (lift (pFieldAddr 0 v145) h14) h14) fun v146 h15 =>
  bnd (sGuard v130 .false (lift (pLoad1 I v146 h15) h15) h15) fun v147 h16 =>
  bnd (sGuard v130 .false (lift (pLenSl v147) h16) h16) fun v148 h17 =>
  bnd (sGuard v130 .false (call 25 [v133, v148] h17) h17) fun v149 h18 =>
  bndP (pPick v130 (.bool .true) v149) fun v150 =>
  some (v150, h18))) (
  bndP (pFieldAddr 1 v4) fun v94 =>
  bndP (pLoad1 I v94 h) fun v95 =>
  bndP (pFieldAddr 2 v5) fun v96 =>
  bndP (pLoad1 I v96 h) fun v97 =>
  bndP (pIndexAddr 2 v95 v97) fun v98 =>
  bndP (pFieldAddr 0 v98) fun v99 =>
  bndP (pLoad1 I v99 h) fun v100 =>
  bndP (pBin .neq v100 (Z 1)) fun v101 =>
  bnd (sGuard v101 .false (lift (pFieldAddr 4 v5) h) h) fun v103 h19 =>
  bnd (sGuard v101 .false (lift (pLoad1 I v103 h19) h19) h19) fun v104 h20 =>
  bnd (sGuard v101 .false (some (v0, h20)) h20) fun v105 h21 =>
  bnd (sGuard v101 .false (lift (pNilCheck v105) h21) h21) fun v106 h22 =>
  bnd (sGuard v101 .false (lift (pFieldAddr 0 v106) h22) h22) fun v107 h23 =>
  bnd (sGuard v101 .false (lift (pLoad1 I v107 h23) h23) h23) fun v108 h24 =>
  bnd (sGuard v101 .false (lift (pFieldAddr 1 v4) h24) h24) fun v109 h25 =>
  bnd (sGuard v101 .false (lift (pLoad1 I v109 h25) h25) h25) fun v110 h26 =>
  bnd (sGuard v101 .false (lift (pFieldAddr 2 v5) h26) h26) fun v111 h27 =>
  bnd (sGuard v101 .false (lift (pLoad1 I v111 h27) h27) h27) fun v112 h28 =>
  bnd (sGuard v101 .false (lift (pIndexAddr 2 v110 v112) h28) h28) fun v113 h29 =>
  bnd (sGuard v101 .false (lift (pFieldAddr 1 v113) h29) h29) fun v114 h30 =>
  bnd (sGuard v101 .false (lift (pLoad1 I v114 h30) h30) h30) fun v115 h31 =>
  bnd (sGuard v101 .false (lift (pIndexAddr 1 v108 v115) h31) h31) fun v116 h32 =>
  bnd (sGuard v101 .false (lift (pLoad1 I v116 h32) h32) h32) fun v117 h33 =>
  bnd (sGuard v101 .false (lift (pLenSl v117) h33) h33) fun v118 h34 =>
  bnd (sGuard v101 .false (call 25 [v104, v118] h34) h34) fun v119 h35 =>
  bndP (pPick v101 (.bool .true) v119) fun v120 =>
  some (v120, h35))
noncomputable def f28.e (I : Inp) (call : CallFn) (j : f28.Js) (v0 v1 v2 : AVal) (h : AHeap) : Rs :=
  bnd (sBox v1 h) fun v4 h1 =>
  bnd (sBox v2 h1) fun v5 h2 =>
  bndP (pLoadN I 6 v5 h2) fun v15 =>
  bnd (call 59 [v15] h2) fun v16 h3 =>
  bndP (pExtract v16 0) fun v17 =>
  bndP (pExtract v16 1) fun v18 =>
  bndP (pExtract v16 2) fun v19 =>
  bndP (pExtract v16 3) fun v20 =>
  bndP (pExtract v16 4) fun v21 =>
  bndP (pExtract v16 5) fun v22 =>
  bndP (pFieldAddr 1 v4) fun v23 =>
  bndP (pLoad1 I v23 h3) fun v24 =>
  bndP (pLenSl v24) fun v25 =>
  bndP (pUn .not v22) fun v27 =>
  bnd (sGuard v27 .false (some (v17, h3)) h3) fun v29 h4 =>
  bnd (sGuard v27 .false (lift (pFieldAddr 1 v5) h4) h4) fun v30 h5 =>
  bnd (sGuard v27 .false (lift (pLoad1 I v30 h5) h5) h5) fun v31 h6 =>
  bnd (sGuard v27 .false (some (v25, h6)) h6) fun v32 h7 =>
  bnd (sGuard v27 .false (call 60 [v29, v31, v32] h7) h7) fun v33 h8 =>
  bnd (sGuard v27 .false (lift (pUn .not v33) h8) h8) fun v34 h9 =>
  bndP (pPick v27 (.bool .true) v34) fun v35 =>
  bnd (sGuard v35 .false (some (v18, h9)) h9) fun v37 h10 =>
  bnd (sGuard v35 .false (lift (pFieldAddr 2 v5) h10) h10) fun v38 h11 =>
  bnd (sGuard v35 .false (lift (pLoad1 I v38 h11) h11) h11) fun v39 h12 =>
  bnd (sGuard v35 .false (some (v25, h12)) h12) fun v40 h13 =>
  bnd (sGuard v35 .false (call 60 [v37, v39, v40] h13) h13) fun v41 h14 =>
  bnd (sGuard v35 .false (lift (pUn .not v41) h14) h14) fun v42 h15 =>
  bndP (pPick v35 (.bool .true) v42) fun v43 =>
  bnd (sGuard v43 .false (some (v19, h15)) h15) fun v45 h16 =>
  bnd (sGuard v43 .false (lift (pFieldAddr 3 v5) h16) h16) fun v46 h17 =>
  bnd (sGuard v43 .false (lift (pLoad1 I v46 h17) h17) h17) fun v47 h18 =>
  bnd (sGuard v43 .false (some (v25, h18)) h18) fun v48 h19 =>
  bnd (sGuard v43 .false (call 60 [v45, v47, v48] h19) h19) fun v49 h20 =>
  bnd (sGuard v43 .false (lift (pUn .not v49) h20) h20) fun v50 h21 =>
  bndP (pPick v43 (.bool .true) v50) fun v51 =>
  bnd (sGuard v51 .false (some (v20, h21)) h21) fun v53 h22 =>
  bnd (sGuard v51 .false (lift (pUn .not v53) h22) h22) fun v54 h23 =>
  bnd (sGuard v51 .false (some (v54, h23)) h23) fun v55 h24 =>
  bnd (sGuard v55 .true (lift (pFieldAddr 4 v5) h24) h24) fun v56 h25 =>
  bnd (sGuard v55 .true (lift (pLoad1 I v56 h25) h25) h25) fun v57 h26 =>
  bnd (sGuard v55 .true (lift (pBin .neq v57 (Z 0)) h26) h26) fun v58 h27 =>
  bnd (sGuard v51 .false (lift (pPick v55 v58 (.bool .false)) h27) h27) fun v59 h28 =>
  bndP (pPick v51 (.bool .true) v59) fun v60 =>
  bnd (sGuard v60 .false (some (v21, h28)) h28) fun v62 h29 =>
  bnd (sGuard v60 .false (lift (pUn .not v62) h29) h29) fun v63 h30 =>
  bnd (sGuard v60 .false (some (v63, h30)) h30) fun v64 h31 =>
  bnd (sGuard v64 .true (lift (pFieldAddr 5 v5) h31) h31) fun v65 h32 =>
  bnd (sGuard v64 .true (lift (pLoad1 I v65 h32) h32) h32) fun v66 h33 =>
  bnd (sGuard v64 .true (lift (pLenSl v66) h33) h33) fun v67 h34 =>
  bnd (sGuard v64 .true (lift (pBin .gtr v67 (Z 0)) h34) h34) fun v68 h35 =>
  bnd (sGuard v60 .false (lift (pPick v64 v68 (.bool .false)) h35) h35) fun v69 h36 =>
  bndP (pPick v60 (.bool .true) v69) fun v70 =>
  bnd (sGuard v70 .false (lift (pFieldAddr 5 v5) h36) h36) fun v72 h37 =>
  bnd (sGuard v70 .false (lift (pLoad1 I v72 h37) h37) h37) fun v73 h38 =>
  bnd (sGuard v70 .false (some (v25, h38)) h38) fun v74 h39 =>
  bnd (sGuard v70 .false (call 58 [v73, v74] h39) h39) fun v75 h40 =>
  bnd (sGuard v70 .false (lift (pUn .not v75) h40) h40) fun v76 h41 =>
  bndP (pPick v70 (.bool .true) v76) fun v77 =>
  sCond v77 (
  j.1.1 v0 v4 v5 h41) (
  some ((.bool .false), h41))
noncomputable def f28.J (I : Inp) (call : CallFn) (n : Nat) : f28.Js :=
  Nat.rec (motive := fun _ => f28.Js) (((fun _ _ _ _ => none), (fun _ => none)), ((fun _ _ _ _ _ _ => none), (fun _ _ _ _ _ _ => none))) (fun _ ih => ((f28.b0 I call ih, f28.b1 I call ih), (f28.b2 I call ih, f28.b3 I call ih))) n
theorem f28.n0 (I : Inp) (call : CallFn) (n : Nat) : (f28.J I call (n + 1)).1.1 = f28.b0 I call (f28.J I call n) := Eq.trans rfl rfl
theorem f28.n1 (I : Inp) (call : CallFn) (n : Nat) : (f28.J I call (n + 1)).1.2 = f28.b1 I call (f28.J I call n) := Eq.trans rfl rfl
theorem f28.n2 (I : Inp) (call : CallFn) (n : Nat) : (f28.J I call (n + 1)).2.1 = f28.b2 I call (f28.J I call n) := Eq.trans rfl rfl
theorem f28.n3 (I : Inp) (call : CallFn) (n : Nat) : (f28.J I call (n + 1)).2.2 = f28.b3 I call (f28.J I call n) := Eq.trans rfl rfl
noncomputable def f28.JS (I : Inp) (call : CallFn) (n : Nat) : Jmp := fun id ρ h =>
  (Bool.rec (motive := fun _ => _) (Bool.rec (motive := fun _ => _) ((f28.J I call n).2.2 (ρ 0) (ρ 4) (ρ 5) (ρ 79) (ρ 91) h) ((f28.J I call n).2.1 (ρ 0) (ρ 4) (ρ 5) (ρ 79) (ρ 80) h) (Nat.blt id 3)) (Bool.rec (motive := fun _ => _) ((f28.J I call n).1.2 h) ((f28.J I call n).1.1 (ρ 0) (ρ 4) (ρ 5) h) (Nat.blt id 1)) (Nat.blt id 2))
theorem f28.q0 (I : Inp) (call : CallFn) (n : Nat) (ρ : Fun) (h : AHeap) : f28.JS I call (n + 1) 0 ρ h = labC P I call (f28.JS I call n) c28.body 0 (finV I c28.results) 0 ρ h := by kernel_rfl
theorem f28.q1 (I : Inp) (call : CallFn) (n : Nat) (ρ : Fun) (h : AHeap) : f28.JS I call (n + 1) 1 ρ h = labC P I call (f28.JS I call n) c28.body 0 (finV I c28.results) 1 ρ h := by kernel_rfl
theorem f28.q2 (I : Inp) (call : CallFn) (n : Nat) (ρ : Fun) (h : AHeap) : f28.JS I call (n + 1) 2 ρ h = labC P I call (f28.JS I call n) c28.body 0 (finV I c28.results) 2 ρ h := by kernel_rfl
theorem f28.q3 (I : Inp) (call : CallFn) (n : Nat) (ρ : Fun) (h : AHeap) : f28.JS I call (n + 1) 3 ρ h = labC P I call (f28.JS I call n) c28.body 0 (finV I c28.results) 3 ρ h := by kernel_rfl
theorem f28.S (I : Inp) (F : Nat → Option AFn) (call : CallFn) : SFn ⟨P, I, F⟩ call c28 (f28.JS I call) :=
  ⟨fun id hid ρ h => by
    have hc : c28.body.cnt = 4 := by kernel_rfl
    rw [hc] at hid
    exact match id, hid with
    | 0, _ => rfl
    | 1, _ => rfl
    | 2, _ => rfl
    | 3, _ => rfl
    | id + 4, hid => absurd hid (by omega), fun n id hid ρ h => by
    have hc : c28.body.cnt = 4 := by kernel_rfl
    rw [hc] at hid
    exact match id, hid with
    | 0, _ => f28.q0 I call n ρ h
    | 1, _ => f28.q1 I call n ρ h
    | 2, _ => f28.q2 I call n ρ h
    | 3, _ => f28.q3 I call n ρ h
    | id + 4, hid => absurd hid (by omega)⟩
noncomputable def f28.run (I : Inp) : SF := fun call n a h =>
  match a with
  | [v0, v1, v2] => f28.e I call (f28.J I call n) v0 v1 v2 h
  | _ => none
theorem f28.qe (I : Inp) (call : CallFn) (n : Nat) (v0 v1 v2 : AVal) (h : AHeap) : f28.e I call (f28.J I call n) v0 v1 v2 h = execC P I call (f28.JS I call n) c28.body 0 (finV I c28.results) (argV [v0, v1, v2]) h := by kernel_rfl
theorem f28.code : codeOf P 28 = some c28 := by kernel_rfl
theorem f28.ok (I : Inp) (F : Nat → Option AFn) (hF : F 28 = some (.code c28)) : SfOk P I F 28 (f28.run I) := by
  intro call hc n args h r hr
  unfold f28.run at hr
  split at hr
  · exact fn_sound (C := ⟨P, I, F⟩) (n := n) hc hF (Nat.le_of_ble_eq_true (by kernel_rfl)) (by kernel_rfl) (f28.S I F call) (by kernel_rfl) ((f28.qe I call n _ _ _ h).symm.trans hr)
  · cases hr
theorem f28.qr (I : Inp) (call : CallFn) (n : Nat) (v0 v1 v2 : AVal) (h : AHeap) : f28.run I call n [v0, v1, v2] h = f28.e I call (f28.J I call n) v0 v1 v2 h := by kernel_rfl
theorem f28.lim {I : Inp} {prims : Nat → Option Prim} (hp : prims 28 = none) {n : Nat} {v0 v1 v2 : AVal} {h : AHeap} {Q : AVal → AHeap → Prop} (hr : Res (f28.e I (AM.lim ⟨P, I, genF P prims⟩) (f28.J I (AM.lim ⟨P, I, genF P prims⟩) n) v0 v1 v2 h) Q) :
    Res (AM.lim ⟨P, I, genF P prims⟩ 28 [v0, v1, v2] h) Q := by
  obtain ⟨v, h', e, q⟩ := hr
  exact ⟨v, h', lim_sf (C := ⟨P, I, genF P prims⟩) (n := n) (f28.ok I (genF P prims) (genF_code hp f28.code)) ((f28.qr I _ n v0 v1 v2 h).trans e), q⟩
/-! haruspex/types.Fits$1 -/
noncomputable def c29 : AFunc := (AFunc.mk 9 1 [(.tmp 3)] (.seq (.region [(S 3 (.move (V 0)) .none)]) (.seq (.region [(L1 4 1), (M 5 0), (S 6 (.indexAddr 2 (T 4) (T 5)) .none), (FA 7 0 6), (L1 8 7), (M 3 8)]) .ret)))
abbrev f29.Js : Type := Unit
noncomputable def f29.e (I : Inp) (call : CallFn) (j : f29.Js) (v0 v1 : AVal) (h : AHeap) : Rs :=
  bndP (pLoad1 I v1 h) fun v4 =>
  bndP (pIndexAddr 2 v4 v0) fun v6 =>
  bndP (pFieldAddr 0 v6) fun v7 =>
  bndP (pLoad1 I v7 h) fun v8 =>
  some (v8, h)
theorem f29.S (I : Inp) (F : Nat → Option AFn) (call : CallFn) : SFn ⟨P, I, F⟩ call c29 (fun _ _ _ _ => none) :=
  ⟨fun _ _ _ _ => rfl, fun n id hid => absurd hid (by rw [show c29.body.cnt = 0 by kernel_rfl]; omega)⟩
noncomputable def f29.run (I : Inp) : SF := fun call n a h =>
  match a with
  | [v0, v1] => f29.e I call () v0 v1 h
  | _ => none
theorem f29.qe (I : Inp) (call : CallFn) (n : Nat) (v0 v1 : AVal) (h : AHeap) : f29.e I call () v0 v1 h = execC P I call (fun _ _ _ => none) c29.body 0 (finV I c29.results) (argV [v0, v1]) h := by kernel_rfl
theorem f29.code : codeOf P 29 = some c29 := by kernel_rfl
theorem f29.ok (I : Inp) (F : Nat → Option AFn) (hF : F 29 = some (.code c29)) : SfOk P I F 29 (f29.run I) := by
  intro call hc n args h r hr
  unfold f29.run at hr
  split at hr
  · exact fn_sound (C := ⟨P, I, F⟩) (n := n) hc hF (Nat.le_of_ble_eq_true (by kernel_rfl)) (by kernel_rfl) (f29.S I F call) (by kernel_rfl) ((f29.qe I call n _ _ h).symm.trans hr)
  · cases hr
/-! haruspex/types.sig -/
noncomputable def c30 : AFunc := (AFunc.mk 23 2 [(.tmp 4), (.tmp 5)] (.seq (.region [(S 4 (.move (V 0)) .none), (S 5 (.move (.val (.bool .false))) .none)]) (.seq (.region [(M 7 0), (NC 8 7), (FA 9 4 8), (L1 10 9), (M 11 1), (S 12 (.indexAddr 3 (T 10) (T 11)) .none), (FA 13 0 12), (L1 14 13), (M 6 14)]) (.seq (.region [(M 15 6), (M 16 6), (M 17 0), (NC 18 17), (FA 19 1 18), (L1 20 19), (S 21 (.lenSl (T 20)) .none), (S 22 (.call 25 [(T 16), (T 21)]) .none), (M 4 15), (M 5 22)]) .ret))))
abbrev f30.Js : Type := Unit
noncomputable def f30.e (I : Inp) (call : CallFn) (j : f30.Js) (v0 v1 : AVal) (h : AHeap) : Rs :=
  bndP (pNilCheck v0) fun v8 =>
  bndP (pFieldAddr 4 v8) fun v9 =>
  bndP (pLoad1 I v9 h) fun v10 =>
  bndP (pIndexAddr 3 v10 v1) fun v12 =>
  bndP (pFieldAddr 0 v12) fun v13 =>
  bndP (pLoad1 I v13 h) fun v14 =>
  bndP (pNilCheck v0) fun v18 =>
  bndP (pFieldAddr 1 v18) fun v19 =>
  bndP (pLoad1 I v19 h) fun v20 =>
  bndP (pLenSl v20) fun v21 =>
  bnd (call 25 [v14, v21] h) fun v22 h1 =>
  some (.tuple [v14, v22], h1)
theorem f30.S (I : Inp) (F : Nat → Option AFn) (call : CallFn) : SFn ⟨P, I, F⟩ call c30 (fun _ _ _ _ => none) :=
  ⟨fun _ _ _ _ => rfl, fun n id hid => absurd hid (by rw [show c30.body.cnt = 0 by kernel_rfl]; omega)⟩
noncomputable def f30.run (I : Inp) : SF := fun call n a h =>
  match a with
  | [v0, v1] => f30.e I call () v0 v1 h
  | _ => none
theorem f30.qe (I : Inp) (call : CallFn) (n : Nat) (v0 v1 : AVal) (h : AHeap) : f30.e I call () v0 v1 h = execC P I call (fun _ _ _ => none) c30.body 0 (finV I c30.results) (argV [v0, v1]) h := by kernel_rfl
theorem f30.code : codeOf P 30 = some c30 := by kernel_rfl
theorem f30.ok (I : Inp) (F : Nat → Option AFn) (hF : F 30 = some (.code c30)) : SfOk P I F 30 (f30.run I) := by
  intro call hc n args h r hr
  unfold f30.run at hr
  split at hr
  · exact fn_sound (C := ⟨P, I, F⟩) (n := n) hc hF (Nat.le_of_ble_eq_true (by kernel_rfl)) (by kernel_rfl) (f30.S I F call) (by kernel_rfl) ((f30.qe I call n _ _ h).symm.trans hr)
  · cases hr
/-! haruspex/types.Impl -/
noncomputable def c31 : AFunc := (AFunc.mk 13 3 [(.tmp 6)] (.seq (.region [(S 4 (.box (T 1)) .none), (S 5 (.box (T 2)) .none), (S 6 (.move (V 0)) .none)]) (.seq (.region [(M 7 0), (NC 8 7), (FA 9 3 8), (L1 10 9), (S 11 (.mkFunc (.func 62) [] [(T 4), (T 5)]) .none), (S 12 (.call 61 [(T 10), (T 11)]) .none), (M 6 12)]) .ret)))
abbrev f31.Js : Type := Unit
noncomputable def f31.e (I : Inp) (call : CallFn) (j : f31.Js) (v0 v1 v2 : AVal) (h : AHeap) : Rs :=
  bnd (sBox v1 h) fun v4 h1 =>
  bnd (sBox v2 h1) fun v5 h2 =>
  bndP (pNilCheck v0) fun v8 =>
  bndP (pFieldAddr 3 v8) fun v9 =>
  bndP (pLoad1 I v9 h2) fun v10 =>
  bnd (call 61 [v10, (.func (.func 62) [] [v4, v5])] h2) fun v12 h3 =>
  some (v12, h3)
theorem f31.S (I : Inp) (F : Nat → Option AFn) (call : CallFn) : SFn ⟨P, I, F⟩ call c31 (fun _ _ _ _ => none) :=
  ⟨fun _ _ _ _ => rfl, fun n id hid => absurd hid (by rw [show c31.body.cnt = 0 by kernel_rfl]; omega)⟩
noncomputable def f31.run (I : Inp) : SF := fun call n a h =>
  match a with
  | [v0, v1, v2] => f31.e I call () v0 v1 v2 h
  | _ => none
theorem f31.qe (I : Inp) (call : CallFn) (n : Nat) (v0 v1 v2 : AVal) (h : AHeap) : f31.e I call () v0 v1 v2 h = execC P I call (fun _ _ _ => none) c31.body 0 (finV I c31.results) (argV [v0, v1, v2]) h := by kernel_rfl
theorem f31.code : codeOf P 31 = some c31 := by kernel_rfl
theorem f31.ok (I : Inp) (F : Nat → Option AFn) (hF : F 31 = some (.code c31)) : SfOk P I F 31 (f31.run I) := by
  intro call hc n args h r hr
  unfold f31.run at hr
  split at hr
  · exact fn_sound (C := ⟨P, I, F⟩) (n := n) hc hF (Nat.le_of_ble_eq_true (by kernel_rfl)) (by kernel_rfl) (f31.S I F call) (by kernel_rfl) ((f31.qe I call n _ _ _ h).symm.trans hr)
  · cases hr
/-! haruspex/types.call -/
noncomputable def c32 : AFunc := (AFunc.mk 129 3 [(.tmp 6)] (.seq (.region [(S 5 (.box (T 2)) .none), (S 6 (.move (.val (.bool .false))) .none)]) (.seq (.region [(S 7 (.move (V 0)) .none), (S 8 (.move (.val (.bool .false))) .none)]) (.seq (.block 0 (.seq (.region [(FA 12 0 5), (L1 13 12), (S 14 (.bin .eql (T 13) (V 12)) .none), (M 11 14)]) (.cond (T 11) (.region [(M 16 0), (FA 17 4 5), (L1 18 17), (S 19 (.call 30 [(T 16), (T 18)]) .none), (M 15 19), (S 20 (.extract (T 15) 0) .none), (S 21 (.extract (T 15) 1) .none), (M 7 20), (M 8 21)]) (.seq (.region [(FA 23 0 5), (L1 24 23), (S 25 (.bin .eql (T 24) (V 13)) .none), (M 26 25), (S 27 (.move (T 1)) (.some (26, .true))), (S 28 (.fieldAddr 2 (T 5)) (.some (26, .true))), (S 29 (.load1 (T 28)) (.some (26, .true))), (S 30 (.indexAddr 2 (T 27) (T 29)) (.some (26, .true))), (S 31 (.fieldAddr 0 (T 30)) (.some (26, .true))), (S 32 (.load1 (T 31)) (.some (26, .true))), (S 33 (.bin .eql (T 32) (V 2)) (.some (26, .true))), (S 34 (.pick (T 26) (T 33) (.val (.bool .false))) .none), (M 22 34)]) (.cond (T 22) (.region [(M 35 1), (FA 36 2 5), (L1 37 36), (S 38 (.indexAddr 2 (T 35) (T 37)) .none), (FA 39 1 38), (L1 40 39), (M 7 40), (S 8 (.move (.val (.bool .true))) .none)]) (.seq (.region [(FA 42 0 5), (L1 43 42), (S 44 (.bin .eql (T 43) (V 14)) .none), (M 45 44), (S 46 (.move (T 1)) (.some (45, .true))), (S 47 (.fieldAddr 2 (T 5)) (.some (45, .true))), (S 48 (.load1 (T 47)) (.some (45, .true))), (S 49 (.indexAddr 2 (T 46) (T 48)) (.some (45, .true))), (S 50 (.fieldAddr 0 (T 49)) (.some (45, .true))), (S 51 (.load1 (T 50)) (.some (45, .true))), (S 52 (.bin .eql (T 51) (V 3)) (.some (45, .true))), (S 53 (.pick (T 45) (T 52) (.val (.bool .false))) .none), (M 41 53)]) (.cond (T 41) (.draw [(M 54 0), (NC 55 54), (FA 56 2 55), (L1 57 56), (M 58 1), (FA 59 2 5), (L1 60 59), (S 61 (.indexAddr 2 (T 58) (T 60)) .none), (FA 62 1 61), (L1 63 62), (S 64 (.indexAddr 1 (T 57) (T 63)) .none), (FA 65 0 64), (L1 66 65), (FA 67 4 5), (L1 68 67), (S 69 (.indexAddr 1 (T 66) (T 68)) .none), (L1 70 69), (M 7 70), (S 8 (.move (.val (.bool .true))) .none)] [N, N, N, N, N, N, N, N, N, N, N, N, N, N, N, N, N, N, N] 0) .skip))))))) (.seq (.seq (.draw [(M 71 8), (S 72 (.un .not (T 71)) .none), (M 73 72), (S 74 (.fieldAddr 5 (T 5)) (.some (73, .false))), (S 75 (.load1 (T 74)) (.some (73, .false))), (S 76 (.lenSl (T 75)) (.some (73, .false))), (S 77 (.move (T 0)) (.some (73, .false))), (S 78 (.nilCheck (T 77)) (.some (73, .false))), (S 79 (.fieldAddr 1 (T 78)) (.some (73, .false))), (S 80 (.load1 (T 79)) (.some (73, .false))), (S 81 (.move (T 7)) (.some (73, .false))), (S 82 (.indexAddr 3 (T 80) (T 81)) (.some (73, .false))), (S 83 (.fieldAddr 0 (T 82)) (.some (73, .false))), (S 84 (.load1 (T 83)) (.some (73, .false))), (S 85 (.lenSl (T 84)) (.some (73, .false))), (S 86 (.bin .neq (T 76) (T 85)) (.some (73, .false))), (S 87 (.pick (T 73) (.val (.bool .true)) (T 86)) .none), (M 88 87), (S 89 (.move (T 1)) (.some (88, .false))), (S 90 (.fieldAddr 1 (T 5)) (.some (88, .false))), (S 91 (.load1 (T 90)) (.some (88, .false))), (S 92 (.indexAddr 2 (T 89) (T 91)) (.some (88, .false))), (S 93 (.loadN 2 (T 92)) (.some (88, .false))), (S 94 (.move (T 0)) (.some (88, .false))), (S 95 (.nilCheck (T 94)) (.some (88, .false))), (S 96 (.fieldAddr 1 (T 95)) (.some (88, .false))), (S 97 (.load1 (T 96)) (.some (88, .false))), (S 98 (.move (T 7)) (.some (88, .false))), (S 99 (.indexAddr 3 (T 97) (T 98)) (.some (88, .false))), (S 100 (.fieldAddr 1 (T 99)) (.some (88, .false))), (S 101 (.loadN 2 (T 100)) (.some (88, .false))), (S 102 (.eq .true (.struct [.i, .i]) .false (T 93) (T 101)) (.some (88, .false))), (S 103 (.pick (T 88) (.val (.bool .true)) (T 102)) .none)] [N, N, N, N, N, N, N, N, N, N, N, N, N, N, N, N, N, N, N, N, N, N, N, N, N, N, N, N, N, N, N, N, N] 0) (.cond (T 103) (.seq (.region [(S 6 (.move (.val (.bool .false))) .none)]) .ret) .skip)) (.seq (.seq (.region [(FA 104 5 5), (L1 105 104), (S 106 (.lenSl (T 105)) .none), (S 107 (.move (V 0)) .none)]) (.block 1 (.loop (.seq (.region [(S 108 (.bin .lss (T 107) (T 106)) .none)]) (.seq (.cond (T 108) .skip (.exit 1)) (.seq (.block 2 (.seq (.region [(M 109 107), (S 110 (.indexAddr 1 (T 105) (T 107)) .none), (L1 111 110), (M 9 109), (M 10 111)]) (.seq (.draw [(M 112 1), (M 113 10), (S 114 (.indexAddr 2 (T 112) (T 113)) .none), (S 115 (.loadN 2 (T 114)) .none), (M 116 0), (NC 117 116), (FA 118 1 117), (L1 119 118), (M 120 7), (S 121 (.indexAddr 3 (T 119) (T 120)) .none), (FA 122 0 121), (L1 123 122), (M 124 9), (S 125 (.indexAddr 2 (T 123) (T 124)) .none), (S 126 (.loadN 2 (T 125)) .none), (S 127 (.eq .true (.struct [.i, .i]) .false (T 115) (T 126)) .none)] [N, N, N, N, N, N, N, N, N, N, N, N, N, N, N, N] 0) (.cond (T 127) (.seq (.region [(S 6 (.move (.val (.bool .false))) .none)]) .ret) .skip)))) (.region [(S 128 (.bin .add (T 107) (V 1)) .none), (M 107 128)]))))))) (.seq (.region [(S 6 (.move (.val (.bool .true))) .none)]) .ret)))))))
abbrev f32.Js : Type := (((AVal → AVal → AVal → AVal → AVal → AHeap → Rs) × ((AVal → AVal → AVal → AVal → AHeap → Rs) × (AHeap → Rs))) × ((AVal → AVal → AVal → AVal → AVal → AVal → AHeap → Rs) × ((AVal → AVal → AVal → AVal → AVal → AVal → AHeap → Rs) × (AVal → AVal → AVal → AVal → AVal → AVal → AHeap → Rs))))
noncomputable def f32.b0 (I : Inp) (call : CallFn) (j : f32.Js) (v0 v1 v5 v7 v8 : AVal) (h : AHeap) : Rs :=
  bndP (pUn .not v8) fun v72 =>
  bnd (sGuard v72 .false (lift (pFieldAddr 5 v5) h) h) fun v74 h1 =>
  bnd (sGuard v72 .false (lift (pLoad1 I v74 h1) h1) h1) fun v75 h2 =>
  bnd (sGuard v72 .false (lift (pLenSl v75) h2) h2) fun v76 h3 =>
  bnd (sGuard v72 .false (some (v0, h3)) h3) fun v77 h4 =>
  bnd (sGuard v72 .false (lift (pNilCheck v77) h4) h4) fun v78 h5 =>
  bnd (sGuard v72 .false (lift (pFieldAddr 1 v78) h5) h5) fun v79 h6 =>
  bnd (sGuard v72 .false (lift (pLoad1 I v79 h6) h6) h6) fun v80 h7 =>
  bnd (sGuard v72 .false (some (v7, h7)) h7) fun v81 h8 =>
  bnd (sGuard v72 .false (lift (pIndexAddr 3 v80 v81) h8) h8) fun v82 h9 =>
  bnd (sGuard v72 .false (lift (pFieldAddr 0 v82) h9) h9) fun v83 h10 =>
  bnd (sGuard v72 .false (lift (pLoad1 I v83 h10) h10) h10) fun v84 h11 =>
  bnd (sGuard v72 .false (lift (pLenSl v84) h11) h11) fun v85 h12 =>
  bnd (sGuard v72 .false (lift (pBin .neq v76 v85) h12) h12) fun v86 h13 =>
  bndP (pPick v72 (.bool .true) v86) fun v87 =>
  bnd (sGuard v87 .false (some (v1, h13)) h13) fun v89 h14 =>
  bnd (sGuard v87 .false (lift (pFieldAddr 1 v5) h14) h14) fun v90 h15 =>
  bnd (sGuard v87 .false (lift (pLoad1 I v90 h15) h15) h15) fun v91 h16 =>
  bnd (sGuard v87 .false (lift (pIndexAddr 2 v89 v91) h16) h16) fun v92 h17 =>
  bnd (sGuard v87 .false (lift (pLoadN I 2 v92 h17) h17) h17) fun v93 h18 =>
  bnd (sGuard v87 .false (some (v0, h18)) h18) fun v94 h19 =>
  bnd (sGuard v87 .false (lift (pNilCheck v94) h19) h19) fun v95 h20 =>
  bnd (sGuard v87 .false (lift (pFieldAddr 1 v95) h20) h20) fun v96 h21 =>
  bnd (sGuard v87 .false (lift (pLoad1 I v96 h21) h21) h21) fun v97 h22 =>
  bnd (sGuard v87 .false (some (v7, h22)) h22) fun v98 h23 =>
  bnd (sGuard v87 .false (lift (pIndexAddr 3 v97 v98) h23) h23) fun v99 h24 =>
  bnd (sGuard v87 .false (lift (pFieldAddr 1 v99) h24) h24) fun v100 h25 =>
  bnd (sGuard v87 .false (lift (pLoadN I 2 v100 h25) h25) h25) fun v101 h26 =>
  bnd (sGuard v87 .false (lift (pEq P .true (.struct [.i, .i]) .false v93 v101 h26) h26) h26) fun v102 h27 =>
  bndP (pPick v87 (.bool .true) v102) fun v103 =>
  sCond v103 (
  j.1.2.1 v0 v1 v5 v7 h27) (
  some ((.bool .false), h27))
noncomputable def f32.b1 (I : Inp) (call : CallFn) (j : f32.Js) (v0 v1 v5 v7 : AVal) (h : AHeap) : Rs :=
  bndP (pFieldAddr 5 v5) fun v104 =>
  bndP (pLoad1 I v104 h) fun v105 =>
  bndP (pLenSl v105) fun v106 =>
  j.2.1 v0 v1 v7 v105 v106 (Z 0) h
noncomputable def f32.b2 (I : Inp) (call : CallFn) (j : f32.Js) (h : AHeap) : Rs :=
  some ((.bool .true), h)
noncomputable def f32.b3 (I : Inp) (call : CallFn) (j : f32.Js) (v0 v1 v7 v105 v106 v107 : AVal) (h : AHeap) : Rs :=
  bndP (pBin .lss v107 v106) fun v108 =>
  sCond v108 (
  j.1.2.2 h) (
  j.2.2.1 v0 v1 v7 v105 v106 v107 h)
noncomputable def f32.b4 (I : Inp) (call : CallFn) (j : f32.Js) (v0 v1 v7 v105 v106 v107 : AVal) (h : AHeap) : Rs :=
  bndP (pIndexAddr 1 v105 v107) fun v110 =>
  bndP (pLoad1 I v110 h) fun v111 =>
  bndP (pIndexAddr 2 v1 v111) fun v114 =>
  bndP (pLoadN I 2 v114 h) fun v115 =>
  bndP (pNilCheck v0) fun v117 =>
  bndP (pFieldAddr 1 v117) fun v118 =>
  bndP (pLoad1 I v118 h) fun v119 =>
  bndP (pIndexAddr 3 v119 v7) fun v121 =>
  bndP (pFieldAddr 0 v121) fun v122 =>
  bndP (pLoad1 I v122 h) fun v123 =>
  bndP (pIndexAddr 2 v123 v107) fun v125 =>
  bndP (pLoadN I 2 v125 h) fun v126 =>
  bndP (pEq P .true (.struct [.i, .i]) .false v115 v126 h) fun v127 =>
  sCond v127 (
  j.2.2.2 v0 v1 v7 v105 v106 v107 h) (
  some ((.bool .false), h))
noncomputable def f32.b5 (I : Inp) (call : CallFn) (j : f32.Js) (v0 v1 v7 v105 v106 v107 : AVal) (h : AHeap) : Rs :=
  bndP (pBin .add v107 (Z 1)) fun v128 =>
  j.2.1 v0 v1 v7 v105 v106 v128 h
noncomputable def f32.e (I : Inp) (call : CallFn) (j : f32.Js) (v0 v1 v2 : AVal) (h : AHeap) : Rs :=
  bnd (sBox v2 h) fun v5 h1 =>
  bndP (pFieldAddr 0 v5) fun v12 =>
  bndP (pLoad1 I v12 h1) fun v13 =>
  bndP (pBin .eql v13 (Z 12)) fun v14 =>
  sCond v14 (
  bndP (pFieldAddr 0 v5) fun v23 =>
  bndP (pLoad1 I v23 h1) fun v24 =>
  bndP (pBin .eql v24 (Z 13)) fun v25 =>
  bnd (sGuard v25 .true (some (v1, h1)) h1) fun v27 h2 =>
  bnd (sGuard v25 .true (lift (pFieldAddr 2 v5) h2) h2) fun v28 h3 =>
  bnd (sGuard v25 .true (lift (pLoad1 I v28 h3) h3) h3) fun v29 h4 =>
  bnd (sGuard v25 .true (lift (pIndexAddr 2 v27 v29) h4) h4) fun v30 h5 =>
  bnd (sGuard v25 .true (lift (pFieldAddr 0 v30) h5) h5) fun v31 h6 =>
  bnd (sGuard v25 .true (lift (pLoad1 I v31 h6) h6) h6) fun v32 h7 =>
  bnd (sGuard v25 .true (lift (pBin .eql v32 (Z 2)) h7) h7) fun v33 h8 =>
  bndP (pPick v25 v33 (.bool .false)) fun v34 =>
  sCond v34 (
  bndP (pFieldAddr 0 v5) fun v42 =>
  bndP (pLoad1 I v42 h8) fun v43 =>
  bndP (pBin .eql v43 (Z 14)) fun v44 =>
  bnd (sGuard v44 .true (some (v1, h8)) h8) fun v46 h9 =>
  bnd (sGuard v44 .true (lift (pFieldAddr 2 v5) h9) h9) fun v47 h10 =>
  bnd (sGuard v44 .true (lift (pLoad1 I v47 h10) h10) h10) fun v48 h11 =>
  bnd (sGuard v44 .true (lift (pIndexAddr 2 v46 v48) h11) h11) fun v49 h12 =>
  bnd (sGuard v44 .true (lift (pFieldAddr 0 v49) h12) h12) fun v50 h13 =>
  bnd (sGuard v44 .true (lift (pLoad1 I v50 h13) h13) h13) fun v51 h14 =>
  bnd (sGuard v44 .true (lift (pBin .eql v51 (Z 3)) h14) h14) fun v52 h15 =>
  bndP (pPick v44 v52 (.bool .false)) fun v53 =>
  sCond v53 (
  j.1.1 v0 v1 v5 (Z 0) (.bool .false) h15) (
  bndP (pNilCheck v0) fun v55 =>
  bndP (pFieldAddr 2 v55) fun v56 =>
  bndP (pLoad1 I v56 h15) fun v57 =>
  bndP (pFieldAddr 2 v5) fun v59 =>
  bndP (pLoad1 I v59 h15) fun v60 =>
  bndP (pIndexAddr 2 v1 v60) fun v61 =>
  bndP (pFieldAddr 1 v61) fun v62 =>
  bndP (pLoad1 I v62 h15) fun v63 =>
  bndP (pIndexAddr 1 v57 v63) fun v64 =>
  bndP (pFieldAddr 0 v64) fun v65 =>
  bndP (pLoad1 I v65 h15) fun v66 =>
  bndP (pFieldAddr 4 v5) fun v67 =>
  bndP (pLoad1 I v67 h15) fun v68 =>
  bndP (pIndexAddr 1 v66 v68) fun v69 =>
  bndP (pLoad1 I v69 h15) fun v70 =>
  j.1.1 v0 v1 v5 v70 (.bool .true) h15)) (
  bndP (pFieldAddr 2 v5) fun v36 =>
  bndP (pLoad1 I v36 h8) fun v37 =>
  bndP (pIndexAddr 2 v1 v37) fun v38 =>
  bndP (pFieldAddr 1 v38) fun v39 =>
  bndP (pLoad1 I v39 h8) fun v40 =>
  j.1.1 v0 v1 v5 v40 (.bool .true) h8)) (
  bndP (pFieldAddr 4 v5) fun v17 =>
  bndP (pLoad1 I v17 h1) fun v18 =>
  bnd (call 30 [v0, v18] h1) fun v19 h16 =>
  bndP (pExtract v19 0) fun v20 =>
  bndP (pExtract v19 1) fun v21 =>
  j.1.1 v0 v1 v5 v20 v21 h16)
noncomputable def f32.J (I : Inp) (call : CallFn) (n : Nat) : f32.Js :=
  Nat.rec (motive := fun _ => f32.Js) (((fun _ _ _ _ _ _ => none), ((fun _ _ _ _ _ => none), (fun _ => none))), ((fun _ _ _ _ _ _ _ => none), ((fun _ _ _ _ _ _ _ => none), (fun _ _ _ _ _ _ _ => none)))) (fun _ ih => ((f32.b0 I call ih, (f32.b1 I call ih, f32.b2 I call ih)), (f32.b3 I call ih, (f32.b4 I call ih, f32.b5 I call ih)))) n
noncomputable def f32.JS (I : Inp) (call : CallFn) (n : Nat) : Jmp := fun id ρ h =>
  (Bool.rec (motive := fun _ => _) (Bool.rec (motive := fun _ => _) (Bool.rec (motive := fun _ => _) ((f32.J I call n).2.2.2 (ρ 0) (ρ 1) (ρ 7) (ρ 105) (ρ 106) (ρ 107) h) ((f32.J I call n).2.2.1 (ρ 0) (ρ 1) (ρ 7) (ρ 105) (ρ 106) (ρ 107) h) (Nat.blt id 5)) ((f32.J I call n).2.1 (ρ 0) (ρ 1) (ρ 7) (ρ 105) (ρ 106) (ρ 107) h) (Nat.blt id 4)) (Bool.rec (motive := fun _ => _) (Bool.rec (motive := fun _ => _) ((f32.J I call n).1.2.2 h) ((f32.J I call n).1.2.1 (ρ 0) (ρ 1) (ρ 5) (ρ 7) h) (Nat.blt id 2)) ((f32.J I call n).1.1 (ρ 0) (ρ 1) (ρ 5) (ρ 7) (ρ 8) h) (Nat.blt id 1)) (Nat.blt id 3))
theorem f32.q0 (I : Inp) (call : CallFn) (n : Nat) (ρ : Fun) (h : AHeap) : f32.JS I call (n + 1) 0 ρ h = labC P I call (f32.JS I call n) c32.body 0 (finV I c32.results) 0 ρ h := by kernel_rfl
theorem f32.q1 (I : Inp) (call : CallFn) (n : Nat) (ρ : Fun) (h : AHeap) : f32.JS I call (n + 1) 1 ρ h = labC P I call (f32.JS I call n) c32.body 0 (finV I c32.results) 1 ρ h := by kernel_rfl
theorem f32.q2 (I : Inp) (call : CallFn) (n : Nat) (ρ : Fun) (h : AHeap) : f32.JS I call (n + 1) 2 ρ h = labC P I call (f32.JS I call n) c32.body 0 (finV I c32.results) 2 ρ h := by kernel_rfl
theorem f32.q3 (I : Inp) (call : CallFn) (n : Nat) (ρ : Fun) (h : AHeap) : f32.JS I call (n + 1) 3 ρ h = labC P I call (f32.JS I call n) c32.body 0 (finV I c32.results) 3 ρ h := by kernel_rfl
theorem f32.q4 (I : Inp) (call : CallFn) (n : Nat) (ρ : Fun) (h : AHeap) : f32.JS I call (n + 1) 4 ρ h = labC P I call (f32.JS I call n) c32.body 0 (finV I c32.results) 4 ρ h := by kernel_rfl
theorem f32.q5 (I : Inp) (call : CallFn) (n : Nat) (ρ : Fun) (h : AHeap) : f32.JS I call (n + 1) 5 ρ h = labC P I call (f32.JS I call n) c32.body 0 (finV I c32.results) 5 ρ h := by kernel_rfl
theorem f32.S (I : Inp) (F : Nat → Option AFn) (call : CallFn) : SFn ⟨P, I, F⟩ call c32 (f32.JS I call) :=
  ⟨fun id hid ρ h => by
    have hc : c32.body.cnt = 6 := by kernel_rfl
    rw [hc] at hid
    exact match id, hid with
    | 0, _ => rfl
    | 1, _ => rfl
    | 2, _ => rfl
    | 3, _ => rfl
    | 4, _ => rfl
    | 5, _ => rfl
    | id + 6, hid => absurd hid (by omega), fun n id hid ρ h => by
    have hc : c32.body.cnt = 6 := by kernel_rfl
    rw [hc] at hid
    exact match id, hid with
    | 0, _ => f32.q0 I call n ρ h
    | 1, _ => f32.q1 I call n ρ h
    | 2, _ => f32.q2 I call n ρ h
    | 3, _ => f32.q3 I call n ρ h
    | 4, _ => f32.q4 I call n ρ h
    | 5, _ => f32.q5 I call n ρ h
    | id + 6, hid => absurd hid (by omega)⟩
noncomputable def f32.run (I : Inp) : SF := fun call n a h =>
  match a with
  | [v0, v1, v2] => f32.e I call (f32.J I call n) v0 v1 v2 h
  | _ => none
theorem f32.qe (I : Inp) (call : CallFn) (n : Nat) (v0 v1 v2 : AVal) (h : AHeap) : f32.e I call (f32.J I call n) v0 v1 v2 h = execC P I call (f32.JS I call n) c32.body 0 (finV I c32.results) (argV [v0, v1, v2]) h := by kernel_rfl
theorem f32.code : codeOf P 32 = some c32 := by kernel_rfl
theorem f32.ok (I : Inp) (F : Nat → Option AFn) (hF : F 32 = some (.code c32)) : SfOk P I F 32 (f32.run I) := by
  intro call hc n args h r hr
  unfold f32.run at hr
  split at hr
  · exact fn_sound (C := ⟨P, I, F⟩) (n := n) hc hF (Nat.le_of_ble_eq_true (by kernel_rfl)) (by kernel_rfl) (f32.S I F call) (by kernel_rfl) ((f32.qe I call n _ _ _ h).symm.trans hr)
  · cases hr
/-! haruspex/haruspexref8.instr -/
noncomputable def c33 : AFunc := (AFunc.mk 194 3 [(.tmp 6)] (.seq (.region [(S 4 (.box (T 1)) .none), (S 5 (.box (T 2)) .none), (S 6 (.move (.val (.bool .false))) .none)]) (.seq (.seq (.region [(FA 15 0 5), (L1 16 15), (S 17 (.bin .lss (T 16) (V 1)) .none), (M 18 17), (S 19 (.fieldAddr 0 (T 5)) (.some (18, .false))), (S 20 (.load1 (T 19)) (.some (18, .false))), (S 21 (.bin .gtr (T 20) (V 15)) (.some (18, .false))), (S 22 (.pick (T 18) (.val (.bool .true)) (T 21)) .none)]) (.cond (T 22) (.seq (.region [(S 6 (.move (.val (.bool .false))) .none)]) .ret) .skip)) (.seq (.region [(FA 23 1 4), (L1 24 23), (S 25 (.lenSl (T 24)) .none), (M 7 25)]) (.seq (.region [(S 27 (.loadN 6 (T 5)) .none), (S 28 (.call 12 [(T 27)]) .none), (M 26 28), (S 29 (.extract (T 26) 0) .none), (S 30 (.extract (T 26) 1) .none), (M 8 29), (M 9 30)]) (.seq (.region [(S 31 (.loadN 6 (T 5)) .none), (S 32 (.call 63 [(T 31)]) .none), (M 10 32)]) (.seq (.seq (.region [(M 33 9), (M 34 33), (S 35 (.fieldAddr 1 (T 5)) (.some (34, .true))), (S 36 (.load1 (T 35)) (.some (34, .true))), (S 37 (.move (T 7)) (.some (34, .true))), (S 38 (.call 42 [(T 36), (T 37)]) (.some (34, .true))), (S 39 (.un .not (T 38)) (.some (34, .true))), (S 40 (.pick (T 34) (T 39) (.val (.bool .false))) .none), (M 41 40), (S 42 (.move (T 9)) (.some (41, .false))), (S 43 (.un .not (T 42)) (.some (41, .false))), (S 44 (.move (T 43)) (.some (41, .false))), (S 45 (.fieldAddr 1 (T 5)) (.some (44, .true))), (S 46 (.load1 (T 45)) (.some (44, .true))), (S 47 (.bin .neq (T 46) (V 0)) (.some (44, .true))), (S 48 (.pick (T 44) (T 47) (.val (.bool .false))) (.some (41, .false))), (S 49 (.pick (T 41) (.val (.bool .true)) (T 48)) .none)]) (.cond (T 49) (.seq (.region [(S 6 (.move (.val (.bool .false))) .none)]) .ret) .skip)) (.seq (.seq (.region [(S 11 (.move (V 0)) .none)]) (.block 0 (.loop (.seq (.seq (.region [(M 50 11), (M 51 10), (S 52 (.lenSl (T 51)) .none), (S 53 (.bin .lss (T 50) (T 52)) .none)]) (.cond (T 53) .skip (.exit 0))) (.seq (.block 1 (.seq (.region [(M 56 10), (M 57 11), (S 58 (.indexAddr 1 (T 56) (T 57)) .none), (L1 59 58), (M 60 7), (S 61 (.call 42 [(T 59), (T 60)]) .none), (S 62 (.un .not (T 61)) .none)]) (.cond (T 62) (.seq (.region [(S 6 (.move (.val (.bool .false))) .none)]) .ret) .skip))) (.region [(M 54 11), (S 55 (.bin .add (T 54) (V 1)) .none), (M 11 55)])))))) (.seq (.region [(FA 63 0 5), (L1 64 63), (S 65 (.bin .eql (T 64) (V 2)) .none), (M 66 65), (S 67 (.fieldAddr 0 (T 5)) (.some (66, .false))), (S 68 (.load1 (T 67)) (.some (66, .false))), (S 69 (.bin .geq (T 68) (V 6)) (.some (66, .false))), (S 70 (.move (T 69)) (.some (66, .false))), (S 71 (.fieldAddr 0 (T 5)) (.some (70, .true))), (S 72 (.load1 (T 71)) (.some (70, .true))), (S 73 (.bin .leq (T 72) (V 9)) (.some (70, .true))), (S 74 (.pick (T 70) (T 73) (.val (.bool .false))) (.some (66, .false))), (S 75 (.pick (T 66) (.val (.bool .true)) (T 74)) .none), (M 76 75), (S 77 (.fieldAddr 0 (T 5)) (.some (76, .false))), (S 78 (.load1 (T 77)) (.some (76, .false))), (S 79 (.bin .eql (T 78) (V 11)) (.some (76, .false))), (S 80 (.pick (T 76) (.val (.bool .true)) (T 79)) .none), (M 81 80), (S 82 (.fieldAddr 0 (T 5)) (.some (81, .false))), (S 83 (.load1 (T 82)) (.some (81, .false))), (S 84 (.bin .geq (T 83) (V 13)) (.some (81, .false))), (S 85 (.pick (T 81) (.val (.bool .true)) (T 84)) .none), (M 12 85)]) (.seq (.seq (.region [(M 86 12), (S 87 (.un .not (T 86)) .none), (M 88 87), (S 89 (.fieldAddr 2 (T 5)) (.some (88, .true))), (S 90 (.load1 (T 89)) (.some (88, .true))), (S 91 (.bin .neq (T 90) (V 0)) (.some (88, .true))), (S 92 (.pick (T 88) (T 91) (.val (.bool .false))) .none), (M 93 92), (S 94 (.fieldAddr 0 (T 5)) (.some (93, .false))), (S 95 (.load1 (T 94)) (.some (93, .false))), (S 96 (.bin .neq (T 95) (V 2)) (.some (93, .false))), (S 97 (.move (T 96)) (.some (93, .false))), (S 98 (.fieldAddr 0 (T 5)) (.some (97, .true))), (S 99 (.load1 (T 98)) (.some (97, .true))), (S 100 (.bin .neq (T 99) (V 8)) (.some (97, .true))), (S 101 (.pick (T 97) (T 100) (.val (.bool .false))) (.some (93, .false))), (S 102 (.move (T 101)) (.some (93, .false))), (S 103 (.fieldAddr 3 (T 5)) (.some (102, .true))), (S 104 (.load1 (T 103)) (.some (102, .true))), (S 105 (.bin .neq (T 104) (V 0)) (.some (102, .true))), (S 106 (.pick (T 102) (T 105) (.val (.bool .false))) (.some (93, .false))), (S 107 (.pick (T 93) (.val (.bool .true)) (T 106)) .none), (M 108 107), (S 109 (.fieldAddr 5 (T 5)) (.some (108, .false))), (S 110 (.load1 (T 109)) (.some (108, .false))), (S 111 (.lenSl (T 110)) (.some (108, .false))), (S 112 (.bin .gtr (T 111) (V 0)) (.some (108, .false))), (S 113 (.move (T 112)) (.some (108, .false))), (S 114 (.fieldAddr 0 (T 5)) (.some (113, .true))), (S 115 (.load1 (T 114)) (.some (113, .true))), (S 116 (.bin .lss (T 115) (V 12)) (.some (113, .true))), (S 117 (.move (T 116)) (.some (113, .true))), (S 118 (.fieldAddr 0 (T 5)) (.some (117, .false))), (S 119 (.load1 (T 118)) (.some (117, .false))), (S 120 (.bin .gtr (T 119) (V 14)) (.some (117, .false))), (S 121 (.pick (T 117) (.val (.bool .true)) (T 120)) (.some (113, .true))), (S 122 (.pick (T 113) (T 121) (.val (.bool .false))) (.some (108, .false))), (S 123 (.pick (T 108) (.val (.bool .true)) (T 122)) .none)]) (.cond (T 123) (.seq (.region [(S 6 (.move (.val (.bool .false))) .none)]) .ret) .skip)) (.seq (.seq (.region [(FA 124 0 5), (L1 125 124)]) (.block 2 (.seq (.region [(S 127 (.bin .eql (T 125) (V 1)) .none), (M 126 127)]) (.cond (T 126) (.seq (.region [(S 6 (.move (.val (.bool .true))) .none)]) .ret) (.seq (.seq (.region [(S 129 (.bin .eql (T 125) (V 7)) .none), (M 128 129)]) (.cond (T 128) .skip (.region [(S 130 (.bin .eql (T 125) (V 8)) .none), (M 128 130)]))) (.cond (T 128) (.seq (.region [(FA 131 1 4), (L1 132 131), (FA 133 2 5), (L1 134 133), (S 135 (.indexAddr 2 (T 132) (T 134)) .none), (S 136 (.loadN 2 (T 135)) .none), (S 13 (.alloc [(Z 0), (Z 0)]) .none), (AOper.mk .none (.store 2 (T 13) (T 136)) .none)]) (.seq (.draw [(FA 137 0 13), (L1 138 137), (S 139 (.bin .neq (T 138) (V 1)) .none), (M 140 139), (S 141 (.fieldAddr 4 (T 5)) (.some (140, .false))), (S 142 (.load1 (T 141)) (.some (140, .false))), (S 143 (.move (T 0)) (.some (140, .false))), (S 144 (.nilCheck (T 143)) (.some (140, .false))), (S 145 (.fieldAddr 0 (T 144)) (.some (140, .false))), (S 146 (.load1 (T 145)) (.some (140, .false))), (S 147 (.fieldAddr 1 (T 13)) (.some (140, .false))), (S 148 (.load1 (T 147)) (.some (140, .false))), (S 149 (.indexAddr 1 (T 146) (T 148)) (.some (140, .false))), (S 150 (.load1 (T 149)) (.some (140, .false))), (S 151 (.lenSl (T 150)) (.some (140, .false))), (S 152 (.call 42 [(T 142), (T 151)]) (.some (140, .false))), (S 153 (.pick (T 140) (.val (.bool .true)) (T 152)) .none), (M 6 153)] [N, N, N, N, N, N, N, N, N, N, N, N, N, N, N, Y, N, N] 0) .ret)) (.seq (.seq (.region [(S 155 (.bin .eql (T 125) (V 10)) .none), (M 154 155)]) (.cond (T 154) .skip (.region [(S 156 (.bin .eql (T 125) (V 12)) .none), (M 154 156)]))) (.cond (T 154) (.seq (.draw [(FA 157 4 5), (L1 158 157), (M 159 0), (NC 160 159), (FA 161 4 160), (L1 162 161), (S 163 (.lenSl (T 162)) .none), (S 164 (.call 42 [(T 158), (T 163)]) .none), (M 6 164)] [N, N, N, N, N, N, N, Y, N] 0) .ret) (.seq (.region [(S 166 (.bin .eql (T 125) (V 14)) .none), (M 165 166)]) (.cond (T 165) (.seq (.region [(FA 167 1 4), (L1 168 167), (FA 169 2 5), (L1 170 169), (S 171 (.indexAddr 2 (T 168) (T 170)) .none), (S 172 (.loadN 2 (T 171)) .none), (S 14 (.alloc [(Z 0), (Z 0)]) .none), (AOper.mk .none (.store 2 (T 14) (T 172)) .none)]) (.seq (.draw [(FA 173 0 14), (L1 174 173), (S 175 (.bin .neq (T 174) (V 3)) .none), (M 176 175), (S 177 (.fieldAddr 4 (T 5)) (.some (176, .false))), (S 178 (.load1 (T 177)) (.some (176, .false))), (S 179 (.move (T 0)) (.some (176, .false))), (S 180 (.nilCheck (T 179)) (.some (176, .false))), (S 181 (.fieldAddr 2 (T 180)) (.some (176, .false))), (S 182 (.load1 (T 181)) (.some (176, .false))), (S 183 (.fieldAddr 1 (T 14)) (.some (176, .false))), (S 184 (.load1 (T 183)) (.some (176, .false))), (S 185 (.indexAddr 1 (T 182) (T 184)) (.some (176, .false))), (S 186 (.fieldAddr 0 (T 185)) (.some (176, .false))), (S 187 (.load1 (T 186)) (.some (176, .false))), (S 188 (.lenSl (T 187)) (.some (176, .false))), (S 189 (.call 42 [(T 178), (T 188)]) (.some (176, .false))), (S 190 (.pick (T 176) (.val (.bool .true)) (T 189)) .none), (M 6 190)] [N, N, N, N, N, N, N, N, N, N, N, N, N, N, N, N, Y, N, N] 0) .ret)) .skip)))))))))) (.seq (.region [(FA 191 4 5), (L1 192 191), (S 193 (.bin .eql (T 192) (V 0)) .none), (M 6 193)]) .ret))))))))))))
abbrev f33.Js : Type := ((((AVal → AVal → AVal → AHeap → Rs) × (AVal → AVal → AVal → AVal → AVal → AHeap → Rs)) × ((AVal → AVal → AVal → AHeap → Rs) × ((AVal → AVal → AVal → AVal → AVal → AVal → AHeap → Rs) × (AVal → AVal → AVal → AVal → AVal → AVal → AHeap → Rs)))) × (((AVal → AVal → AVal → AVal → AVal → AVal → AHeap → Rs) × (AVal → AVal → AVal → AHeap → Rs)) × ((AVal → AHeap → Rs) × ((AVal → AVal → AVal → AVal → AVal → AHeap → Rs) × (AVal → AVal → AVal → AVal → AVal → AHeap → Rs)))))
noncomputable def f33.b0 (I : Inp) (call : CallFn) (j : f33.Js) (v0 v4 v5 : AVal) (h : AHeap) : Rs :=
  bndP (pFieldAddr 1 v4) fun v23 =>
  bndP (pLoad1 I v23 h) fun v24 =>
  bndP (pLenSl v24) fun v25 =>
  bndP (pLoadN I 6 v5 h) fun v27 =>
  bnd (call 12 [v27] h) fun v28 h1 =>
  bndP (pExtract v28 0) fun v29 =>
  bndP (pExtract v28 1) fun v30 =>
  bndP (pLoadN I 6 v5 h1) fun v31 =>
  bnd (call 63 [v31] h1) fun v32 h2 =>
  bnd (sGuard v30 .true (lift (pFieldAddr 1 v5) h2) h2) fun v35 h3 =>
  bnd (sGuard v30 .true (lift (pLoad1 I v35 h3) h3) h3) fun v36 h4 =>
  bnd (sGuard v30 .true (some (v25, h4)) h4) fun v37 h5 =>
  bnd (sGuard v30 .true (call 42 [v36, v37] h5) h5) fun v38 h6 =>
  bnd (sGuard v30 .true (lift (pUn .not v38) h6) h6) fun v39 h7 =>
  bndP (pPick v30 v39 (.bool .false)) fun v40 =>
  bnd (sGuard v40 .false (some (v30, h7)) h7) fun v42 h8 =>
  bnd (sGuard v40 .false (lift (pUn .not v42) h8) h8) fun v43 h9 =>
  bnd (sGuard v40 .false (some (v43, h9)) h9) fun v44 h10 =>
  bnd (sGuard v44 .true (lift (pFieldAddr 1 v5) h10) h10) fun v45 h11 =>
  bnd (sGuard v44 .true (lift (pLoad1 I v45 h11) h11) h11) fun v46 h12 =>
  bnd (sGuard v44 .true (lift (pBin .neq v46 (Z 0)) h12) h12) fun v47 h13 =>
  bnd (sGuard v40 .false (lift (pPick v44 v47 (.bool .false)) h13) h13) fun v48 h14 =>
  bndP (pPick v40 (.bool .true) v48) fun v49 =>
  sCond v49 (
  j.1.1.2 v0 v4 v5 v25 v32 h14) (
  some ((.bool .false), h14))
noncomputable def f33.b1 (I : Inp) (call : CallFn) (j : f33.Js) (v0 v4 v5 v7 v10 : AVal) (h : AHeap) : Rs :=
  j.1.2.2.1 v0 v4 v5 v7 v10 (Z 0) h
noncomputable def f33.b2 (I : Inp) (call : CallFn) (j : f33.Js) (v0 v4 v5 : AVal) (h : AHeap) : Rs :=
  bndP (pFieldAddr 0 v5) fun v63 =>
  bndP (pLoad1 I v63 h) fun v64 =>
  bndP (pBin .eql v64 (Z 2)) fun v65 =>
  bnd (sGuard v65 .false (lift (pFieldAddr 0 v5) h) h) fun v67 h1 =>
  bnd (sGuard v65 .false (lift (pLoad1 I v67 h1) h1) h1) fun v68 h2 =>
  bnd (sGuard v65 .false (lift (pBin .geq v68 (Z 6)) h2) h2) fun v69 h3 =>
  bnd (sGuard v65 .false (some (v69, h3)) h3) fun v70 h4 =>
  bnd (sGuard v70 .true (lift (pFieldAddr 0 v5) h4) h4) fun v71 h5 =>
  bnd (sGuard v70 .true (lift (pLoad1 I v71 h5) h5) h5) fun v72 h6 =>
  bnd (sGuard v70 .true (lift (pBin .leq v72 (Z 9)) h6) h6) fun v73 h7 =>
  bnd (sGuard v65 .false (lift (pPick v70 v73 (.bool .false)) h7) h7) fun v74 h8 =>
  bndP (pPick v65 (.bool .true) v74) fun v75 =>
  bnd (sGuard v75 .false (lift (pFieldAddr 0 v5) h8) h8) fun v77 h9 =>
  bnd (sGuard v75 .false (lift (pLoad1 I v77 h9) h9) h9) fun v78 h10 =>
  bnd (sGuard v75 .false (lift (pBin .eql v78 (Z 11)) h10) h10) fun v79 h11 =>
  bndP (pPick v75 (.bool .true) v79) fun v80 =>
  bnd (sGuard v80 .false (lift (pFieldAddr 0 v5) h11) h11) fun v82 h12 =>
  bnd (sGuard v80 .false (lift (pLoad1 I v82 h12) h12) h12) fun v83 h13 =>
  bnd (sGuard v80 .false (lift (pBin .geq v83 (Z 13)) h13) h13) fun v84 h14 =>
  bndP (pPick v80 (.bool .true) v84) fun v85 =>
  bndP (pUn .not v85) fun v87 =>
  bnd (sGuard v87 .true (lift (pFieldAddr 2 v5) h14) h14) fun v89 h15 =>
  bnd (sGuard v87 .true (lift (pLoad1 I v89 h15) h15) h15) fun v90 h16 =>
  bnd (sGuard v87 .true (lift (pBin .neq v90 (Z 0)) h16) h16) fun v91 h17 =>
  bndP (pPick v87 v91 (.bool .false)) fun v92 =>
  bnd (sGuard v92 .false (lift (pFieldAddr 0 v5) h17) h17) fun v94 h18 =>
  bnd (sGuard v92 .false (lift (pLoad1 I v94 h18) h18) h18) fun v95 h19 =>
  bnd (sGuard v92 .false (lift (pBin .neq v95 (Z 2)) h19) h19) fun v96 h20 =>
  bnd (sGuard v92 .false (some (v96, h20)) h20) fun v97 h21 =>
  bnd (sGuard v97 .true (lift (pFieldAddr 0 v5) h21) h21) fun v98 h22 =>
  bnd (sGuard v97 .true (lift (pLoad1 I v98 h22) h22) h22) fun v99 h23 =>
  bnd (sGuard v97 .true (lift (pBin .neq v99 (Z 8)) h23) h23) fun v100 h24 =>
  bnd (sGuard v92 .false (lift (pPick v97 v100 (.bool .false)) h24) h24) fun v101 h25 =>
  bnd (sGuard v92 .false (some (v101, h25)) h25) fun v102 h26 =>
  bnd (sGuard v102 .true (lift (pFieldAddr 3 v5) h26) h26) fun v103 h27 =>
  bnd (sGuard v102 .true (lift (pLoad1 I v103 h27) h27) h27) fun v104 h28 =>
  bnd (sGuard v102 .true (lift (pBin .neq v104 (Z 0)) h28) h28) fun v105 h29 =>
  bnd (sGuard v92 .false (lift (pPick v102 v105 (.bool .false)) h29) h29) fun v106 h30 =>
  bndP (pPick v92 (.bool .true) v106) fun v107 =>
  bnd (sGuard v107 .false (lift (pFieldAddr 5 v5) h30) h30) fun v109 h31 =>
  bnd (sGuard v107 .false (lift (pLoad1 I v109 h31) h31) h31) fun v110 h32 =>
  bnd (sGuard v107 .false (lift (pLenSl v110) h32) h32) fun v111 h33 =>
  bnd (sGuard v107 .false (lift (pBin .gtr v111 (Z 0)) h33) h33) fun v112 h34 =>
  bnd (sGuard v107 .false (some (v112, h34)) h34) fun v113 h35 =>
  bnd (sGuard v113 .true (lift (pFieldAddr 0 v5) h35) h35) fun v114 h36 =>
  bnd (sGuard v113 .true (lift (pLoad1 I v114 h36) h36) h36) fun v115 h37 =>
  bnd (sGuard v113 .true (lift (pBin .lss v115 (Z 12)) h37) h37) fun v116 h38 =>
  bnd (sGuard v113 .true (some (v116, h38)) h38) fun v117 h39 =>
  bnd (sGuard v117 .false (lift (pFieldAddr 0 v5) h39) h39) fun v118 h40 =>
  bnd (sGuard v117 .false (lift (pLoad1 I v118 h40) h40) h40) fun v119 h41 =>
  bnd (sGuard v117 .false (lift (pBin .gtr v119 (Z 14)) h41) h41) fun v120 h42 =>
  bnd (sGuard v113 .true (lift (pPick v117 (.bool .true) v120) h42) h42) fun v121 h43 =>
  bnd (sGuard v107 .false (lift (pPick v113 v121 (.bool .false)) h43) h43) fun v122 h44 =>
  bndP (pPick v107 (.bool .true) v122) fun v123 =>
  sCond v123 (
  j.2.1.2 v0 v4 v5 h44) (
  some ((.bool .false), h44))
noncomputable def f33.b3 (I : Inp) (call : CallFn) (j : f33.Js) (v0 v4 v5 v7 v10 v11 : AVal) (h : AHeap) : Rs :=
  bndP (pLenSl v10) fun v52 =>
  bndP (pBin .lss v11 v52) fun v53 =>
  sCond v53 (
  j.1.2.1 v0 v4 v5 h) (
  j.1.2.2.2 v0 v4 v5 v7 v10 v11 h)
noncomputable def f33.b4 (I : Inp) (call : CallFn) (j : f33.Js) (v0 v4 v5 v7 v10 v11 : AVal) (h : AHeap) : Rs :=
  bndP (pIndexAddr 1 v10 v11) fun v58 =>
  bndP (pLoad1 I v58 h) fun v59 =>
  bnd (call 42 [v59, v7] h) fun v61 h1 =>
  bndP (pUn .not v61) fun v62 =>
  sCond v62 (
  j.2.1.1 v0 v4 v5 v7 v10 v11 h1) (
  some ((.bool .false), h1))
noncomputable def f33.b5 (I : Inp) (call : CallFn) (j : f33.Js) (v0 v4 v5 v7 v10 v11 : AVal) (h : AHeap) : Rs :=
  bndP (pBin .add v11 (Z 1)) fun v55 =>
  j.1.2.2.1 v0 v4 v5 v7 v10 v55 h
noncomputable def f33.b6 (I : Inp) (call : CallFn) (j : f33.Js) (v0 v4 v5 : AVal) (h : AHeap) : Rs :=
  bndP (pFieldAddr 0 v5) fun v124 =>
  bndP (pLoad1 I v124 h) fun v125 =>
  bndP (pBin .eql v125 (Z 1)) fun v127 =>
  sCond v127 (
  bndP (pBin .eql v125 (Z 7)) fun v129 =>
  sCond v129 (
  bndP (pBin .eql v125 (Z 8)) fun v130 =>
  j.2.2.2.1 v0 v4 v5 v125 v130 h) (
  j.2.2.2.1 v0 v4 v5 v125 v129 h)) (
  some ((.bool .true), h))
noncomputable def f33.b7 (I : Inp) (call : CallFn) (j : f33.Js) (v5 : AVal) (h : AHeap) : Rs :=
  bndP (pFieldAddr 4 v5) fun v191 =>
  bndP (pLoad1 I v191 h) fun v192 =>
  bndP (pBin .eql v192 (Z 0)) fun v193 =>
  some (v193, h)
noncomputable def f33.b8 (I : Inp) (call : CallFn) (j : f33.Js) (v0 v4 v5 v125 v128 : AVal) (h : AHeap) : Rs :=
  sCond v128 (
  bndP (pBin .eql v125 (Z 10)) fun v155 =>
  sCond v155 (
  bndP (pBin .eql v125 (Z 12)) fun v156 =>
  j.2.2.2.2 v0 v4 v5 v125 v156 h) (
  j.2.2.2.2 v0 v4 v5 v125 v155 h)) (
  bndP (pFieldAddr 1 v4) fun v131 =>
  bndP (pLoad1 I v131 h) fun v132 =>
  bndP (pFieldAddr 2 v5) fun v133 =>
  bndP (pLoad1 I v133 h) fun v134 =>
  bndP (pIndexAddr 2 v132 v134) fun v135 =>
  bndP (pLoadN I 2 v135 h) fun v136 =>
  bnd (sAlloc [(Z 0), (Z 0)] h) fun v13 h1 =>
  bnd (sStore 2 v13 v136 h1) fun _ h2 =>
  bndP (pFieldAddr 0 v13) fun v137 =>
  bndP (pLoad1 I v137 h2) fun v138 =>
  bndP (pBin .neq v138 (Z 1)) fun v139 =>
  bnd (sGuard v139 .false (lift (pFieldAddr 4 v5) h2) h2) fun v141 h3 =>
  bnd (sGuard v139 .false (lift (pLoad1 I v141 h3) h3) h3) fun v142 h4 =>
  bnd (sGuard v139 .false (some (v0, h4)) h4) fun v143 h5 =>
  bnd (sGuard v139 .false (lift (pNilCheck v143) h5) h5) fun v144 h6 =>
  bnd (sGuard v139 .false (lift (pFieldAddr 0 v144) h6) h6) fun v145 h7 =>
  bnd (sGuard v139 .false (lift (pLoad1 I v145 h7) h7) h7) fun v146 h8 =>
  bnd (sGuard v139 .false (lift (pFieldAddr 1 v13) h8) h8) fun v147 h9 =>
  bnd (sGuard v139 .false (lift (pLoad1 I v147 h9) h9) h9) fun v148 h10 =>
  bnd (sGuard v139 .false (lift (pIndexAddr 1 v146 v148) h10) h10) fun v149 h11 =>
  bnd (sGuard v139 .false (lift (pLoad1 I v149 h11) h11) h11) fun v150 h12 =>
  bnd (sGuard v139 .false (lift (pLenSl v150) h12) h12) fun v151 h13 =>
  bnd (sGuard v139 .false (call 42 [v142, v151] h13) h13) fun v152 h14 =>
  bndP (pPick v139 (.bool .true) v152) fun v153 =>
  some (v153, h14))
noncomputable def f33.b9 (I : Inp) (call : CallFn) (j : f33.Js) (v0 v4 v5 v125 v154 : AVal) (h : AHeap) : Rs :=
  sCond v154 (
  bndP (pBin .eql v125 (Z 14)) fun v166 =>
  sCond v166 (
  j.2.2.1 v5 h) (
  bndP (pFieldAddr 1 v4) fun v167 =>
  bndP (pLoad1 I v167 h) fun v168 =>
  bndP (pFieldAddr 2 v5) fun v169 =>
  bndP (pLoad1 I v169 h) fun v170 =>
  bndP (pIndexAddr 2 v168 v170) fun v171 =>
  bndP (pLoadN I 2 v171 h) fun v172 =>
  bnd (sAlloc [(Z 0), (Z 0)] h) fun v14 h1 =>
  bnd (sStore 2 v14 v172 h1) fun _ h2 =>
  bndP (pFieldAddr 0 v14) fun v173 =>
  bndP (pLoad1 I v173 h2) fun v174 =>
  bndP (pBin .neq v174 (Z 3)) fun v175 =>
  bnd (sGuard v175 .false (lift (pFieldAddr 4 v5) h2) h2) fun v177 h3 =>
  bnd (sGuard v175 .false (lift (pLoad1 I v177 h3) h3) h3) fun v178 h4 =>
  bnd (sGuard v175 .false (some (v0, h4)) h4) fun v179 h5 =>
  bnd (sGuard v175 .false (lift (pNilCheck v179) h5) h5) fun v180 h6 =>
  bnd (sGuard v175 .false (lift (pFieldAddr 2 v180) h6) h6) fun v181 h7 =>
  bnd (sGuard v175 .false (lift (pLoad1 I v181 h7) h7) h7) fun v182 h8 =>
  bnd (sGuard v175 .false (lift (pFieldAddr 1 v14) h8) h8) fun v183 h9 =>
  bnd (sGuard v175 .false (lift (pLoad1 I v183 h9) h9) h9) fun v184 h10 =>
  bnd (sGuard v175 .false (lift (pIndexAddr 1 v182 v184) h10) h10) fun v185 h11 =>
  bnd (sGuard v175 .false (lift (pFieldAddr 0 v185) h11) h11) fun v186 h12 =>
  bnd (sGuard v175 .false (lift (pLoad1 I v186 h12) h12) h12) fun v187 h13 =>
  bnd (sGuard v175 .false (lift (pLenSl v187) h13) h13) fun v188 h14 =>
  bnd (sGuard v175 .false (call 42 [v178, v188] h14) h14) fun v189 h15 =>
  bndP (pPick v175 (.bool .true) v189) fun v190 =>
  some (v190, h15))) (
  bndP (pFieldAddr 4 v5) fun v157 =>
  bndP (pLoad1 I v157 h) fun v158 =>
  bndP (pNilCheck v0) fun v160 =>
  bndP (pFieldAddr 4 v160) fun v161 =>
  bndP (pLoad1 I v161 h) fun v162 =>
  bndP (pLenSl v162) fun v163 =>
  bnd (call 42 [v158, v163] h) fun v164 h16 =>
  some (v164, h16))
noncomputable def f33.e (I : Inp) (call : CallFn) (j : f33.Js) (v0 v1 v2 : AVal) (h : AHeap) : Rs :=
  bnd (sBox v1 h) fun v4 h1 =>
  bnd (sBox v2 h1) fun v5 h2 =>
  bndP (pFieldAddr 0 v5) fun v15 =>
  bndP (pLoad1 I v15 h2) fun v16 =>
  bndP (pBin .lss v16 (Z 1)) fun v17 =>
  bnd (sGuard v17 .false (lift (pFieldAddr 0 v5) h2) h2) fun v19 h3 =>
  bnd (sGuard v17 .false (lift (pLoad1 I v19 h3) h3) h3) fun v20 h4 =>
  bnd (sGuard v17 .false (lift (pBin .gtr v20 (Z 15)) h4) h4) fun v21 h5 =>
  bndP (pPick v17 (.bool .true) v21) fun v22 =>
  sCond v22 (
  j.1.1.1 v0 v4 v5 h5) (
  some ((.bool .false), h5))
noncomputable def f33.J (I : Inp) (call : CallFn) (n : Nat) : f33.Js :=
  Nat.rec (motive := fun _ => f33.Js) ((((fun _ _ _ _ => none), (fun _ _ _ _ _ _ => none)), ((fun _ _ _ _ => none), ((fun _ _ _ _ _ _ _ => none), (fun _ _ _ _ _ _ _ => none)))), (((fun _ _ _ _ _ _ _ => none), (fun _ _ _ _ => none)), ((fun _ _ => none), ((fun _ _ _ _ _ _ => none), (fun _ _ _ _ _ _ => none))))) (fun _ ih => (((f33.b0 I call ih, f33.b1 I call ih), (f33.b2 I call ih, (f33.b3 I call ih, f33.b4 I call ih))), ((f33.b5 I call ih, f33.b6 I call ih), (f33.b7 I call ih, (f33.b8 I call ih, f33.b9 I call ih))))) n
theorem f33.n0 (I : Inp) (call : CallFn) (n : Nat) : (f33.J I call (n + 1)).1.1.1 = f33.b0 I call (f33.J I call n) := Eq.trans rfl rfl
theorem f33.n1 (I : Inp) (call : CallFn) (n : Nat) : (f33.J I call (n + 1)).1.1.2 = f33.b1 I call (f33.J I call n) := Eq.trans rfl rfl
theorem f33.n2 (I : Inp) (call : CallFn) (n : Nat) : (f33.J I call (n + 1)).1.2.1 = f33.b2 I call (f33.J I call n) := Eq.trans rfl rfl
theorem f33.n3 (I : Inp) (call : CallFn) (n : Nat) : (f33.J I call (n + 1)).1.2.2.1 = f33.b3 I call (f33.J I call n) := Eq.trans rfl rfl
theorem f33.n4 (I : Inp) (call : CallFn) (n : Nat) : (f33.J I call (n + 1)).1.2.2.2 = f33.b4 I call (f33.J I call n) := Eq.trans rfl rfl
theorem f33.n5 (I : Inp) (call : CallFn) (n : Nat) : (f33.J I call (n + 1)).2.1.1 = f33.b5 I call (f33.J I call n) := Eq.trans rfl rfl
theorem f33.n6 (I : Inp) (call : CallFn) (n : Nat) : (f33.J I call (n + 1)).2.1.2 = f33.b6 I call (f33.J I call n) := Eq.trans rfl rfl
theorem f33.n7 (I : Inp) (call : CallFn) (n : Nat) : (f33.J I call (n + 1)).2.2.1 = f33.b7 I call (f33.J I call n) := Eq.trans rfl rfl
theorem f33.n8 (I : Inp) (call : CallFn) (n : Nat) : (f33.J I call (n + 1)).2.2.2.1 = f33.b8 I call (f33.J I call n) := Eq.trans rfl rfl
theorem f33.n9 (I : Inp) (call : CallFn) (n : Nat) : (f33.J I call (n + 1)).2.2.2.2 = f33.b9 I call (f33.J I call n) := Eq.trans rfl rfl
noncomputable def f33.JS (I : Inp) (call : CallFn) (n : Nat) : Jmp := fun id ρ h =>
  (Bool.rec (motive := fun _ => _) (Bool.rec (motive := fun _ => _) (Bool.rec (motive := fun _ => _) (Bool.rec (motive := fun _ => _) ((f33.J I call n).2.2.2.2 (ρ 0) (ρ 4) (ρ 5) (ρ 125) (ρ 154) h) ((f33.J I call n).2.2.2.1 (ρ 0) (ρ 4) (ρ 5) (ρ 125) (ρ 128) h) (Nat.blt id 9)) ((f33.J I call n).2.2.1 (ρ 5) h) (Nat.blt id 8)) (Bool.rec (motive := fun _ => _) ((f33.J I call n).2.1.2 (ρ 0) (ρ 4) (ρ 5) h) ((f33.J I call n).2.1.1 (ρ 0) (ρ 4) (ρ 5) (ρ 7) (ρ 10) (ρ 11) h) (Nat.blt id 6)) (Nat.blt id 7)) (Bool.rec (motive := fun _ => _) (Bool.rec (motive := fun _ => _) (Bool.rec (motive := fun _ => _) ((f33.J I call n).1.2.2.2 (ρ 0) (ρ 4) (ρ 5) (ρ 7) (ρ 10) (ρ 11) h) ((f33.J I call n).1.2.2.1 (ρ 0) (ρ 4) (ρ 5) (ρ 7) (ρ 10) (ρ 11) h) (Nat.blt id 4)) ((f33.J I call n).1.2.1 (ρ 0) (ρ 4) (ρ 5) h) (Nat.blt id 3)) (Bool.rec (motive := fun _ => _) ((f33.J I call n).1.1.2 (ρ 0) (ρ 4) (ρ 5) (ρ 7) (ρ 10) h) ((f33.J I call n).1.1.1 (ρ 0) (ρ 4) (ρ 5) h) (Nat.blt id 1)) (Nat.blt id 2)) (Nat.blt id 5))
theorem f33.q0 (I : Inp) (call : CallFn) (n : Nat) (ρ : Fun) (h : AHeap) : f33.JS I call (n + 1) 0 ρ h = labC P I call (f33.JS I call n) c33.body 0 (finV I c33.results) 0 ρ h := by kernel_rfl
theorem f33.q1 (I : Inp) (call : CallFn) (n : Nat) (ρ : Fun) (h : AHeap) : f33.JS I call (n + 1) 1 ρ h = labC P I call (f33.JS I call n) c33.body 0 (finV I c33.results) 1 ρ h := by kernel_rfl
theorem f33.q2 (I : Inp) (call : CallFn) (n : Nat) (ρ : Fun) (h : AHeap) : f33.JS I call (n + 1) 2 ρ h = labC P I call (f33.JS I call n) c33.body 0 (finV I c33.results) 2 ρ h := by kernel_rfl
theorem f33.q3 (I : Inp) (call : CallFn) (n : Nat) (ρ : Fun) (h : AHeap) : f33.JS I call (n + 1) 3 ρ h = labC P I call (f33.JS I call n) c33.body 0 (finV I c33.results) 3 ρ h := by kernel_rfl
theorem f33.q4 (I : Inp) (call : CallFn) (n : Nat) (ρ : Fun) (h : AHeap) : f33.JS I call (n + 1) 4 ρ h = labC P I call (f33.JS I call n) c33.body 0 (finV I c33.results) 4 ρ h := by kernel_rfl
theorem f33.q5 (I : Inp) (call : CallFn) (n : Nat) (ρ : Fun) (h : AHeap) : f33.JS I call (n + 1) 5 ρ h = labC P I call (f33.JS I call n) c33.body 0 (finV I c33.results) 5 ρ h := by kernel_rfl
theorem f33.q6 (I : Inp) (call : CallFn) (n : Nat) (ρ : Fun) (h : AHeap) : f33.JS I call (n + 1) 6 ρ h = labC P I call (f33.JS I call n) c33.body 0 (finV I c33.results) 6 ρ h := by kernel_rfl
theorem f33.q7 (I : Inp) (call : CallFn) (n : Nat) (ρ : Fun) (h : AHeap) : f33.JS I call (n + 1) 7 ρ h = labC P I call (f33.JS I call n) c33.body 0 (finV I c33.results) 7 ρ h := by kernel_rfl
theorem f33.q8 (I : Inp) (call : CallFn) (n : Nat) (ρ : Fun) (h : AHeap) : f33.JS I call (n + 1) 8 ρ h = labC P I call (f33.JS I call n) c33.body 0 (finV I c33.results) 8 ρ h := by kernel_rfl
theorem f33.q9 (I : Inp) (call : CallFn) (n : Nat) (ρ : Fun) (h : AHeap) : f33.JS I call (n + 1) 9 ρ h = labC P I call (f33.JS I call n) c33.body 0 (finV I c33.results) 9 ρ h := by kernel_rfl
theorem f33.S (I : Inp) (F : Nat → Option AFn) (call : CallFn) : SFn ⟨P, I, F⟩ call c33 (f33.JS I call) :=
  ⟨fun id hid ρ h => by
    have hc : c33.body.cnt = 10 := by kernel_rfl
    rw [hc] at hid
    exact match id, hid with
    | 0, _ => rfl
    | 1, _ => rfl
    | 2, _ => rfl
    | 3, _ => rfl
    | 4, _ => rfl
    | 5, _ => rfl
    | 6, _ => rfl
    | 7, _ => rfl
    | 8, _ => rfl
    | 9, _ => rfl
    | id + 10, hid => absurd hid (by omega), fun n id hid ρ h => by
    have hc : c33.body.cnt = 10 := by kernel_rfl
    rw [hc] at hid
    exact match id, hid with
    | 0, _ => f33.q0 I call n ρ h
    | 1, _ => f33.q1 I call n ρ h
    | 2, _ => f33.q2 I call n ρ h
    | 3, _ => f33.q3 I call n ρ h
    | 4, _ => f33.q4 I call n ρ h
    | 5, _ => f33.q5 I call n ρ h
    | 6, _ => f33.q6 I call n ρ h
    | 7, _ => f33.q7 I call n ρ h
    | 8, _ => f33.q8 I call n ρ h
    | 9, _ => f33.q9 I call n ρ h
    | id + 10, hid => absurd hid (by omega)⟩
noncomputable def f33.run (I : Inp) : SF := fun call n a h =>
  match a with
  | [v0, v1, v2] => f33.e I call (f33.J I call n) v0 v1 v2 h
  | _ => none
theorem f33.qe (I : Inp) (call : CallFn) (n : Nat) (v0 v1 v2 : AVal) (h : AHeap) : f33.e I call (f33.J I call n) v0 v1 v2 h = execC P I call (f33.JS I call n) c33.body 0 (finV I c33.results) (argV [v0, v1, v2]) h := by kernel_rfl
theorem f33.code : codeOf P 33 = some c33 := by kernel_rfl
theorem f33.ok (I : Inp) (F : Nat → Option AFn) (hF : F 33 = some (.code c33)) : SfOk P I F 33 (f33.run I) := by
  intro call hc n args h r hr
  unfold f33.run at hr
  split at hr
  · exact fn_sound (C := ⟨P, I, F⟩) (n := n) hc hF (Nat.le_of_ble_eq_true (by kernel_rfl)) (by kernel_rfl) (f33.S I F call) (by kernel_rfl) ((f33.qe I call n _ _ _ h).symm.trans hr)
  · cases hr
theorem f33.qr (I : Inp) (call : CallFn) (n : Nat) (v0 v1 v2 : AVal) (h : AHeap) : f33.run I call n [v0, v1, v2] h = f33.e I call (f33.J I call n) v0 v1 v2 h := by kernel_rfl
theorem f33.lim {I : Inp} {prims : Nat → Option Prim} (hp : prims 33 = none) {n : Nat} {v0 v1 v2 : AVal} {h : AHeap} {Q : AVal → AHeap → Prop} (hr : Res (f33.e I (AM.lim ⟨P, I, genF P prims⟩) (f33.J I (AM.lim ⟨P, I, genF P prims⟩) n) v0 v1 v2 h) Q) :
    Res (AM.lim ⟨P, I, genF P prims⟩ 33 [v0, v1, v2] h) Q := by
  obtain ⟨v, h', e, q⟩ := hr
  exact ⟨v, h', lim_sf (C := ⟨P, I, genF P prims⟩) (n := n) (f33.ok I (genF P prims) (genF_code hp f33.code)) ((f33.qr I _ n v0 v1 v2 h).trans e), q⟩
/-! haruspex/refuse.Where -/
noncomputable def c38 : AFunc := (AFunc.mk 22 1 [(.cellN 2 3), (.tmp 3)] (.seq (.region [(S 2 (.alloc [(Z 0), (Z 0), (Z 0)]) .none), (S 3 (.move (.val (.bool .false))) .none)]) (.seq (.seq (.region [(M 5 0), (S 6 (.call 56 [(T 5)]) .none), (M 4 6)]) (.seq (.region [(M 7 4), (S 8 (.eq .true .ptr .true (T 7) (.val .nilp)) .none), (M 9 8), (S 10 (.move (T 4)) (.some (9, .true))), (S 11 (.nilCheck (T 10)) (.some (9, .true))), (S 12 (.fieldAddr 1 (T 11)) (.some (9, .true))), (S 13 (.fieldAddr 0 (T 12)) (.some (9, .true))), (S 14 (.load1 (T 13)) (.some (9, .true))), (S 15 (.bin .geq (T 14) (V 0)) (.some (9, .true))), (S 16 (.pick (T 9) (T 15) (.val (.bool .false))) .none)]) (.cond (T 16) (.seq (.region [(M 17 4), (NC 18 17), (FA 19 1 18), (S 20 (.loadN 3 (T 19)) .none), (AOper.mk .none (.store 3 (T 2) (T 20)) .none), (S 3 (.move (.val (.bool .true))) .none)]) .ret) .skip))) (.seq (.region [(S 21 (.build [(Z 0), (Z 0), (Z 0)] []) .none), (AOper.mk .none (.store 3 (T 2) (T 21)) .none), (S 3 (.move (.val (.bool .false))) .none)]) .ret))))
abbrev f38.Js : Type := (AVal → AHeap → Rs)
noncomputable def f38.b0 (I : Inp) (call : CallFn) (j : f38.Js) (v2 : AVal) (h : AHeap) : Rs :=
  bndP (pBuild [(Z 0), (Z 0), (Z 0)] []) fun v21 =>
  bnd (sStore 3 v2 v21 h) fun _ h1 =>
  sRet (sCons (sResN I 3 v2 h1) (sCons (some (.bool .false)) (some []))) h1
noncomputable def f38.e (I : Inp) (call : CallFn) (j : f38.Js) (v0 : AVal) (h : AHeap) : Rs :=
  bnd (sAlloc [(Z 0), (Z 0), (Z 0)] h) fun v2 h1 =>
  bnd (call 56 [v0] h1) fun v6 h2 =>
  bndP (pEq P .true .ptr .true v6 .nilp h2) fun v8 =>
  bnd (sGuard v8 .true (some (v6, h2)) h2) fun v10 h3 =>
  bnd (sGuard v8 .true (lift (pNilCheck v10) h3) h3) fun v11 h4 =>
  bnd (sGuard v8 .true (lift (pFieldAddr 1 v11) h4) h4) fun v12 h5 =>
  bnd (sGuard v8 .true (lift (pFieldAddr 0 v12) h5) h5) fun v13 h6 =>
  bnd (sGuard v8 .true (lift (pLoad1 I v13 h6) h6) h6) fun v14 h7 =>
  bnd (sGuard v8 .true (lift (pBin .geq v14 (Z 0)) h7) h7) fun v15 h8 =>
  bndP (pPick v8 v15 (.bool .false)) fun v16 =>
  sCond v16 (
  j v2 h8) (
  bndP (pNilCheck v6) fun v18 =>
  bndP (pFieldAddr 1 v18) fun v19 =>
  bndP (pLoadN I 3 v19 h8) fun v20 =>
  bnd (sStore 3 v2 v20 h8) fun _ h9 =>
  sRet (sCons (sResN I 3 v2 h9) (sCons (some (.bool .true)) (some []))) h9)
noncomputable def f38.J (I : Inp) (call : CallFn) (n : Nat) : f38.Js :=
  Nat.rec (motive := fun _ => f38.Js) (fun _ _ => none) (fun _ ih => f38.b0 I call ih) n
theorem f38.n0 (I : Inp) (call : CallFn) (n : Nat) : (f38.J I call (n + 1)) = f38.b0 I call (f38.J I call n) := Eq.trans rfl rfl
noncomputable def f38.JS (I : Inp) (call : CallFn) (n : Nat) : Jmp := fun id ρ h =>
  ((f38.J I call n) (ρ 2) h)
theorem f38.q0 (I : Inp) (call : CallFn) (n : Nat) (ρ : Fun) (h : AHeap) : f38.JS I call (n + 1) 0 ρ h = labC P I call (f38.JS I call n) c38.body 0 (finV I c38.results) 0 ρ h := by kernel_rfl
theorem f38.S (I : Inp) (F : Nat → Option AFn) (call : CallFn) : SFn ⟨P, I, F⟩ call c38 (f38.JS I call) :=
  ⟨fun id hid ρ h => by
    have hc : c38.body.cnt = 1 := by kernel_rfl
    rw [hc] at hid
    exact match id, hid with
    | 0, _ => rfl
    | id + 1, hid => absurd hid (by omega), fun n id hid ρ h => by
    have hc : c38.body.cnt = 1 := by kernel_rfl
    rw [hc] at hid
    exact match id, hid with
    | 0, _ => f38.q0 I call n ρ h
    | id + 1, hid => absurd hid (by omega)⟩
noncomputable def f38.run (I : Inp) : SF := fun call n a h =>
  match a with
  | [v0] => f38.e I call (f38.J I call n) v0 h
  | _ => none
theorem f38.qe (I : Inp) (call : CallFn) (n : Nat) (v0 : AVal) (h : AHeap) : f38.e I call (f38.J I call n) v0 h = execC P I call (f38.JS I call n) c38.body 0 (finV I c38.results) (argV [v0]) h := by kernel_rfl
theorem f38.code : codeOf P 38 = some c38 := by kernel_rfl
theorem f38.ok (I : Inp) (F : Nat → Option AFn) (hF : F 38 = some (.code c38)) : SfOk P I F 38 (f38.run I) := by
  intro call hc n args h r hr
  unfold f38.run at hr
  split at hr
  · exact fn_sound (C := ⟨P, I, F⟩) (n := n) hc hF (Nat.le_of_ble_eq_true (by kernel_rfl)) (by kernel_rfl) (f38.S I F call) (by kernel_rfl) ((f38.qe I call n _ h).symm.trans hr)
  · cases hr
theorem f38.qr (I : Inp) (call : CallFn) (n : Nat) (v0 : AVal) (h : AHeap) : f38.run I call n [v0] h = f38.e I call (f38.J I call n) v0 h := by kernel_rfl
theorem f38.lim {I : Inp} {prims : Nat → Option Prim} (hp : prims 38 = none) {n : Nat} {v0 : AVal} {h : AHeap} {Q : AVal → AHeap → Prop} (hr : Res (f38.e I (AM.lim ⟨P, I, genF P prims⟩) (f38.J I (AM.lim ⟨P, I, genF P prims⟩) n) v0 h) Q) :
    Res (AM.lim ⟨P, I, genF P prims⟩ 38 [v0] h) Q := by
  obtain ⟨v, h', e, q⟩ := hr
  exact ⟨v, h', lim_sf (C := ⟨P, I, genF P prims⟩) (n := n) (f38.ok I (genF P prims) (genF_code hp f38.code)) ((f38.qr I _ n v0 h).trans e), q⟩
/-! haruspex/types.bound -/
noncomputable def c39 : AFunc := (AFunc.mk 3 0 [(.tmp 0)] (.seq (.region [(S 0 (.move (.val .nili)) .none)]) (.seq (.region [(S 1 (.call 45 []) .none), (S 2 (.call 44 [(V 2), (T 1), (.val .nili)]) .none), (M 0 2)]) .ret)))
abbrev f39.Js : Type := Unit
noncomputable def f39.e (I : Inp) (call : CallFn) (j : f39.Js) (h : AHeap) : Rs :=
  bnd (call 45 [] h) fun v1 h1 =>
  bnd (call 44 [(Z 2), v1, .nili] h1) fun v2 h2 =>
  some (v2, h2)
theorem f39.S (I : Inp) (F : Nat → Option AFn) (call : CallFn) : SFn ⟨P, I, F⟩ call c39 (fun _ _ _ _ => none) :=
  ⟨fun _ _ _ _ => rfl, fun n id hid => absurd hid (by rw [show c39.body.cnt = 0 by kernel_rfl]; omega)⟩
noncomputable def f39.run (I : Inp) : SF := fun call n a h =>
  match a with
  | [] => f39.e I call () h
  | _ => none
theorem f39.qe (I : Inp) (call : CallFn) (n : Nat) (h : AHeap) : f39.e I call () h = execC P I call (fun _ _ _ => none) c39.body 0 (finV I c39.results) (argV []) h := by kernel_rfl
theorem f39.code : codeOf P 39 = some c39 := by kernel_rfl
theorem f39.ok (I : Inp) (F : Nat → Option AFn) (hF : F 39 = some (.code c39)) : SfOk P I F 39 (f39.run I) := by
  intro call hc n args h r hr
  unfold f39.run at hr
  split at hr
  · exact fn_sound (C := ⟨P, I, F⟩) (n := n) hc hF (Nat.le_of_ble_eq_true (by kernel_rfl)) (by kernel_rfl) (f39.S I F call) (by kernel_rfl) ((f39.qe I call n h).symm.trans hr)
  · cases hr
/-! haruspex/types.body -/
noncomputable def c40 : AFunc := (AFunc.mk 72 1 [(.tmp 2), (.tmp 3), (.tmp 4)] (.seq (.region [(S 1 (.box (T 0)) .none), (S 2 (.move (.val (.bool .false))) .none), (S 3 (.move (V 0)) .none), (S 4 (.move (V 0)) .none)]) (.seq (.region [(FA 12 1 1), (L1 13 12), (S 14 (.lenSl (T 13)) .none), (S 15 (.bin .leq (T 14) (V 16)) .none), (M 16 15), (S 17 (.fieldAddr 2 (T 1)) (.some (16, .true))), (S 18 (.load1 (T 17)) (.some (16, .true))), (S 19 (.lenSl (T 18)) (.some (16, .true))), (S 20 (.bin .leq (T 19) (V 12)) (.some (16, .true))), (S 21 (.pick (T 16) (T 20) (.val (.bool .false))) .none), (M 22 21), (S 23 (.fieldAddr 2 (T 1)) (.some (22, .true))), (S 24 (.load1 (T 23)) (.some (22, .true))), (S 25 (.lenSl (T 24)) (.some (22, .true))), (S 26 (.bin .gtr (T 25) (V 0)) (.some (22, .true))), (S 27 (.pick (T 22) (T 26) (.val (.bool .false))) .none), (M 5 27)]) (.seq (.region [(S 6 (.move (V 0)) .none), (S 7 (.move (V 0)) .none)]) (.seq (.seq (.region [(FA 28 2 1), (L1 29 28), (S 30 (.lenSl (T 29)) .none), (S 31 (.move (V 0)) .none)]) (.block 0 (.loop (.seq (.region [(S 32 (.bin .lss (T 31) (T 30)) .none)]) (.seq (.cond (T 32) .skip (.exit 0)) (.seq (.block 1 (.seq (.region [(S 33 (.indexAddr 5 (T 29) (T 31)) .none), (S 34 (.loadN 5 (T 33)) .none), (S 9 (.alloc [.nils, (Z 0), (Z 0), (Z 0), (Z 0)]) .none), (AOper.mk .none (.store 5 (T 9) (T 34)) .none)]) (.seq (.region [(M 35 5), (M 36 35), (S 37 (.fieldAddr 0 (T 9)) (.some (36, .true))), (S 38 (.load1 (T 37)) (.some (36, .true))), (S 39 (.lenSl (T 38)) (.some (36, .true))), (S 40 (.bin .leq (T 39) (V 30)) (.some (36, .true))), (S 41 (.pick (T 36) (T 40) (.val (.bool .false))) .none), (M 5 41)]) (.seq (.region [(M 42 6), (FA 43 0 9), (L1 44 43), (S 45 (.lenSl (T 44)) .none), (S 46 (.bin .add (T 45) (V 1)) .none), (S 47 (.bin .add (T 42) (T 46)) .none), (M 6 47)]) (.seq (.region [(FA 48 0 9), (L1 49 48), (S 50 (.lenSl (T 49)) .none), (S 51 (.move (V 0)) .none)]) (.block 2 (.loop (.seq (.region [(S 52 (.bin .lss (T 51) (T 50)) .none)]) (.seq (.cond (T 52) .skip (.exit 2)) (.seq (.block 3 (.seq (.region [(S 53 (.indexAddr 6 (T 49) (T 51)) .none), (S 54 (.loadN 6 (T 53)) .none), (S 11 (.alloc [(Z 0), (Z 0), (Z 0), (Z 0), (Z 0), .nils]) .none), (AOper.mk .none (.store 6 (T 11) (T 54)) .none)]) (.seq (.region [(M 55 5), (M 56 55), (S 57 (.fieldAddr 5 (T 11)) (.some (56, .true))), (S 58 (.load1 (T 57)) (.some (56, .true))), (S 59 (.lenSl (T 58)) (.some (56, .true))), (S 60 (.bin .leq (T 59) (V 4)) (.some (56, .true))), (S 61 (.pick (T 56) (T 60) (.val (.bool .false))) .none), (M 5 61)]) (.seq (.region [(FA 62 0 11), (L1 63 62), (S 64 (.bin .eql (T 63) (V 5)) .none)]) (.cond (T 64) (.region [(M 65 7), (S 66 (.bin .add (T 65) (V 1)) .none), (M 7 66)]) .skip))))) (.region [(S 67 (.bin .add (T 51) (V 1)) .none), (M 51 67)]))))))))))) (.region [(S 68 (.bin .add (T 31) (V 1)) .none), (M 31 68)]))))))) (.seq (.region [(M 69 5), (M 70 6), (M 71 7), (M 2 69), (M 3 70), (M 4 71)]) .ret))))))
abbrev f40.Js : Type := (((AVal → AVal → AVal → AHeap → Rs) × ((AVal → AVal → AVal → AVal → AVal → AVal → AHeap → Rs) × (AVal → AVal → AVal → AVal → AVal → AVal → AHeap → Rs))) × (((AVal → AVal → AVal → AVal → AVal → AVal → AHeap → Rs) × (AVal → AVal → AVal → AVal → AVal → AVal → AVal → AVal → AVal → AHeap → Rs)) × ((AVal → AVal → AVal → AVal → AVal → AVal → AVal → AVal → AVal → AHeap → Rs) × (AVal → AVal → AVal → AVal → AVal → AVal → AVal → AVal → AVal → AHeap → Rs))))
noncomputable def f40.b0 (I : Inp) (call : CallFn) (j : f40.Js) (v5 v6 v7 : AVal) (h : AHeap) : Rs :=
  some (.tuple [v5, v6, v7], h)
noncomputable def f40.b1 (I : Inp) (call : CallFn) (j : f40.Js) (v5 v6 v7 v29 v30 v31 : AVal) (h : AHeap) : Rs :=
  bndP (pBin .lss v31 v30) fun v32 =>
  sCond v32 (
  j.1.1 v5 v6 v7 h) (
  j.1.2.2 v5 v6 v7 v29 v30 v31 h)
noncomputable def f40.b2 (I : Inp) (call : CallFn) (j : f40.Js) (v5 v6 v7 v29 v30 v31 : AVal) (h : AHeap) : Rs :=
  bndP (pIndexAddr 5 v29 v31) fun v33 =>
  bndP (pLoadN I 5 v33 h) fun v34 =>
  bnd (sAlloc [.nils, (Z 0), (Z 0), (Z 0), (Z 0)] h) fun v9 h1 =>
  bnd (sStore 5 v9 v34 h1) fun _ h2 =>
  bnd (sGuard v5 .true (lift (pFieldAddr 0 v9) h2) h2) fun v37 h3 =>
  bnd (sGuard v5 .true (lift (pLoad1 I v37 h3) h3) h3) fun v38 h4 =>
  bnd (sGuard v5 .true (lift (pLenSl v38) h4) h4) fun v39 h5 =>
  bnd (sGuard v5 .true (lift (pBin .leq v39 (Z 30)) h5) h5) fun v40 h6 =>
  bndP (pPick v5 v40 (.bool .false)) fun v41 =>
  bndP (pFieldAddr 0 v9) fun v43 =>
  bndP (pLoad1 I v43 h6) fun v44 =>
  bndP (pLenSl v44) fun v45 =>
  bndP (pBin .add v45 (Z 1)) fun v46 =>
  bndP (pBin .add v6 v46) fun v47 =>
  bndP (pFieldAddr 0 v9) fun v48 =>
  bndP (pLoad1 I v48 h6) fun v49 =>
  bndP (pLenSl v49) fun v50 =>
  j.2.1.2 v41 v47 v7 v29 v30 v31 v49 v50 (Z 0) h6
noncomputable def f40.b3 (I : Inp) (call : CallFn) (j : f40.Js) (v5 v6 v7 v29 v30 v31 : AVal) (h : AHeap) : Rs :=
  bndP (pBin .add v31 (Z 1)) fun v68 =>
  j.1.2.1 v5 v6 v7 v29 v30 v68 h
noncomputable def f40.b4 (I : Inp) (call : CallFn) (j : f40.Js) (v5 v6 v7 v29 v30 v31 v49 v50 v51 : AVal) (h : AHeap) : Rs :=
  bndP (pBin .lss v51 v50) fun v52 =>
  sCond v52 (
  j.2.1.1 v5 v6 v7 v29 v30 v31 h) (
  j.2.2.1 v5 v6 v7 v29 v30 v31 v49 v50 v51 h)
noncomputable def f40.b5 (I : Inp) (call : CallFn) (j : f40.Js) (v5 v6 v7 v29 v30 v31 v49 v50 v51 : AVal) (h : AHeap) : Rs :=
  bndP (pIndexAddr 6 v49 v51) fun v53 =>
  bndP (pLoadN I 6 v53 h) fun v54 =>
  bnd (sAlloc [(Z 0), (Z 0), (Z 0), (Z 0), (Z 0), .nils] h) fun v11 h1 =>
  bnd (sStore 6 v11 v54 h1) fun _ h2 =>
  bnd (sGuard v5 .true (lift (pFieldAddr 5 v11) h2) h2) fun v57 h3 =>
  bnd (sGuard v5 .true (lift (pLoad1 I v57 h3) h3) h3) fun v58 h4 =>
  bnd (sGuard v5 .true (lift (pLenSl v58) h4) h4) fun v59 h5 =>
  bnd (sGuard v5 .true (lift (pBin .leq v59 (Z 4)) h5) h5) fun v60 h6 =>
  bndP (pPick v5 v60 (.bool .false)) fun v61 =>
  bndP (pFieldAddr 0 v11) fun v62 =>
  bndP (pLoad1 I v62 h6) fun v63 =>
  bndP (pBin .eql v63 (Z 5)) fun v64 =>
  sCond v64 (
  j.2.2.2 v61 v6 v7 v29 v30 v31 v49 v50 v51 h6) (
  bndP (pBin .add v7 (Z 1)) fun v66 =>
  j.2.2.2 v61 v6 v66 v29 v30 v31 v49 v50 v51 h6)
noncomputable def f40.b6 (I : Inp) (call : CallFn) (j : f40.Js) (v5 v6 v7 v29 v30 v31 v49 v50 v51 : AVal) (h : AHeap) : Rs :=
  bndP (pBin .add v51 (Z 1)) fun v67 =>
  j.2.1.2 v5 v6 v7 v29 v30 v31 v49 v50 v67 h
noncomputable def f40.e (I : Inp) (call : CallFn) (j : f40.Js) (v0 : AVal) (h : AHeap) : Rs :=
  bnd (sBox v0 h) fun v1 h1 =>
  bndP (pFieldAddr 1 v1) fun v12 =>
  bndP (pLoad1 I v12 h1) fun v13 =>
  bndP (pLenSl v13) fun v14 =>
  bndP (pBin .leq v14 (Z 16)) fun v15 =>
  bnd (sGuard v15 .true (lift (pFieldAddr 2 v1) h1) h1) fun v17 h2 =>
  bnd (sGuard v15 .true (lift (pLoad1 I v17 h2) h2) h2) fun v18 h3 =>
  bnd (sGuard v15 .true (lift (pLenSl v18) h3) h3) fun v19 h4 =>
  bnd (sGuard v15 .true (lift (pBin .leq v19 (Z 12)) h4) h4) fun v20 h5 =>
  bndP (pPick v15 v20 (.bool .false)) fun v21 =>
  bnd (sGuard v21 .true (lift (pFieldAddr 2 v1) h5) h5) fun v23 h6 =>
  bnd (sGuard v21 .true (lift (pLoad1 I v23 h6) h6) h6) fun v24 h7 =>
  bnd (sGuard v21 .true (lift (pLenSl v24) h7) h7) fun v25 h8 =>
  bnd (sGuard v21 .true (lift (pBin .gtr v25 (Z 0)) h8) h8) fun v26 h9 =>
  bndP (pPick v21 v26 (.bool .false)) fun v27 =>
  bndP (pFieldAddr 2 v1) fun v28 =>
  bndP (pLoad1 I v28 h9) fun v29 =>
  bndP (pLenSl v29) fun v30 =>
  j.1.2.1 v27 (Z 0) (Z 0) v29 v30 (Z 0) h9
noncomputable def f40.J (I : Inp) (call : CallFn) (n : Nat) : f40.Js :=
  Nat.rec (motive := fun _ => f40.Js) (((fun _ _ _ _ => none), ((fun _ _ _ _ _ _ _ => none), (fun _ _ _ _ _ _ _ => none))), (((fun _ _ _ _ _ _ _ => none), (fun _ _ _ _ _ _ _ _ _ _ => none)), ((fun _ _ _ _ _ _ _ _ _ _ => none), (fun _ _ _ _ _ _ _ _ _ _ => none)))) (fun _ ih => ((f40.b0 I call ih, (f40.b1 I call ih, f40.b2 I call ih)), ((f40.b3 I call ih, f40.b4 I call ih), (f40.b5 I call ih, f40.b6 I call ih)))) n
noncomputable def f40.JS (I : Inp) (call : CallFn) (n : Nat) : Jmp := fun id ρ h =>
  (Bool.rec (motive := fun _ => _) (Bool.rec (motive := fun _ => _) (Bool.rec (motive := fun _ => _) ((f40.J I call n).2.2.2 (ρ 5) (ρ 6) (ρ 7) (ρ 29) (ρ 30) (ρ 31) (ρ 49) (ρ 50) (ρ 51) h) ((f40.J I call n).2.2.1 (ρ 5) (ρ 6) (ρ 7) (ρ 29) (ρ 30) (ρ 31) (ρ 49) (ρ 50) (ρ 51) h) (Nat.blt id 6)) (Bool.rec (motive := fun _ => _) ((f40.J I call n).2.1.2 (ρ 5) (ρ 6) (ρ 7) (ρ 29) (ρ 30) (ρ 31) (ρ 49) (ρ 50) (ρ 51) h) ((f40.J I call n).2.1.1 (ρ 5) (ρ 6) (ρ 7) (ρ 29) (ρ 30) (ρ 31) h) (Nat.blt id 4)) (Nat.blt id 5)) (Bool.rec (motive := fun _ => _) (Bool.rec (motive := fun _ => _) ((f40.J I call n).1.2.2 (ρ 5) (ρ 6) (ρ 7) (ρ 29) (ρ 30) (ρ 31) h) ((f40.J I call n).1.2.1 (ρ 5) (ρ 6) (ρ 7) (ρ 29) (ρ 30) (ρ 31) h) (Nat.blt id 2)) ((f40.J I call n).1.1 (ρ 5) (ρ 6) (ρ 7) h) (Nat.blt id 1)) (Nat.blt id 3))
theorem f40.q0 (I : Inp) (call : CallFn) (n : Nat) (ρ : Fun) (h : AHeap) : f40.JS I call (n + 1) 0 ρ h = labC P I call (f40.JS I call n) c40.body 0 (finV I c40.results) 0 ρ h := by kernel_rfl
theorem f40.q1 (I : Inp) (call : CallFn) (n : Nat) (ρ : Fun) (h : AHeap) : f40.JS I call (n + 1) 1 ρ h = labC P I call (f40.JS I call n) c40.body 0 (finV I c40.results) 1 ρ h := by kernel_rfl
theorem f40.q2 (I : Inp) (call : CallFn) (n : Nat) (ρ : Fun) (h : AHeap) : f40.JS I call (n + 1) 2 ρ h = labC P I call (f40.JS I call n) c40.body 0 (finV I c40.results) 2 ρ h := by kernel_rfl
theorem f40.q3 (I : Inp) (call : CallFn) (n : Nat) (ρ : Fun) (h : AHeap) : f40.JS I call (n + 1) 3 ρ h = labC P I call (f40.JS I call n) c40.body 0 (finV I c40.results) 3 ρ h := by kernel_rfl
theorem f40.q4 (I : Inp) (call : CallFn) (n : Nat) (ρ : Fun) (h : AHeap) : f40.JS I call (n + 1) 4 ρ h = labC P I call (f40.JS I call n) c40.body 0 (finV I c40.results) 4 ρ h := by kernel_rfl
theorem f40.q5 (I : Inp) (call : CallFn) (n : Nat) (ρ : Fun) (h : AHeap) : f40.JS I call (n + 1) 5 ρ h = labC P I call (f40.JS I call n) c40.body 0 (finV I c40.results) 5 ρ h := by kernel_rfl
theorem f40.q6 (I : Inp) (call : CallFn) (n : Nat) (ρ : Fun) (h : AHeap) : f40.JS I call (n + 1) 6 ρ h = labC P I call (f40.JS I call n) c40.body 0 (finV I c40.results) 6 ρ h := by kernel_rfl
theorem f40.S (I : Inp) (F : Nat → Option AFn) (call : CallFn) : SFn ⟨P, I, F⟩ call c40 (f40.JS I call) :=
  ⟨fun id hid ρ h => by
    have hc : c40.body.cnt = 7 := by kernel_rfl
    rw [hc] at hid
    exact match id, hid with
    | 0, _ => rfl
    | 1, _ => rfl
    | 2, _ => rfl
    | 3, _ => rfl
    | 4, _ => rfl
    | 5, _ => rfl
    | 6, _ => rfl
    | id + 7, hid => absurd hid (by omega), fun n id hid ρ h => by
    have hc : c40.body.cnt = 7 := by kernel_rfl
    rw [hc] at hid
    exact match id, hid with
    | 0, _ => f40.q0 I call n ρ h
    | 1, _ => f40.q1 I call n ρ h
    | 2, _ => f40.q2 I call n ρ h
    | 3, _ => f40.q3 I call n ρ h
    | 4, _ => f40.q4 I call n ρ h
    | 5, _ => f40.q5 I call n ρ h
    | 6, _ => f40.q6 I call n ρ h
    | id + 7, hid => absurd hid (by omega)⟩
noncomputable def f40.run (I : Inp) : SF := fun call n a h =>
  match a with
  | [v0] => f40.e I call (f40.J I call n) v0 h
  | _ => none
theorem f40.qe (I : Inp) (call : CallFn) (n : Nat) (v0 : AVal) (h : AHeap) : f40.e I call (f40.J I call n) v0 h = execC P I call (f40.JS I call n) c40.body 0 (finV I c40.results) (argV [v0]) h := by kernel_rfl
theorem f40.code : codeOf P 40 = some c40 := by kernel_rfl
theorem f40.ok (I : Inp) (F : Nat → Option AFn) (hF : F 40 = some (.code c40)) : SfOk P I F 40 (f40.run I) := by
  intro call hc n args h r hr
  unfold f40.run at hr
  split at hr
  · exact fn_sound (C := ⟨P, I, F⟩) (n := n) hc hF (Nat.le_of_ble_eq_true (by kernel_rfl)) (by kernel_rfl) (f40.S I F call) (by kernel_rfl) ((f40.qe I call n _ h).symm.trans hr)
  · cases hr
/-! haruspex/haruspexref8.named -/
noncomputable def c41 : AFunc := (AFunc.mk 57 2 [(.tmp 4)] (.seq (.region [(S 3 (.box (T 1)) .none), (S 4 (.move (.val (.bool .false))) .none)]) (.seq (.seq (.region [(FA 5 0 3), (L1 6 5)]) (.block 0 (.seq (.region [(S 8 (.bin .eql (T 6) (V 0)) .none), (M 7 8)]) (.cond (T 7) (.seq (.region [(FA 9 1 3), (L1 10 9), (S 11 (.bin .eql (T 10) (V 0)) .none), (M 4 11)]) .ret) (.seq (.region [(S 13 (.bin .eql (T 6) (V 1)) .none), (M 12 13)]) (.cond (T 12) (.seq (.draw [(FA 14 1 3), (L1 15 14), (S 16 (.bin .geq (T 15) (V 0)) .none), (M 17 16), (S 18 (.fieldAddr 1 (T 3)) (.some (17, .true))), (S 19 (.load1 (T 18)) (.some (17, .true))), (S 20 (.move (T 0)) (.some (17, .true))), (S 21 (.nilCheck (T 20)) (.some (17, .true))), (S 22 (.fieldAddr 0 (T 21)) (.some (17, .true))), (S 23 (.load1 (T 22)) (.some (17, .true))), (S 24 (.lenSl (T 23)) (.some (17, .true))), (S 25 (.bin .lss (T 19) (T 24)) (.some (17, .true))), (S 26 (.pick (T 17) (T 25) (.val (.bool .false))) .none), (M 4 26)] [N, N, N, N, N, N, N, N, N, N, N, N, N, N] 0) .ret) (.seq (.region [(S 28 (.bin .eql (T 6) (V 2)) .none), (M 27 28)]) (.cond (T 27) (.seq (.draw [(FA 29 1 3), (L1 30 29), (S 31 (.bin .geq (T 30) (V 0)) .none), (M 32 31), (S 33 (.fieldAddr 1 (T 3)) (.some (32, .true))), (S 34 (.load1 (T 33)) (.some (32, .true))), (S 35 (.move (T 0)) (.some (32, .true))), (S 36 (.nilCheck (T 35)) (.some (32, .true))), (S 37 (.fieldAddr 1 (T 36)) (.some (32, .true))), (S 38 (.load1 (T 37)) (.some (32, .true))), (S 39 (.lenSl (T 38)) (.some (32, .true))), (S 40 (.bin .lss (T 34) (T 39)) (.some (32, .true))), (S 41 (.pick (T 32) (T 40) (.val (.bool .false))) .none), (M 4 41)] [N, N, N, N, N, N, N, N, N, N, N, N, N, N] 0) .ret) (.seq (.region [(S 43 (.bin .eql (T 6) (V 3)) .none), (M 42 43)]) (.cond (T 42) (.seq (.draw [(FA 44 1 3), (L1 45 44), (S 46 (.bin .geq (T 45) (V 0)) .none), (M 47 46), (S 48 (.fieldAddr 1 (T 3)) (.some (47, .true))), (S 49 (.load1 (T 48)) (.some (47, .true))), (S 50 (.move (T 0)) (.some (47, .true))), (S 51 (.nilCheck (T 50)) (.some (47, .true))), (S 52 (.fieldAddr 2 (T 51)) (.some (47, .true))), (S 53 (.load1 (T 52)) (.some (47, .true))), (S 54 (.lenSl (T 53)) (.some (47, .true))), (S 55 (.bin .lss (T 49) (T 54)) (.some (47, .true))), (S 56 (.pick (T 47) (T 55) (.val (.bool .false))) .none), (M 4 56)] [N, N, N, N, N, N, N, N, N, N, N, N, N, N] 0) .ret) .skip)))))))))) (.seq (.region [(S 4 (.move (.val (.bool .false))) .none)]) .ret))))
abbrev f41.Js : Type := (AHeap → Rs)
noncomputable def f41.b0 (I : Inp) (call : CallFn) (j : f41.Js) (h : AHeap) : Rs :=
  some ((.bool .false), h)
noncomputable def f41.e (I : Inp) (call : CallFn) (j : f41.Js) (v0 v1 : AVal) (h : AHeap) : Rs :=
  bnd (sBox v1 h) fun v3 h1 =>
  bndP (pFieldAddr 0 v3) fun v5 =>
  bndP (pLoad1 I v5 h1) fun v6 =>
  bndP (pBin .eql v6 (Z 0)) fun v8 =>
  sCond v8 (
  bndP (pBin .eql v6 (Z 1)) fun v13 =>
  sCond v13 (
  bndP (pBin .eql v6 (Z 2)) fun v28 =>
  sCond v28 (
  bndP (pBin .eql v6 (Z 3)) fun v43 =>
  sCond v43 (
  j h1) (
  bndP (pFieldAddr 1 v3) fun v44 =>
  bndP (pLoad1 I v44 h1) fun v45 =>
  bndP (pBin .geq v45 (Z 0)) fun v46 =>
  bnd (sGuard v46 .true (lift (pFieldAddr 1 v3) h1) h1) fun v48 h2 =>
  bnd (sGuard v46 .true (lift (pLoad1 I v48 h2) h2) h2) fun v49 h3 =>
  bnd (sGuard v46 .true (some (v0, h3)) h3) fun v50 h4 =>
  bnd (sGuard v46 .true (lift (pNilCheck v50) h4) h4) fun v51 h5 =>
  bnd (sGuard v46 .true (lift (pFieldAddr 2 v51) h5) h5) fun v52 h6 =>
  bnd (sGuard v46 .true (lift (pLoad1 I v52 h6) h6) h6) fun v53 h7 =>
  bnd (sGuard v46 .true (lift (pLenSl v53) h7) h7) fun v54 h8 =>
  bnd (sGuard v46 .true (lift (pBin .lss v49 v54) h8) h8) fun v55 h9 =>
  bndP (pPick v46 v55 (.bool .false)) fun v56 =>
  some (v56, h9))) (
  bndP (pFieldAddr 1 v3) fun v29 =>
  bndP (pLoad1 I v29 h1) fun v30 =>
  bndP (pBin .geq v30 (Z 0)) fun v31 =>
  bnd (sGuard v31 .true (lift (pFieldAddr 1 v3) h1) h1) fun v33 h10 =>
  bnd (sGuard v31 .true (lift (pLoad1 I v33 h10) h10) h10) fun v34 h11 =>
  bnd (sGuard v31 .true (some (v0, h11)) h11) fun v35 h12 =>
  bnd (sGuard v31 .true (lift (pNilCheck v35) h12) h12) fun v36 h13 =>
  bnd (sGuard v31 .true (lift (pFieldAddr 1 v36) h13) h13) fun v37 h14 =>
  bnd (sGuard v31 .true (lift (pLoad1 I v37 h14) h14) h14) fun v38 h15 =>
  bnd (sGuard v31 .true (lift (pLenSl v38) h15) h15) fun v39 h16 =>
  bnd (sGuard v31 .true (lift (pBin .lss v34 v39) h16) h16) fun v40 h17 =>
  bndP (pPick v31 v40 (.bool .false)) fun v41 =>
  some (v41, h17))) (
  bndP (pFieldAddr 1 v3) fun v14 =>
  bndP (pLoad1 I v14 h1) fun v15 =>
  bndP (pBin .geq v15 (Z 0)) fun v16 =>
  bnd (sGuard v16 .true (lift (pFieldAddr 1 v3) h1) h1) fun v18 h18 =>
  bnd (sGuard v16 .true (lift (pLoad1 I v18 h18) h18) h18) fun v19 h19 =>
  bnd (sGuard v16 .true (some (v0, h19)) h19) fun v20 h20 =>
  bnd (sGuard v16 .true (lift (pNilCheck v20) h20) h20) fun v21 h21 =>
  bnd (sGuard v16 .true (lift (pFieldAddr 0 v21) h21) h21) fun v22 h22 =>
  bnd (sGuard v16 .true (lift (pLoad1 I v22 h22) h22) h22) fun v23 h23 =>
  bnd (sGuard v16 .true (lift (pLenSl v23) h23) h23) fun v24 h24 =>
  bnd (sGuard v16 .true (lift (pBin .lss v19 v24) h24) h24) fun v25 h25 =>
  bndP (pPick v16 v25 (.bool .false)) fun v26 =>
  some (v26, h25))) (
  bndP (pFieldAddr 1 v3) fun v9 =>
  bndP (pLoad1 I v9 h1) fun v10 =>
  bndP (pBin .eql v10 (Z 0)) fun v11 =>
  some (v11, h1))
noncomputable def f41.J (I : Inp) (call : CallFn) (n : Nat) : f41.Js :=
  Nat.rec (motive := fun _ => f41.Js) (fun _ => none) (fun _ ih => f41.b0 I call ih) n
theorem f41.n0 (I : Inp) (call : CallFn) (n : Nat) : (f41.J I call (n + 1)) = f41.b0 I call (f41.J I call n) := Eq.trans rfl rfl
noncomputable def f41.JS (I : Inp) (call : CallFn) (n : Nat) : Jmp := fun id ρ h =>
  ((f41.J I call n) h)
theorem f41.q0 (I : Inp) (call : CallFn) (n : Nat) (ρ : Fun) (h : AHeap) : f41.JS I call (n + 1) 0 ρ h = labC P I call (f41.JS I call n) c41.body 0 (finV I c41.results) 0 ρ h := by kernel_rfl
theorem f41.S (I : Inp) (F : Nat → Option AFn) (call : CallFn) : SFn ⟨P, I, F⟩ call c41 (f41.JS I call) :=
  ⟨fun id hid ρ h => by
    have hc : c41.body.cnt = 1 := by kernel_rfl
    rw [hc] at hid
    exact match id, hid with
    | 0, _ => rfl
    | id + 1, hid => absurd hid (by omega), fun n id hid ρ h => by
    have hc : c41.body.cnt = 1 := by kernel_rfl
    rw [hc] at hid
    exact match id, hid with
    | 0, _ => f41.q0 I call n ρ h
    | id + 1, hid => absurd hid (by omega)⟩
noncomputable def f41.run (I : Inp) : SF := fun call n a h =>
  match a with
  | [v0, v1] => f41.e I call (f41.J I call n) v0 v1 h
  | _ => none
theorem f41.qe (I : Inp) (call : CallFn) (n : Nat) (v0 v1 : AVal) (h : AHeap) : f41.e I call (f41.J I call n) v0 v1 h = execC P I call (f41.JS I call n) c41.body 0 (finV I c41.results) (argV [v0, v1]) h := by kernel_rfl
theorem f41.code : codeOf P 41 = some c41 := by kernel_rfl
theorem f41.ok (I : Inp) (F : Nat → Option AFn) (hF : F 41 = some (.code c41)) : SfOk P I F 41 (f41.run I) := by
  intro call hc n args h r hr
  unfold f41.run at hr
  split at hr
  · exact fn_sound (C := ⟨P, I, F⟩) (n := n) hc hF (Nat.le_of_ble_eq_true (by kernel_rfl)) (by kernel_rfl) (f41.S I F call) (by kernel_rfl) ((f41.qe I call n _ _ h).symm.trans hr)
  · cases hr
theorem f41.qr (I : Inp) (call : CallFn) (n : Nat) (v0 v1 : AVal) (h : AHeap) : f41.run I call n [v0, v1] h = f41.e I call (f41.J I call n) v0 v1 h := by kernel_rfl
theorem f41.lim {I : Inp} {prims : Nat → Option Prim} (hp : prims 41 = none) {n : Nat} {v0 v1 : AVal} {h : AHeap} {Q : AVal → AHeap → Prop} (hr : Res (f41.e I (AM.lim ⟨P, I, genF P prims⟩) (f41.J I (AM.lim ⟨P, I, genF P prims⟩) n) v0 v1 h) Q) :
    Res (AM.lim ⟨P, I, genF P prims⟩ 41 [v0, v1] h) Q := by
  obtain ⟨v, h', e, q⟩ := hr
  exact ⟨v, h', lim_sf (C := ⟨P, I, genF P prims⟩) (n := n) (f41.ok I (genF P prims) (genF_code hp f41.code)) ((f41.qr I _ n v0 v1 h).trans e), q⟩
/-! haruspex/haruspexref8.in -/
noncomputable def c42 : AFunc := (AFunc.mk 12 2 [(.tmp 4)] (.seq (.region [(S 4 (.move (.val (.bool .false))) .none)]) (.seq (.region [(M 5 0), (S 6 (.bin .geq (T 5) (V 0)) .none), (M 7 6), (S 8 (.move (T 0)) (.some (7, .true))), (S 9 (.move (T 1)) (.some (7, .true))), (S 10 (.bin .lss (T 8) (T 9)) (.some (7, .true))), (S 11 (.pick (T 7) (T 10) (.val (.bool .false))) .none), (M 4 11)]) .ret)))
abbrev f42.Js : Type := Unit
noncomputable def f42.e (I : Inp) (call : CallFn) (j : f42.Js) (v0 v1 : AVal) (h : AHeap) : Rs :=
  bndP (pBin .geq v0 (Z 0)) fun v6 =>
  bnd (sGuard v6 .true (some (v0, h)) h) fun v8 h1 =>
  bnd (sGuard v6 .true (some (v1, h1)) h1) fun v9 h2 =>
  bnd (sGuard v6 .true (lift (pBin .lss v8 v9) h2) h2) fun v10 h3 =>
  bndP (pPick v6 v10 (.bool .false)) fun v11 =>
  some (v11, h3)
theorem f42.S (I : Inp) (F : Nat → Option AFn) (call : CallFn) : SFn ⟨P, I, F⟩ call c42 (fun _ _ _ _ => none) :=
  ⟨fun _ _ _ _ => rfl, fun n id hid => absurd hid (by rw [show c42.body.cnt = 0 by kernel_rfl]; omega)⟩
noncomputable def f42.run (I : Inp) : SF := fun call n a h =>
  match a with
  | [v0, v1] => f42.e I call () v0 v1 h
  | _ => none
theorem f42.qe (I : Inp) (call : CallFn) (n : Nat) (v0 v1 : AVal) (h : AHeap) : f42.e I call () v0 v1 h = execC P I call (fun _ _ _ => none) c42.body 0 (finV I c42.results) (argV [v0, v1]) h := by kernel_rfl
theorem f42.code : codeOf P 42 = some c42 := by kernel_rfl
theorem f42.ok (I : Inp) (F : Nat → Option AFn) (hF : F 42 = some (.code c42)) : SfOk P I F 42 (f42.run I) := by
  intro call hc n args h r hr
  unfold f42.run at hr
  split at hr
  · exact fn_sound (C := ⟨P, I, F⟩) (n := n) hc hF (Nat.le_of_ble_eq_true (by kernel_rfl)) (by kernel_rfl) (f42.S I F call) (by kernel_rfl) ((f42.qe I call n _ _ h).symm.trans hr)
  · cases hr
theorem f42.qr (I : Inp) (call : CallFn) (n : Nat) (v0 v1 : AVal) (h : AHeap) : f42.run I call n [v0, v1] h = f42.e I call () v0 v1 h := by kernel_rfl
theorem f42.lim {I : Inp} {prims : Nat → Option Prim} (hp : prims 42 = none) {n : Nat} {v0 v1 : AVal} {h : AHeap} {Q : AVal → AHeap → Prop} (hr : Res (f42.e I (AM.lim ⟨P, I, genF P prims⟩) () v0 v1 h) Q) :
    Res (AM.lim ⟨P, I, genF P prims⟩ 42 [v0, v1] h) Q := by
  obtain ⟨v, h', e, q⟩ := hr
  exact ⟨v, h', lim_sf (C := ⟨P, I, genF P prims⟩) (n := 0) (f42.ok I (genF P prims) (genF_code hp f42.code)) ((f42.qr I _ 0 v0 v1 h).trans e), q⟩
/-! haruspex/haruspexref8.ending -/
noncomputable def c43 : AFunc := (AFunc.mk 62 2 [(.tmp 4)] (.seq (.region [(S 2 (.box (T 0)) .none), (S 3 (.box (T 1)) .none), (S 4 (.move (.val (.bool .false))) .none)]) (.seq (.draw [(FA 7 2 3), (L1 8 7), (FA 9 1 2), (L1 10 9), (S 11 (.lenSl (T 10)) .none), (S 12 (.call 42 [(T 8), (T 11)]) .none), (FA 13 2 2), (L1 14 13), (S 15 (.lenSl (T 14)) .none), (M 5 12), (M 6 15)] [N, N, N, N, N, Y, N, (.false, [0]), N, N, N] 0) (.seq (.seq (.region [(FA 16 1 3), (L1 17 16)]) (.block 0 (.seq (.region [(S 19 (.bin .eql (T 17) (V 1)) .none), (M 18 19)]) (.cond (T 18) (.seq (.region [(FA 20 2 3), (L1 21 20), (S 22 (.bin .eql (T 21) (V 0)) .none), (M 23 22), (S 24 (.fieldAddr 4 (T 3)) (.some (23, .true))), (S 25 (.load1 (T 24)) (.some (23, .true))), (S 26 (.bin .eql (T 25) (V 0)) (.some (23, .true))), (S 27 (.pick (T 23) (T 26) (.val (.bool .false))) .none), (M 28 27), (S 29 (.fieldAddr 3 (T 3)) (.some (28, .true))), (S 30 (.load1 (T 29)) (.some (28, .true))), (S 31 (.move (T 6)) (.some (28, .true))), (S 32 (.call 42 [(T 30), (T 31)]) (.some (28, .true))), (S 33 (.pick (T 28) (T 32) (.val (.bool .false))) .none), (M 4 33)]) .ret) (.seq (.region [(S 35 (.bin .eql (T 17) (V 2)) .none), (M 34 35)]) (.cond (T 34) (.seq (.region [(M 36 5), (M 37 36), (S 38 (.fieldAddr 3 (T 3)) (.some (37, .true))), (S 39 (.load1 (T 38)) (.some (37, .true))), (S 40 (.move (T 6)) (.some (37, .true))), (S 41 (.call 42 [(T 39), (T 40)]) (.some (37, .true))), (S 42 (.pick (T 37) (T 41) (.val (.bool .false))) .none), (M 43 42), (S 44 (.fieldAddr 4 (T 3)) (.some (43, .true))), (S 45 (.load1 (T 44)) (.some (43, .true))), (S 46 (.move (T 6)) (.some (43, .true))), (S 47 (.call 42 [(T 45), (T 46)]) (.some (43, .true))), (S 48 (.pick (T 43) (T 47) (.val (.bool .false))) .none), (M 4 48)]) .ret) (.seq (.region [(S 50 (.bin .eql (T 17) (V 3)) .none), (M 49 50)]) (.cond (T 49) (.seq (.region [(M 51 5), (M 52 51), (S 53 (.fieldAddr 3 (T 3)) (.some (52, .true))), (S 54 (.load1 (T 53)) (.some (52, .true))), (S 55 (.bin .eql (T 54) (V 0)) (.some (52, .true))), (S 56 (.pick (T 52) (T 55) (.val (.bool .false))) .none), (M 57 56), (S 58 (.fieldAddr 4 (T 3)) (.some (57, .true))), (S 59 (.load1 (T 58)) (.some (57, .true))), (S 60 (.bin .eql (T 59) (V 0)) (.some (57, .true))), (S 61 (.pick (T 57) (T 60) (.val (.bool .false))) .none), (M 4 61)]) .ret) .skip)))))))) (.seq (.region [(S 4 (.move (.val (.bool .false))) .none)]) .ret)))))
abbrev f43.Js : Type := (AHeap → Rs)
noncomputable def f43.b0 (I : Inp) (call : CallFn) (j : f43.Js) (h : AHeap) : Rs :=
  some ((.bool .false), h)
noncomputable def f43.e (I : Inp) (call : CallFn) (j : f43.Js) (v0 v1 : AVal) (h : AHeap) : Rs :=
  bnd (sBox v0 h) fun v2 h1 =>
  bnd (sBox v1 h1) fun v3 h2 =>
  bndP (pFieldAddr 2 v3) fun v7 =>
  bndP (pLoad1 I v7 h2) fun v8 =>
  bndP (pFieldAddr 1 v2) fun v9 =>
  bndP (pLoad1 I v9 h2) fun v10 =>
  bndP (pLenSl v10) fun v11 =>
  bnd (call 42 [v8, v11] h2) fun v12 h3 =>
  bndP (pFieldAddr 2 v2) fun v13 =>
  bndP (pLoad1 I v13 h3) fun v14 =>
  bndP (pLenSl v14) fun v15 =>
  sCheck (sSame (lift (pLoad1 I v13 h2) h2) v14 && true) (
  bndP (pFieldAddr 1 v3) fun v16 =>
  bndP (pLoad1 I v16 h3) fun v17 =>
  bndP (pBin .eql v17 (Z 1)) fun v19 =>
  sCond v19 (
  bndP (pBin .eql v17 (Z 2)) fun v35 =>
  sCond v35 (
  bndP (pBin .eql v17 (Z 3)) fun v50 =>
  sCond v50 (
  j h3) (
  bnd (sGuard v12 .true (lift (pFieldAddr 3 v3) h3) h3) fun v53 h4 =>
  bnd (sGuard v12 .true (lift (pLoad1 I v53 h4) h4) h4) fun v54 h5 =>
  bnd (sGuard v12 .true (lift (pBin .eql v54 (Z 0)) h5) h5) fun v55 h6 =>
  bndP (pPick v12 v55 (.bool .false)) fun v56 =>
  bnd (sGuard v56 .true (lift (pFieldAddr 4 v3) h6) h6) fun v58 h7 =>
  bnd (sGuard v56 .true (lift (pLoad1 I v58 h7) h7) h7) fun v59 h8 =>
  bnd (sGuard v56 .true (lift (pBin .eql v59 (Z 0)) h8) h8) fun v60 h9 =>
  bndP (pPick v56 v60 (.bool .false)) fun v61 =>
  some (v61, h9))) (
  bnd (sGuard v12 .true (lift (pFieldAddr 3 v3) h3) h3) fun v38 h10 =>
  bnd (sGuard v12 .true (lift (pLoad1 I v38 h10) h10) h10) fun v39 h11 =>
  bnd (sGuard v12 .true (some (v15, h11)) h11) fun v40 h12 =>
  bnd (sGuard v12 .true (call 42 [v39, v40] h12) h12) fun v41 h13 =>
  bndP (pPick v12 v41 (.bool .false)) fun v42 =>
  bnd (sGuard v42 .true (lift (pFieldAddr 4 v3) h13) h13) fun v44 h14 =>
  bnd (sGuard v42 .true (lift (pLoad1 I v44 h14) h14) h14) fun v45 h15 =>
  bnd (sGuard v42 .true (some (v15, h15)) h15) fun v46 h16 =>
  bnd (sGuard v42 .true (call 42 [v45, v46] h16) h16) fun v47 h17 =>
  bndP (pPick v42 v47 (.bool .false)) fun v48 =>
  some (v48, h17))) (
  bndP (pFieldAddr 2 v3) fun v20 =>
  bndP (pLoad1 I v20 h3) fun v21 =>
  bndP (pBin .eql v21 (Z 0)) fun v22 =>
  bnd (sGuard v22 .true (lift (pFieldAddr 4 v3) h3) h3) fun v24 h18 =>
  bnd (sGuard v22 .true (lift (pLoad1 I v24 h18) h18) h18) fun v25 h19 =>
  bnd (sGuard v22 .true (lift (pBin .eql v25 (Z 0)) h19) h19) fun v26 h20 =>
  bndP (pPick v22 v26 (.bool .false)) fun v27 =>
  bnd (sGuard v27 .true (lift (pFieldAddr 3 v3) h20) h20) fun v29 h21 =>
  bnd (sGuard v27 .true (lift (pLoad1 I v29 h21) h21) h21) fun v30 h22 =>
  bnd (sGuard v27 .true (some (v15, h22)) h22) fun v31 h23 =>
  bnd (sGuard v27 .true (call 42 [v30, v31] h23) h23) fun v32 h24 =>
  bndP (pPick v27 v32 (.bool .false)) fun v33 =>
  some (v33, h24)))
noncomputable def f43.J (I : Inp) (call : CallFn) (n : Nat) : f43.Js :=
  Nat.rec (motive := fun _ => f43.Js) (fun _ => none) (fun _ ih => f43.b0 I call ih) n
theorem f43.n0 (I : Inp) (call : CallFn) (n : Nat) : (f43.J I call (n + 1)) = f43.b0 I call (f43.J I call n) := Eq.trans rfl rfl
noncomputable def f43.JS (I : Inp) (call : CallFn) (n : Nat) : Jmp := fun id ρ h =>
  ((f43.J I call n) h)
theorem f43.q0 (I : Inp) (call : CallFn) (n : Nat) (ρ : Fun) (h : AHeap) : f43.JS I call (n + 1) 0 ρ h = labC P I call (f43.JS I call n) c43.body 0 (finV I c43.results) 0 ρ h := by kernel_rfl
theorem f43.S (I : Inp) (F : Nat → Option AFn) (call : CallFn) : SFn ⟨P, I, F⟩ call c43 (f43.JS I call) :=
  ⟨fun id hid ρ h => by
    have hc : c43.body.cnt = 1 := by kernel_rfl
    rw [hc] at hid
    exact match id, hid with
    | 0, _ => rfl
    | id + 1, hid => absurd hid (by omega), fun n id hid ρ h => by
    have hc : c43.body.cnt = 1 := by kernel_rfl
    rw [hc] at hid
    exact match id, hid with
    | 0, _ => f43.q0 I call n ρ h
    | id + 1, hid => absurd hid (by omega)⟩
noncomputable def f43.run (I : Inp) : SF := fun call n a h =>
  match a with
  | [v0, v1] => f43.e I call (f43.J I call n) v0 v1 h
  | _ => none
theorem f43.qe (I : Inp) (call : CallFn) (n : Nat) (v0 v1 : AVal) (h : AHeap) : f43.e I call (f43.J I call n) v0 v1 h = execC P I call (f43.JS I call n) c43.body 0 (finV I c43.results) (argV [v0, v1]) h := by kernel_rfl
theorem f43.code : codeOf P 43 = some c43 := by kernel_rfl
theorem f43.ok (I : Inp) (F : Nat → Option AFn) (hF : F 43 = some (.code c43)) : SfOk P I F 43 (f43.run I) := by
  intro call hc n args h r hr
  unfold f43.run at hr
  split at hr
  · exact fn_sound (C := ⟨P, I, F⟩) (n := n) hc hF (Nat.le_of_ble_eq_true (by kernel_rfl)) (by kernel_rfl) (f43.S I F call) (by kernel_rfl) ((f43.qe I call n _ _ h).symm.trans hr)
  · cases hr
theorem f43.qr (I : Inp) (call : CallFn) (n : Nat) (v0 v1 : AVal) (h : AHeap) : f43.run I call n [v0, v1] h = f43.e I call (f43.J I call n) v0 v1 h := by kernel_rfl
theorem f43.lim {I : Inp} {prims : Nat → Option Prim} (hp : prims 43 = none) {n : Nat} {v0 v1 : AVal} {h : AHeap} {Q : AVal → AHeap → Prop} (hr : Res (f43.e I (AM.lim ⟨P, I, genF P prims⟩) (f43.J I (AM.lim ⟨P, I, genF P prims⟩) n) v0 v1 h) Q) :
    Res (AM.lim ⟨P, I, genF P prims⟩ 43 [v0, v1] h) Q := by
  obtain ⟨v, h', e, q⟩ := hr
  exact ⟨v, h', lim_sf (C := ⟨P, I, genF P prims⟩) (n := n) (f43.ok I (genF P prims) (genF_code hp f43.code)) ((f43.qr I _ n v0 v1 h).trans e), q⟩
/-! haruspex/refuse.New -/
noncomputable def c44 : AFunc := (AFunc.mk 13 3 [(.tmp 6)] (.seq (.region [(S 4 (.box (T 1)) .none), (S 6 (.move (.val .nili)) .none)]) (.seq (.region [(M 7 0), (S 8 (.loadN 3 (T 4)) .none), (M 9 2), (S 10 (.build [(Z 0), (Z 0), (Z 0), (Z 0), .nili] [(0, (1, (T 7))), (1, (3, (T 8))), (4, (1, (T 9)))]) .none), (S 11 (.box (T 10)) .none), (S 12 (.iface 92 (T 11)) .none), (M 6 12)]) .ret)))
abbrev f44.Js : Type := Unit
noncomputable def f44.e (I : Inp) (call : CallFn) (j : f44.Js) (v0 v1 v2 : AVal) (h : AHeap) : Rs :=
  bnd (sBox v1 h) fun v4 h1 =>
  bndP (pLoadN I 3 v4 h1) fun v8 =>
  bndP (pBuild [(Z 0), (Z 0), (Z 0), (Z 0), .nili] [(0, 1, v0), (1, 3, v8), (4, 1, v2)]) fun v10 =>
  bnd (sBox v10 h1) fun v11 h2 =>
  some ((.iface 92 v11), h2)
theorem f44.S (I : Inp) (F : Nat → Option AFn) (call : CallFn) : SFn ⟨P, I, F⟩ call c44 (fun _ _ _ _ => none) :=
  ⟨fun _ _ _ _ => rfl, fun n id hid => absurd hid (by rw [show c44.body.cnt = 0 by kernel_rfl]; omega)⟩
noncomputable def f44.run (I : Inp) : SF := fun call n a h =>
  match a with
  | [v0, v1, v2] => f44.e I call () v0 v1 v2 h
  | _ => none
theorem f44.qe (I : Inp) (call : CallFn) (n : Nat) (v0 v1 v2 : AVal) (h : AHeap) : f44.e I call () v0 v1 v2 h = execC P I call (fun _ _ _ => none) c44.body 0 (finV I c44.results) (argV [v0, v1, v2]) h := by kernel_rfl
theorem f44.code : codeOf P 44 = some c44 := by kernel_rfl
theorem f44.ok (I : Inp) (F : Nat → Option AFn) (hF : F 44 = some (.code c44)) : SfOk P I F 44 (f44.run I) := by
  intro call hc n args h r hr
  unfold f44.run at hr
  split at hr
  · exact fn_sound (C := ⟨P, I, F⟩) (n := n) hc hF (Nat.le_of_ble_eq_true (by kernel_rfl)) (by kernel_rfl) (f44.S I F call) (by kernel_rfl) ((f44.qe I call n _ _ _ h).symm.trans hr)
  · cases hr
theorem f44.qr (I : Inp) (call : CallFn) (n : Nat) (v0 v1 v2 : AVal) (h : AHeap) : f44.run I call n [v0, v1, v2] h = f44.e I call () v0 v1 v2 h := by kernel_rfl
theorem f44.lim {I : Inp} {prims : Nat → Option Prim} (hp : prims 44 = none) {n : Nat} {v0 v1 v2 : AVal} {h : AHeap} {Q : AVal → AHeap → Prop} (hr : Res (f44.e I (AM.lim ⟨P, I, genF P prims⟩) () v0 v1 v2 h) Q) :
    Res (AM.lim ⟨P, I, genF P prims⟩ 44 [v0, v1, v2] h) Q := by
  obtain ⟨v, h', e, q⟩ := hr
  exact ⟨v, h', lim_sf (C := ⟨P, I, genF P prims⟩) (n := 0) (f44.ok I (genF P prims) (genF_code hp f44.code)) ((f44.qr I _ 0 v0 v1 v2 h).trans e), q⟩
/-! haruspex/refuse.None -/
noncomputable def c45 : AFunc := (AFunc.mk 2 0 [(.cellN 0 3)] (.seq (.region [(S 0 (.alloc [(Z 0), (Z 0), (Z 0)]) .none)]) (.seq (.region [(S 1 (.build [(Z 0), (Z 0), (Z 0)] [(0, (1, (.val (.int .i64 (.negSucc 0)))))]) .none), (AOper.mk .none (.store 3 (T 0) (T 1)) .none)]) .ret)))
abbrev f45.Js : Type := Unit
noncomputable def f45.e (I : Inp) (call : CallFn) (j : f45.Js) (h : AHeap) : Rs :=
  bnd (sAlloc [(Z 0), (Z 0), (Z 0)] h) fun v0 h1 =>
  bndP (pBuild [(Z 0), (Z 0), (Z 0)] [(0, 1, (.int .i64 (.negSucc 0)))]) fun v1 =>
  bnd (sStore 3 v0 v1 h1) fun _ h2 =>
  sRet (sCons (sResN I 3 v0 h2) (some [])) h2
theorem f45.S (I : Inp) (F : Nat → Option AFn) (call : CallFn) : SFn ⟨P, I, F⟩ call c45 (fun _ _ _ _ => none) :=
  ⟨fun _ _ _ _ => rfl, fun n id hid => absurd hid (by rw [show c45.body.cnt = 0 by kernel_rfl]; omega)⟩
noncomputable def f45.run (I : Inp) : SF := fun call n a h =>
  match a with
  | [] => f45.e I call () h
  | _ => none
theorem f45.qe (I : Inp) (call : CallFn) (n : Nat) (h : AHeap) : f45.e I call () h = execC P I call (fun _ _ _ => none) c45.body 0 (finV I c45.results) (argV []) h := by kernel_rfl
theorem f45.code : codeOf P 45 = some c45 := by kernel_rfl
theorem f45.ok (I : Inp) (F : Nat → Option AFn) (hF : F 45 = some (.code c45)) : SfOk P I F 45 (f45.run I) := by
  intro call hc n args h r hr
  unfold f45.run at hr
  split at hr
  · exact fn_sound (C := ⟨P, I, F⟩) (n := n) hc hF (Nat.le_of_ble_eq_true (by kernel_rfl)) (by kernel_rfl) (f45.S I F call) (by kernel_rfl) ((f45.qe I call n h).symm.trans hr)
  · cases hr
theorem f45.qr (I : Inp) (call : CallFn) (n : Nat) (h : AHeap) : f45.run I call n [] h = f45.e I call () h := by kernel_rfl
theorem f45.lim {I : Inp} {prims : Nat → Option Prim} (hp : prims 45 = none) {n : Nat} {h : AHeap} {Q : AVal → AHeap → Prop} (hr : Res (f45.e I (AM.lim ⟨P, I, genF P prims⟩) () h) Q) :
    Res (AM.lim ⟨P, I, genF P prims⟩ 45 [] h) Q := by
  obtain ⟨v, h', e, q⟩ := hr
  exact ⟨v, h', lim_sf (C := ⟨P, I, genF P prims⟩) (n := 0) (f45.ok I (genF P prims) (genF_code hp f45.code)) ((f45.qr I _ 0 h).trans e), q⟩
/-! haruspex/types.walk -/
noncomputable def c46 : AFunc := (AFunc.mk 63 5 [(.tmp 10)] (.seq (.region [(S 10 (.move (.val .nili)) .none)]) (.seq (.seq (.region [(M 15 0), (NC 16 15), (FA 17 4 16), (L1 18 17), (M 19 2), (S 20 (.indexAddr 3 (T 18) (T 19)) .none), (FA 21 2 20), (L1 22 21), (S 23 (.lenSl (T 22)) .none), (S 24 (.move (V 0)) .none)]) (.block 0 (.loop (.seq (.region [(S 25 (.bin .lss (T 24) (T 23)) .none)]) (.seq (.cond (T 25) .skip (.exit 0)) (.seq (.block 1 (.seq (.region [(M 26 24), (S 27 (.indexAddr 5 (T 22) (T 24)) .none), (S 28 (.loadN 5 (T 27)) .none), (S 12 (.alloc [.nils, (Z 0), (Z 0), (Z 0), (Z 0)]) .none), (M 11 26), (AOper.mk .none (.store 5 (T 12) (T 28)) .none)]) (.seq (.seq (.region [(FA 29 0 12), (L1 30 29), (S 31 (.lenSl (T 30)) .none), (S 32 (.move (V 0)) .none)]) (.block 2 (.loop (.seq (.region [(S 33 (.bin .lss (T 32) (T 31)) .none)]) (.seq (.cond (T 33) .skip (.exit 2)) (.seq (.block 3 (.seq (.region [(M 34 32), (S 35 (.indexAddr 6 (T 30) (T 32)) .none), (S 36 (.loadN 6 (T 35)) .none), (S 14 (.alloc [(Z 0), (Z 0), (Z 0), (Z 0), (Z 0), .nils]) .none), (M 13 34), (AOper.mk .none (.store 6 (T 14) (T 36)) .none)]) (.seq (.region [(M 37 3), (M 38 2), (S 39 (.loadN 6 (T 14)) .none), (S 40 (.callv (T 37) [(T 38), (T 39)]) .none), (S 41 (.un .not (T 40)) .none)]) (.cond (T 41) (.seq (.region [(M 42 1), (M 43 2), (M 44 11), (M 45 13), (S 46 (.build [(Z 0), (Z 0), (Z 0)] [(0, (1, (T 43))), (1, (1, (T 44))), (2, (1, (T 45)))]) .none), (S 47 (.call 44 [(T 42), (T 46), (.val .nili)]) .none), (M 10 47)]) .ret) .skip)))) (.region [(S 48 (.bin .add (T 32) (V 1)) .none), (M 32 48)]))))))) (.seq (.region [(M 49 4), (M 50 2), (S 51 (.loadN 5 (T 12)) .none), (S 52 (.callv (T 49) [(T 50), (T 51)]) .none), (S 53 (.un .not (T 52)) .none)]) (.cond (T 53) (.seq (.region [(M 54 1), (M 55 2), (M 56 11), (FA 57 0 12), (L1 58 57), (S 59 (.lenSl (T 58)) .none), (S 60 (.build [(Z 0), (Z 0), (Z 0)] [(0, (1, (T 55))), (1, (1, (T 56))), (2, (1, (T 59)))]) .none), (S 61 (.call 44 [(T 54), (T 60), (.val .nili)]) .none), (M 10 61)]) .ret) .skip))))) (.region [(S 62 (.bin .add (T 24) (V 1)) .none), (M 24 62)]))))))) (.seq (.region [(S 10 (.move (.val .nili)) .none)]) .ret))))
abbrev f46.Js : Type := ((((AHeap → Rs) × (AVal → AVal → AVal → AVal → AVal → AVal → AVal → AHeap → Rs)) × ((AVal → AVal → AVal → AVal → AVal → AVal → AVal → AHeap → Rs) × (AVal → AVal → AVal → AVal → AVal → AVal → AVal → AHeap → Rs))) × (((AVal → AVal → AVal → AVal → AVal → AVal → AVal → AVal → AVal → AHeap → Rs) × (AVal → AVal → AVal → AVal → AVal → AVal → AVal → AVal → AVal → AVal → AVal → AVal → AHeap → Rs)) × ((AVal → AVal → AVal → AVal → AVal → AVal → AVal → AVal → AVal → AVal → AVal → AVal → AHeap → Rs) × (AVal → AVal → AVal → AVal → AVal → AVal → AVal → AVal → AVal → AVal → AVal → AVal → AHeap → Rs))))
noncomputable def f46.b0 (I : Inp) (call : CallFn) (j : f46.Js) (h : AHeap) : Rs :=
  some (.nili, h)
noncomputable def f46.b1 (I : Inp) (call : CallFn) (j : f46.Js) (v1 v2 v3 v4 v22 v23 v24 : AVal) (h : AHeap) : Rs :=
  bndP (pBin .lss v24 v23) fun v25 =>
  sCond v25 (
  j.1.1.1 h) (
  j.1.2.1 v1 v2 v3 v4 v22 v23 v24 h)
noncomputable def f46.b2 (I : Inp) (call : CallFn) (j : f46.Js) (v1 v2 v3 v4 v22 v23 v24 : AVal) (h : AHeap) : Rs :=
  bndP (pIndexAddr 5 v22 v24) fun v27 =>
  bndP (pLoadN I 5 v27 h) fun v28 =>
  bnd (sAlloc [.nils, (Z 0), (Z 0), (Z 0), (Z 0)] h) fun v12 h1 =>
  bnd (sStore 5 v12 v28 h1) fun _ h2 =>
  bndP (pFieldAddr 0 v12) fun v29 =>
  bndP (pLoad1 I v29 h2) fun v30 =>
  bndP (pLenSl v30) fun v31 =>
  j.2.1.2 v1 v2 v3 v4 v24 v12 v22 v23 v24 v30 v31 (Z 0) h2
noncomputable def f46.b3 (I : Inp) (call : CallFn) (j : f46.Js) (v1 v2 v3 v4 v22 v23 v24 : AVal) (h : AHeap) : Rs :=
  bndP (pBin .add v24 (Z 1)) fun v62 =>
  j.1.1.2 v1 v2 v3 v4 v22 v23 v62 h
noncomputable def f46.b4 (I : Inp) (call : CallFn) (j : f46.Js) (v1 v2 v3 v4 v11 v12 v22 v23 v24 : AVal) (h : AHeap) : Rs :=
  bndP (pLoadN I 5 v12 h) fun v51 =>
  bnd (sCallv call v4 [v2, v51] h) fun v52 h1 =>
  bndP (pUn .not v52) fun v53 =>
  sCond v53 (
  j.1.2.2 v1 v2 v3 v4 v22 v23 v24 h1) (
  bndP (pFieldAddr 0 v12) fun v57 =>
  bndP (pLoad1 I v57 h1) fun v58 =>
  bndP (pLenSl v58) fun v59 =>
  bndP (pBuild [(Z 0), (Z 0), (Z 0)] [(0, 1, v2), (1, 1, v11), (2, 1, v59)]) fun v60 =>
  bnd (call 44 [v1, v60, .nili] h1) fun v61 h2 =>
  some (v61, h2))
noncomputable def f46.b5 (I : Inp) (call : CallFn) (j : f46.Js) (v1 v2 v3 v4 v11 v12 v22 v23 v24 v30 v31 v32 : AVal) (h : AHeap) : Rs :=
  bndP (pBin .lss v32 v31) fun v33 =>
  sCond v33 (
  j.2.1.1 v1 v2 v3 v4 v11 v12 v22 v23 v24 h) (
  j.2.2.1 v1 v2 v3 v4 v11 v12 v22 v23 v24 v30 v31 v32 h)
noncomputable def f46.b6 (I : Inp) (call : CallFn) (j : f46.Js) (v1 v2 v3 v4 v11 v12 v22 v23 v24 v30 v31 v32 : AVal) (h : AHeap) : Rs :=
  bndP (pIndexAddr 6 v30 v32) fun v35 =>
  bndP (pLoadN I 6 v35 h) fun v36 =>
  bnd (sAlloc [(Z 0), (Z 0), (Z 0), (Z 0), (Z 0), .nils] h) fun v14 h1 =>
  bnd (sStore 6 v14 v36 h1) fun _ h2 =>
  bndP (pLoadN I 6 v14 h2) fun v39 =>
  bnd (sCallv call v3 [v2, v39] h2) fun v40 h3 =>
  bndP (pUn .not v40) fun v41 =>
  sCond v41 (
  j.2.2.2 v1 v2 v3 v4 v11 v12 v22 v23 v24 v30 v31 v32 h3) (
  bndP (pBuild [(Z 0), (Z 0), (Z 0)] [(0, 1, v2), (1, 1, v11), (2, 1, v32)]) fun v46 =>
  bnd (call 44 [v1, v46, .nili] h3) fun v47 h4 =>
  some (v47, h4))
noncomputable def f46.b7 (I : Inp) (call : CallFn) (j : f46.Js) (v1 v2 v3 v4 v11 v12 v22 v23 v24 v30 v31 v32 : AVal) (h : AHeap) : Rs :=
  bndP (pBin .add v32 (Z 1)) fun v48 =>
  j.2.1.2 v1 v2 v3 v4 v11 v12 v22 v23 v24 v30 v31 v48 h
noncomputable def f46.e (I : Inp) (call : CallFn) (j : f46.Js) (v0 v1 v2 v3 v4 : AVal) (h : AHeap) : Rs :=
  bndP (pNilCheck v0) fun v16 =>
  bndP (pFieldAddr 4 v16) fun v17 =>
  bndP (pLoad1 I v17 h) fun v18 =>
  bndP (pIndexAddr 3 v18 v2) fun v20 =>
  bndP (pFieldAddr 2 v20) fun v21 =>
  bndP (pLoad1 I v21 h) fun v22 =>
  bndP (pLenSl v22) fun v23 =>
  j.1.1.2 v1 v2 v3 v4 v22 v23 (Z 0) h
noncomputable def f46.J (I : Inp) (call : CallFn) (n : Nat) : f46.Js :=
  Nat.rec (motive := fun _ => f46.Js) ((((fun _ => none), (fun _ _ _ _ _ _ _ _ => none)), ((fun _ _ _ _ _ _ _ _ => none), (fun _ _ _ _ _ _ _ _ => none))), (((fun _ _ _ _ _ _ _ _ _ _ => none), (fun _ _ _ _ _ _ _ _ _ _ _ _ _ => none)), ((fun _ _ _ _ _ _ _ _ _ _ _ _ _ => none), (fun _ _ _ _ _ _ _ _ _ _ _ _ _ => none)))) (fun _ ih => (((f46.b0 I call ih, f46.b1 I call ih), (f46.b2 I call ih, f46.b3 I call ih)), ((f46.b4 I call ih, f46.b5 I call ih), (f46.b6 I call ih, f46.b7 I call ih)))) n
theorem f46.n0 (I : Inp) (call : CallFn) (n : Nat) : (f46.J I call (n + 1)).1.1.1 = f46.b0 I call (f46.J I call n) := Eq.trans rfl rfl
theorem f46.n1 (I : Inp) (call : CallFn) (n : Nat) : (f46.J I call (n + 1)).1.1.2 = f46.b1 I call (f46.J I call n) := Eq.trans rfl rfl
theorem f46.n2 (I : Inp) (call : CallFn) (n : Nat) : (f46.J I call (n + 1)).1.2.1 = f46.b2 I call (f46.J I call n) := Eq.trans rfl rfl
theorem f46.n3 (I : Inp) (call : CallFn) (n : Nat) : (f46.J I call (n + 1)).1.2.2 = f46.b3 I call (f46.J I call n) := Eq.trans rfl rfl
theorem f46.n4 (I : Inp) (call : CallFn) (n : Nat) : (f46.J I call (n + 1)).2.1.1 = f46.b4 I call (f46.J I call n) := Eq.trans rfl rfl
theorem f46.n5 (I : Inp) (call : CallFn) (n : Nat) : (f46.J I call (n + 1)).2.1.2 = f46.b5 I call (f46.J I call n) := Eq.trans rfl rfl
theorem f46.n6 (I : Inp) (call : CallFn) (n : Nat) : (f46.J I call (n + 1)).2.2.1 = f46.b6 I call (f46.J I call n) := Eq.trans rfl rfl
theorem f46.n7 (I : Inp) (call : CallFn) (n : Nat) : (f46.J I call (n + 1)).2.2.2 = f46.b7 I call (f46.J I call n) := Eq.trans rfl rfl
noncomputable def f46.JS (I : Inp) (call : CallFn) (n : Nat) : Jmp := fun id ρ h =>
  (Bool.rec (motive := fun _ => _) (Bool.rec (motive := fun _ => _) (Bool.rec (motive := fun _ => _) ((f46.J I call n).2.2.2 (ρ 1) (ρ 2) (ρ 3) (ρ 4) (ρ 11) (ρ 12) (ρ 22) (ρ 23) (ρ 24) (ρ 30) (ρ 31) (ρ 32) h) ((f46.J I call n).2.2.1 (ρ 1) (ρ 2) (ρ 3) (ρ 4) (ρ 11) (ρ 12) (ρ 22) (ρ 23) (ρ 24) (ρ 30) (ρ 31) (ρ 32) h) (Nat.blt id 7)) (Bool.rec (motive := fun _ => _) ((f46.J I call n).2.1.2 (ρ 1) (ρ 2) (ρ 3) (ρ 4) (ρ 11) (ρ 12) (ρ 22) (ρ 23) (ρ 24) (ρ 30) (ρ 31) (ρ 32) h) ((f46.J I call n).2.1.1 (ρ 1) (ρ 2) (ρ 3) (ρ 4) (ρ 11) (ρ 12) (ρ 22) (ρ 23) (ρ 24) h) (Nat.blt id 5)) (Nat.blt id 6)) (Bool.rec (motive := fun _ => _) (Bool.rec (motive := fun _ => _) ((f46.J I call n).1.2.2 (ρ 1) (ρ 2) (ρ 3) (ρ 4) (ρ 22) (ρ 23) (ρ 24) h) ((f46.J I call n).1.2.1 (ρ 1) (ρ 2) (ρ 3) (ρ 4) (ρ 22) (ρ 23) (ρ 24) h) (Nat.blt id 3)) (Bool.rec (motive := fun _ => _) ((f46.J I call n).1.1.2 (ρ 1) (ρ 2) (ρ 3) (ρ 4) (ρ 22) (ρ 23) (ρ 24) h) ((f46.J I call n).1.1.1 h) (Nat.blt id 1)) (Nat.blt id 2)) (Nat.blt id 4))
theorem f46.q0 (I : Inp) (call : CallFn) (n : Nat) (ρ : Fun) (h : AHeap) : f46.JS I call (n + 1) 0 ρ h = labC P I call (f46.JS I call n) c46.body 0 (finV I c46.results) 0 ρ h := by kernel_rfl
theorem f46.q1 (I : Inp) (call : CallFn) (n : Nat) (ρ : Fun) (h : AHeap) : f46.JS I call (n + 1) 1 ρ h = labC P I call (f46.JS I call n) c46.body 0 (finV I c46.results) 1 ρ h := by kernel_rfl
theorem f46.q2 (I : Inp) (call : CallFn) (n : Nat) (ρ : Fun) (h : AHeap) : f46.JS I call (n + 1) 2 ρ h = labC P I call (f46.JS I call n) c46.body 0 (finV I c46.results) 2 ρ h := by kernel_rfl
theorem f46.q3 (I : Inp) (call : CallFn) (n : Nat) (ρ : Fun) (h : AHeap) : f46.JS I call (n + 1) 3 ρ h = labC P I call (f46.JS I call n) c46.body 0 (finV I c46.results) 3 ρ h := by kernel_rfl
theorem f46.q4 (I : Inp) (call : CallFn) (n : Nat) (ρ : Fun) (h : AHeap) : f46.JS I call (n + 1) 4 ρ h = labC P I call (f46.JS I call n) c46.body 0 (finV I c46.results) 4 ρ h := by kernel_rfl
theorem f46.q5 (I : Inp) (call : CallFn) (n : Nat) (ρ : Fun) (h : AHeap) : f46.JS I call (n + 1) 5 ρ h = labC P I call (f46.JS I call n) c46.body 0 (finV I c46.results) 5 ρ h := by kernel_rfl
theorem f46.q6 (I : Inp) (call : CallFn) (n : Nat) (ρ : Fun) (h : AHeap) : f46.JS I call (n + 1) 6 ρ h = labC P I call (f46.JS I call n) c46.body 0 (finV I c46.results) 6 ρ h := by kernel_rfl
theorem f46.q7 (I : Inp) (call : CallFn) (n : Nat) (ρ : Fun) (h : AHeap) : f46.JS I call (n + 1) 7 ρ h = labC P I call (f46.JS I call n) c46.body 0 (finV I c46.results) 7 ρ h := by kernel_rfl
theorem f46.S (I : Inp) (F : Nat → Option AFn) (call : CallFn) : SFn ⟨P, I, F⟩ call c46 (f46.JS I call) :=
  ⟨fun id hid ρ h => by
    have hc : c46.body.cnt = 8 := by kernel_rfl
    rw [hc] at hid
    exact match id, hid with
    | 0, _ => rfl
    | 1, _ => rfl
    | 2, _ => rfl
    | 3, _ => rfl
    | 4, _ => rfl
    | 5, _ => rfl
    | 6, _ => rfl
    | 7, _ => rfl
    | id + 8, hid => absurd hid (by omega), fun n id hid ρ h => by
    have hc : c46.body.cnt = 8 := by kernel_rfl
    rw [hc] at hid
    exact match id, hid with
    | 0, _ => f46.q0 I call n ρ h
    | 1, _ => f46.q1 I call n ρ h
    | 2, _ => f46.q2 I call n ρ h
    | 3, _ => f46.q3 I call n ρ h
    | 4, _ => f46.q4 I call n ρ h
    | 5, _ => f46.q5 I call n ρ h
    | 6, _ => f46.q6 I call n ρ h
    | 7, _ => f46.q7 I call n ρ h
    | id + 8, hid => absurd hid (by omega)⟩
noncomputable def f46.run (I : Inp) : SF := fun call n a h =>
  match a with
  | [v0, v1, v2, v3, v4] => f46.e I call (f46.J I call n) v0 v1 v2 v3 v4 h
  | _ => none
theorem f46.qe (I : Inp) (call : CallFn) (n : Nat) (v0 v1 v2 v3 v4 : AVal) (h : AHeap) : f46.e I call (f46.J I call n) v0 v1 v2 v3 v4 h = execC P I call (f46.JS I call n) c46.body 0 (finV I c46.results) (argV [v0, v1, v2, v3, v4]) h := by kernel_rfl
theorem f46.code : codeOf P 46 = some c46 := by kernel_rfl
theorem f46.ok (I : Inp) (F : Nat → Option AFn) (hF : F 46 = some (.code c46)) : SfOk P I F 46 (f46.run I) := by
  intro call hc n args h r hr
  unfold f46.run at hr
  split at hr
  · exact fn_sound (C := ⟨P, I, F⟩) (n := n) hc hF (Nat.le_of_ble_eq_true (by kernel_rfl)) (by kernel_rfl) (f46.S I F call) (by kernel_rfl) ((f46.qe I call n _ _ _ _ _ h).symm.trans hr)
  · cases hr
theorem f46.qr (I : Inp) (call : CallFn) (n : Nat) (v0 v1 v2 v3 v4 : AVal) (h : AHeap) : f46.run I call n [v0, v1, v2, v3, v4] h = f46.e I call (f46.J I call n) v0 v1 v2 v3 v4 h := by kernel_rfl
theorem f46.lim {I : Inp} {prims : Nat → Option Prim} (hp : prims 46 = none) {n : Nat} {v0 v1 v2 v3 v4 : AVal} {h : AHeap} {Q : AVal → AHeap → Prop} (hr : Res (f46.e I (AM.lim ⟨P, I, genF P prims⟩) (f46.J I (AM.lim ⟨P, I, genF P prims⟩) n) v0 v1 v2 v3 v4 h) Q) :
    Res (AM.lim ⟨P, I, genF P prims⟩ 46 [v0, v1, v2, v3, v4] h) Q := by
  obtain ⟨v, h', e, q⟩ := hr
  exact ⟨v, h', lim_sf (C := ⟨P, I, genF P prims⟩) (n := n) (f46.ok I (genF P prims) (genF_code hp f46.code)) ((f46.qr I _ n v0 v1 v2 v3 v4 h).trans e), q⟩
/-! haruspex/types.Names$1 -/
noncomputable def c47 : AFunc := (AFunc.mk 11 2 [(.tmp 6)] (.seq (.region [(S 5 (.box (T 1)) .none), (S 6 (.move (.val (.bool .false))) .none)]) (.seq (.region [(L1 7 2), (S 8 (.loadN 3 (T 3)) .none), (S 9 (.loadN 6 (T 5)) .none), (S 10 (.call 28 [(T 7), (T 8), (T 9)]) .none), (M 6 10)]) .ret)))
abbrev f47.Js : Type := Unit
noncomputable def f47.e (I : Inp) (call : CallFn) (j : f47.Js) (v0 v1 v2 v3 : AVal) (h : AHeap) : Rs :=
  bnd (sBox v1 h) fun v5 h1 =>
  bndP (pLoad1 I v2 h1) fun v7 =>
  bndP (pLoadN I 3 v3 h1) fun v8 =>
  bndP (pLoadN I 6 v5 h1) fun v9 =>
  bnd (call 28 [v7, v8, v9] h1) fun v10 h2 =>
  some (v10, h2)
theorem f47.S (I : Inp) (F : Nat → Option AFn) (call : CallFn) : SFn ⟨P, I, F⟩ call c47 (fun _ _ _ _ => none) :=
  ⟨fun _ _ _ _ => rfl, fun n id hid => absurd hid (by rw [show c47.body.cnt = 0 by kernel_rfl]; omega)⟩
noncomputable def f47.run (I : Inp) : SF := fun call n a h =>
  match a with
  | [v0, v1, v2, v3] => f47.e I call () v0 v1 v2 v3 h
  | _ => none
theorem f47.qe (I : Inp) (call : CallFn) (n : Nat) (v0 v1 v2 v3 : AVal) (h : AHeap) : f47.e I call () v0 v1 v2 v3 h = execC P I call (fun _ _ _ => none) c47.body 0 (finV I c47.results) (argV [v0, v1, v2, v3]) h := by kernel_rfl
theorem f47.code : codeOf P 47 = some c47 := by kernel_rfl
theorem f47.ok (I : Inp) (F : Nat → Option AFn) (hF : F 47 = some (.code c47)) : SfOk P I F 47 (f47.run I) := by
  intro call hc n args h r hr
  unfold f47.run at hr
  split at hr
  · exact fn_sound (C := ⟨P, I, F⟩) (n := n) hc hF (Nat.le_of_ble_eq_true (by kernel_rfl)) (by kernel_rfl) (f47.S I F call) (by kernel_rfl) ((f47.qe I call n _ _ _ _ h).symm.trans hr)
  · cases hr
theorem f47.qr (I : Inp) (call : CallFn) (n : Nat) (v0 v1 v2 v3 : AVal) (h : AHeap) : f47.run I call n [v0, v1, v2, v3] h = f47.e I call () v0 v1 v2 v3 h := by kernel_rfl
theorem f47.lim {I : Inp} {prims : Nat → Option Prim} (hp : prims 47 = none) {n : Nat} {v0 v1 v2 v3 : AVal} {h : AHeap} {Q : AVal → AHeap → Prop} (hr : Res (f47.e I (AM.lim ⟨P, I, genF P prims⟩) () v0 v1 v2 v3 h) Q) :
    Res (AM.lim ⟨P, I, genF P prims⟩ 47 [v0, v1, v2, v3] h) Q := by
  obtain ⟨v, h', e, q⟩ := hr
  exact ⟨v, h', lim_sf (C := ⟨P, I, genF P prims⟩) (n := 0) (f47.ok I (genF P prims) (genF_code hp f47.code)) ((f47.qr I _ 0 v0 v1 v2 v3 h).trans e), q⟩
/-! haruspex/types.Names$2 -/
noncomputable def c48 : AFunc := (AFunc.mk 9 2 [(.tmp 5)] (.seq (.region [(S 4 (.box (T 1)) .none), (S 5 (.move (.val (.bool .false))) .none)]) (.seq (.region [(S 6 (.loadN 3 (T 2)) .none), (S 7 (.loadN 5 (T 4)) .none), (S 8 (.call 49 [(T 6), (T 7)]) .none), (M 5 8)]) .ret)))
abbrev f48.Js : Type := Unit
noncomputable def f48.e (I : Inp) (call : CallFn) (j : f48.Js) (v0 v1 v2 : AVal) (h : AHeap) : Rs :=
  bnd (sBox v1 h) fun v4 h1 =>
  bndP (pLoadN I 3 v2 h1) fun v6 =>
  bndP (pLoadN I 5 v4 h1) fun v7 =>
  bnd (call 49 [v6, v7] h1) fun v8 h2 =>
  some (v8, h2)
theorem f48.S (I : Inp) (F : Nat → Option AFn) (call : CallFn) : SFn ⟨P, I, F⟩ call c48 (fun _ _ _ _ => none) :=
  ⟨fun _ _ _ _ => rfl, fun n id hid => absurd hid (by rw [show c48.body.cnt = 0 by kernel_rfl]; omega)⟩
noncomputable def f48.run (I : Inp) : SF := fun call n a h =>
  match a with
  | [v0, v1, v2] => f48.e I call () v0 v1 v2 h
  | _ => none
theorem f48.qe (I : Inp) (call : CallFn) (n : Nat) (v0 v1 v2 : AVal) (h : AHeap) : f48.e I call () v0 v1 v2 h = execC P I call (fun _ _ _ => none) c48.body 0 (finV I c48.results) (argV [v0, v1, v2]) h := by kernel_rfl
theorem f48.code : codeOf P 48 = some c48 := by kernel_rfl
theorem f48.ok (I : Inp) (F : Nat → Option AFn) (hF : F 48 = some (.code c48)) : SfOk P I F 48 (f48.run I) := by
  intro call hc n args h r hr
  unfold f48.run at hr
  split at hr
  · exact fn_sound (C := ⟨P, I, F⟩) (n := n) hc hF (Nat.le_of_ble_eq_true (by kernel_rfl)) (by kernel_rfl) (f48.S I F call) (by kernel_rfl) ((f48.qe I call n _ _ _ h).symm.trans hr)
  · cases hr
theorem f48.qr (I : Inp) (call : CallFn) (n : Nat) (v0 v1 v2 : AVal) (h : AHeap) : f48.run I call n [v0, v1, v2] h = f48.e I call () v0 v1 v2 h := by kernel_rfl
theorem f48.lim {I : Inp} {prims : Nat → Option Prim} (hp : prims 48 = none) {n : Nat} {v0 v1 v2 : AVal} {h : AHeap} {Q : AVal → AHeap → Prop} (hr : Res (f48.e I (AM.lim ⟨P, I, genF P prims⟩) () v0 v1 v2 h) Q) :
    Res (AM.lim ⟨P, I, genF P prims⟩ 48 [v0, v1, v2] h) Q := by
  obtain ⟨v, h', e, q⟩ := hr
  exact ⟨v, h', lim_sf (C := ⟨P, I, genF P prims⟩) (n := 0) (f48.ok I (genF P prims) (genF_code hp f48.code)) ((f48.qr I _ 0 v0 v1 v2 h).trans e), q⟩
/-! haruspex/types.end -/
noncomputable def c49 : AFunc := (AFunc.mk 65 2 [(.tmp 4)] (.seq (.region [(S 2 (.box (T 0)) .none), (S 3 (.box (T 1)) .none), (S 4 (.move (.val (.bool .false))) .none)]) (.seq (.region [(FA 6 2 2), (L1 7 6), (S 8 (.lenSl (T 7)) .none), (M 5 8)]) (.seq (.seq (.region [(FA 9 1 3), (L1 10 9)]) (.block 0 (.seq (.region [(S 12 (.bin .eql (T 10) (V 1)) .none), (M 11 12)]) (.cond (T 11) (.seq (.region [(FA 13 2 3), (L1 14 13), (S 15 (.bin .eql (T 14) (V 0)) .none), (M 16 15), (S 17 (.fieldAddr 3 (T 3)) (.some (16, .true))), (S 18 (.load1 (T 17)) (.some (16, .true))), (S 19 (.move (T 5)) (.some (16, .true))), (S 20 (.call 25 [(T 18), (T 19)]) (.some (16, .true))), (S 21 (.pick (T 16) (T 20) (.val (.bool .false))) .none), (M 22 21), (S 23 (.fieldAddr 4 (T 3)) (.some (22, .true))), (S 24 (.load1 (T 23)) (.some (22, .true))), (S 25 (.bin .eql (T 24) (V 0)) (.some (22, .true))), (S 26 (.pick (T 22) (T 25) (.val (.bool .false))) .none), (M 4 26)]) .ret) (.seq (.region [(S 28 (.bin .eql (T 10) (V 2)) .none), (M 27 28)]) (.cond (T 27) (.seq (.region [(FA 29 2 3), (L1 30 29), (FA 31 1 2), (L1 32 31), (S 33 (.lenSl (T 32)) .none), (S 34 (.call 25 [(T 30), (T 33)]) .none), (M 35 34), (S 36 (.fieldAddr 3 (T 3)) (.some (35, .true))), (S 37 (.load1 (T 36)) (.some (35, .true))), (S 38 (.move (T 5)) (.some (35, .true))), (S 39 (.call 25 [(T 37), (T 38)]) (.some (35, .true))), (S 40 (.pick (T 35) (T 39) (.val (.bool .false))) .none), (M 41 40), (S 42 (.fieldAddr 4 (T 3)) (.some (41, .true))), (S 43 (.load1 (T 42)) (.some (41, .true))), (S 44 (.move (T 5)) (.some (41, .true))), (S 45 (.call 25 [(T 43), (T 44)]) (.some (41, .true))), (S 46 (.pick (T 41) (T 45) (.val (.bool .false))) .none), (M 4 46)]) .ret) (.seq (.region [(S 48 (.bin .eql (T 10) (V 3)) .none), (M 47 48)]) (.cond (T 47) (.seq (.region [(FA 49 2 3), (L1 50 49), (FA 51 1 2), (L1 52 51), (S 53 (.lenSl (T 52)) .none), (S 54 (.call 25 [(T 50), (T 53)]) .none), (M 55 54), (S 56 (.fieldAddr 3 (T 3)) (.some (55, .true))), (S 57 (.load1 (T 56)) (.some (55, .true))), (S 58 (.bin .eql (T 57) (V 0)) (.some (55, .true))), (S 59 (.pick (T 55) (T 58) (.val (.bool .false))) .none), (M 60 59), (S 61 (.fieldAddr 4 (T 3)) (.some (60, .true))), (S 62 (.load1 (T 61)) (.some (60, .true))), (S 63 (.bin .eql (T 62) (V 0)) (.some (60, .true))), (S 64 (.pick (T 60) (T 63) (.val (.bool .false))) .none), (M 4 64)]) .ret) .skip)))))))) (.seq (.region [(S 4 (.move (.val (.bool .false))) .none)]) .ret)))))
abbrev f49.Js : Type := (AHeap → Rs)
noncomputable def f49.b0 (I : Inp) (call : CallFn) (j : f49.Js) (h : AHeap) : Rs :=
  some ((.bool .false), h)
noncomputable def f49.e (I : Inp) (call : CallFn) (j : f49.Js) (v0 v1 : AVal) (h : AHeap) : Rs :=
  bnd (sBox v0 h) fun v2 h1 =>
  bnd (sBox v1 h1) fun v3 h2 =>
  bndP (pFieldAddr 2 v2) fun v6 =>
  bndP (pLoad1 I v6 h2) fun v7 =>
  bndP (pLenSl v7) fun v8 =>
  bndP (pFieldAddr 1 v3) fun v9 =>
  bndP (pLoad1 I v9 h2) fun v10 =>
  bndP (pBin .eql v10 (Z 1)) fun v12 =>
  sCond v12 (
  bndP (pBin .eql v10 (Z 2)) fun v28 =>
  sCond v28 (
  bndP (pBin .eql v10 (Z 3)) fun v48 =>
  sCond v48 (
  j h2) (
  bndP (pFieldAddr 2 v3) fun v49 =>
  bndP (pLoad1 I v49 h2) fun v50 =>
  bndP (pFieldAddr 1 v2) fun v51 =>
  bndP (pLoad1 I v51 h2) fun v52 =>
  bndP (pLenSl v52) fun v53 =>
  bnd (call 25 [v50, v53] h2) fun v54 h3 =>
  bnd (sGuard v54 .true (lift (pFieldAddr 3 v3) h3) h3) fun v56 h4 =>
  bnd (sGuard v54 .true (lift (pLoad1 I v56 h4) h4) h4) fun v57 h5 =>
  bnd (sGuard v54 .true (lift (pBin .eql v57 (Z 0)) h5) h5) fun v58 h6 =>
  bndP (pPick v54 v58 (.bool .false)) fun v59 =>
  bnd (sGuard v59 .true (lift (pFieldAddr 4 v3) h6) h6) fun v61 h7 =>
  bnd (sGuard v59 .true (lift (pLoad1 I v61 h7) h7) h7) fun v62 h8 =>
  bnd (sGuard v59 .true (lift (pBin .eql v62 (Z 0)) h8) h8) fun v63 h9 =>
  bndP (pPick v59 v63 (.bool .false)) fun v64 =>
  some (v64, h9))) (
  bndP (pFieldAddr 2 v3) fun v29 =>
  bndP (pLoad1 I v29 h2) fun v30 =>
  bndP (pFieldAddr 1 v2) fun v31 =>
  bndP (pLoad1 I v31 h2) fun v32 =>
  bndP (pLenSl v32) fun v33 =>
  bnd (call 25 [v30, v33] h2) fun v34 h10 =>
  bnd (sGuard v34 .true (lift (pFieldAddr 3 v3) h10) h10) fun v36 h11 =>
  bnd (sGuard v34 .true (lift (pLoad1 I v36 h11) h11) h11) fun v37 h12 =>
  bnd (sGuard v34 .true (some (v8, h12)) h12) fun v38 h13 =>
  bnd (sGuard v34 .true (call 25 [v37, v38] h13) h13) fun v39 h14 =>
  bndP (pPick v34 v39 (.bool .false)) fun v40 =>
  bnd (sGuard v40 .true (lift (pFieldAddr 4 v3) h14) h14) fun v42 h15 =>
  bnd (sGuard v40 .true (lift (pLoad1 I v42 h15) h15) h15) fun v43 h16 =>
  bnd (sGuard v40 .true (some (v8, h16)) h16) fun v44 h17 =>
  bnd (sGuard v40 .true (call 25 [v43, v44] h17) h17) fun v45 h18 =>
  bndP (pPick v40 v45 (.bool .false)) fun v46 =>
  some (v46, h18))) (
  bndP (pFieldAddr 2 v3) fun v13 =>
  bndP (pLoad1 I v13 h2) fun v14 =>
  bndP (pBin .eql v14 (Z 0)) fun v15 =>
  bnd (sGuard v15 .true (lift (pFieldAddr 3 v3) h2) h2) fun v17 h19 =>
  bnd (sGuard v15 .true (lift (pLoad1 I v17 h19) h19) h19) fun v18 h20 =>
  bnd (sGuard v15 .true (some (v8, h20)) h20) fun v19 h21 =>
  bnd (sGuard v15 .true (call 25 [v18, v19] h21) h21) fun v20 h22 =>
  bndP (pPick v15 v20 (.bool .false)) fun v21 =>
  bnd (sGuard v21 .true (lift (pFieldAddr 4 v3) h22) h22) fun v23 h23 =>
  bnd (sGuard v21 .true (lift (pLoad1 I v23 h23) h23) h23) fun v24 h24 =>
  bnd (sGuard v21 .true (lift (pBin .eql v24 (Z 0)) h24) h24) fun v25 h25 =>
  bndP (pPick v21 v25 (.bool .false)) fun v26 =>
  some (v26, h25))
noncomputable def f49.J (I : Inp) (call : CallFn) (n : Nat) : f49.Js :=
  Nat.rec (motive := fun _ => f49.Js) (fun _ => none) (fun _ ih => f49.b0 I call ih) n
theorem f49.n0 (I : Inp) (call : CallFn) (n : Nat) : (f49.J I call (n + 1)) = f49.b0 I call (f49.J I call n) := Eq.trans rfl rfl
noncomputable def f49.JS (I : Inp) (call : CallFn) (n : Nat) : Jmp := fun id ρ h =>
  ((f49.J I call n) h)
theorem f49.q0 (I : Inp) (call : CallFn) (n : Nat) (ρ : Fun) (h : AHeap) : f49.JS I call (n + 1) 0 ρ h = labC P I call (f49.JS I call n) c49.body 0 (finV I c49.results) 0 ρ h := by kernel_rfl
theorem f49.S (I : Inp) (F : Nat → Option AFn) (call : CallFn) : SFn ⟨P, I, F⟩ call c49 (f49.JS I call) :=
  ⟨fun id hid ρ h => by
    have hc : c49.body.cnt = 1 := by kernel_rfl
    rw [hc] at hid
    exact match id, hid with
    | 0, _ => rfl
    | id + 1, hid => absurd hid (by omega), fun n id hid ρ h => by
    have hc : c49.body.cnt = 1 := by kernel_rfl
    rw [hc] at hid
    exact match id, hid with
    | 0, _ => f49.q0 I call n ρ h
    | id + 1, hid => absurd hid (by omega)⟩
noncomputable def f49.run (I : Inp) : SF := fun call n a h =>
  match a with
  | [v0, v1] => f49.e I call (f49.J I call n) v0 v1 h
  | _ => none
theorem f49.qe (I : Inp) (call : CallFn) (n : Nat) (v0 v1 : AVal) (h : AHeap) : f49.e I call (f49.J I call n) v0 v1 h = execC P I call (f49.JS I call n) c49.body 0 (finV I c49.results) (argV [v0, v1]) h := by kernel_rfl
theorem f49.code : codeOf P 49 = some c49 := by kernel_rfl
theorem f49.ok (I : Inp) (F : Nat → Option AFn) (hF : F 49 = some (.code c49)) : SfOk P I F 49 (f49.run I) := by
  intro call hc n args h r hr
  unfold f49.run at hr
  split at hr
  · exact fn_sound (C := ⟨P, I, F⟩) (n := n) hc hF (Nat.le_of_ble_eq_true (by kernel_rfl)) (by kernel_rfl) (f49.S I F call) (by kernel_rfl) ((f49.qe I call n _ _ h).symm.trans hr)
  · cases hr
theorem f49.qr (I : Inp) (call : CallFn) (n : Nat) (v0 v1 : AVal) (h : AHeap) : f49.run I call n [v0, v1] h = f49.e I call (f49.J I call n) v0 v1 h := by kernel_rfl
theorem f49.lim {I : Inp} {prims : Nat → Option Prim} (hp : prims 49 = none) {n : Nat} {v0 v1 : AVal} {h : AHeap} {Q : AVal → AHeap → Prop} (hr : Res (f49.e I (AM.lim ⟨P, I, genF P prims⟩) (f49.J I (AM.lim ⟨P, I, genF P prims⟩) n) v0 v1 h) Q) :
    Res (AM.lim ⟨P, I, genF P prims⟩ 49 [v0, v1] h) Q := by
  obtain ⟨v, h', e, q⟩ := hr
  exact ⟨v, h', lim_sf (C := ⟨P, I, genF P prims⟩) (n := n) (f49.ok I (genF P prims) (genF_code hp f49.code)) ((f49.qr I _ n v0 v1 h).trans e), q⟩
/-! haruspex/types.params -/
noncomputable def c52 : AFunc := (AFunc.mk 30 2 [(.tmp 4)] (.seq (.region [(S 3 (.box (T 1)) .none), (S 4 (.move (.val (.bool .false))) .none)]) (.seq (.draw [(M 6 0), (NC 7 6), (FA 8 1 7), (L1 9 8), (FA 10 0 3), (L1 11 10), (S 12 (.indexAddr 3 (T 9) (T 11)) .none), (FA 13 0 12), (L1 14 13), (M 5 14)] [N, N, N, N, N, N, N, N, N, N] 0) (.seq (.region [(FA 15 1 3), (L1 16 15), (S 17 (.lenSl (T 16)) .none), (M 18 5), (S 19 (.lenSl (T 18)) .none), (S 20 (.bin .geq (T 17) (T 19)) .none), (M 21 20), (S 22 (.fieldAddr 1 (T 3)) (.some (21, .true))), (S 23 (.load1 (T 22)) (.some (21, .true))), (S 24 (.move (T 5)) (.some (21, .true))), (S 25 (.lenSl (T 24)) (.some (21, .true))), (S 26 (.sliceS 2 (T 23) .none (.some (T 25)) .none) (.some (21, .true))), (S 27 (.move (T 5)) (.some (21, .true))), (S 28 (.call 64 [(T 26), (T 27)]) (.some (21, .true))), (S 29 (.pick (T 21) (T 28) (.val (.bool .false))) .none), (M 4 29)]) .ret))))
abbrev f52.Js : Type := Unit
noncomputable def f52.e (I : Inp) (call : CallFn) (j : f52.Js) (v0 v1 : AVal) (h : AHeap) : Rs :=
  bnd (sBox v1 h) fun v3 h1 =>
  bndP (pNilCheck v0) fun v7 =>
  bndP (pFieldAddr 1 v7) fun v8 =>
  bndP (pLoad1 I v8 h1) fun v9 =>
  bndP (pFieldAddr 0 v3) fun v10 =>
  bndP (pLoad1 I v10 h1) fun v11 =>
  bndP (pIndexAddr 3 v9 v11) fun v12 =>
  bndP (pFieldAddr 0 v12) fun v13 =>
  bndP (pLoad1 I v13 h1) fun v14 =>
  bndP (pFieldAddr 1 v3) fun v15 =>
  bndP (pLoad1 I v15 h1) fun v16 =>
  bndP (pLenSl v16) fun v17 =>
  bndP (pLenSl v14) fun v19 =>
  bndP (pBin .geq v17 v19) fun v20 =>
  bnd (sGuard v20 .true (lift (pFieldAddr 1 v3) h1) h1) fun v22 h2 =>
  bnd (sGuard v20 .true (lift (pLoad1 I v22 h2) h2) h2) fun v23 h3 =>
  bnd (sGuard v20 .true (some (v14, h3)) h3) fun v24 h4 =>
  bnd (sGuard v20 .true (lift (pLenSl v24) h4) h4) fun v25 h5 =>
  bnd (sGuard v20 .true (lift (pSliceS 2 v23 none (some v25) none) h5) h5) fun v26 h6 =>
  bnd (sGuard v20 .true (some (v14, h6)) h6) fun v27 h7 =>
  bnd (sGuard v20 .true (call 64 [v26, v27] h7) h7) fun v28 h8 =>
  bndP (pPick v20 v28 (.bool .false)) fun v29 =>
  some (v29, h8)
theorem f52.S (I : Inp) (F : Nat → Option AFn) (call : CallFn) : SFn ⟨P, I, F⟩ call c52 (fun _ _ _ _ => none) :=
  ⟨fun _ _ _ _ => rfl, fun n id hid => absurd hid (by rw [show c52.body.cnt = 0 by kernel_rfl]; omega)⟩
noncomputable def f52.run (I : Inp) : SF := fun call n a h =>
  match a with
  | [v0, v1] => f52.e I call () v0 v1 h
  | _ => none
theorem f52.qe (I : Inp) (call : CallFn) (n : Nat) (v0 v1 : AVal) (h : AHeap) : f52.e I call () v0 v1 h = execC P I call (fun _ _ _ => none) c52.body 0 (finV I c52.results) (argV [v0, v1]) h := by kernel_rfl
theorem f52.code : codeOf P 52 = some c52 := by kernel_rfl
theorem f52.ok (I : Inp) (F : Nat → Option AFn) (hF : F 52 = some (.code c52)) : SfOk P I F 52 (f52.run I) := by
  intro call hc n args h r hr
  unfold f52.run at hr
  split at hr
  · exact fn_sound (C := ⟨P, I, F⟩) (n := n) hc hF (Nat.le_of_ble_eq_true (by kernel_rfl)) (by kernel_rfl) (f52.S I F call) (by kernel_rfl) ((f52.qe I call n _ _ h).symm.trans hr)
  · cases hr
/-! haruspex/types.Check$1 -/
noncomputable def c53 : AFunc := (AFunc.mk 10 2 [(.tmp 5)] (.seq (.region [(S 4 (.box (T 1)) .none), (S 5 (.move (.val (.bool .false))) .none)]) (.seq (.region [(L1 6 2), (M 7 0), (S 8 (.loadN 6 (T 4)) .none), (S 9 (.call 13 [(T 6), (T 7), (T 8)]) .none), (M 5 9)]) .ret)))
abbrev f53.Js : Type := Unit
noncomputable def f53.e (I : Inp) (call : CallFn) (j : f53.Js) (v0 v1 v2 : AVal) (h : AHeap) : Rs :=
  bnd (sBox v1 h) fun v4 h1 =>
  bndP (pLoad1 I v2 h1) fun v6 =>
  bndP (pLoadN I 6 v4 h1) fun v8 =>
  bnd (call 13 [v6, v0, v8] h1) fun v9 h2 =>
  some (v9, h2)
theorem f53.S (I : Inp) (F : Nat → Option AFn) (call : CallFn) : SFn ⟨P, I, F⟩ call c53 (fun _ _ _ _ => none) :=
  ⟨fun _ _ _ _ => rfl, fun n id hid => absurd hid (by rw [show c53.body.cnt = 0 by kernel_rfl]; omega)⟩
noncomputable def f53.run (I : Inp) : SF := fun call n a h =>
  match a with
  | [v0, v1, v2] => f53.e I call () v0 v1 v2 h
  | _ => none
theorem f53.qe (I : Inp) (call : CallFn) (n : Nat) (v0 v1 v2 : AVal) (h : AHeap) : f53.e I call () v0 v1 v2 h = execC P I call (fun _ _ _ => none) c53.body 0 (finV I c53.results) (argV [v0, v1, v2]) h := by kernel_rfl
theorem f53.code : codeOf P 53 = some c53 := by kernel_rfl
theorem f53.ok (I : Inp) (F : Nat → Option AFn) (hF : F 53 = some (.code c53)) : SfOk P I F 53 (f53.run I) := by
  intro call hc n args h r hr
  unfold f53.run at hr
  split at hr
  · exact fn_sound (C := ⟨P, I, F⟩) (n := n) hc hF (Nat.le_of_ble_eq_true (by kernel_rfl)) (by kernel_rfl) (f53.S I F call) (by kernel_rfl) ((f53.qe I call n _ _ _ h).symm.trans hr)
  · cases hr
/-! haruspex/types.Check$2 -/
noncomputable def c54 : AFunc := (AFunc.mk 16 2 [(.tmp 5)] (.seq (.region [(S 4 (.box (T 1)) .none), (S 5 (.move (.val (.bool .false))) .none)]) (.seq (.draw [(L1 6 2), (L1 7 2), (NC 8 7), (FA 9 4 8), (L1 10 9), (M 11 0), (S 12 (.indexAddr 3 (T 10) (T 11)) .none), (S 13 (.loadN 3 (T 12)) .none), (S 14 (.loadN 5 (T 4)) .none), (S 15 (.call 55 [(T 6), (T 13), (T 14)]) .none), (M 5 15)] [N, N, N, N, N, N, N, N, N, Y, N] 0) .ret)))
abbrev f54.Js : Type := Unit
noncomputable def f54.e (I : Inp) (call : CallFn) (j : f54.Js) (v0 v1 v2 : AVal) (h : AHeap) : Rs :=
  bnd (sBox v1 h) fun v4 h1 =>
  bndP (pLoad1 I v2 h1) fun v6 =>
  bndP (pLoad1 I v2 h1) fun v7 =>
  bndP (pNilCheck v7) fun v8 =>
  bndP (pFieldAddr 4 v8) fun v9 =>
  bndP (pLoad1 I v9 h1) fun v10 =>
  bndP (pIndexAddr 3 v10 v0) fun v12 =>
  bndP (pLoadN I 3 v12 h1) fun v13 =>
  bndP (pLoadN I 5 v4 h1) fun v14 =>
  bnd (call 55 [v6, v13, v14] h1) fun v15 h2 =>
  some (v15, h2)
theorem f54.S (I : Inp) (F : Nat → Option AFn) (call : CallFn) : SFn ⟨P, I, F⟩ call c54 (fun _ _ _ _ => none) :=
  ⟨fun _ _ _ _ => rfl, fun n id hid => absurd hid (by rw [show c54.body.cnt = 0 by kernel_rfl]; omega)⟩
noncomputable def f54.run (I : Inp) : SF := fun call n a h =>
  match a with
  | [v0, v1, v2] => f54.e I call () v0 v1 v2 h
  | _ => none
theorem f54.qe (I : Inp) (call : CallFn) (n : Nat) (v0 v1 v2 : AVal) (h : AHeap) : f54.e I call () v0 v1 v2 h = execC P I call (fun _ _ _ => none) c54.body 0 (finV I c54.results) (argV [v0, v1, v2]) h := by kernel_rfl
theorem f54.code : codeOf P 54 = some c54 := by kernel_rfl
theorem f54.ok (I : Inp) (F : Nat → Option AFn) (hF : F 54 = some (.code c54)) : SfOk P I F 54 (f54.run I) := by
  intro call hc n args h r hr
  unfold f54.run at hr
  split at hr
  · exact fn_sound (C := ⟨P, I, F⟩) (n := n) hc hF (Nat.le_of_ble_eq_true (by kernel_rfl)) (by kernel_rfl) (f54.S I F call) (by kernel_rfl) ((f54.qe I call n _ _ _ h).symm.trans hr)
  · cases hr
/-! haruspex/types.ends -/
noncomputable def c55 : AFunc := (AFunc.mk 37 3 [(.tmp 6)] (.seq (.region [(S 4 (.box (T 1)) .none), (S 5 (.box (T 2)) .none), (S 6 (.move (.val (.bool .false))) .none)]) (.seq (.seq (.region [(FA 7 1 5), (L1 8 7)]) (.block 0 (.seq (.region [(S 10 (.bin .eql (T 8) (V 2)) .none), (M 9 10)]) (.cond (T 9) (.seq (.region [(FA 11 1 4), (L1 12 11), (FA 13 2 5), (L1 14 13), (S 15 (.indexAddr 2 (T 12) (T 14)) .none), (FA 16 0 15), (L1 17 16), (S 18 (.bin .eql (T 17) (V 0)) .none), (M 6 18)]) .ret) (.seq (.region [(S 20 (.bin .eql (T 8) (V 3)) .none), (M 19 20)]) (.cond (T 19) (.seq (.draw [(FA 21 1 4), (L1 22 21), (FA 23 2 5), (L1 24 23), (S 25 (.indexAddr 2 (T 22) (T 24)) .none), (S 26 (.loadN 2 (T 25)) .none), (M 27 0), (NC 28 27), (FA 29 1 28), (L1 30 29), (FA 31 0 4), (L1 32 31), (S 33 (.indexAddr 3 (T 30) (T 32)) .none), (FA 34 1 33), (S 35 (.loadN 2 (T 34)) .none), (S 36 (.eq .false (.struct [.i, .i]) .false (T 26) (T 35)) .none), (M 6 36)] [N, N, N, N, N, N, N, N, N, N, N, N, N, N, N, N, N] 0) .ret) .skip)))))) (.seq (.region [(S 6 (.move (.val (.bool .true))) .none)]) .ret))))
abbrev f55.Js : Type := (AHeap → Rs)
noncomputable def f55.b0 (I : Inp) (call : CallFn) (j : f55.Js) (h : AHeap) : Rs :=
  some ((.bool .true), h)
noncomputable def f55.e (I : Inp) (call : CallFn) (j : f55.Js) (v0 v1 v2 : AVal) (h : AHeap) : Rs :=
  bnd (sBox v1 h) fun v4 h1 =>
  bnd (sBox v2 h1) fun v5 h2 =>
  bndP (pFieldAddr 1 v5) fun v7 =>
  bndP (pLoad1 I v7 h2) fun v8 =>
  bndP (pBin .eql v8 (Z 2)) fun v10 =>
  sCond v10 (
  bndP (pBin .eql v8 (Z 3)) fun v20 =>
  sCond v20 (
  j h2) (
  bndP (pFieldAddr 1 v4) fun v21 =>
  bndP (pLoad1 I v21 h2) fun v22 =>
  bndP (pFieldAddr 2 v5) fun v23 =>
  bndP (pLoad1 I v23 h2) fun v24 =>
  bndP (pIndexAddr 2 v22 v24) fun v25 =>
  bndP (pLoadN I 2 v25 h2) fun v26 =>
  bndP (pNilCheck v0) fun v28 =>
  bndP (pFieldAddr 1 v28) fun v29 =>
  bndP (pLoad1 I v29 h2) fun v30 =>
  bndP (pFieldAddr 0 v4) fun v31 =>
  bndP (pLoad1 I v31 h2) fun v32 =>
  bndP (pIndexAddr 3 v30 v32) fun v33 =>
  bndP (pFieldAddr 1 v33) fun v34 =>
  bndP (pLoadN I 2 v34 h2) fun v35 =>
  bndP (pEq P .false (.struct [.i, .i]) .false v26 v35 h2) fun v36 =>
  some (v36, h2))) (
  bndP (pFieldAddr 1 v4) fun v11 =>
  bndP (pLoad1 I v11 h2) fun v12 =>
  bndP (pFieldAddr 2 v5) fun v13 =>
  bndP (pLoad1 I v13 h2) fun v14 =>
  bndP (pIndexAddr 2 v12 v14) fun v15 =>
  bndP (pFieldAddr 0 v15) fun v16 =>
  bndP (pLoad1 I v16 h2) fun v17 =>
  bndP (pBin .eql v17 (Z 0)) fun v18 =>
  some (v18, h2))
noncomputable def f55.J (I : Inp) (call : CallFn) (n : Nat) : f55.Js :=
  Nat.rec (motive := fun _ => f55.Js) (fun _ => none) (fun _ ih => f55.b0 I call ih) n
noncomputable def f55.JS (I : Inp) (call : CallFn) (n : Nat) : Jmp := fun id ρ h =>
  ((f55.J I call n) h)
theorem f55.q0 (I : Inp) (call : CallFn) (n : Nat) (ρ : Fun) (h : AHeap) : f55.JS I call (n + 1) 0 ρ h = labC P I call (f55.JS I call n) c55.body 0 (finV I c55.results) 0 ρ h := by kernel_rfl
theorem f55.S (I : Inp) (F : Nat → Option AFn) (call : CallFn) : SFn ⟨P, I, F⟩ call c55 (f55.JS I call) :=
  ⟨fun id hid ρ h => by
    have hc : c55.body.cnt = 1 := by kernel_rfl
    rw [hc] at hid
    exact match id, hid with
    | 0, _ => rfl
    | id + 1, hid => absurd hid (by omega), fun n id hid ρ h => by
    have hc : c55.body.cnt = 1 := by kernel_rfl
    rw [hc] at hid
    exact match id, hid with
    | 0, _ => f55.q0 I call n ρ h
    | id + 1, hid => absurd hid (by omega)⟩
noncomputable def f55.run (I : Inp) : SF := fun call n a h =>
  match a with
  | [v0, v1, v2] => f55.e I call (f55.J I call n) v0 v1 v2 h
  | _ => none
theorem f55.qe (I : Inp) (call : CallFn) (n : Nat) (v0 v1 v2 : AVal) (h : AHeap) : f55.e I call (f55.J I call n) v0 v1 v2 h = execC P I call (f55.JS I call n) c55.body 0 (finV I c55.results) (argV [v0, v1, v2]) h := by kernel_rfl
theorem f55.code : codeOf P 55 = some c55 := by kernel_rfl
theorem f55.ok (I : Inp) (F : Nat → Option AFn) (hF : F 55 = some (.code c55)) : SfOk P I F 55 (f55.run I) := by
  intro call hc n args h r hr
  unfold f55.run at hr
  split at hr
  · exact fn_sound (C := ⟨P, I, F⟩) (n := n) hc hF (Nat.le_of_ble_eq_true (by kernel_rfl)) (by kernel_rfl) (f55.S I F call) (by kernel_rfl) ((f55.qe I call n _ _ _ h).symm.trans hr)
  · cases hr
/-! haruspex/refuse.first -/
noncomputable def c56 : AFunc := (AFunc.mk 9 1 [(.tmp 2)] (.seq (.region [(S 2 (.move (.val .nilp)) .none)]) (.seq (.region [(S 3 (.alloc [.nilp]) .none)]) (.seq (.seq (.region [(M 4 0), (S 5 (.iface 105 (T 3)) .none), (S 6 (.call 65 [(T 4), (T 5)]) .none), (S 7 (.un .not (T 6)) .none)]) (.cond (T 7) (.seq (.region [(S 2 (.move (.val .nilp)) .none)]) .ret) .skip)) (.seq (.region [(L1 8 3), (M 2 8)]) .ret)))))
abbrev f56.Js : Type := (AVal → AHeap → Rs)
noncomputable def f56.b0 (I : Inp) (call : CallFn) (j : f56.Js) (v3 : AVal) (h : AHeap) : Rs :=
  bndP (pLoad1 I v3 h) fun v8 =>
  some (v8, h)
noncomputable def f56.e (I : Inp) (call : CallFn) (j : f56.Js) (v0 : AVal) (h : AHeap) : Rs :=
  bnd (sAlloc [.nilp] h) fun v3 h1 =>
  bnd (call 65 [v0, (.iface 105 v3)] h1) fun v6 h2 =>
  bndP (pUn .not v6) fun v7 =>
  sCond v7 (
  j v3 h2) (
  some (.nilp, h2))
noncomputable def f56.J (I : Inp) (call : CallFn) (n : Nat) : f56.Js :=
  Nat.rec (motive := fun _ => f56.Js) (fun _ _ => none) (fun _ ih => f56.b0 I call ih) n
theorem f56.n0 (I : Inp) (call : CallFn) (n : Nat) : (f56.J I call (n + 1)) = f56.b0 I call (f56.J I call n) := Eq.trans rfl rfl
noncomputable def f56.JS (I : Inp) (call : CallFn) (n : Nat) : Jmp := fun id ρ h =>
  ((f56.J I call n) (ρ 3) h)
theorem f56.q0 (I : Inp) (call : CallFn) (n : Nat) (ρ : Fun) (h : AHeap) : f56.JS I call (n + 1) 0 ρ h = labC P I call (f56.JS I call n) c56.body 0 (finV I c56.results) 0 ρ h := by kernel_rfl
theorem f56.S (I : Inp) (F : Nat → Option AFn) (call : CallFn) : SFn ⟨P, I, F⟩ call c56 (f56.JS I call) :=
  ⟨fun id hid ρ h => by
    have hc : c56.body.cnt = 1 := by kernel_rfl
    rw [hc] at hid
    exact match id, hid with
    | 0, _ => rfl
    | id + 1, hid => absurd hid (by omega), fun n id hid ρ h => by
    have hc : c56.body.cnt = 1 := by kernel_rfl
    rw [hc] at hid
    exact match id, hid with
    | 0, _ => f56.q0 I call n ρ h
    | id + 1, hid => absurd hid (by omega)⟩
noncomputable def f56.run (I : Inp) : SF := fun call n a h =>
  match a with
  | [v0] => f56.e I call (f56.J I call n) v0 h
  | _ => none
theorem f56.qe (I : Inp) (call : CallFn) (n : Nat) (v0 : AVal) (h : AHeap) : f56.e I call (f56.J I call n) v0 h = execC P I call (f56.JS I call n) c56.body 0 (finV I c56.results) (argV [v0]) h := by kernel_rfl
theorem f56.code : codeOf P 56 = some c56 := by kernel_rfl
theorem f56.ok (I : Inp) (F : Nat → Option AFn) (hF : F 56 = some (.code c56)) : SfOk P I F 56 (f56.run I) := by
  intro call hc n args h r hr
  unfold f56.run at hr
  split at hr
  · exact fn_sound (C := ⟨P, I, F⟩) (n := n) hc hF (Nat.le_of_ble_eq_true (by kernel_rfl)) (by kernel_rfl) (f56.S I F call) (by kernel_rfl) ((f56.qe I call n _ h).symm.trans hr)
  · cases hr
theorem f56.qr (I : Inp) (call : CallFn) (n : Nat) (v0 : AVal) (h : AHeap) : f56.run I call n [v0] h = f56.e I call (f56.J I call n) v0 h := by kernel_rfl
theorem f56.lim {I : Inp} {prims : Nat → Option Prim} (hp : prims 56 = none) {n : Nat} {v0 : AVal} {h : AHeap} {Q : AVal → AHeap → Prop} (hr : Res (f56.e I (AM.lim ⟨P, I, genF P prims⟩) (f56.J I (AM.lim ⟨P, I, genF P prims⟩) n) v0 h) Q) :
    Res (AM.lim ⟨P, I, genF P prims⟩ 56 [v0] h) Q := by
  obtain ⟨v, h', e, q⟩ := hr
  exact ⟨v, h', lim_sf (C := ⟨P, I, genF P prims⟩) (n := n) (f56.ok I (genF P prims) (genF_code hp f56.code)) ((f56.qr I _ n v0 h).trans e), q⟩
/-! haruspex/types.named -/
noncomputable def c57 : AFunc := (AFunc.mk 42 2 [(.tmp 4)] (.seq (.region [(S 3 (.box (T 1)) .none), (S 4 (.move (.val (.bool .false))) .none)]) (.seq (.seq (.region [(FA 5 0 3), (L1 6 5)]) (.block 0 (.seq (.region [(S 8 (.bin .eql (T 6) (V 0)) .none), (M 7 8)]) (.cond (T 7) (.seq (.region [(FA 9 1 3), (L1 10 9), (S 11 (.bin .eql (T 10) (V 0)) .none), (M 4 11)]) .ret) (.seq (.region [(S 13 (.bin .eql (T 6) (V 1)) .none), (M 12 13)]) (.cond (T 12) (.seq (.draw [(FA 14 1 3), (L1 15 14), (M 16 0), (NC 17 16), (FA 18 0 17), (L1 19 18), (S 20 (.lenSl (T 19)) .none), (S 21 (.call 25 [(T 15), (T 20)]) .none), (M 4 21)] [N, N, N, N, N, N, N, Y, N] 0) .ret) (.seq (.region [(S 23 (.bin .eql (T 6) (V 2)) .none), (M 22 23)]) (.cond (T 22) (.seq (.draw [(FA 24 1 3), (L1 25 24), (M 26 0), (NC 27 26), (FA 28 1 27), (L1 29 28), (S 30 (.lenSl (T 29)) .none), (S 31 (.call 25 [(T 25), (T 30)]) .none), (M 4 31)] [N, N, N, N, N, N, N, Y, N] 0) .ret) (.seq (.region [(S 33 (.bin .eql (T 6) (V 3)) .none), (M 32 33)]) (.cond (T 32) (.seq (.draw [(FA 34 1 3), (L1 35 34), (M 36 0), (NC 37 36), (FA 38 2 37), (L1 39 38), (S 40 (.lenSl (T 39)) .none), (S 41 (.call 25 [(T 35), (T 40)]) .none), (M 4 41)] [N, N, N, N, N, N, N, Y, N] 0) .ret) .skip)))))))))) (.seq (.region [(S 4 (.move (.val (.bool .false))) .none)]) .ret))))
abbrev f57.Js : Type := (AHeap → Rs)
noncomputable def f57.b0 (I : Inp) (call : CallFn) (j : f57.Js) (h : AHeap) : Rs :=
  some ((.bool .false), h)
noncomputable def f57.e (I : Inp) (call : CallFn) (j : f57.Js) (v0 v1 : AVal) (h : AHeap) : Rs :=
  bnd (sBox v1 h) fun v3 h1 =>
  bndP (pFieldAddr 0 v3) fun v5 =>
  bndP (pLoad1 I v5 h1) fun v6 =>
  bndP (pBin .eql v6 (Z 0)) fun v8 =>
  sCond v8 (
  bndP (pBin .eql v6 (Z 1)) fun v13 =>
  sCond v13 (
  bndP (pBin .eql v6 (Z 2)) fun v23 =>
  sCond v23 (
  bndP (pBin .eql v6 (Z 3)) fun v33 =>
  sCond v33 (
  j h1) (
  bndP (pFieldAddr 1 v3) fun v34 =>
  bndP (pLoad1 I v34 h1) fun v35 =>
  bndP (pNilCheck v0) fun v37 =>
  bndP (pFieldAddr 2 v37) fun v38 =>
  bndP (pLoad1 I v38 h1) fun v39 =>
  bndP (pLenSl v39) fun v40 =>
  bnd (call 25 [v35, v40] h1) fun v41 h2 =>
  some (v41, h2))) (
  bndP (pFieldAddr 1 v3) fun v24 =>
  bndP (pLoad1 I v24 h1) fun v25 =>
  bndP (pNilCheck v0) fun v27 =>
  bndP (pFieldAddr 1 v27) fun v28 =>
  bndP (pLoad1 I v28 h1) fun v29 =>
  bndP (pLenSl v29) fun v30 =>
  bnd (call 25 [v25, v30] h1) fun v31 h3 =>
  some (v31, h3))) (
  bndP (pFieldAddr 1 v3) fun v14 =>
  bndP (pLoad1 I v14 h1) fun v15 =>
  bndP (pNilCheck v0) fun v17 =>
  bndP (pFieldAddr 0 v17) fun v18 =>
  bndP (pLoad1 I v18 h1) fun v19 =>
  bndP (pLenSl v19) fun v20 =>
  bnd (call 25 [v15, v20] h1) fun v21 h4 =>
  some (v21, h4))) (
  bndP (pFieldAddr 1 v3) fun v9 =>
  bndP (pLoad1 I v9 h1) fun v10 =>
  bndP (pBin .eql v10 (Z 0)) fun v11 =>
  some (v11, h1))
noncomputable def f57.J (I : Inp) (call : CallFn) (n : Nat) : f57.Js :=
  Nat.rec (motive := fun _ => f57.Js) (fun _ => none) (fun _ ih => f57.b0 I call ih) n
theorem f57.n0 (I : Inp) (call : CallFn) (n : Nat) : (f57.J I call (n + 1)) = f57.b0 I call (f57.J I call n) := Eq.trans rfl rfl
noncomputable def f57.JS (I : Inp) (call : CallFn) (n : Nat) : Jmp := fun id ρ h =>
  ((f57.J I call n) h)
theorem f57.q0 (I : Inp) (call : CallFn) (n : Nat) (ρ : Fun) (h : AHeap) : f57.JS I call (n + 1) 0 ρ h = labC P I call (f57.JS I call n) c57.body 0 (finV I c57.results) 0 ρ h := by kernel_rfl
theorem f57.S (I : Inp) (F : Nat → Option AFn) (call : CallFn) : SFn ⟨P, I, F⟩ call c57 (f57.JS I call) :=
  ⟨fun id hid ρ h => by
    have hc : c57.body.cnt = 1 := by kernel_rfl
    rw [hc] at hid
    exact match id, hid with
    | 0, _ => rfl
    | id + 1, hid => absurd hid (by omega), fun n id hid ρ h => by
    have hc : c57.body.cnt = 1 := by kernel_rfl
    rw [hc] at hid
    exact match id, hid with
    | 0, _ => f57.q0 I call n ρ h
    | id + 1, hid => absurd hid (by omega)⟩
noncomputable def f57.run (I : Inp) : SF := fun call n a h =>
  match a with
  | [v0, v1] => f57.e I call (f57.J I call n) v0 v1 h
  | _ => none
theorem f57.qe (I : Inp) (call : CallFn) (n : Nat) (v0 v1 : AVal) (h : AHeap) : f57.e I call (f57.J I call n) v0 v1 h = execC P I call (f57.JS I call n) c57.body 0 (finV I c57.results) (argV [v0, v1]) h := by kernel_rfl
theorem f57.code : codeOf P 57 = some c57 := by kernel_rfl
theorem f57.ok (I : Inp) (F : Nat → Option AFn) (hF : F 57 = some (.code c57)) : SfOk P I F 57 (f57.run I) := by
  intro call hc n args h r hr
  unfold f57.run at hr
  split at hr
  · exact fn_sound (C := ⟨P, I, F⟩) (n := n) hc hF (Nat.le_of_ble_eq_true (by kernel_rfl)) (by kernel_rfl) (f57.S I F call) (by kernel_rfl) ((f57.qe I call n _ _ h).symm.trans hr)
  · cases hr
theorem f57.qr (I : Inp) (call : CallFn) (n : Nat) (v0 v1 : AVal) (h : AHeap) : f57.run I call n [v0, v1] h = f57.e I call (f57.J I call n) v0 v1 h := by kernel_rfl
theorem f57.lim {I : Inp} {prims : Nat → Option Prim} (hp : prims 57 = none) {n : Nat} {v0 v1 : AVal} {h : AHeap} {Q : AVal → AHeap → Prop} (hr : Res (f57.e I (AM.lim ⟨P, I, genF P prims⟩) (f57.J I (AM.lim ⟨P, I, genF P prims⟩) n) v0 v1 h) Q) :
    Res (AM.lim ⟨P, I, genF P prims⟩ 57 [v0, v1] h) Q := by
  obtain ⟨v, h', e, q⟩ := hr
  exact ⟨v, h', lim_sf (C := ⟨P, I, genF P prims⟩) (n := n) (f57.ok I (genF P prims) (genF_code hp f57.code)) ((f57.qr I _ n v0 v1 h).trans e), q⟩
/-! haruspex/types.numbers -/
noncomputable def c58 : AFunc := (AFunc.mk 18 2 [(.tmp 4)] (.seq (.region [(S 4 (.move (.val (.bool .false))) .none)]) (.seq (.seq (.region [(M 7 0), (S 8 (.lenSl (T 7)) .none), (S 9 (.move (V 0)) .none)]) (.block 0 (.loop (.seq (.region [(S 10 (.bin .lss (T 9) (T 8)) .none)]) (.seq (.cond (T 10) .skip (.exit 0)) (.seq (.block 1 (.seq (.region [(S 11 (.indexAddr 1 (T 7) (T 9)) .none), (L1 12 11), (M 6 12)]) (.seq (.region [(M 13 6), (M 14 1), (S 15 (.call 25 [(T 13), (T 14)]) .none), (S 16 (.un .not (T 15)) .none)]) (.cond (T 16) (.seq (.region [(S 4 (.move (.val (.bool .false))) .none)]) .ret) .skip)))) (.region [(S 17 (.bin .add (T 9) (V 1)) .none), (M 9 17)]))))))) (.seq (.region [(S 4 (.move (.val (.bool .true))) .none)]) .ret))))
abbrev f58.Js : Type := (((AHeap → Rs) × (AVal → AVal → AVal → AVal → AHeap → Rs)) × ((AVal → AVal → AVal → AVal → AHeap → Rs) × (AVal → AVal → AVal → AVal → AHeap → Rs)))
noncomputable def f58.b0 (I : Inp) (call : CallFn) (j : f58.Js) (h : AHeap) : Rs :=
  some ((.bool .true), h)
noncomputable def f58.b1 (I : Inp) (call : CallFn) (j : f58.Js) (v1 v7 v8 v9 : AVal) (h : AHeap) : Rs :=
  bndP (pBin .lss v9 v8) fun v10 =>
  sCond v10 (
  j.1.1 h) (
  j.2.1 v1 v7 v8 v9 h)
noncomputable def f58.b2 (I : Inp) (call : CallFn) (j : f58.Js) (v1 v7 v8 v9 : AVal) (h : AHeap) : Rs :=
  bndP (pIndexAddr 1 v7 v9) fun v11 =>
  bndP (pLoad1 I v11 h) fun v12 =>
  bnd (call 25 [v12, v1] h) fun v15 h1 =>
  bndP (pUn .not v15) fun v16 =>
  sCond v16 (
  j.2.2 v1 v7 v8 v9 h1) (
  some ((.bool .false), h1))
noncomputable def f58.b3 (I : Inp) (call : CallFn) (j : f58.Js) (v1 v7 v8 v9 : AVal) (h : AHeap) : Rs :=
  bndP (pBin .add v9 (Z 1)) fun v17 =>
  j.1.2 v1 v7 v8 v17 h
noncomputable def f58.e (I : Inp) (call : CallFn) (j : f58.Js) (v0 v1 : AVal) (h : AHeap) : Rs :=
  bndP (pLenSl v0) fun v8 =>
  j.1.2 v1 v0 v8 (Z 0) h
noncomputable def f58.J (I : Inp) (call : CallFn) (n : Nat) : f58.Js :=
  Nat.rec (motive := fun _ => f58.Js) (((fun _ => none), (fun _ _ _ _ _ => none)), ((fun _ _ _ _ _ => none), (fun _ _ _ _ _ => none))) (fun _ ih => ((f58.b0 I call ih, f58.b1 I call ih), (f58.b2 I call ih, f58.b3 I call ih))) n
theorem f58.n0 (I : Inp) (call : CallFn) (n : Nat) : (f58.J I call (n + 1)).1.1 = f58.b0 I call (f58.J I call n) := Eq.trans rfl rfl
theorem f58.n1 (I : Inp) (call : CallFn) (n : Nat) : (f58.J I call (n + 1)).1.2 = f58.b1 I call (f58.J I call n) := Eq.trans rfl rfl
theorem f58.n2 (I : Inp) (call : CallFn) (n : Nat) : (f58.J I call (n + 1)).2.1 = f58.b2 I call (f58.J I call n) := Eq.trans rfl rfl
theorem f58.n3 (I : Inp) (call : CallFn) (n : Nat) : (f58.J I call (n + 1)).2.2 = f58.b3 I call (f58.J I call n) := Eq.trans rfl rfl
noncomputable def f58.JS (I : Inp) (call : CallFn) (n : Nat) : Jmp := fun id ρ h =>
  (Bool.rec (motive := fun _ => _) (Bool.rec (motive := fun _ => _) ((f58.J I call n).2.2 (ρ 1) (ρ 7) (ρ 8) (ρ 9) h) ((f58.J I call n).2.1 (ρ 1) (ρ 7) (ρ 8) (ρ 9) h) (Nat.blt id 3)) (Bool.rec (motive := fun _ => _) ((f58.J I call n).1.2 (ρ 1) (ρ 7) (ρ 8) (ρ 9) h) ((f58.J I call n).1.1 h) (Nat.blt id 1)) (Nat.blt id 2))
theorem f58.q0 (I : Inp) (call : CallFn) (n : Nat) (ρ : Fun) (h : AHeap) : f58.JS I call (n + 1) 0 ρ h = labC P I call (f58.JS I call n) c58.body 0 (finV I c58.results) 0 ρ h := by kernel_rfl
theorem f58.q1 (I : Inp) (call : CallFn) (n : Nat) (ρ : Fun) (h : AHeap) : f58.JS I call (n + 1) 1 ρ h = labC P I call (f58.JS I call n) c58.body 0 (finV I c58.results) 1 ρ h := by kernel_rfl
theorem f58.q2 (I : Inp) (call : CallFn) (n : Nat) (ρ : Fun) (h : AHeap) : f58.JS I call (n + 1) 2 ρ h = labC P I call (f58.JS I call n) c58.body 0 (finV I c58.results) 2 ρ h := by kernel_rfl
theorem f58.q3 (I : Inp) (call : CallFn) (n : Nat) (ρ : Fun) (h : AHeap) : f58.JS I call (n + 1) 3 ρ h = labC P I call (f58.JS I call n) c58.body 0 (finV I c58.results) 3 ρ h := by kernel_rfl
theorem f58.S (I : Inp) (F : Nat → Option AFn) (call : CallFn) : SFn ⟨P, I, F⟩ call c58 (f58.JS I call) :=
  ⟨fun id hid ρ h => by
    have hc : c58.body.cnt = 4 := by kernel_rfl
    rw [hc] at hid
    exact match id, hid with
    | 0, _ => rfl
    | 1, _ => rfl
    | 2, _ => rfl
    | 3, _ => rfl
    | id + 4, hid => absurd hid (by omega), fun n id hid ρ h => by
    have hc : c58.body.cnt = 4 := by kernel_rfl
    rw [hc] at hid
    exact match id, hid with
    | 0, _ => f58.q0 I call n ρ h
    | 1, _ => f58.q1 I call n ρ h
    | 2, _ => f58.q2 I call n ρ h
    | 3, _ => f58.q3 I call n ρ h
    | id + 4, hid => absurd hid (by omega)⟩
noncomputable def f58.run (I : Inp) : SF := fun call n a h =>
  match a with
  | [v0, v1] => f58.e I call (f58.J I call n) v0 v1 h
  | _ => none
theorem f58.qe (I : Inp) (call : CallFn) (n : Nat) (v0 v1 : AVal) (h : AHeap) : f58.e I call (f58.J I call n) v0 v1 h = execC P I call (f58.JS I call n) c58.body 0 (finV I c58.results) (argV [v0, v1]) h := by kernel_rfl
theorem f58.code : codeOf P 58 = some c58 := by kernel_rfl
theorem f58.ok (I : Inp) (F : Nat → Option AFn) (hF : F 58 = some (.code c58)) : SfOk P I F 58 (f58.run I) := by
  intro call hc n args h r hr
  unfold f58.run at hr
  split at hr
  · exact fn_sound (C := ⟨P, I, F⟩) (n := n) hc hF (Nat.le_of_ble_eq_true (by kernel_rfl)) (by kernel_rfl) (f58.S I F call) (by kernel_rfl) ((f58.qe I call n _ _ h).symm.trans hr)
  · cases hr
theorem f58.qr (I : Inp) (call : CallFn) (n : Nat) (v0 v1 : AVal) (h : AHeap) : f58.run I call n [v0, v1] h = f58.e I call (f58.J I call n) v0 v1 h := by kernel_rfl
theorem f58.lim {I : Inp} {prims : Nat → Option Prim} (hp : prims 58 = none) {n : Nat} {v0 v1 : AVal} {h : AHeap} {Q : AVal → AHeap → Prop} (hr : Res (f58.e I (AM.lim ⟨P, I, genF P prims⟩) (f58.J I (AM.lim ⟨P, I, genF P prims⟩) n) v0 v1 h) Q) :
    Res (AM.lim ⟨P, I, genF P prims⟩ 58 [v0, v1] h) Q := by
  obtain ⟨v, h', e, q⟩ := hr
  exact ⟨v, h', lim_sf (C := ⟨P, I, genF P prims⟩) (n := n) (f58.ok I (genF P prims) (genF_code hp f58.code)) ((f58.qr I _ n v0 v1 h).trans e), q⟩
/-! haruspex/types.counted -/
noncomputable def c59 : AFunc := (AFunc.mk 43 1 [(.tmp 2), (.tmp 3), (.tmp 4), (.tmp 5), (.tmp 6), (.tmp 7)] (.seq (.region [(S 1 (.box (T 0)) .none), (S 2 (.move (.val (.bool .false))) .none), (S 3 (.move (.val (.bool .false))) .none), (S 4 (.move (.val (.bool .false))) .none), (S 5 (.move (.val (.bool .false))) .none), (S 6 (.move (.val (.bool .false))) .none), (S 7 (.move (.val (.bool .false))) .none)]) (.seq (.region [(S 7 (.move (.val (.bool .true))) .none)]) (.seq (.seq (.region [(FA 8 0 1), (L1 9 8)]) (.block 0 (.seq (.block 10 (.seq (.block 9 (.seq (.block 8 (.seq (.block 7 (.seq (.block 6 (.seq (.block 5 (.seq (.block 4 (.seq (.block 3 (.seq (.block 2 (.seq (.block 1 (.seq (.seq (.seq (.seq (.region [(S 11 (.bin .eql (T 9) (V 1)) .none), (M 10 11)]) (.cond (T 10) .skip (.region [(S 12 (.bin .eql (T 9) (V 10)) .none), (M 10 12)]))) (.cond (T 10) (.exit 1) .skip)) (.seq (.seq (.seq (.region [(S 14 (.bin .eql (T 9) (V 3)) .none), (M 13 14)]) (.cond (T 13) .skip (.seq (.region [(S 15 (.bin .eql (T 9) (V 4)) .none), (M 13 15)]) (.cond (T 13) .skip (.region [(S 16 (.bin .eql (T 9) (V 5)) .none), (M 13 16)]))))) (.cond (T 13) (.exit 2) .skip)) (.seq (.seq (.region [(S 18 (.bin .eql (T 9) (V 2)) .none), (M 17 18)]) (.cond (T 17) (.exit 3) .skip)) (.seq (.seq (.seq (.region [(S 20 (.bin .eql (T 9) (V 6)) .none), (M 19 20)]) (.cond (T 19) .skip (.region [(S 21 (.bin .eql (T 9) (V 11)) .none), (M 19 21)]))) (.cond (T 19) (.exit 4) .skip)) (.seq (.seq (.region [(S 23 (.bin .eql (T 9) (V 7)) .none), (M 22 23)]) (.cond (T 22) (.exit 5) .skip)) (.seq (.seq (.region [(S 25 (.bin .eql (T 9) (V 8)) .none), (M 24 25)]) (.cond (T 24) (.exit 6) .skip)) (.seq (.seq (.seq (.region [(S 27 (.bin .eql (T 9) (V 9)) .none), (M 26 27)]) (.cond (T 26) .skip (.region [(S 28 (.bin .eql (T 9) (V 15)) .none), (M 26 28)]))) (.cond (T 26) (.exit 7) .skip)) (.seq (.seq (.seq (.region [(S 30 (.bin .eql (T 9) (V 14)) .none), (M 29 30)]) (.cond (T 29) .skip (.region [(S 31 (.bin .eql (T 9) (V 13)) .none), (M 29 31)]))) (.cond (T 29) (.exit 8) .skip)) (.seq (.region [(S 33 (.bin .eql (T 9) (V 12)) .none), (M 32 33)]) (.cond (T 32) (.exit 9) .skip)))))))))) (.exit 10))) (.region [(S 5 (.move (.val (.bool .true))) .none)]))) (.seq (.region [(S 2 (.move (.val (.bool .true))) .none)]) (.exit 0)))) (.region [(S 4 (.move (.val (.bool .true))) .none)]))) (.seq (.region [(S 2 (.move (.val (.bool .true))) .none), (S 3 (.move (.val (.bool .true))) .none)]) (.exit 0)))) (.seq (.region [(S 2 (.move (.val (.bool .true))) .none), (S 3 (.move (.val (.bool .true))) .none), (S 5 (.move (.val (.bool .true))) .none)]) (.exit 0)))) (.seq (.region [(S 3 (.move (.val (.bool .true))) .none), (S 4 (.move (.val (.bool .true))) .none), (S 5 (.move (.val (.bool .true))) .none)]) (.exit 0)))) (.seq (.region [(S 3 (.move (.val (.bool .true))) .none)]) (.exit 0)))) (.region [(S 3 (.move (.val (.bool .true))) .none)]))) (.seq (.seq (.region [(S 2 (.move (.val (.bool .true))) .none), (S 6 (.move (.val (.bool .true))) .none)]) (.region [(FA 34 0 1), (L1 35 34), (S 36 (.bin .neq (T 35) (V 13)) .none), (M 5 36)])) (.exit 0)))) (.seq (.region [(S 7 (.move (.val (.bool .false))) .none)]) (.exit 0))))) (.seq (.region [(M 37 2), (M 38 3), (M 39 4), (M 40 5), (M 41 6), (M 42 7), (M 2 37), (M 3 38), (M 4 39), (M 5 40), (M 6 41), (M 7 42)]) .ret)))))
abbrev f59.Js : Type := (((((AVal → AVal → AVal → AVal → AVal → AVal → AHeap → Rs) × ((AVal → AVal → AVal → AVal → AVal → AHeap → Rs) × (AVal → AVal → AVal → AVal → AHeap → Rs))) × ((AVal → AVal → AVal → AHeap → Rs) × ((AVal → AVal → AVal → AVal → AVal → AHeap → Rs) × (AVal → AVal → AVal → AHeap → Rs)))) × (((AVal → AVal → AVal → AHeap → Rs) × ((AVal → AVal → AVal → AVal → AHeap → Rs) × (AVal → AVal → AVal → AHeap → Rs))) × ((AVal → AVal → AVal → AVal → AVal → AHeap → Rs) × ((AVal → AVal → AVal → AVal → AHeap → Rs) × (AVal → AVal → AVal → AVal → AVal → AHeap → Rs))))) × ((((AVal → AVal → AVal → AVal → AVal → AVal → AVal → AVal → AHeap → Rs) × ((AVal → AVal → AVal → AVal → AVal → AVal → AVal → AVal → AVal → AHeap → Rs) × (AVal → AVal → AVal → AVal → AVal → AVal → AVal → AVal → AHeap → Rs))) × ((AVal → AVal → AVal → AVal → AVal → AVal → AVal → AVal → AVal → AHeap → Rs) × ((AVal → AVal → AVal → AVal → AVal → AVal → AVal → AVal → AHeap → Rs) × (AVal → AVal → AVal → AVal → AVal → AVal → AVal → AVal → AHeap → Rs)))) × (((AVal → AVal → AVal → AVal → AVal → AVal → AVal → AVal → AVal → AHeap → Rs) × ((AVal → AVal → AVal → AVal → AVal → AVal → AVal → AVal → AHeap → Rs) × (AVal → AVal → AVal → AVal → AVal → AVal → AVal → AVal → AHeap → Rs))) × (((AVal → AVal → AVal → AVal → AVal → AVal → AVal → AVal → AHeap → Rs) × (AVal → AVal → AVal → AVal → AVal → AVal → AVal → AVal → AVal → AHeap → Rs)) × ((AVal → AVal → AVal → AVal → AVal → AVal → AVal → AVal → AHeap → Rs) × (AVal → AVal → AVal → AVal → AVal → AVal → AVal → AVal → AVal → AHeap → Rs))))))
noncomputable def f59.b0 (I : Inp) (call : CallFn) (j : f59.Js) (v2 v3 v4 v5 v6 v7 : AVal) (h : AHeap) : Rs :=
  some (.tuple [v2, v3, v4, v5, v6, v7], h)
noncomputable def f59.b1 (I : Inp) (call : CallFn) (j : f59.Js) (v2 v3 v4 v5 v6 : AVal) (h : AHeap) : Rs :=
  j.1.1.1.1 v2 v3 v4 v5 v6 (.bool .false) h
noncomputable def f59.b2 (I : Inp) (call : CallFn) (j : f59.Js) (v1 v3 v4 v7 : AVal) (h : AHeap) : Rs :=
  bndP (pFieldAddr 0 v1) fun v34 =>
  bndP (pLoad1 I v34 h) fun v35 =>
  bndP (pBin .neq v35 (Z 13)) fun v36 =>
  j.1.1.1.1 (.bool .true) v3 v4 v36 (.bool .true) v7 h
noncomputable def f59.b3 (I : Inp) (call : CallFn) (j : f59.Js) (v1 v4 v7 : AVal) (h : AHeap) : Rs :=
  j.1.1.1.2.2 v1 (.bool .true) v4 v7 h
noncomputable def f59.b4 (I : Inp) (call : CallFn) (j : f59.Js) (v2 v4 v5 v6 v7 : AVal) (h : AHeap) : Rs :=
  j.1.1.1.1 v2 (.bool .true) v4 v5 v6 v7 h
noncomputable def f59.b5 (I : Inp) (call : CallFn) (j : f59.Js) (v2 v6 v7 : AVal) (h : AHeap) : Rs :=
  j.1.1.1.1 v2 (.bool .true) (.bool .true) (.bool .true) v6 v7 h
noncomputable def f59.b6 (I : Inp) (call : CallFn) (j : f59.Js) (v4 v6 v7 : AVal) (h : AHeap) : Rs :=
  j.1.1.1.1 (.bool .true) (.bool .true) v4 (.bool .true) v6 v7 h
noncomputable def f59.b7 (I : Inp) (call : CallFn) (j : f59.Js) (v4 v5 v6 v7 : AVal) (h : AHeap) : Rs :=
  j.1.1.1.1 (.bool .true) (.bool .true) v4 v5 v6 v7 h
noncomputable def f59.b8 (I : Inp) (call : CallFn) (j : f59.Js) (v5 v6 v7 : AVal) (h : AHeap) : Rs :=
  j.1.2.1.2.1 (.bool .true) v5 v6 v7 h
noncomputable def f59.b9 (I : Inp) (call : CallFn) (j : f59.Js) (v3 v4 v5 v6 v7 : AVal) (h : AHeap) : Rs :=
  j.1.1.1.1 (.bool .true) v3 v4 v5 v6 v7 h
noncomputable def f59.b10 (I : Inp) (call : CallFn) (j : f59.Js) (v3 v4 v6 v7 : AVal) (h : AHeap) : Rs :=
  j.1.2.2.1 v3 v4 (.bool .true) v6 v7 h
noncomputable def f59.b11 (I : Inp) (call : CallFn) (j : f59.Js) (v2 v3 v4 v5 v6 : AVal) (h : AHeap) : Rs :=
  j.1.1.1.2.1 v2 v3 v4 v5 v6 h
noncomputable def f59.b12 (I : Inp) (call : CallFn) (j : f59.Js) (v1 v2 v3 v4 v5 v6 v7 v9 : AVal) (h : AHeap) : Rs :=
  bndP (pBin .eql v9 (Z 3)) fun v14 =>
  sCond v14 (
  bndP (pBin .eql v9 (Z 4)) fun v15 =>
  sCond v15 (
  bndP (pBin .eql v9 (Z 5)) fun v16 =>
  j.2.1.2.1 v1 v2 v3 v4 v5 v6 v7 v9 v16 h) (
  j.2.1.2.1 v1 v2 v3 v4 v5 v6 v7 v9 v15 h)) (
  j.2.1.2.1 v1 v2 v3 v4 v5 v6 v7 v9 v14 h)
noncomputable def f59.b13 (I : Inp) (call : CallFn) (j : f59.Js) (v1 v2 v3 v4 v5 v6 v7 v9 v10 : AVal) (h : AHeap) : Rs :=
  sCond v10 (
  j.2.1.1.1 v1 v2 v3 v4 v5 v6 v7 v9 h) (
  j.1.2.2.2.1 v3 v4 v6 v7 h)
noncomputable def f59.b14 (I : Inp) (call : CallFn) (j : f59.Js) (v1 v2 v3 v4 v5 v6 v7 v9 : AVal) (h : AHeap) : Rs :=
  bndP (pBin .eql v9 (Z 2)) fun v18 =>
  sCond v18 (
  j.2.1.2.2.1 v1 v2 v3 v4 v5 v6 v7 v9 h) (
  j.1.2.1.2.2 v5 v6 v7 h)
noncomputable def f59.b15 (I : Inp) (call : CallFn) (j : f59.Js) (v1 v2 v3 v4 v5 v6 v7 v9 v13 : AVal) (h : AHeap) : Rs :=
  sCond v13 (
  j.2.1.1.2.2 v1 v2 v3 v4 v5 v6 v7 v9 h) (
  j.1.2.2.1 v3 v4 v5 v6 v7 h)
noncomputable def f59.b16 (I : Inp) (call : CallFn) (j : f59.Js) (v1 v2 v3 v4 v5 v6 v7 v9 : AVal) (h : AHeap) : Rs :=
  bndP (pBin .eql v9 (Z 6)) fun v20 =>
  sCond v20 (
  bndP (pBin .eql v9 (Z 11)) fun v21 =>
  j.2.2.1.1 v1 v2 v3 v4 v5 v6 v7 v9 v21 h) (
  j.2.2.1.1 v1 v2 v3 v4 v5 v6 v7 v9 v20 h)
noncomputable def f59.b17 (I : Inp) (call : CallFn) (j : f59.Js) (v1 v2 v3 v4 v5 v6 v7 v9 : AVal) (h : AHeap) : Rs :=
  bndP (pBin .eql v9 (Z 7)) fun v23 =>
  sCond v23 (
  j.2.2.1.2.1 v1 v2 v3 v4 v5 v6 v7 v9 h) (
  j.1.2.1.1 v4 v6 v7 h)
noncomputable def f59.b18 (I : Inp) (call : CallFn) (j : f59.Js) (v1 v2 v3 v4 v5 v6 v7 v9 v19 : AVal) (h : AHeap) : Rs :=
  sCond v19 (
  j.2.1.2.2.2 v1 v2 v3 v4 v5 v6 v7 v9 h) (
  j.1.2.1.2.1 v4 v5 v6 v7 h)
noncomputable def f59.b19 (I : Inp) (call : CallFn) (j : f59.Js) (v1 v2 v3 v4 v5 v6 v7 v9 : AVal) (h : AHeap) : Rs :=
  bndP (pBin .eql v9 (Z 8)) fun v25 =>
  sCond v25 (
  j.2.2.1.2.2 v1 v2 v3 v4 v5 v6 v7 v9 h) (
  j.1.1.2.2.2 v2 v6 v7 h)
noncomputable def f59.b20 (I : Inp) (call : CallFn) (j : f59.Js) (v1 v2 v3 v4 v5 v6 v7 v9 : AVal) (h : AHeap) : Rs :=
  bndP (pBin .eql v9 (Z 9)) fun v27 =>
  sCond v27 (
  bndP (pBin .eql v9 (Z 15)) fun v28 =>
  j.2.2.2.1.2 v1 v2 v3 v4 v5 v6 v7 v9 v28 h) (
  j.2.2.2.1.2 v1 v2 v3 v4 v5 v6 v7 v9 v27 h)
noncomputable def f59.b21 (I : Inp) (call : CallFn) (j : f59.Js) (v1 v2 v3 v4 v5 v6 v7 v9 : AVal) (h : AHeap) : Rs :=
  bndP (pBin .eql v9 (Z 14)) fun v30 =>
  sCond v30 (
  bndP (pBin .eql v9 (Z 13)) fun v31 =>
  j.2.2.2.2.2 v1 v2 v3 v4 v5 v6 v7 v9 v31 h) (
  j.2.2.2.2.2 v1 v2 v3 v4 v5 v6 v7 v9 v30 h)
noncomputable def f59.b22 (I : Inp) (call : CallFn) (j : f59.Js) (v1 v2 v3 v4 v5 v6 v7 v9 v26 : AVal) (h : AHeap) : Rs :=
  sCond v26 (
  j.2.2.2.1.1 v1 v2 v3 v4 v5 v6 v7 v9 h) (
  j.1.1.2.2.1 v2 v4 v5 v6 v7 h)
noncomputable def f59.b23 (I : Inp) (call : CallFn) (j : f59.Js) (v1 v2 v3 v4 v5 v6 v7 v9 : AVal) (h : AHeap) : Rs :=
  bndP (pBin .eql v9 (Z 12)) fun v33 =>
  sCond v33 (
  j.1.2.2.2.2 v2 v3 v4 v5 v6 h) (
  j.1.1.1.2.2 v1 v3 v4 v7 h)
noncomputable def f59.b24 (I : Inp) (call : CallFn) (j : f59.Js) (v1 v2 v3 v4 v5 v6 v7 v9 v29 : AVal) (h : AHeap) : Rs :=
  sCond v29 (
  j.2.2.2.2.1 v1 v2 v3 v4 v5 v6 v7 v9 h) (
  j.1.1.2.1 v1 v4 v7 h)
noncomputable def f59.e (I : Inp) (call : CallFn) (j : f59.Js) (v0 : AVal) (h : AHeap) : Rs :=
  bnd (sBox v0 h) fun v1 h1 =>
  bndP (pFieldAddr 0 v1) fun v8 =>
  bndP (pLoad1 I v8 h1) fun v9 =>
  bndP (pBin .eql v9 (Z 1)) fun v11 =>
  sCond v11 (
  bndP (pBin .eql v9 (Z 10)) fun v12 =>
  j.2.1.1.2.1 v1 (.bool .false) (.bool .false) (.bool .false) (.bool .false) (.bool .false) (.bool .true) v9 v12 h1) (
  j.2.1.1.2.1 v1 (.bool .false) (.bool .false) (.bool .false) (.bool .false) (.bool .false) (.bool .true) v9 v11 h1)
noncomputable def f59.J (I : Inp) (call : CallFn) (n : Nat) : f59.Js :=
  Nat.rec (motive := fun _ => f59.Js) (((((fun _ _ _ _ _ _ _ => none), ((fun _ _ _ _ _ _ => none), (fun _ _ _ _ _ => none))), ((fun _ _ _ _ => none), ((fun _ _ _ _ _ _ => none), (fun _ _ _ _ => none)))), (((fun _ _ _ _ => none), ((fun _ _ _ _ _ => none), (fun _ _ _ _ => none))), ((fun _ _ _ _ _ _ => none), ((fun _ _ _ _ _ => none), (fun _ _ _ _ _ _ => none))))), ((((fun _ _ _ _ _ _ _ _ _ => none), ((fun _ _ _ _ _ _ _ _ _ _ => none), (fun _ _ _ _ _ _ _ _ _ => none))), ((fun _ _ _ _ _ _ _ _ _ _ => none), ((fun _ _ _ _ _ _ _ _ _ => none), (fun _ _ _ _ _ _ _ _ _ => none)))), (((fun _ _ _ _ _ _ _ _ _ _ => none), ((fun _ _ _ _ _ _ _ _ _ => none), (fun _ _ _ _ _ _ _ _ _ => none))), (((fun _ _ _ _ _ _ _ _ _ => none), (fun _ _ _ _ _ _ _ _ _ _ => none)), ((fun _ _ _ _ _ _ _ _ _ => none), (fun _ _ _ _ _ _ _ _ _ _ => none)))))) (fun _ ih => ((((f59.b0 I call ih, (f59.b1 I call ih, f59.b2 I call ih)), (f59.b3 I call ih, (f59.b4 I call ih, f59.b5 I call ih))), ((f59.b6 I call ih, (f59.b7 I call ih, f59.b8 I call ih)), (f59.b9 I call ih, (f59.b10 I call ih, f59.b11 I call ih)))), (((f59.b12 I call ih, (f59.b13 I call ih, f59.b14 I call ih)), (f59.b15 I call ih, (f59.b16 I call ih, f59.b17 I call ih))), ((f59.b18 I call ih, (f59.b19 I call ih, f59.b20 I call ih)), ((f59.b21 I call ih, f59.b22 I call ih), (f59.b23 I call ih, f59.b24 I call ih)))))) n
theorem f59.n0 (I : Inp) (call : CallFn) (n : Nat) : (f59.J I call (n + 1)).1.1.1.1 = f59.b0 I call (f59.J I call n) := Eq.trans rfl rfl
theorem f59.n1 (I : Inp) (call : CallFn) (n : Nat) : (f59.J I call (n + 1)).1.1.1.2.1 = f59.b1 I call (f59.J I call n) := Eq.trans rfl rfl
theorem f59.n2 (I : Inp) (call : CallFn) (n : Nat) : (f59.J I call (n + 1)).1.1.1.2.2 = f59.b2 I call (f59.J I call n) := Eq.trans rfl rfl
theorem f59.n3 (I : Inp) (call : CallFn) (n : Nat) : (f59.J I call (n + 1)).1.1.2.1 = f59.b3 I call (f59.J I call n) := Eq.trans rfl rfl
theorem f59.n4 (I : Inp) (call : CallFn) (n : Nat) : (f59.J I call (n + 1)).1.1.2.2.1 = f59.b4 I call (f59.J I call n) := Eq.trans rfl rfl
theorem f59.n5 (I : Inp) (call : CallFn) (n : Nat) : (f59.J I call (n + 1)).1.1.2.2.2 = f59.b5 I call (f59.J I call n) := Eq.trans rfl rfl
theorem f59.n6 (I : Inp) (call : CallFn) (n : Nat) : (f59.J I call (n + 1)).1.2.1.1 = f59.b6 I call (f59.J I call n) := Eq.trans rfl rfl
theorem f59.n7 (I : Inp) (call : CallFn) (n : Nat) : (f59.J I call (n + 1)).1.2.1.2.1 = f59.b7 I call (f59.J I call n) := Eq.trans rfl rfl
theorem f59.n8 (I : Inp) (call : CallFn) (n : Nat) : (f59.J I call (n + 1)).1.2.1.2.2 = f59.b8 I call (f59.J I call n) := Eq.trans rfl rfl
theorem f59.n9 (I : Inp) (call : CallFn) (n : Nat) : (f59.J I call (n + 1)).1.2.2.1 = f59.b9 I call (f59.J I call n) := Eq.trans rfl rfl
theorem f59.n10 (I : Inp) (call : CallFn) (n : Nat) : (f59.J I call (n + 1)).1.2.2.2.1 = f59.b10 I call (f59.J I call n) := Eq.trans rfl rfl
theorem f59.n11 (I : Inp) (call : CallFn) (n : Nat) : (f59.J I call (n + 1)).1.2.2.2.2 = f59.b11 I call (f59.J I call n) := Eq.trans rfl rfl
theorem f59.n12 (I : Inp) (call : CallFn) (n : Nat) : (f59.J I call (n + 1)).2.1.1.1 = f59.b12 I call (f59.J I call n) := Eq.trans rfl rfl
theorem f59.n13 (I : Inp) (call : CallFn) (n : Nat) : (f59.J I call (n + 1)).2.1.1.2.1 = f59.b13 I call (f59.J I call n) := Eq.trans rfl rfl
theorem f59.n14 (I : Inp) (call : CallFn) (n : Nat) : (f59.J I call (n + 1)).2.1.1.2.2 = f59.b14 I call (f59.J I call n) := Eq.trans rfl rfl
theorem f59.n15 (I : Inp) (call : CallFn) (n : Nat) : (f59.J I call (n + 1)).2.1.2.1 = f59.b15 I call (f59.J I call n) := Eq.trans rfl rfl
theorem f59.n16 (I : Inp) (call : CallFn) (n : Nat) : (f59.J I call (n + 1)).2.1.2.2.1 = f59.b16 I call (f59.J I call n) := Eq.trans rfl rfl
theorem f59.n17 (I : Inp) (call : CallFn) (n : Nat) : (f59.J I call (n + 1)).2.1.2.2.2 = f59.b17 I call (f59.J I call n) := Eq.trans rfl rfl
theorem f59.n18 (I : Inp) (call : CallFn) (n : Nat) : (f59.J I call (n + 1)).2.2.1.1 = f59.b18 I call (f59.J I call n) := Eq.trans rfl rfl
theorem f59.n19 (I : Inp) (call : CallFn) (n : Nat) : (f59.J I call (n + 1)).2.2.1.2.1 = f59.b19 I call (f59.J I call n) := Eq.trans rfl rfl
theorem f59.n20 (I : Inp) (call : CallFn) (n : Nat) : (f59.J I call (n + 1)).2.2.1.2.2 = f59.b20 I call (f59.J I call n) := Eq.trans rfl rfl
theorem f59.n21 (I : Inp) (call : CallFn) (n : Nat) : (f59.J I call (n + 1)).2.2.2.1.1 = f59.b21 I call (f59.J I call n) := Eq.trans rfl rfl
theorem f59.n22 (I : Inp) (call : CallFn) (n : Nat) : (f59.J I call (n + 1)).2.2.2.1.2 = f59.b22 I call (f59.J I call n) := Eq.trans rfl rfl
theorem f59.n23 (I : Inp) (call : CallFn) (n : Nat) : (f59.J I call (n + 1)).2.2.2.2.1 = f59.b23 I call (f59.J I call n) := Eq.trans rfl rfl
theorem f59.n24 (I : Inp) (call : CallFn) (n : Nat) : (f59.J I call (n + 1)).2.2.2.2.2 = f59.b24 I call (f59.J I call n) := Eq.trans rfl rfl
noncomputable def f59.JS (I : Inp) (call : CallFn) (n : Nat) : Jmp := fun id ρ h =>
  (Bool.rec (motive := fun _ => _) (Bool.rec (motive := fun _ => _) (Bool.rec (motive := fun _ => _) (Bool.rec (motive := fun _ => _) (Bool.rec (motive := fun _ => _) ((f59.J I call n).2.2.2.2.2 (ρ 1) (ρ 2) (ρ 3) (ρ 4) (ρ 5) (ρ 6) (ρ 7) (ρ 9) (ρ 29) h) ((f59.J I call n).2.2.2.2.1 (ρ 1) (ρ 2) (ρ 3) (ρ 4) (ρ 5) (ρ 6) (ρ 7) (ρ 9) h) (Nat.blt id 24)) (Bool.rec (motive := fun _ => _) ((f59.J I call n).2.2.2.1.2 (ρ 1) (ρ 2) (ρ 3) (ρ 4) (ρ 5) (ρ 6) (ρ 7) (ρ 9) (ρ 26) h) ((f59.J I call n).2.2.2.1.1 (ρ 1) (ρ 2) (ρ 3) (ρ 4) (ρ 5) (ρ 6) (ρ 7) (ρ 9) h) (Nat.blt id 22)) (Nat.blt id 23)) (Bool.rec (motive := fun _ => _) (Bool.rec (motive := fun _ => _) ((f59.J I call n).2.2.1.2.2 (ρ 1) (ρ 2) (ρ 3) (ρ 4) (ρ 5) (ρ 6) (ρ 7) (ρ 9) h) ((f59.J I call n).2.2.1.2.1 (ρ 1) (ρ 2) (ρ 3) (ρ 4) (ρ 5) (ρ 6) (ρ 7) (ρ 9) h) (Nat.blt id 20)) ((f59.J I call n).2.2.1.1 (ρ 1) (ρ 2) (ρ 3) (ρ 4) (ρ 5) (ρ 6) (ρ 7) (ρ 9) (ρ 19) h) (Nat.blt id 19)) (Nat.blt id 21)) (Bool.rec (motive := fun _ => _) (Bool.rec (motive := fun _ => _) (Bool.rec (motive := fun _ => _) ((f59.J I call n).2.1.2.2.2 (ρ 1) (ρ 2) (ρ 3) (ρ 4) (ρ 5) (ρ 6) (ρ 7) (ρ 9) h) ((f59.J I call n).2.1.2.2.1 (ρ 1) (ρ 2) (ρ 3) (ρ 4) (ρ 5) (ρ 6) (ρ 7) (ρ 9) h) (Nat.blt id 17)) ((f59.J I call n).2.1.2.1 (ρ 1) (ρ 2) (ρ 3) (ρ 4) (ρ 5) (ρ 6) (ρ 7) (ρ 9) (ρ 13) h) (Nat.blt id 16)) (Bool.rec (motive := fun _ => _) (Bool.rec (motive := fun _ => _) ((f59.J I call n).2.1.1.2.2 (ρ 1) (ρ 2) (ρ 3) (ρ 4) (ρ 5) (ρ 6) (ρ 7) (ρ 9) h) ((f59.J I call n).2.1.1.2.1 (ρ 1) (ρ 2) (ρ 3) (ρ 4) (ρ 5) (ρ 6) (ρ 7) (ρ 9) (ρ 10) h) (Nat.blt id 14)) ((f59.J I call n).2.1.1.1 (ρ 1) (ρ 2) (ρ 3) (ρ 4) (ρ 5) (ρ 6) (ρ 7) (ρ 9) h) (Nat.blt id 13)) (Nat.blt id 15)) (Nat.blt id 18)) (Bool.rec (motive := fun _ => _) (Bool.rec (motive := fun _ => _) (Bool.rec (motive := fun _ => _) (Bool.rec (motive := fun _ => _) ((f59.J I call n).1.2.2.2.2 (ρ 2) (ρ 3) (ρ 4) (ρ 5) (ρ 6) h) ((f59.J I call n).1.2.2.2.1 (ρ 3) (ρ 4) (ρ 6) (ρ 7) h) (Nat.blt id 11)) ((f59.J I call n).1.2.2.1 (ρ 3) (ρ 4) (ρ 5) (ρ 6) (ρ 7) h) (Nat.blt id 10)) (Bool.rec (motive := fun _ => _) (Bool.rec (motive := fun _ => _) ((f59.J I call n).1.2.1.2.2 (ρ 5) (ρ 6) (ρ 7) h) ((f59.J I call n).1.2.1.2.1 (ρ 4) (ρ 5) (ρ 6) (ρ 7) h) (Nat.blt id 8)) ((f59.J I call n).1.2.1.1 (ρ 4) (ρ 6) (ρ 7) h) (Nat.blt id 7)) (Nat.blt id 9)) (Bool.rec (motive := fun _ => _) (Bool.rec (motive := fun _ => _) (Bool.rec (motive := fun _ => _) ((f59.J I call n).1.1.2.2.2 (ρ 2) (ρ 6) (ρ 7) h) ((f59.J I call n).1.1.2.2.1 (ρ 2) (ρ 4) (ρ 5) (ρ 6) (ρ 7) h) (Nat.blt id 5)) ((f59.J I call n).1.1.2.1 (ρ 1) (ρ 4) (ρ 7) h) (Nat.blt id 4)) (Bool.rec (motive := fun _ => _) (Bool.rec (motive := fun _ => _) ((f59.J I call n).1.1.1.2.2 (ρ 1) (ρ 3) (ρ 4) (ρ 7) h) ((f59.J I call n).1.1.1.2.1 (ρ 2) (ρ 3) (ρ 4) (ρ 5) (ρ 6) h) (Nat.blt id 2)) ((f59.J I call n).1.1.1.1 (ρ 2) (ρ 3) (ρ 4) (ρ 5) (ρ 6) (ρ 7) h) (Nat.blt id 1)) (Nat.blt id 3)) (Nat.blt id 6)) (Nat.blt id 12))
theorem f59.q0 (I : Inp) (call : CallFn) (n : Nat) (ρ : Fun) (h : AHeap) : f59.JS I call (n + 1) 0 ρ h = labC P I call (f59.JS I call n) c59.body 0 (finV I c59.results) 0 ρ h := by kernel_rfl
theorem f59.q1 (I : Inp) (call : CallFn) (n : Nat) (ρ : Fun) (h : AHeap) : f59.JS I call (n + 1) 1 ρ h = labC P I call (f59.JS I call n) c59.body 0 (finV I c59.results) 1 ρ h := by kernel_rfl
theorem f59.q2 (I : Inp) (call : CallFn) (n : Nat) (ρ : Fun) (h : AHeap) : f59.JS I call (n + 1) 2 ρ h = labC P I call (f59.JS I call n) c59.body 0 (finV I c59.results) 2 ρ h := by kernel_rfl
theorem f59.q3 (I : Inp) (call : CallFn) (n : Nat) (ρ : Fun) (h : AHeap) : f59.JS I call (n + 1) 3 ρ h = labC P I call (f59.JS I call n) c59.body 0 (finV I c59.results) 3 ρ h := by kernel_rfl
theorem f59.q4 (I : Inp) (call : CallFn) (n : Nat) (ρ : Fun) (h : AHeap) : f59.JS I call (n + 1) 4 ρ h = labC P I call (f59.JS I call n) c59.body 0 (finV I c59.results) 4 ρ h := by kernel_rfl
theorem f59.q5 (I : Inp) (call : CallFn) (n : Nat) (ρ : Fun) (h : AHeap) : f59.JS I call (n + 1) 5 ρ h = labC P I call (f59.JS I call n) c59.body 0 (finV I c59.results) 5 ρ h := by kernel_rfl
theorem f59.q6 (I : Inp) (call : CallFn) (n : Nat) (ρ : Fun) (h : AHeap) : f59.JS I call (n + 1) 6 ρ h = labC P I call (f59.JS I call n) c59.body 0 (finV I c59.results) 6 ρ h := by kernel_rfl
theorem f59.q7 (I : Inp) (call : CallFn) (n : Nat) (ρ : Fun) (h : AHeap) : f59.JS I call (n + 1) 7 ρ h = labC P I call (f59.JS I call n) c59.body 0 (finV I c59.results) 7 ρ h := by kernel_rfl
theorem f59.q8 (I : Inp) (call : CallFn) (n : Nat) (ρ : Fun) (h : AHeap) : f59.JS I call (n + 1) 8 ρ h = labC P I call (f59.JS I call n) c59.body 0 (finV I c59.results) 8 ρ h := by kernel_rfl
theorem f59.q9 (I : Inp) (call : CallFn) (n : Nat) (ρ : Fun) (h : AHeap) : f59.JS I call (n + 1) 9 ρ h = labC P I call (f59.JS I call n) c59.body 0 (finV I c59.results) 9 ρ h := by kernel_rfl
theorem f59.q10 (I : Inp) (call : CallFn) (n : Nat) (ρ : Fun) (h : AHeap) : f59.JS I call (n + 1) 10 ρ h = labC P I call (f59.JS I call n) c59.body 0 (finV I c59.results) 10 ρ h := by kernel_rfl
theorem f59.q11 (I : Inp) (call : CallFn) (n : Nat) (ρ : Fun) (h : AHeap) : f59.JS I call (n + 1) 11 ρ h = labC P I call (f59.JS I call n) c59.body 0 (finV I c59.results) 11 ρ h := by kernel_rfl
theorem f59.q12 (I : Inp) (call : CallFn) (n : Nat) (ρ : Fun) (h : AHeap) : f59.JS I call (n + 1) 12 ρ h = labC P I call (f59.JS I call n) c59.body 0 (finV I c59.results) 12 ρ h := by kernel_rfl
theorem f59.q13 (I : Inp) (call : CallFn) (n : Nat) (ρ : Fun) (h : AHeap) : f59.JS I call (n + 1) 13 ρ h = labC P I call (f59.JS I call n) c59.body 0 (finV I c59.results) 13 ρ h := by kernel_rfl
theorem f59.q14 (I : Inp) (call : CallFn) (n : Nat) (ρ : Fun) (h : AHeap) : f59.JS I call (n + 1) 14 ρ h = labC P I call (f59.JS I call n) c59.body 0 (finV I c59.results) 14 ρ h := by kernel_rfl
theorem f59.q15 (I : Inp) (call : CallFn) (n : Nat) (ρ : Fun) (h : AHeap) : f59.JS I call (n + 1) 15 ρ h = labC P I call (f59.JS I call n) c59.body 0 (finV I c59.results) 15 ρ h := by kernel_rfl
theorem f59.q16 (I : Inp) (call : CallFn) (n : Nat) (ρ : Fun) (h : AHeap) : f59.JS I call (n + 1) 16 ρ h = labC P I call (f59.JS I call n) c59.body 0 (finV I c59.results) 16 ρ h := by kernel_rfl
theorem f59.q17 (I : Inp) (call : CallFn) (n : Nat) (ρ : Fun) (h : AHeap) : f59.JS I call (n + 1) 17 ρ h = labC P I call (f59.JS I call n) c59.body 0 (finV I c59.results) 17 ρ h := by kernel_rfl
theorem f59.q18 (I : Inp) (call : CallFn) (n : Nat) (ρ : Fun) (h : AHeap) : f59.JS I call (n + 1) 18 ρ h = labC P I call (f59.JS I call n) c59.body 0 (finV I c59.results) 18 ρ h := by kernel_rfl
theorem f59.q19 (I : Inp) (call : CallFn) (n : Nat) (ρ : Fun) (h : AHeap) : f59.JS I call (n + 1) 19 ρ h = labC P I call (f59.JS I call n) c59.body 0 (finV I c59.results) 19 ρ h := by kernel_rfl
theorem f59.q20 (I : Inp) (call : CallFn) (n : Nat) (ρ : Fun) (h : AHeap) : f59.JS I call (n + 1) 20 ρ h = labC P I call (f59.JS I call n) c59.body 0 (finV I c59.results) 20 ρ h := by kernel_rfl
theorem f59.q21 (I : Inp) (call : CallFn) (n : Nat) (ρ : Fun) (h : AHeap) : f59.JS I call (n + 1) 21 ρ h = labC P I call (f59.JS I call n) c59.body 0 (finV I c59.results) 21 ρ h := by kernel_rfl
theorem f59.q22 (I : Inp) (call : CallFn) (n : Nat) (ρ : Fun) (h : AHeap) : f59.JS I call (n + 1) 22 ρ h = labC P I call (f59.JS I call n) c59.body 0 (finV I c59.results) 22 ρ h := by kernel_rfl
theorem f59.q23 (I : Inp) (call : CallFn) (n : Nat) (ρ : Fun) (h : AHeap) : f59.JS I call (n + 1) 23 ρ h = labC P I call (f59.JS I call n) c59.body 0 (finV I c59.results) 23 ρ h := by kernel_rfl
theorem f59.q24 (I : Inp) (call : CallFn) (n : Nat) (ρ : Fun) (h : AHeap) : f59.JS I call (n + 1) 24 ρ h = labC P I call (f59.JS I call n) c59.body 0 (finV I c59.results) 24 ρ h := by kernel_rfl
theorem f59.S (I : Inp) (F : Nat → Option AFn) (call : CallFn) : SFn ⟨P, I, F⟩ call c59 (f59.JS I call) :=
  ⟨fun id hid ρ h => by
    have hc : c59.body.cnt = 25 := by kernel_rfl
    rw [hc] at hid
    exact match id, hid with
    | 0, _ => rfl
    | 1, _ => rfl
    | 2, _ => rfl
    | 3, _ => rfl
    | 4, _ => rfl
    | 5, _ => rfl
    | 6, _ => rfl
    | 7, _ => rfl
    | 8, _ => rfl
    | 9, _ => rfl
    | 10, _ => rfl
    | 11, _ => rfl
    | 12, _ => rfl
    | 13, _ => rfl
    | 14, _ => rfl
    | 15, _ => rfl
    | 16, _ => rfl
    | 17, _ => rfl
    | 18, _ => rfl
    | 19, _ => rfl
    | 20, _ => rfl
    | 21, _ => rfl
    | 22, _ => rfl
    | 23, _ => rfl
    | 24, _ => rfl
    | id + 25, hid => absurd hid (by omega), fun n id hid ρ h => by
    have hc : c59.body.cnt = 25 := by kernel_rfl
    rw [hc] at hid
    exact match id, hid with
    | 0, _ => f59.q0 I call n ρ h
    | 1, _ => f59.q1 I call n ρ h
    | 2, _ => f59.q2 I call n ρ h
    | 3, _ => f59.q3 I call n ρ h
    | 4, _ => f59.q4 I call n ρ h
    | 5, _ => f59.q5 I call n ρ h
    | 6, _ => f59.q6 I call n ρ h
    | 7, _ => f59.q7 I call n ρ h
    | 8, _ => f59.q8 I call n ρ h
    | 9, _ => f59.q9 I call n ρ h
    | 10, _ => f59.q10 I call n ρ h
    | 11, _ => f59.q11 I call n ρ h
    | 12, _ => f59.q12 I call n ρ h
    | 13, _ => f59.q13 I call n ρ h
    | 14, _ => f59.q14 I call n ρ h
    | 15, _ => f59.q15 I call n ρ h
    | 16, _ => f59.q16 I call n ρ h
    | 17, _ => f59.q17 I call n ρ h
    | 18, _ => f59.q18 I call n ρ h
    | 19, _ => f59.q19 I call n ρ h
    | 20, _ => f59.q20 I call n ρ h
    | 21, _ => f59.q21 I call n ρ h
    | 22, _ => f59.q22 I call n ρ h
    | 23, _ => f59.q23 I call n ρ h
    | 24, _ => f59.q24 I call n ρ h
    | id + 25, hid => absurd hid (by omega)⟩
noncomputable def f59.run (I : Inp) : SF := fun call n a h =>
  match a with
  | [v0] => f59.e I call (f59.J I call n) v0 h
  | _ => none
theorem f59.qe (I : Inp) (call : CallFn) (n : Nat) (v0 : AVal) (h : AHeap) : f59.e I call (f59.J I call n) v0 h = execC P I call (f59.JS I call n) c59.body 0 (finV I c59.results) (argV [v0]) h := by kernel_rfl
theorem f59.code : codeOf P 59 = some c59 := by kernel_rfl
theorem f59.ok (I : Inp) (F : Nat → Option AFn) (hF : F 59 = some (.code c59)) : SfOk P I F 59 (f59.run I) := by
  intro call hc n args h r hr
  unfold f59.run at hr
  split at hr
  · exact fn_sound (C := ⟨P, I, F⟩) (n := n) hc hF (Nat.le_of_ble_eq_true (by kernel_rfl)) (by kernel_rfl) (f59.S I F call) (by kernel_rfl) ((f59.qe I call n _ h).symm.trans hr)
  · cases hr
theorem f59.qr (I : Inp) (call : CallFn) (n : Nat) (v0 : AVal) (h : AHeap) : f59.run I call n [v0] h = f59.e I call (f59.J I call n) v0 h := by kernel_rfl
theorem f59.lim {I : Inp} {prims : Nat → Option Prim} (hp : prims 59 = none) {n : Nat} {v0 : AVal} {h : AHeap} {Q : AVal → AHeap → Prop} (hr : Res (f59.e I (AM.lim ⟨P, I, genF P prims⟩) (f59.J I (AM.lim ⟨P, I, genF P prims⟩) n) v0 h) Q) :
    Res (AM.lim ⟨P, I, genF P prims⟩ 59 [v0] h) Q := by
  obtain ⟨v, h', e, q⟩ := hr
  exact ⟨v, h', lim_sf (C := ⟨P, I, genF P prims⟩) (n := n) (f59.ok I (genF P prims) (genF_code hp f59.code)) ((f59.qr I _ n v0 h).trans e), q⟩
/-! haruspex/types.reg -/
noncomputable def c60 : AFunc := (AFunc.mk 13 3 [(.tmp 6)] (.seq (.region [(S 6 (.move (.val (.bool .false))) .none)]) (.seq (.seq (.region [(M 7 0)]) (.cond (T 7) (.seq (.region [(M 8 1), (M 9 2), (S 10 (.call 25 [(T 8), (T 9)]) .none), (M 6 10)]) .ret) .skip)) (.seq (.region [(M 11 1), (S 12 (.bin .eql (T 11) (V 0)) .none), (M 6 12)]) .ret))))
abbrev f60.Js : Type := (AVal → AHeap → Rs)
noncomputable def f60.b0 (I : Inp) (call : CallFn) (j : f60.Js) (v1 : AVal) (h : AHeap) : Rs :=
  bndP (pBin .eql v1 (Z 0)) fun v12 =>
  some (v12, h)
noncomputable def f60.e (I : Inp) (call : CallFn) (j : f60.Js) (v0 v1 v2 : AVal) (h : AHeap) : Rs :=
  sCond v0 (
  j v1 h) (
  bnd (call 25 [v1, v2] h) fun v10 h1 =>
  some (v10, h1))
noncomputable def f60.J (I : Inp) (call : CallFn) (n : Nat) : f60.Js :=
  Nat.rec (motive := fun _ => f60.Js) (fun _ _ => none) (fun _ ih => f60.b0 I call ih) n
theorem f60.n0 (I : Inp) (call : CallFn) (n : Nat) : (f60.J I call (n + 1)) = f60.b0 I call (f60.J I call n) := Eq.trans rfl rfl
noncomputable def f60.JS (I : Inp) (call : CallFn) (n : Nat) : Jmp := fun id ρ h =>
  ((f60.J I call n) (ρ 1) h)
theorem f60.q0 (I : Inp) (call : CallFn) (n : Nat) (ρ : Fun) (h : AHeap) : f60.JS I call (n + 1) 0 ρ h = labC P I call (f60.JS I call n) c60.body 0 (finV I c60.results) 0 ρ h := by kernel_rfl
theorem f60.S (I : Inp) (F : Nat → Option AFn) (call : CallFn) : SFn ⟨P, I, F⟩ call c60 (f60.JS I call) :=
  ⟨fun id hid ρ h => by
    have hc : c60.body.cnt = 1 := by kernel_rfl
    rw [hc] at hid
    exact match id, hid with
    | 0, _ => rfl
    | id + 1, hid => absurd hid (by omega), fun n id hid ρ h => by
    have hc : c60.body.cnt = 1 := by kernel_rfl
    rw [hc] at hid
    exact match id, hid with
    | 0, _ => f60.q0 I call n ρ h
    | id + 1, hid => absurd hid (by omega)⟩
noncomputable def f60.run (I : Inp) : SF := fun call n a h =>
  match a with
  | [v0, v1, v2] => f60.e I call (f60.J I call n) v0 v1 v2 h
  | _ => none
theorem f60.qe (I : Inp) (call : CallFn) (n : Nat) (v0 v1 v2 : AVal) (h : AHeap) : f60.e I call (f60.J I call n) v0 v1 v2 h = execC P I call (f60.JS I call n) c60.body 0 (finV I c60.results) (argV [v0, v1, v2]) h := by kernel_rfl
theorem f60.code : codeOf P 60 = some c60 := by kernel_rfl
theorem f60.ok (I : Inp) (F : Nat → Option AFn) (hF : F 60 = some (.code c60)) : SfOk P I F 60 (f60.run I) := by
  intro call hc n args h r hr
  unfold f60.run at hr
  split at hr
  · exact fn_sound (C := ⟨P, I, F⟩) (n := n) hc hF (Nat.le_of_ble_eq_true (by kernel_rfl)) (by kernel_rfl) (f60.S I F call) (by kernel_rfl) ((f60.qe I call n _ _ _ h).symm.trans hr)
  · cases hr
theorem f60.qr (I : Inp) (call : CallFn) (n : Nat) (v0 v1 v2 : AVal) (h : AHeap) : f60.run I call n [v0, v1, v2] h = f60.e I call (f60.J I call n) v0 v1 v2 h := by kernel_rfl
theorem f60.lim {I : Inp} {prims : Nat → Option Prim} (hp : prims 60 = none) {n : Nat} {v0 v1 v2 : AVal} {h : AHeap} {Q : AVal → AHeap → Prop} (hr : Res (f60.e I (AM.lim ⟨P, I, genF P prims⟩) (f60.J I (AM.lim ⟨P, I, genF P prims⟩) n) v0 v1 v2 h) Q) :
    Res (AM.lim ⟨P, I, genF P prims⟩ 60 [v0, v1, v2] h) Q := by
  obtain ⟨v, h', e, q⟩ := hr
  exact ⟨v, h', lim_sf (C := ⟨P, I, genF P prims⟩) (n := n) (f60.ok I (genF P prims) (genF_code hp f60.code)) ((f60.qr I _ n v0 v1 v2 h).trans e), q⟩
/-! slices.IndexFunc[[]haruspex/api.Impl,haruspex/api.Impl] -/
noncomputable def c61 : AFunc := (AFunc.mk 19 2 [(.tmp 4)] (.seq (.region [(S 4 (.move (V 0)) .none)]) (.seq (.seq (.region [(M 6 0), (S 7 (.lenSl (T 6)) .none), (S 8 (.move (V 0)) .none)]) (.block 0 (.loop (.seq (.region [(S 9 (.bin .lss (T 8) (T 7)) .none)]) (.seq (.cond (T 9) .skip (.exit 0)) (.seq (.block 1 (.seq (.region [(M 10 8), (M 5 10)]) (.seq (.region [(M 11 1), (M 12 0), (M 13 5), (S 14 (.indexAddr 3 (T 12) (T 13)) .none), (S 15 (.loadN 3 (T 14)) .none), (S 16 (.callv (T 11) [(T 15)]) .none)]) (.cond (T 16) (.seq (.region [(M 17 5), (M 4 17)]) .ret) .skip)))) (.region [(S 18 (.bin .add (T 8) (V 1)) .none), (M 8 18)]))))))) (.seq (.region [(S 4 (.move (.val (.int .i64 (.negSucc 0)))) .none)]) .ret))))
abbrev f61.Js : Type := (((AHeap → Rs) × (AVal → AVal → AVal → AVal → AHeap → Rs)) × ((AVal → AVal → AVal → AVal → AHeap → Rs) × (AVal → AVal → AVal → AVal → AHeap → Rs)))
noncomputable def f61.b0 (I : Inp) (call : CallFn) (j : f61.Js) (h : AHeap) : Rs :=
  some ((.int .i64 (.negSucc 0)), h)
noncomputable def f61.b1 (I : Inp) (call : CallFn) (j : f61.Js) (v0 v1 v7 v8 : AVal) (h : AHeap) : Rs :=
  bndP (pBin .lss v8 v7) fun v9 =>
  sCond v9 (
  j.1.1 h) (
  j.2.1 v0 v1 v7 v8 h)
noncomputable def f61.b2 (I : Inp) (call : CallFn) (j : f61.Js) (v0 v1 v7 v8 : AVal) (h : AHeap) : Rs :=
  bndP (pIndexAddr 3 v0 v8) fun v14 =>
  bndP (pLoadN I 3 v14 h) fun v15 =>
  bnd (sCallv call v1 [v15] h) fun v16 h1 =>
  sCond v16 (
  j.2.2 v0 v1 v7 v8 h1) (
  some (v8, h1))
noncomputable def f61.b3 (I : Inp) (call : CallFn) (j : f61.Js) (v0 v1 v7 v8 : AVal) (h : AHeap) : Rs :=
  bndP (pBin .add v8 (Z 1)) fun v18 =>
  j.1.2 v0 v1 v7 v18 h
noncomputable def f61.e (I : Inp) (call : CallFn) (j : f61.Js) (v0 v1 : AVal) (h : AHeap) : Rs :=
  bndP (pLenSl v0) fun v7 =>
  j.1.2 v0 v1 v7 (Z 0) h
noncomputable def f61.J (I : Inp) (call : CallFn) (n : Nat) : f61.Js :=
  Nat.rec (motive := fun _ => f61.Js) (((fun _ => none), (fun _ _ _ _ _ => none)), ((fun _ _ _ _ _ => none), (fun _ _ _ _ _ => none))) (fun _ ih => ((f61.b0 I call ih, f61.b1 I call ih), (f61.b2 I call ih, f61.b3 I call ih))) n
noncomputable def f61.JS (I : Inp) (call : CallFn) (n : Nat) : Jmp := fun id ρ h =>
  (Bool.rec (motive := fun _ => _) (Bool.rec (motive := fun _ => _) ((f61.J I call n).2.2 (ρ 0) (ρ 1) (ρ 7) (ρ 8) h) ((f61.J I call n).2.1 (ρ 0) (ρ 1) (ρ 7) (ρ 8) h) (Nat.blt id 3)) (Bool.rec (motive := fun _ => _) ((f61.J I call n).1.2 (ρ 0) (ρ 1) (ρ 7) (ρ 8) h) ((f61.J I call n).1.1 h) (Nat.blt id 1)) (Nat.blt id 2))
theorem f61.q0 (I : Inp) (call : CallFn) (n : Nat) (ρ : Fun) (h : AHeap) : f61.JS I call (n + 1) 0 ρ h = labC P I call (f61.JS I call n) c61.body 0 (finV I c61.results) 0 ρ h := by kernel_rfl
theorem f61.q1 (I : Inp) (call : CallFn) (n : Nat) (ρ : Fun) (h : AHeap) : f61.JS I call (n + 1) 1 ρ h = labC P I call (f61.JS I call n) c61.body 0 (finV I c61.results) 1 ρ h := by kernel_rfl
theorem f61.q2 (I : Inp) (call : CallFn) (n : Nat) (ρ : Fun) (h : AHeap) : f61.JS I call (n + 1) 2 ρ h = labC P I call (f61.JS I call n) c61.body 0 (finV I c61.results) 2 ρ h := by kernel_rfl
theorem f61.q3 (I : Inp) (call : CallFn) (n : Nat) (ρ : Fun) (h : AHeap) : f61.JS I call (n + 1) 3 ρ h = labC P I call (f61.JS I call n) c61.body 0 (finV I c61.results) 3 ρ h := by kernel_rfl
theorem f61.S (I : Inp) (F : Nat → Option AFn) (call : CallFn) : SFn ⟨P, I, F⟩ call c61 (f61.JS I call) :=
  ⟨fun id hid ρ h => by
    have hc : c61.body.cnt = 4 := by kernel_rfl
    rw [hc] at hid
    exact match id, hid with
    | 0, _ => rfl
    | 1, _ => rfl
    | 2, _ => rfl
    | 3, _ => rfl
    | id + 4, hid => absurd hid (by omega), fun n id hid ρ h => by
    have hc : c61.body.cnt = 4 := by kernel_rfl
    rw [hc] at hid
    exact match id, hid with
    | 0, _ => f61.q0 I call n ρ h
    | 1, _ => f61.q1 I call n ρ h
    | 2, _ => f61.q2 I call n ρ h
    | 3, _ => f61.q3 I call n ρ h
    | id + 4, hid => absurd hid (by omega)⟩
noncomputable def f61.run (I : Inp) : SF := fun call n a h =>
  match a with
  | [v0, v1] => f61.e I call (f61.J I call n) v0 v1 h
  | _ => none
theorem f61.qe (I : Inp) (call : CallFn) (n : Nat) (v0 v1 : AVal) (h : AHeap) : f61.e I call (f61.J I call n) v0 v1 h = execC P I call (f61.JS I call n) c61.body 0 (finV I c61.results) (argV [v0, v1]) h := by kernel_rfl
theorem f61.code : codeOf P 61 = some c61 := by kernel_rfl
theorem f61.ok (I : Inp) (F : Nat → Option AFn) (hF : F 61 = some (.code c61)) : SfOk P I F 61 (f61.run I) := by
  intro call hc n args h r hr
  unfold f61.run at hr
  split at hr
  · exact fn_sound (C := ⟨P, I, F⟩) (n := n) hc hF (Nat.le_of_ble_eq_true (by kernel_rfl)) (by kernel_rfl) (f61.S I F call) (by kernel_rfl) ((f61.qe I call n _ _ h).symm.trans hr)
  · cases hr
/-! haruspex/types.Impl$1 -/
noncomputable def c62 : AFunc := (AFunc.mk 15 1 [(.tmp 4)] (.seq (.region [(S 3 (.box (T 0)) .none), (S 4 (.move (.val (.bool .false))) .none)]) (.seq (.region [(FA 5 0 3), (L1 6 5), (L1 7 1), (S 8 (.bin .eql (T 6) (T 7)) .none), (M 9 8), (S 10 (.fieldAddr 1 (T 3)) (.some (9, .true))), (S 11 (.load1 (T 10)) (.some (9, .true))), (S 12 (.load1 (T 2)) (.some (9, .true))), (S 13 (.bin .eql (T 11) (T 12)) (.some (9, .true))), (S 14 (.pick (T 9) (T 13) (.val (.bool .false))) .none), (M 4 14)]) .ret)))
abbrev f62.Js : Type := Unit
noncomputable def f62.e (I : Inp) (call : CallFn) (j : f62.Js) (v0 v1 v2 : AVal) (h : AHeap) : Rs :=
  bnd (sBox v0 h) fun v3 h1 =>
  bndP (pFieldAddr 0 v3) fun v5 =>
  bndP (pLoad1 I v5 h1) fun v6 =>
  bndP (pLoad1 I v1 h1) fun v7 =>
  bndP (pBin .eql v6 v7) fun v8 =>
  bnd (sGuard v8 .true (lift (pFieldAddr 1 v3) h1) h1) fun v10 h2 =>
  bnd (sGuard v8 .true (lift (pLoad1 I v10 h2) h2) h2) fun v11 h3 =>
  bnd (sGuard v8 .true (lift (pLoad1 I v2 h3) h3) h3) fun v12 h4 =>
  bnd (sGuard v8 .true (lift (pBin .eql v11 v12) h4) h4) fun v13 h5 =>
  bndP (pPick v8 v13 (.bool .false)) fun v14 =>
  some (v14, h5)
theorem f62.S (I : Inp) (F : Nat → Option AFn) (call : CallFn) : SFn ⟨P, I, F⟩ call c62 (fun _ _ _ _ => none) :=
  ⟨fun _ _ _ _ => rfl, fun n id hid => absurd hid (by rw [show c62.body.cnt = 0 by kernel_rfl]; omega)⟩
noncomputable def f62.run (I : Inp) : SF := fun call n a h =>
  match a with
  | [v0, v1, v2] => f62.e I call () v0 v1 v2 h
  | _ => none
theorem f62.qe (I : Inp) (call : CallFn) (n : Nat) (v0 v1 v2 : AVal) (h : AHeap) : f62.e I call () v0 v1 v2 h = execC P I call (fun _ _ _ => none) c62.body 0 (finV I c62.results) (argV [v0, v1, v2]) h := by kernel_rfl
theorem f62.code : codeOf P 62 = some c62 := by kernel_rfl
theorem f62.ok (I : Inp) (F : Nat → Option AFn) (hF : F 62 = some (.code c62)) : SfOk P I F 62 (f62.run I) := by
  intro call hc n args h r hr
  unfold f62.run at hr
  split at hr
  · exact fn_sound (C := ⟨P, I, F⟩) (n := n) hc hF (Nat.le_of_ble_eq_true (by kernel_rfl)) (by kernel_rfl) (f62.S I F call) (by kernel_rfl) ((f62.qe I call n _ _ _ h).symm.trans hr)
  · cases hr
/-! haruspex/haruspexref8.Uses -/
noncomputable def c63 : AFunc := (AFunc.mk 36 1 [(.tmp 2)] (.seq (.region [(S 1 (.box (T 0)) .none), (S 2 (.move (.val .nils)) .none)]) (.seq (.seq (.region [(FA 3 0 1), (L1 4 3)]) (.block 0 (.seq (.seq (.region [(S 6 (.bin .eql (T 4) (V 2)) .none), (M 5 6)]) (.cond (T 5) .skip (.region [(S 7 (.bin .eql (T 4) (V 8)) .none), (M 5 7)]))) (.cond (T 5) (.seq (.region [(FA 8 2 1), (L1 9 8), (FA 10 3 1), (L1 11 10), (S 12 (.buildSlice [(Z 0)] 2 [(0, (1, (T 9))), (1, (1, (T 11)))]) .none), (M 2 12)]) .ret) (.seq (.seq (.region [(S 14 (.bin .eql (T 4) (V 6)) .none), (M 13 14)]) (.cond (T 13) .skip (.seq (.region [(S 15 (.bin .eql (T 4) (V 7)) .none), (M 13 15)]) (.cond (T 13) .skip (.seq (.region [(S 16 (.bin .eql (T 4) (V 9)) .none), (M 13 16)]) (.cond (T 13) .skip (.seq (.region [(S 17 (.bin .eql (T 4) (V 11)) .none), (M 13 17)]) (.cond (T 13) .skip (.region [(S 18 (.bin .eql (T 4) (V 15)) .none), (M 13 18)]))))))))) (.cond (T 13) (.seq (.region [(FA 19 2 1), (L1 20 19), (S 21 (.buildSlice [(Z 0)] 1 [(0, (1, (T 20)))]) .none), (M 2 21)]) .ret) (.seq (.region [(S 23 (.bin .eql (T 4) (V 12)) .none), (M 22 23)]) (.cond (T 22) (.seq (.region [(FA 24 5 1), (L1 25 24), (S 26 (.append 1 8 (.val .nils) (T 25)) .none), (M 2 26)]) .ret) (.seq (.seq (.region [(S 28 (.bin .eql (T 4) (V 13)) .none), (M 27 28)]) (.cond (T 27) .skip (.region [(S 29 (.bin .eql (T 4) (V 14)) .none), (M 27 29)]))) (.cond (T 27) (.seq (.region [(FA 30 2 1), (L1 31 30), (S 32 (.buildSlice [(Z 0)] 1 [(0, (1, (T 31)))]) .none), (FA 33 5 1), (L1 34 33), (S 35 (.append 1 8 (T 32) (T 34)) .none), (M 2 35)]) .ret) .skip)))))))))) (.seq (.region [(S 2 (.move (.val .nils)) .none)]) .ret))))
abbrev f63.Js : Type := (((AHeap → Rs) × (AVal → AVal → AVal → AHeap → Rs)) × ((AVal → AVal → AVal → AHeap → Rs) × (AVal → AVal → AHeap → Rs)))
noncomputable def f63.b0 (I : Inp) (call : CallFn) (j : f63.Js) (h : AHeap) : Rs :=
  some (.nils, h)
noncomputable def f63.b1 (I : Inp) (call : CallFn) (j : f63.Js) (v1 v4 v5 : AVal) (h : AHeap) : Rs :=
  sCond v5 (
  bndP (pBin .eql v4 (Z 6)) fun v14 =>
  sCond v14 (
  bndP (pBin .eql v4 (Z 7)) fun v15 =>
  sCond v15 (
  bndP (pBin .eql v4 (Z 9)) fun v16 =>
  sCond v16 (
  bndP (pBin .eql v4 (Z 11)) fun v17 =>
  sCond v17 (
  bndP (pBin .eql v4 (Z 15)) fun v18 =>
  j.2.1 v1 v4 v18 h) (
  j.2.1 v1 v4 v17 h)) (
  j.2.1 v1 v4 v16 h)) (
  j.2.1 v1 v4 v15 h)) (
  j.2.1 v1 v4 v14 h)) (
  bndP (pFieldAddr 2 v1) fun v8 =>
  bndP (pLoad1 I v8 h) fun v9 =>
  bndP (pFieldAddr 3 v1) fun v10 =>
  bndP (pLoad1 I v10 h) fun v11 =>
  bnd (sBuildSlice [(Z 0)] 2 [(0, 1, v9), (1, 1, v11)] h) fun v12 h1 =>
  some (v12, h1))
noncomputable def f63.b2 (I : Inp) (call : CallFn) (j : f63.Js) (v1 v4 v13 : AVal) (h : AHeap) : Rs :=
  sCond v13 (
  bndP (pBin .eql v4 (Z 12)) fun v23 =>
  sCond v23 (
  bndP (pBin .eql v4 (Z 13)) fun v28 =>
  sCond v28 (
  bndP (pBin .eql v4 (Z 14)) fun v29 =>
  j.2.2 v1 v29 h) (
  j.2.2 v1 v28 h)) (
  bndP (pFieldAddr 5 v1) fun v24 =>
  bndP (pLoad1 I v24 h) fun v25 =>
  bnd (sAppend I 1 8 .nils v25 h) fun v26 h1 =>
  some (v26, h1))) (
  bndP (pFieldAddr 2 v1) fun v19 =>
  bndP (pLoad1 I v19 h) fun v20 =>
  bnd (sBuildSlice [(Z 0)] 1 [(0, 1, v20)] h) fun v21 h2 =>
  some (v21, h2))
noncomputable def f63.b3 (I : Inp) (call : CallFn) (j : f63.Js) (v1 v27 : AVal) (h : AHeap) : Rs :=
  sCond v27 (
  j.1.1 h) (
  bndP (pFieldAddr 2 v1) fun v30 =>
  bndP (pLoad1 I v30 h) fun v31 =>
  bnd (sBuildSlice [(Z 0)] 1 [(0, 1, v31)] h) fun v32 h1 =>
  bndP (pFieldAddr 5 v1) fun v33 =>
  bndP (pLoad1 I v33 h1) fun v34 =>
  bnd (sAppend I 1 8 v32 v34 h1) fun v35 h2 =>
  some (v35, h2))
noncomputable def f63.e (I : Inp) (call : CallFn) (j : f63.Js) (v0 : AVal) (h : AHeap) : Rs :=
  bnd (sBox v0 h) fun v1 h1 =>
  bndP (pFieldAddr 0 v1) fun v3 =>
  bndP (pLoad1 I v3 h1) fun v4 =>
  bndP (pBin .eql v4 (Z 2)) fun v6 =>
  sCond v6 (
  bndP (pBin .eql v4 (Z 8)) fun v7 =>
  j.1.2 v1 v4 v7 h1) (
  j.1.2 v1 v4 v6 h1)
noncomputable def f63.J (I : Inp) (call : CallFn) (n : Nat) : f63.Js :=
  Nat.rec (motive := fun _ => f63.Js) (((fun _ => none), (fun _ _ _ _ => none)), ((fun _ _ _ _ => none), (fun _ _ _ => none))) (fun _ ih => ((f63.b0 I call ih, f63.b1 I call ih), (f63.b2 I call ih, f63.b3 I call ih))) n
theorem f63.n0 (I : Inp) (call : CallFn) (n : Nat) : (f63.J I call (n + 1)).1.1 = f63.b0 I call (f63.J I call n) := Eq.trans rfl rfl
theorem f63.n1 (I : Inp) (call : CallFn) (n : Nat) : (f63.J I call (n + 1)).1.2 = f63.b1 I call (f63.J I call n) := Eq.trans rfl rfl
theorem f63.n2 (I : Inp) (call : CallFn) (n : Nat) : (f63.J I call (n + 1)).2.1 = f63.b2 I call (f63.J I call n) := Eq.trans rfl rfl
theorem f63.n3 (I : Inp) (call : CallFn) (n : Nat) : (f63.J I call (n + 1)).2.2 = f63.b3 I call (f63.J I call n) := Eq.trans rfl rfl
noncomputable def f63.JS (I : Inp) (call : CallFn) (n : Nat) : Jmp := fun id ρ h =>
  (Bool.rec (motive := fun _ => _) (Bool.rec (motive := fun _ => _) ((f63.J I call n).2.2 (ρ 1) (ρ 27) h) ((f63.J I call n).2.1 (ρ 1) (ρ 4) (ρ 13) h) (Nat.blt id 3)) (Bool.rec (motive := fun _ => _) ((f63.J I call n).1.2 (ρ 1) (ρ 4) (ρ 5) h) ((f63.J I call n).1.1 h) (Nat.blt id 1)) (Nat.blt id 2))
theorem f63.q0 (I : Inp) (call : CallFn) (n : Nat) (ρ : Fun) (h : AHeap) : f63.JS I call (n + 1) 0 ρ h = labC P I call (f63.JS I call n) c63.body 0 (finV I c63.results) 0 ρ h := by kernel_rfl
theorem f63.q1 (I : Inp) (call : CallFn) (n : Nat) (ρ : Fun) (h : AHeap) : f63.JS I call (n + 1) 1 ρ h = labC P I call (f63.JS I call n) c63.body 0 (finV I c63.results) 1 ρ h := by kernel_rfl
theorem f63.q2 (I : Inp) (call : CallFn) (n : Nat) (ρ : Fun) (h : AHeap) : f63.JS I call (n + 1) 2 ρ h = labC P I call (f63.JS I call n) c63.body 0 (finV I c63.results) 2 ρ h := by kernel_rfl
theorem f63.q3 (I : Inp) (call : CallFn) (n : Nat) (ρ : Fun) (h : AHeap) : f63.JS I call (n + 1) 3 ρ h = labC P I call (f63.JS I call n) c63.body 0 (finV I c63.results) 3 ρ h := by kernel_rfl
theorem f63.S (I : Inp) (F : Nat → Option AFn) (call : CallFn) : SFn ⟨P, I, F⟩ call c63 (f63.JS I call) :=
  ⟨fun id hid ρ h => by
    have hc : c63.body.cnt = 4 := by kernel_rfl
    rw [hc] at hid
    exact match id, hid with
    | 0, _ => rfl
    | 1, _ => rfl
    | 2, _ => rfl
    | 3, _ => rfl
    | id + 4, hid => absurd hid (by omega), fun n id hid ρ h => by
    have hc : c63.body.cnt = 4 := by kernel_rfl
    rw [hc] at hid
    exact match id, hid with
    | 0, _ => f63.q0 I call n ρ h
    | 1, _ => f63.q1 I call n ρ h
    | 2, _ => f63.q2 I call n ρ h
    | 3, _ => f63.q3 I call n ρ h
    | id + 4, hid => absurd hid (by omega)⟩
noncomputable def f63.run (I : Inp) : SF := fun call n a h =>
  match a with
  | [v0] => f63.e I call (f63.J I call n) v0 h
  | _ => none
theorem f63.qe (I : Inp) (call : CallFn) (n : Nat) (v0 : AVal) (h : AHeap) : f63.e I call (f63.J I call n) v0 h = execC P I call (f63.JS I call n) c63.body 0 (finV I c63.results) (argV [v0]) h := by kernel_rfl
theorem f63.code : codeOf P 63 = some c63 := by kernel_rfl
theorem f63.ok (I : Inp) (F : Nat → Option AFn) (hF : F 63 = some (.code c63)) : SfOk P I F 63 (f63.run I) := by
  intro call hc n args h r hr
  unfold f63.run at hr
  split at hr
  · exact fn_sound (C := ⟨P, I, F⟩) (n := n) hc hF (Nat.le_of_ble_eq_true (by kernel_rfl)) (by kernel_rfl) (f63.S I F call) (by kernel_rfl) ((f63.qe I call n _ h).symm.trans hr)
  · cases hr
theorem f63.qr (I : Inp) (call : CallFn) (n : Nat) (v0 : AVal) (h : AHeap) : f63.run I call n [v0] h = f63.e I call (f63.J I call n) v0 h := by kernel_rfl
theorem f63.lim {I : Inp} {prims : Nat → Option Prim} (hp : prims 63 = none) {n : Nat} {v0 : AVal} {h : AHeap} {Q : AVal → AHeap → Prop} (hr : Res (f63.e I (AM.lim ⟨P, I, genF P prims⟩) (f63.J I (AM.lim ⟨P, I, genF P prims⟩) n) v0 h) Q) :
    Res (AM.lim ⟨P, I, genF P prims⟩ 63 [v0] h) Q := by
  obtain ⟨v, h', e, q⟩ := hr
  exact ⟨v, h', lim_sf (C := ⟨P, I, genF P prims⟩) (n := n) (f63.ok I (genF P prims) (genF_code hp f63.code)) ((f63.qr I _ n v0 h).trans e), q⟩
/-! slices.Equal[[]haruspex/api.Type,haruspex/api.Type] -/
noncomputable def c64 : AFunc := (AFunc.mk 26 2 [(.tmp 4)] (.seq (.region [(S 4 (.move (.val (.bool .false))) .none)]) (.seq (.seq (.region [(M 6 0), (S 7 (.lenSl (T 6)) .none), (M 8 1), (S 9 (.lenSl (T 8)) .none), (S 10 (.bin .neq (T 7) (T 9)) .none)]) (.cond (T 10) (.seq (.region [(S 4 (.move (.val (.bool .false))) .none)]) .ret) .skip)) (.seq (.seq (.region [(M 11 0), (S 12 (.lenSl (T 11)) .none), (S 13 (.move (V 0)) .none)]) (.block 0 (.loop (.seq (.region [(S 14 (.bin .lss (T 13) (T 12)) .none)]) (.seq (.cond (T 14) .skip (.exit 0)) (.seq (.block 1 (.seq (.region [(M 15 13), (M 5 15)]) (.seq (.draw [(M 16 0), (M 17 5), (S 18 (.indexAddr 2 (T 16) (T 17)) .none), (S 19 (.loadN 2 (T 18)) .none), (M 20 1), (M 21 5), (S 22 (.indexAddr 2 (T 20) (T 21)) .none), (S 23 (.loadN 2 (T 22)) .none), (S 24 (.eq .true (.struct [.i, .i]) .false (T 19) (T 23)) .none)] [N, N, N, N, N, N, N, N, N] 0) (.cond (T 24) (.seq (.region [(S 4 (.move (.val (.bool .false))) .none)]) .ret) .skip)))) (.region [(S 25 (.bin .add (T 13) (V 1)) .none), (M 13 25)]))))))) (.seq (.region [(S 4 (.move (.val (.bool .true))) .none)]) .ret)))))
abbrev f64.Js : Type := (((AVal → AVal → AHeap → Rs) × (AHeap → Rs)) × ((AVal → AVal → AVal → AVal → AHeap → Rs) × ((AVal → AVal → AVal → AVal → AHeap → Rs) × (AVal → AVal → AVal → AVal → AHeap → Rs))))
noncomputable def f64.b0 (I : Inp) (call : CallFn) (j : f64.Js) (v0 v1 : AVal) (h : AHeap) : Rs :=
  bndP (pLenSl v0) fun v12 =>
  j.2.1 v0 v1 v12 (Z 0) h
noncomputable def f64.b1 (I : Inp) (call : CallFn) (j : f64.Js) (h : AHeap) : Rs :=
  some ((.bool .true), h)
noncomputable def f64.b2 (I : Inp) (call : CallFn) (j : f64.Js) (v0 v1 v12 v13 : AVal) (h : AHeap) : Rs :=
  bndP (pBin .lss v13 v12) fun v14 =>
  sCond v14 (
  j.1.2 h) (
  j.2.2.1 v0 v1 v12 v13 h)
noncomputable def f64.b3 (I : Inp) (call : CallFn) (j : f64.Js) (v0 v1 v12 v13 : AVal) (h : AHeap) : Rs :=
  bndP (pIndexAddr 2 v0 v13) fun v18 =>
  bndP (pLoadN I 2 v18 h) fun v19 =>
  bndP (pIndexAddr 2 v1 v13) fun v22 =>
  bndP (pLoadN I 2 v22 h) fun v23 =>
  bndP (pEq P .true (.struct [.i, .i]) .false v19 v23 h) fun v24 =>
  sCond v24 (
  j.2.2.2 v0 v1 v12 v13 h) (
  some ((.bool .false), h))
noncomputable def f64.b4 (I : Inp) (call : CallFn) (j : f64.Js) (v0 v1 v12 v13 : AVal) (h : AHeap) : Rs :=
  bndP (pBin .add v13 (Z 1)) fun v25 =>
  j.2.1 v0 v1 v12 v25 h
noncomputable def f64.e (I : Inp) (call : CallFn) (j : f64.Js) (v0 v1 : AVal) (h : AHeap) : Rs :=
  bndP (pLenSl v0) fun v7 =>
  bndP (pLenSl v1) fun v9 =>
  bndP (pBin .neq v7 v9) fun v10 =>
  sCond v10 (
  j.1.1 v0 v1 h) (
  some ((.bool .false), h))
noncomputable def f64.J (I : Inp) (call : CallFn) (n : Nat) : f64.Js :=
  Nat.rec (motive := fun _ => f64.Js) (((fun _ _ _ => none), (fun _ => none)), ((fun _ _ _ _ _ => none), ((fun _ _ _ _ _ => none), (fun _ _ _ _ _ => none)))) (fun _ ih => ((f64.b0 I call ih, f64.b1 I call ih), (f64.b2 I call ih, (f64.b3 I call ih, f64.b4 I call ih)))) n
noncomputable def f64.JS (I : Inp) (call : CallFn) (n : Nat) : Jmp := fun id ρ h =>
  (Bool.rec (motive := fun _ => _) (Bool.rec (motive := fun _ => _) (Bool.rec (motive := fun _ => _) ((f64.J I call n).2.2.2 (ρ 0) (ρ 1) (ρ 12) (ρ 13) h) ((f64.J I call n).2.2.1 (ρ 0) (ρ 1) (ρ 12) (ρ 13) h) (Nat.blt id 4)) ((f64.J I call n).2.1 (ρ 0) (ρ 1) (ρ 12) (ρ 13) h) (Nat.blt id 3)) (Bool.rec (motive := fun _ => _) ((f64.J I call n).1.2 h) ((f64.J I call n).1.1 (ρ 0) (ρ 1) h) (Nat.blt id 1)) (Nat.blt id 2))
theorem f64.q0 (I : Inp) (call : CallFn) (n : Nat) (ρ : Fun) (h : AHeap) : f64.JS I call (n + 1) 0 ρ h = labC P I call (f64.JS I call n) c64.body 0 (finV I c64.results) 0 ρ h := by kernel_rfl
theorem f64.q1 (I : Inp) (call : CallFn) (n : Nat) (ρ : Fun) (h : AHeap) : f64.JS I call (n + 1) 1 ρ h = labC P I call (f64.JS I call n) c64.body 0 (finV I c64.results) 1 ρ h := by kernel_rfl
theorem f64.q2 (I : Inp) (call : CallFn) (n : Nat) (ρ : Fun) (h : AHeap) : f64.JS I call (n + 1) 2 ρ h = labC P I call (f64.JS I call n) c64.body 0 (finV I c64.results) 2 ρ h := by kernel_rfl
theorem f64.q3 (I : Inp) (call : CallFn) (n : Nat) (ρ : Fun) (h : AHeap) : f64.JS I call (n + 1) 3 ρ h = labC P I call (f64.JS I call n) c64.body 0 (finV I c64.results) 3 ρ h := by kernel_rfl
theorem f64.q4 (I : Inp) (call : CallFn) (n : Nat) (ρ : Fun) (h : AHeap) : f64.JS I call (n + 1) 4 ρ h = labC P I call (f64.JS I call n) c64.body 0 (finV I c64.results) 4 ρ h := by kernel_rfl
theorem f64.S (I : Inp) (F : Nat → Option AFn) (call : CallFn) : SFn ⟨P, I, F⟩ call c64 (f64.JS I call) :=
  ⟨fun id hid ρ h => by
    have hc : c64.body.cnt = 5 := by kernel_rfl
    rw [hc] at hid
    exact match id, hid with
    | 0, _ => rfl
    | 1, _ => rfl
    | 2, _ => rfl
    | 3, _ => rfl
    | 4, _ => rfl
    | id + 5, hid => absurd hid (by omega), fun n id hid ρ h => by
    have hc : c64.body.cnt = 5 := by kernel_rfl
    rw [hc] at hid
    exact match id, hid with
    | 0, _ => f64.q0 I call n ρ h
    | 1, _ => f64.q1 I call n ρ h
    | 2, _ => f64.q2 I call n ρ h
    | 3, _ => f64.q3 I call n ρ h
    | 4, _ => f64.q4 I call n ρ h
    | id + 5, hid => absurd hid (by omega)⟩
noncomputable def f64.run (I : Inp) : SF := fun call n a h =>
  match a with
  | [v0, v1] => f64.e I call (f64.J I call n) v0 v1 h
  | _ => none
theorem f64.qe (I : Inp) (call : CallFn) (n : Nat) (v0 v1 : AVal) (h : AHeap) : f64.e I call (f64.J I call n) v0 v1 h = execC P I call (f64.JS I call n) c64.body 0 (finV I c64.results) (argV [v0, v1]) h := by kernel_rfl
theorem f64.code : codeOf P 64 = some c64 := by kernel_rfl
theorem f64.ok (I : Inp) (F : Nat → Option AFn) (hF : F 64 = some (.code c64)) : SfOk P I F 64 (f64.run I) := by
  intro call hc n args h r hr
  unfold f64.run at hr
  split at hr
  · exact fn_sound (C := ⟨P, I, F⟩) (n := n) hc hF (Nat.le_of_ble_eq_true (by kernel_rfl)) (by kernel_rfl) (f64.S I F call) (by kernel_rfl) ((f64.qe I call n _ _ h).symm.trans hr)
  · cases hr
end Go.Proofs.YthihegmbdclikaaDoor.Sf
