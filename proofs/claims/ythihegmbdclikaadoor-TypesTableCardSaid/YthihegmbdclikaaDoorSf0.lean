/- The functions of the program by their labels, on values, part 0: what they compute the abstract machine computes. Conditions: none. -/
import Derived.Test.YthihegmbdclikaaDoorAmTab
import Derived.Test.YthihegmbdclikaaDoorProg
namespace Go.Proofs.YthihegmbdclikaaDoor.Sf
open Go.AM
set_option linter.unusedVariables false
noncomputable abbrev P : Program := Tryd.prog
abbrev Z (n : Nat) : AVal := .int .i64 (.ofNat n)
abbrev V (n : Nat) : AOpd := .val (.int .i64 (.ofNat n))
abbrev T (n : Nat) : AOpd := .tmp n
abbrev M (d x : Nat) : AOper := ⟨some d, .move (.tmp x), none⟩
abbrev S (d : Nat) (o : AOp) (g : Option (Nat × Bool)) : AOper := ⟨some d, o, g⟩
abbrev N : Bool × List Nat := (false, [])
abbrev Y : Bool × List Nat := (true, [])
/-! haruspex/haruspexlaw10.TypesTable -/
noncomputable def c3 : AFunc := (AFunc.mk 191 5 [(.tmp 10)] (.seq (.region [(S 10 (.move (.val (.bool .false))) .none)]) (.seq (.region [(S 17 (.call 10 []) .none), (M 11 17)]) (.seq (.seq (.region [(M 18 11), (S 19 (.un .not (T 18)) .none)]) (.cond (T 19) (.seq (.region [(S 10 (.move (.val (.bool .false))) .none)]) .ret) .skip)) (.seq (.seq (.region [(M 20 0), (S 21 (.bin .lss (T 20) (V 1)) .none), (M 22 21), (S 23 (.move (T 0)) (.some (22, .false))), (S 24 (.bin .gtr (T 23) (V 15)) (.some (22, .false))), (S 25 (.pick (T 22) (.val (.bool .true)) (T 24)) .none), (M 26 25), (S 27 (.move (T 1)) (.some (26, .false))), (S 28 (.bin .lss (T 27) (V 0)) (.some (26, .false))), (S 29 (.pick (T 26) (.val (.bool .true)) (T 28)) .none), (M 30 29), (S 31 (.move (T 1)) (.some (30, .false))), (S 32 (.bin .gtr (T 31) (V 4)) (.some (30, .false))), (S 33 (.pick (T 30) (.val (.bool .true)) (T 32)) .none), (M 34 33), (S 35 (.move (T 2)) (.some (34, .false))), (S 36 (.bin .lss (T 35) (V 0)) (.some (34, .false))), (S 37 (.pick (T 34) (.val (.bool .true)) (T 36)) .none), (M 38 37), (S 39 (.move (T 2)) (.some (38, .false))), (S 40 (.bin .gtr (T 39) (V 4)) (.some (38, .false))), (S 41 (.pick (T 38) (.val (.bool .true)) (T 40)) .none), (M 42 41), (S 43 (.move (T 3)) (.some (42, .false))), (S 44 (.bin .lss (T 43) (V 0)) (.some (42, .false))), (S 45 (.pick (T 42) (.val (.bool .true)) (T 44)) .none), (M 46 45), (S 47 (.move (T 3)) (.some (46, .false))), (S 48 (.bin .gtr (T 47) (V 4)) (.some (46, .false))), (S 49 (.pick (T 46) (.val (.bool .true)) (T 48)) .none), (M 50 49), (S 51 (.move (T 4)) (.some (50, .false))), (S 52 (.bin .lss (T 51) (V 0)) (.some (50, .false))), (S 53 (.pick (T 50) (.val (.bool .true)) (T 52)) .none), (M 54 53), (S 55 (.move (T 4)) (.some (54, .false))), (S 56 (.bin .gtr (T 55) (V 1)) (.some (54, .false))), (S 57 (.pick (T 54) (.val (.bool .true)) (T 56)) .none)]) (.cond (T 57) (.seq (.region [(S 10 (.move (.val (.bool .true))) .none)]) .ret) .skip)) (.seq (.region [(S 58 (.call 11 []) .none), (M 12 58)]) (.seq (.region [(M 59 12), (S 60 (.build [(Z 0), (Z 0)] []) .none), (S 61 (.build [(Z 0), (Z 0)] [(0, (1, (V 1))), (1, (1, (V 1)))]) .none), (S 62 (.buildSlice [(Z 0), (Z 0)] 2 [(0, (2, (T 60))), (2, (2, (T 61)))]) .none), (S 63 (.build [(Z 0), (Z 0)] []) .none), (S 64 (.build [(Z 0), (Z 0)] []) .none), (S 65 (.buildSlice [(Z 0), (Z 0)] 2 [(0, (2, (T 63))), (2, (2, (T 64)))]) .none), (S 66 (.buildSlice [.nils] 2 [(0, (1, (T 62))), (1, (1, (T 65)))]) .none), (S 67 (.nilCheck (T 59)) .none), (S 68 (.fieldAddr 0 (T 67)) .none), (AOper.mk .none (.store 1 (T 68) (T 66)) .none)]) (.seq (.region [(M 69 12), (S 70 (.buildSlice [(Z 0)] 2 [(0, (1, (V 0))), (1, (1, (V 0)))]) .none), (S 71 (.build [.nils] [(0, (1, (T 70)))]) .none), (S 72 (.buildSlice [.nils] 1 [(0, (1, (T 71)))]) .none), (S 73 (.nilCheck (T 69)) .none), (S 74 (.fieldAddr 2 (T 73)) .none), (AOper.mk .none (.store 1 (T 74) (T 72)) .none)]) (.seq (.region [(M 75 12), (M 76 12), (S 77 (.nilCheck (T 76)) .none), (S 78 (.fieldAddr 1 (T 77)) .none), (S 79 (.load1 (T 78)) .none), (S 80 (.build [(Z 0), (Z 0)] [(0, (1, (V 1)))]) .none), (S 81 (.buildSlice [(Z 0), (Z 0)] 1 [(0, (2, (T 80)))]) .none), (S 82 (.build [.nils, (Z 0), (Z 0)] [(0, (1, (T 81)))]) .none), (S 83 (.buildSlice [.nils, (Z 0), (Z 0)] 1 [(0, (3, (T 82)))]) .none), (S 84 (.append 3 40 (T 79) (T 83)) .none), (S 85 (.nilCheck (T 75)) .none), (S 86 (.fieldAddr 1 (T 85)) .none), (AOper.mk .none (.store 1 (T 86) (T 84)) .none)]) (.seq (.region [(S 87 (.build [(Z 0), (Z 0)] [(0, (1, (V 1)))]) .none), (S 88 (.build [(Z 0), (Z 0)] []) .none), (S 89 (.buildSlice [(Z 0), (Z 0)] 2 [(0, (2, (T 87))), (2, (2, (T 88)))]) .none), (S 90 (.build [(Z 0), (Z 0), (Z 0), (Z 0), (Z 0), .nils] [(0, (1, (V 1))), (1, (1, (V 1)))]) .none), (S 91 (.buildSlice [(Z 0), (Z 0), (Z 0), (Z 0), (Z 0), .nils] 1 [(0, (6, (T 90)))]) .none), (S 92 (.build [.nils, (Z 0), (Z 0), (Z 0), (Z 0)] [(0, (1, (T 91))), (1, (1, (V 3))), (2, (1, (V 1)))]) .none), (S 93 (.buildSlice [.nils, (Z 0), (Z 0), (Z 0), (Z 0)] 1 [(0, (5, (T 92)))]) .none), (S 94 (.build [(Z 0), .nils, .nils] [(0, (1, (V 1))), (1, (1, (T 89))), (2, (1, (T 93)))]) .none), (S 13 (.alloc [(Z 0), .nils, .nils]) .none), (AOper.mk .none (.store 3 (T 13) (T 94)) .none)]) (.seq (.draw [(M 95 12), (M 96 12), (S 97 (.nilCheck (T 96)) .none), (S 98 (.fieldAddr 4 (T 97)) .none), (S 99 (.load1 (T 98)) .none), (S 100 (.loadN 3 (T 13)) .none), (S 101 (.buildSlice [(Z 0), .nils, .nils] 1 [(0, (3, (T 100)))]) .none), (S 102 (.append 3 56 (T 99) (T 101)) .none), (S 103 (.nilCheck (T 95)) .none), (S 104 (.fieldAddr 4 (T 103)) .none), (AOper.mk .none (.store 1 (T 104) (T 102)) .none)] [N, N, N, N, (.false, [1]), N, Y, Y, N, N, Y] 0) (.seq (.region [(M 105 12), (S 106 (.buildSlice [(Z 0)] 2 [(0, (1, (V 1))), (1, (1, (V 1)))]) .none), (S 107 (.build [(Z 0), (Z 0), .nils] [(2, (1, (T 106)))]) .none), (S 108 (.buildSlice [(Z 0), (Z 0), .nils] 1 [(0, (3, (T 107)))]) .none), (S 109 (.nilCheck (T 105)) .none), (S 110 (.fieldAddr 3 (T 109)) .none), (AOper.mk .none (.store 1 (T 110) (T 108)) .none)]) (.seq (.region [(M 111 12), (S 112 (.nilCheck (T 111)) .none), (S 113 (.fieldAddr 4 (T 112)) .none), (S 114 (.load1 (T 113)) .none), (S 115 (.build [(Z 0), (Z 0)] []) .none), (S 116 (.build [(Z 0), (Z 0)] [(0, (1, (V 1)))]) .none), (S 117 (.build [(Z 0), (Z 0)] [(0, (1, (V 1))), (1, (1, (V 1)))]) .none), (S 118 (.build [(Z 0), (Z 0)] [(0, (1, (V 2)))]) .none), (S 119 (.build [(Z 0), (Z 0)] [(0, (1, (V 3)))]) .none), (S 120 (.buildSlice [(Z 0), (Z 0)] 5 [(0, (2, (T 115))), (2, (2, (T 116))), (4, (2, (T 117))), (6, (2, (T 118))), (8, (2, (T 119)))]) .none), (S 121 (.indexAddr 3 (T 114) (V 0)) .none), (S 122 (.fieldAddr 1 (T 121)) .none), (AOper.mk .none (.store 1 (T 122) (T 120)) .none)]) (.seq (.region [(M 123 0), (S 124 (.build [(Z 0), (Z 0), (Z 0), (Z 0), (Z 0), .nils] [(0, (1, (T 123)))]) .none), (S 14 (.alloc [(Z 0), (Z 0), (Z 0), (Z 0), (Z 0), .nils]) .none), (AOper.mk .none (.store 6 (T 14) (T 124)) .none)]) (.seq (.region [(S 126 (.loadN 6 (T 14)) .none), (S 127 (.call 12 [(T 126)]) .none), (M 125 127), (S 128 (.extract (T 125) 0) .none), (S 129 (.extract (T 125) 1) .none), (M 15 128), (M 16 129)]) (.seq (.seq (.region [(M 130 16)]) (.cond (T 130) (.region [(M 131 1), (S 132 (.fieldAddr 1 (T 14)) .none), (AOper.mk .none (.store 1 (T 132) (T 131)) .none)]) .skip)) (.seq (.seq (.region [(M 133 0)]) (.block 0 (.seq (.region [(S 135 (.bin .eql (T 133) (V 2)) .none), (M 134 135)]) (.cond (T 134) (.region [(M 136 2), (M 137 3), (S 138 (.fieldAddr 2 (T 14)) .none), (AOper.mk .none (.store 1 (T 138) (T 136)) .none), (S 139 (.fieldAddr 3 (T 14)) .none), (AOper.mk .none (.store 1 (T 139) (T 137)) .none)]) (.seq (.seq (.region [(S 141 (.bin .eql (T 133) (V 6)) .none), (M 140 141)]) (.cond (T 140) .skip (.seq (.region [(S 142 (.bin .eql (T 133) (V 9)) .none), (M 140 142)]) (.cond (T 140) .skip (.seq (.region [(S 143 (.bin .eql (T 133) (V 11)) .none), (M 140 143)]) (.cond (T 140) .skip (.seq (.region [(S 144 (.bin .eql (T 133) (V 15)) .none), (M 140 144)]) (.cond (T 140) .skip (.region [(S 145 (.bin .eql (T 133) (V 13)) .none), (M 140 145)]))))))))) (.cond (T 140) (.region [(M 146 2), (S 147 (.fieldAddr 2 (T 14)) .none), (AOper.mk .none (.store 1 (T 147) (T 146)) .none)]) (.seq (.seq (.region [(S 149 (.bin .eql (T 133) (V 7)) .none), (M 148 149)]) (.cond (T 148) .skip (.region [(S 150 (.bin .eql (T 133) (V 14)) .none), (M 148 150)]))) (.cond (T 148) (.region [(M 151 2), (M 152 4), (S 153 (.fieldAddr 2 (T 14)) .none), (AOper.mk .none (.store 1 (T 153) (T 151)) .none), (S 154 (.fieldAddr 4 (T 14)) .none), (AOper.mk .none (.store 1 (T 154) (T 152)) .none)]) (.seq (.region [(S 156 (.bin .eql (T 133) (V 8)) .none), (M 155 156)]) (.cond (T 155) (.region [(M 157 2), (M 158 3), (M 159 4), (S 160 (.fieldAddr 2 (T 14)) .none), (AOper.mk .none (.store 1 (T 160) (T 157)) .none), (S 161 (.fieldAddr 3 (T 14)) .none), (AOper.mk .none (.store 1 (T 161) (T 158)) .none), (S 162 (.fieldAddr 4 (T 14)) .none), (AOper.mk .none (.store 1 (T 162) (T 159)) .none)]) (.seq (.seq (.region [(S 164 (.bin .eql (T 133) (V 1)) .none), (M 163 164)]) (.cond (T 163) .skip (.seq (.region [(S 165 (.bin .eql (T 133) (V 10)) .none), (M 163 165)]) (.cond (T 163) .skip (.region [(S 166 (.bin .eql (T 133) (V 12)) .none), (M 163 166)]))))) (.cond (T 163) (.region [(M 167 4), (S 168 (.fieldAddr 4 (T 14)) .none), (AOper.mk .none (.store 1 (T 168) (T 167)) .none)]) .skip)))))))))))) (.seq (.seq (.region [(M 169 0), (S 170 (.bin .eql (T 169) (V 12)) .none), (M 171 170), (S 172 (.move (T 4)) (.some (171, .true))), (S 173 (.bin .eql (T 172) (V 1)) (.some (171, .true))), (S 174 (.pick (T 171) (T 173) (.val (.bool .false))) .none)]) (.cond (T 174) (.region [(M 175 2), (S 176 (.buildSlice [(Z 0)] 1 [(0, (1, (T 175)))]) .none), (S 177 (.fieldAddr 5 (T 14)) .none), (AOper.mk .none (.store 1 (T 177) (T 176)) .none)]) .skip)) (.seq (.draw [(M 178 12), (S 179 (.loadN 6 (T 14)) .none), (S 180 (.call 13 [(T 178), (V 0), (T 179)]) .none), (M 181 12), (M 182 12), (S 183 (.nilCheck (T 182)) .none), (S 184 (.fieldAddr 4 (T 183)) .none), (S 185 (.load1 (T 184)) .none), (S 186 (.indexAddr 3 (T 185) (V 0)) .none), (S 187 (.loadN 3 (T 186)) .none), (S 188 (.loadN 6 (T 14)) .none), (S 189 (.call 14 [(T 181), (T 187), (T 188)]) .none), (S 190 (.eq .false .bool .false (T 180) (T 189)) .none), (M 10 190)] [N, N, Y, N, N, N, N, (.false, [0]), N, (.false, [0]), (.false, [0]), Y, N, N] 0) .ret)))))))))))))))))))
abbrev f3.Js : Type := ((((AVal → AVal → AVal → AVal → AVal → AHeap → Rs) × (AVal → AVal → AVal → AVal → AVal → AHeap → Rs)) × ((AVal → AVal → AVal → AVal → AVal → AVal → AHeap → Rs) × (AVal → AVal → AVal → AVal → AVal → AHeap → Rs))) × (((AVal → AVal → AVal → AVal → AVal → AVal → AVal → AVal → AHeap → Rs) × (AVal → AVal → AVal → AVal → AVal → AVal → AVal → AVal → AHeap → Rs)) × ((AVal → AVal → AVal → AVal → AVal → AVal → AHeap → Rs) × (AVal → AVal → AHeap → Rs))))
noncomputable def f3.b0 (I : Inp) (call : CallFn) (j : f3.Js) (v0 v1 v2 v3 v4 : AVal) (h : AHeap) : Rs :=
  bndP (pBin .lss v0 (Z 1)) fun v21 =>
  bnd (sGuard v21 .false (some (v0, h)) h) fun v23 h1 =>
  bnd (sGuard v21 .false (lift (pBin .gtr v23 (Z 15)) h1) h1) fun v24 h2 =>
  bndP (pPick v21 (.bool .true) v24) fun v25 =>
  bnd (sGuard v25 .false (some (v1, h2)) h2) fun v27 h3 =>
  bnd (sGuard v25 .false (lift (pBin .lss v27 (Z 0)) h3) h3) fun v28 h4 =>
  bndP (pPick v25 (.bool .true) v28) fun v29 =>
  bnd (sGuard v29 .false (some (v1, h4)) h4) fun v31 h5 =>
  bnd (sGuard v29 .false (lift (pBin .gtr v31 (Z 4)) h5) h5) fun v32 h6 =>
  bndP (pPick v29 (.bool .true) v32) fun v33 =>
  bnd (sGuard v33 .false (some (v2, h6)) h6) fun v35 h7 =>
  bnd (sGuard v33 .false (lift (pBin .lss v35 (Z 0)) h7) h7) fun v36 h8 =>
  bndP (pPick v33 (.bool .true) v36) fun v37 =>
  bnd (sGuard v37 .false (some (v2, h8)) h8) fun v39 h9 =>
  bnd (sGuard v37 .false (lift (pBin .gtr v39 (Z 4)) h9) h9) fun v40 h10 =>
  bndP (pPick v37 (.bool .true) v40) fun v41 =>
  bnd (sGuard v41 .false (some (v3, h10)) h10) fun v43 h11 =>
  bnd (sGuard v41 .false (lift (pBin .lss v43 (Z 0)) h11) h11) fun v44 h12 =>
  bndP (pPick v41 (.bool .true) v44) fun v45 =>
  bnd (sGuard v45 .false (some (v3, h12)) h12) fun v47 h13 =>
  bnd (sGuard v45 .false (lift (pBin .gtr v47 (Z 4)) h13) h13) fun v48 h14 =>
  bndP (pPick v45 (.bool .true) v48) fun v49 =>
  bnd (sGuard v49 .false (some (v4, h14)) h14) fun v51 h15 =>
  bnd (sGuard v49 .false (lift (pBin .lss v51 (Z 0)) h15) h15) fun v52 h16 =>
  bndP (pPick v49 (.bool .true) v52) fun v53 =>
  bnd (sGuard v53 .false (some (v4, h16)) h16) fun v55 h17 =>
  bnd (sGuard v53 .false (lift (pBin .gtr v55 (Z 1)) h17) h17) fun v56 h18 =>
  bndP (pPick v53 (.bool .true) v56) fun v57 =>
  sCond v57 (
  j.1.1.2 v0 v1 v2 v3 v4 h18) (
  some ((.bool .true), h18))
noncomputable def f3.b1 (I : Inp) (call : CallFn) (j : f3.Js) (v0 v1 v2 v3 v4 : AVal) (h : AHeap) : Rs :=
  bnd (call 11 [] h) fun v58 h1 =>
  bndP (pBuild [(Z 0), (Z 0)] []) fun v60 =>
  bndP (pBuild [(Z 0), (Z 0)] [(0, 1, (Z 1)), (1, 1, (Z 1))]) fun v61 =>
  bnd (sBuildSlice [(Z 0), (Z 0)] 2 [(0, 2, v60), (2, 2, v61)] h1) fun v62 h2 =>
  bndP (pBuild [(Z 0), (Z 0)] []) fun v63 =>
  bndP (pBuild [(Z 0), (Z 0)] []) fun v64 =>
  bnd (sBuildSlice [(Z 0), (Z 0)] 2 [(0, 2, v63), (2, 2, v64)] h2) fun v65 h3 =>
  bnd (sBuildSlice [.nils] 2 [(0, 1, v62), (1, 1, v65)] h3) fun v66 h4 =>
  bndP (pNilCheck v58) fun v67 =>
  bndP (pFieldAddr 0 v67) fun v68 =>
  bnd (sStore 1 v68 v66 h4) fun _ h5 =>
  bnd (sBuildSlice [(Z 0)] 2 [(0, 1, (Z 0)), (1, 1, (Z 0))] h5) fun v70 h6 =>
  bndP (pBuild [.nils] [(0, 1, v70)]) fun v71 =>
  bnd (sBuildSlice [.nils] 1 [(0, 1, v71)] h6) fun v72 h7 =>
  bndP (pNilCheck v58) fun v73 =>
  bndP (pFieldAddr 2 v73) fun v74 =>
  bnd (sStore 1 v74 v72 h7) fun _ h8 =>
  bndP (pNilCheck v58) fun v77 =>
  bndP (pFieldAddr 1 v77) fun v78 =>
  bndP (pLoad1 I v78 h8) fun v79 =>
  bndP (pBuild [(Z 0), (Z 0)] [(0, 1, (Z 1))]) fun v80 =>
  bnd (sBuildSlice [(Z 0), (Z 0)] 1 [(0, 2, v80)] h8) fun v81 h9 =>
  bndP (pBuild [.nils, (Z 0), (Z 0)] [(0, 1, v81)]) fun v82 =>
  bnd (sBuildSlice [.nils, (Z 0), (Z 0)] 1 [(0, 3, v82)] h9) fun v83 h10 =>
  bnd (sAppend I 3 40 v79 v83 h10) fun v84 h11 =>
  bndP (pNilCheck v58) fun v85 =>
  bndP (pFieldAddr 1 v85) fun v86 =>
  bnd (sStore 1 v86 v84 h11) fun _ h12 =>
  bndP (pBuild [(Z 0), (Z 0)] [(0, 1, (Z 1))]) fun v87 =>
  bndP (pBuild [(Z 0), (Z 0)] []) fun v88 =>
  bnd (sBuildSlice [(Z 0), (Z 0)] 2 [(0, 2, v87), (2, 2, v88)] h12) fun v89 h13 =>
  bndP (pBuild [(Z 0), (Z 0), (Z 0), (Z 0), (Z 0), .nils] [(0, 1, (Z 1)), (1, 1, (Z 1))]) fun v90 =>
  bnd (sBuildSlice [(Z 0), (Z 0), (Z 0), (Z 0), (Z 0), .nils] 1 [(0, 6, v90)] h13) fun v91 h14 =>
  bndP (pBuild [.nils, (Z 0), (Z 0), (Z 0), (Z 0)] [(0, 1, v91), (1, 1, (Z 3)), (2, 1, (Z 1))]) fun v92 =>
  bnd (sBuildSlice [.nils, (Z 0), (Z 0), (Z 0), (Z 0)] 1 [(0, 5, v92)] h14) fun v93 h15 =>
  bndP (pBuild [(Z 0), .nils, .nils] [(0, 1, (Z 1)), (1, 1, v89), (2, 1, v93)]) fun v94 =>
  bnd (sAlloc [(Z 0), .nils, .nils] h15) fun v13 h16 =>
  bnd (sStore 3 v13 v94 h16) fun _ h17 =>
  bndP (pNilCheck v58) fun v97 =>
  bndP (pFieldAddr 4 v97) fun v98 =>
  bndP (pLoad1 I v98 h17) fun v99 =>
  bndP (pLoadN I 3 v13 h17) fun v100 =>
  bnd (sBuildSlice [(Z 0), .nils, .nils] 1 [(0, 3, v100)] h17) fun v101 h18 =>
  bnd (sAppend I 3 56 v99 v101 h18) fun v102 h19 =>
  bndP (pNilCheck v58) fun v103 =>
  bndP (pFieldAddr 4 v103) fun v104 =>
  bnd (sStore 1 v104 v102 h19) fun _ h20 =>
  sCheck (sSame (lift (pLoad1 I v98 h18) h18) v99 && true) (
  bnd (sBuildSlice [(Z 0)] 2 [(0, 1, (Z 1)), (1, 1, (Z 1))] h20) fun v106 h21 =>
  bndP (pBuild [(Z 0), (Z 0), .nils] [(2, 1, v106)]) fun v107 =>
  bnd (sBuildSlice [(Z 0), (Z 0), .nils] 1 [(0, 3, v107)] h21) fun v108 h22 =>
  bndP (pNilCheck v58) fun v109 =>
  bndP (pFieldAddr 3 v109) fun v110 =>
  bnd (sStore 1 v110 v108 h22) fun _ h23 =>
  bndP (pNilCheck v58) fun v112 =>
  bndP (pFieldAddr 4 v112) fun v113 =>
  bndP (pLoad1 I v113 h23) fun v114 =>
  bndP (pBuild [(Z 0), (Z 0)] []) fun v115 =>
  bndP (pBuild [(Z 0), (Z 0)] [(0, 1, (Z 1))]) fun v116 =>
  bndP (pBuild [(Z 0), (Z 0)] [(0, 1, (Z 1)), (1, 1, (Z 1))]) fun v117 =>
  bndP (pBuild [(Z 0), (Z 0)] [(0, 1, (Z 2))]) fun v118 =>
  bndP (pBuild [(Z 0), (Z 0)] [(0, 1, (Z 3))]) fun v119 =>
  bnd (sBuildSlice [(Z 0), (Z 0)] 5 [(0, 2, v115), (2, 2, v116), (4, 2, v117), (6, 2, v118), (8, 2, v119)] h23) fun v120 h24 =>
  bndP (pIndexAddr 3 v114 (Z 0)) fun v121 =>
  bndP (pFieldAddr 1 v121) fun v122 =>
  bnd (sStore 1 v122 v120 h24) fun _ h25 =>
  bndP (pBuild [(Z 0), (Z 0), (Z 0), (Z 0), (Z 0), .nils] [(0, 1, v0)]) fun v124 =>
  bnd (sAlloc [(Z 0), (Z 0), (Z 0), (Z 0), (Z 0), .nils] h25) fun v14 h26 =>
  bnd (sStore 6 v14 v124 h26) fun _ h27 =>
  bndP (pLoadN I 6 v14 h27) fun v126 =>
  bnd (call 12 [v126] h27) fun v127 h28 =>
  bndP (pExtract v127 0) fun v128 =>
  bndP (pExtract v127 1) fun v129 =>
  sCond v129 (
  j.1.2.1 v0 v2 v3 v4 v58 v14 h28) (
  bndP (pFieldAddr 1 v14) fun v132 =>
  bnd (sStore 1 v132 v1 h28) fun _ h29 =>
  j.1.2.1 v0 v2 v3 v4 v58 v14 h29))
noncomputable def f3.b2 (I : Inp) (call : CallFn) (j : f3.Js) (v0 v2 v3 v4 v12 v14 : AVal) (h : AHeap) : Rs :=
  bndP (pBin .eql v0 (Z 2)) fun v135 =>
  sCond v135 (
  bndP (pBin .eql v0 (Z 6)) fun v141 =>
  sCond v141 (
  bndP (pBin .eql v0 (Z 9)) fun v142 =>
  sCond v142 (
  bndP (pBin .eql v0 (Z 11)) fun v143 =>
  sCond v143 (
  bndP (pBin .eql v0 (Z 15)) fun v144 =>
  sCond v144 (
  bndP (pBin .eql v0 (Z 13)) fun v145 =>
  j.2.1.1 v0 v2 v3 v4 v12 v14 v0 v145 h) (
  j.2.1.1 v0 v2 v3 v4 v12 v14 v0 v144 h)) (
  j.2.1.1 v0 v2 v3 v4 v12 v14 v0 v143 h)) (
  j.2.1.1 v0 v2 v3 v4 v12 v14 v0 v142 h)) (
  j.2.1.1 v0 v2 v3 v4 v12 v14 v0 v141 h)) (
  bndP (pFieldAddr 2 v14) fun v138 =>
  bnd (sStore 1 v138 v2 h) fun _ h1 =>
  bndP (pFieldAddr 3 v14) fun v139 =>
  bnd (sStore 1 v139 v3 h1) fun _ h2 =>
  j.1.2.2 v0 v2 v4 v12 v14 h2)
noncomputable def f3.b3 (I : Inp) (call : CallFn) (j : f3.Js) (v0 v2 v4 v12 v14 : AVal) (h : AHeap) : Rs :=
  bndP (pBin .eql v0 (Z 12)) fun v170 =>
  bnd (sGuard v170 .true (some (v4, h)) h) fun v172 h1 =>
  bnd (sGuard v170 .true (lift (pBin .eql v172 (Z 1)) h1) h1) fun v173 h2 =>
  bndP (pPick v170 v173 (.bool .false)) fun v174 =>
  sCond v174 (
  j.2.2.2 v12 v14 h2) (
  bnd (sBuildSlice [(Z 0)] 1 [(0, 1, v2)] h2) fun v176 h3 =>
  bndP (pFieldAddr 5 v14) fun v177 =>
  bnd (sStore 1 v177 v176 h3) fun _ h4 =>
  j.2.2.2 v12 v14 h4)
noncomputable def f3.b4 (I : Inp) (call : CallFn) (j : f3.Js) (v0 v2 v3 v4 v12 v14 v133 v140 : AVal) (h : AHeap) : Rs :=
  sCond v140 (
  bndP (pBin .eql v133 (Z 7)) fun v149 =>
  sCond v149 (
  bndP (pBin .eql v133 (Z 14)) fun v150 =>
  j.2.1.2 v0 v2 v3 v4 v12 v14 v133 v150 h) (
  j.2.1.2 v0 v2 v3 v4 v12 v14 v133 v149 h)) (
  bndP (pFieldAddr 2 v14) fun v147 =>
  bnd (sStore 1 v147 v2 h) fun _ h1 =>
  j.1.2.2 v0 v2 v4 v12 v14 h1)
noncomputable def f3.b5 (I : Inp) (call : CallFn) (j : f3.Js) (v0 v2 v3 v4 v12 v14 v133 v148 : AVal) (h : AHeap) : Rs :=
  sCond v148 (
  bndP (pBin .eql v133 (Z 8)) fun v156 =>
  sCond v156 (
  bndP (pBin .eql v133 (Z 1)) fun v164 =>
  sCond v164 (
  bndP (pBin .eql v133 (Z 10)) fun v165 =>
  sCond v165 (
  bndP (pBin .eql v133 (Z 12)) fun v166 =>
  j.2.2.1 v0 v2 v4 v12 v14 v166 h) (
  j.2.2.1 v0 v2 v4 v12 v14 v165 h)) (
  j.2.2.1 v0 v2 v4 v12 v14 v164 h)) (
  bndP (pFieldAddr 2 v14) fun v160 =>
  bnd (sStore 1 v160 v2 h) fun _ h1 =>
  bndP (pFieldAddr 3 v14) fun v161 =>
  bnd (sStore 1 v161 v3 h1) fun _ h2 =>
  bndP (pFieldAddr 4 v14) fun v162 =>
  bnd (sStore 1 v162 v4 h2) fun _ h3 =>
  j.1.2.2 v0 v2 v4 v12 v14 h3)) (
  bndP (pFieldAddr 2 v14) fun v153 =>
  bnd (sStore 1 v153 v2 h) fun _ h4 =>
  bndP (pFieldAddr 4 v14) fun v154 =>
  bnd (sStore 1 v154 v4 h4) fun _ h5 =>
  j.1.2.2 v0 v2 v4 v12 v14 h5)
noncomputable def f3.b6 (I : Inp) (call : CallFn) (j : f3.Js) (v0 v2 v4 v12 v14 v163 : AVal) (h : AHeap) : Rs :=
  sCond v163 (
  j.1.2.2 v0 v2 v4 v12 v14 h) (
  bndP (pFieldAddr 4 v14) fun v168 =>
  bnd (sStore 1 v168 v4 h) fun _ h1 =>
  j.1.2.2 v0 v2 v4 v12 v14 h1)
noncomputable def f3.b7 (I : Inp) (call : CallFn) (j : f3.Js) (v12 v14 : AVal) (h : AHeap) : Rs :=
  bndP (pLoadN I 6 v14 h) fun v179 =>
  bnd (call 13 [v12, (Z 0), v179] h) fun v180 h1 =>
  bndP (pNilCheck v12) fun v183 =>
  bndP (pFieldAddr 4 v183) fun v184 =>
  bndP (pLoad1 I v184 h1) fun v185 =>
  bndP (pIndexAddr 3 v185 (Z 0)) fun v186 =>
  bndP (pLoadN I 3 v186 h1) fun v187 =>
  bndP (pLoadN I 6 v14 h1) fun v188 =>
  bnd (call 14 [v12, v187, v188] h1) fun v189 h2 =>
  bndP (pEq P .false .bool .false v180 v189 h2) fun v190 =>
  sCheck (sSame (lift (pLoad1 I v184 h) h) v185 && true) (
  sCheck (sSame (lift (pLoadN I 3 v186 h) h) v187 && true) (
  sCheck (sSame (lift (pLoadN I 6 v14 h) h) v188 && true) (
  some (v190, h2))))
noncomputable def f3.e (I : Inp) (call : CallFn) (j : f3.Js) (v0 v1 v2 v3 v4 : AVal) (h : AHeap) : Rs :=
  bnd (call 10 [] h) fun v17 h1 =>
  bndP (pUn .not v17) fun v19 =>
  sCond v19 (
  j.1.1.1 v0 v1 v2 v3 v4 h1) (
  some ((.bool .false), h1))
noncomputable def f3.J (I : Inp) (call : CallFn) (n : Nat) : f3.Js :=
  Nat.rec (motive := fun _ => f3.Js) ((((fun _ _ _ _ _ _ => none), (fun _ _ _ _ _ _ => none)), ((fun _ _ _ _ _ _ _ => none), (fun _ _ _ _ _ _ => none))), (((fun _ _ _ _ _ _ _ _ _ => none), (fun _ _ _ _ _ _ _ _ _ => none)), ((fun _ _ _ _ _ _ _ => none), (fun _ _ _ => none)))) (fun _ ih => (((f3.b0 I call ih, f3.b1 I call ih), (f3.b2 I call ih, f3.b3 I call ih)), ((f3.b4 I call ih, f3.b5 I call ih), (f3.b6 I call ih, f3.b7 I call ih)))) n
noncomputable def f3.JS (I : Inp) (call : CallFn) (n : Nat) : Jmp := fun id ρ h =>
  (Bool.rec (motive := fun _ => _) (Bool.rec (motive := fun _ => _) (Bool.rec (motive := fun _ => _) ((f3.J I call n).2.2.2 (ρ 12) (ρ 14) h) ((f3.J I call n).2.2.1 (ρ 0) (ρ 2) (ρ 4) (ρ 12) (ρ 14) (ρ 163) h) (Nat.blt id 7)) (Bool.rec (motive := fun _ => _) ((f3.J I call n).2.1.2 (ρ 0) (ρ 2) (ρ 3) (ρ 4) (ρ 12) (ρ 14) (ρ 133) (ρ 148) h) ((f3.J I call n).2.1.1 (ρ 0) (ρ 2) (ρ 3) (ρ 4) (ρ 12) (ρ 14) (ρ 133) (ρ 140) h) (Nat.blt id 5)) (Nat.blt id 6)) (Bool.rec (motive := fun _ => _) (Bool.rec (motive := fun _ => _) ((f3.J I call n).1.2.2 (ρ 0) (ρ 2) (ρ 4) (ρ 12) (ρ 14) h) ((f3.J I call n).1.2.1 (ρ 0) (ρ 2) (ρ 3) (ρ 4) (ρ 12) (ρ 14) h) (Nat.blt id 3)) (Bool.rec (motive := fun _ => _) ((f3.J I call n).1.1.2 (ρ 0) (ρ 1) (ρ 2) (ρ 3) (ρ 4) h) ((f3.J I call n).1.1.1 (ρ 0) (ρ 1) (ρ 2) (ρ 3) (ρ 4) h) (Nat.blt id 1)) (Nat.blt id 2)) (Nat.blt id 4))
theorem f3.z0 (I : Inp) (call : CallFn) (ρ : Fun) (h : AHeap) : f3.JS I call 0 0 ρ h = none := rfl
theorem f3.z1 (I : Inp) (call : CallFn) (ρ : Fun) (h : AHeap) : f3.JS I call 0 1 ρ h = none := rfl
theorem f3.z2 (I : Inp) (call : CallFn) (ρ : Fun) (h : AHeap) : f3.JS I call 0 2 ρ h = none := rfl
theorem f3.z3 (I : Inp) (call : CallFn) (ρ : Fun) (h : AHeap) : f3.JS I call 0 3 ρ h = none := rfl
theorem f3.z4 (I : Inp) (call : CallFn) (ρ : Fun) (h : AHeap) : f3.JS I call 0 4 ρ h = none := rfl
theorem f3.z5 (I : Inp) (call : CallFn) (ρ : Fun) (h : AHeap) : f3.JS I call 0 5 ρ h = none := rfl
theorem f3.z6 (I : Inp) (call : CallFn) (ρ : Fun) (h : AHeap) : f3.JS I call 0 6 ρ h = none := rfl
theorem f3.z7 (I : Inp) (call : CallFn) (ρ : Fun) (h : AHeap) : f3.JS I call 0 7 ρ h = none := rfl
theorem f3.q0 (I : Inp) (call : CallFn) (n : Nat) (ρ : Fun) (h : AHeap) : f3.JS I call (n + 1) 0 ρ h = labC P I call (f3.JS I call n) c3.body 0 (finV I c3.results) 0 ρ h := by kernel_rfl
theorem f3.q1 (I : Inp) (call : CallFn) (n : Nat) (ρ : Fun) (h : AHeap) : f3.JS I call (n + 1) 1 ρ h = labC P I call (f3.JS I call n) c3.body 0 (finV I c3.results) 1 ρ h := by kernel_rfl
theorem f3.q2 (I : Inp) (call : CallFn) (n : Nat) (ρ : Fun) (h : AHeap) : f3.JS I call (n + 1) 2 ρ h = labC P I call (f3.JS I call n) c3.body 0 (finV I c3.results) 2 ρ h := by kernel_rfl
theorem f3.q3 (I : Inp) (call : CallFn) (n : Nat) (ρ : Fun) (h : AHeap) : f3.JS I call (n + 1) 3 ρ h = labC P I call (f3.JS I call n) c3.body 0 (finV I c3.results) 3 ρ h := by kernel_rfl
theorem f3.q4 (I : Inp) (call : CallFn) (n : Nat) (ρ : Fun) (h : AHeap) : f3.JS I call (n + 1) 4 ρ h = labC P I call (f3.JS I call n) c3.body 0 (finV I c3.results) 4 ρ h := by kernel_rfl
theorem f3.q5 (I : Inp) (call : CallFn) (n : Nat) (ρ : Fun) (h : AHeap) : f3.JS I call (n + 1) 5 ρ h = labC P I call (f3.JS I call n) c3.body 0 (finV I c3.results) 5 ρ h := by kernel_rfl
theorem f3.q6 (I : Inp) (call : CallFn) (n : Nat) (ρ : Fun) (h : AHeap) : f3.JS I call (n + 1) 6 ρ h = labC P I call (f3.JS I call n) c3.body 0 (finV I c3.results) 6 ρ h := by kernel_rfl
theorem f3.q7 (I : Inp) (call : CallFn) (n : Nat) (ρ : Fun) (h : AHeap) : f3.JS I call (n + 1) 7 ρ h = labC P I call (f3.JS I call n) c3.body 0 (finV I c3.results) 7 ρ h := by kernel_rfl
theorem f3.S (I : Inp) (F : Nat → Option AFn) (call : CallFn) : SFn ⟨P, I, F⟩ call c3 (f3.JS I call) :=
  ⟨fun id hid ρ h => by
    have hc : c3.body.cnt = 8 := by kernel_rfl
    rw [hc] at hid
    exact match id, hid with
    | 0, _ => f3.z0 I call ρ h
    | 1, _ => f3.z1 I call ρ h
    | 2, _ => f3.z2 I call ρ h
    | 3, _ => f3.z3 I call ρ h
    | 4, _ => f3.z4 I call ρ h
    | 5, _ => f3.z5 I call ρ h
    | 6, _ => f3.z6 I call ρ h
    | 7, _ => f3.z7 I call ρ h
    | id + 8, hid => absurd hid (by omega), fun n id hid ρ h => by
    have hc : c3.body.cnt = 8 := by kernel_rfl
    rw [hc] at hid
    exact match id, hid with
    | 0, _ => f3.q0 I call n ρ h
    | 1, _ => f3.q1 I call n ρ h
    | 2, _ => f3.q2 I call n ρ h
    | 3, _ => f3.q3 I call n ρ h
    | 4, _ => f3.q4 I call n ρ h
    | 5, _ => f3.q5 I call n ρ h
    | 6, _ => f3.q6 I call n ρ h
    | 7, _ => f3.q7 I call n ρ h
    | id + 8, hid => absurd hid (by omega)⟩
noncomputable def f3.run (I : Inp) : SF := fun call n a h =>
  match a with
  | [v0, v1, v2, v3, v4] => f3.e I call (f3.J I call n) v0 v1 v2 v3 v4 h
  | _ => none
theorem f3.qe (I : Inp) (call : CallFn) (n : Nat) (v0 v1 v2 v3 v4 : AVal) (h : AHeap) : f3.e I call (f3.J I call n) v0 v1 v2 v3 v4 h = execC P I call (f3.JS I call n) c3.body 0 (finV I c3.results) (argV [v0, v1, v2, v3, v4]) h := by kernel_rfl
theorem f3.code : codeOf P 3 = some c3 := by kernel_rfl
theorem f3.ok (I : Inp) (F : Nat → Option AFn) (hF : F 3 = some (.code c3)) : SfOk P I F 3 (f3.run I) := by
  intro call hc n args h r hr
  unfold f3.run at hr
  split at hr
  · exact fn_sound (C := ⟨P, I, F⟩) (n := n) hc hF (Nat.le_of_ble_eq_true (by kernel_rfl)) (by kernel_rfl) (f3.S I F call) (by kernel_rfl) ((f3.qe I call n _ _ _ _ _ h).symm.trans hr)
  · cases hr
/-! haruspex/haruspexlaw10.TypesLimits -/
noncomputable def c4 : AFunc := (AFunc.mk 148 2 [(.tmp 4)] (.seq (.region [(S 4 (.move (.val (.bool .false))) .none)]) (.seq (.region [(S 12 (.call 10 []) .none), (M 5 12)]) (.seq (.seq (.region [(M 13 5), (S 14 (.un .not (T 13)) .none)]) (.cond (T 14) (.seq (.region [(S 4 (.move (.val (.bool .false))) .none)]) .ret) .skip)) (.seq (.seq (.region [(M 15 0), (S 16 (.bin .lss (T 15) (V 0)) .none), (M 17 16), (S 18 (.move (T 0)) (.some (17, .false))), (S 19 (.bin .gtr (T 18) (V 9)) (.some (17, .false))), (S 20 (.pick (T 17) (.val (.bool .true)) (T 19)) .none), (M 21 20), (S 22 (.move (T 1)) (.some (21, .false))), (S 23 (.bin .lss (T 22) (V 0)) (.some (21, .false))), (S 24 (.pick (T 21) (.val (.bool .true)) (T 23)) .none), (M 25 24), (S 26 (.move (T 1)) (.some (25, .false))), (S 27 (.bin .gtr (T 26) (V 40)) (.some (25, .false))), (S 28 (.pick (T 25) (.val (.bool .true)) (T 27)) .none)]) (.cond (T 28) (.seq (.region [(S 4 (.move (.val (.bool .true))) .none)]) .ret) .skip)) (.seq (.region [(S 29 (.call 11 []) .none), (M 6 29)]) (.seq (.region [(M 30 6), (S 31 (.nilCheck (T 30)) .none), (S 32 (.fieldAddr 4 (T 31)) .none), (S 33 (.load1 (T 32)) .none), (S 34 (.indexAddr 3 (T 33) (V 0)) .none), (M 7 34)]) (.seq (.region [(S 35 (.buildSlice [(Z 0)] 10 [(0, (1, (V 6))), (1, (1, (V 10))), (2, (1, (V 4))), (3, (1, (V 12))), (4, (1, (V 12))), (5, (1, (V 4))), (6, (1, (V 4))), (7, (1, (V 12))), (8, (1, (V 30))), (9, (1, (V 16)))]) .none), (M 36 0), (S 37 (.indexAddr 1 (T 35) (T 36)) .none), (S 38 (.load1 (T 37)) .none), (M 8 38)]) (.seq (.seq (.region [(M 39 0)]) (.block 0 (.seq (.region [(S 46 (.bin .eql (T 39) (V 0)) .none), (M 45 46)]) (.cond (T 45) (.region [(M 47 6), (M 48 1), (S 49 (.makeSlice [.nils] 24 (T 48) (T 48)) .none), (S 50 (.nilCheck (T 47)) .none), (S 51 (.fieldAddr 0 (T 50)) .none), (AOper.mk .none (.store 1 (T 51) (T 49)) .none)]) (.seq (.region [(S 53 (.bin .eql (T 39) (V 1)) .none), (M 52 53)]) (.cond (T 52) (.region [(M 54 6), (M 55 1), (S 56 (.makeSlice [.nils, (Z 0), (Z 0)] 40 (T 55) (T 55)) .none), (S 57 (.nilCheck (T 54)) .none), (S 58 (.fieldAddr 1 (T 57)) .none), (AOper.mk .none (.store 1 (T 58) (T 56)) .none)]) (.seq (.region [(S 60 (.bin .eql (T 39) (V 2)) .none), (M 59 60)]) (.cond (T 59) (.region [(M 61 6), (M 62 1), (S 63 (.makeSlice [.nils] 24 (T 62) (T 62)) .none), (S 64 (.nilCheck (T 61)) .none), (S 65 (.fieldAddr 2 (T 64)) .none), (AOper.mk .none (.store 1 (T 65) (T 63)) .none)]) (.seq (.region [(S 67 (.bin .eql (T 39) (V 3)) .none), (M 66 67)]) (.cond (T 66) (.region [(M 68 6), (M 69 1), (S 70 (.makeSlice [(Z 0), (Z 0), .nils] 40 (T 69) (T 69)) .none), (S 71 (.nilCheck (T 68)) .none), (S 72 (.fieldAddr 3 (T 71)) .none), (AOper.mk .none (.store 1 (T 72) (T 70)) .none)]) (.seq (.region [(S 74 (.bin .eql (T 39) (V 4)) .none), (M 73 74)]) (.cond (T 73) (.seq (.region [(M 75 6), (S 76 (.nilCheck (T 75)) .none), (S 77 (.fieldAddr 4 (T 76)) .none), (AOper.mk .none (.store 1 (T 77) (.val .nils)) .none)]) (.seq (.region [(S 9 (.move (V 0)) .none)]) (.block 1 (.loop (.seq (.seq (.region [(M 78 9), (M 79 1), (S 80 (.bin .lss (T 78) (T 79)) .none)]) (.cond (T 80) .skip (.exit 1))) (.seq (.block 2 (.draw [(M 83 6), (M 84 6), (S 85 (.nilCheck (T 84)) .none), (S 86 (.fieldAddr 4 (T 85)) .none), (S 87 (.load1 (T 86)) .none), (S 88 (.makeSlice [.nils, (Z 0), (Z 0), (Z 0), (Z 0)] 56 (V 1) (V 1)) .none), (S 89 (.build [(Z 0), .nils, .nils] [(2, (1, (T 88)))]) .none), (S 90 (.buildSlice [(Z 0), .nils, .nils] 1 [(0, (3, (T 89)))]) .none), (S 91 (.append 3 56 (T 87) (T 90)) .none), (S 92 (.nilCheck (T 83)) .none), (S 93 (.fieldAddr 4 (T 92)) .none), (AOper.mk .none (.store 1 (T 93) (T 91)) .none)] [N, N, N, N, (.false, [1, 2]), Y, N, Y, Y, N, N, Y] 0)) (.region [(M 81 9), (S 82 (.bin .add (T 81) (V 1)) .none), (M 9 82)]))))))) (.seq (.region [(S 95 (.bin .eql (T 39) (V 5)) .none), (M 94 95)]) (.cond (T 94) (.region [(M 96 6), (M 97 1), (S 98 (.makeSlice [(Z 0), (Z 0)] 16 (T 97) (T 97)) .none), (S 99 (.buildSlice [.nils] 1 [(0, (1, (T 98)))]) .none), (S 100 (.nilCheck (T 96)) .none), (S 101 (.fieldAddr 0 (T 100)) .none), (AOper.mk .none (.store 1 (T 101) (T 99)) .none)]) (.seq (.region [(S 103 (.bin .eql (T 39) (V 6)) .none), (M 102 103)]) (.cond (T 102) (.draw [(M 104 6), (S 105 (.nilCheck (T 104)) .none), (S 106 (.fieldAddr 1 (T 105)) .none), (S 107 (.load1 (T 106)) .none), (M 108 1), (S 109 (.makeSlice [(Z 0), (Z 0)] 16 (T 108) (T 108)) .none), (S 110 (.indexAddr 3 (T 107) (V 0)) .none), (S 111 (.fieldAddr 0 (T 110)) .none), (AOper.mk .none (.store 1 (T 111) (T 109)) .none)] [N, N, N, (.false, [1]), N, Y, N, N, Y] 0) (.seq (.region [(S 113 (.bin .eql (T 39) (V 7)) .none), (M 112 113)]) (.cond (T 112) (.region [(M 114 7), (M 115 1), (S 116 (.makeSlice [.nils, (Z 0), (Z 0), (Z 0), (Z 0)] 56 (T 115) (T 115)) .none), (S 117 (.nilCheck (T 114)) .none), (S 118 (.fieldAddr 2 (T 117)) .none), (AOper.mk .none (.store 1 (T 118) (T 116)) .none)]) (.seq (.region [(S 120 (.bin .eql (T 39) (V 8)) .none), (M 119 120)]) (.cond (T 119) (.draw [(M 121 7), (S 122 (.nilCheck (T 121)) .none), (S 123 (.fieldAddr 2 (T 122)) .none), (S 124 (.load1 (T 123)) .none), (M 125 1), (S 126 (.makeSlice [(Z 0), (Z 0), (Z 0), (Z 0), (Z 0), .nils] 64 (T 125) (T 125)) .none), (S 127 (.indexAddr 5 (T 124) (V 0)) .none), (S 128 (.fieldAddr 0 (T 127)) .none), (AOper.mk .none (.store 1 (T 128) (T 126)) .none)] [N, N, N, (.false, [1]), N, Y, N, N, Y] 0) (.region [(M 40 7), (M 41 1), (S 42 (.makeSlice [(Z 0), (Z 0)] 16 (T 41) (T 41)) .none), (S 43 (.nilCheck (T 40)) .none), (S 44 (.fieldAddr 1 (T 43)) .none), (AOper.mk .none (.store 1 (T 44) (T 42)) .none)]))))))))))))))))))))) (.seq (.region [(S 10 (.move (V 0)) .none)]) (.seq (.seq (.region [(M 129 0), (S 130 (.bin .eql (T 129) (V 4)) .none), (M 131 130), (S 132 (.move (T 0)) (.some (131, .false))), (S 133 (.bin .eql (T 132) (V 7)) (.some (131, .false))), (S 134 (.pick (T 131) (.val (.bool .true)) (T 133)) .none)]) (.cond (T 134) (.region [(S 10 (.move (V 1)) .none)]) .skip)) (.seq (.region [(S 11 (.move (V 0)) .none)]) (.seq (.seq (.region [(M 135 1), (M 136 8), (S 137 (.bin .gtr (T 135) (T 136)) .none), (M 138 137), (S 139 (.move (T 1)) (.some (138, .false))), (S 140 (.move (T 10)) (.some (138, .false))), (S 141 (.bin .lss (T 139) (T 140)) (.some (138, .false))), (S 142 (.pick (T 138) (.val (.bool .true)) (T 141)) .none)]) (.cond (T 142) (.region [(S 11 (.move (V 2)) .none)]) .skip)) (.seq (.region [(M 143 6), (S 144 (.call 16 [(T 143)]) .none), (M 145 11), (S 146 (.call 17 []) .none), (S 147 (.call 15 [(T 144), (T 145), (T 146)]) .none), (M 4 147)]) .ret))))))))))))))
abbrev f4.Js : Type := ((((AVal → AVal → AHeap → Rs) × (AVal → AVal → AHeap → Rs)) × ((AVal → AVal → AVal → AVal → AHeap → Rs) × (AVal → AVal → AVal → AVal → AVal → AHeap → Rs))) × (((AVal → AVal → AVal → AVal → AVal → AHeap → Rs) × (AVal → AVal → AVal → AVal → AVal → AHeap → Rs)) × ((AVal → AVal → AVal → AVal → AHeap → Rs) × (AVal → AVal → AHeap → Rs))))
noncomputable def f4.b0 (I : Inp) (call : CallFn) (j : f4.Js) (v0 v1 : AVal) (h : AHeap) : Rs :=
  bndP (pBin .lss v0 (Z 0)) fun v16 =>
  bnd (sGuard v16 .false (some (v0, h)) h) fun v18 h1 =>
  bnd (sGuard v16 .false (lift (pBin .gtr v18 (Z 9)) h1) h1) fun v19 h2 =>
  bndP (pPick v16 (.bool .true) v19) fun v20 =>
  bnd (sGuard v20 .false (some (v1, h2)) h2) fun v22 h3 =>
  bnd (sGuard v20 .false (lift (pBin .lss v22 (Z 0)) h3) h3) fun v23 h4 =>
  bndP (pPick v20 (.bool .true) v23) fun v24 =>
  bnd (sGuard v24 .false (some (v1, h4)) h4) fun v26 h5 =>
  bnd (sGuard v24 .false (lift (pBin .gtr v26 (Z 40)) h5) h5) fun v27 h6 =>
  bndP (pPick v24 (.bool .true) v27) fun v28 =>
  sCond v28 (
  j.1.1.2 v0 v1 h6) (
  some ((.bool .true), h6))
noncomputable def f4.b1 (I : Inp) (call : CallFn) (j : f4.Js) (v0 v1 : AVal) (h : AHeap) : Rs :=
  bnd (call 11 [] h) fun v29 h1 =>
  bndP (pNilCheck v29) fun v31 =>
  bndP (pFieldAddr 4 v31) fun v32 =>
  bndP (pLoad1 I v32 h1) fun v33 =>
  bndP (pIndexAddr 3 v33 (Z 0)) fun v34 =>
  bnd (sBuildSlice [(Z 0)] 10 [(0, 1, (Z 6)), (1, 1, (Z 10)), (2, 1, (Z 4)), (3, 1, (Z 12)), (4, 1, (Z 12)), (5, 1, (Z 4)), (6, 1, (Z 4)), (7, 1, (Z 12)), (8, 1, (Z 30)), (9, 1, (Z 16))] h1) fun v35 h2 =>
  bndP (pIndexAddr 1 v35 v0) fun v37 =>
  bndP (pLoad1 I v37 h2) fun v38 =>
  bndP (pBin .eql v0 (Z 0)) fun v46 =>
  sCond v46 (
  bndP (pBin .eql v0 (Z 1)) fun v53 =>
  sCond v53 (
  bndP (pBin .eql v0 (Z 2)) fun v60 =>
  sCond v60 (
  bndP (pBin .eql v0 (Z 3)) fun v67 =>
  sCond v67 (
  bndP (pBin .eql v0 (Z 4)) fun v74 =>
  sCond v74 (
  bndP (pBin .eql v0 (Z 5)) fun v95 =>
  sCond v95 (
  bndP (pBin .eql v0 (Z 6)) fun v103 =>
  sCond v103 (
  bndP (pBin .eql v0 (Z 7)) fun v113 =>
  sCond v113 (
  bndP (pBin .eql v0 (Z 8)) fun v120 =>
  sCond v120 (
  bnd (sMakeSlice [(Z 0), (Z 0)] 16 v1 v1 h2) fun v42 h3 =>
  bndP (pNilCheck v34) fun v43 =>
  bndP (pFieldAddr 1 v43) fun v44 =>
  bnd (sStore 1 v44 v42 h3) fun _ h4 =>
  j.1.2.1 v0 v1 v29 v38 h4) (
  bndP (pNilCheck v34) fun v122 =>
  bndP (pFieldAddr 2 v122) fun v123 =>
  bndP (pLoad1 I v123 h2) fun v124 =>
  bnd (sMakeSlice [(Z 0), (Z 0), (Z 0), (Z 0), (Z 0), .nils] 64 v1 v1 h2) fun v126 h5 =>
  bndP (pIndexAddr 5 v124 (Z 0)) fun v127 =>
  bndP (pFieldAddr 0 v127) fun v128 =>
  bnd (sStore 1 v128 v126 h5) fun _ h6 =>
  sCheck (sSame (lift (pLoad1 I v123 h5) h5) v124 && true) (
  j.1.2.1 v0 v1 v29 v38 h6))) (
  bnd (sMakeSlice [.nils, (Z 0), (Z 0), (Z 0), (Z 0)] 56 v1 v1 h2) fun v116 h7 =>
  bndP (pNilCheck v34) fun v117 =>
  bndP (pFieldAddr 2 v117) fun v118 =>
  bnd (sStore 1 v118 v116 h7) fun _ h8 =>
  j.1.2.1 v0 v1 v29 v38 h8)) (
  bndP (pNilCheck v29) fun v105 =>
  bndP (pFieldAddr 1 v105) fun v106 =>
  bndP (pLoad1 I v106 h2) fun v107 =>
  bnd (sMakeSlice [(Z 0), (Z 0)] 16 v1 v1 h2) fun v109 h9 =>
  bndP (pIndexAddr 3 v107 (Z 0)) fun v110 =>
  bndP (pFieldAddr 0 v110) fun v111 =>
  bnd (sStore 1 v111 v109 h9) fun _ h10 =>
  sCheck (sSame (lift (pLoad1 I v106 h9) h9) v107 && true) (
  j.1.2.1 v0 v1 v29 v38 h10))) (
  bnd (sMakeSlice [(Z 0), (Z 0)] 16 v1 v1 h2) fun v98 h11 =>
  bnd (sBuildSlice [.nils] 1 [(0, 1, v98)] h11) fun v99 h12 =>
  bndP (pNilCheck v29) fun v100 =>
  bndP (pFieldAddr 0 v100) fun v101 =>
  bnd (sStore 1 v101 v99 h12) fun _ h13 =>
  j.1.2.1 v0 v1 v29 v38 h13)) (
  bndP (pNilCheck v29) fun v76 =>
  bndP (pFieldAddr 4 v76) fun v77 =>
  bnd (sStore 1 v77 .nils h2) fun _ h14 =>
  j.1.2.2 v0 v1 v29 v38 (Z 0) h14)) (
  bnd (sMakeSlice [(Z 0), (Z 0), .nils] 40 v1 v1 h2) fun v70 h15 =>
  bndP (pNilCheck v29) fun v71 =>
  bndP (pFieldAddr 3 v71) fun v72 =>
  bnd (sStore 1 v72 v70 h15) fun _ h16 =>
  j.1.2.1 v0 v1 v29 v38 h16)) (
  bnd (sMakeSlice [.nils] 24 v1 v1 h2) fun v63 h17 =>
  bndP (pNilCheck v29) fun v64 =>
  bndP (pFieldAddr 2 v64) fun v65 =>
  bnd (sStore 1 v65 v63 h17) fun _ h18 =>
  j.1.2.1 v0 v1 v29 v38 h18)) (
  bnd (sMakeSlice [.nils, (Z 0), (Z 0)] 40 v1 v1 h2) fun v56 h19 =>
  bndP (pNilCheck v29) fun v57 =>
  bndP (pFieldAddr 1 v57) fun v58 =>
  bnd (sStore 1 v58 v56 h19) fun _ h20 =>
  j.1.2.1 v0 v1 v29 v38 h20)) (
  bnd (sMakeSlice [.nils] 24 v1 v1 h2) fun v49 h21 =>
  bndP (pNilCheck v29) fun v50 =>
  bndP (pFieldAddr 0 v50) fun v51 =>
  bnd (sStore 1 v51 v49 h21) fun _ h22 =>
  j.1.2.1 v0 v1 v29 v38 h22)
noncomputable def f4.b2 (I : Inp) (call : CallFn) (j : f4.Js) (v0 v1 v6 v8 : AVal) (h : AHeap) : Rs :=
  bndP (pBin .eql v0 (Z 4)) fun v130 =>
  bnd (sGuard v130 .false (some (v0, h)) h) fun v132 h1 =>
  bnd (sGuard v130 .false (lift (pBin .eql v132 (Z 7)) h1) h1) fun v133 h2 =>
  bndP (pPick v130 (.bool .true) v133) fun v134 =>
  sCond v134 (
  j.2.2.1 v1 v6 v8 (Z 0) h2) (
  j.2.2.1 v1 v6 v8 (Z 1) h2)
noncomputable def f4.b3 (I : Inp) (call : CallFn) (j : f4.Js) (v0 v1 v6 v8 v9 : AVal) (h : AHeap) : Rs :=
  bndP (pBin .lss v9 v1) fun v80 =>
  sCond v80 (
  j.1.2.1 v0 v1 v6 v8 h) (
  j.2.1.1 v0 v1 v6 v8 v9 h)
noncomputable def f4.b4 (I : Inp) (call : CallFn) (j : f4.Js) (v0 v1 v6 v8 v9 : AVal) (h : AHeap) : Rs :=
  bndP (pNilCheck v6) fun v85 =>
  bndP (pFieldAddr 4 v85) fun v86 =>
  bndP (pLoad1 I v86 h) fun v87 =>
  bnd (sMakeSlice [.nils, (Z 0), (Z 0), (Z 0), (Z 0)] 56 (Z 1) (Z 1) h) fun v88 h1 =>
  bndP (pBuild [(Z 0), .nils, .nils] [(2, 1, v88)]) fun v89 =>
  bnd (sBuildSlice [(Z 0), .nils, .nils] 1 [(0, 3, v89)] h1) fun v90 h2 =>
  bnd (sAppend I 3 56 v87 v90 h2) fun v91 h3 =>
  bndP (pNilCheck v6) fun v92 =>
  bndP (pFieldAddr 4 v92) fun v93 =>
  bnd (sStore 1 v93 v91 h3) fun _ h4 =>
  sCheck (sSame (lift (pLoad1 I v86 h1) h1) v87 && (sSame (lift (pLoad1 I v86 h2) h2) v87 && true)) (
  j.2.1.2 v0 v1 v6 v8 v9 h4)
noncomputable def f4.b5 (I : Inp) (call : CallFn) (j : f4.Js) (v0 v1 v6 v8 v9 : AVal) (h : AHeap) : Rs :=
  bndP (pBin .add v9 (Z 1)) fun v82 =>
  j.1.2.2 v0 v1 v6 v8 v82 h
noncomputable def f4.b6 (I : Inp) (call : CallFn) (j : f4.Js) (v1 v6 v8 v10 : AVal) (h : AHeap) : Rs :=
  bndP (pBin .gtr v1 v8) fun v137 =>
  bnd (sGuard v137 .false (some (v1, h)) h) fun v139 h1 =>
  bnd (sGuard v137 .false (some (v10, h1)) h1) fun v140 h2 =>
  bnd (sGuard v137 .false (lift (pBin .lss v139 v140) h2) h2) fun v141 h3 =>
  bndP (pPick v137 (.bool .true) v141) fun v142 =>
  sCond v142 (
  j.2.2.2 v6 (Z 0) h3) (
  j.2.2.2 v6 (Z 2) h3)
noncomputable def f4.b7 (I : Inp) (call : CallFn) (j : f4.Js) (v6 v11 : AVal) (h : AHeap) : Rs :=
  bnd (call 16 [v6] h) fun v144 h1 =>
  bnd (call 17 [] h1) fun v146 h2 =>
  bnd (call 15 [v144, v11, v146] h2) fun v147 h3 =>
  some (v147, h3)
noncomputable def f4.e (I : Inp) (call : CallFn) (j : f4.Js) (v0 v1 : AVal) (h : AHeap) : Rs :=
  bnd (call 10 [] h) fun v12 h1 =>
  bndP (pUn .not v12) fun v14 =>
  sCond v14 (
  j.1.1.1 v0 v1 h1) (
  some ((.bool .false), h1))
noncomputable def f4.J (I : Inp) (call : CallFn) (n : Nat) : f4.Js :=
  Nat.rec (motive := fun _ => f4.Js) ((((fun _ _ _ => none), (fun _ _ _ => none)), ((fun _ _ _ _ _ => none), (fun _ _ _ _ _ _ => none))), (((fun _ _ _ _ _ _ => none), (fun _ _ _ _ _ _ => none)), ((fun _ _ _ _ _ => none), (fun _ _ _ => none)))) (fun _ ih => (((f4.b0 I call ih, f4.b1 I call ih), (f4.b2 I call ih, f4.b3 I call ih)), ((f4.b4 I call ih, f4.b5 I call ih), (f4.b6 I call ih, f4.b7 I call ih)))) n
noncomputable def f4.JS (I : Inp) (call : CallFn) (n : Nat) : Jmp := fun id ρ h =>
  (Bool.rec (motive := fun _ => _) (Bool.rec (motive := fun _ => _) (Bool.rec (motive := fun _ => _) ((f4.J I call n).2.2.2 (ρ 6) (ρ 11) h) ((f4.J I call n).2.2.1 (ρ 1) (ρ 6) (ρ 8) (ρ 10) h) (Nat.blt id 7)) (Bool.rec (motive := fun _ => _) ((f4.J I call n).2.1.2 (ρ 0) (ρ 1) (ρ 6) (ρ 8) (ρ 9) h) ((f4.J I call n).2.1.1 (ρ 0) (ρ 1) (ρ 6) (ρ 8) (ρ 9) h) (Nat.blt id 5)) (Nat.blt id 6)) (Bool.rec (motive := fun _ => _) (Bool.rec (motive := fun _ => _) ((f4.J I call n).1.2.2 (ρ 0) (ρ 1) (ρ 6) (ρ 8) (ρ 9) h) ((f4.J I call n).1.2.1 (ρ 0) (ρ 1) (ρ 6) (ρ 8) h) (Nat.blt id 3)) (Bool.rec (motive := fun _ => _) ((f4.J I call n).1.1.2 (ρ 0) (ρ 1) h) ((f4.J I call n).1.1.1 (ρ 0) (ρ 1) h) (Nat.blt id 1)) (Nat.blt id 2)) (Nat.blt id 4))
theorem f4.z0 (I : Inp) (call : CallFn) (ρ : Fun) (h : AHeap) : f4.JS I call 0 0 ρ h = none := rfl
theorem f4.z1 (I : Inp) (call : CallFn) (ρ : Fun) (h : AHeap) : f4.JS I call 0 1 ρ h = none := rfl
theorem f4.z2 (I : Inp) (call : CallFn) (ρ : Fun) (h : AHeap) : f4.JS I call 0 2 ρ h = none := rfl
theorem f4.z3 (I : Inp) (call : CallFn) (ρ : Fun) (h : AHeap) : f4.JS I call 0 3 ρ h = none := rfl
theorem f4.z4 (I : Inp) (call : CallFn) (ρ : Fun) (h : AHeap) : f4.JS I call 0 4 ρ h = none := rfl
theorem f4.z5 (I : Inp) (call : CallFn) (ρ : Fun) (h : AHeap) : f4.JS I call 0 5 ρ h = none := rfl
theorem f4.z6 (I : Inp) (call : CallFn) (ρ : Fun) (h : AHeap) : f4.JS I call 0 6 ρ h = none := rfl
theorem f4.z7 (I : Inp) (call : CallFn) (ρ : Fun) (h : AHeap) : f4.JS I call 0 7 ρ h = none := rfl
theorem f4.q0 (I : Inp) (call : CallFn) (n : Nat) (ρ : Fun) (h : AHeap) : f4.JS I call (n + 1) 0 ρ h = labC P I call (f4.JS I call n) c4.body 0 (finV I c4.results) 0 ρ h := by kernel_rfl
theorem f4.q1 (I : Inp) (call : CallFn) (n : Nat) (ρ : Fun) (h : AHeap) : f4.JS I call (n + 1) 1 ρ h = labC P I call (f4.JS I call n) c4.body 0 (finV I c4.results) 1 ρ h := by kernel_rfl
theorem f4.q2 (I : Inp) (call : CallFn) (n : Nat) (ρ : Fun) (h : AHeap) : f4.JS I call (n + 1) 2 ρ h = labC P I call (f4.JS I call n) c4.body 0 (finV I c4.results) 2 ρ h := by kernel_rfl
theorem f4.q3 (I : Inp) (call : CallFn) (n : Nat) (ρ : Fun) (h : AHeap) : f4.JS I call (n + 1) 3 ρ h = labC P I call (f4.JS I call n) c4.body 0 (finV I c4.results) 3 ρ h := by kernel_rfl
theorem f4.q4 (I : Inp) (call : CallFn) (n : Nat) (ρ : Fun) (h : AHeap) : f4.JS I call (n + 1) 4 ρ h = labC P I call (f4.JS I call n) c4.body 0 (finV I c4.results) 4 ρ h := by kernel_rfl
theorem f4.q5 (I : Inp) (call : CallFn) (n : Nat) (ρ : Fun) (h : AHeap) : f4.JS I call (n + 1) 5 ρ h = labC P I call (f4.JS I call n) c4.body 0 (finV I c4.results) 5 ρ h := by kernel_rfl
theorem f4.q6 (I : Inp) (call : CallFn) (n : Nat) (ρ : Fun) (h : AHeap) : f4.JS I call (n + 1) 6 ρ h = labC P I call (f4.JS I call n) c4.body 0 (finV I c4.results) 6 ρ h := by kernel_rfl
theorem f4.q7 (I : Inp) (call : CallFn) (n : Nat) (ρ : Fun) (h : AHeap) : f4.JS I call (n + 1) 7 ρ h = labC P I call (f4.JS I call n) c4.body 0 (finV I c4.results) 7 ρ h := by kernel_rfl
theorem f4.S (I : Inp) (F : Nat → Option AFn) (call : CallFn) : SFn ⟨P, I, F⟩ call c4 (f4.JS I call) :=
  ⟨fun id hid ρ h => by
    have hc : c4.body.cnt = 8 := by kernel_rfl
    rw [hc] at hid
    exact match id, hid with
    | 0, _ => f4.z0 I call ρ h
    | 1, _ => f4.z1 I call ρ h
    | 2, _ => f4.z2 I call ρ h
    | 3, _ => f4.z3 I call ρ h
    | 4, _ => f4.z4 I call ρ h
    | 5, _ => f4.z5 I call ρ h
    | 6, _ => f4.z6 I call ρ h
    | 7, _ => f4.z7 I call ρ h
    | id + 8, hid => absurd hid (by omega), fun n id hid ρ h => by
    have hc : c4.body.cnt = 8 := by kernel_rfl
    rw [hc] at hid
    exact match id, hid with
    | 0, _ => f4.q0 I call n ρ h
    | 1, _ => f4.q1 I call n ρ h
    | 2, _ => f4.q2 I call n ρ h
    | 3, _ => f4.q3 I call n ρ h
    | 4, _ => f4.q4 I call n ρ h
    | 5, _ => f4.q5 I call n ρ h
    | 6, _ => f4.q6 I call n ρ h
    | 7, _ => f4.q7 I call n ρ h
    | id + 8, hid => absurd hid (by omega)⟩
noncomputable def f4.run (I : Inp) : SF := fun call n a h =>
  match a with
  | [v0, v1] => f4.e I call (f4.J I call n) v0 v1 h
  | _ => none
theorem f4.qe (I : Inp) (call : CallFn) (n : Nat) (v0 v1 : AVal) (h : AHeap) : f4.e I call (f4.J I call n) v0 v1 h = execC P I call (f4.JS I call n) c4.body 0 (finV I c4.results) (argV [v0, v1]) h := by kernel_rfl
theorem f4.code : codeOf P 4 = some c4 := by kernel_rfl
theorem f4.ok (I : Inp) (F : Nat → Option AFn) (hF : F 4 = some (.code c4)) : SfOk P I F 4 (f4.run I) := by
  intro call hc n args h r hr
  unfold f4.run at hr
  split at hr
  · exact fn_sound (C := ⟨P, I, F⟩) (n := n) hc hF (Nat.le_of_ble_eq_true (by kernel_rfl)) (by kernel_rfl) (f4.S I F call) (by kernel_rfl) ((f4.qe I call n _ _ h).symm.trans hr)
  · cases hr
/-! haruspex/haruspexlaw10.begun -/
noncomputable def c10 : AFunc := (AFunc.mk 54 0 [(.tmp 0)] (.seq (.region [(S 0 (.move (.val (.bool .false))) .none)]) (.seq (.region [(S 3 (.call 11 []) .none), (M 1 3)]) (.seq (.region [(S 4 (.call 11 []) .none), (M 2 4)]) (.seq (.region [(M 5 2), (S 6 (.nilCheck (T 5)) .none), (S 7 (.fieldAddr 4 (T 6)) .none), (S 8 (.load1 (T 7)) .none), (S 9 (.indexAddr 3 (T 8) (V 0)) .none), (S 10 (.fieldAddr 2 (T 9)) .none), (S 11 (.load1 (T 10)) .none), (S 12 (.indexAddr 5 (T 11) (V 0)) .none), (S 13 (.fieldAddr 2 (T 12)) .none), (AOper.mk .none (.store 1 (T 13) (V 3)) .none)]) (.seq (.region [(M 14 1), (S 15 (.call 16 [(T 14)]) .none), (S 16 (.eq .false .iface .true (T 15) (.val .nili)) .none), (M 17 16), (S 18 (.move (T 1)) (.some (17, .true))), (S 19 (.call 20 [(T 18)]) (.some (17, .true))), (S 20 (.eq .false .iface .true (T 19) (.val .nili)) (.some (17, .true))), (S 21 (.pick (T 17) (T 20) (.val (.bool .false))) .none), (M 22 21), (S 23 (.move (T 1)) (.some (22, .true))), (S 24 (.call 23 [(T 23)]) (.some (22, .true))), (S 25 (.eq .false .iface .true (T 24) (.val .nili)) (.some (22, .true))), (S 26 (.pick (T 22) (T 25) (.val (.bool .false))) .none), (M 27 26), (S 28 (.move (T 1)) (.some (27, .true))), (S 29 (.move (T 1)) (.some (27, .true))), (S 30 (.nilCheck (T 29)) (.some (27, .true))), (S 31 (.fieldAddr 4 (T 30)) (.some (27, .true))), (S 32 (.load1 (T 31)) (.some (27, .true))), (S 33 (.indexAddr 3 (T 32) (V 0)) (.some (27, .true))), (S 34 (.fieldAddr 2 (T 33)) (.some (27, .true))), (S 35 (.load1 (T 34)) (.some (27, .true))), (S 36 (.indexAddr 5 (T 35) (V 0)) (.some (27, .true))), (S 37 (.fieldAddr 0 (T 36)) (.some (27, .true))), (S 38 (.load1 (T 37)) (.some (27, .true))), (S 39 (.indexAddr 6 (T 38) (V 0)) (.some (27, .true))), (S 40 (.loadN 6 (T 39)) (.some (27, .true))), (S 41 (.call 13 [(T 28), (V 0), (T 40)]) (.some (27, .true))), (S 42 (.pick (T 27) (T 41) (.val (.bool .false))) .none), (M 43 42), (S 44 (.move (T 2)) (.some (43, .true))), (S 45 (.call 20 [(T 44)]) (.some (43, .true))), (S 46 (.call 24 [(T 45)]) (.some (43, .true))), (S 47 (.bin .eql (T 46) (V 3)) (.some (43, .true))), (S 48 (.pick (T 43) (T 47) (.val (.bool .false))) .none), (M 49 48), (S 50 (.call 16 [(.val .nilp)]) (.some (49, .true))), (S 51 (.call 24 [(T 50)]) (.some (49, .true))), (S 52 (.bin .eql (T 51) (V 2)) (.some (49, .true))), (S 53 (.pick (T 49) (T 52) (.val (.bool .false))) .none), (M 0 53)]) .ret))))))
abbrev f10.Js : Type := Unit
noncomputable def f10.e (I : Inp) (call : CallFn) (j : f10.Js) (h : AHeap) : Rs :=
  bnd (call 11 [] h) fun v3 h1 =>
  bnd (call 11 [] h1) fun v4 h2 =>
  bndP (pNilCheck v4) fun v6 =>
  bndP (pFieldAddr 4 v6) fun v7 =>
  bndP (pLoad1 I v7 h2) fun v8 =>
  bndP (pIndexAddr 3 v8 (Z 0)) fun v9 =>
  bndP (pFieldAddr 2 v9) fun v10 =>
  bndP (pLoad1 I v10 h2) fun v11 =>
  bndP (pIndexAddr 5 v11 (Z 0)) fun v12 =>
  bndP (pFieldAddr 2 v12) fun v13 =>
  bnd (sStore 1 v13 (Z 3) h2) fun _ h3 =>
  bnd (call 16 [v3] h3) fun v15 h4 =>
  bndP (pEq P .false .iface .true v15 .nili h4) fun v16 =>
  bnd (sGuard v16 .true (some (v3, h4)) h4) fun v18 h5 =>
  bnd (sGuard v16 .true (call 20 [v18] h5) h5) fun v19 h6 =>
  bnd (sGuard v16 .true (lift (pEq P .false .iface .true v19 .nili h6) h6) h6) fun v20 h7 =>
  bndP (pPick v16 v20 (.bool .false)) fun v21 =>
  bnd (sGuard v21 .true (some (v3, h7)) h7) fun v23 h8 =>
  bnd (sGuard v21 .true (call 23 [v23] h8) h8) fun v24 h9 =>
  bnd (sGuard v21 .true (lift (pEq P .false .iface .true v24 .nili h9) h9) h9) fun v25 h10 =>
  bndP (pPick v21 v25 (.bool .false)) fun v26 =>
  bnd (sGuard v26 .true (some (v3, h10)) h10) fun v28 h11 =>
  bnd (sGuard v26 .true (some (v3, h11)) h11) fun v29 h12 =>
  bnd (sGuard v26 .true (lift (pNilCheck v29) h12) h12) fun v30 h13 =>
  bnd (sGuard v26 .true (lift (pFieldAddr 4 v30) h13) h13) fun v31 h14 =>
  bnd (sGuard v26 .true (lift (pLoad1 I v31 h14) h14) h14) fun v32 h15 =>
  bnd (sGuard v26 .true (lift (pIndexAddr 3 v32 (Z 0)) h15) h15) fun v33 h16 =>
  bnd (sGuard v26 .true (lift (pFieldAddr 2 v33) h16) h16) fun v34 h17 =>
  bnd (sGuard v26 .true (lift (pLoad1 I v34 h17) h17) h17) fun v35 h18 =>
  bnd (sGuard v26 .true (lift (pIndexAddr 5 v35 (Z 0)) h18) h18) fun v36 h19 =>
  bnd (sGuard v26 .true (lift (pFieldAddr 0 v36) h19) h19) fun v37 h20 =>
  bnd (sGuard v26 .true (lift (pLoad1 I v37 h20) h20) h20) fun v38 h21 =>
  bnd (sGuard v26 .true (lift (pIndexAddr 6 v38 (Z 0)) h21) h21) fun v39 h22 =>
  bnd (sGuard v26 .true (lift (pLoadN I 6 v39 h22) h22) h22) fun v40 h23 =>
  bnd (sGuard v26 .true (call 13 [v28, (Z 0), v40] h23) h23) fun v41 h24 =>
  bndP (pPick v26 v41 (.bool .false)) fun v42 =>
  bnd (sGuard v42 .true (some (v4, h24)) h24) fun v44 h25 =>
  bnd (sGuard v42 .true (call 20 [v44] h25) h25) fun v45 h26 =>
  bnd (sGuard v42 .true (call 24 [v45] h26) h26) fun v46 h27 =>
  bnd (sGuard v42 .true (lift (pBin .eql v46 (Z 3)) h27) h27) fun v47 h28 =>
  bndP (pPick v42 v47 (.bool .false)) fun v48 =>
  bnd (sGuard v48 .true (call 16 [.nilp] h28) h28) fun v50 h29 =>
  bnd (sGuard v48 .true (call 24 [v50] h29) h29) fun v51 h30 =>
  bnd (sGuard v48 .true (lift (pBin .eql v51 (Z 2)) h30) h30) fun v52 h31 =>
  bndP (pPick v48 v52 (.bool .false)) fun v53 =>
  some (v53, h31)
theorem f10.S (I : Inp) (F : Nat → Option AFn) (call : CallFn) : SFn ⟨P, I, F⟩ call c10 (fun _ _ _ _ => none) :=
  ⟨fun _ _ _ _ => rfl, fun n id hid => absurd hid (by rw [show c10.body.cnt = 0 by kernel_rfl]; omega)⟩
noncomputable def f10.run (I : Inp) : SF := fun call n a h =>
  match a with
  | [] => f10.e I call () h
  | _ => none
theorem f10.qe (I : Inp) (call : CallFn) (n : Nat) (h : AHeap) : f10.e I call () h = execC P I call (fun _ _ _ => none) c10.body 0 (finV I c10.results) (argV []) h := by kernel_rfl
theorem f10.code : codeOf P 10 = some c10 := by kernel_rfl
theorem f10.ok (I : Inp) (F : Nat → Option AFn) (hF : F 10 = some (.code c10)) : SfOk P I F 10 (f10.run I) := by
  intro call hc n args h r hr
  unfold f10.run at hr
  split at hr
  · exact fn_sound (C := ⟨P, I, F⟩) (n := n) hc hF (Nat.le_of_ble_eq_true (by kernel_rfl)) (by kernel_rfl) (f10.S I F call) (by kernel_rfl) ((f10.qe I call n h).symm.trans hr)
  · cases hr
/-! haruspex/haruspexlaw10.One -/
noncomputable def c11 : AFunc := (AFunc.mk 13 0 [(.tmp 0)] (.seq (.region [(S 0 (.move (.val .nilp)) .none)]) (.seq (.region [(S 1 (.build [.nils, (Z 0), (Z 0)] []) .none), (S 2 (.buildSlice [.nils, (Z 0), (Z 0)] 1 [(0, (3, (T 1)))]) .none), (S 3 (.build [(Z 0), (Z 0)] []) .none), (S 4 (.buildSlice [(Z 0), (Z 0)] 1 [(0, (2, (T 3)))]) .none), (S 5 (.build [(Z 0), (Z 0), (Z 0), (Z 0), (Z 0), .nils] [(0, (1, (V 1))), (4, (1, (V 7)))]) .none), (S 6 (.buildSlice [(Z 0), (Z 0), (Z 0), (Z 0), (Z 0), .nils] 1 [(0, (6, (T 5)))]) .none), (S 7 (.build [.nils, (Z 0), (Z 0), (Z 0), (Z 0)] [(0, (1, (T 6))), (1, (1, (V 3)))]) .none), (S 8 (.buildSlice [.nils, (Z 0), (Z 0), (Z 0), (Z 0)] 1 [(0, (5, (T 7)))]) .none), (S 9 (.build [(Z 0), .nils, .nils] [(1, (1, (T 4))), (2, (1, (T 8)))]) .none), (S 10 (.buildSlice [(Z 0), .nils, .nils] 1 [(0, (3, (T 9)))]) .none), (S 11 (.build [.nils, .nils, .nils, .nils, .nils, (Z 0)] [(1, (1, (T 2))), (4, (1, (T 10)))]) .none), (S 12 (.box (T 11)) .none), (M 0 12)]) .ret)))
abbrev f11.Js : Type := Unit
noncomputable def f11.e (I : Inp) (call : CallFn) (j : f11.Js) (h : AHeap) : Rs :=
  bndP (pBuild [.nils, (Z 0), (Z 0)] []) fun v1 =>
  bnd (sBuildSlice [.nils, (Z 0), (Z 0)] 1 [(0, 3, v1)] h) fun v2 h1 =>
  bndP (pBuild [(Z 0), (Z 0)] []) fun v3 =>
  bnd (sBuildSlice [(Z 0), (Z 0)] 1 [(0, 2, v3)] h1) fun v4 h2 =>
  bndP (pBuild [(Z 0), (Z 0), (Z 0), (Z 0), (Z 0), .nils] [(0, 1, (Z 1)), (4, 1, (Z 7))]) fun v5 =>
  bnd (sBuildSlice [(Z 0), (Z 0), (Z 0), (Z 0), (Z 0), .nils] 1 [(0, 6, v5)] h2) fun v6 h3 =>
  bndP (pBuild [.nils, (Z 0), (Z 0), (Z 0), (Z 0)] [(0, 1, v6), (1, 1, (Z 3))]) fun v7 =>
  bnd (sBuildSlice [.nils, (Z 0), (Z 0), (Z 0), (Z 0)] 1 [(0, 5, v7)] h3) fun v8 h4 =>
  bndP (pBuild [(Z 0), .nils, .nils] [(1, 1, v4), (2, 1, v8)]) fun v9 =>
  bnd (sBuildSlice [(Z 0), .nils, .nils] 1 [(0, 3, v9)] h4) fun v10 h5 =>
  bndP (pBuild [.nils, .nils, .nils, .nils, .nils, (Z 0)] [(1, 1, v2), (4, 1, v10)]) fun v11 =>
  bnd (sBox v11 h5) fun v12 h6 =>
  some (v12, h6)
theorem f11.S (I : Inp) (F : Nat → Option AFn) (call : CallFn) : SFn ⟨P, I, F⟩ call c11 (fun _ _ _ _ => none) :=
  ⟨fun _ _ _ _ => rfl, fun n id hid => absurd hid (by rw [show c11.body.cnt = 0 by kernel_rfl]; omega)⟩
noncomputable def f11.run (I : Inp) : SF := fun call n a h =>
  match a with
  | [] => f11.e I call () h
  | _ => none
theorem f11.qe (I : Inp) (call : CallFn) (n : Nat) (h : AHeap) : f11.e I call () h = execC P I call (fun _ _ _ => none) c11.body 0 (finV I c11.results) (argV []) h := by kernel_rfl
theorem f11.code : codeOf P 11 = some c11 := by kernel_rfl
theorem f11.ok (I : Inp) (F : Nat → Option AFn) (hF : F 11 = some (.code c11)) : SfOk P I F 11 (f11.run I) := by
  intro call hc n args h r hr
  unfold f11.run at hr
  split at hr
  · exact fn_sound (C := ⟨P, I, F⟩) (n := n) hc hF (Nat.le_of_ble_eq_true (by kernel_rfl)) (by kernel_rfl) (f11.S I F call) (by kernel_rfl) ((f11.qe I call n h).symm.trans hr)
  · cases hr
/-! haruspex/haruspexref8.Def -/
noncomputable def c12 : AFunc := (AFunc.mk 29 1 [(.tmp 2), (.tmp 3)] (.seq (.region [(S 1 (.box (T 0)) .none), (S 2 (.move (V 0)) .none), (S 3 (.move (.val (.bool .false))) .none)]) (.seq (.seq (.region [(S 4 (.fieldAddr 0 (T 1)) .none), (S 5 (.load1 (T 4)) .none), (S 6 (.bin .lss (T 5) (V 1)) .none), (M 7 6), (S 8 (.fieldAddr 0 (T 1)) (.some (7, .false))), (S 9 (.load1 (T 8)) (.some (7, .false))), (S 10 (.bin .gtr (T 9) (V 15)) (.some (7, .false))), (S 11 (.pick (T 7) (.val (.bool .true)) (T 10)) .none), (M 12 11), (S 13 (.fieldAddr 0 (T 1)) (.some (12, .false))), (S 14 (.load1 (T 13)) (.some (12, .false))), (S 15 (.bin .eql (T 14) (V 8)) (.some (12, .false))), (S 16 (.pick (T 12) (.val (.bool .true)) (T 15)) .none), (M 17 16), (S 18 (.fieldAddr 0 (T 1)) (.some (17, .false))), (S 19 (.load1 (T 18)) (.some (17, .false))), (S 20 (.bin .eql (T 19) (V 9)) (.some (17, .false))), (S 21 (.pick (T 17) (.val (.bool .true)) (T 20)) .none), (M 22 21), (S 23 (.fieldAddr 0 (T 1)) (.some (22, .false))), (S 24 (.load1 (T 23)) (.some (22, .false))), (S 25 (.bin .eql (T 24) (V 15)) (.some (22, .false))), (S 26 (.pick (T 22) (.val (.bool .true)) (T 25)) .none)]) (.cond (T 26) (.seq (.region [(S 2 (.move (V 0)) .none), (S 3 (.move (.val (.bool .false))) .none)]) .ret) .skip)) (.seq (.region [(S 27 (.fieldAddr 1 (T 1)) .none), (S 28 (.load1 (T 27)) .none), (M 2 28), (S 3 (.move (.val (.bool .true))) .none)]) .ret))))
abbrev f12.Js : Type := (AVal → AHeap → Rs)
noncomputable def f12.b0 (I : Inp) (call : CallFn) (j : f12.Js) (v1 : AVal) (h : AHeap) : Rs :=
  bndP (pFieldAddr 1 v1) fun v27 =>
  bndP (pLoad1 I v27 h) fun v28 =>
  some (.tuple [v28, (.bool .true)], h)
noncomputable def f12.e (I : Inp) (call : CallFn) (j : f12.Js) (v0 : AVal) (h : AHeap) : Rs :=
  bnd (sBox v0 h) fun v1 h1 =>
  bndP (pFieldAddr 0 v1) fun v4 =>
  bndP (pLoad1 I v4 h1) fun v5 =>
  bndP (pBin .lss v5 (Z 1)) fun v6 =>
  bnd (sGuard v6 .false (lift (pFieldAddr 0 v1) h1) h1) fun v8 h2 =>
  bnd (sGuard v6 .false (lift (pLoad1 I v8 h2) h2) h2) fun v9 h3 =>
  bnd (sGuard v6 .false (lift (pBin .gtr v9 (Z 15)) h3) h3) fun v10 h4 =>
  bndP (pPick v6 (.bool .true) v10) fun v11 =>
  bnd (sGuard v11 .false (lift (pFieldAddr 0 v1) h4) h4) fun v13 h5 =>
  bnd (sGuard v11 .false (lift (pLoad1 I v13 h5) h5) h5) fun v14 h6 =>
  bnd (sGuard v11 .false (lift (pBin .eql v14 (Z 8)) h6) h6) fun v15 h7 =>
  bndP (pPick v11 (.bool .true) v15) fun v16 =>
  bnd (sGuard v16 .false (lift (pFieldAddr 0 v1) h7) h7) fun v18 h8 =>
  bnd (sGuard v16 .false (lift (pLoad1 I v18 h8) h8) h8) fun v19 h9 =>
  bnd (sGuard v16 .false (lift (pBin .eql v19 (Z 9)) h9) h9) fun v20 h10 =>
  bndP (pPick v16 (.bool .true) v20) fun v21 =>
  bnd (sGuard v21 .false (lift (pFieldAddr 0 v1) h10) h10) fun v23 h11 =>
  bnd (sGuard v21 .false (lift (pLoad1 I v23 h11) h11) h11) fun v24 h12 =>
  bnd (sGuard v21 .false (lift (pBin .eql v24 (Z 15)) h12) h12) fun v25 h13 =>
  bndP (pPick v21 (.bool .true) v25) fun v26 =>
  sCond v26 (
  j v1 h13) (
  some (.tuple [(Z 0), (.bool .false)], h13))
noncomputable def f12.J (I : Inp) (call : CallFn) (n : Nat) : f12.Js :=
  Nat.rec (motive := fun _ => f12.Js) (fun _ _ => none) (fun _ ih => f12.b0 I call ih) n
noncomputable def f12.JS (I : Inp) (call : CallFn) (n : Nat) : Jmp := fun id ρ h =>
  ((f12.J I call n) (ρ 1) h)
theorem f12.z0 (I : Inp) (call : CallFn) (ρ : Fun) (h : AHeap) : f12.JS I call 0 0 ρ h = none := rfl
theorem f12.q0 (I : Inp) (call : CallFn) (n : Nat) (ρ : Fun) (h : AHeap) : f12.JS I call (n + 1) 0 ρ h = labC P I call (f12.JS I call n) c12.body 0 (finV I c12.results) 0 ρ h := by kernel_rfl
theorem f12.S (I : Inp) (F : Nat → Option AFn) (call : CallFn) : SFn ⟨P, I, F⟩ call c12 (f12.JS I call) :=
  ⟨fun id hid ρ h => by
    have hc : c12.body.cnt = 1 := by kernel_rfl
    rw [hc] at hid
    exact match id, hid with
    | 0, _ => f12.z0 I call ρ h
    | id + 1, hid => absurd hid (by omega), fun n id hid ρ h => by
    have hc : c12.body.cnt = 1 := by kernel_rfl
    rw [hc] at hid
    exact match id, hid with
    | 0, _ => f12.q0 I call n ρ h
    | id + 1, hid => absurd hid (by omega)⟩
noncomputable def f12.run (I : Inp) : SF := fun call n a h =>
  match a with
  | [v0] => f12.e I call (f12.J I call n) v0 h
  | _ => none
theorem f12.qe (I : Inp) (call : CallFn) (n : Nat) (v0 : AVal) (h : AHeap) : f12.e I call (f12.J I call n) v0 h = execC P I call (f12.JS I call n) c12.body 0 (finV I c12.results) (argV [v0]) h := by kernel_rfl
theorem f12.code : codeOf P 12 = some c12 := by kernel_rfl
theorem f12.ok (I : Inp) (F : Nat → Option AFn) (hF : F 12 = some (.code c12)) : SfOk P I F 12 (f12.run I) := by
  intro call hc n args h r hr
  unfold f12.run at hr
  split at hr
  · exact fn_sound (C := ⟨P, I, F⟩) (n := n) hc hF (Nat.le_of_ble_eq_true (by kernel_rfl)) (by kernel_rfl) (f12.S I F call) (by kernel_rfl) ((f12.qe I call n _ h).symm.trans hr)
  · cases hr
/-! haruspex/types.Fits -/
noncomputable def c13 : AFunc := (AFunc.mk 245 3 [(.tmp 6)] (.seq (.region [(S 5 (.box (T 2)) .none), (S 6 (.move (.val (.bool .false))) .none)]) (.seq (.seq (.draw [(M 11 0), (S 12 (.eq .false .ptr .true (T 11) (.val .nilp)) .none), (M 13 12), (S 14 (.move (T 1)) (.some (13, .false))), (S 15 (.move (T 0)) (.some (13, .false))), (S 16 (.nilCheck (T 15)) (.some (13, .false))), (S 17 (.fieldAddr 4 (T 16)) (.some (13, .false))), (S 18 (.load1 (T 17)) (.some (13, .false))), (S 19 (.lenSl (T 18)) (.some (13, .false))), (S 20 (.call 25 [(T 14), (T 19)]) (.some (13, .false))), (S 21 (.un .not (T 20)) (.some (13, .false))), (S 22 (.pick (T 13) (.val (.bool .true)) (T 21)) .none), (M 23 22), (S 24 (.move (T 0)) (.some (23, .false))), (S 25 (.call 26 [(T 24)]) (.some (23, .false))), (S 26 (.un .not (T 25)) (.some (23, .false))), (S 27 (.pick (T 23) (.val (.bool .true)) (T 26)) .none), (M 28 27), (S 29 (.move (T 0)) (.some (28, .false))), (S 30 (.move (T 0)) (.some (28, .false))), (S 31 (.nilCheck (T 30)) (.some (28, .false))), (S 32 (.fieldAddr 4 (T 31)) (.some (28, .false))), (S 33 (.load1 (T 32)) (.some (28, .false))), (S 34 (.move (T 1)) (.some (28, .false))), (S 35 (.indexAddr 3 (T 33) (T 34)) (.some (28, .false))), (S 36 (.fieldAddr 1 (T 35)) (.some (28, .false))), (S 37 (.load1 (T 36)) (.some (28, .false))), (S 38 (.call 27 [(T 29), (T 37)]) (.some (28, .false))), (S 39 (.un .not (T 38)) (.some (28, .false))), (S 40 (.pick (T 28) (.val (.bool .true)) (T 39)) .none), (M 41 40), (S 42 (.move (T 0)) (.some (41, .false))), (S 43 (.move (T 0)) (.some (41, .false))), (S 44 (.nilCheck (T 43)) (.some (41, .false))), (S 45 (.fieldAddr 4 (T 44)) (.some (41, .false))), (S 46 (.load1 (T 45)) (.some (41, .false))), (S 47 (.move (T 1)) (.some (41, .false))), (S 48 (.indexAddr 3 (T 46) (T 47)) (.some (41, .false))), (S 49 (.loadN 3 (T 48)) (.some (41, .false))), (S 50 (.loadN 6 (T 5)) (.some (41, .false))), (S 51 (.call 28 [(T 42), (T 49), (T 50)]) (.some (41, .false))), (S 52 (.un .not (T 51)) (.some (41, .false))), (S 53 (.pick (T 41) (.val (.bool .true)) (T 52)) .none)] [N, N, N, N, N, N, N, N, N, Y, N, N, N, N, Y, N, N, N, N, N, N, N, N, N, N, N, N, Y, N, N, N, N, N, N, N, N, N, N, N, N, Y, N, N] 0) (.cond (T 53) (.seq (.region [(S 6 (.move (.val (.bool .false))) .none)]) .ret) .skip)) (.seq (.region [(M 54 0), (S 55 (.nilCheck (T 54)) .none), (S 56 (.fieldAddr 4 (T 55)) .none), (S 57 (.load1 (T 56)) .none), (M 58 1), (S 59 (.indexAddr 3 (T 57) (T 58)) .none), (S 60 (.fieldAddr 1 (T 59)) .none), (S 61 (.load1 (T 60)) .none), (S 7 (.alloc [.nils]) .none), (AOper.mk .none (.store 1 (T 7) (T 61)) .none)]) (.seq (.region [(S 62 (.mkFunc (.func 29) [] [(T 7)]) .none), (M 8 62)]) (.seq (.seq (.region [(S 63 (.fieldAddr 0 (T 5)) .none), (S 64 (.load1 (T 63)) .none)]) (.block 0 (.seq (.block 11 (.seq (.block 10 (.seq (.block 9 (.seq (.block 8 (.seq (.block 7 (.seq (.block 6 (.seq (.block 5 (.seq (.block 4 (.seq (.block 3 (.seq (.block 2 (.seq (.block 1 (.seq (.seq (.seq (.region [(S 66 (.bin .eql (T 64) (V 2)) .none), (M 65 66)]) (.cond (T 65) (.exit 1) .skip)) (.seq (.seq (.seq (.region [(S 68 (.bin .eql (T 64) (V 1)) .none), (M 67 68)]) (.cond (T 67) .skip (.region [(S 69 (.bin .eql (T 64) (V 3)) .none), (M 67 69)]))) (.cond (T 67) (.exit 2) .skip)) (.seq (.seq (.region [(S 71 (.bin .eql (T 64) (V 4)) .none), (M 70 71)]) (.cond (T 70) (.exit 3) .skip)) (.seq (.seq (.region [(S 73 (.bin .eql (T 64) (V 5)) .none), (M 72 73)]) (.cond (T 72) (.exit 4) .skip)) (.seq (.seq (.region [(S 75 (.bin .eql (T 64) (V 6)) .none), (M 74 75)]) (.cond (T 74) (.exit 5) .skip)) (.seq (.seq (.region [(S 77 (.bin .eql (T 64) (V 7)) .none), (M 76 77)]) (.cond (T 76) (.exit 6) .skip)) (.seq (.seq (.region [(S 79 (.bin .eql (T 64) (V 8)) .none), (M 78 79)]) (.cond (T 78) (.exit 7) .skip)) (.seq (.seq (.region [(S 81 (.bin .eql (T 64) (V 9)) .none), (M 80 81)]) (.cond (T 80) (.exit 8) .skip)) (.seq (.seq (.region [(S 83 (.bin .eql (T 64) (V 10)) .none), (M 82 83)]) (.cond (T 82) (.exit 9) .skip)) (.seq (.seq (.region [(S 85 (.bin .eql (T 64) (V 11)) .none), (M 84 85)]) (.cond (T 84) (.exit 10) .skip)) (.seq (.region [(S 87 (.bin .eql (T 64) (V 15)) .none), (M 86 87)]) (.cond (T 86) (.exit 11) .skip)))))))))))) (.exit 0))) (.seq (.region [(M 88 8), (S 89 (.fieldAddr 2 (T 5)) .none), (S 90 (.load1 (T 89)) .none), (S 91 (.callv (T 88) [(T 90)]) .none), (S 92 (.bin .neq (T 91) (V 0)) .none), (M 93 92), (S 94 (.move (T 8)) (.some (93, .false))), (S 95 (.fieldAddr 3 (T 5)) (.some (93, .false))), (S 96 (.load1 (T 95)) (.some (93, .false))), (S 97 (.callv (T 94) [(T 96)]) (.some (93, .false))), (S 98 (.bin .neq (T 97) (V 0)) (.some (93, .false))), (S 99 (.pick (T 93) (.val (.bool .true)) (T 98)) .none)]) (.cond (T 99) (.seq (.region [(S 6 (.move (.val (.bool .false))) .none)]) .ret) .skip)))) (.seq (.seq (.region [(M 100 8), (S 101 (.fieldAddr 1 (T 5)) .none), (S 102 (.load1 (T 101)) .none), (S 103 (.callv (T 100) [(T 102)]) .none), (S 104 (.bin .eql (T 103) (V 0)) .none), (M 6 104)]) .ret) (.exit 0)))) (.seq (.seq (.region [(M 105 8), (S 106 (.fieldAddr 1 (T 5)) .none), (S 107 (.load1 (T 106)) .none), (S 108 (.callv (T 105) [(T 107)]) .none), (S 109 (.bin .neq (T 108) (V 0)) .none), (M 6 109)]) .ret) (.exit 0)))) (.seq (.seq (.region [(M 110 8), (S 111 (.fieldAddr 1 (T 5)) .none), (S 112 (.load1 (T 111)) .none), (S 113 (.callv (T 110) [(T 112)]) .none), (S 114 (.bin .eql (T 113) (V 1)) .none), (M 6 114)]) .ret) (.exit 0)))) (.seq (.seq (.draw [(S 115 (.load1 (T 7)) .none), (S 116 (.fieldAddr 2 (T 5)) .none), (S 117 (.load1 (T 116)) .none), (S 118 (.indexAddr 2 (T 115) (T 117)) .none), (S 119 (.loadN 2 (T 118)) .none), (S 120 (.load1 (T 7)) .none), (S 121 (.fieldAddr 1 (T 5)) .none), (S 122 (.load1 (T 121)) .none), (S 123 (.indexAddr 2 (T 120) (T 122)) .none), (S 124 (.loadN 2 (T 123)) .none), (S 125 (.eq .false (.struct [.i, .i]) .false (T 119) (T 124)) .none), (M 6 125)] [N, N, N, N, N, N, N, N, N, N, N, N] 0) .ret) (.exit 0)))) (.seq (.seq (.draw [(M 126 8), (S 127 (.fieldAddr 2 (T 5)) .none), (S 128 (.load1 (T 127)) .none), (S 129 (.callv (T 126) [(T 128)]) .none), (S 130 (.bin .eql (T 129) (V 1)) .none), (M 131 130), (S 132 (.move (T 0)) (.some (131, .true))), (S 133 (.nilCheck (T 132)) (.some (131, .true))), (S 134 (.fieldAddr 0 (T 133)) (.some (131, .true))), (S 135 (.load1 (T 134)) (.some (131, .true))), (S 136 (.load1 (T 7)) (.some (131, .true))), (S 137 (.fieldAddr 2 (T 5)) (.some (131, .true))), (S 138 (.load1 (T 137)) (.some (131, .true))), (S 139 (.indexAddr 2 (T 136) (T 138)) (.some (131, .true))), (S 140 (.fieldAddr 1 (T 139)) (.some (131, .true))), (S 141 (.load1 (T 140)) (.some (131, .true))), (S 142 (.indexAddr 1 (T 135) (T 141)) (.some (131, .true))), (S 143 (.load1 (T 142)) (.some (131, .true))), (S 144 (.fieldAddr 4 (T 5)) (.some (131, .true))), (S 145 (.load1 (T 144)) (.some (131, .true))), (S 146 (.indexAddr 2 (T 143) (T 145)) (.some (131, .true))), (S 147 (.loadN 2 (T 146)) (.some (131, .true))), (S 148 (.load1 (T 7)) (.some (131, .true))), (S 149 (.fieldAddr 1 (T 5)) (.some (131, .true))), (S 150 (.load1 (T 149)) (.some (131, .true))), (S 151 (.indexAddr 2 (T 148) (T 150)) (.some (131, .true))), (S 152 (.loadN 2 (T 151)) (.some (131, .true))), (S 153 (.eq .false (.struct [.i, .i]) .false (T 147) (T 152)) (.some (131, .true))), (S 154 (.pick (T 131) (T 153) (.val (.bool .false))) .none), (M 6 154)] [N, N, N, Y, N, N, N, N, N, N, N, N, N, N, N, N, N, N, N, N, N, N, N, N, N, N, N, N, N, N] 0) .ret) (.exit 0)))) (.seq (.seq (.draw [(M 155 8), (S 156 (.fieldAddr 2 (T 5)) .none), (S 157 (.load1 (T 156)) .none), (S 158 (.callv (T 155) [(T 157)]) .none), (S 159 (.bin .eql (T 158) (V 1)) .none), (M 160 159), (S 161 (.move (T 0)) (.some (160, .true))), (S 162 (.nilCheck (T 161)) (.some (160, .true))), (S 163 (.fieldAddr 0 (T 162)) (.some (160, .true))), (S 164 (.load1 (T 163)) (.some (160, .true))), (S 165 (.load1 (T 7)) (.some (160, .true))), (S 166 (.fieldAddr 2 (T 5)) (.some (160, .true))), (S 167 (.load1 (T 166)) (.some (160, .true))), (S 168 (.indexAddr 2 (T 165) (T 167)) (.some (160, .true))), (S 169 (.fieldAddr 1 (T 168)) (.some (160, .true))), (S 170 (.load1 (T 169)) (.some (160, .true))), (S 171 (.indexAddr 1 (T 164) (T 170)) (.some (160, .true))), (S 172 (.load1 (T 171)) (.some (160, .true))), (S 173 (.fieldAddr 4 (T 5)) (.some (160, .true))), (S 174 (.load1 (T 173)) (.some (160, .true))), (S 175 (.indexAddr 2 (T 172) (T 174)) (.some (160, .true))), (S 176 (.loadN 2 (T 175)) (.some (160, .true))), (S 177 (.load1 (T 7)) (.some (160, .true))), (S 178 (.fieldAddr 3 (T 5)) (.some (160, .true))), (S 179 (.load1 (T 178)) (.some (160, .true))), (S 180 (.indexAddr 2 (T 177) (T 179)) (.some (160, .true))), (S 181 (.loadN 2 (T 180)) (.some (160, .true))), (S 182 (.eq .false (.struct [.i, .i]) .false (T 176) (T 181)) (.some (160, .true))), (S 183 (.pick (T 160) (T 182) (.val (.bool .false))) .none), (M 6 183)] [N, N, N, Y, N, N, N, N, N, N, N, N, N, N, N, N, N, N, N, N, N, N, N, N, N, N, N, N, N, N] 0) .ret) (.exit 0)))) (.seq (.seq (.region [(M 184 8), (S 185 (.fieldAddr 2 (T 5)) .none), (S 186 (.load1 (T 185)) .none), (S 187 (.callv (T 184) [(T 186)]) .none), (S 188 (.bin .eql (T 187) (V 1)) .none), (M 6 188)]) .ret) (.exit 0)))) (.seq (.seq (.region [(M 190 0), (S 191 (.fieldAddr 4 (T 5)) .none), (S 192 (.load1 (T 191)) .none), (S 193 (.call 30 [(T 190), (T 192)]) .none), (M 189 193), (S 194 (.extract (T 189) 0) .none), (S 195 (.extract (T 189) 1) .none), (M 9 194), (M 10 195)]) (.seq (.region [(M 196 10), (M 197 196), (S 198 (.load1 (T 7)) (.some (197, .true))), (S 199 (.fieldAddr 1 (T 5)) (.some (197, .true))), (S 200 (.load1 (T 199)) (.some (197, .true))), (S 201 (.indexAddr 2 (T 198) (T 200)) (.some (197, .true))), (S 202 (.loadN 2 (T 201)) (.some (197, .true))), (S 203 (.move (T 9)) (.some (197, .true))), (S 204 (.build [(Z 0), (Z 0)] [(0, (1, (V 2))), (1, (1, (T 203)))]) (.some (197, .true))), (S 205 (.eq .false (.struct [.i, .i]) .false (T 202) (T 204)) (.some (197, .true))), (S 206 (.pick (T 197) (T 205) (.val (.bool .false))) .none), (M 6 206)]) .ret)) (.exit 0)))) (.seq (.seq (.draw [(M 207 8), (S 208 (.fieldAddr 1 (T 5)) .none), (S 209 (.load1 (T 208)) .none), (S 210 (.callv (T 207) [(T 209)]) .none), (S 211 (.bin .eql (T 210) (V 3)) .none), (M 212 211), (S 213 (.move (T 8)) (.some (212, .true))), (S 214 (.fieldAddr 2 (T 5)) (.some (212, .true))), (S 215 (.load1 (T 214)) (.some (212, .true))), (S 216 (.callv (T 213) [(T 215)]) (.some (212, .true))), (S 217 (.bin .eql (T 216) (V 1)) (.some (212, .true))), (S 218 (.pick (T 212) (T 217) (.val (.bool .false))) .none), (M 219 218), (S 220 (.move (T 0)) (.some (219, .true))), (S 221 (.load1 (T 7)) (.some (219, .true))), (S 222 (.fieldAddr 2 (T 5)) (.some (219, .true))), (S 223 (.load1 (T 222)) (.some (219, .true))), (S 224 (.indexAddr 2 (T 221) (T 223)) (.some (219, .true))), (S 225 (.fieldAddr 1 (T 224)) (.some (219, .true))), (S 226 (.load1 (T 225)) (.some (219, .true))), (S 227 (.load1 (T 7)) (.some (219, .true))), (S 228 (.fieldAddr 1 (T 5)) (.some (219, .true))), (S 229 (.load1 (T 228)) (.some (219, .true))), (S 230 (.indexAddr 2 (T 227) (T 229)) (.some (219, .true))), (S 231 (.fieldAddr 1 (T 230)) (.some (219, .true))), (S 232 (.load1 (T 231)) (.some (219, .true))), (S 233 (.call 31 [(T 220), (T 226), (T 232)]) (.some (219, .true))), (S 234 (.bin .geq (T 233) (V 0)) (.some (219, .true))), (S 235 (.pick (T 219) (T 234) (.val (.bool .false))) .none), (M 6 235)] [N, N, N, Y, N, N, N, N, N, Y, N, N, N, N, N, N, N, N, N, N, N, N, N, N, N, N, Y, N, N, N] 0) .ret) (.exit 0)))) (.seq (.seq (.region [(M 236 8), (S 237 (.fieldAddr 2 (T 5)) .none), (S 238 (.load1 (T 237)) .none), (S 239 (.callv (T 236) [(T 238)]) .none), (S 240 (.bin .eql (T 239) (V 0)) .none), (M 6 240)]) .ret) (.exit 0))))) (.seq (.region [(M 241 0), (S 242 (.load1 (T 7)) .none), (S 243 (.loadN 6 (T 5)) .none), (S 244 (.call 32 [(T 241), (T 242), (T 243)]) .none), (M 6 244)]) .ret)))))))
abbrev f13.Js : Type := ((((((AVal → AVal → AVal → AHeap → Rs) × (AVal → AVal → AVal → AHeap → Rs)) × ((AVal → AVal → AHeap → Rs) × (AVal → AVal → AVal → AVal → AHeap → Rs))) × (((AVal → AVal → AVal → AHeap → Rs) × (AVal → AVal → AHeap → Rs)) × ((AVal → AVal → AVal → AVal → AHeap → Rs) × (AVal → AVal → AVal → AVal → AHeap → Rs)))) × ((((AVal → AVal → AHeap → Rs) × (AVal → AVal → AHeap → Rs)) × ((AVal → AVal → AHeap → Rs) × (AVal → AVal → AHeap → Rs))) × (((AVal → AVal → AHeap → Rs) × (AVal → AVal → AVal → AHeap → Rs)) × ((AVal → AVal → AVal → AVal → AVal → AHeap → Rs) × ((AVal → AVal → AVal → AVal → AVal → AHeap → Rs) × (AVal → AVal → AVal → AVal → AVal → AVal → AHeap → Rs)))))) × (((((AVal → AVal → AVal → AVal → AVal → AHeap → Rs) × (AVal → AVal → AVal → AVal → AVal → AHeap → Rs)) × ((AVal → AVal → AVal → AVal → AVal → AHeap → Rs) × (AVal → AVal → AVal → AVal → AVal → AHeap → Rs))) × (((AVal → AVal → AVal → AVal → AVal → AHeap → Rs) × (AVal → AVal → AVal → AVal → AVal → AHeap → Rs)) × ((AVal → AVal → AVal → AVal → AVal → AHeap → Rs) × ((AVal → AVal → AVal → AVal → AVal → AHeap → Rs) × (AVal → AVal → AVal → AHeap → Rs))))) × ((((AVal → AVal → AVal → AHeap → Rs) × (AVal → AVal → AVal → AHeap → Rs)) × ((AVal → AVal → AVal → AHeap → Rs) × (AVal → AVal → AVal → AHeap → Rs))) × (((AVal → AVal → AVal → AHeap → Rs) × (AVal → AVal → AVal → AHeap → Rs)) × ((AVal → AVal → AVal → AHeap → Rs) × ((AVal → AVal → AVal → AHeap → Rs) × (AVal → AVal → AVal → AHeap → Rs)))))))
noncomputable def f13.b0 (I : Inp) (call : CallFn) (j : f13.Js) (v0 v1 v5 : AVal) (h : AHeap) : Rs :=
  bndP (pNilCheck v0) fun v55 =>
  bndP (pFieldAddr 4 v55) fun v56 =>
  bndP (pLoad1 I v56 h) fun v57 =>
  bndP (pIndexAddr 3 v57 v1) fun v59 =>
  bndP (pFieldAddr 1 v59) fun v60 =>
  bndP (pLoad1 I v60 h) fun v61 =>
  bnd (sAlloc [.nils] h) fun v7 h1 =>
  bnd (sStore 1 v7 v61 h1) fun _ h2 =>
  bndP (pFieldAddr 0 v5) fun v63 =>
  bndP (pLoad1 I v63 h2) fun v64 =>
  bndP (pBin .eql v64 (Z 2)) fun v66 =>
  sCond v66 (
  j.1.2.2.2.1 v0 v5 v7 (.func (.func 29) [] [v7]) v64 h2) (
  j.1.2.2.1.1 v5 (.func (.func 29) [] [v7]) h2)
noncomputable def f13.b1 (I : Inp) (call : CallFn) (j : f13.Js) (v0 v5 v7 : AVal) (h : AHeap) : Rs :=
  bndP (pLoad1 I v7 h) fun v242 =>
  bndP (pLoadN I 6 v5 h) fun v243 =>
  bnd (call 32 [v0, v242, v243] h) fun v244 h1 =>
  some (v244, h1)
noncomputable def f13.b2 (I : Inp) (call : CallFn) (j : f13.Js) (v5 v8 : AVal) (h : AHeap) : Rs :=
  bndP (pFieldAddr 2 v5) fun v237 =>
  bndP (pLoad1 I v237 h) fun v238 =>
  bnd (sCallv call v8 [v238] h) fun v239 h1 =>
  bndP (pBin .eql v239 (Z 0)) fun v240 =>
  some (v240, h1)
noncomputable def f13.b3 (I : Inp) (call : CallFn) (j : f13.Js) (v0 v5 v7 v8 : AVal) (h : AHeap) : Rs :=
  bndP (pFieldAddr 1 v5) fun v208 =>
  bndP (pLoad1 I v208 h) fun v209 =>
  bnd (sCallv call v8 [v209] h) fun v210 h1 =>
  bndP (pBin .eql v210 (Z 3)) fun v211 =>
  bnd (sGuard v211 .true (some (v8, h1)) h1) fun v213 h2 =>
  bnd (sGuard v211 .true (lift (pFieldAddr 2 v5) h2) h2) fun v214 h3 =>
  bnd (sGuard v211 .true (lift (pLoad1 I v214 h3) h3) h3) fun v215 h4 =>
  bnd (sGuard v211 .true (sCallv call v213 [v215] h4) h4) fun v216 h5 =>
  bnd (sGuard v211 .true (lift (pBin .eql v216 (Z 1)) h5) h5) fun v217 h6 =>
  bndP (pPick v211 v217 (.bool .false)) fun v218 =>
  bnd (sGuard v218 .true (some (v0, h6)) h6) fun v220 h7 =>
  bnd (sGuard v218 .true (lift (pLoad1 I v7 h7) h7) h7) fun v221 h8 =>
  bnd (sGuard v218 .true (lift (pFieldAddr 2 v5) h8) h8) fun v222 h9 =>
  bnd (sGuard v218 .true (lift (pLoad1 I v222 h9) h9) h9) fun v223 h10 =>
  bnd (sGuard v218 .true (lift (pIndexAddr 2 v221 v223) h10) h10) fun v224 h11 =>
  bnd (sGuard v218 .true (lift (pFieldAddr 1 v224) h11) h11) fun v225 h12 =>
  bnd (sGuard v218 .true (lift (pLoad1 I v225 h12) h12) h12) fun v226 h13 =>
  bnd (sGuard v218 .true (lift (pLoad1 I v7 h13) h13) h13) fun v227 h14 =>
  bnd (sGuard v218 .true (lift (pFieldAddr 1 v5) h14) h14) fun v228 h15 =>
  bnd (sGuard v218 .true (lift (pLoad1 I v228 h15) h15) h15) fun v229 h16 =>
  bnd (sGuard v218 .true (lift (pIndexAddr 2 v227 v229) h16) h16) fun v230 h17 =>
  bnd (sGuard v218 .true (lift (pFieldAddr 1 v230) h17) h17) fun v231 h18 =>
  bnd (sGuard v218 .true (lift (pLoad1 I v231 h18) h18) h18) fun v232 h19 =>
  bnd (sGuard v218 .true (call 31 [v220, v226, v232] h19) h19) fun v233 h20 =>
  bnd (sGuard v218 .true (lift (pBin .geq v233 (Z 0)) h20) h20) fun v234 h21 =>
  bndP (pPick v218 v234 (.bool .false)) fun v235 =>
  some (v235, h21)
noncomputable def f13.b4 (I : Inp) (call : CallFn) (j : f13.Js) (v0 v5 v7 : AVal) (h : AHeap) : Rs :=
  bndP (pFieldAddr 4 v5) fun v191 =>
  bndP (pLoad1 I v191 h) fun v192 =>
  bnd (call 30 [v0, v192] h) fun v193 h1 =>
  bndP (pExtract v193 0) fun v194 =>
  bndP (pExtract v193 1) fun v195 =>
  bnd (sGuard v195 .true (lift (pLoad1 I v7 h1) h1) h1) fun v198 h2 =>
  bnd (sGuard v195 .true (lift (pFieldAddr 1 v5) h2) h2) fun v199 h3 =>
  bnd (sGuard v195 .true (lift (pLoad1 I v199 h3) h3) h3) fun v200 h4 =>
  bnd (sGuard v195 .true (lift (pIndexAddr 2 v198 v200) h4) h4) fun v201 h5 =>
  bnd (sGuard v195 .true (lift (pLoadN I 2 v201 h5) h5) h5) fun v202 h6 =>
  bnd (sGuard v195 .true (some (v194, h6)) h6) fun v203 h7 =>
  bnd (sGuard v195 .true (lift (pBuild [(Z 0), (Z 0)] [(0, 1, (Z 2)), (1, 1, v203)]) h7) h7) fun v204 h8 =>
  bnd (sGuard v195 .true (lift (pEq P .false (.struct [.i, .i]) .false v202 v204 h8) h8) h8) fun v205 h9 =>
  bndP (pPick v195 v205 (.bool .false)) fun v206 =>
  some (v206, h9)
noncomputable def f13.b5 (I : Inp) (call : CallFn) (j : f13.Js) (v5 v8 : AVal) (h : AHeap) : Rs :=
  bndP (pFieldAddr 2 v5) fun v185 =>
  bndP (pLoad1 I v185 h) fun v186 =>
  bnd (sCallv call v8 [v186] h) fun v187 h1 =>
  bndP (pBin .eql v187 (Z 1)) fun v188 =>
  some (v188, h1)
noncomputable def f13.b6 (I : Inp) (call : CallFn) (j : f13.Js) (v0 v5 v7 v8 : AVal) (h : AHeap) : Rs :=
  bndP (pFieldAddr 2 v5) fun v156 =>
  bndP (pLoad1 I v156 h) fun v157 =>
  bnd (sCallv call v8 [v157] h) fun v158 h1 =>
  bndP (pBin .eql v158 (Z 1)) fun v159 =>
  bnd (sGuard v159 .true (some (v0, h1)) h1) fun v161 h2 =>
  bnd (sGuard v159 .true (lift (pNilCheck v161) h2) h2) fun v162 h3 =>
  bnd (sGuard v159 .true (lift (pFieldAddr 0 v162) h3) h3) fun v163 h4 =>
  bnd (sGuard v159 .true (lift (pLoad1 I v163 h4) h4) h4) fun v164 h5 =>
  bnd (sGuard v159 .true (lift (pLoad1 I v7 h5) h5) h5) fun v165 h6 =>
  bnd (sGuard v159 .true (lift (pFieldAddr 2 v5) h6) h6) fun v166 h7 =>
  bnd (sGuard v159 .true (lift (pLoad1 I v166 h7) h7) h7) fun v167 h8 =>
  bnd (sGuard v159 .true (lift (pIndexAddr 2 v165 v167) h8) h8) fun v168 h9 =>
  bnd (sGuard v159 .true (lift (pFieldAddr 1 v168) h9) h9) fun v169 h10 =>
  bnd (sGuard v159 .true (lift (pLoad1 I v169 h10) h10) h10) fun v170 h11 =>
  bnd (sGuard v159 .true (lift (pIndexAddr 1 v164 v170) h11) h11) fun v171 h12 =>
  bnd (sGuard v159 .true (lift (pLoad1 I v171 h12) h12) h12) fun v172 h13 =>
  bnd (sGuard v159 .true (lift (pFieldAddr 4 v5) h13) h13) fun v173 h14 =>
  bnd (sGuard v159 .true (lift (pLoad1 I v173 h14) h14) h14) fun v174 h15 =>
  bnd (sGuard v159 .true (lift (pIndexAddr 2 v172 v174) h15) h15) fun v175 h16 =>
  bnd (sGuard v159 .true (lift (pLoadN I 2 v175 h16) h16) h16) fun v176 h17 =>
  bnd (sGuard v159 .true (lift (pLoad1 I v7 h17) h17) h17) fun v177 h18 =>
  bnd (sGuard v159 .true (lift (pFieldAddr 3 v5) h18) h18) fun v178 h19 =>
  bnd (sGuard v159 .true (lift (pLoad1 I v178 h19) h19) h19) fun v179 h20 =>
  bnd (sGuard v159 .true (lift (pIndexAddr 2 v177 v179) h20) h20) fun v180 h21 =>
  bnd (sGuard v159 .true (lift (pLoadN I 2 v180 h21) h21) h21) fun v181 h22 =>
  bnd (sGuard v159 .true (lift (pEq P .false (.struct [.i, .i]) .false v176 v181 h22) h22) h22) fun v182 h23 =>
  bndP (pPick v159 v182 (.bool .false)) fun v183 =>
  some (v183, h23)
noncomputable def f13.b7 (I : Inp) (call : CallFn) (j : f13.Js) (v0 v5 v7 v8 : AVal) (h : AHeap) : Rs :=
  bndP (pFieldAddr 2 v5) fun v127 =>
  bndP (pLoad1 I v127 h) fun v128 =>
  bnd (sCallv call v8 [v128] h) fun v129 h1 =>
  bndP (pBin .eql v129 (Z 1)) fun v130 =>
  bnd (sGuard v130 .true (some (v0, h1)) h1) fun v132 h2 =>
  bnd (sGuard v130 .true (lift (pNilCheck v132) h2) h2) fun v133 h3 =>
  bnd (sGuard v130 .true (lift (pFieldAddr 0 v133) h3) h3) fun v134 h4 =>
  bnd (sGuard v130 .true (lift (pLoad1 I v134 h4) h4) h4) fun v135 h5 =>
  bnd (sGuard v130 .true (lift (pLoad1 I v7 h5) h5) h5) fun v136 h6 =>
  bnd (sGuard v130 .true (lift (pFieldAddr 2 v5) h6) h6) fun v137 h7 =>
  bnd (sGuard v130 .true (lift (pLoad1 I v137 h7) h7) h7) fun v138 h8 =>
  bnd (sGuard v130 .true (lift (pIndexAddr 2 v136 v138) h8) h8) fun v139 h9 =>
  bnd (sGuard v130 .true (lift (pFieldAddr 1 v139) h9) h9) fun v140 h10 =>
  bnd (sGuard v130 .true (lift (pLoad1 I v140 h10) h10) h10) fun v141 h11 =>
  bnd (sGuard v130 .true (lift (pIndexAddr 1 v135 v141) h11) h11) fun v142 h12 =>
  bnd (sGuard v130 .true (lift (pLoad1 I v142 h12) h12) h12) fun v143 h13 =>
  bnd (sGuard v130 .true (lift (pFieldAddr 4 v5) h13) h13) fun v144 h14 =>
  bnd (sGuard v130 .true (lift (pLoad1 I v144 h14) h14) h14) fun v145 h15 =>
  bnd (sGuard v130 .true (lift (pIndexAddr 2 v143 v145) h15) h15) fun v146 h16 =>
  bnd (sGuard v130 .true (lift (pLoadN I 2 v146 h16) h16) h16) fun v147 h17 =>
  bnd (sGuard v130 .true (lift (pLoad1 I v7 h17) h17) h17) fun v148 h18 =>
  bnd (sGuard v130 .true (lift (pFieldAddr 1 v5) h18) h18) fun v149 h19 =>
  bnd (sGuard v130 .true (lift (pLoad1 I v149 h19) h19) h19) fun v150 h20 =>
  bnd (sGuard v130 .true (lift (pIndexAddr 2 v148 v150) h20) h20) fun v151 h21 =>
  bnd (sGuard v130 .true (lift (pLoadN I 2 v151 h21) h21) h21) fun v152 h22 =>
  bnd (sGuard v130 .true (lift (pEq P .false (.struct [.i, .i]) .false v147 v152 h22) h22) h22) fun v153 h23 =>
  bndP (pPick v130 v153 (.bool .false)) fun v154 =>
  some (v154, h23)
noncomputable def f13.b8 (I : Inp) (call : CallFn) (j : f13.Js) (v5 v7 : AVal) (h : AHeap) : Rs :=
  bndP (pLoad1 I v7 h) fun v115 =>
  bndP (pFieldAddr 2 v5) fun v116 =>
  bndP (pLoad1 I v116 h) fun v117 =>
  bndP (pIndexAddr 2 v115 v117) fun v118 =>
  bndP (pLoadN I 2 v118 h) fun v119 =>
  bndP (pLoad1 I v7 h) fun v120 =>
  bndP (pFieldAddr 1 v5) fun v121 =>
  bndP (pLoad1 I v121 h) fun v122 =>
  bndP (pIndexAddr 2 v120 v122) fun v123 =>
  bndP (pLoadN I 2 v123 h) fun v124 =>
  bndP (pEq P .false (.struct [.i, .i]) .false v119 v124 h) fun v125 =>
  some (v125, h)
noncomputable def f13.b9 (I : Inp) (call : CallFn) (j : f13.Js) (v5 v8 : AVal) (h : AHeap) : Rs :=
  bndP (pFieldAddr 1 v5) fun v111 =>
  bndP (pLoad1 I v111 h) fun v112 =>
  bnd (sCallv call v8 [v112] h) fun v113 h1 =>
  bndP (pBin .eql v113 (Z 1)) fun v114 =>
  some (v114, h1)
noncomputable def f13.b10 (I : Inp) (call : CallFn) (j : f13.Js) (v5 v8 : AVal) (h : AHeap) : Rs :=
  bndP (pFieldAddr 1 v5) fun v106 =>
  bndP (pLoad1 I v106 h) fun v107 =>
  bnd (sCallv call v8 [v107] h) fun v108 h1 =>
  bndP (pBin .neq v108 (Z 0)) fun v109 =>
  some (v109, h1)
noncomputable def f13.b11 (I : Inp) (call : CallFn) (j : f13.Js) (v5 v8 : AVal) (h : AHeap) : Rs :=
  bndP (pFieldAddr 1 v5) fun v101 =>
  bndP (pLoad1 I v101 h) fun v102 =>
  bnd (sCallv call v8 [v102] h) fun v103 h1 =>
  bndP (pBin .eql v103 (Z 0)) fun v104 =>
  some (v104, h1)
noncomputable def f13.b12 (I : Inp) (call : CallFn) (j : f13.Js) (v5 v8 : AVal) (h : AHeap) : Rs :=
  bndP (pFieldAddr 2 v5) fun v89 =>
  bndP (pLoad1 I v89 h) fun v90 =>
  bnd (sCallv call v8 [v90] h) fun v91 h1 =>
  bndP (pBin .neq v91 (Z 0)) fun v92 =>
  bnd (sGuard v92 .false (some (v8, h1)) h1) fun v94 h2 =>
  bnd (sGuard v92 .false (lift (pFieldAddr 3 v5) h2) h2) fun v95 h3 =>
  bnd (sGuard v92 .false (lift (pLoad1 I v95 h3) h3) h3) fun v96 h4 =>
  bnd (sGuard v92 .false (sCallv call v94 [v96] h4) h4) fun v97 h5 =>
  bnd (sGuard v92 .false (lift (pBin .neq v97 (Z 0)) h5) h5) fun v98 h6 =>
  bndP (pPick v92 (.bool .true) v98) fun v99 =>
  sCond v99 (
  j.1.2.1.2.2 v5 v8 h6) (
  some ((.bool .false), h6))
noncomputable def f13.b13 (I : Inp) (call : CallFn) (j : f13.Js) (v0 v5 v7 : AVal) (h : AHeap) : Rs :=
  j.1.1.1.1.2 v0 v5 v7 h
noncomputable def f13.b14 (I : Inp) (call : CallFn) (j : f13.Js) (v0 v5 v7 v8 v64 : AVal) (h : AHeap) : Rs :=
  bndP (pBin .eql v64 (Z 1)) fun v68 =>
  sCond v68 (
  bndP (pBin .eql v64 (Z 3)) fun v69 =>
  j.1.2.2.2.2.2 v0 v5 v7 v8 v64 v69 h) (
  j.1.2.2.2.2.2 v0 v5 v7 v8 v64 v68 h)
noncomputable def f13.b15 (I : Inp) (call : CallFn) (j : f13.Js) (v0 v5 v7 v8 v64 : AVal) (h : AHeap) : Rs :=
  bndP (pBin .eql v64 (Z 4)) fun v71 =>
  sCond v71 (
  j.2.1.1.1.1 v0 v5 v7 v8 v64 h) (
  j.1.2.1.2.1 v5 v8 h)
noncomputable def f13.b16 (I : Inp) (call : CallFn) (j : f13.Js) (v0 v5 v7 v8 v64 v67 : AVal) (h : AHeap) : Rs :=
  sCond v67 (
  j.1.2.2.2.2.1 v0 v5 v7 v8 v64 h) (
  j.1.2.1.2.2 v5 v8 h)
noncomputable def f13.b17 (I : Inp) (call : CallFn) (j : f13.Js) (v0 v5 v7 v8 v64 : AVal) (h : AHeap) : Rs :=
  bndP (pBin .eql v64 (Z 5)) fun v73 =>
  sCond v73 (
  j.2.1.1.1.2 v0 v5 v7 v8 v64 h) (
  j.1.2.1.1.2 v5 v8 h)
noncomputable def f13.b18 (I : Inp) (call : CallFn) (j : f13.Js) (v0 v5 v7 v8 v64 : AVal) (h : AHeap) : Rs :=
  bndP (pBin .eql v64 (Z 6)) fun v75 =>
  sCond v75 (
  j.2.1.1.2.1 v0 v5 v7 v8 v64 h) (
  j.1.2.1.1.1 v5 v7 h)
noncomputable def f13.b19 (I : Inp) (call : CallFn) (j : f13.Js) (v0 v5 v7 v8 v64 : AVal) (h : AHeap) : Rs :=
  bndP (pBin .eql v64 (Z 7)) fun v77 =>
  sCond v77 (
  j.2.1.1.2.2 v0 v5 v7 v8 v64 h) (
  j.1.1.2.2.2 v0 v5 v7 v8 h)
noncomputable def f13.b20 (I : Inp) (call : CallFn) (j : f13.Js) (v0 v5 v7 v8 v64 : AVal) (h : AHeap) : Rs :=
  bndP (pBin .eql v64 (Z 8)) fun v79 =>
  sCond v79 (
  j.2.1.2.1.1 v0 v5 v7 v8 v64 h) (
  j.1.1.2.2.1 v0 v5 v7 v8 h)
noncomputable def f13.b21 (I : Inp) (call : CallFn) (j : f13.Js) (v0 v5 v7 v8 v64 : AVal) (h : AHeap) : Rs :=
  bndP (pBin .eql v64 (Z 9)) fun v81 =>
  sCond v81 (
  j.2.1.2.1.2 v0 v5 v7 v8 v64 h) (
  j.1.1.2.1.2 v5 v8 h)
noncomputable def f13.b22 (I : Inp) (call : CallFn) (j : f13.Js) (v0 v5 v7 v8 v64 : AVal) (h : AHeap) : Rs :=
  bndP (pBin .eql v64 (Z 10)) fun v83 =>
  sCond v83 (
  j.2.1.2.2.1 v0 v5 v7 v8 v64 h) (
  j.1.1.2.1.1 v0 v5 v7 h)
noncomputable def f13.b23 (I : Inp) (call : CallFn) (j : f13.Js) (v0 v5 v7 v8 v64 : AVal) (h : AHeap) : Rs :=
  bndP (pBin .eql v64 (Z 11)) fun v85 =>
  sCond v85 (
  j.2.1.2.2.2.1 v0 v5 v7 v8 v64 h) (
  j.1.1.1.2.2 v0 v5 v7 v8 h)
noncomputable def f13.b24 (I : Inp) (call : CallFn) (j : f13.Js) (v0 v5 v7 v8 v64 : AVal) (h : AHeap) : Rs :=
  bndP (pBin .eql v64 (Z 15)) fun v87 =>
  sCond v87 (
  j.1.2.2.1.2 v0 v5 v7 h) (
  j.1.1.1.2.1 v5 v8 h)
noncomputable def f13.b25 (I : Inp) (call : CallFn) (j : f13.Js) (v0 v5 v7 : AVal) (h : AHeap) : Rs :=
  j.1.1.1.1.2 v0 v5 v7 h
noncomputable def f13.b26 (I : Inp) (call : CallFn) (j : f13.Js) (v0 v5 v7 : AVal) (h : AHeap) : Rs :=
  j.1.1.1.1.2 v0 v5 v7 h
noncomputable def f13.b27 (I : Inp) (call : CallFn) (j : f13.Js) (v0 v5 v7 : AVal) (h : AHeap) : Rs :=
  j.1.1.1.1.2 v0 v5 v7 h
noncomputable def f13.b28 (I : Inp) (call : CallFn) (j : f13.Js) (v0 v5 v7 : AVal) (h : AHeap) : Rs :=
  j.1.1.1.1.2 v0 v5 v7 h
noncomputable def f13.b29 (I : Inp) (call : CallFn) (j : f13.Js) (v0 v5 v7 : AVal) (h : AHeap) : Rs :=
  j.1.1.1.1.2 v0 v5 v7 h
noncomputable def f13.b30 (I : Inp) (call : CallFn) (j : f13.Js) (v0 v5 v7 : AVal) (h : AHeap) : Rs :=
  j.1.1.1.1.2 v0 v5 v7 h
noncomputable def f13.b31 (I : Inp) (call : CallFn) (j : f13.Js) (v0 v5 v7 : AVal) (h : AHeap) : Rs :=
  j.1.1.1.1.2 v0 v5 v7 h
noncomputable def f13.b32 (I : Inp) (call : CallFn) (j : f13.Js) (v0 v5 v7 : AVal) (h : AHeap) : Rs :=
  j.1.1.1.1.2 v0 v5 v7 h
noncomputable def f13.b33 (I : Inp) (call : CallFn) (j : f13.Js) (v0 v5 v7 : AVal) (h : AHeap) : Rs :=
  j.1.1.1.1.2 v0 v5 v7 h
noncomputable def f13.b34 (I : Inp) (call : CallFn) (j : f13.Js) (v0 v5 v7 : AVal) (h : AHeap) : Rs :=
  j.1.1.1.1.2 v0 v5 v7 h
noncomputable def f13.e (I : Inp) (call : CallFn) (j : f13.Js) (v0 v1 v2 : AVal) (h : AHeap) : Rs :=
  bnd (sBox v2 h) fun v5 h1 =>
  bndP (pEq P .false .ptr .true v0 .nilp h1) fun v12 =>
  bnd (sGuard v12 .false (some (v1, h1)) h1) fun v14 h2 =>
  bnd (sGuard v12 .false (some (v0, h2)) h2) fun v15 h3 =>
  bnd (sGuard v12 .false (lift (pNilCheck v15) h3) h3) fun v16 h4 =>
  bnd (sGuard v12 .false (lift (pFieldAddr 4 v16) h4) h4) fun v17 h5 =>
  bnd (sGuard v12 .false (lift (pLoad1 I v17 h5) h5) h5) fun v18 h6 =>
  bnd (sGuard v12 .false (lift (pLenSl v18) h6) h6) fun v19 h7 =>
  bnd (sGuard v12 .false (call 25 [v14, v19] h7) h7) fun v20 h8 =>
  bnd (sGuard v12 .false (lift (pUn .not v20) h8) h8) fun v21 h9 =>
  bndP (pPick v12 (.bool .true) v21) fun v22 =>
  bnd (sGuard v22 .false (some (v0, h9)) h9) fun v24 h10 =>
  bnd (sGuard v22 .false (call 26 [v24] h10) h10) fun v25 h11 =>
  bnd (sGuard v22 .false (lift (pUn .not v25) h11) h11) fun v26 h12 =>
  bndP (pPick v22 (.bool .true) v26) fun v27 =>
  bnd (sGuard v27 .false (some (v0, h12)) h12) fun v29 h13 =>
  bnd (sGuard v27 .false (some (v0, h13)) h13) fun v30 h14 =>
  bnd (sGuard v27 .false (lift (pNilCheck v30) h14) h14) fun v31 h15 =>
  bnd (sGuard v27 .false (lift (pFieldAddr 4 v31) h15) h15) fun v32 h16 =>
  bnd (sGuard v27 .false (lift (pLoad1 I v32 h16) h16) h16) fun v33 h17 =>
  bnd (sGuard v27 .false (some (v1, h17)) h17) fun v34 h18 =>
  bnd (sGuard v27 .false (lift (pIndexAddr 3 v33 v34) h18) h18) fun v35 h19 =>
  bnd (sGuard v27 .false (lift (pFieldAddr 1 v35) h19) h19) fun v36 h20 =>
  bnd (sGuard v27 .false (lift (pLoad1 I v36 h20) h20) h20) fun v37 h21 =>
  bnd (sGuard v27 .false (call 27 [v29, v37] h21) h21) fun v38 h22 =>
  bnd (sGuard v27 .false (lift (pUn .not v38) h22) h22) fun v39 h23 =>
  bndP (pPick v27 (.bool .true) v39) fun v40 =>
  bnd (sGuard v40 .false (some (v0, h23)) h23) fun v42 h24 =>
  bnd (sGuard v40 .false (some (v0, h24)) h24) fun v43 h25 =>
  bnd (sGuard v40 .false (lift (pNilCheck v43) h25) h25) fun v44 h26 =>
  bnd (sGuard v40 .false (lift (pFieldAddr 4 v44) h26) h26) fun v45 h27 =>
  bnd (sGuard v40 .false (lift (pLoad1 I v45 h27) h27) h27) fun v46 h28 =>
  bnd (sGuard v40 .false (some (v1, h28)) h28) fun v47 h29 =>
  bnd (sGuard v40 .false (lift (pIndexAddr 3 v46 v47) h29) h29) fun v48 h30 =>
  bnd (sGuard v40 .false (lift (pLoadN I 3 v48 h30) h30) h30) fun v49 h31 =>
  bnd (sGuard v40 .false (lift (pLoadN I 6 v5 h31) h31) h31) fun v50 h32 =>
  bnd (sGuard v40 .false (call 28 [v42, v49, v50] h32) h32) fun v51 h33 =>
  bnd (sGuard v40 .false (lift (pUn .not v51) h33) h33) fun v52 h34 =>
  bndP (pPick v40 (.bool .true) v52) fun v53 =>
  sCond v53 (
  j.1.1.1.1.1 v0 v1 v5 h34) (
  some ((.bool .false), h34))
noncomputable def f13.J (I : Inp) (call : CallFn) (n : Nat) : f13.Js :=
  Nat.rec (motive := fun _ => f13.Js) ((((((fun _ _ _ _ => none), (fun _ _ _ _ => none)), ((fun _ _ _ => none), (fun _ _ _ _ _ => none))), (((fun _ _ _ _ => none), (fun _ _ _ => none)), ((fun _ _ _ _ _ => none), (fun _ _ _ _ _ => none)))), ((((fun _ _ _ => none), (fun _ _ _ => none)), ((fun _ _ _ => none), (fun _ _ _ => none))), (((fun _ _ _ => none), (fun _ _ _ _ => none)), ((fun _ _ _ _ _ _ => none), ((fun _ _ _ _ _ _ => none), (fun _ _ _ _ _ _ _ => none)))))), (((((fun _ _ _ _ _ _ => none), (fun _ _ _ _ _ _ => none)), ((fun _ _ _ _ _ _ => none), (fun _ _ _ _ _ _ => none))), (((fun _ _ _ _ _ _ => none), (fun _ _ _ _ _ _ => none)), ((fun _ _ _ _ _ _ => none), ((fun _ _ _ _ _ _ => none), (fun _ _ _ _ => none))))), ((((fun _ _ _ _ => none), (fun _ _ _ _ => none)), ((fun _ _ _ _ => none), (fun _ _ _ _ => none))), (((fun _ _ _ _ => none), (fun _ _ _ _ => none)), ((fun _ _ _ _ => none), ((fun _ _ _ _ => none), (fun _ _ _ _ => none))))))) (fun _ ih => (((((f13.b0 I call ih, f13.b1 I call ih), (f13.b2 I call ih, f13.b3 I call ih)), ((f13.b4 I call ih, f13.b5 I call ih), (f13.b6 I call ih, f13.b7 I call ih))), (((f13.b8 I call ih, f13.b9 I call ih), (f13.b10 I call ih, f13.b11 I call ih)), ((f13.b12 I call ih, f13.b13 I call ih), (f13.b14 I call ih, (f13.b15 I call ih, f13.b16 I call ih))))), ((((f13.b17 I call ih, f13.b18 I call ih), (f13.b19 I call ih, f13.b20 I call ih)), ((f13.b21 I call ih, f13.b22 I call ih), (f13.b23 I call ih, (f13.b24 I call ih, f13.b25 I call ih)))), (((f13.b26 I call ih, f13.b27 I call ih), (f13.b28 I call ih, f13.b29 I call ih)), ((f13.b30 I call ih, f13.b31 I call ih), (f13.b32 I call ih, (f13.b33 I call ih, f13.b34 I call ih))))))) n
noncomputable def f13.JS (I : Inp) (call : CallFn) (n : Nat) : Jmp := fun id ρ h =>
  (Bool.rec (motive := fun _ => _) (Bool.rec (motive := fun _ => _) (Bool.rec (motive := fun _ => _) (Bool.rec (motive := fun _ => _) (Bool.rec (motive := fun _ => _) (Bool.rec (motive := fun _ => _) ((f13.J I call n).2.2.2.2.2.2 (ρ 0) (ρ 5) (ρ 7) h) ((f13.J I call n).2.2.2.2.2.1 (ρ 0) (ρ 5) (ρ 7) h) (Nat.blt id 34)) ((f13.J I call n).2.2.2.2.1 (ρ 0) (ρ 5) (ρ 7) h) (Nat.blt id 33)) (Bool.rec (motive := fun _ => _) ((f13.J I call n).2.2.2.1.2 (ρ 0) (ρ 5) (ρ 7) h) ((f13.J I call n).2.2.2.1.1 (ρ 0) (ρ 5) (ρ 7) h) (Nat.blt id 31)) (Nat.blt id 32)) (Bool.rec (motive := fun _ => _) (Bool.rec (motive := fun _ => _) ((f13.J I call n).2.2.1.2.2 (ρ 0) (ρ 5) (ρ 7) h) ((f13.J I call n).2.2.1.2.1 (ρ 0) (ρ 5) (ρ 7) h) (Nat.blt id 29)) (Bool.rec (motive := fun _ => _) ((f13.J I call n).2.2.1.1.2 (ρ 0) (ρ 5) (ρ 7) h) ((f13.J I call n).2.2.1.1.1 (ρ 0) (ρ 5) (ρ 7) h) (Nat.blt id 27)) (Nat.blt id 28)) (Nat.blt id 30)) (Bool.rec (motive := fun _ => _) (Bool.rec (motive := fun _ => _) (Bool.rec (motive := fun _ => _) (Bool.rec (motive := fun _ => _) ((f13.J I call n).2.1.2.2.2.2 (ρ 0) (ρ 5) (ρ 7) h) ((f13.J I call n).2.1.2.2.2.1 (ρ 0) (ρ 5) (ρ 7) (ρ 8) (ρ 64) h) (Nat.blt id 25)) ((f13.J I call n).2.1.2.2.1 (ρ 0) (ρ 5) (ρ 7) (ρ 8) (ρ 64) h) (Nat.blt id 24)) (Bool.rec (motive := fun _ => _) ((f13.J I call n).2.1.2.1.2 (ρ 0) (ρ 5) (ρ 7) (ρ 8) (ρ 64) h) ((f13.J I call n).2.1.2.1.1 (ρ 0) (ρ 5) (ρ 7) (ρ 8) (ρ 64) h) (Nat.blt id 22)) (Nat.blt id 23)) (Bool.rec (motive := fun _ => _) (Bool.rec (motive := fun _ => _) ((f13.J I call n).2.1.1.2.2 (ρ 0) (ρ 5) (ρ 7) (ρ 8) (ρ 64) h) ((f13.J I call n).2.1.1.2.1 (ρ 0) (ρ 5) (ρ 7) (ρ 8) (ρ 64) h) (Nat.blt id 20)) (Bool.rec (motive := fun _ => _) ((f13.J I call n).2.1.1.1.2 (ρ 0) (ρ 5) (ρ 7) (ρ 8) (ρ 64) h) ((f13.J I call n).2.1.1.1.1 (ρ 0) (ρ 5) (ρ 7) (ρ 8) (ρ 64) h) (Nat.blt id 18)) (Nat.blt id 19)) (Nat.blt id 21)) (Nat.blt id 26)) (Bool.rec (motive := fun _ => _) (Bool.rec (motive := fun _ => _) (Bool.rec (motive := fun _ => _) (Bool.rec (motive := fun _ => _) (Bool.rec (motive := fun _ => _) ((f13.J I call n).1.2.2.2.2.2 (ρ 0) (ρ 5) (ρ 7) (ρ 8) (ρ 64) (ρ 67) h) ((f13.J I call n).1.2.2.2.2.1 (ρ 0) (ρ 5) (ρ 7) (ρ 8) (ρ 64) h) (Nat.blt id 16)) ((f13.J I call n).1.2.2.2.1 (ρ 0) (ρ 5) (ρ 7) (ρ 8) (ρ 64) h) (Nat.blt id 15)) (Bool.rec (motive := fun _ => _) ((f13.J I call n).1.2.2.1.2 (ρ 0) (ρ 5) (ρ 7) h) ((f13.J I call n).1.2.2.1.1 (ρ 5) (ρ 8) h) (Nat.blt id 13)) (Nat.blt id 14)) (Bool.rec (motive := fun _ => _) (Bool.rec (motive := fun _ => _) ((f13.J I call n).1.2.1.2.2 (ρ 5) (ρ 8) h) ((f13.J I call n).1.2.1.2.1 (ρ 5) (ρ 8) h) (Nat.blt id 11)) (Bool.rec (motive := fun _ => _) ((f13.J I call n).1.2.1.1.2 (ρ 5) (ρ 8) h) ((f13.J I call n).1.2.1.1.1 (ρ 5) (ρ 7) h) (Nat.blt id 9)) (Nat.blt id 10)) (Nat.blt id 12)) (Bool.rec (motive := fun _ => _) (Bool.rec (motive := fun _ => _) (Bool.rec (motive := fun _ => _) ((f13.J I call n).1.1.2.2.2 (ρ 0) (ρ 5) (ρ 7) (ρ 8) h) ((f13.J I call n).1.1.2.2.1 (ρ 0) (ρ 5) (ρ 7) (ρ 8) h) (Nat.blt id 7)) (Bool.rec (motive := fun _ => _) ((f13.J I call n).1.1.2.1.2 (ρ 5) (ρ 8) h) ((f13.J I call n).1.1.2.1.1 (ρ 0) (ρ 5) (ρ 7) h) (Nat.blt id 5)) (Nat.blt id 6)) (Bool.rec (motive := fun _ => _) (Bool.rec (motive := fun _ => _) ((f13.J I call n).1.1.1.2.2 (ρ 0) (ρ 5) (ρ 7) (ρ 8) h) ((f13.J I call n).1.1.1.2.1 (ρ 5) (ρ 8) h) (Nat.blt id 3)) (Bool.rec (motive := fun _ => _) ((f13.J I call n).1.1.1.1.2 (ρ 0) (ρ 5) (ρ 7) h) ((f13.J I call n).1.1.1.1.1 (ρ 0) (ρ 1) (ρ 5) h) (Nat.blt id 1)) (Nat.blt id 2)) (Nat.blt id 4)) (Nat.blt id 8)) (Nat.blt id 17))
theorem f13.z0 (I : Inp) (call : CallFn) (ρ : Fun) (h : AHeap) : f13.JS I call 0 0 ρ h = none := rfl
theorem f13.z1 (I : Inp) (call : CallFn) (ρ : Fun) (h : AHeap) : f13.JS I call 0 1 ρ h = none := rfl
theorem f13.z2 (I : Inp) (call : CallFn) (ρ : Fun) (h : AHeap) : f13.JS I call 0 2 ρ h = none := rfl
theorem f13.z3 (I : Inp) (call : CallFn) (ρ : Fun) (h : AHeap) : f13.JS I call 0 3 ρ h = none := rfl
theorem f13.z4 (I : Inp) (call : CallFn) (ρ : Fun) (h : AHeap) : f13.JS I call 0 4 ρ h = none := rfl
theorem f13.z5 (I : Inp) (call : CallFn) (ρ : Fun) (h : AHeap) : f13.JS I call 0 5 ρ h = none := rfl
theorem f13.z6 (I : Inp) (call : CallFn) (ρ : Fun) (h : AHeap) : f13.JS I call 0 6 ρ h = none := rfl
theorem f13.z7 (I : Inp) (call : CallFn) (ρ : Fun) (h : AHeap) : f13.JS I call 0 7 ρ h = none := rfl
theorem f13.z8 (I : Inp) (call : CallFn) (ρ : Fun) (h : AHeap) : f13.JS I call 0 8 ρ h = none := rfl
theorem f13.z9 (I : Inp) (call : CallFn) (ρ : Fun) (h : AHeap) : f13.JS I call 0 9 ρ h = none := rfl
theorem f13.z10 (I : Inp) (call : CallFn) (ρ : Fun) (h : AHeap) : f13.JS I call 0 10 ρ h = none := rfl
theorem f13.z11 (I : Inp) (call : CallFn) (ρ : Fun) (h : AHeap) : f13.JS I call 0 11 ρ h = none := rfl
theorem f13.z12 (I : Inp) (call : CallFn) (ρ : Fun) (h : AHeap) : f13.JS I call 0 12 ρ h = none := rfl
theorem f13.z13 (I : Inp) (call : CallFn) (ρ : Fun) (h : AHeap) : f13.JS I call 0 13 ρ h = none := rfl
theorem f13.z14 (I : Inp) (call : CallFn) (ρ : Fun) (h : AHeap) : f13.JS I call 0 14 ρ h = none := rfl
theorem f13.z15 (I : Inp) (call : CallFn) (ρ : Fun) (h : AHeap) : f13.JS I call 0 15 ρ h = none := rfl
theorem f13.z16 (I : Inp) (call : CallFn) (ρ : Fun) (h : AHeap) : f13.JS I call 0 16 ρ h = none := rfl
theorem f13.z17 (I : Inp) (call : CallFn) (ρ : Fun) (h : AHeap) : f13.JS I call 0 17 ρ h = none := rfl
theorem f13.z18 (I : Inp) (call : CallFn) (ρ : Fun) (h : AHeap) : f13.JS I call 0 18 ρ h = none := rfl
theorem f13.z19 (I : Inp) (call : CallFn) (ρ : Fun) (h : AHeap) : f13.JS I call 0 19 ρ h = none := rfl
theorem f13.z20 (I : Inp) (call : CallFn) (ρ : Fun) (h : AHeap) : f13.JS I call 0 20 ρ h = none := rfl
theorem f13.z21 (I : Inp) (call : CallFn) (ρ : Fun) (h : AHeap) : f13.JS I call 0 21 ρ h = none := rfl
theorem f13.z22 (I : Inp) (call : CallFn) (ρ : Fun) (h : AHeap) : f13.JS I call 0 22 ρ h = none := rfl
theorem f13.z23 (I : Inp) (call : CallFn) (ρ : Fun) (h : AHeap) : f13.JS I call 0 23 ρ h = none := rfl
theorem f13.z24 (I : Inp) (call : CallFn) (ρ : Fun) (h : AHeap) : f13.JS I call 0 24 ρ h = none := rfl
theorem f13.z25 (I : Inp) (call : CallFn) (ρ : Fun) (h : AHeap) : f13.JS I call 0 25 ρ h = none := rfl
theorem f13.z26 (I : Inp) (call : CallFn) (ρ : Fun) (h : AHeap) : f13.JS I call 0 26 ρ h = none := rfl
theorem f13.z27 (I : Inp) (call : CallFn) (ρ : Fun) (h : AHeap) : f13.JS I call 0 27 ρ h = none := rfl
theorem f13.z28 (I : Inp) (call : CallFn) (ρ : Fun) (h : AHeap) : f13.JS I call 0 28 ρ h = none := rfl
theorem f13.z29 (I : Inp) (call : CallFn) (ρ : Fun) (h : AHeap) : f13.JS I call 0 29 ρ h = none := rfl
theorem f13.z30 (I : Inp) (call : CallFn) (ρ : Fun) (h : AHeap) : f13.JS I call 0 30 ρ h = none := rfl
theorem f13.z31 (I : Inp) (call : CallFn) (ρ : Fun) (h : AHeap) : f13.JS I call 0 31 ρ h = none := rfl
theorem f13.z32 (I : Inp) (call : CallFn) (ρ : Fun) (h : AHeap) : f13.JS I call 0 32 ρ h = none := rfl
theorem f13.z33 (I : Inp) (call : CallFn) (ρ : Fun) (h : AHeap) : f13.JS I call 0 33 ρ h = none := rfl
theorem f13.z34 (I : Inp) (call : CallFn) (ρ : Fun) (h : AHeap) : f13.JS I call 0 34 ρ h = none := rfl
theorem f13.q0 (I : Inp) (call : CallFn) (n : Nat) (ρ : Fun) (h : AHeap) : f13.JS I call (n + 1) 0 ρ h = labC P I call (f13.JS I call n) c13.body 0 (finV I c13.results) 0 ρ h := by kernel_rfl
theorem f13.q1 (I : Inp) (call : CallFn) (n : Nat) (ρ : Fun) (h : AHeap) : f13.JS I call (n + 1) 1 ρ h = labC P I call (f13.JS I call n) c13.body 0 (finV I c13.results) 1 ρ h := by kernel_rfl
theorem f13.q2 (I : Inp) (call : CallFn) (n : Nat) (ρ : Fun) (h : AHeap) : f13.JS I call (n + 1) 2 ρ h = labC P I call (f13.JS I call n) c13.body 0 (finV I c13.results) 2 ρ h := by kernel_rfl
theorem f13.q3 (I : Inp) (call : CallFn) (n : Nat) (ρ : Fun) (h : AHeap) : f13.JS I call (n + 1) 3 ρ h = labC P I call (f13.JS I call n) c13.body 0 (finV I c13.results) 3 ρ h := by kernel_rfl
theorem f13.q4 (I : Inp) (call : CallFn) (n : Nat) (ρ : Fun) (h : AHeap) : f13.JS I call (n + 1) 4 ρ h = labC P I call (f13.JS I call n) c13.body 0 (finV I c13.results) 4 ρ h := by kernel_rfl
theorem f13.q5 (I : Inp) (call : CallFn) (n : Nat) (ρ : Fun) (h : AHeap) : f13.JS I call (n + 1) 5 ρ h = labC P I call (f13.JS I call n) c13.body 0 (finV I c13.results) 5 ρ h := by kernel_rfl
theorem f13.q6 (I : Inp) (call : CallFn) (n : Nat) (ρ : Fun) (h : AHeap) : f13.JS I call (n + 1) 6 ρ h = labC P I call (f13.JS I call n) c13.body 0 (finV I c13.results) 6 ρ h := by kernel_rfl
theorem f13.q7 (I : Inp) (call : CallFn) (n : Nat) (ρ : Fun) (h : AHeap) : f13.JS I call (n + 1) 7 ρ h = labC P I call (f13.JS I call n) c13.body 0 (finV I c13.results) 7 ρ h := by kernel_rfl
theorem f13.q8 (I : Inp) (call : CallFn) (n : Nat) (ρ : Fun) (h : AHeap) : f13.JS I call (n + 1) 8 ρ h = labC P I call (f13.JS I call n) c13.body 0 (finV I c13.results) 8 ρ h := by kernel_rfl
theorem f13.q9 (I : Inp) (call : CallFn) (n : Nat) (ρ : Fun) (h : AHeap) : f13.JS I call (n + 1) 9 ρ h = labC P I call (f13.JS I call n) c13.body 0 (finV I c13.results) 9 ρ h := by kernel_rfl
theorem f13.q10 (I : Inp) (call : CallFn) (n : Nat) (ρ : Fun) (h : AHeap) : f13.JS I call (n + 1) 10 ρ h = labC P I call (f13.JS I call n) c13.body 0 (finV I c13.results) 10 ρ h := by kernel_rfl
theorem f13.q11 (I : Inp) (call : CallFn) (n : Nat) (ρ : Fun) (h : AHeap) : f13.JS I call (n + 1) 11 ρ h = labC P I call (f13.JS I call n) c13.body 0 (finV I c13.results) 11 ρ h := by kernel_rfl
theorem f13.q12 (I : Inp) (call : CallFn) (n : Nat) (ρ : Fun) (h : AHeap) : f13.JS I call (n + 1) 12 ρ h = labC P I call (f13.JS I call n) c13.body 0 (finV I c13.results) 12 ρ h := by kernel_rfl
theorem f13.q13 (I : Inp) (call : CallFn) (n : Nat) (ρ : Fun) (h : AHeap) : f13.JS I call (n + 1) 13 ρ h = labC P I call (f13.JS I call n) c13.body 0 (finV I c13.results) 13 ρ h := by kernel_rfl
theorem f13.q14 (I : Inp) (call : CallFn) (n : Nat) (ρ : Fun) (h : AHeap) : f13.JS I call (n + 1) 14 ρ h = labC P I call (f13.JS I call n) c13.body 0 (finV I c13.results) 14 ρ h := by kernel_rfl
theorem f13.q15 (I : Inp) (call : CallFn) (n : Nat) (ρ : Fun) (h : AHeap) : f13.JS I call (n + 1) 15 ρ h = labC P I call (f13.JS I call n) c13.body 0 (finV I c13.results) 15 ρ h := by kernel_rfl
theorem f13.q16 (I : Inp) (call : CallFn) (n : Nat) (ρ : Fun) (h : AHeap) : f13.JS I call (n + 1) 16 ρ h = labC P I call (f13.JS I call n) c13.body 0 (finV I c13.results) 16 ρ h := by kernel_rfl
theorem f13.q17 (I : Inp) (call : CallFn) (n : Nat) (ρ : Fun) (h : AHeap) : f13.JS I call (n + 1) 17 ρ h = labC P I call (f13.JS I call n) c13.body 0 (finV I c13.results) 17 ρ h := by kernel_rfl
theorem f13.q18 (I : Inp) (call : CallFn) (n : Nat) (ρ : Fun) (h : AHeap) : f13.JS I call (n + 1) 18 ρ h = labC P I call (f13.JS I call n) c13.body 0 (finV I c13.results) 18 ρ h := by kernel_rfl
theorem f13.q19 (I : Inp) (call : CallFn) (n : Nat) (ρ : Fun) (h : AHeap) : f13.JS I call (n + 1) 19 ρ h = labC P I call (f13.JS I call n) c13.body 0 (finV I c13.results) 19 ρ h := by kernel_rfl
theorem f13.q20 (I : Inp) (call : CallFn) (n : Nat) (ρ : Fun) (h : AHeap) : f13.JS I call (n + 1) 20 ρ h = labC P I call (f13.JS I call n) c13.body 0 (finV I c13.results) 20 ρ h := by kernel_rfl
theorem f13.q21 (I : Inp) (call : CallFn) (n : Nat) (ρ : Fun) (h : AHeap) : f13.JS I call (n + 1) 21 ρ h = labC P I call (f13.JS I call n) c13.body 0 (finV I c13.results) 21 ρ h := by kernel_rfl
theorem f13.q22 (I : Inp) (call : CallFn) (n : Nat) (ρ : Fun) (h : AHeap) : f13.JS I call (n + 1) 22 ρ h = labC P I call (f13.JS I call n) c13.body 0 (finV I c13.results) 22 ρ h := by kernel_rfl
theorem f13.q23 (I : Inp) (call : CallFn) (n : Nat) (ρ : Fun) (h : AHeap) : f13.JS I call (n + 1) 23 ρ h = labC P I call (f13.JS I call n) c13.body 0 (finV I c13.results) 23 ρ h := by kernel_rfl
theorem f13.q24 (I : Inp) (call : CallFn) (n : Nat) (ρ : Fun) (h : AHeap) : f13.JS I call (n + 1) 24 ρ h = labC P I call (f13.JS I call n) c13.body 0 (finV I c13.results) 24 ρ h := by kernel_rfl
theorem f13.q25 (I : Inp) (call : CallFn) (n : Nat) (ρ : Fun) (h : AHeap) : f13.JS I call (n + 1) 25 ρ h = labC P I call (f13.JS I call n) c13.body 0 (finV I c13.results) 25 ρ h := by kernel_rfl
theorem f13.q26 (I : Inp) (call : CallFn) (n : Nat) (ρ : Fun) (h : AHeap) : f13.JS I call (n + 1) 26 ρ h = labC P I call (f13.JS I call n) c13.body 0 (finV I c13.results) 26 ρ h := by kernel_rfl
theorem f13.q27 (I : Inp) (call : CallFn) (n : Nat) (ρ : Fun) (h : AHeap) : f13.JS I call (n + 1) 27 ρ h = labC P I call (f13.JS I call n) c13.body 0 (finV I c13.results) 27 ρ h := by kernel_rfl
theorem f13.q28 (I : Inp) (call : CallFn) (n : Nat) (ρ : Fun) (h : AHeap) : f13.JS I call (n + 1) 28 ρ h = labC P I call (f13.JS I call n) c13.body 0 (finV I c13.results) 28 ρ h := by kernel_rfl
theorem f13.q29 (I : Inp) (call : CallFn) (n : Nat) (ρ : Fun) (h : AHeap) : f13.JS I call (n + 1) 29 ρ h = labC P I call (f13.JS I call n) c13.body 0 (finV I c13.results) 29 ρ h := by kernel_rfl
theorem f13.q30 (I : Inp) (call : CallFn) (n : Nat) (ρ : Fun) (h : AHeap) : f13.JS I call (n + 1) 30 ρ h = labC P I call (f13.JS I call n) c13.body 0 (finV I c13.results) 30 ρ h := by kernel_rfl
theorem f13.q31 (I : Inp) (call : CallFn) (n : Nat) (ρ : Fun) (h : AHeap) : f13.JS I call (n + 1) 31 ρ h = labC P I call (f13.JS I call n) c13.body 0 (finV I c13.results) 31 ρ h := by kernel_rfl
theorem f13.q32 (I : Inp) (call : CallFn) (n : Nat) (ρ : Fun) (h : AHeap) : f13.JS I call (n + 1) 32 ρ h = labC P I call (f13.JS I call n) c13.body 0 (finV I c13.results) 32 ρ h := by kernel_rfl
theorem f13.q33 (I : Inp) (call : CallFn) (n : Nat) (ρ : Fun) (h : AHeap) : f13.JS I call (n + 1) 33 ρ h = labC P I call (f13.JS I call n) c13.body 0 (finV I c13.results) 33 ρ h := by kernel_rfl
theorem f13.q34 (I : Inp) (call : CallFn) (n : Nat) (ρ : Fun) (h : AHeap) : f13.JS I call (n + 1) 34 ρ h = labC P I call (f13.JS I call n) c13.body 0 (finV I c13.results) 34 ρ h := by kernel_rfl
theorem f13.S (I : Inp) (F : Nat → Option AFn) (call : CallFn) : SFn ⟨P, I, F⟩ call c13 (f13.JS I call) :=
  ⟨fun id hid ρ h => by
    have hc : c13.body.cnt = 35 := by kernel_rfl
    rw [hc] at hid
    exact match id, hid with
    | 0, _ => f13.z0 I call ρ h
    | 1, _ => f13.z1 I call ρ h
    | 2, _ => f13.z2 I call ρ h
    | 3, _ => f13.z3 I call ρ h
    | 4, _ => f13.z4 I call ρ h
    | 5, _ => f13.z5 I call ρ h
    | 6, _ => f13.z6 I call ρ h
    | 7, _ => f13.z7 I call ρ h
    | 8, _ => f13.z8 I call ρ h
    | 9, _ => f13.z9 I call ρ h
    | 10, _ => f13.z10 I call ρ h
    | 11, _ => f13.z11 I call ρ h
    | 12, _ => f13.z12 I call ρ h
    | 13, _ => f13.z13 I call ρ h
    | 14, _ => f13.z14 I call ρ h
    | 15, _ => f13.z15 I call ρ h
    | 16, _ => f13.z16 I call ρ h
    | 17, _ => f13.z17 I call ρ h
    | 18, _ => f13.z18 I call ρ h
    | 19, _ => f13.z19 I call ρ h
    | 20, _ => f13.z20 I call ρ h
    | 21, _ => f13.z21 I call ρ h
    | 22, _ => f13.z22 I call ρ h
    | 23, _ => f13.z23 I call ρ h
    | 24, _ => f13.z24 I call ρ h
    | 25, _ => f13.z25 I call ρ h
    | 26, _ => f13.z26 I call ρ h
    | 27, _ => f13.z27 I call ρ h
    | 28, _ => f13.z28 I call ρ h
    | 29, _ => f13.z29 I call ρ h
    | 30, _ => f13.z30 I call ρ h
    | 31, _ => f13.z31 I call ρ h
    | 32, _ => f13.z32 I call ρ h
    | 33, _ => f13.z33 I call ρ h
    | 34, _ => f13.z34 I call ρ h
    | id + 35, hid => absurd hid (by omega), fun n id hid ρ h => by
    have hc : c13.body.cnt = 35 := by kernel_rfl
    rw [hc] at hid
    exact match id, hid with
    | 0, _ => f13.q0 I call n ρ h
    | 1, _ => f13.q1 I call n ρ h
    | 2, _ => f13.q2 I call n ρ h
    | 3, _ => f13.q3 I call n ρ h
    | 4, _ => f13.q4 I call n ρ h
    | 5, _ => f13.q5 I call n ρ h
    | 6, _ => f13.q6 I call n ρ h
    | 7, _ => f13.q7 I call n ρ h
    | 8, _ => f13.q8 I call n ρ h
    | 9, _ => f13.q9 I call n ρ h
    | 10, _ => f13.q10 I call n ρ h
    | 11, _ => f13.q11 I call n ρ h
    | 12, _ => f13.q12 I call n ρ h
    | 13, _ => f13.q13 I call n ρ h
    | 14, _ => f13.q14 I call n ρ h
    | 15, _ => f13.q15 I call n ρ h
    | 16, _ => f13.q16 I call n ρ h
    | 17, _ => f13.q17 I call n ρ h
    | 18, _ => f13.q18 I call n ρ h
    | 19, _ => f13.q19 I call n ρ h
    | 20, _ => f13.q20 I call n ρ h
    | 21, _ => f13.q21 I call n ρ h
    | 22, _ => f13.q22 I call n ρ h
    | 23, _ => f13.q23 I call n ρ h
    | 24, _ => f13.q24 I call n ρ h
    | 25, _ => f13.q25 I call n ρ h
    | 26, _ => f13.q26 I call n ρ h
    | 27, _ => f13.q27 I call n ρ h
    | 28, _ => f13.q28 I call n ρ h
    | 29, _ => f13.q29 I call n ρ h
    | 30, _ => f13.q30 I call n ρ h
    | 31, _ => f13.q31 I call n ρ h
    | 32, _ => f13.q32 I call n ρ h
    | 33, _ => f13.q33 I call n ρ h
    | 34, _ => f13.q34 I call n ρ h
    | id + 35, hid => absurd hid (by omega)⟩
noncomputable def f13.run (I : Inp) : SF := fun call n a h =>
  match a with
  | [v0, v1, v2] => f13.e I call (f13.J I call n) v0 v1 v2 h
  | _ => none
theorem f13.qe (I : Inp) (call : CallFn) (n : Nat) (v0 v1 v2 : AVal) (h : AHeap) : f13.e I call (f13.J I call n) v0 v1 v2 h = execC P I call (f13.JS I call n) c13.body 0 (finV I c13.results) (argV [v0, v1, v2]) h := by kernel_rfl
theorem f13.code : codeOf P 13 = some c13 := by kernel_rfl
theorem f13.ok (I : Inp) (F : Nat → Option AFn) (hF : F 13 = some (.code c13)) : SfOk P I F 13 (f13.run I) := by
  intro call hc n args h r hr
  unfold f13.run at hr
  split at hr
  · exact fn_sound (C := ⟨P, I, F⟩) (n := n) hc hF (Nat.le_of_ble_eq_true (by kernel_rfl)) (by kernel_rfl) (f13.S I F call) (by kernel_rfl) ((f13.qe I call n _ _ _ h).symm.trans hr)
  · cases hr
/-! haruspex/haruspexref8.Fits -/
noncomputable def c14 : AFunc := (AFunc.mk 286 3 [(.tmp 6)] (.seq (.region [(S 4 (.box (T 1)) .none), (S 5 (.box (T 2)) .none), (S 6 (.move (.val (.bool .false))) .none)]) (.seq (.seq (.region [(M 7 0), (S 8 (.loadN 3 (T 4)) .none), (S 9 (.loadN 6 (T 5)) .none), (S 10 (.call 33 [(T 7), (T 8), (T 9)]) .none), (S 11 (.un .not (T 10)) .none)]) (.cond (T 11) (.seq (.region [(S 6 (.move (.val (.bool .false))) .none)]) .ret) .skip)) (.seq (.seq (.region [(S 12 (.fieldAddr 0 (T 5)) .none), (S 13 (.load1 (T 12)) .none)]) (.block 0 (.seq (.seq (.region [(S 15 (.bin .eql (T 13) (V 1)) .none), (M 14 15)]) (.cond (T 14) .skip (.region [(S 16 (.bin .eql (T 13) (V 3)) .none), (M 14 16)]))) (.cond (T 14) (.seq (.region [(S 17 (.loadN 3 (T 4)) .none), (S 18 (.fieldAddr 1 (T 5)) .none), (S 19 (.load1 (T 18)) .none), (S 20 (.call 34 [(T 17), (T 19)]) .none), (S 21 (.field1 0 (T 20)) .none), (S 22 (.bin .eql (T 21) (V 0)) .none), (M 6 22)]) .ret) (.seq (.region [(S 24 (.bin .eql (T 13) (V 2)) .none), (M 23 24)]) (.cond (T 23) (.seq (.region [(S 25 (.loadN 3 (T 4)) .none), (S 26 (.fieldAddr 1 (T 5)) .none), (S 27 (.load1 (T 26)) .none), (S 28 (.call 34 [(T 25), (T 27)]) .none), (S 29 (.field1 0 (T 28)) .none), (S 30 (.bin .eql (T 29) (V 0)) .none), (M 31 30), (S 32 (.loadN 3 (T 4)) (.some (31, .true))), (S 33 (.fieldAddr 2 (T 5)) (.some (31, .true))), (S 34 (.load1 (T 33)) (.some (31, .true))), (S 35 (.call 34 [(T 32), (T 34)]) (.some (31, .true))), (S 36 (.field1 0 (T 35)) (.some (31, .true))), (S 37 (.bin .eql (T 36) (V 0)) (.some (31, .true))), (S 38 (.pick (T 31) (T 37) (.val (.bool .false))) .none), (M 39 38), (S 40 (.loadN 3 (T 4)) (.some (39, .true))), (S 41 (.fieldAddr 3 (T 5)) (.some (39, .true))), (S 42 (.load1 (T 41)) (.some (39, .true))), (S 43 (.call 34 [(T 40), (T 42)]) (.some (39, .true))), (S 44 (.field1 0 (T 43)) (.some (39, .true))), (S 45 (.bin .eql (T 44) (V 0)) (.some (39, .true))), (S 46 (.pick (T 39) (T 45) (.val (.bool .false))) .none), (M 6 46)]) .ret) (.seq (.region [(S 48 (.bin .eql (T 13) (V 4)) .none), (M 47 48)]) (.cond (T 47) (.seq (.region [(S 49 (.loadN 3 (T 4)) .none), (S 50 (.fieldAddr 1 (T 5)) .none), (S 51 (.load1 (T 50)) .none), (S 52 (.call 34 [(T 49), (T 51)]) .none), (S 53 (.field1 0 (T 52)) .none), (S 54 (.bin .neq (T 53) (V 0)) .none), (M 6 54)]) .ret) (.seq (.region [(S 56 (.bin .eql (T 13) (V 5)) .none), (M 55 56)]) (.cond (T 55) (.seq (.region [(S 57 (.loadN 3 (T 4)) .none), (S 58 (.fieldAddr 1 (T 5)) .none), (S 59 (.load1 (T 58)) .none), (S 60 (.call 34 [(T 57), (T 59)]) .none), (S 61 (.field1 0 (T 60)) .none), (S 62 (.bin .eql (T 61) (V 1)) .none), (M 6 62)]) .ret) (.seq (.region [(S 64 (.bin .eql (T 13) (V 6)) .none), (M 63 64)]) (.cond (T 63) (.seq (.draw [(S 65 (.loadN 3 (T 4)) .none), (S 66 (.fieldAddr 1 (T 5)) .none), (S 67 (.load1 (T 66)) .none), (S 68 (.call 34 [(T 65), (T 67)]) .none), (S 69 (.loadN 3 (T 4)) .none), (S 70 (.fieldAddr 2 (T 5)) .none), (S 71 (.load1 (T 70)) .none), (S 72 (.call 34 [(T 69), (T 71)]) .none), (S 73 (.call 35 [(T 68), (T 72)]) .none), (M 6 73)] [N, N, N, Y, (.false, [0]), N, (.false, [0]), Y, Y, N] 0) .ret) (.seq (.region [(S 75 (.bin .eql (T 13) (V 7)) .none), (M 74 75)]) (.cond (T 74) (.seq (.draw [(S 76 (.loadN 3 (T 4)) .none), (S 77 (.fieldAddr 2 (T 5)) .none), (S 78 (.load1 (T 77)) .none), (S 79 (.call 34 [(T 76), (T 78)]) .none), (S 80 (.field1 0 (T 79)) .none), (S 81 (.bin .eql (T 80) (V 1)) .none), (M 82 81), (S 83 (.move (T 0)) (.some (82, .true))), (S 84 (.nilCheck (T 83)) (.some (82, .true))), (S 85 (.fieldAddr 0 (T 84)) (.some (82, .true))), (S 86 (.load1 (T 85)) (.some (82, .true))), (S 87 (.loadN 3 (T 4)) (.some (82, .true))), (S 88 (.fieldAddr 2 (T 5)) (.some (82, .true))), (S 89 (.load1 (T 88)) (.some (82, .true))), (S 90 (.call 34 [(T 87), (T 89)]) (.some (82, .true))), (S 91 (.field1 1 (T 90)) (.some (82, .true))), (S 92 (.indexAddr 1 (T 86) (T 91)) (.some (82, .true))), (S 93 (.load1 (T 92)) (.some (82, .true))), (S 94 (.fieldAddr 4 (T 5)) (.some (82, .true))), (S 95 (.load1 (T 94)) (.some (82, .true))), (S 96 (.indexAddr 2 (T 93) (T 95)) (.some (82, .true))), (S 97 (.loadN 2 (T 96)) (.some (82, .true))), (S 98 (.loadN 3 (T 4)) (.some (82, .true))), (S 99 (.fieldAddr 1 (T 5)) (.some (82, .true))), (S 100 (.load1 (T 99)) (.some (82, .true))), (S 101 (.call 34 [(T 98), (T 100)]) (.some (82, .true))), (S 102 (.call 35 [(T 97), (T 101)]) (.some (82, .true))), (S 103 (.pick (T 82) (T 102) (.val (.bool .false))) .none), (M 6 103)] [N, N, N, Y, N, N, N, N, N, N, (.false, [2, 3]), N, N, N, Y, N, N, (.false, [3]), N, (.false, [1, 3]), N, (.false, [3]), (.false, [1]), N, (.false, [1]), Y, Y, N, N] 0) .ret) (.seq (.region [(S 105 (.bin .eql (T 13) (V 8)) .none), (M 104 105)]) (.cond (T 104) (.seq (.draw [(S 106 (.loadN 3 (T 4)) .none), (S 107 (.fieldAddr 2 (T 5)) .none), (S 108 (.load1 (T 107)) .none), (S 109 (.call 34 [(T 106), (T 108)]) .none), (S 110 (.field1 0 (T 109)) .none), (S 111 (.bin .eql (T 110) (V 1)) .none), (M 112 111), (S 113 (.move (T 0)) (.some (112, .true))), (S 114 (.nilCheck (T 113)) (.some (112, .true))), (S 115 (.fieldAddr 0 (T 114)) (.some (112, .true))), (S 116 (.load1 (T 115)) (.some (112, .true))), (S 117 (.loadN 3 (T 4)) (.some (112, .true))), (S 118 (.fieldAddr 2 (T 5)) (.some (112, .true))), (S 119 (.load1 (T 118)) (.some (112, .true))), (S 120 (.call 34 [(T 117), (T 119)]) (.some (112, .true))), (S 121 (.field1 1 (T 120)) (.some (112, .true))), (S 122 (.indexAddr 1 (T 116) (T 121)) (.some (112, .true))), (S 123 (.load1 (T 122)) (.some (112, .true))), (S 124 (.fieldAddr 4 (T 5)) (.some (112, .true))), (S 125 (.load1 (T 124)) (.some (112, .true))), (S 126 (.indexAddr 2 (T 123) (T 125)) (.some (112, .true))), (S 127 (.loadN 2 (T 126)) (.some (112, .true))), (S 128 (.loadN 3 (T 4)) (.some (112, .true))), (S 129 (.fieldAddr 3 (T 5)) (.some (112, .true))), (S 130 (.load1 (T 129)) (.some (112, .true))), (S 131 (.call 34 [(T 128), (T 130)]) (.some (112, .true))), (S 132 (.call 35 [(T 127), (T 131)]) (.some (112, .true))), (S 133 (.pick (T 112) (T 132) (.val (.bool .false))) .none), (M 6 133)] [N, N, N, Y, N, N, N, N, N, N, (.false, [2, 3]), N, N, N, Y, N, N, (.false, [3]), N, (.false, [1, 3]), N, (.false, [3]), (.false, [1]), N, (.false, [1]), Y, Y, N, N] 0) .ret) (.seq (.region [(S 135 (.bin .eql (T 13) (V 9)) .none), (M 134 135)]) (.cond (T 134) (.seq (.region [(S 136 (.loadN 3 (T 4)) .none), (S 137 (.fieldAddr 2 (T 5)) .none), (S 138 (.load1 (T 137)) .none), (S 139 (.call 34 [(T 136), (T 138)]) .none), (S 140 (.field1 0 (T 139)) .none), (S 141 (.bin .eql (T 140) (V 1)) .none), (M 6 141)]) .ret) (.seq (.region [(S 143 (.bin .eql (T 13) (V 10)) .none), (M 142 143)]) (.cond (T 142) (.seq (.draw [(S 144 (.loadN 3 (T 4)) .none), (S 145 (.fieldAddr 1 (T 5)) .none), (S 146 (.load1 (T 145)) .none), (S 147 (.call 34 [(T 144), (T 146)]) .none), (S 148 (.field1 0 (T 147)) .none), (S 149 (.bin .eql (T 148) (V 2)) .none), (M 150 149), (S 151 (.loadN 3 (T 4)) (.some (150, .true))), (S 152 (.fieldAddr 1 (T 5)) (.some (150, .true))), (S 153 (.load1 (T 152)) (.some (150, .true))), (S 154 (.call 34 [(T 151), (T 153)]) (.some (150, .true))), (S 155 (.field1 1 (T 154)) (.some (150, .true))), (S 156 (.move (T 0)) (.some (150, .true))), (S 157 (.nilCheck (T 156)) (.some (150, .true))), (S 158 (.fieldAddr 4 (T 157)) (.some (150, .true))), (S 159 (.load1 (T 158)) (.some (150, .true))), (S 160 (.fieldAddr 4 (T 5)) (.some (150, .true))), (S 161 (.load1 (T 160)) (.some (150, .true))), (S 162 (.indexAddr 3 (T 159) (T 161)) (.some (150, .true))), (S 163 (.fieldAddr 0 (T 162)) (.some (150, .true))), (S 164 (.load1 (T 163)) (.some (150, .true))), (S 165 (.bin .eql (T 155) (T 164)) (.some (150, .true))), (S 166 (.pick (T 150) (T 165) (.val (.bool .false))) .none), (M 6 166)] [N, N, N, Y, N, N, N, N, N, N, Y, N, N, N, N, (.false, [1]), N, (.false, [1]), N, N, (.false, [1]), N, N, N] 0) .ret) (.seq (.region [(S 168 (.bin .eql (T 13) (V 11)) .none), (M 167 168)]) (.cond (T 167) (.seq (.draw [(S 169 (.loadN 3 (T 4)) .none), (S 170 (.fieldAddr 1 (T 5)) .none), (S 171 (.load1 (T 170)) .none), (S 172 (.call 34 [(T 169), (T 171)]) .none), (S 173 (.field1 0 (T 172)) .none), (S 174 (.bin .eql (T 173) (V 3)) .none), (M 175 174), (S 176 (.loadN 3 (T 4)) (.some (175, .true))), (S 177 (.fieldAddr 2 (T 5)) (.some (175, .true))), (S 178 (.load1 (T 177)) (.some (175, .true))), (S 179 (.call 34 [(T 176), (T 178)]) (.some (175, .true))), (S 180 (.field1 0 (T 179)) (.some (175, .true))), (S 181 (.bin .eql (T 180) (V 1)) (.some (175, .true))), (S 182 (.pick (T 175) (T 181) (.val (.bool .false))) .none), (M 183 182), (S 184 (.move (T 0)) (.some (183, .true))), (S 185 (.loadN 3 (T 4)) (.some (183, .true))), (S 186 (.fieldAddr 2 (T 5)) (.some (183, .true))), (S 187 (.load1 (T 186)) (.some (183, .true))), (S 188 (.call 34 [(T 185), (T 187)]) (.some (183, .true))), (S 189 (.field1 1 (T 188)) (.some (183, .true))), (S 190 (.loadN 3 (T 4)) (.some (183, .true))), (S 191 (.fieldAddr 1 (T 5)) (.some (183, .true))), (S 192 (.load1 (T 191)) (.some (183, .true))), (S 193 (.call 34 [(T 190), (T 192)]) (.some (183, .true))), (S 194 (.field1 1 (T 193)) (.some (183, .true))), (S 195 (.call 36 [(T 184), (T 189), (T 194)]) (.some (183, .true))), (S 196 (.bin .geq (T 195) (V 0)) (.some (183, .true))), (S 197 (.pick (T 183) (T 196) (.val (.bool .false))) .none), (M 6 197)] [N, N, N, Y, N, N, N, N, N, N, Y, N, N, N, N, N, N, N, N, Y, N, (.false, [2]), N, (.false, [2]), Y, N, Y, N, N, N] 0) .ret) (.seq (.region [(S 199 (.bin .eql (T 13) (V 12)) .none), (M 198 199)]) (.cond (T 198) (.seq (.draw [(M 200 0), (S 201 (.loadN 3 (T 4)) .none), (S 202 (.loadN 6 (T 5)) .none), (M 203 0), (S 204 (.nilCheck (T 203)) .none), (S 205 (.fieldAddr 1 (T 204)) .none), (S 206 (.load1 (T 205)) .none), (M 207 0), (S 208 (.nilCheck (T 207)) .none), (S 209 (.fieldAddr 4 (T 208)) .none), (S 210 (.load1 (T 209)) .none), (S 211 (.fieldAddr 4 (T 5)) .none), (S 212 (.load1 (T 211)) .none), (S 213 (.indexAddr 3 (T 210) (T 212)) .none), (S 214 (.fieldAddr 0 (T 213)) .none), (S 215 (.load1 (T 214)) .none), (S 216 (.indexAddr 3 (T 206) (T 215)) .none), (S 217 (.loadN 3 (T 216)) .none), (S 218 (.call 37 [(T 200), (T 201), (T 202), (T 217)]) .none), (M 6 218)] [N, N, N, N, N, N, N, N, N, N, N, N, N, N, N, N, N, N, Y, N] 0) .ret) (.seq (.region [(S 220 (.bin .eql (T 13) (V 13)) .none), (M 219 220)]) (.cond (T 219) (.seq (.draw [(S 221 (.loadN 3 (T 4)) .none), (S 222 (.fieldAddr 2 (T 5)) .none), (S 223 (.load1 (T 222)) .none), (S 224 (.call 34 [(T 221), (T 223)]) .none), (S 225 (.field1 0 (T 224)) .none), (S 226 (.bin .eql (T 225) (V 2)) .none), (M 227 226), (S 228 (.move (T 0)) (.some (227, .true))), (S 229 (.loadN 3 (T 4)) (.some (227, .true))), (S 230 (.loadN 6 (T 5)) (.some (227, .true))), (S 231 (.move (T 0)) (.some (227, .true))), (S 232 (.nilCheck (T 231)) (.some (227, .true))), (S 233 (.fieldAddr 1 (T 232)) (.some (227, .true))), (S 234 (.load1 (T 233)) (.some (227, .true))), (S 235 (.loadN 3 (T 4)) (.some (227, .true))), (S 236 (.fieldAddr 2 (T 5)) (.some (227, .true))), (S 237 (.load1 (T 236)) (.some (227, .true))), (S 238 (.call 34 [(T 235), (T 237)]) (.some (227, .true))), (S 239 (.field1 1 (T 238)) (.some (227, .true))), (S 240 (.indexAddr 3 (T 234) (T 239)) (.some (227, .true))), (S 241 (.loadN 3 (T 240)) (.some (227, .true))), (S 242 (.call 37 [(T 228), (T 229), (T 230), (T 241)]) (.some (227, .true))), (S 243 (.pick (T 227) (T 242) (.val (.bool .false))) .none), (M 6 243)] [N, N, N, Y, N, N, N, N, (.false, [2]), (.false, [2]), N, N, N, (.false, [2]), N, N, N, Y, N, N, N, Y, N, N] 0) .ret) (.seq (.region [(S 245 (.bin .eql (T 13) (V 14)) .none), (M 244 245)]) (.cond (T 244) (.seq (.draw [(S 246 (.loadN 3 (T 4)) .none), (S 247 (.fieldAddr 2 (T 5)) .none), (S 248 (.load1 (T 247)) .none), (S 249 (.call 34 [(T 246), (T 248)]) .none), (S 250 (.field1 0 (T 249)) .none), (S 251 (.bin .eql (T 250) (V 3)) .none), (M 252 251), (S 253 (.move (T 0)) (.some (252, .true))), (S 254 (.loadN 3 (T 4)) (.some (252, .true))), (S 255 (.loadN 6 (T 5)) (.some (252, .true))), (S 256 (.move (T 0)) (.some (252, .true))), (S 257 (.nilCheck (T 256)) (.some (252, .true))), (S 258 (.fieldAddr 1 (T 257)) (.some (252, .true))), (S 259 (.load1 (T 258)) (.some (252, .true))), (S 260 (.move (T 0)) (.some (252, .true))), (S 261 (.nilCheck (T 260)) (.some (252, .true))), (S 262 (.fieldAddr 2 (T 261)) (.some (252, .true))), (S 263 (.load1 (T 262)) (.some (252, .true))), (S 264 (.loadN 3 (T 4)) (.some (252, .true))), (S 265 (.fieldAddr 2 (T 5)) (.some (252, .true))), (S 266 (.load1 (T 265)) (.some (252, .true))), (S 267 (.call 34 [(T 264), (T 266)]) (.some (252, .true))), (S 268 (.field1 1 (T 267)) (.some (252, .true))), (S 269 (.indexAddr 1 (T 263) (T 268)) (.some (252, .true))), (S 270 (.fieldAddr 0 (T 269)) (.some (252, .true))), (S 271 (.load1 (T 270)) (.some (252, .true))), (S 272 (.fieldAddr 4 (T 5)) (.some (252, .true))), (S 273 (.load1 (T 272)) (.some (252, .true))), (S 274 (.indexAddr 1 (T 271) (T 273)) (.some (252, .true))), (S 275 (.load1 (T 274)) (.some (252, .true))), (S 276 (.indexAddr 3 (T 259) (T 275)) (.some (252, .true))), (S 277 (.loadN 3 (T 276)) (.some (252, .true))), (S 278 (.call 37 [(T 253), (T 254), (T 255), (T 277)]) (.some (252, .true))), (S 279 (.pick (T 252) (T 278) (.val (.bool .false))) .none), (M 6 279)] [N, N, N, Y, N, N, N, N, (.false, [2]), (.false, [2]), N, N, N, (.false, [2]), N, N, N, (.false, [2]), N, N, N, Y, N, N, N, N, N, (.false, [1]), N, N, N, N, Y, N, N] 0) .ret) .skip)))))))))))))))))))))))))))) (.seq (.region [(S 280 (.loadN 3 (T 4)) .none), (S 281 (.fieldAddr 2 (T 5)) .none), (S 282 (.load1 (T 281)) .none), (S 283 (.call 34 [(T 280), (T 282)]) .none), (S 284 (.field1 0 (T 283)) .none), (S 285 (.bin .eql (T 284) (V 0)) .none), (M 6 285)]) .ret)))))
abbrev f14.Js : Type := ((AVal → AVal → AVal → AHeap → Rs) × ((AVal → AVal → AHeap → Rs) × (AVal → AVal → AVal → AVal → AVal → AHeap → Rs)))
noncomputable def f14.b0 (I : Inp) (call : CallFn) (j : f14.Js) (v0 v4 v5 : AVal) (h : AHeap) : Rs :=
  bndP (pFieldAddr 0 v5) fun v12 =>
  bndP (pLoad1 I v12 h) fun v13 =>
  bndP (pBin .eql v13 (Z 1)) fun v15 =>
  sCond v15 (
  bndP (pBin .eql v13 (Z 3)) fun v16 =>
  j.2.2 v0 v4 v5 v13 v16 h) (
  j.2.2 v0 v4 v5 v13 v15 h)
noncomputable def f14.b1 (I : Inp) (call : CallFn) (j : f14.Js) (v4 v5 : AVal) (h : AHeap) : Rs :=
  bndP (pLoadN I 3 v4 h) fun v280 =>
  bndP (pFieldAddr 2 v5) fun v281 =>
  bndP (pLoad1 I v281 h) fun v282 =>
  bnd (call 34 [v280, v282] h) fun v283 h1 =>
  bndP (pField1 0 v283) fun v284 =>
  bndP (pBin .eql v284 (Z 0)) fun v285 =>
  some (v285, h1)
noncomputable def f14.b2 (I : Inp) (call : CallFn) (j : f14.Js) (v0 v4 v5 v13 v14 : AVal) (h : AHeap) : Rs :=
  sCond v14 (
  bndP (pBin .eql v13 (Z 2)) fun v24 =>
  sCond v24 (
  bndP (pBin .eql v13 (Z 4)) fun v48 =>
  sCond v48 (
  bndP (pBin .eql v13 (Z 5)) fun v56 =>
  sCond v56 (
  bndP (pBin .eql v13 (Z 6)) fun v64 =>
  sCond v64 (
  bndP (pBin .eql v13 (Z 7)) fun v75 =>
  sCond v75 (
  bndP (pBin .eql v13 (Z 8)) fun v105 =>
  sCond v105 (
  bndP (pBin .eql v13 (Z 9)) fun v135 =>
  sCond v135 (
  bndP (pBin .eql v13 (Z 10)) fun v143 =>
  sCond v143 (
  bndP (pBin .eql v13 (Z 11)) fun v168 =>
  sCond v168 (
  bndP (pBin .eql v13 (Z 12)) fun v199 =>
  sCond v199 (
  bndP (pBin .eql v13 (Z 13)) fun v220 =>
  sCond v220 (
  bndP (pBin .eql v13 (Z 14)) fun v245 =>
  sCond v245 (
  j.2.1 v4 v5 h) (
  bndP (pLoadN I 3 v4 h) fun v246 =>
  bndP (pFieldAddr 2 v5) fun v247 =>
  bndP (pLoad1 I v247 h) fun v248 =>
  bnd (call 34 [v246, v248] h) fun v249 h1 =>
  bndP (pField1 0 v249) fun v250 =>
  bndP (pBin .eql v250 (Z 3)) fun v251 =>
  bnd (sGuard v251 .true (some (v0, h1)) h1) fun v253 h2 =>
  bnd (sGuard v251 .true (lift (pLoadN I 3 v4 h2) h2) h2) fun v254 h3 =>
  bnd (sGuard v251 .true (lift (pLoadN I 6 v5 h3) h3) h3) fun v255 h4 =>
  bnd (sGuard v251 .true (some (v0, h4)) h4) fun v256 h5 =>
  bnd (sGuard v251 .true (lift (pNilCheck v256) h5) h5) fun v257 h6 =>
  bnd (sGuard v251 .true (lift (pFieldAddr 1 v257) h6) h6) fun v258 h7 =>
  bnd (sGuard v251 .true (lift (pLoad1 I v258 h7) h7) h7) fun v259 h8 =>
  bnd (sGuard v251 .true (some (v0, h8)) h8) fun v260 h9 =>
  bnd (sGuard v251 .true (lift (pNilCheck v260) h9) h9) fun v261 h10 =>
  bnd (sGuard v251 .true (lift (pFieldAddr 2 v261) h10) h10) fun v262 h11 =>
  bnd (sGuard v251 .true (lift (pLoad1 I v262 h11) h11) h11) fun v263 h12 =>
  bnd (sGuard v251 .true (lift (pLoadN I 3 v4 h12) h12) h12) fun v264 h13 =>
  bnd (sGuard v251 .true (lift (pFieldAddr 2 v5) h13) h13) fun v265 h14 =>
  bnd (sGuard v251 .true (lift (pLoad1 I v265 h14) h14) h14) fun v266 h15 =>
  bnd (sGuard v251 .true (call 34 [v264, v266] h15) h15) fun v267 h16 =>
  bnd (sGuard v251 .true (lift (pField1 1 v267) h16) h16) fun v268 h17 =>
  bnd (sGuard v251 .true (lift (pIndexAddr 1 v263 v268) h17) h17) fun v269 h18 =>
  bnd (sGuard v251 .true (lift (pFieldAddr 0 v269) h18) h18) fun v270 h19 =>
  bnd (sGuard v251 .true (lift (pLoad1 I v270 h19) h19) h19) fun v271 h20 =>
  bnd (sGuard v251 .true (lift (pFieldAddr 4 v5) h20) h20) fun v272 h21 =>
  bnd (sGuard v251 .true (lift (pLoad1 I v272 h21) h21) h21) fun v273 h22 =>
  bnd (sGuard v251 .true (lift (pIndexAddr 1 v271 v273) h22) h22) fun v274 h23 =>
  bnd (sGuard v251 .true (lift (pLoad1 I v274 h23) h23) h23) fun v275 h24 =>
  bnd (sGuard v251 .true (lift (pIndexAddr 3 v259 v275) h24) h24) fun v276 h25 =>
  bnd (sGuard v251 .true (lift (pLoadN I 3 v276 h25) h25) h25) fun v277 h26 =>
  bnd (sGuard v251 .true (call 37 [v253, v254, v255, v277] h26) h26) fun v278 h27 =>
  bndP (pPick v251 v278 (.bool .false)) fun v279 =>
  sCheck (sSame (sGuard v251 .true (lift (pLoadN I 3 v4 h16) h16) h16) v254 && true) (
  sCheck (sSame (sGuard v251 .true (lift (pLoadN I 6 v5 h16) h16) h16) v255 && true) (
  sCheck (sSame (sGuard v251 .true (lift (pLoad1 I v258 h16) h16) h16) v259 && true) (
  sCheck (sSame (sGuard v251 .true (lift (pLoad1 I v262 h16) h16) h16) v263 && true) (
  sCheck (sSame (sGuard v251 .true (lift (pLoad1 I v272 h1) h1) h1) v273 && true) (
  some (v279, h27)))))))) (
  bndP (pLoadN I 3 v4 h) fun v221 =>
  bndP (pFieldAddr 2 v5) fun v222 =>
  bndP (pLoad1 I v222 h) fun v223 =>
  bnd (call 34 [v221, v223] h) fun v224 h28 =>
  bndP (pField1 0 v224) fun v225 =>
  bndP (pBin .eql v225 (Z 2)) fun v226 =>
  bnd (sGuard v226 .true (some (v0, h28)) h28) fun v228 h29 =>
  bnd (sGuard v226 .true (lift (pLoadN I 3 v4 h29) h29) h29) fun v229 h30 =>
  bnd (sGuard v226 .true (lift (pLoadN I 6 v5 h30) h30) h30) fun v230 h31 =>
  bnd (sGuard v226 .true (some (v0, h31)) h31) fun v231 h32 =>
  bnd (sGuard v226 .true (lift (pNilCheck v231) h32) h32) fun v232 h33 =>
  bnd (sGuard v226 .true (lift (pFieldAddr 1 v232) h33) h33) fun v233 h34 =>
  bnd (sGuard v226 .true (lift (pLoad1 I v233 h34) h34) h34) fun v234 h35 =>
  bnd (sGuard v226 .true (lift (pLoadN I 3 v4 h35) h35) h35) fun v235 h36 =>
  bnd (sGuard v226 .true (lift (pFieldAddr 2 v5) h36) h36) fun v236 h37 =>
  bnd (sGuard v226 .true (lift (pLoad1 I v236 h37) h37) h37) fun v237 h38 =>
  bnd (sGuard v226 .true (call 34 [v235, v237] h38) h38) fun v238 h39 =>
  bnd (sGuard v226 .true (lift (pField1 1 v238) h39) h39) fun v239 h40 =>
  bnd (sGuard v226 .true (lift (pIndexAddr 3 v234 v239) h40) h40) fun v240 h41 =>
  bnd (sGuard v226 .true (lift (pLoadN I 3 v240 h41) h41) h41) fun v241 h42 =>
  bnd (sGuard v226 .true (call 37 [v228, v229, v230, v241] h42) h42) fun v242 h43 =>
  bndP (pPick v226 v242 (.bool .false)) fun v243 =>
  sCheck (sSame (sGuard v226 .true (lift (pLoadN I 3 v4 h39) h39) h39) v229 && true) (
  sCheck (sSame (sGuard v226 .true (lift (pLoadN I 6 v5 h39) h39) h39) v230 && true) (
  sCheck (sSame (sGuard v226 .true (lift (pLoad1 I v233 h39) h39) h39) v234 && true) (
  some (v243, h43)))))) (
  bndP (pLoadN I 3 v4 h) fun v201 =>
  bndP (pLoadN I 6 v5 h) fun v202 =>
  bndP (pNilCheck v0) fun v204 =>
  bndP (pFieldAddr 1 v204) fun v205 =>
  bndP (pLoad1 I v205 h) fun v206 =>
  bndP (pNilCheck v0) fun v208 =>
  bndP (pFieldAddr 4 v208) fun v209 =>
  bndP (pLoad1 I v209 h) fun v210 =>
  bndP (pFieldAddr 4 v5) fun v211 =>
  bndP (pLoad1 I v211 h) fun v212 =>
  bndP (pIndexAddr 3 v210 v212) fun v213 =>
  bndP (pFieldAddr 0 v213) fun v214 =>
  bndP (pLoad1 I v214 h) fun v215 =>
  bndP (pIndexAddr 3 v206 v215) fun v216 =>
  bndP (pLoadN I 3 v216 h) fun v217 =>
  bnd (call 37 [v0, v201, v202, v217] h) fun v218 h44 =>
  some (v218, h44))) (
  bndP (pLoadN I 3 v4 h) fun v169 =>
  bndP (pFieldAddr 1 v5) fun v170 =>
  bndP (pLoad1 I v170 h) fun v171 =>
  bnd (call 34 [v169, v171] h) fun v172 h45 =>
  bndP (pField1 0 v172) fun v173 =>
  bndP (pBin .eql v173 (Z 3)) fun v174 =>
  bnd (sGuard v174 .true (lift (pLoadN I 3 v4 h45) h45) h45) fun v176 h46 =>
  bnd (sGuard v174 .true (lift (pFieldAddr 2 v5) h46) h46) fun v177 h47 =>
  bnd (sGuard v174 .true (lift (pLoad1 I v177 h47) h47) h47) fun v178 h48 =>
  bnd (sGuard v174 .true (call 34 [v176, v178] h48) h48) fun v179 h49 =>
  bnd (sGuard v174 .true (lift (pField1 0 v179) h49) h49) fun v180 h50 =>
  bnd (sGuard v174 .true (lift (pBin .eql v180 (Z 1)) h50) h50) fun v181 h51 =>
  bndP (pPick v174 v181 (.bool .false)) fun v182 =>
  bnd (sGuard v182 .true (some (v0, h51)) h51) fun v184 h52 =>
  bnd (sGuard v182 .true (lift (pLoadN I 3 v4 h52) h52) h52) fun v185 h53 =>
  bnd (sGuard v182 .true (lift (pFieldAddr 2 v5) h53) h53) fun v186 h54 =>
  bnd (sGuard v182 .true (lift (pLoad1 I v186 h54) h54) h54) fun v187 h55 =>
  bnd (sGuard v182 .true (call 34 [v185, v187] h55) h55) fun v188 h56 =>
  bnd (sGuard v182 .true (lift (pField1 1 v188) h56) h56) fun v189 h57 =>
  bnd (sGuard v182 .true (lift (pLoadN I 3 v4 h57) h57) h57) fun v190 h58 =>
  bnd (sGuard v182 .true (lift (pFieldAddr 1 v5) h58) h58) fun v191 h59 =>
  bnd (sGuard v182 .true (lift (pLoad1 I v191 h59) h59) h59) fun v192 h60 =>
  bnd (sGuard v182 .true (call 34 [v190, v192] h60) h60) fun v193 h61 =>
  bnd (sGuard v182 .true (lift (pField1 1 v193) h61) h61) fun v194 h62 =>
  bnd (sGuard v182 .true (call 36 [v184, v189, v194] h62) h62) fun v195 h63 =>
  bnd (sGuard v182 .true (lift (pBin .geq v195 (Z 0)) h63) h63) fun v196 h64 =>
  bndP (pPick v182 v196 (.bool .false)) fun v197 =>
  sCheck (sSame (sGuard v182 .true (lift (pLoadN I 3 v4 h49) h49) h49) v190 && true) (
  sCheck (sSame (sGuard v182 .true (lift (pLoad1 I v191 h49) h49) h49) v192 && true) (
  some (v197, h64))))) (
  bndP (pLoadN I 3 v4 h) fun v144 =>
  bndP (pFieldAddr 1 v5) fun v145 =>
  bndP (pLoad1 I v145 h) fun v146 =>
  bnd (call 34 [v144, v146] h) fun v147 h65 =>
  bndP (pField1 0 v147) fun v148 =>
  bndP (pBin .eql v148 (Z 2)) fun v149 =>
  bnd (sGuard v149 .true (lift (pLoadN I 3 v4 h65) h65) h65) fun v151 h66 =>
  bnd (sGuard v149 .true (lift (pFieldAddr 1 v5) h66) h66) fun v152 h67 =>
  bnd (sGuard v149 .true (lift (pLoad1 I v152 h67) h67) h67) fun v153 h68 =>
  bnd (sGuard v149 .true (call 34 [v151, v153] h68) h68) fun v154 h69 =>
  bnd (sGuard v149 .true (lift (pField1 1 v154) h69) h69) fun v155 h70 =>
  bnd (sGuard v149 .true (some (v0, h70)) h70) fun v156 h71 =>
  bnd (sGuard v149 .true (lift (pNilCheck v156) h71) h71) fun v157 h72 =>
  bnd (sGuard v149 .true (lift (pFieldAddr 4 v157) h72) h72) fun v158 h73 =>
  bnd (sGuard v149 .true (lift (pLoad1 I v158 h73) h73) h73) fun v159 h74 =>
  bnd (sGuard v149 .true (lift (pFieldAddr 4 v5) h74) h74) fun v160 h75 =>
  bnd (sGuard v149 .true (lift (pLoad1 I v160 h75) h75) h75) fun v161 h76 =>
  bnd (sGuard v149 .true (lift (pIndexAddr 3 v159 v161) h76) h76) fun v162 h77 =>
  bnd (sGuard v149 .true (lift (pFieldAddr 0 v162) h77) h77) fun v163 h78 =>
  bnd (sGuard v149 .true (lift (pLoad1 I v163 h78) h78) h78) fun v164 h79 =>
  bnd (sGuard v149 .true (lift (pBin .eql v155 v164) h79) h79) fun v165 h80 =>
  bndP (pPick v149 v165 (.bool .false)) fun v166 =>
  sCheck (sSame (sGuard v149 .true (lift (pLoad1 I v158 h65) h65) h65) v159 && true) (
  sCheck (sSame (sGuard v149 .true (lift (pLoad1 I v160 h65) h65) h65) v161 && true) (
  sCheck (sSame (sGuard v149 .true (lift (pLoad1 I v163 h65) h65) h65) v164 && true) (
  some (v166, h80)))))) (
  bndP (pLoadN I 3 v4 h) fun v136 =>
  bndP (pFieldAddr 2 v5) fun v137 =>
  bndP (pLoad1 I v137 h) fun v138 =>
  bnd (call 34 [v136, v138] h) fun v139 h81 =>
  bndP (pField1 0 v139) fun v140 =>
  bndP (pBin .eql v140 (Z 1)) fun v141 =>
  some (v141, h81))) (
  bndP (pLoadN I 3 v4 h) fun v106 =>
  bndP (pFieldAddr 2 v5) fun v107 =>
  bndP (pLoad1 I v107 h) fun v108 =>
  bnd (call 34 [v106, v108] h) fun v109 h82 =>
  bndP (pField1 0 v109) fun v110 =>
  bndP (pBin .eql v110 (Z 1)) fun v111 =>
  bnd (sGuard v111 .true (some (v0, h82)) h82) fun v113 h83 =>
  bnd (sGuard v111 .true (lift (pNilCheck v113) h83) h83) fun v114 h84 =>
  bnd (sGuard v111 .true (lift (pFieldAddr 0 v114) h84) h84) fun v115 h85 =>
  bnd (sGuard v111 .true (lift (pLoad1 I v115 h85) h85) h85) fun v116 h86 =>
  bnd (sGuard v111 .true (lift (pLoadN I 3 v4 h86) h86) h86) fun v117 h87 =>
  bnd (sGuard v111 .true (lift (pFieldAddr 2 v5) h87) h87) fun v118 h88 =>
  bnd (sGuard v111 .true (lift (pLoad1 I v118 h88) h88) h88) fun v119 h89 =>
  bnd (sGuard v111 .true (call 34 [v117, v119] h89) h89) fun v120 h90 =>
  bnd (sGuard v111 .true (lift (pField1 1 v120) h90) h90) fun v121 h91 =>
  bnd (sGuard v111 .true (lift (pIndexAddr 1 v116 v121) h91) h91) fun v122 h92 =>
  bnd (sGuard v111 .true (lift (pLoad1 I v122 h92) h92) h92) fun v123 h93 =>
  bnd (sGuard v111 .true (lift (pFieldAddr 4 v5) h93) h93) fun v124 h94 =>
  bnd (sGuard v111 .true (lift (pLoad1 I v124 h94) h94) h94) fun v125 h95 =>
  bnd (sGuard v111 .true (lift (pIndexAddr 2 v123 v125) h95) h95) fun v126 h96 =>
  bnd (sGuard v111 .true (lift (pLoadN I 2 v126 h96) h96) h96) fun v127 h97 =>
  bnd (sGuard v111 .true (lift (pLoadN I 3 v4 h97) h97) h97) fun v128 h98 =>
  bnd (sGuard v111 .true (lift (pFieldAddr 3 v5) h98) h98) fun v129 h99 =>
  bnd (sGuard v111 .true (lift (pLoad1 I v129 h99) h99) h99) fun v130 h100 =>
  bnd (sGuard v111 .true (call 34 [v128, v130] h100) h100) fun v131 h101 =>
  bnd (sGuard v111 .true (call 35 [v127, v131] h101) h101) fun v132 h102 =>
  bndP (pPick v111 v132 (.bool .false)) fun v133 =>
  sCheck (sSame (sGuard v111 .true (lift (pLoad1 I v115 h90) h90) h90) v116 && (sSame (sGuard v111 .true (lift (pLoad1 I v115 h101) h101) h101) v116 && true)) (
  sCheck (sSame (sGuard v111 .true (lift (pLoad1 I v122 h101) h101) h101) v123 && true) (
  sCheck (sSame (sGuard v111 .true (lift (pLoad1 I v124 h82) h82) h82) v125 && (sSame (sGuard v111 .true (lift (pLoad1 I v124 h101) h101) h101) v125 && true)) (
  sCheck (sSame (sGuard v111 .true (lift (pLoadN I 2 v126 h101) h101) h101) v127 && true) (
  sCheck (sSame (sGuard v111 .true (lift (pLoadN I 3 v4 h82) h82) h82) v128 && true) (
  sCheck (sSame (sGuard v111 .true (lift (pLoad1 I v129 h82) h82) h82) v130 && true) (
  some (v133, h102))))))))) (
  bndP (pLoadN I 3 v4 h) fun v76 =>
  bndP (pFieldAddr 2 v5) fun v77 =>
  bndP (pLoad1 I v77 h) fun v78 =>
  bnd (call 34 [v76, v78] h) fun v79 h103 =>
  bndP (pField1 0 v79) fun v80 =>
  bndP (pBin .eql v80 (Z 1)) fun v81 =>
  bnd (sGuard v81 .true (some (v0, h103)) h103) fun v83 h104 =>
  bnd (sGuard v81 .true (lift (pNilCheck v83) h104) h104) fun v84 h105 =>
  bnd (sGuard v81 .true (lift (pFieldAddr 0 v84) h105) h105) fun v85 h106 =>
  bnd (sGuard v81 .true (lift (pLoad1 I v85 h106) h106) h106) fun v86 h107 =>
  bnd (sGuard v81 .true (lift (pLoadN I 3 v4 h107) h107) h107) fun v87 h108 =>
  bnd (sGuard v81 .true (lift (pFieldAddr 2 v5) h108) h108) fun v88 h109 =>
  bnd (sGuard v81 .true (lift (pLoad1 I v88 h109) h109) h109) fun v89 h110 =>
  bnd (sGuard v81 .true (call 34 [v87, v89] h110) h110) fun v90 h111 =>
  bnd (sGuard v81 .true (lift (pField1 1 v90) h111) h111) fun v91 h112 =>
  bnd (sGuard v81 .true (lift (pIndexAddr 1 v86 v91) h112) h112) fun v92 h113 =>
  bnd (sGuard v81 .true (lift (pLoad1 I v92 h113) h113) h113) fun v93 h114 =>
  bnd (sGuard v81 .true (lift (pFieldAddr 4 v5) h114) h114) fun v94 h115 =>
  bnd (sGuard v81 .true (lift (pLoad1 I v94 h115) h115) h115) fun v95 h116 =>
  bnd (sGuard v81 .true (lift (pIndexAddr 2 v93 v95) h116) h116) fun v96 h117 =>
  bnd (sGuard v81 .true (lift (pLoadN I 2 v96 h117) h117) h117) fun v97 h118 =>
  bnd (sGuard v81 .true (lift (pLoadN I 3 v4 h118) h118) h118) fun v98 h119 =>
  bnd (sGuard v81 .true (lift (pFieldAddr 1 v5) h119) h119) fun v99 h120 =>
  bnd (sGuard v81 .true (lift (pLoad1 I v99 h120) h120) h120) fun v100 h121 =>
  bnd (sGuard v81 .true (call 34 [v98, v100] h121) h121) fun v101 h122 =>
  bnd (sGuard v81 .true (call 35 [v97, v101] h122) h122) fun v102 h123 =>
  bndP (pPick v81 v102 (.bool .false)) fun v103 =>
  sCheck (sSame (sGuard v81 .true (lift (pLoad1 I v85 h111) h111) h111) v86 && (sSame (sGuard v81 .true (lift (pLoad1 I v85 h122) h122) h122) v86 && true)) (
  sCheck (sSame (sGuard v81 .true (lift (pLoad1 I v92 h122) h122) h122) v93 && true) (
  sCheck (sSame (sGuard v81 .true (lift (pLoad1 I v94 h103) h103) h103) v95 && (sSame (sGuard v81 .true (lift (pLoad1 I v94 h122) h122) h122) v95 && true)) (
  sCheck (sSame (sGuard v81 .true (lift (pLoadN I 2 v96 h122) h122) h122) v97 && true) (
  sCheck (sSame (sGuard v81 .true (lift (pLoadN I 3 v4 h103) h103) h103) v98 && true) (
  sCheck (sSame (sGuard v81 .true (lift (pLoad1 I v99 h103) h103) h103) v100 && true) (
  some (v103, h123))))))))) (
  bndP (pLoadN I 3 v4 h) fun v65 =>
  bndP (pFieldAddr 1 v5) fun v66 =>
  bndP (pLoad1 I v66 h) fun v67 =>
  bnd (call 34 [v65, v67] h) fun v68 h124 =>
  bndP (pLoadN I 3 v4 h124) fun v69 =>
  bndP (pFieldAddr 2 v5) fun v70 =>
  bndP (pLoad1 I v70 h124) fun v71 =>
  bnd (call 34 [v69, v71] h124) fun v72 h125 =>
  bnd (call 35 [v68, v72] h125) fun v73 h126 =>
  sCheck (sSame (lift (pLoadN I 3 v4 h) h) v69 && true) (
  sCheck (sSame (lift (pLoad1 I v70 h) h) v71 && true) (
  some (v73, h126))))) (
  bndP (pLoadN I 3 v4 h) fun v57 =>
  bndP (pFieldAddr 1 v5) fun v58 =>
  bndP (pLoad1 I v58 h) fun v59 =>
  bnd (call 34 [v57, v59] h) fun v60 h127 =>
  bndP (pField1 0 v60) fun v61 =>
  bndP (pBin .eql v61 (Z 1)) fun v62 =>
  some (v62, h127))) (
  bndP (pLoadN I 3 v4 h) fun v49 =>
  bndP (pFieldAddr 1 v5) fun v50 =>
  bndP (pLoad1 I v50 h) fun v51 =>
  bnd (call 34 [v49, v51] h) fun v52 h128 =>
  bndP (pField1 0 v52) fun v53 =>
  bndP (pBin .neq v53 (Z 0)) fun v54 =>
  some (v54, h128))) (
  bndP (pLoadN I 3 v4 h) fun v25 =>
  bndP (pFieldAddr 1 v5) fun v26 =>
  bndP (pLoad1 I v26 h) fun v27 =>
  bnd (call 34 [v25, v27] h) fun v28 h129 =>
  bndP (pField1 0 v28) fun v29 =>
  bndP (pBin .eql v29 (Z 0)) fun v30 =>
  bnd (sGuard v30 .true (lift (pLoadN I 3 v4 h129) h129) h129) fun v32 h130 =>
  bnd (sGuard v30 .true (lift (pFieldAddr 2 v5) h130) h130) fun v33 h131 =>
  bnd (sGuard v30 .true (lift (pLoad1 I v33 h131) h131) h131) fun v34 h132 =>
  bnd (sGuard v30 .true (call 34 [v32, v34] h132) h132) fun v35 h133 =>
  bnd (sGuard v30 .true (lift (pField1 0 v35) h133) h133) fun v36 h134 =>
  bnd (sGuard v30 .true (lift (pBin .eql v36 (Z 0)) h134) h134) fun v37 h135 =>
  bndP (pPick v30 v37 (.bool .false)) fun v38 =>
  bnd (sGuard v38 .true (lift (pLoadN I 3 v4 h135) h135) h135) fun v40 h136 =>
  bnd (sGuard v38 .true (lift (pFieldAddr 3 v5) h136) h136) fun v41 h137 =>
  bnd (sGuard v38 .true (lift (pLoad1 I v41 h137) h137) h137) fun v42 h138 =>
  bnd (sGuard v38 .true (call 34 [v40, v42] h138) h138) fun v43 h139 =>
  bnd (sGuard v38 .true (lift (pField1 0 v43) h139) h139) fun v44 h140 =>
  bnd (sGuard v38 .true (lift (pBin .eql v44 (Z 0)) h140) h140) fun v45 h141 =>
  bndP (pPick v38 v45 (.bool .false)) fun v46 =>
  some (v46, h141))) (
  bndP (pLoadN I 3 v4 h) fun v17 =>
  bndP (pFieldAddr 1 v5) fun v18 =>
  bndP (pLoad1 I v18 h) fun v19 =>
  bnd (call 34 [v17, v19] h) fun v20 h142 =>
  bndP (pField1 0 v20) fun v21 =>
  bndP (pBin .eql v21 (Z 0)) fun v22 =>
  some (v22, h142))
noncomputable def f14.e (I : Inp) (call : CallFn) (j : f14.Js) (v0 v1 v2 : AVal) (h : AHeap) : Rs :=
  bnd (sBox v1 h) fun v4 h1 =>
  bnd (sBox v2 h1) fun v5 h2 =>
  bndP (pLoadN I 3 v4 h2) fun v8 =>
  bndP (pLoadN I 6 v5 h2) fun v9 =>
  bnd (call 33 [v0, v8, v9] h2) fun v10 h3 =>
  bndP (pUn .not v10) fun v11 =>
  sCond v11 (
  j.1 v0 v4 v5 h3) (
  some ((.bool .false), h3))
noncomputable def f14.J (I : Inp) (call : CallFn) (n : Nat) : f14.Js :=
  Nat.rec (motive := fun _ => f14.Js) ((fun _ _ _ _ => none), ((fun _ _ _ => none), (fun _ _ _ _ _ _ => none))) (fun _ ih => (f14.b0 I call ih, (f14.b1 I call ih, f14.b2 I call ih))) n
noncomputable def f14.JS (I : Inp) (call : CallFn) (n : Nat) : Jmp := fun id ρ h =>
  (Bool.rec (motive := fun _ => _) (Bool.rec (motive := fun _ => _) ((f14.J I call n).2.2 (ρ 0) (ρ 4) (ρ 5) (ρ 13) (ρ 14) h) ((f14.J I call n).2.1 (ρ 4) (ρ 5) h) (Nat.blt id 2)) ((f14.J I call n).1 (ρ 0) (ρ 4) (ρ 5) h) (Nat.blt id 1))
theorem f14.z0 (I : Inp) (call : CallFn) (ρ : Fun) (h : AHeap) : f14.JS I call 0 0 ρ h = none := rfl
theorem f14.z1 (I : Inp) (call : CallFn) (ρ : Fun) (h : AHeap) : f14.JS I call 0 1 ρ h = none := rfl
theorem f14.z2 (I : Inp) (call : CallFn) (ρ : Fun) (h : AHeap) : f14.JS I call 0 2 ρ h = none := rfl
theorem f14.q0 (I : Inp) (call : CallFn) (n : Nat) (ρ : Fun) (h : AHeap) : f14.JS I call (n + 1) 0 ρ h = labC P I call (f14.JS I call n) c14.body 0 (finV I c14.results) 0 ρ h := by kernel_rfl
theorem f14.q1 (I : Inp) (call : CallFn) (n : Nat) (ρ : Fun) (h : AHeap) : f14.JS I call (n + 1) 1 ρ h = labC P I call (f14.JS I call n) c14.body 0 (finV I c14.results) 1 ρ h := by kernel_rfl
theorem f14.q2 (I : Inp) (call : CallFn) (n : Nat) (ρ : Fun) (h : AHeap) : f14.JS I call (n + 1) 2 ρ h = labC P I call (f14.JS I call n) c14.body 0 (finV I c14.results) 2 ρ h := by kernel_rfl
theorem f14.S (I : Inp) (F : Nat → Option AFn) (call : CallFn) : SFn ⟨P, I, F⟩ call c14 (f14.JS I call) :=
  ⟨fun id hid ρ h => by
    have hc : c14.body.cnt = 3 := by kernel_rfl
    rw [hc] at hid
    exact match id, hid with
    | 0, _ => f14.z0 I call ρ h
    | 1, _ => f14.z1 I call ρ h
    | 2, _ => f14.z2 I call ρ h
    | id + 3, hid => absurd hid (by omega), fun n id hid ρ h => by
    have hc : c14.body.cnt = 3 := by kernel_rfl
    rw [hc] at hid
    exact match id, hid with
    | 0, _ => f14.q0 I call n ρ h
    | 1, _ => f14.q1 I call n ρ h
    | 2, _ => f14.q2 I call n ρ h
    | id + 3, hid => absurd hid (by omega)⟩
noncomputable def f14.run (I : Inp) : SF := fun call n a h =>
  match a with
  | [v0, v1, v2] => f14.e I call (f14.J I call n) v0 v1 v2 h
  | _ => none
theorem f14.qe (I : Inp) (call : CallFn) (n : Nat) (v0 v1 v2 : AVal) (h : AHeap) : f14.e I call (f14.J I call n) v0 v1 v2 h = execC P I call (f14.JS I call n) c14.body 0 (finV I c14.results) (argV [v0, v1, v2]) h := by kernel_rfl
theorem f14.code : codeOf P 14 = some c14 := by kernel_rfl
theorem f14.ok (I : Inp) (F : Nat → Option AFn) (hF : F 14 = some (.code c14)) : SfOk P I F 14 (f14.run I) := by
  intro call hc n args h r hr
  unfold f14.run at hr
  split at hr
  · exact fn_sound (C := ⟨P, I, F⟩) (n := n) hc hF (Nat.le_of_ble_eq_true (by kernel_rfl)) (by kernel_rfl) (f14.S I F call) (by kernel_rfl) ((f14.qe I call n _ _ _ h).symm.trans hr)
  · cases hr
/-! haruspex/haruspexlaw10.Says -/
noncomputable def c15 : AFunc := (AFunc.mk 54 3 [(.tmp 6)] (.seq (.region [(S 5 (.box (T 2)) .none), (S 6 (.move (.val (.bool .false))) .none)]) (.seq (.seq (.region [(M 9 1), (S 10 (.bin .eql (T 9) (V 0)) .none)]) (.cond (T 10) (.seq (.region [(M 11 0), (S 12 (.eq .false .iface .true (T 11) (.val .nili)) .none), (M 6 12)]) .ret) .skip)) (.seq (.seq (.region [(M 13 0), (S 14 (.eq .false .iface .true (T 13) (.val .nili)) .none)]) (.cond (T 14) (.seq (.region [(S 6 (.move (.val (.bool .false))) .none)]) .ret) .skip)) (.seq (.region [(M 16 0), (S 17 (.call 38 [(T 16)]) .none), (M 15 17), (S 18 (.extract (T 15) 0) .none), (S 19 (.extract (T 15) 1) .none), (S 7 (.alloc [(Z 0), (Z 0), (Z 0)]) .none), (AOper.mk .none (.store 3 (T 7) (T 18)) .none), (M 8 19)]) (.seq (.seq (.region [(M 20 0), (S 21 (.call 24 [(T 20)]) .none), (M 22 1), (S 23 (.bin .neq (T 21) (T 22)) .none), (M 24 23), (S 25 (.move (T 8)) (.some (24, .false))), (S 26 (.fieldAddr 0 (T 5)) (.some (24, .false))), (S 27 (.load1 (T 26)) (.some (24, .false))), (S 28 (.bin .geq (T 27) (V 0)) (.some (24, .false))), (S 29 (.eq .true .bool .false (T 25) (T 28)) (.some (24, .false))), (S 30 (.pick (T 24) (.val (.bool .true)) (T 29)) .none)]) (.cond (T 30) (.seq (.region [(S 6 (.move (.val (.bool .false))) .none)]) .ret) .skip)) (.seq (.region [(M 31 8), (S 32 (.un .not (T 31)) .none), (M 33 32), (S 34 (.fieldAddr 0 (T 7)) (.some (33, .false))), (S 35 (.load1 (T 34)) (.some (33, .false))), (S 36 (.fieldAddr 0 (T 5)) (.some (33, .false))), (S 37 (.load1 (T 36)) (.some (33, .false))), (S 38 (.bin .eql (T 35) (T 37)) (.some (33, .false))), (S 39 (.move (T 38)) (.some (33, .false))), (S 40 (.fieldAddr 1 (T 7)) (.some (39, .true))), (S 41 (.load1 (T 40)) (.some (39, .true))), (S 42 (.fieldAddr 1 (T 5)) (.some (39, .true))), (S 43 (.load1 (T 42)) (.some (39, .true))), (S 44 (.bin .eql (T 41) (T 43)) (.some (39, .true))), (S 45 (.pick (T 39) (T 44) (.val (.bool .false))) (.some (33, .false))), (S 46 (.move (T 45)) (.some (33, .false))), (S 47 (.fieldAddr 2 (T 7)) (.some (46, .true))), (S 48 (.load1 (T 47)) (.some (46, .true))), (S 49 (.fieldAddr 2 (T 5)) (.some (46, .true))), (S 50 (.load1 (T 49)) (.some (46, .true))), (S 51 (.bin .eql (T 48) (T 50)) (.some (46, .true))), (S 52 (.pick (T 46) (T 51) (.val (.bool .false))) (.some (33, .false))), (S 53 (.pick (T 33) (.val (.bool .true)) (T 52)) .none), (M 6 53)]) .ret)))))))
abbrev f15.Js : Type := ((AVal → AVal → AVal → AHeap → Rs) × ((AVal → AVal → AVal → AHeap → Rs) × (AVal → AVal → AVal → AHeap → Rs)))
noncomputable def f15.b0 (I : Inp) (call : CallFn) (j : f15.Js) (v0 v1 v5 : AVal) (h : AHeap) : Rs :=
  bndP (pEq P .false .iface .true v0 .nili h) fun v14 =>
  sCond v14 (
  j.2.1 v0 v1 v5 h) (
  some ((.bool .false), h))
noncomputable def f15.b1 (I : Inp) (call : CallFn) (j : f15.Js) (v0 v1 v5 : AVal) (h : AHeap) : Rs :=
  bnd (call 38 [v0] h) fun v17 h1 =>
  bndP (pExtract v17 0) fun v18 =>
  bndP (pExtract v17 1) fun v19 =>
  bnd (sAlloc [(Z 0), (Z 0), (Z 0)] h1) fun v7 h2 =>
  bnd (sStore 3 v7 v18 h2) fun _ h3 =>
  bnd (call 24 [v0] h3) fun v21 h4 =>
  bndP (pBin .neq v21 v1) fun v23 =>
  bnd (sGuard v23 .false (some (v19, h4)) h4) fun v25 h5 =>
  bnd (sGuard v23 .false (lift (pFieldAddr 0 v5) h5) h5) fun v26 h6 =>
  bnd (sGuard v23 .false (lift (pLoad1 I v26 h6) h6) h6) fun v27 h7 =>
  bnd (sGuard v23 .false (lift (pBin .geq v27 (Z 0)) h7) h7) fun v28 h8 =>
  bnd (sGuard v23 .false (lift (pEq P .true .bool .false v25 v28 h8) h8) h8) fun v29 h9 =>
  bndP (pPick v23 (.bool .true) v29) fun v30 =>
  sCond v30 (
  j.2.2 v5 v7 v19 h9) (
  some ((.bool .false), h9))
noncomputable def f15.b2 (I : Inp) (call : CallFn) (j : f15.Js) (v5 v7 v8 : AVal) (h : AHeap) : Rs :=
  bndP (pUn .not v8) fun v32 =>
  bnd (sGuard v32 .false (lift (pFieldAddr 0 v7) h) h) fun v34 h1 =>
  bnd (sGuard v32 .false (lift (pLoad1 I v34 h1) h1) h1) fun v35 h2 =>
  bnd (sGuard v32 .false (lift (pFieldAddr 0 v5) h2) h2) fun v36 h3 =>
  bnd (sGuard v32 .false (lift (pLoad1 I v36 h3) h3) h3) fun v37 h4 =>
  bnd (sGuard v32 .false (lift (pBin .eql v35 v37) h4) h4) fun v38 h5 =>
  bnd (sGuard v32 .false (some (v38, h5)) h5) fun v39 h6 =>
  bnd (sGuard v39 .true (lift (pFieldAddr 1 v7) h6) h6) fun v40 h7 =>
  bnd (sGuard v39 .true (lift (pLoad1 I v40 h7) h7) h7) fun v41 h8 =>
  bnd (sGuard v39 .true (lift (pFieldAddr 1 v5) h8) h8) fun v42 h9 =>
  bnd (sGuard v39 .true (lift (pLoad1 I v42 h9) h9) h9) fun v43 h10 =>
  bnd (sGuard v39 .true (lift (pBin .eql v41 v43) h10) h10) fun v44 h11 =>
  bnd (sGuard v32 .false (lift (pPick v39 v44 (.bool .false)) h11) h11) fun v45 h12 =>
  bnd (sGuard v32 .false (some (v45, h12)) h12) fun v46 h13 =>
  bnd (sGuard v46 .true (lift (pFieldAddr 2 v7) h13) h13) fun v47 h14 =>
  bnd (sGuard v46 .true (lift (pLoad1 I v47 h14) h14) h14) fun v48 h15 =>
  bnd (sGuard v46 .true (lift (pFieldAddr 2 v5) h15) h15) fun v49 h16 =>
  bnd (sGuard v46 .true (lift (pLoad1 I v49 h16) h16) h16) fun v50 h17 =>
  bnd (sGuard v46 .true (lift (pBin .eql v48 v50) h17) h17) fun v51 h18 =>
  bnd (sGuard v32 .false (lift (pPick v46 v51 (.bool .false)) h18) h18) fun v52 h19 =>
  bndP (pPick v32 (.bool .true) v52) fun v53 =>
  some (v53, h19)
noncomputable def f15.e (I : Inp) (call : CallFn) (j : f15.Js) (v0 v1 v2 : AVal) (h : AHeap) : Rs :=
  bnd (sBox v2 h) fun v5 h1 =>
  bndP (pBin .eql v1 (Z 0)) fun v10 =>
  sCond v10 (
  j.1 v0 v1 v5 h1) (
  bndP (pEq P .false .iface .true v0 .nili h1) fun v12 =>
  some (v12, h1))
noncomputable def f15.J (I : Inp) (call : CallFn) (n : Nat) : f15.Js :=
  Nat.rec (motive := fun _ => f15.Js) ((fun _ _ _ _ => none), ((fun _ _ _ _ => none), (fun _ _ _ _ => none))) (fun _ ih => (f15.b0 I call ih, (f15.b1 I call ih, f15.b2 I call ih))) n
noncomputable def f15.JS (I : Inp) (call : CallFn) (n : Nat) : Jmp := fun id ρ h =>
  (Bool.rec (motive := fun _ => _) (Bool.rec (motive := fun _ => _) ((f15.J I call n).2.2 (ρ 5) (ρ 7) (ρ 8) h) ((f15.J I call n).2.1 (ρ 0) (ρ 1) (ρ 5) h) (Nat.blt id 2)) ((f15.J I call n).1 (ρ 0) (ρ 1) (ρ 5) h) (Nat.blt id 1))
theorem f15.z0 (I : Inp) (call : CallFn) (ρ : Fun) (h : AHeap) : f15.JS I call 0 0 ρ h = none := rfl
theorem f15.z1 (I : Inp) (call : CallFn) (ρ : Fun) (h : AHeap) : f15.JS I call 0 1 ρ h = none := rfl
theorem f15.z2 (I : Inp) (call : CallFn) (ρ : Fun) (h : AHeap) : f15.JS I call 0 2 ρ h = none := rfl
theorem f15.q0 (I : Inp) (call : CallFn) (n : Nat) (ρ : Fun) (h : AHeap) : f15.JS I call (n + 1) 0 ρ h = labC P I call (f15.JS I call n) c15.body 0 (finV I c15.results) 0 ρ h := by kernel_rfl
theorem f15.q1 (I : Inp) (call : CallFn) (n : Nat) (ρ : Fun) (h : AHeap) : f15.JS I call (n + 1) 1 ρ h = labC P I call (f15.JS I call n) c15.body 0 (finV I c15.results) 1 ρ h := by kernel_rfl
theorem f15.q2 (I : Inp) (call : CallFn) (n : Nat) (ρ : Fun) (h : AHeap) : f15.JS I call (n + 1) 2 ρ h = labC P I call (f15.JS I call n) c15.body 0 (finV I c15.results) 2 ρ h := by kernel_rfl
theorem f15.S (I : Inp) (F : Nat → Option AFn) (call : CallFn) : SFn ⟨P, I, F⟩ call c15 (f15.JS I call) :=
  ⟨fun id hid ρ h => by
    have hc : c15.body.cnt = 3 := by kernel_rfl
    rw [hc] at hid
    exact match id, hid with
    | 0, _ => f15.z0 I call ρ h
    | 1, _ => f15.z1 I call ρ h
    | 2, _ => f15.z2 I call ρ h
    | id + 3, hid => absurd hid (by omega), fun n id hid ρ h => by
    have hc : c15.body.cnt = 3 := by kernel_rfl
    rw [hc] at hid
    exact match id, hid with
    | 0, _ => f15.q0 I call n ρ h
    | 1, _ => f15.q1 I call n ρ h
    | 2, _ => f15.q2 I call n ρ h
    | id + 3, hid => absurd hid (by omega)⟩
noncomputable def f15.run (I : Inp) : SF := fun call n a h =>
  match a with
  | [v0, v1, v2] => f15.e I call (f15.J I call n) v0 v1 v2 h
  | _ => none
theorem f15.qe (I : Inp) (call : CallFn) (n : Nat) (v0 v1 v2 : AVal) (h : AHeap) : f15.e I call (f15.J I call n) v0 v1 v2 h = execC P I call (f15.JS I call n) c15.body 0 (finV I c15.results) (argV [v0, v1, v2]) h := by kernel_rfl
theorem f15.code : codeOf P 15 = some c15 := by kernel_rfl
theorem f15.ok (I : Inp) (F : Nat → Option AFn) (hF : F 15 = some (.code c15)) : SfOk P I F 15 (f15.run I) := by
  intro call hc n args h r hr
  unfold f15.run at hr
  split at hr
  · exact fn_sound (C := ⟨P, I, F⟩) (n := n) hc hF (Nat.le_of_ble_eq_true (by kernel_rfl)) (by kernel_rfl) (f15.S I F call) (by kernel_rfl) ((f15.qe I call n _ _ _ h).symm.trans hr)
  · cases hr
/-! haruspex/types.Bounds -/
noncomputable def c16 : AFunc := (AFunc.mk 174 1 [(.tmp 2)] (.seq (.region [(S 2 (.move (.val .nili)) .none)]) (.seq (.seq (.region [(M 19 0), (S 20 (.eq .false .ptr .true (T 19) (.val .nilp)) .none), (M 21 20), (S 22 (.move (T 0)) (.some (21, .false))), (S 23 (.nilCheck (T 22)) (.some (21, .false))), (S 24 (.fieldAddr 0 (T 23)) (.some (21, .false))), (S 25 (.load1 (T 24)) (.some (21, .false))), (S 26 (.lenSl (T 25)) (.some (21, .false))), (S 27 (.bin .gtr (T 26) (V 6)) (.some (21, .false))), (S 28 (.pick (T 21) (.val (.bool .true)) (T 27)) .none), (M 29 28), (S 30 (.move (T 0)) (.some (29, .false))), (S 31 (.nilCheck (T 30)) (.some (29, .false))), (S 32 (.fieldAddr 1 (T 31)) (.some (29, .false))), (S 33 (.load1 (T 32)) (.some (29, .false))), (S 34 (.lenSl (T 33)) (.some (29, .false))), (S 35 (.bin .gtr (T 34) (V 10)) (.some (29, .false))), (S 36 (.pick (T 29) (.val (.bool .true)) (T 35)) .none), (M 37 36), (S 38 (.move (T 0)) (.some (37, .false))), (S 39 (.nilCheck (T 38)) (.some (37, .false))), (S 40 (.fieldAddr 2 (T 39)) (.some (37, .false))), (S 41 (.load1 (T 40)) (.some (37, .false))), (S 42 (.lenSl (T 41)) (.some (37, .false))), (S 43 (.bin .gtr (T 42) (V 4)) (.some (37, .false))), (S 44 (.pick (T 37) (.val (.bool .true)) (T 43)) .none), (M 45 44), (S 46 (.move (T 0)) (.some (45, .false))), (S 47 (.nilCheck (T 46)) (.some (45, .false))), (S 48 (.fieldAddr 3 (T 47)) (.some (45, .false))), (S 49 (.load1 (T 48)) (.some (45, .false))), (S 50 (.lenSl (T 49)) (.some (45, .false))), (S 51 (.bin .gtr (T 50) (V 12)) (.some (45, .false))), (S 52 (.pick (T 45) (.val (.bool .true)) (T 51)) .none), (M 53 52), (S 54 (.move (T 0)) (.some (53, .false))), (S 55 (.nilCheck (T 54)) (.some (53, .false))), (S 56 (.fieldAddr 4 (T 55)) (.some (53, .false))), (S 57 (.load1 (T 56)) (.some (53, .false))), (S 58 (.lenSl (T 57)) (.some (53, .false))), (S 59 (.bin .gtr (T 58) (V 12)) (.some (53, .false))), (S 60 (.pick (T 53) (.val (.bool .true)) (T 59)) .none), (M 61 60), (S 62 (.move (T 0)) (.some (61, .false))), (S 63 (.nilCheck (T 62)) (.some (61, .false))), (S 64 (.fieldAddr 4 (T 63)) (.some (61, .false))), (S 65 (.load1 (T 64)) (.some (61, .false))), (S 66 (.lenSl (T 65)) (.some (61, .false))), (S 67 (.bin .eql (T 66) (V 0)) (.some (61, .false))), (S 68 (.pick (T 61) (.val (.bool .true)) (T 67)) .none)]) (.cond (T 68) (.seq (.region [(S 69 (.call 39 []) .none), (M 2 69)]) .ret) .skip)) (.seq (.region [(S 3 (.move (.val (.bool .true))) .none)]) (.seq (.seq (.region [(M 70 0), (S 71 (.nilCheck (T 70)) .none), (S 72 (.fieldAddr 0 (T 71)) .none), (S 73 (.load1 (T 72)) .none), (S 74 (.lenSl (T 73)) .none), (S 75 (.move (V 0)) .none)]) (.block 0 (.loop (.seq (.region [(S 76 (.bin .lss (T 75) (T 74)) .none)]) (.seq (.cond (T 76) .skip (.exit 0)) (.seq (.block 1 (.seq (.region [(S 77 (.indexAddr 1 (T 73) (T 75)) .none), (S 78 (.load1 (T 77)) .none), (M 5 78)]) (.region [(M 79 3), (M 80 79), (S 81 (.move (T 5)) (.some (80, .true))), (S 82 (.lenSl (T 81)) (.some (80, .true))), (S 83 (.bin .leq (T 82) (V 4)) (.some (80, .true))), (S 84 (.pick (T 80) (T 83) (.val (.bool .false))) .none), (M 3 84)]))) (.region [(S 85 (.bin .add (T 75) (V 1)) .none), (M 75 85)]))))))) (.seq (.seq (.region [(M 86 0), (S 87 (.nilCheck (T 86)) .none), (S 88 (.fieldAddr 1 (T 87)) .none), (S 89 (.load1 (T 88)) .none), (S 90 (.lenSl (T 89)) .none), (S 91 (.move (V 0)) .none)]) (.block 2 (.loop (.seq (.region [(S 92 (.bin .lss (T 91) (T 90)) .none)]) (.seq (.cond (T 92) .skip (.exit 2)) (.seq (.block 3 (.seq (.region [(S 93 (.indexAddr 3 (T 89) (T 91)) .none), (S 94 (.loadN 3 (T 93)) .none), (S 7 (.alloc [.nils, (Z 0), (Z 0)]) .none), (AOper.mk .none (.store 3 (T 7) (T 94)) .none)]) (.region [(M 95 3), (M 96 95), (S 97 (.fieldAddr 0 (T 7)) (.some (96, .true))), (S 98 (.load1 (T 97)) (.some (96, .true))), (S 99 (.lenSl (T 98)) (.some (96, .true))), (S 100 (.bin .leq (T 99) (V 4)) (.some (96, .true))), (S 101 (.pick (T 96) (T 100) (.val (.bool .false))) .none), (M 3 101)]))) (.region [(S 102 (.bin .add (T 91) (V 1)) .none), (M 91 102)]))))))) (.seq (.seq (.region [(M 103 0), (S 104 (.nilCheck (T 103)) .none), (S 105 (.fieldAddr 2 (T 104)) .none), (S 106 (.load1 (T 105)) .none), (S 107 (.lenSl (T 106)) .none), (S 108 (.move (V 0)) .none)]) (.block 4 (.loop (.seq (.region [(S 109 (.bin .lss (T 108) (T 107)) .none)]) (.seq (.cond (T 109) .skip (.exit 4)) (.seq (.block 5 (.seq (.region [(S 110 (.indexAddr 1 (T 106) (T 108)) .none), (S 111 (.loadN 1 (T 110)) .none), (S 9 (.alloc [.nils]) .none), (AOper.mk .none (.store 1 (T 9) (T 111)) .none)]) (.region [(M 112 3), (M 113 112), (S 114 (.fieldAddr 0 (T 9)) (.some (113, .true))), (S 115 (.load1 (T 114)) (.some (113, .true))), (S 116 (.lenSl (T 115)) (.some (113, .true))), (S 117 (.bin .leq (T 116) (V 3)) (.some (113, .true))), (S 118 (.pick (T 113) (T 117) (.val (.bool .false))) .none), (M 3 118)]))) (.region [(S 119 (.bin .add (T 108) (V 1)) .none), (M 108 119)]))))))) (.seq (.seq (.region [(M 120 0), (S 121 (.nilCheck (T 120)) .none), (S 122 (.fieldAddr 3 (T 121)) .none), (S 123 (.load1 (T 122)) .none), (S 124 (.lenSl (T 123)) .none), (S 125 (.move (V 0)) .none)]) (.block 6 (.loop (.seq (.region [(S 126 (.bin .lss (T 125) (T 124)) .none)]) (.seq (.cond (T 126) .skip (.exit 6)) (.seq (.block 7 (.seq (.region [(S 127 (.indexAddr 3 (T 123) (T 125)) .none), (S 128 (.loadN 3 (T 127)) .none), (S 11 (.alloc [(Z 0), (Z 0), .nils]) .none), (AOper.mk .none (.store 3 (T 11) (T 128)) .none)]) (.region [(M 129 3), (M 130 129), (S 131 (.fieldAddr 2 (T 11)) (.some (130, .true))), (S 132 (.load1 (T 131)) (.some (130, .true))), (S 133 (.lenSl (T 132)) (.some (130, .true))), (S 134 (.bin .leq (T 133) (V 3)) (.some (130, .true))), (S 135 (.pick (T 130) (T 134) (.val (.bool .false))) .none), (M 3 135)]))) (.region [(S 136 (.bin .add (T 125) (V 1)) .none), (M 125 136)]))))))) (.seq (.region [(S 12 (.move (V 0)) .none), (S 13 (.move (V 0)) .none)]) (.seq (.seq (.region [(M 137 0), (S 138 (.nilCheck (T 137)) .none), (S 139 (.fieldAddr 4 (T 138)) .none), (S 140 (.load1 (T 139)) .none), (S 141 (.lenSl (T 140)) .none), (S 142 (.move (V 0)) .none)]) (.block 8 (.loop (.seq (.region [(S 143 (.bin .lss (T 142) (T 141)) .none)]) (.seq (.cond (T 143) .skip (.exit 8)) (.seq (.block 9 (.seq (.region [(S 144 (.indexAddr 3 (T 140) (T 142)) .none), (S 145 (.loadN 3 (T 144)) .none), (S 15 (.alloc [(Z 0), .nils, .nils]) .none), (AOper.mk .none (.store 3 (T 15) (T 145)) .none)]) (.seq (.region [(S 147 (.loadN 3 (T 15)) .none), (S 148 (.call 40 [(T 147)]) .none), (M 146 148), (S 149 (.extract (T 146) 0) .none), (S 150 (.extract (T 146) 1) .none), (S 151 (.extract (T 146) 2) .none), (M 16 149), (M 17 150), (M 18 151)]) (.seq (.region [(M 152 3), (M 153 152), (S 154 (.move (T 16)) (.some (153, .true))), (S 155 (.pick (T 153) (T 154) (.val (.bool .false))) .none), (M 3 155)]) (.region [(M 156 12), (M 157 17), (S 158 (.bin .add (T 156) (T 157)) .none), (M 159 13), (M 160 18), (S 161 (.bin .add (T 159) (T 160)) .none), (M 12 158), (M 13 161)]))))) (.region [(S 162 (.bin .add (T 142) (V 1)) .none), (M 142 162)]))))))) (.seq (.seq (.region [(M 163 3), (S 164 (.un .not (T 163)) .none), (M 165 164), (S 166 (.move (T 12)) (.some (165, .false))), (S 167 (.bin .gtr (T 166) (V 600)) (.some (165, .false))), (S 168 (.pick (T 165) (.val (.bool .true)) (T 167)) .none), (M 169 168), (S 170 (.move (T 13)) (.some (169, .false))), (S 171 (.bin .gtr (T 170) (V 40)) (.some (169, .false))), (S 172 (.pick (T 169) (.val (.bool .true)) (T 171)) .none)]) (.cond (T 172) (.seq (.region [(S 173 (.call 39 []) .none), (M 2 173)]) .ret) .skip)) (.seq (.region [(S 2 (.move (.val .nili)) .none)]) .ret))))))))))))
abbrev f16.Js : Type := (((((AVal → AHeap → Rs) × (AVal → AVal → AHeap → Rs)) × ((AVal → AVal → AVal → AVal → AVal → AHeap → Rs) × ((AVal → AVal → AVal → AVal → AVal → AHeap → Rs) × (AVal → AVal → AVal → AVal → AVal → AHeap → Rs)))) × (((AVal → AVal → AHeap → Rs) × ((AVal → AVal → AVal → AVal → AVal → AHeap → Rs) × (AVal → AVal → AVal → AVal → AVal → AHeap → Rs))) × ((AVal → AVal → AVal → AVal → AVal → AHeap → Rs) × ((AVal → AVal → AHeap → Rs) × (AVal → AVal → AVal → AVal → AVal → AHeap → Rs))))) × ((((AVal → AVal → AVal → AVal → AVal → AHeap → Rs) × (AVal → AVal → AVal → AVal → AVal → AHeap → Rs)) × ((AVal → AVal → AHeap → Rs) × ((AVal → AVal → AVal → AVal → AVal → AHeap → Rs) × (AVal → AVal → AVal → AVal → AVal → AHeap → Rs)))) × (((AVal → AVal → AVal → AVal → AVal → AHeap → Rs) × ((AVal → AVal → AVal → AHeap → Rs) × (AVal → AVal → AVal → AVal → AVal → AVal → AHeap → Rs))) × ((AVal → AVal → AVal → AVal → AVal → AVal → AHeap → Rs) × ((AVal → AVal → AVal → AVal → AVal → AVal → AHeap → Rs) × (AHeap → Rs))))))
noncomputable def f16.b0 (I : Inp) (call : CallFn) (j : f16.Js) (v0 : AVal) (h : AHeap) : Rs :=
  bndP (pNilCheck v0) fun v71 =>
  bndP (pFieldAddr 0 v71) fun v72 =>
  bndP (pLoad1 I v72 h) fun v73 =>
  bndP (pLenSl v73) fun v74 =>
  j.1.1.2.1 v0 (.bool .true) v73 v74 (Z 0) h
noncomputable def f16.b1 (I : Inp) (call : CallFn) (j : f16.Js) (v0 v3 : AVal) (h : AHeap) : Rs :=
  bndP (pNilCheck v0) fun v87 =>
  bndP (pFieldAddr 1 v87) fun v88 =>
  bndP (pLoad1 I v88 h) fun v89 =>
  bndP (pLenSl v89) fun v90 =>
  j.1.2.1.2.1 v0 v3 v89 v90 (Z 0) h
noncomputable def f16.b2 (I : Inp) (call : CallFn) (j : f16.Js) (v0 v3 v73 v74 v75 : AVal) (h : AHeap) : Rs :=
  bndP (pBin .lss v75 v74) fun v76 =>
  sCond v76 (
  j.1.1.1.2 v0 v3 h) (
  j.1.1.2.2.1 v0 v3 v73 v74 v75 h)
noncomputable def f16.b3 (I : Inp) (call : CallFn) (j : f16.Js) (v0 v3 v73 v74 v75 : AVal) (h : AHeap) : Rs :=
  bndP (pIndexAddr 1 v73 v75) fun v77 =>
  bndP (pLoad1 I v77 h) fun v78 =>
  bnd (sGuard v3 .true (some (v78, h)) h) fun v81 h1 =>
  bnd (sGuard v3 .true (lift (pLenSl v81) h1) h1) fun v82 h2 =>
  bnd (sGuard v3 .true (lift (pBin .leq v82 (Z 4)) h2) h2) fun v83 h3 =>
  bndP (pPick v3 v83 (.bool .false)) fun v84 =>
  j.1.1.2.2.2 v0 v84 v73 v74 v75 h3
noncomputable def f16.b4 (I : Inp) (call : CallFn) (j : f16.Js) (v0 v3 v73 v74 v75 : AVal) (h : AHeap) : Rs :=
  bndP (pBin .add v75 (Z 1)) fun v85 =>
  j.1.1.2.1 v0 v3 v73 v74 v85 h
noncomputable def f16.b5 (I : Inp) (call : CallFn) (j : f16.Js) (v0 v3 : AVal) (h : AHeap) : Rs :=
  bndP (pNilCheck v0) fun v104 =>
  bndP (pFieldAddr 2 v104) fun v105 =>
  bndP (pLoad1 I v105 h) fun v106 =>
  bndP (pLenSl v106) fun v107 =>
  j.1.2.2.2.2 v0 v3 v106 v107 (Z 0) h
noncomputable def f16.b6 (I : Inp) (call : CallFn) (j : f16.Js) (v0 v3 v89 v90 v91 : AVal) (h : AHeap) : Rs :=
  bndP (pBin .lss v91 v90) fun v92 =>
  sCond v92 (
  j.1.2.1.1 v0 v3 h) (
  j.1.2.1.2.2 v0 v3 v89 v90 v91 h)
noncomputable def f16.b7 (I : Inp) (call : CallFn) (j : f16.Js) (v0 v3 v89 v90 v91 : AVal) (h : AHeap) : Rs :=
  bndP (pIndexAddr 3 v89 v91) fun v93 =>
  bndP (pLoadN I 3 v93 h) fun v94 =>
  bnd (sAlloc [.nils, (Z 0), (Z 0)] h) fun v7 h1 =>
  bnd (sStore 3 v7 v94 h1) fun _ h2 =>
  bnd (sGuard v3 .true (lift (pFieldAddr 0 v7) h2) h2) fun v97 h3 =>
  bnd (sGuard v3 .true (lift (pLoad1 I v97 h3) h3) h3) fun v98 h4 =>
  bnd (sGuard v3 .true (lift (pLenSl v98) h4) h4) fun v99 h5 =>
  bnd (sGuard v3 .true (lift (pBin .leq v99 (Z 4)) h5) h5) fun v100 h6 =>
  bndP (pPick v3 v100 (.bool .false)) fun v101 =>
  j.1.2.2.1 v0 v101 v89 v90 v91 h6
noncomputable def f16.b8 (I : Inp) (call : CallFn) (j : f16.Js) (v0 v3 v89 v90 v91 : AVal) (h : AHeap) : Rs :=
  bndP (pBin .add v91 (Z 1)) fun v102 =>
  j.1.2.1.2.1 v0 v3 v89 v90 v102 h
noncomputable def f16.b9 (I : Inp) (call : CallFn) (j : f16.Js) (v0 v3 : AVal) (h : AHeap) : Rs :=
  bndP (pNilCheck v0) fun v121 =>
  bndP (pFieldAddr 3 v121) fun v122 =>
  bndP (pLoad1 I v122 h) fun v123 =>
  bndP (pLenSl v123) fun v124 =>
  j.2.1.2.2.1 v0 v3 v123 v124 (Z 0) h
noncomputable def f16.b10 (I : Inp) (call : CallFn) (j : f16.Js) (v0 v3 v106 v107 v108 : AVal) (h : AHeap) : Rs :=
  bndP (pBin .lss v108 v107) fun v109 =>
  sCond v109 (
  j.1.2.2.2.1 v0 v3 h) (
  j.2.1.1.1 v0 v3 v106 v107 v108 h)
noncomputable def f16.b11 (I : Inp) (call : CallFn) (j : f16.Js) (v0 v3 v106 v107 v108 : AVal) (h : AHeap) : Rs :=
  bndP (pIndexAddr 1 v106 v108) fun v110 =>
  bndP (pLoadN I 1 v110 h) fun v111 =>
  bnd (sAlloc [.nils] h) fun v9 h1 =>
  bnd (sStore 1 v9 v111 h1) fun _ h2 =>
  bnd (sGuard v3 .true (lift (pFieldAddr 0 v9) h2) h2) fun v114 h3 =>
  bnd (sGuard v3 .true (lift (pLoad1 I v114 h3) h3) h3) fun v115 h4 =>
  bnd (sGuard v3 .true (lift (pLenSl v115) h4) h4) fun v116 h5 =>
  bnd (sGuard v3 .true (lift (pBin .leq v116 (Z 3)) h5) h5) fun v117 h6 =>
  bndP (pPick v3 v117 (.bool .false)) fun v118 =>
  j.2.1.1.2 v0 v118 v106 v107 v108 h6
noncomputable def f16.b12 (I : Inp) (call : CallFn) (j : f16.Js) (v0 v3 v106 v107 v108 : AVal) (h : AHeap) : Rs :=
  bndP (pBin .add v108 (Z 1)) fun v119 =>
  j.1.2.2.2.2 v0 v3 v106 v107 v119 h
noncomputable def f16.b13 (I : Inp) (call : CallFn) (j : f16.Js) (v0 v3 : AVal) (h : AHeap) : Rs :=
  bndP (pNilCheck v0) fun v138 =>
  bndP (pFieldAddr 4 v138) fun v139 =>
  bndP (pLoad1 I v139 h) fun v140 =>
  bndP (pLenSl v140) fun v141 =>
  j.2.2.1.2.2 v3 (Z 0) (Z 0) v140 v141 (Z 0) h
noncomputable def f16.b14 (I : Inp) (call : CallFn) (j : f16.Js) (v0 v3 v123 v124 v125 : AVal) (h : AHeap) : Rs :=
  bndP (pBin .lss v125 v124) fun v126 =>
  sCond v126 (
  j.2.1.2.1 v0 v3 h) (
  j.2.1.2.2.2 v0 v3 v123 v124 v125 h)
noncomputable def f16.b15 (I : Inp) (call : CallFn) (j : f16.Js) (v0 v3 v123 v124 v125 : AVal) (h : AHeap) : Rs :=
  bndP (pIndexAddr 3 v123 v125) fun v127 =>
  bndP (pLoadN I 3 v127 h) fun v128 =>
  bnd (sAlloc [(Z 0), (Z 0), .nils] h) fun v11 h1 =>
  bnd (sStore 3 v11 v128 h1) fun _ h2 =>
  bnd (sGuard v3 .true (lift (pFieldAddr 2 v11) h2) h2) fun v131 h3 =>
  bnd (sGuard v3 .true (lift (pLoad1 I v131 h3) h3) h3) fun v132 h4 =>
  bnd (sGuard v3 .true (lift (pLenSl v132) h4) h4) fun v133 h5 =>
  bnd (sGuard v3 .true (lift (pBin .leq v133 (Z 3)) h5) h5) fun v134 h6 =>
  bndP (pPick v3 v134 (.bool .false)) fun v135 =>
  j.2.2.1.1 v0 v135 v123 v124 v125 h6
noncomputable def f16.b16 (I : Inp) (call : CallFn) (j : f16.Js) (v0 v3 v123 v124 v125 : AVal) (h : AHeap) : Rs :=
  bndP (pBin .add v125 (Z 1)) fun v136 =>
  j.2.1.2.2.1 v0 v3 v123 v124 v136 h
noncomputable def f16.b17 (I : Inp) (call : CallFn) (j : f16.Js) (v3 v12 v13 : AVal) (h : AHeap) : Rs :=
  bndP (pUn .not v3) fun v164 =>
  bnd (sGuard v164 .false (some (v12, h)) h) fun v166 h1 =>
  bnd (sGuard v164 .false (lift (pBin .gtr v166 (Z 600)) h1) h1) fun v167 h2 =>
  bndP (pPick v164 (.bool .true) v167) fun v168 =>
  bnd (sGuard v168 .false (some (v13, h2)) h2) fun v170 h3 =>
  bnd (sGuard v168 .false (lift (pBin .gtr v170 (Z 40)) h3) h3) fun v171 h4 =>
  bndP (pPick v168 (.bool .true) v171) fun v172 =>
  sCond v172 (
  j.2.2.2.2.2 h4) (
  bnd (call 39 [] h4) fun v173 h5 =>
  some (v173, h5))
noncomputable def f16.b18 (I : Inp) (call : CallFn) (j : f16.Js) (v3 v12 v13 v140 v141 v142 : AVal) (h : AHeap) : Rs :=
  bndP (pBin .lss v142 v141) fun v143 =>
  sCond v143 (
  j.2.2.1.2.1 v3 v12 v13 h) (
  j.2.2.2.1 v3 v12 v13 v140 v141 v142 h)
noncomputable def f16.b19 (I : Inp) (call : CallFn) (j : f16.Js) (v3 v12 v13 v140 v141 v142 : AVal) (h : AHeap) : Rs :=
  bndP (pIndexAddr 3 v140 v142) fun v144 =>
  bndP (pLoadN I 3 v144 h) fun v145 =>
  bnd (sAlloc [(Z 0), .nils, .nils] h) fun v15 h1 =>
  bnd (sStore 3 v15 v145 h1) fun _ h2 =>
  bndP (pLoadN I 3 v15 h2) fun v147 =>
  bnd (call 40 [v147] h2) fun v148 h3 =>
  bndP (pExtract v148 0) fun v149 =>
  bndP (pExtract v148 1) fun v150 =>
  bndP (pExtract v148 2) fun v151 =>
  bnd (sGuard v3 .true (some (v149, h3)) h3) fun v154 h4 =>
  bndP (pPick v3 v154 (.bool .false)) fun v155 =>
  bndP (pBin .add v12 v150) fun v158 =>
  bndP (pBin .add v13 v151) fun v161 =>
  j.2.2.2.2.1 v155 v158 v161 v140 v141 v142 h4
noncomputable def f16.b20 (I : Inp) (call : CallFn) (j : f16.Js) (v3 v12 v13 v140 v141 v142 : AVal) (h : AHeap) : Rs :=
  bndP (pBin .add v142 (Z 1)) fun v162 =>
  j.2.2.1.2.2 v3 v12 v13 v140 v141 v162 h
noncomputable def f16.b21 (I : Inp) (call : CallFn) (j : f16.Js) (h : AHeap) : Rs :=
  some (.nili, h)
noncomputable def f16.e (I : Inp) (call : CallFn) (j : f16.Js) (v0 : AVal) (h : AHeap) : Rs :=
  bndP (pEq P .false .ptr .true v0 .nilp h) fun v20 =>
  bnd (sGuard v20 .false (some (v0, h)) h) fun v22 h1 =>
  bnd (sGuard v20 .false (lift (pNilCheck v22) h1) h1) fun v23 h2 =>
  bnd (sGuard v20 .false (lift (pFieldAddr 0 v23) h2) h2) fun v24 h3 =>
  bnd (sGuard v20 .false (lift (pLoad1 I v24 h3) h3) h3) fun v25 h4 =>
  bnd (sGuard v20 .false (lift (pLenSl v25) h4) h4) fun v26 h5 =>
  bnd (sGuard v20 .false (lift (pBin .gtr v26 (Z 6)) h5) h5) fun v27 h6 =>
  bndP (pPick v20 (.bool .true) v27) fun v28 =>
  bnd (sGuard v28 .false (some (v0, h6)) h6) fun v30 h7 =>
  bnd (sGuard v28 .false (lift (pNilCheck v30) h7) h7) fun v31 h8 =>
  bnd (sGuard v28 .false (lift (pFieldAddr 1 v31) h8) h8) fun v32 h9 =>
  bnd (sGuard v28 .false (lift (pLoad1 I v32 h9) h9) h9) fun v33 h10 =>
  bnd (sGuard v28 .false (lift (pLenSl v33) h10) h10) fun v34 h11 =>
  bnd (sGuard v28 .false (lift (pBin .gtr v34 (Z 10)) h11) h11) fun v35 h12 =>
  bndP (pPick v28 (.bool .true) v35) fun v36 =>
  bnd (sGuard v36 .false (some (v0, h12)) h12) fun v38 h13 =>
  bnd (sGuard v36 .false (lift (pNilCheck v38) h13) h13) fun v39 h14 =>
  bnd (sGuard v36 .false (lift (pFieldAddr 2 v39) h14) h14) fun v40 h15 =>
  bnd (sGuard v36 .false (lift (pLoad1 I v40 h15) h15) h15) fun v41 h16 =>
  bnd (sGuard v36 .false (lift (pLenSl v41) h16) h16) fun v42 h17 =>
  bnd (sGuard v36 .false (lift (pBin .gtr v42 (Z 4)) h17) h17) fun v43 h18 =>
  bndP (pPick v36 (.bool .true) v43) fun v44 =>
  bnd (sGuard v44 .false (some (v0, h18)) h18) fun v46 h19 =>
  bnd (sGuard v44 .false (lift (pNilCheck v46) h19) h19) fun v47 h20 =>
  bnd (sGuard v44 .false (lift (pFieldAddr 3 v47) h20) h20) fun v48 h21 =>
  bnd (sGuard v44 .false (lift (pLoad1 I v48 h21) h21) h21) fun v49 h22 =>
  bnd (sGuard v44 .false (lift (pLenSl v49) h22) h22) fun v50 h23 =>
  bnd (sGuard v44 .false (lift (pBin .gtr v50 (Z 12)) h23) h23) fun v51 h24 =>
  bndP (pPick v44 (.bool .true) v51) fun v52 =>
  bnd (sGuard v52 .false (some (v0, h24)) h24) fun v54 h25 =>
  bnd (sGuard v52 .false (lift (pNilCheck v54) h25) h25) fun v55 h26 =>
  bnd (sGuard v52 .false (lift (pFieldAddr 4 v55) h26) h26) fun v56 h27 =>
  bnd (sGuard v52 .false (lift (pLoad1 I v56 h27) h27) h27) fun v57 h28 =>
  bnd (sGuard v52 .false (lift (pLenSl v57) h28) h28) fun v58 h29 =>
  bnd (sGuard v52 .false (lift (pBin .gtr v58 (Z 12)) h29) h29) fun v59 h30 =>
  bndP (pPick v52 (.bool .true) v59) fun v60 =>
  bnd (sGuard v60 .false (some (v0, h30)) h30) fun v62 h31 =>
  bnd (sGuard v60 .false (lift (pNilCheck v62) h31) h31) fun v63 h32 =>
  bnd (sGuard v60 .false (lift (pFieldAddr 4 v63) h32) h32) fun v64 h33 =>
  bnd (sGuard v60 .false (lift (pLoad1 I v64 h33) h33) h33) fun v65 h34 =>
  bnd (sGuard v60 .false (lift (pLenSl v65) h34) h34) fun v66 h35 =>
  bnd (sGuard v60 .false (lift (pBin .eql v66 (Z 0)) h35) h35) fun v67 h36 =>
  bndP (pPick v60 (.bool .true) v67) fun v68 =>
  sCond v68 (
  j.1.1.1.1 v0 h36) (
  bnd (call 39 [] h36) fun v69 h37 =>
  some (v69, h37))
noncomputable def f16.J (I : Inp) (call : CallFn) (n : Nat) : f16.Js :=
  Nat.rec (motive := fun _ => f16.Js) (((((fun _ _ => none), (fun _ _ _ => none)), ((fun _ _ _ _ _ _ => none), ((fun _ _ _ _ _ _ => none), (fun _ _ _ _ _ _ => none)))), (((fun _ _ _ => none), ((fun _ _ _ _ _ _ => none), (fun _ _ _ _ _ _ => none))), ((fun _ _ _ _ _ _ => none), ((fun _ _ _ => none), (fun _ _ _ _ _ _ => none))))), ((((fun _ _ _ _ _ _ => none), (fun _ _ _ _ _ _ => none)), ((fun _ _ _ => none), ((fun _ _ _ _ _ _ => none), (fun _ _ _ _ _ _ => none)))), (((fun _ _ _ _ _ _ => none), ((fun _ _ _ _ => none), (fun _ _ _ _ _ _ _ => none))), ((fun _ _ _ _ _ _ _ => none), ((fun _ _ _ _ _ _ _ => none), (fun _ => none)))))) (fun _ ih => ((((f16.b0 I call ih, f16.b1 I call ih), (f16.b2 I call ih, (f16.b3 I call ih, f16.b4 I call ih))), ((f16.b5 I call ih, (f16.b6 I call ih, f16.b7 I call ih)), (f16.b8 I call ih, (f16.b9 I call ih, f16.b10 I call ih)))), (((f16.b11 I call ih, f16.b12 I call ih), (f16.b13 I call ih, (f16.b14 I call ih, f16.b15 I call ih))), ((f16.b16 I call ih, (f16.b17 I call ih, f16.b18 I call ih)), (f16.b19 I call ih, (f16.b20 I call ih, f16.b21 I call ih)))))) n
noncomputable def f16.JS (I : Inp) (call : CallFn) (n : Nat) : Jmp := fun id ρ h =>
  (Bool.rec (motive := fun _ => _) (Bool.rec (motive := fun _ => _) (Bool.rec (motive := fun _ => _) (Bool.rec (motive := fun _ => _) (Bool.rec (motive := fun _ => _) ((f16.J I call n).2.2.2.2.2 h) ((f16.J I call n).2.2.2.2.1 (ρ 3) (ρ 12) (ρ 13) (ρ 140) (ρ 141) (ρ 142) h) (Nat.blt id 21)) ((f16.J I call n).2.2.2.1 (ρ 3) (ρ 12) (ρ 13) (ρ 140) (ρ 141) (ρ 142) h) (Nat.blt id 20)) (Bool.rec (motive := fun _ => _) (Bool.rec (motive := fun _ => _) ((f16.J I call n).2.2.1.2.2 (ρ 3) (ρ 12) (ρ 13) (ρ 140) (ρ 141) (ρ 142) h) ((f16.J I call n).2.2.1.2.1 (ρ 3) (ρ 12) (ρ 13) h) (Nat.blt id 18)) ((f16.J I call n).2.2.1.1 (ρ 0) (ρ 3) (ρ 123) (ρ 124) (ρ 125) h) (Nat.blt id 17)) (Nat.blt id 19)) (Bool.rec (motive := fun _ => _) (Bool.rec (motive := fun _ => _) (Bool.rec (motive := fun _ => _) ((f16.J I call n).2.1.2.2.2 (ρ 0) (ρ 3) (ρ 123) (ρ 124) (ρ 125) h) ((f16.J I call n).2.1.2.2.1 (ρ 0) (ρ 3) (ρ 123) (ρ 124) (ρ 125) h) (Nat.blt id 15)) ((f16.J I call n).2.1.2.1 (ρ 0) (ρ 3) h) (Nat.blt id 14)) (Bool.rec (motive := fun _ => _) ((f16.J I call n).2.1.1.2 (ρ 0) (ρ 3) (ρ 106) (ρ 107) (ρ 108) h) ((f16.J I call n).2.1.1.1 (ρ 0) (ρ 3) (ρ 106) (ρ 107) (ρ 108) h) (Nat.blt id 12)) (Nat.blt id 13)) (Nat.blt id 16)) (Bool.rec (motive := fun _ => _) (Bool.rec (motive := fun _ => _) (Bool.rec (motive := fun _ => _) (Bool.rec (motive := fun _ => _) ((f16.J I call n).1.2.2.2.2 (ρ 0) (ρ 3) (ρ 106) (ρ 107) (ρ 108) h) ((f16.J I call n).1.2.2.2.1 (ρ 0) (ρ 3) h) (Nat.blt id 10)) ((f16.J I call n).1.2.2.1 (ρ 0) (ρ 3) (ρ 89) (ρ 90) (ρ 91) h) (Nat.blt id 9)) (Bool.rec (motive := fun _ => _) (Bool.rec (motive := fun _ => _) ((f16.J I call n).1.2.1.2.2 (ρ 0) (ρ 3) (ρ 89) (ρ 90) (ρ 91) h) ((f16.J I call n).1.2.1.2.1 (ρ 0) (ρ 3) (ρ 89) (ρ 90) (ρ 91) h) (Nat.blt id 7)) ((f16.J I call n).1.2.1.1 (ρ 0) (ρ 3) h) (Nat.blt id 6)) (Nat.blt id 8)) (Bool.rec (motive := fun _ => _) (Bool.rec (motive := fun _ => _) (Bool.rec (motive := fun _ => _) ((f16.J I call n).1.1.2.2.2 (ρ 0) (ρ 3) (ρ 73) (ρ 74) (ρ 75) h) ((f16.J I call n).1.1.2.2.1 (ρ 0) (ρ 3) (ρ 73) (ρ 74) (ρ 75) h) (Nat.blt id 4)) ((f16.J I call n).1.1.2.1 (ρ 0) (ρ 3) (ρ 73) (ρ 74) (ρ 75) h) (Nat.blt id 3)) (Bool.rec (motive := fun _ => _) ((f16.J I call n).1.1.1.2 (ρ 0) (ρ 3) h) ((f16.J I call n).1.1.1.1 (ρ 0) h) (Nat.blt id 1)) (Nat.blt id 2)) (Nat.blt id 5)) (Nat.blt id 11))
theorem f16.z0 (I : Inp) (call : CallFn) (ρ : Fun) (h : AHeap) : f16.JS I call 0 0 ρ h = none := rfl
theorem f16.z1 (I : Inp) (call : CallFn) (ρ : Fun) (h : AHeap) : f16.JS I call 0 1 ρ h = none := rfl
theorem f16.z2 (I : Inp) (call : CallFn) (ρ : Fun) (h : AHeap) : f16.JS I call 0 2 ρ h = none := rfl
theorem f16.z3 (I : Inp) (call : CallFn) (ρ : Fun) (h : AHeap) : f16.JS I call 0 3 ρ h = none := rfl
theorem f16.z4 (I : Inp) (call : CallFn) (ρ : Fun) (h : AHeap) : f16.JS I call 0 4 ρ h = none := rfl
theorem f16.z5 (I : Inp) (call : CallFn) (ρ : Fun) (h : AHeap) : f16.JS I call 0 5 ρ h = none := rfl
theorem f16.z6 (I : Inp) (call : CallFn) (ρ : Fun) (h : AHeap) : f16.JS I call 0 6 ρ h = none := rfl
theorem f16.z7 (I : Inp) (call : CallFn) (ρ : Fun) (h : AHeap) : f16.JS I call 0 7 ρ h = none := rfl
theorem f16.z8 (I : Inp) (call : CallFn) (ρ : Fun) (h : AHeap) : f16.JS I call 0 8 ρ h = none := rfl
theorem f16.z9 (I : Inp) (call : CallFn) (ρ : Fun) (h : AHeap) : f16.JS I call 0 9 ρ h = none := rfl
theorem f16.z10 (I : Inp) (call : CallFn) (ρ : Fun) (h : AHeap) : f16.JS I call 0 10 ρ h = none := rfl
theorem f16.z11 (I : Inp) (call : CallFn) (ρ : Fun) (h : AHeap) : f16.JS I call 0 11 ρ h = none := rfl
theorem f16.z12 (I : Inp) (call : CallFn) (ρ : Fun) (h : AHeap) : f16.JS I call 0 12 ρ h = none := rfl
theorem f16.z13 (I : Inp) (call : CallFn) (ρ : Fun) (h : AHeap) : f16.JS I call 0 13 ρ h = none := rfl
theorem f16.z14 (I : Inp) (call : CallFn) (ρ : Fun) (h : AHeap) : f16.JS I call 0 14 ρ h = none := rfl
theorem f16.z15 (I : Inp) (call : CallFn) (ρ : Fun) (h : AHeap) : f16.JS I call 0 15 ρ h = none := rfl
theorem f16.z16 (I : Inp) (call : CallFn) (ρ : Fun) (h : AHeap) : f16.JS I call 0 16 ρ h = none := rfl
theorem f16.z17 (I : Inp) (call : CallFn) (ρ : Fun) (h : AHeap) : f16.JS I call 0 17 ρ h = none := rfl
theorem f16.z18 (I : Inp) (call : CallFn) (ρ : Fun) (h : AHeap) : f16.JS I call 0 18 ρ h = none := rfl
theorem f16.z19 (I : Inp) (call : CallFn) (ρ : Fun) (h : AHeap) : f16.JS I call 0 19 ρ h = none := rfl
theorem f16.z20 (I : Inp) (call : CallFn) (ρ : Fun) (h : AHeap) : f16.JS I call 0 20 ρ h = none := rfl
theorem f16.z21 (I : Inp) (call : CallFn) (ρ : Fun) (h : AHeap) : f16.JS I call 0 21 ρ h = none := rfl
theorem f16.q0 (I : Inp) (call : CallFn) (n : Nat) (ρ : Fun) (h : AHeap) : f16.JS I call (n + 1) 0 ρ h = labC P I call (f16.JS I call n) c16.body 0 (finV I c16.results) 0 ρ h := by kernel_rfl
theorem f16.q1 (I : Inp) (call : CallFn) (n : Nat) (ρ : Fun) (h : AHeap) : f16.JS I call (n + 1) 1 ρ h = labC P I call (f16.JS I call n) c16.body 0 (finV I c16.results) 1 ρ h := by kernel_rfl
theorem f16.q2 (I : Inp) (call : CallFn) (n : Nat) (ρ : Fun) (h : AHeap) : f16.JS I call (n + 1) 2 ρ h = labC P I call (f16.JS I call n) c16.body 0 (finV I c16.results) 2 ρ h := by kernel_rfl
theorem f16.q3 (I : Inp) (call : CallFn) (n : Nat) (ρ : Fun) (h : AHeap) : f16.JS I call (n + 1) 3 ρ h = labC P I call (f16.JS I call n) c16.body 0 (finV I c16.results) 3 ρ h := by kernel_rfl
theorem f16.q4 (I : Inp) (call : CallFn) (n : Nat) (ρ : Fun) (h : AHeap) : f16.JS I call (n + 1) 4 ρ h = labC P I call (f16.JS I call n) c16.body 0 (finV I c16.results) 4 ρ h := by kernel_rfl
theorem f16.q5 (I : Inp) (call : CallFn) (n : Nat) (ρ : Fun) (h : AHeap) : f16.JS I call (n + 1) 5 ρ h = labC P I call (f16.JS I call n) c16.body 0 (finV I c16.results) 5 ρ h := by kernel_rfl
theorem f16.q6 (I : Inp) (call : CallFn) (n : Nat) (ρ : Fun) (h : AHeap) : f16.JS I call (n + 1) 6 ρ h = labC P I call (f16.JS I call n) c16.body 0 (finV I c16.results) 6 ρ h := by kernel_rfl
theorem f16.q7 (I : Inp) (call : CallFn) (n : Nat) (ρ : Fun) (h : AHeap) : f16.JS I call (n + 1) 7 ρ h = labC P I call (f16.JS I call n) c16.body 0 (finV I c16.results) 7 ρ h := by kernel_rfl
theorem f16.q8 (I : Inp) (call : CallFn) (n : Nat) (ρ : Fun) (h : AHeap) : f16.JS I call (n + 1) 8 ρ h = labC P I call (f16.JS I call n) c16.body 0 (finV I c16.results) 8 ρ h := by kernel_rfl
theorem f16.q9 (I : Inp) (call : CallFn) (n : Nat) (ρ : Fun) (h : AHeap) : f16.JS I call (n + 1) 9 ρ h = labC P I call (f16.JS I call n) c16.body 0 (finV I c16.results) 9 ρ h := by kernel_rfl
theorem f16.q10 (I : Inp) (call : CallFn) (n : Nat) (ρ : Fun) (h : AHeap) : f16.JS I call (n + 1) 10 ρ h = labC P I call (f16.JS I call n) c16.body 0 (finV I c16.results) 10 ρ h := by kernel_rfl
theorem f16.q11 (I : Inp) (call : CallFn) (n : Nat) (ρ : Fun) (h : AHeap) : f16.JS I call (n + 1) 11 ρ h = labC P I call (f16.JS I call n) c16.body 0 (finV I c16.results) 11 ρ h := by kernel_rfl
theorem f16.q12 (I : Inp) (call : CallFn) (n : Nat) (ρ : Fun) (h : AHeap) : f16.JS I call (n + 1) 12 ρ h = labC P I call (f16.JS I call n) c16.body 0 (finV I c16.results) 12 ρ h := by kernel_rfl
theorem f16.q13 (I : Inp) (call : CallFn) (n : Nat) (ρ : Fun) (h : AHeap) : f16.JS I call (n + 1) 13 ρ h = labC P I call (f16.JS I call n) c16.body 0 (finV I c16.results) 13 ρ h := by kernel_rfl
theorem f16.q14 (I : Inp) (call : CallFn) (n : Nat) (ρ : Fun) (h : AHeap) : f16.JS I call (n + 1) 14 ρ h = labC P I call (f16.JS I call n) c16.body 0 (finV I c16.results) 14 ρ h := by kernel_rfl
theorem f16.q15 (I : Inp) (call : CallFn) (n : Nat) (ρ : Fun) (h : AHeap) : f16.JS I call (n + 1) 15 ρ h = labC P I call (f16.JS I call n) c16.body 0 (finV I c16.results) 15 ρ h := by kernel_rfl
theorem f16.q16 (I : Inp) (call : CallFn) (n : Nat) (ρ : Fun) (h : AHeap) : f16.JS I call (n + 1) 16 ρ h = labC P I call (f16.JS I call n) c16.body 0 (finV I c16.results) 16 ρ h := by kernel_rfl
theorem f16.q17 (I : Inp) (call : CallFn) (n : Nat) (ρ : Fun) (h : AHeap) : f16.JS I call (n + 1) 17 ρ h = labC P I call (f16.JS I call n) c16.body 0 (finV I c16.results) 17 ρ h := by kernel_rfl
theorem f16.q18 (I : Inp) (call : CallFn) (n : Nat) (ρ : Fun) (h : AHeap) : f16.JS I call (n + 1) 18 ρ h = labC P I call (f16.JS I call n) c16.body 0 (finV I c16.results) 18 ρ h := by kernel_rfl
theorem f16.q19 (I : Inp) (call : CallFn) (n : Nat) (ρ : Fun) (h : AHeap) : f16.JS I call (n + 1) 19 ρ h = labC P I call (f16.JS I call n) c16.body 0 (finV I c16.results) 19 ρ h := by kernel_rfl
theorem f16.q20 (I : Inp) (call : CallFn) (n : Nat) (ρ : Fun) (h : AHeap) : f16.JS I call (n + 1) 20 ρ h = labC P I call (f16.JS I call n) c16.body 0 (finV I c16.results) 20 ρ h := by kernel_rfl
theorem f16.q21 (I : Inp) (call : CallFn) (n : Nat) (ρ : Fun) (h : AHeap) : f16.JS I call (n + 1) 21 ρ h = labC P I call (f16.JS I call n) c16.body 0 (finV I c16.results) 21 ρ h := by kernel_rfl
theorem f16.S (I : Inp) (F : Nat → Option AFn) (call : CallFn) : SFn ⟨P, I, F⟩ call c16 (f16.JS I call) :=
  ⟨fun id hid ρ h => by
    have hc : c16.body.cnt = 22 := by kernel_rfl
    rw [hc] at hid
    exact match id, hid with
    | 0, _ => f16.z0 I call ρ h
    | 1, _ => f16.z1 I call ρ h
    | 2, _ => f16.z2 I call ρ h
    | 3, _ => f16.z3 I call ρ h
    | 4, _ => f16.z4 I call ρ h
    | 5, _ => f16.z5 I call ρ h
    | 6, _ => f16.z6 I call ρ h
    | 7, _ => f16.z7 I call ρ h
    | 8, _ => f16.z8 I call ρ h
    | 9, _ => f16.z9 I call ρ h
    | 10, _ => f16.z10 I call ρ h
    | 11, _ => f16.z11 I call ρ h
    | 12, _ => f16.z12 I call ρ h
    | 13, _ => f16.z13 I call ρ h
    | 14, _ => f16.z14 I call ρ h
    | 15, _ => f16.z15 I call ρ h
    | 16, _ => f16.z16 I call ρ h
    | 17, _ => f16.z17 I call ρ h
    | 18, _ => f16.z18 I call ρ h
    | 19, _ => f16.z19 I call ρ h
    | 20, _ => f16.z20 I call ρ h
    | 21, _ => f16.z21 I call ρ h
    | id + 22, hid => absurd hid (by omega), fun n id hid ρ h => by
    have hc : c16.body.cnt = 22 := by kernel_rfl
    rw [hc] at hid
    exact match id, hid with
    | 0, _ => f16.q0 I call n ρ h
    | 1, _ => f16.q1 I call n ρ h
    | 2, _ => f16.q2 I call n ρ h
    | 3, _ => f16.q3 I call n ρ h
    | 4, _ => f16.q4 I call n ρ h
    | 5, _ => f16.q5 I call n ρ h
    | 6, _ => f16.q6 I call n ρ h
    | 7, _ => f16.q7 I call n ρ h
    | 8, _ => f16.q8 I call n ρ h
    | 9, _ => f16.q9 I call n ρ h
    | 10, _ => f16.q10 I call n ρ h
    | 11, _ => f16.q11 I call n ρ h
    | 12, _ => f16.q12 I call n ρ h
    | 13, _ => f16.q13 I call n ρ h
    | 14, _ => f16.q14 I call n ρ h
    | 15, _ => f16.q15 I call n ρ h
    | 16, _ => f16.q16 I call n ρ h
    | 17, _ => f16.q17 I call n ρ h
    | 18, _ => f16.q18 I call n ρ h
    | 19, _ => f16.q19 I call n ρ h
    | 20, _ => f16.q20 I call n ρ h
    | 21, _ => f16.q21 I call n ρ h
    | id + 22, hid => absurd hid (by omega)⟩
noncomputable def f16.run (I : Inp) : SF := fun call n a h =>
  match a with
  | [v0] => f16.e I call (f16.J I call n) v0 h
  | _ => none
theorem f16.qe (I : Inp) (call : CallFn) (n : Nat) (v0 : AVal) (h : AHeap) : f16.e I call (f16.J I call n) v0 h = execC P I call (f16.JS I call n) c16.body 0 (finV I c16.results) (argV [v0]) h := by kernel_rfl
theorem f16.code : codeOf P 16 = some c16 := by kernel_rfl
theorem f16.ok (I : Inp) (F : Nat → Option AFn) (hF : F 16 = some (.code c16)) : SfOk P I F 16 (f16.run I) := by
  intro call hc n args h r hr
  unfold f16.run at hr
  split at hr
  · exact fn_sound (C := ⟨P, I, F⟩) (n := n) hc hF (Nat.le_of_ble_eq_true (by kernel_rfl)) (by kernel_rfl) (f16.S I F call) (by kernel_rfl) ((f16.qe I call n _ h).symm.trans hr)
  · cases hr
/-! haruspex/haruspexref8.Nowhere -/
noncomputable def c17 : AFunc := (AFunc.mk 2 0 [(.cellN 0 3)] (.seq (.region [(S 0 (.alloc [(Z 0), (Z 0), (Z 0)]) .none)]) (.seq (.region [(S 1 (.build [(Z 0), (Z 0), (Z 0)] [(0, (1, (.val (.int .i64 (.negSucc 0)))))]) .none), (AOper.mk .none (.store 3 (T 0) (T 1)) .none)]) .ret)))
abbrev f17.Js : Type := Unit
noncomputable def f17.e (I : Inp) (call : CallFn) (j : f17.Js) (h : AHeap) : Rs :=
  bnd (sAlloc [(Z 0), (Z 0), (Z 0)] h) fun v0 h1 =>
  bndP (pBuild [(Z 0), (Z 0), (Z 0)] [(0, 1, (.int .i64 (.negSucc 0)))]) fun v1 =>
  bnd (sStore 3 v0 v1 h1) fun _ h2 =>
  sRet (sCons (sResN I 3 v0 h2) (some [])) h2
theorem f17.S (I : Inp) (F : Nat → Option AFn) (call : CallFn) : SFn ⟨P, I, F⟩ call c17 (fun _ _ _ _ => none) :=
  ⟨fun _ _ _ _ => rfl, fun n id hid => absurd hid (by rw [show c17.body.cnt = 0 by kernel_rfl]; omega)⟩
noncomputable def f17.run (I : Inp) : SF := fun call n a h =>
  match a with
  | [] => f17.e I call () h
  | _ => none
theorem f17.qe (I : Inp) (call : CallFn) (n : Nat) (h : AHeap) : f17.e I call () h = execC P I call (fun _ _ _ => none) c17.body 0 (finV I c17.results) (argV []) h := by kernel_rfl
theorem f17.code : codeOf P 17 = some c17 := by kernel_rfl
theorem f17.ok (I : Inp) (F : Nat → Option AFn) (hF : F 17 = some (.code c17)) : SfOk P I F 17 (f17.run I) := by
  intro call hc n args h r hr
  unfold f17.run at hr
  split at hr
  · exact fn_sound (C := ⟨P, I, F⟩) (n := n) hc hF (Nat.le_of_ble_eq_true (by kernel_rfl)) (by kernel_rfl) (f17.S I F call) (by kernel_rfl) ((f17.qe I call n h).symm.trans hr)
  · cases hr
/-! haruspex/types.Names -/
noncomputable def c20 : AFunc := (AFunc.mk 61 1 [(.tmp 2)] (.seq (.region [(S 1 (.box (T 0)) .none), (S 2 (.move (.val .nili)) .none)]) (.seq (.region [(S 7 (.call 45 []) .none), (S 8 (.call 44 [(V 3), (T 7), (.val .nili)]) .none), (M 3 8)]) (.seq (.seq (.region [(S 9 (.load1 (T 1)) .none), (S 10 (.call 26 [(T 9)]) .none), (S 11 (.un .not (T 10)) .none)]) (.cond (T 11) (.seq (.region [(M 12 3), (M 2 12)]) .ret) .skip)) (.seq (.seq (.region [(S 13 (.load1 (T 1)) .none), (S 14 (.nilCheck (T 13)) .none), (S 15 (.fieldAddr 4 (T 14)) .none), (S 16 (.load1 (T 15)) .none), (S 17 (.lenSl (T 16)) .none), (S 18 (.move (V 0)) .none)]) (.block 0 (.loop (.seq (.region [(S 19 (.bin .lss (T 18) (T 17)) .none)]) (.seq (.cond (T 19) .skip (.exit 0)) (.seq (.block 1 (.seq (.region [(M 20 18), (S 21 (.indexAddr 3 (T 16) (T 18)) .none), (S 22 (.loadN 3 (T 21)) .none), (S 5 (.alloc [(Z 0), .nils, .nils]) .none), (M 4 20), (AOper.mk .none (.store 3 (T 5) (T 22)) .none)]) (.seq (.seq (.draw [(S 23 (.fieldAddr 0 (T 5)) .none), (S 24 (.load1 (T 23)) .none), (S 25 (.load1 (T 1)) .none), (S 26 (.nilCheck (T 25)) .none), (S 27 (.fieldAddr 1 (T 26)) .none), (S 28 (.load1 (T 27)) .none), (S 29 (.lenSl (T 28)) .none), (S 30 (.call 25 [(T 24), (T 29)]) .none), (S 31 (.un .not (T 30)) .none), (M 32 31), (S 33 (.load1 (T 1)) (.some (32, .false))), (S 34 (.fieldAddr 1 (T 5)) (.some (32, .false))), (S 35 (.load1 (T 34)) (.some (32, .false))), (S 36 (.call 27 [(T 33), (T 35)]) (.some (32, .false))), (S 37 (.un .not (T 36)) (.some (32, .false))), (S 38 (.pick (T 32) (.val (.bool .true)) (T 37)) .none)] [N, N, N, N, N, N, N, Y, N, N, N, N, N, Y, N, N] 0) (.cond (T 38) (.seq (.region [(M 39 3), (M 2 39)]) .ret) .skip)) (.seq (.region [(S 40 (.load1 (T 1)) .none), (M 41 4), (S 42 (.mkFunc (.func 47) [] [(T 1), (T 5)]) .none), (S 43 (.mkFunc (.func 48) [] [(T 5)]) .none), (S 44 (.call 46 [(T 40), (V 3), (T 41), (T 42), (T 43)]) .none), (M 6 44)]) (.seq (.region [(M 45 6), (S 46 (.eq .true .iface .true (T 45) (.val .nili)) .none)]) (.cond (T 46) (.seq (.region [(M 47 6), (M 2 47)]) .ret) .skip)))))) (.region [(S 48 (.bin .add (T 18) (V 1)) .none), (M 18 48)]))))))) (.seq (.seq (.draw [(S 49 (.load1 (T 1)) .none), (S 50 (.nilCheck (T 49)) .none), (S 51 (.fieldAddr 5 (T 50)) .none), (S 52 (.load1 (T 51)) .none), (S 53 (.load1 (T 1)) .none), (S 54 (.nilCheck (T 53)) .none), (S 55 (.fieldAddr 4 (T 54)) .none), (S 56 (.load1 (T 55)) .none), (S 57 (.lenSl (T 56)) .none), (S 58 (.call 25 [(T 52), (T 57)]) .none), (S 59 (.un .not (T 58)) .none)] [N, N, N, N, N, N, N, N, N, Y, N] 0) (.cond (T 59) (.seq (.region [(M 60 3), (M 2 60)]) .ret) .skip)) (.seq (.region [(S 2 (.move (.val .nili)) .none)]) .ret)))))))
abbrev f20.Js : Type := (((AVal → AVal → AHeap → Rs) × ((AVal → AVal → AHeap → Rs) × (AVal → AVal → AVal → AVal → AVal → AHeap → Rs))) × (((AVal → AVal → AVal → AVal → AVal → AHeap → Rs) × (AVal → AVal → AVal → AVal → AVal → AHeap → Rs)) × ((AVal → AVal → AVal → AVal → AVal → AVal → AVal → AHeap → Rs) × (AHeap → Rs))))
noncomputable def f20.b0 (I : Inp) (call : CallFn) (j : f20.Js) (v1 v3 : AVal) (h : AHeap) : Rs :=
  bndP (pLoad1 I v1 h) fun v13 =>
  bndP (pNilCheck v13) fun v14 =>
  bndP (pFieldAddr 4 v14) fun v15 =>
  bndP (pLoad1 I v15 h) fun v16 =>
  bndP (pLenSl v16) fun v17 =>
  j.1.2.2 v1 v3 v16 v17 (Z 0) h
noncomputable def f20.b1 (I : Inp) (call : CallFn) (j : f20.Js) (v1 v3 : AVal) (h : AHeap) : Rs :=
  bndP (pLoad1 I v1 h) fun v49 =>
  bndP (pNilCheck v49) fun v50 =>
  bndP (pFieldAddr 5 v50) fun v51 =>
  bndP (pLoad1 I v51 h) fun v52 =>
  bndP (pLoad1 I v1 h) fun v53 =>
  bndP (pNilCheck v53) fun v54 =>
  bndP (pFieldAddr 4 v54) fun v55 =>
  bndP (pLoad1 I v55 h) fun v56 =>
  bndP (pLenSl v56) fun v57 =>
  bnd (call 25 [v52, v57] h) fun v58 h1 =>
  bndP (pUn .not v58) fun v59 =>
  sCond v59 (
  j.2.2.2 h1) (
  some (v3, h1))
noncomputable def f20.b2 (I : Inp) (call : CallFn) (j : f20.Js) (v1 v3 v16 v17 v18 : AVal) (h : AHeap) : Rs :=
  bndP (pBin .lss v18 v17) fun v19 =>
  sCond v19 (
  j.1.2.1 v1 v3 h) (
  j.2.1.1 v1 v3 v16 v17 v18 h)
noncomputable def f20.b3 (I : Inp) (call : CallFn) (j : f20.Js) (v1 v3 v16 v17 v18 : AVal) (h : AHeap) : Rs :=
  bndP (pIndexAddr 3 v16 v18) fun v21 =>
  bndP (pLoadN I 3 v21 h) fun v22 =>
  bnd (sAlloc [(Z 0), .nils, .nils] h) fun v5 h1 =>
  bnd (sStore 3 v5 v22 h1) fun _ h2 =>
  bndP (pFieldAddr 0 v5) fun v23 =>
  bndP (pLoad1 I v23 h2) fun v24 =>
  bndP (pLoad1 I v1 h2) fun v25 =>
  bndP (pNilCheck v25) fun v26 =>
  bndP (pFieldAddr 1 v26) fun v27 =>
  bndP (pLoad1 I v27 h2) fun v28 =>
  bndP (pLenSl v28) fun v29 =>
  bnd (call 25 [v24, v29] h2) fun v30 h3 =>
  bndP (pUn .not v30) fun v31 =>
  bnd (sGuard v31 .false (lift (pLoad1 I v1 h3) h3) h3) fun v33 h4 =>
  bnd (sGuard v31 .false (lift (pFieldAddr 1 v5) h4) h4) fun v34 h5 =>
  bnd (sGuard v31 .false (lift (pLoad1 I v34 h5) h5) h5) fun v35 h6 =>
  bnd (sGuard v31 .false (call 27 [v33, v35] h6) h6) fun v36 h7 =>
  bnd (sGuard v31 .false (lift (pUn .not v36) h7) h7) fun v37 h8 =>
  bndP (pPick v31 (.bool .true) v37) fun v38 =>
  sCond v38 (
  j.2.2.1 v1 v3 v18 v5 v16 v17 v18 h8) (
  some (v3, h8))
noncomputable def f20.b4 (I : Inp) (call : CallFn) (j : f20.Js) (v1 v3 v16 v17 v18 : AVal) (h : AHeap) : Rs :=
  bndP (pBin .add v18 (Z 1)) fun v48 =>
  j.1.2.2 v1 v3 v16 v17 v48 h
noncomputable def f20.b5 (I : Inp) (call : CallFn) (j : f20.Js) (v1 v3 v4 v5 v16 v17 v18 : AVal) (h : AHeap) : Rs :=
  bndP (pLoad1 I v1 h) fun v40 =>
  bnd (call 46 [v40, (Z 3), v4, (.func (.func 47) [] [v1, v5]), (.func (.func 48) [] [v5])] h) fun v44 h1 =>
  bndP (pEq P .true .iface .true v44 .nili h1) fun v46 =>
  sCond v46 (
  j.2.1.2 v1 v3 v16 v17 v18 h1) (
  some (v44, h1))
noncomputable def f20.b6 (I : Inp) (call : CallFn) (j : f20.Js) (h : AHeap) : Rs :=
  some (.nili, h)
noncomputable def f20.e (I : Inp) (call : CallFn) (j : f20.Js) (v0 : AVal) (h : AHeap) : Rs :=
  bnd (sBox v0 h) fun v1 h1 =>
  bnd (call 45 [] h1) fun v7 h2 =>
  bnd (call 44 [(Z 3), v7, .nili] h2) fun v8 h3 =>
  bndP (pLoad1 I v1 h3) fun v9 =>
  bnd (call 26 [v9] h3) fun v10 h4 =>
  bndP (pUn .not v10) fun v11 =>
  sCond v11 (
  j.1.1 v1 v8 h4) (
  some (v8, h4))
noncomputable def f20.J (I : Inp) (call : CallFn) (n : Nat) : f20.Js :=
  Nat.rec (motive := fun _ => f20.Js) (((fun _ _ _ => none), ((fun _ _ _ => none), (fun _ _ _ _ _ _ => none))), (((fun _ _ _ _ _ _ => none), (fun _ _ _ _ _ _ => none)), ((fun _ _ _ _ _ _ _ _ => none), (fun _ => none)))) (fun _ ih => ((f20.b0 I call ih, (f20.b1 I call ih, f20.b2 I call ih)), ((f20.b3 I call ih, f20.b4 I call ih), (f20.b5 I call ih, f20.b6 I call ih)))) n
noncomputable def f20.JS (I : Inp) (call : CallFn) (n : Nat) : Jmp := fun id ρ h =>
  (Bool.rec (motive := fun _ => _) (Bool.rec (motive := fun _ => _) (Bool.rec (motive := fun _ => _) ((f20.J I call n).2.2.2 h) ((f20.J I call n).2.2.1 (ρ 1) (ρ 3) (ρ 4) (ρ 5) (ρ 16) (ρ 17) (ρ 18) h) (Nat.blt id 6)) (Bool.rec (motive := fun _ => _) ((f20.J I call n).2.1.2 (ρ 1) (ρ 3) (ρ 16) (ρ 17) (ρ 18) h) ((f20.J I call n).2.1.1 (ρ 1) (ρ 3) (ρ 16) (ρ 17) (ρ 18) h) (Nat.blt id 4)) (Nat.blt id 5)) (Bool.rec (motive := fun _ => _) (Bool.rec (motive := fun _ => _) ((f20.J I call n).1.2.2 (ρ 1) (ρ 3) (ρ 16) (ρ 17) (ρ 18) h) ((f20.J I call n).1.2.1 (ρ 1) (ρ 3) h) (Nat.blt id 2)) ((f20.J I call n).1.1 (ρ 1) (ρ 3) h) (Nat.blt id 1)) (Nat.blt id 3))
theorem f20.z0 (I : Inp) (call : CallFn) (ρ : Fun) (h : AHeap) : f20.JS I call 0 0 ρ h = none := rfl
theorem f20.z1 (I : Inp) (call : CallFn) (ρ : Fun) (h : AHeap) : f20.JS I call 0 1 ρ h = none := rfl
theorem f20.z2 (I : Inp) (call : CallFn) (ρ : Fun) (h : AHeap) : f20.JS I call 0 2 ρ h = none := rfl
theorem f20.z3 (I : Inp) (call : CallFn) (ρ : Fun) (h : AHeap) : f20.JS I call 0 3 ρ h = none := rfl
theorem f20.z4 (I : Inp) (call : CallFn) (ρ : Fun) (h : AHeap) : f20.JS I call 0 4 ρ h = none := rfl
theorem f20.z5 (I : Inp) (call : CallFn) (ρ : Fun) (h : AHeap) : f20.JS I call 0 5 ρ h = none := rfl
theorem f20.z6 (I : Inp) (call : CallFn) (ρ : Fun) (h : AHeap) : f20.JS I call 0 6 ρ h = none := rfl
theorem f20.q0 (I : Inp) (call : CallFn) (n : Nat) (ρ : Fun) (h : AHeap) : f20.JS I call (n + 1) 0 ρ h = labC P I call (f20.JS I call n) c20.body 0 (finV I c20.results) 0 ρ h := by kernel_rfl
theorem f20.q1 (I : Inp) (call : CallFn) (n : Nat) (ρ : Fun) (h : AHeap) : f20.JS I call (n + 1) 1 ρ h = labC P I call (f20.JS I call n) c20.body 0 (finV I c20.results) 1 ρ h := by kernel_rfl
theorem f20.q2 (I : Inp) (call : CallFn) (n : Nat) (ρ : Fun) (h : AHeap) : f20.JS I call (n + 1) 2 ρ h = labC P I call (f20.JS I call n) c20.body 0 (finV I c20.results) 2 ρ h := by kernel_rfl
theorem f20.q3 (I : Inp) (call : CallFn) (n : Nat) (ρ : Fun) (h : AHeap) : f20.JS I call (n + 1) 3 ρ h = labC P I call (f20.JS I call n) c20.body 0 (finV I c20.results) 3 ρ h := by kernel_rfl
theorem f20.q4 (I : Inp) (call : CallFn) (n : Nat) (ρ : Fun) (h : AHeap) : f20.JS I call (n + 1) 4 ρ h = labC P I call (f20.JS I call n) c20.body 0 (finV I c20.results) 4 ρ h := by kernel_rfl
theorem f20.q5 (I : Inp) (call : CallFn) (n : Nat) (ρ : Fun) (h : AHeap) : f20.JS I call (n + 1) 5 ρ h = labC P I call (f20.JS I call n) c20.body 0 (finV I c20.results) 5 ρ h := by kernel_rfl
theorem f20.q6 (I : Inp) (call : CallFn) (n : Nat) (ρ : Fun) (h : AHeap) : f20.JS I call (n + 1) 6 ρ h = labC P I call (f20.JS I call n) c20.body 0 (finV I c20.results) 6 ρ h := by kernel_rfl
theorem f20.S (I : Inp) (F : Nat → Option AFn) (call : CallFn) : SFn ⟨P, I, F⟩ call c20 (f20.JS I call) :=
  ⟨fun id hid ρ h => by
    have hc : c20.body.cnt = 7 := by kernel_rfl
    rw [hc] at hid
    exact match id, hid with
    | 0, _ => f20.z0 I call ρ h
    | 1, _ => f20.z1 I call ρ h
    | 2, _ => f20.z2 I call ρ h
    | 3, _ => f20.z3 I call ρ h
    | 4, _ => f20.z4 I call ρ h
    | 5, _ => f20.z5 I call ρ h
    | 6, _ => f20.z6 I call ρ h
    | id + 7, hid => absurd hid (by omega), fun n id hid ρ h => by
    have hc : c20.body.cnt = 7 := by kernel_rfl
    rw [hc] at hid
    exact match id, hid with
    | 0, _ => f20.q0 I call n ρ h
    | 1, _ => f20.q1 I call n ρ h
    | 2, _ => f20.q2 I call n ρ h
    | 3, _ => f20.q3 I call n ρ h
    | 4, _ => f20.q4 I call n ρ h
    | 5, _ => f20.q5 I call n ρ h
    | 6, _ => f20.q6 I call n ρ h
    | id + 7, hid => absurd hid (by omega)⟩
noncomputable def f20.run (I : Inp) : SF := fun call n a h =>
  match a with
  | [v0] => f20.e I call (f20.J I call n) v0 h
  | _ => none
theorem f20.qe (I : Inp) (call : CallFn) (n : Nat) (v0 : AVal) (h : AHeap) : f20.e I call (f20.J I call n) v0 h = execC P I call (f20.JS I call n) c20.body 0 (finV I c20.results) (argV [v0]) h := by kernel_rfl
theorem f20.code : codeOf P 20 = some c20 := by kernel_rfl
theorem f20.ok (I : Inp) (F : Nat → Option AFn) (hF : F 20 = some (.code c20)) : SfOk P I F 20 (f20.run I) := by
  intro call hc n args h r hr
  unfold f20.run at hr
  split at hr
  · exact fn_sound (C := ⟨P, I, F⟩) (n := n) hc hF (Nat.le_of_ble_eq_true (by kernel_rfl)) (by kernel_rfl) (f20.S I F call) (by kernel_rfl) ((f20.qe I call n _ h).symm.trans hr)
  · cases hr
/-! haruspex/types.Check -/
noncomputable def c23 : AFunc := (AFunc.mk 71 1 [(.tmp 2)] (.seq (.region [(S 1 (.box (T 0)) .none), (S 2 (.move (.val .nili)) .none)]) (.seq (.region [(S 9 (.call 45 []) .none), (S 10 (.call 44 [(V 4), (T 9), (.val .nili)]) .none), (M 3 10)]) (.seq (.seq (.region [(S 11 (.load1 (T 1)) .none), (S 12 (.nilCheck (T 11)) .none), (S 13 (.fieldAddr 4 (T 12)) .none), (S 14 (.load1 (T 13)) .none), (S 15 (.lenSl (T 14)) .none), (S 16 (.move (V 0)) .none)]) (.block 0 (.loop (.seq (.region [(S 17 (.bin .lss (T 16) (T 15)) .none)]) (.seq (.cond (T 17) .skip (.exit 0)) (.seq (.block 1 (.seq (.region [(S 18 (.indexAddr 3 (T 14) (T 16)) .none), (S 19 (.loadN 3 (T 18)) .none), (S 5 (.alloc [(Z 0), .nils, .nils]) .none), (AOper.mk .none (.store 3 (T 5) (T 19)) .none)]) (.seq (.region [(S 20 (.load1 (T 1)) .none), (S 21 (.loadN 3 (T 5)) .none), (S 22 (.call 52 [(T 20), (T 21)]) .none), (S 23 (.un .not (T 22)) .none)]) (.cond (T 23) (.seq (.region [(M 24 3), (M 2 24)]) .ret) .skip)))) (.region [(S 25 (.bin .add (T 16) (V 1)) .none), (M 16 25)]))))))) (.seq (.seq (.region [(S 26 (.load1 (T 1)) .none), (S 27 (.nilCheck (T 26)) .none), (S 28 (.fieldAddr 4 (T 27)) .none), (S 29 (.load1 (T 28)) .none), (S 30 (.lenSl (T 29)) .none), (S 31 (.move (V 0)) .none)]) (.block 2 (.loop (.seq (.region [(S 32 (.bin .lss (T 31) (T 30)) .none)]) (.seq (.cond (T 32) .skip (.exit 2)) (.seq (.block 3 (.seq (.region [(M 33 31), (M 6 33)]) (.seq (.region [(S 34 (.load1 (T 1)) .none), (M 35 6), (S 36 (.mkFunc (.func 53) [] [(T 1)]) .none), (S 37 (.mkFunc (.func 54) [] [(T 1)]) .none), (S 38 (.call 46 [(T 34), (V 4), (T 35), (T 36), (T 37)]) .none), (M 7 38)]) (.seq (.region [(M 39 7), (S 40 (.eq .true .iface .true (T 39) (.val .nili)) .none)]) (.cond (T 40) (.seq (.region [(M 41 7), (M 2 41)]) .ret) .skip))))) (.region [(S 42 (.bin .add (T 31) (V 1)) .none), (M 31 42)]))))))) (.seq (.seq (.draw [(S 43 (.load1 (T 1)) .none), (S 44 (.nilCheck (T 43)) .none), (S 45 (.fieldAddr 1 (T 44)) .none), (S 46 (.load1 (T 45)) .none), (S 47 (.load1 (T 1)) .none), (S 48 (.nilCheck (T 47)) .none), (S 49 (.fieldAddr 4 (T 48)) .none), (S 50 (.load1 (T 49)) .none), (S 51 (.load1 (T 1)) .none), (S 52 (.nilCheck (T 51)) .none), (S 53 (.fieldAddr 5 (T 52)) .none), (S 54 (.load1 (T 53)) .none), (S 55 (.indexAddr 3 (T 50) (T 54)) .none), (S 56 (.fieldAddr 0 (T 55)) .none), (S 57 (.load1 (T 56)) .none), (S 58 (.indexAddr 3 (T 46) (T 57)) .none), (S 59 (.loadN 3 (T 58)) .none), (S 8 (.alloc [.nils, (Z 0), (Z 0)]) .none), (AOper.mk .none (.store 3 (T 8) (T 59)) .none)] [(.false, [1]), N, N, (.false, [1]), (.false, [1]), N, N, (.false, [1]), (.false, [1]), N, N, (.false, [1]), N, N, (.false, [1]), N, (.false, [1]), Y, Y] 0) (.seq (.region [(S 60 (.fieldAddr 0 (T 8)) .none), (S 61 (.load1 (T 60)) .none), (S 62 (.lenSl (T 61)) .none), (S 63 (.bin .gtr (T 62) (V 0)) .none), (M 64 63), (S 65 (.fieldAddr 1 (T 8)) (.some (64, .false))), (S 66 (.fieldAddr 0 (T 65)) (.some (64, .false))), (S 67 (.load1 (T 66)) (.some (64, .false))), (S 68 (.bin .neq (T 67) (V 0)) (.some (64, .false))), (S 69 (.pick (T 64) (.val (.bool .true)) (T 68)) .none)]) (.cond (T 69) (.seq (.region [(M 70 3), (M 2 70)]) .ret) .skip))) (.seq (.region [(S 2 (.move (.val .nili)) .none)]) .ret)))))))
abbrev f23.Js : Type := ((((AVal → AVal → AHeap → Rs) × (AVal → AVal → AVal → AVal → AVal → AHeap → Rs)) × ((AVal → AVal → AVal → AVal → AVal → AHeap → Rs) × (AVal → AVal → AVal → AVal → AVal → AHeap → Rs))) × (((AVal → AVal → AHeap → Rs) × (AVal → AVal → AVal → AVal → AHeap → Rs)) × ((AVal → AVal → AVal → AVal → AHeap → Rs) × ((AVal → AVal → AVal → AVal → AHeap → Rs) × (AHeap → Rs)))))
noncomputable def f23.b0 (I : Inp) (call : CallFn) (j : f23.Js) (v1 v3 : AVal) (h : AHeap) : Rs :=
  bndP (pLoad1 I v1 h) fun v26 =>
  bndP (pNilCheck v26) fun v27 =>
  bndP (pFieldAddr 4 v27) fun v28 =>
  bndP (pLoad1 I v28 h) fun v29 =>
  bndP (pLenSl v29) fun v30 =>
  j.2.1.2 v1 v3 v30 (Z 0) h
noncomputable def f23.b1 (I : Inp) (call : CallFn) (j : f23.Js) (v1 v3 v14 v15 v16 : AVal) (h : AHeap) : Rs :=
  bndP (pBin .lss v16 v15) fun v17 =>
  sCond v17 (
  j.1.1.1 v1 v3 h) (
  j.1.2.1 v1 v3 v14 v15 v16 h)
noncomputable def f23.b2 (I : Inp) (call : CallFn) (j : f23.Js) (v1 v3 v14 v15 v16 : AVal) (h : AHeap) : Rs :=
  bndP (pIndexAddr 3 v14 v16) fun v18 =>
  bndP (pLoadN I 3 v18 h) fun v19 =>
  bnd (sAlloc [(Z 0), .nils, .nils] h) fun v5 h1 =>
  bnd (sStore 3 v5 v19 h1) fun _ h2 =>
  bndP (pLoad1 I v1 h2) fun v20 =>
  bndP (pLoadN I 3 v5 h2) fun v21 =>
  bnd (call 52 [v20, v21] h2) fun v22 h3 =>
  bndP (pUn .not v22) fun v23 =>
  sCond v23 (
  j.1.2.2 v1 v3 v14 v15 v16 h3) (
  some (v3, h3))
noncomputable def f23.b3 (I : Inp) (call : CallFn) (j : f23.Js) (v1 v3 v14 v15 v16 : AVal) (h : AHeap) : Rs :=
  bndP (pBin .add v16 (Z 1)) fun v25 =>
  j.1.1.2 v1 v3 v14 v15 v25 h
noncomputable def f23.b4 (I : Inp) (call : CallFn) (j : f23.Js) (v1 v3 : AVal) (h : AHeap) : Rs :=
  bndP (pLoad1 I v1 h) fun v43 =>
  bndP (pNilCheck v43) fun v44 =>
  bndP (pFieldAddr 1 v44) fun v45 =>
  bndP (pLoad1 I v45 h) fun v46 =>
  bndP (pLoad1 I v1 h) fun v47 =>
  bndP (pNilCheck v47) fun v48 =>
  bndP (pFieldAddr 4 v48) fun v49 =>
  bndP (pLoad1 I v49 h) fun v50 =>
  bndP (pLoad1 I v1 h) fun v51 =>
  bndP (pNilCheck v51) fun v52 =>
  bndP (pFieldAddr 5 v52) fun v53 =>
  bndP (pLoad1 I v53 h) fun v54 =>
  bndP (pIndexAddr 3 v50 v54) fun v55 =>
  bndP (pFieldAddr 0 v55) fun v56 =>
  bndP (pLoad1 I v56 h) fun v57 =>
  bndP (pIndexAddr 3 v46 v57) fun v58 =>
  bndP (pLoadN I 3 v58 h) fun v59 =>
  bnd (sAlloc [.nils, (Z 0), (Z 0)] h) fun v8 h1 =>
  bnd (sStore 3 v8 v59 h1) fun _ h2 =>
  sCheck (sSame (lift (pLoad1 I v1 h1) h1) v43 && true) (
  sCheck (sSame (lift (pLoad1 I v45 h1) h1) v46 && true) (
  sCheck (sSame (lift (pLoad1 I v1 h1) h1) v47 && true) (
  sCheck (sSame (lift (pLoad1 I v49 h1) h1) v50 && true) (
  sCheck (sSame (lift (pLoad1 I v1 h1) h1) v51 && true) (
  sCheck (sSame (lift (pLoad1 I v53 h1) h1) v54 && true) (
  sCheck (sSame (lift (pLoad1 I v56 h1) h1) v57 && true) (
  sCheck (sSame (lift (pLoadN I 3 v58 h1) h1) v59 && true) (
  bndP (pFieldAddr 0 v8) fun v60 =>
  bndP (pLoad1 I v60 h2) fun v61 =>
  bndP (pLenSl v61) fun v62 =>
  bndP (pBin .gtr v62 (Z 0)) fun v63 =>
  bnd (sGuard v63 .false (lift (pFieldAddr 1 v8) h2) h2) fun v65 h3 =>
  bnd (sGuard v63 .false (lift (pFieldAddr 0 v65) h3) h3) fun v66 h4 =>
  bnd (sGuard v63 .false (lift (pLoad1 I v66 h4) h4) h4) fun v67 h5 =>
  bnd (sGuard v63 .false (lift (pBin .neq v67 (Z 0)) h5) h5) fun v68 h6 =>
  bndP (pPick v63 (.bool .true) v68) fun v69 =>
  sCond v69 (
  j.2.2.2.2 h6) (
  some (v3, h6))))))))))
noncomputable def f23.b5 (I : Inp) (call : CallFn) (j : f23.Js) (v1 v3 v30 v31 : AVal) (h : AHeap) : Rs :=
  bndP (pBin .lss v31 v30) fun v32 =>
  sCond v32 (
  j.2.1.1 v1 v3 h) (
  j.2.2.1 v1 v3 v30 v31 h)
noncomputable def f23.b6 (I : Inp) (call : CallFn) (j : f23.Js) (v1 v3 v30 v31 : AVal) (h : AHeap) : Rs :=
  bndP (pLoad1 I v1 h) fun v34 =>
  bnd (call 46 [v34, (Z 4), v31, (.func (.func 53) [] [v1]), (.func (.func 54) [] [v1])] h) fun v38 h1 =>
  bndP (pEq P .true .iface .true v38 .nili h1) fun v40 =>
  sCond v40 (
  j.2.2.2.1 v1 v3 v30 v31 h1) (
  some (v38, h1))
noncomputable def f23.b7 (I : Inp) (call : CallFn) (j : f23.Js) (v1 v3 v30 v31 : AVal) (h : AHeap) : Rs :=
  bndP (pBin .add v31 (Z 1)) fun v42 =>
  j.2.1.2 v1 v3 v30 v42 h
noncomputable def f23.b8 (I : Inp) (call : CallFn) (j : f23.Js) (h : AHeap) : Rs :=
  some (.nili, h)
noncomputable def f23.e (I : Inp) (call : CallFn) (j : f23.Js) (v0 : AVal) (h : AHeap) : Rs :=
  bnd (sBox v0 h) fun v1 h1 =>
  bnd (call 45 [] h1) fun v9 h2 =>
  bnd (call 44 [(Z 4), v9, .nili] h2) fun v10 h3 =>
  bndP (pLoad1 I v1 h3) fun v11 =>
  bndP (pNilCheck v11) fun v12 =>
  bndP (pFieldAddr 4 v12) fun v13 =>
  bndP (pLoad1 I v13 h3) fun v14 =>
  bndP (pLenSl v14) fun v15 =>
  j.1.1.2 v1 v10 v14 v15 (Z 0) h3
noncomputable def f23.J (I : Inp) (call : CallFn) (n : Nat) : f23.Js :=
  Nat.rec (motive := fun _ => f23.Js) ((((fun _ _ _ => none), (fun _ _ _ _ _ _ => none)), ((fun _ _ _ _ _ _ => none), (fun _ _ _ _ _ _ => none))), (((fun _ _ _ => none), (fun _ _ _ _ _ => none)), ((fun _ _ _ _ _ => none), ((fun _ _ _ _ _ => none), (fun _ => none))))) (fun _ ih => (((f23.b0 I call ih, f23.b1 I call ih), (f23.b2 I call ih, f23.b3 I call ih)), ((f23.b4 I call ih, f23.b5 I call ih), (f23.b6 I call ih, (f23.b7 I call ih, f23.b8 I call ih))))) n
noncomputable def f23.JS (I : Inp) (call : CallFn) (n : Nat) : Jmp := fun id ρ h =>
  (Bool.rec (motive := fun _ => _) (Bool.rec (motive := fun _ => _) (Bool.rec (motive := fun _ => _) (Bool.rec (motive := fun _ => _) ((f23.J I call n).2.2.2.2 h) ((f23.J I call n).2.2.2.1 (ρ 1) (ρ 3) (ρ 30) (ρ 31) h) (Nat.blt id 8)) ((f23.J I call n).2.2.1 (ρ 1) (ρ 3) (ρ 30) (ρ 31) h) (Nat.blt id 7)) (Bool.rec (motive := fun _ => _) ((f23.J I call n).2.1.2 (ρ 1) (ρ 3) (ρ 30) (ρ 31) h) ((f23.J I call n).2.1.1 (ρ 1) (ρ 3) h) (Nat.blt id 5)) (Nat.blt id 6)) (Bool.rec (motive := fun _ => _) (Bool.rec (motive := fun _ => _) ((f23.J I call n).1.2.2 (ρ 1) (ρ 3) (ρ 14) (ρ 15) (ρ 16) h) ((f23.J I call n).1.2.1 (ρ 1) (ρ 3) (ρ 14) (ρ 15) (ρ 16) h) (Nat.blt id 3)) (Bool.rec (motive := fun _ => _) ((f23.J I call n).1.1.2 (ρ 1) (ρ 3) (ρ 14) (ρ 15) (ρ 16) h) ((f23.J I call n).1.1.1 (ρ 1) (ρ 3) h) (Nat.blt id 1)) (Nat.blt id 2)) (Nat.blt id 4))
theorem f23.z0 (I : Inp) (call : CallFn) (ρ : Fun) (h : AHeap) : f23.JS I call 0 0 ρ h = none := rfl
theorem f23.z1 (I : Inp) (call : CallFn) (ρ : Fun) (h : AHeap) : f23.JS I call 0 1 ρ h = none := rfl
theorem f23.z2 (I : Inp) (call : CallFn) (ρ : Fun) (h : AHeap) : f23.JS I call 0 2 ρ h = none := rfl
theorem f23.z3 (I : Inp) (call : CallFn) (ρ : Fun) (h : AHeap) : f23.JS I call 0 3 ρ h = none := rfl
theorem f23.z4 (I : Inp) (call : CallFn) (ρ : Fun) (h : AHeap) : f23.JS I call 0 4 ρ h = none := rfl
theorem f23.z5 (I : Inp) (call : CallFn) (ρ : Fun) (h : AHeap) : f23.JS I call 0 5 ρ h = none := rfl
theorem f23.z6 (I : Inp) (call : CallFn) (ρ : Fun) (h : AHeap) : f23.JS I call 0 6 ρ h = none := rfl
theorem f23.z7 (I : Inp) (call : CallFn) (ρ : Fun) (h : AHeap) : f23.JS I call 0 7 ρ h = none := rfl
theorem f23.z8 (I : Inp) (call : CallFn) (ρ : Fun) (h : AHeap) : f23.JS I call 0 8 ρ h = none := rfl
theorem f23.q0 (I : Inp) (call : CallFn) (n : Nat) (ρ : Fun) (h : AHeap) : f23.JS I call (n + 1) 0 ρ h = labC P I call (f23.JS I call n) c23.body 0 (finV I c23.results) 0 ρ h := by kernel_rfl
theorem f23.q1 (I : Inp) (call : CallFn) (n : Nat) (ρ : Fun) (h : AHeap) : f23.JS I call (n + 1) 1 ρ h = labC P I call (f23.JS I call n) c23.body 0 (finV I c23.results) 1 ρ h := by kernel_rfl
theorem f23.q2 (I : Inp) (call : CallFn) (n : Nat) (ρ : Fun) (h : AHeap) : f23.JS I call (n + 1) 2 ρ h = labC P I call (f23.JS I call n) c23.body 0 (finV I c23.results) 2 ρ h := by kernel_rfl
theorem f23.q3 (I : Inp) (call : CallFn) (n : Nat) (ρ : Fun) (h : AHeap) : f23.JS I call (n + 1) 3 ρ h = labC P I call (f23.JS I call n) c23.body 0 (finV I c23.results) 3 ρ h := by kernel_rfl
theorem f23.q4 (I : Inp) (call : CallFn) (n : Nat) (ρ : Fun) (h : AHeap) : f23.JS I call (n + 1) 4 ρ h = labC P I call (f23.JS I call n) c23.body 0 (finV I c23.results) 4 ρ h := by kernel_rfl
theorem f23.q5 (I : Inp) (call : CallFn) (n : Nat) (ρ : Fun) (h : AHeap) : f23.JS I call (n + 1) 5 ρ h = labC P I call (f23.JS I call n) c23.body 0 (finV I c23.results) 5 ρ h := by kernel_rfl
theorem f23.q6 (I : Inp) (call : CallFn) (n : Nat) (ρ : Fun) (h : AHeap) : f23.JS I call (n + 1) 6 ρ h = labC P I call (f23.JS I call n) c23.body 0 (finV I c23.results) 6 ρ h := by kernel_rfl
theorem f23.q7 (I : Inp) (call : CallFn) (n : Nat) (ρ : Fun) (h : AHeap) : f23.JS I call (n + 1) 7 ρ h = labC P I call (f23.JS I call n) c23.body 0 (finV I c23.results) 7 ρ h := by kernel_rfl
theorem f23.q8 (I : Inp) (call : CallFn) (n : Nat) (ρ : Fun) (h : AHeap) : f23.JS I call (n + 1) 8 ρ h = labC P I call (f23.JS I call n) c23.body 0 (finV I c23.results) 8 ρ h := by kernel_rfl
theorem f23.S (I : Inp) (F : Nat → Option AFn) (call : CallFn) : SFn ⟨P, I, F⟩ call c23 (f23.JS I call) :=
  ⟨fun id hid ρ h => by
    have hc : c23.body.cnt = 9 := by kernel_rfl
    rw [hc] at hid
    exact match id, hid with
    | 0, _ => f23.z0 I call ρ h
    | 1, _ => f23.z1 I call ρ h
    | 2, _ => f23.z2 I call ρ h
    | 3, _ => f23.z3 I call ρ h
    | 4, _ => f23.z4 I call ρ h
    | 5, _ => f23.z5 I call ρ h
    | 6, _ => f23.z6 I call ρ h
    | 7, _ => f23.z7 I call ρ h
    | 8, _ => f23.z8 I call ρ h
    | id + 9, hid => absurd hid (by omega), fun n id hid ρ h => by
    have hc : c23.body.cnt = 9 := by kernel_rfl
    rw [hc] at hid
    exact match id, hid with
    | 0, _ => f23.q0 I call n ρ h
    | 1, _ => f23.q1 I call n ρ h
    | 2, _ => f23.q2 I call n ρ h
    | 3, _ => f23.q3 I call n ρ h
    | 4, _ => f23.q4 I call n ρ h
    | 5, _ => f23.q5 I call n ρ h
    | 6, _ => f23.q6 I call n ρ h
    | 7, _ => f23.q7 I call n ρ h
    | 8, _ => f23.q8 I call n ρ h
    | id + 9, hid => absurd hid (by omega)⟩
noncomputable def f23.run (I : Inp) : SF := fun call n a h =>
  match a with
  | [v0] => f23.e I call (f23.J I call n) v0 h
  | _ => none
theorem f23.qe (I : Inp) (call : CallFn) (n : Nat) (v0 : AVal) (h : AHeap) : f23.e I call (f23.J I call n) v0 h = execC P I call (f23.JS I call n) c23.body 0 (finV I c23.results) (argV [v0]) h := by kernel_rfl
theorem f23.code : codeOf P 23 = some c23 := by kernel_rfl
theorem f23.ok (I : Inp) (F : Nat → Option AFn) (hF : F 23 = some (.code c23)) : SfOk P I F 23 (f23.run I) := by
  intro call hc n args h r hr
  unfold f23.run at hr
  split at hr
  · exact fn_sound (C := ⟨P, I, F⟩) (n := n) hc hF (Nat.le_of_ble_eq_true (by kernel_rfl)) (by kernel_rfl) (f23.S I F call) (by kernel_rfl) ((f23.qe I call n _ h).symm.trans hr)
  · cases hr
/-! haruspex/refuse.Why -/
noncomputable def c24 : AFunc := (AFunc.mk 12 1 [(.tmp 2)] (.seq (.region [(S 2 (.move (V 0)) .none)]) (.seq (.seq (.region [(M 4 0), (S 5 (.call 56 [(T 4)]) .none), (M 3 5)]) (.seq (.region [(M 6 3), (S 7 (.eq .true .ptr .true (T 6) (.val .nilp)) .none)]) (.cond (T 7) (.seq (.region [(M 8 3), (S 9 (.nilCheck (T 8)) .none), (S 10 (.fieldAddr 0 (T 9)) .none), (S 11 (.load1 (T 10)) .none), (M 2 11)]) .ret) .skip))) (.seq (.region [(S 2 (.move (V 0)) .none)]) .ret))))
abbrev f24.Js : Type := (AHeap → Rs)
noncomputable def f24.b0 (I : Inp) (call : CallFn) (j : f24.Js) (h : AHeap) : Rs :=
  some ((Z 0), h)
noncomputable def f24.e (I : Inp) (call : CallFn) (j : f24.Js) (v0 : AVal) (h : AHeap) : Rs :=
  bnd (call 56 [v0] h) fun v5 h1 =>
  bndP (pEq P .true .ptr .true v5 .nilp h1) fun v7 =>
  sCond v7 (
  j h1) (
  bndP (pNilCheck v5) fun v9 =>
  bndP (pFieldAddr 0 v9) fun v10 =>
  bndP (pLoad1 I v10 h1) fun v11 =>
  some (v11, h1))
noncomputable def f24.J (I : Inp) (call : CallFn) (n : Nat) : f24.Js :=
  Nat.rec (motive := fun _ => f24.Js) (fun _ => none) (fun _ ih => f24.b0 I call ih) n
noncomputable def f24.JS (I : Inp) (call : CallFn) (n : Nat) : Jmp := fun id ρ h =>
  ((f24.J I call n) h)
theorem f24.z0 (I : Inp) (call : CallFn) (ρ : Fun) (h : AHeap) : f24.JS I call 0 0 ρ h = none := rfl
theorem f24.q0 (I : Inp) (call : CallFn) (n : Nat) (ρ : Fun) (h : AHeap) : f24.JS I call (n + 1) 0 ρ h = labC P I call (f24.JS I call n) c24.body 0 (finV I c24.results) 0 ρ h := by kernel_rfl
theorem f24.S (I : Inp) (F : Nat → Option AFn) (call : CallFn) : SFn ⟨P, I, F⟩ call c24 (f24.JS I call) :=
  ⟨fun id hid ρ h => by
    have hc : c24.body.cnt = 1 := by kernel_rfl
    rw [hc] at hid
    exact match id, hid with
    | 0, _ => f24.z0 I call ρ h
    | id + 1, hid => absurd hid (by omega), fun n id hid ρ h => by
    have hc : c24.body.cnt = 1 := by kernel_rfl
    rw [hc] at hid
    exact match id, hid with
    | 0, _ => f24.q0 I call n ρ h
    | id + 1, hid => absurd hid (by omega)⟩
noncomputable def f24.run (I : Inp) : SF := fun call n a h =>
  match a with
  | [v0] => f24.e I call (f24.J I call n) v0 h
  | _ => none
theorem f24.qe (I : Inp) (call : CallFn) (n : Nat) (v0 : AVal) (h : AHeap) : f24.e I call (f24.J I call n) v0 h = execC P I call (f24.JS I call n) c24.body 0 (finV I c24.results) (argV [v0]) h := by kernel_rfl
theorem f24.code : codeOf P 24 = some c24 := by kernel_rfl
theorem f24.ok (I : Inp) (F : Nat → Option AFn) (hF : F 24 = some (.code c24)) : SfOk P I F 24 (f24.run I) := by
  intro call hc n args h r hr
  unfold f24.run at hr
  split at hr
  · exact fn_sound (C := ⟨P, I, F⟩) (n := n) hc hF (Nat.le_of_ble_eq_true (by kernel_rfl)) (by kernel_rfl) (f24.S I F call) (by kernel_rfl) ((f24.qe I call n _ h).symm.trans hr)
  · cases hr
/-! haruspex/types.in -/
noncomputable def c25 : AFunc := (AFunc.mk 12 2 [(.tmp 4)] (.seq (.region [(S 4 (.move (.val (.bool .false))) .none)]) (.seq (.region [(M 5 0), (S 6 (.bin .geq (T 5) (V 0)) .none), (M 7 6), (S 8 (.move (T 0)) (.some (7, .true))), (S 9 (.move (T 1)) (.some (7, .true))), (S 10 (.bin .lss (T 8) (T 9)) (.some (7, .true))), (S 11 (.pick (T 7) (T 10) (.val (.bool .false))) .none), (M 4 11)]) .ret)))
abbrev f25.Js : Type := Unit
noncomputable def f25.e (I : Inp) (call : CallFn) (j : f25.Js) (v0 v1 : AVal) (h : AHeap) : Rs :=
  bndP (pBin .geq v0 (Z 0)) fun v6 =>
  bnd (sGuard v6 .true (some (v0, h)) h) fun v8 h1 =>
  bnd (sGuard v6 .true (some (v1, h1)) h1) fun v9 h2 =>
  bnd (sGuard v6 .true (lift (pBin .lss v8 v9) h2) h2) fun v10 h3 =>
  bndP (pPick v6 v10 (.bool .false)) fun v11 =>
  some (v11, h3)
theorem f25.S (I : Inp) (F : Nat → Option AFn) (call : CallFn) : SFn ⟨P, I, F⟩ call c25 (fun _ _ _ _ => none) :=
  ⟨fun _ _ _ _ => rfl, fun n id hid => absurd hid (by rw [show c25.body.cnt = 0 by kernel_rfl]; omega)⟩
noncomputable def f25.run (I : Inp) : SF := fun call n a h =>
  match a with
  | [v0, v1] => f25.e I call () v0 v1 h
  | _ => none
theorem f25.qe (I : Inp) (call : CallFn) (n : Nat) (v0 v1 : AVal) (h : AHeap) : f25.e I call () v0 v1 h = execC P I call (fun _ _ _ => none) c25.body 0 (finV I c25.results) (argV [v0, v1]) h := by kernel_rfl
theorem f25.code : codeOf P 25 = some c25 := by kernel_rfl
theorem f25.ok (I : Inp) (F : Nat → Option AFn) (hF : F 25 = some (.code c25)) : SfOk P I F 25 (f25.run I) := by
  intro call hc n args h r hr
  unfold f25.run at hr
  split at hr
  · exact fn_sound (C := ⟨P, I, F⟩) (n := n) hc hF (Nat.le_of_ble_eq_true (by kernel_rfl)) (by kernel_rfl) (f25.S I F call) (by kernel_rfl) ((f25.qe I call n _ _ h).symm.trans hr)
  · cases hr
/-! haruspex/types.lists -/
noncomputable def c26 : AFunc := (AFunc.mk 114 1 [(.tmp 2)] (.seq (.region [(S 2 (.move (.val (.bool .false))) .none)]) (.seq (.region [(S 3 (.move (.val (.bool .true))) .none)]) (.seq (.seq (.region [(M 12 0), (S 13 (.nilCheck (T 12)) .none), (S 14 (.fieldAddr 0 (T 13)) .none), (S 15 (.load1 (T 14)) .none), (S 16 (.lenSl (T 15)) .none), (S 17 (.move (V 0)) .none)]) (.block 0 (.loop (.seq (.region [(S 18 (.bin .lss (T 17) (T 16)) .none)]) (.seq (.cond (T 18) .skip (.exit 0)) (.seq (.block 1 (.seq (.region [(S 19 (.indexAddr 1 (T 15) (T 17)) .none), (S 20 (.load1 (T 19)) .none), (M 5 20)]) (.region [(M 21 3), (M 22 21), (S 23 (.move (T 0)) (.some (22, .true))), (S 24 (.move (T 5)) (.some (22, .true))), (S 25 (.call 27 [(T 23), (T 24)]) (.some (22, .true))), (S 26 (.pick (T 22) (T 25) (.val (.bool .false))) .none), (M 3 26)]))) (.region [(S 27 (.bin .add (T 17) (V 1)) .none), (M 17 27)]))))))) (.seq (.seq (.region [(M 28 0), (S 29 (.nilCheck (T 28)) .none), (S 30 (.fieldAddr 1 (T 29)) .none), (S 31 (.load1 (T 30)) .none), (S 32 (.lenSl (T 31)) .none), (S 33 (.move (V 0)) .none)]) (.block 2 (.loop (.seq (.region [(S 34 (.bin .lss (T 33) (T 32)) .none)]) (.seq (.cond (T 34) .skip (.exit 2)) (.seq (.block 3 (.seq (.region [(S 35 (.indexAddr 3 (T 31) (T 33)) .none), (S 36 (.loadN 3 (T 35)) .none), (S 7 (.alloc [.nils, (Z 0), (Z 0)]) .none), (AOper.mk .none (.store 3 (T 7) (T 36)) .none)]) (.region [(M 37 3), (M 38 37), (S 39 (.move (T 0)) (.some (38, .true))), (S 40 (.fieldAddr 0 (T 7)) (.some (38, .true))), (S 41 (.load1 (T 40)) (.some (38, .true))), (S 42 (.call 27 [(T 39), (T 41)]) (.some (38, .true))), (S 43 (.pick (T 38) (T 42) (.val (.bool .false))) .none), (M 44 43), (S 45 (.move (T 0)) (.some (44, .true))), (S 46 (.fieldAddr 1 (T 7)) (.some (44, .true))), (S 47 (.loadN 2 (T 46)) (.some (44, .true))), (S 48 (.call 57 [(T 45), (T 47)]) (.some (44, .true))), (S 49 (.pick (T 44) (T 48) (.val (.bool .false))) .none), (M 3 49)]))) (.region [(S 50 (.bin .add (T 33) (V 1)) .none), (M 33 50)]))))))) (.seq (.seq (.region [(M 51 0), (S 52 (.nilCheck (T 51)) .none), (S 53 (.fieldAddr 2 (T 52)) .none), (S 54 (.load1 (T 53)) .none), (S 55 (.lenSl (T 54)) .none), (S 56 (.move (V 0)) .none)]) (.block 4 (.loop (.seq (.region [(S 57 (.bin .lss (T 56) (T 55)) .none)]) (.seq (.cond (T 57) .skip (.exit 4)) (.seq (.block 5 (.seq (.region [(S 58 (.indexAddr 1 (T 54) (T 56)) .none), (S 59 (.loadN 1 (T 58)) .none), (S 9 (.alloc [.nils]) .none), (AOper.mk .none (.store 1 (T 9) (T 59)) .none)]) (.draw [(M 60 3), (M 61 60), (S 62 (.fieldAddr 0 (T 9)) (.some (61, .true))), (S 63 (.load1 (T 62)) (.some (61, .true))), (S 64 (.move (T 0)) (.some (61, .true))), (S 65 (.nilCheck (T 64)) (.some (61, .true))), (S 66 (.fieldAddr 1 (T 65)) (.some (61, .true))), (S 67 (.load1 (T 66)) (.some (61, .true))), (S 68 (.lenSl (T 67)) (.some (61, .true))), (S 69 (.call 58 [(T 63), (T 68)]) (.some (61, .true))), (S 70 (.pick (T 61) (T 69) (.val (.bool .false))) .none), (M 3 70)] [N, N, N, N, N, N, N, N, N, Y, N, N] 0))) (.region [(S 71 (.bin .add (T 56) (V 1)) .none), (M 56 71)]))))))) (.seq (.seq (.region [(M 72 0), (S 73 (.nilCheck (T 72)) .none), (S 74 (.fieldAddr 3 (T 73)) .none), (S 75 (.load1 (T 74)) .none), (S 76 (.lenSl (T 75)) .none), (S 77 (.move (V 0)) .none)]) (.block 6 (.loop (.seq (.region [(S 78 (.bin .lss (T 77) (T 76)) .none)]) (.seq (.cond (T 78) .skip (.exit 6)) (.seq (.block 7 (.seq (.region [(S 79 (.indexAddr 3 (T 75) (T 77)) .none), (S 80 (.loadN 3 (T 79)) .none), (S 11 (.alloc [(Z 0), (Z 0), .nils]) .none), (AOper.mk .none (.store 3 (T 11) (T 80)) .none)]) (.draw [(M 81 3), (M 82 81), (S 83 (.fieldAddr 0 (T 11)) (.some (82, .true))), (S 84 (.load1 (T 83)) (.some (82, .true))), (S 85 (.move (T 0)) (.some (82, .true))), (S 86 (.nilCheck (T 85)) (.some (82, .true))), (S 87 (.fieldAddr 0 (T 86)) (.some (82, .true))), (S 88 (.load1 (T 87)) (.some (82, .true))), (S 89 (.lenSl (T 88)) (.some (82, .true))), (S 90 (.call 25 [(T 84), (T 89)]) (.some (82, .true))), (S 91 (.pick (T 82) (T 90) (.val (.bool .false))) .none), (M 92 91), (S 93 (.fieldAddr 1 (T 11)) (.some (92, .true))), (S 94 (.load1 (T 93)) (.some (92, .true))), (S 95 (.move (T 0)) (.some (92, .true))), (S 96 (.nilCheck (T 95)) (.some (92, .true))), (S 97 (.fieldAddr 2 (T 96)) (.some (92, .true))), (S 98 (.load1 (T 97)) (.some (92, .true))), (S 99 (.lenSl (T 98)) (.some (92, .true))), (S 100 (.call 25 [(T 94), (T 99)]) (.some (92, .true))), (S 101 (.pick (T 92) (T 100) (.val (.bool .false))) .none), (M 102 101), (S 103 (.fieldAddr 2 (T 11)) (.some (102, .true))), (S 104 (.load1 (T 103)) (.some (102, .true))), (S 105 (.move (T 0)) (.some (102, .true))), (S 106 (.nilCheck (T 105)) (.some (102, .true))), (S 107 (.fieldAddr 4 (T 106)) (.some (102, .true))), (S 108 (.load1 (T 107)) (.some (102, .true))), (S 109 (.lenSl (T 108)) (.some (102, .true))), (S 110 (.call 58 [(T 104), (T 109)]) (.some (102, .true))), (S 111 (.pick (T 102) (T 110) (.val (.bool .false))) .none), (M 3 111)] [N, N, N, N, N, N, N, N, N, Y, N, N, N, N, N, N, N, N, N, Y, N, N, N, N, N, N, N, N, N, Y, N, N] 0))) (.region [(S 112 (.bin .add (T 77) (V 1)) .none), (M 77 112)]))))))) (.seq (.region [(M 113 3), (M 2 113)]) .ret))))))))
abbrev f26.Js : Type := (((((AVal → AVal → AHeap → Rs) × (AVal → AVal → AVal → AVal → AVal → AHeap → Rs)) × ((AVal → AVal → AVal → AVal → AVal → AHeap → Rs) × (AVal → AVal → AVal → AVal → AVal → AHeap → Rs))) × (((AVal → AVal → AHeap → Rs) × (AVal → AVal → AVal → AVal → AVal → AHeap → Rs)) × ((AVal → AVal → AVal → AVal → AVal → AHeap → Rs) × (AVal → AVal → AVal → AVal → AVal → AHeap → Rs)))) × ((((AVal → AVal → AHeap → Rs) × (AVal → AVal → AVal → AVal → AVal → AHeap → Rs)) × ((AVal → AVal → AVal → AVal → AVal → AHeap → Rs) × (AVal → AVal → AVal → AVal → AVal → AHeap → Rs))) × (((AVal → AHeap → Rs) × (AVal → AVal → AVal → AVal → AVal → AHeap → Rs)) × ((AVal → AVal → AVal → AVal → AVal → AHeap → Rs) × (AVal → AVal → AVal → AVal → AVal → AHeap → Rs)))))
noncomputable def f26.b0 (I : Inp) (call : CallFn) (j : f26.Js) (v0 v3 : AVal) (h : AHeap) : Rs :=
  bndP (pNilCheck v0) fun v29 =>
  bndP (pFieldAddr 1 v29) fun v30 =>
  bndP (pLoad1 I v30 h) fun v31 =>
  bndP (pLenSl v31) fun v32 =>
  j.1.2.1.2 v0 v3 v31 v32 (Z 0) h
noncomputable def f26.b1 (I : Inp) (call : CallFn) (j : f26.Js) (v0 v3 v15 v16 v17 : AVal) (h : AHeap) : Rs :=
  bndP (pBin .lss v17 v16) fun v18 =>
  sCond v18 (
  j.1.1.1.1 v0 v3 h) (
  j.1.1.2.1 v0 v3 v15 v16 v17 h)
noncomputable def f26.b2 (I : Inp) (call : CallFn) (j : f26.Js) (v0 v3 v15 v16 v17 : AVal) (h : AHeap) : Rs :=
  bndP (pIndexAddr 1 v15 v17) fun v19 =>
  bndP (pLoad1 I v19 h) fun v20 =>
  bnd (sGuard v3 .true (some (v0, h)) h) fun v23 h1 =>
  bnd (sGuard v3 .true (some (v20, h1)) h1) fun v24 h2 =>
  bnd (sGuard v3 .true (call 27 [v23, v24] h2) h2) fun v25 h3 =>
  bndP (pPick v3 v25 (.bool .false)) fun v26 =>
  j.1.1.2.2 v0 v26 v15 v16 v17 h3
noncomputable def f26.b3 (I : Inp) (call : CallFn) (j : f26.Js) (v0 v3 v15 v16 v17 : AVal) (h : AHeap) : Rs :=
  bndP (pBin .add v17 (Z 1)) fun v27 =>
  j.1.1.1.2 v0 v3 v15 v16 v27 h
noncomputable def f26.b4 (I : Inp) (call : CallFn) (j : f26.Js) (v0 v3 : AVal) (h : AHeap) : Rs :=
  bndP (pNilCheck v0) fun v52 =>
  bndP (pFieldAddr 2 v52) fun v53 =>
  bndP (pLoad1 I v53 h) fun v54 =>
  bndP (pLenSl v54) fun v55 =>
  j.2.1.1.2 v0 v3 v54 v55 (Z 0) h
noncomputable def f26.b5 (I : Inp) (call : CallFn) (j : f26.Js) (v0 v3 v31 v32 v33 : AVal) (h : AHeap) : Rs :=
  bndP (pBin .lss v33 v32) fun v34 =>
  sCond v34 (
  j.1.2.1.1 v0 v3 h) (
  j.1.2.2.1 v0 v3 v31 v32 v33 h)
noncomputable def f26.b6 (I : Inp) (call : CallFn) (j : f26.Js) (v0 v3 v31 v32 v33 : AVal) (h : AHeap) : Rs :=
  bndP (pIndexAddr 3 v31 v33) fun v35 =>
  bndP (pLoadN I 3 v35 h) fun v36 =>
  bnd (sAlloc [.nils, (Z 0), (Z 0)] h) fun v7 h1 =>
  bnd (sStore 3 v7 v36 h1) fun _ h2 =>
  bnd (sGuard v3 .true (some (v0, h2)) h2) fun v39 h3 =>
  bnd (sGuard v3 .true (lift (pFieldAddr 0 v7) h3) h3) fun v40 h4 =>
  bnd (sGuard v3 .true (lift (pLoad1 I v40 h4) h4) h4) fun v41 h5 =>
  bnd (sGuard v3 .true (call 27 [v39, v41] h5) h5) fun v42 h6 =>
  bndP (pPick v3 v42 (.bool .false)) fun v43 =>
  bnd (sGuard v43 .true (some (v0, h6)) h6) fun v45 h7 =>
  bnd (sGuard v43 .true (lift (pFieldAddr 1 v7) h7) h7) fun v46 h8 =>
  bnd (sGuard v43 .true (lift (pLoadN I 2 v46 h8) h8) h8) fun v47 h9 =>
  bnd (sGuard v43 .true (call 57 [v45, v47] h9) h9) fun v48 h10 =>
  bndP (pPick v43 v48 (.bool .false)) fun v49 =>
  j.1.2.2.2 v0 v49 v31 v32 v33 h10
noncomputable def f26.b7 (I : Inp) (call : CallFn) (j : f26.Js) (v0 v3 v31 v32 v33 : AVal) (h : AHeap) : Rs :=
  bndP (pBin .add v33 (Z 1)) fun v50 =>
  j.1.2.1.2 v0 v3 v31 v32 v50 h
noncomputable def f26.b8 (I : Inp) (call : CallFn) (j : f26.Js) (v0 v3 : AVal) (h : AHeap) : Rs :=
  bndP (pNilCheck v0) fun v73 =>
  bndP (pFieldAddr 3 v73) fun v74 =>
  bndP (pLoad1 I v74 h) fun v75 =>
  bndP (pLenSl v75) fun v76 =>
  j.2.2.1.2 v0 v3 v75 v76 (Z 0) h
noncomputable def f26.b9 (I : Inp) (call : CallFn) (j : f26.Js) (v0 v3 v54 v55 v56 : AVal) (h : AHeap) : Rs :=
  bndP (pBin .lss v56 v55) fun v57 =>
  sCond v57 (
  j.2.1.1.1 v0 v3 h) (
  j.2.1.2.1 v0 v3 v54 v55 v56 h)
noncomputable def f26.b10 (I : Inp) (call : CallFn) (j : f26.Js) (v0 v3 v54 v55 v56 : AVal) (h : AHeap) : Rs :=
  bndP (pIndexAddr 1 v54 v56) fun v58 =>
  bndP (pLoadN I 1 v58 h) fun v59 =>
  bnd (sAlloc [.nils] h) fun v9 h1 =>
  bnd (sStore 1 v9 v59 h1) fun _ h2 =>
  bnd (sGuard v3 .true (lift (pFieldAddr 0 v9) h2) h2) fun v62 h3 =>
  bnd (sGuard v3 .true (lift (pLoad1 I v62 h3) h3) h3) fun v63 h4 =>
  bnd (sGuard v3 .true (some (v0, h4)) h4) fun v64 h5 =>
  bnd (sGuard v3 .true (lift (pNilCheck v64) h5) h5) fun v65 h6 =>
  bnd (sGuard v3 .true (lift (pFieldAddr 1 v65) h6) h6) fun v66 h7 =>
  bnd (sGuard v3 .true (lift (pLoad1 I v66 h7) h7) h7) fun v67 h8 =>
  bnd (sGuard v3 .true (lift (pLenSl v67) h8) h8) fun v68 h9 =>
  bnd (sGuard v3 .true (call 58 [v63, v68] h9) h9) fun v69 h10 =>
  bndP (pPick v3 v69 (.bool .false)) fun v70 =>
  j.2.1.2.2 v0 v70 v54 v55 v56 h10
noncomputable def f26.b11 (I : Inp) (call : CallFn) (j : f26.Js) (v0 v3 v54 v55 v56 : AVal) (h : AHeap) : Rs :=
  bndP (pBin .add v56 (Z 1)) fun v71 =>
  j.2.1.1.2 v0 v3 v54 v55 v71 h
noncomputable def f26.b12 (I : Inp) (call : CallFn) (j : f26.Js) (v3 : AVal) (h : AHeap) : Rs :=
  some (v3, h)
noncomputable def f26.b13 (I : Inp) (call : CallFn) (j : f26.Js) (v0 v3 v75 v76 v77 : AVal) (h : AHeap) : Rs :=
  bndP (pBin .lss v77 v76) fun v78 =>
  sCond v78 (
  j.2.2.1.1 v3 h) (
  j.2.2.2.1 v0 v3 v75 v76 v77 h)
noncomputable def f26.b14 (I : Inp) (call : CallFn) (j : f26.Js) (v0 v3 v75 v76 v77 : AVal) (h : AHeap) : Rs :=
  bndP (pIndexAddr 3 v75 v77) fun v79 =>
  bndP (pLoadN I 3 v79 h) fun v80 =>
  bnd (sAlloc [(Z 0), (Z 0), .nils] h) fun v11 h1 =>
  bnd (sStore 3 v11 v80 h1) fun _ h2 =>
  bnd (sGuard v3 .true (lift (pFieldAddr 0 v11) h2) h2) fun v83 h3 =>
  bnd (sGuard v3 .true (lift (pLoad1 I v83 h3) h3) h3) fun v84 h4 =>
  bnd (sGuard v3 .true (some (v0, h4)) h4) fun v85 h5 =>
  bnd (sGuard v3 .true (lift (pNilCheck v85) h5) h5) fun v86 h6 =>
  bnd (sGuard v3 .true (lift (pFieldAddr 0 v86) h6) h6) fun v87 h7 =>
  bnd (sGuard v3 .true (lift (pLoad1 I v87 h7) h7) h7) fun v88 h8 =>
  bnd (sGuard v3 .true (lift (pLenSl v88) h8) h8) fun v89 h9 =>
  bnd (sGuard v3 .true (call 25 [v84, v89] h9) h9) fun v90 h10 =>
  bndP (pPick v3 v90 (.bool .false)) fun v91 =>
  bnd (sGuard v91 .true (lift (pFieldAddr 1 v11) h10) h10) fun v93 h11 =>
  bnd (sGuard v91 .true (lift (pLoad1 I v93 h11) h11) h11) fun v94 h12 =>
  bnd (sGuard v91 .true (some (v0, h12)) h12) fun v95 h13 =>
  bnd (sGuard v91 .true (lift (pNilCheck v95) h13) h13) fun v96 h14 =>
  bnd (sGuard v91 .true (lift (pFieldAddr 2 v96) h14) h14) fun v97 h15 =>
  bnd (sGuard v91 .true (lift (pLoad1 I v97 h15) h15) h15) fun v98 h16 =>
  bnd (sGuard v91 .true (lift (pLenSl v98) h16) h16) fun v99 h17 =>
  bnd (sGuard v91 .true (call 25 [v94, v99] h17) h17) fun v100 h18 =>
  bndP (pPick v91 v100 (.bool .false)) fun v101 =>
  bnd (sGuard v101 .true (lift (pFieldAddr 2 v11) h18) h18) fun v103 h19 =>
  bnd (sGuard v101 .true (lift (pLoad1 I v103 h19) h19) h19) fun v104 h20 =>
  bnd (sGuard v101 .true (some (v0, h20)) h20) fun v105 h21 =>
  bnd (sGuard v101 .true (lift (pNilCheck v105) h21) h21) fun v106 h22 =>
  bnd (sGuard v101 .true (lift (pFieldAddr 4 v106) h22) h22) fun v107 h23 =>
  bnd (sGuard v101 .true (lift (pLoad1 I v107 h23) h23) h23) fun v108 h24 =>
  bnd (sGuard v101 .true (lift (pLenSl v108) h24) h24) fun v109 h25 =>
  bnd (sGuard v101 .true (call 58 [v104, v109] h25) h25) fun v110 h26 =>
  bndP (pPick v101 v110 (.bool .false)) fun v111 =>
  j.2.2.2.2 v0 v111 v75 v76 v77 h26
noncomputable def f26.b15 (I : Inp) (call : CallFn) (j : f26.Js) (v0 v3 v75 v76 v77 : AVal) (h : AHeap) : Rs :=
  bndP (pBin .add v77 (Z 1)) fun v112 =>
  j.2.2.1.2 v0 v3 v75 v76 v112 h
noncomputable def f26.e (I : Inp) (call : CallFn) (j : f26.Js) (v0 : AVal) (h : AHeap) : Rs :=
  bndP (pNilCheck v0) fun v13 =>
  bndP (pFieldAddr 0 v13) fun v14 =>
  bndP (pLoad1 I v14 h) fun v15 =>
  bndP (pLenSl v15) fun v16 =>
  j.1.1.1.2 v0 (.bool .true) v15 v16 (Z 0) h
noncomputable def f26.J (I : Inp) (call : CallFn) (n : Nat) : f26.Js :=
  Nat.rec (motive := fun _ => f26.Js) (((((fun _ _ _ => none), (fun _ _ _ _ _ _ => none)), ((fun _ _ _ _ _ _ => none), (fun _ _ _ _ _ _ => none))), (((fun _ _ _ => none), (fun _ _ _ _ _ _ => none)), ((fun _ _ _ _ _ _ => none), (fun _ _ _ _ _ _ => none)))), ((((fun _ _ _ => none), (fun _ _ _ _ _ _ => none)), ((fun _ _ _ _ _ _ => none), (fun _ _ _ _ _ _ => none))), (((fun _ _ => none), (fun _ _ _ _ _ _ => none)), ((fun _ _ _ _ _ _ => none), (fun _ _ _ _ _ _ => none))))) (fun _ ih => ((((f26.b0 I call ih, f26.b1 I call ih), (f26.b2 I call ih, f26.b3 I call ih)), ((f26.b4 I call ih, f26.b5 I call ih), (f26.b6 I call ih, f26.b7 I call ih))), (((f26.b8 I call ih, f26.b9 I call ih), (f26.b10 I call ih, f26.b11 I call ih)), ((f26.b12 I call ih, f26.b13 I call ih), (f26.b14 I call ih, f26.b15 I call ih))))) n
noncomputable def f26.JS (I : Inp) (call : CallFn) (n : Nat) : Jmp := fun id ρ h =>
  (Bool.rec (motive := fun _ => _) (Bool.rec (motive := fun _ => _) (Bool.rec (motive := fun _ => _) (Bool.rec (motive := fun _ => _) ((f26.J I call n).2.2.2.2 (ρ 0) (ρ 3) (ρ 75) (ρ 76) (ρ 77) h) ((f26.J I call n).2.2.2.1 (ρ 0) (ρ 3) (ρ 75) (ρ 76) (ρ 77) h) (Nat.blt id 15)) (Bool.rec (motive := fun _ => _) ((f26.J I call n).2.2.1.2 (ρ 0) (ρ 3) (ρ 75) (ρ 76) (ρ 77) h) ((f26.J I call n).2.2.1.1 (ρ 3) h) (Nat.blt id 13)) (Nat.blt id 14)) (Bool.rec (motive := fun _ => _) (Bool.rec (motive := fun _ => _) ((f26.J I call n).2.1.2.2 (ρ 0) (ρ 3) (ρ 54) (ρ 55) (ρ 56) h) ((f26.J I call n).2.1.2.1 (ρ 0) (ρ 3) (ρ 54) (ρ 55) (ρ 56) h) (Nat.blt id 11)) (Bool.rec (motive := fun _ => _) ((f26.J I call n).2.1.1.2 (ρ 0) (ρ 3) (ρ 54) (ρ 55) (ρ 56) h) ((f26.J I call n).2.1.1.1 (ρ 0) (ρ 3) h) (Nat.blt id 9)) (Nat.blt id 10)) (Nat.blt id 12)) (Bool.rec (motive := fun _ => _) (Bool.rec (motive := fun _ => _) (Bool.rec (motive := fun _ => _) ((f26.J I call n).1.2.2.2 (ρ 0) (ρ 3) (ρ 31) (ρ 32) (ρ 33) h) ((f26.J I call n).1.2.2.1 (ρ 0) (ρ 3) (ρ 31) (ρ 32) (ρ 33) h) (Nat.blt id 7)) (Bool.rec (motive := fun _ => _) ((f26.J I call n).1.2.1.2 (ρ 0) (ρ 3) (ρ 31) (ρ 32) (ρ 33) h) ((f26.J I call n).1.2.1.1 (ρ 0) (ρ 3) h) (Nat.blt id 5)) (Nat.blt id 6)) (Bool.rec (motive := fun _ => _) (Bool.rec (motive := fun _ => _) ((f26.J I call n).1.1.2.2 (ρ 0) (ρ 3) (ρ 15) (ρ 16) (ρ 17) h) ((f26.J I call n).1.1.2.1 (ρ 0) (ρ 3) (ρ 15) (ρ 16) (ρ 17) h) (Nat.blt id 3)) (Bool.rec (motive := fun _ => _) ((f26.J I call n).1.1.1.2 (ρ 0) (ρ 3) (ρ 15) (ρ 16) (ρ 17) h) ((f26.J I call n).1.1.1.1 (ρ 0) (ρ 3) h) (Nat.blt id 1)) (Nat.blt id 2)) (Nat.blt id 4)) (Nat.blt id 8))
theorem f26.z0 (I : Inp) (call : CallFn) (ρ : Fun) (h : AHeap) : f26.JS I call 0 0 ρ h = none := rfl
theorem f26.z1 (I : Inp) (call : CallFn) (ρ : Fun) (h : AHeap) : f26.JS I call 0 1 ρ h = none := rfl
theorem f26.z2 (I : Inp) (call : CallFn) (ρ : Fun) (h : AHeap) : f26.JS I call 0 2 ρ h = none := rfl
theorem f26.z3 (I : Inp) (call : CallFn) (ρ : Fun) (h : AHeap) : f26.JS I call 0 3 ρ h = none := rfl
theorem f26.z4 (I : Inp) (call : CallFn) (ρ : Fun) (h : AHeap) : f26.JS I call 0 4 ρ h = none := rfl
theorem f26.z5 (I : Inp) (call : CallFn) (ρ : Fun) (h : AHeap) : f26.JS I call 0 5 ρ h = none := rfl
theorem f26.z6 (I : Inp) (call : CallFn) (ρ : Fun) (h : AHeap) : f26.JS I call 0 6 ρ h = none := rfl
theorem f26.z7 (I : Inp) (call : CallFn) (ρ : Fun) (h : AHeap) : f26.JS I call 0 7 ρ h = none := rfl
theorem f26.z8 (I : Inp) (call : CallFn) (ρ : Fun) (h : AHeap) : f26.JS I call 0 8 ρ h = none := rfl
theorem f26.z9 (I : Inp) (call : CallFn) (ρ : Fun) (h : AHeap) : f26.JS I call 0 9 ρ h = none := rfl
theorem f26.z10 (I : Inp) (call : CallFn) (ρ : Fun) (h : AHeap) : f26.JS I call 0 10 ρ h = none := rfl
theorem f26.z11 (I : Inp) (call : CallFn) (ρ : Fun) (h : AHeap) : f26.JS I call 0 11 ρ h = none := rfl
theorem f26.z12 (I : Inp) (call : CallFn) (ρ : Fun) (h : AHeap) : f26.JS I call 0 12 ρ h = none := rfl
theorem f26.z13 (I : Inp) (call : CallFn) (ρ : Fun) (h : AHeap) : f26.JS I call 0 13 ρ h = none := rfl
theorem f26.z14 (I : Inp) (call : CallFn) (ρ : Fun) (h : AHeap) : f26.JS I call 0 14 ρ h = none := rfl
theorem f26.z15 (I : Inp) (call : CallFn) (ρ : Fun) (h : AHeap) : f26.JS I call 0 15 ρ h = none := rfl
theorem f26.q0 (I : Inp) (call : CallFn) (n : Nat) (ρ : Fun) (h : AHeap) : f26.JS I call (n + 1) 0 ρ h = labC P I call (f26.JS I call n) c26.body 0 (finV I c26.results) 0 ρ h := by kernel_rfl
theorem f26.q1 (I : Inp) (call : CallFn) (n : Nat) (ρ : Fun) (h : AHeap) : f26.JS I call (n + 1) 1 ρ h = labC P I call (f26.JS I call n) c26.body 0 (finV I c26.results) 1 ρ h := by kernel_rfl
theorem f26.q2 (I : Inp) (call : CallFn) (n : Nat) (ρ : Fun) (h : AHeap) : f26.JS I call (n + 1) 2 ρ h = labC P I call (f26.JS I call n) c26.body 0 (finV I c26.results) 2 ρ h := by kernel_rfl
theorem f26.q3 (I : Inp) (call : CallFn) (n : Nat) (ρ : Fun) (h : AHeap) : f26.JS I call (n + 1) 3 ρ h = labC P I call (f26.JS I call n) c26.body 0 (finV I c26.results) 3 ρ h := by kernel_rfl
theorem f26.q4 (I : Inp) (call : CallFn) (n : Nat) (ρ : Fun) (h : AHeap) : f26.JS I call (n + 1) 4 ρ h = labC P I call (f26.JS I call n) c26.body 0 (finV I c26.results) 4 ρ h := by kernel_rfl
theorem f26.q5 (I : Inp) (call : CallFn) (n : Nat) (ρ : Fun) (h : AHeap) : f26.JS I call (n + 1) 5 ρ h = labC P I call (f26.JS I call n) c26.body 0 (finV I c26.results) 5 ρ h := by kernel_rfl
theorem f26.q6 (I : Inp) (call : CallFn) (n : Nat) (ρ : Fun) (h : AHeap) : f26.JS I call (n + 1) 6 ρ h = labC P I call (f26.JS I call n) c26.body 0 (finV I c26.results) 6 ρ h := by kernel_rfl
theorem f26.q7 (I : Inp) (call : CallFn) (n : Nat) (ρ : Fun) (h : AHeap) : f26.JS I call (n + 1) 7 ρ h = labC P I call (f26.JS I call n) c26.body 0 (finV I c26.results) 7 ρ h := by kernel_rfl
theorem f26.q8 (I : Inp) (call : CallFn) (n : Nat) (ρ : Fun) (h : AHeap) : f26.JS I call (n + 1) 8 ρ h = labC P I call (f26.JS I call n) c26.body 0 (finV I c26.results) 8 ρ h := by kernel_rfl
theorem f26.q9 (I : Inp) (call : CallFn) (n : Nat) (ρ : Fun) (h : AHeap) : f26.JS I call (n + 1) 9 ρ h = labC P I call (f26.JS I call n) c26.body 0 (finV I c26.results) 9 ρ h := by kernel_rfl
theorem f26.q10 (I : Inp) (call : CallFn) (n : Nat) (ρ : Fun) (h : AHeap) : f26.JS I call (n + 1) 10 ρ h = labC P I call (f26.JS I call n) c26.body 0 (finV I c26.results) 10 ρ h := by kernel_rfl
theorem f26.q11 (I : Inp) (call : CallFn) (n : Nat) (ρ : Fun) (h : AHeap) : f26.JS I call (n + 1) 11 ρ h = labC P I call (f26.JS I call n) c26.body 0 (finV I c26.results) 11 ρ h := by kernel_rfl
theorem f26.q12 (I : Inp) (call : CallFn) (n : Nat) (ρ : Fun) (h : AHeap) : f26.JS I call (n + 1) 12 ρ h = labC P I call (f26.JS I call n) c26.body 0 (finV I c26.results) 12 ρ h := by kernel_rfl
theorem f26.q13 (I : Inp) (call : CallFn) (n : Nat) (ρ : Fun) (h : AHeap) : f26.JS I call (n + 1) 13 ρ h = labC P I call (f26.JS I call n) c26.body 0 (finV I c26.results) 13 ρ h := by kernel_rfl
theorem f26.q14 (I : Inp) (call : CallFn) (n : Nat) (ρ : Fun) (h : AHeap) : f26.JS I call (n + 1) 14 ρ h = labC P I call (f26.JS I call n) c26.body 0 (finV I c26.results) 14 ρ h := by kernel_rfl
theorem f26.q15 (I : Inp) (call : CallFn) (n : Nat) (ρ : Fun) (h : AHeap) : f26.JS I call (n + 1) 15 ρ h = labC P I call (f26.JS I call n) c26.body 0 (finV I c26.results) 15 ρ h := by kernel_rfl
theorem f26.S (I : Inp) (F : Nat → Option AFn) (call : CallFn) : SFn ⟨P, I, F⟩ call c26 (f26.JS I call) :=
  ⟨fun id hid ρ h => by
    have hc : c26.body.cnt = 16 := by kernel_rfl
    rw [hc] at hid
    exact match id, hid with
    | 0, _ => f26.z0 I call ρ h
    | 1, _ => f26.z1 I call ρ h
    | 2, _ => f26.z2 I call ρ h
    | 3, _ => f26.z3 I call ρ h
    | 4, _ => f26.z4 I call ρ h
    | 5, _ => f26.z5 I call ρ h
    | 6, _ => f26.z6 I call ρ h
    | 7, _ => f26.z7 I call ρ h
    | 8, _ => f26.z8 I call ρ h
    | 9, _ => f26.z9 I call ρ h
    | 10, _ => f26.z10 I call ρ h
    | 11, _ => f26.z11 I call ρ h
    | 12, _ => f26.z12 I call ρ h
    | 13, _ => f26.z13 I call ρ h
    | 14, _ => f26.z14 I call ρ h
    | 15, _ => f26.z15 I call ρ h
    | id + 16, hid => absurd hid (by omega), fun n id hid ρ h => by
    have hc : c26.body.cnt = 16 := by kernel_rfl
    rw [hc] at hid
    exact match id, hid with
    | 0, _ => f26.q0 I call n ρ h
    | 1, _ => f26.q1 I call n ρ h
    | 2, _ => f26.q2 I call n ρ h
    | 3, _ => f26.q3 I call n ρ h
    | 4, _ => f26.q4 I call n ρ h
    | 5, _ => f26.q5 I call n ρ h
    | 6, _ => f26.q6 I call n ρ h
    | 7, _ => f26.q7 I call n ρ h
    | 8, _ => f26.q8 I call n ρ h
    | 9, _ => f26.q9 I call n ρ h
    | 10, _ => f26.q10 I call n ρ h
    | 11, _ => f26.q11 I call n ρ h
    | 12, _ => f26.q12 I call n ρ h
    | 13, _ => f26.q13 I call n ρ h
    | 14, _ => f26.q14 I call n ρ h
    | 15, _ => f26.q15 I call n ρ h
    | id + 16, hid => absurd hid (by omega)⟩
noncomputable def f26.run (I : Inp) : SF := fun call n a h =>
  match a with
  | [v0] => f26.e I call (f26.J I call n) v0 h
  | _ => none
theorem f26.qe (I : Inp) (call : CallFn) (n : Nat) (v0 : AVal) (h : AHeap) : f26.e I call (f26.J I call n) v0 h = execC P I call (f26.JS I call n) c26.body 0 (finV I c26.results) (argV [v0]) h := by kernel_rfl
theorem f26.code : codeOf P 26 = some c26 := by kernel_rfl
theorem f26.ok (I : Inp) (F : Nat → Option AFn) (hF : F 26 = some (.code c26)) : SfOk P I F 26 (f26.run I) := by
  intro call hc n args h r hr
  unfold f26.run at hr
  split at hr
  · exact fn_sound (C := ⟨P, I, F⟩) (n := n) hc hF (Nat.le_of_ble_eq_true (by kernel_rfl)) (by kernel_rfl) (f26.S I F call) (by kernel_rfl) ((f26.qe I call n _ h).symm.trans hr)
  · cases hr
end Go.Proofs.YthihegmbdclikaaDoor.Sf
