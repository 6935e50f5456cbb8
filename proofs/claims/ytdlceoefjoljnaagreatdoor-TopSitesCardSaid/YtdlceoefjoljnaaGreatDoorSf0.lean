/- The functions of the program by their labels, on values, part 0: what they compute the abstract machine computes. Conditions: none. -/
import Derived.Test.YtdlceoefjoljnaaGreatDoorAmZ
import Derived.Test.YtdlceoefjoljnaaGreatDoorProg
namespace Go.Proofs.YtdlceoefjoljnaaGreatDoor.Sf
open Go.AM
set_option linter.unusedVariables false
set_option synthInstance.maxSize 10000
set_option synthInstance.maxHeartbeats 1000000
noncomputable section
noncomputable abbrev P : Program := Tryz.prog
variable {I : Inp} {F : Nat → Option AFn} {call : CallFn} {prims : Nat → Option Prim} {n : Nat} {h : AHeap} {Q : AVal → AHeap → Prop}
abbrev J3 := (A2 × (A3 × A2))
def f3.b0 : Lb J3 A2 := fun I call j v0 v1 h =>
 kC call 18 [Z 2, Z 2] h fun v15 h1 =>
 kN v15 fun v17 =>
 kF 0 v17 fun v18 =>
 kL I v18 h1 fun v19 =>
 kN v19 fun v20 =>
 kF 4 v20 fun v21 =>
 kL I v21 h1 fun v22 =>
 kI 3 v22 (Z 0) fun v23 =>
 kC call 19 [Z 2] h1 fun v24 h2 =>
 bnd (sBuildSlice [Z 0, Z 0, Z 0, Z 0, Z 0, .nils] 1 [(0, 6, v24)] h2) fun v25 h3 =>
 kC call 20 [Z 2] h3 fun v26 h4 =>
 bnd (sBuildSlice [Z 0, Z 0, Z 0, Z 0, Z 0, .nils] 1 [(0, 6, v26)] h4) fun v27 h5 =>
 kC call 21 [Z 1] h5 fun v28 h6 =>
 bnd (sBuildSlice [Z 0, Z 0, Z 0, Z 0, Z 0, .nils] 1 [(0, 6, v28)] h6) fun v29 h7 =>
 bnd (sBuildSlice [.nils] 3 [(0, 1, v25), (1, 1, v27), (2, 1, v29)] h7) fun v30 h8 =>
 kC call 22 [v0, Z 3] h8 fun v32 h9 =>
 kI 1 v30 v32 fun v33 =>
 kL I v33 h9 fun v34 =>
 kC call 21 [Z 0] h9 fun v36 h10 =>
 kC call 23 [Z 1, Z 3] h10 fun v37 h11 =>
 kC call 24 [Z 2] h11 fun v38 h12 =>
 kC call 24 [Z 3] h12 fun v39 h13 =>
 kC call 25 [Z 3, Z 2] h13 fun v40 h14 =>
 bnd (sBuildSlice [Z 0, Z 0, Z 0, Z 0, Z 0, .nils] 5 [(0, 6, v36), (6, 6, v37), (12, 6, v38), (18, 6, v39), (24, 6, v40)] h14) fun v41 h15 =>
 bndP (pBuild [.nils, Z 0, Z 0, Z 0, Z 0] [(0, 1, v41), (1, 1, Z 2), (3, 1, Z 1), (4, 1, Z 2)]) fun v42 =>
 bndP (pBuild [.nils, Z 0, Z 0, Z 0, Z 0] [(0, 1, v34), (1, 1, Z 1), (3, 1, Z 3)]) fun v44 =>
 kC call 23 [Z 1, Z 4] h15 fun v45 h16 =>
 bnd (sBuildSlice [Z 0, Z 0, Z 0, Z 0, Z 0, .nils] 1 [(0, 6, v45)] h16) fun v46 h17 =>
 bndP (pBuild [.nils, Z 0, Z 0, Z 0, Z 0] [(0, 1, v46), (1, 1, Z 1), (3, 1, Z 3)]) fun v47 =>
 kC call 26 [Z 2, Z 0, Z 1] h17 fun v48 h18 =>
 kC call 27 [Z 1] h18 fun v49 h19 =>
 bnd (sBuildSlice [Z 0, Z 0, Z 0, Z 0, Z 0, .nils] 2 [(0, 6, v48), (6, 6, v49)] h19) fun v50 h20 =>
 bndP (pBuild [.nils, Z 0, Z 0, Z 0, Z 0] [(0, 1, v50), (1, 1, Z 3), (2, 1, Z 1)]) fun v51 =>
 bnd (sBuildSlice [.nils, Z 0, Z 0, Z 0, Z 0] 4 [(0, 5, v42), (5, 5, v44), (10, 5, v47), (15, 5, v51)] h20) fun v52 h21 =>
 kN v23 fun v53 =>
 kF 2 v53 fun v54 =>
 kS 1 v54 v52 h21 fun _ h22 =>
 kN v15 fun v56 =>
 kF 0 v56 fun v57 =>
 kL I v57 h22 fun v58 =>
 bndP (pBuild [Z 0, Z 0, Z 0] [(1, 1, Z 3)]) fun v59 =>
 kC call 28 [v58, v59] h22 fun v60 h23 =>
 bndP (pBuild [Z 0, Z 0] [(0, 1, Z 2), (1, 1, v60)]) fun v62 =>
 bndP (pBuild [Z 0, Z 0] [(0, 1, Z 1), (1, 1, v60)]) fun v64 =>
 kB .add v60 (Z 1) fun v66 =>
 bndP (pBuild [Z 0, Z 0] [(0, 1, Z 3), (1, 1, v66)]) fun v67 =>
 bnd (sBuildSlice [Z 0, Z 0] 3 [(0, 2, v62), (2, 2, v64), (4, 2, v67)] h23) fun v68 h24 =>
 kC call 22 [v0, Z 3] h24 fun v70 h25 =>
 kI 2 v68 v70 fun v71 =>
 kM I 2 v71 h25 fun v72 =>
 kA [Z 0, Z 0] h25 fun v10 h26 =>
 kS 2 v10 v72 h26 fun _ h27 =>
 kM I 2 v10 h27 fun v74 =>
 bnd (sBuildSlice [Z 0, Z 0] 1 [(0, 2, v74)] h27) fun v75 h28 =>
 kC call 29 [v15, v75] h28 fun v76 h29 =>
 kU .not v76 fun v77 =>
 sCond v77 (
 j.2.1 v1 v15 v10 h29) (
 some (bF, h29))
def f3.b1 : Lb J3 A3 := fun I call j v1 v6 v10 h =>
 bnd (sBuildSlice [Z 0] 1 [(0, 1, v1)] h) fun v80 h1 =>
 kC call 30 [v6, v80] h1 fun v81 h2 =>
 kB .eql v1 (Z 0) fun v83 =>
 sCond v83 (
 j.2.2 v10 v81 h2) (
 kZ v81 fun v85 =>
 kB .eql v85 (Z 0) fun v86 =>
 some (v86, h2))
def f3.b2 : Lb J3 A2 := fun I call j v10 v11 h =>
 kM I 2 v10 h fun v88 =>
 bnd (sBuildSlice [Z 0, Z 0] 1 [(0, 2, v88)] h) fun v89 h1 =>
 kC call 31 [v11, v89] h1 fun v90 h2 =>
 some (v90, h2)
def f3.e : Lb J3 A2 := fun I call j v0 v1 h =>
 kC call 17 [] h fun v12 h1 =>
 kU .not v12 fun v14 =>
 sCond v14 (
 j.1 v0 v1 h1) (
 some (bF, h1))
def f3.T : Lb J3 J3 := fun I call j => (f3.b0 I call j, (f3.b1 I call j, f3.b2 I call j))
def f3.r : Inp → SF := runL f3.T f3.e
theorem f3.k : FOk P 3 f3.r := .of 3 ([0, 1], ([1, 6, 10], [10, 11]))
abbrev J4 := (((A2 × A6) × (A4 × A5)) × ((A6 × A6) × (A6 × (A4 × A2))))
def f4.b0 : Lb J4 A2 := fun I call j v0 v1 h =>
 kC call 22 [v1, Z 5] h fun v21 h1 =>
 kC call 18 [Z 1, Z 1] h1 fun v22 h2 =>
 kN v22 fun v24 =>
 kF 0 v24 fun v25 =>
 kL I v25 h2 fun v26 =>
 kN v26 fun v27 =>
 kF 4 v27 fun v28 =>
 kL I v28 h2 fun v29 =>
 kI 3 v29 (Z 0) fun v30 =>
 kC call 23 [Z 0, Z 0] h2 fun v31 h3 =>
 kC call 24 [Z 1] h3 fun v32 h4 =>
 bnd (sBuildSlice [Z 0, Z 0, Z 0, Z 0, Z 0, .nils] 2 [(0, 6, v31), (6, 6, v32)] h4) fun v33 h5 =>
 kC call 19 [Z 1] h5 fun v34 h6 =>
 kC call 21 [Z 0] h6 fun v35 h7 =>
 bnd (sBuildSlice [Z 0, Z 0, Z 0, Z 0, Z 0, .nils] 2 [(0, 6, v34), (6, 6, v35)] h7) fun v36 h8 =>
 sCond v0 (
 j.1.1.2 v0 v21 v22 v30 v33 v36 h8) (
 kC call 23 [Z 0, Z 0] h8 fun v38 h9 =>
 bnd (sBuildSlice [Z 0, Z 0, Z 0, Z 0, Z 0, .nils] 1 [(0, 6, v38)] h9) fun v39 h10 =>
 kC call 24 [Z 1] h10 fun v40 h11 =>
 kC call 19 [Z 1] h11 fun v41 h12 =>
 kC call 21 [Z 0] h12 fun v42 h13 =>
 bnd (sBuildSlice [Z 0, Z 0, Z 0, Z 0, Z 0, .nils] 3 [(0, 6, v40), (6, 6, v41), (12, 6, v42)] h13) fun v43 h14 =>
 j.1.1.2 v0 v21 v22 v30 v39 v43 h14)
def f4.b1 : Lb J4 A6 := fun I call j v0 v6 v7 v8 v9 v10 h =>
 bndP (pBuild [.nils, Z 0, Z 0, Z 0, Z 0] [(0, 1, v9), (1, 1, Z 1), (3, 1, Z 1)]) fun v46 =>
 bndP (pBuild [.nils, Z 0, Z 0, Z 0, Z 0] [(0, 1, v10), (1, 1, Z 2), (3, 1, Z 1), (4, 1, Z 2)]) fun v48 =>
 bndP (pBuild [.nils, Z 0, Z 0, Z 0, Z 0] [(1, 1, Z 3)]) fun v49 =>
 bnd (sBuildSlice [.nils, Z 0, Z 0, Z 0, Z 0] 3 [(0, 5, v46), (5, 5, v48), (10, 5, v49)] h) fun v50 h1 =>
 kN v8 fun v51 =>
 kF 2 v51 fun v52 =>
 kS 1 v52 v50 h1 fun _ h2 =>
 sCond v0 (
 j.1.2.1 v0 v6 v7 (Z 0) h2) (
 j.1.2.1 v0 v6 v7 (Z 1) h2)
def f4.b2 : Lb J4 A4 := fun I call j v0 v6 v7 v11 h =>
 kN v7 fun v55 =>
 kF 0 v55 fun v56 =>
 kL I v56 h fun v57 =>
 bndP (pBuild [Z 0, Z 0, Z 0] [(1, 1, Z 1), (2, 1, v11)]) fun v59 =>
 kC call 28 [v57, v59] h fun v60 h1 =>
 j.2.1.1 v0 v6 v7 v60 .nils (Z 0) h1
def f4.b3 : Lb J4 A5 := fun I call j v0 v6 v7 v12 v13 h =>
 kC call 30 [v7, v13] h fun v71 h1 =>
 bndP (pBuild [Z 0, Z 0] [(0, 1, Z 2), (1, 1, v12)]) fun v73 =>
 kA [Z 0, Z 0] h1 fun v16 h2 =>
 kS 2 v16 v73 h2 fun _ h3 =>
 kM I 2 v16 h3 fun v75 =>
 bnd (sBuildSlice [Z 0, Z 0] 1 [(0, 2, v75)] h3) fun v76 h4 =>
 kC call 29 [v7, v76] h4 fun v77 h5 =>
 kU .not v77 fun v78 =>
 sCond v78 (
 j.2.2.2.1 v0 v6 v71 v16 h5) (
 some (bF, h5))
def f4.b4 : Lb J4 A6 := fun I call j v0 v6 v7 v12 v13 v14 h =>
 kB .lss v14 v6 fun v63 =>
 sCond v63 (
 j.1.2.2 v0 v6 v7 v12 v13 h) (
 j.2.1.2 v0 v6 v7 v12 v13 v14 h)
def f4.b5 : Lb J4 A6 := fun I call j v0 v6 v7 v12 v13 v14 h =>
 bnd (sBuildSlice [Z 0] 1 [(0, 1, Z 1)] h) fun v67 h1 =>
 bnd (sAppend I 1 8 v13 v67 h1) fun v68 h2 =>
 j.2.2.1 v0 v6 v7 v12 v68 v14 h2
def f4.b6 : Lb J4 A6 := fun I call j v0 v6 v7 v12 v13 v14 h =>
 kB .add v14 (Z 1) fun v65 =>
 j.2.1.1 v0 v6 v7 v12 v13 v65 h
def f4.b7 : Lb J4 A4 := fun I call j v0 v6 v15 v16 h =>
 gV v0 .false v6 h fun v81 h1 =>
 gP v0 .false (pBin .eql v81 (Z 0)) h1 fun v82 h2 =>
 kP v0 bT v82 fun v83 =>
 sCond v83 (
 j.2.2.2.2 v15 v16 h2) (
 kZ v15 fun v85 =>
 kB .eql v85 (Z 0) fun v86 =>
 some (v86, h2))
def f4.b8 : Lb J4 A2 := fun I call j v15 v16 h =>
 kM I 2 v16 h fun v88 =>
 bnd (sBuildSlice [Z 0, Z 0] 1 [(0, 2, v88)] h) fun v89 h1 =>
 kC call 31 [v15, v89] h1 fun v90 h2 =>
 some (v90, h2)
def f4.e : Lb J4 A2 := fun I call j v0 v1 h =>
 kC call 17 [] h fun v17 h1 =>
 kU .not v17 fun v19 =>
 sCond v19 (
 j.1.1.1 v0 v1 h1) (
 some (bF, h1))
def f4.T : Lb J4 J4 := fun I call j => (((f4.b0 I call j, f4.b1 I call j), (f4.b2 I call j, f4.b3 I call j)), ((f4.b4 I call j, f4.b5 I call j), (f4.b6 I call j, (f4.b7 I call j, f4.b8 I call j))))
def f4.r : Inp → SF := runL f4.T f4.e
theorem f4.k : FOk P 4 f4.r := .of 9 ((([0, 1], [0, 6, 7, 8, 9, 10]), ([0, 6, 7, 11], [0, 6, 7, 12, 13])), (([0, 6, 7, 12, 13, 14], [0, 6, 7, 12, 13, 14]), ([0, 6, 7, 12, 13, 14], ([0, 6, 15, 16], [15, 16]))))
abbrev J5 := ((A2 × (A5 × A4)) × ((A6 × A6) × (A6 × A3)))
def f5.b0 : Lb J5 A2 := fun I call j v0 v1 h =>
 kC call 22 [v0, Z 6] h fun v18 h1 =>
 kC call 18 [Z 4, Z 0] h1 fun v19 h2 =>
 kN v19 fun v21 =>
 kF 0 v21 fun v22 =>
 kL I v22 h2 fun v23 =>
 kN v23 fun v24 =>
 kF 4 v24 fun v25 =>
 kL I v25 h2 fun v26 =>
 kI 3 v26 (Z 0) fun v27 =>
 kC call 32 [Z 1, Z 1, Z 0] h2 fun v28 h3 =>
 kA [Z 0, Z 0, Z 0, Z 0, Z 0, .nils] h3 fun v9 h4 =>
 kS 6 v9 v28 h4 fun _ h5 =>
 sCond v1 (
 j.1.2.1 v1 v18 v19 v27 v9 h5) (
 kC call 32 [Z 1, Z 1, Z 2] h5 fun v30 h6 =>
 kS 6 v9 v30 h6 fun _ h7 =>
 j.1.2.1 v1 v18 v19 v27 v9 h7)
def f5.b1 : Lb J5 A5 := fun I call j v1 v6 v7 v8 v9 h =>
 sKeep 3 h fun h1 =>
 kC call 23 [Z 1, Z 0] h1 fun v32 h2 =>
 kC call 23 [Z 2, Z 1] h2 fun v33 h3 =>
 kC call 21 [Z 0] h3 fun v36 h4 =>
 kC call 27 [Z 1] h4 fun v40 h5 =>
 bnd (sResvSlice (h.next + 0) [Z 0, Z 0, Z 0, Z 0, Z 0, .nils] 2 [(0, 6, v32), (6, 6, v33)] h5) fun v34 h6 =>
 bndP (pBuild [.nils, Z 0, Z 0, Z 0, Z 0] [(0, 1, v34), (1, 1, Z 1), (3, 1, Z 1)]) fun v35 =>
 kM I 6 v9 h6 fun v37 =>
 bnd (sResvSlice (h.next + 1) [Z 0, Z 0, Z 0, Z 0, Z 0, .nils] 2 [(0, 6, v36), (6, 6, v37)] h6) fun v38 h7 =>
 bndP (pBuild [.nils, Z 0, Z 0, Z 0, Z 0] [(0, 1, v38), (1, 1, Z 2), (3, 1, Z 1), (4, 1, Z 2)]) fun v39 =>
 bnd (sResvSlice (h.next + 2) [Z 0, Z 0, Z 0, Z 0, Z 0, .nils] 1 [(0, 6, v40)] h7) fun v41 h8 =>
 bndP (pBuild [.nils, Z 0, Z 0, Z 0, Z 0] [(0, 1, v41), (1, 1, Z 3), (2, 1, Z 1)]) fun v42 =>
 bnd (sResvSlice (h.next + 3) [.nils, Z 0, Z 0, Z 0, Z 0] 3 [(0, 5, v35), (5, 5, v39), (10, 5, v42)] h8) fun v43 h9 =>
 kN v8 fun v44 =>
 kF 2 v44 fun v45 =>
 kS 1 v45 v43 h9 fun _ h10 =>
 sCheck (sSame (lift (pLoadN I 6 v9 h1) h1) v37 && (sSame (lift (pLoadN I 6 v9 h2) h2) v37 && (sSame (lift (pLoadN I 6 v9 h3) h3) v37 && (sSame (lift (pLoadN I 6 v9 h4) h4) v37 && (sSame (lift (pLoadN I 6 v9 h5) h5) v37 && true))))) (
 kN v7 fun v47 =>
 kF 0 v47 fun v48 =>
 kL I v48 h10 fun v49 =>
 bndP (pBuild [Z 0, Z 0, Z 0] [(1, 1, Z 2)]) fun v50 =>
 kC call 28 [v49, v50] h10 fun v51 h11 =>
 j.2.1.1 v1 v6 v7 v51 .nils (Z 0) h11)
def f5.b2 : Lb J5 A4 := fun I call j v1 v7 v10 v11 h =>
 sCond v1 (
 j.2.2.2 v7 v10 v11 h) (
 kC call 29 [v7, .nils] h fun v62 h1 =>
 gV v62 .true v7 h1 fun v64 h2 =>
 gV v62 .true v11 h2 fun v65 h3 =>
 gS v62 .true (call 30 [v64, v65] h3) h3 fun v66 h4 =>
 gP v62 .true (pLenSl v66) h4 fun v67 h5 =>
 gP v62 .true (pBin .eql v67 (Z 0)) h5 fun v68 h6 =>
 kP v62 v68 bF fun v69 =>
 some (v69, h6))
def f5.b3 : Lb J5 A6 := fun I call j v1 v6 v7 v10 v11 v12 h =>
 kB .lss v12 v6 fun v54 =>
 sCond v54 (
 j.1.2.2 v1 v7 v10 v11 h) (
 j.2.1.2 v1 v6 v7 v10 v11 v12 h)
def f5.b4 : Lb J5 A6 := fun I call j v1 v6 v7 v10 v11 v12 h =>
 bnd (sBuildSlice [Z 0] 1 [(0, 1, Z 1)] h) fun v58 h1 =>
 bnd (sAppend I 1 8 v11 v58 h1) fun v59 h2 =>
 j.2.2.1 v1 v6 v7 v10 v59 v12 h2
def f5.b5 : Lb J5 A6 := fun I call j v1 v6 v7 v10 v11 v12 h =>
 kB .add v12 (Z 1) fun v56 =>
 j.2.1.1 v1 v6 v7 v10 v11 v56 h
def f5.b6 : Lb J5 A3 := fun I call j v7 v10 v11 h =>
 bndP (pBuild [Z 0, Z 0] [(0, 1, Z 3), (1, 1, v10)]) fun v71 =>
 kA [Z 0, Z 0] h fun v13 h1 =>
 kS 2 v13 v71 h1 fun _ h2 =>
 sKeep 1 h2 fun h3 =>
 kM I 2 v13 h3 fun v73 =>
 bnd (sResvSlice (h2.next + 0) [Z 0, Z 0] 1 [(0, 2, v73)] h3) fun v74 h4 =>
 kC call 29 [v7, v74] h4 fun v75 h5 =>
 gV v75 .true v7 h5 fun v77 h6 =>
 gV v75 .true v11 h6 fun v78 h7 =>
 gS v75 .true (call 30 [v77, v78] h7) h7 fun v79 h8 =>
 gP v75 .true (pLoadN I 2 v13 h8) h8 fun v80 h9 =>
 gS v75 .true (sResvSlice (h2.next + 1) [Z 0, Z 0] 1 [(0, 2, v80)] h9) h9 fun v81 h10 =>
 gS v75 .true (call 31 [v79, v81] h10) h10 fun v82 h11 =>
 kP v75 v82 bF fun v83 =>
 sCheck (sSame (sGuard v75 .true (lift (pLoadN I 2 v13 h5) h5) h5) v80 && true) (
 some (v83, h11))
def f5.e : Lb J5 A2 := fun I call j v0 v1 h =>
 kC call 17 [] h fun v14 h1 =>
 kU .not v14 fun v16 =>
 sCond v16 (
 j.1.1 v0 v1 h1) (
 some (bF, h1))
def f5.T : Lb J5 J5 := fun I call j => ((f5.b0 I call j, (f5.b1 I call j, f5.b2 I call j)), ((f5.b3 I call j, f5.b4 I call j), (f5.b5 I call j, f5.b6 I call j)))
def f5.r : Inp → SF := runL f5.T f5.e
theorem f5.k : FOk P 5 f5.r := .of 7 (([0, 1], ([1, 6, 7, 8, 9], [1, 7, 10, 11])), (([1, 6, 7, 10, 11, 12], [1, 6, 7, 10, 11, 12]), ([1, 6, 7, 10, 11, 12], [7, 10, 11])))
abbrev J6 := (A2 × A2)
def f6.b0 : Lb J6 A2 := fun I call j v0 v1 h =>
 kC call 22 [v0, Z 2] h fun v16 h1 =>
 kC call 22 [v1, Z 2] h1 fun v18 h2 =>
 kC call 18 [Z 2, Z 1] h2 fun v19 h3 =>
 kC call 33 [v19, Z 1, Z 1, Z 0] h3 fun v21 h4 =>
 kC call 33 [v19, Z 1, Z 1, Z 0] h4 fun v23 h5 =>
 kC call 21 [Z 1] h5 fun v26 h6 =>
 kC call 26 [Z 0, v16, Z 1] h6 fun v28 h7 =>
 bnd (sBuildSlice [Z 0, Z 0, Z 0, Z 0, Z 0, .nils] 2 [(0, 6, v26), (6, 6, v28)] h7) fun v29 h8 =>
 kC call 34 [v19, v21, v29] h8 fun v30 h9 =>
 kC call 35 [Z 1, Z 0, v18] h9 fun v34 h10 =>
 kC call 27 [Z 1] h10 fun v35 h11 =>
 bnd (sBuildSlice [Z 0, Z 0, Z 0, Z 0, Z 0, .nils] 2 [(0, 6, v34), (6, 6, v35)] h11) fun v36 h12 =>
 kC call 34 [v19, v23, v36] h12 fun v37 h13 =>
 kC call 23 [Z 0, Z 1] h13 fun v39 h14 =>
 kC call 24 [Z 2] h14 fun v40 h15 =>
 bnd (sBuildSlice [Z 0] 1 [(0, 1, Z 2)] h15) fun v42 h16 =>
 kC call 36 [Z 0, v21, v42] h16 fun v43 h17 =>
 bnd (sBuildSlice [Z 0] 1 [(0, 1, Z 2)] h17) fun v45 h18 =>
 kC call 36 [Z 1, v23, v45] h18 fun v46 h19 =>
 bnd (sBuildSlice [Z 0, Z 0, Z 0, Z 0, Z 0, .nils] 4 [(0, 6, v39), (6, 6, v40), (12, 6, v43), (18, 6, v46)] h19) fun v47 h20 =>
 kC call 34 [v19, Z 0, v47] h20 fun v48 h21 =>
 kN v19 fun v50 =>
 kF 0 v50 fun v51 =>
 kL I v51 h21 fun v52 =>
 kN v52 fun v53 =>
 kF 4 v53 fun v54 =>
 kL I v54 h21 fun v55 =>
 kI 3 v55 (Z 0) fun v56 =>
 kF 2 v56 fun v57 =>
 kL I v57 h21 fun v58 =>
 kI 5 v58 (Z 0) fun v59 =>
 kF 2 v59 fun v60 =>
 kS 1 v60 (Z 0) h21 fun _ h22 =>
 kB .neq v16 v18 fun v63 =>
 sCond v63 (
 j.2 v19 v23 h22) (
 kC call 29 [v19, .nils] h22 fun v65 h23 =>
 gV v65 .true v19 h23 fun v67 h24 =>
 gS v65 .true (sBuildSlice [Z 0] 1 [(0, 1, Z 3)] h24) h24 fun v68 h25 =>
 gS v65 .true (call 30 [v67, v68] h25) h25 fun v69 h26 =>
 gP v65 .true (pLenSl v69) h26 fun v70 h27 =>
 gP v65 .true (pBin .eql v70 (Z 0)) h27 fun v71 h28 =>
 kP v65 v71 bF fun v72 =>
 some (v72, h28))
def f6.b1 : Lb J6 A2 := fun I call j v8 v10 h =>
 kC call 37 [v8, v10, Z 1] h fun v75 h1 =>
 bndP (pBuild [Z 0, Z 0] [(0, 1, Z 3), (1, 1, v75)]) fun v76 =>
 kA [Z 0, Z 0] h1 fun v11 h2 =>
 kS 2 v11 v76 h2 fun _ h3 =>
 sKeep 2 h3 fun h4 =>
 kM I 2 v11 h4 fun v78 =>
 bnd (sResvSlice (h3.next + 0) [Z 0, Z 0] 1 [(0, 2, v78)] h4) fun v79 h5 =>
 kC call 29 [v8, v79] h5 fun v80 h6 =>
 gV v80 .true v8 h6 fun v82 h7 =>
 gS v80 .true (sResvSlice (h3.next + 1) [Z 0] 1 [(0, 1, Z 3)] h7) h7 fun v83 h8 =>
 gS v80 .true (call 30 [v82, v83] h8) h8 fun v84 h9 =>
 gP v80 .true (pLoadN I 2 v11 h9) h9 fun v85 h10 =>
 gS v80 .true (sResvSlice (h3.next + 2) [Z 0, Z 0] 1 [(0, 2, v85)] h10) h10 fun v86 h11 =>
 gS v80 .true (call 31 [v84, v86] h11) h11 fun v87 h12 =>
 kP v80 v87 bF fun v88 =>
 sCheck (sSame (sGuard v80 .true (lift (pLoadN I 2 v11 h6) h6) h6) v85 && (sSame (sGuard v80 .true (lift (pLoadN I 2 v11 h8) h8) h8) v85 && true)) (
 some (v88, h12))
def f6.e : Lb J6 A2 := fun I call j v0 v1 h =>
 kC call 17 [] h fun v12 h1 =>
 kU .not v12 fun v14 =>
 sCond v14 (
 j.1 v0 v1 h1) (
 some (bF, h1))
def f6.T : Lb J6 J6 := fun I call j => (f6.b0 I call j, f6.b1 I call j)
def f6.r : Inp → SF := runL f6.T f6.e
theorem f6.k : FOk P 6 f6.r := .of 2 ([0, 1], [8, 10])
abbrev J7 := (A1 × (A3 × A1))
def f7.b0 : Lb J7 A1 := fun I call j v0 h =>
 kC call 18 [Z 2, Z 1] h fun v11 h1 =>
 kC call 33 [v11, Z 1, Z 1, Z 0] h1 fun v13 h2 =>
 kC call 33 [v11, Z 1, Z 1, Z 0] h2 fun v15 h3 =>
 kC call 21 [Z 1] h3 fun v18 h4 =>
 kC call 26 [Z 0, Z 0, Z 1] h4 fun v19 h5 =>
 bnd (sBuildSlice [Z 0, Z 0, Z 0, Z 0, Z 0, .nils] 2 [(0, 6, v18), (6, 6, v19)] h5) fun v20 h6 =>
 kC call 34 [v11, v13, v20] h6 fun v21 h7 =>
 kC call 35 [Z 1, Z 0, Z 0] h7 fun v24 h8 =>
 kC call 27 [Z 1] h8 fun v25 h9 =>
 bnd (sBuildSlice [Z 0, Z 0, Z 0, Z 0, Z 0, .nils] 2 [(0, 6, v24), (6, 6, v25)] h9) fun v26 h10 =>
 kC call 34 [v11, v15, v26] h10 fun v27 h11 =>
 kC call 23 [Z 0, Z 1] h11 fun v29 h12 =>
 kC call 24 [Z 2] h12 fun v30 h13 =>
 bnd (sBuildSlice [Z 0, Z 0, Z 0, Z 0, Z 0, .nils] 2 [(0, 6, v29), (6, 6, v30)] h13) fun v31 h14 =>
 kC call 34 [v11, Z 0, v31] h14 fun v32 h15 =>
 sCond v0 (
 bnd (sBuildSlice [Z 0] 1 [(0, 1, Z 2)] h15) fun v45 h16 =>
 kC call 36 [Z 0, v15, v45] h16 fun v46 h17 =>
 bnd (sBuildSlice [Z 0] 1 [(0, 1, Z 2)] h17) fun v48 h18 =>
 kC call 36 [Z 1, v13, v48] h18 fun v49 h19 =>
 bnd (sBuildSlice [Z 0, Z 0, Z 0, Z 0, Z 0, .nils] 2 [(0, 6, v46), (6, 6, v49)] h19) fun v50 h20 =>
 kC call 34 [v11, Z 0, v50] h20 fun v51 h21 =>
 j.2.1 v0 v11 v15 h21) (
 bnd (sBuildSlice [Z 0] 1 [(0, 1, Z 2)] h15) fun v36 h22 =>
 kC call 36 [Z 0, v13, v36] h22 fun v37 h23 =>
 bnd (sBuildSlice [Z 0] 1 [(0, 1, Z 2)] h23) fun v39 h24 =>
 kC call 36 [Z 1, v15, v39] h24 fun v40 h25 =>
 bnd (sBuildSlice [Z 0, Z 0, Z 0, Z 0, Z 0, .nils] 2 [(0, 6, v37), (6, 6, v40)] h25) fun v41 h26 =>
 kC call 34 [v11, Z 0, v41] h26 fun v42 h27 =>
 j.2.1 v0 v11 v15 h27)
def f7.b1 : Lb J7 A3 := fun I call j v0 v4 v6 h =>
 kC call 37 [v4, v6, Z 1] h fun v54 h1 =>
 bndP (pBuild [Z 0, Z 0] [(0, 1, Z 3), (1, 1, v54)]) fun v55 =>
 kA [Z 0, Z 0] h1 fun v7 h2 =>
 kS 2 v7 v55 h2 fun _ h3 =>
 sCond v0 (
 j.2.2 v4 h3) (
 sKeep 2 h3 fun h4 =>
 kM I 2 v7 h4 fun v58 =>
 bnd (sResvSlice (h3.next + 0) [Z 0, Z 0] 1 [(0, 2, v58)] h4) fun v59 h5 =>
 kC call 29 [v4, v59] h5 fun v60 h6 =>
 gV v60 .true v4 h6 fun v62 h7 =>
 gS v60 .true (sResvSlice (h3.next + 1) [Z 0] 1 [(0, 1, Z 3)] h7) h7 fun v63 h8 =>
 gS v60 .true (call 30 [v62, v63] h8) h8 fun v64 h9 =>
 gP v60 .true (pLoadN I 2 v7 h9) h9 fun v65 h10 =>
 gS v60 .true (sResvSlice (h3.next + 2) [Z 0, Z 0] 1 [(0, 2, v65)] h10) h10 fun v66 h11 =>
 gS v60 .true (call 31 [v64, v66] h11) h11 fun v67 h12 =>
 kP v60 v67 bF fun v68 =>
 sCheck (sSame (sGuard v60 .true (lift (pLoadN I 2 v7 h6) h6) h6) v65 && (sSame (sGuard v60 .true (lift (pLoadN I 2 v7 h8) h8) h8) v65 && true)) (
 some (v68, h12)))
def f7.b2 : Lb J7 A1 := fun I call j v4 h =>
 kC call 29 [v4, .nils] h fun v70 h1 =>
 gV v70 .true v4 h1 fun v72 h2 =>
 gS v70 .true (sBuildSlice [Z 0] 1 [(0, 1, Z 3)] h2) h2 fun v73 h3 =>
 gS v70 .true (call 30 [v72, v73] h3) h3 fun v74 h4 =>
 gP v70 .true (pLenSl v74) h4 fun v75 h5 =>
 gP v70 .true (pBin .eql v75 (Z 0)) h5 fun v76 h6 =>
 kP v70 v76 bF fun v77 =>
 some (v77, h6)
def f7.e : Lb J7 A1 := fun I call j v0 h =>
 kC call 17 [] h fun v8 h1 =>
 kU .not v8 fun v10 =>
 sCond v10 (
 j.1 v0 h1) (
 some (bF, h1))
def f7.T : Lb J7 J7 := fun I call j => (f7.b0 I call j, (f7.b1 I call j, f7.b2 I call j))
def f7.r : Inp → SF := runL f7.T f7.e
theorem f7.k : FOk P 7 f7.r := .of 3 ([0], ([0, 4, 6], [4]))
abbrev J8 := (A2 × A1)
def f8.b0 : Lb J8 A2 := fun I call j v0 v1 h =>
 kC call 22 [v0, Z 3] h fun v15 h1 =>
 kC call 22 [v1, Z 3] h1 fun v17 h2 =>
 kC call 18 [Z 1, Z 3] h2 fun v18 h3 =>
 kC call 33 [v18, Z 1, Z 1, Z 0] h3 fun v20 h4 =>
 kC call 23 [Z 1, Z 0] h4 fun v23 h5 =>
 kC call 19 [Z 0] h5 fun v24 h6 =>
 bnd (sBuildSlice [Z 0, Z 0, Z 0, Z 0, Z 0, .nils] 2 [(0, 6, v23), (6, 6, v24)] h6) fun v25 h7 =>
 kC call 34 [v18, v20, v25] h7 fun v26 h8 =>
 kC call 23 [Z 0, Z 1] h8 fun v28 h9 =>
 kC call 24 [Z 1] h9 fun v29 h10 =>
 kC call 24 [Z 2] h10 fun v30 h11 =>
 kC call 24 [Z 3] h11 fun v31 h12 =>
 kB .add (Z 1) v15 fun v34 =>
 bnd (sBuildSlice [Z 0] 1 [(0, 1, v34)] h12) fun v35 h13 =>
 kC call 36 [Z 0, v20, v35] h13 fun v36 h14 =>
 kB .add (Z 1) v17 fun v38 =>
 kC call 26 [v38, Z 0, Z 0] h14 fun v39 h15 =>
 bnd (sBuildSlice [Z 0, Z 0, Z 0, Z 0, Z 0, .nils] 6 [(0, 6, v28), (6, 6, v29), (12, 6, v30), (18, 6, v31), (24, 6, v36), (30, 6, v39)] h15) fun v40 h16 =>
 kC call 34 [v18, Z 0, v40] h16 fun v41 h17 =>
 kB .neq v15 v17 fun v44 =>
 sCond v44 (
 j.2 v18 h17) (
 kC call 29 [v18, .nils] h17 fun v46 h18 =>
 gV v46 .true v18 h18 fun v48 h19 =>
 gS v46 .true (call 30 [v48, .nils] h19) h19 fun v49 h20 =>
 gP v46 .true (pLenSl v49) h20 fun v50 h21 =>
 gP v46 .true (pBin .eql v50 (Z 0)) h21 fun v51 h22 =>
 kP v46 v51 bF fun v52 =>
 some (v52, h22))
def f8.b1 : Lb J8 A1 := fun I call j v8 h =>
 bndP (pBuild [Z 0, Z 0] [(0, 1, Z 2), (1, 1, Z 5)]) fun v53 =>
 kA [Z 0, Z 0] h fun v10 h1 =>
 kS 2 v10 v53 h1 fun _ h2 =>
 sKeep 1 h2 fun h3 =>
 kM I 2 v10 h3 fun v55 =>
 bnd (sResvSlice (h2.next + 0) [Z 0, Z 0] 1 [(0, 2, v55)] h3) fun v56 h4 =>
 kC call 29 [v8, v56] h4 fun v57 h5 =>
 gV v57 .true v8 h5 fun v59 h6 =>
 gS v57 .true (call 30 [v59, .nils] h6) h6 fun v60 h7 =>
 gP v57 .true (pLoadN I 2 v10 h7) h7 fun v61 h8 =>
 gS v57 .true (sResvSlice (h2.next + 1) [Z 0, Z 0] 1 [(0, 2, v61)] h8) h8 fun v62 h9 =>
 gS v57 .true (call 31 [v60, v62] h9) h9 fun v63 h10 =>
 kP v57 v63 bF fun v64 =>
 sCheck (sSame (sGuard v57 .true (lift (pLoadN I 2 v10 h5) h5) h5) v61 && true) (
 some (v64, h10))
def f8.e : Lb J8 A2 := fun I call j v0 v1 h =>
 kC call 17 [] h fun v11 h1 =>
 kU .not v11 fun v13 =>
 sCond v13 (
 j.1 v0 v1 h1) (
 some (bF, h1))
def f8.T : Lb J8 J8 := fun I call j => (f8.b0 I call j, f8.b1 I call j)
def f8.r : Inp → SF := runL f8.T f8.e
theorem f8.k : FOk P 8 f8.r := .of 2 ([0, 1], [8])
abbrev J10 := (A1 × (A3 × A1))
def f10.b0 : Lb J10 A1 := fun I call j v0 h =>
 kC call 18 [Z 1, Z 1] h fun v11 h1 =>
 kC call 33 [v11, Z 1, Z 1, Z 0] h1 fun v13 h2 =>
 kC call 23 [Z 1, Z 9] h2 fun v16 h3 =>
 bnd (sBuildSlice [Z 0, Z 0, Z 0, Z 0, Z 0, .nils] 1 [(0, 6, v16)] h3) fun v17 h4 =>
 kC call 34 [v11, v13, v17] h4 fun v18 h5 =>
 kN v11 fun v20 =>
 kF 0 v20 fun v21 =>
 kL I v21 h5 fun v22 =>
 bnd (sBuildSlice [Z 0] 1 [(0, 1, v13)] h5) fun v24 h6 =>
 bndP (pBuild [Z 0, Z 0, .nils] [(2, 1, v24)]) fun v25 =>
 bnd (sBuildSlice [Z 0, Z 0, .nils] 1 [(0, 3, v25)] h6) fun v26 h7 =>
 kN v22 fun v27 =>
 kF 3 v27 fun v28 =>
 kS 1 v28 v26 h7 fun _ h8 =>
 kN v11 fun v30 =>
 kF 0 v30 fun v31 =>
 kL I v31 h8 fun v32 =>
 kN v32 fun v33 =>
 kF 4 v33 fun v34 =>
 kL I v34 h8 fun v35 =>
 kN v11 fun v37 =>
 kF 0 v37 fun v38 =>
 kL I v38 h8 fun v39 =>
 kN v39 fun v40 =>
 kF 4 v40 fun v41 =>
 kL I v41 h8 fun v42 =>
 kI 3 v42 (Z 0) fun v43 =>
 kF 1 v43 fun v44 =>
 kL I v44 h8 fun v45 =>
 kC call 39 [] h8 fun v46 h9 =>
 bnd (sBuildSlice [Z 0, Z 0] 1 [(0, 2, v46)] h9) fun v47 h10 =>
 bnd (sAppend I 2 16 v45 v47 h10) fun v48 h11 =>
 kI 3 v35 (Z 0) fun v49 =>
 kF 1 v49 fun v50 =>
 kS 1 v50 v48 h11 fun _ h12 =>
 sCheck (sSame (lift (pLoad1 I v31 h9) h9) v32 && (sSame (lift (pLoad1 I v31 h10) h10) v32 && (sSame (lift (pLoad1 I v31 h11) h11) v32 && true))) (
 sCheck (sSame (lift (pLoad1 I v34 h9) h9) v35 && (sSame (lift (pLoad1 I v34 h10) h10) v35 && (sSame (lift (pLoad1 I v34 h11) h11) v35 && true))) (
 sCheck (sSame (lift (pLoad1 I v38 h9) h9) v39 && (sSame (lift (pLoad1 I v38 h10) h10) v39 && true)) (
 sCheck (sSame (lift (pLoad1 I v41 h9) h9) v42 && (sSame (lift (pLoad1 I v41 h10) h10) v42 && true)) (
 sCheck (sSame (lift (pLoad1 I v44 h9) h9) v45 && (sSame (lift (pLoad1 I v44 h10) h10) v45 && true)) (
 kC call 24 [Z 1] h12 fun v51 h13 =>
 kA [Z 0, Z 0, Z 0, Z 0, Z 0, .nils] h13 fun v6 h14 =>
 kS 6 v6 v51 h14 fun _ h15 =>
 sCond v0 (
 j.2.1 v0 v11 v6 h15) (
 kC call 20 [Z 1] h15 fun v53 h16 =>
 kS 6 v6 v53 h16 fun _ h17 =>
 j.2.1 v0 v11 v6 h17))))))
def f10.b1 : Lb J10 A3 := fun I call j v0 v4 v6 h =>
 kC call 23 [Z 0, Z 1] h fun v55 h1 =>
 kM I 6 v6 h1 fun v56 =>
 bndP (pBuild [Z 0, Z 0, Z 0, Z 0, Z 0, .nils] [(0, 1, Z 11), (1, 1, Z 2), (2, 1, Z 1)]) fun v57 =>
 bndP (pBuild [Z 0, Z 0, Z 0, Z 0, Z 0, .nils] [(0, 1, Z 14), (1, 1, Z 0), (2, 1, Z 2)]) fun v58 =>
 bnd (sBuildSlice [Z 0, Z 0, Z 0, Z 0, Z 0, .nils] 4 [(0, 6, v55), (6, 6, v56), (12, 6, v57), (18, 6, v58)] h1) fun v59 h2 =>
 kC call 34 [v4, Z 0, v59] h2 fun v60 h3 =>
 sCheck (sSame (lift (pLoadN I 6 v6 h) h) v56 && true) (
 kU .not v0 fun v62 =>
 sCond v62 (
 j.2.2 v4 h3) (
 kC call 29 [v4, .nils] h3 fun v64 h4 =>
 gV v64 .true v4 h4 fun v66 h5 =>
 gS v64 .true (call 30 [v66, .nils] h5) h5 fun v67 h6 =>
 gP v64 .true (pLenSl v67) h6 fun v68 h7 =>
 gP v64 .true (pBin .eql v68 (Z 0)) h7 fun v69 h8 =>
 kP v64 v69 bF fun v70 =>
 some (v70, h8)))
def f10.b2 : Lb J10 A1 := fun I call j v4 h =>
 bndP (pBuild [Z 0, Z 0] [(0, 1, Z 1), (1, 1, Z 3)]) fun v71 =>
 kA [Z 0, Z 0] h fun v7 h1 =>
 kS 2 v7 v71 h1 fun _ h2 =>
 sKeep 1 h2 fun h3 =>
 kM I 2 v7 h3 fun v73 =>
 bnd (sResvSlice (h2.next + 0) [Z 0, Z 0] 1 [(0, 2, v73)] h3) fun v74 h4 =>
 kC call 29 [v4, v74] h4 fun v75 h5 =>
 gV v75 .true v4 h5 fun v77 h6 =>
 gS v75 .true (call 30 [v77, .nils] h6) h6 fun v78 h7 =>
 gP v75 .true (pLoadN I 2 v7 h7) h7 fun v79 h8 =>
 gS v75 .true (sResvSlice (h2.next + 1) [Z 0, Z 0] 1 [(0, 2, v79)] h8) h8 fun v80 h9 =>
 gS v75 .true (call 31 [v78, v80] h9) h9 fun v81 h10 =>
 kP v75 v81 bF fun v82 =>
 sCheck (sSame (sGuard v75 .true (lift (pLoadN I 2 v7 h5) h5) h5) v79 && true) (
 some (v82, h10))
def f10.e : Lb J10 A1 := fun I call j v0 h =>
 kC call 17 [] h fun v8 h1 =>
 kU .not v8 fun v10 =>
 sCond v10 (
 j.1 v0 h1) (
 some (bF, h1))
def f10.T : Lb J10 J10 := fun I call j => (f10.b0 I call j, (f10.b1 I call j, f10.b2 I call j))
def f10.r : Inp → SF := runL f10.T f10.e
theorem f10.k : FOk P 10 f10.r := .of 3 ([0], ([0, 4, 6], [4]))
abbrev J11 := A1
def f11.b0 : Lb J11 A1 := fun I call j v0 h =>
 kC call 22 [v0, Z 2] h fun v15 h1 =>
 kC call 18 [Z 2, Z 0] h1 fun v16 h2 =>
 kN v16 fun v18 =>
 kF 0 v18 fun v19 =>
 kL I v19 h2 fun v20 =>
 kN v16 fun v22 =>
 kF 0 v22 fun v23 =>
 kL I v23 h2 fun v24 =>
 kN v24 fun v25 =>
 kF 0 v25 fun v26 =>
 kL I v26 h2 fun v27 =>
 kC call 40 [Z 2] h2 fun v28 h3 =>
 kC call 40 [Z 2] h3 fun v29 h4 =>
 bnd (sBuildSlice [Z 0, Z 0] 2 [(0, 2, v28), (2, 2, v29)] h4) fun v30 h5 =>
 bnd (sBuildSlice [.nils] 1 [(0, 1, v30)] h5) fun v31 h6 =>
 bnd (sAppend I 1 24 v27 v31 h6) fun v32 h7 =>
 kN v20 fun v33 =>
 kF 0 v33 fun v34 =>
 kS 1 v34 v32 h7 fun _ h8 =>
 sCheck (sSame (lift (pLoad1 I v19 h3) h3) v20 && (sSame (lift (pLoad1 I v19 h4) h4) v20 && (sSame (lift (pLoad1 I v19 h5) h5) v20 && (sSame (lift (pLoad1 I v19 h6) h6) v20 && (sSame (lift (pLoad1 I v19 h7) h7) v20 && true))))) (
 sCheck (sSame (lift (pLoad1 I v23 h3) h3) v24 && (sSame (lift (pLoad1 I v23 h4) h4) v24 && (sSame (lift (pLoad1 I v23 h5) h5) v24 && (sSame (lift (pLoad1 I v23 h6) h6) v24 && true)))) (
 sCheck (sSame (lift (pLoad1 I v26 h3) h3) v27 && (sSame (lift (pLoad1 I v26 h4) h4) v27 && (sSame (lift (pLoad1 I v26 h5) h5) v27 && (sSame (lift (pLoad1 I v26 h6) h6) v27 && true)))) (
 kN v16 fun v36 =>
 kF 0 v36 fun v37 =>
 kL I v37 h8 fun v38 =>
 kN v38 fun v39 =>
 kF 4 v39 fun v40 =>
 kL I v40 h8 fun v41 =>
 kI 3 v41 (Z 0) fun v42 =>
 kN v42 fun v45 =>
 kF 1 v45 fun v46 =>
 kL I v46 h8 fun v47 =>
 kC call 41 [Z 1] h8 fun v48 h9 =>
 kC call 40 [Z 2] h9 fun v49 h10 =>
 kC call 40 [Z 2] h10 fun v50 h11 =>
 kC call 40 [Z 2] h11 fun v51 h12 =>
 bnd (sBuildSlice [Z 0, Z 0] 4 [(0, 2, v48), (2, 2, v49), (4, 2, v50), (6, 2, v51)] h12) fun v52 h13 =>
 bnd (sAppend I 2 16 v47 v52 h13) fun v53 h14 =>
 kN v42 fun v54 =>
 kF 1 v54 fun v55 =>
 kS 1 v55 v53 h14 fun _ h15 =>
 sCheck (sSame (lift (pLoad1 I v46 h9) h9) v47 && (sSame (lift (pLoad1 I v46 h10) h10) v47 && (sSame (lift (pLoad1 I v46 h11) h11) v47 && (sSame (lift (pLoad1 I v46 h12) h12) v47 && (sSame (lift (pLoad1 I v46 h13) h13) v47 && true))))) (
 kC call 33 [v16, Z 2, Z 0, Z 0] h15 fun v57 h16 =>
 kC call 33 [v16, Z 2, Z 0, Z 0] h16 fun v59 h17 =>
 kC call 23 [Z 0, Z 1] h17 fun v61 h18 =>
 kC call 24 [Z 2] h18 fun v62 h19 =>
 bndP (pBuild [Z 0, Z 0, Z 0, Z 0, Z 0, .nils] [(0, 1, Z 10), (1, 1, Z 3), (4, 1, v57)]) fun v64 =>
 bndP (pBuild [Z 0, Z 0, Z 0, Z 0, Z 0, .nils] [(0, 1, Z 10), (1, 1, Z 4), (4, 1, v59)]) fun v66 =>
 kC call 26 [Z 2, Z 0, Z 3] h19 fun v67 h20 =>
 kC call 26 [Z 2, Z 1, Z 4] h20 fun v68 h21 =>
 kC call 35 [Z 5, Z 2, v15] h21 fun v70 h22 =>
 bnd (sBuildSlice [Z 0] 1 [(0, 1, Z 0)] h22) fun v71 h23 =>
 bndP (pBuild [Z 0, Z 0, Z 0, Z 0, Z 0, .nils] [(0, 1, Z 13), (1, 1, Z 1), (2, 1, Z 5), (5, 1, v71)]) fun v72 =>
 bnd (sBuildSlice [Z 0, Z 0, Z 0, Z 0, Z 0, .nils] 8 [(0, 6, v61), (6, 6, v62), (12, 6, v64), (18, 6, v66), (24, 6, v67), (30, 6, v68), (36, 6, v70), (42, 6, v72)] h23) fun v73 h24 =>
 kC call 34 [v16, Z 0, v73] h24 fun v74 h25 =>
 kN v16 fun v77 =>
 kF 0 v77 fun v78 =>
 kL I v78 h25 fun v79 =>
 kC call 38 [v79, .nils] h25 fun v80 h26 =>
 kX v80 0 fun v81 =>
 kX v80 1 fun v82 =>
 bndP (pEq P .false .iface .true v82 .nili h26) fun v84 =>
 gV v84 .true v81 h26 fun v86 h27 =>
 gP v84 .true (pNilCheck v86) h27 fun v87 h28 =>
 gP v84 .true (pFieldAddr 1 v87) h28 fun v88 h29 =>
 gP v84 .true (pLoad1 I v88 h29) h29 fun v89 h30 =>
 gP v84 .true (pLenSl v89) h30 fun v90 h31 =>
 gP v84 .true (pBin .eql v90 (Z 1)) h31 fun v91 h32 =>
 kP v84 v91 bF fun v92 =>
 gV v92 .true v81 h32 fun v94 h33 =>
 gP v92 .true (pNilCheck v94) h33 fun v95 h34 =>
 gP v92 .true (pFieldAddr 1 v95) h34 fun v96 h35 =>
 gP v92 .true (pLoad1 I v96 h35) h35 fun v97 h36 =>
 gP v92 .true (pIndexAddr 2 v97 (Z 0)) h36 fun v98 h37 =>
 gP v92 .true (pFieldAddr 0 v98) h37 fun v99 h38 =>
 gP v92 .true (pLoad1 I v99 h38) h38 fun v100 h39 =>
 gP v92 .true (pBin .eql v100 (Z 7)) h39 fun v101 h40 =>
 kP v92 v101 bF fun v102 =>
 gV v102 .true v81 h40 fun v104 h41 =>
 gP v102 .true (pNilCheck v104) h41 fun v105 h42 =>
 gP v102 .true (pFieldAddr 1 v105) h42 fun v106 h43 =>
 gP v102 .true (pLoad1 I v106 h43) h43 fun v107 h44 =>
 gP v102 .true (pIndexAddr 2 v107 (Z 0)) h44 fun v108 h45 =>
 gP v102 .true (pFieldAddr 1 v108) h45 fun v109 h46 =>
 gP v102 .true (pLoad1 I v109 h46) h46 fun v110 h47 =>
 gV v102 .true v57 h47 fun v111 h48 =>
 gV v102 .true v59 h48 fun v112 h49 =>
 gS v102 .true (sBuildSlice [Z 0] 2 [(0, 1, v111), (1, 1, v112)] h49) h49 fun v113 h50 =>
 gV v102 .true v15 h50 fun v114 h51 =>
 gP v102 .true (pIndexAddr 1 v113 v114) h51 fun v115 h52 =>
 gP v102 .true (pLoad1 I v115 h52) h52 fun v116 h53 =>
 gP v102 .true (pBin .eql v110 v116) h53 fun v117 h54 =>
 kP v102 v117 bF fun v118 =>
 gV v118 .true v16 h54 fun v120 h55 =>
 gS v118 .true (call 30 [v120, .nils] h55) h55 fun v121 h56 =>
 gP v118 .true (pLenSl v121) h56 fun v122 h57 =>
 gP v118 .true (pBin .eql v122 (Z 0)) h57 fun v123 h58 =>
 kP v118 v123 bF fun v124 =>
 sCheck (sSame (sGuard v102 .true (lift (pLoad1 I v106 h50) h50) h50) v107 && true) (
 sCheck (sSame (sGuard v102 .true (lift (pLoad1 I v109 h50) h50) h50) v110 && true) (
 some (v124, h58)))))))
def f11.e : Lb J11 A1 := fun I call j v0 h =>
 kC call 17 [] h fun v11 h1 =>
 kU .not v11 fun v13 =>
 sCond v13 (
 j v0 h1) (
 some (bF, h1))
def f11.T : Lb J11 J11 := fun I call j => f11.b0 I call j
def f11.r : Inp → SF := runL f11.T f11.e
theorem f11.k : FOk P 11 f11.r := .of 1 [0]
abbrev J15 := (((A2 × A3) × (A4 × A4)) × ((A4 × A2) × (A5 × (A5 × A5))))
def f15.b0 : Lb J15 A2 := fun I call j v0 v1 h =>
 kC call 22 [v0, Z 6] h fun v16 h1 =>
 kB .add (Z 2) v16 fun v17 =>
 kC call 22 [v1, v17] h1 fun v20 h2 =>
 kC call 18 [Z 3, v17] h2 fun v22 h3 =>
 kC call 23 [Z 0, Z 1] h3 fun v24 h4 =>
 kC call 21 [Z 1] h4 fun v25 h5 =>
 bnd (sBuildSlice [Z 0, Z 0, Z 0, Z 0, Z 0, .nils] 2 [(0, 6, v24), (6, 6, v25)] h5) fun v26 h6 =>
 kC call 34 [v22, Z 0, v26] h6 fun v27 h7 =>
 j.1.2.1 v17 v20 v22 (Z 0) h7
def f15.b1 : Lb J15 A3 := fun I call j v0 v6 v7 h =>
 kB .add (Z 3) v6 fun v41 =>
 kC call 26 [v41, Z 0, Z 1] h fun v42 h1 =>
 bnd (sBuildSlice [Z 0, Z 0, Z 0, Z 0, Z 0, .nils] 1 [(0, 6, v42)] h1) fun v43 h2 =>
 kC call 34 [v7, Z 0, v43] h2 fun v44 h3 =>
 j.2.2.1 v0 v6 v7 .nils (Z 0) h3
def f15.b2 : Lb J15 A4 := fun I call j v0 v6 v7 v8 h =>
 kB .lss v8 v0 fun v30 =>
 sCond v30 (
 j.1.1.2 v0 v6 v7 h) (
 j.1.2.2 v0 v6 v7 v8 h)
def f15.b3 : Lb J15 A4 := fun I call j v0 v6 v7 v8 h =>
 kB .add (Z 3) v8 fun v35 =>
 kC call 24 [v35] h fun v36 h1 =>
 bnd (sBuildSlice [Z 0, Z 0, Z 0, Z 0, Z 0, .nils] 1 [(0, 6, v36)] h1) fun v37 h2 =>
 kC call 34 [v7, Z 0, v37] h2 fun v38 h3 =>
 j.2.1.1 v0 v6 v7 v8 h3
def f15.b4 : Lb J15 A4 := fun I call j v0 v6 v7 v8 h =>
 kB .add v8 (Z 1) fun v32 =>
 j.1.2.1 v0 v6 v7 v32 h
def f15.b5 : Lb J15 A2 := fun I call j v7 v9 h =>
 kC call 29 [v7, v9] h fun v82 h1 =>
 gV v82 .true v7 h1 fun v84 h2 =>
 gS v82 .true (sBuildSlice [Z 0] 1 [(0, 1, Z 5)] h2) h2 fun v85 h3 =>
 gS v82 .true (call 30 [v84, v85] h3) h3 fun v86 h4 =>
 gV v82 .true v9 h4 fun v87 h5 =>
 gS v82 .true (call 31 [v86, v87] h5) h5 fun v88 h6 =>
 kP v82 v88 bF fun v89 =>
 some (v89, h6)
def f15.b6 : Lb J15 A5 := fun I call j v0 v6 v7 v9 v10 h =>
 kB .lss v10 v0 fun v47 =>
 sCond v47 (
 j.2.1.2 v7 v9 h) (
 j.2.2.2.1 v0 v6 v7 v9 v10 h)
def f15.b7 : Lb J15 A5 := fun I call j v0 v6 v7 v9 v10 h =>
 kN v7 fun v51 =>
 kF 0 v51 fun v52 =>
 kL I v52 h fun v53 =>
 kN v53 fun v54 =>
 kF 4 v54 fun v55 =>
 kL I v55 h fun v56 =>
 kI 3 v56 (Z 0) fun v57 =>
 kF 2 v57 fun v58 =>
 kL I v58 h fun v59 =>
 kI 5 v59 (Z 0) fun v60 =>
 kF 0 v60 fun v61 =>
 kL I v61 h fun v62 =>
 kZ v62 fun v63 =>
 kB .add (Z 3) v10 fun v66 =>
 kC call 35 [Z 2, v66, Z 0] h fun v67 h1 =>
 kC call 27 [Z 2] h1 fun v68 h2 =>
 bnd (sBuildSlice [Z 0, Z 0, Z 0, Z 0, Z 0, .nils] 2 [(0, 6, v67), (6, 6, v68)] h2) fun v69 h3 =>
 kC call 34 [v7, Z 0, v69] h3 fun v70 h4 =>
 kB .eql v10 v6 fun v73 =>
 sCond v73 (
 j.2.2.2.2 v0 v6 v7 v9 v10 h4) (
 kB .add v63 (Z 1) fun v76 =>
 bndP (pBuild [Z 0, Z 0] [(0, 1, Z 3), (1, 1, v76)]) fun v77 =>
 bnd (sBuildSlice [Z 0, Z 0] 1 [(0, 2, v77)] h4) fun v78 h5 =>
 bnd (sAppend I 2 16 v9 v78 h5) fun v79 h6 =>
 j.2.2.2.2 v0 v6 v7 v79 v10 h6)
def f15.b8 : Lb J15 A5 := fun I call j v0 v6 v7 v9 v10 h =>
 kB .add v10 (Z 1) fun v49 =>
 j.2.2.1 v0 v6 v7 v9 v49 h
def f15.e : Lb J15 A2 := fun I call j v0 v1 h =>
 kC call 17 [] h fun v12 h1 =>
 kU .not v12 fun v14 =>
 sCond v14 (
 j.1.1.1 v0 v1 h1) (
 some (bF, h1))
def f15.T : Lb J15 J15 := fun I call j => (((f15.b0 I call j, f15.b1 I call j), (f15.b2 I call j, f15.b3 I call j)), ((f15.b4 I call j, f15.b5 I call j), (f15.b6 I call j, (f15.b7 I call j, f15.b8 I call j))))
def f15.r : Inp → SF := runL f15.T f15.e
theorem f15.k : FOk P 15 f15.r := .of 9 ((([0, 1], [0, 6, 7]), ([0, 6, 7, 8], [0, 6, 7, 8])), (([0, 6, 7, 8], [7, 9]), ([0, 6, 7, 9, 10], ([0, 6, 7, 9, 10], [0, 6, 7, 9, 10]))))
abbrev J16 := (((A1 × A2) × (A4 × A4)) × ((A4 × A2) × (A4 × (A4 × A4))))
def f16.b0 : Lb J16 A1 := fun I call j v0 h =>
 kC call 22 [v0, Z 5] h fun v15 h1 =>
 kB .add (Z 1) v15 fun v16 =>
 kB .add v16 (Z 1) fun v18 =>
 kC call 18 [Z 2, v18] h1 fun v19 h2 =>
 kC call 33 [v19, Z 3, Z 0, Z 1] h2 fun v21 h3 =>
 kN v19 fun v23 =>
 kF 0 v23 fun v24 =>
 kL I v24 h3 fun v25 =>
 kN v25 fun v26 =>
 kF 4 v26 fun v27 =>
 kL I v27 h3 fun v28 =>
 kI 3 v28 v21 fun v30 =>
 kF 2 v30 fun v31 =>
 kL I v31 h3 fun v32 =>
 kI 5 v32 (Z 0) fun v33 =>
 kF 2 v33 fun v34 =>
 kS 1 v34 (Z 1) h3 fun _ h4 =>
 kC call 24 [Z 1] h4 fun v37 h5 =>
 bnd (sBuildSlice [Z 0, Z 0, Z 0, Z 0, Z 0, .nils] 1 [(0, 6, v37)] h5) fun v38 h6 =>
 kC call 34 [v19, v21, v38] h6 fun v39 h7 =>
 kC call 23 [Z 0, Z 1] h7 fun v41 h8 =>
 kC call 21 [Z 1] h8 fun v42 h9 =>
 kC call 24 [Z 2] h9 fun v43 h10 =>
 bnd (sBuildSlice [Z 0, Z 0, Z 0, Z 0, Z 0, .nils] 3 [(0, 6, v41), (6, 6, v42), (12, 6, v43)] h10) fun v44 h11 =>
 kC call 34 [v19, Z 0, v44] h11 fun v45 h12 =>
 j.1.2.1 v16 v19 v21 (Z 0) h12
def f16.b1 : Lb J16 A2 := fun I call j v0 v4 h =>
 kC call 26 [Z 3, Z 0, Z 1] h fun v60 h1 =>
 bnd (sBuildSlice [Z 0, Z 0, Z 0, Z 0, Z 0, .nils] 1 [(0, 6, v60)] h1) fun v61 h2 =>
 kC call 34 [v4, Z 0, v61] h2 fun v62 h3 =>
 j.2.2.1 v0 v4 .nils (Z 0) h3
def f16.b2 : Lb J16 A4 := fun I call j v0 v4 v5 v6 h =>
 kB .lss v6 v0 fun v48 =>
 sCond v48 (
 j.1.1.2 v0 v4 h) (
 j.1.2.2 v0 v4 v5 v6 h)
def f16.b3 : Lb J16 A4 := fun I call j v0 v4 v5 v6 h =>
 kB .add (Z 3) v6 fun v53 =>
 bnd (sBuildSlice [Z 0] 1 [(0, 1, Z 2)] h) fun v55 h1 =>
 kC call 36 [v53, v5, v55] h1 fun v56 h2 =>
 bnd (sBuildSlice [Z 0, Z 0, Z 0, Z 0, Z 0, .nils] 1 [(0, 6, v56)] h2) fun v57 h3 =>
 kC call 34 [v4, Z 0, v57] h3 fun v58 h4 =>
 j.2.1.1 v0 v4 v5 v6 h4
def f16.b4 : Lb J16 A4 := fun I call j v0 v4 v5 v6 h =>
 kB .add v6 (Z 1) fun v50 =>
 j.1.2.1 v0 v4 v5 v50 h
def f16.b5 : Lb J16 A2 := fun I call j v4 v7 h =>
 bnd (sBuildSlice [Z 0] 1 [(0, 1, Z 5)] h) fun v96 h1 =>
 kC call 30 [v4, v96] h1 fun v97 h2 =>
 kC call 29 [v4, v7] h2 fun v100 h3 =>
 gV v100 .true v97 h3 fun v102 h4 =>
 gP v100 .true (pLenSl v102) h4 fun v103 h5 =>
 gP v100 .true (pBin .eql v103 (Z 1)) h5 fun v104 h6 =>
 kP v100 v104 bF fun v105 =>
 gV v105 .true v97 h6 fun v107 h7 =>
 gP v105 .true (pIndexAddr 2 v107 (Z 0)) h7 fun v108 h8 =>
 gP v105 .true (pFieldAddr 1 v108) h8 fun v109 h9 =>
 gP v105 .true (pLoad1 I v109 h9) h9 fun v110 h10 =>
 gV v105 .true v7 h10 fun v111 h11 =>
 gP v105 .true (pIndexAddr 2 v111 (Z 0)) h11 fun v112 h12 =>
 gP v105 .true (pFieldAddr 1 v112) h12 fun v113 h13 =>
 gP v105 .true (pLoad1 I v113 h13) h13 fun v114 h14 =>
 gP v105 .true (pBin .eql v110 v114) h14 fun v115 h15 =>
 kP v105 v115 bF fun v116 =>
 some (v116, h15)
def f16.b6 : Lb J16 A4 := fun I call j v0 v4 v7 v8 h =>
 kB .lss v8 v0 fun v65 =>
 sCond v65 (
 j.2.1.2 v4 v7 h) (
 j.2.2.2.1 v0 v4 v7 v8 h)
def f16.b7 : Lb J16 A4 := fun I call j v0 v4 v7 v8 h =>
 kN v4 fun v69 =>
 kF 0 v69 fun v70 =>
 kL I v70 h fun v71 =>
 kN v71 fun v72 =>
 kF 4 v72 fun v73 =>
 kL I v73 h fun v74 =>
 kI 3 v74 (Z 0) fun v75 =>
 kF 2 v75 fun v76 =>
 kL I v76 h fun v77 =>
 kI 5 v77 (Z 0) fun v78 =>
 kF 0 v78 fun v79 =>
 kL I v79 h fun v80 =>
 kZ v80 fun v81 =>
 kB .add (Z 3) v8 fun v84 =>
 kC call 35 [Z 0, v84, Z 0] h fun v85 h1 =>
 kC call 27 [Z 0] h1 fun v86 h2 =>
 bnd (sBuildSlice [Z 0, Z 0, Z 0, Z 0, Z 0, .nils] 2 [(0, 6, v85), (6, 6, v86)] h2) fun v87 h3 =>
 kC call 34 [v4, Z 0, v87] h3 fun v88 h4 =>
 kB .add v81 (Z 1) fun v91 =>
 bndP (pBuild [Z 0, Z 0] [(0, 1, Z 3), (1, 1, v91)]) fun v92 =>
 bnd (sBuildSlice [Z 0, Z 0] 1 [(0, 2, v92)] h4) fun v93 h5 =>
 bnd (sAppend I 2 16 v7 v93 h5) fun v94 h6 =>
 j.2.2.2.2 v0 v4 v94 v8 h6
def f16.b8 : Lb J16 A4 := fun I call j v0 v4 v7 v8 h =>
 kB .add v8 (Z 1) fun v67 =>
 j.2.2.1 v0 v4 v7 v67 h
def f16.e : Lb J16 A1 := fun I call j v0 h =>
 kC call 17 [] h fun v11 h1 =>
 kU .not v11 fun v13 =>
 sCond v13 (
 j.1.1.1 v0 h1) (
 some (bF, h1))
def f16.T : Lb J16 J16 := fun I call j => (((f16.b0 I call j, f16.b1 I call j), (f16.b2 I call j, f16.b3 I call j)), ((f16.b4 I call j, f16.b5 I call j), (f16.b6 I call j, (f16.b7 I call j, f16.b8 I call j))))
def f16.r : Inp → SF := runL f16.T f16.e
theorem f16.k : FOk P 16 f16.r := .of 9 ((([0], [0, 4]), ([0, 4, 5, 6], [0, 4, 5, 6])), (([0, 4, 5, 6], [4, 7]), ([0, 4, 7, 8], ([0, 4, 7, 8], [0, 4, 7, 8]))))
def f17.e : Lb Unit A0 := fun I call j h =>
 kC call 46 [] h fun v1 h1 =>
 some (v1, h1)
def f17.T : Lb Unit Unit := fun I call j => ()
def f17.r : Inp → SF := runL f17.T f17.e
theorem f17.k : FOk P 17 f17.r := .of 0 ()
def f18.e : Lb Unit A2 := fun I call j v0 v1 h =>
 bndP (pBuild [Z 0, Z 0] []) fun v7 =>
 bndP (pBuild [Z 0, Z 0] []) fun v8 =>
 kC call 41 [Z 0] h fun v9 h1 =>
 bnd (sBuildSlice [Z 0, Z 0] 3 [(0, 2, v7), (2, 2, v8), (4, 2, v9)] h1) fun v10 h2 =>
 bnd (sBuildSlice [.nils] 1 [(0, 1, v10)] h2) fun v11 h3 =>
 bndP (pBuild [.nils, Z 0, Z 0] []) fun v12 =>
 kC call 41 [Z 0] h3 fun v13 h4 =>
 bnd (sBuildSlice [Z 0, Z 0] 1 [(0, 2, v13)] h4) fun v14 h5 =>
 bndP (pBuild [.nils, Z 0, Z 0] [(0, 1, v14)]) fun v15 =>
 bndP (pBuild [Z 0, Z 0] []) fun v16 =>
 bnd (sBuildSlice [Z 0, Z 0] 1 [(0, 2, v16)] h5) fun v17 h6 =>
 bndP (pBuild [.nils, Z 0, Z 0] [(0, 1, v17)]) fun v18 =>
 kC call 41 [Z 0] h6 fun v19 h7 =>
 bnd (sBuildSlice [Z 0, Z 0] 1 [(0, 2, v19)] h7) fun v20 h8 =>
 kC call 41 [Z 0] h8 fun v21 h9 =>
 bndP (pBuild [.nils, Z 0, Z 0] [(0, 1, v20), (1, 2, v21)]) fun v22 =>
 bnd (sBuildSlice [.nils, Z 0, Z 0] 4 [(0, 3, v12), (3, 3, v15), (6, 3, v18), (9, 3, v22)] h9) fun v23 h10 =>
 bnd (sBuildSlice [Z 0] 1 [(0, 1, Z 0)] h10) fun v24 h11 =>
 bndP (pBuild [.nils] [(0, 1, v24)]) fun v25 =>
 bnd (sBuildSlice [.nils] 1 [(0, 1, v25)] h11) fun v26 h12 =>
 bndP (pBuild [.nils, .nils, .nils, .nils, .nils, Z 0] [(0, 1, v11), (1, 1, v23), (2, 1, v26)]) fun v27 =>
 bnd (sBox v27 h12) fun v28 h13 =>
 bndP (pBuild [.nilp] [(0, 1, v28)]) fun v30 =>
 bnd (sBox v30 h13) fun v31 h14 =>
 kC call 33 [v31, Z 0, v0, v1] h14 fun v35 h15 =>
 some (v31, h15)
def f18.T : Lb Unit Unit := fun I call j => ()
def f18.r : Inp → SF := runL f18.T f18.e
theorem f18.k : FOk P 18 f18.r := .of 0 ()
def f19.e : Lb Unit A1 := fun I call j v0 h =>
 kA [Z 0, Z 0, Z 0, Z 0, Z 0, .nils] h fun v2 h1 =>
 bndP (pBuild [Z 0, Z 0, Z 0, Z 0, Z 0, .nils] [(0, 1, Z 9), (2, 1, v0)]) fun v4 =>
 kS 6 v2 v4 h1 fun _ h2 =>
 sRet (sCons (sResN I 6 v2 h2) (some [])) h2
def f19.T : Lb Unit Unit := fun I call j => ()
def f19.r : Inp → SF := runL f19.T f19.e
theorem f19.k : FOk P 19 f19.r := .of 0 ()
def f20.e : Lb Unit A1 := fun I call j v0 h =>
 kA [Z 0, Z 0, Z 0, Z 0, Z 0, .nils] h fun v2 h1 =>
 bndP (pBuild [Z 0, Z 0, Z 0, Z 0, Z 0, .nils] [(0, 1, Z 4), (1, 1, v0)]) fun v4 =>
 kS 6 v2 v4 h1 fun _ h2 =>
 sRet (sCons (sResN I 6 v2 h2) (some [])) h2
def f20.T : Lb Unit Unit := fun I call j => ()
def f20.r : Inp → SF := runL f20.T f20.e
theorem f20.k : FOk P 20 f20.r := .of 0 ()
def f21.e : Lb Unit A1 := fun I call j v0 h =>
 kA [Z 0, Z 0, Z 0, Z 0, Z 0, .nils] h fun v2 h1 =>
 bndP (pBuild [Z 0, Z 0, Z 0, Z 0, Z 0, .nils] [(0, 1, Z 3), (1, 1, v0)]) fun v4 =>
 kS 6 v2 v4 h1 fun _ h2 =>
 sRet (sCons (sResN I 6 v2 h2) (some [])) h2
def f21.T : Lb Unit Unit := fun I call j => ()
def f21.r : Inp → SF := runL f21.T f21.e
theorem f21.k : FOk P 21 f21.r := .of 0 ()
def f23.e : Lb Unit A2 := fun I call j v0 v1 h =>
 kA [Z 0, Z 0, Z 0, Z 0, Z 0, .nils] h fun v4 h1 =>
 bndP (pBuild [Z 0, Z 0, Z 0, Z 0, Z 0, .nils] [(0, 1, Z 1), (1, 1, v0), (4, 1, v1)]) fun v7 =>
 kS 6 v4 v7 h1 fun _ h2 =>
 sRet (sCons (sResN I 6 v4 h2) (some [])) h2
def f23.T : Lb Unit Unit := fun I call j => ()
def f23.r : Inp → SF := runL f23.T f23.e
theorem f23.k : FOk P 23 f23.r := .of 0 ()
def f24.e : Lb Unit A1 := fun I call j v0 h =>
 kA [Z 0, Z 0, Z 0, Z 0, Z 0, .nils] h fun v2 h1 =>
 bndP (pBuild [Z 0, Z 0, Z 0, Z 0, Z 0, .nils] [(0, 1, Z 5), (1, 1, v0)]) fun v4 =>
 kS 6 v2 v4 h1 fun _ h2 =>
 sRet (sCons (sResN I 6 v2 h2) (some [])) h2
def f24.T : Lb Unit Unit := fun I call j => ()
def f24.r : Inp → SF := runL f24.T f24.e
theorem f24.k : FOk P 24 f24.r := .of 0 ()
def f25.e : Lb Unit A2 := fun I call j v0 v1 h =>
 kA [Z 0, Z 0, Z 0, Z 0, Z 0, .nils] h fun v4 h1 =>
 bndP (pBuild [Z 0, Z 0, Z 0, Z 0, Z 0, .nils] [(0, 1, Z 6), (1, 1, v0), (2, 1, v1)]) fun v7 =>
 kS 6 v4 v7 h1 fun _ h2 =>
 sRet (sCons (sResN I 6 v4 h2) (some [])) h2
def f25.T : Lb Unit Unit := fun I call j => ()
def f25.r : Inp → SF := runL f25.T f25.e
theorem f25.k : FOk P 25 f25.r := .of 0 ()
def f26.e : Lb Unit A3 := fun I call j v0 v1 v2 h =>
 kA [Z 0, Z 0, Z 0, Z 0, Z 0, .nils] h fun v6 h1 =>
 bndP (pBuild [Z 0, Z 0, Z 0, Z 0, Z 0, .nils] [(0, 1, Z 8), (2, 1, v0), (4, 1, v1), (3, 1, v2)]) fun v10 =>
 kS 6 v6 v10 h1 fun _ h2 =>
 sRet (sCons (sResN I 6 v6 h2) (some [])) h2
def f26.T : Lb Unit Unit := fun I call j => ()
def f26.r : Inp → SF := runL f26.T f26.e
theorem f26.k : FOk P 26 f26.r := .of 0 ()
def f27.e : Lb Unit A1 := fun I call j v0 h =>
 kA [Z 0, Z 0, Z 0, Z 0, Z 0, .nils] h fun v2 h1 =>
 bndP (pBuild [Z 0, Z 0, Z 0, Z 0, Z 0, .nils] [(0, 1, Z 15), (2, 1, v0)]) fun v4 =>
 kS 6 v2 v4 h1 fun _ h2 =>
 sRet (sCons (sResN I 6 v2 h2) (some [])) h2
def f27.T : Lb Unit Unit := fun I call j => ()
def f27.r : Inp → SF := runL f27.T f27.e
theorem f27.k : FOk P 27 f27.r := .of 0 ()
abbrev J28 := ((A0 × A3) × (A3 × A3))
def f28.b0 : Lb J28 A0 := fun I call j h =>
 some ((.int .i64 (.negSucc 0)), h)
def f28.b1 : Lb J28 A3 := fun I call j v3 v5 v6 h =>
 kZ v5 fun v11 =>
 kB .lss v6 v11 fun v12 =>
 sCond v12 (
 j.1.1 h) (
 j.2.1 v3 v5 v6 h)
def f28.b2 : Lb J28 A3 := fun I call j v3 v5 v6 h =>
 kI 3 v5 v6 fun v17 =>
 kF 0 v17 fun v18 =>
 kL I v18 h fun v19 =>
 kF 0 v3 fun v20 =>
 kL I v20 h fun v21 =>
 kB .eql v19 v21 fun v22 =>
 gV v22 .true v5 h fun v24 h1 =>
 gV v22 .true v6 h1 fun v25 h2 =>
 gP v22 .true (pIndexAddr 3 v24 v25) h2 fun v26 h3 =>
 gP v22 .true (pFieldAddr 1 v26) h3 fun v27 h4 =>
 gP v22 .true (pLoad1 I v27 h4) h4 fun v28 h5 =>
 gP v22 .true (pFieldAddr 1 v3) h5 fun v29 h6 =>
 gP v22 .true (pLoad1 I v29 h6) h6 fun v30 h7 =>
 gP v22 .true (pBin .eql v28 v30) h7 fun v31 h8 =>
 kP v22 v31 bF fun v32 =>
 gV v32 .true v5 h8 fun v34 h9 =>
 gV v32 .true v6 h9 fun v35 h10 =>
 gP v32 .true (pIndexAddr 3 v34 v35) h10 fun v36 h11 =>
 gP v32 .true (pFieldAddr 2 v36) h11 fun v37 h12 =>
 gP v32 .true (pLoad1 I v37 h12) h12 fun v38 h13 =>
 gP v32 .true (pFieldAddr 2 v3) h13 fun v39 h14 =>
 gP v32 .true (pLoad1 I v39 h14) h14 fun v40 h15 =>
 gP v32 .true (pBin .eql v38 v40) h15 fun v41 h16 =>
 kP v32 v41 bF fun v42 =>
 sCond v42 (
 j.2.2 v3 v5 v6 h16) (
 some (v6, h16))
def f28.b3 : Lb J28 A3 := fun I call j v3 v5 v6 h =>
 kB .add v6 (Z 1) fun v14 =>
 j.1.2 v3 v5 v14 h
def f28.e : Lb J28 A2 := fun I call j v0 v1 h =>
 bnd (sBox v1 h) fun v3 h1 =>
 kC call 47 [v0] h1 fun v8 h2 =>
 j.1.2 v3 v8 (Z 0) h2
def f28.T : Lb J28 J28 := fun I call j => ((f28.b0 I call j, f28.b1 I call j), (f28.b2 I call j, f28.b3 I call j))
def f28.r : Inp → SF := runL f28.T f28.e
theorem f28.k : FOk P 28 f28.r := .of 4 (([], [3, 5, 6]), ([3, 5, 6], [3, 5, 6]))
def f29.e : Lb Unit A2 := fun I call j v0 v1 h =>
 kC call 44 [v0] h fun v9 h1 =>
 kX v9 0 fun v10 =>
 kX v9 1 fun v11 =>
 gV v11 .true v10 h1 fun v14 h2 =>
 gV v11 .true v1 h2 fun v15 h3 =>
 gS v11 .true (call 31 [v14, v15] h3) h3 fun v16 h4 =>
 kP v11 v16 bF fun v17 =>
 some (v17, h4)
def f29.T : Lb Unit Unit := fun I call j => ()
def f29.r : Inp → SF := runL f29.T f29.e
theorem f29.k : FOk P 29 f29.r := .of 0 ()
def f30.e : Lb Unit A2 := fun I call j v0 v1 h =>
 kN v0 fun v6 =>
 kF 0 v6 fun v7 =>
 kL I v7 h fun v8 =>
 kC call 48 [v8, v1, Z 3000] h fun v10 h1 =>
 some (v10, h1)
def f30.T : Lb Unit Unit := fun I call j => ()
def f30.r : Inp → SF := runL f30.T f30.e
theorem f30.k : FOk P 30 f30.r := .of 0 ()
abbrev J31 := ((A2 × A0) × (A3 × (A3 × A3)))
def f31.b0 : Lb J31 A2 := fun I call j v0 v1 h =>
 j.2.1 v0 v1 (Z 0) h
def f31.b1 : Lb J31 A0 := fun I call j h =>
 some (bT, h)
def f31.b2 : Lb J31 A3 := fun I call j v0 v1 v5 h =>
 kZ v0 fun v13 =>
 kB .lss v5 v13 fun v14 =>
 sCond v14 (
 j.1.2 h) (
 j.2.2.1 v0 v1 v5 h)
def f31.b3 : Lb J31 A3 := fun I call j v0 v1 v5 h =>
 kI 2 v0 v5 fun v19 =>
 kF 0 v19 fun v20 =>
 kL I v20 h fun v21 =>
 kI 2 v1 v5 fun v24 =>
 kF 0 v24 fun v25 =>
 kL I v25 h fun v26 =>
 kB .neq v21 v26 fun v27 =>
 gV v27 .false v0 h fun v29 h1 =>
 gV v27 .false v5 h1 fun v30 h2 =>
 gP v27 .false (pIndexAddr 2 v29 v30) h2 fun v31 h3 =>
 gP v27 .false (pFieldAddr 1 v31) h3 fun v32 h4 =>
 gP v27 .false (pLoad1 I v32 h4) h4 fun v33 h5 =>
 gV v27 .false v1 h5 fun v34 h6 =>
 gV v27 .false v5 h6 fun v35 h7 =>
 gP v27 .false (pIndexAddr 2 v34 v35) h7 fun v36 h8 =>
 gP v27 .false (pFieldAddr 1 v36) h8 fun v37 h9 =>
 gP v27 .false (pLoad1 I v37 h9) h9 fun v38 h10 =>
 gP v27 .false (pBin .neq v33 v38) h10 fun v39 h11 =>
 kP v27 bT v39 fun v40 =>
 sCond v40 (
 j.2.2.2 v0 v1 v5 h11) (
 some (bF, h11))
def f31.b4 : Lb J31 A3 := fun I call j v0 v1 v5 h =>
 kB .add v5 (Z 1) fun v16 =>
 j.2.1 v0 v1 v16 h
def f31.e : Lb J31 A2 := fun I call j v0 v1 h =>
 kZ v0 fun v7 =>
 kZ v1 fun v9 =>
 kB .neq v7 v9 fun v10 =>
 sCond v10 (
 j.1.1 v0 v1 h) (
 some (bF, h))
def f31.T : Lb J31 J31 := fun I call j => ((f31.b0 I call j, f31.b1 I call j), (f31.b2 I call j, (f31.b3 I call j, f31.b4 I call j)))
def f31.r : Inp → SF := runL f31.T f31.e
theorem f31.k : FOk P 31 f31.r := .of 5 (([0, 1], []), ([0, 1, 5], ([0, 1, 5], [0, 1, 5])))
def f32.e : Lb Unit A3 := fun I call j v0 v1 v2 h =>
 kA [Z 0, Z 0, Z 0, Z 0, Z 0, .nils] h fun v6 h1 =>
 bndP (pBuild [Z 0, Z 0, Z 0, Z 0, Z 0, .nils] [(0, 1, Z 2), (1, 1, v0), (2, 1, v1), (3, 1, v2)]) fun v10 =>
 kS 6 v6 v10 h1 fun _ h2 =>
 sRet (sCons (sResN I 6 v6 h2) (some [])) h2
def f32.T : Lb Unit Unit := fun I call j => ()
def f32.r : Inp → SF := runL f32.T f32.e
theorem f32.k : FOk P 32 f32.r := .of 0 ()
abbrev J33 := (((A4 × (A6 × A6)) × (A6 × (A3 × A5))) × ((A5 × (A5 × A3)) × (A5 × (A5 × A5))))
def f33.b0 : Lb J33 A4 := fun I call j v0 v3 v9 v10 h =>
 j.1.2.2.2 v0 v3 v9 v10 (Z 0) h
def f33.b1 : Lb J33 A6 := fun I call j v0 v2 v3 v9 v10 v11 h =>
 kB .lss v11 v2 fun v32 =>
 sCond v32 (
 j.1.1.1 v0 v3 v9 v10 h) (
 j.1.1.2.2 v0 v2 v3 v9 v10 v11 h)
def f33.b2 : Lb J33 A6 := fun I call j v0 v2 v3 v9 v10 v11 h =>
 kF 1 v10 fun v35 =>
 kL I v35 h fun v36 =>
 bndP (pBuild [Z 0, Z 0] []) fun v37 =>
 bnd (sBuildSlice [Z 0, Z 0] 1 [(0, 2, v37)] h) fun v38 h1 =>
 bnd (sAppend I 2 16 v36 v38 h1) fun v39 h2 =>
 kF 1 v10 fun v40 =>
 kS 1 v40 v39 h2 fun _ h3 =>
 j.1.2.1 v0 v2 v3 v9 v10 v11 h3
def f33.b3 : Lb J33 A6 := fun I call j v0 v2 v3 v9 v10 v11 h =>
 kB .add v11 (Z 1) fun v34 =>
 j.1.1.2.1 v0 v2 v3 v9 v10 v34 h
def f33.b4 : Lb J33 A3 := fun I call j v0 v9 v10 h =>
 j.2.2.1 v0 v9 v10 (Z 0) (Z 0) h
def f33.b5 : Lb J33 A5 := fun I call j v0 v3 v9 v10 v12 h =>
 kB .lss v12 v3 fun v43 =>
 sCond v43 (
 j.1.2.2.1 v0 v9 v10 h) (
 j.2.1.1 v0 v3 v9 v10 v12 h)
def f33.b6 : Lb J33 A5 := fun I call j v0 v3 v9 v10 v12 h =>
 kF 1 v10 fun v46 =>
 kL I v46 h fun v47 =>
 kC call 41 [Z 0] h fun v48 h1 =>
 bnd (sBuildSlice [Z 0, Z 0] 1 [(0, 2, v48)] h1) fun v49 h2 =>
 bnd (sAppend I 2 16 v47 v49 h2) fun v50 h3 =>
 kF 1 v10 fun v51 =>
 kS 1 v51 v50 h3 fun _ h4 =>
 sCheck (sSame (lift (pLoad1 I v46 h1) h1) v47 && (sSame (lift (pLoad1 I v46 h2) h2) v47 && true)) (
 j.2.1.2.1 v0 v3 v9 v10 v12 h4)
def f33.b7 : Lb J33 A5 := fun I call j v0 v3 v9 v10 v12 h =>
 kB .add v12 (Z 1) fun v45 =>
 j.1.2.2.2 v0 v3 v9 v10 v45 h
def f33.b8 : Lb J33 A3 := fun I call j v0 v10 v13 h =>
 bndP (pBuild [.nils, Z 0, Z 0, Z 0, Z 0] [(1, 1, Z 3), (2, 1, v13)]) fun v71 =>
 bnd (sBuildSlice [.nils, Z 0, Z 0, Z 0, Z 0] 1 [(0, 5, v71)] h) fun v72 h1 =>
 kF 2 v10 fun v73 =>
 kS 1 v73 v72 h1 fun _ h2 =>
 kN v0 fun v75 =>
 kF 0 v75 fun v76 =>
 kL I v76 h2 fun v77 =>
 kN v0 fun v79 =>
 kF 0 v79 fun v80 =>
 kL I v80 h2 fun v81 =>
 kN v81 fun v82 =>
 kF 4 v82 fun v83 =>
 kL I v83 h2 fun v84 =>
 kM I 3 v10 h2 fun v85 =>
 bnd (sBuildSlice [Z 0, .nils, .nils] 1 [(0, 3, v85)] h2) fun v86 h3 =>
 bnd (sAppend I 3 56 v84 v86 h3) fun v87 h4 =>
 kN v77 fun v88 =>
 kF 4 v88 fun v89 =>
 kS 1 v89 v87 h4 fun _ h5 =>
 sCheck (sSame (lift (pLoad1 I v76 h3) h3) v77 && (sSame (lift (pLoad1 I v76 h4) h4) v77 && true)) (
 sCheck (sSame (lift (pLoad1 I v80 h3) h3) v81 && true) (
 sCheck (sSame (lift (pLoad1 I v83 h3) h3) v84 && true) (
 kN v0 fun v91 =>
 kF 0 v91 fun v92 =>
 kL I v92 h5 fun v93 =>
 kN v93 fun v94 =>
 kF 4 v94 fun v95 =>
 kL I v95 h5 fun v96 =>
 kZ v96 fun v97 =>
 kB .sub v97 (Z 1) fun v98 =>
 some (v98, h5))))
def f33.b9 : Lb J33 A5 := fun I call j v0 v9 v10 v13 v14 h =>
 kF 1 v10 fun v53 =>
 kL I v53 h fun v54 =>
 kZ v54 fun v55 =>
 kB .lss v14 v55 fun v56 =>
 sCond v56 (
 j.2.1.2.2 v0 v10 v13 h) (
 j.2.2.2.1 v0 v9 v10 v13 v14 h)
def f33.b10 : Lb J33 A5 := fun I call j v0 v9 v10 v13 v14 h =>
 kF 1 v10 fun v59 =>
 kL I v59 h fun v60 =>
 kI 2 v60 v14 fun v62 =>
 kF 0 v62 fun v63 =>
 kL I v63 h fun v64 =>
 kF 1 v9 fun v65 =>
 kF 0 v65 fun v66 =>
 kL I v66 h fun v67 =>
 kB .eql v64 v67 fun v68 =>
 sCond v68 (
 j.2.2.2.2 v0 v9 v10 v13 v14 h) (
 j.2.1.2.2 v0 v10 v14 h)
def f33.b11 : Lb J33 A5 := fun I call j v0 v9 v10 v13 v14 h =>
 kB .add v14 (Z 1) fun v58 =>
 j.2.2.1 v0 v9 v10 v13 v58 h
def f33.e : Lb J33 A4 := fun I call j v0 v1 v2 v3 h =>
 kN v0 fun v16 =>
 kF 0 v16 fun v17 =>
 kL I v17 h fun v18 =>
 kN v18 fun v19 =>
 kF 1 v19 fun v20 =>
 kL I v20 h fun v21 =>
 kI 3 v21 v1 fun v23 =>
 kM I 3 v23 h fun v24 =>
 kA [.nils, Z 0, Z 0] h fun v9 h1 =>
 kS 3 v9 v24 h1 fun _ h2 =>
 kF 0 v9 fun v26 =>
 kL I v26 h2 fun v27 =>
 bnd (sAppend I 2 16 .nils v27 h2) fun v28 h3 =>
 bndP (pBuild [Z 0, .nils, .nils] [(0, 1, v1), (1, 1, v28)]) fun v29 =>
 kA [Z 0, .nils, .nils] h3 fun v10 h4 =>
 kS 3 v10 v29 h4 fun _ h5 =>
 j.1.1.2.1 v0 v2 v3 v9 v10 (Z 0) h5
def f33.T : Lb J33 J33 := fun I call j => (((f33.b0 I call j, (f33.b1 I call j, f33.b2 I call j)), (f33.b3 I call j, (f33.b4 I call j, f33.b5 I call j))), ((f33.b6 I call j, (f33.b7 I call j, f33.b8 I call j)), (f33.b9 I call j, (f33.b10 I call j, f33.b11 I call j))))
def f33.r : Inp → SF := runL f33.T f33.e
theorem f33.k : FOk P 33 f33.r := .of 12 ((([0, 3, 9, 10], ([0, 2, 3, 9, 10, 11], [0, 2, 3, 9, 10, 11])), ([0, 2, 3, 9, 10, 11], ([0, 9, 10], [0, 3, 9, 10, 12]))), (([0, 3, 9, 10, 12], ([0, 3, 9, 10, 12], [0, 10, 13])), ([0, 9, 10, 13, 14], ([0, 9, 10, 13, 14], [0, 9, 10, 13, 14]))))
def f34.e : Lb Unit A3 := fun I call j v0 v1 v2 h =>
 kN v0 fun v8 =>
 kF 0 v8 fun v9 =>
 kL I v9 h fun v10 =>
 kN v10 fun v11 =>
 kF 4 v11 fun v12 =>
 kL I v12 h fun v13 =>
 kI 3 v13 v1 fun v15 =>
 kF 2 v15 fun v16 =>
 kL I v16 h fun v17 =>
 kI 5 v17 (Z 0) fun v18 =>
 kN v18 fun v21 =>
 kF 0 v21 fun v22 =>
 kL I v22 h fun v23 =>
 bnd (sAppend I 6 64 v23 v2 h) fun v25 h1 =>
 kN v18 fun v26 =>
 kF 0 v26 fun v27 =>
 kS 1 v27 v25 h1 fun _ h2 =>
 some (.tuple [], h2)
def f34.T : Lb Unit Unit := fun I call j => ()
def f34.r : Inp → SF := runL f34.T f34.e
theorem f34.k : FOk P 34 f34.r := .of 0 ()
def f35.e : Lb Unit A3 := fun I call j v0 v1 v2 h =>
 kA [Z 0, Z 0, Z 0, Z 0, Z 0, .nils] h fun v6 h1 =>
 bndP (pBuild [Z 0, Z 0, Z 0, Z 0, Z 0, .nils] [(0, 1, Z 7), (1, 1, v0), (2, 1, v1), (4, 1, v2)]) fun v10 =>
 kS 6 v6 v10 h1 fun _ h2 =>
 sRet (sCons (sResN I 6 v6 h2) (some [])) h2
def f35.T : Lb Unit Unit := fun I call j => ()
def f35.r : Inp → SF := runL f35.T f35.e
theorem f35.k : FOk P 35 f35.r := .of 0 ()
def f36.e : Lb Unit A3 := fun I call j v0 v1 v2 h =>
 kA [Z 0, Z 0, Z 0, Z 0, Z 0, .nils] h fun v6 h1 =>
 bndP (pBuild [Z 0, Z 0, Z 0, Z 0, Z 0, .nils] [(0, 1, Z 12), (1, 1, v0), (4, 1, v1), (5, 1, v2)]) fun v10 =>
 kS 6 v6 v10 h1 fun _ h2 =>
 sRet (sCons (sResN I 6 v6 h2) (some [])) h2
def f36.T : Lb Unit Unit := fun I call j => ()
def f36.r : Inp → SF := runL f36.T f36.e
theorem f36.k : FOk P 36 f36.r := .of 0 ()
def f37.e : Lb Unit A3 := fun I call j v0 v1 v2 h =>
 kN v0 fun v8 =>
 kF 0 v8 fun v9 =>
 kL I v9 h fun v10 =>
 bndP (pBuild [Z 0, Z 0, Z 0] [(0, 1, v1), (2, 1, v2)]) fun v13 =>
 kC call 28 [v10, v13] h fun v14 h1 =>
 some (v14, h1)
def f37.T : Lb Unit Unit := fun I call j => ()
def f37.r : Inp → SF := runL f37.T f37.e
theorem f37.k : FOk P 37 f37.r := .of 0 ()
abbrev J38 := ((A2 × A1) × (A4 × (A4 × A4)))
def f38.b0 : Lb J38 A2 := fun I call j v0 v1 h =>
 kC call 50 [v0, v1] h fun v18 h1 =>
 kC call 51 [v0, v18] h1 fun v21 h2 =>
 kC call 53 [v0, v18, v21] h2 fun v25 h3 =>
 kC call 54 [v0, v18] h3 fun v28 h4 =>
 kC call 55 [v0, v18, v21] h4 fun v32 h5 =>
 bnd (sBuildSlice [.nils] 3 [(0, 1, v25), (1, 1, v28), (2, 1, v32)] h5) fun v33 h6 =>
 kC call 52 [v33] h6 fun v34 h7 =>
 kC call 56 [v18] h7 fun v36 h8 =>
 bndP (pBuild [.nils, .nils, .nils] [(0, 1, v34), (1, 1, v36)]) fun v37 =>
 bnd (sBox v37 h8) fun v38 h9 =>
 kN v0 fun v40 =>
 kF 4 v40 fun v41 =>
 kL I v41 h9 fun v42 =>
 kZ v42 fun v43 =>
 j.2.1 v18 v38 v43 (Z 0) h9
def f38.b1 : Lb J38 A1 := fun I call j v9 h =>
 some (.tuple [v9, .nili], h)
def f38.b2 : Lb J38 A4 := fun I call j v7 v9 v43 v44 h =>
 kB .lss v44 v43 fun v45 =>
 sCond v45 (
 j.1.2 v9 h) (
 j.2.2.1 v7 v9 v43 v44 h)
def f38.b3 : Lb J38 A4 := fun I call j v7 v9 v43 v44 h =>
 kC call 57 [v7, v44] h fun v49 h1 =>
 sCond v49 (
 j.2.2.2 v7 v9 v43 v44 h1) (
 kN v9 fun v52 =>
 kF 2 v52 fun v53 =>
 kL I v53 h1 fun v54 =>
 bnd (sBuildSlice [Z 0] 1 [(0, 1, v44)] h1) fun v56 h2 =>
 bnd (sAppend I 1 8 v54 v56 h2) fun v57 h3 =>
 kN v9 fun v58 =>
 kF 2 v58 fun v59 =>
 kS 1 v59 v57 h3 fun _ h4 =>
 j.2.2.2 v7 v9 v43 v44 h4)
def f38.b4 : Lb J38 A4 := fun I call j v7 v9 v43 v44 h =>
 kB .add v44 (Z 1) fun v60 =>
 j.2.1 v7 v9 v43 v60 h
def f38.e : Lb J38 A2 := fun I call j v0 v1 h =>
 kC call 49 [v0] h fun v12 h1 =>
 bndP (pEq P .true .iface .true v12 .nili h1) fun v14 =>
 sCond v14 (
 j.1.1 v0 v1 h1) (
 some (.tuple [.nilp, v12], h1))
def f38.T : Lb J38 J38 := fun I call j => ((f38.b0 I call j, f38.b1 I call j), (f38.b2 I call j, (f38.b3 I call j, f38.b4 I call j)))
def f38.r : Inp → SF := runL f38.T f38.e
theorem f38.k : FOk P 38 f38.r := .of 5 (([0, 1], [9]), ([7, 9, 43, 44], ([7, 9, 43, 44], [7, 9, 43, 44])))
def f39.e : Lb Unit A0 := fun I call j h =>
 kA [Z 0, Z 0] h fun v0 h1 =>
 bndP (pBuild [Z 0, Z 0] [(0, 1, Z 3)]) fun v1 =>
 kS 2 v0 v1 h1 fun _ h2 =>
 sRet (sCons (sResN I 2 v0 h2) (some [])) h2
def f39.T : Lb Unit Unit := fun I call j => ()
def f39.r : Inp → SF := runL f39.T f39.e
theorem f39.k : FOk P 39 f39.r := .of 0 ()
def f40.e : Lb Unit A1 := fun I call j v0 h =>
 kA [Z 0, Z 0] h fun v2 h1 =>
 bndP (pBuild [Z 0, Z 0] [(0, 1, Z 2), (1, 1, v0)]) fun v4 =>
 kS 2 v2 v4 h1 fun _ h2 =>
 sRet (sCons (sResN I 2 v2 h2) (some [])) h2
def f40.T : Lb Unit Unit := fun I call j => ()
def f40.r : Inp → SF := runL f40.T f40.e
theorem f40.k : FOk P 40 f40.r := .of 0 ()
def f41.e : Lb Unit A1 := fun I call j v0 h =>
 kA [Z 0, Z 0] h fun v2 h1 =>
 bndP (pBuild [Z 0, Z 0] [(0, 1, Z 1), (1, 1, v0)]) fun v4 =>
 kS 2 v2 v4 h1 fun _ h2 =>
 sRet (sCons (sResN I 2 v2 h2) (some [])) h2
def f41.T : Lb Unit Unit := fun I call j => ()
def f41.r : Inp → SF := runL f41.T f41.e
theorem f41.k : FOk P 41 f41.r := .of 0 ()
abbrev J44 := A1
def f44.b0 : Lb J44 A1 := fun I call j v4 h =>
 kN v4 fun v21 =>
 kF 0 v21 fun v22 =>
 kL I v22 h fun v23 =>
 some (.tuple [v23, bT], h)
def f44.e : Lb J44 A1 := fun I call j v0 h =>
 kN v0 fun v8 =>
 kF 0 v8 fun v9 =>
 kL I v9 h fun v10 =>
 kC call 38 [v10, .nils] h fun v11 h1 =>
 kX v11 0 fun v12 =>
 kX v11 1 fun v13 =>
 bndP (pEq P .true .iface .true v13 .nili h1) fun v15 =>
 gV v15 .false v12 h1 fun v17 h2 =>
 gP v15 .false (pEq P .false .ptr .true v17 .nilp h2) h2 fun v18 h3 =>
 kP v15 bT v18 fun v19 =>
 sCond v19 (
 j v12 h3) (
 some (.tuple [.nils, bF], h3))
def f44.T : Lb J44 J44 := fun I call j => f44.b0 I call j
def f44.r : Inp → SF := runL f44.T f44.e
theorem f44.k : FOk P 44 f44.r := .of 1 [4]
def f46.e : Lb Unit A0 := fun I call j h =>
 kC call 58 [] h fun v1 h1 =>
 some (v1, h1)
def f46.T : Lb Unit Unit := fun I call j => ()
def f46.r : Inp → SF := runL f46.T f46.e
theorem f46.k : FOk P 46 f46.r := .of 0 ()
abbrev J47 := (((A1 × A3) × (A3 × (A3 × A4))) × ((A4 × A4) × (A5 × (A5 × A5))))
def f47.b0 : Lb J47 A1 := fun I call j v3 h =>
 some (v3, h)
def f47.b1 : Lb J47 A3 := fun I call j v0 v3 v4 h =>
 kN v0 fun v9 =>
 kF 4 v9 fun v10 =>
 kL I v10 h fun v11 =>
 kZ v11 fun v12 =>
 kB .lss v4 v12 fun v13 =>
 sCond v13 (
 j.1.1.1 v3 h) (
 j.1.2.1 v0 v3 v4 h)
def f47.b2 : Lb J47 A3 := fun I call j v0 v3 v4 h =>
 j.1.2.2.2 v0 v3 v4 (Z 0) h
def f47.b3 : Lb J47 A3 := fun I call j v0 v3 v4 h =>
 kB .add v4 (Z 1) fun v15 =>
 j.1.1.2 v0 v3 v15 h
def f47.b4 : Lb J47 A4 := fun I call j v0 v3 v4 v5 h =>
 kN v0 fun v18 =>
 kF 4 v18 fun v19 =>
 kL I v19 h fun v20 =>
 kI 3 v20 v4 fun v22 =>
 kF 2 v22 fun v23 =>
 kL I v23 h fun v24 =>
 kZ v24 fun v25 =>
 kB .lss v5 v25 fun v26 =>
 sCond v26 (
 j.1.2.2.1 v0 v3 v4 h) (
 j.2.1.1 v0 v3 v4 v5 h)
def f47.b5 : Lb J47 A4 := fun I call j v0 v3 v4 v5 h =>
 j.2.2.1 v0 v3 v4 v5 (Z 0) h
def f47.b6 : Lb J47 A4 := fun I call j v0 v3 v4 v5 h =>
 kB .add v5 (Z 1) fun v28 =>
 j.1.2.2.2 v0 v3 v4 v28 h
def f47.b7 : Lb J47 A5 := fun I call j v0 v3 v4 v5 v6 h =>
 kN v0 fun v31 =>
 kF 4 v31 fun v32 =>
 kL I v32 h fun v33 =>
 kI 3 v33 v4 fun v35 =>
 kF 2 v35 fun v36 =>
 kL I v36 h fun v37 =>
 kI 5 v37 v5 fun v39 =>
 kF 0 v39 fun v40 =>
 kL I v40 h fun v41 =>
 kZ v41 fun v42 =>
 kB .leq v6 v42 fun v43 =>
 sCond v43 (
 j.2.1.2 v0 v3 v4 v5 h) (
 j.2.2.2.1 v0 v3 v4 v5 v6 h)
def f47.b8 : Lb J47 A5 := fun I call j v0 v3 v4 v5 v6 h =>
 bndP (pBuild [Z 0, Z 0, Z 0] [(0, 1, v4), (1, 1, v5), (2, 1, v6)]) fun v50 =>
 bnd (sBuildSlice [Z 0, Z 0, Z 0] 1 [(0, 3, v50)] h) fun v51 h1 =>
 bnd (sAppend I 3 24 v3 v51 h1) fun v52 h2 =>
 j.2.2.2.2 v0 v52 v4 v5 v6 h2
def f47.b9 : Lb J47 A5 := fun I call j v0 v3 v4 v5 v6 h =>
 kB .add v6 (Z 1) fun v45 =>
 j.2.2.1 v0 v3 v4 v5 v45 h
def f47.e : Lb J47 A1 := fun I call j v0 h =>
 j.1.1.2 v0 .nils (Z 0) h
def f47.T : Lb J47 J47 := fun I call j => (((f47.b0 I call j, f47.b1 I call j), (f47.b2 I call j, (f47.b3 I call j, f47.b4 I call j))), ((f47.b5 I call j, f47.b6 I call j), (f47.b7 I call j, (f47.b8 I call j, f47.b9 I call j))))
def f47.r : Inp → SF := runL f47.T f47.e
theorem f47.k : FOk P 47 f47.r := .of 10 ((([3], [0, 3, 4]), ([0, 3, 4], ([0, 3, 4], [0, 3, 4, 5]))), (([0, 3, 4, 5], [0, 3, 4, 5]), ([0, 3, 4, 5, 6], ([0, 3, 4, 5, 6], [0, 3, 4, 5, 6]))))
abbrev J48 := ((A1 × A4) × (A4 × A4))
def f48.b0 : Lb J48 A1 := fun I call j v10 h =>
 kC call 60 [v10, (.func (.func 61) [] [])] h fun v61 h1 =>
 kC call 64 [v10] h1 fun v63 h2 =>
 some (v63, h2)
def f48.b1 : Lb J48 A4 := fun I call j v10 v21 v22 v23 h =>
 kB .lss v23 v22 fun v24 =>
 sCond v24 (
 j.1.1 v10 h) (
 j.2.1 v10 v21 v22 v23 h)
def f48.b2 : Lb J48 A4 := fun I call j v10 v21 v22 v23 h =>
 kI 3 v21 v23 fun v25 =>
 kM I 3 v25 h fun v26 =>
 kA [Z 0, Z 0, Z 0] h fun v12 h1 =>
 kS 3 v12 v26 h1 fun _ h2 =>
 kF 1 v12 fun v28 =>
 kL I v28 h2 fun v29 =>
 kB .eql v29 (Z 2) fun v30 =>
 sCond v30 (
 kF 1 v12 fun v38 =>
 kL I v38 h2 fun v39 =>
 kB .eql v39 (Z 4) fun v40 =>
 gP v40 .true (pFieldAddr 2 v12) h2 fun v42 h3 =>
 gP v40 .true (pLoad1 I v42 h3) h3 fun v43 h4 =>
 gP v40 .true (pBin .eql v43 (Z 1)) h4 fun v44 h5 =>
 gV v40 .true v44 h5 fun v45 h6 =>
 gP v45 .false (pFieldAddr 2 v12) h6 fun v46 h7 =>
 gP v45 .false (pLoad1 I v46 h7) h7 fun v47 h8 =>
 gP v45 .false (pBin .eql v47 (Z 2)) h8 fun v48 h9 =>
 gP v40 .true (pPick v45 bT v48) h9 fun v49 h10 =>
 kP v40 v49 bF fun v50 =>
 sCond v50 (
 j.2.2 v10 v21 v22 v23 h10) (
 kF 2 v12 fun v52 =>
 kL I v52 h10 fun v53 =>
 kF 0 v12 fun v54 =>
 kL I v54 h10 fun v55 =>
 bndP (pBuild [Z 0, Z 0] [(0, 1, v53), (1, 1, v55)]) fun v56 =>
 bnd (sBuildSlice [Z 0, Z 0] 1 [(0, 2, v56)] h10) fun v57 h11 =>
 bnd (sAppend I 2 16 v10 v57 h11) fun v58 h12 =>
 j.2.2 v58 v21 v22 v23 h12)) (
 kF 0 v12 fun v32 =>
 kL I v32 h2 fun v33 =>
 bndP (pBuild [Z 0, Z 0] [(0, 1, Z 3), (1, 1, v33)]) fun v34 =>
 bnd (sBuildSlice [Z 0, Z 0] 1 [(0, 2, v34)] h2) fun v35 h13 =>
 bnd (sAppend I 2 16 v10 v35 h13) fun v36 h14 =>
 j.2.2 v36 v21 v22 v23 h14)
def f48.b3 : Lb J48 A4 := fun I call j v10 v21 v22 v23 h =>
 kB .add v23 (Z 1) fun v59 =>
 j.1.2 v10 v21 v22 v59 h
def f48.e : Lb J48 A3 := fun I call j v0 v1 v2 h =>
 kC call 59 [v0, v1, v2] h fun v17 h1 =>
 kX v17 0 fun v18 =>
 kX v17 1 fun v19 =>
 kX v17 2 fun v20 =>
 kZ v18 fun v22 =>
 j.1.2 .nils v18 v22 (Z 0) h1
def f48.T : Lb J48 J48 := fun I call j => ((f48.b0 I call j, f48.b1 I call j), (f48.b2 I call j, f48.b3 I call j))
def f48.r : Inp → SF := runL f48.T f48.e
theorem f48.k : FOk P 48 f48.r := .of 4 (([10], [10, 21, 22, 23]), ([10, 21, 22, 23], [10, 21, 22, 23]))
abbrev J49 := (A1 × A2)
def f49.b0 : Lb J49 A1 := fun I call j v3 h =>
 kC call 66 [v3] h fun v12 h1 =>
 kX v12 0 fun v13 =>
 kX v12 1 fun v14 =>
 kA [Z 0, Z 0, Z 0] h1 fun v4 h2 =>
 kS 3 v4 v13 h2 fun _ h3 =>
 kU .not v14 fun v16 =>
 sCond v16 (
 j.2 v3 v4 h3) (
 kC call 67 [] h3 fun v17 h4 =>
 kS 3 v4 v17 h4 fun _ h5 =>
 j.2 v3 v4 h5)
def f49.b1 : Lb J49 A2 := fun I call j v3 v4 h =>
 kC call 69 [v3] h fun v19 h1 =>
 kM I 3 v4 h1 fun v20 =>
 kC call 68 [v19, v20, v3] h1 fun v22 h2 =>
 sCheck (sSame (lift (pLoadN I 3 v4 h) h) v20 && true) (
 some (v22, h2))
def f49.e : Lb J49 A1 := fun I call j v0 h =>
 kC call 65 [v0] h fun v7 h1 =>
 bndP (pEq P .false .iface .true v7 .nili h1) fun v9 =>
 sCond v9 (
 j.1 v7 h1) (
 some (.nili, h1))
def f49.T : Lb J49 J49 := fun I call j => (f49.b0 I call j, f49.b1 I call j)
def f49.r : Inp → SF := runL f49.T f49.e
theorem f49.k : FOk P 49 f49.r := .of 2 ([3], [3, 4])
abbrev J50 := ((A3 × (A2 × A4)) × ((A4 × A4) × (A1 × A2)))
def f50.b0 : Lb J50 A3 := fun I call j v0 v1 v5 h =>
 kC call 71 [v5] h fun v15 h1 =>
 sKeep 3 h1 fun h2 =>
 kC call 72 [v15] h2 fun v19 h3 =>
 kC call 73 [v1] h3 fun v26 h4 =>
 bnd (sResvMake (h1.next + 0) [.nils] 24 v15 v15 h4) fun v21 h5 =>
 bndP (pBuild [.nils] []) fun v22 =>
 bnd (sResvBox (h1.next + 1) v22 h5) fun v23 h6 =>
 bnd (sResvMap (h1.next + 2) h6) fun v24 h7 =>
 bndP (pBuild [.nilp, .nilp, .nilp, .nils, .nils, .nils, .nils, .nilp, .nilm, .nilp] [(0, 1, v0), (1, 1, v5), (2, 1, v19), (6, 1, v21), (7, 1, v23), (8, 1, v24), (9, 1, v26)]) fun v27 =>
 bnd (sResvBox (h1.next + 3) v27 h7) fun v28 h8 =>
 j.1.2.2 v0 v28 v15 (Z 0) h8
def f50.b1 : Lb J50 A2 := fun I call j v0 v7 h =>
 kN v0 fun v68 =>
 kF 5 v68 fun v69 =>
 kL I v69 h fun v70 =>
 kC call 74 [v7, v70] h fun v71 h1 =>
 j.2.2.1 v7 h1
def f50.b2 : Lb J50 A4 := fun I call j v0 v7 v29 v30 h =>
 kB .lss v30 v29 fun v31 =>
 sCond v31 (
 j.1.2.1 v0 v7 h) (
 j.2.1.1 v0 v7 v29 v30 h)
def f50.b3 : Lb J50 A4 := fun I call j v0 v7 v29 v30 h =>
 sKeep 5 h fun h1 =>
 kN v7 fun v36 =>
 kF 3 v36 fun v37 =>
 kL I v37 h1 fun v38 =>
 bndP (pBuild [.nils] []) fun v39 =>
 bnd (sResvBox (h.next + 0) v39 h1) fun v40 h2 =>
 bnd (sResvSlice (h.next + 1) [.nilp] 1 [(0, 1, v40)] h2) fun v41 h3 =>
 bnd (sAppend I 1 8 v38 v41 h3) fun v42 h4 =>
 kN v7 fun v44 =>
 kF 4 v44 fun v45 =>
 kL I v45 h4 fun v46 =>
 bndP (pBuild [.nils] []) fun v47 =>
 bnd (sResvBox (h.next + 2) v47 h4) fun v48 h5 =>
 bnd (sResvSlice (h.next + 3) [.nilp] 1 [(0, 1, v48)] h5) fun v49 h6 =>
 bnd (sAppend I 1 8 v46 v49 h6) fun v50 h7 =>
 kN v7 fun v52 =>
 kF 5 v52 fun v53 =>
 kL I v53 h7 fun v54 =>
 bndP (pBuild [.nils] []) fun v55 =>
 bnd (sResvBox (h.next + 4) v55 h7) fun v56 h8 =>
 bnd (sResvSlice (h.next + 5) [.nilp] 1 [(0, 1, v56)] h8) fun v57 h9 =>
 bnd (sAppend I 1 8 v54 v57 h9) fun v58 h10 =>
 kN v7 fun v59 =>
 kF 3 v59 fun v60 =>
 kS 1 v60 v42 h10 fun _ h11 =>
 kN v7 fun v61 =>
 kF 4 v61 fun v62 =>
 kS 1 v62 v50 h11 fun _ h12 =>
 kN v7 fun v63 =>
 kF 5 v63 fun v64 =>
 kS 1 v64 v58 h12 fun _ h13 =>
 sCheck (sSame (lift (pLoad1 I v37 h2) h2) v38 && (sSame (lift (pLoad1 I v37 h3) h3) v38 && true)) (
 sCheck (sSame (lift (pLoad1 I v45 h1) h1) v46 && (sSame (lift (pLoad1 I v45 h2) h2) v46 && (sSame (lift (pLoad1 I v45 h3) h3) v46 && (sSame (lift (pLoad1 I v45 h5) h5) v46 && (sSame (lift (pLoad1 I v45 h6) h6) v46 && true))))) (
 sCheck (sSame (lift (pLoad1 I v53 h1) h1) v54 && (sSame (lift (pLoad1 I v53 h2) h2) v54 && (sSame (lift (pLoad1 I v53 h3) h3) v54 && (sSame (lift (pLoad1 I v53 h4) h4) v54 && (sSame (lift (pLoad1 I v53 h5) h5) v54 && (sSame (lift (pLoad1 I v53 h6) h6) v54 && (sSame (lift (pLoad1 I v53 h8) h8) v54 && (sSame (lift (pLoad1 I v53 h9) h9) v54 && true)))))))) (
 j.2.1.2 v0 v7 v29 v30 h13)))
def f50.b4 : Lb J50 A4 := fun I call j v0 v7 v29 v30 h =>
 kB .add v30 (Z 1) fun v65 =>
 j.1.2.2 v0 v7 v29 v65 h
def f50.b5 : Lb J50 A1 := fun I call j v7 h =>
 kN v7 fun v74 =>
 kF 9 v74 fun v75 =>
 kL I v75 h fun v76 =>
 kC call 75 [v76] h fun v77 h1 =>
 kX v77 0 fun v78 =>
 kX v77 1 fun v79 =>
 kU .not v79 fun v81 =>
 sCond v81 (
 j.2.2.2 v7 v78 h1) (
 some (v7, h1))
def f50.b6 : Lb J50 A2 := fun I call j v7 v8 h =>
 kN v7 fun v85 =>
 kF 2 v85 fun v86 =>
 kL I v86 h fun v87 =>
 kC call 77 [v87, v8] h fun v89 h1 =>
 kC call 76 [v7, v89] h1 fun v90 h2 =>
 j.2.2.1 v7 h2
def f50.e : Lb J50 A2 := fun I call j v0 v1 h =>
 kC call 70 [v0] h fun v11 h1 =>
 bndP (pEq P .false .ptr .true v11 .nilp h1) fun v13 =>
 sCond v13 (
 j.1.1 v0 v1 v11 h1) (
 some (.nilp, h1))
def f50.T : Lb J50 J50 := fun I call j => ((f50.b0 I call j, (f50.b1 I call j, f50.b2 I call j)), ((f50.b3 I call j, f50.b4 I call j), (f50.b5 I call j, f50.b6 I call j)))
def f50.r : Inp → SF := runL f50.T f50.e
theorem f50.k : FOk P 50 f50.r := .of 7 (([0, 1, 5], ([0, 7], [0, 7, 29, 30])), (([0, 7, 29, 30], [0, 7, 29, 30]), ([7], [7, 8])))
abbrev J52 := (((A2 × A5) × (A5 × A5)) × ((A1 × A4) × (A4 × A4)))
def f52.b0 : Lb J52 A2 := fun I call j v0 v3 h =>
 kC call 89 [.nils, v3] h fun v24 h1 =>
 kZ v0 fun v26 =>
 j.2.1.2 v24 v0 v26 (Z 0) h1
def f52.b1 : Lb J52 A5 := fun I call j v0 v3 v9 v10 v11 h =>
 kB .lss v11 v10 fun v12 =>
 sCond v12 (
 j.1.1.1 v0 v3 h) (
 j.1.2.1 v0 v3 v9 v10 v11 h)
def f52.b2 : Lb J52 A5 := fun I call j v0 v3 v9 v10 v11 h =>
 kI 1 v9 v11 fun v13 =>
 kL I v13 h fun v14 =>
 kZ v14 fun v17 =>
 kB .add v3 v17 fun v18 =>
 kB .lss v18 (Z 0) fun v20 =>
 sCond v20 (
 j.1.2.2 v0 v18 v9 v10 v11 h) (
 bnd (none) fun _ h1 =>
 j.1.2.2 v0 v18 v9 v10 v11 h1)
def f52.b3 : Lb J52 A5 := fun I call j v0 v3 v9 v10 v11 h =>
 kB .add v11 (Z 1) fun v22 =>
 j.1.1.2 v0 v3 v9 v10 v22 h
def f52.b4 : Lb J52 A1 := fun I call j v6 h =>
 some (v6, h)
def f52.b5 : Lb J52 A4 := fun I call j v6 v25 v26 v27 h =>
 kB .lss v27 v26 fun v28 =>
 sCond v28 (
 j.2.1.1 v6 h) (
 j.2.2.1 v6 v25 v26 v27 h)
def f52.b6 : Lb J52 A4 := fun I call j v6 v25 v26 v27 h =>
 kI 1 v25 v27 fun v29 =>
 kL I v29 h fun v30 =>
 bnd (sAppend I 2 16 v6 v30 h) fun v33 h1 =>
 j.2.2.2 v33 v25 v26 v27 h1
def f52.b7 : Lb J52 A4 := fun I call j v6 v25 v26 v27 h =>
 kB .add v27 (Z 1) fun v34 =>
 j.2.1.2 v6 v25 v26 v34 h
def f52.e : Lb J52 A1 := fun I call j v0 h =>
 kZ v0 fun v10 =>
 j.1.1.2 v0 (Z 0) v0 v10 (Z 0) h
def f52.T : Lb J52 J52 := fun I call j => (((f52.b0 I call j, f52.b1 I call j), (f52.b2 I call j, f52.b3 I call j)), ((f52.b4 I call j, f52.b5 I call j), (f52.b6 I call j, f52.b7 I call j)))
def f52.r : Inp → SF := runL f52.T f52.e
theorem f52.k : FOk P 52 f52.r := .of 8 ((([0, 3], [0, 3, 9, 10, 11]), ([0, 3, 9, 10, 11], [0, 3, 9, 10, 11])), (([6], [6, 25, 26, 27]), ([6, 25, 26, 27], [6, 25, 26, 27])))
def f53.e : Lb Unit A3 := fun I call j v0 v1 v2 h =>
 kC call 91 [v0, v1] h fun v12 h1 =>
 kC call 90 [v0, v1, v2, Z 1, v12, (.func (.func 92) [] [])] h1 fun v13 h2 =>
 some (v13, h2)
def f53.T : Lb Unit Unit := fun I call j => ()
def f53.r : Inp → SF := runL f53.T f53.e
theorem f53.k : FOk P 53 f53.r := .of 0 ()
abbrev J54 := (((A1 × (A6 × A6)) × (A6 × (A7 × (AVal → A9)))) × (((AVal → A9) × ((AVal → A9) × A1)) × (A4 × (A4 × A4))))
def f54.b0 : Lb J54 A1 := fun I call j v6 h =>
 kZ v6 fun v55 =>
 j.2.2.1 .nils v6 v55 (Z 0) h
def f54.b1 : Lb J54 A6 := fun I call j v0 v1 v5 v6 v20 v21 h =>
 kB .lss v21 v20 fun v22 =>
 sCond v22 (
 j.1.1.1 v6 h) (
 j.1.1.2.2 v0 v1 v5 v6 v20 v21 h)
def f54.b2 : Lb J54 A6 := fun I call j v0 v1 v5 v6 v20 v21 h =>
 kC call 94 [v0, v1, v21] h fun v27 h1 =>
 kZ v27 fun v28 =>
 kB .eql v28 (Z 0) fun v29 =>
 sCond v29 (
 j.1.2.2.1 v0 v1 v5 v6 v21 v20 v21 h1) (
 j.1.2.1 v0 v1 v5 v6 v20 v21 h1)
def f54.b3 : Lb J54 A6 := fun I call j v0 v1 v5 v6 v20 v21 h =>
 kB .add v21 (Z 1) fun v53 =>
 j.1.1.2.1 v0 v1 v5 v6 v20 v53 h
def f54.b4 : Lb J54 A7 := fun I call j v0 v1 v5 v6 v7 v20 v21 h =>
 kM I 2 v5 h fun v30 =>
 kC call 95 [v30, v7] h fun v32 h1 =>
 kZ v32 fun v33 =>
 j.1.2.2.2 v0 v1 v5 v6 v7 v20 v21 v32 v33 (Z 0) h1
def f54.b5 : Lb J54 (AVal → A9) := fun I call j v0 v1 v5 v6 v7 v20 v21 v32 v33 v34 h =>
 kB .lss v34 v33 fun v35 =>
 sCond v35 (
 j.1.2.1 v0 v1 v5 v6 v20 v21 h) (
 j.2.1.1 v0 v1 v5 v6 v7 v20 v21 v32 v33 v34 h)
def f54.b6 : Lb J54 (AVal → A9) := fun I call j v0 v1 v5 v6 v7 v20 v21 v32 v33 v34 h =>
 kI 1 v32 v34 fun v36 =>
 kL I v36 h fun v37 =>
 kI 1 v6 v37 fun v42 =>
 kL I v42 h fun v43 =>
 gV v43 .false v0 h fun v45 h1 =>
 gV v43 .false v1 h1 fun v46 h2 =>
 gV v43 .false v7 h2 fun v47 h3 =>
 gV v43 .false v37 h3 fun v48 h4 =>
 gS v43 .false (call 96 [v45, v46, v47, v48] h4) h4 fun v49 h5 =>
 kP v43 bT v49 fun v50 =>
 kI 1 v6 v37 fun v51 =>
 kS 1 v51 v50 h5 fun _ h6 =>
 j.2.1.2.1 v0 v1 v5 v6 v7 v20 v21 v32 v33 v34 h6
def f54.b7 : Lb J54 (AVal → A9) := fun I call j v0 v1 v5 v6 v7 v20 v21 v32 v33 v34 h =>
 kB .add v34 (Z 1) fun v52 =>
 j.1.2.2.2 v0 v1 v5 v6 v7 v20 v21 v32 v33 v52 h
def f54.b8 : Lb J54 A1 := fun I call j v10 h =>
 some (v10, h)
def f54.b9 : Lb J54 A4 := fun I call j v10 v54 v55 v56 h =>
 kB .lss v56 v55 fun v57 =>
 sCond v57 (
 j.2.1.2.2 v10 h) (
 j.2.2.2.1 v10 v54 v55 v56 h)
def f54.b10 : Lb J54 A4 := fun I call j v10 v54 v55 v56 h =>
 kI 1 v54 v56 fun v59 =>
 kL I v59 h fun v60 =>
 sCond v60 (
 j.2.2.2.2 v10 v54 v55 v56 h) (
 bndP (pBuild [Z 0, Z 0] [(0, 1, Z 2), (1, 1, v56)]) fun v64 =>
 bnd (sBuildSlice [Z 0, Z 0] 1 [(0, 2, v64)] h) fun v65 h1 =>
 bnd (sAppend I 2 16 v10 v65 h1) fun v66 h2 =>
 j.2.2.2.2 v66 v54 v55 v56 h2)
def f54.b11 : Lb J54 A4 := fun I call j v10 v54 v55 v56 h =>
 kB .add v56 (Z 1) fun v67 =>
 j.2.2.1 v10 v54 v55 v67 h
def f54.e : Lb J54 A2 := fun I call j v0 v1 h =>
 kC call 93 [v0, v1] h fun v15 h1 =>
 kA [Z 0, .nils] h1 fun v5 h2 =>
 kS 2 v5 v15 h2 fun _ h3 =>
 kF 0 v5 fun v16 =>
 kL I v16 h3 fun v17 =>
 bnd (sMakeSlice [bF] 1 v17 v17 h3) fun v18 h4 =>
 kF 0 v5 fun v19 =>
 kL I v19 h4 fun v20 =>
 j.1.1.2.1 v0 v1 v5 v18 v20 (Z 0) h4
def f54.T : Lb J54 J54 := fun I call j => (((f54.b0 I call j, (f54.b1 I call j, f54.b2 I call j)), (f54.b3 I call j, (f54.b4 I call j, f54.b5 I call j))), ((f54.b6 I call j, (f54.b7 I call j, f54.b8 I call j)), (f54.b9 I call j, (f54.b10 I call j, f54.b11 I call j))))
def f54.r : Inp → SF := runL f54.T f54.e
theorem f54.k : FOk P 54 f54.r := .of 12 ((([6], ([0, 1, 5, 6, 20, 21], [0, 1, 5, 6, 20, 21])), ([0, 1, 5, 6, 20, 21], ([0, 1, 5, 6, 7, 20, 21], [0, 1, 5, 6, 7, 20, 21, 32, 33, 34]))), (([0, 1, 5, 6, 7, 20, 21, 32, 33, 34], ([0, 1, 5, 6, 7, 20, 21, 32, 33, 34], [10])), ([10, 54, 55, 56], ([10, 54, 55, 56], [10, 54, 55, 56]))))
def f55.e : Lb Unit A3 := fun I call j v0 v1 v2 h =>
 kC call 97 [v0, v1] h fun v12 h1 =>
 kC call 90 [v0, v1, v2, Z 3, v12, (.func (.func 98) [] [])] h1 fun v13 h2 =>
 some (v13, h2)
def f55.T : Lb Unit Unit := fun I call j => ()
def f55.r : Inp → SF := runL f55.T f55.e
theorem f55.k : FOk P 55 f55.r := .of 0 ()
def f57.e : Lb Unit A2 := fun I call j v0 v1 h =>
 bndP (pEq P .true .ptr .true v0 .nilp h) fun v6 =>
 gV v6 .true v0 h fun v8 h1 =>
 gP v6 .true (pNilCheck v8) h1 fun v9 h2 =>
 gP v6 .true (pFieldAddr 7 v9) h2 fun v10 h3 =>
 gP v6 .true (pLoad1 I v10 h3) h3 fun v11 h4 =>
 gV v6 .true v1 h4 fun v12 h5 =>
 gS v6 .true (call 101 [v11, v12] h5) h5 fun v13 h6 =>
 kP v6 v13 bF fun v14 =>
 some (v14, h6)
def f57.T : Lb Unit Unit := fun I call j => ()
def f57.r : Inp → SF := runL f57.T f57.e
theorem f57.k : FOk P 57 f57.r := .of 0 ()
def f58.e : Lb Unit A0 := fun I call j h =>
 kC call 102 [] h fun v4 h1 =>
 kN v4 fun v6 =>
 kF 4 v6 fun v7 =>
 kL I v7 h1 fun v8 =>
 kI 3 v8 (Z 0) fun v9 =>
 kF 2 v9 fun v10 =>
 kL I v10 h1 fun v11 =>
 kN v4 fun v13 =>
 kF 4 v13 fun v14 =>
 kL I v14 h1 fun v15 =>
 kI 3 v15 (Z 0) fun v16 =>
 kF 2 v16 fun v17 =>
 kL I v17 h1 fun v18 =>
 kI 5 v18 (Z 0) fun v19 =>
 kF 0 v19 fun v20 =>
 kL I v20 h1 fun v21 =>
 bndP (pBuild [Z 0, Z 0, Z 0, Z 0, Z 0, .nils] [(0, 1, Z 3)]) fun v22 =>
 bndP (pBuild [Z 0, Z 0, Z 0, Z 0, Z 0, .nils] [(0, 1, Z 15)]) fun v23 =>
 bnd (sBuildSlice [Z 0, Z 0, Z 0, Z 0, Z 0, .nils] 2 [(0, 6, v22), (6, 6, v23)] h1) fun v24 h2 =>
 bnd (sAppend I 6 64 v21 v24 h2) fun v25 h3 =>
 kI 5 v11 (Z 0) fun v26 =>
 kF 0 v26 fun v27 =>
 kS 1 v27 v25 h3 fun _ h4 =>
 sCheck (sSame (lift (pLoad1 I v7 h2) h2) v8 && (sSame (lift (pLoad1 I v7 h3) h3) v8 && true)) (
 sCheck (sSame (lift (pLoad1 I v10 h2) h2) v11 && (sSame (lift (pLoad1 I v10 h3) h3) v11 && true)) (
 sCheck (sSame (lift (pLoad1 I v14 h2) h2) v15 && true) (
 sCheck (sSame (lift (pLoad1 I v17 h2) h2) v18 && true) (
 sCheck (sSame (lift (pLoad1 I v20 h2) h2) v21 && true) (
 bndP (pBuild [Z 0, Z 0] [(0, 1, Z 3), (1, 1, Z 2)]) fun v28 =>
 kA [Z 0, Z 0] h4 fun v2 h5 =>
 kS 2 v2 v28 h5 fun _ h6 =>
 kM I 2 v2 h6 fun v30 =>
 kC call 103 [v4, v30] h6 fun v31 h7 =>
 kZ v31 fun v33 =>
 kB .eql v33 (Z 1) fun v34 =>
 gV v34 .true v31 h7 fun v36 h8 =>
 gP v34 .true (pIndexAddr 5 v36 (Z 0)) h8 fun v37 h9 =>
 gP v34 .true (pFieldAddr 0 v37) h9 fun v38 h10 =>
 gP v34 .true (pLoad1 I v38 h10) h10 fun v39 h11 =>
 gP v34 .true (pBin .eql v39 (Z 1)) h11 fun v40 h12 =>
 kP v34 v40 bF fun v41 =>
 gV v41 .true v31 h12 fun v43 h13 =>
 gP v41 .true (pIndexAddr 5 v43 (Z 0)) h13 fun v44 h14 =>
 gP v41 .true (pFieldAddr 1 v44) h14 fun v45 h15 =>
 gP v41 .true (pLoad1 I v45 h15) h15 fun v46 h16 =>
 gP v41 .true (pBin .eql v46 (Z 1)) h16 fun v47 h17 =>
 kP v41 v47 bF fun v48 =>
 gV v48 .true v4 h17 fun v50 h18 =>
 gP v48 .true (pLoadN I 2 v2 h18) h18 fun v51 h19 =>
 gV v48 .true v31 h19 fun v52 h20 =>
 gS v48 .true (call 104 [v50, v51, v52] h20) h20 fun v53 h21 =>
 kP v48 v53 bF fun v54 =>
 gV v54 .true v4 h21 fun v56 h22 =>
 gP v54 .true (pLoadN I 2 v2 h22) h22 fun v57 h23 =>
 gS v54 .true (call 104 [v56, v57, .nils] h23) h23 fun v58 h24 =>
 gP v54 .true (pUn .not v58) h24 fun v59 h25 =>
 kP v54 v59 bF fun v60 =>
 some (v60, h25))))))
def f58.T : Lb Unit Unit := fun I call j => ()
def f58.r : Inp → SF := runL f58.T f58.e
theorem f58.k : FOk P 58 f58.r := .of 0 ()
abbrev J59 := ((A2 × A2) × (A5 × (A5 × A5)))
def f59.b0 : Lb J59 A2 := fun I call j v2 v9 h =>
 bndP (pMinmax .true [v2, Z 0]) fun v21 =>
 bndP (pMinmax .false [v21, Z 3000]) fun v22 =>
 j.2.1 v2 v9 .nils v22 (Z 0) h
def f59.b1 : Lb J59 A2 := fun I call j v2 v10 h =>
 bndP (pMinmax .true [v2, Z 0]) fun v82 =>
 bndP (pMinmax .false [v82, Z 3000]) fun v83 =>
 some (.tuple [v10, v83, Z 5], h)
def f59.b2 : Lb J59 A5 := fun I call j v2 v9 v10 v22 v23 h =>
 kB .lss v23 v22 fun v24 =>
 sCond v24 (
 j.1.2 v2 v10 h) (
 j.2.2.1 v2 v9 v10 v22 v23 h)
def f59.b3 : Lb J59 A5 := fun I call j v2 v9 v10 v22 v23 h =>
 kC call 106 [v9] h fun v27 h1 =>
 kC call 107 [v9] h1 fun v29 h2 =>
 kC call 108 [v29] h2 fun v30 h3 =>
 kC call 109 [v9] h3 fun v32 h4 =>
 kC call 110 [v9] h4 fun v35 h5 =>
 kB .geq v35 (Z 0) fun v36 =>
 sCond v36 (
 kC call 111 [v9] h5 fun v46 h6 =>
 sCond v46 (
 kC call 107 [v9] h6 fun v54 h7 =>
 kC call 108 [v54] h7 fun v55 h8 =>
 kB .gtr v55 v30 fun v57 =>
 sCond v57 (
 kB .neq v32 (Z 0) fun v68 =>
 sCond v68 (
 j.2.2.2 v2 v9 v10 v22 v23 h8) (
 kC call 106 [v9] h8 fun v71 h9 =>
 bndP (pBuild [Z 0, Z 0, Z 0] [(0, 1, v71), (1, 1, Z 4), (2, 1, v32)]) fun v73 =>
 bnd (sBuildSlice [Z 0, Z 0, Z 0] 1 [(0, 3, v73)] h9) fun v74 h10 =>
 bnd (sAppend I 3 24 v10 v74 h10) fun v75 h11 =>
 kB .add v23 (Z 1) fun v77 =>
 some (.tuple [v75, v77, v32], h11))) (
 kC call 107 [v9] h8 fun v61 h12 =>
 kC call 108 [v61] h12 fun v62 h13 =>
 bndP (pBuild [Z 0, Z 0, Z 0] [(0, 1, v27), (1, 1, Z 3), (2, 1, v62)]) fun v63 =>
 bnd (sBuildSlice [Z 0, Z 0, Z 0] 1 [(0, 3, v63)] h13) fun v64 h14 =>
 bnd (sAppend I 3 24 v10 v64 h14) fun v65 h15 =>
 j.2.2.2 v2 v9 v65 v22 v23 h15)) (
 bndP (pBuild [Z 0, Z 0, Z 0] [(0, 1, v27), (1, 1, Z 2), (2, 1, Z 0)]) fun v49 =>
 bnd (sBuildSlice [Z 0, Z 0, Z 0] 1 [(0, 3, v49)] h6) fun v50 h16 =>
 bnd (sAppend I 3 24 v10 v50 h16) fun v51 h17 =>
 j.2.2.2 v2 v9 v51 v22 v23 h17)) (
 kC call 110 [v9] h5 fun v40 h18 =>
 bndP (pBuild [Z 0, Z 0, Z 0] [(0, 1, v27), (1, 1, Z 1), (2, 1, v40)]) fun v41 =>
 bnd (sBuildSlice [Z 0, Z 0, Z 0] 1 [(0, 3, v41)] h18) fun v42 h19 =>
 bnd (sAppend I 3 24 v10 v42 h19) fun v43 h20 =>
 j.2.2.2 v2 v9 v43 v22 v23 h20)
def f59.b4 : Lb J59 A5 := fun I call j v2 v9 v10 v22 v23 h =>
 kB .add v23 (Z 1) fun v79 =>
 j.2.1 v2 v9 v10 v22 v79 h
def f59.e : Lb J59 A3 := fun I call j v0 v1 v2 h =>
 kC call 105 [v0, v1] h fun v17 h1 =>
 bndP (pEq P .false .ptr .true v17 .nilp h1) fun v19 =>
 sCond v19 (
 j.1.1 v2 v17 h1) (
 some (.tuple [.nils, Z 0, Z 4], h1))
def f59.T : Lb J59 J59 := fun I call j => ((f59.b0 I call j, f59.b1 I call j), (f59.b2 I call j, (f59.b3 I call j, f59.b4 I call j)))
def f59.r : Inp → SF := runL f59.T f59.e
theorem f59.k : FOk P 59 f59.r := .of 5 (([2, 9], [2, 10]), ([2, 9, 10, 22, 23], ([2, 9, 10, 22, 23], [2, 9, 10, 22, 23])))
def f61.e : Lb Unit A2 := fun I call j v0 v1 h =>
 bnd (sBox v0 h) fun v2 h1 =>
 bnd (sBox v1 h1) fun v3 h2 =>
 kF 0 v2 fun v5 =>
 kL I v5 h2 fun v6 =>
 kF 0 v3 fun v7 =>
 kL I v7 h2 fun v8 =>
 kC call 63 [v6, v8] h2 fun v9 h3 =>
 kF 1 v2 fun v10 =>
 kL I v10 h3 fun v11 =>
 kF 1 v3 fun v12 =>
 kL I v12 h3 fun v13 =>
 kC call 63 [v11, v13] h3 fun v14 h4 =>
 bnd (sBuildSlice [Z 0] 2 [(0, 1, v9), (1, 1, v14)] h4) fun v15 h5 =>
 kC call 62 [v15] h5 fun v16 h6 =>
 sCheck (sSame (lift (pLoad1 I v10 h2) h2) v11 && true) (
 sCheck (sSame (lift (pLoad1 I v12 h2) h2) v13 && true) (
 some (v16, h6)))
def f61.T : Lb Unit Unit := fun I call j => ()
def f61.r : Inp → SF := runL f61.T f61.e
theorem f61.k : FOk P 61 f61.r := .of 0 ()
abbrev J62 := ((A1 × A4) × (A4 × A4))
def f62.b0 : Lb J62 A1 := fun I call j v3 h =>
 some (v3, h)
def f62.b1 : Lb J62 A4 := fun I call j v3 v6 v7 v8 h =>
 kB .lss v8 v7 fun v9 =>
 sCond v9 (
 j.1.1 v3 h) (
 j.2.1 v3 v6 v7 v8 h)
def f62.b2 : Lb J62 A4 := fun I call j v3 v6 v7 v8 h =>
 kI 1 v6 v8 fun v10 =>
 kL I v10 h fun v11 =>
 kB .neq v11 v3 fun v14 =>
 sCond v14 (
 j.2.2 v3 v6 v7 v8 h) (
 some (v11, h))
def f62.b3 : Lb J62 A4 := fun I call j v3 v6 v7 v8 h =>
 kB .add v8 (Z 1) fun v16 =>
 j.1.2 v3 v6 v7 v16 h
def f62.e : Lb J62 A1 := fun I call j v0 h =>
 kZ v0 fun v7 =>
 j.1.2 (Z 0) v0 v7 (Z 0) h
def f62.T : Lb J62 J62 := fun I call j => ((f62.b0 I call j, f62.b1 I call j), (f62.b2 I call j, f62.b3 I call j))
def f62.r : Inp → SF := runL f62.T f62.e
theorem f62.k : FOk P 62 f62.r := .of 4 (([3], [3, 6, 7, 8]), ([3, 6, 7, 8], [3, 6, 7, 8]))
abbrev J63 := ((A3 × A0) × (A2 × (A2 × A0)))
def f63.b0 : Lb J63 A3 := fun I call j v0 v1 v6 h =>
 sCond v6 (
 j.2.1 v0 v1 h) (
 some ((Z 1), h))
def f63.b1 : Lb J63 A0 := fun I call j h =>
 some ((.int .i64 (.negSucc 0)), h)
def f63.b2 : Lb J63 A2 := fun I call j v0 v1 h =>
 kB .lss v0 v1 fun v16 =>
 sCond v16 (
 j.2.2.1 v0 v1 h) (
 some ((.int .i64 (.negSucc 0)), h))
def f63.b3 : Lb J63 A2 := fun I call j v0 v1 h =>
 kB .gtr v0 v1 fun v19 =>
 sCond v19 (
 j.2.2.2 h) (
 some ((Z 1), h))
def f63.b4 : Lb J63 A0 := fun I call j h =>
 some ((Z 0), h)
def f63.e : Lb J63 A2 := fun I call j v0 v1 h =>
 kC call 114 [v0] h fun v8 h1 =>
 kC call 114 [v1] h1 fun v10 h2 =>
 sCond v8 (
 j.1.1 v0 v1 v10 h2) (
 sCond v10 (
 j.1.2 h2) (
 some ((Z 0), h2)))
def f63.T : Lb J63 J63 := fun I call j => ((f63.b0 I call j, f63.b1 I call j), (f63.b2 I call j, (f63.b3 I call j, f63.b4 I call j)))
def f63.r : Inp → SF := runL f63.T f63.e
theorem f63.k : FOk P 63 f63.r := .of 5 (([0, 1, 6], []), ([0, 1], ([0, 1], [])))
abbrev J64 := (((A1 × A1) × (A2 × A2)) × ((A2 × A2) × (A4 × (A4 × A4))))
def f64.b0 : Lb J64 A1 := fun I call j v0 h =>
 j.1.2.1 v0 (Z 1) h
def f64.b1 : Lb J64 A1 := fun I call j v0 h =>
 some (v0, h)
def f64.b2 : Lb J64 A2 := fun I call j v0 v3 h =>
 kZ v0 fun v12 =>
 kB .lss v3 v12 fun v13 =>
 sCond v13 (
 j.1.1.2 v0 h) (
 j.1.2.2 v0 v3 h)
def f64.b3 : Lb J64 A2 := fun I call j v0 v3 h =>
 kI 2 v0 v3 fun v18 =>
 kM I 2 v18 h fun v19 =>
 kB .sub v3 (Z 1) fun v22 =>
 kI 2 v0 v22 fun v23 =>
 kM I 2 v23 h fun v24 =>
 bndP (pEq P .false (.struct [.i, .i]) .false v19 v24 h) fun v25 =>
 sCond v25 (
 j.2.1.1 v0 v3 h) (
 bndP (pSliceS 2 v0 (some v3) none none) fun v28 =>
 j.2.2.1 v0 v3 v28 (Z 1) h)
def f64.b4 : Lb J64 A2 := fun I call j v0 v3 h =>
 kB .add v3 (Z 1) fun v15 =>
 j.1.2.1 v0 v15 h
def f64.b5 : Lb J64 A2 := fun I call j v0 v3 h =>
 bndP (pSliceS 2 v0 (some v3) none none) fun v56 =>
 bnd (clearV [Z 0, Z 0] v56 h) fun _ h1 =>
 bndP (pSliceS 2 v0 none (some v3) none) fun v59 =>
 some (v59, h1)
def f64.b6 : Lb J64 A4 := fun I call j v0 v3 v4 v5 h =>
 kZ v4 fun v31 =>
 kB .lss v5 v31 fun v32 =>
 sCond v32 (
 j.2.1.2 v0 v3 h) (
 j.2.2.2.1 v0 v3 v4 v5 h)
def f64.b7 : Lb J64 A4 := fun I call j v0 v3 v4 v5 h =>
 kI 2 v4 v5 fun v37 =>
 kM I 2 v37 h fun v38 =>
 kB .sub v5 (Z 1) fun v41 =>
 kI 2 v4 v41 fun v42 =>
 kM I 2 v42 h fun v43 =>
 bndP (pEq P .true (.struct [.i, .i]) .false v38 v43 h) fun v44 =>
 sCond v44 (
 j.2.2.2.2 v0 v3 v4 v5 h) (
 kI 2 v4 v5 fun v49 =>
 kM I 2 v49 h fun v50 =>
 kI 2 v0 v3 fun v51 =>
 kS 2 v51 v50 h fun _ h1 =>
 kB .add v3 (Z 1) fun v53 =>
 j.2.2.2.2 v0 v53 v4 v5 h1)
def f64.b8 : Lb J64 A4 := fun I call j v0 v3 v4 v5 h =>
 kB .add v5 (Z 1) fun v34 =>
 j.2.2.1 v0 v3 v4 v34 h
def f64.e : Lb J64 A1 := fun I call j v0 h =>
 kZ v0 fun v7 =>
 kB .lss v7 (Z 2) fun v8 =>
 sCond v8 (
 j.1.1.1 v0 h) (
 some (v0, h))
def f64.T : Lb J64 J64 := fun I call j => (((f64.b0 I call j, f64.b1 I call j), (f64.b2 I call j, f64.b3 I call j)), ((f64.b4 I call j, f64.b5 I call j), (f64.b6 I call j, (f64.b7 I call j, f64.b8 I call j))))
def f64.r : Inp → SF := runL f64.T f64.e
theorem f64.k : FOk P 64 f64.r := .of 9 ((([0], [0]), ([0, 3], [0, 3])), (([0, 3], [0, 3]), ([0, 3, 4, 5], ([0, 3, 4, 5], [0, 3, 4, 5]))))
abbrev J65 := ((A1 × A1) × (A1 × (A1 × A1)))
def f65.b0 : Lb J65 A1 := fun I call j v0 h =>
 kC call 116 [v0] h fun v14 h1 =>
 bndP (pEq P .true .iface .true v14 .nili h1) fun v16 =>
 sCond v16 (
 j.1.2 v0 h1) (
 some (v14, h1))
def f65.b1 : Lb J65 A1 := fun I call j v0 h =>
 kC call 117 [v0] h fun v19 h1 =>
 bndP (pEq P .true .iface .true v19 .nili h1) fun v21 =>
 sCond v21 (
 j.2.1 v0 h1) (
 some (v19, h1))
def f65.b2 : Lb J65 A1 := fun I call j v0 h =>
 kC call 118 [v0] h fun v24 h1 =>
 bndP (pEq P .true .iface .true v24 .nili h1) fun v26 =>
 sCond v26 (
 j.2.2.1 v0 h1) (
 some (v24, h1))
def f65.b3 : Lb J65 A1 := fun I call j v0 h =>
 kC call 119 [v0] h fun v29 h1 =>
 bndP (pEq P .true .iface .true v29 .nili h1) fun v31 =>
 sCond v31 (
 j.2.2.2 v0 h1) (
 some (v29, h1))
def f65.b4 : Lb J65 A1 := fun I call j v0 h =>
 kC call 120 [v0] h fun v34 h1 =>
 some (v34, h1)
def f65.e : Lb J65 A1 := fun I call j v0 h =>
 kC call 115 [v0] h fun v9 h1 =>
 bndP (pEq P .true .iface .true v9 .nili h1) fun v11 =>
 sCond v11 (
 j.1.1 v0 h1) (
 some (v9, h1))
def f65.T : Lb J65 J65 := fun I call j => ((f65.b0 I call j, f65.b1 I call j), (f65.b2 I call j, (f65.b3 I call j, f65.b4 I call j)))
def f65.r : Inp → SF := runL f65.T f65.e
theorem f65.k : FOk P 65 f65.r := .of 5 (([0], [0]), ([0], ([0], [0])))
abbrev J66 := A1
def f66.b0 : Lb J66 A1 := fun I call j v2 h =>
 bndP (pBuild [Z 0, Z 0, Z 0] []) fun v21 =>
 kS 3 v2 v21 h fun _ h1 =>
 sRet (sCons (sResN I 3 v2 h1) (sCons (some bF) (some []))) h1
def f66.e : Lb J66 A1 := fun I call j v0 h =>
 kA [Z 0, Z 0, Z 0] h fun v2 h1 =>
 kC call 121 [v0] h1 fun v6 h2 =>
 bndP (pEq P .true .ptr .true v6 .nilp h2) fun v8 =>
 gV v8 .true v6 h2 fun v10 h3 =>
 gP v8 .true (pNilCheck v10) h3 fun v11 h4 =>
 gP v8 .true (pFieldAddr 1 v11) h4 fun v12 h5 =>
 gP v8 .true (pFieldAddr 0 v12) h5 fun v13 h6 =>
 gP v8 .true (pLoad1 I v13 h6) h6 fun v14 h7 =>
 gP v8 .true (pBin .geq v14 (Z 0)) h7 fun v15 h8 =>
 kP v8 v15 bF fun v16 =>
 sCond v16 (
 j v2 h8) (
 kN v6 fun v18 =>
 kF 1 v18 fun v19 =>
 kM I 3 v19 h8 fun v20 =>
 kS 3 v2 v20 h8 fun _ h9 =>
 sRet (sCons (sResN I 3 v2 h9) (sCons (some bT) (some []))) h9)
def f66.T : Lb J66 J66 := fun I call j => f66.b0 I call j
def f66.r : Inp → SF := runL f66.T f66.e
theorem f66.k : FOk P 66 f66.r := .of 1 [2]
def f67.e : Lb Unit A0 := fun I call j h =>
 kA [Z 0, Z 0, Z 0] h fun v0 h1 =>
 bndP (pBuild [Z 0, Z 0, Z 0] [(0, 1, (.int .i64 (.negSucc 0)))]) fun v1 =>
 kS 3 v0 v1 h1 fun _ h2 =>
 sRet (sCons (sResN I 3 v0 h2) (some [])) h2
def f67.T : Lb Unit Unit := fun I call j => ()
def f67.r : Inp → SF := runL f67.T f67.e
theorem f67.k : FOk P 67 f67.r := .of 0 ()
def f68.e : Lb Unit A3 := fun I call j v0 v1 v2 h =>
 bnd (sBox v1 h) fun v4 h1 =>
 kM I 3 v4 h1 fun v8 =>
 bndP (pBuild [Z 0, Z 0, Z 0, Z 0, .nili] [(0, 1, v0), (1, 3, v8), (4, 1, v2)]) fun v10 =>
 bnd (sBox v10 h1) fun v11 h2 =>
 some ((.iface 192 v11), h2)
def f68.T : Lb Unit Unit := fun I call j => ()
def f68.r : Inp → SF := runL f68.T f68.e
theorem f68.k : FOk P 68 f68.r := .of 0 ()
abbrev J69 := A0
def f69.b0 : Lb J69 A0 := fun I call j h =>
 some ((Z 0), h)
def f69.e : Lb J69 A1 := fun I call j v0 h =>
 kC call 121 [v0] h fun v5 h1 =>
 bndP (pEq P .true .ptr .true v5 .nilp h1) fun v7 =>
 sCond v7 (
 j h1) (
 kN v5 fun v9 =>
 kF 0 v9 fun v10 =>
 kL I v10 h1 fun v11 =>
 some (v11, h1))
def f69.T : Lb J69 J69 := fun I call j => f69.b0 I call j
def f69.r : Inp → SF := runL f69.T f69.e
theorem f69.k : FOk P 69 f69.r := .of 1 []
abbrev J70 := (((A1 × A2) × (A5 × A5)) × ((A5 × A1) × (A5 × (A5 × A5))))
def f70.b0 : Lb J70 A1 := fun I call j v0 h =>
 bndP (pBuild [.nils, .nils, .nils, .nils, .nils, Z 0] []) fun v14 =>
 bnd (sBox v14 h) fun v15 h1 =>
 kN v0 fun v17 =>
 kF 4 v17 fun v18 =>
 kL I v18 h1 fun v19 =>
 kZ v19 fun v20 =>
 j.1.2.1 v0 v15 v19 v20 (Z 0) h1
def f70.b1 : Lb J70 A2 := fun I call j v0 v3 h =>
 kC call 81 [v0] h fun v51 h1 =>
 kZ v51 fun v52 =>
 j.2.2.1 v0 v3 v51 v52 (Z 0) h1
def f70.b2 : Lb J70 A5 := fun I call j v0 v3 v19 v20 v21 h =>
 kB .lss v21 v20 fun v22 =>
 sCond v22 (
 j.1.1.2 v0 v3 h) (
 j.1.2.2 v0 v3 v19 v20 v21 h)
def f70.b3 : Lb J70 A5 := fun I call j v0 v3 v19 v20 v21 h =>
 kI 3 v19 v21 fun v23 =>
 kM I 3 v23 h fun v24 =>
 kA [Z 0, .nils, .nils] h fun v5 h1 =>
 kS 3 v5 v24 h1 fun _ h2 =>
 kN v3 fun v27 =>
 kF 0 v27 fun v28 =>
 kL I v28 h2 fun v29 =>
 kF 1 v5 fun v31 =>
 kL I v31 h2 fun v32 =>
 kZ v32 fun v33 =>
 kC call 122 [v3, v33] h2 fun v34 h3 =>
 bnd (sBuildSlice [.nils] 1 [(0, 1, v34)] h3) fun v35 h4 =>
 bnd (sAppend I 1 24 v29 v35 h4) fun v36 h5 =>
 kN v3 fun v37 =>
 kF 0 v37 fun v38 =>
 kS 1 v38 v36 h5 fun _ h6 =>
 sCheck (sSame (lift (pLoad1 I v28 h3) h3) v29 && (sSame (lift (pLoad1 I v28 h4) h4) v29 && true)) (
 kN v3 fun v41 =>
 kF 1 v41 fun v42 =>
 kL I v42 h6 fun v43 =>
 kC call 122 [v3, Z 1] h6 fun v45 h7 =>
 bnd (sAppend I 1 8 v43 v45 h7) fun v46 h8 =>
 kN v3 fun v47 =>
 kF 1 v47 fun v48 =>
 kS 1 v48 v46 h8 fun _ h9 =>
 sCheck (sSame (lift (pLoad1 I v42 h7) h7) v43 && true) (
 j.2.1.1 v0 v3 v19 v20 v21 h9))
def f70.b4 : Lb J70 A5 := fun I call j v0 v3 v19 v20 v21 h =>
 kB .add v21 (Z 1) fun v49 =>
 j.1.2.1 v0 v3 v19 v20 v49 h
def f70.b5 : Lb J70 A1 := fun I call j v3 h =>
 some (v3, h)
def f70.b6 : Lb J70 A5 := fun I call j v0 v3 v51 v52 v53 h =>
 kB .lss v53 v52 fun v54 =>
 sCond v54 (
 j.2.1.2 v3 h) (
 j.2.2.2.1 v0 v3 v51 v52 v53 h)
def f70.b7 : Lb J70 A5 := fun I call j v0 v3 v51 v52 v53 h =>
 kI 3 v51 v53 fun v56 =>
 kM I 3 v56 h fun v57 =>
 kA [Z 0, Z 0, Z 0] h fun v7 h1 =>
 kS 3 v7 v57 h1 fun _ h2 =>
 kC call 82 [v0, v53] h2 fun v61 h3 =>
 kX v61 0 fun v62 =>
 kX v61 1 fun v63 =>
 kA [Z 0, Z 0, Z 0, Z 0, Z 0, .nils] h3 fun v8 h4 =>
 kS 6 v8 v62 h4 fun _ h5 =>
 gP v63 .true (pFieldAddr 0 v8) h5 fun v66 h6 =>
 gP v63 .true (pLoad1 I v66 h6) h6 fun v67 h7 =>
 gP v63 .true (pBin .eql v67 (Z 5)) h7 fun v68 h8 =>
 kP v63 v68 bF fun v69 =>
 sCond v69 (
 j.2.2.2.2 v0 v3 v51 v52 v53 h8) (
 kN v0 fun v71 =>
 kF 4 v71 fun v72 =>
 kL I v72 h8 fun v73 =>
 kF 0 v7 fun v74 =>
 kL I v74 h8 fun v75 =>
 kI 3 v73 v75 fun v76 =>
 kF 1 v76 fun v77 =>
 kL I v77 h8 fun v78 =>
 kF 1 v8 fun v79 =>
 kL I v79 h8 fun v80 =>
 kI 2 v78 v80 fun v81 =>
 kF 1 v81 fun v82 =>
 kL I v82 h8 fun v83 =>
 kN v3 fun v86 =>
 kF 3 v86 fun v87 =>
 kL I v87 h8 fun v88 =>
 bnd (sBuildSlice [Z 0] 1 [(0, 1, v53)] h8) fun v90 h9 =>
 bnd (sAppend I 1 8 v88 v90 h9) fun v91 h10 =>
 kN v3 fun v92 =>
 kF 3 v92 fun v93 =>
 kS 1 v93 v91 h10 fun _ h11 =>
 kN v3 fun v96 =>
 kF 4 v96 fun v97 =>
 kL I v97 h11 fun v98 =>
 bnd (sBuildSlice [Z 0] 1 [(0, 1, v83)] h11) fun v100 h12 =>
 bnd (sAppend I 1 8 v98 v100 h12) fun v101 h13 =>
 kN v3 fun v102 =>
 kF 4 v102 fun v103 =>
 kS 1 v103 v101 h13 fun _ h14 =>
 kN v3 fun v106 =>
 kF 2 v106 fun v107 =>
 kL I v107 h14 fun v108 =>
 kN v0 fun v111 =>
 kF 0 v111 fun v112 =>
 kL I v112 h14 fun v113 =>
 kI 1 v113 v83 fun v115 =>
 kL I v115 h14 fun v116 =>
 kZ v116 fun v117 =>
 kC call 122 [v3, v117] h14 fun v118 h15 =>
 bnd (sBuildSlice [.nils] 1 [(0, 1, v118)] h15) fun v119 h16 =>
 bnd (sAppend I 1 24 v108 v119 h16) fun v120 h17 =>
 kN v3 fun v121 =>
 kF 2 v121 fun v122 =>
 kS 1 v122 v120 h17 fun _ h18 =>
 sCheck (sSame (lift (pLoad1 I v107 h15) h15) v108 && (sSame (lift (pLoad1 I v107 h16) h16) v108 && true)) (
 j.2.2.2.2 v0 v3 v51 v52 v53 h18))
def f70.b8 : Lb J70 A5 := fun I call j v0 v3 v51 v52 v53 h =>
 kB .add v53 (Z 1) fun v123 =>
 j.2.2.1 v0 v3 v51 v52 v123 h
def f70.e : Lb J70 A1 := fun I call j v0 h =>
 kC call 49 [v0] h fun v12 h1 =>
 bndP (pEq P .true .iface .true v12 .nili h1) fun v13 =>
 sCond v13 (
 j.1.1.1 v0 h1) (
 some (.nilp, h1))
def f70.T : Lb J70 J70 := fun I call j => (((f70.b0 I call j, f70.b1 I call j), (f70.b2 I call j, f70.b3 I call j)), ((f70.b4 I call j, f70.b5 I call j), (f70.b6 I call j, (f70.b7 I call j, f70.b8 I call j))))
def f70.r : Inp → SF := runL f70.T f70.e
theorem f70.k : FOk P 70 f70.r := .of 9 ((([0], [0, 3]), ([0, 3, 19, 20, 21], [0, 3, 19, 20, 21])), (([0, 3, 19, 20, 21], [3]), ([0, 3, 51, 52, 53], ([0, 3, 51, 52, 53], [0, 3, 51, 52, 53]))))
abbrev J71 := A1
def f71.b0 : Lb J71 A1 := fun I call j v0 h =>
 kN v0 fun v6 =>
 kF 5 v6 fun v7 =>
 kL I v7 h fun v8 =>
 some (v8, h)
def f71.e : Lb J71 A1 := fun I call j v0 h =>
 bndP (pEq P .false .ptr .true v0 .nilp h) fun v4 =>
 sCond v4 (
 j v0 h) (
 some ((Z 0), h))
def f71.T : Lb J71 J71 := fun I call j => f71.b0 I call j
def f71.r : Inp → SF := runL f71.T f71.e
theorem f71.k : FOk P 71 f71.r := .of 1 [0]
abbrev J72 := ((A1 × A3) × (A3 × A3))
def f72.b0 : Lb J72 A1 := fun I call j v3 h =>
 some (v3, h)
def f72.b1 : Lb J72 A3 := fun I call j v3 v9 v10 h =>
 kB .lss v10 v9 fun v11 =>
 sCond v11 (
 j.1.1 v3 h) (
 j.2.1 v3 v9 v10 h)
def f72.b2 : Lb J72 A3 := fun I call j v3 v9 v10 h =>
 kN v3 fun v15 =>
 kF 0 v15 fun v16 =>
 kL I v16 h fun v17 =>
 bnd (sBuildSlice [Z 0] 1 [(0, 1, v10)] h) fun v19 h1 =>
 bnd (sAppend I 1 8 v17 v19 h1) fun v20 h2 =>
 kN v3 fun v21 =>
 kF 0 v21 fun v22 =>
 kS 1 v22 v20 h2 fun _ h3 =>
 j.2.2 v3 v9 v10 h3
def f72.b3 : Lb J72 A3 := fun I call j v3 v9 v10 h =>
 kB .add v10 (Z 1) fun v23 =>
 j.1.2 v3 v9 v23 h
def f72.e : Lb J72 A1 := fun I call j v0 h =>
 bndP (pBuild [.nils] []) fun v5 =>
 bnd (sBox v5 h) fun v6 h1 =>
 bndP (pMinmax .true [v0, Z 0]) fun v8 =>
 bndP (pMinmax .false [v8, Z 5000]) fun v9 =>
 j.1.2 v6 v9 (Z 0) h1
def f72.T : Lb J72 J72 := fun I call j => ((f72.b0 I call j, f72.b1 I call j), (f72.b2 I call j, f72.b3 I call j))
def f72.r : Inp → SF := runL f72.T f72.e
theorem f72.k : FOk P 72 f72.r := .of 4 (([3], [3, 9, 10]), ([3, 9, 10], [3, 9, 10]))
def f73.e : Lb Unit A1 := fun I call j v0 h =>
 kC call 123 [v0] h fun v4 h1 =>
 bnd (mapNewV h1) fun v5 h2 =>
 bndP (pBuild [.nils, .nils, .nilm, Z 0] [(0, 1, v4), (2, 1, v5)]) fun v6 =>
 bnd (sBox v6 h2) fun v7 h3 =>
 some (v7, h3)
def f73.T : Lb Unit Unit := fun I call j => ()
def f73.r : Inp → SF := runL f73.T f73.e
theorem f73.k : FOk P 73 f73.r := .of 0 ()
abbrev J74 := (((A2 × A2) × (A5 × A5)) × ((A5 × A5) × (A5 × A5)))
def f74.b0 : Lb J74 A2 := fun I call j v0 v1 h =>
 kN v0 fun v18 =>
 kF 0 v18 fun v19 =>
 kL I v19 h fun v20 =>
 kC call 125 [v20, v1] h fun v22 h1 =>
 kZ v22 fun v23 =>
 j.1.2.1 v0 v1 v22 v23 (Z 0) h1
def f74.b1 : Lb J74 A2 := fun I call j v0 v1 h =>
 kN v0 fun v33 =>
 kF 0 v33 fun v34 =>
 kL I v34 h fun v35 =>
 kC call 81 [v35] h fun v36 h1 =>
 kZ v36 fun v37 =>
 j.2.1.2 v0 v1 v36 v37 (Z 0) h1
def f74.b2 : Lb J74 A5 := fun I call j v0 v1 v22 v23 v24 h =>
 kB .lss v24 v23 fun v25 =>
 sCond v25 (
 j.1.1.2 v0 v1 h) (
 j.1.2.2 v0 v1 v22 v23 v24 h)
def f74.b3 : Lb J74 A5 := fun I call j v0 v1 v22 v23 v24 h =>
 kI 7 v22 v24 fun v26 =>
 kM I 7 v26 h fun v27 =>
 kA [Z 0, Z 0, Z 0, Z 0, .nils, Z 0, Z 0] h fun v5 h1 =>
 kS 7 v5 v27 h1 fun _ h2 =>
 kM I 7 v5 h2 fun v29 =>
 kC call 126 [v0, v29] h2 fun v30 h3 =>
 j.2.1.1 v0 v1 v22 v23 v24 h3
def f74.b4 : Lb J74 A5 := fun I call j v0 v1 v22 v23 v24 h =>
 kB .add v24 (Z 1) fun v31 =>
 j.1.2.1 v0 v1 v22 v23 v31 h
def f74.b5 : Lb J74 A5 := fun I call j v0 v1 v36 v37 v38 h =>
 kB .lss v38 v37 fun v39 =>
 sCond v39 (
 some (.tuple [], h)) (
 j.2.2.1 v0 v1 v36 v37 v38 h)
def f74.b6 : Lb J74 A5 := fun I call j v0 v1 v36 v37 v38 h =>
 kI 3 v36 v38 fun v41 =>
 kM I 3 v41 h fun v42 =>
 kA [Z 0, Z 0, Z 0] h fun v7 h1 =>
 kS 3 v7 v42 h1 fun _ h2 =>
 kN v0 fun v45 =>
 kF 0 v45 fun v46 =>
 kL I v46 h2 fun v47 =>
 kC call 82 [v47, v38] h2 fun v49 h3 =>
 kX v49 0 fun v50 =>
 kX v49 1 fun v51 =>
 kA [Z 0, Z 0, Z 0, Z 0, Z 0, .nils] h3 fun v8 h4 =>
 kS 6 v8 v50 h4 fun _ h5 =>
 gP v51 .true (pFieldAddr 0 v7) h5 fun v54 h6 =>
 gP v51 .true (pLoad1 I v54 h6) h6 fun v55 h7 =>
 gV v51 .true v1 h7 fun v56 h8 =>
 gP v51 .true (pBin .eql v55 v56) h8 fun v57 h9 =>
 kP v51 v57 bF fun v58 =>
 gP v58 .true (pFieldAddr 0 v8) h9 fun v60 h10 =>
 gP v58 .true (pLoad1 I v60 h10) h10 fun v61 h11 =>
 gP v58 .true (pBin .eql v61 (Z 12)) h11 fun v62 h12 =>
 kP v58 v62 bF fun v63 =>
 sCond v63 (
 j.2.2.2 v0 v1 v36 v37 v38 h12) (
 kF 4 v8 fun v66 =>
 kL I v66 h12 fun v67 =>
 kC call 127 [v0, v38, v67] h12 fun v68 h13 =>
 j.2.2.2 v0 v1 v36 v37 v38 h13)
def f74.b7 : Lb J74 A5 := fun I call j v0 v1 v36 v37 v38 h =>
 kB .add v38 (Z 1) fun v69 =>
 j.2.1.2 v0 v1 v36 v37 v69 h
def f74.e : Lb J74 A2 := fun I call j v0 v1 h =>
 kN v0 fun v11 =>
 kF 7 v11 fun v12 =>
 kL I v12 h fun v13 =>
 kC call 124 [v13, v1] h fun v15 h1 =>
 kU .not v15 fun v16 =>
 sCond v16 (
 j.1.1.1 v0 v1 h1) (
 some (.tuple [], h1))
def f74.T : Lb J74 J74 := fun I call j => (((f74.b0 I call j, f74.b1 I call j), (f74.b2 I call j, f74.b3 I call j)), ((f74.b4 I call j, f74.b5 I call j), (f74.b6 I call j, f74.b7 I call j)))
def f74.r : Inp → SF := runL f74.T f74.e
theorem f74.k : FOk P 74 f74.r := .of 8 ((([0, 1], [0, 1]), ([0, 1, 22, 23, 24], [0, 1, 22, 23, 24])), (([0, 1, 22, 23, 24], [0, 1, 36, 37, 38]), ([0, 1, 36, 37, 38], [0, 1, 36, 37, 38])))
abbrev J75 := (A1 × A2)
def f75.b0 : Lb J75 A1 := fun I call j v0 h =>
 kN v0 fun v17 =>
 kF 3 v17 fun v18 =>
 kL I v18 h fun v19 =>
 kN v0 fun v21 =>
 kF 0 v21 fun v22 =>
 kL I v22 h fun v23 =>
 kZ v23 fun v24 =>
 kB .lss v19 v24 fun v25 =>
 gV v25 .true v0 h fun v27 h1 =>
 gP v25 .true (pNilCheck v27) h1 fun v28 h2 =>
 gP v25 .true (pFieldAddr 0 v28) h2 fun v29 h3 =>
 gP v25 .true (pLoad1 I v29 h3) h3 fun v30 h4 =>
 gV v25 .true v0 h4 fun v31 h5 =>
 gP v25 .true (pNilCheck v31) h5 fun v32 h6 =>
 gP v25 .true (pFieldAddr 3 v32) h6 fun v33 h7 =>
 gP v25 .true (pLoad1 I v33 h7) h7 fun v34 h8 =>
 gP v25 .true (pIndexAddr 1 v30 v34) h8 fun v35 h9 =>
 gP v25 .true (pLoad1 I v35 h9) h9 fun v36 h10 =>
 gP v25 .true (pBin .geq v36 (Z 0)) h10 fun v37 h11 =>
 kP v25 v37 bF fun v38 =>
 sCond v38 (
 j.2 v0 (Z 0) h11) (
 kN v0 fun v40 =>
 kF 0 v40 fun v41 =>
 kL I v41 h11 fun v42 =>
 kN v0 fun v44 =>
 kF 3 v44 fun v45 =>
 kL I v45 h11 fun v46 =>
 kI 1 v42 v46 fun v47 =>
 kL I v47 h11 fun v48 =>
 kN v0 fun v50 =>
 kF 1 v50 fun v51 =>
 kL I v51 h11 fun v52 =>
 kZ v52 fun v53 =>
 kB .rem v48 v53 fun v54 =>
 j.2 v0 v54 h11)
def f75.b1 : Lb J75 A2 := fun I call j v0 v4 h =>
 kN v0 fun v56 =>
 kF 3 v56 fun v57 =>
 kL I v57 h fun v58 =>
 kB .add v58 (Z 1) fun v59 =>
 kN v0 fun v60 =>
 kF 3 v60 fun v61 =>
 kS 1 v61 v59 h fun _ h1 =>
 kN v0 fun v63 =>
 kF 1 v63 fun v64 =>
 kL I v64 h1 fun v65 =>
 kI 1 v65 v4 fun v67 =>
 kL I v67 h1 fun v68 =>
 kN v0 fun v71 =>
 kF 1 v71 fun v72 =>
 kL I v72 h1 fun v73 =>
 kB .add v4 (Z 1) fun v76 =>
 kC call 128 [v73, v4, v76] h1 fun v77 h2 =>
 kN v0 fun v78 =>
 kF 1 v78 fun v79 =>
 kS 1 v79 v77 h2 fun _ h3 =>
 kN v0 fun v81 =>
 kF 2 v81 fun v82 =>
 kL I v82 h3 fun v83 =>
 bnd (mapDelV (.one .i) v83 v68 h3) fun _ h4 =>
 some (.tuple [v68, bT], h4)
def f75.e : Lb J75 A1 := fun I call j v0 h =>
 bndP (pEq P .false .ptr .true v0 .nilp h) fun v7 =>
 gV v7 .false v0 h fun v9 h1 =>
 gP v7 .false (pNilCheck v9) h1 fun v10 h2 =>
 gP v7 .false (pFieldAddr 1 v10) h2 fun v11 h3 =>
 gP v7 .false (pLoad1 I v11 h3) h3 fun v12 h4 =>
 gP v7 .false (pLenSl v12) h4 fun v13 h5 =>
 gP v7 .false (pBin .eql v13 (Z 0)) h5 fun v14 h6 =>
 kP v7 bT v14 fun v15 =>
 sCond v15 (
 j.1 v0 h6) (
 some (.tuple [Z 0, bF], h6))
def f75.T : Lb J75 J75 := fun I call j => (f75.b0 I call j, f75.b1 I call j)
def f75.r : Inp → SF := runL f75.T f75.e
theorem f75.k : FOk P 75 f75.r := .of 2 ([0], [0, 4])
abbrev J76 := (((A2 × A6) × (A6 × (A6 × (AVal → A9)))) × (((AVal → A9) × (AVal → A9)) × (A5 × (A5 × A5))))
def f76.b0 : Lb J76 A2 := fun I call j v0 v1 h =>
 kN v0 fun v67 =>
 kF 5 v67 fun v68 =>
 kL I v68 h fun v69 =>
 kI 1 v69 v1 fun v71 =>
 kL I v71 h fun v72 =>
 kC call 132 [v72] h fun v73 h1 =>
 kZ v73 fun v74 =>
 j.2.2.1 v0 v1 v73 v74 (Z 0) h1
def f76.b1 : Lb J76 A6 := fun I call j v0 v1 v4 v47 v48 v49 h =>
 kB .lss v49 v48 fun v50 =>
 sCond v50 (
 j.1.1.1 v0 v1 h) (
 j.1.2.1 v0 v1 v4 v47 v48 v49 h)
def f76.b2 : Lb J76 A6 := fun I call j v0 v1 v4 v47 v48 v49 h =>
 kI 7 v47 v49 fun v51 =>
 kM I 7 v51 h fun v52 =>
 kA [Z 0, Z 0, Z 0, Z 0, .nils, Z 0, Z 0] h fun v6 h1 =>
 kS 7 v6 v52 h1 fun _ h2 =>
 kC call 132 [v4] h2 fun v54 h3 =>
 kZ v54 fun v55 =>
 j.1.2.2.2 v0 v1 v4 v6 v47 v48 v49 v54 v55 (Z 0) h3
def f76.b3 : Lb J76 A6 := fun I call j v0 v1 v4 v47 v48 v49 h =>
 kB .add v49 (Z 1) fun v65 =>
 j.1.1.2 v0 v1 v4 v47 v48 v65 h
def f76.b4 : Lb J76 (AVal → A9) := fun I call j v0 v1 v4 v6 v47 v48 v49 v54 v55 v56 h =>
 kB .lss v56 v55 fun v57 =>
 sCond v57 (
 j.1.2.2.1 v0 v1 v4 v47 v48 v49 h) (
 j.2.1.1 v0 v1 v4 v6 v47 v48 v49 v54 v55 v56 h)
def f76.b5 : Lb J76 (AVal → A9) := fun I call j v0 v1 v4 v6 v47 v48 v49 v54 v55 v56 h =>
 kI 1 v54 v56 fun v58 =>
 kL I v58 h fun v59 =>
 kM I 7 v6 h fun v61 =>
 kC call 133 [v0, v61, v59] h fun v63 h1 =>
 j.2.1.2 v0 v1 v4 v6 v47 v48 v49 v54 v55 v56 h1
def f76.b6 : Lb J76 (AVal → A9) := fun I call j v0 v1 v4 v6 v47 v48 v49 v54 v55 v56 h =>
 kB .add v56 (Z 1) fun v64 =>
 j.1.2.2.2 v0 v1 v4 v6 v47 v48 v49 v54 v55 v64 h
def f76.b7 : Lb J76 A5 := fun I call j v0 v1 v73 v74 v75 h =>
 kB .lss v75 v74 fun v76 =>
 sCond v76 (
 some (.tuple [], h)) (
 j.2.2.2.1 v0 v1 v73 v74 v75 h)
def f76.b8 : Lb J76 A5 := fun I call j v0 v1 v73 v74 v75 h =>
 kI 1 v73 v75 fun v77 =>
 kL I v77 h fun v78 =>
 kN v0 fun v80 =>
 kF 2 v80 fun v81 =>
 kL I v81 h fun v82 =>
 kC call 77 [v82, v78] h fun v84 h1 =>
 kN v0 fun v86 =>
 kF 2 v86 fun v87 =>
 kL I v87 h1 fun v88 =>
 kC call 77 [v88, v1] h1 fun v90 h2 =>
 kB .neq v84 v90 fun v91 =>
 sCheck (sSame (lift (pLoad1 I v87 h) h) v88 && true) (
 sCond v91 (
 j.2.2.2.2 v0 v1 v73 v74 v75 h2) (
 kN v0 fun v95 =>
 kF 3 v95 fun v96 =>
 kL I v96 h2 fun v97 =>
 kN v0 fun v99 =>
 kF 2 v99 fun v100 =>
 kL I v100 h2 fun v101 =>
 kC call 77 [v101, v1] h2 fun v103 h3 =>
 kI 1 v97 v103 fun v104 =>
 kL I v104 h3 fun v105 =>
 kC call 134 [v0, v78, v105] h3 fun v106 h4 =>
 sCheck (sSame (lift (pLoad1 I v96 h3) h3) v97 && true) (
 j.2.2.2.2 v0 v1 v73 v74 v75 h4)))
def f76.b9 : Lb J76 A5 := fun I call j v0 v1 v73 v74 v75 h =>
 kB .add v75 (Z 1) fun v107 =>
 j.2.2.1 v0 v1 v73 v74 v107 h
def f76.e : Lb J76 A2 := fun I call j v0 v1 h =>
 kN v0 fun v12 =>
 kF 3 v12 fun v13 =>
 kL I v13 h fun v14 =>
 kI 1 v14 v1 fun v16 =>
 kL I v16 h fun v17 =>
 kN v0 fun v19 =>
 kF 4 v19 fun v20 =>
 kL I v20 h fun v21 =>
 kI 1 v21 v1 fun v23 =>
 kL I v23 h fun v24 =>
 kC call 129 [v17, v24] h fun v25 h1 =>
 kN v0 fun v27 =>
 kF 4 v27 fun v28 =>
 kL I v28 h1 fun v29 =>
 kN v0 fun v32 =>
 kF 3 v32 fun v33 =>
 kL I v33 h1 fun v34 =>
 kI 1 v34 v1 fun v36 =>
 kL I v36 h1 fun v37 =>
 kC call 130 [v37] h1 fun v38 h2 =>
 kI 1 v29 v1 fun v39 =>
 kS 1 v39 v38 h2 fun _ h3 =>
 sCheck (sSame (lift (pLoad1 I v28 h2) h2) v29 && true) (
 kN v0 fun v41 =>
 kF 6 v41 fun v42 =>
 kL I v42 h3 fun v43 =>
 kI 1 v43 v1 fun v45 =>
 kL I v45 h3 fun v46 =>
 kC call 131 [v46] h3 fun v47 h4 =>
 kZ v47 fun v48 =>
 j.1.1.2 v0 v1 v25 v47 v48 (Z 0) h4)
def f76.T : Lb J76 J76 := fun I call j => (((f76.b0 I call j, f76.b1 I call j), (f76.b2 I call j, (f76.b3 I call j, f76.b4 I call j))), ((f76.b5 I call j, f76.b6 I call j), (f76.b7 I call j, (f76.b8 I call j, f76.b9 I call j))))
def f76.r : Inp → SF := runL f76.T f76.e
theorem f76.k : FOk P 76 f76.r := .of 10 ((([0, 1], [0, 1, 4, 47, 48, 49]), ([0, 1, 4, 47, 48, 49], ([0, 1, 4, 47, 48, 49], [0, 1, 4, 6, 47, 48, 49, 54, 55, 56]))), (([0, 1, 4, 6, 47, 48, 49, 54, 55, 56], [0, 1, 4, 6, 47, 48, 49, 54, 55, 56]), ([0, 1, 73, 74, 75], ([0, 1, 73, 74, 75], [0, 1, 73, 74, 75]))))
abbrev J77 := ((A2 × (A3 × A3)) × ((A3 × A1) × (A3 × A3)))
def f77.b0 : Lb J77 A2 := fun I call j v0 v1 h =>
 j.1.2.2 v0 v1 v1 h
def f77.b1 : Lb J77 A3 := fun I call j v0 v1 v5 h =>
 j.2.2.1 v0 v1 v5 h
def f77.b2 : Lb J77 A3 := fun I call j v0 v1 v5 h =>
 kN v0 fun v23 =>
 kF 0 v23 fun v24 =>
 kL I v24 h fun v25 =>
 kI 1 v25 v5 fun v27 =>
 kL I v27 h fun v28 =>
 kB .neq v28 v5 fun v30 =>
 sCond v30 (
 j.1.2.1 v0 v1 v5 h) (
 j.2.1.1 v0 v1 v5 h)
def f77.b3 : Lb J77 A3 := fun I call j v0 v1 v5 h =>
 kN v0 fun v32 =>
 kF 0 v32 fun v33 =>
 kL I v33 h fun v34 =>
 kI 1 v34 v5 fun v36 =>
 kL I v36 h fun v37 =>
 j.1.2.2 v0 v1 v37 h
def f77.b4 : Lb J77 A1 := fun I call j v5 h =>
 some (v5, h)
def f77.b5 : Lb J77 A3 := fun I call j v0 v1 v5 h =>
 kN v0 fun v39 =>
 kF 0 v39 fun v40 =>
 kL I v40 h fun v41 =>
 kI 1 v41 v1 fun v43 =>
 kL I v43 h fun v44 =>
 kB .neq v44 v5 fun v46 =>
 sCond v46 (
 j.2.1.2 v5 h) (
 j.2.2.2 v0 v1 v5 h)
def f77.b6 : Lb J77 A3 := fun I call j v0 v1 v5 h =>
 kN v0 fun v48 =>
 kF 0 v48 fun v49 =>
 kL I v49 h fun v50 =>
 kN v0 fun v53 =>
 kF 0 v53 fun v54 =>
 kL I v54 h fun v55 =>
 kI 1 v55 v1 fun v57 =>
 kL I v57 h fun v58 =>
 kI 1 v50 v1 fun v60 =>
 kS 1 v60 v5 h fun _ h1 =>
 j.2.2.1 v0 v58 v5 h1
def f77.e : Lb J77 A2 := fun I call j v0 v1 h =>
 bndP (pEq P .false .ptr .true v0 .nilp h) fun v7 =>
 gV v7 .false v1 h fun v9 h1 =>
 gP v7 .false (pBin .lss v9 (Z 0)) h1 fun v10 h2 =>
 kP v7 bT v10 fun v11 =>
 gV v11 .false v1 h2 fun v13 h3 =>
 gV v11 .false v0 h3 fun v14 h4 =>
 gP v11 .false (pNilCheck v14) h4 fun v15 h5 =>
 gP v11 .false (pFieldAddr 0 v15) h5 fun v16 h6 =>
 gP v11 .false (pLoad1 I v16 h6) h6 fun v17 h7 =>
 gP v11 .false (pLenSl v17) h7 fun v18 h8 =>
 gP v11 .false (pBin .geq v13 v18) h8 fun v19 h9 =>
 kP v11 bT v19 fun v20 =>
 sCond v20 (
 j.1.1 v0 v1 h9) (
 some ((.int .i64 (.negSucc 0)), h9))
def f77.T : Lb J77 J77 := fun I call j => ((f77.b0 I call j, (f77.b1 I call j, f77.b2 I call j)), ((f77.b3 I call j, f77.b4 I call j), (f77.b5 I call j, f77.b6 I call j)))
def f77.r : Inp → SF := runL f77.T f77.e
theorem f77.k : FOk P 77 f77.r := .of 7 (([0, 1], ([0, 1, 5], [0, 1, 5])), (([0, 1, 5], [5]), ([0, 1, 5], [0, 1, 5])))
abbrev J78 := (((A3 × (A3 × A5)) × (A5 × (A5 × A1))) × ((A6 × (A6 × A6)) × ((A7 × (AVal → A9)) × ((AVal → A9) × (AVal → A9)))))
def f78.b0 : Lb J78 A3 := fun I call j v0 v1 v5 h =>
 kN v0 fun v20 =>
 kF 4 v20 fun v21 =>
 kL I v21 h fun v22 =>
 kZ v22 fun v23 =>
 j.1.1.2.2 v0 v1 v5 v23 (Z 0) h
def f78.b1 : Lb J78 A3 := fun I call j v0 v1 v5 h =>
 kC call 81 [v0] h fun v41 h1 =>
 kZ v41 fun v42 =>
 j.2.1.1 v0 v1 v5 v41 v42 (Z 0) h1
def f78.b2 : Lb J78 A5 := fun I call j v0 v1 v5 v23 v24 h =>
 kB .lss v24 v23 fun v25 =>
 sCond v25 (
 j.1.1.2.1 v0 v1 v5 h) (
 j.1.2.1 v0 v1 v5 v23 v24 h)
def f78.b3 : Lb J78 A5 := fun I call j v0 v1 v5 v23 v24 h =>
 kN v5 fun v29 =>
 kF 3 v29 fun v30 =>
 kL I v30 h fun v31 =>
 kC call 135 [v0, v24] h fun v34 h1 =>
 bnd (sBuildSlice [.nilp] 1 [(0, 1, v34)] h1) fun v35 h2 =>
 bnd (sAppend I 1 8 v31 v35 h2) fun v36 h3 =>
 kN v5 fun v37 =>
 kF 3 v37 fun v38 =>
 kS 1 v38 v36 h3 fun _ h4 =>
 sCheck (sSame (lift (pLoad1 I v30 h1) h1) v31 && (sSame (lift (pLoad1 I v30 h2) h2) v31 && true)) (
 j.1.2.2.1 v0 v1 v5 v23 v24 h4)
def f78.b4 : Lb J78 A5 := fun I call j v0 v1 v5 v23 v24 h =>
 kB .add v24 (Z 1) fun v39 =>
 j.1.1.2.2 v0 v1 v5 v23 v39 h
def f78.b5 : Lb J78 A1 := fun I call j v5 h =>
 some (v5, h)
def f78.b6 : Lb J78 A6 := fun I call j v0 v1 v5 v41 v42 v43 h =>
 kB .lss v43 v42 fun v44 =>
 sCond v44 (
 j.1.2.2.2 v5 h) (
 j.2.1.2.1 v0 v1 v5 v41 v42 v43 h)
def f78.b7 : Lb J78 A6 := fun I call j v0 v1 v5 v41 v42 v43 h =>
 kI 3 v41 v43 fun v46 =>
 kM I 3 v46 h fun v47 =>
 kA [Z 0, Z 0, Z 0] h fun v8 h1 =>
 kS 3 v8 v47 h1 fun _ h2 =>
 bnd (mapNewV h2) fun v48 h3 =>
 kF 0 v8 fun v50 =>
 kL I v50 h3 fun v51 =>
 kC call 57 [v1, v51] h3 fun v52 h4 =>
 sCond v52 (
 j.2.2.1.1 v0 v1 v5 v48 v41 v42 v43 h4) (
 kC call 136 [v0, v1, v43] h4 fun v56 h5 =>
 kZ v56 fun v57 =>
 j.2.2.1.2 v0 v1 v5 v48 v41 v42 v43 v56 v57 (Z 0) h5)
def f78.b8 : Lb J78 A6 := fun I call j v0 v1 v5 v41 v42 v43 h =>
 kB .add v43 (Z 1) fun v75 =>
 j.2.1.1 v0 v1 v5 v41 v42 v75 h
def f78.b9 : Lb J78 A7 := fun I call j v0 v1 v5 v9 v41 v42 v43 h =>
 kN v5 fun v67 =>
 kF 2 v67 fun v68 =>
 kL I v68 h fun v69 =>
 bnd (sBuildSlice [.nilm] 1 [(0, 1, v9)] h) fun v71 h1 =>
 bnd (sAppend I 1 8 v69 v71 h1) fun v72 h2 =>
 kN v5 fun v73 =>
 kF 2 v73 fun v74 =>
 kS 1 v74 v72 h2 fun _ h3 =>
 j.2.1.2.2 v0 v1 v5 v41 v42 v43 h3
def f78.b10 : Lb J78 (AVal → A9) := fun I call j v0 v1 v5 v9 v41 v42 v43 v56 v57 v58 h =>
 kB .lss v58 v57 fun v59 =>
 sCond v59 (
 j.2.2.1.1 v0 v1 v5 v9 v41 v42 v43 h) (
 j.2.2.2.1 v0 v1 v5 v9 v41 v42 v43 v56 v57 v58 h)
def f78.b11 : Lb J78 (AVal → A9) := fun I call j v0 v1 v5 v9 v41 v42 v43 v56 v57 v58 h =>
 kI 2 v56 v58 fun v60 =>
 kM I 2 v60 h fun v61 =>
 kA [Z 0, Z 0] h fun v11 h1 =>
 kS 2 v11 v61 h1 fun _ h2 =>
 kM I 2 v11 h2 fun v63 =>
 bnd (mapPutV (.many [.i, .i]) v9 v63 bT h2) fun _ h3 =>
 j.2.2.2.2 v0 v1 v5 v9 v41 v42 v43 v56 v57 v58 h3
def f78.b12 : Lb J78 (AVal → A9) := fun I call j v0 v1 v5 v9 v41 v42 v43 v56 v57 v58 h =>
 kB .add v58 (Z 1) fun v64 =>
 j.2.2.1.2 v0 v1 v5 v9 v41 v42 v43 v56 v57 v64 h
def f78.e : Lb J78 A2 := fun I call j v0 v1 h =>
 bndP (pBuild [.nilp, .nilp, .nils, .nils] [(0, 1, v0), (1, 1, v1)]) fun v14 =>
 bnd (sBox v14 h) fun v15 h1 =>
 bndP (pEq P .false .ptr .true v0 .nilp h1) fun v17 =>
 sCond v17 (
 j.1.1.1 v0 v1 v15 h1) (
 some (v15, h1))
def f78.T : Lb J78 J78 := fun I call j => (((f78.b0 I call j, (f78.b1 I call j, f78.b2 I call j)), (f78.b3 I call j, (f78.b4 I call j, f78.b5 I call j))), ((f78.b6 I call j, (f78.b7 I call j, f78.b8 I call j)), ((f78.b9 I call j, f78.b10 I call j), (f78.b11 I call j, f78.b12 I call j))))
def f78.r : Inp → SF := runL f78.T f78.e
theorem f78.k : FOk P 78 f78.r := .of 13 ((([0, 1, 5], ([0, 1, 5], [0, 1, 5, 23, 24])), ([0, 1, 5, 23, 24], ([0, 1, 5, 23, 24], [5]))), (([0, 1, 5, 41, 42, 43], ([0, 1, 5, 41, 42, 43], [0, 1, 5, 41, 42, 43])), (([0, 1, 5, 9, 41, 42, 43], [0, 1, 5, 9, 41, 42, 43, 56, 57, 58]), ([0, 1, 5, 9, 41, 42, 43, 56, 57, 58], [0, 1, 5, 9, 41, 42, 43, 56, 57, 58]))))
def f79.e : Lb Unit A3 := fun I call j v0 v1 v2 h =>
 kC call 80 [v0, v1, v2] h fun v10 h1 =>
 kC call 138 [v0, v1, v2] h1 fun v14 h2 =>
 bnd (sAppend I 2 16 v10 v14 h2) fun v15 h3 =>
 kC call 137 [v15] h3 fun v16 h4 =>
 some (v16, h4)
def f79.T : Lb Unit Unit := fun I call j => ()
def f79.r : Inp → SF := runL f79.T f79.e
theorem f79.k : FOk P 79 f79.r := .of 0 ()
def f80.e : Lb Unit A3 := fun I call j v0 v1 v2 h =>
 bnd (sBuildSlice [Z 0] 1 [(0, 1, v2)] h) fun v10 h1 =>
 kC call 139 [v0, v1, v10, bF] h1 fun v11 h2 =>
 some (v11, h2)
def f80.T : Lb Unit Unit := fun I call j => ()
def f80.r : Inp → SF := runL f80.T f80.e
theorem f80.k : FOk P 80 f80.r := .of 0 ()
abbrev J81 := (((A1 × A1) × (A4 × (A4 × A4))) × ((A7 × (A7 × A7)) × ((AVal → A9) × ((AVal → A9) × (AVal → A9)))))
def f81.b0 : Lb J81 A1 := fun I call j v0 h =>
 kN v0 fun v10 =>
 kF 4 v10 fun v11 =>
 kL I v11 h fun v12 =>
 kZ v12 fun v13 =>
 j.1.2.1 v0 .nils v13 (Z 0) h
def f81.b1 : Lb J81 A1 := fun I call j v3 h =>
 some (v3, h)
def f81.b2 : Lb J81 A4 := fun I call j v0 v3 v13 v14 h =>
 kB .lss v14 v13 fun v15 =>
 sCond v15 (
 j.1.1.2 v3 h) (
 j.1.2.2.1 v0 v3 v13 v14 h)
def f81.b3 : Lb J81 A4 := fun I call j v0 v3 v13 v14 h =>
 kN v0 fun v18 =>
 kF 4 v18 fun v19 =>
 kL I v19 h fun v20 =>
 kI 3 v20 v14 fun v22 =>
 kF 2 v22 fun v23 =>
 kL I v23 h fun v24 =>
 kZ v24 fun v25 =>
 j.2.1.1 v0 v3 v14 v13 v14 v25 (Z 0) h
def f81.b4 : Lb J81 A4 := fun I call j v0 v3 v13 v14 h =>
 kB .add v14 (Z 1) fun v55 =>
 j.1.2.1 v0 v3 v13 v55 h
def f81.b5 : Lb J81 A7 := fun I call j v0 v3 v4 v13 v14 v25 v26 h =>
 kB .lss v26 v25 fun v27 =>
 sCond v27 (
 j.1.2.2.2 v0 v3 v13 v14 h) (
 j.2.1.2.1 v0 v3 v4 v13 v14 v25 v26 h)
def f81.b6 : Lb J81 A7 := fun I call j v0 v3 v4 v13 v14 v25 v26 h =>
 kN v0 fun v30 =>
 kF 4 v30 fun v31 =>
 kL I v31 h fun v32 =>
 kI 3 v32 v4 fun v34 =>
 kF 2 v34 fun v35 =>
 kL I v35 h fun v36 =>
 kI 5 v36 v26 fun v38 =>
 kF 0 v38 fun v39 =>
 kL I v39 h fun v40 =>
 kZ v40 fun v41 =>
 kB .add v41 (Z 1) fun v42 =>
 j.2.2.1 v0 v3 v4 v26 v13 v14 v25 v26 v42 (Z 0) h
def f81.b7 : Lb J81 A7 := fun I call j v0 v3 v4 v13 v14 v25 v26 h =>
 kB .add v26 (Z 1) fun v54 =>
 j.2.1.1 v0 v3 v4 v13 v14 v25 v54 h
def f81.b8 : Lb J81 (AVal → A9) := fun I call j v0 v3 v4 v5 v13 v14 v25 v26 v42 v43 h =>
 kB .lss v43 v42 fun v44 =>
 sCond v44 (
 j.2.1.2.2 v0 v3 v4 v13 v14 v25 v26 h) (
 j.2.2.2.1 v0 v3 v4 v5 v13 v14 v25 v26 v42 v43 h)
def f81.b9 : Lb J81 (AVal → A9) := fun I call j v0 v3 v4 v5 v13 v14 v25 v26 v42 v43 h =>
 bndP (pBuild [Z 0, Z 0, Z 0] [(0, 1, v4), (1, 1, v5), (2, 1, v43)]) fun v50 =>
 bnd (sBuildSlice [Z 0, Z 0, Z 0] 1 [(0, 3, v50)] h) fun v51 h1 =>
 bnd (sAppend I 3 24 v3 v51 h1) fun v52 h2 =>
 j.2.2.2.2 v0 v52 v4 v5 v13 v14 v25 v26 v42 v43 h2
def f81.b10 : Lb J81 (AVal → A9) := fun I call j v0 v3 v4 v5 v13 v14 v25 v26 v42 v43 h =>
 kB .add v43 (Z 1) fun v53 =>
 j.2.2.1 v0 v3 v4 v5 v13 v14 v25 v26 v42 v53 h
def f81.e : Lb J81 A1 := fun I call j v0 h =>
 bndP (pEq P .false .ptr .true v0 .nilp h) fun v8 =>
 sCond v8 (
 j.1.1.1 v0 h) (
 some (.nils, h))
def f81.T : Lb J81 J81 := fun I call j => (((f81.b0 I call j, f81.b1 I call j), (f81.b2 I call j, (f81.b3 I call j, f81.b4 I call j))), ((f81.b5 I call j, (f81.b6 I call j, f81.b7 I call j)), (f81.b8 I call j, (f81.b9 I call j, f81.b10 I call j))))
def f81.r : Inp → SF := runL f81.T f81.e
theorem f81.k : FOk P 81 f81.r := .of 11 ((([0], [3]), ([0, 3, 13, 14], ([0, 3, 13, 14], [0, 3, 13, 14]))), (([0, 3, 4, 13, 14, 25, 26], ([0, 3, 4, 13, 14, 25, 26], [0, 3, 4, 13, 14, 25, 26])), ([0, 3, 4, 5, 13, 14, 25, 26, 42, 43], ([0, 3, 4, 5, 13, 14, 25, 26, 42, 43], [0, 3, 4, 5, 13, 14, 25, 26, 42, 43]))))
abbrev J82 := (A3 × A3)
def f82.b0 : Lb J82 A3 := fun I call j v0 v4 v6 h =>
 kM I 3 v6 h fun v19 =>
 kC call 141 [v0, v19] h fun v20 h1 =>
 kF 2 v6 fun v21 =>
 kL I v21 h1 fun v22 =>
 kN v20 fun v24 =>
 kF 0 v24 fun v25 =>
 kL I v25 h1 fun v26 =>
 kZ v26 fun v27 =>
 kB .eql v22 v27 fun v28 =>
 sCond v28 (
 j.2 v4 v6 v20 h1) (
 bndP (pBuild [Z 0, Z 0, Z 0, Z 0, Z 0, .nils] []) fun v29 =>
 kS 6 v4 v29 h1 fun _ h2 =>
 sRet (sCons (sResN I 6 v4 h2) (sCons (some bF) (some []))) h2)
def f82.b1 : Lb J82 A3 := fun I call j v4 v6 v8 h =>
 kN v8 fun v31 =>
 kF 0 v31 fun v32 =>
 kL I v32 h fun v33 =>
 kF 2 v6 fun v34 =>
 kL I v34 h fun v35 =>
 kI 6 v33 v35 fun v36 =>
 kM I 6 v36 h fun v37 =>
 kS 6 v4 v37 h fun _ h1 =>
 sRet (sCons (sResN I 6 v4 h1) (sCons (some bT) (some []))) h1
def f82.e : Lb J82 A2 := fun I call j v0 v1 h =>
 kA [Z 0, Z 0, Z 0, Z 0, Z 0, .nils] h fun v4 h1 =>
 kC call 140 [v0, v1] h1 fun v12 h2 =>
 kX v12 0 fun v13 =>
 kX v12 1 fun v14 =>
 kA [Z 0, Z 0, Z 0] h2 fun v6 h3 =>
 kS 3 v6 v13 h3 fun _ h4 =>
 kU .not v14 fun v16 =>
 sCond v16 (
 j.1 v0 v4 v6 h4) (
 bndP (pBuild [Z 0, Z 0, Z 0, Z 0, Z 0, .nils] []) fun v17 =>
 kS 6 v4 v17 h4 fun _ h5 =>
 sRet (sCons (sResN I 6 v4 h5) (sCons (some bF) (some []))) h5)
def f82.T : Lb J82 J82 := fun I call j => (f82.b0 I call j, f82.b1 I call j)
def f82.r : Inp → SF := runL f82.T f82.e
theorem f82.k : FOk P 82 f82.r := .of 2 ([0, 4, 6], [4, 6, 8])
abbrev J83 := ((((A5 × A5) × (A5 × A5)) × ((A5 × A5) × (A5 × A1))) × (((A5 × A5) × (A5 × A3)) × ((A1 × A5) × (A5 × A5))))
def f83.b0 : Lb J83 A5 := fun I call j v0 v3 v4 v19 v20 h =>
 sCond v20 (
 kB .eql v19 (Z 7) fun v39 =>
 sCond v39 (
 kB .eql v19 (Z 8) fun v62 =>
 sCond v62 (
 kB .eql v19 (Z 5) fun v93 =>
 sCond v93 (
 kB .eql v19 (Z 12) fun v97 =>
 sCond v97 (
 kB .eql v19 (Z 13) fun v98 =>
 sCond v98 (
 kB .eql v19 (Z 14) fun v99 =>
 j.2.1.2.2 v0 v3 v99 h) (
 j.2.1.2.2 v0 v3 v98 h)) (
 j.2.1.2.2 v0 v3 v97 h)) (
 kC call 147 [v0] h fun v95 h1 =>
 some (.tuple [], h1))) (
 kN v0 fun v64 =>
 kF 1 v64 fun v65 =>
 kL I v65 h fun v66 =>
 kN v0 fun v68 =>
 kF 7 v68 fun v69 =>
 kL I v69 h fun v70 =>
 kC call 145 [v66, v70] h fun v71 h2 =>
 kZ v71 fun v72 =>
 j.2.1.1.1 v0 v3 v71 v72 (Z 0) h2)) (
 kN v0 fun v41 =>
 kF 1 v41 fun v42 =>
 kL I v42 h fun v43 =>
 kN v0 fun v45 =>
 kF 7 v45 fun v46 =>
 kL I v46 h fun v47 =>
 kC call 145 [v43, v47] h fun v48 h3 =>
 kZ v48 fun v49 =>
 j.1.2.1.1 v0 v4 v48 v49 (Z 0) h3)) (
 kM I 6 v3 h fun v24 =>
 kC call 142 [v24] h fun v25 h4 =>
 kZ v25 fun v26 =>
 j.1.1.1.2 v0 v4 v25 v26 (Z 0) h4)
def f83.b1 : Lb J83 A5 := fun I call j v0 v4 v25 v26 v27 h =>
 kB .lss v27 v26 fun v28 =>
 sCond v28 (
 some (.tuple [], h)) (
 j.1.1.2.1 v0 v4 v25 v26 v27 h)
def f83.b2 : Lb J83 A5 := fun I call j v0 v4 v25 v26 v27 h =>
 kI 1 v25 v27 fun v29 =>
 kL I v29 h fun v30 =>
 kC call 144 [v0, v30] h fun v34 h1 =>
 kM I 5 v4 h1 fun v35 =>
 kC call 143 [v0, v34, v35] h1 fun v36 h2 =>
 sCheck (sSame (lift (pLoadN I 5 v4 h) h) v35 && true) (
 j.1.1.2.2 v0 v4 v25 v26 v27 h2)
def f83.b3 : Lb J83 A5 := fun I call j v0 v4 v25 v26 v27 h =>
 kB .add v27 (Z 1) fun v37 =>
 j.1.1.1.2 v0 v4 v25 v26 v37 h
def f83.b4 : Lb J83 A5 := fun I call j v0 v4 v48 v49 v50 h =>
 kB .lss v50 v49 fun v51 =>
 sCond v51 (
 some (.tuple [], h)) (
 j.1.2.1.2 v0 v4 v48 v49 v50 h)
def f83.b5 : Lb J83 A5 := fun I call j v0 v4 v48 v49 v50 h =>
 kI 2 v48 v50 fun v52 =>
 kM I 2 v52 h fun v53 =>
 kA [Z 0, Z 0] h fun v8 h1 =>
 kS 2 v8 v53 h1 fun _ h2 =>
 kM I 2 v8 h2 fun v56 =>
 kC call 146 [v0, v56] h2 fun v57 h3 =>
 kM I 5 v4 h3 fun v58 =>
 kC call 143 [v0, v57, v58] h3 fun v59 h4 =>
 sCheck (sSame (lift (pLoadN I 5 v4 h2) h2) v58 && true) (
 j.1.2.2.1 v0 v4 v48 v49 v50 h4)
def f83.b6 : Lb J83 A5 := fun I call j v0 v4 v48 v49 v50 h =>
 kB .add v50 (Z 1) fun v60 =>
 j.1.2.1.1 v0 v4 v48 v49 v60 h
def f83.b7 : Lb J83 A1 := fun I call j v0 h =>
 kC call 147 [v0] h fun v91 h1 =>
 some (.tuple [], h1)
def f83.b8 : Lb J83 A5 := fun I call j v0 v3 v71 v72 v73 h =>
 kB .lss v73 v72 fun v74 =>
 sCond v74 (
 j.1.2.2.2 v0 h) (
 j.2.1.1.2 v0 v3 v71 v72 v73 h)
def f83.b9 : Lb J83 A5 := fun I call j v0 v3 v71 v72 v73 h =>
 kI 2 v71 v73 fun v75 =>
 kM I 2 v75 h fun v76 =>
 kA [Z 0, Z 0] h fun v10 h1 =>
 kS 2 v10 v76 h1 fun _ h2 =>
 kF 3 v3 fun v79 =>
 kL I v79 h2 fun v80 =>
 kC call 144 [v0, v80] h2 fun v81 h3 =>
 kN v0 fun v83 =>
 kF 7 v83 fun v84 =>
 kL I v84 h3 fun v85 =>
 kM I 2 v10 h3 fun v86 =>
 bndP (pBuild [Z 0, Z 0, Z 0, Z 0, Z 0] [(0, 1, Z 3), (1, 1, v85), (3, 2, v86)]) fun v87 =>
 kC call 143 [v0, v81, v87] h3 fun v88 h4 =>
 sCheck (sSame (lift (pLoad1 I v84 h2) h2) v85 && true) (
 sCheck (sSame (lift (pLoadN I 2 v10 h2) h2) v86 && true) (
 j.2.1.2.1 v0 v3 v71 v72 v73 h4))
def f83.b10 : Lb J83 A5 := fun I call j v0 v3 v71 v72 v73 h =>
 kB .add v73 (Z 1) fun v89 =>
 j.2.1.1.1 v0 v3 v71 v72 v89 h
def f83.b11 : Lb J83 A3 := fun I call j v0 v3 v96 h =>
 sCond v96 (
 some (.tuple [], h)) (
 kN v0 fun v101 =>
 kF 1 v101 fun v102 =>
 kL I v102 h fun v103 =>
 kN v0 fun v105 =>
 kF 7 v105 fun v106 =>
 kL I v106 h fun v107 =>
 kC call 148 [v103, v107] h fun v108 h1 =>
 kZ v108 fun v109 =>
 j.2.2.1.2 v0 v3 v108 v109 (Z 0) h1)
def f83.b12 : Lb J83 A1 := fun I call j v0 h =>
 kC call 147 [v0] h fun v120 h1 =>
 some (.tuple [], h1)
def f83.b13 : Lb J83 A5 := fun I call j v0 v3 v108 v109 v110 h =>
 kB .lss v110 v109 fun v111 =>
 sCond v111 (
 j.2.2.1.1 v0 h) (
 j.2.2.2.1 v0 v3 v108 v109 v110 h)
def f83.b14 : Lb J83 A5 := fun I call j v0 v3 v108 v109 v110 h =>
 kI 1 v108 v110 fun v112 =>
 kL I v112 h fun v113 =>
 kM I 6 v3 h fun v115 =>
 kC call 149 [v0, v115, v113] h fun v117 h1 =>
 j.2.2.2.2 v0 v3 v108 v109 v110 h1
def f83.b15 : Lb J83 A5 := fun I call j v0 v3 v108 v109 v110 h =>
 kB .add v110 (Z 1) fun v118 =>
 j.2.2.1.2 v0 v3 v108 v109 v118 h
def f83.e : Lb J83 A2 := fun I call j v0 v1 h =>
 bnd (sBox v1 h) fun v3 h1 =>
 kN v0 fun v14 =>
 kF 7 v14 fun v15 =>
 kL I v15 h1 fun v16 =>
 bndP (pBuild [Z 0, Z 0, Z 0, Z 0, Z 0] [(0, 1, Z 1), (1, 1, v16)]) fun v17 =>
 kA [Z 0, Z 0, Z 0, Z 0, Z 0] h1 fun v4 h2 =>
 kS 5 v4 v17 h2 fun _ h3 =>
 kF 0 v3 fun v18 =>
 kL I v18 h3 fun v19 =>
 kB .eql v19 (Z 2) fun v21 =>
 sCond v21 (
 kB .eql v19 (Z 6) fun v22 =>
 sCond v22 (
 kB .eql v19 (Z 11) fun v23 =>
 j.1.1.1.1 v0 v3 v4 v19 v23 h3) (
 j.1.1.1.1 v0 v3 v4 v19 v22 h3)) (
 j.1.1.1.1 v0 v3 v4 v19 v21 h3)
def f83.T : Lb J83 J83 := fun I call j => ((((f83.b0 I call j, f83.b1 I call j), (f83.b2 I call j, f83.b3 I call j)), ((f83.b4 I call j, f83.b5 I call j), (f83.b6 I call j, f83.b7 I call j))), (((f83.b8 I call j, f83.b9 I call j), (f83.b10 I call j, f83.b11 I call j)), ((f83.b12 I call j, f83.b13 I call j), (f83.b14 I call j, f83.b15 I call j))))
def f83.r : Inp → SF := runL f83.T f83.e
theorem f83.k : FOk P 83 f83.r := .of 16 (((([0, 3, 4, 19, 20], [0, 4, 25, 26, 27]), ([0, 4, 25, 26, 27], [0, 4, 25, 26, 27])), (([0, 4, 48, 49, 50], [0, 4, 48, 49, 50]), ([0, 4, 48, 49, 50], [0]))), ((([0, 3, 71, 72, 73], [0, 3, 71, 72, 73]), ([0, 3, 71, 72, 73], [0, 3, 96])), (([0], [0, 3, 108, 109, 110]), ([0, 3, 108, 109, 110], [0, 3, 108, 109, 110]))))
abbrev J84 := (A2 × A1)
def f84.b0 : Lb J84 A2 := fun I call j v0 v5 h =>
 kM I 3 v5 h fun v17 =>
 kC call 141 [v0, v17] h fun v18 h1 =>
 kF 2 v5 fun v19 =>
 kL I v19 h1 fun v20 =>
 kN v18 fun v22 =>
 kF 0 v22 fun v23 =>
 kL I v23 h1 fun v24 =>
 kZ v24 fun v25 =>
 kB .lss v20 v25 fun v26 =>
 sCond v26 (
 j.2 v18 h1) (
 some (.nilp, h1))
def f84.b1 : Lb J84 A1 := fun I call j v7 h =>
 some (v7, h)
def f84.e : Lb J84 A2 := fun I call j v0 v1 h =>
 kC call 140 [v0, v1] h fun v11 h1 =>
 kX v11 0 fun v12 =>
 kX v11 1 fun v13 =>
 kA [Z 0, Z 0, Z 0] h1 fun v5 h2 =>
 kS 3 v5 v12 h2 fun _ h3 =>
 kU .not v13 fun v15 =>
 sCond v15 (
 j.1 v0 v5 h3) (
 some (.nilp, h3))
def f84.T : Lb J84 J84 := fun I call j => (f84.b0 I call j, f84.b1 I call j)
def f84.r : Inp → SF := runL f84.T f84.e
theorem f84.k : FOk P 84 f84.r := .of 2 ([0, 5], [7])
abbrev J85 := (A4 × (A4 × A4))
def f85.b0 : Lb J85 A4 := fun I call j v0 v28 v29 v30 h =>
 kB .lss v30 v29 fun v31 =>
 sCond v31 (
 some (.tuple [], h)) (
 j.2.1 v0 v28 v29 v30 h)
def f85.b1 : Lb J85 A4 := fun I call j v0 v28 v29 v30 h =>
 kI 2 v28 v30 fun v32 =>
 kM I 2 v32 h fun v33 =>
 kA [Z 0, Z 0] h fun v5 h1 =>
 kS 2 v5 v33 h1 fun _ h2 =>
 kM I 2 v5 h2 fun v36 =>
 kC call 146 [v0, v36] h2 fun v37 h3 =>
 kN v0 fun v39 =>
 kF 6 v39 fun v40 =>
 kL I v40 h3 fun v41 =>
 kM I 2 v5 h3 fun v42 =>
 bndP (pBuild [Z 0, Z 0, Z 0, Z 0, Z 0] [(0, 1, Z 6), (1, 1, v41), (3, 2, v42)]) fun v43 =>
 kC call 143 [v0, v37, v43] h3 fun v44 h4 =>
 sCheck (sSame (lift (pLoad1 I v40 h2) h2) v41 && true) (
 sCheck (sSame (lift (pLoadN I 2 v5 h2) h2) v42 && true) (
 j.2.2 v0 v28 v29 v30 h4))
def f85.b2 : Lb J85 A4 := fun I call j v0 v28 v29 v30 h =>
 kB .add v30 (Z 1) fun v45 =>
 j.1 v0 v28 v29 v45 h
def f85.e : Lb J85 A2 := fun I call j v0 v1 h =>
 kN v1 fun v9 =>
 kF 2 v9 fun v10 =>
 kL I v10 h fun v11 =>
 kC call 144 [v0, v11] h fun v12 h1 =>
 kN v0 fun v14 =>
 kF 6 v14 fun v15 =>
 kL I v15 h1 fun v16 =>
 bndP (pBuild [Z 0, Z 0, Z 0, Z 0, Z 0] [(0, 1, Z 5), (1, 1, v16)]) fun v17 =>
 kC call 143 [v0, v12, v17] h1 fun v18 h2 =>
 sCheck (sSame (lift (pLoad1 I v15 h) h) v16 && true) (
 kN v0 fun v20 =>
 kF 4 v20 fun v21 =>
 kL I v21 h2 fun v22 =>
 kN v0 fun v24 =>
 kF 6 v24 fun v25 =>
 kL I v25 h2 fun v26 =>
 kI 1 v22 v26 fun v27 =>
 kL I v27 h2 fun v28 =>
 kZ v28 fun v29 =>
 j.1 v0 v28 v29 (Z 0) h2)
def f85.T : Lb J85 J85 := fun I call j => (f85.b0 I call j, (f85.b1 I call j, f85.b2 I call j))
def f85.r : Inp → SF := runL f85.T f85.e
theorem f85.k : FOk P 85 f85.r := .of 3 ([0, 28, 29, 30], ([0, 28, 29, 30], [0, 28, 29, 30]))
def f87.e : Lb Unit A2 := fun I call j v0 v1 h =>
 bnd (sBox v0 h) fun v2 h1 =>
 bnd (sBox v1 h1) fun v3 h2 =>
 kF 0 v2 fun v5 =>
 kL I v5 h2 fun v6 =>
 kF 0 v3 fun v7 =>
 kL I v7 h2 fun v8 =>
 kC call 63 [v6, v8] h2 fun v9 h3 =>
 kF 1 v2 fun v10 =>
 kL I v10 h3 fun v11 =>
 kF 1 v3 fun v12 =>
 kL I v12 h3 fun v13 =>
 kC call 63 [v11, v13] h3 fun v14 h4 =>
 kF 2 v2 fun v15 =>
 kL I v15 h4 fun v16 =>
 kF 2 v3 fun v17 =>
 kL I v17 h4 fun v18 =>
 kC call 63 [v16, v18] h4 fun v19 h5 =>
 kF 3 v2 fun v20 =>
 kF 0 v20 fun v21 =>
 kL I v21 h5 fun v22 =>
 kF 3 v3 fun v23 =>
 kF 0 v23 fun v24 =>
 kL I v24 h5 fun v25 =>
 kC call 63 [v22, v25] h5 fun v26 h6 =>
 kF 3 v2 fun v27 =>
 kF 1 v27 fun v28 =>
 kL I v28 h6 fun v29 =>
 kF 3 v3 fun v30 =>
 kF 1 v30 fun v31 =>
 kL I v31 h6 fun v32 =>
 kC call 63 [v29, v32] h6 fun v33 h7 =>
 bnd (sBuildSlice [Z 0] 5 [(0, 1, v9), (1, 1, v14), (2, 1, v19), (3, 1, v26), (4, 1, v33)] h7) fun v34 h8 =>
 kC call 62 [v34] h8 fun v35 h9 =>
 sCheck (sSame (lift (pLoad1 I v10 h2) h2) v11 && true) (
 sCheck (sSame (lift (pLoad1 I v12 h2) h2) v13 && true) (
 sCheck (sSame (lift (pLoad1 I v15 h2) h2) v16 && (sSame (lift (pLoad1 I v15 h3) h3) v16 && true)) (
 sCheck (sSame (lift (pLoad1 I v17 h2) h2) v18 && (sSame (lift (pLoad1 I v17 h3) h3) v18 && true)) (
 sCheck (sSame (lift (pLoad1 I v21 h2) h2) v22 && (sSame (lift (pLoad1 I v21 h3) h3) v22 && (sSame (lift (pLoad1 I v21 h4) h4) v22 && true))) (
 sCheck (sSame (lift (pLoad1 I v24 h2) h2) v25 && (sSame (lift (pLoad1 I v24 h3) h3) v25 && (sSame (lift (pLoad1 I v24 h4) h4) v25 && true))) (
 sCheck (sSame (lift (pLoad1 I v28 h2) h2) v29 && (sSame (lift (pLoad1 I v28 h3) h3) v29 && (sSame (lift (pLoad1 I v28 h4) h4) v29 && (sSame (lift (pLoad1 I v28 h5) h5) v29 && true)))) (
 sCheck (sSame (lift (pLoad1 I v31 h2) h2) v32 && (sSame (lift (pLoad1 I v31 h3) h3) v32 && (sSame (lift (pLoad1 I v31 h4) h4) v32 && (sSame (lift (pLoad1 I v31 h5) h5) v32 && true)))) (
 some (v35, h9)))))))))
def f87.T : Lb Unit Unit := fun I call j => ()
def f87.r : Inp → SF := runL f87.T f87.e
theorem f87.k : FOk P 87 f87.r := .of 0 ()
abbrev J88 := (((A1 × A1) × (A2 × A2)) × ((A2 × A2) × (A4 × (A4 × A4))))
def f88.b0 : Lb J88 A1 := fun I call j v0 h =>
 j.1.2.1 v0 (Z 1) h
def f88.b1 : Lb J88 A1 := fun I call j v0 h =>
 some (v0, h)
def f88.b2 : Lb J88 A2 := fun I call j v0 v3 h =>
 kZ v0 fun v12 =>
 kB .lss v3 v12 fun v13 =>
 sCond v13 (
 j.1.1.2 v0 h) (
 j.1.2.2 v0 v3 h)
def f88.b3 : Lb J88 A2 := fun I call j v0 v3 h =>
 kI 5 v0 v3 fun v18 =>
 kM I 5 v18 h fun v19 =>
 kB .sub v3 (Z 1) fun v22 =>
 kI 5 v0 v22 fun v23 =>
 kM I 5 v23 h fun v24 =>
 bndP (pEq P .false (.struct [.i, .i, .i, .i, .i]) .false v19 v24 h) fun v25 =>
 sCond v25 (
 j.2.1.1 v0 v3 h) (
 bndP (pSliceS 5 v0 (some v3) none none) fun v28 =>
 j.2.2.1 v0 v3 v28 (Z 1) h)
def f88.b4 : Lb J88 A2 := fun I call j v0 v3 h =>
 kB .add v3 (Z 1) fun v15 =>
 j.1.2.1 v0 v15 h
def f88.b5 : Lb J88 A2 := fun I call j v0 v3 h =>
 bndP (pSliceS 5 v0 (some v3) none none) fun v56 =>
 bnd (clearV [Z 0, Z 0, Z 0, Z 0, Z 0] v56 h) fun _ h1 =>
 bndP (pSliceS 5 v0 none (some v3) none) fun v59 =>
 some (v59, h1)
def f88.b6 : Lb J88 A4 := fun I call j v0 v3 v4 v5 h =>
 kZ v4 fun v31 =>
 kB .lss v5 v31 fun v32 =>
 sCond v32 (
 j.2.1.2 v0 v3 h) (
 j.2.2.2.1 v0 v3 v4 v5 h)
def f88.b7 : Lb J88 A4 := fun I call j v0 v3 v4 v5 h =>
 kI 5 v4 v5 fun v37 =>
 kM I 5 v37 h fun v38 =>
 kB .sub v5 (Z 1) fun v41 =>
 kI 5 v4 v41 fun v42 =>
 kM I 5 v42 h fun v43 =>
 bndP (pEq P .true (.struct [.i, .i, .i, .i, .i]) .false v38 v43 h) fun v44 =>
 sCond v44 (
 j.2.2.2.2 v0 v3 v4 v5 h) (
 kI 5 v4 v5 fun v49 =>
 kM I 5 v49 h fun v50 =>
 kI 5 v0 v3 fun v51 =>
 kS 5 v51 v50 h fun _ h1 =>
 kB .add v3 (Z 1) fun v53 =>
 j.2.2.2.2 v0 v53 v4 v5 h1)
def f88.b8 : Lb J88 A4 := fun I call j v0 v3 v4 v5 h =>
 kB .add v5 (Z 1) fun v34 =>
 j.2.2.1 v0 v3 v4 v34 h
def f88.e : Lb J88 A1 := fun I call j v0 h =>
 kZ v0 fun v7 =>
 kB .lss v7 (Z 2) fun v8 =>
 sCond v8 (
 j.1.1.1 v0 h) (
 some (v0, h))
def f88.T : Lb J88 J88 := fun I call j => (((f88.b0 I call j, f88.b1 I call j), (f88.b2 I call j, f88.b3 I call j)), ((f88.b4 I call j, f88.b5 I call j), (f88.b6 I call j, (f88.b7 I call j, f88.b8 I call j))))
def f88.r : Inp → SF := runL f88.T f88.e
theorem f88.k : FOk P 88 f88.r := .of 9 ((([0], [0]), ([0, 3], [0, 3])), (([0, 3], [0, 3]), ([0, 3, 4, 5], ([0, 3, 4, 5], [0, 3, 4, 5]))))
abbrev J89 := (A2 × A1)
def f89.b0 : Lb J89 A2 := fun I call j v0 v1 h =>
 bndP (capV v0) fun v10 =>
 kZ v0 fun v12 =>
 kB .sub v10 v12 fun v13 =>
 kB .sub v1 v13 fun v14 =>
 kB .gtr v14 (Z 0) fun v16 =>
 sCond v16 (
 j.2 v0 h) (
 bndP (capV v0) fun v19 =>
 bndP (pSliceS 2 v0 none (some v19) none) fun v20 =>
 bnd (appZV 2 16 [Z 0, Z 0] v20 v14 h) fun v22 h1 =>
 kZ v0 fun v24 =>
 bndP (pSliceS 2 v22 none (some v24) none) fun v25 =>
 j.2 v25 h1)
def f89.b1 : Lb J89 A1 := fun I call j v0 h =>
 some (v0, h)
def f89.e : Lb J89 A2 := fun I call j v0 v1 h =>
 kB .lss v1 (Z 0) fun v6 =>
 sCond v6 (
 j.1 v0 v1 h) (
 bnd (none) fun _ h1 =>
 j.1 v0 v1 h1)
def f89.T : Lb J89 J89 := fun I call j => (f89.b0 I call j, f89.b1 I call j)
def f89.r : Inp → SF := runL f89.T f89.e
theorem f89.k : FOk P 89 f89.r := .of 2 ([0, 1], [0])
abbrev J90 := ((A1 × A9) × (A9 × A9))
def f90.b0 : Lb J90 A1 := fun I call j v14 h =>
 some (v14, h)
def f90.b1 : Lb J90 A9 := fun I call j v0 v1 v3 v5 v13 v14 v23 v24 v25 h =>
 kB .lss v25 v24 fun v26 =>
 sCond v26 (
 j.1.1 v14 h) (
 j.2.1 v0 v1 v3 v5 v13 v14 v23 v24 v25 h)
def f90.b2 : Lb J90 A9 := fun I call j v0 v1 v3 v5 v13 v14 v23 v24 v25 h =>
 kI 3 v23 v25 fun v28 =>
 kM I 3 v28 h fun v29 =>
 kA [Z 0, Z 0, Z 0] h fun v16 h1 =>
 kS 3 v16 v29 h1 fun _ h2 =>
 bnd (sCallv call v5 [v0, v25] h2) fun v34 h3 =>
 kX v34 0 fun v35 =>
 kX v34 1 fun v36 =>
 gV v36 .true v1 h3 fun v39 h4 =>
 gP v36 .true (pFieldAddr 0 v16) h4 fun v40 h5 =>
 gP v36 .true (pLoad1 I v40 h5) h5 fun v41 h6 =>
 gS v36 .true (call 57 [v39, v41] h6) h6 fun v42 h7 =>
 kP v36 v42 bF fun v43 =>
 gV v43 .true v0 h7 fun v45 h8 =>
 gV v43 .true v25 h8 fun v46 h9 =>
 gV v43 .true v35 h9 fun v47 h10 =>
 gS v43 .true (call 153 [v45, v46, v47] h10) h10 fun v48 h11 =>
 gV v43 .true (.func (.func 154) [] [v13]) h11 fun v49 h12 =>
 gS v43 .true (call 152 [v48, v49] h12) h12 fun v50 h13 =>
 kP v43 v50 bF fun v51 =>
 sCond v51 (
 j.2.2 v0 v1 v3 v5 v13 v14 v23 v24 v25 h13) (
 bndP (pBuild [Z 0, Z 0] [(0, 1, v3), (1, 1, v25)]) fun v55 =>
 bnd (sBuildSlice [Z 0, Z 0] 1 [(0, 2, v55)] h13) fun v56 h14 =>
 bnd (sAppend I 2 16 v14 v56 h14) fun v57 h15 =>
 j.2.2 v0 v1 v3 v5 v13 v57 v23 v24 v25 h15)
def f90.b3 : Lb J90 A9 := fun I call j v0 v1 v3 v5 v13 v14 v23 v24 v25 h =>
 kB .add v25 (Z 1) fun v58 =>
 j.1.2 v0 v1 v3 v5 v13 v14 v23 v24 v58 h
def f90.e : Lb J90 A6 := fun I call j v0 v1 v2 v3 v4 v5 h =>
 kC call 151 [v2, v4] h fun v21 h1 =>
 kA [.nils] h1 fun v13 h2 =>
 kS 1 v13 v21 h2 fun _ h3 =>
 kC call 81 [v0] h3 fun v23 h4 =>
 kZ v23 fun v24 =>
 j.1.2 v0 v1 v3 v5 v13 .nils v23 v24 (Z 0) h4
def f90.T : Lb J90 J90 := fun I call j => ((f90.b0 I call j, f90.b1 I call j), (f90.b2 I call j, f90.b3 I call j))
def f90.r : Inp → SF := runL f90.T f90.e
theorem f90.k : FOk P 90 f90.r := .of 4 (([14], [0, 1, 3, 5, 13, 14, 23, 24, 25]), ([0, 1, 3, 5, 13, 14, 23, 24, 25], [0, 1, 3, 5, 13, 14, 23, 24, 25]))
abbrev J91 := (((A1 × A6) × (A6 × A6)) × ((A9 × (AVal → AVal → AVal → A9)) × ((AVal → AVal → AVal → A9) × (AVal → AVal → AVal → A9))))
def f91.b0 : Lb J91 A1 := fun I call j v5 h =>
 kC call 156 [v5] h fun v90 h1 =>
 some (v5, h1)
def f91.b1 : Lb J91 A6 := fun I call j v0 v1 v5 v13 v14 v15 h =>
 kB .lss v15 v14 fun v16 =>
 sCond v16 (
 j.1.1.1 v5 h) (
 j.1.2.1 v0 v1 v5 v13 v14 v15 h)
def f91.b2 : Lb J91 A6 := fun I call j v0 v1 v5 v13 v14 v15 h =>
 kI 3 v13 v15 fun v18 =>
 kM I 3 v18 h fun v19 =>
 kA [Z 0, Z 0, Z 0] h fun v7 h1 =>
 kS 3 v7 v19 h1 fun _ h2 =>
 kC call 82 [v0, v15] h2 fun v23 h3 =>
 kX v23 0 fun v24 =>
 kX v23 1 fun v25 =>
 kA [Z 0, Z 0, Z 0, Z 0, Z 0, .nils] h3 fun v8 h4 =>
 kS 6 v8 v24 h4 fun _ h5 =>
 kU .not v25 fun v27 =>
 gV v27 .false v1 h5 fun v29 h6 =>
 gP v27 .false (pFieldAddr 0 v7) h6 fun v30 h7 =>
 gP v27 .false (pLoad1 I v30 h7) h7 fun v31 h8 =>
 gS v27 .false (call 57 [v29, v31] h8) h8 fun v32 h9 =>
 gP v27 .false (pUn .not v32) h9 fun v33 h10 =>
 kP v27 bT v33 fun v34 =>
 sCond v34 (
 j.2.1.1 v0 v1 v5 v15 v7 v8 v13 v14 v15 h10) (
 j.1.2.2 v0 v1 v5 v13 v14 v15 h10)
def f91.b3 : Lb J91 A6 := fun I call j v0 v1 v5 v13 v14 v15 h =>
 kB .add v15 (Z 1) fun v88 =>
 j.1.1.2 v0 v1 v5 v13 v14 v88 h
def f91.b4 : Lb J91 A9 := fun I call j v0 v1 v5 v6 v7 v8 v13 v14 v15 h =>
 kF 0 v8 fun v35 =>
 kL I v35 h fun v36 =>
 kB .eql v36 (Z 4) fun v38 =>
 sCond v38 (
 kB .eql v36 (Z 5) fun v45 =>
 sCond v45 (
 j.1.2.2 v0 v1 v5 v13 v14 v15 h) (
 kC call 136 [v0, v1, v6] h fun v49 h1 =>
 kZ v49 fun v50 =>
 j.2.1.2 v0 v1 v5 v6 v7 v8 v13 v14 v15 v49 v50 (Z 0) h1)) (
 bndP (pBuild [Z 0, Z 0, Z 0, Z 0, Z 0] [(0, 1, Z 1), (1, 1, v6)]) fun v41 =>
 bnd (sBuildSlice [Z 0, Z 0, Z 0, Z 0, Z 0] 1 [(0, 5, v41)] h) fun v42 h2 =>
 bnd (sAppend I 5 40 v5 v42 h2) fun v43 h3 =>
 j.1.2.2 v0 v1 v43 v13 v14 v15 h3)
def f91.b5 : Lb J91 (AVal → AVal → AVal → A9) := fun I call j v0 v1 v5 v6 v7 v8 v13 v14 v15 v49 v50 v51 h =>
 kB .lss v51 v50 fun v52 =>
 sCond v52 (
 j.1.2.2 v0 v1 v5 v13 v14 v15 h) (
 j.2.2.1 v0 v1 v5 v6 v7 v8 v13 v14 v15 v49 v50 v51 h)
def f91.b6 : Lb J91 (AVal → AVal → AVal → A9) := fun I call j v0 v1 v5 v6 v7 v8 v13 v14 v15 v49 v50 v51 h =>
 kI 2 v49 v51 fun v53 =>
 kM I 2 v53 h fun v54 =>
 kA [Z 0, Z 0] h fun v11 h1 =>
 kS 2 v11 v54 h1 fun _ h2 =>
 kN v0 fun v56 =>
 kF 0 v56 fun v57 =>
 kL I v57 h2 fun v58 =>
 kN v0 fun v60 =>
 kF 4 v60 fun v61 =>
 kL I v61 h2 fun v62 =>
 kF 0 v7 fun v63 =>
 kL I v63 h2 fun v64 =>
 kI 3 v62 v64 fun v65 =>
 kF 1 v65 fun v66 =>
 kL I v66 h2 fun v67 =>
 kF 1 v8 fun v68 =>
 kL I v68 h2 fun v69 =>
 kI 2 v67 v69 fun v70 =>
 kF 1 v70 fun v71 =>
 kL I v71 h2 fun v72 =>
 kI 1 v58 v72 fun v73 =>
 kL I v73 h2 fun v74 =>
 kF 1 v11 fun v75 =>
 kL I v75 h2 fun v76 =>
 kI 2 v74 v76 fun v77 =>
 kF 0 v77 fun v78 =>
 kL I v78 h2 fun v79 =>
 kB .neq v79 (Z 0) fun v80 =>
 sCond v80 (
 j.2.2.2 v0 v1 v5 v6 v7 v8 v13 v14 v15 v49 v50 v51 h2) (
 kM I 2 v11 h2 fun v83 =>
 bndP (pBuild [Z 0, Z 0, Z 0, Z 0, Z 0] [(0, 1, Z 3), (1, 1, v6), (3, 2, v83)]) fun v84 =>
 bnd (sBuildSlice [Z 0, Z 0, Z 0, Z 0, Z 0] 1 [(0, 5, v84)] h2) fun v85 h3 =>
 bnd (sAppend I 5 40 v5 v85 h3) fun v86 h4 =>
 j.2.2.2 v0 v1 v86 v6 v7 v8 v13 v14 v15 v49 v50 v51 h4)
def f91.b7 : Lb J91 (AVal → AVal → AVal → A9) := fun I call j v0 v1 v5 v6 v7 v8 v13 v14 v15 v49 v50 v51 h =>
 kB .add v51 (Z 1) fun v87 =>
 j.2.1.2 v0 v1 v5 v6 v7 v8 v13 v14 v15 v49 v50 v87 h
def f91.e : Lb J91 A2 := fun I call j v0 v1 h =>
 kC call 81 [v0] h fun v13 h1 =>
 kZ v13 fun v14 =>
 j.1.1.2 v0 v1 .nils v13 v14 (Z 0) h1
def f91.T : Lb J91 J91 := fun I call j => (((f91.b0 I call j, f91.b1 I call j), (f91.b2 I call j, f91.b3 I call j)), ((f91.b4 I call j, f91.b5 I call j), (f91.b6 I call j, f91.b7 I call j)))
def f91.r : Inp → SF := runL f91.T f91.e
theorem f91.k : FOk P 91 f91.r := .of 8 ((([5], [0, 1, 5, 13, 14, 15]), ([0, 1, 5, 13, 14, 15], [0, 1, 5, 13, 14, 15])), (([0, 1, 5, 6, 7, 8, 13, 14, 15], [0, 1, 5, 6, 7, 8, 13, 14, 15, 49, 50, 51]), ([0, 1, 5, 6, 7, 8, 13, 14, 15, 49, 50, 51], [0, 1, 5, 6, 7, 8, 13, 14, 15, 49, 50, 51])))
abbrev J92 := (A1 × (A0 × A2))
def f92.b0 : Lb J92 A1 := fun I call j v6 h =>
 kF 0 v6 fun v16 =>
 kL I v16 h fun v17 =>
 kB .eql v17 (Z 7) fun v19 =>
 sCond v19 (
 kB .eql v17 (Z 8) fun v20 =>
 sCond v20 (
 kB .eql v17 (Z 9) fun v21 =>
 sCond v21 (
 kB .eql v17 (Z 13) fun v22 =>
 sCond v22 (
 kB .eql v17 (Z 14) fun v23 =>
 j.2.2 v6 v23 h) (
 j.2.2 v6 v22 h)) (
 j.2.2 v6 v21 h)) (
 j.2.2 v6 v20 h)) (
 j.2.2 v6 v19 h)
def f92.b1 : Lb J92 A0 := fun I call j h =>
 some (.tuple [Z 0, bF], h)
def f92.b2 : Lb J92 A2 := fun I call j v6 v18 h =>
 sCond v18 (
 j.2.1 h) (
 kF 2 v6 fun v24 =>
 kL I v24 h fun v25 =>
 some (.tuple [v25, bT], h))
def f92.e : Lb J92 A2 := fun I call j v0 v1 h =>
 kC call 82 [v0, v1] h fun v11 h1 =>
 kX v11 0 fun v12 =>
 kX v11 1 fun v13 =>
 kA [Z 0, Z 0, Z 0, Z 0, Z 0, .nils] h1 fun v6 h2 =>
 kS 6 v6 v12 h2 fun _ h3 =>
 kU .not v13 fun v15 =>
 sCond v15 (
 j.1 v6 h3) (
 some (.tuple [Z 0, bF], h3))
def f92.T : Lb J92 J92 := fun I call j => (f92.b0 I call j, (f92.b1 I call j, f92.b2 I call j))
def f92.r : Inp → SF := runL f92.T f92.e
theorem f92.k : FOk P 92 f92.r := .of 3 ([6], ([], [6, 18]))
abbrev J93 := ((A2 × A7) × (A7 × A7))
def f93.b0 : Lb J93 A2 := fun I call j v4 v6 h =>
 kM I 2 v6 h fun v38 =>
 kS 2 v4 v38 h fun _ h1 =>
 sRet (sCons (sResN I 2 v4 h1) (some [])) h1
def f93.b1 : Lb J93 A7 := fun I call j v0 v1 v4 v6 v17 v18 v19 h =>
 kB .lss v19 v18 fun v20 =>
 sCond v20 (
 j.1.1 v4 v6 h) (
 j.2.1 v0 v1 v4 v6 v17 v18 v19 h)
def f93.b2 : Lb J93 A7 := fun I call j v0 v1 v4 v6 v17 v18 v19 h =>
 kI 3 v17 v19 fun v22 =>
 kM I 3 v22 h fun v23 =>
 kA [Z 0, Z 0, Z 0] h fun v8 h1 =>
 kS 3 v8 v23 h1 fun _ h2 =>
 kF 0 v8 fun v25 =>
 kL I v25 h2 fun v26 =>
 kC call 57 [v1, v26] h2 fun v27 h3 =>
 sCond v27 (
 j.2.2 v0 v1 v4 v6 v17 v18 v19 h3) (
 kF 1 v6 fun v28 =>
 kL I v28 h3 fun v29 =>
 kM I 3 v8 h3 fun v34 =>
 kC call 157 [v0, v1, v19, v34] h3 fun v35 h4 =>
 kI 1 v29 v19 fun v36 =>
 kS 1 v36 v35 h4 fun _ h5 =>
 sCheck (sSame (lift (pLoad1 I v28 h4) h4) v29 && true) (
 j.2.2 v0 v1 v4 v6 v17 v18 v19 h5))
def f93.b3 : Lb J93 A7 := fun I call j v0 v1 v4 v6 v17 v18 v19 h =>
 kB .add v19 (Z 1) fun v37 =>
 j.1.2 v0 v1 v4 v6 v17 v18 v37 h
def f93.e : Lb J93 A2 := fun I call j v0 v1 h =>
 kA [Z 0, .nils] h fun v4 h1 =>
 kC call 81 [v0] h1 fun v10 h2 =>
 kZ v10 fun v12 =>
 kZ v10 fun v14 =>
 bnd (sMakeSlice [.nils] 24 v14 v14 h2) fun v15 h3 =>
 bndP (pBuild [Z 0, .nils] [(0, 1, v12), (1, 1, v15)]) fun v16 =>
 kA [Z 0, .nils] h3 fun v6 h4 =>
 kS 2 v6 v16 h4 fun _ h5 =>
 kZ v10 fun v18 =>
 j.1.2 v0 v1 v4 v6 v10 v18 (Z 0) h5
def f93.T : Lb J93 J93 := fun I call j => ((f93.b0 I call j, f93.b1 I call j), (f93.b2 I call j, f93.b3 I call j))
def f93.r : Inp → SF := runL f93.T f93.e
theorem f93.k : FOk P 93 f93.r := .of 4 (([4, 6], [0, 1, 4, 6, 17, 18, 19]), ([0, 1, 4, 6, 17, 18, 19], [0, 1, 4, 6, 17, 18, 19]))
def f94.e : Lb Unit A3 := fun I call j v0 v1 v2 h =>
 bnd (sBuildSlice [Z 0] 1 [(0, 1, Z 9)] h) fun v10 h1 =>
 kC call 158 [v0, v1, v2, v10] h1 fun v11 h2 =>
 some (v11, h2)
def f94.T : Lb Unit Unit := fun I call j => ()
def f94.r : Inp → SF := runL f94.T f94.e
theorem f94.k : FOk P 94 f94.r := .of 0 ()
abbrev J95 := A2
def f95.b0 : Lb J95 A2 := fun I call j v1 v2 h =>
 kM I 2 v2 h fun v13 =>
 kF 1 v2 fun v14 =>
 kL I v14 h fun v15 =>
 kI 1 v15 v1 fun v17 =>
 kL I v17 h fun v18 =>
 kC call 159 [v13, v18] h fun v19 h1 =>
 kC call 132 [v19] h1 fun v20 h2 =>
 some (v20, h2)
def f95.e : Lb J95 A2 := fun I call j v0 v1 h =>
 bnd (sBox v0 h) fun v2 h1 =>
 kB .lss v1 (Z 0) fun v6 =>
 gV v6 .false v1 h1 fun v8 h2 =>
 gP v6 .false (pFieldAddr 0 v2) h2 fun v9 h3 =>
 gP v6 .false (pLoad1 I v9 h3) h3 fun v10 h4 =>
 gP v6 .false (pBin .geq v8 v10) h4 fun v11 h5 =>
 kP v6 bT v11 fun v12 =>
 sCond v12 (
 j v1 v2 h5) (
 some (.nils, h5))
def f95.T : Lb J95 J95 := fun I call j => f95.b0 I call j
def f95.r : Inp → SF := runL f95.T f95.e
theorem f95.k : FOk P 95 f95.r := .of 1 [1, 2]
abbrev J96 := A4
def f96.b0 : Lb J96 A4 := fun I call j v0 v1 v2 v3 h =>
 kC call 160 [v0, v1, v3] h fun v49 h1 =>
 kA [.nils] h1 fun v13 h2 =>
 kS 1 v13 v49 h2 fun _ h3 =>
 kC call 94 [v0, v1, v2] h3 fun v53 h4 =>
 kC call 161 [v53, (.func (.func 162) [] [v13])] h4 fun v55 h5 =>
 some (v55, h5)
def f96.e : Lb J96 A4 := fun I call j v0 v1 v2 v3 h =>
 kC call 140 [v0, v2] h fun v17 h1 =>
 kX v17 0 fun v18 =>
 kX v17 1 fun v19 =>
 kA [Z 0, Z 0, Z 0] h1 fun v9 h2 =>
 kS 3 v9 v18 h2 fun _ h3 =>
 kC call 140 [v0, v3] h3 fun v23 h4 =>
 kX v23 0 fun v24 =>
 kX v23 1 fun v25 =>
 kA [Z 0, Z 0, Z 0] h4 fun v11 h5 =>
 kS 3 v11 v24 h5 fun _ h6 =>
 kU .not v19 fun v27 =>
 gV v27 .false v25 h6 fun v29 h7 =>
 gP v27 .false (pUn .not v29) h7 fun v30 h8 =>
 kP v27 bT v30 fun v31 =>
 gV v31 .false v1 h8 fun v33 h9 =>
 gP v31 .false (pFieldAddr 0 v9) h9 fun v34 h10 =>
 gP v31 .false (pLoad1 I v34 h10) h10 fun v35 h11 =>
 gS v31 .false (call 57 [v33, v35] h11) h11 fun v36 h12 =>
 gP v31 .false (pUn .not v36) h12 fun v37 h13 =>
 kP v31 bT v37 fun v38 =>
 gV v38 .false v1 h13 fun v40 h14 =>
 gP v38 .false (pFieldAddr 0 v11) h14 fun v41 h15 =>
 gP v38 .false (pLoad1 I v41 h15) h15 fun v42 h16 =>
 gS v38 .false (call 57 [v40, v42] h16) h16 fun v43 h17 =>
 gP v38 .false (pUn .not v43) h17 fun v44 h18 =>
 kP v38 bT v44 fun v45 =>
 sCond v45 (
 j v0 v1 v2 v3 h18) (
 some (bF, h18))
def f96.T : Lb J96 J96 := fun I call j => f96.b0 I call j
def f96.r : Inp → SF := runL f96.T f96.e
theorem f96.k : FOk P 96 f96.r := .of 1 [0, 1, 2, 3]
abbrev J97 := ((A1 × A6) × (A6 × A6))
def f97.b0 : Lb J97 A1 := fun I call j v5 h =>
 some (v5, h)
def f97.b1 : Lb J97 A6 := fun I call j v0 v1 v5 v11 v12 v13 h =>
 kB .lss v13 v12 fun v14 =>
 sCond v14 (
 j.1.1 v5 h) (
 j.2.1 v0 v1 v5 v11 v12 v13 h)
def f97.b2 : Lb J97 A6 := fun I call j v0 v1 v5 v11 v12 v13 h =>
 kI 3 v11 v13 fun v16 =>
 kM I 3 v16 h fun v17 =>
 kA [Z 0, Z 0, Z 0] h fun v7 h1 =>
 kS 3 v7 v17 h1 fun _ h2 =>
 kC call 82 [v0, v13] h2 fun v21 h3 =>
 kX v21 0 fun v22 =>
 kX v21 1 fun v23 =>
 kA [Z 0, Z 0, Z 0, Z 0, Z 0, .nils] h3 fun v8 h4 =>
 kS 6 v8 v22 h4 fun _ h5 =>
 gP v23 .true (pFieldAddr 0 v8) h5 fun v26 h6 =>
 gP v23 .true (pLoad1 I v26 h6) h6 fun v27 h7 =>
 gP v23 .true (pBin .eql v27 (Z 3)) h7 fun v28 h8 =>
 kP v23 v28 bF fun v29 =>
 gV v29 .true v1 h8 fun v31 h9 =>
 gP v29 .true (pFieldAddr 0 v7) h9 fun v32 h10 =>
 gP v29 .true (pLoad1 I v32 h10) h10 fun v33 h11 =>
 gS v29 .true (call 57 [v31, v33] h11) h11 fun v34 h12 =>
 kP v29 v34 bF fun v35 =>
 sCond v35 (
 j.2.2 v0 v1 v5 v11 v12 v13 h12) (
 bndP (pBuild [Z 0, Z 0, Z 0, Z 0, Z 0] [(0, 1, Z 1), (1, 1, v13)]) fun v38 =>
 bnd (sBuildSlice [Z 0, Z 0, Z 0, Z 0, Z 0] 1 [(0, 5, v38)] h12) fun v39 h13 =>
 bnd (sAppend I 5 40 v5 v39 h13) fun v40 h14 =>
 j.2.2 v0 v1 v40 v11 v12 v13 h14)
def f97.b3 : Lb J97 A6 := fun I call j v0 v1 v5 v11 v12 v13 h =>
 kB .add v13 (Z 1) fun v41 =>
 j.1.2 v0 v1 v5 v11 v12 v41 h
def f97.e : Lb J97 A2 := fun I call j v0 v1 h =>
 kC call 81 [v0] h fun v11 h1 =>
 kZ v11 fun v12 =>
 j.1.2 v0 v1 .nils v11 v12 (Z 0) h1
def f97.T : Lb J97 J97 := fun I call j => ((f97.b0 I call j, f97.b1 I call j), (f97.b2 I call j, f97.b3 I call j))
def f97.r : Inp → SF := runL f97.T f97.e
theorem f97.k : FOk P 97 f97.r := .of 4 (([5], [0, 1, 5, 11, 12, 13]), ([0, 1, 5, 11, 12, 13], [0, 1, 5, 11, 12, 13]))
def f98.e : Lb Unit A2 := fun I call j v0 v1 h =>
 kC call 82 [v0, v1] h fun v11 h1 =>
 kX v11 0 fun v12 =>
 kX v11 1 fun v13 =>
 kA [Z 0, Z 0, Z 0, Z 0, Z 0, .nils] h1 fun v6 h2 =>
 kS 6 v6 v12 h2 fun _ h3 =>
 kF 2 v6 fun v14 =>
 kL I v14 h3 fun v15 =>
 gP v13 .true (pFieldAddr 0 v6) h3 fun v18 h4 =>
 gP v13 .true (pLoad1 I v18 h4) h4 fun v19 h5 =>
 gP v13 .true (pBin .eql v19 (Z 15)) h5 fun v20 h6 =>
 kP v13 v20 bF fun v21 =>
 some (.tuple [v15, v21], h6)
def f98.T : Lb Unit Unit := fun I call j => ()
def f98.r : Inp → SF := runL f98.T f98.e
theorem f98.k : FOk P 98 f98.r := .of 0 ()
def f101.e : Lb Unit A2 := fun I call j v0 v1 h =>
 kB .geq v1 (Z 0) fun v6 =>
 gV v6 .true v1 h fun v8 h1 =>
 gP v6 .true (pBin .lss v8 (Z 5000)) h1 fun v9 h2 =>
 kP v6 v9 bF fun v10 =>
 gV v10 .true v0 h2 fun v12 h3 =>
 gV v10 .true v1 h3 fun v13 h4 =>
 gP v10 .true (pBin .quo v13 (Z 64)) h4 fun v14 h5 =>
 gS v10 .true (call 165 [v12, v14] h5) h5 fun v15 h6 =>
 gV v10 .true v1 h6 fun v16 h7 =>
 gP v10 .true (pBin .rem v16 (Z 64)) h7 fun v17 h8 =>
 gP v10 .true (pBin .shr v15 v17) h8 fun v18 h9 =>
 gP v10 .true (pBin .and v18 (.int .u64 (.ofNat 1))) h9 fun v19 h10 =>
 gP v10 .true (pBin .eql v19 (.int .u64 (.ofNat 1))) h10 fun v20 h11 =>
 kP v10 v20 bF fun v21 =>
 some (v21, h11)
def f101.T : Lb Unit Unit := fun I call j => ()
def f101.r : Inp → SF := runL f101.T f101.e
theorem f101.k : FOk P 101 f101.r := .of 0 ()
def f102.e : Lb Unit A0 := fun I call j h =>
 bndP (pBuild [.nils, Z 0, Z 0] []) fun v1 =>
 bnd (sBuildSlice [.nils, Z 0, Z 0] 1 [(0, 3, v1)] h) fun v2 h1 =>
 bndP (pBuild [Z 0, Z 0] []) fun v3 =>
 bnd (sBuildSlice [Z 0, Z 0] 1 [(0, 2, v3)] h1) fun v4 h2 =>
 bndP (pBuild [Z 0, Z 0, Z 0, Z 0, Z 0, .nils] [(0, 1, Z 1), (4, 1, Z 7)]) fun v5 =>
 bnd (sBuildSlice [Z 0, Z 0, Z 0, Z 0, Z 0, .nils] 1 [(0, 6, v5)] h2) fun v6 h3 =>
 bndP (pBuild [.nils, Z 0, Z 0, Z 0, Z 0] [(0, 1, v6), (1, 1, Z 3)]) fun v7 =>
 bnd (sBuildSlice [.nils, Z 0, Z 0, Z 0, Z 0] 1 [(0, 5, v7)] h3) fun v8 h4 =>
 bndP (pBuild [Z 0, .nils, .nils] [(1, 1, v4), (2, 1, v8)]) fun v9 =>
 bnd (sBuildSlice [Z 0, .nils, .nils] 1 [(0, 3, v9)] h4) fun v10 h5 =>
 bndP (pBuild [.nils, .nils, .nils, .nils, .nils, Z 0] [(1, 1, v2), (4, 1, v10)]) fun v11 =>
 bnd (sBox v11 h5) fun v12 h6 =>
 some (v12, h6)
def f102.T : Lb Unit Unit := fun I call j => ()
def f102.r : Inp → SF := runL f102.T f102.e
theorem f102.k : FOk P 102 f102.r := .of 0 ()
abbrev J103 := ((A1 × (A3 × A1)) × (A5 × (A5 × A5)))
def f103.b0 : Lb J103 A1 := fun I call j v5 h =>
 kF 0 v5 fun v19 =>
 kL I v19 h fun v20 =>
 kF 2 v5 fun v21 =>
 kL I v21 h fun v22 =>
 kC call 167 [v20, v22] h fun v23 h1 =>
 kF 1 v5 fun v25 =>
 kL I v25 h1 fun v26 =>
 kC call 168 [v26, v23, Z 0] h1 fun v28 h2 =>
 kX v28 0 fun v29 =>
 kX v28 1 fun v30 =>
 kA [Z 0, Z 0, Z 0, Z 0, Z 0] h2 fun v8 h3 =>
 kS 5 v8 v29 h3 fun _ h4 =>
 kU .not v30 fun v32 =>
 sCond v32 (
 j.1.2.1 v5 v23 v8 h4) (
 some (.nils, h4))
def f103.b1 : Lb J103 A3 := fun I call j v5 v7 v8 h =>
 kM I 5 v8 h fun v33 =>
 bnd (sBuildSlice [Z 0, Z 0, Z 0, Z 0, Z 0] 1 [(0, 5, v33)] h) fun v34 h1 =>
 kM I 5 v8 h1 fun v36 =>
 bndP (mapGetV (.many [.i, .i, .i, .i, .i]) (Z 0) .false v7 v36 h1) fun v37 =>
 kB .sub v37 (Z 1) fun v38 =>
 j.2.1 v5 v7 v8 v34 v38 h1
def f103.b2 : Lb J103 A1 := fun I call j v9 h =>
 some (v9, h)
def f103.b3 : Lb J103 A5 := fun I call j v5 v7 v8 v9 v10 h =>
 kB .gtr v10 (Z 0) fun v40 =>
 sCond v40 (
 j.1.2.2 v9 h) (
 j.2.2.1 v5 v7 v8 v9 v10 h)
def f103.b4 : Lb J103 A5 := fun I call j v5 v7 v8 v9 v10 h =>
 kF 0 v5 fun v44 =>
 kL I v44 h fun v45 =>
 kM I 5 v8 h fun v46 =>
 kC call 169 [v45, v46] h fun v47 h1 =>
 kC call 168 [v47, v7, v10] h1 fun v50 h2 =>
 kX v50 0 fun v51 =>
 kX v50 1 fun v52 =>
 kS 5 v8 v51 h2 fun _ h3 =>
 kM I 5 v8 h3 fun v54 =>
 bnd (sBuildSlice [Z 0, Z 0, Z 0, Z 0, Z 0] 1 [(0, 5, v54)] h3) fun v55 h4 =>
 bnd (sAppend I 5 40 v9 v55 h4) fun v56 h5 =>
 j.2.2.2 v5 v7 v8 v56 v10 h5
def f103.b5 : Lb J103 A5 := fun I call j v5 v7 v8 v9 v10 h =>
 kB .sub v10 (Z 1) fun v42 =>
 j.2.1 v5 v7 v8 v9 v42 h
def f103.e : Lb J103 A2 := fun I call j v0 v1 h =>
 bnd (sBox v1 h) fun v3 h1 =>
 kM I 2 v3 h1 fun v13 =>
 kC call 166 [v0, v13] h1 fun v14 h2 =>
 kX v14 0 fun v15 =>
 kX v14 1 fun v16 =>
 kA [.nilp, .nils, .nils] h2 fun v5 h3 =>
 kS 3 v5 v15 h3 fun _ h4 =>
 kU .not v16 fun v18 =>
 sCond v18 (
 j.1.1 v5 h4) (
 some (.nils, h4))
def f103.T : Lb J103 J103 := fun I call j => ((f103.b0 I call j, (f103.b1 I call j, f103.b2 I call j)), (f103.b3 I call j, (f103.b4 I call j, f103.b5 I call j)))
def f103.r : Inp → SF := runL f103.T f103.e
theorem f103.k : FOk P 103 f103.r := .of 6 (([5], ([5, 7, 8], [9])), ([5, 7, 8, 9, 10], ([5, 7, 8, 9, 10], [5, 7, 8, 9, 10])))
abbrev J104 := ((A2 × A0) × (A3 × (A3 × A3)))
def f104.b0 : Lb J104 A2 := fun I call j v2 v7 h =>
 j.2.1 v2 v7 (Z 1) h
def f104.b1 : Lb J104 A0 := fun I call j h =>
 some (bT, h)
def f104.b2 : Lb J104 A3 := fun I call j v2 v7 v9 h =>
 kZ v2 fun v46 =>
 kB .lss v9 v46 fun v47 =>
 sCond v47 (
 j.1.2 h) (
 j.2.2.1 v2 v7 v9 h)
def f104.b3 : Lb J104 A3 := fun I call j v2 v7 v9 h =>
 kF 0 v7 fun v50 =>
 kL I v50 h fun v51 =>
 kB .sub v9 (Z 1) fun v54 =>
 kI 5 v2 v54 fun v55 =>
 kM I 5 v55 h fun v56 =>
 kI 5 v2 v9 fun v59 =>
 kM I 5 v59 h fun v60 =>
 kC call 171 [v51, v56, v60] h fun v61 h1 =>
 kU .not v61 fun v62 =>
 sCond v62 (
 j.2.2.2 v2 v7 v9 h1) (
 some (bF, h1))
def f104.b4 : Lb J104 A3 := fun I call j v2 v7 v9 h =>
 kB .add v9 (Z 1) fun v49 =>
 j.2.1 v2 v7 v49 h
def f104.e : Lb J104 A3 := fun I call j v0 v1 v2 h =>
 bnd (sBox v1 h) fun v4 h1 =>
 kM I 2 v4 h1 fun v12 =>
 kC call 166 [v0, v12] h1 fun v13 h2 =>
 kX v13 0 fun v14 =>
 kX v13 1 fun v15 =>
 kA [.nilp, .nils, .nils] h2 fun v7 h3 =>
 kS 3 v7 v14 h3 fun _ h4 =>
 kU .not v15 fun v17 =>
 gV v17 .false v2 h4 fun v19 h5 =>
 gP v17 .false (pLenSl v19) h5 fun v20 h6 =>
 gP v17 .false (pBin .eql v20 (Z 0)) h6 fun v21 h7 =>
 kP v17 bT v21 fun v22 =>
 gP v22 .false (pFieldAddr 1 v7) h7 fun v24 h8 =>
 gP v22 .false (pLoad1 I v24 h8) h8 fun v25 h9 =>
 gV v22 .false v2 h9 fun v26 h10 =>
 gP v22 .false (pIndexAddr 5 v26 (Z 0)) h10 fun v27 h11 =>
 gP v22 .false (pLoadN I 5 v27 h11) h11 fun v28 h12 =>
 gS v22 .false (call 170 [v25, v28] h12) h12 fun v29 h13 =>
 gP v22 .false (pUn .not v29) h13 fun v30 h14 =>
 kP v22 bT v30 fun v31 =>
 gP v31 .false (pFieldAddr 2 v7) h14 fun v33 h15 =>
 gP v31 .false (pLoad1 I v33 h15) h15 fun v34 h16 =>
 gV v31 .false v2 h16 fun v35 h17 =>
 gV v31 .false v2 h17 fun v36 h18 =>
 gP v31 .false (pLenSl v36) h18 fun v37 h19 =>
 gP v31 .false (pBin .sub v37 (Z 1)) h19 fun v38 h20 =>
 gP v31 .false (pIndexAddr 5 v35 v38) h20 fun v39 h21 =>
 gP v31 .false (pLoadN I 5 v39 h21) h21 fun v40 h22 =>
 gS v31 .false (call 170 [v34, v40] h22) h22 fun v41 h23 =>
 gP v31 .false (pUn .not v41) h23 fun v42 h24 =>
 kP v31 bT v42 fun v43 =>
 sCond v43 (
 j.1.1 v2 v7 h24) (
 some (bF, h24))
def f104.T : Lb J104 J104 := fun I call j => ((f104.b0 I call j, f104.b1 I call j), (f104.b2 I call j, (f104.b3 I call j, f104.b4 I call j)))
def f104.r : Inp → SF := runL f104.T f104.e
theorem f104.k : FOk P 104 f104.r := .of 5 (([2, 7], []), ([2, 7, 9], ([2, 7, 9], [2, 7, 9])))
abbrev J105 := A2
def f105.b0 : Lb J105 A2 := fun I call j v0 v1 h =>
 kC call 172 [v1] h fun v11 h1 =>
 kC call 173 [] h1 fun v12 h2 =>
 bndP (pBuild [.nilp, .nils, .nilp, .nils, Z 0, Z 0, bF, Z 0, Z 0, bF] [(0, 1, v0), (1, 1, v11), (2, 1, v12), (5, 1, (.int .i64 (.negSucc 0)))]) fun v13 =>
 bnd (sBox v13 h2) fun v14 h3 =>
 kN v0 fun v17 =>
 kF 5 v17 fun v18 =>
 kL I v18 h3 fun v19 =>
 kC call 174 [v14, v19, .nils] h3 fun v20 h4 =>
 some (v14, h4)
def f105.e : Lb J105 A2 := fun I call j v0 v1 h =>
 kC call 49 [v0] h fun v7 h1 =>
 bndP (pEq P .true .iface .true v7 .nili h1) fun v8 =>
 sCond v8 (
 j v0 v1 h1) (
 some (.nilp, h1))
def f105.T : Lb J105 J105 := fun I call j => f105.b0 I call j
def f105.r : Inp → SF := runL f105.T f105.e
theorem f105.k : FOk P 105 f105.r := .of 1 [0, 1]
abbrev J106 := A1
def f106.b0 : Lb J106 A1 := fun I call j v0 h =>
 kC call 175 [v0] h fun v6 h1 =>
 kN v6 fun v7 =>
 kF 1 v7 fun v8 =>
 kL I v8 h1 fun v9 =>
 some (v9, h1)
def f106.e : Lb J106 A1 := fun I call j v0 h =>
 bndP (pEq P .false .ptr .true v0 .nilp h) fun v4 =>
 sCond v4 (
 j v0 h) (
 some ((.int .i64 (.negSucc 0)), h))
def f106.T : Lb J106 J106 := fun I call j => f106.b0 I call j
def f106.r : Inp → SF := runL f106.T f106.e
theorem f106.k : FOk P 106 f106.r := .of 1 [0]
abbrev J107 := A1
def f107.b0 : Lb J107 A1 := fun I call j v0 h =>
 kN v0 fun v6 =>
 kF 2 v6 fun v7 =>
 kL I v7 h fun v8 =>
 some (v8, h)
def f107.e : Lb J107 A1 := fun I call j v0 h =>
 bndP (pEq P .false .ptr .true v0 .nilp h) fun v4 =>
 sCond v4 (
 j v0 h) (
 some (.nilp, h))
def f107.T : Lb J107 J107 := fun I call j => f107.b0 I call j
def f107.r : Inp → SF := runL f107.T f107.e
theorem f107.k : FOk P 107 f107.r := .of 1 [0]
abbrev J108 := A1
def f108.b0 : Lb J108 A1 := fun I call j v0 h =>
 kN v0 fun v6 =>
 kF 0 v6 fun v7 =>
 kL I v7 h fun v8 =>
 kZ v8 fun v9 =>
 some (v9, h)
def f108.e : Lb J108 A1 := fun I call j v0 h =>
 bndP (pEq P .false .ptr .true v0 .nilp h) fun v4 =>
 sCond v4 (
 j v0 h) (
 some ((Z 0), h))
def f108.T : Lb J108 J108 := fun I call j => f108.b0 I call j
def f108.r : Inp → SF := runL f108.T f108.e
theorem f108.k : FOk P 108 f108.r := .of 1 [0]
abbrev J109 := (A1 × (A1 × A1))
def f109.b0 : Lb J109 A1 := fun I call j v0 h =>
 kN v0 fun v10 =>
 kF 5 v10 fun v11 =>
 kS 1 v11 (.int .i64 (.negSucc 0)) h fun _ h1 =>
 kN v0 fun v12 =>
 kF 6 v12 fun v13 =>
 kS 1 v13 bF h1 fun _ h2 =>
 kN v0 fun v15 =>
 kF 4 v15 fun v16 =>
 kL I v16 h2 fun v17 =>
 kB .neq v17 (Z 0) fun v18 =>
 sCond v18 (
 j.2.1 v0 h2) (
 kN v0 fun v20 =>
 kF 4 v20 fun v21 =>
 kL I v21 h2 fun v22 =>
 some (v22, h2))
def f109.b1 : Lb J109 A1 := fun I call j v0 h =>
 kC call 175 [v0] h fun v24 h1 =>
 sKeep 0 h1 fun h2 =>
 kN v0 fun v27 =>
 kF 0 v27 fun v28 =>
 kL I v28 h2 fun v29 =>
 kN v24 fun v31 =>
 kF 1 v31 fun v32 =>
 kL I v32 h2 fun v33 =>
 kC call 82 [v29, v33] h2 fun v34 h3 =>
 kX v34 0 fun v35 =>
 bnd (sResvAlloc (h1.next + 0) [Z 0, Z 0, Z 0, Z 0, Z 0, .nils] h3) fun v4 h4 =>
 kS 6 v4 v35 h4 fun _ h5 =>
 kX v34 1 fun v36 =>
 sCond v36 (
 kN v0 fun v49 =>
 kF 0 v49 fun v50 =>
 kL I v50 h5 fun v51 =>
 kN v24 fun v53 =>
 kF 1 v53 fun v54 =>
 kL I v54 h5 fun v55 =>
 kC call 84 [v51, v55] h5 fun v56 h6 =>
 kC call 177 [v0, v24, v56] h6 fun v57 h7 =>
 kN v0 fun v58 =>
 kF 4 v58 fun v59 =>
 kS 1 v59 v57 h7 fun _ h8 =>
 j.2.2 v0 h8) (
 kM I 6 v4 h5 fun v41 =>
 kC call 176 [v0, v24, v41] h5 fun v42 h9 =>
 kN v0 fun v43 =>
 kF 4 v43 fun v44 =>
 kS 1 v44 v42 h9 fun _ h10 =>
 j.2.2 v0 h10)
def f109.b2 : Lb J109 A1 := fun I call j v0 h =>
 kN v0 fun v61 =>
 kF 4 v61 fun v62 =>
 kL I v62 h fun v63 =>
 some (v63, h)
def f109.e : Lb J109 A1 := fun I call j v0 h =>
 bndP (pEq P .false .ptr .true v0 .nilp h) fun v7 =>
 sCond v7 (
 j.1 v0 h) (
 some ((Z 4), h))
def f109.T : Lb J109 J109 := fun I call j => (f109.b0 I call j, (f109.b1 I call j, f109.b2 I call j))
def f109.r : Inp → SF := runL f109.T f109.e
theorem f109.k : FOk P 109 f109.r := .of 3 ([0], ([0], [0]))
abbrev J110 := A1
def f110.b0 : Lb J110 A1 := fun I call j v0 h =>
 kN v0 fun v6 =>
 kF 5 v6 fun v7 =>
 kL I v7 h fun v8 =>
 some (v8, h)
def f110.e : Lb J110 A1 := fun I call j v0 h =>
 bndP (pEq P .false .ptr .true v0 .nilp h) fun v4 =>
 sCond v4 (
 j v0 h) (
 some ((.int .i64 (.negSucc 0)), h))
def f110.T : Lb J110 J110 := fun I call j => f110.b0 I call j
def f110.r : Inp → SF := runL f110.T f110.e
theorem f110.k : FOk P 110 f110.r := .of 1 [0]
def f111.e : Lb Unit A1 := fun I call j v0 h =>
 bndP (pEq P .true .ptr .true v0 .nilp h) fun v4 =>
 gV v4 .true v0 h fun v6 h1 =>
 gP v4 .true (pNilCheck v6) h1 fun v7 h2 =>
 gP v4 .true (pFieldAddr 6 v7) h2 fun v8 h3 =>
 gP v4 .true (pLoad1 I v8 h3) h3 fun v9 h4 =>
 kP v4 v9 bF fun v10 =>
 some (v10, h4)
def f111.T : Lb Unit Unit := fun I call j => ()
def f111.r : Inp → SF := runL f111.T f111.e
theorem f111.k : FOk P 111 f111.r := .of 0 ()
abbrev J113 := A1
def f113.b0 : Lb J113 A1 := fun I call j v0 h =>
 kC call 187 [v0] h fun v7 h1 =>
 some (v7, h1)
def f113.e : Lb J113 A1 := fun I call j v0 h =>
 sCond bF (
 j v0 h) (
 bndP (pToInt .u32 v0) fun v4 =>
 kC call 186 [v4] h fun v5 h1 =>
 some (v5, h1))
def f113.T : Lb J113 J113 := fun I call j => f113.b0 I call j
def f113.r : Inp → SF := runL f113.T f113.e
theorem f113.k : FOk P 113 f113.r := .of 1 [0]
def f114.e : Lb Unit A1 := fun I call j v0 h =>
 kB .neq v0 v0 fun v5 =>
 some (v5, h)
def f114.T : Lb Unit Unit := fun I call j => ()
def f114.r : Inp → SF := runL f114.T f114.e
theorem f114.k : FOk P 114 f114.r := .of 0 ()
abbrev J115 := ((((A1 × A2) × (A5 × (A5 × A5))) × ((A2 × (A5 × A5)) × (A5 × (A2 × A5)))) × (((A5 × A5) × (A2 × (A5 × A5))) × ((A5 × (A3 × A6)) × (A6 × (A6 × A0)))))
def f115.b0 : Lb J115 A1 := fun I call j v0 h =>
 kN v0 fun v71 =>
 kF 0 v71 fun v72 =>
 kL I v72 h fun v73 =>
 kZ v73 fun v74 =>
 j.1.1.2.1 v0 bT v73 v74 (Z 0) h
def f115.b1 : Lb J115 A2 := fun I call j v0 v3 h =>
 kN v0 fun v87 =>
 kF 1 v87 fun v88 =>
 kL I v88 h fun v89 =>
 kZ v89 fun v90 =>
 j.1.2.1.2.1 v0 v3 v89 v90 (Z 0) h
def f115.b2 : Lb J115 A5 := fun I call j v0 v3 v73 v74 v75 h =>
 kB .lss v75 v74 fun v76 =>
 sCond v76 (
 j.1.1.1.2 v0 v3 h) (
 j.1.1.2.2.1 v0 v3 v73 v74 v75 h)
def f115.b3 : Lb J115 A5 := fun I call j v0 v3 v73 v74 v75 h =>
 kI 1 v73 v75 fun v77 =>
 kL I v77 h fun v78 =>
 gV v3 .true v78 h fun v81 h1 =>
 gP v3 .true (pLenSl v81) h1 fun v82 h2 =>
 gP v3 .true (pBin .leq v82 (Z 4)) h2 fun v83 h3 =>
 kP v3 v83 bF fun v84 =>
 j.1.1.2.2.2 v0 v84 v73 v74 v75 h3
def f115.b4 : Lb J115 A5 := fun I call j v0 v3 v73 v74 v75 h =>
 kB .add v75 (Z 1) fun v85 =>
 j.1.1.2.1 v0 v3 v73 v74 v85 h
def f115.b5 : Lb J115 A2 := fun I call j v0 v3 h =>
 kN v0 fun v104 =>
 kF 2 v104 fun v105 =>
 kL I v105 h fun v106 =>
 kZ v106 fun v107 =>
 j.1.2.2.2.2 v0 v3 v106 v107 (Z 0) h
def f115.b6 : Lb J115 A5 := fun I call j v0 v3 v89 v90 v91 h =>
 kB .lss v91 v90 fun v92 =>
 sCond v92 (
 j.1.2.1.1 v0 v3 h) (
 j.1.2.1.2.2 v0 v3 v89 v90 v91 h)
def f115.b7 : Lb J115 A5 := fun I call j v0 v3 v89 v90 v91 h =>
 kI 3 v89 v91 fun v93 =>
 kM I 3 v93 h fun v94 =>
 kA [.nils, Z 0, Z 0] h fun v7 h1 =>
 kS 3 v7 v94 h1 fun _ h2 =>
 gP v3 .true (pFieldAddr 0 v7) h2 fun v97 h3 =>
 gP v3 .true (pLoad1 I v97 h3) h3 fun v98 h4 =>
 gP v3 .true (pLenSl v98) h4 fun v99 h5 =>
 gP v3 .true (pBin .leq v99 (Z 4)) h5 fun v100 h6 =>
 kP v3 v100 bF fun v101 =>
 j.1.2.2.1 v0 v101 v89 v90 v91 h6
def f115.b8 : Lb J115 A5 := fun I call j v0 v3 v89 v90 v91 h =>
 kB .add v91 (Z 1) fun v102 =>
 j.1.2.1.2.1 v0 v3 v89 v90 v102 h
def f115.b9 : Lb J115 A2 := fun I call j v0 v3 h =>
 kN v0 fun v121 =>
 kF 3 v121 fun v122 =>
 kL I v122 h fun v123 =>
 kZ v123 fun v124 =>
 j.2.1.2.2.1 v0 v3 v123 v124 (Z 0) h
def f115.b10 : Lb J115 A5 := fun I call j v0 v3 v106 v107 v108 h =>
 kB .lss v108 v107 fun v109 =>
 sCond v109 (
 j.1.2.2.2.1 v0 v3 h) (
 j.2.1.1.1 v0 v3 v106 v107 v108 h)
def f115.b11 : Lb J115 A5 := fun I call j v0 v3 v106 v107 v108 h =>
 kI 1 v106 v108 fun v110 =>
 kM I 1 v110 h fun v111 =>
 kA [.nils] h fun v9 h1 =>
 kS 1 v9 v111 h1 fun _ h2 =>
 gP v3 .true (pFieldAddr 0 v9) h2 fun v114 h3 =>
 gP v3 .true (pLoad1 I v114 h3) h3 fun v115 h4 =>
 gP v3 .true (pLenSl v115) h4 fun v116 h5 =>
 gP v3 .true (pBin .leq v116 (Z 3)) h5 fun v117 h6 =>
 kP v3 v117 bF fun v118 =>
 j.2.1.1.2 v0 v118 v106 v107 v108 h6
def f115.b12 : Lb J115 A5 := fun I call j v0 v3 v106 v107 v108 h =>
 kB .add v108 (Z 1) fun v119 =>
 j.1.2.2.2.2 v0 v3 v106 v107 v119 h
def f115.b13 : Lb J115 A2 := fun I call j v0 v3 h =>
 kN v0 fun v138 =>
 kF 4 v138 fun v139 =>
 kL I v139 h fun v140 =>
 kZ v140 fun v141 =>
 j.2.2.1.2.2 v3 (Z 0) (Z 0) v140 v141 (Z 0) h
def f115.b14 : Lb J115 A5 := fun I call j v0 v3 v123 v124 v125 h =>
 kB .lss v125 v124 fun v126 =>
 sCond v126 (
 j.2.1.2.1 v0 v3 h) (
 j.2.1.2.2.2 v0 v3 v123 v124 v125 h)
def f115.b15 : Lb J115 A5 := fun I call j v0 v3 v123 v124 v125 h =>
 kI 3 v123 v125 fun v127 =>
 kM I 3 v127 h fun v128 =>
 kA [Z 0, Z 0, .nils] h fun v11 h1 =>
 kS 3 v11 v128 h1 fun _ h2 =>
 gP v3 .true (pFieldAddr 2 v11) h2 fun v131 h3 =>
 gP v3 .true (pLoad1 I v131 h3) h3 fun v132 h4 =>
 gP v3 .true (pLenSl v132) h4 fun v133 h5 =>
 gP v3 .true (pBin .leq v133 (Z 3)) h5 fun v134 h6 =>
 kP v3 v134 bF fun v135 =>
 j.2.2.1.1 v0 v135 v123 v124 v125 h6
def f115.b16 : Lb J115 A5 := fun I call j v0 v3 v123 v124 v125 h =>
 kB .add v125 (Z 1) fun v136 =>
 j.2.1.2.2.1 v0 v3 v123 v124 v136 h
def f115.b17 : Lb J115 A3 := fun I call j v3 v12 v13 h =>
 kU .not v3 fun v164 =>
 gV v164 .false v12 h fun v166 h1 =>
 gP v164 .false (pBin .gtr v166 (Z 600)) h1 fun v167 h2 =>
 kP v164 bT v167 fun v168 =>
 gV v168 .false v13 h2 fun v170 h3 =>
 gP v168 .false (pBin .gtr v170 (Z 40)) h3 fun v171 h4 =>
 kP v168 bT v171 fun v172 =>
 sCond v172 (
 j.2.2.2.2.2 h4) (
 kC call 188 [] h4 fun v173 h5 =>
 some (v173, h5))
def f115.b18 : Lb J115 A6 := fun I call j v3 v12 v13 v140 v141 v142 h =>
 kB .lss v142 v141 fun v143 =>
 sCond v143 (
 j.2.2.1.2.1 v3 v12 v13 h) (
 j.2.2.2.1 v3 v12 v13 v140 v141 v142 h)
def f115.b19 : Lb J115 A6 := fun I call j v3 v12 v13 v140 v141 v142 h =>
 kI 3 v140 v142 fun v144 =>
 kM I 3 v144 h fun v145 =>
 kA [Z 0, .nils, .nils] h fun v15 h1 =>
 kS 3 v15 v145 h1 fun _ h2 =>
 kM I 3 v15 h2 fun v147 =>
 kC call 189 [v147] h2 fun v148 h3 =>
 kX v148 0 fun v149 =>
 kX v148 1 fun v150 =>
 kX v148 2 fun v151 =>
 gV v3 .true v149 h3 fun v154 h4 =>
 kP v3 v154 bF fun v155 =>
 kB .add v12 v150 fun v158 =>
 kB .add v13 v151 fun v161 =>
 j.2.2.2.2.1 v155 v158 v161 v140 v141 v142 h4
def f115.b20 : Lb J115 A6 := fun I call j v3 v12 v13 v140 v141 v142 h =>
 kB .add v142 (Z 1) fun v162 =>
 j.2.2.1.2.2 v3 v12 v13 v140 v141 v162 h
def f115.b21 : Lb J115 A0 := fun I call j h =>
 some (.nili, h)
def f115.e : Lb J115 A1 := fun I call j v0 h =>
 bndP (pEq P .false .ptr .true v0 .nilp h) fun v20 =>
 gV v20 .false v0 h fun v22 h1 =>
 gP v20 .false (pNilCheck v22) h1 fun v23 h2 =>
 gP v20 .false (pFieldAddr 0 v23) h2 fun v24 h3 =>
 gP v20 .false (pLoad1 I v24 h3) h3 fun v25 h4 =>
 gP v20 .false (pLenSl v25) h4 fun v26 h5 =>
 gP v20 .false (pBin .gtr v26 (Z 6)) h5 fun v27 h6 =>
 kP v20 bT v27 fun v28 =>
 gV v28 .false v0 h6 fun v30 h7 =>
 gP v28 .false (pNilCheck v30) h7 fun v31 h8 =>
 gP v28 .false (pFieldAddr 1 v31) h8 fun v32 h9 =>
 gP v28 .false (pLoad1 I v32 h9) h9 fun v33 h10 =>
 gP v28 .false (pLenSl v33) h10 fun v34 h11 =>
 gP v28 .false (pBin .gtr v34 (Z 10)) h11 fun v35 h12 =>
 kP v28 bT v35 fun v36 =>
 gV v36 .false v0 h12 fun v38 h13 =>
 gP v36 .false (pNilCheck v38) h13 fun v39 h14 =>
 gP v36 .false (pFieldAddr 2 v39) h14 fun v40 h15 =>
 gP v36 .false (pLoad1 I v40 h15) h15 fun v41 h16 =>
 gP v36 .false (pLenSl v41) h16 fun v42 h17 =>
 gP v36 .false (pBin .gtr v42 (Z 4)) h17 fun v43 h18 =>
 kP v36 bT v43 fun v44 =>
 gV v44 .false v0 h18 fun v46 h19 =>
 gP v44 .false (pNilCheck v46) h19 fun v47 h20 =>
 gP v44 .false (pFieldAddr 3 v47) h20 fun v48 h21 =>
 gP v44 .false (pLoad1 I v48 h21) h21 fun v49 h22 =>
 gP v44 .false (pLenSl v49) h22 fun v50 h23 =>
 gP v44 .false (pBin .gtr v50 (Z 12)) h23 fun v51 h24 =>
 kP v44 bT v51 fun v52 =>
 gV v52 .false v0 h24 fun v54 h25 =>
 gP v52 .false (pNilCheck v54) h25 fun v55 h26 =>
 gP v52 .false (pFieldAddr 4 v55) h26 fun v56 h27 =>
 gP v52 .false (pLoad1 I v56 h27) h27 fun v57 h28 =>
 gP v52 .false (pLenSl v57) h28 fun v58 h29 =>
 gP v52 .false (pBin .gtr v58 (Z 12)) h29 fun v59 h30 =>
 kP v52 bT v59 fun v60 =>
 gV v60 .false v0 h30 fun v62 h31 =>
 gP v60 .false (pNilCheck v62) h31 fun v63 h32 =>
 gP v60 .false (pFieldAddr 4 v63) h32 fun v64 h33 =>
 gP v60 .false (pLoad1 I v64 h33) h33 fun v65 h34 =>
 gP v60 .false (pLenSl v65) h34 fun v66 h35 =>
 gP v60 .false (pBin .eql v66 (Z 0)) h35 fun v67 h36 =>
 kP v60 bT v67 fun v68 =>
 sCond v68 (
 j.1.1.1.1 v0 h36) (
 kC call 188 [] h36 fun v69 h37 =>
 some (v69, h37))
def f115.T : Lb J115 J115 := fun I call j => ((((f115.b0 I call j, f115.b1 I call j), (f115.b2 I call j, (f115.b3 I call j, f115.b4 I call j))), ((f115.b5 I call j, (f115.b6 I call j, f115.b7 I call j)), (f115.b8 I call j, (f115.b9 I call j, f115.b10 I call j)))), (((f115.b11 I call j, f115.b12 I call j), (f115.b13 I call j, (f115.b14 I call j, f115.b15 I call j))), ((f115.b16 I call j, (f115.b17 I call j, f115.b18 I call j)), (f115.b19 I call j, (f115.b20 I call j, f115.b21 I call j)))))
def f115.r : Inp → SF := runL f115.T f115.e
theorem f115.k : FOk P 115 f115.r := .of 22 (((([0], [0, 3]), ([0, 3, 73, 74, 75], ([0, 3, 73, 74, 75], [0, 3, 73, 74, 75]))), (([0, 3], ([0, 3, 89, 90, 91], [0, 3, 89, 90, 91])), ([0, 3, 89, 90, 91], ([0, 3], [0, 3, 106, 107, 108])))), ((([0, 3, 106, 107, 108], [0, 3, 106, 107, 108]), ([0, 3], ([0, 3, 123, 124, 125], [0, 3, 123, 124, 125]))), (([0, 3, 123, 124, 125], ([3, 12, 13], [3, 12, 13, 140, 141, 142])), ([3, 12, 13, 140, 141, 142], ([3, 12, 13, 140, 141, 142], [])))))
abbrev J116 := ((A2 × (A2 × A5)) × ((A5 × A5) × (A7 × A0)))
def f116.b0 : Lb J116 A2 := fun I call j v1 v3 h =>
 kL I v1 h fun v13 =>
 kN v13 fun v14 =>
 kF 4 v14 fun v15 =>
 kL I v15 h fun v16 =>
 kZ v16 fun v17 =>
 j.1.2.2 v1 v3 v16 v17 (Z 0) h
def f116.b1 : Lb J116 A2 := fun I call j v1 v3 h =>
 kL I v1 h fun v49 =>
 kN v49 fun v50 =>
 kF 5 v50 fun v51 =>
 kL I v51 h fun v52 =>
 kL I v1 h fun v53 =>
 kN v53 fun v54 =>
 kF 4 v54 fun v55 =>
 kL I v55 h fun v56 =>
 kZ v56 fun v57 =>
 kC call 191 [v52, v57] h fun v58 h1 =>
 kU .not v58 fun v59 =>
 sCond v59 (
 j.2.2.2 h1) (
 some (v3, h1))
def f116.b2 : Lb J116 A5 := fun I call j v1 v3 v16 v17 v18 h =>
 kB .lss v18 v17 fun v19 =>
 sCond v19 (
 j.1.2.1 v1 v3 h) (
 j.2.1.1 v1 v3 v16 v17 v18 h)
def f116.b3 : Lb J116 A5 := fun I call j v1 v3 v16 v17 v18 h =>
 kI 3 v16 v18 fun v21 =>
 kM I 3 v21 h fun v22 =>
 kA [Z 0, .nils, .nils] h fun v5 h1 =>
 kS 3 v5 v22 h1 fun _ h2 =>
 kF 0 v5 fun v23 =>
 kL I v23 h2 fun v24 =>
 kL I v1 h2 fun v25 =>
 kN v25 fun v26 =>
 kF 1 v26 fun v27 =>
 kL I v27 h2 fun v28 =>
 kZ v28 fun v29 =>
 kC call 191 [v24, v29] h2 fun v30 h3 =>
 kU .not v30 fun v31 =>
 gP v31 .false (pLoad1 I v1 h3) h3 fun v33 h4 =>
 gP v31 .false (pFieldAddr 1 v5) h4 fun v34 h5 =>
 gP v31 .false (pLoad1 I v34 h5) h5 fun v35 h6 =>
 gS v31 .false (call 192 [v33, v35] h6) h6 fun v36 h7 =>
 gP v31 .false (pUn .not v36) h7 fun v37 h8 =>
 kP v31 bT v37 fun v38 =>
 sCond v38 (
 j.2.2.1 v1 v3 v18 v5 v16 v17 v18 h8) (
 some (v3, h8))
def f116.b4 : Lb J116 A5 := fun I call j v1 v3 v16 v17 v18 h =>
 kB .add v18 (Z 1) fun v48 =>
 j.1.2.2 v1 v3 v16 v17 v48 h
def f116.b5 : Lb J116 A7 := fun I call j v1 v3 v4 v5 v16 v17 v18 h =>
 kL I v1 h fun v40 =>
 kC call 193 [v40, Z 3, v4, (.func (.func 194) [] [v1, v5]), (.func (.func 196) [] [v5])] h fun v44 h1 =>
 bndP (pEq P .true .iface .true v44 .nili h1) fun v46 =>
 sCond v46 (
 j.2.1.2 v1 v3 v16 v17 v18 h1) (
 some (v44, h1))
def f116.b6 : Lb J116 A0 := fun I call j h =>
 some (.nili, h)
def f116.e : Lb J116 A1 := fun I call j v0 h =>
 bnd (sBox v0 h) fun v1 h1 =>
 kC call 67 [] h1 fun v7 h2 =>
 kC call 68 [Z 3, v7, .nili] h2 fun v8 h3 =>
 kL I v1 h3 fun v9 =>
 kC call 190 [v9] h3 fun v10 h4 =>
 kU .not v10 fun v11 =>
 sCond v11 (
 j.1.1 v1 v8 h4) (
 some (v8, h4))
def f116.T : Lb J116 J116 := fun I call j => ((f116.b0 I call j, (f116.b1 I call j, f116.b2 I call j)), ((f116.b3 I call j, f116.b4 I call j), (f116.b5 I call j, f116.b6 I call j)))
def f116.r : Inp → SF := runL f116.T f116.e
theorem f116.k : FOk P 116 f116.r := .of 7 (([1, 3], ([1, 3], [1, 3, 16, 17, 18])), (([1, 3, 16, 17, 18], [1, 3, 16, 17, 18]), ([1, 3, 4, 5, 16, 17, 18], [])))
abbrev J117 := (((A0 × A4) × (A4 × A4)) × ((A5 × A9) × (A9 × A9)))
def f117.b0 : Lb J117 A0 := fun I call j h =>
 some (.nili, h)
def f117.b1 : Lb J117 A4 := fun I call j v0 v11 v12 v13 h =>
 kB .lss v13 v12 fun v14 =>
 sCond v14 (
 j.1.1.1 h) (
 j.1.2.1 v0 v11 v12 v13 h)
def f117.b2 : Lb J117 A4 := fun I call j v0 v11 v12 v13 h =>
 kI 3 v11 v13 fun v16 =>
 kM I 3 v16 h fun v17 =>
 kA [Z 0, Z 0, .nils] h fun v4 h1 =>
 kS 3 v4 v17 h1 fun _ h2 =>
 kN v0 fun v19 =>
 kF 2 v19 fun v20 =>
 kL I v20 h2 fun v21 =>
 kF 1 v4 fun v22 =>
 kL I v22 h2 fun v23 =>
 kI 1 v21 v23 fun v24 =>
 kF 0 v24 fun v25 =>
 kL I v25 h2 fun v26 =>
 kF 2 v4 fun v27 =>
 kL I v27 h2 fun v28 =>
 kZ v28 fun v29 =>
 kZ v26 fun v31 =>
 kB .eql v29 v31 fun v32 =>
 gV v32 .true v0 h2 fun v34 h3 =>
 gP v32 .true (pFieldAddr 0 v4) h3 fun v35 h4 =>
 gP v32 .true (pLoad1 I v35 h4) h4 fun v36 h5 =>
 gP v32 .true (pFieldAddr 1 v4) h5 fun v37 h6 =>
 gP v32 .true (pLoad1 I v37 h6) h6 fun v38 h7 =>
 gS v32 .true (call 198 [v34, v36, v38] h7) h7 fun v39 h8 =>
 gV v32 .true v13 h8 fun v40 h9 =>
 gP v32 .true (pBin .eql v39 v40) h9 fun v41 h10 =>
 kP v32 v41 bF fun v42 =>
 kF 2 v4 fun v43 =>
 kL I v43 h10 fun v44 =>
 kZ v44 fun v45 =>
 kZ v26 fun v47 =>
 bndP (pMinmax .false [v45, v47]) fun v48 =>
 j.2.1.2 v0 v4 v26 v42 v11 v12 v13 v48 (Z 0) h10
def f117.b3 : Lb J117 A4 := fun I call j v0 v11 v12 v13 h =>
 kB .add v13 (Z 1) fun v73 =>
 j.1.1.2 v0 v11 v12 v73 h
def f117.b4 : Lb J117 A5 := fun I call j v0 v6 v11 v12 v13 h =>
 kU .not v6 fun v70 =>
 sCond v70 (
 j.1.2.2 v0 v11 v12 v13 h) (
 kC call 67 [] h fun v71 h1 =>
 kC call 68 [Z 7, v71, .nili] h1 fun v72 h2 =>
 some (v72, h2))
def f117.b5 : Lb J117 A9 := fun I call j v0 v4 v5 v6 v11 v12 v13 v48 v49 h =>
 kB .lss v49 v48 fun v50 =>
 sCond v50 (
 j.2.1.1 v0 v6 v11 v12 v13 h) (
 j.2.2.1 v0 v4 v5 v6 v11 v12 v13 v48 v49 h)
def f117.b6 : Lb J117 A9 := fun I call j v0 v4 v5 v6 v11 v12 v13 v48 v49 h =>
 gV v6 .true v0 h fun v54 h1 =>
 gP v6 .true (pFieldAddr 0 v4) h1 fun v55 h2 =>
 gP v6 .true (pLoad1 I v55 h2) h2 fun v56 h3 =>
 gP v6 .true (pFieldAddr 2 v4) h3 fun v57 h4 =>
 gP v6 .true (pLoad1 I v57 h4) h4 fun v58 h5 =>
 gV v6 .true v49 h5 fun v59 h6 =>
 gP v6 .true (pIndexAddr 1 v58 v59) h6 fun v60 h7 =>
 gP v6 .true (pLoad1 I v60 h7) h7 fun v61 h8 =>
 gV v6 .true v5 h8 fun v62 h9 =>
 gV v6 .true v49 h9 fun v63 h10 =>
 gP v6 .true (pIndexAddr 1 v62 v63) h10 fun v64 h11 =>
 gP v6 .true (pLoad1 I v64 h11) h11 fun v65 h12 =>
 gS v6 .true (call 199 [v54, v56, v61, v65] h12) h12 fun v66 h13 =>
 kP v6 v66 bF fun v67 =>
 j.2.2.2 v0 v4 v5 v67 v11 v12 v13 v48 v49 h13
def f117.b7 : Lb J117 A9 := fun I call j v0 v4 v5 v6 v11 v12 v13 v48 v49 h =>
 kB .add v49 (Z 1) fun v68 =>
 j.2.1.2 v0 v4 v5 v6 v11 v12 v13 v48 v68 h
def f117.e : Lb J117 A1 := fun I call j v0 h =>
 kN v0 fun v9 =>
 kF 3 v9 fun v10 =>
 kL I v10 h fun v11 =>
 kZ v11 fun v12 =>
 j.1.1.2 v0 v11 v12 (Z 0) h
def f117.T : Lb J117 J117 := fun I call j => (((f117.b0 I call j, f117.b1 I call j), (f117.b2 I call j, f117.b3 I call j)), ((f117.b4 I call j, f117.b5 I call j), (f117.b6 I call j, f117.b7 I call j)))
def f117.r : Inp → SF := runL f117.T f117.e
theorem f117.k : FOk P 117 f117.r := .of 8 ((([], [0, 11, 12, 13]), ([0, 11, 12, 13], [0, 11, 12, 13])), (([0, 6, 11, 12, 13], [0, 4, 5, 6, 11, 12, 13, 48, 49]), ([0, 4, 5, 6, 11, 12, 13, 48, 49], [0, 4, 5, 6, 11, 12, 13, 48, 49])))
abbrev J118 := (((A2 × A5) × (A5 × A5)) × ((A2 × A4) × (A4 × (A4 × A0))))
def f118.b0 : Lb J118 A2 := fun I call j v1 v3 h =>
 kL I v1 h fun v26 =>
 kN v26 fun v27 =>
 kF 4 v27 fun v28 =>
 kL I v28 h fun v29 =>
 kZ v29 fun v30 =>
 j.2.1.2 v1 v3 v30 (Z 0) h
def f118.b1 : Lb J118 A5 := fun I call j v1 v3 v14 v15 v16 h =>
 kB .lss v16 v15 fun v17 =>
 sCond v17 (
 j.1.1.1 v1 v3 h) (
 j.1.2.1 v1 v3 v14 v15 v16 h)
def f118.b2 : Lb J118 A5 := fun I call j v1 v3 v14 v15 v16 h =>
 kI 3 v14 v16 fun v18 =>
 kM I 3 v18 h fun v19 =>
 kA [Z 0, .nils, .nils] h fun v5 h1 =>
 kS 3 v5 v19 h1 fun _ h2 =>
 kL I v1 h2 fun v20 =>
 kM I 3 v5 h2 fun v21 =>
 kC call 200 [v20, v21] h2 fun v22 h3 =>
 kU .not v22 fun v23 =>
 sCond v23 (
 j.1.2.2 v1 v3 v14 v15 v16 h3) (
 some (v3, h3))
def f118.b3 : Lb J118 A5 := fun I call j v1 v3 v14 v15 v16 h =>
 kB .add v16 (Z 1) fun v25 =>
 j.1.1.2 v1 v3 v14 v15 v25 h
def f118.b4 : Lb J118 A2 := fun I call j v1 v3 h =>
 kL I v1 h fun v43 =>
 kN v43 fun v44 =>
 kF 1 v44 fun v45 =>
 kL I v45 h fun v46 =>
 kL I v1 h fun v47 =>
 kN v47 fun v48 =>
 kF 4 v48 fun v49 =>
 kL I v49 h fun v50 =>
 kL I v1 h fun v51 =>
 kN v51 fun v52 =>
 kF 5 v52 fun v53 =>
 kL I v53 h fun v54 =>
 kI 3 v50 v54 fun v55 =>
 kF 0 v55 fun v56 =>
 kL I v56 h fun v57 =>
 kI 3 v46 v57 fun v58 =>
 kM I 3 v58 h fun v59 =>
 kA [.nils, Z 0, Z 0] h fun v8 h1 =>
 kS 3 v8 v59 h1 fun _ h2 =>
 sCheck (sSame (lift (pLoad1 I v1 h1) h1) v43 && true) (
 sCheck (sSame (lift (pLoad1 I v45 h1) h1) v46 && true) (
 sCheck (sSame (lift (pLoad1 I v1 h1) h1) v47 && true) (
 sCheck (sSame (lift (pLoad1 I v49 h1) h1) v50 && true) (
 sCheck (sSame (lift (pLoad1 I v1 h1) h1) v51 && true) (
 sCheck (sSame (lift (pLoad1 I v53 h1) h1) v54 && true) (
 sCheck (sSame (lift (pLoad1 I v56 h1) h1) v57 && true) (
 sCheck (sSame (lift (pLoadN I 3 v58 h1) h1) v59 && true) (
 kF 0 v8 fun v60 =>
 kL I v60 h2 fun v61 =>
 kZ v61 fun v62 =>
 kB .gtr v62 (Z 0) fun v63 =>
 gP v63 .false (pFieldAddr 1 v8) h2 fun v65 h3 =>
 gP v63 .false (pFieldAddr 0 v65) h3 fun v66 h4 =>
 gP v63 .false (pLoad1 I v66 h4) h4 fun v67 h5 =>
 gP v63 .false (pBin .neq v67 (Z 0)) h5 fun v68 h6 =>
 kP v63 bT v68 fun v69 =>
 sCond v69 (
 j.2.2.2.2 h6) (
 some (v3, h6))))))))))
def f118.b5 : Lb J118 A4 := fun I call j v1 v3 v30 v31 h =>
 kB .lss v31 v30 fun v32 =>
 sCond v32 (
 j.2.1.1 v1 v3 h) (
 j.2.2.1 v1 v3 v30 v31 h)
def f118.b6 : Lb J118 A4 := fun I call j v1 v3 v30 v31 h =>
 kL I v1 h fun v34 =>
 kC call 193 [v34, Z 4, v31, (.func (.func 201) [] [v1]), (.func (.func 203) [] [v1])] h fun v38 h1 =>
 bndP (pEq P .true .iface .true v38 .nili h1) fun v40 =>
 sCond v40 (
 j.2.2.2.1 v1 v3 v30 v31 h1) (
 some (v38, h1))
def f118.b7 : Lb J118 A4 := fun I call j v1 v3 v30 v31 h =>
 kB .add v31 (Z 1) fun v42 =>
 j.2.1.2 v1 v3 v30 v42 h
def f118.b8 : Lb J118 A0 := fun I call j h =>
 some (.nili, h)
def f118.e : Lb J118 A1 := fun I call j v0 h =>
 bnd (sBox v0 h) fun v1 h1 =>
 kC call 67 [] h1 fun v9 h2 =>
 kC call 68 [Z 4, v9, .nili] h2 fun v10 h3 =>
 kL I v1 h3 fun v11 =>
 kN v11 fun v12 =>
 kF 4 v12 fun v13 =>
 kL I v13 h3 fun v14 =>
 kZ v14 fun v15 =>
 j.1.1.2 v1 v10 v14 v15 (Z 0) h3
def f118.T : Lb J118 J118 := fun I call j => (((f118.b0 I call j, f118.b1 I call j), (f118.b2 I call j, f118.b3 I call j)), ((f118.b4 I call j, f118.b5 I call j), (f118.b6 I call j, (f118.b7 I call j, f118.b8 I call j))))
def f118.r : Inp → SF := runL f118.T f118.e
theorem f118.k : FOk P 118 f118.r := .of 9 ((([1, 3], [1, 3, 14, 15, 16]), ([1, 3, 14, 15, 16], [1, 3, 14, 15, 16])), (([1, 3], [1, 3, 30, 31]), ([1, 3, 30, 31], ([1, 3, 30, 31], []))))
abbrev J119 := ((A0 × (A3 × A3)) × ((A3 × A7) × (A7 × A7)))
def f119.b0 : Lb J119 A0 := fun I call j h =>
 some (.nili, h)
def f119.b1 : Lb J119 A3 := fun I call j v0 v10 v11 h =>
 kB .lss v11 v10 fun v12 =>
 sCond v12 (
 j.1.1 h) (
 j.1.2.2 v0 v10 v11 h)
def f119.b2 : Lb J119 A3 := fun I call j v0 v10 v11 h =>
 kC call 205 [v0, v11] h fun v16 h1 =>
 bnd (sBuildSlice [Z 0] 1 [(0, 1, Z 0)] h1) fun v17 h2 =>
 kC call 159 [v16, v17] h2 fun v18 h3 =>
 kN v0 fun v20 =>
 kF 4 v20 fun v21 =>
 kL I v21 h3 fun v22 =>
 kI 3 v22 v11 fun v24 =>
 kF 2 v24 fun v25 =>
 kL I v25 h3 fun v26 =>
 kZ v26 fun v27 =>
 j.2.1.2 v0 v11 v18 v10 v11 v27 (Z 0) h3
def f119.b3 : Lb J119 A3 := fun I call j v0 v10 v11 h =>
 kB .add v11 (Z 1) fun v40 =>
 j.1.2.1 v0 v10 v40 h
def f119.b4 : Lb J119 A7 := fun I call j v0 v3 v4 v10 v11 v27 v28 h =>
 kB .lss v28 v27 fun v29 =>
 sCond v29 (
 j.2.1.1 v0 v10 v11 h) (
 j.2.2.1 v0 v3 v4 v10 v11 v27 v28 h)
def f119.b5 : Lb J119 A7 := fun I call j v0 v3 v4 v10 v11 v27 v28 h =>
 kC call 101 [v4, v28] h fun v33 h1 =>
 kU .not v33 fun v34 =>
 sCond v34 (
 j.2.2.2 v0 v3 v4 v10 v11 v27 v28 h1) (
 bndP (pBuild [Z 0, Z 0, Z 0] [(0, 1, v3), (1, 1, v28)]) fun v37 =>
 kC call 68 [Z 6, v37, .nili] h1 fun v38 h2 =>
 some (v38, h2))
def f119.b6 : Lb J119 A7 := fun I call j v0 v3 v4 v10 v11 v27 v28 h =>
 kB .add v28 (Z 1) fun v39 =>
 j.2.1.2 v0 v3 v4 v10 v11 v27 v39 h
def f119.e : Lb J119 A1 := fun I call j v0 h =>
 kN v0 fun v7 =>
 kF 4 v7 fun v8 =>
 kL I v8 h fun v9 =>
 kZ v9 fun v10 =>
 j.1.2.1 v0 v10 (Z 0) h
def f119.T : Lb J119 J119 := fun I call j => ((f119.b0 I call j, (f119.b1 I call j, f119.b2 I call j)), ((f119.b3 I call j, f119.b4 I call j), (f119.b5 I call j, f119.b6 I call j)))
def f119.r : Inp → SF := runL f119.T f119.e
theorem f119.k : FOk P 119 f119.r := .of 7 (([], ([0, 10, 11], [0, 10, 11])), (([0, 10, 11], [0, 3, 4, 10, 11, 27, 28]), ([0, 3, 4, 10, 11, 27, 28], [0, 3, 4, 10, 11, 27, 28])))
abbrev J120 := (((A0 × (A4 × A4)) × (A4 × ((AVal → A9) × (AVal → A9)))) × (((AVal → A9) × ((AVal → AVal → AVal → A9) × (AVal → AVal → AVal → A9))) × (((AVal → AVal → AVal → AVal → AVal → AVal → A9) × (AVal → AVal → AVal → AVal → AVal → AVal → A9)) × ((AVal → AVal → AVal → AVal → AVal → AVal → A9) × (AVal → AVal → AVal → AVal → AVal → AVal → AVal → A9)))))
def f120.b0 : Lb J120 A0 := fun I call j h =>
 some (.nili, h)
def f120.b1 : Lb J120 A4 := fun I call j v0 v15 v16 v17 h =>
 kB .lss v17 v16 fun v18 =>
 sCond v18 (
 j.1.1.1 h) (
 j.1.1.2.2 v0 v15 v16 v17 h)
def f120.b2 : Lb J120 A4 := fun I call j v0 v15 v16 v17 h =>
 kI 3 v15 v17 fun v20 =>
 kM I 3 v20 h fun v21 =>
 kA [Z 0, .nils, .nils] h fun v4 h1 =>
 kS 3 v4 v21 h1 fun _ h2 =>
 kC call 205 [v0, v17] h2 fun v24 h3 =>
 bnd (sBuildSlice [Z 0] 1 [(0, 1, Z 0)] h3) fun v25 h4 =>
 kC call 159 [v24, v25] h4 fun v26 h5 =>
 kC call 206 [v0, v17] h5 fun v29 h6 =>
 kZ v29 fun v30 =>
 j.1.2.2.1 v0 v17 v4 v26 v15 v16 v17 v29 v30 (Z 0) h6
def f120.b3 : Lb J120 A4 := fun I call j v0 v15 v16 v17 h =>
 kB .add v17 (Z 1) fun v95 =>
 j.1.1.2.1 v0 v15 v16 v95 h
def f120.b4 : Lb J120 (AVal → A9) := fun I call j v0 v3 v4 v5 v15 v16 v17 v29 v30 v31 h =>
 kB .lss v31 v30 fun v32 =>
 sCond v32 (
 j.1.2.1 v0 v15 v16 v17 h) (
 j.1.2.2.2 v0 v3 v4 v5 v15 v16 v17 v29 v30 v31 h)
def f120.b5 : Lb J120 (AVal → A9) := fun I call j v0 v3 v4 v5 v15 v16 v17 v29 v30 v31 h =>
 kI 1 v29 v31 fun v34 =>
 kL I v34 h fun v35 =>
 kC call 101 [v5, v31] h fun v38 h1 =>
 kU .not v38 fun v39 =>
 sCond v39 (
 j.2.1.2.1 v0 v3 v4 v5 v31 v35 v15 v16 v17 v29 v30 v31 h1) (
 j.2.1.1 v0 v3 v4 v5 v15 v16 v17 v29 v30 v31 h1)
def f120.b6 : Lb J120 (AVal → A9) := fun I call j v0 v3 v4 v5 v15 v16 v17 v29 v30 v31 h =>
 kB .add v31 (Z 1) fun v94 =>
 j.1.2.2.1 v0 v3 v4 v5 v15 v16 v17 v29 v30 v94 h
def f120.b7 : Lb J120 (AVal → AVal → AVal → A9) := fun I call j v0 v3 v4 v5 v6 v7 v15 v16 v17 v29 v30 v31 h =>
 kF 2 v4 fun v40 =>
 kL I v40 h fun v41 =>
 kI 5 v41 v6 fun v43 =>
 kF 0 v43 fun v44 =>
 kL I v44 h fun v45 =>
 kZ v45 fun v46 =>
 j.2.2.1.1 v0 v3 v4 v5 v6 v7 v15 v16 v17 v29 v30 v31 v45 v46 (Z 0) h
def f120.b8 : Lb J120 (AVal → AVal → AVal → A9) := fun I call j v0 v3 v4 v5 v6 v7 v15 v16 v17 v29 v30 v31 h =>
 kF 2 v4 fun v73 =>
 kL I v73 h fun v74 =>
 kI 5 v74 v6 fun v76 =>
 kM I 5 v76 h fun v77 =>
 kC call 210 [v77] h fun v78 h1 =>
 kC call 207 [v78] h1 fun v79 h2 =>
 kC call 208 [v79, v7] h2 fun v81 h3 =>
 kU .not v81 fun v82 =>
 sCond v82 (
 j.2.1.1 v0 v3 v4 v5 v15 v16 v17 v29 v30 v31 h3) (
 kF 2 v4 fun v85 =>
 kL I v85 h3 fun v86 =>
 kI 5 v86 v6 fun v88 =>
 kF 0 v88 fun v89 =>
 kL I v89 h3 fun v90 =>
 kZ v90 fun v91 =>
 bndP (pBuild [Z 0, Z 0, Z 0] [(0, 1, v3), (1, 1, v6), (2, 1, v91)]) fun v92 =>
 kC call 68 [Z 5, v92, .nili] h3 fun v93 h4 =>
 some (v93, h4))
def f120.b9 : Lb J120 (AVal → AVal → AVal → AVal → AVal → AVal → A9) := fun I call j v0 v3 v4 v5 v6 v7 v15 v16 v17 v29 v30 v31 v45 v46 v47 h =>
 kB .lss v47 v46 fun v48 =>
 sCond v48 (
 j.2.1.2.2 v0 v3 v4 v5 v6 v7 v15 v16 v17 v29 v30 v31 h) (
 j.2.2.1.2 v0 v3 v4 v5 v6 v7 v15 v16 v17 v29 v30 v31 v45 v46 v47 h)
def f120.b10 : Lb J120 (AVal → AVal → AVal → AVal → AVal → AVal → A9) := fun I call j v0 v3 v4 v5 v6 v7 v15 v16 v17 v29 v30 v31 v45 v46 v47 h =>
 kI 6 v45 v47 fun v50 =>
 kM I 6 v50 h fun v51 =>
 kA [Z 0, Z 0, Z 0, Z 0, Z 0, .nils] h fun v9 h1 =>
 kS 6 v9 v51 h1 fun _ h2 =>
 kM I 6 v9 h2 fun v52 =>
 kC call 142 [v52] h2 fun v53 h3 =>
 kC call 207 [v53] h3 fun v54 h4 =>
 kC call 208 [v54, v7] h4 fun v56 h5 =>
 kU .not v56 fun v57 =>
 sCond v57 (
 j.2.2.2.2 v0 v3 v4 v5 v6 v7 v9 v15 v16 v17 v29 v30 v31 v45 v46 v47 h5) (
 bndP (pBuild [Z 0, Z 0, Z 0] [(0, 1, v3), (1, 1, v6), (2, 1, v47)]) fun v61 =>
 kC call 68 [Z 5, v61, .nili] h5 fun v62 h6 =>
 some (v62, h6))
def f120.b11 : Lb J120 (AVal → AVal → AVal → AVal → AVal → AVal → A9) := fun I call j v0 v3 v4 v5 v6 v7 v15 v16 v17 v29 v30 v31 v45 v46 v47 h =>
 kB .add v47 (Z 1) fun v72 =>
 j.2.2.1.1 v0 v3 v4 v5 v6 v7 v15 v16 v17 v29 v30 v31 v45 v46 v72 h
def f120.b12 : Lb J120 (AVal → AVal → AVal → AVal → AVal → AVal → AVal → A9) := fun I call j v0 v3 v4 v5 v6 v7 v9 v15 v16 v17 v29 v30 v31 v45 v46 v47 h =>
 kM I 6 v9 h fun v64 =>
 kC call 209 [v64] h fun v65 h1 =>
 kX v65 0 fun v66 =>
 kX v65 1 fun v67 =>
 sCond v67 (
 j.2.2.2.1 v0 v3 v4 v5 v6 v7 v15 v16 v17 v29 v30 v31 v45 v46 v47 h1) (
 kC call 124 [v7, v66] h1 fun v71 h2 =>
 j.2.2.2.1 v0 v3 v4 v5 v6 v7 v15 v16 v17 v29 v30 v31 v45 v46 v47 h2)
def f120.e : Lb J120 A1 := fun I call j v0 h =>
 kN v0 fun v13 =>
 kF 4 v13 fun v14 =>
 kL I v14 h fun v15 =>
 kZ v15 fun v16 =>
 j.1.1.2.1 v0 v15 v16 (Z 0) h
def f120.T : Lb J120 J120 := fun I call j => (((f120.b0 I call j, (f120.b1 I call j, f120.b2 I call j)), (f120.b3 I call j, (f120.b4 I call j, f120.b5 I call j))), ((f120.b6 I call j, (f120.b7 I call j, f120.b8 I call j)), ((f120.b9 I call j, f120.b10 I call j), (f120.b11 I call j, f120.b12 I call j))))
def f120.r : Inp → SF := runL f120.T f120.e
theorem f120.k : FOk P 120 f120.r := .of 13 ((([], ([0, 15, 16, 17], [0, 15, 16, 17])), ([0, 15, 16, 17], ([0, 3, 4, 5, 15, 16, 17, 29, 30, 31], [0, 3, 4, 5, 15, 16, 17, 29, 30, 31]))), (([0, 3, 4, 5, 15, 16, 17, 29, 30, 31], ([0, 3, 4, 5, 6, 7, 15, 16, 17, 29, 30, 31], [0, 3, 4, 5, 6, 7, 15, 16, 17, 29, 30, 31])), (([0, 3, 4, 5, 6, 7, 15, 16, 17, 29, 30, 31, 45, 46, 47], [0, 3, 4, 5, 6, 7, 15, 16, 17, 29, 30, 31, 45, 46, 47]), ([0, 3, 4, 5, 6, 7, 15, 16, 17, 29, 30, 31, 45, 46, 47], [0, 3, 4, 5, 6, 7, 9, 15, 16, 17, 29, 30, 31, 45, 46, 47]))))
abbrev J121 := A1
def f121.b0 : Lb J121 A1 := fun I call j v3 h =>
 kL I v3 h fun v8 =>
 some (v8, h)
def f121.e : Lb J121 A1 := fun I call j v0 h =>
 kA [.nilp] h fun v3 h1 =>
 kC call 211 [v0, (.iface 309 v3)] h1 fun v6 h2 =>
 kU .not v6 fun v7 =>
 sCond v7 (
 j v3 h2) (
 some (.nilp, h2))
def f121.T : Lb J121 J121 := fun I call j => f121.b0 I call j
def f121.r : Inp → SF := runL f121.T f121.e
theorem f121.k : FOk P 121 f121.r := .of 1 [3]
abbrev J122 := ((A1 × A4) × (A4 × A4))
def f122.b0 : Lb J122 A1 := fun I call j v5 h =>
 some (v5, h)
def f122.b1 : Lb J122 A4 := fun I call j v0 v5 v7 v8 h =>
 kB .lss v8 v7 fun v9 =>
 sCond v9 (
 j.1.1 v5 h) (
 j.2.1 v0 v5 v7 v8 h)
def f122.b2 : Lb J122 A4 := fun I call j v0 v5 v7 v8 h =>
 kN v0 fun v12 =>
 kF 5 v12 fun v13 =>
 kL I v13 h fun v14 =>
 bnd (sBuildSlice [Z 0] 1 [(0, 1, v14)] h) fun v15 h1 =>
 bnd (sAppend I 1 8 v5 v15 h1) fun v16 h2 =>
 kN v0 fun v18 =>
 kF 5 v18 fun v19 =>
 kL I v19 h2 fun v20 =>
 kB .add v20 (Z 1) fun v21 =>
 kN v0 fun v22 =>
 kF 5 v22 fun v23 =>
 kS 1 v23 v21 h2 fun _ h3 =>
 j.2.2 v0 v16 v7 v8 h3
def f122.b3 : Lb J122 A4 := fun I call j v0 v5 v7 v8 h =>
 kB .add v8 (Z 1) fun v24 =>
 j.1.2 v0 v5 v7 v24 h
def f122.e : Lb J122 A2 := fun I call j v0 v1 h =>
 bnd (sBuildSlice [Z 0] 0 [] h) fun v6 h1 =>
 j.1.2 v0 v6 v1 (Z 0) h1
def f122.T : Lb J122 J122 := fun I call j => ((f122.b0 I call j, f122.b1 I call j), (f122.b2 I call j, f122.b3 I call j))
def f122.r : Inp → SF := runL f122.T f122.e
theorem f122.k : FOk P 122 f122.r := .of 4 (([5], [0, 5, 7, 8]), ([0, 5, 7, 8], [0, 5, 7, 8]))
abbrev J123 := A1
def f123.b0 : Lb J123 A1 := fun I call j v0 h =>
 bnd (sBuildSlice [Z 0] 0 [] h) fun v5 h1 =>
 bnd (sAppend I 1 8 v5 v0 h1) fun v7 h2 =>
 some (v7, h2)
def f123.e : Lb J123 A1 := fun I call j v0 h =>
 bndP (pEq P .false .slice .true v0 .nils h) fun v4 =>
 sCond v4 (
 j v0 h) (
 some (.nils, h))
def f123.T : Lb J123 J123 := fun I call j => f123.b0 I call j
def f123.r : Inp → SF := runL f123.T f123.e
theorem f123.k : FOk P 123 f123.r := .of 1 [0]
abbrev J124 := ((A2 × A2) × (A2 × A2))
def f124.b0 : Lb J124 A2 := fun I call j v0 v1 h =>
 j.2.1 v0 v1 h
def f124.b1 : Lb J124 A2 := fun I call j v0 v1 h =>
 kN v0 fun v38 =>
 kF 0 v38 fun v39 =>
 kL I v39 h fun v40 =>
 kB .quo v1 (Z 64) fun v42 =>
 kI 1 v40 v42 fun v43 =>
 kL I v43 h fun v44 =>
 kB .rem v1 (Z 64) fun v46 =>
 kB .shl (.int .u64 (.ofNat 1)) v46 fun v47 =>
 kB .or v44 v47 fun v48 =>
 kI 1 v40 v42 fun v49 =>
 kS 1 v49 v48 h fun _ h1 =>
 some (bT, h1)
def f124.b2 : Lb J124 A2 := fun I call j v0 v1 h =>
 kN v0 fun v21 =>
 kF 0 v21 fun v22 =>
 kL I v22 h fun v23 =>
 kZ v23 fun v24 =>
 kB .quo v1 (Z 64) fun v26 =>
 kB .leq v24 v26 fun v27 =>
 sCond v27 (
 j.1.2 v0 v1 h) (
 j.2.2 v0 v1 h)
def f124.b3 : Lb J124 A2 := fun I call j v0 v1 h =>
 kN v0 fun v30 =>
 kF 0 v30 fun v31 =>
 kL I v31 h fun v32 =>
 bnd (sBuildSlice [(.int .u64 (.ofNat 0))] 1 [(0, 1, (.int .u64 (.ofNat 0)))] h) fun v33 h1 =>
 bnd (sAppend I 1 8 v32 v33 h1) fun v34 h2 =>
 kN v0 fun v35 =>
 kF 0 v35 fun v36 =>
 kS 1 v36 v34 h2 fun _ h3 =>
 j.2.1 v0 v1 h3
def f124.e : Lb J124 A2 := fun I call j v0 v1 h =>
 bndP (pEq P .false .ptr .true v0 .nilp h) fun v6 =>
 gV v6 .false v1 h fun v8 h1 =>
 gP v6 .false (pBin .lss v8 (Z 0)) h1 fun v9 h2 =>
 kP v6 bT v9 fun v10 =>
 gV v10 .false v1 h2 fun v12 h3 =>
 gP v10 .false (pBin .geq v12 (Z 5000)) h3 fun v13 h4 =>
 kP v10 bT v13 fun v14 =>
 gV v14 .false v0 h4 fun v16 h5 =>
 gV v14 .false v1 h5 fun v17 h6 =>
 gS v14 .false (call 101 [v16, v17] h6) h6 fun v18 h7 =>
 kP v14 bT v18 fun v19 =>
 sCond v19 (
 j.1.1 v0 v1 h7) (
 some (bF, h7))
def f124.T : Lb J124 J124 := fun I call j => ((f124.b0 I call j, f124.b1 I call j), (f124.b2 I call j, f124.b3 I call j))
def f124.r : Inp → SF := runL f124.T f124.e
theorem f124.k : FOk P 124 f124.r := .of 4 (([0, 1], [0, 1]), ([0, 1], [0, 1]))
abbrev J125 := ((A3 × (A1 × A6)) × (A6 × (A6 × A7)))
def f125.b0 : Lb J125 A3 := fun I call j v0 v1 v5 h =>
 kC call 81 [v0] h fun v35 h1 =>
 kZ v35 fun v36 =>
 j.1.2.2 v0 v1 v5 v35 v36 (Z 0) h1
def f125.b1 : Lb J125 A1 := fun I call j v5 h =>
 kN v5 fun v100 =>
 kF 2 v100 fun v101 =>
 kL I v101 h fun v102 =>
 some (v102, h)
def f125.b2 : Lb J125 A6 := fun I call j v0 v1 v5 v35 v36 v37 h =>
 kB .lss v37 v36 fun v38 =>
 sCond v38 (
 j.1.2.1 v5 h) (
 j.2.1 v0 v1 v5 v35 v36 v37 h)
def f125.b3 : Lb J125 A6 := fun I call j v0 v1 v5 v35 v36 v37 h =>
 kI 3 v35 v37 fun v40 =>
 kM I 3 v40 h fun v41 =>
 kA [Z 0, Z 0, Z 0] h fun v7 h1 =>
 kS 3 v7 v41 h1 fun _ h2 =>
 kF 0 v7 fun v42 =>
 kL I v42 h2 fun v43 =>
 kB .neq v43 v1 fun v45 =>
 sCond v45 (
 j.2.2.2 v0 v1 v5 v37 v35 v36 v37 h2) (
 j.2.2.1 v0 v1 v5 v35 v36 v37 h2)
def f125.b4 : Lb J125 A6 := fun I call j v0 v1 v5 v35 v36 v37 h =>
 kB .add v37 (Z 1) fun v98 =>
 j.1.2.2 v0 v1 v5 v35 v36 v98 h
def f125.b5 : Lb J125 A7 := fun I call j v0 v1 v5 v6 v35 v36 v37 h =>
 kC call 82 [v0, v6] h fun v49 h1 =>
 kX v49 0 fun v50 =>
 kX v49 1 fun v51 =>
 kA [Z 0, Z 0, Z 0, Z 0, Z 0, .nils] h1 fun v8 h2 =>
 kS 6 v8 v50 h2 fun _ h3 =>
 sCond v51 (
 kC call 84 [v0, v6] h3 fun v60 h4 =>
 kN v60 fun v62 =>
 kF 1 v62 fun v63 =>
 kL I v63 h4 fun v64 =>
 kB .eql v64 (Z 3) fun v65 =>
 sCond v65 (
 j.2.2.1 v0 v1 v5 v35 v36 v37 h4) (
 kN v0 fun v68 =>
 kF 4 v68 fun v69 =>
 kL I v69 h4 fun v70 =>
 kI 3 v70 v1 fun v72 =>
 kF 1 v72 fun v73 =>
 kL I v73 h4 fun v74 =>
 kN v60 fun v76 =>
 kF 2 v76 fun v77 =>
 kL I v77 h4 fun v78 =>
 kI 2 v74 v78 fun v79 =>
 kM I 2 v79 h4 fun v80 =>
 kN v5 fun v82 =>
 kF 1 v82 fun v83 =>
 kL I v83 h4 fun v84 =>
 kN v60 fun v87 =>
 kF 2 v87 fun v88 =>
 kL I v88 h4 fun v89 =>
 kC call 214 [v84, v1, v89] h4 fun v90 h5 =>
 kN v5 fun v92 =>
 kF 1 v92 fun v93 =>
 kL I v93 h5 fun v94 =>
 kC call 215 [v94, v1] h5 fun v96 h6 =>
 kC call 213 [v5, v80, v90, v96] h6 fun v97 h7 =>
 sCheck (sSame (lift (pLoad1 I v69 h5) h5) v70 && (sSame (lift (pLoad1 I v69 h6) h6) v70 && true)) (
 sCheck (sSame (lift (pLoad1 I v73 h5) h5) v74 && (sSame (lift (pLoad1 I v73 h6) h6) v74 && true)) (
 sCheck (sSame (lift (pLoad1 I v77 h5) h5) v78 && (sSame (lift (pLoad1 I v77 h6) h6) v78 && true)) (
 sCheck (sSame (lift (pLoadN I 2 v79 h5) h5) v80 && (sSame (lift (pLoadN I 2 v79 h6) h6) v80 && true)) (
 sCheck (sSame (lift (pLoad1 I v93 h4) h4) v94 && true) (
 j.2.2.1 v0 v1 v5 v35 v36 v37 h7))))))) (
 kM I 6 v8 h3 fun v56 =>
 kC call 212 [v5, v1, v6, v56] h3 fun v57 h8 =>
 j.2.2.1 v0 v1 v5 v35 v36 v37 h8)
def f125.e : Lb J125 A2 := fun I call j v0 v1 h =>
 kC call 70 [v0] h fun v13 h1 =>
 bndP (pBuild [.nilp, .nilp, .nils] [(0, 1, v0), (1, 1, v13)]) fun v14 =>
 bnd (sBox v14 h1) fun v15 h2 =>
 kN v15 fun v17 =>
 kF 1 v17 fun v18 =>
 kL I v18 h2 fun v19 =>
 bndP (pEq P .false .ptr .true v19 .nilp h2) fun v20 =>
 gV v20 .false v1 h2 fun v22 h3 =>
 gP v20 .false (pBin .lss v22 (Z 0)) h3 fun v23 h4 =>
 kP v20 bT v23 fun v24 =>
 gV v24 .false v1 h4 fun v26 h5 =>
 gV v24 .false v0 h5 fun v27 h6 =>
 gP v24 .false (pNilCheck v27) h6 fun v28 h7 =>
 gP v24 .false (pFieldAddr 4 v28) h7 fun v29 h8 =>
 gP v24 .false (pLoad1 I v29 h8) h8 fun v30 h9 =>
 gP v24 .false (pLenSl v30) h9 fun v31 h10 =>
 gP v24 .false (pBin .geq v26 v31) h10 fun v32 h11 =>
 kP v24 bT v32 fun v33 =>
 sCond v33 (
 j.1.1 v0 v1 v15 h11) (
 some (.nils, h11))
def f125.T : Lb J125 J125 := fun I call j => ((f125.b0 I call j, (f125.b1 I call j, f125.b2 I call j)), (f125.b3 I call j, (f125.b4 I call j, f125.b5 I call j)))
def f125.r : Inp → SF := runL f125.T f125.e
theorem f125.k : FOk P 125 f125.r := .of 6 (([0, 1, 5], ([5], [0, 1, 5, 35, 36, 37])), ([0, 1, 5, 35, 36, 37], ([0, 1, 5, 35, 36, 37], [0, 1, 5, 6, 35, 36, 37])))
abbrev J126 := ((A2 × A3) × (A5 × (A5 × A5)))
def f126.b0 : Lb J126 A2 := fun I call j v0 v3 h =>
 kF 1 v3 fun v27 =>
 kL I v27 h fun v28 =>
 kF 0 v3 fun v29 =>
 kL I v29 h fun v30 =>
 kB .eql v30 (Z 4) fun v31 =>
 sCond v31 (
 j.1.2 v0 v3 v28 h) (
 kF 2 v3 fun v32 =>
 kL I v32 h fun v33 =>
 j.1.2 v0 v3 v33 h)
def f126.b1 : Lb J126 A3 := fun I call j v0 v3 v4 h =>
 kN v0 fun v35 =>
 kF 2 v35 fun v36 =>
 kL I v36 h fun v37 =>
 kC call 77 [v37, v4] h fun v39 h1 =>
 kN v0 fun v41 =>
 kF 6 v41 fun v42 =>
 kL I v42 h1 fun v43 =>
 kN v0 fun v46 =>
 kF 6 v46 fun v47 =>
 kL I v47 h1 fun v48 =>
 kI 1 v48 v39 fun v50 =>
 kL I v50 h1 fun v51 =>
 kM I 7 v3 h1 fun v52 =>
 bnd (sBuildSlice [Z 0, Z 0, Z 0, Z 0, .nils, Z 0, Z 0] 1 [(0, 7, v52)] h1) fun v53 h2 =>
 bnd (sAppend I 7 72 v51 v53 h2) fun v54 h3 =>
 kI 1 v43 v39 fun v55 =>
 kS 1 v55 v54 h3 fun _ h4 =>
 sCheck (sSame (lift (pLoad1 I v42 h2) h2) v43 && (sSame (lift (pLoad1 I v42 h3) h3) v43 && true)) (
 sCheck (sSame (lift (pLoad1 I v47 h2) h2) v48 && true) (
 sCheck (sSame (lift (pLoad1 I v50 h2) h2) v51 && true) (
 kN v0 fun v57 =>
 kF 4 v57 fun v58 =>
 kL I v58 h4 fun v59 =>
 kI 1 v59 v39 fun v61 =>
 kL I v61 h4 fun v62 =>
 kC call 132 [v62] h4 fun v63 h5 =>
 kZ v63 fun v64 =>
 j.2.1 v0 v3 v63 v64 (Z 0) h5)))
def f126.b2 : Lb J126 A5 := fun I call j v0 v3 v63 v64 v65 h =>
 kB .lss v65 v64 fun v66 =>
 sCond v66 (
 some (.tuple [], h)) (
 j.2.2.1 v0 v3 v63 v64 v65 h)
def f126.b3 : Lb J126 A5 := fun I call j v0 v3 v63 v64 v65 h =>
 kI 1 v63 v65 fun v67 =>
 kL I v67 h fun v68 =>
 kM I 7 v3 h fun v70 =>
 kC call 133 [v0, v70, v68] h fun v72 h1 =>
 j.2.2.2 v0 v3 v63 v64 v65 h1
def f126.b4 : Lb J126 A5 := fun I call j v0 v3 v63 v64 v65 h =>
 kB .add v65 (Z 1) fun v73 =>
 j.2.1 v0 v3 v63 v64 v73 h
def f126.e : Lb J126 A2 := fun I call j v0 v1 h =>
 bnd (sBox v1 h) fun v3 h1 =>
 kF 0 v3 fun v7 =>
 kL I v7 h1 fun v8 =>
 kB .eql v8 (Z 1) fun v10 =>
 sCond v10 (
 kB .eql v8 (Z 2) fun v20 =>
 sCond v20 (
 j.1.1 v0 v3 h1) (
 kF 1 v3 fun v22 =>
 kL I v22 h1 fun v23 =>
 kF 2 v3 fun v24 =>
 kL I v24 h1 fun v25 =>
 kC call 216 [v0, v23, v25] h1 fun v26 h2 =>
 some (.tuple [], h2))) (
 kF 2 v3 fun v12 =>
 kL I v12 h1 fun v13 =>
 kF 1 v3 fun v14 =>
 kL I v14 h1 fun v15 =>
 bnd (sBuildSlice [Z 0] 1 [(0, 1, v15)] h1) fun v16 h3 =>
 kC call 207 [v16] h3 fun v17 h4 =>
 kC call 134 [v0, v13, v17] h4 fun v18 h5 =>
 sCheck (sSame (lift (pLoad1 I v12 h3) h3) v13 && (sSame (lift (pLoad1 I v12 h4) h4) v13 && true)) (
 some (.tuple [], h5)))
def f126.T : Lb J126 J126 := fun I call j => ((f126.b0 I call j, f126.b1 I call j), (f126.b2 I call j, (f126.b3 I call j, f126.b4 I call j)))
def f126.r : Inp → SF := runL f126.T f126.e
theorem f126.k : FOk P 126 f126.r := .of 5 (([0, 3], [0, 3, 4]), ([0, 3, 63, 64, 65], ([0, 3, 63, 64, 65], [0, 3, 63, 64, 65])))
abbrev J127 := ((A4 × A2) × (A5 × (A5 × A5)))
def f127.b0 : Lb J127 A4 := fun I call j v0 v1 v2 v6 h =>
 kN v0 fun v19 =>
 kF 8 v19 fun v20 =>
 kL I v20 h fun v21 =>
 kM I 2 v6 h fun v22 =>
 bnd (mapPutV (.many [.i, .i]) v21 v22 bT h) fun _ h1 =>
 kN v0 fun v24 =>
 kF 0 v24 fun v25 =>
 kL I v25 h1 fun v26 =>
 kC call 217 [v26, v1, v2] h1 fun v29 h2 =>
 kZ v29 fun v30 =>
 j.2.1 v0 v2 v29 v30 (Z 0) h2
def f127.b1 : Lb J127 A2 := fun I call j v0 v2 h =>
 kC call 74 [v0, v2] h fun v41 h1 =>
 some (.tuple [], h1)
def f127.b2 : Lb J127 A5 := fun I call j v0 v2 v29 v30 v31 h =>
 kB .lss v31 v30 fun v32 =>
 sCond v32 (
 j.1.2 v0 v2 h) (
 j.2.2.1 v0 v2 v29 v30 v31 h)
def f127.b3 : Lb J127 A5 := fun I call j v0 v2 v29 v30 v31 h =>
 kI 7 v29 v31 fun v33 =>
 kM I 7 v33 h fun v34 =>
 kA [Z 0, Z 0, Z 0, Z 0, .nils, Z 0, Z 0] h fun v8 h1 =>
 kS 7 v8 v34 h1 fun _ h2 =>
 kM I 7 v8 h2 fun v36 =>
 kC call 126 [v0, v36] h2 fun v37 h3 =>
 j.2.2.2 v0 v2 v29 v30 v31 h3
def f127.b4 : Lb J127 A5 := fun I call j v0 v2 v29 v30 v31 h =>
 kB .add v31 (Z 1) fun v38 =>
 j.2.1 v0 v2 v29 v30 v38 h
def f127.e : Lb J127 A3 := fun I call j v0 v1 v2 h =>
 bndP (pBuild [Z 0, Z 0] [(0, 1, v1), (1, 1, v2)]) fun v11 =>
 kA [Z 0, Z 0] h fun v6 h1 =>
 kS 2 v6 v11 h1 fun _ h2 =>
 kN v0 fun v13 =>
 kF 8 v13 fun v14 =>
 kL I v14 h2 fun v15 =>
 kM I 2 v6 h2 fun v16 =>
 bndP (mapGetV (.many [.i, .i]) bF .false v15 v16 h2) fun v17 =>
 sCond v17 (
 j.1.1 v0 v1 v2 v6 h2) (
 some (.tuple [], h2))
def f127.T : Lb J127 J127 := fun I call j => ((f127.b0 I call j, f127.b1 I call j), (f127.b2 I call j, (f127.b3 I call j, f127.b4 I call j)))
def f127.r : Inp → SF := runL f127.T f127.e
theorem f127.k : FOk P 127 f127.r := .of 5 (([0, 1, 2, 6], [0, 2]), ([0, 2, 29, 30, 31], ([0, 2, 29, 30, 31], [0, 2, 29, 30, 31])))
abbrev J129 := ((A1 × A4) × (A4 × A4))
def f129.b0 : Lb J129 A1 := fun I call j v5 h =>
 some (v5, h)
def f129.b1 : Lb J129 A4 := fun I call j v1 v5 v13 v14 h =>
 kB .lss v14 v13 fun v15 =>
 sCond v15 (
 j.1.1 v5 h) (
 j.2.1 v1 v5 v13 v14 h)
def f129.b2 : Lb J129 A4 := fun I call j v1 v5 v13 v14 h =>
 kN v5 fun v18 =>
 kF 0 v18 fun v19 =>
 kL I v19 h fun v20 =>
 kI 1 v20 v14 fun v22 =>
 kL I v22 h fun v23 =>
 kC call 165 [v1, v14] h fun v26 h1 =>
 kB .andNot v23 v26 fun v27 =>
 kI 1 v20 v14 fun v28 =>
 kS 1 v28 v27 h1 fun _ h2 =>
 sCheck (sSame (lift (pLoad1 I v19 h1) h1) v20 && true) (
 sCheck (sSame (lift (pLoad1 I v22 h1) h1) v23 && true) (
 j.2.2 v1 v5 v13 v14 h2))
def f129.b3 : Lb J129 A4 := fun I call j v1 v5 v13 v14 h =>
 kB .add v14 (Z 1) fun v29 =>
 j.1.2 v1 v5 v13 v29 h
def f129.e : Lb J129 A2 := fun I call j v0 v1 h =>
 kC call 130 [v0] h fun v8 h1 =>
 kN v8 fun v10 =>
 kF 0 v10 fun v11 =>
 kL I v11 h1 fun v12 =>
 kZ v12 fun v13 =>
 j.1.2 v1 v8 v13 (Z 0) h1
def f129.T : Lb J129 J129 := fun I call j => ((f129.b0 I call j, f129.b1 I call j), (f129.b2 I call j, f129.b3 I call j))
def f129.r : Inp → SF := runL f129.T f129.e
theorem f129.k : FOk P 129 f129.r := .of 4 (([5], [1, 5, 13, 14]), ([1, 5, 13, 14], [1, 5, 13, 14]))
def f130.e : Lb Unit A1 := fun I call j v0 h =>
 kC call 219 [v0] h fun v4 h1 =>
 kC call 218 [v4] h1 fun v5 h2 =>
 bndP (pBuild [.nils] [(0, 1, v5)]) fun v6 =>
 bnd (sBox v6 h2) fun v7 h3 =>
 some (v7, h3)
def f130.T : Lb Unit Unit := fun I call j => ()
def f130.r : Inp → SF := runL f130.T f130.e
theorem f130.k : FOk P 130 f130.r := .of 0 ()
abbrev J131 := A1
def f131.b0 : Lb J131 A1 := fun I call j v0 h =>
 bnd (sBuildSlice [Z 0, Z 0, Z 0, Z 0, .nils, Z 0, Z 0] 0 [] h) fun v5 h1 =>
 bnd (sAppend I 7 72 v5 v0 h1) fun v7 h2 =>
 some (v7, h2)
def f131.e : Lb J131 A1 := fun I call j v0 h =>
 bndP (pEq P .false .slice .true v0 .nils h) fun v4 =>
 sCond v4 (
 j v0 h) (
 some (.nils, h))
def f131.T : Lb J131 J131 := fun I call j => f131.b0 I call j
def f131.r : Inp → SF := runL f131.T f131.e
theorem f131.k : FOk P 131 f131.r := .of 1 [0]
abbrev J132 := ((A1 × (A4 × A4)) × ((A4 × A6) × (A6 × A6)))
def f132.b0 : Lb J132 A1 := fun I call j v3 h =>
 some (v3, h)
def f132.b1 : Lb J132 A4 := fun I call j v3 v7 v8 v9 h =>
 kB .lss v9 v8 fun v10 =>
 sCond v10 (
 j.1.1 v3 h) (
 j.1.2.2 v3 v7 v8 v9 h)
def f132.b2 : Lb J132 A4 := fun I call j v3 v7 v8 v9 h =>
 kI 1 v7 v9 fun v12 =>
 kL I v12 h fun v13 =>
 j.2.1.2 v3 v9 v13 v7 v8 v9 h
def f132.b3 : Lb J132 A4 := fun I call j v3 v7 v8 v9 h =>
 kB .add v9 (Z 1) fun v28 =>
 j.1.2.1 v3 v7 v8 v28 h
def f132.b4 : Lb J132 A6 := fun I call j v3 v4 v5 v7 v8 v9 h =>
 kB .gtr v5 (.int .u64 (.ofNat 0)) fun v15 =>
 sCond v15 (
 j.2.1.1 v3 v7 v8 v9 h) (
 j.2.2.1 v3 v4 v5 v7 v8 v9 h)
def f132.b5 : Lb J132 A6 := fun I call j v3 v4 v5 v7 v8 v9 h =>
 kB .mul v4 (Z 64) fun v22 =>
 kC call 220 [v5] h fun v24 h1 =>
 kB .add v22 v24 fun v25 =>
 bnd (sBuildSlice [Z 0] 1 [(0, 1, v25)] h1) fun v26 h2 =>
 bnd (sAppend I 1 8 v3 v26 h2) fun v27 h3 =>
 j.2.2.2 v27 v4 v5 v7 v8 v9 h3
def f132.b6 : Lb J132 A6 := fun I call j v3 v4 v5 v7 v8 v9 h =>
 kB .sub v5 (.int .u64 (.ofNat 1)) fun v18 =>
 kB .and v5 v18 fun v19 =>
 j.2.1.2 v3 v4 v19 v7 v8 v9 h
def f132.e : Lb J132 A1 := fun I call j v0 h =>
 kC call 219 [v0] h fun v7 h1 =>
 kZ v7 fun v8 =>
 j.1.2.1 .nils v7 v8 (Z 0) h1
def f132.T : Lb J132 J132 := fun I call j => ((f132.b0 I call j, (f132.b1 I call j, f132.b2 I call j)), ((f132.b3 I call j, f132.b4 I call j), (f132.b5 I call j, f132.b6 I call j)))
def f132.r : Inp → SF := runL f132.T f132.e
theorem f132.k : FOk P 132 f132.r := .of 7 (([3], ([3, 7, 8, 9], [3, 7, 8, 9])), (([3, 7, 8, 9], [3, 4, 5, 7, 8, 9]), ([3, 4, 5, 7, 8, 9], [3, 4, 5, 7, 8, 9])))
def f133.e : Lb Unit A3 := fun I call j v0 v1 v2 h =>
 bnd (sBox v1 h) fun v4 h1 =>
 kN v0 fun v18 =>
 kF 1 v18 fun v19 =>
 kL I v19 h1 fun v20 =>
 kC call 221 [v20, v2] h1 fun v22 h2 =>
 kX v22 0 fun v23 =>
 kX v22 1 fun v24 =>
 kF 0 v4 fun v107 =>
 kL I v107 h2 fun v108 =>
 kB .eql v108 (Z 5) fun v109 =>
 gV v109 .true v24 h2 fun v111 h3 =>
 gP v109 .true (pUn .not v111) h3 fun v112 h4 =>
 kP v109 v112 bF fun v113 =>
 sCond v113 (
 kU .not v24 fun v121 =>
 gP v121 .false (pFieldAddr 0 v4) h4 fun v123 h5 =>
 gP v121 .false (pLoad1 I v123 h5) h5 fun v124 h6 =>
 gP v121 .false (pBin .eql v124 (Z 5)) h6 fun v125 h7 =>
 kP v121 bT v125 fun v126 =>
 sCond v126 (
 kF 0 v4 fun v128 =>
 kL I v128 h7 fun v129 =>
 kB .eql v129 (Z 3) fun v130 =>
 sCond v130 (
 kF 0 v4 fun v148 =>
 kL I v148 h7 fun v149 =>
 kB .eql v149 (Z 4) fun v150 =>
 sCond v150 (
 sKeep 0 h7 fun h8 =>
 kN v0 fun v27 =>
 kF 0 v27 fun v28 =>
 kL I v28 h8 fun v29 =>
 kF 6 v4 fun v30 =>
 kL I v30 h8 fun v31 =>
 kC call 140 [v29, v31] h8 fun v32 h9 =>
 kX v32 0 fun v33 =>
 bnd (sResvAlloc (h7.next + 0) [Z 0, Z 0, Z 0] h9) fun v10 h10 =>
 kS 3 v10 v33 h10 fun _ h11 =>
 kX v32 1 fun v34 =>
 sKeep 0 h11 fun h12 =>
 kN v0 fun v37 =>
 kF 0 v37 fun v38 =>
 kL I v38 h12 fun v39 =>
 kF 6 v4 fun v40 =>
 kL I v40 h12 fun v41 =>
 kC call 82 [v39, v41] h12 fun v42 h13 =>
 kX v42 0 fun v43 =>
 bnd (sResvAlloc (h11.next + 0) [Z 0, Z 0, Z 0, Z 0, Z 0, .nils] h13) fun v12 h14 =>
 kS 6 v12 v43 h14 fun _ h15 =>
 kX v42 1 fun v44 =>
 kN v0 fun v46 =>
 kF 0 v46 fun v47 =>
 kL I v47 h15 fun v48 =>
 kN v0 fun v50 =>
 kF 1 v50 fun v51 =>
 kL I v51 h15 fun v52 =>
 kC call 223 [v52, v23] h15 fun v54 h16 =>
 kN v0 fun v56 =>
 kF 0 v56 fun v57 =>
 kL I v57 h16 fun v58 =>
 kN v58 fun v59 =>
 kF 4 v59 fun v60 =>
 kL I v60 h16 fun v61 =>
 kF 0 v10 fun v62 =>
 kL I v62 h16 fun v63 =>
 kI 3 v61 v63 fun v64 =>
 kF 1 v64 fun v65 =>
 kL I v65 h16 fun v66 =>
 kF 2 v12 fun v67 =>
 kL I v67 h16 fun v68 =>
 kI 2 v66 v68 fun v69 =>
 kF 1 v69 fun v70 =>
 kL I v70 h16 fun v71 =>
 kC call 198 [v48, v54, v71] h16 fun v72 h17 =>
 sCheck (sSame (lift (pLoad1 I v47 h16) h16) v48 && true) (
 sCheck (sSame (lift (pLoad1 I v57 h15) h15) v58 && true) (
 sCheck (sSame (lift (pLoad1 I v60 h15) h15) v61 && true) (
 sCheck (sSame (lift (pLoad1 I v62 h15) h15) v63 && true) (
 sCheck (sSame (lift (pLoad1 I v65 h15) h15) v66 && true) (
 sCheck (sSame (lift (pLoad1 I v67 h15) h15) v68 && true) (
 sCheck (sSame (lift (pLoad1 I v70 h15) h15) v71 && true) (
 kB .geq v72 (Z 0) fun v74 =>
 sCond v74 (
 some (.tuple [], h17)) (
 kN v0 fun v76 =>
 kF 0 v76 fun v77 =>
 kL I v77 h17 fun v78 =>
 kN v78 fun v79 =>
 kF 3 v79 fun v80 =>
 kL I v80 h17 fun v81 =>
 kI 3 v81 v72 fun v83 =>
 kF 2 v83 fun v84 =>
 kL I v84 h17 fun v85 =>
 kF 3 v4 fun v86 =>
 kL I v86 h17 fun v87 =>
 kI 1 v85 v87 fun v88 =>
 kL I v88 h17 fun v89 =>
 kF 6 v4 fun v91 =>
 kL I v91 h17 fun v92 =>
 kC call 127 [v0, v92, v89] h17 fun v94 h18 =>
 kN v0 fun v97 =>
 kF 1 v97 fun v98 =>
 kL I v98 h18 fun v99 =>
 kC call 214 [v99, v89, Z 0] h18 fun v101 h19 =>
 bnd (sBuildSlice [Z 0] 1 [(0, 1, v2)] h19) fun v103 h20 =>
 kC call 207 [v103] h20 fun v104 h21 =>
 kC call 134 [v0, v101, v104] h21 fun v105 h22 =>
 some (.tuple [], h22)))))))))) (
 kN v0 fun v152 =>
 kF 1 v152 fun v153 =>
 kL I v153 h7 fun v154 =>
 kF 3 v4 fun v156 =>
 kL I v156 h7 fun v157 =>
 bndP (pBuild [Z 0, Z 0] [(0, 1, v23), (1, 1, v157)]) fun v158 =>
 kC call 222 [v154, v158] h7 fun v159 h23 =>
 kB .geq v159 (Z 0) fun v161 =>
 sCond v161 (
 some (.tuple [], h23)) (
 kF 1 v4 fun v163 =>
 kL I v163 h23 fun v164 =>
 kC call 216 [v0, v164, v159] h23 fun v166 h24 =>
 some (.tuple [], h24)))) (
 kN v0 fun v132 =>
 kF 1 v132 fun v133 =>
 kL I v133 h7 fun v134 =>
 kF 3 v4 fun v136 =>
 kL I v136 h7 fun v137 =>
 bndP (pBuild [Z 0, Z 0] [(0, 1, v23), (1, 1, v137)]) fun v138 =>
 kC call 222 [v134, v138] h7 fun v139 h25 =>
 kB .geq v139 (Z 0) fun v141 =>
 sCond v141 (
 some (.tuple [], h25)) (
 kF 2 v4 fun v144 =>
 kL I v144 h25 fun v145 =>
 kC call 216 [v0, v139, v145] h25 fun v146 h26 =>
 some (.tuple [], h26)))) (
 some (.tuple [], h7))) (
 kF 6 v4 fun v115 =>
 kL I v115 h4 fun v116 =>
 kC call 127 [v0, v116, v23] h4 fun v118 h27 =>
 some (.tuple [], h27))
def f133.T : Lb Unit Unit := fun I call j => ()
def f133.r : Inp → SF := runL f133.T f133.e
theorem f133.k : FOk P 133 f133.r := .of 0 ()
def f134.e : Lb Unit A3 := fun I call j v0 v1 v2 h =>
 kN v0 fun v7 =>
 kF 2 v7 fun v8 =>
 kL I v8 h fun v9 =>
 kC call 77 [v9, v1] h fun v11 h1 =>
 kN v0 fun v13 =>
 kF 3 v13 fun v14 =>
 kL I v14 h1 fun v15 =>
 kI 1 v15 v11 fun v17 =>
 kL I v17 h1 fun v18 =>
 kC call 224 [v18, v2] h1 fun v20 h2 =>
 sCond v20 (
 some (.tuple [], h2)) (
 kN v0 fun v22 =>
 kF 9 v22 fun v23 =>
 kL I v23 h2 fun v24 =>
 kC call 225 [v24, v11] h2 fun v26 h3 =>
 some (.tuple [], h3))
def f134.T : Lb Unit Unit := fun I call j => ()
def f134.r : Inp → SF := runL f134.T f134.e
theorem f134.k : FOk P 134 f134.r := .of 0 ()
abbrev J135 := (((A3 × (A4 × A7)) × (A7 × (A7 × A1))) × ((A5 × (A5 × A5)) × (A9 × (A9 × A9))))
def f135.b0 : Lb J135 A3 := fun I call j v0 v1 v5 h =>
 bndP (pBuild [Z 0, .nils] [(0, 1, v5)]) fun v20 =>
 bnd (sBox v20 h) fun v21 h1 =>
 kN v0 fun v23 =>
 kF 4 v23 fun v24 =>
 kL I v24 h1 fun v25 =>
 kI 3 v25 v1 fun v27 =>
 kF 2 v27 fun v28 =>
 kL I v28 h1 fun v29 =>
 kZ v29 fun v30 =>
 j.1.1.2.2 v0 v5 v21 (Z 0) v29 v30 (Z 0) h1
def f135.b1 : Lb J135 A4 := fun I call j v0 v5 v6 v7 h =>
 bnd (sMakeSlice [.nils] 24 v7 v7 h) fun v44 h1 =>
 kN v6 fun v45 =>
 kF 1 v45 fun v46 =>
 kS 1 v46 v44 h1 fun _ h2 =>
 j.2.1.1 v0 v5 v6 v7 (Z 0) h2
def f135.b2 : Lb J135 A7 := fun I call j v0 v5 v6 v7 v29 v30 v31 h =>
 kB .lss v31 v30 fun v32 =>
 sCond v32 (
 j.1.1.2.1 v0 v5 v6 v7 h) (
 j.1.2.1 v0 v5 v6 v7 v29 v30 v31 h)
def f135.b3 : Lb J135 A7 := fun I call j v0 v5 v6 v7 v29 v30 v31 h =>
 kI 5 v29 v31 fun v33 =>
 kM I 5 v33 h fun v34 =>
 kA [.nils, Z 0, Z 0, Z 0, Z 0] h fun v9 h1 =>
 kS 5 v9 v34 h1 fun _ h2 =>
 kF 0 v9 fun v36 =>
 kL I v36 h2 fun v37 =>
 kZ v37 fun v38 =>
 kB .add v38 (Z 1) fun v39 =>
 kB .add v7 v39 fun v40 =>
 j.1.2.2.1 v0 v5 v6 v40 v29 v30 v31 h2
def f135.b4 : Lb J135 A7 := fun I call j v0 v5 v6 v7 v29 v30 v31 h =>
 kB .add v31 (Z 1) fun v41 =>
 j.1.1.2.2 v0 v5 v6 v7 v29 v30 v41 h
def f135.b5 : Lb J135 A1 := fun I call j v6 h =>
 some (v6, h)
def f135.b6 : Lb J135 A5 := fun I call j v0 v5 v6 v47 v48 h =>
 kB .lss v48 v47 fun v49 =>
 sCond v49 (
 j.1.2.2.2 v6 h) (
 j.2.1.2.1 v0 v5 v6 v47 v48 h)
def f135.b7 : Lb J135 A5 := fun I call j v0 v5 v6 v47 v48 h =>
 kB .add v5 v48 fun v54 =>
 kC call 227 [v0, v54] h fun v55 h1 =>
 kZ v55 fun v56 =>
 j.2.2.1 v0 v5 v6 v48 v47 v48 v55 v56 (Z 0) h1
def f135.b8 : Lb J135 A5 := fun I call j v0 v5 v6 v47 v48 h =>
 kB .add v48 (Z 1) fun v84 =>
 j.2.1.1 v0 v5 v6 v47 v84 h
def f135.b9 : Lb J135 A9 := fun I call j v0 v5 v6 v10 v47 v48 v55 v56 v57 h =>
 kB .lss v57 v56 fun v58 =>
 sCond v58 (
 j.2.1.2.2 v0 v5 v6 v47 v48 h) (
 j.2.2.2.1 v0 v5 v6 v10 v47 v48 v55 v56 v57 h)
def f135.b10 : Lb J135 A9 := fun I call j v0 v5 v6 v10 v47 v48 v55 v56 v57 h =>
 kI 1 v55 v57 fun v59 =>
 kL I v59 h fun v60 =>
 kN v6 fun v62 =>
 kF 1 v62 fun v63 =>
 kL I v63 h fun v64 =>
 kB .sub v60 v5 fun v67 =>
 kN v6 fun v69 =>
 kF 1 v69 fun v70 =>
 kL I v70 h fun v71 =>
 kB .sub v60 v5 fun v74 =>
 kI 1 v71 v74 fun v75 =>
 kL I v75 h fun v76 =>
 kB .add v5 v10 fun v79 =>
 bnd (sBuildSlice [Z 0] 1 [(0, 1, v79)] h) fun v80 h1 =>
 bnd (sAppend I 1 8 v76 v80 h1) fun v81 h2 =>
 kI 1 v64 v67 fun v82 =>
 kS 1 v82 v81 h2 fun _ h3 =>
 sCheck (sSame (lift (pLoad1 I v63 h1) h1) v64 && (sSame (lift (pLoad1 I v63 h2) h2) v64 && true)) (
 sCheck (sSame (lift (pLoad1 I v70 h1) h1) v71 && true) (
 sCheck (sSame (lift (pLoad1 I v75 h1) h1) v76 && true) (
 j.2.2.2.2 v0 v5 v6 v10 v47 v48 v55 v56 v57 h3)))
def f135.b11 : Lb J135 A9 := fun I call j v0 v5 v6 v10 v47 v48 v55 v56 v57 h =>
 kB .add v57 (Z 1) fun v83 =>
 j.2.2.1 v0 v5 v6 v10 v47 v48 v55 v56 v83 h
def f135.e : Lb J135 A2 := fun I call j v0 v1 h =>
 bndP (pBuild [Z 0, Z 0, Z 0] [(0, 1, v1)]) fun v15 =>
 kC call 226 [v0, v15] h fun v16 h1 =>
 kB .lss v16 (Z 0) fun v18 =>
 sCond v18 (
 j.1.1.1 v0 v1 v16 h1) (
 some (.nilp, h1))
def f135.T : Lb J135 J135 := fun I call j => (((f135.b0 I call j, (f135.b1 I call j, f135.b2 I call j)), (f135.b3 I call j, (f135.b4 I call j, f135.b5 I call j))), ((f135.b6 I call j, (f135.b7 I call j, f135.b8 I call j)), (f135.b9 I call j, (f135.b10 I call j, f135.b11 I call j))))
def f135.r : Inp → SF := runL f135.T f135.e
theorem f135.k : FOk P 135 f135.r := .of 12 ((([0, 1, 5], ([0, 5, 6, 7], [0, 5, 6, 7, 29, 30, 31])), ([0, 5, 6, 7, 29, 30, 31], ([0, 5, 6, 7, 29, 30, 31], [6]))), (([0, 5, 6, 47, 48], ([0, 5, 6, 47, 48], [0, 5, 6, 47, 48])), ([0, 5, 6, 10, 47, 48, 55, 56, 57], ([0, 5, 6, 10, 47, 48, 55, 56, 57], [0, 5, 6, 10, 47, 48, 55, 56, 57]))))
def f136.e : Lb Unit A3 := fun I call j v0 v1 v2 h =>
 kC call 228 [v0, v1, v2, bF] h fun v10 h1 =>
 some (v10, h1)
def f136.T : Lb Unit Unit := fun I call j => ()
def f136.r : Inp → SF := runL f136.T f136.e
theorem f136.k : FOk P 136 f136.r := .of 0 ()
def f138.e : Lb Unit A3 := fun I call j v0 v1 v2 h =>
 bnd (sBuildSlice [Z 0] 1 [(0, 1, v2)] h) fun v10 h1 =>
 kC call 139 [v0, v1, v10, bT] h1 fun v11 h2 =>
 some (v11, h2)
def f138.T : Lb Unit Unit := fun I call j => ()
def f138.r : Inp → SF := runL f138.T f138.e
theorem f138.k : FOk P 138 f138.r := .of 0 ()
abbrev J139 := ((A1 × A8) × (A8 × A8))
def f139.b0 : Lb J139 A1 := fun I call j v10 h =>
 kC call 236 [v10] h fun v43 h1 =>
 some (v43, h1)
def f139.b1 : Lb J139 A8 := fun I call j v0 v3 v5 v9 v10 v23 v24 v25 h =>
 kB .lss v25 v24 fun v26 =>
 sCond v26 (
 j.1.1 v10 h) (
 j.2.1 v0 v3 v5 v9 v10 v23 v24 v25 h)
def f139.b2 : Lb J139 A8 := fun I call j v0 v3 v5 v9 v10 v23 v24 v25 h =>
 kI 3 v23 v25 fun v28 =>
 kM I 3 v28 h fun v29 =>
 kA [Z 0, Z 0, Z 0] h fun v12 h1 =>
 kS 3 v12 v29 h1 fun _ h2 =>
 kF 0 v12 fun v31 =>
 kL I v31 h2 fun v32 =>
 kC call 101 [v9, v32] h2 fun v33 h3 =>
 sCond v33 (
 j.2.2 v0 v3 v5 v9 v10 v23 v24 v25 h3) (
 kL I v5 h3 fun v36 =>
 kC call 235 [v0, v36, v25, v3] h3 fun v39 h4 =>
 bnd (sAppend I 2 16 v10 v39 h4) fun v40 h5 =>
 j.2.2 v0 v3 v5 v9 v40 v23 v24 v25 h5)
def f139.b3 : Lb J139 A8 := fun I call j v0 v3 v5 v9 v10 v23 v24 v25 h =>
 kB .add v25 (Z 1) fun v41 =>
 j.1.2 v0 v3 v5 v9 v10 v23 v24 v41 h
def f139.e : Lb J139 A4 := fun I call j v0 v1 v2 v3 h =>
 bnd (sBox v1 h) fun v5 h1 =>
 kC call 123 [v2] h1 fun v14 h2 =>
 kC call 232 [v14, (.func (.func 233) [] [v5])] h2 fun v16 h3 =>
 kL I v5 h3 fun v18 =>
 kC call 234 [v0, v18] h3 fun v19 h4 =>
 kC call 159 [v19, v16] h4 fun v21 h5 =>
 kC call 81 [v0] h5 fun v23 h6 =>
 kZ v23 fun v24 =>
 j.1.2 v0 v3 v5 v21 .nils v23 v24 (Z 0) h6
def f139.T : Lb J139 J139 := fun I call j => ((f139.b0 I call j, f139.b1 I call j), (f139.b2 I call j, f139.b3 I call j))
def f139.r : Inp → SF := runL f139.T f139.e
theorem f139.k : FOk P 139 f139.r := .of 4 (([10], [0, 3, 5, 9, 10, 23, 24, 25]), ([0, 3, 5, 9, 10, 23, 24, 25], [0, 3, 5, 9, 10, 23, 24, 25]))
abbrev J140 := (((A3 × A1) × (A5 × A5)) × ((A5 × A8) × (A8 × (A8 × A9))))
def f140.b0 : Lb J140 A3 := fun I call j v0 v1 v4 h =>
 kN v0 fun v17 =>
 kF 4 v17 fun v18 =>
 kL I v18 h fun v19 =>
 kZ v19 fun v20 =>
 j.1.2.1 v0 v1 v4 v20 (Z 0) h
def f140.b1 : Lb J140 A1 := fun I call j v4 h =>
 bndP (pBuild [Z 0, Z 0, Z 0] []) fun v62 =>
 kS 3 v4 v62 h fun _ h1 =>
 sRet (sCons (sResN I 3 v4 h1) (sCons (some bF) (some []))) h1
def f140.b2 : Lb J140 A5 := fun I call j v0 v1 v4 v20 v21 h =>
 kB .lss v21 v20 fun v22 =>
 sCond v22 (
 j.1.1.2 v4 h) (
 j.1.2.2 v0 v1 v4 v20 v21 h)
def f140.b3 : Lb J140 A5 := fun I call j v0 v1 v4 v20 v21 h =>
 kN v0 fun v25 =>
 kF 4 v25 fun v26 =>
 kL I v26 h fun v27 =>
 kI 3 v27 v21 fun v29 =>
 kF 2 v29 fun v30 =>
 kL I v30 h fun v31 =>
 kZ v31 fun v32 =>
 j.2.1.2 v0 v1 v4 v21 v20 v21 v32 (Z 0) h
def f140.b4 : Lb J140 A5 := fun I call j v0 v1 v4 v20 v21 h =>
 kB .add v21 (Z 1) fun v61 =>
 j.1.2.1 v0 v1 v4 v20 v61 h
def f140.b5 : Lb J140 A8 := fun I call j v0 v1 v4 v6 v20 v21 v32 v33 h =>
 kB .lss v33 v32 fun v34 =>
 sCond v34 (
 j.2.1.1 v0 v1 v4 v20 v21 h) (
 j.2.2.1 v0 v1 v4 v6 v20 v21 v32 v33 h)
def f140.b6 : Lb J140 A8 := fun I call j v0 v1 v4 v6 v20 v21 v32 v33 h =>
 kN v0 fun v37 =>
 kF 4 v37 fun v38 =>
 kL I v38 h fun v39 =>
 kI 3 v39 v6 fun v41 =>
 kF 2 v41 fun v42 =>
 kL I v42 h fun v43 =>
 kI 5 v43 v33 fun v45 =>
 kF 0 v45 fun v46 =>
 kL I v46 h fun v47 =>
 kZ v47 fun v48 =>
 kB .add v48 (Z 1) fun v49 =>
 kB .lss v1 v49 fun v52 =>
 sCond v52 (
 j.2.2.2.2 v0 v1 v4 v6 v49 v20 v21 v32 v33 h) (
 bndP (pBuild [Z 0, Z 0, Z 0] [(0, 1, v6), (1, 1, v33), (2, 1, v1)]) fun v56 =>
 kS 3 v4 v56 h fun _ h1 =>
 sRet (sCons (sResN I 3 v4 h1) (sCons (some bT) (some []))) h1)
def f140.b7 : Lb J140 A8 := fun I call j v0 v1 v4 v6 v20 v21 v32 v33 h =>
 kB .add v33 (Z 1) fun v60 =>
 j.2.1.2 v0 v1 v4 v6 v20 v21 v32 v60 h
def f140.b8 : Lb J140 A9 := fun I call j v0 v1 v4 v6 v8 v20 v21 v32 v33 h =>
 kB .sub v1 v8 fun v59 =>
 j.2.2.2.1 v0 v59 v4 v6 v20 v21 v32 v33 h
def f140.e : Lb J140 A2 := fun I call j v0 v1 h =>
 kA [Z 0, Z 0, Z 0] h fun v4 h1 =>
 bndP (pEq P .false .ptr .true v0 .nilp h1) fun v10 =>
 gV v10 .false v1 h1 fun v12 h2 =>
 gP v10 .false (pBin .lss v12 (Z 0)) h2 fun v13 h3 =>
 kP v10 bT v13 fun v14 =>
 sCond v14 (
 j.1.1.1 v0 v1 v4 h3) (
 bndP (pBuild [Z 0, Z 0, Z 0] []) fun v15 =>
 kS 3 v4 v15 h3 fun _ h4 =>
 sRet (sCons (sResN I 3 v4 h4) (sCons (some bF) (some []))) h4)
def f140.T : Lb J140 J140 := fun I call j => (((f140.b0 I call j, f140.b1 I call j), (f140.b2 I call j, f140.b3 I call j)), ((f140.b4 I call j, f140.b5 I call j), (f140.b6 I call j, (f140.b7 I call j, f140.b8 I call j))))
def f140.r : Inp → SF := runL f140.T f140.e
theorem f140.k : FOk P 140 f140.r := .of 9 ((([0, 1, 4], [4]), ([0, 1, 4, 20, 21], [0, 1, 4, 20, 21])), (([0, 1, 4, 20, 21], [0, 1, 4, 6, 20, 21, 32, 33]), ([0, 1, 4, 6, 20, 21, 32, 33], ([0, 1, 4, 6, 20, 21, 32, 33], [0, 1, 4, 6, 8, 20, 21, 32, 33]))))
abbrev J141 := (A2 × A1)
def f141.b0 : Lb J141 A2 := fun I call j v0 v3 h =>
 kN v0 fun v44 =>
 kF 4 v44 fun v45 =>
 kL I v45 h fun v46 =>
 kF 0 v3 fun v47 =>
 kL I v47 h fun v48 =>
 kI 3 v46 v48 fun v49 =>
 kF 2 v49 fun v50 =>
 kL I v50 h fun v51 =>
 kF 1 v3 fun v52 =>
 kL I v52 h fun v53 =>
 kI 5 v51 v53 fun v54 =>
 kF 2 v3 fun v55 =>
 kL I v55 h fun v56 =>
 kB .lss v56 (Z 0) fun v57 =>
 gP v57 .false (pFieldAddr 2 v3) h fun v59 h1 =>
 gP v57 .false (pLoad1 I v59 h1) h1 fun v60 h2 =>
 gV v57 .false v54 h2 fun v61 h3 =>
 gP v57 .false (pNilCheck v61) h3 fun v62 h4 =>
 gP v57 .false (pFieldAddr 0 v62) h4 fun v63 h5 =>
 gP v57 .false (pLoad1 I v63 h5) h5 fun v64 h6 =>
 gP v57 .false (pLenSl v64) h6 fun v65 h7 =>
 gP v57 .false (pBin .gtr v60 v65) h7 fun v66 h8 =>
 kP v57 bT v66 fun v67 =>
 sCond v67 (
 j.2 v54 h8) (
 some (.nilp, h8))
def f141.b1 : Lb J141 A1 := fun I call j v5 h =>
 some (v5, h)
def f141.e : Lb J141 A2 := fun I call j v0 v1 h =>
 bnd (sBox v1 h) fun v3 h1 =>
 bndP (pEq P .false .ptr .true v0 .nilp h1) fun v7 =>
 gP v7 .false (pFieldAddr 0 v3) h1 fun v9 h2 =>
 gP v7 .false (pLoad1 I v9 h2) h2 fun v10 h3 =>
 gP v7 .false (pBin .lss v10 (Z 0)) h3 fun v11 h4 =>
 kP v7 bT v11 fun v12 =>
 gP v12 .false (pFieldAddr 0 v3) h4 fun v14 h5 =>
 gP v12 .false (pLoad1 I v14 h5) h5 fun v15 h6 =>
 gV v12 .false v0 h6 fun v16 h7 =>
 gP v12 .false (pNilCheck v16) h7 fun v17 h8 =>
 gP v12 .false (pFieldAddr 4 v17) h8 fun v18 h9 =>
 gP v12 .false (pLoad1 I v18 h9) h9 fun v19 h10 =>
 gP v12 .false (pLenSl v19) h10 fun v20 h11 =>
 gP v12 .false (pBin .geq v15 v20) h11 fun v21 h12 =>
 kP v12 bT v21 fun v22 =>
 gP v22 .false (pFieldAddr 1 v3) h12 fun v24 h13 =>
 gP v22 .false (pLoad1 I v24 h13) h13 fun v25 h14 =>
 gP v22 .false (pBin .lss v25 (Z 0)) h14 fun v26 h15 =>
 kP v22 bT v26 fun v27 =>
 gP v27 .false (pFieldAddr 1 v3) h15 fun v29 h16 =>
 gP v27 .false (pLoad1 I v29 h16) h16 fun v30 h17 =>
 gV v27 .false v0 h17 fun v31 h18 =>
 gP v27 .false (pNilCheck v31) h18 fun v32 h19 =>
 gP v27 .false (pFieldAddr 4 v32) h19 fun v33 h20 =>
 gP v27 .false (pLoad1 I v33 h20) h20 fun v34 h21 =>
 gP v27 .false (pFieldAddr 0 v3) h21 fun v35 h22 =>
 gP v27 .false (pLoad1 I v35 h22) h22 fun v36 h23 =>
 gP v27 .false (pIndexAddr 3 v34 v36) h23 fun v37 h24 =>
 gP v27 .false (pFieldAddr 2 v37) h24 fun v38 h25 =>
 gP v27 .false (pLoad1 I v38 h25) h25 fun v39 h26 =>
 gP v27 .false (pLenSl v39) h26 fun v40 h27 =>
 gP v27 .false (pBin .geq v30 v40) h27 fun v41 h28 =>
 kP v27 bT v41 fun v42 =>
 sCond v42 (
 j.1 v0 v3 h28) (
 some (.nilp, h28))
def f141.T : Lb J141 J141 := fun I call j => (f141.b0 I call j, f141.b1 I call j)
def f141.r : Inp → SF := runL f141.T f141.e
theorem f141.k : FOk P 141 f141.r := .of 2 ([0, 3], [5])
abbrev J142 := (((A1 × (A2 × A2)) × (A2 × (A2 × A1))) × ((A3 × (A4 × A3)) × (A4 × (A3 × A4))))
def f142.b0 : Lb J142 A1 := fun I call j v3 h =>
 some (v3, h)
def f142.b1 : Lb J142 A2 := fun I call j v1 v3 h =>
 kF 5 v1 fun v38 =>
 kL I v38 h fun v39 =>
 bnd (sAppend I 1 8 v3 v39 h) fun v40 h1 =>
 j.1.1.1 v40 h1
def f142.b2 : Lb J142 A2 := fun I call j v1 v3 h =>
 kF 2 v1 fun v33 =>
 kL I v33 h fun v34 =>
 bnd (sBuildSlice [Z 0] 1 [(0, 1, v34)] h) fun v35 h1 =>
 bnd (sAppend I 1 8 v3 v35 h1) fun v36 h2 =>
 j.1.1.2.1 v1 v36 h2
def f142.b3 : Lb J142 A2 := fun I call j v1 v3 h =>
 kF 2 v1 fun v28 =>
 kL I v28 h fun v29 =>
 bnd (sBuildSlice [Z 0] 1 [(0, 1, v29)] h) fun v30 h1 =>
 bnd (sAppend I 1 8 v3 v30 h1) fun v31 h2 =>
 j.1.1.1 v31 h2
def f142.b4 : Lb J142 A2 := fun I call j v1 v3 h =>
 kF 2 v1 fun v21 =>
 kL I v21 h fun v22 =>
 kF 3 v1 fun v23 =>
 kL I v23 h fun v24 =>
 bnd (sBuildSlice [Z 0] 2 [(0, 1, v22), (1, 1, v24)] h) fun v25 h1 =>
 bnd (sAppend I 1 8 v3 v25 h1) fun v26 h2 =>
 j.1.1.1 v26 h2
def f142.b5 : Lb J142 A1 := fun I call j v3 h =>
 j.1.1.1 v3 h
def f142.b6 : Lb J142 A3 := fun I call j v1 v3 v5 h =>
 kB .eql v5 (Z 6) fun v10 =>
 sCond v10 (
 kB .eql v5 (Z 7) fun v11 =>
 sCond v11 (
 kB .eql v5 (Z 9) fun v12 =>
 sCond v12 (
 kB .eql v5 (Z 11) fun v13 =>
 sCond v13 (
 kB .eql v5 (Z 15) fun v14 =>
 j.2.2.1 v1 v3 v5 v14 h) (
 j.2.2.1 v1 v3 v5 v13 h)) (
 j.2.2.1 v1 v3 v5 v12 h)) (
 j.2.2.1 v1 v3 v5 v11 h)) (
 j.2.2.1 v1 v3 v5 v10 h)
def f142.b7 : Lb J142 A4 := fun I call j v1 v3 v5 v6 h =>
 sCond v6 (
 j.2.1.1 v1 v3 v5 h) (
 j.1.2.2.1 v1 v3 h)
def f142.b8 : Lb J142 A3 := fun I call j v1 v3 v5 h =>
 kB .eql v5 (Z 13) fun v16 =>
 sCond v16 (
 kB .eql v5 (Z 14) fun v17 =>
 j.2.2.2.2 v1 v3 v5 v17 h) (
 j.2.2.2.2 v1 v3 v5 v16 h)
def f142.b9 : Lb J142 A4 := fun I call j v1 v3 v5 v9 h =>
 sCond v9 (
 j.2.1.2.2 v1 v3 v5 h) (
 j.1.2.1 v1 v3 h)
def f142.b10 : Lb J142 A3 := fun I call j v1 v3 v5 h =>
 kB .eql v5 (Z 12) fun v19 =>
 sCond v19 (
 j.1.2.2.2 v3 h) (
 j.1.1.2.1 v1 v3 h)
def f142.b11 : Lb J142 A4 := fun I call j v1 v3 v5 v15 h =>
 sCond v15 (
 j.2.2.2.1 v1 v3 v5 h) (
 j.1.1.2.2 v1 v3 h)
def f142.e : Lb J142 A1 := fun I call j v0 h =>
 bnd (sBox v0 h) fun v1 h1 =>
 kF 0 v1 fun v4 =>
 kL I v4 h1 fun v5 =>
 kB .eql v5 (Z 2) fun v7 =>
 sCond v7 (
 kB .eql v5 (Z 8) fun v8 =>
 j.2.1.2.1 v1 .nils v5 v8 h1) (
 j.2.1.2.1 v1 .nils v5 v7 h1)
def f142.T : Lb J142 J142 := fun I call j => (((f142.b0 I call j, (f142.b1 I call j, f142.b2 I call j)), (f142.b3 I call j, (f142.b4 I call j, f142.b5 I call j))), ((f142.b6 I call j, (f142.b7 I call j, f142.b8 I call j)), (f142.b9 I call j, (f142.b10 I call j, f142.b11 I call j))))
def f142.r : Inp → SF := runL f142.T f142.e
theorem f142.k : FOk P 142 f142.r := .of 12 ((([3], ([1, 3], [1, 3])), ([1, 3], ([1, 3], [3]))), (([1, 3, 5], ([1, 3, 5, 6], [1, 3, 5])), ([1, 3, 5, 9], ([1, 3, 5], [1, 3, 5, 15]))))
abbrev J143 := (A5 × (A5 × A5))
def f143.b0 : Lb J143 A5 := fun I call j v0 v5 v8 v9 v10 h =>
 kB .lss v10 v9 fun v11 =>
 sCond v11 (
 some (.tuple [], h)) (
 j.2.1 v0 v5 v8 v9 v10 h)
def f143.b1 : Lb J143 A5 := fun I call j v0 v5 v8 v9 v10 h =>
 kI 5 v8 v10 fun v12 =>
 kM I 5 v12 h fun v13 =>
 kA [Z 0, Z 0, Z 0, Z 0, Z 0] h fun v7 h1 =>
 kS 5 v7 v13 h1 fun _ h2 =>
 kN v0 fun v15 =>
 kF 3 v15 fun v16 =>
 kL I v16 h2 fun v17 =>
 kN v17 fun v18 =>
 kF 0 v18 fun v19 =>
 kL I v19 h2 fun v20 =>
 kM I 5 v7 h2 fun v21 =>
 kM I 5 v5 h2 fun v23 =>
 bnd (sBuildSlice [Z 0, Z 0, Z 0, Z 0, Z 0] 1 [(0, 5, v23)] h2) fun v24 h3 =>
 bnd (mapEntV (.many [.i, .i, .i, .i, .i]) .nils v20 v21 h3) fun v25 h4 =>
 kX v25 0 fun v22 =>
 bnd (sAppend I 5 40 v22 v24 h4) fun v26 h5 =>
 kX v25 1 fun v27 =>
 bnd (entPutV v20 v27 v26 h5) fun _ h6 =>
 sCheck (sSame (lift (pLoad1 I v16 h3) h3) v17 && true) (
 sCheck (sSame (lift (pLoad1 I v19 h3) h3) v20 && true) (
 sCheck (sSame (lift (pLoadN I 5 v7 h3) h3) v21 && true) (
 j.2.2 v0 v5 v8 v9 v10 h6)))
def f143.b2 : Lb J143 A5 := fun I call j v0 v5 v8 v9 v10 h =>
 kB .add v10 (Z 1) fun v28 =>
 j.1 v0 v5 v8 v9 v28 h
def f143.e : Lb J143 A3 := fun I call j v0 v1 v2 h =>
 bnd (sBox v2 h) fun v5 h1 =>
 kZ v1 fun v9 =>
 j.1 v0 v5 v1 v9 (Z 0) h1
def f143.T : Lb J143 J143 := fun I call j => (f143.b0 I call j, (f143.b1 I call j, f143.b2 I call j))
def f143.r : Inp → SF := runL f143.T f143.e
theorem f143.k : FOk P 143 f143.r := .of 3 ([0, 5, 8, 9, 10], ([0, 5, 8, 9, 10], [0, 5, 8, 9, 10]))
def f144.e : Lb Unit A2 := fun I call j v0 v1 h =>
 kN v0 fun v6 =>
 kF 0 v6 fun v7 =>
 kL I v7 h fun v8 =>
 kN v0 fun v10 =>
 kF 2 v10 fun v11 =>
 kL I v11 h fun v12 =>
 kN v0 fun v14 =>
 kF 6 v14 fun v15 =>
 kL I v15 h fun v16 =>
 kC call 238 [v12, v16] h fun v17 h1 =>
 kN v0 fun v19 =>
 kF 6 v19 fun v20 =>
 kL I v20 h1 fun v21 =>
 kN v0 fun v23 =>
 kF 7 v23 fun v24 =>
 kL I v24 h1 fun v25 =>
 kC call 237 [v8, v17, v21, v25, v1] h1 fun v27 h2 =>
 sCheck (sSame (lift (pLoad1 I v7 h1) h1) v8 && true) (
 sCheck (sSame (lift (pLoad1 I v20 h) h) v21 && true) (
 sCheck (sSame (lift (pLoad1 I v24 h) h) v25 && true) (
 some (v27, h2))))
def f144.T : Lb Unit Unit := fun I call j => ()
def f144.r : Inp → SF := runL f144.T f144.e
theorem f144.k : FOk P 144 f144.r := .of 0 ()
abbrev J145 := ((A2 × (A3 × A1)) × (A6 × (A6 × A6)))
def f145.b0 : Lb J145 A2 := fun I call j v0 v1 h =>
 kN v0 fun v18 =>
 kF 0 v18 fun v19 =>
 kL I v19 h fun v20 =>
 kC call 140 [v20, v1] h fun v22 h1 =>
 kX v22 0 fun v23 =>
 kX v22 1 fun v24 =>
 kA [Z 0, Z 0, Z 0] h1 fun v5 h2 =>
 kS 3 v5 v23 h2 fun _ h3 =>
 kN v0 fun v27 =>
 kF 0 v27 fun v28 =>
 kL I v28 h3 fun v29 =>
 kC call 82 [v29, v1] h3 fun v31 h4 =>
 kX v31 0 fun v32 =>
 kX v31 1 fun v33 =>
 kA [Z 0, Z 0, Z 0, Z 0, Z 0, .nils] h4 fun v7 h5 =>
 kS 6 v7 v32 h5 fun _ h6 =>
 kU .not v33 fun v35 =>
 gP v35 .false (pFieldAddr 0 v7) h6 fun v37 h7 =>
 gP v35 .false (pLoad1 I v37 h7) h7 fun v38 h8 =>
 gP v35 .false (pBin .neq v38 (Z 7)) h8 fun v39 h9 =>
 gV v35 .false v39 h9 fun v40 h10 =>
 gP v40 .true (pFieldAddr 0 v7) h10 fun v41 h11 =>
 gP v40 .true (pLoad1 I v41 h11) h11 fun v42 h12 =>
 gP v40 .true (pBin .neq v42 (Z 8)) h12 fun v43 h13 =>
 gP v35 .false (pPick v40 v43 bF) h13 fun v44 h14 =>
 kP v35 bT v44 fun v45 =>
 gV v45 .false v0 h14 fun v47 h15 =>
 gP v45 .false (pFieldAddr 0 v5) h15 fun v48 h16 =>
 gP v45 .false (pLoad1 I v48 h16) h16 fun v49 h17 =>
 gS v45 .false (call 57 [v47, v49] h17) h17 fun v50 h18 =>
 gP v45 .false (pUn .not v50) h18 fun v51 h19 =>
 kP v45 bT v51 fun v52 =>
 sCond v52 (
 j.1.2.1 v0 v5 v7 h19) (
 some (.nils, h19))
def f145.b1 : Lb J145 A3 := fun I call j v0 v5 v7 h =>
 kN v0 fun v55 =>
 kF 1 v55 fun v56 =>
 kL I v56 h fun v57 =>
 kF 0 v5 fun v58 =>
 kL I v58 h fun v59 =>
 kF 2 v7 fun v60 =>
 kL I v60 h fun v61 =>
 kC call 214 [v57, v59, v61] h fun v62 h1 =>
 kC call 239 [v0, v62] h1 fun v63 h2 =>
 kZ v63 fun v64 =>
 j.2.1 v0 v7 .nils v63 v64 (Z 0) h2
def f145.b2 : Lb J145 A1 := fun I call j v9 h =>
 some (v9, h)
def f145.b3 : Lb J145 A6 := fun I call j v0 v7 v9 v63 v64 v65 h =>
 kB .lss v65 v64 fun v66 =>
 sCond v66 (
 j.1.2.2 v9 h) (
 j.2.2.1 v0 v7 v9 v63 v64 v65 h)
def f145.b4 : Lb J145 A6 := fun I call j v0 v7 v9 v63 v64 v65 h =>
 kI 1 v63 v65 fun v67 =>
 kL I v67 h fun v68 =>
 kN v0 fun v71 =>
 kF 1 v71 fun v72 =>
 kL I v72 h fun v73 =>
 kC call 221 [v73, v68] h fun v75 h1 =>
 kX v75 0 fun v76 =>
 kX v75 1 fun v77 =>
 sCond v77 (
 j.2.2.2 v0 v7 v9 v63 v64 v65 h1) (
 kF 4 v7 fun v81 =>
 kL I v81 h1 fun v82 =>
 bndP (pBuild [Z 0, Z 0] [(0, 1, v76), (1, 1, v82)]) fun v83 =>
 bnd (sBuildSlice [Z 0, Z 0] 1 [(0, 2, v83)] h1) fun v84 h2 =>
 bnd (sAppend I 2 16 v9 v84 h2) fun v85 h3 =>
 j.2.2.2 v0 v7 v85 v63 v64 v65 h3)
def f145.b5 : Lb J145 A6 := fun I call j v0 v7 v9 v63 v64 v65 h =>
 kB .add v65 (Z 1) fun v86 =>
 j.2.1 v0 v7 v9 v63 v64 v86 h
def f145.e : Lb J145 A2 := fun I call j v0 v1 h =>
 bndP (pEq P .false .ptr .true v0 .nilp h) fun v15 =>
 sCond v15 (
 j.1.1 v0 v1 h) (
 some (.nils, h))
def f145.T : Lb J145 J145 := fun I call j => ((f145.b0 I call j, (f145.b1 I call j, f145.b2 I call j)), (f145.b3 I call j, (f145.b4 I call j, f145.b5 I call j)))
def f145.r : Inp → SF := runL f145.T f145.e
theorem f145.k : FOk P 145 f145.r := .of 6 (([0, 1], ([0, 5, 7], [9])), ([0, 7, 9, 63, 64, 65], ([0, 7, 9, 63, 64, 65], [0, 7, 9, 63, 64, 65])))
def f146.e : Lb Unit A2 := fun I call j v0 v1 h =>
 bnd (sBox v1 h) fun v3 h1 =>
 kN v0 fun v6 =>
 kF 2 v6 fun v7 =>
 kL I v7 h1 fun v8 =>
 kN v0 fun v10 =>
 kF 7 v10 fun v11 =>
 kL I v11 h1 fun v12 =>
 kM I 2 v3 h1 fun v13 =>
 kC call 240 [v8, v12, v13] h1 fun v14 h2 =>
 some (v14, h2)
def f146.T : Lb Unit Unit := fun I call j => ()
def f146.r : Inp → SF := runL f146.T f146.e
theorem f146.k : FOk P 146 f146.r := .of 0 ()
abbrev J147 := (A4 × (A4 × A4))
def f147.b0 : Lb J147 A4 := fun I call j v0 v12 v13 v14 h =>
 kB .lss v14 v13 fun v15 =>
 sCond v15 (
 some (.tuple [], h)) (
 j.2.1 v0 v12 v13 v14 h)
def f147.b1 : Lb J147 A4 := fun I call j v0 v12 v13 v14 h =>
 kI 2 v12 v14 fun v16 =>
 kM I 2 v16 h fun v17 =>
 kA [Z 0, Z 0] h fun v3 h1 =>
 kS 2 v3 v17 h1 fun _ h2 =>
 kM I 2 v3 h2 fun v20 =>
 kC call 146 [v0, v20] h2 fun v21 h3 =>
 kN v0 fun v23 =>
 kF 7 v23 fun v24 =>
 kL I v24 h3 fun v25 =>
 kM I 2 v3 h3 fun v26 =>
 bndP (pBuild [Z 0, Z 0, Z 0, Z 0, Z 0] [(0, 1, Z 3), (1, 1, v25), (3, 2, v26)]) fun v27 =>
 kC call 143 [v0, v21, v27] h3 fun v28 h4 =>
 sCheck (sSame (lift (pLoad1 I v24 h2) h2) v25 && true) (
 sCheck (sSame (lift (pLoadN I 2 v3 h2) h2) v26 && true) (
 j.2.2 v0 v12 v13 v14 h4))
def f147.b2 : Lb J147 A4 := fun I call j v0 v12 v13 v14 h =>
 kB .add v14 (Z 1) fun v29 =>
 j.1 v0 v12 v13 v29 h
def f147.e : Lb J147 A1 := fun I call j v0 h =>
 kN v0 fun v5 =>
 kF 2 v5 fun v6 =>
 kL I v6 h fun v7 =>
 kN v0 fun v9 =>
 kF 7 v9 fun v10 =>
 kL I v10 h fun v11 =>
 kC call 241 [v7, v11] h fun v12 h1 =>
 kZ v12 fun v13 =>
 j.1 v0 v12 v13 (Z 0) h1
def f147.T : Lb J147 J147 := fun I call j => (f147.b0 I call j, (f147.b1 I call j, f147.b2 I call j))
def f147.r : Inp → SF := runL f147.T f147.e
theorem f147.k : FOk P 147 f147.r := .of 3 ([0, 12, 13, 14], ([0, 12, 13, 14], [0, 12, 13, 14]))
abbrev J148 := ((A1 × A5) × (A5 × A5))
def f148.b0 : Lb J148 A1 := fun I call j v5 h =>
 some (v5, h)
def f148.b1 : Lb J148 A5 := fun I call j v1 v5 v9 v10 v11 h =>
 kB .lss v11 v10 fun v12 =>
 sCond v12 (
 j.1.1 v5 h) (
 j.2.1 v1 v5 v9 v10 v11 h)
def f148.b2 : Lb J148 A5 := fun I call j v1 v5 v9 v10 v11 h =>
 kI 2 v9 v11 fun v13 =>
 kM I 2 v13 h fun v14 =>
 kA [Z 0, Z 0] h fun v7 h1 =>
 kS 2 v7 v14 h1 fun _ h2 =>
 kF 0 v7 fun v15 =>
 kL I v15 h2 fun v16 =>
 kB .eql v16 v1 fun v18 =>
 sCond v18 (
 j.2.2 v1 v5 v9 v10 v11 h2) (
 kF 1 v7 fun v20 =>
 kL I v20 h2 fun v21 =>
 bnd (sBuildSlice [Z 0] 1 [(0, 1, v21)] h2) fun v22 h3 =>
 bnd (sAppend I 1 8 v5 v22 h3) fun v23 h4 =>
 j.2.2 v1 v23 v9 v10 v11 h4)
def f148.b3 : Lb J148 A5 := fun I call j v1 v5 v9 v10 v11 h =>
 kB .add v11 (Z 1) fun v24 =>
 j.1.2 v1 v5 v9 v10 v24 h
def f148.e : Lb J148 A2 := fun I call j v0 v1 h =>
 kC call 56 [v0] h fun v9 h1 =>
 kZ v9 fun v10 =>
 j.1.2 v1 .nils v9 v10 (Z 0) h1
def f148.T : Lb J148 J148 := fun I call j => ((f148.b0 I call j, f148.b1 I call j), (f148.b2 I call j, f148.b3 I call j))
def f148.r : Inp → SF := runL f148.T f148.e
theorem f148.k : FOk P 148 f148.r := .of 4 (([5], [1, 5, 9, 10, 11]), ([1, 5, 9, 10, 11], [1, 5, 9, 10, 11]))
abbrev J149 := (((A3 × (A2 × A5)) × (A5 × (A5 × A2))) × ((A5 × (A5 × A5)) × (A5 × (A5 × A5))))
def f149.b0 : Lb J149 A3 := fun I call j v0 v2 v6 h =>
 kZ v6 fun v24 =>
 j.1.1.2.2 v0 v2 v6 v24 (Z 0) h
def f149.b1 : Lb J149 A2 := fun I call j v0 v2 h =>
 bndP (pBuild [Z 0, Z 0, Z 0, Z 0, Z 0] [(0, 1, Z 5), (1, 1, v2)]) fun v41 =>
 bnd (sBuildSlice [Z 0, Z 0, Z 0, Z 0, Z 0] 1 [(0, 5, v41)] h) fun v42 h1 =>
 kN v0 fun v44 =>
 kF 7 v44 fun v45 =>
 kL I v45 h1 fun v46 =>
 bndP (pBuild [Z 0, Z 0, Z 0, Z 0, Z 0] [(0, 1, Z 1), (1, 1, v46)]) fun v47 =>
 kC call 143 [v0, v42, v47] h1 fun v48 h2 =>
 kN v0 fun v50 =>
 kF 4 v50 fun v51 =>
 kL I v51 h2 fun v52 =>
 kI 1 v52 v2 fun v54 =>
 kL I v54 h2 fun v55 =>
 kZ v55 fun v56 =>
 j.2.1.1 v0 v2 v55 v56 (Z 0) h2
def f149.b2 : Lb J149 A5 := fun I call j v0 v2 v23 v24 v25 h =>
 kB .lss v25 v24 fun v26 =>
 sCond v26 (
 j.1.1.2.1 v0 v2 h) (
 j.1.2.1 v0 v2 v23 v24 v25 h)
def f149.b3 : Lb J149 A5 := fun I call j v0 v2 v23 v24 v25 h =>
 kI 1 v23 v25 fun v28 =>
 kL I v28 h fun v29 =>
 kC call 144 [v0, v29] h fun v33 h1 =>
 bndP (pBuild [Z 0, Z 0, Z 0, Z 0, Z 0] [(0, 1, Z 2), (1, 1, v2), (2, 1, v25)]) fun v36 =>
 kC call 143 [v0, v33, v36] h1 fun v37 h2 =>
 j.1.2.2.1 v0 v2 v23 v24 v25 h2
def f149.b4 : Lb J149 A5 := fun I call j v0 v2 v23 v24 v25 h =>
 kB .add v25 (Z 1) fun v38 =>
 j.1.1.2.2 v0 v2 v23 v24 v38 h
def f149.b5 : Lb J149 A2 := fun I call j v0 v2 h =>
 kN v0 fun v71 =>
 kF 5 v71 fun v72 =>
 kL I v72 h fun v73 =>
 kI 1 v73 v2 fun v75 =>
 kL I v75 h fun v76 =>
 kZ v76 fun v77 =>
 j.2.2.1 v0 v2 v76 v77 (Z 0) h
def f149.b6 : Lb J149 A5 := fun I call j v0 v2 v55 v56 v57 h =>
 kB .lss v57 v56 fun v58 =>
 sCond v58 (
 j.1.2.2.2 v0 v2 h) (
 j.2.1.2.1 v0 v2 v55 v56 v57 h)
def f149.b7 : Lb J149 A5 := fun I call j v0 v2 v55 v56 v57 h =>
 kI 2 v55 v57 fun v59 =>
 kM I 2 v59 h fun v60 =>
 kA [Z 0, Z 0] h fun v10 h1 =>
 kS 2 v10 v60 h1 fun _ h2 =>
 kM I 2 v10 h2 fun v63 =>
 kC call 146 [v0, v63] h2 fun v64 h3 =>
 kM I 2 v10 h3 fun v66 =>
 bndP (pBuild [Z 0, Z 0, Z 0, Z 0, Z 0] [(0, 1, Z 4), (1, 1, v2), (3, 2, v66)]) fun v67 =>
 kC call 143 [v0, v64, v67] h3 fun v68 h4 =>
 sCheck (sSame (lift (pLoadN I 2 v10 h2) h2) v66 && true) (
 j.2.1.2.2 v0 v2 v55 v56 v57 h4)
def f149.b8 : Lb J149 A5 := fun I call j v0 v2 v55 v56 v57 h =>
 kB .add v57 (Z 1) fun v69 =>
 j.2.1.1 v0 v2 v55 v56 v69 h
def f149.b9 : Lb J149 A5 := fun I call j v0 v2 v76 v77 v78 h =>
 kB .lss v78 v77 fun v79 =>
 sCond v79 (
 some (.tuple [], h)) (
 j.2.2.2.1 v0 v2 v76 v77 v78 h)
def f149.b10 : Lb J149 A5 := fun I call j v0 v2 v76 v77 v78 h =>
 kI 2 v76 v78 fun v80 =>
 kM I 2 v80 h fun v81 =>
 kA [Z 0, Z 0] h fun v12 h1 =>
 kS 2 v12 v81 h1 fun _ h2 =>
 kM I 2 v12 h2 fun v84 =>
 bndP (pBuild [Z 0, Z 0, Z 0, Z 0, Z 0] [(0, 1, Z 6), (1, 1, v2), (3, 2, v84)]) fun v85 =>
 bnd (sBuildSlice [Z 0, Z 0, Z 0, Z 0, Z 0] 1 [(0, 5, v85)] h2) fun v86 h3 =>
 kN v0 fun v88 =>
 kF 7 v88 fun v89 =>
 kL I v89 h3 fun v90 =>
 kM I 2 v12 h3 fun v91 =>
 bndP (pBuild [Z 0, Z 0, Z 0, Z 0, Z 0] [(0, 1, Z 3), (1, 1, v90), (3, 2, v91)]) fun v92 =>
 kC call 143 [v0, v86, v92] h3 fun v93 h4 =>
 sCheck (sSame (lift (pLoad1 I v89 h2) h2) v90 && true) (
 sCheck (sSame (lift (pLoadN I 2 v12 h2) h2) v91 && true) (
 j.2.2.2.2 v0 v2 v76 v77 v78 h4))
def f149.b11 : Lb J149 A5 := fun I call j v0 v2 v76 v77 v78 h =>
 kB .add v78 (Z 1) fun v94 =>
 j.2.2.1 v0 v2 v76 v77 v94 h
def f149.e : Lb J149 A3 := fun I call j v0 v1 v2 h =>
 bnd (sBox v1 h) fun v4 h1 =>
 kF 5 v4 fun v13 =>
 kL I v13 h1 fun v14 =>
 kF 0 v4 fun v15 =>
 kL I v15 h1 fun v16 =>
 kB .eql v16 (Z 14) fun v17 =>
 sCond v17 (
 j.1.1.1 v0 v2 v14 h1) (
 kF 2 v4 fun v18 =>
 kL I v18 h1 fun v19 =>
 bnd (sBuildSlice [Z 0] 1 [(0, 1, v19)] h1) fun v20 h2 =>
 bnd (sAppend I 1 8 v20 v14 h2) fun v22 h3 =>
 j.1.1.1 v0 v2 v22 h3)
def f149.T : Lb J149 J149 := fun I call j => (((f149.b0 I call j, (f149.b1 I call j, f149.b2 I call j)), (f149.b3 I call j, (f149.b4 I call j, f149.b5 I call j))), ((f149.b6 I call j, (f149.b7 I call j, f149.b8 I call j)), (f149.b9 I call j, (f149.b10 I call j, f149.b11 I call j))))
def f149.r : Inp → SF := runL f149.T f149.e
theorem f149.k : FOk P 149 f149.r := .of 12 ((([0, 2, 6], ([0, 2], [0, 2, 23, 24, 25])), ([0, 2, 23, 24, 25], ([0, 2, 23, 24, 25], [0, 2]))), (([0, 2, 55, 56, 57], ([0, 2, 55, 56, 57], [0, 2, 55, 56, 57])), ([0, 2, 76, 77, 78], ([0, 2, 76, 77, 78], [0, 2, 76, 77, 78]))))
abbrev J151 := ((A2 × A1) × (A3 × (A3 × A3)))
def f151.b0 : Lb J151 A2 := fun I call j v0 v1 h =>
 bnd (mapNewV h) fun v9 h1 =>
 bndP (pBuild [.nilm, .nils] [(0, 1, v9)]) fun v10 =>
 bnd (sBox v10 h1) fun v11 h2 =>
 kC call 250 [v11, v1] h2 fun v14 h3 =>
 j.2.1 v0 v11 (Z 0) h3
def f151.b1 : Lb J151 A1 := fun I call j v5 h =>
 kN v5 fun v39 =>
 kF 1 v39 fun v40 =>
 kL I v40 h fun v41 =>
 kC call 86 [v41, (.func (.func 87) [] [])] h fun v42 h1 =>
 kN v5 fun v44 =>
 kF 1 v44 fun v45 =>
 kL I v45 h1 fun v46 =>
 some (v46, h1)
def f151.b2 : Lb J151 A3 := fun I call j v0 v5 v6 h =>
 kN v5 fun v17 =>
 kF 1 v17 fun v18 =>
 kL I v18 h fun v19 =>
 kZ v19 fun v20 =>
 kB .lss v6 v20 fun v21 =>
 sCond v21 (
 j.1.2 v5 h) (
 j.2.2.1 v0 v5 v6 h)
def f151.b3 : Lb J151 A3 := fun I call j v0 v5 v6 h =>
 kN v0 fun v26 =>
 kF 0 v26 fun v27 =>
 kL I v27 h fun v28 =>
 kN v5 fun v30 =>
 kF 1 v30 fun v31 =>
 kL I v31 h fun v32 =>
 kI 5 v32 v6 fun v34 =>
 kM I 5 v34 h fun v35 =>
 bndP (mapGetV (.many [.i, .i, .i, .i, .i]) .nils .false v28 v35 h) fun v36 =>
 kC call 250 [v5, v36] h fun v37 h1 =>
 j.2.2.2 v0 v5 v6 h1
def f151.b4 : Lb J151 A3 := fun I call j v0 v5 v6 h =>
 kB .add v6 (Z 1) fun v23 =>
 j.2.1 v0 v5 v23 h
def f151.e : Lb J151 A2 := fun I call j v0 v1 h =>
 bndP (pEq P .false .ptr .true v0 .nilp h) fun v8 =>
 sCond v8 (
 j.1.1 v0 v1 h) (
 some (.nils, h))
def f151.T : Lb J151 J151 := fun I call j => ((f151.b0 I call j, f151.b1 I call j), (f151.b2 I call j, (f151.b3 I call j, f151.b4 I call j)))
def f151.r : Inp → SF := runL f151.T f151.e
theorem f151.k : FOk P 151 f151.r := .of 5 (([0, 1], [5]), ([0, 5, 6], ([0, 5, 6], [0, 5, 6])))
def f152.e : Lb Unit A2 := fun I call j v0 v1 h =>
 kC call 251 [v0, v1] h fun v7 h1 =>
 kB .geq v7 (Z 0) fun v8 =>
 some (v8, h1)
def f152.T : Lb Unit Unit := fun I call j => ()
def f152.r : Inp → SF := runL f152.T f152.e
theorem f152.k : FOk P 152 f152.r := .of 0 ()
abbrev J153 := A4
def f153.b0 : Lb J153 A4 := fun I call j v0 v1 v2 v7 h =>
 kF 0 v7 fun v37 =>
 kL I v37 h fun v38 =>
 kC call 135 [v0, v38] h fun v39 h1 =>
 kF 0 v7 fun v40 =>
 kL I v40 h1 fun v41 =>
 kC call 237 [v0, v39, v41, v1, v2] h1 fun v44 h2 =>
 sCheck (sSame (lift (pLoad1 I v40 h) h) v41 && true) (
 some (v44, h2))
def f153.e : Lb J153 A3 := fun I call j v0 v1 v2 h =>
 kC call 140 [v0, v1] h fun v12 h1 =>
 kX v12 0 fun v13 =>
 kX v12 1 fun v14 =>
 kA [Z 0, Z 0, Z 0] h1 fun v7 h2 =>
 kS 3 v7 v13 h2 fun _ h3 =>
 kU .not v14 fun v16 =>
 gV v16 .false v2 h3 fun v18 h4 =>
 gP v16 .false (pBin .lss v18 (Z 0)) h4 fun v19 h5 =>
 kP v16 bT v19 fun v20 =>
 gV v20 .false v2 h5 fun v22 h6 =>
 gV v20 .false v0 h6 fun v23 h7 =>
 gP v20 .false (pNilCheck v23) h7 fun v24 h8 =>
 gP v20 .false (pFieldAddr 4 v24) h8 fun v25 h9 =>
 gP v20 .false (pLoad1 I v25 h9) h9 fun v26 h10 =>
 gP v20 .false (pFieldAddr 0 v7) h10 fun v27 h11 =>
 gP v20 .false (pLoad1 I v27 h11) h11 fun v28 h12 =>
 gP v20 .false (pIndexAddr 3 v26 v28) h12 fun v29 h13 =>
 gP v20 .false (pFieldAddr 1 v29) h13 fun v30 h14 =>
 gP v20 .false (pLoad1 I v30 h14) h14 fun v31 h15 =>
 gP v20 .false (pLenSl v31) h15 fun v32 h16 =>
 gP v20 .false (pBin .geq v22 v32) h16 fun v33 h17 =>
 kP v20 bT v33 fun v34 =>
 sCond v34 (
 j v0 v1 v2 v7 h17) (
 some (.nils, h17))
def f153.T : Lb J153 J153 := fun I call j => f153.b0 I call j
def f153.r : Inp → SF := runL f153.T f153.e
theorem f153.k : FOk P 153 f153.r := .of 1 [0, 1, 2, 7]
def f154.e : Lb Unit A2 := fun I call j v0 v1 h =>
 bnd (sBox v0 h) fun v2 h1 =>
 kL I v1 h1 fun v4 =>
 kM I 5 v2 h1 fun v5 =>
 kC call 155 [v4, v5] h1 fun v6 h2 =>
 some (v6, h2)
def f154.T : Lb Unit Unit := fun I call j => ()
def f154.r : Inp → SF := runL f154.T f154.e
theorem f154.k : FOk P 154 f154.r := .of 0 ()
def f155.e : Lb Unit A2 := fun I call j v0 v1 h =>
 bnd (sBox v1 h) fun v3 h1 =>
 kM I 5 v3 h1 fun v9 =>
 kC call 252 [v0, v9, (.func (.func 87) [] [])] h1 fun v10 h2 =>
 kX v10 0 fun v11 =>
 kX v10 1 fun v12 =>
 some (v12, h2)
def f155.T : Lb Unit Unit := fun I call j => ()
def f155.r : Inp → SF := runL f155.T f155.e
theorem f155.k : FOk P 155 f155.r := .of 0 ()
def f156.e : Lb Unit A1 := fun I call j v0 h =>
 kC call 86 [v0, (.func (.func 253) [] [])] h fun v3 h1 =>
 some (.tuple [], h1)
def f156.T : Lb Unit Unit := fun I call j => ()
def f156.r : Inp → SF := runL f156.T f156.e
theorem f156.k : FOk P 156 f156.r := .of 0 ()
abbrev J157 := ((A1 × (A5 × A5)) × ((A5 × A5) × (A5 × A5)))
def f157.b0 : Lb J157 A1 := fun I call j v9 h =>
 kC call 257 [v9] h fun v77 h1 =>
 some (v77, h1)
def f157.b1 : Lb J157 A5 := fun I call j v0 v9 v37 v38 v39 h =>
 kB .lss v39 v38 fun v40 =>
 sCond v40 (
 j.1.1 v9 h) (
 j.1.2.2 v0 v9 v37 v38 v39 h)
def f157.b2 : Lb J157 A5 := fun I call j v0 v9 v37 v38 v39 h =>
 kI 1 v37 v39 fun v41 =>
 kL I v41 h fun v42 =>
 bndP (pBuild [Z 0, Z 0, Z 0] [(0, 1, v42)]) fun v46 =>
 kC call 226 [v0, v46] h fun v47 h1 =>
 bnd (sBuildSlice [Z 0] 1 [(0, 1, v47)] h1) fun v48 h2 =>
 bnd (sAppend I 1 8 v9 v48 h2) fun v49 h3 =>
 j.2.1.1 v0 v49 v37 v38 v39 h3
def f157.b3 : Lb J157 A5 := fun I call j v0 v9 v37 v38 v39 h =>
 kB .add v39 (Z 1) fun v50 =>
 j.1.2.1 v0 v9 v37 v38 v50 h
def f157.b4 : Lb J157 A5 := fun I call j v0 v9 v64 v65 v66 h =>
 kB .lss v66 v65 fun v67 =>
 sCond v67 (
 j.1.1 v9 h) (
 j.2.2.1 v0 v9 v64 v65 v66 h)
def f157.b5 : Lb J157 A5 := fun I call j v0 v9 v64 v65 v66 h =>
 kI 1 v64 v66 fun v68 =>
 kL I v68 h fun v69 =>
 kC call 227 [v0, v69] h fun v73 h1 =>
 bnd (sAppend I 1 8 v9 v73 h1) fun v74 h2 =>
 j.2.2.2 v0 v74 v64 v65 v66 h2
def f157.b6 : Lb J157 A5 := fun I call j v0 v9 v64 v65 v66 h =>
 kB .add v66 (Z 1) fun v75 =>
 j.2.1.2 v0 v9 v64 v65 v75 h
def f157.e : Lb J157 A4 := fun I call j v0 v1 v2 v3 h =>
 bnd (sBox v3 h) fun v7 h1 =>
 kC call 82 [v0, v2] h1 fun v20 h2 =>
 kX v20 0 fun v21 =>
 kX v20 1 fun v22 =>
 kA [Z 0, Z 0, Z 0, Z 0, Z 0, .nils] h2 fun v10 h3 =>
 kS 6 v10 v21 h3 fun _ h4 =>
 kC call 84 [v0, v2] h4 fun v25 h5 =>
 gP v22 .true (pLoadN I 6 v10 h5) h5 fun v32 h6 =>
 gS v22 .true (call 255 [v32] h6) h6 fun v33 h7 =>
 kP v22 v33 bF fun v34 =>
 sCond v34 (
 bndP (pEq P .true .ptr .true v25 .nilp h7) fun v53 =>
 gV v53 .true v25 h7 fun v55 h8 =>
 gP v53 .true (pNilCheck v55) h8 fun v56 h9 =>
 gP v53 .true (pFieldAddr 1 v56) h9 fun v57 h10 =>
 gP v53 .true (pLoad1 I v57 h10) h10 fun v58 h11 =>
 gP v53 .true (pBin .eql v58 (Z 3)) h11 fun v59 h12 =>
 kP v53 v59 bF fun v60 =>
 sCond v60 (
 kC call 227 [v0, v2] h12 fun v28 h13 =>
 j.1.1 v28 h13) (
 kF 0 v7 fun v62 =>
 kL I v62 h12 fun v63 =>
 kC call 256 [v1, v63] h12 fun v64 h14 =>
 kZ v64 fun v65 =>
 j.2.1.2 v0 .nils v64 v65 (Z 0) h14)) (
 kC call 148 [v1, v2] h7 fun v37 h15 =>
 kZ v37 fun v38 =>
 j.1.2.1 v0 .nils v37 v38 (Z 0) h15)
def f157.T : Lb J157 J157 := fun I call j => ((f157.b0 I call j, (f157.b1 I call j, f157.b2 I call j)), ((f157.b3 I call j, f157.b4 I call j), (f157.b5 I call j, f157.b6 I call j)))
def f157.r : Inp → SF := runL f157.T f157.e
theorem f157.k : FOk P 157 f157.r := .of 7 (([9], ([0, 9, 37, 38, 39], [0, 9, 37, 38, 39])), (([0, 9, 37, 38, 39], [0, 9, 64, 65, 66]), ([0, 9, 64, 65, 66], [0, 9, 64, 65, 66])))
abbrev J158 := A3
def f158.b0 : Lb J158 A3 := fun I call j v1 v9 v11 h =>
 kF 0 v9 fun v36 =>
 kL I v36 h fun v37 =>
 kF 2 v11 fun v38 =>
 kL I v38 h fun v39 =>
 kC call 258 [v1, v37, v39] h fun v40 h1 =>
 kC call 259 [v40] h1 fun v42 h2 =>
 some (v40, h2)
def f158.e : Lb J158 A4 := fun I call j v0 v1 v2 v3 h =>
 kC call 140 [v0, v2] h fun v17 h1 =>
 kX v17 0 fun v18 =>
 kX v17 1 fun v19 =>
 kA [Z 0, Z 0, Z 0] h1 fun v9 h2 =>
 kS 3 v9 v18 h2 fun _ h3 =>
 kC call 82 [v0, v2] h3 fun v23 h4 =>
 kX v23 0 fun v24 =>
 kX v23 1 fun v25 =>
 kA [Z 0, Z 0, Z 0, Z 0, Z 0, .nils] h4 fun v11 h5 =>
 kS 6 v11 v24 h5 fun _ h6 =>
 kU .not v25 fun v27 =>
 gV v27 .false v3 h6 fun v29 h7 =>
 gP v27 .false (pFieldAddr 0 v11) h7 fun v30 h8 =>
 gP v27 .false (pLoad1 I v30 h8) h8 fun v31 h9 =>
 gS v27 .false (call 163 [v29, v31] h9) h9 fun v32 h10 =>
 gP v27 .false (pUn .not v32) h10 fun v33 h11 =>
 kP v27 bT v33 fun v34 =>
 sCond v34 (
 j v1 v9 v11 h11) (
 some (.nils, h11))
def f158.T : Lb J158 J158 := fun I call j => f158.b0 I call j
def f158.r : Inp → SF := runL f158.T f158.e
theorem f158.k : FOk P 158 f158.r := .of 1 [1, 9, 11]
abbrev J159 := (((A3 × A4) × (A7 × (A7 × A7))) × ((A1 × (A4 × A4)) × (A7 × (A7 × A7))))
def f159.b0 : Lb J159 A3 := fun I call j v1 v2 v5 h =>
 kA [.nils] h fun v6 h1 =>
 kZ v1 fun v21 =>
 j.1.2.1 v2 v5 v6 (.func (.func 261) [] [v2, v5, v6]) v1 v21 (Z 0) h1
def f159.b1 : Lb J159 A4 := fun I call j v2 v5 v6 v7 h =>
 j.2.1.2.1 v2 v5 v6 v7 h
def f159.b2 : Lb J159 A7 := fun I call j v2 v5 v6 v7 v20 v21 v22 h =>
 kB .lss v22 v21 fun v23 =>
 sCond v23 (
 j.1.1.2 v2 v5 v6 v7 h) (
 j.1.2.2.1 v2 v5 v6 v7 v20 v21 v22 h)
def f159.b3 : Lb J159 A7 := fun I call j v2 v5 v6 v7 v20 v21 v22 h =>
 kI 1 v20 v22 fun v24 =>
 kL I v24 h fun v25 =>
 bnd (sCallv call v7 [v25] h) fun v28 h1 =>
 j.1.2.2.2 v2 v5 v6 v7 v20 v21 v22 h1
def f159.b4 : Lb J159 A7 := fun I call j v2 v5 v6 v7 v20 v21 v22 h =>
 kB .add v22 (Z 1) fun v29 =>
 j.1.2.1 v2 v5 v6 v7 v20 v21 v29 h
def f159.b5 : Lb J159 A1 := fun I call j v5 h =>
 kL I v5 h fun v58 =>
 some (v58, h)
def f159.b6 : Lb J159 A4 := fun I call j v2 v5 v6 v7 h =>
 kL I v6 h fun v30 =>
 kZ v30 fun v31 =>
 kB .gtr v31 (Z 0) fun v32 =>
 sCond v32 (
 j.2.1.1 v5 h) (
 j.2.1.2.2 v2 v5 v6 v7 h)
def f159.b7 : Lb J159 A4 := fun I call j v2 v5 v6 v7 h =>
 kL I v6 h fun v33 =>
 kL I v6 h fun v34 =>
 kZ v34 fun v35 =>
 kB .sub v35 (Z 1) fun v36 =>
 kI 1 v33 v36 fun v37 =>
 kL I v37 h fun v38 =>
 kL I v6 h fun v39 =>
 kL I v6 h fun v40 =>
 kZ v40 fun v41 =>
 kB .sub v41 (Z 1) fun v42 =>
 bndP (pSliceS 1 v39 none (some v42) none) fun v43 =>
 kS 1 v6 v43 h fun _ h1 =>
 kF 1 v2 fun v44 =>
 kL I v44 h1 fun v45 =>
 kI 1 v45 v38 fun v47 =>
 kL I v47 h1 fun v48 =>
 kZ v48 fun v49 =>
 j.2.2.1 v2 v5 v6 v7 v48 v49 (Z 0) h1
def f159.b8 : Lb J159 A7 := fun I call j v2 v5 v6 v7 v48 v49 v50 h =>
 kB .lss v50 v49 fun v51 =>
 sCond v51 (
 j.2.1.2.1 v2 v5 v6 v7 h) (
 j.2.2.2.1 v2 v5 v6 v7 v48 v49 v50 h)
def f159.b9 : Lb J159 A7 := fun I call j v2 v5 v6 v7 v48 v49 v50 h =>
 kI 1 v48 v50 fun v52 =>
 kL I v52 h fun v53 =>
 bnd (sCallv call v7 [v53] h) fun v56 h1 =>
 j.2.2.2.2 v2 v5 v6 v7 v48 v49 v50 h1
def f159.b10 : Lb J159 A7 := fun I call j v2 v5 v6 v7 v48 v49 v50 h =>
 kB .add v50 (Z 1) fun v57 =>
 j.2.2.1 v2 v5 v6 v7 v48 v49 v57 h
def f159.e : Lb J159 A2 := fun I call j v0 v1 h =>
 bnd (sBox v0 h) fun v2 h1 =>
 bndP (pBuild [.nils] []) fun v13 =>
 bnd (sBox v13 h1) fun v14 h2 =>
 kA [.nilp] h2 fun v5 h3 =>
 kS 1 v5 v14 h3 fun _ h4 =>
 kM I 2 v2 h4 fun v15 =>
 kC call 260 [v15] h4 fun v16 h5 =>
 kU .not v16 fun v17 =>
 sCond v17 (
 j.1.1.1 v1 v2 v5 h5) (
 kL I v5 h5 fun v18 =>
 some (v18, h5))
def f159.T : Lb J159 J159 := fun I call j => (((f159.b0 I call j, f159.b1 I call j), (f159.b2 I call j, (f159.b3 I call j, f159.b4 I call j))), ((f159.b5 I call j, (f159.b6 I call j, f159.b7 I call j)), (f159.b8 I call j, (f159.b9 I call j, f159.b10 I call j))))
def f159.r : Inp → SF := runL f159.T f159.e
theorem f159.k : FOk P 159 f159.r := .of 11 ((([1, 2, 5], [2, 5, 6, 7]), ([2, 5, 6, 7, 20, 21, 22], ([2, 5, 6, 7, 20, 21, 22], [2, 5, 6, 7, 20, 21, 22]))), (([5], ([2, 5, 6, 7], [2, 5, 6, 7])), ([2, 5, 6, 7, 48, 49, 50], ([2, 5, 6, 7, 48, 49, 50], [2, 5, 6, 7, 48, 49, 50]))))
def f160.e : Lb Unit A3 := fun I call j v0 v1 v2 h =>
 bnd (sBuildSlice [Z 0] 3 [(0, 1, Z 7), (1, 1, Z 8), (2, 1, Z 9)] h) fun v10 h1 =>
 kC call 158 [v0, v1, v2, v10] h1 fun v11 h2 =>
 some (v11, h2)
def f160.T : Lb Unit Unit := fun I call j => ()
def f160.r : Inp → SF := runL f160.T f160.e
theorem f160.k : FOk P 160 f160.r := .of 0 ()
def f161.e : Lb Unit A2 := fun I call j v0 v1 h =>
 kC call 262 [v0, v1] h fun v7 h1 =>
 kB .geq v7 (Z 0) fun v8 =>
 some (v8, h1)
def f161.T : Lb Unit Unit := fun I call j => ()
def f161.r : Inp → SF := runL f161.T f161.e
theorem f161.k : FOk P 161 f161.r := .of 0 ()
def f162.e : Lb Unit A2 := fun I call j v0 v1 h =>
 kL I v1 h fun v4 =>
 kC call 163 [v4, v0] h fun v6 h1 =>
 some (v6, h1)
def f162.T : Lb Unit Unit := fun I call j => ()
def f162.r : Inp → SF := runL f162.T f162.e
theorem f162.k : FOk P 162 f162.r := .of 0 ()
def f163.e : Lb Unit A2 := fun I call j v0 v1 h =>
 kC call 263 [v0, v1] h fun v7 h1 =>
 kB .geq v7 (Z 0) fun v8 =>
 some (v8, h1)
def f163.T : Lb Unit Unit := fun I call j => ()
def f163.r : Inp → SF := runL f163.T f163.e
theorem f163.k : FOk P 163 f163.r := .of 0 ()
abbrev J165 := A0
def f165.b0 : Lb J165 A0 := fun I call j h =>
 some ((.int .u64 (.ofNat 0)), h)
def f165.e : Lb J165 A2 := fun I call j v0 v1 h =>
 kC call 219 [v0] h fun v7 h1 =>
 kZ v7 fun v10 =>
 kB .lss v1 v10 fun v11 =>
 sCond v11 (
 j h1) (
 kI 1 v7 v1 fun v14 =>
 kL I v14 h1 fun v15 =>
 some (v15, h1))
def f165.T : Lb J165 J165 := fun I call j => f165.b0 I call j
def f165.r : Inp → SF := runL f165.T f165.e
theorem f165.k : FOk P 165 f165.r := .of 1 []
abbrev J166 := ((A3 × A4) × (A6 × A3))
def f166.b0 : Lb J166 A3 := fun I call j v0 v3 v4 h =>
 kC call 50 [v0, .nils] h fun v17 h1 =>
 kF 1 v3 fun v20 =>
 kL I v20 h1 fun v21 =>
 kC call 140 [v0, v21] h1 fun v22 h2 =>
 kX v22 0 fun v23 =>
 kX v22 1 fun v24 =>
 kA [Z 0, Z 0, Z 0] h2 fun v7 h3 =>
 kS 3 v7 v23 h3 fun _ h4 =>
 kU .not v24 fun v26 =>
 gV v26 .false v17 h4 fun v28 h5 =>
 gP v26 .false (pFieldAddr 0 v7) h5 fun v29 h6 =>
 gP v26 .false (pLoad1 I v29 h6) h6 fun v30 h7 =>
 gS v26 .false (call 57 [v28, v30] h7) h7 fun v31 h8 =>
 gP v26 .false (pUn .not v31) h8 fun v32 h9 =>
 kP v26 bT v32 fun v33 =>
 sCond v33 (
 j.1.2 v0 v3 v4 v17 h9) (
 bndP (pBuild [.nilp, .nils, .nils] []) fun v34 =>
 kS 3 v4 v34 h9 fun _ h10 =>
 sRet (sCons (sResN I 3 v4 h10) (sCons (some bF) (some []))) h10)
def f166.b1 : Lb J166 A4 := fun I call j v0 v3 v4 v6 h =>
 kC call 51 [v0, v6] h fun v37 h1 =>
 bndP (pBuild [.nilp, .nils, .nils] [(0, 1, v37)]) fun v38 =>
 kA [.nilp, .nils, .nils] h1 fun v9 h2 =>
 kS 3 v9 v38 h2 fun _ h3 =>
 kF 0 v3 fun v39 =>
 kL I v39 h3 fun v40 =>
 kB .eql v40 (Z 1) fun v42 =>
 sCond v42 (
 kB .eql v40 (Z 3) fun v55 =>
 sCond v55 (
 j.2.1 v0 v3 v4 v9 (Z 0) bF h3) (
 kC call 97 [v0, v6] h3 fun v58 h4 =>
 kF 1 v9 fun v59 =>
 kS 1 v59 v58 h4 fun _ h5 =>
 kF 1 v3 fun v62 =>
 kL I v62 h5 fun v63 =>
 kC call 98 [v0, v63] h5 fun v64 h6 =>
 kX v64 0 fun v65 =>
 kX v64 1 fun v66 =>
 j.2.1 v0 v3 v4 v9 v65 v66 h6)) (
 kC call 91 [v0, v6] h3 fun v45 h7 =>
 kF 1 v9 fun v46 =>
 kS 1 v46 v45 h7 fun _ h8 =>
 kF 1 v3 fun v49 =>
 kL I v49 h8 fun v50 =>
 kC call 92 [v0, v50] h8 fun v51 h9 =>
 kX v51 0 fun v52 =>
 kX v51 1 fun v53 =>
 j.2.1 v0 v3 v4 v9 v52 v53 h9)
def f166.b2 : Lb J166 A6 := fun I call j v0 v3 v4 v9 v10 v11 h =>
 sCond v11 (
 j.2.2 v4 v9 v11 h) (
 kF 1 v3 fun v69 =>
 kL I v69 h fun v70 =>
 kC call 153 [v0, v70, v10] h fun v72 h1 =>
 kF 2 v9 fun v73 =>
 kS 1 v73 v72 h1 fun _ h2 =>
 j.2.2 v4 v9 v11 h2)
def f166.b3 : Lb J166 A3 := fun I call j v4 v9 v11 h =>
 kM I 3 v9 h fun v74 =>
 kS 3 v4 v74 h fun _ h1 =>
 sRet (sCons (sResN I 3 v4 h1) (sCons (some v11) (some []))) h1
def f166.e : Lb J166 A2 := fun I call j v0 v1 h =>
 bnd (sBox v1 h) fun v3 h1 =>
 kA [.nilp, .nils, .nils] h1 fun v4 h2 =>
 kC call 49 [v0] h2 fun v13 h3 =>
 bndP (pEq P .true .iface .true v13 .nili h3) fun v14 =>
 sCond v14 (
 j.1.1 v0 v3 v4 h3) (
 bndP (pBuild [.nilp, .nils, .nils] []) fun v15 =>
 kS 3 v4 v15 h3 fun _ h4 =>
 sRet (sCons (sResN I 3 v4 h4) (sCons (some bF) (some []))) h4)
def f166.T : Lb J166 J166 := fun I call j => ((f166.b0 I call j, f166.b1 I call j), (f166.b2 I call j, f166.b3 I call j))
def f166.r : Inp → SF := runL f166.T f166.e
theorem f166.k : FOk P 166 f166.r := .of 4 (([0, 3, 4], [0, 3, 4, 6]), ([0, 3, 4, 9, 10, 11], [4, 9, 11]))
abbrev J167 := (((A3 × A6) × (A6 × (A6 × A1))) × ((A3 × A3) × (A7 × (A7 × A7))))
def f167.b0 : Lb J167 A3 := fun I call j v5 v6 v7 h =>
 j.2.1.1 v5 v6 v7 h
def f167.b1 : Lb J167 A6 := fun I call j v5 v6 v7 v18 v19 v20 h =>
 kB .lss v20 v19 fun v21 =>
 sCond v21 (
 j.1.1.1 v5 v6 v7 h) (
 j.1.2.1 v5 v6 v7 v18 v19 v20 h)
def f167.b2 : Lb J167 A6 := fun I call j v5 v6 v7 v18 v19 v20 h =>
 kI 5 v18 v20 fun v22 =>
 kM I 5 v22 h fun v23 =>
 kA [Z 0, Z 0, Z 0, Z 0, Z 0] h fun v9 h1 =>
 kS 5 v9 v23 h1 fun _ h2 =>
 kM I 5 v9 h2 fun v25 =>
 bnd (mapPutV (.many [.i, .i, .i, .i, .i]) v6 v25 (Z 1) h2) fun _ h3 =>
 j.1.2.2.1 v5 v6 v7 v18 v19 v20 h3
def f167.b3 : Lb J167 A6 := fun I call j v5 v6 v7 v18 v19 v20 h =>
 kB .add v20 (Z 1) fun v26 =>
 j.1.1.2 v5 v6 v7 v18 v19 v26 h
def f167.b4 : Lb J167 A1 := fun I call j v6 h =>
 some (v6, h)
def f167.b5 : Lb J167 A3 := fun I call j v5 v6 v7 h =>
 kZ v7 fun v28 =>
 kB .gtr v28 (Z 0) fun v29 =>
 sCond v29 (
 j.1.2.2.2 v6 h) (
 j.2.1.2 v5 v6 v7 h)
def f167.b6 : Lb J167 A3 := fun I call j v5 v6 v7 h =>
 kI 5 v7 (Z 0) fun v31 =>
 kM I 5 v31 h fun v32 =>
 kA [Z 0, Z 0, Z 0, Z 0, Z 0] h fun v10 h1 =>
 kS 5 v10 v32 h1 fun _ h2 =>
 bndP (pSliceS 5 v7 (some (Z 1)) none none) fun v34 =>
 kM I 5 v10 h2 fun v36 =>
 bndP (mapGetV (.many [.i, .i, .i, .i, .i]) .nils .false v5 v36 h2) fun v37 =>
 kZ v37 fun v38 =>
 j.2.2.1 v5 v6 v34 v10 v37 v38 (Z 0) h2
def f167.b7 : Lb J167 A7 := fun I call j v5 v6 v7 v10 v37 v38 v39 h =>
 kB .lss v39 v38 fun v40 =>
 sCond v40 (
 j.2.1.1 v5 v6 v7 h) (
 j.2.2.2.1 v5 v6 v7 v10 v37 v38 v39 h)
def f167.b8 : Lb J167 A7 := fun I call j v5 v6 v7 v10 v37 v38 v39 h =>
 kI 5 v37 v39 fun v41 =>
 kM I 5 v41 h fun v42 =>
 kA [Z 0, Z 0, Z 0, Z 0, Z 0] h fun v12 h1 =>
 kS 5 v12 v42 h1 fun _ h2 =>
 kM I 5 v12 h2 fun v44 =>
 bndP (mapGetV (.many [.i, .i, .i, .i, .i]) (Z 0) .false v6 v44 h2) fun v45 =>
 kB .eql v45 (Z 0) fun v46 =>
 sCond v46 (
 j.2.2.2.2 v5 v6 v7 v10 v37 v38 v39 h2) (
 kM I 5 v12 h2 fun v48 =>
 kM I 5 v10 h2 fun v50 =>
 bndP (mapGetV (.many [.i, .i, .i, .i, .i]) (Z 0) .false v6 v50 h2) fun v51 =>
 kB .add v51 (Z 1) fun v52 =>
 bnd (mapPutV (.many [.i, .i, .i, .i, .i]) v6 v48 v52 h2) fun _ h3 =>
 kM I 5 v12 h3 fun v54 =>
 bnd (sBuildSlice [Z 0, Z 0, Z 0, Z 0, Z 0] 1 [(0, 5, v54)] h3) fun v55 h4 =>
 bnd (sAppend I 5 40 v7 v55 h4) fun v56 h5 =>
 j.2.2.2.2 v5 v6 v56 v10 v37 v38 v39 h5)
def f167.b9 : Lb J167 A7 := fun I call j v5 v6 v7 v10 v37 v38 v39 h =>
 kB .add v39 (Z 1) fun v57 =>
 j.2.2.1 v5 v6 v7 v10 v37 v38 v57 h
def f167.e : Lb J167 A2 := fun I call j v0 v1 h =>
 kC call 272 [v0] h fun v14 h1 =>
 bnd (mapNewV h1) fun v15 h2 =>
 kC call 273 [v1] h2 fun v17 h3 =>
 kZ v1 fun v19 =>
 j.1.1.2 v14 v15 v17 v1 v19 (Z 0) h3
def f167.T : Lb J167 J167 := fun I call j => (((f167.b0 I call j, f167.b1 I call j), (f167.b2 I call j, (f167.b3 I call j, f167.b4 I call j))), ((f167.b5 I call j, f167.b6 I call j), (f167.b7 I call j, (f167.b8 I call j, f167.b9 I call j))))
def f167.r : Inp → SF := runL f167.T f167.e
theorem f167.k : FOk P 167 f167.r := .of 10 ((([5, 6, 7], [5, 6, 7, 18, 19, 20]), ([5, 6, 7, 18, 19, 20], ([5, 6, 7, 18, 19, 20], [6]))), (([5, 6, 7], [5, 6, 7]), ([5, 6, 7, 10, 37, 38, 39], ([5, 6, 7, 10, 37, 38, 39], [5, 6, 7, 10, 37, 38, 39]))))
abbrev J168 := ((A3 × A8) × (A8 × (A8 × (AVal → A9))))
def f168.b0 : Lb J168 A3 := fun I call j v6 v8 v9 h =>
 kM I 5 v8 h fun v59 =>
 kS 5 v6 v59 h fun _ h1 =>
 sRet (sCons (sResN I 5 v6 h1) (sCons (some v9) (some []))) h1
def f168.b1 : Lb J168 A8 := fun I call j v1 v2 v6 v8 v9 v14 v15 v16 h =>
 kB .lss v16 v15 fun v17 =>
 sCond v17 (
 j.1.1 v6 v8 v9 h) (
 j.2.1 v1 v2 v6 v8 v9 v14 v15 v16 h)
def f168.b2 : Lb J168 A8 := fun I call j v1 v2 v6 v8 v9 v14 v15 v16 h =>
 kI 5 v14 v16 fun v18 =>
 kM I 5 v18 h fun v19 =>
 kA [Z 0, Z 0, Z 0, Z 0, Z 0] h fun v11 h1 =>
 kS 5 v11 v19 h1 fun _ h2 =>
 kM I 5 v11 h2 fun v21 =>
 bndP (mapGetV (.many [.i, .i, .i, .i, .i]) (Z 0) .false v1 v21 h2) fun v22 =>
 kB .eql v22 (Z 0) fun v25 =>
 gV v25 .false v2 h2 fun v27 h3 =>
 gP v25 .false (pBin .gtr v27 (Z 0)) h3 fun v28 h4 =>
 gV v25 .false v28 h4 fun v29 h5 =>
 gV v29 .true v22 h5 fun v30 h6 =>
 gV v29 .true v2 h6 fun v31 h7 =>
 gP v29 .true (pBin .neq v30 v31) h7 fun v32 h8 =>
 gP v25 .false (pPick v29 v32 bF) h8 fun v33 h9 =>
 kP v25 bT v33 fun v34 =>
 sCond v34 (
 kU .not v9 fun v37 =>
 sCond v37 (
 kB .eql v2 (Z 0) fun v39 =>
 gV v39 .true v22 h9 fun v41 h10 =>
 gV v39 .true v1 h10 fun v42 h11 =>
 gP v39 .true (pLoadN I 5 v8 h11) h11 fun v43 h12 =>
 gP v39 .true (mapGetV (.many [.i, .i, .i, .i, .i]) (Z 0) .false v42 v43 h12) h12 fun v44 h13 =>
 gP v39 .true (pBin .lss v41 v44) h13 fun v45 h14 =>
 kP v39 v45 bF fun v46 =>
 sCond v46 (
 kM I 5 v8 h14 fun v49 =>
 bndP (mapGetV (.many [.i, .i, .i, .i, .i]) (Z 0) .false v1 v49 h14) fun v50 =>
 kB .eql v22 v50 fun v51 =>
 gP v51 .true (pLoadN I 5 v11 h14) h14 fun v53 h15 =>
 gP v51 .true (pLoadN I 5 v8 h15) h15 fun v54 h16 =>
 gS v51 .true (call 254 [v53, v54] h16) h16 fun v55 h17 =>
 kP v51 v55 bF fun v56 =>
 j.2.2.2 v1 v2 v6 v8 v9 v11 v14 v15 v16 v56 h17) (
 j.2.2.2 v1 v2 v6 v8 v9 v11 v14 v15 v16 v46 h14)) (
 j.2.2.2 v1 v2 v6 v8 v9 v11 v14 v15 v16 v37 h9)) (
 j.2.2.1 v1 v2 v6 v8 v9 v14 v15 v16 h9)
def f168.b3 : Lb J168 A8 := fun I call j v1 v2 v6 v8 v9 v14 v15 v16 h =>
 kB .add v16 (Z 1) fun v58 =>
 j.1.2 v1 v2 v6 v8 v9 v14 v15 v58 h
def f168.b4 : Lb J168 (AVal → A9) := fun I call j v1 v2 v6 v8 v9 v11 v14 v15 v16 v35 h =>
 sCond v35 (
 j.2.2.1 v1 v2 v6 v8 v9 v14 v15 v16 h) (
 kM I 5 v11 h fun v57 =>
 kS 5 v8 v57 h fun _ h1 =>
 j.2.2.1 v1 v2 v6 v8 bT v14 v15 v16 h1)
def f168.e : Lb J168 A3 := fun I call j v0 v1 v2 h =>
 kA [Z 0, Z 0, Z 0, Z 0, Z 0] h fun v6 h1 =>
 bndP (pBuild [Z 0, Z 0, Z 0, Z 0, Z 0] []) fun v13 =>
 kA [Z 0, Z 0, Z 0, Z 0, Z 0] h1 fun v8 h2 =>
 kS 5 v8 v13 h2 fun _ h3 =>
 kZ v0 fun v15 =>
 j.1.2 v1 v2 v6 v8 bF v0 v15 (Z 0) h3
def f168.T : Lb J168 J168 := fun I call j => ((f168.b0 I call j, f168.b1 I call j), (f168.b2 I call j, (f168.b3 I call j, f168.b4 I call j)))
def f168.r : Inp → SF := runL f168.T f168.e
theorem f168.k : FOk P 168 f168.r := .of 5 (([6, 8, 9], [1, 2, 6, 8, 9, 14, 15, 16]), ([1, 2, 6, 8, 9, 14, 15, 16], ([1, 2, 6, 8, 9, 14, 15, 16], [1, 2, 6, 8, 9, 11, 14, 15, 16, 35])))
abbrev J169 := A2
def f169.b0 : Lb J169 A2 := fun I call j v0 v3 h =>
 kN v0 fun v8 =>
 kF 0 v8 fun v9 =>
 kL I v9 h fun v10 =>
 kM I 5 v3 h fun v11 =>
 bndP (mapGetV (.many [.i, .i, .i, .i, .i]) .nils .false v10 v11 h) fun v12 =>
 kC call 273 [v12] h fun v13 h1 =>
 some (v13, h1)
def f169.e : Lb J169 A2 := fun I call j v0 v1 h =>
 bnd (sBox v1 h) fun v3 h1 =>
 bndP (pEq P .false .ptr .true v0 .nilp h1) fun v6 =>
 sCond v6 (
 j v0 v3 h1) (
 some (.nils, h1))
def f169.T : Lb J169 J169 := fun I call j => f169.b0 I call j
def f169.r : Inp → SF := runL f169.T f169.e
theorem f169.k : FOk P 169 f169.r := .of 1 [0, 3]
def f170.e : Lb Unit A2 := fun I call j v0 v1 h =>
 bnd (sBox v1 h) fun v3 h1 =>
 kM I 5 v3 h1 fun v6 =>
 kC call 274 [v0, v6] h1 fun v7 h2 =>
 kB .geq v7 (Z 0) fun v8 =>
 some (v8, h2)
def f170.T : Lb Unit Unit := fun I call j => ()
def f170.r : Inp → SF := runL f170.T f170.e
theorem f170.k : FOk P 170 f170.r := .of 0 ()
def f171.e : Lb Unit A3 := fun I call j v0 v1 v2 h =>
 bnd (sBox v1 h) fun v4 h1 =>
 bnd (sBox v2 h1) fun v5 h2 =>
 bndP (pEq P .true .ptr .true v0 .nilp h2) fun v8 =>
 gV v8 .true v0 h2 fun v10 h3 =>
 gP v8 .true (pNilCheck v10) h3 fun v11 h4 =>
 gP v8 .true (pFieldAddr 0 v11) h4 fun v12 h5 =>
 gP v8 .true (pLoad1 I v12 h5) h5 fun v13 h6 =>
 gP v8 .true (pLoadN I 5 v4 h6) h6 fun v14 h7 =>
 gP v8 .true (mapGetV (.many [.i, .i, .i, .i, .i]) .nils .false v13 v14 h7) h7 fun v15 h8 =>
 gP v8 .true (pLoadN I 5 v5 h8) h8 fun v16 h9 =>
 gS v8 .true (call 170 [v15, v16] h9) h9 fun v17 h10 =>
 kP v8 v17 bF fun v18 =>
 some (v18, h10)
def f171.T : Lb Unit Unit := fun I call j => ()
def f171.r : Inp → SF := runL f171.T f171.e
theorem f171.k : FOk P 171 f171.r := .of 0 ()
abbrev J172 := A1
def f172.b0 : Lb J172 A1 := fun I call j v0 h =>
 bnd (sBuildSlice [Z 0] 0 [] h) fun v5 h1 =>
 bnd (sAppend I 1 8 v5 v0 h1) fun v7 h2 =>
 some (v7, h2)
def f172.e : Lb J172 A1 := fun I call j v0 h =>
 bndP (pEq P .false .slice .true v0 .nils h) fun v4 =>
 sCond v4 (
 j v0 h) (
 some (.nils, h))
def f172.T : Lb J172 J172 := fun I call j => f172.b0 I call j
def f172.r : Inp → SF := runL f172.T f172.e
theorem f172.k : FOk P 172 f172.r := .of 1 [0]
def f173.e : Lb Unit A0 := fun I call j h =>
 bndP (pBuild [.nils] []) fun v1 =>
 bnd (sBox v1 h) fun v2 h1 =>
 some (v2, h1)
def f173.T : Lb Unit Unit := fun I call j => ()
def f173.r : Inp → SF := runL f173.T f173.e
theorem f173.k : FOk P 173 f173.r := .of 0 ()
abbrev J174 := ((A2 × A5) × (A5 × A5))
def f174.b0 : Lb J174 A2 := fun I call j v0 v7 h =>
 kN v0 fun v59 =>
 kF 3 v59 fun v60 =>
 kL I v60 h fun v61 =>
 bnd (sBuildSlice [.nilp] 1 [(0, 1, v7)] h) fun v63 h1 =>
 bnd (sAppend I 1 8 v61 v63 h1) fun v64 h2 =>
 kN v0 fun v65 =>
 kF 3 v65 fun v66 =>
 kS 1 v66 v64 h2 fun _ h3 =>
 some (.tuple [], h3)
def f174.b1 : Lb J174 A5 := fun I call j v0 v7 v36 v37 v38 h =>
 kB .lss v38 v37 fun v39 =>
 sCond v39 (
 j.1.1 v0 v7 h) (
 j.2.1 v0 v7 v36 v37 v38 h)
def f174.b2 : Lb J174 A5 := fun I call j v0 v7 v36 v37 v38 h =>
 kI 3 v36 v38 fun v41 =>
 kM I 3 v41 h fun v42 =>
 kA [Z 0, Z 0, bF] h fun v9 h1 =>
 kS 3 v9 v42 h1 fun _ h2 =>
 kN v7 fun v44 =>
 kF 2 v44 fun v45 =>
 kL I v45 h2 fun v46 =>
 kN v7 fun v49 =>
 kF 3 v49 fun v50 =>
 kL I v50 h2 fun v51 =>
 kM I 3 v9 h2 fun v53 =>
 kI 3 v46 v38 fun v54 =>
 kS 3 v54 v53 h2 fun _ h3 =>
 kI 1 v51 v38 fun v55 =>
 kS 1 v55 bT h3 fun _ h4 =>
 j.2.2 v0 v7 v36 v37 v38 h4
def f174.b3 : Lb J174 A5 := fun I call j v0 v7 v36 v37 v38 h =>
 kB .add v38 (Z 1) fun v56 =>
 j.1.2 v0 v7 v36 v37 v56 h
def f174.e : Lb J174 A3 := fun I call j v0 v1 v2 h =>
 kN v0 fun v11 =>
 kF 0 v11 fun v12 =>
 kL I v12 h fun v13 =>
 kN v13 fun v14 =>
 kF 4 v14 fun v15 =>
 kL I v15 h fun v16 =>
 kI 3 v16 v1 fun v18 =>
 kF 1 v18 fun v19 =>
 kL I v19 h fun v20 =>
 kZ v20 fun v21 =>
 sKeep 2 h fun h1 =>
 kN v0 fun v24 =>
 kF 0 v24 fun v25 =>
 kL I v25 h1 fun v26 =>
 bndP (pBuild [Z 0, Z 0, Z 0] [(0, 1, v1)]) fun v28 =>
 kC call 226 [v26, v28] h1 fun v29 h2 =>
 bnd (sResvMake (h.next + 0) [Z 0, Z 0, bF] 24 v21 v21 h2) fun v31 h3 =>
 bnd (sResvMake (h.next + 1) [bF] 1 v21 v21 h3) fun v33 h4 =>
 bndP (pBuild [Z 0, Z 0, .nils, .nils] [(0, 1, v1), (1, 1, v29), (2, 1, v31), (3, 1, v33)]) fun v34 =>
 bnd (sResvBox (h.next + 2) v34 h4) fun v35 h5 =>
 kZ v2 fun v37 =>
 j.1.2 v0 v35 v2 v37 (Z 0) h5
def f174.T : Lb J174 J174 := fun I call j => ((f174.b0 I call j, f174.b1 I call j), (f174.b2 I call j, f174.b3 I call j))
def f174.r : Inp → SF := runL f174.T f174.e
theorem f174.k : FOk P 174 f174.r := .of 4 (([0, 7], [0, 7, 36, 37, 38]), ([0, 7, 36, 37, 38], [0, 7, 36, 37, 38]))
def f175.e : Lb Unit A1 := fun I call j v0 h =>
 kN v0 fun v4 =>
 kF 3 v4 fun v5 =>
 kL I v5 h fun v6 =>
 kN v0 fun v8 =>
 kF 3 v8 fun v9 =>
 kL I v9 h fun v10 =>
 kZ v10 fun v11 =>
 kB .sub v11 (Z 1) fun v12 =>
 kI 1 v6 v12 fun v13 =>
 kL I v13 h fun v14 =>
 some (v14, h)
def f175.T : Lb Unit Unit := fun I call j => ()
def f175.r : Inp → SF := runL f175.T f175.e
theorem f175.k : FOk P 175 f175.r := .of 0 ()
abbrev J176 := ((A3 × A3) × (A3 × A4))
def f176.b0 : Lb J176 A3 := fun I call j v0 v1 v5 h =>
 kF 0 v5 fun v23 =>
 kL I v23 h fun v24 =>
 kB .eql v24 (Z 5) fun v26 =>
 sCond v26 (
 kB .eql v24 (Z 15) fun v73 =>
 sCond v73 (
 kB .eql v24 (Z 12) fun v94 =>
 sCond v94 (
 kB .eql v24 (Z 13) fun v95 =>
 sCond v95 (
 kB .eql v24 (Z 14) fun v96 =>
 j.2.2 v0 v1 v5 v96 h) (
 j.2.2 v0 v1 v5 v95 h)) (
 j.2.2 v0 v1 v5 v94 h)) (
 kN v1 fun v76 =>
 kF 2 v76 fun v77 =>
 kL I v77 h fun v78 =>
 kF 2 v5 fun v79 =>
 kL I v79 h fun v80 =>
 kI 3 v78 v80 fun v81 =>
 kF 2 v81 fun v82 =>
 kL I v82 h fun v83 =>
 kN v0 fun v84 =>
 kF 6 v84 fun v85 =>
 kS 1 v85 v83 h fun _ h1 =>
 kN v1 fun v87 =>
 kF 1 v87 fun v88 =>
 kL I v88 h1 fun v89 =>
 kB .add v89 (Z 1) fun v90 =>
 kN v1 fun v91 =>
 kF 1 v91 fun v92 =>
 kS 1 v92 v90 h1 fun _ h2 =>
 some ((Z 0), h2))) (
 kN v0 fun v28 =>
 kF 2 v28 fun v29 =>
 kL I v29 h fun v30 =>
 kN v1 fun v32 =>
 kF 1 v32 fun v33 =>
 kL I v33 h fun v34 =>
 kN v0 fun v36 =>
 kF 0 v36 fun v37 =>
 kL I v37 h fun v38 =>
 kN v38 fun v39 =>
 kF 0 v39 fun v40 =>
 kL I v40 h fun v41 =>
 kN v0 fun v43 =>
 kF 0 v43 fun v44 =>
 kL I v44 h fun v45 =>
 kN v45 fun v46 =>
 kF 4 v46 fun v47 =>
 kL I v47 h fun v48 =>
 kN v1 fun v50 =>
 kF 0 v50 fun v51 =>
 kL I v51 h fun v52 =>
 kI 3 v48 v52 fun v53 =>
 kF 1 v53 fun v54 =>
 kL I v54 h fun v55 =>
 kF 1 v5 fun v56 =>
 kL I v56 h fun v57 =>
 kI 2 v55 v57 fun v58 =>
 kF 1 v58 fun v59 =>
 kL I v59 h fun v60 =>
 kI 1 v41 v60 fun v61 =>
 kL I v61 h fun v62 =>
 kC call 277 [v30, v34, v62] h fun v63 h3 =>
 kB .eql v63 (Z 0) fun v65 =>
 sCond v65 (
 j.2.1 v1 v5 v63 h3) (
 some ((Z 6), h3)))
def f176.b1 : Lb J176 A3 := fun I call j v0 v1 v5 h =>
 kM I 6 v5 h fun v103 =>
 kC call 279 [v0, v1, v103] h fun v104 h1 =>
 some (v104, h1)
def f176.b2 : Lb J176 A3 := fun I call j v1 v5 v9 h =>
 kF 1 v5 fun v67 =>
 kL I v67 h fun v68 =>
 bndP (pBuild [Z 0, Z 0, bF] [(0, 1, Z 2), (1, 1, v9)]) fun v70 =>
 kC call 276 [v1, v68, v70] h fun v71 h1 =>
 some (v71, h1)
def f176.b3 : Lb J176 A4 := fun I call j v0 v1 v5 v93 h =>
 sCond v93 (
 j.1.2 v0 v1 v5 h) (
 kM I 6 v5 h fun v99 =>
 kC call 278 [v0, v1, v99] h fun v100 h1 =>
 some (v100, h1))
def f176.e : Lb J176 A3 := fun I call j v0 v1 v2 h =>
 bnd (sBox v2 h) fun v5 h1 =>
 kM I 6 v5 h1 fun v13 =>
 kC call 275 [v0, v1, v13] h1 fun v14 h2 =>
 kX v14 0 fun v15 =>
 kX v14 1 fun v16 =>
 kA [Z 0, Z 0, bF] h2 fun v7 h3 =>
 kS 3 v7 v15 h3 fun _ h4 =>
 sCond v16 (
 j.1.1 v0 v1 v5 h4) (
 kF 1 v5 fun v19 =>
 kL I v19 h4 fun v20 =>
 kM I 3 v7 h4 fun v21 =>
 kC call 276 [v1, v20, v21] h4 fun v22 h5 =>
 some (v22, h5))
def f176.T : Lb J176 J176 := fun I call j => ((f176.b0 I call j, f176.b1 I call j), (f176.b2 I call j, f176.b3 I call j))
def f176.r : Inp → SF := runL f176.T f176.e
theorem f176.k : FOk P 176 f176.r := .of 4 (([0, 1, 5], [0, 1, 5]), ([1, 5, 9], [0, 1, 5, 93]))
abbrev J177 := (A3 × A2)
def f177.b0 : Lb J177 A3 := fun I call j v0 v1 v7 h =>
 kN v0 fun v95 =>
 kF 0 v95 fun v96 =>
 kL I v96 h fun v97 =>
 kN v1 fun v99 =>
 kF 0 v99 fun v100 =>
 kL I v100 h fun v101 =>
 bndP (pBuild [Z 0, Z 0, Z 0] [(0, 1, v101), (1, 1, v7)]) fun v103 =>
 kC call 226 [v97, v103] h fun v104 h1 =>
 kN v1 fun v105 =>
 kF 1 v105 fun v106 =>
 kS 1 v106 v104 h1 fun _ h2 =>
 some ((Z 0), h2)
def f177.b1 : Lb J177 A2 := fun I call j v0 v8 h =>
 kN v0 fun v62 =>
 kF 3 v62 fun v63 =>
 kL I v63 h fun v64 =>
 kN v0 fun v66 =>
 kF 3 v66 fun v67 =>
 kL I v67 h fun v68 =>
 kZ v68 fun v69 =>
 kB .sub v69 (Z 1) fun v70 =>
 bndP (pSliceS 1 v64 none (some v70) none) fun v71 =>
 kN v0 fun v72 =>
 kF 3 v72 fun v73 =>
 kS 1 v73 v71 h fun _ h1 =>
 kC call 175 [v0] h1 fun v75 h2 =>
 sKeep 0 h2 fun h3 =>
 kN v0 fun v78 =>
 kF 0 v78 fun v79 =>
 kL I v79 h3 fun v80 =>
 kN v75 fun v82 =>
 kF 1 v82 fun v83 =>
 kL I v83 h3 fun v84 =>
 kC call 82 [v80, v84] h3 fun v85 h4 =>
 kX v85 0 fun v86 =>
 bnd (sResvAlloc (h2.next + 0) [Z 0, Z 0, Z 0, Z 0, Z 0, .nils] h4) fun v10 h5 =>
 kS 6 v10 v86 h5 fun _ h6 =>
 kX v85 1 fun v87 =>
 kF 1 v10 fun v89 =>
 kL I v89 h6 fun v90 =>
 kM I 3 v8 h6 fun v91 =>
 kC call 276 [v75, v90, v91] h6 fun v92 h7 =>
 some (v92, h7)
def f177.e : Lb J177 A3 := fun I call j v0 v1 v2 h =>
 kN v2 fun v13 =>
 kF 3 v13 fun v14 =>
 kL I v14 h fun v15 =>
 kN v2 fun v17 =>
 kF 1 v17 fun v18 =>
 kL I v18 h fun v19 =>
 kB .eql v19 (Z 2) fun v21 =>
 sCond v21 (
 kB .eql v19 (Z 3) fun v39 =>
 sCond v39 (
 j.1 v0 v1 v15 h) (
 kN v1 fun v41 =>
 kF 2 v41 fun v42 =>
 kL I v42 h fun v43 =>
 kN v2 fun v45 =>
 kF 2 v45 fun v46 =>
 kL I v46 h fun v47 =>
 kI 3 v43 v47 fun v48 =>
 kM I 3 v48 h fun v49 =>
 kA [Z 0, Z 0, bF] h fun v8 h1 =>
 kS 3 v8 v49 h1 fun _ h2 =>
 sCheck (sSame (lift (pLoad1 I v42 h1) h1) v43 && true) (
 sCheck (sSame (lift (pLoad1 I v46 h1) h1) v47 && true) (
 sCheck (sSame (lift (pLoadN I 3 v48 h1) h1) v49 && true) (
 kN v0 fun v51 =>
 kF 3 v51 fun v52 =>
 kL I v52 h2 fun v53 =>
 kZ v53 fun v54 =>
 kB .eql v54 (Z 1) fun v55 =>
 sCond v55 (
 j.2 v0 v8 h2) (
 kM I 3 v8 h2 fun v57 =>
 kN v0 fun v58 =>
 kF 7 v58 fun v59 =>
 kS 3 v59 v57 h2 fun _ h3 =>
 some ((Z 4), h3))))))) (
 kN v1 fun v23 =>
 kF 2 v23 fun v24 =>
 kL I v24 h fun v25 =>
 kN v2 fun v27 =>
 kF 2 v27 fun v28 =>
 kL I v28 h fun v29 =>
 kI 3 v25 v29 fun v30 =>
 kF 1 v30 fun v31 =>
 kL I v31 h fun v32 =>
 kB .eql v32 (Z 0) fun v33 =>
 sCond v33 (
 j.1 v0 v1 v15 h) (
 kN v2 fun v35 =>
 kF 4 v35 fun v36 =>
 kL I v36 h fun v37 =>
 j.1 v0 v1 v37 h))
def f177.T : Lb J177 J177 := fun I call j => (f177.b0 I call j, f177.b1 I call j)
def f177.r : Inp → SF := runL f177.T f177.e
theorem f177.k : FOk P 177 f177.r := .of 2 ([0, 1, 7], [0, 8])
end
end Go.Proofs.YtdlceoefjoljnaaGreatDoor.Sf
