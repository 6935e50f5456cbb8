/- The functions of the program by their labels, on values, part 1: what they compute the abstract machine computes. Conditions: none. -/
import Derived.Test.YtdlceoefjoljnaaGreatDoorSf0
import Derived.Test.YtdlceoefjoljnaaGreatDoorProg
namespace Go.Proofs.YtdlceoefjoljnaaGreatDoor.Sf
open Go.AM
set_option linter.unusedVariables false
set_option synthInstance.maxSize 10000
set_option synthInstance.maxHeartbeats 1000000
noncomputable section
variable {I : Inp} {F : Nat → Option AFn} {call : CallFn} {prims : Nat → Option Prim} {n : Nat} {h : AHeap} {Q : AVal → AHeap → Prop}
abbrev J186 := (A2 × A2)
def f186.b0 : Lb J186 A2 := fun I call j v0 v2 h =>
 kB .geq v0 (.int .u32 (.ofNat 256)) fun v8 =>
 sCond v8 (
 j.2 v0 v2 h) (
 kB .shr v0 (.int .u64 (.ofNat 8)) fun v10 =>
 kB .add v2 (Z 8) fun v12 =>
 j.2 v10 v12 h)
def f186.b1 : Lb J186 A2 := fun I call j v0 v2 h =>
 bndP (pToInt .u8 v0) fun v15 =>
 bndP (pIndexStr (.str [0, 1, 2, 2, 3, 3, 3, 3, 4, 4, 4, 4, 4, 4, 4, 4, 5, 5, 5, 5, 5, 5, 5, 5, 5, 5, 5, 5, 5, 5, 5, 5, 6, 6, 6, 6, 6, 6, 6, 6, 6, 6, 6, 6, 6, 6, 6, 6, 6, 6, 6, 6, 6, 6, 6, 6, 6, 6, 6, 6, 6, 6, 6, 6, 7, 7, 7, 7, 7, 7, 7, 7, 7, 7, 7, 7, 7, 7, 7, 7, 7, 7, 7, 7, 7, 7, 7, 7, 7, 7, 7, 7, 7, 7, 7, 7, 7, 7, 7, 7, 7, 7, 7, 7, 7, 7, 7, 7, 7, 7, 7, 7, 7, 7, 7, 7, 7, 7, 7, 7, 7, 7, 7, 7, 7, 7, 7, 7, 8, 8, 8, 8, 8, 8, 8, 8, 8, 8, 8, 8, 8, 8, 8, 8, 8, 8, 8, 8, 8, 8, 8, 8, 8, 8, 8, 8, 8, 8, 8, 8, 8, 8, 8, 8, 8, 8, 8, 8, 8, 8, 8, 8, 8, 8, 8, 8, 8, 8, 8, 8, 8, 8, 8, 8, 8, 8, 8, 8, 8, 8, 8, 8, 8, 8, 8, 8, 8, 8, 8, 8, 8, 8, 8, 8, 8, 8, 8, 8, 8, 8, 8, 8, 8, 8, 8, 8, 8, 8, 8, 8, 8, 8, 8, 8, 8, 8, 8, 8, 8, 8, 8, 8, 8, 8, 8, 8, 8, 8, 8, 8, 8, 8, 8, 8, 8, 8, 8, 8, 8, 8, 8, 8, 8, 8, 8, 8]) v15) fun v16 =>
 bndP (pToInt .i64 v16) fun v17 =>
 kB .add v2 v17 fun v18 =>
 some (v18, h)
def f186.e : Lb J186 A1 := fun I call j v0 h =>
 kB .geq v0 (.int .u32 (.ofNat 65536)) fun v4 =>
 sCond v4 (
 j.1 v0 (Z 0) h) (
 kB .shr v0 (.int .u64 (.ofNat 16)) fun v6 =>
 j.1 v6 (Z 16) h)
def f186.T : Lb J186 J186 := fun I call j => (f186.b0 I call j, f186.b1 I call j)
def f186.r : Inp → SF := runL f186.T f186.e
theorem f186.k : FOk P 186 f186.r := .of 2 ([0, 2], [0, 2])
abbrev J187 := (A2 × (A2 × A2))
def f187.b0 : Lb J187 A2 := fun I call j v0 v2 h =>
 kB .geq v0 (.int .u64 (.ofNat 65536)) fun v8 =>
 sCond v8 (
 j.2.1 v0 v2 h) (
 kB .shr v0 (.int .u64 (.ofNat 16)) fun v10 =>
 kB .add v2 (Z 16) fun v12 =>
 j.2.1 v10 v12 h)
def f187.b1 : Lb J187 A2 := fun I call j v0 v2 h =>
 kB .geq v0 (.int .u64 (.ofNat 256)) fun v14 =>
 sCond v14 (
 j.2.2 v0 v2 h) (
 kB .shr v0 (.int .u64 (.ofNat 8)) fun v16 =>
 kB .add v2 (Z 8) fun v18 =>
 j.2.2 v16 v18 h)
def f187.b2 : Lb J187 A2 := fun I call j v0 v2 h =>
 bndP (pToInt .u8 v0) fun v21 =>
 bndP (pIndexStr (.str [0, 1, 2, 2, 3, 3, 3, 3, 4, 4, 4, 4, 4, 4, 4, 4, 5, 5, 5, 5, 5, 5, 5, 5, 5, 5, 5, 5, 5, 5, 5, 5, 6, 6, 6, 6, 6, 6, 6, 6, 6, 6, 6, 6, 6, 6, 6, 6, 6, 6, 6, 6, 6, 6, 6, 6, 6, 6, 6, 6, 6, 6, 6, 6, 7, 7, 7, 7, 7, 7, 7, 7, 7, 7, 7, 7, 7, 7, 7, 7, 7, 7, 7, 7, 7, 7, 7, 7, 7, 7, 7, 7, 7, 7, 7, 7, 7, 7, 7, 7, 7, 7, 7, 7, 7, 7, 7, 7, 7, 7, 7, 7, 7, 7, 7, 7, 7, 7, 7, 7, 7, 7, 7, 7, 7, 7, 7, 7, 8, 8, 8, 8, 8, 8, 8, 8, 8, 8, 8, 8, 8, 8, 8, 8, 8, 8, 8, 8, 8, 8, 8, 8, 8, 8, 8, 8, 8, 8, 8, 8, 8, 8, 8, 8, 8, 8, 8, 8, 8, 8, 8, 8, 8, 8, 8, 8, 8, 8, 8, 8, 8, 8, 8, 8, 8, 8, 8, 8, 8, 8, 8, 8, 8, 8, 8, 8, 8, 8, 8, 8, 8, 8, 8, 8, 8, 8, 8, 8, 8, 8, 8, 8, 8, 8, 8, 8, 8, 8, 8, 8, 8, 8, 8, 8, 8, 8, 8, 8, 8, 8, 8, 8, 8, 8, 8, 8, 8, 8, 8, 8, 8, 8, 8, 8, 8, 8, 8, 8, 8, 8, 8, 8, 8, 8, 8, 8]) v21) fun v22 =>
 bndP (pToInt .i64 v22) fun v23 =>
 kB .add v2 v23 fun v24 =>
 some (v24, h)
def f187.e : Lb J187 A1 := fun I call j v0 h =>
 kB .geq v0 (.int .u64 (.ofNat 4294967296)) fun v4 =>
 sCond v4 (
 j.1 v0 (Z 0) h) (
 kB .shr v0 (.int .u64 (.ofNat 32)) fun v6 =>
 j.1 v6 (Z 32) h)
def f187.T : Lb J187 J187 := fun I call j => (f187.b0 I call j, (f187.b1 I call j, f187.b2 I call j))
def f187.r : Inp → SF := runL f187.T f187.e
theorem f187.k : FOk P 187 f187.r := .of 3 ([0, 2], ([0, 2], [0, 2]))
def f188.e : Lb Unit A0 := fun I call j h =>
 kC call 67 [] h fun v1 h1 =>
 kC call 68 [Z 2, v1, .nili] h1 fun v2 h2 =>
 some (v2, h2)
def f188.T : Lb Unit Unit := fun I call j => ()
def f188.r : Inp → SF := runL f188.T f188.e
theorem f188.k : FOk P 188 f188.r := .of 0 ()
abbrev J189 := ((A3 × (A6 × A6)) × ((A6 × A9) × (A9 × A9)))
def f189.b0 : Lb J189 A3 := fun I call j v5 v6 v7 h =>
 some (.tuple [v5, v6, v7], h)
def f189.b1 : Lb J189 A6 := fun I call j v5 v6 v7 v29 v30 v31 h =>
 kB .lss v31 v30 fun v32 =>
 sCond v32 (
 j.1.1 v5 v6 v7 h) (
 j.1.2.2 v5 v6 v7 v29 v30 v31 h)
def f189.b2 : Lb J189 A6 := fun I call j v5 v6 v7 v29 v30 v31 h =>
 kI 5 v29 v31 fun v33 =>
 kM I 5 v33 h fun v34 =>
 kA [.nils, Z 0, Z 0, Z 0, Z 0] h fun v9 h1 =>
 kS 5 v9 v34 h1 fun _ h2 =>
 gP v5 .true (pFieldAddr 0 v9) h2 fun v37 h3 =>
 gP v5 .true (pLoad1 I v37 h3) h3 fun v38 h4 =>
 gP v5 .true (pLenSl v38) h4 fun v39 h5 =>
 gP v5 .true (pBin .leq v39 (Z 30)) h5 fun v40 h6 =>
 kP v5 v40 bF fun v41 =>
 kF 0 v9 fun v43 =>
 kL I v43 h6 fun v44 =>
 kZ v44 fun v45 =>
 kB .add v45 (Z 1) fun v46 =>
 kB .add v6 v46 fun v47 =>
 kF 0 v9 fun v48 =>
 kL I v48 h6 fun v49 =>
 kZ v49 fun v50 =>
 j.2.1.2 v41 v47 v7 v29 v30 v31 v49 v50 (Z 0) h6
def f189.b3 : Lb J189 A6 := fun I call j v5 v6 v7 v29 v30 v31 h =>
 kB .add v31 (Z 1) fun v68 =>
 j.1.2.1 v5 v6 v7 v29 v30 v68 h
def f189.b4 : Lb J189 A9 := fun I call j v5 v6 v7 v29 v30 v31 v49 v50 v51 h =>
 kB .lss v51 v50 fun v52 =>
 sCond v52 (
 j.2.1.1 v5 v6 v7 v29 v30 v31 h) (
 j.2.2.1 v5 v6 v7 v29 v30 v31 v49 v50 v51 h)
def f189.b5 : Lb J189 A9 := fun I call j v5 v6 v7 v29 v30 v31 v49 v50 v51 h =>
 kI 6 v49 v51 fun v53 =>
 kM I 6 v53 h fun v54 =>
 kA [Z 0, Z 0, Z 0, Z 0, Z 0, .nils] h fun v11 h1 =>
 kS 6 v11 v54 h1 fun _ h2 =>
 gP v5 .true (pFieldAddr 5 v11) h2 fun v57 h3 =>
 gP v5 .true (pLoad1 I v57 h3) h3 fun v58 h4 =>
 gP v5 .true (pLenSl v58) h4 fun v59 h5 =>
 gP v5 .true (pBin .leq v59 (Z 4)) h5 fun v60 h6 =>
 kP v5 v60 bF fun v61 =>
 kF 0 v11 fun v62 =>
 kL I v62 h6 fun v63 =>
 kB .eql v63 (Z 5) fun v64 =>
 sCond v64 (
 j.2.2.2 v61 v6 v7 v29 v30 v31 v49 v50 v51 h6) (
 kB .add v7 (Z 1) fun v66 =>
 j.2.2.2 v61 v6 v66 v29 v30 v31 v49 v50 v51 h6)
def f189.b6 : Lb J189 A9 := fun I call j v5 v6 v7 v29 v30 v31 v49 v50 v51 h =>
 kB .add v51 (Z 1) fun v67 =>
 j.2.1.2 v5 v6 v7 v29 v30 v31 v49 v50 v67 h
def f189.e : Lb J189 A1 := fun I call j v0 h =>
 bnd (sBox v0 h) fun v1 h1 =>
 kF 1 v1 fun v12 =>
 kL I v12 h1 fun v13 =>
 kZ v13 fun v14 =>
 kB .leq v14 (Z 16) fun v15 =>
 gP v15 .true (pFieldAddr 2 v1) h1 fun v17 h2 =>
 gP v15 .true (pLoad1 I v17 h2) h2 fun v18 h3 =>
 gP v15 .true (pLenSl v18) h3 fun v19 h4 =>
 gP v15 .true (pBin .leq v19 (Z 12)) h4 fun v20 h5 =>
 kP v15 v20 bF fun v21 =>
 gP v21 .true (pFieldAddr 2 v1) h5 fun v23 h6 =>
 gP v21 .true (pLoad1 I v23 h6) h6 fun v24 h7 =>
 gP v21 .true (pLenSl v24) h7 fun v25 h8 =>
 gP v21 .true (pBin .gtr v25 (Z 0)) h8 fun v26 h9 =>
 kP v21 v26 bF fun v27 =>
 kF 2 v1 fun v28 =>
 kL I v28 h9 fun v29 =>
 kZ v29 fun v30 =>
 j.1.2.1 v27 (Z 0) (Z 0) v29 v30 (Z 0) h9
def f189.T : Lb J189 J189 := fun I call j => ((f189.b0 I call j, (f189.b1 I call j, f189.b2 I call j)), ((f189.b3 I call j, f189.b4 I call j), (f189.b5 I call j, f189.b6 I call j)))
def f189.r : Inp → SF := runL f189.T f189.e
theorem f189.k : FOk P 189 f189.r := .of 7 (([5, 6, 7], ([5, 6, 7, 29, 30, 31], [5, 6, 7, 29, 30, 31])), (([5, 6, 7, 29, 30, 31], [5, 6, 7, 29, 30, 31, 49, 50, 51]), ([5, 6, 7, 29, 30, 31, 49, 50, 51], [5, 6, 7, 29, 30, 31, 49, 50, 51])))
abbrev J190 := ((((A2 × A5) × (A5 × A5)) × ((A2 × A5) × (A5 × A5))) × (((A2 × A5) × (A5 × A5)) × ((A1 × A5) × (A5 × A5))))
def f190.b0 : Lb J190 A2 := fun I call j v0 v3 h =>
 kN v0 fun v29 =>
 kF 1 v29 fun v30 =>
 kL I v30 h fun v31 =>
 kZ v31 fun v32 =>
 j.1.2.1.2 v0 v3 v31 v32 (Z 0) h
def f190.b1 : Lb J190 A5 := fun I call j v0 v3 v15 v16 v17 h =>
 kB .lss v17 v16 fun v18 =>
 sCond v18 (
 j.1.1.1.1 v0 v3 h) (
 j.1.1.2.1 v0 v3 v15 v16 v17 h)
def f190.b2 : Lb J190 A5 := fun I call j v0 v3 v15 v16 v17 h =>
 kI 1 v15 v17 fun v19 =>
 kL I v19 h fun v20 =>
 gV v3 .true v0 h fun v23 h1 =>
 gV v3 .true v20 h1 fun v24 h2 =>
 gS v3 .true (call 192 [v23, v24] h2) h2 fun v25 h3 =>
 kP v3 v25 bF fun v26 =>
 j.1.1.2.2 v0 v26 v15 v16 v17 h3
def f190.b3 : Lb J190 A5 := fun I call j v0 v3 v15 v16 v17 h =>
 kB .add v17 (Z 1) fun v27 =>
 j.1.1.1.2 v0 v3 v15 v16 v27 h
def f190.b4 : Lb J190 A2 := fun I call j v0 v3 h =>
 kN v0 fun v52 =>
 kF 2 v52 fun v53 =>
 kL I v53 h fun v54 =>
 kZ v54 fun v55 =>
 j.2.1.1.2 v0 v3 v54 v55 (Z 0) h
def f190.b5 : Lb J190 A5 := fun I call j v0 v3 v31 v32 v33 h =>
 kB .lss v33 v32 fun v34 =>
 sCond v34 (
 j.1.2.1.1 v0 v3 h) (
 j.1.2.2.1 v0 v3 v31 v32 v33 h)
def f190.b6 : Lb J190 A5 := fun I call j v0 v3 v31 v32 v33 h =>
 kI 3 v31 v33 fun v35 =>
 kM I 3 v35 h fun v36 =>
 kA [.nils, Z 0, Z 0] h fun v7 h1 =>
 kS 3 v7 v36 h1 fun _ h2 =>
 gV v3 .true v0 h2 fun v39 h3 =>
 gP v3 .true (pFieldAddr 0 v7) h3 fun v40 h4 =>
 gP v3 .true (pLoad1 I v40 h4) h4 fun v41 h5 =>
 gS v3 .true (call 192 [v39, v41] h5) h5 fun v42 h6 =>
 kP v3 v42 bF fun v43 =>
 gV v43 .true v0 h6 fun v45 h7 =>
 gP v43 .true (pFieldAddr 1 v7) h7 fun v46 h8 =>
 gP v43 .true (pLoadN I 2 v46 h8) h8 fun v47 h9 =>
 gS v43 .true (call 285 [v45, v47] h9) h9 fun v48 h10 =>
 kP v43 v48 bF fun v49 =>
 j.1.2.2.2 v0 v49 v31 v32 v33 h10
def f190.b7 : Lb J190 A5 := fun I call j v0 v3 v31 v32 v33 h =>
 kB .add v33 (Z 1) fun v50 =>
 j.1.2.1.2 v0 v3 v31 v32 v50 h
def f190.b8 : Lb J190 A2 := fun I call j v0 v3 h =>
 kN v0 fun v73 =>
 kF 3 v73 fun v74 =>
 kL I v74 h fun v75 =>
 kZ v75 fun v76 =>
 j.2.2.1.2 v0 v3 v75 v76 (Z 0) h
def f190.b9 : Lb J190 A5 := fun I call j v0 v3 v54 v55 v56 h =>
 kB .lss v56 v55 fun v57 =>
 sCond v57 (
 j.2.1.1.1 v0 v3 h) (
 j.2.1.2.1 v0 v3 v54 v55 v56 h)
def f190.b10 : Lb J190 A5 := fun I call j v0 v3 v54 v55 v56 h =>
 kI 1 v54 v56 fun v58 =>
 kM I 1 v58 h fun v59 =>
 kA [.nils] h fun v9 h1 =>
 kS 1 v9 v59 h1 fun _ h2 =>
 gP v3 .true (pFieldAddr 0 v9) h2 fun v62 h3 =>
 gP v3 .true (pLoad1 I v62 h3) h3 fun v63 h4 =>
 gV v3 .true v0 h4 fun v64 h5 =>
 gP v3 .true (pNilCheck v64) h5 fun v65 h6 =>
 gP v3 .true (pFieldAddr 1 v65) h6 fun v66 h7 =>
 gP v3 .true (pLoad1 I v66 h7) h7 fun v67 h8 =>
 gP v3 .true (pLenSl v67) h8 fun v68 h9 =>
 gS v3 .true (call 286 [v63, v68] h9) h9 fun v69 h10 =>
 kP v3 v69 bF fun v70 =>
 j.2.1.2.2 v0 v70 v54 v55 v56 h10
def f190.b11 : Lb J190 A5 := fun I call j v0 v3 v54 v55 v56 h =>
 kB .add v56 (Z 1) fun v71 =>
 j.2.1.1.2 v0 v3 v54 v55 v71 h
def f190.b12 : Lb J190 A1 := fun I call j v3 h =>
 some (v3, h)
def f190.b13 : Lb J190 A5 := fun I call j v0 v3 v75 v76 v77 h =>
 kB .lss v77 v76 fun v78 =>
 sCond v78 (
 j.2.2.1.1 v3 h) (
 j.2.2.2.1 v0 v3 v75 v76 v77 h)
def f190.b14 : Lb J190 A5 := fun I call j v0 v3 v75 v76 v77 h =>
 kI 3 v75 v77 fun v79 =>
 kM I 3 v79 h fun v80 =>
 kA [Z 0, Z 0, .nils] h fun v11 h1 =>
 kS 3 v11 v80 h1 fun _ h2 =>
 gP v3 .true (pFieldAddr 0 v11) h2 fun v83 h3 =>
 gP v3 .true (pLoad1 I v83 h3) h3 fun v84 h4 =>
 gV v3 .true v0 h4 fun v85 h5 =>
 gP v3 .true (pNilCheck v85) h5 fun v86 h6 =>
 gP v3 .true (pFieldAddr 0 v86) h6 fun v87 h7 =>
 gP v3 .true (pLoad1 I v87 h7) h7 fun v88 h8 =>
 gP v3 .true (pLenSl v88) h8 fun v89 h9 =>
 gS v3 .true (call 191 [v84, v89] h9) h9 fun v90 h10 =>
 kP v3 v90 bF fun v91 =>
 gP v91 .true (pFieldAddr 1 v11) h10 fun v93 h11 =>
 gP v91 .true (pLoad1 I v93 h11) h11 fun v94 h12 =>
 gV v91 .true v0 h12 fun v95 h13 =>
 gP v91 .true (pNilCheck v95) h13 fun v96 h14 =>
 gP v91 .true (pFieldAddr 2 v96) h14 fun v97 h15 =>
 gP v91 .true (pLoad1 I v97 h15) h15 fun v98 h16 =>
 gP v91 .true (pLenSl v98) h16 fun v99 h17 =>
 gS v91 .true (call 191 [v94, v99] h17) h17 fun v100 h18 =>
 kP v91 v100 bF fun v101 =>
 gP v101 .true (pFieldAddr 2 v11) h18 fun v103 h19 =>
 gP v101 .true (pLoad1 I v103 h19) h19 fun v104 h20 =>
 gV v101 .true v0 h20 fun v105 h21 =>
 gP v101 .true (pNilCheck v105) h21 fun v106 h22 =>
 gP v101 .true (pFieldAddr 4 v106) h22 fun v107 h23 =>
 gP v101 .true (pLoad1 I v107 h23) h23 fun v108 h24 =>
 gP v101 .true (pLenSl v108) h24 fun v109 h25 =>
 gS v101 .true (call 286 [v104, v109] h25) h25 fun v110 h26 =>
 kP v101 v110 bF fun v111 =>
 j.2.2.2.2 v0 v111 v75 v76 v77 h26
def f190.b15 : Lb J190 A5 := fun I call j v0 v3 v75 v76 v77 h =>
 kB .add v77 (Z 1) fun v112 =>
 j.2.2.1.2 v0 v3 v75 v76 v112 h
def f190.e : Lb J190 A1 := fun I call j v0 h =>
 kN v0 fun v13 =>
 kF 0 v13 fun v14 =>
 kL I v14 h fun v15 =>
 kZ v15 fun v16 =>
 j.1.1.1.2 v0 bT v15 v16 (Z 0) h
def f190.T : Lb J190 J190 := fun I call j => ((((f190.b0 I call j, f190.b1 I call j), (f190.b2 I call j, f190.b3 I call j)), ((f190.b4 I call j, f190.b5 I call j), (f190.b6 I call j, f190.b7 I call j))), (((f190.b8 I call j, f190.b9 I call j), (f190.b10 I call j, f190.b11 I call j)), ((f190.b12 I call j, f190.b13 I call j), (f190.b14 I call j, f190.b15 I call j))))
def f190.r : Inp → SF := runL f190.T f190.e
theorem f190.k : FOk P 190 f190.r := .of 16 (((([0, 3], [0, 3, 15, 16, 17]), ([0, 3, 15, 16, 17], [0, 3, 15, 16, 17])), (([0, 3], [0, 3, 31, 32, 33]), ([0, 3, 31, 32, 33], [0, 3, 31, 32, 33]))), ((([0, 3], [0, 3, 54, 55, 56]), ([0, 3, 54, 55, 56], [0, 3, 54, 55, 56])), (([3], [0, 3, 75, 76, 77]), ([0, 3, 75, 76, 77], [0, 3, 75, 76, 77]))))
def f191.e : Lb Unit A2 := fun I call j v0 v1 h =>
 kB .geq v0 (Z 0) fun v6 =>
 gV v6 .true v0 h fun v8 h1 =>
 gV v6 .true v1 h1 fun v9 h2 =>
 gP v6 .true (pBin .lss v8 v9) h2 fun v10 h3 =>
 kP v6 v10 bF fun v11 =>
 some (v11, h3)
def f191.T : Lb Unit Unit := fun I call j => ()
def f191.r : Inp → SF := runL f191.T f191.e
theorem f191.k : FOk P 191 f191.r := .of 0 ()
abbrev J192 := ((A0 × A4) × (A4 × A4))
def f192.b0 : Lb J192 A0 := fun I call j h =>
 some (bT, h)
def f192.b1 : Lb J192 A4 := fun I call j v0 v7 v8 v9 h =>
 kB .lss v9 v8 fun v10 =>
 sCond v10 (
 j.1.1 h) (
 j.2.1 v0 v7 v8 v9 h)
def f192.b2 : Lb J192 A4 := fun I call j v0 v7 v8 v9 h =>
 kI 2 v7 v9 fun v11 =>
 kM I 2 v11 h fun v12 =>
 kA [Z 0, Z 0] h fun v6 h1 =>
 kS 2 v6 v12 h1 fun _ h2 =>
 kM I 2 v6 h2 fun v14 =>
 kC call 285 [v0, v14] h2 fun v15 h3 =>
 kU .not v15 fun v16 =>
 sCond v16 (
 j.2.2 v0 v7 v8 v9 h3) (
 some (bF, h3))
def f192.b3 : Lb J192 A4 := fun I call j v0 v7 v8 v9 h =>
 kB .add v9 (Z 1) fun v17 =>
 j.1.2 v0 v7 v8 v17 h
def f192.e : Lb J192 A2 := fun I call j v0 v1 h =>
 kZ v1 fun v8 =>
 j.1.2 v0 v1 v8 (Z 0) h
def f192.T : Lb J192 J192 := fun I call j => ((f192.b0 I call j, f192.b1 I call j), (f192.b2 I call j, f192.b3 I call j))
def f192.r : Inp → SF := runL f192.T f192.e
theorem f192.k : FOk P 192 f192.r := .of 4 (([], [0, 7, 8, 9]), ([0, 7, 8, 9], [0, 7, 8, 9]))
abbrev J193 := (((A0 × A7) × (A7 × A7)) × ((A9 × (AVal → AVal → AVal → A9)) × ((AVal → AVal → AVal → A9) × (AVal → AVal → AVal → A9))))
def f193.b0 : Lb J193 A0 := fun I call j h =>
 some (.nili, h)
def f193.b1 : Lb J193 A7 := fun I call j v1 v2 v3 v4 v22 v23 v24 h =>
 kB .lss v24 v23 fun v25 =>
 sCond v25 (
 j.1.1.1 h) (
 j.1.2.1 v1 v2 v3 v4 v22 v23 v24 h)
def f193.b2 : Lb J193 A7 := fun I call j v1 v2 v3 v4 v22 v23 v24 h =>
 kI 5 v22 v24 fun v27 =>
 kM I 5 v27 h fun v28 =>
 kA [.nils, Z 0, Z 0, Z 0, Z 0] h fun v12 h1 =>
 kS 5 v12 v28 h1 fun _ h2 =>
 kF 0 v12 fun v29 =>
 kL I v29 h2 fun v30 =>
 kZ v30 fun v31 =>
 j.2.1.2 v1 v2 v3 v4 v24 v12 v22 v23 v24 v30 v31 (Z 0) h2
def f193.b3 : Lb J193 A7 := fun I call j v1 v2 v3 v4 v22 v23 v24 h =>
 kB .add v24 (Z 1) fun v62 =>
 j.1.1.2 v1 v2 v3 v4 v22 v23 v62 h
def f193.b4 : Lb J193 A9 := fun I call j v1 v2 v3 v4 v11 v12 v22 v23 v24 h =>
 kM I 5 v12 h fun v51 =>
 bnd (sCallv call v4 [v2, v51] h) fun v52 h1 =>
 kU .not v52 fun v53 =>
 sCond v53 (
 j.1.2.2 v1 v2 v3 v4 v22 v23 v24 h1) (
 kF 0 v12 fun v57 =>
 kL I v57 h1 fun v58 =>
 kZ v58 fun v59 =>
 bndP (pBuild [Z 0, Z 0, Z 0] [(0, 1, v2), (1, 1, v11), (2, 1, v59)]) fun v60 =>
 kC call 68 [v1, v60, .nili] h1 fun v61 h2 =>
 some (v61, h2))
def f193.b5 : Lb J193 (AVal → AVal → AVal → A9) := fun I call j v1 v2 v3 v4 v11 v12 v22 v23 v24 v30 v31 v32 h =>
 kB .lss v32 v31 fun v33 =>
 sCond v33 (
 j.2.1.1 v1 v2 v3 v4 v11 v12 v22 v23 v24 h) (
 j.2.2.1 v1 v2 v3 v4 v11 v12 v22 v23 v24 v30 v31 v32 h)
def f193.b6 : Lb J193 (AVal → AVal → AVal → A9) := fun I call j v1 v2 v3 v4 v11 v12 v22 v23 v24 v30 v31 v32 h =>
 kI 6 v30 v32 fun v35 =>
 kM I 6 v35 h fun v36 =>
 kA [Z 0, Z 0, Z 0, Z 0, Z 0, .nils] h fun v14 h1 =>
 kS 6 v14 v36 h1 fun _ h2 =>
 kM I 6 v14 h2 fun v39 =>
 bnd (sCallv call v3 [v2, v39] h2) fun v40 h3 =>
 kU .not v40 fun v41 =>
 sCond v41 (
 j.2.2.2 v1 v2 v3 v4 v11 v12 v22 v23 v24 v30 v31 v32 h3) (
 bndP (pBuild [Z 0, Z 0, Z 0] [(0, 1, v2), (1, 1, v11), (2, 1, v32)]) fun v46 =>
 kC call 68 [v1, v46, .nili] h3 fun v47 h4 =>
 some (v47, h4))
def f193.b7 : Lb J193 (AVal → AVal → AVal → A9) := fun I call j v1 v2 v3 v4 v11 v12 v22 v23 v24 v30 v31 v32 h =>
 kB .add v32 (Z 1) fun v48 =>
 j.2.1.2 v1 v2 v3 v4 v11 v12 v22 v23 v24 v30 v31 v48 h
def f193.e : Lb J193 A5 := fun I call j v0 v1 v2 v3 v4 h =>
 kN v0 fun v16 =>
 kF 4 v16 fun v17 =>
 kL I v17 h fun v18 =>
 kI 3 v18 v2 fun v20 =>
 kF 2 v20 fun v21 =>
 kL I v21 h fun v22 =>
 kZ v22 fun v23 =>
 j.1.1.2 v1 v2 v3 v4 v22 v23 (Z 0) h
def f193.T : Lb J193 J193 := fun I call j => (((f193.b0 I call j, f193.b1 I call j), (f193.b2 I call j, f193.b3 I call j)), ((f193.b4 I call j, f193.b5 I call j), (f193.b6 I call j, f193.b7 I call j)))
def f193.r : Inp → SF := runL f193.T f193.e
theorem f193.k : FOk P 193 f193.r := .of 8 ((([], [1, 2, 3, 4, 22, 23, 24]), ([1, 2, 3, 4, 22, 23, 24], [1, 2, 3, 4, 22, 23, 24])), (([1, 2, 3, 4, 11, 12, 22, 23, 24], [1, 2, 3, 4, 11, 12, 22, 23, 24, 30, 31, 32]), ([1, 2, 3, 4, 11, 12, 22, 23, 24, 30, 31, 32], [1, 2, 3, 4, 11, 12, 22, 23, 24, 30, 31, 32])))
def f194.e : Lb Unit A4 := fun I call j v0 v1 v2 v3 h =>
 bnd (sBox v1 h) fun v5 h1 =>
 kL I v2 h1 fun v7 =>
 kM I 3 v3 h1 fun v8 =>
 kM I 6 v5 h1 fun v9 =>
 kC call 195 [v7, v8, v9] h1 fun v10 h2 =>
 some (v10, h2)
def f194.T : Lb Unit Unit := fun I call j => ()
def f194.r : Inp → SF := runL f194.T f194.e
theorem f194.k : FOk P 194 f194.r := .of 0 ()
abbrev J195 := ((A3 × A0) × (A5 × A5))
def f195.b0 : Lb J195 A3 := fun I call j v0 v4 v5 h =>
 kF 0 v5 fun v78 =>
 kL I v78 h fun v79 =>
 kB .eql v79 (Z 10) fun v81 =>
 sCond v81 (
 kB .eql v79 (Z 12) fun v82 =>
 j.2.1 v0 v4 v5 v79 v82 h) (
 j.2.1 v0 v4 v5 v79 v81 h)
def f195.b1 : Lb J195 A0 := fun I call j h =>
 some (bT, h)
def f195.b2 : Lb J195 A5 := fun I call j v0 v4 v5 v79 v80 h =>
 sCond v80 (
 kB .eql v79 (Z 7) fun v92 =>
 sCond v92 (
 kB .eql v79 (Z 8) fun v93 =>
 j.2.2 v0 v4 v5 v79 v93 h) (
 j.2.2 v0 v4 v5 v79 v92 h)) (
 kF 4 v5 fun v83 =>
 kL I v83 h fun v84 =>
 kN v0 fun v86 =>
 kF 4 v86 fun v87 =>
 kL I v87 h fun v88 =>
 kZ v88 fun v89 =>
 kC call 191 [v84, v89] h fun v90 h1 =>
 some (v90, h1))
def f195.b3 : Lb J195 A5 := fun I call j v0 v4 v5 v79 v91 h =>
 sCond v91 (
 kB .eql v79 (Z 14) fun v122 =>
 sCond v122 (
 j.1.2 h) (
 kF 1 v4 fun v123 =>
 kL I v123 h fun v124 =>
 kF 2 v5 fun v125 =>
 kL I v125 h fun v126 =>
 kI 2 v124 v126 fun v127 =>
 kF 0 v127 fun v128 =>
 kL I v128 h fun v129 =>
 kB .neq v129 (Z 3) fun v130 =>
 gP v130 .false (pFieldAddr 4 v5) h fun v132 h1 =>
 gP v130 .false (pLoad1 I v132 h1) h1 fun v133 h2 =>
 gV v130 .false v0 h2 fun v134 h3 =>
 gP v130 .false (pNilCheck v134) h3 fun v135 h4 =>
 gP v130 .false (pFieldAddr 2 v135) h4 fun v136 h5 =>
 gP v130 .false (pLoad1 I v136 h5) h5 fun v137 h6 =>
 gP v130 .false (pFieldAddr 1 v4) h6 fun v138 h7 =>
 gP v130 .false (pLoad1 I v138 h7) h7 fun v139 h8 =>
 gP v130 .false (pFieldAddr 2 v5) h8 fun v140 h9 =>
 gP v130 .false (pLoad1 I v140 h9) h9 fun v141 h10 =>
 gP v130 .false (pIndexAddr 2 v139 v141) h10 fun v142 h11 =>
 gP v130 .false (pFieldAddr 1 v142) h11 fun v143 h12 =>
 gP v130 .false (pLoad1 I v143 h12) h12 fun v144 h13 =>
 gP v130 .false (pIndexAddr 1 v137 v144) h13 fun v145 h14 =>
 gP v130 .false (pFieldAddr 0 v145) h14 fun v146 h15 =>
 gP v130 .false (pLoad1 I v146 h15) h15 fun v147 h16 =>
 gP v130 .false (pLenSl v147) h16 fun v148 h17 =>
 gS v130 .false (call 191 [v133, v148] h17) h17 fun v149 h18 =>
 kP v130 bT v149 fun v150 =>
 some (v150, h18))) (
 kF 1 v4 fun v94 =>
 kL I v94 h fun v95 =>
 kF 2 v5 fun v96 =>
 kL I v96 h fun v97 =>
 kI 2 v95 v97 fun v98 =>
 kF 0 v98 fun v99 =>
 kL I v99 h fun v100 =>
 kB .neq v100 (Z 1) fun v101 =>
 gP v101 .false (pFieldAddr 4 v5) h fun v103 h19 =>
 gP v101 .false (pLoad1 I v103 h19) h19 fun v104 h20 =>
 gV v101 .false v0 h20 fun v105 h21 =>
 gP v101 .false (pNilCheck v105) h21 fun v106 h22 =>
 gP v101 .false (pFieldAddr 0 v106) h22 fun v107 h23 =>
 gP v101 .false (pLoad1 I v107 h23) h23 fun v108 h24 =>
 gP v101 .false (pFieldAddr 1 v4) h24 fun v109 h25 =>
 gP v101 .false (pLoad1 I v109 h25) h25 fun v110 h26 =>
 gP v101 .false (pFieldAddr 2 v5) h26 fun v111 h27 =>
 gP v101 .false (pLoad1 I v111 h27) h27 fun v112 h28 =>
 gP v101 .false (pIndexAddr 2 v110 v112) h28 fun v113 h29 =>
 gP v101 .false (pFieldAddr 1 v113) h29 fun v114 h30 =>
 gP v101 .false (pLoad1 I v114 h30) h30 fun v115 h31 =>
 gP v101 .false (pIndexAddr 1 v108 v115) h31 fun v116 h32 =>
 gP v101 .false (pLoad1 I v116 h32) h32 fun v117 h33 =>
 gP v101 .false (pLenSl v117) h33 fun v118 h34 =>
 gS v101 .false (call 191 [v104, v118] h34) h34 fun v119 h35 =>
 kP v101 bT v119 fun v120 =>
 some (v120, h35))
def f195.e : Lb J195 A3 := fun I call j v0 v1 v2 h =>
 bnd (sBox v1 h) fun v4 h1 =>
 bnd (sBox v2 h1) fun v5 h2 =>
 kM I 6 v5 h2 fun v15 =>
 kC call 287 [v15] h2 fun v16 h3 =>
 kX v16 0 fun v17 =>
 kX v16 1 fun v18 =>
 kX v16 2 fun v19 =>
 kX v16 3 fun v20 =>
 kX v16 4 fun v21 =>
 kX v16 5 fun v22 =>
 kF 1 v4 fun v23 =>
 kL I v23 h3 fun v24 =>
 kZ v24 fun v25 =>
 kU .not v22 fun v27 =>
 gV v27 .false v17 h3 fun v29 h4 =>
 gP v27 .false (pFieldAddr 1 v5) h4 fun v30 h5 =>
 gP v27 .false (pLoad1 I v30 h5) h5 fun v31 h6 =>
 gV v27 .false v25 h6 fun v32 h7 =>
 gS v27 .false (call 288 [v29, v31, v32] h7) h7 fun v33 h8 =>
 gP v27 .false (pUn .not v33) h8 fun v34 h9 =>
 kP v27 bT v34 fun v35 =>
 gV v35 .false v18 h9 fun v37 h10 =>
 gP v35 .false (pFieldAddr 2 v5) h10 fun v38 h11 =>
 gP v35 .false (pLoad1 I v38 h11) h11 fun v39 h12 =>
 gV v35 .false v25 h12 fun v40 h13 =>
 gS v35 .false (call 288 [v37, v39, v40] h13) h13 fun v41 h14 =>
 gP v35 .false (pUn .not v41) h14 fun v42 h15 =>
 kP v35 bT v42 fun v43 =>
 gV v43 .false v19 h15 fun v45 h16 =>
 gP v43 .false (pFieldAddr 3 v5) h16 fun v46 h17 =>
 gP v43 .false (pLoad1 I v46 h17) h17 fun v47 h18 =>
 gV v43 .false v25 h18 fun v48 h19 =>
 gS v43 .false (call 288 [v45, v47, v48] h19) h19 fun v49 h20 =>
 gP v43 .false (pUn .not v49) h20 fun v50 h21 =>
 kP v43 bT v50 fun v51 =>
 gV v51 .false v20 h21 fun v53 h22 =>
 gP v51 .false (pUn .not v53) h22 fun v54 h23 =>
 gV v51 .false v54 h23 fun v55 h24 =>
 gP v55 .true (pFieldAddr 4 v5) h24 fun v56 h25 =>
 gP v55 .true (pLoad1 I v56 h25) h25 fun v57 h26 =>
 gP v55 .true (pBin .neq v57 (Z 0)) h26 fun v58 h27 =>
 gP v51 .false (pPick v55 v58 bF) h27 fun v59 h28 =>
 kP v51 bT v59 fun v60 =>
 gV v60 .false v21 h28 fun v62 h29 =>
 gP v60 .false (pUn .not v62) h29 fun v63 h30 =>
 gV v60 .false v63 h30 fun v64 h31 =>
 gP v64 .true (pFieldAddr 5 v5) h31 fun v65 h32 =>
 gP v64 .true (pLoad1 I v65 h32) h32 fun v66 h33 =>
 gP v64 .true (pLenSl v66) h33 fun v67 h34 =>
 gP v64 .true (pBin .gtr v67 (Z 0)) h34 fun v68 h35 =>
 gP v60 .false (pPick v64 v68 bF) h35 fun v69 h36 =>
 kP v60 bT v69 fun v70 =>
 gP v70 .false (pFieldAddr 5 v5) h36 fun v72 h37 =>
 gP v70 .false (pLoad1 I v72 h37) h37 fun v73 h38 =>
 gV v70 .false v25 h38 fun v74 h39 =>
 gS v70 .false (call 286 [v73, v74] h39) h39 fun v75 h40 =>
 gP v70 .false (pUn .not v75) h40 fun v76 h41 =>
 kP v70 bT v76 fun v77 =>
 sCond v77 (
 j.1.1 v0 v4 v5 h41) (
 some (bF, h41))
def f195.T : Lb J195 J195 := fun I call j => ((f195.b0 I call j, f195.b1 I call j), (f195.b2 I call j, f195.b3 I call j))
def f195.r : Inp → SF := runL f195.T f195.e
theorem f195.k : FOk P 195 f195.r := .of 4 (([0, 4, 5], []), ([0, 4, 5, 79, 80], [0, 4, 5, 79, 91]))
def f196.e : Lb Unit A3 := fun I call j v0 v1 v2 h =>
 bnd (sBox v1 h) fun v4 h1 =>
 kM I 3 v2 h1 fun v6 =>
 kM I 5 v4 h1 fun v7 =>
 kC call 197 [v6, v7] h1 fun v8 h2 =>
 some (v8, h2)
def f196.T : Lb Unit Unit := fun I call j => ()
def f196.r : Inp → SF := runL f196.T f196.e
theorem f196.k : FOk P 196 f196.r := .of 0 ()
abbrev J197 := A0
def f197.b0 : Lb J197 A0 := fun I call j h =>
 some (bF, h)
def f197.e : Lb J197 A2 := fun I call j v0 v1 h =>
 bnd (sBox v0 h) fun v2 h1 =>
 bnd (sBox v1 h1) fun v3 h2 =>
 kF 2 v2 fun v6 =>
 kL I v6 h2 fun v7 =>
 kZ v7 fun v8 =>
 kF 1 v3 fun v9 =>
 kL I v9 h2 fun v10 =>
 kB .eql v10 (Z 1) fun v12 =>
 sCond v12 (
 kB .eql v10 (Z 2) fun v28 =>
 sCond v28 (
 kB .eql v10 (Z 3) fun v48 =>
 sCond v48 (
 j h2) (
 kF 2 v3 fun v49 =>
 kL I v49 h2 fun v50 =>
 kF 1 v2 fun v51 =>
 kL I v51 h2 fun v52 =>
 kZ v52 fun v53 =>
 kC call 191 [v50, v53] h2 fun v54 h3 =>
 gP v54 .true (pFieldAddr 3 v3) h3 fun v56 h4 =>
 gP v54 .true (pLoad1 I v56 h4) h4 fun v57 h5 =>
 gP v54 .true (pBin .eql v57 (Z 0)) h5 fun v58 h6 =>
 kP v54 v58 bF fun v59 =>
 gP v59 .true (pFieldAddr 4 v3) h6 fun v61 h7 =>
 gP v59 .true (pLoad1 I v61 h7) h7 fun v62 h8 =>
 gP v59 .true (pBin .eql v62 (Z 0)) h8 fun v63 h9 =>
 kP v59 v63 bF fun v64 =>
 some (v64, h9))) (
 kF 2 v3 fun v29 =>
 kL I v29 h2 fun v30 =>
 kF 1 v2 fun v31 =>
 kL I v31 h2 fun v32 =>
 kZ v32 fun v33 =>
 kC call 191 [v30, v33] h2 fun v34 h10 =>
 gP v34 .true (pFieldAddr 3 v3) h10 fun v36 h11 =>
 gP v34 .true (pLoad1 I v36 h11) h11 fun v37 h12 =>
 gV v34 .true v8 h12 fun v38 h13 =>
 gS v34 .true (call 191 [v37, v38] h13) h13 fun v39 h14 =>
 kP v34 v39 bF fun v40 =>
 gP v40 .true (pFieldAddr 4 v3) h14 fun v42 h15 =>
 gP v40 .true (pLoad1 I v42 h15) h15 fun v43 h16 =>
 gV v40 .true v8 h16 fun v44 h17 =>
 gS v40 .true (call 191 [v43, v44] h17) h17 fun v45 h18 =>
 kP v40 v45 bF fun v46 =>
 some (v46, h18))) (
 kF 2 v3 fun v13 =>
 kL I v13 h2 fun v14 =>
 kB .eql v14 (Z 0) fun v15 =>
 gP v15 .true (pFieldAddr 3 v3) h2 fun v17 h19 =>
 gP v15 .true (pLoad1 I v17 h19) h19 fun v18 h20 =>
 gV v15 .true v8 h20 fun v19 h21 =>
 gS v15 .true (call 191 [v18, v19] h21) h21 fun v20 h22 =>
 kP v15 v20 bF fun v21 =>
 gP v21 .true (pFieldAddr 4 v3) h22 fun v23 h23 =>
 gP v21 .true (pLoad1 I v23 h23) h23 fun v24 h24 =>
 gP v21 .true (pBin .eql v24 (Z 0)) h24 fun v25 h25 =>
 kP v21 v25 bF fun v26 =>
 some (v26, h25))
def f197.T : Lb J197 J197 := fun I call j => f197.b0 I call j
def f197.r : Inp → SF := runL f197.T f197.e
theorem f197.k : FOk P 197 f197.r := .of 1 []
def f198.e : Lb Unit A3 := fun I call j v0 v1 v2 h =>
 bnd (sBox v1 h) fun v4 h1 =>
 bnd (sBox v2 h1) fun v5 h2 =>
 kN v0 fun v8 =>
 kF 3 v8 fun v9 =>
 kL I v9 h2 fun v10 =>
 kC call 289 [v10, (.func (.func 290) [] [v4, v5])] h2 fun v12 h3 =>
 some (v12, h3)
def f198.T : Lb Unit Unit := fun I call j => ()
def f198.r : Inp → SF := runL f198.T f198.e
theorem f198.k : FOk P 198 f198.r := .of 0 ()
def f199.e : Lb Unit A4 := fun I call j v0 v1 v2 v3 h =>
 sKeep 1 h fun h1 =>
 kN v0 fun v13 =>
 kF 1 v13 fun v14 =>
 kL I v14 h1 fun v15 =>
 kN v0 fun v17 =>
 kF 4 v17 fun v18 =>
 kL I v18 h1 fun v19 =>
 kI 3 v19 v2 fun v21 =>
 kF 0 v21 fun v22 =>
 kL I v22 h1 fun v23 =>
 kI 3 v15 v23 fun v24 =>
 kM I 3 v24 h1 fun v25 =>
 bnd (sResvAlloc (h.next + 0) [.nils, Z 0, Z 0] h1) fun v9 h2 =>
 bnd (sResvAlloc (h.next + 1) [.nils, Z 0, Z 0] h2) fun v10 h3 =>
 kS 3 v9 v25 h3 fun _ h4 =>
 kN v0 fun v27 =>
 kF 1 v27 fun v28 =>
 kL I v28 h4 fun v29 =>
 kI 3 v29 v3 fun v31 =>
 kM I 3 v31 h4 fun v32 =>
 kS 3 v10 v32 h4 fun _ h5 =>
 sCheck (sSame (lift (pLoad1 I v14 h2) h2) v15 && (sSame (lift (pLoad1 I v14 h3) h3) v15 && true)) (
 sCheck (sSame (lift (pLoad1 I v18 h2) h2) v19 && (sSame (lift (pLoad1 I v18 h3) h3) v19 && true)) (
 sCheck (sSame (lift (pLoad1 I v22 h2) h2) v23 && (sSame (lift (pLoad1 I v22 h3) h3) v23 && true)) (
 sCheck (sSame (lift (pLoadN I 3 v24 h2) h2) v25 && (sSame (lift (pLoadN I 3 v24 h3) h3) v25 && true)) (
 sCheck (sSame (lift (pLoad1 I v28 h1) h1) v29 && (sSame (lift (pLoad1 I v28 h2) h2) v29 && (sSame (lift (pLoad1 I v28 h3) h3) v29 && true))) (
 sCheck (sSame (lift (pLoadN I 3 v31 h1) h1) v32 && (sSame (lift (pLoadN I 3 v31 h2) h2) v32 && (sSame (lift (pLoadN I 3 v31 h3) h3) v32 && true))) (
 bndP (pBuild [Z 0, Z 0] [(0, 1, Z 1), (1, 1, v1)]) fun v34 =>
 bnd (sBuildSlice [Z 0, Z 0] 1 [(0, 2, v34)] h5) fun v35 h6 =>
 kF 0 v10 fun v36 =>
 kL I v36 h6 fun v37 =>
 bnd (sAppend I 2 16 v35 v37 h6) fun v38 h7 =>
 kF 0 v9 fun v39 =>
 kL I v39 h7 fun v40 =>
 kC call 291 [v40, v38] h7 fun v42 h8 =>
 gP v42 .true (pFieldAddr 1 v9) h8 fun v44 h9 =>
 gP v42 .true (pLoadN I 2 v44 h9) h9 fun v45 h10 =>
 gP v42 .true (pFieldAddr 1 v10) h10 fun v46 h11 =>
 gP v42 .true (pLoadN I 2 v46 h11) h11 fun v47 h12 =>
 gP v42 .true (pEq P .false (.struct [.i, .i]) .false v45 v47 h12) h12 fun v48 h13 =>
 kP v42 v48 bF fun v49 =>
 some (v49, h13)))))))
def f199.T : Lb Unit Unit := fun I call j => ()
def f199.r : Inp → SF := runL f199.T f199.e
theorem f199.k : FOk P 199 f199.r := .of 0 ()
def f200.e : Lb Unit A2 := fun I call j v0 v1 h =>
 bnd (sBox v1 h) fun v3 h1 =>
 kN v0 fun v7 =>
 kF 1 v7 fun v8 =>
 kL I v8 h1 fun v9 =>
 kF 0 v3 fun v10 =>
 kL I v10 h1 fun v11 =>
 kI 3 v9 v11 fun v12 =>
 kF 0 v12 fun v13 =>
 kL I v13 h1 fun v14 =>
 kF 1 v3 fun v15 =>
 kL I v15 h1 fun v16 =>
 kZ v16 fun v17 =>
 kZ v14 fun v19 =>
 kB .geq v17 v19 fun v20 =>
 gP v20 .true (pFieldAddr 1 v3) h1 fun v22 h2 =>
 gP v20 .true (pLoad1 I v22 h2) h2 fun v23 h3 =>
 gV v20 .true v14 h3 fun v24 h4 =>
 gP v20 .true (pLenSl v24) h4 fun v25 h5 =>
 gP v20 .true (pSliceS 2 v23 none (some v25) none) h5 fun v26 h6 =>
 gV v20 .true v14 h6 fun v27 h7 =>
 gS v20 .true (call 291 [v26, v27] h7) h7 fun v28 h8 =>
 kP v20 v28 bF fun v29 =>
 some (v29, h8)
def f200.T : Lb Unit Unit := fun I call j => ()
def f200.r : Inp → SF := runL f200.T f200.e
theorem f200.k : FOk P 200 f200.r := .of 0 ()
def f201.e : Lb Unit A3 := fun I call j v0 v1 v2 h =>
 bnd (sBox v1 h) fun v4 h1 =>
 kL I v2 h1 fun v6 =>
 kM I 6 v4 h1 fun v8 =>
 kC call 202 [v6, v0, v8] h1 fun v9 h2 =>
 some (v9, h2)
def f201.T : Lb Unit Unit := fun I call j => ()
def f201.r : Inp → SF := runL f201.T f201.e
theorem f201.k : FOk P 201 f201.r := .of 0 ()
abbrev J202 := (((((A3 × A3) × (A2 × A4)) × ((A3 × A2) × (A4 × A4))) × (((A2 × A2) × (A2 × A2)) × ((A2 × A3) × (A5 × (A5 × A6))))) × ((((A5 × A5) × (A5 × A5)) × ((A5 × A5) × (A5 × (A5 × A3)))) × (((A3 × A3) × (A3 × A3)) × ((A3 × A3) × (A3 × (A3 × A3))))))
def f202.b0 : Lb J202 A3 := fun I call j v0 v1 v5 h =>
 kN v0 fun v55 =>
 kF 4 v55 fun v56 =>
 kL I v56 h fun v57 =>
 kI 3 v57 v1 fun v59 =>
 kF 1 v59 fun v60 =>
 kL I v60 h fun v61 =>
 kA [.nils] h fun v7 h1 =>
 kS 1 v7 v61 h1 fun _ h2 =>
 kF 0 v5 fun v63 =>
 kL I v63 h2 fun v64 =>
 kB .eql v64 (Z 2) fun v66 =>
 sCond v66 (
 j.1.2.2.2.1 v0 v5 v7 (.func (.func 292) [] [v7]) v64 h2) (
 j.1.2.2.1.1 v5 (.func (.func 292) [] [v7]) h2)
def f202.b1 : Lb J202 A3 := fun I call j v0 v5 v7 h =>
 kL I v7 h fun v242 =>
 kM I 6 v5 h fun v243 =>
 kC call 294 [v0, v242, v243] h fun v244 h1 =>
 some (v244, h1)
def f202.b2 : Lb J202 A2 := fun I call j v5 v8 h =>
 kF 2 v5 fun v237 =>
 kL I v237 h fun v238 =>
 bnd (sCallv call v8 [v238] h) fun v239 h1 =>
 kB .eql v239 (Z 0) fun v240 =>
 some (v240, h1)
def f202.b3 : Lb J202 A4 := fun I call j v0 v5 v7 v8 h =>
 kF 1 v5 fun v208 =>
 kL I v208 h fun v209 =>
 bnd (sCallv call v8 [v209] h) fun v210 h1 =>
 kB .eql v210 (Z 3) fun v211 =>
 gV v211 .true v8 h1 fun v213 h2 =>
 gP v211 .true (pFieldAddr 2 v5) h2 fun v214 h3 =>
 gP v211 .true (pLoad1 I v214 h3) h3 fun v215 h4 =>
 gS v211 .true (sCallv call v213 [v215] h4) h4 fun v216 h5 =>
 gP v211 .true (pBin .eql v216 (Z 1)) h5 fun v217 h6 =>
 kP v211 v217 bF fun v218 =>
 gV v218 .true v0 h6 fun v220 h7 =>
 gP v218 .true (pLoad1 I v7 h7) h7 fun v221 h8 =>
 gP v218 .true (pFieldAddr 2 v5) h8 fun v222 h9 =>
 gP v218 .true (pLoad1 I v222 h9) h9 fun v223 h10 =>
 gP v218 .true (pIndexAddr 2 v221 v223) h10 fun v224 h11 =>
 gP v218 .true (pFieldAddr 1 v224) h11 fun v225 h12 =>
 gP v218 .true (pLoad1 I v225 h12) h12 fun v226 h13 =>
 gP v218 .true (pLoad1 I v7 h13) h13 fun v227 h14 =>
 gP v218 .true (pFieldAddr 1 v5) h14 fun v228 h15 =>
 gP v218 .true (pLoad1 I v228 h15) h15 fun v229 h16 =>
 gP v218 .true (pIndexAddr 2 v227 v229) h16 fun v230 h17 =>
 gP v218 .true (pFieldAddr 1 v230) h17 fun v231 h18 =>
 gP v218 .true (pLoad1 I v231 h18) h18 fun v232 h19 =>
 gS v218 .true (call 198 [v220, v226, v232] h19) h19 fun v233 h20 =>
 gP v218 .true (pBin .geq v233 (Z 0)) h20 fun v234 h21 =>
 kP v218 v234 bF fun v235 =>
 some (v235, h21)
def f202.b4 : Lb J202 A3 := fun I call j v0 v5 v7 h =>
 kF 4 v5 fun v191 =>
 kL I v191 h fun v192 =>
 kC call 293 [v0, v192] h fun v193 h1 =>
 kX v193 0 fun v194 =>
 kX v193 1 fun v195 =>
 gP v195 .true (pLoad1 I v7 h1) h1 fun v198 h2 =>
 gP v195 .true (pFieldAddr 1 v5) h2 fun v199 h3 =>
 gP v195 .true (pLoad1 I v199 h3) h3 fun v200 h4 =>
 gP v195 .true (pIndexAddr 2 v198 v200) h4 fun v201 h5 =>
 gP v195 .true (pLoadN I 2 v201 h5) h5 fun v202 h6 =>
 gV v195 .true v194 h6 fun v203 h7 =>
 gP v195 .true (pBuild [Z 0, Z 0] [(0, 1, Z 2), (1, 1, v203)]) h7 fun v204 h8 =>
 gP v195 .true (pEq P .false (.struct [.i, .i]) .false v202 v204 h8) h8 fun v205 h9 =>
 kP v195 v205 bF fun v206 =>
 some (v206, h9)
def f202.b5 : Lb J202 A2 := fun I call j v5 v8 h =>
 kF 2 v5 fun v185 =>
 kL I v185 h fun v186 =>
 bnd (sCallv call v8 [v186] h) fun v187 h1 =>
 kB .eql v187 (Z 1) fun v188 =>
 some (v188, h1)
def f202.b6 : Lb J202 A4 := fun I call j v0 v5 v7 v8 h =>
 kF 2 v5 fun v156 =>
 kL I v156 h fun v157 =>
 bnd (sCallv call v8 [v157] h) fun v158 h1 =>
 kB .eql v158 (Z 1) fun v159 =>
 gV v159 .true v0 h1 fun v161 h2 =>
 gP v159 .true (pNilCheck v161) h2 fun v162 h3 =>
 gP v159 .true (pFieldAddr 0 v162) h3 fun v163 h4 =>
 gP v159 .true (pLoad1 I v163 h4) h4 fun v164 h5 =>
 gP v159 .true (pLoad1 I v7 h5) h5 fun v165 h6 =>
 gP v159 .true (pFieldAddr 2 v5) h6 fun v166 h7 =>
 gP v159 .true (pLoad1 I v166 h7) h7 fun v167 h8 =>
 gP v159 .true (pIndexAddr 2 v165 v167) h8 fun v168 h9 =>
 gP v159 .true (pFieldAddr 1 v168) h9 fun v169 h10 =>
 gP v159 .true (pLoad1 I v169 h10) h10 fun v170 h11 =>
 gP v159 .true (pIndexAddr 1 v164 v170) h11 fun v171 h12 =>
 gP v159 .true (pLoad1 I v171 h12) h12 fun v172 h13 =>
 gP v159 .true (pFieldAddr 4 v5) h13 fun v173 h14 =>
 gP v159 .true (pLoad1 I v173 h14) h14 fun v174 h15 =>
 gP v159 .true (pIndexAddr 2 v172 v174) h15 fun v175 h16 =>
 gP v159 .true (pLoadN I 2 v175 h16) h16 fun v176 h17 =>
 gP v159 .true (pLoad1 I v7 h17) h17 fun v177 h18 =>
 gP v159 .true (pFieldAddr 3 v5) h18 fun v178 h19 =>
 gP v159 .true (pLoad1 I v178 h19) h19 fun v179 h20 =>
 gP v159 .true (pIndexAddr 2 v177 v179) h20 fun v180 h21 =>
 gP v159 .true (pLoadN I 2 v180 h21) h21 fun v181 h22 =>
 gP v159 .true (pEq P .false (.struct [.i, .i]) .false v176 v181 h22) h22 fun v182 h23 =>
 kP v159 v182 bF fun v183 =>
 some (v183, h23)
def f202.b7 : Lb J202 A4 := fun I call j v0 v5 v7 v8 h =>
 kF 2 v5 fun v127 =>
 kL I v127 h fun v128 =>
 bnd (sCallv call v8 [v128] h) fun v129 h1 =>
 kB .eql v129 (Z 1) fun v130 =>
 gV v130 .true v0 h1 fun v132 h2 =>
 gP v130 .true (pNilCheck v132) h2 fun v133 h3 =>
 gP v130 .true (pFieldAddr 0 v133) h3 fun v134 h4 =>
 gP v130 .true (pLoad1 I v134 h4) h4 fun v135 h5 =>
 gP v130 .true (pLoad1 I v7 h5) h5 fun v136 h6 =>
 gP v130 .true (pFieldAddr 2 v5) h6 fun v137 h7 =>
 gP v130 .true (pLoad1 I v137 h7) h7 fun v138 h8 =>
 gP v130 .true (pIndexAddr 2 v136 v138) h8 fun v139 h9 =>
 gP v130 .true (pFieldAddr 1 v139) h9 fun v140 h10 =>
 gP v130 .true (pLoad1 I v140 h10) h10 fun v141 h11 =>
 gP v130 .true (pIndexAddr 1 v135 v141) h11 fun v142 h12 =>
 gP v130 .true (pLoad1 I v142 h12) h12 fun v143 h13 =>
 gP v130 .true (pFieldAddr 4 v5) h13 fun v144 h14 =>
 gP v130 .true (pLoad1 I v144 h14) h14 fun v145 h15 =>
 gP v130 .true (pIndexAddr 2 v143 v145) h15 fun v146 h16 =>
 gP v130 .true (pLoadN I 2 v146 h16) h16 fun v147 h17 =>
 gP v130 .true (pLoad1 I v7 h17) h17 fun v148 h18 =>
 gP v130 .true (pFieldAddr 1 v5) h18 fun v149 h19 =>
 gP v130 .true (pLoad1 I v149 h19) h19 fun v150 h20 =>
 gP v130 .true (pIndexAddr 2 v148 v150) h20 fun v151 h21 =>
 gP v130 .true (pLoadN I 2 v151 h21) h21 fun v152 h22 =>
 gP v130 .true (pEq P .false (.struct [.i, .i]) .false v147 v152 h22) h22 fun v153 h23 =>
 kP v130 v153 bF fun v154 =>
 some (v154, h23)
def f202.b8 : Lb J202 A2 := fun I call j v5 v7 h =>
 kL I v7 h fun v115 =>
 kF 2 v5 fun v116 =>
 kL I v116 h fun v117 =>
 kI 2 v115 v117 fun v118 =>
 kM I 2 v118 h fun v119 =>
 kL I v7 h fun v120 =>
 kF 1 v5 fun v121 =>
 kL I v121 h fun v122 =>
 kI 2 v120 v122 fun v123 =>
 kM I 2 v123 h fun v124 =>
 bndP (pEq P .false (.struct [.i, .i]) .false v119 v124 h) fun v125 =>
 some (v125, h)
def f202.b9 : Lb J202 A2 := fun I call j v5 v8 h =>
 kF 1 v5 fun v111 =>
 kL I v111 h fun v112 =>
 bnd (sCallv call v8 [v112] h) fun v113 h1 =>
 kB .eql v113 (Z 1) fun v114 =>
 some (v114, h1)
def f202.b10 : Lb J202 A2 := fun I call j v5 v8 h =>
 kF 1 v5 fun v106 =>
 kL I v106 h fun v107 =>
 bnd (sCallv call v8 [v107] h) fun v108 h1 =>
 kB .neq v108 (Z 0) fun v109 =>
 some (v109, h1)
def f202.b11 : Lb J202 A2 := fun I call j v5 v8 h =>
 kF 1 v5 fun v101 =>
 kL I v101 h fun v102 =>
 bnd (sCallv call v8 [v102] h) fun v103 h1 =>
 kB .eql v103 (Z 0) fun v104 =>
 some (v104, h1)
def f202.b12 : Lb J202 A2 := fun I call j v5 v8 h =>
 kF 2 v5 fun v89 =>
 kL I v89 h fun v90 =>
 bnd (sCallv call v8 [v90] h) fun v91 h1 =>
 kB .neq v91 (Z 0) fun v92 =>
 gV v92 .false v8 h1 fun v94 h2 =>
 gP v92 .false (pFieldAddr 3 v5) h2 fun v95 h3 =>
 gP v92 .false (pLoad1 I v95 h3) h3 fun v96 h4 =>
 gS v92 .false (sCallv call v94 [v96] h4) h4 fun v97 h5 =>
 gP v92 .false (pBin .neq v97 (Z 0)) h5 fun v98 h6 =>
 kP v92 bT v98 fun v99 =>
 sCond v99 (
 j.1.2.1.2.2 v5 v8 h6) (
 some (bF, h6))
def f202.b13 : Lb J202 A3 := fun I call j v0 v5 v7 h =>
 j.1.1.1.1.2 v0 v5 v7 h
def f202.b14 : Lb J202 A5 := fun I call j v0 v5 v7 v8 v64 h =>
 kB .eql v64 (Z 1) fun v68 =>
 sCond v68 (
 kB .eql v64 (Z 3) fun v69 =>
 j.1.2.2.2.2.2 v0 v5 v7 v8 v64 v69 h) (
 j.1.2.2.2.2.2 v0 v5 v7 v8 v64 v68 h)
def f202.b15 : Lb J202 A5 := fun I call j v0 v5 v7 v8 v64 h =>
 kB .eql v64 (Z 4) fun v71 =>
 sCond v71 (
 j.2.1.1.1.1 v0 v5 v7 v8 v64 h) (
 j.1.2.1.2.1 v5 v8 h)
def f202.b16 : Lb J202 A6 := fun I call j v0 v5 v7 v8 v64 v67 h =>
 sCond v67 (
 j.1.2.2.2.2.1 v0 v5 v7 v8 v64 h) (
 j.1.2.1.2.2 v5 v8 h)
def f202.b17 : Lb J202 A5 := fun I call j v0 v5 v7 v8 v64 h =>
 kB .eql v64 (Z 5) fun v73 =>
 sCond v73 (
 j.2.1.1.1.2 v0 v5 v7 v8 v64 h) (
 j.1.2.1.1.2 v5 v8 h)
def f202.b18 : Lb J202 A5 := fun I call j v0 v5 v7 v8 v64 h =>
 kB .eql v64 (Z 6) fun v75 =>
 sCond v75 (
 j.2.1.1.2.1 v0 v5 v7 v8 v64 h) (
 j.1.2.1.1.1 v5 v7 h)
def f202.b19 : Lb J202 A5 := fun I call j v0 v5 v7 v8 v64 h =>
 kB .eql v64 (Z 7) fun v77 =>
 sCond v77 (
 j.2.1.1.2.2 v0 v5 v7 v8 v64 h) (
 j.1.1.2.2.2 v0 v5 v7 v8 h)
def f202.b20 : Lb J202 A5 := fun I call j v0 v5 v7 v8 v64 h =>
 kB .eql v64 (Z 8) fun v79 =>
 sCond v79 (
 j.2.1.2.1.1 v0 v5 v7 v8 v64 h) (
 j.1.1.2.2.1 v0 v5 v7 v8 h)
def f202.b21 : Lb J202 A5 := fun I call j v0 v5 v7 v8 v64 h =>
 kB .eql v64 (Z 9) fun v81 =>
 sCond v81 (
 j.2.1.2.1.2 v0 v5 v7 v8 v64 h) (
 j.1.1.2.1.2 v5 v8 h)
def f202.b22 : Lb J202 A5 := fun I call j v0 v5 v7 v8 v64 h =>
 kB .eql v64 (Z 10) fun v83 =>
 sCond v83 (
 j.2.1.2.2.1 v0 v5 v7 v8 v64 h) (
 j.1.1.2.1.1 v0 v5 v7 h)
def f202.b23 : Lb J202 A5 := fun I call j v0 v5 v7 v8 v64 h =>
 kB .eql v64 (Z 11) fun v85 =>
 sCond v85 (
 j.2.1.2.2.2.1 v0 v5 v7 v8 v64 h) (
 j.1.1.1.2.2 v0 v5 v7 v8 h)
def f202.b24 : Lb J202 A5 := fun I call j v0 v5 v7 v8 v64 h =>
 kB .eql v64 (Z 15) fun v87 =>
 sCond v87 (
 j.1.2.2.1.2 v0 v5 v7 h) (
 j.1.1.1.2.1 v5 v8 h)
def f202.b25 : Lb J202 A3 := fun I call j v0 v5 v7 h =>
 j.1.1.1.1.2 v0 v5 v7 h
def f202.b26 : Lb J202 A3 := fun I call j v0 v5 v7 h =>
 j.1.1.1.1.2 v0 v5 v7 h
def f202.b27 : Lb J202 A3 := fun I call j v0 v5 v7 h =>
 j.1.1.1.1.2 v0 v5 v7 h
def f202.b28 : Lb J202 A3 := fun I call j v0 v5 v7 h =>
 j.1.1.1.1.2 v0 v5 v7 h
def f202.b29 : Lb J202 A3 := fun I call j v0 v5 v7 h =>
 j.1.1.1.1.2 v0 v5 v7 h
def f202.b30 : Lb J202 A3 := fun I call j v0 v5 v7 h =>
 j.1.1.1.1.2 v0 v5 v7 h
def f202.b31 : Lb J202 A3 := fun I call j v0 v5 v7 h =>
 j.1.1.1.1.2 v0 v5 v7 h
def f202.b32 : Lb J202 A3 := fun I call j v0 v5 v7 h =>
 j.1.1.1.1.2 v0 v5 v7 h
def f202.b33 : Lb J202 A3 := fun I call j v0 v5 v7 h =>
 j.1.1.1.1.2 v0 v5 v7 h
def f202.b34 : Lb J202 A3 := fun I call j v0 v5 v7 h =>
 j.1.1.1.1.2 v0 v5 v7 h
def f202.e : Lb J202 A3 := fun I call j v0 v1 v2 h =>
 bnd (sBox v2 h) fun v5 h1 =>
 bndP (pEq P .false .ptr .true v0 .nilp h1) fun v12 =>
 gV v12 .false v1 h1 fun v14 h2 =>
 gV v12 .false v0 h2 fun v15 h3 =>
 gP v12 .false (pNilCheck v15) h3 fun v16 h4 =>
 gP v12 .false (pFieldAddr 4 v16) h4 fun v17 h5 =>
 gP v12 .false (pLoad1 I v17 h5) h5 fun v18 h6 =>
 gP v12 .false (pLenSl v18) h6 fun v19 h7 =>
 gS v12 .false (call 191 [v14, v19] h7) h7 fun v20 h8 =>
 gP v12 .false (pUn .not v20) h8 fun v21 h9 =>
 kP v12 bT v21 fun v22 =>
 gV v22 .false v0 h9 fun v24 h10 =>
 gS v22 .false (call 190 [v24] h10) h10 fun v25 h11 =>
 gP v22 .false (pUn .not v25) h11 fun v26 h12 =>
 kP v22 bT v26 fun v27 =>
 gV v27 .false v0 h12 fun v29 h13 =>
 gV v27 .false v0 h13 fun v30 h14 =>
 gP v27 .false (pNilCheck v30) h14 fun v31 h15 =>
 gP v27 .false (pFieldAddr 4 v31) h15 fun v32 h16 =>
 gP v27 .false (pLoad1 I v32 h16) h16 fun v33 h17 =>
 gV v27 .false v1 h17 fun v34 h18 =>
 gP v27 .false (pIndexAddr 3 v33 v34) h18 fun v35 h19 =>
 gP v27 .false (pFieldAddr 1 v35) h19 fun v36 h20 =>
 gP v27 .false (pLoad1 I v36 h20) h20 fun v37 h21 =>
 gS v27 .false (call 192 [v29, v37] h21) h21 fun v38 h22 =>
 gP v27 .false (pUn .not v38) h22 fun v39 h23 =>
 kP v27 bT v39 fun v40 =>
 gV v40 .false v0 h23 fun v42 h24 =>
 gV v40 .false v0 h24 fun v43 h25 =>
 gP v40 .false (pNilCheck v43) h25 fun v44 h26 =>
 gP v40 .false (pFieldAddr 4 v44) h26 fun v45 h27 =>
 gP v40 .false (pLoad1 I v45 h27) h27 fun v46 h28 =>
 gV v40 .false v1 h28 fun v47 h29 =>
 gP v40 .false (pIndexAddr 3 v46 v47) h29 fun v48 h30 =>
 gP v40 .false (pLoadN I 3 v48 h30) h30 fun v49 h31 =>
 gP v40 .false (pLoadN I 6 v5 h31) h31 fun v50 h32 =>
 gS v40 .false (call 195 [v42, v49, v50] h32) h32 fun v51 h33 =>
 gP v40 .false (pUn .not v51) h33 fun v52 h34 =>
 kP v40 bT v52 fun v53 =>
 sCond v53 (
 j.1.1.1.1.1 v0 v1 v5 h34) (
 some (bF, h34))
def f202.T : Lb J202 J202 := fun I call j => (((((f202.b0 I call j, f202.b1 I call j), (f202.b2 I call j, f202.b3 I call j)), ((f202.b4 I call j, f202.b5 I call j), (f202.b6 I call j, f202.b7 I call j))), (((f202.b8 I call j, f202.b9 I call j), (f202.b10 I call j, f202.b11 I call j)), ((f202.b12 I call j, f202.b13 I call j), (f202.b14 I call j, (f202.b15 I call j, f202.b16 I call j))))), ((((f202.b17 I call j, f202.b18 I call j), (f202.b19 I call j, f202.b20 I call j)), ((f202.b21 I call j, f202.b22 I call j), (f202.b23 I call j, (f202.b24 I call j, f202.b25 I call j)))), (((f202.b26 I call j, f202.b27 I call j), (f202.b28 I call j, f202.b29 I call j)), ((f202.b30 I call j, f202.b31 I call j), (f202.b32 I call j, (f202.b33 I call j, f202.b34 I call j))))))
def f202.r : Inp → SF := runL f202.T f202.e
theorem f202.k : FOk P 202 f202.r := .of 35 ((((([0, 1, 5], [0, 5, 7]), ([5, 8], [0, 5, 7, 8])), (([0, 5, 7], [5, 8]), ([0, 5, 7, 8], [0, 5, 7, 8]))), ((([5, 7], [5, 8]), ([5, 8], [5, 8])), (([5, 8], [0, 5, 7]), ([0, 5, 7, 8, 64], ([0, 5, 7, 8, 64], [0, 5, 7, 8, 64, 67]))))), (((([0, 5, 7, 8, 64], [0, 5, 7, 8, 64]), ([0, 5, 7, 8, 64], [0, 5, 7, 8, 64])), (([0, 5, 7, 8, 64], [0, 5, 7, 8, 64]), ([0, 5, 7, 8, 64], ([0, 5, 7, 8, 64], [0, 5, 7])))), ((([0, 5, 7], [0, 5, 7]), ([0, 5, 7], [0, 5, 7])), (([0, 5, 7], [0, 5, 7]), ([0, 5, 7], ([0, 5, 7], [0, 5, 7]))))))
def f203.e : Lb Unit A3 := fun I call j v0 v1 v2 h =>
 bnd (sBox v1 h) fun v4 h1 =>
 kL I v2 h1 fun v6 =>
 kL I v2 h1 fun v7 =>
 kN v7 fun v8 =>
 kF 4 v8 fun v9 =>
 kL I v9 h1 fun v10 =>
 kI 3 v10 v0 fun v12 =>
 kM I 3 v12 h1 fun v13 =>
 kM I 5 v4 h1 fun v14 =>
 kC call 204 [v6, v13, v14] h1 fun v15 h2 =>
 some (v15, h2)
def f203.T : Lb Unit Unit := fun I call j => ()
def f203.r : Inp → SF := runL f203.T f203.e
theorem f203.k : FOk P 203 f203.r := .of 0 ()
abbrev J204 := A0
def f204.b0 : Lb J204 A0 := fun I call j h =>
 some (bT, h)
def f204.e : Lb J204 A3 := fun I call j v0 v1 v2 h =>
 bnd (sBox v1 h) fun v4 h1 =>
 bnd (sBox v2 h1) fun v5 h2 =>
 kF 1 v5 fun v7 =>
 kL I v7 h2 fun v8 =>
 kB .eql v8 (Z 2) fun v10 =>
 sCond v10 (
 kB .eql v8 (Z 3) fun v20 =>
 sCond v20 (
 j h2) (
 kF 1 v4 fun v21 =>
 kL I v21 h2 fun v22 =>
 kF 2 v5 fun v23 =>
 kL I v23 h2 fun v24 =>
 kI 2 v22 v24 fun v25 =>
 kM I 2 v25 h2 fun v26 =>
 kN v0 fun v28 =>
 kF 1 v28 fun v29 =>
 kL I v29 h2 fun v30 =>
 kF 0 v4 fun v31 =>
 kL I v31 h2 fun v32 =>
 kI 3 v30 v32 fun v33 =>
 kF 1 v33 fun v34 =>
 kM I 2 v34 h2 fun v35 =>
 bndP (pEq P .false (.struct [.i, .i]) .false v26 v35 h2) fun v36 =>
 some (v36, h2))) (
 kF 1 v4 fun v11 =>
 kL I v11 h2 fun v12 =>
 kF 2 v5 fun v13 =>
 kL I v13 h2 fun v14 =>
 kI 2 v12 v14 fun v15 =>
 kF 0 v15 fun v16 =>
 kL I v16 h2 fun v17 =>
 kB .eql v17 (Z 0) fun v18 =>
 some (v18, h2))
def f204.T : Lb J204 J204 := fun I call j => f204.b0 I call j
def f204.r : Inp → SF := runL f204.T f204.e
theorem f204.k : FOk P 204 f204.r := .of 1 []
abbrev J205 := ((A3 × A2) × (A5 × (A5 × A5)))
def f205.b0 : Lb J205 A3 := fun I call j v0 v1 v4 h =>
 kN v0 fun v25 =>
 kF 4 v25 fun v26 =>
 kL I v26 h fun v27 =>
 kI 3 v27 v1 fun v29 =>
 kF 2 v29 fun v30 =>
 kL I v30 h fun v31 =>
 kZ v31 fun v33 =>
 kZ v31 fun v35 =>
 bnd (sMakeSlice [.nils] 24 v35 v35 h) fun v36 h1 =>
 bndP (pBuild [Z 0, .nils] [(0, 1, v33), (1, 1, v36)]) fun v37 =>
 kA [Z 0, .nils] h1 fun v6 h2 =>
 kS 2 v6 v37 h2 fun _ h3 =>
 kZ v31 fun v39 =>
 j.2.1 v4 v31 v6 v39 (Z 0) h3
def f205.b1 : Lb J205 A2 := fun I call j v4 v6 h =>
 kM I 2 v6 h fun v52 =>
 kS 2 v4 v52 h fun _ h1 =>
 sRet (sCons (sResN I 2 v4 h1) (some [])) h1
def f205.b2 : Lb J205 A5 := fun I call j v4 v5 v6 v39 v40 h =>
 kB .lss v40 v39 fun v41 =>
 sCond v41 (
 j.1.2 v4 v6 h) (
 j.2.2.1 v4 v5 v6 v39 v40 h)
def f205.b3 : Lb J205 A5 := fun I call j v4 v5 v6 v39 v40 h =>
 kF 1 v6 fun v43 =>
 kL I v43 h fun v44 =>
 kI 5 v5 v40 fun v48 =>
 kC call 295 [v48] h fun v49 h1 =>
 kI 1 v44 v40 fun v50 =>
 kS 1 v50 v49 h1 fun _ h2 =>
 sCheck (sSame (lift (pLoad1 I v43 h1) h1) v44 && true) (
 j.2.2.2 v4 v5 v6 v39 v40 h2)
def f205.b4 : Lb J205 A5 := fun I call j v4 v5 v6 v39 v40 h =>
 kB .add v40 (Z 1) fun v51 =>
 j.2.1 v4 v5 v6 v39 v51 h
def f205.e : Lb J205 A2 := fun I call j v0 v1 h =>
 kA [Z 0, .nils] h fun v4 h1 =>
 bndP (pEq P .false .ptr .true v0 .nilp h1) fun v9 =>
 gV v9 .false v1 h1 fun v11 h2 =>
 gP v9 .false (pBin .lss v11 (Z 0)) h2 fun v12 h3 =>
 kP v9 bT v12 fun v13 =>
 gV v13 .false v1 h3 fun v15 h4 =>
 gV v13 .false v0 h4 fun v16 h5 =>
 gP v13 .false (pNilCheck v16) h5 fun v17 h6 =>
 gP v13 .false (pFieldAddr 4 v17) h6 fun v18 h7 =>
 gP v13 .false (pLoad1 I v18 h7) h7 fun v19 h8 =>
 gP v13 .false (pLenSl v19) h8 fun v20 h9 =>
 gP v13 .false (pBin .geq v15 v20) h9 fun v21 h10 =>
 kP v13 bT v21 fun v22 =>
 sCond v22 (
 j.1.1 v0 v1 v4 h10) (
 bndP (pBuild [Z 0, .nils] []) fun v23 =>
 kS 2 v4 v23 h10 fun _ h11 =>
 sRet (sCons (sResN I 2 v4 h11) (some [])) h11)
def f205.T : Lb J205 J205 := fun I call j => ((f205.b0 I call j, f205.b1 I call j), (f205.b2 I call j, (f205.b3 I call j, f205.b4 I call j)))
def f205.r : Inp → SF := runL f205.T f205.e
theorem f205.k : FOk P 205 f205.r := .of 5 (([0, 1, 4], [4, 6]), ([4, 5, 6, 39, 40], ([4, 5, 6, 39, 40], [4, 5, 6, 39, 40])))
abbrev J206 := (((A2 × (A4 × A6)) × ((A6 × A6) × (A1 × A5))) × ((A4 × (A8 × A8)) × ((A8 × (AVal → AVal → AVal → A9)) × ((AVal → AVal → AVal → A9) × (AVal → AVal → AVal → A9)))))
def f206.b0 : Lb J206 A2 := fun I call j v0 v1 h =>
 kN v0 fun v33 =>
 kF 4 v33 fun v34 =>
 kL I v34 h fun v35 =>
 kI 3 v35 v1 fun v37 =>
 kM I 3 v37 h fun v38 =>
 kA [Z 0, .nils, .nils] h fun v5 h1 =>
 kS 3 v5 v38 h1 fun _ h2 =>
 kF 2 v5 fun v39 =>
 kL I v39 h2 fun v40 =>
 kZ v40 fun v41 =>
 bnd (sMakeSlice [.nilp] 8 v41 v41 h2) fun v42 h3 =>
 kZ v42 fun v44 =>
 j.1.1.2.2 v0 v1 v5 v42 v44 (Z 0) h3
def f206.b1 : Lb J206 A4 := fun I call j v0 v1 v5 v6 h =>
 kN v0 fun v58 =>
 kF 1 v58 fun v59 =>
 kL I v59 h fun v60 =>
 kF 0 v5 fun v61 =>
 kL I v61 h fun v62 =>
 kI 3 v60 v62 fun v63 =>
 kF 0 v63 fun v64 =>
 kL I v64 h fun v65 =>
 kZ v65 fun v66 =>
 kC call 296 [v66] h fun v67 h1 =>
 kI 1 v6 (Z 0) fun v68 =>
 kS 1 v68 v67 h1 fun _ h2 =>
 kC call 205 [v0, v1] h2 fun v71 h3 =>
 kA [Z 0, .nils] h3 fun v8 h4 =>
 kS 2 v8 v71 h4 fun _ h5 =>
 kM I 2 v8 h5 fun v72 =>
 kC call 297 [v72, Z 0] h5 fun v73 h6 =>
 j.1.2.2.2 v5 v6 v8 v73 bT h6
def f206.b2 : Lb J206 A6 := fun I call j v0 v1 v5 v6 v44 v45 h =>
 kB .lss v45 v44 fun v46 =>
 sCond v46 (
 j.1.1.2.1 v0 v1 v5 v6 h) (
 j.1.2.1.1 v0 v1 v5 v6 v44 v45 h)
def f206.b3 : Lb J206 A6 := fun I call j v0 v1 v5 v6 v44 v45 h =>
 kF 1 v5 fun v50 =>
 kL I v50 h fun v51 =>
 kZ v51 fun v52 =>
 kC call 296 [v52] h fun v53 h1 =>
 kI 1 v6 v45 fun v54 =>
 kS 1 v54 v53 h1 fun _ h2 =>
 j.1.2.1.2 v0 v1 v5 v6 v44 v45 h2
def f206.b4 : Lb J206 A6 := fun I call j v0 v1 v5 v6 v44 v45 h =>
 kB .add v45 (Z 1) fun v55 =>
 j.1.1.2.2 v0 v1 v5 v6 v44 v55 h
def f206.b5 : Lb J206 A1 := fun I call j v6 h =>
 some (v6, h)
def f206.b6 : Lb J206 A5 := fun I call j v5 v6 v8 v9 v10 h =>
 sCond v10 (
 j.1.2.2.1 v6 h) (
 j.2.1.1 v5 v6 v8 v9 h)
def f206.b7 : Lb J206 A4 := fun I call j v5 v6 v8 v9 h =>
 kZ v9 fun v76 =>
 j.2.1.2.1 v5 v6 v8 v9 bF v9 v76 (Z 0) h
def f206.b8 : Lb J206 A8 := fun I call j v5 v6 v8 v9 v10 v75 v76 v77 h =>
 kB .lss v77 v76 fun v78 =>
 sCond v78 (
 j.1.2.2.2 v5 v6 v8 v9 v10 h) (
 j.2.1.2.2 v5 v6 v8 v9 v10 v75 v76 v77 h)
def f206.b9 : Lb J206 A8 := fun I call j v5 v6 v8 v9 v10 v75 v76 v77 h =>
 kI 1 v75 v77 fun v79 =>
 kL I v79 h fun v80 =>
 kF 2 v5 fun v81 =>
 kL I v81 h fun v82 =>
 kI 5 v82 v80 fun v84 =>
 kM I 5 v84 h fun v85 =>
 kI 1 v6 v80 fun v88 =>
 kL I v88 h fun v89 =>
 kC call 298 [v85, v89] h fun v90 h1 =>
 kF 1 v8 fun v91 =>
 kL I v91 h1 fun v92 =>
 kI 1 v92 v80 fun v94 =>
 kL I v94 h1 fun v95 =>
 kZ v95 fun v96 =>
 j.2.2.1.2 v5 v6 v8 v9 v10 v90 v75 v76 v77 v95 v96 (Z 0) h1
def f206.b10 : Lb J206 A8 := fun I call j v5 v6 v8 v9 v10 v75 v76 v77 h =>
 kB .add v77 (Z 1) fun v119 =>
 j.2.1.2.1 v5 v6 v8 v9 v10 v75 v76 v119 h
def f206.b11 : Lb J206 (AVal → AVal → AVal → A9) := fun I call j v5 v6 v8 v9 v10 v13 v75 v76 v77 v95 v96 v97 h =>
 kB .lss v97 v96 fun v98 =>
 sCond v98 (
 j.2.2.1.1 v5 v6 v8 v9 v10 v75 v76 v77 h) (
 j.2.2.2.1 v5 v6 v8 v9 v10 v13 v75 v76 v77 v95 v96 v97 h)
def f206.b12 : Lb J206 (AVal → AVal → AVal → A9) := fun I call j v5 v6 v8 v9 v10 v13 v75 v76 v77 v95 v96 v97 h =>
 kI 1 v95 v97 fun v99 =>
 kL I v99 h fun v100 =>
 kI 1 v6 v100 fun v103 =>
 kL I v103 h fun v104 =>
 kC call 299 [v104, v13] h fun v106 h1 =>
 kI 1 v6 v100 fun v110 =>
 kL I v110 h1 fun v111 =>
 kC call 300 [v106, v111] h1 fun v112 h2 =>
 kU .not v112 fun v113 =>
 sCond v113 (
 j.2.2.2.2 v5 v6 v8 v9 v10 v13 v75 v76 v77 v95 v96 v97 h2) (
 kI 1 v6 v100 fun v117 =>
 kS 1 v117 v106 h2 fun _ h3 =>
 j.2.2.2.2 v5 v6 v8 v9 bT v13 v75 v76 v77 v95 v96 v97 h3)
def f206.b13 : Lb J206 (AVal → AVal → AVal → A9) := fun I call j v5 v6 v8 v9 v10 v13 v75 v76 v77 v95 v96 v97 h =>
 kB .add v97 (Z 1) fun v118 =>
 j.2.2.1.2 v5 v6 v8 v9 v10 v13 v75 v76 v77 v95 v96 v118 h
def f206.e : Lb J206 A2 := fun I call j v0 v1 h =>
 bndP (pEq P .false .ptr .true v0 .nilp h) fun v18 =>
 gV v18 .false v1 h fun v20 h1 =>
 gP v18 .false (pBin .lss v20 (Z 0)) h1 fun v21 h2 =>
 kP v18 bT v21 fun v22 =>
 gV v22 .false v1 h2 fun v24 h3 =>
 gV v22 .false v0 h3 fun v25 h4 =>
 gP v22 .false (pNilCheck v25) h4 fun v26 h5 =>
 gP v22 .false (pFieldAddr 4 v26) h5 fun v27 h6 =>
 gP v22 .false (pLoad1 I v27 h6) h6 fun v28 h7 =>
 gP v22 .false (pLenSl v28) h7 fun v29 h8 =>
 gP v22 .false (pBin .geq v24 v29) h8 fun v30 h9 =>
 kP v22 bT v30 fun v31 =>
 sCond v31 (
 j.1.1.1 v0 v1 h9) (
 some (.nils, h9))
def f206.T : Lb J206 J206 := fun I call j => (((f206.b0 I call j, (f206.b1 I call j, f206.b2 I call j)), ((f206.b3 I call j, f206.b4 I call j), (f206.b5 I call j, f206.b6 I call j))), ((f206.b7 I call j, (f206.b8 I call j, f206.b9 I call j)), ((f206.b10 I call j, f206.b11 I call j), (f206.b12 I call j, f206.b13 I call j))))
def f206.r : Inp → SF := runL f206.T f206.e
theorem f206.k : FOk P 206 f206.r := .of 14 ((([0, 1], ([0, 1, 5, 6], [0, 1, 5, 6, 44, 45])), (([0, 1, 5, 6, 44, 45], [0, 1, 5, 6, 44, 45]), ([6], [5, 6, 8, 9, 10]))), (([5, 6, 8, 9], ([5, 6, 8, 9, 10, 75, 76, 77], [5, 6, 8, 9, 10, 75, 76, 77])), (([5, 6, 8, 9, 10, 75, 76, 77], [5, 6, 8, 9, 10, 13, 75, 76, 77, 95, 96, 97]), ([5, 6, 8, 9, 10, 13, 75, 76, 77, 95, 96, 97], [5, 6, 8, 9, 10, 13, 75, 76, 77, 95, 96, 97]))))
abbrev J207 := ((A1 × A4) × (A4 × A4))
def f207.b0 : Lb J207 A1 := fun I call j v3 h =>
 some (v3, h)
def f207.b1 : Lb J207 A4 := fun I call j v3 v8 v9 v10 h =>
 kB .lss v10 v9 fun v11 =>
 sCond v11 (
 j.1.1 v3 h) (
 j.2.1 v3 v8 v9 v10 h)
def f207.b2 : Lb J207 A4 := fun I call j v3 v8 v9 v10 h =>
 kI 1 v8 v10 fun v12 =>
 kL I v12 h fun v13 =>
 kC call 124 [v3, v13] h fun v16 h1 =>
 j.2.2 v3 v8 v9 v10 h1
def f207.b3 : Lb J207 A4 := fun I call j v3 v8 v9 v10 h =>
 kB .add v10 (Z 1) fun v17 =>
 j.1.2 v3 v8 v9 v17 h
def f207.e : Lb J207 A1 := fun I call j v0 h =>
 bndP (pBuild [.nils] []) fun v6 =>
 bnd (sBox v6 h) fun v7 h1 =>
 kZ v0 fun v9 =>
 j.1.2 v7 v0 v9 (Z 0) h1
def f207.T : Lb J207 J207 := fun I call j => ((f207.b0 I call j, f207.b1 I call j), (f207.b2 I call j, f207.b3 I call j))
def f207.r : Inp → SF := runL f207.T f207.e
theorem f207.k : FOk P 207 f207.r := .of 4 (([3], [3, 8, 9, 10]), ([3, 8, 9, 10], [3, 8, 9, 10]))
abbrev J208 := ((A0 × A4) × (A4 × A4))
def f208.b0 : Lb J208 A0 := fun I call j h =>
 some (bT, h)
def f208.b1 : Lb J208 A4 := fun I call j v1 v8 v9 v10 h =>
 kB .lss v10 v9 fun v11 =>
 sCond v11 (
 j.1.1 h) (
 j.2.1 v1 v8 v9 v10 h)
def f208.b2 : Lb J208 A4 := fun I call j v1 v8 v9 v10 h =>
 kI 1 v8 v10 fun v13 =>
 kL I v13 h fun v14 =>
 kC call 165 [v1, v10] h fun v18 h1 =>
 kB .andNot v14 v18 fun v19 =>
 kB .neq v19 (.int .u64 (.ofNat 0)) fun v20 =>
 sCond v20 (
 j.2.2 v1 v8 v9 v10 h1) (
 some (bF, h1))
def f208.b3 : Lb J208 A4 := fun I call j v1 v8 v9 v10 h =>
 kB .add v10 (Z 1) fun v21 =>
 j.1.2 v1 v8 v9 v21 h
def f208.e : Lb J208 A2 := fun I call j v0 v1 h =>
 kC call 219 [v0] h fun v8 h1 =>
 kZ v8 fun v9 =>
 j.1.2 v1 v8 v9 (Z 0) h1
def f208.T : Lb J208 J208 := fun I call j => ((f208.b0 I call j, f208.b1 I call j), (f208.b2 I call j, f208.b3 I call j))
def f208.r : Inp → SF := runL f208.T f208.e
theorem f208.k : FOk P 208 f208.r := .of 4 (([], [1, 8, 9, 10]), ([1, 8, 9, 10], [1, 8, 9, 10]))
abbrev J209 := (A1 × (A2 × A1))
def f209.b0 : Lb J209 A1 := fun I call j v1 h =>
 kF 0 v1 fun v10 =>
 kL I v10 h fun v11 =>
 kB .lss v11 (Z 1) fun v12 =>
 gP v12 .false (pFieldAddr 0 v1) h fun v14 h1 =>
 gP v12 .false (pLoad1 I v14 h1) h1 fun v15 h2 =>
 gP v12 .false (pBin .gtr v15 (Z 15)) h2 fun v16 h3 =>
 kP v12 bT v16 fun v17 =>
 sCond v17 (
 j.2.2 v1 h3) (
 some (.tuple [Z 0, bF], h3))
def f209.b1 : Lb J209 A2 := fun I call j v1 v6 h =>
 sCond v6 (
 j.1 v1 h) (
 some (.tuple [Z 0, bF], h))
def f209.b2 : Lb J209 A1 := fun I call j v1 h =>
 kF 1 v1 fun v18 =>
 kL I v18 h fun v19 =>
 some (.tuple [v19, bT], h)
def f209.e : Lb J209 A1 := fun I call j v0 h =>
 bnd (sBox v0 h) fun v1 h1 =>
 kF 0 v1 fun v4 =>
 kL I v4 h1 fun v5 =>
 kB .eql v5 (Z 8) fun v7 =>
 sCond v7 (
 kB .eql v5 (Z 9) fun v8 =>
 sCond v8 (
 kB .eql v5 (Z 15) fun v9 =>
 j.2.1 v1 v9 h1) (
 j.2.1 v1 v8 h1)) (
 j.2.1 v1 v7 h1)
def f209.T : Lb J209 J209 := fun I call j => (f209.b0 I call j, (f209.b1 I call j, f209.b2 I call j))
def f209.r : Inp → SF := runL f209.T f209.e
theorem f209.k : FOk P 209 f209.r := .of 3 ([1], ([1, 6], [1]))
abbrev J210 := A0
def f210.b0 : Lb J210 A0 := fun I call j h =>
 some (.nils, h)
def f210.e : Lb J210 A1 := fun I call j v0 h =>
 bnd (sBox v0 h) fun v1 h1 =>
 kF 1 v1 fun v3 =>
 kL I v3 h1 fun v4 =>
 kB .eql v4 (Z 2) fun v5 =>
 gP v5 .false (pFieldAddr 1 v1) h1 fun v7 h2 =>
 gP v5 .false (pLoad1 I v7 h2) h2 fun v8 h3 =>
 gP v5 .false (pBin .eql v8 (Z 3)) h3 fun v9 h4 =>
 kP v5 bT v9 fun v10 =>
 sCond v10 (
 j h4) (
 kF 2 v1 fun v11 =>
 kL I v11 h4 fun v12 =>
 bnd (sBuildSlice [Z 0] 1 [(0, 1, v12)] h4) fun v13 h5 =>
 some (v13, h5))
def f210.T : Lb J210 J210 := fun I call j => f210.b0 I call j
def f210.r : Inp → SF := runL f210.T f210.e
theorem f210.k : FOk P 210 f210.r := .of 1 []
abbrev J212 := (((A7 × A7) × (A7 × (A8 × A5))) × ((A4 × A2) × (A6 × (A6 × A6))))
def f212.b0 : Lb J212 A7 := fun I call j v2 v4 v7 v9 v35 v36 v37 h =>
 kB .lss v37 v36 fun v38 =>
 sCond v38 (
 some (.tuple [], h)) (
 j.1.1.2 v2 v4 v7 v9 v35 v36 v37 h)
def f212.b1 : Lb J212 A7 := fun I call j v2 v4 v7 v9 v35 v36 v37 h =>
 kI 1 v35 v37 fun v40 =>
 kL I v40 h fun v41 =>
 kB .eql v41 v2 fun v44 =>
 sCond v44 (
 j.1.2.1 v2 v4 v7 v9 v35 v36 v37 h) (
 kL I v4 h fun v45 =>
 kL I v4 h fun v46 =>
 kN v46 fun v47 =>
 kF 2 v47 fun v48 =>
 kL I v48 h fun v49 =>
 kF 1 v7 fun v52 =>
 kL I v52 h fun v53 =>
 bnd (sCallv call v9 [v53] h) fun v54 h1 =>
 bndP (pBuild [Z 0, Z 0, Z 0, Z 0, .nils, Z 0, Z 0] [(0, 1, Z 1), (1, 1, v37), (2, 1, v54)]) fun v55 =>
 bnd (sBuildSlice [Z 0, Z 0, Z 0, Z 0, .nils, Z 0, Z 0] 1 [(0, 7, v55)] h1) fun v56 h2 =>
 bnd (sAppend I 7 72 v49 v56 h2) fun v57 h3 =>
 kN v45 fun v58 =>
 kF 2 v58 fun v59 =>
 kS 1 v59 v57 h3 fun _ h4 =>
 sCheck (sSame (lift (pLoad1 I v4 h1) h1) v45 && (sSame (lift (pLoad1 I v4 h2) h2) v45 && (sSame (lift (pLoad1 I v4 h3) h3) v45 && true))) (
 sCheck (sSame (lift (pLoad1 I v4 h1) h1) v46 && (sSame (lift (pLoad1 I v4 h2) h2) v46 && true)) (
 sCheck (sSame (lift (pLoad1 I v48 h1) h1) v49 && (sSame (lift (pLoad1 I v48 h2) h2) v49 && true)) (
 j.1.2.1 v2 v4 v7 v9 v35 v36 v37 h4))))
def f212.b2 : Lb J212 A7 := fun I call j v2 v4 v7 v9 v35 v36 v37 h =>
 kB .add v37 (Z 1) fun v60 =>
 j.1.1.1 v2 v4 v7 v9 v35 v36 v60 h
def f212.b3 : Lb J212 A8 := fun I call j v2 v4 v5 v7 v8 v9 v28 v84 h =>
 sCond v84 (
 kB .eql v28 (Z 7) fun v103 =>
 sCond v103 (
 kB .eql v28 (Z 8) fun v132 =>
 sCond v132 (
 kB .eql v28 (Z 12) fun v161 =>
 sCond v161 (
 kB .eql v28 (Z 13) fun v169 =>
 sCond v169 (
 kB .eql v28 (Z 14) fun v170 =>
 j.1.2.2.2 v2 v4 v7 v9 v170 h) (
 j.1.2.2.2 v2 v4 v7 v9 v169 h)) (
 kL I v4 h fun v162 =>
 kL I v5 h fun v163 =>
 kM I 6 v7 h fun v164 =>
 kF 4 v7 fun v165 =>
 kL I v165 h fun v166 =>
 kC call 308 [v162, v163, v164, v166] h fun v167 h1 =>
 some (.tuple [], h1))) (
 kF 3 v7 fun v134 =>
 kL I v134 h fun v135 =>
 kI 2 v8 v135 fun v136 =>
 kF 0 v136 fun v137 =>
 kL I v137 h fun v138 =>
 kB .neq v138 (Z 0) fun v139 =>
 sCond v139 (
 some (.tuple [], h)) (
 kL I v4 h fun v140 =>
 kL I v4 h fun v141 =>
 kN v141 fun v142 =>
 kF 2 v142 fun v143 =>
 kL I v143 h fun v144 =>
 kF 3 v7 fun v146 =>
 kL I v146 h fun v147 =>
 bnd (sCallv call v9 [v147] h) fun v148 h2 =>
 kF 2 v7 fun v150 =>
 kL I v150 h2 fun v151 =>
 bnd (sCallv call v9 [v151] h2) fun v152 h3 =>
 kF 4 v7 fun v153 =>
 kL I v153 h3 fun v154 =>
 bndP (pBuild [Z 0, Z 0, Z 0, Z 0, .nils, Z 0, Z 0] [(0, 1, Z 4), (1, 1, v148), (2, 1, v152), (3, 1, v154)]) fun v155 =>
 bnd (sBuildSlice [Z 0, Z 0, Z 0, Z 0, .nils, Z 0, Z 0] 1 [(0, 7, v155)] h3) fun v156 h4 =>
 bnd (sAppend I 7 72 v144 v156 h4) fun v157 h5 =>
 kN v140 fun v158 =>
 kF 2 v158 fun v159 =>
 kS 1 v159 v157 h5 fun _ h6 =>
 sCheck (sSame (lift (pLoad1 I v4 h2) h2) v140 && (sSame (lift (pLoad1 I v4 h3) h3) v140 && (sSame (lift (pLoad1 I v4 h4) h4) v140 && (sSame (lift (pLoad1 I v4 h5) h5) v140 && true)))) (
 sCheck (sSame (lift (pLoad1 I v4 h2) h2) v141 && (sSame (lift (pLoad1 I v4 h3) h3) v141 && (sSame (lift (pLoad1 I v4 h4) h4) v141 && true))) (
 sCheck (sSame (lift (pLoad1 I v143 h2) h2) v144 && (sSame (lift (pLoad1 I v143 h3) h3) v144 && (sSame (lift (pLoad1 I v143 h4) h4) v144 && true))) (
 sCheck (sSame (lift (pLoad1 I v150 h) h) v151 && true) (
 sCheck (sSame (lift (pLoad1 I v153 h) h) v154 && (sSame (lift (pLoad1 I v153 h2) h2) v154 && true)) (
 some (.tuple [], h6))))))))) (
 kF 1 v7 fun v105 =>
 kL I v105 h fun v106 =>
 kI 2 v8 v106 fun v107 =>
 kF 0 v107 fun v108 =>
 kL I v108 h fun v109 =>
 kB .neq v109 (Z 0) fun v110 =>
 sCond v110 (
 some (.tuple [], h)) (
 kL I v4 h fun v111 =>
 kL I v4 h fun v112 =>
 kN v112 fun v113 =>
 kF 2 v113 fun v114 =>
 kL I v114 h fun v115 =>
 kF 2 v7 fun v117 =>
 kL I v117 h fun v118 =>
 bnd (sCallv call v9 [v118] h) fun v119 h7 =>
 kF 1 v7 fun v121 =>
 kL I v121 h7 fun v122 =>
 bnd (sCallv call v9 [v122] h7) fun v123 h8 =>
 kF 4 v7 fun v124 =>
 kL I v124 h8 fun v125 =>
 bndP (pBuild [Z 0, Z 0, Z 0, Z 0, .nils, Z 0, Z 0] [(0, 1, Z 3), (1, 1, v119), (2, 1, v123), (3, 1, v125)]) fun v126 =>
 bnd (sBuildSlice [Z 0, Z 0, Z 0, Z 0, .nils, Z 0, Z 0] 1 [(0, 7, v126)] h8) fun v127 h9 =>
 bnd (sAppend I 7 72 v115 v127 h9) fun v128 h10 =>
 kN v111 fun v129 =>
 kF 2 v129 fun v130 =>
 kS 1 v130 v128 h10 fun _ h11 =>
 sCheck (sSame (lift (pLoad1 I v4 h7) h7) v111 && (sSame (lift (pLoad1 I v4 h8) h8) v111 && (sSame (lift (pLoad1 I v4 h9) h9) v111 && (sSame (lift (pLoad1 I v4 h10) h10) v111 && true)))) (
 sCheck (sSame (lift (pLoad1 I v4 h7) h7) v112 && (sSame (lift (pLoad1 I v4 h8) h8) v112 && (sSame (lift (pLoad1 I v4 h9) h9) v112 && true))) (
 sCheck (sSame (lift (pLoad1 I v114 h7) h7) v115 && (sSame (lift (pLoad1 I v114 h8) h8) v115 && (sSame (lift (pLoad1 I v114 h9) h9) v115 && true))) (
 sCheck (sSame (lift (pLoad1 I v121 h) h) v122 && true) (
 sCheck (sSame (lift (pLoad1 I v124 h) h) v125 && (sSame (lift (pLoad1 I v124 h7) h7) v125 && true)) (
 some (.tuple [], h11))))))))) (
 kL I v4 h fun v87 =>
 kF 1 v7 fun v89 =>
 kL I v89 h fun v90 =>
 kI 2 v8 v90 fun v91 =>
 kM I 2 v91 h fun v92 =>
 kF 2 v7 fun v94 =>
 kL I v94 h fun v95 =>
 bnd (sCallv call v9 [v95] h) fun v96 h12 =>
 kF 1 v7 fun v98 =>
 kL I v98 h12 fun v99 =>
 bnd (sCallv call v9 [v99] h12) fun v100 h13 =>
 kC call 213 [v87, v92, v96, v100] h13 fun v101 h14 =>
 sCheck (sSame (lift (pLoad1 I v4 h12) h12) v87 && (sSame (lift (pLoad1 I v4 h13) h13) v87 && true)) (
 sCheck (sSame (lift (pLoad1 I v89 h12) h12) v90 && (sSame (lift (pLoad1 I v89 h13) h13) v90 && true)) (
 sCheck (sSame (lift (pLoadN I 2 v91 h12) h12) v92 && (sSame (lift (pLoadN I 2 v91 h13) h13) v92 && true)) (
 sCheck (sSame (lift (pLoad1 I v98 h) h) v99 && true) (
 some (.tuple [], h14))))))
def f212.b4 : Lb J212 A5 := fun I call j v2 v4 v7 v9 v168 h =>
 sCond v168 (
 some (.tuple [], h)) (
 sKeep 0 h fun h1 =>
 kF 2 v7 fun v172 =>
 kL I v172 h1 fun v173 =>
 bnd (sCallv call v9 [v173] h1) fun v174 h2 =>
 kF 1 v7 fun v176 =>
 kL I v176 h2 fun v177 =>
 bnd (sCallv call v9 [v177] h2) fun v178 h3 =>
 bndP (pBuild [Z 0, Z 0, Z 0, Z 0, .nils, Z 0, Z 0] [(0, 1, Z 5), (1, 1, v174), (5, 1, v178), (6, 1, v2)]) fun v180 =>
 bnd (sResvAlloc (h.next + 0) [Z 0, Z 0, Z 0, Z 0, .nils, Z 0, Z 0] h3) fun v12 h4 =>
 kS 7 v12 v180 h4 fun _ h5 =>
 sCheck (sSame (lift (pLoad1 I v176 h1) h1) v177 && true) (
 kF 0 v7 fun v181 =>
 kL I v181 h5 fun v182 =>
 kB .eql v182 (Z 14) fun v183 =>
 sCond v183 (
 j.2.1.1 v4 v7 v9 v12 h5) (
 kF 4 v7 fun v184 =>
 kL I v184 h5 fun v185 =>
 kF 0 v12 fun v186 =>
 kS 1 v186 (Z 6) h5 fun _ h6 =>
 kF 3 v12 fun v187 =>
 kS 1 v187 v185 h6 fun _ h7 =>
 sCheck (sSame (lift (pLoad1 I v184 h6) h6) v185 && true) (
 j.2.1.1 v4 v7 v9 v12 h7))))
def f212.b5 : Lb J212 A4 := fun I call j v4 v7 v9 v12 h =>
 kF 5 v7 fun v188 =>
 kL I v188 h fun v189 =>
 kZ v189 fun v190 =>
 j.2.2.1 v4 v9 v12 v189 v190 (Z 0) h
def f212.b6 : Lb J212 A2 := fun I call j v4 v12 h =>
 kL I v4 h fun v204 =>
 kL I v4 h fun v205 =>
 kN v205 fun v206 =>
 kF 2 v206 fun v207 =>
 kL I v207 h fun v208 =>
 kM I 7 v12 h fun v209 =>
 bnd (sBuildSlice [Z 0, Z 0, Z 0, Z 0, .nils, Z 0, Z 0] 1 [(0, 7, v209)] h) fun v210 h1 =>
 bnd (sAppend I 7 72 v208 v210 h1) fun v211 h2 =>
 kN v204 fun v212 =>
 kF 2 v212 fun v213 =>
 kS 1 v213 v211 h2 fun _ h3 =>
 sCheck (sSame (lift (pLoad1 I v4 h1) h1) v204 && (sSame (lift (pLoad1 I v4 h2) h2) v204 && true)) (
 sCheck (sSame (lift (pLoad1 I v4 h1) h1) v205 && true) (
 sCheck (sSame (lift (pLoad1 I v207 h1) h1) v208 && true) (
 some (.tuple [], h3))))
def f212.b7 : Lb J212 A6 := fun I call j v4 v9 v12 v189 v190 v191 h =>
 kB .lss v191 v190 fun v192 =>
 sCond v192 (
 j.2.1.2 v4 v12 h) (
 j.2.2.2.1 v4 v9 v12 v189 v190 v191 h)
def f212.b8 : Lb J212 A6 := fun I call j v4 v9 v12 v189 v190 v191 h =>
 kI 1 v189 v191 fun v193 =>
 kL I v193 h fun v194 =>
 kF 4 v12 fun v195 =>
 kL I v195 h fun v196 =>
 bnd (sCallv call v9 [v194] h) fun v199 h1 =>
 bnd (sBuildSlice [Z 0] 1 [(0, 1, v199)] h1) fun v200 h2 =>
 bnd (sAppend I 1 8 v196 v200 h2) fun v201 h3 =>
 kF 4 v12 fun v202 =>
 kS 1 v202 v201 h3 fun _ h4 =>
 sCheck (sSame (lift (pLoad1 I v195 h1) h1) v196 && (sSame (lift (pLoad1 I v195 h2) h2) v196 && true)) (
 j.2.2.2.2 v4 v9 v12 v189 v190 v191 h4)
def f212.b9 : Lb J212 A6 := fun I call j v4 v9 v12 v189 v190 v191 h =>
 kB .add v191 (Z 1) fun v203 =>
 j.2.2.1 v4 v9 v12 v189 v190 v203 h
def f212.e : Lb J212 A4 := fun I call j v0 v1 v2 v3 h =>
 bnd (sBox v0 h) fun v4 h1 =>
 bnd (sBox v1 h1) fun v5 h2 =>
 bnd (sBox v3 h2) fun v7 h3 =>
 kL I v4 h3 fun v15 =>
 kN v15 fun v16 =>
 kF 0 v16 fun v17 =>
 kL I v17 h3 fun v18 =>
 kN v18 fun v19 =>
 kF 4 v19 fun v20 =>
 kL I v20 h3 fun v21 =>
 kL I v5 h3 fun v22 =>
 kI 3 v21 v22 fun v23 =>
 kF 1 v23 fun v24 =>
 kL I v24 h3 fun v25 =>
 kF 0 v7 fun v27 =>
 kL I v27 h3 fun v28 =>
 kB .eql v28 (Z 5) fun v30 =>
 sCond v30 (
 kB .eql v28 (Z 10) fun v62 =>
 sCond v62 (
 kB .eql v28 (Z 6) fun v85 =>
 sCond v85 (
 kB .eql v28 (Z 11) fun v86 =>
 j.1.2.2.1 v2 v4 v5 v7 v25 (.func (.func 305) [] [v4, v5]) v28 v86 h3) (
 j.1.2.2.1 v2 v4 v5 v7 v25 (.func (.func 305) [] [v4, v5]) v28 v85 h3)) (
 kL I v4 h3 fun v63 =>
 kL I v4 h3 fun v64 =>
 kN v64 fun v65 =>
 kF 2 v65 fun v66 =>
 kL I v66 h3 fun v67 =>
 kL I v4 h3 fun v68 =>
 kN v68 fun v69 =>
 kF 1 v69 fun v70 =>
 kL I v70 h3 fun v71 =>
 kF 4 v7 fun v72 =>
 kL I v72 h3 fun v73 =>
 kC call 307 [v71, v73] h3 fun v74 h4 =>
 kF 1 v7 fun v76 =>
 kL I v76 h4 fun v77 =>
 bnd (sCallv call (.func (.func 305) [] [v4, v5]) [v77] h4) fun v78 h5 =>
 bndP (pBuild [Z 0, Z 0, Z 0, Z 0, .nils, Z 0, Z 0] [(0, 1, Z 1), (1, 1, v74), (2, 1, v78)]) fun v79 =>
 bnd (sBuildSlice [Z 0, Z 0, Z 0, Z 0, .nils, Z 0, Z 0] 1 [(0, 7, v79)] h5) fun v80 h6 =>
 bnd (sAppend I 7 72 v67 v80 h6) fun v81 h7 =>
 kN v63 fun v82 =>
 kF 2 v82 fun v83 =>
 kS 1 v83 v81 h7 fun _ h8 =>
 sCheck (sSame (lift (pLoad1 I v4 h4) h4) v63 && (sSame (lift (pLoad1 I v4 h5) h5) v63 && (sSame (lift (pLoad1 I v4 h6) h6) v63 && (sSame (lift (pLoad1 I v4 h7) h7) v63 && true)))) (
 sCheck (sSame (lift (pLoad1 I v4 h4) h4) v64 && (sSame (lift (pLoad1 I v4 h5) h5) v64 && (sSame (lift (pLoad1 I v4 h6) h6) v64 && true))) (
 sCheck (sSame (lift (pLoad1 I v66 h4) h4) v67 && (sSame (lift (pLoad1 I v66 h5) h5) v67 && (sSame (lift (pLoad1 I v66 h6) h6) v67 && true))) (
 sCheck (sSame (lift (pLoad1 I v76 h3) h3) v77 && true) (
 some (.tuple [], h8))))))) (
 kL I v4 h3 fun v31 =>
 kN v31 fun v32 =>
 kF 1 v32 fun v33 =>
 kL I v33 h3 fun v34 =>
 kC call 306 [v34] h3 fun v35 h9 =>
 kZ v35 fun v36 =>
 j.1.1.1 v2 v4 v7 (.func (.func 305) [] [v4, v5]) v35 v36 (Z 0) h9)
def f212.T : Lb J212 J212 := fun I call j => (((f212.b0 I call j, f212.b1 I call j), (f212.b2 I call j, (f212.b3 I call j, f212.b4 I call j))), ((f212.b5 I call j, f212.b6 I call j), (f212.b7 I call j, (f212.b8 I call j, f212.b9 I call j))))
def f212.r : Inp → SF := runL f212.T f212.e
theorem f212.k : FOk P 212 f212.r := .of 10 ((([2, 4, 7, 9, 35, 36, 37], [2, 4, 7, 9, 35, 36, 37]), ([2, 4, 7, 9, 35, 36, 37], ([2, 4, 5, 7, 8, 9, 28, 84], [2, 4, 7, 9, 168]))), (([4, 7, 9, 12], [4, 12]), ([4, 9, 12, 189, 190, 191], ([4, 9, 12, 189, 190, 191], [4, 9, 12, 189, 190, 191]))))
def f213.e : Lb Unit A4 := fun I call j v0 v1 v2 v3 h =>
 bnd (sBox v1 h) fun v5 h1 =>
 kF 0 v5 fun v8 =>
 kL I v8 h1 fun v9 =>
 kB .neq v9 (Z 0) fun v10 =>
 sCond v10 (
 some (.tuple [], h1)) (
 kN v0 fun v13 =>
 kF 2 v13 fun v14 =>
 kL I v14 h1 fun v15 =>
 bndP (pBuild [Z 0, Z 0, Z 0, Z 0, .nils, Z 0, Z 0] [(0, 1, Z 2), (1, 1, v2), (2, 1, v3)]) fun v18 =>
 bnd (sBuildSlice [Z 0, Z 0, Z 0, Z 0, .nils, Z 0, Z 0] 1 [(0, 7, v18)] h1) fun v19 h2 =>
 bnd (sAppend I 7 72 v15 v19 h2) fun v20 h3 =>
 kN v0 fun v21 =>
 kF 2 v21 fun v22 =>
 kS 1 v22 v20 h3 fun _ h4 =>
 some (.tuple [], h4))
def f213.T : Lb Unit Unit := fun I call j => ()
def f213.r : Inp → SF := runL f213.T f213.e
theorem f213.k : FOk P 213 f213.r := .of 0 ()
abbrev J214 := A3
def f214.b0 : Lb J214 A3 := fun I call j v0 v1 v2 h =>
 kN v0 fun v23 =>
 kF 0 v23 fun v24 =>
 kL I v24 h fun v25 =>
 kI 1 v25 v1 fun v27 =>
 kL I v27 h fun v28 =>
 kC call 309 [v28, v2] h fun v30 h1 =>
 some (v30, h1)
def f214.e : Lb J214 A3 := fun I call j v0 v1 v2 h =>
 bndP (pEq P .false .ptr .true v0 .nilp h) fun v8 =>
 gV v8 .false v1 h fun v10 h1 =>
 gP v8 .false (pBin .lss v10 (Z 0)) h1 fun v11 h2 =>
 kP v8 bT v11 fun v12 =>
 gV v12 .false v1 h2 fun v14 h3 =>
 gV v12 .false v0 h3 fun v15 h4 =>
 gP v12 .false (pNilCheck v15) h4 fun v16 h5 =>
 gP v12 .false (pFieldAddr 0 v16) h5 fun v17 h6 =>
 gP v12 .false (pLoad1 I v17 h6) h6 fun v18 h7 =>
 gP v12 .false (pLenSl v18) h7 fun v19 h8 =>
 gP v12 .false (pBin .geq v14 v19) h8 fun v20 h9 =>
 kP v12 bT v20 fun v21 =>
 sCond v21 (
 j v0 v1 v2 h9) (
 some ((.int .i64 (.negSucc 0)), h9))
def f214.T : Lb J214 J214 := fun I call j => f214.b0 I call j
def f214.r : Inp → SF := runL f214.T f214.e
theorem f214.k : FOk P 214 f214.r := .of 1 [0, 1, 2]
abbrev J215 := A2
def f215.b0 : Lb J215 A2 := fun I call j v0 v1 h =>
 kN v0 fun v8 =>
 kF 1 v8 fun v9 =>
 kL I v9 h fun v10 =>
 kC call 309 [v10, v1] h fun v12 h1 =>
 some (v12, h1)
def f215.e : Lb J215 A2 := fun I call j v0 v1 h =>
 bndP (pEq P .false .ptr .true v0 .nilp h) fun v6 =>
 sCond v6 (
 j v0 v1 h) (
 some ((.int .i64 (.negSucc 0)), h))
def f215.T : Lb J215 J215 := fun I call j => f215.b0 I call j
def f215.r : Inp → SF := runL f215.T f215.e
theorem f215.k : FOk P 215 f215.r := .of 1 [0, 1]
abbrev J216 := (A3 × A3)
def f216.b0 : Lb J216 A3 := fun I call j v0 v1 v2 h =>
 kN v0 fun v34 =>
 kF 5 v34 fun v35 =>
 kL I v35 h fun v36 =>
 kI 1 v36 v2 fun v38 =>
 kL I v38 h fun v39 =>
 kC call 101 [v39, v1] h fun v41 h1 =>
 sCond v41 (
 j.2 v0 v1 v2 h1) (
 kC call 310 [v0, v1, v2] h1 fun v45 h2 =>
 some (.tuple [], h2))
def f216.b1 : Lb J216 A3 := fun I call j v0 v1 v2 h =>
 kN v0 fun v49 =>
 kF 3 v49 fun v50 =>
 kL I v50 h fun v51 =>
 kI 1 v51 v1 fun v53 =>
 kL I v53 h fun v54 =>
 kC call 134 [v0, v2, v54] h fun v55 h1 =>
 some (.tuple [], h1)
def f216.e : Lb J216 A3 := fun I call j v0 v1 v2 h =>
 kN v0 fun v7 =>
 kF 2 v7 fun v8 =>
 kL I v8 h fun v9 =>
 kC call 77 [v9, v1] h fun v11 h1 =>
 kN v0 fun v13 =>
 kF 2 v13 fun v14 =>
 kL I v14 h1 fun v15 =>
 kC call 77 [v15, v2] h1 fun v17 h2 =>
 sCheck (sSame (lift (pLoad1 I v14 h) h) v15 && true) (
 kB .eql v11 v17 fun v20 =>
 gV v20 .false v0 h2 fun v22 h3 =>
 gP v20 .false (pNilCheck v22) h3 fun v23 h4 =>
 gP v20 .false (pFieldAddr 5 v23) h4 fun v24 h5 =>
 gP v20 .false (pLoad1 I v24 h5) h5 fun v25 h6 =>
 gV v20 .false v11 h6 fun v26 h7 =>
 gP v20 .false (pIndexAddr 1 v25 v26) h7 fun v27 h8 =>
 gP v20 .false (pLoad1 I v27 h8) h8 fun v28 h9 =>
 gV v20 .false v17 h9 fun v29 h10 =>
 gS v20 .false (call 124 [v28, v29] h10) h10 fun v30 h11 =>
 gP v20 .false (pUn .not v30) h11 fun v31 h12 =>
 kP v20 bT v31 fun v32 =>
 sCond v32 (
 j.1 v0 v11 v17 h12) (
 some (.tuple [], h12)))
def f216.T : Lb J216 J216 := fun I call j => (f216.b0 I call j, f216.b1 I call j)
def f216.r : Inp → SF := runL f216.T f216.e
theorem f216.k : FOk P 216 f216.r := .of 2 ([0, 1, 2], [0, 1, 2])
abbrev J217 := A4
def f217.b0 : Lb J217 A4 := fun I call j v2 v7 v8 v10 h =>
 kF 0 v8 fun v62 =>
 kL I v62 h fun v63 =>
 kM I 6 v10 h fun v64 =>
 kC call 308 [v7, v63, v64, v2] h fun v66 h1 =>
 kN v7 fun v68 =>
 kF 2 v68 fun v69 =>
 kL I v69 h1 fun v70 =>
 some (v70, h1)
def f217.e : Lb J217 A3 := fun I call j v0 v1 v2 h =>
 kC call 70 [v0] h fun v14 h1 =>
 bndP (pBuild [.nilp, .nilp, .nils] [(0, 1, v0), (1, 1, v14)]) fun v15 =>
 bnd (sBox v15 h1) fun v16 h2 =>
 kC call 140 [v0, v1] h2 fun v20 h3 =>
 kX v20 0 fun v21 =>
 kX v20 1 fun v22 =>
 kA [Z 0, Z 0, Z 0] h3 fun v8 h4 =>
 kS 3 v8 v21 h4 fun _ h5 =>
 kC call 82 [v0, v1] h5 fun v26 h6 =>
 kX v26 0 fun v27 =>
 kX v26 1 fun v28 =>
 kA [Z 0, Z 0, Z 0, Z 0, Z 0, .nils] h6 fun v10 h7 =>
 kS 6 v10 v27 h7 fun _ h8 =>
 kN v16 fun v30 =>
 kF 1 v30 fun v31 =>
 kL I v31 h8 fun v32 =>
 bndP (pEq P .false .ptr .true v32 .nilp h8) fun v33 =>
 gV v33 .false v22 h8 fun v35 h9 =>
 gP v33 .false (pUn .not v35) h9 fun v36 h10 =>
 kP v33 bT v36 fun v37 =>
 gV v37 .false v28 h10 fun v39 h11 =>
 gP v37 .false (pUn .not v39) h11 fun v40 h12 =>
 kP v37 bT v40 fun v41 =>
 gP v41 .false (pFieldAddr 0 v10) h12 fun v43 h13 =>
 gP v41 .false (pLoad1 I v43 h13) h13 fun v44 h14 =>
 gP v41 .false (pBin .lss v44 (Z 12)) h14 fun v45 h15 =>
 kP v41 bT v45 fun v46 =>
 gP v46 .false (pFieldAddr 0 v10) h15 fun v48 h16 =>
 gP v46 .false (pLoad1 I v48 h16) h16 fun v49 h17 =>
 gP v46 .false (pBin .gtr v49 (Z 14)) h17 fun v50 h18 =>
 kP v46 bT v50 fun v51 =>
 gV v51 .false v16 h18 fun v53 h19 =>
 gP v51 .false (pNilCheck v53) h19 fun v54 h20 =>
 gP v51 .false (pFieldAddr 1 v54) h20 fun v55 h21 =>
 gP v51 .false (pLoad1 I v55 h21) h21 fun v56 h22 =>
 gV v51 .false v2 h22 fun v57 h23 =>
 gS v51 .false (call 215 [v56, v57] h23) h23 fun v58 h24 =>
 gP v51 .false (pBin .lss v58 (Z 0)) h24 fun v59 h25 =>
 kP v51 bT v59 fun v60 =>
 sCond v60 (
 j v2 v16 v8 v10 h25) (
 some (.nils, h25))
def f217.T : Lb J217 J217 := fun I call j => f217.b0 I call j
def f217.r : Inp → SF := runL f217.T f217.e
theorem f217.k : FOk P 217 f217.r := .of 1 [2, 7, 8, 10]
abbrev J218 := A1
def f218.b0 : Lb J218 A1 := fun I call j v0 h =>
 bnd (sBuildSlice [(.int .u64 (.ofNat 0))] 0 [] h) fun v5 h1 =>
 bnd (sAppend I 1 8 v5 v0 h1) fun v7 h2 =>
 some (v7, h2)
def f218.e : Lb J218 A1 := fun I call j v0 h =>
 bndP (pEq P .false .slice .true v0 .nils h) fun v4 =>
 sCond v4 (
 j v0 h) (
 some (.nils, h))
def f218.T : Lb J218 J218 := fun I call j => f218.b0 I call j
def f218.r : Inp → SF := runL f218.T f218.e
theorem f218.k : FOk P 218 f218.r := .of 1 [0]
abbrev J219 := A1
def f219.b0 : Lb J219 A1 := fun I call j v0 h =>
 kN v0 fun v6 =>
 kF 0 v6 fun v7 =>
 kL I v7 h fun v8 =>
 some (v8, h)
def f219.e : Lb J219 A1 := fun I call j v0 h =>
 bndP (pEq P .false .ptr .true v0 .nilp h) fun v4 =>
 sCond v4 (
 j v0 h) (
 some (.nils, h))
def f219.T : Lb J219 J219 := fun I call j => f219.b0 I call j
def f219.r : Inp → SF := runL f219.T f219.e
theorem f219.k : FOk P 219 f219.r := .of 1 [0]
abbrev J220 := A1
def f220.b0 : Lb J220 A1 := fun I call j v0 h =>
 kU .neg v0 fun v7 =>
 kB .and v0 v7 fun v8 =>
 kB .mul v8 (.int .u64 (.ofNat 285870213051353865)) fun v9 =>
 kB .shr v9 (.int .u64 (.ofNat 58)) fun v10 =>
 bndP (pIndexAddrArr 64 1 (.ptr (.inp 2) 0) v10) fun v11 =>
 kL I v11 h fun v12 =>
 bndP (pToInt .i64 v12) fun v13 =>
 some (v13, h)
def f220.e : Lb J220 A1 := fun I call j v0 h =>
 kB .eql v0 (.int .u64 (.ofNat 0)) fun v4 =>
 sCond v4 (
 j v0 h) (
 some ((Z 64), h))
def f220.T : Lb J220 J220 := fun I call j => f220.b0 I call j
def f220.r : Inp → SF := runL f220.T f220.e
theorem f220.k : FOk P 220 f220.r := .of 1 [0]
abbrev J221 := A2
def f221.b0 : Lb J221 A2 := fun I call j v0 v1 h =>
 kN v0 fun v45 =>
 kF 3 v45 fun v46 =>
 kL I v46 h fun v47 =>
 kZ v47 fun v48 =>
 kB .sub v1 v48 fun v49 =>
 some (.tuple [v49, bF], h)
def f221.e : Lb J221 A2 := fun I call j v0 v1 h =>
 bndP (pEq P .false .ptr .true v0 .nilp h) fun v8 =>
 gV v8 .false v1 h fun v10 h1 =>
 gP v8 .false (pBin .lss v10 (Z 0)) h1 fun v11 h2 =>
 kP v8 bT v11 fun v12 =>
 gV v12 .false v1 h2 fun v14 h3 =>
 gV v12 .false v0 h3 fun v15 h4 =>
 gP v12 .false (pNilCheck v15) h4 fun v16 h5 =>
 gP v12 .false (pFieldAddr 3 v16) h5 fun v17 h6 =>
 gP v12 .false (pLoad1 I v17 h6) h6 fun v18 h7 =>
 gP v12 .false (pLenSl v18) h7 fun v19 h8 =>
 gV v12 .false v0 h8 fun v20 h9 =>
 gP v12 .false (pNilCheck v20) h9 fun v21 h10 =>
 gP v12 .false (pFieldAddr 1 v21) h10 fun v22 h11 =>
 gP v12 .false (pLoad1 I v22 h11) h11 fun v23 h12 =>
 gP v12 .false (pLenSl v23) h12 fun v24 h13 =>
 gP v12 .false (pBin .add v19 v24) h13 fun v25 h14 =>
 gP v12 .false (pBin .geq v14 v25) h14 fun v26 h15 =>
 kP v12 bT v26 fun v27 =>
 sCond v27 (
 kN v0 fun v31 =>
 kF 3 v31 fun v32 =>
 kL I v32 h15 fun v33 =>
 kZ v33 fun v34 =>
 kB .lss v1 v34 fun v35 =>
 sCond v35 (
 j v0 v1 h15) (
 kN v0 fun v37 =>
 kF 3 v37 fun v38 =>
 kL I v38 h15 fun v39 =>
 kI 1 v39 v1 fun v41 =>
 kL I v41 h15 fun v42 =>
 some (.tuple [v42, bT], h15))) (
 some (.tuple [(.int .i64 (.negSucc 0)), bF], h15))
def f221.T : Lb J221 J221 := fun I call j => f221.b0 I call j
def f221.r : Inp → SF := runL f221.T f221.e
theorem f221.k : FOk P 221 f221.r := .of 1 [0, 1]
abbrev J222 := (A2 × A3)
def f222.b0 : Lb J222 A2 := fun I call j v0 v3 h =>
 kN v0 fun v9 =>
 kF 3 v9 fun v10 =>
 kL I v10 h fun v11 =>
 kF 0 v3 fun v12 =>
 kL I v12 h fun v13 =>
 kC call 263 [v11, v13] h fun v14 h1 =>
 kB .lss v14 (Z 0) fun v16 =>
 sCond v16 (
 j.2 v0 v3 v14 h1) (
 some ((.int .i64 (.negSucc 0)), h1))
def f222.b1 : Lb J222 A3 := fun I call j v0 v3 v5 h =>
 kN v0 fun v18 =>
 kF 2 v18 fun v19 =>
 kL I v19 h fun v20 =>
 kI 1 v20 v5 fun v22 =>
 kL I v22 h fun v23 =>
 kF 1 v3 fun v24 =>
 kL I v24 h fun v25 =>
 kC call 309 [v23, v25] h fun v26 h1 =>
 some (v26, h1)
def f222.e : Lb J222 A2 := fun I call j v0 v1 h =>
 bnd (sBox v1 h) fun v3 h1 =>
 bndP (pEq P .false .ptr .true v0 .nilp h1) fun v7 =>
 sCond v7 (
 j.1 v0 v3 h1) (
 some ((.int .i64 (.negSucc 0)), h1))
def f222.T : Lb J222 J222 := fun I call j => (f222.b0 I call j, f222.b1 I call j)
def f222.r : Inp → SF := runL f222.T f222.e
theorem f222.k : FOk P 222 f222.r := .of 2 ([0, 3], [0, 3, 5])
abbrev J223 := A2
def f223.b0 : Lb J223 A2 := fun I call j v0 v1 h =>
 kN v0 fun v8 =>
 kF 4 v8 fun v9 =>
 kL I v9 h fun v10 =>
 kN v0 fun v12 =>
 kF 3 v12 fun v13 =>
 kL I v13 h fun v14 =>
 kC call 263 [v14, v1] h fun v16 h1 =>
 kC call 309 [v10, v16] h1 fun v17 h2 =>
 sCheck (sSame (lift (pLoad1 I v9 h1) h1) v10 && true) (
 some (v17, h2))
def f223.e : Lb J223 A2 := fun I call j v0 v1 h =>
 bndP (pEq P .false .ptr .true v0 .nilp h) fun v6 =>
 sCond v6 (
 j v0 v1 h) (
 some ((.int .i64 (.negSucc 0)), h))
def f223.T : Lb J223 J223 := fun I call j => f223.b0 I call j
def f223.r : Inp → SF := runL f223.T f223.e
theorem f223.k : FOk P 223 f223.r := .of 1 [0, 1]
abbrev J224 := (((A2 × A1) × (A5 × A5)) × ((A5 × A6) × (A6 × (A6 × A6))))
def f224.b0 : Lb J224 A2 := fun I call j v0 v1 h =>
 kC call 219 [v1] h fun v11 h1 =>
 kZ v11 fun v12 =>
 j.1.2.1 v0 bF v11 v12 (Z 0) h1
def f224.b1 : Lb J224 A1 := fun I call j v5 h =>
 some (v5, h)
def f224.b2 : Lb J224 A5 := fun I call j v0 v5 v11 v12 v13 h =>
 kB .lss v13 v12 fun v14 =>
 sCond v14 (
 j.1.1.2 v5 h) (
 j.1.2.2 v0 v5 v11 v12 v13 h)
def f224.b3 : Lb J224 A5 := fun I call j v0 v5 v11 v12 v13 h =>
 kI 1 v11 v13 fun v16 =>
 kL I v16 h fun v17 =>
 kC call 165 [v0, v13] h fun v21 h1 =>
 kB .andNot v17 v21 fun v22 =>
 kB .eql v22 (.int .u64 (.ofNat 0)) fun v23 =>
 sCond v23 (
 j.2.1.2 v0 v13 v17 v11 v12 v13 h1) (
 j.2.1.1 v0 v5 v11 v12 v13 h1)
def f224.b4 : Lb J224 A5 := fun I call j v0 v5 v11 v12 v13 h =>
 kB .add v13 (Z 1) fun v50 =>
 j.1.2.1 v0 v5 v11 v12 v50 h
def f224.b5 : Lb J224 A6 := fun I call j v0 v6 v7 v11 v12 v13 h =>
 j.2.2.2.1 v0 v6 v7 v11 v12 v13 h
def f224.b6 : Lb J224 A6 := fun I call j v0 v6 v7 v11 v12 v13 h =>
 kN v0 fun v41 =>
 kF 0 v41 fun v42 =>
 kL I v42 h fun v43 =>
 kI 1 v43 v6 fun v45 =>
 kL I v45 h fun v46 =>
 kB .or v46 v7 fun v48 =>
 kI 1 v43 v6 fun v49 =>
 kS 1 v49 v48 h fun _ h1 =>
 j.2.1.1 v0 bT v11 v12 v13 h1
def f224.b7 : Lb J224 A6 := fun I call j v0 v6 v7 v11 v12 v13 h =>
 kN v0 fun v25 =>
 kF 0 v25 fun v26 =>
 kL I v26 h fun v27 =>
 kZ v27 fun v28 =>
 kB .leq v28 v6 fun v30 =>
 sCond v30 (
 j.2.2.1 v0 v6 v7 v11 v12 v13 h) (
 j.2.2.2.2 v0 v6 v7 v11 v12 v13 h)
def f224.b8 : Lb J224 A6 := fun I call j v0 v6 v7 v11 v12 v13 h =>
 kN v0 fun v33 =>
 kF 0 v33 fun v34 =>
 kL I v34 h fun v35 =>
 bnd (sBuildSlice [(.int .u64 (.ofNat 0))] 1 [(0, 1, (.int .u64 (.ofNat 0)))] h) fun v36 h1 =>
 bnd (sAppend I 1 8 v35 v36 h1) fun v37 h2 =>
 kN v0 fun v38 =>
 kF 0 v38 fun v39 =>
 kS 1 v39 v37 h2 fun _ h3 =>
 j.2.2.2.1 v0 v6 v7 v11 v12 v13 h3
def f224.e : Lb J224 A2 := fun I call j v0 v1 h =>
 bndP (pEq P .false .ptr .true v0 .nilp h) fun v9 =>
 sCond v9 (
 j.1.1.1 v0 v1 h) (
 some (bF, h))
def f224.T : Lb J224 J224 := fun I call j => (((f224.b0 I call j, f224.b1 I call j), (f224.b2 I call j, f224.b3 I call j)), ((f224.b4 I call j, f224.b5 I call j), (f224.b6 I call j, (f224.b7 I call j, f224.b8 I call j))))
def f224.r : Inp → SF := runL f224.T f224.e
theorem f224.k : FOk P 224 f224.r := .of 9 ((([0, 1], [5]), ([0, 5, 11, 12, 13], [0, 5, 11, 12, 13])), (([0, 5, 11, 12, 13], [0, 6, 7, 11, 12, 13]), ([0, 6, 7, 11, 12, 13], ([0, 6, 7, 11, 12, 13], [0, 6, 7, 11, 12, 13]))))
abbrev J225 := A2
def f225.b0 : Lb J225 A2 := fun I call j v0 v1 h =>
 kN v0 fun v16 =>
 kF 2 v16 fun v17 =>
 kL I v17 h fun v18 =>
 bnd (mapPutV (.one .i) v18 v1 bT h) fun _ h1 =>
 kN v0 fun v22 =>
 kF 1 v22 fun v23 =>
 kL I v23 h1 fun v24 =>
 bnd (sBuildSlice [Z 0] 1 [(0, 1, v1)] h1) fun v26 h2 =>
 bnd (sAppend I 1 8 v24 v26 h2) fun v27 h3 =>
 kN v0 fun v28 =>
 kF 1 v28 fun v29 =>
 kS 1 v29 v27 h3 fun _ h4 =>
 some (bT, h4)
def f225.e : Lb J225 A2 := fun I call j v0 v1 h =>
 bndP (pEq P .false .ptr .true v0 .nilp h) fun v6 =>
 gV v6 .false v0 h fun v8 h1 =>
 gP v6 .false (pNilCheck v8) h1 fun v9 h2 =>
 gP v6 .false (pFieldAddr 2 v9) h2 fun v10 h3 =>
 gP v6 .false (pLoad1 I v10 h3) h3 fun v11 h4 =>
 gV v6 .false v1 h4 fun v12 h5 =>
 gP v6 .false (mapGetV (.one .i) bF .false v11 v12 h5) h5 fun v13 h6 =>
 kP v6 bT v13 fun v14 =>
 sCond v14 (
 j v0 v1 h6) (
 some (bF, h6))
def f225.T : Lb J225 J225 := fun I call j => f225.b0 I call j
def f225.r : Inp → SF := runL f225.T f225.e
theorem f225.k : FOk P 225 f225.r := .of 1 [0, 1]
abbrev J226 := (((A2 × A1) × (A5 × A5)) × ((A5 × A8) × (A8 × A8)))
def f226.b0 : Lb J226 A2 := fun I call j v0 v3 h =>
 kF 2 v3 fun v12 =>
 kL I v12 h fun v13 =>
 kF 0 v3 fun v14 =>
 kL I v14 h fun v15 =>
 kB .add v15 (Z 1) fun v16 =>
 j.1.2.1 v0 v3 v13 v16 (Z 0) h
def f226.b1 : Lb J226 A1 := fun I call j v5 h =>
 some (v5, h)
def f226.b2 : Lb J226 A5 := fun I call j v0 v3 v5 v16 v17 h =>
 kB .lss v17 v16 fun v18 =>
 sCond v18 (
 j.1.1.2 v5 h) (
 j.1.2.2 v0 v3 v5 v16 v17 h)
def f226.b3 : Lb J226 A5 := fun I call j v0 v3 v5 v16 v17 h =>
 kN v0 fun v21 =>
 kF 4 v21 fun v22 =>
 kL I v22 h fun v23 =>
 kI 3 v23 v17 fun v25 =>
 kF 2 v25 fun v26 =>
 kL I v26 h fun v27 =>
 kZ v27 fun v28 =>
 j.2.1.2 v0 v3 v5 v17 v16 v17 v28 (Z 0) h
def f226.b4 : Lb J226 A5 := fun I call j v0 v3 v5 v16 v17 h =>
 kB .add v17 (Z 1) fun v59 =>
 j.1.2.1 v0 v3 v5 v16 v59 h
def f226.b5 : Lb J226 A8 := fun I call j v0 v3 v5 v6 v16 v17 v28 v29 h =>
 kB .lss v29 v28 fun v30 =>
 sCond v30 (
 j.2.1.1 v0 v3 v5 v16 v17 h) (
 j.2.2.1 v0 v3 v5 v6 v16 v17 v28 v29 h)
def f226.b6 : Lb J226 A8 := fun I call j v0 v3 v5 v6 v16 v17 v28 v29 h =>
 kF 0 v3 fun v33 =>
 kL I v33 h fun v34 =>
 kB .lss v6 v34 fun v35 =>
 gV v35 .false v29 h fun v37 h1 =>
 gP v35 .false (pFieldAddr 1 v3) h1 fun v38 h2 =>
 gP v35 .false (pLoad1 I v38 h2) h2 fun v39 h3 =>
 gP v35 .false (pBin .lss v37 v39) h3 fun v40 h4 =>
 kP v35 bT v40 fun v41 =>
 sCond v41 (
 j.2.2.2 v0 v3 v5 v6 v16 v17 v28 v29 h4) (
 kN v0 fun v44 =>
 kF 4 v44 fun v45 =>
 kL I v45 h4 fun v46 =>
 kI 3 v46 v6 fun v48 =>
 kF 2 v48 fun v49 =>
 kL I v49 h4 fun v50 =>
 kI 5 v50 v29 fun v52 =>
 kF 0 v52 fun v53 =>
 kL I v53 h4 fun v54 =>
 kZ v54 fun v55 =>
 kB .add v55 (Z 1) fun v56 =>
 kB .add v5 v56 fun v57 =>
 j.2.2.2 v0 v3 v57 v6 v16 v17 v28 v29 h4)
def f226.b7 : Lb J226 A8 := fun I call j v0 v3 v5 v6 v16 v17 v28 v29 h =>
 kB .add v29 (Z 1) fun v58 =>
 j.2.1.2 v0 v3 v5 v6 v16 v17 v28 v58 h
def f226.e : Lb J226 A2 := fun I call j v0 v1 h =>
 bnd (sBox v1 h) fun v3 h1 =>
 kM I 3 v3 h1 fun v9 =>
 kC call 141 [v0, v9] h1 fun v10 h2 =>
 bndP (pEq P .false .ptr .true v10 .nilp h2) fun v11 =>
 sCond v11 (
 j.1.1.1 v0 v3 h2) (
 some ((.int .i64 (.negSucc 0)), h2))
def f226.T : Lb J226 J226 := fun I call j => (((f226.b0 I call j, f226.b1 I call j), (f226.b2 I call j, f226.b3 I call j)), ((f226.b4 I call j, f226.b5 I call j), (f226.b6 I call j, f226.b7 I call j)))
def f226.r : Inp → SF := runL f226.T f226.e
theorem f226.k : FOk P 226 f226.r := .of 8 ((([0, 3], [5]), ([0, 3, 5, 16, 17], [0, 3, 5, 16, 17])), (([0, 3, 5, 16, 17], [0, 3, 5, 6, 16, 17, 28, 29]), ([0, 3, 5, 6, 16, 17, 28, 29], [0, 3, 5, 6, 16, 17, 28, 29])))
abbrev J227 := ((A3 × (A3 × A1)) × (A6 × (A6 × A6)))
def f227.b0 : Lb J227 A3 := fun I call j v0 v1 v5 h =>
 kC call 84 [v0, v1] h fun v22 h1 =>
 bndP (pEq P .false .ptr .true v22 .nilp h1) fun v24 =>
 sCond v24 (
 j.1.2.1 v0 v5 v22 h1) (
 kB .add v1 (Z 1) fun v26 =>
 bnd (sBuildSlice [Z 0] 1 [(0, 1, v26)] h1) fun v27 h2 =>
 some (v27, h2))
def f227.b1 : Lb J227 A3 := fun I call j v0 v5 v7 h =>
 kC call 295 [v7] h fun v29 h1 =>
 kZ v29 fun v30 =>
 j.2.1 v0 v5 .nils v29 v30 (Z 0) h1
def f227.b2 : Lb J227 A1 := fun I call j v8 h =>
 some (v8, h)
def f227.b3 : Lb J227 A6 := fun I call j v0 v5 v8 v29 v30 v31 h =>
 kB .lss v31 v30 fun v32 =>
 sCond v32 (
 j.1.2.2 v8 h) (
 j.2.2.1 v0 v5 v8 v29 v30 v31 h)
def f227.b4 : Lb J227 A6 := fun I call j v0 v5 v8 v29 v30 v31 h =>
 kI 1 v29 v31 fun v33 =>
 kL I v33 h fun v34 =>
 kF 0 v5 fun v36 =>
 kL I v36 h fun v37 =>
 bndP (pBuild [Z 0, Z 0, Z 0] [(0, 1, v37), (1, 1, v34)]) fun v39 =>
 kC call 226 [v0, v39] h fun v40 h1 =>
 kB .geq v40 (Z 0) fun v42 =>
 sCond v42 (
 j.2.2.2 v0 v5 v8 v29 v30 v31 h1) (
 bnd (sBuildSlice [Z 0] 1 [(0, 1, v40)] h1) fun v45 h2 =>
 bnd (sAppend I 1 8 v8 v45 h2) fun v46 h3 =>
 j.2.2.2 v0 v5 v46 v29 v30 v31 h3)
def f227.b5 : Lb J227 A6 := fun I call j v0 v5 v8 v29 v30 v31 h =>
 kB .add v31 (Z 1) fun v47 =>
 j.2.1 v0 v5 v8 v29 v30 v47 h
def f227.e : Lb J227 A2 := fun I call j v0 v1 h =>
 kC call 140 [v0, v1] h fun v15 h1 =>
 kX v15 0 fun v16 =>
 kX v15 1 fun v17 =>
 kA [Z 0, Z 0, Z 0] h1 fun v5 h2 =>
 kS 3 v5 v16 h2 fun _ h3 =>
 kU .not v17 fun v19 =>
 sCond v19 (
 j.1.1 v0 v1 v5 h3) (
 some (.nils, h3))
def f227.T : Lb J227 J227 := fun I call j => ((f227.b0 I call j, (f227.b1 I call j, f227.b2 I call j)), (f227.b3 I call j, (f227.b4 I call j, f227.b5 I call j)))
def f227.r : Inp → SF := runL f227.T f227.e
theorem f227.k : FOk P 227 f227.r := .of 6 (([0, 1, 5], ([0, 5, 7], [8])), ([0, 5, 8, 29, 30, 31], ([0, 5, 8, 29, 30, 31], [0, 5, 8, 29, 30, 31])))
abbrev J228 := A4
def f228.b0 : Lb J228 A4 := fun I call j v0 v1 v2 v3 h =>
 kC call 235 [v0, v1, v2, v3] h fun v33 h1 =>
 kC call 236 [v33] h1 fun v34 h2 =>
 some (v34, h2)
def f228.e : Lb J228 A4 := fun I call j v0 v1 v2 v3 h =>
 kC call 82 [v0, v2] h fun v14 h1 =>
 kX v14 0 fun v15 =>
 kX v14 1 fun v16 =>
 kA [Z 0, Z 0, Z 0, Z 0, Z 0, .nils] h1 fun v9 h2 =>
 kS 6 v9 v15 h2 fun _ h3 =>
 gP v16 .true (pLoadN I 6 v9 h3) h3 fun v19 h4 =>
 gS v16 .true (call 255 [v19] h4) h4 fun v20 h5 =>
 kP v16 v20 bF fun v21 =>
 sCond v21 (
 j v0 v1 v2 v3 h5) (
 kC call 148 [v1, v2] h5 fun v26 h6 =>
 kC call 139 [v0, v1, v26, v3] h6 fun v28 h7 =>
 some (v28, h7))
def f228.T : Lb J228 J228 := fun I call j => f228.b0 I call j
def f228.r : Inp → SF := runL f228.T f228.e
theorem f228.k : FOk P 228 f228.r := .of 1 [0, 1, 2, 3]
abbrev J231 := (((A1 × A1) × (A2 × A2)) × ((A2 × A2) × (A4 × (A4 × A4))))
def f231.b0 : Lb J231 A1 := fun I call j v0 h =>
 j.1.2.1 v0 (Z 1) h
def f231.b1 : Lb J231 A1 := fun I call j v0 h =>
 some (v0, h)
def f231.b2 : Lb J231 A2 := fun I call j v0 v3 h =>
 kZ v0 fun v12 =>
 kB .lss v3 v12 fun v13 =>
 sCond v13 (
 j.1.1.2 v0 h) (
 j.1.2.2 v0 v3 h)
def f231.b3 : Lb J231 A2 := fun I call j v0 v3 h =>
 kI 2 v0 v3 fun v18 =>
 kM I 2 v18 h fun v19 =>
 kB .sub v3 (Z 1) fun v22 =>
 kI 2 v0 v22 fun v23 =>
 kM I 2 v23 h fun v24 =>
 bndP (pEq P .false (.struct [.i, .i]) .false v19 v24 h) fun v25 =>
 sCond v25 (
 j.2.1.1 v0 v3 h) (
 bndP (pSliceS 2 v0 (some v3) none none) fun v28 =>
 j.2.2.1 v0 v3 v28 (Z 1) h)
def f231.b4 : Lb J231 A2 := fun I call j v0 v3 h =>
 kB .add v3 (Z 1) fun v15 =>
 j.1.2.1 v0 v15 h
def f231.b5 : Lb J231 A2 := fun I call j v0 v3 h =>
 bndP (pSliceS 2 v0 (some v3) none none) fun v56 =>
 bnd (clearV [Z 0, Z 0] v56 h) fun _ h1 =>
 bndP (pSliceS 2 v0 none (some v3) none) fun v59 =>
 some (v59, h1)
def f231.b6 : Lb J231 A4 := fun I call j v0 v3 v4 v5 h =>
 kZ v4 fun v31 =>
 kB .lss v5 v31 fun v32 =>
 sCond v32 (
 j.2.1.2 v0 v3 h) (
 j.2.2.2.1 v0 v3 v4 v5 h)
def f231.b7 : Lb J231 A4 := fun I call j v0 v3 v4 v5 h =>
 kI 2 v4 v5 fun v37 =>
 kM I 2 v37 h fun v38 =>
 kB .sub v5 (Z 1) fun v41 =>
 kI 2 v4 v41 fun v42 =>
 kM I 2 v42 h fun v43 =>
 bndP (pEq P .true (.struct [.i, .i]) .false v38 v43 h) fun v44 =>
 sCond v44 (
 j.2.2.2.2 v0 v3 v4 v5 h) (
 kI 2 v4 v5 fun v49 =>
 kM I 2 v49 h fun v50 =>
 kI 2 v0 v3 fun v51 =>
 kS 2 v51 v50 h fun _ h1 =>
 kB .add v3 (Z 1) fun v53 =>
 j.2.2.2.2 v0 v53 v4 v5 h1)
def f231.b8 : Lb J231 A4 := fun I call j v0 v3 v4 v5 h =>
 kB .add v5 (Z 1) fun v34 =>
 j.2.2.1 v0 v3 v4 v34 h
def f231.e : Lb J231 A1 := fun I call j v0 h =>
 kZ v0 fun v7 =>
 kB .lss v7 (Z 2) fun v8 =>
 sCond v8 (
 j.1.1.1 v0 h) (
 some (v0, h))
def f231.T : Lb J231 J231 := fun I call j => (((f231.b0 I call j, f231.b1 I call j), (f231.b2 I call j, f231.b3 I call j)), ((f231.b4 I call j, f231.b5 I call j), (f231.b6 I call j, (f231.b7 I call j, f231.b8 I call j))))
def f231.r : Inp → SF := runL f231.T f231.e
theorem f231.k : FOk P 231 f231.r := .of 9 ((([0], [0]), ([0, 3], [0, 3])), (([0, 3], [0, 3]), ([0, 3, 4, 5], ([0, 3, 4, 5], [0, 3, 4, 5]))))
abbrev J232 := ((A3 × A2) × (A4 × (A4 × A4)))
def f232.b0 : Lb J232 A3 := fun I call j v0 v1 v5 h =>
 kB .add v5 (Z 1) fun v15 =>
 j.2.1 v0 v1 v5 v15 h
def f232.b1 : Lb J232 A2 := fun I call j v0 v5 h =>
 bndP (pSliceS 1 v0 (some v5) none none) fun v38 =>
 bnd (clearV [Z 0] v38 h) fun _ h1 =>
 bndP (pSliceS 1 v0 none (some v5) none) fun v41 =>
 some (v41, h1)
def f232.b2 : Lb J232 A4 := fun I call j v0 v1 v5 v6 h =>
 kZ v0 fun v18 =>
 kB .lss v6 v18 fun v19 =>
 sCond v19 (
 j.1.2 v0 v5 h) (
 j.2.2.1 v0 v1 v5 v6 h)
def f232.b3 : Lb J232 A4 := fun I call j v0 v1 v5 v6 h =>
 kI 1 v0 v6 fun v24 =>
 kL I v24 h fun v25 =>
 bnd (sCallv call v1 [v25] h) fun v28 h1 =>
 kU .not v28 fun v29 =>
 sCond v29 (
 j.2.2.2 v0 v1 v5 v6 h1) (
 kI 1 v0 v5 fun v33 =>
 kS 1 v33 v25 h1 fun _ h2 =>
 kB .add v5 (Z 1) fun v35 =>
 j.2.2.2 v0 v1 v35 v6 h2)
def f232.b4 : Lb J232 A4 := fun I call j v0 v1 v5 v6 h =>
 kB .add v6 (Z 1) fun v21 =>
 j.2.1 v0 v1 v5 v21 h
def f232.e : Lb J232 A2 := fun I call j v0 v1 h =>
 kC call 262 [v0, v1] h fun v10 h1 =>
 kB .eql v10 (.int .i64 (.negSucc 0)) fun v12 =>
 sCond v12 (
 j.1.1 v0 v1 v10 h1) (
 some (v0, h1))
def f232.T : Lb J232 J232 := fun I call j => ((f232.b0 I call j, f232.b1 I call j), (f232.b2 I call j, (f232.b3 I call j, f232.b4 I call j)))
def f232.r : Inp → SF := runL f232.T f232.e
theorem f232.k : FOk P 232 f232.r := .of 5 (([0, 1, 5], [0, 5]), ([0, 1, 5, 6], ([0, 1, 5, 6], [0, 1, 5, 6])))
def f233.e : Lb Unit A2 := fun I call j v0 v1 h =>
 kL I v1 h fun v4 =>
 kC call 57 [v4, v0] h fun v6 h1 =>
 kU .not v6 fun v7 =>
 some (v7, h1)
def f233.T : Lb Unit Unit := fun I call j => ()
def f233.r : Inp → SF := runL f233.T f233.e
theorem f233.k : FOk P 233 f233.r := .of 0 ()
abbrev J234 := (((A3 × A2) × (A6 × A6)) × ((A6 × A2) × (A4 × (A4 × A4))))
def f234.b0 : Lb J234 A3 := fun I call j v0 v1 v4 h =>
 sKeep 1 h fun h1 =>
 kN v0 fun v15 =>
 kF 4 v15 fun v16 =>
 kL I v16 h1 fun v17 =>
 kZ v17 fun v18 =>
 kN v0 fun v20 =>
 kF 4 v20 fun v21 =>
 kL I v21 h1 fun v22 =>
 kZ v22 fun v23 =>
 bnd (sResvMake (h.next + 0) [.nils] 24 v23 v23 h1) fun v24 h2 =>
 bndP (pBuild [Z 0, .nils] [(0, 1, v18), (1, 1, v24)]) fun v25 =>
 bnd (sResvAlloc (h.next + 1) [Z 0, .nils] h2) fun v5 h3 =>
 kS 2 v5 v25 h3 fun _ h4 =>
 sCheck (sSame (lift (pLoad1 I v16 h2) h2) v17 && (sSame (lift (pLoad1 I v16 h3) h3) v17 && true)) (
 kC call 56 [v1] h4 fun v27 h5 =>
 kZ v27 fun v28 =>
 j.1.2.1 v0 v4 v5 v27 v28 (Z 0) h5)
def f234.b1 : Lb J234 A2 := fun I call j v4 v5 h =>
 kF 1 v5 fun v57 =>
 kL I v57 h fun v58 =>
 kZ v58 fun v59 =>
 j.2.2.1 v4 v5 v59 (Z 0) h
def f234.b2 : Lb J234 A6 := fun I call j v0 v4 v5 v27 v28 v29 h =>
 kB .lss v29 v28 fun v30 =>
 sCond v30 (
 j.1.1.2 v4 v5 h) (
 j.1.2.2 v0 v4 v5 v27 v28 v29 h)
def f234.b3 : Lb J234 A6 := fun I call j v0 v4 v5 v27 v28 v29 h =>
 kI 2 v27 v29 fun v31 =>
 kM I 2 v31 h fun v32 =>
 kA [Z 0, Z 0] h fun v7 h1 =>
 kS 2 v7 v32 h1 fun _ h2 =>
 kF 0 v7 fun v35 =>
 kL I v35 h2 fun v36 =>
 kC call 140 [v0, v36] h2 fun v37 h3 =>
 kX v37 0 fun v38 =>
 kX v37 1 fun v39 =>
 kA [Z 0, Z 0, Z 0] h3 fun v8 h4 =>
 kS 3 v8 v38 h4 fun _ h5 =>
 sCond v39 (
 j.2.1.1 v0 v4 v5 v27 v28 v29 h5) (
 kF 1 v5 fun v41 =>
 kL I v41 h5 fun v42 =>
 kF 0 v8 fun v43 =>
 kL I v43 h5 fun v44 =>
 kF 1 v5 fun v45 =>
 kL I v45 h5 fun v46 =>
 kF 0 v8 fun v47 =>
 kL I v47 h5 fun v48 =>
 kI 1 v46 v48 fun v49 =>
 kL I v49 h5 fun v50 =>
 kF 1 v7 fun v51 =>
 kL I v51 h5 fun v52 =>
 bnd (sBuildSlice [Z 0] 1 [(0, 1, v52)] h5) fun v53 h6 =>
 bnd (sAppend I 1 8 v50 v53 h6) fun v54 h7 =>
 kI 1 v42 v44 fun v55 =>
 kS 1 v55 v54 h7 fun _ h8 =>
 sCheck (sSame (lift (pLoad1 I v41 h6) h6) v42 && (sSame (lift (pLoad1 I v41 h7) h7) v42 && true)) (
 sCheck (sSame (lift (pLoad1 I v43 h6) h6) v44 && (sSame (lift (pLoad1 I v43 h7) h7) v44 && true)) (
 sCheck (sSame (lift (pLoad1 I v45 h6) h6) v46 && true) (
 sCheck (sSame (lift (pLoad1 I v47 h6) h6) v48 && true) (
 sCheck (sSame (lift (pLoad1 I v49 h6) h6) v50 && true) (
 j.2.1.1 v0 v4 v5 v27 v28 v29 h8))))))
def f234.b4 : Lb J234 A6 := fun I call j v0 v4 v5 v27 v28 v29 h =>
 kB .add v29 (Z 1) fun v56 =>
 j.1.2.1 v0 v4 v5 v27 v28 v56 h
def f234.b5 : Lb J234 A2 := fun I call j v4 v5 h =>
 kM I 2 v5 h fun v74 =>
 kS 2 v4 v74 h fun _ h1 =>
 sRet (sCons (sResN I 2 v4 h1) (some [])) h1
def f234.b6 : Lb J234 A4 := fun I call j v4 v5 v59 v60 h =>
 kB .lss v60 v59 fun v61 =>
 sCond v61 (
 j.2.1.2 v4 v5 h) (
 j.2.2.2.1 v4 v5 v59 v60 h)
def f234.b7 : Lb J234 A4 := fun I call j v4 v5 v59 v60 h =>
 kF 1 v5 fun v63 =>
 kL I v63 h fun v64 =>
 kF 1 v5 fun v66 =>
 kL I v66 h fun v67 =>
 kI 1 v67 v60 fun v69 =>
 kL I v69 h fun v70 =>
 kC call 257 [v70] h fun v71 h1 =>
 kI 1 v64 v60 fun v72 =>
 kS 1 v72 v71 h1 fun _ h2 =>
 sCheck (sSame (lift (pLoad1 I v63 h1) h1) v64 && true) (
 j.2.2.2.2 v4 v5 v59 v60 h2)
def f234.b8 : Lb J234 A4 := fun I call j v4 v5 v59 v60 h =>
 kB .add v60 (Z 1) fun v73 =>
 j.2.2.1 v4 v5 v59 v73 h
def f234.e : Lb J234 A2 := fun I call j v0 v1 h =>
 kA [Z 0, .nils] h fun v4 h1 =>
 bndP (pEq P .false .ptr .true v0 .nilp h1) fun v12 =>
 sCond v12 (
 j.1.1.1 v0 v1 v4 h1) (
 bndP (pBuild [Z 0, .nils] []) fun v13 =>
 kS 2 v4 v13 h1 fun _ h2 =>
 sRet (sCons (sResN I 2 v4 h2) (some [])) h2)
def f234.T : Lb J234 J234 := fun I call j => (((f234.b0 I call j, f234.b1 I call j), (f234.b2 I call j, f234.b3 I call j)), ((f234.b4 I call j, f234.b5 I call j), (f234.b6 I call j, (f234.b7 I call j, f234.b8 I call j))))
def f234.r : Inp → SF := runL f234.T f234.e
theorem f234.k : FOk P 234 f234.r := .of 9 ((([0, 1, 4], [4, 5]), ([0, 4, 5, 27, 28, 29], [0, 4, 5, 27, 28, 29])), (([0, 4, 5, 27, 28, 29], [4, 5]), ([4, 5, 59, 60], ([4, 5, 59, 60], [4, 5, 59, 60]))))
abbrev J235 := (A0 × A6)
def f235.b0 : Lb J235 A0 := fun I call j h =>
 some (.nils, h)
def f235.b1 : Lb J235 A6 := fun I call j v0 v1 v2 v3 v9 v20 h =>
 sCond v20 (
 kU .not v3 fun v39 =>
 gP v39 .true (pFieldAddr 0 v9) h fun v41 h1 =>
 gP v39 .true (pLoad1 I v41 h1) h1 fun v42 h2 =>
 gP v39 .true (pBin .eql v42 (Z 5)) h2 fun v43 h3 =>
 kP v39 v43 bF fun v44 =>
 sCond v44 (
 j.1 h3) (
 kC call 312 [v0, v1, v2] h3 fun v48 h4 =>
 some (v48, h4))) (
 kC call 145 [v1, v2] h fun v36 h5 =>
 some (v36, h5))
def f235.e : Lb J235 A4 := fun I call j v0 v1 v2 v3 h =>
 kC call 82 [v0, v2] h fun v14 h1 =>
 kX v14 0 fun v15 =>
 kX v14 1 fun v16 =>
 kA [Z 0, Z 0, Z 0, Z 0, Z 0, .nils] h1 fun v9 h2 =>
 kS 6 v9 v15 h2 fun _ h3 =>
 kU .not v16 fun v19 =>
 sCond v19 (
 gP v3 .true (pFieldAddr 0 v9) h3 fun v23 h4 =>
 gP v3 .true (pLoad1 I v23 h4) h4 fun v24 h5 =>
 gP v3 .true (pBin .eql v24 (Z 7)) h5 fun v25 h6 =>
 kP v3 v25 bF fun v26 =>
 sCond v26 (
 kU .not v3 fun v28 =>
 gP v28 .true (pFieldAddr 0 v9) h6 fun v30 h7 =>
 gP v28 .true (pLoad1 I v30 h7) h7 fun v31 h8 =>
 gP v28 .true (pBin .eql v31 (Z 8)) h8 fun v32 h9 =>
 kP v28 v32 bF fun v33 =>
 j.2 v0 v1 v2 v3 v9 v33 h9) (
 j.2 v0 v1 v2 v3 v9 v26 h6)) (
 j.1 h3)
def f235.T : Lb J235 J235 := fun I call j => (f235.b0 I call j, f235.b1 I call j)
def f235.r : Inp → SF := runL f235.T f235.e
theorem f235.k : FOk P 235 f235.r := .of 2 ([], [0, 1, 2, 3, 9, 20])
def f236.e : Lb Unit A1 := fun I call j v0 h =>
 kC call 229 [v0, (.func (.func 313) [] [])] h fun v4 h1 =>
 kC call 231 [v0] h1 fun v6 h2 =>
 some (v6, h2)
def f236.T : Lb Unit Unit := fun I call j => ()
def f236.r : Inp → SF := runL f236.T f236.e
theorem f236.k : FOk P 236 f236.r := .of 0 ()
abbrev J237 := ((A2 × A1) × (A4 × (A4 × A4)))
def f237.b0 : Lb J237 A2 := fun I call j v11 v13 h =>
 kZ v11 fun v66 =>
 j.2.1 v13 v11 v66 (Z 0) h
def f237.b1 : Lb J237 A1 := fun I call j v13 h =>
 some (v13, h)
def f237.b2 : Lb J237 A4 := fun I call j v13 v65 v66 v67 h =>
 kB .lss v67 v66 fun v68 =>
 sCond v68 (
 j.1.2 v13 h) (
 j.2.2.1 v13 v65 v66 v67 h)
def f237.b3 : Lb J237 A4 := fun I call j v13 v65 v66 v67 h =>
 kI 1 v65 v67 fun v69 =>
 kL I v69 h fun v70 =>
 bndP (pBuild [Z 0, Z 0, Z 0, Z 0, Z 0] [(0, 1, Z 1), (1, 1, v70)]) fun v73 =>
 bnd (sBuildSlice [Z 0, Z 0, Z 0, Z 0, Z 0] 1 [(0, 5, v73)] h) fun v74 h1 =>
 bnd (sAppend I 5 40 v13 v74 h1) fun v75 h2 =>
 j.2.2.2 v75 v65 v66 v67 h2
def f237.b4 : Lb J237 A4 := fun I call j v13 v65 v66 v67 h =>
 kB .add v67 (Z 1) fun v76 =>
 j.2.1 v13 v65 v66 v76 h
def f237.e : Lb J237 A5 := fun I call j v0 v1 v2 v3 v4 h =>
 bnd (sBox v0 h) fun v5 h1 =>
 bnd (sBox v4 h1) fun v9 h2 =>
 kC call 314 [v1, v3, (.func (.func 315) [] [v5, v9])] h2 fun v21 h3 =>
 kX v21 0 fun v22 =>
 kX v21 1 fun v23 =>
 kL I v5 h3 fun v24 =>
 kN v24 fun v25 =>
 kF 4 v25 fun v26 =>
 kL I v26 h3 fun v27 =>
 kI 3 v27 v2 fun v29 =>
 kF 0 v29 fun v30 =>
 kL I v30 h3 fun v31 =>
 gV v23 .true v31 h3 fun v34 h4 =>
 gP v23 .true (pBin .geq v34 (Z 0)) h4 fun v35 h5 =>
 kP v23 v35 bF fun v36 =>
 gV v36 .true v31 h5 fun v38 h6 =>
 gP v36 .true (pLoad1 I v5 h6) h6 fun v39 h7 =>
 gP v36 .true (pNilCheck v39) h7 fun v40 h8 =>
 gP v36 .true (pFieldAddr 1 v40) h8 fun v41 h9 =>
 gP v36 .true (pLoad1 I v41 h9) h9 fun v42 h10 =>
 gP v36 .true (pLenSl v42) h10 fun v43 h11 =>
 gP v36 .true (pBin .lss v38 v43) h11 fun v44 h12 =>
 kP v36 v44 bF fun v45 =>
 gP v45 .true (pLoad1 I v9 h12) h12 fun v47 h13 =>
 gP v45 .true (pLoad1 I v5 h13) h13 fun v48 h14 =>
 gP v45 .true (pNilCheck v48) h14 fun v49 h15 =>
 gP v45 .true (pFieldAddr 1 v49) h15 fun v50 h16 =>
 gP v45 .true (pLoad1 I v50 h16) h16 fun v51 h17 =>
 gV v45 .true v31 h17 fun v52 h18 =>
 gP v45 .true (pIndexAddr 3 v51 v52) h18 fun v53 h19 =>
 gP v45 .true (pFieldAddr 0 v53) h19 fun v54 h20 =>
 gP v45 .true (pLoad1 I v54 h20) h20 fun v55 h21 =>
 gP v45 .true (pLenSl v55) h21 fun v56 h22 =>
 gP v45 .true (pBin .lss v47 v56) h22 fun v57 h23 =>
 kP v45 v57 bF fun v58 =>
 sCond v58 (
 j.1.1 v22 .nils h23) (
 kL I v9 h23 fun v61 =>
 bndP (pBuild [Z 0, Z 0, Z 0, Z 0, Z 0] [(0, 1, Z 2), (1, 1, v2), (2, 1, v61)]) fun v62 =>
 bnd (sBuildSlice [Z 0, Z 0, Z 0, Z 0, Z 0] 1 [(0, 5, v62)] h23) fun v63 h24 =>
 bnd (sAppend I 5 40 .nils v63 h24) fun v64 h25 =>
 j.1.1 v22 v64 h25)
def f237.T : Lb J237 J237 := fun I call j => ((f237.b0 I call j, f237.b1 I call j), (f237.b2 I call j, (f237.b3 I call j, f237.b4 I call j)))
def f237.r : Inp → SF := runL f237.T f237.e
theorem f237.k : FOk P 237 f237.r := .of 5 (([11, 13], [13]), ([13, 65, 66, 67], ([13, 65, 66, 67], [13, 65, 66, 67])))
def f238.e : Lb Unit A2 := fun I call j v0 v1 h =>
 kN v0 fun v6 =>
 kF 3 v6 fun v7 =>
 kL I v7 h fun v8 =>
 kI 1 v8 v1 fun v10 =>
 kL I v10 h fun v11 =>
 some (v11, h)
def f238.T : Lb Unit Unit := fun I call j => ()
def f238.r : Inp → SF := runL f238.T f238.e
theorem f238.k : FOk P 238 f238.r := .of 0 ()
abbrev J239 := A2
def f239.b0 : Lb J239 A2 := fun I call j v0 v1 h =>
 kN v0 fun v17 =>
 kF 3 v17 fun v18 =>
 kL I v18 h fun v19 =>
 kN v0 fun v21 =>
 kF 2 v21 fun v22 =>
 kL I v22 h fun v23 =>
 kC call 77 [v23, v1] h fun v25 h1 =>
 kI 1 v19 v25 fun v26 =>
 kL I v26 h1 fun v27 =>
 kC call 132 [v27] h1 fun v28 h2 =>
 sCheck (sSame (lift (pLoad1 I v18 h1) h1) v19 && true) (
 some (v28, h2))
def f239.e : Lb J239 A2 := fun I call j v0 v1 h =>
 bndP (pEq P .false .ptr .true v0 .nilp h) fun v6 =>
 gV v6 .false v0 h fun v8 h1 =>
 gP v6 .false (pNilCheck v8) h1 fun v9 h2 =>
 gP v6 .false (pFieldAddr 2 v9) h2 fun v10 h3 =>
 gP v6 .false (pLoad1 I v10 h3) h3 fun v11 h4 =>
 gV v6 .false v1 h4 fun v12 h5 =>
 gS v6 .false (call 77 [v11, v12] h5) h5 fun v13 h6 =>
 gP v6 .false (pBin .lss v13 (Z 0)) h6 fun v14 h7 =>
 kP v6 bT v14 fun v15 =>
 sCond v15 (
 j v0 v1 h7) (
 some (.nils, h7))
def f239.T : Lb J239 J239 := fun I call j => f239.b0 I call j
def f239.r : Inp → SF := runL f239.T f239.e
theorem f239.k : FOk P 239 f239.r := .of 1 [0, 1]
abbrev J240 := ((A4 × (A3 × A1)) × (A5 × (A5 × A5)))
def f240.b0 : Lb J240 A4 := fun I call j v1 v3 v5 v7 h =>
 kL I v3 h fun v36 =>
 kN v36 fun v37 =>
 kF 3 v37 fun v38 =>
 kL I v38 h fun v39 =>
 kF 0 v7 fun v40 =>
 kL I v40 h fun v41 =>
 kI 1 v39 v41 fun v42 =>
 kL I v42 h fun v43 =>
 kC call 314 [v43, v1, (.func (.func 316) [] [v3, v5])] h fun v46 h1 =>
 kX v46 0 fun v47 =>
 kX v46 1 fun v48 =>
 sCond v48 (
 j.1.2.1 v5 v47 .nils h1) (
 kF 0 v7 fun v51 =>
 kL I v51 h1 fun v52 =>
 kM I 2 v5 h1 fun v53 =>
 bndP (pBuild [Z 0, Z 0, Z 0, Z 0, Z 0] [(0, 1, Z 4), (1, 1, v52), (3, 2, v53)]) fun v54 =>
 bnd (sBuildSlice [Z 0, Z 0, Z 0, Z 0, Z 0] 1 [(0, 5, v54)] h1) fun v55 h2 =>
 bnd (sAppend I 5 40 .nils v55 h2) fun v56 h3 =>
 j.1.2.1 v5 v47 v56 h3)
def f240.b1 : Lb J240 A3 := fun I call j v5 v9 v11 h =>
 kZ v9 fun v58 =>
 j.2.1 v5 v11 v9 v58 (Z 0) h
def f240.b2 : Lb J240 A1 := fun I call j v11 h =>
 some (v11, h)
def f240.b3 : Lb J240 A5 := fun I call j v5 v11 v57 v58 v59 h =>
 kB .lss v59 v58 fun v60 =>
 sCond v60 (
 j.1.2.2 v11 h) (
 j.2.2.1 v5 v11 v57 v58 v59 h)
def f240.b4 : Lb J240 A5 := fun I call j v5 v11 v57 v58 v59 h =>
 kI 1 v57 v59 fun v61 =>
 kL I v61 h fun v62 =>
 kM I 2 v5 h fun v65 =>
 bndP (pBuild [Z 0, Z 0, Z 0, Z 0, Z 0] [(0, 1, Z 3), (1, 1, v62), (3, 2, v65)]) fun v66 =>
 bnd (sBuildSlice [Z 0, Z 0, Z 0, Z 0, Z 0] 1 [(0, 5, v66)] h) fun v67 h1 =>
 bnd (sAppend I 5 40 v11 v67 h1) fun v68 h2 =>
 j.2.2.2 v5 v68 v57 v58 v59 h2
def f240.b5 : Lb J240 A5 := fun I call j v5 v11 v57 v58 v59 h =>
 kB .add v59 (Z 1) fun v69 =>
 j.2.1 v5 v11 v57 v58 v69 h
def f240.e : Lb J240 A3 := fun I call j v0 v1 v2 h =>
 bnd (sBox v0 h) fun v3 h1 =>
 bnd (sBox v2 h1) fun v5 h2 =>
 kL I v3 h2 fun v15 =>
 kN v15 fun v16 =>
 kF 0 v16 fun v17 =>
 kL I v17 h2 fun v18 =>
 kC call 140 [v18, v1] h2 fun v20 h3 =>
 kX v20 0 fun v21 =>
 kX v20 1 fun v22 =>
 kA [Z 0, Z 0, Z 0] h3 fun v7 h4 =>
 kS 3 v7 v21 h4 fun _ h5 =>
 kU .not v22 fun v24 =>
 gP v24 .false (pLoad1 I v3 h5) h5 fun v26 h6 =>
 gP v24 .false (pNilCheck v26) h6 fun v27 h7 =>
 gP v24 .false (pFieldAddr 1 v27) h7 fun v28 h8 =>
 gP v24 .false (pLoad1 I v28 h8) h8 fun v29 h9 =>
 gP v24 .false (pFieldAddr 0 v7) h9 fun v30 h10 =>
 gP v24 .false (pLoad1 I v30 h10) h10 fun v31 h11 =>
 gS v24 .false (call 57 [v29, v31] h11) h11 fun v32 h12 =>
 gP v24 .false (pUn .not v32) h12 fun v33 h13 =>
 kP v24 bT v33 fun v34 =>
 sCond v34 (
 j.1.1 v1 v3 v5 v7 h13) (
 some (.nils, h13))
def f240.T : Lb J240 J240 := fun I call j => ((f240.b0 I call j, (f240.b1 I call j, f240.b2 I call j)), (f240.b3 I call j, (f240.b4 I call j, f240.b5 I call j)))
def f240.r : Inp → SF := runL f240.T f240.e
theorem f240.k : FOk P 240 f240.r := .of 6 (([1, 3, 5, 7], ([5, 9, 11], [11])), ([5, 11, 57, 58, 59], ([5, 11, 57, 58, 59], [5, 11, 57, 58, 59])))
abbrev J250 := (A4 × (A4 × A4))
def f250.b0 : Lb J250 A4 := fun I call j v0 v6 v7 v8 h =>
 kB .lss v8 v7 fun v9 =>
 sCond v9 (
 some (.tuple [], h)) (
 j.2.1 v0 v6 v7 v8 h)
def f250.b1 : Lb J250 A4 := fun I call j v0 v6 v7 v8 h =>
 kI 5 v6 v8 fun v10 =>
 kM I 5 v10 h fun v11 =>
 kA [Z 0, Z 0, Z 0, Z 0, Z 0] h fun v5 h1 =>
 kS 5 v5 v11 h1 fun _ h2 =>
 kN v0 fun v13 =>
 kF 0 v13 fun v14 =>
 kL I v14 h2 fun v15 =>
 kM I 5 v5 h2 fun v16 =>
 bndP (mapGetV (.many [.i, .i, .i, .i, .i]) bF .false v15 v16 h2) fun v17 =>
 kU .not v17 fun v18 =>
 sCond v18 (
 j.2.2 v0 v6 v7 v8 h2) (
 kN v0 fun v20 =>
 kF 0 v20 fun v21 =>
 kL I v21 h2 fun v22 =>
 kM I 5 v5 h2 fun v23 =>
 bnd (mapPutV (.many [.i, .i, .i, .i, .i]) v22 v23 bT h2) fun _ h3 =>
 kN v0 fun v26 =>
 kF 1 v26 fun v27 =>
 kL I v27 h3 fun v28 =>
 kM I 5 v5 h3 fun v29 =>
 bnd (sBuildSlice [Z 0, Z 0, Z 0, Z 0, Z 0] 1 [(0, 5, v29)] h3) fun v30 h4 =>
 bnd (sAppend I 5 40 v28 v30 h4) fun v31 h5 =>
 kN v0 fun v32 =>
 kF 1 v32 fun v33 =>
 kS 1 v33 v31 h5 fun _ h6 =>
 sCheck (sSame (lift (pLoad1 I v27 h4) h4) v28 && true) (
 j.2.2 v0 v6 v7 v8 h6))
def f250.b2 : Lb J250 A4 := fun I call j v0 v6 v7 v8 h =>
 kB .add v8 (Z 1) fun v34 =>
 j.1 v0 v6 v7 v34 h
def f250.e : Lb J250 A2 := fun I call j v0 v1 h =>
 kZ v1 fun v7 =>
 j.1 v0 v1 v7 (Z 0) h
def f250.T : Lb J250 J250 := fun I call j => (f250.b0 I call j, (f250.b1 I call j, f250.b2 I call j))
def f250.r : Inp → SF := runL f250.T f250.e
theorem f250.k : FOk P 250 f250.r := .of 3 ([0, 6, 7, 8], ([0, 6, 7, 8], [0, 6, 7, 8]))
abbrev J251 := ((A0 × A4) × (A4 × A4))
def f251.b0 : Lb J251 A0 := fun I call j h =>
 some ((.int .i64 (.negSucc 0)), h)
def f251.b1 : Lb J251 A4 := fun I call j v0 v1 v7 v8 h =>
 kB .lss v8 v7 fun v9 =>
 sCond v9 (
 j.1.1 h) (
 j.2.1 v0 v1 v7 v8 h)
def f251.b2 : Lb J251 A4 := fun I call j v0 v1 v7 v8 h =>
 kI 5 v0 v8 fun v14 =>
 kM I 5 v14 h fun v15 =>
 bnd (sCallv call v1 [v15] h) fun v16 h1 =>
 sCond v16 (
 j.2.2 v0 v1 v7 v8 h1) (
 some (v8, h1))
def f251.b3 : Lb J251 A4 := fun I call j v0 v1 v7 v8 h =>
 kB .add v8 (Z 1) fun v18 =>
 j.1.2 v0 v1 v7 v18 h
def f251.e : Lb J251 A2 := fun I call j v0 v1 h =>
 kZ v0 fun v7 =>
 j.1.2 v0 v1 v7 (Z 0) h
def f251.T : Lb J251 J251 := fun I call j => ((f251.b0 I call j, f251.b1 I call j), (f251.b2 I call j, f251.b3 I call j))
def f251.r : Inp → SF := runL f251.T f251.e
theorem f251.k : FOk P 251 f251.r := .of 4 (([], [0, 1, 7, 8]), ([0, 1, 7, 8], [0, 1, 7, 8]))
abbrev J252 := (A5 × (A6 × A6))
def f252.b0 : Lb J252 A5 := fun I call j v0 v2 v4 v8 v9 h =>
 kB .lss v9 v8 fun v38 =>
 gV v38 .true v2 h fun v40 h1 =>
 gV v38 .true v0 h1 fun v41 h2 =>
 gV v38 .true v9 h2 fun v42 h3 =>
 gP v38 .true (pIndexAddr 5 v41 v42) h3 fun v43 h4 =>
 gP v38 .true (pLoadN I 5 v43 h4) h4 fun v44 h5 =>
 gP v38 .true (pLoadN I 5 v4 h5) h5 fun v45 h6 =>
 gS v38 .true (sCallv call v40 [v44, v45] h6) h6 fun v46 h7 =>
 gP v38 .true (pBin .eql v46 (Z 0)) h7 fun v47 h8 =>
 kP v38 v47 bF fun v48 =>
 some (.tuple [v9, v48], h8)
def f252.b1 : Lb J252 A6 := fun I call j v0 v2 v4 v8 v9 v10 h =>
 kB .lss v9 v10 fun v17 =>
 sCond v17 (
 j.1 v0 v2 v4 v8 v9 h) (
 j.2.2 v0 v2 v4 v8 v9 v10 h)
def f252.b2 : Lb J252 A6 := fun I call j v0 v2 v4 v8 v9 v10 h =>
 kB .add v9 v10 fun v20 =>
 bndP (pToInt .u64 v20) fun v21 =>
 kB .shr v21 (.int .u64 (.ofNat 1)) fun v22 =>
 bndP (pToInt .i64 v22) fun v23 =>
 kI 5 v0 v23 fun v27 =>
 kM I 5 v27 h fun v28 =>
 kM I 5 v4 h fun v29 =>
 bnd (sCallv call v2 [v28, v29] h) fun v30 h1 =>
 kB .lss v30 (Z 0) fun v31 =>
 sCond v31 (
 j.2.1 v0 v2 v4 v8 v9 v23 h1) (
 kB .add v23 (Z 1) fun v33 =>
 j.2.1 v0 v2 v4 v8 v33 v10 h1)
def f252.e : Lb J252 A3 := fun I call j v0 v1 v2 h =>
 bnd (sBox v1 h) fun v4 h1 =>
 kZ v0 fun v13 =>
 j.2.1 v0 v2 v4 v13 (Z 0) v13 h1
def f252.T : Lb J252 J252 := fun I call j => (f252.b0 I call j, (f252.b1 I call j, f252.b2 I call j))
def f252.r : Inp → SF := runL f252.T f252.e
theorem f252.k : FOk P 252 f252.r := .of 3 ([0, 2, 4, 8, 9], ([0, 2, 4, 8, 9, 10], [0, 2, 4, 8, 9, 10]))
abbrev J253 := A0
def f253.b0 : Lb J253 A0 := fun I call j h =>
 some ((Z 0), h)
def f253.e : Lb J253 A2 := fun I call j v0 v1 h =>
 bnd (sBox v0 h) fun v2 h1 =>
 bnd (sBox v1 h1) fun v3 h2 =>
 kM I 5 v2 h2 fun v6 =>
 kM I 5 v3 h2 fun v7 =>
 kC call 254 [v6, v7] h2 fun v8 h3 =>
 sCond v8 (
 kM I 5 v3 h3 fun v10 =>
 kM I 5 v2 h3 fun v11 =>
 kC call 254 [v10, v11] h3 fun v12 h4 =>
 sCond v12 (
 j h4) (
 some ((Z 1), h4))) (
 some ((.int .i64 (.negSucc 0)), h3))
def f253.T : Lb J253 J253 := fun I call j => f253.b0 I call j
def f253.r : Inp → SF := runL f253.T f253.e
theorem f253.k : FOk P 253 f253.r := .of 1 []
def f254.e : Lb Unit A2 := fun I call j v0 v1 h =>
 bnd (sBox v0 h) fun v2 h1 =>
 bnd (sBox v1 h1) fun v3 h2 =>
 kM I 5 v2 h2 fun v5 =>
 kM I 5 v3 h2 fun v6 =>
 kC call 87 [v5, v6] h2 fun v7 h3 =>
 kB .lss v7 (Z 0) fun v8 =>
 some (v8, h3)
def f254.T : Lb Unit Unit := fun I call j => ()
def f254.r : Inp → SF := runL f254.T f254.e
theorem f254.k : FOk P 254 f254.r := .of 0 ()
def f255.e : Lb Unit A1 := fun I call j v0 h =>
 bnd (sBox v0 h) fun v1 h1 =>
 kF 0 v1 fun v3 =>
 kL I v3 h1 fun v4 =>
 kB .geq v4 (Z 12) fun v5 =>
 gP v5 .true (pFieldAddr 0 v1) h1 fun v7 h2 =>
 gP v5 .true (pLoad1 I v7 h2) h2 fun v8 h3 =>
 gP v5 .true (pBin .leq v8 (Z 14)) h3 fun v9 h4 =>
 kP v5 v9 bF fun v10 =>
 some (v10, h4)
def f255.T : Lb Unit Unit := fun I call j => ()
def f255.r : Inp → SF := runL f255.T f255.e
theorem f255.k : FOk P 255 f255.r := .of 0 ()
abbrev J256 := ((A1 × A5) × (A5 × A5))
def f256.b0 : Lb J256 A1 := fun I call j v5 h =>
 some (v5, h)
def f256.b1 : Lb J256 A5 := fun I call j v1 v5 v9 v10 v11 h =>
 kB .lss v11 v10 fun v12 =>
 sCond v12 (
 j.1.1 v5 h) (
 j.2.1 v1 v5 v9 v10 v11 h)
def f256.b2 : Lb J256 A5 := fun I call j v1 v5 v9 v10 v11 h =>
 kI 2 v9 v11 fun v13 =>
 kM I 2 v13 h fun v14 =>
 kA [Z 0, Z 0] h fun v7 h1 =>
 kS 2 v7 v14 h1 fun _ h2 =>
 kF 1 v7 fun v15 =>
 kL I v15 h2 fun v16 =>
 kB .eql v16 v1 fun v18 =>
 sCond v18 (
 j.2.2 v1 v5 v9 v10 v11 h2) (
 kF 0 v7 fun v20 =>
 kL I v20 h2 fun v21 =>
 bnd (sBuildSlice [Z 0] 1 [(0, 1, v21)] h2) fun v22 h3 =>
 bnd (sAppend I 1 8 v5 v22 h3) fun v23 h4 =>
 j.2.2 v1 v23 v9 v10 v11 h4)
def f256.b3 : Lb J256 A5 := fun I call j v1 v5 v9 v10 v11 h =>
 kB .add v11 (Z 1) fun v24 =>
 j.1.2 v1 v5 v9 v10 v24 h
def f256.e : Lb J256 A2 := fun I call j v0 v1 h =>
 kC call 56 [v0] h fun v9 h1 =>
 kZ v9 fun v10 =>
 j.1.2 v1 .nils v9 v10 (Z 0) h1
def f256.T : Lb J256 J256 := fun I call j => ((f256.b0 I call j, f256.b1 I call j), (f256.b2 I call j, f256.b3 I call j))
def f256.r : Inp → SF := runL f256.T f256.e
theorem f256.k : FOk P 256 f256.r := .of 4 (([5], [1, 5, 9, 10, 11]), ([1, 5, 9, 10, 11], [1, 5, 9, 10, 11]))
def f257.e : Lb Unit A1 := fun I call j v0 h =>
 kC call 259 [v0] h fun v4 h1 =>
 kC call 320 [v0] h1 fun v6 h2 =>
 some (v6, h2)
def f257.T : Lb Unit Unit := fun I call j => ()
def f257.r : Inp → SF := runL f257.T f257.e
theorem f257.k : FOk P 257 f257.r := .of 0 ()
abbrev J258 := ((A4 × A1) × (A5 × (A5 × A5)))
def f258.b0 : Lb J258 A4 := fun I call j v0 v1 v2 v7 h =>
 kN v0 fun v17 =>
 kF 1 v17 fun v18 =>
 kL I v18 h fun v19 =>
 kC call 214 [v19, v1, v2] h fun v22 h1 =>
 kC call 239 [v0, v22] h1 fun v23 h2 =>
 kZ v23 fun v24 =>
 j.2.1 v0 v7 v23 v24 (Z 0) h2
def f258.b1 : Lb J258 A1 := fun I call j v7 h =>
 some (v7, h)
def f258.b2 : Lb J258 A5 := fun I call j v0 v7 v23 v24 v25 h =>
 kB .lss v25 v24 fun v26 =>
 sCond v26 (
 j.1.2 v7 h) (
 j.2.2.1 v0 v7 v23 v24 v25 h)
def f258.b3 : Lb J258 A5 := fun I call j v0 v7 v23 v24 v25 h =>
 kI 1 v23 v25 fun v27 =>
 kL I v27 h fun v28 =>
 kN v0 fun v31 =>
 kF 1 v31 fun v32 =>
 kL I v32 h fun v33 =>
 kC call 221 [v33, v28] h fun v35 h1 =>
 kX v35 0 fun v36 =>
 kX v35 1 fun v37 =>
 sCond v37 (
 j.2.2.2 v0 v7 v23 v24 v25 h1) (
 bnd (sBuildSlice [Z 0] 1 [(0, 1, v36)] h1) fun v41 h2 =>
 bnd (sAppend I 1 8 v7 v41 h2) fun v42 h3 =>
 j.2.2.2 v0 v42 v23 v24 v25 h3)
def f258.b4 : Lb J258 A5 := fun I call j v0 v7 v23 v24 v25 h =>
 kB .add v25 (Z 1) fun v43 =>
 j.2.1 v0 v7 v23 v24 v43 h
def f258.e : Lb J258 A3 := fun I call j v0 v1 v2 h =>
 bndP (pEq P .false .ptr .true v0 .nilp h) fun v13 =>
 sCond v13 (
 j.1.1 v0 v1 v2 .nils h) (
 some (.nils, h))
def f258.T : Lb J258 J258 := fun I call j => ((f258.b0 I call j, f258.b1 I call j), (f258.b2 I call j, (f258.b3 I call j, f258.b4 I call j)))
def f258.r : Inp → SF := runL f258.T f258.e
theorem f258.k : FOk P 258 f258.r := .of 5 (([0, 1, 2, 7], [7]), ([0, 7, 23, 24, 25], ([0, 7, 23, 24, 25], [0, 7, 23, 24, 25])))
def f259.e : Lb Unit A1 := fun I call j v0 h =>
 kZ v0 fun v4 =>
 bndP (pToInt .u64 v4) fun v8 =>
 kC call 113 [v8] h fun v9 h1 =>
 kC call 321 [v0, Z 0, v4, v9] h1 fun v10 h2 =>
 some (.tuple [], h2)
def f259.T : Lb Unit Unit := fun I call j => ()
def f259.r : Inp → SF := runL f259.T f259.e
theorem f259.k : FOk P 259 f259.r := .of 0 ()
abbrev J260 := (((A1 × A0) × (A4 × A4)) × ((A4 × A7) × (A7 × A7)))
def f260.b0 : Lb J260 A1 := fun I call j v1 h =>
 kF 1 v1 fun v23 =>
 kL I v23 h fun v24 =>
 kZ v24 fun v25 =>
 j.1.2.1 v1 v24 v25 (Z 0) h
def f260.b1 : Lb J260 A0 := fun I call j h =>
 some (bT, h)
def f260.b2 : Lb J260 A4 := fun I call j v1 v24 v25 v26 h =>
 kB .lss v26 v25 fun v27 =>
 sCond v27 (
 j.1.1.2 h) (
 j.1.2.2 v1 v24 v25 v26 h)
def f260.b3 : Lb J260 A4 := fun I call j v1 v24 v25 v26 h =>
 kI 1 v24 v26 fun v28 =>
 kL I v28 h fun v29 =>
 kZ v29 fun v31 =>
 j.2.1.2 v1 v24 v25 v26 v29 v31 (Z 0) h
def f260.b4 : Lb J260 A4 := fun I call j v1 v24 v25 v26 h =>
 kB .add v26 (Z 1) fun v45 =>
 j.1.2.1 v1 v24 v25 v45 h
def f260.b5 : Lb J260 A7 := fun I call j v1 v24 v25 v26 v30 v31 v32 h =>
 kB .lss v32 v31 fun v33 =>
 sCond v33 (
 j.2.1.1 v1 v24 v25 v26 h) (
 j.2.2.1 v1 v24 v25 v26 v30 v31 v32 h)
def f260.b6 : Lb J260 A7 := fun I call j v1 v24 v25 v26 v30 v31 v32 h =>
 kI 1 v30 v32 fun v34 =>
 kL I v34 h fun v35 =>
 kB .lss v35 (Z 0) fun v37 =>
 gV v37 .false v35 h fun v39 h1 =>
 gP v37 .false (pFieldAddr 0 v1) h1 fun v40 h2 =>
 gP v37 .false (pLoad1 I v40 h2) h2 fun v41 h3 =>
 gP v37 .false (pBin .geq v39 v41) h3 fun v42 h4 =>
 kP v37 bT v42 fun v43 =>
 sCond v43 (
 j.2.2.2 v1 v24 v25 v26 v30 v31 v32 h4) (
 some (bF, h4))
def f260.b7 : Lb J260 A7 := fun I call j v1 v24 v25 v26 v30 v31 v32 h =>
 kB .add v32 (Z 1) fun v44 =>
 j.2.1.2 v1 v24 v25 v26 v30 v31 v44 h
def f260.e : Lb J260 A1 := fun I call j v0 h =>
 bnd (sBox v0 h) fun v1 h1 =>
 kF 0 v1 fun v7 =>
 kL I v7 h1 fun v8 =>
 kB .lss v8 (Z 0) fun v9 =>
 gP v9 .false (pFieldAddr 0 v1) h1 fun v11 h2 =>
 gP v9 .false (pLoad1 I v11 h2) h2 fun v12 h3 =>
 gP v9 .false (pBin .gtr v12 (Z 600)) h3 fun v13 h4 =>
 kP v9 bT v13 fun v14 =>
 gP v14 .false (pFieldAddr 1 v1) h4 fun v16 h5 =>
 gP v14 .false (pLoad1 I v16 h5) h5 fun v17 h6 =>
 gP v14 .false (pLenSl v17) h6 fun v18 h7 =>
 gP v14 .false (pFieldAddr 0 v1) h7 fun v19 h8 =>
 gP v14 .false (pLoad1 I v19 h8) h8 fun v20 h9 =>
 gP v14 .false (pBin .neq v18 v20) h9 fun v21 h10 =>
 kP v14 bT v21 fun v22 =>
 sCond v22 (
 j.1.1.1 v1 h10) (
 some (bF, h10))
def f260.T : Lb J260 J260 := fun I call j => (((f260.b0 I call j, f260.b1 I call j), (f260.b2 I call j, f260.b3 I call j)), ((f260.b4 I call j, f260.b5 I call j), (f260.b6 I call j, f260.b7 I call j)))
def f260.r : Inp → SF := runL f260.T f260.e
theorem f260.k : FOk P 260 f260.r := .of 8 ((([1], []), ([1, 24, 25, 26], [1, 24, 25, 26])), (([1, 24, 25, 26], [1, 24, 25, 26, 30, 31, 32]), ([1, 24, 25, 26, 30, 31, 32], [1, 24, 25, 26, 30, 31, 32])))
def f261.e : Lb Unit A4 := fun I call j v0 v1 v2 v3 h =>
 kB .geq v0 (Z 0) fun v6 =>
 gV v6 .true v0 h fun v8 h1 =>
 gP v6 .true (pFieldAddr 0 v1) h1 fun v9 h2 =>
 gP v6 .true (pLoad1 I v9 h2) h2 fun v10 h3 =>
 gP v6 .true (pBin .lss v8 v10) h3 fun v11 h4 =>
 kP v6 v11 bF fun v12 =>
 gP v12 .true (pLoad1 I v2 h4) h4 fun v14 h5 =>
 gV v12 .true v0 h5 fun v15 h6 =>
 gS v12 .true (call 124 [v14, v15] h6) h6 fun v16 h7 =>
 kP v12 v16 bF fun v17 =>
 sCond v17 (
 some (.tuple [], h7)) (
 kL I v3 h7 fun v18 =>
 bnd (sBuildSlice [Z 0] 1 [(0, 1, v0)] h7) fun v20 h8 =>
 bnd (sAppend I 1 8 v18 v20 h8) fun v21 h9 =>
 kS 1 v3 v21 h9 fun _ h10 =>
 some (.tuple [], h10))
def f261.T : Lb Unit Unit := fun I call j => ()
def f261.r : Inp → SF := runL f261.T f261.e
theorem f261.k : FOk P 261 f261.r := .of 0 ()
abbrev J262 := ((A0 × A4) × (A4 × A4))
def f262.b0 : Lb J262 A0 := fun I call j h =>
 some ((.int .i64 (.negSucc 0)), h)
def f262.b1 : Lb J262 A4 := fun I call j v0 v1 v7 v8 h =>
 kB .lss v8 v7 fun v9 =>
 sCond v9 (
 j.1.1 h) (
 j.2.1 v0 v1 v7 v8 h)
def f262.b2 : Lb J262 A4 := fun I call j v0 v1 v7 v8 h =>
 kI 1 v0 v8 fun v14 =>
 kL I v14 h fun v15 =>
 bnd (sCallv call v1 [v15] h) fun v16 h1 =>
 sCond v16 (
 j.2.2 v0 v1 v7 v8 h1) (
 some (v8, h1))
def f262.b3 : Lb J262 A4 := fun I call j v0 v1 v7 v8 h =>
 kB .add v8 (Z 1) fun v18 =>
 j.1.2 v0 v1 v7 v18 h
def f262.e : Lb J262 A2 := fun I call j v0 v1 h =>
 kZ v0 fun v7 =>
 j.1.2 v0 v1 v7 (Z 0) h
def f262.T : Lb J262 J262 := fun I call j => ((f262.b0 I call j, f262.b1 I call j), (f262.b2 I call j, f262.b3 I call j))
def f262.r : Inp → SF := runL f262.T f262.e
theorem f262.k : FOk P 262 f262.r := .of 4 (([], [0, 1, 7, 8]), ([0, 1, 7, 8], [0, 1, 7, 8]))
abbrev J263 := ((A0 × A4) × (A4 × A4))
def f263.b0 : Lb J263 A0 := fun I call j h =>
 some ((.int .i64 (.negSucc 0)), h)
def f263.b1 : Lb J263 A4 := fun I call j v0 v1 v7 v8 h =>
 kB .lss v8 v7 fun v9 =>
 sCond v9 (
 j.1.1 h) (
 j.2.1 v0 v1 v7 v8 h)
def f263.b2 : Lb J263 A4 := fun I call j v0 v1 v7 v8 h =>
 kI 1 v0 v8 fun v14 =>
 kL I v14 h fun v15 =>
 kB .eql v1 v15 fun v16 =>
 sCond v16 (
 j.2.2 v0 v1 v7 v8 h) (
 some (v8, h))
def f263.b3 : Lb J263 A4 := fun I call j v0 v1 v7 v8 h =>
 kB .add v8 (Z 1) fun v18 =>
 j.1.2 v0 v1 v7 v18 h
def f263.e : Lb J263 A2 := fun I call j v0 v1 h =>
 kZ v0 fun v7 =>
 j.1.2 v0 v1 v7 (Z 0) h
def f263.T : Lb J263 J263 := fun I call j => ((f263.b0 I call j, f263.b1 I call j), (f263.b2 I call j, f263.b3 I call j))
def f263.r : Inp → SF := runL f263.T f263.e
theorem f263.k : FOk P 263 f263.r := .of 4 (([], [0, 1, 7, 8]), ([0, 1, 7, 8], [0, 1, 7, 8]))
abbrev J272 := ((A1 × (A2 × A2)) × (A6 × (A6 × A6)))
def f272.b0 : Lb J272 A1 := fun I call j v3 h =>
 some (v3, h)
def f272.b1 : Lb J272 A2 := fun I call j v3 v15 h =>
 bnd (nextV v15 h) fun v16 h1 =>
 kX v16 0 fun v17 =>
 sCond v17 (
 j.1.1 v3 h1) (
 j.1.2.2 v3 v15 h1)
def f272.b2 : Lb J272 A2 := fun I call j v3 v15 h =>
 bndP (entryMV v15 h) fun v18 =>
 kX v18 0 fun v19 =>
 kX v18 1 fun v20 =>
 kA [Z 0, Z 0, Z 0, Z 0, Z 0] h fun v4 h1 =>
 kS 5 v4 v19 h1 fun _ h2 =>
 kZ v20 fun v22 =>
 j.2.1 v3 v4 v15 v20 v22 (Z 0) h2
def f272.b3 : Lb J272 A6 := fun I call j v3 v4 v15 v21 v22 v23 h =>
 kB .lss v23 v22 fun v24 =>
 sCond v24 (
 j.1.2.1 v3 v15 h) (
 j.2.2.1 v3 v4 v15 v21 v22 v23 h)
def f272.b4 : Lb J272 A6 := fun I call j v3 v4 v15 v21 v22 v23 h =>
 kI 5 v21 v23 fun v25 =>
 kM I 5 v25 h fun v26 =>
 kA [Z 0, Z 0, Z 0, Z 0, Z 0] h fun v7 h1 =>
 kS 5 v7 v26 h1 fun _ h2 =>
 kM I 5 v7 h2 fun v28 =>
 kM I 5 v4 h2 fun v30 =>
 bnd (sBuildSlice [Z 0, Z 0, Z 0, Z 0, Z 0] 1 [(0, 5, v30)] h2) fun v31 h3 =>
 bnd (mapEntV (.many [.i, .i, .i, .i, .i]) .nils v3 v28 h3) fun v32 h4 =>
 kX v32 0 fun v29 =>
 bnd (sAppend I 5 40 v29 v31 h4) fun v33 h5 =>
 kX v32 1 fun v34 =>
 bnd (entPutV v3 v34 v33 h5) fun _ h6 =>
 j.2.2.2 v3 v4 v15 v21 v22 v23 h6
def f272.b5 : Lb J272 A6 := fun I call j v3 v4 v15 v21 v22 v23 h =>
 kB .add v23 (Z 1) fun v35 =>
 j.2.1 v3 v4 v15 v21 v22 v35 h
def f272.e : Lb J272 A1 := fun I call j v0 h =>
 bnd (mapNewV h) fun v8 h1 =>
 bndP (pEq P .true .ptr .true v0 .nilp h1) fun v10 =>
 sCond v10 (
 j.1.1 v8 h1) (
 kN v0 fun v12 =>
 kF 0 v12 fun v13 =>
 kL I v13 h1 fun v14 =>
 bnd (rangeV v14 h1) fun v15 h2 =>
 j.1.2.1 v8 v15 h2)
def f272.T : Lb J272 J272 := fun I call j => ((f272.b0 I call j, (f272.b1 I call j, f272.b2 I call j)), (f272.b3 I call j, (f272.b4 I call j, f272.b5 I call j)))
def f272.r : Inp → SF := runL f272.T f272.e
theorem f272.k : FOk P 272 f272.r := .of 6 (([3], ([3, 15], [3, 15])), ([3, 4, 15, 21, 22, 23], ([3, 4, 15, 21, 22, 23], [3, 4, 15, 21, 22, 23])))
abbrev J273 := A1
def f273.b0 : Lb J273 A1 := fun I call j v0 h =>
 bnd (sBuildSlice [Z 0, Z 0, Z 0, Z 0, Z 0] 0 [] h) fun v5 h1 =>
 bnd (sAppend I 5 40 v5 v0 h1) fun v7 h2 =>
 some (v7, h2)
def f273.e : Lb J273 A1 := fun I call j v0 h =>
 bndP (pEq P .false .slice .true v0 .nils h) fun v4 =>
 sCond v4 (
 j v0 h) (
 some (.nils, h))
def f273.T : Lb J273 J273 := fun I call j => f273.b0 I call j
def f273.r : Inp → SF := runL f273.T f273.e
theorem f273.k : FOk P 273 f273.r := .of 1 [0]
abbrev J274 := ((A0 × A4) × (A4 × A4))
def f274.b0 : Lb J274 A0 := fun I call j h =>
 some ((.int .i64 (.negSucc 0)), h)
def f274.b1 : Lb J274 A4 := fun I call j v0 v3 v7 v8 h =>
 kB .lss v8 v7 fun v9 =>
 sCond v9 (
 j.1.1 h) (
 j.2.1 v0 v3 v7 v8 h)
def f274.b2 : Lb J274 A4 := fun I call j v0 v3 v7 v8 h =>
 kM I 5 v3 h fun v11 =>
 kI 5 v0 v8 fun v14 =>
 kM I 5 v14 h fun v15 =>
 bndP (pEq P .false (.struct [.i, .i, .i, .i, .i]) .false v11 v15 h) fun v16 =>
 sCond v16 (
 j.2.2 v0 v3 v7 v8 h) (
 some (v8, h))
def f274.b3 : Lb J274 A4 := fun I call j v0 v3 v7 v8 h =>
 kB .add v8 (Z 1) fun v18 =>
 j.1.2 v0 v3 v7 v18 h
def f274.e : Lb J274 A2 := fun I call j v0 v1 h =>
 bnd (sBox v1 h) fun v3 h1 =>
 kZ v0 fun v7 =>
 j.1.2 v0 v3 v7 (Z 0) h1
def f274.T : Lb J274 J274 := fun I call j => ((f274.b0 I call j, f274.b1 I call j), (f274.b2 I call j, f274.b3 I call j))
def f274.r : Inp → SF := runL f274.T f274.e
theorem f274.k : FOk P 274 f274.r := .of 4 (([], [0, 3, 7, 8]), ([0, 3, 7, 8], [0, 3, 7, 8]))
abbrev J275 := (A1 × (A2 × A5))
def f275.b0 : Lb J275 A1 := fun I call j v6 h =>
 bndP (pBuild [Z 0, Z 0, bF] []) fun v78 =>
 kS 3 v6 v78 h fun _ h1 =>
 sRet (sCons (sResN I 3 v6 h1) (sCons (some bF) (some []))) h1
def f275.b1 : Lb J275 A2 := fun I call j v6 v8 h =>
 bndP (pBuild [Z 0, Z 0, bF] [(0, 1, Z 0), (1, 1, v8), (2, 1, bT)]) fun v58 =>
 kS 3 v6 v58 h fun _ h1 =>
 sRet (sCons (sResN I 3 v6 h1) (sCons (some bT) (some []))) h1
def f275.b2 : Lb J275 A5 := fun I call j v1 v5 v6 v10 v62 h =>
 sCond v62 (
 kB .eql v10 (Z 10) fun v74 =>
 sCond v74 (
 j.1 v6 h) (
 kF 4 v5 fun v75 =>
 kL I v75 h fun v76 =>
 bndP (pBuild [Z 0, Z 0, bF] [(0, 1, Z 3), (1, 1, v76)]) fun v77 =>
 kS 3 v6 v77 h fun _ h1 =>
 sRet (sCons (sResN I 3 v6 h1) (sCons (some bT) (some []))) h1)) (
 kN v1 fun v66 =>
 kF 2 v66 fun v67 =>
 kL I v67 h fun v68 =>
 kF 2 v5 fun v69 =>
 kL I v69 h fun v70 =>
 kI 3 v68 v70 fun v71 =>
 kM I 3 v71 h fun v72 =>
 kS 3 v6 v72 h fun _ h2 =>
 sRet (sCons (sResN I 3 v6 h2) (sCons (some bT) (some []))) h2)
def f275.e : Lb J275 A3 := fun I call j v0 v1 v2 h =>
 bnd (sBox v2 h) fun v5 h1 =>
 kA [Z 0, Z 0, bF] h1 fun v6 h2 =>
 kF 0 v5 fun v9 =>
 kL I v9 h2 fun v10 =>
 kB .eql v10 (Z 1) fun v12 =>
 sCond v12 (
 kB .eql v10 (Z 2) fun v17 =>
 sCond v17 (
 kB .eql v10 (Z 3) fun v36 =>
 sCond v36 (
 kB .eql v10 (Z 4) fun v60 =>
 sCond v60 (
 kB .eql v10 (Z 6) fun v63 =>
 sCond v63 (
 kB .eql v10 (Z 11) fun v64 =>
 j.2.2 v1 v5 v6 v10 v64 h2) (
 j.2.2 v1 v5 v6 v10 v63 h2)) (
 bndP (pBuild [Z 0, Z 0, bF] [(0, 1, Z 1)]) fun v61 =>
 kS 3 v6 v61 h2 fun _ h3 =>
 sRet (sCons (sResN I 3 v6 h3) (sCons (some bT) (some []))) h3)) (
 kN v0 fun v38 =>
 kF 1 v38 fun v39 =>
 kL I v39 h2 fun v40 =>
 kZ v40 fun v41 =>
 kB .gtr v41 (Z 0) fun v42 =>
 sCond v42 (
 j.2.1 v6 (Z 0) h2) (
 kN v0 fun v45 =>
 kF 1 v45 fun v46 =>
 kL I v46 h2 fun v47 =>
 kI 1 v47 (Z 0) fun v48 =>
 kL I v48 h2 fun v49 =>
 kN v0 fun v51 =>
 kF 1 v51 fun v52 =>
 kL I v52 h2 fun v53 =>
 bndP (pSliceS 1 v53 (some (Z 1)) none none) fun v54 =>
 kN v0 fun v55 =>
 kF 1 v55 fun v56 =>
 kS 1 v56 v54 h2 fun _ h4 =>
 j.2.1 v6 v49 h4))) (
 kN v1 fun v19 =>
 kF 2 v19 fun v20 =>
 kL I v20 h2 fun v21 =>
 kF 2 v5 fun v22 =>
 kL I v22 h2 fun v23 =>
 kI 3 v21 v23 fun v24 =>
 kM I 3 v24 h2 fun v25 =>
 kN v1 fun v27 =>
 kF 2 v27 fun v28 =>
 kL I v28 h2 fun v29 =>
 kF 3 v5 fun v30 =>
 kL I v30 h2 fun v31 =>
 kI 3 v29 v31 fun v32 =>
 kM I 3 v32 h2 fun v33 =>
 kC call 325 [v25, v33] h2 fun v34 h5 =>
 kS 3 v6 v34 h5 fun _ h6 =>
 sRet (sCons (sResN I 3 v6 h6) (sCons (some bT) (some []))) h6)) (
 kF 4 v5 fun v13 =>
 kL I v13 h2 fun v14 =>
 bndP (pBuild [Z 0, Z 0, bF] [(0, 1, Z 0), (1, 1, v14)]) fun v15 =>
 kS 3 v6 v15 h2 fun _ h7 =>
 sRet (sCons (sResN I 3 v6 h7) (sCons (some bT) (some []))) h7)
def f275.T : Lb J275 J275 := fun I call j => (f275.b0 I call j, (f275.b1 I call j, f275.b2 I call j))
def f275.r : Inp → SF := runL f275.T f275.e
theorem f275.k : FOk P 275 f275.r := .of 3 ([6], ([6, 8], [1, 5, 6, 10, 62]))
def f276.e : Lb Unit A3 := fun I call j v0 v1 v2 h =>
 bnd (sBox v2 h) fun v5 h1 =>
 kN v0 fun v8 =>
 kF 2 v8 fun v9 =>
 kL I v9 h1 fun v10 =>
 kN v0 fun v13 =>
 kF 3 v13 fun v14 =>
 kL I v14 h1 fun v15 =>
 kM I 3 v5 h1 fun v17 =>
 kI 3 v10 v1 fun v18 =>
 kS 3 v18 v17 h1 fun _ h2 =>
 kI 1 v15 v1 fun v19 =>
 kS 1 v19 bT h2 fun _ h3 =>
 kN v0 fun v21 =>
 kF 1 v21 fun v22 =>
 kL I v22 h3 fun v23 =>
 kB .add v23 (Z 1) fun v24 =>
 kN v0 fun v25 =>
 kF 1 v25 fun v26 =>
 kS 1 v26 v24 h3 fun _ h4 =>
 some ((Z 0), h4)
def f276.T : Lb Unit Unit := fun I call j => ()
def f276.r : Inp → SF := runL f276.T f276.e
theorem f276.k : FOk P 276 f276.r := .of 0 ()
abbrev J277 := ((A3 × A2) × (A5 × (A5 × A5)))
def f277.b0 : Lb J277 A3 := fun I call j v0 v1 v2 h =>
 bndP (pBuild [Z 0, .nils, bF] [(0, 1, v1)]) fun v21 =>
 bnd (sBox v21 h) fun v22 h1 =>
 kZ v2 fun v24 =>
 j.2.1 v0 v22 v2 v24 (Z 0) h1
def f277.b1 : Lb J277 A2 := fun I call j v0 v7 h =>
 kN v0 fun v43 =>
 kF 0 v43 fun v44 =>
 kL I v44 h fun v45 =>
 bnd (sBuildSlice [.nilp] 1 [(0, 1, v7)] h) fun v47 h1 =>
 bnd (sAppend I 1 8 v45 v47 h1) fun v48 h2 =>
 kN v0 fun v49 =>
 kF 0 v49 fun v50 =>
 kS 1 v50 v48 h2 fun _ h3 =>
 kN v0 fun v52 =>
 kF 0 v52 fun v53 =>
 kL I v53 h3 fun v54 =>
 kZ v54 fun v55 =>
 some (v55, h3)
def f277.b2 : Lb J277 A5 := fun I call j v0 v7 v23 v24 v25 h =>
 kB .lss v25 v24 fun v26 =>
 sCond v26 (
 j.1.2 v0 v7 h) (
 j.2.2.1 v0 v7 v23 v24 v25 h)
def f277.b3 : Lb J277 A5 := fun I call j v0 v7 v23 v24 v25 h =>
 kI 2 v23 v25 fun v27 =>
 kM I 2 v27 h fun v28 =>
 kA [Z 0, Z 0] h fun v9 h1 =>
 kS 2 v9 v28 h1 fun _ h2 =>
 kN v7 fun v31 =>
 kF 1 v31 fun v32 =>
 kL I v32 h2 fun v33 =>
 kM I 2 v9 h2 fun v34 =>
 kC call 326 [v34] h2 fun v35 h3 =>
 bnd (sBuildSlice [Z 0, Z 0, bF] 1 [(0, 3, v35)] h3) fun v36 h4 =>
 bnd (sAppend I 3 24 v33 v36 h4) fun v37 h5 =>
 kN v7 fun v38 =>
 kF 1 v38 fun v39 =>
 kS 1 v39 v37 h5 fun _ h6 =>
 sCheck (sSame (lift (pLoad1 I v32 h3) h3) v33 && (sSame (lift (pLoad1 I v32 h4) h4) v33 && true)) (
 j.2.2.2 v0 v7 v23 v24 v25 h6)
def f277.b4 : Lb J277 A5 := fun I call j v0 v7 v23 v24 v25 h =>
 kB .add v25 (Z 1) fun v40 =>
 j.2.1 v0 v7 v23 v24 v40 h
def f277.e : Lb J277 A3 := fun I call j v0 v1 v2 h =>
 bndP (pEq P .false .ptr .true v0 .nilp h) fun v11 =>
 gV v11 .false v0 h fun v13 h1 =>
 gP v11 .false (pNilCheck v13) h1 fun v14 h2 =>
 gP v11 .false (pFieldAddr 0 v14) h2 fun v15 h3 =>
 gP v11 .false (pLoad1 I v15 h3) h3 fun v16 h4 =>
 gP v11 .false (pLenSl v16) h4 fun v17 h5 =>
 gP v11 .false (pBin .geq v17 (Z 400)) h5 fun v18 h6 =>
 kP v11 bT v18 fun v19 =>
 sCond v19 (
 j.1.1 v0 v1 v2 h6) (
 some ((Z 0), h6))
def f277.T : Lb J277 J277 := fun I call j => ((f277.b0 I call j, f277.b1 I call j), (f277.b2 I call j, (f277.b3 I call j, f277.b4 I call j)))
def f277.r : Inp → SF := runL f277.T f277.e
theorem f277.k : FOk P 277 f277.r := .of 5 (([0, 1, 2], [0, 7]), ([0, 7, 23, 24, 25], ([0, 7, 23, 24, 25], [0, 7, 23, 24, 25])))
abbrev J278 := ((A4 × (A5 × A3)) × (A7 × (A7 × A7)))
def f278.b0 : Lb J278 A4 := fun I call j v0 v1 v5 v7 h =>
 kF 0 v5 fun v25 =>
 kL I v25 h fun v26 =>
 kB .eql v26 (Z 14) fun v27 =>
 sCond v27 (
 j.1.2.1 v0 v1 v5 v7 .nils h) (
 kN v1 fun v30 =>
 kF 2 v30 fun v31 =>
 kL I v31 h fun v32 =>
 kF 2 v5 fun v33 =>
 kL I v33 h fun v34 =>
 kI 3 v32 v34 fun v35 =>
 kM I 3 v35 h fun v36 =>
 bnd (sBuildSlice [Z 0, Z 0, bF] 1 [(0, 3, v36)] h) fun v37 h1 =>
 bnd (sAppend I 3 24 .nils v37 h1) fun v38 h2 =>
 j.1.2.1 v0 v1 v5 v7 v38 h2)
def f278.b1 : Lb J278 A5 := fun I call j v0 v1 v5 v7 v8 h =>
 kF 5 v5 fun v39 =>
 kL I v39 h fun v40 =>
 kZ v40 fun v41 =>
 j.2.1 v0 v1 v7 v8 v40 v41 (Z 0) h
def f278.b2 : Lb J278 A3 := fun I call j v0 v7 v8 h =>
 kC call 174 [v0, v7, v8] h fun v60 h1 =>
 kN v0 fun v63 =>
 kF 5 v63 fun v64 =>
 kS 1 v64 v7 h1 fun _ h2 =>
 some ((Z 0), h2)
def f278.b3 : Lb J278 A7 := fun I call j v0 v1 v7 v8 v40 v41 v42 h =>
 kB .lss v42 v41 fun v43 =>
 sCond v43 (
 j.1.2.2 v0 v7 v8 h) (
 j.2.2.1 v0 v1 v7 v8 v40 v41 v42 h)
def f278.b4 : Lb J278 A7 := fun I call j v0 v1 v7 v8 v40 v41 v42 h =>
 kI 1 v40 v42 fun v44 =>
 kL I v44 h fun v45 =>
 kN v1 fun v48 =>
 kF 2 v48 fun v49 =>
 kL I v49 h fun v50 =>
 kI 3 v50 v45 fun v52 =>
 kM I 3 v52 h fun v53 =>
 bnd (sBuildSlice [Z 0, Z 0, bF] 1 [(0, 3, v53)] h) fun v54 h1 =>
 bnd (sAppend I 3 24 v8 v54 h1) fun v55 h2 =>
 j.2.2.2 v0 v1 v7 v55 v40 v41 v42 h2
def f278.b5 : Lb J278 A7 := fun I call j v0 v1 v7 v8 v40 v41 v42 h =>
 kB .add v42 (Z 1) fun v56 =>
 j.2.1 v0 v1 v7 v8 v40 v41 v56 h
def f278.e : Lb J278 A3 := fun I call j v0 v1 v2 h =>
 bnd (sBox v2 h) fun v5 h1 =>
 kM I 6 v5 h1 fun v13 =>
 kC call 327 [v0, v1, v13] h1 fun v14 h2 =>
 kB .lss v14 (Z 0) fun v17 =>
 sCond v17 (
 kN v0 fun v20 =>
 kF 3 v20 fun v21 =>
 kL I v21 h2 fun v22 =>
 kZ v22 fun v23 =>
 kB .geq v23 (Z 60) fun v24 =>
 sCond v24 (
 j.1.1 v0 v1 v5 v14 h2) (
 some ((Z 6), h2))) (
 some ((Z 1), h2))
def f278.T : Lb J278 J278 := fun I call j => ((f278.b0 I call j, (f278.b1 I call j, f278.b2 I call j)), (f278.b3 I call j, (f278.b4 I call j, f278.b5 I call j)))
def f278.r : Inp → SF := runL f278.T f278.e
theorem f278.k : FOk P 278 f278.r := .of 6 (([0, 1, 5, 7], ([0, 1, 5, 7, 8], [0, 7, 8])), ([0, 1, 7, 8, 40, 41, 42], ([0, 1, 7, 8, 40, 41, 42], [0, 1, 7, 8, 40, 41, 42])))
abbrev J279 := ((A3 × A2) × (A2 × A1))
def f279.b0 : Lb J279 A3 := fun I call j v0 v1 v5 h =>
 kN v1 fun v22 =>
 kF 2 v22 fun v23 =>
 kL I v23 h fun v24 =>
 kF 2 v5 fun v25 =>
 kL I v25 h fun v26 =>
 kI 3 v24 v26 fun v27 =>
 kF 1 v27 fun v28 =>
 kL I v28 h fun v29 =>
 kF 0 v5 fun v30 =>
 kL I v30 h fun v31 =>
 kB .eql v31 (Z 7) fun v39 =>
 sCond v39 (
 kB .eql v31 (Z 8) fun v60 =>
 sCond v60 (
 kN v0 fun v33 =>
 kF 2 v33 fun v34 =>
 kL I v34 h fun v35 =>
 kC call 330 [v35, v29] h fun v37 h1 =>
 j.1.2 v1 v37 h1) (
 kN v0 fun v62 =>
 kF 2 v62 fun v63 =>
 kL I v63 h fun v64 =>
 kF 4 v5 fun v66 =>
 kL I v66 h fun v67 =>
 kN v1 fun v69 =>
 kF 2 v69 fun v70 =>
 kL I v70 h fun v71 =>
 kF 3 v5 fun v72 =>
 kL I v72 h fun v73 =>
 kI 3 v71 v73 fun v74 =>
 kM I 3 v74 h fun v75 =>
 kC call 329 [v64, v29, v67, v75] h fun v76 h2 =>
 j.1.2 v1 v76 h2)) (
 sKeep 0 h fun h3 =>
 kN v0 fun v42 =>
 kF 2 v42 fun v43 =>
 kL I v43 h3 fun v44 =>
 kF 4 v5 fun v46 =>
 kL I v46 h3 fun v47 =>
 kC call 328 [v44, v29, v47] h3 fun v48 h4 =>
 kX v48 0 fun v49 =>
 bnd (sResvAlloc (h.next + 0) [Z 0, Z 0, bF] h4) fun v9 h5 =>
 kS 3 v9 v49 h5 fun _ h6 =>
 kX v48 1 fun v50 =>
 kB .eql v50 (Z 0) fun v52 =>
 sCond v52 (
 j.2.1 v1 v50 h6) (
 kF 1 v5 fun v54 =>
 kL I v54 h6 fun v55 =>
 kM I 3 v9 h6 fun v56 =>
 kC call 276 [v1, v55, v56] h6 fun v57 h7 =>
 some (v57, h7)))
def f279.b1 : Lb J279 A2 := fun I call j v1 v8 h =>
 kB .eql v8 (Z 0) fun v78 =>
 sCond v78 (
 j.2.2 v8 h) (
 kN v1 fun v80 =>
 kF 1 v80 fun v81 =>
 kL I v81 h fun v82 =>
 kB .add v82 (Z 1) fun v83 =>
 kN v1 fun v84 =>
 kF 1 v84 fun v85 =>
 kS 1 v85 v83 h fun _ h1 =>
 j.2.2 v8 h1)
def f279.b2 : Lb J279 A2 := fun I call j v1 v10 h =>
 j.1.2 v1 v10 h
def f279.b3 : Lb J279 A1 := fun I call j v8 h =>
 some (v8, h)
def f279.e : Lb J279 A3 := fun I call j v0 v1 v2 h =>
 bnd (sBox v2 h) fun v5 h1 =>
 kN v1 fun v12 =>
 kF 2 v12 fun v13 =>
 kL I v13 h1 fun v14 =>
 kF 2 v5 fun v15 =>
 kL I v15 h1 fun v16 =>
 kI 3 v14 v16 fun v17 =>
 kF 0 v17 fun v18 =>
 kL I v18 h1 fun v19 =>
 kB .neq v19 (Z 2) fun v20 =>
 sCond v20 (
 j.1.1 v0 v1 v5 h1) (
 some ((Z 1), h1))
def f279.T : Lb J279 J279 := fun I call j => ((f279.b0 I call j, f279.b1 I call j), (f279.b2 I call j, f279.b3 I call j))
def f279.r : Inp → SF := runL f279.T f279.e
theorem f279.k : FOk P 279 f279.r := .of 4 (([0, 1, 5], [1, 8]), ([1, 10], [8]))
def f281.e : Lb Unit A1 := fun I call j v0 h =>
 bndP (pToInt .u64 v0) fun v4 =>
 kC call 113 [v4] h fun v5 h1 =>
 kB .shl (.int .u64 (.ofNat 1)) v5 fun v6 =>
 some (v6, h1)
def f281.T : Lb Unit Unit := fun I call j => ()
def f281.r : Inp → SF := runL f281.T f281.e
theorem f281.k : FOk P 281 f281.r := .of 0 ()
def f282.e : Lb Unit A1 := fun I call j v0 h =>
 kN v0 fun v4 =>
 kL I v4 h fun v5 =>
 kN v0 fun v7 =>
 kL I v7 h fun v8 =>
 kB .shl v8 (.int .u64 (.ofNat 13)) fun v9 =>
 kB .xor v5 v9 fun v10 =>
 kN v0 fun v11 =>
 kS 1 v11 v10 h fun _ h1 =>
 kN v0 fun v13 =>
 kL I v13 h1 fun v14 =>
 kN v0 fun v16 =>
 kL I v16 h1 fun v17 =>
 kB .shr v17 (.int .u64 (.ofNat 7)) fun v18 =>
 kB .xor v14 v18 fun v19 =>
 kN v0 fun v20 =>
 kS 1 v20 v19 h1 fun _ h2 =>
 kN v0 fun v22 =>
 kL I v22 h2 fun v23 =>
 kN v0 fun v25 =>
 kL I v25 h2 fun v26 =>
 kB .shl v26 (.int .u64 (.ofNat 17)) fun v27 =>
 kB .xor v23 v27 fun v28 =>
 kN v0 fun v29 =>
 kS 1 v29 v28 h2 fun _ h3 =>
 kN v0 fun v31 =>
 kL I v31 h3 fun v32 =>
 some (v32, h3)
def f282.T : Lb Unit Unit := fun I call j => ()
def f282.r : Inp → SF := runL f282.T f282.e
theorem f282.k : FOk P 282 f282.r := .of 0 ()
abbrev J285 := A0
def f285.b0 : Lb J285 A0 := fun I call j h =>
 some (bF, h)
def f285.e : Lb J285 A2 := fun I call j v0 v1 h =>
 bnd (sBox v1 h) fun v3 h1 =>
 kF 0 v3 fun v5 =>
 kL I v5 h1 fun v6 =>
 kB .eql v6 (Z 0) fun v8 =>
 sCond v8 (
 kB .eql v6 (Z 1) fun v13 =>
 sCond v13 (
 kB .eql v6 (Z 2) fun v23 =>
 sCond v23 (
 kB .eql v6 (Z 3) fun v33 =>
 sCond v33 (
 j h1) (
 kF 1 v3 fun v34 =>
 kL I v34 h1 fun v35 =>
 kN v0 fun v37 =>
 kF 2 v37 fun v38 =>
 kL I v38 h1 fun v39 =>
 kZ v39 fun v40 =>
 kC call 191 [v35, v40] h1 fun v41 h2 =>
 some (v41, h2))) (
 kF 1 v3 fun v24 =>
 kL I v24 h1 fun v25 =>
 kN v0 fun v27 =>
 kF 1 v27 fun v28 =>
 kL I v28 h1 fun v29 =>
 kZ v29 fun v30 =>
 kC call 191 [v25, v30] h1 fun v31 h3 =>
 some (v31, h3))) (
 kF 1 v3 fun v14 =>
 kL I v14 h1 fun v15 =>
 kN v0 fun v17 =>
 kF 0 v17 fun v18 =>
 kL I v18 h1 fun v19 =>
 kZ v19 fun v20 =>
 kC call 191 [v15, v20] h1 fun v21 h4 =>
 some (v21, h4))) (
 kF 1 v3 fun v9 =>
 kL I v9 h1 fun v10 =>
 kB .eql v10 (Z 0) fun v11 =>
 some (v11, h1))
def f285.T : Lb J285 J285 := fun I call j => f285.b0 I call j
def f285.r : Inp → SF := runL f285.T f285.e
theorem f285.k : FOk P 285 f285.r := .of 1 []
abbrev J286 := ((A0 × A4) × (A4 × A4))
def f286.b0 : Lb J286 A0 := fun I call j h =>
 some (bT, h)
def f286.b1 : Lb J286 A4 := fun I call j v1 v7 v8 v9 h =>
 kB .lss v9 v8 fun v10 =>
 sCond v10 (
 j.1.1 h) (
 j.2.1 v1 v7 v8 v9 h)
def f286.b2 : Lb J286 A4 := fun I call j v1 v7 v8 v9 h =>
 kI 1 v7 v9 fun v11 =>
 kL I v11 h fun v12 =>
 kC call 191 [v12, v1] h fun v15 h1 =>
 kU .not v15 fun v16 =>
 sCond v16 (
 j.2.2 v1 v7 v8 v9 h1) (
 some (bF, h1))
def f286.b3 : Lb J286 A4 := fun I call j v1 v7 v8 v9 h =>
 kB .add v9 (Z 1) fun v17 =>
 j.1.2 v1 v7 v8 v17 h
def f286.e : Lb J286 A2 := fun I call j v0 v1 h =>
 kZ v0 fun v8 =>
 j.1.2 v1 v0 v8 (Z 0) h
def f286.T : Lb J286 J286 := fun I call j => ((f286.b0 I call j, f286.b1 I call j), (f286.b2 I call j, f286.b3 I call j))
def f286.r : Inp → SF := runL f286.T f286.e
theorem f286.k : FOk P 286 f286.r := .of 4 (([], [1, 7, 8, 9]), ([1, 7, 8, 9], [1, 7, 8, 9]))
abbrev J287 := ((((A6 × (A5 × A4)) × (A3 × (A5 × A3))) × ((A3 × (A4 × A3)) × (A5 × (A4 × A5)))) × (((A8 × (A9 × A8)) × (A9 × (A8 × A8))) × ((A9 × (A8 × A8)) × ((A8 × A9) × (A8 × A9)))))
def f287.b0 : Lb J287 A6 := fun I call j v2 v3 v4 v5 v6 v7 h =>
 some (.tuple [v2, v3, v4, v5, v6, v7], h)
def f287.b1 : Lb J287 A5 := fun I call j v2 v3 v4 v5 v6 h =>
 j.1.1.1.1 v2 v3 v4 v5 v6 bF h
def f287.b2 : Lb J287 A4 := fun I call j v1 v3 v4 v7 h =>
 kF 0 v1 fun v34 =>
 kL I v34 h fun v35 =>
 kB .neq v35 (Z 13) fun v36 =>
 j.1.1.1.1 bT v3 v4 v36 bT v7 h
def f287.b3 : Lb J287 A3 := fun I call j v1 v4 v7 h =>
 j.1.1.1.2.2 v1 bT v4 v7 h
def f287.b4 : Lb J287 A5 := fun I call j v2 v4 v5 v6 v7 h =>
 j.1.1.1.1 v2 bT v4 v5 v6 v7 h
def f287.b5 : Lb J287 A3 := fun I call j v2 v6 v7 h =>
 j.1.1.1.1 v2 bT bT bT v6 v7 h
def f287.b6 : Lb J287 A3 := fun I call j v4 v6 v7 h =>
 j.1.1.1.1 bT bT v4 bT v6 v7 h
def f287.b7 : Lb J287 A4 := fun I call j v4 v5 v6 v7 h =>
 j.1.1.1.1 bT bT v4 v5 v6 v7 h
def f287.b8 : Lb J287 A3 := fun I call j v5 v6 v7 h =>
 j.1.2.1.2.1 bT v5 v6 v7 h
def f287.b9 : Lb J287 A5 := fun I call j v3 v4 v5 v6 v7 h =>
 j.1.1.1.1 bT v3 v4 v5 v6 v7 h
def f287.b10 : Lb J287 A4 := fun I call j v3 v4 v6 v7 h =>
 j.1.2.2.1 v3 v4 bT v6 v7 h
def f287.b11 : Lb J287 A5 := fun I call j v2 v3 v4 v5 v6 h =>
 j.1.1.1.2.1 v2 v3 v4 v5 v6 h
def f287.b12 : Lb J287 A8 := fun I call j v1 v2 v3 v4 v5 v6 v7 v9 h =>
 kB .eql v9 (Z 3) fun v14 =>
 sCond v14 (
 kB .eql v9 (Z 4) fun v15 =>
 sCond v15 (
 kB .eql v9 (Z 5) fun v16 =>
 j.2.1.2.1 v1 v2 v3 v4 v5 v6 v7 v9 v16 h) (
 j.2.1.2.1 v1 v2 v3 v4 v5 v6 v7 v9 v15 h)) (
 j.2.1.2.1 v1 v2 v3 v4 v5 v6 v7 v9 v14 h)
def f287.b13 : Lb J287 A9 := fun I call j v1 v2 v3 v4 v5 v6 v7 v9 v10 h =>
 sCond v10 (
 j.2.1.1.1 v1 v2 v3 v4 v5 v6 v7 v9 h) (
 j.1.2.2.2.1 v3 v4 v6 v7 h)
def f287.b14 : Lb J287 A8 := fun I call j v1 v2 v3 v4 v5 v6 v7 v9 h =>
 kB .eql v9 (Z 2) fun v18 =>
 sCond v18 (
 j.2.1.2.2.1 v1 v2 v3 v4 v5 v6 v7 v9 h) (
 j.1.2.1.2.2 v5 v6 v7 h)
def f287.b15 : Lb J287 A9 := fun I call j v1 v2 v3 v4 v5 v6 v7 v9 v13 h =>
 sCond v13 (
 j.2.1.1.2.2 v1 v2 v3 v4 v5 v6 v7 v9 h) (
 j.1.2.2.1 v3 v4 v5 v6 v7 h)
def f287.b16 : Lb J287 A8 := fun I call j v1 v2 v3 v4 v5 v6 v7 v9 h =>
 kB .eql v9 (Z 6) fun v20 =>
 sCond v20 (
 kB .eql v9 (Z 11) fun v21 =>
 j.2.2.1.1 v1 v2 v3 v4 v5 v6 v7 v9 v21 h) (
 j.2.2.1.1 v1 v2 v3 v4 v5 v6 v7 v9 v20 h)
def f287.b17 : Lb J287 A8 := fun I call j v1 v2 v3 v4 v5 v6 v7 v9 h =>
 kB .eql v9 (Z 7) fun v23 =>
 sCond v23 (
 j.2.2.1.2.1 v1 v2 v3 v4 v5 v6 v7 v9 h) (
 j.1.2.1.1 v4 v6 v7 h)
def f287.b18 : Lb J287 A9 := fun I call j v1 v2 v3 v4 v5 v6 v7 v9 v19 h =>
 sCond v19 (
 j.2.1.2.2.2 v1 v2 v3 v4 v5 v6 v7 v9 h) (
 j.1.2.1.2.1 v4 v5 v6 v7 h)
def f287.b19 : Lb J287 A8 := fun I call j v1 v2 v3 v4 v5 v6 v7 v9 h =>
 kB .eql v9 (Z 8) fun v25 =>
 sCond v25 (
 j.2.2.1.2.2 v1 v2 v3 v4 v5 v6 v7 v9 h) (
 j.1.1.2.2.2 v2 v6 v7 h)
def f287.b20 : Lb J287 A8 := fun I call j v1 v2 v3 v4 v5 v6 v7 v9 h =>
 kB .eql v9 (Z 9) fun v27 =>
 sCond v27 (
 kB .eql v9 (Z 15) fun v28 =>
 j.2.2.2.1.2 v1 v2 v3 v4 v5 v6 v7 v9 v28 h) (
 j.2.2.2.1.2 v1 v2 v3 v4 v5 v6 v7 v9 v27 h)
def f287.b21 : Lb J287 A8 := fun I call j v1 v2 v3 v4 v5 v6 v7 v9 h =>
 kB .eql v9 (Z 14) fun v30 =>
 sCond v30 (
 kB .eql v9 (Z 13) fun v31 =>
 j.2.2.2.2.2 v1 v2 v3 v4 v5 v6 v7 v9 v31 h) (
 j.2.2.2.2.2 v1 v2 v3 v4 v5 v6 v7 v9 v30 h)
def f287.b22 : Lb J287 A9 := fun I call j v1 v2 v3 v4 v5 v6 v7 v9 v26 h =>
 sCond v26 (
 j.2.2.2.1.1 v1 v2 v3 v4 v5 v6 v7 v9 h) (
 j.1.1.2.2.1 v2 v4 v5 v6 v7 h)
def f287.b23 : Lb J287 A8 := fun I call j v1 v2 v3 v4 v5 v6 v7 v9 h =>
 kB .eql v9 (Z 12) fun v33 =>
 sCond v33 (
 j.1.2.2.2.2 v2 v3 v4 v5 v6 h) (
 j.1.1.1.2.2 v1 v3 v4 v7 h)
def f287.b24 : Lb J287 A9 := fun I call j v1 v2 v3 v4 v5 v6 v7 v9 v29 h =>
 sCond v29 (
 j.2.2.2.2.1 v1 v2 v3 v4 v5 v6 v7 v9 h) (
 j.1.1.2.1 v1 v4 v7 h)
def f287.e : Lb J287 A1 := fun I call j v0 h =>
 bnd (sBox v0 h) fun v1 h1 =>
 kF 0 v1 fun v8 =>
 kL I v8 h1 fun v9 =>
 kB .eql v9 (Z 1) fun v11 =>
 sCond v11 (
 kB .eql v9 (Z 10) fun v12 =>
 j.2.1.1.2.1 v1 bF bF bF bF bF bT v9 v12 h1) (
 j.2.1.1.2.1 v1 bF bF bF bF bF bT v9 v11 h1)
def f287.T : Lb J287 J287 := fun I call j => ((((f287.b0 I call j, (f287.b1 I call j, f287.b2 I call j)), (f287.b3 I call j, (f287.b4 I call j, f287.b5 I call j))), ((f287.b6 I call j, (f287.b7 I call j, f287.b8 I call j)), (f287.b9 I call j, (f287.b10 I call j, f287.b11 I call j)))), (((f287.b12 I call j, (f287.b13 I call j, f287.b14 I call j)), (f287.b15 I call j, (f287.b16 I call j, f287.b17 I call j))), ((f287.b18 I call j, (f287.b19 I call j, f287.b20 I call j)), ((f287.b21 I call j, f287.b22 I call j), (f287.b23 I call j, f287.b24 I call j)))))
def f287.r : Inp → SF := runL f287.T f287.e
theorem f287.k : FOk P 287 f287.r := .of 25 (((([2, 3, 4, 5, 6, 7], ([2, 3, 4, 5, 6], [1, 3, 4, 7])), ([1, 4, 7], ([2, 4, 5, 6, 7], [2, 6, 7]))), (([4, 6, 7], ([4, 5, 6, 7], [5, 6, 7])), ([3, 4, 5, 6, 7], ([3, 4, 6, 7], [2, 3, 4, 5, 6])))), ((([1, 2, 3, 4, 5, 6, 7, 9], ([1, 2, 3, 4, 5, 6, 7, 9, 10], [1, 2, 3, 4, 5, 6, 7, 9])), ([1, 2, 3, 4, 5, 6, 7, 9, 13], ([1, 2, 3, 4, 5, 6, 7, 9], [1, 2, 3, 4, 5, 6, 7, 9]))), (([1, 2, 3, 4, 5, 6, 7, 9, 19], ([1, 2, 3, 4, 5, 6, 7, 9], [1, 2, 3, 4, 5, 6, 7, 9])), (([1, 2, 3, 4, 5, 6, 7, 9], [1, 2, 3, 4, 5, 6, 7, 9, 26]), ([1, 2, 3, 4, 5, 6, 7, 9], [1, 2, 3, 4, 5, 6, 7, 9, 29])))))
abbrev J288 := A1
def f288.b0 : Lb J288 A1 := fun I call j v1 h =>
 kB .eql v1 (Z 0) fun v12 =>
 some (v12, h)
def f288.e : Lb J288 A3 := fun I call j v0 v1 v2 h =>
 sCond v0 (
 j v1 h) (
 kC call 191 [v1, v2] h fun v10 h1 =>
 some (v10, h1))
def f288.T : Lb J288 J288 := fun I call j => f288.b0 I call j
def f288.r : Inp → SF := runL f288.T f288.e
theorem f288.k : FOk P 288 f288.r := .of 1 [1]
abbrev J289 := ((A0 × A4) × (A4 × A4))
def f289.b0 : Lb J289 A0 := fun I call j h =>
 some ((.int .i64 (.negSucc 0)), h)
def f289.b1 : Lb J289 A4 := fun I call j v0 v1 v7 v8 h =>
 kB .lss v8 v7 fun v9 =>
 sCond v9 (
 j.1.1 h) (
 j.2.1 v0 v1 v7 v8 h)
def f289.b2 : Lb J289 A4 := fun I call j v0 v1 v7 v8 h =>
 kI 3 v0 v8 fun v14 =>
 kM I 3 v14 h fun v15 =>
 bnd (sCallv call v1 [v15] h) fun v16 h1 =>
 sCond v16 (
 j.2.2 v0 v1 v7 v8 h1) (
 some (v8, h1))
def f289.b3 : Lb J289 A4 := fun I call j v0 v1 v7 v8 h =>
 kB .add v8 (Z 1) fun v18 =>
 j.1.2 v0 v1 v7 v18 h
def f289.e : Lb J289 A2 := fun I call j v0 v1 h =>
 kZ v0 fun v7 =>
 j.1.2 v0 v1 v7 (Z 0) h
def f289.T : Lb J289 J289 := fun I call j => ((f289.b0 I call j, f289.b1 I call j), (f289.b2 I call j, f289.b3 I call j))
def f289.r : Inp → SF := runL f289.T f289.e
theorem f289.k : FOk P 289 f289.r := .of 4 (([], [0, 1, 7, 8]), ([0, 1, 7, 8], [0, 1, 7, 8]))
def f290.e : Lb Unit A3 := fun I call j v0 v1 v2 h =>
 bnd (sBox v0 h) fun v3 h1 =>
 kF 0 v3 fun v5 =>
 kL I v5 h1 fun v6 =>
 kL I v1 h1 fun v7 =>
 kB .eql v6 v7 fun v8 =>
 gP v8 .true (pFieldAddr 1 v3) h1 fun v10 h2 =>
 gP v8 .true (pLoad1 I v10 h2) h2 fun v11 h3 =>
 gP v8 .true (pLoad1 I v2 h3) h3 fun v12 h4 =>
 gP v8 .true (pBin .eql v11 v12) h4 fun v13 h5 =>
 kP v8 v13 bF fun v14 =>
 some (v14, h5)
def f290.T : Lb Unit Unit := fun I call j => ()
def f290.r : Inp → SF := runL f290.T f290.e
theorem f290.k : FOk P 290 f290.r := .of 0 ()
abbrev J291 := ((A2 × A0) × (A4 × (A4 × A4)))
def f291.b0 : Lb J291 A2 := fun I call j v0 v1 h =>
 kZ v0 fun v12 =>
 j.2.1 v0 v1 v12 (Z 0) h
def f291.b1 : Lb J291 A0 := fun I call j h =>
 some (bT, h)
def f291.b2 : Lb J291 A4 := fun I call j v0 v1 v12 v13 h =>
 kB .lss v13 v12 fun v14 =>
 sCond v14 (
 j.1.2 h) (
 j.2.2.1 v0 v1 v12 v13 h)
def f291.b3 : Lb J291 A4 := fun I call j v0 v1 v12 v13 h =>
 kI 2 v0 v13 fun v18 =>
 kM I 2 v18 h fun v19 =>
 kI 2 v1 v13 fun v22 =>
 kM I 2 v22 h fun v23 =>
 bndP (pEq P .true (.struct [.i, .i]) .false v19 v23 h) fun v24 =>
 sCond v24 (
 j.2.2.2 v0 v1 v12 v13 h) (
 some (bF, h))
def f291.b4 : Lb J291 A4 := fun I call j v0 v1 v12 v13 h =>
 kB .add v13 (Z 1) fun v25 =>
 j.2.1 v0 v1 v12 v25 h
def f291.e : Lb J291 A2 := fun I call j v0 v1 h =>
 kZ v0 fun v7 =>
 kZ v1 fun v9 =>
 kB .neq v7 v9 fun v10 =>
 sCond v10 (
 j.1.1 v0 v1 h) (
 some (bF, h))
def f291.T : Lb J291 J291 := fun I call j => ((f291.b0 I call j, f291.b1 I call j), (f291.b2 I call j, (f291.b3 I call j, f291.b4 I call j)))
def f291.r : Inp → SF := runL f291.T f291.e
theorem f291.k : FOk P 291 f291.r := .of 5 (([0, 1], []), ([0, 1, 12, 13], ([0, 1, 12, 13], [0, 1, 12, 13])))
def f292.e : Lb Unit A2 := fun I call j v0 v1 h =>
 kL I v1 h fun v4 =>
 kI 2 v4 v0 fun v6 =>
 kF 0 v6 fun v7 =>
 kL I v7 h fun v8 =>
 some (v8, h)
def f292.T : Lb Unit Unit := fun I call j => ()
def f292.r : Inp → SF := runL f292.T f292.e
theorem f292.k : FOk P 292 f292.r := .of 0 ()
def f293.e : Lb Unit A2 := fun I call j v0 v1 h =>
 kN v0 fun v8 =>
 kF 4 v8 fun v9 =>
 kL I v9 h fun v10 =>
 kI 3 v10 v1 fun v12 =>
 kF 0 v12 fun v13 =>
 kL I v13 h fun v14 =>
 kN v0 fun v18 =>
 kF 1 v18 fun v19 =>
 kL I v19 h fun v20 =>
 kZ v20 fun v21 =>
 kC call 191 [v14, v21] h fun v22 h1 =>
 some (.tuple [v14, v22], h1)
def f293.T : Lb Unit Unit := fun I call j => ()
def f293.r : Inp → SF := runL f293.T f293.e
theorem f293.k : FOk P 293 f293.r := .of 0 ()
abbrev J294 := ((A5 × (A4 × A0)) × (A6 × (A6 × A6)))
def f294.b0 : Lb J294 A5 := fun I call j v0 v1 v5 v7 v8 h =>
 kU .not v8 fun v72 =>
 gP v72 .false (pFieldAddr 5 v5) h fun v74 h1 =>
 gP v72 .false (pLoad1 I v74 h1) h1 fun v75 h2 =>
 gP v72 .false (pLenSl v75) h2 fun v76 h3 =>
 gV v72 .false v0 h3 fun v77 h4 =>
 gP v72 .false (pNilCheck v77) h4 fun v78 h5 =>
 gP v72 .false (pFieldAddr 1 v78) h5 fun v79 h6 =>
 gP v72 .false (pLoad1 I v79 h6) h6 fun v80 h7 =>
 gV v72 .false v7 h7 fun v81 h8 =>
 gP v72 .false (pIndexAddr 3 v80 v81) h8 fun v82 h9 =>
 gP v72 .false (pFieldAddr 0 v82) h9 fun v83 h10 =>
 gP v72 .false (pLoad1 I v83 h10) h10 fun v84 h11 =>
 gP v72 .false (pLenSl v84) h11 fun v85 h12 =>
 gP v72 .false (pBin .neq v76 v85) h12 fun v86 h13 =>
 kP v72 bT v86 fun v87 =>
 gV v87 .false v1 h13 fun v89 h14 =>
 gP v87 .false (pFieldAddr 1 v5) h14 fun v90 h15 =>
 gP v87 .false (pLoad1 I v90 h15) h15 fun v91 h16 =>
 gP v87 .false (pIndexAddr 2 v89 v91) h16 fun v92 h17 =>
 gP v87 .false (pLoadN I 2 v92 h17) h17 fun v93 h18 =>
 gV v87 .false v0 h18 fun v94 h19 =>
 gP v87 .false (pNilCheck v94) h19 fun v95 h20 =>
 gP v87 .false (pFieldAddr 1 v95) h20 fun v96 h21 =>
 gP v87 .false (pLoad1 I v96 h21) h21 fun v97 h22 =>
 gV v87 .false v7 h22 fun v98 h23 =>
 gP v87 .false (pIndexAddr 3 v97 v98) h23 fun v99 h24 =>
 gP v87 .false (pFieldAddr 1 v99) h24 fun v100 h25 =>
 gP v87 .false (pLoadN I 2 v100 h25) h25 fun v101 h26 =>
 gP v87 .false (pEq P .true (.struct [.i, .i]) .false v93 v101 h26) h26 fun v102 h27 =>
 kP v87 bT v102 fun v103 =>
 sCond v103 (
 j.1.2.1 v0 v1 v5 v7 h27) (
 some (bF, h27))
def f294.b1 : Lb J294 A4 := fun I call j v0 v1 v5 v7 h =>
 kF 5 v5 fun v104 =>
 kL I v104 h fun v105 =>
 kZ v105 fun v106 =>
 j.2.1 v0 v1 v7 v105 v106 (Z 0) h
def f294.b2 : Lb J294 A0 := fun I call j h =>
 some (bT, h)
def f294.b3 : Lb J294 A6 := fun I call j v0 v1 v7 v105 v106 v107 h =>
 kB .lss v107 v106 fun v108 =>
 sCond v108 (
 j.1.2.2 h) (
 j.2.2.1 v0 v1 v7 v105 v106 v107 h)
def f294.b4 : Lb J294 A6 := fun I call j v0 v1 v7 v105 v106 v107 h =>
 kI 1 v105 v107 fun v110 =>
 kL I v110 h fun v111 =>
 kI 2 v1 v111 fun v114 =>
 kM I 2 v114 h fun v115 =>
 kN v0 fun v117 =>
 kF 1 v117 fun v118 =>
 kL I v118 h fun v119 =>
 kI 3 v119 v7 fun v121 =>
 kF 0 v121 fun v122 =>
 kL I v122 h fun v123 =>
 kI 2 v123 v107 fun v125 =>
 kM I 2 v125 h fun v126 =>
 bndP (pEq P .true (.struct [.i, .i]) .false v115 v126 h) fun v127 =>
 sCond v127 (
 j.2.2.2 v0 v1 v7 v105 v106 v107 h) (
 some (bF, h))
def f294.b5 : Lb J294 A6 := fun I call j v0 v1 v7 v105 v106 v107 h =>
 kB .add v107 (Z 1) fun v128 =>
 j.2.1 v0 v1 v7 v105 v106 v128 h
def f294.e : Lb J294 A3 := fun I call j v0 v1 v2 h =>
 bnd (sBox v2 h) fun v5 h1 =>
 kF 0 v5 fun v12 =>
 kL I v12 h1 fun v13 =>
 kB .eql v13 (Z 12) fun v14 =>
 sCond v14 (
 kF 0 v5 fun v23 =>
 kL I v23 h1 fun v24 =>
 kB .eql v24 (Z 13) fun v25 =>
 gV v25 .true v1 h1 fun v27 h2 =>
 gP v25 .true (pFieldAddr 2 v5) h2 fun v28 h3 =>
 gP v25 .true (pLoad1 I v28 h3) h3 fun v29 h4 =>
 gP v25 .true (pIndexAddr 2 v27 v29) h4 fun v30 h5 =>
 gP v25 .true (pFieldAddr 0 v30) h5 fun v31 h6 =>
 gP v25 .true (pLoad1 I v31 h6) h6 fun v32 h7 =>
 gP v25 .true (pBin .eql v32 (Z 2)) h7 fun v33 h8 =>
 kP v25 v33 bF fun v34 =>
 sCond v34 (
 kF 0 v5 fun v42 =>
 kL I v42 h8 fun v43 =>
 kB .eql v43 (Z 14) fun v44 =>
 gV v44 .true v1 h8 fun v46 h9 =>
 gP v44 .true (pFieldAddr 2 v5) h9 fun v47 h10 =>
 gP v44 .true (pLoad1 I v47 h10) h10 fun v48 h11 =>
 gP v44 .true (pIndexAddr 2 v46 v48) h11 fun v49 h12 =>
 gP v44 .true (pFieldAddr 0 v49) h12 fun v50 h13 =>
 gP v44 .true (pLoad1 I v50 h13) h13 fun v51 h14 =>
 gP v44 .true (pBin .eql v51 (Z 3)) h14 fun v52 h15 =>
 kP v44 v52 bF fun v53 =>
 sCond v53 (
 j.1.1 v0 v1 v5 (Z 0) bF h15) (
 kN v0 fun v55 =>
 kF 2 v55 fun v56 =>
 kL I v56 h15 fun v57 =>
 kF 2 v5 fun v59 =>
 kL I v59 h15 fun v60 =>
 kI 2 v1 v60 fun v61 =>
 kF 1 v61 fun v62 =>
 kL I v62 h15 fun v63 =>
 kI 1 v57 v63 fun v64 =>
 kF 0 v64 fun v65 =>
 kL I v65 h15 fun v66 =>
 kF 4 v5 fun v67 =>
 kL I v67 h15 fun v68 =>
 kI 1 v66 v68 fun v69 =>
 kL I v69 h15 fun v70 =>
 j.1.1 v0 v1 v5 v70 bT h15)) (
 kF 2 v5 fun v36 =>
 kL I v36 h8 fun v37 =>
 kI 2 v1 v37 fun v38 =>
 kF 1 v38 fun v39 =>
 kL I v39 h8 fun v40 =>
 j.1.1 v0 v1 v5 v40 bT h8)) (
 kF 4 v5 fun v17 =>
 kL I v17 h1 fun v18 =>
 kC call 293 [v0, v18] h1 fun v19 h16 =>
 kX v19 0 fun v20 =>
 kX v19 1 fun v21 =>
 j.1.1 v0 v1 v5 v20 v21 h16)
def f294.T : Lb J294 J294 := fun I call j => ((f294.b0 I call j, (f294.b1 I call j, f294.b2 I call j)), (f294.b3 I call j, (f294.b4 I call j, f294.b5 I call j)))
def f294.r : Inp → SF := runL f294.T f294.e
theorem f294.k : FOk P 294 f294.r := .of 6 (([0, 1, 5, 7, 8], ([0, 1, 5, 7], [])), ([0, 1, 7, 105, 106, 107], ([0, 1, 7, 105, 106, 107], [0, 1, 7, 105, 106, 107])))
abbrev J295 := (A0 × A2)
def f295.b0 : Lb J295 A0 := fun I call j h =>
 some (.nils, h)
def f295.b1 : Lb J295 A2 := fun I call j v0 v3 h =>
 sCond v3 (
 kN v0 fun v32 =>
 kF 1 v32 fun v33 =>
 kL I v33 h fun v34 =>
 kB .eql v34 (Z 2) fun v35 =>
 sCond v35 (
 j.1 h) (
 kN v0 fun v37 =>
 kF 3 v37 fun v38 =>
 kL I v38 h fun v39 =>
 kN v0 fun v41 =>
 kF 4 v41 fun v42 =>
 kL I v42 h fun v43 =>
 bnd (sBuildSlice [Z 0] 2 [(0, 1, v39), (1, 1, v43)] h) fun v44 h1 =>
 some (v44, h1))) (
 kN v0 fun v26 =>
 kF 3 v26 fun v27 =>
 kL I v27 h fun v28 =>
 bnd (sBuildSlice [Z 0] 1 [(0, 1, v28)] h) fun v29 h2 =>
 some (v29, h2))
def f295.e : Lb J295 A1 := fun I call j v0 h =>
 kN v0 fun v5 =>
 kF 1 v5 fun v6 =>
 kL I v6 h fun v7 =>
 kB .eql v7 (Z 1) fun v8 =>
 sCond v8 (
 kN v0 fun v10 =>
 kF 1 v10 fun v11 =>
 kL I v11 h fun v12 =>
 kB .eql v12 (Z 2) fun v13 =>
 gV v13 .true v0 h fun v15 h1 =>
 gP v13 .true (pNilCheck v15) h1 fun v16 h2 =>
 gP v13 .true (pFieldAddr 3 v16) h2 fun v17 h3 =>
 gP v13 .true (pLoad1 I v17 h3) h3 fun v18 h4 =>
 gV v13 .true v0 h4 fun v19 h5 =>
 gP v13 .true (pNilCheck v19) h5 fun v20 h6 =>
 gP v13 .true (pFieldAddr 4 v20) h6 fun v21 h7 =>
 gP v13 .true (pLoad1 I v21 h7) h7 fun v22 h8 =>
 gP v13 .true (pBin .eql v18 v22) h8 fun v23 h9 =>
 kP v13 v23 bF fun v24 =>
 j.2 v0 v24 h9) (
 j.2 v0 v8 h)
def f295.T : Lb J295 J295 := fun I call j => (f295.b0 I call j, f295.b1 I call j)
def f295.r : Inp → SF := runL f295.T f295.e
theorem f295.k : FOk P 295 f295.r := .of 2 ([], [0, 3])
abbrev J296 := ((A1 × A3) × (A3 × A3))
def f296.b0 : Lb J296 A1 := fun I call j v3 h =>
 some (v3, h)
def f296.b1 : Lb J296 A3 := fun I call j v3 v7 v8 h =>
 kB .lss v8 v7 fun v9 =>
 sCond v9 (
 j.1.1 v3 h) (
 j.2.1 v3 v7 v8 h)
def f296.b2 : Lb J296 A3 := fun I call j v3 v7 v8 h =>
 kC call 124 [v3, v8] h fun v13 h1 =>
 j.2.2 v3 v7 v8 h1
def f296.b3 : Lb J296 A3 := fun I call j v3 v7 v8 h =>
 kB .add v8 (Z 1) fun v14 =>
 j.1.2 v3 v7 v14 h
def f296.e : Lb J296 A1 := fun I call j v0 h =>
 bndP (pBuild [.nils] []) fun v5 =>
 bnd (sBox v5 h) fun v6 h1 =>
 j.1.2 v6 v0 (Z 0) h1
def f296.T : Lb J296 J296 := fun I call j => ((f296.b0 I call j, f296.b1 I call j), (f296.b2 I call j, f296.b3 I call j))
def f296.r : Inp → SF := runL f296.T f296.e
theorem f296.k : FOk P 296 f296.r := .of 4 (([3], [3, 7, 8]), ([3, 7, 8], [3, 7, 8]))
abbrev J297 := A2
def f297.b0 : Lb J297 A2 := fun I call j v1 v2 h =>
 kM I 2 v2 h fun v19 =>
 bndP (pBuild [.nils] []) fun v21 =>
 bnd (sBox v21 h) fun v22 h1 =>
 kC call 332 [v19, v1, v22, .nils] h1 fun v23 h2 =>
 kC call 333 [v23] h2 fun v25 h3 =>
 some (v23, h3)
def f297.e : Lb J297 A2 := fun I call j v0 v1 h =>
 bnd (sBox v0 h) fun v2 h1 =>
 kM I 2 v2 h1 fun v6 =>
 kC call 260 [v6] h1 fun v7 h2 =>
 kU .not v7 fun v8 =>
 gV v8 .false v1 h2 fun v10 h3 =>
 gP v8 .false (pBin .lss v10 (Z 0)) h3 fun v11 h4 =>
 kP v8 bT v11 fun v12 =>
 gV v12 .false v1 h4 fun v14 h5 =>
 gP v12 .false (pFieldAddr 0 v2) h5 fun v15 h6 =>
 gP v12 .false (pLoad1 I v15 h6) h6 fun v16 h7 =>
 gP v12 .false (pBin .geq v14 v16) h7 fun v17 h8 =>
 kP v12 bT v17 fun v18 =>
 sCond v18 (
 j v1 v2 h8) (
 some (.nils, h8))
def f297.T : Lb J297 J297 := fun I call j => f297.b0 I call j
def f297.r : Inp → SF := runL f297.T f297.e
theorem f297.k : FOk P 297 f297.r := .of 1 [1, 2]
abbrev J298 := ((A1 × A4) × (A4 × A4))
def f298.b0 : Lb J298 A1 := fun I call j v5 h =>
 some (v5, h)
def f298.b1 : Lb J298 A4 := fun I call j v5 v13 v14 v15 h =>
 kB .lss v15 v14 fun v16 =>
 sCond v16 (
 j.1.1 v5 h) (
 j.2.1 v5 v13 v14 v15 h)
def f298.b2 : Lb J298 A4 := fun I call j v5 v13 v14 v15 h =>
 kI 6 v13 v15 fun v17 =>
 kM I 6 v17 h fun v18 =>
 kA [Z 0, Z 0, Z 0, Z 0, Z 0, .nils] h fun v7 h1 =>
 kS 6 v7 v18 h1 fun _ h2 =>
 kM I 6 v7 h2 fun v20 =>
 kC call 209 [v20] h2 fun v21 h3 =>
 kX v21 0 fun v22 =>
 kX v21 1 fun v23 =>
 sCond v23 (
 j.2.2 v5 v13 v14 v15 h3) (
 kC call 124 [v5, v22] h3 fun v27 h4 =>
 j.2.2 v5 v13 v14 v15 h4)
def f298.b3 : Lb J298 A4 := fun I call j v5 v13 v14 v15 h =>
 kB .add v15 (Z 1) fun v28 =>
 j.1.2 v5 v13 v14 v28 h
def f298.e : Lb J298 A2 := fun I call j v0 v1 h =>
 bnd (sBox v0 h) fun v2 h1 =>
 kC call 130 [v1] h1 fun v11 h2 =>
 kF 0 v2 fun v12 =>
 kL I v12 h2 fun v13 =>
 kZ v13 fun v14 =>
 j.1.2 v11 v13 v14 (Z 0) h2
def f298.T : Lb J298 J298 := fun I call j => ((f298.b0 I call j, f298.b1 I call j), (f298.b2 I call j, f298.b3 I call j))
def f298.r : Inp → SF := runL f298.T f298.e
theorem f298.k : FOk P 298 f298.r := .of 4 (([5], [5, 13, 14, 15]), ([5, 13, 14, 15], [5, 13, 14, 15]))
abbrev J299 := ((A1 × A4) × (A4 × A4))
def f299.b0 : Lb J299 A1 := fun I call j v5 h =>
 some (v5, h)
def f299.b1 : Lb J299 A4 := fun I call j v1 v5 v13 v14 h =>
 kB .lss v14 v13 fun v15 =>
 sCond v15 (
 j.1.1 v5 h) (
 j.2.1 v1 v5 v13 v14 h)
def f299.b2 : Lb J299 A4 := fun I call j v1 v5 v13 v14 h =>
 kN v5 fun v18 =>
 kF 0 v18 fun v19 =>
 kL I v19 h fun v20 =>
 kI 1 v20 v14 fun v22 =>
 kL I v22 h fun v23 =>
 kC call 165 [v1, v14] h fun v26 h1 =>
 kB .and v23 v26 fun v27 =>
 kI 1 v20 v14 fun v28 =>
 kS 1 v28 v27 h1 fun _ h2 =>
 sCheck (sSame (lift (pLoad1 I v19 h1) h1) v20 && true) (
 sCheck (sSame (lift (pLoad1 I v22 h1) h1) v23 && true) (
 j.2.2 v1 v5 v13 v14 h2))
def f299.b3 : Lb J299 A4 := fun I call j v1 v5 v13 v14 h =>
 kB .add v14 (Z 1) fun v29 =>
 j.1.2 v1 v5 v13 v29 h
def f299.e : Lb J299 A2 := fun I call j v0 v1 h =>
 kC call 130 [v0] h fun v8 h1 =>
 kN v8 fun v10 =>
 kF 0 v10 fun v11 =>
 kL I v11 h1 fun v12 =>
 kZ v12 fun v13 =>
 j.1.2 v1 v8 v13 (Z 0) h1
def f299.T : Lb J299 J299 := fun I call j => ((f299.b0 I call j, f299.b1 I call j), (f299.b2 I call j, f299.b3 I call j))
def f299.r : Inp → SF := runL f299.T f299.e
theorem f299.k : FOk P 299 f299.r := .of 4 (([5], [1, 5, 13, 14]), ([1, 5, 13, 14], [1, 5, 13, 14]))
def f300.e : Lb Unit A2 := fun I call j v0 v1 h =>
 kC call 208 [v0, v1] h fun v7 h1 =>
 gV v7 .true v1 h1 fun v9 h2 =>
 gV v7 .true v0 h2 fun v10 h3 =>
 gS v7 .true (call 208 [v9, v10] h3) h3 fun v11 h4 =>
 kP v7 v11 bF fun v12 =>
 some (v12, h4)
def f300.T : Lb Unit Unit := fun I call j => ()
def f300.r : Inp → SF := runL f300.T f300.e
theorem f300.k : FOk P 300 f300.r := .of 0 ()
def f305.e : Lb Unit A3 := fun I call j v0 v1 v2 h =>
 kL I v1 h fun v5 =>
 kN v5 fun v6 =>
 kF 1 v6 fun v7 =>
 kL I v7 h fun v8 =>
 kL I v2 h fun v9 =>
 kC call 214 [v8, v9, v0] h fun v11 h1 =>
 some (v11, h1)
def f305.T : Lb Unit Unit := fun I call j => ()
def f305.r : Inp → SF := runL f305.T f305.e
theorem f305.k : FOk P 305 f305.r := .of 0 ()
abbrev J306 := A1
def f306.b0 : Lb J306 A1 := fun I call j v0 h =>
 kN v0 fun v6 =>
 kF 3 v6 fun v7 =>
 kL I v7 h fun v8 =>
 kC call 123 [v8] h fun v9 h1 =>
 some (v9, h1)
def f306.e : Lb J306 A1 := fun I call j v0 h =>
 bndP (pEq P .false .ptr .true v0 .nilp h) fun v4 =>
 sCond v4 (
 j v0 h) (
 some (.nils, h))
def f306.T : Lb J306 J306 := fun I call j => f306.b0 I call j
def f306.r : Inp → SF := runL f306.T f306.e
theorem f306.k : FOk P 306 f306.r := .of 1 [0]
abbrev J307 := A2
def f307.b0 : Lb J307 A2 := fun I call j v0 v1 h =>
 kN v0 fun v21 =>
 kF 3 v21 fun v22 =>
 kL I v22 h fun v23 =>
 kZ v23 fun v24 =>
 kB .add v24 v1 fun v26 =>
 some (v26, h)
def f307.e : Lb J307 A2 := fun I call j v0 v1 h =>
 bndP (pEq P .false .ptr .true v0 .nilp h) fun v6 =>
 gV v6 .false v1 h fun v8 h1 =>
 gP v6 .false (pBin .lss v8 (Z 0)) h1 fun v9 h2 =>
 kP v6 bT v9 fun v10 =>
 gV v10 .false v1 h2 fun v12 h3 =>
 gV v10 .false v0 h3 fun v13 h4 =>
 gP v10 .false (pNilCheck v13) h4 fun v14 h5 =>
 gP v10 .false (pFieldAddr 1 v14) h5 fun v15 h6 =>
 gP v10 .false (pLoad1 I v15 h6) h6 fun v16 h7 =>
 gP v10 .false (pLenSl v16) h7 fun v17 h8 =>
 gP v10 .false (pBin .geq v12 v17) h8 fun v18 h9 =>
 kP v10 bT v18 fun v19 =>
 sCond v19 (
 j v0 v1 h9) (
 some ((.int .i64 (.negSucc 0)), h9))
def f307.T : Lb J307 J307 := fun I call j => f307.b0 I call j
def f307.r : Inp → SF := runL f307.T f307.e
theorem f307.k : FOk P 307 f307.r := .of 1 [0, 1]
abbrev J308 := ((A5 × A5) × (A9 × (A9 × A9)))
def f308.b0 : Lb J308 A5 := fun I call j v0 v1 v3 v6 v8 h =>
 kN v0 fun v17 =>
 kF 0 v17 fun v18 =>
 kL I v18 h fun v19 =>
 kN v19 fun v20 =>
 kF 4 v20 fun v21 =>
 kL I v21 h fun v22 =>
 kI 3 v22 v1 fun v24 =>
 kF 1 v24 fun v25 =>
 kL I v25 h fun v26 =>
 kF 5 v6 fun v27 =>
 kL I v27 h fun v28 =>
 kZ v28 fun v29 =>
 j.2.1 v0 v1 v3 v6 v8 v26 v28 v29 (Z 0) h
def f308.b1 : Lb J308 A5 := fun I call j v0 v1 v3 v6 v9 h =>
 kF 1 v6 fun v63 =>
 kL I v63 h fun v64 =>
 kI 2 v9 v64 fun v65 =>
 kM I 2 v65 h fun v66 =>
 kN v0 fun v68 =>
 kF 1 v68 fun v69 =>
 kL I v69 h fun v70 =>
 kC call 215 [v70, v3] h fun v72 h1 =>
 kN v0 fun v74 =>
 kF 1 v74 fun v75 =>
 kL I v75 h1 fun v76 =>
 kF 1 v6 fun v78 =>
 kL I v78 h1 fun v79 =>
 kC call 214 [v76, v1, v79] h1 fun v80 h2 =>
 kC call 213 [v0, v66, v72, v80] h2 fun v81 h3 =>
 sCheck (sSame (lift (pLoad1 I v63 h1) h1) v64 && (sSame (lift (pLoad1 I v63 h2) h2) v64 && true)) (
 sCheck (sSame (lift (pLoadN I 2 v65 h1) h1) v66 && (sSame (lift (pLoadN I 2 v65 h2) h2) v66 && true)) (
 sCheck (sSame (lift (pLoad1 I v75 h) h) v76 && true) (
 sCheck (sSame (lift (pLoad1 I v78 h) h) v79 && true) (
 some (.tuple [], h3)))))
def f308.b2 : Lb J308 A9 := fun I call j v0 v1 v3 v6 v8 v9 v28 v29 v30 h =>
 kB .lss v30 v29 fun v31 =>
 sCond v31 (
 j.1.2 v0 v1 v3 v6 v9 h) (
 j.2.2.1 v0 v1 v3 v6 v8 v9 v28 v29 v30 h)
def f308.b3 : Lb J308 A9 := fun I call j v0 v1 v3 v6 v8 v9 v28 v29 v30 h =>
 kI 1 v28 v30 fun v33 =>
 kL I v33 h fun v34 =>
 kN v0 fun v36 =>
 kF 1 v36 fun v37 =>
 kL I v37 h fun v38 =>
 kB .add v30 v8 fun v42 =>
 kC call 214 [v38, v3, v42] h fun v43 h1 =>
 kB .geq v43 (Z 0) fun v45 =>
 sCond v45 (
 j.2.2.2 v0 v1 v3 v6 v8 v9 v28 v29 v30 h1) (
 kI 2 v9 v34 fun v49 =>
 kM I 2 v49 h1 fun v50 =>
 kN v0 fun v52 =>
 kF 1 v52 fun v53 =>
 kL I v53 h1 fun v54 =>
 kC call 214 [v54, v1, v34] h1 fun v57 h2 =>
 kC call 213 [v0, v50, v57, v43] h2 fun v59 h3 =>
 sCheck (sSame (lift (pLoadN I 2 v49 h2) h2) v50 && true) (
 j.2.2.2 v0 v1 v3 v6 v8 v9 v28 v29 v30 h3))
def f308.b4 : Lb J308 A9 := fun I call j v0 v1 v3 v6 v8 v9 v28 v29 v30 h =>
 kB .add v30 (Z 1) fun v60 =>
 j.2.1 v0 v1 v3 v6 v8 v9 v28 v29 v60 h
def f308.e : Lb J308 A4 := fun I call j v0 v1 v2 v3 h =>
 bnd (sBox v2 h) fun v6 h1 =>
 kF 0 v6 fun v13 =>
 kL I v13 h1 fun v14 =>
 kB .eql v14 (Z 14) fun v15 =>
 sCond v15 (
 j.1.1 v0 v1 v3 v6 (Z 0) h1) (
 j.1.1 v0 v1 v3 v6 (Z 1) h1)
def f308.T : Lb J308 J308 := fun I call j => ((f308.b0 I call j, f308.b1 I call j), (f308.b2 I call j, (f308.b3 I call j, f308.b4 I call j)))
def f308.r : Inp → SF := runL f308.T f308.e
theorem f308.k : FOk P 308 f308.r := .of 5 (([0, 1, 3, 6, 8], [0, 1, 3, 6, 9]), ([0, 1, 3, 6, 8, 9, 28, 29, 30], ([0, 1, 3, 6, 8, 9, 28, 29, 30], [0, 1, 3, 6, 8, 9, 28, 29, 30])))
abbrev J309 := A2
def f309.b0 : Lb J309 A2 := fun I call j v0 v1 h =>
 kI 1 v0 v1 fun v15 =>
 kL I v15 h fun v16 =>
 some (v16, h)
def f309.e : Lb J309 A2 := fun I call j v0 v1 h =>
 kB .lss v1 (Z 0) fun v6 =>
 gV v6 .false v1 h fun v8 h1 =>
 gV v6 .false v0 h1 fun v9 h2 =>
 gP v6 .false (pLenSl v9) h2 fun v10 h3 =>
 gP v6 .false (pBin .geq v8 v10) h3 fun v11 h4 =>
 kP v6 bT v11 fun v12 =>
 sCond v12 (
 j v0 v1 h4) (
 some ((.int .i64 (.negSucc 0)), h4))
def f309.T : Lb J309 J309 := fun I call j => f309.b0 I call j
def f309.r : Inp → SF := runL f309.T f309.e
theorem f309.k : FOk P 309 f309.r := .of 1 [0, 1]
def f310.e : Lb Unit A3 := fun I call j v0 v1 v2 h =>
 kN v0 fun v9 =>
 kF 2 v9 fun v10 =>
 kL I v10 h fun v11 =>
 kC call 337 [v11, v1, v2] h fun v14 h1 =>
 kN v0 fun v16 =>
 kF 2 v16 fun v17 =>
 kL I v17 h1 fun v18 =>
 kC call 77 [v18, v1] h1 fun v20 h2 =>
 kB .add v1 v2 fun v23 =>
 kB .sub v23 v20 fun v25 =>
 kN v0 fun v27 =>
 kF 3 v27 fun v28 =>
 kL I v28 h2 fun v29 =>
 kI 1 v29 v20 fun v31 =>
 kL I v31 h2 fun v32 =>
 kN v0 fun v34 =>
 kF 3 v34 fun v35 =>
 kL I v35 h2 fun v36 =>
 kI 1 v36 v25 fun v38 =>
 kL I v38 h2 fun v39 =>
 kC call 224 [v32, v39] h2 fun v40 h3 =>
 kN v0 fun v42 =>
 kF 5 v42 fun v43 =>
 kL I v43 h3 fun v44 =>
 kI 1 v44 v20 fun v46 =>
 kL I v46 h3 fun v47 =>
 kN v0 fun v49 =>
 kF 5 v49 fun v50 =>
 kL I v50 h3 fun v51 =>
 kI 1 v51 v25 fun v53 =>
 kL I v53 h3 fun v54 =>
 kC call 224 [v47, v54] h3 fun v55 h4 =>
 kN v0 fun v57 =>
 kF 6 v57 fun v58 =>
 kL I v58 h4 fun v59 =>
 kN v0 fun v62 =>
 kF 6 v62 fun v63 =>
 kL I v63 h4 fun v64 =>
 kI 1 v64 v20 fun v66 =>
 kL I v66 h4 fun v67 =>
 kN v0 fun v69 =>
 kF 6 v69 fun v70 =>
 kL I v70 h4 fun v71 =>
 kI 1 v71 v25 fun v73 =>
 kL I v73 h4 fun v74 =>
 bnd (sAppend I 7 72 v67 v74 h4) fun v75 h5 =>
 kI 1 v59 v20 fun v76 =>
 kS 1 v76 v75 h5 fun _ h6 =>
 sCheck (sSame (lift (pLoad1 I v58 h5) h5) v59 && true) (
 kN v0 fun v78 =>
 kF 4 v78 fun v79 =>
 kL I v79 h6 fun v80 =>
 bndP (pBuild [.nils] []) fun v82 =>
 bnd (sBox v82 h6) fun v83 h7 =>
 kI 1 v80 v20 fun v84 =>
 kS 1 v84 v83 h7 fun _ h8 =>
 kN v0 fun v86 =>
 kF 9 v86 fun v87 =>
 kL I v87 h8 fun v88 =>
 kC call 225 [v88, v20] h8 fun v90 h9 =>
 some (.tuple [], h9))
def f310.T : Lb Unit Unit := fun I call j => ()
def f310.r : Inp → SF := runL f310.T f310.e
theorem f310.k : FOk P 310 f310.r := .of 0 ()
abbrev J312 := ((A3 × A1) × (A4 × (A4 × A4)))
def f312.b0 : Lb J312 A3 := fun I call j v0 v2 v7 h =>
 kN v0 fun v30 =>
 kF 0 v30 fun v31 =>
 kL I v31 h fun v32 =>
 kI 1 v32 v7 fun v34 =>
 kL I v34 h fun v35 =>
 kZ v35 fun v36 =>
 j.2.1 v2 .nils v36 (Z 0) h
def f312.b1 : Lb J312 A1 := fun I call j v8 h =>
 some (v8, h)
def f312.b2 : Lb J312 A4 := fun I call j v2 v8 v36 v37 h =>
 kB .lss v37 v36 fun v38 =>
 sCond v38 (
 j.1.2 v8 h) (
 j.2.2.1 v2 v8 v36 v37 h)
def f312.b3 : Lb J312 A4 := fun I call j v2 v8 v36 v37 h =>
 bndP (pBuild [Z 0, Z 0] [(0, 1, v2), (1, 1, v37)]) fun v43 =>
 bnd (sBuildSlice [Z 0, Z 0] 1 [(0, 2, v43)] h) fun v44 h1 =>
 bnd (sAppend I 2 16 v8 v44 h1) fun v45 h2 =>
 j.2.2.2 v2 v45 v36 v37 h2
def f312.b4 : Lb J312 A4 := fun I call j v2 v8 v36 v37 h =>
 kB .add v37 (Z 1) fun v46 =>
 j.2.1 v2 v8 v36 v46 h
def f312.e : Lb J312 A3 := fun I call j v0 v1 v2 h =>
 kC call 346 [v1] h fun v11 h1 =>
 kC call 223 [v11, v2] h1 fun v13 h2 =>
 bndP (pEq P .false .ptr .true v0 .nilp h2) fun v15 =>
 gV v15 .false v13 h2 fun v17 h3 =>
 gP v15 .false (pBin .lss v17 (Z 0)) h3 fun v18 h4 =>
 kP v15 bT v18 fun v19 =>
 gV v19 .false v13 h4 fun v21 h5 =>
 gV v19 .false v0 h5 fun v22 h6 =>
 gP v19 .false (pNilCheck v22) h6 fun v23 h7 =>
 gP v19 .false (pFieldAddr 0 v23) h7 fun v24 h8 =>
 gP v19 .false (pLoad1 I v24 h8) h8 fun v25 h9 =>
 gP v19 .false (pLenSl v25) h9 fun v26 h10 =>
 gP v19 .false (pBin .geq v21 v26) h10 fun v27 h11 =>
 kP v19 bT v27 fun v28 =>
 sCond v28 (
 j.1.1 v0 v2 v13 h11) (
 some (.nils, h11))
def f312.T : Lb J312 J312 := fun I call j => ((f312.b0 I call j, f312.b1 I call j), (f312.b2 I call j, (f312.b3 I call j, f312.b4 I call j)))
def f312.r : Inp → SF := runL f312.T f312.e
theorem f312.k : FOk P 312 f312.r := .of 5 (([0, 2, 7], [8]), ([2, 8, 36, 37], ([2, 8, 36, 37], [2, 8, 36, 37])))
def f313.e : Lb Unit A2 := fun I call j v0 v1 h =>
 bnd (sBox v0 h) fun v2 h1 =>
 bnd (sBox v1 h1) fun v3 h2 =>
 kF 0 v2 fun v5 =>
 kL I v5 h2 fun v6 =>
 kF 0 v3 fun v7 =>
 kL I v7 h2 fun v8 =>
 kC call 63 [v6, v8] h2 fun v9 h3 =>
 kF 1 v2 fun v10 =>
 kL I v10 h3 fun v11 =>
 kF 1 v3 fun v12 =>
 kL I v12 h3 fun v13 =>
 kC call 63 [v11, v13] h3 fun v14 h4 =>
 bnd (sBuildSlice [Z 0] 2 [(0, 1, v9), (1, 1, v14)] h4) fun v15 h5 =>
 kC call 62 [v15] h5 fun v16 h6 =>
 sCheck (sSame (lift (pLoad1 I v10 h2) h2) v11 && true) (
 sCheck (sSame (lift (pLoad1 I v12 h2) h2) v13 && true) (
 some (v16, h6)))
def f313.T : Lb Unit Unit := fun I call j => ()
def f313.r : Inp → SF := runL f313.T f313.e
theorem f313.k : FOk P 313 f313.r := .of 0 ()
abbrev J314 := (((A2 × A6) × (A6 × A9)) × ((A9 × A9) × ((AVal → A9) × (AVal → A9))))
def f314.b0 : Lb J314 A2 := fun I call j v8 v10 h =>
 kC call 259 [v8] h fun v93 h1 =>
 some (.tuple [v8, v10], h1)
def f314.b1 : Lb J314 A6 := fun I call j v0 v2 v8 v9 v10 v11 h =>
 kZ v11 fun v30 =>
 kB .gtr v30 (Z 0) fun v31 =>
 sCond v31 (
 j.1.1.1 v8 v10 h) (
 j.1.2.1 v0 v2 v8 v9 v10 v11 h)
def f314.b2 : Lb J314 A6 := fun I call j v0 v2 v8 v9 v10 v11 h =>
 kI 1 v11 (Z 0) fun v33 =>
 kL I v33 h fun v34 =>
 bndP (pSliceS 1 v11 (some (Z 1)) none none) fun v36 =>
 kN v0 fun v38 =>
 kF 1 v38 fun v39 =>
 kL I v39 h fun v40 =>
 kN v0 fun v43 =>
 kF 0 v43 fun v44 =>
 kL I v44 h fun v45 =>
 kB .sub v34 v45 fun v46 =>
 kI 1 v40 v46 fun v47 =>
 kL I v47 h fun v48 =>
 kZ v48 fun v49 =>
 j.1.2.2 v0 v2 v8 v9 v10 v36 v48 v49 (Z 0) h
def f314.b3 : Lb J314 A9 := fun I call j v0 v2 v8 v9 v10 v11 v48 v49 v50 h =>
 kB .lss v50 v49 fun v51 =>
 sCond v51 (
 j.1.1.2 v0 v2 v8 v9 v10 v11 h) (
 j.2.1.1 v0 v2 v8 v9 v10 v11 v48 v49 v50 h)
def f314.b4 : Lb J314 A9 := fun I call j v0 v2 v8 v9 v10 v11 v48 v49 v50 h =>
 kI 1 v48 v50 fun v52 =>
 kL I v52 h fun v53 =>
 kN v0 fun v57 =>
 kF 0 v57 fun v58 =>
 kL I v58 h fun v59 =>
 kB .sub v53 v59 fun v60 =>
 kI 1 v9 v60 fun v61 =>
 kL I v61 h fun v62 =>
 sCond v62 (
 j.2.2.1 v0 v2 v8 v9 v10 v11 v53 v48 v49 v50 h) (
 j.2.1.2 v0 v2 v8 v9 v10 v11 v48 v49 v50 h)
def f314.b5 : Lb J314 A9 := fun I call j v0 v2 v8 v9 v10 v11 v48 v49 v50 h =>
 kB .add v50 (Z 1) fun v91 =>
 j.1.2.2 v0 v2 v8 v9 v10 v11 v48 v49 v91 h
def f314.b6 : Lb J314 (AVal → A9) := fun I call j v0 v2 v8 v9 v10 v11 v14 v48 v49 v50 h =>
 kN v0 fun v66 =>
 kF 0 v66 fun v67 =>
 kL I v67 h fun v68 =>
 kB .sub v14 v68 fun v69 =>
 kI 1 v9 v69 fun v70 =>
 kS 1 v70 bT h fun _ h1 =>
 bnd (sCallv call v2 [v14] h1) fun v73 h2 =>
 sCond v73 (
 j.2.2.2 v0 v2 v8 v9 v10 v11 v14 v48 v49 v50 h2) (
 bnd (sBuildSlice [Z 0] 1 [(0, 1, v14)] h2) fun v76 h3 =>
 bnd (sAppend I 1 8 v8 v76 h3) fun v77 h4 =>
 j.2.1.2 v0 v2 v77 v9 v10 v11 v48 v49 v50 h4)
def f314.b7 : Lb J314 (AVal → A9) := fun I call j v0 v2 v8 v9 v10 v11 v14 v48 v49 v50 h =>
 gV v10 .false v14 h fun v80 h1 =>
 gV v10 .false v0 h1 fun v81 h2 =>
 gP v10 .false (pNilCheck v81) h2 fun v82 h3 =>
 gP v10 .false (pFieldAddr 0 v82) h3 fun v83 h4 =>
 gP v10 .false (pLoad1 I v83 h4) h4 fun v84 h5 =>
 gP v10 .false (pBin .eql v80 v84) h5 fun v85 h6 =>
 kP v10 bT v85 fun v86 =>
 bnd (sBuildSlice [Z 0] 1 [(0, 1, v14)] h6) fun v89 h7 =>
 bnd (sAppend I 1 8 v11 v89 h7) fun v90 h8 =>
 j.2.1.2 v0 v2 v8 v9 v86 v90 v48 v49 v50 h8
def f314.e : Lb J314 A3 := fun I call j v0 v1 v2 h =>
 kN v0 fun v16 =>
 kF 1 v16 fun v17 =>
 kL I v17 h fun v18 =>
 kZ v18 fun v19 =>
 bnd (sMakeSlice [bF] 1 v19 v19 h) fun v20 h1 =>
 kN v0 fun v23 =>
 kF 0 v23 fun v24 =>
 kL I v24 h1 fun v25 =>
 kB .eql v1 v25 fun v26 =>
 bnd (sBuildSlice [Z 0] 1 [(0, 1, v1)] h1) fun v28 h2 =>
 j.1.1.2 v0 v2 .nils v20 v26 v28 h2
def f314.T : Lb J314 J314 := fun I call j => (((f314.b0 I call j, f314.b1 I call j), (f314.b2 I call j, f314.b3 I call j)), ((f314.b4 I call j, f314.b5 I call j), (f314.b6 I call j, f314.b7 I call j)))
def f314.r : Inp → SF := runL f314.T f314.e
theorem f314.k : FOk P 314 f314.r := .of 8 ((([8, 10], [0, 2, 8, 9, 10, 11]), ([0, 2, 8, 9, 10, 11], [0, 2, 8, 9, 10, 11, 48, 49, 50])), (([0, 2, 8, 9, 10, 11, 48, 49, 50], [0, 2, 8, 9, 10, 11, 48, 49, 50]), ([0, 2, 8, 9, 10, 11, 14, 48, 49, 50], [0, 2, 8, 9, 10, 11, 14, 48, 49, 50])))
def f315.e : Lb Unit A3 := fun I call j v0 v1 v2 h =>
 kL I v1 h fun v10 =>
 kC call 82 [v10, v0] h fun v12 h1 =>
 kX v12 0 fun v13 =>
 kX v12 1 fun v14 =>
 kA [Z 0, Z 0, Z 0, Z 0, Z 0, .nils] h1 fun v5 h2 =>
 kS 6 v5 v13 h2 fun _ h3 =>
 kM I 6 v5 h3 fun v16 =>
 kC call 209 [v16] h3 fun v17 h4 =>
 kX v17 0 fun v18 =>
 kX v17 1 fun v19 =>
 gV v14 .true v19 h4 fun v22 h5 =>
 kP v14 v22 bF fun v23 =>
 gV v23 .true v18 h5 fun v25 h6 =>
 gP v23 .true (pLoad1 I v2 h6) h6 fun v26 h7 =>
 gP v23 .true (pBin .eql v25 v26) h7 fun v27 h8 =>
 kP v23 v27 bF fun v28 =>
 some (v28, h8)
def f315.T : Lb Unit Unit := fun I call j => ()
def f315.r : Inp → SF := runL f315.T f315.e
theorem f315.k : FOk P 315 f315.r := .of 0 ()
def f316.e : Lb Unit A3 := fun I call j v0 v1 v2 h =>
 kL I v1 h fun v5 =>
 kN v5 fun v6 =>
 kF 2 v6 fun v7 =>
 kL I v7 h fun v8 =>
 kI 1 v8 v0 fun v10 =>
 kL I v10 h fun v11 =>
 kM I 2 v2 h fun v12 =>
 bndP (mapGetV (.many [.i, .i]) bF .false v11 v12 h) fun v13 =>
 some (v13, h)
def f316.T : Lb Unit Unit := fun I call j => ()
def f316.r : Inp → SF := runL f316.T f316.e
theorem f316.k : FOk P 316 f316.r := .of 0 ()
abbrev J320 := (((A1 × A1) × (A2 × A2)) × ((A2 × A2) × (A4 × (A4 × A4))))
def f320.b0 : Lb J320 A1 := fun I call j v0 h =>
 j.1.2.1 v0 (Z 1) h
def f320.b1 : Lb J320 A1 := fun I call j v0 h =>
 some (v0, h)
def f320.b2 : Lb J320 A2 := fun I call j v0 v3 h =>
 kZ v0 fun v12 =>
 kB .lss v3 v12 fun v13 =>
 sCond v13 (
 j.1.1.2 v0 h) (
 j.1.2.2 v0 v3 h)
def f320.b3 : Lb J320 A2 := fun I call j v0 v3 h =>
 kI 1 v0 v3 fun v18 =>
 kL I v18 h fun v19 =>
 kB .sub v3 (Z 1) fun v22 =>
 kI 1 v0 v22 fun v23 =>
 kL I v23 h fun v24 =>
 kB .eql v19 v24 fun v25 =>
 sCond v25 (
 j.2.1.1 v0 v3 h) (
 bndP (pSliceS 1 v0 (some v3) none none) fun v28 =>
 j.2.2.1 v0 v3 v28 (Z 1) h)
def f320.b4 : Lb J320 A2 := fun I call j v0 v3 h =>
 kB .add v3 (Z 1) fun v15 =>
 j.1.2.1 v0 v15 h
def f320.b5 : Lb J320 A2 := fun I call j v0 v3 h =>
 bndP (pSliceS 1 v0 (some v3) none none) fun v56 =>
 bnd (clearV [Z 0] v56 h) fun _ h1 =>
 bndP (pSliceS 1 v0 none (some v3) none) fun v59 =>
 some (v59, h1)
def f320.b6 : Lb J320 A4 := fun I call j v0 v3 v4 v5 h =>
 kZ v4 fun v31 =>
 kB .lss v5 v31 fun v32 =>
 sCond v32 (
 j.2.1.2 v0 v3 h) (
 j.2.2.2.1 v0 v3 v4 v5 h)
def f320.b7 : Lb J320 A4 := fun I call j v0 v3 v4 v5 h =>
 kI 1 v4 v5 fun v37 =>
 kL I v37 h fun v38 =>
 kB .sub v5 (Z 1) fun v41 =>
 kI 1 v4 v41 fun v42 =>
 kL I v42 h fun v43 =>
 kB .neq v38 v43 fun v44 =>
 sCond v44 (
 j.2.2.2.2 v0 v3 v4 v5 h) (
 kI 1 v4 v5 fun v49 =>
 kL I v49 h fun v50 =>
 kI 1 v0 v3 fun v51 =>
 kS 1 v51 v50 h fun _ h1 =>
 kB .add v3 (Z 1) fun v53 =>
 j.2.2.2.2 v0 v53 v4 v5 h1)
def f320.b8 : Lb J320 A4 := fun I call j v0 v3 v4 v5 h =>
 kB .add v5 (Z 1) fun v34 =>
 j.2.2.1 v0 v3 v4 v34 h
def f320.e : Lb J320 A1 := fun I call j v0 h =>
 kZ v0 fun v7 =>
 kB .lss v7 (Z 2) fun v8 =>
 sCond v8 (
 j.1.1.1 v0 h) (
 some (v0, h))
def f320.T : Lb J320 J320 := fun I call j => (((f320.b0 I call j, f320.b1 I call j), (f320.b2 I call j, f320.b3 I call j)), ((f320.b4 I call j, f320.b5 I call j), (f320.b6 I call j, (f320.b7 I call j, f320.b8 I call j))))
def f320.r : Inp → SF := runL f320.T f320.e
theorem f320.k : FOk P 320 f320.r := .of 9 ((([0], [0]), ([0, 3], [0, 3])), (([0, 3], [0, 3]), ([0, 3, 4, 5], ([0, 3, 4, 5], [0, 3, 4, 5]))))
abbrev J321 := ((A6 × (A7 × A7)) × ((A7 × A9) × (A8 × A6)))
def f321.b0 : Lb J321 A6 := fun I call j v0 v1 v2 v3 v8 v9 h =>
 kB .sub v2 v1 fun v21 =>
 kB .leq v21 (Z 12) fun v23 =>
 sCond v23 (
 j.1.2.1 v0 v1 v2 v3 v8 v9 v21 h) (
 kC call 348 [v0, v1, v2] h fun v27 h1 =>
 some (.tuple [], h1))
def f321.b1 : Lb J321 A7 := fun I call j v0 v1 v2 v3 v8 v9 v10 h =>
 kB .eql v3 (Z 0) fun v29 =>
 sCond v29 (
 j.1.2.2 v0 v1 v2 v3 v8 v9 v10 h) (
 kC call 349 [v0, v1, v2] h fun v33 h1 =>
 some (.tuple [], h1))
def f321.b2 : Lb J321 A7 := fun I call j v0 v1 v2 v3 v8 v9 v10 h =>
 kU .not v8 fun v35 =>
 sCond v35 (
 j.2.1.1 v0 v1 v2 v3 v8 v9 v10 h) (
 kC call 350 [v0, v1, v2] h fun v39 h1 =>
 kB .sub v3 (Z 1) fun v41 =>
 j.2.1.1 v0 v1 v2 v41 v8 v9 v10 h1)
def f321.b3 : Lb J321 A7 := fun I call j v0 v1 v2 v3 v8 v9 v10 h =>
 kC call 351 [v0, v1, v2] h fun v46 h1 =>
 kX v46 0 fun v47 =>
 kX v46 1 fun v48 =>
 kB .eql v48 (Z 2) fun v50 =>
 sCond v50 (
 j.2.1.2 v0 v1 v2 v3 v8 v9 v10 v47 v48 h1) (
 kC call 352 [v0, v1, v2] h1 fun v54 h2 =>
 kB .sub v2 (Z 1) fun v56 =>
 kB .sub v47 v1 fun v59 =>
 kB .sub v56 v59 fun v60 =>
 j.2.1.2 v0 v1 v2 v3 v8 v9 v10 v60 (Z 1) h2)
def f321.b4 : Lb J321 A9 := fun I call j v0 v1 v2 v3 v8 v9 v10 v11 v12 h =>
 gV v8 .true v9 h fun v63 h1 =>
 kP v8 v63 bF fun v64 =>
 gV v64 .true v12 h1 fun v66 h2 =>
 gP v64 .true (pBin .eql v66 (Z 1)) h2 fun v67 h3 =>
 kP v64 v67 bF fun v68 =>
 sCond v68 (
 j.2.2.1 v0 v1 v2 v3 v8 v9 v10 v11 h3) (
 kC call 353 [v0, v1, v2] h3 fun v72 h4 =>
 sCond v72 (
 j.2.2.1 v0 v1 v2 v3 v8 v9 v10 v11 h4) (
 some (.tuple [], h4)))
def f321.b5 : Lb J321 A8 := fun I call j v0 v1 v2 v3 v8 v9 v10 v11 h =>
 kB .gtr v1 (Z 0) fun v74 =>
 gV v74 .true v0 h fun v76 h1 =>
 gV v74 .true v1 h1 fun v77 h2 =>
 gP v74 .true (pBin .sub v77 (Z 1)) h2 fun v78 h3 =>
 gP v74 .true (pIndexAddr 1 v76 v78) h3 fun v79 h4 =>
 gP v74 .true (pLoad1 I v79 h4) h4 fun v80 h5 =>
 gV v74 .true v0 h5 fun v81 h6 =>
 gV v74 .true v11 h6 fun v82 h7 =>
 gP v74 .true (pIndexAddr 1 v81 v82) h7 fun v83 h8 =>
 gP v74 .true (pLoad1 I v83 h8) h8 fun v84 h9 =>
 gS v74 .true (call 354 [v80, v84] h9) h9 fun v85 h10 =>
 gP v74 .true (pUn .not v85) h10 fun v86 h11 =>
 kP v74 v86 bF fun v87 =>
 sCond v87 (
 j.2.2.2 v0 v1 v2 v3 v10 v11 h11) (
 kC call 355 [v0, v1, v2, v11] h11 fun v92 h12 =>
 j.1.1 v0 v92 v2 v3 v8 v9 h12)
def f321.b6 : Lb J321 A6 := fun I call j v0 v1 v2 v3 v10 v11 h =>
 kC call 356 [v0, v1, v2, v11] h fun v99 h1 =>
 kX v99 0 fun v100 =>
 kX v99 1 fun v101 =>
 kB .sub v100 v1 fun v105 =>
 kB .sub v2 v100 fun v108 =>
 kB .quo v10 (Z 8) fun v110 =>
 kB .lss v105 v108 fun v113 =>
 sCond v113 (
 kB .geq v108 v110 fun v126 =>
 kB .add v100 (Z 1) fun v129 =>
 kC call 321 [v0, v129, v2, v3] h1 fun v132 h2 =>
 j.1.1 v0 v1 v100 v3 v126 v101 h2) (
 kB .geq v105 v110 fun v116 =>
 kC call 321 [v0, v1, v100, v3] h1 fun v121 h3 =>
 kB .add v100 (Z 1) fun v123 =>
 j.1.1 v0 v123 v2 v3 v116 v101 h3)
def f321.e : Lb J321 A4 := fun I call j v0 v1 v2 v3 h =>
 j.1.1 v0 v1 v2 v3 bT bT h
def f321.T : Lb J321 J321 := fun I call j => ((f321.b0 I call j, (f321.b1 I call j, f321.b2 I call j)), ((f321.b3 I call j, f321.b4 I call j), (f321.b5 I call j, f321.b6 I call j)))
def f321.r : Inp → SF := runL f321.T f321.e
theorem f321.k : FOk P 321 f321.r := .of 7 (([0, 1, 2, 3, 8, 9], ([0, 1, 2, 3, 8, 9, 10], [0, 1, 2, 3, 8, 9, 10])), (([0, 1, 2, 3, 8, 9, 10], [0, 1, 2, 3, 8, 9, 10, 11, 12]), ([0, 1, 2, 3, 8, 9, 10, 11], [0, 1, 2, 3, 10, 11])))
abbrev J325 := A3
def f325.b0 : Lb J325 A3 := fun I call j v2 v3 v4 h =>
 kF 1 v2 fun v14 =>
 kL I v14 h fun v15 =>
 kF 1 v3 fun v16 =>
 kL I v16 h fun v17 =>
 kB .add v15 v17 fun v18 =>
 kF 2 v2 fun v19 =>
 kL I v19 h fun v20 =>
 gP v20 .false (pFieldAddr 2 v3) h fun v22 h1 =>
 gP v20 .false (pLoad1 I v22 h1) h1 fun v23 h2 =>
 kP v20 bT v23 fun v24 =>
 bndP (pBuild [Z 0, Z 0, bF] [(0, 1, Z 0), (1, 1, v18), (2, 1, v24)]) fun v25 =>
 kS 3 v4 v25 h2 fun _ h3 =>
 sRet (sCons (sResN I 3 v4 h3) (some [])) h3
def f325.e : Lb J325 A2 := fun I call j v0 v1 h =>
 bnd (sBox v0 h) fun v2 h1 =>
 bnd (sBox v1 h1) fun v3 h2 =>
 kA [Z 0, Z 0, bF] h2 fun v4 h3 =>
 kF 0 v2 fun v5 =>
 kL I v5 h3 fun v6 =>
 kB .neq v6 (Z 0) fun v7 =>
 gP v7 .false (pFieldAddr 0 v3) h3 fun v9 h4 =>
 gP v7 .false (pLoad1 I v9 h4) h4 fun v10 h5 =>
 gP v7 .false (pBin .neq v10 (Z 0)) h5 fun v11 h6 =>
 kP v7 bT v11 fun v12 =>
 sCond v12 (
 j v2 v3 v4 h6) (
 bndP (pBuild [Z 0, Z 0, bF] []) fun v13 =>
 kS 3 v4 v13 h6 fun _ h7 =>
 sRet (sCons (sResN I 3 v4 h7) (some [])) h7)
def f325.T : Lb J325 J325 := fun I call j => f325.b0 I call j
def f325.r : Inp → SF := runL f325.T f325.e
theorem f325.k : FOk P 325 f325.r := .of 1 [2, 3, 4]
abbrev J326 := A1
def f326.b0 : Lb J326 A1 := fun I call j v2 h =>
 bndP (pBuild [Z 0, Z 0, bF] [(0, 1, Z 1)]) fun v7 =>
 kS 3 v2 v7 h fun _ h1 =>
 sRet (sCons (sResN I 3 v2 h1) (some [])) h1
def f326.e : Lb J326 A1 := fun I call j v0 h =>
 bnd (sBox v0 h) fun v1 h1 =>
 kA [Z 0, Z 0, bF] h1 fun v2 h2 =>
 kF 0 v1 fun v3 =>
 kL I v3 h2 fun v4 =>
 kB .eql v4 (Z 0) fun v5 =>
 sCond v5 (
 j v2 h2) (
 bndP (pBuild [Z 0, Z 0, bF] [(0, 1, Z 0)]) fun v6 =>
 kS 3 v2 v6 h2 fun _ h3 =>
 sRet (sCons (sResN I 3 v2 h3) (some [])) h3)
def f326.T : Lb J326 J326 := fun I call j => f326.b0 I call j
def f326.r : Inp → SF := runL f326.T f326.e
theorem f326.k : FOk P 326 f326.r := .of 1 [2]
abbrev J327 := A0
def f327.b0 : Lb J327 A0 := fun I call j h =>
 some ((.int .i64 (.negSucc 0)), h)
def f327.e : Lb J327 A3 := fun I call j v0 v1 v2 h =>
 bnd (sBox v2 h) fun v5 h1 =>
 kN v1 fun v14 =>
 kF 2 v14 fun v15 =>
 kL I v15 h1 fun v16 =>
 kF 2 v5 fun v17 =>
 kL I v17 h1 fun v18 =>
 kI 3 v16 v18 fun v19 =>
 kM I 3 v19 h1 fun v20 =>
 kA [Z 0, Z 0, bF] h1 fun v7 h2 =>
 kS 3 v7 v20 h2 fun _ h3 =>
 sCheck (sSame (lift (pLoad1 I v15 h2) h2) v16 && true) (
 sCheck (sSame (lift (pLoad1 I v17 h2) h2) v18 && true) (
 sCheck (sSame (lift (pLoadN I 3 v19 h2) h2) v20 && true) (
 kF 0 v5 fun v22 =>
 kL I v22 h3 fun v23 =>
 kB .eql v23 (Z 12) fun v24 =>
 sCond v24 (
 kF 0 v5 fun v28 =>
 kL I v28 h3 fun v29 =>
 kB .eql v29 (Z 13) fun v30 =>
 gP v30 .true (pFieldAddr 0 v7) h3 fun v32 h4 =>
 gP v30 .true (pLoad1 I v32 h4) h4 fun v33 h5 =>
 gP v30 .true (pBin .eql v33 (Z 3)) h5 fun v34 h6 =>
 kP v30 v34 bF fun v35 =>
 sCond v35 (
 kF 0 v5 fun v39 =>
 kL I v39 h6 fun v40 =>
 kB .eql v40 (Z 14) fun v41 =>
 gP v41 .true (pFieldAddr 0 v7) h6 fun v43 h7 =>
 gP v41 .true (pLoad1 I v43 h7) h7 fun v44 h8 =>
 gP v41 .true (pBin .eql v44 (Z 2)) h8 fun v45 h9 =>
 kP v41 v45 bF fun v46 =>
 sCond v46 (
 j h9) (
 sKeep 0 h9 fun h10 =>
 kN v0 fun v53 =>
 kF 2 v53 fun v54 =>
 kL I v54 h10 fun v55 =>
 kF 1 v7 fun v56 =>
 kL I v56 h10 fun v57 =>
 kC call 358 [v55, v57] h10 fun v58 h11 =>
 kN v0 fun v49 =>
 kF 0 v49 fun v50 =>
 kL I v50 h11 fun v51 =>
 kC call 140 [v51, v58] h11 fun v59 h12 =>
 kX v59 0 fun v60 =>
 bnd (sResvAlloc (h9.next + 0) [Z 0, Z 0, Z 0] h12) fun v8 h13 =>
 kS 3 v8 v60 h13 fun _ h14 =>
 kX v59 1 fun v61 =>
 sCheck (sSame (lift (pLoad1 I v50 h10) h10) v51 && true) (
 sKeep 0 h14 fun h15 =>
 kN v0 fun v68 =>
 kF 2 v68 fun v69 =>
 kL I v69 h15 fun v70 =>
 kF 1 v7 fun v71 =>
 kL I v71 h15 fun v72 =>
 kC call 358 [v70, v72] h15 fun v73 h16 =>
 kN v0 fun v64 =>
 kF 0 v64 fun v65 =>
 kL I v65 h16 fun v66 =>
 kC call 82 [v66, v73] h16 fun v74 h17 =>
 kX v74 0 fun v75 =>
 bnd (sResvAlloc (h14.next + 0) [Z 0, Z 0, Z 0, Z 0, Z 0, .nils] h17) fun v10 h18 =>
 kS 6 v10 v75 h18 fun _ h19 =>
 kX v74 1 fun v76 =>
 sCheck (sSame (lift (pLoad1 I v65 h15) h15) v66 && true) (
 kN v0 fun v78 =>
 kF 0 v78 fun v79 =>
 kL I v79 h19 fun v80 =>
 kN v0 fun v82 =>
 kF 0 v82 fun v83 =>
 kL I v83 h19 fun v84 =>
 kN v84 fun v85 =>
 kF 4 v85 fun v86 =>
 kL I v86 h19 fun v87 =>
 kF 0 v8 fun v88 =>
 kL I v88 h19 fun v89 =>
 kI 3 v87 v89 fun v90 =>
 kF 1 v90 fun v91 =>
 kL I v91 h19 fun v92 =>
 kF 1 v10 fun v93 =>
 kL I v93 h19 fun v94 =>
 kI 2 v92 v94 fun v95 =>
 kF 1 v95 fun v96 =>
 kL I v96 h19 fun v97 =>
 kN v0 fun v99 =>
 kF 0 v99 fun v100 =>
 kL I v100 h19 fun v101 =>
 kN v101 fun v102 =>
 kF 4 v102 fun v103 =>
 kL I v103 h19 fun v104 =>
 kN v1 fun v106 =>
 kF 0 v106 fun v107 =>
 kL I v107 h19 fun v108 =>
 kI 3 v104 v108 fun v109 =>
 kF 1 v109 fun v110 =>
 kL I v110 h19 fun v111 =>
 kF 2 v5 fun v112 =>
 kL I v112 h19 fun v113 =>
 kI 2 v111 v113 fun v114 =>
 kF 1 v114 fun v115 =>
 kL I v115 h19 fun v116 =>
 kC call 198 [v80, v97, v116] h19 fun v117 h20 =>
 kB .geq v117 (Z 0) fun v119 =>
 sCond v119 (
 j h20) (
 kN v0 fun v121 =>
 kF 0 v121 fun v122 =>
 kL I v122 h20 fun v123 =>
 kN v123 fun v124 =>
 kF 3 v124 fun v125 =>
 kL I v125 h20 fun v126 =>
 kI 3 v126 v117 fun v128 =>
 kF 2 v128 fun v129 =>
 kL I v129 h20 fun v130 =>
 kF 4 v5 fun v131 =>
 kL I v131 h20 fun v132 =>
 kI 1 v130 v132 fun v133 =>
 kL I v133 h20 fun v134 =>
 some (v134, h20)))))) (
 kF 1 v7 fun v36 =>
 kL I v36 h6 fun v37 =>
 some (v37, h6))) (
 kF 4 v5 fun v25 =>
 kL I v25 h3 fun v26 =>
 some (v26, h3)))))
def f327.T : Lb J327 J327 := fun I call j => f327.b0 I call j
def f327.r : Inp → SF := runL f327.T f327.e
theorem f327.k : FOk P 327 f327.r := .of 1 []
abbrev J328 := A2
def f328.b0 : Lb J328 A2 := fun I call j v6 v8 h =>
 kN v8 fun v22 =>
 kM I 3 v22 h fun v23 =>
 kS 3 v6 v23 h fun _ h1 =>
 sRet (sCons (sResN I 3 v6 h1) (sCons (some (Z 0)) (some []))) h1
def f328.e : Lb J328 A3 := fun I call j v0 v1 v2 h =>
 kA [Z 0, Z 0, bF] h fun v6 h1 =>
 kC call 359 [v0, v1, v2] h1 fun v14 h2 =>
 kX v14 0 fun v15 =>
 kX v14 1 fun v16 =>
 kB .neq v16 (Z 0) fun v18 =>
 sCond v18 (
 j v6 v15 h2) (
 bndP (pBuild [Z 0, Z 0, bF] []) fun v19 =>
 kS 3 v6 v19 h2 fun _ h3 =>
 sRet (sCons (sResN I 3 v6 h3) (sCons (some v16) (some []))) h3)
def f328.T : Lb J328 J328 := fun I call j => f328.b0 I call j
def f328.r : Inp → SF := runL f328.T f328.e
theorem f328.k : FOk P 328 f328.r := .of 1 [6, 8]
abbrev J329 := A1
def f329.b0 : Lb J329 A1 := fun I call j v10 h =>
 some (v10, h)
def f329.e : Lb J329 A4 := fun I call j v0 v1 v2 v3 h =>
 bnd (sBox v3 h) fun v7 h1 =>
 kC call 359 [v0, v1, v2] h1 fun v15 h2 =>
 kX v15 0 fun v16 =>
 kX v15 1 fun v17 =>
 kB .eql v17 (Z 0) fun v19 =>
 sCond v19 (
 j v17 h2) (
 kM I 3 v7 h2 fun v21 =>
 kN v16 fun v22 =>
 kS 3 v22 v21 h2 fun _ h3 =>
 j v17 h3)
def f329.T : Lb J329 J329 := fun I call j => f329.b0 I call j
def f329.r : Inp → SF := runL f329.T f329.e
theorem f329.k : FOk P 329 f329.r := .of 1 [10]
abbrev J330 := A1
def f330.b0 : Lb J330 A1 := fun I call j v5 h =>
 kN v5 fun v18 =>
 kF 2 v18 fun v19 =>
 kS 1 v19 bT h fun _ h1 =>
 some ((Z 0), h1)
def f330.e : Lb J330 A2 := fun I call j v0 v1 h =>
 kC call 360 [v0, v1] h fun v8 h1 =>
 bndP (pEq P .false .ptr .true v8 .nilp h1) fun v11 =>
 sCond v11 (
 kN v8 fun v14 =>
 kF 2 v14 fun v15 =>
 kL I v15 h1 fun v16 =>
 sCond v16 (
 j v8 h1) (
 some ((Z 2), h1))) (
 some ((Z 1), h1))
def f330.T : Lb J330 J330 := fun I call j => f330.b0 I call j
def f330.r : Inp → SF := runL f330.T f330.e
theorem f330.k : FOk P 330 f330.r := .of 1 [5]
abbrev J332 := ((A4 × A2) × (A7 × (A7 × A7)))
def f332.b0 : Lb J332 A4 := fun I call j v1 v2 v3 v4 h =>
 kF 1 v4 fun v16 =>
 kL I v16 h fun v17 =>
 kI 1 v17 v1 fun v19 =>
 kL I v19 h fun v20 =>
 kZ v20 fun v21 =>
 j.2.1 v1 v2 v3 v4 v20 v21 (Z 0) h
def f332.b1 : Lb J332 A2 := fun I call j v1 v3 h =>
 bnd (sBuildSlice [Z 0] 1 [(0, 1, v1)] h) fun v34 h1 =>
 bnd (sAppend I 1 8 v3 v34 h1) fun v35 h2 =>
 some (v35, h2)
def f332.b2 : Lb J332 A7 := fun I call j v1 v2 v3 v4 v20 v21 v22 h =>
 kB .lss v22 v21 fun v23 =>
 sCond v23 (
 j.1.2 v1 v3 h) (
 j.2.2.1 v1 v2 v3 v4 v20 v21 v22 h)
def f332.b3 : Lb J332 A7 := fun I call j v1 v2 v3 v4 v20 v21 v22 h =>
 kI 1 v20 v22 fun v24 =>
 kL I v24 h fun v25 =>
 kM I 2 v4 h fun v26 =>
 kC call 332 [v26, v25, v2, v3] h fun v30 h1 =>
 j.2.2.2 v1 v2 v30 v4 v20 v21 v22 h1
def f332.b4 : Lb J332 A7 := fun I call j v1 v2 v3 v4 v20 v21 v22 h =>
 kB .add v22 (Z 1) fun v31 =>
 j.2.1 v1 v2 v3 v4 v20 v21 v31 h
def f332.e : Lb J332 A4 := fun I call j v0 v1 v2 v3 h =>
 bnd (sBox v0 h) fun v4 h1 =>
 kC call 124 [v2, v1] h1 fun v13 h2 =>
 kU .not v13 fun v14 =>
 sCond v14 (
 j.1.1 v1 v2 v3 v4 h2) (
 some (v3, h2))
def f332.T : Lb J332 J332 := fun I call j => ((f332.b0 I call j, f332.b1 I call j), (f332.b2 I call j, (f332.b3 I call j, f332.b4 I call j)))
def f332.r : Inp → SF := runL f332.T f332.e
theorem f332.k : FOk P 332 f332.r := .of 5 (([1, 2, 3, 4], [1, 3]), ([1, 2, 3, 4, 20, 21, 22], ([1, 2, 3, 4, 20, 21, 22], [1, 2, 3, 4, 20, 21, 22])))
abbrev J333 := (A3 × (A3 × A3))
def f333.b0 : Lb J333 A3 := fun I call j v0 v2 v3 h =>
 kB .lss v2 v3 fun v9 =>
 sCond v9 (
 some (.tuple [], h)) (
 j.2.1 v0 v2 v3 h)
def f333.b1 : Lb J333 A3 := fun I call j v0 v2 v3 h =>
 kI 1 v0 v3 fun v20 =>
 kL I v20 h fun v21 =>
 kI 1 v0 v2 fun v24 =>
 kL I v24 h fun v25 =>
 kI 1 v0 v2 fun v26 =>
 kS 1 v26 v21 h fun _ h1 =>
 kI 1 v0 v3 fun v27 =>
 kS 1 v27 v25 h1 fun _ h2 =>
 j.2.2 v0 v2 v3 h2
def f333.b2 : Lb J333 A3 := fun I call j v0 v2 v3 h =>
 kB .add v2 (Z 1) fun v11 =>
 kB .sub v3 (Z 1) fun v13 =>
 j.1 v0 v11 v13 h
def f333.e : Lb J333 A1 := fun I call j v0 h =>
 kZ v0 fun v5 =>
 kB .sub v5 (Z 1) fun v6 =>
 j.1 v0 (Z 0) v6 h
def f333.T : Lb J333 J333 := fun I call j => (f333.b0 I call j, (f333.b1 I call j, f333.b2 I call j))
def f333.r : Inp → SF := runL f333.T f333.e
theorem f333.k : FOk P 333 f333.r := .of 3 ([0, 2, 3], ([0, 2, 3], [0, 2, 3]))
abbrev J337 := A3
def f337.b0 : Lb J337 A3 := fun I call j v0 v7 v8 h =>
 kN v0 fun v27 =>
 kF 0 v27 fun v28 =>
 kL I v28 h fun v29 =>
 bndP (pMinmax .true [v7, v8]) fun v32 =>
 bndP (pMinmax .false [v7, v8]) fun v35 =>
 kI 1 v29 v32 fun v36 =>
 kS 1 v36 v35 h fun _ h1 =>
 some (bT, h1)
def f337.e : Lb J337 A3 := fun I call j v0 v1 v2 h =>
 kC call 77 [v0, v1] h fun v11 h1 =>
 kC call 77 [v0, v2] h1 fun v14 h2 =>
 kB .lss v11 (Z 0) fun v16 =>
 gV v16 .false v14 h2 fun v18 h3 =>
 gP v16 .false (pBin .lss v18 (Z 0)) h3 fun v19 h4 =>
 kP v16 bT v19 fun v20 =>
 gV v20 .false v11 h4 fun v22 h5 =>
 gV v20 .false v14 h5 fun v23 h6 =>
 gP v20 .false (pBin .eql v22 v23) h6 fun v24 h7 =>
 kP v20 bT v24 fun v25 =>
 sCond v25 (
 j v0 v11 v14 h7) (
 some (bF, h7))
def f337.T : Lb J337 J337 := fun I call j => f337.b0 I call j
def f337.r : Inp → SF := runL f337.T f337.e
theorem f337.k : FOk P 337 f337.r := .of 1 [0, 7, 8]
abbrev J346 := A1
def f346.b0 : Lb J346 A1 := fun I call j v0 h =>
 kN v0 fun v6 =>
 kF 1 v6 fun v7 =>
 kL I v7 h fun v8 =>
 some (v8, h)
def f346.e : Lb J346 A1 := fun I call j v0 h =>
 bndP (pEq P .false .ptr .true v0 .nilp h) fun v4 =>
 sCond v4 (
 j v0 h) (
 some (.nilp, h))
def f346.T : Lb J346 J346 := fun I call j => f346.b0 I call j
def f346.r : Inp → SF := runL f346.T f346.e
theorem f346.k : FOk P 346 f346.r := .of 1 [0]
abbrev J348 := ((A4 × (A4 × A4)) × (A5 × (A5 × A5)))
def f348.b0 : Lb J348 A4 := fun I call j v0 v1 v2 v6 h =>
 kB .lss v6 v2 fun v12 =>
 sCond v12 (
 some (.tuple [], h)) (
 j.1.2.1 v0 v1 v2 v6 h)
def f348.b1 : Lb J348 A4 := fun I call j v0 v1 v2 v6 h =>
 j.2.1 v0 v1 v2 v6 v6 h
def f348.b2 : Lb J348 A4 := fun I call j v0 v1 v2 v6 h =>
 kB .add v6 (Z 1) fun v14 =>
 j.1.1 v0 v1 v2 v14 h
def f348.b3 : Lb J348 A5 := fun I call j v0 v1 v2 v6 v7 h =>
 kB .gtr v7 v1 fun v18 =>
 gV v18 .true v0 h fun v20 h1 =>
 gV v18 .true v7 h1 fun v21 h2 =>
 gP v18 .true (pIndexAddr 1 v20 v21) h2 fun v22 h3 =>
 gP v18 .true (pLoad1 I v22 h3) h3 fun v23 h4 =>
 gV v18 .true v0 h4 fun v24 h5 =>
 gV v18 .true v7 h5 fun v25 h6 =>
 gP v18 .true (pBin .sub v25 (Z 1)) h6 fun v26 h7 =>
 gP v18 .true (pIndexAddr 1 v24 v26) h7 fun v27 h8 =>
 gP v18 .true (pLoad1 I v27 h8) h8 fun v28 h9 =>
 gS v18 .true (call 354 [v23, v28] h9) h9 fun v29 h10 =>
 kP v18 v29 bF fun v30 =>
 sCond v30 (
 j.1.2.2 v0 v1 v2 v6 h10) (
 j.2.2.1 v0 v1 v2 v6 v7 h10)
def f348.b4 : Lb J348 A5 := fun I call j v0 v1 v2 v6 v7 h =>
 kB .sub v7 (Z 1) fun v37 =>
 kB .sub v7 (Z 1) fun v40 =>
 kI 1 v0 v40 fun v41 =>
 kL I v41 h fun v42 =>
 kI 1 v0 v7 fun v45 =>
 kL I v45 h fun v46 =>
 kI 1 v0 v7 fun v47 =>
 kS 1 v47 v42 h fun _ h1 =>
 kI 1 v0 v37 fun v48 =>
 kS 1 v48 v46 h1 fun _ h2 =>
 j.2.2.2 v0 v1 v2 v6 v7 h2
def f348.b5 : Lb J348 A5 := fun I call j v0 v1 v2 v6 v7 h =>
 kB .sub v7 (Z 1) fun v32 =>
 j.2.1 v0 v1 v2 v6 v32 h
def f348.e : Lb J348 A3 := fun I call j v0 v1 v2 h =>
 kB .add v1 (Z 1) fun v9 =>
 j.1.1 v0 v1 v2 v9 h
def f348.T : Lb J348 J348 := fun I call j => ((f348.b0 I call j, (f348.b1 I call j, f348.b2 I call j)), (f348.b3 I call j, (f348.b4 I call j, f348.b5 I call j)))
def f348.r : Inp → SF := runL f348.T f348.e
theorem f348.k : FOk P 348 f348.r := .of 6 (([0, 1, 2, 6], ([0, 1, 2, 6], [0, 1, 2, 6])), ([0, 1, 2, 6, 7], ([0, 1, 2, 6, 7], [0, 1, 2, 6, 7])))
abbrev J349 := ((A4 × (A5 × A5)) × ((A5 × A4) × (A4 × A4)))
def f349.b0 : Lb J349 A4 := fun I call j v0 v6 v7 v8 h =>
 kB .sub v8 (Z 1) fun v28 =>
 j.2.1.2 v0 v6 v7 v28 h
def f349.b1 : Lb J349 A5 := fun I call j v0 v6 v7 v8 v9 h =>
 kB .geq v9 (Z 0) fun v19 =>
 sCond v19 (
 j.1.1 v0 v6 v7 v8 h) (
 j.1.2.2 v0 v6 v7 v8 v9 h)
def f349.b2 : Lb J349 A5 := fun I call j v0 v6 v7 v8 v9 h =>
 kC call 364 [v0, v9, v8, v6] h fun v26 h1 =>
 j.2.1.1 v0 v6 v7 v8 v9 h1
def f349.b3 : Lb J349 A5 := fun I call j v0 v6 v7 v8 v9 h =>
 kB .sub v9 (Z 1) fun v21 =>
 j.1.2.1 v0 v6 v7 v8 v21 h
def f349.b4 : Lb J349 A4 := fun I call j v0 v6 v7 v10 h =>
 kB .geq v10 (Z 0) fun v30 =>
 sCond v30 (
 some (.tuple [], h)) (
 j.2.2.1 v0 v6 v7 v10 h)
def f349.b5 : Lb J349 A4 := fun I call j v0 v6 v7 v10 h =>
 kB .add v6 v10 fun v38 =>
 kB .add v6 v10 fun v42 =>
 kI 1 v0 v42 fun v43 =>
 kL I v43 h fun v44 =>
 kI 1 v0 v6 fun v47 =>
 kL I v47 h fun v48 =>
 kI 1 v0 v6 fun v49 =>
 kS 1 v49 v44 h fun _ h1 =>
 kI 1 v0 v38 fun v50 =>
 kS 1 v50 v48 h1 fun _ h2 =>
 kC call 364 [v0, v7, v10, v6] h2 fun v55 h3 =>
 j.2.2.2 v0 v6 v7 v10 h3
def f349.b6 : Lb J349 A4 := fun I call j v0 v6 v7 v10 h =>
 kB .sub v10 (Z 1) fun v32 =>
 j.2.1.2 v0 v6 v7 v32 h
def f349.e : Lb J349 A3 := fun I call j v0 v1 v2 h =>
 kB .sub v2 v1 fun v14 =>
 kB .sub v14 (Z 1) fun v16 =>
 kB .quo v16 (Z 2) fun v17 =>
 j.1.2.1 v0 v1 (Z 0) v14 v17 h
def f349.T : Lb J349 J349 := fun I call j => ((f349.b0 I call j, (f349.b1 I call j, f349.b2 I call j)), ((f349.b3 I call j, f349.b4 I call j), (f349.b5 I call j, f349.b6 I call j)))
def f349.r : Inp → SF := runL f349.T f349.e
theorem f349.k : FOk P 349 f349.r := .of 7 (([0, 6, 7, 8], ([0, 6, 7, 8, 9], [0, 6, 7, 8, 9])), (([0, 6, 7, 8, 9], [0, 6, 7, 10]), ([0, 6, 7, 10], [0, 6, 7, 10])))
abbrev J350 := ((A6 × A6) × (A6 × A7))
def f350.b0 : Lb J350 A6 := fun I call j v0 v1 v6 v7 v8 v9 h =>
 kB .quo v6 (Z 4) fun v29 =>
 kB .mul v29 (Z 2) fun v30 =>
 kB .add v1 v30 fun v31 =>
 kB .add v31 (Z 1) fun v32 =>
 kB .leq v9 v32 fun v33 =>
 sCond v33 (
 some (.tuple [], h)) (
 j.1.2 v0 v1 v6 v7 v8 v9 h)
def f350.b1 : Lb J350 A6 := fun I call j v0 v1 v6 v7 v8 v9 h =>
 kC call 282 [v7] h fun v36 h1 =>
 kB .sub v8 (.int .u64 (.ofNat 1)) fun v38 =>
 kB .and v36 v38 fun v39 =>
 bndP (pToInt .i64 v39) fun v40 =>
 kB .geq v40 v6 fun v43 =>
 sCond v43 (
 j.2.2 v0 v1 v6 v7 v8 v9 v40 h1) (
 kB .sub v40 v6 fun v46 =>
 j.2.2 v0 v1 v6 v7 v8 v9 v46 h1)
def f350.b2 : Lb J350 A6 := fun I call j v0 v1 v6 v7 v8 v9 h =>
 kB .add v9 (Z 1) fun v35 =>
 j.1.1 v0 v1 v6 v7 v8 v35 h
def f350.b3 : Lb J350 A7 := fun I call j v0 v1 v6 v7 v8 v9 v10 h =>
 kB .add v1 v10 fun v52 =>
 kB .add v1 v10 fun v56 =>
 kI 1 v0 v56 fun v57 =>
 kL I v57 h fun v58 =>
 kI 1 v0 v9 fun v61 =>
 kL I v61 h fun v62 =>
 kI 1 v0 v9 fun v63 =>
 kS 1 v63 v58 h fun _ h1 =>
 kI 1 v0 v52 fun v64 =>
 kS 1 v64 v62 h1 fun _ h2 =>
 j.2.1 v0 v1 v6 v7 v8 v9 h2
def f350.e : Lb J350 A3 := fun I call j v0 v1 v2 h =>
 kB .sub v2 v1 fun v13 =>
 kB .geq v13 (Z 8) fun v15 =>
 sCond v15 (
 some (.tuple [], h)) (
 bndP (pToInt .u64 v13) fun v17 =>
 kA [(.int .u64 (.ofNat 0))] h fun v7 h1 =>
 kS 1 v7 v17 h1 fun _ h2 =>
 kC call 281 [v13] h2 fun v19 h3 =>
 kB .quo v13 (Z 4) fun v22 =>
 kB .mul v22 (Z 2) fun v23 =>
 kB .add v1 v23 fun v24 =>
 kB .sub v24 (Z 1) fun v25 =>
 j.1.1 v0 v1 v13 v7 v19 v25 h3)
def f350.T : Lb J350 J350 := fun I call j => ((f350.b0 I call j, f350.b1 I call j), (f350.b2 I call j, f350.b3 I call j))
def f350.r : Inp → SF := runL f350.T f350.e
theorem f350.k : FOk P 350 f350.r := .of 4 (([0, 1, 6, 7, 8, 9], [0, 1, 6, 7, 8, 9]), ([0, 1, 6, 7, 8, 9], [0, 1, 6, 7, 8, 9, 10]))
abbrev J351 := (A2 × A5)
def f351.b0 : Lb J351 A2 := fun I call j v9 v11 h =>
 kL I v9 h fun v49 =>
 kB .eql v49 (Z 0) fun v52 =>
 sCond v52 (
 kB .eql v49 (Z 12) fun v55 =>
 sCond v55 (
 some (.tuple [v11, Z 0], h)) (
 some (.tuple [v11, Z 2], h))) (
 some (.tuple [v11, Z 1], h))
def f351.b1 : Lb J351 A5 := fun I call j v0 v9 v10 v11 v12 h =>
 kC call 366 [v0, v10, v11, v12, v9] h fun v48 h1 =>
 j.1 v9 v48 h1
def f351.e : Lb J351 A3 := fun I call j v0 v1 v2 h =>
 kB .sub v2 v1 fun v15 =>
 kA [Z 0] h fun v9 h1 =>
 kB .quo v15 (Z 4) fun v18 =>
 kB .mul v18 (Z 1) fun v19 =>
 kB .add v1 v19 fun v20 =>
 kB .quo v15 (Z 4) fun v23 =>
 kB .mul v23 (Z 2) fun v24 =>
 kB .add v1 v24 fun v25 =>
 kB .quo v15 (Z 4) fun v28 =>
 kB .mul v28 (Z 3) fun v29 =>
 kB .add v1 v29 fun v30 =>
 kB .geq v15 (Z 8) fun v32 =>
 sCond v32 (
 j.1 v9 v25 h1) (
 kB .geq v15 (Z 50) fun v34 =>
 sCond v34 (
 j.2 v0 v9 v20 v25 v30 h1) (
 kC call 365 [v0, v20, v9] h1 fun v37 h2 =>
 kC call 365 [v0, v25, v9] h2 fun v40 h3 =>
 kC call 365 [v0, v30, v9] h3 fun v43 h4 =>
 j.2 v0 v9 v37 v40 v43 h4))
def f351.T : Lb J351 J351 := fun I call j => (f351.b0 I call j, f351.b1 I call j)
def f351.r : Inp → SF := runL f351.T f351.e
theorem f351.k : FOk P 351 f351.r := .of 2 ([9, 11], [0, 9, 10, 11, 12])
abbrev J352 := (A3 × A3)
def f352.b0 : Lb J352 A3 := fun I call j v0 v6 v7 h =>
 kB .lss v6 v7 fun v13 =>
 sCond v13 (
 some (.tuple [], h)) (
 j.2 v0 v6 v7 h)
def f352.b1 : Lb J352 A3 := fun I call j v0 v6 v7 h =>
 kI 1 v0 v7 fun v20 =>
 kL I v20 h fun v21 =>
 kI 1 v0 v6 fun v24 =>
 kL I v24 h fun v25 =>
 kI 1 v0 v6 fun v26 =>
 kS 1 v26 v21 h fun _ h1 =>
 kI 1 v0 v7 fun v27 =>
 kS 1 v27 v25 h1 fun _ h2 =>
 kB .add v6 (Z 1) fun v29 =>
 kB .sub v7 (Z 1) fun v31 =>
 j.1 v0 v29 v31 h2
def f352.e : Lb J352 A3 := fun I call j v0 v1 v2 h =>
 kB .sub v2 (Z 1) fun v10 =>
 j.1 v0 v1 v10 h
def f352.T : Lb J352 J352 := fun I call j => (f352.b0 I call j, f352.b1 I call j)
def f352.r : Inp → SF := runL f352.T f352.e
theorem f352.k : FOk P 352 f352.r := .of 2 ([0, 6, 7], [0, 6, 7])
abbrev J353 := ((((A0 × A5) × (A5 × A5)) × ((A5 × A5) × (A5 × (A5 × A5)))) × (((A5 × A6) × (A6 × A6)) × ((A6 × A6) × (A6 × (A6 × A6)))))
def f353.b0 : Lb J353 A0 := fun I call j h =>
 some (bF, h)
def f353.b1 : Lb J353 A5 := fun I call j v0 v1 v2 v7 v8 h =>
 kB .lss v8 (Z 5) fun v14 =>
 sCond v14 (
 j.1.1.1.1 h) (
 j.1.1.2.1 v0 v1 v2 v7 v8 h)
def f353.b2 : Lb J353 A5 := fun I call j v0 v1 v2 v7 v8 h =>
 j.1.2.1.2 v0 v1 v2 v7 v8 h
def f353.b3 : Lb J353 A5 := fun I call j v0 v1 v2 v7 v8 h =>
 kB .add v8 (Z 1) fun v16 =>
 j.1.1.1.2 v0 v1 v2 v7 v16 h
def f353.b4 : Lb J353 A5 := fun I call j v0 v1 v2 v7 v8 h =>
 kB .eql v7 v2 fun v37 =>
 sCond v37 (
 j.1.2.2.2.1 v0 v1 v2 v7 v8 h) (
 some (bT, h))
def f353.b5 : Lb J353 A5 := fun I call j v0 v1 v2 v7 v8 h =>
 kB .lss v7 v2 fun v19 =>
 gV v19 .true v0 h fun v21 h1 =>
 gV v19 .true v7 h1 fun v22 h2 =>
 gP v19 .true (pIndexAddr 1 v21 v22) h2 fun v23 h3 =>
 gP v19 .true (pLoad1 I v23 h3) h3 fun v24 h4 =>
 gV v19 .true v0 h4 fun v25 h5 =>
 gV v19 .true v7 h5 fun v26 h6 =>
 gP v19 .true (pBin .sub v26 (Z 1)) h6 fun v27 h7 =>
 gP v19 .true (pIndexAddr 1 v25 v27) h7 fun v28 h8 =>
 gP v19 .true (pLoad1 I v28 h8) h8 fun v29 h9 =>
 gS v19 .true (call 354 [v24, v29] h9) h9 fun v30 h10 =>
 gP v19 .true (pUn .not v30) h10 fun v31 h11 =>
 kP v19 v31 bF fun v32 =>
 sCond v32 (
 j.1.2.1.1 v0 v1 v2 v7 v8 h11) (
 j.1.2.2.1 v0 v1 v2 v7 v8 h11)
def f353.b6 : Lb J353 A5 := fun I call j v0 v1 v2 v7 v8 h =>
 kB .add v7 (Z 1) fun v34 =>
 j.1.2.1.2 v0 v1 v2 v34 v8 h
def f353.b7 : Lb J353 A5 := fun I call j v0 v1 v2 v7 v8 h =>
 kB .sub v2 v1 fun v40 =>
 kB .lss v40 (Z 50) fun v41 =>
 sCond v41 (
 j.1.2.2.2.2 v0 v1 v2 v7 v8 h) (
 some (bF, h))
def f353.b8 : Lb J353 A5 := fun I call j v0 v1 v2 v7 v8 h =>
 kB .sub v7 (Z 1) fun v46 =>
 kB .sub v7 (Z 1) fun v49 =>
 kI 1 v0 v49 fun v50 =>
 kL I v50 h fun v51 =>
 kI 1 v0 v7 fun v54 =>
 kL I v54 h fun v55 =>
 kI 1 v0 v7 fun v56 =>
 kS 1 v56 v51 h fun _ h1 =>
 kI 1 v0 v46 fun v57 =>
 kS 1 v57 v55 h1 fun _ h2 =>
 kB .sub v7 v1 fun v60 =>
 kB .geq v60 (Z 2) fun v61 =>
 sCond v61 (
 j.2.1.1.1 v0 v1 v2 v7 v8 h2) (
 kB .sub v7 (Z 1) fun v63 =>
 j.2.1.1.2 v0 v1 v2 v7 v8 v63 h2)
def f353.b9 : Lb J353 A5 := fun I call j v0 v1 v2 v7 v8 h =>
 kB .sub v2 v7 fun v97 =>
 kB .geq v97 (Z 2) fun v98 =>
 sCond v98 (
 j.1.1.2.2 v0 v1 v2 v7 v8 h) (
 kB .add v7 (Z 1) fun v100 =>
 j.2.2.1.2 v0 v1 v2 v7 v8 v100 h)
def f353.b10 : Lb J353 A6 := fun I call j v0 v1 v2 v7 v8 v9 h =>
 kB .geq v9 (Z 1) fun v65 =>
 sCond v65 (
 j.2.1.1.1 v0 v1 v2 v7 v8 h) (
 j.2.1.2.1 v0 v1 v2 v7 v8 v9 h)
def f353.b11 : Lb J353 A6 := fun I call j v0 v1 v2 v7 v8 v9 h =>
 kI 1 v0 v9 fun v70 =>
 kL I v70 h fun v71 =>
 kB .sub v9 (Z 1) fun v74 =>
 kI 1 v0 v74 fun v75 =>
 kL I v75 h fun v76 =>
 kC call 354 [v71, v76] h fun v77 h1 =>
 kU .not v77 fun v78 =>
 sCond v78 (
 j.2.2.1.1 v0 v1 v2 v7 v8 v9 h1) (
 j.2.1.1.1 v0 v1 v2 v7 v8 h1)
def f353.b12 : Lb J353 A6 := fun I call j v0 v1 v2 v7 v8 v9 h =>
 kB .sub v9 (Z 1) fun v67 =>
 j.2.1.1.2 v0 v1 v2 v7 v8 v67 h
def f353.b13 : Lb J353 A6 := fun I call j v0 v1 v2 v7 v8 v9 h =>
 kB .sub v9 (Z 1) fun v83 =>
 kB .sub v9 (Z 1) fun v86 =>
 kI 1 v0 v86 fun v87 =>
 kL I v87 h fun v88 =>
 kI 1 v0 v9 fun v91 =>
 kL I v91 h fun v92 =>
 kI 1 v0 v9 fun v93 =>
 kS 1 v93 v88 h fun _ h1 =>
 kI 1 v0 v83 fun v94 =>
 kS 1 v94 v92 h1 fun _ h2 =>
 j.2.1.2.2 v0 v1 v2 v7 v8 v9 h2
def f353.b14 : Lb J353 A6 := fun I call j v0 v1 v2 v7 v8 v10 h =>
 kB .lss v10 v2 fun v103 =>
 sCond v103 (
 j.1.1.2.2 v0 v1 v2 v7 v8 h) (
 j.2.2.2.1 v0 v1 v2 v7 v8 v10 h)
def f353.b15 : Lb J353 A6 := fun I call j v0 v1 v2 v7 v8 v10 h =>
 kI 1 v0 v10 fun v108 =>
 kL I v108 h fun v109 =>
 kB .sub v10 (Z 1) fun v112 =>
 kI 1 v0 v112 fun v113 =>
 kL I v113 h fun v114 =>
 kC call 354 [v109, v114] h fun v115 h1 =>
 kU .not v115 fun v116 =>
 sCond v116 (
 j.2.2.2.2.2 v0 v1 v2 v7 v8 v10 h1) (
 j.1.1.2.2 v0 v1 v2 v7 v8 h1)
def f353.b16 : Lb J353 A6 := fun I call j v0 v1 v2 v7 v8 v10 h =>
 kB .add v10 (Z 1) fun v105 =>
 j.2.2.1.2 v0 v1 v2 v7 v8 v105 h
def f353.b17 : Lb J353 A6 := fun I call j v0 v1 v2 v7 v8 v10 h =>
 kB .sub v10 (Z 1) fun v121 =>
 kB .sub v10 (Z 1) fun v124 =>
 kI 1 v0 v124 fun v125 =>
 kL I v125 h fun v126 =>
 kI 1 v0 v10 fun v129 =>
 kL I v129 h fun v130 =>
 kI 1 v0 v10 fun v131 =>
 kS 1 v131 v126 h fun _ h1 =>
 kI 1 v0 v121 fun v132 =>
 kS 1 v132 v130 h1 fun _ h2 =>
 j.2.2.2.2.1 v0 v1 v2 v7 v8 v10 h2
def f353.e : Lb J353 A3 := fun I call j v0 v1 v2 h =>
 kB .add v1 (Z 1) fun v12 =>
 j.1.1.1.2 v0 v1 v2 v12 (Z 0) h
def f353.T : Lb J353 J353 := fun I call j => ((((f353.b0 I call j, f353.b1 I call j), (f353.b2 I call j, f353.b3 I call j)), ((f353.b4 I call j, f353.b5 I call j), (f353.b6 I call j, (f353.b7 I call j, f353.b8 I call j)))), (((f353.b9 I call j, f353.b10 I call j), (f353.b11 I call j, f353.b12 I call j)), ((f353.b13 I call j, f353.b14 I call j), (f353.b15 I call j, (f353.b16 I call j, f353.b17 I call j)))))
def f353.r : Inp → SF := runL f353.T f353.e
theorem f353.k : FOk P 353 f353.r := .of 18 (((([], [0, 1, 2, 7, 8]), ([0, 1, 2, 7, 8], [0, 1, 2, 7, 8])), (([0, 1, 2, 7, 8], [0, 1, 2, 7, 8]), ([0, 1, 2, 7, 8], ([0, 1, 2, 7, 8], [0, 1, 2, 7, 8])))), ((([0, 1, 2, 7, 8], [0, 1, 2, 7, 8, 9]), ([0, 1, 2, 7, 8, 9], [0, 1, 2, 7, 8, 9])), (([0, 1, 2, 7, 8, 9], [0, 1, 2, 7, 8, 10]), ([0, 1, 2, 7, 8, 10], ([0, 1, 2, 7, 8, 10], [0, 1, 2, 7, 8, 10])))))
def f354.e : Lb Unit A2 := fun I call j v0 v1 h =>
 kC call 114 [v0] h fun v6 h1 =>
 gV v6 .true v1 h1 fun v8 h2 =>
 gS v6 .true (call 114 [v8] h2) h2 fun v9 h3 =>
 gP v6 .true (pUn .not v9) h3 fun v10 h4 =>
 kP v6 v10 bF fun v11 =>
 gV v11 .false v0 h4 fun v13 h5 =>
 gV v11 .false v1 h5 fun v14 h6 =>
 gP v11 .false (pBin .lss v13 v14) h6 fun v15 h7 =>
 kP v11 bT v15 fun v16 =>
 some (v16, h7)
def f354.T : Lb Unit Unit := fun I call j => ()
def f354.r : Inp → SF := runL f354.T f354.e
theorem f354.k : FOk P 354 f354.r := .of 0 ()
abbrev J355 := (((A1 × A4) × (A4 × A4)) × ((A4 × A4) × (A4 × (A4 × A4))))
def f355.b0 : Lb J355 A1 := fun I call j v9 h =>
 some (v9, h)
def f355.b1 : Lb J355 A4 := fun I call j v0 v1 v9 v10 h =>
 j.1.2.2 v0 v1 v9 v10 h
def f355.b2 : Lb J355 A4 := fun I call j v0 v1 v9 v10 h =>
 j.2.2.1 v0 v1 v9 v10 h
def f355.b3 : Lb J355 A4 := fun I call j v0 v1 v9 v10 h =>
 kB .leq v9 v10 fun v31 =>
 gV v31 .true v0 h fun v33 h1 =>
 gV v31 .true v1 h1 fun v34 h2 =>
 gP v31 .true (pIndexAddr 1 v33 v34) h2 fun v35 h3 =>
 gP v31 .true (pLoad1 I v35 h3) h3 fun v36 h4 =>
 gV v31 .true v0 h4 fun v37 h5 =>
 gV v31 .true v9 h5 fun v38 h6 =>
 gP v31 .true (pIndexAddr 1 v37 v38) h6 fun v39 h7 =>
 gP v31 .true (pLoad1 I v39 h7) h7 fun v40 h8 =>
 gS v31 .true (call 354 [v36, v40] h8) h8 fun v41 h9 =>
 gP v31 .true (pUn .not v41) h9 fun v42 h10 =>
 kP v31 v42 bF fun v43 =>
 sCond v43 (
 j.1.2.1 v0 v1 v9 v10 h10) (
 j.2.1.1 v0 v1 v9 v10 h10)
def f355.b4 : Lb J355 A4 := fun I call j v0 v1 v9 v10 h =>
 kB .add v9 (Z 1) fun v45 =>
 j.1.2.2 v0 v1 v45 v10 h
def f355.b5 : Lb J355 A4 := fun I call j v0 v1 v9 v10 h =>
 kB .gtr v9 v10 fun v64 =>
 sCond v64 (
 j.2.2.2.2 v0 v1 v9 v10 h) (
 j.1.1.1 v9 h)
def f355.b6 : Lb J355 A4 := fun I call j v0 v1 v9 v10 h =>
 kB .leq v9 v10 fun v48 =>
 gV v48 .true v0 h fun v50 h1 =>
 gV v48 .true v1 h1 fun v51 h2 =>
 gP v48 .true (pIndexAddr 1 v50 v51) h2 fun v52 h3 =>
 gP v48 .true (pLoad1 I v52 h3) h3 fun v53 h4 =>
 gV v48 .true v0 h4 fun v54 h5 =>
 gV v48 .true v10 h5 fun v55 h6 =>
 gP v48 .true (pIndexAddr 1 v54 v55) h6 fun v56 h7 =>
 gP v48 .true (pLoad1 I v56 h7) h7 fun v57 h8 =>
 gS v48 .true (call 354 [v53, v57] h8) h8 fun v58 h9 =>
 kP v48 v58 bF fun v59 =>
 sCond v59 (
 j.2.1.2 v0 v1 v9 v10 h9) (
 j.2.2.2.1 v0 v1 v9 v10 h9)
def f355.b7 : Lb J355 A4 := fun I call j v0 v1 v9 v10 h =>
 kB .sub v10 (Z 1) fun v61 =>
 j.2.2.1 v0 v1 v9 v61 h
def f355.b8 : Lb J355 A4 := fun I call j v0 v1 v9 v10 h =>
 kI 1 v0 v10 fun v71 =>
 kL I v71 h fun v72 =>
 kI 1 v0 v9 fun v75 =>
 kL I v75 h fun v76 =>
 kI 1 v0 v9 fun v77 =>
 kS 1 v77 v72 h fun _ h1 =>
 kI 1 v0 v10 fun v78 =>
 kS 1 v78 v76 h1 fun _ h2 =>
 kB .add v9 (Z 1) fun v80 =>
 kB .sub v10 (Z 1) fun v82 =>
 j.1.1.2 v0 v1 v80 v82 h2
def f355.e : Lb J355 A4 := fun I call j v0 v1 v2 v3 h =>
 kI 1 v0 v3 fun v17 =>
 kL I v17 h fun v18 =>
 kI 1 v0 v1 fun v21 =>
 kL I v21 h fun v22 =>
 kI 1 v0 v1 fun v23 =>
 kS 1 v23 v18 h fun _ h1 =>
 kI 1 v0 v3 fun v24 =>
 kS 1 v24 v22 h1 fun _ h2 =>
 kB .add v1 (Z 1) fun v26 =>
 kB .sub v2 (Z 1) fun v28 =>
 j.1.1.2 v0 v1 v26 v28 h2
def f355.T : Lb J355 J355 := fun I call j => (((f355.b0 I call j, f355.b1 I call j), (f355.b2 I call j, f355.b3 I call j)), ((f355.b4 I call j, f355.b5 I call j), (f355.b6 I call j, (f355.b7 I call j, f355.b8 I call j))))
def f355.r : Inp → SF := runL f355.T f355.e
theorem f355.k : FOk P 355 f355.r := .of 9 ((([9], [0, 1, 9, 10]), ([0, 1, 9, 10], [0, 1, 9, 10])), (([0, 1, 9, 10], [0, 1, 9, 10]), ([0, 1, 9, 10], ([0, 1, 9, 10], [0, 1, 9, 10]))))
abbrev J356 := ((((A4 × A4) × (A4 × A4)) × ((A4 × A4) × (A4 × A3))) × (((A4 × A4) × (A4 × A4)) × ((A4 × A4) × (A4 × A4))))
def f356.b0 : Lb J356 A4 := fun I call j v0 v1 v10 v11 h =>
 j.1.2.1.1 v0 v1 v10 v11 h
def f356.b1 : Lb J356 A4 := fun I call j v0 v1 v10 v11 h =>
 kB .leq v10 v11 fun v32 =>
 gV v32 .true v0 h fun v34 h1 =>
 gV v32 .true v10 h1 fun v35 h2 =>
 gP v32 .true (pIndexAddr 1 v34 v35) h2 fun v36 h3 =>
 gP v32 .true (pLoad1 I v36 h3) h3 fun v37 h4 =>
 gV v32 .true v0 h4 fun v38 h5 =>
 gV v32 .true v1 h5 fun v39 h6 =>
 gP v32 .true (pIndexAddr 1 v38 v39) h6 fun v40 h7 =>
 gP v32 .true (pLoad1 I v40 h7) h7 fun v41 h8 =>
 gS v32 .true (call 354 [v37, v41] h8) h8 fun v42 h9 =>
 kP v32 v42 bF fun v43 =>
 sCond v43 (
 j.1.1.1.1 v0 v1 v10 v11 h9) (
 j.1.1.2.1 v0 v1 v10 v11 h9)
def f356.b2 : Lb J356 A4 := fun I call j v0 v1 v10 v11 h =>
 kB .add v10 (Z 1) fun v45 =>
 j.1.1.1.2 v0 v1 v45 v11 h
def f356.b3 : Lb J356 A4 := fun I call j v0 v1 v10 v11 h =>
 kB .gtr v10 v11 fun v65 =>
 sCond v65 (
 j.1.2.2.1 v0 v1 v10 v11 h) (
 kI 1 v0 v1 fun v72 =>
 kL I v72 h fun v73 =>
 kI 1 v0 v11 fun v76 =>
 kL I v76 h fun v77 =>
 kI 1 v0 v11 fun v78 =>
 kS 1 v78 v73 h fun _ h1 =>
 kI 1 v0 v1 fun v79 =>
 kS 1 v79 v77 h1 fun _ h2 =>
 some (.tuple [v11, bT], h2))
def f356.b4 : Lb J356 A4 := fun I call j v0 v1 v10 v11 h =>
 kB .leq v10 v11 fun v48 =>
 gV v48 .true v0 h fun v50 h1 =>
 gV v48 .true v11 h1 fun v51 h2 =>
 gP v48 .true (pIndexAddr 1 v50 v51) h2 fun v52 h3 =>
 gP v48 .true (pLoad1 I v52 h3) h3 fun v53 h4 =>
 gV v48 .true v0 h4 fun v54 h5 =>
 gV v48 .true v1 h5 fun v55 h6 =>
 gP v48 .true (pIndexAddr 1 v54 v55) h6 fun v56 h7 =>
 gP v48 .true (pLoad1 I v56 h7) h7 fun v57 h8 =>
 gS v48 .true (call 354 [v53, v57] h8) h8 fun v58 h9 =>
 gP v48 .true (pUn .not v58) h9 fun v59 h10 =>
 kP v48 v59 bF fun v60 =>
 sCond v60 (
 j.1.1.2.2 v0 v1 v10 v11 h10) (
 j.1.2.1.2 v0 v1 v10 v11 h10)
def f356.b5 : Lb J356 A4 := fun I call j v0 v1 v10 v11 h =>
 kB .sub v11 (Z 1) fun v62 =>
 j.1.2.1.1 v0 v1 v10 v62 h
def f356.b6 : Lb J356 A4 := fun I call j v0 v1 v10 v11 h =>
 kI 1 v0 v11 fun v87 =>
 kL I v87 h fun v88 =>
 kI 1 v0 v10 fun v91 =>
 kL I v91 h fun v92 =>
 kI 1 v0 v10 fun v93 =>
 kS 1 v93 v88 h fun _ h1 =>
 kI 1 v0 v11 fun v94 =>
 kS 1 v94 v92 h1 fun _ h2 =>
 kB .add v10 (Z 1) fun v96 =>
 kB .sub v11 (Z 1) fun v98 =>
 j.2.1.1.1 v0 v1 v96 v98 h2
def f356.b7 : Lb J356 A3 := fun I call j v0 v1 v11 h =>
 kI 1 v0 v1 fun v159 =>
 kL I v159 h fun v160 =>
 kI 1 v0 v11 fun v163 =>
 kL I v163 h fun v164 =>
 kI 1 v0 v11 fun v165 =>
 kS 1 v165 v160 h fun _ h1 =>
 kI 1 v0 v1 fun v166 =>
 kS 1 v166 v164 h1 fun _ h2 =>
 some (.tuple [v11, bF], h2)
def f356.b8 : Lb J356 A4 := fun I call j v0 v1 v10 v11 h =>
 j.2.1.2.1 v0 v1 v10 v11 h
def f356.b9 : Lb J356 A4 := fun I call j v0 v1 v10 v11 h =>
 j.2.2.1.2 v0 v1 v10 v11 h
def f356.b10 : Lb J356 A4 := fun I call j v0 v1 v10 v11 h =>
 kB .leq v10 v11 fun v101 =>
 gV v101 .true v0 h fun v103 h1 =>
 gV v101 .true v10 h1 fun v104 h2 =>
 gP v101 .true (pIndexAddr 1 v103 v104) h2 fun v105 h3 =>
 gP v101 .true (pLoad1 I v105 h3) h3 fun v106 h4 =>
 gV v101 .true v0 h4 fun v107 h5 =>
 gV v101 .true v1 h5 fun v108 h6 =>
 gP v101 .true (pIndexAddr 1 v107 v108) h6 fun v109 h7 =>
 gP v101 .true (pLoad1 I v109 h7) h7 fun v110 h8 =>
 gS v101 .true (call 354 [v106, v110] h8) h8 fun v111 h9 =>
 kP v101 v111 bF fun v112 =>
 sCond v112 (
 j.2.1.1.2 v0 v1 v10 v11 h9) (
 j.2.1.2.2 v0 v1 v10 v11 h9)
def f356.b11 : Lb J356 A4 := fun I call j v0 v1 v10 v11 h =>
 kB .add v10 (Z 1) fun v114 =>
 j.2.1.2.1 v0 v1 v114 v11 h
def f356.b12 : Lb J356 A4 := fun I call j v0 v1 v10 v11 h =>
 kB .gtr v10 v11 fun v134 =>
 sCond v134 (
 j.2.2.2.2 v0 v1 v10 v11 h) (
 j.1.2.2.2 v0 v1 v11 h)
def f356.b13 : Lb J356 A4 := fun I call j v0 v1 v10 v11 h =>
 kB .leq v10 v11 fun v117 =>
 gV v117 .true v0 h fun v119 h1 =>
 gV v117 .true v11 h1 fun v120 h2 =>
 gP v117 .true (pIndexAddr 1 v119 v120) h2 fun v121 h3 =>
 gP v117 .true (pLoad1 I v121 h3) h3 fun v122 h4 =>
 gV v117 .true v0 h4 fun v123 h5 =>
 gV v117 .true v1 h5 fun v124 h6 =>
 gP v117 .true (pIndexAddr 1 v123 v124) h6 fun v125 h7 =>
 gP v117 .true (pLoad1 I v125 h7) h7 fun v126 h8 =>
 gS v117 .true (call 354 [v122, v126] h8) h8 fun v127 h9 =>
 gP v117 .true (pUn .not v127) h9 fun v128 h10 =>
 kP v117 v128 bF fun v129 =>
 sCond v129 (
 j.2.2.1.1 v0 v1 v10 v11 h10) (
 j.2.2.2.1 v0 v1 v10 v11 h10)
def f356.b14 : Lb J356 A4 := fun I call j v0 v1 v10 v11 h =>
 kB .sub v11 (Z 1) fun v131 =>
 j.2.2.1.2 v0 v1 v10 v131 h
def f356.b15 : Lb J356 A4 := fun I call j v0 v1 v10 v11 h =>
 kI 1 v0 v11 fun v141 =>
 kL I v141 h fun v142 =>
 kI 1 v0 v10 fun v145 =>
 kL I v145 h fun v146 =>
 kI 1 v0 v10 fun v147 =>
 kS 1 v147 v142 h fun _ h1 =>
 kI 1 v0 v11 fun v148 =>
 kS 1 v148 v146 h1 fun _ h2 =>
 kB .add v10 (Z 1) fun v150 =>
 kB .sub v11 (Z 1) fun v152 =>
 j.2.1.1.1 v0 v1 v150 v152 h2
def f356.e : Lb J356 A4 := fun I call j v0 v1 v2 v3 h =>
 kI 1 v0 v3 fun v18 =>
 kL I v18 h fun v19 =>
 kI 1 v0 v1 fun v22 =>
 kL I v22 h fun v23 =>
 kI 1 v0 v1 fun v24 =>
 kS 1 v24 v19 h fun _ h1 =>
 kI 1 v0 v3 fun v25 =>
 kS 1 v25 v23 h1 fun _ h2 =>
 kB .add v1 (Z 1) fun v27 =>
 kB .sub v2 (Z 1) fun v29 =>
 j.1.1.1.2 v0 v1 v27 v29 h2
def f356.T : Lb J356 J356 := fun I call j => ((((f356.b0 I call j, f356.b1 I call j), (f356.b2 I call j, f356.b3 I call j)), ((f356.b4 I call j, f356.b5 I call j), (f356.b6 I call j, f356.b7 I call j))), (((f356.b8 I call j, f356.b9 I call j), (f356.b10 I call j, f356.b11 I call j)), ((f356.b12 I call j, f356.b13 I call j), (f356.b14 I call j, f356.b15 I call j))))
def f356.r : Inp → SF := runL f356.T f356.e
theorem f356.k : FOk P 356 f356.r := .of 16 (((([0, 1, 10, 11], [0, 1, 10, 11]), ([0, 1, 10, 11], [0, 1, 10, 11])), (([0, 1, 10, 11], [0, 1, 10, 11]), ([0, 1, 10, 11], [0, 1, 11]))), ((([0, 1, 10, 11], [0, 1, 10, 11]), ([0, 1, 10, 11], [0, 1, 10, 11])), (([0, 1, 10, 11], [0, 1, 10, 11]), ([0, 1, 10, 11], [0, 1, 10, 11]))))
abbrev J358 := A0
def f358.b0 : Lb J358 A0 := fun I call j h =>
 some ((.int .i64 (.negSucc 0)), h)
def f358.e : Lb J358 A2 := fun I call j v0 v1 h =>
 kC call 360 [v0, v1] h fun v8 h1 =>
 bndP (pEq P .true .ptr .true v8 .nilp h1) fun v10 =>
 sCond v10 (
 j h1) (
 kN v8 fun v12 =>
 kF 0 v12 fun v13 =>
 kL I v13 h1 fun v14 =>
 some (v14, h1))
def f358.T : Lb J358 J358 := fun I call j => f358.b0 I call j
def f358.r : Inp → SF := runL f358.T f358.e
theorem f358.k : FOk P 358 f358.r := .of 1 []
abbrev J359 := A2
def f359.b0 : Lb J359 A2 := fun I call j v2 v8 h =>
 kN v8 fun v33 =>
 kF 1 v33 fun v34 =>
 kL I v34 h fun v35 =>
 kI 3 v35 v2 fun v37 =>
 some (.tuple [v37, Z 0], h)
def f359.e : Lb J359 A3 := fun I call j v0 v1 v2 h =>
 kC call 360 [v0, v1] h fun v11 h1 =>
 bndP (pEq P .false .ptr .true v11 .nilp h1) fun v14 =>
 sCond v14 (
 kN v11 fun v17 =>
 kF 2 v17 fun v18 =>
 kL I v18 h1 fun v19 =>
 sCond v19 (
 kB .lss v2 (Z 0) fun v22 =>
 gV v22 .false v2 h1 fun v24 h2 =>
 gV v22 .false v11 h2 fun v25 h3 =>
 gP v22 .false (pNilCheck v25) h3 fun v26 h4 =>
 gP v22 .false (pFieldAddr 1 v26) h4 fun v27 h5 =>
 gP v22 .false (pLoad1 I v27 h5) h5 fun v28 h6 =>
 gP v22 .false (pLenSl v28) h6 fun v29 h7 =>
 gP v22 .false (pBin .geq v24 v29) h7 fun v30 h8 =>
 kP v22 bT v30 fun v31 =>
 sCond v31 (
 j v2 v11 h8) (
 some (.tuple [.nilp, Z 1], h8))) (
 some (.tuple [.nilp, Z 2], h1))) (
 some (.tuple [.nilp, Z 1], h1))
def f359.T : Lb J359 J359 := fun I call j => f359.b0 I call j
def f359.r : Inp → SF := runL f359.T f359.e
theorem f359.k : FOk P 359 f359.r := .of 1 [2, 8]
abbrev J360 := A2
def f360.b0 : Lb J360 A2 := fun I call j v0 v1 h =>
 kN v0 fun v21 =>
 kF 0 v21 fun v22 =>
 kL I v22 h fun v23 =>
 kB .sub v1 (Z 1) fun v25 =>
 kI 1 v23 v25 fun v26 =>
 kL I v26 h fun v27 =>
 some (v27, h)
def f360.e : Lb J360 A2 := fun I call j v0 v1 h =>
 bndP (pEq P .false .ptr .true v0 .nilp h) fun v6 =>
 gV v6 .false v1 h fun v8 h1 =>
 gP v6 .false (pBin .lss v8 (Z 1)) h1 fun v9 h2 =>
 kP v6 bT v9 fun v10 =>
 gV v10 .false v1 h2 fun v12 h3 =>
 gV v10 .false v0 h3 fun v13 h4 =>
 gP v10 .false (pNilCheck v13) h4 fun v14 h5 =>
 gP v10 .false (pFieldAddr 0 v14) h5 fun v15 h6 =>
 gP v10 .false (pLoad1 I v15 h6) h6 fun v16 h7 =>
 gP v10 .false (pLenSl v16) h7 fun v17 h8 =>
 gP v10 .false (pBin .gtr v12 v17) h8 fun v18 h9 =>
 kP v10 bT v18 fun v19 =>
 sCond v19 (
 j v0 v1 h9) (
 some (.nilp, h9))
def f360.T : Lb J360 J360 := fun I call j => f360.b0 I call j
def f360.r : Inp → SF := runL f360.T f360.e
theorem f360.k : FOk P 360 f360.r := .of 1 [0, 1]
abbrev J364 := ((A4 × A5) × (A5 × A5))
def f364.b0 : Lb J364 A4 := fun I call j v0 v2 v3 v8 h =>
 kB .mul (Z 2) v8 fun v12 =>
 kB .add v12 (Z 1) fun v13 =>
 kB .geq v13 v2 fun v16 =>
 sCond v16 (
 j.1.2 v0 v2 v3 v8 v13 h) (
 some (.tuple [], h))
def f364.b1 : Lb J364 A5 := fun I call j v0 v2 v3 v8 v9 h =>
 kB .add v9 (Z 1) fun v18 =>
 kB .lss v18 v2 fun v20 =>
 gV v20 .true v0 h fun v22 h1 =>
 gV v20 .true v3 h1 fun v23 h2 =>
 gV v20 .true v9 h2 fun v24 h3 =>
 gP v20 .true (pBin .add v23 v24) h3 fun v25 h4 =>
 gP v20 .true (pIndexAddr 1 v22 v25) h4 fun v26 h5 =>
 gP v20 .true (pLoad1 I v26 h5) h5 fun v27 h6 =>
 gV v20 .true v0 h6 fun v28 h7 =>
 gV v20 .true v3 h7 fun v29 h8 =>
 gV v20 .true v9 h8 fun v30 h9 =>
 gP v20 .true (pBin .add v29 v30) h9 fun v31 h10 =>
 gP v20 .true (pBin .add v31 (Z 1)) h10 fun v32 h11 =>
 gP v20 .true (pIndexAddr 1 v28 v32) h11 fun v33 h12 =>
 gP v20 .true (pLoad1 I v33 h12) h12 fun v34 h13 =>
 gS v20 .true (call 354 [v27, v34] h13) h13 fun v35 h14 =>
 kP v20 v35 bF fun v36 =>
 sCond v36 (
 j.2.1 v0 v2 v3 v8 v9 h14) (
 kB .add v9 (Z 1) fun v38 =>
 j.2.1 v0 v2 v3 v8 v38 h14)
def f364.b2 : Lb J364 A5 := fun I call j v0 v2 v3 v8 v9 h =>
 kB .add v3 v8 fun v42 =>
 kI 1 v0 v42 fun v43 =>
 kL I v43 h fun v44 =>
 kB .add v3 v9 fun v48 =>
 kI 1 v0 v48 fun v49 =>
 kL I v49 h fun v50 =>
 kC call 354 [v44, v50] h fun v51 h1 =>
 kU .not v51 fun v52 =>
 sCond v52 (
 j.2.2 v0 v2 v3 v8 v9 h1) (
 some (.tuple [], h1))
def f364.b3 : Lb J364 A5 := fun I call j v0 v2 v3 v8 v9 h =>
 kB .add v3 v8 fun v56 =>
 kB .add v3 v9 fun v60 =>
 kB .add v3 v9 fun v64 =>
 kI 1 v0 v64 fun v65 =>
 kL I v65 h fun v66 =>
 kB .add v3 v8 fun v70 =>
 kI 1 v0 v70 fun v71 =>
 kL I v71 h fun v72 =>
 kI 1 v0 v56 fun v73 =>
 kS 1 v73 v66 h fun _ h1 =>
 kI 1 v0 v60 fun v74 =>
 kS 1 v74 v72 h1 fun _ h2 =>
 j.1.1 v0 v2 v3 v9 h2
def f364.e : Lb J364 A4 := fun I call j v0 v1 v2 v3 h =>
 j.1.1 v0 v2 v3 v1 h
def f364.T : Lb J364 J364 := fun I call j => ((f364.b0 I call j, f364.b1 I call j), (f364.b2 I call j, f364.b3 I call j))
def f364.r : Inp → SF := runL f364.T f364.e
theorem f364.k : FOk P 364 f364.r := .of 4 (([0, 2, 3, 8], [0, 2, 3, 8, 9]), ([0, 2, 3, 8, 9], [0, 2, 3, 8, 9]))
def f365.e : Lb Unit A3 := fun I call j v0 v1 v2 h =>
 kB .sub v1 (Z 1) fun v9 =>
 kB .add v1 (Z 1) fun v12 =>
 kC call 366 [v0, v9, v1, v12, v2] h fun v14 h1 =>
 some (v14, h1)
def f365.T : Lb Unit Unit := fun I call j => ()
def f365.r : Inp → SF := runL f365.T f365.e
theorem f365.k : FOk P 365 f365.r := .of 0 ()
def f366.e : Lb Unit A5 := fun I call j v0 v1 v2 v3 v4 h =>
 kC call 368 [v0, v1, v2, v4] h fun v16 h1 =>
 kX v16 0 fun v17 =>
 kX v16 1 fun v18 =>
 kC call 368 [v0, v18, v3, v4] h1 fun v24 h2 =>
 kX v24 0 fun v25 =>
 kX v24 1 fun v26 =>
 kC call 368 [v0, v17, v25, v4] h2 fun v32 h3 =>
 kX v32 0 fun v33 =>
 kX v32 1 fun v34 =>
 some (v34, h3)
def f366.T : Lb Unit Unit := fun I call j => ()
def f366.r : Inp → SF := runL f366.T f366.e
theorem f366.k : FOk P 366 f366.r := .of 0 ()
abbrev J368 := A2
def f368.b0 : Lb J368 A2 := fun I call j v1 v2 h =>
 some (.tuple [v1, v2], h)
def f368.e : Lb J368 A4 := fun I call j v0 v1 v2 v3 h =>
 kI 1 v0 v2 fun v12 =>
 kL I v12 h fun v13 =>
 kI 1 v0 v1 fun v16 =>
 kL I v16 h fun v17 =>
 kC call 354 [v13, v17] h fun v18 h1 =>
 sCond v18 (
 j v1 v2 h1) (
 kN v3 fun v20 =>
 kL I v20 h1 fun v21 =>
 kB .add v21 (Z 1) fun v22 =>
 kN v3 fun v23 =>
 kS 1 v23 v22 h1 fun _ h2 =>
 some (.tuple [v2, v1], h2))
def f368.T : Lb J368 J368 := fun I call j => f368.b0 I call j
def f368.r : Inp → SF := runL f368.T f368.e
theorem f368.k : FOk P 368 f368.r := .of 1 [1, 2]
end
end Go.Proofs.YtdlceoefjoljnaaGreatDoor.Sf
