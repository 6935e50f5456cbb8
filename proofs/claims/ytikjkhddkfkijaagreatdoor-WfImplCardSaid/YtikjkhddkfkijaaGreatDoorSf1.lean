/- The functions of the program by their labels, on values, part 1: what they compute the abstract machine computes. Conditions: none. -/
import Derived.Test.YtikjkhddkfkijaaGreatDoorSf0
import Derived.Test.YtikjkhddkfkijaaGreatDoorProg
namespace Go.Proofs.YtikjkhddkfkijaaGreatDoor.Sf
open Go.AM
set_option linter.unusedVariables false
noncomputable section
variable {I : Inp} {F : Nat → Option AFn} {call : CallFn} {prims : Nat → Option Prim} {n : Nat} {h : AHeap} {Q : AVal → AHeap → Prop}
/-! haruspex/types.sig -/
def c117 : AFunc := cOf P 117
abbrev f117.Js : Type := Unit
def f117.e (I : Inp) (call : CallFn) (j : f117.Js) (v0 v1 : AVal) (h : AHeap) : Rs :=
  kN v0 fun v8 =>
  kF 4 v8 fun v9 =>
  kL I v9 h fun v10 =>
  kI 3 v10 v1 fun v12 =>
  kF 0 v12 fun v13 =>
  kL I v13 h fun v14 =>
  kN v0 fun v18 =>
  kF 1 v18 fun v19 =>
  kL I v19 h fun v20 =>
  kZ v20 fun v21 =>
  kC call 73 [v14, v21] h fun v22 h1 =>
  some (.tuple [v14, v22], h1)
theorem f117.S : SFn ⟨P, I, F⟩ call c117 (fun _ => jmp []) := .all 0 (by kernel_rfl) (fun ρ h => by kernel_rfl) (fun n ρ h => by kernel_rfl)
theorem f117.qe : Ap.all (f117.e I call ()) (fun l h => execC P I call (jmp []) c117.body 0 (finV I c117.results) (argV l) h) := fun v0 v1 h => by kernel_rfl
theorem f117.code : codeOf P 117 = some c117 := by kernel_rfl
def f117.run (I : Inp) : SF := fun call n => Ap.ar (f117.e I call ())
theorem f117.ok (I : Inp) (F : Nat → Option AFn) (hF : F 117 = some (.code c117)) : SfOk P I F 117 (f117.run I) := okOf hF (by kernel_rfl) (fun _ => f117.S) fun call n => f117.qe
/-! haruspex/types.call -/
def c118 : AFunc := cOf P 118
abbrev f118.Js : Type := ((A5 × (A4 × A0)) × (A6 × (A6 × A6)))
def f118.b0 (I : Inp) (call : CallFn) (j : f118.Js) (v0 v1 v5 v7 v8 : AVal) (h : AHeap) : Rs :=
  kU .not v8 fun v72 =>
  gP v72 .false (pFieldAddr 5 v5) h fun v74 h1 =>
  gP v72 .false (pLoad1 I v74 h1) h1 fun v75 h2 =>
  gP v72 .false (pLenSl v75) h2 fun v76 h3 =>
  gV v72 .false v0 h3 fun v77 h4 =>
  gP v72 .false (pNilCheck v77) h4 fun v78 h5 =>
  gP v72 .false (pFieldAddr 1 v78) h5 fun v79 h6 =>
  gP v72 .false (pLoad1 I v79 h6) h6 fun v80 h7 =>
  gV v72 .false v7 h7 fun v81 h8 =>
  gP v72 .false (pIndexAddr 3 v80 v81) h8 fun v82 h9 =>
  gP v72 .false (pFieldAddr 0 v82) h9 fun v83 h10 =>
  gP v72 .false (pLoad1 I v83 h10) h10 fun v84 h11 =>
  gP v72 .false (pLenSl v84) h11 fun v85 h12 =>
  gP v72 .false (pBin .neq v76 v85) h12 fun v86 h13 =>
  kP v72 bT v86 fun v87 =>
  gV v87 .false v1 h13 fun v89 h14 =>
  gP v87 .false (pFieldAddr 1 v5) h14 fun v90 h15 =>
  gP v87 .false (pLoad1 I v90 h15) h15 fun v91 h16 =>
  gP v87 .false (pIndexAddr 2 v89 v91) h16 fun v92 h17 =>
  gP v87 .false (pLoadN I 2 v92 h17) h17 fun v93 h18 =>
  gV v87 .false v0 h18 fun v94 h19 =>
  gP v87 .false (pNilCheck v94) h19 fun v95 h20 =>
  gP v87 .false (pFieldAddr 1 v95) h20 fun v96 h21 =>
  gP v87 .false (pLoad1 I v96 h21) h21 fun v97 h22 =>
  gV v87 .false v7 h22 fun v98 h23 =>
  gP v87 .false (pIndexAddr 3 v97 v98) h23 fun v99 h24 =>
  gP v87 .false (pFieldAddr 1 v99) h24 fun v100 h25 =>
  gP v87 .false (pLoadN I 2 v100 h25) h25 fun v101 h26 =>
  gP v87 .false (pEq P .true (.struct [.i, .i]) .false v93 v101 h26) h26 fun v102 h27 =>
  kP v87 bT v102 fun v103 =>
  sCond v103 (
  j.1.2.1 v0 v1 v5 v7 h27) (
  some (bF, h27))
def f118.b1 (I : Inp) (call : CallFn) (j : f118.Js) (v0 v1 v5 v7 : AVal) (h : AHeap) : Rs :=
  kF 5 v5 fun v104 =>
  kL I v104 h fun v105 =>
  kZ v105 fun v106 =>
  j.2.1 v0 v1 v7 v105 v106 (Z 0) h
def f118.b2 (I : Inp) (call : CallFn) (j : f118.Js) (h : AHeap) : Rs :=
  some (bT, h)
def f118.b3 (I : Inp) (call : CallFn) (j : f118.Js) (v0 v1 v7 v105 v106 v107 : AVal) (h : AHeap) : Rs :=
  kB .lss v107 v106 fun v108 =>
  sCond v108 (
  j.1.2.2 h) (
  j.2.2.1 v0 v1 v7 v105 v106 v107 h)
def f118.b4 (I : Inp) (call : CallFn) (j : f118.Js) (v0 v1 v7 v105 v106 v107 : AVal) (h : AHeap) : Rs :=
  kI 1 v105 v107 fun v110 =>
  kL I v110 h fun v111 =>
  kI 2 v1 v111 fun v114 =>
  kM I 2 v114 h fun v115 =>
  kN v0 fun v117 =>
  kF 1 v117 fun v118 =>
  kL I v118 h fun v119 =>
  kI 3 v119 v7 fun v121 =>
  kF 0 v121 fun v122 =>
  kL I v122 h fun v123 =>
  kI 2 v123 v107 fun v125 =>
  kM I 2 v125 h fun v126 =>
  bndP (pEq P .true (.struct [.i, .i]) .false v115 v126 h) fun v127 =>
  sCond v127 (
  j.2.2.2 v0 v1 v7 v105 v106 v107 h) (
  some (bF, h))
def f118.b5 (I : Inp) (call : CallFn) (j : f118.Js) (v0 v1 v7 v105 v106 v107 : AVal) (h : AHeap) : Rs :=
  kB .add v107 (Z 1) fun v128 =>
  j.2.1 v0 v1 v7 v105 v106 v128 h
def f118.e (I : Inp) (call : CallFn) (j : f118.Js) (v0 v1 v2 : AVal) (h : AHeap) : Rs :=
  bnd (sBox v2 h) fun v5 h1 =>
  kF 0 v5 fun v12 =>
  kL I v12 h1 fun v13 =>
  kB .eql v13 (Z 12) fun v14 =>
  sCond v14 (
  kF 0 v5 fun v23 =>
  kL I v23 h1 fun v24 =>
  kB .eql v24 (Z 13) fun v25 =>
  gV v25 .true v1 h1 fun v27 h2 =>
  gP v25 .true (pFieldAddr 2 v5) h2 fun v28 h3 =>
  gP v25 .true (pLoad1 I v28 h3) h3 fun v29 h4 =>
  gP v25 .true (pIndexAddr 2 v27 v29) h4 fun v30 h5 =>
  gP v25 .true (pFieldAddr 0 v30) h5 fun v31 h6 =>
  gP v25 .true (pLoad1 I v31 h6) h6 fun v32 h7 =>
  gP v25 .true (pBin .eql v32 (Z 2)) h7 fun v33 h8 =>
  kP v25 v33 bF fun v34 =>
  sCond v34 (
  kF 0 v5 fun v42 =>
  kL I v42 h8 fun v43 =>
  kB .eql v43 (Z 14) fun v44 =>
  gV v44 .true v1 h8 fun v46 h9 =>
  gP v44 .true (pFieldAddr 2 v5) h9 fun v47 h10 =>
  gP v44 .true (pLoad1 I v47 h10) h10 fun v48 h11 =>
  gP v44 .true (pIndexAddr 2 v46 v48) h11 fun v49 h12 =>
  gP v44 .true (pFieldAddr 0 v49) h12 fun v50 h13 =>
  gP v44 .true (pLoad1 I v50 h13) h13 fun v51 h14 =>
  gP v44 .true (pBin .eql v51 (Z 3)) h14 fun v52 h15 =>
  kP v44 v52 bF fun v53 =>
  sCond v53 (
  j.1.1 v0 v1 v5 (Z 0) bF h15) (
  kN v0 fun v55 =>
  kF 2 v55 fun v56 =>
  kL I v56 h15 fun v57 =>
  kF 2 v5 fun v59 =>
  kL I v59 h15 fun v60 =>
  kI 2 v1 v60 fun v61 =>
  kF 1 v61 fun v62 =>
  kL I v62 h15 fun v63 =>
  kI 1 v57 v63 fun v64 =>
  kF 0 v64 fun v65 =>
  kL I v65 h15 fun v66 =>
  kF 4 v5 fun v67 =>
  kL I v67 h15 fun v68 =>
  kI 1 v66 v68 fun v69 =>
  kL I v69 h15 fun v70 =>
  j.1.1 v0 v1 v5 v70 bT h15)) (
  kF 2 v5 fun v36 =>
  kL I v36 h8 fun v37 =>
  kI 2 v1 v37 fun v38 =>
  kF 1 v38 fun v39 =>
  kL I v39 h8 fun v40 =>
  j.1.1 v0 v1 v5 v40 bT h8)) (
  kF 4 v5 fun v17 =>
  kL I v17 h1 fun v18 =>
  kC call 117 [v0, v18] h1 fun v19 h16 =>
  kX v19 0 fun v20 =>
  kX v19 1 fun v21 =>
  j.1.1 v0 v1 v5 v20 v21 h16)
def f118.J (I : Inp) (call : CallFn) (n : Nat) : f118.Js :=
  Nat.rec (motive := fun _ => f118.Js) ((Zr.z, (Zr.z, Zr.z)), (Zr.z, (Zr.z, Zr.z))) (fun _ j => ((f118.b0 I call j, (f118.b1 I call j, f118.b2 I call j)), (f118.b3 I call j, (f118.b4 I call j, f118.b5 I call j)))) n
def f118.JS (I : Inp) (call : CallFn) (n : Nat) : Jmp := (fun j : f118.Js => jmp [Ap.ap j.1.1 [0, 1, 5, 7, 8], Ap.ap j.1.2.1 [0, 1, 5, 7], Ap.ap j.1.2.2 [], Ap.ap j.2.1 [0, 1, 7, 105, 106, 107], Ap.ap j.2.2.1 [0, 1, 7, 105, 106, 107], Ap.ap j.2.2.2 [0, 1, 7, 105, 106, 107]]) (f118.J I call n)
theorem f118.S : SFn ⟨P, I, F⟩ call c118 (f118.JS I call) := .all 6 (by kernel_rfl) (fun ρ h => by kernel_rfl) (fun n ρ h => by kernel_rfl)
theorem f118.qe : Ap.all (f118.e I call (f118.J I call n)) (fun l h => execC P I call (f118.JS I call n) c118.body 0 (finV I c118.results) (argV l) h) := fun v0 v1 v2 h => by kernel_rfl
theorem f118.code : codeOf P 118 = some c118 := by kernel_rfl
def f118.run (I : Inp) : SF := fun call n => Ap.ar (f118.e I call (f118.J I call n))
theorem f118.ok (I : Inp) (F : Nat → Option AFn) (hF : F 118 = some (.code c118)) : SfOk P I F 118 (f118.run I) := okOf hF (by kernel_rfl) (fun _ => f118.S) fun call n => f118.qe
/-! haruspex/graph.May -/
def c119 : AFunc := cOf P 119
abbrev f119.Js : Type := (((A1 × A0) × (A4 × A4)) × ((A4 × A7) × (A7 × A7)))
def f119.b0 (I : Inp) (call : CallFn) (j : f119.Js) (v1 : AVal) (h : AHeap) : Rs :=
  kF 1 v1 fun v23 =>
  kL I v23 h fun v24 =>
  kZ v24 fun v25 =>
  j.1.2.1 v1 v24 v25 (Z 0) h
def f119.b1 (I : Inp) (call : CallFn) (j : f119.Js) (h : AHeap) : Rs :=
  some (bT, h)
def f119.b2 (I : Inp) (call : CallFn) (j : f119.Js) (v1 v24 v25 v26 : AVal) (h : AHeap) : Rs :=
  kB .lss v26 v25 fun v27 =>
  sCond v27 (
  j.1.1.2 h) (
  j.1.2.2 v1 v24 v25 v26 h)
def f119.b3 (I : Inp) (call : CallFn) (j : f119.Js) (v1 v24 v25 v26 : AVal) (h : AHeap) : Rs :=
  kI 1 v24 v26 fun v28 =>
  kL I v28 h fun v29 =>
  kZ v29 fun v31 =>
  j.2.1.2 v1 v24 v25 v26 v29 v31 (Z 0) h
def f119.b4 (I : Inp) (call : CallFn) (j : f119.Js) (v1 v24 v25 v26 : AVal) (h : AHeap) : Rs :=
  kB .add v26 (Z 1) fun v45 =>
  j.1.2.1 v1 v24 v25 v45 h
def f119.b5 (I : Inp) (call : CallFn) (j : f119.Js) (v1 v24 v25 v26 v30 v31 v32 : AVal) (h : AHeap) : Rs :=
  kB .lss v32 v31 fun v33 =>
  sCond v33 (
  j.2.1.1 v1 v24 v25 v26 h) (
  j.2.2.1 v1 v24 v25 v26 v30 v31 v32 h)
def f119.b6 (I : Inp) (call : CallFn) (j : f119.Js) (v1 v24 v25 v26 v30 v31 v32 : AVal) (h : AHeap) : Rs :=
  kI 1 v30 v32 fun v34 =>
  kL I v34 h fun v35 =>
  kB .lss v35 (Z 0) fun v37 =>
  gV v37 .false v35 h fun v39 h1 =>
  gP v37 .false (pFieldAddr 0 v1) h1 fun v40 h2 =>
  gP v37 .false (pLoad1 I v40 h2) h2 fun v41 h3 =>
  gP v37 .false (pBin .geq v39 v41) h3 fun v42 h4 =>
  kP v37 bT v42 fun v43 =>
  sCond v43 (
  j.2.2.2 v1 v24 v25 v26 v30 v31 v32 h4) (
  some (bF, h4))
def f119.b7 (I : Inp) (call : CallFn) (j : f119.Js) (v1 v24 v25 v26 v30 v31 v32 : AVal) (h : AHeap) : Rs :=
  kB .add v32 (Z 1) fun v44 =>
  j.2.1.2 v1 v24 v25 v26 v30 v31 v44 h
def f119.e (I : Inp) (call : CallFn) (j : f119.Js) (v0 : AVal) (h : AHeap) : Rs :=
  bnd (sBox v0 h) fun v1 h1 =>
  kF 0 v1 fun v7 =>
  kL I v7 h1 fun v8 =>
  kB .lss v8 (Z 0) fun v9 =>
  gP v9 .false (pFieldAddr 0 v1) h1 fun v11 h2 =>
  gP v9 .false (pLoad1 I v11 h2) h2 fun v12 h3 =>
  gP v9 .false (pBin .gtr v12 (Z 600)) h3 fun v13 h4 =>
  kP v9 bT v13 fun v14 =>
  gP v14 .false (pFieldAddr 1 v1) h4 fun v16 h5 =>
  gP v14 .false (pLoad1 I v16 h5) h5 fun v17 h6 =>
  gP v14 .false (pLenSl v17) h6 fun v18 h7 =>
  gP v14 .false (pFieldAddr 0 v1) h7 fun v19 h8 =>
  gP v14 .false (pLoad1 I v19 h8) h8 fun v20 h9 =>
  gP v14 .false (pBin .neq v18 v20) h9 fun v21 h10 =>
  kP v14 bT v21 fun v22 =>
  sCond v22 (
  j.1.1.1 v1 h10) (
  some (bF, h10))
def f119.J (I : Inp) (call : CallFn) (n : Nat) : f119.Js :=
  Nat.rec (motive := fun _ => f119.Js) (((Zr.z, Zr.z), (Zr.z, Zr.z)), ((Zr.z, Zr.z), (Zr.z, Zr.z))) (fun _ j => (((f119.b0 I call j, f119.b1 I call j), (f119.b2 I call j, f119.b3 I call j)), ((f119.b4 I call j, f119.b5 I call j), (f119.b6 I call j, f119.b7 I call j)))) n
def f119.JS (I : Inp) (call : CallFn) (n : Nat) : Jmp := (fun j : f119.Js => jmp [Ap.ap j.1.1.1 [1], Ap.ap j.1.1.2 [], Ap.ap j.1.2.1 [1, 24, 25, 26], Ap.ap j.1.2.2 [1, 24, 25, 26], Ap.ap j.2.1.1 [1, 24, 25, 26], Ap.ap j.2.1.2 [1, 24, 25, 26, 30, 31, 32], Ap.ap j.2.2.1 [1, 24, 25, 26, 30, 31, 32], Ap.ap j.2.2.2 [1, 24, 25, 26, 30, 31, 32]]) (f119.J I call n)
theorem f119.S : SFn ⟨P, I, F⟩ call c119 (f119.JS I call) := .all 8 (by kernel_rfl) (fun ρ h => by kernel_rfl) (fun n ρ h => by kernel_rfl)
theorem f119.qe : Ap.all (f119.e I call (f119.J I call n)) (fun l h => execC P I call (f119.JS I call n) c119.body 0 (finV I c119.results) (argV l) h) := fun v0 h => by kernel_rfl
theorem f119.code : codeOf P 119 = some c119 := by kernel_rfl
def f119.run (I : Inp) : SF := fun call n => Ap.ar (f119.e I call (f119.J I call n))
theorem f119.ok (I : Inp) (F : Nat → Option AFn) (hF : F 119 = some (.code c119)) : SfOk P I F 119 (f119.run I) := okOf hF (by kernel_rfl) (fun _ => f119.S) fun call n => f119.qe
/-! haruspex/graph.Reach$1 -/
def c120 : AFunc := cOf P 120
abbrev f120.Js : Type := Unit
def f120.e (I : Inp) (call : CallFn) (j : f120.Js) (v0 v1 v2 v3 : AVal) (h : AHeap) : Rs :=
  kB .geq v0 (Z 0) fun v6 =>
  gV v6 .true v0 h fun v8 h1 =>
  gP v6 .true (pFieldAddr 0 v1) h1 fun v9 h2 =>
  gP v6 .true (pLoad1 I v9 h2) h2 fun v10 h3 =>
  gP v6 .true (pBin .lss v8 v10) h3 fun v11 h4 =>
  kP v6 v11 bF fun v12 =>
  gP v12 .true (pLoad1 I v2 h4) h4 fun v14 h5 =>
  gV v12 .true v0 h5 fun v15 h6 =>
  gS v12 .true (call 93 [v14, v15] h6) h6 fun v16 h7 =>
  kP v12 v16 bF fun v17 =>
  sCond v17 (
  some (.tuple [], h7)) (
  kL I v3 h7 fun v18 =>
  bnd (sBuildSlice [(Z 0)] 1 [(0, 1, v0)] h7) fun v20 h8 =>
  bnd (sAppend I 1 8 v18 v20 h8) fun v21 h9 =>
  kS 1 v3 v21 h9 fun _ h10 =>
  some (.tuple [], h10))
theorem f120.S : SFn ⟨P, I, F⟩ call c120 (fun _ => jmp []) := .all 0 (by kernel_rfl) (fun ρ h => by kernel_rfl) (fun n ρ h => by kernel_rfl)
theorem f120.qe : Ap.all (f120.e I call ()) (fun l h => execC P I call (jmp []) c120.body 0 (finV I c120.results) (argV l) h) := fun v0 v1 v2 v3 h => by kernel_rfl
theorem f120.code : codeOf P 120 = some c120 := by kernel_rfl
def f120.run (I : Inp) : SF := fun call n => Ap.ar (f120.e I call ())
theorem f120.ok (I : Inp) (F : Nat → Option AFn) (hF : F 120 = some (.code c120)) : SfOk P I F 120 (f120.run I) := okOf hF (by kernel_rfl) (fun _ => f120.S) fun call n => f120.qe
/-! haruspex/ir.Outs -/
def c121 : AFunc := cOf P 121
abbrev f121.Js : Type := (A0 × A2)
def f121.b0 (I : Inp) (call : CallFn) (j : f121.Js) (h : AHeap) : Rs :=
  some (.nils, h)
def f121.b1 (I : Inp) (call : CallFn) (j : f121.Js) (v0 v3 : AVal) (h : AHeap) : Rs :=
  sCond v3 (
  kN v0 fun v32 =>
  kF 1 v32 fun v33 =>
  kL I v33 h fun v34 =>
  kB .eql v34 (Z 2) fun v35 =>
  sCond v35 (
  j.1 h) (
  kN v0 fun v37 =>
  kF 3 v37 fun v38 =>
  kL I v38 h fun v39 =>
  kN v0 fun v41 =>
  kF 4 v41 fun v42 =>
  kL I v42 h fun v43 =>
  bnd (sBuildSlice [(Z 0)] 2 [(0, 1, v39), (1, 1, v43)] h) fun v44 h1 =>
  some (v44, h1))) (
  kN v0 fun v26 =>
  kF 3 v26 fun v27 =>
  kL I v27 h fun v28 =>
  bnd (sBuildSlice [(Z 0)] 1 [(0, 1, v28)] h) fun v29 h2 =>
  some (v29, h2))
def f121.e (I : Inp) (call : CallFn) (j : f121.Js) (v0 : AVal) (h : AHeap) : Rs :=
  kN v0 fun v5 =>
  kF 1 v5 fun v6 =>
  kL I v6 h fun v7 =>
  kB .eql v7 (Z 1) fun v8 =>
  sCond v8 (
  kN v0 fun v10 =>
  kF 1 v10 fun v11 =>
  kL I v11 h fun v12 =>
  kB .eql v12 (Z 2) fun v13 =>
  gV v13 .true v0 h fun v15 h1 =>
  gP v13 .true (pNilCheck v15) h1 fun v16 h2 =>
  gP v13 .true (pFieldAddr 3 v16) h2 fun v17 h3 =>
  gP v13 .true (pLoad1 I v17 h3) h3 fun v18 h4 =>
  gV v13 .true v0 h4 fun v19 h5 =>
  gP v13 .true (pNilCheck v19) h5 fun v20 h6 =>
  gP v13 .true (pFieldAddr 4 v20) h6 fun v21 h7 =>
  gP v13 .true (pLoad1 I v21 h7) h7 fun v22 h8 =>
  gP v13 .true (pBin .eql v18 v22) h8 fun v23 h9 =>
  kP v13 v23 bF fun v24 =>
  j.2 v0 v24 h9) (
  j.2 v0 v8 h)
def f121.J (I : Inp) (call : CallFn) (n : Nat) : f121.Js :=
  Nat.rec (motive := fun _ => f121.Js) (Zr.z, Zr.z) (fun _ j => (f121.b0 I call j, f121.b1 I call j)) n
def f121.JS (I : Inp) (call : CallFn) (n : Nat) : Jmp := (fun j : f121.Js => jmp [Ap.ap j.1 [], Ap.ap j.2 [0, 3]]) (f121.J I call n)
theorem f121.S : SFn ⟨P, I, F⟩ call c121 (f121.JS I call) := .all 2 (by kernel_rfl) (fun ρ h => by kernel_rfl) (fun n ρ h => by kernel_rfl)
theorem f121.qe : Ap.all (f121.e I call (f121.J I call n)) (fun l h => execC P I call (f121.JS I call n) c121.body 0 (finV I c121.results) (argV l) h) := fun v0 h => by kernel_rfl
theorem f121.code : codeOf P 121 = some c121 := by kernel_rfl
def f121.run (I : Inp) : SF := fun call n => Ap.ar (f121.e I call (f121.J I call n))
theorem f121.ok (I : Inp) (F : Nat → Option AFn) (hF : F 121 = some (.code c121)) : SfOk P I F 121 (f121.run I) := okOf hF (by kernel_rfl) (fun _ => f121.S) fun call n => f121.qe
/-! (*haruspex/bitset.Set).at -/
def c122 : AFunc := cOf P 122
abbrev f122.Js : Type := A0
def f122.b0 (I : Inp) (call : CallFn) (j : f122.Js) (h : AHeap) : Rs :=
  some ((.int .u64 (.ofNat 0)), h)
def f122.e (I : Inp) (call : CallFn) (j : f122.Js) (v0 v1 : AVal) (h : AHeap) : Rs :=
  kC call 128 [v0] h fun v7 h1 =>
  kZ v7 fun v10 =>
  kB .lss v1 v10 fun v11 =>
  sCond v11 (
  j h1) (
  kI 1 v7 v1 fun v14 =>
  kL I v14 h1 fun v15 =>
  some (v15, h1))
def f122.J (I : Inp) (call : CallFn) (n : Nat) : f122.Js :=
  Nat.rec (motive := fun _ => f122.Js) Zr.z (fun _ j => f122.b0 I call j) n
def f122.JS (I : Inp) (call : CallFn) (n : Nat) : Jmp := (fun j : f122.Js => jmp [Ap.ap j []]) (f122.J I call n)
theorem f122.S : SFn ⟨P, I, F⟩ call c122 (f122.JS I call) := .all 1 (by kernel_rfl) (fun ρ h => by kernel_rfl) (fun n ρ h => by kernel_rfl)
theorem f122.qe : Ap.all (f122.e I call (f122.J I call n)) (fun l h => execC P I call (f122.JS I call n) c122.body 0 (finV I c122.results) (argV l) h) := fun v0 v1 h => by kernel_rfl
theorem f122.code : codeOf P 122 = some c122 := by kernel_rfl
def f122.run (I : Inp) : SF := fun call n => Ap.ar (f122.e I call (f122.J I call n))
theorem f122.ok (I : Inp) (F : Nat → Option AFn) (hF : F 122 = some (.code c122)) : SfOk P I F 122 (f122.run I) := okOf hF (by kernel_rfl) (fun _ => f122.S) fun call n => f122.qe
/-! haruspex/assign.first -/
def c123 : AFunc := cOf P 123
abbrev f123.Js : Type := ((A1 × A3) × (A3 × A3))
def f123.b0 (I : Inp) (call : CallFn) (j : f123.Js) (v3 : AVal) (h : AHeap) : Rs :=
  some (v3, h)
def f123.b1 (I : Inp) (call : CallFn) (j : f123.Js) (v3 v7 v8 : AVal) (h : AHeap) : Rs :=
  kB .lss v8 v7 fun v9 =>
  sCond v9 (
  j.1.1 v3 h) (
  j.2.1 v3 v7 v8 h)
def f123.b2 (I : Inp) (call : CallFn) (j : f123.Js) (v3 v7 v8 : AVal) (h : AHeap) : Rs :=
  kC call 93 [v3, v8] h fun v13 h1 =>
  j.2.2 v3 v7 v8 h1
def f123.b3 (I : Inp) (call : CallFn) (j : f123.Js) (v3 v7 v8 : AVal) (h : AHeap) : Rs :=
  kB .add v8 (Z 1) fun v14 =>
  j.1.2 v3 v7 v14 h
def f123.e (I : Inp) (call : CallFn) (j : f123.Js) (v0 : AVal) (h : AHeap) : Rs :=
  bndP (pBuild [.nils] []) fun v5 =>
  bnd (sBox v5 h) fun v6 h1 =>
  j.1.2 v6 v0 (Z 0) h1
def f123.J (I : Inp) (call : CallFn) (n : Nat) : f123.Js :=
  Nat.rec (motive := fun _ => f123.Js) ((Zr.z, Zr.z), (Zr.z, Zr.z)) (fun _ j => ((f123.b0 I call j, f123.b1 I call j), (f123.b2 I call j, f123.b3 I call j))) n
def f123.JS (I : Inp) (call : CallFn) (n : Nat) : Jmp := (fun j : f123.Js => jmp [Ap.ap j.1.1 [3], Ap.ap j.1.2 [3, 7, 8], Ap.ap j.2.1 [3, 7, 8], Ap.ap j.2.2 [3, 7, 8]]) (f123.J I call n)
theorem f123.S : SFn ⟨P, I, F⟩ call c123 (f123.JS I call) := .all 4 (by kernel_rfl) (fun ρ h => by kernel_rfl) (fun n ρ h => by kernel_rfl)
theorem f123.qe : Ap.all (f123.e I call (f123.J I call n)) (fun l h => execC P I call (f123.JS I call n) c123.body 0 (finV I c123.results) (argV l) h) := fun v0 h => by kernel_rfl
theorem f123.code : codeOf P 123 = some c123 := by kernel_rfl
def f123.run (I : Inp) : SF := fun call n => Ap.ar (f123.e I call (f123.J I call n))
theorem f123.ok (I : Inp) (F : Nat → Option AFn) (hF : F 123 = some (.code c123)) : SfOk P I F 123 (f123.run I) := okOf hF (by kernel_rfl) (fun _ => f123.S) fun call n => f123.qe
/-! haruspex/graph.Order -/
def c124 : AFunc := cOf P 124
abbrev f124.Js : Type := A2
def f124.b0 (I : Inp) (call : CallFn) (j : f124.Js) (v1 v2 : AVal) (h : AHeap) : Rs :=
  kM I 2 v2 h fun v19 =>
  bndP (pBuild [.nils] []) fun v21 =>
  bnd (sBox v21 h) fun v22 h1 =>
  kC call 133 [v19, v1, v22, .nils] h1 fun v23 h2 =>
  kC call 134 [v23] h2 fun v25 h3 =>
  some (v23, h3)
def f124.e (I : Inp) (call : CallFn) (j : f124.Js) (v0 v1 : AVal) (h : AHeap) : Rs :=
  bnd (sBox v0 h) fun v2 h1 =>
  kM I 2 v2 h1 fun v6 =>
  kC call 119 [v6] h1 fun v7 h2 =>
  kU .not v7 fun v8 =>
  gV v8 .false v1 h2 fun v10 h3 =>
  gP v8 .false (pBin .lss v10 (Z 0)) h3 fun v11 h4 =>
  kP v8 bT v11 fun v12 =>
  gV v12 .false v1 h4 fun v14 h5 =>
  gP v12 .false (pFieldAddr 0 v2) h5 fun v15 h6 =>
  gP v12 .false (pLoad1 I v15 h6) h6 fun v16 h7 =>
  gP v12 .false (pBin .geq v14 v16) h7 fun v17 h8 =>
  kP v12 bT v17 fun v18 =>
  sCond v18 (
  j v1 v2 h8) (
  some (.nils, h8))
def f124.J (I : Inp) (call : CallFn) (n : Nat) : f124.Js :=
  Nat.rec (motive := fun _ => f124.Js) Zr.z (fun _ j => f124.b0 I call j) n
def f124.JS (I : Inp) (call : CallFn) (n : Nat) : Jmp := (fun j : f124.Js => jmp [Ap.ap j [1, 2]]) (f124.J I call n)
theorem f124.S : SFn ⟨P, I, F⟩ call c124 (f124.JS I call) := .all 1 (by kernel_rfl) (fun ρ h => by kernel_rfl) (fun n ρ h => by kernel_rfl)
theorem f124.qe : Ap.all (f124.e I call (f124.J I call n)) (fun l h => execC P I call (f124.JS I call n) c124.body 0 (finV I c124.results) (argV l) h) := fun v0 v1 h => by kernel_rfl
theorem f124.code : codeOf P 124 = some c124 := by kernel_rfl
def f124.run (I : Inp) : SF := fun call n => Ap.ar (f124.e I call (f124.J I call n))
theorem f124.ok (I : Inp) (F : Nat → Option AFn) (hF : F 124 = some (.code c124)) : SfOk P I F 124 (f124.run I) := okOf hF (by kernel_rfl) (fun _ => f124.S) fun call n => f124.qe
/-! haruspex/assign.out -/
def c125 : AFunc := cOf P 125
abbrev f125.Js : Type := ((A1 × A4) × (A4 × A4))
def f125.b0 (I : Inp) (call : CallFn) (j : f125.Js) (v5 : AVal) (h : AHeap) : Rs :=
  some (v5, h)
def f125.b1 (I : Inp) (call : CallFn) (j : f125.Js) (v5 v13 v14 v15 : AVal) (h : AHeap) : Rs :=
  kB .lss v15 v14 fun v16 =>
  sCond v16 (
  j.1.1 v5 h) (
  j.2.1 v5 v13 v14 v15 h)
def f125.b2 (I : Inp) (call : CallFn) (j : f125.Js) (v5 v13 v14 v15 : AVal) (h : AHeap) : Rs :=
  kI 6 v13 v15 fun v17 =>
  kM I 6 v17 h fun v18 =>
  kA [(Z 0), (Z 0), (Z 0), (Z 0), (Z 0), .nils] h fun v7 h1 =>
  kS 6 v7 v18 h1 fun _ h2 =>
  kM I 6 v7 h2 fun v20 =>
  kC call 92 [v20] h2 fun v21 h3 =>
  kX v21 0 fun v22 =>
  kX v21 1 fun v23 =>
  sCond v23 (
  j.2.2 v5 v13 v14 v15 h3) (
  kC call 93 [v5, v22] h3 fun v27 h4 =>
  j.2.2 v5 v13 v14 v15 h4)
def f125.b3 (I : Inp) (call : CallFn) (j : f125.Js) (v5 v13 v14 v15 : AVal) (h : AHeap) : Rs :=
  kB .add v15 (Z 1) fun v28 =>
  j.1.2 v5 v13 v14 v28 h
def f125.e (I : Inp) (call : CallFn) (j : f125.Js) (v0 v1 : AVal) (h : AHeap) : Rs :=
  bnd (sBox v0 h) fun v2 h1 =>
  kC call 135 [v1] h1 fun v11 h2 =>
  kF 0 v2 fun v12 =>
  kL I v12 h2 fun v13 =>
  kZ v13 fun v14 =>
  j.1.2 v11 v13 v14 (Z 0) h2
def f125.J (I : Inp) (call : CallFn) (n : Nat) : f125.Js :=
  Nat.rec (motive := fun _ => f125.Js) ((Zr.z, Zr.z), (Zr.z, Zr.z)) (fun _ j => ((f125.b0 I call j, f125.b1 I call j), (f125.b2 I call j, f125.b3 I call j))) n
def f125.JS (I : Inp) (call : CallFn) (n : Nat) : Jmp := (fun j : f125.Js => jmp [Ap.ap j.1.1 [5], Ap.ap j.1.2 [5, 13, 14, 15], Ap.ap j.2.1 [5, 13, 14, 15], Ap.ap j.2.2 [5, 13, 14, 15]]) (f125.J I call n)
theorem f125.S : SFn ⟨P, I, F⟩ call c125 (f125.JS I call) := .all 4 (by kernel_rfl) (fun ρ h => by kernel_rfl) (fun n ρ h => by kernel_rfl)
theorem f125.qe : Ap.all (f125.e I call (f125.J I call n)) (fun l h => execC P I call (f125.JS I call n) c125.body 0 (finV I c125.results) (argV l) h) := fun v0 v1 h => by kernel_rfl
theorem f125.code : codeOf P 125 = some c125 := by kernel_rfl
def f125.run (I : Inp) : SF := fun call n => Ap.ar (f125.e I call (f125.J I call n))
theorem f125.ok (I : Inp) (F : Nat → Option AFn) (hF : F 125 = some (.code c125)) : SfOk P I F 125 (f125.run I) := okOf hF (by kernel_rfl) (fun _ => f125.S) fun call n => f125.qe
/-! (*haruspex/bitset.Set).Meet -/
def c126 : AFunc := cOf P 126
abbrev f126.Js : Type := ((A1 × A4) × (A4 × A4))
def f126.b0 (I : Inp) (call : CallFn) (j : f126.Js) (v5 : AVal) (h : AHeap) : Rs :=
  some (v5, h)
def f126.b1 (I : Inp) (call : CallFn) (j : f126.Js) (v1 v5 v13 v14 : AVal) (h : AHeap) : Rs :=
  kB .lss v14 v13 fun v15 =>
  sCond v15 (
  j.1.1 v5 h) (
  j.2.1 v1 v5 v13 v14 h)
def f126.b2 (I : Inp) (call : CallFn) (j : f126.Js) (v1 v5 v13 v14 : AVal) (h : AHeap) : Rs :=
  kN v5 fun v18 =>
  kF 0 v18 fun v19 =>
  kL I v19 h fun v20 =>
  kI 1 v20 v14 fun v22 =>
  kL I v22 h fun v23 =>
  kC call 122 [v1, v14] h fun v26 h1 =>
  kB .and v23 v26 fun v27 =>
  kI 1 v20 v14 fun v28 =>
  kS 1 v28 v27 h1 fun _ h2 =>
  sCheck (sSame (lift (pLoad1 I v19 h1) h1) v20 && true) (
  sCheck (sSame (lift (pLoad1 I v22 h1) h1) v23 && true) (
  j.2.2 v1 v5 v13 v14 h2))
def f126.b3 (I : Inp) (call : CallFn) (j : f126.Js) (v1 v5 v13 v14 : AVal) (h : AHeap) : Rs :=
  kB .add v14 (Z 1) fun v29 =>
  j.1.2 v1 v5 v13 v29 h
def f126.e (I : Inp) (call : CallFn) (j : f126.Js) (v0 v1 : AVal) (h : AHeap) : Rs :=
  kC call 135 [v0] h fun v8 h1 =>
  kN v8 fun v10 =>
  kF 0 v10 fun v11 =>
  kL I v11 h1 fun v12 =>
  kZ v12 fun v13 =>
  j.1.2 v1 v8 v13 (Z 0) h1
def f126.J (I : Inp) (call : CallFn) (n : Nat) : f126.Js :=
  Nat.rec (motive := fun _ => f126.Js) ((Zr.z, Zr.z), (Zr.z, Zr.z)) (fun _ j => ((f126.b0 I call j, f126.b1 I call j), (f126.b2 I call j, f126.b3 I call j))) n
def f126.JS (I : Inp) (call : CallFn) (n : Nat) : Jmp := (fun j : f126.Js => jmp [Ap.ap j.1.1 [5], Ap.ap j.1.2 [1, 5, 13, 14], Ap.ap j.2.1 [1, 5, 13, 14], Ap.ap j.2.2 [1, 5, 13, 14]]) (f126.J I call n)
theorem f126.S : SFn ⟨P, I, F⟩ call c126 (f126.JS I call) := .all 4 (by kernel_rfl) (fun ρ h => by kernel_rfl) (fun n ρ h => by kernel_rfl)
theorem f126.qe : Ap.all (f126.e I call (f126.J I call n)) (fun l h => execC P I call (f126.JS I call n) c126.body 0 (finV I c126.results) (argV l) h) := fun v0 v1 h => by kernel_rfl
theorem f126.code : codeOf P 126 = some c126 := by kernel_rfl
def f126.run (I : Inp) : SF := fun call n => Ap.ar (f126.e I call (f126.J I call n))
theorem f126.ok (I : Inp) (F : Nat → Option AFn) (hF : F 126 = some (.code c126)) : SfOk P I F 126 (f126.run I) := okOf hF (by kernel_rfl) (fun _ => f126.S) fun call n => f126.qe
/-! (*haruspex/bitset.Set).Eq -/
def c127 : AFunc := cOf P 127
abbrev f127.Js : Type := Unit
def f127.e (I : Inp) (call : CallFn) (j : f127.Js) (v0 v1 : AVal) (h : AHeap) : Rs :=
  kC call 91 [v0, v1] h fun v7 h1 =>
  gV v7 .true v1 h1 fun v9 h2 =>
  gV v7 .true v0 h2 fun v10 h3 =>
  gS v7 .true (call 91 [v9, v10] h3) h3 fun v11 h4 =>
  kP v7 v11 bF fun v12 =>
  some (v12, h4)
theorem f127.S : SFn ⟨P, I, F⟩ call c127 (fun _ => jmp []) := .all 0 (by kernel_rfl) (fun ρ h => by kernel_rfl) (fun n ρ h => by kernel_rfl)
theorem f127.qe : Ap.all (f127.e I call ()) (fun l h => execC P I call (jmp []) c127.body 0 (finV I c127.results) (argV l) h) := fun v0 v1 h => by kernel_rfl
theorem f127.code : codeOf P 127 = some c127 := by kernel_rfl
def f127.run (I : Inp) : SF := fun call n => Ap.ar (f127.e I call ())
theorem f127.ok (I : Inp) (F : Nat → Option AFn) (hF : F 127 = some (.code c127)) : SfOk P I F 127 (f127.run I) := okOf hF (by kernel_rfl) (fun _ => f127.S) fun call n => f127.qe
/-! (*haruspex/bitset.Set).words -/
def c128 : AFunc := cOf P 128
abbrev f128.Js : Type := A1
def f128.b0 (I : Inp) (call : CallFn) (j : f128.Js) (v0 : AVal) (h : AHeap) : Rs :=
  kN v0 fun v6 =>
  kF 0 v6 fun v7 =>
  kL I v7 h fun v8 =>
  some (v8, h)
def f128.e (I : Inp) (call : CallFn) (j : f128.Js) (v0 : AVal) (h : AHeap) : Rs :=
  bndP (pEq P .false .ptr .true v0 .nilp h) fun v4 =>
  sCond v4 (
  j v0 h) (
  some (.nils, h))
def f128.J (I : Inp) (call : CallFn) (n : Nat) : f128.Js :=
  Nat.rec (motive := fun _ => f128.Js) Zr.z (fun _ j => f128.b0 I call j) n
def f128.JS (I : Inp) (call : CallFn) (n : Nat) : Jmp := (fun j : f128.Js => jmp [Ap.ap j [0]]) (f128.J I call n)
theorem f128.S : SFn ⟨P, I, F⟩ call c128 (f128.JS I call) := .all 1 (by kernel_rfl) (fun ρ h => by kernel_rfl) (fun n ρ h => by kernel_rfl)
theorem f128.qe : Ap.all (f128.e I call (f128.J I call n)) (fun l h => execC P I call (f128.JS I call n) c128.body 0 (finV I c128.results) (argV l) h) := fun v0 h => by kernel_rfl
theorem f128.code : codeOf P 128 = some c128 := by kernel_rfl
def f128.run (I : Inp) : SF := fun call n => Ap.ar (f128.e I call (f128.J I call n))
theorem f128.ok (I : Inp) (F : Nat → Option AFn) (hF : F 128 = some (.code c128)) : SfOk P I F 128 (f128.run I) := okOf hF (by kernel_rfl) (fun _ => f128.S) fun call n => f128.qe
/-! (*haruspex/code.reader).block -/
def c129 : AFunc := cOf P 129
abbrev f129.Js : Type := (((A3 × (A4 × A4)) × (A4 × (A5 × A8))) × ((A8 × (A8 × A2)) × (A6 × (A6 × A6))))
def f129.b0 (I : Inp) (call : CallFn) (j : f129.Js) (v0 v2 v3 : AVal) (h : AHeap) : Rs :=
  kF 1 v3 fun v50 =>
  kF 2 v3 fun v51 =>
  kF 3 v3 fun v52 =>
  kF 4 v3 fun v53 =>
  bnd (sBuildSlice [.nilp] 4 [(0, 1, v50), (1, 1, v51), (2, 1, v52), (3, 1, v53)] h) fun v54 h1 =>
  kZ v54 fun v55 =>
  j.2.2.1 v0 v2 v3 v54 v55 (Z 0) h1
def f129.b1 (I : Inp) (call : CallFn) (j : f129.Js) (v0 v2 v3 v4 : AVal) (h : AHeap) : Rs :=
  kB .gtr v4 (Z 0) fun v14 =>
  gV v14 .true v0 h fun v16 h1 =>
  gP v14 .true (pNilCheck v16) h1 fun v17 h2 =>
  gP v14 .true (pFieldAddr 1 v17) h2 fun v18 h3 =>
  gP v14 .true (pLoad1 I v18 h3) h3 fun v19 h4 =>
  gP v14 .true (pUn .not v19) h4 fun v20 h5 =>
  kP v14 v20 bF fun v21 =>
  sCond v21 (
  j.1.1.1 v0 v2 v3 h5) (
  j.1.1.2.2 v0 v2 v3 v4 h5)
def f129.b2 (I : Inp) (call : CallFn) (j : f129.Js) (v0 v2 v3 v4 : AVal) (h : AHeap) : Rs :=
  bndP (pBuild [(Z 0), (Z 0), (Z 0), (Z 0), (Z 0), .nils] []) fun v24 =>
  kA [(Z 0), (Z 0), (Z 0), (Z 0), (Z 0), .nils] h fun v5 h1 =>
  kS 6 v5 v24 h1 fun _ h2 =>
  kF 0 v5 fun v25 =>
  kF 1 v5 fun v26 =>
  kF 2 v5 fun v27 =>
  kF 3 v5 fun v28 =>
  kF 4 v5 fun v29 =>
  bnd (sBuildSlice [.nilp] 5 [(0, 1, v25), (1, 1, v26), (2, 1, v27), (3, 1, v28), (4, 1, v29)] h2) fun v30 h3 =>
  kZ v30 fun v31 =>
  j.1.2.2.2 v0 v2 v3 v4 v5 v30 v31 (Z 0) h3
def f129.b3 (I : Inp) (call : CallFn) (j : f129.Js) (v0 v2 v3 v4 : AVal) (h : AHeap) : Rs :=
  kB .sub v4 (Z 1) fun v23 =>
  j.1.1.2.1 v0 v2 v3 v23 h
def f129.b4 (I : Inp) (call : CallFn) (j : f129.Js) (v0 v2 v3 v4 v5 : AVal) (h : AHeap) : Rs :=
  kC call 101 [v0] h fun v42 h1 =>
  kF 5 v5 fun v43 =>
  kS 1 v43 v42 h1 fun _ h2 =>
  kF 0 v3 fun v44 =>
  kL I v44 h2 fun v45 =>
  kM I 6 v5 h2 fun v46 =>
  bnd (sBuildSlice [(Z 0), (Z 0), (Z 0), (Z 0), (Z 0), .nils] 1 [(0, 6, v46)] h2) fun v47 h3 =>
  bnd (sAppend I 6 64 v45 v47 h3) fun v48 h4 =>
  kF 0 v3 fun v49 =>
  kS 1 v49 v48 h4 fun _ h5 =>
  j.1.2.1 v0 v2 v3 v4 h5
def f129.b5 (I : Inp) (call : CallFn) (j : f129.Js) (v0 v2 v3 v4 v5 v30 v31 v32 : AVal) (h : AHeap) : Rs :=
  kB .lss v32 v31 fun v33 =>
  sCond v33 (
  j.1.2.2.1 v0 v2 v3 v4 v5 h) (
  j.2.1.1 v0 v2 v3 v4 v5 v30 v31 v32 h)
def f129.b6 (I : Inp) (call : CallFn) (j : f129.Js) (v0 v2 v3 v4 v5 v30 v31 v32 : AVal) (h : AHeap) : Rs :=
  kI 1 v30 v32 fun v34 =>
  kL I v34 h fun v35 =>
  kC call 102 [v0] h fun v38 h1 =>
  kN v35 fun v39 =>
  kS 1 v39 v38 h1 fun _ h2 =>
  j.2.1.2.1 v0 v2 v3 v4 v5 v30 v31 v32 h2
def f129.b7 (I : Inp) (call : CallFn) (j : f129.Js) (v0 v2 v3 v4 v5 v30 v31 v32 : AVal) (h : AHeap) : Rs :=
  kB .add v32 (Z 1) fun v40 =>
  j.1.2.2.2 v0 v2 v3 v4 v5 v30 v31 v40 h
def f129.b8 (I : Inp) (call : CallFn) (j : f129.Js) (v2 v3 : AVal) (h : AHeap) : Rs :=
  kM I 5 v3 h fun v65 =>
  kS 5 v2 v65 h fun _ h1 =>
  sRet (sCons (sResN I 5 v2 h1) (some [])) h1
def f129.b9 (I : Inp) (call : CallFn) (j : f129.Js) (v0 v2 v3 v54 v55 v56 : AVal) (h : AHeap) : Rs :=
  kB .lss v56 v55 fun v57 =>
  sCond v57 (
  j.2.1.2.2 v2 v3 h) (
  j.2.2.2.1 v0 v2 v3 v54 v55 v56 h)
def f129.b10 (I : Inp) (call : CallFn) (j : f129.Js) (v0 v2 v3 v54 v55 v56 : AVal) (h : AHeap) : Rs :=
  kI 1 v54 v56 fun v58 =>
  kL I v58 h fun v59 =>
  kC call 102 [v0] h fun v62 h1 =>
  kN v59 fun v63 =>
  kS 1 v63 v62 h1 fun _ h2 =>
  j.2.2.2.2 v0 v2 v3 v54 v55 v56 h2
def f129.b11 (I : Inp) (call : CallFn) (j : f129.Js) (v0 v2 v3 v54 v55 v56 : AVal) (h : AHeap) : Rs :=
  kB .add v56 (Z 1) fun v64 =>
  j.2.2.1 v0 v2 v3 v54 v55 v64 h
def f129.e (I : Inp) (call : CallFn) (j : f129.Js) (v0 : AVal) (h : AHeap) : Rs :=
  kA [.nils, (Z 0), (Z 0), (Z 0), (Z 0)] h fun v2 h1 =>
  bndP (pBuild [.nils, (Z 0), (Z 0), (Z 0), (Z 0)] []) fun v10 =>
  kA [.nils, (Z 0), (Z 0), (Z 0), (Z 0)] h1 fun v3 h2 =>
  kS 5 v3 v10 h2 fun _ h3 =>
  kC call 98 [v0] h3 fun v12 h4 =>
  j.1.1.2.1 v0 v2 v3 v12 h4
def f129.J (I : Inp) (call : CallFn) (n : Nat) : f129.Js :=
  Nat.rec (motive := fun _ => f129.Js) (((Zr.z, (Zr.z, Zr.z)), (Zr.z, (Zr.z, Zr.z))), ((Zr.z, (Zr.z, Zr.z)), (Zr.z, (Zr.z, Zr.z)))) (fun _ j => (((f129.b0 I call j, (f129.b1 I call j, f129.b2 I call j)), (f129.b3 I call j, (f129.b4 I call j, f129.b5 I call j))), ((f129.b6 I call j, (f129.b7 I call j, f129.b8 I call j)), (f129.b9 I call j, (f129.b10 I call j, f129.b11 I call j))))) n
def f129.JS (I : Inp) (call : CallFn) (n : Nat) : Jmp := (fun j : f129.Js => jmp [Ap.ap j.1.1.1 [0, 2, 3], Ap.ap j.1.1.2.1 [0, 2, 3, 4], Ap.ap j.1.1.2.2 [0, 2, 3, 4], Ap.ap j.1.2.1 [0, 2, 3, 4], Ap.ap j.1.2.2.1 [0, 2, 3, 4, 5], Ap.ap j.1.2.2.2 [0, 2, 3, 4, 5, 30, 31, 32], Ap.ap j.2.1.1 [0, 2, 3, 4, 5, 30, 31, 32], Ap.ap j.2.1.2.1 [0, 2, 3, 4, 5, 30, 31, 32], Ap.ap j.2.1.2.2 [2, 3], Ap.ap j.2.2.1 [0, 2, 3, 54, 55, 56], Ap.ap j.2.2.2.1 [0, 2, 3, 54, 55, 56], Ap.ap j.2.2.2.2 [0, 2, 3, 54, 55, 56]]) (f129.J I call n)
theorem f129.S : SFn ⟨P, I, F⟩ call c129 (f129.JS I call) := .all 12 (by kernel_rfl) (fun ρ h => by kernel_rfl) (fun n ρ h => by kernel_rfl)
theorem f129.qe : Ap.all (f129.e I call (f129.J I call n)) (fun l h => execC P I call (f129.JS I call n) c129.body 0 (finV I c129.results) (argV l) h) := fun v0 h => by kernel_rfl
theorem f129.code : codeOf P 129 = some c129 := by kernel_rfl
def f129.run (I : Inp) : SF := fun call n => Ap.ar (f129.e I call (f129.J I call n))
theorem f129.ok (I : Inp) (F : Nat → Option AFn) (hF : F 129 = some (.code c129)) : SfOk P I F 129 (f129.run I) := okOf hF (by kernel_rfl) (fun _ => f129.S) fun call n => f129.qe
/-! haruspex/graph.behind -/
def c133 : AFunc := cOf P 133
abbrev f133.Js : Type := ((A4 × A2) × (A7 × (A7 × A7)))
def f133.b0 (I : Inp) (call : CallFn) (j : f133.Js) (v1 v2 v3 v4 : AVal) (h : AHeap) : Rs :=
  kF 1 v4 fun v16 =>
  kL I v16 h fun v17 =>
  kI 1 v17 v1 fun v19 =>
  kL I v19 h fun v20 =>
  kZ v20 fun v21 =>
  j.2.1 v1 v2 v3 v4 v20 v21 (Z 0) h
def f133.b1 (I : Inp) (call : CallFn) (j : f133.Js) (v1 v3 : AVal) (h : AHeap) : Rs :=
  bnd (sBuildSlice [(Z 0)] 1 [(0, 1, v1)] h) fun v34 h1 =>
  bnd (sAppend I 1 8 v3 v34 h1) fun v35 h2 =>
  some (v35, h2)
def f133.b2 (I : Inp) (call : CallFn) (j : f133.Js) (v1 v2 v3 v4 v20 v21 v22 : AVal) (h : AHeap) : Rs :=
  kB .lss v22 v21 fun v23 =>
  sCond v23 (
  j.1.2 v1 v3 h) (
  j.2.2.1 v1 v2 v3 v4 v20 v21 v22 h)
def f133.b3 (I : Inp) (call : CallFn) (j : f133.Js) (v1 v2 v3 v4 v20 v21 v22 : AVal) (h : AHeap) : Rs :=
  kI 1 v20 v22 fun v24 =>
  kL I v24 h fun v25 =>
  kM I 2 v4 h fun v26 =>
  kC call 133 [v26, v25, v2, v3] h fun v30 h1 =>
  j.2.2.2 v1 v2 v30 v4 v20 v21 v22 h1
def f133.b4 (I : Inp) (call : CallFn) (j : f133.Js) (v1 v2 v3 v4 v20 v21 v22 : AVal) (h : AHeap) : Rs :=
  kB .add v22 (Z 1) fun v31 =>
  j.2.1 v1 v2 v3 v4 v20 v21 v31 h
def f133.e (I : Inp) (call : CallFn) (j : f133.Js) (v0 v1 v2 v3 : AVal) (h : AHeap) : Rs :=
  bnd (sBox v0 h) fun v4 h1 =>
  kC call 93 [v2, v1] h1 fun v13 h2 =>
  kU .not v13 fun v14 =>
  sCond v14 (
  j.1.1 v1 v2 v3 v4 h2) (
  some (v3, h2))
def f133.J (I : Inp) (call : CallFn) (n : Nat) : f133.Js :=
  Nat.rec (motive := fun _ => f133.Js) ((Zr.z, Zr.z), (Zr.z, (Zr.z, Zr.z))) (fun _ j => ((f133.b0 I call j, f133.b1 I call j), (f133.b2 I call j, (f133.b3 I call j, f133.b4 I call j)))) n
def f133.JS (I : Inp) (call : CallFn) (n : Nat) : Jmp := (fun j : f133.Js => jmp [Ap.ap j.1.1 [1, 2, 3, 4], Ap.ap j.1.2 [1, 3], Ap.ap j.2.1 [1, 2, 3, 4, 20, 21, 22], Ap.ap j.2.2.1 [1, 2, 3, 4, 20, 21, 22], Ap.ap j.2.2.2 [1, 2, 3, 4, 20, 21, 22]]) (f133.J I call n)
theorem f133.S : SFn ⟨P, I, F⟩ call c133 (f133.JS I call) := .all 5 (by kernel_rfl) (fun ρ h => by kernel_rfl) (fun n ρ h => by kernel_rfl)
theorem f133.qe : Ap.all (f133.e I call (f133.J I call n)) (fun l h => execC P I call (f133.JS I call n) c133.body 0 (finV I c133.results) (argV l) h) := fun v0 v1 v2 v3 h => by kernel_rfl
theorem f133.code : codeOf P 133 = some c133 := by kernel_rfl
def f133.run (I : Inp) : SF := fun call n => Ap.ar (f133.e I call (f133.J I call n))
theorem f133.ok (I : Inp) (F : Nat → Option AFn) (hF : F 133 = some (.code c133)) : SfOk P I F 133 (f133.run I) := okOf hF (by kernel_rfl) (fun _ => f133.S) fun call n => f133.qe
/-! slices.Reverse[[]int,int] -/
def c134 : AFunc := cOf P 134
abbrev f134.Js : Type := (A3 × (A3 × A3))
def f134.b0 (I : Inp) (call : CallFn) (j : f134.Js) (v0 v2 v3 : AVal) (h : AHeap) : Rs :=
  kB .lss v2 v3 fun v9 =>
  sCond v9 (
  some (.tuple [], h)) (
  j.2.1 v0 v2 v3 h)
def f134.b1 (I : Inp) (call : CallFn) (j : f134.Js) (v0 v2 v3 : AVal) (h : AHeap) : Rs :=
  kI 1 v0 v3 fun v20 =>
  kL I v20 h fun v21 =>
  kI 1 v0 v2 fun v24 =>
  kL I v24 h fun v25 =>
  kI 1 v0 v2 fun v26 =>
  kS 1 v26 v21 h fun _ h1 =>
  kI 1 v0 v3 fun v27 =>
  kS 1 v27 v25 h1 fun _ h2 =>
  j.2.2 v0 v2 v3 h2
def f134.b2 (I : Inp) (call : CallFn) (j : f134.Js) (v0 v2 v3 : AVal) (h : AHeap) : Rs :=
  kB .add v2 (Z 1) fun v11 =>
  kB .sub v3 (Z 1) fun v13 =>
  j.1 v0 v11 v13 h
def f134.e (I : Inp) (call : CallFn) (j : f134.Js) (v0 : AVal) (h : AHeap) : Rs :=
  kZ v0 fun v5 =>
  kB .sub v5 (Z 1) fun v6 =>
  j.1 v0 (Z 0) v6 h
def f134.J (I : Inp) (call : CallFn) (n : Nat) : f134.Js :=
  Nat.rec (motive := fun _ => f134.Js) (Zr.z, (Zr.z, Zr.z)) (fun _ j => (f134.b0 I call j, (f134.b1 I call j, f134.b2 I call j))) n
def f134.JS (I : Inp) (call : CallFn) (n : Nat) : Jmp := (fun j : f134.Js => jmp [Ap.ap j.1 [0, 2, 3], Ap.ap j.2.1 [0, 2, 3], Ap.ap j.2.2 [0, 2, 3]]) (f134.J I call n)
theorem f134.S : SFn ⟨P, I, F⟩ call c134 (f134.JS I call) := .all 3 (by kernel_rfl) (fun ρ h => by kernel_rfl) (fun n ρ h => by kernel_rfl)
theorem f134.qe : Ap.all (f134.e I call (f134.J I call n)) (fun l h => execC P I call (f134.JS I call n) c134.body 0 (finV I c134.results) (argV l) h) := fun v0 h => by kernel_rfl
theorem f134.code : codeOf P 134 = some c134 := by kernel_rfl
def f134.run (I : Inp) : SF := fun call n => Ap.ar (f134.e I call (f134.J I call n))
theorem f134.ok (I : Inp) (F : Nat → Option AFn) (hF : F 134 = some (.code c134)) : SfOk P I F 134 (f134.run I) := okOf hF (by kernel_rfl) (fun _ => f134.S) fun call n => f134.qe
/-! (*haruspex/bitset.Set).Copy -/
def c135 : AFunc := cOf P 135
abbrev f135.Js : Type := Unit
def f135.e (I : Inp) (call : CallFn) (j : f135.Js) (v0 : AVal) (h : AHeap) : Rs :=
  kC call 128 [v0] h fun v4 h1 =>
  kC call 136 [v4] h1 fun v5 h2 =>
  bndP (pBuild [.nils] [(0, 1, v5)]) fun v6 =>
  bnd (sBox v6 h2) fun v7 h3 =>
  some (v7, h3)
theorem f135.S : SFn ⟨P, I, F⟩ call c135 (fun _ => jmp []) := .all 0 (by kernel_rfl) (fun ρ h => by kernel_rfl) (fun n ρ h => by kernel_rfl)
theorem f135.qe : Ap.all (f135.e I call ()) (fun l h => execC P I call (jmp []) c135.body 0 (finV I c135.results) (argV l) h) := fun v0 h => by kernel_rfl
theorem f135.code : codeOf P 135 = some c135 := by kernel_rfl
def f135.run (I : Inp) : SF := fun call n => Ap.ar (f135.e I call ())
theorem f135.ok (I : Inp) (F : Nat → Option AFn) (hF : F 135 = some (.code c135)) : SfOk P I F 135 (f135.run I) := okOf hF (by kernel_rfl) (fun _ => f135.S) fun call n => f135.qe
/-! slices.Clone[[]uint64,uint64] -/
def c136 : AFunc := cOf P 136
abbrev f136.Js : Type := A1
def f136.b0 (I : Inp) (call : CallFn) (j : f136.Js) (v0 : AVal) (h : AHeap) : Rs :=
  bnd (sBuildSlice [(.int .u64 (.ofNat 0))] 0 [] h) fun v5 h1 =>
  bnd (sAppend I 1 8 v5 v0 h1) fun v7 h2 =>
  some (v7, h2)
def f136.e (I : Inp) (call : CallFn) (j : f136.Js) (v0 : AVal) (h : AHeap) : Rs :=
  bndP (pEq P .false .slice .true v0 .nils h) fun v4 =>
  sCond v4 (
  j v0 h) (
  some (.nils, h))
def f136.J (I : Inp) (call : CallFn) (n : Nat) : f136.Js :=
  Nat.rec (motive := fun _ => f136.Js) Zr.z (fun _ j => f136.b0 I call j) n
def f136.JS (I : Inp) (call : CallFn) (n : Nat) : Jmp := (fun j : f136.Js => jmp [Ap.ap j [0]]) (f136.J I call n)
theorem f136.S : SFn ⟨P, I, F⟩ call c136 (f136.JS I call) := .all 1 (by kernel_rfl) (fun ρ h => by kernel_rfl) (fun n ρ h => by kernel_rfl)
theorem f136.qe : Ap.all (f136.e I call (f136.J I call n)) (fun l h => execC P I call (f136.JS I call n) c136.body 0 (finV I c136.results) (argV l) h) := fun v0 h => by kernel_rfl
theorem f136.code : codeOf P 136 = some c136 := by kernel_rfl
def f136.run (I : Inp) : SF := fun call n => Ap.ar (f136.e I call (f136.J I call n))
theorem f136.ok (I : Inp) (F : Nat → Option AFn) (hF : F 136 = some (.code c136)) : SfOk P I F 136 (f136.run I) := okOf hF (by kernel_rfl) (fun _ => f136.S) fun call n => f136.qe
end
end Go.Proofs.YtikjkhddkfkijaaGreatDoor.Sf
