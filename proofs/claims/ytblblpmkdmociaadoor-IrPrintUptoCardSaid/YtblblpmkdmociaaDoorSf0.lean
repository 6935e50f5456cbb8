/- The functions of the program by their labels, on values, part 0: what they compute the abstract machine computes. Conditions: none. -/
import Derived.Test.YtblblpmkdmociaaDoorAmZ
import Derived.Test.YtblblpmkdmociaaDoorProg
namespace Go.Proofs.YtblblpmkdmociaaDoor.Sf
open Go.AM
set_option linter.unusedVariables false
noncomputable section
noncomputable abbrev P : Program := Tryd.prog
variable {I : Inp} {F : Nat → Option AFn} {call : CallFn} {prims : Nat → Option Prim} {n : Nat} {h : AHeap} {Q : AVal → AHeap → Prop}
/-! haruspex/haruspexlaw8.IrPrint -/
def c3 : AFunc := cOf P 3
abbrev f3.Js : Type := A1
def f3.b0 (I : Inp) (call : CallFn) (j : f3.Js) (v0 : AVal) (h : AHeap) : Rs :=
  kC call 10 [v0] h fun v8 h1 =>
  kU .not v8 fun v9 =>
  gV v9 .false v0 h1 fun v11 h2 =>
  gS v9 .false (call 11 [v11] h2) h2 fun v12 h3 =>
  gV v9 .false v0 h3 fun v13 h4 =>
  gS v9 .false (call 12 [v13] h4) h4 fun v14 h5 =>
  gP v9 .false (pBin .eql v12 v14) h5 fun v15 h6 =>
  kP v9 bT v15 fun v16 =>
  some (v16, h6)
def f3.e (I : Inp) (call : CallFn) (j : f3.Js) (v0 : AVal) (h : AHeap) : Rs :=
  kC call 9 [] h fun v4 h1 =>
  kU .not v4 fun v6 =>
  sCond v6 (
  j v0 h1) (
  some (bF, h1))
def f3.J (I : Inp) (call : CallFn) (n : Nat) : f3.Js :=
  Nat.rec (motive := fun _ => f3.Js) Zr.z (fun _ j => f3.b0 I call j) n
theorem f3.n0 : (f3.J I call (n + 1)) = f3.b0 I call (f3.J I call n) := nrfl
def f3.JS (I : Inp) (call : CallFn) (n : Nat) : Jmp := (fun j : f3.Js => jmp [Ap.ap j [0]]) (f3.J I call n)
theorem f3.S : SFn ⟨P, I, F⟩ call c3 (f3.JS I call) := .all 1 (by kernel_rfl) (fun ρ h => by kernel_rfl) (fun n ρ h => by kernel_rfl)
theorem f3.qe : Ap.all (f3.e I call (f3.J I call n)) (fun l h => execC P I call (f3.JS I call n) c3.body 0 (finV I c3.results) (argV l) h) := fun v0 h => by kernel_rfl
theorem f3.code : codeOf P 3 = some c3 := by kernel_rfl
def f3.run (I : Inp) : SF := fun call n => Ap.ar (f3.e I call (f3.J I call n))
theorem f3.ok (I : Inp) (F : Nat → Option AFn) (hF : F 3 = some (.code c3)) : SfOk P I F 3 (f3.run I) := okOf hF (by kernel_rfl) (fun _ => f3.S) fun call n => f3.qe
theorem f3.lim (hp : prims 3 = none) {v0 : AVal} (hr : Res (f3.e I (AM.lim ⟨P, I, genF P prims⟩) (f3.J I (AM.lim ⟨P, I, genF P prims⟩) n) v0 h) Q) : Res ((AM.lim ⟨P, I, genF P prims⟩) 3 [v0] h) Q := limOf (n := n) hp f3.code (f3.ok I) hr rfl
/-! haruspex/haruspexlaw8.begun -/
def c9 : AFunc := cOf P 9
abbrev f9.Js : Type := Unit
def f9.e (I : Inp) (call : CallFn) (j : f9.Js) (h : AHeap) : Rs :=
  bndP (pBuild [(Z 0), (Z 0), (Z 0), (Z 0), (Z 0), .nils] [(0, 1, (Z 1)), (1, 1, (Z 1)), (4, 1, (Z 5))]) fun v4 =>
  bnd (sBuildSlice [(Z 0), (Z 0), (Z 0), (Z 0), (Z 0), .nils] 1 [(0, 6, v4)] h) fun v5 h1 =>
  bndP (pBuild [.nils, (Z 0), (Z 0), (Z 0), (Z 0)] [(0, 1, v5), (1, 1, (Z 3)), (2, 1, (Z 1))]) fun v6 =>
  bnd (sBuildSlice [.nils, (Z 0), (Z 0), (Z 0), (Z 0)] 1 [(0, 5, v6)] h1) fun v7 h2 =>
  bndP (pBuild [(Z 0), .nils, .nils] [(2, 1, v7)]) fun v8 =>
  bnd (sBuildSlice [(Z 0), .nils, .nils] 1 [(0, 3, v8)] h2) fun v9 h3 =>
  bndP (pBuild [.nils, .nils, .nils, .nils, .nils, (Z 0)] [(4, 1, v9)]) fun v10 =>
  bnd (sBox v10 h3) fun v11 h4 =>
  bndP (pBuild [(Z 0), (Z 0), (Z 0), (Z 0), (Z 0), .nils] [(0, 1, (Z 8))]) fun v13 =>
  kC call 22 [v13] h4 fun v14 h5 =>
  kX v14 0 fun v15 =>
  kX v14 1 fun v16 =>
  kC call 13 [v11] h5 fun v18 h6 =>
  kZ v18 fun v19 =>
  kB .eql v19 (Z 2) fun v20 =>
  gV v20 .true v11 h6 fun v22 h7 =>
  gS v20 .true (call 11 [v22] h7) h7 fun v23 h8 =>
  gP v20 .true (pBin .eql v23 (.str [102, 117, 110, 99, 32, 48, 10, 32, 32, 98, 108, 111, 99, 107, 32, 48, 10, 32, 32, 32, 32, 114, 49, 32, 61, 32, 99, 111, 110, 115, 116, 32, 53, 10, 32, 32, 32, 32, 114, 101, 116, 117, 114, 110, 32, 114, 49, 10])) h8 fun v24 h9 =>
  kP v20 v24 bF fun v25 =>
  gV v25 .true v15 h9 fun v27 h10 =>
  gP v25 .true (pBin .eql v27 (Z 0)) h10 fun v28 h11 =>
  kP v25 v28 bF fun v29 =>
  gV v29 .true v16 h11 fun v31 h12 =>
  gP v29 .true (pUn .not v31) h12 fun v32 h13 =>
  kP v29 v32 bF fun v33 =>
  gV v33 .true v11 h13 fun v35 h14 =>
  gS v33 .true (call 19 [v35, (Z 0)] h14) h14 fun v36 h15 =>
  gS v33 .true (sBuildSlice [(Z 0)] 1 [(0, 1, (Z 1))] h15) h15 fun v37 h16 =>
  gS v33 .true (call 24 [v36, v37] h16) h16 fun v38 h17 =>
  kP v33 v38 bF fun v39 =>
  gV v39 .true v11 h17 fun v41 h18 =>
  gP v39 .true (pBuild [(Z 0), (Z 0), (Z 0)] [(2, 1, (Z 1))]) h18 fun v42 h19 =>
  gS v39 .true (call 15 [v41, v42] h19) h19 fun v43 h20 =>
  gP v39 .true (pBin .eql v43 (Z 1)) h20 fun v44 h21 =>
  kP v39 v44 bF fun v45 =>
  some (v45, h21)
theorem f9.S : SFn ⟨P, I, F⟩ call c9 (fun _ => jmp []) := .all 0 (by kernel_rfl) (fun ρ h => by kernel_rfl) (fun n ρ h => by kernel_rfl)
theorem f9.qe : Ap.all (f9.e I call ()) (fun l h => execC P I call (jmp []) c9.body 0 (finV I c9.results) (argV l) h) := fun h => by kernel_rfl
theorem f9.code : codeOf P 9 = some c9 := by kernel_rfl
def f9.run (I : Inp) : SF := fun call n => Ap.ar (f9.e I call ())
theorem f9.ok (I : Inp) (F : Nat → Option AFn) (hF : F 9 = some (.code c9)) : SfOk P I F 9 (f9.run I) := okOf hF (by kernel_rfl) (fun _ => f9.S) fun call n => f9.qe
/-! haruspex/haruspexlaw8.Small -/
def c10 : AFunc := cOf P 10
abbrev f10.Js : Type := (((A1 × A1) × (A3 × A3)) × ((A3 × A3) × (A4 × (A4 × A4))))
def f10.b0 (I : Inp) (call : CallFn) (j : f10.Js) (v0 : AVal) (h : AHeap) : Rs :=
  j.1.2.1 v0 (Z 0) (Z 0) h
def f10.b1 (I : Inp) (call : CallFn) (j : f10.Js) (v3 : AVal) (h : AHeap) : Rs :=
  kB .leq v3 (Z 150) fun v110 =>
  some (v110, h)
def f10.b2 (I : Inp) (call : CallFn) (j : f10.Js) (v0 v3 v4 : AVal) (h : AHeap) : Rs :=
  kN v0 fun v50 =>
  kF 4 v50 fun v51 =>
  kL I v51 h fun v52 =>
  kZ v52 fun v53 =>
  kB .lss v4 v53 fun v54 =>
  sCond v54 (
  j.1.1.2 v3 h) (
  j.1.2.2 v0 v3 v4 h)
def f10.b3 (I : Inp) (call : CallFn) (j : f10.Js) (v0 v3 v4 : AVal) (h : AHeap) : Rs :=
  kN v0 fun v58 =>
  kF 4 v58 fun v59 =>
  kL I v59 h fun v60 =>
  kI 3 v60 v4 fun v62 =>
  kF 2 v62 fun v63 =>
  kL I v63 h fun v64 =>
  kZ v64 fun v65 =>
  kB .gtr v65 (Z 14) fun v66 =>
  gV v66 .false v0 h fun v68 h1 =>
  gP v66 .false (pNilCheck v68) h1 fun v69 h2 =>
  gP v66 .false (pFieldAddr 4 v69) h2 fun v70 h3 =>
  gP v66 .false (pLoad1 I v70 h3) h3 fun v71 h4 =>
  gV v66 .false v4 h4 fun v72 h5 =>
  gP v66 .false (pIndexAddr 3 v71 v72) h5 fun v73 h6 =>
  gP v66 .false (pFieldAddr 1 v73) h6 fun v74 h7 =>
  gP v66 .false (pLoad1 I v74 h7) h7 fun v75 h8 =>
  gP v66 .false (pLenSl v75) h8 fun v76 h9 =>
  gP v66 .false (pBin .gtr v76 (Z 20)) h9 fun v77 h10 =>
  kP v66 bT v77 fun v78 =>
  sCond v78 (
  j.2.1.2 v0 v3 v4 h10) (
  some (bF, h10))
def f10.b4 (I : Inp) (call : CallFn) (j : f10.Js) (v0 v3 v4 : AVal) (h : AHeap) : Rs :=
  kB .add v4 (Z 1) fun v56 =>
  j.1.2.1 v0 v3 v56 h
def f10.b5 (I : Inp) (call : CallFn) (j : f10.Js) (v0 v3 v4 : AVal) (h : AHeap) : Rs :=
  j.2.2.1 v0 v3 v4 (Z 0) h
def f10.b6 (I : Inp) (call : CallFn) (j : f10.Js) (v0 v3 v4 v5 : AVal) (h : AHeap) : Rs :=
  kN v0 fun v81 =>
  kF 4 v81 fun v82 =>
  kL I v82 h fun v83 =>
  kI 3 v83 v4 fun v85 =>
  kF 2 v85 fun v86 =>
  kL I v86 h fun v87 =>
  kZ v87 fun v88 =>
  kB .lss v5 v88 fun v89 =>
  sCond v89 (
  j.2.1.1 v0 v3 v4 h) (
  j.2.2.2.1 v0 v3 v4 v5 h)
def f10.b7 (I : Inp) (call : CallFn) (j : f10.Js) (v0 v3 v4 v5 : AVal) (h : AHeap) : Rs :=
  kN v0 fun v94 =>
  kF 4 v94 fun v95 =>
  kL I v95 h fun v96 =>
  kI 3 v96 v4 fun v98 =>
  kF 2 v98 fun v99 =>
  kL I v99 h fun v100 =>
  kI 5 v100 v5 fun v102 =>
  kF 0 v102 fun v103 =>
  kL I v103 h fun v104 =>
  kZ v104 fun v105 =>
  bndP (pMinmax .false [(Z 1000), v105]) fun v106 =>
  kB .add (Z 1) v106 fun v107 =>
  kB .add v3 v107 fun v108 =>
  j.2.2.2.2 v0 v108 v4 v5 h
def f10.b8 (I : Inp) (call : CallFn) (j : f10.Js) (v0 v3 v4 v5 : AVal) (h : AHeap) : Rs :=
  kB .add v5 (Z 1) fun v91 =>
  j.2.2.1 v0 v3 v4 v91 h
def f10.e (I : Inp) (call : CallFn) (j : f10.Js) (v0 : AVal) (h : AHeap) : Rs :=
  bndP (pEq P .false .ptr .true v0 .nilp h) fun v7 =>
  gV v7 .false v0 h fun v9 h1 =>
  gP v7 .false (pNilCheck v9) h1 fun v10 h2 =>
  gP v7 .false (pFieldAddr 4 v10) h2 fun v11 h3 =>
  gP v7 .false (pLoad1 I v11 h3) h3 fun v12 h4 =>
  gP v7 .false (pLenSl v12) h4 fun v13 h5 =>
  gP v7 .false (pBin .gtr v13 (Z 12)) h5 fun v14 h6 =>
  kP v7 bT v14 fun v15 =>
  gV v15 .false v0 h6 fun v17 h7 =>
  gP v15 .false (pNilCheck v17) h7 fun v18 h8 =>
  gP v15 .false (pFieldAddr 0 v18) h8 fun v19 h9 =>
  gP v15 .false (pLoad1 I v19 h9) h9 fun v20 h10 =>
  gP v15 .false (pLenSl v20) h10 fun v21 h11 =>
  gP v15 .false (pBin .gtr v21 (Z 12)) h11 fun v22 h12 =>
  kP v15 bT v22 fun v23 =>
  gV v23 .false v0 h12 fun v25 h13 =>
  gP v23 .false (pNilCheck v25) h13 fun v26 h14 =>
  gP v23 .false (pFieldAddr 1 v26) h14 fun v27 h15 =>
  gP v23 .false (pLoad1 I v27 h15) h15 fun v28 h16 =>
  gP v23 .false (pLenSl v28) h16 fun v29 h17 =>
  gP v23 .false (pBin .gtr v29 (Z 12)) h17 fun v30 h18 =>
  kP v23 bT v30 fun v31 =>
  gV v31 .false v0 h18 fun v33 h19 =>
  gP v31 .false (pNilCheck v33) h19 fun v34 h20 =>
  gP v31 .false (pFieldAddr 2 v34) h20 fun v35 h21 =>
  gP v31 .false (pLoad1 I v35 h21) h21 fun v36 h22 =>
  gP v31 .false (pLenSl v36) h22 fun v37 h23 =>
  gP v31 .false (pBin .gtr v37 (Z 12)) h23 fun v38 h24 =>
  kP v31 bT v38 fun v39 =>
  gV v39 .false v0 h24 fun v41 h25 =>
  gP v39 .false (pNilCheck v41) h25 fun v42 h26 =>
  gP v39 .false (pFieldAddr 3 v42) h26 fun v43 h27 =>
  gP v39 .false (pLoad1 I v43 h27) h27 fun v44 h28 =>
  gP v39 .false (pLenSl v44) h28 fun v45 h29 =>
  gP v39 .false (pBin .gtr v45 (Z 14)) h29 fun v46 h30 =>
  kP v39 bT v46 fun v47 =>
  sCond v47 (
  j.1.1.1 v0 h30) (
  some (bF, h30))
def f10.J (I : Inp) (call : CallFn) (n : Nat) : f10.Js :=
  Nat.rec (motive := fun _ => f10.Js) (((Zr.z, Zr.z), (Zr.z, Zr.z)), ((Zr.z, Zr.z), (Zr.z, (Zr.z, Zr.z)))) (fun _ j => (((f10.b0 I call j, f10.b1 I call j), (f10.b2 I call j, f10.b3 I call j)), ((f10.b4 I call j, f10.b5 I call j), (f10.b6 I call j, (f10.b7 I call j, f10.b8 I call j))))) n
theorem f10.n0 : (f10.J I call (n + 1)).1.1.1 = f10.b0 I call (f10.J I call n) := nrfl
theorem f10.n1 : (f10.J I call (n + 1)).1.1.2 = f10.b1 I call (f10.J I call n) := nrfl
theorem f10.n2 : (f10.J I call (n + 1)).1.2.1 = f10.b2 I call (f10.J I call n) := nrfl
theorem f10.n3 : (f10.J I call (n + 1)).1.2.2 = f10.b3 I call (f10.J I call n) := nrfl
theorem f10.n4 : (f10.J I call (n + 1)).2.1.1 = f10.b4 I call (f10.J I call n) := nrfl
theorem f10.n5 : (f10.J I call (n + 1)).2.1.2 = f10.b5 I call (f10.J I call n) := nrfl
theorem f10.n6 : (f10.J I call (n + 1)).2.2.1 = f10.b6 I call (f10.J I call n) := nrfl
theorem f10.n7 : (f10.J I call (n + 1)).2.2.2.1 = f10.b7 I call (f10.J I call n) := nrfl
theorem f10.n8 : (f10.J I call (n + 1)).2.2.2.2 = f10.b8 I call (f10.J I call n) := nrfl
def f10.JS (I : Inp) (call : CallFn) (n : Nat) : Jmp := (fun j : f10.Js => jmp [Ap.ap j.1.1.1 [0], Ap.ap j.1.1.2 [3], Ap.ap j.1.2.1 [0, 3, 4], Ap.ap j.1.2.2 [0, 3, 4], Ap.ap j.2.1.1 [0, 3, 4], Ap.ap j.2.1.2 [0, 3, 4], Ap.ap j.2.2.1 [0, 3, 4, 5], Ap.ap j.2.2.2.1 [0, 3, 4, 5], Ap.ap j.2.2.2.2 [0, 3, 4, 5]]) (f10.J I call n)
theorem f10.S : SFn ⟨P, I, F⟩ call c10 (f10.JS I call) := .all 9 (by kernel_rfl) (fun ρ h => by kernel_rfl) (fun n ρ h => by kernel_rfl)
theorem f10.qe : Ap.all (f10.e I call (f10.J I call n)) (fun l h => execC P I call (f10.JS I call n) c10.body 0 (finV I c10.results) (argV l) h) := fun v0 h => by kernel_rfl
theorem f10.code : codeOf P 10 = some c10 := by kernel_rfl
def f10.run (I : Inp) : SF := fun call n => Ap.ar (f10.e I call (f10.J I call n))
theorem f10.ok (I : Inp) (F : Nat → Option AFn) (hF : F 10 = some (.code c10)) : SfOk P I F 10 (f10.run I) := okOf hF (by kernel_rfl) (fun _ => f10.S) fun call n => f10.qe
theorem f10.lim (hp : prims 10 = none) {v0 : AVal} (hr : Res (f10.e I (AM.lim ⟨P, I, genF P prims⟩) (f10.J I (AM.lim ⟨P, I, genF P prims⟩) n) v0 h) Q) : Res ((AM.lim ⟨P, I, genF P prims⟩) 10 [v0] h) Q := limOf (n := n) hp f10.code (f10.ok I) hr rfl
/-! haruspex/ir.Print -/
def c11 : AFunc := cOf P 11
abbrev f11.Js : Type := ((((A1 × A1) × (A4 × A4)) × ((A4 × A7) × (A7 × A7))) × (((A8 × (AVal → AVal → A9)) × ((AVal → AVal → A9) × (AVal → AVal → A9))) × ((A1 × A4) × (A4 × A4))))
def f11.b0 (I : Inp) (call : CallFn) (j : f11.Js) (v0 : AVal) (h : AHeap) : Rs :=
  kN v0 fun v16 =>
  kF 4 v16 fun v17 =>
  kL I v17 h fun v18 =>
  kZ v18 fun v19 =>
  j.1.1.2.1 .nils v18 v19 (Z 0) h
def f11.b1 (I : Inp) (call : CallFn) (j : f11.Js) (v3 : AVal) (h : AHeap) : Rs :=
  kZ v3 fun v68 =>
  j.2.2.1.2 (.str []) v3 v68 (Z 0) h
def f11.b2 (I : Inp) (call : CallFn) (j : f11.Js) (v3 v18 v19 v20 : AVal) (h : AHeap) : Rs :=
  kB .lss v20 v19 fun v21 =>
  sCond v21 (
  j.1.1.1.2 v3 h) (
  j.1.1.2.2 v3 v18 v19 v20 h)
def f11.b3 (I : Inp) (call : CallFn) (j : f11.Js) (v3 v18 v19 v20 : AVal) (h : AHeap) : Rs :=
  kI 3 v18 v20 fun v23 =>
  kM I 3 v23 h fun v24 =>
  kA [(Z 0), .nils, .nils] h fun v5 h1 =>
  kS 3 v5 v24 h1 fun _ h2 =>
  kC call 28 [v20] h2 fun v27 h3 =>
  kB .add (.str [102, 117, 110, 99, 32]) v27 fun v28 =>
  bnd (sBuildSlice [(.str [])] 1 [(0, 1, v28)] h3) fun v29 h4 =>
  bnd (sAppend I 1 16 v3 v29 h4) fun v30 h5 =>
  kF 2 v5 fun v31 =>
  kL I v31 h5 fun v32 =>
  kZ v32 fun v33 =>
  j.1.2.1.2 v30 v18 v19 v20 v32 v33 (Z 0) h5
def f11.b4 (I : Inp) (call : CallFn) (j : f11.Js) (v3 v18 v19 v20 : AVal) (h : AHeap) : Rs :=
  kB .add v20 (Z 1) fun v66 =>
  j.1.1.2.1 v3 v18 v19 v66 h
def f11.b5 (I : Inp) (call : CallFn) (j : f11.Js) (v3 v18 v19 v20 v32 v33 v34 : AVal) (h : AHeap) : Rs :=
  kB .lss v34 v33 fun v35 =>
  sCond v35 (
  j.1.2.1.1 v3 v18 v19 v20 h) (
  j.1.2.2.1 v3 v18 v19 v20 v32 v33 v34 h)
def f11.b6 (I : Inp) (call : CallFn) (j : f11.Js) (v3 v18 v19 v20 v32 v33 v34 : AVal) (h : AHeap) : Rs :=
  kI 5 v32 v34 fun v37 =>
  kM I 5 v37 h fun v38 =>
  kA [.nils, (Z 0), (Z 0), (Z 0), (Z 0)] h fun v7 h1 =>
  kS 5 v7 v38 h1 fun _ h2 =>
  kC call 28 [v34] h2 fun v41 h3 =>
  kB .add (.str [32, 32, 98, 108, 111, 99, 107, 32]) v41 fun v42 =>
  bnd (sBuildSlice [(.str [])] 1 [(0, 1, v42)] h3) fun v43 h4 =>
  bnd (sAppend I 1 16 v3 v43 h4) fun v44 h5 =>
  kF 0 v7 fun v45 =>
  kL I v45 h5 fun v46 =>
  kZ v46 fun v47 =>
  j.2.1.1.2 v44 v7 v18 v19 v20 v32 v33 v34 v46 v47 (Z 0) h5
def f11.b7 (I : Inp) (call : CallFn) (j : f11.Js) (v3 v18 v19 v20 v32 v33 v34 : AVal) (h : AHeap) : Rs :=
  kB .add v34 (Z 1) fun v65 =>
  j.1.2.1.2 v3 v18 v19 v20 v32 v33 v65 h
def f11.b8 (I : Inp) (call : CallFn) (j : f11.Js) (v3 v7 v18 v19 v20 v32 v33 v34 : AVal) (h : AHeap) : Rs :=
  kM I 5 v7 h fun v60 =>
  kC call 29 [v60] h fun v61 h1 =>
  kB .add (.str [32, 32, 32, 32]) v61 fun v62 =>
  bnd (sBuildSlice [(.str [])] 1 [(0, 1, v62)] h1) fun v63 h2 =>
  bnd (sAppend I 1 16 v3 v63 h2) fun v64 h3 =>
  j.1.2.2.2 v64 v18 v19 v20 v32 v33 v34 h3
def f11.b9 (I : Inp) (call : CallFn) (j : f11.Js) (v3 v7 v18 v19 v20 v32 v33 v34 v46 v47 v48 : AVal) (h : AHeap) : Rs :=
  kB .lss v48 v47 fun v49 =>
  sCond v49 (
  j.2.1.1.1 v3 v7 v18 v19 v20 v32 v33 v34 h) (
  j.2.1.2.1 v3 v7 v18 v19 v20 v32 v33 v34 v46 v47 v48 h)
def f11.b10 (I : Inp) (call : CallFn) (j : f11.Js) (v3 v7 v18 v19 v20 v32 v33 v34 v46 v47 v48 : AVal) (h : AHeap) : Rs :=
  kI 6 v46 v48 fun v50 =>
  kM I 6 v50 h fun v51 =>
  kA [(Z 0), (Z 0), (Z 0), (Z 0), (Z 0), .nils] h fun v9 h1 =>
  kS 6 v9 v51 h1 fun _ h2 =>
  kM I 6 v9 h2 fun v53 =>
  kC call 20 [v53] h2 fun v54 h3 =>
  kB .add (.str [32, 32, 32, 32]) v54 fun v55 =>
  bnd (sBuildSlice [(.str [])] 1 [(0, 1, v55)] h3) fun v56 h4 =>
  bnd (sAppend I 1 16 v3 v56 h4) fun v57 h5 =>
  j.2.1.2.2 v57 v7 v18 v19 v20 v32 v33 v34 v46 v47 v48 h5
def f11.b11 (I : Inp) (call : CallFn) (j : f11.Js) (v3 v7 v18 v19 v20 v32 v33 v34 v46 v47 v48 : AVal) (h : AHeap) : Rs :=
  kB .add v48 (Z 1) fun v58 =>
  j.2.1.1.2 v3 v7 v18 v19 v20 v32 v33 v34 v46 v47 v58 h
def f11.b12 (I : Inp) (call : CallFn) (j : f11.Js) (v10 : AVal) (h : AHeap) : Rs :=
  some (v10, h)
def f11.b13 (I : Inp) (call : CallFn) (j : f11.Js) (v10 v67 v68 v69 : AVal) (h : AHeap) : Rs :=
  kB .lss v69 v68 fun v70 =>
  sCond v70 (
  j.2.2.1.1 v10 h) (
  j.2.2.2.1 v10 v67 v68 v69 h)
def f11.b14 (I : Inp) (call : CallFn) (j : f11.Js) (v10 v67 v68 v69 : AVal) (h : AHeap) : Rs :=
  kI 1 v67 v69 fun v71 =>
  kL I v71 h fun v72 =>
  kB .add v72 (.str [10]) fun v75 =>
  kB .add v10 v75 fun v76 =>
  j.2.2.2.2 v76 v67 v68 v69 h
def f11.b15 (I : Inp) (call : CallFn) (j : f11.Js) (v10 v67 v68 v69 : AVal) (h : AHeap) : Rs :=
  kB .add v69 (Z 1) fun v77 =>
  j.2.2.1.2 v10 v67 v68 v77 h
def f11.e (I : Inp) (call : CallFn) (j : f11.Js) (v0 : AVal) (h : AHeap) : Rs :=
  bndP (pEq P .false .ptr .true v0 .nilp h) fun v14 =>
  sCond v14 (
  j.1.1.1.1 v0 h) (
  some ((.str []), h))
def f11.J (I : Inp) (call : CallFn) (n : Nat) : f11.Js :=
  Nat.rec (motive := fun _ => f11.Js) ((((Zr.z, Zr.z), (Zr.z, Zr.z)), ((Zr.z, Zr.z), (Zr.z, Zr.z))), (((Zr.z, Zr.z), (Zr.z, Zr.z)), ((Zr.z, Zr.z), (Zr.z, Zr.z)))) (fun _ j => ((((f11.b0 I call j, f11.b1 I call j), (f11.b2 I call j, f11.b3 I call j)), ((f11.b4 I call j, f11.b5 I call j), (f11.b6 I call j, f11.b7 I call j))), (((f11.b8 I call j, f11.b9 I call j), (f11.b10 I call j, f11.b11 I call j)), ((f11.b12 I call j, f11.b13 I call j), (f11.b14 I call j, f11.b15 I call j))))) n
theorem f11.n0 : (f11.J I call (n + 1)).1.1.1.1 = f11.b0 I call (f11.J I call n) := nrfl
theorem f11.n1 : (f11.J I call (n + 1)).1.1.1.2 = f11.b1 I call (f11.J I call n) := nrfl
theorem f11.n2 : (f11.J I call (n + 1)).1.1.2.1 = f11.b2 I call (f11.J I call n) := nrfl
theorem f11.n3 : (f11.J I call (n + 1)).1.1.2.2 = f11.b3 I call (f11.J I call n) := nrfl
theorem f11.n4 : (f11.J I call (n + 1)).1.2.1.1 = f11.b4 I call (f11.J I call n) := nrfl
theorem f11.n5 : (f11.J I call (n + 1)).1.2.1.2 = f11.b5 I call (f11.J I call n) := nrfl
theorem f11.n6 : (f11.J I call (n + 1)).1.2.2.1 = f11.b6 I call (f11.J I call n) := nrfl
theorem f11.n7 : (f11.J I call (n + 1)).1.2.2.2 = f11.b7 I call (f11.J I call n) := nrfl
theorem f11.n8 : (f11.J I call (n + 1)).2.1.1.1 = f11.b8 I call (f11.J I call n) := nrfl
theorem f11.n9 : (f11.J I call (n + 1)).2.1.1.2 = f11.b9 I call (f11.J I call n) := nrfl
theorem f11.n10 : (f11.J I call (n + 1)).2.1.2.1 = f11.b10 I call (f11.J I call n) := nrfl
theorem f11.n11 : (f11.J I call (n + 1)).2.1.2.2 = f11.b11 I call (f11.J I call n) := nrfl
theorem f11.n12 : (f11.J I call (n + 1)).2.2.1.1 = f11.b12 I call (f11.J I call n) := nrfl
theorem f11.n13 : (f11.J I call (n + 1)).2.2.1.2 = f11.b13 I call (f11.J I call n) := nrfl
theorem f11.n14 : (f11.J I call (n + 1)).2.2.2.1 = f11.b14 I call (f11.J I call n) := nrfl
theorem f11.n15 : (f11.J I call (n + 1)).2.2.2.2 = f11.b15 I call (f11.J I call n) := nrfl
def f11.JS (I : Inp) (call : CallFn) (n : Nat) : Jmp := (fun j : f11.Js => jmp [Ap.ap j.1.1.1.1 [0], Ap.ap j.1.1.1.2 [3], Ap.ap j.1.1.2.1 [3, 18, 19, 20], Ap.ap j.1.1.2.2 [3, 18, 19, 20], Ap.ap j.1.2.1.1 [3, 18, 19, 20], Ap.ap j.1.2.1.2 [3, 18, 19, 20, 32, 33, 34], Ap.ap j.1.2.2.1 [3, 18, 19, 20, 32, 33, 34], Ap.ap j.1.2.2.2 [3, 18, 19, 20, 32, 33, 34], Ap.ap j.2.1.1.1 [3, 7, 18, 19, 20, 32, 33, 34], Ap.ap j.2.1.1.2 [3, 7, 18, 19, 20, 32, 33, 34, 46, 47, 48], Ap.ap j.2.1.2.1 [3, 7, 18, 19, 20, 32, 33, 34, 46, 47, 48], Ap.ap j.2.1.2.2 [3, 7, 18, 19, 20, 32, 33, 34, 46, 47, 48], Ap.ap j.2.2.1.1 [10], Ap.ap j.2.2.1.2 [10, 67, 68, 69], Ap.ap j.2.2.2.1 [10, 67, 68, 69], Ap.ap j.2.2.2.2 [10, 67, 68, 69]]) (f11.J I call n)
theorem f11.S : SFn ⟨P, I, F⟩ call c11 (f11.JS I call) := .all 16 (by kernel_rfl) (fun ρ h => by kernel_rfl) (fun n ρ h => by kernel_rfl)
theorem f11.qe : Ap.all (f11.e I call (f11.J I call n)) (fun l h => execC P I call (f11.JS I call n) c11.body 0 (finV I c11.results) (argV l) h) := fun v0 h => by kernel_rfl
theorem f11.code : codeOf P 11 = some c11 := by kernel_rfl
def f11.run (I : Inp) : SF := fun call n => Ap.ar (f11.e I call (f11.J I call n))
theorem f11.ok (I : Inp) (F : Nat → Option AFn) (hF : F 11 = some (.code c11)) : SfOk P I F 11 (f11.run I) := okOf hF (by kernel_rfl) (fun _ => f11.S) fun call n => f11.qe
theorem f11.lim (hp : prims 11 = none) {v0 : AVal} (hr : Res (f11.e I (AM.lim ⟨P, I, genF P prims⟩) (f11.J I (AM.lim ⟨P, I, genF P prims⟩) n) v0 h) Q) : Res ((AM.lim ⟨P, I, genF P prims⟩) 11 [v0] h) Q := limOf (n := n) hp f11.code (f11.ok I) hr rfl
/-! haruspex/haruspexref8.Print -/
def c12 : AFunc := cOf P 12
abbrev f12.Js : Type := (((A1 × A3) × (A3 × (A3 × A4))) × ((A4 × (A4 × A5)) × (A6 × (A6 × A6))))
def f12.b0 (I : Inp) (call : CallFn) (j : f12.Js) (v3 : AVal) (h : AHeap) : Rs :=
  some (v3, h)
def f12.b1 (I : Inp) (call : CallFn) (j : f12.Js) (v0 v3 v4 : AVal) (h : AHeap) : Rs :=
  kN v0 fun v10 =>
  kF 4 v10 fun v11 =>
  kL I v11 h fun v12 =>
  kZ v12 fun v13 =>
  kB .lss v4 v13 fun v14 =>
  sCond v14 (
  j.1.1.1 v3 h) (
  j.1.2.1 v0 v3 v4 h)
def f12.b2 (I : Inp) (call : CallFn) (j : f12.Js) (v0 v3 v4 : AVal) (h : AHeap) : Rs :=
  kC call 30 [v4] h fun v19 h1 =>
  kB .add (.str [102, 117, 110, 99, 32]) v19 fun v20 =>
  kB .add v20 (.str [10]) fun v21 =>
  kB .add v3 v21 fun v22 =>
  j.1.2.2.2 v0 v22 v4 (Z 0) h1
def f12.b3 (I : Inp) (call : CallFn) (j : f12.Js) (v0 v3 v4 : AVal) (h : AHeap) : Rs :=
  kB .add v4 (Z 1) fun v16 =>
  j.1.1.2 v0 v3 v16 h
def f12.b4 (I : Inp) (call : CallFn) (j : f12.Js) (v0 v3 v4 v5 : AVal) (h : AHeap) : Rs :=
  kN v0 fun v25 =>
  kF 4 v25 fun v26 =>
  kL I v26 h fun v27 =>
  kI 3 v27 v4 fun v29 =>
  kF 2 v29 fun v30 =>
  kL I v30 h fun v31 =>
  kZ v31 fun v32 =>
  kB .lss v5 v32 fun v33 =>
  sCond v33 (
  j.1.2.2.1 v0 v3 v4 h) (
  j.2.1.1 v0 v3 v4 v5 h)
def f12.b5 (I : Inp) (call : CallFn) (j : f12.Js) (v0 v3 v4 v5 : AVal) (h : AHeap) : Rs :=
  kN v0 fun v37 =>
  kF 4 v37 fun v38 =>
  kL I v38 h fun v39 =>
  kI 3 v39 v4 fun v41 =>
  kF 2 v41 fun v42 =>
  kL I v42 h fun v43 =>
  kI 5 v43 v5 fun v45 =>
  kM I 5 v45 h fun v46 =>
  kA [.nils, (Z 0), (Z 0), (Z 0), (Z 0)] h fun v6 h1 =>
  kS 5 v6 v46 h1 fun _ h2 =>
  kC call 30 [v5] h2 fun v49 h3 =>
  kB .add (.str [32, 32, 98, 108, 111, 99, 107, 32]) v49 fun v50 =>
  kB .add v50 (.str [10]) fun v51 =>
  kB .add v3 v51 fun v52 =>
  j.2.2.1 v0 v52 v4 v5 v6 (Z 0) h3
def f12.b6 (I : Inp) (call : CallFn) (j : f12.Js) (v0 v3 v4 v5 : AVal) (h : AHeap) : Rs :=
  kB .add v5 (Z 1) fun v35 =>
  j.1.2.2.2 v0 v3 v4 v35 h
def f12.b7 (I : Inp) (call : CallFn) (j : f12.Js) (v0 v3 v4 v5 v6 : AVal) (h : AHeap) : Rs :=
  kF 1 v6 fun v70 =>
  kL I v70 h fun v71 =>
  kB .eql v71 (Z 1) fun v75 =>
  sCond v75 (
  kB .eql v71 (Z 2) fun v84 =>
  sCond v84 (
  kB .eql v71 (Z 3) fun v103 =>
  sCond v103 (
  kB .add v3 (.str [32, 32, 32, 32, 63, 10]) fun v73 =>
  j.2.1.2.1 v0 v73 v4 v5 h) (
  kF 2 v6 fun v105 =>
  kL I v105 h fun v106 =>
  kC call 31 [v106] h fun v107 h1 =>
  kB .add (.str [32, 32, 32, 32, 114, 101, 116, 117, 114, 110, 32]) v107 fun v108 =>
  kB .add v108 (.str [10]) fun v109 =>
  kB .add v3 v109 fun v110 =>
  j.2.1.2.1 v0 v110 v4 v5 h1)) (
  kF 2 v6 fun v86 =>
  kL I v86 h fun v87 =>
  kC call 31 [v87] h fun v88 h2 =>
  kB .add (.str [32, 32, 32, 32, 98, 114, 97, 110, 99, 104, 32]) v88 fun v89 =>
  kB .add v89 (.str [32]) fun v90 =>
  kF 3 v6 fun v91 =>
  kL I v91 h2 fun v92 =>
  kC call 30 [v92] h2 fun v93 h3 =>
  kB .add v90 v93 fun v94 =>
  kB .add v94 (.str [32]) fun v95 =>
  kF 4 v6 fun v96 =>
  kL I v96 h3 fun v97 =>
  kC call 30 [v97] h3 fun v98 h4 =>
  kB .add v95 v98 fun v99 =>
  kB .add v99 (.str [10]) fun v100 =>
  kB .add v3 v100 fun v101 =>
  sCheck (sSame (lift (pLoad1 I v91 h) h) v92 && true) (
  sCheck (sSame (lift (pLoad1 I v96 h) h) v97 && (sSame (lift (pLoad1 I v96 h2) h2) v97 && true)) (
  j.2.1.2.1 v0 v101 v4 v5 h4)))) (
  kF 3 v6 fun v77 =>
  kL I v77 h fun v78 =>
  kC call 30 [v78] h fun v79 h5 =>
  kB .add (.str [32, 32, 32, 32, 106, 117, 109, 112, 32]) v79 fun v80 =>
  kB .add v80 (.str [10]) fun v81 =>
  kB .add v3 v81 fun v82 =>
  j.2.1.2.1 v0 v82 v4 v5 h5)
def f12.b8 (I : Inp) (call : CallFn) (j : f12.Js) (v0 v3 v4 v5 v6 v7 : AVal) (h : AHeap) : Rs :=
  kF 0 v6 fun v54 =>
  kL I v54 h fun v55 =>
  kZ v55 fun v56 =>
  kB .lss v7 v56 fun v57 =>
  sCond v57 (
  j.2.1.2.2 v0 v3 v4 v5 v6 h) (
  j.2.2.2.1 v0 v3 v4 v5 v6 v7 h)
def f12.b9 (I : Inp) (call : CallFn) (j : f12.Js) (v0 v3 v4 v5 v6 v7 : AVal) (h : AHeap) : Rs :=
  kF 0 v6 fun v61 =>
  kL I v61 h fun v62 =>
  kI 6 v62 v7 fun v64 =>
  kM I 6 v64 h fun v65 =>
  kC call 27 [v65] h fun v66 h1 =>
  kB .add (.str [32, 32, 32, 32]) v66 fun v67 =>
  kB .add v67 (.str [10]) fun v68 =>
  kB .add v3 v68 fun v69 =>
  j.2.2.2.2 v0 v69 v4 v5 v6 v7 h1
def f12.b10 (I : Inp) (call : CallFn) (j : f12.Js) (v0 v3 v4 v5 v6 v7 : AVal) (h : AHeap) : Rs :=
  kB .add v7 (Z 1) fun v59 =>
  j.2.2.1 v0 v3 v4 v5 v6 v59 h
def f12.e (I : Inp) (call : CallFn) (j : f12.Js) (v0 : AVal) (h : AHeap) : Rs :=
  j.1.1.2 v0 (.str []) (Z 0) h
def f12.J (I : Inp) (call : CallFn) (n : Nat) : f12.Js :=
  Nat.rec (motive := fun _ => f12.Js) (((Zr.z, Zr.z), (Zr.z, (Zr.z, Zr.z))), ((Zr.z, (Zr.z, Zr.z)), (Zr.z, (Zr.z, Zr.z)))) (fun _ j => (((f12.b0 I call j, f12.b1 I call j), (f12.b2 I call j, (f12.b3 I call j, f12.b4 I call j))), ((f12.b5 I call j, (f12.b6 I call j, f12.b7 I call j)), (f12.b8 I call j, (f12.b9 I call j, f12.b10 I call j))))) n
theorem f12.n0 : (f12.J I call (n + 1)).1.1.1 = f12.b0 I call (f12.J I call n) := nrfl
theorem f12.n1 : (f12.J I call (n + 1)).1.1.2 = f12.b1 I call (f12.J I call n) := nrfl
theorem f12.n2 : (f12.J I call (n + 1)).1.2.1 = f12.b2 I call (f12.J I call n) := nrfl
theorem f12.n3 : (f12.J I call (n + 1)).1.2.2.1 = f12.b3 I call (f12.J I call n) := nrfl
theorem f12.n4 : (f12.J I call (n + 1)).1.2.2.2 = f12.b4 I call (f12.J I call n) := nrfl
theorem f12.n5 : (f12.J I call (n + 1)).2.1.1 = f12.b5 I call (f12.J I call n) := nrfl
theorem f12.n6 : (f12.J I call (n + 1)).2.1.2.1 = f12.b6 I call (f12.J I call n) := nrfl
theorem f12.n7 : (f12.J I call (n + 1)).2.1.2.2 = f12.b7 I call (f12.J I call n) := nrfl
theorem f12.n8 : (f12.J I call (n + 1)).2.2.1 = f12.b8 I call (f12.J I call n) := nrfl
theorem f12.n9 : (f12.J I call (n + 1)).2.2.2.1 = f12.b9 I call (f12.J I call n) := nrfl
theorem f12.n10 : (f12.J I call (n + 1)).2.2.2.2 = f12.b10 I call (f12.J I call n) := nrfl
def f12.JS (I : Inp) (call : CallFn) (n : Nat) : Jmp := (fun j : f12.Js => jmp [Ap.ap j.1.1.1 [3], Ap.ap j.1.1.2 [0, 3, 4], Ap.ap j.1.2.1 [0, 3, 4], Ap.ap j.1.2.2.1 [0, 3, 4], Ap.ap j.1.2.2.2 [0, 3, 4, 5], Ap.ap j.2.1.1 [0, 3, 4, 5], Ap.ap j.2.1.2.1 [0, 3, 4, 5], Ap.ap j.2.1.2.2 [0, 3, 4, 5, 6], Ap.ap j.2.2.1 [0, 3, 4, 5, 6, 7], Ap.ap j.2.2.2.1 [0, 3, 4, 5, 6, 7], Ap.ap j.2.2.2.2 [0, 3, 4, 5, 6, 7]]) (f12.J I call n)
theorem f12.S : SFn ⟨P, I, F⟩ call c12 (f12.JS I call) := .all 11 (by kernel_rfl) (fun ρ h => by kernel_rfl) (fun n ρ h => by kernel_rfl)
theorem f12.qe : Ap.all (f12.e I call (f12.J I call n)) (fun l h => execC P I call (f12.JS I call n) c12.body 0 (finV I c12.results) (argV l) h) := fun v0 h => by kernel_rfl
theorem f12.code : codeOf P 12 = some c12 := by kernel_rfl
def f12.run (I : Inp) : SF := fun call n => Ap.ar (f12.e I call (f12.J I call n))
theorem f12.ok (I : Inp) (F : Nat → Option AFn) (hF : F 12 = some (.code c12)) : SfOk P I F 12 (f12.run I) := okOf hF (by kernel_rfl) (fun _ => f12.S) fun call n => f12.qe
theorem f12.lim (hp : prims 12 = none) {v0 : AVal} (hr : Res (f12.e I (AM.lim ⟨P, I, genF P prims⟩) (f12.J I (AM.lim ⟨P, I, genF P prims⟩) n) v0 h) Q) : Res ((AM.lim ⟨P, I, genF P prims⟩) 12 [v0] h) Q := limOf (n := n) hp f12.code (f12.ok I) hr rfl
/-! haruspex/ir.Points -/
def c13 : AFunc := cOf P 13
abbrev f13.Js : Type := (((A1 × A1) × (A4 × (A4 × A4))) × ((A7 × (A7 × A7)) × ((AVal → A9) × ((AVal → A9) × (AVal → A9)))))
def f13.b0 (I : Inp) (call : CallFn) (j : f13.Js) (v0 : AVal) (h : AHeap) : Rs :=
  kN v0 fun v10 =>
  kF 4 v10 fun v11 =>
  kL I v11 h fun v12 =>
  kZ v12 fun v13 =>
  j.1.2.1 v0 .nils v13 (Z 0) h
def f13.b1 (I : Inp) (call : CallFn) (j : f13.Js) (v3 : AVal) (h : AHeap) : Rs :=
  some (v3, h)
def f13.b2 (I : Inp) (call : CallFn) (j : f13.Js) (v0 v3 v13 v14 : AVal) (h : AHeap) : Rs :=
  kB .lss v14 v13 fun v15 =>
  sCond v15 (
  j.1.1.2 v3 h) (
  j.1.2.2.1 v0 v3 v13 v14 h)
def f13.b3 (I : Inp) (call : CallFn) (j : f13.Js) (v0 v3 v13 v14 : AVal) (h : AHeap) : Rs :=
  kN v0 fun v18 =>
  kF 4 v18 fun v19 =>
  kL I v19 h fun v20 =>
  kI 3 v20 v14 fun v22 =>
  kF 2 v22 fun v23 =>
  kL I v23 h fun v24 =>
  kZ v24 fun v25 =>
  j.2.1.1 v0 v3 v14 v13 v14 v25 (Z 0) h
def f13.b4 (I : Inp) (call : CallFn) (j : f13.Js) (v0 v3 v13 v14 : AVal) (h : AHeap) : Rs :=
  kB .add v14 (Z 1) fun v55 =>
  j.1.2.1 v0 v3 v13 v55 h
def f13.b5 (I : Inp) (call : CallFn) (j : f13.Js) (v0 v3 v4 v13 v14 v25 v26 : AVal) (h : AHeap) : Rs :=
  kB .lss v26 v25 fun v27 =>
  sCond v27 (
  j.1.2.2.2 v0 v3 v13 v14 h) (
  j.2.1.2.1 v0 v3 v4 v13 v14 v25 v26 h)
def f13.b6 (I : Inp) (call : CallFn) (j : f13.Js) (v0 v3 v4 v13 v14 v25 v26 : AVal) (h : AHeap) : Rs :=
  kN v0 fun v30 =>
  kF 4 v30 fun v31 =>
  kL I v31 h fun v32 =>
  kI 3 v32 v4 fun v34 =>
  kF 2 v34 fun v35 =>
  kL I v35 h fun v36 =>
  kI 5 v36 v26 fun v38 =>
  kF 0 v38 fun v39 =>
  kL I v39 h fun v40 =>
  kZ v40 fun v41 =>
  kB .add v41 (Z 1) fun v42 =>
  j.2.2.1 v0 v3 v4 v26 v13 v14 v25 v26 v42 (Z 0) h
def f13.b7 (I : Inp) (call : CallFn) (j : f13.Js) (v0 v3 v4 v13 v14 v25 v26 : AVal) (h : AHeap) : Rs :=
  kB .add v26 (Z 1) fun v54 =>
  j.2.1.1 v0 v3 v4 v13 v14 v25 v54 h
def f13.b8 (I : Inp) (call : CallFn) (j : f13.Js) (v0 v3 v4 v5 v13 v14 v25 v26 v42 v43 : AVal) (h : AHeap) : Rs :=
  kB .lss v43 v42 fun v44 =>
  sCond v44 (
  j.2.1.2.2 v0 v3 v4 v13 v14 v25 v26 h) (
  j.2.2.2.1 v0 v3 v4 v5 v13 v14 v25 v26 v42 v43 h)
def f13.b9 (I : Inp) (call : CallFn) (j : f13.Js) (v0 v3 v4 v5 v13 v14 v25 v26 v42 v43 : AVal) (h : AHeap) : Rs :=
  bndP (pBuild [(Z 0), (Z 0), (Z 0)] [(0, 1, v4), (1, 1, v5), (2, 1, v43)]) fun v50 =>
  bnd (sBuildSlice [(Z 0), (Z 0), (Z 0)] 1 [(0, 3, v50)] h) fun v51 h1 =>
  bnd (sAppend I 3 24 v3 v51 h1) fun v52 h2 =>
  j.2.2.2.2 v0 v52 v4 v5 v13 v14 v25 v26 v42 v43 h2
def f13.b10 (I : Inp) (call : CallFn) (j : f13.Js) (v0 v3 v4 v5 v13 v14 v25 v26 v42 v43 : AVal) (h : AHeap) : Rs :=
  kB .add v43 (Z 1) fun v53 =>
  j.2.2.1 v0 v3 v4 v5 v13 v14 v25 v26 v42 v53 h
def f13.e (I : Inp) (call : CallFn) (j : f13.Js) (v0 : AVal) (h : AHeap) : Rs :=
  bndP (pEq P .false .ptr .true v0 .nilp h) fun v8 =>
  sCond v8 (
  j.1.1.1 v0 h) (
  some (.nils, h))
def f13.J (I : Inp) (call : CallFn) (n : Nat) : f13.Js :=
  Nat.rec (motive := fun _ => f13.Js) (((Zr.z, Zr.z), (Zr.z, (Zr.z, Zr.z))), ((Zr.z, (Zr.z, Zr.z)), (Zr.z, (Zr.z, Zr.z)))) (fun _ j => (((f13.b0 I call j, f13.b1 I call j), (f13.b2 I call j, (f13.b3 I call j, f13.b4 I call j))), ((f13.b5 I call j, (f13.b6 I call j, f13.b7 I call j)), (f13.b8 I call j, (f13.b9 I call j, f13.b10 I call j))))) n
theorem f13.n0 : (f13.J I call (n + 1)).1.1.1 = f13.b0 I call (f13.J I call n) := nrfl
theorem f13.n1 : (f13.J I call (n + 1)).1.1.2 = f13.b1 I call (f13.J I call n) := nrfl
theorem f13.n2 : (f13.J I call (n + 1)).1.2.1 = f13.b2 I call (f13.J I call n) := nrfl
theorem f13.n3 : (f13.J I call (n + 1)).1.2.2.1 = f13.b3 I call (f13.J I call n) := nrfl
theorem f13.n4 : (f13.J I call (n + 1)).1.2.2.2 = f13.b4 I call (f13.J I call n) := nrfl
theorem f13.n5 : (f13.J I call (n + 1)).2.1.1 = f13.b5 I call (f13.J I call n) := nrfl
theorem f13.n6 : (f13.J I call (n + 1)).2.1.2.1 = f13.b6 I call (f13.J I call n) := nrfl
theorem f13.n7 : (f13.J I call (n + 1)).2.1.2.2 = f13.b7 I call (f13.J I call n) := nrfl
theorem f13.n8 : (f13.J I call (n + 1)).2.2.1 = f13.b8 I call (f13.J I call n) := nrfl
theorem f13.n9 : (f13.J I call (n + 1)).2.2.2.1 = f13.b9 I call (f13.J I call n) := nrfl
theorem f13.n10 : (f13.J I call (n + 1)).2.2.2.2 = f13.b10 I call (f13.J I call n) := nrfl
def f13.JS (I : Inp) (call : CallFn) (n : Nat) : Jmp := (fun j : f13.Js => jmp [Ap.ap j.1.1.1 [0], Ap.ap j.1.1.2 [3], Ap.ap j.1.2.1 [0, 3, 13, 14], Ap.ap j.1.2.2.1 [0, 3, 13, 14], Ap.ap j.1.2.2.2 [0, 3, 13, 14], Ap.ap j.2.1.1 [0, 3, 4, 13, 14, 25, 26], Ap.ap j.2.1.2.1 [0, 3, 4, 13, 14, 25, 26], Ap.ap j.2.1.2.2 [0, 3, 4, 13, 14, 25, 26], Ap.ap j.2.2.1 [0, 3, 4, 5, 13, 14, 25, 26, 42, 43], Ap.ap j.2.2.2.1 [0, 3, 4, 5, 13, 14, 25, 26, 42, 43], Ap.ap j.2.2.2.2 [0, 3, 4, 5, 13, 14, 25, 26, 42, 43]]) (f13.J I call n)
theorem f13.S : SFn ⟨P, I, F⟩ call c13 (f13.JS I call) := .all 11 (by kernel_rfl) (fun ρ h => by kernel_rfl) (fun n ρ h => by kernel_rfl)
theorem f13.qe : Ap.all (f13.e I call (f13.J I call n)) (fun l h => execC P I call (f13.JS I call n) c13.body 0 (finV I c13.results) (argV l) h) := fun v0 h => by kernel_rfl
theorem f13.code : codeOf P 13 = some c13 := by kernel_rfl
def f13.run (I : Inp) : SF := fun call n => Ap.ar (f13.e I call (f13.J I call n))
theorem f13.ok (I : Inp) (F : Nat → Option AFn) (hF : F 13 = some (.code c13)) : SfOk P I F 13 (f13.run I) := okOf hF (by kernel_rfl) (fun _ => f13.S) fun call n => f13.qe
theorem f13.lim (hp : prims 13 = none) {v0 : AVal} (hr : Res (f13.e I (AM.lim ⟨P, I, genF P prims⟩) (f13.J I (AM.lim ⟨P, I, genF P prims⟩) n) v0 h) Q) : Res ((AM.lim ⟨P, I, genF P prims⟩) 13 [v0] h) Q := limOf (n := n) hp f13.code (f13.ok I) hr rfl
/-! haruspex/ir.Number -/
def c15 : AFunc := cOf P 15
abbrev f15.Js : Type := (((A2 × A1) × (A5 × A5)) × ((A5 × A8) × (A8 × A8)))
def f15.b0 (I : Inp) (call : CallFn) (j : f15.Js) (v0 v3 : AVal) (h : AHeap) : Rs :=
  kF 2 v3 fun v12 =>
  kL I v12 h fun v13 =>
  kF 0 v3 fun v14 =>
  kL I v14 h fun v15 =>
  kB .add v15 (Z 1) fun v16 =>
  j.1.2.1 v0 v3 v13 v16 (Z 0) h
def f15.b1 (I : Inp) (call : CallFn) (j : f15.Js) (v5 : AVal) (h : AHeap) : Rs :=
  some (v5, h)
def f15.b2 (I : Inp) (call : CallFn) (j : f15.Js) (v0 v3 v5 v16 v17 : AVal) (h : AHeap) : Rs :=
  kB .lss v17 v16 fun v18 =>
  sCond v18 (
  j.1.1.2 v5 h) (
  j.1.2.2 v0 v3 v5 v16 v17 h)
def f15.b3 (I : Inp) (call : CallFn) (j : f15.Js) (v0 v3 v5 v16 v17 : AVal) (h : AHeap) : Rs :=
  kN v0 fun v21 =>
  kF 4 v21 fun v22 =>
  kL I v22 h fun v23 =>
  kI 3 v23 v17 fun v25 =>
  kF 2 v25 fun v26 =>
  kL I v26 h fun v27 =>
  kZ v27 fun v28 =>
  j.2.1.2 v0 v3 v5 v17 v16 v17 v28 (Z 0) h
def f15.b4 (I : Inp) (call : CallFn) (j : f15.Js) (v0 v3 v5 v16 v17 : AVal) (h : AHeap) : Rs :=
  kB .add v17 (Z 1) fun v59 =>
  j.1.2.1 v0 v3 v5 v16 v59 h
def f15.b5 (I : Inp) (call : CallFn) (j : f15.Js) (v0 v3 v5 v6 v16 v17 v28 v29 : AVal) (h : AHeap) : Rs :=
  kB .lss v29 v28 fun v30 =>
  sCond v30 (
  j.2.1.1 v0 v3 v5 v16 v17 h) (
  j.2.2.1 v0 v3 v5 v6 v16 v17 v28 v29 h)
def f15.b6 (I : Inp) (call : CallFn) (j : f15.Js) (v0 v3 v5 v6 v16 v17 v28 v29 : AVal) (h : AHeap) : Rs :=
  kF 0 v3 fun v33 =>
  kL I v33 h fun v34 =>
  kB .lss v6 v34 fun v35 =>
  gV v35 .false v29 h fun v37 h1 =>
  gP v35 .false (pFieldAddr 1 v3) h1 fun v38 h2 =>
  gP v35 .false (pLoad1 I v38 h2) h2 fun v39 h3 =>
  gP v35 .false (pBin .lss v37 v39) h3 fun v40 h4 =>
  kP v35 bT v40 fun v41 =>
  sCond v41 (
  j.2.2.2 v0 v3 v5 v6 v16 v17 v28 v29 h4) (
  kN v0 fun v44 =>
  kF 4 v44 fun v45 =>
  kL I v45 h4 fun v46 =>
  kI 3 v46 v6 fun v48 =>
  kF 2 v48 fun v49 =>
  kL I v49 h4 fun v50 =>
  kI 5 v50 v29 fun v52 =>
  kF 0 v52 fun v53 =>
  kL I v53 h4 fun v54 =>
  kZ v54 fun v55 =>
  kB .add v55 (Z 1) fun v56 =>
  kB .add v5 v56 fun v57 =>
  j.2.2.2 v0 v3 v57 v6 v16 v17 v28 v29 h4)
def f15.b7 (I : Inp) (call : CallFn) (j : f15.Js) (v0 v3 v5 v6 v16 v17 v28 v29 : AVal) (h : AHeap) : Rs :=
  kB .add v29 (Z 1) fun v58 =>
  j.2.1.2 v0 v3 v5 v6 v16 v17 v28 v58 h
def f15.e (I : Inp) (call : CallFn) (j : f15.Js) (v0 v1 : AVal) (h : AHeap) : Rs :=
  bnd (sBox v1 h) fun v3 h1 =>
  kM I 3 v3 h1 fun v9 =>
  kC call 32 [v0, v9] h1 fun v10 h2 =>
  bndP (pEq P .false .ptr .true v10 .nilp h2) fun v11 =>
  sCond v11 (
  j.1.1.1 v0 v3 h2) (
  some ((.int .i64 (.negSucc 0)), h2))
def f15.J (I : Inp) (call : CallFn) (n : Nat) : f15.Js :=
  Nat.rec (motive := fun _ => f15.Js) (((Zr.z, Zr.z), (Zr.z, Zr.z)), ((Zr.z, Zr.z), (Zr.z, Zr.z))) (fun _ j => (((f15.b0 I call j, f15.b1 I call j), (f15.b2 I call j, f15.b3 I call j)), ((f15.b4 I call j, f15.b5 I call j), (f15.b6 I call j, f15.b7 I call j)))) n
theorem f15.n0 : (f15.J I call (n + 1)).1.1.1 = f15.b0 I call (f15.J I call n) := nrfl
theorem f15.n1 : (f15.J I call (n + 1)).1.1.2 = f15.b1 I call (f15.J I call n) := nrfl
theorem f15.n2 : (f15.J I call (n + 1)).1.2.1 = f15.b2 I call (f15.J I call n) := nrfl
theorem f15.n3 : (f15.J I call (n + 1)).1.2.2 = f15.b3 I call (f15.J I call n) := nrfl
theorem f15.n4 : (f15.J I call (n + 1)).2.1.1 = f15.b4 I call (f15.J I call n) := nrfl
theorem f15.n5 : (f15.J I call (n + 1)).2.1.2 = f15.b5 I call (f15.J I call n) := nrfl
theorem f15.n6 : (f15.J I call (n + 1)).2.2.1 = f15.b6 I call (f15.J I call n) := nrfl
theorem f15.n7 : (f15.J I call (n + 1)).2.2.2 = f15.b7 I call (f15.J I call n) := nrfl
def f15.JS (I : Inp) (call : CallFn) (n : Nat) : Jmp := (fun j : f15.Js => jmp [Ap.ap j.1.1.1 [0, 3], Ap.ap j.1.1.2 [5], Ap.ap j.1.2.1 [0, 3, 5, 16, 17], Ap.ap j.1.2.2 [0, 3, 5, 16, 17], Ap.ap j.2.1.1 [0, 3, 5, 16, 17], Ap.ap j.2.1.2 [0, 3, 5, 6, 16, 17, 28, 29], Ap.ap j.2.2.1 [0, 3, 5, 6, 16, 17, 28, 29], Ap.ap j.2.2.2 [0, 3, 5, 6, 16, 17, 28, 29]]) (f15.J I call n)
theorem f15.S : SFn ⟨P, I, F⟩ call c15 (f15.JS I call) := .all 8 (by kernel_rfl) (fun ρ h => by kernel_rfl) (fun n ρ h => by kernel_rfl)
theorem f15.qe : Ap.all (f15.e I call (f15.J I call n)) (fun l h => execC P I call (f15.JS I call n) c15.body 0 (finV I c15.results) (argV l) h) := fun v0 v1 h => by kernel_rfl
theorem f15.code : codeOf P 15 = some c15 := by kernel_rfl
def f15.run (I : Inp) : SF := fun call n => Ap.ar (f15.e I call (f15.J I call n))
theorem f15.ok (I : Inp) (F : Nat → Option AFn) (hF : F 15 = some (.code c15)) : SfOk P I F 15 (f15.run I) := okOf hF (by kernel_rfl) (fun _ => f15.S) fun call n => f15.qe
theorem f15.lim (hp : prims 15 = none) {v0 v1 : AVal} (hr : Res (f15.e I (AM.lim ⟨P, I, genF P prims⟩) (f15.J I (AM.lim ⟨P, I, genF P prims⟩) n) v0 v1 h) Q) : Res ((AM.lim ⟨P, I, genF P prims⟩) 15 [v0, v1] h) Q := limOf (n := n) hp f15.code (f15.ok I) hr rfl
/-! haruspex/ir.Next -/
def c19 : AFunc := cOf P 19
abbrev f19.Js : Type := ((A3 × (A3 × A1)) × (A6 × (A6 × A6)))
def f19.b0 (I : Inp) (call : CallFn) (j : f19.Js) (v0 v1 v5 : AVal) (h : AHeap) : Rs :=
  kC call 35 [v0, v1] h fun v22 h1 =>
  bndP (pEq P .false .ptr .true v22 .nilp h1) fun v24 =>
  sCond v24 (
  j.1.2.1 v0 v5 v22 h1) (
  kB .add v1 (Z 1) fun v26 =>
  bnd (sBuildSlice [(Z 0)] 1 [(0, 1, v26)] h1) fun v27 h2 =>
  some (v27, h2))
def f19.b1 (I : Inp) (call : CallFn) (j : f19.Js) (v0 v5 v7 : AVal) (h : AHeap) : Rs :=
  kC call 36 [v7] h fun v29 h1 =>
  kZ v29 fun v30 =>
  j.2.1 v0 v5 .nils v29 v30 (Z 0) h1
def f19.b2 (I : Inp) (call : CallFn) (j : f19.Js) (v8 : AVal) (h : AHeap) : Rs :=
  some (v8, h)
def f19.b3 (I : Inp) (call : CallFn) (j : f19.Js) (v0 v5 v8 v29 v30 v31 : AVal) (h : AHeap) : Rs :=
  kB .lss v31 v30 fun v32 =>
  sCond v32 (
  j.1.2.2 v8 h) (
  j.2.2.1 v0 v5 v8 v29 v30 v31 h)
def f19.b4 (I : Inp) (call : CallFn) (j : f19.Js) (v0 v5 v8 v29 v30 v31 : AVal) (h : AHeap) : Rs :=
  kI 1 v29 v31 fun v33 =>
  kL I v33 h fun v34 =>
  kF 0 v5 fun v36 =>
  kL I v36 h fun v37 =>
  bndP (pBuild [(Z 0), (Z 0), (Z 0)] [(0, 1, v37), (1, 1, v34)]) fun v39 =>
  kC call 15 [v0, v39] h fun v40 h1 =>
  kB .geq v40 (Z 0) fun v42 =>
  sCond v42 (
  j.2.2.2 v0 v5 v8 v29 v30 v31 h1) (
  bnd (sBuildSlice [(Z 0)] 1 [(0, 1, v40)] h1) fun v45 h2 =>
  bnd (sAppend I 1 8 v8 v45 h2) fun v46 h3 =>
  j.2.2.2 v0 v5 v46 v29 v30 v31 h3)
def f19.b5 (I : Inp) (call : CallFn) (j : f19.Js) (v0 v5 v8 v29 v30 v31 : AVal) (h : AHeap) : Rs :=
  kB .add v31 (Z 1) fun v47 =>
  j.2.1 v0 v5 v8 v29 v30 v47 h
def f19.e (I : Inp) (call : CallFn) (j : f19.Js) (v0 v1 : AVal) (h : AHeap) : Rs :=
  kC call 34 [v0, v1] h fun v15 h1 =>
  kX v15 0 fun v16 =>
  kX v15 1 fun v17 =>
  kA [(Z 0), (Z 0), (Z 0)] h1 fun v5 h2 =>
  kS 3 v5 v16 h2 fun _ h3 =>
  kU .not v17 fun v19 =>
  sCond v19 (
  j.1.1 v0 v1 v5 h3) (
  some (.nils, h3))
def f19.J (I : Inp) (call : CallFn) (n : Nat) : f19.Js :=
  Nat.rec (motive := fun _ => f19.Js) ((Zr.z, (Zr.z, Zr.z)), (Zr.z, (Zr.z, Zr.z))) (fun _ j => ((f19.b0 I call j, (f19.b1 I call j, f19.b2 I call j)), (f19.b3 I call j, (f19.b4 I call j, f19.b5 I call j)))) n
theorem f19.n0 : (f19.J I call (n + 1)).1.1 = f19.b0 I call (f19.J I call n) := nrfl
theorem f19.n1 : (f19.J I call (n + 1)).1.2.1 = f19.b1 I call (f19.J I call n) := nrfl
theorem f19.n2 : (f19.J I call (n + 1)).1.2.2 = f19.b2 I call (f19.J I call n) := nrfl
theorem f19.n3 : (f19.J I call (n + 1)).2.1 = f19.b3 I call (f19.J I call n) := nrfl
theorem f19.n4 : (f19.J I call (n + 1)).2.2.1 = f19.b4 I call (f19.J I call n) := nrfl
theorem f19.n5 : (f19.J I call (n + 1)).2.2.2 = f19.b5 I call (f19.J I call n) := nrfl
def f19.JS (I : Inp) (call : CallFn) (n : Nat) : Jmp := (fun j : f19.Js => jmp [Ap.ap j.1.1 [0, 1, 5], Ap.ap j.1.2.1 [0, 5, 7], Ap.ap j.1.2.2 [8], Ap.ap j.2.1 [0, 5, 8, 29, 30, 31], Ap.ap j.2.2.1 [0, 5, 8, 29, 30, 31], Ap.ap j.2.2.2 [0, 5, 8, 29, 30, 31]]) (f19.J I call n)
theorem f19.S : SFn ⟨P, I, F⟩ call c19 (f19.JS I call) := .all 6 (by kernel_rfl) (fun ρ h => by kernel_rfl) (fun n ρ h => by kernel_rfl)
theorem f19.qe : Ap.all (f19.e I call (f19.J I call n)) (fun l h => execC P I call (f19.JS I call n) c19.body 0 (finV I c19.results) (argV l) h) := fun v0 v1 h => by kernel_rfl
theorem f19.code : codeOf P 19 = some c19 := by kernel_rfl
def f19.run (I : Inp) : SF := fun call n => Ap.ar (f19.e I call (f19.J I call n))
theorem f19.ok (I : Inp) (F : Nat → Option AFn) (hF : F 19 = some (.code c19)) : SfOk P I F 19 (f19.run I) := okOf hF (by kernel_rfl) (fun _ => f19.S) fun call n => f19.qe
theorem f19.lim (hp : prims 19 = none) {v0 v1 : AVal} (hr : Res (f19.e I (AM.lim ⟨P, I, genF P prims⟩) (f19.J I (AM.lim ⟨P, I, genF P prims⟩) n) v0 v1 h) Q) : Res ((AM.lim ⟨P, I, genF P prims⟩) 19 [v0, v1] h) Q := limOf (n := n) hp f19.code (f19.ok I) hr rfl
/-! haruspex/ir.Line -/
def c20 : AFunc := cOf P 20
abbrev f20.Js : Type := (A1 × A0)
def f20.b0 (I : Inp) (call : CallFn) (j : f20.Js) (v1 : AVal) (h : AHeap) : Rs :=
  kM I 6 v1 h fun v33 =>
  kC call 38 [v33] h fun v34 h1 =>
  kB .neq v34 (.str []) fun v36 =>
  sCond v36 (
  j.2 h1) (
  kF 1 v1 fun v37 =>
  kL I v37 h1 fun v38 =>
  kC call 37 [v38] h1 fun v39 h2 =>
  kB .add v39 (.str [32, 61, 32]) fun v40 =>
  kB .add v40 v34 fun v42 =>
  some (v42, h2))
def f20.b1 (I : Inp) (call : CallFn) (j : f20.Js) (h : AHeap) : Rs :=
  some ((.str [63]), h)
def f20.e (I : Inp) (call : CallFn) (j : f20.Js) (v0 : AVal) (h : AHeap) : Rs :=
  bnd (sBox v0 h) fun v1 h1 =>
  kF 0 v1 fun v4 =>
  kL I v4 h1 fun v5 =>
  kB .eql v5 (Z 8) fun v7 =>
  sCond v7 (
  kB .eql v5 (Z 9) fun v22 =>
  sCond v22 (
  kB .eql v5 (Z 15) fun v28 =>
  sCond v28 (
  j.1 v1 h1) (
  kF 2 v1 fun v29 =>
  kL I v29 h1 fun v30 =>
  kC call 37 [v30] h1 fun v31 h2 =>
  kB .add (.str [115, 105, 110, 107, 32]) v31 fun v32 =>
  some (v32, h2))) (
  kF 2 v1 fun v23 =>
  kL I v23 h1 fun v24 =>
  kC call 37 [v24] h1 fun v25 h3 =>
  kB .add (.str [102, 114, 101, 101, 32]) v25 fun v26 =>
  some (v26, h3))) (
  kF 2 v1 fun v8 =>
  kL I v8 h1 fun v9 =>
  kC call 37 [v9] h1 fun v10 h4 =>
  kB .add v10 (.str [46]) fun v11 =>
  kF 4 v1 fun v12 =>
  kL I v12 h4 fun v13 =>
  kC call 28 [v13] h4 fun v14 h5 =>
  kB .add v11 v14 fun v15 =>
  kB .add v15 (.str [32, 61, 32]) fun v16 =>
  kF 3 v1 fun v17 =>
  kL I v17 h5 fun v18 =>
  kC call 37 [v18] h5 fun v19 h6 =>
  kB .add v16 v19 fun v20 =>
  sCheck (sSame (lift (pLoad1 I v12 h1) h1) v13 && true) (
  sCheck (sSame (lift (pLoad1 I v17 h1) h1) v18 && (sSame (lift (pLoad1 I v17 h4) h4) v18 && true)) (
  some (v20, h6))))
def f20.J (I : Inp) (call : CallFn) (n : Nat) : f20.Js :=
  Nat.rec (motive := fun _ => f20.Js) (Zr.z, Zr.z) (fun _ j => (f20.b0 I call j, f20.b1 I call j)) n
theorem f20.n0 : (f20.J I call (n + 1)).1 = f20.b0 I call (f20.J I call n) := nrfl
theorem f20.n1 : (f20.J I call (n + 1)).2 = f20.b1 I call (f20.J I call n) := nrfl
def f20.JS (I : Inp) (call : CallFn) (n : Nat) : Jmp := (fun j : f20.Js => jmp [Ap.ap j.1 [1], Ap.ap j.2 []]) (f20.J I call n)
theorem f20.S : SFn ⟨P, I, F⟩ call c20 (f20.JS I call) := .all 2 (by kernel_rfl) (fun ρ h => by kernel_rfl) (fun n ρ h => by kernel_rfl)
theorem f20.qe : Ap.all (f20.e I call (f20.J I call n)) (fun l h => execC P I call (f20.JS I call n) c20.body 0 (finV I c20.results) (argV l) h) := fun v0 h => by kernel_rfl
theorem f20.code : codeOf P 20 = some c20 := by kernel_rfl
def f20.run (I : Inp) : SF := fun call n => Ap.ar (f20.e I call (f20.J I call n))
theorem f20.ok (I : Inp) (F : Nat → Option AFn) (hF : F 20 = some (.code c20)) : SfOk P I F 20 (f20.run I) := okOf hF (by kernel_rfl) (fun _ => f20.S) fun call n => f20.qe
theorem f20.lim (hp : prims 20 = none) {v0 : AVal} (hr : Res (f20.e I (AM.lim ⟨P, I, genF P prims⟩) (f20.J I (AM.lim ⟨P, I, genF P prims⟩) n) v0 h) Q) : Res ((AM.lim ⟨P, I, genF P prims⟩) 20 [v0] h) Q := limOf (n := n) hp f20.code (f20.ok I) hr rfl
/-! haruspex/ir.Def -/
def c22 : AFunc := cOf P 22
abbrev f22.Js : Type := (A1 × (A2 × A1))
def f22.b0 (I : Inp) (call : CallFn) (j : f22.Js) (v1 : AVal) (h : AHeap) : Rs :=
  kF 0 v1 fun v10 =>
  kL I v10 h fun v11 =>
  kB .lss v11 (Z 1) fun v12 =>
  gP v12 .false (pFieldAddr 0 v1) h fun v14 h1 =>
  gP v12 .false (pLoad1 I v14 h1) h1 fun v15 h2 =>
  gP v12 .false (pBin .gtr v15 (Z 15)) h2 fun v16 h3 =>
  kP v12 bT v16 fun v17 =>
  sCond v17 (
  j.2.2 v1 h3) (
  some (.tuple [(Z 0), bF], h3))
def f22.b1 (I : Inp) (call : CallFn) (j : f22.Js) (v1 v6 : AVal) (h : AHeap) : Rs :=
  sCond v6 (
  j.1 v1 h) (
  some (.tuple [(Z 0), bF], h))
def f22.b2 (I : Inp) (call : CallFn) (j : f22.Js) (v1 : AVal) (h : AHeap) : Rs :=
  kF 1 v1 fun v18 =>
  kL I v18 h fun v19 =>
  some (.tuple [v19, bT], h)
def f22.e (I : Inp) (call : CallFn) (j : f22.Js) (v0 : AVal) (h : AHeap) : Rs :=
  bnd (sBox v0 h) fun v1 h1 =>
  kF 0 v1 fun v4 =>
  kL I v4 h1 fun v5 =>
  kB .eql v5 (Z 8) fun v7 =>
  sCond v7 (
  kB .eql v5 (Z 9) fun v8 =>
  sCond v8 (
  kB .eql v5 (Z 15) fun v9 =>
  j.2.1 v1 v9 h1) (
  j.2.1 v1 v8 h1)) (
  j.2.1 v1 v7 h1)
def f22.J (I : Inp) (call : CallFn) (n : Nat) : f22.Js :=
  Nat.rec (motive := fun _ => f22.Js) (Zr.z, (Zr.z, Zr.z)) (fun _ j => (f22.b0 I call j, (f22.b1 I call j, f22.b2 I call j))) n
theorem f22.n0 : (f22.J I call (n + 1)).1 = f22.b0 I call (f22.J I call n) := nrfl
theorem f22.n1 : (f22.J I call (n + 1)).2.1 = f22.b1 I call (f22.J I call n) := nrfl
theorem f22.n2 : (f22.J I call (n + 1)).2.2 = f22.b2 I call (f22.J I call n) := nrfl
def f22.JS (I : Inp) (call : CallFn) (n : Nat) : Jmp := (fun j : f22.Js => jmp [Ap.ap j.1 [1], Ap.ap j.2.1 [1, 6], Ap.ap j.2.2 [1]]) (f22.J I call n)
theorem f22.S : SFn ⟨P, I, F⟩ call c22 (f22.JS I call) := .all 3 (by kernel_rfl) (fun ρ h => by kernel_rfl) (fun n ρ h => by kernel_rfl)
theorem f22.qe : Ap.all (f22.e I call (f22.J I call n)) (fun l h => execC P I call (f22.JS I call n) c22.body 0 (finV I c22.results) (argV l) h) := fun v0 h => by kernel_rfl
theorem f22.code : codeOf P 22 = some c22 := by kernel_rfl
def f22.run (I : Inp) : SF := fun call n => Ap.ar (f22.e I call (f22.J I call n))
theorem f22.ok (I : Inp) (F : Nat → Option AFn) (hF : F 22 = some (.code c22)) : SfOk P I F 22 (f22.run I) := okOf hF (by kernel_rfl) (fun _ => f22.S) fun call n => f22.qe
theorem f22.lim (hp : prims 22 = none) {v0 : AVal} (hr : Res (f22.e I (AM.lim ⟨P, I, genF P prims⟩) (f22.J I (AM.lim ⟨P, I, genF P prims⟩) n) v0 h) Q) : Res ((AM.lim ⟨P, I, genF P prims⟩) 22 [v0] h) Q := limOf (n := n) hp f22.code (f22.ok I) hr rfl
/-! haruspex/haruspexref1.Eq -/
def c24 : AFunc := cOf P 24
abbrev f24.Js : Type := ((A2 × A0) × (A3 × (A3 × A3)))
def f24.b0 (I : Inp) (call : CallFn) (j : f24.Js) (v0 v1 : AVal) (h : AHeap) : Rs :=
  j.2.1 v0 v1 (Z 0) h
def f24.b1 (I : Inp) (call : CallFn) (j : f24.Js) (h : AHeap) : Rs :=
  some (bT, h)
def f24.b2 (I : Inp) (call : CallFn) (j : f24.Js) (v0 v1 v5 : AVal) (h : AHeap) : Rs :=
  kZ v0 fun v13 =>
  kB .lss v5 v13 fun v14 =>
  sCond v14 (
  j.1.2 h) (
  j.2.2.1 v0 v1 v5 h)
def f24.b3 (I : Inp) (call : CallFn) (j : f24.Js) (v0 v1 v5 : AVal) (h : AHeap) : Rs :=
  kI 1 v0 v5 fun v19 =>
  kL I v19 h fun v20 =>
  kI 1 v1 v5 fun v23 =>
  kL I v23 h fun v24 =>
  kB .neq v20 v24 fun v25 =>
  sCond v25 (
  j.2.2.2 v0 v1 v5 h) (
  some (bF, h))
def f24.b4 (I : Inp) (call : CallFn) (j : f24.Js) (v0 v1 v5 : AVal) (h : AHeap) : Rs :=
  kB .add v5 (Z 1) fun v16 =>
  j.2.1 v0 v1 v16 h
def f24.e (I : Inp) (call : CallFn) (j : f24.Js) (v0 v1 : AVal) (h : AHeap) : Rs :=
  kZ v0 fun v7 =>
  kZ v1 fun v9 =>
  kB .neq v7 v9 fun v10 =>
  sCond v10 (
  j.1.1 v0 v1 h) (
  some (bF, h))
def f24.J (I : Inp) (call : CallFn) (n : Nat) : f24.Js :=
  Nat.rec (motive := fun _ => f24.Js) ((Zr.z, Zr.z), (Zr.z, (Zr.z, Zr.z))) (fun _ j => ((f24.b0 I call j, f24.b1 I call j), (f24.b2 I call j, (f24.b3 I call j, f24.b4 I call j)))) n
def f24.JS (I : Inp) (call : CallFn) (n : Nat) : Jmp := (fun j : f24.Js => jmp [Ap.ap j.1.1 [0, 1], Ap.ap j.1.2 [], Ap.ap j.2.1 [0, 1, 5], Ap.ap j.2.2.1 [0, 1, 5], Ap.ap j.2.2.2 [0, 1, 5]]) (f24.J I call n)
theorem f24.S : SFn ⟨P, I, F⟩ call c24 (f24.JS I call) := .all 5 (by kernel_rfl) (fun ρ h => by kernel_rfl) (fun n ρ h => by kernel_rfl)
theorem f24.qe : Ap.all (f24.e I call (f24.J I call n)) (fun l h => execC P I call (f24.JS I call n) c24.body 0 (finV I c24.results) (argV l) h) := fun v0 v1 h => by kernel_rfl
theorem f24.code : codeOf P 24 = some c24 := by kernel_rfl
def f24.run (I : Inp) : SF := fun call n => Ap.ar (f24.e I call (f24.J I call n))
theorem f24.ok (I : Inp) (F : Nat → Option AFn) (hF : F 24 = some (.code c24)) : SfOk P I F 24 (f24.run I) := okOf hF (by kernel_rfl) (fun _ => f24.S) fun call n => f24.qe
/-! haruspex/haruspexref8.Line -/
def c27 : AFunc := cOf P 27
abbrev f27.Js : Type := A0
def f27.b0 (I : Inp) (call : CallFn) (j : f27.Js) (h : AHeap) : Rs :=
  some ((.str [63]), h)
def f27.e (I : Inp) (call : CallFn) (j : f27.Js) (v0 : AVal) (h : AHeap) : Rs :=
  bnd (sBox v0 h) fun v1 h1 =>
  kF 1 v1 fun v4 =>
  kL I v4 h1 fun v5 =>
  kC call 31 [v5] h1 fun v6 h2 =>
  kB .add v6 (.str [32, 61, 32]) fun v7 =>
  kF 0 v1 fun v8 =>
  kL I v8 h2 fun v9 =>
  kB .eql v9 (Z 1) fun v11 =>
  sCond v11 (
  kB .eql v9 (Z 2) fun v19 =>
  sCond v19 (
  kB .eql v9 (Z 3) fun v32 =>
  sCond v32 (
  kB .eql v9 (Z 4) fun v36 =>
  sCond v36 (
  kB .eql v9 (Z 5) fun v40 =>
  sCond v40 (
  kB .eql v9 (Z 6) fun v44 =>
  sCond v44 (
  kB .eql v9 (Z 7) fun v51 =>
  sCond v51 (
  kB .eql v9 (Z 8) fun v63 =>
  sCond v63 (
  kB .eql v9 (Z 9) fun v78 =>
  sCond v78 (
  kB .eql v9 (Z 10) fun v84 =>
  sCond v84 (
  kB .eql v9 (Z 11) fun v92 =>
  sCond v92 (
  kB .eql v9 (Z 12) fun v100 =>
  sCond v100 (
  kB .eql v9 (Z 13) fun v112 =>
  sCond v112 (
  kB .eql v9 (Z 14) fun v124 =>
  sCond v124 (
  kB .eql v9 (Z 15) fun v141 =>
  sCond v141 (
  j h2) (
  kF 2 v1 fun v142 =>
  kL I v142 h2 fun v143 =>
  kC call 31 [v143] h2 fun v144 h3 =>
  kB .add (.str [115, 105, 110, 107, 32]) v144 fun v145 =>
  some (v145, h3))) (
  kB .add v7 (.str [99, 97, 108, 108, 32]) fun v126 =>
  kF 2 v1 fun v127 =>
  kL I v127 h2 fun v128 =>
  kC call 31 [v128] h2 fun v129 h4 =>
  kB .add v126 v129 fun v130 =>
  kB .add v130 (.str [46]) fun v131 =>
  kF 4 v1 fun v132 =>
  kL I v132 h4 fun v133 =>
  kC call 30 [v133] h4 fun v134 h5 =>
  kB .add v131 v134 fun v135 =>
  kF 5 v1 fun v136 =>
  kL I v136 h5 fun v137 =>
  kC call 39 [v137] h5 fun v138 h6 =>
  kB .add v135 v138 fun v139 =>
  sCheck (sSame (lift (pLoad1 I v132 h2) h2) v133 && true) (
  sCheck (sSame (lift (pLoad1 I v136 h2) h2) v137 && (sSame (lift (pLoad1 I v136 h4) h4) v137 && true)) (
  some (v139, h6))))) (
  kB .add v7 (.str [99, 97, 108, 108, 32]) fun v114 =>
  kF 2 v1 fun v115 =>
  kL I v115 h2 fun v116 =>
  kC call 31 [v116] h2 fun v117 h7 =>
  kB .add v114 v117 fun v118 =>
  kF 5 v1 fun v119 =>
  kL I v119 h7 fun v120 =>
  kC call 39 [v120] h7 fun v121 h8 =>
  kB .add v118 v121 fun v122 =>
  sCheck (sSame (lift (pLoad1 I v119 h2) h2) v120 && true) (
  some (v122, h8)))) (
  kB .add v7 (.str [99, 97, 108, 108, 32]) fun v102 =>
  kF 4 v1 fun v103 =>
  kL I v103 h2 fun v104 =>
  kC call 30 [v104] h2 fun v105 h9 =>
  kB .add v102 v105 fun v106 =>
  kF 5 v1 fun v107 =>
  kL I v107 h9 fun v108 =>
  kC call 39 [v108] h9 fun v109 h10 =>
  kB .add v106 v109 fun v110 =>
  sCheck (sSame (lift (pLoad1 I v107 h2) h2) v108 && true) (
  some (v110, h10)))) (
  kB .add v7 (.str [105, 102, 97, 99, 101, 32]) fun v94 =>
  kF 2 v1 fun v95 =>
  kL I v95 h2 fun v96 =>
  kC call 31 [v96] h2 fun v97 h11 =>
  kB .add v94 v97 fun v98 =>
  some (v98, h11))) (
  kB .add v7 (.str [102, 117, 110, 99, 32]) fun v86 =>
  kF 4 v1 fun v87 =>
  kL I v87 h2 fun v88 =>
  kC call 30 [v88] h2 fun v89 h12 =>
  kB .add v86 v89 fun v90 =>
  some (v90, h12))) (
  kF 2 v1 fun v79 =>
  kL I v79 h2 fun v80 =>
  kC call 31 [v80] h2 fun v81 h13 =>
  kB .add (.str [102, 114, 101, 101, 32]) v81 fun v82 =>
  some (v82, h13))) (
  kF 2 v1 fun v64 =>
  kL I v64 h2 fun v65 =>
  kC call 31 [v65] h2 fun v66 h14 =>
  kB .add v66 (.str [46]) fun v67 =>
  kF 4 v1 fun v68 =>
  kL I v68 h14 fun v69 =>
  kC call 30 [v69] h14 fun v70 h15 =>
  kB .add v67 v70 fun v71 =>
  kB .add v71 (.str [32, 61, 32]) fun v72 =>
  kF 3 v1 fun v73 =>
  kL I v73 h15 fun v74 =>
  kC call 31 [v74] h15 fun v75 h16 =>
  kB .add v72 v75 fun v76 =>
  sCheck (sSame (lift (pLoad1 I v68 h2) h2) v69 && true) (
  sCheck (sSame (lift (pLoad1 I v73 h2) h2) v74 && (sSame (lift (pLoad1 I v73 h14) h14) v74 && true)) (
  some (v76, h16))))) (
  kF 2 v1 fun v53 =>
  kL I v53 h2 fun v54 =>
  kC call 31 [v54] h2 fun v55 h17 =>
  kB .add v7 v55 fun v56 =>
  kB .add v56 (.str [46]) fun v57 =>
  kF 4 v1 fun v58 =>
  kL I v58 h17 fun v59 =>
  kC call 30 [v59] h17 fun v60 h18 =>
  kB .add v57 v60 fun v61 =>
  sCheck (sSame (lift (pLoad1 I v58 h2) h2) v59 && true) (
  some (v61, h18)))) (
  kF 2 v1 fun v46 =>
  kL I v46 h2 fun v47 =>
  kC call 31 [v47] h2 fun v48 h19 =>
  kB .add v7 v48 fun v49 =>
  some (v49, h19))) (
  kB .add v7 (.str [110, 101, 119]) fun v42 =>
  some (v42, h2))) (
  kB .add v7 (.str [110, 105, 108]) fun v38 =>
  some (v38, h2))) (
  kB .add v7 (.str [115, 111, 117, 114, 99, 101]) fun v34 =>
  some (v34, h2))) (
  kB .add v7 (.str [97, 100, 100, 32]) fun v21 =>
  kF 2 v1 fun v22 =>
  kL I v22 h2 fun v23 =>
  kC call 31 [v23] h2 fun v24 h20 =>
  kB .add v21 v24 fun v25 =>
  kB .add v25 (.str [32]) fun v26 =>
  kF 3 v1 fun v27 =>
  kL I v27 h20 fun v28 =>
  kC call 31 [v28] h20 fun v29 h21 =>
  kB .add v26 v29 fun v30 =>
  sCheck (sSame (lift (pLoad1 I v27 h2) h2) v28 && true) (
  some (v30, h21)))) (
  kB .add v7 (.str [99, 111, 110, 115, 116, 32]) fun v13 =>
  kF 4 v1 fun v14 =>
  kL I v14 h2 fun v15 =>
  kC call 30 [v15] h2 fun v16 h22 =>
  kB .add v13 v16 fun v17 =>
  some (v17, h22))
def f27.J (I : Inp) (call : CallFn) (n : Nat) : f27.Js :=
  Nat.rec (motive := fun _ => f27.Js) Zr.z (fun _ j => f27.b0 I call j) n
theorem f27.n0 : (f27.J I call (n + 1)) = f27.b0 I call (f27.J I call n) := nrfl
def f27.JS (I : Inp) (call : CallFn) (n : Nat) : Jmp := (fun j : f27.Js => jmp [Ap.ap j []]) (f27.J I call n)
theorem f27.S : SFn ⟨P, I, F⟩ call c27 (f27.JS I call) := .all 1 (by kernel_rfl) (fun ρ h => by kernel_rfl) (fun n ρ h => by kernel_rfl)
theorem f27.qe : Ap.all (f27.e I call (f27.J I call n)) (fun l h => execC P I call (f27.JS I call n) c27.body 0 (finV I c27.results) (argV l) h) := fun v0 h => by kernel_rfl
theorem f27.code : codeOf P 27 = some c27 := by kernel_rfl
def f27.run (I : Inp) : SF := fun call n => Ap.ar (f27.e I call (f27.J I call n))
theorem f27.ok (I : Inp) (F : Nat → Option AFn) (hF : F 27 = some (.code c27)) : SfOk P I F 27 (f27.run I) := okOf hF (by kernel_rfl) (fun _ => f27.S) fun call n => f27.qe
theorem f27.lim (hp : prims 27 = none) {v0 : AVal} (hr : Res (f27.e I (AM.lim ⟨P, I, genF P prims⟩) (f27.J I (AM.lim ⟨P, I, genF P prims⟩) n) v0 h) Q) : Res ((AM.lim ⟨P, I, genF P prims⟩) 27 [v0] h) Q := limOf (n := n) hp f27.code (f27.ok I) hr rfl
/-! strconv.Itoa -/
def c28 : AFunc := cOf P 28
abbrev f28.Js : Type := Unit
def f28.e (I : Inp) (call : CallFn) (j : f28.Js) (v0 : AVal) (h : AHeap) : Rs :=
  kC call 40 [v0] h fun v4 h1 =>
  some (v4, h1)
theorem f28.S : SFn ⟨P, I, F⟩ call c28 (fun _ => jmp []) := .all 0 (by kernel_rfl) (fun ρ h => by kernel_rfl) (fun n ρ h => by kernel_rfl)
theorem f28.qe : Ap.all (f28.e I call ()) (fun l h => execC P I call (jmp []) c28.body 0 (finV I c28.results) (argV l) h) := fun v0 h => by kernel_rfl
theorem f28.code : codeOf P 28 = some c28 := by kernel_rfl
def f28.run (I : Inp) : SF := fun call n => Ap.ar (f28.e I call ())
theorem f28.ok (I : Inp) (F : Nat → Option AFn) (hF : F 28 = some (.code c28)) : SfOk P I F 28 (f28.run I) := okOf hF (by kernel_rfl) (fun _ => f28.S) fun call n => f28.qe
/-! haruspex/ir.end -/
def c29 : AFunc := cOf P 29
abbrev f29.Js : Type := A0
def f29.b0 (I : Inp) (call : CallFn) (j : f29.Js) (h : AHeap) : Rs :=
  some ((.str [63]), h)
def f29.e (I : Inp) (call : CallFn) (j : f29.Js) (v0 : AVal) (h : AHeap) : Rs :=
  bnd (sBox v0 h) fun v1 h1 =>
  kF 1 v1 fun v3 =>
  kL I v3 h1 fun v4 =>
  kB .eql v4 (Z 1) fun v6 =>
  sCond v6 (
  kB .eql v4 (Z 2) fun v12 =>
  sCond v12 (
  kB .eql v4 (Z 3) fun v28 =>
  sCond v28 (
  j h1) (
  kF 2 v1 fun v29 =>
  kL I v29 h1 fun v30 =>
  kC call 37 [v30] h1 fun v31 h2 =>
  kB .add (.str [114, 101, 116, 117, 114, 110, 32]) v31 fun v32 =>
  some (v32, h2))) (
  kF 2 v1 fun v13 =>
  kL I v13 h1 fun v14 =>
  kC call 37 [v14] h1 fun v15 h3 =>
  kB .add (.str [98, 114, 97, 110, 99, 104, 32]) v15 fun v16 =>
  kB .add v16 (.str [32]) fun v17 =>
  kF 3 v1 fun v18 =>
  kL I v18 h3 fun v19 =>
  kC call 28 [v19] h3 fun v20 h4 =>
  kB .add v17 v20 fun v21 =>
  kB .add v21 (.str [32]) fun v22 =>
  kF 4 v1 fun v23 =>
  kL I v23 h4 fun v24 =>
  kC call 28 [v24] h4 fun v25 h5 =>
  kB .add v22 v25 fun v26 =>
  sCheck (sSame (lift (pLoad1 I v18 h1) h1) v19 && true) (
  sCheck (sSame (lift (pLoad1 I v23 h1) h1) v24 && (sSame (lift (pLoad1 I v23 h3) h3) v24 && true)) (
  some (v26, h5))))) (
  kF 3 v1 fun v7 =>
  kL I v7 h1 fun v8 =>
  kC call 28 [v8] h1 fun v9 h6 =>
  kB .add (.str [106, 117, 109, 112, 32]) v9 fun v10 =>
  some (v10, h6))
def f29.J (I : Inp) (call : CallFn) (n : Nat) : f29.Js :=
  Nat.rec (motive := fun _ => f29.Js) Zr.z (fun _ j => f29.b0 I call j) n
theorem f29.n0 : (f29.J I call (n + 1)) = f29.b0 I call (f29.J I call n) := nrfl
def f29.JS (I : Inp) (call : CallFn) (n : Nat) : Jmp := (fun j : f29.Js => jmp [Ap.ap j []]) (f29.J I call n)
theorem f29.S : SFn ⟨P, I, F⟩ call c29 (f29.JS I call) := .all 1 (by kernel_rfl) (fun ρ h => by kernel_rfl) (fun n ρ h => by kernel_rfl)
theorem f29.qe : Ap.all (f29.e I call (f29.J I call n)) (fun l h => execC P I call (f29.JS I call n) c29.body 0 (finV I c29.results) (argV l) h) := fun v0 h => by kernel_rfl
theorem f29.code : codeOf P 29 = some c29 := by kernel_rfl
def f29.run (I : Inp) : SF := fun call n => Ap.ar (f29.e I call (f29.J I call n))
theorem f29.ok (I : Inp) (F : Nat → Option AFn) (hF : F 29 = some (.code c29)) : SfOk P I F 29 (f29.run I) := okOf hF (by kernel_rfl) (fun _ => f29.S) fun call n => f29.qe
theorem f29.lim (hp : prims 29 = none) {v0 : AVal} (hr : Res (f29.e I (AM.lim ⟨P, I, genF P prims⟩) (f29.J I (AM.lim ⟨P, I, genF P prims⟩) n) v0 h) Q) : Res ((AM.lim ⟨P, I, genF P prims⟩) 29 [v0] h) Q := limOf (n := n) hp f29.code (f29.ok I) hr rfl
/-! haruspex/haruspexref8.Dec -/
def c30 : AFunc := cOf P 30
abbrev f30.Js : Type := (A1 × (A1 × A1))
def f30.b0 (I : Inp) (call : CallFn) (j : f30.Js) (v0 : AVal) (h : AHeap) : Rs :=
  kB .lss v0 (Z 10) fun v22 =>
  sCond v22 (
  j.2.2 v0 h) (
  kB .add (Z 48) v0 fun v24 =>
  bndP (pToInt .u8 v24) fun v25 =>
  bnd (sBuildSlice [(.int .u8 (.ofNat 0))] 1 [(0, 1, v25)] h) fun v26 h1 =>
  bndP (pToStr I v26 h1) fun v27 =>
  some (v27, h1))
def f30.b1 (I : Inp) (call : CallFn) (j : f30.Js) (v0 : AVal) (h : AHeap) : Rs :=
  kU .neg v0 fun v18 =>
  kC call 30 [v18] h fun v19 h1 =>
  kB .add (.str [45]) v19 fun v20 =>
  some (v20, h1)
def f30.b2 (I : Inp) (call : CallFn) (j : f30.Js) (v0 : AVal) (h : AHeap) : Rs :=
  sKeep 0 h fun h1 =>
  kB .quo v0 (Z 10) fun v29 =>
  kC call 30 [v29] h1 fun v30 h2 =>
  kB .rem v0 (Z 10) fun v32 =>
  kB .add (Z 48) v32 fun v33 =>
  bndP (pToInt .u8 v33) fun v34 =>
  bnd (sResvSlice (h.next + 0) [(.int .u8 (.ofNat 0))] 1 [(0, 1, v34)] h2) fun v35 h3 =>
  bndP (pToStr I v35 h3) fun v36 =>
  kB .add v30 v36 fun v37 =>
  sCheck (sSame (lift (pToStr I v35 h3) h3) v36 && (sSame (lift (pToStr I v35 h3) h3) v36 && true)) (
  some (v37, h3))
def f30.e (I : Inp) (call : CallFn) (j : f30.Js) (v0 : AVal) (h : AHeap) : Rs :=
  kB .lss v0 (Z 0) fun v4 =>
  sCond v4 (
  j.1 v0 h) (
  kB .lss v0 (.int .i64 (.negSucc 4611686018427387903)) fun v6 =>
  sCond v6 (
  j.2.1 v0 h) (
  kB .quo v0 (Z 10) fun v8 =>
  kU .neg v8 fun v9 =>
  kC call 30 [v9] h fun v10 h1 =>
  kB .add (.str [45]) v10 fun v11 =>
  kB .rem v0 (Z 10) fun v13 =>
  kU .neg v13 fun v14 =>
  kC call 30 [v14] h1 fun v15 h2 =>
  kB .add v11 v15 fun v16 =>
  some (v16, h2)))
def f30.J (I : Inp) (call : CallFn) (n : Nat) : f30.Js :=
  Nat.rec (motive := fun _ => f30.Js) (Zr.z, (Zr.z, Zr.z)) (fun _ j => (f30.b0 I call j, (f30.b1 I call j, f30.b2 I call j))) n
theorem f30.n0 : (f30.J I call (n + 1)).1 = f30.b0 I call (f30.J I call n) := nrfl
theorem f30.n1 : (f30.J I call (n + 1)).2.1 = f30.b1 I call (f30.J I call n) := nrfl
theorem f30.n2 : (f30.J I call (n + 1)).2.2 = f30.b2 I call (f30.J I call n) := nrfl
def f30.JS (I : Inp) (call : CallFn) (n : Nat) : Jmp := (fun j : f30.Js => jmp [Ap.ap j.1 [0], Ap.ap j.2.1 [0], Ap.ap j.2.2 [0]]) (f30.J I call n)
theorem f30.S : SFn ⟨P, I, F⟩ call c30 (f30.JS I call) := .all 3 (by kernel_rfl) (fun ρ h => by kernel_rfl) (fun n ρ h => by kernel_rfl)
theorem f30.qe : Ap.all (f30.e I call (f30.J I call n)) (fun l h => execC P I call (f30.JS I call n) c30.body 0 (finV I c30.results) (argV l) h) := fun v0 h => by kernel_rfl
theorem f30.code : codeOf P 30 = some c30 := by kernel_rfl
def f30.run (I : Inp) : SF := fun call n => Ap.ar (f30.e I call (f30.J I call n))
theorem f30.ok (I : Inp) (F : Nat → Option AFn) (hF : F 30 = some (.code c30)) : SfOk P I F 30 (f30.run I) := okOf hF (by kernel_rfl) (fun _ => f30.S) fun call n => f30.qe
theorem f30.lim (hp : prims 30 = none) {v0 : AVal} (hr : Res (f30.e I (AM.lim ⟨P, I, genF P prims⟩) (f30.J I (AM.lim ⟨P, I, genF P prims⟩) n) v0 h) Q) : Res ((AM.lim ⟨P, I, genF P prims⟩) 30 [v0] h) Q := limOf (n := n) hp f30.code (f30.ok I) hr rfl
/-! haruspex/haruspexref8.r -/
def c31 : AFunc := cOf P 31
abbrev f31.Js : Type := Unit
def f31.e (I : Inp) (call : CallFn) (j : f31.Js) (v0 : AVal) (h : AHeap) : Rs :=
  kC call 30 [v0] h fun v4 h1 =>
  kB .add (.str [114]) v4 fun v5 =>
  some (v5, h1)
theorem f31.S : SFn ⟨P, I, F⟩ call c31 (fun _ => jmp []) := .all 0 (by kernel_rfl) (fun ρ h => by kernel_rfl) (fun n ρ h => by kernel_rfl)
theorem f31.qe : Ap.all (f31.e I call ()) (fun l h => execC P I call (jmp []) c31.body 0 (finV I c31.results) (argV l) h) := fun v0 h => by kernel_rfl
theorem f31.code : codeOf P 31 = some c31 := by kernel_rfl
def f31.run (I : Inp) : SF := fun call n => Ap.ar (f31.e I call ())
theorem f31.ok (I : Inp) (F : Nat → Option AFn) (hF : F 31 = some (.code c31)) : SfOk P I F 31 (f31.run I) := okOf hF (by kernel_rfl) (fun _ => f31.S) fun call n => f31.qe
theorem f31.lim (hp : prims 31 = none) {n : Nat} {v0 : AVal} (hr : Res (f31.e I (AM.lim ⟨P, I, genF P prims⟩) () v0 h) Q) : Res ((AM.lim ⟨P, I, genF P prims⟩) 31 [v0] h) Q := limOf (n := n) hp f31.code (f31.ok I) hr rfl
/-! haruspex/ir.block -/
def c32 : AFunc := cOf P 32
abbrev f32.Js : Type := (A2 × A1)
def f32.b0 (I : Inp) (call : CallFn) (j : f32.Js) (v0 v3 : AVal) (h : AHeap) : Rs :=
  kN v0 fun v44 =>
  kF 4 v44 fun v45 =>
  kL I v45 h fun v46 =>
  kF 0 v3 fun v47 =>
  kL I v47 h fun v48 =>
  kI 3 v46 v48 fun v49 =>
  kF 2 v49 fun v50 =>
  kL I v50 h fun v51 =>
  kF 1 v3 fun v52 =>
  kL I v52 h fun v53 =>
  kI 5 v51 v53 fun v54 =>
  kF 2 v3 fun v55 =>
  kL I v55 h fun v56 =>
  kB .lss v56 (Z 0) fun v57 =>
  gP v57 .false (pFieldAddr 2 v3) h fun v59 h1 =>
  gP v57 .false (pLoad1 I v59 h1) h1 fun v60 h2 =>
  gV v57 .false v54 h2 fun v61 h3 =>
  gP v57 .false (pNilCheck v61) h3 fun v62 h4 =>
  gP v57 .false (pFieldAddr 0 v62) h4 fun v63 h5 =>
  gP v57 .false (pLoad1 I v63 h5) h5 fun v64 h6 =>
  gP v57 .false (pLenSl v64) h6 fun v65 h7 =>
  gP v57 .false (pBin .gtr v60 v65) h7 fun v66 h8 =>
  kP v57 bT v66 fun v67 =>
  sCond v67 (
  j.2 v54 h8) (
  some (.nilp, h8))
def f32.b1 (I : Inp) (call : CallFn) (j : f32.Js) (v5 : AVal) (h : AHeap) : Rs :=
  some (v5, h)
def f32.e (I : Inp) (call : CallFn) (j : f32.Js) (v0 v1 : AVal) (h : AHeap) : Rs :=
  bnd (sBox v1 h) fun v3 h1 =>
  bndP (pEq P .false .ptr .true v0 .nilp h1) fun v7 =>
  gP v7 .false (pFieldAddr 0 v3) h1 fun v9 h2 =>
  gP v7 .false (pLoad1 I v9 h2) h2 fun v10 h3 =>
  gP v7 .false (pBin .lss v10 (Z 0)) h3 fun v11 h4 =>
  kP v7 bT v11 fun v12 =>
  gP v12 .false (pFieldAddr 0 v3) h4 fun v14 h5 =>
  gP v12 .false (pLoad1 I v14 h5) h5 fun v15 h6 =>
  gV v12 .false v0 h6 fun v16 h7 =>
  gP v12 .false (pNilCheck v16) h7 fun v17 h8 =>
  gP v12 .false (pFieldAddr 4 v17) h8 fun v18 h9 =>
  gP v12 .false (pLoad1 I v18 h9) h9 fun v19 h10 =>
  gP v12 .false (pLenSl v19) h10 fun v20 h11 =>
  gP v12 .false (pBin .geq v15 v20) h11 fun v21 h12 =>
  kP v12 bT v21 fun v22 =>
  gP v22 .false (pFieldAddr 1 v3) h12 fun v24 h13 =>
  gP v22 .false (pLoad1 I v24 h13) h13 fun v25 h14 =>
  gP v22 .false (pBin .lss v25 (Z 0)) h14 fun v26 h15 =>
  kP v22 bT v26 fun v27 =>
  gP v27 .false (pFieldAddr 1 v3) h15 fun v29 h16 =>
  gP v27 .false (pLoad1 I v29 h16) h16 fun v30 h17 =>
  gV v27 .false v0 h17 fun v31 h18 =>
  gP v27 .false (pNilCheck v31) h18 fun v32 h19 =>
  gP v27 .false (pFieldAddr 4 v32) h19 fun v33 h20 =>
  gP v27 .false (pLoad1 I v33 h20) h20 fun v34 h21 =>
  gP v27 .false (pFieldAddr 0 v3) h21 fun v35 h22 =>
  gP v27 .false (pLoad1 I v35 h22) h22 fun v36 h23 =>
  gP v27 .false (pIndexAddr 3 v34 v36) h23 fun v37 h24 =>
  gP v27 .false (pFieldAddr 2 v37) h24 fun v38 h25 =>
  gP v27 .false (pLoad1 I v38 h25) h25 fun v39 h26 =>
  gP v27 .false (pLenSl v39) h26 fun v40 h27 =>
  gP v27 .false (pBin .geq v30 v40) h27 fun v41 h28 =>
  kP v27 bT v41 fun v42 =>
  sCond v42 (
  j.1 v0 v3 h28) (
  some (.nilp, h28))
def f32.J (I : Inp) (call : CallFn) (n : Nat) : f32.Js :=
  Nat.rec (motive := fun _ => f32.Js) (Zr.z, Zr.z) (fun _ j => (f32.b0 I call j, f32.b1 I call j)) n
theorem f32.n0 : (f32.J I call (n + 1)).1 = f32.b0 I call (f32.J I call n) := nrfl
theorem f32.n1 : (f32.J I call (n + 1)).2 = f32.b1 I call (f32.J I call n) := nrfl
def f32.JS (I : Inp) (call : CallFn) (n : Nat) : Jmp := (fun j : f32.Js => jmp [Ap.ap j.1 [0, 3], Ap.ap j.2 [5]]) (f32.J I call n)
theorem f32.S : SFn ⟨P, I, F⟩ call c32 (f32.JS I call) := .all 2 (by kernel_rfl) (fun ρ h => by kernel_rfl) (fun n ρ h => by kernel_rfl)
theorem f32.qe : Ap.all (f32.e I call (f32.J I call n)) (fun l h => execC P I call (f32.JS I call n) c32.body 0 (finV I c32.results) (argV l) h) := fun v0 v1 h => by kernel_rfl
theorem f32.code : codeOf P 32 = some c32 := by kernel_rfl
def f32.run (I : Inp) : SF := fun call n => Ap.ar (f32.e I call (f32.J I call n))
theorem f32.ok (I : Inp) (F : Nat → Option AFn) (hF : F 32 = some (.code c32)) : SfOk P I F 32 (f32.run I) := okOf hF (by kernel_rfl) (fun _ => f32.S) fun call n => f32.qe
theorem f32.lim (hp : prims 32 = none) {v0 v1 : AVal} (hr : Res (f32.e I (AM.lim ⟨P, I, genF P prims⟩) (f32.J I (AM.lim ⟨P, I, genF P prims⟩) n) v0 v1 h) Q) : Res ((AM.lim ⟨P, I, genF P prims⟩) 32 [v0, v1] h) Q := limOf (n := n) hp f32.code (f32.ok I) hr rfl
/-! haruspex/ir.Point -/
def c34 : AFunc := cOf P 34
abbrev f34.Js : Type := (((A3 × A1) × (A5 × A5)) × ((A5 × A8) × (A8 × (A8 × A9))))
def f34.b0 (I : Inp) (call : CallFn) (j : f34.Js) (v0 v1 v4 : AVal) (h : AHeap) : Rs :=
  kN v0 fun v17 =>
  kF 4 v17 fun v18 =>
  kL I v18 h fun v19 =>
  kZ v19 fun v20 =>
  j.1.2.1 v0 v1 v4 v20 (Z 0) h
def f34.b1 (I : Inp) (call : CallFn) (j : f34.Js) (v4 : AVal) (h : AHeap) : Rs :=
  bndP (pBuild [(Z 0), (Z 0), (Z 0)] []) fun v62 =>
  kS 3 v4 v62 h fun _ h1 =>
  sRet (sCons (sResN I 3 v4 h1) (sCons (some bF) (some []))) h1
def f34.b2 (I : Inp) (call : CallFn) (j : f34.Js) (v0 v1 v4 v20 v21 : AVal) (h : AHeap) : Rs :=
  kB .lss v21 v20 fun v22 =>
  sCond v22 (
  j.1.1.2 v4 h) (
  j.1.2.2 v0 v1 v4 v20 v21 h)
def f34.b3 (I : Inp) (call : CallFn) (j : f34.Js) (v0 v1 v4 v20 v21 : AVal) (h : AHeap) : Rs :=
  kN v0 fun v25 =>
  kF 4 v25 fun v26 =>
  kL I v26 h fun v27 =>
  kI 3 v27 v21 fun v29 =>
  kF 2 v29 fun v30 =>
  kL I v30 h fun v31 =>
  kZ v31 fun v32 =>
  j.2.1.2 v0 v1 v4 v21 v20 v21 v32 (Z 0) h
def f34.b4 (I : Inp) (call : CallFn) (j : f34.Js) (v0 v1 v4 v20 v21 : AVal) (h : AHeap) : Rs :=
  kB .add v21 (Z 1) fun v61 =>
  j.1.2.1 v0 v1 v4 v20 v61 h
def f34.b5 (I : Inp) (call : CallFn) (j : f34.Js) (v0 v1 v4 v6 v20 v21 v32 v33 : AVal) (h : AHeap) : Rs :=
  kB .lss v33 v32 fun v34 =>
  sCond v34 (
  j.2.1.1 v0 v1 v4 v20 v21 h) (
  j.2.2.1 v0 v1 v4 v6 v20 v21 v32 v33 h)
def f34.b6 (I : Inp) (call : CallFn) (j : f34.Js) (v0 v1 v4 v6 v20 v21 v32 v33 : AVal) (h : AHeap) : Rs :=
  kN v0 fun v37 =>
  kF 4 v37 fun v38 =>
  kL I v38 h fun v39 =>
  kI 3 v39 v6 fun v41 =>
  kF 2 v41 fun v42 =>
  kL I v42 h fun v43 =>
  kI 5 v43 v33 fun v45 =>
  kF 0 v45 fun v46 =>
  kL I v46 h fun v47 =>
  kZ v47 fun v48 =>
  kB .add v48 (Z 1) fun v49 =>
  kB .lss v1 v49 fun v52 =>
  sCond v52 (
  j.2.2.2.2 v0 v1 v4 v6 v49 v20 v21 v32 v33 h) (
  bndP (pBuild [(Z 0), (Z 0), (Z 0)] [(0, 1, v6), (1, 1, v33), (2, 1, v1)]) fun v56 =>
  kS 3 v4 v56 h fun _ h1 =>
  sRet (sCons (sResN I 3 v4 h1) (sCons (some bT) (some []))) h1)
def f34.b7 (I : Inp) (call : CallFn) (j : f34.Js) (v0 v1 v4 v6 v20 v21 v32 v33 : AVal) (h : AHeap) : Rs :=
  kB .add v33 (Z 1) fun v60 =>
  j.2.1.2 v0 v1 v4 v6 v20 v21 v32 v60 h
def f34.b8 (I : Inp) (call : CallFn) (j : f34.Js) (v0 v1 v4 v6 v8 v20 v21 v32 v33 : AVal) (h : AHeap) : Rs :=
  kB .sub v1 v8 fun v59 =>
  j.2.2.2.1 v0 v59 v4 v6 v20 v21 v32 v33 h
def f34.e (I : Inp) (call : CallFn) (j : f34.Js) (v0 v1 : AVal) (h : AHeap) : Rs :=
  kA [(Z 0), (Z 0), (Z 0)] h fun v4 h1 =>
  bndP (pEq P .false .ptr .true v0 .nilp h1) fun v10 =>
  gV v10 .false v1 h1 fun v12 h2 =>
  gP v10 .false (pBin .lss v12 (Z 0)) h2 fun v13 h3 =>
  kP v10 bT v13 fun v14 =>
  sCond v14 (
  j.1.1.1 v0 v1 v4 h3) (
  bndP (pBuild [(Z 0), (Z 0), (Z 0)] []) fun v15 =>
  kS 3 v4 v15 h3 fun _ h4 =>
  sRet (sCons (sResN I 3 v4 h4) (sCons (some bF) (some []))) h4)
def f34.J (I : Inp) (call : CallFn) (n : Nat) : f34.Js :=
  Nat.rec (motive := fun _ => f34.Js) (((Zr.z, Zr.z), (Zr.z, Zr.z)), ((Zr.z, Zr.z), (Zr.z, (Zr.z, Zr.z)))) (fun _ j => (((f34.b0 I call j, f34.b1 I call j), (f34.b2 I call j, f34.b3 I call j)), ((f34.b4 I call j, f34.b5 I call j), (f34.b6 I call j, (f34.b7 I call j, f34.b8 I call j))))) n
theorem f34.n0 : (f34.J I call (n + 1)).1.1.1 = f34.b0 I call (f34.J I call n) := nrfl
theorem f34.n1 : (f34.J I call (n + 1)).1.1.2 = f34.b1 I call (f34.J I call n) := nrfl
theorem f34.n2 : (f34.J I call (n + 1)).1.2.1 = f34.b2 I call (f34.J I call n) := nrfl
theorem f34.n3 : (f34.J I call (n + 1)).1.2.2 = f34.b3 I call (f34.J I call n) := nrfl
theorem f34.n4 : (f34.J I call (n + 1)).2.1.1 = f34.b4 I call (f34.J I call n) := nrfl
theorem f34.n5 : (f34.J I call (n + 1)).2.1.2 = f34.b5 I call (f34.J I call n) := nrfl
theorem f34.n6 : (f34.J I call (n + 1)).2.2.1 = f34.b6 I call (f34.J I call n) := nrfl
theorem f34.n7 : (f34.J I call (n + 1)).2.2.2.1 = f34.b7 I call (f34.J I call n) := nrfl
theorem f34.n8 : (f34.J I call (n + 1)).2.2.2.2 = f34.b8 I call (f34.J I call n) := nrfl
def f34.JS (I : Inp) (call : CallFn) (n : Nat) : Jmp := (fun j : f34.Js => jmp [Ap.ap j.1.1.1 [0, 1, 4], Ap.ap j.1.1.2 [4], Ap.ap j.1.2.1 [0, 1, 4, 20, 21], Ap.ap j.1.2.2 [0, 1, 4, 20, 21], Ap.ap j.2.1.1 [0, 1, 4, 20, 21], Ap.ap j.2.1.2 [0, 1, 4, 6, 20, 21, 32, 33], Ap.ap j.2.2.1 [0, 1, 4, 6, 20, 21, 32, 33], Ap.ap j.2.2.2.1 [0, 1, 4, 6, 20, 21, 32, 33], Ap.ap j.2.2.2.2 [0, 1, 4, 6, 8, 20, 21, 32, 33]]) (f34.J I call n)
theorem f34.S : SFn ⟨P, I, F⟩ call c34 (f34.JS I call) := .all 9 (by kernel_rfl) (fun ρ h => by kernel_rfl) (fun n ρ h => by kernel_rfl)
theorem f34.qe : Ap.all (f34.e I call (f34.J I call n)) (fun l h => execC P I call (f34.JS I call n) c34.body 0 (finV I c34.results) (argV l) h) := fun v0 v1 h => by kernel_rfl
theorem f34.code : codeOf P 34 = some c34 := by kernel_rfl
def f34.run (I : Inp) : SF := fun call n => Ap.ar (f34.e I call (f34.J I call n))
theorem f34.ok (I : Inp) (F : Nat → Option AFn) (hF : F 34 = some (.code c34)) : SfOk P I F 34 (f34.run I) := okOf hF (by kernel_rfl) (fun _ => f34.S) fun call n => f34.qe
theorem f34.lim (hp : prims 34 = none) {v0 v1 : AVal} (hr : Res (f34.e I (AM.lim ⟨P, I, genF P prims⟩) (f34.J I (AM.lim ⟨P, I, genF P prims⟩) n) v0 v1 h) Q) : Res ((AM.lim ⟨P, I, genF P prims⟩) 34 [v0, v1] h) Q := limOf (n := n) hp f34.code (f34.ok I) hr rfl
/-! haruspex/ir.End -/
def c35 : AFunc := cOf P 35
abbrev f35.Js : Type := (A2 × A1)
def f35.b0 (I : Inp) (call : CallFn) (j : f35.Js) (v0 v5 : AVal) (h : AHeap) : Rs :=
  kM I 3 v5 h fun v17 =>
  kC call 32 [v0, v17] h fun v18 h1 =>
  kF 2 v5 fun v19 =>
  kL I v19 h1 fun v20 =>
  kN v18 fun v22 =>
  kF 0 v22 fun v23 =>
  kL I v23 h1 fun v24 =>
  kZ v24 fun v25 =>
  kB .lss v20 v25 fun v26 =>
  sCond v26 (
  j.2 v18 h1) (
  some (.nilp, h1))
def f35.b1 (I : Inp) (call : CallFn) (j : f35.Js) (v7 : AVal) (h : AHeap) : Rs :=
  some (v7, h)
def f35.e (I : Inp) (call : CallFn) (j : f35.Js) (v0 v1 : AVal) (h : AHeap) : Rs :=
  kC call 34 [v0, v1] h fun v11 h1 =>
  kX v11 0 fun v12 =>
  kX v11 1 fun v13 =>
  kA [(Z 0), (Z 0), (Z 0)] h1 fun v5 h2 =>
  kS 3 v5 v12 h2 fun _ h3 =>
  kU .not v13 fun v15 =>
  sCond v15 (
  j.1 v0 v5 h3) (
  some (.nilp, h3))
def f35.J (I : Inp) (call : CallFn) (n : Nat) : f35.Js :=
  Nat.rec (motive := fun _ => f35.Js) (Zr.z, Zr.z) (fun _ j => (f35.b0 I call j, f35.b1 I call j)) n
theorem f35.n0 : (f35.J I call (n + 1)).1 = f35.b0 I call (f35.J I call n) := nrfl
theorem f35.n1 : (f35.J I call (n + 1)).2 = f35.b1 I call (f35.J I call n) := nrfl
def f35.JS (I : Inp) (call : CallFn) (n : Nat) : Jmp := (fun j : f35.Js => jmp [Ap.ap j.1 [0, 5], Ap.ap j.2 [7]]) (f35.J I call n)
theorem f35.S : SFn ⟨P, I, F⟩ call c35 (f35.JS I call) := .all 2 (by kernel_rfl) (fun ρ h => by kernel_rfl) (fun n ρ h => by kernel_rfl)
theorem f35.qe : Ap.all (f35.e I call (f35.J I call n)) (fun l h => execC P I call (f35.JS I call n) c35.body 0 (finV I c35.results) (argV l) h) := fun v0 v1 h => by kernel_rfl
theorem f35.code : codeOf P 35 = some c35 := by kernel_rfl
def f35.run (I : Inp) : SF := fun call n => Ap.ar (f35.e I call (f35.J I call n))
theorem f35.ok (I : Inp) (F : Nat → Option AFn) (hF : F 35 = some (.code c35)) : SfOk P I F 35 (f35.run I) := okOf hF (by kernel_rfl) (fun _ => f35.S) fun call n => f35.qe
theorem f35.lim (hp : prims 35 = none) {v0 v1 : AVal} (hr : Res (f35.e I (AM.lim ⟨P, I, genF P prims⟩) (f35.J I (AM.lim ⟨P, I, genF P prims⟩) n) v0 v1 h) Q) : Res ((AM.lim ⟨P, I, genF P prims⟩) 35 [v0, v1] h) Q := limOf (n := n) hp f35.code (f35.ok I) hr rfl
/-! haruspex/ir.Outs -/
def c36 : AFunc := cOf P 36
abbrev f36.Js : Type := (A0 × A2)
def f36.b0 (I : Inp) (call : CallFn) (j : f36.Js) (h : AHeap) : Rs :=
  some (.nils, h)
def f36.b1 (I : Inp) (call : CallFn) (j : f36.Js) (v0 v3 : AVal) (h : AHeap) : Rs :=
  sCond v3 (
  kN v0 fun v32 =>
  kF 1 v32 fun v33 =>
  kL I v33 h fun v34 =>
  kB .eql v34 (Z 2) fun v35 =>
  sCond v35 (
  j.1 h) (
  kN v0 fun v37 =>
  kF 3 v37 fun v38 =>
  kL I v38 h fun v39 =>
  kN v0 fun v41 =>
  kF 4 v41 fun v42 =>
  kL I v42 h fun v43 =>
  bnd (sBuildSlice [(Z 0)] 2 [(0, 1, v39), (1, 1, v43)] h) fun v44 h1 =>
  some (v44, h1))) (
  kN v0 fun v26 =>
  kF 3 v26 fun v27 =>
  kL I v27 h fun v28 =>
  bnd (sBuildSlice [(Z 0)] 1 [(0, 1, v28)] h) fun v29 h2 =>
  some (v29, h2))
def f36.e (I : Inp) (call : CallFn) (j : f36.Js) (v0 : AVal) (h : AHeap) : Rs :=
  kN v0 fun v5 =>
  kF 1 v5 fun v6 =>
  kL I v6 h fun v7 =>
  kB .eql v7 (Z 1) fun v8 =>
  sCond v8 (
  kN v0 fun v10 =>
  kF 1 v10 fun v11 =>
  kL I v11 h fun v12 =>
  kB .eql v12 (Z 2) fun v13 =>
  gV v13 .true v0 h fun v15 h1 =>
  gP v13 .true (pNilCheck v15) h1 fun v16 h2 =>
  gP v13 .true (pFieldAddr 3 v16) h2 fun v17 h3 =>
  gP v13 .true (pLoad1 I v17 h3) h3 fun v18 h4 =>
  gV v13 .true v0 h4 fun v19 h5 =>
  gP v13 .true (pNilCheck v19) h5 fun v20 h6 =>
  gP v13 .true (pFieldAddr 4 v20) h6 fun v21 h7 =>
  gP v13 .true (pLoad1 I v21 h7) h7 fun v22 h8 =>
  gP v13 .true (pBin .eql v18 v22) h8 fun v23 h9 =>
  kP v13 v23 bF fun v24 =>
  j.2 v0 v24 h9) (
  j.2 v0 v8 h)
def f36.J (I : Inp) (call : CallFn) (n : Nat) : f36.Js :=
  Nat.rec (motive := fun _ => f36.Js) (Zr.z, Zr.z) (fun _ j => (f36.b0 I call j, f36.b1 I call j)) n
theorem f36.n0 : (f36.J I call (n + 1)).1 = f36.b0 I call (f36.J I call n) := nrfl
theorem f36.n1 : (f36.J I call (n + 1)).2 = f36.b1 I call (f36.J I call n) := nrfl
def f36.JS (I : Inp) (call : CallFn) (n : Nat) : Jmp := (fun j : f36.Js => jmp [Ap.ap j.1 [], Ap.ap j.2 [0, 3]]) (f36.J I call n)
theorem f36.S : SFn ⟨P, I, F⟩ call c36 (f36.JS I call) := .all 2 (by kernel_rfl) (fun ρ h => by kernel_rfl) (fun n ρ h => by kernel_rfl)
theorem f36.qe : Ap.all (f36.e I call (f36.J I call n)) (fun l h => execC P I call (f36.JS I call n) c36.body 0 (finV I c36.results) (argV l) h) := fun v0 h => by kernel_rfl
theorem f36.code : codeOf P 36 = some c36 := by kernel_rfl
def f36.run (I : Inp) : SF := fun call n => Ap.ar (f36.e I call (f36.J I call n))
theorem f36.ok (I : Inp) (F : Nat → Option AFn) (hF : F 36 = some (.code c36)) : SfOk P I F 36 (f36.run I) := okOf hF (by kernel_rfl) (fun _ => f36.S) fun call n => f36.qe
theorem f36.lim (hp : prims 36 = none) {v0 : AVal} (hr : Res (f36.e I (AM.lim ⟨P, I, genF P prims⟩) (f36.J I (AM.lim ⟨P, I, genF P prims⟩) n) v0 h) Q) : Res ((AM.lim ⟨P, I, genF P prims⟩) 36 [v0] h) Q := limOf (n := n) hp f36.code (f36.ok I) hr rfl
/-! haruspex/ir.reg -/
def c37 : AFunc := cOf P 37
abbrev f37.Js : Type := Unit
def f37.e (I : Inp) (call : CallFn) (j : f37.Js) (v0 : AVal) (h : AHeap) : Rs :=
  kC call 28 [v0] h fun v4 h1 =>
  kB .add (.str [114]) v4 fun v5 =>
  some (v5, h1)
theorem f37.S : SFn ⟨P, I, F⟩ call c37 (fun _ => jmp []) := .all 0 (by kernel_rfl) (fun ρ h => by kernel_rfl) (fun n ρ h => by kernel_rfl)
theorem f37.qe : Ap.all (f37.e I call ()) (fun l h => execC P I call (jmp []) c37.body 0 (finV I c37.results) (argV l) h) := fun v0 h => by kernel_rfl
theorem f37.code : codeOf P 37 = some c37 := by kernel_rfl
def f37.run (I : Inp) : SF := fun call n => Ap.ar (f37.e I call ())
theorem f37.ok (I : Inp) (F : Nat → Option AFn) (hF : F 37 = some (.code c37)) : SfOk P I F 37 (f37.run I) := okOf hF (by kernel_rfl) (fun _ => f37.S) fun call n => f37.qe
theorem f37.lim (hp : prims 37 = none) {n : Nat} {v0 : AVal} (hr : Res (f37.e I (AM.lim ⟨P, I, genF P prims⟩) () v0 h) Q) : Res ((AM.lim ⟨P, I, genF P prims⟩) 37 [v0] h) Q := limOf (n := n) hp f37.code (f37.ok I) hr rfl
/-! haruspex/ir.value -/
def c38 : AFunc := cOf P 38
abbrev f38.Js : Type := A0
def f38.b0 (I : Inp) (call : CallFn) (j : f38.Js) (h : AHeap) : Rs :=
  some ((.str []), h)
def f38.e (I : Inp) (call : CallFn) (j : f38.Js) (v0 : AVal) (h : AHeap) : Rs :=
  bnd (sBox v0 h) fun v1 h1 =>
  kF 4 v1 fun v4 =>
  kL I v4 h1 fun v5 =>
  kC call 28 [v5] h1 fun v6 h2 =>
  kF 0 v1 fun v7 =>
  kL I v7 h2 fun v8 =>
  kB .eql v8 (Z 1) fun v10 =>
  sCond v10 (
  kB .eql v8 (Z 2) fun v14 =>
  sCond v14 (
  kB .eql v8 (Z 3) fun v25 =>
  sCond v25 (
  kB .eql v8 (Z 4) fun v27 =>
  sCond v27 (
  kB .eql v8 (Z 5) fun v29 =>
  sCond v29 (
  kB .eql v8 (Z 6) fun v31 =>
  sCond v31 (
  kB .eql v8 (Z 7) fun v36 =>
  sCond v36 (
  kB .eql v8 (Z 10) fun v44 =>
  sCond v44 (
  kB .eql v8 (Z 11) fun v48 =>
  sCond v48 (
  kB .eql v8 (Z 12) fun v54 =>
  sCond v54 (
  kB .eql v8 (Z 13) fun v62 =>
  sCond v62 (
  kB .eql v8 (Z 14) fun v72 =>
  sCond v72 (
  j h2) (
  kF 2 v1 fun v73 =>
  kL I v73 h2 fun v74 =>
  kC call 37 [v74] h2 fun v75 h3 =>
  kB .add (.str [99, 97, 108, 108, 32]) v75 fun v76 =>
  kB .add v76 (.str [46]) fun v77 =>
  kB .add v77 v6 fun v79 =>
  kF 5 v1 fun v80 =>
  kL I v80 h3 fun v81 =>
  kC call 41 [v81] h3 fun v82 h4 =>
  kB .add v79 v82 fun v83 =>
  sCheck (sSame (lift (pLoad1 I v80 h2) h2) v81 && true) (
  some (v83, h4)))) (
  kF 2 v1 fun v63 =>
  kL I v63 h2 fun v64 =>
  kC call 37 [v64] h2 fun v65 h5 =>
  kB .add (.str [99, 97, 108, 108, 32]) v65 fun v66 =>
  kF 5 v1 fun v67 =>
  kL I v67 h5 fun v68 =>
  kC call 41 [v68] h5 fun v69 h6 =>
  kB .add v66 v69 fun v70 =>
  sCheck (sSame (lift (pLoad1 I v67 h2) h2) v68 && true) (
  some (v70, h6)))) (
  kB .add (.str [99, 97, 108, 108, 32]) v6 fun v56 =>
  kF 5 v1 fun v57 =>
  kL I v57 h2 fun v58 =>
  kC call 41 [v58] h2 fun v59 h7 =>
  kB .add v56 v59 fun v60 =>
  some (v60, h7))) (
  kF 2 v1 fun v49 =>
  kL I v49 h2 fun v50 =>
  kC call 37 [v50] h2 fun v51 h8 =>
  kB .add (.str [105, 102, 97, 99, 101, 32]) v51 fun v52 =>
  some (v52, h8))) (
  kB .add (.str [102, 117, 110, 99, 32]) v6 fun v46 =>
  some (v46, h2))) (
  kF 2 v1 fun v37 =>
  kL I v37 h2 fun v38 =>
  kC call 37 [v38] h2 fun v39 h9 =>
  kB .add v39 (.str [46]) fun v40 =>
  kB .add v40 v6 fun v42 =>
  some (v42, h9))) (
  kF 2 v1 fun v32 =>
  kL I v32 h2 fun v33 =>
  kC call 37 [v33] h2 fun v34 h10 =>
  some (v34, h10))) (
  some ((.str [110, 101, 119]), h2))) (
  some ((.str [110, 105, 108]), h2))) (
  some ((.str [115, 111, 117, 114, 99, 101]), h2))) (
  kF 2 v1 fun v15 =>
  kL I v15 h2 fun v16 =>
  kC call 37 [v16] h2 fun v17 h11 =>
  kB .add (.str [97, 100, 100, 32]) v17 fun v18 =>
  kB .add v18 (.str [32]) fun v19 =>
  kF 3 v1 fun v20 =>
  kL I v20 h11 fun v21 =>
  kC call 37 [v21] h11 fun v22 h12 =>
  kB .add v19 v22 fun v23 =>
  sCheck (sSame (lift (pLoad1 I v20 h2) h2) v21 && true) (
  some (v23, h12)))) (
  kB .add (.str [99, 111, 110, 115, 116, 32]) v6 fun v12 =>
  some (v12, h2))
def f38.J (I : Inp) (call : CallFn) (n : Nat) : f38.Js :=
  Nat.rec (motive := fun _ => f38.Js) Zr.z (fun _ j => f38.b0 I call j) n
theorem f38.n0 : (f38.J I call (n + 1)) = f38.b0 I call (f38.J I call n) := nrfl
def f38.JS (I : Inp) (call : CallFn) (n : Nat) : Jmp := (fun j : f38.Js => jmp [Ap.ap j []]) (f38.J I call n)
theorem f38.S : SFn ⟨P, I, F⟩ call c38 (f38.JS I call) := .all 1 (by kernel_rfl) (fun ρ h => by kernel_rfl) (fun n ρ h => by kernel_rfl)
theorem f38.qe : Ap.all (f38.e I call (f38.J I call n)) (fun l h => execC P I call (f38.JS I call n) c38.body 0 (finV I c38.results) (argV l) h) := fun v0 h => by kernel_rfl
theorem f38.code : codeOf P 38 = some c38 := by kernel_rfl
def f38.run (I : Inp) : SF := fun call n => Ap.ar (f38.e I call (f38.J I call n))
theorem f38.ok (I : Inp) (F : Nat → Option AFn) (hF : F 38 = some (.code c38)) : SfOk P I F 38 (f38.run I) := okOf hF (by kernel_rfl) (fun _ => f38.S) fun call n => f38.qe
theorem f38.lim (hp : prims 38 = none) {v0 : AVal} (hr : Res (f38.e I (AM.lim ⟨P, I, genF P prims⟩) (f38.J I (AM.lim ⟨P, I, genF P prims⟩) n) v0 h) Q) : Res ((AM.lim ⟨P, I, genF P prims⟩) 38 [v0] h) Q := limOf (n := n) hp f38.code (f38.ok I) hr rfl
/-! haruspex/haruspexref8.args -/
def c39 : AFunc := cOf P 39
abbrev f39.Js : Type := ((A1 × A3) × (A3 × (A3 × A3)))
def f39.b0 (I : Inp) (call : CallFn) (j : f39.Js) (v3 : AVal) (h : AHeap) : Rs :=
  kB .add v3 (.str [41]) fun v23 =>
  some (v23, h)
def f39.b1 (I : Inp) (call : CallFn) (j : f39.Js) (v0 v3 v4 : AVal) (h : AHeap) : Rs :=
  kZ v0 fun v7 =>
  kB .lss v4 v7 fun v8 =>
  sCond v8 (
  j.1.1 v3 h) (
  j.2.1 v0 v3 v4 h)
def f39.b2 (I : Inp) (call : CallFn) (j : f39.Js) (v0 v3 v4 : AVal) (h : AHeap) : Rs :=
  kB .gtr v4 (Z 0) fun v12 =>
  sCond v12 (
  j.2.2.2 v0 v3 v4 h) (
  kB .add v3 (.str [44, 32]) fun v14 =>
  j.2.2.2 v0 v14 v4 h)
def f39.b3 (I : Inp) (call : CallFn) (j : f39.Js) (v0 v3 v4 : AVal) (h : AHeap) : Rs :=
  kB .add v4 (Z 1) fun v10 =>
  j.1.2 v0 v3 v10 h
def f39.b4 (I : Inp) (call : CallFn) (j : f39.Js) (v0 v3 v4 : AVal) (h : AHeap) : Rs :=
  kI 1 v0 v4 fun v18 =>
  kL I v18 h fun v19 =>
  kC call 31 [v19] h fun v20 h1 =>
  kB .add v3 v20 fun v21 =>
  j.2.2.1 v0 v21 v4 h1
def f39.e (I : Inp) (call : CallFn) (j : f39.Js) (v0 : AVal) (h : AHeap) : Rs :=
  j.1.2 v0 (.str [40]) (Z 0) h
def f39.J (I : Inp) (call : CallFn) (n : Nat) : f39.Js :=
  Nat.rec (motive := fun _ => f39.Js) ((Zr.z, Zr.z), (Zr.z, (Zr.z, Zr.z))) (fun _ j => ((f39.b0 I call j, f39.b1 I call j), (f39.b2 I call j, (f39.b3 I call j, f39.b4 I call j)))) n
theorem f39.n0 : (f39.J I call (n + 1)).1.1 = f39.b0 I call (f39.J I call n) := nrfl
theorem f39.n1 : (f39.J I call (n + 1)).1.2 = f39.b1 I call (f39.J I call n) := nrfl
theorem f39.n2 : (f39.J I call (n + 1)).2.1 = f39.b2 I call (f39.J I call n) := nrfl
theorem f39.n3 : (f39.J I call (n + 1)).2.2.1 = f39.b3 I call (f39.J I call n) := nrfl
theorem f39.n4 : (f39.J I call (n + 1)).2.2.2 = f39.b4 I call (f39.J I call n) := nrfl
def f39.JS (I : Inp) (call : CallFn) (n : Nat) : Jmp := (fun j : f39.Js => jmp [Ap.ap j.1.1 [3], Ap.ap j.1.2 [0, 3, 4], Ap.ap j.2.1 [0, 3, 4], Ap.ap j.2.2.1 [0, 3, 4], Ap.ap j.2.2.2 [0, 3, 4]]) (f39.J I call n)
theorem f39.S : SFn ⟨P, I, F⟩ call c39 (f39.JS I call) := .all 5 (by kernel_rfl) (fun ρ h => by kernel_rfl) (fun n ρ h => by kernel_rfl)
theorem f39.qe : Ap.all (f39.e I call (f39.J I call n)) (fun l h => execC P I call (f39.JS I call n) c39.body 0 (finV I c39.results) (argV l) h) := fun v0 h => by kernel_rfl
theorem f39.code : codeOf P 39 = some c39 := by kernel_rfl
def f39.run (I : Inp) : SF := fun call n => Ap.ar (f39.e I call (f39.J I call n))
theorem f39.ok (I : Inp) (F : Nat → Option AFn) (hF : F 39 = some (.code c39)) : SfOk P I F 39 (f39.run I) := okOf hF (by kernel_rfl) (fun _ => f39.S) fun call n => f39.qe
theorem f39.lim (hp : prims 39 = none) {v0 : AVal} (hr : Res (f39.e I (AM.lim ⟨P, I, genF P prims⟩) (f39.J I (AM.lim ⟨P, I, genF P prims⟩) n) v0 h) Q) : Res ((AM.lim ⟨P, I, genF P prims⟩) 39 [v0] h) Q := limOf (n := n) hp f39.code (f39.ok I) hr rfl
/-! internal/strconv.Itoa -/
def c40 : AFunc := cOf P 40
abbrev f40.Js : Type := Unit
def f40.e (I : Inp) (call : CallFn) (j : f40.Js) (v0 : AVal) (h : AHeap) : Rs :=
  kC call 42 [v0, (Z 10)] h fun v4 h1 =>
  some (v4, h1)
theorem f40.S : SFn ⟨P, I, F⟩ call c40 (fun _ => jmp []) := .all 0 (by kernel_rfl) (fun ρ h => by kernel_rfl) (fun n ρ h => by kernel_rfl)
theorem f40.qe : Ap.all (f40.e I call ()) (fun l h => execC P I call (jmp []) c40.body 0 (finV I c40.results) (argV l) h) := fun v0 h => by kernel_rfl
theorem f40.code : codeOf P 40 = some c40 := by kernel_rfl
def f40.run (I : Inp) : SF := fun call n => Ap.ar (f40.e I call ())
theorem f40.ok (I : Inp) (F : Nat → Option AFn) (hF : F 40 = some (.code c40)) : SfOk P I F 40 (f40.run I) := okOf hF (by kernel_rfl) (fun _ => f40.S) fun call n => f40.qe
/-! haruspex/ir.args -/
def c41 : AFunc := cOf P 41
abbrev f41.Js : Type := ((A1 × A4) × (A4 × A4))
def f41.b0 (I : Inp) (call : CallFn) (j : f41.Js) (v3 : AVal) (h : AHeap) : Rs :=
  kC call 43 [v3, (.str [44, 32])] h fun v19 h1 =>
  kB .add (.str [40]) v19 fun v20 =>
  kB .add v20 (.str [41]) fun v21 =>
  some (v21, h1)
def f41.b1 (I : Inp) (call : CallFn) (j : f41.Js) (v3 v6 v7 v8 : AVal) (h : AHeap) : Rs :=
  kB .lss v8 v7 fun v9 =>
  sCond v9 (
  j.1.1 v3 h) (
  j.2.1 v3 v6 v7 v8 h)
def f41.b2 (I : Inp) (call : CallFn) (j : f41.Js) (v3 v6 v7 v8 : AVal) (h : AHeap) : Rs :=
  kI 1 v6 v8 fun v10 =>
  kL I v10 h fun v11 =>
  kC call 37 [v11] h fun v14 h1 =>
  bnd (sBuildSlice [(.str [])] 1 [(0, 1, v14)] h1) fun v15 h2 =>
  bnd (sAppend I 1 16 v3 v15 h2) fun v16 h3 =>
  j.2.2 v16 v6 v7 v8 h3
def f41.b3 (I : Inp) (call : CallFn) (j : f41.Js) (v3 v6 v7 v8 : AVal) (h : AHeap) : Rs :=
  kB .add v8 (Z 1) fun v17 =>
  j.1.2 v3 v6 v7 v17 h
def f41.e (I : Inp) (call : CallFn) (j : f41.Js) (v0 : AVal) (h : AHeap) : Rs :=
  kZ v0 fun v7 =>
  j.1.2 .nils v0 v7 (Z 0) h
def f41.J (I : Inp) (call : CallFn) (n : Nat) : f41.Js :=
  Nat.rec (motive := fun _ => f41.Js) ((Zr.z, Zr.z), (Zr.z, Zr.z)) (fun _ j => ((f41.b0 I call j, f41.b1 I call j), (f41.b2 I call j, f41.b3 I call j))) n
theorem f41.n0 : (f41.J I call (n + 1)).1.1 = f41.b0 I call (f41.J I call n) := nrfl
theorem f41.n1 : (f41.J I call (n + 1)).1.2 = f41.b1 I call (f41.J I call n) := nrfl
theorem f41.n2 : (f41.J I call (n + 1)).2.1 = f41.b2 I call (f41.J I call n) := nrfl
theorem f41.n3 : (f41.J I call (n + 1)).2.2 = f41.b3 I call (f41.J I call n) := nrfl
def f41.JS (I : Inp) (call : CallFn) (n : Nat) : Jmp := (fun j : f41.Js => jmp [Ap.ap j.1.1 [3], Ap.ap j.1.2 [3, 6, 7, 8], Ap.ap j.2.1 [3, 6, 7, 8], Ap.ap j.2.2 [3, 6, 7, 8]]) (f41.J I call n)
theorem f41.S : SFn ⟨P, I, F⟩ call c41 (f41.JS I call) := .all 4 (by kernel_rfl) (fun ρ h => by kernel_rfl) (fun n ρ h => by kernel_rfl)
theorem f41.qe : Ap.all (f41.e I call (f41.J I call n)) (fun l h => execC P I call (f41.JS I call n) c41.body 0 (finV I c41.results) (argV l) h) := fun v0 h => by kernel_rfl
theorem f41.code : codeOf P 41 = some c41 := by kernel_rfl
def f41.run (I : Inp) : SF := fun call n => Ap.ar (f41.e I call (f41.J I call n))
theorem f41.ok (I : Inp) (F : Nat → Option AFn) (hF : F 41 = some (.code c41)) : SfOk P I F 41 (f41.run I) := okOf hF (by kernel_rfl) (fun _ => f41.S) fun call n => f41.qe
theorem f41.lim (hp : prims 41 = none) {v0 : AVal} (hr : Res (f41.e I (AM.lim ⟨P, I, genF P prims⟩) (f41.J I (AM.lim ⟨P, I, genF P prims⟩) n) v0 h) Q) : Res ((AM.lim ⟨P, I, genF P prims⟩) 41 [v0] h) Q := limOf (n := n) hp f41.code (f41.ok I) hr rfl
/-! internal/strconv.FormatInt -/
def c42 : AFunc := cOf P 42
abbrev f42.Js : Type := ((A2 × A1) × (A3 × A2))
def f42.b0 (I : Inp) (call : CallFn) (j : f42.Js) (v0 v1 : AVal) (h : AHeap) : Rs :=
  bndP (pToInt .u64 v0) fun v46 =>
  kB .lss v0 (Z 0) fun v49 =>
  kC call 47 [.nils, v46, v1, v49, bF] h fun v50 h1 =>
  kX v50 0 fun v51 =>
  kX v50 1 fun v52 =>
  some (v52, h1)
def f42.b1 (I : Inp) (call : CallFn) (j : f42.Js) (v0 : AVal) (h : AHeap) : Rs :=
  kA [(.int .u8 (.ofNat 0)), (.int .u8 (.ofNat 0)), (.int .u8 (.ofNat 0)), (.int .u8 (.ofNat 0)), (.int .u8 (.ofNat 0)), (.int .u8 (.ofNat 0)), (.int .u8 (.ofNat 0)), (.int .u8 (.ofNat 0)), (.int .u8 (.ofNat 0)), (.int .u8 (.ofNat 0)), (.int .u8 (.ofNat 0)), (.int .u8 (.ofNat 0)), (.int .u8 (.ofNat 0)), (.int .u8 (.ofNat 0)), (.int .u8 (.ofNat 0)), (.int .u8 (.ofNat 0)), (.int .u8 (.ofNat 0)), (.int .u8 (.ofNat 0)), (.int .u8 (.ofNat 0)), (.int .u8 (.ofNat 0)), (.int .u8 (.ofNat 0)), (.int .u8 (.ofNat 0)), (.int .u8 (.ofNat 0)), (.int .u8 (.ofNat 0))] h fun v5 h1 =>
  bndP (pToInt .u64 v0) fun v21 =>
  kB .lss v0 (Z 0) fun v23 =>
  sCond v23 (
  j.2.1 v0 v5 v21 h1) (
  kU .neg v21 fun v25 =>
  j.2.1 v0 v5 v25 h1)
def f42.b2 (I : Inp) (call : CallFn) (j : f42.Js) (v0 v5 v6 : AVal) (h : AHeap) : Rs :=
  kC call 45 [v6] h fun v27 h1 =>
  kB .add (Z 1) v27 fun v29 =>
  bndP (pSliceArr 24 1 v5 (some (Z 1)) (some v29) none) fun v30 =>
  kC call 46 [v30, v6] h1 fun v32 h2 =>
  kB .lss v0 (Z 0) fun v34 =>
  sCond v34 (
  j.2.2 v5 v27 h2) (
  bndP (pIndexAddrArr 24 1 v5 (Z 0)) fun v35 =>
  kS 1 v35 (.int .u8 (.ofNat 45)) h2 fun _ h3 =>
  kB .add (Z 1) v27 fun v37 =>
  bndP (pSliceArr 24 1 v5 none (some v37) none) fun v38 =>
  bndP (pToStr I v38 h3) fun v39 =>
  some (v39, h3))
def f42.b3 (I : Inp) (call : CallFn) (j : f42.Js) (v5 v7 : AVal) (h : AHeap) : Rs :=
  kB .add (Z 1) v7 fun v41 =>
  bndP (pSliceArr 24 1 v5 (some (Z 1)) (some v41) none) fun v42 =>
  bndP (pToStr I v42 h) fun v43 =>
  some (v43, h)
def f42.e (I : Inp) (call : CallFn) (j : f42.Js) (v0 v1 : AVal) (h : AHeap) : Rs :=
  kB .eql v1 (Z 10) fun v11 =>
  sCond v11 (
  j.1.1 v0 v1 h) (
  kB .leq (Z 0) v0 fun v13 =>
  gV v13 .true v0 h fun v15 h1 =>
  gP v13 .true (pBin .lss v15 (Z 100)) h1 fun v16 h2 =>
  kP v13 v16 bF fun v17 =>
  sCond v17 (
  j.1.2 v0 h2) (
  kC call 44 [v0] h2 fun v19 h3 =>
  some (v19, h3)))
def f42.J (I : Inp) (call : CallFn) (n : Nat) : f42.Js :=
  Nat.rec (motive := fun _ => f42.Js) ((Zr.z, Zr.z), (Zr.z, Zr.z)) (fun _ j => ((f42.b0 I call j, f42.b1 I call j), (f42.b2 I call j, f42.b3 I call j))) n
def f42.JS (I : Inp) (call : CallFn) (n : Nat) : Jmp := (fun j : f42.Js => jmp [Ap.ap j.1.1 [0, 1], Ap.ap j.1.2 [0], Ap.ap j.2.1 [0, 5, 6], Ap.ap j.2.2 [5, 7]]) (f42.J I call n)
theorem f42.S : SFn ⟨P, I, F⟩ call c42 (f42.JS I call) := .all 4 (by kernel_rfl) (fun ρ h => by kernel_rfl) (fun n ρ h => by kernel_rfl)
theorem f42.qe : Ap.all (f42.e I call (f42.J I call n)) (fun l h => execC P I call (f42.JS I call n) c42.body 0 (finV I c42.results) (argV l) h) := fun v0 v1 h => by kernel_rfl
theorem f42.code : codeOf P 42 = some c42 := by kernel_rfl
def f42.run (I : Inp) : SF := fun call n => Ap.ar (f42.e I call (f42.J I call n))
theorem f42.ok (I : Inp) (F : Nat → Option AFn) (hF : F 42 = some (.code c42)) : SfOk P I F 42 (f42.run I) := okOf hF (by kernel_rfl) (fun _ => f42.S) fun call n => f42.qe
/-! internal/strconv.small -/
def c44 : AFunc := cOf P 44
abbrev f44.Js : Type := A1
def f44.b0 (I : Inp) (call : CallFn) (j : f44.Js) (v0 : AVal) (h : AHeap) : Rs :=
  kB .mul v0 (Z 2) fun v10 =>
  kB .mul v0 (Z 2) fun v12 =>
  kB .add v12 (Z 2) fun v13 =>
  bndP (pSliceStr (.str [48, 48, 48, 49, 48, 50, 48, 51, 48, 52, 48, 53, 48, 54, 48, 55, 48, 56, 48, 57, 49, 48, 49, 49, 49, 50, 49, 51, 49, 52, 49, 53, 49, 54, 49, 55, 49, 56, 49, 57, 50, 48, 50, 49, 50, 50, 50, 51, 50, 52, 50, 53, 50, 54, 50, 55, 50, 56, 50, 57, 51, 48, 51, 49, 51, 50, 51, 51, 51, 52, 51, 53, 51, 54, 51, 55, 51, 56, 51, 57, 52, 48, 52, 49, 52, 50, 52, 51, 52, 52, 52, 53, 52, 54, 52, 55, 52, 56, 52, 57, 53, 48, 53, 49, 53, 50, 53, 51, 53, 52, 53, 53, 53, 54, 53, 55, 53, 56, 53, 57, 54, 48, 54, 49, 54, 50, 54, 51, 54, 52, 54, 53, 54, 54, 54, 55, 54, 56, 54, 57, 55, 48, 55, 49, 55, 50, 55, 51, 55, 52, 55, 53, 55, 54, 55, 55, 55, 56, 55, 57, 56, 48, 56, 49, 56, 50, 56, 51, 56, 52, 56, 53, 56, 54, 56, 55, 56, 56, 56, 57, 57, 48, 57, 49, 57, 50, 57, 51, 57, 52, 57, 53, 57, 54, 57, 55, 57, 56, 57, 57]) (some v10) (some v13)) fun v14 =>
  some (v14, h)
def f44.e (I : Inp) (call : CallFn) (j : f44.Js) (v0 : AVal) (h : AHeap) : Rs :=
  kB .lss v0 (Z 10) fun v4 =>
  sCond v4 (
  j v0 h) (
  kB .add v0 (Z 1) fun v7 =>
  bndP (pSliceStr (.str [48, 49, 50, 51, 52, 53, 54, 55, 56, 57, 97, 98, 99, 100, 101, 102, 103, 104, 105, 106, 107, 108, 109, 110, 111, 112, 113, 114, 115, 116, 117, 118, 119, 120, 121, 122]) (some v0) (some v7)) fun v8 =>
  some (v8, h))
def f44.J (I : Inp) (call : CallFn) (n : Nat) : f44.Js :=
  Nat.rec (motive := fun _ => f44.Js) Zr.z (fun _ j => f44.b0 I call j) n
def f44.JS (I : Inp) (call : CallFn) (n : Nat) : Jmp := (fun j : f44.Js => jmp [Ap.ap j [0]]) (f44.J I call n)
theorem f44.S : SFn ⟨P, I, F⟩ call c44 (f44.JS I call) := .all 1 (by kernel_rfl) (fun ρ h => by kernel_rfl) (fun n ρ h => by kernel_rfl)
theorem f44.qe : Ap.all (f44.e I call (f44.J I call n)) (fun l h => execC P I call (f44.JS I call n) c44.body 0 (finV I c44.results) (argV l) h) := fun v0 h => by kernel_rfl
theorem f44.code : codeOf P 44 = some c44 := by kernel_rfl
def f44.run (I : Inp) : SF := fun call n => Ap.ar (f44.e I call (f44.J I call n))
theorem f44.ok (I : Inp) (F : Nat → Option AFn) (hF : F 44 = some (.code c44)) : SfOk P I F 44 (f44.run I) := okOf hF (by kernel_rfl) (fun _ => f44.S) fun call n => f44.qe
/-! internal/strconv.numDigits -/
def c45 : AFunc := cOf P 45
abbrev f45.Js : Type := Unit
def f45.e (I : Inp) (call : CallFn) (j : f45.Js) (v0 : AVal) (h : AHeap) : Rs :=
  kC call 52 [v0] h fun v5 h1 =>
  kC call 51 [v5] h1 fun v6 h2 =>
  bndP (pIndexAddrArr 20 1 (.ptr (.inp 0) 0) v6) fun v10 =>
  kL I v10 h2 fun v11 =>
  kB .geq v0 v11 fun v12 =>
  kC call 53 [v12] h2 fun v13 h3 =>
  kB .add v6 v13 fun v14 =>
  some (v14, h3)
theorem f45.S : SFn ⟨P, I, F⟩ call c45 (fun _ => jmp []) := .all 0 (by kernel_rfl) (fun ρ h => by kernel_rfl) (fun n ρ h => by kernel_rfl)
theorem f45.qe : Ap.all (f45.e I call ()) (fun l h => execC P I call (jmp []) c45.body 0 (finV I c45.results) (argV l) h) := fun v0 h => by kernel_rfl
theorem f45.code : codeOf P 45 = some c45 := by kernel_rfl
def f45.run (I : Inp) : SF := fun call n => Ap.ar (f45.e I call ())
theorem f45.ok (I : Inp) (F : Nat → Option AFn) (hF : F 45 = some (.code c45)) : SfOk P I F 45 (f45.run I) := okOf hF (by kernel_rfl) (fun _ => f45.S) fun call n => f45.qe
/-! internal/strconv.formatBase10 -/
def c46 : AFunc := cOf P 46
abbrev f46.Js : Type := ((A3 × A3) × (A3 × (A3 × A3)))
def f46.b0 (I : Inp) (call : CallFn) (j : f46.Js) (v0 v1 v4 : AVal) (h : AHeap) : Rs :=
  bndP (pToInt .u32 v1) fun v97 =>
  kB .geq v4 (Z 4) fun v99 =>
  sCond v99 (
  j.2.2.1 v0 v4 v97 h) (
  kB .rem v97 (.int .u32 (.ofNat 10000)) fun v101 =>
  kB .quo v97 (.int .u32 (.ofNat 10000)) fun v103 =>
  kB .quo v101 (.int .u32 (.ofNat 100)) fun v105 =>
  kB .mul v105 (.int .u32 (.ofNat 2)) fun v106 =>
  kB .rem v101 (.int .u32 (.ofNat 100)) fun v108 =>
  kB .mul v108 (.int .u32 (.ofNat 2)) fun v109 =>
  kB .sub v4 (Z 1) fun v112 =>
  kB .sub v4 (Z 2) fun v115 =>
  kB .add v109 (.int .u32 (.ofNat 1)) fun v117 =>
  bndP (pIndexStr (.str [48, 48, 48, 49, 48, 50, 48, 51, 48, 52, 48, 53, 48, 54, 48, 55, 48, 56, 48, 57, 49, 48, 49, 49, 49, 50, 49, 51, 49, 52, 49, 53, 49, 54, 49, 55, 49, 56, 49, 57, 50, 48, 50, 49, 50, 50, 50, 51, 50, 52, 50, 53, 50, 54, 50, 55, 50, 56, 50, 57, 51, 48, 51, 49, 51, 50, 51, 51, 51, 52, 51, 53, 51, 54, 51, 55, 51, 56, 51, 57, 52, 48, 52, 49, 52, 50, 52, 51, 52, 52, 52, 53, 52, 54, 52, 55, 52, 56, 52, 57, 53, 48, 53, 49, 53, 50, 53, 51, 53, 52, 53, 53, 53, 54, 53, 55, 53, 56, 53, 57, 54, 48, 54, 49, 54, 50, 54, 51, 54, 52, 54, 53, 54, 54, 54, 55, 54, 56, 54, 57, 55, 48, 55, 49, 55, 50, 55, 51, 55, 52, 55, 53, 55, 54, 55, 55, 55, 56, 55, 57, 56, 48, 56, 49, 56, 50, 56, 51, 56, 52, 56, 53, 56, 54, 56, 55, 56, 56, 56, 57, 57, 48, 57, 49, 57, 50, 57, 51, 57, 52, 57, 53, 57, 54, 57, 55, 57, 56, 57, 57]) v117) fun v118 =>
  bndP (pIndexStr (.str [48, 48, 48, 49, 48, 50, 48, 51, 48, 52, 48, 53, 48, 54, 48, 55, 48, 56, 48, 57, 49, 48, 49, 49, 49, 50, 49, 51, 49, 52, 49, 53, 49, 54, 49, 55, 49, 56, 49, 57, 50, 48, 50, 49, 50, 50, 50, 51, 50, 52, 50, 53, 50, 54, 50, 55, 50, 56, 50, 57, 51, 48, 51, 49, 51, 50, 51, 51, 51, 52, 51, 53, 51, 54, 51, 55, 51, 56, 51, 57, 52, 48, 52, 49, 52, 50, 52, 51, 52, 52, 52, 53, 52, 54, 52, 55, 52, 56, 52, 57, 53, 48, 53, 49, 53, 50, 53, 51, 53, 52, 53, 53, 53, 54, 53, 55, 53, 56, 53, 57, 54, 48, 54, 49, 54, 50, 54, 51, 54, 52, 54, 53, 54, 54, 54, 55, 54, 56, 54, 57, 55, 48, 55, 49, 55, 50, 55, 51, 55, 52, 55, 53, 55, 54, 55, 55, 55, 56, 55, 57, 56, 48, 56, 49, 56, 50, 56, 51, 56, 52, 56, 53, 56, 54, 56, 55, 56, 56, 56, 57, 57, 48, 57, 49, 57, 50, 57, 51, 57, 52, 57, 53, 57, 54, 57, 55, 57, 56, 57, 57]) v109) fun v120 =>
  kI 1 v0 v112 fun v121 =>
  kS 1 v121 v118 h fun _ h1 =>
  kI 1 v0 v115 fun v122 =>
  kS 1 v122 v120 h1 fun _ h2 =>
  kB .sub v4 (Z 3) fun v125 =>
  kB .sub v4 (Z 4) fun v128 =>
  kB .add v106 (.int .u32 (.ofNat 1)) fun v130 =>
  bndP (pIndexStr (.str [48, 48, 48, 49, 48, 50, 48, 51, 48, 52, 48, 53, 48, 54, 48, 55, 48, 56, 48, 57, 49, 48, 49, 49, 49, 50, 49, 51, 49, 52, 49, 53, 49, 54, 49, 55, 49, 56, 49, 57, 50, 48, 50, 49, 50, 50, 50, 51, 50, 52, 50, 53, 50, 54, 50, 55, 50, 56, 50, 57, 51, 48, 51, 49, 51, 50, 51, 51, 51, 52, 51, 53, 51, 54, 51, 55, 51, 56, 51, 57, 52, 48, 52, 49, 52, 50, 52, 51, 52, 52, 52, 53, 52, 54, 52, 55, 52, 56, 52, 57, 53, 48, 53, 49, 53, 50, 53, 51, 53, 52, 53, 53, 53, 54, 53, 55, 53, 56, 53, 57, 54, 48, 54, 49, 54, 50, 54, 51, 54, 52, 54, 53, 54, 54, 54, 55, 54, 56, 54, 57, 55, 48, 55, 49, 55, 50, 55, 51, 55, 52, 55, 53, 55, 54, 55, 55, 55, 56, 55, 57, 56, 48, 56, 49, 56, 50, 56, 51, 56, 52, 56, 53, 56, 54, 56, 55, 56, 56, 56, 57, 57, 48, 57, 49, 57, 50, 57, 51, 57, 52, 57, 53, 57, 54, 57, 55, 57, 56, 57, 57]) v130) fun v131 =>
  bndP (pIndexStr (.str [48, 48, 48, 49, 48, 50, 48, 51, 48, 52, 48, 53, 48, 54, 48, 55, 48, 56, 48, 57, 49, 48, 49, 49, 49, 50, 49, 51, 49, 52, 49, 53, 49, 54, 49, 55, 49, 56, 49, 57, 50, 48, 50, 49, 50, 50, 50, 51, 50, 52, 50, 53, 50, 54, 50, 55, 50, 56, 50, 57, 51, 48, 51, 49, 51, 50, 51, 51, 51, 52, 51, 53, 51, 54, 51, 55, 51, 56, 51, 57, 52, 48, 52, 49, 52, 50, 52, 51, 52, 52, 52, 53, 52, 54, 52, 55, 52, 56, 52, 57, 53, 48, 53, 49, 53, 50, 53, 51, 53, 52, 53, 53, 53, 54, 53, 55, 53, 56, 53, 57, 54, 48, 54, 49, 54, 50, 54, 51, 54, 52, 54, 53, 54, 54, 54, 55, 54, 56, 54, 57, 55, 48, 55, 49, 55, 50, 55, 51, 55, 52, 55, 53, 55, 54, 55, 55, 55, 56, 55, 57, 56, 48, 56, 49, 56, 50, 56, 51, 56, 52, 56, 53, 56, 54, 56, 55, 56, 56, 56, 57, 57, 48, 57, 49, 57, 50, 57, 51, 57, 52, 57, 53, 57, 54, 57, 55, 57, 56, 57, 57]) v106) fun v133 =>
  kI 1 v0 v125 fun v134 =>
  kS 1 v134 v131 h2 fun _ h3 =>
  kI 1 v0 v128 fun v135 =>
  kS 1 v135 v133 h3 fun _ h4 =>
  kB .sub v4 (Z 4) fun v137 =>
  j.2.2.1 v0 v137 v103 h4)
def f46.b1 (I : Inp) (call : CallFn) (j : f46.Js) (v0 v1 v4 : AVal) (h : AHeap) : Rs :=
  kB .geq v4 (Z 8) fun v20 =>
  sCond v20 (
  j.1.1 v0 v1 v4 h) (
  j.2.1 v0 v1 v4 h)
def f46.b2 (I : Inp) (call : CallFn) (j : f46.Js) (v0 v1 v4 : AVal) (h : AHeap) : Rs :=
  kB .rem v1 (.int .u64 (.ofNat 100000000)) fun v22 =>
  bndP (pToInt .u32 v22) fun v23 =>
  kB .quo v1 (.int .u64 (.ofNat 100000000)) fun v25 =>
  kB .quo v23 (.int .u32 (.ofNat 10000)) fun v27 =>
  kB .rem v23 (.int .u32 (.ofNat 10000)) fun v29 =>
  kB .quo v29 (.int .u32 (.ofNat 100)) fun v31 =>
  kB .mul v31 (.int .u32 (.ofNat 2)) fun v32 =>
  kB .rem v29 (.int .u32 (.ofNat 100)) fun v34 =>
  kB .mul v34 (.int .u32 (.ofNat 2)) fun v35 =>
  kB .quo v27 (.int .u32 (.ofNat 100)) fun v37 =>
  kB .mul v37 (.int .u32 (.ofNat 2)) fun v38 =>
  kB .rem v27 (.int .u32 (.ofNat 100)) fun v40 =>
  kB .mul v40 (.int .u32 (.ofNat 2)) fun v41 =>
  kB .sub v4 (Z 1) fun v44 =>
  kB .sub v4 (Z 2) fun v47 =>
  kB .add v35 (.int .u32 (.ofNat 1)) fun v49 =>
  bndP (pIndexStr (.str [48, 48, 48, 49, 48, 50, 48, 51, 48, 52, 48, 53, 48, 54, 48, 55, 48, 56, 48, 57, 49, 48, 49, 49, 49, 50, 49, 51, 49, 52, 49, 53, 49, 54, 49, 55, 49, 56, 49, 57, 50, 48, 50, 49, 50, 50, 50, 51, 50, 52, 50, 53, 50, 54, 50, 55, 50, 56, 50, 57, 51, 48, 51, 49, 51, 50, 51, 51, 51, 52, 51, 53, 51, 54, 51, 55, 51, 56, 51, 57, 52, 48, 52, 49, 52, 50, 52, 51, 52, 52, 52, 53, 52, 54, 52, 55, 52, 56, 52, 57, 53, 48, 53, 49, 53, 50, 53, 51, 53, 52, 53, 53, 53, 54, 53, 55, 53, 56, 53, 57, 54, 48, 54, 49, 54, 50, 54, 51, 54, 52, 54, 53, 54, 54, 54, 55, 54, 56, 54, 57, 55, 48, 55, 49, 55, 50, 55, 51, 55, 52, 55, 53, 55, 54, 55, 55, 55, 56, 55, 57, 56, 48, 56, 49, 56, 50, 56, 51, 56, 52, 56, 53, 56, 54, 56, 55, 56, 56, 56, 57, 57, 48, 57, 49, 57, 50, 57, 51, 57, 52, 57, 53, 57, 54, 57, 55, 57, 56, 57, 57]) v49) fun v50 =>
  bndP (pIndexStr (.str [48, 48, 48, 49, 48, 50, 48, 51, 48, 52, 48, 53, 48, 54, 48, 55, 48, 56, 48, 57, 49, 48, 49, 49, 49, 50, 49, 51, 49, 52, 49, 53, 49, 54, 49, 55, 49, 56, 49, 57, 50, 48, 50, 49, 50, 50, 50, 51, 50, 52, 50, 53, 50, 54, 50, 55, 50, 56, 50, 57, 51, 48, 51, 49, 51, 50, 51, 51, 51, 52, 51, 53, 51, 54, 51, 55, 51, 56, 51, 57, 52, 48, 52, 49, 52, 50, 52, 51, 52, 52, 52, 53, 52, 54, 52, 55, 52, 56, 52, 57, 53, 48, 53, 49, 53, 50, 53, 51, 53, 52, 53, 53, 53, 54, 53, 55, 53, 56, 53, 57, 54, 48, 54, 49, 54, 50, 54, 51, 54, 52, 54, 53, 54, 54, 54, 55, 54, 56, 54, 57, 55, 48, 55, 49, 55, 50, 55, 51, 55, 52, 55, 53, 55, 54, 55, 55, 55, 56, 55, 57, 56, 48, 56, 49, 56, 50, 56, 51, 56, 52, 56, 53, 56, 54, 56, 55, 56, 56, 56, 57, 57, 48, 57, 49, 57, 50, 57, 51, 57, 52, 57, 53, 57, 54, 57, 55, 57, 56, 57, 57]) v35) fun v52 =>
  kI 1 v0 v44 fun v53 =>
  kS 1 v53 v50 h fun _ h1 =>
  kI 1 v0 v47 fun v54 =>
  kS 1 v54 v52 h1 fun _ h2 =>
  kB .sub v4 (Z 3) fun v57 =>
  kB .sub v4 (Z 4) fun v60 =>
  kB .add v32 (.int .u32 (.ofNat 1)) fun v62 =>
  bndP (pIndexStr (.str [48, 48, 48, 49, 48, 50, 48, 51, 48, 52, 48, 53, 48, 54, 48, 55, 48, 56, 48, 57, 49, 48, 49, 49, 49, 50, 49, 51, 49, 52, 49, 53, 49, 54, 49, 55, 49, 56, 49, 57, 50, 48, 50, 49, 50, 50, 50, 51, 50, 52, 50, 53, 50, 54, 50, 55, 50, 56, 50, 57, 51, 48, 51, 49, 51, 50, 51, 51, 51, 52, 51, 53, 51, 54, 51, 55, 51, 56, 51, 57, 52, 48, 52, 49, 52, 50, 52, 51, 52, 52, 52, 53, 52, 54, 52, 55, 52, 56, 52, 57, 53, 48, 53, 49, 53, 50, 53, 51, 53, 52, 53, 53, 53, 54, 53, 55, 53, 56, 53, 57, 54, 48, 54, 49, 54, 50, 54, 51, 54, 52, 54, 53, 54, 54, 54, 55, 54, 56, 54, 57, 55, 48, 55, 49, 55, 50, 55, 51, 55, 52, 55, 53, 55, 54, 55, 55, 55, 56, 55, 57, 56, 48, 56, 49, 56, 50, 56, 51, 56, 52, 56, 53, 56, 54, 56, 55, 56, 56, 56, 57, 57, 48, 57, 49, 57, 50, 57, 51, 57, 52, 57, 53, 57, 54, 57, 55, 57, 56, 57, 57]) v62) fun v63 =>
  bndP (pIndexStr (.str [48, 48, 48, 49, 48, 50, 48, 51, 48, 52, 48, 53, 48, 54, 48, 55, 48, 56, 48, 57, 49, 48, 49, 49, 49, 50, 49, 51, 49, 52, 49, 53, 49, 54, 49, 55, 49, 56, 49, 57, 50, 48, 50, 49, 50, 50, 50, 51, 50, 52, 50, 53, 50, 54, 50, 55, 50, 56, 50, 57, 51, 48, 51, 49, 51, 50, 51, 51, 51, 52, 51, 53, 51, 54, 51, 55, 51, 56, 51, 57, 52, 48, 52, 49, 52, 50, 52, 51, 52, 52, 52, 53, 52, 54, 52, 55, 52, 56, 52, 57, 53, 48, 53, 49, 53, 50, 53, 51, 53, 52, 53, 53, 53, 54, 53, 55, 53, 56, 53, 57, 54, 48, 54, 49, 54, 50, 54, 51, 54, 52, 54, 53, 54, 54, 54, 55, 54, 56, 54, 57, 55, 48, 55, 49, 55, 50, 55, 51, 55, 52, 55, 53, 55, 54, 55, 55, 55, 56, 55, 57, 56, 48, 56, 49, 56, 50, 56, 51, 56, 52, 56, 53, 56, 54, 56, 55, 56, 56, 56, 57, 57, 48, 57, 49, 57, 50, 57, 51, 57, 52, 57, 53, 57, 54, 57, 55, 57, 56, 57, 57]) v32) fun v65 =>
  kI 1 v0 v57 fun v66 =>
  kS 1 v66 v63 h2 fun _ h3 =>
  kI 1 v0 v60 fun v67 =>
  kS 1 v67 v65 h3 fun _ h4 =>
  kB .sub v4 (Z 5) fun v70 =>
  kB .sub v4 (Z 6) fun v73 =>
  kB .add v41 (.int .u32 (.ofNat 1)) fun v75 =>
  bndP (pIndexStr (.str [48, 48, 48, 49, 48, 50, 48, 51, 48, 52, 48, 53, 48, 54, 48, 55, 48, 56, 48, 57, 49, 48, 49, 49, 49, 50, 49, 51, 49, 52, 49, 53, 49, 54, 49, 55, 49, 56, 49, 57, 50, 48, 50, 49, 50, 50, 50, 51, 50, 52, 50, 53, 50, 54, 50, 55, 50, 56, 50, 57, 51, 48, 51, 49, 51, 50, 51, 51, 51, 52, 51, 53, 51, 54, 51, 55, 51, 56, 51, 57, 52, 48, 52, 49, 52, 50, 52, 51, 52, 52, 52, 53, 52, 54, 52, 55, 52, 56, 52, 57, 53, 48, 53, 49, 53, 50, 53, 51, 53, 52, 53, 53, 53, 54, 53, 55, 53, 56, 53, 57, 54, 48, 54, 49, 54, 50, 54, 51, 54, 52, 54, 53, 54, 54, 54, 55, 54, 56, 54, 57, 55, 48, 55, 49, 55, 50, 55, 51, 55, 52, 55, 53, 55, 54, 55, 55, 55, 56, 55, 57, 56, 48, 56, 49, 56, 50, 56, 51, 56, 52, 56, 53, 56, 54, 56, 55, 56, 56, 56, 57, 57, 48, 57, 49, 57, 50, 57, 51, 57, 52, 57, 53, 57, 54, 57, 55, 57, 56, 57, 57]) v75) fun v76 =>
  bndP (pIndexStr (.str [48, 48, 48, 49, 48, 50, 48, 51, 48, 52, 48, 53, 48, 54, 48, 55, 48, 56, 48, 57, 49, 48, 49, 49, 49, 50, 49, 51, 49, 52, 49, 53, 49, 54, 49, 55, 49, 56, 49, 57, 50, 48, 50, 49, 50, 50, 50, 51, 50, 52, 50, 53, 50, 54, 50, 55, 50, 56, 50, 57, 51, 48, 51, 49, 51, 50, 51, 51, 51, 52, 51, 53, 51, 54, 51, 55, 51, 56, 51, 57, 52, 48, 52, 49, 52, 50, 52, 51, 52, 52, 52, 53, 52, 54, 52, 55, 52, 56, 52, 57, 53, 48, 53, 49, 53, 50, 53, 51, 53, 52, 53, 53, 53, 54, 53, 55, 53, 56, 53, 57, 54, 48, 54, 49, 54, 50, 54, 51, 54, 52, 54, 53, 54, 54, 54, 55, 54, 56, 54, 57, 55, 48, 55, 49, 55, 50, 55, 51, 55, 52, 55, 53, 55, 54, 55, 55, 55, 56, 55, 57, 56, 48, 56, 49, 56, 50, 56, 51, 56, 52, 56, 53, 56, 54, 56, 55, 56, 56, 56, 57, 57, 48, 57, 49, 57, 50, 57, 51, 57, 52, 57, 53, 57, 54, 57, 55, 57, 56, 57, 57]) v41) fun v78 =>
  kI 1 v0 v70 fun v79 =>
  kS 1 v79 v76 h4 fun _ h5 =>
  kI 1 v0 v73 fun v80 =>
  kS 1 v80 v78 h5 fun _ h6 =>
  kB .sub v4 (Z 7) fun v83 =>
  kB .sub v4 (Z 8) fun v86 =>
  kB .add v38 (.int .u32 (.ofNat 1)) fun v88 =>
  bndP (pIndexStr (.str [48, 48, 48, 49, 48, 50, 48, 51, 48, 52, 48, 53, 48, 54, 48, 55, 48, 56, 48, 57, 49, 48, 49, 49, 49, 50, 49, 51, 49, 52, 49, 53, 49, 54, 49, 55, 49, 56, 49, 57, 50, 48, 50, 49, 50, 50, 50, 51, 50, 52, 50, 53, 50, 54, 50, 55, 50, 56, 50, 57, 51, 48, 51, 49, 51, 50, 51, 51, 51, 52, 51, 53, 51, 54, 51, 55, 51, 56, 51, 57, 52, 48, 52, 49, 52, 50, 52, 51, 52, 52, 52, 53, 52, 54, 52, 55, 52, 56, 52, 57, 53, 48, 53, 49, 53, 50, 53, 51, 53, 52, 53, 53, 53, 54, 53, 55, 53, 56, 53, 57, 54, 48, 54, 49, 54, 50, 54, 51, 54, 52, 54, 53, 54, 54, 54, 55, 54, 56, 54, 57, 55, 48, 55, 49, 55, 50, 55, 51, 55, 52, 55, 53, 55, 54, 55, 55, 55, 56, 55, 57, 56, 48, 56, 49, 56, 50, 56, 51, 56, 52, 56, 53, 56, 54, 56, 55, 56, 56, 56, 57, 57, 48, 57, 49, 57, 50, 57, 51, 57, 52, 57, 53, 57, 54, 57, 55, 57, 56, 57, 57]) v88) fun v89 =>
  bndP (pIndexStr (.str [48, 48, 48, 49, 48, 50, 48, 51, 48, 52, 48, 53, 48, 54, 48, 55, 48, 56, 48, 57, 49, 48, 49, 49, 49, 50, 49, 51, 49, 52, 49, 53, 49, 54, 49, 55, 49, 56, 49, 57, 50, 48, 50, 49, 50, 50, 50, 51, 50, 52, 50, 53, 50, 54, 50, 55, 50, 56, 50, 57, 51, 48, 51, 49, 51, 50, 51, 51, 51, 52, 51, 53, 51, 54, 51, 55, 51, 56, 51, 57, 52, 48, 52, 49, 52, 50, 52, 51, 52, 52, 52, 53, 52, 54, 52, 55, 52, 56, 52, 57, 53, 48, 53, 49, 53, 50, 53, 51, 53, 52, 53, 53, 53, 54, 53, 55, 53, 56, 53, 57, 54, 48, 54, 49, 54, 50, 54, 51, 54, 52, 54, 53, 54, 54, 54, 55, 54, 56, 54, 57, 55, 48, 55, 49, 55, 50, 55, 51, 55, 52, 55, 53, 55, 54, 55, 55, 55, 56, 55, 57, 56, 48, 56, 49, 56, 50, 56, 51, 56, 52, 56, 53, 56, 54, 56, 55, 56, 56, 56, 57, 57, 48, 57, 49, 57, 50, 57, 51, 57, 52, 57, 53, 57, 54, 57, 55, 57, 56, 57, 57]) v38) fun v91 =>
  kI 1 v0 v83 fun v92 =>
  kS 1 v92 v89 h6 fun _ h7 =>
  kI 1 v0 v86 fun v93 =>
  kS 1 v93 v91 h7 fun _ h8 =>
  kB .sub v4 (Z 8) fun v95 =>
  j.1.2 v0 v25 v95 h8
def f46.b3 (I : Inp) (call : CallFn) (j : f46.Js) (v0 v4 v12 : AVal) (h : AHeap) : Rs :=
  kB .geq v4 (Z 2) fun v139 =>
  sCond v139 (
  j.2.2.2 v0 v4 v12 h) (
  kB .rem v12 (.int .u32 (.ofNat 100)) fun v141 =>
  kB .mul v141 (.int .u32 (.ofNat 2)) fun v142 =>
  kB .quo v12 (.int .u32 (.ofNat 100)) fun v144 =>
  kB .sub v4 (Z 1) fun v147 =>
  kB .sub v4 (Z 2) fun v150 =>
  kB .add v142 (.int .u32 (.ofNat 1)) fun v152 =>
  bndP (pIndexStr (.str [48, 48, 48, 49, 48, 50, 48, 51, 48, 52, 48, 53, 48, 54, 48, 55, 48, 56, 48, 57, 49, 48, 49, 49, 49, 50, 49, 51, 49, 52, 49, 53, 49, 54, 49, 55, 49, 56, 49, 57, 50, 48, 50, 49, 50, 50, 50, 51, 50, 52, 50, 53, 50, 54, 50, 55, 50, 56, 50, 57, 51, 48, 51, 49, 51, 50, 51, 51, 51, 52, 51, 53, 51, 54, 51, 55, 51, 56, 51, 57, 52, 48, 52, 49, 52, 50, 52, 51, 52, 52, 52, 53, 52, 54, 52, 55, 52, 56, 52, 57, 53, 48, 53, 49, 53, 50, 53, 51, 53, 52, 53, 53, 53, 54, 53, 55, 53, 56, 53, 57, 54, 48, 54, 49, 54, 50, 54, 51, 54, 52, 54, 53, 54, 54, 54, 55, 54, 56, 54, 57, 55, 48, 55, 49, 55, 50, 55, 51, 55, 52, 55, 53, 55, 54, 55, 55, 55, 56, 55, 57, 56, 48, 56, 49, 56, 50, 56, 51, 56, 52, 56, 53, 56, 54, 56, 55, 56, 56, 56, 57, 57, 48, 57, 49, 57, 50, 57, 51, 57, 52, 57, 53, 57, 54, 57, 55, 57, 56, 57, 57]) v152) fun v153 =>
  bndP (pIndexStr (.str [48, 48, 48, 49, 48, 50, 48, 51, 48, 52, 48, 53, 48, 54, 48, 55, 48, 56, 48, 57, 49, 48, 49, 49, 49, 50, 49, 51, 49, 52, 49, 53, 49, 54, 49, 55, 49, 56, 49, 57, 50, 48, 50, 49, 50, 50, 50, 51, 50, 52, 50, 53, 50, 54, 50, 55, 50, 56, 50, 57, 51, 48, 51, 49, 51, 50, 51, 51, 51, 52, 51, 53, 51, 54, 51, 55, 51, 56, 51, 57, 52, 48, 52, 49, 52, 50, 52, 51, 52, 52, 52, 53, 52, 54, 52, 55, 52, 56, 52, 57, 53, 48, 53, 49, 53, 50, 53, 51, 53, 52, 53, 53, 53, 54, 53, 55, 53, 56, 53, 57, 54, 48, 54, 49, 54, 50, 54, 51, 54, 52, 54, 53, 54, 54, 54, 55, 54, 56, 54, 57, 55, 48, 55, 49, 55, 50, 55, 51, 55, 52, 55, 53, 55, 54, 55, 55, 55, 56, 55, 57, 56, 48, 56, 49, 56, 50, 56, 51, 56, 52, 56, 53, 56, 54, 56, 55, 56, 56, 56, 57, 57, 48, 57, 49, 57, 50, 57, 51, 57, 52, 57, 53, 57, 54, 57, 55, 57, 56, 57, 57]) v142) fun v155 =>
  kI 1 v0 v147 fun v156 =>
  kS 1 v156 v153 h fun _ h1 =>
  kI 1 v0 v150 fun v157 =>
  kS 1 v157 v155 h1 fun _ h2 =>
  kB .sub v4 (Z 2) fun v159 =>
  j.2.2.2 v0 v159 v144 h2)
def f46.b4 (I : Inp) (call : CallFn) (j : f46.Js) (v0 v4 v12 : AVal) (h : AHeap) : Rs :=
  kB .gtr v4 (Z 0) fun v161 =>
  sCond v161 (
  some (.tuple [], h)) (
  kB .add (.int .u32 (.ofNat 48)) v12 fun v164 =>
  bndP (pToInt .u8 v164) fun v165 =>
  kI 1 v0 (Z 0) fun v166 =>
  kS 1 v166 v165 h fun _ h1 =>
  some (.tuple [], h1))
def f46.e (I : Inp) (call : CallFn) (j : f46.Js) (v0 v1 : AVal) (h : AHeap) : Rs :=
  kZ v0 fun v18 =>
  j.1.2 v0 v1 v18 h
def f46.J (I : Inp) (call : CallFn) (n : Nat) : f46.Js :=
  Nat.rec (motive := fun _ => f46.Js) ((Zr.z, Zr.z), (Zr.z, (Zr.z, Zr.z))) (fun _ j => ((f46.b0 I call j, f46.b1 I call j), (f46.b2 I call j, (f46.b3 I call j, f46.b4 I call j)))) n
def f46.JS (I : Inp) (call : CallFn) (n : Nat) : Jmp := (fun j : f46.Js => jmp [Ap.ap j.1.1 [0, 1, 4], Ap.ap j.1.2 [0, 1, 4], Ap.ap j.2.1 [0, 1, 4], Ap.ap j.2.2.1 [0, 4, 12], Ap.ap j.2.2.2 [0, 4, 12]]) (f46.J I call n)
theorem f46.S : SFn ⟨P, I, F⟩ call c46 (f46.JS I call) := .all 5 (by kernel_rfl) (fun ρ h => by kernel_rfl) (fun n ρ h => by kernel_rfl)
theorem f46.qe : Ap.all (f46.e I call (f46.J I call n)) (fun l h => execC P I call (f46.JS I call n) c46.body 0 (finV I c46.results) (argV l) h) := fun v0 v1 h => by kernel_rfl
theorem f46.code : codeOf P 46 = some c46 := by kernel_rfl
def f46.run (I : Inp) : SF := fun call n => Ap.ar (f46.e I call (f46.J I call n))
theorem f46.ok (I : Inp) (F : Nat → Option AFn) (hF : F 46 = some (.code c46)) : SfOk P I F 46 (f46.run I) := okOf hF (by kernel_rfl) (fun _ => f46.S) fun call n => f46.qe
/-! internal/strconv.log10Pow2 -/
def c51 : AFunc := cOf P 51
abbrev f51.Js : Type := Unit
def f51.e (I : Inp) (call : CallFn) (j : f51.Js) (v0 : AVal) (h : AHeap) : Rs :=
  kB .mul v0 (Z 78913) fun v4 =>
  kB .shr v4 (.int .u64 (.ofNat 18)) fun v5 =>
  some (v5, h)
theorem f51.S : SFn ⟨P, I, F⟩ call c51 (fun _ => jmp []) := .all 0 (by kernel_rfl) (fun ρ h => by kernel_rfl) (fun n ρ h => by kernel_rfl)
theorem f51.qe : Ap.all (f51.e I call ()) (fun l h => execC P I call (jmp []) c51.body 0 (finV I c51.results) (argV l) h) := fun v0 h => by kernel_rfl
theorem f51.code : codeOf P 51 = some c51 := by kernel_rfl
def f51.run (I : Inp) : SF := fun call n => Ap.ar (f51.e I call ())
theorem f51.ok (I : Inp) (F : Nat → Option AFn) (hF : F 51 = some (.code c51)) : SfOk P I F 51 (f51.run I) := okOf hF (by kernel_rfl) (fun _ => f51.S) fun call n => f51.qe
/-! math/bits.Len64 -/
def c52 : AFunc := cOf P 52
abbrev f52.Js : Type := (A2 × (A2 × A2))
def f52.b0 (I : Inp) (call : CallFn) (j : f52.Js) (v0 v2 : AVal) (h : AHeap) : Rs :=
  kB .geq v0 (.int .u64 (.ofNat 65536)) fun v8 =>
  sCond v8 (
  j.2.1 v0 v2 h) (
  kB .shr v0 (.int .u64 (.ofNat 16)) fun v10 =>
  kB .add v2 (Z 16) fun v12 =>
  j.2.1 v10 v12 h)
def f52.b1 (I : Inp) (call : CallFn) (j : f52.Js) (v0 v2 : AVal) (h : AHeap) : Rs :=
  kB .geq v0 (.int .u64 (.ofNat 256)) fun v14 =>
  sCond v14 (
  j.2.2 v0 v2 h) (
  kB .shr v0 (.int .u64 (.ofNat 8)) fun v16 =>
  kB .add v2 (Z 8) fun v18 =>
  j.2.2 v16 v18 h)
def f52.b2 (I : Inp) (call : CallFn) (j : f52.Js) (v0 v2 : AVal) (h : AHeap) : Rs :=
  bndP (pToInt .u8 v0) fun v21 =>
  bndP (pIndexStr (.str [0, 1, 2, 2, 3, 3, 3, 3, 4, 4, 4, 4, 4, 4, 4, 4, 5, 5, 5, 5, 5, 5, 5, 5, 5, 5, 5, 5, 5, 5, 5, 5, 6, 6, 6, 6, 6, 6, 6, 6, 6, 6, 6, 6, 6, 6, 6, 6, 6, 6, 6, 6, 6, 6, 6, 6, 6, 6, 6, 6, 6, 6, 6, 6, 7, 7, 7, 7, 7, 7, 7, 7, 7, 7, 7, 7, 7, 7, 7, 7, 7, 7, 7, 7, 7, 7, 7, 7, 7, 7, 7, 7, 7, 7, 7, 7, 7, 7, 7, 7, 7, 7, 7, 7, 7, 7, 7, 7, 7, 7, 7, 7, 7, 7, 7, 7, 7, 7, 7, 7, 7, 7, 7, 7, 7, 7, 7, 7, 8, 8, 8, 8, 8, 8, 8, 8, 8, 8, 8, 8, 8, 8, 8, 8, 8, 8, 8, 8, 8, 8, 8, 8, 8, 8, 8, 8, 8, 8, 8, 8, 8, 8, 8, 8, 8, 8, 8, 8, 8, 8, 8, 8, 8, 8, 8, 8, 8, 8, 8, 8, 8, 8, 8, 8, 8, 8, 8, 8, 8, 8, 8, 8, 8, 8, 8, 8, 8, 8, 8, 8, 8, 8, 8, 8, 8, 8, 8, 8, 8, 8, 8, 8, 8, 8, 8, 8, 8, 8, 8, 8, 8, 8, 8, 8, 8, 8, 8, 8, 8, 8, 8, 8, 8, 8, 8, 8, 8, 8, 8, 8, 8, 8, 8, 8, 8, 8, 8, 8, 8, 8, 8, 8, 8, 8, 8, 8]) v21) fun v22 =>
  bndP (pToInt .i64 v22) fun v23 =>
  kB .add v2 v23 fun v24 =>
  some (v24, h)
def f52.e (I : Inp) (call : CallFn) (j : f52.Js) (v0 : AVal) (h : AHeap) : Rs :=
  kB .geq v0 (.int .u64 (.ofNat 4294967296)) fun v4 =>
  sCond v4 (
  j.1 v0 (Z 0) h) (
  kB .shr v0 (.int .u64 (.ofNat 32)) fun v6 =>
  j.1 v6 (Z 32) h)
def f52.J (I : Inp) (call : CallFn) (n : Nat) : f52.Js :=
  Nat.rec (motive := fun _ => f52.Js) (Zr.z, (Zr.z, Zr.z)) (fun _ j => (f52.b0 I call j, (f52.b1 I call j, f52.b2 I call j))) n
def f52.JS (I : Inp) (call : CallFn) (n : Nat) : Jmp := (fun j : f52.Js => jmp [Ap.ap j.1 [0, 2], Ap.ap j.2.1 [0, 2], Ap.ap j.2.2 [0, 2]]) (f52.J I call n)
theorem f52.S : SFn ⟨P, I, F⟩ call c52 (f52.JS I call) := .all 3 (by kernel_rfl) (fun ρ h => by kernel_rfl) (fun n ρ h => by kernel_rfl)
theorem f52.qe : Ap.all (f52.e I call (f52.J I call n)) (fun l h => execC P I call (f52.JS I call n) c52.body 0 (finV I c52.results) (argV l) h) := fun v0 h => by kernel_rfl
theorem f52.code : codeOf P 52 = some c52 := by kernel_rfl
def f52.run (I : Inp) : SF := fun call n => Ap.ar (f52.e I call (f52.J I call n))
theorem f52.ok (I : Inp) (F : Nat → Option AFn) (hF : F 52 = some (.code c52)) : SfOk P I F 52 (f52.run I) := okOf hF (by kernel_rfl) (fun _ => f52.S) fun call n => f52.qe
/-! internal/strconv.bool2[int] -/
def c53 : AFunc := cOf P 53
abbrev f53.Js : Type := A0
def f53.b0 (I : Inp) (call : CallFn) (j : f53.Js) (h : AHeap) : Rs :=
  some ((Z 0), h)
def f53.e (I : Inp) (call : CallFn) (j : f53.Js) (v0 : AVal) (h : AHeap) : Rs :=
  sCond v0 (
  j h) (
  some ((Z 1), h))
def f53.J (I : Inp) (call : CallFn) (n : Nat) : f53.Js :=
  Nat.rec (motive := fun _ => f53.Js) Zr.z (fun _ j => f53.b0 I call j) n
def f53.JS (I : Inp) (call : CallFn) (n : Nat) : Jmp := (fun j : f53.Js => jmp [Ap.ap j []]) (f53.J I call n)
theorem f53.S : SFn ⟨P, I, F⟩ call c53 (f53.JS I call) := .all 1 (by kernel_rfl) (fun ρ h => by kernel_rfl) (fun n ρ h => by kernel_rfl)
theorem f53.qe : Ap.all (f53.e I call (f53.J I call n)) (fun l h => execC P I call (f53.JS I call n) c53.body 0 (finV I c53.results) (argV l) h) := fun v0 h => by kernel_rfl
theorem f53.code : codeOf P 53 = some c53 := by kernel_rfl
def f53.run (I : Inp) : SF := fun call n => Ap.ar (f53.e I call (f53.J I call n))
theorem f53.ok (I : Inp) (F : Nat → Option AFn) (hF : F 53 = some (.code c53)) : SfOk P I F 53 (f53.run I) := okOf hF (by kernel_rfl) (fun _ => f53.S) fun call n => f53.qe
end
end Go.Proofs.YtblblpmkdmociaaDoor.Sf
