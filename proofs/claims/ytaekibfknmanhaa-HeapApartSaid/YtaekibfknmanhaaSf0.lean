/- The functions of the program by their labels, on values, part 0: what they compute the abstract machine computes. Conditions: none. -/
import Derived.Test.YtaekibfknmanhaaAmZ
import Derived.Test.YtaekibfknmanhaaProg
namespace Go.Proofs.Ytaekibfknmanhaa.Sf
open Go.AM
set_option linter.unusedVariables false
noncomputable section
noncomputable abbrev P : Program := Try.prog
variable {I : Inp} {F : Nat → Option AFn} {call : CallFn} {prims : Nat → Option Prim} {n : Nat} {h : AHeap} {Q : AVal → AHeap → Prop}
/-! haruspex/haruspexlaw13.HeapApart -/
def c3 : AFunc := cOf P 3
abbrev f3.Js : Type := ((((A3 × A3) × (A5 × (A6 × A6))) × ((A6 × (A5 × A7)) × (A7 × (A7 × A3)))) × (((A6 × A6) × (A6 × (A9 × A0))) × ((A4 × (A4 × A4)) × (A5 × (A5 × A5)))))
def f3.b0 (I : Inp) (call : CallFn) (j : f3.Js) (v0 v1 v5 : AVal) (h : AHeap) : Rs :=
  kB .lss v0 (Z 1) fun v25 =>
  gV v25 .false v0 h fun v27 h1 =>
  gP v25 .false (pBin .gtr v27 (Z 20)) h1 fun v28 h2 =>
  kP v25 bT v28 fun v29 =>
  sCond v29 (
  j.1.1.1.2 v0 v1 v5 h2) (
  some (bT, h2))
def f3.b1 (I : Inp) (call : CallFn) (j : f3.Js) (v0 v1 v5 : AVal) (h : AHeap) : Rs :=
  kC call 8 [] h fun v30 h1 =>
  bndP (pBuild [(Z 0), (Z 0)] []) fun v31 =>
  bndP (pBuild [(Z 0), (Z 0)] [(0, 1, (Z 1))]) fun v32 =>
  bnd (sBuildSlice [(Z 0), (Z 0)] 2 [(0, 2, v31), (2, 2, v32)] h1) fun v33 h2 =>
  j.1.1.2.2.1 v0 v1 v5 v30 v33 (Z 0) h2
def f3.b2 (I : Inp) (call : CallFn) (j : f3.Js) (v0 v1 v5 v8 v9 : AVal) (h : AHeap) : Rs :=
  kA [(Z 0), (Z 0), bF, (Z 0), (Z 0), bF, (Z 0), (Z 0), bF, (Z 0), (Z 0), bF, (Z 0), (Z 0), bF, (Z 0), (Z 0), bF, (Z 0), (Z 0), bF, (Z 0), (Z 0), bF, (Z 0), (Z 0), bF, (Z 0), (Z 0), bF, (Z 0), (Z 0), bF, (Z 0), (Z 0), bF, (Z 0), (Z 0), bF, (Z 0), (Z 0), bF, (Z 0), (Z 0), bF, (Z 0), (Z 0), bF, (Z 0), (Z 0), bF, (Z 0), (Z 0), bF, (Z 0), (Z 0), bF, (Z 0), (Z 0), bF, (Z 0), (Z 0), bF, (Z 0), (Z 0), bF, (Z 0), (Z 0), bF, (Z 0), (Z 0), bF, (Z 0), (Z 0), bF, (Z 0), (Z 0), bF, (Z 0), (Z 0), bF, (Z 0), (Z 0), bF, (Z 0), (Z 0), bF, (Z 0), (Z 0), bF, (Z 0), (Z 0), bF, (Z 0), (Z 0), bF, (Z 0), (Z 0), bF, (Z 0), (Z 0), bF, (Z 0), (Z 0), bF, (Z 0), (Z 0), bF, (Z 0), (Z 0), bF, (Z 0), (Z 0), bF, (Z 0), (Z 0), bF, (Z 0), (Z 0), bF] h fun v11 h1 =>
  j.1.2.1.2.2 v0 v1 v5 v8 v9 v11 (Z 0) h1
def f3.b3 (I : Inp) (call : CallFn) (j : f3.Js) (v0 v1 v5 v8 v9 v10 : AVal) (h : AHeap) : Rs :=
  kB .lss v10 v0 fun v36 =>
  sCond v36 (
  j.1.1.2.1 v0 v1 v5 v8 v9 h) (
  j.1.1.2.2.2 v0 v1 v5 v8 v9 v10 h)
def f3.b4 (I : Inp) (call : CallFn) (j : f3.Js) (v0 v1 v5 v8 v9 v10 : AVal) (h : AHeap) : Rs :=
  kC call 9 [v8, v10, v9] h fun v42 h1 =>
  j.1.2.1.1 v0 v1 v5 v8 v9 v10 h1
def f3.b5 (I : Inp) (call : CallFn) (j : f3.Js) (v0 v1 v5 v8 v9 v10 : AVal) (h : AHeap) : Rs :=
  kB .add v10 (Z 1) fun v38 =>
  j.1.1.2.2.1 v0 v1 v5 v8 v9 v38 h
def f3.b6 (I : Inp) (call : CallFn) (j : f3.Js) (v0 v1 v5 v8 v11 : AVal) (h : AHeap) : Rs :=
  j.2.1.1.1 v0 v1 v5 v8 v11 (Z 0) h
def f3.b7 (I : Inp) (call : CallFn) (j : f3.Js) (v0 v1 v5 v8 v9 v11 v12 : AVal) (h : AHeap) : Rs :=
  kB .lss v12 v0 fun v45 =>
  sCond v45 (
  j.1.2.1.2.1 v0 v1 v5 v8 v11 h) (
  j.1.2.2.1 v0 v1 v5 v8 v9 v11 v12 h)
def f3.b8 (I : Inp) (call : CallFn) (j : f3.Js) (v0 v1 v5 v8 v9 v11 v12 : AVal) (h : AHeap) : Rs :=
  kI 2 v9 (Z 0) fun v50 =>
  kM I 2 v50 h fun v51 =>
  kC call 10 [v51] h fun v52 h1 =>
  kI 2 v9 (Z 1) fun v54 =>
  kM I 2 v54 h1 fun v55 =>
  kC call 10 [v55] h1 fun v56 h2 =>
  bndP (pBuild [(Z 0), (Z 0), bF, (Z 0), (Z 0), bF] [(0, 3, v52), (3, 3, v56)]) fun v57 =>
  bndP (pIndexAddrArr 20 6 v11 v12) fun v58 =>
  kS 6 v58 v57 h2 fun _ h3 =>
  sCheck (sSame (lift (pLoadN I 2 v54 h) h) v55 && true) (
  j.1.2.2.2.1 v0 v1 v5 v8 v9 v11 v12 h3)
def f3.b9 (I : Inp) (call : CallFn) (j : f3.Js) (v0 v1 v5 v8 v9 v11 v12 : AVal) (h : AHeap) : Rs :=
  kB .add v12 (Z 1) fun v47 =>
  j.1.2.1.2.2 v0 v1 v5 v8 v9 v11 v47 h
def f3.b10 (I : Inp) (call : CallFn) (j : f3.Js) (v0 v8 v11 : AVal) (h : AHeap) : Rs :=
  j.2.2.1.1 v0 v8 v11 (Z 0) h
def f3.b11 (I : Inp) (call : CallFn) (j : f3.Js) (v0 v1 v5 v8 v11 v13 : AVal) (h : AHeap) : Rs :=
  kZ v1 fun v61 =>
  kB .lss v13 v61 fun v62 =>
  gV v62 .true v13 h fun v64 h1 =>
  gP v62 .true (pBin .lss v64 (Z 30)) h1 fun v65 h2 =>
  kP v62 v65 bF fun v66 =>
  sCond v66 (
  j.1.2.2.2.2 v0 v8 v11 h2) (
  j.2.1.1.2 v0 v1 v5 v8 v11 v13 h2)
def f3.b12 (I : Inp) (call : CallFn) (j : f3.Js) (v0 v1 v5 v8 v11 v13 : AVal) (h : AHeap) : Rs :=
  kI 1 v1 v13 fun v71 =>
  kL I v71 h fun v72 =>
  kB .rem v72 v0 fun v74 =>
  kB .add v74 v0 fun v76 =>
  kB .rem v76 v0 fun v78 =>
  kB .rem v13 (Z 2) fun v80 =>
  kM I 3 v5 h fun v81 =>
  kA [(Z 0), (Z 0), bF] h fun v16 h1 =>
  kS 3 v16 v81 h1 fun _ h2 =>
  kF 1 v16 fun v82 =>
  kL I v82 h2 fun v83 =>
  kB .add v83 v13 fun v85 =>
  kF 1 v16 fun v86 =>
  kS 1 v86 v85 h2 fun _ h3 =>
  kB .add v78 (Z 1) fun v89 =>
  kM I 3 v16 h3 fun v91 =>
  kC call 11 [v8, v89, v80, v91] h3 fun v92 h4 =>
  kB .neq v92 (Z 0) fun v93 =>
  sCond v93 (
  j.2.1.2.2.1 v0 v1 v5 v8 v11 v13 v78 v80 v16 h4) (
  some (bF, h4))
def f3.b13 (I : Inp) (call : CallFn) (j : f3.Js) (v0 v1 v5 v8 v11 v13 : AVal) (h : AHeap) : Rs :=
  kB .add v13 (Z 1) fun v68 =>
  j.2.1.1.1 v0 v1 v5 v8 v11 v68 h
def f3.b14 (I : Inp) (call : CallFn) (j : f3.Js) (v0 v1 v5 v8 v11 v13 v14 v15 v16 : AVal) (h : AHeap) : Rs :=
  kM I 3 v16 h fun v96 =>
  bndP (pIndexAddrArr 20 6 v11 v14) fun v97 =>
  bndP (pIndexAddrArr 2 3 v97 v15) fun v98 =>
  kS 3 v98 v96 h fun _ h1 =>
  j.2.1.2.1 v0 v1 v5 v8 v11 v13 h1
def f3.b15 (I : Inp) (call : CallFn) (j : f3.Js) (h : AHeap) : Rs :=
  some (bT, h)
def f3.b16 (I : Inp) (call : CallFn) (j : f3.Js) (v0 v8 v11 v17 : AVal) (h : AHeap) : Rs :=
  kB .lss v17 v0 fun v101 =>
  sCond v101 (
  j.2.1.2.2.2 h) (
  j.2.2.1.2.1 v0 v8 v11 v17 h)
def f3.b17 (I : Inp) (call : CallFn) (j : f3.Js) (v0 v8 v11 v17 : AVal) (h : AHeap) : Rs :=
  j.2.2.2.1 v0 v8 v11 v17 (Z 0) h
def f3.b18 (I : Inp) (call : CallFn) (j : f3.Js) (v0 v8 v11 v17 : AVal) (h : AHeap) : Rs :=
  kB .add v17 (Z 1) fun v103 =>
  j.2.2.1.1 v0 v8 v11 v103 h
def f3.b19 (I : Inp) (call : CallFn) (j : f3.Js) (v0 v8 v11 v17 v18 : AVal) (h : AHeap) : Rs :=
  kB .lss v18 (Z 2) fun v105 =>
  sCond v105 (
  j.2.2.1.2.2 v0 v8 v11 v17 h) (
  j.2.2.2.2.1 v0 v8 v11 v17 v18 h)
def f3.b20 (I : Inp) (call : CallFn) (j : f3.Js) (v0 v8 v11 v17 v18 : AVal) (h : AHeap) : Rs :=
  kB .add v17 (Z 1) fun v111 =>
  kC call 12 [v8, v111, v18] h fun v113 h1 =>
  kX v113 0 fun v114 =>
  kX v113 1 fun v115 =>
  kA [(Z 0), (Z 0), bF] h1 fun v19 h2 =>
  kS 3 v19 v114 h2 fun _ h3 =>
  kB .neq v115 (Z 0) fun v117 =>
  gP v117 .false (pLoadN I 3 v19 h3) h3 fun v119 h4 =>
  gV v117 .false v17 h4 fun v120 h5 =>
  gV v117 .false v18 h5 fun v121 h6 =>
  gP v117 .false (pIndexAddrArr 20 6 v11 v120) h6 fun v122 h7 =>
  gP v117 .false (pIndexAddrArr 2 3 v122 v121) h7 fun v123 h8 =>
  gP v117 .false (pLoadN I 3 v123 h8) h8 fun v124 h9 =>
  gS v117 .false (call 13 [v119, v124] h9) h9 fun v125 h10 =>
  gP v117 .false (pUn .not v125) h10 fun v126 h11 =>
  kP v117 bT v126 fun v127 =>
  sCond v127 (
  j.2.2.2.2.2 v0 v8 v11 v17 v18 h11) (
  some (bF, h11))
def f3.b21 (I : Inp) (call : CallFn) (j : f3.Js) (v0 v8 v11 v17 v18 : AVal) (h : AHeap) : Rs :=
  kB .add v18 (Z 1) fun v107 =>
  j.2.2.2.1 v0 v8 v11 v17 v107 h
def f3.e (I : Inp) (call : CallFn) (j : f3.Js) (v0 v1 v2 : AVal) (h : AHeap) : Rs :=
  bnd (sBox v2 h) fun v5 h1 =>
  kC call 7 [] h1 fun v21 h2 =>
  kU .not v21 fun v23 =>
  sCond v23 (
  j.1.1.1.1 v0 v1 v5 h2) (
  some (bF, h2))
def f3.J (I : Inp) (call : CallFn) (n : Nat) : f3.Js :=
  Nat.rec (motive := fun _ => f3.Js) ((((Zr.z, Zr.z), (Zr.z, (Zr.z, Zr.z))), ((Zr.z, (Zr.z, Zr.z)), (Zr.z, (Zr.z, Zr.z)))), (((Zr.z, Zr.z), (Zr.z, (Zr.z, Zr.z))), ((Zr.z, (Zr.z, Zr.z)), (Zr.z, (Zr.z, Zr.z))))) (fun _ j => ((((f3.b0 I call j, f3.b1 I call j), (f3.b2 I call j, (f3.b3 I call j, f3.b4 I call j))), ((f3.b5 I call j, (f3.b6 I call j, f3.b7 I call j)), (f3.b8 I call j, (f3.b9 I call j, f3.b10 I call j)))), (((f3.b11 I call j, f3.b12 I call j), (f3.b13 I call j, (f3.b14 I call j, f3.b15 I call j))), ((f3.b16 I call j, (f3.b17 I call j, f3.b18 I call j)), (f3.b19 I call j, (f3.b20 I call j, f3.b21 I call j)))))) n
theorem f3.n0 : (f3.J I call (n + 1)).1.1.1.1 = f3.b0 I call (f3.J I call n) := nrfl
theorem f3.n1 : (f3.J I call (n + 1)).1.1.1.2 = f3.b1 I call (f3.J I call n) := nrfl
theorem f3.n2 : (f3.J I call (n + 1)).1.1.2.1 = f3.b2 I call (f3.J I call n) := nrfl
theorem f3.n3 : (f3.J I call (n + 1)).1.1.2.2.1 = f3.b3 I call (f3.J I call n) := nrfl
theorem f3.n4 : (f3.J I call (n + 1)).1.1.2.2.2 = f3.b4 I call (f3.J I call n) := nrfl
theorem f3.n5 : (f3.J I call (n + 1)).1.2.1.1 = f3.b5 I call (f3.J I call n) := nrfl
theorem f3.n6 : (f3.J I call (n + 1)).1.2.1.2.1 = f3.b6 I call (f3.J I call n) := nrfl
theorem f3.n7 : (f3.J I call (n + 1)).1.2.1.2.2 = f3.b7 I call (f3.J I call n) := nrfl
theorem f3.n8 : (f3.J I call (n + 1)).1.2.2.1 = f3.b8 I call (f3.J I call n) := nrfl
theorem f3.n9 : (f3.J I call (n + 1)).1.2.2.2.1 = f3.b9 I call (f3.J I call n) := nrfl
theorem f3.n10 : (f3.J I call (n + 1)).1.2.2.2.2 = f3.b10 I call (f3.J I call n) := nrfl
theorem f3.n11 : (f3.J I call (n + 1)).2.1.1.1 = f3.b11 I call (f3.J I call n) := nrfl
theorem f3.n12 : (f3.J I call (n + 1)).2.1.1.2 = f3.b12 I call (f3.J I call n) := nrfl
theorem f3.n13 : (f3.J I call (n + 1)).2.1.2.1 = f3.b13 I call (f3.J I call n) := nrfl
theorem f3.n14 : (f3.J I call (n + 1)).2.1.2.2.1 = f3.b14 I call (f3.J I call n) := nrfl
theorem f3.n15 : (f3.J I call (n + 1)).2.1.2.2.2 = f3.b15 I call (f3.J I call n) := nrfl
theorem f3.n16 : (f3.J I call (n + 1)).2.2.1.1 = f3.b16 I call (f3.J I call n) := nrfl
theorem f3.n17 : (f3.J I call (n + 1)).2.2.1.2.1 = f3.b17 I call (f3.J I call n) := nrfl
theorem f3.n18 : (f3.J I call (n + 1)).2.2.1.2.2 = f3.b18 I call (f3.J I call n) := nrfl
theorem f3.n19 : (f3.J I call (n + 1)).2.2.2.1 = f3.b19 I call (f3.J I call n) := nrfl
theorem f3.n20 : (f3.J I call (n + 1)).2.2.2.2.1 = f3.b20 I call (f3.J I call n) := nrfl
theorem f3.n21 : (f3.J I call (n + 1)).2.2.2.2.2 = f3.b21 I call (f3.J I call n) := nrfl
def f3.JS (I : Inp) (call : CallFn) (n : Nat) : Jmp := (fun j : f3.Js => jmp [Ap.ap j.1.1.1.1 [0, 1, 5], Ap.ap j.1.1.1.2 [0, 1, 5], Ap.ap j.1.1.2.1 [0, 1, 5, 8, 9], Ap.ap j.1.1.2.2.1 [0, 1, 5, 8, 9, 10], Ap.ap j.1.1.2.2.2 [0, 1, 5, 8, 9, 10], Ap.ap j.1.2.1.1 [0, 1, 5, 8, 9, 10], Ap.ap j.1.2.1.2.1 [0, 1, 5, 8, 11], Ap.ap j.1.2.1.2.2 [0, 1, 5, 8, 9, 11, 12], Ap.ap j.1.2.2.1 [0, 1, 5, 8, 9, 11, 12], Ap.ap j.1.2.2.2.1 [0, 1, 5, 8, 9, 11, 12], Ap.ap j.1.2.2.2.2 [0, 8, 11], Ap.ap j.2.1.1.1 [0, 1, 5, 8, 11, 13], Ap.ap j.2.1.1.2 [0, 1, 5, 8, 11, 13], Ap.ap j.2.1.2.1 [0, 1, 5, 8, 11, 13], Ap.ap j.2.1.2.2.1 [0, 1, 5, 8, 11, 13, 14, 15, 16], Ap.ap j.2.1.2.2.2 [], Ap.ap j.2.2.1.1 [0, 8, 11, 17], Ap.ap j.2.2.1.2.1 [0, 8, 11, 17], Ap.ap j.2.2.1.2.2 [0, 8, 11, 17], Ap.ap j.2.2.2.1 [0, 8, 11, 17, 18], Ap.ap j.2.2.2.2.1 [0, 8, 11, 17, 18], Ap.ap j.2.2.2.2.2 [0, 8, 11, 17, 18]]) (f3.J I call n)
theorem f3.S : SFn ⟨P, I, F⟩ call c3 (f3.JS I call) := .all 22 (by kernel_rfl) (fun ρ h => by kernel_rfl) (fun n ρ h => by kernel_rfl)
theorem f3.qe : Ap.all (f3.e I call (f3.J I call n)) (fun l h => execC P I call (f3.JS I call n) c3.body 0 (finV I c3.results) (argV l) h) := fun v0 v1 v2 h => by kernel_rfl
theorem f3.code : codeOf P 3 = some c3 := by kernel_rfl
def f3.run (I : Inp) : SF := fun call n => Ap.ar (f3.e I call (f3.J I call n))
theorem f3.ok (I : Inp) (F : Nat → Option AFn) (hF : F 3 = some (.code c3)) : SfOk P I F 3 (f3.run I) := okOf hF (by kernel_rfl) (fun _ => f3.S) fun call n => f3.qe
theorem f3.lim (hp : prims 3 = none) {v0 v1 v2 : AVal} (hr : Res (f3.e I (AM.lim ⟨P, I, genF P prims⟩) (f3.J I (AM.lim ⟨P, I, genF P prims⟩) n) v0 v1 v2 h) Q) : Res ((AM.lim ⟨P, I, genF P prims⟩) 3 [v0, v1, v2] h) Q := limOf (n := n) hp f3.code (f3.ok I) hr rfl
/-! haruspex/haruspexlaw13.begun -/
def c7 : AFunc := cOf P 7
abbrev f7.Js : Type := A1
def f7.b0 (I : Inp) (call : CallFn) (j : f7.Js) (v1 : AVal) (h : AHeap) : Rs :=
  bndP (pBuild [(Z 0), (Z 0)] []) fun v15 =>
  bndP (pBuild [(Z 0), (Z 0)] [(0, 1, (Z 1))]) fun v16 =>
  bnd (sBuildSlice [(Z 0), (Z 0)] 2 [(0, 2, v15), (2, 2, v16)] h) fun v17 h1 =>
  kC call 9 [v1, (Z 7), v17] h1 fun v18 h2 =>
  kC call 12 [v1, v18, (Z 1)] h2 fun v22 h3 =>
  kX v22 0 fun v23 =>
  kX v22 1 fun v24 =>
  kA [(Z 0), (Z 0), bF] h3 fun v3 h4 =>
  kS 3 v3 v23 h4 fun _ h5 =>
  bndP (pBuild [(Z 0), (Z 0), bF] [(1, 1, (Z 5)), (2, 1, bT)]) fun v27 =>
  kC call 11 [v1, v18, (Z 0), v27] h5 fun v28 h6 =>
  kC call 12 [v1, v18, (Z 0)] h6 fun v32 h7 =>
  kX v32 0 fun v33 =>
  kX v32 1 fun v34 =>
  kA [(Z 0), (Z 0), bF] h7 fun v6 h8 =>
  kS 3 v6 v33 h8 fun _ h9 =>
  kC call 17 [v1, v18] h9 fun v37 h10 =>
  kC call 12 [v1, v18, (Z 0)] h10 fun v41 h11 =>
  kX v41 0 fun v42 =>
  kX v41 1 fun v43 =>
  kA [(Z 0), (Z 0), bF] h11 fun v9 h12 =>
  kS 3 v9 v42 h12 fun _ h13 =>
  kB .eql v18 (Z 1) fun v45 =>
  gP v45 .true (pFieldAddr 0 v3) h13 fun v47 h14 =>
  gP v45 .true (pLoad1 I v47 h14) h14 fun v48 h15 =>
  gP v45 .true (pBin .eql v48 (Z 1)) h15 fun v49 h16 =>
  kP v45 v49 bF fun v50 =>
  gV v50 .true v24 h16 fun v52 h17 =>
  gP v50 .true (pBin .eql v52 (Z 0)) h17 fun v53 h18 =>
  kP v50 v53 bF fun v54 =>
  gV v54 .true v28 h18 fun v56 h19 =>
  gP v54 .true (pBin .eql v56 (Z 0)) h19 fun v57 h20 =>
  kP v54 v57 bF fun v58 =>
  gP v58 .true (pFieldAddr 1 v6) h20 fun v60 h21 =>
  gP v58 .true (pLoad1 I v60 h21) h21 fun v61 h22 =>
  gP v58 .true (pBin .eql v61 (Z 5)) h22 fun v62 h23 =>
  kP v58 v62 bF fun v63 =>
  gP v63 .true (pFieldAddr 2 v6) h23 fun v65 h24 =>
  gP v63 .true (pLoad1 I v65 h24) h24 fun v66 h25 =>
  kP v63 v66 bF fun v67 =>
  gV v67 .true v37 h25 fun v69 h26 =>
  gP v67 .true (pBin .eql v69 (Z 0)) h26 fun v70 h27 =>
  kP v67 v70 bF fun v71 =>
  gV v71 .true v43 h27 fun v73 h28 =>
  gP v71 .true (pBin .eql v73 (Z 2)) h28 fun v74 h29 =>
  kP v71 v74 bF fun v75 =>
  gV v75 .true v1 h29 fun v77 h30 =>
  gV v75 .true v18 h30 fun v78 h31 =>
  gS v75 .true (call 18 [v77, v78] h31) h31 fun v79 h32 =>
  gP v75 .true (pBin .eql v79 (Z 7)) h32 fun v80 h33 =>
  kP v75 v80 bF fun v81 =>
  gV v81 .true v1 h33 fun v83 h34 =>
  gV v81 .true v18 h34 fun v84 h35 =>
  gS v81 .true (call 19 [v83, v84] h35) h35 fun v85 h36 =>
  kP v81 v85 bF fun v86 =>
  some (v86, h36)
def f7.e (I : Inp) (call : CallFn) (j : f7.Js) (h : AHeap) : Rs :=
  kC call 8 [] h fun v11 h1 =>
  bndP (pEq P .false .ptr .true v11 .nilp h1) fun v13 =>
  sCond v13 (
  j v11 h1) (
  some (bF, h1))
def f7.J (I : Inp) (call : CallFn) (n : Nat) : f7.Js :=
  Nat.rec (motive := fun _ => f7.Js) Zr.z (fun _ j => f7.b0 I call j) n
def f7.JS (I : Inp) (call : CallFn) (n : Nat) : Jmp := (fun j : f7.Js => jmp [Ap.ap j [1]]) (f7.J I call n)
theorem f7.S : SFn ⟨P, I, F⟩ call c7 (f7.JS I call) := .all 1 (by kernel_rfl) (fun ρ h => by kernel_rfl) (fun n ρ h => by kernel_rfl)
theorem f7.qe : Ap.all (f7.e I call (f7.J I call n)) (fun l h => execC P I call (f7.JS I call n) c7.body 0 (finV I c7.results) (argV l) h) := fun h => by kernel_rfl
theorem f7.code : codeOf P 7 = some c7 := by kernel_rfl
def f7.run (I : Inp) : SF := fun call n => Ap.ar (f7.e I call (f7.J I call n))
theorem f7.ok (I : Inp) (F : Nat → Option AFn) (hF : F 7 = some (.code c7)) : SfOk P I F 7 (f7.run I) := okOf hF (by kernel_rfl) (fun _ => f7.S) fun call n => f7.qe
/-! haruspex/value.New -/
def c8 : AFunc := cOf P 8
abbrev f8.Js : Type := Unit
def f8.e (I : Inp) (call : CallFn) (j : f8.Js) (h : AHeap) : Rs :=
  bndP (pBuild [.nils] []) fun v1 =>
  bnd (sBox v1 h) fun v2 h1 =>
  some (v2, h1)
theorem f8.S : SFn ⟨P, I, F⟩ call c8 (fun _ => jmp []) := .all 0 (by kernel_rfl) (fun ρ h => by kernel_rfl) (fun n ρ h => by kernel_rfl)
theorem f8.qe : Ap.all (f8.e I call ()) (fun l h => execC P I call (jmp []) c8.body 0 (finV I c8.results) (argV l) h) := fun h => by kernel_rfl
theorem f8.code : codeOf P 8 = some c8 := by kernel_rfl
def f8.run (I : Inp) : SF := fun call n => Ap.ar (f8.e I call ())
theorem f8.ok (I : Inp) (F : Nat → Option AFn) (hF : F 8 = some (.code c8)) : SfOk P I F 8 (f8.run I) := okOf hF (by kernel_rfl) (fun _ => f8.S) fun call n => f8.qe
theorem f8.lim (hp : prims 8 = none) {n : Nat} (hr : Res (f8.e I (AM.lim ⟨P, I, genF P prims⟩) () h) Q) : Res ((AM.lim ⟨P, I, genF P prims⟩) 8 [] h) Q := limOf (n := n) hp f8.code (f8.ok I) hr rfl
/-! (*haruspex/value.Heap).Alloc -/
def c9 : AFunc := cOf P 9
abbrev f9.Js : Type := ((A3 × A2) × (A5 × (A5 × A5)))
def f9.b0 (I : Inp) (call : CallFn) (j : f9.Js) (v0 v1 v2 : AVal) (h : AHeap) : Rs :=
  bndP (pBuild [(Z 0), .nils, bF] [(0, 1, v1)]) fun v21 =>
  bnd (sBox v21 h) fun v22 h1 =>
  kZ v2 fun v24 =>
  j.2.1 v0 v22 v2 v24 (Z 0) h1
def f9.b1 (I : Inp) (call : CallFn) (j : f9.Js) (v0 v7 : AVal) (h : AHeap) : Rs :=
  kN v0 fun v43 =>
  kF 0 v43 fun v44 =>
  kL I v44 h fun v45 =>
  bnd (sBuildSlice [.nilp] 1 [(0, 1, v7)] h) fun v47 h1 =>
  bnd (sAppend I 1 8 v45 v47 h1) fun v48 h2 =>
  kN v0 fun v49 =>
  kF 0 v49 fun v50 =>
  kS 1 v50 v48 h2 fun _ h3 =>
  kN v0 fun v52 =>
  kF 0 v52 fun v53 =>
  kL I v53 h3 fun v54 =>
  kZ v54 fun v55 =>
  some (v55, h3)
def f9.b2 (I : Inp) (call : CallFn) (j : f9.Js) (v0 v7 v23 v24 v25 : AVal) (h : AHeap) : Rs :=
  kB .lss v25 v24 fun v26 =>
  sCond v26 (
  j.1.2 v0 v7 h) (
  j.2.2.1 v0 v7 v23 v24 v25 h)
def f9.b3 (I : Inp) (call : CallFn) (j : f9.Js) (v0 v7 v23 v24 v25 : AVal) (h : AHeap) : Rs :=
  kI 2 v23 v25 fun v27 =>
  kM I 2 v27 h fun v28 =>
  kA [(Z 0), (Z 0)] h fun v9 h1 =>
  kS 2 v9 v28 h1 fun _ h2 =>
  kN v7 fun v31 =>
  kF 1 v31 fun v32 =>
  kL I v32 h2 fun v33 =>
  kM I 2 v9 h2 fun v34 =>
  kC call 15 [v34] h2 fun v35 h3 =>
  bnd (sBuildSlice [(Z 0), (Z 0), bF] 1 [(0, 3, v35)] h3) fun v36 h4 =>
  bnd (sAppend I 3 24 v33 v36 h4) fun v37 h5 =>
  kN v7 fun v38 =>
  kF 1 v38 fun v39 =>
  kS 1 v39 v37 h5 fun _ h6 =>
  sCheck (sSame (lift (pLoad1 I v32 h3) h3) v33 && (sSame (lift (pLoad1 I v32 h4) h4) v33 && true)) (
  j.2.2.2 v0 v7 v23 v24 v25 h6)
def f9.b4 (I : Inp) (call : CallFn) (j : f9.Js) (v0 v7 v23 v24 v25 : AVal) (h : AHeap) : Rs :=
  kB .add v25 (Z 1) fun v40 =>
  j.2.1 v0 v7 v23 v24 v40 h
def f9.e (I : Inp) (call : CallFn) (j : f9.Js) (v0 v1 v2 : AVal) (h : AHeap) : Rs :=
  bndP (pEq P .false .ptr .true v0 .nilp h) fun v11 =>
  gV v11 .false v0 h fun v13 h1 =>
  gP v11 .false (pNilCheck v13) h1 fun v14 h2 =>
  gP v11 .false (pFieldAddr 0 v14) h2 fun v15 h3 =>
  gP v11 .false (pLoad1 I v15 h3) h3 fun v16 h4 =>
  gP v11 .false (pLenSl v16) h4 fun v17 h5 =>
  gP v11 .false (pBin .geq v17 (Z 400)) h5 fun v18 h6 =>
  kP v11 bT v18 fun v19 =>
  sCond v19 (
  j.1.1 v0 v1 v2 h6) (
  some ((Z 0), h6))
def f9.J (I : Inp) (call : CallFn) (n : Nat) : f9.Js :=
  Nat.rec (motive := fun _ => f9.Js) ((Zr.z, Zr.z), (Zr.z, (Zr.z, Zr.z))) (fun _ j => ((f9.b0 I call j, f9.b1 I call j), (f9.b2 I call j, (f9.b3 I call j, f9.b4 I call j)))) n
theorem f9.n0 : (f9.J I call (n + 1)).1.1 = f9.b0 I call (f9.J I call n) := nrfl
theorem f9.n1 : (f9.J I call (n + 1)).1.2 = f9.b1 I call (f9.J I call n) := nrfl
theorem f9.n2 : (f9.J I call (n + 1)).2.1 = f9.b2 I call (f9.J I call n) := nrfl
theorem f9.n3 : (f9.J I call (n + 1)).2.2.1 = f9.b3 I call (f9.J I call n) := nrfl
theorem f9.n4 : (f9.J I call (n + 1)).2.2.2 = f9.b4 I call (f9.J I call n) := nrfl
def f9.JS (I : Inp) (call : CallFn) (n : Nat) : Jmp := (fun j : f9.Js => jmp [Ap.ap j.1.1 [0, 1, 2], Ap.ap j.1.2 [0, 7], Ap.ap j.2.1 [0, 7, 23, 24, 25], Ap.ap j.2.2.1 [0, 7, 23, 24, 25], Ap.ap j.2.2.2 [0, 7, 23, 24, 25]]) (f9.J I call n)
theorem f9.S : SFn ⟨P, I, F⟩ call c9 (f9.JS I call) := .all 5 (by kernel_rfl) (fun ρ h => by kernel_rfl) (fun n ρ h => by kernel_rfl)
theorem f9.qe : Ap.all (f9.e I call (f9.J I call n)) (fun l h => execC P I call (f9.JS I call n) c9.body 0 (finV I c9.results) (argV l) h) := fun v0 v1 v2 h => by kernel_rfl
theorem f9.code : codeOf P 9 = some c9 := by kernel_rfl
def f9.run (I : Inp) : SF := fun call n => Ap.ar (f9.e I call (f9.J I call n))
theorem f9.ok (I : Inp) (F : Nat → Option AFn) (hF : F 9 = some (.code c9)) : SfOk P I F 9 (f9.run I) := okOf hF (by kernel_rfl) (fun _ => f9.S) fun call n => f9.qe
theorem f9.lim (hp : prims 9 = none) {v0 v1 v2 : AVal} (hr : Res (f9.e I (AM.lim ⟨P, I, genF P prims⟩) (f9.J I (AM.lim ⟨P, I, genF P prims⟩) n) v0 v1 v2 h) Q) : Res ((AM.lim ⟨P, I, genF P prims⟩) 9 [v0, v1, v2] h) Q := limOf (n := n) hp f9.code (f9.ok I) hr rfl
/-! haruspex/haruspexref14.Zero -/
def c10 : AFunc := cOf P 10
abbrev f10.Js : Type := A1
def f10.b0 (I : Inp) (call : CallFn) (j : f10.Js) (v2 : AVal) (h : AHeap) : Rs :=
  bndP (pBuild [(Z 0), (Z 0), bF] [(0, 1, (Z 1))]) fun v7 =>
  kS 3 v2 v7 h fun _ h1 =>
  sRet (sCons (sResN I 3 v2 h1) (some [])) h1
def f10.e (I : Inp) (call : CallFn) (j : f10.Js) (v0 : AVal) (h : AHeap) : Rs :=
  bnd (sBox v0 h) fun v1 h1 =>
  kA [(Z 0), (Z 0), bF] h1 fun v2 h2 =>
  kF 0 v1 fun v3 =>
  kL I v3 h2 fun v4 =>
  kB .eql v4 (Z 0) fun v5 =>
  sCond v5 (
  j v2 h2) (
  bndP (pBuild [(Z 0), (Z 0), bF] [(0, 1, (Z 0))]) fun v6 =>
  kS 3 v2 v6 h2 fun _ h3 =>
  sRet (sCons (sResN I 3 v2 h3) (some [])) h3)
def f10.J (I : Inp) (call : CallFn) (n : Nat) : f10.Js :=
  Nat.rec (motive := fun _ => f10.Js) Zr.z (fun _ j => f10.b0 I call j) n
theorem f10.n0 : (f10.J I call (n + 1)) = f10.b0 I call (f10.J I call n) := nrfl
def f10.JS (I : Inp) (call : CallFn) (n : Nat) : Jmp := (fun j : f10.Js => jmp [Ap.ap j [2]]) (f10.J I call n)
theorem f10.S : SFn ⟨P, I, F⟩ call c10 (f10.JS I call) := .all 1 (by kernel_rfl) (fun ρ h => by kernel_rfl) (fun n ρ h => by kernel_rfl)
theorem f10.qe : Ap.all (f10.e I call (f10.J I call n)) (fun l h => execC P I call (f10.JS I call n) c10.body 0 (finV I c10.results) (argV l) h) := fun v0 h => by kernel_rfl
theorem f10.code : codeOf P 10 = some c10 := by kernel_rfl
def f10.run (I : Inp) : SF := fun call n => Ap.ar (f10.e I call (f10.J I call n))
theorem f10.ok (I : Inp) (F : Nat → Option AFn) (hF : F 10 = some (.code c10)) : SfOk P I F 10 (f10.run I) := okOf hF (by kernel_rfl) (fun _ => f10.S) fun call n => f10.qe
theorem f10.lim (hp : prims 10 = none) {v0 : AVal} (hr : Res (f10.e I (AM.lim ⟨P, I, genF P prims⟩) (f10.J I (AM.lim ⟨P, I, genF P prims⟩) n) v0 h) Q) : Res ((AM.lim ⟨P, I, genF P prims⟩) 10 [v0] h) Q := limOf (n := n) hp f10.code (f10.ok I) hr rfl
/-! (*haruspex/value.Heap).Set -/
def c11 : AFunc := cOf P 11
abbrev f11.Js : Type := A1
def f11.b0 (I : Inp) (call : CallFn) (j : f11.Js) (v10 : AVal) (h : AHeap) : Rs :=
  some (v10, h)
def f11.e (I : Inp) (call : CallFn) (j : f11.Js) (v0 v1 v2 v3 : AVal) (h : AHeap) : Rs :=
  bnd (sBox v3 h) fun v7 h1 =>
  kC call 20 [v0, v1, v2] h1 fun v15 h2 =>
  kX v15 0 fun v16 =>
  kX v15 1 fun v17 =>
  kB .eql v17 (Z 0) fun v19 =>
  sCond v19 (
  j v17 h2) (
  kM I 3 v7 h2 fun v21 =>
  kN v16 fun v22 =>
  kS 3 v22 v21 h2 fun _ h3 =>
  j v17 h3)
def f11.J (I : Inp) (call : CallFn) (n : Nat) : f11.Js :=
  Nat.rec (motive := fun _ => f11.Js) Zr.z (fun _ j => f11.b0 I call j) n
theorem f11.n0 : (f11.J I call (n + 1)) = f11.b0 I call (f11.J I call n) := nrfl
def f11.JS (I : Inp) (call : CallFn) (n : Nat) : Jmp := (fun j : f11.Js => jmp [Ap.ap j [10]]) (f11.J I call n)
theorem f11.S : SFn ⟨P, I, F⟩ call c11 (f11.JS I call) := .all 1 (by kernel_rfl) (fun ρ h => by kernel_rfl) (fun n ρ h => by kernel_rfl)
theorem f11.qe : Ap.all (f11.e I call (f11.J I call n)) (fun l h => execC P I call (f11.JS I call n) c11.body 0 (finV I c11.results) (argV l) h) := fun v0 v1 v2 v3 h => by kernel_rfl
theorem f11.code : codeOf P 11 = some c11 := by kernel_rfl
def f11.run (I : Inp) : SF := fun call n => Ap.ar (f11.e I call (f11.J I call n))
theorem f11.ok (I : Inp) (F : Nat → Option AFn) (hF : F 11 = some (.code c11)) : SfOk P I F 11 (f11.run I) := okOf hF (by kernel_rfl) (fun _ => f11.S) fun call n => f11.qe
theorem f11.lim (hp : prims 11 = none) {v0 v1 v2 v3 : AVal} (hr : Res (f11.e I (AM.lim ⟨P, I, genF P prims⟩) (f11.J I (AM.lim ⟨P, I, genF P prims⟩) n) v0 v1 v2 v3 h) Q) : Res ((AM.lim ⟨P, I, genF P prims⟩) 11 [v0, v1, v2, v3] h) Q := limOf (n := n) hp f11.code (f11.ok I) hr rfl
/-! (*haruspex/value.Heap).Get -/
def c12 : AFunc := cOf P 12
abbrev f12.Js : Type := A2
def f12.b0 (I : Inp) (call : CallFn) (j : f12.Js) (v6 v8 : AVal) (h : AHeap) : Rs :=
  kN v8 fun v22 =>
  kM I 3 v22 h fun v23 =>
  kS 3 v6 v23 h fun _ h1 =>
  sRet (sCons (sResN I 3 v6 h1) (sCons (some (Z 0)) (some []))) h1
def f12.e (I : Inp) (call : CallFn) (j : f12.Js) (v0 v1 v2 : AVal) (h : AHeap) : Rs :=
  kA [(Z 0), (Z 0), bF] h fun v6 h1 =>
  kC call 20 [v0, v1, v2] h1 fun v14 h2 =>
  kX v14 0 fun v15 =>
  kX v14 1 fun v16 =>
  kB .neq v16 (Z 0) fun v18 =>
  sCond v18 (
  j v6 v15 h2) (
  bndP (pBuild [(Z 0), (Z 0), bF] []) fun v19 =>
  kS 3 v6 v19 h2 fun _ h3 =>
  sRet (sCons (sResN I 3 v6 h3) (sCons (some v16) (some []))) h3)
def f12.J (I : Inp) (call : CallFn) (n : Nat) : f12.Js :=
  Nat.rec (motive := fun _ => f12.Js) Zr.z (fun _ j => f12.b0 I call j) n
theorem f12.n0 : (f12.J I call (n + 1)) = f12.b0 I call (f12.J I call n) := nrfl
def f12.JS (I : Inp) (call : CallFn) (n : Nat) : Jmp := (fun j : f12.Js => jmp [Ap.ap j [6, 8]]) (f12.J I call n)
theorem f12.S : SFn ⟨P, I, F⟩ call c12 (f12.JS I call) := .all 1 (by kernel_rfl) (fun ρ h => by kernel_rfl) (fun n ρ h => by kernel_rfl)
theorem f12.qe : Ap.all (f12.e I call (f12.J I call n)) (fun l h => execC P I call (f12.JS I call n) c12.body 0 (finV I c12.results) (argV l) h) := fun v0 v1 v2 h => by kernel_rfl
theorem f12.code : codeOf P 12 = some c12 := by kernel_rfl
def f12.run (I : Inp) : SF := fun call n => Ap.ar (f12.e I call (f12.J I call n))
theorem f12.ok (I : Inp) (F : Nat → Option AFn) (hF : F 12 = some (.code c12)) : SfOk P I F 12 (f12.run I) := okOf hF (by kernel_rfl) (fun _ => f12.S) fun call n => f12.qe
theorem f12.lim (hp : prims 12 = none) {v0 v1 v2 : AVal} (hr : Res (f12.e I (AM.lim ⟨P, I, genF P prims⟩) (f12.J I (AM.lim ⟨P, I, genF P prims⟩) n) v0 v1 v2 h) Q) : Res ((AM.lim ⟨P, I, genF P prims⟩) 12 [v0, v1, v2] h) Q := limOf (n := n) hp f12.code (f12.ok I) hr rfl
/-! haruspex/haruspexref14.EqValue -/
def c13 : AFunc := cOf P 13
abbrev f13.Js : Type := Unit
def f13.e (I : Inp) (call : CallFn) (j : f13.Js) (v0 v1 : AVal) (h : AHeap) : Rs :=
  bnd (sBox v0 h) fun v2 h1 =>
  bnd (sBox v1 h1) fun v3 h2 =>
  kF 0 v2 fun v5 =>
  kL I v5 h2 fun v6 =>
  kF 0 v3 fun v7 =>
  kL I v7 h2 fun v8 =>
  kB .eql v6 v8 fun v9 =>
  gP v9 .true (pFieldAddr 1 v2) h2 fun v11 h3 =>
  gP v9 .true (pLoad1 I v11 h3) h3 fun v12 h4 =>
  gP v9 .true (pFieldAddr 1 v3) h4 fun v13 h5 =>
  gP v9 .true (pLoad1 I v13 h5) h5 fun v14 h6 =>
  gP v9 .true (pBin .eql v12 v14) h6 fun v15 h7 =>
  kP v9 v15 bF fun v16 =>
  gP v16 .true (pFieldAddr 2 v2) h7 fun v18 h8 =>
  gP v16 .true (pLoad1 I v18 h8) h8 fun v19 h9 =>
  gP v16 .true (pFieldAddr 2 v3) h9 fun v20 h10 =>
  gP v16 .true (pLoad1 I v20 h10) h10 fun v21 h11 =>
  gP v16 .true (pEq P .false .bool .false v19 v21 h11) h11 fun v22 h12 =>
  kP v16 v22 bF fun v23 =>
  some (v23, h12)
theorem f13.S : SFn ⟨P, I, F⟩ call c13 (fun _ => jmp []) := .all 0 (by kernel_rfl) (fun ρ h => by kernel_rfl) (fun n ρ h => by kernel_rfl)
theorem f13.qe : Ap.all (f13.e I call ()) (fun l h => execC P I call (jmp []) c13.body 0 (finV I c13.results) (argV l) h) := fun v0 v1 h => by kernel_rfl
theorem f13.code : codeOf P 13 = some c13 := by kernel_rfl
def f13.run (I : Inp) : SF := fun call n => Ap.ar (f13.e I call ())
theorem f13.ok (I : Inp) (F : Nat → Option AFn) (hF : F 13 = some (.code c13)) : SfOk P I F 13 (f13.run I) := okOf hF (by kernel_rfl) (fun _ => f13.S) fun call n => f13.qe
theorem f13.lim (hp : prims 13 = none) {n : Nat} {v0 v1 : AVal} (hr : Res (f13.e I (AM.lim ⟨P, I, genF P prims⟩) () v0 v1 h) Q) : Res ((AM.lim ⟨P, I, genF P prims⟩) 13 [v0, v1] h) Q := limOf (n := n) hp f13.code (f13.ok I) hr rfl
/-! haruspex/value.Zero -/
def c15 : AFunc := cOf P 15
abbrev f15.Js : Type := A1
def f15.b0 (I : Inp) (call : CallFn) (j : f15.Js) (v2 : AVal) (h : AHeap) : Rs :=
  bndP (pBuild [(Z 0), (Z 0), bF] [(0, 1, (Z 1))]) fun v7 =>
  kS 3 v2 v7 h fun _ h1 =>
  sRet (sCons (sResN I 3 v2 h1) (some [])) h1
def f15.e (I : Inp) (call : CallFn) (j : f15.Js) (v0 : AVal) (h : AHeap) : Rs :=
  bnd (sBox v0 h) fun v1 h1 =>
  kA [(Z 0), (Z 0), bF] h1 fun v2 h2 =>
  kF 0 v1 fun v3 =>
  kL I v3 h2 fun v4 =>
  kB .eql v4 (Z 0) fun v5 =>
  sCond v5 (
  j v2 h2) (
  bndP (pBuild [(Z 0), (Z 0), bF] [(0, 1, (Z 0))]) fun v6 =>
  kS 3 v2 v6 h2 fun _ h3 =>
  sRet (sCons (sResN I 3 v2 h3) (some [])) h3)
def f15.J (I : Inp) (call : CallFn) (n : Nat) : f15.Js :=
  Nat.rec (motive := fun _ => f15.Js) Zr.z (fun _ j => f15.b0 I call j) n
theorem f15.n0 : (f15.J I call (n + 1)) = f15.b0 I call (f15.J I call n) := nrfl
def f15.JS (I : Inp) (call : CallFn) (n : Nat) : Jmp := (fun j : f15.Js => jmp [Ap.ap j [2]]) (f15.J I call n)
theorem f15.S : SFn ⟨P, I, F⟩ call c15 (f15.JS I call) := .all 1 (by kernel_rfl) (fun ρ h => by kernel_rfl) (fun n ρ h => by kernel_rfl)
theorem f15.qe : Ap.all (f15.e I call (f15.J I call n)) (fun l h => execC P I call (f15.JS I call n) c15.body 0 (finV I c15.results) (argV l) h) := fun v0 h => by kernel_rfl
theorem f15.code : codeOf P 15 = some c15 := by kernel_rfl
def f15.run (I : Inp) : SF := fun call n => Ap.ar (f15.e I call (f15.J I call n))
theorem f15.ok (I : Inp) (F : Nat → Option AFn) (hF : F 15 = some (.code c15)) : SfOk P I F 15 (f15.run I) := okOf hF (by kernel_rfl) (fun _ => f15.S) fun call n => f15.qe
theorem f15.lim (hp : prims 15 = none) {v0 : AVal} (hr : Res (f15.e I (AM.lim ⟨P, I, genF P prims⟩) (f15.J I (AM.lim ⟨P, I, genF P prims⟩) n) v0 h) Q) : Res ((AM.lim ⟨P, I, genF P prims⟩) 15 [v0] h) Q := limOf (n := n) hp f15.code (f15.ok I) hr rfl
/-! (*haruspex/value.Heap).Free -/
def c17 : AFunc := cOf P 17
abbrev f17.Js : Type := A1
def f17.b0 (I : Inp) (call : CallFn) (j : f17.Js) (v5 : AVal) (h : AHeap) : Rs :=
  kN v5 fun v18 =>
  kF 2 v18 fun v19 =>
  kS 1 v19 bT h fun _ h1 =>
  some ((Z 0), h1)
def f17.e (I : Inp) (call : CallFn) (j : f17.Js) (v0 v1 : AVal) (h : AHeap) : Rs :=
  kC call 21 [v0, v1] h fun v8 h1 =>
  bndP (pEq P .false .ptr .true v8 .nilp h1) fun v11 =>
  sCond v11 (
  kN v8 fun v14 =>
  kF 2 v14 fun v15 =>
  kL I v15 h1 fun v16 =>
  sCond v16 (
  j v8 h1) (
  some ((Z 2), h1))) (
  some ((Z 1), h1))
def f17.J (I : Inp) (call : CallFn) (n : Nat) : f17.Js :=
  Nat.rec (motive := fun _ => f17.Js) Zr.z (fun _ j => f17.b0 I call j) n
def f17.JS (I : Inp) (call : CallFn) (n : Nat) : Jmp := (fun j : f17.Js => jmp [Ap.ap j [5]]) (f17.J I call n)
theorem f17.S : SFn ⟨P, I, F⟩ call c17 (f17.JS I call) := .all 1 (by kernel_rfl) (fun ρ h => by kernel_rfl) (fun n ρ h => by kernel_rfl)
theorem f17.qe : Ap.all (f17.e I call (f17.J I call n)) (fun l h => execC P I call (f17.JS I call n) c17.body 0 (finV I c17.results) (argV l) h) := fun v0 v1 h => by kernel_rfl
theorem f17.code : codeOf P 17 = some c17 := by kernel_rfl
def f17.run (I : Inp) : SF := fun call n => Ap.ar (f17.e I call (f17.J I call n))
theorem f17.ok (I : Inp) (F : Nat → Option AFn) (hF : F 17 = some (.code c17)) : SfOk P I F 17 (f17.run I) := okOf hF (by kernel_rfl) (fun _ => f17.S) fun call n => f17.qe
/-! (*haruspex/value.Heap).Site -/
def c18 : AFunc := cOf P 18
abbrev f18.Js : Type := A0
def f18.b0 (I : Inp) (call : CallFn) (j : f18.Js) (h : AHeap) : Rs :=
  some ((.int .i64 (.negSucc 0)), h)
def f18.e (I : Inp) (call : CallFn) (j : f18.Js) (v0 v1 : AVal) (h : AHeap) : Rs :=
  kC call 21 [v0, v1] h fun v8 h1 =>
  bndP (pEq P .true .ptr .true v8 .nilp h1) fun v10 =>
  sCond v10 (
  j h1) (
  kN v8 fun v12 =>
  kF 0 v12 fun v13 =>
  kL I v13 h1 fun v14 =>
  some (v14, h1))
def f18.J (I : Inp) (call : CallFn) (n : Nat) : f18.Js :=
  Nat.rec (motive := fun _ => f18.Js) Zr.z (fun _ j => f18.b0 I call j) n
def f18.JS (I : Inp) (call : CallFn) (n : Nat) : Jmp := (fun j : f18.Js => jmp [Ap.ap j []]) (f18.J I call n)
theorem f18.S : SFn ⟨P, I, F⟩ call c18 (f18.JS I call) := .all 1 (by kernel_rfl) (fun ρ h => by kernel_rfl) (fun n ρ h => by kernel_rfl)
theorem f18.qe : Ap.all (f18.e I call (f18.J I call n)) (fun l h => execC P I call (f18.JS I call n) c18.body 0 (finV I c18.results) (argV l) h) := fun v0 v1 h => by kernel_rfl
theorem f18.code : codeOf P 18 = some c18 := by kernel_rfl
def f18.run (I : Inp) : SF := fun call n => Ap.ar (f18.e I call (f18.J I call n))
theorem f18.ok (I : Inp) (F : Nat → Option AFn) (hF : F 18 = some (.code c18)) : SfOk P I F 18 (f18.run I) := okOf hF (by kernel_rfl) (fun _ => f18.S) fun call n => f18.qe
/-! (*haruspex/value.Heap).Freed -/
def c19 : AFunc := cOf P 19
abbrev f19.Js : Type := Unit
def f19.e (I : Inp) (call : CallFn) (j : f19.Js) (v0 v1 : AVal) (h : AHeap) : Rs :=
  kC call 21 [v0, v1] h fun v8 h1 =>
  bndP (pEq P .true .ptr .true v8 .nilp h1) fun v10 =>
  gV v10 .true v8 h1 fun v12 h2 =>
  gP v10 .true (pNilCheck v12) h2 fun v13 h3 =>
  gP v10 .true (pFieldAddr 2 v13) h3 fun v14 h4 =>
  gP v10 .true (pLoad1 I v14 h4) h4 fun v15 h5 =>
  kP v10 v15 bF fun v16 =>
  some (v16, h5)
theorem f19.S : SFn ⟨P, I, F⟩ call c19 (fun _ => jmp []) := .all 0 (by kernel_rfl) (fun ρ h => by kernel_rfl) (fun n ρ h => by kernel_rfl)
theorem f19.qe : Ap.all (f19.e I call ()) (fun l h => execC P I call (jmp []) c19.body 0 (finV I c19.results) (argV l) h) := fun v0 v1 h => by kernel_rfl
theorem f19.code : codeOf P 19 = some c19 := by kernel_rfl
def f19.run (I : Inp) : SF := fun call n => Ap.ar (f19.e I call ())
theorem f19.ok (I : Inp) (F : Nat → Option AFn) (hF : F 19 = some (.code c19)) : SfOk P I F 19 (f19.run I) := okOf hF (by kernel_rfl) (fun _ => f19.S) fun call n => f19.qe
/-! (*haruspex/value.Heap).cell -/
def c20 : AFunc := cOf P 20
abbrev f20.Js : Type := A2
def f20.b0 (I : Inp) (call : CallFn) (j : f20.Js) (v2 v8 : AVal) (h : AHeap) : Rs :=
  kN v8 fun v33 =>
  kF 1 v33 fun v34 =>
  kL I v34 h fun v35 =>
  kI 3 v35 v2 fun v37 =>
  some (.tuple [v37, (Z 0)], h)
def f20.e (I : Inp) (call : CallFn) (j : f20.Js) (v0 v1 v2 : AVal) (h : AHeap) : Rs :=
  kC call 21 [v0, v1] h fun v11 h1 =>
  bndP (pEq P .false .ptr .true v11 .nilp h1) fun v14 =>
  sCond v14 (
  kN v11 fun v17 =>
  kF 2 v17 fun v18 =>
  kL I v18 h1 fun v19 =>
  sCond v19 (
  kB .lss v2 (Z 0) fun v22 =>
  gV v22 .false v2 h1 fun v24 h2 =>
  gV v22 .false v11 h2 fun v25 h3 =>
  gP v22 .false (pNilCheck v25) h3 fun v26 h4 =>
  gP v22 .false (pFieldAddr 1 v26) h4 fun v27 h5 =>
  gP v22 .false (pLoad1 I v27 h5) h5 fun v28 h6 =>
  gP v22 .false (pLenSl v28) h6 fun v29 h7 =>
  gP v22 .false (pBin .geq v24 v29) h7 fun v30 h8 =>
  kP v22 bT v30 fun v31 =>
  sCond v31 (
  j v2 v11 h8) (
  some (.tuple [.nilp, (Z 1)], h8))) (
  some (.tuple [.nilp, (Z 2)], h1))) (
  some (.tuple [.nilp, (Z 1)], h1))
def f20.J (I : Inp) (call : CallFn) (n : Nat) : f20.Js :=
  Nat.rec (motive := fun _ => f20.Js) Zr.z (fun _ j => f20.b0 I call j) n
theorem f20.n0 : (f20.J I call (n + 1)) = f20.b0 I call (f20.J I call n) := nrfl
def f20.JS (I : Inp) (call : CallFn) (n : Nat) : Jmp := (fun j : f20.Js => jmp [Ap.ap j [2, 8]]) (f20.J I call n)
theorem f20.S : SFn ⟨P, I, F⟩ call c20 (f20.JS I call) := .all 1 (by kernel_rfl) (fun ρ h => by kernel_rfl) (fun n ρ h => by kernel_rfl)
theorem f20.qe : Ap.all (f20.e I call (f20.J I call n)) (fun l h => execC P I call (f20.JS I call n) c20.body 0 (finV I c20.results) (argV l) h) := fun v0 v1 v2 h => by kernel_rfl
theorem f20.code : codeOf P 20 = some c20 := by kernel_rfl
def f20.run (I : Inp) : SF := fun call n => Ap.ar (f20.e I call (f20.J I call n))
theorem f20.ok (I : Inp) (F : Nat → Option AFn) (hF : F 20 = some (.code c20)) : SfOk P I F 20 (f20.run I) := okOf hF (by kernel_rfl) (fun _ => f20.S) fun call n => f20.qe
theorem f20.lim (hp : prims 20 = none) {v0 v1 v2 : AVal} (hr : Res (f20.e I (AM.lim ⟨P, I, genF P prims⟩) (f20.J I (AM.lim ⟨P, I, genF P prims⟩) n) v0 v1 v2 h) Q) : Res ((AM.lim ⟨P, I, genF P prims⟩) 20 [v0, v1, v2] h) Q := limOf (n := n) hp f20.code (f20.ok I) hr rfl
/-! (*haruspex/value.Heap).find -/
def c21 : AFunc := cOf P 21
abbrev f21.Js : Type := A2
def f21.b0 (I : Inp) (call : CallFn) (j : f21.Js) (v0 v1 : AVal) (h : AHeap) : Rs :=
  kN v0 fun v21 =>
  kF 0 v21 fun v22 =>
  kL I v22 h fun v23 =>
  kB .sub v1 (Z 1) fun v25 =>
  kI 1 v23 v25 fun v26 =>
  kL I v26 h fun v27 =>
  some (v27, h)
def f21.e (I : Inp) (call : CallFn) (j : f21.Js) (v0 v1 : AVal) (h : AHeap) : Rs :=
  bndP (pEq P .false .ptr .true v0 .nilp h) fun v6 =>
  gV v6 .false v1 h fun v8 h1 =>
  gP v6 .false (pBin .lss v8 (Z 1)) h1 fun v9 h2 =>
  kP v6 bT v9 fun v10 =>
  gV v10 .false v1 h2 fun v12 h3 =>
  gV v10 .false v0 h3 fun v13 h4 =>
  gP v10 .false (pNilCheck v13) h4 fun v14 h5 =>
  gP v10 .false (pFieldAddr 0 v14) h5 fun v15 h6 =>
  gP v10 .false (pLoad1 I v15 h6) h6 fun v16 h7 =>
  gP v10 .false (pLenSl v16) h7 fun v17 h8 =>
  gP v10 .false (pBin .gtr v12 v17) h8 fun v18 h9 =>
  kP v10 bT v18 fun v19 =>
  sCond v19 (
  j v0 v1 h9) (
  some (.nilp, h9))
def f21.J (I : Inp) (call : CallFn) (n : Nat) : f21.Js :=
  Nat.rec (motive := fun _ => f21.Js) Zr.z (fun _ j => f21.b0 I call j) n
theorem f21.n0 : (f21.J I call (n + 1)) = f21.b0 I call (f21.J I call n) := nrfl
def f21.JS (I : Inp) (call : CallFn) (n : Nat) : Jmp := (fun j : f21.Js => jmp [Ap.ap j [0, 1]]) (f21.J I call n)
theorem f21.S : SFn ⟨P, I, F⟩ call c21 (f21.JS I call) := .all 1 (by kernel_rfl) (fun ρ h => by kernel_rfl) (fun n ρ h => by kernel_rfl)
theorem f21.qe : Ap.all (f21.e I call (f21.J I call n)) (fun l h => execC P I call (f21.JS I call n) c21.body 0 (finV I c21.results) (argV l) h) := fun v0 v1 h => by kernel_rfl
theorem f21.code : codeOf P 21 = some c21 := by kernel_rfl
def f21.run (I : Inp) : SF := fun call n => Ap.ar (f21.e I call (f21.J I call n))
theorem f21.ok (I : Inp) (F : Nat → Option AFn) (hF : F 21 = some (.code c21)) : SfOk P I F 21 (f21.run I) := okOf hF (by kernel_rfl) (fun _ => f21.S) fun call n => f21.qe
theorem f21.lim (hp : prims 21 = none) {v0 v1 : AVal} (hr : Res (f21.e I (AM.lim ⟨P, I, genF P prims⟩) (f21.J I (AM.lim ⟨P, I, genF P prims⟩) n) v0 v1 h) Q) : Res ((AM.lim ⟨P, I, genF P prims⟩) 21 [v0, v1] h) Q := limOf (n := n) hp f21.code (f21.ok I) hr rfl
end
end Go.Proofs.Ytaekibfknmanhaa.Sf
