/- The functions of the program by their labels, on values, part 0: what they compute the abstract machine computes. Conditions: none. -/
import Derived.Test.YtncjcnipagdmlaaDoorAmZ
import Derived.Test.YtncjcnipagdmlaaDoorProg
namespace Go.Proofs.YtncjcnipagdmlaaDoor.Sf
open Go.AM
set_option linter.unusedVariables false
noncomputable section
noncomputable abbrev P : Program := Tryd.prog
variable {I : Inp} {F : Nat → Option AFn} {call : CallFn} {prims : Nat → Option Prim} {n : Nat} {h : AHeap} {Q : AVal → AHeap → Prop}
/-! haruspex/haruspexlaw9.CodeTwins -/
def c7 : AFunc := cOf P 7
abbrev f7.Js : Type := (A2 × (A2 × A4))
def f7.b0 (I : Inp) (call : CallFn) (j : f7.Js) (v0 v1 : AVal) (h : AHeap) : Rs :=
  kC call 11 [v0] h fun v15 h1 =>
  kU .not v15 fun v16 =>
  gV v16 .false v1 h1 fun v18 h2 =>
  gS v16 .false (call 11 [v18] h2) h2 fun v19 h3 =>
  gP v16 .false (pUn .not v19) h3 fun v20 h4 =>
  kP v16 bT v20 fun v21 =>
  sCond v21 (
  j.2.1 v0 v1 h4) (
  some (bT, h4))
def f7.b1 (I : Inp) (call : CallFn) (j : f7.Js) (v0 v1 : AVal) (h : AHeap) : Rs :=
  kC call 13 [v0] h fun v24 h1 =>
  kX v24 0 fun v25 =>
  kX v24 1 fun v26 =>
  kC call 13 [v1] h1 fun v29 h2 =>
  kX v29 0 fun v30 =>
  kX v29 1 fun v31 =>
  bndP (pEq P .true .iface .true v26 .nili h2) fun v33 =>
  gV v33 .false v31 h2 fun v35 h3 =>
  gP v33 .false (pEq P .true .iface .true v35 .nili h3) h3 fun v36 h4 =>
  kP v33 bT v36 fun v37 =>
  sCond v37 (
  j.2.2 v0 v1 v25 v30 h4) (
  some (bT, h4))
def f7.b2 (I : Inp) (call : CallFn) (j : f7.Js) (v0 v1 v6 v8 : AVal) (h : AHeap) : Rs :=
  kC call 15 [v6] h fun v40 h1 =>
  kX v40 0 fun v41 =>
  kX v40 1 fun v42 =>
  bndP (pEq P .false .iface .true v42 .nili h1) fun v44 =>
  gV v44 .true v6 h1 fun v46 h2 =>
  gP v44 .true (pToStr I v46 h2) h2 fun v47 h3 =>
  gV v44 .true v8 h3 fun v48 h4 =>
  gP v44 .true (pToStr I v48 h4) h4 fun v49 h5 =>
  gP v44 .true (pBin .eql v47 v49) h5 fun v50 h6 =>
  gV v44 .true v0 h6 fun v51 h7 =>
  gV v44 .true v1 h7 fun v52 h8 =>
  gS v44 .true (call 16 [v51, v52] h8) h8 fun v53 h9 =>
  gP v44 .true (pEq P .false .bool .false v50 v53 h9) h9 fun v54 h10 =>
  kP v44 v54 bF fun v55 =>
  gV v55 .true v41 h10 fun v57 h11 =>
  gS v55 .true (call 17 [v57] h11) h11 fun v58 h12 =>
  gV v55 .true v0 h12 fun v59 h13 =>
  gS v55 .true (call 17 [v59] h13) h13 fun v60 h14 =>
  gP v55 .true (pBin .eql v58 v60) h14 fun v61 h15 =>
  kP v55 v61 bF fun v62 =>
  sCheck (sSame (sGuard v44 .true (lift (pToStr I v46 h9) h9) h9) v47 && true) (
  sCheck (sSame (sGuard v44 .true (lift (pToStr I v48 h9) h9) h9) v49 && true) (
  some (v62, h15)))
def f7.e (I : Inp) (call : CallFn) (j : f7.Js) (v0 v1 : AVal) (h : AHeap) : Rs :=
  kC call 10 [] h fun v11 h1 =>
  kU .not v11 fun v13 =>
  sCond v13 (
  j.1 v0 v1 h1) (
  some (bF, h1))
def f7.J (I : Inp) (call : CallFn) (n : Nat) : f7.Js :=
  Nat.rec (motive := fun _ => f7.Js) (Zr.z, (Zr.z, Zr.z)) (fun _ j => (f7.b0 I call j, (f7.b1 I call j, f7.b2 I call j))) n
theorem f7.n0 : (f7.J I call (n + 1)).1 = f7.b0 I call (f7.J I call n) := nrfl
theorem f7.n1 : (f7.J I call (n + 1)).2.1 = f7.b1 I call (f7.J I call n) := nrfl
theorem f7.n2 : (f7.J I call (n + 1)).2.2 = f7.b2 I call (f7.J I call n) := nrfl
def f7.JS (I : Inp) (call : CallFn) (n : Nat) : Jmp := (fun j : f7.Js => jmp [Ap.ap j.1 [0, 1], Ap.ap j.2.1 [0, 1], Ap.ap j.2.2 [0, 1, 6, 8]]) (f7.J I call n)
theorem f7.S : SFn ⟨P, I, F⟩ call c7 (f7.JS I call) := .all 3 (by kernel_rfl) (fun ρ h => by kernel_rfl) (fun n ρ h => by kernel_rfl)
theorem f7.qe : Ap.all (f7.e I call (f7.J I call n)) (fun l h => execC P I call (f7.JS I call n) c7.body 0 (finV I c7.results) (argV l) h) := fun v0 v1 h => by kernel_rfl
theorem f7.code : codeOf P 7 = some c7 := by kernel_rfl
def f7.run (I : Inp) : SF := fun call n => Ap.ar (f7.e I call (f7.J I call n))
theorem f7.ok (I : Inp) (F : Nat → Option AFn) (hF : F 7 = some (.code c7)) : SfOk P I F 7 (f7.run I) := okOf hF (by kernel_rfl) (fun _ => f7.S) fun call n => f7.qe
theorem f7.lim (hp : prims 7 = none) {v0 v1 : AVal} (hr : Res (f7.e I (AM.lim ⟨P, I, genF P prims⟩) (f7.J I (AM.lim ⟨P, I, genF P prims⟩) n) v0 v1 h) Q) : Res ((AM.lim ⟨P, I, genF P prims⟩) 7 [v0, v1] h) Q := limOf (n := n) hp f7.code (f7.ok I) hr rfl
/-! haruspex/haruspexlaw9.begun -/
def c10 : AFunc := cOf P 10
abbrev f10.Js : Type := Unit
def f10.e (I : Inp) (call : CallFn) (j : f10.Js) (h : AHeap) : Rs :=
  bndP (pBuild [(Z 0), (Z 0)] [(0, 1, (Z 1))]) fun v8 =>
  bnd (sBuildSlice [(Z 0), (Z 0)] 1 [(0, 2, v8)] h) fun v9 h1 =>
  bnd (sBuildSlice [.nils] 1 [(0, 1, v9)] h1) fun v10 h2 =>
  bndP (pBuild [.nils, .nils, .nils, .nils, .nils, (Z 0)] [(0, 1, v10), (5, 1, (.int .i64 (.negSucc 2)))]) fun v11 =>
  bnd (sBox v11 h2) fun v12 h3 =>
  kC call 13 [v12] h3 fun v15 h4 =>
  kX v15 0 fun v16 =>
  kX v15 1 fun v17 =>
  kC call 15 [v16] h4 fun v20 h5 =>
  kX v20 0 fun v21 =>
  kX v20 1 fun v22 =>
  bnd (sBuildSlice [(.int .u8 (.ofNat 0))] 1 [(0, 1, (.int .u8 (.ofNat 1)))] h5) fun v24 h6 =>
  kC call 15 [v24] h6 fun v25 h7 =>
  kX v25 0 fun v26 =>
  kX v25 1 fun v27 =>
  bndP (pEq P .false .iface .true v17 .nili h7) fun v29 =>
  gV v29 .true v22 h7 fun v31 h8 =>
  gP v29 .true (pEq P .false .iface .true v31 .nili h8) h8 fun v32 h9 =>
  kP v29 v32 bF fun v33 =>
  gV v33 .true v12 h9 fun v35 h10 =>
  gV v33 .true v21 h10 fun v36 h11 =>
  gS v33 .true (call 16 [v35, v36] h11) h11 fun v37 h12 =>
  kP v33 v37 bF fun v38 =>
  gV v38 .true v27 h12 fun v40 h13 =>
  gS v38 .true (call 14 [v40] h13) h13 fun v41 h14 =>
  gP v38 .true (pBin .eql v41 (Z 1)) h14 fun v42 h15 =>
  kP v38 v42 bF fun v43 =>
  some (v43, h15)
theorem f10.S : SFn ⟨P, I, F⟩ call c10 (fun _ => jmp []) := .all 0 (by kernel_rfl) (fun ρ h => by kernel_rfl) (fun n ρ h => by kernel_rfl)
theorem f10.qe : Ap.all (f10.e I call ()) (fun l h => execC P I call (jmp []) c10.body 0 (finV I c10.results) (argV l) h) := fun h => by kernel_rfl
theorem f10.code : codeOf P 10 = some c10 := by kernel_rfl
def f10.run (I : Inp) : SF := fun call n => Ap.ar (f10.e I call ())
theorem f10.ok (I : Inp) (F : Nat → Option AFn) (hF : F 10 = some (.code c10)) : SfOk P I F 10 (f10.run I) := okOf hF (by kernel_rfl) (fun _ => f10.S) fun call n => f10.qe
/-! haruspex/haruspexlaw8.Small -/
def c11 : AFunc := cOf P 11
abbrev f11.Js : Type := (((A1 × A1) × (A3 × A3)) × ((A3 × A3) × (A4 × (A4 × A4))))
def f11.b0 (I : Inp) (call : CallFn) (j : f11.Js) (v0 : AVal) (h : AHeap) : Rs :=
  j.1.2.1 v0 (Z 0) (Z 0) h
def f11.b1 (I : Inp) (call : CallFn) (j : f11.Js) (v3 : AVal) (h : AHeap) : Rs :=
  kB .leq v3 (Z 150) fun v110 =>
  some (v110, h)
def f11.b2 (I : Inp) (call : CallFn) (j : f11.Js) (v0 v3 v4 : AVal) (h : AHeap) : Rs :=
  kN v0 fun v50 =>
  kF 4 v50 fun v51 =>
  kL I v51 h fun v52 =>
  kZ v52 fun v53 =>
  kB .lss v4 v53 fun v54 =>
  sCond v54 (
  j.1.1.2 v3 h) (
  j.1.2.2 v0 v3 v4 h)
def f11.b3 (I : Inp) (call : CallFn) (j : f11.Js) (v0 v3 v4 : AVal) (h : AHeap) : Rs :=
  kN v0 fun v58 =>
  kF 4 v58 fun v59 =>
  kL I v59 h fun v60 =>
  kI 3 v60 v4 fun v62 =>
  kF 2 v62 fun v63 =>
  kL I v63 h fun v64 =>
  kZ v64 fun v65 =>
  kB .gtr v65 (Z 14) fun v66 =>
  gV v66 .false v0 h fun v68 h1 =>
  gP v66 .false (pNilCheck v68) h1 fun v69 h2 =>
  gP v66 .false (pFieldAddr 4 v69) h2 fun v70 h3 =>
  gP v66 .false (pLoad1 I v70 h3) h3 fun v71 h4 =>
  gV v66 .false v4 h4 fun v72 h5 =>
  gP v66 .false (pIndexAddr 3 v71 v72) h5 fun v73 h6 =>
  gP v66 .false (pFieldAddr 1 v73) h6 fun v74 h7 =>
  gP v66 .false (pLoad1 I v74 h7) h7 fun v75 h8 =>
  gP v66 .false (pLenSl v75) h8 fun v76 h9 =>
  gP v66 .false (pBin .gtr v76 (Z 20)) h9 fun v77 h10 =>
  kP v66 bT v77 fun v78 =>
  sCond v78 (
  j.2.1.2 v0 v3 v4 h10) (
  some (bF, h10))
def f11.b4 (I : Inp) (call : CallFn) (j : f11.Js) (v0 v3 v4 : AVal) (h : AHeap) : Rs :=
  kB .add v4 (Z 1) fun v56 =>
  j.1.2.1 v0 v3 v56 h
def f11.b5 (I : Inp) (call : CallFn) (j : f11.Js) (v0 v3 v4 : AVal) (h : AHeap) : Rs :=
  j.2.2.1 v0 v3 v4 (Z 0) h
def f11.b6 (I : Inp) (call : CallFn) (j : f11.Js) (v0 v3 v4 v5 : AVal) (h : AHeap) : Rs :=
  kN v0 fun v81 =>
  kF 4 v81 fun v82 =>
  kL I v82 h fun v83 =>
  kI 3 v83 v4 fun v85 =>
  kF 2 v85 fun v86 =>
  kL I v86 h fun v87 =>
  kZ v87 fun v88 =>
  kB .lss v5 v88 fun v89 =>
  sCond v89 (
  j.2.1.1 v0 v3 v4 h) (
  j.2.2.2.1 v0 v3 v4 v5 h)
def f11.b7 (I : Inp) (call : CallFn) (j : f11.Js) (v0 v3 v4 v5 : AVal) (h : AHeap) : Rs :=
  kN v0 fun v94 =>
  kF 4 v94 fun v95 =>
  kL I v95 h fun v96 =>
  kI 3 v96 v4 fun v98 =>
  kF 2 v98 fun v99 =>
  kL I v99 h fun v100 =>
  kI 5 v100 v5 fun v102 =>
  kF 0 v102 fun v103 =>
  kL I v103 h fun v104 =>
  kZ v104 fun v105 =>
  bndP (pMinmax .false [(Z 1000), v105]) fun v106 =>
  kB .add (Z 1) v106 fun v107 =>
  kB .add v3 v107 fun v108 =>
  j.2.2.2.2 v0 v108 v4 v5 h
def f11.b8 (I : Inp) (call : CallFn) (j : f11.Js) (v0 v3 v4 v5 : AVal) (h : AHeap) : Rs :=
  kB .add v5 (Z 1) fun v91 =>
  j.2.2.1 v0 v3 v4 v91 h
def f11.e (I : Inp) (call : CallFn) (j : f11.Js) (v0 : AVal) (h : AHeap) : Rs :=
  bndP (pEq P .false .ptr .true v0 .nilp h) fun v7 =>
  gV v7 .false v0 h fun v9 h1 =>
  gP v7 .false (pNilCheck v9) h1 fun v10 h2 =>
  gP v7 .false (pFieldAddr 4 v10) h2 fun v11 h3 =>
  gP v7 .false (pLoad1 I v11 h3) h3 fun v12 h4 =>
  gP v7 .false (pLenSl v12) h4 fun v13 h5 =>
  gP v7 .false (pBin .gtr v13 (Z 12)) h5 fun v14 h6 =>
  kP v7 bT v14 fun v15 =>
  gV v15 .false v0 h6 fun v17 h7 =>
  gP v15 .false (pNilCheck v17) h7 fun v18 h8 =>
  gP v15 .false (pFieldAddr 0 v18) h8 fun v19 h9 =>
  gP v15 .false (pLoad1 I v19 h9) h9 fun v20 h10 =>
  gP v15 .false (pLenSl v20) h10 fun v21 h11 =>
  gP v15 .false (pBin .gtr v21 (Z 12)) h11 fun v22 h12 =>
  kP v15 bT v22 fun v23 =>
  gV v23 .false v0 h12 fun v25 h13 =>
  gP v23 .false (pNilCheck v25) h13 fun v26 h14 =>
  gP v23 .false (pFieldAddr 1 v26) h14 fun v27 h15 =>
  gP v23 .false (pLoad1 I v27 h15) h15 fun v28 h16 =>
  gP v23 .false (pLenSl v28) h16 fun v29 h17 =>
  gP v23 .false (pBin .gtr v29 (Z 12)) h17 fun v30 h18 =>
  kP v23 bT v30 fun v31 =>
  gV v31 .false v0 h18 fun v33 h19 =>
  gP v31 .false (pNilCheck v33) h19 fun v34 h20 =>
  gP v31 .false (pFieldAddr 2 v34) h20 fun v35 h21 =>
  gP v31 .false (pLoad1 I v35 h21) h21 fun v36 h22 =>
  gP v31 .false (pLenSl v36) h22 fun v37 h23 =>
  gP v31 .false (pBin .gtr v37 (Z 12)) h23 fun v38 h24 =>
  kP v31 bT v38 fun v39 =>
  gV v39 .false v0 h24 fun v41 h25 =>
  gP v39 .false (pNilCheck v41) h25 fun v42 h26 =>
  gP v39 .false (pFieldAddr 3 v42) h26 fun v43 h27 =>
  gP v39 .false (pLoad1 I v43 h27) h27 fun v44 h28 =>
  gP v39 .false (pLenSl v44) h28 fun v45 h29 =>
  gP v39 .false (pBin .gtr v45 (Z 14)) h29 fun v46 h30 =>
  kP v39 bT v46 fun v47 =>
  sCond v47 (
  j.1.1.1 v0 h30) (
  some (bF, h30))
def f11.J (I : Inp) (call : CallFn) (n : Nat) : f11.Js :=
  Nat.rec (motive := fun _ => f11.Js) (((Zr.z, Zr.z), (Zr.z, Zr.z)), ((Zr.z, Zr.z), (Zr.z, (Zr.z, Zr.z)))) (fun _ j => (((f11.b0 I call j, f11.b1 I call j), (f11.b2 I call j, f11.b3 I call j)), ((f11.b4 I call j, f11.b5 I call j), (f11.b6 I call j, (f11.b7 I call j, f11.b8 I call j))))) n
theorem f11.n0 : (f11.J I call (n + 1)).1.1.1 = f11.b0 I call (f11.J I call n) := nrfl
theorem f11.n1 : (f11.J I call (n + 1)).1.1.2 = f11.b1 I call (f11.J I call n) := nrfl
theorem f11.n2 : (f11.J I call (n + 1)).1.2.1 = f11.b2 I call (f11.J I call n) := nrfl
theorem f11.n3 : (f11.J I call (n + 1)).1.2.2 = f11.b3 I call (f11.J I call n) := nrfl
theorem f11.n4 : (f11.J I call (n + 1)).2.1.1 = f11.b4 I call (f11.J I call n) := nrfl
theorem f11.n5 : (f11.J I call (n + 1)).2.1.2 = f11.b5 I call (f11.J I call n) := nrfl
theorem f11.n6 : (f11.J I call (n + 1)).2.2.1 = f11.b6 I call (f11.J I call n) := nrfl
theorem f11.n7 : (f11.J I call (n + 1)).2.2.2.1 = f11.b7 I call (f11.J I call n) := nrfl
theorem f11.n8 : (f11.J I call (n + 1)).2.2.2.2 = f11.b8 I call (f11.J I call n) := nrfl
def f11.JS (I : Inp) (call : CallFn) (n : Nat) : Jmp := (fun j : f11.Js => jmp [Ap.ap j.1.1.1 [0], Ap.ap j.1.1.2 [3], Ap.ap j.1.2.1 [0, 3, 4], Ap.ap j.1.2.2 [0, 3, 4], Ap.ap j.2.1.1 [0, 3, 4], Ap.ap j.2.1.2 [0, 3, 4], Ap.ap j.2.2.1 [0, 3, 4, 5], Ap.ap j.2.2.2.1 [0, 3, 4, 5], Ap.ap j.2.2.2.2 [0, 3, 4, 5]]) (f11.J I call n)
theorem f11.S : SFn ⟨P, I, F⟩ call c11 (f11.JS I call) := .all 9 (by kernel_rfl) (fun ρ h => by kernel_rfl) (fun n ρ h => by kernel_rfl)
theorem f11.qe : Ap.all (f11.e I call (f11.J I call n)) (fun l h => execC P I call (f11.JS I call n) c11.body 0 (finV I c11.results) (argV l) h) := fun v0 h => by kernel_rfl
theorem f11.code : codeOf P 11 = some c11 := by kernel_rfl
def f11.run (I : Inp) : SF := fun call n => Ap.ar (f11.e I call (f11.J I call n))
theorem f11.ok (I : Inp) (F : Nat → Option AFn) (hF : F 11 = some (.code c11)) : SfOk P I F 11 (f11.run I) := okOf hF (by kernel_rfl) (fun _ => f11.S) fun call n => f11.qe
theorem f11.lim (hp : prims 11 = none) {v0 : AVal} (hr : Res (f11.e I (AM.lim ⟨P, I, genF P prims⟩) (f11.J I (AM.lim ⟨P, I, genF P prims⟩) n) v0 h) Q) : Res ((AM.lim ⟨P, I, genF P prims⟩) 11 [v0] h) Q := limOf (n := n) hp f11.code (f11.ok I) hr rfl
/-! haruspex/haruspexref8.Encode -/
def c12 : AFunc := cOf P 12
abbrev f12.Js : Type := ((((A2 × A3) × (A3 × (A3 × A2))) × ((A3 × (A3 × A3)) × (A2 × (A3 × A3)))) × (((A3 × (A2 × A3)) × (A3 × (A3 × A2))) × ((A3 × (A3 × A3)) × (A5 × (A5 × A5)))))
def f12.b0 (I : Inp) (call : CallFn) (j : f12.Js) (v0 v3 : AVal) (h : AHeap) : Rs :=
  kN v0 fun v38 =>
  kF 1 v38 fun v39 =>
  kL I v39 h fun v40 =>
  kZ v40 fun v41 =>
  kC call 19 [v41] h fun v42 h1 =>
  bnd (sAppend I 1 1 v3 v42 h1) fun v43 h2 =>
  j.1.2.1.1 v0 v43 (Z 0) h2
def f12.b1 (I : Inp) (call : CallFn) (j : f12.Js) (v0 v3 v4 : AVal) (h : AHeap) : Rs :=
  kN v0 fun v19 =>
  kF 0 v19 fun v20 =>
  kL I v20 h fun v21 =>
  kZ v21 fun v22 =>
  kB .lss v4 v22 fun v23 =>
  sCond v23 (
  j.1.1.1.1 v0 v3 h) (
  j.1.1.2.1 v0 v3 v4 h)
def f12.b2 (I : Inp) (call : CallFn) (j : f12.Js) (v0 v3 v4 : AVal) (h : AHeap) : Rs :=
  kN v0 fun v28 =>
  kF 0 v28 fun v29 =>
  kL I v29 h fun v30 =>
  kI 1 v30 v4 fun v32 =>
  kL I v32 h fun v33 =>
  kC call 20 [v33] h fun v34 h1 =>
  bnd (sAppend I 1 1 v3 v34 h1) fun v35 h2 =>
  j.1.1.2.2.1 v0 v35 v4 h2
def f12.b3 (I : Inp) (call : CallFn) (j : f12.Js) (v0 v3 v4 : AVal) (h : AHeap) : Rs :=
  kB .add v4 (Z 1) fun v25 =>
  j.1.1.1.2 v0 v3 v25 h
def f12.b4 (I : Inp) (call : CallFn) (j : f12.Js) (v0 v3 : AVal) (h : AHeap) : Rs :=
  kN v0 fun v89 =>
  kF 2 v89 fun v90 =>
  kL I v90 h fun v91 =>
  kZ v91 fun v92 =>
  kC call 19 [v92] h fun v93 h1 =>
  bnd (sAppend I 1 1 v3 v93 h1) fun v94 h2 =>
  j.1.2.2.2.1 v0 v94 (Z 0) h2
def f12.b5 (I : Inp) (call : CallFn) (j : f12.Js) (v0 v3 v5 : AVal) (h : AHeap) : Rs :=
  kN v0 fun v46 =>
  kF 1 v46 fun v47 =>
  kL I v47 h fun v48 =>
  kZ v48 fun v49 =>
  kB .lss v5 v49 fun v50 =>
  sCond v50 (
  j.1.1.2.2.2 v0 v3 h) (
  j.1.2.1.2.1 v0 v3 v5 h)
def f12.b6 (I : Inp) (call : CallFn) (j : f12.Js) (v0 v3 v5 : AVal) (h : AHeap) : Rs :=
  kN v0 fun v55 =>
  kF 1 v55 fun v56 =>
  kL I v56 h fun v57 =>
  kI 3 v57 v5 fun v59 =>
  kF 0 v59 fun v60 =>
  kL I v60 h fun v61 =>
  kC call 20 [v61] h fun v62 h1 =>
  bnd (sAppend I 1 1 v3 v62 h1) fun v63 h2 =>
  kN v0 fun v66 =>
  kF 1 v66 fun v67 =>
  kL I v67 h2 fun v68 =>
  kI 3 v68 v5 fun v70 =>
  kF 1 v70 fun v71 =>
  kF 0 v71 fun v72 =>
  kL I v72 h2 fun v73 =>
  kC call 19 [v73] h2 fun v74 h3 =>
  bnd (sAppend I 1 1 v63 v74 h3) fun v75 h4 =>
  kN v0 fun v77 =>
  kF 1 v77 fun v78 =>
  kL I v78 h4 fun v79 =>
  kI 3 v79 v5 fun v81 =>
  kF 1 v81 fun v82 =>
  kF 1 v82 fun v83 =>
  kL I v83 h4 fun v84 =>
  kC call 19 [v84] h4 fun v85 h5 =>
  bnd (sAppend I 1 1 v75 v85 h5) fun v86 h6 =>
  sCheck (sSame (lift (pLoad1 I v78 h2) h2) v79 && (sSame (lift (pLoad1 I v78 h3) h3) v79 && true)) (
  sCheck (sSame (lift (pLoad1 I v83 h2) h2) v84 && (sSame (lift (pLoad1 I v83 h3) h3) v84 && true)) (
  j.1.2.1.2.2 v0 v86 v5 h6))
def f12.b7 (I : Inp) (call : CallFn) (j : f12.Js) (v0 v3 v5 : AVal) (h : AHeap) : Rs :=
  kB .add v5 (Z 1) fun v52 =>
  j.1.2.1.1 v0 v3 v52 h
def f12.b8 (I : Inp) (call : CallFn) (j : f12.Js) (v0 v3 : AVal) (h : AHeap) : Rs :=
  kN v0 fun v117 =>
  kF 3 v117 fun v118 =>
  kL I v118 h fun v119 =>
  kZ v119 fun v120 =>
  kC call 19 [v120] h fun v121 h1 =>
  bnd (sAppend I 1 1 v3 v121 h1) fun v122 h2 =>
  j.2.1.1.2.2 v0 v122 (Z 0) h2
def f12.b9 (I : Inp) (call : CallFn) (j : f12.Js) (v0 v3 v6 : AVal) (h : AHeap) : Rs :=
  kN v0 fun v97 =>
  kF 2 v97 fun v98 =>
  kL I v98 h fun v99 =>
  kZ v99 fun v100 =>
  kB .lss v6 v100 fun v101 =>
  sCond v101 (
  j.1.2.2.1 v0 v3 h) (
  j.1.2.2.2.2 v0 v3 v6 h)
def f12.b10 (I : Inp) (call : CallFn) (j : f12.Js) (v0 v3 v6 : AVal) (h : AHeap) : Rs :=
  kN v0 fun v106 =>
  kF 2 v106 fun v107 =>
  kL I v107 h fun v108 =>
  kI 1 v108 v6 fun v110 =>
  kF 0 v110 fun v111 =>
  kL I v111 h fun v112 =>
  kC call 21 [v112] h fun v113 h1 =>
  bnd (sAppend I 1 1 v3 v113 h1) fun v114 h2 =>
  j.2.1.1.1 v0 v114 v6 h2
def f12.b11 (I : Inp) (call : CallFn) (j : f12.Js) (v0 v3 v6 : AVal) (h : AHeap) : Rs :=
  kB .add v6 (Z 1) fun v103 =>
  j.1.2.2.2.1 v0 v3 v103 h
def f12.b12 (I : Inp) (call : CallFn) (j : f12.Js) (v0 v3 : AVal) (h : AHeap) : Rs :=
  kN v0 fun v166 =>
  kF 4 v166 fun v167 =>
  kL I v167 h fun v168 =>
  kZ v168 fun v169 =>
  kC call 19 [v169] h fun v170 h1 =>
  bnd (sAppend I 1 1 v3 v170 h1) fun v171 h2 =>
  j.2.2.1.1 v0 v171 (Z 0) h2
def f12.b13 (I : Inp) (call : CallFn) (j : f12.Js) (v0 v3 v7 : AVal) (h : AHeap) : Rs :=
  kN v0 fun v125 =>
  kF 3 v125 fun v126 =>
  kL I v126 h fun v127 =>
  kZ v127 fun v128 =>
  kB .lss v7 v128 fun v129 =>
  sCond v129 (
  j.2.1.1.2.1 v0 v3 h) (
  j.2.1.2.1 v0 v3 v7 h)
def f12.b14 (I : Inp) (call : CallFn) (j : f12.Js) (v0 v3 v7 : AVal) (h : AHeap) : Rs :=
  kN v0 fun v134 =>
  kF 3 v134 fun v135 =>
  kL I v135 h fun v136 =>
  kI 3 v136 v7 fun v138 =>
  kF 0 v138 fun v139 =>
  kL I v139 h fun v140 =>
  kC call 19 [v140] h fun v141 h1 =>
  bnd (sAppend I 1 1 v3 v141 h1) fun v142 h2 =>
  kN v0 fun v144 =>
  kF 3 v144 fun v145 =>
  kL I v145 h2 fun v146 =>
  kI 3 v146 v7 fun v148 =>
  kF 1 v148 fun v149 =>
  kL I v149 h2 fun v150 =>
  kC call 19 [v150] h2 fun v151 h3 =>
  bnd (sAppend I 1 1 v142 v151 h3) fun v152 h4 =>
  sCheck (sSame (lift (pLoad1 I v145 h) h) v146 && (sSame (lift (pLoad1 I v145 h1) h1) v146 && true)) (
  sCheck (sSame (lift (pLoad1 I v149 h) h) v150 && (sSame (lift (pLoad1 I v149 h1) h1) v150 && true)) (
  kN v0 fun v155 =>
  kF 3 v155 fun v156 =>
  kL I v156 h4 fun v157 =>
  kI 3 v157 v7 fun v159 =>
  kF 2 v159 fun v160 =>
  kL I v160 h4 fun v161 =>
  kC call 21 [v161] h4 fun v162 h5 =>
  bnd (sAppend I 1 1 v152 v162 h5) fun v163 h6 =>
  j.2.1.2.2.1 v0 v163 v7 h6))
def f12.b15 (I : Inp) (call : CallFn) (j : f12.Js) (v0 v3 v7 : AVal) (h : AHeap) : Rs :=
  kB .add v7 (Z 1) fun v131 =>
  j.2.1.1.2.2 v0 v3 v131 h
def f12.b16 (I : Inp) (call : CallFn) (j : f12.Js) (v0 v3 : AVal) (h : AHeap) : Rs :=
  kN v0 fun v221 =>
  kF 5 v221 fun v222 =>
  kL I v222 h fun v223 =>
  kC call 19 [v223] h fun v224 h1 =>
  bnd (sAppend I 1 1 v3 v224 h1) fun v225 h2 =>
  some (v225, h2)
def f12.b17 (I : Inp) (call : CallFn) (j : f12.Js) (v0 v3 v8 : AVal) (h : AHeap) : Rs :=
  kN v0 fun v174 =>
  kF 4 v174 fun v175 =>
  kL I v175 h fun v176 =>
  kZ v176 fun v177 =>
  kB .lss v8 v177 fun v178 =>
  sCond v178 (
  j.2.1.2.2.2 v0 v3 h) (
  j.2.2.1.2.1 v0 v3 v8 h)
def f12.b18 (I : Inp) (call : CallFn) (j : f12.Js) (v0 v3 v8 : AVal) (h : AHeap) : Rs :=
  kN v0 fun v182 =>
  kF 4 v182 fun v183 =>
  kL I v183 h fun v184 =>
  kI 3 v184 v8 fun v186 =>
  kM I 3 v186 h fun v187 =>
  kA [(Z 0), .nils, .nils] h fun v9 h1 =>
  kS 3 v9 v187 h1 fun _ h2 =>
  kF 0 v9 fun v189 =>
  kL I v189 h2 fun v190 =>
  kC call 19 [v190] h2 fun v191 h3 =>
  bnd (sAppend I 1 1 v3 v191 h3) fun v192 h4 =>
  kF 1 v9 fun v194 =>
  kL I v194 h4 fun v195 =>
  kC call 20 [v195] h4 fun v196 h5 =>
  bnd (sAppend I 1 1 v192 v196 h5) fun v197 h6 =>
  kF 2 v9 fun v199 =>
  kL I v199 h6 fun v200 =>
  kZ v200 fun v201 =>
  kC call 19 [v201] h6 fun v202 h7 =>
  bnd (sAppend I 1 1 v197 v202 h7) fun v203 h8 =>
  j.2.2.2.1 v0 v203 v8 v9 (Z 0) h8
def f12.b19 (I : Inp) (call : CallFn) (j : f12.Js) (v0 v3 v8 : AVal) (h : AHeap) : Rs :=
  kB .add v8 (Z 1) fun v180 =>
  j.2.2.1.1 v0 v3 v180 h
def f12.b20 (I : Inp) (call : CallFn) (j : f12.Js) (v0 v3 v8 v9 v10 : AVal) (h : AHeap) : Rs :=
  kF 2 v9 fun v205 =>
  kL I v205 h fun v206 =>
  kZ v206 fun v207 =>
  kB .lss v10 v207 fun v208 =>
  sCond v208 (
  j.2.2.1.2.2 v0 v3 v8 h) (
  j.2.2.2.2.1 v0 v3 v8 v9 v10 h)
def f12.b21 (I : Inp) (call : CallFn) (j : f12.Js) (v0 v3 v8 v9 v10 : AVal) (h : AHeap) : Rs :=
  kF 2 v9 fun v212 =>
  kL I v212 h fun v213 =>
  kI 5 v213 v10 fun v215 =>
  kM I 5 v215 h fun v216 =>
  kC call 22 [v216] h fun v217 h1 =>
  bnd (sAppend I 1 1 v3 v217 h1) fun v218 h2 =>
  j.2.2.2.2.2 v0 v218 v8 v9 v10 h2
def f12.b22 (I : Inp) (call : CallFn) (j : f12.Js) (v0 v3 v8 v9 v10 : AVal) (h : AHeap) : Rs :=
  kB .add v10 (Z 1) fun v210 =>
  j.2.2.2.1 v0 v3 v8 v9 v210 h
def f12.e (I : Inp) (call : CallFn) (j : f12.Js) (v0 : AVal) (h : AHeap) : Rs :=
  kN v0 fun v12 =>
  kF 0 v12 fun v13 =>
  kL I v13 h fun v14 =>
  kZ v14 fun v15 =>
  kC call 19 [v15] h fun v16 h1 =>
  j.1.1.1.2 v0 v16 (Z 0) h1
def f12.J (I : Inp) (call : CallFn) (n : Nat) : f12.Js :=
  Nat.rec (motive := fun _ => f12.Js) ((((Zr.z, Zr.z), (Zr.z, (Zr.z, Zr.z))), ((Zr.z, (Zr.z, Zr.z)), (Zr.z, (Zr.z, Zr.z)))), (((Zr.z, (Zr.z, Zr.z)), (Zr.z, (Zr.z, Zr.z))), ((Zr.z, (Zr.z, Zr.z)), (Zr.z, (Zr.z, Zr.z))))) (fun _ j => ((((f12.b0 I call j, f12.b1 I call j), (f12.b2 I call j, (f12.b3 I call j, f12.b4 I call j))), ((f12.b5 I call j, (f12.b6 I call j, f12.b7 I call j)), (f12.b8 I call j, (f12.b9 I call j, f12.b10 I call j)))), (((f12.b11 I call j, (f12.b12 I call j, f12.b13 I call j)), (f12.b14 I call j, (f12.b15 I call j, f12.b16 I call j))), ((f12.b17 I call j, (f12.b18 I call j, f12.b19 I call j)), (f12.b20 I call j, (f12.b21 I call j, f12.b22 I call j)))))) n
theorem f12.n0 : (f12.J I call (n + 1)).1.1.1.1 = f12.b0 I call (f12.J I call n) := nrfl
theorem f12.n1 : (f12.J I call (n + 1)).1.1.1.2 = f12.b1 I call (f12.J I call n) := nrfl
theorem f12.n2 : (f12.J I call (n + 1)).1.1.2.1 = f12.b2 I call (f12.J I call n) := nrfl
theorem f12.n3 : (f12.J I call (n + 1)).1.1.2.2.1 = f12.b3 I call (f12.J I call n) := nrfl
theorem f12.n4 : (f12.J I call (n + 1)).1.1.2.2.2 = f12.b4 I call (f12.J I call n) := nrfl
theorem f12.n5 : (f12.J I call (n + 1)).1.2.1.1 = f12.b5 I call (f12.J I call n) := nrfl
theorem f12.n6 : (f12.J I call (n + 1)).1.2.1.2.1 = f12.b6 I call (f12.J I call n) := nrfl
theorem f12.n7 : (f12.J I call (n + 1)).1.2.1.2.2 = f12.b7 I call (f12.J I call n) := nrfl
theorem f12.n8 : (f12.J I call (n + 1)).1.2.2.1 = f12.b8 I call (f12.J I call n) := nrfl
theorem f12.n9 : (f12.J I call (n + 1)).1.2.2.2.1 = f12.b9 I call (f12.J I call n) := nrfl
theorem f12.n10 : (f12.J I call (n + 1)).1.2.2.2.2 = f12.b10 I call (f12.J I call n) := nrfl
theorem f12.n11 : (f12.J I call (n + 1)).2.1.1.1 = f12.b11 I call (f12.J I call n) := nrfl
theorem f12.n12 : (f12.J I call (n + 1)).2.1.1.2.1 = f12.b12 I call (f12.J I call n) := nrfl
theorem f12.n13 : (f12.J I call (n + 1)).2.1.1.2.2 = f12.b13 I call (f12.J I call n) := nrfl
theorem f12.n14 : (f12.J I call (n + 1)).2.1.2.1 = f12.b14 I call (f12.J I call n) := nrfl
theorem f12.n15 : (f12.J I call (n + 1)).2.1.2.2.1 = f12.b15 I call (f12.J I call n) := nrfl
theorem f12.n16 : (f12.J I call (n + 1)).2.1.2.2.2 = f12.b16 I call (f12.J I call n) := nrfl
theorem f12.n17 : (f12.J I call (n + 1)).2.2.1.1 = f12.b17 I call (f12.J I call n) := nrfl
theorem f12.n18 : (f12.J I call (n + 1)).2.2.1.2.1 = f12.b18 I call (f12.J I call n) := nrfl
theorem f12.n19 : (f12.J I call (n + 1)).2.2.1.2.2 = f12.b19 I call (f12.J I call n) := nrfl
theorem f12.n20 : (f12.J I call (n + 1)).2.2.2.1 = f12.b20 I call (f12.J I call n) := nrfl
theorem f12.n21 : (f12.J I call (n + 1)).2.2.2.2.1 = f12.b21 I call (f12.J I call n) := nrfl
theorem f12.n22 : (f12.J I call (n + 1)).2.2.2.2.2 = f12.b22 I call (f12.J I call n) := nrfl
def f12.JS (I : Inp) (call : CallFn) (n : Nat) : Jmp := (fun j : f12.Js => jmp [Ap.ap j.1.1.1.1 [0, 3], Ap.ap j.1.1.1.2 [0, 3, 4], Ap.ap j.1.1.2.1 [0, 3, 4], Ap.ap j.1.1.2.2.1 [0, 3, 4], Ap.ap j.1.1.2.2.2 [0, 3], Ap.ap j.1.2.1.1 [0, 3, 5], Ap.ap j.1.2.1.2.1 [0, 3, 5], Ap.ap j.1.2.1.2.2 [0, 3, 5], Ap.ap j.1.2.2.1 [0, 3], Ap.ap j.1.2.2.2.1 [0, 3, 6], Ap.ap j.1.2.2.2.2 [0, 3, 6], Ap.ap j.2.1.1.1 [0, 3, 6], Ap.ap j.2.1.1.2.1 [0, 3], Ap.ap j.2.1.1.2.2 [0, 3, 7], Ap.ap j.2.1.2.1 [0, 3, 7], Ap.ap j.2.1.2.2.1 [0, 3, 7], Ap.ap j.2.1.2.2.2 [0, 3], Ap.ap j.2.2.1.1 [0, 3, 8], Ap.ap j.2.2.1.2.1 [0, 3, 8], Ap.ap j.2.2.1.2.2 [0, 3, 8], Ap.ap j.2.2.2.1 [0, 3, 8, 9, 10], Ap.ap j.2.2.2.2.1 [0, 3, 8, 9, 10], Ap.ap j.2.2.2.2.2 [0, 3, 8, 9, 10]]) (f12.J I call n)
theorem f12.S : SFn ⟨P, I, F⟩ call c12 (f12.JS I call) := .all 23 (by kernel_rfl) (fun ρ h => by kernel_rfl) (fun n ρ h => by kernel_rfl)
theorem f12.qe : Ap.all (f12.e I call (f12.J I call n)) (fun l h => execC P I call (f12.JS I call n) c12.body 0 (finV I c12.results) (argV l) h) := fun v0 h => by kernel_rfl
theorem f12.code : codeOf P 12 = some c12 := by kernel_rfl
def f12.run (I : Inp) : SF := fun call n => Ap.ar (f12.e I call (f12.J I call n))
theorem f12.ok (I : Inp) (F : Nat → Option AFn) (hF : F 12 = some (.code c12)) : SfOk P I F 12 (f12.run I) := okOf hF (by kernel_rfl) (fun _ => f12.S) fun call n => f12.qe
theorem f12.lim (hp : prims 12 = none) {v0 : AVal} (hr : Res (f12.e I (AM.lim ⟨P, I, genF P prims⟩) (f12.J I (AM.lim ⟨P, I, genF P prims⟩) n) v0 h) Q) : Res ((AM.lim ⟨P, I, genF P prims⟩) 12 [v0] h) Q := limOf (n := n) hp f12.code (f12.ok I) hr rfl
/-! haruspex/code.Encode -/
def c13 : AFunc := cOf P 13
abbrev f13.Js : Type := (A1 × A1)
def f13.b0 (I : Inp) (call : CallFn) (j : f13.Js) (v0 : AVal) (h : AHeap) : Rs :=
  kC call 24 [v0] h fun v9 h1 =>
  kZ v9 fun v11 =>
  kB .gtr v11 (Z 20000) fun v12 =>
  sCond v12 (
  j.2 v9 h1) (
  kC call 23 [] h1 fun v13 h2 =>
  some (.tuple [.nils, v13], h2))
def f13.b1 (I : Inp) (call : CallFn) (j : f13.Js) (v4 : AVal) (h : AHeap) : Rs :=
  some (.tuple [v4, .nili], h)
def f13.e (I : Inp) (call : CallFn) (j : f13.Js) (v0 : AVal) (h : AHeap) : Rs :=
  bndP (pEq P .false .ptr .true v0 .nilp h) fun v6 =>
  sCond v6 (
  j.1 v0 h) (
  kC call 23 [] h fun v7 h1 =>
  some (.tuple [.nils, v7], h1))
def f13.J (I : Inp) (call : CallFn) (n : Nat) : f13.Js :=
  Nat.rec (motive := fun _ => f13.Js) (Zr.z, Zr.z) (fun _ j => (f13.b0 I call j, f13.b1 I call j)) n
theorem f13.n0 : (f13.J I call (n + 1)).1 = f13.b0 I call (f13.J I call n) := nrfl
theorem f13.n1 : (f13.J I call (n + 1)).2 = f13.b1 I call (f13.J I call n) := nrfl
def f13.JS (I : Inp) (call : CallFn) (n : Nat) : Jmp := (fun j : f13.Js => jmp [Ap.ap j.1 [0], Ap.ap j.2 [4]]) (f13.J I call n)
theorem f13.S : SFn ⟨P, I, F⟩ call c13 (f13.JS I call) := .all 2 (by kernel_rfl) (fun ρ h => by kernel_rfl) (fun n ρ h => by kernel_rfl)
theorem f13.qe : Ap.all (f13.e I call (f13.J I call n)) (fun l h => execC P I call (f13.JS I call n) c13.body 0 (finV I c13.results) (argV l) h) := fun v0 h => by kernel_rfl
theorem f13.code : codeOf P 13 = some c13 := by kernel_rfl
def f13.run (I : Inp) : SF := fun call n => Ap.ar (f13.e I call (f13.J I call n))
theorem f13.ok (I : Inp) (F : Nat → Option AFn) (hF : F 13 = some (.code c13)) : SfOk P I F 13 (f13.run I) := okOf hF (by kernel_rfl) (fun _ => f13.S) fun call n => f13.qe
theorem f13.lim (hp : prims 13 = none) {v0 : AVal} (hr : Res (f13.e I (AM.lim ⟨P, I, genF P prims⟩) (f13.J I (AM.lim ⟨P, I, genF P prims⟩) n) v0 h) Q) : Res ((AM.lim ⟨P, I, genF P prims⟩) 13 [v0] h) Q := limOf (n := n) hp f13.code (f13.ok I) hr rfl
/-! haruspex/refuse.Why -/
def c14 : AFunc := cOf P 14
abbrev f14.Js : Type := A0
def f14.b0 (I : Inp) (call : CallFn) (j : f14.Js) (h : AHeap) : Rs :=
  some ((Z 0), h)
def f14.e (I : Inp) (call : CallFn) (j : f14.Js) (v0 : AVal) (h : AHeap) : Rs :=
  kC call 25 [v0] h fun v5 h1 =>
  bndP (pEq P .true .ptr .true v5 .nilp h1) fun v7 =>
  sCond v7 (
  j h1) (
  kN v5 fun v9 =>
  kF 0 v9 fun v10 =>
  kL I v10 h1 fun v11 =>
  some (v11, h1))
def f14.J (I : Inp) (call : CallFn) (n : Nat) : f14.Js :=
  Nat.rec (motive := fun _ => f14.Js) Zr.z (fun _ j => f14.b0 I call j) n
theorem f14.n0 : (f14.J I call (n + 1)) = f14.b0 I call (f14.J I call n) := nrfl
def f14.JS (I : Inp) (call : CallFn) (n : Nat) : Jmp := (fun j : f14.Js => jmp [Ap.ap j []]) (f14.J I call n)
theorem f14.S : SFn ⟨P, I, F⟩ call c14 (f14.JS I call) := .all 1 (by kernel_rfl) (fun ρ h => by kernel_rfl) (fun n ρ h => by kernel_rfl)
theorem f14.qe : Ap.all (f14.e I call (f14.J I call n)) (fun l h => execC P I call (f14.JS I call n) c14.body 0 (finV I c14.results) (argV l) h) := fun v0 h => by kernel_rfl
theorem f14.code : codeOf P 14 = some c14 := by kernel_rfl
def f14.run (I : Inp) : SF := fun call n => Ap.ar (f14.e I call (f14.J I call n))
theorem f14.ok (I : Inp) (F : Nat → Option AFn) (hF : F 14 = some (.code c14)) : SfOk P I F 14 (f14.run I) := okOf hF (by kernel_rfl) (fun _ => f14.S) fun call n => f14.qe
theorem f14.lim (hp : prims 14 = none) {v0 : AVal} (hr : Res (f14.e I (AM.lim ⟨P, I, genF P prims⟩) (f14.J I (AM.lim ⟨P, I, genF P prims⟩) n) v0 h) Q) : Res ((AM.lim ⟨P, I, genF P prims⟩) 14 [v0] h) Q := limOf (n := n) hp f14.code (f14.ok I) hr rfl
/-! haruspex/code.Decode -/
def c15 : AFunc := cOf P 15
abbrev f15.Js : Type := (A1 × A1)
def f15.b0 (I : Inp) (call : CallFn) (j : f15.Js) (v0 : AVal) (h : AHeap) : Rs :=
  bndP (pBuild [.nils, bF] [(0, 1, v0)]) fun v11 =>
  bnd (sBox v11 h) fun v12 h1 =>
  kC call 26 [v12] h1 fun v14 h2 =>
  kN v12 fun v16 =>
  kF 1 v16 fun v17 =>
  kL I v17 h2 fun v18 =>
  gV v18 .false v12 h2 fun v20 h3 =>
  gP v18 .false (pNilCheck v20) h3 fun v21 h4 =>
  gP v18 .false (pFieldAddr 0 v21) h4 fun v22 h5 =>
  gP v18 .false (pLoad1 I v22 h5) h5 fun v23 h6 =>
  gP v18 .false (pLenSl v23) h6 fun v24 h7 =>
  gP v18 .false (pBin .gtr v24 (Z 0)) h7 fun v25 h8 =>
  kP v18 bT v25 fun v26 =>
  gV v26 .false v14 h8 fun v28 h9 =>
  gS v26 .false (call 24 [v28] h9) h9 fun v29 h10 =>
  gV v26 .false v0 h10 fun v30 h11 =>
  gS v26 .false (call 27 [v29, v30] h11) h11 fun v31 h12 =>
  gP v26 .false (pUn .not v31) h12 fun v32 h13 =>
  kP v26 bT v32 fun v33 =>
  sCond v33 (
  j.2 v14 h13) (
  kC call 23 [] h13 fun v34 h14 =>
  some (.tuple [.nilp, v34], h14))
def f15.b1 (I : Inp) (call : CallFn) (j : f15.Js) (v5 : AVal) (h : AHeap) : Rs :=
  some (.tuple [v5, .nili], h)
def f15.e (I : Inp) (call : CallFn) (j : f15.Js) (v0 : AVal) (h : AHeap) : Rs :=
  kZ v0 fun v7 =>
  kB .gtr v7 (Z 20000) fun v8 =>
  sCond v8 (
  j.1 v0 h) (
  kC call 23 [] h fun v9 h1 =>
  some (.tuple [.nilp, v9], h1))
def f15.J (I : Inp) (call : CallFn) (n : Nat) : f15.Js :=
  Nat.rec (motive := fun _ => f15.Js) (Zr.z, Zr.z) (fun _ j => (f15.b0 I call j, f15.b1 I call j)) n
theorem f15.n0 : (f15.J I call (n + 1)).1 = f15.b0 I call (f15.J I call n) := nrfl
theorem f15.n1 : (f15.J I call (n + 1)).2 = f15.b1 I call (f15.J I call n) := nrfl
def f15.JS (I : Inp) (call : CallFn) (n : Nat) : Jmp := (fun j : f15.Js => jmp [Ap.ap j.1 [0], Ap.ap j.2 [5]]) (f15.J I call n)
theorem f15.S : SFn ⟨P, I, F⟩ call c15 (f15.JS I call) := .all 2 (by kernel_rfl) (fun ρ h => by kernel_rfl) (fun n ρ h => by kernel_rfl)
theorem f15.qe : Ap.all (f15.e I call (f15.J I call n)) (fun l h => execC P I call (f15.JS I call n) c15.body 0 (finV I c15.results) (argV l) h) := fun v0 h => by kernel_rfl
theorem f15.code : codeOf P 15 = some c15 := by kernel_rfl
def f15.run (I : Inp) : SF := fun call n => Ap.ar (f15.e I call (f15.J I call n))
theorem f15.ok (I : Inp) (F : Nat → Option AFn) (hF : F 15 = some (.code c15)) : SfOk P I F 15 (f15.run I) := okOf hF (by kernel_rfl) (fun _ => f15.S) fun call n => f15.qe
theorem f15.lim (hp : prims 15 = none) {v0 : AVal} (hr : Res (f15.e I (AM.lim ⟨P, I, genF P prims⟩) (f15.J I (AM.lim ⟨P, I, genF P prims⟩) n) v0 h) Q) : Res ((AM.lim ⟨P, I, genF P prims⟩) 15 [v0] h) Q := limOf (n := n) hp f15.code (f15.ok I) hr rfl
/-! haruspex/haruspexref8.EqProgram -/
def c16 : AFunc := cOf P 16
abbrev f16.Js : Type := A2
def f16.b0 (I : Inp) (call : CallFn) (j : f16.Js) (v0 v1 : AVal) (h : AHeap) : Rs :=
  kC call 12 [v0] h fun v18 h1 =>
  bndP (pToStr I v18 h1) fun v19 =>
  kC call 12 [v1] h1 fun v21 h2 =>
  bndP (pToStr I v21 h2) fun v22 =>
  kB .eql v19 v22 fun v23 =>
  sCheck (sSame (lift (pToStr I v18 h2) h2) v19 && true) (
  some (v23, h2))
def f16.e (I : Inp) (call : CallFn) (j : f16.Js) (v0 v1 : AVal) (h : AHeap) : Rs :=
  bndP (pEq P .false .ptr .true v0 .nilp h) fun v6 =>
  gV v6 .false v1 h fun v8 h1 =>
  gP v6 .false (pEq P .false .ptr .true v8 .nilp h1) h1 fun v9 h2 =>
  kP v6 bT v9 fun v10 =>
  sCond v10 (
  j v0 v1 h2) (
  bndP (pEq P .false .ptr .true v0 .nilp h2) fun v12 =>
  gV v12 .true v1 h2 fun v14 h3 =>
  gP v12 .true (pEq P .false .ptr .true v14 .nilp h3) h3 fun v15 h4 =>
  kP v12 v15 bF fun v16 =>
  some (v16, h4))
def f16.J (I : Inp) (call : CallFn) (n : Nat) : f16.Js :=
  Nat.rec (motive := fun _ => f16.Js) Zr.z (fun _ j => f16.b0 I call j) n
theorem f16.n0 : (f16.J I call (n + 1)) = f16.b0 I call (f16.J I call n) := nrfl
def f16.JS (I : Inp) (call : CallFn) (n : Nat) : Jmp := (fun j : f16.Js => jmp [Ap.ap j [0, 1]]) (f16.J I call n)
theorem f16.S : SFn ⟨P, I, F⟩ call c16 (f16.JS I call) := .all 1 (by kernel_rfl) (fun ρ h => by kernel_rfl) (fun n ρ h => by kernel_rfl)
theorem f16.qe : Ap.all (f16.e I call (f16.J I call n)) (fun l h => execC P I call (f16.JS I call n) c16.body 0 (finV I c16.results) (argV l) h) := fun v0 v1 h => by kernel_rfl
theorem f16.code : codeOf P 16 = some c16 := by kernel_rfl
def f16.run (I : Inp) : SF := fun call n => Ap.ar (f16.e I call (f16.J I call n))
theorem f16.ok (I : Inp) (F : Nat → Option AFn) (hF : F 16 = some (.code c16)) : SfOk P I F 16 (f16.run I) := okOf hF (by kernel_rfl) (fun _ => f16.S) fun call n => f16.qe
theorem f16.lim (hp : prims 16 = none) {v0 v1 : AVal} (hr : Res (f16.e I (AM.lim ⟨P, I, genF P prims⟩) (f16.J I (AM.lim ⟨P, I, genF P prims⟩) n) v0 v1 h) Q) : Res ((AM.lim ⟨P, I, genF P prims⟩) 16 [v0, v1] h) Q := limOf (n := n) hp f16.code (f16.ok I) hr rfl
/-! haruspex/haruspexref8.Print -/
def c17 : AFunc := cOf P 17
abbrev f17.Js : Type := (((A1 × A3) × (A3 × (A3 × A4))) × ((A4 × (A4 × A5)) × (A6 × (A6 × A6))))
def f17.b0 (I : Inp) (call : CallFn) (j : f17.Js) (v3 : AVal) (h : AHeap) : Rs :=
  some (v3, h)
def f17.b1 (I : Inp) (call : CallFn) (j : f17.Js) (v0 v3 v4 : AVal) (h : AHeap) : Rs :=
  kN v0 fun v10 =>
  kF 4 v10 fun v11 =>
  kL I v11 h fun v12 =>
  kZ v12 fun v13 =>
  kB .lss v4 v13 fun v14 =>
  sCond v14 (
  j.1.1.1 v3 h) (
  j.1.2.1 v0 v3 v4 h)
def f17.b2 (I : Inp) (call : CallFn) (j : f17.Js) (v0 v3 v4 : AVal) (h : AHeap) : Rs :=
  kC call 28 [v4] h fun v19 h1 =>
  kB .add (.str [102, 117, 110, 99, 32]) v19 fun v20 =>
  kB .add v20 (.str [10]) fun v21 =>
  kB .add v3 v21 fun v22 =>
  j.1.2.2.2 v0 v22 v4 (Z 0) h1
def f17.b3 (I : Inp) (call : CallFn) (j : f17.Js) (v0 v3 v4 : AVal) (h : AHeap) : Rs :=
  kB .add v4 (Z 1) fun v16 =>
  j.1.1.2 v0 v3 v16 h
def f17.b4 (I : Inp) (call : CallFn) (j : f17.Js) (v0 v3 v4 v5 : AVal) (h : AHeap) : Rs :=
  kN v0 fun v25 =>
  kF 4 v25 fun v26 =>
  kL I v26 h fun v27 =>
  kI 3 v27 v4 fun v29 =>
  kF 2 v29 fun v30 =>
  kL I v30 h fun v31 =>
  kZ v31 fun v32 =>
  kB .lss v5 v32 fun v33 =>
  sCond v33 (
  j.1.2.2.1 v0 v3 v4 h) (
  j.2.1.1 v0 v3 v4 v5 h)
def f17.b5 (I : Inp) (call : CallFn) (j : f17.Js) (v0 v3 v4 v5 : AVal) (h : AHeap) : Rs :=
  kN v0 fun v37 =>
  kF 4 v37 fun v38 =>
  kL I v38 h fun v39 =>
  kI 3 v39 v4 fun v41 =>
  kF 2 v41 fun v42 =>
  kL I v42 h fun v43 =>
  kI 5 v43 v5 fun v45 =>
  kM I 5 v45 h fun v46 =>
  kA [.nils, (Z 0), (Z 0), (Z 0), (Z 0)] h fun v6 h1 =>
  kS 5 v6 v46 h1 fun _ h2 =>
  kC call 28 [v5] h2 fun v49 h3 =>
  kB .add (.str [32, 32, 98, 108, 111, 99, 107, 32]) v49 fun v50 =>
  kB .add v50 (.str [10]) fun v51 =>
  kB .add v3 v51 fun v52 =>
  j.2.2.1 v0 v52 v4 v5 v6 (Z 0) h3
def f17.b6 (I : Inp) (call : CallFn) (j : f17.Js) (v0 v3 v4 v5 : AVal) (h : AHeap) : Rs :=
  kB .add v5 (Z 1) fun v35 =>
  j.1.2.2.2 v0 v3 v4 v35 h
def f17.b7 (I : Inp) (call : CallFn) (j : f17.Js) (v0 v3 v4 v5 v6 : AVal) (h : AHeap) : Rs :=
  kF 1 v6 fun v70 =>
  kL I v70 h fun v71 =>
  kB .eql v71 (Z 1) fun v75 =>
  sCond v75 (
  kB .eql v71 (Z 2) fun v84 =>
  sCond v84 (
  kB .eql v71 (Z 3) fun v103 =>
  sCond v103 (
  kB .add v3 (.str [32, 32, 32, 32, 63, 10]) fun v73 =>
  j.2.1.2.1 v0 v73 v4 v5 h) (
  kF 2 v6 fun v105 =>
  kL I v105 h fun v106 =>
  kC call 30 [v106] h fun v107 h1 =>
  kB .add (.str [32, 32, 32, 32, 114, 101, 116, 117, 114, 110, 32]) v107 fun v108 =>
  kB .add v108 (.str [10]) fun v109 =>
  kB .add v3 v109 fun v110 =>
  j.2.1.2.1 v0 v110 v4 v5 h1)) (
  kF 2 v6 fun v86 =>
  kL I v86 h fun v87 =>
  kC call 30 [v87] h fun v88 h2 =>
  kB .add (.str [32, 32, 32, 32, 98, 114, 97, 110, 99, 104, 32]) v88 fun v89 =>
  kB .add v89 (.str [32]) fun v90 =>
  kF 3 v6 fun v91 =>
  kL I v91 h2 fun v92 =>
  kC call 28 [v92] h2 fun v93 h3 =>
  kB .add v90 v93 fun v94 =>
  kB .add v94 (.str [32]) fun v95 =>
  kF 4 v6 fun v96 =>
  kL I v96 h3 fun v97 =>
  kC call 28 [v97] h3 fun v98 h4 =>
  kB .add v95 v98 fun v99 =>
  kB .add v99 (.str [10]) fun v100 =>
  kB .add v3 v100 fun v101 =>
  sCheck (sSame (lift (pLoad1 I v91 h) h) v92 && true) (
  sCheck (sSame (lift (pLoad1 I v96 h) h) v97 && (sSame (lift (pLoad1 I v96 h2) h2) v97 && true)) (
  j.2.1.2.1 v0 v101 v4 v5 h4)))) (
  kF 3 v6 fun v77 =>
  kL I v77 h fun v78 =>
  kC call 28 [v78] h fun v79 h5 =>
  kB .add (.str [32, 32, 32, 32, 106, 117, 109, 112, 32]) v79 fun v80 =>
  kB .add v80 (.str [10]) fun v81 =>
  kB .add v3 v81 fun v82 =>
  j.2.1.2.1 v0 v82 v4 v5 h5)
def f17.b8 (I : Inp) (call : CallFn) (j : f17.Js) (v0 v3 v4 v5 v6 v7 : AVal) (h : AHeap) : Rs :=
  kF 0 v6 fun v54 =>
  kL I v54 h fun v55 =>
  kZ v55 fun v56 =>
  kB .lss v7 v56 fun v57 =>
  sCond v57 (
  j.2.1.2.2 v0 v3 v4 v5 v6 h) (
  j.2.2.2.1 v0 v3 v4 v5 v6 v7 h)
def f17.b9 (I : Inp) (call : CallFn) (j : f17.Js) (v0 v3 v4 v5 v6 v7 : AVal) (h : AHeap) : Rs :=
  kF 0 v6 fun v61 =>
  kL I v61 h fun v62 =>
  kI 6 v62 v7 fun v64 =>
  kM I 6 v64 h fun v65 =>
  kC call 29 [v65] h fun v66 h1 =>
  kB .add (.str [32, 32, 32, 32]) v66 fun v67 =>
  kB .add v67 (.str [10]) fun v68 =>
  kB .add v3 v68 fun v69 =>
  j.2.2.2.2 v0 v69 v4 v5 v6 v7 h1
def f17.b10 (I : Inp) (call : CallFn) (j : f17.Js) (v0 v3 v4 v5 v6 v7 : AVal) (h : AHeap) : Rs :=
  kB .add v7 (Z 1) fun v59 =>
  j.2.2.1 v0 v3 v4 v5 v6 v59 h
def f17.e (I : Inp) (call : CallFn) (j : f17.Js) (v0 : AVal) (h : AHeap) : Rs :=
  j.1.1.2 v0 (.str []) (Z 0) h
def f17.J (I : Inp) (call : CallFn) (n : Nat) : f17.Js :=
  Nat.rec (motive := fun _ => f17.Js) (((Zr.z, Zr.z), (Zr.z, (Zr.z, Zr.z))), ((Zr.z, (Zr.z, Zr.z)), (Zr.z, (Zr.z, Zr.z)))) (fun _ j => (((f17.b0 I call j, f17.b1 I call j), (f17.b2 I call j, (f17.b3 I call j, f17.b4 I call j))), ((f17.b5 I call j, (f17.b6 I call j, f17.b7 I call j)), (f17.b8 I call j, (f17.b9 I call j, f17.b10 I call j))))) n
theorem f17.n0 : (f17.J I call (n + 1)).1.1.1 = f17.b0 I call (f17.J I call n) := nrfl
theorem f17.n1 : (f17.J I call (n + 1)).1.1.2 = f17.b1 I call (f17.J I call n) := nrfl
theorem f17.n2 : (f17.J I call (n + 1)).1.2.1 = f17.b2 I call (f17.J I call n) := nrfl
theorem f17.n3 : (f17.J I call (n + 1)).1.2.2.1 = f17.b3 I call (f17.J I call n) := nrfl
theorem f17.n4 : (f17.J I call (n + 1)).1.2.2.2 = f17.b4 I call (f17.J I call n) := nrfl
theorem f17.n5 : (f17.J I call (n + 1)).2.1.1 = f17.b5 I call (f17.J I call n) := nrfl
theorem f17.n6 : (f17.J I call (n + 1)).2.1.2.1 = f17.b6 I call (f17.J I call n) := nrfl
theorem f17.n7 : (f17.J I call (n + 1)).2.1.2.2 = f17.b7 I call (f17.J I call n) := nrfl
theorem f17.n8 : (f17.J I call (n + 1)).2.2.1 = f17.b8 I call (f17.J I call n) := nrfl
theorem f17.n9 : (f17.J I call (n + 1)).2.2.2.1 = f17.b9 I call (f17.J I call n) := nrfl
theorem f17.n10 : (f17.J I call (n + 1)).2.2.2.2 = f17.b10 I call (f17.J I call n) := nrfl
def f17.JS (I : Inp) (call : CallFn) (n : Nat) : Jmp := (fun j : f17.Js => jmp [Ap.ap j.1.1.1 [3], Ap.ap j.1.1.2 [0, 3, 4], Ap.ap j.1.2.1 [0, 3, 4], Ap.ap j.1.2.2.1 [0, 3, 4], Ap.ap j.1.2.2.2 [0, 3, 4, 5], Ap.ap j.2.1.1 [0, 3, 4, 5], Ap.ap j.2.1.2.1 [0, 3, 4, 5], Ap.ap j.2.1.2.2 [0, 3, 4, 5, 6], Ap.ap j.2.2.1 [0, 3, 4, 5, 6, 7], Ap.ap j.2.2.2.1 [0, 3, 4, 5, 6, 7], Ap.ap j.2.2.2.2 [0, 3, 4, 5, 6, 7]]) (f17.J I call n)
theorem f17.S : SFn ⟨P, I, F⟩ call c17 (f17.JS I call) := .all 11 (by kernel_rfl) (fun ρ h => by kernel_rfl) (fun n ρ h => by kernel_rfl)
theorem f17.qe : Ap.all (f17.e I call (f17.J I call n)) (fun l h => execC P I call (f17.JS I call n) c17.body 0 (finV I c17.results) (argV l) h) := fun v0 h => by kernel_rfl
theorem f17.code : codeOf P 17 = some c17 := by kernel_rfl
def f17.run (I : Inp) : SF := fun call n => Ap.ar (f17.e I call (f17.J I call n))
theorem f17.ok (I : Inp) (F : Nat → Option AFn) (hF : F 17 = some (.code c17)) : SfOk P I F 17 (f17.run I) := okOf hF (by kernel_rfl) (fun _ => f17.S) fun call n => f17.qe
theorem f17.lim (hp : prims 17 = none) {v0 : AVal} (hr : Res (f17.e I (AM.lim ⟨P, I, genF P prims⟩) (f17.J I (AM.lim ⟨P, I, genF P prims⟩) n) v0 h) Q) : Res ((AM.lim ⟨P, I, genF P prims⟩) 17 [v0] h) Q := limOf (n := n) hp f17.code (f17.ok I) hr rfl
/-! haruspex/haruspexref8.num -/
def c19 : AFunc := cOf P 19
abbrev f19.Js : Type := ((A1 × A2) × (A2 × A2))
def f19.b0 (I : Inp) (call : CallFn) (j : f19.Js) (v3 : AVal) (h : AHeap) : Rs :=
  j.2.1 v3 .nils h
def f19.b1 (I : Inp) (call : CallFn) (j : f19.Js) (v3 v4 : AVal) (h : AHeap) : Rs :=
  bndP (pToInt .u8 v3) fun v25 =>
  bnd (sBuildSlice [(.int .u8 (.ofNat 0))] 1 [(0, 1, v25)] h) fun v26 h1 =>
  bnd (sAppend I 1 1 v4 v26 h1) fun v27 h2 =>
  some (v27, h2)
def f19.b2 (I : Inp) (call : CallFn) (j : f19.Js) (v3 v4 : AVal) (h : AHeap) : Rs :=
  kB .geq v3 (.int .u64 (.ofNat 128)) fun v13 =>
  sCond v13 (
  j.1.2 v3 v4 h) (
  j.2.2 v3 v4 h)
def f19.b3 (I : Inp) (call : CallFn) (j : f19.Js) (v3 v4 : AVal) (h : AHeap) : Rs :=
  kB .rem v3 (.int .u64 (.ofNat 128)) fun v16 =>
  kB .add v16 (.int .u64 (.ofNat 128)) fun v17 =>
  bndP (pToInt .u8 v17) fun v18 =>
  bnd (sBuildSlice [(.int .u8 (.ofNat 0))] 1 [(0, 1, v18)] h) fun v19 h1 =>
  bnd (sAppend I 1 1 v4 v19 h1) fun v20 h2 =>
  kB .quo v3 (.int .u64 (.ofNat 128)) fun v22 =>
  j.2.1 v22 v20 h2
def f19.e (I : Inp) (call : CallFn) (j : f19.Js) (v0 : AVal) (h : AHeap) : Rs :=
  bndP (pToInt .u64 v0) fun v6 =>
  kB .mul v6 (.int .u64 (.ofNat 2)) fun v7 =>
  kB .lss v0 (Z 0) fun v9 =>
  sCond v9 (
  j.1.1 v7 h) (
  kU .xor v7 fun v11 =>
  j.1.1 v11 h)
def f19.J (I : Inp) (call : CallFn) (n : Nat) : f19.Js :=
  Nat.rec (motive := fun _ => f19.Js) ((Zr.z, Zr.z), (Zr.z, Zr.z)) (fun _ j => ((f19.b0 I call j, f19.b1 I call j), (f19.b2 I call j, f19.b3 I call j))) n
theorem f19.n0 : (f19.J I call (n + 1)).1.1 = f19.b0 I call (f19.J I call n) := nrfl
theorem f19.n1 : (f19.J I call (n + 1)).1.2 = f19.b1 I call (f19.J I call n) := nrfl
theorem f19.n2 : (f19.J I call (n + 1)).2.1 = f19.b2 I call (f19.J I call n) := nrfl
theorem f19.n3 : (f19.J I call (n + 1)).2.2 = f19.b3 I call (f19.J I call n) := nrfl
def f19.JS (I : Inp) (call : CallFn) (n : Nat) : Jmp := (fun j : f19.Js => jmp [Ap.ap j.1.1 [3], Ap.ap j.1.2 [3, 4], Ap.ap j.2.1 [3, 4], Ap.ap j.2.2 [3, 4]]) (f19.J I call n)
theorem f19.S : SFn ⟨P, I, F⟩ call c19 (f19.JS I call) := .all 4 (by kernel_rfl) (fun ρ h => by kernel_rfl) (fun n ρ h => by kernel_rfl)
theorem f19.qe : Ap.all (f19.e I call (f19.J I call n)) (fun l h => execC P I call (f19.JS I call n) c19.body 0 (finV I c19.results) (argV l) h) := fun v0 h => by kernel_rfl
theorem f19.code : codeOf P 19 = some c19 := by kernel_rfl
def f19.run (I : Inp) : SF := fun call n => Ap.ar (f19.e I call (f19.J I call n))
theorem f19.ok (I : Inp) (F : Nat → Option AFn) (hF : F 19 = some (.code c19)) : SfOk P I F 19 (f19.run I) := okOf hF (by kernel_rfl) (fun _ => f19.S) fun call n => f19.qe
theorem f19.lim (hp : prims 19 = none) {v0 : AVal} (hr : Res (f19.e I (AM.lim ⟨P, I, genF P prims⟩) (f19.J I (AM.lim ⟨P, I, genF P prims⟩) n) v0 h) Q) : Res ((AM.lim ⟨P, I, genF P prims⟩) 19 [v0] h) Q := limOf (n := n) hp f19.code (f19.ok I) hr rfl
/-! haruspex/haruspexref8.types -/
def c20 : AFunc := cOf P 20
abbrev f20.Js : Type := ((A1 × A3) × (A3 × A3))
def f20.b0 (I : Inp) (call : CallFn) (j : f20.Js) (v3 : AVal) (h : AHeap) : Rs :=
  some (v3, h)
def f20.b1 (I : Inp) (call : CallFn) (j : f20.Js) (v0 v3 v4 : AVal) (h : AHeap) : Rs :=
  kZ v0 fun v10 =>
  kB .lss v4 v10 fun v11 =>
  sCond v11 (
  j.1.1 v3 h) (
  j.2.1 v0 v3 v4 h)
def f20.b2 (I : Inp) (call : CallFn) (j : f20.Js) (v0 v3 v4 : AVal) (h : AHeap) : Rs :=
  kI 2 v0 v4 fun v17 =>
  kF 0 v17 fun v18 =>
  kL I v18 h fun v19 =>
  kC call 19 [v19] h fun v20 h1 =>
  bnd (sAppend I 1 1 v3 v20 h1) fun v21 h2 =>
  kI 2 v0 v4 fun v24 =>
  kF 1 v24 fun v25 =>
  kL I v25 h2 fun v26 =>
  kC call 19 [v26] h2 fun v27 h3 =>
  bnd (sAppend I 1 1 v21 v27 h3) fun v28 h4 =>
  sCheck (sSame (lift (pLoad1 I v25 h) h) v26 && (sSame (lift (pLoad1 I v25 h1) h1) v26 && true)) (
  j.2.2 v0 v28 v4 h4)
def f20.b3 (I : Inp) (call : CallFn) (j : f20.Js) (v0 v3 v4 : AVal) (h : AHeap) : Rs :=
  kB .add v4 (Z 1) fun v13 =>
  j.1.2 v0 v3 v13 h
def f20.e (I : Inp) (call : CallFn) (j : f20.Js) (v0 : AVal) (h : AHeap) : Rs :=
  kZ v0 fun v6 =>
  kC call 19 [v6] h fun v7 h1 =>
  j.1.2 v0 v7 (Z 0) h1
def f20.J (I : Inp) (call : CallFn) (n : Nat) : f20.Js :=
  Nat.rec (motive := fun _ => f20.Js) ((Zr.z, Zr.z), (Zr.z, Zr.z)) (fun _ j => ((f20.b0 I call j, f20.b1 I call j), (f20.b2 I call j, f20.b3 I call j))) n
theorem f20.n0 : (f20.J I call (n + 1)).1.1 = f20.b0 I call (f20.J I call n) := nrfl
theorem f20.n1 : (f20.J I call (n + 1)).1.2 = f20.b1 I call (f20.J I call n) := nrfl
theorem f20.n2 : (f20.J I call (n + 1)).2.1 = f20.b2 I call (f20.J I call n) := nrfl
theorem f20.n3 : (f20.J I call (n + 1)).2.2 = f20.b3 I call (f20.J I call n) := nrfl
def f20.JS (I : Inp) (call : CallFn) (n : Nat) : Jmp := (fun j : f20.Js => jmp [Ap.ap j.1.1 [3], Ap.ap j.1.2 [0, 3, 4], Ap.ap j.2.1 [0, 3, 4], Ap.ap j.2.2 [0, 3, 4]]) (f20.J I call n)
theorem f20.S : SFn ⟨P, I, F⟩ call c20 (f20.JS I call) := .all 4 (by kernel_rfl) (fun ρ h => by kernel_rfl) (fun n ρ h => by kernel_rfl)
theorem f20.qe : Ap.all (f20.e I call (f20.J I call n)) (fun l h => execC P I call (f20.JS I call n) c20.body 0 (finV I c20.results) (argV l) h) := fun v0 h => by kernel_rfl
theorem f20.code : codeOf P 20 = some c20 := by kernel_rfl
def f20.run (I : Inp) : SF := fun call n => Ap.ar (f20.e I call (f20.J I call n))
theorem f20.ok (I : Inp) (F : Nat → Option AFn) (hF : F 20 = some (.code c20)) : SfOk P I F 20 (f20.run I) := okOf hF (by kernel_rfl) (fun _ => f20.S) fun call n => f20.qe
theorem f20.lim (hp : prims 20 = none) {v0 : AVal} (hr : Res (f20.e I (AM.lim ⟨P, I, genF P prims⟩) (f20.J I (AM.lim ⟨P, I, genF P prims⟩) n) v0 h) Q) : Res ((AM.lim ⟨P, I, genF P prims⟩) 20 [v0] h) Q := limOf (n := n) hp f20.code (f20.ok I) hr rfl
/-! haruspex/haruspexref8.nums -/
def c21 : AFunc := cOf P 21
abbrev f21.Js : Type := ((A1 × A3) × (A3 × A3))
def f21.b0 (I : Inp) (call : CallFn) (j : f21.Js) (v3 : AVal) (h : AHeap) : Rs :=
  some (v3, h)
def f21.b1 (I : Inp) (call : CallFn) (j : f21.Js) (v0 v3 v4 : AVal) (h : AHeap) : Rs :=
  kZ v0 fun v10 =>
  kB .lss v4 v10 fun v11 =>
  sCond v11 (
  j.1.1 v3 h) (
  j.2.1 v0 v3 v4 h)
def f21.b2 (I : Inp) (call : CallFn) (j : f21.Js) (v0 v3 v4 : AVal) (h : AHeap) : Rs :=
  kI 1 v0 v4 fun v17 =>
  kL I v17 h fun v18 =>
  kC call 19 [v18] h fun v19 h1 =>
  bnd (sAppend I 1 1 v3 v19 h1) fun v20 h2 =>
  j.2.2 v0 v20 v4 h2
def f21.b3 (I : Inp) (call : CallFn) (j : f21.Js) (v0 v3 v4 : AVal) (h : AHeap) : Rs :=
  kB .add v4 (Z 1) fun v13 =>
  j.1.2 v0 v3 v13 h
def f21.e (I : Inp) (call : CallFn) (j : f21.Js) (v0 : AVal) (h : AHeap) : Rs :=
  kZ v0 fun v6 =>
  kC call 19 [v6] h fun v7 h1 =>
  j.1.2 v0 v7 (Z 0) h1
def f21.J (I : Inp) (call : CallFn) (n : Nat) : f21.Js :=
  Nat.rec (motive := fun _ => f21.Js) ((Zr.z, Zr.z), (Zr.z, Zr.z)) (fun _ j => ((f21.b0 I call j, f21.b1 I call j), (f21.b2 I call j, f21.b3 I call j))) n
theorem f21.n0 : (f21.J I call (n + 1)).1.1 = f21.b0 I call (f21.J I call n) := nrfl
theorem f21.n1 : (f21.J I call (n + 1)).1.2 = f21.b1 I call (f21.J I call n) := nrfl
theorem f21.n2 : (f21.J I call (n + 1)).2.1 = f21.b2 I call (f21.J I call n) := nrfl
theorem f21.n3 : (f21.J I call (n + 1)).2.2 = f21.b3 I call (f21.J I call n) := nrfl
def f21.JS (I : Inp) (call : CallFn) (n : Nat) : Jmp := (fun j : f21.Js => jmp [Ap.ap j.1.1 [3], Ap.ap j.1.2 [0, 3, 4], Ap.ap j.2.1 [0, 3, 4], Ap.ap j.2.2 [0, 3, 4]]) (f21.J I call n)
theorem f21.S : SFn ⟨P, I, F⟩ call c21 (f21.JS I call) := .all 4 (by kernel_rfl) (fun ρ h => by kernel_rfl) (fun n ρ h => by kernel_rfl)
theorem f21.qe : Ap.all (f21.e I call (f21.J I call n)) (fun l h => execC P I call (f21.JS I call n) c21.body 0 (finV I c21.results) (argV l) h) := fun v0 h => by kernel_rfl
theorem f21.code : codeOf P 21 = some c21 := by kernel_rfl
def f21.run (I : Inp) : SF := fun call n => Ap.ar (f21.e I call (f21.J I call n))
theorem f21.ok (I : Inp) (F : Nat → Option AFn) (hF : F 21 = some (.code c21)) : SfOk P I F 21 (f21.run I) := okOf hF (by kernel_rfl) (fun _ => f21.S) fun call n => f21.qe
theorem f21.lim (hp : prims 21 = none) {v0 : AVal} (hr : Res (f21.e I (AM.lim ⟨P, I, genF P prims⟩) (f21.J I (AM.lim ⟨P, I, genF P prims⟩) n) v0 h) Q) : Res ((AM.lim ⟨P, I, genF P prims⟩) 21 [v0] h) Q := limOf (n := n) hp f21.code (f21.ok I) hr rfl
/-! haruspex/haruspexref8.block -/
def c22 : AFunc := cOf P 22
abbrev f22.Js : Type := ((A2 × A3) × (A3 × A3))
def f22.b0 (I : Inp) (call : CallFn) (j : f22.Js) (v1 v3 : AVal) (h : AHeap) : Rs :=
  kF 1 v1 fun v53 =>
  kL I v53 h fun v54 =>
  kC call 19 [v54] h fun v55 h1 =>
  bnd (sAppend I 1 1 v3 v55 h1) fun v56 h2 =>
  kF 2 v1 fun v57 =>
  kL I v57 h2 fun v58 =>
  kC call 19 [v58] h2 fun v59 h3 =>
  bnd (sAppend I 1 1 v56 v59 h3) fun v60 h4 =>
  sCheck (sSame (lift (pLoad1 I v57 h) h) v58 && (sSame (lift (pLoad1 I v57 h1) h1) v58 && true)) (
  kF 3 v1 fun v62 =>
  kL I v62 h4 fun v63 =>
  kC call 19 [v63] h4 fun v64 h5 =>
  bnd (sAppend I 1 1 v60 v64 h5) fun v65 h6 =>
  kF 4 v1 fun v66 =>
  kL I v66 h6 fun v67 =>
  kC call 19 [v67] h6 fun v68 h7 =>
  bnd (sAppend I 1 1 v65 v68 h7) fun v69 h8 =>
  sCheck (sSame (lift (pLoad1 I v66 h4) h4) v67 && (sSame (lift (pLoad1 I v66 h5) h5) v67 && true)) (
  some (v69, h8)))
def f22.b1 (I : Inp) (call : CallFn) (j : f22.Js) (v1 v3 v4 : AVal) (h : AHeap) : Rs :=
  kF 0 v1 fun v11 =>
  kL I v11 h fun v12 =>
  kZ v12 fun v13 =>
  kB .lss v4 v13 fun v14 =>
  sCond v14 (
  j.1.1 v1 v3 h) (
  j.2.1 v1 v3 v4 h)
def f22.b2 (I : Inp) (call : CallFn) (j : f22.Js) (v1 v3 v4 : AVal) (h : AHeap) : Rs :=
  kF 0 v1 fun v17 =>
  kL I v17 h fun v18 =>
  kI 6 v18 v4 fun v20 =>
  kM I 6 v20 h fun v21 =>
  kA [(Z 0), (Z 0), (Z 0), (Z 0), (Z 0), .nils] h fun v5 h1 =>
  kS 6 v5 v21 h1 fun _ h2 =>
  kF 0 v5 fun v23 =>
  kL I v23 h2 fun v24 =>
  kC call 19 [v24] h2 fun v25 h3 =>
  bnd (sAppend I 1 1 v3 v25 h3) fun v26 h4 =>
  kF 1 v5 fun v28 =>
  kL I v28 h4 fun v29 =>
  kC call 19 [v29] h4 fun v30 h5 =>
  bnd (sAppend I 1 1 v26 v30 h5) fun v31 h6 =>
  kF 2 v5 fun v33 =>
  kL I v33 h6 fun v34 =>
  kC call 19 [v34] h6 fun v35 h7 =>
  bnd (sAppend I 1 1 v31 v35 h7) fun v36 h8 =>
  kF 3 v5 fun v38 =>
  kL I v38 h8 fun v39 =>
  kC call 19 [v39] h8 fun v40 h9 =>
  bnd (sAppend I 1 1 v36 v40 h9) fun v41 h10 =>
  kF 4 v5 fun v43 =>
  kL I v43 h10 fun v44 =>
  kC call 19 [v44] h10 fun v45 h11 =>
  bnd (sAppend I 1 1 v41 v45 h11) fun v46 h12 =>
  kF 5 v5 fun v48 =>
  kL I v48 h12 fun v49 =>
  kC call 21 [v49] h12 fun v50 h13 =>
  bnd (sAppend I 1 1 v46 v50 h13) fun v51 h14 =>
  j.2.2 v1 v51 v4 h14
def f22.b3 (I : Inp) (call : CallFn) (j : f22.Js) (v1 v3 v4 : AVal) (h : AHeap) : Rs :=
  kB .add v4 (Z 1) fun v16 =>
  j.1.2 v1 v3 v16 h
def f22.e (I : Inp) (call : CallFn) (j : f22.Js) (v0 : AVal) (h : AHeap) : Rs :=
  bnd (sBox v0 h) fun v1 h1 =>
  kF 0 v1 fun v6 =>
  kL I v6 h1 fun v7 =>
  kZ v7 fun v8 =>
  kC call 19 [v8] h1 fun v9 h2 =>
  j.1.2 v1 v9 (Z 0) h2
def f22.J (I : Inp) (call : CallFn) (n : Nat) : f22.Js :=
  Nat.rec (motive := fun _ => f22.Js) ((Zr.z, Zr.z), (Zr.z, Zr.z)) (fun _ j => ((f22.b0 I call j, f22.b1 I call j), (f22.b2 I call j, f22.b3 I call j))) n
theorem f22.n0 : (f22.J I call (n + 1)).1.1 = f22.b0 I call (f22.J I call n) := nrfl
theorem f22.n1 : (f22.J I call (n + 1)).1.2 = f22.b1 I call (f22.J I call n) := nrfl
theorem f22.n2 : (f22.J I call (n + 1)).2.1 = f22.b2 I call (f22.J I call n) := nrfl
theorem f22.n3 : (f22.J I call (n + 1)).2.2 = f22.b3 I call (f22.J I call n) := nrfl
def f22.JS (I : Inp) (call : CallFn) (n : Nat) : Jmp := (fun j : f22.Js => jmp [Ap.ap j.1.1 [1, 3], Ap.ap j.1.2 [1, 3, 4], Ap.ap j.2.1 [1, 3, 4], Ap.ap j.2.2 [1, 3, 4]]) (f22.J I call n)
theorem f22.S : SFn ⟨P, I, F⟩ call c22 (f22.JS I call) := .all 4 (by kernel_rfl) (fun ρ h => by kernel_rfl) (fun n ρ h => by kernel_rfl)
theorem f22.qe : Ap.all (f22.e I call (f22.J I call n)) (fun l h => execC P I call (f22.JS I call n) c22.body 0 (finV I c22.results) (argV l) h) := fun v0 h => by kernel_rfl
theorem f22.code : codeOf P 22 = some c22 := by kernel_rfl
def f22.run (I : Inp) : SF := fun call n => Ap.ar (f22.e I call (f22.J I call n))
theorem f22.ok (I : Inp) (F : Nat → Option AFn) (hF : F 22 = some (.code c22)) : SfOk P I F 22 (f22.run I) := okOf hF (by kernel_rfl) (fun _ => f22.S) fun call n => f22.qe
theorem f22.lim (hp : prims 22 = none) {v0 : AVal} (hr : Res (f22.e I (AM.lim ⟨P, I, genF P prims⟩) (f22.J I (AM.lim ⟨P, I, genF P prims⟩) n) v0 h) Q) : Res ((AM.lim ⟨P, I, genF P prims⟩) 22 [v0] h) Q := limOf (n := n) hp f22.code (f22.ok I) hr rfl
/-! haruspex/code.refused -/
def c23 : AFunc := cOf P 23
abbrev f23.Js : Type := Unit
def f23.e (I : Inp) (call : CallFn) (j : f23.Js) (h : AHeap) : Rs :=
  kC call 33 [] h fun v1 h1 =>
  kC call 32 [(Z 1), v1, .nili] h1 fun v2 h2 =>
  some (v2, h2)
theorem f23.S : SFn ⟨P, I, F⟩ call c23 (fun _ => jmp []) := .all 0 (by kernel_rfl) (fun ρ h => by kernel_rfl) (fun n ρ h => by kernel_rfl)
theorem f23.qe : Ap.all (f23.e I call ()) (fun l h => execC P I call (jmp []) c23.body 0 (finV I c23.results) (argV l) h) := fun h => by kernel_rfl
theorem f23.code : codeOf P 23 = some c23 := by kernel_rfl
def f23.run (I : Inp) : SF := fun call n => Ap.ar (f23.e I call ())
theorem f23.ok (I : Inp) (F : Nat → Option AFn) (hF : F 23 = some (.code c23)) : SfOk P I F 23 (f23.run I) := okOf hF (by kernel_rfl) (fun _ => f23.S) fun call n => f23.qe
theorem f23.lim (hp : prims 23 = none) {n : Nat} (hr : Res (f23.e I (AM.lim ⟨P, I, genF P prims⟩) () h) Q) : Res ((AM.lim ⟨P, I, genF P prims⟩) 23 [] h) Q := limOf (n := n) hp f23.code (f23.ok I) hr rfl
/-! haruspex/code.text -/
def c24 : AFunc := cOf P 24
abbrev f24.Js : Type := ((((A2 × A5) × (A5 × (A5 × A2))) × ((A5 × A5) × (A5 × (A2 × A5)))) × (((A5 × A5) × (A2 × (A5 × A5))) × ((A5 × A2) × (A5 × (A5 × A5)))))
def f24.b0 (I : Inp) (call : CallFn) (j : f24.Js) (v0 v3 : AVal) (h : AHeap) : Rs :=
  kN v0 fun v38 =>
  kF 1 v38 fun v39 =>
  kL I v39 h fun v40 =>
  kZ v40 fun v41 =>
  kC call 34 [v3, v41] h fun v42 h1 =>
  kN v0 fun v44 =>
  kF 1 v44 fun v45 =>
  kL I v45 h1 fun v46 =>
  kZ v46 fun v47 =>
  j.1.2.1.1 v0 v3 v46 v47 (Z 0) h1
def f24.b1 (I : Inp) (call : CallFn) (j : f24.Js) (v0 v3 v26 v27 v28 : AVal) (h : AHeap) : Rs :=
  kB .lss v28 v27 fun v29 =>
  sCond v29 (
  j.1.1.1.1 v0 v3 h) (
  j.1.1.2.1 v0 v3 v26 v27 v28 h)
def f24.b2 (I : Inp) (call : CallFn) (j : f24.Js) (v0 v3 v26 v27 v28 : AVal) (h : AHeap) : Rs :=
  kI 1 v26 v28 fun v30 =>
  kL I v30 h fun v31 =>
  kC call 35 [v3, v31] h fun v34 h1 =>
  j.1.1.2.2.1 v0 v3 v26 v27 v28 h1
def f24.b3 (I : Inp) (call : CallFn) (j : f24.Js) (v0 v3 v26 v27 v28 : AVal) (h : AHeap) : Rs :=
  kB .add v28 (Z 1) fun v35 =>
  j.1.1.1.2 v0 v3 v26 v27 v35 h
def f24.b4 (I : Inp) (call : CallFn) (j : f24.Js) (v0 v3 : AVal) (h : AHeap) : Rs :=
  kN v0 fun v69 =>
  kF 2 v69 fun v70 =>
  kL I v70 h fun v71 =>
  kZ v71 fun v72 =>
  kC call 34 [v3, v72] h fun v73 h1 =>
  kN v0 fun v75 =>
  kF 2 v75 fun v76 =>
  kL I v76 h1 fun v77 =>
  kZ v77 fun v78 =>
  j.1.2.2.2.2 v0 v3 v77 v78 (Z 0) h1
def f24.b5 (I : Inp) (call : CallFn) (j : f24.Js) (v0 v3 v46 v47 v48 : AVal) (h : AHeap) : Rs :=
  kB .lss v48 v47 fun v49 =>
  sCond v49 (
  j.1.1.2.2.2 v0 v3 h) (
  j.1.2.1.2 v0 v3 v46 v47 v48 h)
def f24.b6 (I : Inp) (call : CallFn) (j : f24.Js) (v0 v3 v46 v47 v48 : AVal) (h : AHeap) : Rs :=
  kI 3 v46 v48 fun v50 =>
  kM I 3 v50 h fun v51 =>
  kA [.nils, (Z 0), (Z 0)] h fun v7 h1 =>
  kS 3 v7 v51 h1 fun _ h2 =>
  kF 0 v7 fun v53 =>
  kL I v53 h2 fun v54 =>
  kC call 35 [v3, v54] h2 fun v55 h3 =>
  kF 1 v7 fun v57 =>
  kF 0 v57 fun v58 =>
  kL I v58 h3 fun v59 =>
  kC call 34 [v3, v59] h3 fun v60 h4 =>
  kF 1 v7 fun v62 =>
  kF 1 v62 fun v63 =>
  kL I v63 h4 fun v64 =>
  kC call 34 [v3, v64] h4 fun v65 h5 =>
  j.1.2.2.1 v0 v3 v46 v47 v48 h5
def f24.b7 (I : Inp) (call : CallFn) (j : f24.Js) (v0 v3 v46 v47 v48 : AVal) (h : AHeap) : Rs :=
  kB .add v48 (Z 1) fun v66 =>
  j.1.2.1.1 v0 v3 v46 v47 v66 h
def f24.b8 (I : Inp) (call : CallFn) (j : f24.Js) (v0 v3 : AVal) (h : AHeap) : Rs :=
  kN v0 fun v90 =>
  kF 3 v90 fun v91 =>
  kL I v91 h fun v92 =>
  kZ v92 fun v93 =>
  kC call 34 [v3, v93] h fun v94 h1 =>
  kN v0 fun v96 =>
  kF 3 v96 fun v97 =>
  kL I v97 h1 fun v98 =>
  kZ v98 fun v99 =>
  j.2.1.2.2.1 v0 v3 v98 v99 (Z 0) h1
def f24.b9 (I : Inp) (call : CallFn) (j : f24.Js) (v0 v3 v77 v78 v79 : AVal) (h : AHeap) : Rs :=
  kB .lss v79 v78 fun v80 =>
  sCond v80 (
  j.1.2.2.2.1 v0 v3 h) (
  j.2.1.1.1 v0 v3 v77 v78 v79 h)
def f24.b10 (I : Inp) (call : CallFn) (j : f24.Js) (v0 v3 v77 v78 v79 : AVal) (h : AHeap) : Rs :=
  kI 1 v77 v79 fun v81 =>
  kM I 1 v81 h fun v82 =>
  kA [.nils] h fun v9 h1 =>
  kS 1 v9 v82 h1 fun _ h2 =>
  kF 0 v9 fun v84 =>
  kL I v84 h2 fun v85 =>
  kC call 36 [v3, v85] h2 fun v86 h3 =>
  j.2.1.1.2 v0 v3 v77 v78 v79 h3
def f24.b11 (I : Inp) (call : CallFn) (j : f24.Js) (v0 v3 v77 v78 v79 : AVal) (h : AHeap) : Rs :=
  kB .add v79 (Z 1) fun v87 =>
  j.1.2.2.2.2 v0 v3 v77 v78 v87 h
def f24.b12 (I : Inp) (call : CallFn) (j : f24.Js) (v0 v3 : AVal) (h : AHeap) : Rs :=
  kN v0 fun v119 =>
  kF 4 v119 fun v120 =>
  kL I v120 h fun v121 =>
  kZ v121 fun v122 =>
  kC call 34 [v3, v122] h fun v123 h1 =>
  kN v0 fun v125 =>
  kF 4 v125 fun v126 =>
  kL I v126 h1 fun v127 =>
  kZ v127 fun v128 =>
  j.2.2.2.1 v0 v3 v127 v128 (Z 0) h1
def f24.b13 (I : Inp) (call : CallFn) (j : f24.Js) (v0 v3 v98 v99 v100 : AVal) (h : AHeap) : Rs :=
  kB .lss v100 v99 fun v101 =>
  sCond v101 (
  j.2.1.2.1 v0 v3 h) (
  j.2.1.2.2.2 v0 v3 v98 v99 v100 h)
def f24.b14 (I : Inp) (call : CallFn) (j : f24.Js) (v0 v3 v98 v99 v100 : AVal) (h : AHeap) : Rs :=
  kI 3 v98 v100 fun v102 =>
  kM I 3 v102 h fun v103 =>
  kA [(Z 0), (Z 0), .nils] h fun v11 h1 =>
  kS 3 v11 v103 h1 fun _ h2 =>
  kF 0 v11 fun v105 =>
  kL I v105 h2 fun v106 =>
  kC call 34 [v3, v106] h2 fun v107 h3 =>
  kF 1 v11 fun v109 =>
  kL I v109 h3 fun v110 =>
  kC call 34 [v3, v110] h3 fun v111 h4 =>
  kF 2 v11 fun v113 =>
  kL I v113 h4 fun v114 =>
  kC call 36 [v3, v114] h4 fun v115 h5 =>
  j.2.2.1.1 v0 v3 v98 v99 v100 h5
def f24.b15 (I : Inp) (call : CallFn) (j : f24.Js) (v0 v3 v98 v99 v100 : AVal) (h : AHeap) : Rs :=
  kB .add v100 (Z 1) fun v116 =>
  j.2.1.2.2.1 v0 v3 v98 v99 v116 h
def f24.b16 (I : Inp) (call : CallFn) (j : f24.Js) (v0 v3 : AVal) (h : AHeap) : Rs :=
  kN v0 fun v139 =>
  kF 5 v139 fun v140 =>
  kL I v140 h fun v141 =>
  kC call 34 [v3, v141] h fun v142 h1 =>
  kN v3 fun v144 =>
  kF 0 v144 fun v145 =>
  kL I v145 h1 fun v146 =>
  some (v146, h1)
def f24.b17 (I : Inp) (call : CallFn) (j : f24.Js) (v0 v3 v127 v128 v129 : AVal) (h : AHeap) : Rs :=
  kB .lss v129 v128 fun v130 =>
  sCond v130 (
  j.2.2.1.2 v0 v3 h) (
  j.2.2.2.2.1 v0 v3 v127 v128 v129 h)
def f24.b18 (I : Inp) (call : CallFn) (j : f24.Js) (v0 v3 v127 v128 v129 : AVal) (h : AHeap) : Rs :=
  kI 3 v127 v129 fun v131 =>
  kM I 3 v131 h fun v132 =>
  kA [(Z 0), .nils, .nils] h fun v13 h1 =>
  kS 3 v13 v132 h1 fun _ h2 =>
  kM I 3 v13 h2 fun v134 =>
  kC call 37 [v3, v134] h2 fun v135 h3 =>
  j.2.2.2.2.2 v0 v3 v127 v128 v129 h3
def f24.b19 (I : Inp) (call : CallFn) (j : f24.Js) (v0 v3 v127 v128 v129 : AVal) (h : AHeap) : Rs :=
  kB .add v129 (Z 1) fun v136 =>
  j.2.2.2.1 v0 v3 v127 v128 v136 h
def f24.e (I : Inp) (call : CallFn) (j : f24.Js) (v0 : AVal) (h : AHeap) : Rs :=
  bndP (pBuild [.nils] []) fun v14 =>
  bnd (sBox v14 h) fun v15 h1 =>
  kN v0 fun v18 =>
  kF 0 v18 fun v19 =>
  kL I v19 h1 fun v20 =>
  kZ v20 fun v21 =>
  kC call 34 [v15, v21] h1 fun v22 h2 =>
  kN v0 fun v24 =>
  kF 0 v24 fun v25 =>
  kL I v25 h2 fun v26 =>
  kZ v26 fun v27 =>
  j.1.1.1.2 v0 v15 v26 v27 (Z 0) h2
def f24.J (I : Inp) (call : CallFn) (n : Nat) : f24.Js :=
  Nat.rec (motive := fun _ => f24.Js) ((((Zr.z, Zr.z), (Zr.z, (Zr.z, Zr.z))), ((Zr.z, Zr.z), (Zr.z, (Zr.z, Zr.z)))), (((Zr.z, Zr.z), (Zr.z, (Zr.z, Zr.z))), ((Zr.z, Zr.z), (Zr.z, (Zr.z, Zr.z))))) (fun _ j => ((((f24.b0 I call j, f24.b1 I call j), (f24.b2 I call j, (f24.b3 I call j, f24.b4 I call j))), ((f24.b5 I call j, f24.b6 I call j), (f24.b7 I call j, (f24.b8 I call j, f24.b9 I call j)))), (((f24.b10 I call j, f24.b11 I call j), (f24.b12 I call j, (f24.b13 I call j, f24.b14 I call j))), ((f24.b15 I call j, f24.b16 I call j), (f24.b17 I call j, (f24.b18 I call j, f24.b19 I call j)))))) n
theorem f24.n0 : (f24.J I call (n + 1)).1.1.1.1 = f24.b0 I call (f24.J I call n) := nrfl
theorem f24.n1 : (f24.J I call (n + 1)).1.1.1.2 = f24.b1 I call (f24.J I call n) := nrfl
theorem f24.n2 : (f24.J I call (n + 1)).1.1.2.1 = f24.b2 I call (f24.J I call n) := nrfl
theorem f24.n3 : (f24.J I call (n + 1)).1.1.2.2.1 = f24.b3 I call (f24.J I call n) := nrfl
theorem f24.n4 : (f24.J I call (n + 1)).1.1.2.2.2 = f24.b4 I call (f24.J I call n) := nrfl
theorem f24.n5 : (f24.J I call (n + 1)).1.2.1.1 = f24.b5 I call (f24.J I call n) := nrfl
theorem f24.n6 : (f24.J I call (n + 1)).1.2.1.2 = f24.b6 I call (f24.J I call n) := nrfl
theorem f24.n7 : (f24.J I call (n + 1)).1.2.2.1 = f24.b7 I call (f24.J I call n) := nrfl
theorem f24.n8 : (f24.J I call (n + 1)).1.2.2.2.1 = f24.b8 I call (f24.J I call n) := nrfl
theorem f24.n9 : (f24.J I call (n + 1)).1.2.2.2.2 = f24.b9 I call (f24.J I call n) := nrfl
theorem f24.n10 : (f24.J I call (n + 1)).2.1.1.1 = f24.b10 I call (f24.J I call n) := nrfl
theorem f24.n11 : (f24.J I call (n + 1)).2.1.1.2 = f24.b11 I call (f24.J I call n) := nrfl
theorem f24.n12 : (f24.J I call (n + 1)).2.1.2.1 = f24.b12 I call (f24.J I call n) := nrfl
theorem f24.n13 : (f24.J I call (n + 1)).2.1.2.2.1 = f24.b13 I call (f24.J I call n) := nrfl
theorem f24.n14 : (f24.J I call (n + 1)).2.1.2.2.2 = f24.b14 I call (f24.J I call n) := nrfl
theorem f24.n15 : (f24.J I call (n + 1)).2.2.1.1 = f24.b15 I call (f24.J I call n) := nrfl
theorem f24.n16 : (f24.J I call (n + 1)).2.2.1.2 = f24.b16 I call (f24.J I call n) := nrfl
theorem f24.n17 : (f24.J I call (n + 1)).2.2.2.1 = f24.b17 I call (f24.J I call n) := nrfl
theorem f24.n18 : (f24.J I call (n + 1)).2.2.2.2.1 = f24.b18 I call (f24.J I call n) := nrfl
theorem f24.n19 : (f24.J I call (n + 1)).2.2.2.2.2 = f24.b19 I call (f24.J I call n) := nrfl
def f24.JS (I : Inp) (call : CallFn) (n : Nat) : Jmp := (fun j : f24.Js => jmp [Ap.ap j.1.1.1.1 [0, 3], Ap.ap j.1.1.1.2 [0, 3, 26, 27, 28], Ap.ap j.1.1.2.1 [0, 3, 26, 27, 28], Ap.ap j.1.1.2.2.1 [0, 3, 26, 27, 28], Ap.ap j.1.1.2.2.2 [0, 3], Ap.ap j.1.2.1.1 [0, 3, 46, 47, 48], Ap.ap j.1.2.1.2 [0, 3, 46, 47, 48], Ap.ap j.1.2.2.1 [0, 3, 46, 47, 48], Ap.ap j.1.2.2.2.1 [0, 3], Ap.ap j.1.2.2.2.2 [0, 3, 77, 78, 79], Ap.ap j.2.1.1.1 [0, 3, 77, 78, 79], Ap.ap j.2.1.1.2 [0, 3, 77, 78, 79], Ap.ap j.2.1.2.1 [0, 3], Ap.ap j.2.1.2.2.1 [0, 3, 98, 99, 100], Ap.ap j.2.1.2.2.2 [0, 3, 98, 99, 100], Ap.ap j.2.2.1.1 [0, 3, 98, 99, 100], Ap.ap j.2.2.1.2 [0, 3], Ap.ap j.2.2.2.1 [0, 3, 127, 128, 129], Ap.ap j.2.2.2.2.1 [0, 3, 127, 128, 129], Ap.ap j.2.2.2.2.2 [0, 3, 127, 128, 129]]) (f24.J I call n)
theorem f24.S : SFn ⟨P, I, F⟩ call c24 (f24.JS I call) := .all 20 (by kernel_rfl) (fun ρ h => by kernel_rfl) (fun n ρ h => by kernel_rfl)
theorem f24.qe : Ap.all (f24.e I call (f24.J I call n)) (fun l h => execC P I call (f24.JS I call n) c24.body 0 (finV I c24.results) (argV l) h) := fun v0 h => by kernel_rfl
theorem f24.code : codeOf P 24 = some c24 := by kernel_rfl
def f24.run (I : Inp) : SF := fun call n => Ap.ar (f24.e I call (f24.J I call n))
theorem f24.ok (I : Inp) (F : Nat → Option AFn) (hF : F 24 = some (.code c24)) : SfOk P I F 24 (f24.run I) := okOf hF (by kernel_rfl) (fun _ => f24.S) fun call n => f24.qe
theorem f24.lim (hp : prims 24 = none) {v0 : AVal} (hr : Res (f24.e I (AM.lim ⟨P, I, genF P prims⟩) (f24.J I (AM.lim ⟨P, I, genF P prims⟩) n) v0 h) Q) : Res ((AM.lim ⟨P, I, genF P prims⟩) 24 [v0] h) Q := limOf (n := n) hp f24.code (f24.ok I) hr rfl
/-! haruspex/refuse.first -/
def c25 : AFunc := cOf P 25
abbrev f25.Js : Type := A1
def f25.b0 (I : Inp) (call : CallFn) (j : f25.Js) (v3 : AVal) (h : AHeap) : Rs :=
  kL I v3 h fun v8 =>
  some (v8, h)
def f25.e (I : Inp) (call : CallFn) (j : f25.Js) (v0 : AVal) (h : AHeap) : Rs :=
  kA [.nilp] h fun v3 h1 =>
  kC call 38 [v0, (.iface 97 v3)] h1 fun v6 h2 =>
  kU .not v6 fun v7 =>
  sCond v7 (
  j v3 h2) (
  some (.nilp, h2))
def f25.J (I : Inp) (call : CallFn) (n : Nat) : f25.Js :=
  Nat.rec (motive := fun _ => f25.Js) Zr.z (fun _ j => f25.b0 I call j) n
theorem f25.n0 : (f25.J I call (n + 1)) = f25.b0 I call (f25.J I call n) := nrfl
def f25.JS (I : Inp) (call : CallFn) (n : Nat) : Jmp := (fun j : f25.Js => jmp [Ap.ap j [3]]) (f25.J I call n)
theorem f25.S : SFn ⟨P, I, F⟩ call c25 (f25.JS I call) := .all 1 (by kernel_rfl) (fun ρ h => by kernel_rfl) (fun n ρ h => by kernel_rfl)
theorem f25.qe : Ap.all (f25.e I call (f25.J I call n)) (fun l h => execC P I call (f25.JS I call n) c25.body 0 (finV I c25.results) (argV l) h) := fun v0 h => by kernel_rfl
theorem f25.code : codeOf P 25 = some c25 := by kernel_rfl
def f25.run (I : Inp) : SF := fun call n => Ap.ar (f25.e I call (f25.J I call n))
theorem f25.ok (I : Inp) (F : Nat → Option AFn) (hF : F 25 = some (.code c25)) : SfOk P I F 25 (f25.run I) := okOf hF (by kernel_rfl) (fun _ => f25.S) fun call n => f25.qe
theorem f25.lim (hp : prims 25 = none) {v0 : AVal} (hr : Res (f25.e I (AM.lim ⟨P, I, genF P prims⟩) (f25.J I (AM.lim ⟨P, I, genF P prims⟩) n) v0 h) Q) : Res ((AM.lim ⟨P, I, genF P prims⟩) 25 [v0] h) Q := limOf (n := n) hp f25.code (f25.ok I) hr rfl
/-! (*haruspex/code.reader).program -/
def c26 : AFunc := cOf P 26
abbrev f26.Js : Type := ((((A2 × A3) × (A3 × (A3 × A2))) × ((A3 × A3) × (A3 × (A2 × A3)))) × (((A3 × A3) × (A2 × (A3 × A3))) × ((A3 × A2) × (A3 × (A3 × A3)))))
def f26.b0 (I : Inp) (call : CallFn) (j : f26.Js) (v0 v3 : AVal) (h : AHeap) : Rs :=
  kC call 39 [v0] h fun v38 h1 =>
  j.1.2.1.1 v0 v3 v38 h1
def f26.b1 (I : Inp) (call : CallFn) (j : f26.Js) (v0 v3 v4 : AVal) (h : AHeap) : Rs :=
  kB .gtr v4 (Z 0) fun v16 =>
  gV v16 .true v0 h fun v18 h1 =>
  gP v16 .true (pNilCheck v18) h1 fun v19 h2 =>
  gP v16 .true (pFieldAddr 1 v19) h2 fun v20 h3 =>
  gP v16 .true (pLoad1 I v20 h3) h3 fun v21 h4 =>
  gP v16 .true (pUn .not v21) h4 fun v22 h5 =>
  kP v16 v22 bF fun v23 =>
  sCond v23 (
  j.1.1.1.1 v0 v3 h5) (
  j.1.1.2.1 v0 v3 v4 h5)
def f26.b2 (I : Inp) (call : CallFn) (j : f26.Js) (v0 v3 v4 : AVal) (h : AHeap) : Rs :=
  kN v3 fun v28 =>
  kF 0 v28 fun v29 =>
  kL I v29 h fun v30 =>
  kC call 40 [v0] h fun v32 h1 =>
  bnd (sBuildSlice [.nils] 1 [(0, 1, v32)] h1) fun v33 h2 =>
  bnd (sAppend I 1 24 v30 v33 h2) fun v34 h3 =>
  kN v3 fun v35 =>
  kF 0 v35 fun v36 =>
  kS 1 v36 v34 h3 fun _ h4 =>
  sCheck (sSame (lift (pLoad1 I v29 h1) h1) v30 && (sSame (lift (pLoad1 I v29 h2) h2) v30 && true)) (
  j.1.1.2.2.1 v0 v3 v4 h4)
def f26.b3 (I : Inp) (call : CallFn) (j : f26.Js) (v0 v3 v4 : AVal) (h : AHeap) : Rs :=
  kB .sub v4 (Z 1) fun v25 =>
  j.1.1.1.2 v0 v3 v25 h
def f26.b4 (I : Inp) (call : CallFn) (j : f26.Js) (v0 v3 : AVal) (h : AHeap) : Rs :=
  kC call 39 [v0] h fun v67 h1 =>
  j.1.2.2.2.2 v0 v3 v67 h1
def f26.b5 (I : Inp) (call : CallFn) (j : f26.Js) (v0 v3 v5 : AVal) (h : AHeap) : Rs :=
  kB .gtr v5 (Z 0) fun v40 =>
  gV v40 .true v0 h fun v42 h1 =>
  gP v40 .true (pNilCheck v42) h1 fun v43 h2 =>
  gP v40 .true (pFieldAddr 1 v43) h2 fun v44 h3 =>
  gP v40 .true (pLoad1 I v44 h3) h3 fun v45 h4 =>
  gP v40 .true (pUn .not v45) h4 fun v46 h5 =>
  kP v40 v46 bF fun v47 =>
  sCond v47 (
  j.1.1.2.2.2 v0 v3 h5) (
  j.1.2.1.2 v0 v3 v5 h5)
def f26.b6 (I : Inp) (call : CallFn) (j : f26.Js) (v0 v3 v5 : AVal) (h : AHeap) : Rs :=
  kC call 40 [v0] h fun v51 h1 =>
  bndP (pBuild [.nils, (Z 0), (Z 0)] [(0, 1, v51)]) fun v52 =>
  kA [.nils, (Z 0), (Z 0)] h1 fun v6 h2 =>
  kS 3 v6 v52 h2 fun _ h3 =>
  kC call 41 [v0] h3 fun v54 h4 =>
  kF 1 v6 fun v55 =>
  kS 2 v55 v54 h4 fun _ h5 =>
  kN v3 fun v58 =>
  kF 1 v58 fun v59 =>
  kL I v59 h5 fun v60 =>
  kM I 3 v6 h5 fun v61 =>
  bnd (sBuildSlice [.nils, (Z 0), (Z 0)] 1 [(0, 3, v61)] h5) fun v62 h6 =>
  bnd (sAppend I 3 40 v60 v62 h6) fun v63 h7 =>
  kN v3 fun v64 =>
  kF 1 v64 fun v65 =>
  kS 1 v65 v63 h7 fun _ h8 =>
  sCheck (sSame (lift (pLoad1 I v59 h6) h6) v60 && true) (
  j.1.2.2.1 v0 v3 v5 h8)
def f26.b7 (I : Inp) (call : CallFn) (j : f26.Js) (v0 v3 v5 : AVal) (h : AHeap) : Rs :=
  kB .sub v5 (Z 1) fun v49 =>
  j.1.2.1.1 v0 v3 v49 h
def f26.b8 (I : Inp) (call : CallFn) (j : f26.Js) (v0 v3 : AVal) (h : AHeap) : Rs :=
  kC call 39 [v0] h fun v92 h1 =>
  j.2.1.2.2.1 v0 v3 v92 h1
def f26.b9 (I : Inp) (call : CallFn) (j : f26.Js) (v0 v3 v7 : AVal) (h : AHeap) : Rs :=
  kB .gtr v7 (Z 0) fun v69 =>
  gV v69 .true v0 h fun v71 h1 =>
  gP v69 .true (pNilCheck v71) h1 fun v72 h2 =>
  gP v69 .true (pFieldAddr 1 v72) h2 fun v73 h3 =>
  gP v69 .true (pLoad1 I v73 h3) h3 fun v74 h4 =>
  gP v69 .true (pUn .not v74) h4 fun v75 h5 =>
  kP v69 v75 bF fun v76 =>
  sCond v76 (
  j.1.2.2.2.1 v0 v3 h5) (
  j.2.1.1.1 v0 v3 v7 h5)
def f26.b10 (I : Inp) (call : CallFn) (j : f26.Js) (v0 v3 v7 : AVal) (h : AHeap) : Rs :=
  kN v3 fun v81 =>
  kF 2 v81 fun v82 =>
  kL I v82 h fun v83 =>
  kC call 42 [v0] h fun v85 h1 =>
  bndP (pBuild [.nils] [(0, 1, v85)]) fun v86 =>
  bnd (sBuildSlice [.nils] 1 [(0, 1, v86)] h1) fun v87 h2 =>
  bnd (sAppend I 1 24 v83 v87 h2) fun v88 h3 =>
  kN v3 fun v89 =>
  kF 2 v89 fun v90 =>
  kS 1 v90 v88 h3 fun _ h4 =>
  sCheck (sSame (lift (pLoad1 I v82 h1) h1) v83 && (sSame (lift (pLoad1 I v82 h2) h2) v83 && true)) (
  j.2.1.1.2 v0 v3 v7 h4)
def f26.b11 (I : Inp) (call : CallFn) (j : f26.Js) (v0 v3 v7 : AVal) (h : AHeap) : Rs :=
  kB .sub v7 (Z 1) fun v78 =>
  j.1.2.2.2.2 v0 v3 v78 h
def f26.b12 (I : Inp) (call : CallFn) (j : f26.Js) (v0 v3 : AVal) (h : AHeap) : Rs :=
  kC call 39 [v0] h fun v124 h1 =>
  j.2.2.2.1 v0 v3 v124 h1
def f26.b13 (I : Inp) (call : CallFn) (j : f26.Js) (v0 v3 v8 : AVal) (h : AHeap) : Rs :=
  kB .gtr v8 (Z 0) fun v94 =>
  gV v94 .true v0 h fun v96 h1 =>
  gP v94 .true (pNilCheck v96) h1 fun v97 h2 =>
  gP v94 .true (pFieldAddr 1 v97) h2 fun v98 h3 =>
  gP v94 .true (pLoad1 I v98 h3) h3 fun v99 h4 =>
  gP v94 .true (pUn .not v99) h4 fun v100 h5 =>
  kP v94 v100 bF fun v101 =>
  sCond v101 (
  j.2.1.2.1 v0 v3 h5) (
  j.2.1.2.2.2 v0 v3 v8 h5)
def f26.b14 (I : Inp) (call : CallFn) (j : f26.Js) (v0 v3 v8 : AVal) (h : AHeap) : Rs :=
  kC call 43 [v0] h fun v105 h1 =>
  bndP (pBuild [(Z 0), (Z 0), .nils] [(0, 1, v105)]) fun v106 =>
  kA [(Z 0), (Z 0), .nils] h1 fun v9 h2 =>
  kS 3 v9 v106 h2 fun _ h3 =>
  kC call 43 [v0] h3 fun v108 h4 =>
  kF 1 v9 fun v109 =>
  kS 1 v109 v108 h4 fun _ h5 =>
  kC call 42 [v0] h5 fun v111 h6 =>
  kF 2 v9 fun v112 =>
  kS 1 v112 v111 h6 fun _ h7 =>
  kN v3 fun v115 =>
  kF 3 v115 fun v116 =>
  kL I v116 h7 fun v117 =>
  kM I 3 v9 h7 fun v118 =>
  bnd (sBuildSlice [(Z 0), (Z 0), .nils] 1 [(0, 3, v118)] h7) fun v119 h8 =>
  bnd (sAppend I 3 40 v117 v119 h8) fun v120 h9 =>
  kN v3 fun v121 =>
  kF 3 v121 fun v122 =>
  kS 1 v122 v120 h9 fun _ h10 =>
  sCheck (sSame (lift (pLoad1 I v116 h8) h8) v117 && true) (
  j.2.2.1.1 v0 v3 v8 h10)
def f26.b15 (I : Inp) (call : CallFn) (j : f26.Js) (v0 v3 v8 : AVal) (h : AHeap) : Rs :=
  kB .sub v8 (Z 1) fun v103 =>
  j.2.1.2.2.1 v0 v3 v103 h
def f26.b16 (I : Inp) (call : CallFn) (j : f26.Js) (v0 v3 : AVal) (h : AHeap) : Rs :=
  kC call 43 [v0] h fun v149 h1 =>
  kN v3 fun v150 =>
  kF 5 v150 fun v151 =>
  kS 1 v151 v149 h1 fun _ h2 =>
  some (v3, h2)
def f26.b17 (I : Inp) (call : CallFn) (j : f26.Js) (v0 v3 v10 : AVal) (h : AHeap) : Rs :=
  kB .gtr v10 (Z 0) fun v126 =>
  gV v126 .true v0 h fun v128 h1 =>
  gP v126 .true (pNilCheck v128) h1 fun v129 h2 =>
  gP v126 .true (pFieldAddr 1 v129) h2 fun v130 h3 =>
  gP v126 .true (pLoad1 I v130 h3) h3 fun v131 h4 =>
  gP v126 .true (pUn .not v131) h4 fun v132 h5 =>
  kP v126 v132 bF fun v133 =>
  sCond v133 (
  j.2.2.1.2 v0 v3 h5) (
  j.2.2.2.2.1 v0 v3 v10 h5)
def f26.b18 (I : Inp) (call : CallFn) (j : f26.Js) (v0 v3 v10 : AVal) (h : AHeap) : Rs :=
  kN v3 fun v138 =>
  kF 4 v138 fun v139 =>
  kL I v139 h fun v140 =>
  kC call 44 [v0] h fun v142 h1 =>
  bnd (sBuildSlice [(Z 0), .nils, .nils] 1 [(0, 3, v142)] h1) fun v143 h2 =>
  bnd (sAppend I 3 56 v140 v143 h2) fun v144 h3 =>
  kN v3 fun v145 =>
  kF 4 v145 fun v146 =>
  kS 1 v146 v144 h3 fun _ h4 =>
  sCheck (sSame (lift (pLoad1 I v139 h1) h1) v140 && (sSame (lift (pLoad1 I v139 h2) h2) v140 && true)) (
  j.2.2.2.2.2 v0 v3 v10 h4)
def f26.b19 (I : Inp) (call : CallFn) (j : f26.Js) (v0 v3 v10 : AVal) (h : AHeap) : Rs :=
  kB .sub v10 (Z 1) fun v135 =>
  j.2.2.2.1 v0 v3 v135 h
def f26.e (I : Inp) (call : CallFn) (j : f26.Js) (v0 : AVal) (h : AHeap) : Rs :=
  bndP (pBuild [.nils, .nils, .nils, .nils, .nils, (Z 0)] []) fun v11 =>
  bnd (sBox v11 h) fun v12 h1 =>
  kC call 39 [v0] h1 fun v14 h2 =>
  j.1.1.1.2 v0 v12 v14 h2
def f26.J (I : Inp) (call : CallFn) (n : Nat) : f26.Js :=
  Nat.rec (motive := fun _ => f26.Js) ((((Zr.z, Zr.z), (Zr.z, (Zr.z, Zr.z))), ((Zr.z, Zr.z), (Zr.z, (Zr.z, Zr.z)))), (((Zr.z, Zr.z), (Zr.z, (Zr.z, Zr.z))), ((Zr.z, Zr.z), (Zr.z, (Zr.z, Zr.z))))) (fun _ j => ((((f26.b0 I call j, f26.b1 I call j), (f26.b2 I call j, (f26.b3 I call j, f26.b4 I call j))), ((f26.b5 I call j, f26.b6 I call j), (f26.b7 I call j, (f26.b8 I call j, f26.b9 I call j)))), (((f26.b10 I call j, f26.b11 I call j), (f26.b12 I call j, (f26.b13 I call j, f26.b14 I call j))), ((f26.b15 I call j, f26.b16 I call j), (f26.b17 I call j, (f26.b18 I call j, f26.b19 I call j)))))) n
theorem f26.n0 : (f26.J I call (n + 1)).1.1.1.1 = f26.b0 I call (f26.J I call n) := nrfl
theorem f26.n1 : (f26.J I call (n + 1)).1.1.1.2 = f26.b1 I call (f26.J I call n) := nrfl
theorem f26.n2 : (f26.J I call (n + 1)).1.1.2.1 = f26.b2 I call (f26.J I call n) := nrfl
theorem f26.n3 : (f26.J I call (n + 1)).1.1.2.2.1 = f26.b3 I call (f26.J I call n) := nrfl
theorem f26.n4 : (f26.J I call (n + 1)).1.1.2.2.2 = f26.b4 I call (f26.J I call n) := nrfl
theorem f26.n5 : (f26.J I call (n + 1)).1.2.1.1 = f26.b5 I call (f26.J I call n) := nrfl
theorem f26.n6 : (f26.J I call (n + 1)).1.2.1.2 = f26.b6 I call (f26.J I call n) := nrfl
theorem f26.n7 : (f26.J I call (n + 1)).1.2.2.1 = f26.b7 I call (f26.J I call n) := nrfl
theorem f26.n8 : (f26.J I call (n + 1)).1.2.2.2.1 = f26.b8 I call (f26.J I call n) := nrfl
theorem f26.n9 : (f26.J I call (n + 1)).1.2.2.2.2 = f26.b9 I call (f26.J I call n) := nrfl
theorem f26.n10 : (f26.J I call (n + 1)).2.1.1.1 = f26.b10 I call (f26.J I call n) := nrfl
theorem f26.n11 : (f26.J I call (n + 1)).2.1.1.2 = f26.b11 I call (f26.J I call n) := nrfl
theorem f26.n12 : (f26.J I call (n + 1)).2.1.2.1 = f26.b12 I call (f26.J I call n) := nrfl
theorem f26.n13 : (f26.J I call (n + 1)).2.1.2.2.1 = f26.b13 I call (f26.J I call n) := nrfl
theorem f26.n14 : (f26.J I call (n + 1)).2.1.2.2.2 = f26.b14 I call (f26.J I call n) := nrfl
theorem f26.n15 : (f26.J I call (n + 1)).2.2.1.1 = f26.b15 I call (f26.J I call n) := nrfl
theorem f26.n16 : (f26.J I call (n + 1)).2.2.1.2 = f26.b16 I call (f26.J I call n) := nrfl
theorem f26.n17 : (f26.J I call (n + 1)).2.2.2.1 = f26.b17 I call (f26.J I call n) := nrfl
theorem f26.n18 : (f26.J I call (n + 1)).2.2.2.2.1 = f26.b18 I call (f26.J I call n) := nrfl
theorem f26.n19 : (f26.J I call (n + 1)).2.2.2.2.2 = f26.b19 I call (f26.J I call n) := nrfl
def f26.JS (I : Inp) (call : CallFn) (n : Nat) : Jmp := (fun j : f26.Js => jmp [Ap.ap j.1.1.1.1 [0, 3], Ap.ap j.1.1.1.2 [0, 3, 4], Ap.ap j.1.1.2.1 [0, 3, 4], Ap.ap j.1.1.2.2.1 [0, 3, 4], Ap.ap j.1.1.2.2.2 [0, 3], Ap.ap j.1.2.1.1 [0, 3, 5], Ap.ap j.1.2.1.2 [0, 3, 5], Ap.ap j.1.2.2.1 [0, 3, 5], Ap.ap j.1.2.2.2.1 [0, 3], Ap.ap j.1.2.2.2.2 [0, 3, 7], Ap.ap j.2.1.1.1 [0, 3, 7], Ap.ap j.2.1.1.2 [0, 3, 7], Ap.ap j.2.1.2.1 [0, 3], Ap.ap j.2.1.2.2.1 [0, 3, 8], Ap.ap j.2.1.2.2.2 [0, 3, 8], Ap.ap j.2.2.1.1 [0, 3, 8], Ap.ap j.2.2.1.2 [0, 3], Ap.ap j.2.2.2.1 [0, 3, 10], Ap.ap j.2.2.2.2.1 [0, 3, 10], Ap.ap j.2.2.2.2.2 [0, 3, 10]]) (f26.J I call n)
theorem f26.S : SFn ⟨P, I, F⟩ call c26 (f26.JS I call) := .all 20 (by kernel_rfl) (fun ρ h => by kernel_rfl) (fun n ρ h => by kernel_rfl)
theorem f26.qe : Ap.all (f26.e I call (f26.J I call n)) (fun l h => execC P I call (f26.JS I call n) c26.body 0 (finV I c26.results) (argV l) h) := fun v0 h => by kernel_rfl
theorem f26.code : codeOf P 26 = some c26 := by kernel_rfl
def f26.run (I : Inp) : SF := fun call n => Ap.ar (f26.e I call (f26.J I call n))
theorem f26.ok (I : Inp) (F : Nat → Option AFn) (hF : F 26 = some (.code c26)) : SfOk P I F 26 (f26.run I) := okOf hF (by kernel_rfl) (fun _ => f26.S) fun call n => f26.qe
theorem f26.lim (hp : prims 26 = none) {v0 : AVal} (hr : Res (f26.e I (AM.lim ⟨P, I, genF P prims⟩) (f26.J I (AM.lim ⟨P, I, genF P prims⟩) n) v0 h) Q) : Res ((AM.lim ⟨P, I, genF P prims⟩) 26 [v0] h) Q := limOf (n := n) hp f26.code (f26.ok I) hr rfl
/-! bytes.Equal -/
def c27 : AFunc := cOf P 27
abbrev f27.Js : Type := Unit
def f27.e (I : Inp) (call : CallFn) (j : f27.Js) (v0 v1 : AVal) (h : AHeap) : Rs :=
  bndP (pToStr I v0 h) fun v6 =>
  bndP (pToStr I v1 h) fun v8 =>
  kB .eql v6 v8 fun v9 =>
  some (v9, h)
theorem f27.S : SFn ⟨P, I, F⟩ call c27 (fun _ => jmp []) := .all 0 (by kernel_rfl) (fun ρ h => by kernel_rfl) (fun n ρ h => by kernel_rfl)
theorem f27.qe : Ap.all (f27.e I call ()) (fun l h => execC P I call (jmp []) c27.body 0 (finV I c27.results) (argV l) h) := fun v0 v1 h => by kernel_rfl
theorem f27.code : codeOf P 27 = some c27 := by kernel_rfl
def f27.run (I : Inp) : SF := fun call n => Ap.ar (f27.e I call ())
theorem f27.ok (I : Inp) (F : Nat → Option AFn) (hF : F 27 = some (.code c27)) : SfOk P I F 27 (f27.run I) := okOf hF (by kernel_rfl) (fun _ => f27.S) fun call n => f27.qe
theorem f27.lim (hp : prims 27 = none) {n : Nat} {v0 v1 : AVal} (hr : Res (f27.e I (AM.lim ⟨P, I, genF P prims⟩) () v0 v1 h) Q) : Res ((AM.lim ⟨P, I, genF P prims⟩) 27 [v0, v1] h) Q := limOf (n := n) hp f27.code (f27.ok I) hr rfl
/-! haruspex/haruspexref8.Dec -/
def c28 : AFunc := cOf P 28
abbrev f28.Js : Type := (A1 × (A1 × A1))
def f28.b0 (I : Inp) (call : CallFn) (j : f28.Js) (v0 : AVal) (h : AHeap) : Rs :=
  kB .lss v0 (Z 10) fun v22 =>
  sCond v22 (
  j.2.2 v0 h) (
  kB .add (Z 48) v0 fun v24 =>
  bndP (pToInt .u8 v24) fun v25 =>
  bnd (sBuildSlice [(.int .u8 (.ofNat 0))] 1 [(0, 1, v25)] h) fun v26 h1 =>
  bndP (pToStr I v26 h1) fun v27 =>
  some (v27, h1))
def f28.b1 (I : Inp) (call : CallFn) (j : f28.Js) (v0 : AVal) (h : AHeap) : Rs :=
  kU .neg v0 fun v18 =>
  kC call 28 [v18] h fun v19 h1 =>
  kB .add (.str [45]) v19 fun v20 =>
  some (v20, h1)
def f28.b2 (I : Inp) (call : CallFn) (j : f28.Js) (v0 : AVal) (h : AHeap) : Rs :=
  sKeep 0 h fun h1 =>
  kB .quo v0 (Z 10) fun v29 =>
  kC call 28 [v29] h1 fun v30 h2 =>
  kB .rem v0 (Z 10) fun v32 =>
  kB .add (Z 48) v32 fun v33 =>
  bndP (pToInt .u8 v33) fun v34 =>
  bnd (sResvSlice (h.next + 0) [(.int .u8 (.ofNat 0))] 1 [(0, 1, v34)] h2) fun v35 h3 =>
  bndP (pToStr I v35 h3) fun v36 =>
  kB .add v30 v36 fun v37 =>
  sCheck (sSame (lift (pToStr I v35 h3) h3) v36 && (sSame (lift (pToStr I v35 h3) h3) v36 && true)) (
  some (v37, h3))
def f28.e (I : Inp) (call : CallFn) (j : f28.Js) (v0 : AVal) (h : AHeap) : Rs :=
  kB .lss v0 (Z 0) fun v4 =>
  sCond v4 (
  j.1 v0 h) (
  kB .lss v0 (.int .i64 (.negSucc 4611686018427387903)) fun v6 =>
  sCond v6 (
  j.2.1 v0 h) (
  kB .quo v0 (Z 10) fun v8 =>
  kU .neg v8 fun v9 =>
  kC call 28 [v9] h fun v10 h1 =>
  kB .add (.str [45]) v10 fun v11 =>
  kB .rem v0 (Z 10) fun v13 =>
  kU .neg v13 fun v14 =>
  kC call 28 [v14] h1 fun v15 h2 =>
  kB .add v11 v15 fun v16 =>
  some (v16, h2)))
def f28.J (I : Inp) (call : CallFn) (n : Nat) : f28.Js :=
  Nat.rec (motive := fun _ => f28.Js) (Zr.z, (Zr.z, Zr.z)) (fun _ j => (f28.b0 I call j, (f28.b1 I call j, f28.b2 I call j))) n
theorem f28.n0 : (f28.J I call (n + 1)).1 = f28.b0 I call (f28.J I call n) := nrfl
theorem f28.n1 : (f28.J I call (n + 1)).2.1 = f28.b1 I call (f28.J I call n) := nrfl
theorem f28.n2 : (f28.J I call (n + 1)).2.2 = f28.b2 I call (f28.J I call n) := nrfl
def f28.JS (I : Inp) (call : CallFn) (n : Nat) : Jmp := (fun j : f28.Js => jmp [Ap.ap j.1 [0], Ap.ap j.2.1 [0], Ap.ap j.2.2 [0]]) (f28.J I call n)
theorem f28.S : SFn ⟨P, I, F⟩ call c28 (f28.JS I call) := .all 3 (by kernel_rfl) (fun ρ h => by kernel_rfl) (fun n ρ h => by kernel_rfl)
theorem f28.qe : Ap.all (f28.e I call (f28.J I call n)) (fun l h => execC P I call (f28.JS I call n) c28.body 0 (finV I c28.results) (argV l) h) := fun v0 h => by kernel_rfl
theorem f28.code : codeOf P 28 = some c28 := by kernel_rfl
def f28.run (I : Inp) : SF := fun call n => Ap.ar (f28.e I call (f28.J I call n))
theorem f28.ok (I : Inp) (F : Nat → Option AFn) (hF : F 28 = some (.code c28)) : SfOk P I F 28 (f28.run I) := okOf hF (by kernel_rfl) (fun _ => f28.S) fun call n => f28.qe
theorem f28.lim (hp : prims 28 = none) {v0 : AVal} (hr : Res (f28.e I (AM.lim ⟨P, I, genF P prims⟩) (f28.J I (AM.lim ⟨P, I, genF P prims⟩) n) v0 h) Q) : Res ((AM.lim ⟨P, I, genF P prims⟩) 28 [v0] h) Q := limOf (n := n) hp f28.code (f28.ok I) hr rfl
/-! haruspex/haruspexref8.Line -/
def c29 : AFunc := cOf P 29
abbrev f29.Js : Type := A0
def f29.b0 (I : Inp) (call : CallFn) (j : f29.Js) (h : AHeap) : Rs :=
  some ((.str [63]), h)
def f29.e (I : Inp) (call : CallFn) (j : f29.Js) (v0 : AVal) (h : AHeap) : Rs :=
  bnd (sBox v0 h) fun v1 h1 =>
  kF 1 v1 fun v4 =>
  kL I v4 h1 fun v5 =>
  kC call 30 [v5] h1 fun v6 h2 =>
  kB .add v6 (.str [32, 61, 32]) fun v7 =>
  kF 0 v1 fun v8 =>
  kL I v8 h2 fun v9 =>
  kB .eql v9 (Z 1) fun v11 =>
  sCond v11 (
  kB .eql v9 (Z 2) fun v19 =>
  sCond v19 (
  kB .eql v9 (Z 3) fun v32 =>
  sCond v32 (
  kB .eql v9 (Z 4) fun v36 =>
  sCond v36 (
  kB .eql v9 (Z 5) fun v40 =>
  sCond v40 (
  kB .eql v9 (Z 6) fun v44 =>
  sCond v44 (
  kB .eql v9 (Z 7) fun v51 =>
  sCond v51 (
  kB .eql v9 (Z 8) fun v63 =>
  sCond v63 (
  kB .eql v9 (Z 9) fun v78 =>
  sCond v78 (
  kB .eql v9 (Z 10) fun v84 =>
  sCond v84 (
  kB .eql v9 (Z 11) fun v92 =>
  sCond v92 (
  kB .eql v9 (Z 12) fun v100 =>
  sCond v100 (
  kB .eql v9 (Z 13) fun v112 =>
  sCond v112 (
  kB .eql v9 (Z 14) fun v124 =>
  sCond v124 (
  kB .eql v9 (Z 15) fun v141 =>
  sCond v141 (
  j h2) (
  kF 2 v1 fun v142 =>
  kL I v142 h2 fun v143 =>
  kC call 30 [v143] h2 fun v144 h3 =>
  kB .add (.str [115, 105, 110, 107, 32]) v144 fun v145 =>
  some (v145, h3))) (
  kB .add v7 (.str [99, 97, 108, 108, 32]) fun v126 =>
  kF 2 v1 fun v127 =>
  kL I v127 h2 fun v128 =>
  kC call 30 [v128] h2 fun v129 h4 =>
  kB .add v126 v129 fun v130 =>
  kB .add v130 (.str [46]) fun v131 =>
  kF 4 v1 fun v132 =>
  kL I v132 h4 fun v133 =>
  kC call 28 [v133] h4 fun v134 h5 =>
  kB .add v131 v134 fun v135 =>
  kF 5 v1 fun v136 =>
  kL I v136 h5 fun v137 =>
  kC call 45 [v137] h5 fun v138 h6 =>
  kB .add v135 v138 fun v139 =>
  sCheck (sSame (lift (pLoad1 I v132 h2) h2) v133 && true) (
  sCheck (sSame (lift (pLoad1 I v136 h2) h2) v137 && (sSame (lift (pLoad1 I v136 h4) h4) v137 && true)) (
  some (v139, h6))))) (
  kB .add v7 (.str [99, 97, 108, 108, 32]) fun v114 =>
  kF 2 v1 fun v115 =>
  kL I v115 h2 fun v116 =>
  kC call 30 [v116] h2 fun v117 h7 =>
  kB .add v114 v117 fun v118 =>
  kF 5 v1 fun v119 =>
  kL I v119 h7 fun v120 =>
  kC call 45 [v120] h7 fun v121 h8 =>
  kB .add v118 v121 fun v122 =>
  sCheck (sSame (lift (pLoad1 I v119 h2) h2) v120 && true) (
  some (v122, h8)))) (
  kB .add v7 (.str [99, 97, 108, 108, 32]) fun v102 =>
  kF 4 v1 fun v103 =>
  kL I v103 h2 fun v104 =>
  kC call 28 [v104] h2 fun v105 h9 =>
  kB .add v102 v105 fun v106 =>
  kF 5 v1 fun v107 =>
  kL I v107 h9 fun v108 =>
  kC call 45 [v108] h9 fun v109 h10 =>
  kB .add v106 v109 fun v110 =>
  sCheck (sSame (lift (pLoad1 I v107 h2) h2) v108 && true) (
  some (v110, h10)))) (
  kB .add v7 (.str [105, 102, 97, 99, 101, 32]) fun v94 =>
  kF 2 v1 fun v95 =>
  kL I v95 h2 fun v96 =>
  kC call 30 [v96] h2 fun v97 h11 =>
  kB .add v94 v97 fun v98 =>
  some (v98, h11))) (
  kB .add v7 (.str [102, 117, 110, 99, 32]) fun v86 =>
  kF 4 v1 fun v87 =>
  kL I v87 h2 fun v88 =>
  kC call 28 [v88] h2 fun v89 h12 =>
  kB .add v86 v89 fun v90 =>
  some (v90, h12))) (
  kF 2 v1 fun v79 =>
  kL I v79 h2 fun v80 =>
  kC call 30 [v80] h2 fun v81 h13 =>
  kB .add (.str [102, 114, 101, 101, 32]) v81 fun v82 =>
  some (v82, h13))) (
  kF 2 v1 fun v64 =>
  kL I v64 h2 fun v65 =>
  kC call 30 [v65] h2 fun v66 h14 =>
  kB .add v66 (.str [46]) fun v67 =>
  kF 4 v1 fun v68 =>
  kL I v68 h14 fun v69 =>
  kC call 28 [v69] h14 fun v70 h15 =>
  kB .add v67 v70 fun v71 =>
  kB .add v71 (.str [32, 61, 32]) fun v72 =>
  kF 3 v1 fun v73 =>
  kL I v73 h15 fun v74 =>
  kC call 30 [v74] h15 fun v75 h16 =>
  kB .add v72 v75 fun v76 =>
  sCheck (sSame (lift (pLoad1 I v68 h2) h2) v69 && true) (
  sCheck (sSame (lift (pLoad1 I v73 h2) h2) v74 && (sSame (lift (pLoad1 I v73 h14) h14) v74 && true)) (
  some (v76, h16))))) (
  kF 2 v1 fun v53 =>
  kL I v53 h2 fun v54 =>
  kC call 30 [v54] h2 fun v55 h17 =>
  kB .add v7 v55 fun v56 =>
  kB .add v56 (.str [46]) fun v57 =>
  kF 4 v1 fun v58 =>
  kL I v58 h17 fun v59 =>
  kC call 28 [v59] h17 fun v60 h18 =>
  kB .add v57 v60 fun v61 =>
  sCheck (sSame (lift (pLoad1 I v58 h2) h2) v59 && true) (
  some (v61, h18)))) (
  kF 2 v1 fun v46 =>
  kL I v46 h2 fun v47 =>
  kC call 30 [v47] h2 fun v48 h19 =>
  kB .add v7 v48 fun v49 =>
  some (v49, h19))) (
  kB .add v7 (.str [110, 101, 119]) fun v42 =>
  some (v42, h2))) (
  kB .add v7 (.str [110, 105, 108]) fun v38 =>
  some (v38, h2))) (
  kB .add v7 (.str [115, 111, 117, 114, 99, 101]) fun v34 =>
  some (v34, h2))) (
  kB .add v7 (.str [97, 100, 100, 32]) fun v21 =>
  kF 2 v1 fun v22 =>
  kL I v22 h2 fun v23 =>
  kC call 30 [v23] h2 fun v24 h20 =>
  kB .add v21 v24 fun v25 =>
  kB .add v25 (.str [32]) fun v26 =>
  kF 3 v1 fun v27 =>
  kL I v27 h20 fun v28 =>
  kC call 30 [v28] h20 fun v29 h21 =>
  kB .add v26 v29 fun v30 =>
  sCheck (sSame (lift (pLoad1 I v27 h2) h2) v28 && true) (
  some (v30, h21)))) (
  kB .add v7 (.str [99, 111, 110, 115, 116, 32]) fun v13 =>
  kF 4 v1 fun v14 =>
  kL I v14 h2 fun v15 =>
  kC call 28 [v15] h2 fun v16 h22 =>
  kB .add v13 v16 fun v17 =>
  some (v17, h22))
def f29.J (I : Inp) (call : CallFn) (n : Nat) : f29.Js :=
  Nat.rec (motive := fun _ => f29.Js) Zr.z (fun _ j => f29.b0 I call j) n
theorem f29.n0 : (f29.J I call (n + 1)) = f29.b0 I call (f29.J I call n) := nrfl
def f29.JS (I : Inp) (call : CallFn) (n : Nat) : Jmp := (fun j : f29.Js => jmp [Ap.ap j []]) (f29.J I call n)
theorem f29.S : SFn ⟨P, I, F⟩ call c29 (f29.JS I call) := .all 1 (by kernel_rfl) (fun ρ h => by kernel_rfl) (fun n ρ h => by kernel_rfl)
theorem f29.qe : Ap.all (f29.e I call (f29.J I call n)) (fun l h => execC P I call (f29.JS I call n) c29.body 0 (finV I c29.results) (argV l) h) := fun v0 h => by kernel_rfl
theorem f29.code : codeOf P 29 = some c29 := by kernel_rfl
def f29.run (I : Inp) : SF := fun call n => Ap.ar (f29.e I call (f29.J I call n))
theorem f29.ok (I : Inp) (F : Nat → Option AFn) (hF : F 29 = some (.code c29)) : SfOk P I F 29 (f29.run I) := okOf hF (by kernel_rfl) (fun _ => f29.S) fun call n => f29.qe
theorem f29.lim (hp : prims 29 = none) {v0 : AVal} (hr : Res (f29.e I (AM.lim ⟨P, I, genF P prims⟩) (f29.J I (AM.lim ⟨P, I, genF P prims⟩) n) v0 h) Q) : Res ((AM.lim ⟨P, I, genF P prims⟩) 29 [v0] h) Q := limOf (n := n) hp f29.code (f29.ok I) hr rfl
/-! haruspex/haruspexref8.r -/
def c30 : AFunc := cOf P 30
abbrev f30.Js : Type := Unit
def f30.e (I : Inp) (call : CallFn) (j : f30.Js) (v0 : AVal) (h : AHeap) : Rs :=
  kC call 28 [v0] h fun v4 h1 =>
  kB .add (.str [114]) v4 fun v5 =>
  some (v5, h1)
theorem f30.S : SFn ⟨P, I, F⟩ call c30 (fun _ => jmp []) := .all 0 (by kernel_rfl) (fun ρ h => by kernel_rfl) (fun n ρ h => by kernel_rfl)
theorem f30.qe : Ap.all (f30.e I call ()) (fun l h => execC P I call (jmp []) c30.body 0 (finV I c30.results) (argV l) h) := fun v0 h => by kernel_rfl
theorem f30.code : codeOf P 30 = some c30 := by kernel_rfl
def f30.run (I : Inp) : SF := fun call n => Ap.ar (f30.e I call ())
theorem f30.ok (I : Inp) (F : Nat → Option AFn) (hF : F 30 = some (.code c30)) : SfOk P I F 30 (f30.run I) := okOf hF (by kernel_rfl) (fun _ => f30.S) fun call n => f30.qe
theorem f30.lim (hp : prims 30 = none) {n : Nat} {v0 : AVal} (hr : Res (f30.e I (AM.lim ⟨P, I, genF P prims⟩) () v0 h) Q) : Res ((AM.lim ⟨P, I, genF P prims⟩) 30 [v0] h) Q := limOf (n := n) hp f30.code (f30.ok I) hr rfl
/-! haruspex/refuse.New -/
def c32 : AFunc := cOf P 32
abbrev f32.Js : Type := Unit
def f32.e (I : Inp) (call : CallFn) (j : f32.Js) (v0 v1 v2 : AVal) (h : AHeap) : Rs :=
  bnd (sBox v1 h) fun v4 h1 =>
  kM I 3 v4 h1 fun v8 =>
  bndP (pBuild [(Z 0), (Z 0), (Z 0), (Z 0), .nili] [(0, 1, v0), (1, 3, v8), (4, 1, v2)]) fun v10 =>
  bnd (sBox v10 h1) fun v11 h2 =>
  some ((.iface 69 v11), h2)
theorem f32.S : SFn ⟨P, I, F⟩ call c32 (fun _ => jmp []) := .all 0 (by kernel_rfl) (fun ρ h => by kernel_rfl) (fun n ρ h => by kernel_rfl)
theorem f32.qe : Ap.all (f32.e I call ()) (fun l h => execC P I call (jmp []) c32.body 0 (finV I c32.results) (argV l) h) := fun v0 v1 v2 h => by kernel_rfl
theorem f32.code : codeOf P 32 = some c32 := by kernel_rfl
def f32.run (I : Inp) : SF := fun call n => Ap.ar (f32.e I call ())
theorem f32.ok (I : Inp) (F : Nat → Option AFn) (hF : F 32 = some (.code c32)) : SfOk P I F 32 (f32.run I) := okOf hF (by kernel_rfl) (fun _ => f32.S) fun call n => f32.qe
theorem f32.lim (hp : prims 32 = none) {n : Nat} {v0 v1 v2 : AVal} (hr : Res (f32.e I (AM.lim ⟨P, I, genF P prims⟩) () v0 v1 v2 h) Q) : Res ((AM.lim ⟨P, I, genF P prims⟩) 32 [v0, v1, v2] h) Q := limOf (n := n) hp f32.code (f32.ok I) hr rfl
/-! haruspex/refuse.None -/
def c33 : AFunc := cOf P 33
abbrev f33.Js : Type := Unit
def f33.e (I : Inp) (call : CallFn) (j : f33.Js) (h : AHeap) : Rs :=
  kA [(Z 0), (Z 0), (Z 0)] h fun v0 h1 =>
  bndP (pBuild [(Z 0), (Z 0), (Z 0)] [(0, 1, (.int .i64 (.negSucc 0)))]) fun v1 =>
  kS 3 v0 v1 h1 fun _ h2 =>
  sRet (sCons (sResN I 3 v0 h2) (some [])) h2
theorem f33.S : SFn ⟨P, I, F⟩ call c33 (fun _ => jmp []) := .all 0 (by kernel_rfl) (fun ρ h => by kernel_rfl) (fun n ρ h => by kernel_rfl)
theorem f33.qe : Ap.all (f33.e I call ()) (fun l h => execC P I call (jmp []) c33.body 0 (finV I c33.results) (argV l) h) := fun h => by kernel_rfl
theorem f33.code : codeOf P 33 = some c33 := by kernel_rfl
def f33.run (I : Inp) : SF := fun call n => Ap.ar (f33.e I call ())
theorem f33.ok (I : Inp) (F : Nat → Option AFn) (hF : F 33 = some (.code c33)) : SfOk P I F 33 (f33.run I) := okOf hF (by kernel_rfl) (fun _ => f33.S) fun call n => f33.qe
theorem f33.lim (hp : prims 33 = none) {n : Nat} (hr : Res (f33.e I (AM.lim ⟨P, I, genF P prims⟩) () h) Q) : Res ((AM.lim ⟨P, I, genF P prims⟩) 33 [] h) Q := limOf (n := n) hp f33.code (f33.ok I) hr rfl
/-! (*haruspex/code.writer).num -/
def c34 : AFunc := cOf P 34
abbrev f34.Js : Type := ((A2 × A2) × (A2 × A2))
def f34.b0 (I : Inp) (call : CallFn) (j : f34.Js) (v0 v4 : AVal) (h : AHeap) : Rs :=
  j.2.1 v0 v4 h
def f34.b1 (I : Inp) (call : CallFn) (j : f34.Js) (v0 v4 : AVal) (h : AHeap) : Rs :=
  kN v0 fun v30 =>
  kF 0 v30 fun v31 =>
  kL I v31 h fun v32 =>
  bndP (pToInt .u8 v4) fun v34 =>
  bnd (sBuildSlice [(.int .u8 (.ofNat 0))] 1 [(0, 1, v34)] h) fun v35 h1 =>
  bnd (sAppend I 1 1 v32 v35 h1) fun v36 h2 =>
  kN v0 fun v37 =>
  kF 0 v37 fun v38 =>
  kS 1 v38 v36 h2 fun _ h3 =>
  some (.tuple [], h3)
def f34.b2 (I : Inp) (call : CallFn) (j : f34.Js) (v0 v4 : AVal) (h : AHeap) : Rs :=
  kB .gtr v4 (.int .u64 (.ofNat 127)) fun v13 =>
  sCond v13 (
  j.1.2 v0 v4 h) (
  j.2.2 v0 v4 h)
def f34.b3 (I : Inp) (call : CallFn) (j : f34.Js) (v0 v4 : AVal) (h : AHeap) : Rs :=
  kN v0 fun v16 =>
  kF 0 v16 fun v17 =>
  kL I v17 h fun v18 =>
  bndP (pToInt .u8 v4) fun v20 =>
  kB .or v20 (.int .u8 (.ofNat 128)) fun v21 =>
  bnd (sBuildSlice [(.int .u8 (.ofNat 0))] 1 [(0, 1, v21)] h) fun v22 h1 =>
  bnd (sAppend I 1 1 v18 v22 h1) fun v23 h2 =>
  kN v0 fun v24 =>
  kF 0 v24 fun v25 =>
  kS 1 v25 v23 h2 fun _ h3 =>
  kB .shr v4 (.int .u64 (.ofNat 7)) fun v27 =>
  j.2.1 v0 v27 h3
def f34.e (I : Inp) (call : CallFn) (j : f34.Js) (v0 v1 : AVal) (h : AHeap) : Rs :=
  bndP (pToInt .u64 v1) fun v6 =>
  kB .shl v6 (.int .u64 (.ofNat 1)) fun v7 =>
  kB .lss v1 (Z 0) fun v9 =>
  sCond v9 (
  j.1.1 v0 v7 h) (
  kU .xor v7 fun v11 =>
  j.1.1 v0 v11 h)
def f34.J (I : Inp) (call : CallFn) (n : Nat) : f34.Js :=
  Nat.rec (motive := fun _ => f34.Js) ((Zr.z, Zr.z), (Zr.z, Zr.z)) (fun _ j => ((f34.b0 I call j, f34.b1 I call j), (f34.b2 I call j, f34.b3 I call j))) n
theorem f34.n0 : (f34.J I call (n + 1)).1.1 = f34.b0 I call (f34.J I call n) := nrfl
theorem f34.n1 : (f34.J I call (n + 1)).1.2 = f34.b1 I call (f34.J I call n) := nrfl
theorem f34.n2 : (f34.J I call (n + 1)).2.1 = f34.b2 I call (f34.J I call n) := nrfl
theorem f34.n3 : (f34.J I call (n + 1)).2.2 = f34.b3 I call (f34.J I call n) := nrfl
def f34.JS (I : Inp) (call : CallFn) (n : Nat) : Jmp := (fun j : f34.Js => jmp [Ap.ap j.1.1 [0, 4], Ap.ap j.1.2 [0, 4], Ap.ap j.2.1 [0, 4], Ap.ap j.2.2 [0, 4]]) (f34.J I call n)
theorem f34.S : SFn ⟨P, I, F⟩ call c34 (f34.JS I call) := .all 4 (by kernel_rfl) (fun ρ h => by kernel_rfl) (fun n ρ h => by kernel_rfl)
theorem f34.qe : Ap.all (f34.e I call (f34.J I call n)) (fun l h => execC P I call (f34.JS I call n) c34.body 0 (finV I c34.results) (argV l) h) := fun v0 v1 h => by kernel_rfl
theorem f34.code : codeOf P 34 = some c34 := by kernel_rfl
def f34.run (I : Inp) : SF := fun call n => Ap.ar (f34.e I call (f34.J I call n))
theorem f34.ok (I : Inp) (F : Nat → Option AFn) (hF : F 34 = some (.code c34)) : SfOk P I F 34 (f34.run I) := okOf hF (by kernel_rfl) (fun _ => f34.S) fun call n => f34.qe
theorem f34.lim (hp : prims 34 = none) {v0 v1 : AVal} (hr : Res (f34.e I (AM.lim ⟨P, I, genF P prims⟩) (f34.J I (AM.lim ⟨P, I, genF P prims⟩) n) v0 v1 h) Q) : Res ((AM.lim ⟨P, I, genF P prims⟩) 34 [v0, v1] h) Q := limOf (n := n) hp f34.code (f34.ok I) hr rfl
/-! (*haruspex/code.writer).types -/
def c35 : AFunc := cOf P 35
abbrev f35.Js : Type := (A4 × (A4 × A4))
def f35.b0 (I : Inp) (call : CallFn) (j : f35.Js) (v0 v10 v11 v12 : AVal) (h : AHeap) : Rs :=
  kB .lss v12 v11 fun v13 =>
  sCond v13 (
  some (.tuple [], h)) (
  j.2.1 v0 v10 v11 v12 h)
def f35.b1 (I : Inp) (call : CallFn) (j : f35.Js) (v0 v10 v11 v12 : AVal) (h : AHeap) : Rs :=
  kI 2 v10 v12 fun v14 =>
  kM I 2 v14 h fun v15 =>
  kA [(Z 0), (Z 0)] h fun v5 h1 =>
  kS 2 v5 v15 h1 fun _ h2 =>
  kF 0 v5 fun v17 =>
  kL I v17 h2 fun v18 =>
  kC call 34 [v0, v18] h2 fun v19 h3 =>
  kF 1 v5 fun v21 =>
  kL I v21 h3 fun v22 =>
  kC call 34 [v0, v22] h3 fun v23 h4 =>
  j.2.2 v0 v10 v11 v12 h4
def f35.b2 (I : Inp) (call : CallFn) (j : f35.Js) (v0 v10 v11 v12 : AVal) (h : AHeap) : Rs :=
  kB .add v12 (Z 1) fun v24 =>
  j.1 v0 v10 v11 v24 h
def f35.e (I : Inp) (call : CallFn) (j : f35.Js) (v0 v1 : AVal) (h : AHeap) : Rs :=
  kZ v1 fun v8 =>
  kC call 34 [v0, v8] h fun v9 h1 =>
  kZ v1 fun v11 =>
  j.1 v0 v1 v11 (Z 0) h1
def f35.J (I : Inp) (call : CallFn) (n : Nat) : f35.Js :=
  Nat.rec (motive := fun _ => f35.Js) (Zr.z, (Zr.z, Zr.z)) (fun _ j => (f35.b0 I call j, (f35.b1 I call j, f35.b2 I call j))) n
theorem f35.n0 : (f35.J I call (n + 1)).1 = f35.b0 I call (f35.J I call n) := nrfl
theorem f35.n1 : (f35.J I call (n + 1)).2.1 = f35.b1 I call (f35.J I call n) := nrfl
theorem f35.n2 : (f35.J I call (n + 1)).2.2 = f35.b2 I call (f35.J I call n) := nrfl
def f35.JS (I : Inp) (call : CallFn) (n : Nat) : Jmp := (fun j : f35.Js => jmp [Ap.ap j.1 [0, 10, 11, 12], Ap.ap j.2.1 [0, 10, 11, 12], Ap.ap j.2.2 [0, 10, 11, 12]]) (f35.J I call n)
theorem f35.S : SFn ⟨P, I, F⟩ call c35 (f35.JS I call) := .all 3 (by kernel_rfl) (fun ρ h => by kernel_rfl) (fun n ρ h => by kernel_rfl)
theorem f35.qe : Ap.all (f35.e I call (f35.J I call n)) (fun l h => execC P I call (f35.JS I call n) c35.body 0 (finV I c35.results) (argV l) h) := fun v0 v1 h => by kernel_rfl
theorem f35.code : codeOf P 35 = some c35 := by kernel_rfl
def f35.run (I : Inp) : SF := fun call n => Ap.ar (f35.e I call (f35.J I call n))
theorem f35.ok (I : Inp) (F : Nat → Option AFn) (hF : F 35 = some (.code c35)) : SfOk P I F 35 (f35.run I) := okOf hF (by kernel_rfl) (fun _ => f35.S) fun call n => f35.qe
theorem f35.lim (hp : prims 35 = none) {v0 v1 : AVal} (hr : Res (f35.e I (AM.lim ⟨P, I, genF P prims⟩) (f35.J I (AM.lim ⟨P, I, genF P prims⟩) n) v0 v1 h) Q) : Res ((AM.lim ⟨P, I, genF P prims⟩) 35 [v0, v1] h) Q := limOf (n := n) hp f35.code (f35.ok I) hr rfl
/-! (*haruspex/code.writer).nums -/
def c36 : AFunc := cOf P 36
abbrev f36.Js : Type := (A4 × (A4 × A4))
def f36.b0 (I : Inp) (call : CallFn) (j : f36.Js) (v0 v10 v11 v12 : AVal) (h : AHeap) : Rs :=
  kB .lss v12 v11 fun v13 =>
  sCond v13 (
  some (.tuple [], h)) (
  j.2.1 v0 v10 v11 v12 h)
def f36.b1 (I : Inp) (call : CallFn) (j : f36.Js) (v0 v10 v11 v12 : AVal) (h : AHeap) : Rs :=
  kI 1 v10 v12 fun v14 =>
  kL I v14 h fun v15 =>
  kC call 34 [v0, v15] h fun v18 h1 =>
  j.2.2 v0 v10 v11 v12 h1
def f36.b2 (I : Inp) (call : CallFn) (j : f36.Js) (v0 v10 v11 v12 : AVal) (h : AHeap) : Rs :=
  kB .add v12 (Z 1) fun v19 =>
  j.1 v0 v10 v11 v19 h
def f36.e (I : Inp) (call : CallFn) (j : f36.Js) (v0 v1 : AVal) (h : AHeap) : Rs :=
  kZ v1 fun v8 =>
  kC call 34 [v0, v8] h fun v9 h1 =>
  kZ v1 fun v11 =>
  j.1 v0 v1 v11 (Z 0) h1
def f36.J (I : Inp) (call : CallFn) (n : Nat) : f36.Js :=
  Nat.rec (motive := fun _ => f36.Js) (Zr.z, (Zr.z, Zr.z)) (fun _ j => (f36.b0 I call j, (f36.b1 I call j, f36.b2 I call j))) n
theorem f36.n0 : (f36.J I call (n + 1)).1 = f36.b0 I call (f36.J I call n) := nrfl
theorem f36.n1 : (f36.J I call (n + 1)).2.1 = f36.b1 I call (f36.J I call n) := nrfl
theorem f36.n2 : (f36.J I call (n + 1)).2.2 = f36.b2 I call (f36.J I call n) := nrfl
def f36.JS (I : Inp) (call : CallFn) (n : Nat) : Jmp := (fun j : f36.Js => jmp [Ap.ap j.1 [0, 10, 11, 12], Ap.ap j.2.1 [0, 10, 11, 12], Ap.ap j.2.2 [0, 10, 11, 12]]) (f36.J I call n)
theorem f36.S : SFn ⟨P, I, F⟩ call c36 (f36.JS I call) := .all 3 (by kernel_rfl) (fun ρ h => by kernel_rfl) (fun n ρ h => by kernel_rfl)
theorem f36.qe : Ap.all (f36.e I call (f36.J I call n)) (fun l h => execC P I call (f36.JS I call n) c36.body 0 (finV I c36.results) (argV l) h) := fun v0 v1 h => by kernel_rfl
theorem f36.code : codeOf P 36 = some c36 := by kernel_rfl
def f36.run (I : Inp) : SF := fun call n => Ap.ar (f36.e I call (f36.J I call n))
theorem f36.ok (I : Inp) (F : Nat → Option AFn) (hF : F 36 = some (.code c36)) : SfOk P I F 36 (f36.run I) := okOf hF (by kernel_rfl) (fun _ => f36.S) fun call n => f36.qe
theorem f36.lim (hp : prims 36 = none) {v0 v1 : AVal} (hr : Res (f36.e I (AM.lim ⟨P, I, genF P prims⟩) (f36.J I (AM.lim ⟨P, I, genF P prims⟩) n) v0 v1 h) Q) : Res ((AM.lim ⟨P, I, genF P prims⟩) 36 [v0, v1] h) Q := limOf (n := n) hp f36.code (f36.ok I) hr rfl
/-! (*haruspex/code.writer).fn -/
def c37 : AFunc := cOf P 37
abbrev f37.Js : Type := (((A4 × (A4 × A4)) × ((A5 × A8) × (A8 × A8))) × ((A9 × ((AVal → AVal → AVal → A9) × (AVal → AVal → AVal → A9))) × (((AVal → AVal → AVal → A9) × A7) × (A7 × A7))))
def f37.b0 (I : Inp) (call : CallFn) (j : f37.Js) (v0 v26 v27 v28 : AVal) (h : AHeap) : Rs :=
  kB .lss v28 v27 fun v29 =>
  sCond v29 (
  some (.tuple [], h)) (
  j.1.1.2.1 v0 v26 v27 v28 h)
def f37.b1 (I : Inp) (call : CallFn) (j : f37.Js) (v0 v26 v27 v28 : AVal) (h : AHeap) : Rs :=
  kI 5 v26 v28 fun v30 =>
  kM I 5 v30 h fun v31 =>
  kA [.nils, (Z 0), (Z 0), (Z 0), (Z 0)] h fun v5 h1 =>
  kS 5 v5 v31 h1 fun _ h2 =>
  kF 0 v5 fun v33 =>
  kL I v33 h2 fun v34 =>
  kZ v34 fun v35 =>
  kC call 34 [v0, v35] h2 fun v36 h3 =>
  kF 0 v5 fun v37 =>
  kL I v37 h3 fun v38 =>
  kZ v38 fun v39 =>
  j.1.2.1.2 v0 v5 v26 v27 v28 v38 v39 (Z 0) h3
def f37.b2 (I : Inp) (call : CallFn) (j : f37.Js) (v0 v26 v27 v28 : AVal) (h : AHeap) : Rs :=
  kB .add v28 (Z 1) fun v87 =>
  j.1.1.1 v0 v26 v27 v87 h
def f37.b3 (I : Inp) (call : CallFn) (j : f37.Js) (v0 v5 v26 v27 v28 : AVal) (h : AHeap) : Rs :=
  kF 1 v5 fun v69 =>
  kL I v69 h fun v70 =>
  kF 2 v5 fun v71 =>
  kL I v71 h fun v72 =>
  kF 3 v5 fun v73 =>
  kL I v73 h fun v74 =>
  kF 4 v5 fun v75 =>
  kL I v75 h fun v76 =>
  bnd (sBuildSlice [(Z 0)] 4 [(0, 1, v70), (1, 1, v72), (2, 1, v74), (3, 1, v76)] h) fun v77 h1 =>
  kZ v77 fun v78 =>
  j.2.2.1.2 v0 v26 v27 v28 v77 v78 (Z 0) h1
def f37.b4 (I : Inp) (call : CallFn) (j : f37.Js) (v0 v5 v26 v27 v28 v38 v39 v40 : AVal) (h : AHeap) : Rs :=
  kB .lss v40 v39 fun v41 =>
  sCond v41 (
  j.1.2.1.1 v0 v5 v26 v27 v28 h) (
  j.1.2.2.1 v0 v5 v26 v27 v28 v38 v39 v40 h)
def f37.b5 (I : Inp) (call : CallFn) (j : f37.Js) (v0 v5 v26 v27 v28 v38 v39 v40 : AVal) (h : AHeap) : Rs :=
  kI 6 v38 v40 fun v42 =>
  kM I 6 v42 h fun v43 =>
  kA [(Z 0), (Z 0), (Z 0), (Z 0), (Z 0), .nils] h fun v7 h1 =>
  kS 6 v7 v43 h1 fun _ h2 =>
  kF 0 v7 fun v44 =>
  kL I v44 h2 fun v45 =>
  kF 1 v7 fun v46 =>
  kL I v46 h2 fun v47 =>
  kF 2 v7 fun v48 =>
  kL I v48 h2 fun v49 =>
  kF 3 v7 fun v50 =>
  kL I v50 h2 fun v51 =>
  kF 4 v7 fun v52 =>
  kL I v52 h2 fun v53 =>
  bnd (sBuildSlice [(Z 0)] 5 [(0, 1, v45), (1, 1, v47), (2, 1, v49), (3, 1, v51), (4, 1, v53)] h2) fun v54 h3 =>
  kZ v54 fun v55 =>
  j.2.1.2.1 v0 v5 v7 v26 v27 v28 v38 v39 v40 v54 v55 (Z 0) h3
def f37.b6 (I : Inp) (call : CallFn) (j : f37.Js) (v0 v5 v26 v27 v28 v38 v39 v40 : AVal) (h : AHeap) : Rs :=
  kB .add v40 (Z 1) fun v68 =>
  j.1.2.1.2 v0 v5 v26 v27 v28 v38 v39 v68 h
def f37.b7 (I : Inp) (call : CallFn) (j : f37.Js) (v0 v5 v7 v26 v27 v28 v38 v39 v40 : AVal) (h : AHeap) : Rs :=
  kF 5 v7 fun v65 =>
  kL I v65 h fun v66 =>
  kC call 36 [v0, v66] h fun v67 h1 =>
  j.1.2.2.2 v0 v5 v26 v27 v28 v38 v39 v40 h1
def f37.b8 (I : Inp) (call : CallFn) (j : f37.Js) (v0 v5 v7 v26 v27 v28 v38 v39 v40 v54 v55 v56 : AVal) (h : AHeap) : Rs :=
  kB .lss v56 v55 fun v57 =>
  sCond v57 (
  j.2.1.1 v0 v5 v7 v26 v27 v28 v38 v39 v40 h) (
  j.2.1.2.2 v0 v5 v7 v26 v27 v28 v38 v39 v40 v54 v55 v56 h)
def f37.b9 (I : Inp) (call : CallFn) (j : f37.Js) (v0 v5 v7 v26 v27 v28 v38 v39 v40 v54 v55 v56 : AVal) (h : AHeap) : Rs :=
  kI 1 v54 v56 fun v58 =>
  kL I v58 h fun v59 =>
  kC call 34 [v0, v59] h fun v62 h1 =>
  j.2.2.1.1 v0 v5 v7 v26 v27 v28 v38 v39 v40 v54 v55 v56 h1
def f37.b10 (I : Inp) (call : CallFn) (j : f37.Js) (v0 v5 v7 v26 v27 v28 v38 v39 v40 v54 v55 v56 : AVal) (h : AHeap) : Rs :=
  kB .add v56 (Z 1) fun v63 =>
  j.2.1.2.1 v0 v5 v7 v26 v27 v28 v38 v39 v40 v54 v55 v63 h
def f37.b11 (I : Inp) (call : CallFn) (j : f37.Js) (v0 v26 v27 v28 v77 v78 v79 : AVal) (h : AHeap) : Rs :=
  kB .lss v79 v78 fun v80 =>
  sCond v80 (
  j.1.1.2.2 v0 v26 v27 v28 h) (
  j.2.2.2.1 v0 v26 v27 v28 v77 v78 v79 h)
def f37.b12 (I : Inp) (call : CallFn) (j : f37.Js) (v0 v26 v27 v28 v77 v78 v79 : AVal) (h : AHeap) : Rs :=
  kI 1 v77 v79 fun v81 =>
  kL I v81 h fun v82 =>
  kC call 34 [v0, v82] h fun v85 h1 =>
  j.2.2.2.2 v0 v26 v27 v28 v77 v78 v79 h1
def f37.b13 (I : Inp) (call : CallFn) (j : f37.Js) (v0 v26 v27 v28 v77 v78 v79 : AVal) (h : AHeap) : Rs :=
  kB .add v79 (Z 1) fun v86 =>
  j.2.2.1.2 v0 v26 v27 v28 v77 v78 v86 h
def f37.e (I : Inp) (call : CallFn) (j : f37.Js) (v0 v1 : AVal) (h : AHeap) : Rs :=
  bnd (sBox v1 h) fun v3 h1 =>
  kF 0 v3 fun v13 =>
  kL I v13 h1 fun v14 =>
  kC call 34 [v0, v14] h1 fun v15 h2 =>
  kF 1 v3 fun v17 =>
  kL I v17 h2 fun v18 =>
  kC call 35 [v0, v18] h2 fun v19 h3 =>
  kF 2 v3 fun v21 =>
  kL I v21 h3 fun v22 =>
  kZ v22 fun v23 =>
  kC call 34 [v0, v23] h3 fun v24 h4 =>
  kF 2 v3 fun v25 =>
  kL I v25 h4 fun v26 =>
  kZ v26 fun v27 =>
  j.1.1.1 v0 v26 v27 (Z 0) h4
def f37.J (I : Inp) (call : CallFn) (n : Nat) : f37.Js :=
  Nat.rec (motive := fun _ => f37.Js) (((Zr.z, (Zr.z, Zr.z)), ((Zr.z, Zr.z), (Zr.z, Zr.z))), ((Zr.z, (Zr.z, Zr.z)), ((Zr.z, Zr.z), (Zr.z, Zr.z)))) (fun _ j => (((f37.b0 I call j, (f37.b1 I call j, f37.b2 I call j)), ((f37.b3 I call j, f37.b4 I call j), (f37.b5 I call j, f37.b6 I call j))), ((f37.b7 I call j, (f37.b8 I call j, f37.b9 I call j)), ((f37.b10 I call j, f37.b11 I call j), (f37.b12 I call j, f37.b13 I call j))))) n
theorem f37.n0 : (f37.J I call (n + 1)).1.1.1 = f37.b0 I call (f37.J I call n) := nrfl
theorem f37.n1 : (f37.J I call (n + 1)).1.1.2.1 = f37.b1 I call (f37.J I call n) := nrfl
theorem f37.n2 : (f37.J I call (n + 1)).1.1.2.2 = f37.b2 I call (f37.J I call n) := nrfl
theorem f37.n3 : (f37.J I call (n + 1)).1.2.1.1 = f37.b3 I call (f37.J I call n) := nrfl
theorem f37.n4 : (f37.J I call (n + 1)).1.2.1.2 = f37.b4 I call (f37.J I call n) := nrfl
theorem f37.n5 : (f37.J I call (n + 1)).1.2.2.1 = f37.b5 I call (f37.J I call n) := nrfl
theorem f37.n6 : (f37.J I call (n + 1)).1.2.2.2 = f37.b6 I call (f37.J I call n) := nrfl
theorem f37.n7 : (f37.J I call (n + 1)).2.1.1 = f37.b7 I call (f37.J I call n) := nrfl
theorem f37.n8 : (f37.J I call (n + 1)).2.1.2.1 = f37.b8 I call (f37.J I call n) := nrfl
theorem f37.n9 : (f37.J I call (n + 1)).2.1.2.2 = f37.b9 I call (f37.J I call n) := nrfl
theorem f37.n10 : (f37.J I call (n + 1)).2.2.1.1 = f37.b10 I call (f37.J I call n) := nrfl
theorem f37.n11 : (f37.J I call (n + 1)).2.2.1.2 = f37.b11 I call (f37.J I call n) := nrfl
theorem f37.n12 : (f37.J I call (n + 1)).2.2.2.1 = f37.b12 I call (f37.J I call n) := nrfl
theorem f37.n13 : (f37.J I call (n + 1)).2.2.2.2 = f37.b13 I call (f37.J I call n) := nrfl
def f37.JS (I : Inp) (call : CallFn) (n : Nat) : Jmp := (fun j : f37.Js => jmp [Ap.ap j.1.1.1 [0, 26, 27, 28], Ap.ap j.1.1.2.1 [0, 26, 27, 28], Ap.ap j.1.1.2.2 [0, 26, 27, 28], Ap.ap j.1.2.1.1 [0, 5, 26, 27, 28], Ap.ap j.1.2.1.2 [0, 5, 26, 27, 28, 38, 39, 40], Ap.ap j.1.2.2.1 [0, 5, 26, 27, 28, 38, 39, 40], Ap.ap j.1.2.2.2 [0, 5, 26, 27, 28, 38, 39, 40], Ap.ap j.2.1.1 [0, 5, 7, 26, 27, 28, 38, 39, 40], Ap.ap j.2.1.2.1 [0, 5, 7, 26, 27, 28, 38, 39, 40, 54, 55, 56], Ap.ap j.2.1.2.2 [0, 5, 7, 26, 27, 28, 38, 39, 40, 54, 55, 56], Ap.ap j.2.2.1.1 [0, 5, 7, 26, 27, 28, 38, 39, 40, 54, 55, 56], Ap.ap j.2.2.1.2 [0, 26, 27, 28, 77, 78, 79], Ap.ap j.2.2.2.1 [0, 26, 27, 28, 77, 78, 79], Ap.ap j.2.2.2.2 [0, 26, 27, 28, 77, 78, 79]]) (f37.J I call n)
theorem f37.S : SFn ⟨P, I, F⟩ call c37 (f37.JS I call) := .all 14 (by kernel_rfl) (fun ρ h => by kernel_rfl) (fun n ρ h => by kernel_rfl)
theorem f37.qe : Ap.all (f37.e I call (f37.J I call n)) (fun l h => execC P I call (f37.JS I call n) c37.body 0 (finV I c37.results) (argV l) h) := fun v0 v1 h => by kernel_rfl
theorem f37.code : codeOf P 37 = some c37 := by kernel_rfl
def f37.run (I : Inp) : SF := fun call n => Ap.ar (f37.e I call (f37.J I call n))
theorem f37.ok (I : Inp) (F : Nat → Option AFn) (hF : F 37 = some (.code c37)) : SfOk P I F 37 (f37.run I) := okOf hF (by kernel_rfl) (fun _ => f37.S) fun call n => f37.qe
theorem f37.lim (hp : prims 37 = none) {v0 v1 : AVal} (hr : Res (f37.e I (AM.lim ⟨P, I, genF P prims⟩) (f37.J I (AM.lim ⟨P, I, genF P prims⟩) n) v0 v1 h) Q) : Res ((AM.lim ⟨P, I, genF P prims⟩) 37 [v0, v1] h) Q := limOf (n := n) hp f37.code (f37.ok I) hr rfl
/-! (*haruspex/code.reader).size -/
def c39 : AFunc := cOf P 39
abbrev f39.Js : Type := A1
def f39.b0 (I : Inp) (call : CallFn) (j : f39.Js) (v3 : AVal) (h : AHeap) : Rs :=
  some (v3, h)
def f39.e (I : Inp) (call : CallFn) (j : f39.Js) (v0 : AVal) (h : AHeap) : Rs :=
  kC call 43 [v0] h fun v5 h1 =>
  kB .lss v5 (Z 0) fun v7 =>
  gV v7 .false v5 h1 fun v9 h2 =>
  gV v7 .false v0 h2 fun v10 h3 =>
  gP v7 .false (pNilCheck v10) h3 fun v11 h4 =>
  gP v7 .false (pFieldAddr 0 v11) h4 fun v12 h5 =>
  gP v7 .false (pLoad1 I v12 h5) h5 fun v13 h6 =>
  gP v7 .false (pLenSl v13) h6 fun v14 h7 =>
  gP v7 .false (pBin .gtr v9 v14) h7 fun v15 h8 =>
  kP v7 bT v15 fun v16 =>
  sCond v16 (
  j v5 h8) (
  kN v0 fun v19 =>
  kF 0 v19 fun v20 =>
  kS 1 v20 .nils h8 fun _ h9 =>
  kN v0 fun v21 =>
  kF 1 v21 fun v22 =>
  kS 1 v22 bT h9 fun _ h10 =>
  some ((Z 0), h10))
def f39.J (I : Inp) (call : CallFn) (n : Nat) : f39.Js :=
  Nat.rec (motive := fun _ => f39.Js) Zr.z (fun _ j => f39.b0 I call j) n
theorem f39.n0 : (f39.J I call (n + 1)) = f39.b0 I call (f39.J I call n) := nrfl
def f39.JS (I : Inp) (call : CallFn) (n : Nat) : Jmp := (fun j : f39.Js => jmp [Ap.ap j [3]]) (f39.J I call n)
theorem f39.S : SFn ⟨P, I, F⟩ call c39 (f39.JS I call) := .all 1 (by kernel_rfl) (fun ρ h => by kernel_rfl) (fun n ρ h => by kernel_rfl)
theorem f39.qe : Ap.all (f39.e I call (f39.J I call n)) (fun l h => execC P I call (f39.JS I call n) c39.body 0 (finV I c39.results) (argV l) h) := fun v0 h => by kernel_rfl
theorem f39.code : codeOf P 39 = some c39 := by kernel_rfl
def f39.run (I : Inp) : SF := fun call n => Ap.ar (f39.e I call (f39.J I call n))
theorem f39.ok (I : Inp) (F : Nat → Option AFn) (hF : F 39 = some (.code c39)) : SfOk P I F 39 (f39.run I) := okOf hF (by kernel_rfl) (fun _ => f39.S) fun call n => f39.qe
theorem f39.lim (hp : prims 39 = none) {v0 : AVal} (hr : Res (f39.e I (AM.lim ⟨P, I, genF P prims⟩) (f39.J I (AM.lim ⟨P, I, genF P prims⟩) n) v0 h) Q) : Res ((AM.lim ⟨P, I, genF P prims⟩) 39 [v0] h) Q := limOf (n := n) hp f39.code (f39.ok I) hr rfl
/-! (*haruspex/code.reader).types -/
def c40 : AFunc := cOf P 40
abbrev f40.Js : Type := ((A1 × A3) × (A3 × A3))
def f40.b0 (I : Inp) (call : CallFn) (j : f40.Js) (v3 : AVal) (h : AHeap) : Rs :=
  some (v3, h)
def f40.b1 (I : Inp) (call : CallFn) (j : f40.Js) (v0 v3 v4 : AVal) (h : AHeap) : Rs :=
  kB .gtr v4 (Z 0) fun v8 =>
  gV v8 .true v0 h fun v10 h1 =>
  gP v8 .true (pNilCheck v10) h1 fun v11 h2 =>
  gP v8 .true (pFieldAddr 1 v11) h2 fun v12 h3 =>
  gP v8 .true (pLoad1 I v12 h3) h3 fun v13 h4 =>
  gP v8 .true (pUn .not v13) h4 fun v14 h5 =>
  kP v8 v14 bF fun v15 =>
  sCond v15 (
  j.1.1 v3 h5) (
  j.2.1 v0 v3 v4 h5)
def f40.b2 (I : Inp) (call : CallFn) (j : f40.Js) (v0 v3 v4 : AVal) (h : AHeap) : Rs :=
  kC call 41 [v0] h fun v20 h1 =>
  bnd (sBuildSlice [(Z 0), (Z 0)] 1 [(0, 2, v20)] h1) fun v21 h2 =>
  bnd (sAppend I 2 16 v3 v21 h2) fun v22 h3 =>
  j.2.2 v0 v22 v4 h3
def f40.b3 (I : Inp) (call : CallFn) (j : f40.Js) (v0 v3 v4 : AVal) (h : AHeap) : Rs :=
  kB .sub v4 (Z 1) fun v17 =>
  j.1.2 v0 v3 v17 h
def f40.e (I : Inp) (call : CallFn) (j : f40.Js) (v0 : AVal) (h : AHeap) : Rs :=
  kC call 39 [v0] h fun v6 h1 =>
  j.1.2 v0 .nils v6 h1
def f40.J (I : Inp) (call : CallFn) (n : Nat) : f40.Js :=
  Nat.rec (motive := fun _ => f40.Js) ((Zr.z, Zr.z), (Zr.z, Zr.z)) (fun _ j => ((f40.b0 I call j, f40.b1 I call j), (f40.b2 I call j, f40.b3 I call j))) n
theorem f40.n0 : (f40.J I call (n + 1)).1.1 = f40.b0 I call (f40.J I call n) := nrfl
theorem f40.n1 : (f40.J I call (n + 1)).1.2 = f40.b1 I call (f40.J I call n) := nrfl
theorem f40.n2 : (f40.J I call (n + 1)).2.1 = f40.b2 I call (f40.J I call n) := nrfl
theorem f40.n3 : (f40.J I call (n + 1)).2.2 = f40.b3 I call (f40.J I call n) := nrfl
def f40.JS (I : Inp) (call : CallFn) (n : Nat) : Jmp := (fun j : f40.Js => jmp [Ap.ap j.1.1 [3], Ap.ap j.1.2 [0, 3, 4], Ap.ap j.2.1 [0, 3, 4], Ap.ap j.2.2 [0, 3, 4]]) (f40.J I call n)
theorem f40.S : SFn ⟨P, I, F⟩ call c40 (f40.JS I call) := .all 4 (by kernel_rfl) (fun ρ h => by kernel_rfl) (fun n ρ h => by kernel_rfl)
theorem f40.qe : Ap.all (f40.e I call (f40.J I call n)) (fun l h => execC P I call (f40.JS I call n) c40.body 0 (finV I c40.results) (argV l) h) := fun v0 h => by kernel_rfl
theorem f40.code : codeOf P 40 = some c40 := by kernel_rfl
def f40.run (I : Inp) : SF := fun call n => Ap.ar (f40.e I call (f40.J I call n))
theorem f40.ok (I : Inp) (F : Nat → Option AFn) (hF : F 40 = some (.code c40)) : SfOk P I F 40 (f40.run I) := okOf hF (by kernel_rfl) (fun _ => f40.S) fun call n => f40.qe
theorem f40.lim (hp : prims 40 = none) {v0 : AVal} (hr : Res (f40.e I (AM.lim ⟨P, I, genF P prims⟩) (f40.J I (AM.lim ⟨P, I, genF P prims⟩) n) v0 h) Q) : Res ((AM.lim ⟨P, I, genF P prims⟩) 40 [v0] h) Q := limOf (n := n) hp f40.code (f40.ok I) hr rfl
/-! (*haruspex/code.reader).typ -/
def c41 : AFunc := cOf P 41
abbrev f41.Js : Type := Unit
def f41.e (I : Inp) (call : CallFn) (j : f41.Js) (v0 : AVal) (h : AHeap) : Rs :=
  kA [(Z 0), (Z 0)] h fun v2 h1 =>
  kC call 43 [v0] h1 fun v5 h2 =>
  kC call 43 [v0] h2 fun v8 h3 =>
  bndP (pBuild [(Z 0), (Z 0)] [(0, 1, v5), (1, 1, v8)]) fun v9 =>
  kS 2 v2 v9 h3 fun _ h4 =>
  sRet (sCons (sResN I 2 v2 h4) (some [])) h4
theorem f41.S : SFn ⟨P, I, F⟩ call c41 (fun _ => jmp []) := .all 0 (by kernel_rfl) (fun ρ h => by kernel_rfl) (fun n ρ h => by kernel_rfl)
theorem f41.qe : Ap.all (f41.e I call ()) (fun l h => execC P I call (jmp []) c41.body 0 (finV I c41.results) (argV l) h) := fun v0 h => by kernel_rfl
theorem f41.code : codeOf P 41 = some c41 := by kernel_rfl
def f41.run (I : Inp) : SF := fun call n => Ap.ar (f41.e I call ())
theorem f41.ok (I : Inp) (F : Nat → Option AFn) (hF : F 41 = some (.code c41)) : SfOk P I F 41 (f41.run I) := okOf hF (by kernel_rfl) (fun _ => f41.S) fun call n => f41.qe
theorem f41.lim (hp : prims 41 = none) {n : Nat} {v0 : AVal} (hr : Res (f41.e I (AM.lim ⟨P, I, genF P prims⟩) () v0 h) Q) : Res ((AM.lim ⟨P, I, genF P prims⟩) 41 [v0] h) Q := limOf (n := n) hp f41.code (f41.ok I) hr rfl
/-! (*haruspex/code.reader).nums -/
def c42 : AFunc := cOf P 42
abbrev f42.Js : Type := ((A1 × A3) × (A3 × A3))
def f42.b0 (I : Inp) (call : CallFn) (j : f42.Js) (v3 : AVal) (h : AHeap) : Rs :=
  some (v3, h)
def f42.b1 (I : Inp) (call : CallFn) (j : f42.Js) (v0 v3 v4 : AVal) (h : AHeap) : Rs :=
  kB .gtr v4 (Z 0) fun v8 =>
  gV v8 .true v0 h fun v10 h1 =>
  gP v8 .true (pNilCheck v10) h1 fun v11 h2 =>
  gP v8 .true (pFieldAddr 1 v11) h2 fun v12 h3 =>
  gP v8 .true (pLoad1 I v12 h3) h3 fun v13 h4 =>
  gP v8 .true (pUn .not v13) h4 fun v14 h5 =>
  kP v8 v14 bF fun v15 =>
  sCond v15 (
  j.1.1 v3 h5) (
  j.2.1 v0 v3 v4 h5)
def f42.b2 (I : Inp) (call : CallFn) (j : f42.Js) (v0 v3 v4 : AVal) (h : AHeap) : Rs :=
  kC call 43 [v0] h fun v20 h1 =>
  bnd (sBuildSlice [(Z 0)] 1 [(0, 1, v20)] h1) fun v21 h2 =>
  bnd (sAppend I 1 8 v3 v21 h2) fun v22 h3 =>
  j.2.2 v0 v22 v4 h3
def f42.b3 (I : Inp) (call : CallFn) (j : f42.Js) (v0 v3 v4 : AVal) (h : AHeap) : Rs :=
  kB .sub v4 (Z 1) fun v17 =>
  j.1.2 v0 v3 v17 h
def f42.e (I : Inp) (call : CallFn) (j : f42.Js) (v0 : AVal) (h : AHeap) : Rs :=
  kC call 39 [v0] h fun v6 h1 =>
  j.1.2 v0 .nils v6 h1
def f42.J (I : Inp) (call : CallFn) (n : Nat) : f42.Js :=
  Nat.rec (motive := fun _ => f42.Js) ((Zr.z, Zr.z), (Zr.z, Zr.z)) (fun _ j => ((f42.b0 I call j, f42.b1 I call j), (f42.b2 I call j, f42.b3 I call j))) n
theorem f42.n0 : (f42.J I call (n + 1)).1.1 = f42.b0 I call (f42.J I call n) := nrfl
theorem f42.n1 : (f42.J I call (n + 1)).1.2 = f42.b1 I call (f42.J I call n) := nrfl
theorem f42.n2 : (f42.J I call (n + 1)).2.1 = f42.b2 I call (f42.J I call n) := nrfl
theorem f42.n3 : (f42.J I call (n + 1)).2.2 = f42.b3 I call (f42.J I call n) := nrfl
def f42.JS (I : Inp) (call : CallFn) (n : Nat) : Jmp := (fun j : f42.Js => jmp [Ap.ap j.1.1 [3], Ap.ap j.1.2 [0, 3, 4], Ap.ap j.2.1 [0, 3, 4], Ap.ap j.2.2 [0, 3, 4]]) (f42.J I call n)
theorem f42.S : SFn ⟨P, I, F⟩ call c42 (f42.JS I call) := .all 4 (by kernel_rfl) (fun ρ h => by kernel_rfl) (fun n ρ h => by kernel_rfl)
theorem f42.qe : Ap.all (f42.e I call (f42.J I call n)) (fun l h => execC P I call (f42.JS I call n) c42.body 0 (finV I c42.results) (argV l) h) := fun v0 h => by kernel_rfl
theorem f42.code : codeOf P 42 = some c42 := by kernel_rfl
def f42.run (I : Inp) : SF := fun call n => Ap.ar (f42.e I call (f42.J I call n))
theorem f42.ok (I : Inp) (F : Nat → Option AFn) (hF : F 42 = some (.code c42)) : SfOk P I F 42 (f42.run I) := okOf hF (by kernel_rfl) (fun _ => f42.S) fun call n => f42.qe
theorem f42.lim (hp : prims 42 = none) {v0 : AVal} (hr : Res (f42.e I (AM.lim ⟨P, I, genF P prims⟩) (f42.J I (AM.lim ⟨P, I, genF P prims⟩) n) v0 h) Q) : Res ((AM.lim ⟨P, I, genF P prims⟩) 42 [v0] h) Q := limOf (n := n) hp f42.code (f42.ok I) hr rfl
/-! (*haruspex/code.reader).num -/
def c43 : AFunc := cOf P 43
abbrev f43.Js : Type := ((A1 × (A5 × A5)) × ((A5 × A4) × (A3 × A1)))
def f43.b0 (I : Inp) (call : CallFn) (j : f43.Js) (v0 : AVal) (h : AHeap) : Rs :=
  kN v0 fun v70 =>
  kF 0 v70 fun v71 =>
  kS 1 v71 .nils h fun _ h1 =>
  kN v0 fun v72 =>
  kF 1 v72 fun v73 =>
  kS 1 v73 bT h1 fun _ h2 =>
  some ((Z 0), h2)
def f43.b1 (I : Inp) (call : CallFn) (j : f43.Js) (v0 v3 v16 v17 v18 : AVal) (h : AHeap) : Rs :=
  kB .lss v18 v17 fun v19 =>
  sCond v19 (
  j.1.1 v0 h) (
  j.1.2.2 v0 v3 v16 v17 v18 h)
def f43.b2 (I : Inp) (call : CallFn) (j : f43.Js) (v0 v3 v16 v17 v18 : AVal) (h : AHeap) : Rs :=
  kI 1 v16 v18 fun v21 =>
  kL I v21 h fun v22 =>
  kB .and v22 (.int .u8 (.ofNat 127)) fun v25 =>
  bndP (pToInt .u64 v25) fun v26 =>
  kB .mul (Z 7) v18 fun v28 =>
  kB .shl v26 v28 fun v29 =>
  kB .or v3 v29 fun v30 =>
  kB .gtr v22 (.int .u8 (.ofNat 127)) fun v32 =>
  sCond v32 (
  j.2.1.2 v0 v30 v18 v22 h) (
  j.2.1.1 v0 v30 v16 v17 v18 h)
def f43.b3 (I : Inp) (call : CallFn) (j : f43.Js) (v0 v3 v16 v17 v18 : AVal) (h : AHeap) : Rs :=
  kB .add v18 (Z 1) fun v67 =>
  j.1.2.1 v0 v3 v16 v17 v67 h
def f43.b4 (I : Inp) (call : CallFn) (j : f43.Js) (v0 v3 v4 v5 : AVal) (h : AHeap) : Rs :=
  kB .gtr v4 (Z 0) fun v34 =>
  gV v34 .true v5 h fun v36 h1 =>
  gP v34 .true (pBin .eql v36 (.int .u8 (.ofNat 0))) h1 fun v37 h2 =>
  kP v34 v37 bF fun v38 =>
  gV v38 .false v4 h2 fun v40 h3 =>
  gP v38 .false (pBin .eql v40 (Z 9)) h3 fun v41 h4 =>
  gV v38 .false v41 h4 fun v42 h5 =>
  gV v42 .true v5 h5 fun v43 h6 =>
  gP v42 .true (pBin .gtr v43 (.int .u8 (.ofNat 1))) h6 fun v44 h7 =>
  gP v38 .false (pPick v42 v44 bF) h7 fun v45 h8 =>
  kP v38 bT v45 fun v46 =>
  sCond v46 (
  j.2.2.1 v0 v3 v4 h8) (
  j.1.1 v0 h8)
def f43.b5 (I : Inp) (call : CallFn) (j : f43.Js) (v0 v3 v4 : AVal) (h : AHeap) : Rs :=
  kN v0 fun v49 =>
  kF 0 v49 fun v50 =>
  kL I v50 h fun v51 =>
  kB .add v4 (Z 1) fun v53 =>
  bndP (pSliceS 1 v51 (some v53) none none) fun v54 =>
  kN v0 fun v55 =>
  kF 0 v55 fun v56 =>
  kS 1 v56 v54 h fun _ h1 =>
  kB .and v3 (.int .u64 (.ofNat 1)) fun v58 =>
  kB .eql v58 (.int .u64 (.ofNat 1)) fun v59 =>
  sCond v59 (
  j.2.2.2 v3 h1) (
  kB .shr v3 (.int .u64 (.ofNat 1)) fun v61 =>
  kU .xor v61 fun v62 =>
  bndP (pToInt .i64 v62) fun v63 =>
  some (v63, h1))
def f43.b6 (I : Inp) (call : CallFn) (j : f43.Js) (v3 : AVal) (h : AHeap) : Rs :=
  kB .shr v3 (.int .u64 (.ofNat 1)) fun v65 =>
  bndP (pToInt .i64 v65) fun v66 =>
  some (v66, h)
def f43.e (I : Inp) (call : CallFn) (j : f43.Js) (v0 : AVal) (h : AHeap) : Rs :=
  kN v0 fun v7 =>
  kF 0 v7 fun v8 =>
  kL I v8 h fun v9 =>
  kN v0 fun v11 =>
  kF 0 v11 fun v12 =>
  kL I v12 h fun v13 =>
  kZ v13 fun v14 =>
  bndP (pMinmax .false [v14, (Z 10)]) fun v15 =>
  bndP (pSliceS 1 v9 none (some v15) none) fun v16 =>
  kZ v16 fun v17 =>
  j.1.2.1 v0 (.int .u64 (.ofNat 0)) v16 v17 (Z 0) h
def f43.J (I : Inp) (call : CallFn) (n : Nat) : f43.Js :=
  Nat.rec (motive := fun _ => f43.Js) ((Zr.z, (Zr.z, Zr.z)), ((Zr.z, Zr.z), (Zr.z, Zr.z))) (fun _ j => ((f43.b0 I call j, (f43.b1 I call j, f43.b2 I call j)), ((f43.b3 I call j, f43.b4 I call j), (f43.b5 I call j, f43.b6 I call j)))) n
theorem f43.n0 : (f43.J I call (n + 1)).1.1 = f43.b0 I call (f43.J I call n) := nrfl
theorem f43.n1 : (f43.J I call (n + 1)).1.2.1 = f43.b1 I call (f43.J I call n) := nrfl
theorem f43.n2 : (f43.J I call (n + 1)).1.2.2 = f43.b2 I call (f43.J I call n) := nrfl
theorem f43.n3 : (f43.J I call (n + 1)).2.1.1 = f43.b3 I call (f43.J I call n) := nrfl
theorem f43.n4 : (f43.J I call (n + 1)).2.1.2 = f43.b4 I call (f43.J I call n) := nrfl
theorem f43.n5 : (f43.J I call (n + 1)).2.2.1 = f43.b5 I call (f43.J I call n) := nrfl
theorem f43.n6 : (f43.J I call (n + 1)).2.2.2 = f43.b6 I call (f43.J I call n) := nrfl
def f43.JS (I : Inp) (call : CallFn) (n : Nat) : Jmp := (fun j : f43.Js => jmp [Ap.ap j.1.1 [0], Ap.ap j.1.2.1 [0, 3, 16, 17, 18], Ap.ap j.1.2.2 [0, 3, 16, 17, 18], Ap.ap j.2.1.1 [0, 3, 16, 17, 18], Ap.ap j.2.1.2 [0, 3, 4, 5], Ap.ap j.2.2.1 [0, 3, 4], Ap.ap j.2.2.2 [3]]) (f43.J I call n)
theorem f43.S : SFn ⟨P, I, F⟩ call c43 (f43.JS I call) := .all 7 (by kernel_rfl) (fun ρ h => by kernel_rfl) (fun n ρ h => by kernel_rfl)
theorem f43.qe : Ap.all (f43.e I call (f43.J I call n)) (fun l h => execC P I call (f43.JS I call n) c43.body 0 (finV I c43.results) (argV l) h) := fun v0 h => by kernel_rfl
theorem f43.code : codeOf P 43 = some c43 := by kernel_rfl
def f43.run (I : Inp) : SF := fun call n => Ap.ar (f43.e I call (f43.J I call n))
theorem f43.ok (I : Inp) (F : Nat → Option AFn) (hF : F 43 = some (.code c43)) : SfOk P I F 43 (f43.run I) := okOf hF (by kernel_rfl) (fun _ => f43.S) fun call n => f43.qe
theorem f43.lim (hp : prims 43 = none) {v0 : AVal} (hr : Res (f43.e I (AM.lim ⟨P, I, genF P prims⟩) (f43.J I (AM.lim ⟨P, I, genF P prims⟩) n) v0 h) Q) : Res ((AM.lim ⟨P, I, genF P prims⟩) 43 [v0] h) Q := limOf (n := n) hp f43.code (f43.ok I) hr rfl
/-! (*haruspex/code.reader).fn -/
def c44 : AFunc := cOf P 44
abbrev f44.Js : Type := ((A2 × A4) × (A4 × A4))
def f44.b0 (I : Inp) (call : CallFn) (j : f44.Js) (v2 v3 : AVal) (h : AHeap) : Rs :=
  kM I 3 v3 h fun v31 =>
  kS 3 v2 v31 h fun _ h1 =>
  sRet (sCons (sResN I 3 v2 h1) (some [])) h1
def f44.b1 (I : Inp) (call : CallFn) (j : f44.Js) (v0 v2 v3 v4 : AVal) (h : AHeap) : Rs :=
  kB .gtr v4 (Z 0) fun v14 =>
  gV v14 .true v0 h fun v16 h1 =>
  gP v14 .true (pNilCheck v16) h1 fun v17 h2 =>
  gP v14 .true (pFieldAddr 1 v17) h2 fun v18 h3 =>
  gP v14 .true (pLoad1 I v18 h3) h3 fun v19 h4 =>
  gP v14 .true (pUn .not v19) h4 fun v20 h5 =>
  kP v14 v20 bF fun v21 =>
  sCond v21 (
  j.1.1 v2 v3 h5) (
  j.2.1 v0 v2 v3 v4 h5)
def f44.b2 (I : Inp) (call : CallFn) (j : f44.Js) (v0 v2 v3 v4 : AVal) (h : AHeap) : Rs :=
  kF 2 v3 fun v24 =>
  kL I v24 h fun v25 =>
  kC call 50 [v0] h fun v27 h1 =>
  bnd (sBuildSlice [.nils, (Z 0), (Z 0), (Z 0), (Z 0)] 1 [(0, 5, v27)] h1) fun v28 h2 =>
  bnd (sAppend I 5 56 v25 v28 h2) fun v29 h3 =>
  kF 2 v3 fun v30 =>
  kS 1 v30 v29 h3 fun _ h4 =>
  sCheck (sSame (lift (pLoad1 I v24 h1) h1) v25 && (sSame (lift (pLoad1 I v24 h2) h2) v25 && true)) (
  j.2.2 v0 v2 v3 v4 h4)
def f44.b3 (I : Inp) (call : CallFn) (j : f44.Js) (v0 v2 v3 v4 : AVal) (h : AHeap) : Rs :=
  kB .sub v4 (Z 1) fun v23 =>
  j.1.2 v0 v2 v3 v23 h
def f44.e (I : Inp) (call : CallFn) (j : f44.Js) (v0 : AVal) (h : AHeap) : Rs :=
  kA [(Z 0), .nils, .nils] h fun v2 h1 =>
  kC call 43 [v0] h1 fun v6 h2 =>
  bndP (pBuild [(Z 0), .nils, .nils] [(0, 1, v6)]) fun v7 =>
  kA [(Z 0), .nils, .nils] h2 fun v3 h3 =>
  kS 3 v3 v7 h3 fun _ h4 =>
  kC call 40 [v0] h4 fun v9 h5 =>
  kF 1 v3 fun v10 =>
  kS 1 v10 v9 h5 fun _ h6 =>
  kC call 39 [v0] h6 fun v12 h7 =>
  j.1.2 v0 v2 v3 v12 h7
def f44.J (I : Inp) (call : CallFn) (n : Nat) : f44.Js :=
  Nat.rec (motive := fun _ => f44.Js) ((Zr.z, Zr.z), (Zr.z, Zr.z)) (fun _ j => ((f44.b0 I call j, f44.b1 I call j), (f44.b2 I call j, f44.b3 I call j))) n
theorem f44.n0 : (f44.J I call (n + 1)).1.1 = f44.b0 I call (f44.J I call n) := nrfl
theorem f44.n1 : (f44.J I call (n + 1)).1.2 = f44.b1 I call (f44.J I call n) := nrfl
theorem f44.n2 : (f44.J I call (n + 1)).2.1 = f44.b2 I call (f44.J I call n) := nrfl
theorem f44.n3 : (f44.J I call (n + 1)).2.2 = f44.b3 I call (f44.J I call n) := nrfl
def f44.JS (I : Inp) (call : CallFn) (n : Nat) : Jmp := (fun j : f44.Js => jmp [Ap.ap j.1.1 [2, 3], Ap.ap j.1.2 [0, 2, 3, 4], Ap.ap j.2.1 [0, 2, 3, 4], Ap.ap j.2.2 [0, 2, 3, 4]]) (f44.J I call n)
theorem f44.S : SFn ⟨P, I, F⟩ call c44 (f44.JS I call) := .all 4 (by kernel_rfl) (fun ρ h => by kernel_rfl) (fun n ρ h => by kernel_rfl)
theorem f44.qe : Ap.all (f44.e I call (f44.J I call n)) (fun l h => execC P I call (f44.JS I call n) c44.body 0 (finV I c44.results) (argV l) h) := fun v0 h => by kernel_rfl
theorem f44.code : codeOf P 44 = some c44 := by kernel_rfl
def f44.run (I : Inp) : SF := fun call n => Ap.ar (f44.e I call (f44.J I call n))
theorem f44.ok (I : Inp) (F : Nat → Option AFn) (hF : F 44 = some (.code c44)) : SfOk P I F 44 (f44.run I) := okOf hF (by kernel_rfl) (fun _ => f44.S) fun call n => f44.qe
theorem f44.lim (hp : prims 44 = none) {v0 : AVal} (hr : Res (f44.e I (AM.lim ⟨P, I, genF P prims⟩) (f44.J I (AM.lim ⟨P, I, genF P prims⟩) n) v0 h) Q) : Res ((AM.lim ⟨P, I, genF P prims⟩) 44 [v0] h) Q := limOf (n := n) hp f44.code (f44.ok I) hr rfl
/-! haruspex/haruspexref8.args -/
def c45 : AFunc := cOf P 45
abbrev f45.Js : Type := ((A1 × A3) × (A3 × (A3 × A3)))
def f45.b0 (I : Inp) (call : CallFn) (j : f45.Js) (v3 : AVal) (h : AHeap) : Rs :=
  kB .add v3 (.str [41]) fun v23 =>
  some (v23, h)
def f45.b1 (I : Inp) (call : CallFn) (j : f45.Js) (v0 v3 v4 : AVal) (h : AHeap) : Rs :=
  kZ v0 fun v7 =>
  kB .lss v4 v7 fun v8 =>
  sCond v8 (
  j.1.1 v3 h) (
  j.2.1 v0 v3 v4 h)
def f45.b2 (I : Inp) (call : CallFn) (j : f45.Js) (v0 v3 v4 : AVal) (h : AHeap) : Rs :=
  kB .gtr v4 (Z 0) fun v12 =>
  sCond v12 (
  j.2.2.2 v0 v3 v4 h) (
  kB .add v3 (.str [44, 32]) fun v14 =>
  j.2.2.2 v0 v14 v4 h)
def f45.b3 (I : Inp) (call : CallFn) (j : f45.Js) (v0 v3 v4 : AVal) (h : AHeap) : Rs :=
  kB .add v4 (Z 1) fun v10 =>
  j.1.2 v0 v3 v10 h
def f45.b4 (I : Inp) (call : CallFn) (j : f45.Js) (v0 v3 v4 : AVal) (h : AHeap) : Rs :=
  kI 1 v0 v4 fun v18 =>
  kL I v18 h fun v19 =>
  kC call 30 [v19] h fun v20 h1 =>
  kB .add v3 v20 fun v21 =>
  j.2.2.1 v0 v21 v4 h1
def f45.e (I : Inp) (call : CallFn) (j : f45.Js) (v0 : AVal) (h : AHeap) : Rs :=
  j.1.2 v0 (.str [40]) (Z 0) h
def f45.J (I : Inp) (call : CallFn) (n : Nat) : f45.Js :=
  Nat.rec (motive := fun _ => f45.Js) ((Zr.z, Zr.z), (Zr.z, (Zr.z, Zr.z))) (fun _ j => ((f45.b0 I call j, f45.b1 I call j), (f45.b2 I call j, (f45.b3 I call j, f45.b4 I call j)))) n
theorem f45.n0 : (f45.J I call (n + 1)).1.1 = f45.b0 I call (f45.J I call n) := nrfl
theorem f45.n1 : (f45.J I call (n + 1)).1.2 = f45.b1 I call (f45.J I call n) := nrfl
theorem f45.n2 : (f45.J I call (n + 1)).2.1 = f45.b2 I call (f45.J I call n) := nrfl
theorem f45.n3 : (f45.J I call (n + 1)).2.2.1 = f45.b3 I call (f45.J I call n) := nrfl
theorem f45.n4 : (f45.J I call (n + 1)).2.2.2 = f45.b4 I call (f45.J I call n) := nrfl
def f45.JS (I : Inp) (call : CallFn) (n : Nat) : Jmp := (fun j : f45.Js => jmp [Ap.ap j.1.1 [3], Ap.ap j.1.2 [0, 3, 4], Ap.ap j.2.1 [0, 3, 4], Ap.ap j.2.2.1 [0, 3, 4], Ap.ap j.2.2.2 [0, 3, 4]]) (f45.J I call n)
theorem f45.S : SFn ⟨P, I, F⟩ call c45 (f45.JS I call) := .all 5 (by kernel_rfl) (fun ρ h => by kernel_rfl) (fun n ρ h => by kernel_rfl)
theorem f45.qe : Ap.all (f45.e I call (f45.J I call n)) (fun l h => execC P I call (f45.JS I call n) c45.body 0 (finV I c45.results) (argV l) h) := fun v0 h => by kernel_rfl
theorem f45.code : codeOf P 45 = some c45 := by kernel_rfl
def f45.run (I : Inp) : SF := fun call n => Ap.ar (f45.e I call (f45.J I call n))
theorem f45.ok (I : Inp) (F : Nat → Option AFn) (hF : F 45 = some (.code c45)) : SfOk P I F 45 (f45.run I) := okOf hF (by kernel_rfl) (fun _ => f45.S) fun call n => f45.qe
theorem f45.lim (hp : prims 45 = none) {v0 : AVal} (hr : Res (f45.e I (AM.lim ⟨P, I, genF P prims⟩) (f45.J I (AM.lim ⟨P, I, genF P prims⟩) n) v0 h) Q) : Res ((AM.lim ⟨P, I, genF P prims⟩) 45 [v0] h) Q := limOf (n := n) hp f45.code (f45.ok I) hr rfl
/-! (*haruspex/code.reader).block -/
def c50 : AFunc := cOf P 50
abbrev f50.Js : Type := (((A3 × (A4 × A4)) × (A4 × (A5 × A8))) × ((A8 × (A8 × A2)) × (A6 × (A6 × A6))))
def f50.b0 (I : Inp) (call : CallFn) (j : f50.Js) (v0 v2 v3 : AVal) (h : AHeap) : Rs :=
  kF 1 v3 fun v50 =>
  kF 2 v3 fun v51 =>
  kF 3 v3 fun v52 =>
  kF 4 v3 fun v53 =>
  bnd (sBuildSlice [.nilp] 4 [(0, 1, v50), (1, 1, v51), (2, 1, v52), (3, 1, v53)] h) fun v54 h1 =>
  kZ v54 fun v55 =>
  j.2.2.1 v0 v2 v3 v54 v55 (Z 0) h1
def f50.b1 (I : Inp) (call : CallFn) (j : f50.Js) (v0 v2 v3 v4 : AVal) (h : AHeap) : Rs :=
  kB .gtr v4 (Z 0) fun v14 =>
  gV v14 .true v0 h fun v16 h1 =>
  gP v14 .true (pNilCheck v16) h1 fun v17 h2 =>
  gP v14 .true (pFieldAddr 1 v17) h2 fun v18 h3 =>
  gP v14 .true (pLoad1 I v18 h3) h3 fun v19 h4 =>
  gP v14 .true (pUn .not v19) h4 fun v20 h5 =>
  kP v14 v20 bF fun v21 =>
  sCond v21 (
  j.1.1.1 v0 v2 v3 h5) (
  j.1.1.2.2 v0 v2 v3 v4 h5)
def f50.b2 (I : Inp) (call : CallFn) (j : f50.Js) (v0 v2 v3 v4 : AVal) (h : AHeap) : Rs :=
  bndP (pBuild [(Z 0), (Z 0), (Z 0), (Z 0), (Z 0), .nils] []) fun v24 =>
  kA [(Z 0), (Z 0), (Z 0), (Z 0), (Z 0), .nils] h fun v5 h1 =>
  kS 6 v5 v24 h1 fun _ h2 =>
  kF 0 v5 fun v25 =>
  kF 1 v5 fun v26 =>
  kF 2 v5 fun v27 =>
  kF 3 v5 fun v28 =>
  kF 4 v5 fun v29 =>
  bnd (sBuildSlice [.nilp] 5 [(0, 1, v25), (1, 1, v26), (2, 1, v27), (3, 1, v28), (4, 1, v29)] h2) fun v30 h3 =>
  kZ v30 fun v31 =>
  j.1.2.2.2 v0 v2 v3 v4 v5 v30 v31 (Z 0) h3
def f50.b3 (I : Inp) (call : CallFn) (j : f50.Js) (v0 v2 v3 v4 : AVal) (h : AHeap) : Rs :=
  kB .sub v4 (Z 1) fun v23 =>
  j.1.1.2.1 v0 v2 v3 v23 h
def f50.b4 (I : Inp) (call : CallFn) (j : f50.Js) (v0 v2 v3 v4 v5 : AVal) (h : AHeap) : Rs :=
  kC call 42 [v0] h fun v42 h1 =>
  kF 5 v5 fun v43 =>
  kS 1 v43 v42 h1 fun _ h2 =>
  kF 0 v3 fun v44 =>
  kL I v44 h2 fun v45 =>
  kM I 6 v5 h2 fun v46 =>
  bnd (sBuildSlice [(Z 0), (Z 0), (Z 0), (Z 0), (Z 0), .nils] 1 [(0, 6, v46)] h2) fun v47 h3 =>
  bnd (sAppend I 6 64 v45 v47 h3) fun v48 h4 =>
  kF 0 v3 fun v49 =>
  kS 1 v49 v48 h4 fun _ h5 =>
  j.1.2.1 v0 v2 v3 v4 h5
def f50.b5 (I : Inp) (call : CallFn) (j : f50.Js) (v0 v2 v3 v4 v5 v30 v31 v32 : AVal) (h : AHeap) : Rs :=
  kB .lss v32 v31 fun v33 =>
  sCond v33 (
  j.1.2.2.1 v0 v2 v3 v4 v5 h) (
  j.2.1.1 v0 v2 v3 v4 v5 v30 v31 v32 h)
def f50.b6 (I : Inp) (call : CallFn) (j : f50.Js) (v0 v2 v3 v4 v5 v30 v31 v32 : AVal) (h : AHeap) : Rs :=
  kI 1 v30 v32 fun v34 =>
  kL I v34 h fun v35 =>
  kC call 43 [v0] h fun v38 h1 =>
  kN v35 fun v39 =>
  kS 1 v39 v38 h1 fun _ h2 =>
  j.2.1.2.1 v0 v2 v3 v4 v5 v30 v31 v32 h2
def f50.b7 (I : Inp) (call : CallFn) (j : f50.Js) (v0 v2 v3 v4 v5 v30 v31 v32 : AVal) (h : AHeap) : Rs :=
  kB .add v32 (Z 1) fun v40 =>
  j.1.2.2.2 v0 v2 v3 v4 v5 v30 v31 v40 h
def f50.b8 (I : Inp) (call : CallFn) (j : f50.Js) (v2 v3 : AVal) (h : AHeap) : Rs :=
  kM I 5 v3 h fun v65 =>
  kS 5 v2 v65 h fun _ h1 =>
  sRet (sCons (sResN I 5 v2 h1) (some [])) h1
def f50.b9 (I : Inp) (call : CallFn) (j : f50.Js) (v0 v2 v3 v54 v55 v56 : AVal) (h : AHeap) : Rs :=
  kB .lss v56 v55 fun v57 =>
  sCond v57 (
  j.2.1.2.2 v2 v3 h) (
  j.2.2.2.1 v0 v2 v3 v54 v55 v56 h)
def f50.b10 (I : Inp) (call : CallFn) (j : f50.Js) (v0 v2 v3 v54 v55 v56 : AVal) (h : AHeap) : Rs :=
  kI 1 v54 v56 fun v58 =>
  kL I v58 h fun v59 =>
  kC call 43 [v0] h fun v62 h1 =>
  kN v59 fun v63 =>
  kS 1 v63 v62 h1 fun _ h2 =>
  j.2.2.2.2 v0 v2 v3 v54 v55 v56 h2
def f50.b11 (I : Inp) (call : CallFn) (j : f50.Js) (v0 v2 v3 v54 v55 v56 : AVal) (h : AHeap) : Rs :=
  kB .add v56 (Z 1) fun v64 =>
  j.2.2.1 v0 v2 v3 v54 v55 v64 h
def f50.e (I : Inp) (call : CallFn) (j : f50.Js) (v0 : AVal) (h : AHeap) : Rs :=
  kA [.nils, (Z 0), (Z 0), (Z 0), (Z 0)] h fun v2 h1 =>
  bndP (pBuild [.nils, (Z 0), (Z 0), (Z 0), (Z 0)] []) fun v10 =>
  kA [.nils, (Z 0), (Z 0), (Z 0), (Z 0)] h1 fun v3 h2 =>
  kS 5 v3 v10 h2 fun _ h3 =>
  kC call 39 [v0] h3 fun v12 h4 =>
  j.1.1.2.1 v0 v2 v3 v12 h4
def f50.J (I : Inp) (call : CallFn) (n : Nat) : f50.Js :=
  Nat.rec (motive := fun _ => f50.Js) (((Zr.z, (Zr.z, Zr.z)), (Zr.z, (Zr.z, Zr.z))), ((Zr.z, (Zr.z, Zr.z)), (Zr.z, (Zr.z, Zr.z)))) (fun _ j => (((f50.b0 I call j, (f50.b1 I call j, f50.b2 I call j)), (f50.b3 I call j, (f50.b4 I call j, f50.b5 I call j))), ((f50.b6 I call j, (f50.b7 I call j, f50.b8 I call j)), (f50.b9 I call j, (f50.b10 I call j, f50.b11 I call j))))) n
theorem f50.n0 : (f50.J I call (n + 1)).1.1.1 = f50.b0 I call (f50.J I call n) := nrfl
theorem f50.n1 : (f50.J I call (n + 1)).1.1.2.1 = f50.b1 I call (f50.J I call n) := nrfl
theorem f50.n2 : (f50.J I call (n + 1)).1.1.2.2 = f50.b2 I call (f50.J I call n) := nrfl
theorem f50.n3 : (f50.J I call (n + 1)).1.2.1 = f50.b3 I call (f50.J I call n) := nrfl
theorem f50.n4 : (f50.J I call (n + 1)).1.2.2.1 = f50.b4 I call (f50.J I call n) := nrfl
theorem f50.n5 : (f50.J I call (n + 1)).1.2.2.2 = f50.b5 I call (f50.J I call n) := nrfl
theorem f50.n6 : (f50.J I call (n + 1)).2.1.1 = f50.b6 I call (f50.J I call n) := nrfl
theorem f50.n7 : (f50.J I call (n + 1)).2.1.2.1 = f50.b7 I call (f50.J I call n) := nrfl
theorem f50.n8 : (f50.J I call (n + 1)).2.1.2.2 = f50.b8 I call (f50.J I call n) := nrfl
theorem f50.n9 : (f50.J I call (n + 1)).2.2.1 = f50.b9 I call (f50.J I call n) := nrfl
theorem f50.n10 : (f50.J I call (n + 1)).2.2.2.1 = f50.b10 I call (f50.J I call n) := nrfl
theorem f50.n11 : (f50.J I call (n + 1)).2.2.2.2 = f50.b11 I call (f50.J I call n) := nrfl
def f50.JS (I : Inp) (call : CallFn) (n : Nat) : Jmp := (fun j : f50.Js => jmp [Ap.ap j.1.1.1 [0, 2, 3], Ap.ap j.1.1.2.1 [0, 2, 3, 4], Ap.ap j.1.1.2.2 [0, 2, 3, 4], Ap.ap j.1.2.1 [0, 2, 3, 4], Ap.ap j.1.2.2.1 [0, 2, 3, 4, 5], Ap.ap j.1.2.2.2 [0, 2, 3, 4, 5, 30, 31, 32], Ap.ap j.2.1.1 [0, 2, 3, 4, 5, 30, 31, 32], Ap.ap j.2.1.2.1 [0, 2, 3, 4, 5, 30, 31, 32], Ap.ap j.2.1.2.2 [2, 3], Ap.ap j.2.2.1 [0, 2, 3, 54, 55, 56], Ap.ap j.2.2.2.1 [0, 2, 3, 54, 55, 56], Ap.ap j.2.2.2.2 [0, 2, 3, 54, 55, 56]]) (f50.J I call n)
theorem f50.S : SFn ⟨P, I, F⟩ call c50 (f50.JS I call) := .all 12 (by kernel_rfl) (fun ρ h => by kernel_rfl) (fun n ρ h => by kernel_rfl)
theorem f50.qe : Ap.all (f50.e I call (f50.J I call n)) (fun l h => execC P I call (f50.JS I call n) c50.body 0 (finV I c50.results) (argV l) h) := fun v0 h => by kernel_rfl
theorem f50.code : codeOf P 50 = some c50 := by kernel_rfl
def f50.run (I : Inp) : SF := fun call n => Ap.ar (f50.e I call (f50.J I call n))
theorem f50.ok (I : Inp) (F : Nat → Option AFn) (hF : F 50 = some (.code c50)) : SfOk P I F 50 (f50.run I) := okOf hF (by kernel_rfl) (fun _ => f50.S) fun call n => f50.qe
theorem f50.lim (hp : prims 50 = none) {v0 : AVal} (hr : Res (f50.e I (AM.lim ⟨P, I, genF P prims⟩) (f50.J I (AM.lim ⟨P, I, genF P prims⟩) n) v0 h) Q) : Res ((AM.lim ⟨P, I, genF P prims⟩) 50 [v0] h) Q := limOf (n := n) hp f50.code (f50.ok I) hr rfl
end
end Go.Proofs.YtncjcnipagdmlaaDoor.Sf
