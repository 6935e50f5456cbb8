/- The functions of the program by their labels, on values, part 0: what they compute the abstract machine computes. Conditions: none. -/
import Derived.Test.YtikjkhddkfkijaaGreatDoorAmZ
import Derived.Test.YtikjkhddkfkijaaGreatDoorProg
namespace Go.Proofs.YtikjkhddkfkijaaGreatDoor.Sf
open Go.AM
set_option linter.unusedVariables false
noncomputable section
noncomputable abbrev P : Program := Tryz.prog
variable {I : Inp} {F : Nat → Option AFn} {call : CallFn} {prims : Nat → Option Prim} {n : Nat} {h : AHeap} {Q : AVal → AHeap → Prop}
/-! haruspex/haruspexlaw12.WfMethods -/
def c4 : AFunc := cOf P 4
abbrev f4.Js : Type := ((A1 × A1) × (A1 × A2))
def f4.b0 (I : Inp) (call : CallFn) (j : f4.Js) (v0 : AVal) (h : AHeap) : Rs :=
  kC call 15 [v0] h fun v11 h1 =>
  kU .not v11 fun v12 =>
  sCond v12 (
  j.1.2 v0 h1) (
  some (bT, h1))
def f4.b1 (I : Inp) (call : CallFn) (j : f4.Js) (v0 : AVal) (h : AHeap) : Rs :=
  kC call 16 [v0] h fun v15 h1 =>
  kX v15 0 fun v16 =>
  kX v15 1 fun v17 =>
  kA [(Z 0), (Z 0), (Z 0)] h1 fun v4 h2 =>
  kS 3 v4 v16 h2 fun _ h3 =>
  kU .not v17 fun v19 =>
  sCond v19 (
  j.2.1 v0 h3) (
  some (bT, h3))
def f4.b2 (I : Inp) (call : CallFn) (j : f4.Js) (v0 : AVal) (h : AHeap) : Rs :=
  kC call 17 [v0] h fun v21 h1 =>
  kU .not v21 fun v22 =>
  sCond v22 (
  j.2.2 v0 (Z 0) h1) (
  j.2.2 v0 (Z 7) h1)
def f4.b3 (I : Inp) (call : CallFn) (j : f4.Js) (v0 v6 : AVal) (h : AHeap) : Rs :=
  kC call 12 [v0] h fun v24 h1 =>
  kC call 14 [] h1 fun v26 h2 =>
  kC call 13 [v24, v6, v26] h2 fun v27 h3 =>
  some (v27, h3)
def f4.e (I : Inp) (call : CallFn) (j : f4.Js) (v0 : AVal) (h : AHeap) : Rs :=
  kC call 9 [] h fun v7 h1 =>
  kU .not v7 fun v9 =>
  sCond v9 (
  j.1.1 v0 h1) (
  some (bF, h1))
def f4.J (I : Inp) (call : CallFn) (n : Nat) : f4.Js :=
  Nat.rec (motive := fun _ => f4.Js) ((Zr.z, Zr.z), (Zr.z, Zr.z)) (fun _ j => ((f4.b0 I call j, f4.b1 I call j), (f4.b2 I call j, f4.b3 I call j))) n
theorem f4.n0 : (f4.J I call (n + 1)).1.1 = f4.b0 I call (f4.J I call n) := nrfl
theorem f4.n1 : (f4.J I call (n + 1)).1.2 = f4.b1 I call (f4.J I call n) := nrfl
theorem f4.n2 : (f4.J I call (n + 1)).2.1 = f4.b2 I call (f4.J I call n) := nrfl
theorem f4.n3 : (f4.J I call (n + 1)).2.2 = f4.b3 I call (f4.J I call n) := nrfl
def f4.JS (I : Inp) (call : CallFn) (n : Nat) : Jmp := (fun j : f4.Js => jmp [Ap.ap j.1.1 [0], Ap.ap j.1.2 [0], Ap.ap j.2.1 [0], Ap.ap j.2.2 [0, 6]]) (f4.J I call n)
theorem f4.S : SFn ⟨P, I, F⟩ call c4 (f4.JS I call) := .all 4 (by kernel_rfl) (fun ρ h => by kernel_rfl) (fun n ρ h => by kernel_rfl)
theorem f4.qe : Ap.all (f4.e I call (f4.J I call n)) (fun l h => execC P I call (f4.JS I call n) c4.body 0 (finV I c4.results) (argV l) h) := fun v0 h => by kernel_rfl
theorem f4.code : codeOf P 4 = some c4 := by kernel_rfl
def f4.run (I : Inp) : SF := fun call n => Ap.ar (f4.e I call (f4.J I call n))
theorem f4.ok (I : Inp) (F : Nat → Option AFn) (hF : F 4 = some (.code c4)) : SfOk P I F 4 (f4.run I) := okOf hF (by kernel_rfl) (fun _ => f4.S) fun call n => f4.qe
theorem f4.lim (hp : prims 4 = none) {v0 : AVal} (hr : Res (f4.e I (AM.lim ⟨P, I, genF P prims⟩) (f4.J I (AM.lim ⟨P, I, genF P prims⟩) n) v0 h) Q) : Res ((AM.lim ⟨P, I, genF P prims⟩) 4 [v0] h) Q := limOf (n := n) hp f4.code (f4.ok I) hr rfl
/-! haruspex/haruspexlaw12.begun -/
def c9 : AFunc := cOf P 9
abbrev f9.Js : Type := Unit
def f9.e (I : Inp) (call : CallFn) (j : f9.Js) (h : AHeap) : Rs :=
  kC call 10 [] h fun v8 h1 =>
  kC call 10 [] h1 fun v9 h2 =>
  kN v9 fun v11 =>
  kF 5 v11 fun v12 =>
  kS 1 v12 (Z 9) h2 fun _ h3 =>
  kC call 20 [v8] h3 fun v14 h4 =>
  kC call 22 [v14] h4 fun v17 h5 =>
  kX v17 0 fun v18 =>
  kX v17 1 fun v19 =>
  kC call 20 [v9] h5 fun v22 h6 =>
  kC call 22 [v22] h6 fun v23 h7 =>
  kX v23 0 fun v24 =>
  kX v23 1 fun v25 =>
  kC call 11 [v8] h7 fun v27 h8 =>
  bndP (pEq P .false .iface .true v27 .nili h8) fun v28 =>
  gV v28 .true v9 h8 fun v30 h9 =>
  gS v28 .true (call 11 [v30] h9) h9 fun v31 h10 =>
  gS v28 .true (call 23 [v31] h10) h10 fun v32 h11 =>
  gP v28 .true (pBin .eql v32 (Z 3)) h11 fun v33 h12 =>
  kP v28 v33 bF fun v34 =>
  gV v34 .true v19 h12 fun v36 h13 =>
  gP v34 .true (pEq P .false .iface .true v36 .nili h13) h13 fun v37 h14 =>
  kP v34 v37 bF fun v38 =>
  gV v38 .true v18 h14 fun v40 h15 =>
  gP v38 .true (pNilCheck v40) h15 fun v41 h16 =>
  gP v38 .true (pFieldAddr 4 v41) h16 fun v42 h17 =>
  gP v38 .true (pLoad1 I v42 h17) h17 fun v43 h18 =>
  gP v38 .true (pLenSl v43) h18 fun v44 h19 =>
  gP v38 .true (pBin .eql v44 (Z 1)) h19 fun v45 h20 =>
  kP v38 v45 bF fun v46 =>
  gV v46 .true v25 h20 fun v48 h21 =>
  gS v46 .true (call 23 [v48] h21) h21 fun v49 h22 =>
  gP v46 .true (pBin .eql v49 (Z 3)) h22 fun v50 h23 =>
  kP v46 v50 bF fun v51 =>
  some (v51, h23)
theorem f9.S : SFn ⟨P, I, F⟩ call c9 (fun _ => jmp []) := .all 0 (by kernel_rfl) (fun ρ h => by kernel_rfl) (fun n ρ h => by kernel_rfl)
theorem f9.qe : Ap.all (f9.e I call ()) (fun l h => execC P I call (jmp []) c9.body 0 (finV I c9.results) (argV l) h) := fun h => by kernel_rfl
theorem f9.code : codeOf P 9 = some c9 := by kernel_rfl
def f9.run (I : Inp) : SF := fun call n => Ap.ar (f9.e I call ())
theorem f9.ok (I : Inp) (F : Nat → Option AFn) (hF : F 9 = some (.code c9)) : SfOk P I F 9 (f9.run I) := okOf hF (by kernel_rfl) (fun _ => f9.S) fun call n => f9.qe
/-! haruspex/haruspexlaw10.One -/
def c10 : AFunc := cOf P 10
abbrev f10.Js : Type := Unit
def f10.e (I : Inp) (call : CallFn) (j : f10.Js) (h : AHeap) : Rs :=
  bndP (pBuild [.nils, (Z 0), (Z 0)] []) fun v1 =>
  bnd (sBuildSlice [.nils, (Z 0), (Z 0)] 1 [(0, 3, v1)] h) fun v2 h1 =>
  bndP (pBuild [(Z 0), (Z 0)] []) fun v3 =>
  bnd (sBuildSlice [(Z 0), (Z 0)] 1 [(0, 2, v3)] h1) fun v4 h2 =>
  bndP (pBuild [(Z 0), (Z 0), (Z 0), (Z 0), (Z 0), .nils] [(0, 1, (Z 1)), (4, 1, (Z 7))]) fun v5 =>
  bnd (sBuildSlice [(Z 0), (Z 0), (Z 0), (Z 0), (Z 0), .nils] 1 [(0, 6, v5)] h2) fun v6 h3 =>
  bndP (pBuild [.nils, (Z 0), (Z 0), (Z 0), (Z 0)] [(0, 1, v6), (1, 1, (Z 3))]) fun v7 =>
  bnd (sBuildSlice [.nils, (Z 0), (Z 0), (Z 0), (Z 0)] 1 [(0, 5, v7)] h3) fun v8 h4 =>
  bndP (pBuild [(Z 0), .nils, .nils] [(1, 1, v4), (2, 1, v8)]) fun v9 =>
  bnd (sBuildSlice [(Z 0), .nils, .nils] 1 [(0, 3, v9)] h4) fun v10 h5 =>
  bndP (pBuild [.nils, .nils, .nils, .nils, .nils, (Z 0)] [(1, 1, v2), (4, 1, v10)]) fun v11 =>
  bnd (sBox v11 h5) fun v12 h6 =>
  some (v12, h6)
theorem f10.S : SFn ⟨P, I, F⟩ call c10 (fun _ => jmp []) := .all 0 (by kernel_rfl) (fun ρ h => by kernel_rfl) (fun n ρ h => by kernel_rfl)
theorem f10.qe : Ap.all (f10.e I call ()) (fun l h => execC P I call (jmp []) c10.body 0 (finV I c10.results) (argV l) h) := fun h => by kernel_rfl
theorem f10.code : codeOf P 10 = some c10 := by kernel_rfl
def f10.run (I : Inp) : SF := fun call n => Ap.ar (f10.e I call ())
theorem f10.ok (I : Inp) (F : Nat → Option AFn) (hF : F 10 = some (.code c10)) : SfOk P I F 10 (f10.run I) := okOf hF (by kernel_rfl) (fun _ => f10.S) fun call n => f10.qe
/-! haruspex/wf.Check -/
def c11 : AFunc := cOf P 11
abbrev f11.Js : Type := (A1 × A2)
def f11.b0 (I : Inp) (call : CallFn) (j : f11.Js) (v3 : AVal) (h : AHeap) : Rs :=
  kC call 28 [v3] h fun v12 h1 =>
  kX v12 0 fun v13 =>
  kX v12 1 fun v14 =>
  kA [(Z 0), (Z 0), (Z 0)] h1 fun v4 h2 =>
  kS 3 v4 v13 h2 fun _ h3 =>
  kU .not v14 fun v16 =>
  sCond v16 (
  j.2 v3 v4 h3) (
  kC call 29 [] h3 fun v17 h4 =>
  kS 3 v4 v17 h4 fun _ h5 =>
  j.2 v3 v4 h5)
def f11.b1 (I : Inp) (call : CallFn) (j : f11.Js) (v3 v4 : AVal) (h : AHeap) : Rs :=
  kC call 23 [v3] h fun v19 h1 =>
  kM I 3 v4 h1 fun v20 =>
  kC call 30 [v19, v20, v3] h1 fun v22 h2 =>
  sCheck (sSame (lift (pLoadN I 3 v4 h) h) v20 && true) (
  some (v22, h2))
def f11.e (I : Inp) (call : CallFn) (j : f11.Js) (v0 : AVal) (h : AHeap) : Rs :=
  kC call 27 [v0] h fun v7 h1 =>
  bndP (pEq P .false .iface .true v7 .nili h1) fun v9 =>
  sCond v9 (
  j.1 v7 h1) (
  some (.nili, h1))
def f11.J (I : Inp) (call : CallFn) (n : Nat) : f11.Js :=
  Nat.rec (motive := fun _ => f11.Js) (Zr.z, Zr.z) (fun _ j => (f11.b0 I call j, f11.b1 I call j)) n
def f11.JS (I : Inp) (call : CallFn) (n : Nat) : Jmp := (fun j : f11.Js => jmp [Ap.ap j.1 [3], Ap.ap j.2 [3, 4]]) (f11.J I call n)
theorem f11.S : SFn ⟨P, I, F⟩ call c11 (f11.JS I call) := .all 2 (by kernel_rfl) (fun ρ h => by kernel_rfl) (fun n ρ h => by kernel_rfl)
theorem f11.qe : Ap.all (f11.e I call (f11.J I call n)) (fun l h => execC P I call (f11.JS I call n) c11.body 0 (finV I c11.results) (argV l) h) := fun v0 h => by kernel_rfl
theorem f11.code : codeOf P 11 = some c11 := by kernel_rfl
def f11.run (I : Inp) : SF := fun call n => Ap.ar (f11.e I call (f11.J I call n))
theorem f11.ok (I : Inp) (F : Nat → Option AFn) (hF : F 11 = some (.code c11)) : SfOk P I F 11 (f11.run I) := okOf hF (by kernel_rfl) (fun _ => f11.S) fun call n => f11.qe
/-! haruspex/wf.Methods -/
def c12 : AFunc := cOf P 12
abbrev f12.Js : Type := (((A0 × A4) × (A4 × A4)) × ((A5 × A9) × (A9 × A9)))
def f12.b0 (I : Inp) (call : CallFn) (j : f12.Js) (h : AHeap) : Rs :=
  some (.nili, h)
def f12.b1 (I : Inp) (call : CallFn) (j : f12.Js) (v0 v11 v12 v13 : AVal) (h : AHeap) : Rs :=
  kB .lss v13 v12 fun v14 =>
  sCond v14 (
  j.1.1.1 h) (
  j.1.2.1 v0 v11 v12 v13 h)
def f12.b2 (I : Inp) (call : CallFn) (j : f12.Js) (v0 v11 v12 v13 : AVal) (h : AHeap) : Rs :=
  kI 3 v11 v13 fun v16 =>
  kM I 3 v16 h fun v17 =>
  kA [(Z 0), (Z 0), .nils] h fun v4 h1 =>
  kS 3 v4 v17 h1 fun _ h2 =>
  kN v0 fun v19 =>
  kF 2 v19 fun v20 =>
  kL I v20 h2 fun v21 =>
  kF 1 v4 fun v22 =>
  kL I v22 h2 fun v23 =>
  kI 1 v21 v23 fun v24 =>
  kF 0 v24 fun v25 =>
  kL I v25 h2 fun v26 =>
  kF 2 v4 fun v27 =>
  kL I v27 h2 fun v28 =>
  kZ v28 fun v29 =>
  kZ v26 fun v31 =>
  kB .eql v29 v31 fun v32 =>
  gV v32 .true v0 h2 fun v34 h3 =>
  gP v32 .true (pFieldAddr 0 v4) h3 fun v35 h4 =>
  gP v32 .true (pLoad1 I v35 h4) h4 fun v36 h5 =>
  gP v32 .true (pFieldAddr 1 v4) h5 fun v37 h6 =>
  gP v32 .true (pLoad1 I v37 h6) h6 fun v38 h7 =>
  gS v32 .true (call 31 [v34, v36, v38] h7) h7 fun v39 h8 =>
  gV v32 .true v13 h8 fun v40 h9 =>
  gP v32 .true (pBin .eql v39 v40) h9 fun v41 h10 =>
  kP v32 v41 bF fun v42 =>
  kF 2 v4 fun v43 =>
  kL I v43 h10 fun v44 =>
  kZ v44 fun v45 =>
  kZ v26 fun v47 =>
  bndP (pMinmax .false [v45, v47]) fun v48 =>
  j.2.1.2 v0 v4 v26 v42 v11 v12 v13 v48 (Z 0) h10
def f12.b3 (I : Inp) (call : CallFn) (j : f12.Js) (v0 v11 v12 v13 : AVal) (h : AHeap) : Rs :=
  kB .add v13 (Z 1) fun v73 =>
  j.1.1.2 v0 v11 v12 v73 h
def f12.b4 (I : Inp) (call : CallFn) (j : f12.Js) (v0 v6 v11 v12 v13 : AVal) (h : AHeap) : Rs :=
  kU .not v6 fun v70 =>
  sCond v70 (
  j.1.2.2 v0 v11 v12 v13 h) (
  kC call 29 [] h fun v71 h1 =>
  kC call 30 [(Z 7), v71, .nili] h1 fun v72 h2 =>
  some (v72, h2))
def f12.b5 (I : Inp) (call : CallFn) (j : f12.Js) (v0 v4 v5 v6 v11 v12 v13 v48 v49 : AVal) (h : AHeap) : Rs :=
  kB .lss v49 v48 fun v50 =>
  sCond v50 (
  j.2.1.1 v0 v6 v11 v12 v13 h) (
  j.2.2.1 v0 v4 v5 v6 v11 v12 v13 v48 v49 h)
def f12.b6 (I : Inp) (call : CallFn) (j : f12.Js) (v0 v4 v5 v6 v11 v12 v13 v48 v49 : AVal) (h : AHeap) : Rs :=
  gV v6 .true v0 h fun v54 h1 =>
  gP v6 .true (pFieldAddr 0 v4) h1 fun v55 h2 =>
  gP v6 .true (pLoad1 I v55 h2) h2 fun v56 h3 =>
  gP v6 .true (pFieldAddr 2 v4) h3 fun v57 h4 =>
  gP v6 .true (pLoad1 I v57 h4) h4 fun v58 h5 =>
  gV v6 .true v49 h5 fun v59 h6 =>
  gP v6 .true (pIndexAddr 1 v58 v59) h6 fun v60 h7 =>
  gP v6 .true (pLoad1 I v60 h7) h7 fun v61 h8 =>
  gV v6 .true v5 h8 fun v62 h9 =>
  gV v6 .true v49 h9 fun v63 h10 =>
  gP v6 .true (pIndexAddr 1 v62 v63) h10 fun v64 h11 =>
  gP v6 .true (pLoad1 I v64 h11) h11 fun v65 h12 =>
  gS v6 .true (call 32 [v54, v56, v61, v65] h12) h12 fun v66 h13 =>
  kP v6 v66 bF fun v67 =>
  j.2.2.2 v0 v4 v5 v67 v11 v12 v13 v48 v49 h13
def f12.b7 (I : Inp) (call : CallFn) (j : f12.Js) (v0 v4 v5 v6 v11 v12 v13 v48 v49 : AVal) (h : AHeap) : Rs :=
  kB .add v49 (Z 1) fun v68 =>
  j.2.1.2 v0 v4 v5 v6 v11 v12 v13 v48 v68 h
def f12.e (I : Inp) (call : CallFn) (j : f12.Js) (v0 : AVal) (h : AHeap) : Rs :=
  kN v0 fun v9 =>
  kF 3 v9 fun v10 =>
  kL I v10 h fun v11 =>
  kZ v11 fun v12 =>
  j.1.1.2 v0 v11 v12 (Z 0) h
def f12.J (I : Inp) (call : CallFn) (n : Nat) : f12.Js :=
  Nat.rec (motive := fun _ => f12.Js) (((Zr.z, Zr.z), (Zr.z, Zr.z)), ((Zr.z, Zr.z), (Zr.z, Zr.z))) (fun _ j => (((f12.b0 I call j, f12.b1 I call j), (f12.b2 I call j, f12.b3 I call j)), ((f12.b4 I call j, f12.b5 I call j), (f12.b6 I call j, f12.b7 I call j)))) n
theorem f12.n0 : (f12.J I call (n + 1)).1.1.1 = f12.b0 I call (f12.J I call n) := nrfl
theorem f12.n1 : (f12.J I call (n + 1)).1.1.2 = f12.b1 I call (f12.J I call n) := nrfl
theorem f12.n2 : (f12.J I call (n + 1)).1.2.1 = f12.b2 I call (f12.J I call n) := nrfl
theorem f12.n3 : (f12.J I call (n + 1)).1.2.2 = f12.b3 I call (f12.J I call n) := nrfl
theorem f12.n4 : (f12.J I call (n + 1)).2.1.1 = f12.b4 I call (f12.J I call n) := nrfl
theorem f12.n5 : (f12.J I call (n + 1)).2.1.2 = f12.b5 I call (f12.J I call n) := nrfl
theorem f12.n6 : (f12.J I call (n + 1)).2.2.1 = f12.b6 I call (f12.J I call n) := nrfl
theorem f12.n7 : (f12.J I call (n + 1)).2.2.2 = f12.b7 I call (f12.J I call n) := nrfl
def f12.JS (I : Inp) (call : CallFn) (n : Nat) : Jmp := (fun j : f12.Js => jmp [Ap.ap j.1.1.1 [], Ap.ap j.1.1.2 [0, 11, 12, 13], Ap.ap j.1.2.1 [0, 11, 12, 13], Ap.ap j.1.2.2 [0, 11, 12, 13], Ap.ap j.2.1.1 [0, 6, 11, 12, 13], Ap.ap j.2.1.2 [0, 4, 5, 6, 11, 12, 13, 48, 49], Ap.ap j.2.2.1 [0, 4, 5, 6, 11, 12, 13, 48, 49], Ap.ap j.2.2.2 [0, 4, 5, 6, 11, 12, 13, 48, 49]]) (f12.J I call n)
theorem f12.S : SFn ⟨P, I, F⟩ call c12 (f12.JS I call) := .all 8 (by kernel_rfl) (fun ρ h => by kernel_rfl) (fun n ρ h => by kernel_rfl)
theorem f12.qe : Ap.all (f12.e I call (f12.J I call n)) (fun l h => execC P I call (f12.JS I call n) c12.body 0 (finV I c12.results) (argV l) h) := fun v0 h => by kernel_rfl
theorem f12.code : codeOf P 12 = some c12 := by kernel_rfl
def f12.run (I : Inp) : SF := fun call n => Ap.ar (f12.e I call (f12.J I call n))
theorem f12.ok (I : Inp) (F : Nat → Option AFn) (hF : F 12 = some (.code c12)) : SfOk P I F 12 (f12.run I) := okOf hF (by kernel_rfl) (fun _ => f12.S) fun call n => f12.qe
theorem f12.lim (hp : prims 12 = none) {v0 : AVal} (hr : Res (f12.e I (AM.lim ⟨P, I, genF P prims⟩) (f12.J I (AM.lim ⟨P, I, genF P prims⟩) n) v0 h) Q) : Res ((AM.lim ⟨P, I, genF P prims⟩) 12 [v0] h) Q := limOf (n := n) hp f12.code (f12.ok I) hr rfl
/-! haruspex/haruspexlaw10.Says -/
def c13 : AFunc := cOf P 13
abbrev f13.Js : Type := (A3 × (A3 × A3))
def f13.b0 (I : Inp) (call : CallFn) (j : f13.Js) (v0 v1 v5 : AVal) (h : AHeap) : Rs :=
  bndP (pEq P .false .iface .true v0 .nili h) fun v14 =>
  sCond v14 (
  j.2.1 v0 v1 v5 h) (
  some (bF, h))
def f13.b1 (I : Inp) (call : CallFn) (j : f13.Js) (v0 v1 v5 : AVal) (h : AHeap) : Rs :=
  kC call 28 [v0] h fun v17 h1 =>
  kX v17 0 fun v18 =>
  kX v17 1 fun v19 =>
  kA [(Z 0), (Z 0), (Z 0)] h1 fun v7 h2 =>
  kS 3 v7 v18 h2 fun _ h3 =>
  kC call 23 [v0] h3 fun v21 h4 =>
  kB .neq v21 v1 fun v23 =>
  gV v23 .false v19 h4 fun v25 h5 =>
  gP v23 .false (pFieldAddr 0 v5) h5 fun v26 h6 =>
  gP v23 .false (pLoad1 I v26 h6) h6 fun v27 h7 =>
  gP v23 .false (pBin .geq v27 (Z 0)) h7 fun v28 h8 =>
  gP v23 .false (pEq P .true .bool .false v25 v28 h8) h8 fun v29 h9 =>
  kP v23 bT v29 fun v30 =>
  sCond v30 (
  j.2.2 v5 v7 v19 h9) (
  some (bF, h9))
def f13.b2 (I : Inp) (call : CallFn) (j : f13.Js) (v5 v7 v8 : AVal) (h : AHeap) : Rs :=
  kU .not v8 fun v32 =>
  gP v32 .false (pFieldAddr 0 v7) h fun v34 h1 =>
  gP v32 .false (pLoad1 I v34 h1) h1 fun v35 h2 =>
  gP v32 .false (pFieldAddr 0 v5) h2 fun v36 h3 =>
  gP v32 .false (pLoad1 I v36 h3) h3 fun v37 h4 =>
  gP v32 .false (pBin .eql v35 v37) h4 fun v38 h5 =>
  gV v32 .false v38 h5 fun v39 h6 =>
  gP v39 .true (pFieldAddr 1 v7) h6 fun v40 h7 =>
  gP v39 .true (pLoad1 I v40 h7) h7 fun v41 h8 =>
  gP v39 .true (pFieldAddr 1 v5) h8 fun v42 h9 =>
  gP v39 .true (pLoad1 I v42 h9) h9 fun v43 h10 =>
  gP v39 .true (pBin .eql v41 v43) h10 fun v44 h11 =>
  gP v32 .false (pPick v39 v44 bF) h11 fun v45 h12 =>
  gV v32 .false v45 h12 fun v46 h13 =>
  gP v46 .true (pFieldAddr 2 v7) h13 fun v47 h14 =>
  gP v46 .true (pLoad1 I v47 h14) h14 fun v48 h15 =>
  gP v46 .true (pFieldAddr 2 v5) h15 fun v49 h16 =>
  gP v46 .true (pLoad1 I v49 h16) h16 fun v50 h17 =>
  gP v46 .true (pBin .eql v48 v50) h17 fun v51 h18 =>
  gP v32 .false (pPick v46 v51 bF) h18 fun v52 h19 =>
  kP v32 bT v52 fun v53 =>
  some (v53, h19)
def f13.e (I : Inp) (call : CallFn) (j : f13.Js) (v0 v1 v2 : AVal) (h : AHeap) : Rs :=
  bnd (sBox v2 h) fun v5 h1 =>
  kB .eql v1 (Z 0) fun v10 =>
  sCond v10 (
  j.1 v0 v1 v5 h1) (
  bndP (pEq P .false .iface .true v0 .nili h1) fun v12 =>
  some (v12, h1))
def f13.J (I : Inp) (call : CallFn) (n : Nat) : f13.Js :=
  Nat.rec (motive := fun _ => f13.Js) (Zr.z, (Zr.z, Zr.z)) (fun _ j => (f13.b0 I call j, (f13.b1 I call j, f13.b2 I call j))) n
theorem f13.n0 : (f13.J I call (n + 1)).1 = f13.b0 I call (f13.J I call n) := nrfl
theorem f13.n1 : (f13.J I call (n + 1)).2.1 = f13.b1 I call (f13.J I call n) := nrfl
theorem f13.n2 : (f13.J I call (n + 1)).2.2 = f13.b2 I call (f13.J I call n) := nrfl
def f13.JS (I : Inp) (call : CallFn) (n : Nat) : Jmp := (fun j : f13.Js => jmp [Ap.ap j.1 [0, 1, 5], Ap.ap j.2.1 [0, 1, 5], Ap.ap j.2.2 [5, 7, 8]]) (f13.J I call n)
theorem f13.S : SFn ⟨P, I, F⟩ call c13 (f13.JS I call) := .all 3 (by kernel_rfl) (fun ρ h => by kernel_rfl) (fun n ρ h => by kernel_rfl)
theorem f13.qe : Ap.all (f13.e I call (f13.J I call n)) (fun l h => execC P I call (f13.JS I call n) c13.body 0 (finV I c13.results) (argV l) h) := fun v0 v1 v2 h => by kernel_rfl
theorem f13.code : codeOf P 13 = some c13 := by kernel_rfl
def f13.run (I : Inp) : SF := fun call n => Ap.ar (f13.e I call (f13.J I call n))
theorem f13.ok (I : Inp) (F : Nat → Option AFn) (hF : F 13 = some (.code c13)) : SfOk P I F 13 (f13.run I) := okOf hF (by kernel_rfl) (fun _ => f13.S) fun call n => f13.qe
theorem f13.lim (hp : prims 13 = none) {v0 v1 v2 : AVal} (hr : Res (f13.e I (AM.lim ⟨P, I, genF P prims⟩) (f13.J I (AM.lim ⟨P, I, genF P prims⟩) n) v0 v1 v2 h) Q) : Res ((AM.lim ⟨P, I, genF P prims⟩) 13 [v0, v1, v2] h) Q := limOf (n := n) hp f13.code (f13.ok I) hr rfl
/-! haruspex/haruspexref8.Nowhere -/
def c14 : AFunc := cOf P 14
abbrev f14.Js : Type := Unit
def f14.e (I : Inp) (call : CallFn) (j : f14.Js) (h : AHeap) : Rs :=
  kA [(Z 0), (Z 0), (Z 0)] h fun v0 h1 =>
  bndP (pBuild [(Z 0), (Z 0), (Z 0)] [(0, 1, (.int .i64 (.negSucc 0)))]) fun v1 =>
  kS 3 v0 v1 h1 fun _ h2 =>
  sRet (sCons (sResN I 3 v0 h2) (some [])) h2
theorem f14.S : SFn ⟨P, I, F⟩ call c14 (fun _ => jmp []) := .all 0 (by kernel_rfl) (fun ρ h => by kernel_rfl) (fun n ρ h => by kernel_rfl)
theorem f14.qe : Ap.all (f14.e I call ()) (fun l h => execC P I call (jmp []) c14.body 0 (finV I c14.results) (argV l) h) := fun h => by kernel_rfl
theorem f14.code : codeOf P 14 = some c14 := by kernel_rfl
def f14.run (I : Inp) : SF := fun call n => Ap.ar (f14.e I call ())
theorem f14.ok (I : Inp) (F : Nat → Option AFn) (hF : F 14 = some (.code c14)) : SfOk P I F 14 (f14.run I) := okOf hF (by kernel_rfl) (fun _ => f14.S) fun call n => f14.qe
theorem f14.lim (hp : prims 14 = none) {n : Nat} (hr : Res (f14.e I (AM.lim ⟨P, I, genF P prims⟩) () h) Q) : Res ((AM.lim ⟨P, I, genF P prims⟩) 14 [] h) Q := limOf (n := n) hp f14.code (f14.ok I) hr rfl
/-! haruspex/haruspexref8.Bounds -/
def c15 : AFunc := cOf P 15
abbrev f15.Js : Type := ((((A1 × (A1 × A2)) × ((A2 × A2) × (A1 × A2))) × (((A2 × A2) × (A1 × A2)) × ((A2 × A2) × (A1 × A2)))) × ((((A2 × A2) × (A2 × A4)) × ((A4 × A4) × (A5 × A6))) × (((A6 × A6) × (A6 × A6)) × ((A7 × A7) × (A7 × A7)))))
def f15.b0 (I : Inp) (call : CallFn) (j : f15.Js) (v0 : AVal) (h : AHeap) : Rs :=
  j.1.1.1.2.2 v0 (Z 0) h
def f15.b1 (I : Inp) (call : CallFn) (j : f15.Js) (v0 : AVal) (h : AHeap) : Rs :=
  j.1.1.2.2.2 v0 (Z 0) h
def f15.b2 (I : Inp) (call : CallFn) (j : f15.Js) (v0 v3 : AVal) (h : AHeap) : Rs :=
  kN v0 fun v65 =>
  kF 0 v65 fun v66 =>
  kL I v66 h fun v67 =>
  kZ v67 fun v68 =>
  kB .lss v3 v68 fun v69 =>
  sCond v69 (
  j.1.1.1.2.1 v0 h) (
  j.1.1.2.1.1 v0 v3 h)
def f15.b3 (I : Inp) (call : CallFn) (j : f15.Js) (v0 v3 : AVal) (h : AHeap) : Rs :=
  kN v0 fun v73 =>
  kF 0 v73 fun v74 =>
  kL I v74 h fun v75 =>
  kI 1 v75 v3 fun v77 =>
  kL I v77 h fun v78 =>
  kZ v78 fun v79 =>
  kB .gtr v79 (Z 4) fun v80 =>
  sCond v80 (
  j.1.1.2.1.2 v0 v3 h) (
  some (bF, h))
def f15.b4 (I : Inp) (call : CallFn) (j : f15.Js) (v0 v3 : AVal) (h : AHeap) : Rs :=
  kB .add v3 (Z 1) fun v71 =>
  j.1.1.1.2.2 v0 v71 h
def f15.b5 (I : Inp) (call : CallFn) (j : f15.Js) (v0 : AVal) (h : AHeap) : Rs :=
  j.1.2.1.2.2 v0 (Z 0) h
def f15.b6 (I : Inp) (call : CallFn) (j : f15.Js) (v0 v4 : AVal) (h : AHeap) : Rs :=
  kN v0 fun v83 =>
  kF 1 v83 fun v84 =>
  kL I v84 h fun v85 =>
  kZ v85 fun v86 =>
  kB .lss v4 v86 fun v87 =>
  sCond v87 (
  j.1.1.2.2.1 v0 h) (
  j.1.2.1.1.1 v0 v4 h)
def f15.b7 (I : Inp) (call : CallFn) (j : f15.Js) (v0 v4 : AVal) (h : AHeap) : Rs :=
  kN v0 fun v91 =>
  kF 1 v91 fun v92 =>
  kL I v92 h fun v93 =>
  kI 3 v93 v4 fun v95 =>
  kF 0 v95 fun v96 =>
  kL I v96 h fun v97 =>
  kZ v97 fun v98 =>
  kB .gtr v98 (Z 4) fun v99 =>
  sCond v99 (
  j.1.2.1.1.2 v0 v4 h) (
  some (bF, h))
def f15.b8 (I : Inp) (call : CallFn) (j : f15.Js) (v0 v4 : AVal) (h : AHeap) : Rs :=
  kB .add v4 (Z 1) fun v89 =>
  j.1.1.2.2.2 v0 v89 h
def f15.b9 (I : Inp) (call : CallFn) (j : f15.Js) (v0 : AVal) (h : AHeap) : Rs :=
  j.1.2.2.2.2 v0 (Z 0) h
def f15.b10 (I : Inp) (call : CallFn) (j : f15.Js) (v0 v5 : AVal) (h : AHeap) : Rs :=
  kN v0 fun v102 =>
  kF 2 v102 fun v103 =>
  kL I v103 h fun v104 =>
  kZ v104 fun v105 =>
  kB .lss v5 v105 fun v106 =>
  sCond v106 (
  j.1.2.1.2.1 v0 h) (
  j.1.2.2.1.1 v0 v5 h)
def f15.b11 (I : Inp) (call : CallFn) (j : f15.Js) (v0 v5 : AVal) (h : AHeap) : Rs :=
  kN v0 fun v110 =>
  kF 2 v110 fun v111 =>
  kL I v111 h fun v112 =>
  kI 1 v112 v5 fun v114 =>
  kF 0 v114 fun v115 =>
  kL I v115 h fun v116 =>
  kZ v116 fun v117 =>
  kB .gtr v117 (Z 3) fun v118 =>
  sCond v118 (
  j.1.2.2.1.2 v0 v5 h) (
  some (bF, h))
def f15.b12 (I : Inp) (call : CallFn) (j : f15.Js) (v0 v5 : AVal) (h : AHeap) : Rs :=
  kB .add v5 (Z 1) fun v108 =>
  j.1.2.1.2.2 v0 v108 h
def f15.b13 (I : Inp) (call : CallFn) (j : f15.Js) (v0 : AVal) (h : AHeap) : Rs :=
  j.2.1.1.2.2 v0 (Z 0) (Z 0) (Z 0) h
def f15.b14 (I : Inp) (call : CallFn) (j : f15.Js) (v0 v6 : AVal) (h : AHeap) : Rs :=
  kN v0 fun v121 =>
  kF 3 v121 fun v122 =>
  kL I v122 h fun v123 =>
  kZ v123 fun v124 =>
  kB .lss v6 v124 fun v125 =>
  sCond v125 (
  j.1.2.2.2.1 v0 h) (
  j.2.1.1.1.1 v0 v6 h)
def f15.b15 (I : Inp) (call : CallFn) (j : f15.Js) (v0 v6 : AVal) (h : AHeap) : Rs :=
  kN v0 fun v129 =>
  kF 3 v129 fun v130 =>
  kL I v130 h fun v131 =>
  kI 3 v131 v6 fun v133 =>
  kF 2 v133 fun v134 =>
  kL I v134 h fun v135 =>
  kZ v135 fun v136 =>
  kB .gtr v136 (Z 3) fun v137 =>
  sCond v137 (
  j.2.1.1.1.2 v0 v6 h) (
  some (bF, h))
def f15.b16 (I : Inp) (call : CallFn) (j : f15.Js) (v0 v6 : AVal) (h : AHeap) : Rs :=
  kB .add v6 (Z 1) fun v127 =>
  j.1.2.2.2.2 v0 v127 h
def f15.b17 (I : Inp) (call : CallFn) (j : f15.Js) (v7 v8 : AVal) (h : AHeap) : Rs :=
  kB .leq v7 (Z 600) fun v226 =>
  gV v226 .true v8 h fun v228 h1 =>
  gP v226 .true (pBin .leq v228 (Z 40)) h1 fun v229 h2 =>
  kP v226 v229 bF fun v230 =>
  some (v230, h2)
def f15.b18 (I : Inp) (call : CallFn) (j : f15.Js) (v0 v7 v8 v9 : AVal) (h : AHeap) : Rs :=
  kN v0 fun v140 =>
  kF 4 v140 fun v141 =>
  kL I v141 h fun v142 =>
  kZ v142 fun v143 =>
  kB .lss v9 v143 fun v144 =>
  sCond v144 (
  j.2.1.1.2.1 v7 v8 h) (
  j.2.1.2.1.1 v0 v7 v8 v9 h)
def f15.b19 (I : Inp) (call : CallFn) (j : f15.Js) (v0 v7 v8 v9 : AVal) (h : AHeap) : Rs :=
  kN v0 fun v148 =>
  kF 4 v148 fun v149 =>
  kL I v149 h fun v150 =>
  kI 3 v150 v9 fun v152 =>
  kM I 3 v152 h fun v153 =>
  kA [(Z 0), .nils, .nils] h fun v10 h1 =>
  kS 3 v10 v153 h1 fun _ h2 =>
  kF 1 v10 fun v154 =>
  kL I v154 h2 fun v155 =>
  kZ v155 fun v156 =>
  kB .gtr v156 (Z 16) fun v157 =>
  gP v157 .false (pFieldAddr 2 v10) h2 fun v159 h3 =>
  gP v157 .false (pLoad1 I v159 h3) h3 fun v160 h4 =>
  gP v157 .false (pLenSl v160) h4 fun v161 h5 =>
  gP v157 .false (pBin .gtr v161 (Z 12)) h5 fun v162 h6 =>
  kP v157 bT v162 fun v163 =>
  gP v163 .false (pFieldAddr 2 v10) h6 fun v165 h7 =>
  gP v163 .false (pLoad1 I v165 h7) h7 fun v166 h8 =>
  gP v163 .false (pLenSl v166) h8 fun v167 h9 =>
  gP v163 .false (pBin .eql v167 (Z 0)) h9 fun v168 h10 =>
  kP v163 bT v168 fun v169 =>
  sCond v169 (
  j.2.1.2.2.1 v0 v7 v8 v9 v10 h10) (
  some (bF, h10))
def f15.b20 (I : Inp) (call : CallFn) (j : f15.Js) (v0 v7 v8 v9 : AVal) (h : AHeap) : Rs :=
  kB .add v9 (Z 1) fun v146 =>
  j.2.1.1.2.2 v0 v7 v8 v146 h
def f15.b21 (I : Inp) (call : CallFn) (j : f15.Js) (v0 v7 v8 v9 v10 : AVal) (h : AHeap) : Rs :=
  j.2.1.2.2.2 v0 v7 v8 v9 v10 (Z 0) h
def f15.b22 (I : Inp) (call : CallFn) (j : f15.Js) (v0 v7 v8 v9 v10 v11 : AVal) (h : AHeap) : Rs :=
  kF 2 v10 fun v171 =>
  kL I v171 h fun v172 =>
  kZ v172 fun v173 =>
  kB .lss v11 v173 fun v174 =>
  sCond v174 (
  j.2.1.2.1.2 v0 v7 v8 v9 h) (
  j.2.2.1.1.1 v0 v7 v8 v9 v10 v11 h)
def f15.b23 (I : Inp) (call : CallFn) (j : f15.Js) (v0 v7 v8 v9 v10 v11 : AVal) (h : AHeap) : Rs :=
  kF 2 v10 fun v177 =>
  kL I v177 h fun v178 =>
  kI 5 v178 v11 fun v180 =>
  kF 0 v180 fun v181 =>
  kL I v181 h fun v182 =>
  kZ v182 fun v183 =>
  kB .gtr v183 (Z 30) fun v184 =>
  sCond v184 (
  j.2.2.1.2.1 v0 v7 v8 v9 v10 v11 h) (
  some (bF, h))
def f15.b24 (I : Inp) (call : CallFn) (j : f15.Js) (v0 v7 v8 v9 v10 v11 : AVal) (h : AHeap) : Rs :=
  kB .add v11 (Z 1) fun v176 =>
  j.2.1.2.2.2 v0 v7 v8 v9 v10 v176 h
def f15.b25 (I : Inp) (call : CallFn) (j : f15.Js) (v0 v7 v8 v9 v10 v11 : AVal) (h : AHeap) : Rs :=
  j.2.2.2.1.1 v0 v7 v8 v9 v10 v11 (Z 0) h
def f15.b26 (I : Inp) (call : CallFn) (j : f15.Js) (v0 v7 v8 v9 v10 v11 : AVal) (h : AHeap) : Rs :=
  kB .add v7 (Z 1) fun v224 =>
  j.2.2.1.1.2 v0 v224 v8 v9 v10 v11 h
def f15.b27 (I : Inp) (call : CallFn) (j : f15.Js) (v0 v7 v8 v9 v10 v11 v12 : AVal) (h : AHeap) : Rs :=
  kF 2 v10 fun v186 =>
  kL I v186 h fun v187 =>
  kI 5 v187 v11 fun v189 =>
  kF 0 v189 fun v190 =>
  kL I v190 h fun v191 =>
  kZ v191 fun v192 =>
  kB .lss v12 v192 fun v193 =>
  sCond v193 (
  j.2.2.1.2.2 v0 v7 v8 v9 v10 v11 h) (
  j.2.2.2.1.2 v0 v7 v8 v9 v10 v11 v12 h)
def f15.b28 (I : Inp) (call : CallFn) (j : f15.Js) (v0 v7 v8 v9 v10 v11 v12 : AVal) (h : AHeap) : Rs :=
  kF 2 v10 fun v196 =>
  kL I v196 h fun v197 =>
  kI 5 v197 v11 fun v199 =>
  kF 0 v199 fun v200 =>
  kL I v200 h fun v201 =>
  kI 6 v201 v12 fun v203 =>
  kF 5 v203 fun v204 =>
  kL I v204 h fun v205 =>
  kZ v205 fun v206 =>
  kB .gtr v206 (Z 4) fun v207 =>
  sCond v207 (
  j.2.2.2.2.2 v0 v7 v8 v9 v10 v11 v12 h) (
  some (bF, h))
def f15.b29 (I : Inp) (call : CallFn) (j : f15.Js) (v0 v7 v8 v9 v10 v11 v12 : AVal) (h : AHeap) : Rs :=
  kB .add v12 (Z 1) fun v195 =>
  j.2.2.2.1.1 v0 v7 v8 v9 v10 v11 v195 h
def f15.b30 (I : Inp) (call : CallFn) (j : f15.Js) (v0 v7 v8 v9 v10 v11 v12 : AVal) (h : AHeap) : Rs :=
  kB .add v7 (Z 1) fun v209 =>
  kF 2 v10 fun v210 =>
  kL I v210 h fun v211 =>
  kI 5 v211 v11 fun v213 =>
  kF 0 v213 fun v214 =>
  kL I v214 h fun v215 =>
  kI 6 v215 v12 fun v217 =>
  kF 0 v217 fun v218 =>
  kL I v218 h fun v219 =>
  kB .eql v219 (Z 5) fun v220 =>
  sCond v220 (
  j.2.2.2.2.1 v0 v209 v8 v9 v10 v11 v12 h) (
  kB .add v8 (Z 1) fun v222 =>
  j.2.2.2.2.1 v0 v209 v222 v9 v10 v11 v12 h)
def f15.e (I : Inp) (call : CallFn) (j : f15.Js) (v0 : AVal) (h : AHeap) : Rs :=
  bndP (pEq P .false .ptr .true v0 .nilp h) fun v14 =>
  gV v14 .false v0 h fun v16 h1 =>
  gP v14 .false (pNilCheck v16) h1 fun v17 h2 =>
  gP v14 .false (pFieldAddr 0 v17) h2 fun v18 h3 =>
  gP v14 .false (pLoad1 I v18 h3) h3 fun v19 h4 =>
  gP v14 .false (pLenSl v19) h4 fun v20 h5 =>
  gP v14 .false (pBin .gtr v20 (Z 6)) h5 fun v21 h6 =>
  kP v14 bT v21 fun v22 =>
  gV v22 .false v0 h6 fun v24 h7 =>
  gP v22 .false (pNilCheck v24) h7 fun v25 h8 =>
  gP v22 .false (pFieldAddr 1 v25) h8 fun v26 h9 =>
  gP v22 .false (pLoad1 I v26 h9) h9 fun v27 h10 =>
  gP v22 .false (pLenSl v27) h10 fun v28 h11 =>
  gP v22 .false (pBin .gtr v28 (Z 10)) h11 fun v29 h12 =>
  kP v22 bT v29 fun v30 =>
  gV v30 .false v0 h12 fun v32 h13 =>
  gP v30 .false (pNilCheck v32) h13 fun v33 h14 =>
  gP v30 .false (pFieldAddr 2 v33) h14 fun v34 h15 =>
  gP v30 .false (pLoad1 I v34 h15) h15 fun v35 h16 =>
  gP v30 .false (pLenSl v35) h16 fun v36 h17 =>
  gP v30 .false (pBin .gtr v36 (Z 4)) h17 fun v37 h18 =>
  kP v30 bT v37 fun v38 =>
  gV v38 .false v0 h18 fun v40 h19 =>
  gP v38 .false (pNilCheck v40) h19 fun v41 h20 =>
  gP v38 .false (pFieldAddr 3 v41) h20 fun v42 h21 =>
  gP v38 .false (pLoad1 I v42 h21) h21 fun v43 h22 =>
  gP v38 .false (pLenSl v43) h22 fun v44 h23 =>
  gP v38 .false (pBin .gtr v44 (Z 12)) h23 fun v45 h24 =>
  kP v38 bT v45 fun v46 =>
  gV v46 .false v0 h24 fun v48 h25 =>
  gP v46 .false (pNilCheck v48) h25 fun v49 h26 =>
  gP v46 .false (pFieldAddr 4 v49) h26 fun v50 h27 =>
  gP v46 .false (pLoad1 I v50 h27) h27 fun v51 h28 =>
  gP v46 .false (pLenSl v51) h28 fun v52 h29 =>
  gP v46 .false (pBin .gtr v52 (Z 12)) h29 fun v53 h30 =>
  kP v46 bT v53 fun v54 =>
  gV v54 .false v0 h30 fun v56 h31 =>
  gP v54 .false (pNilCheck v56) h31 fun v57 h32 =>
  gP v54 .false (pFieldAddr 4 v57) h32 fun v58 h33 =>
  gP v54 .false (pLoad1 I v58 h33) h33 fun v59 h34 =>
  gP v54 .false (pLenSl v59) h34 fun v60 h35 =>
  gP v54 .false (pBin .eql v60 (Z 0)) h35 fun v61 h36 =>
  kP v54 bT v61 fun v62 =>
  sCond v62 (
  j.1.1.1.1 v0 h36) (
  some (bF, h36))
def f15.J (I : Inp) (call : CallFn) (n : Nat) : f15.Js :=
  Nat.rec (motive := fun _ => f15.Js) ((((Zr.z, (Zr.z, Zr.z)), ((Zr.z, Zr.z), (Zr.z, Zr.z))), (((Zr.z, Zr.z), (Zr.z, Zr.z)), ((Zr.z, Zr.z), (Zr.z, Zr.z)))), ((((Zr.z, Zr.z), (Zr.z, Zr.z)), ((Zr.z, Zr.z), (Zr.z, Zr.z))), (((Zr.z, Zr.z), (Zr.z, Zr.z)), ((Zr.z, Zr.z), (Zr.z, Zr.z))))) (fun _ j => ((((f15.b0 I call j, (f15.b1 I call j, f15.b2 I call j)), ((f15.b3 I call j, f15.b4 I call j), (f15.b5 I call j, f15.b6 I call j))), (((f15.b7 I call j, f15.b8 I call j), (f15.b9 I call j, f15.b10 I call j)), ((f15.b11 I call j, f15.b12 I call j), (f15.b13 I call j, f15.b14 I call j)))), ((((f15.b15 I call j, f15.b16 I call j), (f15.b17 I call j, f15.b18 I call j)), ((f15.b19 I call j, f15.b20 I call j), (f15.b21 I call j, f15.b22 I call j))), (((f15.b23 I call j, f15.b24 I call j), (f15.b25 I call j, f15.b26 I call j)), ((f15.b27 I call j, f15.b28 I call j), (f15.b29 I call j, f15.b30 I call j)))))) n
theorem f15.n0 : (f15.J I call (n + 1)).1.1.1.1 = f15.b0 I call (f15.J I call n) := nrfl
theorem f15.n1 : (f15.J I call (n + 1)).1.1.1.2.1 = f15.b1 I call (f15.J I call n) := nrfl
theorem f15.n2 : (f15.J I call (n + 1)).1.1.1.2.2 = f15.b2 I call (f15.J I call n) := nrfl
theorem f15.n3 : (f15.J I call (n + 1)).1.1.2.1.1 = f15.b3 I call (f15.J I call n) := nrfl
theorem f15.n4 : (f15.J I call (n + 1)).1.1.2.1.2 = f15.b4 I call (f15.J I call n) := nrfl
theorem f15.n5 : (f15.J I call (n + 1)).1.1.2.2.1 = f15.b5 I call (f15.J I call n) := nrfl
theorem f15.n6 : (f15.J I call (n + 1)).1.1.2.2.2 = f15.b6 I call (f15.J I call n) := nrfl
theorem f15.n7 : (f15.J I call (n + 1)).1.2.1.1.1 = f15.b7 I call (f15.J I call n) := nrfl
theorem f15.n8 : (f15.J I call (n + 1)).1.2.1.1.2 = f15.b8 I call (f15.J I call n) := nrfl
theorem f15.n9 : (f15.J I call (n + 1)).1.2.1.2.1 = f15.b9 I call (f15.J I call n) := nrfl
theorem f15.n10 : (f15.J I call (n + 1)).1.2.1.2.2 = f15.b10 I call (f15.J I call n) := nrfl
theorem f15.n11 : (f15.J I call (n + 1)).1.2.2.1.1 = f15.b11 I call (f15.J I call n) := nrfl
theorem f15.n12 : (f15.J I call (n + 1)).1.2.2.1.2 = f15.b12 I call (f15.J I call n) := nrfl
theorem f15.n13 : (f15.J I call (n + 1)).1.2.2.2.1 = f15.b13 I call (f15.J I call n) := nrfl
theorem f15.n14 : (f15.J I call (n + 1)).1.2.2.2.2 = f15.b14 I call (f15.J I call n) := nrfl
theorem f15.n15 : (f15.J I call (n + 1)).2.1.1.1.1 = f15.b15 I call (f15.J I call n) := nrfl
theorem f15.n16 : (f15.J I call (n + 1)).2.1.1.1.2 = f15.b16 I call (f15.J I call n) := nrfl
theorem f15.n17 : (f15.J I call (n + 1)).2.1.1.2.1 = f15.b17 I call (f15.J I call n) := nrfl
theorem f15.n18 : (f15.J I call (n + 1)).2.1.1.2.2 = f15.b18 I call (f15.J I call n) := nrfl
theorem f15.n19 : (f15.J I call (n + 1)).2.1.2.1.1 = f15.b19 I call (f15.J I call n) := nrfl
theorem f15.n20 : (f15.J I call (n + 1)).2.1.2.1.2 = f15.b20 I call (f15.J I call n) := nrfl
theorem f15.n21 : (f15.J I call (n + 1)).2.1.2.2.1 = f15.b21 I call (f15.J I call n) := nrfl
theorem f15.n22 : (f15.J I call (n + 1)).2.1.2.2.2 = f15.b22 I call (f15.J I call n) := nrfl
theorem f15.n23 : (f15.J I call (n + 1)).2.2.1.1.1 = f15.b23 I call (f15.J I call n) := nrfl
theorem f15.n24 : (f15.J I call (n + 1)).2.2.1.1.2 = f15.b24 I call (f15.J I call n) := nrfl
theorem f15.n25 : (f15.J I call (n + 1)).2.2.1.2.1 = f15.b25 I call (f15.J I call n) := nrfl
theorem f15.n26 : (f15.J I call (n + 1)).2.2.1.2.2 = f15.b26 I call (f15.J I call n) := nrfl
theorem f15.n27 : (f15.J I call (n + 1)).2.2.2.1.1 = f15.b27 I call (f15.J I call n) := nrfl
theorem f15.n28 : (f15.J I call (n + 1)).2.2.2.1.2 = f15.b28 I call (f15.J I call n) := nrfl
theorem f15.n29 : (f15.J I call (n + 1)).2.2.2.2.1 = f15.b29 I call (f15.J I call n) := nrfl
theorem f15.n30 : (f15.J I call (n + 1)).2.2.2.2.2 = f15.b30 I call (f15.J I call n) := nrfl
def f15.JS (I : Inp) (call : CallFn) (n : Nat) : Jmp := (fun j : f15.Js => jmp [Ap.ap j.1.1.1.1 [0], Ap.ap j.1.1.1.2.1 [0], Ap.ap j.1.1.1.2.2 [0, 3], Ap.ap j.1.1.2.1.1 [0, 3], Ap.ap j.1.1.2.1.2 [0, 3], Ap.ap j.1.1.2.2.1 [0], Ap.ap j.1.1.2.2.2 [0, 4], Ap.ap j.1.2.1.1.1 [0, 4], Ap.ap j.1.2.1.1.2 [0, 4], Ap.ap j.1.2.1.2.1 [0], Ap.ap j.1.2.1.2.2 [0, 5], Ap.ap j.1.2.2.1.1 [0, 5], Ap.ap j.1.2.2.1.2 [0, 5], Ap.ap j.1.2.2.2.1 [0], Ap.ap j.1.2.2.2.2 [0, 6], Ap.ap j.2.1.1.1.1 [0, 6], Ap.ap j.2.1.1.1.2 [0, 6], Ap.ap j.2.1.1.2.1 [7, 8], Ap.ap j.2.1.1.2.2 [0, 7, 8, 9], Ap.ap j.2.1.2.1.1 [0, 7, 8, 9], Ap.ap j.2.1.2.1.2 [0, 7, 8, 9], Ap.ap j.2.1.2.2.1 [0, 7, 8, 9, 10], Ap.ap j.2.1.2.2.2 [0, 7, 8, 9, 10, 11], Ap.ap j.2.2.1.1.1 [0, 7, 8, 9, 10, 11], Ap.ap j.2.2.1.1.2 [0, 7, 8, 9, 10, 11], Ap.ap j.2.2.1.2.1 [0, 7, 8, 9, 10, 11], Ap.ap j.2.2.1.2.2 [0, 7, 8, 9, 10, 11], Ap.ap j.2.2.2.1.1 [0, 7, 8, 9, 10, 11, 12], Ap.ap j.2.2.2.1.2 [0, 7, 8, 9, 10, 11, 12], Ap.ap j.2.2.2.2.1 [0, 7, 8, 9, 10, 11, 12], Ap.ap j.2.2.2.2.2 [0, 7, 8, 9, 10, 11, 12]]) (f15.J I call n)
theorem f15.S : SFn ⟨P, I, F⟩ call c15 (f15.JS I call) := .all 31 (by kernel_rfl) (fun ρ h => by kernel_rfl) (fun n ρ h => by kernel_rfl)
theorem f15.qe : Ap.all (f15.e I call (f15.J I call n)) (fun l h => execC P I call (f15.JS I call n) c15.body 0 (finV I c15.results) (argV l) h) := fun v0 h => by kernel_rfl
theorem f15.code : codeOf P 15 = some c15 := by kernel_rfl
def f15.run (I : Inp) : SF := fun call n => Ap.ar (f15.e I call (f15.J I call n))
theorem f15.ok (I : Inp) (F : Nat → Option AFn) (hF : F 15 = some (.code c15)) : SfOk P I F 15 (f15.run I) := okOf hF (by kernel_rfl) (fun _ => f15.S) fun call n => f15.qe
theorem f15.lim (hp : prims 15 = none) {v0 : AVal} (hr : Res (f15.e I (AM.lim ⟨P, I, genF P prims⟩) (f15.J I (AM.lim ⟨P, I, genF P prims⟩) n) v0 h) Q) : Res ((AM.lim ⟨P, I, genF P prims⟩) 15 [v0] h) Q := limOf (n := n) hp f15.code (f15.ok I) hr rfl
/-! haruspex/haruspexref8.Names -/
def c16 : AFunc := cOf P 16
abbrev f16.Js : Type := (((((A3 × A4) × (A4 × (A4 × A5))) × ((A5 × (A5 × A3)) × (A4 × (A4 × A4)))) × (((A4 × A5) × (A5 × (A5 × A3))) × ((A4 × (A4 × A4)) × (A5 × (A5 × A5))))) × ((((A3 × A4) × (A4 × (A4 × A6))) × ((A6 × (A6 × A2)) × (A2 × (A3 × A3)))) × (((A3 × (A5 × A6)) × (A6 × (A6 × A4))) × ((A5 × (A5 × A5)) × (A6 × (A6 × A6))))))
def f16.b0 (I : Inp) (call : CallFn) (j : f16.Js) (v0 v2 v4 : AVal) (h : AHeap) : Rs :=
  j.1.1.2.2.1 v0 v2 v4 (Z 0) h
def f16.b1 (I : Inp) (call : CallFn) (j : f16.Js) (v0 v2 v4 v5 : AVal) (h : AHeap) : Rs :=
  kN v0 fun v21 =>
  kF 0 v21 fun v22 =>
  kL I v22 h fun v23 =>
  kZ v23 fun v24 =>
  kB .lss v5 v24 fun v25 =>
  sCond v25 (
  j.1.1.1.1.1 v0 v2 v4 h) (
  j.1.1.1.2.1 v0 v2 v4 v5 h)
def f16.b2 (I : Inp) (call : CallFn) (j : f16.Js) (v0 v2 v4 v5 : AVal) (h : AHeap) : Rs :=
  j.1.1.1.2.2.2 v0 v2 v4 v5 (Z 0) h
def f16.b3 (I : Inp) (call : CallFn) (j : f16.Js) (v0 v2 v4 v5 : AVal) (h : AHeap) : Rs :=
  kB .add v5 (Z 1) fun v27 =>
  j.1.1.1.1.2 v0 v2 v4 v27 h
def f16.b4 (I : Inp) (call : CallFn) (j : f16.Js) (v0 v2 v4 v5 v6 : AVal) (h : AHeap) : Rs :=
  kN v0 fun v30 =>
  kF 0 v30 fun v31 =>
  kL I v31 h fun v32 =>
  kI 1 v32 v5 fun v34 =>
  kL I v34 h fun v35 =>
  kZ v35 fun v36 =>
  kB .lss v6 v36 fun v37 =>
  sCond v37 (
  j.1.1.1.2.2.1 v0 v2 v4 v5 h) (
  j.1.1.2.1.1 v0 v2 v4 v5 v6 h)
def f16.b5 (I : Inp) (call : CallFn) (j : f16.Js) (v0 v2 v4 v5 v6 : AVal) (h : AHeap) : Rs :=
  gV v4 .true v0 h fun v42 h1 =>
  gV v4 .true v0 h1 fun v43 h2 =>
  gP v4 .true (pNilCheck v43) h2 fun v44 h3 =>
  gP v4 .true (pFieldAddr 0 v44) h3 fun v45 h4 =>
  gP v4 .true (pLoad1 I v45 h4) h4 fun v46 h5 =>
  gV v4 .true v5 h5 fun v47 h6 =>
  gP v4 .true (pIndexAddr 1 v46 v47) h6 fun v48 h7 =>
  gP v4 .true (pLoad1 I v48 h7) h7 fun v49 h8 =>
  gV v4 .true v6 h8 fun v50 h9 =>
  gP v4 .true (pIndexAddr 2 v49 v50) h9 fun v51 h10 =>
  gP v4 .true (pLoadN I 2 v51 h10) h10 fun v52 h11 =>
  gS v4 .true (call 33 [v42, v52] h11) h11 fun v53 h12 =>
  kP v4 v53 bF fun v54 =>
  j.1.1.2.1.2.1 v0 v2 v54 v5 v6 h12
def f16.b6 (I : Inp) (call : CallFn) (j : f16.Js) (v0 v2 v4 v5 v6 : AVal) (h : AHeap) : Rs :=
  kB .add v6 (Z 1) fun v39 =>
  j.1.1.1.2.2.2 v0 v2 v4 v5 v39 h
def f16.b7 (I : Inp) (call : CallFn) (j : f16.Js) (v0 v2 v4 : AVal) (h : AHeap) : Rs :=
  j.1.2.2.1.1 v0 v2 v4 (Z 0) h
def f16.b8 (I : Inp) (call : CallFn) (j : f16.Js) (v0 v2 v4 v7 : AVal) (h : AHeap) : Rs :=
  kN v0 fun v57 =>
  kF 1 v57 fun v58 =>
  kL I v58 h fun v59 =>
  kZ v59 fun v60 =>
  kB .lss v7 v60 fun v61 =>
  sCond v61 (
  j.1.1.2.1.2.2 v0 v2 v4 h) (
  j.1.1.2.2.2.1 v0 v2 v4 v7 h)
def f16.b9 (I : Inp) (call : CallFn) (j : f16.Js) (v0 v2 v4 v7 : AVal) (h : AHeap) : Rs :=
  j.1.2.1.1.2 v0 v2 v4 v7 (Z 0) h
def f16.b10 (I : Inp) (call : CallFn) (j : f16.Js) (v0 v2 v4 v7 : AVal) (h : AHeap) : Rs :=
  kB .add v7 (Z 1) fun v63 =>
  j.1.1.2.2.1 v0 v2 v4 v63 h
def f16.b11 (I : Inp) (call : CallFn) (j : f16.Js) (v0 v2 v4 v7 : AVal) (h : AHeap) : Rs :=
  gV v4 .true v0 h fun v95 h1 =>
  gV v4 .true v0 h1 fun v96 h2 =>
  gP v4 .true (pNilCheck v96) h2 fun v97 h3 =>
  gP v4 .true (pFieldAddr 1 v97) h3 fun v98 h4 =>
  gP v4 .true (pLoad1 I v98 h4) h4 fun v99 h5 =>
  gV v4 .true v7 h5 fun v100 h6 =>
  gP v4 .true (pIndexAddr 3 v99 v100) h6 fun v101 h7 =>
  gP v4 .true (pFieldAddr 1 v101) h7 fun v102 h8 =>
  gP v4 .true (pLoadN I 2 v102 h8) h8 fun v103 h9 =>
  gS v4 .true (call 33 [v95, v103] h9) h9 fun v104 h10 =>
  kP v4 v104 bF fun v105 =>
  j.1.1.2.2.2.2 v0 v2 v105 v7 h10
def f16.b12 (I : Inp) (call : CallFn) (j : f16.Js) (v0 v2 v4 v7 v8 : AVal) (h : AHeap) : Rs :=
  kN v0 fun v66 =>
  kF 1 v66 fun v67 =>
  kL I v67 h fun v68 =>
  kI 3 v68 v7 fun v70 =>
  kF 0 v70 fun v71 =>
  kL I v71 h fun v72 =>
  kZ v72 fun v73 =>
  kB .lss v8 v73 fun v74 =>
  sCond v74 (
  j.1.2.1.1.1 v0 v2 v4 v7 h) (
  j.1.2.1.2.1 v0 v2 v4 v7 v8 h)
def f16.b13 (I : Inp) (call : CallFn) (j : f16.Js) (v0 v2 v4 v7 v8 : AVal) (h : AHeap) : Rs :=
  gV v4 .true v0 h fun v79 h1 =>
  gV v4 .true v0 h1 fun v80 h2 =>
  gP v4 .true (pNilCheck v80) h2 fun v81 h3 =>
  gP v4 .true (pFieldAddr 1 v81) h3 fun v82 h4 =>
  gP v4 .true (pLoad1 I v82 h4) h4 fun v83 h5 =>
  gV v4 .true v7 h5 fun v84 h6 =>
  gP v4 .true (pIndexAddr 3 v83 v84) h6 fun v85 h7 =>
  gP v4 .true (pFieldAddr 0 v85) h7 fun v86 h8 =>
  gP v4 .true (pLoad1 I v86 h8) h8 fun v87 h9 =>
  gV v4 .true v8 h9 fun v88 h10 =>
  gP v4 .true (pIndexAddr 2 v87 v88) h10 fun v89 h11 =>
  gP v4 .true (pLoadN I 2 v89 h11) h11 fun v90 h12 =>
  gS v4 .true (call 33 [v79, v90] h12) h12 fun v91 h13 =>
  kP v4 v91 bF fun v92 =>
  j.1.2.1.2.2.1 v0 v2 v92 v7 v8 h13
def f16.b14 (I : Inp) (call : CallFn) (j : f16.Js) (v0 v2 v4 v7 v8 : AVal) (h : AHeap) : Rs :=
  kB .add v8 (Z 1) fun v76 =>
  j.1.2.1.1.2 v0 v2 v4 v7 v76 h
def f16.b15 (I : Inp) (call : CallFn) (j : f16.Js) (v0 v2 v4 : AVal) (h : AHeap) : Rs :=
  j.2.1.1.1.2 v0 v2 v4 (Z 0) h
def f16.b16 (I : Inp) (call : CallFn) (j : f16.Js) (v0 v2 v4 v9 : AVal) (h : AHeap) : Rs :=
  kN v0 fun v108 =>
  kF 2 v108 fun v109 =>
  kL I v109 h fun v110 =>
  kZ v110 fun v111 =>
  kB .lss v9 v111 fun v112 =>
  sCond v112 (
  j.1.2.1.2.2.2 v0 v2 v4 h) (
  j.1.2.2.1.2.1 v0 v2 v4 v9 h)
def f16.b17 (I : Inp) (call : CallFn) (j : f16.Js) (v0 v2 v4 v9 : AVal) (h : AHeap) : Rs :=
  j.1.2.2.2.1 v0 v2 v4 v9 (Z 0) h
def f16.b18 (I : Inp) (call : CallFn) (j : f16.Js) (v0 v2 v4 v9 : AVal) (h : AHeap) : Rs :=
  kB .add v9 (Z 1) fun v114 =>
  j.1.2.2.1.1 v0 v2 v4 v114 h
def f16.b19 (I : Inp) (call : CallFn) (j : f16.Js) (v0 v2 v4 v9 v10 : AVal) (h : AHeap) : Rs :=
  kN v0 fun v117 =>
  kF 2 v117 fun v118 =>
  kL I v118 h fun v119 =>
  kI 1 v119 v9 fun v121 =>
  kF 0 v121 fun v122 =>
  kL I v122 h fun v123 =>
  kZ v123 fun v124 =>
  kB .lss v10 v124 fun v125 =>
  sCond v125 (
  j.1.2.2.1.2.2 v0 v2 v4 v9 h) (
  j.1.2.2.2.2.1 v0 v2 v4 v9 v10 h)
def f16.b20 (I : Inp) (call : CallFn) (j : f16.Js) (v0 v2 v4 v9 v10 : AVal) (h : AHeap) : Rs :=
  gV v4 .true v0 h fun v130 h1 =>
  gP v4 .true (pNilCheck v130) h1 fun v131 h2 =>
  gP v4 .true (pFieldAddr 2 v131) h2 fun v132 h3 =>
  gP v4 .true (pLoad1 I v132 h3) h3 fun v133 h4 =>
  gV v4 .true v9 h4 fun v134 h5 =>
  gP v4 .true (pIndexAddr 1 v133 v134) h5 fun v135 h6 =>
  gP v4 .true (pFieldAddr 0 v135) h6 fun v136 h7 =>
  gP v4 .true (pLoad1 I v136 h7) h7 fun v137 h8 =>
  gV v4 .true v10 h8 fun v138 h9 =>
  gP v4 .true (pIndexAddr 1 v137 v138) h9 fun v139 h10 =>
  gP v4 .true (pLoad1 I v139 h10) h10 fun v140 h11 =>
  gV v4 .true v0 h11 fun v141 h12 =>
  gP v4 .true (pNilCheck v141) h12 fun v142 h13 =>
  gP v4 .true (pFieldAddr 1 v142) h13 fun v143 h14 =>
  gP v4 .true (pLoad1 I v143 h14) h14 fun v144 h15 =>
  gP v4 .true (pLenSl v144) h15 fun v145 h16 =>
  gS v4 .true (call 34 [v140, v145] h16) h16 fun v146 h17 =>
  kP v4 v146 bF fun v147 =>
  j.1.2.2.2.2.2 v0 v2 v147 v9 v10 h17
def f16.b21 (I : Inp) (call : CallFn) (j : f16.Js) (v0 v2 v4 v9 v10 : AVal) (h : AHeap) : Rs :=
  kB .add v10 (Z 1) fun v127 =>
  j.1.2.2.2.1 v0 v2 v4 v9 v127 h
def f16.b22 (I : Inp) (call : CallFn) (j : f16.Js) (v0 v2 v4 : AVal) (h : AHeap) : Rs :=
  kU .not v4 fun v207 =>
  sCond v207 (
  j.2.1.2.1.2.2 v0 v2 h) (
  kC call 14 [] h fun v208 h1 =>
  kS 3 v2 v208 h1 fun _ h2 =>
  sRet (sCons (sResN I 3 v2 h2) (sCons (some bF) (some []))) h2)
def f16.b23 (I : Inp) (call : CallFn) (j : f16.Js) (v0 v2 v4 v11 : AVal) (h : AHeap) : Rs :=
  kN v0 fun v150 =>
  kF 3 v150 fun v151 =>
  kL I v151 h fun v152 =>
  kZ v152 fun v153 =>
  kB .lss v11 v153 fun v154 =>
  sCond v154 (
  j.2.1.1.1.1 v0 v2 v4 h) (
  j.2.1.1.2.1 v0 v2 v4 v11 h)
def f16.b24 (I : Inp) (call : CallFn) (j : f16.Js) (v0 v2 v4 v11 : AVal) (h : AHeap) : Rs :=
  kN v0 fun v158 =>
  kF 3 v158 fun v159 =>
  kL I v159 h fun v160 =>
  kI 3 v160 v11 fun v162 =>
  kM I 3 v162 h fun v163 =>
  kA [(Z 0), (Z 0), .nils] h fun v12 h1 =>
  kS 3 v12 v163 h1 fun _ h2 =>
  gP v4 .true (pFieldAddr 0 v12) h2 fun v166 h3 =>
  gP v4 .true (pLoad1 I v166 h3) h3 fun v167 h4 =>
  gV v4 .true v0 h4 fun v168 h5 =>
  gP v4 .true (pNilCheck v168) h5 fun v169 h6 =>
  gP v4 .true (pFieldAddr 0 v169) h6 fun v170 h7 =>
  gP v4 .true (pLoad1 I v170 h7) h7 fun v171 h8 =>
  gP v4 .true (pLenSl v171) h8 fun v172 h9 =>
  gS v4 .true (call 34 [v167, v172] h9) h9 fun v173 h10 =>
  kP v4 v173 bF fun v174 =>
  gP v174 .true (pFieldAddr 1 v12) h10 fun v176 h11 =>
  gP v174 .true (pLoad1 I v176 h11) h11 fun v177 h12 =>
  gV v174 .true v0 h12 fun v178 h13 =>
  gP v174 .true (pNilCheck v178) h13 fun v179 h14 =>
  gP v174 .true (pFieldAddr 2 v179) h14 fun v180 h15 =>
  gP v174 .true (pLoad1 I v180 h15) h15 fun v181 h16 =>
  gP v174 .true (pLenSl v181) h16 fun v182 h17 =>
  gS v174 .true (call 34 [v177, v182] h17) h17 fun v183 h18 =>
  kP v174 v183 bF fun v184 =>
  j.2.1.1.2.2.2 v0 v2 v184 v11 v12 (Z 0) h18
def f16.b25 (I : Inp) (call : CallFn) (j : f16.Js) (v0 v2 v4 v11 : AVal) (h : AHeap) : Rs :=
  kB .add v11 (Z 1) fun v156 =>
  j.2.1.1.1.2 v0 v2 v4 v156 h
def f16.b26 (I : Inp) (call : CallFn) (j : f16.Js) (v0 v2 v4 v11 v12 v13 : AVal) (h : AHeap) : Rs :=
  kF 2 v12 fun v186 =>
  kL I v186 h fun v187 =>
  kZ v187 fun v188 =>
  kB .lss v13 v188 fun v189 =>
  sCond v189 (
  j.2.1.1.2.2.1 v0 v2 v4 v11 h) (
  j.2.1.2.1.1 v0 v2 v4 v11 v12 v13 h)
def f16.b27 (I : Inp) (call : CallFn) (j : f16.Js) (v0 v2 v4 v11 v12 v13 : AVal) (h : AHeap) : Rs :=
  gP v4 .true (pFieldAddr 2 v12) h fun v194 h1 =>
  gP v4 .true (pLoad1 I v194 h1) h1 fun v195 h2 =>
  gV v4 .true v13 h2 fun v196 h3 =>
  gP v4 .true (pIndexAddr 1 v195 v196) h3 fun v197 h4 =>
  gP v4 .true (pLoad1 I v197 h4) h4 fun v198 h5 =>
  gV v4 .true v0 h5 fun v199 h6 =>
  gP v4 .true (pNilCheck v199) h6 fun v200 h7 =>
  gP v4 .true (pFieldAddr 4 v200) h7 fun v201 h8 =>
  gP v4 .true (pLoad1 I v201 h8) h8 fun v202 h9 =>
  gP v4 .true (pLenSl v202) h9 fun v203 h10 =>
  gS v4 .true (call 34 [v198, v203] h10) h10 fun v204 h11 =>
  kP v4 v204 bF fun v205 =>
  j.2.1.2.1.2.1 v0 v2 v205 v11 v12 v13 h11
def f16.b28 (I : Inp) (call : CallFn) (j : f16.Js) (v0 v2 v4 v11 v12 v13 : AVal) (h : AHeap) : Rs :=
  kB .add v13 (Z 1) fun v191 =>
  j.2.1.1.2.2.2 v0 v2 v4 v11 v12 v191 h
def f16.b29 (I : Inp) (call : CallFn) (j : f16.Js) (v0 v2 : AVal) (h : AHeap) : Rs :=
  j.2.1.2.2.2.1 v0 v2 (Z 0) h
def f16.b30 (I : Inp) (call : CallFn) (j : f16.Js) (v0 v2 : AVal) (h : AHeap) : Rs :=
  kC call 14 [] h fun v320 h1 =>
  kN v0 fun v322 =>
  kF 5 v322 fun v323 =>
  kL I v323 h1 fun v324 =>
  kN v0 fun v326 =>
  kF 4 v326 fun v327 =>
  kL I v327 h1 fun v328 =>
  kZ v328 fun v329 =>
  kC call 34 [v324, v329] h1 fun v330 h2 =>
  kS 3 v2 v320 h2 fun _ h3 =>
  sCheck (sSame (lift (pLoad1 I v323 h) h) v324 && true) (
  sCheck (sSame (lift (pLoad1 I v327 h) h) v328 && true) (
  sRet (sCons (sResN I 3 v2 h3) (sCons (some v330) (some []))) h3))
def f16.b31 (I : Inp) (call : CallFn) (j : f16.Js) (v0 v2 v14 : AVal) (h : AHeap) : Rs :=
  kN v0 fun v211 =>
  kF 4 v211 fun v212 =>
  kL I v212 h fun v213 =>
  kZ v213 fun v214 =>
  kB .lss v14 v214 fun v215 =>
  sCond v215 (
  j.2.1.2.2.1 v0 v2 h) (
  j.2.1.2.2.2.2 v0 v2 v14 h)
def f16.b32 (I : Inp) (call : CallFn) (j : f16.Js) (v0 v2 v14 : AVal) (h : AHeap) : Rs :=
  kN v0 fun v219 =>
  kF 4 v219 fun v220 =>
  kL I v220 h fun v221 =>
  kI 3 v221 v14 fun v223 =>
  kM I 3 v223 h fun v224 =>
  kA [(Z 0), .nils, .nils] h fun v15 h1 =>
  kS 3 v15 v224 h1 fun _ h2 =>
  kF 0 v15 fun v225 =>
  kL I v225 h2 fun v226 =>
  kN v0 fun v228 =>
  kF 1 v228 fun v229 =>
  kL I v229 h2 fun v230 =>
  kZ v230 fun v231 =>
  kC call 34 [v226, v231] h2 fun v232 h3 =>
  j.2.2.1.1.2.2 v0 v2 v232 v14 v15 (Z 0) h3
def f16.b33 (I : Inp) (call : CallFn) (j : f16.Js) (v0 v2 v14 : AVal) (h : AHeap) : Rs :=
  kB .add v14 (Z 1) fun v217 =>
  j.2.1.2.2.2.1 v0 v2 v217 h
def f16.b34 (I : Inp) (call : CallFn) (j : f16.Js) (v0 v2 v4 v14 v15 : AVal) (h : AHeap) : Rs :=
  kU .not v4 fun v251 =>
  sCond v251 (
  j.2.2.1.2.2.2 v0 v2 v14 v15 h) (
  kC call 14 [] h fun v252 h1 =>
  kS 3 v2 v252 h1 fun _ h2 =>
  sRet (sCons (sResN I 3 v2 h2) (sCons (some bF) (some []))) h2)
def f16.b35 (I : Inp) (call : CallFn) (j : f16.Js) (v0 v2 v4 v14 v15 v16 : AVal) (h : AHeap) : Rs :=
  kF 1 v15 fun v234 =>
  kL I v234 h fun v235 =>
  kZ v235 fun v236 =>
  kB .lss v16 v236 fun v237 =>
  sCond v237 (
  j.2.2.1.1.2.1 v0 v2 v4 v14 v15 h) (
  j.2.2.1.2.1 v0 v2 v4 v14 v15 v16 h)
def f16.b36 (I : Inp) (call : CallFn) (j : f16.Js) (v0 v2 v4 v14 v15 v16 : AVal) (h : AHeap) : Rs :=
  gV v4 .true v0 h fun v242 h1 =>
  gP v4 .true (pFieldAddr 1 v15) h1 fun v243 h2 =>
  gP v4 .true (pLoad1 I v243 h2) h2 fun v244 h3 =>
  gV v4 .true v16 h3 fun v245 h4 =>
  gP v4 .true (pIndexAddr 2 v244 v245) h4 fun v246 h5 =>
  gP v4 .true (pLoadN I 2 v246 h5) h5 fun v247 h6 =>
  gS v4 .true (call 33 [v242, v247] h6) h6 fun v248 h7 =>
  kP v4 v248 bF fun v249 =>
  j.2.2.1.2.2.1 v0 v2 v249 v14 v15 v16 h7
def f16.b37 (I : Inp) (call : CallFn) (j : f16.Js) (v0 v2 v4 v14 v15 v16 : AVal) (h : AHeap) : Rs :=
  kB .add v16 (Z 1) fun v239 =>
  j.2.2.1.1.2.2 v0 v2 v4 v14 v15 v239 h
def f16.b38 (I : Inp) (call : CallFn) (j : f16.Js) (v0 v2 v14 v15 : AVal) (h : AHeap) : Rs :=
  j.2.2.2.1.1 v0 v2 v14 v15 (Z 0) h
def f16.b39 (I : Inp) (call : CallFn) (j : f16.Js) (v0 v2 v14 v15 v17 : AVal) (h : AHeap) : Rs :=
  kF 2 v15 fun v254 =>
  kL I v254 h fun v255 =>
  kZ v255 fun v256 =>
  kB .lss v17 v256 fun v257 =>
  sCond v257 (
  j.2.2.1.1.1 v0 v2 v14 h) (
  j.2.2.2.1.2.1 v0 v2 v14 v15 v17 h)
def f16.b40 (I : Inp) (call : CallFn) (j : f16.Js) (v0 v2 v14 v15 v17 : AVal) (h : AHeap) : Rs :=
  j.2.2.2.2.1 v0 v2 v14 v15 v17 (Z 0) h
def f16.b41 (I : Inp) (call : CallFn) (j : f16.Js) (v0 v2 v14 v15 v17 : AVal) (h : AHeap) : Rs :=
  kB .add v17 (Z 1) fun v259 =>
  j.2.2.2.1.1 v0 v2 v14 v15 v259 h
def f16.b42 (I : Inp) (call : CallFn) (j : f16.Js) (v0 v2 v14 v15 v17 v18 : AVal) (h : AHeap) : Rs :=
  kF 2 v15 fun v261 =>
  kL I v261 h fun v262 =>
  kI 5 v262 v17 fun v264 =>
  kF 0 v264 fun v265 =>
  kL I v265 h fun v266 =>
  kZ v266 fun v267 =>
  kB .leq v18 v267 fun v268 =>
  sCond v268 (
  j.2.2.2.1.2.2 v0 v2 v14 v15 v17 h) (
  j.2.2.2.2.2.1 v0 v2 v14 v15 v17 v18 h)
def f16.b43 (I : Inp) (call : CallFn) (j : f16.Js) (v0 v2 v14 v15 v17 v18 : AVal) (h : AHeap) : Rs :=
  kF 2 v15 fun v272 =>
  kL I v272 h fun v273 =>
  kI 5 v273 v17 fun v275 =>
  kF 0 v275 fun v276 =>
  kL I v276 h fun v277 =>
  kZ v277 fun v278 =>
  kB .lss v18 v278 fun v279 =>
  gV v279 .true v0 h fun v281 h1 =>
  gP v279 .true (pLoadN I 3 v15 h1) h1 fun v282 h2 =>
  gP v279 .true (pFieldAddr 2 v15) h2 fun v283 h3 =>
  gP v279 .true (pLoad1 I v283 h3) h3 fun v284 h4 =>
  gV v279 .true v17 h4 fun v285 h5 =>
  gP v279 .true (pIndexAddr 5 v284 v285) h5 fun v286 h6 =>
  gP v279 .true (pFieldAddr 0 v286) h6 fun v287 h7 =>
  gP v279 .true (pLoad1 I v287 h7) h7 fun v288 h8 =>
  gV v279 .true v18 h8 fun v289 h9 =>
  gP v279 .true (pIndexAddr 6 v288 v289) h9 fun v290 h10 =>
  gP v279 .true (pLoadN I 6 v290 h10) h10 fun v291 h11 =>
  gS v279 .true (call 35 [v281, v282, v291] h11) h11 fun v292 h12 =>
  gP v279 .true (pUn .not v292) h12 fun v293 h13 =>
  kP v279 v293 bF fun v294 =>
  gV v294 .false v18 h13 fun v296 h14 =>
  gP v294 .false (pFieldAddr 2 v15) h14 fun v297 h15 =>
  gP v294 .false (pLoad1 I v297 h15) h15 fun v298 h16 =>
  gV v294 .false v17 h16 fun v299 h17 =>
  gP v294 .false (pIndexAddr 5 v298 v299) h17 fun v300 h18 =>
  gP v294 .false (pFieldAddr 0 v300) h18 fun v301 h19 =>
  gP v294 .false (pLoad1 I v301 h19) h19 fun v302 h20 =>
  gP v294 .false (pLenSl v302) h20 fun v303 h21 =>
  gP v294 .false (pBin .eql v296 v303) h21 fun v304 h22 =>
  gV v294 .false v304 h22 fun v305 h23 =>
  gP v305 .true (pLoadN I 3 v15 h23) h23 fun v306 h24 =>
  gP v305 .true (pFieldAddr 2 v15) h24 fun v307 h25 =>
  gP v305 .true (pLoad1 I v307 h25) h25 fun v308 h26 =>
  gV v305 .true v17 h26 fun v309 h27 =>
  gP v305 .true (pIndexAddr 5 v308 v309) h27 fun v310 h28 =>
  gP v305 .true (pLoadN I 5 v310 h28) h28 fun v311 h29 =>
  gS v305 .true (call 36 [v306, v311] h29) h29 fun v312 h30 =>
  gP v305 .true (pUn .not v312) h30 fun v313 h31 =>
  gP v294 .false (pPick v305 v313 bF) h31 fun v314 h32 =>
  kP v294 bT v314 fun v315 =>
  sCond v315 (
  j.2.2.2.2.2.2 v0 v2 v14 v15 v17 v18 h32) (
  bndP (pBuild [(Z 0), (Z 0), (Z 0)] [(0, 1, v14), (1, 1, v17), (2, 1, v18)]) fun v319 =>
  kS 3 v2 v319 h32 fun _ h33 =>
  sRet (sCons (sResN I 3 v2 h33) (sCons (some bF) (some []))) h33)
def f16.b44 (I : Inp) (call : CallFn) (j : f16.Js) (v0 v2 v14 v15 v17 v18 : AVal) (h : AHeap) : Rs :=
  kB .add v18 (Z 1) fun v270 =>
  j.2.2.2.2.1 v0 v2 v14 v15 v17 v270 h
def f16.e (I : Inp) (call : CallFn) (j : f16.Js) (v0 : AVal) (h : AHeap) : Rs :=
  kA [(Z 0), (Z 0), (Z 0)] h fun v2 h1 =>
  j.1.1.1.1.2 v0 v2 bT (Z 0) h1
def f16.J (I : Inp) (call : CallFn) (n : Nat) : f16.Js :=
  Nat.rec (motive := fun _ => f16.Js) (((((Zr.z, Zr.z), (Zr.z, (Zr.z, Zr.z))), ((Zr.z, (Zr.z, Zr.z)), (Zr.z, (Zr.z, Zr.z)))), (((Zr.z, Zr.z), (Zr.z, (Zr.z, Zr.z))), ((Zr.z, (Zr.z, Zr.z)), (Zr.z, (Zr.z, Zr.z))))), ((((Zr.z, Zr.z), (Zr.z, (Zr.z, Zr.z))), ((Zr.z, (Zr.z, Zr.z)), (Zr.z, (Zr.z, Zr.z)))), (((Zr.z, (Zr.z, Zr.z)), (Zr.z, (Zr.z, Zr.z))), ((Zr.z, (Zr.z, Zr.z)), (Zr.z, (Zr.z, Zr.z)))))) (fun _ j => (((((f16.b0 I call j, f16.b1 I call j), (f16.b2 I call j, (f16.b3 I call j, f16.b4 I call j))), ((f16.b5 I call j, (f16.b6 I call j, f16.b7 I call j)), (f16.b8 I call j, (f16.b9 I call j, f16.b10 I call j)))), (((f16.b11 I call j, f16.b12 I call j), (f16.b13 I call j, (f16.b14 I call j, f16.b15 I call j))), ((f16.b16 I call j, (f16.b17 I call j, f16.b18 I call j)), (f16.b19 I call j, (f16.b20 I call j, f16.b21 I call j))))), ((((f16.b22 I call j, f16.b23 I call j), (f16.b24 I call j, (f16.b25 I call j, f16.b26 I call j))), ((f16.b27 I call j, (f16.b28 I call j, f16.b29 I call j)), (f16.b30 I call j, (f16.b31 I call j, f16.b32 I call j)))), (((f16.b33 I call j, (f16.b34 I call j, f16.b35 I call j)), (f16.b36 I call j, (f16.b37 I call j, f16.b38 I call j))), ((f16.b39 I call j, (f16.b40 I call j, f16.b41 I call j)), (f16.b42 I call j, (f16.b43 I call j, f16.b44 I call j))))))) n
theorem f16.n0 : (f16.J I call (n + 1)).1.1.1.1.1 = f16.b0 I call (f16.J I call n) := nrfl
theorem f16.n1 : (f16.J I call (n + 1)).1.1.1.1.2 = f16.b1 I call (f16.J I call n) := nrfl
theorem f16.n2 : (f16.J I call (n + 1)).1.1.1.2.1 = f16.b2 I call (f16.J I call n) := nrfl
theorem f16.n3 : (f16.J I call (n + 1)).1.1.1.2.2.1 = f16.b3 I call (f16.J I call n) := nrfl
theorem f16.n4 : (f16.J I call (n + 1)).1.1.1.2.2.2 = f16.b4 I call (f16.J I call n) := nrfl
theorem f16.n5 : (f16.J I call (n + 1)).1.1.2.1.1 = f16.b5 I call (f16.J I call n) := nrfl
theorem f16.n6 : (f16.J I call (n + 1)).1.1.2.1.2.1 = f16.b6 I call (f16.J I call n) := nrfl
theorem f16.n7 : (f16.J I call (n + 1)).1.1.2.1.2.2 = f16.b7 I call (f16.J I call n) := nrfl
theorem f16.n8 : (f16.J I call (n + 1)).1.1.2.2.1 = f16.b8 I call (f16.J I call n) := nrfl
theorem f16.n9 : (f16.J I call (n + 1)).1.1.2.2.2.1 = f16.b9 I call (f16.J I call n) := nrfl
theorem f16.n10 : (f16.J I call (n + 1)).1.1.2.2.2.2 = f16.b10 I call (f16.J I call n) := nrfl
theorem f16.n11 : (f16.J I call (n + 1)).1.2.1.1.1 = f16.b11 I call (f16.J I call n) := nrfl
theorem f16.n12 : (f16.J I call (n + 1)).1.2.1.1.2 = f16.b12 I call (f16.J I call n) := nrfl
theorem f16.n13 : (f16.J I call (n + 1)).1.2.1.2.1 = f16.b13 I call (f16.J I call n) := nrfl
theorem f16.n14 : (f16.J I call (n + 1)).1.2.1.2.2.1 = f16.b14 I call (f16.J I call n) := nrfl
theorem f16.n15 : (f16.J I call (n + 1)).1.2.1.2.2.2 = f16.b15 I call (f16.J I call n) := nrfl
theorem f16.n16 : (f16.J I call (n + 1)).1.2.2.1.1 = f16.b16 I call (f16.J I call n) := nrfl
theorem f16.n17 : (f16.J I call (n + 1)).1.2.2.1.2.1 = f16.b17 I call (f16.J I call n) := nrfl
theorem f16.n18 : (f16.J I call (n + 1)).1.2.2.1.2.2 = f16.b18 I call (f16.J I call n) := nrfl
theorem f16.n19 : (f16.J I call (n + 1)).1.2.2.2.1 = f16.b19 I call (f16.J I call n) := nrfl
theorem f16.n20 : (f16.J I call (n + 1)).1.2.2.2.2.1 = f16.b20 I call (f16.J I call n) := nrfl
theorem f16.n21 : (f16.J I call (n + 1)).1.2.2.2.2.2 = f16.b21 I call (f16.J I call n) := nrfl
theorem f16.n22 : (f16.J I call (n + 1)).2.1.1.1.1 = f16.b22 I call (f16.J I call n) := nrfl
theorem f16.n23 : (f16.J I call (n + 1)).2.1.1.1.2 = f16.b23 I call (f16.J I call n) := nrfl
theorem f16.n24 : (f16.J I call (n + 1)).2.1.1.2.1 = f16.b24 I call (f16.J I call n) := nrfl
theorem f16.n25 : (f16.J I call (n + 1)).2.1.1.2.2.1 = f16.b25 I call (f16.J I call n) := nrfl
theorem f16.n26 : (f16.J I call (n + 1)).2.1.1.2.2.2 = f16.b26 I call (f16.J I call n) := nrfl
theorem f16.n27 : (f16.J I call (n + 1)).2.1.2.1.1 = f16.b27 I call (f16.J I call n) := nrfl
theorem f16.n28 : (f16.J I call (n + 1)).2.1.2.1.2.1 = f16.b28 I call (f16.J I call n) := nrfl
theorem f16.n29 : (f16.J I call (n + 1)).2.1.2.1.2.2 = f16.b29 I call (f16.J I call n) := nrfl
theorem f16.n30 : (f16.J I call (n + 1)).2.1.2.2.1 = f16.b30 I call (f16.J I call n) := nrfl
theorem f16.n31 : (f16.J I call (n + 1)).2.1.2.2.2.1 = f16.b31 I call (f16.J I call n) := nrfl
theorem f16.n32 : (f16.J I call (n + 1)).2.1.2.2.2.2 = f16.b32 I call (f16.J I call n) := nrfl
theorem f16.n33 : (f16.J I call (n + 1)).2.2.1.1.1 = f16.b33 I call (f16.J I call n) := nrfl
theorem f16.n34 : (f16.J I call (n + 1)).2.2.1.1.2.1 = f16.b34 I call (f16.J I call n) := nrfl
theorem f16.n35 : (f16.J I call (n + 1)).2.2.1.1.2.2 = f16.b35 I call (f16.J I call n) := nrfl
theorem f16.n36 : (f16.J I call (n + 1)).2.2.1.2.1 = f16.b36 I call (f16.J I call n) := nrfl
theorem f16.n37 : (f16.J I call (n + 1)).2.2.1.2.2.1 = f16.b37 I call (f16.J I call n) := nrfl
theorem f16.n38 : (f16.J I call (n + 1)).2.2.1.2.2.2 = f16.b38 I call (f16.J I call n) := nrfl
theorem f16.n39 : (f16.J I call (n + 1)).2.2.2.1.1 = f16.b39 I call (f16.J I call n) := nrfl
theorem f16.n40 : (f16.J I call (n + 1)).2.2.2.1.2.1 = f16.b40 I call (f16.J I call n) := nrfl
theorem f16.n41 : (f16.J I call (n + 1)).2.2.2.1.2.2 = f16.b41 I call (f16.J I call n) := nrfl
theorem f16.n42 : (f16.J I call (n + 1)).2.2.2.2.1 = f16.b42 I call (f16.J I call n) := nrfl
theorem f16.n43 : (f16.J I call (n + 1)).2.2.2.2.2.1 = f16.b43 I call (f16.J I call n) := nrfl
theorem f16.n44 : (f16.J I call (n + 1)).2.2.2.2.2.2 = f16.b44 I call (f16.J I call n) := nrfl
def f16.JS (I : Inp) (call : CallFn) (n : Nat) : Jmp := (fun j : f16.Js => jmp [Ap.ap j.1.1.1.1.1 [0, 2, 4], Ap.ap j.1.1.1.1.2 [0, 2, 4, 5], Ap.ap j.1.1.1.2.1 [0, 2, 4, 5], Ap.ap j.1.1.1.2.2.1 [0, 2, 4, 5], Ap.ap j.1.1.1.2.2.2 [0, 2, 4, 5, 6], Ap.ap j.1.1.2.1.1 [0, 2, 4, 5, 6], Ap.ap j.1.1.2.1.2.1 [0, 2, 4, 5, 6], Ap.ap j.1.1.2.1.2.2 [0, 2, 4], Ap.ap j.1.1.2.2.1 [0, 2, 4, 7], Ap.ap j.1.1.2.2.2.1 [0, 2, 4, 7], Ap.ap j.1.1.2.2.2.2 [0, 2, 4, 7], Ap.ap j.1.2.1.1.1 [0, 2, 4, 7], Ap.ap j.1.2.1.1.2 [0, 2, 4, 7, 8], Ap.ap j.1.2.1.2.1 [0, 2, 4, 7, 8], Ap.ap j.1.2.1.2.2.1 [0, 2, 4, 7, 8], Ap.ap j.1.2.1.2.2.2 [0, 2, 4], Ap.ap j.1.2.2.1.1 [0, 2, 4, 9], Ap.ap j.1.2.2.1.2.1 [0, 2, 4, 9], Ap.ap j.1.2.2.1.2.2 [0, 2, 4, 9], Ap.ap j.1.2.2.2.1 [0, 2, 4, 9, 10], Ap.ap j.1.2.2.2.2.1 [0, 2, 4, 9, 10], Ap.ap j.1.2.2.2.2.2 [0, 2, 4, 9, 10], Ap.ap j.2.1.1.1.1 [0, 2, 4], Ap.ap j.2.1.1.1.2 [0, 2, 4, 11], Ap.ap j.2.1.1.2.1 [0, 2, 4, 11], Ap.ap j.2.1.1.2.2.1 [0, 2, 4, 11], Ap.ap j.2.1.1.2.2.2 [0, 2, 4, 11, 12, 13], Ap.ap j.2.1.2.1.1 [0, 2, 4, 11, 12, 13], Ap.ap j.2.1.2.1.2.1 [0, 2, 4, 11, 12, 13], Ap.ap j.2.1.2.1.2.2 [0, 2], Ap.ap j.2.1.2.2.1 [0, 2], Ap.ap j.2.1.2.2.2.1 [0, 2, 14], Ap.ap j.2.1.2.2.2.2 [0, 2, 14], Ap.ap j.2.2.1.1.1 [0, 2, 14], Ap.ap j.2.2.1.1.2.1 [0, 2, 4, 14, 15], Ap.ap j.2.2.1.1.2.2 [0, 2, 4, 14, 15, 16], Ap.ap j.2.2.1.2.1 [0, 2, 4, 14, 15, 16], Ap.ap j.2.2.1.2.2.1 [0, 2, 4, 14, 15, 16], Ap.ap j.2.2.1.2.2.2 [0, 2, 14, 15], Ap.ap j.2.2.2.1.1 [0, 2, 14, 15, 17], Ap.ap j.2.2.2.1.2.1 [0, 2, 14, 15, 17], Ap.ap j.2.2.2.1.2.2 [0, 2, 14, 15, 17], Ap.ap j.2.2.2.2.1 [0, 2, 14, 15, 17, 18], Ap.ap j.2.2.2.2.2.1 [0, 2, 14, 15, 17, 18], Ap.ap j.2.2.2.2.2.2 [0, 2, 14, 15, 17, 18]]) (f16.J I call n)
theorem f16.S : SFn ⟨P, I, F⟩ call c16 (f16.JS I call) := .all 45 (by kernel_rfl) (fun ρ h => by kernel_rfl) (fun n ρ h => by kernel_rfl)
theorem f16.qe : Ap.all (f16.e I call (f16.J I call n)) (fun l h => execC P I call (f16.JS I call n) c16.body 0 (finV I c16.results) (argV l) h) := fun v0 h => by kernel_rfl
theorem f16.code : codeOf P 16 = some c16 := by kernel_rfl
def f16.run (I : Inp) : SF := fun call n => Ap.ar (f16.e I call (f16.J I call n))
theorem f16.ok (I : Inp) (F : Nat → Option AFn) (hF : F 16 = some (.code c16)) : SfOk P I F 16 (f16.run I) := okOf hF (by kernel_rfl) (fun _ => f16.S) fun call n => f16.qe
theorem f16.lim (hp : prims 16 = none) {v0 : AVal} (hr : Res (f16.e I (AM.lim ⟨P, I, genF P prims⟩) (f16.J I (AM.lim ⟨P, I, genF P prims⟩) n) v0 h) Q) : Res ((AM.lim ⟨P, I, genF P prims⟩) 16 [v0] h) Q := limOf (n := n) hp f16.code (f16.ok I) hr rfl
/-! haruspex/haruspexref8.Methods -/
def c17 : AFunc := cOf P 17
abbrev f17.Js : Type := (((A0 × (A2 × A2)) × (A2 × (A4 × A5))) × ((A5 × (A5 × A7)) × (A8 × (A8 × A8))))
def f17.b0 (I : Inp) (call : CallFn) (j : f17.Js) (h : AHeap) : Rs :=
  some (bT, h)
def f17.b1 (I : Inp) (call : CallFn) (j : f17.Js) (v0 v3 : AVal) (h : AHeap) : Rs :=
  kN v0 fun v12 =>
  kF 3 v12 fun v13 =>
  kL I v13 h fun v14 =>
  kZ v14 fun v15 =>
  kB .lss v3 v15 fun v16 =>
  sCond v16 (
  j.1.1.1 h) (
  j.1.1.2.2 v0 v3 h)
def f17.b2 (I : Inp) (call : CallFn) (j : f17.Js) (v0 v3 : AVal) (h : AHeap) : Rs :=
  kN v0 fun v20 =>
  kF 3 v20 fun v21 =>
  kL I v21 h fun v22 =>
  kI 3 v22 v3 fun v24 =>
  kM I 3 v24 h fun v25 =>
  kA [(Z 0), (Z 0), .nils] h fun v4 h1 =>
  kS 3 v4 v25 h1 fun _ h2 =>
  kN v0 fun v27 =>
  kF 2 v27 fun v28 =>
  kL I v28 h2 fun v29 =>
  kF 1 v4 fun v30 =>
  kL I v30 h2 fun v31 =>
  kI 1 v29 v31 fun v32 =>
  kF 0 v32 fun v33 =>
  kL I v33 h2 fun v34 =>
  kF 2 v4 fun v35 =>
  kL I v35 h2 fun v36 =>
  kZ v36 fun v37 =>
  kZ v34 fun v39 =>
  kB .neq v37 v39 fun v40 =>
  gV v40 .false v0 h2 fun v42 h3 =>
  gP v40 .false (pFieldAddr 0 v4) h3 fun v43 h4 =>
  gP v40 .false (pLoad1 I v43 h4) h4 fun v44 h5 =>
  gP v40 .false (pFieldAddr 1 v4) h5 fun v45 h6 =>
  gP v40 .false (pLoad1 I v45 h6) h6 fun v46 h7 =>
  gS v40 .false (call 37 [v42, v44, v46] h7) h7 fun v47 h8 =>
  gV v40 .false v3 h8 fun v48 h9 =>
  gP v40 .false (pBin .neq v47 v48) h9 fun v49 h10 =>
  kP v40 bT v49 fun v50 =>
  sCond v50 (
  j.1.2.2.1 v0 v3 v4 v34 h10) (
  some (bF, h10))
def f17.b3 (I : Inp) (call : CallFn) (j : f17.Js) (v0 v3 : AVal) (h : AHeap) : Rs :=
  kB .add v3 (Z 1) fun v18 =>
  j.1.1.2.1 v0 v18 h
def f17.b4 (I : Inp) (call : CallFn) (j : f17.Js) (v0 v3 v4 v5 : AVal) (h : AHeap) : Rs :=
  j.1.2.2.2 v0 v3 v4 v5 (Z 0) h
def f17.b5 (I : Inp) (call : CallFn) (j : f17.Js) (v0 v3 v4 v5 v6 : AVal) (h : AHeap) : Rs :=
  kZ v5 fun v53 =>
  kB .lss v6 v53 fun v54 =>
  sCond v54 (
  j.1.2.1 v0 v3 h) (
  j.2.1.1 v0 v3 v4 v5 v6 h)
def f17.b6 (I : Inp) (call : CallFn) (j : f17.Js) (v0 v3 v4 v5 v6 : AVal) (h : AHeap) : Rs :=
  sKeep 1 h fun h1 =>
  kN v0 fun v58 =>
  kF 1 v58 fun v59 =>
  kL I v59 h1 fun v60 =>
  kN v0 fun v62 =>
  kF 4 v62 fun v63 =>
  kL I v63 h1 fun v64 =>
  kF 2 v4 fun v65 =>
  kL I v65 h1 fun v66 =>
  kI 1 v66 v6 fun v68 =>
  kL I v68 h1 fun v69 =>
  kI 3 v64 v69 fun v70 =>
  kF 0 v70 fun v71 =>
  kL I v71 h1 fun v72 =>
  kI 3 v60 v72 fun v73 =>
  kM I 3 v73 h1 fun v74 =>
  bnd (sResvAlloc (h.next + 0) [.nils, (Z 0), (Z 0)] h1) fun v7 h2 =>
  bnd (sResvAlloc (h.next + 1) [.nils, (Z 0), (Z 0)] h2) fun v8 h3 =>
  kS 3 v7 v74 h3 fun _ h4 =>
  kN v0 fun v76 =>
  kF 1 v76 fun v77 =>
  kL I v77 h4 fun v78 =>
  kI 1 v5 v6 fun v81 =>
  kL I v81 h4 fun v82 =>
  kI 3 v78 v82 fun v83 =>
  kM I 3 v83 h4 fun v84 =>
  kS 3 v8 v84 h4 fun _ h5 =>
  sCheck (sSame (lift (pLoad1 I v59 h2) h2) v60 && (sSame (lift (pLoad1 I v59 h3) h3) v60 && true)) (
  sCheck (sSame (lift (pLoad1 I v63 h2) h2) v64 && (sSame (lift (pLoad1 I v63 h3) h3) v64 && true)) (
  sCheck (sSame (lift (pLoad1 I v65 h2) h2) v66 && (sSame (lift (pLoad1 I v65 h3) h3) v66 && true)) (
  sCheck (sSame (lift (pLoad1 I v68 h2) h2) v69 && (sSame (lift (pLoad1 I v68 h3) h3) v69 && true)) (
  sCheck (sSame (lift (pLoad1 I v71 h2) h2) v72 && (sSame (lift (pLoad1 I v71 h3) h3) v72 && true)) (
  sCheck (sSame (lift (pLoadN I 3 v73 h2) h2) v74 && (sSame (lift (pLoadN I 3 v73 h3) h3) v74 && true)) (
  sCheck (sSame (lift (pLoad1 I v77 h1) h1) v78 && (sSame (lift (pLoad1 I v77 h2) h2) v78 && (sSame (lift (pLoad1 I v77 h3) h3) v78 && true))) (
  sCheck (sSame (lift (pLoad1 I v81 h1) h1) v82 && (sSame (lift (pLoad1 I v81 h2) h2) v82 && (sSame (lift (pLoad1 I v81 h3) h3) v82 && true))) (
  sCheck (sSame (lift (pLoadN I 3 v83 h1) h1) v84 && (sSame (lift (pLoadN I 3 v83 h2) h2) v84 && (sSame (lift (pLoadN I 3 v83 h3) h3) v84 && true))) (
  kF 0 v7 fun v85 =>
  kL I v85 h5 fun v86 =>
  kZ v86 fun v87 =>
  kF 0 v8 fun v88 =>
  kL I v88 h5 fun v89 =>
  kZ v89 fun v90 =>
  kB .add v90 (Z 1) fun v91 =>
  kB .neq v87 v91 fun v92 =>
  gP v92 .false (pFieldAddr 0 v7) h5 fun v94 h6 =>
  gP v92 .false (pLoad1 I v94 h6) h6 fun v95 h7 =>
  gP v92 .false (pIndexAddr 2 v95 (Z 0)) h7 fun v96 h8 =>
  gP v92 .false (pLoadN I 2 v96 h8) h8 fun v97 h9 =>
  gP v92 .false (pFieldAddr 0 v4) h9 fun v98 h10 =>
  gP v92 .false (pLoad1 I v98 h10) h10 fun v99 h11 =>
  gP v92 .false (pBuild [(Z 0), (Z 0)] [(0, 1, (Z 1)), (1, 1, v99)]) h11 fun v100 h12 =>
  gS v92 .false (call 38 [v97, v100] h12) h12 fun v101 h13 =>
  gP v92 .false (pUn .not v101) h13 fun v102 h14 =>
  kP v92 bT v102 fun v103 =>
  gP v103 .false (pFieldAddr 1 v7) h14 fun v105 h15 =>
  gP v103 .false (pLoadN I 2 v105 h15) h15 fun v106 h16 =>
  gP v103 .false (pFieldAddr 1 v8) h16 fun v107 h17 =>
  gP v103 .false (pLoadN I 2 v107 h17) h17 fun v108 h18 =>
  gS v103 .false (call 38 [v106, v108] h18) h18 fun v109 h19 =>
  gP v103 .false (pUn .not v109) h19 fun v110 h20 =>
  kP v103 bT v110 fun v111 =>
  sCond v111 (
  j.2.1.2.2 v0 v3 v4 v5 v6 v7 v8 h20) (
  some (bF, h20)))))))))))
def f17.b7 (I : Inp) (call : CallFn) (j : f17.Js) (v0 v3 v4 v5 v6 : AVal) (h : AHeap) : Rs :=
  kB .add v6 (Z 1) fun v56 =>
  j.1.2.2.2 v0 v3 v4 v5 v56 h
def f17.b8 (I : Inp) (call : CallFn) (j : f17.Js) (v0 v3 v4 v5 v6 v7 v8 : AVal) (h : AHeap) : Rs :=
  j.2.2.1 v0 v3 v4 v5 v6 v7 v8 (Z 0) h
def f17.b9 (I : Inp) (call : CallFn) (j : f17.Js) (v0 v3 v4 v5 v6 v7 v8 v9 : AVal) (h : AHeap) : Rs :=
  kF 0 v8 fun v113 =>
  kL I v113 h fun v114 =>
  kZ v114 fun v115 =>
  kB .lss v9 v115 fun v116 =>
  sCond v116 (
  j.2.1.2.1 v0 v3 v4 v5 v6 h) (
  j.2.2.2.1 v0 v3 v4 v5 v6 v7 v8 v9 h)
def f17.b10 (I : Inp) (call : CallFn) (j : f17.Js) (v0 v3 v4 v5 v6 v7 v8 v9 : AVal) (h : AHeap) : Rs :=
  kF 0 v7 fun v119 =>
  kL I v119 h fun v120 =>
  kB .add v9 (Z 1) fun v122 =>
  kI 2 v120 v122 fun v123 =>
  kM I 2 v123 h fun v124 =>
  kF 0 v8 fun v125 =>
  kL I v125 h fun v126 =>
  kI 2 v126 v9 fun v128 =>
  kM I 2 v128 h fun v129 =>
  kC call 38 [v124, v129] h fun v130 h1 =>
  kU .not v130 fun v131 =>
  sCond v131 (
  j.2.2.2.2 v0 v3 v4 v5 v6 v7 v8 v9 h1) (
  some (bF, h1))
def f17.b11 (I : Inp) (call : CallFn) (j : f17.Js) (v0 v3 v4 v5 v6 v7 v8 v9 : AVal) (h : AHeap) : Rs :=
  kB .add v9 (Z 1) fun v118 =>
  j.2.2.1 v0 v3 v4 v5 v6 v7 v8 v118 h
def f17.e (I : Inp) (call : CallFn) (j : f17.Js) (v0 : AVal) (h : AHeap) : Rs :=
  j.1.1.2.1 v0 (Z 0) h
def f17.J (I : Inp) (call : CallFn) (n : Nat) : f17.Js :=
  Nat.rec (motive := fun _ => f17.Js) (((Zr.z, (Zr.z, Zr.z)), (Zr.z, (Zr.z, Zr.z))), ((Zr.z, (Zr.z, Zr.z)), (Zr.z, (Zr.z, Zr.z)))) (fun _ j => (((f17.b0 I call j, (f17.b1 I call j, f17.b2 I call j)), (f17.b3 I call j, (f17.b4 I call j, f17.b5 I call j))), ((f17.b6 I call j, (f17.b7 I call j, f17.b8 I call j)), (f17.b9 I call j, (f17.b10 I call j, f17.b11 I call j))))) n
theorem f17.n0 : (f17.J I call (n + 1)).1.1.1 = f17.b0 I call (f17.J I call n) := nrfl
theorem f17.n1 : (f17.J I call (n + 1)).1.1.2.1 = f17.b1 I call (f17.J I call n) := nrfl
theorem f17.n2 : (f17.J I call (n + 1)).1.1.2.2 = f17.b2 I call (f17.J I call n) := nrfl
theorem f17.n3 : (f17.J I call (n + 1)).1.2.1 = f17.b3 I call (f17.J I call n) := nrfl
theorem f17.n4 : (f17.J I call (n + 1)).1.2.2.1 = f17.b4 I call (f17.J I call n) := nrfl
theorem f17.n5 : (f17.J I call (n + 1)).1.2.2.2 = f17.b5 I call (f17.J I call n) := nrfl
theorem f17.n6 : (f17.J I call (n + 1)).2.1.1 = f17.b6 I call (f17.J I call n) := nrfl
theorem f17.n7 : (f17.J I call (n + 1)).2.1.2.1 = f17.b7 I call (f17.J I call n) := nrfl
theorem f17.n8 : (f17.J I call (n + 1)).2.1.2.2 = f17.b8 I call (f17.J I call n) := nrfl
theorem f17.n9 : (f17.J I call (n + 1)).2.2.1 = f17.b9 I call (f17.J I call n) := nrfl
theorem f17.n10 : (f17.J I call (n + 1)).2.2.2.1 = f17.b10 I call (f17.J I call n) := nrfl
theorem f17.n11 : (f17.J I call (n + 1)).2.2.2.2 = f17.b11 I call (f17.J I call n) := nrfl
def f17.JS (I : Inp) (call : CallFn) (n : Nat) : Jmp := (fun j : f17.Js => jmp [Ap.ap j.1.1.1 [], Ap.ap j.1.1.2.1 [0, 3], Ap.ap j.1.1.2.2 [0, 3], Ap.ap j.1.2.1 [0, 3], Ap.ap j.1.2.2.1 [0, 3, 4, 5], Ap.ap j.1.2.2.2 [0, 3, 4, 5, 6], Ap.ap j.2.1.1 [0, 3, 4, 5, 6], Ap.ap j.2.1.2.1 [0, 3, 4, 5, 6], Ap.ap j.2.1.2.2 [0, 3, 4, 5, 6, 7, 8], Ap.ap j.2.2.1 [0, 3, 4, 5, 6, 7, 8, 9], Ap.ap j.2.2.2.1 [0, 3, 4, 5, 6, 7, 8, 9], Ap.ap j.2.2.2.2 [0, 3, 4, 5, 6, 7, 8, 9]]) (f17.J I call n)
theorem f17.S : SFn ⟨P, I, F⟩ call c17 (f17.JS I call) := .all 12 (by kernel_rfl) (fun ρ h => by kernel_rfl) (fun n ρ h => by kernel_rfl)
theorem f17.qe : Ap.all (f17.e I call (f17.J I call n)) (fun l h => execC P I call (f17.JS I call n) c17.body 0 (finV I c17.results) (argV l) h) := fun v0 h => by kernel_rfl
theorem f17.code : codeOf P 17 = some c17 := by kernel_rfl
def f17.run (I : Inp) : SF := fun call n => Ap.ar (f17.e I call (f17.J I call n))
theorem f17.ok (I : Inp) (F : Nat → Option AFn) (hF : F 17 = some (.code c17)) : SfOk P I F 17 (f17.run I) := okOf hF (by kernel_rfl) (fun _ => f17.S) fun call n => f17.qe
theorem f17.lim (hp : prims 17 = none) {v0 : AVal} (hr : Res (f17.e I (AM.lim ⟨P, I, genF P prims⟩) (f17.J I (AM.lim ⟨P, I, genF P prims⟩) n) v0 h) Q) : Res ((AM.lim ⟨P, I, genF P prims⟩) 17 [v0] h) Q := limOf (n := n) hp f17.code (f17.ok I) hr rfl
/-! haruspex/haruspexref8.Encode -/
def c20 : AFunc := cOf P 20
abbrev f20.Js : Type := ((((A2 × A3) × (A3 × (A3 × A2))) × ((A3 × (A3 × A3)) × (A2 × (A3 × A3)))) × (((A3 × (A2 × A3)) × (A3 × (A3 × A2))) × ((A3 × (A3 × A3)) × (A5 × (A5 × A5)))))
def f20.b0 (I : Inp) (call : CallFn) (j : f20.Js) (v0 v3 : AVal) (h : AHeap) : Rs :=
  kN v0 fun v38 =>
  kF 1 v38 fun v39 =>
  kL I v39 h fun v40 =>
  kZ v40 fun v41 =>
  kC call 39 [v41] h fun v42 h1 =>
  bnd (sAppend I 1 1 v3 v42 h1) fun v43 h2 =>
  j.1.2.1.1 v0 v43 (Z 0) h2
def f20.b1 (I : Inp) (call : CallFn) (j : f20.Js) (v0 v3 v4 : AVal) (h : AHeap) : Rs :=
  kN v0 fun v19 =>
  kF 0 v19 fun v20 =>
  kL I v20 h fun v21 =>
  kZ v21 fun v22 =>
  kB .lss v4 v22 fun v23 =>
  sCond v23 (
  j.1.1.1.1 v0 v3 h) (
  j.1.1.2.1 v0 v3 v4 h)
def f20.b2 (I : Inp) (call : CallFn) (j : f20.Js) (v0 v3 v4 : AVal) (h : AHeap) : Rs :=
  kN v0 fun v28 =>
  kF 0 v28 fun v29 =>
  kL I v29 h fun v30 =>
  kI 1 v30 v4 fun v32 =>
  kL I v32 h fun v33 =>
  kC call 40 [v33] h fun v34 h1 =>
  bnd (sAppend I 1 1 v3 v34 h1) fun v35 h2 =>
  j.1.1.2.2.1 v0 v35 v4 h2
def f20.b3 (I : Inp) (call : CallFn) (j : f20.Js) (v0 v3 v4 : AVal) (h : AHeap) : Rs :=
  kB .add v4 (Z 1) fun v25 =>
  j.1.1.1.2 v0 v3 v25 h
def f20.b4 (I : Inp) (call : CallFn) (j : f20.Js) (v0 v3 : AVal) (h : AHeap) : Rs :=
  kN v0 fun v89 =>
  kF 2 v89 fun v90 =>
  kL I v90 h fun v91 =>
  kZ v91 fun v92 =>
  kC call 39 [v92] h fun v93 h1 =>
  bnd (sAppend I 1 1 v3 v93 h1) fun v94 h2 =>
  j.1.2.2.2.1 v0 v94 (Z 0) h2
def f20.b5 (I : Inp) (call : CallFn) (j : f20.Js) (v0 v3 v5 : AVal) (h : AHeap) : Rs :=
  kN v0 fun v46 =>
  kF 1 v46 fun v47 =>
  kL I v47 h fun v48 =>
  kZ v48 fun v49 =>
  kB .lss v5 v49 fun v50 =>
  sCond v50 (
  j.1.1.2.2.2 v0 v3 h) (
  j.1.2.1.2.1 v0 v3 v5 h)
def f20.b6 (I : Inp) (call : CallFn) (j : f20.Js) (v0 v3 v5 : AVal) (h : AHeap) : Rs :=
  kN v0 fun v55 =>
  kF 1 v55 fun v56 =>
  kL I v56 h fun v57 =>
  kI 3 v57 v5 fun v59 =>
  kF 0 v59 fun v60 =>
  kL I v60 h fun v61 =>
  kC call 40 [v61] h fun v62 h1 =>
  bnd (sAppend I 1 1 v3 v62 h1) fun v63 h2 =>
  kN v0 fun v66 =>
  kF 1 v66 fun v67 =>
  kL I v67 h2 fun v68 =>
  kI 3 v68 v5 fun v70 =>
  kF 1 v70 fun v71 =>
  kF 0 v71 fun v72 =>
  kL I v72 h2 fun v73 =>
  kC call 39 [v73] h2 fun v74 h3 =>
  bnd (sAppend I 1 1 v63 v74 h3) fun v75 h4 =>
  kN v0 fun v77 =>
  kF 1 v77 fun v78 =>
  kL I v78 h4 fun v79 =>
  kI 3 v79 v5 fun v81 =>
  kF 1 v81 fun v82 =>
  kF 1 v82 fun v83 =>
  kL I v83 h4 fun v84 =>
  kC call 39 [v84] h4 fun v85 h5 =>
  bnd (sAppend I 1 1 v75 v85 h5) fun v86 h6 =>
  sCheck (sSame (lift (pLoad1 I v78 h2) h2) v79 && (sSame (lift (pLoad1 I v78 h3) h3) v79 && true)) (
  sCheck (sSame (lift (pLoad1 I v83 h2) h2) v84 && (sSame (lift (pLoad1 I v83 h3) h3) v84 && true)) (
  j.1.2.1.2.2 v0 v86 v5 h6))
def f20.b7 (I : Inp) (call : CallFn) (j : f20.Js) (v0 v3 v5 : AVal) (h : AHeap) : Rs :=
  kB .add v5 (Z 1) fun v52 =>
  j.1.2.1.1 v0 v3 v52 h
def f20.b8 (I : Inp) (call : CallFn) (j : f20.Js) (v0 v3 : AVal) (h : AHeap) : Rs :=
  kN v0 fun v117 =>
  kF 3 v117 fun v118 =>
  kL I v118 h fun v119 =>
  kZ v119 fun v120 =>
  kC call 39 [v120] h fun v121 h1 =>
  bnd (sAppend I 1 1 v3 v121 h1) fun v122 h2 =>
  j.2.1.1.2.2 v0 v122 (Z 0) h2
def f20.b9 (I : Inp) (call : CallFn) (j : f20.Js) (v0 v3 v6 : AVal) (h : AHeap) : Rs :=
  kN v0 fun v97 =>
  kF 2 v97 fun v98 =>
  kL I v98 h fun v99 =>
  kZ v99 fun v100 =>
  kB .lss v6 v100 fun v101 =>
  sCond v101 (
  j.1.2.2.1 v0 v3 h) (
  j.1.2.2.2.2 v0 v3 v6 h)
def f20.b10 (I : Inp) (call : CallFn) (j : f20.Js) (v0 v3 v6 : AVal) (h : AHeap) : Rs :=
  kN v0 fun v106 =>
  kF 2 v106 fun v107 =>
  kL I v107 h fun v108 =>
  kI 1 v108 v6 fun v110 =>
  kF 0 v110 fun v111 =>
  kL I v111 h fun v112 =>
  kC call 41 [v112] h fun v113 h1 =>
  bnd (sAppend I 1 1 v3 v113 h1) fun v114 h2 =>
  j.2.1.1.1 v0 v114 v6 h2
def f20.b11 (I : Inp) (call : CallFn) (j : f20.Js) (v0 v3 v6 : AVal) (h : AHeap) : Rs :=
  kB .add v6 (Z 1) fun v103 =>
  j.1.2.2.2.1 v0 v3 v103 h
def f20.b12 (I : Inp) (call : CallFn) (j : f20.Js) (v0 v3 : AVal) (h : AHeap) : Rs :=
  kN v0 fun v166 =>
  kF 4 v166 fun v167 =>
  kL I v167 h fun v168 =>
  kZ v168 fun v169 =>
  kC call 39 [v169] h fun v170 h1 =>
  bnd (sAppend I 1 1 v3 v170 h1) fun v171 h2 =>
  j.2.2.1.1 v0 v171 (Z 0) h2
def f20.b13 (I : Inp) (call : CallFn) (j : f20.Js) (v0 v3 v7 : AVal) (h : AHeap) : Rs :=
  kN v0 fun v125 =>
  kF 3 v125 fun v126 =>
  kL I v126 h fun v127 =>
  kZ v127 fun v128 =>
  kB .lss v7 v128 fun v129 =>
  sCond v129 (
  j.2.1.1.2.1 v0 v3 h) (
  j.2.1.2.1 v0 v3 v7 h)
def f20.b14 (I : Inp) (call : CallFn) (j : f20.Js) (v0 v3 v7 : AVal) (h : AHeap) : Rs :=
  kN v0 fun v134 =>
  kF 3 v134 fun v135 =>
  kL I v135 h fun v136 =>
  kI 3 v136 v7 fun v138 =>
  kF 0 v138 fun v139 =>
  kL I v139 h fun v140 =>
  kC call 39 [v140] h fun v141 h1 =>
  bnd (sAppend I 1 1 v3 v141 h1) fun v142 h2 =>
  kN v0 fun v144 =>
  kF 3 v144 fun v145 =>
  kL I v145 h2 fun v146 =>
  kI 3 v146 v7 fun v148 =>
  kF 1 v148 fun v149 =>
  kL I v149 h2 fun v150 =>
  kC call 39 [v150] h2 fun v151 h3 =>
  bnd (sAppend I 1 1 v142 v151 h3) fun v152 h4 =>
  sCheck (sSame (lift (pLoad1 I v145 h) h) v146 && (sSame (lift (pLoad1 I v145 h1) h1) v146 && true)) (
  sCheck (sSame (lift (pLoad1 I v149 h) h) v150 && (sSame (lift (pLoad1 I v149 h1) h1) v150 && true)) (
  kN v0 fun v155 =>
  kF 3 v155 fun v156 =>
  kL I v156 h4 fun v157 =>
  kI 3 v157 v7 fun v159 =>
  kF 2 v159 fun v160 =>
  kL I v160 h4 fun v161 =>
  kC call 41 [v161] h4 fun v162 h5 =>
  bnd (sAppend I 1 1 v152 v162 h5) fun v163 h6 =>
  j.2.1.2.2.1 v0 v163 v7 h6))
def f20.b15 (I : Inp) (call : CallFn) (j : f20.Js) (v0 v3 v7 : AVal) (h : AHeap) : Rs :=
  kB .add v7 (Z 1) fun v131 =>
  j.2.1.1.2.2 v0 v3 v131 h
def f20.b16 (I : Inp) (call : CallFn) (j : f20.Js) (v0 v3 : AVal) (h : AHeap) : Rs :=
  kN v0 fun v221 =>
  kF 5 v221 fun v222 =>
  kL I v222 h fun v223 =>
  kC call 39 [v223] h fun v224 h1 =>
  bnd (sAppend I 1 1 v3 v224 h1) fun v225 h2 =>
  some (v225, h2)
def f20.b17 (I : Inp) (call : CallFn) (j : f20.Js) (v0 v3 v8 : AVal) (h : AHeap) : Rs :=
  kN v0 fun v174 =>
  kF 4 v174 fun v175 =>
  kL I v175 h fun v176 =>
  kZ v176 fun v177 =>
  kB .lss v8 v177 fun v178 =>
  sCond v178 (
  j.2.1.2.2.2 v0 v3 h) (
  j.2.2.1.2.1 v0 v3 v8 h)
def f20.b18 (I : Inp) (call : CallFn) (j : f20.Js) (v0 v3 v8 : AVal) (h : AHeap) : Rs :=
  kN v0 fun v182 =>
  kF 4 v182 fun v183 =>
  kL I v183 h fun v184 =>
  kI 3 v184 v8 fun v186 =>
  kM I 3 v186 h fun v187 =>
  kA [(Z 0), .nils, .nils] h fun v9 h1 =>
  kS 3 v9 v187 h1 fun _ h2 =>
  kF 0 v9 fun v189 =>
  kL I v189 h2 fun v190 =>
  kC call 39 [v190] h2 fun v191 h3 =>
  bnd (sAppend I 1 1 v3 v191 h3) fun v192 h4 =>
  kF 1 v9 fun v194 =>
  kL I v194 h4 fun v195 =>
  kC call 40 [v195] h4 fun v196 h5 =>
  bnd (sAppend I 1 1 v192 v196 h5) fun v197 h6 =>
  kF 2 v9 fun v199 =>
  kL I v199 h6 fun v200 =>
  kZ v200 fun v201 =>
  kC call 39 [v201] h6 fun v202 h7 =>
  bnd (sAppend I 1 1 v197 v202 h7) fun v203 h8 =>
  j.2.2.2.1 v0 v203 v8 v9 (Z 0) h8
def f20.b19 (I : Inp) (call : CallFn) (j : f20.Js) (v0 v3 v8 : AVal) (h : AHeap) : Rs :=
  kB .add v8 (Z 1) fun v180 =>
  j.2.2.1.1 v0 v3 v180 h
def f20.b20 (I : Inp) (call : CallFn) (j : f20.Js) (v0 v3 v8 v9 v10 : AVal) (h : AHeap) : Rs :=
  kF 2 v9 fun v205 =>
  kL I v205 h fun v206 =>
  kZ v206 fun v207 =>
  kB .lss v10 v207 fun v208 =>
  sCond v208 (
  j.2.2.1.2.2 v0 v3 v8 h) (
  j.2.2.2.2.1 v0 v3 v8 v9 v10 h)
def f20.b21 (I : Inp) (call : CallFn) (j : f20.Js) (v0 v3 v8 v9 v10 : AVal) (h : AHeap) : Rs :=
  kF 2 v9 fun v212 =>
  kL I v212 h fun v213 =>
  kI 5 v213 v10 fun v215 =>
  kM I 5 v215 h fun v216 =>
  kC call 42 [v216] h fun v217 h1 =>
  bnd (sAppend I 1 1 v3 v217 h1) fun v218 h2 =>
  j.2.2.2.2.2 v0 v218 v8 v9 v10 h2
def f20.b22 (I : Inp) (call : CallFn) (j : f20.Js) (v0 v3 v8 v9 v10 : AVal) (h : AHeap) : Rs :=
  kB .add v10 (Z 1) fun v210 =>
  j.2.2.2.1 v0 v3 v8 v9 v210 h
def f20.e (I : Inp) (call : CallFn) (j : f20.Js) (v0 : AVal) (h : AHeap) : Rs :=
  kN v0 fun v12 =>
  kF 0 v12 fun v13 =>
  kL I v13 h fun v14 =>
  kZ v14 fun v15 =>
  kC call 39 [v15] h fun v16 h1 =>
  j.1.1.1.2 v0 v16 (Z 0) h1
def f20.J (I : Inp) (call : CallFn) (n : Nat) : f20.Js :=
  Nat.rec (motive := fun _ => f20.Js) ((((Zr.z, Zr.z), (Zr.z, (Zr.z, Zr.z))), ((Zr.z, (Zr.z, Zr.z)), (Zr.z, (Zr.z, Zr.z)))), (((Zr.z, (Zr.z, Zr.z)), (Zr.z, (Zr.z, Zr.z))), ((Zr.z, (Zr.z, Zr.z)), (Zr.z, (Zr.z, Zr.z))))) (fun _ j => ((((f20.b0 I call j, f20.b1 I call j), (f20.b2 I call j, (f20.b3 I call j, f20.b4 I call j))), ((f20.b5 I call j, (f20.b6 I call j, f20.b7 I call j)), (f20.b8 I call j, (f20.b9 I call j, f20.b10 I call j)))), (((f20.b11 I call j, (f20.b12 I call j, f20.b13 I call j)), (f20.b14 I call j, (f20.b15 I call j, f20.b16 I call j))), ((f20.b17 I call j, (f20.b18 I call j, f20.b19 I call j)), (f20.b20 I call j, (f20.b21 I call j, f20.b22 I call j)))))) n
def f20.JS (I : Inp) (call : CallFn) (n : Nat) : Jmp := (fun j : f20.Js => jmp [Ap.ap j.1.1.1.1 [0, 3], Ap.ap j.1.1.1.2 [0, 3, 4], Ap.ap j.1.1.2.1 [0, 3, 4], Ap.ap j.1.1.2.2.1 [0, 3, 4], Ap.ap j.1.1.2.2.2 [0, 3], Ap.ap j.1.2.1.1 [0, 3, 5], Ap.ap j.1.2.1.2.1 [0, 3, 5], Ap.ap j.1.2.1.2.2 [0, 3, 5], Ap.ap j.1.2.2.1 [0, 3], Ap.ap j.1.2.2.2.1 [0, 3, 6], Ap.ap j.1.2.2.2.2 [0, 3, 6], Ap.ap j.2.1.1.1 [0, 3, 6], Ap.ap j.2.1.1.2.1 [0, 3], Ap.ap j.2.1.1.2.2 [0, 3, 7], Ap.ap j.2.1.2.1 [0, 3, 7], Ap.ap j.2.1.2.2.1 [0, 3, 7], Ap.ap j.2.1.2.2.2 [0, 3], Ap.ap j.2.2.1.1 [0, 3, 8], Ap.ap j.2.2.1.2.1 [0, 3, 8], Ap.ap j.2.2.1.2.2 [0, 3, 8], Ap.ap j.2.2.2.1 [0, 3, 8, 9, 10], Ap.ap j.2.2.2.2.1 [0, 3, 8, 9, 10], Ap.ap j.2.2.2.2.2 [0, 3, 8, 9, 10]]) (f20.J I call n)
theorem f20.S : SFn ⟨P, I, F⟩ call c20 (f20.JS I call) := .all 23 (by kernel_rfl) (fun ρ h => by kernel_rfl) (fun n ρ h => by kernel_rfl)
theorem f20.qe : Ap.all (f20.e I call (f20.J I call n)) (fun l h => execC P I call (f20.JS I call n) c20.body 0 (finV I c20.results) (argV l) h) := fun v0 h => by kernel_rfl
theorem f20.code : codeOf P 20 = some c20 := by kernel_rfl
def f20.run (I : Inp) : SF := fun call n => Ap.ar (f20.e I call (f20.J I call n))
theorem f20.ok (I : Inp) (F : Nat → Option AFn) (hF : F 20 = some (.code c20)) : SfOk P I F 20 (f20.run I) := okOf hF (by kernel_rfl) (fun _ => f20.S) fun call n => f20.qe
/-! haruspex/wf.Load -/
def c22 : AFunc := cOf P 22
abbrev f22.Js : Type := (A1 × A1)
def f22.b0 (I : Inp) (call : CallFn) (j : f22.Js) (v4 : AVal) (h : AHeap) : Rs :=
  kC call 11 [v4] h fun v16 h1 =>
  bndP (pEq P .true .iface .true v16 .nili h1) fun v18 =>
  sCond v18 (
  j.2 v4 h1) (
  some (.tuple [.nilp, v16], h1))
def f22.b1 (I : Inp) (call : CallFn) (j : f22.Js) (v4 : AVal) (h : AHeap) : Rs :=
  some (.tuple [v4, .nili], h)
def f22.e (I : Inp) (call : CallFn) (j : f22.Js) (v0 : AVal) (h : AHeap) : Rs :=
  kC call 46 [v0] h fun v9 h1 =>
  kX v9 0 fun v10 =>
  kX v9 1 fun v11 =>
  bndP (pEq P .true .iface .true v11 .nili h1) fun v13 =>
  sCond v13 (
  j.1 v10 h1) (
  some (.tuple [.nilp, v11], h1))
def f22.J (I : Inp) (call : CallFn) (n : Nat) : f22.Js :=
  Nat.rec (motive := fun _ => f22.Js) (Zr.z, Zr.z) (fun _ j => (f22.b0 I call j, f22.b1 I call j)) n
def f22.JS (I : Inp) (call : CallFn) (n : Nat) : Jmp := (fun j : f22.Js => jmp [Ap.ap j.1 [4], Ap.ap j.2 [4]]) (f22.J I call n)
theorem f22.S : SFn ⟨P, I, F⟩ call c22 (f22.JS I call) := .all 2 (by kernel_rfl) (fun ρ h => by kernel_rfl) (fun n ρ h => by kernel_rfl)
theorem f22.qe : Ap.all (f22.e I call (f22.J I call n)) (fun l h => execC P I call (f22.JS I call n) c22.body 0 (finV I c22.results) (argV l) h) := fun v0 h => by kernel_rfl
theorem f22.code : codeOf P 22 = some c22 := by kernel_rfl
def f22.run (I : Inp) : SF := fun call n => Ap.ar (f22.e I call (f22.J I call n))
theorem f22.ok (I : Inp) (F : Nat → Option AFn) (hF : F 22 = some (.code c22)) : SfOk P I F 22 (f22.run I) := okOf hF (by kernel_rfl) (fun _ => f22.S) fun call n => f22.qe
/-! haruspex/refuse.Why -/
def c23 : AFunc := cOf P 23
abbrev f23.Js : Type := A0
def f23.b0 (I : Inp) (call : CallFn) (j : f23.Js) (h : AHeap) : Rs :=
  some ((Z 0), h)
def f23.e (I : Inp) (call : CallFn) (j : f23.Js) (v0 : AVal) (h : AHeap) : Rs :=
  kC call 47 [v0] h fun v5 h1 =>
  bndP (pEq P .true .ptr .true v5 .nilp h1) fun v7 =>
  sCond v7 (
  j h1) (
  kN v5 fun v9 =>
  kF 0 v9 fun v10 =>
  kL I v10 h1 fun v11 =>
  some (v11, h1))
def f23.J (I : Inp) (call : CallFn) (n : Nat) : f23.Js :=
  Nat.rec (motive := fun _ => f23.Js) Zr.z (fun _ j => f23.b0 I call j) n
theorem f23.n0 : (f23.J I call (n + 1)) = f23.b0 I call (f23.J I call n) := nrfl
def f23.JS (I : Inp) (call : CallFn) (n : Nat) : Jmp := (fun j : f23.Js => jmp [Ap.ap j []]) (f23.J I call n)
theorem f23.S : SFn ⟨P, I, F⟩ call c23 (f23.JS I call) := .all 1 (by kernel_rfl) (fun ρ h => by kernel_rfl) (fun n ρ h => by kernel_rfl)
theorem f23.qe : Ap.all (f23.e I call (f23.J I call n)) (fun l h => execC P I call (f23.JS I call n) c23.body 0 (finV I c23.results) (argV l) h) := fun v0 h => by kernel_rfl
theorem f23.code : codeOf P 23 = some c23 := by kernel_rfl
def f23.run (I : Inp) : SF := fun call n => Ap.ar (f23.e I call (f23.J I call n))
theorem f23.ok (I : Inp) (F : Nat → Option AFn) (hF : F 23 = some (.code c23)) : SfOk P I F 23 (f23.run I) := okOf hF (by kernel_rfl) (fun _ => f23.S) fun call n => f23.qe
theorem f23.lim (hp : prims 23 = none) {v0 : AVal} (hr : Res (f23.e I (AM.lim ⟨P, I, genF P prims⟩) (f23.J I (AM.lim ⟨P, I, genF P prims⟩) n) v0 h) Q) : Res ((AM.lim ⟨P, I, genF P prims⟩) 23 [v0] h) Q := limOf (n := n) hp f23.code (f23.ok I) hr rfl
/-! haruspex/wf.asked -/
def c27 : AFunc := cOf P 27
abbrev f27.Js : Type := ((A1 × A1) × (A1 × (A1 × A1)))
def f27.b0 (I : Inp) (call : CallFn) (j : f27.Js) (v0 : AVal) (h : AHeap) : Rs :=
  kC call 49 [v0] h fun v14 h1 =>
  bndP (pEq P .true .iface .true v14 .nili h1) fun v16 =>
  sCond v16 (
  j.1.2 v0 h1) (
  some (v14, h1))
def f27.b1 (I : Inp) (call : CallFn) (j : f27.Js) (v0 : AVal) (h : AHeap) : Rs :=
  kC call 12 [v0] h fun v19 h1 =>
  bndP (pEq P .true .iface .true v19 .nili h1) fun v21 =>
  sCond v21 (
  j.2.1 v0 h1) (
  some (v19, h1))
def f27.b2 (I : Inp) (call : CallFn) (j : f27.Js) (v0 : AVal) (h : AHeap) : Rs :=
  kC call 50 [v0] h fun v24 h1 =>
  bndP (pEq P .true .iface .true v24 .nili h1) fun v26 =>
  sCond v26 (
  j.2.2.1 v0 h1) (
  some (v24, h1))
def f27.b3 (I : Inp) (call : CallFn) (j : f27.Js) (v0 : AVal) (h : AHeap) : Rs :=
  kC call 51 [v0] h fun v29 h1 =>
  bndP (pEq P .true .iface .true v29 .nili h1) fun v31 =>
  sCond v31 (
  j.2.2.2 v0 h1) (
  some (v29, h1))
def f27.b4 (I : Inp) (call : CallFn) (j : f27.Js) (v0 : AVal) (h : AHeap) : Rs :=
  kC call 52 [v0] h fun v34 h1 =>
  some (v34, h1)
def f27.e (I : Inp) (call : CallFn) (j : f27.Js) (v0 : AVal) (h : AHeap) : Rs :=
  kC call 48 [v0] h fun v9 h1 =>
  bndP (pEq P .true .iface .true v9 .nili h1) fun v11 =>
  sCond v11 (
  j.1.1 v0 h1) (
  some (v9, h1))
def f27.J (I : Inp) (call : CallFn) (n : Nat) : f27.Js :=
  Nat.rec (motive := fun _ => f27.Js) ((Zr.z, Zr.z), (Zr.z, (Zr.z, Zr.z))) (fun _ j => ((f27.b0 I call j, f27.b1 I call j), (f27.b2 I call j, (f27.b3 I call j, f27.b4 I call j)))) n
def f27.JS (I : Inp) (call : CallFn) (n : Nat) : Jmp := (fun j : f27.Js => jmp [Ap.ap j.1.1 [0], Ap.ap j.1.2 [0], Ap.ap j.2.1 [0], Ap.ap j.2.2.1 [0], Ap.ap j.2.2.2 [0]]) (f27.J I call n)
theorem f27.S : SFn ⟨P, I, F⟩ call c27 (f27.JS I call) := .all 5 (by kernel_rfl) (fun ρ h => by kernel_rfl) (fun n ρ h => by kernel_rfl)
theorem f27.qe : Ap.all (f27.e I call (f27.J I call n)) (fun l h => execC P I call (f27.JS I call n) c27.body 0 (finV I c27.results) (argV l) h) := fun v0 h => by kernel_rfl
theorem f27.code : codeOf P 27 = some c27 := by kernel_rfl
def f27.run (I : Inp) : SF := fun call n => Ap.ar (f27.e I call (f27.J I call n))
theorem f27.ok (I : Inp) (F : Nat → Option AFn) (hF : F 27 = some (.code c27)) : SfOk P I F 27 (f27.run I) := okOf hF (by kernel_rfl) (fun _ => f27.S) fun call n => f27.qe
/-! haruspex/refuse.Where -/
def c28 : AFunc := cOf P 28
abbrev f28.Js : Type := A1
def f28.b0 (I : Inp) (call : CallFn) (j : f28.Js) (v2 : AVal) (h : AHeap) : Rs :=
  bndP (pBuild [(Z 0), (Z 0), (Z 0)] []) fun v21 =>
  kS 3 v2 v21 h fun _ h1 =>
  sRet (sCons (sResN I 3 v2 h1) (sCons (some bF) (some []))) h1
def f28.e (I : Inp) (call : CallFn) (j : f28.Js) (v0 : AVal) (h : AHeap) : Rs :=
  kA [(Z 0), (Z 0), (Z 0)] h fun v2 h1 =>
  kC call 47 [v0] h1 fun v6 h2 =>
  bndP (pEq P .true .ptr .true v6 .nilp h2) fun v8 =>
  gV v8 .true v6 h2 fun v10 h3 =>
  gP v8 .true (pNilCheck v10) h3 fun v11 h4 =>
  gP v8 .true (pFieldAddr 1 v11) h4 fun v12 h5 =>
  gP v8 .true (pFieldAddr 0 v12) h5 fun v13 h6 =>
  gP v8 .true (pLoad1 I v13 h6) h6 fun v14 h7 =>
  gP v8 .true (pBin .geq v14 (Z 0)) h7 fun v15 h8 =>
  kP v8 v15 bF fun v16 =>
  sCond v16 (
  j v2 h8) (
  kN v6 fun v18 =>
  kF 1 v18 fun v19 =>
  kM I 3 v19 h8 fun v20 =>
  kS 3 v2 v20 h8 fun _ h9 =>
  sRet (sCons (sResN I 3 v2 h9) (sCons (some bT) (some []))) h9)
def f28.J (I : Inp) (call : CallFn) (n : Nat) : f28.Js :=
  Nat.rec (motive := fun _ => f28.Js) Zr.z (fun _ j => f28.b0 I call j) n
theorem f28.n0 : (f28.J I call (n + 1)) = f28.b0 I call (f28.J I call n) := nrfl
def f28.JS (I : Inp) (call : CallFn) (n : Nat) : Jmp := (fun j : f28.Js => jmp [Ap.ap j [2]]) (f28.J I call n)
theorem f28.S : SFn ⟨P, I, F⟩ call c28 (f28.JS I call) := .all 1 (by kernel_rfl) (fun ρ h => by kernel_rfl) (fun n ρ h => by kernel_rfl)
theorem f28.qe : Ap.all (f28.e I call (f28.J I call n)) (fun l h => execC P I call (f28.JS I call n) c28.body 0 (finV I c28.results) (argV l) h) := fun v0 h => by kernel_rfl
theorem f28.code : codeOf P 28 = some c28 := by kernel_rfl
def f28.run (I : Inp) : SF := fun call n => Ap.ar (f28.e I call (f28.J I call n))
theorem f28.ok (I : Inp) (F : Nat → Option AFn) (hF : F 28 = some (.code c28)) : SfOk P I F 28 (f28.run I) := okOf hF (by kernel_rfl) (fun _ => f28.S) fun call n => f28.qe
theorem f28.lim (hp : prims 28 = none) {v0 : AVal} (hr : Res (f28.e I (AM.lim ⟨P, I, genF P prims⟩) (f28.J I (AM.lim ⟨P, I, genF P prims⟩) n) v0 h) Q) : Res ((AM.lim ⟨P, I, genF P prims⟩) 28 [v0] h) Q := limOf (n := n) hp f28.code (f28.ok I) hr rfl
/-! haruspex/refuse.None -/
def c29 : AFunc := cOf P 29
abbrev f29.Js : Type := Unit
def f29.e (I : Inp) (call : CallFn) (j : f29.Js) (h : AHeap) : Rs :=
  kA [(Z 0), (Z 0), (Z 0)] h fun v0 h1 =>
  bndP (pBuild [(Z 0), (Z 0), (Z 0)] [(0, 1, (.int .i64 (.negSucc 0)))]) fun v1 =>
  kS 3 v0 v1 h1 fun _ h2 =>
  sRet (sCons (sResN I 3 v0 h2) (some [])) h2
theorem f29.S : SFn ⟨P, I, F⟩ call c29 (fun _ => jmp []) := .all 0 (by kernel_rfl) (fun ρ h => by kernel_rfl) (fun n ρ h => by kernel_rfl)
theorem f29.qe : Ap.all (f29.e I call ()) (fun l h => execC P I call (jmp []) c29.body 0 (finV I c29.results) (argV l) h) := fun h => by kernel_rfl
theorem f29.code : codeOf P 29 = some c29 := by kernel_rfl
def f29.run (I : Inp) : SF := fun call n => Ap.ar (f29.e I call ())
theorem f29.ok (I : Inp) (F : Nat → Option AFn) (hF : F 29 = some (.code c29)) : SfOk P I F 29 (f29.run I) := okOf hF (by kernel_rfl) (fun _ => f29.S) fun call n => f29.qe
theorem f29.lim (hp : prims 29 = none) {n : Nat} (hr : Res (f29.e I (AM.lim ⟨P, I, genF P prims⟩) () h) Q) : Res ((AM.lim ⟨P, I, genF P prims⟩) 29 [] h) Q := limOf (n := n) hp f29.code (f29.ok I) hr rfl
/-! haruspex/refuse.New -/
def c30 : AFunc := cOf P 30
abbrev f30.Js : Type := Unit
def f30.e (I : Inp) (call : CallFn) (j : f30.Js) (v0 v1 v2 : AVal) (h : AHeap) : Rs :=
  bnd (sBox v1 h) fun v4 h1 =>
  kM I 3 v4 h1 fun v8 =>
  bndP (pBuild [(Z 0), (Z 0), (Z 0), (Z 0), .nili] [(0, 1, v0), (1, 3, v8), (4, 1, v2)]) fun v10 =>
  bnd (sBox v10 h1) fun v11 h2 =>
  some ((.iface 87 v11), h2)
theorem f30.S : SFn ⟨P, I, F⟩ call c30 (fun _ => jmp []) := .all 0 (by kernel_rfl) (fun ρ h => by kernel_rfl) (fun n ρ h => by kernel_rfl)
theorem f30.qe : Ap.all (f30.e I call ()) (fun l h => execC P I call (jmp []) c30.body 0 (finV I c30.results) (argV l) h) := fun v0 v1 v2 h => by kernel_rfl
theorem f30.code : codeOf P 30 = some c30 := by kernel_rfl
def f30.run (I : Inp) : SF := fun call n => Ap.ar (f30.e I call ())
theorem f30.ok (I : Inp) (F : Nat → Option AFn) (hF : F 30 = some (.code c30)) : SfOk P I F 30 (f30.run I) := okOf hF (by kernel_rfl) (fun _ => f30.S) fun call n => f30.qe
theorem f30.lim (hp : prims 30 = none) {n : Nat} {v0 v1 v2 : AVal} (hr : Res (f30.e I (AM.lim ⟨P, I, genF P prims⟩) () v0 v1 v2 h) Q) : Res ((AM.lim ⟨P, I, genF P prims⟩) 30 [v0, v1, v2] h) Q := limOf (n := n) hp f30.code (f30.ok I) hr rfl
/-! haruspex/types.Impl -/
def c31 : AFunc := cOf P 31
abbrev f31.Js : Type := Unit
def f31.e (I : Inp) (call : CallFn) (j : f31.Js) (v0 v1 v2 : AVal) (h : AHeap) : Rs :=
  bnd (sBox v1 h) fun v4 h1 =>
  bnd (sBox v2 h1) fun v5 h2 =>
  kN v0 fun v8 =>
  kF 3 v8 fun v9 =>
  kL I v9 h2 fun v10 =>
  kC call 53 [v10, (.func (.func 54) [] [v4, v5])] h2 fun v12 h3 =>
  some (v12, h3)
theorem f31.S : SFn ⟨P, I, F⟩ call c31 (fun _ => jmp []) := .all 0 (by kernel_rfl) (fun ρ h => by kernel_rfl) (fun n ρ h => by kernel_rfl)
theorem f31.qe : Ap.all (f31.e I call ()) (fun l h => execC P I call (jmp []) c31.body 0 (finV I c31.results) (argV l) h) := fun v0 v1 v2 h => by kernel_rfl
theorem f31.code : codeOf P 31 = some c31 := by kernel_rfl
def f31.run (I : Inp) : SF := fun call n => Ap.ar (f31.e I call ())
theorem f31.ok (I : Inp) (F : Nat → Option AFn) (hF : F 31 = some (.code c31)) : SfOk P I F 31 (f31.run I) := okOf hF (by kernel_rfl) (fun _ => f31.S) fun call n => f31.qe
theorem f31.lim (hp : prims 31 = none) {n : Nat} {v0 v1 v2 : AVal} (hr : Res (f31.e I (AM.lim ⟨P, I, genF P prims⟩) () v0 v1 v2 h) Q) : Res ((AM.lim ⟨P, I, genF P prims⟩) 31 [v0, v1, v2] h) Q := limOf (n := n) hp f31.code (f31.ok I) hr rfl
/-! haruspex/wf.method -/
def c32 : AFunc := cOf P 32
abbrev f32.Js : Type := Unit
def f32.e (I : Inp) (call : CallFn) (j : f32.Js) (v0 v1 v2 v3 : AVal) (h : AHeap) : Rs :=
  sKeep 1 h fun h1 =>
  kN v0 fun v13 =>
  kF 1 v13 fun v14 =>
  kL I v14 h1 fun v15 =>
  kN v0 fun v17 =>
  kF 4 v17 fun v18 =>
  kL I v18 h1 fun v19 =>
  kI 3 v19 v2 fun v21 =>
  kF 0 v21 fun v22 =>
  kL I v22 h1 fun v23 =>
  kI 3 v15 v23 fun v24 =>
  kM I 3 v24 h1 fun v25 =>
  bnd (sResvAlloc (h.next + 0) [.nils, (Z 0), (Z 0)] h1) fun v9 h2 =>
  bnd (sResvAlloc (h.next + 1) [.nils, (Z 0), (Z 0)] h2) fun v10 h3 =>
  kS 3 v9 v25 h3 fun _ h4 =>
  kN v0 fun v27 =>
  kF 1 v27 fun v28 =>
  kL I v28 h4 fun v29 =>
  kI 3 v29 v3 fun v31 =>
  kM I 3 v31 h4 fun v32 =>
  kS 3 v10 v32 h4 fun _ h5 =>
  sCheck (sSame (lift (pLoad1 I v14 h2) h2) v15 && (sSame (lift (pLoad1 I v14 h3) h3) v15 && true)) (
  sCheck (sSame (lift (pLoad1 I v18 h2) h2) v19 && (sSame (lift (pLoad1 I v18 h3) h3) v19 && true)) (
  sCheck (sSame (lift (pLoad1 I v22 h2) h2) v23 && (sSame (lift (pLoad1 I v22 h3) h3) v23 && true)) (
  sCheck (sSame (lift (pLoadN I 3 v24 h2) h2) v25 && (sSame (lift (pLoadN I 3 v24 h3) h3) v25 && true)) (
  sCheck (sSame (lift (pLoad1 I v28 h1) h1) v29 && (sSame (lift (pLoad1 I v28 h2) h2) v29 && (sSame (lift (pLoad1 I v28 h3) h3) v29 && true))) (
  sCheck (sSame (lift (pLoadN I 3 v31 h1) h1) v32 && (sSame (lift (pLoadN I 3 v31 h2) h2) v32 && (sSame (lift (pLoadN I 3 v31 h3) h3) v32 && true))) (
  bndP (pBuild [(Z 0), (Z 0)] [(0, 1, (Z 1)), (1, 1, v1)]) fun v34 =>
  bnd (sBuildSlice [(Z 0), (Z 0)] 1 [(0, 2, v34)] h5) fun v35 h6 =>
  kF 0 v10 fun v36 =>
  kL I v36 h6 fun v37 =>
  bnd (sAppend I 2 16 v35 v37 h6) fun v38 h7 =>
  kF 0 v9 fun v39 =>
  kL I v39 h7 fun v40 =>
  kC call 55 [v40, v38] h7 fun v42 h8 =>
  gP v42 .true (pFieldAddr 1 v9) h8 fun v44 h9 =>
  gP v42 .true (pLoadN I 2 v44 h9) h9 fun v45 h10 =>
  gP v42 .true (pFieldAddr 1 v10) h10 fun v46 h11 =>
  gP v42 .true (pLoadN I 2 v46 h11) h11 fun v47 h12 =>
  gP v42 .true (pEq P .false (.struct [.i, .i]) .false v45 v47 h12) h12 fun v48 h13 =>
  kP v42 v48 bF fun v49 =>
  some (v49, h13)))))))
theorem f32.S : SFn ⟨P, I, F⟩ call c32 (fun _ => jmp []) := .all 0 (by kernel_rfl) (fun ρ h => by kernel_rfl) (fun n ρ h => by kernel_rfl)
theorem f32.qe : Ap.all (f32.e I call ()) (fun l h => execC P I call (jmp []) c32.body 0 (finV I c32.results) (argV l) h) := fun v0 v1 v2 v3 h => by kernel_rfl
theorem f32.code : codeOf P 32 = some c32 := by kernel_rfl
def f32.run (I : Inp) : SF := fun call n => Ap.ar (f32.e I call ())
theorem f32.ok (I : Inp) (F : Nat → Option AFn) (hF : F 32 = some (.code c32)) : SfOk P I F 32 (f32.run I) := okOf hF (by kernel_rfl) (fun _ => f32.S) fun call n => f32.qe
theorem f32.lim (hp : prims 32 = none) {n : Nat} {v0 v1 v2 v3 : AVal} (hr : Res (f32.e I (AM.lim ⟨P, I, genF P prims⟩) () v0 v1 v2 v3 h) Q) : Res ((AM.lim ⟨P, I, genF P prims⟩) 32 [v0, v1, v2, v3] h) Q := limOf (n := n) hp f32.code (f32.ok I) hr rfl
/-! haruspex/haruspexref8.named -/
def c33 : AFunc := cOf P 33
abbrev f33.Js : Type := A0
def f33.b0 (I : Inp) (call : CallFn) (j : f33.Js) (h : AHeap) : Rs :=
  some (bF, h)
def f33.e (I : Inp) (call : CallFn) (j : f33.Js) (v0 v1 : AVal) (h : AHeap) : Rs :=
  bnd (sBox v1 h) fun v3 h1 =>
  kF 0 v3 fun v5 =>
  kL I v5 h1 fun v6 =>
  kB .eql v6 (Z 0) fun v8 =>
  sCond v8 (
  kB .eql v6 (Z 1) fun v13 =>
  sCond v13 (
  kB .eql v6 (Z 2) fun v28 =>
  sCond v28 (
  kB .eql v6 (Z 3) fun v43 =>
  sCond v43 (
  j h1) (
  kF 1 v3 fun v44 =>
  kL I v44 h1 fun v45 =>
  kB .geq v45 (Z 0) fun v46 =>
  gP v46 .true (pFieldAddr 1 v3) h1 fun v48 h2 =>
  gP v46 .true (pLoad1 I v48 h2) h2 fun v49 h3 =>
  gV v46 .true v0 h3 fun v50 h4 =>
  gP v46 .true (pNilCheck v50) h4 fun v51 h5 =>
  gP v46 .true (pFieldAddr 2 v51) h5 fun v52 h6 =>
  gP v46 .true (pLoad1 I v52 h6) h6 fun v53 h7 =>
  gP v46 .true (pLenSl v53) h7 fun v54 h8 =>
  gP v46 .true (pBin .lss v49 v54) h8 fun v55 h9 =>
  kP v46 v55 bF fun v56 =>
  some (v56, h9))) (
  kF 1 v3 fun v29 =>
  kL I v29 h1 fun v30 =>
  kB .geq v30 (Z 0) fun v31 =>
  gP v31 .true (pFieldAddr 1 v3) h1 fun v33 h10 =>
  gP v31 .true (pLoad1 I v33 h10) h10 fun v34 h11 =>
  gV v31 .true v0 h11 fun v35 h12 =>
  gP v31 .true (pNilCheck v35) h12 fun v36 h13 =>
  gP v31 .true (pFieldAddr 1 v36) h13 fun v37 h14 =>
  gP v31 .true (pLoad1 I v37 h14) h14 fun v38 h15 =>
  gP v31 .true (pLenSl v38) h15 fun v39 h16 =>
  gP v31 .true (pBin .lss v34 v39) h16 fun v40 h17 =>
  kP v31 v40 bF fun v41 =>
  some (v41, h17))) (
  kF 1 v3 fun v14 =>
  kL I v14 h1 fun v15 =>
  kB .geq v15 (Z 0) fun v16 =>
  gP v16 .true (pFieldAddr 1 v3) h1 fun v18 h18 =>
  gP v16 .true (pLoad1 I v18 h18) h18 fun v19 h19 =>
  gV v16 .true v0 h19 fun v20 h20 =>
  gP v16 .true (pNilCheck v20) h20 fun v21 h21 =>
  gP v16 .true (pFieldAddr 0 v21) h21 fun v22 h22 =>
  gP v16 .true (pLoad1 I v22 h22) h22 fun v23 h23 =>
  gP v16 .true (pLenSl v23) h23 fun v24 h24 =>
  gP v16 .true (pBin .lss v19 v24) h24 fun v25 h25 =>
  kP v16 v25 bF fun v26 =>
  some (v26, h25))) (
  kF 1 v3 fun v9 =>
  kL I v9 h1 fun v10 =>
  kB .eql v10 (Z 0) fun v11 =>
  some (v11, h1))
def f33.J (I : Inp) (call : CallFn) (n : Nat) : f33.Js :=
  Nat.rec (motive := fun _ => f33.Js) Zr.z (fun _ j => f33.b0 I call j) n
theorem f33.n0 : (f33.J I call (n + 1)) = f33.b0 I call (f33.J I call n) := nrfl
def f33.JS (I : Inp) (call : CallFn) (n : Nat) : Jmp := (fun j : f33.Js => jmp [Ap.ap j []]) (f33.J I call n)
theorem f33.S : SFn ⟨P, I, F⟩ call c33 (f33.JS I call) := .all 1 (by kernel_rfl) (fun ρ h => by kernel_rfl) (fun n ρ h => by kernel_rfl)
theorem f33.qe : Ap.all (f33.e I call (f33.J I call n)) (fun l h => execC P I call (f33.JS I call n) c33.body 0 (finV I c33.results) (argV l) h) := fun v0 v1 h => by kernel_rfl
theorem f33.code : codeOf P 33 = some c33 := by kernel_rfl
def f33.run (I : Inp) : SF := fun call n => Ap.ar (f33.e I call (f33.J I call n))
theorem f33.ok (I : Inp) (F : Nat → Option AFn) (hF : F 33 = some (.code c33)) : SfOk P I F 33 (f33.run I) := okOf hF (by kernel_rfl) (fun _ => f33.S) fun call n => f33.qe
theorem f33.lim (hp : prims 33 = none) {v0 v1 : AVal} (hr : Res (f33.e I (AM.lim ⟨P, I, genF P prims⟩) (f33.J I (AM.lim ⟨P, I, genF P prims⟩) n) v0 v1 h) Q) : Res ((AM.lim ⟨P, I, genF P prims⟩) 33 [v0, v1] h) Q := limOf (n := n) hp f33.code (f33.ok I) hr rfl
/-! haruspex/haruspexref8.in -/
def c34 : AFunc := cOf P 34
abbrev f34.Js : Type := Unit
def f34.e (I : Inp) (call : CallFn) (j : f34.Js) (v0 v1 : AVal) (h : AHeap) : Rs :=
  kB .geq v0 (Z 0) fun v6 =>
  gV v6 .true v0 h fun v8 h1 =>
  gV v6 .true v1 h1 fun v9 h2 =>
  gP v6 .true (pBin .lss v8 v9) h2 fun v10 h3 =>
  kP v6 v10 bF fun v11 =>
  some (v11, h3)
theorem f34.S : SFn ⟨P, I, F⟩ call c34 (fun _ => jmp []) := .all 0 (by kernel_rfl) (fun ρ h => by kernel_rfl) (fun n ρ h => by kernel_rfl)
theorem f34.qe : Ap.all (f34.e I call ()) (fun l h => execC P I call (jmp []) c34.body 0 (finV I c34.results) (argV l) h) := fun v0 v1 h => by kernel_rfl
theorem f34.code : codeOf P 34 = some c34 := by kernel_rfl
def f34.run (I : Inp) : SF := fun call n => Ap.ar (f34.e I call ())
theorem f34.ok (I : Inp) (F : Nat → Option AFn) (hF : F 34 = some (.code c34)) : SfOk P I F 34 (f34.run I) := okOf hF (by kernel_rfl) (fun _ => f34.S) fun call n => f34.qe
theorem f34.lim (hp : prims 34 = none) {n : Nat} {v0 v1 : AVal} (hr : Res (f34.e I (AM.lim ⟨P, I, genF P prims⟩) () v0 v1 h) Q) : Res ((AM.lim ⟨P, I, genF P prims⟩) 34 [v0, v1] h) Q := limOf (n := n) hp f34.code (f34.ok I) hr rfl
/-! haruspex/haruspexref8.instr -/
def c35 : AFunc := cOf P 35
abbrev f35.Js : Type := (((A3 × A5) × (A3 × (A6 × A6))) × ((A6 × A3) × (A1 × (A5 × A5))))
def f35.b0 (I : Inp) (call : CallFn) (j : f35.Js) (v0 v4 v5 : AVal) (h : AHeap) : Rs :=
  kF 1 v4 fun v23 =>
  kL I v23 h fun v24 =>
  kZ v24 fun v25 =>
  kM I 6 v5 h fun v27 =>
  kC call 56 [v27] h fun v28 h1 =>
  kX v28 0 fun v29 =>
  kX v28 1 fun v30 =>
  kM I 6 v5 h1 fun v31 =>
  kC call 57 [v31] h1 fun v32 h2 =>
  gP v30 .true (pFieldAddr 1 v5) h2 fun v35 h3 =>
  gP v30 .true (pLoad1 I v35 h3) h3 fun v36 h4 =>
  gV v30 .true v25 h4 fun v37 h5 =>
  gS v30 .true (call 34 [v36, v37] h5) h5 fun v38 h6 =>
  gP v30 .true (pUn .not v38) h6 fun v39 h7 =>
  kP v30 v39 bF fun v40 =>
  gV v40 .false v30 h7 fun v42 h8 =>
  gP v40 .false (pUn .not v42) h8 fun v43 h9 =>
  gV v40 .false v43 h9 fun v44 h10 =>
  gP v44 .true (pFieldAddr 1 v5) h10 fun v45 h11 =>
  gP v44 .true (pLoad1 I v45 h11) h11 fun v46 h12 =>
  gP v44 .true (pBin .neq v46 (Z 0)) h12 fun v47 h13 =>
  gP v40 .false (pPick v44 v47 bF) h13 fun v48 h14 =>
  kP v40 bT v48 fun v49 =>
  sCond v49 (
  j.1.1.2 v0 v4 v5 v25 v32 h14) (
  some (bF, h14))
def f35.b1 (I : Inp) (call : CallFn) (j : f35.Js) (v0 v4 v5 v7 v10 : AVal) (h : AHeap) : Rs :=
  j.1.2.2.1 v0 v4 v5 v7 v10 (Z 0) h
def f35.b2 (I : Inp) (call : CallFn) (j : f35.Js) (v0 v4 v5 : AVal) (h : AHeap) : Rs :=
  kF 0 v5 fun v63 =>
  kL I v63 h fun v64 =>
  kB .eql v64 (Z 2) fun v65 =>
  gP v65 .false (pFieldAddr 0 v5) h fun v67 h1 =>
  gP v65 .false (pLoad1 I v67 h1) h1 fun v68 h2 =>
  gP v65 .false (pBin .geq v68 (Z 6)) h2 fun v69 h3 =>
  gV v65 .false v69 h3 fun v70 h4 =>
  gP v70 .true (pFieldAddr 0 v5) h4 fun v71 h5 =>
  gP v70 .true (pLoad1 I v71 h5) h5 fun v72 h6 =>
  gP v70 .true (pBin .leq v72 (Z 9)) h6 fun v73 h7 =>
  gP v65 .false (pPick v70 v73 bF) h7 fun v74 h8 =>
  kP v65 bT v74 fun v75 =>
  gP v75 .false (pFieldAddr 0 v5) h8 fun v77 h9 =>
  gP v75 .false (pLoad1 I v77 h9) h9 fun v78 h10 =>
  gP v75 .false (pBin .eql v78 (Z 11)) h10 fun v79 h11 =>
  kP v75 bT v79 fun v80 =>
  gP v80 .false (pFieldAddr 0 v5) h11 fun v82 h12 =>
  gP v80 .false (pLoad1 I v82 h12) h12 fun v83 h13 =>
  gP v80 .false (pBin .geq v83 (Z 13)) h13 fun v84 h14 =>
  kP v80 bT v84 fun v85 =>
  kU .not v85 fun v87 =>
  gP v87 .true (pFieldAddr 2 v5) h14 fun v89 h15 =>
  gP v87 .true (pLoad1 I v89 h15) h15 fun v90 h16 =>
  gP v87 .true (pBin .neq v90 (Z 0)) h16 fun v91 h17 =>
  kP v87 v91 bF fun v92 =>
  gP v92 .false (pFieldAddr 0 v5) h17 fun v94 h18 =>
  gP v92 .false (pLoad1 I v94 h18) h18 fun v95 h19 =>
  gP v92 .false (pBin .neq v95 (Z 2)) h19 fun v96 h20 =>
  gV v92 .false v96 h20 fun v97 h21 =>
  gP v97 .true (pFieldAddr 0 v5) h21 fun v98 h22 =>
  gP v97 .true (pLoad1 I v98 h22) h22 fun v99 h23 =>
  gP v97 .true (pBin .neq v99 (Z 8)) h23 fun v100 h24 =>
  gP v92 .false (pPick v97 v100 bF) h24 fun v101 h25 =>
  gV v92 .false v101 h25 fun v102 h26 =>
  gP v102 .true (pFieldAddr 3 v5) h26 fun v103 h27 =>
  gP v102 .true (pLoad1 I v103 h27) h27 fun v104 h28 =>
  gP v102 .true (pBin .neq v104 (Z 0)) h28 fun v105 h29 =>
  gP v92 .false (pPick v102 v105 bF) h29 fun v106 h30 =>
  kP v92 bT v106 fun v107 =>
  gP v107 .false (pFieldAddr 5 v5) h30 fun v109 h31 =>
  gP v107 .false (pLoad1 I v109 h31) h31 fun v110 h32 =>
  gP v107 .false (pLenSl v110) h32 fun v111 h33 =>
  gP v107 .false (pBin .gtr v111 (Z 0)) h33 fun v112 h34 =>
  gV v107 .false v112 h34 fun v113 h35 =>
  gP v113 .true (pFieldAddr 0 v5) h35 fun v114 h36 =>
  gP v113 .true (pLoad1 I v114 h36) h36 fun v115 h37 =>
  gP v113 .true (pBin .lss v115 (Z 12)) h37 fun v116 h38 =>
  gV v113 .true v116 h38 fun v117 h39 =>
  gP v117 .false (pFieldAddr 0 v5) h39 fun v118 h40 =>
  gP v117 .false (pLoad1 I v118 h40) h40 fun v119 h41 =>
  gP v117 .false (pBin .gtr v119 (Z 14)) h41 fun v120 h42 =>
  gP v113 .true (pPick v117 bT v120) h42 fun v121 h43 =>
  gP v107 .false (pPick v113 v121 bF) h43 fun v122 h44 =>
  kP v107 bT v122 fun v123 =>
  sCond v123 (
  j.2.1.2 v0 v4 v5 h44) (
  some (bF, h44))
def f35.b3 (I : Inp) (call : CallFn) (j : f35.Js) (v0 v4 v5 v7 v10 v11 : AVal) (h : AHeap) : Rs :=
  kZ v10 fun v52 =>
  kB .lss v11 v52 fun v53 =>
  sCond v53 (
  j.1.2.1 v0 v4 v5 h) (
  j.1.2.2.2 v0 v4 v5 v7 v10 v11 h)
def f35.b4 (I : Inp) (call : CallFn) (j : f35.Js) (v0 v4 v5 v7 v10 v11 : AVal) (h : AHeap) : Rs :=
  kI 1 v10 v11 fun v58 =>
  kL I v58 h fun v59 =>
  kC call 34 [v59, v7] h fun v61 h1 =>
  kU .not v61 fun v62 =>
  sCond v62 (
  j.2.1.1 v0 v4 v5 v7 v10 v11 h1) (
  some (bF, h1))
def f35.b5 (I : Inp) (call : CallFn) (j : f35.Js) (v0 v4 v5 v7 v10 v11 : AVal) (h : AHeap) : Rs :=
  kB .add v11 (Z 1) fun v55 =>
  j.1.2.2.1 v0 v4 v5 v7 v10 v55 h
def f35.b6 (I : Inp) (call : CallFn) (j : f35.Js) (v0 v4 v5 : AVal) (h : AHeap) : Rs :=
  kF 0 v5 fun v124 =>
  kL I v124 h fun v125 =>
  kB .eql v125 (Z 1) fun v127 =>
  sCond v127 (
  kB .eql v125 (Z 7) fun v129 =>
  sCond v129 (
  kB .eql v125 (Z 8) fun v130 =>
  j.2.2.2.1 v0 v4 v5 v125 v130 h) (
  j.2.2.2.1 v0 v4 v5 v125 v129 h)) (
  some (bT, h))
def f35.b7 (I : Inp) (call : CallFn) (j : f35.Js) (v5 : AVal) (h : AHeap) : Rs :=
  kF 4 v5 fun v191 =>
  kL I v191 h fun v192 =>
  kB .eql v192 (Z 0) fun v193 =>
  some (v193, h)
def f35.b8 (I : Inp) (call : CallFn) (j : f35.Js) (v0 v4 v5 v125 v128 : AVal) (h : AHeap) : Rs :=
  sCond v128 (
  kB .eql v125 (Z 10) fun v155 =>
  sCond v155 (
  kB .eql v125 (Z 12) fun v156 =>
  j.2.2.2.2 v0 v4 v5 v125 v156 h) (
  j.2.2.2.2 v0 v4 v5 v125 v155 h)) (
  kF 1 v4 fun v131 =>
  kL I v131 h fun v132 =>
  kF 2 v5 fun v133 =>
  kL I v133 h fun v134 =>
  kI 2 v132 v134 fun v135 =>
  kM I 2 v135 h fun v136 =>
  kA [(Z 0), (Z 0)] h fun v13 h1 =>
  kS 2 v13 v136 h1 fun _ h2 =>
  kF 0 v13 fun v137 =>
  kL I v137 h2 fun v138 =>
  kB .neq v138 (Z 1) fun v139 =>
  gP v139 .false (pFieldAddr 4 v5) h2 fun v141 h3 =>
  gP v139 .false (pLoad1 I v141 h3) h3 fun v142 h4 =>
  gV v139 .false v0 h4 fun v143 h5 =>
  gP v139 .false (pNilCheck v143) h5 fun v144 h6 =>
  gP v139 .false (pFieldAddr 0 v144) h6 fun v145 h7 =>
  gP v139 .false (pLoad1 I v145 h7) h7 fun v146 h8 =>
  gP v139 .false (pFieldAddr 1 v13) h8 fun v147 h9 =>
  gP v139 .false (pLoad1 I v147 h9) h9 fun v148 h10 =>
  gP v139 .false (pIndexAddr 1 v146 v148) h10 fun v149 h11 =>
  gP v139 .false (pLoad1 I v149 h11) h11 fun v150 h12 =>
  gP v139 .false (pLenSl v150) h12 fun v151 h13 =>
  gS v139 .false (call 34 [v142, v151] h13) h13 fun v152 h14 =>
  kP v139 bT v152 fun v153 =>
  some (v153, h14))
def f35.b9 (I : Inp) (call : CallFn) (j : f35.Js) (v0 v4 v5 v125 v154 : AVal) (h : AHeap) : Rs :=
  sCond v154 (
  kB .eql v125 (Z 14) fun v166 =>
  sCond v166 (
  j.2.2.1 v5 h) (
  kF 1 v4 fun v167 =>
  kL I v167 h fun v168 =>
  kF 2 v5 fun v169 =>
  kL I v169 h fun v170 =>
  kI 2 v168 v170 fun v171 =>
  kM I 2 v171 h fun v172 =>
  kA [(Z 0), (Z 0)] h fun v14 h1 =>
  kS 2 v14 v172 h1 fun _ h2 =>
  kF 0 v14 fun v173 =>
  kL I v173 h2 fun v174 =>
  kB .neq v174 (Z 3) fun v175 =>
  gP v175 .false (pFieldAddr 4 v5) h2 fun v177 h3 =>
  gP v175 .false (pLoad1 I v177 h3) h3 fun v178 h4 =>
  gV v175 .false v0 h4 fun v179 h5 =>
  gP v175 .false (pNilCheck v179) h5 fun v180 h6 =>
  gP v175 .false (pFieldAddr 2 v180) h6 fun v181 h7 =>
  gP v175 .false (pLoad1 I v181 h7) h7 fun v182 h8 =>
  gP v175 .false (pFieldAddr 1 v14) h8 fun v183 h9 =>
  gP v175 .false (pLoad1 I v183 h9) h9 fun v184 h10 =>
  gP v175 .false (pIndexAddr 1 v182 v184) h10 fun v185 h11 =>
  gP v175 .false (pFieldAddr 0 v185) h11 fun v186 h12 =>
  gP v175 .false (pLoad1 I v186 h12) h12 fun v187 h13 =>
  gP v175 .false (pLenSl v187) h13 fun v188 h14 =>
  gS v175 .false (call 34 [v178, v188] h14) h14 fun v189 h15 =>
  kP v175 bT v189 fun v190 =>
  some (v190, h15))) (
  kF 4 v5 fun v157 =>
  kL I v157 h fun v158 =>
  kN v0 fun v160 =>
  kF 4 v160 fun v161 =>
  kL I v161 h fun v162 =>
  kZ v162 fun v163 =>
  kC call 34 [v158, v163] h fun v164 h16 =>
  some (v164, h16))
def f35.e (I : Inp) (call : CallFn) (j : f35.Js) (v0 v1 v2 : AVal) (h : AHeap) : Rs :=
  bnd (sBox v1 h) fun v4 h1 =>
  bnd (sBox v2 h1) fun v5 h2 =>
  kF 0 v5 fun v15 =>
  kL I v15 h2 fun v16 =>
  kB .lss v16 (Z 1) fun v17 =>
  gP v17 .false (pFieldAddr 0 v5) h2 fun v19 h3 =>
  gP v17 .false (pLoad1 I v19 h3) h3 fun v20 h4 =>
  gP v17 .false (pBin .gtr v20 (Z 15)) h4 fun v21 h5 =>
  kP v17 bT v21 fun v22 =>
  sCond v22 (
  j.1.1.1 v0 v4 v5 h5) (
  some (bF, h5))
def f35.J (I : Inp) (call : CallFn) (n : Nat) : f35.Js :=
  Nat.rec (motive := fun _ => f35.Js) (((Zr.z, Zr.z), (Zr.z, (Zr.z, Zr.z))), ((Zr.z, Zr.z), (Zr.z, (Zr.z, Zr.z)))) (fun _ j => (((f35.b0 I call j, f35.b1 I call j), (f35.b2 I call j, (f35.b3 I call j, f35.b4 I call j))), ((f35.b5 I call j, f35.b6 I call j), (f35.b7 I call j, (f35.b8 I call j, f35.b9 I call j))))) n
theorem f35.n0 : (f35.J I call (n + 1)).1.1.1 = f35.b0 I call (f35.J I call n) := nrfl
theorem f35.n1 : (f35.J I call (n + 1)).1.1.2 = f35.b1 I call (f35.J I call n) := nrfl
theorem f35.n2 : (f35.J I call (n + 1)).1.2.1 = f35.b2 I call (f35.J I call n) := nrfl
theorem f35.n3 : (f35.J I call (n + 1)).1.2.2.1 = f35.b3 I call (f35.J I call n) := nrfl
theorem f35.n4 : (f35.J I call (n + 1)).1.2.2.2 = f35.b4 I call (f35.J I call n) := nrfl
theorem f35.n5 : (f35.J I call (n + 1)).2.1.1 = f35.b5 I call (f35.J I call n) := nrfl
theorem f35.n6 : (f35.J I call (n + 1)).2.1.2 = f35.b6 I call (f35.J I call n) := nrfl
theorem f35.n7 : (f35.J I call (n + 1)).2.2.1 = f35.b7 I call (f35.J I call n) := nrfl
theorem f35.n8 : (f35.J I call (n + 1)).2.2.2.1 = f35.b8 I call (f35.J I call n) := nrfl
theorem f35.n9 : (f35.J I call (n + 1)).2.2.2.2 = f35.b9 I call (f35.J I call n) := nrfl
def f35.JS (I : Inp) (call : CallFn) (n : Nat) : Jmp := (fun j : f35.Js => jmp [Ap.ap j.1.1.1 [0, 4, 5], Ap.ap j.1.1.2 [0, 4, 5, 7, 10], Ap.ap j.1.2.1 [0, 4, 5], Ap.ap j.1.2.2.1 [0, 4, 5, 7, 10, 11], Ap.ap j.1.2.2.2 [0, 4, 5, 7, 10, 11], Ap.ap j.2.1.1 [0, 4, 5, 7, 10, 11], Ap.ap j.2.1.2 [0, 4, 5], Ap.ap j.2.2.1 [5], Ap.ap j.2.2.2.1 [0, 4, 5, 125, 128], Ap.ap j.2.2.2.2 [0, 4, 5, 125, 154]]) (f35.J I call n)
theorem f35.S : SFn ⟨P, I, F⟩ call c35 (f35.JS I call) := .all 10 (by kernel_rfl) (fun ρ h => by kernel_rfl) (fun n ρ h => by kernel_rfl)
theorem f35.qe : Ap.all (f35.e I call (f35.J I call n)) (fun l h => execC P I call (f35.JS I call n) c35.body 0 (finV I c35.results) (argV l) h) := fun v0 v1 v2 h => by kernel_rfl
theorem f35.code : codeOf P 35 = some c35 := by kernel_rfl
def f35.run (I : Inp) : SF := fun call n => Ap.ar (f35.e I call (f35.J I call n))
theorem f35.ok (I : Inp) (F : Nat → Option AFn) (hF : F 35 = some (.code c35)) : SfOk P I F 35 (f35.run I) := okOf hF (by kernel_rfl) (fun _ => f35.S) fun call n => f35.qe
theorem f35.lim (hp : prims 35 = none) {v0 v1 v2 : AVal} (hr : Res (f35.e I (AM.lim ⟨P, I, genF P prims⟩) (f35.J I (AM.lim ⟨P, I, genF P prims⟩) n) v0 v1 v2 h) Q) : Res ((AM.lim ⟨P, I, genF P prims⟩) 35 [v0, v1, v2] h) Q := limOf (n := n) hp f35.code (f35.ok I) hr rfl
/-! haruspex/haruspexref8.ending -/
def c36 : AFunc := cOf P 36
abbrev f36.Js : Type := A0
def f36.b0 (I : Inp) (call : CallFn) (j : f36.Js) (h : AHeap) : Rs :=
  some (bF, h)
def f36.e (I : Inp) (call : CallFn) (j : f36.Js) (v0 v1 : AVal) (h : AHeap) : Rs :=
  bnd (sBox v0 h) fun v2 h1 =>
  bnd (sBox v1 h1) fun v3 h2 =>
  kF 2 v3 fun v7 =>
  kL I v7 h2 fun v8 =>
  kF 1 v2 fun v9 =>
  kL I v9 h2 fun v10 =>
  kZ v10 fun v11 =>
  kC call 34 [v8, v11] h2 fun v12 h3 =>
  kF 2 v2 fun v13 =>
  kL I v13 h3 fun v14 =>
  kZ v14 fun v15 =>
  sCheck (sSame (lift (pLoad1 I v13 h2) h2) v14 && true) (
  kF 1 v3 fun v16 =>
  kL I v16 h3 fun v17 =>
  kB .eql v17 (Z 1) fun v19 =>
  sCond v19 (
  kB .eql v17 (Z 2) fun v35 =>
  sCond v35 (
  kB .eql v17 (Z 3) fun v50 =>
  sCond v50 (
  j h3) (
  gP v12 .true (pFieldAddr 3 v3) h3 fun v53 h4 =>
  gP v12 .true (pLoad1 I v53 h4) h4 fun v54 h5 =>
  gP v12 .true (pBin .eql v54 (Z 0)) h5 fun v55 h6 =>
  kP v12 v55 bF fun v56 =>
  gP v56 .true (pFieldAddr 4 v3) h6 fun v58 h7 =>
  gP v56 .true (pLoad1 I v58 h7) h7 fun v59 h8 =>
  gP v56 .true (pBin .eql v59 (Z 0)) h8 fun v60 h9 =>
  kP v56 v60 bF fun v61 =>
  some (v61, h9))) (
  gP v12 .true (pFieldAddr 3 v3) h3 fun v38 h10 =>
  gP v12 .true (pLoad1 I v38 h10) h10 fun v39 h11 =>
  gV v12 .true v15 h11 fun v40 h12 =>
  gS v12 .true (call 34 [v39, v40] h12) h12 fun v41 h13 =>
  kP v12 v41 bF fun v42 =>
  gP v42 .true (pFieldAddr 4 v3) h13 fun v44 h14 =>
  gP v42 .true (pLoad1 I v44 h14) h14 fun v45 h15 =>
  gV v42 .true v15 h15 fun v46 h16 =>
  gS v42 .true (call 34 [v45, v46] h16) h16 fun v47 h17 =>
  kP v42 v47 bF fun v48 =>
  some (v48, h17))) (
  kF 2 v3 fun v20 =>
  kL I v20 h3 fun v21 =>
  kB .eql v21 (Z 0) fun v22 =>
  gP v22 .true (pFieldAddr 4 v3) h3 fun v24 h18 =>
  gP v22 .true (pLoad1 I v24 h18) h18 fun v25 h19 =>
  gP v22 .true (pBin .eql v25 (Z 0)) h19 fun v26 h20 =>
  kP v22 v26 bF fun v27 =>
  gP v27 .true (pFieldAddr 3 v3) h20 fun v29 h21 =>
  gP v27 .true (pLoad1 I v29 h21) h21 fun v30 h22 =>
  gV v27 .true v15 h22 fun v31 h23 =>
  gS v27 .true (call 34 [v30, v31] h23) h23 fun v32 h24 =>
  kP v27 v32 bF fun v33 =>
  some (v33, h24)))
def f36.J (I : Inp) (call : CallFn) (n : Nat) : f36.Js :=
  Nat.rec (motive := fun _ => f36.Js) Zr.z (fun _ j => f36.b0 I call j) n
theorem f36.n0 : (f36.J I call (n + 1)) = f36.b0 I call (f36.J I call n) := nrfl
def f36.JS (I : Inp) (call : CallFn) (n : Nat) : Jmp := (fun j : f36.Js => jmp [Ap.ap j []]) (f36.J I call n)
theorem f36.S : SFn ⟨P, I, F⟩ call c36 (f36.JS I call) := .all 1 (by kernel_rfl) (fun ρ h => by kernel_rfl) (fun n ρ h => by kernel_rfl)
theorem f36.qe : Ap.all (f36.e I call (f36.J I call n)) (fun l h => execC P I call (f36.JS I call n) c36.body 0 (finV I c36.results) (argV l) h) := fun v0 v1 h => by kernel_rfl
theorem f36.code : codeOf P 36 = some c36 := by kernel_rfl
def f36.run (I : Inp) : SF := fun call n => Ap.ar (f36.e I call (f36.J I call n))
theorem f36.ok (I : Inp) (F : Nat → Option AFn) (hF : F 36 = some (.code c36)) : SfOk P I F 36 (f36.run I) := okOf hF (by kernel_rfl) (fun _ => f36.S) fun call n => f36.qe
theorem f36.lim (hp : prims 36 = none) {v0 v1 : AVal} (hr : Res (f36.e I (AM.lim ⟨P, I, genF P prims⟩) (f36.J I (AM.lim ⟨P, I, genF P prims⟩) n) v0 v1 h) Q) : Res ((AM.lim ⟨P, I, genF P prims⟩) 36 [v0, v1] h) Q := limOf (n := n) hp f36.code (f36.ok I) hr rfl
/-! haruspex/haruspexref8.Impl -/
def c37 : AFunc := cOf P 37
abbrev f37.Js : Type := ((A0 × A4) × (A4 × A4))
def f37.b0 (I : Inp) (call : CallFn) (j : f37.Js) (h : AHeap) : Rs :=
  some ((.int .i64 (.negSucc 0)), h)
def f37.b1 (I : Inp) (call : CallFn) (j : f37.Js) (v0 v1 v2 v7 : AVal) (h : AHeap) : Rs :=
  kN v0 fun v10 =>
  kF 3 v10 fun v11 =>
  kL I v11 h fun v12 =>
  kZ v12 fun v13 =>
  kB .lss v7 v13 fun v14 =>
  sCond v14 (
  j.1.1 h) (
  j.2.1 v0 v1 v2 v7 h)
def f37.b2 (I : Inp) (call : CallFn) (j : f37.Js) (v0 v1 v2 v7 : AVal) (h : AHeap) : Rs :=
  kN v0 fun v18 =>
  kF 3 v18 fun v19 =>
  kL I v19 h fun v20 =>
  kI 3 v20 v7 fun v22 =>
  kF 0 v22 fun v23 =>
  kL I v23 h fun v24 =>
  kB .eql v24 v1 fun v26 =>
  gV v26 .true v0 h fun v28 h1 =>
  gP v26 .true (pNilCheck v28) h1 fun v29 h2 =>
  gP v26 .true (pFieldAddr 3 v29) h2 fun v30 h3 =>
  gP v26 .true (pLoad1 I v30 h3) h3 fun v31 h4 =>
  gV v26 .true v7 h4 fun v32 h5 =>
  gP v26 .true (pIndexAddr 3 v31 v32) h5 fun v33 h6 =>
  gP v26 .true (pFieldAddr 1 v33) h6 fun v34 h7 =>
  gP v26 .true (pLoad1 I v34 h7) h7 fun v35 h8 =>
  gV v26 .true v2 h8 fun v36 h9 =>
  gP v26 .true (pBin .eql v35 v36) h9 fun v37 h10 =>
  kP v26 v37 bF fun v38 =>
  sCond v38 (
  j.2.2 v0 v1 v2 v7 h10) (
  some (v7, h10))
def f37.b3 (I : Inp) (call : CallFn) (j : f37.Js) (v0 v1 v2 v7 : AVal) (h : AHeap) : Rs :=
  kB .add v7 (Z 1) fun v16 =>
  j.1.2 v0 v1 v2 v16 h
def f37.e (I : Inp) (call : CallFn) (j : f37.Js) (v0 v1 v2 : AVal) (h : AHeap) : Rs :=
  j.1.2 v0 v1 v2 (Z 0) h
def f37.J (I : Inp) (call : CallFn) (n : Nat) : f37.Js :=
  Nat.rec (motive := fun _ => f37.Js) ((Zr.z, Zr.z), (Zr.z, Zr.z)) (fun _ j => ((f37.b0 I call j, f37.b1 I call j), (f37.b2 I call j, f37.b3 I call j))) n
theorem f37.n0 : (f37.J I call (n + 1)).1.1 = f37.b0 I call (f37.J I call n) := nrfl
theorem f37.n1 : (f37.J I call (n + 1)).1.2 = f37.b1 I call (f37.J I call n) := nrfl
theorem f37.n2 : (f37.J I call (n + 1)).2.1 = f37.b2 I call (f37.J I call n) := nrfl
theorem f37.n3 : (f37.J I call (n + 1)).2.2 = f37.b3 I call (f37.J I call n) := nrfl
def f37.JS (I : Inp) (call : CallFn) (n : Nat) : Jmp := (fun j : f37.Js => jmp [Ap.ap j.1.1 [], Ap.ap j.1.2 [0, 1, 2, 7], Ap.ap j.2.1 [0, 1, 2, 7], Ap.ap j.2.2 [0, 1, 2, 7]]) (f37.J I call n)
theorem f37.S : SFn ⟨P, I, F⟩ call c37 (f37.JS I call) := .all 4 (by kernel_rfl) (fun ρ h => by kernel_rfl) (fun n ρ h => by kernel_rfl)
theorem f37.qe : Ap.all (f37.e I call (f37.J I call n)) (fun l h => execC P I call (f37.JS I call n) c37.body 0 (finV I c37.results) (argV l) h) := fun v0 v1 v2 h => by kernel_rfl
theorem f37.code : codeOf P 37 = some c37 := by kernel_rfl
def f37.run (I : Inp) : SF := fun call n => Ap.ar (f37.e I call (f37.J I call n))
theorem f37.ok (I : Inp) (F : Nat → Option AFn) (hF : F 37 = some (.code c37)) : SfOk P I F 37 (f37.run I) := okOf hF (by kernel_rfl) (fun _ => f37.S) fun call n => f37.qe
theorem f37.lim (hp : prims 37 = none) {v0 v1 v2 : AVal} (hr : Res (f37.e I (AM.lim ⟨P, I, genF P prims⟩) (f37.J I (AM.lim ⟨P, I, genF P prims⟩) n) v0 v1 v2 h) Q) : Res ((AM.lim ⟨P, I, genF P prims⟩) 37 [v0, v1, v2] h) Q := limOf (n := n) hp f37.code (f37.ok I) hr rfl
/-! haruspex/haruspexref8.eq -/
def c38 : AFunc := cOf P 38
abbrev f38.Js : Type := Unit
def f38.e (I : Inp) (call : CallFn) (j : f38.Js) (v0 v1 : AVal) (h : AHeap) : Rs :=
  bnd (sBox v0 h) fun v2 h1 =>
  bnd (sBox v1 h1) fun v3 h2 =>
  kF 0 v2 fun v5 =>
  kL I v5 h2 fun v6 =>
  kF 0 v3 fun v7 =>
  kL I v7 h2 fun v8 =>
  kB .eql v6 v8 fun v9 =>
  gP v9 .true (pFieldAddr 1 v2) h2 fun v11 h3 =>
  gP v9 .true (pLoad1 I v11 h3) h3 fun v12 h4 =>
  gP v9 .true (pFieldAddr 1 v3) h4 fun v13 h5 =>
  gP v9 .true (pLoad1 I v13 h5) h5 fun v14 h6 =>
  gP v9 .true (pBin .eql v12 v14) h6 fun v15 h7 =>
  kP v9 v15 bF fun v16 =>
  some (v16, h7)
theorem f38.S : SFn ⟨P, I, F⟩ call c38 (fun _ => jmp []) := .all 0 (by kernel_rfl) (fun ρ h => by kernel_rfl) (fun n ρ h => by kernel_rfl)
theorem f38.qe : Ap.all (f38.e I call ()) (fun l h => execC P I call (jmp []) c38.body 0 (finV I c38.results) (argV l) h) := fun v0 v1 h => by kernel_rfl
theorem f38.code : codeOf P 38 = some c38 := by kernel_rfl
def f38.run (I : Inp) : SF := fun call n => Ap.ar (f38.e I call ())
theorem f38.ok (I : Inp) (F : Nat → Option AFn) (hF : F 38 = some (.code c38)) : SfOk P I F 38 (f38.run I) := okOf hF (by kernel_rfl) (fun _ => f38.S) fun call n => f38.qe
theorem f38.lim (hp : prims 38 = none) {n : Nat} {v0 v1 : AVal} (hr : Res (f38.e I (AM.lim ⟨P, I, genF P prims⟩) () v0 v1 h) Q) : Res ((AM.lim ⟨P, I, genF P prims⟩) 38 [v0, v1] h) Q := limOf (n := n) hp f38.code (f38.ok I) hr rfl
/-! haruspex/haruspexref8.num -/
def c39 : AFunc := cOf P 39
abbrev f39.Js : Type := ((A1 × A2) × (A2 × A2))
def f39.b0 (I : Inp) (call : CallFn) (j : f39.Js) (v3 : AVal) (h : AHeap) : Rs :=
  j.2.1 v3 .nils h
def f39.b1 (I : Inp) (call : CallFn) (j : f39.Js) (v3 v4 : AVal) (h : AHeap) : Rs :=
  bndP (pToInt .u8 v3) fun v25 =>
  bnd (sBuildSlice [(.int .u8 (.ofNat 0))] 1 [(0, 1, v25)] h) fun v26 h1 =>
  bnd (sAppend I 1 1 v4 v26 h1) fun v27 h2 =>
  some (v27, h2)
def f39.b2 (I : Inp) (call : CallFn) (j : f39.Js) (v3 v4 : AVal) (h : AHeap) : Rs :=
  kB .geq v3 (.int .u64 (.ofNat 128)) fun v13 =>
  sCond v13 (
  j.1.2 v3 v4 h) (
  j.2.2 v3 v4 h)
def f39.b3 (I : Inp) (call : CallFn) (j : f39.Js) (v3 v4 : AVal) (h : AHeap) : Rs :=
  kB .rem v3 (.int .u64 (.ofNat 128)) fun v16 =>
  kB .add v16 (.int .u64 (.ofNat 128)) fun v17 =>
  bndP (pToInt .u8 v17) fun v18 =>
  bnd (sBuildSlice [(.int .u8 (.ofNat 0))] 1 [(0, 1, v18)] h) fun v19 h1 =>
  bnd (sAppend I 1 1 v4 v19 h1) fun v20 h2 =>
  kB .quo v3 (.int .u64 (.ofNat 128)) fun v22 =>
  j.2.1 v22 v20 h2
def f39.e (I : Inp) (call : CallFn) (j : f39.Js) (v0 : AVal) (h : AHeap) : Rs :=
  bndP (pToInt .u64 v0) fun v6 =>
  kB .mul v6 (.int .u64 (.ofNat 2)) fun v7 =>
  kB .lss v0 (Z 0) fun v9 =>
  sCond v9 (
  j.1.1 v7 h) (
  kU .xor v7 fun v11 =>
  j.1.1 v11 h)
def f39.J (I : Inp) (call : CallFn) (n : Nat) : f39.Js :=
  Nat.rec (motive := fun _ => f39.Js) ((Zr.z, Zr.z), (Zr.z, Zr.z)) (fun _ j => ((f39.b0 I call j, f39.b1 I call j), (f39.b2 I call j, f39.b3 I call j))) n
def f39.JS (I : Inp) (call : CallFn) (n : Nat) : Jmp := (fun j : f39.Js => jmp [Ap.ap j.1.1 [3], Ap.ap j.1.2 [3, 4], Ap.ap j.2.1 [3, 4], Ap.ap j.2.2 [3, 4]]) (f39.J I call n)
theorem f39.S : SFn ⟨P, I, F⟩ call c39 (f39.JS I call) := .all 4 (by kernel_rfl) (fun ρ h => by kernel_rfl) (fun n ρ h => by kernel_rfl)
theorem f39.qe : Ap.all (f39.e I call (f39.J I call n)) (fun l h => execC P I call (f39.JS I call n) c39.body 0 (finV I c39.results) (argV l) h) := fun v0 h => by kernel_rfl
theorem f39.code : codeOf P 39 = some c39 := by kernel_rfl
def f39.run (I : Inp) : SF := fun call n => Ap.ar (f39.e I call (f39.J I call n))
theorem f39.ok (I : Inp) (F : Nat → Option AFn) (hF : F 39 = some (.code c39)) : SfOk P I F 39 (f39.run I) := okOf hF (by kernel_rfl) (fun _ => f39.S) fun call n => f39.qe
/-! haruspex/haruspexref8.types -/
def c40 : AFunc := cOf P 40
abbrev f40.Js : Type := ((A1 × A3) × (A3 × A3))
def f40.b0 (I : Inp) (call : CallFn) (j : f40.Js) (v3 : AVal) (h : AHeap) : Rs :=
  some (v3, h)
def f40.b1 (I : Inp) (call : CallFn) (j : f40.Js) (v0 v3 v4 : AVal) (h : AHeap) : Rs :=
  kZ v0 fun v10 =>
  kB .lss v4 v10 fun v11 =>
  sCond v11 (
  j.1.1 v3 h) (
  j.2.1 v0 v3 v4 h)
def f40.b2 (I : Inp) (call : CallFn) (j : f40.Js) (v0 v3 v4 : AVal) (h : AHeap) : Rs :=
  kI 2 v0 v4 fun v17 =>
  kF 0 v17 fun v18 =>
  kL I v18 h fun v19 =>
  kC call 39 [v19] h fun v20 h1 =>
  bnd (sAppend I 1 1 v3 v20 h1) fun v21 h2 =>
  kI 2 v0 v4 fun v24 =>
  kF 1 v24 fun v25 =>
  kL I v25 h2 fun v26 =>
  kC call 39 [v26] h2 fun v27 h3 =>
  bnd (sAppend I 1 1 v21 v27 h3) fun v28 h4 =>
  sCheck (sSame (lift (pLoad1 I v25 h) h) v26 && (sSame (lift (pLoad1 I v25 h1) h1) v26 && true)) (
  j.2.2 v0 v28 v4 h4)
def f40.b3 (I : Inp) (call : CallFn) (j : f40.Js) (v0 v3 v4 : AVal) (h : AHeap) : Rs :=
  kB .add v4 (Z 1) fun v13 =>
  j.1.2 v0 v3 v13 h
def f40.e (I : Inp) (call : CallFn) (j : f40.Js) (v0 : AVal) (h : AHeap) : Rs :=
  kZ v0 fun v6 =>
  kC call 39 [v6] h fun v7 h1 =>
  j.1.2 v0 v7 (Z 0) h1
def f40.J (I : Inp) (call : CallFn) (n : Nat) : f40.Js :=
  Nat.rec (motive := fun _ => f40.Js) ((Zr.z, Zr.z), (Zr.z, Zr.z)) (fun _ j => ((f40.b0 I call j, f40.b1 I call j), (f40.b2 I call j, f40.b3 I call j))) n
def f40.JS (I : Inp) (call : CallFn) (n : Nat) : Jmp := (fun j : f40.Js => jmp [Ap.ap j.1.1 [3], Ap.ap j.1.2 [0, 3, 4], Ap.ap j.2.1 [0, 3, 4], Ap.ap j.2.2 [0, 3, 4]]) (f40.J I call n)
theorem f40.S : SFn ⟨P, I, F⟩ call c40 (f40.JS I call) := .all 4 (by kernel_rfl) (fun ρ h => by kernel_rfl) (fun n ρ h => by kernel_rfl)
theorem f40.qe : Ap.all (f40.e I call (f40.J I call n)) (fun l h => execC P I call (f40.JS I call n) c40.body 0 (finV I c40.results) (argV l) h) := fun v0 h => by kernel_rfl
theorem f40.code : codeOf P 40 = some c40 := by kernel_rfl
def f40.run (I : Inp) : SF := fun call n => Ap.ar (f40.e I call (f40.J I call n))
theorem f40.ok (I : Inp) (F : Nat → Option AFn) (hF : F 40 = some (.code c40)) : SfOk P I F 40 (f40.run I) := okOf hF (by kernel_rfl) (fun _ => f40.S) fun call n => f40.qe
/-! haruspex/haruspexref8.nums -/
def c41 : AFunc := cOf P 41
abbrev f41.Js : Type := ((A1 × A3) × (A3 × A3))
def f41.b0 (I : Inp) (call : CallFn) (j : f41.Js) (v3 : AVal) (h : AHeap) : Rs :=
  some (v3, h)
def f41.b1 (I : Inp) (call : CallFn) (j : f41.Js) (v0 v3 v4 : AVal) (h : AHeap) : Rs :=
  kZ v0 fun v10 =>
  kB .lss v4 v10 fun v11 =>
  sCond v11 (
  j.1.1 v3 h) (
  j.2.1 v0 v3 v4 h)
def f41.b2 (I : Inp) (call : CallFn) (j : f41.Js) (v0 v3 v4 : AVal) (h : AHeap) : Rs :=
  kI 1 v0 v4 fun v17 =>
  kL I v17 h fun v18 =>
  kC call 39 [v18] h fun v19 h1 =>
  bnd (sAppend I 1 1 v3 v19 h1) fun v20 h2 =>
  j.2.2 v0 v20 v4 h2
def f41.b3 (I : Inp) (call : CallFn) (j : f41.Js) (v0 v3 v4 : AVal) (h : AHeap) : Rs :=
  kB .add v4 (Z 1) fun v13 =>
  j.1.2 v0 v3 v13 h
def f41.e (I : Inp) (call : CallFn) (j : f41.Js) (v0 : AVal) (h : AHeap) : Rs :=
  kZ v0 fun v6 =>
  kC call 39 [v6] h fun v7 h1 =>
  j.1.2 v0 v7 (Z 0) h1
def f41.J (I : Inp) (call : CallFn) (n : Nat) : f41.Js :=
  Nat.rec (motive := fun _ => f41.Js) ((Zr.z, Zr.z), (Zr.z, Zr.z)) (fun _ j => ((f41.b0 I call j, f41.b1 I call j), (f41.b2 I call j, f41.b3 I call j))) n
def f41.JS (I : Inp) (call : CallFn) (n : Nat) : Jmp := (fun j : f41.Js => jmp [Ap.ap j.1.1 [3], Ap.ap j.1.2 [0, 3, 4], Ap.ap j.2.1 [0, 3, 4], Ap.ap j.2.2 [0, 3, 4]]) (f41.J I call n)
theorem f41.S : SFn ⟨P, I, F⟩ call c41 (f41.JS I call) := .all 4 (by kernel_rfl) (fun ρ h => by kernel_rfl) (fun n ρ h => by kernel_rfl)
theorem f41.qe : Ap.all (f41.e I call (f41.J I call n)) (fun l h => execC P I call (f41.JS I call n) c41.body 0 (finV I c41.results) (argV l) h) := fun v0 h => by kernel_rfl
theorem f41.code : codeOf P 41 = some c41 := by kernel_rfl
def f41.run (I : Inp) : SF := fun call n => Ap.ar (f41.e I call (f41.J I call n))
theorem f41.ok (I : Inp) (F : Nat → Option AFn) (hF : F 41 = some (.code c41)) : SfOk P I F 41 (f41.run I) := okOf hF (by kernel_rfl) (fun _ => f41.S) fun call n => f41.qe
/-! haruspex/haruspexref8.block -/
def c42 : AFunc := cOf P 42
abbrev f42.Js : Type := ((A2 × A3) × (A3 × A3))
def f42.b0 (I : Inp) (call : CallFn) (j : f42.Js) (v1 v3 : AVal) (h : AHeap) : Rs :=
  kF 1 v1 fun v53 =>
  kL I v53 h fun v54 =>
  kC call 39 [v54] h fun v55 h1 =>
  bnd (sAppend I 1 1 v3 v55 h1) fun v56 h2 =>
  kF 2 v1 fun v57 =>
  kL I v57 h2 fun v58 =>
  kC call 39 [v58] h2 fun v59 h3 =>
  bnd (sAppend I 1 1 v56 v59 h3) fun v60 h4 =>
  sCheck (sSame (lift (pLoad1 I v57 h) h) v58 && (sSame (lift (pLoad1 I v57 h1) h1) v58 && true)) (
  kF 3 v1 fun v62 =>
  kL I v62 h4 fun v63 =>
  kC call 39 [v63] h4 fun v64 h5 =>
  bnd (sAppend I 1 1 v60 v64 h5) fun v65 h6 =>
  kF 4 v1 fun v66 =>
  kL I v66 h6 fun v67 =>
  kC call 39 [v67] h6 fun v68 h7 =>
  bnd (sAppend I 1 1 v65 v68 h7) fun v69 h8 =>
  sCheck (sSame (lift (pLoad1 I v66 h4) h4) v67 && (sSame (lift (pLoad1 I v66 h5) h5) v67 && true)) (
  some (v69, h8)))
def f42.b1 (I : Inp) (call : CallFn) (j : f42.Js) (v1 v3 v4 : AVal) (h : AHeap) : Rs :=
  kF 0 v1 fun v11 =>
  kL I v11 h fun v12 =>
  kZ v12 fun v13 =>
  kB .lss v4 v13 fun v14 =>
  sCond v14 (
  j.1.1 v1 v3 h) (
  j.2.1 v1 v3 v4 h)
def f42.b2 (I : Inp) (call : CallFn) (j : f42.Js) (v1 v3 v4 : AVal) (h : AHeap) : Rs :=
  kF 0 v1 fun v17 =>
  kL I v17 h fun v18 =>
  kI 6 v18 v4 fun v20 =>
  kM I 6 v20 h fun v21 =>
  kA [(Z 0), (Z 0), (Z 0), (Z 0), (Z 0), .nils] h fun v5 h1 =>
  kS 6 v5 v21 h1 fun _ h2 =>
  kF 0 v5 fun v23 =>
  kL I v23 h2 fun v24 =>
  kC call 39 [v24] h2 fun v25 h3 =>
  bnd (sAppend I 1 1 v3 v25 h3) fun v26 h4 =>
  kF 1 v5 fun v28 =>
  kL I v28 h4 fun v29 =>
  kC call 39 [v29] h4 fun v30 h5 =>
  bnd (sAppend I 1 1 v26 v30 h5) fun v31 h6 =>
  kF 2 v5 fun v33 =>
  kL I v33 h6 fun v34 =>
  kC call 39 [v34] h6 fun v35 h7 =>
  bnd (sAppend I 1 1 v31 v35 h7) fun v36 h8 =>
  kF 3 v5 fun v38 =>
  kL I v38 h8 fun v39 =>
  kC call 39 [v39] h8 fun v40 h9 =>
  bnd (sAppend I 1 1 v36 v40 h9) fun v41 h10 =>
  kF 4 v5 fun v43 =>
  kL I v43 h10 fun v44 =>
  kC call 39 [v44] h10 fun v45 h11 =>
  bnd (sAppend I 1 1 v41 v45 h11) fun v46 h12 =>
  kF 5 v5 fun v48 =>
  kL I v48 h12 fun v49 =>
  kC call 41 [v49] h12 fun v50 h13 =>
  bnd (sAppend I 1 1 v46 v50 h13) fun v51 h14 =>
  j.2.2 v1 v51 v4 h14
def f42.b3 (I : Inp) (call : CallFn) (j : f42.Js) (v1 v3 v4 : AVal) (h : AHeap) : Rs :=
  kB .add v4 (Z 1) fun v16 =>
  j.1.2 v1 v3 v16 h
def f42.e (I : Inp) (call : CallFn) (j : f42.Js) (v0 : AVal) (h : AHeap) : Rs :=
  bnd (sBox v0 h) fun v1 h1 =>
  kF 0 v1 fun v6 =>
  kL I v6 h1 fun v7 =>
  kZ v7 fun v8 =>
  kC call 39 [v8] h1 fun v9 h2 =>
  j.1.2 v1 v9 (Z 0) h2
def f42.J (I : Inp) (call : CallFn) (n : Nat) : f42.Js :=
  Nat.rec (motive := fun _ => f42.Js) ((Zr.z, Zr.z), (Zr.z, Zr.z)) (fun _ j => ((f42.b0 I call j, f42.b1 I call j), (f42.b2 I call j, f42.b3 I call j))) n
def f42.JS (I : Inp) (call : CallFn) (n : Nat) : Jmp := (fun j : f42.Js => jmp [Ap.ap j.1.1 [1, 3], Ap.ap j.1.2 [1, 3, 4], Ap.ap j.2.1 [1, 3, 4], Ap.ap j.2.2 [1, 3, 4]]) (f42.J I call n)
theorem f42.S : SFn ⟨P, I, F⟩ call c42 (f42.JS I call) := .all 4 (by kernel_rfl) (fun ρ h => by kernel_rfl) (fun n ρ h => by kernel_rfl)
theorem f42.qe : Ap.all (f42.e I call (f42.J I call n)) (fun l h => execC P I call (f42.JS I call n) c42.body 0 (finV I c42.results) (argV l) h) := fun v0 h => by kernel_rfl
theorem f42.code : codeOf P 42 = some c42 := by kernel_rfl
def f42.run (I : Inp) : SF := fun call n => Ap.ar (f42.e I call (f42.J I call n))
theorem f42.ok (I : Inp) (F : Nat → Option AFn) (hF : F 42 = some (.code c42)) : SfOk P I F 42 (f42.run I) := okOf hF (by kernel_rfl) (fun _ => f42.S) fun call n => f42.qe
/-! haruspex/code.Decode -/
def c46 : AFunc := cOf P 46
abbrev f46.Js : Type := (A1 × A1)
def f46.b0 (I : Inp) (call : CallFn) (j : f46.Js) (v0 : AVal) (h : AHeap) : Rs :=
  bndP (pBuild [.nils, bF] [(0, 1, v0)]) fun v11 =>
  bnd (sBox v11 h) fun v12 h1 =>
  kC call 66 [v12] h1 fun v14 h2 =>
  kN v12 fun v16 =>
  kF 1 v16 fun v17 =>
  kL I v17 h2 fun v18 =>
  gV v18 .false v12 h2 fun v20 h3 =>
  gP v18 .false (pNilCheck v20) h3 fun v21 h4 =>
  gP v18 .false (pFieldAddr 0 v21) h4 fun v22 h5 =>
  gP v18 .false (pLoad1 I v22 h5) h5 fun v23 h6 =>
  gP v18 .false (pLenSl v23) h6 fun v24 h7 =>
  gP v18 .false (pBin .gtr v24 (Z 0)) h7 fun v25 h8 =>
  kP v18 bT v25 fun v26 =>
  gV v26 .false v14 h8 fun v28 h9 =>
  gS v26 .false (call 68 [v28] h9) h9 fun v29 h10 =>
  gV v26 .false v0 h10 fun v30 h11 =>
  gS v26 .false (call 67 [v29, v30] h11) h11 fun v31 h12 =>
  gP v26 .false (pUn .not v31) h12 fun v32 h13 =>
  kP v26 bT v32 fun v33 =>
  sCond v33 (
  j.2 v14 h13) (
  kC call 65 [] h13 fun v34 h14 =>
  some (.tuple [.nilp, v34], h14))
def f46.b1 (I : Inp) (call : CallFn) (j : f46.Js) (v5 : AVal) (h : AHeap) : Rs :=
  some (.tuple [v5, .nili], h)
def f46.e (I : Inp) (call : CallFn) (j : f46.Js) (v0 : AVal) (h : AHeap) : Rs :=
  kZ v0 fun v7 =>
  kB .gtr v7 (Z 20000) fun v8 =>
  sCond v8 (
  j.1 v0 h) (
  kC call 65 [] h fun v9 h1 =>
  some (.tuple [.nilp, v9], h1))
def f46.J (I : Inp) (call : CallFn) (n : Nat) : f46.Js :=
  Nat.rec (motive := fun _ => f46.Js) (Zr.z, Zr.z) (fun _ j => (f46.b0 I call j, f46.b1 I call j)) n
def f46.JS (I : Inp) (call : CallFn) (n : Nat) : Jmp := (fun j : f46.Js => jmp [Ap.ap j.1 [0], Ap.ap j.2 [5]]) (f46.J I call n)
theorem f46.S : SFn ⟨P, I, F⟩ call c46 (f46.JS I call) := .all 2 (by kernel_rfl) (fun ρ h => by kernel_rfl) (fun n ρ h => by kernel_rfl)
theorem f46.qe : Ap.all (f46.e I call (f46.J I call n)) (fun l h => execC P I call (f46.JS I call n) c46.body 0 (finV I c46.results) (argV l) h) := fun v0 h => by kernel_rfl
theorem f46.code : codeOf P 46 = some c46 := by kernel_rfl
def f46.run (I : Inp) : SF := fun call n => Ap.ar (f46.e I call (f46.J I call n))
theorem f46.ok (I : Inp) (F : Nat → Option AFn) (hF : F 46 = some (.code c46)) : SfOk P I F 46 (f46.run I) := okOf hF (by kernel_rfl) (fun _ => f46.S) fun call n => f46.qe
/-! haruspex/refuse.first -/
def c47 : AFunc := cOf P 47
abbrev f47.Js : Type := A1
def f47.b0 (I : Inp) (call : CallFn) (j : f47.Js) (v3 : AVal) (h : AHeap) : Rs :=
  kL I v3 h fun v8 =>
  some (v8, h)
def f47.e (I : Inp) (call : CallFn) (j : f47.Js) (v0 : AVal) (h : AHeap) : Rs :=
  kA [.nilp] h fun v3 h1 =>
  kC call 69 [v0, (.iface 116 v3)] h1 fun v6 h2 =>
  kU .not v6 fun v7 =>
  sCond v7 (
  j v3 h2) (
  some (.nilp, h2))
def f47.J (I : Inp) (call : CallFn) (n : Nat) : f47.Js :=
  Nat.rec (motive := fun _ => f47.Js) Zr.z (fun _ j => f47.b0 I call j) n
theorem f47.n0 : (f47.J I call (n + 1)) = f47.b0 I call (f47.J I call n) := nrfl
def f47.JS (I : Inp) (call : CallFn) (n : Nat) : Jmp := (fun j : f47.Js => jmp [Ap.ap j [3]]) (f47.J I call n)
theorem f47.S : SFn ⟨P, I, F⟩ call c47 (f47.JS I call) := .all 1 (by kernel_rfl) (fun ρ h => by kernel_rfl) (fun n ρ h => by kernel_rfl)
theorem f47.qe : Ap.all (f47.e I call (f47.J I call n)) (fun l h => execC P I call (f47.JS I call n) c47.body 0 (finV I c47.results) (argV l) h) := fun v0 h => by kernel_rfl
theorem f47.code : codeOf P 47 = some c47 := by kernel_rfl
def f47.run (I : Inp) : SF := fun call n => Ap.ar (f47.e I call (f47.J I call n))
theorem f47.ok (I : Inp) (F : Nat → Option AFn) (hF : F 47 = some (.code c47)) : SfOk P I F 47 (f47.run I) := okOf hF (by kernel_rfl) (fun _ => f47.S) fun call n => f47.qe
theorem f47.lim (hp : prims 47 = none) {v0 : AVal} (hr : Res (f47.e I (AM.lim ⟨P, I, genF P prims⟩) (f47.J I (AM.lim ⟨P, I, genF P prims⟩) n) v0 h) Q) : Res ((AM.lim ⟨P, I, genF P prims⟩) 47 [v0] h) Q := limOf (n := n) hp f47.code (f47.ok I) hr rfl
/-! haruspex/types.Bounds -/
def c48 : AFunc := cOf P 48
abbrev f48.Js : Type := ((((A1 × A2) × (A5 × (A5 × A5))) × ((A2 × (A5 × A5)) × (A5 × (A2 × A5)))) × (((A5 × A5) × (A2 × (A5 × A5))) × ((A5 × (A3 × A6)) × (A6 × (A6 × A0)))))
def f48.b0 (I : Inp) (call : CallFn) (j : f48.Js) (v0 : AVal) (h : AHeap) : Rs :=
  kN v0 fun v71 =>
  kF 0 v71 fun v72 =>
  kL I v72 h fun v73 =>
  kZ v73 fun v74 =>
  j.1.1.2.1 v0 bT v73 v74 (Z 0) h
def f48.b1 (I : Inp) (call : CallFn) (j : f48.Js) (v0 v3 : AVal) (h : AHeap) : Rs :=
  kN v0 fun v87 =>
  kF 1 v87 fun v88 =>
  kL I v88 h fun v89 =>
  kZ v89 fun v90 =>
  j.1.2.1.2.1 v0 v3 v89 v90 (Z 0) h
def f48.b2 (I : Inp) (call : CallFn) (j : f48.Js) (v0 v3 v73 v74 v75 : AVal) (h : AHeap) : Rs :=
  kB .lss v75 v74 fun v76 =>
  sCond v76 (
  j.1.1.1.2 v0 v3 h) (
  j.1.1.2.2.1 v0 v3 v73 v74 v75 h)
def f48.b3 (I : Inp) (call : CallFn) (j : f48.Js) (v0 v3 v73 v74 v75 : AVal) (h : AHeap) : Rs :=
  kI 1 v73 v75 fun v77 =>
  kL I v77 h fun v78 =>
  gV v3 .true v78 h fun v81 h1 =>
  gP v3 .true (pLenSl v81) h1 fun v82 h2 =>
  gP v3 .true (pBin .leq v82 (Z 4)) h2 fun v83 h3 =>
  kP v3 v83 bF fun v84 =>
  j.1.1.2.2.2 v0 v84 v73 v74 v75 h3
def f48.b4 (I : Inp) (call : CallFn) (j : f48.Js) (v0 v3 v73 v74 v75 : AVal) (h : AHeap) : Rs :=
  kB .add v75 (Z 1) fun v85 =>
  j.1.1.2.1 v0 v3 v73 v74 v85 h
def f48.b5 (I : Inp) (call : CallFn) (j : f48.Js) (v0 v3 : AVal) (h : AHeap) : Rs :=
  kN v0 fun v104 =>
  kF 2 v104 fun v105 =>
  kL I v105 h fun v106 =>
  kZ v106 fun v107 =>
  j.1.2.2.2.2 v0 v3 v106 v107 (Z 0) h
def f48.b6 (I : Inp) (call : CallFn) (j : f48.Js) (v0 v3 v89 v90 v91 : AVal) (h : AHeap) : Rs :=
  kB .lss v91 v90 fun v92 =>
  sCond v92 (
  j.1.2.1.1 v0 v3 h) (
  j.1.2.1.2.2 v0 v3 v89 v90 v91 h)
def f48.b7 (I : Inp) (call : CallFn) (j : f48.Js) (v0 v3 v89 v90 v91 : AVal) (h : AHeap) : Rs :=
  kI 3 v89 v91 fun v93 =>
  kM I 3 v93 h fun v94 =>
  kA [.nils, (Z 0), (Z 0)] h fun v7 h1 =>
  kS 3 v7 v94 h1 fun _ h2 =>
  gP v3 .true (pFieldAddr 0 v7) h2 fun v97 h3 =>
  gP v3 .true (pLoad1 I v97 h3) h3 fun v98 h4 =>
  gP v3 .true (pLenSl v98) h4 fun v99 h5 =>
  gP v3 .true (pBin .leq v99 (Z 4)) h5 fun v100 h6 =>
  kP v3 v100 bF fun v101 =>
  j.1.2.2.1 v0 v101 v89 v90 v91 h6
def f48.b8 (I : Inp) (call : CallFn) (j : f48.Js) (v0 v3 v89 v90 v91 : AVal) (h : AHeap) : Rs :=
  kB .add v91 (Z 1) fun v102 =>
  j.1.2.1.2.1 v0 v3 v89 v90 v102 h
def f48.b9 (I : Inp) (call : CallFn) (j : f48.Js) (v0 v3 : AVal) (h : AHeap) : Rs :=
  kN v0 fun v121 =>
  kF 3 v121 fun v122 =>
  kL I v122 h fun v123 =>
  kZ v123 fun v124 =>
  j.2.1.2.2.1 v0 v3 v123 v124 (Z 0) h
def f48.b10 (I : Inp) (call : CallFn) (j : f48.Js) (v0 v3 v106 v107 v108 : AVal) (h : AHeap) : Rs :=
  kB .lss v108 v107 fun v109 =>
  sCond v109 (
  j.1.2.2.2.1 v0 v3 h) (
  j.2.1.1.1 v0 v3 v106 v107 v108 h)
def f48.b11 (I : Inp) (call : CallFn) (j : f48.Js) (v0 v3 v106 v107 v108 : AVal) (h : AHeap) : Rs :=
  kI 1 v106 v108 fun v110 =>
  kM I 1 v110 h fun v111 =>
  kA [.nils] h fun v9 h1 =>
  kS 1 v9 v111 h1 fun _ h2 =>
  gP v3 .true (pFieldAddr 0 v9) h2 fun v114 h3 =>
  gP v3 .true (pLoad1 I v114 h3) h3 fun v115 h4 =>
  gP v3 .true (pLenSl v115) h4 fun v116 h5 =>
  gP v3 .true (pBin .leq v116 (Z 3)) h5 fun v117 h6 =>
  kP v3 v117 bF fun v118 =>
  j.2.1.1.2 v0 v118 v106 v107 v108 h6
def f48.b12 (I : Inp) (call : CallFn) (j : f48.Js) (v0 v3 v106 v107 v108 : AVal) (h : AHeap) : Rs :=
  kB .add v108 (Z 1) fun v119 =>
  j.1.2.2.2.2 v0 v3 v106 v107 v119 h
def f48.b13 (I : Inp) (call : CallFn) (j : f48.Js) (v0 v3 : AVal) (h : AHeap) : Rs :=
  kN v0 fun v138 =>
  kF 4 v138 fun v139 =>
  kL I v139 h fun v140 =>
  kZ v140 fun v141 =>
  j.2.2.1.2.2 v3 (Z 0) (Z 0) v140 v141 (Z 0) h
def f48.b14 (I : Inp) (call : CallFn) (j : f48.Js) (v0 v3 v123 v124 v125 : AVal) (h : AHeap) : Rs :=
  kB .lss v125 v124 fun v126 =>
  sCond v126 (
  j.2.1.2.1 v0 v3 h) (
  j.2.1.2.2.2 v0 v3 v123 v124 v125 h)
def f48.b15 (I : Inp) (call : CallFn) (j : f48.Js) (v0 v3 v123 v124 v125 : AVal) (h : AHeap) : Rs :=
  kI 3 v123 v125 fun v127 =>
  kM I 3 v127 h fun v128 =>
  kA [(Z 0), (Z 0), .nils] h fun v11 h1 =>
  kS 3 v11 v128 h1 fun _ h2 =>
  gP v3 .true (pFieldAddr 2 v11) h2 fun v131 h3 =>
  gP v3 .true (pLoad1 I v131 h3) h3 fun v132 h4 =>
  gP v3 .true (pLenSl v132) h4 fun v133 h5 =>
  gP v3 .true (pBin .leq v133 (Z 3)) h5 fun v134 h6 =>
  kP v3 v134 bF fun v135 =>
  j.2.2.1.1 v0 v135 v123 v124 v125 h6
def f48.b16 (I : Inp) (call : CallFn) (j : f48.Js) (v0 v3 v123 v124 v125 : AVal) (h : AHeap) : Rs :=
  kB .add v125 (Z 1) fun v136 =>
  j.2.1.2.2.1 v0 v3 v123 v124 v136 h
def f48.b17 (I : Inp) (call : CallFn) (j : f48.Js) (v3 v12 v13 : AVal) (h : AHeap) : Rs :=
  kU .not v3 fun v164 =>
  gV v164 .false v12 h fun v166 h1 =>
  gP v164 .false (pBin .gtr v166 (Z 600)) h1 fun v167 h2 =>
  kP v164 bT v167 fun v168 =>
  gV v168 .false v13 h2 fun v170 h3 =>
  gP v168 .false (pBin .gtr v170 (Z 40)) h3 fun v171 h4 =>
  kP v168 bT v171 fun v172 =>
  sCond v172 (
  j.2.2.2.2.2 h4) (
  kC call 70 [] h4 fun v173 h5 =>
  some (v173, h5))
def f48.b18 (I : Inp) (call : CallFn) (j : f48.Js) (v3 v12 v13 v140 v141 v142 : AVal) (h : AHeap) : Rs :=
  kB .lss v142 v141 fun v143 =>
  sCond v143 (
  j.2.2.1.2.1 v3 v12 v13 h) (
  j.2.2.2.1 v3 v12 v13 v140 v141 v142 h)
def f48.b19 (I : Inp) (call : CallFn) (j : f48.Js) (v3 v12 v13 v140 v141 v142 : AVal) (h : AHeap) : Rs :=
  kI 3 v140 v142 fun v144 =>
  kM I 3 v144 h fun v145 =>
  kA [(Z 0), .nils, .nils] h fun v15 h1 =>
  kS 3 v15 v145 h1 fun _ h2 =>
  kM I 3 v15 h2 fun v147 =>
  kC call 71 [v147] h2 fun v148 h3 =>
  kX v148 0 fun v149 =>
  kX v148 1 fun v150 =>
  kX v148 2 fun v151 =>
  gV v3 .true v149 h3 fun v154 h4 =>
  kP v3 v154 bF fun v155 =>
  kB .add v12 v150 fun v158 =>
  kB .add v13 v151 fun v161 =>
  j.2.2.2.2.1 v155 v158 v161 v140 v141 v142 h4
def f48.b20 (I : Inp) (call : CallFn) (j : f48.Js) (v3 v12 v13 v140 v141 v142 : AVal) (h : AHeap) : Rs :=
  kB .add v142 (Z 1) fun v162 =>
  j.2.2.1.2.2 v3 v12 v13 v140 v141 v162 h
def f48.b21 (I : Inp) (call : CallFn) (j : f48.Js) (h : AHeap) : Rs :=
  some (.nili, h)
def f48.e (I : Inp) (call : CallFn) (j : f48.Js) (v0 : AVal) (h : AHeap) : Rs :=
  bndP (pEq P .false .ptr .true v0 .nilp h) fun v20 =>
  gV v20 .false v0 h fun v22 h1 =>
  gP v20 .false (pNilCheck v22) h1 fun v23 h2 =>
  gP v20 .false (pFieldAddr 0 v23) h2 fun v24 h3 =>
  gP v20 .false (pLoad1 I v24 h3) h3 fun v25 h4 =>
  gP v20 .false (pLenSl v25) h4 fun v26 h5 =>
  gP v20 .false (pBin .gtr v26 (Z 6)) h5 fun v27 h6 =>
  kP v20 bT v27 fun v28 =>
  gV v28 .false v0 h6 fun v30 h7 =>
  gP v28 .false (pNilCheck v30) h7 fun v31 h8 =>
  gP v28 .false (pFieldAddr 1 v31) h8 fun v32 h9 =>
  gP v28 .false (pLoad1 I v32 h9) h9 fun v33 h10 =>
  gP v28 .false (pLenSl v33) h10 fun v34 h11 =>
  gP v28 .false (pBin .gtr v34 (Z 10)) h11 fun v35 h12 =>
  kP v28 bT v35 fun v36 =>
  gV v36 .false v0 h12 fun v38 h13 =>
  gP v36 .false (pNilCheck v38) h13 fun v39 h14 =>
  gP v36 .false (pFieldAddr 2 v39) h14 fun v40 h15 =>
  gP v36 .false (pLoad1 I v40 h15) h15 fun v41 h16 =>
  gP v36 .false (pLenSl v41) h16 fun v42 h17 =>
  gP v36 .false (pBin .gtr v42 (Z 4)) h17 fun v43 h18 =>
  kP v36 bT v43 fun v44 =>
  gV v44 .false v0 h18 fun v46 h19 =>
  gP v44 .false (pNilCheck v46) h19 fun v47 h20 =>
  gP v44 .false (pFieldAddr 3 v47) h20 fun v48 h21 =>
  gP v44 .false (pLoad1 I v48 h21) h21 fun v49 h22 =>
  gP v44 .false (pLenSl v49) h22 fun v50 h23 =>
  gP v44 .false (pBin .gtr v50 (Z 12)) h23 fun v51 h24 =>
  kP v44 bT v51 fun v52 =>
  gV v52 .false v0 h24 fun v54 h25 =>
  gP v52 .false (pNilCheck v54) h25 fun v55 h26 =>
  gP v52 .false (pFieldAddr 4 v55) h26 fun v56 h27 =>
  gP v52 .false (pLoad1 I v56 h27) h27 fun v57 h28 =>
  gP v52 .false (pLenSl v57) h28 fun v58 h29 =>
  gP v52 .false (pBin .gtr v58 (Z 12)) h29 fun v59 h30 =>
  kP v52 bT v59 fun v60 =>
  gV v60 .false v0 h30 fun v62 h31 =>
  gP v60 .false (pNilCheck v62) h31 fun v63 h32 =>
  gP v60 .false (pFieldAddr 4 v63) h32 fun v64 h33 =>
  gP v60 .false (pLoad1 I v64 h33) h33 fun v65 h34 =>
  gP v60 .false (pLenSl v65) h34 fun v66 h35 =>
  gP v60 .false (pBin .eql v66 (Z 0)) h35 fun v67 h36 =>
  kP v60 bT v67 fun v68 =>
  sCond v68 (
  j.1.1.1.1 v0 h36) (
  kC call 70 [] h36 fun v69 h37 =>
  some (v69, h37))
def f48.J (I : Inp) (call : CallFn) (n : Nat) : f48.Js :=
  Nat.rec (motive := fun _ => f48.Js) ((((Zr.z, Zr.z), (Zr.z, (Zr.z, Zr.z))), ((Zr.z, (Zr.z, Zr.z)), (Zr.z, (Zr.z, Zr.z)))), (((Zr.z, Zr.z), (Zr.z, (Zr.z, Zr.z))), ((Zr.z, (Zr.z, Zr.z)), (Zr.z, (Zr.z, Zr.z))))) (fun _ j => ((((f48.b0 I call j, f48.b1 I call j), (f48.b2 I call j, (f48.b3 I call j, f48.b4 I call j))), ((f48.b5 I call j, (f48.b6 I call j, f48.b7 I call j)), (f48.b8 I call j, (f48.b9 I call j, f48.b10 I call j)))), (((f48.b11 I call j, f48.b12 I call j), (f48.b13 I call j, (f48.b14 I call j, f48.b15 I call j))), ((f48.b16 I call j, (f48.b17 I call j, f48.b18 I call j)), (f48.b19 I call j, (f48.b20 I call j, f48.b21 I call j)))))) n
theorem f48.n0 : (f48.J I call (n + 1)).1.1.1.1 = f48.b0 I call (f48.J I call n) := nrfl
theorem f48.n1 : (f48.J I call (n + 1)).1.1.1.2 = f48.b1 I call (f48.J I call n) := nrfl
theorem f48.n2 : (f48.J I call (n + 1)).1.1.2.1 = f48.b2 I call (f48.J I call n) := nrfl
theorem f48.n3 : (f48.J I call (n + 1)).1.1.2.2.1 = f48.b3 I call (f48.J I call n) := nrfl
theorem f48.n4 : (f48.J I call (n + 1)).1.1.2.2.2 = f48.b4 I call (f48.J I call n) := nrfl
theorem f48.n5 : (f48.J I call (n + 1)).1.2.1.1 = f48.b5 I call (f48.J I call n) := nrfl
theorem f48.n6 : (f48.J I call (n + 1)).1.2.1.2.1 = f48.b6 I call (f48.J I call n) := nrfl
theorem f48.n7 : (f48.J I call (n + 1)).1.2.1.2.2 = f48.b7 I call (f48.J I call n) := nrfl
theorem f48.n8 : (f48.J I call (n + 1)).1.2.2.1 = f48.b8 I call (f48.J I call n) := nrfl
theorem f48.n9 : (f48.J I call (n + 1)).1.2.2.2.1 = f48.b9 I call (f48.J I call n) := nrfl
theorem f48.n10 : (f48.J I call (n + 1)).1.2.2.2.2 = f48.b10 I call (f48.J I call n) := nrfl
theorem f48.n11 : (f48.J I call (n + 1)).2.1.1.1 = f48.b11 I call (f48.J I call n) := nrfl
theorem f48.n12 : (f48.J I call (n + 1)).2.1.1.2 = f48.b12 I call (f48.J I call n) := nrfl
theorem f48.n13 : (f48.J I call (n + 1)).2.1.2.1 = f48.b13 I call (f48.J I call n) := nrfl
theorem f48.n14 : (f48.J I call (n + 1)).2.1.2.2.1 = f48.b14 I call (f48.J I call n) := nrfl
theorem f48.n15 : (f48.J I call (n + 1)).2.1.2.2.2 = f48.b15 I call (f48.J I call n) := nrfl
theorem f48.n16 : (f48.J I call (n + 1)).2.2.1.1 = f48.b16 I call (f48.J I call n) := nrfl
theorem f48.n17 : (f48.J I call (n + 1)).2.2.1.2.1 = f48.b17 I call (f48.J I call n) := nrfl
theorem f48.n18 : (f48.J I call (n + 1)).2.2.1.2.2 = f48.b18 I call (f48.J I call n) := nrfl
theorem f48.n19 : (f48.J I call (n + 1)).2.2.2.1 = f48.b19 I call (f48.J I call n) := nrfl
theorem f48.n20 : (f48.J I call (n + 1)).2.2.2.2.1 = f48.b20 I call (f48.J I call n) := nrfl
theorem f48.n21 : (f48.J I call (n + 1)).2.2.2.2.2 = f48.b21 I call (f48.J I call n) := nrfl
def f48.JS (I : Inp) (call : CallFn) (n : Nat) : Jmp := (fun j : f48.Js => jmp [Ap.ap j.1.1.1.1 [0], Ap.ap j.1.1.1.2 [0, 3], Ap.ap j.1.1.2.1 [0, 3, 73, 74, 75], Ap.ap j.1.1.2.2.1 [0, 3, 73, 74, 75], Ap.ap j.1.1.2.2.2 [0, 3, 73, 74, 75], Ap.ap j.1.2.1.1 [0, 3], Ap.ap j.1.2.1.2.1 [0, 3, 89, 90, 91], Ap.ap j.1.2.1.2.2 [0, 3, 89, 90, 91], Ap.ap j.1.2.2.1 [0, 3, 89, 90, 91], Ap.ap j.1.2.2.2.1 [0, 3], Ap.ap j.1.2.2.2.2 [0, 3, 106, 107, 108], Ap.ap j.2.1.1.1 [0, 3, 106, 107, 108], Ap.ap j.2.1.1.2 [0, 3, 106, 107, 108], Ap.ap j.2.1.2.1 [0, 3], Ap.ap j.2.1.2.2.1 [0, 3, 123, 124, 125], Ap.ap j.2.1.2.2.2 [0, 3, 123, 124, 125], Ap.ap j.2.2.1.1 [0, 3, 123, 124, 125], Ap.ap j.2.2.1.2.1 [3, 12, 13], Ap.ap j.2.2.1.2.2 [3, 12, 13, 140, 141, 142], Ap.ap j.2.2.2.1 [3, 12, 13, 140, 141, 142], Ap.ap j.2.2.2.2.1 [3, 12, 13, 140, 141, 142], Ap.ap j.2.2.2.2.2 []]) (f48.J I call n)
theorem f48.S : SFn ⟨P, I, F⟩ call c48 (f48.JS I call) := .all 22 (by kernel_rfl) (fun ρ h => by kernel_rfl) (fun n ρ h => by kernel_rfl)
theorem f48.qe : Ap.all (f48.e I call (f48.J I call n)) (fun l h => execC P I call (f48.JS I call n) c48.body 0 (finV I c48.results) (argV l) h) := fun v0 h => by kernel_rfl
theorem f48.code : codeOf P 48 = some c48 := by kernel_rfl
def f48.run (I : Inp) : SF := fun call n => Ap.ar (f48.e I call (f48.J I call n))
theorem f48.ok (I : Inp) (F : Nat → Option AFn) (hF : F 48 = some (.code c48)) : SfOk P I F 48 (f48.run I) := okOf hF (by kernel_rfl) (fun _ => f48.S) fun call n => f48.qe
theorem f48.lim (hp : prims 48 = none) {v0 : AVal} (hr : Res (f48.e I (AM.lim ⟨P, I, genF P prims⟩) (f48.J I (AM.lim ⟨P, I, genF P prims⟩) n) v0 h) Q) : Res ((AM.lim ⟨P, I, genF P prims⟩) 48 [v0] h) Q := limOf (n := n) hp f48.code (f48.ok I) hr rfl
/-! haruspex/types.Names -/
def c49 : AFunc := cOf P 49
abbrev f49.Js : Type := ((A2 × (A2 × A5)) × ((A5 × A5) × (A7 × A0)))
def f49.b0 (I : Inp) (call : CallFn) (j : f49.Js) (v1 v3 : AVal) (h : AHeap) : Rs :=
  kL I v1 h fun v13 =>
  kN v13 fun v14 =>
  kF 4 v14 fun v15 =>
  kL I v15 h fun v16 =>
  kZ v16 fun v17 =>
  j.1.2.2 v1 v3 v16 v17 (Z 0) h
def f49.b1 (I : Inp) (call : CallFn) (j : f49.Js) (v1 v3 : AVal) (h : AHeap) : Rs :=
  kL I v1 h fun v49 =>
  kN v49 fun v50 =>
  kF 5 v50 fun v51 =>
  kL I v51 h fun v52 =>
  kL I v1 h fun v53 =>
  kN v53 fun v54 =>
  kF 4 v54 fun v55 =>
  kL I v55 h fun v56 =>
  kZ v56 fun v57 =>
  kC call 73 [v52, v57] h fun v58 h1 =>
  kU .not v58 fun v59 =>
  sCond v59 (
  j.2.2.2 h1) (
  some (v3, h1))
def f49.b2 (I : Inp) (call : CallFn) (j : f49.Js) (v1 v3 v16 v17 v18 : AVal) (h : AHeap) : Rs :=
  kB .lss v18 v17 fun v19 =>
  sCond v19 (
  j.1.2.1 v1 v3 h) (
  j.2.1.1 v1 v3 v16 v17 v18 h)
def f49.b3 (I : Inp) (call : CallFn) (j : f49.Js) (v1 v3 v16 v17 v18 : AVal) (h : AHeap) : Rs :=
  kI 3 v16 v18 fun v21 =>
  kM I 3 v21 h fun v22 =>
  kA [(Z 0), .nils, .nils] h fun v5 h1 =>
  kS 3 v5 v22 h1 fun _ h2 =>
  kF 0 v5 fun v23 =>
  kL I v23 h2 fun v24 =>
  kL I v1 h2 fun v25 =>
  kN v25 fun v26 =>
  kF 1 v26 fun v27 =>
  kL I v27 h2 fun v28 =>
  kZ v28 fun v29 =>
  kC call 73 [v24, v29] h2 fun v30 h3 =>
  kU .not v30 fun v31 =>
  gP v31 .false (pLoad1 I v1 h3) h3 fun v33 h4 =>
  gP v31 .false (pFieldAddr 1 v5) h4 fun v34 h5 =>
  gP v31 .false (pLoad1 I v34 h5) h5 fun v35 h6 =>
  gS v31 .false (call 74 [v33, v35] h6) h6 fun v36 h7 =>
  gP v31 .false (pUn .not v36) h7 fun v37 h8 =>
  kP v31 bT v37 fun v38 =>
  sCond v38 (
  j.2.2.1 v1 v3 v18 v5 v16 v17 v18 h8) (
  some (v3, h8))
def f49.b4 (I : Inp) (call : CallFn) (j : f49.Js) (v1 v3 v16 v17 v18 : AVal) (h : AHeap) : Rs :=
  kB .add v18 (Z 1) fun v48 =>
  j.1.2.2 v1 v3 v16 v17 v48 h
def f49.b5 (I : Inp) (call : CallFn) (j : f49.Js) (v1 v3 v4 v5 v16 v17 v18 : AVal) (h : AHeap) : Rs :=
  kL I v1 h fun v40 =>
  kC call 75 [v40, (Z 3), v4, (.func (.func 76) [] [v1, v5]), (.func (.func 78) [] [v5])] h fun v44 h1 =>
  bndP (pEq P .true .iface .true v44 .nili h1) fun v46 =>
  sCond v46 (
  j.2.1.2 v1 v3 v16 v17 v18 h1) (
  some (v44, h1))
def f49.b6 (I : Inp) (call : CallFn) (j : f49.Js) (h : AHeap) : Rs :=
  some (.nili, h)
def f49.e (I : Inp) (call : CallFn) (j : f49.Js) (v0 : AVal) (h : AHeap) : Rs :=
  bnd (sBox v0 h) fun v1 h1 =>
  kC call 29 [] h1 fun v7 h2 =>
  kC call 30 [(Z 3), v7, .nili] h2 fun v8 h3 =>
  kL I v1 h3 fun v9 =>
  kC call 72 [v9] h3 fun v10 h4 =>
  kU .not v10 fun v11 =>
  sCond v11 (
  j.1.1 v1 v8 h4) (
  some (v8, h4))
def f49.J (I : Inp) (call : CallFn) (n : Nat) : f49.Js :=
  Nat.rec (motive := fun _ => f49.Js) ((Zr.z, (Zr.z, Zr.z)), ((Zr.z, Zr.z), (Zr.z, Zr.z))) (fun _ j => ((f49.b0 I call j, (f49.b1 I call j, f49.b2 I call j)), ((f49.b3 I call j, f49.b4 I call j), (f49.b5 I call j, f49.b6 I call j)))) n
theorem f49.n0 : (f49.J I call (n + 1)).1.1 = f49.b0 I call (f49.J I call n) := nrfl
theorem f49.n1 : (f49.J I call (n + 1)).1.2.1 = f49.b1 I call (f49.J I call n) := nrfl
theorem f49.n2 : (f49.J I call (n + 1)).1.2.2 = f49.b2 I call (f49.J I call n) := nrfl
theorem f49.n3 : (f49.J I call (n + 1)).2.1.1 = f49.b3 I call (f49.J I call n) := nrfl
theorem f49.n4 : (f49.J I call (n + 1)).2.1.2 = f49.b4 I call (f49.J I call n) := nrfl
theorem f49.n5 : (f49.J I call (n + 1)).2.2.1 = f49.b5 I call (f49.J I call n) := nrfl
theorem f49.n6 : (f49.J I call (n + 1)).2.2.2 = f49.b6 I call (f49.J I call n) := nrfl
def f49.JS (I : Inp) (call : CallFn) (n : Nat) : Jmp := (fun j : f49.Js => jmp [Ap.ap j.1.1 [1, 3], Ap.ap j.1.2.1 [1, 3], Ap.ap j.1.2.2 [1, 3, 16, 17, 18], Ap.ap j.2.1.1 [1, 3, 16, 17, 18], Ap.ap j.2.1.2 [1, 3, 16, 17, 18], Ap.ap j.2.2.1 [1, 3, 4, 5, 16, 17, 18], Ap.ap j.2.2.2 []]) (f49.J I call n)
theorem f49.S : SFn ⟨P, I, F⟩ call c49 (f49.JS I call) := .all 7 (by kernel_rfl) (fun ρ h => by kernel_rfl) (fun n ρ h => by kernel_rfl)
theorem f49.qe : Ap.all (f49.e I call (f49.J I call n)) (fun l h => execC P I call (f49.JS I call n) c49.body 0 (finV I c49.results) (argV l) h) := fun v0 h => by kernel_rfl
theorem f49.code : codeOf P 49 = some c49 := by kernel_rfl
def f49.run (I : Inp) : SF := fun call n => Ap.ar (f49.e I call (f49.J I call n))
theorem f49.ok (I : Inp) (F : Nat → Option AFn) (hF : F 49 = some (.code c49)) : SfOk P I F 49 (f49.run I) := okOf hF (by kernel_rfl) (fun _ => f49.S) fun call n => f49.qe
theorem f49.lim (hp : prims 49 = none) {v0 : AVal} (hr : Res (f49.e I (AM.lim ⟨P, I, genF P prims⟩) (f49.J I (AM.lim ⟨P, I, genF P prims⟩) n) v0 h) Q) : Res ((AM.lim ⟨P, I, genF P prims⟩) 49 [v0] h) Q := limOf (n := n) hp f49.code (f49.ok I) hr rfl
/-! haruspex/types.Check -/
def c50 : AFunc := cOf P 50
abbrev f50.Js : Type := (((A2 × A5) × (A5 × A5)) × ((A2 × A4) × (A4 × (A4 × A0))))
def f50.b0 (I : Inp) (call : CallFn) (j : f50.Js) (v1 v3 : AVal) (h : AHeap) : Rs :=
  kL I v1 h fun v26 =>
  kN v26 fun v27 =>
  kF 4 v27 fun v28 =>
  kL I v28 h fun v29 =>
  kZ v29 fun v30 =>
  j.2.1.2 v1 v3 v30 (Z 0) h
def f50.b1 (I : Inp) (call : CallFn) (j : f50.Js) (v1 v3 v14 v15 v16 : AVal) (h : AHeap) : Rs :=
  kB .lss v16 v15 fun v17 =>
  sCond v17 (
  j.1.1.1 v1 v3 h) (
  j.1.2.1 v1 v3 v14 v15 v16 h)
def f50.b2 (I : Inp) (call : CallFn) (j : f50.Js) (v1 v3 v14 v15 v16 : AVal) (h : AHeap) : Rs :=
  kI 3 v14 v16 fun v18 =>
  kM I 3 v18 h fun v19 =>
  kA [(Z 0), .nils, .nils] h fun v5 h1 =>
  kS 3 v5 v19 h1 fun _ h2 =>
  kL I v1 h2 fun v20 =>
  kM I 3 v5 h2 fun v21 =>
  kC call 80 [v20, v21] h2 fun v22 h3 =>
  kU .not v22 fun v23 =>
  sCond v23 (
  j.1.2.2 v1 v3 v14 v15 v16 h3) (
  some (v3, h3))
def f50.b3 (I : Inp) (call : CallFn) (j : f50.Js) (v1 v3 v14 v15 v16 : AVal) (h : AHeap) : Rs :=
  kB .add v16 (Z 1) fun v25 =>
  j.1.1.2 v1 v3 v14 v15 v25 h
def f50.b4 (I : Inp) (call : CallFn) (j : f50.Js) (v1 v3 : AVal) (h : AHeap) : Rs :=
  kL I v1 h fun v43 =>
  kN v43 fun v44 =>
  kF 1 v44 fun v45 =>
  kL I v45 h fun v46 =>
  kL I v1 h fun v47 =>
  kN v47 fun v48 =>
  kF 4 v48 fun v49 =>
  kL I v49 h fun v50 =>
  kL I v1 h fun v51 =>
  kN v51 fun v52 =>
  kF 5 v52 fun v53 =>
  kL I v53 h fun v54 =>
  kI 3 v50 v54 fun v55 =>
  kF 0 v55 fun v56 =>
  kL I v56 h fun v57 =>
  kI 3 v46 v57 fun v58 =>
  kM I 3 v58 h fun v59 =>
  kA [.nils, (Z 0), (Z 0)] h fun v8 h1 =>
  kS 3 v8 v59 h1 fun _ h2 =>
  sCheck (sSame (lift (pLoad1 I v1 h1) h1) v43 && true) (
  sCheck (sSame (lift (pLoad1 I v45 h1) h1) v46 && true) (
  sCheck (sSame (lift (pLoad1 I v1 h1) h1) v47 && true) (
  sCheck (sSame (lift (pLoad1 I v49 h1) h1) v50 && true) (
  sCheck (sSame (lift (pLoad1 I v1 h1) h1) v51 && true) (
  sCheck (sSame (lift (pLoad1 I v53 h1) h1) v54 && true) (
  sCheck (sSame (lift (pLoad1 I v56 h1) h1) v57 && true) (
  sCheck (sSame (lift (pLoadN I 3 v58 h1) h1) v59 && true) (
  kF 0 v8 fun v60 =>
  kL I v60 h2 fun v61 =>
  kZ v61 fun v62 =>
  kB .gtr v62 (Z 0) fun v63 =>
  gP v63 .false (pFieldAddr 1 v8) h2 fun v65 h3 =>
  gP v63 .false (pFieldAddr 0 v65) h3 fun v66 h4 =>
  gP v63 .false (pLoad1 I v66 h4) h4 fun v67 h5 =>
  gP v63 .false (pBin .neq v67 (Z 0)) h5 fun v68 h6 =>
  kP v63 bT v68 fun v69 =>
  sCond v69 (
  j.2.2.2.2 h6) (
  some (v3, h6))))))))))
def f50.b5 (I : Inp) (call : CallFn) (j : f50.Js) (v1 v3 v30 v31 : AVal) (h : AHeap) : Rs :=
  kB .lss v31 v30 fun v32 =>
  sCond v32 (
  j.2.1.1 v1 v3 h) (
  j.2.2.1 v1 v3 v30 v31 h)
def f50.b6 (I : Inp) (call : CallFn) (j : f50.Js) (v1 v3 v30 v31 : AVal) (h : AHeap) : Rs :=
  kL I v1 h fun v34 =>
  kC call 75 [v34, (Z 4), v31, (.func (.func 81) [] [v1]), (.func (.func 83) [] [v1])] h fun v38 h1 =>
  bndP (pEq P .true .iface .true v38 .nili h1) fun v40 =>
  sCond v40 (
  j.2.2.2.1 v1 v3 v30 v31 h1) (
  some (v38, h1))
def f50.b7 (I : Inp) (call : CallFn) (j : f50.Js) (v1 v3 v30 v31 : AVal) (h : AHeap) : Rs :=
  kB .add v31 (Z 1) fun v42 =>
  j.2.1.2 v1 v3 v30 v42 h
def f50.b8 (I : Inp) (call : CallFn) (j : f50.Js) (h : AHeap) : Rs :=
  some (.nili, h)
def f50.e (I : Inp) (call : CallFn) (j : f50.Js) (v0 : AVal) (h : AHeap) : Rs :=
  bnd (sBox v0 h) fun v1 h1 =>
  kC call 29 [] h1 fun v9 h2 =>
  kC call 30 [(Z 4), v9, .nili] h2 fun v10 h3 =>
  kL I v1 h3 fun v11 =>
  kN v11 fun v12 =>
  kF 4 v12 fun v13 =>
  kL I v13 h3 fun v14 =>
  kZ v14 fun v15 =>
  j.1.1.2 v1 v10 v14 v15 (Z 0) h3
def f50.J (I : Inp) (call : CallFn) (n : Nat) : f50.Js :=
  Nat.rec (motive := fun _ => f50.Js) (((Zr.z, Zr.z), (Zr.z, Zr.z)), ((Zr.z, Zr.z), (Zr.z, (Zr.z, Zr.z)))) (fun _ j => (((f50.b0 I call j, f50.b1 I call j), (f50.b2 I call j, f50.b3 I call j)), ((f50.b4 I call j, f50.b5 I call j), (f50.b6 I call j, (f50.b7 I call j, f50.b8 I call j))))) n
def f50.JS (I : Inp) (call : CallFn) (n : Nat) : Jmp := (fun j : f50.Js => jmp [Ap.ap j.1.1.1 [1, 3], Ap.ap j.1.1.2 [1, 3, 14, 15, 16], Ap.ap j.1.2.1 [1, 3, 14, 15, 16], Ap.ap j.1.2.2 [1, 3, 14, 15, 16], Ap.ap j.2.1.1 [1, 3], Ap.ap j.2.1.2 [1, 3, 30, 31], Ap.ap j.2.2.1 [1, 3, 30, 31], Ap.ap j.2.2.2.1 [1, 3, 30, 31], Ap.ap j.2.2.2.2 []]) (f50.J I call n)
theorem f50.S : SFn ⟨P, I, F⟩ call c50 (f50.JS I call) := .all 9 (by kernel_rfl) (fun ρ h => by kernel_rfl) (fun n ρ h => by kernel_rfl)
theorem f50.qe : Ap.all (f50.e I call (f50.J I call n)) (fun l h => execC P I call (f50.JS I call n) c50.body 0 (finV I c50.results) (argV l) h) := fun v0 h => by kernel_rfl
theorem f50.code : codeOf P 50 = some c50 := by kernel_rfl
def f50.run (I : Inp) : SF := fun call n => Ap.ar (f50.e I call (f50.J I call n))
theorem f50.ok (I : Inp) (F : Nat → Option AFn) (hF : F 50 = some (.code c50)) : SfOk P I F 50 (f50.run I) := okOf hF (by kernel_rfl) (fun _ => f50.S) fun call n => f50.qe
/-! haruspex/assign.Shape -/
def c51 : AFunc := cOf P 51
abbrev f51.Js : Type := ((A0 × (A3 × A3)) × ((A3 × A7) × (A7 × A7)))
def f51.b0 (I : Inp) (call : CallFn) (j : f51.Js) (h : AHeap) : Rs :=
  some (.nili, h)
def f51.b1 (I : Inp) (call : CallFn) (j : f51.Js) (v0 v10 v11 : AVal) (h : AHeap) : Rs :=
  kB .lss v11 v10 fun v12 =>
  sCond v12 (
  j.1.1 h) (
  j.1.2.2 v0 v10 v11 h)
def f51.b2 (I : Inp) (call : CallFn) (j : f51.Js) (v0 v10 v11 : AVal) (h : AHeap) : Rs :=
  kC call 86 [v0, v11] h fun v16 h1 =>
  bnd (sBuildSlice [(Z 0)] 1 [(0, 1, (Z 0))] h1) fun v17 h2 =>
  kC call 85 [v16, v17] h2 fun v18 h3 =>
  kN v0 fun v20 =>
  kF 4 v20 fun v21 =>
  kL I v21 h3 fun v22 =>
  kI 3 v22 v11 fun v24 =>
  kF 2 v24 fun v25 =>
  kL I v25 h3 fun v26 =>
  kZ v26 fun v27 =>
  j.2.1.2 v0 v11 v18 v10 v11 v27 (Z 0) h3
def f51.b3 (I : Inp) (call : CallFn) (j : f51.Js) (v0 v10 v11 : AVal) (h : AHeap) : Rs :=
  kB .add v11 (Z 1) fun v40 =>
  j.1.2.1 v0 v10 v40 h
def f51.b4 (I : Inp) (call : CallFn) (j : f51.Js) (v0 v3 v4 v10 v11 v27 v28 : AVal) (h : AHeap) : Rs :=
  kB .lss v28 v27 fun v29 =>
  sCond v29 (
  j.2.1.1 v0 v10 v11 h) (
  j.2.2.1 v0 v3 v4 v10 v11 v27 v28 h)
def f51.b5 (I : Inp) (call : CallFn) (j : f51.Js) (v0 v3 v4 v10 v11 v27 v28 : AVal) (h : AHeap) : Rs :=
  kC call 87 [v4, v28] h fun v33 h1 =>
  kU .not v33 fun v34 =>
  sCond v34 (
  j.2.2.2 v0 v3 v4 v10 v11 v27 v28 h1) (
  bndP (pBuild [(Z 0), (Z 0), (Z 0)] [(0, 1, v3), (1, 1, v28)]) fun v37 =>
  kC call 30 [(Z 6), v37, .nili] h1 fun v38 h2 =>
  some (v38, h2))
def f51.b6 (I : Inp) (call : CallFn) (j : f51.Js) (v0 v3 v4 v10 v11 v27 v28 : AVal) (h : AHeap) : Rs :=
  kB .add v28 (Z 1) fun v39 =>
  j.2.1.2 v0 v3 v4 v10 v11 v27 v39 h
def f51.e (I : Inp) (call : CallFn) (j : f51.Js) (v0 : AVal) (h : AHeap) : Rs :=
  kN v0 fun v7 =>
  kF 4 v7 fun v8 =>
  kL I v8 h fun v9 =>
  kZ v9 fun v10 =>
  j.1.2.1 v0 v10 (Z 0) h
def f51.J (I : Inp) (call : CallFn) (n : Nat) : f51.Js :=
  Nat.rec (motive := fun _ => f51.Js) ((Zr.z, (Zr.z, Zr.z)), ((Zr.z, Zr.z), (Zr.z, Zr.z))) (fun _ j => ((f51.b0 I call j, (f51.b1 I call j, f51.b2 I call j)), ((f51.b3 I call j, f51.b4 I call j), (f51.b5 I call j, f51.b6 I call j)))) n
def f51.JS (I : Inp) (call : CallFn) (n : Nat) : Jmp := (fun j : f51.Js => jmp [Ap.ap j.1.1 [], Ap.ap j.1.2.1 [0, 10, 11], Ap.ap j.1.2.2 [0, 10, 11], Ap.ap j.2.1.1 [0, 10, 11], Ap.ap j.2.1.2 [0, 3, 4, 10, 11, 27, 28], Ap.ap j.2.2.1 [0, 3, 4, 10, 11, 27, 28], Ap.ap j.2.2.2 [0, 3, 4, 10, 11, 27, 28]]) (f51.J I call n)
theorem f51.S : SFn ⟨P, I, F⟩ call c51 (f51.JS I call) := .all 7 (by kernel_rfl) (fun ρ h => by kernel_rfl) (fun n ρ h => by kernel_rfl)
theorem f51.qe : Ap.all (f51.e I call (f51.J I call n)) (fun l h => execC P I call (f51.JS I call n) c51.body 0 (finV I c51.results) (argV l) h) := fun v0 h => by kernel_rfl
theorem f51.code : codeOf P 51 = some c51 := by kernel_rfl
def f51.run (I : Inp) : SF := fun call n => Ap.ar (f51.e I call (f51.J I call n))
theorem f51.ok (I : Inp) (F : Nat → Option AFn) (hF : F 51 = some (.code c51)) : SfOk P I F 51 (f51.run I) := okOf hF (by kernel_rfl) (fun _ => f51.S) fun call n => f51.qe
/-! haruspex/assign.Check -/
def c52 : AFunc := cOf P 52
abbrev f52.Js : Type := (((A0 × (A4 × A4)) × (A4 × ((AVal → A9) × (AVal → A9)))) × (((AVal → A9) × ((AVal → AVal → AVal → A9) × (AVal → AVal → AVal → A9))) × (((AVal → AVal → AVal → AVal → AVal → AVal → A9) × (AVal → AVal → AVal → AVal → AVal → AVal → A9)) × ((AVal → AVal → AVal → AVal → AVal → AVal → A9) × (AVal → AVal → AVal → AVal → AVal → AVal → AVal → A9)))))
def f52.b0 (I : Inp) (call : CallFn) (j : f52.Js) (h : AHeap) : Rs :=
  some (.nili, h)
def f52.b1 (I : Inp) (call : CallFn) (j : f52.Js) (v0 v15 v16 v17 : AVal) (h : AHeap) : Rs :=
  kB .lss v17 v16 fun v18 =>
  sCond v18 (
  j.1.1.1 h) (
  j.1.1.2.2 v0 v15 v16 v17 h)
def f52.b2 (I : Inp) (call : CallFn) (j : f52.Js) (v0 v15 v16 v17 : AVal) (h : AHeap) : Rs :=
  kI 3 v15 v17 fun v20 =>
  kM I 3 v20 h fun v21 =>
  kA [(Z 0), .nils, .nils] h fun v4 h1 =>
  kS 3 v4 v21 h1 fun _ h2 =>
  kC call 86 [v0, v17] h2 fun v24 h3 =>
  bnd (sBuildSlice [(Z 0)] 1 [(0, 1, (Z 0))] h3) fun v25 h4 =>
  kC call 85 [v24, v25] h4 fun v26 h5 =>
  kC call 88 [v0, v17] h5 fun v29 h6 =>
  kZ v29 fun v30 =>
  j.1.2.2.1 v0 v17 v4 v26 v15 v16 v17 v29 v30 (Z 0) h6
def f52.b3 (I : Inp) (call : CallFn) (j : f52.Js) (v0 v15 v16 v17 : AVal) (h : AHeap) : Rs :=
  kB .add v17 (Z 1) fun v95 =>
  j.1.1.2.1 v0 v15 v16 v95 h
def f52.b4 (I : Inp) (call : CallFn) (j : f52.Js) (v0 v3 v4 v5 v15 v16 v17 v29 v30 v31 : AVal) (h : AHeap) : Rs :=
  kB .lss v31 v30 fun v32 =>
  sCond v32 (
  j.1.2.1 v0 v15 v16 v17 h) (
  j.1.2.2.2 v0 v3 v4 v5 v15 v16 v17 v29 v30 v31 h)
def f52.b5 (I : Inp) (call : CallFn) (j : f52.Js) (v0 v3 v4 v5 v15 v16 v17 v29 v30 v31 : AVal) (h : AHeap) : Rs :=
  kI 1 v29 v31 fun v34 =>
  kL I v34 h fun v35 =>
  kC call 87 [v5, v31] h fun v38 h1 =>
  kU .not v38 fun v39 =>
  sCond v39 (
  j.2.1.2.1 v0 v3 v4 v5 v31 v35 v15 v16 v17 v29 v30 v31 h1) (
  j.2.1.1 v0 v3 v4 v5 v15 v16 v17 v29 v30 v31 h1)
def f52.b6 (I : Inp) (call : CallFn) (j : f52.Js) (v0 v3 v4 v5 v15 v16 v17 v29 v30 v31 : AVal) (h : AHeap) : Rs :=
  kB .add v31 (Z 1) fun v94 =>
  j.1.2.2.1 v0 v3 v4 v5 v15 v16 v17 v29 v30 v94 h
def f52.b7 (I : Inp) (call : CallFn) (j : f52.Js) (v0 v3 v4 v5 v6 v7 v15 v16 v17 v29 v30 v31 : AVal) (h : AHeap) : Rs :=
  kF 2 v4 fun v40 =>
  kL I v40 h fun v41 =>
  kI 5 v41 v6 fun v43 =>
  kF 0 v43 fun v44 =>
  kL I v44 h fun v45 =>
  kZ v45 fun v46 =>
  j.2.2.1.1 v0 v3 v4 v5 v6 v7 v15 v16 v17 v29 v30 v31 v45 v46 (Z 0) h
def f52.b8 (I : Inp) (call : CallFn) (j : f52.Js) (v0 v3 v4 v5 v6 v7 v15 v16 v17 v29 v30 v31 : AVal) (h : AHeap) : Rs :=
  kF 2 v4 fun v73 =>
  kL I v73 h fun v74 =>
  kI 5 v74 v6 fun v76 =>
  kM I 5 v76 h fun v77 =>
  kC call 94 [v77] h fun v78 h1 =>
  kC call 89 [v78] h1 fun v79 h2 =>
  kC call 91 [v79, v7] h2 fun v81 h3 =>
  kU .not v81 fun v82 =>
  sCond v82 (
  j.2.1.1 v0 v3 v4 v5 v15 v16 v17 v29 v30 v31 h3) (
  kF 2 v4 fun v85 =>
  kL I v85 h3 fun v86 =>
  kI 5 v86 v6 fun v88 =>
  kF 0 v88 fun v89 =>
  kL I v89 h3 fun v90 =>
  kZ v90 fun v91 =>
  bndP (pBuild [(Z 0), (Z 0), (Z 0)] [(0, 1, v3), (1, 1, v6), (2, 1, v91)]) fun v92 =>
  kC call 30 [(Z 5), v92, .nili] h3 fun v93 h4 =>
  some (v93, h4))
def f52.b9 (I : Inp) (call : CallFn) (j : f52.Js) (v0 v3 v4 v5 v6 v7 v15 v16 v17 v29 v30 v31 v45 v46 v47 : AVal) (h : AHeap) : Rs :=
  kB .lss v47 v46 fun v48 =>
  sCond v48 (
  j.2.1.2.2 v0 v3 v4 v5 v6 v7 v15 v16 v17 v29 v30 v31 h) (
  j.2.2.1.2 v0 v3 v4 v5 v6 v7 v15 v16 v17 v29 v30 v31 v45 v46 v47 h)
def f52.b10 (I : Inp) (call : CallFn) (j : f52.Js) (v0 v3 v4 v5 v6 v7 v15 v16 v17 v29 v30 v31 v45 v46 v47 : AVal) (h : AHeap) : Rs :=
  kI 6 v45 v47 fun v50 =>
  kM I 6 v50 h fun v51 =>
  kA [(Z 0), (Z 0), (Z 0), (Z 0), (Z 0), .nils] h fun v9 h1 =>
  kS 6 v9 v51 h1 fun _ h2 =>
  kM I 6 v9 h2 fun v52 =>
  kC call 90 [v52] h2 fun v53 h3 =>
  kC call 89 [v53] h3 fun v54 h4 =>
  kC call 91 [v54, v7] h4 fun v56 h5 =>
  kU .not v56 fun v57 =>
  sCond v57 (
  j.2.2.2.2 v0 v3 v4 v5 v6 v7 v9 v15 v16 v17 v29 v30 v31 v45 v46 v47 h5) (
  bndP (pBuild [(Z 0), (Z 0), (Z 0)] [(0, 1, v3), (1, 1, v6), (2, 1, v47)]) fun v61 =>
  kC call 30 [(Z 5), v61, .nili] h5 fun v62 h6 =>
  some (v62, h6))
def f52.b11 (I : Inp) (call : CallFn) (j : f52.Js) (v0 v3 v4 v5 v6 v7 v15 v16 v17 v29 v30 v31 v45 v46 v47 : AVal) (h : AHeap) : Rs :=
  kB .add v47 (Z 1) fun v72 =>
  j.2.2.1.1 v0 v3 v4 v5 v6 v7 v15 v16 v17 v29 v30 v31 v45 v46 v72 h
def f52.b12 (I : Inp) (call : CallFn) (j : f52.Js) (v0 v3 v4 v5 v6 v7 v9 v15 v16 v17 v29 v30 v31 v45 v46 v47 : AVal) (h : AHeap) : Rs :=
  kM I 6 v9 h fun v64 =>
  kC call 92 [v64] h fun v65 h1 =>
  kX v65 0 fun v66 =>
  kX v65 1 fun v67 =>
  sCond v67 (
  j.2.2.2.1 v0 v3 v4 v5 v6 v7 v15 v16 v17 v29 v30 v31 v45 v46 v47 h1) (
  kC call 93 [v7, v66] h1 fun v71 h2 =>
  j.2.2.2.1 v0 v3 v4 v5 v6 v7 v15 v16 v17 v29 v30 v31 v45 v46 v47 h2)
def f52.e (I : Inp) (call : CallFn) (j : f52.Js) (v0 : AVal) (h : AHeap) : Rs :=
  kN v0 fun v13 =>
  kF 4 v13 fun v14 =>
  kL I v14 h fun v15 =>
  kZ v15 fun v16 =>
  j.1.1.2.1 v0 v15 v16 (Z 0) h
def f52.J (I : Inp) (call : CallFn) (n : Nat) : f52.Js :=
  Nat.rec (motive := fun _ => f52.Js) (((Zr.z, (Zr.z, Zr.z)), (Zr.z, (Zr.z, Zr.z))), ((Zr.z, (Zr.z, Zr.z)), ((Zr.z, Zr.z), (Zr.z, Zr.z)))) (fun _ j => (((f52.b0 I call j, (f52.b1 I call j, f52.b2 I call j)), (f52.b3 I call j, (f52.b4 I call j, f52.b5 I call j))), ((f52.b6 I call j, (f52.b7 I call j, f52.b8 I call j)), ((f52.b9 I call j, f52.b10 I call j), (f52.b11 I call j, f52.b12 I call j))))) n
def f52.JS (I : Inp) (call : CallFn) (n : Nat) : Jmp := (fun j : f52.Js => jmp [Ap.ap j.1.1.1 [], Ap.ap j.1.1.2.1 [0, 15, 16, 17], Ap.ap j.1.1.2.2 [0, 15, 16, 17], Ap.ap j.1.2.1 [0, 15, 16, 17], Ap.ap j.1.2.2.1 [0, 3, 4, 5, 15, 16, 17, 29, 30, 31], Ap.ap j.1.2.2.2 [0, 3, 4, 5, 15, 16, 17, 29, 30, 31], Ap.ap j.2.1.1 [0, 3, 4, 5, 15, 16, 17, 29, 30, 31], Ap.ap j.2.1.2.1 [0, 3, 4, 5, 6, 7, 15, 16, 17, 29, 30, 31], Ap.ap j.2.1.2.2 [0, 3, 4, 5, 6, 7, 15, 16, 17, 29, 30, 31], Ap.ap j.2.2.1.1 [0, 3, 4, 5, 6, 7, 15, 16, 17, 29, 30, 31, 45, 46, 47], Ap.ap j.2.2.1.2 [0, 3, 4, 5, 6, 7, 15, 16, 17, 29, 30, 31, 45, 46, 47], Ap.ap j.2.2.2.1 [0, 3, 4, 5, 6, 7, 15, 16, 17, 29, 30, 31, 45, 46, 47], Ap.ap j.2.2.2.2 [0, 3, 4, 5, 6, 7, 9, 15, 16, 17, 29, 30, 31, 45, 46, 47]]) (f52.J I call n)
theorem f52.S : SFn ⟨P, I, F⟩ call c52 (f52.JS I call) := .all 13 (by kernel_rfl) (fun ρ h => by kernel_rfl) (fun n ρ h => by kernel_rfl)
theorem f52.qe : Ap.all (f52.e I call (f52.J I call n)) (fun l h => execC P I call (f52.JS I call n) c52.body 0 (finV I c52.results) (argV l) h) := fun v0 h => by kernel_rfl
theorem f52.code : codeOf P 52 = some c52 := by kernel_rfl
def f52.run (I : Inp) : SF := fun call n => Ap.ar (f52.e I call (f52.J I call n))
theorem f52.ok (I : Inp) (F : Nat → Option AFn) (hF : F 52 = some (.code c52)) : SfOk P I F 52 (f52.run I) := okOf hF (by kernel_rfl) (fun _ => f52.S) fun call n => f52.qe
/-! slices.IndexFunc[[]haruspex/api.Impl,haruspex/api.Impl] -/
def c53 : AFunc := cOf P 53
abbrev f53.Js : Type := ((A0 × A4) × (A4 × A4))
def f53.b0 (I : Inp) (call : CallFn) (j : f53.Js) (h : AHeap) : Rs :=
  some ((.int .i64 (.negSucc 0)), h)
def f53.b1 (I : Inp) (call : CallFn) (j : f53.Js) (v0 v1 v7 v8 : AVal) (h : AHeap) : Rs :=
  kB .lss v8 v7 fun v9 =>
  sCond v9 (
  j.1.1 h) (
  j.2.1 v0 v1 v7 v8 h)
def f53.b2 (I : Inp) (call : CallFn) (j : f53.Js) (v0 v1 v7 v8 : AVal) (h : AHeap) : Rs :=
  kI 3 v0 v8 fun v14 =>
  kM I 3 v14 h fun v15 =>
  bnd (sCallv call v1 [v15] h) fun v16 h1 =>
  sCond v16 (
  j.2.2 v0 v1 v7 v8 h1) (
  some (v8, h1))
def f53.b3 (I : Inp) (call : CallFn) (j : f53.Js) (v0 v1 v7 v8 : AVal) (h : AHeap) : Rs :=
  kB .add v8 (Z 1) fun v18 =>
  j.1.2 v0 v1 v7 v18 h
def f53.e (I : Inp) (call : CallFn) (j : f53.Js) (v0 v1 : AVal) (h : AHeap) : Rs :=
  kZ v0 fun v7 =>
  j.1.2 v0 v1 v7 (Z 0) h
def f53.J (I : Inp) (call : CallFn) (n : Nat) : f53.Js :=
  Nat.rec (motive := fun _ => f53.Js) ((Zr.z, Zr.z), (Zr.z, Zr.z)) (fun _ j => ((f53.b0 I call j, f53.b1 I call j), (f53.b2 I call j, f53.b3 I call j))) n
theorem f53.n0 : (f53.J I call (n + 1)).1.1 = f53.b0 I call (f53.J I call n) := nrfl
theorem f53.n1 : (f53.J I call (n + 1)).1.2 = f53.b1 I call (f53.J I call n) := nrfl
theorem f53.n2 : (f53.J I call (n + 1)).2.1 = f53.b2 I call (f53.J I call n) := nrfl
theorem f53.n3 : (f53.J I call (n + 1)).2.2 = f53.b3 I call (f53.J I call n) := nrfl
def f53.JS (I : Inp) (call : CallFn) (n : Nat) : Jmp := (fun j : f53.Js => jmp [Ap.ap j.1.1 [], Ap.ap j.1.2 [0, 1, 7, 8], Ap.ap j.2.1 [0, 1, 7, 8], Ap.ap j.2.2 [0, 1, 7, 8]]) (f53.J I call n)
theorem f53.S : SFn ⟨P, I, F⟩ call c53 (f53.JS I call) := .all 4 (by kernel_rfl) (fun ρ h => by kernel_rfl) (fun n ρ h => by kernel_rfl)
theorem f53.qe : Ap.all (f53.e I call (f53.J I call n)) (fun l h => execC P I call (f53.JS I call n) c53.body 0 (finV I c53.results) (argV l) h) := fun v0 v1 h => by kernel_rfl
theorem f53.code : codeOf P 53 = some c53 := by kernel_rfl
def f53.run (I : Inp) : SF := fun call n => Ap.ar (f53.e I call (f53.J I call n))
theorem f53.ok (I : Inp) (F : Nat → Option AFn) (hF : F 53 = some (.code c53)) : SfOk P I F 53 (f53.run I) := okOf hF (by kernel_rfl) (fun _ => f53.S) fun call n => f53.qe
theorem f53.lim (hp : prims 53 = none) {v0 v1 : AVal} (hr : Res (f53.e I (AM.lim ⟨P, I, genF P prims⟩) (f53.J I (AM.lim ⟨P, I, genF P prims⟩) n) v0 v1 h) Q) : Res ((AM.lim ⟨P, I, genF P prims⟩) 53 [v0, v1] h) Q := limOf (n := n) hp f53.code (f53.ok I) hr rfl
/-! haruspex/types.Impl$1 -/
def c54 : AFunc := cOf P 54
abbrev f54.Js : Type := Unit
def f54.e (I : Inp) (call : CallFn) (j : f54.Js) (v0 v1 v2 : AVal) (h : AHeap) : Rs :=
  bnd (sBox v0 h) fun v3 h1 =>
  kF 0 v3 fun v5 =>
  kL I v5 h1 fun v6 =>
  kL I v1 h1 fun v7 =>
  kB .eql v6 v7 fun v8 =>
  gP v8 .true (pFieldAddr 1 v3) h1 fun v10 h2 =>
  gP v8 .true (pLoad1 I v10 h2) h2 fun v11 h3 =>
  gP v8 .true (pLoad1 I v2 h3) h3 fun v12 h4 =>
  gP v8 .true (pBin .eql v11 v12) h4 fun v13 h5 =>
  kP v8 v13 bF fun v14 =>
  some (v14, h5)
theorem f54.S : SFn ⟨P, I, F⟩ call c54 (fun _ => jmp []) := .all 0 (by kernel_rfl) (fun ρ h => by kernel_rfl) (fun n ρ h => by kernel_rfl)
theorem f54.qe : Ap.all (f54.e I call ()) (fun l h => execC P I call (jmp []) c54.body 0 (finV I c54.results) (argV l) h) := fun v0 v1 v2 h => by kernel_rfl
theorem f54.code : codeOf P 54 = some c54 := by kernel_rfl
def f54.run (I : Inp) : SF := fun call n => Ap.ar (f54.e I call ())
theorem f54.ok (I : Inp) (F : Nat → Option AFn) (hF : F 54 = some (.code c54)) : SfOk P I F 54 (f54.run I) := okOf hF (by kernel_rfl) (fun _ => f54.S) fun call n => f54.qe
theorem f54.lim (hp : prims 54 = none) {n : Nat} {v0 v1 v2 : AVal} (hr : Res (f54.e I (AM.lim ⟨P, I, genF P prims⟩) () v0 v1 v2 h) Q) : Res ((AM.lim ⟨P, I, genF P prims⟩) 54 [v0, v1, v2] h) Q := limOf (n := n) hp f54.code (f54.ok I) hr rfl
/-! slices.Equal[[]haruspex/api.Type,haruspex/api.Type] -/
def c55 : AFunc := cOf P 55
abbrev f55.Js : Type := ((A2 × A0) × (A4 × (A4 × A4)))
def f55.b0 (I : Inp) (call : CallFn) (j : f55.Js) (v0 v1 : AVal) (h : AHeap) : Rs :=
  kZ v0 fun v12 =>
  j.2.1 v0 v1 v12 (Z 0) h
def f55.b1 (I : Inp) (call : CallFn) (j : f55.Js) (h : AHeap) : Rs :=
  some (bT, h)
def f55.b2 (I : Inp) (call : CallFn) (j : f55.Js) (v0 v1 v12 v13 : AVal) (h : AHeap) : Rs :=
  kB .lss v13 v12 fun v14 =>
  sCond v14 (
  j.1.2 h) (
  j.2.2.1 v0 v1 v12 v13 h)
def f55.b3 (I : Inp) (call : CallFn) (j : f55.Js) (v0 v1 v12 v13 : AVal) (h : AHeap) : Rs :=
  kI 2 v0 v13 fun v18 =>
  kM I 2 v18 h fun v19 =>
  kI 2 v1 v13 fun v22 =>
  kM I 2 v22 h fun v23 =>
  bndP (pEq P .true (.struct [.i, .i]) .false v19 v23 h) fun v24 =>
  sCond v24 (
  j.2.2.2 v0 v1 v12 v13 h) (
  some (bF, h))
def f55.b4 (I : Inp) (call : CallFn) (j : f55.Js) (v0 v1 v12 v13 : AVal) (h : AHeap) : Rs :=
  kB .add v13 (Z 1) fun v25 =>
  j.2.1 v0 v1 v12 v25 h
def f55.e (I : Inp) (call : CallFn) (j : f55.Js) (v0 v1 : AVal) (h : AHeap) : Rs :=
  kZ v0 fun v7 =>
  kZ v1 fun v9 =>
  kB .neq v7 v9 fun v10 =>
  sCond v10 (
  j.1.1 v0 v1 h) (
  some (bF, h))
def f55.J (I : Inp) (call : CallFn) (n : Nat) : f55.Js :=
  Nat.rec (motive := fun _ => f55.Js) ((Zr.z, Zr.z), (Zr.z, (Zr.z, Zr.z))) (fun _ j => ((f55.b0 I call j, f55.b1 I call j), (f55.b2 I call j, (f55.b3 I call j, f55.b4 I call j)))) n
theorem f55.n0 : (f55.J I call (n + 1)).1.1 = f55.b0 I call (f55.J I call n) := nrfl
theorem f55.n1 : (f55.J I call (n + 1)).1.2 = f55.b1 I call (f55.J I call n) := nrfl
theorem f55.n2 : (f55.J I call (n + 1)).2.1 = f55.b2 I call (f55.J I call n) := nrfl
theorem f55.n3 : (f55.J I call (n + 1)).2.2.1 = f55.b3 I call (f55.J I call n) := nrfl
theorem f55.n4 : (f55.J I call (n + 1)).2.2.2 = f55.b4 I call (f55.J I call n) := nrfl
def f55.JS (I : Inp) (call : CallFn) (n : Nat) : Jmp := (fun j : f55.Js => jmp [Ap.ap j.1.1 [0, 1], Ap.ap j.1.2 [], Ap.ap j.2.1 [0, 1, 12, 13], Ap.ap j.2.2.1 [0, 1, 12, 13], Ap.ap j.2.2.2 [0, 1, 12, 13]]) (f55.J I call n)
theorem f55.S : SFn ⟨P, I, F⟩ call c55 (f55.JS I call) := .all 5 (by kernel_rfl) (fun ρ h => by kernel_rfl) (fun n ρ h => by kernel_rfl)
theorem f55.qe : Ap.all (f55.e I call (f55.J I call n)) (fun l h => execC P I call (f55.JS I call n) c55.body 0 (finV I c55.results) (argV l) h) := fun v0 v1 h => by kernel_rfl
theorem f55.code : codeOf P 55 = some c55 := by kernel_rfl
def f55.run (I : Inp) : SF := fun call n => Ap.ar (f55.e I call (f55.J I call n))
theorem f55.ok (I : Inp) (F : Nat → Option AFn) (hF : F 55 = some (.code c55)) : SfOk P I F 55 (f55.run I) := okOf hF (by kernel_rfl) (fun _ => f55.S) fun call n => f55.qe
theorem f55.lim (hp : prims 55 = none) {v0 v1 : AVal} (hr : Res (f55.e I (AM.lim ⟨P, I, genF P prims⟩) (f55.J I (AM.lim ⟨P, I, genF P prims⟩) n) v0 v1 h) Q) : Res ((AM.lim ⟨P, I, genF P prims⟩) 55 [v0, v1] h) Q := limOf (n := n) hp f55.code (f55.ok I) hr rfl
/-! haruspex/haruspexref8.Def -/
def c56 : AFunc := cOf P 56
abbrev f56.Js : Type := A1
def f56.b0 (I : Inp) (call : CallFn) (j : f56.Js) (v1 : AVal) (h : AHeap) : Rs :=
  kF 1 v1 fun v27 =>
  kL I v27 h fun v28 =>
  some (.tuple [v28, bT], h)
def f56.e (I : Inp) (call : CallFn) (j : f56.Js) (v0 : AVal) (h : AHeap) : Rs :=
  bnd (sBox v0 h) fun v1 h1 =>
  kF 0 v1 fun v4 =>
  kL I v4 h1 fun v5 =>
  kB .lss v5 (Z 1) fun v6 =>
  gP v6 .false (pFieldAddr 0 v1) h1 fun v8 h2 =>
  gP v6 .false (pLoad1 I v8 h2) h2 fun v9 h3 =>
  gP v6 .false (pBin .gtr v9 (Z 15)) h3 fun v10 h4 =>
  kP v6 bT v10 fun v11 =>
  gP v11 .false (pFieldAddr 0 v1) h4 fun v13 h5 =>
  gP v11 .false (pLoad1 I v13 h5) h5 fun v14 h6 =>
  gP v11 .false (pBin .eql v14 (Z 8)) h6 fun v15 h7 =>
  kP v11 bT v15 fun v16 =>
  gP v16 .false (pFieldAddr 0 v1) h7 fun v18 h8 =>
  gP v16 .false (pLoad1 I v18 h8) h8 fun v19 h9 =>
  gP v16 .false (pBin .eql v19 (Z 9)) h9 fun v20 h10 =>
  kP v16 bT v20 fun v21 =>
  gP v21 .false (pFieldAddr 0 v1) h10 fun v23 h11 =>
  gP v21 .false (pLoad1 I v23 h11) h11 fun v24 h12 =>
  gP v21 .false (pBin .eql v24 (Z 15)) h12 fun v25 h13 =>
  kP v21 bT v25 fun v26 =>
  sCond v26 (
  j v1 h13) (
  some (.tuple [(Z 0), bF], h13))
def f56.J (I : Inp) (call : CallFn) (n : Nat) : f56.Js :=
  Nat.rec (motive := fun _ => f56.Js) Zr.z (fun _ j => f56.b0 I call j) n
theorem f56.n0 : (f56.J I call (n + 1)) = f56.b0 I call (f56.J I call n) := nrfl
def f56.JS (I : Inp) (call : CallFn) (n : Nat) : Jmp := (fun j : f56.Js => jmp [Ap.ap j [1]]) (f56.J I call n)
theorem f56.S : SFn ⟨P, I, F⟩ call c56 (f56.JS I call) := .all 1 (by kernel_rfl) (fun ρ h => by kernel_rfl) (fun n ρ h => by kernel_rfl)
theorem f56.qe : Ap.all (f56.e I call (f56.J I call n)) (fun l h => execC P I call (f56.JS I call n) c56.body 0 (finV I c56.results) (argV l) h) := fun v0 h => by kernel_rfl
theorem f56.code : codeOf P 56 = some c56 := by kernel_rfl
def f56.run (I : Inp) : SF := fun call n => Ap.ar (f56.e I call (f56.J I call n))
theorem f56.ok (I : Inp) (F : Nat → Option AFn) (hF : F 56 = some (.code c56)) : SfOk P I F 56 (f56.run I) := okOf hF (by kernel_rfl) (fun _ => f56.S) fun call n => f56.qe
theorem f56.lim (hp : prims 56 = none) {v0 : AVal} (hr : Res (f56.e I (AM.lim ⟨P, I, genF P prims⟩) (f56.J I (AM.lim ⟨P, I, genF P prims⟩) n) v0 h) Q) : Res ((AM.lim ⟨P, I, genF P prims⟩) 56 [v0] h) Q := limOf (n := n) hp f56.code (f56.ok I) hr rfl
/-! haruspex/haruspexref8.Uses -/
def c57 : AFunc := cOf P 57
abbrev f57.Js : Type := ((A0 × A3) × (A3 × A2))
def f57.b0 (I : Inp) (call : CallFn) (j : f57.Js) (h : AHeap) : Rs :=
  some (.nils, h)
def f57.b1 (I : Inp) (call : CallFn) (j : f57.Js) (v1 v4 v5 : AVal) (h : AHeap) : Rs :=
  sCond v5 (
  kB .eql v4 (Z 6) fun v14 =>
  sCond v14 (
  kB .eql v4 (Z 7) fun v15 =>
  sCond v15 (
  kB .eql v4 (Z 9) fun v16 =>
  sCond v16 (
  kB .eql v4 (Z 11) fun v17 =>
  sCond v17 (
  kB .eql v4 (Z 15) fun v18 =>
  j.2.1 v1 v4 v18 h) (
  j.2.1 v1 v4 v17 h)) (
  j.2.1 v1 v4 v16 h)) (
  j.2.1 v1 v4 v15 h)) (
  j.2.1 v1 v4 v14 h)) (
  kF 2 v1 fun v8 =>
  kL I v8 h fun v9 =>
  kF 3 v1 fun v10 =>
  kL I v10 h fun v11 =>
  bnd (sBuildSlice [(Z 0)] 2 [(0, 1, v9), (1, 1, v11)] h) fun v12 h1 =>
  some (v12, h1))
def f57.b2 (I : Inp) (call : CallFn) (j : f57.Js) (v1 v4 v13 : AVal) (h : AHeap) : Rs :=
  sCond v13 (
  kB .eql v4 (Z 12) fun v23 =>
  sCond v23 (
  kB .eql v4 (Z 13) fun v28 =>
  sCond v28 (
  kB .eql v4 (Z 14) fun v29 =>
  j.2.2 v1 v29 h) (
  j.2.2 v1 v28 h)) (
  kF 5 v1 fun v24 =>
  kL I v24 h fun v25 =>
  bnd (sAppend I 1 8 .nils v25 h) fun v26 h1 =>
  some (v26, h1))) (
  kF 2 v1 fun v19 =>
  kL I v19 h fun v20 =>
  bnd (sBuildSlice [(Z 0)] 1 [(0, 1, v20)] h) fun v21 h2 =>
  some (v21, h2))
def f57.b3 (I : Inp) (call : CallFn) (j : f57.Js) (v1 v27 : AVal) (h : AHeap) : Rs :=
  sCond v27 (
  j.1.1 h) (
  kF 2 v1 fun v30 =>
  kL I v30 h fun v31 =>
  bnd (sBuildSlice [(Z 0)] 1 [(0, 1, v31)] h) fun v32 h1 =>
  kF 5 v1 fun v33 =>
  kL I v33 h1 fun v34 =>
  bnd (sAppend I 1 8 v32 v34 h1) fun v35 h2 =>
  some (v35, h2))
def f57.e (I : Inp) (call : CallFn) (j : f57.Js) (v0 : AVal) (h : AHeap) : Rs :=
  bnd (sBox v0 h) fun v1 h1 =>
  kF 0 v1 fun v3 =>
  kL I v3 h1 fun v4 =>
  kB .eql v4 (Z 2) fun v6 =>
  sCond v6 (
  kB .eql v4 (Z 8) fun v7 =>
  j.1.2 v1 v4 v7 h1) (
  j.1.2 v1 v4 v6 h1)
def f57.J (I : Inp) (call : CallFn) (n : Nat) : f57.Js :=
  Nat.rec (motive := fun _ => f57.Js) ((Zr.z, Zr.z), (Zr.z, Zr.z)) (fun _ j => ((f57.b0 I call j, f57.b1 I call j), (f57.b2 I call j, f57.b3 I call j))) n
theorem f57.n0 : (f57.J I call (n + 1)).1.1 = f57.b0 I call (f57.J I call n) := nrfl
theorem f57.n1 : (f57.J I call (n + 1)).1.2 = f57.b1 I call (f57.J I call n) := nrfl
theorem f57.n2 : (f57.J I call (n + 1)).2.1 = f57.b2 I call (f57.J I call n) := nrfl
theorem f57.n3 : (f57.J I call (n + 1)).2.2 = f57.b3 I call (f57.J I call n) := nrfl
def f57.JS (I : Inp) (call : CallFn) (n : Nat) : Jmp := (fun j : f57.Js => jmp [Ap.ap j.1.1 [], Ap.ap j.1.2 [1, 4, 5], Ap.ap j.2.1 [1, 4, 13], Ap.ap j.2.2 [1, 27]]) (f57.J I call n)
theorem f57.S : SFn ⟨P, I, F⟩ call c57 (f57.JS I call) := .all 4 (by kernel_rfl) (fun ρ h => by kernel_rfl) (fun n ρ h => by kernel_rfl)
theorem f57.qe : Ap.all (f57.e I call (f57.J I call n)) (fun l h => execC P I call (f57.JS I call n) c57.body 0 (finV I c57.results) (argV l) h) := fun v0 h => by kernel_rfl
theorem f57.code : codeOf P 57 = some c57 := by kernel_rfl
def f57.run (I : Inp) : SF := fun call n => Ap.ar (f57.e I call (f57.J I call n))
theorem f57.ok (I : Inp) (F : Nat → Option AFn) (hF : F 57 = some (.code c57)) : SfOk P I F 57 (f57.run I) := okOf hF (by kernel_rfl) (fun _ => f57.S) fun call n => f57.qe
theorem f57.lim (hp : prims 57 = none) {v0 : AVal} (hr : Res (f57.e I (AM.lim ⟨P, I, genF P prims⟩) (f57.J I (AM.lim ⟨P, I, genF P prims⟩) n) v0 h) Q) : Res ((AM.lim ⟨P, I, genF P prims⟩) 57 [v0] h) Q := limOf (n := n) hp f57.code (f57.ok I) hr rfl
/-! haruspex/code.refused -/
def c65 : AFunc := cOf P 65
abbrev f65.Js : Type := Unit
def f65.e (I : Inp) (call : CallFn) (j : f65.Js) (h : AHeap) : Rs :=
  kC call 29 [] h fun v1 h1 =>
  kC call 30 [(Z 1), v1, .nili] h1 fun v2 h2 =>
  some (v2, h2)
theorem f65.S : SFn ⟨P, I, F⟩ call c65 (fun _ => jmp []) := .all 0 (by kernel_rfl) (fun ρ h => by kernel_rfl) (fun n ρ h => by kernel_rfl)
theorem f65.qe : Ap.all (f65.e I call ()) (fun l h => execC P I call (jmp []) c65.body 0 (finV I c65.results) (argV l) h) := fun h => by kernel_rfl
theorem f65.code : codeOf P 65 = some c65 := by kernel_rfl
def f65.run (I : Inp) : SF := fun call n => Ap.ar (f65.e I call ())
theorem f65.ok (I : Inp) (F : Nat → Option AFn) (hF : F 65 = some (.code c65)) : SfOk P I F 65 (f65.run I) := okOf hF (by kernel_rfl) (fun _ => f65.S) fun call n => f65.qe
/-! (*haruspex/code.reader).program -/
def c66 : AFunc := cOf P 66
abbrev f66.Js : Type := ((((A2 × A3) × (A3 × (A3 × A2))) × ((A3 × A3) × (A3 × (A2 × A3)))) × (((A3 × A3) × (A2 × (A3 × A3))) × ((A3 × A2) × (A3 × (A3 × A3)))))
def f66.b0 (I : Inp) (call : CallFn) (j : f66.Js) (v0 v3 : AVal) (h : AHeap) : Rs :=
  kC call 98 [v0] h fun v38 h1 =>
  j.1.2.1.1 v0 v3 v38 h1
def f66.b1 (I : Inp) (call : CallFn) (j : f66.Js) (v0 v3 v4 : AVal) (h : AHeap) : Rs :=
  kB .gtr v4 (Z 0) fun v16 =>
  gV v16 .true v0 h fun v18 h1 =>
  gP v16 .true (pNilCheck v18) h1 fun v19 h2 =>
  gP v16 .true (pFieldAddr 1 v19) h2 fun v20 h3 =>
  gP v16 .true (pLoad1 I v20 h3) h3 fun v21 h4 =>
  gP v16 .true (pUn .not v21) h4 fun v22 h5 =>
  kP v16 v22 bF fun v23 =>
  sCond v23 (
  j.1.1.1.1 v0 v3 h5) (
  j.1.1.2.1 v0 v3 v4 h5)
def f66.b2 (I : Inp) (call : CallFn) (j : f66.Js) (v0 v3 v4 : AVal) (h : AHeap) : Rs :=
  kN v3 fun v28 =>
  kF 0 v28 fun v29 =>
  kL I v29 h fun v30 =>
  kC call 99 [v0] h fun v32 h1 =>
  bnd (sBuildSlice [.nils] 1 [(0, 1, v32)] h1) fun v33 h2 =>
  bnd (sAppend I 1 24 v30 v33 h2) fun v34 h3 =>
  kN v3 fun v35 =>
  kF 0 v35 fun v36 =>
  kS 1 v36 v34 h3 fun _ h4 =>
  sCheck (sSame (lift (pLoad1 I v29 h1) h1) v30 && (sSame (lift (pLoad1 I v29 h2) h2) v30 && true)) (
  j.1.1.2.2.1 v0 v3 v4 h4)
def f66.b3 (I : Inp) (call : CallFn) (j : f66.Js) (v0 v3 v4 : AVal) (h : AHeap) : Rs :=
  kB .sub v4 (Z 1) fun v25 =>
  j.1.1.1.2 v0 v3 v25 h
def f66.b4 (I : Inp) (call : CallFn) (j : f66.Js) (v0 v3 : AVal) (h : AHeap) : Rs :=
  kC call 98 [v0] h fun v67 h1 =>
  j.1.2.2.2.2 v0 v3 v67 h1
def f66.b5 (I : Inp) (call : CallFn) (j : f66.Js) (v0 v3 v5 : AVal) (h : AHeap) : Rs :=
  kB .gtr v5 (Z 0) fun v40 =>
  gV v40 .true v0 h fun v42 h1 =>
  gP v40 .true (pNilCheck v42) h1 fun v43 h2 =>
  gP v40 .true (pFieldAddr 1 v43) h2 fun v44 h3 =>
  gP v40 .true (pLoad1 I v44 h3) h3 fun v45 h4 =>
  gP v40 .true (pUn .not v45) h4 fun v46 h5 =>
  kP v40 v46 bF fun v47 =>
  sCond v47 (
  j.1.1.2.2.2 v0 v3 h5) (
  j.1.2.1.2 v0 v3 v5 h5)
def f66.b6 (I : Inp) (call : CallFn) (j : f66.Js) (v0 v3 v5 : AVal) (h : AHeap) : Rs :=
  kC call 99 [v0] h fun v51 h1 =>
  bndP (pBuild [.nils, (Z 0), (Z 0)] [(0, 1, v51)]) fun v52 =>
  kA [.nils, (Z 0), (Z 0)] h1 fun v6 h2 =>
  kS 3 v6 v52 h2 fun _ h3 =>
  kC call 100 [v0] h3 fun v54 h4 =>
  kF 1 v6 fun v55 =>
  kS 2 v55 v54 h4 fun _ h5 =>
  kN v3 fun v58 =>
  kF 1 v58 fun v59 =>
  kL I v59 h5 fun v60 =>
  kM I 3 v6 h5 fun v61 =>
  bnd (sBuildSlice [.nils, (Z 0), (Z 0)] 1 [(0, 3, v61)] h5) fun v62 h6 =>
  bnd (sAppend I 3 40 v60 v62 h6) fun v63 h7 =>
  kN v3 fun v64 =>
  kF 1 v64 fun v65 =>
  kS 1 v65 v63 h7 fun _ h8 =>
  sCheck (sSame (lift (pLoad1 I v59 h6) h6) v60 && true) (
  j.1.2.2.1 v0 v3 v5 h8)
def f66.b7 (I : Inp) (call : CallFn) (j : f66.Js) (v0 v3 v5 : AVal) (h : AHeap) : Rs :=
  kB .sub v5 (Z 1) fun v49 =>
  j.1.2.1.1 v0 v3 v49 h
def f66.b8 (I : Inp) (call : CallFn) (j : f66.Js) (v0 v3 : AVal) (h : AHeap) : Rs :=
  kC call 98 [v0] h fun v92 h1 =>
  j.2.1.2.2.1 v0 v3 v92 h1
def f66.b9 (I : Inp) (call : CallFn) (j : f66.Js) (v0 v3 v7 : AVal) (h : AHeap) : Rs :=
  kB .gtr v7 (Z 0) fun v69 =>
  gV v69 .true v0 h fun v71 h1 =>
  gP v69 .true (pNilCheck v71) h1 fun v72 h2 =>
  gP v69 .true (pFieldAddr 1 v72) h2 fun v73 h3 =>
  gP v69 .true (pLoad1 I v73 h3) h3 fun v74 h4 =>
  gP v69 .true (pUn .not v74) h4 fun v75 h5 =>
  kP v69 v75 bF fun v76 =>
  sCond v76 (
  j.1.2.2.2.1 v0 v3 h5) (
  j.2.1.1.1 v0 v3 v7 h5)
def f66.b10 (I : Inp) (call : CallFn) (j : f66.Js) (v0 v3 v7 : AVal) (h : AHeap) : Rs :=
  kN v3 fun v81 =>
  kF 2 v81 fun v82 =>
  kL I v82 h fun v83 =>
  kC call 101 [v0] h fun v85 h1 =>
  bndP (pBuild [.nils] [(0, 1, v85)]) fun v86 =>
  bnd (sBuildSlice [.nils] 1 [(0, 1, v86)] h1) fun v87 h2 =>
  bnd (sAppend I 1 24 v83 v87 h2) fun v88 h3 =>
  kN v3 fun v89 =>
  kF 2 v89 fun v90 =>
  kS 1 v90 v88 h3 fun _ h4 =>
  sCheck (sSame (lift (pLoad1 I v82 h1) h1) v83 && (sSame (lift (pLoad1 I v82 h2) h2) v83 && true)) (
  j.2.1.1.2 v0 v3 v7 h4)
def f66.b11 (I : Inp) (call : CallFn) (j : f66.Js) (v0 v3 v7 : AVal) (h : AHeap) : Rs :=
  kB .sub v7 (Z 1) fun v78 =>
  j.1.2.2.2.2 v0 v3 v78 h
def f66.b12 (I : Inp) (call : CallFn) (j : f66.Js) (v0 v3 : AVal) (h : AHeap) : Rs :=
  kC call 98 [v0] h fun v124 h1 =>
  j.2.2.2.1 v0 v3 v124 h1
def f66.b13 (I : Inp) (call : CallFn) (j : f66.Js) (v0 v3 v8 : AVal) (h : AHeap) : Rs :=
  kB .gtr v8 (Z 0) fun v94 =>
  gV v94 .true v0 h fun v96 h1 =>
  gP v94 .true (pNilCheck v96) h1 fun v97 h2 =>
  gP v94 .true (pFieldAddr 1 v97) h2 fun v98 h3 =>
  gP v94 .true (pLoad1 I v98 h3) h3 fun v99 h4 =>
  gP v94 .true (pUn .not v99) h4 fun v100 h5 =>
  kP v94 v100 bF fun v101 =>
  sCond v101 (
  j.2.1.2.1 v0 v3 h5) (
  j.2.1.2.2.2 v0 v3 v8 h5)
def f66.b14 (I : Inp) (call : CallFn) (j : f66.Js) (v0 v3 v8 : AVal) (h : AHeap) : Rs :=
  kC call 102 [v0] h fun v105 h1 =>
  bndP (pBuild [(Z 0), (Z 0), .nils] [(0, 1, v105)]) fun v106 =>
  kA [(Z 0), (Z 0), .nils] h1 fun v9 h2 =>
  kS 3 v9 v106 h2 fun _ h3 =>
  kC call 102 [v0] h3 fun v108 h4 =>
  kF 1 v9 fun v109 =>
  kS 1 v109 v108 h4 fun _ h5 =>
  kC call 101 [v0] h5 fun v111 h6 =>
  kF 2 v9 fun v112 =>
  kS 1 v112 v111 h6 fun _ h7 =>
  kN v3 fun v115 =>
  kF 3 v115 fun v116 =>
  kL I v116 h7 fun v117 =>
  kM I 3 v9 h7 fun v118 =>
  bnd (sBuildSlice [(Z 0), (Z 0), .nils] 1 [(0, 3, v118)] h7) fun v119 h8 =>
  bnd (sAppend I 3 40 v117 v119 h8) fun v120 h9 =>
  kN v3 fun v121 =>
  kF 3 v121 fun v122 =>
  kS 1 v122 v120 h9 fun _ h10 =>
  sCheck (sSame (lift (pLoad1 I v116 h8) h8) v117 && true) (
  j.2.2.1.1 v0 v3 v8 h10)
def f66.b15 (I : Inp) (call : CallFn) (j : f66.Js) (v0 v3 v8 : AVal) (h : AHeap) : Rs :=
  kB .sub v8 (Z 1) fun v103 =>
  j.2.1.2.2.1 v0 v3 v103 h
def f66.b16 (I : Inp) (call : CallFn) (j : f66.Js) (v0 v3 : AVal) (h : AHeap) : Rs :=
  kC call 102 [v0] h fun v149 h1 =>
  kN v3 fun v150 =>
  kF 5 v150 fun v151 =>
  kS 1 v151 v149 h1 fun _ h2 =>
  some (v3, h2)
def f66.b17 (I : Inp) (call : CallFn) (j : f66.Js) (v0 v3 v10 : AVal) (h : AHeap) : Rs :=
  kB .gtr v10 (Z 0) fun v126 =>
  gV v126 .true v0 h fun v128 h1 =>
  gP v126 .true (pNilCheck v128) h1 fun v129 h2 =>
  gP v126 .true (pFieldAddr 1 v129) h2 fun v130 h3 =>
  gP v126 .true (pLoad1 I v130 h3) h3 fun v131 h4 =>
  gP v126 .true (pUn .not v131) h4 fun v132 h5 =>
  kP v126 v132 bF fun v133 =>
  sCond v133 (
  j.2.2.1.2 v0 v3 h5) (
  j.2.2.2.2.1 v0 v3 v10 h5)
def f66.b18 (I : Inp) (call : CallFn) (j : f66.Js) (v0 v3 v10 : AVal) (h : AHeap) : Rs :=
  kN v3 fun v138 =>
  kF 4 v138 fun v139 =>
  kL I v139 h fun v140 =>
  kC call 103 [v0] h fun v142 h1 =>
  bnd (sBuildSlice [(Z 0), .nils, .nils] 1 [(0, 3, v142)] h1) fun v143 h2 =>
  bnd (sAppend I 3 56 v140 v143 h2) fun v144 h3 =>
  kN v3 fun v145 =>
  kF 4 v145 fun v146 =>
  kS 1 v146 v144 h3 fun _ h4 =>
  sCheck (sSame (lift (pLoad1 I v139 h1) h1) v140 && (sSame (lift (pLoad1 I v139 h2) h2) v140 && true)) (
  j.2.2.2.2.2 v0 v3 v10 h4)
def f66.b19 (I : Inp) (call : CallFn) (j : f66.Js) (v0 v3 v10 : AVal) (h : AHeap) : Rs :=
  kB .sub v10 (Z 1) fun v135 =>
  j.2.2.2.1 v0 v3 v135 h
def f66.e (I : Inp) (call : CallFn) (j : f66.Js) (v0 : AVal) (h : AHeap) : Rs :=
  bndP (pBuild [.nils, .nils, .nils, .nils, .nils, (Z 0)] []) fun v11 =>
  bnd (sBox v11 h) fun v12 h1 =>
  kC call 98 [v0] h1 fun v14 h2 =>
  j.1.1.1.2 v0 v12 v14 h2
def f66.J (I : Inp) (call : CallFn) (n : Nat) : f66.Js :=
  Nat.rec (motive := fun _ => f66.Js) ((((Zr.z, Zr.z), (Zr.z, (Zr.z, Zr.z))), ((Zr.z, Zr.z), (Zr.z, (Zr.z, Zr.z)))), (((Zr.z, Zr.z), (Zr.z, (Zr.z, Zr.z))), ((Zr.z, Zr.z), (Zr.z, (Zr.z, Zr.z))))) (fun _ j => ((((f66.b0 I call j, f66.b1 I call j), (f66.b2 I call j, (f66.b3 I call j, f66.b4 I call j))), ((f66.b5 I call j, f66.b6 I call j), (f66.b7 I call j, (f66.b8 I call j, f66.b9 I call j)))), (((f66.b10 I call j, f66.b11 I call j), (f66.b12 I call j, (f66.b13 I call j, f66.b14 I call j))), ((f66.b15 I call j, f66.b16 I call j), (f66.b17 I call j, (f66.b18 I call j, f66.b19 I call j)))))) n
def f66.JS (I : Inp) (call : CallFn) (n : Nat) : Jmp := (fun j : f66.Js => jmp [Ap.ap j.1.1.1.1 [0, 3], Ap.ap j.1.1.1.2 [0, 3, 4], Ap.ap j.1.1.2.1 [0, 3, 4], Ap.ap j.1.1.2.2.1 [0, 3, 4], Ap.ap j.1.1.2.2.2 [0, 3], Ap.ap j.1.2.1.1 [0, 3, 5], Ap.ap j.1.2.1.2 [0, 3, 5], Ap.ap j.1.2.2.1 [0, 3, 5], Ap.ap j.1.2.2.2.1 [0, 3], Ap.ap j.1.2.2.2.2 [0, 3, 7], Ap.ap j.2.1.1.1 [0, 3, 7], Ap.ap j.2.1.1.2 [0, 3, 7], Ap.ap j.2.1.2.1 [0, 3], Ap.ap j.2.1.2.2.1 [0, 3, 8], Ap.ap j.2.1.2.2.2 [0, 3, 8], Ap.ap j.2.2.1.1 [0, 3, 8], Ap.ap j.2.2.1.2 [0, 3], Ap.ap j.2.2.2.1 [0, 3, 10], Ap.ap j.2.2.2.2.1 [0, 3, 10], Ap.ap j.2.2.2.2.2 [0, 3, 10]]) (f66.J I call n)
theorem f66.S : SFn ⟨P, I, F⟩ call c66 (f66.JS I call) := .all 20 (by kernel_rfl) (fun ρ h => by kernel_rfl) (fun n ρ h => by kernel_rfl)
theorem f66.qe : Ap.all (f66.e I call (f66.J I call n)) (fun l h => execC P I call (f66.JS I call n) c66.body 0 (finV I c66.results) (argV l) h) := fun v0 h => by kernel_rfl
theorem f66.code : codeOf P 66 = some c66 := by kernel_rfl
def f66.run (I : Inp) : SF := fun call n => Ap.ar (f66.e I call (f66.J I call n))
theorem f66.ok (I : Inp) (F : Nat → Option AFn) (hF : F 66 = some (.code c66)) : SfOk P I F 66 (f66.run I) := okOf hF (by kernel_rfl) (fun _ => f66.S) fun call n => f66.qe
/-! bytes.Equal -/
def c67 : AFunc := cOf P 67
abbrev f67.Js : Type := Unit
def f67.e (I : Inp) (call : CallFn) (j : f67.Js) (v0 v1 : AVal) (h : AHeap) : Rs :=
  bndP (pToStr I v0 h) fun v6 =>
  bndP (pToStr I v1 h) fun v8 =>
  kB .eql v6 v8 fun v9 =>
  some (v9, h)
theorem f67.S : SFn ⟨P, I, F⟩ call c67 (fun _ => jmp []) := .all 0 (by kernel_rfl) (fun ρ h => by kernel_rfl) (fun n ρ h => by kernel_rfl)
theorem f67.qe : Ap.all (f67.e I call ()) (fun l h => execC P I call (jmp []) c67.body 0 (finV I c67.results) (argV l) h) := fun v0 v1 h => by kernel_rfl
theorem f67.code : codeOf P 67 = some c67 := by kernel_rfl
def f67.run (I : Inp) : SF := fun call n => Ap.ar (f67.e I call ())
theorem f67.ok (I : Inp) (F : Nat → Option AFn) (hF : F 67 = some (.code c67)) : SfOk P I F 67 (f67.run I) := okOf hF (by kernel_rfl) (fun _ => f67.S) fun call n => f67.qe
/-! haruspex/code.text -/
def c68 : AFunc := cOf P 68
abbrev f68.Js : Type := ((((A2 × A5) × (A5 × (A5 × A2))) × ((A5 × A5) × (A5 × (A2 × A5)))) × (((A5 × A5) × (A2 × (A5 × A5))) × ((A5 × A2) × (A5 × (A5 × A5)))))
def f68.b0 (I : Inp) (call : CallFn) (j : f68.Js) (v0 v3 : AVal) (h : AHeap) : Rs :=
  kN v0 fun v38 =>
  kF 1 v38 fun v39 =>
  kL I v39 h fun v40 =>
  kZ v40 fun v41 =>
  kC call 104 [v3, v41] h fun v42 h1 =>
  kN v0 fun v44 =>
  kF 1 v44 fun v45 =>
  kL I v45 h1 fun v46 =>
  kZ v46 fun v47 =>
  j.1.2.1.1 v0 v3 v46 v47 (Z 0) h1
def f68.b1 (I : Inp) (call : CallFn) (j : f68.Js) (v0 v3 v26 v27 v28 : AVal) (h : AHeap) : Rs :=
  kB .lss v28 v27 fun v29 =>
  sCond v29 (
  j.1.1.1.1 v0 v3 h) (
  j.1.1.2.1 v0 v3 v26 v27 v28 h)
def f68.b2 (I : Inp) (call : CallFn) (j : f68.Js) (v0 v3 v26 v27 v28 : AVal) (h : AHeap) : Rs :=
  kI 1 v26 v28 fun v30 =>
  kL I v30 h fun v31 =>
  kC call 105 [v3, v31] h fun v34 h1 =>
  j.1.1.2.2.1 v0 v3 v26 v27 v28 h1
def f68.b3 (I : Inp) (call : CallFn) (j : f68.Js) (v0 v3 v26 v27 v28 : AVal) (h : AHeap) : Rs :=
  kB .add v28 (Z 1) fun v35 =>
  j.1.1.1.2 v0 v3 v26 v27 v35 h
def f68.b4 (I : Inp) (call : CallFn) (j : f68.Js) (v0 v3 : AVal) (h : AHeap) : Rs :=
  kN v0 fun v69 =>
  kF 2 v69 fun v70 =>
  kL I v70 h fun v71 =>
  kZ v71 fun v72 =>
  kC call 104 [v3, v72] h fun v73 h1 =>
  kN v0 fun v75 =>
  kF 2 v75 fun v76 =>
  kL I v76 h1 fun v77 =>
  kZ v77 fun v78 =>
  j.1.2.2.2.2 v0 v3 v77 v78 (Z 0) h1
def f68.b5 (I : Inp) (call : CallFn) (j : f68.Js) (v0 v3 v46 v47 v48 : AVal) (h : AHeap) : Rs :=
  kB .lss v48 v47 fun v49 =>
  sCond v49 (
  j.1.1.2.2.2 v0 v3 h) (
  j.1.2.1.2 v0 v3 v46 v47 v48 h)
def f68.b6 (I : Inp) (call : CallFn) (j : f68.Js) (v0 v3 v46 v47 v48 : AVal) (h : AHeap) : Rs :=
  kI 3 v46 v48 fun v50 =>
  kM I 3 v50 h fun v51 =>
  kA [.nils, (Z 0), (Z 0)] h fun v7 h1 =>
  kS 3 v7 v51 h1 fun _ h2 =>
  kF 0 v7 fun v53 =>
  kL I v53 h2 fun v54 =>
  kC call 105 [v3, v54] h2 fun v55 h3 =>
  kF 1 v7 fun v57 =>
  kF 0 v57 fun v58 =>
  kL I v58 h3 fun v59 =>
  kC call 104 [v3, v59] h3 fun v60 h4 =>
  kF 1 v7 fun v62 =>
  kF 1 v62 fun v63 =>
  kL I v63 h4 fun v64 =>
  kC call 104 [v3, v64] h4 fun v65 h5 =>
  j.1.2.2.1 v0 v3 v46 v47 v48 h5
def f68.b7 (I : Inp) (call : CallFn) (j : f68.Js) (v0 v3 v46 v47 v48 : AVal) (h : AHeap) : Rs :=
  kB .add v48 (Z 1) fun v66 =>
  j.1.2.1.1 v0 v3 v46 v47 v66 h
def f68.b8 (I : Inp) (call : CallFn) (j : f68.Js) (v0 v3 : AVal) (h : AHeap) : Rs :=
  kN v0 fun v90 =>
  kF 3 v90 fun v91 =>
  kL I v91 h fun v92 =>
  kZ v92 fun v93 =>
  kC call 104 [v3, v93] h fun v94 h1 =>
  kN v0 fun v96 =>
  kF 3 v96 fun v97 =>
  kL I v97 h1 fun v98 =>
  kZ v98 fun v99 =>
  j.2.1.2.2.1 v0 v3 v98 v99 (Z 0) h1
def f68.b9 (I : Inp) (call : CallFn) (j : f68.Js) (v0 v3 v77 v78 v79 : AVal) (h : AHeap) : Rs :=
  kB .lss v79 v78 fun v80 =>
  sCond v80 (
  j.1.2.2.2.1 v0 v3 h) (
  j.2.1.1.1 v0 v3 v77 v78 v79 h)
def f68.b10 (I : Inp) (call : CallFn) (j : f68.Js) (v0 v3 v77 v78 v79 : AVal) (h : AHeap) : Rs :=
  kI 1 v77 v79 fun v81 =>
  kM I 1 v81 h fun v82 =>
  kA [.nils] h fun v9 h1 =>
  kS 1 v9 v82 h1 fun _ h2 =>
  kF 0 v9 fun v84 =>
  kL I v84 h2 fun v85 =>
  kC call 106 [v3, v85] h2 fun v86 h3 =>
  j.2.1.1.2 v0 v3 v77 v78 v79 h3
def f68.b11 (I : Inp) (call : CallFn) (j : f68.Js) (v0 v3 v77 v78 v79 : AVal) (h : AHeap) : Rs :=
  kB .add v79 (Z 1) fun v87 =>
  j.1.2.2.2.2 v0 v3 v77 v78 v87 h
def f68.b12 (I : Inp) (call : CallFn) (j : f68.Js) (v0 v3 : AVal) (h : AHeap) : Rs :=
  kN v0 fun v119 =>
  kF 4 v119 fun v120 =>
  kL I v120 h fun v121 =>
  kZ v121 fun v122 =>
  kC call 104 [v3, v122] h fun v123 h1 =>
  kN v0 fun v125 =>
  kF 4 v125 fun v126 =>
  kL I v126 h1 fun v127 =>
  kZ v127 fun v128 =>
  j.2.2.2.1 v0 v3 v127 v128 (Z 0) h1
def f68.b13 (I : Inp) (call : CallFn) (j : f68.Js) (v0 v3 v98 v99 v100 : AVal) (h : AHeap) : Rs :=
  kB .lss v100 v99 fun v101 =>
  sCond v101 (
  j.2.1.2.1 v0 v3 h) (
  j.2.1.2.2.2 v0 v3 v98 v99 v100 h)
def f68.b14 (I : Inp) (call : CallFn) (j : f68.Js) (v0 v3 v98 v99 v100 : AVal) (h : AHeap) : Rs :=
  kI 3 v98 v100 fun v102 =>
  kM I 3 v102 h fun v103 =>
  kA [(Z 0), (Z 0), .nils] h fun v11 h1 =>
  kS 3 v11 v103 h1 fun _ h2 =>
  kF 0 v11 fun v105 =>
  kL I v105 h2 fun v106 =>
  kC call 104 [v3, v106] h2 fun v107 h3 =>
  kF 1 v11 fun v109 =>
  kL I v109 h3 fun v110 =>
  kC call 104 [v3, v110] h3 fun v111 h4 =>
  kF 2 v11 fun v113 =>
  kL I v113 h4 fun v114 =>
  kC call 106 [v3, v114] h4 fun v115 h5 =>
  j.2.2.1.1 v0 v3 v98 v99 v100 h5
def f68.b15 (I : Inp) (call : CallFn) (j : f68.Js) (v0 v3 v98 v99 v100 : AVal) (h : AHeap) : Rs :=
  kB .add v100 (Z 1) fun v116 =>
  j.2.1.2.2.1 v0 v3 v98 v99 v116 h
def f68.b16 (I : Inp) (call : CallFn) (j : f68.Js) (v0 v3 : AVal) (h : AHeap) : Rs :=
  kN v0 fun v139 =>
  kF 5 v139 fun v140 =>
  kL I v140 h fun v141 =>
  kC call 104 [v3, v141] h fun v142 h1 =>
  kN v3 fun v144 =>
  kF 0 v144 fun v145 =>
  kL I v145 h1 fun v146 =>
  some (v146, h1)
def f68.b17 (I : Inp) (call : CallFn) (j : f68.Js) (v0 v3 v127 v128 v129 : AVal) (h : AHeap) : Rs :=
  kB .lss v129 v128 fun v130 =>
  sCond v130 (
  j.2.2.1.2 v0 v3 h) (
  j.2.2.2.2.1 v0 v3 v127 v128 v129 h)
def f68.b18 (I : Inp) (call : CallFn) (j : f68.Js) (v0 v3 v127 v128 v129 : AVal) (h : AHeap) : Rs :=
  kI 3 v127 v129 fun v131 =>
  kM I 3 v131 h fun v132 =>
  kA [(Z 0), .nils, .nils] h fun v13 h1 =>
  kS 3 v13 v132 h1 fun _ h2 =>
  kM I 3 v13 h2 fun v134 =>
  kC call 107 [v3, v134] h2 fun v135 h3 =>
  j.2.2.2.2.2 v0 v3 v127 v128 v129 h3
def f68.b19 (I : Inp) (call : CallFn) (j : f68.Js) (v0 v3 v127 v128 v129 : AVal) (h : AHeap) : Rs :=
  kB .add v129 (Z 1) fun v136 =>
  j.2.2.2.1 v0 v3 v127 v128 v136 h
def f68.e (I : Inp) (call : CallFn) (j : f68.Js) (v0 : AVal) (h : AHeap) : Rs :=
  bndP (pBuild [.nils] []) fun v14 =>
  bnd (sBox v14 h) fun v15 h1 =>
  kN v0 fun v18 =>
  kF 0 v18 fun v19 =>
  kL I v19 h1 fun v20 =>
  kZ v20 fun v21 =>
  kC call 104 [v15, v21] h1 fun v22 h2 =>
  kN v0 fun v24 =>
  kF 0 v24 fun v25 =>
  kL I v25 h2 fun v26 =>
  kZ v26 fun v27 =>
  j.1.1.1.2 v0 v15 v26 v27 (Z 0) h2
def f68.J (I : Inp) (call : CallFn) (n : Nat) : f68.Js :=
  Nat.rec (motive := fun _ => f68.Js) ((((Zr.z, Zr.z), (Zr.z, (Zr.z, Zr.z))), ((Zr.z, Zr.z), (Zr.z, (Zr.z, Zr.z)))), (((Zr.z, Zr.z), (Zr.z, (Zr.z, Zr.z))), ((Zr.z, Zr.z), (Zr.z, (Zr.z, Zr.z))))) (fun _ j => ((((f68.b0 I call j, f68.b1 I call j), (f68.b2 I call j, (f68.b3 I call j, f68.b4 I call j))), ((f68.b5 I call j, f68.b6 I call j), (f68.b7 I call j, (f68.b8 I call j, f68.b9 I call j)))), (((f68.b10 I call j, f68.b11 I call j), (f68.b12 I call j, (f68.b13 I call j, f68.b14 I call j))), ((f68.b15 I call j, f68.b16 I call j), (f68.b17 I call j, (f68.b18 I call j, f68.b19 I call j)))))) n
def f68.JS (I : Inp) (call : CallFn) (n : Nat) : Jmp := (fun j : f68.Js => jmp [Ap.ap j.1.1.1.1 [0, 3], Ap.ap j.1.1.1.2 [0, 3, 26, 27, 28], Ap.ap j.1.1.2.1 [0, 3, 26, 27, 28], Ap.ap j.1.1.2.2.1 [0, 3, 26, 27, 28], Ap.ap j.1.1.2.2.2 [0, 3], Ap.ap j.1.2.1.1 [0, 3, 46, 47, 48], Ap.ap j.1.2.1.2 [0, 3, 46, 47, 48], Ap.ap j.1.2.2.1 [0, 3, 46, 47, 48], Ap.ap j.1.2.2.2.1 [0, 3], Ap.ap j.1.2.2.2.2 [0, 3, 77, 78, 79], Ap.ap j.2.1.1.1 [0, 3, 77, 78, 79], Ap.ap j.2.1.1.2 [0, 3, 77, 78, 79], Ap.ap j.2.1.2.1 [0, 3], Ap.ap j.2.1.2.2.1 [0, 3, 98, 99, 100], Ap.ap j.2.1.2.2.2 [0, 3, 98, 99, 100], Ap.ap j.2.2.1.1 [0, 3, 98, 99, 100], Ap.ap j.2.2.1.2 [0, 3], Ap.ap j.2.2.2.1 [0, 3, 127, 128, 129], Ap.ap j.2.2.2.2.1 [0, 3, 127, 128, 129], Ap.ap j.2.2.2.2.2 [0, 3, 127, 128, 129]]) (f68.J I call n)
theorem f68.S : SFn ⟨P, I, F⟩ call c68 (f68.JS I call) := .all 20 (by kernel_rfl) (fun ρ h => by kernel_rfl) (fun n ρ h => by kernel_rfl)
theorem f68.qe : Ap.all (f68.e I call (f68.J I call n)) (fun l h => execC P I call (f68.JS I call n) c68.body 0 (finV I c68.results) (argV l) h) := fun v0 h => by kernel_rfl
theorem f68.code : codeOf P 68 = some c68 := by kernel_rfl
def f68.run (I : Inp) : SF := fun call n => Ap.ar (f68.e I call (f68.J I call n))
theorem f68.ok (I : Inp) (F : Nat → Option AFn) (hF : F 68 = some (.code c68)) : SfOk P I F 68 (f68.run I) := okOf hF (by kernel_rfl) (fun _ => f68.S) fun call n => f68.qe
/-! haruspex/types.bound -/
def c70 : AFunc := cOf P 70
abbrev f70.Js : Type := Unit
def f70.e (I : Inp) (call : CallFn) (j : f70.Js) (h : AHeap) : Rs :=
  kC call 29 [] h fun v1 h1 =>
  kC call 30 [(Z 2), v1, .nili] h1 fun v2 h2 =>
  some (v2, h2)
theorem f70.S : SFn ⟨P, I, F⟩ call c70 (fun _ => jmp []) := .all 0 (by kernel_rfl) (fun ρ h => by kernel_rfl) (fun n ρ h => by kernel_rfl)
theorem f70.qe : Ap.all (f70.e I call ()) (fun l h => execC P I call (jmp []) c70.body 0 (finV I c70.results) (argV l) h) := fun h => by kernel_rfl
theorem f70.code : codeOf P 70 = some c70 := by kernel_rfl
def f70.run (I : Inp) : SF := fun call n => Ap.ar (f70.e I call ())
theorem f70.ok (I : Inp) (F : Nat → Option AFn) (hF : F 70 = some (.code c70)) : SfOk P I F 70 (f70.run I) := okOf hF (by kernel_rfl) (fun _ => f70.S) fun call n => f70.qe
theorem f70.lim (hp : prims 70 = none) {n : Nat} (hr : Res (f70.e I (AM.lim ⟨P, I, genF P prims⟩) () h) Q) : Res ((AM.lim ⟨P, I, genF P prims⟩) 70 [] h) Q := limOf (n := n) hp f70.code (f70.ok I) hr rfl
/-! haruspex/types.body -/
def c71 : AFunc := cOf P 71
abbrev f71.Js : Type := ((A3 × (A6 × A6)) × ((A6 × A9) × (A9 × A9)))
def f71.b0 (I : Inp) (call : CallFn) (j : f71.Js) (v5 v6 v7 : AVal) (h : AHeap) : Rs :=
  some (.tuple [v5, v6, v7], h)
def f71.b1 (I : Inp) (call : CallFn) (j : f71.Js) (v5 v6 v7 v29 v30 v31 : AVal) (h : AHeap) : Rs :=
  kB .lss v31 v30 fun v32 =>
  sCond v32 (
  j.1.1 v5 v6 v7 h) (
  j.1.2.2 v5 v6 v7 v29 v30 v31 h)
def f71.b2 (I : Inp) (call : CallFn) (j : f71.Js) (v5 v6 v7 v29 v30 v31 : AVal) (h : AHeap) : Rs :=
  kI 5 v29 v31 fun v33 =>
  kM I 5 v33 h fun v34 =>
  kA [.nils, (Z 0), (Z 0), (Z 0), (Z 0)] h fun v9 h1 =>
  kS 5 v9 v34 h1 fun _ h2 =>
  gP v5 .true (pFieldAddr 0 v9) h2 fun v37 h3 =>
  gP v5 .true (pLoad1 I v37 h3) h3 fun v38 h4 =>
  gP v5 .true (pLenSl v38) h4 fun v39 h5 =>
  gP v5 .true (pBin .leq v39 (Z 30)) h5 fun v40 h6 =>
  kP v5 v40 bF fun v41 =>
  kF 0 v9 fun v43 =>
  kL I v43 h6 fun v44 =>
  kZ v44 fun v45 =>
  kB .add v45 (Z 1) fun v46 =>
  kB .add v6 v46 fun v47 =>
  kF 0 v9 fun v48 =>
  kL I v48 h6 fun v49 =>
  kZ v49 fun v50 =>
  j.2.1.2 v41 v47 v7 v29 v30 v31 v49 v50 (Z 0) h6
def f71.b3 (I : Inp) (call : CallFn) (j : f71.Js) (v5 v6 v7 v29 v30 v31 : AVal) (h : AHeap) : Rs :=
  kB .add v31 (Z 1) fun v68 =>
  j.1.2.1 v5 v6 v7 v29 v30 v68 h
def f71.b4 (I : Inp) (call : CallFn) (j : f71.Js) (v5 v6 v7 v29 v30 v31 v49 v50 v51 : AVal) (h : AHeap) : Rs :=
  kB .lss v51 v50 fun v52 =>
  sCond v52 (
  j.2.1.1 v5 v6 v7 v29 v30 v31 h) (
  j.2.2.1 v5 v6 v7 v29 v30 v31 v49 v50 v51 h)
def f71.b5 (I : Inp) (call : CallFn) (j : f71.Js) (v5 v6 v7 v29 v30 v31 v49 v50 v51 : AVal) (h : AHeap) : Rs :=
  kI 6 v49 v51 fun v53 =>
  kM I 6 v53 h fun v54 =>
  kA [(Z 0), (Z 0), (Z 0), (Z 0), (Z 0), .nils] h fun v11 h1 =>
  kS 6 v11 v54 h1 fun _ h2 =>
  gP v5 .true (pFieldAddr 5 v11) h2 fun v57 h3 =>
  gP v5 .true (pLoad1 I v57 h3) h3 fun v58 h4 =>
  gP v5 .true (pLenSl v58) h4 fun v59 h5 =>
  gP v5 .true (pBin .leq v59 (Z 4)) h5 fun v60 h6 =>
  kP v5 v60 bF fun v61 =>
  kF 0 v11 fun v62 =>
  kL I v62 h6 fun v63 =>
  kB .eql v63 (Z 5) fun v64 =>
  sCond v64 (
  j.2.2.2 v61 v6 v7 v29 v30 v31 v49 v50 v51 h6) (
  kB .add v7 (Z 1) fun v66 =>
  j.2.2.2 v61 v6 v66 v29 v30 v31 v49 v50 v51 h6)
def f71.b6 (I : Inp) (call : CallFn) (j : f71.Js) (v5 v6 v7 v29 v30 v31 v49 v50 v51 : AVal) (h : AHeap) : Rs :=
  kB .add v51 (Z 1) fun v67 =>
  j.2.1.2 v5 v6 v7 v29 v30 v31 v49 v50 v67 h
def f71.e (I : Inp) (call : CallFn) (j : f71.Js) (v0 : AVal) (h : AHeap) : Rs :=
  bnd (sBox v0 h) fun v1 h1 =>
  kF 1 v1 fun v12 =>
  kL I v12 h1 fun v13 =>
  kZ v13 fun v14 =>
  kB .leq v14 (Z 16) fun v15 =>
  gP v15 .true (pFieldAddr 2 v1) h1 fun v17 h2 =>
  gP v15 .true (pLoad1 I v17 h2) h2 fun v18 h3 =>
  gP v15 .true (pLenSl v18) h3 fun v19 h4 =>
  gP v15 .true (pBin .leq v19 (Z 12)) h4 fun v20 h5 =>
  kP v15 v20 bF fun v21 =>
  gP v21 .true (pFieldAddr 2 v1) h5 fun v23 h6 =>
  gP v21 .true (pLoad1 I v23 h6) h6 fun v24 h7 =>
  gP v21 .true (pLenSl v24) h7 fun v25 h8 =>
  gP v21 .true (pBin .gtr v25 (Z 0)) h8 fun v26 h9 =>
  kP v21 v26 bF fun v27 =>
  kF 2 v1 fun v28 =>
  kL I v28 h9 fun v29 =>
  kZ v29 fun v30 =>
  j.1.2.1 v27 (Z 0) (Z 0) v29 v30 (Z 0) h9
def f71.J (I : Inp) (call : CallFn) (n : Nat) : f71.Js :=
  Nat.rec (motive := fun _ => f71.Js) ((Zr.z, (Zr.z, Zr.z)), ((Zr.z, Zr.z), (Zr.z, Zr.z))) (fun _ j => ((f71.b0 I call j, (f71.b1 I call j, f71.b2 I call j)), ((f71.b3 I call j, f71.b4 I call j), (f71.b5 I call j, f71.b6 I call j)))) n
theorem f71.n0 : (f71.J I call (n + 1)).1.1 = f71.b0 I call (f71.J I call n) := nrfl
theorem f71.n1 : (f71.J I call (n + 1)).1.2.1 = f71.b1 I call (f71.J I call n) := nrfl
theorem f71.n2 : (f71.J I call (n + 1)).1.2.2 = f71.b2 I call (f71.J I call n) := nrfl
theorem f71.n3 : (f71.J I call (n + 1)).2.1.1 = f71.b3 I call (f71.J I call n) := nrfl
theorem f71.n4 : (f71.J I call (n + 1)).2.1.2 = f71.b4 I call (f71.J I call n) := nrfl
theorem f71.n5 : (f71.J I call (n + 1)).2.2.1 = f71.b5 I call (f71.J I call n) := nrfl
theorem f71.n6 : (f71.J I call (n + 1)).2.2.2 = f71.b6 I call (f71.J I call n) := nrfl
def f71.JS (I : Inp) (call : CallFn) (n : Nat) : Jmp := (fun j : f71.Js => jmp [Ap.ap j.1.1 [5, 6, 7], Ap.ap j.1.2.1 [5, 6, 7, 29, 30, 31], Ap.ap j.1.2.2 [5, 6, 7, 29, 30, 31], Ap.ap j.2.1.1 [5, 6, 7, 29, 30, 31], Ap.ap j.2.1.2 [5, 6, 7, 29, 30, 31, 49, 50, 51], Ap.ap j.2.2.1 [5, 6, 7, 29, 30, 31, 49, 50, 51], Ap.ap j.2.2.2 [5, 6, 7, 29, 30, 31, 49, 50, 51]]) (f71.J I call n)
theorem f71.S : SFn ⟨P, I, F⟩ call c71 (f71.JS I call) := .all 7 (by kernel_rfl) (fun ρ h => by kernel_rfl) (fun n ρ h => by kernel_rfl)
theorem f71.qe : Ap.all (f71.e I call (f71.J I call n)) (fun l h => execC P I call (f71.JS I call n) c71.body 0 (finV I c71.results) (argV l) h) := fun v0 h => by kernel_rfl
theorem f71.code : codeOf P 71 = some c71 := by kernel_rfl
def f71.run (I : Inp) : SF := fun call n => Ap.ar (f71.e I call (f71.J I call n))
theorem f71.ok (I : Inp) (F : Nat → Option AFn) (hF : F 71 = some (.code c71)) : SfOk P I F 71 (f71.run I) := okOf hF (by kernel_rfl) (fun _ => f71.S) fun call n => f71.qe
theorem f71.lim (hp : prims 71 = none) {v0 : AVal} (hr : Res (f71.e I (AM.lim ⟨P, I, genF P prims⟩) (f71.J I (AM.lim ⟨P, I, genF P prims⟩) n) v0 h) Q) : Res ((AM.lim ⟨P, I, genF P prims⟩) 71 [v0] h) Q := limOf (n := n) hp f71.code (f71.ok I) hr rfl
/-! haruspex/types.lists -/
def c72 : AFunc := cOf P 72
abbrev f72.Js : Type := ((((A2 × A5) × (A5 × A5)) × ((A2 × A5) × (A5 × A5))) × (((A2 × A5) × (A5 × A5)) × ((A1 × A5) × (A5 × A5))))
def f72.b0 (I : Inp) (call : CallFn) (j : f72.Js) (v0 v3 : AVal) (h : AHeap) : Rs :=
  kN v0 fun v29 =>
  kF 1 v29 fun v30 =>
  kL I v30 h fun v31 =>
  kZ v31 fun v32 =>
  j.1.2.1.2 v0 v3 v31 v32 (Z 0) h
def f72.b1 (I : Inp) (call : CallFn) (j : f72.Js) (v0 v3 v15 v16 v17 : AVal) (h : AHeap) : Rs :=
  kB .lss v17 v16 fun v18 =>
  sCond v18 (
  j.1.1.1.1 v0 v3 h) (
  j.1.1.2.1 v0 v3 v15 v16 v17 h)
def f72.b2 (I : Inp) (call : CallFn) (j : f72.Js) (v0 v3 v15 v16 v17 : AVal) (h : AHeap) : Rs :=
  kI 1 v15 v17 fun v19 =>
  kL I v19 h fun v20 =>
  gV v3 .true v0 h fun v23 h1 =>
  gV v3 .true v20 h1 fun v24 h2 =>
  gS v3 .true (call 74 [v23, v24] h2) h2 fun v25 h3 =>
  kP v3 v25 bF fun v26 =>
  j.1.1.2.2 v0 v26 v15 v16 v17 h3
def f72.b3 (I : Inp) (call : CallFn) (j : f72.Js) (v0 v3 v15 v16 v17 : AVal) (h : AHeap) : Rs :=
  kB .add v17 (Z 1) fun v27 =>
  j.1.1.1.2 v0 v3 v15 v16 v27 h
def f72.b4 (I : Inp) (call : CallFn) (j : f72.Js) (v0 v3 : AVal) (h : AHeap) : Rs :=
  kN v0 fun v52 =>
  kF 2 v52 fun v53 =>
  kL I v53 h fun v54 =>
  kZ v54 fun v55 =>
  j.2.1.1.2 v0 v3 v54 v55 (Z 0) h
def f72.b5 (I : Inp) (call : CallFn) (j : f72.Js) (v0 v3 v31 v32 v33 : AVal) (h : AHeap) : Rs :=
  kB .lss v33 v32 fun v34 =>
  sCond v34 (
  j.1.2.1.1 v0 v3 h) (
  j.1.2.2.1 v0 v3 v31 v32 v33 h)
def f72.b6 (I : Inp) (call : CallFn) (j : f72.Js) (v0 v3 v31 v32 v33 : AVal) (h : AHeap) : Rs :=
  kI 3 v31 v33 fun v35 =>
  kM I 3 v35 h fun v36 =>
  kA [.nils, (Z 0), (Z 0)] h fun v7 h1 =>
  kS 3 v7 v36 h1 fun _ h2 =>
  gV v3 .true v0 h2 fun v39 h3 =>
  gP v3 .true (pFieldAddr 0 v7) h3 fun v40 h4 =>
  gP v3 .true (pLoad1 I v40 h4) h4 fun v41 h5 =>
  gS v3 .true (call 74 [v39, v41] h5) h5 fun v42 h6 =>
  kP v3 v42 bF fun v43 =>
  gV v43 .true v0 h6 fun v45 h7 =>
  gP v43 .true (pFieldAddr 1 v7) h7 fun v46 h8 =>
  gP v43 .true (pLoadN I 2 v46 h8) h8 fun v47 h9 =>
  gS v43 .true (call 112 [v45, v47] h9) h9 fun v48 h10 =>
  kP v43 v48 bF fun v49 =>
  j.1.2.2.2 v0 v49 v31 v32 v33 h10
def f72.b7 (I : Inp) (call : CallFn) (j : f72.Js) (v0 v3 v31 v32 v33 : AVal) (h : AHeap) : Rs :=
  kB .add v33 (Z 1) fun v50 =>
  j.1.2.1.2 v0 v3 v31 v32 v50 h
def f72.b8 (I : Inp) (call : CallFn) (j : f72.Js) (v0 v3 : AVal) (h : AHeap) : Rs :=
  kN v0 fun v73 =>
  kF 3 v73 fun v74 =>
  kL I v74 h fun v75 =>
  kZ v75 fun v76 =>
  j.2.2.1.2 v0 v3 v75 v76 (Z 0) h
def f72.b9 (I : Inp) (call : CallFn) (j : f72.Js) (v0 v3 v54 v55 v56 : AVal) (h : AHeap) : Rs :=
  kB .lss v56 v55 fun v57 =>
  sCond v57 (
  j.2.1.1.1 v0 v3 h) (
  j.2.1.2.1 v0 v3 v54 v55 v56 h)
def f72.b10 (I : Inp) (call : CallFn) (j : f72.Js) (v0 v3 v54 v55 v56 : AVal) (h : AHeap) : Rs :=
  kI 1 v54 v56 fun v58 =>
  kM I 1 v58 h fun v59 =>
  kA [.nils] h fun v9 h1 =>
  kS 1 v9 v59 h1 fun _ h2 =>
  gP v3 .true (pFieldAddr 0 v9) h2 fun v62 h3 =>
  gP v3 .true (pLoad1 I v62 h3) h3 fun v63 h4 =>
  gV v3 .true v0 h4 fun v64 h5 =>
  gP v3 .true (pNilCheck v64) h5 fun v65 h6 =>
  gP v3 .true (pFieldAddr 1 v65) h6 fun v66 h7 =>
  gP v3 .true (pLoad1 I v66 h7) h7 fun v67 h8 =>
  gP v3 .true (pLenSl v67) h8 fun v68 h9 =>
  gS v3 .true (call 113 [v63, v68] h9) h9 fun v69 h10 =>
  kP v3 v69 bF fun v70 =>
  j.2.1.2.2 v0 v70 v54 v55 v56 h10
def f72.b11 (I : Inp) (call : CallFn) (j : f72.Js) (v0 v3 v54 v55 v56 : AVal) (h : AHeap) : Rs :=
  kB .add v56 (Z 1) fun v71 =>
  j.2.1.1.2 v0 v3 v54 v55 v71 h
def f72.b12 (I : Inp) (call : CallFn) (j : f72.Js) (v3 : AVal) (h : AHeap) : Rs :=
  some (v3, h)
def f72.b13 (I : Inp) (call : CallFn) (j : f72.Js) (v0 v3 v75 v76 v77 : AVal) (h : AHeap) : Rs :=
  kB .lss v77 v76 fun v78 =>
  sCond v78 (
  j.2.2.1.1 v3 h) (
  j.2.2.2.1 v0 v3 v75 v76 v77 h)
def f72.b14 (I : Inp) (call : CallFn) (j : f72.Js) (v0 v3 v75 v76 v77 : AVal) (h : AHeap) : Rs :=
  kI 3 v75 v77 fun v79 =>
  kM I 3 v79 h fun v80 =>
  kA [(Z 0), (Z 0), .nils] h fun v11 h1 =>
  kS 3 v11 v80 h1 fun _ h2 =>
  gP v3 .true (pFieldAddr 0 v11) h2 fun v83 h3 =>
  gP v3 .true (pLoad1 I v83 h3) h3 fun v84 h4 =>
  gV v3 .true v0 h4 fun v85 h5 =>
  gP v3 .true (pNilCheck v85) h5 fun v86 h6 =>
  gP v3 .true (pFieldAddr 0 v86) h6 fun v87 h7 =>
  gP v3 .true (pLoad1 I v87 h7) h7 fun v88 h8 =>
  gP v3 .true (pLenSl v88) h8 fun v89 h9 =>
  gS v3 .true (call 73 [v84, v89] h9) h9 fun v90 h10 =>
  kP v3 v90 bF fun v91 =>
  gP v91 .true (pFieldAddr 1 v11) h10 fun v93 h11 =>
  gP v91 .true (pLoad1 I v93 h11) h11 fun v94 h12 =>
  gV v91 .true v0 h12 fun v95 h13 =>
  gP v91 .true (pNilCheck v95) h13 fun v96 h14 =>
  gP v91 .true (pFieldAddr 2 v96) h14 fun v97 h15 =>
  gP v91 .true (pLoad1 I v97 h15) h15 fun v98 h16 =>
  gP v91 .true (pLenSl v98) h16 fun v99 h17 =>
  gS v91 .true (call 73 [v94, v99] h17) h17 fun v100 h18 =>
  kP v91 v100 bF fun v101 =>
  gP v101 .true (pFieldAddr 2 v11) h18 fun v103 h19 =>
  gP v101 .true (pLoad1 I v103 h19) h19 fun v104 h20 =>
  gV v101 .true v0 h20 fun v105 h21 =>
  gP v101 .true (pNilCheck v105) h21 fun v106 h22 =>
  gP v101 .true (pFieldAddr 4 v106) h22 fun v107 h23 =>
  gP v101 .true (pLoad1 I v107 h23) h23 fun v108 h24 =>
  gP v101 .true (pLenSl v108) h24 fun v109 h25 =>
  gS v101 .true (call 113 [v104, v109] h25) h25 fun v110 h26 =>
  kP v101 v110 bF fun v111 =>
  j.2.2.2.2 v0 v111 v75 v76 v77 h26
def f72.b15 (I : Inp) (call : CallFn) (j : f72.Js) (v0 v3 v75 v76 v77 : AVal) (h : AHeap) : Rs :=
  kB .add v77 (Z 1) fun v112 =>
  j.2.2.1.2 v0 v3 v75 v76 v112 h
def f72.e (I : Inp) (call : CallFn) (j : f72.Js) (v0 : AVal) (h : AHeap) : Rs :=
  kN v0 fun v13 =>
  kF 0 v13 fun v14 =>
  kL I v14 h fun v15 =>
  kZ v15 fun v16 =>
  j.1.1.1.2 v0 bT v15 v16 (Z 0) h
def f72.J (I : Inp) (call : CallFn) (n : Nat) : f72.Js :=
  Nat.rec (motive := fun _ => f72.Js) ((((Zr.z, Zr.z), (Zr.z, Zr.z)), ((Zr.z, Zr.z), (Zr.z, Zr.z))), (((Zr.z, Zr.z), (Zr.z, Zr.z)), ((Zr.z, Zr.z), (Zr.z, Zr.z)))) (fun _ j => ((((f72.b0 I call j, f72.b1 I call j), (f72.b2 I call j, f72.b3 I call j)), ((f72.b4 I call j, f72.b5 I call j), (f72.b6 I call j, f72.b7 I call j))), (((f72.b8 I call j, f72.b9 I call j), (f72.b10 I call j, f72.b11 I call j)), ((f72.b12 I call j, f72.b13 I call j), (f72.b14 I call j, f72.b15 I call j))))) n
theorem f72.n0 : (f72.J I call (n + 1)).1.1.1.1 = f72.b0 I call (f72.J I call n) := nrfl
theorem f72.n1 : (f72.J I call (n + 1)).1.1.1.2 = f72.b1 I call (f72.J I call n) := nrfl
theorem f72.n2 : (f72.J I call (n + 1)).1.1.2.1 = f72.b2 I call (f72.J I call n) := nrfl
theorem f72.n3 : (f72.J I call (n + 1)).1.1.2.2 = f72.b3 I call (f72.J I call n) := nrfl
theorem f72.n4 : (f72.J I call (n + 1)).1.2.1.1 = f72.b4 I call (f72.J I call n) := nrfl
theorem f72.n5 : (f72.J I call (n + 1)).1.2.1.2 = f72.b5 I call (f72.J I call n) := nrfl
theorem f72.n6 : (f72.J I call (n + 1)).1.2.2.1 = f72.b6 I call (f72.J I call n) := nrfl
theorem f72.n7 : (f72.J I call (n + 1)).1.2.2.2 = f72.b7 I call (f72.J I call n) := nrfl
theorem f72.n8 : (f72.J I call (n + 1)).2.1.1.1 = f72.b8 I call (f72.J I call n) := nrfl
theorem f72.n9 : (f72.J I call (n + 1)).2.1.1.2 = f72.b9 I call (f72.J I call n) := nrfl
theorem f72.n10 : (f72.J I call (n + 1)).2.1.2.1 = f72.b10 I call (f72.J I call n) := nrfl
theorem f72.n11 : (f72.J I call (n + 1)).2.1.2.2 = f72.b11 I call (f72.J I call n) := nrfl
theorem f72.n12 : (f72.J I call (n + 1)).2.2.1.1 = f72.b12 I call (f72.J I call n) := nrfl
theorem f72.n13 : (f72.J I call (n + 1)).2.2.1.2 = f72.b13 I call (f72.J I call n) := nrfl
theorem f72.n14 : (f72.J I call (n + 1)).2.2.2.1 = f72.b14 I call (f72.J I call n) := nrfl
theorem f72.n15 : (f72.J I call (n + 1)).2.2.2.2 = f72.b15 I call (f72.J I call n) := nrfl
def f72.JS (I : Inp) (call : CallFn) (n : Nat) : Jmp := (fun j : f72.Js => jmp [Ap.ap j.1.1.1.1 [0, 3], Ap.ap j.1.1.1.2 [0, 3, 15, 16, 17], Ap.ap j.1.1.2.1 [0, 3, 15, 16, 17], Ap.ap j.1.1.2.2 [0, 3, 15, 16, 17], Ap.ap j.1.2.1.1 [0, 3], Ap.ap j.1.2.1.2 [0, 3, 31, 32, 33], Ap.ap j.1.2.2.1 [0, 3, 31, 32, 33], Ap.ap j.1.2.2.2 [0, 3, 31, 32, 33], Ap.ap j.2.1.1.1 [0, 3], Ap.ap j.2.1.1.2 [0, 3, 54, 55, 56], Ap.ap j.2.1.2.1 [0, 3, 54, 55, 56], Ap.ap j.2.1.2.2 [0, 3, 54, 55, 56], Ap.ap j.2.2.1.1 [3], Ap.ap j.2.2.1.2 [0, 3, 75, 76, 77], Ap.ap j.2.2.2.1 [0, 3, 75, 76, 77], Ap.ap j.2.2.2.2 [0, 3, 75, 76, 77]]) (f72.J I call n)
theorem f72.S : SFn ⟨P, I, F⟩ call c72 (f72.JS I call) := .all 16 (by kernel_rfl) (fun ρ h => by kernel_rfl) (fun n ρ h => by kernel_rfl)
theorem f72.qe : Ap.all (f72.e I call (f72.J I call n)) (fun l h => execC P I call (f72.JS I call n) c72.body 0 (finV I c72.results) (argV l) h) := fun v0 h => by kernel_rfl
theorem f72.code : codeOf P 72 = some c72 := by kernel_rfl
def f72.run (I : Inp) : SF := fun call n => Ap.ar (f72.e I call (f72.J I call n))
theorem f72.ok (I : Inp) (F : Nat → Option AFn) (hF : F 72 = some (.code c72)) : SfOk P I F 72 (f72.run I) := okOf hF (by kernel_rfl) (fun _ => f72.S) fun call n => f72.qe
theorem f72.lim (hp : prims 72 = none) {v0 : AVal} (hr : Res (f72.e I (AM.lim ⟨P, I, genF P prims⟩) (f72.J I (AM.lim ⟨P, I, genF P prims⟩) n) v0 h) Q) : Res ((AM.lim ⟨P, I, genF P prims⟩) 72 [v0] h) Q := limOf (n := n) hp f72.code (f72.ok I) hr rfl
/-! haruspex/types.in -/
def c73 : AFunc := cOf P 73
abbrev f73.Js : Type := Unit
def f73.e (I : Inp) (call : CallFn) (j : f73.Js) (v0 v1 : AVal) (h : AHeap) : Rs :=
  kB .geq v0 (Z 0) fun v6 =>
  gV v6 .true v0 h fun v8 h1 =>
  gV v6 .true v1 h1 fun v9 h2 =>
  gP v6 .true (pBin .lss v8 v9) h2 fun v10 h3 =>
  kP v6 v10 bF fun v11 =>
  some (v11, h3)
theorem f73.S : SFn ⟨P, I, F⟩ call c73 (fun _ => jmp []) := .all 0 (by kernel_rfl) (fun ρ h => by kernel_rfl) (fun n ρ h => by kernel_rfl)
theorem f73.qe : Ap.all (f73.e I call ()) (fun l h => execC P I call (jmp []) c73.body 0 (finV I c73.results) (argV l) h) := fun v0 v1 h => by kernel_rfl
theorem f73.code : codeOf P 73 = some c73 := by kernel_rfl
def f73.run (I : Inp) : SF := fun call n => Ap.ar (f73.e I call ())
theorem f73.ok (I : Inp) (F : Nat → Option AFn) (hF : F 73 = some (.code c73)) : SfOk P I F 73 (f73.run I) := okOf hF (by kernel_rfl) (fun _ => f73.S) fun call n => f73.qe
theorem f73.lim (hp : prims 73 = none) {n : Nat} {v0 v1 : AVal} (hr : Res (f73.e I (AM.lim ⟨P, I, genF P prims⟩) () v0 v1 h) Q) : Res ((AM.lim ⟨P, I, genF P prims⟩) 73 [v0, v1] h) Q := limOf (n := n) hp f73.code (f73.ok I) hr rfl
/-! haruspex/types.all -/
def c74 : AFunc := cOf P 74
abbrev f74.Js : Type := ((A0 × A4) × (A4 × A4))
def f74.b0 (I : Inp) (call : CallFn) (j : f74.Js) (h : AHeap) : Rs :=
  some (bT, h)
def f74.b1 (I : Inp) (call : CallFn) (j : f74.Js) (v0 v7 v8 v9 : AVal) (h : AHeap) : Rs :=
  kB .lss v9 v8 fun v10 =>
  sCond v10 (
  j.1.1 h) (
  j.2.1 v0 v7 v8 v9 h)
def f74.b2 (I : Inp) (call : CallFn) (j : f74.Js) (v0 v7 v8 v9 : AVal) (h : AHeap) : Rs :=
  kI 2 v7 v9 fun v11 =>
  kM I 2 v11 h fun v12 =>
  kA [(Z 0), (Z 0)] h fun v6 h1 =>
  kS 2 v6 v12 h1 fun _ h2 =>
  kM I 2 v6 h2 fun v14 =>
  kC call 112 [v0, v14] h2 fun v15 h3 =>
  kU .not v15 fun v16 =>
  sCond v16 (
  j.2.2 v0 v7 v8 v9 h3) (
  some (bF, h3))
def f74.b3 (I : Inp) (call : CallFn) (j : f74.Js) (v0 v7 v8 v9 : AVal) (h : AHeap) : Rs :=
  kB .add v9 (Z 1) fun v17 =>
  j.1.2 v0 v7 v8 v17 h
def f74.e (I : Inp) (call : CallFn) (j : f74.Js) (v0 v1 : AVal) (h : AHeap) : Rs :=
  kZ v1 fun v8 =>
  j.1.2 v0 v1 v8 (Z 0) h
def f74.J (I : Inp) (call : CallFn) (n : Nat) : f74.Js :=
  Nat.rec (motive := fun _ => f74.Js) ((Zr.z, Zr.z), (Zr.z, Zr.z)) (fun _ j => ((f74.b0 I call j, f74.b1 I call j), (f74.b2 I call j, f74.b3 I call j))) n
theorem f74.n0 : (f74.J I call (n + 1)).1.1 = f74.b0 I call (f74.J I call n) := nrfl
theorem f74.n1 : (f74.J I call (n + 1)).1.2 = f74.b1 I call (f74.J I call n) := nrfl
theorem f74.n2 : (f74.J I call (n + 1)).2.1 = f74.b2 I call (f74.J I call n) := nrfl
theorem f74.n3 : (f74.J I call (n + 1)).2.2 = f74.b3 I call (f74.J I call n) := nrfl
def f74.JS (I : Inp) (call : CallFn) (n : Nat) : Jmp := (fun j : f74.Js => jmp [Ap.ap j.1.1 [], Ap.ap j.1.2 [0, 7, 8, 9], Ap.ap j.2.1 [0, 7, 8, 9], Ap.ap j.2.2 [0, 7, 8, 9]]) (f74.J I call n)
theorem f74.S : SFn ⟨P, I, F⟩ call c74 (f74.JS I call) := .all 4 (by kernel_rfl) (fun ρ h => by kernel_rfl) (fun n ρ h => by kernel_rfl)
theorem f74.qe : Ap.all (f74.e I call (f74.J I call n)) (fun l h => execC P I call (f74.JS I call n) c74.body 0 (finV I c74.results) (argV l) h) := fun v0 v1 h => by kernel_rfl
theorem f74.code : codeOf P 74 = some c74 := by kernel_rfl
def f74.run (I : Inp) : SF := fun call n => Ap.ar (f74.e I call (f74.J I call n))
theorem f74.ok (I : Inp) (F : Nat → Option AFn) (hF : F 74 = some (.code c74)) : SfOk P I F 74 (f74.run I) := okOf hF (by kernel_rfl) (fun _ => f74.S) fun call n => f74.qe
theorem f74.lim (hp : prims 74 = none) {v0 v1 : AVal} (hr : Res (f74.e I (AM.lim ⟨P, I, genF P prims⟩) (f74.J I (AM.lim ⟨P, I, genF P prims⟩) n) v0 v1 h) Q) : Res ((AM.lim ⟨P, I, genF P prims⟩) 74 [v0, v1] h) Q := limOf (n := n) hp f74.code (f74.ok I) hr rfl
/-! haruspex/types.walk -/
def c75 : AFunc := cOf P 75
abbrev f75.Js : Type := (((A0 × A7) × (A7 × A7)) × ((A9 × (AVal → AVal → AVal → A9)) × ((AVal → AVal → AVal → A9) × (AVal → AVal → AVal → A9))))
def f75.b0 (I : Inp) (call : CallFn) (j : f75.Js) (h : AHeap) : Rs :=
  some (.nili, h)
def f75.b1 (I : Inp) (call : CallFn) (j : f75.Js) (v1 v2 v3 v4 v22 v23 v24 : AVal) (h : AHeap) : Rs :=
  kB .lss v24 v23 fun v25 =>
  sCond v25 (
  j.1.1.1 h) (
  j.1.2.1 v1 v2 v3 v4 v22 v23 v24 h)
def f75.b2 (I : Inp) (call : CallFn) (j : f75.Js) (v1 v2 v3 v4 v22 v23 v24 : AVal) (h : AHeap) : Rs :=
  kI 5 v22 v24 fun v27 =>
  kM I 5 v27 h fun v28 =>
  kA [.nils, (Z 0), (Z 0), (Z 0), (Z 0)] h fun v12 h1 =>
  kS 5 v12 v28 h1 fun _ h2 =>
  kF 0 v12 fun v29 =>
  kL I v29 h2 fun v30 =>
  kZ v30 fun v31 =>
  j.2.1.2 v1 v2 v3 v4 v24 v12 v22 v23 v24 v30 v31 (Z 0) h2
def f75.b3 (I : Inp) (call : CallFn) (j : f75.Js) (v1 v2 v3 v4 v22 v23 v24 : AVal) (h : AHeap) : Rs :=
  kB .add v24 (Z 1) fun v62 =>
  j.1.1.2 v1 v2 v3 v4 v22 v23 v62 h
def f75.b4 (I : Inp) (call : CallFn) (j : f75.Js) (v1 v2 v3 v4 v11 v12 v22 v23 v24 : AVal) (h : AHeap) : Rs :=
  kM I 5 v12 h fun v51 =>
  bnd (sCallv call v4 [v2, v51] h) fun v52 h1 =>
  kU .not v52 fun v53 =>
  sCond v53 (
  j.1.2.2 v1 v2 v3 v4 v22 v23 v24 h1) (
  kF 0 v12 fun v57 =>
  kL I v57 h1 fun v58 =>
  kZ v58 fun v59 =>
  bndP (pBuild [(Z 0), (Z 0), (Z 0)] [(0, 1, v2), (1, 1, v11), (2, 1, v59)]) fun v60 =>
  kC call 30 [v1, v60, .nili] h1 fun v61 h2 =>
  some (v61, h2))
def f75.b5 (I : Inp) (call : CallFn) (j : f75.Js) (v1 v2 v3 v4 v11 v12 v22 v23 v24 v30 v31 v32 : AVal) (h : AHeap) : Rs :=
  kB .lss v32 v31 fun v33 =>
  sCond v33 (
  j.2.1.1 v1 v2 v3 v4 v11 v12 v22 v23 v24 h) (
  j.2.2.1 v1 v2 v3 v4 v11 v12 v22 v23 v24 v30 v31 v32 h)
def f75.b6 (I : Inp) (call : CallFn) (j : f75.Js) (v1 v2 v3 v4 v11 v12 v22 v23 v24 v30 v31 v32 : AVal) (h : AHeap) : Rs :=
  kI 6 v30 v32 fun v35 =>
  kM I 6 v35 h fun v36 =>
  kA [(Z 0), (Z 0), (Z 0), (Z 0), (Z 0), .nils] h fun v14 h1 =>
  kS 6 v14 v36 h1 fun _ h2 =>
  kM I 6 v14 h2 fun v39 =>
  bnd (sCallv call v3 [v2, v39] h2) fun v40 h3 =>
  kU .not v40 fun v41 =>
  sCond v41 (
  j.2.2.2 v1 v2 v3 v4 v11 v12 v22 v23 v24 v30 v31 v32 h3) (
  bndP (pBuild [(Z 0), (Z 0), (Z 0)] [(0, 1, v2), (1, 1, v11), (2, 1, v32)]) fun v46 =>
  kC call 30 [v1, v46, .nili] h3 fun v47 h4 =>
  some (v47, h4))
def f75.b7 (I : Inp) (call : CallFn) (j : f75.Js) (v1 v2 v3 v4 v11 v12 v22 v23 v24 v30 v31 v32 : AVal) (h : AHeap) : Rs :=
  kB .add v32 (Z 1) fun v48 =>
  j.2.1.2 v1 v2 v3 v4 v11 v12 v22 v23 v24 v30 v31 v48 h
def f75.e (I : Inp) (call : CallFn) (j : f75.Js) (v0 v1 v2 v3 v4 : AVal) (h : AHeap) : Rs :=
  kN v0 fun v16 =>
  kF 4 v16 fun v17 =>
  kL I v17 h fun v18 =>
  kI 3 v18 v2 fun v20 =>
  kF 2 v20 fun v21 =>
  kL I v21 h fun v22 =>
  kZ v22 fun v23 =>
  j.1.1.2 v1 v2 v3 v4 v22 v23 (Z 0) h
def f75.J (I : Inp) (call : CallFn) (n : Nat) : f75.Js :=
  Nat.rec (motive := fun _ => f75.Js) (((Zr.z, Zr.z), (Zr.z, Zr.z)), ((Zr.z, Zr.z), (Zr.z, Zr.z))) (fun _ j => (((f75.b0 I call j, f75.b1 I call j), (f75.b2 I call j, f75.b3 I call j)), ((f75.b4 I call j, f75.b5 I call j), (f75.b6 I call j, f75.b7 I call j)))) n
theorem f75.n0 : (f75.J I call (n + 1)).1.1.1 = f75.b0 I call (f75.J I call n) := nrfl
theorem f75.n1 : (f75.J I call (n + 1)).1.1.2 = f75.b1 I call (f75.J I call n) := nrfl
theorem f75.n2 : (f75.J I call (n + 1)).1.2.1 = f75.b2 I call (f75.J I call n) := nrfl
theorem f75.n3 : (f75.J I call (n + 1)).1.2.2 = f75.b3 I call (f75.J I call n) := nrfl
theorem f75.n4 : (f75.J I call (n + 1)).2.1.1 = f75.b4 I call (f75.J I call n) := nrfl
theorem f75.n5 : (f75.J I call (n + 1)).2.1.2 = f75.b5 I call (f75.J I call n) := nrfl
theorem f75.n6 : (f75.J I call (n + 1)).2.2.1 = f75.b6 I call (f75.J I call n) := nrfl
theorem f75.n7 : (f75.J I call (n + 1)).2.2.2 = f75.b7 I call (f75.J I call n) := nrfl
def f75.JS (I : Inp) (call : CallFn) (n : Nat) : Jmp := (fun j : f75.Js => jmp [Ap.ap j.1.1.1 [], Ap.ap j.1.1.2 [1, 2, 3, 4, 22, 23, 24], Ap.ap j.1.2.1 [1, 2, 3, 4, 22, 23, 24], Ap.ap j.1.2.2 [1, 2, 3, 4, 22, 23, 24], Ap.ap j.2.1.1 [1, 2, 3, 4, 11, 12, 22, 23, 24], Ap.ap j.2.1.2 [1, 2, 3, 4, 11, 12, 22, 23, 24, 30, 31, 32], Ap.ap j.2.2.1 [1, 2, 3, 4, 11, 12, 22, 23, 24, 30, 31, 32], Ap.ap j.2.2.2 [1, 2, 3, 4, 11, 12, 22, 23, 24, 30, 31, 32]]) (f75.J I call n)
theorem f75.S : SFn ⟨P, I, F⟩ call c75 (f75.JS I call) := .all 8 (by kernel_rfl) (fun ρ h => by kernel_rfl) (fun n ρ h => by kernel_rfl)
theorem f75.qe : Ap.all (f75.e I call (f75.J I call n)) (fun l h => execC P I call (f75.JS I call n) c75.body 0 (finV I c75.results) (argV l) h) := fun v0 v1 v2 v3 v4 h => by kernel_rfl
theorem f75.code : codeOf P 75 = some c75 := by kernel_rfl
def f75.run (I : Inp) : SF := fun call n => Ap.ar (f75.e I call (f75.J I call n))
theorem f75.ok (I : Inp) (F : Nat → Option AFn) (hF : F 75 = some (.code c75)) : SfOk P I F 75 (f75.run I) := okOf hF (by kernel_rfl) (fun _ => f75.S) fun call n => f75.qe
theorem f75.lim (hp : prims 75 = none) {v0 v1 v2 v3 v4 : AVal} (hr : Res (f75.e I (AM.lim ⟨P, I, genF P prims⟩) (f75.J I (AM.lim ⟨P, I, genF P prims⟩) n) v0 v1 v2 v3 v4 h) Q) : Res ((AM.lim ⟨P, I, genF P prims⟩) 75 [v0, v1, v2, v3, v4] h) Q := limOf (n := n) hp f75.code (f75.ok I) hr rfl
/-! haruspex/types.Names$1 -/
def c76 : AFunc := cOf P 76
abbrev f76.Js : Type := Unit
def f76.e (I : Inp) (call : CallFn) (j : f76.Js) (v0 v1 v2 v3 : AVal) (h : AHeap) : Rs :=
  bnd (sBox v1 h) fun v5 h1 =>
  kL I v2 h1 fun v7 =>
  kM I 3 v3 h1 fun v8 =>
  kM I 6 v5 h1 fun v9 =>
  kC call 77 [v7, v8, v9] h1 fun v10 h2 =>
  some (v10, h2)
theorem f76.S : SFn ⟨P, I, F⟩ call c76 (fun _ => jmp []) := .all 0 (by kernel_rfl) (fun ρ h => by kernel_rfl) (fun n ρ h => by kernel_rfl)
theorem f76.qe : Ap.all (f76.e I call ()) (fun l h => execC P I call (jmp []) c76.body 0 (finV I c76.results) (argV l) h) := fun v0 v1 v2 v3 h => by kernel_rfl
theorem f76.code : codeOf P 76 = some c76 := by kernel_rfl
def f76.run (I : Inp) : SF := fun call n => Ap.ar (f76.e I call ())
theorem f76.ok (I : Inp) (F : Nat → Option AFn) (hF : F 76 = some (.code c76)) : SfOk P I F 76 (f76.run I) := okOf hF (by kernel_rfl) (fun _ => f76.S) fun call n => f76.qe
theorem f76.lim (hp : prims 76 = none) {n : Nat} {v0 v1 v2 v3 : AVal} (hr : Res (f76.e I (AM.lim ⟨P, I, genF P prims⟩) () v0 v1 v2 v3 h) Q) : Res ((AM.lim ⟨P, I, genF P prims⟩) 76 [v0, v1, v2, v3] h) Q := limOf (n := n) hp f76.code (f76.ok I) hr rfl
/-! haruspex/types.instr -/
def c77 : AFunc := cOf P 77
abbrev f77.Js : Type := ((A3 × A0) × (A5 × A5))
def f77.b0 (I : Inp) (call : CallFn) (j : f77.Js) (v0 v4 v5 : AVal) (h : AHeap) : Rs :=
  kF 0 v5 fun v78 =>
  kL I v78 h fun v79 =>
  kB .eql v79 (Z 10) fun v81 =>
  sCond v81 (
  kB .eql v79 (Z 12) fun v82 =>
  j.2.1 v0 v4 v5 v79 v82 h) (
  j.2.1 v0 v4 v5 v79 v81 h)
def f77.b1 (I : Inp) (call : CallFn) (j : f77.Js) (h : AHeap) : Rs :=
  some (bT, h)
def f77.b2 (I : Inp) (call : CallFn) (j : f77.Js) (v0 v4 v5 v79 v80 : AVal) (h : AHeap) : Rs :=
  sCond v80 (
  kB .eql v79 (Z 7) fun v92 =>
  sCond v92 (
  kB .eql v79 (Z 8) fun v93 =>
  j.2.2 v0 v4 v5 v79 v93 h) (
  j.2.2 v0 v4 v5 v79 v92 h)) (
  kF 4 v5 fun v83 =>
  kL I v83 h fun v84 =>
  kN v0 fun v86 =>
  kF 4 v86 fun v87 =>
  kL I v87 h fun v88 =>
  kZ v88 fun v89 =>
  kC call 73 [v84, v89] h fun v90 h1 =>
  some (v90, h1))
def f77.b3 (I : Inp) (call : CallFn) (j : f77.Js) (v0 v4 v5 v79 v91 : AVal) (h : AHeap) : Rs :=
  sCond v91 (
  kB .eql v79 (Z 14) fun v122 =>
  sCond v122 (
  j.1.2 h) (
  kF 1 v4 fun v123 =>
  kL I v123 h fun v124 =>
  kF 2 v5 fun v125 =>
  kL I v125 h fun v126 =>
  kI 2 v124 v126 fun v127 =>
  kF 0 v127 fun v128 =>
  kL I v128 h fun v129 =>
  kB .neq v129 (Z 3) fun v130 =>
  gP v130 .false (pFieldAddr 4 v5) h fun v132 h1 =>
  gP v130 .false (pLoad1 I v132 h1) h1 fun v133 h2 =>
  gV v130 .false v0 h2 fun v134 h3 =>
  gP v130 .false (pNilCheck v134) h3 fun v135 h4 =>
  gP v130 .false (pFieldAddr 2 v135) h4 fun v136 h5 =>
  gP v130 .false (pLoad1 I v136 h5) h5 fun v137 h6 =>
  gP v130 .false (pFieldAddr 1 v4) h6 fun v138 h7 =>
  gP v130 .false (pLoad1 I v138 h7) h7 fun v139 h8 =>
  gP v130 .false (pFieldAddr 2 v5) h8 fun v140 h9 =>
  gP v130 .false (pLoad1 I v140 h9) h9 fun v141 h10 =>
  gP v130 .false (pIndexAddr 2 v139 v141) h10 fun v142 h11 =>
  gP v130 .false (pFieldAddr 1 v142) h11 fun v143 h12 =>
  gP v130 .false (pLoad1 I v143 h12) h12 fun v144 h13 =>
  gP v130 .false (pIndexAddr 1 v137 v144) h13 fun v145 h14 =>
  gP v130 .false (pFieldAddr 0 v145) h14 fun v146 h15 =>
  gP v130 .false (pLoad1 I v146 h15) h15 fun v147 h16 =>
  gP v130 .false (pLenSl v147) h16 fun v148 h17 =>
  gS v130 .false (call 73 [v133, v148] h17) h17 fun v149 h18 =>
  kP v130 bT v149 fun v150 =>
  some (v150, h18))) (
  kF 1 v4 fun v94 =>
  kL I v94 h fun v95 =>
  kF 2 v5 fun v96 =>
  kL I v96 h fun v97 =>
  kI 2 v95 v97 fun v98 =>
  kF 0 v98 fun v99 =>
  kL I v99 h fun v100 =>
  kB .neq v100 (Z 1) fun v101 =>
  gP v101 .false (pFieldAddr 4 v5) h fun v103 h19 =>
  gP v101 .false (pLoad1 I v103 h19) h19 fun v104 h20 =>
  gV v101 .false v0 h20 fun v105 h21 =>
  gP v101 .false (pNilCheck v105) h21 fun v106 h22 =>
  gP v101 .false (pFieldAddr 0 v106) h22 fun v107 h23 =>
  gP v101 .false (pLoad1 I v107 h23) h23 fun v108 h24 =>
  gP v101 .false (pFieldAddr 1 v4) h24 fun v109 h25 =>
  gP v101 .false (pLoad1 I v109 h25) h25 fun v110 h26 =>
  gP v101 .false (pFieldAddr 2 v5) h26 fun v111 h27 =>
  gP v101 .false (pLoad1 I v111 h27) h27 fun v112 h28 =>
  gP v101 .false (pIndexAddr 2 v110 v112) h28 fun v113 h29 =>
  gP v101 .false (pFieldAddr 1 v113) h29 fun v114 h30 =>
  gP v101 .false (pLoad1 I v114 h30) h30 fun v115 h31 =>
  gP v101 .false (pIndexAddr 1 v108 v115) h31 fun v116 h32 =>
  gP v101 .false (pLoad1 I v116 h32) h32 fun v117 h33 =>
  gP v101 .false (pLenSl v117) h33 fun v118 h34 =>
  gS v101 .false (call 73 [v104, v118] h34) h34 fun v119 h35 =>
  kP v101 bT v119 fun v120 =>
  some (v120, h35))
def f77.e (I : Inp) (call : CallFn) (j : f77.Js) (v0 v1 v2 : AVal) (h : AHeap) : Rs :=
  bnd (sBox v1 h) fun v4 h1 =>
  bnd (sBox v2 h1) fun v5 h2 =>
  kM I 6 v5 h2 fun v15 =>
  kC call 114 [v15] h2 fun v16 h3 =>
  kX v16 0 fun v17 =>
  kX v16 1 fun v18 =>
  kX v16 2 fun v19 =>
  kX v16 3 fun v20 =>
  kX v16 4 fun v21 =>
  kX v16 5 fun v22 =>
  kF 1 v4 fun v23 =>
  kL I v23 h3 fun v24 =>
  kZ v24 fun v25 =>
  kU .not v22 fun v27 =>
  gV v27 .false v17 h3 fun v29 h4 =>
  gP v27 .false (pFieldAddr 1 v5) h4 fun v30 h5 =>
  gP v27 .false (pLoad1 I v30 h5) h5 fun v31 h6 =>
  gV v27 .false v25 h6 fun v32 h7 =>
  gS v27 .false (call 115 [v29, v31, v32] h7) h7 fun v33 h8 =>
  gP v27 .false (pUn .not v33) h8 fun v34 h9 =>
  kP v27 bT v34 fun v35 =>
  gV v35 .false v18 h9 fun v37 h10 =>
  gP v35 .false (pFieldAddr 2 v5) h10 fun v38 h11 =>
  gP v35 .false (pLoad1 I v38 h11) h11 fun v39 h12 =>
  gV v35 .false v25 h12 fun v40 h13 =>
  gS v35 .false (call 115 [v37, v39, v40] h13) h13 fun v41 h14 =>
  gP v35 .false (pUn .not v41) h14 fun v42 h15 =>
  kP v35 bT v42 fun v43 =>
  gV v43 .false v19 h15 fun v45 h16 =>
  gP v43 .false (pFieldAddr 3 v5) h16 fun v46 h17 =>
  gP v43 .false (pLoad1 I v46 h17) h17 fun v47 h18 =>
  gV v43 .false v25 h18 fun v48 h19 =>
  gS v43 .false (call 115 [v45, v47, v48] h19) h19 fun v49 h20 =>
  gP v43 .false (pUn .not v49) h20 fun v50 h21 =>
  kP v43 bT v50 fun v51 =>
  gV v51 .false v20 h21 fun v53 h22 =>
  gP v51 .false (pUn .not v53) h22 fun v54 h23 =>
  gV v51 .false v54 h23 fun v55 h24 =>
  gP v55 .true (pFieldAddr 4 v5) h24 fun v56 h25 =>
  gP v55 .true (pLoad1 I v56 h25) h25 fun v57 h26 =>
  gP v55 .true (pBin .neq v57 (Z 0)) h26 fun v58 h27 =>
  gP v51 .false (pPick v55 v58 bF) h27 fun v59 h28 =>
  kP v51 bT v59 fun v60 =>
  gV v60 .false v21 h28 fun v62 h29 =>
  gP v60 .false (pUn .not v62) h29 fun v63 h30 =>
  gV v60 .false v63 h30 fun v64 h31 =>
  gP v64 .true (pFieldAddr 5 v5) h31 fun v65 h32 =>
  gP v64 .true (pLoad1 I v65 h32) h32 fun v66 h33 =>
  gP v64 .true (pLenSl v66) h33 fun v67 h34 =>
  gP v64 .true (pBin .gtr v67 (Z 0)) h34 fun v68 h35 =>
  gP v60 .false (pPick v64 v68 bF) h35 fun v69 h36 =>
  kP v60 bT v69 fun v70 =>
  gP v70 .false (pFieldAddr 5 v5) h36 fun v72 h37 =>
  gP v70 .false (pLoad1 I v72 h37) h37 fun v73 h38 =>
  gV v70 .false v25 h38 fun v74 h39 =>
  gS v70 .false (call 113 [v73, v74] h39) h39 fun v75 h40 =>
  gP v70 .false (pUn .not v75) h40 fun v76 h41 =>
  kP v70 bT v76 fun v77 =>
  sCond v77 (
  j.1.1 v0 v4 v5 h41) (
  some (bF, h41))
def f77.J (I : Inp) (call : CallFn) (n : Nat) : f77.Js :=
  Nat.rec (motive := fun _ => f77.Js) ((Zr.z, Zr.z), (Zr.z, Zr.z)) (fun _ j => ((f77.b0 I call j, f77.b1 I call j), (f77.b2 I call j, f77.b3 I call j))) n
theorem f77.n0 : (f77.J I call (n + 1)).1.1 = f77.b0 I call (f77.J I call n) := nrfl
theorem f77.n1 : (f77.J I call (n + 1)).1.2 = f77.b1 I call (f77.J I call n) := nrfl
theorem f77.n2 : (f77.J I call (n + 1)).2.1 = f77.b2 I call (f77.J I call n) := nrfl
theorem f77.n3 : (f77.J I call (n + 1)).2.2 = f77.b3 I call (f77.J I call n) := nrfl
def f77.JS (I : Inp) (call : CallFn) (n : Nat) : Jmp := (fun j : f77.Js => jmp [Ap.ap j.1.1 [0, 4, 5], Ap.ap j.1.2 [], Ap.ap j.2.1 [0, 4, 5, 79, 80], Ap.ap j.2.2 [0, 4, 5, 79, 91]]) (f77.J I call n)
theorem f77.S : SFn ⟨P, I, F⟩ call c77 (f77.JS I call) := .all 4 (by kernel_rfl) (fun ρ h => by kernel_rfl) (fun n ρ h => by kernel_rfl)
theorem f77.qe : Ap.all (f77.e I call (f77.J I call n)) (fun l h => execC P I call (f77.JS I call n) c77.body 0 (finV I c77.results) (argV l) h) := fun v0 v1 v2 h => by kernel_rfl
theorem f77.code : codeOf P 77 = some c77 := by kernel_rfl
def f77.run (I : Inp) : SF := fun call n => Ap.ar (f77.e I call (f77.J I call n))
theorem f77.ok (I : Inp) (F : Nat → Option AFn) (hF : F 77 = some (.code c77)) : SfOk P I F 77 (f77.run I) := okOf hF (by kernel_rfl) (fun _ => f77.S) fun call n => f77.qe
theorem f77.lim (hp : prims 77 = none) {v0 v1 v2 : AVal} (hr : Res (f77.e I (AM.lim ⟨P, I, genF P prims⟩) (f77.J I (AM.lim ⟨P, I, genF P prims⟩) n) v0 v1 v2 h) Q) : Res ((AM.lim ⟨P, I, genF P prims⟩) 77 [v0, v1, v2] h) Q := limOf (n := n) hp f77.code (f77.ok I) hr rfl
/-! haruspex/types.Names$2 -/
def c78 : AFunc := cOf P 78
abbrev f78.Js : Type := Unit
def f78.e (I : Inp) (call : CallFn) (j : f78.Js) (v0 v1 v2 : AVal) (h : AHeap) : Rs :=
  bnd (sBox v1 h) fun v4 h1 =>
  kM I 3 v2 h1 fun v6 =>
  kM I 5 v4 h1 fun v7 =>
  kC call 79 [v6, v7] h1 fun v8 h2 =>
  some (v8, h2)
theorem f78.S : SFn ⟨P, I, F⟩ call c78 (fun _ => jmp []) := .all 0 (by kernel_rfl) (fun ρ h => by kernel_rfl) (fun n ρ h => by kernel_rfl)
theorem f78.qe : Ap.all (f78.e I call ()) (fun l h => execC P I call (jmp []) c78.body 0 (finV I c78.results) (argV l) h) := fun v0 v1 v2 h => by kernel_rfl
theorem f78.code : codeOf P 78 = some c78 := by kernel_rfl
def f78.run (I : Inp) : SF := fun call n => Ap.ar (f78.e I call ())
theorem f78.ok (I : Inp) (F : Nat → Option AFn) (hF : F 78 = some (.code c78)) : SfOk P I F 78 (f78.run I) := okOf hF (by kernel_rfl) (fun _ => f78.S) fun call n => f78.qe
theorem f78.lim (hp : prims 78 = none) {n : Nat} {v0 v1 v2 : AVal} (hr : Res (f78.e I (AM.lim ⟨P, I, genF P prims⟩) () v0 v1 v2 h) Q) : Res ((AM.lim ⟨P, I, genF P prims⟩) 78 [v0, v1, v2] h) Q := limOf (n := n) hp f78.code (f78.ok I) hr rfl
/-! haruspex/types.end -/
def c79 : AFunc := cOf P 79
abbrev f79.Js : Type := A0
def f79.b0 (I : Inp) (call : CallFn) (j : f79.Js) (h : AHeap) : Rs :=
  some (bF, h)
def f79.e (I : Inp) (call : CallFn) (j : f79.Js) (v0 v1 : AVal) (h : AHeap) : Rs :=
  bnd (sBox v0 h) fun v2 h1 =>
  bnd (sBox v1 h1) fun v3 h2 =>
  kF 2 v2 fun v6 =>
  kL I v6 h2 fun v7 =>
  kZ v7 fun v8 =>
  kF 1 v3 fun v9 =>
  kL I v9 h2 fun v10 =>
  kB .eql v10 (Z 1) fun v12 =>
  sCond v12 (
  kB .eql v10 (Z 2) fun v28 =>
  sCond v28 (
  kB .eql v10 (Z 3) fun v48 =>
  sCond v48 (
  j h2) (
  kF 2 v3 fun v49 =>
  kL I v49 h2 fun v50 =>
  kF 1 v2 fun v51 =>
  kL I v51 h2 fun v52 =>
  kZ v52 fun v53 =>
  kC call 73 [v50, v53] h2 fun v54 h3 =>
  gP v54 .true (pFieldAddr 3 v3) h3 fun v56 h4 =>
  gP v54 .true (pLoad1 I v56 h4) h4 fun v57 h5 =>
  gP v54 .true (pBin .eql v57 (Z 0)) h5 fun v58 h6 =>
  kP v54 v58 bF fun v59 =>
  gP v59 .true (pFieldAddr 4 v3) h6 fun v61 h7 =>
  gP v59 .true (pLoad1 I v61 h7) h7 fun v62 h8 =>
  gP v59 .true (pBin .eql v62 (Z 0)) h8 fun v63 h9 =>
  kP v59 v63 bF fun v64 =>
  some (v64, h9))) (
  kF 2 v3 fun v29 =>
  kL I v29 h2 fun v30 =>
  kF 1 v2 fun v31 =>
  kL I v31 h2 fun v32 =>
  kZ v32 fun v33 =>
  kC call 73 [v30, v33] h2 fun v34 h10 =>
  gP v34 .true (pFieldAddr 3 v3) h10 fun v36 h11 =>
  gP v34 .true (pLoad1 I v36 h11) h11 fun v37 h12 =>
  gV v34 .true v8 h12 fun v38 h13 =>
  gS v34 .true (call 73 [v37, v38] h13) h13 fun v39 h14 =>
  kP v34 v39 bF fun v40 =>
  gP v40 .true (pFieldAddr 4 v3) h14 fun v42 h15 =>
  gP v40 .true (pLoad1 I v42 h15) h15 fun v43 h16 =>
  gV v40 .true v8 h16 fun v44 h17 =>
  gS v40 .true (call 73 [v43, v44] h17) h17 fun v45 h18 =>
  kP v40 v45 bF fun v46 =>
  some (v46, h18))) (
  kF 2 v3 fun v13 =>
  kL I v13 h2 fun v14 =>
  kB .eql v14 (Z 0) fun v15 =>
  gP v15 .true (pFieldAddr 3 v3) h2 fun v17 h19 =>
  gP v15 .true (pLoad1 I v17 h19) h19 fun v18 h20 =>
  gV v15 .true v8 h20 fun v19 h21 =>
  gS v15 .true (call 73 [v18, v19] h21) h21 fun v20 h22 =>
  kP v15 v20 bF fun v21 =>
  gP v21 .true (pFieldAddr 4 v3) h22 fun v23 h23 =>
  gP v21 .true (pLoad1 I v23 h23) h23 fun v24 h24 =>
  gP v21 .true (pBin .eql v24 (Z 0)) h24 fun v25 h25 =>
  kP v21 v25 bF fun v26 =>
  some (v26, h25))
def f79.J (I : Inp) (call : CallFn) (n : Nat) : f79.Js :=
  Nat.rec (motive := fun _ => f79.Js) Zr.z (fun _ j => f79.b0 I call j) n
theorem f79.n0 : (f79.J I call (n + 1)) = f79.b0 I call (f79.J I call n) := nrfl
def f79.JS (I : Inp) (call : CallFn) (n : Nat) : Jmp := (fun j : f79.Js => jmp [Ap.ap j []]) (f79.J I call n)
theorem f79.S : SFn ⟨P, I, F⟩ call c79 (f79.JS I call) := .all 1 (by kernel_rfl) (fun ρ h => by kernel_rfl) (fun n ρ h => by kernel_rfl)
theorem f79.qe : Ap.all (f79.e I call (f79.J I call n)) (fun l h => execC P I call (f79.JS I call n) c79.body 0 (finV I c79.results) (argV l) h) := fun v0 v1 h => by kernel_rfl
theorem f79.code : codeOf P 79 = some c79 := by kernel_rfl
def f79.run (I : Inp) : SF := fun call n => Ap.ar (f79.e I call (f79.J I call n))
theorem f79.ok (I : Inp) (F : Nat → Option AFn) (hF : F 79 = some (.code c79)) : SfOk P I F 79 (f79.run I) := okOf hF (by kernel_rfl) (fun _ => f79.S) fun call n => f79.qe
theorem f79.lim (hp : prims 79 = none) {v0 v1 : AVal} (hr : Res (f79.e I (AM.lim ⟨P, I, genF P prims⟩) (f79.J I (AM.lim ⟨P, I, genF P prims⟩) n) v0 v1 h) Q) : Res ((AM.lim ⟨P, I, genF P prims⟩) 79 [v0, v1] h) Q := limOf (n := n) hp f79.code (f79.ok I) hr rfl
/-! haruspex/types.params -/
def c80 : AFunc := cOf P 80
abbrev f80.Js : Type := Unit
def f80.e (I : Inp) (call : CallFn) (j : f80.Js) (v0 v1 : AVal) (h : AHeap) : Rs :=
  bnd (sBox v1 h) fun v3 h1 =>
  kN v0 fun v7 =>
  kF 1 v7 fun v8 =>
  kL I v8 h1 fun v9 =>
  kF 0 v3 fun v10 =>
  kL I v10 h1 fun v11 =>
  kI 3 v9 v11 fun v12 =>
  kF 0 v12 fun v13 =>
  kL I v13 h1 fun v14 =>
  kF 1 v3 fun v15 =>
  kL I v15 h1 fun v16 =>
  kZ v16 fun v17 =>
  kZ v14 fun v19 =>
  kB .geq v17 v19 fun v20 =>
  gP v20 .true (pFieldAddr 1 v3) h1 fun v22 h2 =>
  gP v20 .true (pLoad1 I v22 h2) h2 fun v23 h3 =>
  gV v20 .true v14 h3 fun v24 h4 =>
  gP v20 .true (pLenSl v24) h4 fun v25 h5 =>
  gP v20 .true (pSliceS 2 v23 none (some v25) none) h5 fun v26 h6 =>
  gV v20 .true v14 h6 fun v27 h7 =>
  gS v20 .true (call 55 [v26, v27] h7) h7 fun v28 h8 =>
  kP v20 v28 bF fun v29 =>
  some (v29, h8)
theorem f80.S : SFn ⟨P, I, F⟩ call c80 (fun _ => jmp []) := .all 0 (by kernel_rfl) (fun ρ h => by kernel_rfl) (fun n ρ h => by kernel_rfl)
theorem f80.qe : Ap.all (f80.e I call ()) (fun l h => execC P I call (jmp []) c80.body 0 (finV I c80.results) (argV l) h) := fun v0 v1 h => by kernel_rfl
theorem f80.code : codeOf P 80 = some c80 := by kernel_rfl
def f80.run (I : Inp) : SF := fun call n => Ap.ar (f80.e I call ())
theorem f80.ok (I : Inp) (F : Nat → Option AFn) (hF : F 80 = some (.code c80)) : SfOk P I F 80 (f80.run I) := okOf hF (by kernel_rfl) (fun _ => f80.S) fun call n => f80.qe
theorem f80.lim (hp : prims 80 = none) {n : Nat} {v0 v1 : AVal} (hr : Res (f80.e I (AM.lim ⟨P, I, genF P prims⟩) () v0 v1 h) Q) : Res ((AM.lim ⟨P, I, genF P prims⟩) 80 [v0, v1] h) Q := limOf (n := n) hp f80.code (f80.ok I) hr rfl
/-! haruspex/types.Check$1 -/
def c81 : AFunc := cOf P 81
abbrev f81.Js : Type := Unit
def f81.e (I : Inp) (call : CallFn) (j : f81.Js) (v0 v1 v2 : AVal) (h : AHeap) : Rs :=
  bnd (sBox v1 h) fun v4 h1 =>
  kL I v2 h1 fun v6 =>
  kM I 6 v4 h1 fun v8 =>
  kC call 82 [v6, v0, v8] h1 fun v9 h2 =>
  some (v9, h2)
theorem f81.S : SFn ⟨P, I, F⟩ call c81 (fun _ => jmp []) := .all 0 (by kernel_rfl) (fun ρ h => by kernel_rfl) (fun n ρ h => by kernel_rfl)
theorem f81.qe : Ap.all (f81.e I call ()) (fun l h => execC P I call (jmp []) c81.body 0 (finV I c81.results) (argV l) h) := fun v0 v1 v2 h => by kernel_rfl
theorem f81.code : codeOf P 81 = some c81 := by kernel_rfl
def f81.run (I : Inp) : SF := fun call n => Ap.ar (f81.e I call ())
theorem f81.ok (I : Inp) (F : Nat → Option AFn) (hF : F 81 = some (.code c81)) : SfOk P I F 81 (f81.run I) := okOf hF (by kernel_rfl) (fun _ => f81.S) fun call n => f81.qe
/-! haruspex/types.Fits -/
def c82 : AFunc := cOf P 82
abbrev f82.Js : Type := (((((A3 × A3) × (A2 × A4)) × ((A3 × A2) × (A4 × A4))) × (((A2 × A2) × (A2 × A2)) × ((A2 × A3) × (A5 × (A5 × A6))))) × ((((A5 × A5) × (A5 × A5)) × ((A5 × A5) × (A5 × (A5 × A3)))) × (((A3 × A3) × (A3 × A3)) × ((A3 × A3) × (A3 × (A3 × A3))))))
def f82.b0 (I : Inp) (call : CallFn) (j : f82.Js) (v0 v1 v5 : AVal) (h : AHeap) : Rs :=
  kN v0 fun v55 =>
  kF 4 v55 fun v56 =>
  kL I v56 h fun v57 =>
  kI 3 v57 v1 fun v59 =>
  kF 1 v59 fun v60 =>
  kL I v60 h fun v61 =>
  kA [.nils] h fun v7 h1 =>
  kS 1 v7 v61 h1 fun _ h2 =>
  kF 0 v5 fun v63 =>
  kL I v63 h2 fun v64 =>
  kB .eql v64 (Z 2) fun v66 =>
  sCond v66 (
  j.1.2.2.2.1 v0 v5 v7 (.func (.func 116) [] [v7]) v64 h2) (
  j.1.2.2.1.1 v5 (.func (.func 116) [] [v7]) h2)
def f82.b1 (I : Inp) (call : CallFn) (j : f82.Js) (v0 v5 v7 : AVal) (h : AHeap) : Rs :=
  kL I v7 h fun v242 =>
  kM I 6 v5 h fun v243 =>
  kC call 118 [v0, v242, v243] h fun v244 h1 =>
  some (v244, h1)
def f82.b2 (I : Inp) (call : CallFn) (j : f82.Js) (v5 v8 : AVal) (h : AHeap) : Rs :=
  kF 2 v5 fun v237 =>
  kL I v237 h fun v238 =>
  bnd (sCallv call v8 [v238] h) fun v239 h1 =>
  kB .eql v239 (Z 0) fun v240 =>
  some (v240, h1)
def f82.b3 (I : Inp) (call : CallFn) (j : f82.Js) (v0 v5 v7 v8 : AVal) (h : AHeap) : Rs :=
  kF 1 v5 fun v208 =>
  kL I v208 h fun v209 =>
  bnd (sCallv call v8 [v209] h) fun v210 h1 =>
  kB .eql v210 (Z 3) fun v211 =>
  gV v211 .true v8 h1 fun v213 h2 =>
  gP v211 .true (pFieldAddr 2 v5) h2 fun v214 h3 =>
  gP v211 .true (pLoad1 I v214 h3) h3 fun v215 h4 =>
  gS v211 .true (sCallv call v213 [v215] h4) h4 fun v216 h5 =>
  gP v211 .true (pBin .eql v216 (Z 1)) h5 fun v217 h6 =>
  kP v211 v217 bF fun v218 =>
  gV v218 .true v0 h6 fun v220 h7 =>
  gP v218 .true (pLoad1 I v7 h7) h7 fun v221 h8 =>
  gP v218 .true (pFieldAddr 2 v5) h8 fun v222 h9 =>
  gP v218 .true (pLoad1 I v222 h9) h9 fun v223 h10 =>
  gP v218 .true (pIndexAddr 2 v221 v223) h10 fun v224 h11 =>
  gP v218 .true (pFieldAddr 1 v224) h11 fun v225 h12 =>
  gP v218 .true (pLoad1 I v225 h12) h12 fun v226 h13 =>
  gP v218 .true (pLoad1 I v7 h13) h13 fun v227 h14 =>
  gP v218 .true (pFieldAddr 1 v5) h14 fun v228 h15 =>
  gP v218 .true (pLoad1 I v228 h15) h15 fun v229 h16 =>
  gP v218 .true (pIndexAddr 2 v227 v229) h16 fun v230 h17 =>
  gP v218 .true (pFieldAddr 1 v230) h17 fun v231 h18 =>
  gP v218 .true (pLoad1 I v231 h18) h18 fun v232 h19 =>
  gS v218 .true (call 31 [v220, v226, v232] h19) h19 fun v233 h20 =>
  gP v218 .true (pBin .geq v233 (Z 0)) h20 fun v234 h21 =>
  kP v218 v234 bF fun v235 =>
  some (v235, h21)
def f82.b4 (I : Inp) (call : CallFn) (j : f82.Js) (v0 v5 v7 : AVal) (h : AHeap) : Rs :=
  kF 4 v5 fun v191 =>
  kL I v191 h fun v192 =>
  kC call 117 [v0, v192] h fun v193 h1 =>
  kX v193 0 fun v194 =>
  kX v193 1 fun v195 =>
  gP v195 .true (pLoad1 I v7 h1) h1 fun v198 h2 =>
  gP v195 .true (pFieldAddr 1 v5) h2 fun v199 h3 =>
  gP v195 .true (pLoad1 I v199 h3) h3 fun v200 h4 =>
  gP v195 .true (pIndexAddr 2 v198 v200) h4 fun v201 h5 =>
  gP v195 .true (pLoadN I 2 v201 h5) h5 fun v202 h6 =>
  gV v195 .true v194 h6 fun v203 h7 =>
  gP v195 .true (pBuild [(Z 0), (Z 0)] [(0, 1, (Z 2)), (1, 1, v203)]) h7 fun v204 h8 =>
  gP v195 .true (pEq P .false (.struct [.i, .i]) .false v202 v204 h8) h8 fun v205 h9 =>
  kP v195 v205 bF fun v206 =>
  some (v206, h9)
def f82.b5 (I : Inp) (call : CallFn) (j : f82.Js) (v5 v8 : AVal) (h : AHeap) : Rs :=
  kF 2 v5 fun v185 =>
  kL I v185 h fun v186 =>
  bnd (sCallv call v8 [v186] h) fun v187 h1 =>
  kB .eql v187 (Z 1) fun v188 =>
  some (v188, h1)
def f82.b6 (I : Inp) (call : CallFn) (j : f82.Js) (v0 v5 v7 v8 : AVal) (h : AHeap) : Rs :=
  kF 2 v5 fun v156 =>
  kL I v156 h fun v157 =>
  bnd (sCallv call v8 [v157] h) fun v158 h1 =>
  kB .eql v158 (Z 1) fun v159 =>
  gV v159 .true v0 h1 fun v161 h2 =>
  gP v159 .true (pNilCheck v161) h2 fun v162 h3 =>
  gP v159 .true (pFieldAddr 0 v162) h3 fun v163 h4 =>
  gP v159 .true (pLoad1 I v163 h4) h4 fun v164 h5 =>
  gP v159 .true (pLoad1 I v7 h5) h5 fun v165 h6 =>
  gP v159 .true (pFieldAddr 2 v5) h6 fun v166 h7 =>
  gP v159 .true (pLoad1 I v166 h7) h7 fun v167 h8 =>
  gP v159 .true (pIndexAddr 2 v165 v167) h8 fun v168 h9 =>
  gP v159 .true (pFieldAddr 1 v168) h9 fun v169 h10 =>
  gP v159 .true (pLoad1 I v169 h10) h10 fun v170 h11 =>
  gP v159 .true (pIndexAddr 1 v164 v170) h11 fun v171 h12 =>
  gP v159 .true (pLoad1 I v171 h12) h12 fun v172 h13 =>
  gP v159 .true (pFieldAddr 4 v5) h13 fun v173 h14 =>
  gP v159 .true (pLoad1 I v173 h14) h14 fun v174 h15 =>
  gP v159 .true (pIndexAddr 2 v172 v174) h15 fun v175 h16 =>
  gP v159 .true (pLoadN I 2 v175 h16) h16 fun v176 h17 =>
  gP v159 .true (pLoad1 I v7 h17) h17 fun v177 h18 =>
  gP v159 .true (pFieldAddr 3 v5) h18 fun v178 h19 =>
  gP v159 .true (pLoad1 I v178 h19) h19 fun v179 h20 =>
  gP v159 .true (pIndexAddr 2 v177 v179) h20 fun v180 h21 =>
  gP v159 .true (pLoadN I 2 v180 h21) h21 fun v181 h22 =>
  gP v159 .true (pEq P .false (.struct [.i, .i]) .false v176 v181 h22) h22 fun v182 h23 =>
  kP v159 v182 bF fun v183 =>
  some (v183, h23)
def f82.b7 (I : Inp) (call : CallFn) (j : f82.Js) (v0 v5 v7 v8 : AVal) (h : AHeap) : Rs :=
  kF 2 v5 fun v127 =>
  kL I v127 h fun v128 =>
  bnd (sCallv call v8 [v128] h) fun v129 h1 =>
  kB .eql v129 (Z 1) fun v130 =>
  gV v130 .true v0 h1 fun v132 h2 =>
  gP v130 .true (pNilCheck v132) h2 fun v133 h3 =>
  gP v130 .true (pFieldAddr 0 v133) h3 fun v134 h4 =>
  gP v130 .true (pLoad1 I v134 h4) h4 fun v135 h5 =>
  gP v130 .true (pLoad1 I v7 h5) h5 fun v136 h6 =>
  gP v130 .true (pFieldAddr 2 v5) h6 fun v137 h7 =>
  gP v130 .true (pLoad1 I v137 h7) h7 fun v138 h8 =>
  gP v130 .true (pIndexAddr 2 v136 v138) h8 fun v139 h9 =>
  gP v130 .true (pFieldAddr 1 v139) h9 fun v140 h10 =>
  gP v130 .true (pLoad1 I v140 h10) h10 fun v141 h11 =>
  gP v130 .true (pIndexAddr 1 v135 v141) h11 fun v142 h12 =>
  gP v130 .true (pLoad1 I v142 h12) h12 fun v143 h13 =>
  gP v130 .true (pFieldAddr 4 v5) h13 fun v144 h14 =>
  gP v130 .true (pLoad1 I v144 h14) h14 fun v145 h15 =>
  gP v130 .true (pIndexAddr 2 v143 v145) h15 fun v146 h16 =>
  gP v130 .true (pLoadN I 2 v146 h16) h16 fun v147 h17 =>
  gP v130 .true (pLoad1 I v7 h17) h17 fun v148 h18 =>
  gP v130 .true (pFieldAddr 1 v5) h18 fun v149 h19 =>
  gP v130 .true (pLoad1 I v149 h19) h19 fun v150 h20 =>
  gP v130 .true (pIndexAddr 2 v148 v150) h20 fun v151 h21 =>
  gP v130 .true (pLoadN I 2 v151 h21) h21 fun v152 h22 =>
  gP v130 .true (pEq P .false (.struct [.i, .i]) .false v147 v152 h22) h22 fun v153 h23 =>
  kP v130 v153 bF fun v154 =>
  some (v154, h23)
def f82.b8 (I : Inp) (call : CallFn) (j : f82.Js) (v5 v7 : AVal) (h : AHeap) : Rs :=
  kL I v7 h fun v115 =>
  kF 2 v5 fun v116 =>
  kL I v116 h fun v117 =>
  kI 2 v115 v117 fun v118 =>
  kM I 2 v118 h fun v119 =>
  kL I v7 h fun v120 =>
  kF 1 v5 fun v121 =>
  kL I v121 h fun v122 =>
  kI 2 v120 v122 fun v123 =>
  kM I 2 v123 h fun v124 =>
  bndP (pEq P .false (.struct [.i, .i]) .false v119 v124 h) fun v125 =>
  some (v125, h)
def f82.b9 (I : Inp) (call : CallFn) (j : f82.Js) (v5 v8 : AVal) (h : AHeap) : Rs :=
  kF 1 v5 fun v111 =>
  kL I v111 h fun v112 =>
  bnd (sCallv call v8 [v112] h) fun v113 h1 =>
  kB .eql v113 (Z 1) fun v114 =>
  some (v114, h1)
def f82.b10 (I : Inp) (call : CallFn) (j : f82.Js) (v5 v8 : AVal) (h : AHeap) : Rs :=
  kF 1 v5 fun v106 =>
  kL I v106 h fun v107 =>
  bnd (sCallv call v8 [v107] h) fun v108 h1 =>
  kB .neq v108 (Z 0) fun v109 =>
  some (v109, h1)
def f82.b11 (I : Inp) (call : CallFn) (j : f82.Js) (v5 v8 : AVal) (h : AHeap) : Rs :=
  kF 1 v5 fun v101 =>
  kL I v101 h fun v102 =>
  bnd (sCallv call v8 [v102] h) fun v103 h1 =>
  kB .eql v103 (Z 0) fun v104 =>
  some (v104, h1)
def f82.b12 (I : Inp) (call : CallFn) (j : f82.Js) (v5 v8 : AVal) (h : AHeap) : Rs :=
  kF 2 v5 fun v89 =>
  kL I v89 h fun v90 =>
  bnd (sCallv call v8 [v90] h) fun v91 h1 =>
  kB .neq v91 (Z 0) fun v92 =>
  gV v92 .false v8 h1 fun v94 h2 =>
  gP v92 .false (pFieldAddr 3 v5) h2 fun v95 h3 =>
  gP v92 .false (pLoad1 I v95 h3) h3 fun v96 h4 =>
  gS v92 .false (sCallv call v94 [v96] h4) h4 fun v97 h5 =>
  gP v92 .false (pBin .neq v97 (Z 0)) h5 fun v98 h6 =>
  kP v92 bT v98 fun v99 =>
  sCond v99 (
  j.1.2.1.2.2 v5 v8 h6) (
  some (bF, h6))
def f82.b13 (I : Inp) (call : CallFn) (j : f82.Js) (v0 v5 v7 : AVal) (h : AHeap) : Rs :=
  j.1.1.1.1.2 v0 v5 v7 h
def f82.b14 (I : Inp) (call : CallFn) (j : f82.Js) (v0 v5 v7 v8 v64 : AVal) (h : AHeap) : Rs :=
  kB .eql v64 (Z 1) fun v68 =>
  sCond v68 (
  kB .eql v64 (Z 3) fun v69 =>
  j.1.2.2.2.2.2 v0 v5 v7 v8 v64 v69 h) (
  j.1.2.2.2.2.2 v0 v5 v7 v8 v64 v68 h)
def f82.b15 (I : Inp) (call : CallFn) (j : f82.Js) (v0 v5 v7 v8 v64 : AVal) (h : AHeap) : Rs :=
  kB .eql v64 (Z 4) fun v71 =>
  sCond v71 (
  j.2.1.1.1.1 v0 v5 v7 v8 v64 h) (
  j.1.2.1.2.1 v5 v8 h)
def f82.b16 (I : Inp) (call : CallFn) (j : f82.Js) (v0 v5 v7 v8 v64 v67 : AVal) (h : AHeap) : Rs :=
  sCond v67 (
  j.1.2.2.2.2.1 v0 v5 v7 v8 v64 h) (
  j.1.2.1.2.2 v5 v8 h)
def f82.b17 (I : Inp) (call : CallFn) (j : f82.Js) (v0 v5 v7 v8 v64 : AVal) (h : AHeap) : Rs :=
  kB .eql v64 (Z 5) fun v73 =>
  sCond v73 (
  j.2.1.1.1.2 v0 v5 v7 v8 v64 h) (
  j.1.2.1.1.2 v5 v8 h)
def f82.b18 (I : Inp) (call : CallFn) (j : f82.Js) (v0 v5 v7 v8 v64 : AVal) (h : AHeap) : Rs :=
  kB .eql v64 (Z 6) fun v75 =>
  sCond v75 (
  j.2.1.1.2.1 v0 v5 v7 v8 v64 h) (
  j.1.2.1.1.1 v5 v7 h)
def f82.b19 (I : Inp) (call : CallFn) (j : f82.Js) (v0 v5 v7 v8 v64 : AVal) (h : AHeap) : Rs :=
  kB .eql v64 (Z 7) fun v77 =>
  sCond v77 (
  j.2.1.1.2.2 v0 v5 v7 v8 v64 h) (
  j.1.1.2.2.2 v0 v5 v7 v8 h)
def f82.b20 (I : Inp) (call : CallFn) (j : f82.Js) (v0 v5 v7 v8 v64 : AVal) (h : AHeap) : Rs :=
  kB .eql v64 (Z 8) fun v79 =>
  sCond v79 (
  j.2.1.2.1.1 v0 v5 v7 v8 v64 h) (
  j.1.1.2.2.1 v0 v5 v7 v8 h)
def f82.b21 (I : Inp) (call : CallFn) (j : f82.Js) (v0 v5 v7 v8 v64 : AVal) (h : AHeap) : Rs :=
  kB .eql v64 (Z 9) fun v81 =>
  sCond v81 (
  j.2.1.2.1.2 v0 v5 v7 v8 v64 h) (
  j.1.1.2.1.2 v5 v8 h)
def f82.b22 (I : Inp) (call : CallFn) (j : f82.Js) (v0 v5 v7 v8 v64 : AVal) (h : AHeap) : Rs :=
  kB .eql v64 (Z 10) fun v83 =>
  sCond v83 (
  j.2.1.2.2.1 v0 v5 v7 v8 v64 h) (
  j.1.1.2.1.1 v0 v5 v7 h)
def f82.b23 (I : Inp) (call : CallFn) (j : f82.Js) (v0 v5 v7 v8 v64 : AVal) (h : AHeap) : Rs :=
  kB .eql v64 (Z 11) fun v85 =>
  sCond v85 (
  j.2.1.2.2.2.1 v0 v5 v7 v8 v64 h) (
  j.1.1.1.2.2 v0 v5 v7 v8 h)
def f82.b24 (I : Inp) (call : CallFn) (j : f82.Js) (v0 v5 v7 v8 v64 : AVal) (h : AHeap) : Rs :=
  kB .eql v64 (Z 15) fun v87 =>
  sCond v87 (
  j.1.2.2.1.2 v0 v5 v7 h) (
  j.1.1.1.2.1 v5 v8 h)
def f82.b25 (I : Inp) (call : CallFn) (j : f82.Js) (v0 v5 v7 : AVal) (h : AHeap) : Rs :=
  j.1.1.1.1.2 v0 v5 v7 h
def f82.b26 (I : Inp) (call : CallFn) (j : f82.Js) (v0 v5 v7 : AVal) (h : AHeap) : Rs :=
  j.1.1.1.1.2 v0 v5 v7 h
def f82.b27 (I : Inp) (call : CallFn) (j : f82.Js) (v0 v5 v7 : AVal) (h : AHeap) : Rs :=
  j.1.1.1.1.2 v0 v5 v7 h
def f82.b28 (I : Inp) (call : CallFn) (j : f82.Js) (v0 v5 v7 : AVal) (h : AHeap) : Rs :=
  j.1.1.1.1.2 v0 v5 v7 h
def f82.b29 (I : Inp) (call : CallFn) (j : f82.Js) (v0 v5 v7 : AVal) (h : AHeap) : Rs :=
  j.1.1.1.1.2 v0 v5 v7 h
def f82.b30 (I : Inp) (call : CallFn) (j : f82.Js) (v0 v5 v7 : AVal) (h : AHeap) : Rs :=
  j.1.1.1.1.2 v0 v5 v7 h
def f82.b31 (I : Inp) (call : CallFn) (j : f82.Js) (v0 v5 v7 : AVal) (h : AHeap) : Rs :=
  j.1.1.1.1.2 v0 v5 v7 h
def f82.b32 (I : Inp) (call : CallFn) (j : f82.Js) (v0 v5 v7 : AVal) (h : AHeap) : Rs :=
  j.1.1.1.1.2 v0 v5 v7 h
def f82.b33 (I : Inp) (call : CallFn) (j : f82.Js) (v0 v5 v7 : AVal) (h : AHeap) : Rs :=
  j.1.1.1.1.2 v0 v5 v7 h
def f82.b34 (I : Inp) (call : CallFn) (j : f82.Js) (v0 v5 v7 : AVal) (h : AHeap) : Rs :=
  j.1.1.1.1.2 v0 v5 v7 h
def f82.e (I : Inp) (call : CallFn) (j : f82.Js) (v0 v1 v2 : AVal) (h : AHeap) : Rs :=
  bnd (sBox v2 h) fun v5 h1 =>
  bndP (pEq P .false .ptr .true v0 .nilp h1) fun v12 =>
  gV v12 .false v1 h1 fun v14 h2 =>
  gV v12 .false v0 h2 fun v15 h3 =>
  gP v12 .false (pNilCheck v15) h3 fun v16 h4 =>
  gP v12 .false (pFieldAddr 4 v16) h4 fun v17 h5 =>
  gP v12 .false (pLoad1 I v17 h5) h5 fun v18 h6 =>
  gP v12 .false (pLenSl v18) h6 fun v19 h7 =>
  gS v12 .false (call 73 [v14, v19] h7) h7 fun v20 h8 =>
  gP v12 .false (pUn .not v20) h8 fun v21 h9 =>
  kP v12 bT v21 fun v22 =>
  gV v22 .false v0 h9 fun v24 h10 =>
  gS v22 .false (call 72 [v24] h10) h10 fun v25 h11 =>
  gP v22 .false (pUn .not v25) h11 fun v26 h12 =>
  kP v22 bT v26 fun v27 =>
  gV v27 .false v0 h12 fun v29 h13 =>
  gV v27 .false v0 h13 fun v30 h14 =>
  gP v27 .false (pNilCheck v30) h14 fun v31 h15 =>
  gP v27 .false (pFieldAddr 4 v31) h15 fun v32 h16 =>
  gP v27 .false (pLoad1 I v32 h16) h16 fun v33 h17 =>
  gV v27 .false v1 h17 fun v34 h18 =>
  gP v27 .false (pIndexAddr 3 v33 v34) h18 fun v35 h19 =>
  gP v27 .false (pFieldAddr 1 v35) h19 fun v36 h20 =>
  gP v27 .false (pLoad1 I v36 h20) h20 fun v37 h21 =>
  gS v27 .false (call 74 [v29, v37] h21) h21 fun v38 h22 =>
  gP v27 .false (pUn .not v38) h22 fun v39 h23 =>
  kP v27 bT v39 fun v40 =>
  gV v40 .false v0 h23 fun v42 h24 =>
  gV v40 .false v0 h24 fun v43 h25 =>
  gP v40 .false (pNilCheck v43) h25 fun v44 h26 =>
  gP v40 .false (pFieldAddr 4 v44) h26 fun v45 h27 =>
  gP v40 .false (pLoad1 I v45 h27) h27 fun v46 h28 =>
  gV v40 .false v1 h28 fun v47 h29 =>
  gP v40 .false (pIndexAddr 3 v46 v47) h29 fun v48 h30 =>
  gP v40 .false (pLoadN I 3 v48 h30) h30 fun v49 h31 =>
  gP v40 .false (pLoadN I 6 v5 h31) h31 fun v50 h32 =>
  gS v40 .false (call 77 [v42, v49, v50] h32) h32 fun v51 h33 =>
  gP v40 .false (pUn .not v51) h33 fun v52 h34 =>
  kP v40 bT v52 fun v53 =>
  sCond v53 (
  j.1.1.1.1.1 v0 v1 v5 h34) (
  some (bF, h34))
def f82.J (I : Inp) (call : CallFn) (n : Nat) : f82.Js :=
  Nat.rec (motive := fun _ => f82.Js) (((((Zr.z, Zr.z), (Zr.z, Zr.z)), ((Zr.z, Zr.z), (Zr.z, Zr.z))), (((Zr.z, Zr.z), (Zr.z, Zr.z)), ((Zr.z, Zr.z), (Zr.z, (Zr.z, Zr.z))))), ((((Zr.z, Zr.z), (Zr.z, Zr.z)), ((Zr.z, Zr.z), (Zr.z, (Zr.z, Zr.z)))), (((Zr.z, Zr.z), (Zr.z, Zr.z)), ((Zr.z, Zr.z), (Zr.z, (Zr.z, Zr.z)))))) (fun _ j => (((((f82.b0 I call j, f82.b1 I call j), (f82.b2 I call j, f82.b3 I call j)), ((f82.b4 I call j, f82.b5 I call j), (f82.b6 I call j, f82.b7 I call j))), (((f82.b8 I call j, f82.b9 I call j), (f82.b10 I call j, f82.b11 I call j)), ((f82.b12 I call j, f82.b13 I call j), (f82.b14 I call j, (f82.b15 I call j, f82.b16 I call j))))), ((((f82.b17 I call j, f82.b18 I call j), (f82.b19 I call j, f82.b20 I call j)), ((f82.b21 I call j, f82.b22 I call j), (f82.b23 I call j, (f82.b24 I call j, f82.b25 I call j)))), (((f82.b26 I call j, f82.b27 I call j), (f82.b28 I call j, f82.b29 I call j)), ((f82.b30 I call j, f82.b31 I call j), (f82.b32 I call j, (f82.b33 I call j, f82.b34 I call j))))))) n
def f82.JS (I : Inp) (call : CallFn) (n : Nat) : Jmp := (fun j : f82.Js => jmp [Ap.ap j.1.1.1.1.1 [0, 1, 5], Ap.ap j.1.1.1.1.2 [0, 5, 7], Ap.ap j.1.1.1.2.1 [5, 8], Ap.ap j.1.1.1.2.2 [0, 5, 7, 8], Ap.ap j.1.1.2.1.1 [0, 5, 7], Ap.ap j.1.1.2.1.2 [5, 8], Ap.ap j.1.1.2.2.1 [0, 5, 7, 8], Ap.ap j.1.1.2.2.2 [0, 5, 7, 8], Ap.ap j.1.2.1.1.1 [5, 7], Ap.ap j.1.2.1.1.2 [5, 8], Ap.ap j.1.2.1.2.1 [5, 8], Ap.ap j.1.2.1.2.2 [5, 8], Ap.ap j.1.2.2.1.1 [5, 8], Ap.ap j.1.2.2.1.2 [0, 5, 7], Ap.ap j.1.2.2.2.1 [0, 5, 7, 8, 64], Ap.ap j.1.2.2.2.2.1 [0, 5, 7, 8, 64], Ap.ap j.1.2.2.2.2.2 [0, 5, 7, 8, 64, 67], Ap.ap j.2.1.1.1.1 [0, 5, 7, 8, 64], Ap.ap j.2.1.1.1.2 [0, 5, 7, 8, 64], Ap.ap j.2.1.1.2.1 [0, 5, 7, 8, 64], Ap.ap j.2.1.1.2.2 [0, 5, 7, 8, 64], Ap.ap j.2.1.2.1.1 [0, 5, 7, 8, 64], Ap.ap j.2.1.2.1.2 [0, 5, 7, 8, 64], Ap.ap j.2.1.2.2.1 [0, 5, 7, 8, 64], Ap.ap j.2.1.2.2.2.1 [0, 5, 7, 8, 64], Ap.ap j.2.1.2.2.2.2 [0, 5, 7], Ap.ap j.2.2.1.1.1 [0, 5, 7], Ap.ap j.2.2.1.1.2 [0, 5, 7], Ap.ap j.2.2.1.2.1 [0, 5, 7], Ap.ap j.2.2.1.2.2 [0, 5, 7], Ap.ap j.2.2.2.1.1 [0, 5, 7], Ap.ap j.2.2.2.1.2 [0, 5, 7], Ap.ap j.2.2.2.2.1 [0, 5, 7], Ap.ap j.2.2.2.2.2.1 [0, 5, 7], Ap.ap j.2.2.2.2.2.2 [0, 5, 7]]) (f82.J I call n)
theorem f82.S : SFn ⟨P, I, F⟩ call c82 (f82.JS I call) := .all 35 (by kernel_rfl) (fun ρ h => by kernel_rfl) (fun n ρ h => by kernel_rfl)
theorem f82.qe : Ap.all (f82.e I call (f82.J I call n)) (fun l h => execC P I call (f82.JS I call n) c82.body 0 (finV I c82.results) (argV l) h) := fun v0 v1 v2 h => by kernel_rfl
theorem f82.code : codeOf P 82 = some c82 := by kernel_rfl
def f82.run (I : Inp) : SF := fun call n => Ap.ar (f82.e I call (f82.J I call n))
theorem f82.ok (I : Inp) (F : Nat → Option AFn) (hF : F 82 = some (.code c82)) : SfOk P I F 82 (f82.run I) := okOf hF (by kernel_rfl) (fun _ => f82.S) fun call n => f82.qe
/-! haruspex/types.Check$2 -/
def c83 : AFunc := cOf P 83
abbrev f83.Js : Type := Unit
def f83.e (I : Inp) (call : CallFn) (j : f83.Js) (v0 v1 v2 : AVal) (h : AHeap) : Rs :=
  bnd (sBox v1 h) fun v4 h1 =>
  kL I v2 h1 fun v6 =>
  kL I v2 h1 fun v7 =>
  kN v7 fun v8 =>
  kF 4 v8 fun v9 =>
  kL I v9 h1 fun v10 =>
  kI 3 v10 v0 fun v12 =>
  kM I 3 v12 h1 fun v13 =>
  kM I 5 v4 h1 fun v14 =>
  kC call 84 [v6, v13, v14] h1 fun v15 h2 =>
  some (v15, h2)
theorem f83.S : SFn ⟨P, I, F⟩ call c83 (fun _ => jmp []) := .all 0 (by kernel_rfl) (fun ρ h => by kernel_rfl) (fun n ρ h => by kernel_rfl)
theorem f83.qe : Ap.all (f83.e I call ()) (fun l h => execC P I call (jmp []) c83.body 0 (finV I c83.results) (argV l) h) := fun v0 v1 v2 h => by kernel_rfl
theorem f83.code : codeOf P 83 = some c83 := by kernel_rfl
def f83.run (I : Inp) : SF := fun call n => Ap.ar (f83.e I call ())
theorem f83.ok (I : Inp) (F : Nat → Option AFn) (hF : F 83 = some (.code c83)) : SfOk P I F 83 (f83.run I) := okOf hF (by kernel_rfl) (fun _ => f83.S) fun call n => f83.qe
/-! haruspex/types.ends -/
def c84 : AFunc := cOf P 84
abbrev f84.Js : Type := A0
def f84.b0 (I : Inp) (call : CallFn) (j : f84.Js) (h : AHeap) : Rs :=
  some (bT, h)
def f84.e (I : Inp) (call : CallFn) (j : f84.Js) (v0 v1 v2 : AVal) (h : AHeap) : Rs :=
  bnd (sBox v1 h) fun v4 h1 =>
  bnd (sBox v2 h1) fun v5 h2 =>
  kF 1 v5 fun v7 =>
  kL I v7 h2 fun v8 =>
  kB .eql v8 (Z 2) fun v10 =>
  sCond v10 (
  kB .eql v8 (Z 3) fun v20 =>
  sCond v20 (
  j h2) (
  kF 1 v4 fun v21 =>
  kL I v21 h2 fun v22 =>
  kF 2 v5 fun v23 =>
  kL I v23 h2 fun v24 =>
  kI 2 v22 v24 fun v25 =>
  kM I 2 v25 h2 fun v26 =>
  kN v0 fun v28 =>
  kF 1 v28 fun v29 =>
  kL I v29 h2 fun v30 =>
  kF 0 v4 fun v31 =>
  kL I v31 h2 fun v32 =>
  kI 3 v30 v32 fun v33 =>
  kF 1 v33 fun v34 =>
  kM I 2 v34 h2 fun v35 =>
  bndP (pEq P .false (.struct [.i, .i]) .false v26 v35 h2) fun v36 =>
  some (v36, h2))) (
  kF 1 v4 fun v11 =>
  kL I v11 h2 fun v12 =>
  kF 2 v5 fun v13 =>
  kL I v13 h2 fun v14 =>
  kI 2 v12 v14 fun v15 =>
  kF 0 v15 fun v16 =>
  kL I v16 h2 fun v17 =>
  kB .eql v17 (Z 0) fun v18 =>
  some (v18, h2))
def f84.J (I : Inp) (call : CallFn) (n : Nat) : f84.Js :=
  Nat.rec (motive := fun _ => f84.Js) Zr.z (fun _ j => f84.b0 I call j) n
theorem f84.n0 : (f84.J I call (n + 1)) = f84.b0 I call (f84.J I call n) := nrfl
def f84.JS (I : Inp) (call : CallFn) (n : Nat) : Jmp := (fun j : f84.Js => jmp [Ap.ap j []]) (f84.J I call n)
theorem f84.S : SFn ⟨P, I, F⟩ call c84 (f84.JS I call) := .all 1 (by kernel_rfl) (fun ρ h => by kernel_rfl) (fun n ρ h => by kernel_rfl)
theorem f84.qe : Ap.all (f84.e I call (f84.J I call n)) (fun l h => execC P I call (f84.JS I call n) c84.body 0 (finV I c84.results) (argV l) h) := fun v0 v1 v2 h => by kernel_rfl
theorem f84.code : codeOf P 84 = some c84 := by kernel_rfl
def f84.run (I : Inp) : SF := fun call n => Ap.ar (f84.e I call (f84.J I call n))
theorem f84.ok (I : Inp) (F : Nat → Option AFn) (hF : F 84 = some (.code c84)) : SfOk P I F 84 (f84.run I) := okOf hF (by kernel_rfl) (fun _ => f84.S) fun call n => f84.qe
theorem f84.lim (hp : prims 84 = none) {v0 v1 v2 : AVal} (hr : Res (f84.e I (AM.lim ⟨P, I, genF P prims⟩) (f84.J I (AM.lim ⟨P, I, genF P prims⟩) n) v0 v1 v2 h) Q) : Res ((AM.lim ⟨P, I, genF P prims⟩) 84 [v0, v1, v2] h) Q := limOf (n := n) hp f84.code (f84.ok I) hr rfl
/-! haruspex/graph.Reach -/
def c85 : AFunc := cOf P 85
abbrev f85.Js : Type := (((A3 × A4) × (A7 × (A7 × A7))) × ((A1 × (A4 × A4)) × (A7 × (A7 × A7))))
def f85.b0 (I : Inp) (call : CallFn) (j : f85.Js) (v1 v2 v5 : AVal) (h : AHeap) : Rs :=
  kA [.nils] h fun v6 h1 =>
  kZ v1 fun v21 =>
  j.1.2.1 v2 v5 v6 (.func (.func 120) [] [v2, v5, v6]) v1 v21 (Z 0) h1
def f85.b1 (I : Inp) (call : CallFn) (j : f85.Js) (v2 v5 v6 v7 : AVal) (h : AHeap) : Rs :=
  j.2.1.2.1 v2 v5 v6 v7 h
def f85.b2 (I : Inp) (call : CallFn) (j : f85.Js) (v2 v5 v6 v7 v20 v21 v22 : AVal) (h : AHeap) : Rs :=
  kB .lss v22 v21 fun v23 =>
  sCond v23 (
  j.1.1.2 v2 v5 v6 v7 h) (
  j.1.2.2.1 v2 v5 v6 v7 v20 v21 v22 h)
def f85.b3 (I : Inp) (call : CallFn) (j : f85.Js) (v2 v5 v6 v7 v20 v21 v22 : AVal) (h : AHeap) : Rs :=
  kI 1 v20 v22 fun v24 =>
  kL I v24 h fun v25 =>
  bnd (sCallv call v7 [v25] h) fun v28 h1 =>
  j.1.2.2.2 v2 v5 v6 v7 v20 v21 v22 h1
def f85.b4 (I : Inp) (call : CallFn) (j : f85.Js) (v2 v5 v6 v7 v20 v21 v22 : AVal) (h : AHeap) : Rs :=
  kB .add v22 (Z 1) fun v29 =>
  j.1.2.1 v2 v5 v6 v7 v20 v21 v29 h
def f85.b5 (I : Inp) (call : CallFn) (j : f85.Js) (v5 : AVal) (h : AHeap) : Rs :=
  kL I v5 h fun v58 =>
  some (v58, h)
def f85.b6 (I : Inp) (call : CallFn) (j : f85.Js) (v2 v5 v6 v7 : AVal) (h : AHeap) : Rs :=
  kL I v6 h fun v30 =>
  kZ v30 fun v31 =>
  kB .gtr v31 (Z 0) fun v32 =>
  sCond v32 (
  j.2.1.1 v5 h) (
  j.2.1.2.2 v2 v5 v6 v7 h)
def f85.b7 (I : Inp) (call : CallFn) (j : f85.Js) (v2 v5 v6 v7 : AVal) (h : AHeap) : Rs :=
  kL I v6 h fun v33 =>
  kL I v6 h fun v34 =>
  kZ v34 fun v35 =>
  kB .sub v35 (Z 1) fun v36 =>
  kI 1 v33 v36 fun v37 =>
  kL I v37 h fun v38 =>
  kL I v6 h fun v39 =>
  kL I v6 h fun v40 =>
  kZ v40 fun v41 =>
  kB .sub v41 (Z 1) fun v42 =>
  bndP (pSliceS 1 v39 none (some v42) none) fun v43 =>
  kS 1 v6 v43 h fun _ h1 =>
  kF 1 v2 fun v44 =>
  kL I v44 h1 fun v45 =>
  kI 1 v45 v38 fun v47 =>
  kL I v47 h1 fun v48 =>
  kZ v48 fun v49 =>
  j.2.2.1 v2 v5 v6 v7 v48 v49 (Z 0) h1
def f85.b8 (I : Inp) (call : CallFn) (j : f85.Js) (v2 v5 v6 v7 v48 v49 v50 : AVal) (h : AHeap) : Rs :=
  kB .lss v50 v49 fun v51 =>
  sCond v51 (
  j.2.1.2.1 v2 v5 v6 v7 h) (
  j.2.2.2.1 v2 v5 v6 v7 v48 v49 v50 h)
def f85.b9 (I : Inp) (call : CallFn) (j : f85.Js) (v2 v5 v6 v7 v48 v49 v50 : AVal) (h : AHeap) : Rs :=
  kI 1 v48 v50 fun v52 =>
  kL I v52 h fun v53 =>
  bnd (sCallv call v7 [v53] h) fun v56 h1 =>
  j.2.2.2.2 v2 v5 v6 v7 v48 v49 v50 h1
def f85.b10 (I : Inp) (call : CallFn) (j : f85.Js) (v2 v5 v6 v7 v48 v49 v50 : AVal) (h : AHeap) : Rs :=
  kB .add v50 (Z 1) fun v57 =>
  j.2.2.1 v2 v5 v6 v7 v48 v49 v57 h
def f85.e (I : Inp) (call : CallFn) (j : f85.Js) (v0 v1 : AVal) (h : AHeap) : Rs :=
  bnd (sBox v0 h) fun v2 h1 =>
  bndP (pBuild [.nils] []) fun v13 =>
  bnd (sBox v13 h1) fun v14 h2 =>
  kA [.nilp] h2 fun v5 h3 =>
  kS 1 v5 v14 h3 fun _ h4 =>
  kM I 2 v2 h4 fun v15 =>
  kC call 119 [v15] h4 fun v16 h5 =>
  kU .not v16 fun v17 =>
  sCond v17 (
  j.1.1.1 v1 v2 v5 h5) (
  kL I v5 h5 fun v18 =>
  some (v18, h5))
def f85.J (I : Inp) (call : CallFn) (n : Nat) : f85.Js :=
  Nat.rec (motive := fun _ => f85.Js) (((Zr.z, Zr.z), (Zr.z, (Zr.z, Zr.z))), ((Zr.z, (Zr.z, Zr.z)), (Zr.z, (Zr.z, Zr.z)))) (fun _ j => (((f85.b0 I call j, f85.b1 I call j), (f85.b2 I call j, (f85.b3 I call j, f85.b4 I call j))), ((f85.b5 I call j, (f85.b6 I call j, f85.b7 I call j)), (f85.b8 I call j, (f85.b9 I call j, f85.b10 I call j))))) n
def f85.JS (I : Inp) (call : CallFn) (n : Nat) : Jmp := (fun j : f85.Js => jmp [Ap.ap j.1.1.1 [1, 2, 5], Ap.ap j.1.1.2 [2, 5, 6, 7], Ap.ap j.1.2.1 [2, 5, 6, 7, 20, 21, 22], Ap.ap j.1.2.2.1 [2, 5, 6, 7, 20, 21, 22], Ap.ap j.1.2.2.2 [2, 5, 6, 7, 20, 21, 22], Ap.ap j.2.1.1 [5], Ap.ap j.2.1.2.1 [2, 5, 6, 7], Ap.ap j.2.1.2.2 [2, 5, 6, 7], Ap.ap j.2.2.1 [2, 5, 6, 7, 48, 49, 50], Ap.ap j.2.2.2.1 [2, 5, 6, 7, 48, 49, 50], Ap.ap j.2.2.2.2 [2, 5, 6, 7, 48, 49, 50]]) (f85.J I call n)
theorem f85.S : SFn ⟨P, I, F⟩ call c85 (f85.JS I call) := .all 11 (by kernel_rfl) (fun ρ h => by kernel_rfl) (fun n ρ h => by kernel_rfl)
theorem f85.qe : Ap.all (f85.e I call (f85.J I call n)) (fun l h => execC P I call (f85.JS I call n) c85.body 0 (finV I c85.results) (argV l) h) := fun v0 v1 h => by kernel_rfl
theorem f85.code : codeOf P 85 = some c85 := by kernel_rfl
def f85.run (I : Inp) : SF := fun call n => Ap.ar (f85.e I call (f85.J I call n))
theorem f85.ok (I : Inp) (F : Nat → Option AFn) (hF : F 85 = some (.code c85)) : SfOk P I F 85 (f85.run I) := okOf hF (by kernel_rfl) (fun _ => f85.S) fun call n => f85.qe
/-! haruspex/assign.Flow -/
def c86 : AFunc := cOf P 86
abbrev f86.Js : Type := ((A3 × A2) × (A5 × (A5 × A5)))
def f86.b0 (I : Inp) (call : CallFn) (j : f86.Js) (v0 v1 v4 : AVal) (h : AHeap) : Rs :=
  kN v0 fun v25 =>
  kF 4 v25 fun v26 =>
  kL I v26 h fun v27 =>
  kI 3 v27 v1 fun v29 =>
  kF 2 v29 fun v30 =>
  kL I v30 h fun v31 =>
  kZ v31 fun v33 =>
  kZ v31 fun v35 =>
  bnd (sMakeSlice [.nils] 24 v35 v35 h) fun v36 h1 =>
  bndP (pBuild [(Z 0), .nils] [(0, 1, v33), (1, 1, v36)]) fun v37 =>
  kA [(Z 0), .nils] h1 fun v6 h2 =>
  kS 2 v6 v37 h2 fun _ h3 =>
  kZ v31 fun v39 =>
  j.2.1 v4 v31 v6 v39 (Z 0) h3
def f86.b1 (I : Inp) (call : CallFn) (j : f86.Js) (v4 v6 : AVal) (h : AHeap) : Rs :=
  kM I 2 v6 h fun v52 =>
  kS 2 v4 v52 h fun _ h1 =>
  sRet (sCons (sResN I 2 v4 h1) (some [])) h1
def f86.b2 (I : Inp) (call : CallFn) (j : f86.Js) (v4 v5 v6 v39 v40 : AVal) (h : AHeap) : Rs :=
  kB .lss v40 v39 fun v41 =>
  sCond v41 (
  j.1.2 v4 v6 h) (
  j.2.2.1 v4 v5 v6 v39 v40 h)
def f86.b3 (I : Inp) (call : CallFn) (j : f86.Js) (v4 v5 v6 v39 v40 : AVal) (h : AHeap) : Rs :=
  kF 1 v6 fun v43 =>
  kL I v43 h fun v44 =>
  kI 5 v5 v40 fun v48 =>
  kC call 121 [v48] h fun v49 h1 =>
  kI 1 v44 v40 fun v50 =>
  kS 1 v50 v49 h1 fun _ h2 =>
  sCheck (sSame (lift (pLoad1 I v43 h1) h1) v44 && true) (
  j.2.2.2 v4 v5 v6 v39 v40 h2)
def f86.b4 (I : Inp) (call : CallFn) (j : f86.Js) (v4 v5 v6 v39 v40 : AVal) (h : AHeap) : Rs :=
  kB .add v40 (Z 1) fun v51 =>
  j.2.1 v4 v5 v6 v39 v51 h
def f86.e (I : Inp) (call : CallFn) (j : f86.Js) (v0 v1 : AVal) (h : AHeap) : Rs :=
  kA [(Z 0), .nils] h fun v4 h1 =>
  bndP (pEq P .false .ptr .true v0 .nilp h1) fun v9 =>
  gV v9 .false v1 h1 fun v11 h2 =>
  gP v9 .false (pBin .lss v11 (Z 0)) h2 fun v12 h3 =>
  kP v9 bT v12 fun v13 =>
  gV v13 .false v1 h3 fun v15 h4 =>
  gV v13 .false v0 h4 fun v16 h5 =>
  gP v13 .false (pNilCheck v16) h5 fun v17 h6 =>
  gP v13 .false (pFieldAddr 4 v17) h6 fun v18 h7 =>
  gP v13 .false (pLoad1 I v18 h7) h7 fun v19 h8 =>
  gP v13 .false (pLenSl v19) h8 fun v20 h9 =>
  gP v13 .false (pBin .geq v15 v20) h9 fun v21 h10 =>
  kP v13 bT v21 fun v22 =>
  sCond v22 (
  j.1.1 v0 v1 v4 h10) (
  bndP (pBuild [(Z 0), .nils] []) fun v23 =>
  kS 2 v4 v23 h10 fun _ h11 =>
  sRet (sCons (sResN I 2 v4 h11) (some [])) h11)
def f86.J (I : Inp) (call : CallFn) (n : Nat) : f86.Js :=
  Nat.rec (motive := fun _ => f86.Js) ((Zr.z, Zr.z), (Zr.z, (Zr.z, Zr.z))) (fun _ j => ((f86.b0 I call j, f86.b1 I call j), (f86.b2 I call j, (f86.b3 I call j, f86.b4 I call j)))) n
def f86.JS (I : Inp) (call : CallFn) (n : Nat) : Jmp := (fun j : f86.Js => jmp [Ap.ap j.1.1 [0, 1, 4], Ap.ap j.1.2 [4, 6], Ap.ap j.2.1 [4, 5, 6, 39, 40], Ap.ap j.2.2.1 [4, 5, 6, 39, 40], Ap.ap j.2.2.2 [4, 5, 6, 39, 40]]) (f86.J I call n)
theorem f86.S : SFn ⟨P, I, F⟩ call c86 (f86.JS I call) := .all 5 (by kernel_rfl) (fun ρ h => by kernel_rfl) (fun n ρ h => by kernel_rfl)
theorem f86.qe : Ap.all (f86.e I call (f86.J I call n)) (fun l h => execC P I call (f86.JS I call n) c86.body 0 (finV I c86.results) (argV l) h) := fun v0 v1 h => by kernel_rfl
theorem f86.code : codeOf P 86 = some c86 := by kernel_rfl
def f86.run (I : Inp) : SF := fun call n => Ap.ar (f86.e I call (f86.J I call n))
theorem f86.ok (I : Inp) (F : Nat → Option AFn) (hF : F 86 = some (.code c86)) : SfOk P I F 86 (f86.run I) := okOf hF (by kernel_rfl) (fun _ => f86.S) fun call n => f86.qe
/-! (*haruspex/bitset.Set).Has -/
def c87 : AFunc := cOf P 87
abbrev f87.Js : Type := Unit
def f87.e (I : Inp) (call : CallFn) (j : f87.Js) (v0 v1 : AVal) (h : AHeap) : Rs :=
  kB .geq v1 (Z 0) fun v6 =>
  gV v6 .true v1 h fun v8 h1 =>
  gP v6 .true (pBin .lss v8 (Z 5000)) h1 fun v9 h2 =>
  kP v6 v9 bF fun v10 =>
  gV v10 .true v0 h2 fun v12 h3 =>
  gV v10 .true v1 h3 fun v13 h4 =>
  gP v10 .true (pBin .quo v13 (Z 64)) h4 fun v14 h5 =>
  gS v10 .true (call 122 [v12, v14] h5) h5 fun v15 h6 =>
  gV v10 .true v1 h6 fun v16 h7 =>
  gP v10 .true (pBin .rem v16 (Z 64)) h7 fun v17 h8 =>
  gP v10 .true (pBin .shr v15 v17) h8 fun v18 h9 =>
  gP v10 .true (pBin .and v18 (.int .u64 (.ofNat 1))) h9 fun v19 h10 =>
  gP v10 .true (pBin .eql v19 (.int .u64 (.ofNat 1))) h10 fun v20 h11 =>
  kP v10 v20 bF fun v21 =>
  some (v21, h11)
theorem f87.S : SFn ⟨P, I, F⟩ call c87 (fun _ => jmp []) := .all 0 (by kernel_rfl) (fun ρ h => by kernel_rfl) (fun n ρ h => by kernel_rfl)
theorem f87.qe : Ap.all (f87.e I call ()) (fun l h => execC P I call (jmp []) c87.body 0 (finV I c87.results) (argV l) h) := fun v0 v1 h => by kernel_rfl
theorem f87.code : codeOf P 87 = some c87 := by kernel_rfl
def f87.run (I : Inp) : SF := fun call n => Ap.ar (f87.e I call ())
theorem f87.ok (I : Inp) (F : Nat → Option AFn) (hF : F 87 = some (.code c87)) : SfOk P I F 87 (f87.run I) := okOf hF (by kernel_rfl) (fun _ => f87.S) fun call n => f87.qe
/-! haruspex/assign.In -/
def c88 : AFunc := cOf P 88
abbrev f88.Js : Type := (((A2 × (A4 × A6)) × ((A6 × A6) × (A1 × A5))) × ((A4 × (A8 × A8)) × ((A8 × (AVal → AVal → AVal → A9)) × ((AVal → AVal → AVal → A9) × (AVal → AVal → AVal → A9)))))
def f88.b0 (I : Inp) (call : CallFn) (j : f88.Js) (v0 v1 : AVal) (h : AHeap) : Rs :=
  kN v0 fun v33 =>
  kF 4 v33 fun v34 =>
  kL I v34 h fun v35 =>
  kI 3 v35 v1 fun v37 =>
  kM I 3 v37 h fun v38 =>
  kA [(Z 0), .nils, .nils] h fun v5 h1 =>
  kS 3 v5 v38 h1 fun _ h2 =>
  kF 2 v5 fun v39 =>
  kL I v39 h2 fun v40 =>
  kZ v40 fun v41 =>
  bnd (sMakeSlice [.nilp] 8 v41 v41 h2) fun v42 h3 =>
  kZ v42 fun v44 =>
  j.1.1.2.2 v0 v1 v5 v42 v44 (Z 0) h3
def f88.b1 (I : Inp) (call : CallFn) (j : f88.Js) (v0 v1 v5 v6 : AVal) (h : AHeap) : Rs :=
  kN v0 fun v58 =>
  kF 1 v58 fun v59 =>
  kL I v59 h fun v60 =>
  kF 0 v5 fun v61 =>
  kL I v61 h fun v62 =>
  kI 3 v60 v62 fun v63 =>
  kF 0 v63 fun v64 =>
  kL I v64 h fun v65 =>
  kZ v65 fun v66 =>
  kC call 123 [v66] h fun v67 h1 =>
  kI 1 v6 (Z 0) fun v68 =>
  kS 1 v68 v67 h1 fun _ h2 =>
  kC call 86 [v0, v1] h2 fun v71 h3 =>
  kA [(Z 0), .nils] h3 fun v8 h4 =>
  kS 2 v8 v71 h4 fun _ h5 =>
  kM I 2 v8 h5 fun v72 =>
  kC call 124 [v72, (Z 0)] h5 fun v73 h6 =>
  j.1.2.2.2 v5 v6 v8 v73 bT h6
def f88.b2 (I : Inp) (call : CallFn) (j : f88.Js) (v0 v1 v5 v6 v44 v45 : AVal) (h : AHeap) : Rs :=
  kB .lss v45 v44 fun v46 =>
  sCond v46 (
  j.1.1.2.1 v0 v1 v5 v6 h) (
  j.1.2.1.1 v0 v1 v5 v6 v44 v45 h)
def f88.b3 (I : Inp) (call : CallFn) (j : f88.Js) (v0 v1 v5 v6 v44 v45 : AVal) (h : AHeap) : Rs :=
  kF 1 v5 fun v50 =>
  kL I v50 h fun v51 =>
  kZ v51 fun v52 =>
  kC call 123 [v52] h fun v53 h1 =>
  kI 1 v6 v45 fun v54 =>
  kS 1 v54 v53 h1 fun _ h2 =>
  j.1.2.1.2 v0 v1 v5 v6 v44 v45 h2
def f88.b4 (I : Inp) (call : CallFn) (j : f88.Js) (v0 v1 v5 v6 v44 v45 : AVal) (h : AHeap) : Rs :=
  kB .add v45 (Z 1) fun v55 =>
  j.1.1.2.2 v0 v1 v5 v6 v44 v55 h
def f88.b5 (I : Inp) (call : CallFn) (j : f88.Js) (v6 : AVal) (h : AHeap) : Rs :=
  some (v6, h)
def f88.b6 (I : Inp) (call : CallFn) (j : f88.Js) (v5 v6 v8 v9 v10 : AVal) (h : AHeap) : Rs :=
  sCond v10 (
  j.1.2.2.1 v6 h) (
  j.2.1.1 v5 v6 v8 v9 h)
def f88.b7 (I : Inp) (call : CallFn) (j : f88.Js) (v5 v6 v8 v9 : AVal) (h : AHeap) : Rs :=
  kZ v9 fun v76 =>
  j.2.1.2.1 v5 v6 v8 v9 bF v9 v76 (Z 0) h
def f88.b8 (I : Inp) (call : CallFn) (j : f88.Js) (v5 v6 v8 v9 v10 v75 v76 v77 : AVal) (h : AHeap) : Rs :=
  kB .lss v77 v76 fun v78 =>
  sCond v78 (
  j.1.2.2.2 v5 v6 v8 v9 v10 h) (
  j.2.1.2.2 v5 v6 v8 v9 v10 v75 v76 v77 h)
def f88.b9 (I : Inp) (call : CallFn) (j : f88.Js) (v5 v6 v8 v9 v10 v75 v76 v77 : AVal) (h : AHeap) : Rs :=
  kI 1 v75 v77 fun v79 =>
  kL I v79 h fun v80 =>
  kF 2 v5 fun v81 =>
  kL I v81 h fun v82 =>
  kI 5 v82 v80 fun v84 =>
  kM I 5 v84 h fun v85 =>
  kI 1 v6 v80 fun v88 =>
  kL I v88 h fun v89 =>
  kC call 125 [v85, v89] h fun v90 h1 =>
  kF 1 v8 fun v91 =>
  kL I v91 h1 fun v92 =>
  kI 1 v92 v80 fun v94 =>
  kL I v94 h1 fun v95 =>
  kZ v95 fun v96 =>
  j.2.2.1.2 v5 v6 v8 v9 v10 v90 v75 v76 v77 v95 v96 (Z 0) h1
def f88.b10 (I : Inp) (call : CallFn) (j : f88.Js) (v5 v6 v8 v9 v10 v75 v76 v77 : AVal) (h : AHeap) : Rs :=
  kB .add v77 (Z 1) fun v119 =>
  j.2.1.2.1 v5 v6 v8 v9 v10 v75 v76 v119 h
def f88.b11 (I : Inp) (call : CallFn) (j : f88.Js) (v5 v6 v8 v9 v10 v13 v75 v76 v77 v95 v96 v97 : AVal) (h : AHeap) : Rs :=
  kB .lss v97 v96 fun v98 =>
  sCond v98 (
  j.2.2.1.1 v5 v6 v8 v9 v10 v75 v76 v77 h) (
  j.2.2.2.1 v5 v6 v8 v9 v10 v13 v75 v76 v77 v95 v96 v97 h)
def f88.b12 (I : Inp) (call : CallFn) (j : f88.Js) (v5 v6 v8 v9 v10 v13 v75 v76 v77 v95 v96 v97 : AVal) (h : AHeap) : Rs :=
  kI 1 v95 v97 fun v99 =>
  kL I v99 h fun v100 =>
  kI 1 v6 v100 fun v103 =>
  kL I v103 h fun v104 =>
  kC call 126 [v104, v13] h fun v106 h1 =>
  kI 1 v6 v100 fun v110 =>
  kL I v110 h1 fun v111 =>
  kC call 127 [v106, v111] h1 fun v112 h2 =>
  kU .not v112 fun v113 =>
  sCond v113 (
  j.2.2.2.2 v5 v6 v8 v9 v10 v13 v75 v76 v77 v95 v96 v97 h2) (
  kI 1 v6 v100 fun v117 =>
  kS 1 v117 v106 h2 fun _ h3 =>
  j.2.2.2.2 v5 v6 v8 v9 bT v13 v75 v76 v77 v95 v96 v97 h3)
def f88.b13 (I : Inp) (call : CallFn) (j : f88.Js) (v5 v6 v8 v9 v10 v13 v75 v76 v77 v95 v96 v97 : AVal) (h : AHeap) : Rs :=
  kB .add v97 (Z 1) fun v118 =>
  j.2.2.1.2 v5 v6 v8 v9 v10 v13 v75 v76 v77 v95 v96 v118 h
def f88.e (I : Inp) (call : CallFn) (j : f88.Js) (v0 v1 : AVal) (h : AHeap) : Rs :=
  bndP (pEq P .false .ptr .true v0 .nilp h) fun v18 =>
  gV v18 .false v1 h fun v20 h1 =>
  gP v18 .false (pBin .lss v20 (Z 0)) h1 fun v21 h2 =>
  kP v18 bT v21 fun v22 =>
  gV v22 .false v1 h2 fun v24 h3 =>
  gV v22 .false v0 h3 fun v25 h4 =>
  gP v22 .false (pNilCheck v25) h4 fun v26 h5 =>
  gP v22 .false (pFieldAddr 4 v26) h5 fun v27 h6 =>
  gP v22 .false (pLoad1 I v27 h6) h6 fun v28 h7 =>
  gP v22 .false (pLenSl v28) h7 fun v29 h8 =>
  gP v22 .false (pBin .geq v24 v29) h8 fun v30 h9 =>
  kP v22 bT v30 fun v31 =>
  sCond v31 (
  j.1.1.1 v0 v1 h9) (
  some (.nils, h9))
def f88.J (I : Inp) (call : CallFn) (n : Nat) : f88.Js :=
  Nat.rec (motive := fun _ => f88.Js) (((Zr.z, (Zr.z, Zr.z)), ((Zr.z, Zr.z), (Zr.z, Zr.z))), ((Zr.z, (Zr.z, Zr.z)), ((Zr.z, Zr.z), (Zr.z, Zr.z)))) (fun _ j => (((f88.b0 I call j, (f88.b1 I call j, f88.b2 I call j)), ((f88.b3 I call j, f88.b4 I call j), (f88.b5 I call j, f88.b6 I call j))), ((f88.b7 I call j, (f88.b8 I call j, f88.b9 I call j)), ((f88.b10 I call j, f88.b11 I call j), (f88.b12 I call j, f88.b13 I call j))))) n
def f88.JS (I : Inp) (call : CallFn) (n : Nat) : Jmp := (fun j : f88.Js => jmp [Ap.ap j.1.1.1 [0, 1], Ap.ap j.1.1.2.1 [0, 1, 5, 6], Ap.ap j.1.1.2.2 [0, 1, 5, 6, 44, 45], Ap.ap j.1.2.1.1 [0, 1, 5, 6, 44, 45], Ap.ap j.1.2.1.2 [0, 1, 5, 6, 44, 45], Ap.ap j.1.2.2.1 [6], Ap.ap j.1.2.2.2 [5, 6, 8, 9, 10], Ap.ap j.2.1.1 [5, 6, 8, 9], Ap.ap j.2.1.2.1 [5, 6, 8, 9, 10, 75, 76, 77], Ap.ap j.2.1.2.2 [5, 6, 8, 9, 10, 75, 76, 77], Ap.ap j.2.2.1.1 [5, 6, 8, 9, 10, 75, 76, 77], Ap.ap j.2.2.1.2 [5, 6, 8, 9, 10, 13, 75, 76, 77, 95, 96, 97], Ap.ap j.2.2.2.1 [5, 6, 8, 9, 10, 13, 75, 76, 77, 95, 96, 97], Ap.ap j.2.2.2.2 [5, 6, 8, 9, 10, 13, 75, 76, 77, 95, 96, 97]]) (f88.J I call n)
theorem f88.S : SFn ⟨P, I, F⟩ call c88 (f88.JS I call) := .all 14 (by kernel_rfl) (fun ρ h => by kernel_rfl) (fun n ρ h => by kernel_rfl)
theorem f88.qe : Ap.all (f88.e I call (f88.J I call n)) (fun l h => execC P I call (f88.JS I call n) c88.body 0 (finV I c88.results) (argV l) h) := fun v0 v1 h => by kernel_rfl
theorem f88.code : codeOf P 88 = some c88 := by kernel_rfl
def f88.run (I : Inp) : SF := fun call n => Ap.ar (f88.e I call (f88.J I call n))
theorem f88.ok (I : Inp) (F : Nat → Option AFn) (hF : F 88 = some (.code c88)) : SfOk P I F 88 (f88.run I) := okOf hF (by kernel_rfl) (fun _ => f88.S) fun call n => f88.qe
/-! haruspex/bitset.Of -/
def c89 : AFunc := cOf P 89
abbrev f89.Js : Type := ((A1 × A4) × (A4 × A4))
def f89.b0 (I : Inp) (call : CallFn) (j : f89.Js) (v3 : AVal) (h : AHeap) : Rs :=
  some (v3, h)
def f89.b1 (I : Inp) (call : CallFn) (j : f89.Js) (v3 v8 v9 v10 : AVal) (h : AHeap) : Rs :=
  kB .lss v10 v9 fun v11 =>
  sCond v11 (
  j.1.1 v3 h) (
  j.2.1 v3 v8 v9 v10 h)
def f89.b2 (I : Inp) (call : CallFn) (j : f89.Js) (v3 v8 v9 v10 : AVal) (h : AHeap) : Rs :=
  kI 1 v8 v10 fun v12 =>
  kL I v12 h fun v13 =>
  kC call 93 [v3, v13] h fun v16 h1 =>
  j.2.2 v3 v8 v9 v10 h1
def f89.b3 (I : Inp) (call : CallFn) (j : f89.Js) (v3 v8 v9 v10 : AVal) (h : AHeap) : Rs :=
  kB .add v10 (Z 1) fun v17 =>
  j.1.2 v3 v8 v9 v17 h
def f89.e (I : Inp) (call : CallFn) (j : f89.Js) (v0 : AVal) (h : AHeap) : Rs :=
  bndP (pBuild [.nils] []) fun v6 =>
  bnd (sBox v6 h) fun v7 h1 =>
  kZ v0 fun v9 =>
  j.1.2 v7 v0 v9 (Z 0) h1
def f89.J (I : Inp) (call : CallFn) (n : Nat) : f89.Js :=
  Nat.rec (motive := fun _ => f89.Js) ((Zr.z, Zr.z), (Zr.z, Zr.z)) (fun _ j => ((f89.b0 I call j, f89.b1 I call j), (f89.b2 I call j, f89.b3 I call j))) n
def f89.JS (I : Inp) (call : CallFn) (n : Nat) : Jmp := (fun j : f89.Js => jmp [Ap.ap j.1.1 [3], Ap.ap j.1.2 [3, 8, 9, 10], Ap.ap j.2.1 [3, 8, 9, 10], Ap.ap j.2.2 [3, 8, 9, 10]]) (f89.J I call n)
theorem f89.S : SFn ⟨P, I, F⟩ call c89 (f89.JS I call) := .all 4 (by kernel_rfl) (fun ρ h => by kernel_rfl) (fun n ρ h => by kernel_rfl)
theorem f89.qe : Ap.all (f89.e I call (f89.J I call n)) (fun l h => execC P I call (f89.JS I call n) c89.body 0 (finV I c89.results) (argV l) h) := fun v0 h => by kernel_rfl
theorem f89.code : codeOf P 89 = some c89 := by kernel_rfl
def f89.run (I : Inp) : SF := fun call n => Ap.ar (f89.e I call (f89.J I call n))
theorem f89.ok (I : Inp) (F : Nat → Option AFn) (hF : F 89 = some (.code c89)) : SfOk P I F 89 (f89.run I) := okOf hF (by kernel_rfl) (fun _ => f89.S) fun call n => f89.qe
/-! haruspex/ir.Uses -/
def c90 : AFunc := cOf P 90
abbrev f90.Js : Type := (((A1 × (A2 × A2)) × (A2 × (A2 × A1))) × ((A3 × (A4 × A3)) × (A4 × (A3 × A4))))
def f90.b0 (I : Inp) (call : CallFn) (j : f90.Js) (v3 : AVal) (h : AHeap) : Rs :=
  some (v3, h)
def f90.b1 (I : Inp) (call : CallFn) (j : f90.Js) (v1 v3 : AVal) (h : AHeap) : Rs :=
  kF 5 v1 fun v38 =>
  kL I v38 h fun v39 =>
  bnd (sAppend I 1 8 v3 v39 h) fun v40 h1 =>
  j.1.1.1 v40 h1
def f90.b2 (I : Inp) (call : CallFn) (j : f90.Js) (v1 v3 : AVal) (h : AHeap) : Rs :=
  kF 2 v1 fun v33 =>
  kL I v33 h fun v34 =>
  bnd (sBuildSlice [(Z 0)] 1 [(0, 1, v34)] h) fun v35 h1 =>
  bnd (sAppend I 1 8 v3 v35 h1) fun v36 h2 =>
  j.1.1.2.1 v1 v36 h2
def f90.b3 (I : Inp) (call : CallFn) (j : f90.Js) (v1 v3 : AVal) (h : AHeap) : Rs :=
  kF 2 v1 fun v28 =>
  kL I v28 h fun v29 =>
  bnd (sBuildSlice [(Z 0)] 1 [(0, 1, v29)] h) fun v30 h1 =>
  bnd (sAppend I 1 8 v3 v30 h1) fun v31 h2 =>
  j.1.1.1 v31 h2
def f90.b4 (I : Inp) (call : CallFn) (j : f90.Js) (v1 v3 : AVal) (h : AHeap) : Rs :=
  kF 2 v1 fun v21 =>
  kL I v21 h fun v22 =>
  kF 3 v1 fun v23 =>
  kL I v23 h fun v24 =>
  bnd (sBuildSlice [(Z 0)] 2 [(0, 1, v22), (1, 1, v24)] h) fun v25 h1 =>
  bnd (sAppend I 1 8 v3 v25 h1) fun v26 h2 =>
  j.1.1.1 v26 h2
def f90.b5 (I : Inp) (call : CallFn) (j : f90.Js) (v3 : AVal) (h : AHeap) : Rs :=
  j.1.1.1 v3 h
def f90.b6 (I : Inp) (call : CallFn) (j : f90.Js) (v1 v3 v5 : AVal) (h : AHeap) : Rs :=
  kB .eql v5 (Z 6) fun v10 =>
  sCond v10 (
  kB .eql v5 (Z 7) fun v11 =>
  sCond v11 (
  kB .eql v5 (Z 9) fun v12 =>
  sCond v12 (
  kB .eql v5 (Z 11) fun v13 =>
  sCond v13 (
  kB .eql v5 (Z 15) fun v14 =>
  j.2.2.1 v1 v3 v5 v14 h) (
  j.2.2.1 v1 v3 v5 v13 h)) (
  j.2.2.1 v1 v3 v5 v12 h)) (
  j.2.2.1 v1 v3 v5 v11 h)) (
  j.2.2.1 v1 v3 v5 v10 h)
def f90.b7 (I : Inp) (call : CallFn) (j : f90.Js) (v1 v3 v5 v6 : AVal) (h : AHeap) : Rs :=
  sCond v6 (
  j.2.1.1 v1 v3 v5 h) (
  j.1.2.2.1 v1 v3 h)
def f90.b8 (I : Inp) (call : CallFn) (j : f90.Js) (v1 v3 v5 : AVal) (h : AHeap) : Rs :=
  kB .eql v5 (Z 13) fun v16 =>
  sCond v16 (
  kB .eql v5 (Z 14) fun v17 =>
  j.2.2.2.2 v1 v3 v5 v17 h) (
  j.2.2.2.2 v1 v3 v5 v16 h)
def f90.b9 (I : Inp) (call : CallFn) (j : f90.Js) (v1 v3 v5 v9 : AVal) (h : AHeap) : Rs :=
  sCond v9 (
  j.2.1.2.2 v1 v3 v5 h) (
  j.1.2.1 v1 v3 h)
def f90.b10 (I : Inp) (call : CallFn) (j : f90.Js) (v1 v3 v5 : AVal) (h : AHeap) : Rs :=
  kB .eql v5 (Z 12) fun v19 =>
  sCond v19 (
  j.1.2.2.2 v3 h) (
  j.1.1.2.1 v1 v3 h)
def f90.b11 (I : Inp) (call : CallFn) (j : f90.Js) (v1 v3 v5 v15 : AVal) (h : AHeap) : Rs :=
  sCond v15 (
  j.2.2.2.1 v1 v3 v5 h) (
  j.1.1.2.2 v1 v3 h)
def f90.e (I : Inp) (call : CallFn) (j : f90.Js) (v0 : AVal) (h : AHeap) : Rs :=
  bnd (sBox v0 h) fun v1 h1 =>
  kF 0 v1 fun v4 =>
  kL I v4 h1 fun v5 =>
  kB .eql v5 (Z 2) fun v7 =>
  sCond v7 (
  kB .eql v5 (Z 8) fun v8 =>
  j.2.1.2.1 v1 .nils v5 v8 h1) (
  j.2.1.2.1 v1 .nils v5 v7 h1)
def f90.J (I : Inp) (call : CallFn) (n : Nat) : f90.Js :=
  Nat.rec (motive := fun _ => f90.Js) (((Zr.z, (Zr.z, Zr.z)), (Zr.z, (Zr.z, Zr.z))), ((Zr.z, (Zr.z, Zr.z)), (Zr.z, (Zr.z, Zr.z)))) (fun _ j => (((f90.b0 I call j, (f90.b1 I call j, f90.b2 I call j)), (f90.b3 I call j, (f90.b4 I call j, f90.b5 I call j))), ((f90.b6 I call j, (f90.b7 I call j, f90.b8 I call j)), (f90.b9 I call j, (f90.b10 I call j, f90.b11 I call j))))) n
def f90.JS (I : Inp) (call : CallFn) (n : Nat) : Jmp := (fun j : f90.Js => jmp [Ap.ap j.1.1.1 [3], Ap.ap j.1.1.2.1 [1, 3], Ap.ap j.1.1.2.2 [1, 3], Ap.ap j.1.2.1 [1, 3], Ap.ap j.1.2.2.1 [1, 3], Ap.ap j.1.2.2.2 [3], Ap.ap j.2.1.1 [1, 3, 5], Ap.ap j.2.1.2.1 [1, 3, 5, 6], Ap.ap j.2.1.2.2 [1, 3, 5], Ap.ap j.2.2.1 [1, 3, 5, 9], Ap.ap j.2.2.2.1 [1, 3, 5], Ap.ap j.2.2.2.2 [1, 3, 5, 15]]) (f90.J I call n)
theorem f90.S : SFn ⟨P, I, F⟩ call c90 (f90.JS I call) := .all 12 (by kernel_rfl) (fun ρ h => by kernel_rfl) (fun n ρ h => by kernel_rfl)
theorem f90.qe : Ap.all (f90.e I call (f90.J I call n)) (fun l h => execC P I call (f90.JS I call n) c90.body 0 (finV I c90.results) (argV l) h) := fun v0 h => by kernel_rfl
theorem f90.code : codeOf P 90 = some c90 := by kernel_rfl
def f90.run (I : Inp) : SF := fun call n => Ap.ar (f90.e I call (f90.J I call n))
theorem f90.ok (I : Inp) (F : Nat → Option AFn) (hF : F 90 = some (.code c90)) : SfOk P I F 90 (f90.run I) := okOf hF (by kernel_rfl) (fun _ => f90.S) fun call n => f90.qe
end
end Go.Proofs.YtikjkhddkfkijaaGreatDoor.Sf
