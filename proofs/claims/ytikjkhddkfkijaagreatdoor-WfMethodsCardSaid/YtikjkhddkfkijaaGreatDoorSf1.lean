/- The functions of the program by their labels, on values, part 1: what they compute the abstract machine computes. Conditions: none. -/
import Derived.Test.YtikjkhddkfkijaaGreatDoorSf0
import Derived.Test.YtikjkhddkfkijaaGreatDoorProg
namespace Go.Proofs.YtikjkhddkfkijaaGreatDoor.Sf
open Go.AM
set_option linter.unusedVariables false
noncomputable section
variable {I : Inp} {F : Nat → Option AFn} {call : CallFn} {prims : Nat → Option Prim} {n : Nat} {h : AHeap} {Q : AVal → AHeap → Prop}
/-! (*haruspex/bitset.Set).In -/
def c91 : AFunc := cOf P 91
abbrev f91.Js : Type := ((A0 × A4) × (A4 × A4))
def f91.b0 (I : Inp) (call : CallFn) (j : f91.Js) (h : AHeap) : Rs :=
  some (bT, h)
def f91.b1 (I : Inp) (call : CallFn) (j : f91.Js) (v1 v8 v9 v10 : AVal) (h : AHeap) : Rs :=
  kB .lss v10 v9 fun v11 =>
  sCond v11 (
  j.1.1 h) (
  j.2.1 v1 v8 v9 v10 h)
def f91.b2 (I : Inp) (call : CallFn) (j : f91.Js) (v1 v8 v9 v10 : AVal) (h : AHeap) : Rs :=
  kI 1 v8 v10 fun v13 =>
  kL I v13 h fun v14 =>
  kC call 122 [v1, v10] h fun v18 h1 =>
  kB .andNot v14 v18 fun v19 =>
  kB .neq v19 (.int .u64 (.ofNat 0)) fun v20 =>
  sCond v20 (
  j.2.2 v1 v8 v9 v10 h1) (
  some (bF, h1))
def f91.b3 (I : Inp) (call : CallFn) (j : f91.Js) (v1 v8 v9 v10 : AVal) (h : AHeap) : Rs :=
  kB .add v10 (Z 1) fun v21 =>
  j.1.2 v1 v8 v9 v21 h
def f91.e (I : Inp) (call : CallFn) (j : f91.Js) (v0 v1 : AVal) (h : AHeap) : Rs :=
  kC call 128 [v0] h fun v8 h1 =>
  kZ v8 fun v9 =>
  j.1.2 v1 v8 v9 (Z 0) h1
def f91.J (I : Inp) (call : CallFn) (n : Nat) : f91.Js :=
  Nat.rec (motive := fun _ => f91.Js) ((Zr.z, Zr.z), (Zr.z, Zr.z)) (fun _ j => ((f91.b0 I call j, f91.b1 I call j), (f91.b2 I call j, f91.b3 I call j))) n
def f91.JS (I : Inp) (call : CallFn) (n : Nat) : Jmp := (fun j : f91.Js => jmp [Ap.ap j.1.1 [], Ap.ap j.1.2 [1, 8, 9, 10], Ap.ap j.2.1 [1, 8, 9, 10], Ap.ap j.2.2 [1, 8, 9, 10]]) (f91.J I call n)
theorem f91.S : SFn ⟨P, I, F⟩ call c91 (f91.JS I call) := .all 4 (by kernel_rfl) (fun ρ h => by kernel_rfl) (fun n ρ h => by kernel_rfl)
theorem f91.qe : Ap.all (f91.e I call (f91.J I call n)) (fun l h => execC P I call (f91.JS I call n) c91.body 0 (finV I c91.results) (argV l) h) := fun v0 v1 h => by kernel_rfl
theorem f91.code : codeOf P 91 = some c91 := by kernel_rfl
def f91.run (I : Inp) : SF := fun call n => Ap.ar (f91.e I call (f91.J I call n))
theorem f91.ok (I : Inp) (F : Nat → Option AFn) (hF : F 91 = some (.code c91)) : SfOk P I F 91 (f91.run I) := okOf hF (by kernel_rfl) (fun _ => f91.S) fun call n => f91.qe
/-! haruspex/ir.Def -/
def c92 : AFunc := cOf P 92
abbrev f92.Js : Type := (A1 × (A2 × A1))
def f92.b0 (I : Inp) (call : CallFn) (j : f92.Js) (v1 : AVal) (h : AHeap) : Rs :=
  kF 0 v1 fun v10 =>
  kL I v10 h fun v11 =>
  kB .lss v11 (Z 1) fun v12 =>
  gP v12 .false (pFieldAddr 0 v1) h fun v14 h1 =>
  gP v12 .false (pLoad1 I v14 h1) h1 fun v15 h2 =>
  gP v12 .false (pBin .gtr v15 (Z 15)) h2 fun v16 h3 =>
  kP v12 bT v16 fun v17 =>
  sCond v17 (
  j.2.2 v1 h3) (
  some (.tuple [(Z 0), bF], h3))
def f92.b1 (I : Inp) (call : CallFn) (j : f92.Js) (v1 v6 : AVal) (h : AHeap) : Rs :=
  sCond v6 (
  j.1 v1 h) (
  some (.tuple [(Z 0), bF], h))
def f92.b2 (I : Inp) (call : CallFn) (j : f92.Js) (v1 : AVal) (h : AHeap) : Rs :=
  kF 1 v1 fun v18 =>
  kL I v18 h fun v19 =>
  some (.tuple [v19, bT], h)
def f92.e (I : Inp) (call : CallFn) (j : f92.Js) (v0 : AVal) (h : AHeap) : Rs :=
  bnd (sBox v0 h) fun v1 h1 =>
  kF 0 v1 fun v4 =>
  kL I v4 h1 fun v5 =>
  kB .eql v5 (Z 8) fun v7 =>
  sCond v7 (
  kB .eql v5 (Z 9) fun v8 =>
  sCond v8 (
  kB .eql v5 (Z 15) fun v9 =>
  j.2.1 v1 v9 h1) (
  j.2.1 v1 v8 h1)) (
  j.2.1 v1 v7 h1)
def f92.J (I : Inp) (call : CallFn) (n : Nat) : f92.Js :=
  Nat.rec (motive := fun _ => f92.Js) (Zr.z, (Zr.z, Zr.z)) (fun _ j => (f92.b0 I call j, (f92.b1 I call j, f92.b2 I call j))) n
def f92.JS (I : Inp) (call : CallFn) (n : Nat) : Jmp := (fun j : f92.Js => jmp [Ap.ap j.1 [1], Ap.ap j.2.1 [1, 6], Ap.ap j.2.2 [1]]) (f92.J I call n)
theorem f92.S : SFn ⟨P, I, F⟩ call c92 (f92.JS I call) := .all 3 (by kernel_rfl) (fun ρ h => by kernel_rfl) (fun n ρ h => by kernel_rfl)
theorem f92.qe : Ap.all (f92.e I call (f92.J I call n)) (fun l h => execC P I call (f92.JS I call n) c92.body 0 (finV I c92.results) (argV l) h) := fun v0 h => by kernel_rfl
theorem f92.code : codeOf P 92 = some c92 := by kernel_rfl
def f92.run (I : Inp) : SF := fun call n => Ap.ar (f92.e I call (f92.J I call n))
theorem f92.ok (I : Inp) (F : Nat → Option AFn) (hF : F 92 = some (.code c92)) : SfOk P I F 92 (f92.run I) := okOf hF (by kernel_rfl) (fun _ => f92.S) fun call n => f92.qe
/-! (*haruspex/bitset.Set).Add -/
def c93 : AFunc := cOf P 93
abbrev f93.Js : Type := ((A2 × A2) × (A2 × A2))
def f93.b0 (I : Inp) (call : CallFn) (j : f93.Js) (v0 v1 : AVal) (h : AHeap) : Rs :=
  j.2.1 v0 v1 h
def f93.b1 (I : Inp) (call : CallFn) (j : f93.Js) (v0 v1 : AVal) (h : AHeap) : Rs :=
  kN v0 fun v38 =>
  kF 0 v38 fun v39 =>
  kL I v39 h fun v40 =>
  kB .quo v1 (Z 64) fun v42 =>
  kI 1 v40 v42 fun v43 =>
  kL I v43 h fun v44 =>
  kB .rem v1 (Z 64) fun v46 =>
  kB .shl (.int .u64 (.ofNat 1)) v46 fun v47 =>
  kB .or v44 v47 fun v48 =>
  kI 1 v40 v42 fun v49 =>
  kS 1 v49 v48 h fun _ h1 =>
  some (bT, h1)
def f93.b2 (I : Inp) (call : CallFn) (j : f93.Js) (v0 v1 : AVal) (h : AHeap) : Rs :=
  kN v0 fun v21 =>
  kF 0 v21 fun v22 =>
  kL I v22 h fun v23 =>
  kZ v23 fun v24 =>
  kB .quo v1 (Z 64) fun v26 =>
  kB .leq v24 v26 fun v27 =>
  sCond v27 (
  j.1.2 v0 v1 h) (
  j.2.2 v0 v1 h)
def f93.b3 (I : Inp) (call : CallFn) (j : f93.Js) (v0 v1 : AVal) (h : AHeap) : Rs :=
  kN v0 fun v30 =>
  kF 0 v30 fun v31 =>
  kL I v31 h fun v32 =>
  bnd (sBuildSlice [(.int .u64 (.ofNat 0))] 1 [(0, 1, (.int .u64 (.ofNat 0)))] h) fun v33 h1 =>
  bnd (sAppend I 1 8 v32 v33 h1) fun v34 h2 =>
  kN v0 fun v35 =>
  kF 0 v35 fun v36 =>
  kS 1 v36 v34 h2 fun _ h3 =>
  j.2.1 v0 v1 h3
def f93.e (I : Inp) (call : CallFn) (j : f93.Js) (v0 v1 : AVal) (h : AHeap) : Rs :=
  bndP (pEq P .false .ptr .true v0 .nilp h) fun v6 =>
  gV v6 .false v1 h fun v8 h1 =>
  gP v6 .false (pBin .lss v8 (Z 0)) h1 fun v9 h2 =>
  kP v6 bT v9 fun v10 =>
  gV v10 .false v1 h2 fun v12 h3 =>
  gP v10 .false (pBin .geq v12 (Z 5000)) h3 fun v13 h4 =>
  kP v10 bT v13 fun v14 =>
  gV v14 .false v0 h4 fun v16 h5 =>
  gV v14 .false v1 h5 fun v17 h6 =>
  gS v14 .false (call 87 [v16, v17] h6) h6 fun v18 h7 =>
  kP v14 bT v18 fun v19 =>
  sCond v19 (
  j.1.1 v0 v1 h7) (
  some (bF, h7))
def f93.J (I : Inp) (call : CallFn) (n : Nat) : f93.Js :=
  Nat.rec (motive := fun _ => f93.Js) ((Zr.z, Zr.z), (Zr.z, Zr.z)) (fun _ j => ((f93.b0 I call j, f93.b1 I call j), (f93.b2 I call j, f93.b3 I call j))) n
def f93.JS (I : Inp) (call : CallFn) (n : Nat) : Jmp := (fun j : f93.Js => jmp [Ap.ap j.1.1 [0, 1], Ap.ap j.1.2 [0, 1], Ap.ap j.2.1 [0, 1], Ap.ap j.2.2 [0, 1]]) (f93.J I call n)
theorem f93.S : SFn ⟨P, I, F⟩ call c93 (f93.JS I call) := .all 4 (by kernel_rfl) (fun ρ h => by kernel_rfl) (fun n ρ h => by kernel_rfl)
theorem f93.qe : Ap.all (f93.e I call (f93.J I call n)) (fun l h => execC P I call (f93.JS I call n) c93.body 0 (finV I c93.results) (argV l) h) := fun v0 v1 h => by kernel_rfl
theorem f93.code : codeOf P 93 = some c93 := by kernel_rfl
def f93.run (I : Inp) : SF := fun call n => Ap.ar (f93.e I call (f93.J I call n))
theorem f93.ok (I : Inp) (F : Nat → Option AFn) (hF : F 93 = some (.code c93)) : SfOk P I F 93 (f93.run I) := okOf hF (by kernel_rfl) (fun _ => f93.S) fun call n => f93.qe
/-! haruspex/assign.reads -/
def c94 : AFunc := cOf P 94
abbrev f94.Js : Type := A0
def f94.b0 (I : Inp) (call : CallFn) (j : f94.Js) (h : AHeap) : Rs :=
  some (.nils, h)
def f94.e (I : Inp) (call : CallFn) (j : f94.Js) (v0 : AVal) (h : AHeap) : Rs :=
  bnd (sBox v0 h) fun v1 h1 =>
  kF 1 v1 fun v3 =>
  kL I v3 h1 fun v4 =>
  kB .eql v4 (Z 2) fun v5 =>
  gP v5 .false (pFieldAddr 1 v1) h1 fun v7 h2 =>
  gP v5 .false (pLoad1 I v7 h2) h2 fun v8 h3 =>
  gP v5 .false (pBin .eql v8 (Z 3)) h3 fun v9 h4 =>
  kP v5 bT v9 fun v10 =>
  sCond v10 (
  j h4) (
  kF 2 v1 fun v11 =>
  kL I v11 h4 fun v12 =>
  bnd (sBuildSlice [(Z 0)] 1 [(0, 1, v12)] h4) fun v13 h5 =>
  some (v13, h5))
def f94.J (I : Inp) (call : CallFn) (n : Nat) : f94.Js :=
  Nat.rec (motive := fun _ => f94.Js) Zr.z (fun _ j => f94.b0 I call j) n
def f94.JS (I : Inp) (call : CallFn) (n : Nat) : Jmp := (fun j : f94.Js => jmp [Ap.ap j []]) (f94.J I call n)
theorem f94.S : SFn ⟨P, I, F⟩ call c94 (f94.JS I call) := .all 1 (by kernel_rfl) (fun ρ h => by kernel_rfl) (fun n ρ h => by kernel_rfl)
theorem f94.qe : Ap.all (f94.e I call (f94.J I call n)) (fun l h => execC P I call (f94.JS I call n) c94.body 0 (finV I c94.results) (argV l) h) := fun v0 h => by kernel_rfl
theorem f94.code : codeOf P 94 = some c94 := by kernel_rfl
def f94.run (I : Inp) : SF := fun call n => Ap.ar (f94.e I call (f94.J I call n))
theorem f94.ok (I : Inp) (F : Nat → Option AFn) (hF : F 94 = some (.code c94)) : SfOk P I F 94 (f94.run I) := okOf hF (by kernel_rfl) (fun _ => f94.S) fun call n => f94.qe
/-! (*haruspex/code.reader).size -/
def c98 : AFunc := cOf P 98
abbrev f98.Js : Type := A1
def f98.b0 (I : Inp) (call : CallFn) (j : f98.Js) (v3 : AVal) (h : AHeap) : Rs :=
  some (v3, h)
def f98.e (I : Inp) (call : CallFn) (j : f98.Js) (v0 : AVal) (h : AHeap) : Rs :=
  kC call 102 [v0] h fun v5 h1 =>
  kB .lss v5 (Z 0) fun v7 =>
  gV v7 .false v5 h1 fun v9 h2 =>
  gV v7 .false v0 h2 fun v10 h3 =>
  gP v7 .false (pNilCheck v10) h3 fun v11 h4 =>
  gP v7 .false (pFieldAddr 0 v11) h4 fun v12 h5 =>
  gP v7 .false (pLoad1 I v12 h5) h5 fun v13 h6 =>
  gP v7 .false (pLenSl v13) h6 fun v14 h7 =>
  gP v7 .false (pBin .gtr v9 v14) h7 fun v15 h8 =>
  kP v7 bT v15 fun v16 =>
  sCond v16 (
  j v5 h8) (
  kN v0 fun v19 =>
  kF 0 v19 fun v20 =>
  kS 1 v20 .nils h8 fun _ h9 =>
  kN v0 fun v21 =>
  kF 1 v21 fun v22 =>
  kS 1 v22 bT h9 fun _ h10 =>
  some ((Z 0), h10))
def f98.J (I : Inp) (call : CallFn) (n : Nat) : f98.Js :=
  Nat.rec (motive := fun _ => f98.Js) Zr.z (fun _ j => f98.b0 I call j) n
def f98.JS (I : Inp) (call : CallFn) (n : Nat) : Jmp := (fun j : f98.Js => jmp [Ap.ap j [3]]) (f98.J I call n)
theorem f98.S : SFn ⟨P, I, F⟩ call c98 (f98.JS I call) := .all 1 (by kernel_rfl) (fun ρ h => by kernel_rfl) (fun n ρ h => by kernel_rfl)
theorem f98.qe : Ap.all (f98.e I call (f98.J I call n)) (fun l h => execC P I call (f98.JS I call n) c98.body 0 (finV I c98.results) (argV l) h) := fun v0 h => by kernel_rfl
theorem f98.code : codeOf P 98 = some c98 := by kernel_rfl
def f98.run (I : Inp) : SF := fun call n => Ap.ar (f98.e I call (f98.J I call n))
theorem f98.ok (I : Inp) (F : Nat → Option AFn) (hF : F 98 = some (.code c98)) : SfOk P I F 98 (f98.run I) := okOf hF (by kernel_rfl) (fun _ => f98.S) fun call n => f98.qe
/-! (*haruspex/code.reader).types -/
def c99 : AFunc := cOf P 99
abbrev f99.Js : Type := ((A1 × A3) × (A3 × A3))
def f99.b0 (I : Inp) (call : CallFn) (j : f99.Js) (v3 : AVal) (h : AHeap) : Rs :=
  some (v3, h)
def f99.b1 (I : Inp) (call : CallFn) (j : f99.Js) (v0 v3 v4 : AVal) (h : AHeap) : Rs :=
  kB .gtr v4 (Z 0) fun v8 =>
  gV v8 .true v0 h fun v10 h1 =>
  gP v8 .true (pNilCheck v10) h1 fun v11 h2 =>
  gP v8 .true (pFieldAddr 1 v11) h2 fun v12 h3 =>
  gP v8 .true (pLoad1 I v12 h3) h3 fun v13 h4 =>
  gP v8 .true (pUn .not v13) h4 fun v14 h5 =>
  kP v8 v14 bF fun v15 =>
  sCond v15 (
  j.1.1 v3 h5) (
  j.2.1 v0 v3 v4 h5)
def f99.b2 (I : Inp) (call : CallFn) (j : f99.Js) (v0 v3 v4 : AVal) (h : AHeap) : Rs :=
  kC call 100 [v0] h fun v20 h1 =>
  bnd (sBuildSlice [(Z 0), (Z 0)] 1 [(0, 2, v20)] h1) fun v21 h2 =>
  bnd (sAppend I 2 16 v3 v21 h2) fun v22 h3 =>
  j.2.2 v0 v22 v4 h3
def f99.b3 (I : Inp) (call : CallFn) (j : f99.Js) (v0 v3 v4 : AVal) (h : AHeap) : Rs :=
  kB .sub v4 (Z 1) fun v17 =>
  j.1.2 v0 v3 v17 h
def f99.e (I : Inp) (call : CallFn) (j : f99.Js) (v0 : AVal) (h : AHeap) : Rs :=
  kC call 98 [v0] h fun v6 h1 =>
  j.1.2 v0 .nils v6 h1
def f99.J (I : Inp) (call : CallFn) (n : Nat) : f99.Js :=
  Nat.rec (motive := fun _ => f99.Js) ((Zr.z, Zr.z), (Zr.z, Zr.z)) (fun _ j => ((f99.b0 I call j, f99.b1 I call j), (f99.b2 I call j, f99.b3 I call j))) n
def f99.JS (I : Inp) (call : CallFn) (n : Nat) : Jmp := (fun j : f99.Js => jmp [Ap.ap j.1.1 [3], Ap.ap j.1.2 [0, 3, 4], Ap.ap j.2.1 [0, 3, 4], Ap.ap j.2.2 [0, 3, 4]]) (f99.J I call n)
theorem f99.S : SFn ⟨P, I, F⟩ call c99 (f99.JS I call) := .all 4 (by kernel_rfl) (fun ρ h => by kernel_rfl) (fun n ρ h => by kernel_rfl)
theorem f99.qe : Ap.all (f99.e I call (f99.J I call n)) (fun l h => execC P I call (f99.JS I call n) c99.body 0 (finV I c99.results) (argV l) h) := fun v0 h => by kernel_rfl
theorem f99.code : codeOf P 99 = some c99 := by kernel_rfl
def f99.run (I : Inp) : SF := fun call n => Ap.ar (f99.e I call (f99.J I call n))
theorem f99.ok (I : Inp) (F : Nat → Option AFn) (hF : F 99 = some (.code c99)) : SfOk P I F 99 (f99.run I) := okOf hF (by kernel_rfl) (fun _ => f99.S) fun call n => f99.qe
/-! (*haruspex/code.reader).typ -/
def c100 : AFunc := cOf P 100
abbrev f100.Js : Type := Unit
def f100.e (I : Inp) (call : CallFn) (j : f100.Js) (v0 : AVal) (h : AHeap) : Rs :=
  kA [(Z 0), (Z 0)] h fun v2 h1 =>
  kC call 102 [v0] h1 fun v5 h2 =>
  kC call 102 [v0] h2 fun v8 h3 =>
  bndP (pBuild [(Z 0), (Z 0)] [(0, 1, v5), (1, 1, v8)]) fun v9 =>
  kS 2 v2 v9 h3 fun _ h4 =>
  sRet (sCons (sResN I 2 v2 h4) (some [])) h4
theorem f100.S : SFn ⟨P, I, F⟩ call c100 (fun _ => jmp []) := .all 0 (by kernel_rfl) (fun ρ h => by kernel_rfl) (fun n ρ h => by kernel_rfl)
theorem f100.qe : Ap.all (f100.e I call ()) (fun l h => execC P I call (jmp []) c100.body 0 (finV I c100.results) (argV l) h) := fun v0 h => by kernel_rfl
theorem f100.code : codeOf P 100 = some c100 := by kernel_rfl
def f100.run (I : Inp) : SF := fun call n => Ap.ar (f100.e I call ())
theorem f100.ok (I : Inp) (F : Nat → Option AFn) (hF : F 100 = some (.code c100)) : SfOk P I F 100 (f100.run I) := okOf hF (by kernel_rfl) (fun _ => f100.S) fun call n => f100.qe
/-! (*haruspex/code.reader).nums -/
def c101 : AFunc := cOf P 101
abbrev f101.Js : Type := ((A1 × A3) × (A3 × A3))
def f101.b0 (I : Inp) (call : CallFn) (j : f101.Js) (v3 : AVal) (h : AHeap) : Rs :=
  some (v3, h)
def f101.b1 (I : Inp) (call : CallFn) (j : f101.Js) (v0 v3 v4 : AVal) (h : AHeap) : Rs :=
  kB .gtr v4 (Z 0) fun v8 =>
  gV v8 .true v0 h fun v10 h1 =>
  gP v8 .true (pNilCheck v10) h1 fun v11 h2 =>
  gP v8 .true (pFieldAddr 1 v11) h2 fun v12 h3 =>
  gP v8 .true (pLoad1 I v12 h3) h3 fun v13 h4 =>
  gP v8 .true (pUn .not v13) h4 fun v14 h5 =>
  kP v8 v14 bF fun v15 =>
  sCond v15 (
  j.1.1 v3 h5) (
  j.2.1 v0 v3 v4 h5)
def f101.b2 (I : Inp) (call : CallFn) (j : f101.Js) (v0 v3 v4 : AVal) (h : AHeap) : Rs :=
  kC call 102 [v0] h fun v20 h1 =>
  bnd (sBuildSlice [(Z 0)] 1 [(0, 1, v20)] h1) fun v21 h2 =>
  bnd (sAppend I 1 8 v3 v21 h2) fun v22 h3 =>
  j.2.2 v0 v22 v4 h3
def f101.b3 (I : Inp) (call : CallFn) (j : f101.Js) (v0 v3 v4 : AVal) (h : AHeap) : Rs :=
  kB .sub v4 (Z 1) fun v17 =>
  j.1.2 v0 v3 v17 h
def f101.e (I : Inp) (call : CallFn) (j : f101.Js) (v0 : AVal) (h : AHeap) : Rs :=
  kC call 98 [v0] h fun v6 h1 =>
  j.1.2 v0 .nils v6 h1
def f101.J (I : Inp) (call : CallFn) (n : Nat) : f101.Js :=
  Nat.rec (motive := fun _ => f101.Js) ((Zr.z, Zr.z), (Zr.z, Zr.z)) (fun _ j => ((f101.b0 I call j, f101.b1 I call j), (f101.b2 I call j, f101.b3 I call j))) n
def f101.JS (I : Inp) (call : CallFn) (n : Nat) : Jmp := (fun j : f101.Js => jmp [Ap.ap j.1.1 [3], Ap.ap j.1.2 [0, 3, 4], Ap.ap j.2.1 [0, 3, 4], Ap.ap j.2.2 [0, 3, 4]]) (f101.J I call n)
theorem f101.S : SFn ⟨P, I, F⟩ call c101 (f101.JS I call) := .all 4 (by kernel_rfl) (fun ρ h => by kernel_rfl) (fun n ρ h => by kernel_rfl)
theorem f101.qe : Ap.all (f101.e I call (f101.J I call n)) (fun l h => execC P I call (f101.JS I call n) c101.body 0 (finV I c101.results) (argV l) h) := fun v0 h => by kernel_rfl
theorem f101.code : codeOf P 101 = some c101 := by kernel_rfl
def f101.run (I : Inp) : SF := fun call n => Ap.ar (f101.e I call (f101.J I call n))
theorem f101.ok (I : Inp) (F : Nat → Option AFn) (hF : F 101 = some (.code c101)) : SfOk P I F 101 (f101.run I) := okOf hF (by kernel_rfl) (fun _ => f101.S) fun call n => f101.qe
/-! (*haruspex/code.reader).num -/
def c102 : AFunc := cOf P 102
abbrev f102.Js : Type := ((A1 × (A5 × A5)) × ((A5 × A4) × (A3 × A1)))
def f102.b0 (I : Inp) (call : CallFn) (j : f102.Js) (v0 : AVal) (h : AHeap) : Rs :=
  kN v0 fun v70 =>
  kF 0 v70 fun v71 =>
  kS 1 v71 .nils h fun _ h1 =>
  kN v0 fun v72 =>
  kF 1 v72 fun v73 =>
  kS 1 v73 bT h1 fun _ h2 =>
  some ((Z 0), h2)
def f102.b1 (I : Inp) (call : CallFn) (j : f102.Js) (v0 v3 v16 v17 v18 : AVal) (h : AHeap) : Rs :=
  kB .lss v18 v17 fun v19 =>
  sCond v19 (
  j.1.1 v0 h) (
  j.1.2.2 v0 v3 v16 v17 v18 h)
def f102.b2 (I : Inp) (call : CallFn) (j : f102.Js) (v0 v3 v16 v17 v18 : AVal) (h : AHeap) : Rs :=
  kI 1 v16 v18 fun v21 =>
  kL I v21 h fun v22 =>
  kB .and v22 (.int .u8 (.ofNat 127)) fun v25 =>
  bndP (pToInt .u64 v25) fun v26 =>
  kB .mul (Z 7) v18 fun v28 =>
  kB .shl v26 v28 fun v29 =>
  kB .or v3 v29 fun v30 =>
  kB .gtr v22 (.int .u8 (.ofNat 127)) fun v32 =>
  sCond v32 (
  j.2.1.2 v0 v30 v18 v22 h) (
  j.2.1.1 v0 v30 v16 v17 v18 h)
def f102.b3 (I : Inp) (call : CallFn) (j : f102.Js) (v0 v3 v16 v17 v18 : AVal) (h : AHeap) : Rs :=
  kB .add v18 (Z 1) fun v67 =>
  j.1.2.1 v0 v3 v16 v17 v67 h
def f102.b4 (I : Inp) (call : CallFn) (j : f102.Js) (v0 v3 v4 v5 : AVal) (h : AHeap) : Rs :=
  kB .gtr v4 (Z 0) fun v34 =>
  gV v34 .true v5 h fun v36 h1 =>
  gP v34 .true (pBin .eql v36 (.int .u8 (.ofNat 0))) h1 fun v37 h2 =>
  kP v34 v37 bF fun v38 =>
  gV v38 .false v4 h2 fun v40 h3 =>
  gP v38 .false (pBin .eql v40 (Z 9)) h3 fun v41 h4 =>
  gV v38 .false v41 h4 fun v42 h5 =>
  gV v42 .true v5 h5 fun v43 h6 =>
  gP v42 .true (pBin .gtr v43 (.int .u8 (.ofNat 1))) h6 fun v44 h7 =>
  gP v38 .false (pPick v42 v44 bF) h7 fun v45 h8 =>
  kP v38 bT v45 fun v46 =>
  sCond v46 (
  j.2.2.1 v0 v3 v4 h8) (
  j.1.1 v0 h8)
def f102.b5 (I : Inp) (call : CallFn) (j : f102.Js) (v0 v3 v4 : AVal) (h : AHeap) : Rs :=
  kN v0 fun v49 =>
  kF 0 v49 fun v50 =>
  kL I v50 h fun v51 =>
  kB .add v4 (Z 1) fun v53 =>
  bndP (pSliceS 1 v51 (some v53) none none) fun v54 =>
  kN v0 fun v55 =>
  kF 0 v55 fun v56 =>
  kS 1 v56 v54 h fun _ h1 =>
  kB .and v3 (.int .u64 (.ofNat 1)) fun v58 =>
  kB .eql v58 (.int .u64 (.ofNat 1)) fun v59 =>
  sCond v59 (
  j.2.2.2 v3 h1) (
  kB .shr v3 (.int .u64 (.ofNat 1)) fun v61 =>
  kU .xor v61 fun v62 =>
  bndP (pToInt .i64 v62) fun v63 =>
  some (v63, h1))
def f102.b6 (I : Inp) (call : CallFn) (j : f102.Js) (v3 : AVal) (h : AHeap) : Rs :=
  kB .shr v3 (.int .u64 (.ofNat 1)) fun v65 =>
  bndP (pToInt .i64 v65) fun v66 =>
  some (v66, h)
def f102.e (I : Inp) (call : CallFn) (j : f102.Js) (v0 : AVal) (h : AHeap) : Rs :=
  kN v0 fun v7 =>
  kF 0 v7 fun v8 =>
  kL I v8 h fun v9 =>
  kN v0 fun v11 =>
  kF 0 v11 fun v12 =>
  kL I v12 h fun v13 =>
  kZ v13 fun v14 =>
  bndP (pMinmax .false [v14, (Z 10)]) fun v15 =>
  bndP (pSliceS 1 v9 none (some v15) none) fun v16 =>
  kZ v16 fun v17 =>
  j.1.2.1 v0 (.int .u64 (.ofNat 0)) v16 v17 (Z 0) h
def f102.J (I : Inp) (call : CallFn) (n : Nat) : f102.Js :=
  Nat.rec (motive := fun _ => f102.Js) ((Zr.z, (Zr.z, Zr.z)), ((Zr.z, Zr.z), (Zr.z, Zr.z))) (fun _ j => ((f102.b0 I call j, (f102.b1 I call j, f102.b2 I call j)), ((f102.b3 I call j, f102.b4 I call j), (f102.b5 I call j, f102.b6 I call j)))) n
def f102.JS (I : Inp) (call : CallFn) (n : Nat) : Jmp := (fun j : f102.Js => jmp [Ap.ap j.1.1 [0], Ap.ap j.1.2.1 [0, 3, 16, 17, 18], Ap.ap j.1.2.2 [0, 3, 16, 17, 18], Ap.ap j.2.1.1 [0, 3, 16, 17, 18], Ap.ap j.2.1.2 [0, 3, 4, 5], Ap.ap j.2.2.1 [0, 3, 4], Ap.ap j.2.2.2 [3]]) (f102.J I call n)
theorem f102.S : SFn ⟨P, I, F⟩ call c102 (f102.JS I call) := .all 7 (by kernel_rfl) (fun ρ h => by kernel_rfl) (fun n ρ h => by kernel_rfl)
theorem f102.qe : Ap.all (f102.e I call (f102.J I call n)) (fun l h => execC P I call (f102.JS I call n) c102.body 0 (finV I c102.results) (argV l) h) := fun v0 h => by kernel_rfl
theorem f102.code : codeOf P 102 = some c102 := by kernel_rfl
def f102.run (I : Inp) : SF := fun call n => Ap.ar (f102.e I call (f102.J I call n))
theorem f102.ok (I : Inp) (F : Nat → Option AFn) (hF : F 102 = some (.code c102)) : SfOk P I F 102 (f102.run I) := okOf hF (by kernel_rfl) (fun _ => f102.S) fun call n => f102.qe
/-! (*haruspex/code.reader).fn -/
def c103 : AFunc := cOf P 103
abbrev f103.Js : Type := ((A2 × A4) × (A4 × A4))
def f103.b0 (I : Inp) (call : CallFn) (j : f103.Js) (v2 v3 : AVal) (h : AHeap) : Rs :=
  kM I 3 v3 h fun v31 =>
  kS 3 v2 v31 h fun _ h1 =>
  sRet (sCons (sResN I 3 v2 h1) (some [])) h1
def f103.b1 (I : Inp) (call : CallFn) (j : f103.Js) (v0 v2 v3 v4 : AVal) (h : AHeap) : Rs :=
  kB .gtr v4 (Z 0) fun v14 =>
  gV v14 .true v0 h fun v16 h1 =>
  gP v14 .true (pNilCheck v16) h1 fun v17 h2 =>
  gP v14 .true (pFieldAddr 1 v17) h2 fun v18 h3 =>
  gP v14 .true (pLoad1 I v18 h3) h3 fun v19 h4 =>
  gP v14 .true (pUn .not v19) h4 fun v20 h5 =>
  kP v14 v20 bF fun v21 =>
  sCond v21 (
  j.1.1 v2 v3 h5) (
  j.2.1 v0 v2 v3 v4 h5)
def f103.b2 (I : Inp) (call : CallFn) (j : f103.Js) (v0 v2 v3 v4 : AVal) (h : AHeap) : Rs :=
  kF 2 v3 fun v24 =>
  kL I v24 h fun v25 =>
  kC call 129 [v0] h fun v27 h1 =>
  bnd (sBuildSlice [.nils, (Z 0), (Z 0), (Z 0), (Z 0)] 1 [(0, 5, v27)] h1) fun v28 h2 =>
  bnd (sAppend I 5 56 v25 v28 h2) fun v29 h3 =>
  kF 2 v3 fun v30 =>
  kS 1 v30 v29 h3 fun _ h4 =>
  sCheck (sSame (lift (pLoad1 I v24 h1) h1) v25 && (sSame (lift (pLoad1 I v24 h2) h2) v25 && true)) (
  j.2.2 v0 v2 v3 v4 h4)
def f103.b3 (I : Inp) (call : CallFn) (j : f103.Js) (v0 v2 v3 v4 : AVal) (h : AHeap) : Rs :=
  kB .sub v4 (Z 1) fun v23 =>
  j.1.2 v0 v2 v3 v23 h
def f103.e (I : Inp) (call : CallFn) (j : f103.Js) (v0 : AVal) (h : AHeap) : Rs :=
  kA [(Z 0), .nils, .nils] h fun v2 h1 =>
  kC call 102 [v0] h1 fun v6 h2 =>
  bndP (pBuild [(Z 0), .nils, .nils] [(0, 1, v6)]) fun v7 =>
  kA [(Z 0), .nils, .nils] h2 fun v3 h3 =>
  kS 3 v3 v7 h3 fun _ h4 =>
  kC call 99 [v0] h4 fun v9 h5 =>
  kF 1 v3 fun v10 =>
  kS 1 v10 v9 h5 fun _ h6 =>
  kC call 98 [v0] h6 fun v12 h7 =>
  j.1.2 v0 v2 v3 v12 h7
def f103.J (I : Inp) (call : CallFn) (n : Nat) : f103.Js :=
  Nat.rec (motive := fun _ => f103.Js) ((Zr.z, Zr.z), (Zr.z, Zr.z)) (fun _ j => ((f103.b0 I call j, f103.b1 I call j), (f103.b2 I call j, f103.b3 I call j))) n
def f103.JS (I : Inp) (call : CallFn) (n : Nat) : Jmp := (fun j : f103.Js => jmp [Ap.ap j.1.1 [2, 3], Ap.ap j.1.2 [0, 2, 3, 4], Ap.ap j.2.1 [0, 2, 3, 4], Ap.ap j.2.2 [0, 2, 3, 4]]) (f103.J I call n)
theorem f103.S : SFn ⟨P, I, F⟩ call c103 (f103.JS I call) := .all 4 (by kernel_rfl) (fun ρ h => by kernel_rfl) (fun n ρ h => by kernel_rfl)
theorem f103.qe : Ap.all (f103.e I call (f103.J I call n)) (fun l h => execC P I call (f103.JS I call n) c103.body 0 (finV I c103.results) (argV l) h) := fun v0 h => by kernel_rfl
theorem f103.code : codeOf P 103 = some c103 := by kernel_rfl
def f103.run (I : Inp) : SF := fun call n => Ap.ar (f103.e I call (f103.J I call n))
theorem f103.ok (I : Inp) (F : Nat → Option AFn) (hF : F 103 = some (.code c103)) : SfOk P I F 103 (f103.run I) := okOf hF (by kernel_rfl) (fun _ => f103.S) fun call n => f103.qe
/-! (*haruspex/code.writer).num -/
def c104 : AFunc := cOf P 104
abbrev f104.Js : Type := ((A2 × A2) × (A2 × A2))
def f104.b0 (I : Inp) (call : CallFn) (j : f104.Js) (v0 v4 : AVal) (h : AHeap) : Rs :=
  j.2.1 v0 v4 h
def f104.b1 (I : Inp) (call : CallFn) (j : f104.Js) (v0 v4 : AVal) (h : AHeap) : Rs :=
  kN v0 fun v30 =>
  kF 0 v30 fun v31 =>
  kL I v31 h fun v32 =>
  bndP (pToInt .u8 v4) fun v34 =>
  bnd (sBuildSlice [(.int .u8 (.ofNat 0))] 1 [(0, 1, v34)] h) fun v35 h1 =>
  bnd (sAppend I 1 1 v32 v35 h1) fun v36 h2 =>
  kN v0 fun v37 =>
  kF 0 v37 fun v38 =>
  kS 1 v38 v36 h2 fun _ h3 =>
  some (.tuple [], h3)
def f104.b2 (I : Inp) (call : CallFn) (j : f104.Js) (v0 v4 : AVal) (h : AHeap) : Rs :=
  kB .gtr v4 (.int .u64 (.ofNat 127)) fun v13 =>
  sCond v13 (
  j.1.2 v0 v4 h) (
  j.2.2 v0 v4 h)
def f104.b3 (I : Inp) (call : CallFn) (j : f104.Js) (v0 v4 : AVal) (h : AHeap) : Rs :=
  kN v0 fun v16 =>
  kF 0 v16 fun v17 =>
  kL I v17 h fun v18 =>
  bndP (pToInt .u8 v4) fun v20 =>
  kB .or v20 (.int .u8 (.ofNat 128)) fun v21 =>
  bnd (sBuildSlice [(.int .u8 (.ofNat 0))] 1 [(0, 1, v21)] h) fun v22 h1 =>
  bnd (sAppend I 1 1 v18 v22 h1) fun v23 h2 =>
  kN v0 fun v24 =>
  kF 0 v24 fun v25 =>
  kS 1 v25 v23 h2 fun _ h3 =>
  kB .shr v4 (.int .u64 (.ofNat 7)) fun v27 =>
  j.2.1 v0 v27 h3
def f104.e (I : Inp) (call : CallFn) (j : f104.Js) (v0 v1 : AVal) (h : AHeap) : Rs :=
  bndP (pToInt .u64 v1) fun v6 =>
  kB .shl v6 (.int .u64 (.ofNat 1)) fun v7 =>
  kB .lss v1 (Z 0) fun v9 =>
  sCond v9 (
  j.1.1 v0 v7 h) (
  kU .xor v7 fun v11 =>
  j.1.1 v0 v11 h)
def f104.J (I : Inp) (call : CallFn) (n : Nat) : f104.Js :=
  Nat.rec (motive := fun _ => f104.Js) ((Zr.z, Zr.z), (Zr.z, Zr.z)) (fun _ j => ((f104.b0 I call j, f104.b1 I call j), (f104.b2 I call j, f104.b3 I call j))) n
def f104.JS (I : Inp) (call : CallFn) (n : Nat) : Jmp := (fun j : f104.Js => jmp [Ap.ap j.1.1 [0, 4], Ap.ap j.1.2 [0, 4], Ap.ap j.2.1 [0, 4], Ap.ap j.2.2 [0, 4]]) (f104.J I call n)
theorem f104.S : SFn ⟨P, I, F⟩ call c104 (f104.JS I call) := .all 4 (by kernel_rfl) (fun ρ h => by kernel_rfl) (fun n ρ h => by kernel_rfl)
theorem f104.qe : Ap.all (f104.e I call (f104.J I call n)) (fun l h => execC P I call (f104.JS I call n) c104.body 0 (finV I c104.results) (argV l) h) := fun v0 v1 h => by kernel_rfl
theorem f104.code : codeOf P 104 = some c104 := by kernel_rfl
def f104.run (I : Inp) : SF := fun call n => Ap.ar (f104.e I call (f104.J I call n))
theorem f104.ok (I : Inp) (F : Nat → Option AFn) (hF : F 104 = some (.code c104)) : SfOk P I F 104 (f104.run I) := okOf hF (by kernel_rfl) (fun _ => f104.S) fun call n => f104.qe
/-! (*haruspex/code.writer).types -/
def c105 : AFunc := cOf P 105
abbrev f105.Js : Type := (A4 × (A4 × A4))
def f105.b0 (I : Inp) (call : CallFn) (j : f105.Js) (v0 v10 v11 v12 : AVal) (h : AHeap) : Rs :=
  kB .lss v12 v11 fun v13 =>
  sCond v13 (
  some (.tuple [], h)) (
  j.2.1 v0 v10 v11 v12 h)
def f105.b1 (I : Inp) (call : CallFn) (j : f105.Js) (v0 v10 v11 v12 : AVal) (h : AHeap) : Rs :=
  kI 2 v10 v12 fun v14 =>
  kM I 2 v14 h fun v15 =>
  kA [(Z 0), (Z 0)] h fun v5 h1 =>
  kS 2 v5 v15 h1 fun _ h2 =>
  kF 0 v5 fun v17 =>
  kL I v17 h2 fun v18 =>
  kC call 104 [v0, v18] h2 fun v19 h3 =>
  kF 1 v5 fun v21 =>
  kL I v21 h3 fun v22 =>
  kC call 104 [v0, v22] h3 fun v23 h4 =>
  j.2.2 v0 v10 v11 v12 h4
def f105.b2 (I : Inp) (call : CallFn) (j : f105.Js) (v0 v10 v11 v12 : AVal) (h : AHeap) : Rs :=
  kB .add v12 (Z 1) fun v24 =>
  j.1 v0 v10 v11 v24 h
def f105.e (I : Inp) (call : CallFn) (j : f105.Js) (v0 v1 : AVal) (h : AHeap) : Rs :=
  kZ v1 fun v8 =>
  kC call 104 [v0, v8] h fun v9 h1 =>
  kZ v1 fun v11 =>
  j.1 v0 v1 v11 (Z 0) h1
def f105.J (I : Inp) (call : CallFn) (n : Nat) : f105.Js :=
  Nat.rec (motive := fun _ => f105.Js) (Zr.z, (Zr.z, Zr.z)) (fun _ j => (f105.b0 I call j, (f105.b1 I call j, f105.b2 I call j))) n
def f105.JS (I : Inp) (call : CallFn) (n : Nat) : Jmp := (fun j : f105.Js => jmp [Ap.ap j.1 [0, 10, 11, 12], Ap.ap j.2.1 [0, 10, 11, 12], Ap.ap j.2.2 [0, 10, 11, 12]]) (f105.J I call n)
theorem f105.S : SFn ⟨P, I, F⟩ call c105 (f105.JS I call) := .all 3 (by kernel_rfl) (fun ρ h => by kernel_rfl) (fun n ρ h => by kernel_rfl)
theorem f105.qe : Ap.all (f105.e I call (f105.J I call n)) (fun l h => execC P I call (f105.JS I call n) c105.body 0 (finV I c105.results) (argV l) h) := fun v0 v1 h => by kernel_rfl
theorem f105.code : codeOf P 105 = some c105 := by kernel_rfl
def f105.run (I : Inp) : SF := fun call n => Ap.ar (f105.e I call (f105.J I call n))
theorem f105.ok (I : Inp) (F : Nat → Option AFn) (hF : F 105 = some (.code c105)) : SfOk P I F 105 (f105.run I) := okOf hF (by kernel_rfl) (fun _ => f105.S) fun call n => f105.qe
/-! (*haruspex/code.writer).nums -/
def c106 : AFunc := cOf P 106
abbrev f106.Js : Type := (A4 × (A4 × A4))
def f106.b0 (I : Inp) (call : CallFn) (j : f106.Js) (v0 v10 v11 v12 : AVal) (h : AHeap) : Rs :=
  kB .lss v12 v11 fun v13 =>
  sCond v13 (
  some (.tuple [], h)) (
  j.2.1 v0 v10 v11 v12 h)
def f106.b1 (I : Inp) (call : CallFn) (j : f106.Js) (v0 v10 v11 v12 : AVal) (h : AHeap) : Rs :=
  kI 1 v10 v12 fun v14 =>
  kL I v14 h fun v15 =>
  kC call 104 [v0, v15] h fun v18 h1 =>
  j.2.2 v0 v10 v11 v12 h1
def f106.b2 (I : Inp) (call : CallFn) (j : f106.Js) (v0 v10 v11 v12 : AVal) (h : AHeap) : Rs :=
  kB .add v12 (Z 1) fun v19 =>
  j.1 v0 v10 v11 v19 h
def f106.e (I : Inp) (call : CallFn) (j : f106.Js) (v0 v1 : AVal) (h : AHeap) : Rs :=
  kZ v1 fun v8 =>
  kC call 104 [v0, v8] h fun v9 h1 =>
  kZ v1 fun v11 =>
  j.1 v0 v1 v11 (Z 0) h1
def f106.J (I : Inp) (call : CallFn) (n : Nat) : f106.Js :=
  Nat.rec (motive := fun _ => f106.Js) (Zr.z, (Zr.z, Zr.z)) (fun _ j => (f106.b0 I call j, (f106.b1 I call j, f106.b2 I call j))) n
def f106.JS (I : Inp) (call : CallFn) (n : Nat) : Jmp := (fun j : f106.Js => jmp [Ap.ap j.1 [0, 10, 11, 12], Ap.ap j.2.1 [0, 10, 11, 12], Ap.ap j.2.2 [0, 10, 11, 12]]) (f106.J I call n)
theorem f106.S : SFn ⟨P, I, F⟩ call c106 (f106.JS I call) := .all 3 (by kernel_rfl) (fun ρ h => by kernel_rfl) (fun n ρ h => by kernel_rfl)
theorem f106.qe : Ap.all (f106.e I call (f106.J I call n)) (fun l h => execC P I call (f106.JS I call n) c106.body 0 (finV I c106.results) (argV l) h) := fun v0 v1 h => by kernel_rfl
theorem f106.code : codeOf P 106 = some c106 := by kernel_rfl
def f106.run (I : Inp) : SF := fun call n => Ap.ar (f106.e I call (f106.J I call n))
theorem f106.ok (I : Inp) (F : Nat → Option AFn) (hF : F 106 = some (.code c106)) : SfOk P I F 106 (f106.run I) := okOf hF (by kernel_rfl) (fun _ => f106.S) fun call n => f106.qe
/-! (*haruspex/code.writer).fn -/
def c107 : AFunc := cOf P 107
abbrev f107.Js : Type := (((A4 × (A4 × A4)) × ((A5 × A8) × (A8 × A8))) × ((A9 × ((AVal → AVal → AVal → A9) × (AVal → AVal → AVal → A9))) × (((AVal → AVal → AVal → A9) × A7) × (A7 × A7))))
def f107.b0 (I : Inp) (call : CallFn) (j : f107.Js) (v0 v26 v27 v28 : AVal) (h : AHeap) : Rs :=
  kB .lss v28 v27 fun v29 =>
  sCond v29 (
  some (.tuple [], h)) (
  j.1.1.2.1 v0 v26 v27 v28 h)
def f107.b1 (I : Inp) (call : CallFn) (j : f107.Js) (v0 v26 v27 v28 : AVal) (h : AHeap) : Rs :=
  kI 5 v26 v28 fun v30 =>
  kM I 5 v30 h fun v31 =>
  kA [.nils, (Z 0), (Z 0), (Z 0), (Z 0)] h fun v5 h1 =>
  kS 5 v5 v31 h1 fun _ h2 =>
  kF 0 v5 fun v33 =>
  kL I v33 h2 fun v34 =>
  kZ v34 fun v35 =>
  kC call 104 [v0, v35] h2 fun v36 h3 =>
  kF 0 v5 fun v37 =>
  kL I v37 h3 fun v38 =>
  kZ v38 fun v39 =>
  j.1.2.1.2 v0 v5 v26 v27 v28 v38 v39 (Z 0) h3
def f107.b2 (I : Inp) (call : CallFn) (j : f107.Js) (v0 v26 v27 v28 : AVal) (h : AHeap) : Rs :=
  kB .add v28 (Z 1) fun v87 =>
  j.1.1.1 v0 v26 v27 v87 h
def f107.b3 (I : Inp) (call : CallFn) (j : f107.Js) (v0 v5 v26 v27 v28 : AVal) (h : AHeap) : Rs :=
  kF 1 v5 fun v69 =>
  kL I v69 h fun v70 =>
  kF 2 v5 fun v71 =>
  kL I v71 h fun v72 =>
  kF 3 v5 fun v73 =>
  kL I v73 h fun v74 =>
  kF 4 v5 fun v75 =>
  kL I v75 h fun v76 =>
  bnd (sBuildSlice [(Z 0)] 4 [(0, 1, v70), (1, 1, v72), (2, 1, v74), (3, 1, v76)] h) fun v77 h1 =>
  kZ v77 fun v78 =>
  j.2.2.1.2 v0 v26 v27 v28 v77 v78 (Z 0) h1
def f107.b4 (I : Inp) (call : CallFn) (j : f107.Js) (v0 v5 v26 v27 v28 v38 v39 v40 : AVal) (h : AHeap) : Rs :=
  kB .lss v40 v39 fun v41 =>
  sCond v41 (
  j.1.2.1.1 v0 v5 v26 v27 v28 h) (
  j.1.2.2.1 v0 v5 v26 v27 v28 v38 v39 v40 h)
def f107.b5 (I : Inp) (call : CallFn) (j : f107.Js) (v0 v5 v26 v27 v28 v38 v39 v40 : AVal) (h : AHeap) : Rs :=
  kI 6 v38 v40 fun v42 =>
  kM I 6 v42 h fun v43 =>
  kA [(Z 0), (Z 0), (Z 0), (Z 0), (Z 0), .nils] h fun v7 h1 =>
  kS 6 v7 v43 h1 fun _ h2 =>
  kF 0 v7 fun v44 =>
  kL I v44 h2 fun v45 =>
  kF 1 v7 fun v46 =>
  kL I v46 h2 fun v47 =>
  kF 2 v7 fun v48 =>
  kL I v48 h2 fun v49 =>
  kF 3 v7 fun v50 =>
  kL I v50 h2 fun v51 =>
  kF 4 v7 fun v52 =>
  kL I v52 h2 fun v53 =>
  bnd (sBuildSlice [(Z 0)] 5 [(0, 1, v45), (1, 1, v47), (2, 1, v49), (3, 1, v51), (4, 1, v53)] h2) fun v54 h3 =>
  kZ v54 fun v55 =>
  j.2.1.2.1 v0 v5 v7 v26 v27 v28 v38 v39 v40 v54 v55 (Z 0) h3
def f107.b6 (I : Inp) (call : CallFn) (j : f107.Js) (v0 v5 v26 v27 v28 v38 v39 v40 : AVal) (h : AHeap) : Rs :=
  kB .add v40 (Z 1) fun v68 =>
  j.1.2.1.2 v0 v5 v26 v27 v28 v38 v39 v68 h
def f107.b7 (I : Inp) (call : CallFn) (j : f107.Js) (v0 v5 v7 v26 v27 v28 v38 v39 v40 : AVal) (h : AHeap) : Rs :=
  kF 5 v7 fun v65 =>
  kL I v65 h fun v66 =>
  kC call 106 [v0, v66] h fun v67 h1 =>
  j.1.2.2.2 v0 v5 v26 v27 v28 v38 v39 v40 h1
def f107.b8 (I : Inp) (call : CallFn) (j : f107.Js) (v0 v5 v7 v26 v27 v28 v38 v39 v40 v54 v55 v56 : AVal) (h : AHeap) : Rs :=
  kB .lss v56 v55 fun v57 =>
  sCond v57 (
  j.2.1.1 v0 v5 v7 v26 v27 v28 v38 v39 v40 h) (
  j.2.1.2.2 v0 v5 v7 v26 v27 v28 v38 v39 v40 v54 v55 v56 h)
def f107.b9 (I : Inp) (call : CallFn) (j : f107.Js) (v0 v5 v7 v26 v27 v28 v38 v39 v40 v54 v55 v56 : AVal) (h : AHeap) : Rs :=
  kI 1 v54 v56 fun v58 =>
  kL I v58 h fun v59 =>
  kC call 104 [v0, v59] h fun v62 h1 =>
  j.2.2.1.1 v0 v5 v7 v26 v27 v28 v38 v39 v40 v54 v55 v56 h1
def f107.b10 (I : Inp) (call : CallFn) (j : f107.Js) (v0 v5 v7 v26 v27 v28 v38 v39 v40 v54 v55 v56 : AVal) (h : AHeap) : Rs :=
  kB .add v56 (Z 1) fun v63 =>
  j.2.1.2.1 v0 v5 v7 v26 v27 v28 v38 v39 v40 v54 v55 v63 h
def f107.b11 (I : Inp) (call : CallFn) (j : f107.Js) (v0 v26 v27 v28 v77 v78 v79 : AVal) (h : AHeap) : Rs :=
  kB .lss v79 v78 fun v80 =>
  sCond v80 (
  j.1.1.2.2 v0 v26 v27 v28 h) (
  j.2.2.2.1 v0 v26 v27 v28 v77 v78 v79 h)
def f107.b12 (I : Inp) (call : CallFn) (j : f107.Js) (v0 v26 v27 v28 v77 v78 v79 : AVal) (h : AHeap) : Rs :=
  kI 1 v77 v79 fun v81 =>
  kL I v81 h fun v82 =>
  kC call 104 [v0, v82] h fun v85 h1 =>
  j.2.2.2.2 v0 v26 v27 v28 v77 v78 v79 h1
def f107.b13 (I : Inp) (call : CallFn) (j : f107.Js) (v0 v26 v27 v28 v77 v78 v79 : AVal) (h : AHeap) : Rs :=
  kB .add v79 (Z 1) fun v86 =>
  j.2.2.1.2 v0 v26 v27 v28 v77 v78 v86 h
def f107.e (I : Inp) (call : CallFn) (j : f107.Js) (v0 v1 : AVal) (h : AHeap) : Rs :=
  bnd (sBox v1 h) fun v3 h1 =>
  kF 0 v3 fun v13 =>
  kL I v13 h1 fun v14 =>
  kC call 104 [v0, v14] h1 fun v15 h2 =>
  kF 1 v3 fun v17 =>
  kL I v17 h2 fun v18 =>
  kC call 105 [v0, v18] h2 fun v19 h3 =>
  kF 2 v3 fun v21 =>
  kL I v21 h3 fun v22 =>
  kZ v22 fun v23 =>
  kC call 104 [v0, v23] h3 fun v24 h4 =>
  kF 2 v3 fun v25 =>
  kL I v25 h4 fun v26 =>
  kZ v26 fun v27 =>
  j.1.1.1 v0 v26 v27 (Z 0) h4
def f107.J (I : Inp) (call : CallFn) (n : Nat) : f107.Js :=
  Nat.rec (motive := fun _ => f107.Js) (((Zr.z, (Zr.z, Zr.z)), ((Zr.z, Zr.z), (Zr.z, Zr.z))), ((Zr.z, (Zr.z, Zr.z)), ((Zr.z, Zr.z), (Zr.z, Zr.z)))) (fun _ j => (((f107.b0 I call j, (f107.b1 I call j, f107.b2 I call j)), ((f107.b3 I call j, f107.b4 I call j), (f107.b5 I call j, f107.b6 I call j))), ((f107.b7 I call j, (f107.b8 I call j, f107.b9 I call j)), ((f107.b10 I call j, f107.b11 I call j), (f107.b12 I call j, f107.b13 I call j))))) n
def f107.JS (I : Inp) (call : CallFn) (n : Nat) : Jmp := (fun j : f107.Js => jmp [Ap.ap j.1.1.1 [0, 26, 27, 28], Ap.ap j.1.1.2.1 [0, 26, 27, 28], Ap.ap j.1.1.2.2 [0, 26, 27, 28], Ap.ap j.1.2.1.1 [0, 5, 26, 27, 28], Ap.ap j.1.2.1.2 [0, 5, 26, 27, 28, 38, 39, 40], Ap.ap j.1.2.2.1 [0, 5, 26, 27, 28, 38, 39, 40], Ap.ap j.1.2.2.2 [0, 5, 26, 27, 28, 38, 39, 40], Ap.ap j.2.1.1 [0, 5, 7, 26, 27, 28, 38, 39, 40], Ap.ap j.2.1.2.1 [0, 5, 7, 26, 27, 28, 38, 39, 40, 54, 55, 56], Ap.ap j.2.1.2.2 [0, 5, 7, 26, 27, 28, 38, 39, 40, 54, 55, 56], Ap.ap j.2.2.1.1 [0, 5, 7, 26, 27, 28, 38, 39, 40, 54, 55, 56], Ap.ap j.2.2.1.2 [0, 26, 27, 28, 77, 78, 79], Ap.ap j.2.2.2.1 [0, 26, 27, 28, 77, 78, 79], Ap.ap j.2.2.2.2 [0, 26, 27, 28, 77, 78, 79]]) (f107.J I call n)
theorem f107.S : SFn ⟨P, I, F⟩ call c107 (f107.JS I call) := .all 14 (by kernel_rfl) (fun ρ h => by kernel_rfl) (fun n ρ h => by kernel_rfl)
theorem f107.qe : Ap.all (f107.e I call (f107.J I call n)) (fun l h => execC P I call (f107.JS I call n) c107.body 0 (finV I c107.results) (argV l) h) := fun v0 v1 h => by kernel_rfl
theorem f107.code : codeOf P 107 = some c107 := by kernel_rfl
def f107.run (I : Inp) : SF := fun call n => Ap.ar (f107.e I call (f107.J I call n))
theorem f107.ok (I : Inp) (F : Nat → Option AFn) (hF : F 107 = some (.code c107)) : SfOk P I F 107 (f107.run I) := okOf hF (by kernel_rfl) (fun _ => f107.S) fun call n => f107.qe
/-! haruspex/types.named -/
def c112 : AFunc := cOf P 112
abbrev f112.Js : Type := A0
def f112.b0 (I : Inp) (call : CallFn) (j : f112.Js) (h : AHeap) : Rs :=
  some (bF, h)
def f112.e (I : Inp) (call : CallFn) (j : f112.Js) (v0 v1 : AVal) (h : AHeap) : Rs :=
  bnd (sBox v1 h) fun v3 h1 =>
  kF 0 v3 fun v5 =>
  kL I v5 h1 fun v6 =>
  kB .eql v6 (Z 0) fun v8 =>
  sCond v8 (
  kB .eql v6 (Z 1) fun v13 =>
  sCond v13 (
  kB .eql v6 (Z 2) fun v23 =>
  sCond v23 (
  kB .eql v6 (Z 3) fun v33 =>
  sCond v33 (
  j h1) (
  kF 1 v3 fun v34 =>
  kL I v34 h1 fun v35 =>
  kN v0 fun v37 =>
  kF 2 v37 fun v38 =>
  kL I v38 h1 fun v39 =>
  kZ v39 fun v40 =>
  kC call 73 [v35, v40] h1 fun v41 h2 =>
  some (v41, h2))) (
  kF 1 v3 fun v24 =>
  kL I v24 h1 fun v25 =>
  kN v0 fun v27 =>
  kF 1 v27 fun v28 =>
  kL I v28 h1 fun v29 =>
  kZ v29 fun v30 =>
  kC call 73 [v25, v30] h1 fun v31 h3 =>
  some (v31, h3))) (
  kF 1 v3 fun v14 =>
  kL I v14 h1 fun v15 =>
  kN v0 fun v17 =>
  kF 0 v17 fun v18 =>
  kL I v18 h1 fun v19 =>
  kZ v19 fun v20 =>
  kC call 73 [v15, v20] h1 fun v21 h4 =>
  some (v21, h4))) (
  kF 1 v3 fun v9 =>
  kL I v9 h1 fun v10 =>
  kB .eql v10 (Z 0) fun v11 =>
  some (v11, h1))
def f112.J (I : Inp) (call : CallFn) (n : Nat) : f112.Js :=
  Nat.rec (motive := fun _ => f112.Js) Zr.z (fun _ j => f112.b0 I call j) n
theorem f112.n0 : (f112.J I call (n + 1)) = f112.b0 I call (f112.J I call n) := nrfl
def f112.JS (I : Inp) (call : CallFn) (n : Nat) : Jmp := (fun j : f112.Js => jmp [Ap.ap j []]) (f112.J I call n)
theorem f112.S : SFn ⟨P, I, F⟩ call c112 (f112.JS I call) := .all 1 (by kernel_rfl) (fun ρ h => by kernel_rfl) (fun n ρ h => by kernel_rfl)
theorem f112.qe : Ap.all (f112.e I call (f112.J I call n)) (fun l h => execC P I call (f112.JS I call n) c112.body 0 (finV I c112.results) (argV l) h) := fun v0 v1 h => by kernel_rfl
theorem f112.code : codeOf P 112 = some c112 := by kernel_rfl
def f112.run (I : Inp) : SF := fun call n => Ap.ar (f112.e I call (f112.J I call n))
theorem f112.ok (I : Inp) (F : Nat → Option AFn) (hF : F 112 = some (.code c112)) : SfOk P I F 112 (f112.run I) := okOf hF (by kernel_rfl) (fun _ => f112.S) fun call n => f112.qe
theorem f112.lim (hp : prims 112 = none) {v0 v1 : AVal} (hr : Res (f112.e I (AM.lim ⟨P, I, genF P prims⟩) (f112.J I (AM.lim ⟨P, I, genF P prims⟩) n) v0 v1 h) Q) : Res ((AM.lim ⟨P, I, genF P prims⟩) 112 [v0, v1] h) Q := limOf (n := n) hp f112.code (f112.ok I) hr rfl
/-! haruspex/types.numbers -/
def c113 : AFunc := cOf P 113
abbrev f113.Js : Type := ((A0 × A4) × (A4 × A4))
def f113.b0 (I : Inp) (call : CallFn) (j : f113.Js) (h : AHeap) : Rs :=
  some (bT, h)
def f113.b1 (I : Inp) (call : CallFn) (j : f113.Js) (v1 v7 v8 v9 : AVal) (h : AHeap) : Rs :=
  kB .lss v9 v8 fun v10 =>
  sCond v10 (
  j.1.1 h) (
  j.2.1 v1 v7 v8 v9 h)
def f113.b2 (I : Inp) (call : CallFn) (j : f113.Js) (v1 v7 v8 v9 : AVal) (h : AHeap) : Rs :=
  kI 1 v7 v9 fun v11 =>
  kL I v11 h fun v12 =>
  kC call 73 [v12, v1] h fun v15 h1 =>
  kU .not v15 fun v16 =>
  sCond v16 (
  j.2.2 v1 v7 v8 v9 h1) (
  some (bF, h1))
def f113.b3 (I : Inp) (call : CallFn) (j : f113.Js) (v1 v7 v8 v9 : AVal) (h : AHeap) : Rs :=
  kB .add v9 (Z 1) fun v17 =>
  j.1.2 v1 v7 v8 v17 h
def f113.e (I : Inp) (call : CallFn) (j : f113.Js) (v0 v1 : AVal) (h : AHeap) : Rs :=
  kZ v0 fun v8 =>
  j.1.2 v1 v0 v8 (Z 0) h
def f113.J (I : Inp) (call : CallFn) (n : Nat) : f113.Js :=
  Nat.rec (motive := fun _ => f113.Js) ((Zr.z, Zr.z), (Zr.z, Zr.z)) (fun _ j => ((f113.b0 I call j, f113.b1 I call j), (f113.b2 I call j, f113.b3 I call j))) n
theorem f113.n0 : (f113.J I call (n + 1)).1.1 = f113.b0 I call (f113.J I call n) := nrfl
theorem f113.n1 : (f113.J I call (n + 1)).1.2 = f113.b1 I call (f113.J I call n) := nrfl
theorem f113.n2 : (f113.J I call (n + 1)).2.1 = f113.b2 I call (f113.J I call n) := nrfl
theorem f113.n3 : (f113.J I call (n + 1)).2.2 = f113.b3 I call (f113.J I call n) := nrfl
def f113.JS (I : Inp) (call : CallFn) (n : Nat) : Jmp := (fun j : f113.Js => jmp [Ap.ap j.1.1 [], Ap.ap j.1.2 [1, 7, 8, 9], Ap.ap j.2.1 [1, 7, 8, 9], Ap.ap j.2.2 [1, 7, 8, 9]]) (f113.J I call n)
theorem f113.S : SFn ⟨P, I, F⟩ call c113 (f113.JS I call) := .all 4 (by kernel_rfl) (fun ρ h => by kernel_rfl) (fun n ρ h => by kernel_rfl)
theorem f113.qe : Ap.all (f113.e I call (f113.J I call n)) (fun l h => execC P I call (f113.JS I call n) c113.body 0 (finV I c113.results) (argV l) h) := fun v0 v1 h => by kernel_rfl
theorem f113.code : codeOf P 113 = some c113 := by kernel_rfl
def f113.run (I : Inp) : SF := fun call n => Ap.ar (f113.e I call (f113.J I call n))
theorem f113.ok (I : Inp) (F : Nat → Option AFn) (hF : F 113 = some (.code c113)) : SfOk P I F 113 (f113.run I) := okOf hF (by kernel_rfl) (fun _ => f113.S) fun call n => f113.qe
theorem f113.lim (hp : prims 113 = none) {v0 v1 : AVal} (hr : Res (f113.e I (AM.lim ⟨P, I, genF P prims⟩) (f113.J I (AM.lim ⟨P, I, genF P prims⟩) n) v0 v1 h) Q) : Res ((AM.lim ⟨P, I, genF P prims⟩) 113 [v0, v1] h) Q := limOf (n := n) hp f113.code (f113.ok I) hr rfl
/-! haruspex/types.counted -/
def c114 : AFunc := cOf P 114
abbrev f114.Js : Type := ((((A6 × (A5 × A4)) × (A3 × (A5 × A3))) × ((A3 × (A4 × A3)) × (A5 × (A4 × A5)))) × (((A8 × (A9 × A8)) × (A9 × (A8 × A8))) × ((A9 × (A8 × A8)) × ((A8 × A9) × (A8 × A9)))))
def f114.b0 (I : Inp) (call : CallFn) (j : f114.Js) (v2 v3 v4 v5 v6 v7 : AVal) (h : AHeap) : Rs :=
  some (.tuple [v2, v3, v4, v5, v6, v7], h)
def f114.b1 (I : Inp) (call : CallFn) (j : f114.Js) (v2 v3 v4 v5 v6 : AVal) (h : AHeap) : Rs :=
  j.1.1.1.1 v2 v3 v4 v5 v6 bF h
def f114.b2 (I : Inp) (call : CallFn) (j : f114.Js) (v1 v3 v4 v7 : AVal) (h : AHeap) : Rs :=
  kF 0 v1 fun v34 =>
  kL I v34 h fun v35 =>
  kB .neq v35 (Z 13) fun v36 =>
  j.1.1.1.1 bT v3 v4 v36 bT v7 h
def f114.b3 (I : Inp) (call : CallFn) (j : f114.Js) (v1 v4 v7 : AVal) (h : AHeap) : Rs :=
  j.1.1.1.2.2 v1 bT v4 v7 h
def f114.b4 (I : Inp) (call : CallFn) (j : f114.Js) (v2 v4 v5 v6 v7 : AVal) (h : AHeap) : Rs :=
  j.1.1.1.1 v2 bT v4 v5 v6 v7 h
def f114.b5 (I : Inp) (call : CallFn) (j : f114.Js) (v2 v6 v7 : AVal) (h : AHeap) : Rs :=
  j.1.1.1.1 v2 bT bT bT v6 v7 h
def f114.b6 (I : Inp) (call : CallFn) (j : f114.Js) (v4 v6 v7 : AVal) (h : AHeap) : Rs :=
  j.1.1.1.1 bT bT v4 bT v6 v7 h
def f114.b7 (I : Inp) (call : CallFn) (j : f114.Js) (v4 v5 v6 v7 : AVal) (h : AHeap) : Rs :=
  j.1.1.1.1 bT bT v4 v5 v6 v7 h
def f114.b8 (I : Inp) (call : CallFn) (j : f114.Js) (v5 v6 v7 : AVal) (h : AHeap) : Rs :=
  j.1.2.1.2.1 bT v5 v6 v7 h
def f114.b9 (I : Inp) (call : CallFn) (j : f114.Js) (v3 v4 v5 v6 v7 : AVal) (h : AHeap) : Rs :=
  j.1.1.1.1 bT v3 v4 v5 v6 v7 h
def f114.b10 (I : Inp) (call : CallFn) (j : f114.Js) (v3 v4 v6 v7 : AVal) (h : AHeap) : Rs :=
  j.1.2.2.1 v3 v4 bT v6 v7 h
def f114.b11 (I : Inp) (call : CallFn) (j : f114.Js) (v2 v3 v4 v5 v6 : AVal) (h : AHeap) : Rs :=
  j.1.1.1.2.1 v2 v3 v4 v5 v6 h
def f114.b12 (I : Inp) (call : CallFn) (j : f114.Js) (v1 v2 v3 v4 v5 v6 v7 v9 : AVal) (h : AHeap) : Rs :=
  kB .eql v9 (Z 3) fun v14 =>
  sCond v14 (
  kB .eql v9 (Z 4) fun v15 =>
  sCond v15 (
  kB .eql v9 (Z 5) fun v16 =>
  j.2.1.2.1 v1 v2 v3 v4 v5 v6 v7 v9 v16 h) (
  j.2.1.2.1 v1 v2 v3 v4 v5 v6 v7 v9 v15 h)) (
  j.2.1.2.1 v1 v2 v3 v4 v5 v6 v7 v9 v14 h)
def f114.b13 (I : Inp) (call : CallFn) (j : f114.Js) (v1 v2 v3 v4 v5 v6 v7 v9 v10 : AVal) (h : AHeap) : Rs :=
  sCond v10 (
  j.2.1.1.1 v1 v2 v3 v4 v5 v6 v7 v9 h) (
  j.1.2.2.2.1 v3 v4 v6 v7 h)
def f114.b14 (I : Inp) (call : CallFn) (j : f114.Js) (v1 v2 v3 v4 v5 v6 v7 v9 : AVal) (h : AHeap) : Rs :=
  kB .eql v9 (Z 2) fun v18 =>
  sCond v18 (
  j.2.1.2.2.1 v1 v2 v3 v4 v5 v6 v7 v9 h) (
  j.1.2.1.2.2 v5 v6 v7 h)
def f114.b15 (I : Inp) (call : CallFn) (j : f114.Js) (v1 v2 v3 v4 v5 v6 v7 v9 v13 : AVal) (h : AHeap) : Rs :=
  sCond v13 (
  j.2.1.1.2.2 v1 v2 v3 v4 v5 v6 v7 v9 h) (
  j.1.2.2.1 v3 v4 v5 v6 v7 h)
def f114.b16 (I : Inp) (call : CallFn) (j : f114.Js) (v1 v2 v3 v4 v5 v6 v7 v9 : AVal) (h : AHeap) : Rs :=
  kB .eql v9 (Z 6) fun v20 =>
  sCond v20 (
  kB .eql v9 (Z 11) fun v21 =>
  j.2.2.1.1 v1 v2 v3 v4 v5 v6 v7 v9 v21 h) (
  j.2.2.1.1 v1 v2 v3 v4 v5 v6 v7 v9 v20 h)
def f114.b17 (I : Inp) (call : CallFn) (j : f114.Js) (v1 v2 v3 v4 v5 v6 v7 v9 : AVal) (h : AHeap) : Rs :=
  kB .eql v9 (Z 7) fun v23 =>
  sCond v23 (
  j.2.2.1.2.1 v1 v2 v3 v4 v5 v6 v7 v9 h) (
  j.1.2.1.1 v4 v6 v7 h)
def f114.b18 (I : Inp) (call : CallFn) (j : f114.Js) (v1 v2 v3 v4 v5 v6 v7 v9 v19 : AVal) (h : AHeap) : Rs :=
  sCond v19 (
  j.2.1.2.2.2 v1 v2 v3 v4 v5 v6 v7 v9 h) (
  j.1.2.1.2.1 v4 v5 v6 v7 h)
def f114.b19 (I : Inp) (call : CallFn) (j : f114.Js) (v1 v2 v3 v4 v5 v6 v7 v9 : AVal) (h : AHeap) : Rs :=
  kB .eql v9 (Z 8) fun v25 =>
  sCond v25 (
  j.2.2.1.2.2 v1 v2 v3 v4 v5 v6 v7 v9 h) (
  j.1.1.2.2.2 v2 v6 v7 h)
def f114.b20 (I : Inp) (call : CallFn) (j : f114.Js) (v1 v2 v3 v4 v5 v6 v7 v9 : AVal) (h : AHeap) : Rs :=
  kB .eql v9 (Z 9) fun v27 =>
  sCond v27 (
  kB .eql v9 (Z 15) fun v28 =>
  j.2.2.2.1.2 v1 v2 v3 v4 v5 v6 v7 v9 v28 h) (
  j.2.2.2.1.2 v1 v2 v3 v4 v5 v6 v7 v9 v27 h)
def f114.b21 (I : Inp) (call : CallFn) (j : f114.Js) (v1 v2 v3 v4 v5 v6 v7 v9 : AVal) (h : AHeap) : Rs :=
  kB .eql v9 (Z 14) fun v30 =>
  sCond v30 (
  kB .eql v9 (Z 13) fun v31 =>
  j.2.2.2.2.2 v1 v2 v3 v4 v5 v6 v7 v9 v31 h) (
  j.2.2.2.2.2 v1 v2 v3 v4 v5 v6 v7 v9 v30 h)
def f114.b22 (I : Inp) (call : CallFn) (j : f114.Js) (v1 v2 v3 v4 v5 v6 v7 v9 v26 : AVal) (h : AHeap) : Rs :=
  sCond v26 (
  j.2.2.2.1.1 v1 v2 v3 v4 v5 v6 v7 v9 h) (
  j.1.1.2.2.1 v2 v4 v5 v6 v7 h)
def f114.b23 (I : Inp) (call : CallFn) (j : f114.Js) (v1 v2 v3 v4 v5 v6 v7 v9 : AVal) (h : AHeap) : Rs :=
  kB .eql v9 (Z 12) fun v33 =>
  sCond v33 (
  j.1.2.2.2.2 v2 v3 v4 v5 v6 h) (
  j.1.1.1.2.2 v1 v3 v4 v7 h)
def f114.b24 (I : Inp) (call : CallFn) (j : f114.Js) (v1 v2 v3 v4 v5 v6 v7 v9 v29 : AVal) (h : AHeap) : Rs :=
  sCond v29 (
  j.2.2.2.2.1 v1 v2 v3 v4 v5 v6 v7 v9 h) (
  j.1.1.2.1 v1 v4 v7 h)
def f114.e (I : Inp) (call : CallFn) (j : f114.Js) (v0 : AVal) (h : AHeap) : Rs :=
  bnd (sBox v0 h) fun v1 h1 =>
  kF 0 v1 fun v8 =>
  kL I v8 h1 fun v9 =>
  kB .eql v9 (Z 1) fun v11 =>
  sCond v11 (
  kB .eql v9 (Z 10) fun v12 =>
  j.2.1.1.2.1 v1 bF bF bF bF bF bT v9 v12 h1) (
  j.2.1.1.2.1 v1 bF bF bF bF bF bT v9 v11 h1)
def f114.J (I : Inp) (call : CallFn) (n : Nat) : f114.Js :=
  Nat.rec (motive := fun _ => f114.Js) ((((Zr.z, (Zr.z, Zr.z)), (Zr.z, (Zr.z, Zr.z))), ((Zr.z, (Zr.z, Zr.z)), (Zr.z, (Zr.z, Zr.z)))), (((Zr.z, (Zr.z, Zr.z)), (Zr.z, (Zr.z, Zr.z))), ((Zr.z, (Zr.z, Zr.z)), ((Zr.z, Zr.z), (Zr.z, Zr.z))))) (fun _ j => ((((f114.b0 I call j, (f114.b1 I call j, f114.b2 I call j)), (f114.b3 I call j, (f114.b4 I call j, f114.b5 I call j))), ((f114.b6 I call j, (f114.b7 I call j, f114.b8 I call j)), (f114.b9 I call j, (f114.b10 I call j, f114.b11 I call j)))), (((f114.b12 I call j, (f114.b13 I call j, f114.b14 I call j)), (f114.b15 I call j, (f114.b16 I call j, f114.b17 I call j))), ((f114.b18 I call j, (f114.b19 I call j, f114.b20 I call j)), ((f114.b21 I call j, f114.b22 I call j), (f114.b23 I call j, f114.b24 I call j)))))) n
theorem f114.n0 : (f114.J I call (n + 1)).1.1.1.1 = f114.b0 I call (f114.J I call n) := nrfl
theorem f114.n1 : (f114.J I call (n + 1)).1.1.1.2.1 = f114.b1 I call (f114.J I call n) := nrfl
theorem f114.n2 : (f114.J I call (n + 1)).1.1.1.2.2 = f114.b2 I call (f114.J I call n) := nrfl
theorem f114.n3 : (f114.J I call (n + 1)).1.1.2.1 = f114.b3 I call (f114.J I call n) := nrfl
theorem f114.n4 : (f114.J I call (n + 1)).1.1.2.2.1 = f114.b4 I call (f114.J I call n) := nrfl
theorem f114.n5 : (f114.J I call (n + 1)).1.1.2.2.2 = f114.b5 I call (f114.J I call n) := nrfl
theorem f114.n6 : (f114.J I call (n + 1)).1.2.1.1 = f114.b6 I call (f114.J I call n) := nrfl
theorem f114.n7 : (f114.J I call (n + 1)).1.2.1.2.1 = f114.b7 I call (f114.J I call n) := nrfl
theorem f114.n8 : (f114.J I call (n + 1)).1.2.1.2.2 = f114.b8 I call (f114.J I call n) := nrfl
theorem f114.n9 : (f114.J I call (n + 1)).1.2.2.1 = f114.b9 I call (f114.J I call n) := nrfl
theorem f114.n10 : (f114.J I call (n + 1)).1.2.2.2.1 = f114.b10 I call (f114.J I call n) := nrfl
theorem f114.n11 : (f114.J I call (n + 1)).1.2.2.2.2 = f114.b11 I call (f114.J I call n) := nrfl
theorem f114.n12 : (f114.J I call (n + 1)).2.1.1.1 = f114.b12 I call (f114.J I call n) := nrfl
theorem f114.n13 : (f114.J I call (n + 1)).2.1.1.2.1 = f114.b13 I call (f114.J I call n) := nrfl
theorem f114.n14 : (f114.J I call (n + 1)).2.1.1.2.2 = f114.b14 I call (f114.J I call n) := nrfl
theorem f114.n15 : (f114.J I call (n + 1)).2.1.2.1 = f114.b15 I call (f114.J I call n) := nrfl
theorem f114.n16 : (f114.J I call (n + 1)).2.1.2.2.1 = f114.b16 I call (f114.J I call n) := nrfl
theorem f114.n17 : (f114.J I call (n + 1)).2.1.2.2.2 = f114.b17 I call (f114.J I call n) := nrfl
theorem f114.n18 : (f114.J I call (n + 1)).2.2.1.1 = f114.b18 I call (f114.J I call n) := nrfl
theorem f114.n19 : (f114.J I call (n + 1)).2.2.1.2.1 = f114.b19 I call (f114.J I call n) := nrfl
theorem f114.n20 : (f114.J I call (n + 1)).2.2.1.2.2 = f114.b20 I call (f114.J I call n) := nrfl
theorem f114.n21 : (f114.J I call (n + 1)).2.2.2.1.1 = f114.b21 I call (f114.J I call n) := nrfl
theorem f114.n22 : (f114.J I call (n + 1)).2.2.2.1.2 = f114.b22 I call (f114.J I call n) := nrfl
theorem f114.n23 : (f114.J I call (n + 1)).2.2.2.2.1 = f114.b23 I call (f114.J I call n) := nrfl
theorem f114.n24 : (f114.J I call (n + 1)).2.2.2.2.2 = f114.b24 I call (f114.J I call n) := nrfl
def f114.JS (I : Inp) (call : CallFn) (n : Nat) : Jmp := (fun j : f114.Js => jmp [Ap.ap j.1.1.1.1 [2, 3, 4, 5, 6, 7], Ap.ap j.1.1.1.2.1 [2, 3, 4, 5, 6], Ap.ap j.1.1.1.2.2 [1, 3, 4, 7], Ap.ap j.1.1.2.1 [1, 4, 7], Ap.ap j.1.1.2.2.1 [2, 4, 5, 6, 7], Ap.ap j.1.1.2.2.2 [2, 6, 7], Ap.ap j.1.2.1.1 [4, 6, 7], Ap.ap j.1.2.1.2.1 [4, 5, 6, 7], Ap.ap j.1.2.1.2.2 [5, 6, 7], Ap.ap j.1.2.2.1 [3, 4, 5, 6, 7], Ap.ap j.1.2.2.2.1 [3, 4, 6, 7], Ap.ap j.1.2.2.2.2 [2, 3, 4, 5, 6], Ap.ap j.2.1.1.1 [1, 2, 3, 4, 5, 6, 7, 9], Ap.ap j.2.1.1.2.1 [1, 2, 3, 4, 5, 6, 7, 9, 10], Ap.ap j.2.1.1.2.2 [1, 2, 3, 4, 5, 6, 7, 9], Ap.ap j.2.1.2.1 [1, 2, 3, 4, 5, 6, 7, 9, 13], Ap.ap j.2.1.2.2.1 [1, 2, 3, 4, 5, 6, 7, 9], Ap.ap j.2.1.2.2.2 [1, 2, 3, 4, 5, 6, 7, 9], Ap.ap j.2.2.1.1 [1, 2, 3, 4, 5, 6, 7, 9, 19], Ap.ap j.2.2.1.2.1 [1, 2, 3, 4, 5, 6, 7, 9], Ap.ap j.2.2.1.2.2 [1, 2, 3, 4, 5, 6, 7, 9], Ap.ap j.2.2.2.1.1 [1, 2, 3, 4, 5, 6, 7, 9], Ap.ap j.2.2.2.1.2 [1, 2, 3, 4, 5, 6, 7, 9, 26], Ap.ap j.2.2.2.2.1 [1, 2, 3, 4, 5, 6, 7, 9], Ap.ap j.2.2.2.2.2 [1, 2, 3, 4, 5, 6, 7, 9, 29]]) (f114.J I call n)
theorem f114.S : SFn ⟨P, I, F⟩ call c114 (f114.JS I call) := .all 25 (by kernel_rfl) (fun ρ h => by kernel_rfl) (fun n ρ h => by kernel_rfl)
theorem f114.qe : Ap.all (f114.e I call (f114.J I call n)) (fun l h => execC P I call (f114.JS I call n) c114.body 0 (finV I c114.results) (argV l) h) := fun v0 h => by kernel_rfl
theorem f114.code : codeOf P 114 = some c114 := by kernel_rfl
def f114.run (I : Inp) : SF := fun call n => Ap.ar (f114.e I call (f114.J I call n))
theorem f114.ok (I : Inp) (F : Nat → Option AFn) (hF : F 114 = some (.code c114)) : SfOk P I F 114 (f114.run I) := okOf hF (by kernel_rfl) (fun _ => f114.S) fun call n => f114.qe
theorem f114.lim (hp : prims 114 = none) {v0 : AVal} (hr : Res (f114.e I (AM.lim ⟨P, I, genF P prims⟩) (f114.J I (AM.lim ⟨P, I, genF P prims⟩) n) v0 h) Q) : Res ((AM.lim ⟨P, I, genF P prims⟩) 114 [v0] h) Q := limOf (n := n) hp f114.code (f114.ok I) hr rfl
/-! haruspex/types.reg -/
def c115 : AFunc := cOf P 115
abbrev f115.Js : Type := A1
def f115.b0 (I : Inp) (call : CallFn) (j : f115.Js) (v1 : AVal) (h : AHeap) : Rs :=
  kB .eql v1 (Z 0) fun v12 =>
  some (v12, h)
def f115.e (I : Inp) (call : CallFn) (j : f115.Js) (v0 v1 v2 : AVal) (h : AHeap) : Rs :=
  sCond v0 (
  j v1 h) (
  kC call 73 [v1, v2] h fun v10 h1 =>
  some (v10, h1))
def f115.J (I : Inp) (call : CallFn) (n : Nat) : f115.Js :=
  Nat.rec (motive := fun _ => f115.Js) Zr.z (fun _ j => f115.b0 I call j) n
theorem f115.n0 : (f115.J I call (n + 1)) = f115.b0 I call (f115.J I call n) := nrfl
def f115.JS (I : Inp) (call : CallFn) (n : Nat) : Jmp := (fun j : f115.Js => jmp [Ap.ap j [1]]) (f115.J I call n)
theorem f115.S : SFn ⟨P, I, F⟩ call c115 (f115.JS I call) := .all 1 (by kernel_rfl) (fun ρ h => by kernel_rfl) (fun n ρ h => by kernel_rfl)
theorem f115.qe : Ap.all (f115.e I call (f115.J I call n)) (fun l h => execC P I call (f115.JS I call n) c115.body 0 (finV I c115.results) (argV l) h) := fun v0 v1 v2 h => by kernel_rfl
theorem f115.code : codeOf P 115 = some c115 := by kernel_rfl
def f115.run (I : Inp) : SF := fun call n => Ap.ar (f115.e I call (f115.J I call n))
theorem f115.ok (I : Inp) (F : Nat → Option AFn) (hF : F 115 = some (.code c115)) : SfOk P I F 115 (f115.run I) := okOf hF (by kernel_rfl) (fun _ => f115.S) fun call n => f115.qe
theorem f115.lim (hp : prims 115 = none) {v0 v1 v2 : AVal} (hr : Res (f115.e I (AM.lim ⟨P, I, genF P prims⟩) (f115.J I (AM.lim ⟨P, I, genF P prims⟩) n) v0 v1 v2 h) Q) : Res ((AM.lim ⟨P, I, genF P prims⟩) 115 [v0, v1, v2] h) Q := limOf (n := n) hp f115.code (f115.ok I) hr rfl
/-! haruspex/types.Fits$1 -/
def c116 : AFunc := cOf P 116
abbrev f116.Js : Type := Unit
def f116.e (I : Inp) (call : CallFn) (j : f116.Js) (v0 v1 : AVal) (h : AHeap) : Rs :=
  kL I v1 h fun v4 =>
  kI 2 v4 v0 fun v6 =>
  kF 0 v6 fun v7 =>
  kL I v7 h fun v8 =>
  some (v8, h)
theorem f116.S : SFn ⟨P, I, F⟩ call c116 (fun _ => jmp []) := .all 0 (by kernel_rfl) (fun ρ h => by kernel_rfl) (fun n ρ h => by kernel_rfl)
theorem f116.qe : Ap.all (f116.e I call ()) (fun l h => execC P I call (jmp []) c116.body 0 (finV I c116.results) (argV l) h) := fun v0 v1 h => by kernel_rfl
theorem f116.code : codeOf P 116 = some c116 := by kernel_rfl
def f116.run (I : Inp) : SF := fun call n => Ap.ar (f116.e I call ())
theorem f116.ok (I : Inp) (F : Nat → Option AFn) (hF : F 116 = some (.code c116)) : SfOk P I F 116 (f116.run I) := okOf hF (by kernel_rfl) (fun _ => f116.S) fun call n => f116.qe
/-! haruspex/types.sig -/
def c117 : AFunc := cOf P 117
abbrev f117.Js : Type := Unit
def f117.e (I : Inp) (call : CallFn) (j : f117.Js) (v0 v1 : AVal) (h : AHeap) : Rs :=
  kN v0 fun v8 =>
  kF 4 v8 fun v9 =>
  kL I v9 h fun v10 =>
  kI 3 v10 v1 fun v12 =>
  kF 0 v12 fun v13 =>
  kL I v13 h fun v14 =>
  kN v0 fun v18 =>
  kF 1 v18 fun v19 =>
  kL I v19 h fun v20 =>
  kZ v20 fun v21 =>
  kC call 73 [v14, v21] h fun v22 h1 =>
  some (.tuple [v14, v22], h1)
theorem f117.S : SFn ⟨P, I, F⟩ call c117 (fun _ => jmp []) := .all 0 (by kernel_rfl) (fun ρ h => by kernel_rfl) (fun n ρ h => by kernel_rfl)
theorem f117.qe : Ap.all (f117.e I call ()) (fun l h => execC P I call (jmp []) c117.body 0 (finV I c117.results) (argV l) h) := fun v0 v1 h => by kernel_rfl
theorem f117.code : codeOf P 117 = some c117 := by kernel_rfl
def f117.run (I : Inp) : SF := fun call n => Ap.ar (f117.e I call ())
theorem f117.ok (I : Inp) (F : Nat → Option AFn) (hF : F 117 = some (.code c117)) : SfOk P I F 117 (f117.run I) := okOf hF (by kernel_rfl) (fun _ => f117.S) fun call n => f117.qe
theorem f117.lim (hp : prims 117 = none) {n : Nat} {v0 v1 : AVal} (hr : Res (f117.e I (AM.lim ⟨P, I, genF P prims⟩) () v0 v1 h) Q) : Res ((AM.lim ⟨P, I, genF P prims⟩) 117 [v0, v1] h) Q := limOf (n := n) hp f117.code (f117.ok I) hr rfl
/-! haruspex/types.call -/
def c118 : AFunc := cOf P 118
abbrev f118.Js : Type := ((A5 × (A4 × A0)) × (A6 × (A6 × A6)))
def f118.b0 (I : Inp) (call : CallFn) (j : f118.Js) (v0 v1 v5 v7 v8 : AVal) (h : AHeap) : Rs :=
  kU .not v8 fun v72 =>
  gP v72 .false (pFieldAddr 5 v5) h fun v74 h1 =>
  gP v72 .false (pLoad1 I v74 h1) h1 fun v75 h2 =>
  gP v72 .false (pLenSl v75) h2 fun v76 h3 =>
  gV v72 .false v0 h3 fun v77 h4 =>
  gP v72 .false (pNilCheck v77) h4 fun v78 h5 =>
  gP v72 .false (pFieldAddr 1 v78) h5 fun v79 h6 =>
  gP v72 .false (pLoad1 I v79 h6) h6 fun v80 h7 =>
  gV v72 .false v7 h7 fun v81 h8 =>
  gP v72 .false (pIndexAddr 3 v80 v81) h8 fun v82 h9 =>
  gP v72 .false (pFieldAddr 0 v82) h9 fun v83 h10 =>
  gP v72 .false (pLoad1 I v83 h10) h10 fun v84 h11 =>
  gP v72 .false (pLenSl v84) h11 fun v85 h12 =>
  gP v72 .false (pBin .neq v76 v85) h12 fun v86 h13 =>
  kP v72 bT v86 fun v87 =>
  gV v87 .false v1 h13 fun v89 h14 =>
  gP v87 .false (pFieldAddr 1 v5) h14 fun v90 h15 =>
  gP v87 .false (pLoad1 I v90 h15) h15 fun v91 h16 =>
  gP v87 .false (pIndexAddr 2 v89 v91) h16 fun v92 h17 =>
  gP v87 .false (pLoadN I 2 v92 h17) h17 fun v93 h18 =>
  gV v87 .false v0 h18 fun v94 h19 =>
  gP v87 .false (pNilCheck v94) h19 fun v95 h20 =>
  gP v87 .false (pFieldAddr 1 v95) h20 fun v96 h21 =>
  gP v87 .false (pLoad1 I v96 h21) h21 fun v97 h22 =>
  gV v87 .false v7 h22 fun v98 h23 =>
  gP v87 .false (pIndexAddr 3 v97 v98) h23 fun v99 h24 =>
  gP v87 .false (pFieldAddr 1 v99) h24 fun v100 h25 =>
  gP v87 .false (pLoadN I 2 v100 h25) h25 fun v101 h26 =>
  gP v87 .false (pEq P .true (.struct [.i, .i]) .false v93 v101 h26) h26 fun v102 h27 =>
  kP v87 bT v102 fun v103 =>
  sCond v103 (
  j.1.2.1 v0 v1 v5 v7 h27) (
  some (bF, h27))
def f118.b1 (I : Inp) (call : CallFn) (j : f118.Js) (v0 v1 v5 v7 : AVal) (h : AHeap) : Rs :=
  kF 5 v5 fun v104 =>
  kL I v104 h fun v105 =>
  kZ v105 fun v106 =>
  j.2.1 v0 v1 v7 v105 v106 (Z 0) h
def f118.b2 (I : Inp) (call : CallFn) (j : f118.Js) (h : AHeap) : Rs :=
  some (bT, h)
def f118.b3 (I : Inp) (call : CallFn) (j : f118.Js) (v0 v1 v7 v105 v106 v107 : AVal) (h : AHeap) : Rs :=
  kB .lss v107 v106 fun v108 =>
  sCond v108 (
  j.1.2.2 h) (
  j.2.2.1 v0 v1 v7 v105 v106 v107 h)
def f118.b4 (I : Inp) (call : CallFn) (j : f118.Js) (v0 v1 v7 v105 v106 v107 : AVal) (h : AHeap) : Rs :=
  kI 1 v105 v107 fun v110 =>
  kL I v110 h fun v111 =>
  kI 2 v1 v111 fun v114 =>
  kM I 2 v114 h fun v115 =>
  kN v0 fun v117 =>
  kF 1 v117 fun v118 =>
  kL I v118 h fun v119 =>
  kI 3 v119 v7 fun v121 =>
  kF 0 v121 fun v122 =>
  kL I v122 h fun v123 =>
  kI 2 v123 v107 fun v125 =>
  kM I 2 v125 h fun v126 =>
  bndP (pEq P .true (.struct [.i, .i]) .false v115 v126 h) fun v127 =>
  sCond v127 (
  j.2.2.2 v0 v1 v7 v105 v106 v107 h) (
  some (bF, h))
def f118.b5 (I : Inp) (call : CallFn) (j : f118.Js) (v0 v1 v7 v105 v106 v107 : AVal) (h : AHeap) : Rs :=
  kB .add v107 (Z 1) fun v128 =>
  j.2.1 v0 v1 v7 v105 v106 v128 h
def f118.e (I : Inp) (call : CallFn) (j : f118.Js) (v0 v1 v2 : AVal) (h : AHeap) : Rs :=
  bnd (sBox v2 h) fun v5 h1 =>
  kF 0 v5 fun v12 =>
  kL I v12 h1 fun v13 =>
  kB .eql v13 (Z 12) fun v14 =>
  sCond v14 (
  kF 0 v5 fun v23 =>
  kL I v23 h1 fun v24 =>
  kB .eql v24 (Z 13) fun v25 =>
  gV v25 .true v1 h1 fun v27 h2 =>
  gP v25 .true (pFieldAddr 2 v5) h2 fun v28 h3 =>
  gP v25 .true (pLoad1 I v28 h3) h3 fun v29 h4 =>
  gP v25 .true (pIndexAddr 2 v27 v29) h4 fun v30 h5 =>
  gP v25 .true (pFieldAddr 0 v30) h5 fun v31 h6 =>
  gP v25 .true (pLoad1 I v31 h6) h6 fun v32 h7 =>
  gP v25 .true (pBin .eql v32 (Z 2)) h7 fun v33 h8 =>
  kP v25 v33 bF fun v34 =>
  sCond v34 (
  kF 0 v5 fun v42 =>
  kL I v42 h8 fun v43 =>
  kB .eql v43 (Z 14) fun v44 =>
  gV v44 .true v1 h8 fun v46 h9 =>
  gP v44 .true (pFieldAddr 2 v5) h9 fun v47 h10 =>
  gP v44 .true (pLoad1 I v47 h10) h10 fun v48 h11 =>
  gP v44 .true (pIndexAddr 2 v46 v48) h11 fun v49 h12 =>
  gP v44 .true (pFieldAddr 0 v49) h12 fun v50 h13 =>
  gP v44 .true (pLoad1 I v50 h13) h13 fun v51 h14 =>
  gP v44 .true (pBin .eql v51 (Z 3)) h14 fun v52 h15 =>
  kP v44 v52 bF fun v53 =>
  sCond v53 (
  j.1.1 v0 v1 v5 (Z 0) bF h15) (
  kN v0 fun v55 =>
  kF 2 v55 fun v56 =>
  kL I v56 h15 fun v57 =>
  kF 2 v5 fun v59 =>
  kL I v59 h15 fun v60 =>
  kI 2 v1 v60 fun v61 =>
  kF 1 v61 fun v62 =>
  kL I v62 h15 fun v63 =>
  kI 1 v57 v63 fun v64 =>
  kF 0 v64 fun v65 =>
  kL I v65 h15 fun v66 =>
  kF 4 v5 fun v67 =>
  kL I v67 h15 fun v68 =>
  kI 1 v66 v68 fun v69 =>
  kL I v69 h15 fun v70 =>
  j.1.1 v0 v1 v5 v70 bT h15)) (
  kF 2 v5 fun v36 =>
  kL I v36 h8 fun v37 =>
  kI 2 v1 v37 fun v38 =>
  kF 1 v38 fun v39 =>
  kL I v39 h8 fun v40 =>
  j.1.1 v0 v1 v5 v40 bT h8)) (
  kF 4 v5 fun v17 =>
  kL I v17 h1 fun v18 =>
  kC call 117 [v0, v18] h1 fun v19 h16 =>
  kX v19 0 fun v20 =>
  kX v19 1 fun v21 =>
  j.1.1 v0 v1 v5 v20 v21 h16)
def f118.J (I : Inp) (call : CallFn) (n : Nat) : f118.Js :=
  Nat.rec (motive := fun _ => f118.Js) ((Zr.z, (Zr.z, Zr.z)), (Zr.z, (Zr.z, Zr.z))) (fun _ j => ((f118.b0 I call j, (f118.b1 I call j, f118.b2 I call j)), (f118.b3 I call j, (f118.b4 I call j, f118.b5 I call j)))) n
def f118.JS (I : Inp) (call : CallFn) (n : Nat) : Jmp := (fun j : f118.Js => jmp [Ap.ap j.1.1 [0, 1, 5, 7, 8], Ap.ap j.1.2.1 [0, 1, 5, 7], Ap.ap j.1.2.2 [], Ap.ap j.2.1 [0, 1, 7, 105, 106, 107], Ap.ap j.2.2.1 [0, 1, 7, 105, 106, 107], Ap.ap j.2.2.2 [0, 1, 7, 105, 106, 107]]) (f118.J I call n)
theorem f118.S : SFn ⟨P, I, F⟩ call c118 (f118.JS I call) := .all 6 (by kernel_rfl) (fun ρ h => by kernel_rfl) (fun n ρ h => by kernel_rfl)
theorem f118.qe : Ap.all (f118.e I call (f118.J I call n)) (fun l h => execC P I call (f118.JS I call n) c118.body 0 (finV I c118.results) (argV l) h) := fun v0 v1 v2 h => by kernel_rfl
theorem f118.code : codeOf P 118 = some c118 := by kernel_rfl
def f118.run (I : Inp) : SF := fun call n => Ap.ar (f118.e I call (f118.J I call n))
theorem f118.ok (I : Inp) (F : Nat → Option AFn) (hF : F 118 = some (.code c118)) : SfOk P I F 118 (f118.run I) := okOf hF (by kernel_rfl) (fun _ => f118.S) fun call n => f118.qe
/-! haruspex/graph.May -/
def c119 : AFunc := cOf P 119
abbrev f119.Js : Type := (((A1 × A0) × (A4 × A4)) × ((A4 × A7) × (A7 × A7)))
def f119.b0 (I : Inp) (call : CallFn) (j : f119.Js) (v1 : AVal) (h : AHeap) : Rs :=
  kF 1 v1 fun v23 =>
  kL I v23 h fun v24 =>
  kZ v24 fun v25 =>
  j.1.2.1 v1 v24 v25 (Z 0) h
def f119.b1 (I : Inp) (call : CallFn) (j : f119.Js) (h : AHeap) : Rs :=
  some (bT, h)
def f119.b2 (I : Inp) (call : CallFn) (j : f119.Js) (v1 v24 v25 v26 : AVal) (h : AHeap) : Rs :=
  kB .lss v26 v25 fun v27 =>
  sCond v27 (
  j.1.1.2 h) (
  j.1.2.2 v1 v24 v25 v26 h)
def f119.b3 (I : Inp) (call : CallFn) (j : f119.Js) (v1 v24 v25 v26 : AVal) (h : AHeap) : Rs :=
  kI 1 v24 v26 fun v28 =>
  kL I v28 h fun v29 =>
  kZ v29 fun v31 =>
  j.2.1.2 v1 v24 v25 v26 v29 v31 (Z 0) h
def f119.b4 (I : Inp) (call : CallFn) (j : f119.Js) (v1 v24 v25 v26 : AVal) (h : AHeap) : Rs :=
  kB .add v26 (Z 1) fun v45 =>
  j.1.2.1 v1 v24 v25 v45 h
def f119.b5 (I : Inp) (call : CallFn) (j : f119.Js) (v1 v24 v25 v26 v30 v31 v32 : AVal) (h : AHeap) : Rs :=
  kB .lss v32 v31 fun v33 =>
  sCond v33 (
  j.2.1.1 v1 v24 v25 v26 h) (
  j.2.2.1 v1 v24 v25 v26 v30 v31 v32 h)
def f119.b6 (I : Inp) (call : CallFn) (j : f119.Js) (v1 v24 v25 v26 v30 v31 v32 : AVal) (h : AHeap) : Rs :=
  kI 1 v30 v32 fun v34 =>
  kL I v34 h fun v35 =>
  kB .lss v35 (Z 0) fun v37 =>
  gV v37 .false v35 h fun v39 h1 =>
  gP v37 .false (pFieldAddr 0 v1) h1 fun v40 h2 =>
  gP v37 .false (pLoad1 I v40 h2) h2 fun v41 h3 =>
  gP v37 .false (pBin .geq v39 v41) h3 fun v42 h4 =>
  kP v37 bT v42 fun v43 =>
  sCond v43 (
  j.2.2.2 v1 v24 v25 v26 v30 v31 v32 h4) (
  some (bF, h4))
def f119.b7 (I : Inp) (call : CallFn) (j : f119.Js) (v1 v24 v25 v26 v30 v31 v32 : AVal) (h : AHeap) : Rs :=
  kB .add v32 (Z 1) fun v44 =>
  j.2.1.2 v1 v24 v25 v26 v30 v31 v44 h
def f119.e (I : Inp) (call : CallFn) (j : f119.Js) (v0 : AVal) (h : AHeap) : Rs :=
  bnd (sBox v0 h) fun v1 h1 =>
  kF 0 v1 fun v7 =>
  kL I v7 h1 fun v8 =>
  kB .lss v8 (Z 0) fun v9 =>
  gP v9 .false (pFieldAddr 0 v1) h1 fun v11 h2 =>
  gP v9 .false (pLoad1 I v11 h2) h2 fun v12 h3 =>
  gP v9 .false (pBin .gtr v12 (Z 600)) h3 fun v13 h4 =>
  kP v9 bT v13 fun v14 =>
  gP v14 .false (pFieldAddr 1 v1) h4 fun v16 h5 =>
  gP v14 .false (pLoad1 I v16 h5) h5 fun v17 h6 =>
  gP v14 .false (pLenSl v17) h6 fun v18 h7 =>
  gP v14 .false (pFieldAddr 0 v1) h7 fun v19 h8 =>
  gP v14 .false (pLoad1 I v19 h8) h8 fun v20 h9 =>
  gP v14 .false (pBin .neq v18 v20) h9 fun v21 h10 =>
  kP v14 bT v21 fun v22 =>
  sCond v22 (
  j.1.1.1 v1 h10) (
  some (bF, h10))
def f119.J (I : Inp) (call : CallFn) (n : Nat) : f119.Js :=
  Nat.rec (motive := fun _ => f119.Js) (((Zr.z, Zr.z), (Zr.z, Zr.z)), ((Zr.z, Zr.z), (Zr.z, Zr.z))) (fun _ j => (((f119.b0 I call j, f119.b1 I call j), (f119.b2 I call j, f119.b3 I call j)), ((f119.b4 I call j, f119.b5 I call j), (f119.b6 I call j, f119.b7 I call j)))) n
def f119.JS (I : Inp) (call : CallFn) (n : Nat) : Jmp := (fun j : f119.Js => jmp [Ap.ap j.1.1.1 [1], Ap.ap j.1.1.2 [], Ap.ap j.1.2.1 [1, 24, 25, 26], Ap.ap j.1.2.2 [1, 24, 25, 26], Ap.ap j.2.1.1 [1, 24, 25, 26], Ap.ap j.2.1.2 [1, 24, 25, 26, 30, 31, 32], Ap.ap j.2.2.1 [1, 24, 25, 26, 30, 31, 32], Ap.ap j.2.2.2 [1, 24, 25, 26, 30, 31, 32]]) (f119.J I call n)
theorem f119.S : SFn ⟨P, I, F⟩ call c119 (f119.JS I call) := .all 8 (by kernel_rfl) (fun ρ h => by kernel_rfl) (fun n ρ h => by kernel_rfl)
theorem f119.qe : Ap.all (f119.e I call (f119.J I call n)) (fun l h => execC P I call (f119.JS I call n) c119.body 0 (finV I c119.results) (argV l) h) := fun v0 h => by kernel_rfl
theorem f119.code : codeOf P 119 = some c119 := by kernel_rfl
def f119.run (I : Inp) : SF := fun call n => Ap.ar (f119.e I call (f119.J I call n))
theorem f119.ok (I : Inp) (F : Nat → Option AFn) (hF : F 119 = some (.code c119)) : SfOk P I F 119 (f119.run I) := okOf hF (by kernel_rfl) (fun _ => f119.S) fun call n => f119.qe
/-! haruspex/graph.Reach$1 -/
def c120 : AFunc := cOf P 120
abbrev f120.Js : Type := Unit
def f120.e (I : Inp) (call : CallFn) (j : f120.Js) (v0 v1 v2 v3 : AVal) (h : AHeap) : Rs :=
  kB .geq v0 (Z 0) fun v6 =>
  gV v6 .true v0 h fun v8 h1 =>
  gP v6 .true (pFieldAddr 0 v1) h1 fun v9 h2 =>
  gP v6 .true (pLoad1 I v9 h2) h2 fun v10 h3 =>
  gP v6 .true (pBin .lss v8 v10) h3 fun v11 h4 =>
  kP v6 v11 bF fun v12 =>
  gP v12 .true (pLoad1 I v2 h4) h4 fun v14 h5 =>
  gV v12 .true v0 h5 fun v15 h6 =>
  gS v12 .true (call 93 [v14, v15] h6) h6 fun v16 h7 =>
  kP v12 v16 bF fun v17 =>
  sCond v17 (
  some (.tuple [], h7)) (
  kL I v3 h7 fun v18 =>
  bnd (sBuildSlice [(Z 0)] 1 [(0, 1, v0)] h7) fun v20 h8 =>
  bnd (sAppend I 1 8 v18 v20 h8) fun v21 h9 =>
  kS 1 v3 v21 h9 fun _ h10 =>
  some (.tuple [], h10))
theorem f120.S : SFn ⟨P, I, F⟩ call c120 (fun _ => jmp []) := .all 0 (by kernel_rfl) (fun ρ h => by kernel_rfl) (fun n ρ h => by kernel_rfl)
theorem f120.qe : Ap.all (f120.e I call ()) (fun l h => execC P I call (jmp []) c120.body 0 (finV I c120.results) (argV l) h) := fun v0 v1 v2 v3 h => by kernel_rfl
theorem f120.code : codeOf P 120 = some c120 := by kernel_rfl
def f120.run (I : Inp) : SF := fun call n => Ap.ar (f120.e I call ())
theorem f120.ok (I : Inp) (F : Nat → Option AFn) (hF : F 120 = some (.code c120)) : SfOk P I F 120 (f120.run I) := okOf hF (by kernel_rfl) (fun _ => f120.S) fun call n => f120.qe
/-! haruspex/ir.Outs -/
def c121 : AFunc := cOf P 121
abbrev f121.Js : Type := (A0 × A2)
def f121.b0 (I : Inp) (call : CallFn) (j : f121.Js) (h : AHeap) : Rs :=
  some (.nils, h)
def f121.b1 (I : Inp) (call : CallFn) (j : f121.Js) (v0 v3 : AVal) (h : AHeap) : Rs :=
  sCond v3 (
  kN v0 fun v32 =>
  kF 1 v32 fun v33 =>
  kL I v33 h fun v34 =>
  kB .eql v34 (Z 2) fun v35 =>
  sCond v35 (
  j.1 h) (
  kN v0 fun v37 =>
  kF 3 v37 fun v38 =>
  kL I v38 h fun v39 =>
  kN v0 fun v41 =>
  kF 4 v41 fun v42 =>
  kL I v42 h fun v43 =>
  bnd (sBuildSlice [(Z 0)] 2 [(0, 1, v39), (1, 1, v43)] h) fun v44 h1 =>
  some (v44, h1))) (
  kN v0 fun v26 =>
  kF 3 v26 fun v27 =>
  kL I v27 h fun v28 =>
  bnd (sBuildSlice [(Z 0)] 1 [(0, 1, v28)] h) fun v29 h2 =>
  some (v29, h2))
def f121.e (I : Inp) (call : CallFn) (j : f121.Js) (v0 : AVal) (h : AHeap) : Rs :=
  kN v0 fun v5 =>
  kF 1 v5 fun v6 =>
  kL I v6 h fun v7 =>
  kB .eql v7 (Z 1) fun v8 =>
  sCond v8 (
  kN v0 fun v10 =>
  kF 1 v10 fun v11 =>
  kL I v11 h fun v12 =>
  kB .eql v12 (Z 2) fun v13 =>
  gV v13 .true v0 h fun v15 h1 =>
  gP v13 .true (pNilCheck v15) h1 fun v16 h2 =>
  gP v13 .true (pFieldAddr 3 v16) h2 fun v17 h3 =>
  gP v13 .true (pLoad1 I v17 h3) h3 fun v18 h4 =>
  gV v13 .true v0 h4 fun v19 h5 =>
  gP v13 .true (pNilCheck v19) h5 fun v20 h6 =>
  gP v13 .true (pFieldAddr 4 v20) h6 fun v21 h7 =>
  gP v13 .true (pLoad1 I v21 h7) h7 fun v22 h8 =>
  gP v13 .true (pBin .eql v18 v22) h8 fun v23 h9 =>
  kP v13 v23 bF fun v24 =>
  j.2 v0 v24 h9) (
  j.2 v0 v8 h)
def f121.J (I : Inp) (call : CallFn) (n : Nat) : f121.Js :=
  Nat.rec (motive := fun _ => f121.Js) (Zr.z, Zr.z) (fun _ j => (f121.b0 I call j, f121.b1 I call j)) n
def f121.JS (I : Inp) (call : CallFn) (n : Nat) : Jmp := (fun j : f121.Js => jmp [Ap.ap j.1 [], Ap.ap j.2 [0, 3]]) (f121.J I call n)
theorem f121.S : SFn ⟨P, I, F⟩ call c121 (f121.JS I call) := .all 2 (by kernel_rfl) (fun ρ h => by kernel_rfl) (fun n ρ h => by kernel_rfl)
theorem f121.qe : Ap.all (f121.e I call (f121.J I call n)) (fun l h => execC P I call (f121.JS I call n) c121.body 0 (finV I c121.results) (argV l) h) := fun v0 h => by kernel_rfl
theorem f121.code : codeOf P 121 = some c121 := by kernel_rfl
def f121.run (I : Inp) : SF := fun call n => Ap.ar (f121.e I call (f121.J I call n))
theorem f121.ok (I : Inp) (F : Nat → Option AFn) (hF : F 121 = some (.code c121)) : SfOk P I F 121 (f121.run I) := okOf hF (by kernel_rfl) (fun _ => f121.S) fun call n => f121.qe
/-! (*haruspex/bitset.Set).at -/
def c122 : AFunc := cOf P 122
abbrev f122.Js : Type := A0
def f122.b0 (I : Inp) (call : CallFn) (j : f122.Js) (h : AHeap) : Rs :=
  some ((.int .u64 (.ofNat 0)), h)
def f122.e (I : Inp) (call : CallFn) (j : f122.Js) (v0 v1 : AVal) (h : AHeap) : Rs :=
  kC call 128 [v0] h fun v7 h1 =>
  kZ v7 fun v10 =>
  kB .lss v1 v10 fun v11 =>
  sCond v11 (
  j h1) (
  kI 1 v7 v1 fun v14 =>
  kL I v14 h1 fun v15 =>
  some (v15, h1))
def f122.J (I : Inp) (call : CallFn) (n : Nat) : f122.Js :=
  Nat.rec (motive := fun _ => f122.Js) Zr.z (fun _ j => f122.b0 I call j) n
def f122.JS (I : Inp) (call : CallFn) (n : Nat) : Jmp := (fun j : f122.Js => jmp [Ap.ap j []]) (f122.J I call n)
theorem f122.S : SFn ⟨P, I, F⟩ call c122 (f122.JS I call) := .all 1 (by kernel_rfl) (fun ρ h => by kernel_rfl) (fun n ρ h => by kernel_rfl)
theorem f122.qe : Ap.all (f122.e I call (f122.J I call n)) (fun l h => execC P I call (f122.JS I call n) c122.body 0 (finV I c122.results) (argV l) h) := fun v0 v1 h => by kernel_rfl
theorem f122.code : codeOf P 122 = some c122 := by kernel_rfl
def f122.run (I : Inp) : SF := fun call n => Ap.ar (f122.e I call (f122.J I call n))
theorem f122.ok (I : Inp) (F : Nat → Option AFn) (hF : F 122 = some (.code c122)) : SfOk P I F 122 (f122.run I) := okOf hF (by kernel_rfl) (fun _ => f122.S) fun call n => f122.qe
/-! haruspex/assign.first -/
def c123 : AFunc := cOf P 123
abbrev f123.Js : Type := ((A1 × A3) × (A3 × A3))
def f123.b0 (I : Inp) (call : CallFn) (j : f123.Js) (v3 : AVal) (h : AHeap) : Rs :=
  some (v3, h)
def f123.b1 (I : Inp) (call : CallFn) (j : f123.Js) (v3 v7 v8 : AVal) (h : AHeap) : Rs :=
  kB .lss v8 v7 fun v9 =>
  sCond v9 (
  j.1.1 v3 h) (
  j.2.1 v3 v7 v8 h)
def f123.b2 (I : Inp) (call : CallFn) (j : f123.Js) (v3 v7 v8 : AVal) (h : AHeap) : Rs :=
  kC call 93 [v3, v8] h fun v13 h1 =>
  j.2.2 v3 v7 v8 h1
def f123.b3 (I : Inp) (call : CallFn) (j : f123.Js) (v3 v7 v8 : AVal) (h : AHeap) : Rs :=
  kB .add v8 (Z 1) fun v14 =>
  j.1.2 v3 v7 v14 h
def f123.e (I : Inp) (call : CallFn) (j : f123.Js) (v0 : AVal) (h : AHeap) : Rs :=
  bndP (pBuild [.nils] []) fun v5 =>
  bnd (sBox v5 h) fun v6 h1 =>
  j.1.2 v6 v0 (Z 0) h1
def f123.J (I : Inp) (call : CallFn) (n : Nat) : f123.Js :=
  Nat.rec (motive := fun _ => f123.Js) ((Zr.z, Zr.z), (Zr.z, Zr.z)) (fun _ j => ((f123.b0 I call j, f123.b1 I call j), (f123.b2 I call j, f123.b3 I call j))) n
def f123.JS (I : Inp) (call : CallFn) (n : Nat) : Jmp := (fun j : f123.Js => jmp [Ap.ap j.1.1 [3], Ap.ap j.1.2 [3, 7, 8], Ap.ap j.2.1 [3, 7, 8], Ap.ap j.2.2 [3, 7, 8]]) (f123.J I call n)
theorem f123.S : SFn ⟨P, I, F⟩ call c123 (f123.JS I call) := .all 4 (by kernel_rfl) (fun ρ h => by kernel_rfl) (fun n ρ h => by kernel_rfl)
theorem f123.qe : Ap.all (f123.e I call (f123.J I call n)) (fun l h => execC P I call (f123.JS I call n) c123.body 0 (finV I c123.results) (argV l) h) := fun v0 h => by kernel_rfl
theorem f123.code : codeOf P 123 = some c123 := by kernel_rfl
def f123.run (I : Inp) : SF := fun call n => Ap.ar (f123.e I call (f123.J I call n))
theorem f123.ok (I : Inp) (F : Nat → Option AFn) (hF : F 123 = some (.code c123)) : SfOk P I F 123 (f123.run I) := okOf hF (by kernel_rfl) (fun _ => f123.S) fun call n => f123.qe
/-! haruspex/graph.Order -/
def c124 : AFunc := cOf P 124
abbrev f124.Js : Type := A2
def f124.b0 (I : Inp) (call : CallFn) (j : f124.Js) (v1 v2 : AVal) (h : AHeap) : Rs :=
  kM I 2 v2 h fun v19 =>
  bndP (pBuild [.nils] []) fun v21 =>
  bnd (sBox v21 h) fun v22 h1 =>
  kC call 133 [v19, v1, v22, .nils] h1 fun v23 h2 =>
  kC call 134 [v23] h2 fun v25 h3 =>
  some (v23, h3)
def f124.e (I : Inp) (call : CallFn) (j : f124.Js) (v0 v1 : AVal) (h : AHeap) : Rs :=
  bnd (sBox v0 h) fun v2 h1 =>
  kM I 2 v2 h1 fun v6 =>
  kC call 119 [v6] h1 fun v7 h2 =>
  kU .not v7 fun v8 =>
  gV v8 .false v1 h2 fun v10 h3 =>
  gP v8 .false (pBin .lss v10 (Z 0)) h3 fun v11 h4 =>
  kP v8 bT v11 fun v12 =>
  gV v12 .false v1 h4 fun v14 h5 =>
  gP v12 .false (pFieldAddr 0 v2) h5 fun v15 h6 =>
  gP v12 .false (pLoad1 I v15 h6) h6 fun v16 h7 =>
  gP v12 .false (pBin .geq v14 v16) h7 fun v17 h8 =>
  kP v12 bT v17 fun v18 =>
  sCond v18 (
  j v1 v2 h8) (
  some (.nils, h8))
def f124.J (I : Inp) (call : CallFn) (n : Nat) : f124.Js :=
  Nat.rec (motive := fun _ => f124.Js) Zr.z (fun _ j => f124.b0 I call j) n
def f124.JS (I : Inp) (call : CallFn) (n : Nat) : Jmp := (fun j : f124.Js => jmp [Ap.ap j [1, 2]]) (f124.J I call n)
theorem f124.S : SFn ⟨P, I, F⟩ call c124 (f124.JS I call) := .all 1 (by kernel_rfl) (fun ρ h => by kernel_rfl) (fun n ρ h => by kernel_rfl)
theorem f124.qe : Ap.all (f124.e I call (f124.J I call n)) (fun l h => execC P I call (f124.JS I call n) c124.body 0 (finV I c124.results) (argV l) h) := fun v0 v1 h => by kernel_rfl
theorem f124.code : codeOf P 124 = some c124 := by kernel_rfl
def f124.run (I : Inp) : SF := fun call n => Ap.ar (f124.e I call (f124.J I call n))
theorem f124.ok (I : Inp) (F : Nat → Option AFn) (hF : F 124 = some (.code c124)) : SfOk P I F 124 (f124.run I) := okOf hF (by kernel_rfl) (fun _ => f124.S) fun call n => f124.qe
/-! haruspex/assign.out -/
def c125 : AFunc := cOf P 125
abbrev f125.Js : Type := ((A1 × A4) × (A4 × A4))
def f125.b0 (I : Inp) (call : CallFn) (j : f125.Js) (v5 : AVal) (h : AHeap) : Rs :=
  some (v5, h)
def f125.b1 (I : Inp) (call : CallFn) (j : f125.Js) (v5 v13 v14 v15 : AVal) (h : AHeap) : Rs :=
  kB .lss v15 v14 fun v16 =>
  sCond v16 (
  j.1.1 v5 h) (
  j.2.1 v5 v13 v14 v15 h)
def f125.b2 (I : Inp) (call : CallFn) (j : f125.Js) (v5 v13 v14 v15 : AVal) (h : AHeap) : Rs :=
  kI 6 v13 v15 fun v17 =>
  kM I 6 v17 h fun v18 =>
  kA [(Z 0), (Z 0), (Z 0), (Z 0), (Z 0), .nils] h fun v7 h1 =>
  kS 6 v7 v18 h1 fun _ h2 =>
  kM I 6 v7 h2 fun v20 =>
  kC call 92 [v20] h2 fun v21 h3 =>
  kX v21 0 fun v22 =>
  kX v21 1 fun v23 =>
  sCond v23 (
  j.2.2 v5 v13 v14 v15 h3) (
  kC call 93 [v5, v22] h3 fun v27 h4 =>
  j.2.2 v5 v13 v14 v15 h4)
def f125.b3 (I : Inp) (call : CallFn) (j : f125.Js) (v5 v13 v14 v15 : AVal) (h : AHeap) : Rs :=
  kB .add v15 (Z 1) fun v28 =>
  j.1.2 v5 v13 v14 v28 h
def f125.e (I : Inp) (call : CallFn) (j : f125.Js) (v0 v1 : AVal) (h : AHeap) : Rs :=
  bnd (sBox v0 h) fun v2 h1 =>
  kC call 135 [v1] h1 fun v11 h2 =>
  kF 0 v2 fun v12 =>
  kL I v12 h2 fun v13 =>
  kZ v13 fun v14 =>
  j.1.2 v11 v13 v14 (Z 0) h2
def f125.J (I : Inp) (call : CallFn) (n : Nat) : f125.Js :=
  Nat.rec (motive := fun _ => f125.Js) ((Zr.z, Zr.z), (Zr.z, Zr.z)) (fun _ j => ((f125.b0 I call j, f125.b1 I call j), (f125.b2 I call j, f125.b3 I call j))) n
def f125.JS (I : Inp) (call : CallFn) (n : Nat) : Jmp := (fun j : f125.Js => jmp [Ap.ap j.1.1 [5], Ap.ap j.1.2 [5, 13, 14, 15], Ap.ap j.2.1 [5, 13, 14, 15], Ap.ap j.2.2 [5, 13, 14, 15]]) (f125.J I call n)
theorem f125.S : SFn ⟨P, I, F⟩ call c125 (f125.JS I call) := .all 4 (by kernel_rfl) (fun ρ h => by kernel_rfl) (fun n ρ h => by kernel_rfl)
theorem f125.qe : Ap.all (f125.e I call (f125.J I call n)) (fun l h => execC P I call (f125.JS I call n) c125.body 0 (finV I c125.results) (argV l) h) := fun v0 v1 h => by kernel_rfl
theorem f125.code : codeOf P 125 = some c125 := by kernel_rfl
def f125.run (I : Inp) : SF := fun call n => Ap.ar (f125.e I call (f125.J I call n))
theorem f125.ok (I : Inp) (F : Nat → Option AFn) (hF : F 125 = some (.code c125)) : SfOk P I F 125 (f125.run I) := okOf hF (by kernel_rfl) (fun _ => f125.S) fun call n => f125.qe
/-! (*haruspex/bitset.Set).Meet -/
def c126 : AFunc := cOf P 126
abbrev f126.Js : Type := ((A1 × A4) × (A4 × A4))
def f126.b0 (I : Inp) (call : CallFn) (j : f126.Js) (v5 : AVal) (h : AHeap) : Rs :=
  some (v5, h)
def f126.b1 (I : Inp) (call : CallFn) (j : f126.Js) (v1 v5 v13 v14 : AVal) (h : AHeap) : Rs :=
  kB .lss v14 v13 fun v15 =>
  sCond v15 (
  j.1.1 v5 h) (
  j.2.1 v1 v5 v13 v14 h)
def f126.b2 (I : Inp) (call : CallFn) (j : f126.Js) (v1 v5 v13 v14 : AVal) (h : AHeap) : Rs :=
  kN v5 fun v18 =>
  kF 0 v18 fun v19 =>
  kL I v19 h fun v20 =>
  kI 1 v20 v14 fun v22 =>
  kL I v22 h fun v23 =>
  kC call 122 [v1, v14] h fun v26 h1 =>
  kB .and v23 v26 fun v27 =>
  kI 1 v20 v14 fun v28 =>
  kS 1 v28 v27 h1 fun _ h2 =>
  sCheck (sSame (lift (pLoad1 I v19 h1) h1) v20 && true) (
  sCheck (sSame (lift (pLoad1 I v22 h1) h1) v23 && true) (
  j.2.2 v1 v5 v13 v14 h2))
def f126.b3 (I : Inp) (call : CallFn) (j : f126.Js) (v1 v5 v13 v14 : AVal) (h : AHeap) : Rs :=
  kB .add v14 (Z 1) fun v29 =>
  j.1.2 v1 v5 v13 v29 h
def f126.e (I : Inp) (call : CallFn) (j : f126.Js) (v0 v1 : AVal) (h : AHeap) : Rs :=
  kC call 135 [v0] h fun v8 h1 =>
  kN v8 fun v10 =>
  kF 0 v10 fun v11 =>
  kL I v11 h1 fun v12 =>
  kZ v12 fun v13 =>
  j.1.2 v1 v8 v13 (Z 0) h1
def f126.J (I : Inp) (call : CallFn) (n : Nat) : f126.Js :=
  Nat.rec (motive := fun _ => f126.Js) ((Zr.z, Zr.z), (Zr.z, Zr.z)) (fun _ j => ((f126.b0 I call j, f126.b1 I call j), (f126.b2 I call j, f126.b3 I call j))) n
def f126.JS (I : Inp) (call : CallFn) (n : Nat) : Jmp := (fun j : f126.Js => jmp [Ap.ap j.1.1 [5], Ap.ap j.1.2 [1, 5, 13, 14], Ap.ap j.2.1 [1, 5, 13, 14], Ap.ap j.2.2 [1, 5, 13, 14]]) (f126.J I call n)
theorem f126.S : SFn ⟨P, I, F⟩ call c126 (f126.JS I call) := .all 4 (by kernel_rfl) (fun ρ h => by kernel_rfl) (fun n ρ h => by kernel_rfl)
theorem f126.qe : Ap.all (f126.e I call (f126.J I call n)) (fun l h => execC P I call (f126.JS I call n) c126.body 0 (finV I c126.results) (argV l) h) := fun v0 v1 h => by kernel_rfl
theorem f126.code : codeOf P 126 = some c126 := by kernel_rfl
def f126.run (I : Inp) : SF := fun call n => Ap.ar (f126.e I call (f126.J I call n))
theorem f126.ok (I : Inp) (F : Nat → Option AFn) (hF : F 126 = some (.code c126)) : SfOk P I F 126 (f126.run I) := okOf hF (by kernel_rfl) (fun _ => f126.S) fun call n => f126.qe
/-! (*haruspex/bitset.Set).Eq -/
def c127 : AFunc := cOf P 127
abbrev f127.Js : Type := Unit
def f127.e (I : Inp) (call : CallFn) (j : f127.Js) (v0 v1 : AVal) (h : AHeap) : Rs :=
  kC call 91 [v0, v1] h fun v7 h1 =>
  gV v7 .true v1 h1 fun v9 h2 =>
  gV v7 .true v0 h2 fun v10 h3 =>
  gS v7 .true (call 91 [v9, v10] h3) h3 fun v11 h4 =>
  kP v7 v11 bF fun v12 =>
  some (v12, h4)
theorem f127.S : SFn ⟨P, I, F⟩ call c127 (fun _ => jmp []) := .all 0 (by kernel_rfl) (fun ρ h => by kernel_rfl) (fun n ρ h => by kernel_rfl)
theorem f127.qe : Ap.all (f127.e I call ()) (fun l h => execC P I call (jmp []) c127.body 0 (finV I c127.results) (argV l) h) := fun v0 v1 h => by kernel_rfl
theorem f127.code : codeOf P 127 = some c127 := by kernel_rfl
def f127.run (I : Inp) : SF := fun call n => Ap.ar (f127.e I call ())
theorem f127.ok (I : Inp) (F : Nat → Option AFn) (hF : F 127 = some (.code c127)) : SfOk P I F 127 (f127.run I) := okOf hF (by kernel_rfl) (fun _ => f127.S) fun call n => f127.qe
/-! (*haruspex/bitset.Set).words -/
def c128 : AFunc := cOf P 128
abbrev f128.Js : Type := A1
def f128.b0 (I : Inp) (call : CallFn) (j : f128.Js) (v0 : AVal) (h : AHeap) : Rs :=
  kN v0 fun v6 =>
  kF 0 v6 fun v7 =>
  kL I v7 h fun v8 =>
  some (v8, h)
def f128.e (I : Inp) (call : CallFn) (j : f128.Js) (v0 : AVal) (h : AHeap) : Rs :=
  bndP (pEq P .false .ptr .true v0 .nilp h) fun v4 =>
  sCond v4 (
  j v0 h) (
  some (.nils, h))
def f128.J (I : Inp) (call : CallFn) (n : Nat) : f128.Js :=
  Nat.rec (motive := fun _ => f128.Js) Zr.z (fun _ j => f128.b0 I call j) n
def f128.JS (I : Inp) (call : CallFn) (n : Nat) : Jmp := (fun j : f128.Js => jmp [Ap.ap j [0]]) (f128.J I call n)
theorem f128.S : SFn ⟨P, I, F⟩ call c128 (f128.JS I call) := .all 1 (by kernel_rfl) (fun ρ h => by kernel_rfl) (fun n ρ h => by kernel_rfl)
theorem f128.qe : Ap.all (f128.e I call (f128.J I call n)) (fun l h => execC P I call (f128.JS I call n) c128.body 0 (finV I c128.results) (argV l) h) := fun v0 h => by kernel_rfl
theorem f128.code : codeOf P 128 = some c128 := by kernel_rfl
def f128.run (I : Inp) : SF := fun call n => Ap.ar (f128.e I call (f128.J I call n))
theorem f128.ok (I : Inp) (F : Nat → Option AFn) (hF : F 128 = some (.code c128)) : SfOk P I F 128 (f128.run I) := okOf hF (by kernel_rfl) (fun _ => f128.S) fun call n => f128.qe
/-! (*haruspex/code.reader).block -/
def c129 : AFunc := cOf P 129
abbrev f129.Js : Type := (((A3 × (A4 × A4)) × (A4 × (A5 × A8))) × ((A8 × (A8 × A2)) × (A6 × (A6 × A6))))
def f129.b0 (I : Inp) (call : CallFn) (j : f129.Js) (v0 v2 v3 : AVal) (h : AHeap) : Rs :=
  kF 1 v3 fun v50 =>
  kF 2 v3 fun v51 =>
  kF 3 v3 fun v52 =>
  kF 4 v3 fun v53 =>
  bnd (sBuildSlice [.nilp] 4 [(0, 1, v50), (1, 1, v51), (2, 1, v52), (3, 1, v53)] h) fun v54 h1 =>
  kZ v54 fun v55 =>
  j.2.2.1 v0 v2 v3 v54 v55 (Z 0) h1
def f129.b1 (I : Inp) (call : CallFn) (j : f129.Js) (v0 v2 v3 v4 : AVal) (h : AHeap) : Rs :=
  kB .gtr v4 (Z 0) fun v14 =>
  gV v14 .true v0 h fun v16 h1 =>
  gP v14 .true (pNilCheck v16) h1 fun v17 h2 =>
  gP v14 .true (pFieldAddr 1 v17) h2 fun v18 h3 =>
  gP v14 .true (pLoad1 I v18 h3) h3 fun v19 h4 =>
  gP v14 .true (pUn .not v19) h4 fun v20 h5 =>
  kP v14 v20 bF fun v21 =>
  sCond v21 (
  j.1.1.1 v0 v2 v3 h5) (
  j.1.1.2.2 v0 v2 v3 v4 h5)
def f129.b2 (I : Inp) (call : CallFn) (j : f129.Js) (v0 v2 v3 v4 : AVal) (h : AHeap) : Rs :=
  bndP (pBuild [(Z 0), (Z 0), (Z 0), (Z 0), (Z 0), .nils] []) fun v24 =>
  kA [(Z 0), (Z 0), (Z 0), (Z 0), (Z 0), .nils] h fun v5 h1 =>
  kS 6 v5 v24 h1 fun _ h2 =>
  kF 0 v5 fun v25 =>
  kF 1 v5 fun v26 =>
  kF 2 v5 fun v27 =>
  kF 3 v5 fun v28 =>
  kF 4 v5 fun v29 =>
  bnd (sBuildSlice [.nilp] 5 [(0, 1, v25), (1, 1, v26), (2, 1, v27), (3, 1, v28), (4, 1, v29)] h2) fun v30 h3 =>
  kZ v30 fun v31 =>
  j.1.2.2.2 v0 v2 v3 v4 v5 v30 v31 (Z 0) h3
def f129.b3 (I : Inp) (call : CallFn) (j : f129.Js) (v0 v2 v3 v4 : AVal) (h : AHeap) : Rs :=
  kB .sub v4 (Z 1) fun v23 =>
  j.1.1.2.1 v0 v2 v3 v23 h
def f129.b4 (I : Inp) (call : CallFn) (j : f129.Js) (v0 v2 v3 v4 v5 : AVal) (h : AHeap) : Rs :=
  kC call 101 [v0] h fun v42 h1 =>
  kF 5 v5 fun v43 =>
  kS 1 v43 v42 h1 fun _ h2 =>
  kF 0 v3 fun v44 =>
  kL I v44 h2 fun v45 =>
  kM I 6 v5 h2 fun v46 =>
  bnd (sBuildSlice [(Z 0), (Z 0), (Z 0), (Z 0), (Z 0), .nils] 1 [(0, 6, v46)] h2) fun v47 h3 =>
  bnd (sAppend I 6 64 v45 v47 h3) fun v48 h4 =>
  kF 0 v3 fun v49 =>
  kS 1 v49 v48 h4 fun _ h5 =>
  j.1.2.1 v0 v2 v3 v4 h5
def f129.b5 (I : Inp) (call : CallFn) (j : f129.Js) (v0 v2 v3 v4 v5 v30 v31 v32 : AVal) (h : AHeap) : Rs :=
  kB .lss v32 v31 fun v33 =>
  sCond v33 (
  j.1.2.2.1 v0 v2 v3 v4 v5 h) (
  j.2.1.1 v0 v2 v3 v4 v5 v30 v31 v32 h)
def f129.b6 (I : Inp) (call : CallFn) (j : f129.Js) (v0 v2 v3 v4 v5 v30 v31 v32 : AVal) (h : AHeap) : Rs :=
  kI 1 v30 v32 fun v34 =>
  kL I v34 h fun v35 =>
  kC call 102 [v0] h fun v38 h1 =>
  kN v35 fun v39 =>
  kS 1 v39 v38 h1 fun _ h2 =>
  j.2.1.2.1 v0 v2 v3 v4 v5 v30 v31 v32 h2
def f129.b7 (I : Inp) (call : CallFn) (j : f129.Js) (v0 v2 v3 v4 v5 v30 v31 v32 : AVal) (h : AHeap) : Rs :=
  kB .add v32 (Z 1) fun v40 =>
  j.1.2.2.2 v0 v2 v3 v4 v5 v30 v31 v40 h
def f129.b8 (I : Inp) (call : CallFn) (j : f129.Js) (v2 v3 : AVal) (h : AHeap) : Rs :=
  kM I 5 v3 h fun v65 =>
  kS 5 v2 v65 h fun _ h1 =>
  sRet (sCons (sResN I 5 v2 h1) (some [])) h1
def f129.b9 (I : Inp) (call : CallFn) (j : f129.Js) (v0 v2 v3 v54 v55 v56 : AVal) (h : AHeap) : Rs :=
  kB .lss v56 v55 fun v57 =>
  sCond v57 (
  j.2.1.2.2 v2 v3 h) (
  j.2.2.2.1 v0 v2 v3 v54 v55 v56 h)
def f129.b10 (I : Inp) (call : CallFn) (j : f129.Js) (v0 v2 v3 v54 v55 v56 : AVal) (h : AHeap) : Rs :=
  kI 1 v54 v56 fun v58 =>
  kL I v58 h fun v59 =>
  kC call 102 [v0] h fun v62 h1 =>
  kN v59 fun v63 =>
  kS 1 v63 v62 h1 fun _ h2 =>
  j.2.2.2.2 v0 v2 v3 v54 v55 v56 h2
def f129.b11 (I : Inp) (call : CallFn) (j : f129.Js) (v0 v2 v3 v54 v55 v56 : AVal) (h : AHeap) : Rs :=
  kB .add v56 (Z 1) fun v64 =>
  j.2.2.1 v0 v2 v3 v54 v55 v64 h
def f129.e (I : Inp) (call : CallFn) (j : f129.Js) (v0 : AVal) (h : AHeap) : Rs :=
  kA [.nils, (Z 0), (Z 0), (Z 0), (Z 0)] h fun v2 h1 =>
  bndP (pBuild [.nils, (Z 0), (Z 0), (Z 0), (Z 0)] []) fun v10 =>
  kA [.nils, (Z 0), (Z 0), (Z 0), (Z 0)] h1 fun v3 h2 =>
  kS 5 v3 v10 h2 fun _ h3 =>
  kC call 98 [v0] h3 fun v12 h4 =>
  j.1.1.2.1 v0 v2 v3 v12 h4
def f129.J (I : Inp) (call : CallFn) (n : Nat) : f129.Js :=
  Nat.rec (motive := fun _ => f129.Js) (((Zr.z, (Zr.z, Zr.z)), (Zr.z, (Zr.z, Zr.z))), ((Zr.z, (Zr.z, Zr.z)), (Zr.z, (Zr.z, Zr.z)))) (fun _ j => (((f129.b0 I call j, (f129.b1 I call j, f129.b2 I call j)), (f129.b3 I call j, (f129.b4 I call j, f129.b5 I call j))), ((f129.b6 I call j, (f129.b7 I call j, f129.b8 I call j)), (f129.b9 I call j, (f129.b10 I call j, f129.b11 I call j))))) n
def f129.JS (I : Inp) (call : CallFn) (n : Nat) : Jmp := (fun j : f129.Js => jmp [Ap.ap j.1.1.1 [0, 2, 3], Ap.ap j.1.1.2.1 [0, 2, 3, 4], Ap.ap j.1.1.2.2 [0, 2, 3, 4], Ap.ap j.1.2.1 [0, 2, 3, 4], Ap.ap j.1.2.2.1 [0, 2, 3, 4, 5], Ap.ap j.1.2.2.2 [0, 2, 3, 4, 5, 30, 31, 32], Ap.ap j.2.1.1 [0, 2, 3, 4, 5, 30, 31, 32], Ap.ap j.2.1.2.1 [0, 2, 3, 4, 5, 30, 31, 32], Ap.ap j.2.1.2.2 [2, 3], Ap.ap j.2.2.1 [0, 2, 3, 54, 55, 56], Ap.ap j.2.2.2.1 [0, 2, 3, 54, 55, 56], Ap.ap j.2.2.2.2 [0, 2, 3, 54, 55, 56]]) (f129.J I call n)
theorem f129.S : SFn ⟨P, I, F⟩ call c129 (f129.JS I call) := .all 12 (by kernel_rfl) (fun ρ h => by kernel_rfl) (fun n ρ h => by kernel_rfl)
theorem f129.qe : Ap.all (f129.e I call (f129.J I call n)) (fun l h => execC P I call (f129.JS I call n) c129.body 0 (finV I c129.results) (argV l) h) := fun v0 h => by kernel_rfl
theorem f129.code : codeOf P 129 = some c129 := by kernel_rfl
def f129.run (I : Inp) : SF := fun call n => Ap.ar (f129.e I call (f129.J I call n))
theorem f129.ok (I : Inp) (F : Nat → Option AFn) (hF : F 129 = some (.code c129)) : SfOk P I F 129 (f129.run I) := okOf hF (by kernel_rfl) (fun _ => f129.S) fun call n => f129.qe
/-! haruspex/graph.behind -/
def c133 : AFunc := cOf P 133
abbrev f133.Js : Type := ((A4 × A2) × (A7 × (A7 × A7)))
def f133.b0 (I : Inp) (call : CallFn) (j : f133.Js) (v1 v2 v3 v4 : AVal) (h : AHeap) : Rs :=
  kF 1 v4 fun v16 =>
  kL I v16 h fun v17 =>
  kI 1 v17 v1 fun v19 =>
  kL I v19 h fun v20 =>
  kZ v20 fun v21 =>
  j.2.1 v1 v2 v3 v4 v20 v21 (Z 0) h
def f133.b1 (I : Inp) (call : CallFn) (j : f133.Js) (v1 v3 : AVal) (h : AHeap) : Rs :=
  bnd (sBuildSlice [(Z 0)] 1 [(0, 1, v1)] h) fun v34 h1 =>
  bnd (sAppend I 1 8 v3 v34 h1) fun v35 h2 =>
  some (v35, h2)
def f133.b2 (I : Inp) (call : CallFn) (j : f133.Js) (v1 v2 v3 v4 v20 v21 v22 : AVal) (h : AHeap) : Rs :=
  kB .lss v22 v21 fun v23 =>
  sCond v23 (
  j.1.2 v1 v3 h) (
  j.2.2.1 v1 v2 v3 v4 v20 v21 v22 h)
def f133.b3 (I : Inp) (call : CallFn) (j : f133.Js) (v1 v2 v3 v4 v20 v21 v22 : AVal) (h : AHeap) : Rs :=
  kI 1 v20 v22 fun v24 =>
  kL I v24 h fun v25 =>
  kM I 2 v4 h fun v26 =>
  kC call 133 [v26, v25, v2, v3] h fun v30 h1 =>
  j.2.2.2 v1 v2 v30 v4 v20 v21 v22 h1
def f133.b4 (I : Inp) (call : CallFn) (j : f133.Js) (v1 v2 v3 v4 v20 v21 v22 : AVal) (h : AHeap) : Rs :=
  kB .add v22 (Z 1) fun v31 =>
  j.2.1 v1 v2 v3 v4 v20 v21 v31 h
def f133.e (I : Inp) (call : CallFn) (j : f133.Js) (v0 v1 v2 v3 : AVal) (h : AHeap) : Rs :=
  bnd (sBox v0 h) fun v4 h1 =>
  kC call 93 [v2, v1] h1 fun v13 h2 =>
  kU .not v13 fun v14 =>
  sCond v14 (
  j.1.1 v1 v2 v3 v4 h2) (
  some (v3, h2))
def f133.J (I : Inp) (call : CallFn) (n : Nat) : f133.Js :=
  Nat.rec (motive := fun _ => f133.Js) ((Zr.z, Zr.z), (Zr.z, (Zr.z, Zr.z))) (fun _ j => ((f133.b0 I call j, f133.b1 I call j), (f133.b2 I call j, (f133.b3 I call j, f133.b4 I call j)))) n
def f133.JS (I : Inp) (call : CallFn) (n : Nat) : Jmp := (fun j : f133.Js => jmp [Ap.ap j.1.1 [1, 2, 3, 4], Ap.ap j.1.2 [1, 3], Ap.ap j.2.1 [1, 2, 3, 4, 20, 21, 22], Ap.ap j.2.2.1 [1, 2, 3, 4, 20, 21, 22], Ap.ap j.2.2.2 [1, 2, 3, 4, 20, 21, 22]]) (f133.J I call n)
theorem f133.S : SFn ⟨P, I, F⟩ call c133 (f133.JS I call) := .all 5 (by kernel_rfl) (fun ρ h => by kernel_rfl) (fun n ρ h => by kernel_rfl)
theorem f133.qe : Ap.all (f133.e I call (f133.J I call n)) (fun l h => execC P I call (f133.JS I call n) c133.body 0 (finV I c133.results) (argV l) h) := fun v0 v1 v2 v3 h => by kernel_rfl
theorem f133.code : codeOf P 133 = some c133 := by kernel_rfl
def f133.run (I : Inp) : SF := fun call n => Ap.ar (f133.e I call (f133.J I call n))
theorem f133.ok (I : Inp) (F : Nat → Option AFn) (hF : F 133 = some (.code c133)) : SfOk P I F 133 (f133.run I) := okOf hF (by kernel_rfl) (fun _ => f133.S) fun call n => f133.qe
/-! slices.Reverse[[]int,int] -/
def c134 : AFunc := cOf P 134
abbrev f134.Js : Type := (A3 × (A3 × A3))
def f134.b0 (I : Inp) (call : CallFn) (j : f134.Js) (v0 v2 v3 : AVal) (h : AHeap) : Rs :=
  kB .lss v2 v3 fun v9 =>
  sCond v9 (
  some (.tuple [], h)) (
  j.2.1 v0 v2 v3 h)
def f134.b1 (I : Inp) (call : CallFn) (j : f134.Js) (v0 v2 v3 : AVal) (h : AHeap) : Rs :=
  kI 1 v0 v3 fun v20 =>
  kL I v20 h fun v21 =>
  kI 1 v0 v2 fun v24 =>
  kL I v24 h fun v25 =>
  kI 1 v0 v2 fun v26 =>
  kS 1 v26 v21 h fun _ h1 =>
  kI 1 v0 v3 fun v27 =>
  kS 1 v27 v25 h1 fun _ h2 =>
  j.2.2 v0 v2 v3 h2
def f134.b2 (I : Inp) (call : CallFn) (j : f134.Js) (v0 v2 v3 : AVal) (h : AHeap) : Rs :=
  kB .add v2 (Z 1) fun v11 =>
  kB .sub v3 (Z 1) fun v13 =>
  j.1 v0 v11 v13 h
def f134.e (I : Inp) (call : CallFn) (j : f134.Js) (v0 : AVal) (h : AHeap) : Rs :=
  kZ v0 fun v5 =>
  kB .sub v5 (Z 1) fun v6 =>
  j.1 v0 (Z 0) v6 h
def f134.J (I : Inp) (call : CallFn) (n : Nat) : f134.Js :=
  Nat.rec (motive := fun _ => f134.Js) (Zr.z, (Zr.z, Zr.z)) (fun _ j => (f134.b0 I call j, (f134.b1 I call j, f134.b2 I call j))) n
def f134.JS (I : Inp) (call : CallFn) (n : Nat) : Jmp := (fun j : f134.Js => jmp [Ap.ap j.1 [0, 2, 3], Ap.ap j.2.1 [0, 2, 3], Ap.ap j.2.2 [0, 2, 3]]) (f134.J I call n)
theorem f134.S : SFn ⟨P, I, F⟩ call c134 (f134.JS I call) := .all 3 (by kernel_rfl) (fun ρ h => by kernel_rfl) (fun n ρ h => by kernel_rfl)
theorem f134.qe : Ap.all (f134.e I call (f134.J I call n)) (fun l h => execC P I call (f134.JS I call n) c134.body 0 (finV I c134.results) (argV l) h) := fun v0 h => by kernel_rfl
theorem f134.code : codeOf P 134 = some c134 := by kernel_rfl
def f134.run (I : Inp) : SF := fun call n => Ap.ar (f134.e I call (f134.J I call n))
theorem f134.ok (I : Inp) (F : Nat → Option AFn) (hF : F 134 = some (.code c134)) : SfOk P I F 134 (f134.run I) := okOf hF (by kernel_rfl) (fun _ => f134.S) fun call n => f134.qe
/-! (*haruspex/bitset.Set).Copy -/
def c135 : AFunc := cOf P 135
abbrev f135.Js : Type := Unit
def f135.e (I : Inp) (call : CallFn) (j : f135.Js) (v0 : AVal) (h : AHeap) : Rs :=
  kC call 128 [v0] h fun v4 h1 =>
  kC call 136 [v4] h1 fun v5 h2 =>
  bndP (pBuild [.nils] [(0, 1, v5)]) fun v6 =>
  bnd (sBox v6 h2) fun v7 h3 =>
  some (v7, h3)
theorem f135.S : SFn ⟨P, I, F⟩ call c135 (fun _ => jmp []) := .all 0 (by kernel_rfl) (fun ρ h => by kernel_rfl) (fun n ρ h => by kernel_rfl)
theorem f135.qe : Ap.all (f135.e I call ()) (fun l h => execC P I call (jmp []) c135.body 0 (finV I c135.results) (argV l) h) := fun v0 h => by kernel_rfl
theorem f135.code : codeOf P 135 = some c135 := by kernel_rfl
def f135.run (I : Inp) : SF := fun call n => Ap.ar (f135.e I call ())
theorem f135.ok (I : Inp) (F : Nat → Option AFn) (hF : F 135 = some (.code c135)) : SfOk P I F 135 (f135.run I) := okOf hF (by kernel_rfl) (fun _ => f135.S) fun call n => f135.qe
/-! slices.Clone[[]uint64,uint64] -/
def c136 : AFunc := cOf P 136
abbrev f136.Js : Type := A1
def f136.b0 (I : Inp) (call : CallFn) (j : f136.Js) (v0 : AVal) (h : AHeap) : Rs :=
  bnd (sBuildSlice [(.int .u64 (.ofNat 0))] 0 [] h) fun v5 h1 =>
  bnd (sAppend I 1 8 v5 v0 h1) fun v7 h2 =>
  some (v7, h2)
def f136.e (I : Inp) (call : CallFn) (j : f136.Js) (v0 : AVal) (h : AHeap) : Rs :=
  bndP (pEq P .false .slice .true v0 .nils h) fun v4 =>
  sCond v4 (
  j v0 h) (
  some (.nils, h))
def f136.J (I : Inp) (call : CallFn) (n : Nat) : f136.Js :=
  Nat.rec (motive := fun _ => f136.Js) Zr.z (fun _ j => f136.b0 I call j) n
def f136.JS (I : Inp) (call : CallFn) (n : Nat) : Jmp := (fun j : f136.Js => jmp [Ap.ap j [0]]) (f136.J I call n)
theorem f136.S : SFn ⟨P, I, F⟩ call c136 (f136.JS I call) := .all 1 (by kernel_rfl) (fun ρ h => by kernel_rfl) (fun n ρ h => by kernel_rfl)
theorem f136.qe : Ap.all (f136.e I call (f136.J I call n)) (fun l h => execC P I call (f136.JS I call n) c136.body 0 (finV I c136.results) (argV l) h) := fun v0 h => by kernel_rfl
theorem f136.code : codeOf P 136 = some c136 := by kernel_rfl
def f136.run (I : Inp) : SF := fun call n => Ap.ar (f136.e I call (f136.J I call n))
theorem f136.ok (I : Inp) (F : Nat → Option AFn) (hF : F 136 = some (.code c136)) : SfOk P I F 136 (f136.run I) := okOf hF (by kernel_rfl) (fun _ => f136.S) fun call n => f136.qe
end
end Go.Proofs.YtikjkhddkfkijaaGreatDoor.Sf
