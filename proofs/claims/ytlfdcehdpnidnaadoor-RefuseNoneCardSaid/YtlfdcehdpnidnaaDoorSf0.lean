/- The functions of the program by their labels, on values, part 0: what they compute the abstract machine computes. Conditions: none. -/
import Derived.Test.YtlfdcehdpnidnaaDoorAmZ
import Derived.Test.YtlfdcehdpnidnaaDoorProg
namespace Go.Proofs.YtlfdcehdpnidnaaDoor.Sf
open Go.AM
set_option linter.unusedVariables false
noncomputable section
noncomputable abbrev P : Program := Tryd.prog
variable {I : Inp} {F : Nat → Option AFn} {call : CallFn} {prims : Nat → Option Prim} {n : Nat} {h : AHeap} {Q : AVal → AHeap → Prop}
/-! haruspex/haruspexlaw4.RefuseNone -/
def c3 : AFunc := cOf P 3
abbrev f3.Js : Type := Unit
def f3.e (I : Inp) (call : CallFn) (j : f3.Js) (h : AHeap) : Rs :=
  kC call 7 [.nili] h fun v5 h1 =>
  kX v5 0 fun v6 =>
  kX v5 1 fun v7 =>
  kA [(Z 0), (Z 0), (Z 0)] h1 fun v2 h2 =>
  kS 3 v2 v6 h2 fun _ h3 =>
  kC call 8 [] h3 fun v8 h4 =>
  gV v8 .true .nilp h4 fun v10 h5 =>
  gS v8 .true (call 9 [v10] h5) h5 fun v11 h6 =>
  gP v8 .true (pBin .eql v11 (.str [])) h6 fun v12 h7 =>
  kP v8 v12 bF fun v13 =>
  gV v13 .true .nilp h7 fun v15 h8 =>
  gS v13 .true (call 10 [v15] h8) h8 fun v16 h9 =>
  gP v13 .true (pEq P .false .iface .true v16 .nili h9) h9 fun v17 h10 =>
  kP v13 v17 bF fun v18 =>
  gV v18 .true .nilp h10 fun v20 h11 =>
  gP v18 .true (pBuild [(Z 0), (Z 0), (Z 0), (Z 0), .nili] []) h11 fun v21 h12 =>
  gS v18 .true (sBox v21 h12) h12 fun v22 h13 =>
  gV v18 .true (.iface 22 v22) h13 fun v23 h14 =>
  gS v18 .true (call 11 [v20, v23] h14) h14 fun v24 h15 =>
  gP v18 .true (pUn .not v24) h15 fun v25 h16 =>
  kP v18 v25 bF fun v26 =>
  gV v26 .true v7 h16 fun v28 h17 =>
  gP v26 .true (pUn .not v28) h17 fun v29 h18 =>
  kP v26 v29 bF fun v30 =>
  some (v30, h18)
theorem f3.S : SFn ⟨P, I, F⟩ call c3 (fun _ => jmp []) := .all 0 (by kernel_rfl) (fun ρ h => by kernel_rfl) (fun n ρ h => by kernel_rfl)
theorem f3.qe : Ap.all (f3.e I call ()) (fun l h => execC P I call (jmp []) c3.body 0 (finV I c3.results) (argV l) h) := fun h => by kernel_rfl
theorem f3.code : codeOf P 3 = some c3 := by kernel_rfl
def f3.run (I : Inp) : SF := fun call n => Ap.ar (f3.e I call ())
theorem f3.ok (I : Inp) (F : Nat → Option AFn) (hF : F 3 = some (.code c3)) : SfOk P I F 3 (f3.run I) := okOf hF (by kernel_rfl) (fun _ => f3.S) fun call n => f3.qe
/-! haruspex/refuse.Where -/
def c7 : AFunc := cOf P 7
abbrev f7.Js : Type := A1
def f7.b0 (I : Inp) (call : CallFn) (j : f7.Js) (v2 : AVal) (h : AHeap) : Rs :=
  bndP (pBuild [(Z 0), (Z 0), (Z 0)] []) fun v21 =>
  kS 3 v2 v21 h fun _ h1 =>
  sRet (sCons (sResN I 3 v2 h1) (sCons (some bF) (some []))) h1
def f7.e (I : Inp) (call : CallFn) (j : f7.Js) (v0 : AVal) (h : AHeap) : Rs :=
  kA [(Z 0), (Z 0), (Z 0)] h fun v2 h1 =>
  kC call 23 [v0] h1 fun v6 h2 =>
  bndP (pEq P .true .ptr .true v6 .nilp h2) fun v8 =>
  gV v8 .true v6 h2 fun v10 h3 =>
  gP v8 .true (pNilCheck v10) h3 fun v11 h4 =>
  gP v8 .true (pFieldAddr 1 v11) h4 fun v12 h5 =>
  gP v8 .true (pFieldAddr 0 v12) h5 fun v13 h6 =>
  gP v8 .true (pLoad1 I v13 h6) h6 fun v14 h7 =>
  gP v8 .true (pBin .geq v14 (Z 0)) h7 fun v15 h8 =>
  kP v8 v15 bF fun v16 =>
  sCond v16 (
  j v2 h8) (
  kN v6 fun v18 =>
  kF 1 v18 fun v19 =>
  kM I 3 v19 h8 fun v20 =>
  kS 3 v2 v20 h8 fun _ h9 =>
  sRet (sCons (sResN I 3 v2 h9) (sCons (some bT) (some []))) h9)
def f7.J (I : Inp) (call : CallFn) (n : Nat) : f7.Js :=
  Nat.rec (motive := fun _ => f7.Js) Zr.z (fun _ j => f7.b0 I call j) n
def f7.JS (I : Inp) (call : CallFn) (n : Nat) : Jmp := (fun j : f7.Js => jmp [Ap.ap j [2]]) (f7.J I call n)
theorem f7.S : SFn ⟨P, I, F⟩ call c7 (f7.JS I call) := .all 1 (by kernel_rfl) (fun ρ h => by kernel_rfl) (fun n ρ h => by kernel_rfl)
theorem f7.qe : Ap.all (f7.e I call (f7.J I call n)) (fun l h => execC P I call (f7.JS I call n) c7.body 0 (finV I c7.results) (argV l) h) := fun v0 h => by kernel_rfl
theorem f7.code : codeOf P 7 = some c7 := by kernel_rfl
def f7.run (I : Inp) : SF := fun call n => Ap.ar (f7.e I call (f7.J I call n))
theorem f7.ok (I : Inp) (F : Nat → Option AFn) (hF : F 7 = some (.code c7)) : SfOk P I F 7 (f7.run I) := okOf hF (by kernel_rfl) (fun _ => f7.S) fun call n => f7.qe
/-! haruspex/haruspexlaw4.begun -/
def c8 : AFunc := cOf P 8
abbrev f8.Js : Type := (A1 × A4)
def f8.b0 (I : Inp) (call : CallFn) (j : f8.Js) (v1 : AVal) (h : AHeap) : Rs :=
  kC call 7 [v1] h fun v11 h1 =>
  kX v11 0 fun v12 =>
  kX v11 1 fun v13 =>
  kA [(Z 0), (Z 0), (Z 0)] h1 fun v2 h2 =>
  kS 3 v2 v12 h2 fun _ h3 =>
  kA [.nilp] h3 fun v4 h4 =>
  kC call 18 [v1, (.iface 44 v4)] h4 fun v16 h5 =>
  kU .not v16 fun v17 =>
  sCond v17 (
  j.2 v1 v2 v13 v4 h5) (
  some (bF, h5))
def f8.b1 (I : Inp) (call : CallFn) (j : f8.Js) (v1 v2 v3 v4 : AVal) (h : AHeap) : Rs :=
  kL I v4 h fun v18 =>
  kC call 9 [v18] h fun v19 h1 =>
  kB .eql v19 (.str [116, 121, 112, 101, 32, 97, 116, 32, 49, 46, 50, 46, 51]) fun v20 =>
  gV v20 .true v1 h1 fun v22 h2 =>
  gS v20 .true (call 13 [v22] h2) h2 fun v23 h3 =>
  gP v20 .true (pBin .eql v23 (Z 4)) h3 fun v24 h4 =>
  kP v20 v24 bF fun v25 =>
  gV v25 .true v3 h4 fun v27 h5 =>
  kP v25 v27 bF fun v28 =>
  gP v28 .true (pFieldAddr 2 v2) h5 fun v30 h6 =>
  gP v28 .true (pLoad1 I v30 h6) h6 fun v31 h7 =>
  gP v28 .true (pBin .eql v31 (Z 3)) h7 fun v32 h8 =>
  kP v28 v32 bF fun v33 =>
  gS v33 .true (call 16 [(Z 0)] h8) h8 fun v35 h9 =>
  gP v33 .true (pBin .eql v35 (.str [63])) h9 fun v36 h10 =>
  kP v33 v36 bF fun v37 =>
  gS v37 .true (call 13 [.nili] h10) h10 fun v39 h11 =>
  gP v37 .true (pBin .eql v39 (Z 0)) h11 fun v40 h12 =>
  kP v37 v40 bF fun v41 =>
  some (v41, h12)
def f8.e (I : Inp) (call : CallFn) (j : f8.Js) (h : AHeap) : Rs :=
  bndP (pBuild [(Z 0), (Z 0), (Z 0)] [(0, 1, (Z 1)), (1, 1, (Z 2)), (2, 1, (Z 3))]) fun v5 =>
  kC call 21 [(Z 4), v5, .nili] h fun v6 h1 =>
  bndP (pEq P .false .iface .true v6 .nili h1) fun v8 =>
  sCond v8 (
  j.1 v6 h1) (
  some (bF, h1))
def f8.J (I : Inp) (call : CallFn) (n : Nat) : f8.Js :=
  Nat.rec (motive := fun _ => f8.Js) (Zr.z, Zr.z) (fun _ j => (f8.b0 I call j, f8.b1 I call j)) n
def f8.JS (I : Inp) (call : CallFn) (n : Nat) : Jmp := (fun j : f8.Js => jmp [Ap.ap j.1 [1], Ap.ap j.2 [1, 2, 3, 4]]) (f8.J I call n)
theorem f8.S : SFn ⟨P, I, F⟩ call c8 (f8.JS I call) := .all 2 (by kernel_rfl) (fun ρ h => by kernel_rfl) (fun n ρ h => by kernel_rfl)
theorem f8.qe : Ap.all (f8.e I call (f8.J I call n)) (fun l h => execC P I call (f8.JS I call n) c8.body 0 (finV I c8.results) (argV l) h) := fun h => by kernel_rfl
theorem f8.code : codeOf P 8 = some c8 := by kernel_rfl
def f8.run (I : Inp) : SF := fun call n => Ap.ar (f8.e I call (f8.J I call n))
theorem f8.ok (I : Inp) (F : Nat → Option AFn) (hF : F 8 = some (.code c8)) : SfOk P I F 8 (f8.run I) := okOf hF (by kernel_rfl) (fun _ => f8.S) fun call n => f8.qe
/-! (*haruspex/refuse.Error).Error -/
def c9 : AFunc := cOf P 9
abbrev f9.Js : Type := (A1 × A1)
def f9.b0 (I : Inp) (call : CallFn) (j : f9.Js) (v0 : AVal) (h : AHeap) : Rs :=
  kN v0 fun v7 =>
  kF 0 v7 fun v8 =>
  kL I v8 h fun v9 =>
  kC call 16 [v9] h fun v10 h1 =>
  kN v0 fun v12 =>
  kF 1 v12 fun v13 =>
  kF 0 v13 fun v14 =>
  kL I v14 h1 fun v15 =>
  kB .geq v15 (Z 0) fun v16 =>
  sCond v16 (
  j.2 v10 h1) (
  kN v0 fun v19 =>
  kF 1 v19 fun v20 =>
  kF 0 v20 fun v21 =>
  kL I v21 h1 fun v22 =>
  kC call 24 [v22] h1 fun v23 h2 =>
  kB .add (.str [32, 97, 116, 32]) v23 fun v24 =>
  kB .add v24 (.str [46]) fun v25 =>
  kN v0 fun v27 =>
  kF 1 v27 fun v28 =>
  kF 1 v28 fun v29 =>
  kL I v29 h2 fun v30 =>
  kC call 24 [v30] h2 fun v31 h3 =>
  kB .add v25 v31 fun v32 =>
  kB .add v32 (.str [46]) fun v33 =>
  kN v0 fun v35 =>
  kF 1 v35 fun v36 =>
  kF 2 v36 fun v37 =>
  kL I v37 h3 fun v38 =>
  kC call 24 [v38] h3 fun v39 h4 =>
  kB .add v33 v39 fun v40 =>
  kB .add v10 v40 fun v41 =>
  sCheck (sSame (lift (pLoad1 I v29 h1) h1) v30 && true) (
  sCheck (sSame (lift (pLoad1 I v37 h1) h1) v38 && (sSame (lift (pLoad1 I v37 h2) h2) v38 && true)) (
  j.2 v41 h4)))
def f9.b1 (I : Inp) (call : CallFn) (j : f9.Js) (v3 : AVal) (h : AHeap) : Rs :=
  some (v3, h)
def f9.e (I : Inp) (call : CallFn) (j : f9.Js) (v0 : AVal) (h : AHeap) : Rs :=
  bndP (pEq P .false .ptr .true v0 .nilp h) fun v5 =>
  sCond v5 (
  j.1 v0 h) (
  some ((.str []), h))
def f9.J (I : Inp) (call : CallFn) (n : Nat) : f9.Js :=
  Nat.rec (motive := fun _ => f9.Js) (Zr.z, Zr.z) (fun _ j => (f9.b0 I call j, f9.b1 I call j)) n
def f9.JS (I : Inp) (call : CallFn) (n : Nat) : Jmp := (fun j : f9.Js => jmp [Ap.ap j.1 [0], Ap.ap j.2 [3]]) (f9.J I call n)
theorem f9.S : SFn ⟨P, I, F⟩ call c9 (f9.JS I call) := .all 2 (by kernel_rfl) (fun ρ h => by kernel_rfl) (fun n ρ h => by kernel_rfl)
theorem f9.qe : Ap.all (f9.e I call (f9.J I call n)) (fun l h => execC P I call (f9.JS I call n) c9.body 0 (finV I c9.results) (argV l) h) := fun v0 h => by kernel_rfl
theorem f9.code : codeOf P 9 = some c9 := by kernel_rfl
def f9.run (I : Inp) : SF := fun call n => Ap.ar (f9.e I call (f9.J I call n))
theorem f9.ok (I : Inp) (F : Nat → Option AFn) (hF : F 9 = some (.code c9)) : SfOk P I F 9 (f9.run I) := okOf hF (by kernel_rfl) (fun _ => f9.S) fun call n => f9.qe
/-! (*haruspex/refuse.Error).Unwrap -/
def c10 : AFunc := cOf P 10
abbrev f10.Js : Type := A1
def f10.b0 (I : Inp) (call : CallFn) (j : f10.Js) (v0 : AVal) (h : AHeap) : Rs :=
  kN v0 fun v6 =>
  kF 4 v6 fun v7 =>
  kL I v7 h fun v8 =>
  some (v8, h)
def f10.e (I : Inp) (call : CallFn) (j : f10.Js) (v0 : AVal) (h : AHeap) : Rs :=
  bndP (pEq P .false .ptr .true v0 .nilp h) fun v4 =>
  sCond v4 (
  j v0 h) (
  some (.nili, h))
def f10.J (I : Inp) (call : CallFn) (n : Nat) : f10.Js :=
  Nat.rec (motive := fun _ => f10.Js) Zr.z (fun _ j => f10.b0 I call j) n
def f10.JS (I : Inp) (call : CallFn) (n : Nat) : Jmp := (fun j : f10.Js => jmp [Ap.ap j [0]]) (f10.J I call n)
theorem f10.S : SFn ⟨P, I, F⟩ call c10 (f10.JS I call) := .all 1 (by kernel_rfl) (fun ρ h => by kernel_rfl) (fun n ρ h => by kernel_rfl)
theorem f10.qe : Ap.all (f10.e I call (f10.J I call n)) (fun l h => execC P I call (f10.JS I call n) c10.body 0 (finV I c10.results) (argV l) h) := fun v0 h => by kernel_rfl
theorem f10.code : codeOf P 10 = some c10 := by kernel_rfl
def f10.run (I : Inp) : SF := fun call n => Ap.ar (f10.e I call (f10.J I call n))
theorem f10.ok (I : Inp) (F : Nat → Option AFn) (hF : F 10 = some (.code c10)) : SfOk P I F 10 (f10.run I) := okOf hF (by kernel_rfl) (fun _ => f10.S) fun call n => f10.qe
/-! (*haruspex/refuse.Error).Is -/
def c11 : AFunc := cOf P 11
abbrev f11.Js : Type := Unit
def f11.e (I : Inp) (call : CallFn) (j : f11.Js) (v0 v1 : AVal) (h : AHeap) : Rs :=
  bndP (pAssertT 22 .nilp .true v1) fun v9 =>
  kX v9 0 fun v10 =>
  kX v9 1 fun v11 =>
  gV v11 .true v0 h fun v14 h1 =>
  gP v11 .true (pEq P .true .ptr .true v14 .nilp h1) h1 fun v15 h2 =>
  kP v11 v15 bF fun v16 =>
  gV v16 .true v10 h2 fun v18 h3 =>
  gP v16 .true (pEq P .true .ptr .true v18 .nilp h3) h3 fun v19 h4 =>
  kP v16 v19 bF fun v20 =>
  gV v20 .true v10 h4 fun v22 h5 =>
  gP v20 .true (pNilCheck v22) h5 fun v23 h6 =>
  gP v20 .true (pFieldAddr 0 v23) h6 fun v24 h7 =>
  gP v20 .true (pLoad1 I v24 h7) h7 fun v25 h8 =>
  gP v20 .true (pBin .eql v25 (Z 0)) h8 fun v26 h9 =>
  gV v20 .true v26 h9 fun v27 h10 =>
  gV v27 .false v10 h10 fun v28 h11 =>
  gP v27 .false (pNilCheck v28) h11 fun v29 h12 =>
  gP v27 .false (pFieldAddr 0 v29) h12 fun v30 h13 =>
  gP v27 .false (pLoad1 I v30 h13) h13 fun v31 h14 =>
  gV v27 .false v0 h14 fun v32 h15 =>
  gP v27 .false (pNilCheck v32) h15 fun v33 h16 =>
  gP v27 .false (pFieldAddr 0 v33) h16 fun v34 h17 =>
  gP v27 .false (pLoad1 I v34 h17) h17 fun v35 h18 =>
  gP v27 .false (pBin .eql v31 v35) h18 fun v36 h19 =>
  gP v20 .true (pPick v27 bT v36) h19 fun v37 h20 =>
  kP v20 v37 bF fun v38 =>
  some (v38, h20)
theorem f11.S : SFn ⟨P, I, F⟩ call c11 (fun _ => jmp []) := .all 0 (by kernel_rfl) (fun ρ h => by kernel_rfl) (fun n ρ h => by kernel_rfl)
theorem f11.qe : Ap.all (f11.e I call ()) (fun l h => execC P I call (jmp []) c11.body 0 (finV I c11.results) (argV l) h) := fun v0 v1 h => by kernel_rfl
theorem f11.code : codeOf P 11 = some c11 := by kernel_rfl
def f11.run (I : Inp) : SF := fun call n => Ap.ar (f11.e I call ())
theorem f11.ok (I : Inp) (F : Nat → Option AFn) (hF : F 11 = some (.code c11)) : SfOk P I F 11 (f11.run I) := okOf hF (by kernel_rfl) (fun _ => f11.S) fun call n => f11.qe
/-! haruspex/refuse.Why -/
def c13 : AFunc := cOf P 13
abbrev f13.Js : Type := A0
def f13.b0 (I : Inp) (call : CallFn) (j : f13.Js) (h : AHeap) : Rs :=
  some ((Z 0), h)
def f13.e (I : Inp) (call : CallFn) (j : f13.Js) (v0 : AVal) (h : AHeap) : Rs :=
  kC call 23 [v0] h fun v5 h1 =>
  bndP (pEq P .true .ptr .true v5 .nilp h1) fun v7 =>
  sCond v7 (
  j h1) (
  kN v5 fun v9 =>
  kF 0 v9 fun v10 =>
  kL I v10 h1 fun v11 =>
  some (v11, h1))
def f13.J (I : Inp) (call : CallFn) (n : Nat) : f13.Js :=
  Nat.rec (motive := fun _ => f13.Js) Zr.z (fun _ j => f13.b0 I call j) n
def f13.JS (I : Inp) (call : CallFn) (n : Nat) : Jmp := (fun j : f13.Js => jmp [Ap.ap j []]) (f13.J I call n)
theorem f13.S : SFn ⟨P, I, F⟩ call c13 (f13.JS I call) := .all 1 (by kernel_rfl) (fun ρ h => by kernel_rfl) (fun n ρ h => by kernel_rfl)
theorem f13.qe : Ap.all (f13.e I call (f13.J I call n)) (fun l h => execC P I call (f13.JS I call n) c13.body 0 (finV I c13.results) (argV l) h) := fun v0 h => by kernel_rfl
theorem f13.code : codeOf P 13 = some c13 := by kernel_rfl
def f13.run (I : Inp) : SF := fun call n => Ap.ar (f13.e I call (f13.J I call n))
theorem f13.ok (I : Inp) (F : Nat → Option AFn) (hF : F 13 = some (.code c13)) : SfOk P I F 13 (f13.run I) := okOf hF (by kernel_rfl) (fun _ => f13.S) fun call n => f13.qe
/-! haruspex/refuse.Name -/
def c16 : AFunc := cOf P 16
abbrev f16.Js : Type := A0
def f16.b0 (I : Inp) (call : CallFn) (j : f16.Js) (h : AHeap) : Rs :=
  some ((.str [63]), h)
def f16.e (I : Inp) (call : CallFn) (j : f16.Js) (v0 : AVal) (h : AHeap) : Rs :=
  kB .eql v0 (Z 1) fun v5 =>
  sCond v5 (
  kB .eql v0 (Z 2) fun v7 =>
  sCond v7 (
  kB .eql v0 (Z 3) fun v9 =>
  sCond v9 (
  kB .eql v0 (Z 4) fun v11 =>
  sCond v11 (
  kB .eql v0 (Z 5) fun v13 =>
  sCond v13 (
  kB .eql v0 (Z 6) fun v15 =>
  sCond v15 (
  kB .eql v0 (Z 7) fun v17 =>
  sCond v17 (
  j h) (
  some ((.str [109, 101, 116, 104, 111, 100, 115]), h))) (
  some ((.str [115, 104, 97, 112, 101]), h))) (
  some ((.str [97, 115, 115, 105, 103, 110]), h))) (
  some ((.str [116, 121, 112, 101]), h))) (
  some ((.str [110, 97, 109, 101]), h))) (
  some ((.str [98, 111, 117, 110, 100]), h))) (
  some ((.str [98, 121, 116, 101, 115]), h))
def f16.J (I : Inp) (call : CallFn) (n : Nat) : f16.Js :=
  Nat.rec (motive := fun _ => f16.Js) Zr.z (fun _ j => f16.b0 I call j) n
def f16.JS (I : Inp) (call : CallFn) (n : Nat) : Jmp := (fun j : f16.Js => jmp [Ap.ap j []]) (f16.J I call n)
theorem f16.S : SFn ⟨P, I, F⟩ call c16 (f16.JS I call) := .all 1 (by kernel_rfl) (fun ρ h => by kernel_rfl) (fun n ρ h => by kernel_rfl)
theorem f16.qe : Ap.all (f16.e I call (f16.J I call n)) (fun l h => execC P I call (f16.JS I call n) c16.body 0 (finV I c16.results) (argV l) h) := fun v0 h => by kernel_rfl
theorem f16.code : codeOf P 16 = some c16 := by kernel_rfl
def f16.run (I : Inp) : SF := fun call n => Ap.ar (f16.e I call (f16.J I call n))
theorem f16.ok (I : Inp) (F : Nat → Option AFn) (hF : F 16 = some (.code c16)) : SfOk P I F 16 (f16.run I) := okOf hF (by kernel_rfl) (fun _ => f16.S) fun call n => f16.qe
/-! haruspex/refuse.New -/
def c21 : AFunc := cOf P 21
abbrev f21.Js : Type := Unit
def f21.e (I : Inp) (call : CallFn) (j : f21.Js) (v0 v1 v2 : AVal) (h : AHeap) : Rs :=
  bnd (sBox v1 h) fun v4 h1 =>
  kM I 3 v4 h1 fun v8 =>
  bndP (pBuild [(Z 0), (Z 0), (Z 0), (Z 0), .nili] [(0, 1, v0), (1, 3, v8), (4, 1, v2)]) fun v10 =>
  bnd (sBox v10 h1) fun v11 h2 =>
  some ((.iface 22 v11), h2)
theorem f21.S : SFn ⟨P, I, F⟩ call c21 (fun _ => jmp []) := .all 0 (by kernel_rfl) (fun ρ h => by kernel_rfl) (fun n ρ h => by kernel_rfl)
theorem f21.qe : Ap.all (f21.e I call ()) (fun l h => execC P I call (jmp []) c21.body 0 (finV I c21.results) (argV l) h) := fun v0 v1 v2 h => by kernel_rfl
theorem f21.code : codeOf P 21 = some c21 := by kernel_rfl
def f21.run (I : Inp) : SF := fun call n => Ap.ar (f21.e I call ())
theorem f21.ok (I : Inp) (F : Nat → Option AFn) (hF : F 21 = some (.code c21)) : SfOk P I F 21 (f21.run I) := okOf hF (by kernel_rfl) (fun _ => f21.S) fun call n => f21.qe
/-! haruspex/refuse.first -/
def c23 : AFunc := cOf P 23
abbrev f23.Js : Type := A1
def f23.b0 (I : Inp) (call : CallFn) (j : f23.Js) (v3 : AVal) (h : AHeap) : Rs :=
  kL I v3 h fun v8 =>
  some (v8, h)
def f23.e (I : Inp) (call : CallFn) (j : f23.Js) (v0 : AVal) (h : AHeap) : Rs :=
  kA [.nilp] h fun v3 h1 =>
  kC call 18 [v0, (.iface 44 v3)] h1 fun v6 h2 =>
  kU .not v6 fun v7 =>
  sCond v7 (
  j v3 h2) (
  some (.nilp, h2))
def f23.J (I : Inp) (call : CallFn) (n : Nat) : f23.Js :=
  Nat.rec (motive := fun _ => f23.Js) Zr.z (fun _ j => f23.b0 I call j) n
def f23.JS (I : Inp) (call : CallFn) (n : Nat) : Jmp := (fun j : f23.Js => jmp [Ap.ap j [3]]) (f23.J I call n)
theorem f23.S : SFn ⟨P, I, F⟩ call c23 (f23.JS I call) := .all 1 (by kernel_rfl) (fun ρ h => by kernel_rfl) (fun n ρ h => by kernel_rfl)
theorem f23.qe : Ap.all (f23.e I call (f23.J I call n)) (fun l h => execC P I call (f23.JS I call n) c23.body 0 (finV I c23.results) (argV l) h) := fun v0 h => by kernel_rfl
theorem f23.code : codeOf P 23 = some c23 := by kernel_rfl
def f23.run (I : Inp) : SF := fun call n => Ap.ar (f23.e I call (f23.J I call n))
theorem f23.ok (I : Inp) (F : Nat → Option AFn) (hF : F 23 = some (.code c23)) : SfOk P I F 23 (f23.run I) := okOf hF (by kernel_rfl) (fun _ => f23.S) fun call n => f23.qe
/-! strconv.Itoa -/
def c24 : AFunc := cOf P 24
abbrev f24.Js : Type := Unit
def f24.e (I : Inp) (call : CallFn) (j : f24.Js) (v0 : AVal) (h : AHeap) : Rs :=
  kC call 32 [v0] h fun v4 h1 =>
  some (v4, h1)
theorem f24.S : SFn ⟨P, I, F⟩ call c24 (fun _ => jmp []) := .all 0 (by kernel_rfl) (fun ρ h => by kernel_rfl) (fun n ρ h => by kernel_rfl)
theorem f24.qe : Ap.all (f24.e I call ()) (fun l h => execC P I call (jmp []) c24.body 0 (finV I c24.results) (argV l) h) := fun v0 h => by kernel_rfl
theorem f24.code : codeOf P 24 = some c24 := by kernel_rfl
def f24.run (I : Inp) : SF := fun call n => Ap.ar (f24.e I call ())
theorem f24.ok (I : Inp) (F : Nat → Option AFn) (hF : F 24 = some (.code c24)) : SfOk P I F 24 (f24.run I) := okOf hF (by kernel_rfl) (fun _ => f24.S) fun call n => f24.qe
/-! internal/strconv.Itoa -/
def c32 : AFunc := cOf P 32
abbrev f32.Js : Type := Unit
def f32.e (I : Inp) (call : CallFn) (j : f32.Js) (v0 : AVal) (h : AHeap) : Rs :=
  kC call 35 [v0, (Z 10)] h fun v4 h1 =>
  some (v4, h1)
theorem f32.S : SFn ⟨P, I, F⟩ call c32 (fun _ => jmp []) := .all 0 (by kernel_rfl) (fun ρ h => by kernel_rfl) (fun n ρ h => by kernel_rfl)
theorem f32.qe : Ap.all (f32.e I call ()) (fun l h => execC P I call (jmp []) c32.body 0 (finV I c32.results) (argV l) h) := fun v0 h => by kernel_rfl
theorem f32.code : codeOf P 32 = some c32 := by kernel_rfl
def f32.run (I : Inp) : SF := fun call n => Ap.ar (f32.e I call ())
theorem f32.ok (I : Inp) (F : Nat → Option AFn) (hF : F 32 = some (.code c32)) : SfOk P I F 32 (f32.run I) := okOf hF (by kernel_rfl) (fun _ => f32.S) fun call n => f32.qe
/-! internal/strconv.FormatInt -/
def c35 : AFunc := cOf P 35
abbrev f35.Js : Type := ((A2 × A1) × (A3 × A2))
def f35.b0 (I : Inp) (call : CallFn) (j : f35.Js) (v0 v1 : AVal) (h : AHeap) : Rs :=
  bndP (pToInt .u64 v0) fun v46 =>
  kB .lss v0 (Z 0) fun v49 =>
  kC call 39 [.nils, v46, v1, v49, bF] h fun v50 h1 =>
  kX v50 0 fun v51 =>
  kX v50 1 fun v52 =>
  some (v52, h1)
def f35.b1 (I : Inp) (call : CallFn) (j : f35.Js) (v0 : AVal) (h : AHeap) : Rs :=
  kA [(.int .u8 (.ofNat 0)), (.int .u8 (.ofNat 0)), (.int .u8 (.ofNat 0)), (.int .u8 (.ofNat 0)), (.int .u8 (.ofNat 0)), (.int .u8 (.ofNat 0)), (.int .u8 (.ofNat 0)), (.int .u8 (.ofNat 0)), (.int .u8 (.ofNat 0)), (.int .u8 (.ofNat 0)), (.int .u8 (.ofNat 0)), (.int .u8 (.ofNat 0)), (.int .u8 (.ofNat 0)), (.int .u8 (.ofNat 0)), (.int .u8 (.ofNat 0)), (.int .u8 (.ofNat 0)), (.int .u8 (.ofNat 0)), (.int .u8 (.ofNat 0)), (.int .u8 (.ofNat 0)), (.int .u8 (.ofNat 0)), (.int .u8 (.ofNat 0)), (.int .u8 (.ofNat 0)), (.int .u8 (.ofNat 0)), (.int .u8 (.ofNat 0))] h fun v5 h1 =>
  bndP (pToInt .u64 v0) fun v21 =>
  kB .lss v0 (Z 0) fun v23 =>
  sCond v23 (
  j.2.1 v0 v5 v21 h1) (
  kU .neg v21 fun v25 =>
  j.2.1 v0 v5 v25 h1)
def f35.b2 (I : Inp) (call : CallFn) (j : f35.Js) (v0 v5 v6 : AVal) (h : AHeap) : Rs :=
  kC call 37 [v6] h fun v27 h1 =>
  kB .add (Z 1) v27 fun v29 =>
  bndP (pSliceArr 24 1 v5 (some (Z 1)) (some v29) none) fun v30 =>
  kC call 38 [v30, v6] h1 fun v32 h2 =>
  kB .lss v0 (Z 0) fun v34 =>
  sCond v34 (
  j.2.2 v5 v27 h2) (
  bndP (pIndexAddrArr 24 1 v5 (Z 0)) fun v35 =>
  kS 1 v35 (.int .u8 (.ofNat 45)) h2 fun _ h3 =>
  kB .add (Z 1) v27 fun v37 =>
  bndP (pSliceArr 24 1 v5 none (some v37) none) fun v38 =>
  bndP (pToStr I v38 h3) fun v39 =>
  some (v39, h3))
def f35.b3 (I : Inp) (call : CallFn) (j : f35.Js) (v5 v7 : AVal) (h : AHeap) : Rs :=
  kB .add (Z 1) v7 fun v41 =>
  bndP (pSliceArr 24 1 v5 (some (Z 1)) (some v41) none) fun v42 =>
  bndP (pToStr I v42 h) fun v43 =>
  some (v43, h)
def f35.e (I : Inp) (call : CallFn) (j : f35.Js) (v0 v1 : AVal) (h : AHeap) : Rs :=
  kB .eql v1 (Z 10) fun v11 =>
  sCond v11 (
  j.1.1 v0 v1 h) (
  kB .leq (Z 0) v0 fun v13 =>
  gV v13 .true v0 h fun v15 h1 =>
  gP v13 .true (pBin .lss v15 (Z 100)) h1 fun v16 h2 =>
  kP v13 v16 bF fun v17 =>
  sCond v17 (
  j.1.2 v0 h2) (
  kC call 36 [v0] h2 fun v19 h3 =>
  some (v19, h3)))
def f35.J (I : Inp) (call : CallFn) (n : Nat) : f35.Js :=
  Nat.rec (motive := fun _ => f35.Js) ((Zr.z, Zr.z), (Zr.z, Zr.z)) (fun _ j => ((f35.b0 I call j, f35.b1 I call j), (f35.b2 I call j, f35.b3 I call j))) n
def f35.JS (I : Inp) (call : CallFn) (n : Nat) : Jmp := (fun j : f35.Js => jmp [Ap.ap j.1.1 [0, 1], Ap.ap j.1.2 [0], Ap.ap j.2.1 [0, 5, 6], Ap.ap j.2.2 [5, 7]]) (f35.J I call n)
theorem f35.S : SFn ⟨P, I, F⟩ call c35 (f35.JS I call) := .all 4 (by kernel_rfl) (fun ρ h => by kernel_rfl) (fun n ρ h => by kernel_rfl)
theorem f35.qe : Ap.all (f35.e I call (f35.J I call n)) (fun l h => execC P I call (f35.JS I call n) c35.body 0 (finV I c35.results) (argV l) h) := fun v0 v1 h => by kernel_rfl
theorem f35.code : codeOf P 35 = some c35 := by kernel_rfl
def f35.run (I : Inp) : SF := fun call n => Ap.ar (f35.e I call (f35.J I call n))
theorem f35.ok (I : Inp) (F : Nat → Option AFn) (hF : F 35 = some (.code c35)) : SfOk P I F 35 (f35.run I) := okOf hF (by kernel_rfl) (fun _ => f35.S) fun call n => f35.qe
/-! internal/strconv.small -/
def c36 : AFunc := cOf P 36
abbrev f36.Js : Type := A1
def f36.b0 (I : Inp) (call : CallFn) (j : f36.Js) (v0 : AVal) (h : AHeap) : Rs :=
  kB .mul v0 (Z 2) fun v10 =>
  kB .mul v0 (Z 2) fun v12 =>
  kB .add v12 (Z 2) fun v13 =>
  bndP (pSliceStr (.str [48, 48, 48, 49, 48, 50, 48, 51, 48, 52, 48, 53, 48, 54, 48, 55, 48, 56, 48, 57, 49, 48, 49, 49, 49, 50, 49, 51, 49, 52, 49, 53, 49, 54, 49, 55, 49, 56, 49, 57, 50, 48, 50, 49, 50, 50, 50, 51, 50, 52, 50, 53, 50, 54, 50, 55, 50, 56, 50, 57, 51, 48, 51, 49, 51, 50, 51, 51, 51, 52, 51, 53, 51, 54, 51, 55, 51, 56, 51, 57, 52, 48, 52, 49, 52, 50, 52, 51, 52, 52, 52, 53, 52, 54, 52, 55, 52, 56, 52, 57, 53, 48, 53, 49, 53, 50, 53, 51, 53, 52, 53, 53, 53, 54, 53, 55, 53, 56, 53, 57, 54, 48, 54, 49, 54, 50, 54, 51, 54, 52, 54, 53, 54, 54, 54, 55, 54, 56, 54, 57, 55, 48, 55, 49, 55, 50, 55, 51, 55, 52, 55, 53, 55, 54, 55, 55, 55, 56, 55, 57, 56, 48, 56, 49, 56, 50, 56, 51, 56, 52, 56, 53, 56, 54, 56, 55, 56, 56, 56, 57, 57, 48, 57, 49, 57, 50, 57, 51, 57, 52, 57, 53, 57, 54, 57, 55, 57, 56, 57, 57]) (some v10) (some v13)) fun v14 =>
  some (v14, h)
def f36.e (I : Inp) (call : CallFn) (j : f36.Js) (v0 : AVal) (h : AHeap) : Rs :=
  kB .lss v0 (Z 10) fun v4 =>
  sCond v4 (
  j v0 h) (
  kB .add v0 (Z 1) fun v7 =>
  bndP (pSliceStr (.str [48, 49, 50, 51, 52, 53, 54, 55, 56, 57, 97, 98, 99, 100, 101, 102, 103, 104, 105, 106, 107, 108, 109, 110, 111, 112, 113, 114, 115, 116, 117, 118, 119, 120, 121, 122]) (some v0) (some v7)) fun v8 =>
  some (v8, h))
def f36.J (I : Inp) (call : CallFn) (n : Nat) : f36.Js :=
  Nat.rec (motive := fun _ => f36.Js) Zr.z (fun _ j => f36.b0 I call j) n
def f36.JS (I : Inp) (call : CallFn) (n : Nat) : Jmp := (fun j : f36.Js => jmp [Ap.ap j [0]]) (f36.J I call n)
theorem f36.S : SFn ⟨P, I, F⟩ call c36 (f36.JS I call) := .all 1 (by kernel_rfl) (fun ρ h => by kernel_rfl) (fun n ρ h => by kernel_rfl)
theorem f36.qe : Ap.all (f36.e I call (f36.J I call n)) (fun l h => execC P I call (f36.JS I call n) c36.body 0 (finV I c36.results) (argV l) h) := fun v0 h => by kernel_rfl
theorem f36.code : codeOf P 36 = some c36 := by kernel_rfl
def f36.run (I : Inp) : SF := fun call n => Ap.ar (f36.e I call (f36.J I call n))
theorem f36.ok (I : Inp) (F : Nat → Option AFn) (hF : F 36 = some (.code c36)) : SfOk P I F 36 (f36.run I) := okOf hF (by kernel_rfl) (fun _ => f36.S) fun call n => f36.qe
/-! internal/strconv.numDigits -/
def c37 : AFunc := cOf P 37
abbrev f37.Js : Type := Unit
def f37.e (I : Inp) (call : CallFn) (j : f37.Js) (v0 : AVal) (h : AHeap) : Rs :=
  kC call 41 [v0] h fun v5 h1 =>
  kC call 40 [v5] h1 fun v6 h2 =>
  bndP (pIndexAddrArr 20 1 (.ptr (.inp 2) 0) v6) fun v10 =>
  kL I v10 h2 fun v11 =>
  kB .geq v0 v11 fun v12 =>
  kC call 42 [v12] h2 fun v13 h3 =>
  kB .add v6 v13 fun v14 =>
  some (v14, h3)
theorem f37.S : SFn ⟨P, I, F⟩ call c37 (fun _ => jmp []) := .all 0 (by kernel_rfl) (fun ρ h => by kernel_rfl) (fun n ρ h => by kernel_rfl)
theorem f37.qe : Ap.all (f37.e I call ()) (fun l h => execC P I call (jmp []) c37.body 0 (finV I c37.results) (argV l) h) := fun v0 h => by kernel_rfl
theorem f37.code : codeOf P 37 = some c37 := by kernel_rfl
def f37.run (I : Inp) : SF := fun call n => Ap.ar (f37.e I call ())
theorem f37.ok (I : Inp) (F : Nat → Option AFn) (hF : F 37 = some (.code c37)) : SfOk P I F 37 (f37.run I) := okOf hF (by kernel_rfl) (fun _ => f37.S) fun call n => f37.qe
/-! internal/strconv.formatBase10 -/
def c38 : AFunc := cOf P 38
abbrev f38.Js : Type := ((A3 × A3) × (A3 × (A3 × A3)))
def f38.b0 (I : Inp) (call : CallFn) (j : f38.Js) (v0 v1 v4 : AVal) (h : AHeap) : Rs :=
  bndP (pToInt .u32 v1) fun v97 =>
  kB .geq v4 (Z 4) fun v99 =>
  sCond v99 (
  j.2.2.1 v0 v4 v97 h) (
  kB .rem v97 (.int .u32 (.ofNat 10000)) fun v101 =>
  kB .quo v97 (.int .u32 (.ofNat 10000)) fun v103 =>
  kB .quo v101 (.int .u32 (.ofNat 100)) fun v105 =>
  kB .mul v105 (.int .u32 (.ofNat 2)) fun v106 =>
  kB .rem v101 (.int .u32 (.ofNat 100)) fun v108 =>
  kB .mul v108 (.int .u32 (.ofNat 2)) fun v109 =>
  kB .sub v4 (Z 1) fun v112 =>
  kB .sub v4 (Z 2) fun v115 =>
  kB .add v109 (.int .u32 (.ofNat 1)) fun v117 =>
  bndP (pIndexStr (.str [48, 48, 48, 49, 48, 50, 48, 51, 48, 52, 48, 53, 48, 54, 48, 55, 48, 56, 48, 57, 49, 48, 49, 49, 49, 50, 49, 51, 49, 52, 49, 53, 49, 54, 49, 55, 49, 56, 49, 57, 50, 48, 50, 49, 50, 50, 50, 51, 50, 52, 50, 53, 50, 54, 50, 55, 50, 56, 50, 57, 51, 48, 51, 49, 51, 50, 51, 51, 51, 52, 51, 53, 51, 54, 51, 55, 51, 56, 51, 57, 52, 48, 52, 49, 52, 50, 52, 51, 52, 52, 52, 53, 52, 54, 52, 55, 52, 56, 52, 57, 53, 48, 53, 49, 53, 50, 53, 51, 53, 52, 53, 53, 53, 54, 53, 55, 53, 56, 53, 57, 54, 48, 54, 49, 54, 50, 54, 51, 54, 52, 54, 53, 54, 54, 54, 55, 54, 56, 54, 57, 55, 48, 55, 49, 55, 50, 55, 51, 55, 52, 55, 53, 55, 54, 55, 55, 55, 56, 55, 57, 56, 48, 56, 49, 56, 50, 56, 51, 56, 52, 56, 53, 56, 54, 56, 55, 56, 56, 56, 57, 57, 48, 57, 49, 57, 50, 57, 51, 57, 52, 57, 53, 57, 54, 57, 55, 57, 56, 57, 57]) v117) fun v118 =>
  bndP (pIndexStr (.str [48, 48, 48, 49, 48, 50, 48, 51, 48, 52, 48, 53, 48, 54, 48, 55, 48, 56, 48, 57, 49, 48, 49, 49, 49, 50, 49, 51, 49, 52, 49, 53, 49, 54, 49, 55, 49, 56, 49, 57, 50, 48, 50, 49, 50, 50, 50, 51, 50, 52, 50, 53, 50, 54, 50, 55, 50, 56, 50, 57, 51, 48, 51, 49, 51, 50, 51, 51, 51, 52, 51, 53, 51, 54, 51, 55, 51, 56, 51, 57, 52, 48, 52, 49, 52, 50, 52, 51, 52, 52, 52, 53, 52, 54, 52, 55, 52, 56, 52, 57, 53, 48, 53, 49, 53, 50, 53, 51, 53, 52, 53, 53, 53, 54, 53, 55, 53, 56, 53, 57, 54, 48, 54, 49, 54, 50, 54, 51, 54, 52, 54, 53, 54, 54, 54, 55, 54, 56, 54, 57, 55, 48, 55, 49, 55, 50, 55, 51, 55, 52, 55, 53, 55, 54, 55, 55, 55, 56, 55, 57, 56, 48, 56, 49, 56, 50, 56, 51, 56, 52, 56, 53, 56, 54, 56, 55, 56, 56, 56, 57, 57, 48, 57, 49, 57, 50, 57, 51, 57, 52, 57, 53, 57, 54, 57, 55, 57, 56, 57, 57]) v109) fun v120 =>
  kI 1 v0 v112 fun v121 =>
  kS 1 v121 v118 h fun _ h1 =>
  kI 1 v0 v115 fun v122 =>
  kS 1 v122 v120 h1 fun _ h2 =>
  kB .sub v4 (Z 3) fun v125 =>
  kB .sub v4 (Z 4) fun v128 =>
  kB .add v106 (.int .u32 (.ofNat 1)) fun v130 =>
  bndP (pIndexStr (.str [48, 48, 48, 49, 48, 50, 48, 51, 48, 52, 48, 53, 48, 54, 48, 55, 48, 56, 48, 57, 49, 48, 49, 49, 49, 50, 49, 51, 49, 52, 49, 53, 49, 54, 49, 55, 49, 56, 49, 57, 50, 48, 50, 49, 50, 50, 50, 51, 50, 52, 50, 53, 50, 54, 50, 55, 50, 56, 50, 57, 51, 48, 51, 49, 51, 50, 51, 51, 51, 52, 51, 53, 51, 54, 51, 55, 51, 56, 51, 57, 52, 48, 52, 49, 52, 50, 52, 51, 52, 52, 52, 53, 52, 54, 52, 55, 52, 56, 52, 57, 53, 48, 53, 49, 53, 50, 53, 51, 53, 52, 53, 53, 53, 54, 53, 55, 53, 56, 53, 57, 54, 48, 54, 49, 54, 50, 54, 51, 54, 52, 54, 53, 54, 54, 54, 55, 54, 56, 54, 57, 55, 48, 55, 49, 55, 50, 55, 51, 55, 52, 55, 53, 55, 54, 55, 55, 55, 56, 55, 57, 56, 48, 56, 49, 56, 50, 56, 51, 56, 52, 56, 53, 56, 54, 56, 55, 56, 56, 56, 57, 57, 48, 57, 49, 57, 50, 57, 51, 57, 52, 57, 53, 57, 54, 57, 55, 57, 56, 57, 57]) v130) fun v131 =>
  bndP (pIndexStr (.str [48, 48, 48, 49, 48, 50, 48, 51, 48, 52, 48, 53, 48, 54, 48, 55, 48, 56, 48, 57, 49, 48, 49, 49, 49, 50, 49, 51, 49, 52, 49, 53, 49, 54, 49, 55, 49, 56, 49, 57, 50, 48, 50, 49, 50, 50, 50, 51, 50, 52, 50, 53, 50, 54, 50, 55, 50, 56, 50, 57, 51, 48, 51, 49, 51, 50, 51, 51, 51, 52, 51, 53, 51, 54, 51, 55, 51, 56, 51, 57, 52, 48, 52, 49, 52, 50, 52, 51, 52, 52, 52, 53, 52, 54, 52, 55, 52, 56, 52, 57, 53, 48, 53, 49, 53, 50, 53, 51, 53, 52, 53, 53, 53, 54, 53, 55, 53, 56, 53, 57, 54, 48, 54, 49, 54, 50, 54, 51, 54, 52, 54, 53, 54, 54, 54, 55, 54, 56, 54, 57, 55, 48, 55, 49, 55, 50, 55, 51, 55, 52, 55, 53, 55, 54, 55, 55, 55, 56, 55, 57, 56, 48, 56, 49, 56, 50, 56, 51, 56, 52, 56, 53, 56, 54, 56, 55, 56, 56, 56, 57, 57, 48, 57, 49, 57, 50, 57, 51, 57, 52, 57, 53, 57, 54, 57, 55, 57, 56, 57, 57]) v106) fun v133 =>
  kI 1 v0 v125 fun v134 =>
  kS 1 v134 v131 h2 fun _ h3 =>
  kI 1 v0 v128 fun v135 =>
  kS 1 v135 v133 h3 fun _ h4 =>
  kB .sub v4 (Z 4) fun v137 =>
  j.2.2.1 v0 v137 v103 h4)
def f38.b1 (I : Inp) (call : CallFn) (j : f38.Js) (v0 v1 v4 : AVal) (h : AHeap) : Rs :=
  kB .geq v4 (Z 8) fun v20 =>
  sCond v20 (
  j.1.1 v0 v1 v4 h) (
  j.2.1 v0 v1 v4 h)
def f38.b2 (I : Inp) (call : CallFn) (j : f38.Js) (v0 v1 v4 : AVal) (h : AHeap) : Rs :=
  kB .rem v1 (.int .u64 (.ofNat 100000000)) fun v22 =>
  bndP (pToInt .u32 v22) fun v23 =>
  kB .quo v1 (.int .u64 (.ofNat 100000000)) fun v25 =>
  kB .quo v23 (.int .u32 (.ofNat 10000)) fun v27 =>
  kB .rem v23 (.int .u32 (.ofNat 10000)) fun v29 =>
  kB .quo v29 (.int .u32 (.ofNat 100)) fun v31 =>
  kB .mul v31 (.int .u32 (.ofNat 2)) fun v32 =>
  kB .rem v29 (.int .u32 (.ofNat 100)) fun v34 =>
  kB .mul v34 (.int .u32 (.ofNat 2)) fun v35 =>
  kB .quo v27 (.int .u32 (.ofNat 100)) fun v37 =>
  kB .mul v37 (.int .u32 (.ofNat 2)) fun v38 =>
  kB .rem v27 (.int .u32 (.ofNat 100)) fun v40 =>
  kB .mul v40 (.int .u32 (.ofNat 2)) fun v41 =>
  kB .sub v4 (Z 1) fun v44 =>
  kB .sub v4 (Z 2) fun v47 =>
  kB .add v35 (.int .u32 (.ofNat 1)) fun v49 =>
  bndP (pIndexStr (.str [48, 48, 48, 49, 48, 50, 48, 51, 48, 52, 48, 53, 48, 54, 48, 55, 48, 56, 48, 57, 49, 48, 49, 49, 49, 50, 49, 51, 49, 52, 49, 53, 49, 54, 49, 55, 49, 56, 49, 57, 50, 48, 50, 49, 50, 50, 50, 51, 50, 52, 50, 53, 50, 54, 50, 55, 50, 56, 50, 57, 51, 48, 51, 49, 51, 50, 51, 51, 51, 52, 51, 53, 51, 54, 51, 55, 51, 56, 51, 57, 52, 48, 52, 49, 52, 50, 52, 51, 52, 52, 52, 53, 52, 54, 52, 55, 52, 56, 52, 57, 53, 48, 53, 49, 53, 50, 53, 51, 53, 52, 53, 53, 53, 54, 53, 55, 53, 56, 53, 57, 54, 48, 54, 49, 54, 50, 54, 51, 54, 52, 54, 53, 54, 54, 54, 55, 54, 56, 54, 57, 55, 48, 55, 49, 55, 50, 55, 51, 55, 52, 55, 53, 55, 54, 55, 55, 55, 56, 55, 57, 56, 48, 56, 49, 56, 50, 56, 51, 56, 52, 56, 53, 56, 54, 56, 55, 56, 56, 56, 57, 57, 48, 57, 49, 57, 50, 57, 51, 57, 52, 57, 53, 57, 54, 57, 55, 57, 56, 57, 57]) v49) fun v50 =>
  bndP (pIndexStr (.str [48, 48, 48, 49, 48, 50, 48, 51, 48, 52, 48, 53, 48, 54, 48, 55, 48, 56, 48, 57, 49, 48, 49, 49, 49, 50, 49, 51, 49, 52, 49, 53, 49, 54, 49, 55, 49, 56, 49, 57, 50, 48, 50, 49, 50, 50, 50, 51, 50, 52, 50, 53, 50, 54, 50, 55, 50, 56, 50, 57, 51, 48, 51, 49, 51, 50, 51, 51, 51, 52, 51, 53, 51, 54, 51, 55, 51, 56, 51, 57, 52, 48, 52, 49, 52, 50, 52, 51, 52, 52, 52, 53, 52, 54, 52, 55, 52, 56, 52, 57, 53, 48, 53, 49, 53, 50, 53, 51, 53, 52, 53, 53, 53, 54, 53, 55, 53, 56, 53, 57, 54, 48, 54, 49, 54, 50, 54, 51, 54, 52, 54, 53, 54, 54, 54, 55, 54, 56, 54, 57, 55, 48, 55, 49, 55, 50, 55, 51, 55, 52, 55, 53, 55, 54, 55, 55, 55, 56, 55, 57, 56, 48, 56, 49, 56, 50, 56, 51, 56, 52, 56, 53, 56, 54, 56, 55, 56, 56, 56, 57, 57, 48, 57, 49, 57, 50, 57, 51, 57, 52, 57, 53, 57, 54, 57, 55, 57, 56, 57, 57]) v35) fun v52 =>
  kI 1 v0 v44 fun v53 =>
  kS 1 v53 v50 h fun _ h1 =>
  kI 1 v0 v47 fun v54 =>
  kS 1 v54 v52 h1 fun _ h2 =>
  kB .sub v4 (Z 3) fun v57 =>
  kB .sub v4 (Z 4) fun v60 =>
  kB .add v32 (.int .u32 (.ofNat 1)) fun v62 =>
  bndP (pIndexStr (.str [48, 48, 48, 49, 48, 50, 48, 51, 48, 52, 48, 53, 48, 54, 48, 55, 48, 56, 48, 57, 49, 48, 49, 49, 49, 50, 49, 51, 49, 52, 49, 53, 49, 54, 49, 55, 49, 56, 49, 57, 50, 48, 50, 49, 50, 50, 50, 51, 50, 52, 50, 53, 50, 54, 50, 55, 50, 56, 50, 57, 51, 48, 51, 49, 51, 50, 51, 51, 51, 52, 51, 53, 51, 54, 51, 55, 51, 56, 51, 57, 52, 48, 52, 49, 52, 50, 52, 51, 52, 52, 52, 53, 52, 54, 52, 55, 52, 56, 52, 57, 53, 48, 53, 49, 53, 50, 53, 51, 53, 52, 53, 53, 53, 54, 53, 55, 53, 56, 53, 57, 54, 48, 54, 49, 54, 50, 54, 51, 54, 52, 54, 53, 54, 54, 54, 55, 54, 56, 54, 57, 55, 48, 55, 49, 55, 50, 55, 51, 55, 52, 55, 53, 55, 54, 55, 55, 55, 56, 55, 57, 56, 48, 56, 49, 56, 50, 56, 51, 56, 52, 56, 53, 56, 54, 56, 55, 56, 56, 56, 57, 57, 48, 57, 49, 57, 50, 57, 51, 57, 52, 57, 53, 57, 54, 57, 55, 57, 56, 57, 57]) v62) fun v63 =>
  bndP (pIndexStr (.str [48, 48, 48, 49, 48, 50, 48, 51, 48, 52, 48, 53, 48, 54, 48, 55, 48, 56, 48, 57, 49, 48, 49, 49, 49, 50, 49, 51, 49, 52, 49, 53, 49, 54, 49, 55, 49, 56, 49, 57, 50, 48, 50, 49, 50, 50, 50, 51, 50, 52, 50, 53, 50, 54, 50, 55, 50, 56, 50, 57, 51, 48, 51, 49, 51, 50, 51, 51, 51, 52, 51, 53, 51, 54, 51, 55, 51, 56, 51, 57, 52, 48, 52, 49, 52, 50, 52, 51, 52, 52, 52, 53, 52, 54, 52, 55, 52, 56, 52, 57, 53, 48, 53, 49, 53, 50, 53, 51, 53, 52, 53, 53, 53, 54, 53, 55, 53, 56, 53, 57, 54, 48, 54, 49, 54, 50, 54, 51, 54, 52, 54, 53, 54, 54, 54, 55, 54, 56, 54, 57, 55, 48, 55, 49, 55, 50, 55, 51, 55, 52, 55, 53, 55, 54, 55, 55, 55, 56, 55, 57, 56, 48, 56, 49, 56, 50, 56, 51, 56, 52, 56, 53, 56, 54, 56, 55, 56, 56, 56, 57, 57, 48, 57, 49, 57, 50, 57, 51, 57, 52, 57, 53, 57, 54, 57, 55, 57, 56, 57, 57]) v32) fun v65 =>
  kI 1 v0 v57 fun v66 =>
  kS 1 v66 v63 h2 fun _ h3 =>
  kI 1 v0 v60 fun v67 =>
  kS 1 v67 v65 h3 fun _ h4 =>
  kB .sub v4 (Z 5) fun v70 =>
  kB .sub v4 (Z 6) fun v73 =>
  kB .add v41 (.int .u32 (.ofNat 1)) fun v75 =>
  bndP (pIndexStr (.str [48, 48, 48, 49, 48, 50, 48, 51, 48, 52, 48, 53, 48, 54, 48, 55, 48, 56, 48, 57, 49, 48, 49, 49, 49, 50, 49, 51, 49, 52, 49, 53, 49, 54, 49, 55, 49, 56, 49, 57, 50, 48, 50, 49, 50, 50, 50, 51, 50, 52, 50, 53, 50, 54, 50, 55, 50, 56, 50, 57, 51, 48, 51, 49, 51, 50, 51, 51, 51, 52, 51, 53, 51, 54, 51, 55, 51, 56, 51, 57, 52, 48, 52, 49, 52, 50, 52, 51, 52, 52, 52, 53, 52, 54, 52, 55, 52, 56, 52, 57, 53, 48, 53, 49, 53, 50, 53, 51, 53, 52, 53, 53, 53, 54, 53, 55, 53, 56, 53, 57, 54, 48, 54, 49, 54, 50, 54, 51, 54, 52, 54, 53, 54, 54, 54, 55, 54, 56, 54, 57, 55, 48, 55, 49, 55, 50, 55, 51, 55, 52, 55, 53, 55, 54, 55, 55, 55, 56, 55, 57, 56, 48, 56, 49, 56, 50, 56, 51, 56, 52, 56, 53, 56, 54, 56, 55, 56, 56, 56, 57, 57, 48, 57, 49, 57, 50, 57, 51, 57, 52, 57, 53, 57, 54, 57, 55, 57, 56, 57, 57]) v75) fun v76 =>
  bndP (pIndexStr (.str [48, 48, 48, 49, 48, 50, 48, 51, 48, 52, 48, 53, 48, 54, 48, 55, 48, 56, 48, 57, 49, 48, 49, 49, 49, 50, 49, 51, 49, 52, 49, 53, 49, 54, 49, 55, 49, 56, 49, 57, 50, 48, 50, 49, 50, 50, 50, 51, 50, 52, 50, 53, 50, 54, 50, 55, 50, 56, 50, 57, 51, 48, 51, 49, 51, 50, 51, 51, 51, 52, 51, 53, 51, 54, 51, 55, 51, 56, 51, 57, 52, 48, 52, 49, 52, 50, 52, 51, 52, 52, 52, 53, 52, 54, 52, 55, 52, 56, 52, 57, 53, 48, 53, 49, 53, 50, 53, 51, 53, 52, 53, 53, 53, 54, 53, 55, 53, 56, 53, 57, 54, 48, 54, 49, 54, 50, 54, 51, 54, 52, 54, 53, 54, 54, 54, 55, 54, 56, 54, 57, 55, 48, 55, 49, 55, 50, 55, 51, 55, 52, 55, 53, 55, 54, 55, 55, 55, 56, 55, 57, 56, 48, 56, 49, 56, 50, 56, 51, 56, 52, 56, 53, 56, 54, 56, 55, 56, 56, 56, 57, 57, 48, 57, 49, 57, 50, 57, 51, 57, 52, 57, 53, 57, 54, 57, 55, 57, 56, 57, 57]) v41) fun v78 =>
  kI 1 v0 v70 fun v79 =>
  kS 1 v79 v76 h4 fun _ h5 =>
  kI 1 v0 v73 fun v80 =>
  kS 1 v80 v78 h5 fun _ h6 =>
  kB .sub v4 (Z 7) fun v83 =>
  kB .sub v4 (Z 8) fun v86 =>
  kB .add v38 (.int .u32 (.ofNat 1)) fun v88 =>
  bndP (pIndexStr (.str [48, 48, 48, 49, 48, 50, 48, 51, 48, 52, 48, 53, 48, 54, 48, 55, 48, 56, 48, 57, 49, 48, 49, 49, 49, 50, 49, 51, 49, 52, 49, 53, 49, 54, 49, 55, 49, 56, 49, 57, 50, 48, 50, 49, 50, 50, 50, 51, 50, 52, 50, 53, 50, 54, 50, 55, 50, 56, 50, 57, 51, 48, 51, 49, 51, 50, 51, 51, 51, 52, 51, 53, 51, 54, 51, 55, 51, 56, 51, 57, 52, 48, 52, 49, 52, 50, 52, 51, 52, 52, 52, 53, 52, 54, 52, 55, 52, 56, 52, 57, 53, 48, 53, 49, 53, 50, 53, 51, 53, 52, 53, 53, 53, 54, 53, 55, 53, 56, 53, 57, 54, 48, 54, 49, 54, 50, 54, 51, 54, 52, 54, 53, 54, 54, 54, 55, 54, 56, 54, 57, 55, 48, 55, 49, 55, 50, 55, 51, 55, 52, 55, 53, 55, 54, 55, 55, 55, 56, 55, 57, 56, 48, 56, 49, 56, 50, 56, 51, 56, 52, 56, 53, 56, 54, 56, 55, 56, 56, 56, 57, 57, 48, 57, 49, 57, 50, 57, 51, 57, 52, 57, 53, 57, 54, 57, 55, 57, 56, 57, 57]) v88) fun v89 =>
  bndP (pIndexStr (.str [48, 48, 48, 49, 48, 50, 48, 51, 48, 52, 48, 53, 48, 54, 48, 55, 48, 56, 48, 57, 49, 48, 49, 49, 49, 50, 49, 51, 49, 52, 49, 53, 49, 54, 49, 55, 49, 56, 49, 57, 50, 48, 50, 49, 50, 50, 50, 51, 50, 52, 50, 53, 50, 54, 50, 55, 50, 56, 50, 57, 51, 48, 51, 49, 51, 50, 51, 51, 51, 52, 51, 53, 51, 54, 51, 55, 51, 56, 51, 57, 52, 48, 52, 49, 52, 50, 52, 51, 52, 52, 52, 53, 52, 54, 52, 55, 52, 56, 52, 57, 53, 48, 53, 49, 53, 50, 53, 51, 53, 52, 53, 53, 53, 54, 53, 55, 53, 56, 53, 57, 54, 48, 54, 49, 54, 50, 54, 51, 54, 52, 54, 53, 54, 54, 54, 55, 54, 56, 54, 57, 55, 48, 55, 49, 55, 50, 55, 51, 55, 52, 55, 53, 55, 54, 55, 55, 55, 56, 55, 57, 56, 48, 56, 49, 56, 50, 56, 51, 56, 52, 56, 53, 56, 54, 56, 55, 56, 56, 56, 57, 57, 48, 57, 49, 57, 50, 57, 51, 57, 52, 57, 53, 57, 54, 57, 55, 57, 56, 57, 57]) v38) fun v91 =>
  kI 1 v0 v83 fun v92 =>
  kS 1 v92 v89 h6 fun _ h7 =>
  kI 1 v0 v86 fun v93 =>
  kS 1 v93 v91 h7 fun _ h8 =>
  kB .sub v4 (Z 8) fun v95 =>
  j.1.2 v0 v25 v95 h8
def f38.b3 (I : Inp) (call : CallFn) (j : f38.Js) (v0 v4 v12 : AVal) (h : AHeap) : Rs :=
  kB .geq v4 (Z 2) fun v139 =>
  sCond v139 (
  j.2.2.2 v0 v4 v12 h) (
  kB .rem v12 (.int .u32 (.ofNat 100)) fun v141 =>
  kB .mul v141 (.int .u32 (.ofNat 2)) fun v142 =>
  kB .quo v12 (.int .u32 (.ofNat 100)) fun v144 =>
  kB .sub v4 (Z 1) fun v147 =>
  kB .sub v4 (Z 2) fun v150 =>
  kB .add v142 (.int .u32 (.ofNat 1)) fun v152 =>
  bndP (pIndexStr (.str [48, 48, 48, 49, 48, 50, 48, 51, 48, 52, 48, 53, 48, 54, 48, 55, 48, 56, 48, 57, 49, 48, 49, 49, 49, 50, 49, 51, 49, 52, 49, 53, 49, 54, 49, 55, 49, 56, 49, 57, 50, 48, 50, 49, 50, 50, 50, 51, 50, 52, 50, 53, 50, 54, 50, 55, 50, 56, 50, 57, 51, 48, 51, 49, 51, 50, 51, 51, 51, 52, 51, 53, 51, 54, 51, 55, 51, 56, 51, 57, 52, 48, 52, 49, 52, 50, 52, 51, 52, 52, 52, 53, 52, 54, 52, 55, 52, 56, 52, 57, 53, 48, 53, 49, 53, 50, 53, 51, 53, 52, 53, 53, 53, 54, 53, 55, 53, 56, 53, 57, 54, 48, 54, 49, 54, 50, 54, 51, 54, 52, 54, 53, 54, 54, 54, 55, 54, 56, 54, 57, 55, 48, 55, 49, 55, 50, 55, 51, 55, 52, 55, 53, 55, 54, 55, 55, 55, 56, 55, 57, 56, 48, 56, 49, 56, 50, 56, 51, 56, 52, 56, 53, 56, 54, 56, 55, 56, 56, 56, 57, 57, 48, 57, 49, 57, 50, 57, 51, 57, 52, 57, 53, 57, 54, 57, 55, 57, 56, 57, 57]) v152) fun v153 =>
  bndP (pIndexStr (.str [48, 48, 48, 49, 48, 50, 48, 51, 48, 52, 48, 53, 48, 54, 48, 55, 48, 56, 48, 57, 49, 48, 49, 49, 49, 50, 49, 51, 49, 52, 49, 53, 49, 54, 49, 55, 49, 56, 49, 57, 50, 48, 50, 49, 50, 50, 50, 51, 50, 52, 50, 53, 50, 54, 50, 55, 50, 56, 50, 57, 51, 48, 51, 49, 51, 50, 51, 51, 51, 52, 51, 53, 51, 54, 51, 55, 51, 56, 51, 57, 52, 48, 52, 49, 52, 50, 52, 51, 52, 52, 52, 53, 52, 54, 52, 55, 52, 56, 52, 57, 53, 48, 53, 49, 53, 50, 53, 51, 53, 52, 53, 53, 53, 54, 53, 55, 53, 56, 53, 57, 54, 48, 54, 49, 54, 50, 54, 51, 54, 52, 54, 53, 54, 54, 54, 55, 54, 56, 54, 57, 55, 48, 55, 49, 55, 50, 55, 51, 55, 52, 55, 53, 55, 54, 55, 55, 55, 56, 55, 57, 56, 48, 56, 49, 56, 50, 56, 51, 56, 52, 56, 53, 56, 54, 56, 55, 56, 56, 56, 57, 57, 48, 57, 49, 57, 50, 57, 51, 57, 52, 57, 53, 57, 54, 57, 55, 57, 56, 57, 57]) v142) fun v155 =>
  kI 1 v0 v147 fun v156 =>
  kS 1 v156 v153 h fun _ h1 =>
  kI 1 v0 v150 fun v157 =>
  kS 1 v157 v155 h1 fun _ h2 =>
  kB .sub v4 (Z 2) fun v159 =>
  j.2.2.2 v0 v159 v144 h2)
def f38.b4 (I : Inp) (call : CallFn) (j : f38.Js) (v0 v4 v12 : AVal) (h : AHeap) : Rs :=
  kB .gtr v4 (Z 0) fun v161 =>
  sCond v161 (
  some (.tuple [], h)) (
  kB .add (.int .u32 (.ofNat 48)) v12 fun v164 =>
  bndP (pToInt .u8 v164) fun v165 =>
  kI 1 v0 (Z 0) fun v166 =>
  kS 1 v166 v165 h fun _ h1 =>
  some (.tuple [], h1))
def f38.e (I : Inp) (call : CallFn) (j : f38.Js) (v0 v1 : AVal) (h : AHeap) : Rs :=
  kZ v0 fun v18 =>
  j.1.2 v0 v1 v18 h
def f38.J (I : Inp) (call : CallFn) (n : Nat) : f38.Js :=
  Nat.rec (motive := fun _ => f38.Js) ((Zr.z, Zr.z), (Zr.z, (Zr.z, Zr.z))) (fun _ j => ((f38.b0 I call j, f38.b1 I call j), (f38.b2 I call j, (f38.b3 I call j, f38.b4 I call j)))) n
def f38.JS (I : Inp) (call : CallFn) (n : Nat) : Jmp := (fun j : f38.Js => jmp [Ap.ap j.1.1 [0, 1, 4], Ap.ap j.1.2 [0, 1, 4], Ap.ap j.2.1 [0, 1, 4], Ap.ap j.2.2.1 [0, 4, 12], Ap.ap j.2.2.2 [0, 4, 12]]) (f38.J I call n)
theorem f38.S : SFn ⟨P, I, F⟩ call c38 (f38.JS I call) := .all 5 (by kernel_rfl) (fun ρ h => by kernel_rfl) (fun n ρ h => by kernel_rfl)
theorem f38.qe : Ap.all (f38.e I call (f38.J I call n)) (fun l h => execC P I call (f38.JS I call n) c38.body 0 (finV I c38.results) (argV l) h) := fun v0 v1 h => by kernel_rfl
theorem f38.code : codeOf P 38 = some c38 := by kernel_rfl
def f38.run (I : Inp) : SF := fun call n => Ap.ar (f38.e I call (f38.J I call n))
theorem f38.ok (I : Inp) (F : Nat → Option AFn) (hF : F 38 = some (.code c38)) : SfOk P I F 38 (f38.run I) := okOf hF (by kernel_rfl) (fun _ => f38.S) fun call n => f38.qe
/-! internal/strconv.log10Pow2 -/
def c40 : AFunc := cOf P 40
abbrev f40.Js : Type := Unit
def f40.e (I : Inp) (call : CallFn) (j : f40.Js) (v0 : AVal) (h : AHeap) : Rs :=
  kB .mul v0 (Z 78913) fun v4 =>
  kB .shr v4 (.int .u64 (.ofNat 18)) fun v5 =>
  some (v5, h)
theorem f40.S : SFn ⟨P, I, F⟩ call c40 (fun _ => jmp []) := .all 0 (by kernel_rfl) (fun ρ h => by kernel_rfl) (fun n ρ h => by kernel_rfl)
theorem f40.qe : Ap.all (f40.e I call ()) (fun l h => execC P I call (jmp []) c40.body 0 (finV I c40.results) (argV l) h) := fun v0 h => by kernel_rfl
theorem f40.code : codeOf P 40 = some c40 := by kernel_rfl
def f40.run (I : Inp) : SF := fun call n => Ap.ar (f40.e I call ())
theorem f40.ok (I : Inp) (F : Nat → Option AFn) (hF : F 40 = some (.code c40)) : SfOk P I F 40 (f40.run I) := okOf hF (by kernel_rfl) (fun _ => f40.S) fun call n => f40.qe
/-! math/bits.Len64 -/
def c41 : AFunc := cOf P 41
abbrev f41.Js : Type := (A2 × (A2 × A2))
def f41.b0 (I : Inp) (call : CallFn) (j : f41.Js) (v0 v2 : AVal) (h : AHeap) : Rs :=
  kB .geq v0 (.int .u64 (.ofNat 65536)) fun v8 =>
  sCond v8 (
  j.2.1 v0 v2 h) (
  kB .shr v0 (.int .u64 (.ofNat 16)) fun v10 =>
  kB .add v2 (Z 16) fun v12 =>
  j.2.1 v10 v12 h)
def f41.b1 (I : Inp) (call : CallFn) (j : f41.Js) (v0 v2 : AVal) (h : AHeap) : Rs :=
  kB .geq v0 (.int .u64 (.ofNat 256)) fun v14 =>
  sCond v14 (
  j.2.2 v0 v2 h) (
  kB .shr v0 (.int .u64 (.ofNat 8)) fun v16 =>
  kB .add v2 (Z 8) fun v18 =>
  j.2.2 v16 v18 h)
def f41.b2 (I : Inp) (call : CallFn) (j : f41.Js) (v0 v2 : AVal) (h : AHeap) : Rs :=
  bndP (pToInt .u8 v0) fun v21 =>
  bndP (pIndexStr (.str [0, 1, 2, 2, 3, 3, 3, 3, 4, 4, 4, 4, 4, 4, 4, 4, 5, 5, 5, 5, 5, 5, 5, 5, 5, 5, 5, 5, 5, 5, 5, 5, 6, 6, 6, 6, 6, 6, 6, 6, 6, 6, 6, 6, 6, 6, 6, 6, 6, 6, 6, 6, 6, 6, 6, 6, 6, 6, 6, 6, 6, 6, 6, 6, 7, 7, 7, 7, 7, 7, 7, 7, 7, 7, 7, 7, 7, 7, 7, 7, 7, 7, 7, 7, 7, 7, 7, 7, 7, 7, 7, 7, 7, 7, 7, 7, 7, 7, 7, 7, 7, 7, 7, 7, 7, 7, 7, 7, 7, 7, 7, 7, 7, 7, 7, 7, 7, 7, 7, 7, 7, 7, 7, 7, 7, 7, 7, 7, 8, 8, 8, 8, 8, 8, 8, 8, 8, 8, 8, 8, 8, 8, 8, 8, 8, 8, 8, 8, 8, 8, 8, 8, 8, 8, 8, 8, 8, 8, 8, 8, 8, 8, 8, 8, 8, 8, 8, 8, 8, 8, 8, 8, 8, 8, 8, 8, 8, 8, 8, 8, 8, 8, 8, 8, 8, 8, 8, 8, 8, 8, 8, 8, 8, 8, 8, 8, 8, 8, 8, 8, 8, 8, 8, 8, 8, 8, 8, 8, 8, 8, 8, 8, 8, 8, 8, 8, 8, 8, 8, 8, 8, 8, 8, 8, 8, 8, 8, 8, 8, 8, 8, 8, 8, 8, 8, 8, 8, 8, 8, 8, 8, 8, 8, 8, 8, 8, 8, 8, 8, 8, 8, 8, 8, 8, 8, 8]) v21) fun v22 =>
  bndP (pToInt .i64 v22) fun v23 =>
  kB .add v2 v23 fun v24 =>
  some (v24, h)
def f41.e (I : Inp) (call : CallFn) (j : f41.Js) (v0 : AVal) (h : AHeap) : Rs :=
  kB .geq v0 (.int .u64 (.ofNat 4294967296)) fun v4 =>
  sCond v4 (
  j.1 v0 (Z 0) h) (
  kB .shr v0 (.int .u64 (.ofNat 32)) fun v6 =>
  j.1 v6 (Z 32) h)
def f41.J (I : Inp) (call : CallFn) (n : Nat) : f41.Js :=
  Nat.rec (motive := fun _ => f41.Js) (Zr.z, (Zr.z, Zr.z)) (fun _ j => (f41.b0 I call j, (f41.b1 I call j, f41.b2 I call j))) n
def f41.JS (I : Inp) (call : CallFn) (n : Nat) : Jmp := (fun j : f41.Js => jmp [Ap.ap j.1 [0, 2], Ap.ap j.2.1 [0, 2], Ap.ap j.2.2 [0, 2]]) (f41.J I call n)
theorem f41.S : SFn ⟨P, I, F⟩ call c41 (f41.JS I call) := .all 3 (by kernel_rfl) (fun ρ h => by kernel_rfl) (fun n ρ h => by kernel_rfl)
theorem f41.qe : Ap.all (f41.e I call (f41.J I call n)) (fun l h => execC P I call (f41.JS I call n) c41.body 0 (finV I c41.results) (argV l) h) := fun v0 h => by kernel_rfl
theorem f41.code : codeOf P 41 = some c41 := by kernel_rfl
def f41.run (I : Inp) : SF := fun call n => Ap.ar (f41.e I call (f41.J I call n))
theorem f41.ok (I : Inp) (F : Nat → Option AFn) (hF : F 41 = some (.code c41)) : SfOk P I F 41 (f41.run I) := okOf hF (by kernel_rfl) (fun _ => f41.S) fun call n => f41.qe
/-! internal/strconv.bool2[int] -/
def c42 : AFunc := cOf P 42
abbrev f42.Js : Type := A0
def f42.b0 (I : Inp) (call : CallFn) (j : f42.Js) (h : AHeap) : Rs :=
  some ((Z 0), h)
def f42.e (I : Inp) (call : CallFn) (j : f42.Js) (v0 : AVal) (h : AHeap) : Rs :=
  sCond v0 (
  j h) (
  some ((Z 1), h))
def f42.J (I : Inp) (call : CallFn) (n : Nat) : f42.Js :=
  Nat.rec (motive := fun _ => f42.Js) Zr.z (fun _ j => f42.b0 I call j) n
def f42.JS (I : Inp) (call : CallFn) (n : Nat) : Jmp := (fun j : f42.Js => jmp [Ap.ap j []]) (f42.J I call n)
theorem f42.S : SFn ⟨P, I, F⟩ call c42 (f42.JS I call) := .all 1 (by kernel_rfl) (fun ρ h => by kernel_rfl) (fun n ρ h => by kernel_rfl)
theorem f42.qe : Ap.all (f42.e I call (f42.J I call n)) (fun l h => execC P I call (f42.JS I call n) c42.body 0 (finV I c42.results) (argV l) h) := fun v0 h => by kernel_rfl
theorem f42.code : codeOf P 42 = some c42 := by kernel_rfl
def f42.run (I : Inp) : SF := fun call n => Ap.ar (f42.e I call (f42.J I call n))
theorem f42.ok (I : Inp) (F : Nat → Option AFn) (hF : F 42 = some (.code c42)) : SfOk P I F 42 (f42.run I) := okOf hF (by kernel_rfl) (fun _ => f42.S) fun call n => f42.qe
end
end Go.Proofs.YtlfdcehdpnidnaaDoor.Sf
