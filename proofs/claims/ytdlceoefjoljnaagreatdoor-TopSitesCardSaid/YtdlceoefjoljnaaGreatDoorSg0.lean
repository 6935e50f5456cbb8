/- The functions of the program by their labels, on values, part 0: what they compute the abstract machine computes. Conditions: none. -/
import Derived.Test.YtdlceoefjoljnaaGreatDoorAmZ
import Derived.Test.YtdlceoefjoljnaaGreatDoorProg
namespace Go.Proofs.YtdlceoefjoljnaaGreatDoor.Sg
open Go.AM
set_option linter.unusedVariables false
noncomputable section
noncomputable abbrev P : Program := Tryz.prog
variable {I : Inp} {F : Nat → Option AFn} {call : CallFn} {prims : Nat → Option Prim} {n : Nat} {h : AHeap} {Q : AVal → AHeap → Prop}
/-! haruspex/haruspextop.small -/
def c22 : AFunc := cOf P 22
abbrev f22.Js : Type := A1
def f22.b0 (I : Inp) (call : CallFn) (j : f22.Js) (v0 : AVal) (h : AHeap) : Rs :=
  some (v0, h)
def f22.e (I : Inp) (call : CallFn) (j : f22.Js) (v0 v1 : AVal) (h : AHeap) : Rs :=
  kB .rem v0 v1 fun v7 =>
  kB .lss v7 (Z 0) fun v9 =>
  sCond v9 (
  j v7 h) (
  kU .neg v7 fun v11 =>
  j v11 h)
def f22.J (I : Inp) (call : CallFn) (n : Nat) : f22.Js :=
  Nat.rec (motive := fun _ => f22.Js) Zr.z (fun _ j => f22.b0 I call j) n
theorem f22.n0 : (f22.J I call (n + 1)) = f22.b0 I call (f22.J I call n) := nrfl
def f22.JS (I : Inp) (call : CallFn) (n : Nat) : Jmp := (fun j : f22.Js => jmp [Ap.ap j [0]]) (f22.J I call n)
theorem f22.S : SFn ⟨P, I, F⟩ call c22 (f22.JS I call) := .all 1 (by kernel_rfl) (fun ρ h => by kernel_rfl) (fun n ρ h => by kernel_rfl)
theorem f22.qe : Ap.all (f22.e I call (f22.J I call n)) (fun l h => execC P I call (f22.JS I call n) c22.body 0 (finV I c22.results) (argV l) h) := fun v0 v1 h => by kernel_rfl
theorem f22.code : codeOf P 22 = some c22 := by kernel_rfl
def f22.run (I : Inp) : SF := fun call n => Ap.ar (f22.e I call (f22.J I call n))
theorem f22.ok (I : Inp) (F : Nat → Option AFn) (hF : F 22 = some (.code c22)) : SfOk P I F 22 (f22.run I) := okOf hF (by kernel_rfl) (fun _ => f22.S) fun call n => f22.qe
theorem f22.lim (hp : prims 22 = none) {v0 v1 : AVal} (hr : Res (f22.e I (AM.lim ⟨P, I, genF P prims⟩) (f22.J I (AM.lim ⟨P, I, genF P prims⟩) n) v0 v1 h) Q) : Res ((AM.lim ⟨P, I, genF P prims⟩) 22 [v0, v1] h) Q := limOf (n := n) hp f22.code (f22.ok I) hr rfl
/-! haruspex/trace.Alarms$1 -/
def c61 : AFunc := cOf P 61
abbrev f61.Js : Type := Unit
def f61.e (I : Inp) (call : CallFn) (j : f61.Js) (v0 v1 : AVal) (h : AHeap) : Rs :=
  bnd (sBox v0 h) fun v2 h1 =>
  bnd (sBox v1 h1) fun v3 h2 =>
  kF 0 v2 fun v5 =>
  kL I v5 h2 fun v6 =>
  kF 0 v3 fun v7 =>
  kL I v7 h2 fun v8 =>
  kC call 63 [v6, v8] h2 fun v9 h3 =>
  kF 1 v2 fun v10 =>
  kL I v10 h3 fun v11 =>
  kF 1 v3 fun v12 =>
  kL I v12 h3 fun v13 =>
  kC call 63 [v11, v13] h3 fun v14 h4 =>
  bnd (sBuildSlice [(Z 0)] 2 [(0, 1, v9), (1, 1, v14)] h4) fun v15 h5 =>
  kC call 62 [v15] h5 fun v16 h6 =>
  sCheck (sSame (lift (pLoad1 I v10 h2) h2) v11 && true) (
  sCheck (sSame (lift (pLoad1 I v12 h2) h2) v13 && true) (
  some (v16, h6)))
theorem f61.S : SFn ⟨P, I, F⟩ call c61 (fun _ => jmp []) := .all 0 (by kernel_rfl) (fun ρ h => by kernel_rfl) (fun n ρ h => by kernel_rfl)
theorem f61.qe : Ap.all (f61.e I call ()) (fun l h => execC P I call (jmp []) c61.body 0 (finV I c61.results) (argV l) h) := fun v0 v1 h => by kernel_rfl
theorem f61.code : codeOf P 61 = some c61 := by kernel_rfl
def f61.run (I : Inp) : SF := fun call n => Ap.ar (f61.e I call ())
theorem f61.ok (I : Inp) (F : Nat → Option AFn) (hF : F 61 = some (.code c61)) : SfOk P I F 61 (f61.run I) := okOf hF (by kernel_rfl) (fun _ => f61.S) fun call n => f61.qe
theorem f61.lim (hp : prims 61 = none) {n : Nat} {v0 v1 : AVal} (hr : Res (f61.e I (AM.lim ⟨P, I, genF P prims⟩) () v0 v1 h) Q) : Res ((AM.lim ⟨P, I, genF P prims⟩) 61 [v0, v1] h) Q := limOf (n := n) hp f61.code (f61.ok I) hr rfl
/-! cmp.Or[int] -/
def c62 : AFunc := cOf P 62
abbrev f62.Js : Type := ((A1 × A4) × (A4 × A4))
def f62.b0 (I : Inp) (call : CallFn) (j : f62.Js) (v3 : AVal) (h : AHeap) : Rs :=
  some (v3, h)
def f62.b1 (I : Inp) (call : CallFn) (j : f62.Js) (v3 v6 v7 v8 : AVal) (h : AHeap) : Rs :=
  kB .lss v8 v7 fun v9 =>
  sCond v9 (
  j.1.1 v3 h) (
  j.2.1 v3 v6 v7 v8 h)
def f62.b2 (I : Inp) (call : CallFn) (j : f62.Js) (v3 v6 v7 v8 : AVal) (h : AHeap) : Rs :=
  kI 1 v6 v8 fun v10 =>
  kL I v10 h fun v11 =>
  kB .neq v11 v3 fun v14 =>
  sCond v14 (
  j.2.2 v3 v6 v7 v8 h) (
  some (v11, h))
def f62.b3 (I : Inp) (call : CallFn) (j : f62.Js) (v3 v6 v7 v8 : AVal) (h : AHeap) : Rs :=
  kB .add v8 (Z 1) fun v16 =>
  j.1.2 v3 v6 v7 v16 h
def f62.e (I : Inp) (call : CallFn) (j : f62.Js) (v0 : AVal) (h : AHeap) : Rs :=
  kZ v0 fun v7 =>
  j.1.2 (Z 0) v0 v7 (Z 0) h
def f62.J (I : Inp) (call : CallFn) (n : Nat) : f62.Js :=
  Nat.rec (motive := fun _ => f62.Js) ((Zr.z, Zr.z), (Zr.z, Zr.z)) (fun _ j => ((f62.b0 I call j, f62.b1 I call j), (f62.b2 I call j, f62.b3 I call j))) n
theorem f62.n0 : (f62.J I call (n + 1)).1.1 = f62.b0 I call (f62.J I call n) := nrfl
theorem f62.n1 : (f62.J I call (n + 1)).1.2 = f62.b1 I call (f62.J I call n) := nrfl
theorem f62.n2 : (f62.J I call (n + 1)).2.1 = f62.b2 I call (f62.J I call n) := nrfl
theorem f62.n3 : (f62.J I call (n + 1)).2.2 = f62.b3 I call (f62.J I call n) := nrfl
def f62.JS (I : Inp) (call : CallFn) (n : Nat) : Jmp := (fun j : f62.Js => jmp [Ap.ap j.1.1 [3], Ap.ap j.1.2 [3, 6, 7, 8], Ap.ap j.2.1 [3, 6, 7, 8], Ap.ap j.2.2 [3, 6, 7, 8]]) (f62.J I call n)
theorem f62.S : SFn ⟨P, I, F⟩ call c62 (f62.JS I call) := .all 4 (by kernel_rfl) (fun ρ h => by kernel_rfl) (fun n ρ h => by kernel_rfl)
theorem f62.qe : Ap.all (f62.e I call (f62.J I call n)) (fun l h => execC P I call (f62.JS I call n) c62.body 0 (finV I c62.results) (argV l) h) := fun v0 h => by kernel_rfl
theorem f62.code : codeOf P 62 = some c62 := by kernel_rfl
def f62.run (I : Inp) : SF := fun call n => Ap.ar (f62.e I call (f62.J I call n))
theorem f62.ok (I : Inp) (F : Nat → Option AFn) (hF : F 62 = some (.code c62)) : SfOk P I F 62 (f62.run I) := okOf hF (by kernel_rfl) (fun _ => f62.S) fun call n => f62.qe
theorem f62.lim (hp : prims 62 = none) {v0 : AVal} (hr : Res (f62.e I (AM.lim ⟨P, I, genF P prims⟩) (f62.J I (AM.lim ⟨P, I, genF P prims⟩) n) v0 h) Q) : Res ((AM.lim ⟨P, I, genF P prims⟩) 62 [v0] h) Q := limOf (n := n) hp f62.code (f62.ok I) hr rfl
/-! cmp.Compare[int] -/
def c63 : AFunc := cOf P 63
abbrev f63.Js : Type := ((A3 × A0) × (A2 × (A2 × A0)))
def f63.b0 (I : Inp) (call : CallFn) (j : f63.Js) (v0 v1 v6 : AVal) (h : AHeap) : Rs :=
  sCond v6 (
  j.2.1 v0 v1 h) (
  some ((Z 1), h))
def f63.b1 (I : Inp) (call : CallFn) (j : f63.Js) (h : AHeap) : Rs :=
  some ((.int .i64 (.negSucc 0)), h)
def f63.b2 (I : Inp) (call : CallFn) (j : f63.Js) (v0 v1 : AVal) (h : AHeap) : Rs :=
  kB .lss v0 v1 fun v16 =>
  sCond v16 (
  j.2.2.1 v0 v1 h) (
  some ((.int .i64 (.negSucc 0)), h))
def f63.b3 (I : Inp) (call : CallFn) (j : f63.Js) (v0 v1 : AVal) (h : AHeap) : Rs :=
  kB .gtr v0 v1 fun v19 =>
  sCond v19 (
  j.2.2.2 h) (
  some ((Z 1), h))
def f63.b4 (I : Inp) (call : CallFn) (j : f63.Js) (h : AHeap) : Rs :=
  some ((Z 0), h)
def f63.e (I : Inp) (call : CallFn) (j : f63.Js) (v0 v1 : AVal) (h : AHeap) : Rs :=
  kC call 114 [v0] h fun v8 h1 =>
  kC call 114 [v1] h1 fun v10 h2 =>
  sCond v8 (
  j.1.1 v0 v1 v10 h2) (
  sCond v10 (
  j.1.2 h2) (
  some ((Z 0), h2)))
def f63.J (I : Inp) (call : CallFn) (n : Nat) : f63.Js :=
  Nat.rec (motive := fun _ => f63.Js) ((Zr.z, Zr.z), (Zr.z, (Zr.z, Zr.z))) (fun _ j => ((f63.b0 I call j, f63.b1 I call j), (f63.b2 I call j, (f63.b3 I call j, f63.b4 I call j)))) n
theorem f63.n0 : (f63.J I call (n + 1)).1.1 = f63.b0 I call (f63.J I call n) := nrfl
theorem f63.n1 : (f63.J I call (n + 1)).1.2 = f63.b1 I call (f63.J I call n) := nrfl
theorem f63.n2 : (f63.J I call (n + 1)).2.1 = f63.b2 I call (f63.J I call n) := nrfl
theorem f63.n3 : (f63.J I call (n + 1)).2.2.1 = f63.b3 I call (f63.J I call n) := nrfl
theorem f63.n4 : (f63.J I call (n + 1)).2.2.2 = f63.b4 I call (f63.J I call n) := nrfl
def f63.JS (I : Inp) (call : CallFn) (n : Nat) : Jmp := (fun j : f63.Js => jmp [Ap.ap j.1.1 [0, 1, 6], Ap.ap j.1.2 [], Ap.ap j.2.1 [0, 1], Ap.ap j.2.2.1 [0, 1], Ap.ap j.2.2.2 []]) (f63.J I call n)
theorem f63.S : SFn ⟨P, I, F⟩ call c63 (f63.JS I call) := .all 5 (by kernel_rfl) (fun ρ h => by kernel_rfl) (fun n ρ h => by kernel_rfl)
theorem f63.qe : Ap.all (f63.e I call (f63.J I call n)) (fun l h => execC P I call (f63.JS I call n) c63.body 0 (finV I c63.results) (argV l) h) := fun v0 v1 h => by kernel_rfl
theorem f63.code : codeOf P 63 = some c63 := by kernel_rfl
def f63.run (I : Inp) : SF := fun call n => Ap.ar (f63.e I call (f63.J I call n))
theorem f63.ok (I : Inp) (F : Nat → Option AFn) (hF : F 63 = some (.code c63)) : SfOk P I F 63 (f63.run I) := okOf hF (by kernel_rfl) (fun _ => f63.S) fun call n => f63.qe
theorem f63.lim (hp : prims 63 = none) {v0 v1 : AVal} (hr : Res (f63.e I (AM.lim ⟨P, I, genF P prims⟩) (f63.J I (AM.lim ⟨P, I, genF P prims⟩) n) v0 v1 h) Q) : Res ((AM.lim ⟨P, I, genF P prims⟩) 63 [v0, v1] h) Q := limOf (n := n) hp f63.code (f63.ok I) hr rfl
/-! haruspex/flow.compare -/
def c87 : AFunc := cOf P 87
abbrev f87.Js : Type := Unit
def f87.e (I : Inp) (call : CallFn) (j : f87.Js) (v0 v1 : AVal) (h : AHeap) : Rs :=
  bnd (sBox v0 h) fun v2 h1 =>
  bnd (sBox v1 h1) fun v3 h2 =>
  kF 0 v2 fun v5 =>
  kL I v5 h2 fun v6 =>
  kF 0 v3 fun v7 =>
  kL I v7 h2 fun v8 =>
  kC call 63 [v6, v8] h2 fun v9 h3 =>
  kF 1 v2 fun v10 =>
  kL I v10 h3 fun v11 =>
  kF 1 v3 fun v12 =>
  kL I v12 h3 fun v13 =>
  kC call 63 [v11, v13] h3 fun v14 h4 =>
  kF 2 v2 fun v15 =>
  kL I v15 h4 fun v16 =>
  kF 2 v3 fun v17 =>
  kL I v17 h4 fun v18 =>
  kC call 63 [v16, v18] h4 fun v19 h5 =>
  kF 3 v2 fun v20 =>
  kF 0 v20 fun v21 =>
  kL I v21 h5 fun v22 =>
  kF 3 v3 fun v23 =>
  kF 0 v23 fun v24 =>
  kL I v24 h5 fun v25 =>
  kC call 63 [v22, v25] h5 fun v26 h6 =>
  kF 3 v2 fun v27 =>
  kF 1 v27 fun v28 =>
  kL I v28 h6 fun v29 =>
  kF 3 v3 fun v30 =>
  kF 1 v30 fun v31 =>
  kL I v31 h6 fun v32 =>
  kC call 63 [v29, v32] h6 fun v33 h7 =>
  bnd (sBuildSlice [(Z 0)] 5 [(0, 1, v9), (1, 1, v14), (2, 1, v19), (3, 1, v26), (4, 1, v33)] h7) fun v34 h8 =>
  kC call 62 [v34] h8 fun v35 h9 =>
  sCheck (sSame (lift (pLoad1 I v10 h2) h2) v11 && true) (
  sCheck (sSame (lift (pLoad1 I v12 h2) h2) v13 && true) (
  sCheck (sSame (lift (pLoad1 I v15 h2) h2) v16 && (sSame (lift (pLoad1 I v15 h3) h3) v16 && true)) (
  sCheck (sSame (lift (pLoad1 I v17 h2) h2) v18 && (sSame (lift (pLoad1 I v17 h3) h3) v18 && true)) (
  sCheck (sSame (lift (pLoad1 I v21 h2) h2) v22 && (sSame (lift (pLoad1 I v21 h3) h3) v22 && (sSame (lift (pLoad1 I v21 h4) h4) v22 && true))) (
  sCheck (sSame (lift (pLoad1 I v24 h2) h2) v25 && (sSame (lift (pLoad1 I v24 h3) h3) v25 && (sSame (lift (pLoad1 I v24 h4) h4) v25 && true))) (
  sCheck (sSame (lift (pLoad1 I v28 h2) h2) v29 && (sSame (lift (pLoad1 I v28 h3) h3) v29 && (sSame (lift (pLoad1 I v28 h4) h4) v29 && (sSame (lift (pLoad1 I v28 h5) h5) v29 && true)))) (
  sCheck (sSame (lift (pLoad1 I v31 h2) h2) v32 && (sSame (lift (pLoad1 I v31 h3) h3) v32 && (sSame (lift (pLoad1 I v31 h4) h4) v32 && (sSame (lift (pLoad1 I v31 h5) h5) v32 && true)))) (
  some (v35, h9)))))))))
theorem f87.S : SFn ⟨P, I, F⟩ call c87 (fun _ => jmp []) := .all 0 (by kernel_rfl) (fun ρ h => by kernel_rfl) (fun n ρ h => by kernel_rfl)
theorem f87.qe : Ap.all (f87.e I call ()) (fun l h => execC P I call (jmp []) c87.body 0 (finV I c87.results) (argV l) h) := fun v0 v1 h => by kernel_rfl
theorem f87.code : codeOf P 87 = some c87 := by kernel_rfl
def f87.run (I : Inp) : SF := fun call n => Ap.ar (f87.e I call ())
theorem f87.ok (I : Inp) (F : Nat → Option AFn) (hF : F 87 = some (.code c87)) : SfOk P I F 87 (f87.run I) := okOf hF (by kernel_rfl) (fun _ => f87.S) fun call n => f87.qe
theorem f87.lim (hp : prims 87 = none) {n : Nat} {v0 v1 : AVal} (hr : Res (f87.e I (AM.lim ⟨P, I, genF P prims⟩) () v0 v1 h) Q) : Res ((AM.lim ⟨P, I, genF P prims⟩) 87 [v0, v1] h) Q := limOf (n := n) hp f87.code (f87.ok I) hr rfl
/-! (*haruspex/solve.Solution).Edges$1 -/
def c100 : AFunc := cOf P 100
abbrev f100.Js : Type := Unit
def f100.e (I : Inp) (call : CallFn) (j : f100.Js) (v0 v1 : AVal) (h : AHeap) : Rs :=
  bnd (sBox v0 h) fun v2 h1 =>
  bnd (sBox v1 h1) fun v3 h2 =>
  kF 0 v2 fun v5 =>
  kL I v5 h2 fun v6 =>
  kF 0 v3 fun v7 =>
  kL I v7 h2 fun v8 =>
  kC call 63 [v6, v8] h2 fun v9 h3 =>
  kF 1 v2 fun v10 =>
  kL I v10 h3 fun v11 =>
  kF 1 v3 fun v12 =>
  kL I v12 h3 fun v13 =>
  kC call 63 [v11, v13] h3 fun v14 h4 =>
  bnd (sBuildSlice [(Z 0)] 2 [(0, 1, v9), (1, 1, v14)] h4) fun v15 h5 =>
  kC call 62 [v15] h5 fun v16 h6 =>
  sCheck (sSame (lift (pLoad1 I v10 h2) h2) v11 && true) (
  sCheck (sSame (lift (pLoad1 I v12 h2) h2) v13 && true) (
  some (v16, h6)))
theorem f100.S : SFn ⟨P, I, F⟩ call c100 (fun _ => jmp []) := .all 0 (by kernel_rfl) (fun ρ h => by kernel_rfl) (fun n ρ h => by kernel_rfl)
theorem f100.qe : Ap.all (f100.e I call ()) (fun l h => execC P I call (jmp []) c100.body 0 (finV I c100.results) (argV l) h) := fun v0 v1 h => by kernel_rfl
theorem f100.code : codeOf P 100 = some c100 := by kernel_rfl
def f100.run (I : Inp) : SF := fun call n => Ap.ar (f100.e I call ())
theorem f100.ok (I : Inp) (F : Nat → Option AFn) (hF : F 100 = some (.code c100)) : SfOk P I F 100 (f100.run I) := okOf hF (by kernel_rfl) (fun _ => f100.S) fun call n => f100.qe
theorem f100.lim (hp : prims 100 = none) {n : Nat} {v0 v1 : AVal} (hr : Res (f100.e I (AM.lim ⟨P, I, genF P prims⟩) () v0 v1 h) Q) : Res ((AM.lim ⟨P, I, genF P prims⟩) 100 [v0, v1] h) Q := limOf (n := n) hp f100.code (f100.ok I) hr rfl
/-! cmp.isNaN[int] -/
def c114 : AFunc := cOf P 114
abbrev f114.Js : Type := Unit
def f114.e (I : Inp) (call : CallFn) (j : f114.Js) (v0 : AVal) (h : AHeap) : Rs :=
  kB .neq v0 v0 fun v5 =>
  some (v5, h)
theorem f114.S : SFn ⟨P, I, F⟩ call c114 (fun _ => jmp []) := .all 0 (by kernel_rfl) (fun ρ h => by kernel_rfl) (fun n ρ h => by kernel_rfl)
theorem f114.qe : Ap.all (f114.e I call ()) (fun l h => execC P I call (jmp []) c114.body 0 (finV I c114.results) (argV l) h) := fun v0 h => by kernel_rfl
theorem f114.code : codeOf P 114 = some c114 := by kernel_rfl
def f114.run (I : Inp) : SF := fun call n => Ap.ar (f114.e I call ())
theorem f114.ok (I : Inp) (F : Nat → Option AFn) (hF : F 114 = some (.code c114)) : SfOk P I F 114 (f114.run I) := okOf hF (by kernel_rfl) (fun _ => f114.S) fun call n => f114.qe
theorem f114.lim (hp : prims 114 = none) {n : Nat} {v0 : AVal} (hr : Res (f114.e I (AM.lim ⟨P, I, genF P prims⟩) () v0 h) Q) : Res ((AM.lim ⟨P, I, genF P prims⟩) 114 [v0] h) Q := limOf (n := n) hp f114.code (f114.ok I) hr rfl
/-! haruspex/memory.sorted$1 -/
def c230 : AFunc := cOf P 230
abbrev f230.Js : Type := Unit
def f230.e (I : Inp) (call : CallFn) (j : f230.Js) (v0 v1 : AVal) (h : AHeap) : Rs :=
  bnd (sBox v0 h) fun v2 h1 =>
  bnd (sBox v1 h1) fun v3 h2 =>
  kF 0 v2 fun v5 =>
  kL I v5 h2 fun v6 =>
  kF 0 v3 fun v7 =>
  kL I v7 h2 fun v8 =>
  kC call 63 [v6, v8] h2 fun v9 h3 =>
  kF 1 v2 fun v10 =>
  kL I v10 h3 fun v11 =>
  kF 1 v3 fun v12 =>
  kL I v12 h3 fun v13 =>
  kC call 63 [v11, v13] h3 fun v14 h4 =>
  bnd (sBuildSlice [(Z 0)] 2 [(0, 1, v9), (1, 1, v14)] h4) fun v15 h5 =>
  kC call 62 [v15] h5 fun v16 h6 =>
  sCheck (sSame (lift (pLoad1 I v10 h2) h2) v11 && true) (
  sCheck (sSame (lift (pLoad1 I v12 h2) h2) v13 && true) (
  some (v16, h6)))
theorem f230.S : SFn ⟨P, I, F⟩ call c230 (fun _ => jmp []) := .all 0 (by kernel_rfl) (fun ρ h => by kernel_rfl) (fun n ρ h => by kernel_rfl)
theorem f230.qe : Ap.all (f230.e I call ()) (fun l h => execC P I call (jmp []) c230.body 0 (finV I c230.results) (argV l) h) := fun v0 v1 h => by kernel_rfl
theorem f230.code : codeOf P 230 = some c230 := by kernel_rfl
def f230.run (I : Inp) : SF := fun call n => Ap.ar (f230.e I call ())
theorem f230.ok (I : Inp) (F : Nat → Option AFn) (hF : F 230 = some (.code c230)) : SfOk P I F 230 (f230.run I) := okOf hF (by kernel_rfl) (fun _ => f230.S) fun call n => f230.qe
theorem f230.lim (hp : prims 230 = none) {n : Nat} {v0 v1 : AVal} (hr : Res (f230.e I (AM.lim ⟨P, I, genF P prims⟩) () v0 v1 h) Q) : Res ((AM.lim ⟨P, I, genF P prims⟩) 230 [v0, v1] h) Q := limOf (n := n) hp f230.code (f230.ok I) hr rfl
/-! haruspex/nilness.Sort$1 -/
def c253 : AFunc := cOf P 253
abbrev f253.Js : Type := A0
def f253.b0 (I : Inp) (call : CallFn) (j : f253.Js) (h : AHeap) : Rs :=
  some ((Z 0), h)
def f253.e (I : Inp) (call : CallFn) (j : f253.Js) (v0 v1 : AVal) (h : AHeap) : Rs :=
  bnd (sBox v0 h) fun v2 h1 =>
  bnd (sBox v1 h1) fun v3 h2 =>
  kM I 5 v2 h2 fun v6 =>
  kM I 5 v3 h2 fun v7 =>
  kC call 254 [v6, v7] h2 fun v8 h3 =>
  sCond v8 (
  kM I 5 v3 h3 fun v10 =>
  kM I 5 v2 h3 fun v11 =>
  kC call 254 [v10, v11] h3 fun v12 h4 =>
  sCond v12 (
  j h4) (
  some ((Z 1), h4))) (
  some ((.int .i64 (.negSucc 0)), h3))
def f253.J (I : Inp) (call : CallFn) (n : Nat) : f253.Js :=
  Nat.rec (motive := fun _ => f253.Js) Zr.z (fun _ j => f253.b0 I call j) n
theorem f253.n0 : (f253.J I call (n + 1)) = f253.b0 I call (f253.J I call n) := nrfl
def f253.JS (I : Inp) (call : CallFn) (n : Nat) : Jmp := (fun j : f253.Js => jmp [Ap.ap j []]) (f253.J I call n)
theorem f253.S : SFn ⟨P, I, F⟩ call c253 (f253.JS I call) := .all 1 (by kernel_rfl) (fun ρ h => by kernel_rfl) (fun n ρ h => by kernel_rfl)
theorem f253.qe : Ap.all (f253.e I call (f253.J I call n)) (fun l h => execC P I call (f253.JS I call n) c253.body 0 (finV I c253.results) (argV l) h) := fun v0 v1 h => by kernel_rfl
theorem f253.code : codeOf P 253 = some c253 := by kernel_rfl
def f253.run (I : Inp) : SF := fun call n => Ap.ar (f253.e I call (f253.J I call n))
theorem f253.ok (I : Inp) (F : Nat → Option AFn) (hF : F 253 = some (.code c253)) : SfOk P I F 253 (f253.run I) := okOf hF (by kernel_rfl) (fun _ => f253.S) fun call n => f253.qe
theorem f253.lim (hp : prims 253 = none) {v0 v1 : AVal} (hr : Res (f253.e I (AM.lim ⟨P, I, genF P prims⟩) (f253.J I (AM.lim ⟨P, I, genF P prims⟩) n) v0 v1 h) Q) : Res ((AM.lim ⟨P, I, genF P prims⟩) 253 [v0, v1] h) Q := limOf (n := n) hp f253.code (f253.ok I) hr rfl
/-! haruspex/flow.Less -/
def c254 : AFunc := cOf P 254
abbrev f254.Js : Type := Unit
def f254.e (I : Inp) (call : CallFn) (j : f254.Js) (v0 v1 : AVal) (h : AHeap) : Rs :=
  bnd (sBox v0 h) fun v2 h1 =>
  bnd (sBox v1 h1) fun v3 h2 =>
  kM I 5 v2 h2 fun v5 =>
  kM I 5 v3 h2 fun v6 =>
  kC call 87 [v5, v6] h2 fun v7 h3 =>
  kB .lss v7 (Z 0) fun v8 =>
  some (v8, h3)
theorem f254.S : SFn ⟨P, I, F⟩ call c254 (fun _ => jmp []) := .all 0 (by kernel_rfl) (fun ρ h => by kernel_rfl) (fun n ρ h => by kernel_rfl)
theorem f254.qe : Ap.all (f254.e I call ()) (fun l h => execC P I call (jmp []) c254.body 0 (finV I c254.results) (argV l) h) := fun v0 v1 h => by kernel_rfl
theorem f254.code : codeOf P 254 = some c254 := by kernel_rfl
def f254.run (I : Inp) : SF := fun call n => Ap.ar (f254.e I call ())
theorem f254.ok (I : Inp) (F : Nat → Option AFn) (hF : F 254 = some (.code c254)) : SfOk P I F 254 (f254.run I) := okOf hF (by kernel_rfl) (fun _ => f254.S) fun call n => f254.qe
theorem f254.lim (hp : prims 254 = none) {n : Nat} {v0 v1 : AVal} (hr : Res (f254.e I (AM.lim ⟨P, I, genF P prims⟩) () v0 v1 h) Q) : Res ((AM.lim ⟨P, I, genF P prims⟩) 254 [v0, v1] h) Q := limOf (n := n) hp f254.code (f254.ok I) hr rfl
/-! haruspex/modref.sorted$1 -/
def c313 : AFunc := cOf P 313
abbrev f313.Js : Type := Unit
def f313.e (I : Inp) (call : CallFn) (j : f313.Js) (v0 v1 : AVal) (h : AHeap) : Rs :=
  bnd (sBox v0 h) fun v2 h1 =>
  bnd (sBox v1 h1) fun v3 h2 =>
  kF 0 v2 fun v5 =>
  kL I v5 h2 fun v6 =>
  kF 0 v3 fun v7 =>
  kL I v7 h2 fun v8 =>
  kC call 63 [v6, v8] h2 fun v9 h3 =>
  kF 1 v2 fun v10 =>
  kL I v10 h3 fun v11 =>
  kF 1 v3 fun v12 =>
  kL I v12 h3 fun v13 =>
  kC call 63 [v11, v13] h3 fun v14 h4 =>
  bnd (sBuildSlice [(Z 0)] 2 [(0, 1, v9), (1, 1, v14)] h4) fun v15 h5 =>
  kC call 62 [v15] h5 fun v16 h6 =>
  sCheck (sSame (lift (pLoad1 I v10 h2) h2) v11 && true) (
  sCheck (sSame (lift (pLoad1 I v12 h2) h2) v13 && true) (
  some (v16, h6)))
theorem f313.S : SFn ⟨P, I, F⟩ call c313 (fun _ => jmp []) := .all 0 (by kernel_rfl) (fun ρ h => by kernel_rfl) (fun n ρ h => by kernel_rfl)
theorem f313.qe : Ap.all (f313.e I call ()) (fun l h => execC P I call (jmp []) c313.body 0 (finV I c313.results) (argV l) h) := fun v0 v1 h => by kernel_rfl
theorem f313.code : codeOf P 313 = some c313 := by kernel_rfl
def f313.run (I : Inp) : SF := fun call n => Ap.ar (f313.e I call ())
theorem f313.ok (I : Inp) (F : Nat → Option AFn) (hF : F 313 = some (.code c313)) : SfOk P I F 313 (f313.run I) := okOf hF (by kernel_rfl) (fun _ => f313.S) fun call n => f313.qe
theorem f313.lim (hp : prims 313 = none) {n : Nat} {v0 v1 : AVal} (hr : Res (f313.e I (AM.lim ⟨P, I, genF P prims⟩) () v0 v1 h) Q) : Res ((AM.lim ⟨P, I, genF P prims⟩) 313 [v0, v1] h) Q := limOf (n := n) hp f313.code (f313.ok I) hr rfl
end
end Go.Proofs.YtdlceoefjoljnaaGreatDoor.Sg
