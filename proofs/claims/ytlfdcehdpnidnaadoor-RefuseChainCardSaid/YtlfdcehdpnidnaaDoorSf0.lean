/- The functions of the program by their labels, on values, part 0: what they compute the abstract machine computes. Conditions: none. -/
import Derived.Test.YtlfdcehdpnidnaaDoorAmZ
import Derived.Test.YtlfdcehdpnidnaaDoorProg
namespace Go.Proofs.YtlfdcehdpnidnaaDoor.Sf
open Go.AM
set_option linter.unusedVariables false
noncomputable section
noncomputable abbrev P : Program := Tryd.prog
variable {I : Inp} {F : Nat → Option AFn} {call : CallFn} {prims : Nat → Option Prim} {n : Nat} {h : AHeap} {Q : AVal → AHeap → Prop}
/-! haruspex/haruspexlaw4.RefuseChain -/
def c4 : AFunc := cOf P 4
abbrev f4.Js : Type := (((A2 × A2) × (A5 × A4)) × ((A5 × A7) × (A8 × (A8 × A8))))
def f4.b0 (I : Inp) (call : CallFn) (j : f4.Js) (v0 v1 : AVal) (h : AHeap) : Rs :=
  kZ v0 fun v18 =>
  kB .gtr v18 (Z 8) fun v19 =>
  sCond v19 (
  j.1.1.2 v0 v1 h) (
  bndP (pSliceS 6 v0 none (some (Z 8)) none) fun v21 =>
  j.1.1.2 v21 v1 h)
def f4.b1 (I : Inp) (call : CallFn) (j : f4.Js) (v0 v1 : AVal) (h : AHeap) : Rs :=
  kC call 12 [v0] h fun v24 h1 =>
  kX v24 0 fun v25 =>
  kX v24 1 fun v26 =>
  kX v24 2 fun v27 =>
  kZ v0 fun v29 =>
  kB .eql v29 (Z 0) fun v30 =>
  sCond v30 (
  j.1.2.1 v0 v1 v25 v26 v27 h1) (
  kC call 13 [.nili] h1 fun v31 h2 =>
  kB .eql v31 (Z 0) fun v32 =>
  gS v32 .true (call 14 [.nili] h2) h2 fun v34 h3 =>
  gP v32 .true (pLenSl v34) h3 fun v35 h4 =>
  gP v32 .true (pBin .eql v35 (Z 0)) h4 fun v36 h5 =>
  kP v32 v36 bF fun v37 =>
  some (v37, h5))
def f4.b2 (I : Inp) (call : CallFn) (j : f4.Js) (v0 v1 v6 v7 v8 : AVal) (h : AHeap) : Rs :=
  bndP (pEq P .false .iface .true v6 .nili h) fun v39 =>
  gV v39 .false v6 h fun v41 h1 =>
  gS v39 .false (call 14 [v41] h1) h1 fun v42 h2 =>
  gV v39 .false v8 h2 fun v43 h3 =>
  gS v39 .false (call 15 [v42, v43] h3) h3 fun v44 h4 =>
  gP v39 .false (pUn .not v44) h4 fun v45 h5 =>
  kP v39 bT v45 fun v46 =>
  gV v46 .false v1 h5 fun v48 h6 =>
  gS v46 .false (call 16 [v48] h6) h6 fun v49 h7 =>
  gV v46 .false v1 h7 fun v50 h8 =>
  gS v46 .false (call 17 [v50] h8) h8 fun v51 h9 =>
  gP v46 .false (pBin .neq v49 v51) h9 fun v52 h10 =>
  kP v46 bT v52 fun v53 =>
  sCond v53 (
  j.1.2.2 v0 v6 v7 v8 h10) (
  some (bF, h10))
def f4.b3 (I : Inp) (call : CallFn) (j : f4.Js) (v0 v6 v7 v8 : AVal) (h : AHeap) : Rs :=
  kA [.nilp] h fun v9 h1 =>
  kC call 18 [v6, (.iface 44 v9)] h1 fun v56 h2 =>
  gP v56 .true (pLoad1 I v9 h2) h2 fun v59 h3 =>
  gS v56 .true (call 9 [v59] h3) h3 fun v60 h4 =>
  gV v56 .true v7 h4 fun v61 h5 =>
  gP v56 .true (pBin .neq v60 v61) h5 fun v62 h6 =>
  kP v56 v62 bF fun v63 =>
  sCond v63 (
  j.2.1.1 v0 v6 v8 v9 v56 h6) (
  some (bF, h6))
def f4.b4 (I : Inp) (call : CallFn) (j : f4.Js) (v0 v6 v8 v9 v10 : AVal) (h : AHeap) : Rs :=
  kC call 7 [v6] h fun v66 h1 =>
  kX v66 0 fun v67 =>
  kX v66 1 fun v68 =>
  kA [(Z 0), (Z 0), (Z 0)] h1 fun v11 h2 =>
  kS 3 v11 v67 h2 fun _ h3 =>
  kZ v8 fun v70 =>
  kB .eql v70 (Z 0) fun v71 =>
  sCond v71 (
  j.2.1.2 v0 v6 v8 v9 v10 v11 v68 h3) (
  kU .not v10 fun v73 =>
  gV v73 .true v6 h3 fun v75 h4 =>
  gS v73 .true (call 13 [v75] h4) h4 fun v76 h5 =>
  gP v73 .true (pBin .eql v76 (Z 0)) h5 fun v77 h6 =>
  kP v73 v77 bF fun v78 =>
  gV v78 .true v68 h6 fun v80 h7 =>
  gP v78 .true (pUn .not v80) h7 fun v81 h8 =>
  kP v78 v81 bF fun v82 =>
  some (v82, h8))
def f4.b5 (I : Inp) (call : CallFn) (j : f4.Js) (v0 v6 v8 v9 v10 v11 v12 : AVal) (h : AHeap) : Rs :=
  j.2.2.2.1 v0 v6 v8 v9 v10 v11 v12 (Z 0) h
def f4.b6 (I : Inp) (call : CallFn) (j : f4.Js) (v0 v6 v8 v9 v10 v11 v12 v13 : AVal) (h : AHeap) : Rs :=
  gP v10 .true (pLoad1 I v9 h) h fun v92 h1 =>
  gP v10 .true (pNilCheck v92) h1 fun v93 h2 =>
  gP v10 .true (pFieldAddr 0 v93) h2 fun v94 h3 =>
  gP v10 .true (pLoad1 I v94 h3) h3 fun v95 h4 =>
  gV v10 .true v8 h4 fun v96 h5 =>
  gP v10 .true (pIndexAddr 1 v96 (Z 0)) h5 fun v97 h6 =>
  gP v10 .true (pLoad1 I v97 h6) h6 fun v98 h7 =>
  gP v10 .true (pBin .eql v95 v98) h7 fun v99 h8 =>
  kP v10 v99 bF fun v100 =>
  gV v100 .true v6 h8 fun v102 h9 =>
  gS v100 .true (call 13 [v102] h9) h9 fun v103 h10 =>
  gV v100 .true v8 h10 fun v104 h11 =>
  gP v100 .true (pIndexAddr 1 v104 (Z 0)) h11 fun v105 h12 =>
  gP v100 .true (pLoad1 I v105 h12) h12 fun v106 h13 =>
  gP v100 .true (pBin .eql v103 v106) h13 fun v107 h14 =>
  kP v100 v107 bF fun v108 =>
  gV v108 .true v12 h14 fun v110 h15 =>
  gV v108 .true v0 h15 fun v111 h16 =>
  gV v108 .true v13 h16 fun v112 h17 =>
  gP v108 .true (pIndexAddr 6 v111 v112) h17 fun v113 h18 =>
  gP v108 .true (pFieldAddr 1 v113) h18 fun v114 h19 =>
  gP v108 .true (pFieldAddr 0 v114) h19 fun v115 h20 =>
  gP v108 .true (pLoad1 I v115 h20) h20 fun v116 h21 =>
  gP v108 .true (pBin .geq v116 (Z 0)) h21 fun v117 h22 =>
  gP v108 .true (pEq P .false .bool .false v110 v117 h22) h22 fun v118 h23 =>
  kP v108 v118 bF fun v119 =>
  gV v119 .true v12 h23 fun v121 h24 =>
  gP v119 .true (pUn .not v121) h24 fun v122 h25 =>
  gV v119 .true v122 h25 fun v123 h26 =>
  gP v123 .false (pFieldAddr 0 v11) h26 fun v124 h27 =>
  gP v123 .false (pLoad1 I v124 h27) h27 fun v125 h28 =>
  gV v123 .false v0 h28 fun v126 h29 =>
  gV v123 .false v13 h29 fun v127 h30 =>
  gP v123 .false (pIndexAddr 6 v126 v127) h30 fun v128 h31 =>
  gP v123 .false (pFieldAddr 1 v128) h31 fun v129 h32 =>
  gP v123 .false (pFieldAddr 0 v129) h32 fun v130 h33 =>
  gP v123 .false (pLoad1 I v130 h33) h33 fun v131 h34 =>
  gP v123 .false (pBin .eql v125 v131) h34 fun v132 h35 =>
  gV v123 .false v132 h35 fun v133 h36 =>
  gP v133 .true (pFieldAddr 1 v11) h36 fun v134 h37 =>
  gP v133 .true (pLoad1 I v134 h37) h37 fun v135 h38 =>
  gV v133 .true v0 h38 fun v136 h39 =>
  gV v133 .true v13 h39 fun v137 h40 =>
  gP v133 .true (pIndexAddr 6 v136 v137) h40 fun v138 h41 =>
  gP v133 .true (pFieldAddr 1 v138) h41 fun v139 h42 =>
  gP v133 .true (pFieldAddr 1 v139) h42 fun v140 h43 =>
  gP v133 .true (pLoad1 I v140 h43) h43 fun v141 h44 =>
  gP v133 .true (pBin .eql v135 v141) h44 fun v142 h45 =>
  gP v123 .false (pPick v133 v142 bF) h45 fun v143 h46 =>
  gV v123 .false v143 h46 fun v144 h47 =>
  gP v144 .true (pFieldAddr 2 v11) h47 fun v145 h48 =>
  gP v144 .true (pLoad1 I v145 h48) h48 fun v146 h49 =>
  gV v144 .true v0 h49 fun v147 h50 =>
  gV v144 .true v13 h50 fun v148 h51 =>
  gP v144 .true (pIndexAddr 6 v147 v148) h51 fun v149 h52 =>
  gP v144 .true (pFieldAddr 1 v149) h52 fun v150 h53 =>
  gP v144 .true (pFieldAddr 2 v150) h53 fun v151 h54 =>
  gP v144 .true (pLoad1 I v151 h54) h54 fun v152 h55 =>
  gP v144 .true (pBin .eql v146 v152) h55 fun v153 h56 =>
  gP v123 .false (pPick v144 v153 bF) h56 fun v154 h57 =>
  gP v119 .true (pPick v123 bT v154) h57 fun v155 h58 =>
  kP v119 v155 bF fun v156 =>
  sCheck (sSame (sGuard v100 .true (lift (pLoad1 I v105 h) h) h) v106 && true) (
  some (v156, h58))
def f4.b7 (I : Inp) (call : CallFn) (j : f4.Js) (v0 v6 v8 v9 v10 v11 v12 v13 : AVal) (h : AHeap) : Rs :=
  kI 6 v0 v13 fun v85 =>
  kF 4 v85 fun v86 =>
  kL I v86 h fun v87 =>
  sCond v87 (
  j.2.2.1 v0 v6 v8 v9 v10 v11 v12 v13 h) (
  j.2.2.2.2 v0 v6 v8 v9 v10 v11 v12 v13 h)
def f4.b8 (I : Inp) (call : CallFn) (j : f4.Js) (v0 v6 v8 v9 v10 v11 v12 v13 : AVal) (h : AHeap) : Rs :=
  kB .add v13 (Z 1) fun v89 =>
  j.2.2.2.1 v0 v6 v8 v9 v10 v11 v12 v89 h
def f4.e (I : Inp) (call : CallFn) (j : f4.Js) (v0 v1 : AVal) (h : AHeap) : Rs :=
  kC call 8 [] h fun v14 h1 =>
  kU .not v14 fun v16 =>
  sCond v16 (
  j.1.1.1 v0 v1 h1) (
  some (bF, h1))
def f4.J (I : Inp) (call : CallFn) (n : Nat) : f4.Js :=
  Nat.rec (motive := fun _ => f4.Js) (((Zr.z, Zr.z), (Zr.z, Zr.z)), ((Zr.z, Zr.z), (Zr.z, (Zr.z, Zr.z)))) (fun _ j => (((f4.b0 I call j, f4.b1 I call j), (f4.b2 I call j, f4.b3 I call j)), ((f4.b4 I call j, f4.b5 I call j), (f4.b6 I call j, (f4.b7 I call j, f4.b8 I call j))))) n
theorem f4.n0 : (f4.J I call (n + 1)).1.1.1 = f4.b0 I call (f4.J I call n) := nrfl
theorem f4.n1 : (f4.J I call (n + 1)).1.1.2 = f4.b1 I call (f4.J I call n) := nrfl
theorem f4.n2 : (f4.J I call (n + 1)).1.2.1 = f4.b2 I call (f4.J I call n) := nrfl
theorem f4.n3 : (f4.J I call (n + 1)).1.2.2 = f4.b3 I call (f4.J I call n) := nrfl
theorem f4.n4 : (f4.J I call (n + 1)).2.1.1 = f4.b4 I call (f4.J I call n) := nrfl
theorem f4.n5 : (f4.J I call (n + 1)).2.1.2 = f4.b5 I call (f4.J I call n) := nrfl
theorem f4.n6 : (f4.J I call (n + 1)).2.2.1 = f4.b6 I call (f4.J I call n) := nrfl
theorem f4.n7 : (f4.J I call (n + 1)).2.2.2.1 = f4.b7 I call (f4.J I call n) := nrfl
theorem f4.n8 : (f4.J I call (n + 1)).2.2.2.2 = f4.b8 I call (f4.J I call n) := nrfl
def f4.JS (I : Inp) (call : CallFn) (n : Nat) : Jmp := (fun j : f4.Js => jmp [Ap.ap j.1.1.1 [0, 1], Ap.ap j.1.1.2 [0, 1], Ap.ap j.1.2.1 [0, 1, 6, 7, 8], Ap.ap j.1.2.2 [0, 6, 7, 8], Ap.ap j.2.1.1 [0, 6, 8, 9, 10], Ap.ap j.2.1.2 [0, 6, 8, 9, 10, 11, 12], Ap.ap j.2.2.1 [0, 6, 8, 9, 10, 11, 12, 13], Ap.ap j.2.2.2.1 [0, 6, 8, 9, 10, 11, 12, 13], Ap.ap j.2.2.2.2 [0, 6, 8, 9, 10, 11, 12, 13]]) (f4.J I call n)
theorem f4.S : SFn ⟨P, I, F⟩ call c4 (f4.JS I call) := .all 9 (by kernel_rfl) (fun ρ h => by kernel_rfl) (fun n ρ h => by kernel_rfl)
theorem f4.qe : Ap.all (f4.e I call (f4.J I call n)) (fun l h => execC P I call (f4.JS I call n) c4.body 0 (finV I c4.results) (argV l) h) := fun v0 v1 h => by kernel_rfl
theorem f4.code : codeOf P 4 = some c4 := by kernel_rfl
def f4.run (I : Inp) : SF := fun call n => Ap.ar (f4.e I call (f4.J I call n))
theorem f4.ok (I : Inp) (F : Nat → Option AFn) (hF : F 4 = some (.code c4)) : SfOk P I F 4 (f4.run I) := okOf hF (by kernel_rfl) (fun _ => f4.S) fun call n => f4.qe
theorem f4.lim (hp : prims 4 = none) {v0 v1 : AVal} (hr : Res (f4.e I (AM.lim ⟨P, I, genF P prims⟩) (f4.J I (AM.lim ⟨P, I, genF P prims⟩) n) v0 v1 h) Q) : Res ((AM.lim ⟨P, I, genF P prims⟩) 4 [v0, v1] h) Q := limOf (n := n) hp f4.code (f4.ok I) hr rfl
/-! haruspex/haruspexlaw4.RefuseIs -/
def c5 : AFunc := cOf P 5
abbrev f5.Js : Type := (A2 × A2)
def f5.b0 (I : Inp) (call : CallFn) (j : f5.Js) (v0 v1 : AVal) (h : AHeap) : Rs :=
  kZ v0 fun v16 =>
  kB .gtr v16 (Z 8) fun v17 =>
  sCond v17 (
  j.2 v0 v1 h) (
  bndP (pSliceS 6 v0 none (some (Z 8)) none) fun v19 =>
  j.2 v19 v1 h)
def f5.b1 (I : Inp) (call : CallFn) (j : f5.Js) (v0 v1 : AVal) (h : AHeap) : Rs :=
  kC call 12 [v0] h fun v22 h1 =>
  kX v22 0 fun v23 =>
  kX v22 1 fun v24 =>
  kX v22 2 fun v25 =>
  bndP (pBuild [(Z 0), (Z 0), (Z 0), (Z 0), .nili] []) fun v27 =>
  bnd (sBox v27 h1) fun v28 h2 =>
  kC call 19 [v23, (.iface 22 v28)] h2 fun v30 h3 =>
  bndP (pBuild [(Z 0), (Z 0), (Z 0), (Z 0), .nili] [(0, 1, v1)]) fun v33 =>
  bnd (sBox v33 h3) fun v34 h4 =>
  kC call 19 [v23, (.iface 22 v34)] h4 fun v36 h5 =>
  kC call 20 [v25, v1] h5 fun v39 h6 =>
  gV v39 .false v1 h6 fun v41 h7 =>
  gP v39 .false (pBin .eql v41 (Z 0)) h7 fun v42 h8 =>
  gV v39 .false v42 h8 fun v43 h9 =>
  gV v43 .true v25 h9 fun v44 h10 =>
  gP v43 .true (pLenSl v44) h10 fun v45 h11 =>
  gP v43 .true (pBin .gtr v45 (Z 0)) h11 fun v46 h12 =>
  gP v39 .false (pPick v43 v46 bF) h12 fun v47 h13 =>
  kP v39 bT v47 fun v48 =>
  kZ v25 fun v51 =>
  kB .gtr v51 (Z 0) fun v52 =>
  bndP (pEq P .false .bool .false v30 v52 h13) fun v53 =>
  gV v53 .true v36 h13 fun v55 h14 =>
  gV v53 .true v48 h14 fun v56 h15 =>
  gP v53 .true (pEq P .false .bool .false v55 v56 h15) h15 fun v57 h16 =>
  kP v53 v57 bF fun v58 =>
  gV v58 .true v23 h16 fun v60 h17 =>
  gP v58 .true (pBuild [(.str []), .nili] []) h17 fun v61 h18 =>
  gS v58 .true (sBox v61 h18) h18 fun v62 h19 =>
  gV v58 .true (.iface 50 v62) h19 fun v63 h20 =>
  gS v58 .true (call 19 [v60, v63] h20) h20 fun v64 h21 =>
  gP v58 .true (pUn .not v64) h21 fun v65 h22 =>
  kP v58 v65 bF fun v66 =>
  some (v66, h22)
def f5.e (I : Inp) (call : CallFn) (j : f5.Js) (v0 v1 : AVal) (h : AHeap) : Rs :=
  kC call 8 [] h fun v12 h1 =>
  kU .not v12 fun v14 =>
  sCond v14 (
  j.1 v0 v1 h1) (
  some (bF, h1))
def f5.J (I : Inp) (call : CallFn) (n : Nat) : f5.Js :=
  Nat.rec (motive := fun _ => f5.Js) (Zr.z, Zr.z) (fun _ j => (f5.b0 I call j, f5.b1 I call j)) n
theorem f5.n0 : (f5.J I call (n + 1)).1 = f5.b0 I call (f5.J I call n) := nrfl
theorem f5.n1 : (f5.J I call (n + 1)).2 = f5.b1 I call (f5.J I call n) := nrfl
def f5.JS (I : Inp) (call : CallFn) (n : Nat) : Jmp := (fun j : f5.Js => jmp [Ap.ap j.1 [0, 1], Ap.ap j.2 [0, 1]]) (f5.J I call n)
theorem f5.S : SFn ⟨P, I, F⟩ call c5 (f5.JS I call) := .all 2 (by kernel_rfl) (fun ρ h => by kernel_rfl) (fun n ρ h => by kernel_rfl)
theorem f5.qe : Ap.all (f5.e I call (f5.J I call n)) (fun l h => execC P I call (f5.JS I call n) c5.body 0 (finV I c5.results) (argV l) h) := fun v0 v1 h => by kernel_rfl
theorem f5.code : codeOf P 5 = some c5 := by kernel_rfl
def f5.run (I : Inp) : SF := fun call n => Ap.ar (f5.e I call (f5.J I call n))
theorem f5.ok (I : Inp) (F : Nat → Option AFn) (hF : F 5 = some (.code c5)) : SfOk P I F 5 (f5.run I) := okOf hF (by kernel_rfl) (fun _ => f5.S) fun call n => f5.qe
theorem f5.lim (hp : prims 5 = none) {v0 v1 : AVal} (hr : Res (f5.e I (AM.lim ⟨P, I, genF P prims⟩) (f5.J I (AM.lim ⟨P, I, genF P prims⟩) n) v0 v1 h) Q) : Res ((AM.lim ⟨P, I, genF P prims⟩) 5 [v0, v1] h) Q := limOf (n := n) hp f5.code (f5.ok I) hr rfl
/-! haruspex/haruspexlaw4.RefuseDeep -/
def c6 : AFunc := cOf P 6
abbrev f6.Js : Type := (((A3 × A3) × (A4 × (A5 × A5))) × ((A5 × (A4 × A3)) × (A5 × (A5 × A5))))
def f6.b0 (I : Inp) (call : CallFn) (j : f6.Js) (v0 v1 v5 : AVal) (h : AHeap) : Rs :=
  kB .lss v0 (Z 0) fun v18 =>
  gV v18 .false v0 h fun v20 h1 =>
  gP v18 .false (pBin .gtr v20 (Z 60)) h1 fun v21 h2 =>
  kP v18 bT v21 fun v22 =>
  gV v22 .false v1 h2 fun v24 h3 =>
  gP v22 .false (pBin .lss v24 (Z 1)) h3 fun v25 h4 =>
  kP v22 bT v25 fun v26 =>
  gV v26 .false v1 h4 fun v28 h5 =>
  gP v26 .false (pBin .gtr v28 (Z 7)) h5 fun v29 h6 =>
  kP v26 bT v29 fun v30 =>
  gP v30 .false (pFieldAddr 0 v5) h6 fun v32 h7 =>
  gP v30 .false (pLoad1 I v32 h7) h7 fun v33 h8 =>
  gP v30 .false (pBin .lss v33 (Z 0)) h8 fun v34 h9 =>
  kP v30 bT v34 fun v35 =>
  sCond v35 (
  j.1.1.2 v0 v1 v5 h9) (
  some (bT, h9))
def f6.b1 (I : Inp) (call : CallFn) (j : f6.Js) (v0 v1 v5 : AVal) (h : AHeap) : Rs :=
  kM I 3 v5 h fun v37 =>
  kC call 21 [v1, v37, .nili] h fun v38 h1 =>
  j.1.2.2.1 v0 v1 v5 v38 (Z 0) h1
def f6.b2 (I : Inp) (call : CallFn) (j : f6.Js) (v0 v1 v5 v8 : AVal) (h : AHeap) : Rs :=
  kC call 14 [v8] h fun v48 h1 =>
  kZ v48 fun v50 =>
  kB .add v0 (Z 1) fun v52 =>
  kB .neq v50 v52 fun v53 =>
  gV v53 .false v48 h1 fun v55 h2 =>
  gV v53 .false v0 h2 fun v56 h3 =>
  gP v53 .false (pIndexAddr 1 v55 v56) h3 fun v57 h4 =>
  gP v53 .false (pLoad1 I v57 h4) h4 fun v58 h5 =>
  gV v53 .false v1 h5 fun v59 h6 =>
  gP v53 .false (pBin .neq v58 v59) h6 fun v60 h7 =>
  kP v53 bT v60 fun v61 =>
  gV v61 .false v8 h7 fun v63 h8 =>
  gV v61 .false v1 h8 fun v64 h9 =>
  gP v61 .false (pBuild [(Z 0), (Z 0), (Z 0), (Z 0), .nili] [(0, 1, v64)]) h9 fun v65 h10 =>
  gS v61 .false (sBox v65 h10) h10 fun v66 h11 =>
  gV v61 .false (.iface 22 v66) h11 fun v67 h12 =>
  gS v61 .false (call 19 [v63, v67] h12) h12 fun v68 h13 =>
  gP v61 .false (pUn .not v68) h13 fun v69 h14 =>
  kP v61 bT v69 fun v70 =>
  sCond v70 (
  j.2.1.2.1 v0 v1 v5 v8 h14) (
  some (bF, h14))
def f6.b3 (I : Inp) (call : CallFn) (j : f6.Js) (v0 v1 v5 v8 v9 : AVal) (h : AHeap) : Rs :=
  kB .lss v9 v0 fun v41 =>
  sCond v41 (
  j.1.2.1 v0 v1 v5 v8 h) (
  j.1.2.2.2 v0 v1 v5 v8 v9 h)
def f6.b4 (I : Inp) (call : CallFn) (j : f6.Js) (v0 v1 v5 v8 v9 : AVal) (h : AHeap) : Rs :=
  bndP (pBuild [(Z 0), (Z 0), (Z 0)] [(0, 1, (.int .i64 (.negSucc 0)))]) fun v44 =>
  kC call 21 [(Z 0), v44, v8] h fun v46 h1 =>
  j.2.1.1 v0 v1 v5 v46 v9 h1
def f6.b5 (I : Inp) (call : CallFn) (j : f6.Js) (v0 v1 v5 v8 v9 : AVal) (h : AHeap) : Rs :=
  kB .add v9 (Z 1) fun v43 =>
  j.1.2.2.1 v0 v1 v5 v8 v43 h
def f6.b6 (I : Inp) (call : CallFn) (j : f6.Js) (v0 v1 v5 v8 : AVal) (h : AHeap) : Rs :=
  j.2.2.1 v0 v1 v5 v8 (Z 0) h
def f6.b7 (I : Inp) (call : CallFn) (j : f6.Js) (v1 v5 v8 : AVal) (h : AHeap) : Rs :=
  kC call 7 [v8] h fun v80 h1 =>
  kX v80 0 fun v81 =>
  kX v80 1 fun v82 =>
  kA [(Z 0), (Z 0), (Z 0)] h1 fun v12 h2 =>
  kS 3 v12 v81 h2 fun _ h3 =>
  kC call 13 [v8] h3 fun v84 h4 =>
  kB .eql v84 v1 fun v86 =>
  gV v86 .true v82 h4 fun v88 h5 =>
  kP v86 v88 bF fun v89 =>
  gP v89 .true (pFieldAddr 0 v12) h5 fun v91 h6 =>
  gP v89 .true (pLoad1 I v91 h6) h6 fun v92 h7 =>
  gP v89 .true (pFieldAddr 0 v5) h7 fun v93 h8 =>
  gP v89 .true (pLoad1 I v93 h8) h8 fun v94 h9 =>
  gP v89 .true (pBin .eql v92 v94) h9 fun v95 h10 =>
  kP v89 v95 bF fun v96 =>
  gP v96 .true (pFieldAddr 1 v12) h10 fun v98 h11 =>
  gP v96 .true (pLoad1 I v98 h11) h11 fun v99 h12 =>
  gP v96 .true (pFieldAddr 1 v5) h12 fun v100 h13 =>
  gP v96 .true (pLoad1 I v100 h13) h13 fun v101 h14 =>
  gP v96 .true (pBin .eql v99 v101) h14 fun v102 h15 =>
  kP v96 v102 bF fun v103 =>
  gP v103 .true (pFieldAddr 2 v12) h15 fun v105 h16 =>
  gP v103 .true (pLoad1 I v105 h16) h16 fun v106 h17 =>
  gP v103 .true (pFieldAddr 2 v5) h17 fun v107 h18 =>
  gP v103 .true (pLoad1 I v107 h18) h18 fun v108 h19 =>
  gP v103 .true (pBin .eql v106 v108) h19 fun v109 h20 =>
  kP v103 v109 bF fun v110 =>
  gV v110 .true v8 h20 fun v112 h21 =>
  gS v110 .true (call 22 [v112] h21) h21 fun v113 h22 =>
  gP v110 .true (pEq P .false .iface .true v113 .nili h22) h22 fun v114 h23 =>
  kP v110 v114 bF fun v115 =>
  some (v115, h23)
def f6.b8 (I : Inp) (call : CallFn) (j : f6.Js) (v0 v1 v5 v8 v11 : AVal) (h : AHeap) : Rs :=
  kB .lss v11 v0 fun v73 =>
  sCond v73 (
  j.2.1.2.2 v1 v5 v8 h) (
  j.2.2.2.1 v0 v1 v5 v8 v11 h)
def f6.b9 (I : Inp) (call : CallFn) (j : f6.Js) (v0 v1 v5 v8 v11 : AVal) (h : AHeap) : Rs :=
  kC call 22 [v8] h fun v77 h1 =>
  j.2.2.2.2 v0 v1 v5 v77 v11 h1
def f6.b10 (I : Inp) (call : CallFn) (j : f6.Js) (v0 v1 v5 v8 v11 : AVal) (h : AHeap) : Rs :=
  kB .add v11 (Z 1) fun v75 =>
  j.2.2.1 v0 v1 v5 v8 v75 h
def f6.e (I : Inp) (call : CallFn) (j : f6.Js) (v0 v1 v2 : AVal) (h : AHeap) : Rs :=
  bnd (sBox v2 h) fun v5 h1 =>
  kC call 8 [] h1 fun v14 h2 =>
  kU .not v14 fun v16 =>
  sCond v16 (
  j.1.1.1 v0 v1 v5 h2) (
  some (bF, h2))
def f6.J (I : Inp) (call : CallFn) (n : Nat) : f6.Js :=
  Nat.rec (motive := fun _ => f6.Js) (((Zr.z, Zr.z), (Zr.z, (Zr.z, Zr.z))), ((Zr.z, (Zr.z, Zr.z)), (Zr.z, (Zr.z, Zr.z)))) (fun _ j => (((f6.b0 I call j, f6.b1 I call j), (f6.b2 I call j, (f6.b3 I call j, f6.b4 I call j))), ((f6.b5 I call j, (f6.b6 I call j, f6.b7 I call j)), (f6.b8 I call j, (f6.b9 I call j, f6.b10 I call j))))) n
def f6.JS (I : Inp) (call : CallFn) (n : Nat) : Jmp := (fun j : f6.Js => jmp [Ap.ap j.1.1.1 [0, 1, 5], Ap.ap j.1.1.2 [0, 1, 5], Ap.ap j.1.2.1 [0, 1, 5, 8], Ap.ap j.1.2.2.1 [0, 1, 5, 8, 9], Ap.ap j.1.2.2.2 [0, 1, 5, 8, 9], Ap.ap j.2.1.1 [0, 1, 5, 8, 9], Ap.ap j.2.1.2.1 [0, 1, 5, 8], Ap.ap j.2.1.2.2 [1, 5, 8], Ap.ap j.2.2.1 [0, 1, 5, 8, 11], Ap.ap j.2.2.2.1 [0, 1, 5, 8, 11], Ap.ap j.2.2.2.2 [0, 1, 5, 8, 11]]) (f6.J I call n)
theorem f6.S : SFn ⟨P, I, F⟩ call c6 (f6.JS I call) := .all 11 (by kernel_rfl) (fun ρ h => by kernel_rfl) (fun n ρ h => by kernel_rfl)
theorem f6.qe : Ap.all (f6.e I call (f6.J I call n)) (fun l h => execC P I call (f6.JS I call n) c6.body 0 (finV I c6.results) (argV l) h) := fun v0 v1 v2 h => by kernel_rfl
theorem f6.code : codeOf P 6 = some c6 := by kernel_rfl
def f6.run (I : Inp) : SF := fun call n => Ap.ar (f6.e I call (f6.J I call n))
theorem f6.ok (I : Inp) (F : Nat → Option AFn) (hF : F 6 = some (.code c6)) : SfOk P I F 6 (f6.run I) := okOf hF (by kernel_rfl) (fun _ => f6.S) fun call n => f6.qe
/-! haruspex/refuse.Where -/
def c7 : AFunc := cOf P 7
abbrev f7.Js : Type := A1
def f7.b0 (I : Inp) (call : CallFn) (j : f7.Js) (v2 : AVal) (h : AHeap) : Rs :=
  bndP (pBuild [(Z 0), (Z 0), (Z 0)] []) fun v21 =>
  kS 3 v2 v21 h fun _ h1 =>
  sRet (sCons (sResN I 3 v2 h1) (sCons (some bF) (some []))) h1
def f7.e (I : Inp) (call : CallFn) (j : f7.Js) (v0 : AVal) (h : AHeap) : Rs :=
  kA [(Z 0), (Z 0), (Z 0)] h fun v2 h1 =>
  kC call 23 [v0] h1 fun v6 h2 =>
  bndP (pEq P .true .ptr .true v6 .nilp h2) fun v8 =>
  gV v8 .true v6 h2 fun v10 h3 =>
  gP v8 .true (pNilCheck v10) h3 fun v11 h4 =>
  gP v8 .true (pFieldAddr 1 v11) h4 fun v12 h5 =>
  gP v8 .true (pFieldAddr 0 v12) h5 fun v13 h6 =>
  gP v8 .true (pLoad1 I v13 h6) h6 fun v14 h7 =>
  gP v8 .true (pBin .geq v14 (Z 0)) h7 fun v15 h8 =>
  kP v8 v15 bF fun v16 =>
  sCond v16 (
  j v2 h8) (
  kN v6 fun v18 =>
  kF 1 v18 fun v19 =>
  kM I 3 v19 h8 fun v20 =>
  kS 3 v2 v20 h8 fun _ h9 =>
  sRet (sCons (sResN I 3 v2 h9) (sCons (some bT) (some []))) h9)
def f7.J (I : Inp) (call : CallFn) (n : Nat) : f7.Js :=
  Nat.rec (motive := fun _ => f7.Js) Zr.z (fun _ j => f7.b0 I call j) n
theorem f7.n0 : (f7.J I call (n + 1)) = f7.b0 I call (f7.J I call n) := nrfl
def f7.JS (I : Inp) (call : CallFn) (n : Nat) : Jmp := (fun j : f7.Js => jmp [Ap.ap j [2]]) (f7.J I call n)
theorem f7.S : SFn ⟨P, I, F⟩ call c7 (f7.JS I call) := .all 1 (by kernel_rfl) (fun ρ h => by kernel_rfl) (fun n ρ h => by kernel_rfl)
theorem f7.qe : Ap.all (f7.e I call (f7.J I call n)) (fun l h => execC P I call (f7.JS I call n) c7.body 0 (finV I c7.results) (argV l) h) := fun v0 h => by kernel_rfl
theorem f7.code : codeOf P 7 = some c7 := by kernel_rfl
def f7.run (I : Inp) : SF := fun call n => Ap.ar (f7.e I call (f7.J I call n))
theorem f7.ok (I : Inp) (F : Nat → Option AFn) (hF : F 7 = some (.code c7)) : SfOk P I F 7 (f7.run I) := okOf hF (by kernel_rfl) (fun _ => f7.S) fun call n => f7.qe
theorem f7.lim (hp : prims 7 = none) {v0 : AVal} (hr : Res (f7.e I (AM.lim ⟨P, I, genF P prims⟩) (f7.J I (AM.lim ⟨P, I, genF P prims⟩) n) v0 h) Q) : Res ((AM.lim ⟨P, I, genF P prims⟩) 7 [v0] h) Q := limOf (n := n) hp f7.code (f7.ok I) hr rfl
/-! haruspex/haruspexlaw4.begun -/
def c8 : AFunc := cOf P 8
abbrev f8.Js : Type := (A1 × A4)
def f8.b0 (I : Inp) (call : CallFn) (j : f8.Js) (v1 : AVal) (h : AHeap) : Rs :=
  kC call 7 [v1] h fun v11 h1 =>
  kX v11 0 fun v12 =>
  kX v11 1 fun v13 =>
  kA [(Z 0), (Z 0), (Z 0)] h1 fun v2 h2 =>
  kS 3 v2 v12 h2 fun _ h3 =>
  kA [.nilp] h3 fun v4 h4 =>
  kC call 18 [v1, (.iface 44 v4)] h4 fun v16 h5 =>
  kU .not v16 fun v17 =>
  sCond v17 (
  j.2 v1 v2 v13 v4 h5) (
  some (bF, h5))
def f8.b1 (I : Inp) (call : CallFn) (j : f8.Js) (v1 v2 v3 v4 : AVal) (h : AHeap) : Rs :=
  kL I v4 h fun v18 =>
  kC call 9 [v18] h fun v19 h1 =>
  kB .eql v19 (.str [116, 121, 112, 101, 32, 97, 116, 32, 49, 46, 50, 46, 51]) fun v20 =>
  gV v20 .true v1 h1 fun v22 h2 =>
  gS v20 .true (call 13 [v22] h2) h2 fun v23 h3 =>
  gP v20 .true (pBin .eql v23 (Z 4)) h3 fun v24 h4 =>
  kP v20 v24 bF fun v25 =>
  gV v25 .true v3 h4 fun v27 h5 =>
  kP v25 v27 bF fun v28 =>
  gP v28 .true (pFieldAddr 2 v2) h5 fun v30 h6 =>
  gP v28 .true (pLoad1 I v30 h6) h6 fun v31 h7 =>
  gP v28 .true (pBin .eql v31 (Z 3)) h7 fun v32 h8 =>
  kP v28 v32 bF fun v33 =>
  gS v33 .true (call 16 [(Z 0)] h8) h8 fun v35 h9 =>
  gP v33 .true (pBin .eql v35 (.str [63])) h9 fun v36 h10 =>
  kP v33 v36 bF fun v37 =>
  gS v37 .true (call 13 [.nili] h10) h10 fun v39 h11 =>
  gP v37 .true (pBin .eql v39 (Z 0)) h11 fun v40 h12 =>
  kP v37 v40 bF fun v41 =>
  some (v41, h12)
def f8.e (I : Inp) (call : CallFn) (j : f8.Js) (h : AHeap) : Rs :=
  bndP (pBuild [(Z 0), (Z 0), (Z 0)] [(0, 1, (Z 1)), (1, 1, (Z 2)), (2, 1, (Z 3))]) fun v5 =>
  kC call 21 [(Z 4), v5, .nili] h fun v6 h1 =>
  bndP (pEq P .false .iface .true v6 .nili h1) fun v8 =>
  sCond v8 (
  j.1 v6 h1) (
  some (bF, h1))
def f8.J (I : Inp) (call : CallFn) (n : Nat) : f8.Js :=
  Nat.rec (motive := fun _ => f8.Js) (Zr.z, Zr.z) (fun _ j => (f8.b0 I call j, f8.b1 I call j)) n
def f8.JS (I : Inp) (call : CallFn) (n : Nat) : Jmp := (fun j : f8.Js => jmp [Ap.ap j.1 [1], Ap.ap j.2 [1, 2, 3, 4]]) (f8.J I call n)
theorem f8.S : SFn ⟨P, I, F⟩ call c8 (f8.JS I call) := .all 2 (by kernel_rfl) (fun ρ h => by kernel_rfl) (fun n ρ h => by kernel_rfl)
theorem f8.qe : Ap.all (f8.e I call (f8.J I call n)) (fun l h => execC P I call (f8.JS I call n) c8.body 0 (finV I c8.results) (argV l) h) := fun h => by kernel_rfl
theorem f8.code : codeOf P 8 = some c8 := by kernel_rfl
def f8.run (I : Inp) : SF := fun call n => Ap.ar (f8.e I call (f8.J I call n))
theorem f8.ok (I : Inp) (F : Nat → Option AFn) (hF : F 8 = some (.code c8)) : SfOk P I F 8 (f8.run I) := okOf hF (by kernel_rfl) (fun _ => f8.S) fun call n => f8.qe
/-! (*haruspex/refuse.Error).Error -/
def c9 : AFunc := cOf P 9
abbrev f9.Js : Type := (A1 × A1)
def f9.b0 (I : Inp) (call : CallFn) (j : f9.Js) (v0 : AVal) (h : AHeap) : Rs :=
  kN v0 fun v7 =>
  kF 0 v7 fun v8 =>
  kL I v8 h fun v9 =>
  kC call 16 [v9] h fun v10 h1 =>
  kN v0 fun v12 =>
  kF 1 v12 fun v13 =>
  kF 0 v13 fun v14 =>
  kL I v14 h1 fun v15 =>
  kB .geq v15 (Z 0) fun v16 =>
  sCond v16 (
  j.2 v10 h1) (
  kN v0 fun v19 =>
  kF 1 v19 fun v20 =>
  kF 0 v20 fun v21 =>
  kL I v21 h1 fun v22 =>
  kC call 24 [v22] h1 fun v23 h2 =>
  kB .add (.str [32, 97, 116, 32]) v23 fun v24 =>
  kB .add v24 (.str [46]) fun v25 =>
  kN v0 fun v27 =>
  kF 1 v27 fun v28 =>
  kF 1 v28 fun v29 =>
  kL I v29 h2 fun v30 =>
  kC call 24 [v30] h2 fun v31 h3 =>
  kB .add v25 v31 fun v32 =>
  kB .add v32 (.str [46]) fun v33 =>
  kN v0 fun v35 =>
  kF 1 v35 fun v36 =>
  kF 2 v36 fun v37 =>
  kL I v37 h3 fun v38 =>
  kC call 24 [v38] h3 fun v39 h4 =>
  kB .add v33 v39 fun v40 =>
  kB .add v10 v40 fun v41 =>
  sCheck (sSame (lift (pLoad1 I v29 h1) h1) v30 && true) (
  sCheck (sSame (lift (pLoad1 I v37 h1) h1) v38 && (sSame (lift (pLoad1 I v37 h2) h2) v38 && true)) (
  j.2 v41 h4)))
def f9.b1 (I : Inp) (call : CallFn) (j : f9.Js) (v3 : AVal) (h : AHeap) : Rs :=
  some (v3, h)
def f9.e (I : Inp) (call : CallFn) (j : f9.Js) (v0 : AVal) (h : AHeap) : Rs :=
  bndP (pEq P .false .ptr .true v0 .nilp h) fun v5 =>
  sCond v5 (
  j.1 v0 h) (
  some ((.str []), h))
def f9.J (I : Inp) (call : CallFn) (n : Nat) : f9.Js :=
  Nat.rec (motive := fun _ => f9.Js) (Zr.z, Zr.z) (fun _ j => (f9.b0 I call j, f9.b1 I call j)) n
theorem f9.n0 : (f9.J I call (n + 1)).1 = f9.b0 I call (f9.J I call n) := nrfl
theorem f9.n1 : (f9.J I call (n + 1)).2 = f9.b1 I call (f9.J I call n) := nrfl
def f9.JS (I : Inp) (call : CallFn) (n : Nat) : Jmp := (fun j : f9.Js => jmp [Ap.ap j.1 [0], Ap.ap j.2 [3]]) (f9.J I call n)
theorem f9.S : SFn ⟨P, I, F⟩ call c9 (f9.JS I call) := .all 2 (by kernel_rfl) (fun ρ h => by kernel_rfl) (fun n ρ h => by kernel_rfl)
theorem f9.qe : Ap.all (f9.e I call (f9.J I call n)) (fun l h => execC P I call (f9.JS I call n) c9.body 0 (finV I c9.results) (argV l) h) := fun v0 h => by kernel_rfl
theorem f9.code : codeOf P 9 = some c9 := by kernel_rfl
def f9.run (I : Inp) : SF := fun call n => Ap.ar (f9.e I call (f9.J I call n))
theorem f9.ok (I : Inp) (F : Nat → Option AFn) (hF : F 9 = some (.code c9)) : SfOk P I F 9 (f9.run I) := okOf hF (by kernel_rfl) (fun _ => f9.S) fun call n => f9.qe
theorem f9.lim (hp : prims 9 = none) {v0 : AVal} (hr : Res (f9.e I (AM.lim ⟨P, I, genF P prims⟩) (f9.J I (AM.lim ⟨P, I, genF P prims⟩) n) v0 h) Q) : Res ((AM.lim ⟨P, I, genF P prims⟩) 9 [v0] h) Q := limOf (n := n) hp f9.code (f9.ok I) hr rfl
/-! (*haruspex/refuse.Error).Unwrap -/
def c10 : AFunc := cOf P 10
abbrev f10.Js : Type := A1
def f10.b0 (I : Inp) (call : CallFn) (j : f10.Js) (v0 : AVal) (h : AHeap) : Rs :=
  kN v0 fun v6 =>
  kF 4 v6 fun v7 =>
  kL I v7 h fun v8 =>
  some (v8, h)
def f10.e (I : Inp) (call : CallFn) (j : f10.Js) (v0 : AVal) (h : AHeap) : Rs :=
  bndP (pEq P .false .ptr .true v0 .nilp h) fun v4 =>
  sCond v4 (
  j v0 h) (
  some (.nili, h))
def f10.J (I : Inp) (call : CallFn) (n : Nat) : f10.Js :=
  Nat.rec (motive := fun _ => f10.Js) Zr.z (fun _ j => f10.b0 I call j) n
theorem f10.n0 : (f10.J I call (n + 1)) = f10.b0 I call (f10.J I call n) := nrfl
def f10.JS (I : Inp) (call : CallFn) (n : Nat) : Jmp := (fun j : f10.Js => jmp [Ap.ap j [0]]) (f10.J I call n)
theorem f10.S : SFn ⟨P, I, F⟩ call c10 (f10.JS I call) := .all 1 (by kernel_rfl) (fun ρ h => by kernel_rfl) (fun n ρ h => by kernel_rfl)
theorem f10.qe : Ap.all (f10.e I call (f10.J I call n)) (fun l h => execC P I call (f10.JS I call n) c10.body 0 (finV I c10.results) (argV l) h) := fun v0 h => by kernel_rfl
theorem f10.code : codeOf P 10 = some c10 := by kernel_rfl
def f10.run (I : Inp) : SF := fun call n => Ap.ar (f10.e I call (f10.J I call n))
theorem f10.ok (I : Inp) (F : Nat → Option AFn) (hF : F 10 = some (.code c10)) : SfOk P I F 10 (f10.run I) := okOf hF (by kernel_rfl) (fun _ => f10.S) fun call n => f10.qe
theorem f10.lim (hp : prims 10 = none) {v0 : AVal} (hr : Res (f10.e I (AM.lim ⟨P, I, genF P prims⟩) (f10.J I (AM.lim ⟨P, I, genF P prims⟩) n) v0 h) Q) : Res ((AM.lim ⟨P, I, genF P prims⟩) 10 [v0] h) Q := limOf (n := n) hp f10.code (f10.ok I) hr rfl
/-! (*haruspex/refuse.Error).Is -/
def c11 : AFunc := cOf P 11
abbrev f11.Js : Type := Unit
def f11.e (I : Inp) (call : CallFn) (j : f11.Js) (v0 v1 : AVal) (h : AHeap) : Rs :=
  bndP (pAssertT 22 .nilp .true v1) fun v9 =>
  kX v9 0 fun v10 =>
  kX v9 1 fun v11 =>
  gV v11 .true v0 h fun v14 h1 =>
  gP v11 .true (pEq P .true .ptr .true v14 .nilp h1) h1 fun v15 h2 =>
  kP v11 v15 bF fun v16 =>
  gV v16 .true v10 h2 fun v18 h3 =>
  gP v16 .true (pEq P .true .ptr .true v18 .nilp h3) h3 fun v19 h4 =>
  kP v16 v19 bF fun v20 =>
  gV v20 .true v10 h4 fun v22 h5 =>
  gP v20 .true (pNilCheck v22) h5 fun v23 h6 =>
  gP v20 .true (pFieldAddr 0 v23) h6 fun v24 h7 =>
  gP v20 .true (pLoad1 I v24 h7) h7 fun v25 h8 =>
  gP v20 .true (pBin .eql v25 (Z 0)) h8 fun v26 h9 =>
  gV v20 .true v26 h9 fun v27 h10 =>
  gV v27 .false v10 h10 fun v28 h11 =>
  gP v27 .false (pNilCheck v28) h11 fun v29 h12 =>
  gP v27 .false (pFieldAddr 0 v29) h12 fun v30 h13 =>
  gP v27 .false (pLoad1 I v30 h13) h13 fun v31 h14 =>
  gV v27 .false v0 h14 fun v32 h15 =>
  gP v27 .false (pNilCheck v32) h15 fun v33 h16 =>
  gP v27 .false (pFieldAddr 0 v33) h16 fun v34 h17 =>
  gP v27 .false (pLoad1 I v34 h17) h17 fun v35 h18 =>
  gP v27 .false (pBin .eql v31 v35) h18 fun v36 h19 =>
  gP v20 .true (pPick v27 bT v36) h19 fun v37 h20 =>
  kP v20 v37 bF fun v38 =>
  some (v38, h20)
theorem f11.S : SFn ⟨P, I, F⟩ call c11 (fun _ => jmp []) := .all 0 (by kernel_rfl) (fun ρ h => by kernel_rfl) (fun n ρ h => by kernel_rfl)
theorem f11.qe : Ap.all (f11.e I call ()) (fun l h => execC P I call (jmp []) c11.body 0 (finV I c11.results) (argV l) h) := fun v0 v1 h => by kernel_rfl
theorem f11.code : codeOf P 11 = some c11 := by kernel_rfl
def f11.run (I : Inp) : SF := fun call n => Ap.ar (f11.e I call ())
theorem f11.ok (I : Inp) (F : Nat → Option AFn) (hF : F 11 = some (.code c11)) : SfOk P I F 11 (f11.run I) := okOf hF (by kernel_rfl) (fun _ => f11.S) fun call n => f11.qe
theorem f11.lim (hp : prims 11 = none) {n : Nat} {v0 v1 : AVal} (hr : Res (f11.e I (AM.lim ⟨P, I, genF P prims⟩) () v0 v1 h) Q) : Res ((AM.lim ⟨P, I, genF P prims⟩) 11 [v0, v1] h) Q := limOf (n := n) hp f11.code (f11.ok I) hr rfl
/-! haruspex/haruspexlaw4.made -/
def c12 : AFunc := cOf P 12
abbrev f12.Js : Type := ((A3 × (A5 × A5)) × ((A5 × A6) × (A5 × A6)))
def f12.b0 (I : Inp) (call : CallFn) (j : f12.Js) (v5 v6 v7 : AVal) (h : AHeap) : Rs :=
  some (.tuple [v5, v6, v7], h)
def f12.b1 (I : Inp) (call : CallFn) (j : f12.Js) (v0 v5 v6 v7 v8 : AVal) (h : AHeap) : Rs :=
  kB .geq v8 (Z 0) fun v15 =>
  sCond v15 (
  j.1.1 v5 v6 v7 h) (
  j.1.2.2 v0 v5 v6 v7 v8 h)
def f12.b2 (I : Inp) (call : CallFn) (j : f12.Js) (v0 v5 v6 v7 v8 : AVal) (h : AHeap) : Rs :=
  kI 6 v0 v8 fun v20 =>
  kM I 6 v20 h fun v21 =>
  kA [(Z 0), (Z 0), (Z 0), (Z 0), bF, (.str [])] h fun v9 h1 =>
  kS 6 v9 v21 h1 fun _ h2 =>
  kF 5 v9 fun v22 =>
  kL I v22 h2 fun v23 =>
  bndP (pLenStr v23) fun v24 =>
  kB .gtr v24 (Z 20) fun v25 =>
  sCond v25 (
  j.2.1.2 v0 v5 v6 v7 v8 v9 h2) (
  kF 5 v9 fun v26 =>
  kL I v26 h2 fun v27 =>
  bndP (pSliceStr v27 none (some (Z 20))) fun v28 =>
  kF 5 v9 fun v29 =>
  kS 1 v29 v28 h2 fun _ h3 =>
  j.2.1.2 v0 v5 v6 v7 v8 v9 h3)
def f12.b3 (I : Inp) (call : CallFn) (j : f12.Js) (v0 v5 v6 v7 v8 : AVal) (h : AHeap) : Rs :=
  kB .sub v8 (Z 1) fun v17 =>
  j.1.2.1 v0 v5 v6 v7 v17 h
def f12.b4 (I : Inp) (call : CallFn) (j : f12.Js) (v0 v5 v6 v7 v8 v9 : AVal) (h : AHeap) : Rs :=
  kF 4 v9 fun v30 =>
  kL I v30 h fun v31 =>
  sCond v31 (
  j.2.2.1 v0 v5 v7 v8 v9 h) (
  kF 5 v9 fun v32 =>
  kL I v32 h fun v33 =>
  bndP (pBuild [(.str []), .nili] [(0, 1, v33), (1, 1, v5)]) fun v35 =>
  bnd (sBox v35 h) fun v36 h1 =>
  j.2.1.1 v0 (.iface 50 v36) v6 v7 v8 h1)
def f12.b5 (I : Inp) (call : CallFn) (j : f12.Js) (v0 v5 v7 v8 v9 : AVal) (h : AHeap) : Rs :=
  kF 0 v9 fun v38 =>
  kL I v38 h fun v39 =>
  kC call 17 [v39] h fun v40 h1 =>
  kF 1 v9 fun v41 =>
  kF 0 v41 fun v42 =>
  kL I v42 h1 fun v43 =>
  kB .geq v43 (Z 0) fun v44 =>
  sCond v44 (
  j.2.2.2 v0 v5 v7 v8 v9 v40 h1) (
  kF 1 v9 fun v46 =>
  kF 0 v46 fun v47 =>
  kL I v47 h1 fun v48 =>
  kC call 25 [v48] h1 fun v49 h2 =>
  kB .add (.str [32, 97, 116, 32]) v49 fun v50 =>
  kB .add v50 (.str [46]) fun v51 =>
  kF 1 v9 fun v52 =>
  kF 1 v52 fun v53 =>
  kL I v53 h2 fun v54 =>
  kC call 25 [v54] h2 fun v55 h3 =>
  kB .add v51 v55 fun v56 =>
  kB .add v56 (.str [46]) fun v57 =>
  kF 1 v9 fun v58 =>
  kF 2 v58 fun v59 =>
  kL I v59 h3 fun v60 =>
  kC call 25 [v60] h3 fun v61 h4 =>
  kB .add v57 v61 fun v62 =>
  kB .add v40 v62 fun v63 =>
  sCheck (sSame (lift (pLoad1 I v53 h1) h1) v54 && true) (
  sCheck (sSame (lift (pLoad1 I v59 h1) h1) v60 && (sSame (lift (pLoad1 I v59 h2) h2) v60 && true)) (
  j.2.2.2 v0 v5 v7 v8 v9 v63 h4)))
def f12.b6 (I : Inp) (call : CallFn) (j : f12.Js) (v0 v5 v7 v8 v9 v10 : AVal) (h : AHeap) : Rs :=
  kF 0 v9 fun v64 =>
  kL I v64 h fun v65 =>
  kF 1 v9 fun v66 =>
  kM I 3 v66 h fun v67 =>
  kC call 21 [v65, v67, v5] h fun v69 h1 =>
  kF 0 v9 fun v71 =>
  kL I v71 h1 fun v72 =>
  bnd (sBuildSlice [(Z 0)] 1 [(0, 1, v72)] h1) fun v73 h2 =>
  bnd (sAppend I 1 8 v73 v7 h2) fun v75 h3 =>
  j.2.1.1 v0 v69 v10 v75 v8 h3
def f12.e (I : Inp) (call : CallFn) (j : f12.Js) (v0 : AVal) (h : AHeap) : Rs :=
  kZ v0 fun v12 =>
  kB .sub v12 (Z 1) fun v13 =>
  j.1.2.1 v0 .nili (.str []) .nils v13 h
def f12.J (I : Inp) (call : CallFn) (n : Nat) : f12.Js :=
  Nat.rec (motive := fun _ => f12.Js) ((Zr.z, (Zr.z, Zr.z)), ((Zr.z, Zr.z), (Zr.z, Zr.z))) (fun _ j => ((f12.b0 I call j, (f12.b1 I call j, f12.b2 I call j)), ((f12.b3 I call j, f12.b4 I call j), (f12.b5 I call j, f12.b6 I call j)))) n
theorem f12.n0 : (f12.J I call (n + 1)).1.1 = f12.b0 I call (f12.J I call n) := nrfl
theorem f12.n1 : (f12.J I call (n + 1)).1.2.1 = f12.b1 I call (f12.J I call n) := nrfl
theorem f12.n2 : (f12.J I call (n + 1)).1.2.2 = f12.b2 I call (f12.J I call n) := nrfl
theorem f12.n3 : (f12.J I call (n + 1)).2.1.1 = f12.b3 I call (f12.J I call n) := nrfl
theorem f12.n4 : (f12.J I call (n + 1)).2.1.2 = f12.b4 I call (f12.J I call n) := nrfl
theorem f12.n5 : (f12.J I call (n + 1)).2.2.1 = f12.b5 I call (f12.J I call n) := nrfl
theorem f12.n6 : (f12.J I call (n + 1)).2.2.2 = f12.b6 I call (f12.J I call n) := nrfl
def f12.JS (I : Inp) (call : CallFn) (n : Nat) : Jmp := (fun j : f12.Js => jmp [Ap.ap j.1.1 [5, 6, 7], Ap.ap j.1.2.1 [0, 5, 6, 7, 8], Ap.ap j.1.2.2 [0, 5, 6, 7, 8], Ap.ap j.2.1.1 [0, 5, 6, 7, 8], Ap.ap j.2.1.2 [0, 5, 6, 7, 8, 9], Ap.ap j.2.2.1 [0, 5, 7, 8, 9], Ap.ap j.2.2.2 [0, 5, 7, 8, 9, 10]]) (f12.J I call n)
theorem f12.S : SFn ⟨P, I, F⟩ call c12 (f12.JS I call) := .all 7 (by kernel_rfl) (fun ρ h => by kernel_rfl) (fun n ρ h => by kernel_rfl)
theorem f12.qe : Ap.all (f12.e I call (f12.J I call n)) (fun l h => execC P I call (f12.JS I call n) c12.body 0 (finV I c12.results) (argV l) h) := fun v0 h => by kernel_rfl
theorem f12.code : codeOf P 12 = some c12 := by kernel_rfl
def f12.run (I : Inp) : SF := fun call n => Ap.ar (f12.e I call (f12.J I call n))
theorem f12.ok (I : Inp) (F : Nat → Option AFn) (hF : F 12 = some (.code c12)) : SfOk P I F 12 (f12.run I) := okOf hF (by kernel_rfl) (fun _ => f12.S) fun call n => f12.qe
theorem f12.lim (hp : prims 12 = none) {v0 : AVal} (hr : Res (f12.e I (AM.lim ⟨P, I, genF P prims⟩) (f12.J I (AM.lim ⟨P, I, genF P prims⟩) n) v0 h) Q) : Res ((AM.lim ⟨P, I, genF P prims⟩) 12 [v0] h) Q := limOf (n := n) hp f12.code (f12.ok I) hr rfl
/-! haruspex/refuse.Why -/
def c13 : AFunc := cOf P 13
abbrev f13.Js : Type := A0
def f13.b0 (I : Inp) (call : CallFn) (j : f13.Js) (h : AHeap) : Rs :=
  some ((Z 0), h)
def f13.e (I : Inp) (call : CallFn) (j : f13.Js) (v0 : AVal) (h : AHeap) : Rs :=
  kC call 23 [v0] h fun v5 h1 =>
  bndP (pEq P .true .ptr .true v5 .nilp h1) fun v7 =>
  sCond v7 (
  j h1) (
  kN v5 fun v9 =>
  kF 0 v9 fun v10 =>
  kL I v10 h1 fun v11 =>
  some (v11, h1))
def f13.J (I : Inp) (call : CallFn) (n : Nat) : f13.Js :=
  Nat.rec (motive := fun _ => f13.Js) Zr.z (fun _ j => f13.b0 I call j) n
theorem f13.n0 : (f13.J I call (n + 1)) = f13.b0 I call (f13.J I call n) := nrfl
def f13.JS (I : Inp) (call : CallFn) (n : Nat) : Jmp := (fun j : f13.Js => jmp [Ap.ap j []]) (f13.J I call n)
theorem f13.S : SFn ⟨P, I, F⟩ call c13 (f13.JS I call) := .all 1 (by kernel_rfl) (fun ρ h => by kernel_rfl) (fun n ρ h => by kernel_rfl)
theorem f13.qe : Ap.all (f13.e I call (f13.J I call n)) (fun l h => execC P I call (f13.JS I call n) c13.body 0 (finV I c13.results) (argV l) h) := fun v0 h => by kernel_rfl
theorem f13.code : codeOf P 13 = some c13 := by kernel_rfl
def f13.run (I : Inp) : SF := fun call n => Ap.ar (f13.e I call (f13.J I call n))
theorem f13.ok (I : Inp) (F : Nat → Option AFn) (hF : F 13 = some (.code c13)) : SfOk P I F 13 (f13.run I) := okOf hF (by kernel_rfl) (fun _ => f13.S) fun call n => f13.qe
theorem f13.lim (hp : prims 13 = none) {v0 : AVal} (hr : Res (f13.e I (AM.lim ⟨P, I, genF P prims⟩) (f13.J I (AM.lim ⟨P, I, genF P prims⟩) n) v0 h) Q) : Res ((AM.lim ⟨P, I, genF P prims⟩) 13 [v0] h) Q := limOf (n := n) hp f13.code (f13.ok I) hr rfl
/-! haruspex/refuse.Chain -/
def c14 : AFunc := cOf P 14
abbrev f14.Js : Type := ((A1 × A3) × (A3 × (A3 × A3)))
def f14.b0 (I : Inp) (call : CallFn) (j : f14.Js) (v3 : AVal) (h : AHeap) : Rs :=
  some (v3, h)
def f14.b1 (I : Inp) (call : CallFn) (j : f14.Js) (v0 v3 v5 : AVal) (h : AHeap) : Rs :=
  kB .lss v5 (Z 1000) fun v6 =>
  sCond v6 (
  j.1.1 v3 h) (
  j.2.1 v0 v3 v5 h)
def f14.b2 (I : Inp) (call : CallFn) (j : f14.Js) (v0 v3 v5 : AVal) (h : AHeap) : Rs :=
  kC call 23 [v0] h fun v8 h1 =>
  bndP (pEq P .false .ptr .true v8 .nilp h1) fun v10 =>
  sCond v10 (
  j.2.2.2 v3 v8 v5 h1) (
  j.1.1 v3 h1)
def f14.b3 (I : Inp) (call : CallFn) (j : f14.Js) (v0 v3 v5 : AVal) (h : AHeap) : Rs :=
  kB .add v5 (Z 1) fun v22 =>
  j.1.2 v0 v3 v22 h
def f14.b4 (I : Inp) (call : CallFn) (j : f14.Js) (v3 v4 v5 : AVal) (h : AHeap) : Rs :=
  kN v4 fun v13 =>
  kF 0 v13 fun v14 =>
  kL I v14 h fun v15 =>
  bnd (sBuildSlice [(Z 0)] 1 [(0, 1, v15)] h) fun v16 h1 =>
  bnd (sAppend I 1 8 v3 v16 h1) fun v17 h2 =>
  kN v4 fun v19 =>
  kF 4 v19 fun v20 =>
  kL I v20 h2 fun v21 =>
  j.2.2.1 v21 v17 v5 h2
def f14.e (I : Inp) (call : CallFn) (j : f14.Js) (v0 : AVal) (h : AHeap) : Rs :=
  j.1.2 v0 .nils (Z 0) h
def f14.J (I : Inp) (call : CallFn) (n : Nat) : f14.Js :=
  Nat.rec (motive := fun _ => f14.Js) ((Zr.z, Zr.z), (Zr.z, (Zr.z, Zr.z))) (fun _ j => ((f14.b0 I call j, f14.b1 I call j), (f14.b2 I call j, (f14.b3 I call j, f14.b4 I call j)))) n
theorem f14.n0 : (f14.J I call (n + 1)).1.1 = f14.b0 I call (f14.J I call n) := nrfl
theorem f14.n1 : (f14.J I call (n + 1)).1.2 = f14.b1 I call (f14.J I call n) := nrfl
theorem f14.n2 : (f14.J I call (n + 1)).2.1 = f14.b2 I call (f14.J I call n) := nrfl
theorem f14.n3 : (f14.J I call (n + 1)).2.2.1 = f14.b3 I call (f14.J I call n) := nrfl
theorem f14.n4 : (f14.J I call (n + 1)).2.2.2 = f14.b4 I call (f14.J I call n) := nrfl
def f14.JS (I : Inp) (call : CallFn) (n : Nat) : Jmp := (fun j : f14.Js => jmp [Ap.ap j.1.1 [3], Ap.ap j.1.2 [0, 3, 5], Ap.ap j.2.1 [0, 3, 5], Ap.ap j.2.2.1 [0, 3, 5], Ap.ap j.2.2.2 [3, 4, 5]]) (f14.J I call n)
theorem f14.S : SFn ⟨P, I, F⟩ call c14 (f14.JS I call) := .all 5 (by kernel_rfl) (fun ρ h => by kernel_rfl) (fun n ρ h => by kernel_rfl)
theorem f14.qe : Ap.all (f14.e I call (f14.J I call n)) (fun l h => execC P I call (f14.JS I call n) c14.body 0 (finV I c14.results) (argV l) h) := fun v0 h => by kernel_rfl
theorem f14.code : codeOf P 14 = some c14 := by kernel_rfl
def f14.run (I : Inp) : SF := fun call n => Ap.ar (f14.e I call (f14.J I call n))
theorem f14.ok (I : Inp) (F : Nat → Option AFn) (hF : F 14 = some (.code c14)) : SfOk P I F 14 (f14.run I) := okOf hF (by kernel_rfl) (fun _ => f14.S) fun call n => f14.qe
theorem f14.lim (hp : prims 14 = none) {v0 : AVal} (hr : Res (f14.e I (AM.lim ⟨P, I, genF P prims⟩) (f14.J I (AM.lim ⟨P, I, genF P prims⟩) n) v0 h) Q) : Res ((AM.lim ⟨P, I, genF P prims⟩) 14 [v0] h) Q := limOf (n := n) hp f14.code (f14.ok I) hr rfl
/-! haruspex/haruspexref1.Eq -/
def c15 : AFunc := cOf P 15
abbrev f15.Js : Type := ((A2 × A0) × (A3 × (A3 × A3)))
def f15.b0 (I : Inp) (call : CallFn) (j : f15.Js) (v0 v1 : AVal) (h : AHeap) : Rs :=
  j.2.1 v0 v1 (Z 0) h
def f15.b1 (I : Inp) (call : CallFn) (j : f15.Js) (h : AHeap) : Rs :=
  some (bT, h)
def f15.b2 (I : Inp) (call : CallFn) (j : f15.Js) (v0 v1 v5 : AVal) (h : AHeap) : Rs :=
  kZ v0 fun v13 =>
  kB .lss v5 v13 fun v14 =>
  sCond v14 (
  j.1.2 h) (
  j.2.2.1 v0 v1 v5 h)
def f15.b3 (I : Inp) (call : CallFn) (j : f15.Js) (v0 v1 v5 : AVal) (h : AHeap) : Rs :=
  kI 1 v0 v5 fun v19 =>
  kL I v19 h fun v20 =>
  kI 1 v1 v5 fun v23 =>
  kL I v23 h fun v24 =>
  kB .neq v20 v24 fun v25 =>
  sCond v25 (
  j.2.2.2 v0 v1 v5 h) (
  some (bF, h))
def f15.b4 (I : Inp) (call : CallFn) (j : f15.Js) (v0 v1 v5 : AVal) (h : AHeap) : Rs :=
  kB .add v5 (Z 1) fun v16 =>
  j.2.1 v0 v1 v16 h
def f15.e (I : Inp) (call : CallFn) (j : f15.Js) (v0 v1 : AVal) (h : AHeap) : Rs :=
  kZ v0 fun v7 =>
  kZ v1 fun v9 =>
  kB .neq v7 v9 fun v10 =>
  sCond v10 (
  j.1.1 v0 v1 h) (
  some (bF, h))
def f15.J (I : Inp) (call : CallFn) (n : Nat) : f15.Js :=
  Nat.rec (motive := fun _ => f15.Js) ((Zr.z, Zr.z), (Zr.z, (Zr.z, Zr.z))) (fun _ j => ((f15.b0 I call j, f15.b1 I call j), (f15.b2 I call j, (f15.b3 I call j, f15.b4 I call j)))) n
theorem f15.n0 : (f15.J I call (n + 1)).1.1 = f15.b0 I call (f15.J I call n) := nrfl
theorem f15.n1 : (f15.J I call (n + 1)).1.2 = f15.b1 I call (f15.J I call n) := nrfl
theorem f15.n2 : (f15.J I call (n + 1)).2.1 = f15.b2 I call (f15.J I call n) := nrfl
theorem f15.n3 : (f15.J I call (n + 1)).2.2.1 = f15.b3 I call (f15.J I call n) := nrfl
theorem f15.n4 : (f15.J I call (n + 1)).2.2.2 = f15.b4 I call (f15.J I call n) := nrfl
def f15.JS (I : Inp) (call : CallFn) (n : Nat) : Jmp := (fun j : f15.Js => jmp [Ap.ap j.1.1 [0, 1], Ap.ap j.1.2 [], Ap.ap j.2.1 [0, 1, 5], Ap.ap j.2.2.1 [0, 1, 5], Ap.ap j.2.2.2 [0, 1, 5]]) (f15.J I call n)
theorem f15.S : SFn ⟨P, I, F⟩ call c15 (f15.JS I call) := .all 5 (by kernel_rfl) (fun ρ h => by kernel_rfl) (fun n ρ h => by kernel_rfl)
theorem f15.qe : Ap.all (f15.e I call (f15.J I call n)) (fun l h => execC P I call (f15.JS I call n) c15.body 0 (finV I c15.results) (argV l) h) := fun v0 v1 h => by kernel_rfl
theorem f15.code : codeOf P 15 = some c15 := by kernel_rfl
def f15.run (I : Inp) : SF := fun call n => Ap.ar (f15.e I call (f15.J I call n))
theorem f15.ok (I : Inp) (F : Nat → Option AFn) (hF : F 15 = some (.code c15)) : SfOk P I F 15 (f15.run I) := okOf hF (by kernel_rfl) (fun _ => f15.S) fun call n => f15.qe
theorem f15.lim (hp : prims 15 = none) {v0 v1 : AVal} (hr : Res (f15.e I (AM.lim ⟨P, I, genF P prims⟩) (f15.J I (AM.lim ⟨P, I, genF P prims⟩) n) v0 v1 h) Q) : Res ((AM.lim ⟨P, I, genF P prims⟩) 15 [v0, v1] h) Q := limOf (n := n) hp f15.code (f15.ok I) hr rfl
/-! haruspex/refuse.Name -/
def c16 : AFunc := cOf P 16
abbrev f16.Js : Type := A0
def f16.b0 (I : Inp) (call : CallFn) (j : f16.Js) (h : AHeap) : Rs :=
  some ((.str [63]), h)
def f16.e (I : Inp) (call : CallFn) (j : f16.Js) (v0 : AVal) (h : AHeap) : Rs :=
  kB .eql v0 (Z 1) fun v5 =>
  sCond v5 (
  kB .eql v0 (Z 2) fun v7 =>
  sCond v7 (
  kB .eql v0 (Z 3) fun v9 =>
  sCond v9 (
  kB .eql v0 (Z 4) fun v11 =>
  sCond v11 (
  kB .eql v0 (Z 5) fun v13 =>
  sCond v13 (
  kB .eql v0 (Z 6) fun v15 =>
  sCond v15 (
  kB .eql v0 (Z 7) fun v17 =>
  sCond v17 (
  j h) (
  some ((.str [109, 101, 116, 104, 111, 100, 115]), h))) (
  some ((.str [115, 104, 97, 112, 101]), h))) (
  some ((.str [97, 115, 115, 105, 103, 110]), h))) (
  some ((.str [116, 121, 112, 101]), h))) (
  some ((.str [110, 97, 109, 101]), h))) (
  some ((.str [98, 111, 117, 110, 100]), h))) (
  some ((.str [98, 121, 116, 101, 115]), h))
def f16.J (I : Inp) (call : CallFn) (n : Nat) : f16.Js :=
  Nat.rec (motive := fun _ => f16.Js) Zr.z (fun _ j => f16.b0 I call j) n
theorem f16.n0 : (f16.J I call (n + 1)) = f16.b0 I call (f16.J I call n) := nrfl
def f16.JS (I : Inp) (call : CallFn) (n : Nat) : Jmp := (fun j : f16.Js => jmp [Ap.ap j []]) (f16.J I call n)
theorem f16.S : SFn ⟨P, I, F⟩ call c16 (f16.JS I call) := .all 1 (by kernel_rfl) (fun ρ h => by kernel_rfl) (fun n ρ h => by kernel_rfl)
theorem f16.qe : Ap.all (f16.e I call (f16.J I call n)) (fun l h => execC P I call (f16.JS I call n) c16.body 0 (finV I c16.results) (argV l) h) := fun v0 h => by kernel_rfl
theorem f16.code : codeOf P 16 = some c16 := by kernel_rfl
def f16.run (I : Inp) : SF := fun call n => Ap.ar (f16.e I call (f16.J I call n))
theorem f16.ok (I : Inp) (F : Nat → Option AFn) (hF : F 16 = some (.code c16)) : SfOk P I F 16 (f16.run I) := okOf hF (by kernel_rfl) (fun _ => f16.S) fun call n => f16.qe
theorem f16.lim (hp : prims 16 = none) {v0 : AVal} (hr : Res (f16.e I (AM.lim ⟨P, I, genF P prims⟩) (f16.J I (AM.lim ⟨P, I, genF P prims⟩) n) v0 h) Q) : Res ((AM.lim ⟨P, I, genF P prims⟩) 16 [v0] h) Q := limOf (n := n) hp f16.code (f16.ok I) hr rfl
/-! haruspex/haruspexlaw4.name -/
def c17 : AFunc := cOf P 17
abbrev f17.Js : Type := A0
def f17.b0 (I : Inp) (call : CallFn) (j : f17.Js) (h : AHeap) : Rs :=
  some ((.str [63]), h)
def f17.e (I : Inp) (call : CallFn) (j : f17.Js) (v0 : AVal) (h : AHeap) : Rs :=
  kB .eql v0 (Z 1) fun v5 =>
  sCond v5 (
  kB .eql v0 (Z 2) fun v7 =>
  sCond v7 (
  kB .eql v0 (Z 3) fun v9 =>
  sCond v9 (
  kB .eql v0 (Z 4) fun v11 =>
  sCond v11 (
  kB .eql v0 (Z 5) fun v13 =>
  sCond v13 (
  kB .eql v0 (Z 6) fun v15 =>
  sCond v15 (
  kB .eql v0 (Z 7) fun v17 =>
  sCond v17 (
  j h) (
  some ((.str [109, 101, 116, 104, 111, 100, 115]), h))) (
  some ((.str [115, 104, 97, 112, 101]), h))) (
  some ((.str [97, 115, 115, 105, 103, 110]), h))) (
  some ((.str [116, 121, 112, 101]), h))) (
  some ((.str [110, 97, 109, 101]), h))) (
  some ((.str [98, 111, 117, 110, 100]), h))) (
  some ((.str [98, 121, 116, 101, 115]), h))
def f17.J (I : Inp) (call : CallFn) (n : Nat) : f17.Js :=
  Nat.rec (motive := fun _ => f17.Js) Zr.z (fun _ j => f17.b0 I call j) n
theorem f17.n0 : (f17.J I call (n + 1)) = f17.b0 I call (f17.J I call n) := nrfl
def f17.JS (I : Inp) (call : CallFn) (n : Nat) : Jmp := (fun j : f17.Js => jmp [Ap.ap j []]) (f17.J I call n)
theorem f17.S : SFn ⟨P, I, F⟩ call c17 (f17.JS I call) := .all 1 (by kernel_rfl) (fun ρ h => by kernel_rfl) (fun n ρ h => by kernel_rfl)
theorem f17.qe : Ap.all (f17.e I call (f17.J I call n)) (fun l h => execC P I call (f17.JS I call n) c17.body 0 (finV I c17.results) (argV l) h) := fun v0 h => by kernel_rfl
theorem f17.code : codeOf P 17 = some c17 := by kernel_rfl
def f17.run (I : Inp) : SF := fun call n => Ap.ar (f17.e I call (f17.J I call n))
theorem f17.ok (I : Inp) (F : Nat → Option AFn) (hF : F 17 = some (.code c17)) : SfOk P I F 17 (f17.run I) := okOf hF (by kernel_rfl) (fun _ => f17.S) fun call n => f17.qe
theorem f17.lim (hp : prims 17 = none) {v0 : AVal} (hr : Res (f17.e I (AM.lim ⟨P, I, genF P prims⟩) (f17.J I (AM.lim ⟨P, I, genF P prims⟩) n) v0 h) Q) : Res ((AM.lim ⟨P, I, genF P prims⟩) 17 [v0] h) Q := limOf (n := n) hp f17.code (f17.ok I) hr rfl
/-! errors.Is -/
def c19 : AFunc := cOf P 19
abbrev f19.Js : Type := A2
def f19.b0 (I : Inp) (call : CallFn) (j : f19.Js) (v0 v1 : AVal) (h : AHeap) : Rs :=
  kC call 30 [v1] h fun v16 h1 =>
  bnd (sInvoke P call v16 "Comparable" [] h1) fun v17 h2 =>
  kC call 31 [v0, v1, v17] h2 fun v21 h3 =>
  some (v21, h3)
def f19.e (I : Inp) (call : CallFn) (j : f19.Js) (v0 v1 : AVal) (h : AHeap) : Rs :=
  bndP (pEq P .false .iface .true v0 .nili h) fun v7 =>
  gV v7 .false v1 h fun v9 h1 =>
  gP v7 .false (pEq P .false .iface .true v9 .nili h1) h1 fun v10 h2 =>
  kP v7 bT v10 fun v11 =>
  sCond v11 (
  j v0 v1 h2) (
  bndP (pEq P .false .iface .false v0 v1 h2) fun v14 =>
  some (v14, h2))
def f19.J (I : Inp) (call : CallFn) (n : Nat) : f19.Js :=
  Nat.rec (motive := fun _ => f19.Js) Zr.z (fun _ j => f19.b0 I call j) n
def f19.JS (I : Inp) (call : CallFn) (n : Nat) : Jmp := (fun j : f19.Js => jmp [Ap.ap j [0, 1]]) (f19.J I call n)
theorem f19.S : SFn ⟨P, I, F⟩ call c19 (f19.JS I call) := .all 1 (by kernel_rfl) (fun ρ h => by kernel_rfl) (fun n ρ h => by kernel_rfl)
theorem f19.qe : Ap.all (f19.e I call (f19.J I call n)) (fun l h => execC P I call (f19.JS I call n) c19.body 0 (finV I c19.results) (argV l) h) := fun v0 v1 h => by kernel_rfl
theorem f19.code : codeOf P 19 = some c19 := by kernel_rfl
def f19.run (I : Inp) : SF := fun call n => Ap.ar (f19.e I call (f19.J I call n))
theorem f19.ok (I : Inp) (F : Nat → Option AFn) (hF : F 19 = some (.code c19)) : SfOk P I F 19 (f19.run I) := okOf hF (by kernel_rfl) (fun _ => f19.S) fun call n => f19.qe
/-! haruspex/haruspexref1.In -/
def c20 : AFunc := cOf P 20
abbrev f20.Js : Type := ((A0 × A3) × (A3 × A3))
def f20.b0 (I : Inp) (call : CallFn) (j : f20.Js) (h : AHeap) : Rs :=
  some (bF, h)
def f20.b1 (I : Inp) (call : CallFn) (j : f20.Js) (v0 v1 v5 : AVal) (h : AHeap) : Rs :=
  kZ v0 fun v8 =>
  kB .lss v5 v8 fun v9 =>
  sCond v9 (
  j.1.1 h) (
  j.2.1 v0 v1 v5 h)
def f20.b2 (I : Inp) (call : CallFn) (j : f20.Js) (v0 v1 v5 : AVal) (h : AHeap) : Rs :=
  kI 1 v0 v5 fun v14 =>
  kL I v14 h fun v15 =>
  kB .eql v15 v1 fun v17 =>
  sCond v17 (
  j.2.2 v0 v1 v5 h) (
  some (bT, h))
def f20.b3 (I : Inp) (call : CallFn) (j : f20.Js) (v0 v1 v5 : AVal) (h : AHeap) : Rs :=
  kB .add v5 (Z 1) fun v11 =>
  j.1.2 v0 v1 v11 h
def f20.e (I : Inp) (call : CallFn) (j : f20.Js) (v0 v1 : AVal) (h : AHeap) : Rs :=
  j.1.2 v0 v1 (Z 0) h
def f20.J (I : Inp) (call : CallFn) (n : Nat) : f20.Js :=
  Nat.rec (motive := fun _ => f20.Js) ((Zr.z, Zr.z), (Zr.z, Zr.z)) (fun _ j => ((f20.b0 I call j, f20.b1 I call j), (f20.b2 I call j, f20.b3 I call j))) n
theorem f20.n0 : (f20.J I call (n + 1)).1.1 = f20.b0 I call (f20.J I call n) := nrfl
theorem f20.n1 : (f20.J I call (n + 1)).1.2 = f20.b1 I call (f20.J I call n) := nrfl
theorem f20.n2 : (f20.J I call (n + 1)).2.1 = f20.b2 I call (f20.J I call n) := nrfl
theorem f20.n3 : (f20.J I call (n + 1)).2.2 = f20.b3 I call (f20.J I call n) := nrfl
def f20.JS (I : Inp) (call : CallFn) (n : Nat) : Jmp := (fun j : f20.Js => jmp [Ap.ap j.1.1 [], Ap.ap j.1.2 [0, 1, 5], Ap.ap j.2.1 [0, 1, 5], Ap.ap j.2.2 [0, 1, 5]]) (f20.J I call n)
theorem f20.S : SFn ⟨P, I, F⟩ call c20 (f20.JS I call) := .all 4 (by kernel_rfl) (fun ρ h => by kernel_rfl) (fun n ρ h => by kernel_rfl)
theorem f20.qe : Ap.all (f20.e I call (f20.J I call n)) (fun l h => execC P I call (f20.JS I call n) c20.body 0 (finV I c20.results) (argV l) h) := fun v0 v1 h => by kernel_rfl
theorem f20.code : codeOf P 20 = some c20 := by kernel_rfl
def f20.run (I : Inp) : SF := fun call n => Ap.ar (f20.e I call (f20.J I call n))
theorem f20.ok (I : Inp) (F : Nat → Option AFn) (hF : F 20 = some (.code c20)) : SfOk P I F 20 (f20.run I) := okOf hF (by kernel_rfl) (fun _ => f20.S) fun call n => f20.qe
theorem f20.lim (hp : prims 20 = none) {v0 v1 : AVal} (hr : Res (f20.e I (AM.lim ⟨P, I, genF P prims⟩) (f20.J I (AM.lim ⟨P, I, genF P prims⟩) n) v0 v1 h) Q) : Res ((AM.lim ⟨P, I, genF P prims⟩) 20 [v0, v1] h) Q := limOf (n := n) hp f20.code (f20.ok I) hr rfl
/-! haruspex/refuse.New -/
def c21 : AFunc := cOf P 21
abbrev f21.Js : Type := Unit
def f21.e (I : Inp) (call : CallFn) (j : f21.Js) (v0 v1 v2 : AVal) (h : AHeap) : Rs :=
  bnd (sBox v1 h) fun v4 h1 =>
  kM I 3 v4 h1 fun v8 =>
  bndP (pBuild [(Z 0), (Z 0), (Z 0), (Z 0), .nili] [(0, 1, v0), (1, 3, v8), (4, 1, v2)]) fun v10 =>
  bnd (sBox v10 h1) fun v11 h2 =>
  some ((.iface 22 v11), h2)
theorem f21.S : SFn ⟨P, I, F⟩ call c21 (fun _ => jmp []) := .all 0 (by kernel_rfl) (fun ρ h => by kernel_rfl) (fun n ρ h => by kernel_rfl)
theorem f21.qe : Ap.all (f21.e I call ()) (fun l h => execC P I call (jmp []) c21.body 0 (finV I c21.results) (argV l) h) := fun v0 v1 v2 h => by kernel_rfl
theorem f21.code : codeOf P 21 = some c21 := by kernel_rfl
def f21.run (I : Inp) : SF := fun call n => Ap.ar (f21.e I call ())
theorem f21.ok (I : Inp) (F : Nat → Option AFn) (hF : F 21 = some (.code c21)) : SfOk P I F 21 (f21.run I) := okOf hF (by kernel_rfl) (fun _ => f21.S) fun call n => f21.qe
theorem f21.lim (hp : prims 21 = none) {n : Nat} {v0 v1 v2 : AVal} (hr : Res (f21.e I (AM.lim ⟨P, I, genF P prims⟩) () v0 v1 v2 h) Q) : Res ((AM.lim ⟨P, I, genF P prims⟩) 21 [v0, v1, v2] h) Q := limOf (n := n) hp f21.code (f21.ok I) hr rfl
/-! errors.Unwrap -/
def c22 : AFunc := cOf P 22
abbrev f22.Js : Type := A1
def f22.b0 (I : Inp) (call : CallFn) (j : f22.Js) (v3 : AVal) (h : AHeap) : Rs :=
  bnd (sInvoke P call v3 "Unwrap" [] h) fun v13 h1 =>
  some (v13, h1)
def f22.e (I : Inp) (call : CallFn) (j : f22.Js) (v0 : AVal) (h : AHeap) : Rs :=
  bndP (pAssertI P 72 .nili .true v0) fun v7 =>
  kX v7 0 fun v8 =>
  kX v7 1 fun v9 =>
  kU .not v9 fun v11 =>
  sCond v11 (
  j v8 h) (
  some (.nili, h))
def f22.J (I : Inp) (call : CallFn) (n : Nat) : f22.Js :=
  Nat.rec (motive := fun _ => f22.Js) Zr.z (fun _ j => f22.b0 I call j) n
theorem f22.n0 : (f22.J I call (n + 1)) = f22.b0 I call (f22.J I call n) := nrfl
def f22.JS (I : Inp) (call : CallFn) (n : Nat) : Jmp := (fun j : f22.Js => jmp [Ap.ap j [3]]) (f22.J I call n)
theorem f22.S : SFn ⟨P, I, F⟩ call c22 (f22.JS I call) := .all 1 (by kernel_rfl) (fun ρ h => by kernel_rfl) (fun n ρ h => by kernel_rfl)
theorem f22.qe : Ap.all (f22.e I call (f22.J I call n)) (fun l h => execC P I call (f22.JS I call n) c22.body 0 (finV I c22.results) (argV l) h) := fun v0 h => by kernel_rfl
theorem f22.code : codeOf P 22 = some c22 := by kernel_rfl
def f22.run (I : Inp) : SF := fun call n => Ap.ar (f22.e I call (f22.J I call n))
theorem f22.ok (I : Inp) (F : Nat → Option AFn) (hF : F 22 = some (.code c22)) : SfOk P I F 22 (f22.run I) := okOf hF (by kernel_rfl) (fun _ => f22.S) fun call n => f22.qe
theorem f22.lim (hp : prims 22 = none) {v0 : AVal} (hr : Res (f22.e I (AM.lim ⟨P, I, genF P prims⟩) (f22.J I (AM.lim ⟨P, I, genF P prims⟩) n) v0 h) Q) : Res ((AM.lim ⟨P, I, genF P prims⟩) 22 [v0] h) Q := limOf (n := n) hp f22.code (f22.ok I) hr rfl
/-! haruspex/refuse.first -/
def c23 : AFunc := cOf P 23
abbrev f23.Js : Type := A1
def f23.b0 (I : Inp) (call : CallFn) (j : f23.Js) (v3 : AVal) (h : AHeap) : Rs :=
  kL I v3 h fun v8 =>
  some (v8, h)
def f23.e (I : Inp) (call : CallFn) (j : f23.Js) (v0 : AVal) (h : AHeap) : Rs :=
  kA [.nilp] h fun v3 h1 =>
  kC call 18 [v0, (.iface 44 v3)] h1 fun v6 h2 =>
  kU .not v6 fun v7 =>
  sCond v7 (
  j v3 h2) (
  some (.nilp, h2))
def f23.J (I : Inp) (call : CallFn) (n : Nat) : f23.Js :=
  Nat.rec (motive := fun _ => f23.Js) Zr.z (fun _ j => f23.b0 I call j) n
theorem f23.n0 : (f23.J I call (n + 1)) = f23.b0 I call (f23.J I call n) := nrfl
def f23.JS (I : Inp) (call : CallFn) (n : Nat) : Jmp := (fun j : f23.Js => jmp [Ap.ap j [3]]) (f23.J I call n)
theorem f23.S : SFn ⟨P, I, F⟩ call c23 (f23.JS I call) := .all 1 (by kernel_rfl) (fun ρ h => by kernel_rfl) (fun n ρ h => by kernel_rfl)
theorem f23.qe : Ap.all (f23.e I call (f23.J I call n)) (fun l h => execC P I call (f23.JS I call n) c23.body 0 (finV I c23.results) (argV l) h) := fun v0 h => by kernel_rfl
theorem f23.code : codeOf P 23 = some c23 := by kernel_rfl
def f23.run (I : Inp) : SF := fun call n => Ap.ar (f23.e I call (f23.J I call n))
theorem f23.ok (I : Inp) (F : Nat → Option AFn) (hF : F 23 = some (.code c23)) : SfOk P I F 23 (f23.run I) := okOf hF (by kernel_rfl) (fun _ => f23.S) fun call n => f23.qe
theorem f23.lim (hp : prims 23 = none) {v0 : AVal} (hr : Res (f23.e I (AM.lim ⟨P, I, genF P prims⟩) (f23.J I (AM.lim ⟨P, I, genF P prims⟩) n) v0 h) Q) : Res ((AM.lim ⟨P, I, genF P prims⟩) 23 [v0] h) Q := limOf (n := n) hp f23.code (f23.ok I) hr rfl
/-! strconv.Itoa -/
def c24 : AFunc := cOf P 24
abbrev f24.Js : Type := Unit
def f24.e (I : Inp) (call : CallFn) (j : f24.Js) (v0 : AVal) (h : AHeap) : Rs :=
  kC call 32 [v0] h fun v4 h1 =>
  some (v4, h1)
theorem f24.S : SFn ⟨P, I, F⟩ call c24 (fun _ => jmp []) := .all 0 (by kernel_rfl) (fun ρ h => by kernel_rfl) (fun n ρ h => by kernel_rfl)
theorem f24.qe : Ap.all (f24.e I call ()) (fun l h => execC P I call (jmp []) c24.body 0 (finV I c24.results) (argV l) h) := fun v0 h => by kernel_rfl
theorem f24.code : codeOf P 24 = some c24 := by kernel_rfl
def f24.run (I : Inp) : SF := fun call n => Ap.ar (f24.e I call ())
theorem f24.ok (I : Inp) (F : Nat → Option AFn) (hF : F 24 = some (.code c24)) : SfOk P I F 24 (f24.run I) := okOf hF (by kernel_rfl) (fun _ => f24.S) fun call n => f24.qe
/-! haruspex/haruspexref8.Dec -/
def c25 : AFunc := cOf P 25
abbrev f25.Js : Type := (A1 × (A1 × A1))
def f25.b0 (I : Inp) (call : CallFn) (j : f25.Js) (v0 : AVal) (h : AHeap) : Rs :=
  kB .lss v0 (Z 10) fun v22 =>
  sCond v22 (
  j.2.2 v0 h) (
  kB .add (Z 48) v0 fun v24 =>
  bndP (pToInt .u8 v24) fun v25 =>
  bnd (sBuildSlice [(.int .u8 (.ofNat 0))] 1 [(0, 1, v25)] h) fun v26 h1 =>
  bndP (pToStr I v26 h1) fun v27 =>
  some (v27, h1))
def f25.b1 (I : Inp) (call : CallFn) (j : f25.Js) (v0 : AVal) (h : AHeap) : Rs :=
  kU .neg v0 fun v18 =>
  kC call 25 [v18] h fun v19 h1 =>
  kB .add (.str [45]) v19 fun v20 =>
  some (v20, h1)
def f25.b2 (I : Inp) (call : CallFn) (j : f25.Js) (v0 : AVal) (h : AHeap) : Rs :=
  sKeep 0 h fun h1 =>
  kB .quo v0 (Z 10) fun v29 =>
  kC call 25 [v29] h1 fun v30 h2 =>
  kB .rem v0 (Z 10) fun v32 =>
  kB .add (Z 48) v32 fun v33 =>
  bndP (pToInt .u8 v33) fun v34 =>
  bnd (sResvSlice (h.next + 0) [(.int .u8 (.ofNat 0))] 1 [(0, 1, v34)] h2) fun v35 h3 =>
  bndP (pToStr I v35 h3) fun v36 =>
  kB .add v30 v36 fun v37 =>
  sCheck (sSame (lift (pToStr I v35 h3) h3) v36 && (sSame (lift (pToStr I v35 h3) h3) v36 && true)) (
  some (v37, h3))
def f25.e (I : Inp) (call : CallFn) (j : f25.Js) (v0 : AVal) (h : AHeap) : Rs :=
  kB .lss v0 (Z 0) fun v4 =>
  sCond v4 (
  j.1 v0 h) (
  kB .lss v0 (.int .i64 (.negSucc 4611686018427387903)) fun v6 =>
  sCond v6 (
  j.2.1 v0 h) (
  kB .quo v0 (Z 10) fun v8 =>
  kU .neg v8 fun v9 =>
  kC call 25 [v9] h fun v10 h1 =>
  kB .add (.str [45]) v10 fun v11 =>
  kB .rem v0 (Z 10) fun v13 =>
  kU .neg v13 fun v14 =>
  kC call 25 [v14] h1 fun v15 h2 =>
  kB .add v11 v15 fun v16 =>
  some (v16, h2)))
def f25.J (I : Inp) (call : CallFn) (n : Nat) : f25.Js :=
  Nat.rec (motive := fun _ => f25.Js) (Zr.z, (Zr.z, Zr.z)) (fun _ j => (f25.b0 I call j, (f25.b1 I call j, f25.b2 I call j))) n
theorem f25.n0 : (f25.J I call (n + 1)).1 = f25.b0 I call (f25.J I call n) := nrfl
theorem f25.n1 : (f25.J I call (n + 1)).2.1 = f25.b1 I call (f25.J I call n) := nrfl
theorem f25.n2 : (f25.J I call (n + 1)).2.2 = f25.b2 I call (f25.J I call n) := nrfl
def f25.JS (I : Inp) (call : CallFn) (n : Nat) : Jmp := (fun j : f25.Js => jmp [Ap.ap j.1 [0], Ap.ap j.2.1 [0], Ap.ap j.2.2 [0]]) (f25.J I call n)
theorem f25.S : SFn ⟨P, I, F⟩ call c25 (f25.JS I call) := .all 3 (by kernel_rfl) (fun ρ h => by kernel_rfl) (fun n ρ h => by kernel_rfl)
theorem f25.qe : Ap.all (f25.e I call (f25.J I call n)) (fun l h => execC P I call (f25.JS I call n) c25.body 0 (finV I c25.results) (argV l) h) := fun v0 h => by kernel_rfl
theorem f25.code : codeOf P 25 = some c25 := by kernel_rfl
def f25.run (I : Inp) : SF := fun call n => Ap.ar (f25.e I call (f25.J I call n))
theorem f25.ok (I : Inp) (F : Nat → Option AFn) (hF : F 25 = some (.code c25)) : SfOk P I F 25 (f25.run I) := okOf hF (by kernel_rfl) (fun _ => f25.S) fun call n => f25.qe
theorem f25.lim (hp : prims 25 = none) {v0 : AVal} (hr : Res (f25.e I (AM.lim ⟨P, I, genF P prims⟩) (f25.J I (AM.lim ⟨P, I, genF P prims⟩) n) v0 h) Q) : Res ((AM.lim ⟨P, I, genF P prims⟩) 25 [v0] h) Q := limOf (n := n) hp f25.code (f25.ok I) hr rfl
/-! errors.is -/
def c31 : AFunc := cOf P 31
abbrev f31.Js : Type := ((A3 × (A3 × A3)) × ((A0 × A5) × (A5 × A5)))
def f31.b0 (I : Inp) (call : CallFn) (j : f31.Js) (v0 v1 v2 : AVal) (h : AHeap) : Rs :=
  gV v2 .true v0 h fun v16 h1 =>
  gV v2 .true v1 h1 fun v17 h2 =>
  gP v2 .true (pEq P .false .iface .false v16 v17 h2) h2 fun v18 h3 =>
  kP v2 v18 bF fun v19 =>
  sCond v19 (
  j.1.2.1 v0 v1 v2 h3) (
  some (bT, h3))
def f31.b1 (I : Inp) (call : CallFn) (j : f31.Js) (v0 v1 v2 : AVal) (h : AHeap) : Rs :=
  bndP (pAssertI P 86 .nili .true v0) fun v22 =>
  kX v22 0 fun v23 =>
  kX v22 1 fun v24 =>
  gV v24 .true v23 h fun v27 h1 =>
  gV v24 .true v1 h1 fun v28 h2 =>
  gS v24 .true (sInvoke P call v27 "Is" [v28] h2) h2 fun v29 h3 =>
  kP v24 v29 bF fun v30 =>
  sCond v30 (
  j.1.2.2 v0 v1 v2 h3) (
  some (bT, h3))
def f31.b2 (I : Inp) (call : CallFn) (j : f31.Js) (v0 v1 v2 : AVal) (h : AHeap) : Rs :=
  bndP (pAssertI P 72 .nili .true v0) fun v32 =>
  kX v32 1 fun v33 =>
  kX v32 0 fun v34 =>
  sCond v33 (
  bndP (pAssertI P 83 .nili .true v0) fun v39 =>
  kX v39 1 fun v40 =>
  kX v39 0 fun v41 =>
  sCond v40 (
  some (bF, h)) (
  bnd (sInvoke P call v41 "Unwrap" [] h) fun v43 h1 =>
  kZ v43 fun v44 =>
  j.2.1.2 v1 v2 v43 v44 (Z 0) h1)) (
  bnd (sInvoke P call v34 "Unwrap" [] h) fun v36 h2 =>
  bndP (pEq P .false .iface .true v36 .nili h2) fun v38 =>
  sCond v38 (
  j.1.1 v36 v1 v2 h2) (
  some (bF, h2)))
def f31.b3 (I : Inp) (call : CallFn) (j : f31.Js) (h : AHeap) : Rs :=
  some (bF, h)
def f31.b4 (I : Inp) (call : CallFn) (j : f31.Js) (v1 v2 v43 v44 v45 : AVal) (h : AHeap) : Rs :=
  kB .lss v45 v44 fun v46 =>
  sCond v46 (
  j.2.1.1 h) (
  j.2.2.1 v1 v2 v43 v44 v45 h)
def f31.b5 (I : Inp) (call : CallFn) (j : f31.Js) (v1 v2 v43 v44 v45 : AVal) (h : AHeap) : Rs :=
  kI 1 v43 v45 fun v47 =>
  kL I v47 h fun v48 =>
  kC call 31 [v48, v1, v2] h fun v52 h1 =>
  sCond v52 (
  j.2.2.2 v1 v2 v43 v44 v45 h1) (
  some (bT, h1))
def f31.b6 (I : Inp) (call : CallFn) (j : f31.Js) (v1 v2 v43 v44 v45 : AVal) (h : AHeap) : Rs :=
  kB .add v45 (Z 1) fun v53 =>
  j.2.1.2 v1 v2 v43 v44 v53 h
def f31.e (I : Inp) (call : CallFn) (j : f31.Js) (v0 v1 v2 : AVal) (h : AHeap) : Rs :=
  j.1.1 v0 v1 v2 h
def f31.J (I : Inp) (call : CallFn) (n : Nat) : f31.Js :=
  Nat.rec (motive := fun _ => f31.Js) ((Zr.z, (Zr.z, Zr.z)), ((Zr.z, Zr.z), (Zr.z, Zr.z))) (fun _ j => ((f31.b0 I call j, (f31.b1 I call j, f31.b2 I call j)), ((f31.b3 I call j, f31.b4 I call j), (f31.b5 I call j, f31.b6 I call j)))) n
theorem f31.n0 : (f31.J I call (n + 1)).1.1 = f31.b0 I call (f31.J I call n) := nrfl
theorem f31.n1 : (f31.J I call (n + 1)).1.2.1 = f31.b1 I call (f31.J I call n) := nrfl
theorem f31.n2 : (f31.J I call (n + 1)).1.2.2 = f31.b2 I call (f31.J I call n) := nrfl
theorem f31.n3 : (f31.J I call (n + 1)).2.1.1 = f31.b3 I call (f31.J I call n) := nrfl
theorem f31.n4 : (f31.J I call (n + 1)).2.1.2 = f31.b4 I call (f31.J I call n) := nrfl
theorem f31.n5 : (f31.J I call (n + 1)).2.2.1 = f31.b5 I call (f31.J I call n) := nrfl
theorem f31.n6 : (f31.J I call (n + 1)).2.2.2 = f31.b6 I call (f31.J I call n) := nrfl
def f31.JS (I : Inp) (call : CallFn) (n : Nat) : Jmp := (fun j : f31.Js => jmp [Ap.ap j.1.1 [0, 1, 2], Ap.ap j.1.2.1 [0, 1, 2], Ap.ap j.1.2.2 [0, 1, 2], Ap.ap j.2.1.1 [], Ap.ap j.2.1.2 [1, 2, 43, 44, 45], Ap.ap j.2.2.1 [1, 2, 43, 44, 45], Ap.ap j.2.2.2 [1, 2, 43, 44, 45]]) (f31.J I call n)
theorem f31.S : SFn ⟨P, I, F⟩ call c31 (f31.JS I call) := .all 7 (by kernel_rfl) (fun ρ h => by kernel_rfl) (fun n ρ h => by kernel_rfl)
theorem f31.qe : Ap.all (f31.e I call (f31.J I call n)) (fun l h => execC P I call (f31.JS I call n) c31.body 0 (finV I c31.results) (argV l) h) := fun v0 v1 v2 h => by kernel_rfl
theorem f31.code : codeOf P 31 = some c31 := by kernel_rfl
def f31.run (I : Inp) : SF := fun call n => Ap.ar (f31.e I call (f31.J I call n))
theorem f31.ok (I : Inp) (F : Nat → Option AFn) (hF : F 31 = some (.code c31)) : SfOk P I F 31 (f31.run I) := okOf hF (by kernel_rfl) (fun _ => f31.S) fun call n => f31.qe
theorem f31.lim (hp : prims 31 = none) {v0 v1 v2 : AVal} (hr : Res (f31.e I (AM.lim ⟨P, I, genF P prims⟩) (f31.J I (AM.lim ⟨P, I, genF P prims⟩) n) v0 v1 v2 h) Q) : Res ((AM.lim ⟨P, I, genF P prims⟩) 31 [v0, v1, v2] h) Q := limOf (n := n) hp f31.code (f31.ok I) hr rfl
/-! internal/strconv.Itoa -/
def c32 : AFunc := cOf P 32
abbrev f32.Js : Type := Unit
def f32.e (I : Inp) (call : CallFn) (j : f32.Js) (v0 : AVal) (h : AHeap) : Rs :=
  kC call 35 [v0, (Z 10)] h fun v4 h1 =>
  some (v4, h1)
theorem f32.S : SFn ⟨P, I, F⟩ call c32 (fun _ => jmp []) := .all 0 (by kernel_rfl) (fun ρ h => by kernel_rfl) (fun n ρ h => by kernel_rfl)
theorem f32.qe : Ap.all (f32.e I call ()) (fun l h => execC P I call (jmp []) c32.body 0 (finV I c32.results) (argV l) h) := fun v0 h => by kernel_rfl
theorem f32.code : codeOf P 32 = some c32 := by kernel_rfl
def f32.run (I : Inp) : SF := fun call n => Ap.ar (f32.e I call ())
theorem f32.ok (I : Inp) (F : Nat → Option AFn) (hF : F 32 = some (.code c32)) : SfOk P I F 32 (f32.run I) := okOf hF (by kernel_rfl) (fun _ => f32.S) fun call n => f32.qe
/-! internal/strconv.FormatInt -/
def c35 : AFunc := cOf P 35
abbrev f35.Js : Type := ((A2 × A1) × (A3 × A2))
def f35.b0 (I : Inp) (call : CallFn) (j : f35.Js) (v0 v1 : AVal) (h : AHeap) : Rs :=
  bndP (pToInt .u64 v0) fun v46 =>
  kB .lss v0 (Z 0) fun v49 =>
  kC call 39 [.nils, v46, v1, v49, bF] h fun v50 h1 =>
  kX v50 0 fun v51 =>
  kX v50 1 fun v52 =>
  some (v52, h1)
def f35.b1 (I : Inp) (call : CallFn) (j : f35.Js) (v0 : AVal) (h : AHeap) : Rs :=
  kA [(.int .u8 (.ofNat 0)), (.int .u8 (.ofNat 0)), (.int .u8 (.ofNat 0)), (.int .u8 (.ofNat 0)), (.int .u8 (.ofNat 0)), (.int .u8 (.ofNat 0)), (.int .u8 (.ofNat 0)), (.int .u8 (.ofNat 0)), (.int .u8 (.ofNat 0)), (.int .u8 (.ofNat 0)), (.int .u8 (.ofNat 0)), (.int .u8 (.ofNat 0)), (.int .u8 (.ofNat 0)), (.int .u8 (.ofNat 0)), (.int .u8 (.ofNat 0)), (.int .u8 (.ofNat 0)), (.int .u8 (.ofNat 0)), (.int .u8 (.ofNat 0)), (.int .u8 (.ofNat 0)), (.int .u8 (.ofNat 0)), (.int .u8 (.ofNat 0)), (.int .u8 (.ofNat 0)), (.int .u8 (.ofNat 0)), (.int .u8 (.ofNat 0))] h fun v5 h1 =>
  bndP (pToInt .u64 v0) fun v21 =>
  kB .lss v0 (Z 0) fun v23 =>
  sCond v23 (
  j.2.1 v0 v5 v21 h1) (
  kU .neg v21 fun v25 =>
  j.2.1 v0 v5 v25 h1)
def f35.b2 (I : Inp) (call : CallFn) (j : f35.Js) (v0 v5 v6 : AVal) (h : AHeap) : Rs :=
  kC call 37 [v6] h fun v27 h1 =>
  kB .add (Z 1) v27 fun v29 =>
  bndP (pSliceArr 24 1 v5 (some (Z 1)) (some v29) none) fun v30 =>
  kC call 38 [v30, v6] h1 fun v32 h2 =>
  kB .lss v0 (Z 0) fun v34 =>
  sCond v34 (
  j.2.2 v5 v27 h2) (
  bndP (pIndexAddrArr 24 1 v5 (Z 0)) fun v35 =>
  kS 1 v35 (.int .u8 (.ofNat 45)) h2 fun _ h3 =>
  kB .add (Z 1) v27 fun v37 =>
  bndP (pSliceArr 24 1 v5 none (some v37) none) fun v38 =>
  bndP (pToStr I v38 h3) fun v39 =>
  some (v39, h3))
def f35.b3 (I : Inp) (call : CallFn) (j : f35.Js) (v5 v7 : AVal) (h : AHeap) : Rs :=
  kB .add (Z 1) v7 fun v41 =>
  bndP (pSliceArr 24 1 v5 (some (Z 1)) (some v41) none) fun v42 =>
  bndP (pToStr I v42 h) fun v43 =>
  some (v43, h)
def f35.e (I : Inp) (call : CallFn) (j : f35.Js) (v0 v1 : AVal) (h : AHeap) : Rs :=
  kB .eql v1 (Z 10) fun v11 =>
  sCond v11 (
  j.1.1 v0 v1 h) (
  kB .leq (Z 0) v0 fun v13 =>
  gV v13 .true v0 h fun v15 h1 =>
  gP v13 .true (pBin .lss v15 (Z 100)) h1 fun v16 h2 =>
  kP v13 v16 bF fun v17 =>
  sCond v17 (
  j.1.2 v0 h2) (
  kC call 36 [v0] h2 fun v19 h3 =>
  some (v19, h3)))
def f35.J (I : Inp) (call : CallFn) (n : Nat) : f35.Js :=
  Nat.rec (motive := fun _ => f35.Js) ((Zr.z, Zr.z), (Zr.z, Zr.z)) (fun _ j => ((f35.b0 I call j, f35.b1 I call j), (f35.b2 I call j, f35.b3 I call j))) n
def f35.JS (I : Inp) (call : CallFn) (n : Nat) : Jmp := (fun j : f35.Js => jmp [Ap.ap j.1.1 [0, 1], Ap.ap j.1.2 [0], Ap.ap j.2.1 [0, 5, 6], Ap.ap j.2.2 [5, 7]]) (f35.J I call n)
theorem f35.S : SFn ⟨P, I, F⟩ call c35 (f35.JS I call) := .all 4 (by kernel_rfl) (fun ρ h => by kernel_rfl) (fun n ρ h => by kernel_rfl)
theorem f35.qe : Ap.all (f35.e I call (f35.J I call n)) (fun l h => execC P I call (f35.JS I call n) c35.body 0 (finV I c35.results) (argV l) h) := fun v0 v1 h => by kernel_rfl
theorem f35.code : codeOf P 35 = some c35 := by kernel_rfl
def f35.run (I : Inp) : SF := fun call n => Ap.ar (f35.e I call (f35.J I call n))
theorem f35.ok (I : Inp) (F : Nat → Option AFn) (hF : F 35 = some (.code c35)) : SfOk P I F 35 (f35.run I) := okOf hF (by kernel_rfl) (fun _ => f35.S) fun call n => f35.qe
/-! internal/strconv.small -/
def c36 : AFunc := cOf P 36
abbrev f36.Js : Type := A1
def f36.b0 (I : Inp) (call : CallFn) (j : f36.Js) (v0 : AVal) (h : AHeap) : Rs :=
  kB .mul v0 (Z 2) fun v10 =>
  kB .mul v0 (Z 2) fun v12 =>
  kB .add v12 (Z 2) fun v13 =>
  bndP (pSliceStr (.str [48, 48, 48, 49, 48, 50, 48, 51, 48, 52, 48, 53, 48, 54, 48, 55, 48, 56, 48, 57, 49, 48, 49, 49, 49, 50, 49, 51, 49, 52, 49, 53, 49, 54, 49, 55, 49, 56, 49, 57, 50, 48, 50, 49, 50, 50, 50, 51, 50, 52, 50, 53, 50, 54, 50, 55, 50, 56, 50, 57, 51, 48, 51, 49, 51, 50, 51, 51, 51, 52, 51, 53, 51, 54, 51, 55, 51, 56, 51, 57, 52, 48, 52, 49, 52, 50, 52, 51, 52, 52, 52, 53, 52, 54, 52, 55, 52, 56, 52, 57, 53, 48, 53, 49, 53, 50, 53, 51, 53, 52, 53, 53, 53, 54, 53, 55, 53, 56, 53, 57, 54, 48, 54, 49, 54, 50, 54, 51, 54, 52, 54, 53, 54, 54, 54, 55, 54, 56, 54, 57, 55, 48, 55, 49, 55, 50, 55, 51, 55, 52, 55, 53, 55, 54, 55, 55, 55, 56, 55, 57, 56, 48, 56, 49, 56, 50, 56, 51, 56, 52, 56, 53, 56, 54, 56, 55, 56, 56, 56, 57, 57, 48, 57, 49, 57, 50, 57, 51, 57, 52, 57, 53, 57, 54, 57, 55, 57, 56, 57, 57]) (some v10) (some v13)) fun v14 =>
  some (v14, h)
def f36.e (I : Inp) (call : CallFn) (j : f36.Js) (v0 : AVal) (h : AHeap) : Rs :=
  kB .lss v0 (Z 10) fun v4 =>
  sCond v4 (
  j v0 h) (
  kB .add v0 (Z 1) fun v7 =>
  bndP (pSliceStr (.str [48, 49, 50, 51, 52, 53, 54, 55, 56, 57, 97, 98, 99, 100, 101, 102, 103, 104, 105, 106, 107, 108, 109, 110, 111, 112, 113, 114, 115, 116, 117, 118, 119, 120, 121, 122]) (some v0) (some v7)) fun v8 =>
  some (v8, h))
def f36.J (I : Inp) (call : CallFn) (n : Nat) : f36.Js :=
  Nat.rec (motive := fun _ => f36.Js) Zr.z (fun _ j => f36.b0 I call j) n
def f36.JS (I : Inp) (call : CallFn) (n : Nat) : Jmp := (fun j : f36.Js => jmp [Ap.ap j [0]]) (f36.J I call n)
theorem f36.S : SFn ⟨P, I, F⟩ call c36 (f36.JS I call) := .all 1 (by kernel_rfl) (fun ρ h => by kernel_rfl) (fun n ρ h => by kernel_rfl)
theorem f36.qe : Ap.all (f36.e I call (f36.J I call n)) (fun l h => execC P I call (f36.JS I call n) c36.body 0 (finV I c36.results) (argV l) h) := fun v0 h => by kernel_rfl
theorem f36.code : codeOf P 36 = some c36 := by kernel_rfl
def f36.run (I : Inp) : SF := fun call n => Ap.ar (f36.e I call (f36.J I call n))
theorem f36.ok (I : Inp) (F : Nat → Option AFn) (hF : F 36 = some (.code c36)) : SfOk P I F 36 (f36.run I) := okOf hF (by kernel_rfl) (fun _ => f36.S) fun call n => f36.qe
/-! internal/strconv.numDigits -/
def c37 : AFunc := cOf P 37
abbrev f37.Js : Type := Unit
def f37.e (I : Inp) (call : CallFn) (j : f37.Js) (v0 : AVal) (h : AHeap) : Rs :=
  kC call 41 [v0] h fun v5 h1 =>
  kC call 40 [v5] h1 fun v6 h2 =>
  bndP (pIndexAddrArr 20 1 (.ptr (.inp 2) 0) v6) fun v10 =>
  kL I v10 h2 fun v11 =>
  kB .geq v0 v11 fun v12 =>
  kC call 42 [v12] h2 fun v13 h3 =>
  kB .add v6 v13 fun v14 =>
  some (v14, h3)
theorem f37.S : SFn ⟨P, I, F⟩ call c37 (fun _ => jmp []) := .all 0 (by kernel_rfl) (fun ρ h => by kernel_rfl) (fun n ρ h => by kernel_rfl)
theorem f37.qe : Ap.all (f37.e I call ()) (fun l h => execC P I call (jmp []) c37.body 0 (finV I c37.results) (argV l) h) := fun v0 h => by kernel_rfl
theorem f37.code : codeOf P 37 = some c37 := by kernel_rfl
def f37.run (I : Inp) : SF := fun call n => Ap.ar (f37.e I call ())
theorem f37.ok (I : Inp) (F : Nat → Option AFn) (hF : F 37 = some (.code c37)) : SfOk P I F 37 (f37.run I) := okOf hF (by kernel_rfl) (fun _ => f37.S) fun call n => f37.qe
/-! internal/strconv.formatBase10 -/
def c38 : AFunc := cOf P 38
abbrev f38.Js : Type := ((A3 × A3) × (A3 × (A3 × A3)))
def f38.b0 (I : Inp) (call : CallFn) (j : f38.Js) (v0 v1 v4 : AVal) (h : AHeap) : Rs :=
  bndP (pToInt .u32 v1) fun v97 =>
  kB .geq v4 (Z 4) fun v99 =>
  sCond v99 (
  j.2.2.1 v0 v4 v97 h) (
  kB .rem v97 (.int .u32 (.ofNat 10000)) fun v101 =>
  kB .quo v97 (.int .u32 (.ofNat 10000)) fun v103 =>
  kB .quo v101 (.int .u32 (.ofNat 100)) fun v105 =>
  kB .mul v105 (.int .u32 (.ofNat 2)) fun v106 =>
  kB .rem v101 (.int .u32 (.ofNat 100)) fun v108 =>
  kB .mul v108 (.int .u32 (.ofNat 2)) fun v109 =>
  kB .sub v4 (Z 1) fun v112 =>
  kB .sub v4 (Z 2) fun v115 =>
  kB .add v109 (.int .u32 (.ofNat 1)) fun v117 =>
  bndP (pIndexStr (.str [48, 48, 48, 49, 48, 50, 48, 51, 48, 52, 48, 53, 48, 54, 48, 55, 48, 56, 48, 57, 49, 48, 49, 49, 49, 50, 49, 51, 49, 52, 49, 53, 49, 54, 49, 55, 49, 56, 49, 57, 50, 48, 50, 49, 50, 50, 50, 51, 50, 52, 50, 53, 50, 54, 50, 55, 50, 56, 50, 57, 51, 48, 51, 49, 51, 50, 51, 51, 51, 52, 51, 53, 51, 54, 51, 55, 51, 56, 51, 57, 52, 48, 52, 49, 52, 50, 52, 51, 52, 52, 52, 53, 52, 54, 52, 55, 52, 56, 52, 57, 53, 48, 53, 49, 53, 50, 53, 51, 53, 52, 53, 53, 53, 54, 53, 55, 53, 56, 53, 57, 54, 48, 54, 49, 54, 50, 54, 51, 54, 52, 54, 53, 54, 54, 54, 55, 54, 56, 54, 57, 55, 48, 55, 49, 55, 50, 55, 51, 55, 52, 55, 53, 55, 54, 55, 55, 55, 56, 55, 57, 56, 48, 56, 49, 56, 50, 56, 51, 56, 52, 56, 53, 56, 54, 56, 55, 56, 56, 56, 57, 57, 48, 57, 49, 57, 50, 57, 51, 57, 52, 57, 53, 57, 54, 57, 55, 57, 56, 57, 57]) v117) fun v118 =>
  bndP (pIndexStr (.str [48, 48, 48, 49, 48, 50, 48, 51, 48, 52, 48, 53, 48, 54, 48, 55, 48, 56, 48, 57, 49, 48, 49, 49, 49, 50, 49, 51, 49, 52, 49, 53, 49, 54, 49, 55, 49, 56, 49, 57, 50, 48, 50, 49, 50, 50, 50, 51, 50, 52, 50, 53, 50, 54, 50, 55, 50, 56, 50, 57, 51, 48, 51, 49, 51, 50, 51, 51, 51, 52, 51, 53, 51, 54, 51, 55, 51, 56, 51, 57, 52, 48, 52, 49, 52, 50, 52, 51, 52, 52, 52, 53, 52, 54, 52, 55, 52, 56, 52, 57, 53, 48, 53, 49, 53, 50, 53, 51, 53, 52, 53, 53, 53, 54, 53, 55, 53, 56, 53, 57, 54, 48, 54, 49, 54, 50, 54, 51, 54, 52, 54, 53, 54, 54, 54, 55, 54, 56, 54, 57, 55, 48, 55, 49, 55, 50, 55, 51, 55, 52, 55, 53, 55, 54, 55, 55, 55, 56, 55, 57, 56, 48, 56, 49, 56, 50, 56, 51, 56, 52, 56, 53, 56, 54, 56, 55, 56, 56, 56, 57, 57, 48, 57, 49, 57, 50, 57, 51, 57, 52, 57, 53, 57, 54, 57, 55, 57, 56, 57, 57]) v109) fun v120 =>
  kI 1 v0 v112 fun v121 =>
  kS 1 v121 v118 h fun _ h1 =>
  kI 1 v0 v115 fun v122 =>
  kS 1 v122 v120 h1 fun _ h2 =>
  kB .sub v4 (Z 3) fun v125 =>
  kB .sub v4 (Z 4) fun v128 =>
  kB .add v106 (.int .u32 (.ofNat 1)) fun v130 =>
  bndP (pIndexStr (.str [48, 48, 48, 49, 48, 50, 48, 51, 48, 52, 48, 53, 48, 54, 48, 55, 48, 56, 48, 57, 49, 48, 49, 49, 49, 50, 49, 51, 49, 52, 49, 53, 49, 54, 49, 55, 49, 56, 49, 57, 50, 48, 50, 49, 50, 50, 50, 51, 50, 52, 50, 53, 50, 54, 50, 55, 50, 56, 50, 57, 51, 48, 51, 49, 51, 50, 51, 51, 51, 52, 51, 53, 51, 54, 51, 55, 51, 56, 51, 57, 52, 48, 52, 49, 52, 50, 52, 51, 52, 52, 52, 53, 52, 54, 52, 55, 52, 56, 52, 57, 53, 48, 53, 49, 53, 50, 53, 51, 53, 52, 53, 53, 53, 54, 53, 55, 53, 56, 53, 57, 54, 48, 54, 49, 54, 50, 54, 51, 54, 52, 54, 53, 54, 54, 54, 55, 54, 56, 54, 57, 55, 48, 55, 49, 55, 50, 55, 51, 55, 52, 55, 53, 55, 54, 55, 55, 55, 56, 55, 57, 56, 48, 56, 49, 56, 50, 56, 51, 56, 52, 56, 53, 56, 54, 56, 55, 56, 56, 56, 57, 57, 48, 57, 49, 57, 50, 57, 51, 57, 52, 57, 53, 57, 54, 57, 55, 57, 56, 57, 57]) v130) fun v131 =>
  bndP (pIndexStr (.str [48, 48, 48, 49, 48, 50, 48, 51, 48, 52, 48, 53, 48, 54, 48, 55, 48, 56, 48, 57, 49, 48, 49, 49, 49, 50, 49, 51, 49, 52, 49, 53, 49, 54, 49, 55, 49, 56, 49, 57, 50, 48, 50, 49, 50, 50, 50, 51, 50, 52, 50, 53, 50, 54, 50, 55, 50, 56, 50, 57, 51, 48, 51, 49, 51, 50, 51, 51, 51, 52, 51, 53, 51, 54, 51, 55, 51, 56, 51, 57, 52, 48, 52, 49, 52, 50, 52, 51, 52, 52, 52, 53, 52, 54, 52, 55, 52, 56, 52, 57, 53, 48, 53, 49, 53, 50, 53, 51, 53, 52, 53, 53, 53, 54, 53, 55, 53, 56, 53, 57, 54, 48, 54, 49, 54, 50, 54, 51, 54, 52, 54, 53, 54, 54, 54, 55, 54, 56, 54, 57, 55, 48, 55, 49, 55, 50, 55, 51, 55, 52, 55, 53, 55, 54, 55, 55, 55, 56, 55, 57, 56, 48, 56, 49, 56, 50, 56, 51, 56, 52, 56, 53, 56, 54, 56, 55, 56, 56, 56, 57, 57, 48, 57, 49, 57, 50, 57, 51, 57, 52, 57, 53, 57, 54, 57, 55, 57, 56, 57, 57]) v106) fun v133 =>
  kI 1 v0 v125 fun v134 =>
  kS 1 v134 v131 h2 fun _ h3 =>
  kI 1 v0 v128 fun v135 =>
  kS 1 v135 v133 h3 fun _ h4 =>
  kB .sub v4 (Z 4) fun v137 =>
  j.2.2.1 v0 v137 v103 h4)
def f38.b1 (I : Inp) (call : CallFn) (j : f38.Js) (v0 v1 v4 : AVal) (h : AHeap) : Rs :=
  kB .geq v4 (Z 8) fun v20 =>
  sCond v20 (
  j.1.1 v0 v1 v4 h) (
  j.2.1 v0 v1 v4 h)
def f38.b2 (I : Inp) (call : CallFn) (j : f38.Js) (v0 v1 v4 : AVal) (h : AHeap) : Rs :=
  kB .rem v1 (.int .u64 (.ofNat 100000000)) fun v22 =>
  bndP (pToInt .u32 v22) fun v23 =>
  kB .quo v1 (.int .u64 (.ofNat 100000000)) fun v25 =>
  kB .quo v23 (.int .u32 (.ofNat 10000)) fun v27 =>
  kB .rem v23 (.int .u32 (.ofNat 10000)) fun v29 =>
  kB .quo v29 (.int .u32 (.ofNat 100)) fun v31 =>
  kB .mul v31 (.int .u32 (.ofNat 2)) fun v32 =>
  kB .rem v29 (.int .u32 (.ofNat 100)) fun v34 =>
  kB .mul v34 (.int .u32 (.ofNat 2)) fun v35 =>
  kB .quo v27 (.int .u32 (.ofNat 100)) fun v37 =>
  kB .mul v37 (.int .u32 (.ofNat 2)) fun v38 =>
  kB .rem v27 (.int .u32 (.ofNat 100)) fun v40 =>
  kB .mul v40 (.int .u32 (.ofNat 2)) fun v41 =>
  kB .sub v4 (Z 1) fun v44 =>
  kB .sub v4 (Z 2) fun v47 =>
  kB .add v35 (.int .u32 (.ofNat 1)) fun v49 =>
  bndP (pIndexStr (.str [48, 48, 48, 49, 48, 50, 48, 51, 48, 52, 48, 53, 48, 54, 48, 55, 48, 56, 48, 57, 49, 48, 49, 49, 49, 50, 49, 51, 49, 52, 49, 53, 49, 54, 49, 55, 49, 56, 49, 57, 50, 48, 50, 49, 50, 50, 50, 51, 50, 52, 50, 53, 50, 54, 50, 55, 50, 56, 50, 57, 51, 48, 51, 49, 51, 50, 51, 51, 51, 52, 51, 53, 51, 54, 51, 55, 51, 56, 51, 57, 52, 48, 52, 49, 52, 50, 52, 51, 52, 52, 52, 53, 52, 54, 52, 55, 52, 56, 52, 57, 53, 48, 53, 49, 53, 50, 53, 51, 53, 52, 53, 53, 53, 54, 53, 55, 53, 56, 53, 57, 54, 48, 54, 49, 54, 50, 54, 51, 54, 52, 54, 53, 54, 54, 54, 55, 54, 56, 54, 57, 55, 48, 55, 49, 55, 50, 55, 51, 55, 52, 55, 53, 55, 54, 55, 55, 55, 56, 55, 57, 56, 48, 56, 49, 56, 50, 56, 51, 56, 52, 56, 53, 56, 54, 56, 55, 56, 56, 56, 57, 57, 48, 57, 49, 57, 50, 57, 51, 57, 52, 57, 53, 57, 54, 57, 55, 57, 56, 57, 57]) v49) fun v50 =>
  bndP (pIndexStr (.str [48, 48, 48, 49, 48, 50, 48, 51, 48, 52, 48, 53, 48, 54, 48, 55, 48, 56, 48, 57, 49, 48, 49, 49, 49, 50, 49, 51, 49, 52, 49, 53, 49, 54, 49, 55, 49, 56, 49, 57, 50, 48, 50, 49, 50, 50, 50, 51, 50, 52, 50, 53, 50, 54, 50, 55, 50, 56, 50, 57, 51, 48, 51, 49, 51, 50, 51, 51, 51, 52, 51, 53, 51, 54, 51, 55, 51, 56, 51, 57, 52, 48, 52, 49, 52, 50, 52, 51, 52, 52, 52, 53, 52, 54, 52, 55, 52, 56, 52, 57, 53, 48, 53, 49, 53, 50, 53, 51, 53, 52, 53, 53, 53, 54, 53, 55, 53, 56, 53, 57, 54, 48, 54, 49, 54, 50, 54, 51, 54, 52, 54, 53, 54, 54, 54, 55, 54, 56, 54, 57, 55, 48, 55, 49, 55, 50, 55, 51, 55, 52, 55, 53, 55, 54, 55, 55, 55, 56, 55, 57, 56, 48, 56, 49, 56, 50, 56, 51, 56, 52, 56, 53, 56, 54, 56, 55, 56, 56, 56, 57, 57, 48, 57, 49, 57, 50, 57, 51, 57, 52, 57, 53, 57, 54, 57, 55, 57, 56, 57, 57]) v35) fun v52 =>
  kI 1 v0 v44 fun v53 =>
  kS 1 v53 v50 h fun _ h1 =>
  kI 1 v0 v47 fun v54 =>
  kS 1 v54 v52 h1 fun _ h2 =>
  kB .sub v4 (Z 3) fun v57 =>
  kB .sub v4 (Z 4) fun v60 =>
  kB .add v32 (.int .u32 (.ofNat 1)) fun v62 =>
  bndP (pIndexStr (.str [48, 48, 48, 49, 48, 50, 48, 51, 48, 52, 48, 53, 48, 54, 48, 55, 48, 56, 48, 57, 49, 48, 49, 49, 49, 50, 49, 51, 49, 52, 49, 53, 49, 54, 49, 55, 49, 56, 49, 57, 50, 48, 50, 49, 50, 50, 50, 51, 50, 52, 50, 53, 50, 54, 50, 55, 50, 56, 50, 57, 51, 48, 51, 49, 51, 50, 51, 51, 51, 52, 51, 53, 51, 54, 51, 55, 51, 56, 51, 57, 52, 48, 52, 49, 52, 50, 52, 51, 52, 52, 52, 53, 52, 54, 52, 55, 52, 56, 52, 57, 53, 48, 53, 49, 53, 50, 53, 51, 53, 52, 53, 53, 53, 54, 53, 55, 53, 56, 53, 57, 54, 48, 54, 49, 54, 50, 54, 51, 54, 52, 54, 53, 54, 54, 54, 55, 54, 56, 54, 57, 55, 48, 55, 49, 55, 50, 55, 51, 55, 52, 55, 53, 55, 54, 55, 55, 55, 56, 55, 57, 56, 48, 56, 49, 56, 50, 56, 51, 56, 52, 56, 53, 56, 54, 56, 55, 56, 56, 56, 57, 57, 48, 57, 49, 57, 50, 57, 51, 57, 52, 57, 53, 57, 54, 57, 55, 57, 56, 57, 57]) v62) fun v63 =>
  bndP (pIndexStr (.str [48, 48, 48, 49, 48, 50, 48, 51, 48, 52, 48, 53, 48, 54, 48, 55, 48, 56, 48, 57, 49, 48, 49, 49, 49, 50, 49, 51, 49, 52, 49, 53, 49, 54, 49, 55, 49, 56, 49, 57, 50, 48, 50, 49, 50, 50, 50, 51, 50, 52, 50, 53, 50, 54, 50, 55, 50, 56, 50, 57, 51, 48, 51, 49, 51, 50, 51, 51, 51, 52, 51, 53, 51, 54, 51, 55, 51, 56, 51, 57, 52, 48, 52, 49, 52, 50, 52, 51, 52, 52, 52, 53, 52, 54, 52, 55, 52, 56, 52, 57, 53, 48, 53, 49, 53, 50, 53, 51, 53, 52, 53, 53, 53, 54, 53, 55, 53, 56, 53, 57, 54, 48, 54, 49, 54, 50, 54, 51, 54, 52, 54, 53, 54, 54, 54, 55, 54, 56, 54, 57, 55, 48, 55, 49, 55, 50, 55, 51, 55, 52, 55, 53, 55, 54, 55, 55, 55, 56, 55, 57, 56, 48, 56, 49, 56, 50, 56, 51, 56, 52, 56, 53, 56, 54, 56, 55, 56, 56, 56, 57, 57, 48, 57, 49, 57, 50, 57, 51, 57, 52, 57, 53, 57, 54, 57, 55, 57, 56, 57, 57]) v32) fun v65 =>
  kI 1 v0 v57 fun v66 =>
  kS 1 v66 v63 h2 fun _ h3 =>
  kI 1 v0 v60 fun v67 =>
  kS 1 v67 v65 h3 fun _ h4 =>
  kB .sub v4 (Z 5) fun v70 =>
  kB .sub v4 (Z 6) fun v73 =>
  kB .add v41 (.int .u32 (.ofNat 1)) fun v75 =>
  bndP (pIndexStr (.str [48, 48, 48, 49, 48, 50, 48, 51, 48, 52, 48, 53, 48, 54, 48, 55, 48, 56, 48, 57, 49, 48, 49, 49, 49, 50, 49, 51, 49, 52, 49, 53, 49, 54, 49, 55, 49, 56, 49, 57, 50, 48, 50, 49, 50, 50, 50, 51, 50, 52, 50, 53, 50, 54, 50, 55, 50, 56, 50, 57, 51, 48, 51, 49, 51, 50, 51, 51, 51, 52, 51, 53, 51, 54, 51, 55, 51, 56, 51, 57, 52, 48, 52, 49, 52, 50, 52, 51, 52, 52, 52, 53, 52, 54, 52, 55, 52, 56, 52, 57, 53, 48, 53, 49, 53, 50, 53, 51, 53, 52, 53, 53, 53, 54, 53, 55, 53, 56, 53, 57, 54, 48, 54, 49, 54, 50, 54, 51, 54, 52, 54, 53, 54, 54, 54, 55, 54, 56, 54, 57, 55, 48, 55, 49, 55, 50, 55, 51, 55, 52, 55, 53, 55, 54, 55, 55, 55, 56, 55, 57, 56, 48, 56, 49, 56, 50, 56, 51, 56, 52, 56, 53, 56, 54, 56, 55, 56, 56, 56, 57, 57, 48, 57, 49, 57, 50, 57, 51, 57, 52, 57, 53, 57, 54, 57, 55, 57, 56, 57, 57]) v75) fun v76 =>
  bndP (pIndexStr (.str [48, 48, 48, 49, 48, 50, 48, 51, 48, 52, 48, 53, 48, 54, 48, 55, 48, 56, 48, 57, 49, 48, 49, 49, 49, 50, 49, 51, 49, 52, 49, 53, 49, 54, 49, 55, 49, 56, 49, 57, 50, 48, 50, 49, 50, 50, 50, 51, 50, 52, 50, 53, 50, 54, 50, 55, 50, 56, 50, 57, 51, 48, 51, 49, 51, 50, 51, 51, 51, 52, 51, 53, 51, 54, 51, 55, 51, 56, 51, 57, 52, 48, 52, 49, 52, 50, 52, 51, 52, 52, 52, 53, 52, 54, 52, 55, 52, 56, 52, 57, 53, 48, 53, 49, 53, 50, 53, 51, 53, 52, 53, 53, 53, 54, 53, 55, 53, 56, 53, 57, 54, 48, 54, 49, 54, 50, 54, 51, 54, 52, 54, 53, 54, 54, 54, 55, 54, 56, 54, 57, 55, 48, 55, 49, 55, 50, 55, 51, 55, 52, 55, 53, 55, 54, 55, 55, 55, 56, 55, 57, 56, 48, 56, 49, 56, 50, 56, 51, 56, 52, 56, 53, 56, 54, 56, 55, 56, 56, 56, 57, 57, 48, 57, 49, 57, 50, 57, 51, 57, 52, 57, 53, 57, 54, 57, 55, 57, 56, 57, 57]) v41) fun v78 =>
  kI 1 v0 v70 fun v79 =>
  kS 1 v79 v76 h4 fun _ h5 =>
  kI 1 v0 v73 fun v80 =>
  kS 1 v80 v78 h5 fun _ h6 =>
  kB .sub v4 (Z 7) fun v83 =>
  kB .sub v4 (Z 8) fun v86 =>
  kB .add v38 (.int .u32 (.ofNat 1)) fun v88 =>
  bndP (pIndexStr (.str [48, 48, 48, 49, 48, 50, 48, 51, 48, 52, 48, 53, 48, 54, 48, 55, 48, 56, 48, 57, 49, 48, 49, 49, 49, 50, 49, 51, 49, 52, 49, 53, 49, 54, 49, 55, 49, 56, 49, 57, 50, 48, 50, 49, 50, 50, 50, 51, 50, 52, 50, 53, 50, 54, 50, 55, 50, 56, 50, 57, 51, 48, 51, 49, 51, 50, 51, 51, 51, 52, 51, 53, 51, 54, 51, 55, 51, 56, 51, 57, 52, 48, 52, 49, 52, 50, 52, 51, 52, 52, 52, 53, 52, 54, 52, 55, 52, 56, 52, 57, 53, 48, 53, 49, 53, 50, 53, 51, 53, 52, 53, 53, 53, 54, 53, 55, 53, 56, 53, 57, 54, 48, 54, 49, 54, 50, 54, 51, 54, 52, 54, 53, 54, 54, 54, 55, 54, 56, 54, 57, 55, 48, 55, 49, 55, 50, 55, 51, 55, 52, 55, 53, 55, 54, 55, 55, 55, 56, 55, 57, 56, 48, 56, 49, 56, 50, 56, 51, 56, 52, 56, 53, 56, 54, 56, 55, 56, 56, 56, 57, 57, 48, 57, 49, 57, 50, 57, 51, 57, 52, 57, 53, 57, 54, 57, 55, 57, 56, 57, 57]) v88) fun v89 =>
  bndP (pIndexStr (.str [48, 48, 48, 49, 48, 50, 48, 51, 48, 52, 48, 53, 48, 54, 48, 55, 48, 56, 48, 57, 49, 48, 49, 49, 49, 50, 49, 51, 49, 52, 49, 53, 49, 54, 49, 55, 49, 56, 49, 57, 50, 48, 50, 49, 50, 50, 50, 51, 50, 52, 50, 53, 50, 54, 50, 55, 50, 56, 50, 57, 51, 48, 51, 49, 51, 50, 51, 51, 51, 52, 51, 53, 51, 54, 51, 55, 51, 56, 51, 57, 52, 48, 52, 49, 52, 50, 52, 51, 52, 52, 52, 53, 52, 54, 52, 55, 52, 56, 52, 57, 53, 48, 53, 49, 53, 50, 53, 51, 53, 52, 53, 53, 53, 54, 53, 55, 53, 56, 53, 57, 54, 48, 54, 49, 54, 50, 54, 51, 54, 52, 54, 53, 54, 54, 54, 55, 54, 56, 54, 57, 55, 48, 55, 49, 55, 50, 55, 51, 55, 52, 55, 53, 55, 54, 55, 55, 55, 56, 55, 57, 56, 48, 56, 49, 56, 50, 56, 51, 56, 52, 56, 53, 56, 54, 56, 55, 56, 56, 56, 57, 57, 48, 57, 49, 57, 50, 57, 51, 57, 52, 57, 53, 57, 54, 57, 55, 57, 56, 57, 57]) v38) fun v91 =>
  kI 1 v0 v83 fun v92 =>
  kS 1 v92 v89 h6 fun _ h7 =>
  kI 1 v0 v86 fun v93 =>
  kS 1 v93 v91 h7 fun _ h8 =>
  kB .sub v4 (Z 8) fun v95 =>
  j.1.2 v0 v25 v95 h8
def f38.b3 (I : Inp) (call : CallFn) (j : f38.Js) (v0 v4 v12 : AVal) (h : AHeap) : Rs :=
  kB .geq v4 (Z 2) fun v139 =>
  sCond v139 (
  j.2.2.2 v0 v4 v12 h) (
  kB .rem v12 (.int .u32 (.ofNat 100)) fun v141 =>
  kB .mul v141 (.int .u32 (.ofNat 2)) fun v142 =>
  kB .quo v12 (.int .u32 (.ofNat 100)) fun v144 =>
  kB .sub v4 (Z 1) fun v147 =>
  kB .sub v4 (Z 2) fun v150 =>
  kB .add v142 (.int .u32 (.ofNat 1)) fun v152 =>
  bndP (pIndexStr (.str [48, 48, 48, 49, 48, 50, 48, 51, 48, 52, 48, 53, 48, 54, 48, 55, 48, 56, 48, 57, 49, 48, 49, 49, 49, 50, 49, 51, 49, 52, 49, 53, 49, 54, 49, 55, 49, 56, 49, 57, 50, 48, 50, 49, 50, 50, 50, 51, 50, 52, 50, 53, 50, 54, 50, 55, 50, 56, 50, 57, 51, 48, 51, 49, 51, 50, 51, 51, 51, 52, 51, 53, 51, 54, 51, 55, 51, 56, 51, 57, 52, 48, 52, 49, 52, 50, 52, 51, 52, 52, 52, 53, 52, 54, 52, 55, 52, 56, 52, 57, 53, 48, 53, 49, 53, 50, 53, 51, 53, 52, 53, 53, 53, 54, 53, 55, 53, 56, 53, 57, 54, 48, 54, 49, 54, 50, 54, 51, 54, 52, 54, 53, 54, 54, 54, 55, 54, 56, 54, 57, 55, 48, 55, 49, 55, 50, 55, 51, 55, 52, 55, 53, 55, 54, 55, 55, 55, 56, 55, 57, 56, 48, 56, 49, 56, 50, 56, 51, 56, 52, 56, 53, 56, 54, 56, 55, 56, 56, 56, 57, 57, 48, 57, 49, 57, 50, 57, 51, 57, 52, 57, 53, 57, 54, 57, 55, 57, 56, 57, 57]) v152) fun v153 =>
  bndP (pIndexStr (.str [48, 48, 48, 49, 48, 50, 48, 51, 48, 52, 48, 53, 48, 54, 48, 55, 48, 56, 48, 57, 49, 48, 49, 49, 49, 50, 49, 51, 49, 52, 49, 53, 49, 54, 49, 55, 49, 56, 49, 57, 50, 48, 50, 49, 50, 50, 50, 51, 50, 52, 50, 53, 50, 54, 50, 55, 50, 56, 50, 57, 51, 48, 51, 49, 51, 50, 51, 51, 51, 52, 51, 53, 51, 54, 51, 55, 51, 56, 51, 57, 52, 48, 52, 49, 52, 50, 52, 51, 52, 52, 52, 53, 52, 54, 52, 55, 52, 56, 52, 57, 53, 48, 53, 49, 53, 50, 53, 51, 53, 52, 53, 53, 53, 54, 53, 55, 53, 56, 53, 57, 54, 48, 54, 49, 54, 50, 54, 51, 54, 52, 54, 53, 54, 54, 54, 55, 54, 56, 54, 57, 55, 48, 55, 49, 55, 50, 55, 51, 55, 52, 55, 53, 55, 54, 55, 55, 55, 56, 55, 57, 56, 48, 56, 49, 56, 50, 56, 51, 56, 52, 56, 53, 56, 54, 56, 55, 56, 56, 56, 57, 57, 48, 57, 49, 57, 50, 57, 51, 57, 52, 57, 53, 57, 54, 57, 55, 57, 56, 57, 57]) v142) fun v155 =>
  kI 1 v0 v147 fun v156 =>
  kS 1 v156 v153 h fun _ h1 =>
  kI 1 v0 v150 fun v157 =>
  kS 1 v157 v155 h1 fun _ h2 =>
  kB .sub v4 (Z 2) fun v159 =>
  j.2.2.2 v0 v159 v144 h2)
def f38.b4 (I : Inp) (call : CallFn) (j : f38.Js) (v0 v4 v12 : AVal) (h : AHeap) : Rs :=
  kB .gtr v4 (Z 0) fun v161 =>
  sCond v161 (
  some (.tuple [], h)) (
  kB .add (.int .u32 (.ofNat 48)) v12 fun v164 =>
  bndP (pToInt .u8 v164) fun v165 =>
  kI 1 v0 (Z 0) fun v166 =>
  kS 1 v166 v165 h fun _ h1 =>
  some (.tuple [], h1))
def f38.e (I : Inp) (call : CallFn) (j : f38.Js) (v0 v1 : AVal) (h : AHeap) : Rs :=
  kZ v0 fun v18 =>
  j.1.2 v0 v1 v18 h
def f38.J (I : Inp) (call : CallFn) (n : Nat) : f38.Js :=
  Nat.rec (motive := fun _ => f38.Js) ((Zr.z, Zr.z), (Zr.z, (Zr.z, Zr.z))) (fun _ j => ((f38.b0 I call j, f38.b1 I call j), (f38.b2 I call j, (f38.b3 I call j, f38.b4 I call j)))) n
def f38.JS (I : Inp) (call : CallFn) (n : Nat) : Jmp := (fun j : f38.Js => jmp [Ap.ap j.1.1 [0, 1, 4], Ap.ap j.1.2 [0, 1, 4], Ap.ap j.2.1 [0, 1, 4], Ap.ap j.2.2.1 [0, 4, 12], Ap.ap j.2.2.2 [0, 4, 12]]) (f38.J I call n)
theorem f38.S : SFn ⟨P, I, F⟩ call c38 (f38.JS I call) := .all 5 (by kernel_rfl) (fun ρ h => by kernel_rfl) (fun n ρ h => by kernel_rfl)
theorem f38.qe : Ap.all (f38.e I call (f38.J I call n)) (fun l h => execC P I call (f38.JS I call n) c38.body 0 (finV I c38.results) (argV l) h) := fun v0 v1 h => by kernel_rfl
theorem f38.code : codeOf P 38 = some c38 := by kernel_rfl
def f38.run (I : Inp) : SF := fun call n => Ap.ar (f38.e I call (f38.J I call n))
theorem f38.ok (I : Inp) (F : Nat → Option AFn) (hF : F 38 = some (.code c38)) : SfOk P I F 38 (f38.run I) := okOf hF (by kernel_rfl) (fun _ => f38.S) fun call n => f38.qe
/-! internal/strconv.formatBits -/
def c39 : AFunc := cOf P 39
abbrev f39.Js : Type := (((A7 × A9) × (A7 × (A8 × (AVal → AVal → A9)))) × (((AVal → AVal → A9) × (A8 × A9)) × (A9 × (A6 × A3))))
def f39.b0 (I : Inp) (call : CallFn) (j : f39.Js) (v0 v1 v2 v3 v4 v10 v11 : AVal) (h : AHeap) : Rs :=
  kA [(.int .u8 (.ofNat 0)), (.int .u8 (.ofNat 0)), (.int .u8 (.ofNat 0)), (.int .u8 (.ofNat 0)), (.int .u8 (.ofNat 0)), (.int .u8 (.ofNat 0)), (.int .u8 (.ofNat 0)), (.int .u8 (.ofNat 0)), (.int .u8 (.ofNat 0)), (.int .u8 (.ofNat 0)), (.int .u8 (.ofNat 0)), (.int .u8 (.ofNat 0)), (.int .u8 (.ofNat 0)), (.int .u8 (.ofNat 0)), (.int .u8 (.ofNat 0)), (.int .u8 (.ofNat 0)), (.int .u8 (.ofNat 0)), (.int .u8 (.ofNat 0)), (.int .u8 (.ofNat 0)), (.int .u8 (.ofNat 0)), (.int .u8 (.ofNat 0)), (.int .u8 (.ofNat 0)), (.int .u8 (.ofNat 0)), (.int .u8 (.ofNat 0)), (.int .u8 (.ofNat 0)), (.int .u8 (.ofNat 0)), (.int .u8 (.ofNat 0)), (.int .u8 (.ofNat 0)), (.int .u8 (.ofNat 0)), (.int .u8 (.ofNat 0)), (.int .u8 (.ofNat 0)), (.int .u8 (.ofNat 0)), (.int .u8 (.ofNat 0)), (.int .u8 (.ofNat 0)), (.int .u8 (.ofNat 0)), (.int .u8 (.ofNat 0)), (.int .u8 (.ofNat 0)), (.int .u8 (.ofNat 0)), (.int .u8 (.ofNat 0)), (.int .u8 (.ofNat 0)), (.int .u8 (.ofNat 0)), (.int .u8 (.ofNat 0)), (.int .u8 (.ofNat 0)), (.int .u8 (.ofNat 0)), (.int .u8 (.ofNat 0)), (.int .u8 (.ofNat 0)), (.int .u8 (.ofNat 0)), (.int .u8 (.ofNat 0)), (.int .u8 (.ofNat 0)), (.int .u8 (.ofNat 0)), (.int .u8 (.ofNat 0)), (.int .u8 (.ofNat 0)), (.int .u8 (.ofNat 0)), (.int .u8 (.ofNat 0)), (.int .u8 (.ofNat 0)), (.int .u8 (.ofNat 0)), (.int .u8 (.ofNat 0)), (.int .u8 (.ofNat 0)), (.int .u8 (.ofNat 0)), (.int .u8 (.ofNat 0)), (.int .u8 (.ofNat 0)), (.int .u8 (.ofNat 0)), (.int .u8 (.ofNat 0)), (.int .u8 (.ofNat 0)), (.int .u8 (.ofNat 0))] h fun v12 h1 =>
  sCond v3 (
  j.1.1.2 v0 v1 v2 v3 v4 v10 v11 v12 (Z 65) h1) (
  kU .neg v1 fun v32 =>
  j.1.1.2 v0 v32 v2 v3 v4 v10 v11 v12 (Z 65) h1)
def f39.b1 (I : Inp) (call : CallFn) (j : f39.Js) (v0 v1 v2 v3 v4 v10 v11 v12 v13 : AVal) (h : AHeap) : Rs :=
  kC call 43 [v2] h fun v34 h1 =>
  sCond v34 (
  bndP (pToInt .u64 v2) fun v65 =>
  j.2.1.2.2 v0 v1 v3 v4 v10 v11 v12 v13 v65 h1) (
  bndP (pToInt .u64 v2) fun v36 =>
  kC call 44 [v36] h1 fun v37 h2 =>
  bndP (pToInt .u64 v37) fun v38 =>
  bndP (pToInt .u64 v2) fun v40 =>
  bndP (pToInt .u64 v2) fun v42 =>
  kB .sub v42 (.int .u64 (.ofNat 1)) fun v43 =>
  j.1.2.2.2 v0 v1 v3 v4 v10 v11 v12 v13 v38 v40 v43 h2)
def f39.b2 (I : Inp) (call : CallFn) (j : f39.Js) (v0 v3 v4 v10 v11 v12 v13 : AVal) (h : AHeap) : Rs :=
  sCond v3 (
  j.2.2.2.1 v0 v4 v10 v11 v12 v13 h) (
  kB .sub v13 (Z 1) fun v91 =>
  bndP (pIndexAddrArr 65 1 v12 v91) fun v93 =>
  kS 1 v93 (.int .u8 (.ofNat 45)) h fun _ h1 =>
  j.2.2.2.1 v0 v4 v10 v11 v12 v91 h1)
def f39.b3 (I : Inp) (call : CallFn) (j : f39.Js) (v0 v1 v3 v4 v10 v11 v12 v13 : AVal) (h : AHeap) : Rs :=
  kB .sub v13 (Z 1) fun v59 =>
  bndP (pIndexStr (.str [48, 49, 50, 51, 52, 53, 54, 55, 56, 57, 97, 98, 99, 100, 101, 102, 103, 104, 105, 106, 107, 108, 109, 110, 111, 112, 113, 114, 115, 116, 117, 118, 119, 120, 121, 122]) v1) fun v62 =>
  bndP (pIndexAddrArr 65 1 v12 v59) fun v63 =>
  kS 1 v63 v62 h fun _ h1 =>
  j.1.2.1 v0 v3 v4 v10 v11 v12 v59 h1
def f39.b4 (I : Inp) (call : CallFn) (j : f39.Js) (v0 v1 v3 v4 v10 v11 v12 v13 v14 v15 v16 : AVal) (h : AHeap) : Rs :=
  kB .geq v1 v15 fun v46 =>
  sCond v46 (
  j.1.2.2.1 v0 v1 v3 v4 v10 v11 v12 v13 h) (
  j.2.1.1 v0 v1 v3 v4 v10 v11 v12 v13 v14 v15 v16 h)
def f39.b5 (I : Inp) (call : CallFn) (j : f39.Js) (v0 v1 v3 v4 v10 v11 v12 v13 v14 v15 v16 : AVal) (h : AHeap) : Rs :=
  kB .sub v13 (Z 1) fun v48 =>
  kB .and v1 v16 fun v52 =>
  bndP (pIndexStr (.str [48, 49, 50, 51, 52, 53, 54, 55, 56, 57, 97, 98, 99, 100, 101, 102, 103, 104, 105, 106, 107, 108, 109, 110, 111, 112, 113, 114, 115, 116, 117, 118, 119, 120, 121, 122]) v52) fun v53 =>
  bndP (pIndexAddrArr 65 1 v12 v48) fun v54 =>
  kS 1 v54 v53 h fun _ h1 =>
  kB .shr v1 v14 fun v57 =>
  j.1.2.2.2 v0 v57 v3 v4 v10 v11 v12 v48 v14 v15 v16 h1
def f39.b6 (I : Inp) (call : CallFn) (j : f39.Js) (v0 v1 v3 v4 v10 v11 v12 v13 : AVal) (h : AHeap) : Rs :=
  kB .sub v13 (Z 1) fun v84 =>
  bndP (pIndexStr (.str [48, 49, 50, 51, 52, 53, 54, 55, 56, 57, 97, 98, 99, 100, 101, 102, 103, 104, 105, 106, 107, 108, 109, 110, 111, 112, 113, 114, 115, 116, 117, 118, 119, 120, 121, 122]) v1) fun v87 =>
  bndP (pIndexAddrArr 65 1 v12 v84) fun v88 =>
  kS 1 v88 v87 h fun _ h1 =>
  j.1.2.1 v0 v3 v4 v10 v11 v12 v84 h1
def f39.b7 (I : Inp) (call : CallFn) (j : f39.Js) (v0 v1 v3 v4 v10 v11 v12 v13 v17 : AVal) (h : AHeap) : Rs :=
  kB .geq v1 v17 fun v68 =>
  sCond v68 (
  j.2.1.2.1 v0 v1 v3 v4 v10 v11 v12 v13 h) (
  j.2.2.1 v0 v1 v3 v4 v10 v11 v12 v13 v17 h)
def f39.b8 (I : Inp) (call : CallFn) (j : f39.Js) (v0 v1 v3 v4 v10 v11 v12 v13 v17 : AVal) (h : AHeap) : Rs :=
  kB .sub v13 (Z 1) fun v70 =>
  kB .quo v1 v17 fun v73 =>
  kB .mul v73 v17 fun v78 =>
  kB .sub v1 v78 fun v79 =>
  bndP (pIndexStr (.str [48, 49, 50, 51, 52, 53, 54, 55, 56, 57, 97, 98, 99, 100, 101, 102, 103, 104, 105, 106, 107, 108, 109, 110, 111, 112, 113, 114, 115, 116, 117, 118, 119, 120, 121, 122]) v79) fun v80 =>
  bndP (pIndexAddrArr 65 1 v12 v70) fun v81 =>
  kS 1 v81 v80 h fun _ h1 =>
  j.2.1.2.2 v0 v73 v3 v4 v10 v11 v12 v70 v17 h1
def f39.b9 (I : Inp) (call : CallFn) (j : f39.Js) (v0 v4 v10 v11 v12 v13 : AVal) (h : AHeap) : Rs :=
  sCond v4 (
  j.2.2.2.2 v10 v12 v13 h) (
  bndP (pSliceArr 65 1 v12 (some v13) none none) fun v97 =>
  bnd (sAppend I 1 1 v0 v97 h) fun v98 h1 =>
  some (.tuple [v98, v11], h1))
def f39.b10 (I : Inp) (call : CallFn) (j : f39.Js) (v10 v12 v13 : AVal) (h : AHeap) : Rs :=
  bndP (pSliceArr 65 1 v12 (some v13) none none) fun v100 =>
  bndP (pToStr I v100 h) fun v101 =>
  some (.tuple [v10, v101], h)
def f39.e (I : Inp) (call : CallFn) (j : f39.Js) (v0 v1 v2 v3 v4 : AVal) (h : AHeap) : Rs :=
  kB .lss v2 (Z 2) fun v20 =>
  gV v20 .false v2 h fun v22 h1 =>
  gP v20 .false (pBin .eql v22 (Z 10)) h1 fun v23 h2 =>
  kP v20 bT v23 fun v24 =>
  gV v24 .false v2 h2 fun v26 h3 =>
  gP v24 .false (pBin .gtr v26 (Z 36)) h3 fun v27 h4 =>
  kP v24 bT v27 fun v28 =>
  sCond v28 (
  j.1.1.1 v0 v1 v2 v3 v4 .nils (.str []) h4) (
  bnd (none) fun _ h5 =>
  j.1.1.1 v0 v1 v2 v3 v4 .nils (.str []) h5)
def f39.J (I : Inp) (call : CallFn) (n : Nat) : f39.Js :=
  Nat.rec (motive := fun _ => f39.Js) (((Zr.z, Zr.z), (Zr.z, (Zr.z, Zr.z))), ((Zr.z, (Zr.z, Zr.z)), (Zr.z, (Zr.z, Zr.z)))) (fun _ j => (((f39.b0 I call j, f39.b1 I call j), (f39.b2 I call j, (f39.b3 I call j, f39.b4 I call j))), ((f39.b5 I call j, (f39.b6 I call j, f39.b7 I call j)), (f39.b8 I call j, (f39.b9 I call j, f39.b10 I call j))))) n
def f39.JS (I : Inp) (call : CallFn) (n : Nat) : Jmp := (fun j : f39.Js => jmp [Ap.ap j.1.1.1 [0, 1, 2, 3, 4, 10, 11], Ap.ap j.1.1.2 [0, 1, 2, 3, 4, 10, 11, 12, 13], Ap.ap j.1.2.1 [0, 3, 4, 10, 11, 12, 13], Ap.ap j.1.2.2.1 [0, 1, 3, 4, 10, 11, 12, 13], Ap.ap j.1.2.2.2 [0, 1, 3, 4, 10, 11, 12, 13, 14, 15, 16], Ap.ap j.2.1.1 [0, 1, 3, 4, 10, 11, 12, 13, 14, 15, 16], Ap.ap j.2.1.2.1 [0, 1, 3, 4, 10, 11, 12, 13], Ap.ap j.2.1.2.2 [0, 1, 3, 4, 10, 11, 12, 13, 17], Ap.ap j.2.2.1 [0, 1, 3, 4, 10, 11, 12, 13, 17], Ap.ap j.2.2.2.1 [0, 4, 10, 11, 12, 13], Ap.ap j.2.2.2.2 [10, 12, 13]]) (f39.J I call n)
theorem f39.S : SFn ⟨P, I, F⟩ call c39 (f39.JS I call) := .all 11 (by kernel_rfl) (fun ρ h => by kernel_rfl) (fun n ρ h => by kernel_rfl)
theorem f39.qe : Ap.all (f39.e I call (f39.J I call n)) (fun l h => execC P I call (f39.JS I call n) c39.body 0 (finV I c39.results) (argV l) h) := fun v0 v1 v2 v3 v4 h => by kernel_rfl
theorem f39.code : codeOf P 39 = some c39 := by kernel_rfl
def f39.run (I : Inp) : SF := fun call n => Ap.ar (f39.e I call (f39.J I call n))
theorem f39.ok (I : Inp) (F : Nat → Option AFn) (hF : F 39 = some (.code c39)) : SfOk P I F 39 (f39.run I) := okOf hF (by kernel_rfl) (fun _ => f39.S) fun call n => f39.qe
/-! internal/strconv.log10Pow2 -/
def c40 : AFunc := cOf P 40
abbrev f40.Js : Type := Unit
def f40.e (I : Inp) (call : CallFn) (j : f40.Js) (v0 : AVal) (h : AHeap) : Rs :=
  kB .mul v0 (Z 78913) fun v4 =>
  kB .shr v4 (.int .u64 (.ofNat 18)) fun v5 =>
  some (v5, h)
theorem f40.S : SFn ⟨P, I, F⟩ call c40 (fun _ => jmp []) := .all 0 (by kernel_rfl) (fun ρ h => by kernel_rfl) (fun n ρ h => by kernel_rfl)
theorem f40.qe : Ap.all (f40.e I call ()) (fun l h => execC P I call (jmp []) c40.body 0 (finV I c40.results) (argV l) h) := fun v0 h => by kernel_rfl
theorem f40.code : codeOf P 40 = some c40 := by kernel_rfl
def f40.run (I : Inp) : SF := fun call n => Ap.ar (f40.e I call ())
theorem f40.ok (I : Inp) (F : Nat → Option AFn) (hF : F 40 = some (.code c40)) : SfOk P I F 40 (f40.run I) := okOf hF (by kernel_rfl) (fun _ => f40.S) fun call n => f40.qe
/-! math/bits.Len64 -/
def c41 : AFunc := cOf P 41
abbrev f41.Js : Type := (A2 × (A2 × A2))
def f41.b0 (I : Inp) (call : CallFn) (j : f41.Js) (v0 v2 : AVal) (h : AHeap) : Rs :=
  kB .geq v0 (.int .u64 (.ofNat 65536)) fun v8 =>
  sCond v8 (
  j.2.1 v0 v2 h) (
  kB .shr v0 (.int .u64 (.ofNat 16)) fun v10 =>
  kB .add v2 (Z 16) fun v12 =>
  j.2.1 v10 v12 h)
def f41.b1 (I : Inp) (call : CallFn) (j : f41.Js) (v0 v2 : AVal) (h : AHeap) : Rs :=
  kB .geq v0 (.int .u64 (.ofNat 256)) fun v14 =>
  sCond v14 (
  j.2.2 v0 v2 h) (
  kB .shr v0 (.int .u64 (.ofNat 8)) fun v16 =>
  kB .add v2 (Z 8) fun v18 =>
  j.2.2 v16 v18 h)
def f41.b2 (I : Inp) (call : CallFn) (j : f41.Js) (v0 v2 : AVal) (h : AHeap) : Rs :=
  bndP (pToInt .u8 v0) fun v21 =>
  bndP (pIndexStr (.str [0, 1, 2, 2, 3, 3, 3, 3, 4, 4, 4, 4, 4, 4, 4, 4, 5, 5, 5, 5, 5, 5, 5, 5, 5, 5, 5, 5, 5, 5, 5, 5, 6, 6, 6, 6, 6, 6, 6, 6, 6, 6, 6, 6, 6, 6, 6, 6, 6, 6, 6, 6, 6, 6, 6, 6, 6, 6, 6, 6, 6, 6, 6, 6, 7, 7, 7, 7, 7, 7, 7, 7, 7, 7, 7, 7, 7, 7, 7, 7, 7, 7, 7, 7, 7, 7, 7, 7, 7, 7, 7, 7, 7, 7, 7, 7, 7, 7, 7, 7, 7, 7, 7, 7, 7, 7, 7, 7, 7, 7, 7, 7, 7, 7, 7, 7, 7, 7, 7, 7, 7, 7, 7, 7, 7, 7, 7, 7, 8, 8, 8, 8, 8, 8, 8, 8, 8, 8, 8, 8, 8, 8, 8, 8, 8, 8, 8, 8, 8, 8, 8, 8, 8, 8, 8, 8, 8, 8, 8, 8, 8, 8, 8, 8, 8, 8, 8, 8, 8, 8, 8, 8, 8, 8, 8, 8, 8, 8, 8, 8, 8, 8, 8, 8, 8, 8, 8, 8, 8, 8, 8, 8, 8, 8, 8, 8, 8, 8, 8, 8, 8, 8, 8, 8, 8, 8, 8, 8, 8, 8, 8, 8, 8, 8, 8, 8, 8, 8, 8, 8, 8, 8, 8, 8, 8, 8, 8, 8, 8, 8, 8, 8, 8, 8, 8, 8, 8, 8, 8, 8, 8, 8, 8, 8, 8, 8, 8, 8, 8, 8, 8, 8, 8, 8, 8, 8]) v21) fun v22 =>
  bndP (pToInt .i64 v22) fun v23 =>
  kB .add v2 v23 fun v24 =>
  some (v24, h)
def f41.e (I : Inp) (call : CallFn) (j : f41.Js) (v0 : AVal) (h : AHeap) : Rs :=
  kB .geq v0 (.int .u64 (.ofNat 4294967296)) fun v4 =>
  sCond v4 (
  j.1 v0 (Z 0) h) (
  kB .shr v0 (.int .u64 (.ofNat 32)) fun v6 =>
  j.1 v6 (Z 32) h)
def f41.J (I : Inp) (call : CallFn) (n : Nat) : f41.Js :=
  Nat.rec (motive := fun _ => f41.Js) (Zr.z, (Zr.z, Zr.z)) (fun _ j => (f41.b0 I call j, (f41.b1 I call j, f41.b2 I call j))) n
def f41.JS (I : Inp) (call : CallFn) (n : Nat) : Jmp := (fun j : f41.Js => jmp [Ap.ap j.1 [0, 2], Ap.ap j.2.1 [0, 2], Ap.ap j.2.2 [0, 2]]) (f41.J I call n)
theorem f41.S : SFn ⟨P, I, F⟩ call c41 (f41.JS I call) := .all 3 (by kernel_rfl) (fun ρ h => by kernel_rfl) (fun n ρ h => by kernel_rfl)
theorem f41.qe : Ap.all (f41.e I call (f41.J I call n)) (fun l h => execC P I call (f41.JS I call n) c41.body 0 (finV I c41.results) (argV l) h) := fun v0 h => by kernel_rfl
theorem f41.code : codeOf P 41 = some c41 := by kernel_rfl
def f41.run (I : Inp) : SF := fun call n => Ap.ar (f41.e I call (f41.J I call n))
theorem f41.ok (I : Inp) (F : Nat → Option AFn) (hF : F 41 = some (.code c41)) : SfOk P I F 41 (f41.run I) := okOf hF (by kernel_rfl) (fun _ => f41.S) fun call n => f41.qe
/-! internal/strconv.bool2[int] -/
def c42 : AFunc := cOf P 42
abbrev f42.Js : Type := A0
def f42.b0 (I : Inp) (call : CallFn) (j : f42.Js) (h : AHeap) : Rs :=
  some ((Z 0), h)
def f42.e (I : Inp) (call : CallFn) (j : f42.Js) (v0 : AVal) (h : AHeap) : Rs :=
  sCond v0 (
  j h) (
  some ((Z 1), h))
def f42.J (I : Inp) (call : CallFn) (n : Nat) : f42.Js :=
  Nat.rec (motive := fun _ => f42.Js) Zr.z (fun _ j => f42.b0 I call j) n
def f42.JS (I : Inp) (call : CallFn) (n : Nat) : Jmp := (fun j : f42.Js => jmp [Ap.ap j []]) (f42.J I call n)
theorem f42.S : SFn ⟨P, I, F⟩ call c42 (f42.JS I call) := .all 1 (by kernel_rfl) (fun ρ h => by kernel_rfl) (fun n ρ h => by kernel_rfl)
theorem f42.qe : Ap.all (f42.e I call (f42.J I call n)) (fun l h => execC P I call (f42.JS I call n) c42.body 0 (finV I c42.results) (argV l) h) := fun v0 h => by kernel_rfl
theorem f42.code : codeOf P 42 = some c42 := by kernel_rfl
def f42.run (I : Inp) : SF := fun call n => Ap.ar (f42.e I call (f42.J I call n))
theorem f42.ok (I : Inp) (F : Nat → Option AFn) (hF : F 42 = some (.code c42)) : SfOk P I F 42 (f42.run I) := okOf hF (by kernel_rfl) (fun _ => f42.S) fun call n => f42.qe
/-! internal/strconv.isPowerOfTwo -/
def c43 : AFunc := cOf P 43
abbrev f43.Js : Type := Unit
def f43.e (I : Inp) (call : CallFn) (j : f43.Js) (v0 : AVal) (h : AHeap) : Rs :=
  kB .sub v0 (Z 1) fun v5 =>
  kB .and v0 v5 fun v6 =>
  kB .eql v6 (Z 0) fun v7 =>
  some (v7, h)
theorem f43.S : SFn ⟨P, I, F⟩ call c43 (fun _ => jmp []) := .all 0 (by kernel_rfl) (fun ρ h => by kernel_rfl) (fun n ρ h => by kernel_rfl)
theorem f43.qe : Ap.all (f43.e I call ()) (fun l h => execC P I call (jmp []) c43.body 0 (finV I c43.results) (argV l) h) := fun v0 h => by kernel_rfl
theorem f43.code : codeOf P 43 = some c43 := by kernel_rfl
def f43.run (I : Inp) : SF := fun call n => Ap.ar (f43.e I call ())
theorem f43.ok (I : Inp) (F : Nat → Option AFn) (hF : F 43 = some (.code c43)) : SfOk P I F 43 (f43.run I) := okOf hF (by kernel_rfl) (fun _ => f43.S) fun call n => f43.qe
/-! math/bits.TrailingZeros -/
def c44 : AFunc := cOf P 44
abbrev f44.Js : Type := A1
def f44.b0 (I : Inp) (call : CallFn) (j : f44.Js) (v0 : AVal) (h : AHeap) : Rs :=
  kC call 46 [v0] h fun v7 h1 =>
  some (v7, h1)
def f44.e (I : Inp) (call : CallFn) (j : f44.Js) (v0 : AVal) (h : AHeap) : Rs :=
  sCond bF (
  j v0 h) (
  bndP (pToInt .u32 v0) fun v4 =>
  kC call 45 [v4] h fun v5 h1 =>
  some (v5, h1))
def f44.J (I : Inp) (call : CallFn) (n : Nat) : f44.Js :=
  Nat.rec (motive := fun _ => f44.Js) Zr.z (fun _ j => f44.b0 I call j) n
def f44.JS (I : Inp) (call : CallFn) (n : Nat) : Jmp := (fun j : f44.Js => jmp [Ap.ap j [0]]) (f44.J I call n)
theorem f44.S : SFn ⟨P, I, F⟩ call c44 (f44.JS I call) := .all 1 (by kernel_rfl) (fun ρ h => by kernel_rfl) (fun n ρ h => by kernel_rfl)
theorem f44.qe : Ap.all (f44.e I call (f44.J I call n)) (fun l h => execC P I call (f44.JS I call n) c44.body 0 (finV I c44.results) (argV l) h) := fun v0 h => by kernel_rfl
theorem f44.code : codeOf P 44 = some c44 := by kernel_rfl
def f44.run (I : Inp) : SF := fun call n => Ap.ar (f44.e I call (f44.J I call n))
theorem f44.ok (I : Inp) (F : Nat → Option AFn) (hF : F 44 = some (.code c44)) : SfOk P I F 44 (f44.run I) := okOf hF (by kernel_rfl) (fun _ => f44.S) fun call n => f44.qe
/-! math/bits.TrailingZeros32 -/
def c45 : AFunc := cOf P 45
abbrev f45.Js : Type := A1
def f45.b0 (I : Inp) (call : CallFn) (j : f45.Js) (v0 : AVal) (h : AHeap) : Rs :=
  kU .neg v0 fun v7 =>
  kB .and v0 v7 fun v8 =>
  kB .mul v8 (.int .u32 (.ofNat 125613361)) fun v9 =>
  kB .shr v9 (.int .u64 (.ofNat 27)) fun v10 =>
  bndP (pIndexAddrArr 32 1 (.ptr (.inp 4) 0) v10) fun v11 =>
  kL I v11 h fun v12 =>
  bndP (pToInt .i64 v12) fun v13 =>
  some (v13, h)
def f45.e (I : Inp) (call : CallFn) (j : f45.Js) (v0 : AVal) (h : AHeap) : Rs :=
  kB .eql v0 (.int .u32 (.ofNat 0)) fun v4 =>
  sCond v4 (
  j v0 h) (
  some ((Z 32), h))
def f45.J (I : Inp) (call : CallFn) (n : Nat) : f45.Js :=
  Nat.rec (motive := fun _ => f45.Js) Zr.z (fun _ j => f45.b0 I call j) n
def f45.JS (I : Inp) (call : CallFn) (n : Nat) : Jmp := (fun j : f45.Js => jmp [Ap.ap j [0]]) (f45.J I call n)
theorem f45.S : SFn ⟨P, I, F⟩ call c45 (f45.JS I call) := .all 1 (by kernel_rfl) (fun ρ h => by kernel_rfl) (fun n ρ h => by kernel_rfl)
theorem f45.qe : Ap.all (f45.e I call (f45.J I call n)) (fun l h => execC P I call (f45.JS I call n) c45.body 0 (finV I c45.results) (argV l) h) := fun v0 h => by kernel_rfl
theorem f45.code : codeOf P 45 = some c45 := by kernel_rfl
def f45.run (I : Inp) : SF := fun call n => Ap.ar (f45.e I call (f45.J I call n))
theorem f45.ok (I : Inp) (F : Nat → Option AFn) (hF : F 45 = some (.code c45)) : SfOk P I F 45 (f45.run I) := okOf hF (by kernel_rfl) (fun _ => f45.S) fun call n => f45.qe
/-! math/bits.TrailingZeros64 -/
def c46 : AFunc := cOf P 46
abbrev f46.Js : Type := A1
def f46.b0 (I : Inp) (call : CallFn) (j : f46.Js) (v0 : AVal) (h : AHeap) : Rs :=
  kU .neg v0 fun v7 =>
  kB .and v0 v7 fun v8 =>
  kB .mul v8 (.int .u64 (.ofNat 285870213051353865)) fun v9 =>
  kB .shr v9 (.int .u64 (.ofNat 58)) fun v10 =>
  bndP (pIndexAddrArr 64 1 (.ptr (.inp 6) 0) v10) fun v11 =>
  kL I v11 h fun v12 =>
  bndP (pToInt .i64 v12) fun v13 =>
  some (v13, h)
def f46.e (I : Inp) (call : CallFn) (j : f46.Js) (v0 : AVal) (h : AHeap) : Rs :=
  kB .eql v0 (.int .u64 (.ofNat 0)) fun v4 =>
  sCond v4 (
  j v0 h) (
  some ((Z 64), h))
def f46.J (I : Inp) (call : CallFn) (n : Nat) : f46.Js :=
  Nat.rec (motive := fun _ => f46.Js) Zr.z (fun _ j => f46.b0 I call j) n
def f46.JS (I : Inp) (call : CallFn) (n : Nat) : Jmp := (fun j : f46.Js => jmp [Ap.ap j [0]]) (f46.J I call n)
theorem f46.S : SFn ⟨P, I, F⟩ call c46 (f46.JS I call) := .all 1 (by kernel_rfl) (fun ρ h => by kernel_rfl) (fun n ρ h => by kernel_rfl)
theorem f46.qe : Ap.all (f46.e I call (f46.J I call n)) (fun l h => execC P I call (f46.JS I call n) c46.body 0 (finV I c46.results) (argV l) h) := fun v0 h => by kernel_rfl
theorem f46.code : codeOf P 46 = some c46 := by kernel_rfl
def f46.run (I : Inp) : SF := fun call n => Ap.ar (f46.e I call (f46.J I call n))
theorem f46.ok (I : Inp) (F : Nat → Option AFn) (hF : F 46 = some (.code c46)) : SfOk P I F 46 (f46.run I) := okOf hF (by kernel_rfl) (fun _ => f46.S) fun call n => f46.qe
/-! (*haruspex/haruspexlaw4.other).Unwrap -/
def c65 : AFunc := cOf P 65
abbrev f65.Js : Type := Unit
def f65.e (I : Inp) (call : CallFn) (j : f65.Js) (v0 : AVal) (h : AHeap) : Rs :=
  kN v0 fun v4 =>
  kF 1 v4 fun v5 =>
  kL I v5 h fun v6 =>
  some (v6, h)
theorem f65.S : SFn ⟨P, I, F⟩ call c65 (fun _ => jmp []) := .all 0 (by kernel_rfl) (fun ρ h => by kernel_rfl) (fun n ρ h => by kernel_rfl)
theorem f65.qe : Ap.all (f65.e I call ()) (fun l h => execC P I call (jmp []) c65.body 0 (finV I c65.results) (argV l) h) := fun v0 h => by kernel_rfl
theorem f65.code : codeOf P 65 = some c65 := by kernel_rfl
def f65.run (I : Inp) : SF := fun call n => Ap.ar (f65.e I call ())
theorem f65.ok (I : Inp) (F : Nat → Option AFn) (hF : F 65 = some (.code c65)) : SfOk P I F 65 (f65.run I) := okOf hF (by kernel_rfl) (fun _ => f65.S) fun call n => f65.qe
theorem f65.lim (hp : prims 65 = none) {n : Nat} {v0 : AVal} (hr : Res (f65.e I (AM.lim ⟨P, I, genF P prims⟩) () v0 h) Q) : Res ((AM.lim ⟨P, I, genF P prims⟩) 65 [v0] h) Q := limOf (n := n) hp f65.code (f65.ok I) hr rfl
end
end Go.Proofs.YtlfdcehdpnidnaaDoor.Sf
