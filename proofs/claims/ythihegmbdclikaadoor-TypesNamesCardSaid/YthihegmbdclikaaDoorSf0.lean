/- The functions of the program by their labels, on values, part 0: what they compute the abstract machine computes. Conditions: none. -/
import Derived.Test.YthihegmbdclikaaDoorAmSy
import Derived.Test.YthihegmbdclikaaDoorProg
namespace Go.Proofs.YthihegmbdclikaaDoor.Sf
open Go.AM
set_option linter.unusedVariables false
noncomputable abbrev P : Program := Tryd.prog
abbrev Z (n : Nat) : AVal := .int .i64 (.ofNat n)
abbrev V (n : Nat) : AOpd := .val (.int .i64 (.ofNat n))
abbrev T (n : Nat) : AOpd := .tmp n
abbrev M (d x : Nat) : AOper := ⟨some d, .move (.tmp x), none⟩
abbrev S (d : Nat) (o : AOp) (g : Option (Nat × Bool)) : AOper := ⟨some d, o, g⟩
abbrev FA (d k x : Nat) : AOper := ⟨some d, .fieldAddr k (.tmp x), none⟩
abbrev L1 (d x : Nat) : AOper := ⟨some d, .load1 (.tmp x), none⟩
abbrev NC (d x : Nat) : AOper := ⟨some d, .nilCheck (.tmp x), none⟩
abbrev N : Bool × List Nat := (false, [])
abbrev Y : Bool × List Nat := (true, [])
/-! haruspex/haruspexlaw10.TypesNames -/
noncomputable def c7 : AFunc := (AFunc.mk 25 1 [(.tmp 2)] (.seq (.region [(S 2 (.move (.val (.bool .false))) .none)]) (.seq (.region [(S 6 (.call 10 []) .none), (M 3 6)]) (.seq (.seq (.region [(M 7 3), (S 8 (.un .not (T 7)) .none)]) (.cond (T 8) (.seq (.region [(S 2 (.move (.val (.bool .false))) .none)]) .ret) .skip)) (.seq (.seq (.region [(M 9 0), (S 10 (.call 18 [(T 9)]) .none), (S 11 (.un .not (T 10)) .none)]) (.cond (T 11) (.seq (.region [(S 2 (.move (.val (.bool .true))) .none)]) .ret) .skip)) (.seq (.region [(M 13 0), (S 14 (.call 19 [(T 13)]) .none), (M 12 14), (S 15 (.extract (T 12) 0) .none), (S 16 (.extract (T 12) 1) .none), (S 4 (.alloc [(Z 0), (Z 0), (Z 0)]) .none), (AOper.mk .none (.store 3 (T 4) (T 15)) .none), (M 5 16)]) (.seq (.seq (.region [(M 17 5)]) (.cond (T 17) (.seq (.region [(M 18 0), (S 19 (.call 20 [(T 18)]) .none), (S 20 (.eq .false .iface .true (T 19) (.val .nili)) .none), (M 2 20)]) .ret) .skip)) (.seq (.draw [(M 21 0), (S 22 (.call 20 [(T 21)]) .none), (S 23 (.loadN 3 (T 4)) .none), (S 24 (.call 15 [(T 22), (V 3), (T 23)]) .none), (M 2 24)] [N, Y, (.false, [0]), Y, N] 0) .ret))))))))
abbrev f7.Js : Type := ((AVal → AHeap → Rs) × ((AVal → AHeap → Rs) × (AVal → AVal → AHeap → Rs)))
noncomputable def f7.b0 (I : Inp) (call : CallFn) (j : f7.Js) (v0 : AVal) (h : AHeap) : Rs :=
  bnd (call 18 [v0] h) fun v10 h1 =>
  bndP (pUn .not v10) fun v11 =>
  sCond v11 (
  j.2.1 v0 h1) (
  some ((.bool .true), h1))
noncomputable def f7.b1 (I : Inp) (call : CallFn) (j : f7.Js) (v0 : AVal) (h : AHeap) : Rs :=
  bnd (call 19 [v0] h) fun v14 h1 =>
  bndP (pExtract v14 0) fun v15 =>
  bndP (pExtract v14 1) fun v16 =>
  bnd (sAlloc [(Z 0), (Z 0), (Z 0)] h1) fun v4 h2 =>
  bnd (sStore 3 v4 v15 h2) fun _ h3 =>
  sCond v16 (
  j.2.2 v0 v4 h3) (
  bnd (call 20 [v0] h3) fun v19 h4 =>
  bndP (pEq P .false .iface .true v19 .nili h4) fun v20 =>
  some (v20, h4))
noncomputable def f7.b2 (I : Inp) (call : CallFn) (j : f7.Js) (v0 v4 : AVal) (h : AHeap) : Rs :=
  bnd (call 20 [v0] h) fun v22 h1 =>
  bndP (pLoadN I 3 v4 h1) fun v23 =>
  bnd (call 15 [v22, (Z 3), v23] h1) fun v24 h2 =>
  sCheck (sSame (lift (pLoadN I 3 v4 h) h) v23 && true) (
  some (v24, h2))
noncomputable def f7.e (I : Inp) (call : CallFn) (j : f7.Js) (v0 : AVal) (h : AHeap) : Rs :=
  bnd (call 10 [] h) fun v6 h1 =>
  bndP (pUn .not v6) fun v8 =>
  sCond v8 (
  j.1 v0 h1) (
  some ((.bool .false), h1))
noncomputable def f7.J (I : Inp) (call : CallFn) (n : Nat) : f7.Js :=
  Nat.rec (motive := fun _ => f7.Js) ((fun _ _ => none), ((fun _ _ => none), (fun _ _ _ => none))) (fun _ ih => (f7.b0 I call ih, (f7.b1 I call ih, f7.b2 I call ih))) n
theorem f7.n0 (I : Inp) (call : CallFn) (n : Nat) : (f7.J I call (n + 1)).1 = f7.b0 I call (f7.J I call n) := Eq.trans rfl rfl
theorem f7.n1 (I : Inp) (call : CallFn) (n : Nat) : (f7.J I call (n + 1)).2.1 = f7.b1 I call (f7.J I call n) := Eq.trans rfl rfl
theorem f7.n2 (I : Inp) (call : CallFn) (n : Nat) : (f7.J I call (n + 1)).2.2 = f7.b2 I call (f7.J I call n) := Eq.trans rfl rfl
noncomputable def f7.JS (I : Inp) (call : CallFn) (n : Nat) : Jmp := fun id ρ h =>
  (Bool.rec (motive := fun _ => _) (Bool.rec (motive := fun _ => _) ((f7.J I call n).2.2 (ρ 0) (ρ 4) h) ((f7.J I call n).2.1 (ρ 0) h) (Nat.blt id 2)) ((f7.J I call n).1 (ρ 0) h) (Nat.blt id 1))
theorem f7.q0 (I : Inp) (call : CallFn) (n : Nat) (ρ : Fun) (h : AHeap) : f7.JS I call (n + 1) 0 ρ h = labC P I call (f7.JS I call n) c7.body 0 (finV I c7.results) 0 ρ h := by kernel_rfl
theorem f7.q1 (I : Inp) (call : CallFn) (n : Nat) (ρ : Fun) (h : AHeap) : f7.JS I call (n + 1) 1 ρ h = labC P I call (f7.JS I call n) c7.body 0 (finV I c7.results) 1 ρ h := by kernel_rfl
theorem f7.q2 (I : Inp) (call : CallFn) (n : Nat) (ρ : Fun) (h : AHeap) : f7.JS I call (n + 1) 2 ρ h = labC P I call (f7.JS I call n) c7.body 0 (finV I c7.results) 2 ρ h := by kernel_rfl
theorem f7.S (I : Inp) (F : Nat → Option AFn) (call : CallFn) : SFn ⟨P, I, F⟩ call c7 (f7.JS I call) :=
  ⟨fun id hid ρ h => by
    have hc : c7.body.cnt = 3 := by kernel_rfl
    rw [hc] at hid
    exact match id, hid with
    | 0, _ => rfl
    | 1, _ => rfl
    | 2, _ => rfl
    | id + 3, hid => absurd hid (by omega), fun n id hid ρ h => by
    have hc : c7.body.cnt = 3 := by kernel_rfl
    rw [hc] at hid
    exact match id, hid with
    | 0, _ => f7.q0 I call n ρ h
    | 1, _ => f7.q1 I call n ρ h
    | 2, _ => f7.q2 I call n ρ h
    | id + 3, hid => absurd hid (by omega)⟩
noncomputable def f7.run (I : Inp) : SF := fun call n a h =>
  match a with
  | [v0] => f7.e I call (f7.J I call n) v0 h
  | _ => none
theorem f7.qe (I : Inp) (call : CallFn) (n : Nat) (v0 : AVal) (h : AHeap) : f7.e I call (f7.J I call n) v0 h = execC P I call (f7.JS I call n) c7.body 0 (finV I c7.results) (argV [v0]) h := by kernel_rfl
theorem f7.code : codeOf P 7 = some c7 := by kernel_rfl
theorem f7.ok (I : Inp) (F : Nat → Option AFn) (hF : F 7 = some (.code c7)) : SfOk P I F 7 (f7.run I) := by
  intro call hc n args h r hr
  unfold f7.run at hr
  split at hr
  · exact fn_sound (C := ⟨P, I, F⟩) (n := n) hc hF (Nat.le_of_ble_eq_true (by kernel_rfl)) (by kernel_rfl) (f7.S I F call) (by kernel_rfl) ((f7.qe I call n _ h).symm.trans hr)
  · cases hr
theorem f7.qr (I : Inp) (call : CallFn) (n : Nat) (v0 : AVal) (h : AHeap) : f7.run I call n [v0] h = f7.e I call (f7.J I call n) v0 h := by kernel_rfl
theorem f7.lim {I : Inp} {prims : Nat → Option Prim} (hp : prims 7 = none) {n : Nat} {v0 : AVal} {h : AHeap} {Q : AVal → AHeap → Prop} (hr : Res (f7.e I (AM.lim ⟨P, I, genF P prims⟩) (f7.J I (AM.lim ⟨P, I, genF P prims⟩) n) v0 h) Q) :
    Res (AM.lim ⟨P, I, genF P prims⟩ 7 [v0] h) Q := by
  obtain ⟨v, h', e, q⟩ := hr
  exact ⟨v, h', lim_sf (C := ⟨P, I, genF P prims⟩) (n := n) (f7.ok I (genF P prims) (genF_code hp f7.code)) ((f7.qr I _ n v0 h).trans e), q⟩
/-! haruspex/haruspexlaw10.begun -/
noncomputable def c10 : AFunc := (AFunc.mk 54 0 [(.tmp 0)] (.seq (.region [(S 0 (.move (.val (.bool .false))) .none)]) (.seq (.region [(S 3 (.call 11 []) .none), (M 1 3)]) (.seq (.region [(S 4 (.call 11 []) .none), (M 2 4)]) (.seq (.region [(M 5 2), (NC 6 5), (FA 7 4 6), (L1 8 7), (S 9 (.indexAddr 3 (T 8) (V 0)) .none), (FA 10 2 9), (L1 11 10), (S 12 (.indexAddr 5 (T 11) (V 0)) .none), (FA 13 2 12), (AOper.mk .none (.store 1 (T 13) (V 3)) .none)]) (.seq (.region [(M 14 1), (S 15 (.call 16 [(T 14)]) .none), (S 16 (.eq .false .iface .true (T 15) (.val .nili)) .none), (M 17 16), (S 18 (.move (T 1)) (.some (17, .true))), (S 19 (.call 20 [(T 18)]) (.some (17, .true))), (S 20 (.eq .false .iface .true (T 19) (.val .nili)) (.some (17, .true))), (S 21 (.pick (T 17) (T 20) (.val (.bool .false))) .none), (M 22 21), (S 23 (.move (T 1)) (.some (22, .true))), (S 24 (.call 23 [(T 23)]) (.some (22, .true))), (S 25 (.eq .false .iface .true (T 24) (.val .nili)) (.some (22, .true))), (S 26 (.pick (T 22) (T 25) (.val (.bool .false))) .none), (M 27 26), (S 28 (.move (T 1)) (.some (27, .true))), (S 29 (.move (T 1)) (.some (27, .true))), (S 30 (.nilCheck (T 29)) (.some (27, .true))), (S 31 (.fieldAddr 4 (T 30)) (.some (27, .true))), (S 32 (.load1 (T 31)) (.some (27, .true))), (S 33 (.indexAddr 3 (T 32) (V 0)) (.some (27, .true))), (S 34 (.fieldAddr 2 (T 33)) (.some (27, .true))), (S 35 (.load1 (T 34)) (.some (27, .true))), (S 36 (.indexAddr 5 (T 35) (V 0)) (.some (27, .true))), (S 37 (.fieldAddr 0 (T 36)) (.some (27, .true))), (S 38 (.load1 (T 37)) (.some (27, .true))), (S 39 (.indexAddr 6 (T 38) (V 0)) (.some (27, .true))), (S 40 (.loadN 6 (T 39)) (.some (27, .true))), (S 41 (.call 13 [(T 28), (V 0), (T 40)]) (.some (27, .true))), (S 42 (.pick (T 27) (T 41) (.val (.bool .false))) .none), (M 43 42), (S 44 (.move (T 2)) (.some (43, .true))), (S 45 (.call 20 [(T 44)]) (.some (43, .true))), (S 46 (.call 24 [(T 45)]) (.some (43, .true))), (S 47 (.bin .eql (T 46) (V 3)) (.some (43, .true))), (S 48 (.pick (T 43) (T 47) (.val (.bool .false))) .none), (M 49 48), (S 50 (.call 16 [(.val .nilp)]) (.some (49, .true))), (S 51 (.call 24 [(T 50)]) (.some (49, .true))), (S 52 (.bin .eql (T 51) (V 2)) (.some (49, .true))), (S 53 (.pick (T 49) (T 52) (.val (.bool .false))) .none), (M 0 53)]) .ret))))))
abbrev f10.Js : Type := Unit
noncomputable def f10.e (I : Inp) (call : CallFn) (j : f10.Js) (h : AHeap) : Rs :=
  bnd (call 11 [] h) fun v3 h1 =>
  bnd (call 11 [] h1) fun v4 h2 =>
  bndP (pNilCheck v4) fun v6 =>
  bndP (pFieldAddr 4 v6) fun v7 =>
  bndP (pLoad1 I v7 h2) fun v8 =>
  bndP (pIndexAddr 3 v8 (Z 0)) fun v9 =>
  bndP (pFieldAddr 2 v9) fun v10 =>
  bndP (pLoad1 I v10 h2) fun v11 =>
  bndP (pIndexAddr 5 v11 (Z 0)) fun v12 =>
  bndP (pFieldAddr 2 v12) fun v13 =>
  bnd (sStore 1 v13 (Z 3) h2) fun _ h3 =>
  bnd (call 16 [v3] h3) fun v15 h4 =>
  bndP (pEq P .false .iface .true v15 .nili h4) fun v16 =>
  bnd (sGuard v16 .true (some (v3, h4)) h4) fun v18 h5 =>
  bnd (sGuard v16 .true (call 20 [v18] h5) h5) fun v19 h6 =>
  bnd (sGuard v16 .true (lift (pEq P .false .iface .true v19 .nili h6) h6) h6) fun v20 h7 =>
  bndP (pPick v16 v20 (.bool .false)) fun v21 =>
  bnd (sGuard v21 .true (some (v3, h7)) h7) fun v23 h8 =>
  bnd (sGuard v21 .true (call 23 [v23] h8) h8) fun v24 h9 =>
  bnd (sGuard v21 .true (lift (pEq P .false .iface .true v24 .nili h9) h9) h9) fun v25 h10 =>
  bndP (pPick v21 v25 (.bool .false)) fun v26 =>
  bnd (sGuard v26 .true (some (v3, h10)) h10) fun v28 h11 =>
  bnd (sGuard v26 .true (some (v3, h11)) h11) fun v29 h12 =>
  bnd (sGuard v26 .true (lift (pNilCheck v29) h12) h12) fun v30 h13 =>
  bnd (sGuard v26 .true (lift (pFieldAddr 4 v30) h13) h13) fun v31 h14 =>
  bnd (sGuard v26 .true (lift (pLoad1 I v31 h14) h14) h14) fun v32 h15 =>
  bnd (sGuard v26 .true (lift (pIndexAddr 3 v32 (Z 0)) h15) h15) fun v33 h16 =>
  bnd (sGuard v26 .true (lift (pFieldAddr 2 v33) h16) h16) fun v34 h17 =>
  bnd (sGuard v26 .true (lift (pLoad1 I v34 h17) h17) h17) fun v35 h18 =>
  bnd (sGuard v26 .true (lift (pIndexAddr 5 v35 (Z 0)) h18) h18) fun v36 h19 =>
  bnd (sGuard v26 .true (lift (pFieldAddr 0 v36) h19) h19) fun v37 h20 =>
  bnd (sGuard v26 .true (lift (pLoad1 I v37 h20) h20) h20) fun v38 h21 =>
  bnd (sGuard v26 .true (lift (pIndexAddr 6 v38 (Z 0)) h21) h21) fun v39 h22 =>
  bnd (sGuard v26 .true (lift (pLoadN I 6 v39 h22) h22) h22) fun v40 h23 =>
  bnd (sGuard v26 .true (call 13 [v28, (Z 0), v40] h23) h23) fun v41 h24 =>
  bndP (pPick v26 v41 (.bool .false)) fun v42 =>
  bnd (sGuard v42 .true (some (v4, h24)) h24) fun v44 h25 =>
  bnd (sGuard v42 .true (call 20 [v44] h25) h25) fun v45 h26 =>
  bnd (sGuard v42 .true (call 24 [v45] h26) h26) fun v46 h27 =>
  bnd (sGuard v42 .true (lift (pBin .eql v46 (Z 3)) h27) h27) fun v47 h28 =>
  bndP (pPick v42 v47 (.bool .false)) fun v48 =>
  bnd (sGuard v48 .true (call 16 [.nilp] h28) h28) fun v50 h29 =>
  bnd (sGuard v48 .true (call 24 [v50] h29) h29) fun v51 h30 =>
  bnd (sGuard v48 .true (lift (pBin .eql v51 (Z 2)) h30) h30) fun v52 h31 =>
  bndP (pPick v48 v52 (.bool .false)) fun v53 =>
  some (v53, h31)
theorem f10.S (I : Inp) (F : Nat → Option AFn) (call : CallFn) : SFn ⟨P, I, F⟩ call c10 (fun _ _ _ _ => none) :=
  ⟨fun _ _ _ _ => rfl, fun n id hid => absurd hid (by rw [show c10.body.cnt = 0 by kernel_rfl]; omega)⟩
noncomputable def f10.run (I : Inp) : SF := fun call n a h =>
  match a with
  | [] => f10.e I call () h
  | _ => none
theorem f10.qe (I : Inp) (call : CallFn) (n : Nat) (h : AHeap) : f10.e I call () h = execC P I call (fun _ _ _ => none) c10.body 0 (finV I c10.results) (argV []) h := by kernel_rfl
theorem f10.code : codeOf P 10 = some c10 := by kernel_rfl
theorem f10.ok (I : Inp) (F : Nat → Option AFn) (hF : F 10 = some (.code c10)) : SfOk P I F 10 (f10.run I) := by
  intro call hc n args h r hr
  unfold f10.run at hr
  split at hr
  · exact fn_sound (C := ⟨P, I, F⟩) (n := n) hc hF (Nat.le_of_ble_eq_true (by kernel_rfl)) (by kernel_rfl) (f10.S I F call) (by kernel_rfl) ((f10.qe I call n h).symm.trans hr)
  · cases hr
/-! haruspex/haruspexlaw10.One -/
noncomputable def c11 : AFunc := (AFunc.mk 13 0 [(.tmp 0)] (.seq (.region [(S 0 (.move (.val .nilp)) .none)]) (.seq (.region [(S 1 (.build [.nils, (Z 0), (Z 0)] []) .none), (S 2 (.buildSlice [.nils, (Z 0), (Z 0)] 1 [(0, (3, (T 1)))]) .none), (S 3 (.build [(Z 0), (Z 0)] []) .none), (S 4 (.buildSlice [(Z 0), (Z 0)] 1 [(0, (2, (T 3)))]) .none), (S 5 (.build [(Z 0), (Z 0), (Z 0), (Z 0), (Z 0), .nils] [(0, (1, (V 1))), (4, (1, (V 7)))]) .none), (S 6 (.buildSlice [(Z 0), (Z 0), (Z 0), (Z 0), (Z 0), .nils] 1 [(0, (6, (T 5)))]) .none), (S 7 (.build [.nils, (Z 0), (Z 0), (Z 0), (Z 0)] [(0, (1, (T 6))), (1, (1, (V 3)))]) .none), (S 8 (.buildSlice [.nils, (Z 0), (Z 0), (Z 0), (Z 0)] 1 [(0, (5, (T 7)))]) .none), (S 9 (.build [(Z 0), .nils, .nils] [(1, (1, (T 4))), (2, (1, (T 8)))]) .none), (S 10 (.buildSlice [(Z 0), .nils, .nils] 1 [(0, (3, (T 9)))]) .none), (S 11 (.build [.nils, .nils, .nils, .nils, .nils, (Z 0)] [(1, (1, (T 2))), (4, (1, (T 10)))]) .none), (S 12 (.box (T 11)) .none), (M 0 12)]) .ret)))
abbrev f11.Js : Type := Unit
noncomputable def f11.e (I : Inp) (call : CallFn) (j : f11.Js) (h : AHeap) : Rs :=
  bndP (pBuild [.nils, (Z 0), (Z 0)] []) fun v1 =>
  bnd (sBuildSlice [.nils, (Z 0), (Z 0)] 1 [(0, 3, v1)] h) fun v2 h1 =>
  bndP (pBuild [(Z 0), (Z 0)] []) fun v3 =>
  bnd (sBuildSlice [(Z 0), (Z 0)] 1 [(0, 2, v3)] h1) fun v4 h2 =>
  bndP (pBuild [(Z 0), (Z 0), (Z 0), (Z 0), (Z 0), .nils] [(0, 1, (Z 1)), (4, 1, (Z 7))]) fun v5 =>
  bnd (sBuildSlice [(Z 0), (Z 0), (Z 0), (Z 0), (Z 0), .nils] 1 [(0, 6, v5)] h2) fun v6 h3 =>
  bndP (pBuild [.nils, (Z 0), (Z 0), (Z 0), (Z 0)] [(0, 1, v6), (1, 1, (Z 3))]) fun v7 =>
  bnd (sBuildSlice [.nils, (Z 0), (Z 0), (Z 0), (Z 0)] 1 [(0, 5, v7)] h3) fun v8 h4 =>
  bndP (pBuild [(Z 0), .nils, .nils] [(1, 1, v4), (2, 1, v8)]) fun v9 =>
  bnd (sBuildSlice [(Z 0), .nils, .nils] 1 [(0, 3, v9)] h4) fun v10 h5 =>
  bndP (pBuild [.nils, .nils, .nils, .nils, .nils, (Z 0)] [(1, 1, v2), (4, 1, v10)]) fun v11 =>
  bnd (sBox v11 h5) fun v12 h6 =>
  some (v12, h6)
theorem f11.S (I : Inp) (F : Nat → Option AFn) (call : CallFn) : SFn ⟨P, I, F⟩ call c11 (fun _ _ _ _ => none) :=
  ⟨fun _ _ _ _ => rfl, fun n id hid => absurd hid (by rw [show c11.body.cnt = 0 by kernel_rfl]; omega)⟩
noncomputable def f11.run (I : Inp) : SF := fun call n a h =>
  match a with
  | [] => f11.e I call () h
  | _ => none
theorem f11.qe (I : Inp) (call : CallFn) (n : Nat) (h : AHeap) : f11.e I call () h = execC P I call (fun _ _ _ => none) c11.body 0 (finV I c11.results) (argV []) h := by kernel_rfl
theorem f11.code : codeOf P 11 = some c11 := by kernel_rfl
theorem f11.ok (I : Inp) (F : Nat → Option AFn) (hF : F 11 = some (.code c11)) : SfOk P I F 11 (f11.run I) := by
  intro call hc n args h r hr
  unfold f11.run at hr
  split at hr
  · exact fn_sound (C := ⟨P, I, F⟩) (n := n) hc hF (Nat.le_of_ble_eq_true (by kernel_rfl)) (by kernel_rfl) (f11.S I F call) (by kernel_rfl) ((f11.qe I call n h).symm.trans hr)
  · cases hr
/-! haruspex/haruspexref8.Def -/
noncomputable def c12 : AFunc := (AFunc.mk 29 1 [(.tmp 2), (.tmp 3)] (.seq (.region [(S 1 (.box (T 0)) .none), (S 2 (.move (V 0)) .none), (S 3 (.move (.val (.bool .false))) .none)]) (.seq (.seq (.region [(FA 4 0 1), (L1 5 4), (S 6 (.bin .lss (T 5) (V 1)) .none), (M 7 6), (S 8 (.fieldAddr 0 (T 1)) (.some (7, .false))), (S 9 (.load1 (T 8)) (.some (7, .false))), (S 10 (.bin .gtr (T 9) (V 15)) (.some (7, .false))), (S 11 (.pick (T 7) (.val (.bool .true)) (T 10)) .none), (M 12 11), (S 13 (.fieldAddr 0 (T 1)) (.some (12, .false))), (S 14 (.load1 (T 13)) (.some (12, .false))), (S 15 (.bin .eql (T 14) (V 8)) (.some (12, .false))), (S 16 (.pick (T 12) (.val (.bool .true)) (T 15)) .none), (M 17 16), (S 18 (.fieldAddr 0 (T 1)) (.some (17, .false))), (S 19 (.load1 (T 18)) (.some (17, .false))), (S 20 (.bin .eql (T 19) (V 9)) (.some (17, .false))), (S 21 (.pick (T 17) (.val (.bool .true)) (T 20)) .none), (M 22 21), (S 23 (.fieldAddr 0 (T 1)) (.some (22, .false))), (S 24 (.load1 (T 23)) (.some (22, .false))), (S 25 (.bin .eql (T 24) (V 15)) (.some (22, .false))), (S 26 (.pick (T 22) (.val (.bool .true)) (T 25)) .none)]) (.cond (T 26) (.seq (.region [(S 2 (.move (V 0)) .none), (S 3 (.move (.val (.bool .false))) .none)]) .ret) .skip)) (.seq (.region [(FA 27 1 1), (L1 28 27), (M 2 28), (S 3 (.move (.val (.bool .true))) .none)]) .ret))))
abbrev f12.Js : Type := (AVal → AHeap → Rs)
noncomputable def f12.b0 (I : Inp) (call : CallFn) (j : f12.Js) (v1 : AVal) (h : AHeap) : Rs :=
  bndP (pFieldAddr 1 v1) fun v27 =>
  bndP (pLoad1 I v27 h) fun v28 =>
  some (.tuple [v28, (.bool .true)], h)
noncomputable def f12.e (I : Inp) (call : CallFn) (j : f12.Js) (v0 : AVal) (h : AHeap) : Rs :=
  bnd (sBox v0 h) fun v1 h1 =>
  bndP (pFieldAddr 0 v1) fun v4 =>
  bndP (pLoad1 I v4 h1) fun v5 =>
  bndP (pBin .lss v5 (Z 1)) fun v6 =>
  bnd (sGuard v6 .false (lift (pFieldAddr 0 v1) h1) h1) fun v8 h2 =>
  bnd (sGuard v6 .false (lift (pLoad1 I v8 h2) h2) h2) fun v9 h3 =>
  bnd (sGuard v6 .false (lift (pBin .gtr v9 (Z 15)) h3) h3) fun v10 h4 =>
  bndP (pPick v6 (.bool .true) v10) fun v11 =>
  bnd (sGuard v11 .false (lift (pFieldAddr 0 v1) h4) h4) fun v13 h5 =>
  bnd (sGuard v11 .false (lift (pLoad1 I v13 h5) h5) h5) fun v14 h6 =>
  bnd (sGuard v11 .false (lift (pBin .eql v14 (Z 8)) h6) h6) fun v15 h7 =>
  bndP (pPick v11 (.bool .true) v15) fun v16 =>
  bnd (sGuard v16 .false (lift (pFieldAddr 0 v1) h7) h7) fun v18 h8 =>
  bnd (sGuard v16 .false (lift (pLoad1 I v18 h8) h8) h8) fun v19 h9 =>
  bnd (sGuard v16 .false (lift (pBin .eql v19 (Z 9)) h9) h9) fun v20 h10 =>
  bndP (pPick v16 (.bool .true) v20) fun v21 =>
  bnd (sGuard v21 .false (lift (pFieldAddr 0 v1) h10) h10) fun v23 h11 =>
  bnd (sGuard v21 .false (lift (pLoad1 I v23 h11) h11) h11) fun v24 h12 =>
  bnd (sGuard v21 .false (lift (pBin .eql v24 (Z 15)) h12) h12) fun v25 h13 =>
  bndP (pPick v21 (.bool .true) v25) fun v26 =>
  sCond v26 (
  j v1 h13) (
  some (.tuple [(Z 0), (.bool .false)], h13))
noncomputable def f12.J (I : Inp) (call : CallFn) (n : Nat) : f12.Js :=
  Nat.rec (motive := fun _ => f12.Js) (fun _ _ => none) (fun _ ih => f12.b0 I call ih) n
theorem f12.n0 (I : Inp) (call : CallFn) (n : Nat) : (f12.J I call (n + 1)) = f12.b0 I call (f12.J I call n) := Eq.trans rfl rfl
noncomputable def f12.JS (I : Inp) (call : CallFn) (n : Nat) : Jmp := fun id ρ h =>
  ((f12.J I call n) (ρ 1) h)
theorem f12.q0 (I : Inp) (call : CallFn) (n : Nat) (ρ : Fun) (h : AHeap) : f12.JS I call (n + 1) 0 ρ h = labC P I call (f12.JS I call n) c12.body 0 (finV I c12.results) 0 ρ h := by kernel_rfl
theorem f12.S (I : Inp) (F : Nat → Option AFn) (call : CallFn) : SFn ⟨P, I, F⟩ call c12 (f12.JS I call) :=
  ⟨fun id hid ρ h => by
    have hc : c12.body.cnt = 1 := by kernel_rfl
    rw [hc] at hid
    exact match id, hid with
    | 0, _ => rfl
    | id + 1, hid => absurd hid (by omega), fun n id hid ρ h => by
    have hc : c12.body.cnt = 1 := by kernel_rfl
    rw [hc] at hid
    exact match id, hid with
    | 0, _ => f12.q0 I call n ρ h
    | id + 1, hid => absurd hid (by omega)⟩
noncomputable def f12.run (I : Inp) : SF := fun call n a h =>
  match a with
  | [v0] => f12.e I call (f12.J I call n) v0 h
  | _ => none
theorem f12.qe (I : Inp) (call : CallFn) (n : Nat) (v0 : AVal) (h : AHeap) : f12.e I call (f12.J I call n) v0 h = execC P I call (f12.JS I call n) c12.body 0 (finV I c12.results) (argV [v0]) h := by kernel_rfl
theorem f12.code : codeOf P 12 = some c12 := by kernel_rfl
theorem f12.ok (I : Inp) (F : Nat → Option AFn) (hF : F 12 = some (.code c12)) : SfOk P I F 12 (f12.run I) := by
  intro call hc n args h r hr
  unfold f12.run at hr
  split at hr
  · exact fn_sound (C := ⟨P, I, F⟩) (n := n) hc hF (Nat.le_of_ble_eq_true (by kernel_rfl)) (by kernel_rfl) (f12.S I F call) (by kernel_rfl) ((f12.qe I call n _ h).symm.trans hr)
  · cases hr
theorem f12.qr (I : Inp) (call : CallFn) (n : Nat) (v0 : AVal) (h : AHeap) : f12.run I call n [v0] h = f12.e I call (f12.J I call n) v0 h := by kernel_rfl
theorem f12.lim {I : Inp} {prims : Nat → Option Prim} (hp : prims 12 = none) {n : Nat} {v0 : AVal} {h : AHeap} {Q : AVal → AHeap → Prop} (hr : Res (f12.e I (AM.lim ⟨P, I, genF P prims⟩) (f12.J I (AM.lim ⟨P, I, genF P prims⟩) n) v0 h) Q) :
    Res (AM.lim ⟨P, I, genF P prims⟩ 12 [v0] h) Q := by
  obtain ⟨v, h', e, q⟩ := hr
  exact ⟨v, h', lim_sf (C := ⟨P, I, genF P prims⟩) (n := n) (f12.ok I (genF P prims) (genF_code hp f12.code)) ((f12.qr I _ n v0 h).trans e), q⟩
/-! haruspex/types.Fits -/
noncomputable def c13 : AFunc := (AFunc.mk 245 3 [(.tmp 6)] (.seq (.region [(S 5 (.box (T 2)) .none), (S 6 (.move (.val (.bool .false))) .none)]) (.seq (.seq (.draw [(M 11 0), (S 12 (.eq .false .ptr .true (T 11) (.val .nilp)) .none), (M 13 12), (S 14 (.move (T 1)) (.some (13, .false))), (S 15 (.move (T 0)) (.some (13, .false))), (S 16 (.nilCheck (T 15)) (.some (13, .false))), (S 17 (.fieldAddr 4 (T 16)) (.some (13, .false))), (S 18 (.load1 (T 17)) (.some (13, .false))), (S 19 (.lenSl (T 18)) (.some (13, .false))), (S 20 (.call 25 [(T 14), (T 19)]) (.some (13, .false))), (S 21 (.un .not (T 20)) (.some (13, .false))), (S 22 (.pick (T 13) (.val (.bool .true)) (T 21)) .none), (M 23 22), (S 24 (.move (T 0)) (.some (23, .false))), (S 25 (.call 26 [(T 24)]) (.some (23, .false))), (S 26 (.un .not (T 25)) (.some (23, .false))), (S 27 (.pick (T 23) (.val (.bool .true)) (T 26)) .none), (M 28 27), (S 29 (.move (T 0)) (.some (28, .false))), (S 30 (.move (T 0)) (.some (28, .false))), (S 31 (.nilCheck (T 30)) (.some (28, .false))), (S 32 (.fieldAddr 4 (T 31)) (.some (28, .false))), (S 33 (.load1 (T 32)) (.some (28, .false))), (S 34 (.move (T 1)) (.some (28, .false))), (S 35 (.indexAddr 3 (T 33) (T 34)) (.some (28, .false))), (S 36 (.fieldAddr 1 (T 35)) (.some (28, .false))), (S 37 (.load1 (T 36)) (.some (28, .false))), (S 38 (.call 27 [(T 29), (T 37)]) (.some (28, .false))), (S 39 (.un .not (T 38)) (.some (28, .false))), (S 40 (.pick (T 28) (.val (.bool .true)) (T 39)) .none), (M 41 40), (S 42 (.move (T 0)) (.some (41, .false))), (S 43 (.move (T 0)) (.some (41, .false))), (S 44 (.nilCheck (T 43)) (.some (41, .false))), (S 45 (.fieldAddr 4 (T 44)) (.some (41, .false))), (S 46 (.load1 (T 45)) (.some (41, .false))), (S 47 (.move (T 1)) (.some (41, .false))), (S 48 (.indexAddr 3 (T 46) (T 47)) (.some (41, .false))), (S 49 (.loadN 3 (T 48)) (.some (41, .false))), (S 50 (.loadN 6 (T 5)) (.some (41, .false))), (S 51 (.call 28 [(T 42), (T 49), (T 50)]) (.some (41, .false))), (S 52 (.un .not (T 51)) (.some (41, .false))), (S 53 (.pick (T 41) (.val (.bool .true)) (T 52)) .none)] [N, N, N, N, N, N, N, N, N, Y, N, N, N, N, Y, N, N, N, N, N, N, N, N, N, N, N, N, Y, N, N, N, N, N, N, N, N, N, N, N, N, Y, N, N] 0) (.cond (T 53) (.seq (.region [(S 6 (.move (.val (.bool .false))) .none)]) .ret) .skip)) (.seq (.region [(M 54 0), (NC 55 54), (FA 56 4 55), (L1 57 56), (M 58 1), (S 59 (.indexAddr 3 (T 57) (T 58)) .none), (FA 60 1 59), (L1 61 60), (S 7 (.alloc [.nils]) .none), (AOper.mk .none (.store 1 (T 7) (T 61)) .none)]) (.seq (.region [(S 62 (.mkFunc (.func 29) [] [(T 7)]) .none), (M 8 62)]) (.seq (.seq (.region [(FA 63 0 5), (L1 64 63)]) (.block 0 (.seq (.block 11 (.seq (.block 10 (.seq (.block 9 (.seq (.block 8 (.seq (.block 7 (.seq (.block 6 (.seq (.block 5 (.seq (.block 4 (.seq (.block 3 (.seq (.block 2 (.seq (.block 1 (.seq (.seq (.seq (.region [(S 66 (.bin .eql (T 64) (V 2)) .none), (M 65 66)]) (.cond (T 65) (.exit 1) .skip)) (.seq (.seq (.seq (.region [(S 68 (.bin .eql (T 64) (V 1)) .none), (M 67 68)]) (.cond (T 67) .skip (.region [(S 69 (.bin .eql (T 64) (V 3)) .none), (M 67 69)]))) (.cond (T 67) (.exit 2) .skip)) (.seq (.seq (.region [(S 71 (.bin .eql (T 64) (V 4)) .none), (M 70 71)]) (.cond (T 70) (.exit 3) .skip)) (.seq (.seq (.region [(S 73 (.bin .eql (T 64) (V 5)) .none), (M 72 73)]) (.cond (T 72) (.exit 4) .skip)) (.seq (.seq (.region [(S 75 (.bin .eql (T 64) (V 6)) .none), (M 74 75)]) (.cond (T 74) (.exit 5) .skip)) (.seq (.seq (.region [(S 77 (.bin .eql (T 64) (V 7)) .none), (M 76 77)]) (.cond (T 76) (.exit 6) .skip)) (.seq (.seq (.region [(S 79 (.bin .eql (T 64) (V 8)) .none), (M 78 79)]) (.cond (T 78) (.exit 7) .skip)) (.seq (.seq (.region [(S 81 (.bin .eql (T 64) (V 9)) .none), (M 80 81)]) (.cond (T 80) (.exit 8) .skip)) (.seq (.seq (.region [(S 83 (.bin .eql (T 64) (V 10)) .none), (M 82 83)]) (.cond (T 82) (.exit 9) .skip)) (.seq (.seq (.region [(S 85 (.bin .eql (T 64) (V 11)) .none), (M 84 85)]) (.cond (T 84) (.exit 10) .skip)) (.seq (.region [(S 87 (.bin .eql (T 64) (V 15)) .none), (M 86 87)]) (.cond (T 86) (.exit 11) .skip)))))))))))) (.exit 0))) (.seq (.region [(M 88 8), (FA 89 2 5), (L1 90 89), (S 91 (.callv (T 88) [(T 90)]) .none), (S 92 (.bin .neq (T 91) (V 0)) .none), (M 93 92), (S 94 (.move (T 8)) (.some (93, .false))), (S 95 (.fieldAddr 3 (T 5)) (.some (93, .false))), (S 96 (.load1 (T 95)) (.some (93, .false))), (S 97 (.callv (T 94) [(T 96)]) (.some (93, .false))), (S 98 (.bin .neq (T 97) (V 0)) (.some (93, .false))), (S 99 (.pick (T 93) (.val (.bool .true)) (T 98)) .none)]) (.cond (T 99) (.seq (.region [(S 6 (.move (.val (.bool .false))) .none)]) .ret) .skip)))) (.seq (.seq (.region [(M 100 8), (FA 101 1 5), (L1 102 101), (S 103 (.callv (T 100) [(T 102)]) .none), (S 104 (.bin .eql (T 103) (V 0)) .none), (M 6 104)]) .ret) (.exit 0)))) (.seq (.seq (.region [(M 105 8), (FA 106 1 5), (L1 107 106), (S 108 (.callv (T 105) [(T 107)]) .none), (S 109 (.bin .neq (T 108) (V 0)) .none), (M 6 109)]) .ret) (.exit 0)))) (.seq (.seq (.region [(M 110 8), (FA 111 1 5), (L1 112 111), (S 113 (.callv (T 110) [(T 112)]) .none), (S 114 (.bin .eql (T 113) (V 1)) .none), (M 6 114)]) .ret) (.exit 0)))) (.seq (.seq (.draw [(L1 115 7), (FA 116 2 5), (L1 117 116), (S 118 (.indexAddr 2 (T 115) (T 117)) .none), (S 119 (.loadN 2 (T 118)) .none), (L1 120 7), (FA 121 1 5), (L1 122 121), (S 123 (.indexAddr 2 (T 120) (T 122)) .none), (S 124 (.loadN 2 (T 123)) .none), (S 125 (.eq .false (.struct [.i, .i]) .false (T 119) (T 124)) .none), (M 6 125)] [N, N, N, N, N, N, N, N, N, N, N, N] 0) .ret) (.exit 0)))) (.seq (.seq (.draw [(M 126 8), (FA 127 2 5), (L1 128 127), (S 129 (.callv (T 126) [(T 128)]) .none), (S 130 (.bin .eql (T 129) (V 1)) .none), (M 131 130), (S 132 (.move (T 0)) (.some (131, .true))), (S 133 (.nilCheck (T 132)) (.some (131, .true))), (S 134 (.fieldAddr 0 (T 133)) (.some (131, .true))), (S 135 (.load1 (T 134)) (.some (131, .true))), (S 136 (.load1 (T 7)) (.some (131, .true))), (S 137 (.fieldAddr 2 (T 5)) (.some (131, .true))), (S 138 (.load1 (T 137)) (.some (131, .true))), (S 139 (.indexAddr 2 (T 136) (T 138)) (.some (131, .true))), (S 140 (.fieldAddr 1 (T 139)) (.some (131, .true))), (S 141 (.load1 (T 140)) (.some (131, .true))), (S 142 (.indexAddr 1 (T 135) (T 141)) (.some (131, .true))), (S 143 (.load1 (T 142)) (.some (131, .true))), (S 144 (.fieldAddr 4 (T 5)) (.some (131, .true))), (S 145 (.load1 (T 144)) (.some (131, .true))), (S 146 (.indexAddr 2 (T 143) (T 145)) (.some (131, .true))), (S 147 (.loadN 2 (T 146)) (.some (131, .true))), (S 148 (.load1 (T 7)) (.some (131, .true))), (S 149 (.fieldAddr 1 (T 5)) (.some (131, .true))), (S 150 (.load1 (T 149)) (.some (131, .true))), (S 151 (.indexAddr 2 (T 148) (T 150)) (.some (131, .true))), (S 152 (.loadN 2 (T 151)) (.some (131, .true))), (S 153 (.eq .false (.struct [.i, .i]) .false (T 147) (T 152)) (.some (131, .true))), (S 154 (.pick (T 131) (T 153) (.val (.bool .false))) .none), (M 6 154)] [N, N, N, Y, N, N, N, N, N, N, N, N, N, N, N, N, N, N, N, N, N, N, N, N, N, N, N, N, N, N] 0) .ret) (.exit 0)))) (.seq (.seq (.draw [(M 155 8), (FA 156 2 5), (L1 157 156), (S 158 (.callv (T 155) [(T 157)]) .none), (S 159 (.bin .eql (T 158) (V 1)) .none), (M 160 159), (S 161 (.move (T 0)) (.some (160, .true))), (S 162 (.nilCheck (T 161)) (.some (160, .true))), (S 163 (.fieldAddr 0 (T 162)) (.some (160, .true))), (S 164 (.load1 (T 163)) (.some (160, .true))), (S 165 (.load1 (T 7)) (.some (160, .true))), (S 166 (.fieldAddr 2 (T 5)) (.some (160, .true))), (S 167 (.load1 (T 166)) (.some (160, .true))), (S 168 (.indexAddr 2 (T 165) (T 167)) (.some (160, .true))), (S 169 (.fieldAddr 1 (T 168)) (.some (160, .true))), (S 170 (.load1 (T 169)) (.some (160, .true))), (S 171 (.indexAddr 1 (T 164) (T 170)) (.some (160, .true))), (S 172 (.load1 (T 171)) (.some (160, .true))), (S 173 (.fieldAddr 4 (T 5)) (.some (160, .true))), (S 174 (.load1 (T 173)) (.some (160, .true))), (S 175 (.indexAddr 2 (T 172) (T 174)) (.some (160, .true))), (S 176 (.loadN 2 (T 175)) (.some (160, .true))), (S 177 (.load1 (T 7)) (.some (160, .true))), (S 178 (.fieldAddr 3 (T 5)) (.some (160, .true))), (S 179 (.load1 (T 178)) (.some (160, .true))), (S 180 (.indexAddr 2 (T 177) (T 179)) (.some (160, .true))), (S 181 (.loadN 2 (T 180)) (.some (160, .true))), (S 182 (.eq .false (.struct [.i, .i]) .false (T 176) (T 181)) (.some (160, .true))), (S 183 (.pick (T 160) (T 182) (.val (.bool .false))) .none), (M 6 183)] [N, N, N, Y, N, N, N, N, N, N, N, N, N, N, N, N, N, N, N, N, N, N, N, N, N, N, N, N, N, N] 0) .ret) (.exit 0)))) (.seq (.seq (.region [(M 184 8), (FA 185 2 5), (L1 186 185), (S 187 (.callv (T 184) [(T 186)]) .none), (S 188 (.bin .eql (T 187) (V 1)) .none), (M 6 188)]) .ret) (.exit 0)))) (.seq (.seq (.region [(M 190 0), (FA 191 4 5), (L1 192 191), (S 193 (.call 30 [(T 190), (T 192)]) .none), (M 189 193), (S 194 (.extract (T 189) 0) .none), (S 195 (.extract (T 189) 1) .none), (M 9 194), (M 10 195)]) (.seq (.region [(M 196 10), (M 197 196), (S 198 (.load1 (T 7)) (.some (197, .true))), (S 199 (.fieldAddr 1 (T 5)) (.some (197, .true))), (S 200 (.load1 (T 199)) (.some (197, .true))), (S 201 (.indexAddr 2 (T 198) (T 200)) (.some (197, .true))), (S 202 (.loadN 2 (T 201)) (.some (197, .true))), (S 203 (.move (T 9)) (.some (197, .true))), (S 204 (.build [(Z 0), (Z 0)] [(0, (1, (V 2))), (1, (1, (T 203)))]) (.some (197, .true))), (S 205 (.eq .false (.struct [.i, .i]) .false (T 202) (T 204)) (.some (197, .true))), (S 206 (.pick (T 197) (T 205) (.val (.bool .false))) .none), (M 6 206)]) .ret)) (.exit 0)))) (.seq (.seq (.draw [(M 207 8), (FA 208 1 5), (L1 209 208), (S 210 (.callv (T 207) [(T 209)]) .none), (S 211 (.bin .eql (T 210) (V 3)) .none), (M 212 211), (S 213 (.move (T 8)) (.some (212, .true))), (S 214 (.fieldAddr 2 (T 5)) (.some (212, .true))), (S 215 (.load1 (T 214)) (.some (212, .true))), (S 216 (.callv (T 213) [(T 215)]) (.some (212, .true))), (S 217 (.bin .eql (T 216) (V 1)) (.some (212, .true))), (S 218 (.pick (T 212) (T 217) (.val (.bool .false))) .none), (M 219 218), (S 220 (.move (T 0)) (.some (219, .true))), (S 221 (.load1 (T 7)) (.some (219, .true))), (S 222 (.fieldAddr 2 (T 5)) (.some (219, .true))), (S 223 (.load1 (T 222)) (.some (219, .true))), (S 224 (.indexAddr 2 (T 221) (T 223)) (.some (219, .true))), (S 225 (.fieldAddr 1 (T 224)) (.some (219, .true))), (S 226 (.load1 (T 225)) (.some (219, .true))), (S 227 (.load1 (T 7)) (.some (219, .true))), (S 228 (.fieldAddr 1 (T 5)) (.some (219, .true))), (S 229 (.load1 (T 228)) (.some (219, .true))), (S 230 (.indexAddr 2 (T 227) (T 229)) (.some (219, .true))), (S 231 (.fieldAddr 1 (T 230)) (.some (219, .true))), (S 232 (.load1 (T 231)) (.some (219, .true))), (S 233 (.call 31 [(T 220), (T 226), (T 232)]) (.some (219, .true))), (S 234 (.bin .geq (T 233) (V 0)) (.some (219, .true))), (S 235 (.pick (T 219) (T 234) (.val (.bool .false))) .none), (M 6 235)] [N, N, N, Y, N, N, N, N, N, Y, N, N, N, N, N, N, N, N, N, N, N, N, N, N, N, N, Y, N, N, N] 0) .ret) (.exit 0)))) (.seq (.seq (.region [(M 236 8), (FA 237 2 5), (L1 238 237), (S 239 (.callv (T 236) [(T 238)]) .none), (S 240 (.bin .eql (T 239) (V 0)) .none), (M 6 240)]) .ret) (.exit 0))))) (.seq (.region [(M 241 0), (L1 242 7), (S 243 (.loadN 6 (T 5)) .none), (S 244 (.call 32 [(T 241), (T 242), (T 243)]) .none), (M 6 244)]) .ret)))))))
abbrev f13.Js : Type := ((((((AVal → AVal → AVal → AHeap → Rs) × (AVal → AVal → AVal → AHeap → Rs)) × ((AVal → AVal → AHeap → Rs) × (AVal → AVal → AVal → AVal → AHeap → Rs))) × (((AVal → AVal → AVal → AHeap → Rs) × (AVal → AVal → AHeap → Rs)) × ((AVal → AVal → AVal → AVal → AHeap → Rs) × (AVal → AVal → AVal → AVal → AHeap → Rs)))) × ((((AVal → AVal → AHeap → Rs) × (AVal → AVal → AHeap → Rs)) × ((AVal → AVal → AHeap → Rs) × (AVal → AVal → AHeap → Rs))) × (((AVal → AVal → AHeap → Rs) × (AVal → AVal → AVal → AHeap → Rs)) × ((AVal → AVal → AVal → AVal → AVal → AHeap → Rs) × ((AVal → AVal → AVal → AVal → AVal → AHeap → Rs) × (AVal → AVal → AVal → AVal → AVal → AVal → AHeap → Rs)))))) × (((((AVal → AVal → AVal → AVal → AVal → AHeap → Rs) × (AVal → AVal → AVal → AVal → AVal → AHeap → Rs)) × ((AVal → AVal → AVal → AVal → AVal → AHeap → Rs) × (AVal → AVal → AVal → AVal → AVal → AHeap → Rs))) × (((AVal → AVal → AVal → AVal → AVal → AHeap → Rs) × (AVal → AVal → AVal → AVal → AVal → AHeap → Rs)) × ((AVal → AVal → AVal → AVal → AVal → AHeap → Rs) × ((AVal → AVal → AVal → AVal → AVal → AHeap → Rs) × (AVal → AVal → AVal → AHeap → Rs))))) × ((((AVal → AVal → AVal → AHeap → Rs) × (AVal → AVal → AVal → AHeap → Rs)) × ((AVal → AVal → AVal → AHeap → Rs) × (AVal → AVal → AVal → AHeap → Rs))) × (((AVal → AVal → AVal → AHeap → Rs) × (AVal → AVal → AVal → AHeap → Rs)) × ((AVal → AVal → AVal → AHeap → Rs) × ((AVal → AVal → AVal → AHeap → Rs) × (AVal → AVal → AVal → AHeap → Rs)))))))
noncomputable def f13.b0 (I : Inp) (call : CallFn) (j : f13.Js) (v0 v1 v5 : AVal) (h : AHeap) : Rs :=
  bndP (pNilCheck v0) fun v55 =>
  bndP (pFieldAddr 4 v55) fun v56 =>
  bndP (pLoad1 I v56 h) fun v57 =>
  bndP (pIndexAddr 3 v57 v1) fun v59 =>
  bndP (pFieldAddr 1 v59) fun v60 =>
  bndP (pLoad1 I v60 h) fun v61 =>
  bnd (sAlloc [.nils] h) fun v7 h1 =>
  bnd (sStore 1 v7 v61 h1) fun _ h2 =>
  bndP (pFieldAddr 0 v5) fun v63 =>
  bndP (pLoad1 I v63 h2) fun v64 =>
  bndP (pBin .eql v64 (Z 2)) fun v66 =>
  sCond v66 (
  j.1.2.2.2.1 v0 v5 v7 (.func (.func 29) [] [v7]) v64 h2) (
  j.1.2.2.1.1 v5 (.func (.func 29) [] [v7]) h2)
noncomputable def f13.b1 (I : Inp) (call : CallFn) (j : f13.Js) (v0 v5 v7 : AVal) (h : AHeap) : Rs :=
  bndP (pLoad1 I v7 h) fun v242 =>
  bndP (pLoadN I 6 v5 h) fun v243 =>
  bnd (call 32 [v0, v242, v243] h) fun v244 h1 =>
  some (v244, h1)
noncomputable def f13.b2 (I : Inp) (call : CallFn) (j : f13.Js) (v5 v8 : AVal) (h : AHeap) : Rs :=
  bndP (pFieldAddr 2 v5) fun v237 =>
  bndP (pLoad1 I v237 h) fun v238 =>
  bnd (sCallv call v8 [v238] h) fun v239 h1 =>
  bndP (pBin .eql v239 (Z 0)) fun v240 =>
  some (v240, h1)
noncomputable def f13.b3 (I : Inp) (call : CallFn) (j : f13.Js) (v0 v5 v7 v8 : AVal) (h : AHeap) : Rs :=
  bndP (pFieldAddr 1 v5) fun v208 =>
  bndP (pLoad1 I v208 h) fun v209 =>
  bnd (sCallv call v8 [v209] h) fun v210 h1 =>
  bndP (pBin .eql v210 (Z 3)) fun v211 =>
  bnd (sGuard v211 .true (some (v8, h1)) h1) fun v213 h2 =>
  bnd (sGuard v211 .true (lift (pFieldAddr 2 v5) h2) h2) fun v214 h3 =>
  bnd (sGuard v211 .true (lift (pLoad1 I v214 h3) h3) h3) fun v215 h4 =>
  bnd (sGuard v211 .true (sCallv call v213 [v215] h4) h4) fun v216 h5 =>
  bnd (sGuard v211 .true (lift (pBin .eql v216 (Z 1)) h5) h5) fun v217 h6 =>
  bndP (pPick v211 v217 (.bool .false)) fun v218 =>
  bnd (sGuard v218 .true (some (v0, h6)) h6) fun v220 h7 =>
  bnd (sGuard v218 .true (lift (pLoad1 I v7 h7) h7) h7) fun v221 h8 =>
  bnd (sGuard v218 .true (lift (pFieldAddr 2 v5) h8) h8) fun v222 h9 =>
  bnd (sGuard v218 .true (lift (pLoad1 I v222 h9) h9) h9) fun v223 h10 =>
  bnd (sGuard v218 .true (lift (pIndexAddr 2 v221 v223) h10) h10) fun v224 h11 =>
  bnd (sGuard v218 .true (lift (pFieldAddr 1 v224) h11) h11) fun v225 h12 =>
  bnd (sGuard v218 .true (lift (pLoad1 I v225 h12) h12) h12) fun v226 h13 =>
  bnd (sGuard v218 .true (lift (pLoad1 I v7 h13) h13) h13) fun v227 h14 =>
  bnd (sGuard v218 .true (lift (pFieldAddr 1 v5) h14) h14) fun v228 h15 =>
  bnd (sGuard v218 .true (lift (pLoad1 I v228 h15) h15) h15) fun v229 h16 =>
  bnd (sGuard v218 .true (lift (pIndexAddr 2 v227 v229) h16) h16) fun v230 h17 =>
  bnd (sGuard v218 .true (lift (pFieldAddr 1 v230) h17) h17) fun v231 h18 =>
  bnd (sGuard v218 .true (lift (pLoad1 I v231 h18) h18) h18) fun v232 h19 =>
  bnd (sGuard v218 .true (call 31 [v220, v226, v232] h19) h19) fun v233 h20 =>
  bnd (sGuard v218 .true (lift (pBin .geq v233 (Z 0)) h20) h20) fun v234 h21 =>
  bndP (pPick v218 v234 (.bool .false)) fun v235 =>
  some (v235, h21)
noncomputable def f13.b4 (I : Inp) (call : CallFn) (j : f13.Js) (v0 v5 v7 : AVal) (h : AHeap) : Rs :=
  bndP (pFieldAddr 4 v5) fun v191 =>
  bndP (pLoad1 I v191 h) fun v192 =>
  bnd (call 30 [v0, v192] h) fun v193 h1 =>
  bndP (pExtract v193 0) fun v194 =>
  bndP (pExtract v193 1) fun v195 =>
  bnd (sGuard v195 .true (lift (pLoad1 I v7 h1) h1) h1) fun v198 h2 =>
  bnd (sGuard v195 .true (lift (pFieldAddr 1 v5) h2) h2) fun v199 h3 =>
  bnd (sGuard v195 .true (lift (pLoad1 I v199 h3) h3) h3) fun v200 h4 =>
  bnd (sGuard v195 .true (lift (pIndexAddr 2 v198 v200) h4) h4) fun v201 h5 =>
  bnd (sGuard v195 .true (lift (pLoadN I 2 v201 h5) h5) h5) fun v202 h6 =>
  bnd (sGuard v195 .true (some (v194, h6)) h6) fun v203 h7 =>
  bnd (sGuard v195 .true (lift (pBuild [(Z 0), (Z 0)] [(0, 1, (Z 2)), (1, 1, v203)]) h7) h7) fun v204 h8 =>
  bnd (sGuard v195 .true (lift (pEq P .false (.struct [.i, .i]) .false v202 v204 h8) h8) h8) fun v205 h9 =>
  bndP (pPick v195 v205 (.bool .false)) fun v206 =>
  some (v206, h9)
noncomputable def f13.b5 (I : Inp) (call : CallFn) (j : f13.Js) (v5 v8 : AVal) (h : AHeap) : Rs :=
  bndP (pFieldAddr 2 v5) fun v185 =>
  bndP (pLoad1 I v185 h) fun v186 =>
  bnd (sCallv call v8 [v186] h) fun v187 h1 =>
  bndP (pBin .eql v187 (Z 1)) fun v188 =>
  some (v188, h1)
noncomputable def f13.b6 (I : Inp) (call : CallFn) (j : f13.Js) (v0 v5 v7 v8 : AVal) (h : AHeap) : Rs :=
  bndP (pFieldAddr 2 v5) fun v156 =>
  bndP (pLoad1 I v156 h) fun v157 =>
  bnd (sCallv call v8 [v157] h) fun v158 h1 =>
  bndP (pBin .eql v158 (Z 1)) fun v159 =>
  bnd (sGuard v159 .true (some (v0, h1)) h1) fun v161 h2 =>
  bnd (sGuard v159 .true (lift (pNilCheck v161) h2) h2) fun v162 h3 =>
  bnd (sGuard v159 .true (lift (pFieldAddr 0 v162) h3) h3) fun v163 h4 =>
  bnd (sGuard v159 .true (lift (pLoad1 I v163 h4) h4) h4) fun v164 h5 =>
  bnd (sGuard v159 .true (lift (pLoad1 I v7 h5) h5) h5) fun v165 h6 =>
  bnd (sGuard v159 .true (lift (pFieldAddr 2 v5) h6) h6) fun v166 h7 =>
  bnd (sGuard v159 .true (lift (pLoad1 I v166 h7) h7) h7) fun v167 h8 =>
  bnd (sGuard v159 .true (lift (pIndexAddr 2 v165 v167) h8) h8) fun v168 h9 =>
  bnd (sGuard v159 .true (lift (pFieldAddr 1 v168) h9) h9) fun v169 h10 =>
  bnd (sGuard v159 .true (lift (pLoad1 I v169 h10) h10) h10) fun v170 h11 =>
  bnd (sGuard v159 .true (lift (pIndexAddr 1 v164 v170) h11) h11) fun v171 h12 =>
  bnd (sGuard v159 .true (lift (pLoad1 I v171 h12) h12) h12) fun v172 h13 =>
  bnd (sGuard v159 .true (lift (pFieldAddr 4 v5) h13) h13) fun v173 h14 =>
  bnd (sGuard v159 .true (lift (pLoad1 I v173 h14) h14) h14) fun v174 h15 =>
  bnd (sGuard v159 .true (lift (pIndexAddr 2 v172 v174) h15) h15) fun v175 h16 =>
  bnd (sGuard v159 .true (lift (pLoadN I 2 v175 h16) h16) h16) fun v176 h17 =>
  bnd (sGuard v159 .true (lift (pLoad1 I v7 h17) h17) h17) fun v177 h18 =>
  bnd (sGuard v159 .true (lift (pFieldAddr 3 v5) h18) h18) fun v178 h19 =>
  bnd (sGuard v159 .true (lift (pLoad1 I v178 h19) h19) h19) fun v179 h20 =>
  bnd (sGuard v159 .true (lift (pIndexAddr 2 v177 v179) h20) h20) fun v180 h21 =>
  bnd (sGuard v159 .true (lift (pLoadN I 2 v180 h21) h21) h21) fun v181 h22 =>
  bnd (sGuard v159 .true (lift (pEq P .false (.struct [.i, .i]) .false v176 v181 h22) h22) h22) fun v182 h23 =>
  bndP (pPick v159 v182 (.bool .false)) fun v183 =>
  some (v183, h23)
noncomputable def f13.b7 (I : Inp) (call : CallFn) (j : f13.Js) (v0 v5 v7 v8 : AVal) (h : AHeap) : Rs :=
  bndP (pFieldAddr 2 v5) fun v127 =>
  bndP (pLoad1 I v127 h) fun v128 =>
  bnd (sCallv call v8 [v128] h) fun v129 h1 =>
  bndP (pBin .eql v129 (Z 1)) fun v130 =>
  bnd (sGuard v130 .true (some (v0, h1)) h1) fun v132 h2 =>
  bnd (sGuard v130 .true (lift (pNilCheck v132) h2) h2) fun v133 h3 =>
  bnd (sGuard v130 .true (lift (pFieldAddr 0 v133) h3) h3) fun v134 h4 =>
  bnd (sGuard v130 .true (lift (pLoad1 I v134 h4) h4) h4) fun v135 h5 =>
  bnd (sGuard v130 .true (lift (pLoad1 I v7 h5) h5) h5) fun v136 h6 =>
  bnd (sGuard v130 .true (lift (pFieldAddr 2 v5) h6) h6) fun v137 h7 =>
  bnd (sGuard v130 .true (lift (pLoad1 I v137 h7) h7) h7) fun v138 h8 =>
  bnd (sGuard v130 .true (lift (pIndexAddr 2 v136 v138) h8) h8) fun v139 h9 =>
  bnd (sGuard v130 .true (lift (pFieldAddr 1 v139) h9) h9) fun v140 h10 =>
  bnd (sGuard v130 .true (lift (pLoad1 I v140 h10) h10) h10) fun v141 h11 =>
  bnd (sGuard v130 .true (lift (pIndexAddr 1 v135 v141) h11) h11) fun v142 h12 =>
  bnd (sGuard v130 .true (lift (pLoad1 I v142 h12) h12) h12) fun v143 h13 =>
  bnd (sGuard v130 .true (lift (pFieldAddr 4 v5) h13) h13) fun v144 h14 =>
  bnd (sGuard v130 .true (lift (pLoad1 I v144 h14) h14) h14) fun v145 h15 =>
  bnd (sGuard v130 .true (lift (pIndexAddr 2 v143 v145) h15) h15) fun v146 h16 =>
  bnd (sGuard v130 .true (lift (pLoadN I 2 v146 h16) h16) h16) fun v147 h17 =>
  bnd (sGuard v130 .true (lift (pLoad1 I v7 h17) h17) h17) fun v148 h18 =>
  bnd (sGuard v130 .true (lift (pFieldAddr 1 v5) h18) h18) fun v149 h19 =>
  bnd (sGuard v130 .true (lift (pLoad1 I v149 h19) h19) h19) fun v150 h20 =>
  bnd (sGuard v130 .true (lift (pIndexAddr 2 v148 v150) h20) h20) fun v151 h21 =>
  bnd (sGuard v130 .true (lift (pLoadN I 2 v151 h21) h21) h21) fun v152 h22 =>
  bnd (sGuard v130 .true (lift (pEq P .false (.struct [.i, .i]) .false v147 v152 h22) h22) h22) fun v153 h23 =>
  bndP (pPick v130 v153 (.bool .false)) fun v154 =>
  some (v154, h23)
noncomputable def f13.b8 (I : Inp) (call : CallFn) (j : f13.Js) (v5 v7 : AVal) (h : AHeap) : Rs :=
  bndP (pLoad1 I v7 h) fun v115 =>
  bndP (pFieldAddr 2 v5) fun v116 =>
  bndP (pLoad1 I v116 h) fun v117 =>
  bndP (pIndexAddr 2 v115 v117) fun v118 =>
  bndP (pLoadN I 2 v118 h) fun v119 =>
  bndP (pLoad1 I v7 h) fun v120 =>
  bndP (pFieldAddr 1 v5) fun v121 =>
  bndP (pLoad1 I v121 h) fun v122 =>
  bndP (pIndexAddr 2 v120 v122) fun v123 =>
  bndP (pLoadN I 2 v123 h) fun v124 =>
  bndP (pEq P .false (.struct [.i, .i]) .false v119 v124 h) fun v125 =>
  some (v125, h)
noncomputable def f13.b9 (I : Inp) (call : CallFn) (j : f13.Js) (v5 v8 : AVal) (h : AHeap) : Rs :=
  bndP (pFieldAddr 1 v5) fun v111 =>
  bndP (pLoad1 I v111 h) fun v112 =>
  bnd (sCallv call v8 [v112] h) fun v113 h1 =>
  bndP (pBin .eql v113 (Z 1)) fun v114 =>
  some (v114, h1)
noncomputable def f13.b10 (I : Inp) (call : CallFn) (j : f13.Js) (v5 v8 : AVal) (h : AHeap) : Rs :=
  bndP (pFieldAddr 1 v5) fun v106 =>
  bndP (pLoad1 I v106 h) fun v107 =>
  bnd (sCallv call v8 [v107] h) fun v108 h1 =>
  bndP (pBin .neq v108 (Z 0)) fun v109 =>
  some (v109, h1)
noncomputable def f13.b11 (I : Inp) (call : CallFn) (j : f13.Js) (v5 v8 : AVal) (h : AHeap) : Rs :=
  bndP (pFieldAddr 1 v5) fun v101 =>
  bndP (pLoad1 I v101 h) fun v102 =>
  bnd (sCallv call v8 [v102] h) fun v103 h1 =>
  bndP (pBin .eql v103 (Z 0)) fun v104 =>
  some (v104, h1)
noncomputable def f13.b12 (I : Inp) (call : CallFn) (j : f13.Js) (v5 v8 : AVal) (h : AHeap) : Rs :=
  bndP (pFieldAddr 2 v5) fun v89 =>
  bndP (pLoad1 I v89 h) fun v90 =>
  bnd (sCallv call v8 [v90] h) fun v91 h1 =>
  bndP (pBin .neq v91 (Z 0)) fun v92 =>
  bnd (sGuard v92 .false (some (v8, h1)) h1) fun v94 h2 =>
  bnd (sGuard v92 .false (lift (pFieldAddr 3 v5) h2) h2) fun v95 h3 =>
  bnd (sGuard v92 .false (lift (pLoad1 I v95 h3) h3) h3) fun v96 h4 =>
  bnd (sGuard v92 .false (sCallv call v94 [v96] h4) h4) fun v97 h5 =>
  bnd (sGuard v92 .false (lift (pBin .neq v97 (Z 0)) h5) h5) fun v98 h6 =>
  bndP (pPick v92 (.bool .true) v98) fun v99 =>
  sCond v99 (
  j.1.2.1.2.2 v5 v8 h6) (
  some ((.bool .false), h6))
noncomputable def f13.b13 (I : Inp) (call : CallFn) (j : f13.Js) (v0 v5 v7 : AVal) (h : AHeap) : Rs :=
  j.1.1.1.1.2 v0 v5 v7 h
noncomputable def f13.b14 (I : Inp) (call : CallFn) (j : f13.Js) (v0 v5 v7 v8 v64 : AVal) (h : AHeap) : Rs :=
  bndP (pBin .eql v64 (Z 1)) fun v68 =>
  sCond v68 (
  bndP (pBin .eql v64 (Z 3)) fun v69 =>
  j.1.2.2.2.2.2 v0 v5 v7 v8 v64 v69 h) (
  j.1.2.2.2.2.2 v0 v5 v7 v8 v64 v68 h)
noncomputable def f13.b15 (I : Inp) (call : CallFn) (j : f13.Js) (v0 v5 v7 v8 v64 : AVal) (h : AHeap) : Rs :=
  bndP (pBin .eql v64 (Z 4)) fun v71 =>
  sCond v71 (
  j.2.1.1.1.1 v0 v5 v7 v8 v64 h) (
  j.1.2.1.2.1 v5 v8 h)
noncomputable def f13.b16 (I : Inp) (call : CallFn) (j : f13.Js) (v0 v5 v7 v8 v64 v67 : AVal) (h : AHeap) : Rs :=
  sCond v67 (
  j.1.2.2.2.2.1 v0 v5 v7 v8 v64 h) (
  j.1.2.1.2.2 v5 v8 h)
noncomputable def f13.b17 (I : Inp) (call : CallFn) (j : f13.Js) (v0 v5 v7 v8 v64 : AVal) (h : AHeap) : Rs :=
  bndP (pBin .eql v64 (Z 5)) fun v73 =>
  sCond v73 (
  j.2.1.1.1.2 v0 v5 v7 v8 v64 h) (
  j.1.2.1.1.2 v5 v8 h)
noncomputable def f13.b18 (I : Inp) (call : CallFn) (j : f13.Js) (v0 v5 v7 v8 v64 : AVal) (h : AHeap) : Rs :=
  bndP (pBin .eql v64 (Z 6)) fun v75 =>
  sCond v75 (
  j.2.1.1.2.1 v0 v5 v7 v8 v64 h) (
  j.1.2.1.1.1 v5 v7 h)
noncomputable def f13.b19 (I : Inp) (call : CallFn) (j : f13.Js) (v0 v5 v7 v8 v64 : AVal) (h : AHeap) : Rs :=
  bndP (pBin .eql v64 (Z 7)) fun v77 =>
  sCond v77 (
  j.2.1.1.2.2 v0 v5 v7 v8 v64 h) (
  j.1.1.2.2.2 v0 v5 v7 v8 h)
noncomputable def f13.b20 (I : Inp) (call : CallFn) (j : f13.Js) (v0 v5 v7 v8 v64 : AVal) (h : AHeap) : Rs :=
  bndP (pBin .eql v64 (Z 8)) fun v79 =>
  sCond v79 (
  j.2.1.2.1.1 v0 v5 v7 v8 v64 h) (
  j.1.1.2.2.1 v0 v5 v7 v8 h)
noncomputable def f13.b21 (I : Inp) (call : CallFn) (j : f13.Js) (v0 v5 v7 v8 v64 : AVal) (h : AHeap) : Rs :=
  bndP (pBin .eql v64 (Z 9)) fun v81 =>
  sCond v81 (
  j.2.1.2.1.2 v0 v5 v7 v8 v64 h) (
  j.1.1.2.1.2 v5 v8 h)
noncomputable def f13.b22 (I : Inp) (call : CallFn) (j : f13.Js) (v0 v5 v7 v8 v64 : AVal) (h : AHeap) : Rs :=
  bndP (pBin .eql v64 (Z 10)) fun v83 =>
  sCond v83 (
  j.2.1.2.2.1 v0 v5 v7 v8 v64 h) (
  j.1.1.2.1.1 v0 v5 v7 h)
noncomputable def f13.b23 (I : Inp) (call : CallFn) (j : f13.Js) (v0 v5 v7 v8 v64 : AVal) (h : AHeap) : Rs :=
  bndP (pBin .eql v64 (Z 11)) fun v85 =>
  sCond v85 (
  j.2.1.2.2.2.1 v0 v5 v7 v8 v64 h) (
  j.1.1.1.2.2 v0 v5 v7 v8 h)
noncomputable def f13.b24 (I : Inp) (call : CallFn) (j : f13.Js) (v0 v5 v7 v8 v64 : AVal) (h : AHeap) : Rs :=
  bndP (pBin .eql v64 (Z 15)) fun v87 =>
  sCond v87 (
  j.1.2.2.1.2 v0 v5 v7 h) (
  j.1.1.1.2.1 v5 v8 h)
noncomputable def f13.b25 (I : Inp) (call : CallFn) (j : f13.Js) (v0 v5 v7 : AVal) (h : AHeap) : Rs :=
  j.1.1.1.1.2 v0 v5 v7 h
noncomputable def f13.b26 (I : Inp) (call : CallFn) (j : f13.Js) (v0 v5 v7 : AVal) (h : AHeap) : Rs :=
  j.1.1.1.1.2 v0 v5 v7 h
noncomputable def f13.b27 (I : Inp) (call : CallFn) (j : f13.Js) (v0 v5 v7 : AVal) (h : AHeap) : Rs :=
  j.1.1.1.1.2 v0 v5 v7 h
noncomputable def f13.b28 (I : Inp) (call : CallFn) (j : f13.Js) (v0 v5 v7 : AVal) (h : AHeap) : Rs :=
  j.1.1.1.1.2 v0 v5 v7 h
noncomputable def f13.b29 (I : Inp) (call : CallFn) (j : f13.Js) (v0 v5 v7 : AVal) (h : AHeap) : Rs :=
  j.1.1.1.1.2 v0 v5 v7 h
noncomputable def f13.b30 (I : Inp) (call : CallFn) (j : f13.Js) (v0 v5 v7 : AVal) (h : AHeap) : Rs :=
  j.1.1.1.1.2 v0 v5 v7 h
noncomputable def f13.b31 (I : Inp) (call : CallFn) (j : f13.Js) (v0 v5 v7 : AVal) (h : AHeap) : Rs :=
  j.1.1.1.1.2 v0 v5 v7 h
noncomputable def f13.b32 (I : Inp) (call : CallFn) (j : f13.Js) (v0 v5 v7 : AVal) (h : AHeap) : Rs :=
  j.1.1.1.1.2 v0 v5 v7 h
noncomputable def f13.b33 (I : Inp) (call : CallFn) (j : f13.Js) (v0 v5 v7 : AVal) (h : AHeap) : Rs :=
  j.1.1.1.1.2 v0 v5 v7 h
noncomputable def f13.b34 (I : Inp) (call : CallFn) (j : f13.Js) (v0 v5 v7 : AVal) (h : AHeap) : Rs :=
  j.1.1.1.1.2 v0 v5 v7 h
noncomputable def f13.e (I : Inp) (call : CallFn) (j : f13.Js) (v0 v1 v2 : AVal) (h : AHeap) : Rs :=
  bnd (sBox v2 h) fun v5 h1 =>
  bndP (pEq P .false .ptr .true v0 .nilp h1) fun v12 =>
  bnd (sGuard v12 .false (some (v1, h1)) h1) fun v14 h2 =>
  bnd (sGuard v12 .false (some (v0, h2)) h2) fun v15 h3 =>
  bnd (sGuard v12 .false (lift (pNilCheck v15) h3) h3) fun v16 h4 =>
  bnd (sGuard v12 .false (lift (pFieldAddr 4 v16) h4) h4) fun v17 h5 =>
  bnd (sGuard v12 .false (lift (pLoad1 I v17 h5) h5) h5) fun v18 h6 =>
  bnd (sGuard v12 .false (lift (pLenSl v18) h6) h6) fun v19 h7 =>
  bnd (sGuard v12 .false (call 25 [v14, v19] h7) h7) fun v20 h8 =>
  bnd (sGuard v12 .false (lift (pUn .not v20) h8) h8) fun v21 h9 =>
  bndP (pPick v12 (.bool .true) v21) fun v22 =>
  bnd (sGuard v22 .false (some (v0, h9)) h9) fun v24 h10 =>
  bnd (sGuard v22 .false (call 26 [v24] h10) h10) fun v25 h11 =>
  bnd (sGuard v22 .false (lift (pUn .not v25) h11) h11) fun v26 h12 =>
  bndP (pPick v22 (.bool .true) v26) fun v27 =>
  bnd (sGuard v27 .false (some (v0, h12)) h12) fun v29 h13 =>
  bnd (sGuard v27 .false (some (v0, h13)) h13) fun v30 h14 =>
  bnd (sGuard v27 .false (lift (pNilCheck v30) h14) h14) fun v31 h15 =>
  bnd (sGuard v27 .false (lift (pFieldAddr 4 v31) h15) h15) fun v32 h16 =>
  bnd (sGuard v27 .false (lift (pLoad1 I v32 h16) h16) h16) fun v33 h17 =>
  bnd (sGuard v27 .false (some (v1, h17)) h17) fun v34 h18 =>
  bnd (sGuard v27 .false (lift (pIndexAddr 3 v33 v34) h18) h18) fun v35 h19 =>
  bnd (sGuard v27 .false (lift (pFieldAddr 1 v35) h19) h19) fun v36 h20 =>
  bnd (sGuard v27 .false (lift (pLoad1 I v36 h20) h20) h20) fun v37 h21 =>
  bnd (sGuard v27 .false (call 27 [v29, v37] h21) h21) fun v38 h22 =>
  bnd (sGuard v27 .false (lift (pUn .not v38) h22) h22) fun v39 h23 =>
  bndP (pPick v27 (.bool .true) v39) fun v40 =>
  bnd (sGuard v40 .false (some (v0, h23)) h23) fun v42 h24 =>
  bnd (sGuard v40 .false (some (v0, h24)) h24) fun v43 h25 =>
  bnd (sGuard v40 .false (lift (pNilCheck v43) h25) h25) fun v44 h26 =>
  bnd (sGuard v40 .false (lift (pFieldAddr 4 v44) h26) h26) fun v45 h27 =>
  bnd (sGuard v40 .false (lift (pLoad1 I v45 h27) h27) h27) fun v46 h28 =>
  bnd (sGuard v40 .false (some (v1, h28)) h28) fun v47 h29 =>
  bnd (sGuard v40 .false (lift (pIndexAddr 3 v46 v47) h29) h29) fun v48 h30 =>
  bnd (sGuard v40 .false (lift (pLoadN I 3 v48 h30) h30) h30) fun v49 h31 =>
  bnd (sGuard v40 .false (lift (pLoadN I 6 v5 h31) h31) h31) fun v50 h32 =>
  bnd (sGuard v40 .false (call 28 [v42, v49, v50] h32) h32) fun v51 h33 =>
  bnd (sGuard v40 .false (lift (pUn .not v51) h33) h33) fun v52 h34 =>
  bndP (pPick v40 (.bool .true) v52) fun v53 =>
  sCond v53 (
  j.1.1.1.1.1 v0 v1 v5 h34) (
  some ((.bool .false), h34))
noncomputable def f13.J (I : Inp) (call : CallFn) (n : Nat) : f13.Js :=
  Nat.rec (motive := fun _ => f13.Js) ((((((fun _ _ _ _ => none), (fun _ _ _ _ => none)), ((fun _ _ _ => none), (fun _ _ _ _ _ => none))), (((fun _ _ _ _ => none), (fun _ _ _ => none)), ((fun _ _ _ _ _ => none), (fun _ _ _ _ _ => none)))), ((((fun _ _ _ => none), (fun _ _ _ => none)), ((fun _ _ _ => none), (fun _ _ _ => none))), (((fun _ _ _ => none), (fun _ _ _ _ => none)), ((fun _ _ _ _ _ _ => none), ((fun _ _ _ _ _ _ => none), (fun _ _ _ _ _ _ _ => none)))))), (((((fun _ _ _ _ _ _ => none), (fun _ _ _ _ _ _ => none)), ((fun _ _ _ _ _ _ => none), (fun _ _ _ _ _ _ => none))), (((fun _ _ _ _ _ _ => none), (fun _ _ _ _ _ _ => none)), ((fun _ _ _ _ _ _ => none), ((fun _ _ _ _ _ _ => none), (fun _ _ _ _ => none))))), ((((fun _ _ _ _ => none), (fun _ _ _ _ => none)), ((fun _ _ _ _ => none), (fun _ _ _ _ => none))), (((fun _ _ _ _ => none), (fun _ _ _ _ => none)), ((fun _ _ _ _ => none), ((fun _ _ _ _ => none), (fun _ _ _ _ => none))))))) (fun _ ih => (((((f13.b0 I call ih, f13.b1 I call ih), (f13.b2 I call ih, f13.b3 I call ih)), ((f13.b4 I call ih, f13.b5 I call ih), (f13.b6 I call ih, f13.b7 I call ih))), (((f13.b8 I call ih, f13.b9 I call ih), (f13.b10 I call ih, f13.b11 I call ih)), ((f13.b12 I call ih, f13.b13 I call ih), (f13.b14 I call ih, (f13.b15 I call ih, f13.b16 I call ih))))), ((((f13.b17 I call ih, f13.b18 I call ih), (f13.b19 I call ih, f13.b20 I call ih)), ((f13.b21 I call ih, f13.b22 I call ih), (f13.b23 I call ih, (f13.b24 I call ih, f13.b25 I call ih)))), (((f13.b26 I call ih, f13.b27 I call ih), (f13.b28 I call ih, f13.b29 I call ih)), ((f13.b30 I call ih, f13.b31 I call ih), (f13.b32 I call ih, (f13.b33 I call ih, f13.b34 I call ih))))))) n
noncomputable def f13.JS (I : Inp) (call : CallFn) (n : Nat) : Jmp := fun id ρ h =>
  (Bool.rec (motive := fun _ => _) (Bool.rec (motive := fun _ => _) (Bool.rec (motive := fun _ => _) (Bool.rec (motive := fun _ => _) (Bool.rec (motive := fun _ => _) (Bool.rec (motive := fun _ => _) ((f13.J I call n).2.2.2.2.2.2 (ρ 0) (ρ 5) (ρ 7) h) ((f13.J I call n).2.2.2.2.2.1 (ρ 0) (ρ 5) (ρ 7) h) (Nat.blt id 34)) ((f13.J I call n).2.2.2.2.1 (ρ 0) (ρ 5) (ρ 7) h) (Nat.blt id 33)) (Bool.rec (motive := fun _ => _) ((f13.J I call n).2.2.2.1.2 (ρ 0) (ρ 5) (ρ 7) h) ((f13.J I call n).2.2.2.1.1 (ρ 0) (ρ 5) (ρ 7) h) (Nat.blt id 31)) (Nat.blt id 32)) (Bool.rec (motive := fun _ => _) (Bool.rec (motive := fun _ => _) ((f13.J I call n).2.2.1.2.2 (ρ 0) (ρ 5) (ρ 7) h) ((f13.J I call n).2.2.1.2.1 (ρ 0) (ρ 5) (ρ 7) h) (Nat.blt id 29)) (Bool.rec (motive := fun _ => _) ((f13.J I call n).2.2.1.1.2 (ρ 0) (ρ 5) (ρ 7) h) ((f13.J I call n).2.2.1.1.1 (ρ 0) (ρ 5) (ρ 7) h) (Nat.blt id 27)) (Nat.blt id 28)) (Nat.blt id 30)) (Bool.rec (motive := fun _ => _) (Bool.rec (motive := fun _ => _) (Bool.rec (motive := fun _ => _) (Bool.rec (motive := fun _ => _) ((f13.J I call n).2.1.2.2.2.2 (ρ 0) (ρ 5) (ρ 7) h) ((f13.J I call n).2.1.2.2.2.1 (ρ 0) (ρ 5) (ρ 7) (ρ 8) (ρ 64) h) (Nat.blt id 25)) ((f13.J I call n).2.1.2.2.1 (ρ 0) (ρ 5) (ρ 7) (ρ 8) (ρ 64) h) (Nat.blt id 24)) (Bool.rec (motive := fun _ => _) ((f13.J I call n).2.1.2.1.2 (ρ 0) (ρ 5) (ρ 7) (ρ 8) (ρ 64) h) ((f13.J I call n).2.1.2.1.1 (ρ 0) (ρ 5) (ρ 7) (ρ 8) (ρ 64) h) (Nat.blt id 22)) (Nat.blt id 23)) (Bool.rec (motive := fun _ => _) (Bool.rec (motive := fun _ => _) ((f13.J I call n).2.1.1.2.2 (ρ 0) (ρ 5) (ρ 7) (ρ 8) (ρ 64) h) ((f13.J I call n).2.1.1.2.1 (ρ 0) (ρ 5) (ρ 7) (ρ 8) (ρ 64) h) (Nat.blt id 20)) (Bool.rec (motive := fun _ => _) ((f13.J I call n).2.1.1.1.2 (ρ 0) (ρ 5) (ρ 7) (ρ 8) (ρ 64) h) ((f13.J I call n).2.1.1.1.1 (ρ 0) (ρ 5) (ρ 7) (ρ 8) (ρ 64) h) (Nat.blt id 18)) (Nat.blt id 19)) (Nat.blt id 21)) (Nat.blt id 26)) (Bool.rec (motive := fun _ => _) (Bool.rec (motive := fun _ => _) (Bool.rec (motive := fun _ => _) (Bool.rec (motive := fun _ => _) (Bool.rec (motive := fun _ => _) ((f13.J I call n).1.2.2.2.2.2 (ρ 0) (ρ 5) (ρ 7) (ρ 8) (ρ 64) (ρ 67) h) ((f13.J I call n).1.2.2.2.2.1 (ρ 0) (ρ 5) (ρ 7) (ρ 8) (ρ 64) h) (Nat.blt id 16)) ((f13.J I call n).1.2.2.2.1 (ρ 0) (ρ 5) (ρ 7) (ρ 8) (ρ 64) h) (Nat.blt id 15)) (Bool.rec (motive := fun _ => _) ((f13.J I call n).1.2.2.1.2 (ρ 0) (ρ 5) (ρ 7) h) ((f13.J I call n).1.2.2.1.1 (ρ 5) (ρ 8) h) (Nat.blt id 13)) (Nat.blt id 14)) (Bool.rec (motive := fun _ => _) (Bool.rec (motive := fun _ => _) ((f13.J I call n).1.2.1.2.2 (ρ 5) (ρ 8) h) ((f13.J I call n).1.2.1.2.1 (ρ 5) (ρ 8) h) (Nat.blt id 11)) (Bool.rec (motive := fun _ => _) ((f13.J I call n).1.2.1.1.2 (ρ 5) (ρ 8) h) ((f13.J I call n).1.2.1.1.1 (ρ 5) (ρ 7) h) (Nat.blt id 9)) (Nat.blt id 10)) (Nat.blt id 12)) (Bool.rec (motive := fun _ => _) (Bool.rec (motive := fun _ => _) (Bool.rec (motive := fun _ => _) ((f13.J I call n).1.1.2.2.2 (ρ 0) (ρ 5) (ρ 7) (ρ 8) h) ((f13.J I call n).1.1.2.2.1 (ρ 0) (ρ 5) (ρ 7) (ρ 8) h) (Nat.blt id 7)) (Bool.rec (motive := fun _ => _) ((f13.J I call n).1.1.2.1.2 (ρ 5) (ρ 8) h) ((f13.J I call n).1.1.2.1.1 (ρ 0) (ρ 5) (ρ 7) h) (Nat.blt id 5)) (Nat.blt id 6)) (Bool.rec (motive := fun _ => _) (Bool.rec (motive := fun _ => _) ((f13.J I call n).1.1.1.2.2 (ρ 0) (ρ 5) (ρ 7) (ρ 8) h) ((f13.J I call n).1.1.1.2.1 (ρ 5) (ρ 8) h) (Nat.blt id 3)) (Bool.rec (motive := fun _ => _) ((f13.J I call n).1.1.1.1.2 (ρ 0) (ρ 5) (ρ 7) h) ((f13.J I call n).1.1.1.1.1 (ρ 0) (ρ 1) (ρ 5) h) (Nat.blt id 1)) (Nat.blt id 2)) (Nat.blt id 4)) (Nat.blt id 8)) (Nat.blt id 17))
theorem f13.q0 (I : Inp) (call : CallFn) (n : Nat) (ρ : Fun) (h : AHeap) : f13.JS I call (n + 1) 0 ρ h = labC P I call (f13.JS I call n) c13.body 0 (finV I c13.results) 0 ρ h := by kernel_rfl
theorem f13.q1 (I : Inp) (call : CallFn) (n : Nat) (ρ : Fun) (h : AHeap) : f13.JS I call (n + 1) 1 ρ h = labC P I call (f13.JS I call n) c13.body 0 (finV I c13.results) 1 ρ h := by kernel_rfl
theorem f13.q2 (I : Inp) (call : CallFn) (n : Nat) (ρ : Fun) (h : AHeap) : f13.JS I call (n + 1) 2 ρ h = labC P I call (f13.JS I call n) c13.body 0 (finV I c13.results) 2 ρ h := by kernel_rfl
theorem f13.q3 (I : Inp) (call : CallFn) (n : Nat) (ρ : Fun) (h : AHeap) : f13.JS I call (n + 1) 3 ρ h = labC P I call (f13.JS I call n) c13.body 0 (finV I c13.results) 3 ρ h := by kernel_rfl
theorem f13.q4 (I : Inp) (call : CallFn) (n : Nat) (ρ : Fun) (h : AHeap) : f13.JS I call (n + 1) 4 ρ h = labC P I call (f13.JS I call n) c13.body 0 (finV I c13.results) 4 ρ h := by kernel_rfl
theorem f13.q5 (I : Inp) (call : CallFn) (n : Nat) (ρ : Fun) (h : AHeap) : f13.JS I call (n + 1) 5 ρ h = labC P I call (f13.JS I call n) c13.body 0 (finV I c13.results) 5 ρ h := by kernel_rfl
theorem f13.q6 (I : Inp) (call : CallFn) (n : Nat) (ρ : Fun) (h : AHeap) : f13.JS I call (n + 1) 6 ρ h = labC P I call (f13.JS I call n) c13.body 0 (finV I c13.results) 6 ρ h := by kernel_rfl
theorem f13.q7 (I : Inp) (call : CallFn) (n : Nat) (ρ : Fun) (h : AHeap) : f13.JS I call (n + 1) 7 ρ h = labC P I call (f13.JS I call n) c13.body 0 (finV I c13.results) 7 ρ h := by kernel_rfl
theorem f13.q8 (I : Inp) (call : CallFn) (n : Nat) (ρ : Fun) (h : AHeap) : f13.JS I call (n + 1) 8 ρ h = labC P I call (f13.JS I call n) c13.body 0 (finV I c13.results) 8 ρ h := by kernel_rfl
theorem f13.q9 (I : Inp) (call : CallFn) (n : Nat) (ρ : Fun) (h : AHeap) : f13.JS I call (n + 1) 9 ρ h = labC P I call (f13.JS I call n) c13.body 0 (finV I c13.results) 9 ρ h := by kernel_rfl
theorem f13.q10 (I : Inp) (call : CallFn) (n : Nat) (ρ : Fun) (h : AHeap) : f13.JS I call (n + 1) 10 ρ h = labC P I call (f13.JS I call n) c13.body 0 (finV I c13.results) 10 ρ h := by kernel_rfl
theorem f13.q11 (I : Inp) (call : CallFn) (n : Nat) (ρ : Fun) (h : AHeap) : f13.JS I call (n + 1) 11 ρ h = labC P I call (f13.JS I call n) c13.body 0 (finV I c13.results) 11 ρ h := by kernel_rfl
theorem f13.q12 (I : Inp) (call : CallFn) (n : Nat) (ρ : Fun) (h : AHeap) : f13.JS I call (n + 1) 12 ρ h = labC P I call (f13.JS I call n) c13.body 0 (finV I c13.results) 12 ρ h := by kernel_rfl
theorem f13.q13 (I : Inp) (call : CallFn) (n : Nat) (ρ : Fun) (h : AHeap) : f13.JS I call (n + 1) 13 ρ h = labC P I call (f13.JS I call n) c13.body 0 (finV I c13.results) 13 ρ h := by kernel_rfl
theorem f13.q14 (I : Inp) (call : CallFn) (n : Nat) (ρ : Fun) (h : AHeap) : f13.JS I call (n + 1) 14 ρ h = labC P I call (f13.JS I call n) c13.body 0 (finV I c13.results) 14 ρ h := by kernel_rfl
theorem f13.q15 (I : Inp) (call : CallFn) (n : Nat) (ρ : Fun) (h : AHeap) : f13.JS I call (n + 1) 15 ρ h = labC P I call (f13.JS I call n) c13.body 0 (finV I c13.results) 15 ρ h := by kernel_rfl
theorem f13.q16 (I : Inp) (call : CallFn) (n : Nat) (ρ : Fun) (h : AHeap) : f13.JS I call (n + 1) 16 ρ h = labC P I call (f13.JS I call n) c13.body 0 (finV I c13.results) 16 ρ h := by kernel_rfl
theorem f13.q17 (I : Inp) (call : CallFn) (n : Nat) (ρ : Fun) (h : AHeap) : f13.JS I call (n + 1) 17 ρ h = labC P I call (f13.JS I call n) c13.body 0 (finV I c13.results) 17 ρ h := by kernel_rfl
theorem f13.q18 (I : Inp) (call : CallFn) (n : Nat) (ρ : Fun) (h : AHeap) : f13.JS I call (n + 1) 18 ρ h = labC P I call (f13.JS I call n) c13.body 0 (finV I c13.results) 18 ρ h := by kernel_rfl
theorem f13.q19 (I : Inp) (call : CallFn) (n : Nat) (ρ : Fun) (h : AHeap) : f13.JS I call (n + 1) 19 ρ h = labC P I call (f13.JS I call n) c13.body 0 (finV I c13.results) 19 ρ h := by kernel_rfl
theorem f13.q20 (I : Inp) (call : CallFn) (n : Nat) (ρ : Fun) (h : AHeap) : f13.JS I call (n + 1) 20 ρ h = labC P I call (f13.JS I call n) c13.body 0 (finV I c13.results) 20 ρ h := by kernel_rfl
theorem f13.q21 (I : Inp) (call : CallFn) (n : Nat) (ρ : Fun) (h : AHeap) : f13.JS I call (n + 1) 21 ρ h = labC P I call (f13.JS I call n) c13.body 0 (finV I c13.results) 21 ρ h := by kernel_rfl
theorem f13.q22 (I : Inp) (call : CallFn) (n : Nat) (ρ : Fun) (h : AHeap) : f13.JS I call (n + 1) 22 ρ h = labC P I call (f13.JS I call n) c13.body 0 (finV I c13.results) 22 ρ h := by kernel_rfl
theorem f13.q23 (I : Inp) (call : CallFn) (n : Nat) (ρ : Fun) (h : AHeap) : f13.JS I call (n + 1) 23 ρ h = labC P I call (f13.JS I call n) c13.body 0 (finV I c13.results) 23 ρ h := by kernel_rfl
theorem f13.q24 (I : Inp) (call : CallFn) (n : Nat) (ρ : Fun) (h : AHeap) : f13.JS I call (n + 1) 24 ρ h = labC P I call (f13.JS I call n) c13.body 0 (finV I c13.results) 24 ρ h := by kernel_rfl
theorem f13.q25 (I : Inp) (call : CallFn) (n : Nat) (ρ : Fun) (h : AHeap) : f13.JS I call (n + 1) 25 ρ h = labC P I call (f13.JS I call n) c13.body 0 (finV I c13.results) 25 ρ h := by kernel_rfl
theorem f13.q26 (I : Inp) (call : CallFn) (n : Nat) (ρ : Fun) (h : AHeap) : f13.JS I call (n + 1) 26 ρ h = labC P I call (f13.JS I call n) c13.body 0 (finV I c13.results) 26 ρ h := by kernel_rfl
theorem f13.q27 (I : Inp) (call : CallFn) (n : Nat) (ρ : Fun) (h : AHeap) : f13.JS I call (n + 1) 27 ρ h = labC P I call (f13.JS I call n) c13.body 0 (finV I c13.results) 27 ρ h := by kernel_rfl
theorem f13.q28 (I : Inp) (call : CallFn) (n : Nat) (ρ : Fun) (h : AHeap) : f13.JS I call (n + 1) 28 ρ h = labC P I call (f13.JS I call n) c13.body 0 (finV I c13.results) 28 ρ h := by kernel_rfl
theorem f13.q29 (I : Inp) (call : CallFn) (n : Nat) (ρ : Fun) (h : AHeap) : f13.JS I call (n + 1) 29 ρ h = labC P I call (f13.JS I call n) c13.body 0 (finV I c13.results) 29 ρ h := by kernel_rfl
theorem f13.q30 (I : Inp) (call : CallFn) (n : Nat) (ρ : Fun) (h : AHeap) : f13.JS I call (n + 1) 30 ρ h = labC P I call (f13.JS I call n) c13.body 0 (finV I c13.results) 30 ρ h := by kernel_rfl
theorem f13.q31 (I : Inp) (call : CallFn) (n : Nat) (ρ : Fun) (h : AHeap) : f13.JS I call (n + 1) 31 ρ h = labC P I call (f13.JS I call n) c13.body 0 (finV I c13.results) 31 ρ h := by kernel_rfl
theorem f13.q32 (I : Inp) (call : CallFn) (n : Nat) (ρ : Fun) (h : AHeap) : f13.JS I call (n + 1) 32 ρ h = labC P I call (f13.JS I call n) c13.body 0 (finV I c13.results) 32 ρ h := by kernel_rfl
theorem f13.q33 (I : Inp) (call : CallFn) (n : Nat) (ρ : Fun) (h : AHeap) : f13.JS I call (n + 1) 33 ρ h = labC P I call (f13.JS I call n) c13.body 0 (finV I c13.results) 33 ρ h := by kernel_rfl
theorem f13.q34 (I : Inp) (call : CallFn) (n : Nat) (ρ : Fun) (h : AHeap) : f13.JS I call (n + 1) 34 ρ h = labC P I call (f13.JS I call n) c13.body 0 (finV I c13.results) 34 ρ h := by kernel_rfl
theorem f13.S (I : Inp) (F : Nat → Option AFn) (call : CallFn) : SFn ⟨P, I, F⟩ call c13 (f13.JS I call) :=
  ⟨fun id hid ρ h => by
    have hc : c13.body.cnt = 35 := by kernel_rfl
    rw [hc] at hid
    exact match id, hid with
    | 0, _ => rfl
    | 1, _ => rfl
    | 2, _ => rfl
    | 3, _ => rfl
    | 4, _ => rfl
    | 5, _ => rfl
    | 6, _ => rfl
    | 7, _ => rfl
    | 8, _ => rfl
    | 9, _ => rfl
    | 10, _ => rfl
    | 11, _ => rfl
    | 12, _ => rfl
    | 13, _ => rfl
    | 14, _ => rfl
    | 15, _ => rfl
    | 16, _ => rfl
    | 17, _ => rfl
    | 18, _ => rfl
    | 19, _ => rfl
    | 20, _ => rfl
    | 21, _ => rfl
    | 22, _ => rfl
    | 23, _ => rfl
    | 24, _ => rfl
    | 25, _ => rfl
    | 26, _ => rfl
    | 27, _ => rfl
    | 28, _ => rfl
    | 29, _ => rfl
    | 30, _ => rfl
    | 31, _ => rfl
    | 32, _ => rfl
    | 33, _ => rfl
    | 34, _ => rfl
    | id + 35, hid => absurd hid (by omega), fun n id hid ρ h => by
    have hc : c13.body.cnt = 35 := by kernel_rfl
    rw [hc] at hid
    exact match id, hid with
    | 0, _ => f13.q0 I call n ρ h
    | 1, _ => f13.q1 I call n ρ h
    | 2, _ => f13.q2 I call n ρ h
    | 3, _ => f13.q3 I call n ρ h
    | 4, _ => f13.q4 I call n ρ h
    | 5, _ => f13.q5 I call n ρ h
    | 6, _ => f13.q6 I call n ρ h
    | 7, _ => f13.q7 I call n ρ h
    | 8, _ => f13.q8 I call n ρ h
    | 9, _ => f13.q9 I call n ρ h
    | 10, _ => f13.q10 I call n ρ h
    | 11, _ => f13.q11 I call n ρ h
    | 12, _ => f13.q12 I call n ρ h
    | 13, _ => f13.q13 I call n ρ h
    | 14, _ => f13.q14 I call n ρ h
    | 15, _ => f13.q15 I call n ρ h
    | 16, _ => f13.q16 I call n ρ h
    | 17, _ => f13.q17 I call n ρ h
    | 18, _ => f13.q18 I call n ρ h
    | 19, _ => f13.q19 I call n ρ h
    | 20, _ => f13.q20 I call n ρ h
    | 21, _ => f13.q21 I call n ρ h
    | 22, _ => f13.q22 I call n ρ h
    | 23, _ => f13.q23 I call n ρ h
    | 24, _ => f13.q24 I call n ρ h
    | 25, _ => f13.q25 I call n ρ h
    | 26, _ => f13.q26 I call n ρ h
    | 27, _ => f13.q27 I call n ρ h
    | 28, _ => f13.q28 I call n ρ h
    | 29, _ => f13.q29 I call n ρ h
    | 30, _ => f13.q30 I call n ρ h
    | 31, _ => f13.q31 I call n ρ h
    | 32, _ => f13.q32 I call n ρ h
    | 33, _ => f13.q33 I call n ρ h
    | 34, _ => f13.q34 I call n ρ h
    | id + 35, hid => absurd hid (by omega)⟩
noncomputable def f13.run (I : Inp) : SF := fun call n a h =>
  match a with
  | [v0, v1, v2] => f13.e I call (f13.J I call n) v0 v1 v2 h
  | _ => none
theorem f13.qe (I : Inp) (call : CallFn) (n : Nat) (v0 v1 v2 : AVal) (h : AHeap) : f13.e I call (f13.J I call n) v0 v1 v2 h = execC P I call (f13.JS I call n) c13.body 0 (finV I c13.results) (argV [v0, v1, v2]) h := by kernel_rfl
theorem f13.code : codeOf P 13 = some c13 := by kernel_rfl
theorem f13.ok (I : Inp) (F : Nat → Option AFn) (hF : F 13 = some (.code c13)) : SfOk P I F 13 (f13.run I) := by
  intro call hc n args h r hr
  unfold f13.run at hr
  split at hr
  · exact fn_sound (C := ⟨P, I, F⟩) (n := n) hc hF (Nat.le_of_ble_eq_true (by kernel_rfl)) (by kernel_rfl) (f13.S I F call) (by kernel_rfl) ((f13.qe I call n _ _ _ h).symm.trans hr)
  · cases hr
/-! haruspex/haruspexlaw10.Says -/
noncomputable def c15 : AFunc := (AFunc.mk 54 3 [(.tmp 6)] (.seq (.region [(S 5 (.box (T 2)) .none), (S 6 (.move (.val (.bool .false))) .none)]) (.seq (.seq (.region [(M 9 1), (S 10 (.bin .eql (T 9) (V 0)) .none)]) (.cond (T 10) (.seq (.region [(M 11 0), (S 12 (.eq .false .iface .true (T 11) (.val .nili)) .none), (M 6 12)]) .ret) .skip)) (.seq (.seq (.region [(M 13 0), (S 14 (.eq .false .iface .true (T 13) (.val .nili)) .none)]) (.cond (T 14) (.seq (.region [(S 6 (.move (.val (.bool .false))) .none)]) .ret) .skip)) (.seq (.region [(M 16 0), (S 17 (.call 38 [(T 16)]) .none), (M 15 17), (S 18 (.extract (T 15) 0) .none), (S 19 (.extract (T 15) 1) .none), (S 7 (.alloc [(Z 0), (Z 0), (Z 0)]) .none), (AOper.mk .none (.store 3 (T 7) (T 18)) .none), (M 8 19)]) (.seq (.seq (.region [(M 20 0), (S 21 (.call 24 [(T 20)]) .none), (M 22 1), (S 23 (.bin .neq (T 21) (T 22)) .none), (M 24 23), (S 25 (.move (T 8)) (.some (24, .false))), (S 26 (.fieldAddr 0 (T 5)) (.some (24, .false))), (S 27 (.load1 (T 26)) (.some (24, .false))), (S 28 (.bin .geq (T 27) (V 0)) (.some (24, .false))), (S 29 (.eq .true .bool .false (T 25) (T 28)) (.some (24, .false))), (S 30 (.pick (T 24) (.val (.bool .true)) (T 29)) .none)]) (.cond (T 30) (.seq (.region [(S 6 (.move (.val (.bool .false))) .none)]) .ret) .skip)) (.seq (.region [(M 31 8), (S 32 (.un .not (T 31)) .none), (M 33 32), (S 34 (.fieldAddr 0 (T 7)) (.some (33, .false))), (S 35 (.load1 (T 34)) (.some (33, .false))), (S 36 (.fieldAddr 0 (T 5)) (.some (33, .false))), (S 37 (.load1 (T 36)) (.some (33, .false))), (S 38 (.bin .eql (T 35) (T 37)) (.some (33, .false))), (S 39 (.move (T 38)) (.some (33, .false))), (S 40 (.fieldAddr 1 (T 7)) (.some (39, .true))), (S 41 (.load1 (T 40)) (.some (39, .true))), (S 42 (.fieldAddr 1 (T 5)) (.some (39, .true))), (S 43 (.load1 (T 42)) (.some (39, .true))), (S 44 (.bin .eql (T 41) (T 43)) (.some (39, .true))), (S 45 (.pick (T 39) (T 44) (.val (.bool .false))) (.some (33, .false))), (S 46 (.move (T 45)) (.some (33, .false))), (S 47 (.fieldAddr 2 (T 7)) (.some (46, .true))), (S 48 (.load1 (T 47)) (.some (46, .true))), (S 49 (.fieldAddr 2 (T 5)) (.some (46, .true))), (S 50 (.load1 (T 49)) (.some (46, .true))), (S 51 (.bin .eql (T 48) (T 50)) (.some (46, .true))), (S 52 (.pick (T 46) (T 51) (.val (.bool .false))) (.some (33, .false))), (S 53 (.pick (T 33) (.val (.bool .true)) (T 52)) .none), (M 6 53)]) .ret)))))))
abbrev f15.Js : Type := ((AVal → AVal → AVal → AHeap → Rs) × ((AVal → AVal → AVal → AHeap → Rs) × (AVal → AVal → AVal → AHeap → Rs)))
noncomputable def f15.b0 (I : Inp) (call : CallFn) (j : f15.Js) (v0 v1 v5 : AVal) (h : AHeap) : Rs :=
  bndP (pEq P .false .iface .true v0 .nili h) fun v14 =>
  sCond v14 (
  j.2.1 v0 v1 v5 h) (
  some ((.bool .false), h))
noncomputable def f15.b1 (I : Inp) (call : CallFn) (j : f15.Js) (v0 v1 v5 : AVal) (h : AHeap) : Rs :=
  bnd (call 38 [v0] h) fun v17 h1 =>
  bndP (pExtract v17 0) fun v18 =>
  bndP (pExtract v17 1) fun v19 =>
  bnd (sAlloc [(Z 0), (Z 0), (Z 0)] h1) fun v7 h2 =>
  bnd (sStore 3 v7 v18 h2) fun _ h3 =>
  bnd (call 24 [v0] h3) fun v21 h4 =>
  bndP (pBin .neq v21 v1) fun v23 =>
  bnd (sGuard v23 .false (some (v19, h4)) h4) fun v25 h5 =>
  bnd (sGuard v23 .false (lift (pFieldAddr 0 v5) h5) h5) fun v26 h6 =>
  bnd (sGuard v23 .false (lift (pLoad1 I v26 h6) h6) h6) fun v27 h7 =>
  bnd (sGuard v23 .false (lift (pBin .geq v27 (Z 0)) h7) h7) fun v28 h8 =>
  bnd (sGuard v23 .false (lift (pEq P .true .bool .false v25 v28 h8) h8) h8) fun v29 h9 =>
  bndP (pPick v23 (.bool .true) v29) fun v30 =>
  sCond v30 (
  j.2.2 v5 v7 v19 h9) (
  some ((.bool .false), h9))
noncomputable def f15.b2 (I : Inp) (call : CallFn) (j : f15.Js) (v5 v7 v8 : AVal) (h : AHeap) : Rs :=
  bndP (pUn .not v8) fun v32 =>
  bnd (sGuard v32 .false (lift (pFieldAddr 0 v7) h) h) fun v34 h1 =>
  bnd (sGuard v32 .false (lift (pLoad1 I v34 h1) h1) h1) fun v35 h2 =>
  bnd (sGuard v32 .false (lift (pFieldAddr 0 v5) h2) h2) fun v36 h3 =>
  bnd (sGuard v32 .false (lift (pLoad1 I v36 h3) h3) h3) fun v37 h4 =>
  bnd (sGuard v32 .false (lift (pBin .eql v35 v37) h4) h4) fun v38 h5 =>
  bnd (sGuard v32 .false (some (v38, h5)) h5) fun v39 h6 =>
  bnd (sGuard v39 .true (lift (pFieldAddr 1 v7) h6) h6) fun v40 h7 =>
  bnd (sGuard v39 .true (lift (pLoad1 I v40 h7) h7) h7) fun v41 h8 =>
  bnd (sGuard v39 .true (lift (pFieldAddr 1 v5) h8) h8) fun v42 h9 =>
  bnd (sGuard v39 .true (lift (pLoad1 I v42 h9) h9) h9) fun v43 h10 =>
  bnd (sGuard v39 .true (lift (pBin .eql v41 v43) h10) h10) fun v44 h11 =>
  bnd (sGuard v32 .false (lift (pPick v39 v44 (.bool .false)) h11) h11) fun v45 h12 =>
  bnd (sGuard v32 .false (some (v45, h12)) h12) fun v46 h13 =>
  bnd (sGuard v46 .true (lift (pFieldAddr 2 v7) h13) h13) fun v47 h14 =>
  bnd (sGuard v46 .true (lift (pLoad1 I v47 h14) h14) h14) fun v48 h15 =>
  bnd (sGuard v46 .true (lift (pFieldAddr 2 v5) h15) h15) fun v49 h16 =>
  bnd (sGuard v46 .true (lift (pLoad1 I v49 h16) h16) h16) fun v50 h17 =>
  bnd (sGuard v46 .true (lift (pBin .eql v48 v50) h17) h17) fun v51 h18 =>
  bnd (sGuard v32 .false (lift (pPick v46 v51 (.bool .false)) h18) h18) fun v52 h19 =>
  bndP (pPick v32 (.bool .true) v52) fun v53 =>
  some (v53, h19)
noncomputable def f15.e (I : Inp) (call : CallFn) (j : f15.Js) (v0 v1 v2 : AVal) (h : AHeap) : Rs :=
  bnd (sBox v2 h) fun v5 h1 =>
  bndP (pBin .eql v1 (Z 0)) fun v10 =>
  sCond v10 (
  j.1 v0 v1 v5 h1) (
  bndP (pEq P .false .iface .true v0 .nili h1) fun v12 =>
  some (v12, h1))
noncomputable def f15.J (I : Inp) (call : CallFn) (n : Nat) : f15.Js :=
  Nat.rec (motive := fun _ => f15.Js) ((fun _ _ _ _ => none), ((fun _ _ _ _ => none), (fun _ _ _ _ => none))) (fun _ ih => (f15.b0 I call ih, (f15.b1 I call ih, f15.b2 I call ih))) n
theorem f15.n0 (I : Inp) (call : CallFn) (n : Nat) : (f15.J I call (n + 1)).1 = f15.b0 I call (f15.J I call n) := Eq.trans rfl rfl
theorem f15.n1 (I : Inp) (call : CallFn) (n : Nat) : (f15.J I call (n + 1)).2.1 = f15.b1 I call (f15.J I call n) := Eq.trans rfl rfl
theorem f15.n2 (I : Inp) (call : CallFn) (n : Nat) : (f15.J I call (n + 1)).2.2 = f15.b2 I call (f15.J I call n) := Eq.trans rfl rfl
noncomputable def f15.JS (I : Inp) (call : CallFn) (n : Nat) : Jmp := fun id ρ h =>
  (Bool.rec (motive := fun _ => _) (Bool.rec (motive := fun _ => _) ((f15.J I call n).2.2 (ρ 5) (ρ 7) (ρ 8) h) ((f15.J I call n).2.1 (ρ 0) (ρ 1) (ρ 5) h) (Nat.blt id 2)) ((f15.J I call n).1 (ρ 0) (ρ 1) (ρ 5) h) (Nat.blt id 1))
theorem f15.q0 (I : Inp) (call : CallFn) (n : Nat) (ρ : Fun) (h : AHeap) : f15.JS I call (n + 1) 0 ρ h = labC P I call (f15.JS I call n) c15.body 0 (finV I c15.results) 0 ρ h := by kernel_rfl
theorem f15.q1 (I : Inp) (call : CallFn) (n : Nat) (ρ : Fun) (h : AHeap) : f15.JS I call (n + 1) 1 ρ h = labC P I call (f15.JS I call n) c15.body 0 (finV I c15.results) 1 ρ h := by kernel_rfl
theorem f15.q2 (I : Inp) (call : CallFn) (n : Nat) (ρ : Fun) (h : AHeap) : f15.JS I call (n + 1) 2 ρ h = labC P I call (f15.JS I call n) c15.body 0 (finV I c15.results) 2 ρ h := by kernel_rfl
theorem f15.S (I : Inp) (F : Nat → Option AFn) (call : CallFn) : SFn ⟨P, I, F⟩ call c15 (f15.JS I call) :=
  ⟨fun id hid ρ h => by
    have hc : c15.body.cnt = 3 := by kernel_rfl
    rw [hc] at hid
    exact match id, hid with
    | 0, _ => rfl
    | 1, _ => rfl
    | 2, _ => rfl
    | id + 3, hid => absurd hid (by omega), fun n id hid ρ h => by
    have hc : c15.body.cnt = 3 := by kernel_rfl
    rw [hc] at hid
    exact match id, hid with
    | 0, _ => f15.q0 I call n ρ h
    | 1, _ => f15.q1 I call n ρ h
    | 2, _ => f15.q2 I call n ρ h
    | id + 3, hid => absurd hid (by omega)⟩
noncomputable def f15.run (I : Inp) : SF := fun call n a h =>
  match a with
  | [v0, v1, v2] => f15.e I call (f15.J I call n) v0 v1 v2 h
  | _ => none
theorem f15.qe (I : Inp) (call : CallFn) (n : Nat) (v0 v1 v2 : AVal) (h : AHeap) : f15.e I call (f15.J I call n) v0 v1 v2 h = execC P I call (f15.JS I call n) c15.body 0 (finV I c15.results) (argV [v0, v1, v2]) h := by kernel_rfl
theorem f15.code : codeOf P 15 = some c15 := by kernel_rfl
theorem f15.ok (I : Inp) (F : Nat → Option AFn) (hF : F 15 = some (.code c15)) : SfOk P I F 15 (f15.run I) := by
  intro call hc n args h r hr
  unfold f15.run at hr
  split at hr
  · exact fn_sound (C := ⟨P, I, F⟩) (n := n) hc hF (Nat.le_of_ble_eq_true (by kernel_rfl)) (by kernel_rfl) (f15.S I F call) (by kernel_rfl) ((f15.qe I call n _ _ _ h).symm.trans hr)
  · cases hr
theorem f15.qr (I : Inp) (call : CallFn) (n : Nat) (v0 v1 v2 : AVal) (h : AHeap) : f15.run I call n [v0, v1, v2] h = f15.e I call (f15.J I call n) v0 v1 v2 h := by kernel_rfl
theorem f15.lim {I : Inp} {prims : Nat → Option Prim} (hp : prims 15 = none) {n : Nat} {v0 v1 v2 : AVal} {h : AHeap} {Q : AVal → AHeap → Prop} (hr : Res (f15.e I (AM.lim ⟨P, I, genF P prims⟩) (f15.J I (AM.lim ⟨P, I, genF P prims⟩) n) v0 v1 v2 h) Q) :
    Res (AM.lim ⟨P, I, genF P prims⟩ 15 [v0, v1, v2] h) Q := by
  obtain ⟨v, h', e, q⟩ := hr
  exact ⟨v, h', lim_sf (C := ⟨P, I, genF P prims⟩) (n := n) (f15.ok I (genF P prims) (genF_code hp f15.code)) ((f15.qr I _ n v0 v1 v2 h).trans e), q⟩
/-! haruspex/types.Bounds -/
noncomputable def c16 : AFunc := (AFunc.mk 174 1 [(.tmp 2)] (.seq (.region [(S 2 (.move (.val .nili)) .none)]) (.seq (.seq (.region [(M 19 0), (S 20 (.eq .false .ptr .true (T 19) (.val .nilp)) .none), (M 21 20), (S 22 (.move (T 0)) (.some (21, .false))), (S 23 (.nilCheck (T 22)) (.some (21, .false))), (S 24 (.fieldAddr 0 (T 23)) (.some (21, .false))), (S 25 (.load1 (T 24)) (.some (21, .false))), (S 26 (.lenSl (T 25)) (.some (21, .false))), (S 27 (.bin .gtr (T 26) (V 6)) (.some (21, .false))), (S 28 (.pick (T 21) (.val (.bool .true)) (T 27)) .none), (M 29 28), (S 30 (.move (T 0)) (.some (29, .false))), (S 31 (.nilCheck (T 30)) (.some (29, .false))), (S 32 (.fieldAddr 1 (T 31)) (.some (29, .false))), (S 33 (.load1 (T 32)) (.some (29, .false))), (S 34 (.lenSl (T 33)) (.some (29, .false))), (S 35 (.bin .gtr (T 34) (V 10)) (.some (29, .false))), (S 36 (.pick (T 29) (.val (.bool .true)) (T 35)) .none), (M 37 36), (S 38 (.move (T 0)) (.some (37, .false))), (S 39 (.nilCheck (T 38)) (.some (37, .false))), (S 40 (.fieldAddr 2 (T 39)) (.some (37, .false))), (S 41 (.load1 (T 40)) (.some (37, .false))), (S 42 (.lenSl (T 41)) (.some (37, .false))), (S 43 (.bin .gtr (T 42) (V 4)) (.some (37, .false))), (S 44 (.pick (T 37) (.val (.bool .true)) (T 43)) .none), (M 45 44), (S 46 (.move (T 0)) (.some (45, .false))), (S 47 (.nilCheck (T 46)) (.some (45, .false))), (S 48 (.fieldAddr 3 (T 47)) (.some (45, .false))), (S 49 (.load1 (T 48)) (.some (45, .false))), (S 50 (.lenSl (T 49)) (.some (45, .false))), (S 51 (.bin .gtr (T 50) (V 12)) (.some (45, .false))), (S 52 (.pick (T 45) (.val (.bool .true)) (T 51)) .none), (M 53 52), (S 54 (.move (T 0)) (.some (53, .false))), (S 55 (.nilCheck (T 54)) (.some (53, .false))), (S 56 (.fieldAddr 4 (T 55)) (.some (53, .false))), (S 57 (.load1 (T 56)) (.some (53, .false))), (S 58 (.lenSl (T 57)) (.some (53, .false))), (S 59 (.bin .gtr (T 58) (V 12)) (.some (53, .false))), (S 60 (.pick (T 53) (.val (.bool .true)) (T 59)) .none), (M 61 60), (S 62 (.move (T 0)) (.some (61, .false))), (S 63 (.nilCheck (T 62)) (.some (61, .false))), (S 64 (.fieldAddr 4 (T 63)) (.some (61, .false))), (S 65 (.load1 (T 64)) (.some (61, .false))), (S 66 (.lenSl (T 65)) (.some (61, .false))), (S 67 (.bin .eql (T 66) (V 0)) (.some (61, .false))), (S 68 (.pick (T 61) (.val (.bool .true)) (T 67)) .none)]) (.cond (T 68) (.seq (.region [(S 69 (.call 39 []) .none), (M 2 69)]) .ret) .skip)) (.seq (.region [(S 3 (.move (.val (.bool .true))) .none)]) (.seq (.seq (.region [(M 70 0), (NC 71 70), (FA 72 0 71), (L1 73 72), (S 74 (.lenSl (T 73)) .none), (S 75 (.move (V 0)) .none)]) (.block 0 (.loop (.seq (.region [(S 76 (.bin .lss (T 75) (T 74)) .none)]) (.seq (.cond (T 76) .skip (.exit 0)) (.seq (.block 1 (.seq (.region [(S 77 (.indexAddr 1 (T 73) (T 75)) .none), (L1 78 77), (M 5 78)]) (.region [(M 79 3), (M 80 79), (S 81 (.move (T 5)) (.some (80, .true))), (S 82 (.lenSl (T 81)) (.some (80, .true))), (S 83 (.bin .leq (T 82) (V 4)) (.some (80, .true))), (S 84 (.pick (T 80) (T 83) (.val (.bool .false))) .none), (M 3 84)]))) (.region [(S 85 (.bin .add (T 75) (V 1)) .none), (M 75 85)]))))))) (.seq (.seq (.region [(M 86 0), (NC 87 86), (FA 88 1 87), (L1 89 88), (S 90 (.lenSl (T 89)) .none), (S 91 (.move (V 0)) .none)]) (.block 2 (.loop (.seq (.region [(S 92 (.bin .lss (T 91) (T 90)) .none)]) (.seq (.cond (T 92) .skip (.exit 2)) (.seq (.block 3 (.seq (.region [(S 93 (.indexAddr 3 (T 89) (T 91)) .none), (S 94 (.loadN 3 (T 93)) .none), (S 7 (.alloc [.nils, (Z 0), (Z 0)]) .none), (AOper.mk .none (.store 3 (T 7) (T 94)) .none)]) (.region [(M 95 3), (M 96 95), (S 97 (.fieldAddr 0 (T 7)) (.some (96, .true))), (S 98 (.load1 (T 97)) (.some (96, .true))), (S 99 (.lenSl (T 98)) (.some (96, .true))), (S 100 (.bin .leq (T 99) (V 4)) (.some (96, .true))), (S 101 (.pick (T 96) (T 100) (.val (.bool .false))) .none), (M 3 101)]))) (.region [(S 102 (.bin .add (T 91) (V 1)) .none), (M 91 102)]))))))) (.seq (.seq (.region [(M 103 0), (NC 104 103), (FA 105 2 104), (L1 106 105), (S 107 (.lenSl (T 106)) .none), (S 108 (.move (V 0)) .none)]) (.block 4 (.loop (.seq (.region [(S 109 (.bin .lss (T 108) (T 107)) .none)]) (.seq (.cond (T 109) .skip (.exit 4)) (.seq (.block 5 (.seq (.region [(S 110 (.indexAddr 1 (T 106) (T 108)) .none), (S 111 (.loadN 1 (T 110)) .none), (S 9 (.alloc [.nils]) .none), (AOper.mk .none (.store 1 (T 9) (T 111)) .none)]) (.region [(M 112 3), (M 113 112), (S 114 (.fieldAddr 0 (T 9)) (.some (113, .true))), (S 115 (.load1 (T 114)) (.some (113, .true))), (S 116 (.lenSl (T 115)) (.some (113, .true))), (S 117 (.bin .leq (T 116) (V 3)) (.some (113, .true))), (S 118 (.pick (T 113) (T 117) (.val (.bool .false))) .none), (M 3 118)]))) (.region [(S 119 (.bin .add (T 108) (V 1)) .none), (M 108 119)]))))))) (.seq (.seq (.region [(M 120 0), (NC 121 120), (FA 122 3 121), (L1 123 122), (S 124 (.lenSl (T 123)) .none), (S 125 (.move (V 0)) .none)]) (.block 6 (.loop (.seq (.region [(S 126 (.bin .lss (T 125) (T 124)) .none)]) (.seq (.cond (T 126) .skip (.exit 6)) (.seq (.block 7 (.seq (.region [(S 127 (.indexAddr 3 (T 123) (T 125)) .none), (S 128 (.loadN 3 (T 127)) .none), (S 11 (.alloc [(Z 0), (Z 0), .nils]) .none), (AOper.mk .none (.store 3 (T 11) (T 128)) .none)]) (.region [(M 129 3), (M 130 129), (S 131 (.fieldAddr 2 (T 11)) (.some (130, .true))), (S 132 (.load1 (T 131)) (.some (130, .true))), (S 133 (.lenSl (T 132)) (.some (130, .true))), (S 134 (.bin .leq (T 133) (V 3)) (.some (130, .true))), (S 135 (.pick (T 130) (T 134) (.val (.bool .false))) .none), (M 3 135)]))) (.region [(S 136 (.bin .add (T 125) (V 1)) .none), (M 125 136)]))))))) (.seq (.region [(S 12 (.move (V 0)) .none), (S 13 (.move (V 0)) .none)]) (.seq (.seq (.region [(M 137 0), (NC 138 137), (FA 139 4 138), (L1 140 139), (S 141 (.lenSl (T 140)) .none), (S 142 (.move (V 0)) .none)]) (.block 8 (.loop (.seq (.region [(S 143 (.bin .lss (T 142) (T 141)) .none)]) (.seq (.cond (T 143) .skip (.exit 8)) (.seq (.block 9 (.seq (.region [(S 144 (.indexAddr 3 (T 140) (T 142)) .none), (S 145 (.loadN 3 (T 144)) .none), (S 15 (.alloc [(Z 0), .nils, .nils]) .none), (AOper.mk .none (.store 3 (T 15) (T 145)) .none)]) (.seq (.region [(S 147 (.loadN 3 (T 15)) .none), (S 148 (.call 40 [(T 147)]) .none), (M 146 148), (S 149 (.extract (T 146) 0) .none), (S 150 (.extract (T 146) 1) .none), (S 151 (.extract (T 146) 2) .none), (M 16 149), (M 17 150), (M 18 151)]) (.seq (.region [(M 152 3), (M 153 152), (S 154 (.move (T 16)) (.some (153, .true))), (S 155 (.pick (T 153) (T 154) (.val (.bool .false))) .none), (M 3 155)]) (.region [(M 156 12), (M 157 17), (S 158 (.bin .add (T 156) (T 157)) .none), (M 159 13), (M 160 18), (S 161 (.bin .add (T 159) (T 160)) .none), (M 12 158), (M 13 161)]))))) (.region [(S 162 (.bin .add (T 142) (V 1)) .none), (M 142 162)]))))))) (.seq (.seq (.region [(M 163 3), (S 164 (.un .not (T 163)) .none), (M 165 164), (S 166 (.move (T 12)) (.some (165, .false))), (S 167 (.bin .gtr (T 166) (V 600)) (.some (165, .false))), (S 168 (.pick (T 165) (.val (.bool .true)) (T 167)) .none), (M 169 168), (S 170 (.move (T 13)) (.some (169, .false))), (S 171 (.bin .gtr (T 170) (V 40)) (.some (169, .false))), (S 172 (.pick (T 169) (.val (.bool .true)) (T 171)) .none)]) (.cond (T 172) (.seq (.region [(S 173 (.call 39 []) .none), (M 2 173)]) .ret) .skip)) (.seq (.region [(S 2 (.move (.val .nili)) .none)]) .ret))))))))))))
abbrev f16.Js : Type := (((((AVal → AHeap → Rs) × (AVal → AVal → AHeap → Rs)) × ((AVal → AVal → AVal → AVal → AVal → AHeap → Rs) × ((AVal → AVal → AVal → AVal → AVal → AHeap → Rs) × (AVal → AVal → AVal → AVal → AVal → AHeap → Rs)))) × (((AVal → AVal → AHeap → Rs) × ((AVal → AVal → AVal → AVal → AVal → AHeap → Rs) × (AVal → AVal → AVal → AVal → AVal → AHeap → Rs))) × ((AVal → AVal → AVal → AVal → AVal → AHeap → Rs) × ((AVal → AVal → AHeap → Rs) × (AVal → AVal → AVal → AVal → AVal → AHeap → Rs))))) × ((((AVal → AVal → AVal → AVal → AVal → AHeap → Rs) × (AVal → AVal → AVal → AVal → AVal → AHeap → Rs)) × ((AVal → AVal → AHeap → Rs) × ((AVal → AVal → AVal → AVal → AVal → AHeap → Rs) × (AVal → AVal → AVal → AVal → AVal → AHeap → Rs)))) × (((AVal → AVal → AVal → AVal → AVal → AHeap → Rs) × ((AVal → AVal → AVal → AHeap → Rs) × (AVal → AVal → AVal → AVal → AVal → AVal → AHeap → Rs))) × ((AVal → AVal → AVal → AVal → AVal → AVal → AHeap → Rs) × ((AVal → AVal → AVal → AVal → AVal → AVal → AHeap → Rs) × (AHeap → Rs))))))
noncomputable def f16.b0 (I : Inp) (call : CallFn) (j : f16.Js) (v0 : AVal) (h : AHeap) : Rs :=
  bndP (pNilCheck v0) fun v71 =>
  bndP (pFieldAddr 0 v71) fun v72 =>
  bndP (pLoad1 I v72 h) fun v73 =>
  bndP (pLenSl v73) fun v74 =>
  j.1.1.2.1 v0 (.bool .true) v73 v74 (Z 0) h
noncomputable def f16.b1 (I : Inp) (call : CallFn) (j : f16.Js) (v0 v3 : AVal) (h : AHeap) : Rs :=
  bndP (pNilCheck v0) fun v87 =>
  bndP (pFieldAddr 1 v87) fun v88 =>
  bndP (pLoad1 I v88 h) fun v89 =>
  bndP (pLenSl v89) fun v90 =>
  j.1.2.1.2.1 v0 v3 v89 v90 (Z 0) h
noncomputable def f16.b2 (I : Inp) (call : CallFn) (j : f16.Js) (v0 v3 v73 v74 v75 : AVal) (h : AHeap) : Rs :=
  bndP (pBin .lss v75 v74) fun v76 =>
  sCond v76 (
  j.1.1.1.2 v0 v3 h) (
  j.1.1.2.2.1 v0 v3 v73 v74 v75 h)
noncomputable def f16.b3 (I : Inp) (call : CallFn) (j : f16.Js) (v0 v3 v73 v74 v75 : AVal) (h : AHeap) : Rs :=
  bndP (pIndexAddr 1 v73 v75) fun v77 =>
  bndP (pLoad1 I v77 h) fun v78 =>
  bnd (sGuard v3 .true (some (v78, h)) h) fun v81 h1 =>
  bnd (sGuard v3 .true (lift (pLenSl v81) h1) h1) fun v82 h2 =>
  bnd (sGuard v3 .true (lift (pBin .leq v82 (Z 4)) h2) h2) fun v83 h3 =>
  bndP (pPick v3 v83 (.bool .false)) fun v84 =>
  j.1.1.2.2.2 v0 v84 v73 v74 v75 h3
noncomputable def f16.b4 (I : Inp) (call : CallFn) (j : f16.Js) (v0 v3 v73 v74 v75 : AVal) (h : AHeap) : Rs :=
  bndP (pBin .add v75 (Z 1)) fun v85 =>
  j.1.1.2.1 v0 v3 v73 v74 v85 h
noncomputable def f16.b5 (I : Inp) (call : CallFn) (j : f16.Js) (v0 v3 : AVal) (h : AHeap) : Rs :=
  bndP (pNilCheck v0) fun v104 =>
  bndP (pFieldAddr 2 v104) fun v105 =>
  bndP (pLoad1 I v105 h) fun v106 =>
  bndP (pLenSl v106) fun v107 =>
  j.1.2.2.2.2 v0 v3 v106 v107 (Z 0) h
noncomputable def f16.b6 (I : Inp) (call : CallFn) (j : f16.Js) (v0 v3 v89 v90 v91 : AVal) (h : AHeap) : Rs :=
  bndP (pBin .lss v91 v90) fun v92 =>
  sCond v92 (
  j.1.2.1.1 v0 v3 h) (
  j.1.2.1.2.2 v0 v3 v89 v90 v91 h)
noncomputable def f16.b7 (I : Inp) (call : CallFn) (j : f16.Js) (v0 v3 v89 v90 v91 : AVal) (h : AHeap) : Rs :=
  bndP (pIndexAddr 3 v89 v91) fun v93 =>
  bndP (pLoadN I 3 v93 h) fun v94 =>
  bnd (sAlloc [.nils, (Z 0), (Z 0)] h) fun v7 h1 =>
  bnd (sStore 3 v7 v94 h1) fun _ h2 =>
  bnd (sGuard v3 .true (lift (pFieldAddr 0 v7) h2) h2) fun v97 h3 =>
  bnd (sGuard v3 .true (lift (pLoad1 I v97 h3) h3) h3) fun v98 h4 =>
  bnd (sGuard v3 .true (lift (pLenSl v98) h4) h4) fun v99 h5 =>
  bnd (sGuard v3 .true (lift (pBin .leq v99 (Z 4)) h5) h5) fun v100 h6 =>
  bndP (pPick v3 v100 (.bool .false)) fun v101 =>
  j.1.2.2.1 v0 v101 v89 v90 v91 h6
noncomputable def f16.b8 (I : Inp) (call : CallFn) (j : f16.Js) (v0 v3 v89 v90 v91 : AVal) (h : AHeap) : Rs :=
  bndP (pBin .add v91 (Z 1)) fun v102 =>
  j.1.2.1.2.1 v0 v3 v89 v90 v102 h
noncomputable def f16.b9 (I : Inp) (call : CallFn) (j : f16.Js) (v0 v3 : AVal) (h : AHeap) : Rs :=
  bndP (pNilCheck v0) fun v121 =>
  bndP (pFieldAddr 3 v121) fun v122 =>
  bndP (pLoad1 I v122 h) fun v123 =>
  bndP (pLenSl v123) fun v124 =>
  j.2.1.2.2.1 v0 v3 v123 v124 (Z 0) h
noncomputable def f16.b10 (I : Inp) (call : CallFn) (j : f16.Js) (v0 v3 v106 v107 v108 : AVal) (h : AHeap) : Rs :=
  bndP (pBin .lss v108 v107) fun v109 =>
  sCond v109 (
  j.1.2.2.2.1 v0 v3 h) (
  j.2.1.1.1 v0 v3 v106 v107 v108 h)
noncomputable def f16.b11 (I : Inp) (call : CallFn) (j : f16.Js) (v0 v3 v106 v107 v108 : AVal) (h : AHeap) : Rs :=
  bndP (pIndexAddr 1 v106 v108) fun v110 =>
  bndP (pLoadN I 1 v110 h) fun v111 =>
  bnd (sAlloc [.nils] h) fun v9 h1 =>
  bnd (sStore 1 v9 v111 h1) fun _ h2 =>
  bnd (sGuard v3 .true (lift (pFieldAddr 0 v9) h2) h2) fun v114 h3 =>
  bnd (sGuard v3 .true (lift (pLoad1 I v114 h3) h3) h3) fun v115 h4 =>
  bnd (sGuard v3 .true (lift (pLenSl v115) h4) h4) fun v116 h5 =>
  bnd (sGuard v3 .true (lift (pBin .leq v116 (Z 3)) h5) h5) fun v117 h6 =>
  bndP (pPick v3 v117 (.bool .false)) fun v118 =>
  j.2.1.1.2 v0 v118 v106 v107 v108 h6
noncomputable def f16.b12 (I : Inp) (call : CallFn) (j : f16.Js) (v0 v3 v106 v107 v108 : AVal) (h : AHeap) : Rs :=
  bndP (pBin .add v108 (Z 1)) fun v119 =>
  j.1.2.2.2.2 v0 v3 v106 v107 v119 h
noncomputable def f16.b13 (I : Inp) (call : CallFn) (j : f16.Js) (v0 v3 : AVal) (h : AHeap) : Rs :=
  bndP (pNilCheck v0) fun v138 =>
  bndP (pFieldAddr 4 v138) fun v139 =>
  bndP (pLoad1 I v139 h) fun v140 =>
  bndP (pLenSl v140) fun v141 =>
  j.2.2.1.2.2 v3 (Z 0) (Z 0) v140 v141 (Z 0) h
noncomputable def f16.b14 (I : Inp) (call : CallFn) (j : f16.Js) (v0 v3 v123 v124 v125 : AVal) (h : AHeap) : Rs :=
  bndP (pBin .lss v125 v124) fun v126 =>
  sCond v126 (
  j.2.1.2.1 v0 v3 h) (
  j.2.1.2.2.2 v0 v3 v123 v124 v125 h)
noncomputable def f16.b15 (I : Inp) (call : CallFn) (j : f16.Js) (v0 v3 v123 v124 v125 : AVal) (h : AHeap) : Rs :=
  bndP (pIndexAddr 3 v123 v125) fun v127 =>
  bndP (pLoadN I 3 v127 h) fun v128 =>
  bnd (sAlloc [(Z 0), (Z 0), .nils] h) fun v11 h1 =>
  bnd (sStore 3 v11 v128 h1) fun _ h2 =>
  bnd (sGuard v3 .true (lift (pFieldAddr 2 v11) h2) h2) fun v131 h3 =>
  bnd (sGuard v3 .true (lift (pLoad1 I v131 h3) h3) h3) fun v132 h4 =>
  bnd (sGuard v3 .true (lift (pLenSl v132) h4) h4) fun v133 h5 =>
  bnd (sGuard v3 .true (lift (pBin .leq v133 (Z 3)) h5) h5) fun v134 h6 =>
  bndP (pPick v3 v134 (.bool .false)) fun v135 =>
  j.2.2.1.1 v0 v135 v123 v124 v125 h6
noncomputable def f16.b16 (I : Inp) (call : CallFn) (j : f16.Js) (v0 v3 v123 v124 v125 : AVal) (h : AHeap) : Rs :=
  bndP (pBin .add v125 (Z 1)) fun v136 =>
  j.2.1.2.2.1 v0 v3 v123 v124 v136 h
noncomputable def f16.b17 (I : Inp) (call : CallFn) (j : f16.Js) (v3 v12 v13 : AVal) (h : AHeap) : Rs :=
  bndP (pUn .not v3) fun v164 =>
  bnd (sGuard v164 .false (some (v12, h)) h) fun v166 h1 =>
  bnd (sGuard v164 .false (lift (pBin .gtr v166 (Z 600)) h1) h1) fun v167 h2 =>
  bndP (pPick v164 (.bool .true) v167) fun v168 =>
  bnd (sGuard v168 .false (some (v13, h2)) h2) fun v170 h3 =>
  bnd (sGuard v168 .false (lift (pBin .gtr v170 (Z 40)) h3) h3) fun v171 h4 =>
  bndP (pPick v168 (.bool .true) v171) fun v172 =>
  sCond v172 (
  j.2.2.2.2.2 h4) (
  bnd (call 39 [] h4) fun v173 h5 =>
  some (v173, h5))
noncomputable def f16.b18 (I : Inp) (call : CallFn) (j : f16.Js) (v3 v12 v13 v140 v141 v142 : AVal) (h : AHeap) : Rs :=
  bndP (pBin .lss v142 v141) fun v143 =>
  sCond v143 (
  j.2.2.1.2.1 v3 v12 v13 h) (
  j.2.2.2.1 v3 v12 v13 v140 v141 v142 h)
noncomputable def f16.b19 (I : Inp) (call : CallFn) (j : f16.Js) (v3 v12 v13 v140 v141 v142 : AVal) (h : AHeap) : Rs :=
  bndP (pIndexAddr 3 v140 v142) fun v144 =>
  bndP (pLoadN I 3 v144 h) fun v145 =>
  bnd (sAlloc [(Z 0), .nils, .nils] h) fun v15 h1 =>
  bnd (sStore 3 v15 v145 h1) fun _ h2 =>
  bndP (pLoadN I 3 v15 h2) fun v147 =>
  bnd (call 40 [v147] h2) fun v148 h3 =>
  bndP (pExtract v148 0) fun v149 =>
  bndP (pExtract v148 1) fun v150 =>
  bndP (pExtract v148 2) fun v151 =>
  bnd (sGuard v3 .true (some (v149, h3)) h3) fun v154 h4 =>
  bndP (pPick v3 v154 (.bool .false)) fun v155 =>
  bndP (pBin .add v12 v150) fun v158 =>
  bndP (pBin .add v13 v151) fun v161 =>
  j.2.2.2.2.1 v155 v158 v161 v140 v141 v142 h4
noncomputable def f16.b20 (I : Inp) (call : CallFn) (j : f16.Js) (v3 v12 v13 v140 v141 v142 : AVal) (h : AHeap) : Rs :=
  bndP (pBin .add v142 (Z 1)) fun v162 =>
  j.2.2.1.2.2 v3 v12 v13 v140 v141 v162 h
noncomputable def f16.b21 (I : Inp) (call : CallFn) (j : f16.Js) (h : AHeap) : Rs :=
  some (.nili, h)
noncomputable def f16.e (I : Inp) (call : CallFn) (j : f16.Js) (v0 : AVal) (h : AHeap) : Rs :=
  bndP (pEq P .false .ptr .true v0 .nilp h) fun v20 =>
  bnd (sGuard v20 .false (some (v0, h)) h) fun v22 h1 =>
  bnd (sGuard v20 .false (lift (pNilCheck v22) h1) h1) fun v23 h2 =>
  bnd (sGuard v20 .false (lift (pFieldAddr 0 v23) h2) h2) fun v24 h3 =>
  bnd (sGuard v20 .false (lift (pLoad1 I v24 h3) h3) h3) fun v25 h4 =>
  bnd (sGuard v20 .false (lift (pLenSl v25) h4) h4) fun v26 h5 =>
  bnd (sGuard v20 .false (lift (pBin .gtr v26 (Z 6)) h5) h5) fun v27 h6 =>
  bndP (pPick v20 (.bool .true) v27) fun v28 =>
  bnd (sGuard v28 .false (some (v0, h6)) h6) fun v30 h7 =>
  bnd (sGuard v28 .false (lift (pNilCheck v30) h7) h7) fun v31 h8 =>
  bnd (sGuard v28 .false (lift (pFieldAddr 1 v31) h8) h8) fun v32 h9 =>
  bnd (sGuard v28 .false (lift (pLoad1 I v32 h9) h9) h9) fun v33 h10 =>
  bnd (sGuard v28 .false (lift (pLenSl v33) h10) h10) fun v34 h11 =>
  bnd (sGuard v28 .false (lift (pBin .gtr v34 (Z 10)) h11) h11) fun v35 h12 =>
  bndP (pPick v28 (.bool .true) v35) fun v36 =>
  bnd (sGuard v36 .false (some (v0, h12)) h12) fun v38 h13 =>
  bnd (sGuard v36 .false (lift (pNilCheck v38) h13) h13) fun v39 h14 =>
  bnd (sGuard v36 .false (lift (pFieldAddr 2 v39) h14) h14) fun v40 h15 =>
  bnd (sGuard v36 .false (lift (pLoad1 I v40 h15) h15) h15) fun v41 h16 =>
  bnd (sGuard v36 .false (lift (pLenSl v41) h16) h16) fun v42 h17 =>
  bnd (sGuard v36 .false (lift (pBin .gtr v42 (Z 4)) h17) h17) fun v43 h18 =>
  bndP (pPick v36 (.bool .true) v43) fun v44 =>
  bnd (sGuard v44 .false (some (v0, h18)) h18) fun v46 h19 =>
  bnd (sGuard v44 .false (lift (pNilCheck v46) h19) h19) fun v47 h20 =>
  bnd (sGuard v44 .false (lift (pFieldAddr 3 v47) h20) h20) fun v48 h21 =>
  bnd (sGuard v44 .false (lift (pLoad1 I v48 h21) h21) h21) fun v49 h22 =>
  bnd (sGuard v44 .false (lift (pLenSl v49) h22) h22) fun v50 h23 =>
  bnd (sGuard v44 .false (lift (pBin .gtr v50 (Z 12)) h23) h23) fun v51 h24 =>
  bndP (pPick v44 (.bool .true) v51) fun v52 =>
  bnd (sGuard v52 .false (some (v0, h24)) h24) fun v54 h25 =>
  bnd (sGuard v52 .false (lift (pNilCheck v54) h25) h25) fun v55 h26 =>
  bnd (sGuard v52 .false (lift (pFieldAddr 4 v55) h26) h26) fun v56 h27 =>
  bnd (sGuard v52 .false (lift (pLoad1 I v56 h27) h27) h27) fun v57 h28 =>
  bnd (sGuard v52 .false (lift (pLenSl v57) h28) h28) fun v58 h29 =>
  bnd (sGuard v52 .false (lift (pBin .gtr v58 (Z 12)) h29) h29) fun v59 h30 =>
  bndP (pPick v52 (.bool .true) v59) fun v60 =>
  bnd (sGuard v60 .false (some (v0, h30)) h30) fun v62 h31 =>
  bnd (sGuard v60 .false (lift (pNilCheck v62) h31) h31) fun v63 h32 =>
  bnd (sGuard v60 .false (lift (pFieldAddr 4 v63) h32) h32) fun v64 h33 =>
  bnd (sGuard v60 .false (lift (pLoad1 I v64 h33) h33) h33) fun v65 h34 =>
  bnd (sGuard v60 .false (lift (pLenSl v65) h34) h34) fun v66 h35 =>
  bnd (sGuard v60 .false (lift (pBin .eql v66 (Z 0)) h35) h35) fun v67 h36 =>
  bndP (pPick v60 (.bool .true) v67) fun v68 =>
  sCond v68 (
  j.1.1.1.1 v0 h36) (
  bnd (call 39 [] h36) fun v69 h37 =>
  some (v69, h37))
noncomputable def f16.J (I : Inp) (call : CallFn) (n : Nat) : f16.Js :=
  Nat.rec (motive := fun _ => f16.Js) (((((fun _ _ => none), (fun _ _ _ => none)), ((fun _ _ _ _ _ _ => none), ((fun _ _ _ _ _ _ => none), (fun _ _ _ _ _ _ => none)))), (((fun _ _ _ => none), ((fun _ _ _ _ _ _ => none), (fun _ _ _ _ _ _ => none))), ((fun _ _ _ _ _ _ => none), ((fun _ _ _ => none), (fun _ _ _ _ _ _ => none))))), ((((fun _ _ _ _ _ _ => none), (fun _ _ _ _ _ _ => none)), ((fun _ _ _ => none), ((fun _ _ _ _ _ _ => none), (fun _ _ _ _ _ _ => none)))), (((fun _ _ _ _ _ _ => none), ((fun _ _ _ _ => none), (fun _ _ _ _ _ _ _ => none))), ((fun _ _ _ _ _ _ _ => none), ((fun _ _ _ _ _ _ _ => none), (fun _ => none)))))) (fun _ ih => ((((f16.b0 I call ih, f16.b1 I call ih), (f16.b2 I call ih, (f16.b3 I call ih, f16.b4 I call ih))), ((f16.b5 I call ih, (f16.b6 I call ih, f16.b7 I call ih)), (f16.b8 I call ih, (f16.b9 I call ih, f16.b10 I call ih)))), (((f16.b11 I call ih, f16.b12 I call ih), (f16.b13 I call ih, (f16.b14 I call ih, f16.b15 I call ih))), ((f16.b16 I call ih, (f16.b17 I call ih, f16.b18 I call ih)), (f16.b19 I call ih, (f16.b20 I call ih, f16.b21 I call ih)))))) n
noncomputable def f16.JS (I : Inp) (call : CallFn) (n : Nat) : Jmp := fun id ρ h =>
  (Bool.rec (motive := fun _ => _) (Bool.rec (motive := fun _ => _) (Bool.rec (motive := fun _ => _) (Bool.rec (motive := fun _ => _) (Bool.rec (motive := fun _ => _) ((f16.J I call n).2.2.2.2.2 h) ((f16.J I call n).2.2.2.2.1 (ρ 3) (ρ 12) (ρ 13) (ρ 140) (ρ 141) (ρ 142) h) (Nat.blt id 21)) ((f16.J I call n).2.2.2.1 (ρ 3) (ρ 12) (ρ 13) (ρ 140) (ρ 141) (ρ 142) h) (Nat.blt id 20)) (Bool.rec (motive := fun _ => _) (Bool.rec (motive := fun _ => _) ((f16.J I call n).2.2.1.2.2 (ρ 3) (ρ 12) (ρ 13) (ρ 140) (ρ 141) (ρ 142) h) ((f16.J I call n).2.2.1.2.1 (ρ 3) (ρ 12) (ρ 13) h) (Nat.blt id 18)) ((f16.J I call n).2.2.1.1 (ρ 0) (ρ 3) (ρ 123) (ρ 124) (ρ 125) h) (Nat.blt id 17)) (Nat.blt id 19)) (Bool.rec (motive := fun _ => _) (Bool.rec (motive := fun _ => _) (Bool.rec (motive := fun _ => _) ((f16.J I call n).2.1.2.2.2 (ρ 0) (ρ 3) (ρ 123) (ρ 124) (ρ 125) h) ((f16.J I call n).2.1.2.2.1 (ρ 0) (ρ 3) (ρ 123) (ρ 124) (ρ 125) h) (Nat.blt id 15)) ((f16.J I call n).2.1.2.1 (ρ 0) (ρ 3) h) (Nat.blt id 14)) (Bool.rec (motive := fun _ => _) ((f16.J I call n).2.1.1.2 (ρ 0) (ρ 3) (ρ 106) (ρ 107) (ρ 108) h) ((f16.J I call n).2.1.1.1 (ρ 0) (ρ 3) (ρ 106) (ρ 107) (ρ 108) h) (Nat.blt id 12)) (Nat.blt id 13)) (Nat.blt id 16)) (Bool.rec (motive := fun _ => _) (Bool.rec (motive := fun _ => _) (Bool.rec (motive := fun _ => _) (Bool.rec (motive := fun _ => _) ((f16.J I call n).1.2.2.2.2 (ρ 0) (ρ 3) (ρ 106) (ρ 107) (ρ 108) h) ((f16.J I call n).1.2.2.2.1 (ρ 0) (ρ 3) h) (Nat.blt id 10)) ((f16.J I call n).1.2.2.1 (ρ 0) (ρ 3) (ρ 89) (ρ 90) (ρ 91) h) (Nat.blt id 9)) (Bool.rec (motive := fun _ => _) (Bool.rec (motive := fun _ => _) ((f16.J I call n).1.2.1.2.2 (ρ 0) (ρ 3) (ρ 89) (ρ 90) (ρ 91) h) ((f16.J I call n).1.2.1.2.1 (ρ 0) (ρ 3) (ρ 89) (ρ 90) (ρ 91) h) (Nat.blt id 7)) ((f16.J I call n).1.2.1.1 (ρ 0) (ρ 3) h) (Nat.blt id 6)) (Nat.blt id 8)) (Bool.rec (motive := fun _ => _) (Bool.rec (motive := fun _ => _) (Bool.rec (motive := fun _ => _) ((f16.J I call n).1.1.2.2.2 (ρ 0) (ρ 3) (ρ 73) (ρ 74) (ρ 75) h) ((f16.J I call n).1.1.2.2.1 (ρ 0) (ρ 3) (ρ 73) (ρ 74) (ρ 75) h) (Nat.blt id 4)) ((f16.J I call n).1.1.2.1 (ρ 0) (ρ 3) (ρ 73) (ρ 74) (ρ 75) h) (Nat.blt id 3)) (Bool.rec (motive := fun _ => _) ((f16.J I call n).1.1.1.2 (ρ 0) (ρ 3) h) ((f16.J I call n).1.1.1.1 (ρ 0) h) (Nat.blt id 1)) (Nat.blt id 2)) (Nat.blt id 5)) (Nat.blt id 11))
theorem f16.q0 (I : Inp) (call : CallFn) (n : Nat) (ρ : Fun) (h : AHeap) : f16.JS I call (n + 1) 0 ρ h = labC P I call (f16.JS I call n) c16.body 0 (finV I c16.results) 0 ρ h := by kernel_rfl
theorem f16.q1 (I : Inp) (call : CallFn) (n : Nat) (ρ : Fun) (h : AHeap) : f16.JS I call (n + 1) 1 ρ h = labC P I call (f16.JS I call n) c16.body 0 (finV I c16.results) 1 ρ h := by kernel_rfl
theorem f16.q2 (I : Inp) (call : CallFn) (n : Nat) (ρ : Fun) (h : AHeap) : f16.JS I call (n + 1) 2 ρ h = labC P I call (f16.JS I call n) c16.body 0 (finV I c16.results) 2 ρ h := by kernel_rfl
theorem f16.q3 (I : Inp) (call : CallFn) (n : Nat) (ρ : Fun) (h : AHeap) : f16.JS I call (n + 1) 3 ρ h = labC P I call (f16.JS I call n) c16.body 0 (finV I c16.results) 3 ρ h := by kernel_rfl
theorem f16.q4 (I : Inp) (call : CallFn) (n : Nat) (ρ : Fun) (h : AHeap) : f16.JS I call (n + 1) 4 ρ h = labC P I call (f16.JS I call n) c16.body 0 (finV I c16.results) 4 ρ h := by kernel_rfl
theorem f16.q5 (I : Inp) (call : CallFn) (n : Nat) (ρ : Fun) (h : AHeap) : f16.JS I call (n + 1) 5 ρ h = labC P I call (f16.JS I call n) c16.body 0 (finV I c16.results) 5 ρ h := by kernel_rfl
theorem f16.q6 (I : Inp) (call : CallFn) (n : Nat) (ρ : Fun) (h : AHeap) : f16.JS I call (n + 1) 6 ρ h = labC P I call (f16.JS I call n) c16.body 0 (finV I c16.results) 6 ρ h := by kernel_rfl
theorem f16.q7 (I : Inp) (call : CallFn) (n : Nat) (ρ : Fun) (h : AHeap) : f16.JS I call (n + 1) 7 ρ h = labC P I call (f16.JS I call n) c16.body 0 (finV I c16.results) 7 ρ h := by kernel_rfl
theorem f16.q8 (I : Inp) (call : CallFn) (n : Nat) (ρ : Fun) (h : AHeap) : f16.JS I call (n + 1) 8 ρ h = labC P I call (f16.JS I call n) c16.body 0 (finV I c16.results) 8 ρ h := by kernel_rfl
theorem f16.q9 (I : Inp) (call : CallFn) (n : Nat) (ρ : Fun) (h : AHeap) : f16.JS I call (n + 1) 9 ρ h = labC P I call (f16.JS I call n) c16.body 0 (finV I c16.results) 9 ρ h := by kernel_rfl
theorem f16.q10 (I : Inp) (call : CallFn) (n : Nat) (ρ : Fun) (h : AHeap) : f16.JS I call (n + 1) 10 ρ h = labC P I call (f16.JS I call n) c16.body 0 (finV I c16.results) 10 ρ h := by kernel_rfl
theorem f16.q11 (I : Inp) (call : CallFn) (n : Nat) (ρ : Fun) (h : AHeap) : f16.JS I call (n + 1) 11 ρ h = labC P I call (f16.JS I call n) c16.body 0 (finV I c16.results) 11 ρ h := by kernel_rfl
theorem f16.q12 (I : Inp) (call : CallFn) (n : Nat) (ρ : Fun) (h : AHeap) : f16.JS I call (n + 1) 12 ρ h = labC P I call (f16.JS I call n) c16.body 0 (finV I c16.results) 12 ρ h := by kernel_rfl
theorem f16.q13 (I : Inp) (call : CallFn) (n : Nat) (ρ : Fun) (h : AHeap) : f16.JS I call (n + 1) 13 ρ h = labC P I call (f16.JS I call n) c16.body 0 (finV I c16.results) 13 ρ h := by kernel_rfl
theorem f16.q14 (I : Inp) (call : CallFn) (n : Nat) (ρ : Fun) (h : AHeap) : f16.JS I call (n + 1) 14 ρ h = labC P I call (f16.JS I call n) c16.body 0 (finV I c16.results) 14 ρ h := by kernel_rfl
theorem f16.q15 (I : Inp) (call : CallFn) (n : Nat) (ρ : Fun) (h : AHeap) : f16.JS I call (n + 1) 15 ρ h = labC P I call (f16.JS I call n) c16.body 0 (finV I c16.results) 15 ρ h := by kernel_rfl
theorem f16.q16 (I : Inp) (call : CallFn) (n : Nat) (ρ : Fun) (h : AHeap) : f16.JS I call (n + 1) 16 ρ h = labC P I call (f16.JS I call n) c16.body 0 (finV I c16.results) 16 ρ h := by kernel_rfl
theorem f16.q17 (I : Inp) (call : CallFn) (n : Nat) (ρ : Fun) (h : AHeap) : f16.JS I call (n + 1) 17 ρ h = labC P I call (f16.JS I call n) c16.body 0 (finV I c16.results) 17 ρ h := by kernel_rfl
theorem f16.q18 (I : Inp) (call : CallFn) (n : Nat) (ρ : Fun) (h : AHeap) : f16.JS I call (n + 1) 18 ρ h = labC P I call (f16.JS I call n) c16.body 0 (finV I c16.results) 18 ρ h := by kernel_rfl
theorem f16.q19 (I : Inp) (call : CallFn) (n : Nat) (ρ : Fun) (h : AHeap) : f16.JS I call (n + 1) 19 ρ h = labC P I call (f16.JS I call n) c16.body 0 (finV I c16.results) 19 ρ h := by kernel_rfl
theorem f16.q20 (I : Inp) (call : CallFn) (n : Nat) (ρ : Fun) (h : AHeap) : f16.JS I call (n + 1) 20 ρ h = labC P I call (f16.JS I call n) c16.body 0 (finV I c16.results) 20 ρ h := by kernel_rfl
theorem f16.q21 (I : Inp) (call : CallFn) (n : Nat) (ρ : Fun) (h : AHeap) : f16.JS I call (n + 1) 21 ρ h = labC P I call (f16.JS I call n) c16.body 0 (finV I c16.results) 21 ρ h := by kernel_rfl
theorem f16.S (I : Inp) (F : Nat → Option AFn) (call : CallFn) : SFn ⟨P, I, F⟩ call c16 (f16.JS I call) :=
  ⟨fun id hid ρ h => by
    have hc : c16.body.cnt = 22 := by kernel_rfl
    rw [hc] at hid
    exact match id, hid with
    | 0, _ => rfl
    | 1, _ => rfl
    | 2, _ => rfl
    | 3, _ => rfl
    | 4, _ => rfl
    | 5, _ => rfl
    | 6, _ => rfl
    | 7, _ => rfl
    | 8, _ => rfl
    | 9, _ => rfl
    | 10, _ => rfl
    | 11, _ => rfl
    | 12, _ => rfl
    | 13, _ => rfl
    | 14, _ => rfl
    | 15, _ => rfl
    | 16, _ => rfl
    | 17, _ => rfl
    | 18, _ => rfl
    | 19, _ => rfl
    | 20, _ => rfl
    | 21, _ => rfl
    | id + 22, hid => absurd hid (by omega), fun n id hid ρ h => by
    have hc : c16.body.cnt = 22 := by kernel_rfl
    rw [hc] at hid
    exact match id, hid with
    | 0, _ => f16.q0 I call n ρ h
    | 1, _ => f16.q1 I call n ρ h
    | 2, _ => f16.q2 I call n ρ h
    | 3, _ => f16.q3 I call n ρ h
    | 4, _ => f16.q4 I call n ρ h
    | 5, _ => f16.q5 I call n ρ h
    | 6, _ => f16.q6 I call n ρ h
    | 7, _ => f16.q7 I call n ρ h
    | 8, _ => f16.q8 I call n ρ h
    | 9, _ => f16.q9 I call n ρ h
    | 10, _ => f16.q10 I call n ρ h
    | 11, _ => f16.q11 I call n ρ h
    | 12, _ => f16.q12 I call n ρ h
    | 13, _ => f16.q13 I call n ρ h
    | 14, _ => f16.q14 I call n ρ h
    | 15, _ => f16.q15 I call n ρ h
    | 16, _ => f16.q16 I call n ρ h
    | 17, _ => f16.q17 I call n ρ h
    | 18, _ => f16.q18 I call n ρ h
    | 19, _ => f16.q19 I call n ρ h
    | 20, _ => f16.q20 I call n ρ h
    | 21, _ => f16.q21 I call n ρ h
    | id + 22, hid => absurd hid (by omega)⟩
noncomputable def f16.run (I : Inp) : SF := fun call n a h =>
  match a with
  | [v0] => f16.e I call (f16.J I call n) v0 h
  | _ => none
theorem f16.qe (I : Inp) (call : CallFn) (n : Nat) (v0 : AVal) (h : AHeap) : f16.e I call (f16.J I call n) v0 h = execC P I call (f16.JS I call n) c16.body 0 (finV I c16.results) (argV [v0]) h := by kernel_rfl
theorem f16.code : codeOf P 16 = some c16 := by kernel_rfl
theorem f16.ok (I : Inp) (F : Nat → Option AFn) (hF : F 16 = some (.code c16)) : SfOk P I F 16 (f16.run I) := by
  intro call hc n args h r hr
  unfold f16.run at hr
  split at hr
  · exact fn_sound (C := ⟨P, I, F⟩) (n := n) hc hF (Nat.le_of_ble_eq_true (by kernel_rfl)) (by kernel_rfl) (f16.S I F call) (by kernel_rfl) ((f16.qe I call n _ h).symm.trans hr)
  · cases hr
/-! haruspex/haruspexref8.Nowhere -/
noncomputable def c17 : AFunc := (AFunc.mk 2 0 [(.cellN 0 3)] (.seq (.region [(S 0 (.alloc [(Z 0), (Z 0), (Z 0)]) .none)]) (.seq (.region [(S 1 (.build [(Z 0), (Z 0), (Z 0)] [(0, (1, (.val (.int .i64 (.negSucc 0)))))]) .none), (AOper.mk .none (.store 3 (T 0) (T 1)) .none)]) .ret)))
abbrev f17.Js : Type := Unit
noncomputable def f17.e (I : Inp) (call : CallFn) (j : f17.Js) (h : AHeap) : Rs :=
  bnd (sAlloc [(Z 0), (Z 0), (Z 0)] h) fun v0 h1 =>
  bndP (pBuild [(Z 0), (Z 0), (Z 0)] [(0, 1, (.int .i64 (.negSucc 0)))]) fun v1 =>
  bnd (sStore 3 v0 v1 h1) fun _ h2 =>
  sRet (sCons (sResN I 3 v0 h2) (some [])) h2
theorem f17.S (I : Inp) (F : Nat → Option AFn) (call : CallFn) : SFn ⟨P, I, F⟩ call c17 (fun _ _ _ _ => none) :=
  ⟨fun _ _ _ _ => rfl, fun n id hid => absurd hid (by rw [show c17.body.cnt = 0 by kernel_rfl]; omega)⟩
noncomputable def f17.run (I : Inp) : SF := fun call n a h =>
  match a with
  | [] => f17.e I call () h
  | _ => none
theorem f17.qe (I : Inp) (call : CallFn) (n : Nat) (h : AHeap) : f17.e I call () h = execC P I call (fun _ _ _ => none) c17.body 0 (finV I c17.results) (argV []) h := by kernel_rfl
theorem f17.code : codeOf P 17 = some c17 := by kernel_rfl
theorem f17.ok (I : Inp) (F : Nat → Option AFn) (hF : F 17 = some (.code c17)) : SfOk P I F 17 (f17.run I) := by
  intro call hc n args h r hr
  unfold f17.run at hr
  split at hr
  · exact fn_sound (C := ⟨P, I, F⟩) (n := n) hc hF (Nat.le_of_ble_eq_true (by kernel_rfl)) (by kernel_rfl) (f17.S I F call) (by kernel_rfl) ((f17.qe I call n h).symm.trans hr)
  · cases hr
theorem f17.qr (I : Inp) (call : CallFn) (n : Nat) (h : AHeap) : f17.run I call n [] h = f17.e I call () h := by kernel_rfl
theorem f17.lim {I : Inp} {prims : Nat → Option Prim} (hp : prims 17 = none) {n : Nat} {h : AHeap} {Q : AVal → AHeap → Prop} (hr : Res (f17.e I (AM.lim ⟨P, I, genF P prims⟩) () h) Q) :
    Res (AM.lim ⟨P, I, genF P prims⟩ 17 [] h) Q := by
  obtain ⟨v, h', e, q⟩ := hr
  exact ⟨v, h', lim_sf (C := ⟨P, I, genF P prims⟩) (n := 0) (f17.ok I (genF P prims) (genF_code hp f17.code)) ((f17.qr I _ 0 h).trans e), q⟩
/-! haruspex/haruspexref8.Bounds -/
noncomputable def c18 : AFunc := (AFunc.mk 231 1 [(.tmp 2)] (.seq (.region [(S 2 (.move (.val (.bool .false))) .none)]) (.seq (.seq (.region [(M 13 0), (S 14 (.eq .false .ptr .true (T 13) (.val .nilp)) .none), (M 15 14), (S 16 (.move (T 0)) (.some (15, .false))), (S 17 (.nilCheck (T 16)) (.some (15, .false))), (S 18 (.fieldAddr 0 (T 17)) (.some (15, .false))), (S 19 (.load1 (T 18)) (.some (15, .false))), (S 20 (.lenSl (T 19)) (.some (15, .false))), (S 21 (.bin .gtr (T 20) (V 6)) (.some (15, .false))), (S 22 (.pick (T 15) (.val (.bool .true)) (T 21)) .none), (M 23 22), (S 24 (.move (T 0)) (.some (23, .false))), (S 25 (.nilCheck (T 24)) (.some (23, .false))), (S 26 (.fieldAddr 1 (T 25)) (.some (23, .false))), (S 27 (.load1 (T 26)) (.some (23, .false))), (S 28 (.lenSl (T 27)) (.some (23, .false))), (S 29 (.bin .gtr (T 28) (V 10)) (.some (23, .false))), (S 30 (.pick (T 23) (.val (.bool .true)) (T 29)) .none), (M 31 30), (S 32 (.move (T 0)) (.some (31, .false))), (S 33 (.nilCheck (T 32)) (.some (31, .false))), (S 34 (.fieldAddr 2 (T 33)) (.some (31, .false))), (S 35 (.load1 (T 34)) (.some (31, .false))), (S 36 (.lenSl (T 35)) (.some (31, .false))), (S 37 (.bin .gtr (T 36) (V 4)) (.some (31, .false))), (S 38 (.pick (T 31) (.val (.bool .true)) (T 37)) .none), (M 39 38), (S 40 (.move (T 0)) (.some (39, .false))), (S 41 (.nilCheck (T 40)) (.some (39, .false))), (S 42 (.fieldAddr 3 (T 41)) (.some (39, .false))), (S 43 (.load1 (T 42)) (.some (39, .false))), (S 44 (.lenSl (T 43)) (.some (39, .false))), (S 45 (.bin .gtr (T 44) (V 12)) (.some (39, .false))), (S 46 (.pick (T 39) (.val (.bool .true)) (T 45)) .none), (M 47 46), (S 48 (.move (T 0)) (.some (47, .false))), (S 49 (.nilCheck (T 48)) (.some (47, .false))), (S 50 (.fieldAddr 4 (T 49)) (.some (47, .false))), (S 51 (.load1 (T 50)) (.some (47, .false))), (S 52 (.lenSl (T 51)) (.some (47, .false))), (S 53 (.bin .gtr (T 52) (V 12)) (.some (47, .false))), (S 54 (.pick (T 47) (.val (.bool .true)) (T 53)) .none), (M 55 54), (S 56 (.move (T 0)) (.some (55, .false))), (S 57 (.nilCheck (T 56)) (.some (55, .false))), (S 58 (.fieldAddr 4 (T 57)) (.some (55, .false))), (S 59 (.load1 (T 58)) (.some (55, .false))), (S 60 (.lenSl (T 59)) (.some (55, .false))), (S 61 (.bin .eql (T 60) (V 0)) (.some (55, .false))), (S 62 (.pick (T 55) (.val (.bool .true)) (T 61)) .none)]) (.cond (T 62) (.seq (.region [(S 2 (.move (.val (.bool .false))) .none)]) .ret) .skip)) (.seq (.seq (.region [(S 3 (.move (V 0)) .none)]) (.block 0 (.loop (.seq (.seq (.region [(M 63 3), (M 64 0), (NC 65 64), (FA 66 0 65), (L1 67 66), (S 68 (.lenSl (T 67)) .none), (S 69 (.bin .lss (T 63) (T 68)) .none)]) (.cond (T 69) .skip (.exit 0))) (.seq (.block 1 (.seq (.region [(M 72 0), (NC 73 72), (FA 74 0 73), (L1 75 74), (M 76 3), (S 77 (.indexAddr 1 (T 75) (T 76)) .none), (L1 78 77), (S 79 (.lenSl (T 78)) .none), (S 80 (.bin .gtr (T 79) (V 4)) .none)]) (.cond (T 80) (.seq (.region [(S 2 (.move (.val (.bool .false))) .none)]) .ret) .skip))) (.region [(M 70 3), (S 71 (.bin .add (T 70) (V 1)) .none), (M 3 71)])))))) (.seq (.seq (.region [(S 4 (.move (V 0)) .none)]) (.block 2 (.loop (.seq (.seq (.region [(M 81 4), (M 82 0), (NC 83 82), (FA 84 1 83), (L1 85 84), (S 86 (.lenSl (T 85)) .none), (S 87 (.bin .lss (T 81) (T 86)) .none)]) (.cond (T 87) .skip (.exit 2))) (.seq (.block 3 (.seq (.region [(M 90 0), (NC 91 90), (FA 92 1 91), (L1 93 92), (M 94 4), (S 95 (.indexAddr 3 (T 93) (T 94)) .none), (FA 96 0 95), (L1 97 96), (S 98 (.lenSl (T 97)) .none), (S 99 (.bin .gtr (T 98) (V 4)) .none)]) (.cond (T 99) (.seq (.region [(S 2 (.move (.val (.bool .false))) .none)]) .ret) .skip))) (.region [(M 88 4), (S 89 (.bin .add (T 88) (V 1)) .none), (M 4 89)])))))) (.seq (.seq (.region [(S 5 (.move (V 0)) .none)]) (.block 4 (.loop (.seq (.seq (.region [(M 100 5), (M 101 0), (NC 102 101), (FA 103 2 102), (L1 104 103), (S 105 (.lenSl (T 104)) .none), (S 106 (.bin .lss (T 100) (T 105)) .none)]) (.cond (T 106) .skip (.exit 4))) (.seq (.block 5 (.seq (.region [(M 109 0), (NC 110 109), (FA 111 2 110), (L1 112 111), (M 113 5), (S 114 (.indexAddr 1 (T 112) (T 113)) .none), (FA 115 0 114), (L1 116 115), (S 117 (.lenSl (T 116)) .none), (S 118 (.bin .gtr (T 117) (V 3)) .none)]) (.cond (T 118) (.seq (.region [(S 2 (.move (.val (.bool .false))) .none)]) .ret) .skip))) (.region [(M 107 5), (S 108 (.bin .add (T 107) (V 1)) .none), (M 5 108)])))))) (.seq (.seq (.region [(S 6 (.move (V 0)) .none)]) (.block 6 (.loop (.seq (.seq (.region [(M 119 6), (M 120 0), (NC 121 120), (FA 122 3 121), (L1 123 122), (S 124 (.lenSl (T 123)) .none), (S 125 (.bin .lss (T 119) (T 124)) .none)]) (.cond (T 125) .skip (.exit 6))) (.seq (.block 7 (.seq (.region [(M 128 0), (NC 129 128), (FA 130 3 129), (L1 131 130), (M 132 6), (S 133 (.indexAddr 3 (T 131) (T 132)) .none), (FA 134 2 133), (L1 135 134), (S 136 (.lenSl (T 135)) .none), (S 137 (.bin .gtr (T 136) (V 3)) .none)]) (.cond (T 137) (.seq (.region [(S 2 (.move (.val (.bool .false))) .none)]) .ret) .skip))) (.region [(M 126 6), (S 127 (.bin .add (T 126) (V 1)) .none), (M 6 127)])))))) (.seq (.region [(S 7 (.move (V 0)) .none), (S 8 (.move (V 0)) .none)]) (.seq (.seq (.region [(S 9 (.move (V 0)) .none)]) (.block 8 (.loop (.seq (.seq (.region [(M 138 9), (M 139 0), (NC 140 139), (FA 141 4 140), (L1 142 141), (S 143 (.lenSl (T 142)) .none), (S 144 (.bin .lss (T 138) (T 143)) .none)]) (.cond (T 144) .skip (.exit 8))) (.seq (.block 9 (.seq (.region [(M 147 0), (NC 148 147), (FA 149 4 148), (L1 150 149), (M 151 9), (S 152 (.indexAddr 3 (T 150) (T 151)) .none), (S 153 (.loadN 3 (T 152)) .none), (S 10 (.alloc [(Z 0), .nils, .nils]) .none), (AOper.mk .none (.store 3 (T 10) (T 153)) .none)]) (.seq (.seq (.region [(FA 154 1 10), (L1 155 154), (S 156 (.lenSl (T 155)) .none), (S 157 (.bin .gtr (T 156) (V 16)) .none), (M 158 157), (S 159 (.fieldAddr 2 (T 10)) (.some (158, .false))), (S 160 (.load1 (T 159)) (.some (158, .false))), (S 161 (.lenSl (T 160)) (.some (158, .false))), (S 162 (.bin .gtr (T 161) (V 12)) (.some (158, .false))), (S 163 (.pick (T 158) (.val (.bool .true)) (T 162)) .none), (M 164 163), (S 165 (.fieldAddr 2 (T 10)) (.some (164, .false))), (S 166 (.load1 (T 165)) (.some (164, .false))), (S 167 (.lenSl (T 166)) (.some (164, .false))), (S 168 (.bin .eql (T 167) (V 0)) (.some (164, .false))), (S 169 (.pick (T 164) (.val (.bool .true)) (T 168)) .none)]) (.cond (T 169) (.seq (.region [(S 2 (.move (.val (.bool .false))) .none)]) .ret) .skip)) (.seq (.region [(S 11 (.move (V 0)) .none)]) (.block 10 (.loop (.seq (.seq (.region [(M 170 11), (FA 171 2 10), (L1 172 171), (S 173 (.lenSl (T 172)) .none), (S 174 (.bin .lss (T 170) (T 173)) .none)]) (.cond (T 174) .skip (.exit 10))) (.seq (.block 11 (.seq (.seq (.region [(FA 177 2 10), (L1 178 177), (M 179 11), (S 180 (.indexAddr 5 (T 178) (T 179)) .none), (FA 181 0 180), (L1 182 181), (S 183 (.lenSl (T 182)) .none), (S 184 (.bin .gtr (T 183) (V 30)) .none)]) (.cond (T 184) (.seq (.region [(S 2 (.move (.val (.bool .false))) .none)]) .ret) .skip)) (.seq (.seq (.region [(S 12 (.move (V 0)) .none)]) (.block 12 (.loop (.seq (.seq (.region [(M 185 12), (FA 186 2 10), (L1 187 186), (M 188 11), (S 189 (.indexAddr 5 (T 187) (T 188)) .none), (FA 190 0 189), (L1 191 190), (S 192 (.lenSl (T 191)) .none), (S 193 (.bin .lss (T 185) (T 192)) .none)]) (.cond (T 193) .skip (.exit 12))) (.seq (.block 13 (.seq (.seq (.region [(FA 196 2 10), (L1 197 196), (M 198 11), (S 199 (.indexAddr 5 (T 197) (T 198)) .none), (FA 200 0 199), (L1 201 200), (M 202 12), (S 203 (.indexAddr 6 (T 201) (T 202)) .none), (FA 204 5 203), (L1 205 204), (S 206 (.lenSl (T 205)) .none), (S 207 (.bin .gtr (T 206) (V 4)) .none)]) (.cond (T 207) (.seq (.region [(S 2 (.move (.val (.bool .false))) .none)]) .ret) .skip)) (.seq (.region [(M 208 7), (S 209 (.bin .add (T 208) (V 1)) .none), (M 7 209)]) (.seq (.region [(FA 210 2 10), (L1 211 210), (M 212 11), (S 213 (.indexAddr 5 (T 211) (T 212)) .none), (FA 214 0 213), (L1 215 214), (M 216 12), (S 217 (.indexAddr 6 (T 215) (T 216)) .none), (FA 218 0 217), (L1 219 218), (S 220 (.bin .eql (T 219) (V 5)) .none)]) (.cond (T 220) (.region [(M 221 8), (S 222 (.bin .add (T 221) (V 1)) .none), (M 8 222)]) .skip))))) (.region [(M 194 12), (S 195 (.bin .add (T 194) (V 1)) .none), (M 12 195)])))))) (.region [(M 223 7), (S 224 (.bin .add (T 223) (V 1)) .none), (M 7 224)])))) (.region [(M 175 11), (S 176 (.bin .add (T 175) (V 1)) .none), (M 11 176)]))))))))) (.region [(M 145 9), (S 146 (.bin .add (T 145) (V 1)) .none), (M 9 146)])))))) (.seq (.region [(M 225 7), (S 226 (.bin .leq (T 225) (V 600)) .none), (M 227 226), (S 228 (.move (T 8)) (.some (227, .true))), (S 229 (.bin .leq (T 228) (V 40)) (.some (227, .true))), (S 230 (.pick (T 227) (T 229) (.val (.bool .false))) .none), (M 2 230)]) .ret))))))))))
abbrev f18.Js : Type := (((((AVal → AHeap → Rs) × ((AVal → AHeap → Rs) × (AVal → AVal → AHeap → Rs))) × (((AVal → AVal → AHeap → Rs) × (AVal → AVal → AHeap → Rs)) × ((AVal → AHeap → Rs) × (AVal → AVal → AHeap → Rs)))) × ((((AVal → AVal → AHeap → Rs) × (AVal → AVal → AHeap → Rs)) × ((AVal → AHeap → Rs) × (AVal → AVal → AHeap → Rs))) × (((AVal → AVal → AHeap → Rs) × (AVal → AVal → AHeap → Rs)) × ((AVal → AHeap → Rs) × (AVal → AVal → AHeap → Rs))))) × (((((AVal → AVal → AHeap → Rs) × (AVal → AVal → AHeap → Rs)) × ((AVal → AVal → AHeap → Rs) × (AVal → AVal → AVal → AVal → AHeap → Rs))) × (((AVal → AVal → AVal → AVal → AHeap → Rs) × (AVal → AVal → AVal → AVal → AHeap → Rs)) × ((AVal → AVal → AVal → AVal → AVal → AHeap → Rs) × (AVal → AVal → AVal → AVal → AVal → AVal → AHeap → Rs)))) × ((((AVal → AVal → AVal → AVal → AVal → AVal → AHeap → Rs) × (AVal → AVal → AVal → AVal → AVal → AVal → AHeap → Rs)) × ((AVal → AVal → AVal → AVal → AVal → AVal → AHeap → Rs) × (AVal → AVal → AVal → AVal → AVal → AVal → AHeap → Rs))) × (((AVal → AVal → AVal → AVal → AVal → AVal → AVal → AHeap → Rs) × (AVal → AVal → AVal → AVal → AVal → AVal → AVal → AHeap → Rs)) × ((AVal → AVal → AVal → AVal → AVal → AVal → AVal → AHeap → Rs) × (AVal → AVal → AVal → AVal → AVal → AVal → AVal → AHeap → Rs))))))
noncomputable def f18.b0 (I : Inp) (call : CallFn) (j : f18.Js) (v0 : AVal) (h : AHeap) : Rs :=
  j.1.1.1.2.2 v0 (Z 0) h
noncomputable def f18.b1 (I : Inp) (call : CallFn) (j : f18.Js) (v0 : AVal) (h : AHeap) : Rs :=
  j.1.1.2.2.2 v0 (Z 0) h
noncomputable def f18.b2 (I : Inp) (call : CallFn) (j : f18.Js) (v0 v3 : AVal) (h : AHeap) : Rs :=
  bndP (pNilCheck v0) fun v65 =>
  bndP (pFieldAddr 0 v65) fun v66 =>
  bndP (pLoad1 I v66 h) fun v67 =>
  bndP (pLenSl v67) fun v68 =>
  bndP (pBin .lss v3 v68) fun v69 =>
  sCond v69 (
  j.1.1.1.2.1 v0 h) (
  j.1.1.2.1.1 v0 v3 h)
noncomputable def f18.b3 (I : Inp) (call : CallFn) (j : f18.Js) (v0 v3 : AVal) (h : AHeap) : Rs :=
  bndP (pNilCheck v0) fun v73 =>
  bndP (pFieldAddr 0 v73) fun v74 =>
  bndP (pLoad1 I v74 h) fun v75 =>
  bndP (pIndexAddr 1 v75 v3) fun v77 =>
  bndP (pLoad1 I v77 h) fun v78 =>
  bndP (pLenSl v78) fun v79 =>
  bndP (pBin .gtr v79 (Z 4)) fun v80 =>
  sCond v80 (
  j.1.1.2.1.2 v0 v3 h) (
  some ((.bool .false), h))
noncomputable def f18.b4 (I : Inp) (call : CallFn) (j : f18.Js) (v0 v3 : AVal) (h : AHeap) : Rs :=
  bndP (pBin .add v3 (Z 1)) fun v71 =>
  j.1.1.1.2.2 v0 v71 h
noncomputable def f18.b5 (I : Inp) (call : CallFn) (j : f18.Js) (v0 : AVal) (h : AHeap) : Rs :=
  j.1.2.1.2.2 v0 (Z 0) h
noncomputable def f18.b6 (I : Inp) (call : CallFn) (j : f18.Js) (v0 v4 : AVal) (h : AHeap) : Rs :=
  bndP (pNilCheck v0) fun v83 =>
  bndP (pFieldAddr 1 v83) fun v84 =>
  bndP (pLoad1 I v84 h) fun v85 =>
  bndP (pLenSl v85) fun v86 =>
  bndP (pBin .lss v4 v86) fun v87 =>
  sCond v87 (
  j.1.1.2.2.1 v0 h) (
  j.1.2.1.1.1 v0 v4 h)
noncomputable def f18.b7 (I : Inp) (call : CallFn) (j : f18.Js) (v0 v4 : AVal) (h : AHeap) : Rs :=
  bndP (pNilCheck v0) fun v91 =>
  bndP (pFieldAddr 1 v91) fun v92 =>
  bndP (pLoad1 I v92 h) fun v93 =>
  bndP (pIndexAddr 3 v93 v4) fun v95 =>
  bndP (pFieldAddr 0 v95) fun v96 =>
  bndP (pLoad1 I v96 h) fun v97 =>
  bndP (pLenSl v97) fun v98 =>
  bndP (pBin .gtr v98 (Z 4)) fun v99 =>
  sCond v99 (
  j.1.2.1.1.2 v0 v4 h) (
  some ((.bool .false), h))
noncomputable def f18.b8 (I : Inp) (call : CallFn) (j : f18.Js) (v0 v4 : AVal) (h : AHeap) : Rs :=
  bndP (pBin .add v4 (Z 1)) fun v89 =>
  j.1.1.2.2.2 v0 v89 h
noncomputable def f18.b9 (I : Inp) (call : CallFn) (j : f18.Js) (v0 : AVal) (h : AHeap) : Rs :=
  j.1.2.2.2.2 v0 (Z 0) h
noncomputable def f18.b10 (I : Inp) (call : CallFn) (j : f18.Js) (v0 v5 : AVal) (h : AHeap) : Rs :=
  bndP (pNilCheck v0) fun v102 =>
  bndP (pFieldAddr 2 v102) fun v103 =>
  bndP (pLoad1 I v103 h) fun v104 =>
  bndP (pLenSl v104) fun v105 =>
  bndP (pBin .lss v5 v105) fun v106 =>
  sCond v106 (
  j.1.2.1.2.1 v0 h) (
  j.1.2.2.1.1 v0 v5 h)
noncomputable def f18.b11 (I : Inp) (call : CallFn) (j : f18.Js) (v0 v5 : AVal) (h : AHeap) : Rs :=
  bndP (pNilCheck v0) fun v110 =>
  bndP (pFieldAddr 2 v110) fun v111 =>
  bndP (pLoad1 I v111 h) fun v112 =>
  bndP (pIndexAddr 1 v112 v5) fun v114 =>
  bndP (pFieldAddr 0 v114) fun v115 =>
  bndP (pLoad1 I v115 h) fun v116 =>
  bndP (pLenSl v116) fun v117 =>
  bndP (pBin .gtr v117 (Z 3)) fun v118 =>
  sCond v118 (
  j.1.2.2.1.2 v0 v5 h) (
  some ((.bool .false), h))
noncomputable def f18.b12 (I : Inp) (call : CallFn) (j : f18.Js) (v0 v5 : AVal) (h : AHeap) : Rs :=
  bndP (pBin .add v5 (Z 1)) fun v108 =>
  j.1.2.1.2.2 v0 v108 h
noncomputable def f18.b13 (I : Inp) (call : CallFn) (j : f18.Js) (v0 : AVal) (h : AHeap) : Rs :=
  j.2.1.1.2.2 v0 (Z 0) (Z 0) (Z 0) h
noncomputable def f18.b14 (I : Inp) (call : CallFn) (j : f18.Js) (v0 v6 : AVal) (h : AHeap) : Rs :=
  bndP (pNilCheck v0) fun v121 =>
  bndP (pFieldAddr 3 v121) fun v122 =>
  bndP (pLoad1 I v122 h) fun v123 =>
  bndP (pLenSl v123) fun v124 =>
  bndP (pBin .lss v6 v124) fun v125 =>
  sCond v125 (
  j.1.2.2.2.1 v0 h) (
  j.2.1.1.1.1 v0 v6 h)
noncomputable def f18.b15 (I : Inp) (call : CallFn) (j : f18.Js) (v0 v6 : AVal) (h : AHeap) : Rs :=
  bndP (pNilCheck v0) fun v129 =>
  bndP (pFieldAddr 3 v129) fun v130 =>
  bndP (pLoad1 I v130 h) fun v131 =>
  bndP (pIndexAddr 3 v131 v6) fun v133 =>
  bndP (pFieldAddr 2 v133) fun v134 =>
  bndP (pLoad1 I v134 h) fun v135 =>
  bndP (pLenSl v135) fun v136 =>
  bndP (pBin .gtr v136 (Z 3)) fun v137 =>
  sCond v137 (
  j.2.1.1.1.2 v0 v6 h) (
  some ((.bool .false), h))
noncomputable def f18.b16 (I : Inp) (call : CallFn) (j : f18.Js) (v0 v6 : AVal) (h : AHeap) : Rs :=
  bndP (pBin .add v6 (Z 1)) fun v127 =>
  j.1.2.2.2.2 v0 v127 h
noncomputable def f18.b17 (I : Inp) (call : CallFn) (j : f18.Js) (v7 v8 : AVal) (h : AHeap) : Rs :=
  bndP (pBin .leq v7 (Z 600)) fun v226 =>
  bnd (sGuard v226 .true (some (v8, h)) h) fun v228 h1 =>
  bnd (sGuard v226 .true (lift (pBin .leq v228 (Z 40)) h1) h1) fun v229 h2 =>
  bndP (pPick v226 v229 (.bool .false)) fun v230 =>
  some (v230, h2)
noncomputable def f18.b18 (I : Inp) (call : CallFn) (j : f18.Js) (v0 v7 v8 v9 : AVal) (h : AHeap) : Rs :=
  bndP (pNilCheck v0) fun v140 =>
  bndP (pFieldAddr 4 v140) fun v141 =>
  bndP (pLoad1 I v141 h) fun v142 =>
  bndP (pLenSl v142) fun v143 =>
  bndP (pBin .lss v9 v143) fun v144 =>
  sCond v144 (
  j.2.1.1.2.1 v7 v8 h) (
  j.2.1.2.1.1 v0 v7 v8 v9 h)
noncomputable def f18.b19 (I : Inp) (call : CallFn) (j : f18.Js) (v0 v7 v8 v9 : AVal) (h : AHeap) : Rs :=
  bndP (pNilCheck v0) fun v148 =>
  bndP (pFieldAddr 4 v148) fun v149 =>
  bndP (pLoad1 I v149 h) fun v150 =>
  bndP (pIndexAddr 3 v150 v9) fun v152 =>
  bndP (pLoadN I 3 v152 h) fun v153 =>
  bnd (sAlloc [(Z 0), .nils, .nils] h) fun v10 h1 =>
  bnd (sStore 3 v10 v153 h1) fun _ h2 =>
  bndP (pFieldAddr 1 v10) fun v154 =>
  bndP (pLoad1 I v154 h2) fun v155 =>
  bndP (pLenSl v155) fun v156 =>
  bndP (pBin .gtr v156 (Z 16)) fun v157 =>
  bnd (sGuard v157 .false (lift (pFieldAddr 2 v10) h2) h2) fun v159 h3 =>
  bnd (sGuard v157 .false (lift (pLoad1 I v159 h3) h3) h3) fun v160 h4 =>
  bnd (sGuard v157 .false (lift (pLenSl v160) h4) h4) fun v161 h5 =>
  bnd (sGuard v157 .false (lift (pBin .gtr v161 (Z 12)) h5) h5) fun v162 h6 =>
  bndP (pPick v157 (.bool .true) v162) fun v163 =>
  bnd (sGuard v163 .false (lift (pFieldAddr 2 v10) h6) h6) fun v165 h7 =>
  bnd (sGuard v163 .false (lift (pLoad1 I v165 h7) h7) h7) fun v166 h8 =>
  bnd (sGuard v163 .false (lift (pLenSl v166) h8) h8) fun v167 h9 =>
  bnd (sGuard v163 .false (lift (pBin .eql v167 (Z 0)) h9) h9) fun v168 h10 =>
  bndP (pPick v163 (.bool .true) v168) fun v169 =>
  sCond v169 (
  j.2.1.2.2.1 v0 v7 v8 v9 v10 h10) (
  some ((.bool .false), h10))
noncomputable def f18.b20 (I : Inp) (call : CallFn) (j : f18.Js) (v0 v7 v8 v9 : AVal) (h : AHeap) : Rs :=
  bndP (pBin .add v9 (Z 1)) fun v146 =>
  j.2.1.1.2.2 v0 v7 v8 v146 h
noncomputable def f18.b21 (I : Inp) (call : CallFn) (j : f18.Js) (v0 v7 v8 v9 v10 : AVal) (h : AHeap) : Rs :=
  j.2.1.2.2.2 v0 v7 v8 v9 v10 (Z 0) h
noncomputable def f18.b22 (I : Inp) (call : CallFn) (j : f18.Js) (v0 v7 v8 v9 v10 v11 : AVal) (h : AHeap) : Rs :=
  bndP (pFieldAddr 2 v10) fun v171 =>
  bndP (pLoad1 I v171 h) fun v172 =>
  bndP (pLenSl v172) fun v173 =>
  bndP (pBin .lss v11 v173) fun v174 =>
  sCond v174 (
  j.2.1.2.1.2 v0 v7 v8 v9 h) (
  j.2.2.1.1.1 v0 v7 v8 v9 v10 v11 h)
noncomputable def f18.b23 (I : Inp) (call : CallFn) (j : f18.Js) (v0 v7 v8 v9 v10 v11 : AVal) (h : AHeap) : Rs :=
  bndP (pFieldAddr 2 v10) fun v177 =>
  bndP (pLoad1 I v177 h) fun v178 =>
  bndP (pIndexAddr 5 v178 v11) fun v180 =>
  bndP (pFieldAddr 0 v180) fun v181 =>
  bndP (pLoad1 I v181 h) fun v182 =>
  bndP (pLenSl v182) fun v183 =>
  bndP (pBin .gtr v183 (Z 30)) fun v184 =>
  sCond v184 (
  j.2.2.1.2.1 v0 v7 v8 v9 v10 v11 h) (
  some ((.bool .false), h))
noncomputable def f18.b24 (I : Inp) (call : CallFn) (j : f18.Js) (v0 v7 v8 v9 v10 v11 : AVal) (h : AHeap) : Rs :=
  bndP (pBin .add v11 (Z 1)) fun v176 =>
  j.2.1.2.2.2 v0 v7 v8 v9 v10 v176 h
noncomputable def f18.b25 (I : Inp) (call : CallFn) (j : f18.Js) (v0 v7 v8 v9 v10 v11 : AVal) (h : AHeap) : Rs :=
  j.2.2.2.1.1 v0 v7 v8 v9 v10 v11 (Z 0) h
noncomputable def f18.b26 (I : Inp) (call : CallFn) (j : f18.Js) (v0 v7 v8 v9 v10 v11 : AVal) (h : AHeap) : Rs :=
  bndP (pBin .add v7 (Z 1)) fun v224 =>
  j.2.2.1.1.2 v0 v224 v8 v9 v10 v11 h
noncomputable def f18.b27 (I : Inp) (call : CallFn) (j : f18.Js) (v0 v7 v8 v9 v10 v11 v12 : AVal) (h : AHeap) : Rs :=
  bndP (pFieldAddr 2 v10) fun v186 =>
  bndP (pLoad1 I v186 h) fun v187 =>
  bndP (pIndexAddr 5 v187 v11) fun v189 =>
  bndP (pFieldAddr 0 v189) fun v190 =>
  bndP (pLoad1 I v190 h) fun v191 =>
  bndP (pLenSl v191) fun v192 =>
  bndP (pBin .lss v12 v192) fun v193 =>
  sCond v193 (
  j.2.2.1.2.2 v0 v7 v8 v9 v10 v11 h) (
  j.2.2.2.1.2 v0 v7 v8 v9 v10 v11 v12 h)
noncomputable def f18.b28 (I : Inp) (call : CallFn) (j : f18.Js) (v0 v7 v8 v9 v10 v11 v12 : AVal) (h : AHeap) : Rs :=
  bndP (pFieldAddr 2 v10) fun v196 =>
  bndP (pLoad1 I v196 h) fun v197 =>
  bndP (pIndexAddr 5 v197 v11) fun v199 =>
  bndP (pFieldAddr 0 v199) fun v200 =>
  bndP (pLoad1 I v200 h) fun v201 =>
  bndP (pIndexAddr 6 v201 v12) fun v203 =>
  bndP (pFieldAddr 5 v203) fun v204 =>
  bndP (pLoad1 I v204 h) fun v205 =>
  bndP (pLenSl v205) fun v206 =>
  bndP (pBin .gtr v206 (Z 4)) fun v207 =>
  sCond v207 (
  j.2.2.2.2.2 v0 v7 v8 v9 v10 v11 v12 h) (
  some ((.bool .false), h))
noncomputable def f18.b29 (I : Inp) (call : CallFn) (j : f18.Js) (v0 v7 v8 v9 v10 v11 v12 : AVal) (h : AHeap) : Rs :=
  bndP (pBin .add v12 (Z 1)) fun v195 =>
  j.2.2.2.1.1 v0 v7 v8 v9 v10 v11 v195 h
noncomputable def f18.b30 (I : Inp) (call : CallFn) (j : f18.Js) (v0 v7 v8 v9 v10 v11 v12 : AVal) (h : AHeap) : Rs :=
  bndP (pBin .add v7 (Z 1)) fun v209 =>
  bndP (pFieldAddr 2 v10) fun v210 =>
  bndP (pLoad1 I v210 h) fun v211 =>
  bndP (pIndexAddr 5 v211 v11) fun v213 =>
  bndP (pFieldAddr 0 v213) fun v214 =>
  bndP (pLoad1 I v214 h) fun v215 =>
  bndP (pIndexAddr 6 v215 v12) fun v217 =>
  bndP (pFieldAddr 0 v217) fun v218 =>
  bndP (pLoad1 I v218 h) fun v219 =>
  bndP (pBin .eql v219 (Z 5)) fun v220 =>
  sCond v220 (
  j.2.2.2.2.1 v0 v209 v8 v9 v10 v11 v12 h) (
  bndP (pBin .add v8 (Z 1)) fun v222 =>
  j.2.2.2.2.1 v0 v209 v222 v9 v10 v11 v12 h)
noncomputable def f18.e (I : Inp) (call : CallFn) (j : f18.Js) (v0 : AVal) (h : AHeap) : Rs :=
  bndP (pEq P .false .ptr .true v0 .nilp h) fun v14 =>
  bnd (sGuard v14 .false (some (v0, h)) h) fun v16 h1 =>
  bnd (sGuard v14 .false (lift (pNilCheck v16) h1) h1) fun v17 h2 =>
  bnd (sGuard v14 .false (lift (pFieldAddr 0 v17) h2) h2) fun v18 h3 =>
  bnd (sGuard v14 .false (lift (pLoad1 I v18 h3) h3) h3) fun v19 h4 =>
  bnd (sGuard v14 .false (lift (pLenSl v19) h4) h4) fun v20 h5 =>
  bnd (sGuard v14 .false (lift (pBin .gtr v20 (Z 6)) h5) h5) fun v21 h6 =>
  bndP (pPick v14 (.bool .true) v21) fun v22 =>
  bnd (sGuard v22 .false (some (v0, h6)) h6) fun v24 h7 =>
  bnd (sGuard v22 .false (lift (pNilCheck v24) h7) h7) fun v25 h8 =>
  bnd (sGuard v22 .false (lift (pFieldAddr 1 v25) h8) h8) fun v26 h9 =>
  bnd (sGuard v22 .false (lift (pLoad1 I v26 h9) h9) h9) fun v27 h10 =>
  bnd (sGuard v22 .false (lift (pLenSl v27) h10) h10) fun v28 h11 =>
  bnd (sGuard v22 .false (lift (pBin .gtr v28 (Z 10)) h11) h11) fun v29 h12 =>
  bndP (pPick v22 (.bool .true) v29) fun v30 =>
  bnd (sGuard v30 .false (some (v0, h12)) h12) fun v32 h13 =>
  bnd (sGuard v30 .false (lift (pNilCheck v32) h13) h13) fun v33 h14 =>
  bnd (sGuard v30 .false (lift (pFieldAddr 2 v33) h14) h14) fun v34 h15 =>
  bnd (sGuard v30 .false (lift (pLoad1 I v34 h15) h15) h15) fun v35 h16 =>
  bnd (sGuard v30 .false (lift (pLenSl v35) h16) h16) fun v36 h17 =>
  bnd (sGuard v30 .false (lift (pBin .gtr v36 (Z 4)) h17) h17) fun v37 h18 =>
  bndP (pPick v30 (.bool .true) v37) fun v38 =>
  bnd (sGuard v38 .false (some (v0, h18)) h18) fun v40 h19 =>
  bnd (sGuard v38 .false (lift (pNilCheck v40) h19) h19) fun v41 h20 =>
  bnd (sGuard v38 .false (lift (pFieldAddr 3 v41) h20) h20) fun v42 h21 =>
  bnd (sGuard v38 .false (lift (pLoad1 I v42 h21) h21) h21) fun v43 h22 =>
  bnd (sGuard v38 .false (lift (pLenSl v43) h22) h22) fun v44 h23 =>
  bnd (sGuard v38 .false (lift (pBin .gtr v44 (Z 12)) h23) h23) fun v45 h24 =>
  bndP (pPick v38 (.bool .true) v45) fun v46 =>
  bnd (sGuard v46 .false (some (v0, h24)) h24) fun v48 h25 =>
  bnd (sGuard v46 .false (lift (pNilCheck v48) h25) h25) fun v49 h26 =>
  bnd (sGuard v46 .false (lift (pFieldAddr 4 v49) h26) h26) fun v50 h27 =>
  bnd (sGuard v46 .false (lift (pLoad1 I v50 h27) h27) h27) fun v51 h28 =>
  bnd (sGuard v46 .false (lift (pLenSl v51) h28) h28) fun v52 h29 =>
  bnd (sGuard v46 .false (lift (pBin .gtr v52 (Z 12)) h29) h29) fun v53 h30 =>
  bndP (pPick v46 (.bool .true) v53) fun v54 =>
  bnd (sGuard v54 .false (some (v0, h30)) h30) fun v56 h31 =>
  bnd (sGuard v54 .false (lift (pNilCheck v56) h31) h31) fun v57 h32 =>
  bnd (sGuard v54 .false (lift (pFieldAddr 4 v57) h32) h32) fun v58 h33 =>
  bnd (sGuard v54 .false (lift (pLoad1 I v58 h33) h33) h33) fun v59 h34 =>
  bnd (sGuard v54 .false (lift (pLenSl v59) h34) h34) fun v60 h35 =>
  bnd (sGuard v54 .false (lift (pBin .eql v60 (Z 0)) h35) h35) fun v61 h36 =>
  bndP (pPick v54 (.bool .true) v61) fun v62 =>
  sCond v62 (
  j.1.1.1.1 v0 h36) (
  some ((.bool .false), h36))
noncomputable def f18.J (I : Inp) (call : CallFn) (n : Nat) : f18.Js :=
  Nat.rec (motive := fun _ => f18.Js) (((((fun _ _ => none), ((fun _ _ => none), (fun _ _ _ => none))), (((fun _ _ _ => none), (fun _ _ _ => none)), ((fun _ _ => none), (fun _ _ _ => none)))), ((((fun _ _ _ => none), (fun _ _ _ => none)), ((fun _ _ => none), (fun _ _ _ => none))), (((fun _ _ _ => none), (fun _ _ _ => none)), ((fun _ _ => none), (fun _ _ _ => none))))), (((((fun _ _ _ => none), (fun _ _ _ => none)), ((fun _ _ _ => none), (fun _ _ _ _ _ => none))), (((fun _ _ _ _ _ => none), (fun _ _ _ _ _ => none)), ((fun _ _ _ _ _ _ => none), (fun _ _ _ _ _ _ _ => none)))), ((((fun _ _ _ _ _ _ _ => none), (fun _ _ _ _ _ _ _ => none)), ((fun _ _ _ _ _ _ _ => none), (fun _ _ _ _ _ _ _ => none))), (((fun _ _ _ _ _ _ _ _ => none), (fun _ _ _ _ _ _ _ _ => none)), ((fun _ _ _ _ _ _ _ _ => none), (fun _ _ _ _ _ _ _ _ => none)))))) (fun _ ih => ((((f18.b0 I call ih, (f18.b1 I call ih, f18.b2 I call ih)), ((f18.b3 I call ih, f18.b4 I call ih), (f18.b5 I call ih, f18.b6 I call ih))), (((f18.b7 I call ih, f18.b8 I call ih), (f18.b9 I call ih, f18.b10 I call ih)), ((f18.b11 I call ih, f18.b12 I call ih), (f18.b13 I call ih, f18.b14 I call ih)))), ((((f18.b15 I call ih, f18.b16 I call ih), (f18.b17 I call ih, f18.b18 I call ih)), ((f18.b19 I call ih, f18.b20 I call ih), (f18.b21 I call ih, f18.b22 I call ih))), (((f18.b23 I call ih, f18.b24 I call ih), (f18.b25 I call ih, f18.b26 I call ih)), ((f18.b27 I call ih, f18.b28 I call ih), (f18.b29 I call ih, f18.b30 I call ih)))))) n
theorem f18.n0 (I : Inp) (call : CallFn) (n : Nat) : (f18.J I call (n + 1)).1.1.1.1 = f18.b0 I call (f18.J I call n) := Eq.trans rfl rfl
theorem f18.n1 (I : Inp) (call : CallFn) (n : Nat) : (f18.J I call (n + 1)).1.1.1.2.1 = f18.b1 I call (f18.J I call n) := Eq.trans rfl rfl
theorem f18.n2 (I : Inp) (call : CallFn) (n : Nat) : (f18.J I call (n + 1)).1.1.1.2.2 = f18.b2 I call (f18.J I call n) := Eq.trans rfl rfl
theorem f18.n3 (I : Inp) (call : CallFn) (n : Nat) : (f18.J I call (n + 1)).1.1.2.1.1 = f18.b3 I call (f18.J I call n) := Eq.trans rfl rfl
theorem f18.n4 (I : Inp) (call : CallFn) (n : Nat) : (f18.J I call (n + 1)).1.1.2.1.2 = f18.b4 I call (f18.J I call n) := Eq.trans rfl rfl
theorem f18.n5 (I : Inp) (call : CallFn) (n : Nat) : (f18.J I call (n + 1)).1.1.2.2.1 = f18.b5 I call (f18.J I call n) := Eq.trans rfl rfl
theorem f18.n6 (I : Inp) (call : CallFn) (n : Nat) : (f18.J I call (n + 1)).1.1.2.2.2 = f18.b6 I call (f18.J I call n) := Eq.trans rfl rfl
theorem f18.n7 (I : Inp) (call : CallFn) (n : Nat) : (f18.J I call (n + 1)).1.2.1.1.1 = f18.b7 I call (f18.J I call n) := Eq.trans rfl rfl
theorem f18.n8 (I : Inp) (call : CallFn) (n : Nat) : (f18.J I call (n + 1)).1.2.1.1.2 = f18.b8 I call (f18.J I call n) := Eq.trans rfl rfl
theorem f18.n9 (I : Inp) (call : CallFn) (n : Nat) : (f18.J I call (n + 1)).1.2.1.2.1 = f18.b9 I call (f18.J I call n) := Eq.trans rfl rfl
theorem f18.n10 (I : Inp) (call : CallFn) (n : Nat) : (f18.J I call (n + 1)).1.2.1.2.2 = f18.b10 I call (f18.J I call n) := Eq.trans rfl rfl
theorem f18.n11 (I : Inp) (call : CallFn) (n : Nat) : (f18.J I call (n + 1)).1.2.2.1.1 = f18.b11 I call (f18.J I call n) := Eq.trans rfl rfl
theorem f18.n12 (I : Inp) (call : CallFn) (n : Nat) : (f18.J I call (n + 1)).1.2.2.1.2 = f18.b12 I call (f18.J I call n) := Eq.trans rfl rfl
theorem f18.n13 (I : Inp) (call : CallFn) (n : Nat) : (f18.J I call (n + 1)).1.2.2.2.1 = f18.b13 I call (f18.J I call n) := Eq.trans rfl rfl
theorem f18.n14 (I : Inp) (call : CallFn) (n : Nat) : (f18.J I call (n + 1)).1.2.2.2.2 = f18.b14 I call (f18.J I call n) := Eq.trans rfl rfl
theorem f18.n15 (I : Inp) (call : CallFn) (n : Nat) : (f18.J I call (n + 1)).2.1.1.1.1 = f18.b15 I call (f18.J I call n) := Eq.trans rfl rfl
theorem f18.n16 (I : Inp) (call : CallFn) (n : Nat) : (f18.J I call (n + 1)).2.1.1.1.2 = f18.b16 I call (f18.J I call n) := Eq.trans rfl rfl
theorem f18.n17 (I : Inp) (call : CallFn) (n : Nat) : (f18.J I call (n + 1)).2.1.1.2.1 = f18.b17 I call (f18.J I call n) := Eq.trans rfl rfl
theorem f18.n18 (I : Inp) (call : CallFn) (n : Nat) : (f18.J I call (n + 1)).2.1.1.2.2 = f18.b18 I call (f18.J I call n) := Eq.trans rfl rfl
theorem f18.n19 (I : Inp) (call : CallFn) (n : Nat) : (f18.J I call (n + 1)).2.1.2.1.1 = f18.b19 I call (f18.J I call n) := Eq.trans rfl rfl
theorem f18.n20 (I : Inp) (call : CallFn) (n : Nat) : (f18.J I call (n + 1)).2.1.2.1.2 = f18.b20 I call (f18.J I call n) := Eq.trans rfl rfl
theorem f18.n21 (I : Inp) (call : CallFn) (n : Nat) : (f18.J I call (n + 1)).2.1.2.2.1 = f18.b21 I call (f18.J I call n) := Eq.trans rfl rfl
theorem f18.n22 (I : Inp) (call : CallFn) (n : Nat) : (f18.J I call (n + 1)).2.1.2.2.2 = f18.b22 I call (f18.J I call n) := Eq.trans rfl rfl
theorem f18.n23 (I : Inp) (call : CallFn) (n : Nat) : (f18.J I call (n + 1)).2.2.1.1.1 = f18.b23 I call (f18.J I call n) := Eq.trans rfl rfl
theorem f18.n24 (I : Inp) (call : CallFn) (n : Nat) : (f18.J I call (n + 1)).2.2.1.1.2 = f18.b24 I call (f18.J I call n) := Eq.trans rfl rfl
theorem f18.n25 (I : Inp) (call : CallFn) (n : Nat) : (f18.J I call (n + 1)).2.2.1.2.1 = f18.b25 I call (f18.J I call n) := Eq.trans rfl rfl
theorem f18.n26 (I : Inp) (call : CallFn) (n : Nat) : (f18.J I call (n + 1)).2.2.1.2.2 = f18.b26 I call (f18.J I call n) := Eq.trans rfl rfl
theorem f18.n27 (I : Inp) (call : CallFn) (n : Nat) : (f18.J I call (n + 1)).2.2.2.1.1 = f18.b27 I call (f18.J I call n) := Eq.trans rfl rfl
theorem f18.n28 (I : Inp) (call : CallFn) (n : Nat) : (f18.J I call (n + 1)).2.2.2.1.2 = f18.b28 I call (f18.J I call n) := Eq.trans rfl rfl
theorem f18.n29 (I : Inp) (call : CallFn) (n : Nat) : (f18.J I call (n + 1)).2.2.2.2.1 = f18.b29 I call (f18.J I call n) := Eq.trans rfl rfl
theorem f18.n30 (I : Inp) (call : CallFn) (n : Nat) : (f18.J I call (n + 1)).2.2.2.2.2 = f18.b30 I call (f18.J I call n) := Eq.trans rfl rfl
noncomputable def f18.JS (I : Inp) (call : CallFn) (n : Nat) : Jmp := fun id ρ h =>
  (Bool.rec (motive := fun _ => _) (Bool.rec (motive := fun _ => _) (Bool.rec (motive := fun _ => _) (Bool.rec (motive := fun _ => _) (Bool.rec (motive := fun _ => _) ((f18.J I call n).2.2.2.2.2 (ρ 0) (ρ 7) (ρ 8) (ρ 9) (ρ 10) (ρ 11) (ρ 12) h) ((f18.J I call n).2.2.2.2.1 (ρ 0) (ρ 7) (ρ 8) (ρ 9) (ρ 10) (ρ 11) (ρ 12) h) (Nat.blt id 30)) (Bool.rec (motive := fun _ => _) ((f18.J I call n).2.2.2.1.2 (ρ 0) (ρ 7) (ρ 8) (ρ 9) (ρ 10) (ρ 11) (ρ 12) h) ((f18.J I call n).2.2.2.1.1 (ρ 0) (ρ 7) (ρ 8) (ρ 9) (ρ 10) (ρ 11) (ρ 12) h) (Nat.blt id 28)) (Nat.blt id 29)) (Bool.rec (motive := fun _ => _) (Bool.rec (motive := fun _ => _) ((f18.J I call n).2.2.1.2.2 (ρ 0) (ρ 7) (ρ 8) (ρ 9) (ρ 10) (ρ 11) h) ((f18.J I call n).2.2.1.2.1 (ρ 0) (ρ 7) (ρ 8) (ρ 9) (ρ 10) (ρ 11) h) (Nat.blt id 26)) (Bool.rec (motive := fun _ => _) ((f18.J I call n).2.2.1.1.2 (ρ 0) (ρ 7) (ρ 8) (ρ 9) (ρ 10) (ρ 11) h) ((f18.J I call n).2.2.1.1.1 (ρ 0) (ρ 7) (ρ 8) (ρ 9) (ρ 10) (ρ 11) h) (Nat.blt id 24)) (Nat.blt id 25)) (Nat.blt id 27)) (Bool.rec (motive := fun _ => _) (Bool.rec (motive := fun _ => _) (Bool.rec (motive := fun _ => _) ((f18.J I call n).2.1.2.2.2 (ρ 0) (ρ 7) (ρ 8) (ρ 9) (ρ 10) (ρ 11) h) ((f18.J I call n).2.1.2.2.1 (ρ 0) (ρ 7) (ρ 8) (ρ 9) (ρ 10) h) (Nat.blt id 22)) (Bool.rec (motive := fun _ => _) ((f18.J I call n).2.1.2.1.2 (ρ 0) (ρ 7) (ρ 8) (ρ 9) h) ((f18.J I call n).2.1.2.1.1 (ρ 0) (ρ 7) (ρ 8) (ρ 9) h) (Nat.blt id 20)) (Nat.blt id 21)) (Bool.rec (motive := fun _ => _) (Bool.rec (motive := fun _ => _) ((f18.J I call n).2.1.1.2.2 (ρ 0) (ρ 7) (ρ 8) (ρ 9) h) ((f18.J I call n).2.1.1.2.1 (ρ 7) (ρ 8) h) (Nat.blt id 18)) (Bool.rec (motive := fun _ => _) ((f18.J I call n).2.1.1.1.2 (ρ 0) (ρ 6) h) ((f18.J I call n).2.1.1.1.1 (ρ 0) (ρ 6) h) (Nat.blt id 16)) (Nat.blt id 17)) (Nat.blt id 19)) (Nat.blt id 23)) (Bool.rec (motive := fun _ => _) (Bool.rec (motive := fun _ => _) (Bool.rec (motive := fun _ => _) (Bool.rec (motive := fun _ => _) ((f18.J I call n).1.2.2.2.2 (ρ 0) (ρ 6) h) ((f18.J I call n).1.2.2.2.1 (ρ 0) h) (Nat.blt id 14)) (Bool.rec (motive := fun _ => _) ((f18.J I call n).1.2.2.1.2 (ρ 0) (ρ 5) h) ((f18.J I call n).1.2.2.1.1 (ρ 0) (ρ 5) h) (Nat.blt id 12)) (Nat.blt id 13)) (Bool.rec (motive := fun _ => _) (Bool.rec (motive := fun _ => _) ((f18.J I call n).1.2.1.2.2 (ρ 0) (ρ 5) h) ((f18.J I call n).1.2.1.2.1 (ρ 0) h) (Nat.blt id 10)) (Bool.rec (motive := fun _ => _) ((f18.J I call n).1.2.1.1.2 (ρ 0) (ρ 4) h) ((f18.J I call n).1.2.1.1.1 (ρ 0) (ρ 4) h) (Nat.blt id 8)) (Nat.blt id 9)) (Nat.blt id 11)) (Bool.rec (motive := fun _ => _) (Bool.rec (motive := fun _ => _) (Bool.rec (motive := fun _ => _) ((f18.J I call n).1.1.2.2.2 (ρ 0) (ρ 4) h) ((f18.J I call n).1.1.2.2.1 (ρ 0) h) (Nat.blt id 6)) (Bool.rec (motive := fun _ => _) ((f18.J I call n).1.1.2.1.2 (ρ 0) (ρ 3) h) ((f18.J I call n).1.1.2.1.1 (ρ 0) (ρ 3) h) (Nat.blt id 4)) (Nat.blt id 5)) (Bool.rec (motive := fun _ => _) (Bool.rec (motive := fun _ => _) ((f18.J I call n).1.1.1.2.2 (ρ 0) (ρ 3) h) ((f18.J I call n).1.1.1.2.1 (ρ 0) h) (Nat.blt id 2)) ((f18.J I call n).1.1.1.1 (ρ 0) h) (Nat.blt id 1)) (Nat.blt id 3)) (Nat.blt id 7)) (Nat.blt id 15))
theorem f18.q0 (I : Inp) (call : CallFn) (n : Nat) (ρ : Fun) (h : AHeap) : f18.JS I call (n + 1) 0 ρ h = labC P I call (f18.JS I call n) c18.body 0 (finV I c18.results) 0 ρ h := by kernel_rfl
theorem f18.q1 (I : Inp) (call : CallFn) (n : Nat) (ρ : Fun) (h : AHeap) : f18.JS I call (n + 1) 1 ρ h = labC P I call (f18.JS I call n) c18.body 0 (finV I c18.results) 1 ρ h := by kernel_rfl
theorem f18.q2 (I : Inp) (call : CallFn) (n : Nat) (ρ : Fun) (h : AHeap) : f18.JS I call (n + 1) 2 ρ h = labC P I call (f18.JS I call n) c18.body 0 (finV I c18.results) 2 ρ h := by kernel_rfl
theorem f18.q3 (I : Inp) (call : CallFn) (n : Nat) (ρ : Fun) (h : AHeap) : f18.JS I call (n + 1) 3 ρ h = labC P I call (f18.JS I call n) c18.body 0 (finV I c18.results) 3 ρ h := by kernel_rfl
theorem f18.q4 (I : Inp) (call : CallFn) (n : Nat) (ρ : Fun) (h : AHeap) : f18.JS I call (n + 1) 4 ρ h = labC P I call (f18.JS I call n) c18.body 0 (finV I c18.results) 4 ρ h := by kernel_rfl
theorem f18.q5 (I : Inp) (call : CallFn) (n : Nat) (ρ : Fun) (h : AHeap) : f18.JS I call (n + 1) 5 ρ h = labC P I call (f18.JS I call n) c18.body 0 (finV I c18.results) 5 ρ h := by kernel_rfl
theorem f18.q6 (I : Inp) (call : CallFn) (n : Nat) (ρ : Fun) (h : AHeap) : f18.JS I call (n + 1) 6 ρ h = labC P I call (f18.JS I call n) c18.body 0 (finV I c18.results) 6 ρ h := by kernel_rfl
theorem f18.q7 (I : Inp) (call : CallFn) (n : Nat) (ρ : Fun) (h : AHeap) : f18.JS I call (n + 1) 7 ρ h = labC P I call (f18.JS I call n) c18.body 0 (finV I c18.results) 7 ρ h := by kernel_rfl
theorem f18.q8 (I : Inp) (call : CallFn) (n : Nat) (ρ : Fun) (h : AHeap) : f18.JS I call (n + 1) 8 ρ h = labC P I call (f18.JS I call n) c18.body 0 (finV I c18.results) 8 ρ h := by kernel_rfl
theorem f18.q9 (I : Inp) (call : CallFn) (n : Nat) (ρ : Fun) (h : AHeap) : f18.JS I call (n + 1) 9 ρ h = labC P I call (f18.JS I call n) c18.body 0 (finV I c18.results) 9 ρ h := by kernel_rfl
theorem f18.q10 (I : Inp) (call : CallFn) (n : Nat) (ρ : Fun) (h : AHeap) : f18.JS I call (n + 1) 10 ρ h = labC P I call (f18.JS I call n) c18.body 0 (finV I c18.results) 10 ρ h := by kernel_rfl
theorem f18.q11 (I : Inp) (call : CallFn) (n : Nat) (ρ : Fun) (h : AHeap) : f18.JS I call (n + 1) 11 ρ h = labC P I call (f18.JS I call n) c18.body 0 (finV I c18.results) 11 ρ h := by kernel_rfl
theorem f18.q12 (I : Inp) (call : CallFn) (n : Nat) (ρ : Fun) (h : AHeap) : f18.JS I call (n + 1) 12 ρ h = labC P I call (f18.JS I call n) c18.body 0 (finV I c18.results) 12 ρ h := by kernel_rfl
theorem f18.q13 (I : Inp) (call : CallFn) (n : Nat) (ρ : Fun) (h : AHeap) : f18.JS I call (n + 1) 13 ρ h = labC P I call (f18.JS I call n) c18.body 0 (finV I c18.results) 13 ρ h := by kernel_rfl
theorem f18.q14 (I : Inp) (call : CallFn) (n : Nat) (ρ : Fun) (h : AHeap) : f18.JS I call (n + 1) 14 ρ h = labC P I call (f18.JS I call n) c18.body 0 (finV I c18.results) 14 ρ h := by kernel_rfl
theorem f18.q15 (I : Inp) (call : CallFn) (n : Nat) (ρ : Fun) (h : AHeap) : f18.JS I call (n + 1) 15 ρ h = labC P I call (f18.JS I call n) c18.body 0 (finV I c18.results) 15 ρ h := by kernel_rfl
theorem f18.q16 (I : Inp) (call : CallFn) (n : Nat) (ρ : Fun) (h : AHeap) : f18.JS I call (n + 1) 16 ρ h = labC P I call (f18.JS I call n) c18.body 0 (finV I c18.results) 16 ρ h := by kernel_rfl
theorem f18.q17 (I : Inp) (call : CallFn) (n : Nat) (ρ : Fun) (h : AHeap) : f18.JS I call (n + 1) 17 ρ h = labC P I call (f18.JS I call n) c18.body 0 (finV I c18.results) 17 ρ h := by kernel_rfl
theorem f18.q18 (I : Inp) (call : CallFn) (n : Nat) (ρ : Fun) (h : AHeap) : f18.JS I call (n + 1) 18 ρ h = labC P I call (f18.JS I call n) c18.body 0 (finV I c18.results) 18 ρ h := by kernel_rfl
theorem f18.q19 (I : Inp) (call : CallFn) (n : Nat) (ρ : Fun) (h : AHeap) : f18.JS I call (n + 1) 19 ρ h = labC P I call (f18.JS I call n) c18.body 0 (finV I c18.results) 19 ρ h := by kernel_rfl
theorem f18.q20 (I : Inp) (call : CallFn) (n : Nat) (ρ : Fun) (h : AHeap) : f18.JS I call (n + 1) 20 ρ h = labC P I call (f18.JS I call n) c18.body 0 (finV I c18.results) 20 ρ h := by kernel_rfl
theorem f18.q21 (I : Inp) (call : CallFn) (n : Nat) (ρ : Fun) (h : AHeap) : f18.JS I call (n + 1) 21 ρ h = labC P I call (f18.JS I call n) c18.body 0 (finV I c18.results) 21 ρ h := by kernel_rfl
theorem f18.q22 (I : Inp) (call : CallFn) (n : Nat) (ρ : Fun) (h : AHeap) : f18.JS I call (n + 1) 22 ρ h = labC P I call (f18.JS I call n) c18.body 0 (finV I c18.results) 22 ρ h := by kernel_rfl
theorem f18.q23 (I : Inp) (call : CallFn) (n : Nat) (ρ : Fun) (h : AHeap) : f18.JS I call (n + 1) 23 ρ h = labC P I call (f18.JS I call n) c18.body 0 (finV I c18.results) 23 ρ h := by kernel_rfl
theorem f18.q24 (I : Inp) (call : CallFn) (n : Nat) (ρ : Fun) (h : AHeap) : f18.JS I call (n + 1) 24 ρ h = labC P I call (f18.JS I call n) c18.body 0 (finV I c18.results) 24 ρ h := by kernel_rfl
theorem f18.q25 (I : Inp) (call : CallFn) (n : Nat) (ρ : Fun) (h : AHeap) : f18.JS I call (n + 1) 25 ρ h = labC P I call (f18.JS I call n) c18.body 0 (finV I c18.results) 25 ρ h := by kernel_rfl
theorem f18.q26 (I : Inp) (call : CallFn) (n : Nat) (ρ : Fun) (h : AHeap) : f18.JS I call (n + 1) 26 ρ h = labC P I call (f18.JS I call n) c18.body 0 (finV I c18.results) 26 ρ h := by kernel_rfl
theorem f18.q27 (I : Inp) (call : CallFn) (n : Nat) (ρ : Fun) (h : AHeap) : f18.JS I call (n + 1) 27 ρ h = labC P I call (f18.JS I call n) c18.body 0 (finV I c18.results) 27 ρ h := by kernel_rfl
theorem f18.q28 (I : Inp) (call : CallFn) (n : Nat) (ρ : Fun) (h : AHeap) : f18.JS I call (n + 1) 28 ρ h = labC P I call (f18.JS I call n) c18.body 0 (finV I c18.results) 28 ρ h := by kernel_rfl
theorem f18.q29 (I : Inp) (call : CallFn) (n : Nat) (ρ : Fun) (h : AHeap) : f18.JS I call (n + 1) 29 ρ h = labC P I call (f18.JS I call n) c18.body 0 (finV I c18.results) 29 ρ h := by kernel_rfl
theorem f18.q30 (I : Inp) (call : CallFn) (n : Nat) (ρ : Fun) (h : AHeap) : f18.JS I call (n + 1) 30 ρ h = labC P I call (f18.JS I call n) c18.body 0 (finV I c18.results) 30 ρ h := by kernel_rfl
theorem f18.S (I : Inp) (F : Nat → Option AFn) (call : CallFn) : SFn ⟨P, I, F⟩ call c18 (f18.JS I call) :=
  ⟨fun id hid ρ h => by
    have hc : c18.body.cnt = 31 := by kernel_rfl
    rw [hc] at hid
    exact match id, hid with
    | 0, _ => rfl
    | 1, _ => rfl
    | 2, _ => rfl
    | 3, _ => rfl
    | 4, _ => rfl
    | 5, _ => rfl
    | 6, _ => rfl
    | 7, _ => rfl
    | 8, _ => rfl
    | 9, _ => rfl
    | 10, _ => rfl
    | 11, _ => rfl
    | 12, _ => rfl
    | 13, _ => rfl
    | 14, _ => rfl
    | 15, _ => rfl
    | 16, _ => rfl
    | 17, _ => rfl
    | 18, _ => rfl
    | 19, _ => rfl
    | 20, _ => rfl
    | 21, _ => rfl
    | 22, _ => rfl
    | 23, _ => rfl
    | 24, _ => rfl
    | 25, _ => rfl
    | 26, _ => rfl
    | 27, _ => rfl
    | 28, _ => rfl
    | 29, _ => rfl
    | 30, _ => rfl
    | id + 31, hid => absurd hid (by omega), fun n id hid ρ h => by
    have hc : c18.body.cnt = 31 := by kernel_rfl
    rw [hc] at hid
    exact match id, hid with
    | 0, _ => f18.q0 I call n ρ h
    | 1, _ => f18.q1 I call n ρ h
    | 2, _ => f18.q2 I call n ρ h
    | 3, _ => f18.q3 I call n ρ h
    | 4, _ => f18.q4 I call n ρ h
    | 5, _ => f18.q5 I call n ρ h
    | 6, _ => f18.q6 I call n ρ h
    | 7, _ => f18.q7 I call n ρ h
    | 8, _ => f18.q8 I call n ρ h
    | 9, _ => f18.q9 I call n ρ h
    | 10, _ => f18.q10 I call n ρ h
    | 11, _ => f18.q11 I call n ρ h
    | 12, _ => f18.q12 I call n ρ h
    | 13, _ => f18.q13 I call n ρ h
    | 14, _ => f18.q14 I call n ρ h
    | 15, _ => f18.q15 I call n ρ h
    | 16, _ => f18.q16 I call n ρ h
    | 17, _ => f18.q17 I call n ρ h
    | 18, _ => f18.q18 I call n ρ h
    | 19, _ => f18.q19 I call n ρ h
    | 20, _ => f18.q20 I call n ρ h
    | 21, _ => f18.q21 I call n ρ h
    | 22, _ => f18.q22 I call n ρ h
    | 23, _ => f18.q23 I call n ρ h
    | 24, _ => f18.q24 I call n ρ h
    | 25, _ => f18.q25 I call n ρ h
    | 26, _ => f18.q26 I call n ρ h
    | 27, _ => f18.q27 I call n ρ h
    | 28, _ => f18.q28 I call n ρ h
    | 29, _ => f18.q29 I call n ρ h
    | 30, _ => f18.q30 I call n ρ h
    | id + 31, hid => absurd hid (by omega)⟩
noncomputable def f18.run (I : Inp) : SF := fun call n a h =>
  match a with
  | [v0] => f18.e I call (f18.J I call n) v0 h
  | _ => none
theorem f18.qe (I : Inp) (call : CallFn) (n : Nat) (v0 : AVal) (h : AHeap) : f18.e I call (f18.J I call n) v0 h = execC P I call (f18.JS I call n) c18.body 0 (finV I c18.results) (argV [v0]) h := by kernel_rfl
theorem f18.code : codeOf P 18 = some c18 := by kernel_rfl
theorem f18.ok (I : Inp) (F : Nat → Option AFn) (hF : F 18 = some (.code c18)) : SfOk P I F 18 (f18.run I) := by
  intro call hc n args h r hr
  unfold f18.run at hr
  split at hr
  · exact fn_sound (C := ⟨P, I, F⟩) (n := n) hc hF (Nat.le_of_ble_eq_true (by kernel_rfl)) (by kernel_rfl) (f18.S I F call) (by kernel_rfl) ((f18.qe I call n _ h).symm.trans hr)
  · cases hr
theorem f18.qr (I : Inp) (call : CallFn) (n : Nat) (v0 : AVal) (h : AHeap) : f18.run I call n [v0] h = f18.e I call (f18.J I call n) v0 h := by kernel_rfl
theorem f18.lim {I : Inp} {prims : Nat → Option Prim} (hp : prims 18 = none) {n : Nat} {v0 : AVal} {h : AHeap} {Q : AVal → AHeap → Prop} (hr : Res (f18.e I (AM.lim ⟨P, I, genF P prims⟩) (f18.J I (AM.lim ⟨P, I, genF P prims⟩) n) v0 h) Q) :
    Res (AM.lim ⟨P, I, genF P prims⟩ 18 [v0] h) Q := by
  obtain ⟨v, h', e, q⟩ := hr
  exact ⟨v, h', lim_sf (C := ⟨P, I, genF P prims⟩) (n := n) (f18.ok I (genF P prims) (genF_code hp f18.code)) ((f18.qr I _ n v0 h).trans e), q⟩
/-! haruspex/haruspexref8.Names -/
noncomputable def c19 : AFunc := (AFunc.mk 331 1 [(.cellN 2 3), (.tmp 3)] (.seq (.region [(S 2 (.alloc [(Z 0), (Z 0), (Z 0)]) .none), (S 3 (.move (.val (.bool .false))) .none)]) (.seq (.region [(S 4 (.move (.val (.bool .true))) .none)]) (.seq (.seq (.region [(S 5 (.move (V 0)) .none)]) (.block 0 (.loop (.seq (.seq (.region [(M 19 5), (M 20 0), (NC 21 20), (FA 22 0 21), (L1 23 22), (S 24 (.lenSl (T 23)) .none), (S 25 (.bin .lss (T 19) (T 24)) .none)]) (.cond (T 25) .skip (.exit 0))) (.seq (.block 1 (.seq (.region [(S 6 (.move (V 0)) .none)]) (.block 2 (.loop (.seq (.seq (.region [(M 28 6), (M 29 0), (NC 30 29), (FA 31 0 30), (L1 32 31), (M 33 5), (S 34 (.indexAddr 1 (T 32) (T 33)) .none), (L1 35 34), (S 36 (.lenSl (T 35)) .none), (S 37 (.bin .lss (T 28) (T 36)) .none)]) (.cond (T 37) .skip (.exit 2))) (.seq (.block 3 (.region [(M 40 4), (M 41 40), (S 42 (.move (T 0)) (.some (41, .true))), (S 43 (.move (T 0)) (.some (41, .true))), (S 44 (.nilCheck (T 43)) (.some (41, .true))), (S 45 (.fieldAddr 0 (T 44)) (.some (41, .true))), (S 46 (.load1 (T 45)) (.some (41, .true))), (S 47 (.move (T 5)) (.some (41, .true))), (S 48 (.indexAddr 1 (T 46) (T 47)) (.some (41, .true))), (S 49 (.load1 (T 48)) (.some (41, .true))), (S 50 (.move (T 6)) (.some (41, .true))), (S 51 (.indexAddr 2 (T 49) (T 50)) (.some (41, .true))), (S 52 (.loadN 2 (T 51)) (.some (41, .true))), (S 53 (.call 41 [(T 42), (T 52)]) (.some (41, .true))), (S 54 (.pick (T 41) (T 53) (.val (.bool .false))) .none), (M 4 54)])) (.region [(M 38 6), (S 39 (.bin .add (T 38) (V 1)) .none), (M 6 39)]))))))) (.region [(M 26 5), (S 27 (.bin .add (T 26) (V 1)) .none), (M 5 27)])))))) (.seq (.seq (.region [(S 7 (.move (V 0)) .none)]) (.block 4 (.loop (.seq (.seq (.region [(M 55 7), (M 56 0), (NC 57 56), (FA 58 1 57), (L1 59 58), (S 60 (.lenSl (T 59)) .none), (S 61 (.bin .lss (T 55) (T 60)) .none)]) (.cond (T 61) .skip (.exit 4))) (.seq (.block 5 (.seq (.seq (.region [(S 8 (.move (V 0)) .none)]) (.block 6 (.loop (.seq (.seq (.region [(M 64 8), (M 65 0), (NC 66 65), (FA 67 1 66), (L1 68 67), (M 69 7), (S 70 (.indexAddr 3 (T 68) (T 69)) .none), (FA 71 0 70), (L1 72 71), (S 73 (.lenSl (T 72)) .none), (S 74 (.bin .lss (T 64) (T 73)) .none)]) (.cond (T 74) .skip (.exit 6))) (.seq (.block 7 (.region [(M 77 4), (M 78 77), (S 79 (.move (T 0)) (.some (78, .true))), (S 80 (.move (T 0)) (.some (78, .true))), (S 81 (.nilCheck (T 80)) (.some (78, .true))), (S 82 (.fieldAddr 1 (T 81)) (.some (78, .true))), (S 83 (.load1 (T 82)) (.some (78, .true))), (S 84 (.move (T 7)) (.some (78, .true))), (S 85 (.indexAddr 3 (T 83) (T 84)) (.some (78, .true))), (S 86 (.fieldAddr 0 (T 85)) (.some (78, .true))), (S 87 (.load1 (T 86)) (.some (78, .true))), (S 88 (.move (T 8)) (.some (78, .true))), (S 89 (.indexAddr 2 (T 87) (T 88)) (.some (78, .true))), (S 90 (.loadN 2 (T 89)) (.some (78, .true))), (S 91 (.call 41 [(T 79), (T 90)]) (.some (78, .true))), (S 92 (.pick (T 78) (T 91) (.val (.bool .false))) .none), (M 4 92)])) (.region [(M 75 8), (S 76 (.bin .add (T 75) (V 1)) .none), (M 8 76)])))))) (.region [(M 93 4), (M 94 93), (S 95 (.move (T 0)) (.some (94, .true))), (S 96 (.move (T 0)) (.some (94, .true))), (S 97 (.nilCheck (T 96)) (.some (94, .true))), (S 98 (.fieldAddr 1 (T 97)) (.some (94, .true))), (S 99 (.load1 (T 98)) (.some (94, .true))), (S 100 (.move (T 7)) (.some (94, .true))), (S 101 (.indexAddr 3 (T 99) (T 100)) (.some (94, .true))), (S 102 (.fieldAddr 1 (T 101)) (.some (94, .true))), (S 103 (.loadN 2 (T 102)) (.some (94, .true))), (S 104 (.call 41 [(T 95), (T 103)]) (.some (94, .true))), (S 105 (.pick (T 94) (T 104) (.val (.bool .false))) .none), (M 4 105)]))) (.region [(M 62 7), (S 63 (.bin .add (T 62) (V 1)) .none), (M 7 63)])))))) (.seq (.seq (.region [(S 9 (.move (V 0)) .none)]) (.block 8 (.loop (.seq (.seq (.region [(M 106 9), (M 107 0), (NC 108 107), (FA 109 2 108), (L1 110 109), (S 111 (.lenSl (T 110)) .none), (S 112 (.bin .lss (T 106) (T 111)) .none)]) (.cond (T 112) .skip (.exit 8))) (.seq (.block 9 (.seq (.region [(S 10 (.move (V 0)) .none)]) (.block 10 (.loop (.seq (.seq (.region [(M 115 10), (M 116 0), (NC 117 116), (FA 118 2 117), (L1 119 118), (M 120 9), (S 121 (.indexAddr 1 (T 119) (T 120)) .none), (FA 122 0 121), (L1 123 122), (S 124 (.lenSl (T 123)) .none), (S 125 (.bin .lss (T 115) (T 124)) .none)]) (.cond (T 125) .skip (.exit 10))) (.seq (.block 11 (.draw [(M 128 4), (M 129 128), (S 130 (.move (T 0)) (.some (129, .true))), (S 131 (.nilCheck (T 130)) (.some (129, .true))), (S 132 (.fieldAddr 2 (T 131)) (.some (129, .true))), (S 133 (.load1 (T 132)) (.some (129, .true))), (S 134 (.move (T 9)) (.some (129, .true))), (S 135 (.indexAddr 1 (T 133) (T 134)) (.some (129, .true))), (S 136 (.fieldAddr 0 (T 135)) (.some (129, .true))), (S 137 (.load1 (T 136)) (.some (129, .true))), (S 138 (.move (T 10)) (.some (129, .true))), (S 139 (.indexAddr 1 (T 137) (T 138)) (.some (129, .true))), (S 140 (.load1 (T 139)) (.some (129, .true))), (S 141 (.move (T 0)) (.some (129, .true))), (S 142 (.nilCheck (T 141)) (.some (129, .true))), (S 143 (.fieldAddr 1 (T 142)) (.some (129, .true))), (S 144 (.load1 (T 143)) (.some (129, .true))), (S 145 (.lenSl (T 144)) (.some (129, .true))), (S 146 (.call 42 [(T 140), (T 145)]) (.some (129, .true))), (S 147 (.pick (T 129) (T 146) (.val (.bool .false))) .none), (M 4 147)] [N, N, N, N, N, N, N, N, N, N, N, N, N, N, N, N, N, N, Y, N, N] 0)) (.region [(M 126 10), (S 127 (.bin .add (T 126) (V 1)) .none), (M 10 127)]))))))) (.region [(M 113 9), (S 114 (.bin .add (T 113) (V 1)) .none), (M 9 114)])))))) (.seq (.seq (.region [(S 11 (.move (V 0)) .none)]) (.block 12 (.loop (.seq (.seq (.region [(M 148 11), (M 149 0), (NC 150 149), (FA 151 3 150), (L1 152 151), (S 153 (.lenSl (T 152)) .none), (S 154 (.bin .lss (T 148) (T 153)) .none)]) (.cond (T 154) .skip (.exit 12))) (.seq (.block 13 (.seq (.region [(M 157 0), (NC 158 157), (FA 159 3 158), (L1 160 159), (M 161 11), (S 162 (.indexAddr 3 (T 160) (T 161)) .none), (S 163 (.loadN 3 (T 162)) .none), (S 12 (.alloc [(Z 0), (Z 0), .nils]) .none), (AOper.mk .none (.store 3 (T 12) (T 163)) .none)]) (.seq (.draw [(M 164 4), (M 165 164), (S 166 (.fieldAddr 0 (T 12)) (.some (165, .true))), (S 167 (.load1 (T 166)) (.some (165, .true))), (S 168 (.move (T 0)) (.some (165, .true))), (S 169 (.nilCheck (T 168)) (.some (165, .true))), (S 170 (.fieldAddr 0 (T 169)) (.some (165, .true))), (S 171 (.load1 (T 170)) (.some (165, .true))), (S 172 (.lenSl (T 171)) (.some (165, .true))), (S 173 (.call 42 [(T 167), (T 172)]) (.some (165, .true))), (S 174 (.pick (T 165) (T 173) (.val (.bool .false))) .none), (M 175 174), (S 176 (.fieldAddr 1 (T 12)) (.some (175, .true))), (S 177 (.load1 (T 176)) (.some (175, .true))), (S 178 (.move (T 0)) (.some (175, .true))), (S 179 (.nilCheck (T 178)) (.some (175, .true))), (S 180 (.fieldAddr 2 (T 179)) (.some (175, .true))), (S 181 (.load1 (T 180)) (.some (175, .true))), (S 182 (.lenSl (T 181)) (.some (175, .true))), (S 183 (.call 42 [(T 177), (T 182)]) (.some (175, .true))), (S 184 (.pick (T 175) (T 183) (.val (.bool .false))) .none), (M 4 184)] [N, N, N, N, N, N, N, N, N, Y, N, N, N, N, N, N, N, N, N, Y, N, N] 0) (.seq (.region [(S 13 (.move (V 0)) .none)]) (.block 14 (.loop (.seq (.seq (.region [(M 185 13), (FA 186 2 12), (L1 187 186), (S 188 (.lenSl (T 187)) .none), (S 189 (.bin .lss (T 185) (T 188)) .none)]) (.cond (T 189) .skip (.exit 14))) (.seq (.block 15 (.draw [(M 192 4), (M 193 192), (S 194 (.fieldAddr 2 (T 12)) (.some (193, .true))), (S 195 (.load1 (T 194)) (.some (193, .true))), (S 196 (.move (T 13)) (.some (193, .true))), (S 197 (.indexAddr 1 (T 195) (T 196)) (.some (193, .true))), (S 198 (.load1 (T 197)) (.some (193, .true))), (S 199 (.move (T 0)) (.some (193, .true))), (S 200 (.nilCheck (T 199)) (.some (193, .true))), (S 201 (.fieldAddr 4 (T 200)) (.some (193, .true))), (S 202 (.load1 (T 201)) (.some (193, .true))), (S 203 (.lenSl (T 202)) (.some (193, .true))), (S 204 (.call 42 [(T 198), (T 203)]) (.some (193, .true))), (S 205 (.pick (T 193) (T 204) (.val (.bool .false))) .none), (M 4 205)] [N, N, N, N, N, N, N, N, N, N, N, N, Y, N, N] 0)) (.region [(M 190 13), (S 191 (.bin .add (T 190) (V 1)) .none), (M 13 191)]))))))))) (.region [(M 155 11), (S 156 (.bin .add (T 155) (V 1)) .none), (M 11 156)])))))) (.seq (.seq (.region [(M 206 4), (S 207 (.un .not (T 206)) .none)]) (.cond (T 207) (.seq (.region [(S 208 (.call 17 []) .none), (AOper.mk .none (.store 3 (T 2) (T 208)) .none), (S 3 (.move (.val (.bool .false))) .none)]) .ret) .skip)) (.seq (.seq (.region [(S 14 (.move (V 0)) .none)]) (.block 16 (.loop (.seq (.seq (.region [(M 209 14), (M 210 0), (NC 211 210), (FA 212 4 211), (L1 213 212), (S 214 (.lenSl (T 213)) .none), (S 215 (.bin .lss (T 209) (T 214)) .none)]) (.cond (T 215) .skip (.exit 16))) (.seq (.block 17 (.seq (.region [(M 218 0), (NC 219 218), (FA 220 4 219), (L1 221 220), (M 222 14), (S 223 (.indexAddr 3 (T 221) (T 222)) .none), (S 224 (.loadN 3 (T 223)) .none), (S 15 (.alloc [(Z 0), .nils, .nils]) .none), (AOper.mk .none (.store 3 (T 15) (T 224)) .none)]) (.seq (.draw [(FA 225 0 15), (L1 226 225), (M 227 0), (NC 228 227), (FA 229 1 228), (L1 230 229), (S 231 (.lenSl (T 230)) .none), (S 232 (.call 42 [(T 226), (T 231)]) .none), (M 4 232)] [N, N, N, N, N, N, N, Y, N] 0) (.seq (.seq (.region [(S 16 (.move (V 0)) .none)]) (.block 18 (.loop (.seq (.seq (.region [(M 233 16), (FA 234 1 15), (L1 235 234), (S 236 (.lenSl (T 235)) .none), (S 237 (.bin .lss (T 233) (T 236)) .none)]) (.cond (T 237) .skip (.exit 18))) (.seq (.block 19 (.region [(M 240 4), (M 241 240), (S 242 (.move (T 0)) (.some (241, .true))), (S 243 (.fieldAddr 1 (T 15)) (.some (241, .true))), (S 244 (.load1 (T 243)) (.some (241, .true))), (S 245 (.move (T 16)) (.some (241, .true))), (S 246 (.indexAddr 2 (T 244) (T 245)) (.some (241, .true))), (S 247 (.loadN 2 (T 246)) (.some (241, .true))), (S 248 (.call 41 [(T 242), (T 247)]) (.some (241, .true))), (S 249 (.pick (T 241) (T 248) (.val (.bool .false))) .none), (M 4 249)])) (.region [(M 238 16), (S 239 (.bin .add (T 238) (V 1)) .none), (M 16 239)])))))) (.seq (.seq (.region [(M 250 4), (S 251 (.un .not (T 250)) .none)]) (.cond (T 251) (.seq (.region [(S 252 (.call 17 []) .none), (AOper.mk .none (.store 3 (T 2) (T 252)) .none), (S 3 (.move (.val (.bool .false))) .none)]) .ret) .skip)) (.seq (.region [(S 17 (.move (V 0)) .none)]) (.block 20 (.loop (.seq (.seq (.region [(M 253 17), (FA 254 2 15), (L1 255 254), (S 256 (.lenSl (T 255)) .none), (S 257 (.bin .lss (T 253) (T 256)) .none)]) (.cond (T 257) .skip (.exit 20))) (.seq (.block 21 (.seq (.region [(S 18 (.move (V 0)) .none)]) (.block 22 (.loop (.seq (.seq (.region [(M 260 18), (FA 261 2 15), (L1 262 261), (M 263 17), (S 264 (.indexAddr 5 (T 262) (T 263)) .none), (FA 265 0 264), (L1 266 265), (S 267 (.lenSl (T 266)) .none), (S 268 (.bin .leq (T 260) (T 267)) .none)]) (.cond (T 268) .skip (.exit 22))) (.seq (.block 23 (.seq (.draw [(M 271 18), (FA 272 2 15), (L1 273 272), (M 274 17), (S 275 (.indexAddr 5 (T 273) (T 274)) .none), (FA 276 0 275), (L1 277 276), (S 278 (.lenSl (T 277)) .none), (S 279 (.bin .lss (T 271) (T 278)) .none), (M 280 279), (S 281 (.move (T 0)) (.some (280, .true))), (S 282 (.loadN 3 (T 15)) (.some (280, .true))), (S 283 (.fieldAddr 2 (T 15)) (.some (280, .true))), (S 284 (.load1 (T 283)) (.some (280, .true))), (S 285 (.move (T 17)) (.some (280, .true))), (S 286 (.indexAddr 5 (T 284) (T 285)) (.some (280, .true))), (S 287 (.fieldAddr 0 (T 286)) (.some (280, .true))), (S 288 (.load1 (T 287)) (.some (280, .true))), (S 289 (.move (T 18)) (.some (280, .true))), (S 290 (.indexAddr 6 (T 288) (T 289)) (.some (280, .true))), (S 291 (.loadN 6 (T 290)) (.some (280, .true))), (S 292 (.call 33 [(T 281), (T 282), (T 291)]) (.some (280, .true))), (S 293 (.un .not (T 292)) (.some (280, .true))), (S 294 (.pick (T 280) (T 293) (.val (.bool .false))) .none), (M 295 294), (S 296 (.move (T 18)) (.some (295, .false))), (S 297 (.fieldAddr 2 (T 15)) (.some (295, .false))), (S 298 (.load1 (T 297)) (.some (295, .false))), (S 299 (.move (T 17)) (.some (295, .false))), (S 300 (.indexAddr 5 (T 298) (T 299)) (.some (295, .false))), (S 301 (.fieldAddr 0 (T 300)) (.some (295, .false))), (S 302 (.load1 (T 301)) (.some (295, .false))), (S 303 (.lenSl (T 302)) (.some (295, .false))), (S 304 (.bin .eql (T 296) (T 303)) (.some (295, .false))), (S 305 (.move (T 304)) (.some (295, .false))), (S 306 (.loadN 3 (T 15)) (.some (305, .true))), (S 307 (.fieldAddr 2 (T 15)) (.some (305, .true))), (S 308 (.load1 (T 307)) (.some (305, .true))), (S 309 (.move (T 17)) (.some (305, .true))), (S 310 (.indexAddr 5 (T 308) (T 309)) (.some (305, .true))), (S 311 (.loadN 5 (T 310)) (.some (305, .true))), (S 312 (.call 43 [(T 306), (T 311)]) (.some (305, .true))), (S 313 (.un .not (T 312)) (.some (305, .true))), (S 314 (.pick (T 305) (T 313) (.val (.bool .false))) (.some (295, .false))), (S 315 (.pick (T 295) (.val (.bool .true)) (T 314)) .none)] [N, N, N, N, N, N, N, N, N, N, N, N, N, N, N, N, N, N, N, N, N, Y, N, N, N, N, N, N, N, N, N, N, N, N, N, N, N, N, N, N, N, Y, N, N, N] 0) (.cond (T 315) (.seq (.region [(M 316 14), (M 317 17), (M 318 18), (S 319 (.build [(Z 0), (Z 0), (Z 0)] [(0, (1, (T 316))), (1, (1, (T 317))), (2, (1, (T 318)))]) .none), (AOper.mk .none (.store 3 (T 2) (T 319)) .none), (S 3 (.move (.val (.bool .false))) .none)]) .ret) .skip))) (.region [(M 269 18), (S 270 (.bin .add (T 269) (V 1)) .none), (M 18 270)]))))))) (.region [(M 258 17), (S 259 (.bin .add (T 258) (V 1)) .none), (M 17 259)]))))))))))) (.region [(M 216 14), (S 217 (.bin .add (T 216) (V 1)) .none), (M 14 217)])))))) (.seq (.draw [(S 320 (.call 17 []) .none), (M 321 0), (NC 322 321), (FA 323 5 322), (L1 324 323), (M 325 0), (NC 326 325), (FA 327 4 326), (L1 328 327), (S 329 (.lenSl (T 328)) .none), (S 330 (.call 42 [(T 324), (T 329)]) .none), (AOper.mk .none (.store 3 (T 2) (T 320)) .none), (M 3 330)] [Y, N, N, N, (.false, [0]), N, N, N, (.false, [0]), N, Y, Y, N] 0) .ret))))))))))
abbrev f19.Js : Type := ((((((AVal → AVal → AVal → AHeap → Rs) × (AVal → AVal → AVal → AVal → AHeap → Rs)) × ((AVal → AVal → AVal → AVal → AHeap → Rs) × ((AVal → AVal → AVal → AVal → AHeap → Rs) × (AVal → AVal → AVal → AVal → AVal → AHeap → Rs)))) × (((AVal → AVal → AVal → AVal → AVal → AHeap → Rs) × ((AVal → AVal → AVal → AVal → AVal → AHeap → Rs) × (AVal → AVal → AVal → AHeap → Rs))) × ((AVal → AVal → AVal → AVal → AHeap → Rs) × ((AVal → AVal → AVal → AVal → AHeap → Rs) × (AVal → AVal → AVal → AVal → AHeap → Rs))))) × ((((AVal → AVal → AVal → AVal → AHeap → Rs) × (AVal → AVal → AVal → AVal → AVal → AHeap → Rs)) × ((AVal → AVal → AVal → AVal → AVal → AHeap → Rs) × ((AVal → AVal → AVal → AVal → AVal → AHeap → Rs) × (AVal → AVal → AVal → AHeap → Rs)))) × (((AVal → AVal → AVal → AVal → AHeap → Rs) × ((AVal → AVal → AVal → AVal → AHeap → Rs) × (AVal → AVal → AVal → AVal → AHeap → Rs))) × ((AVal → AVal → AVal → AVal → AVal → AHeap → Rs) × ((AVal → AVal → AVal → AVal → AVal → AHeap → Rs) × (AVal → AVal → AVal → AVal → AVal → AHeap → Rs)))))) × (((((AVal → AVal → AVal → AHeap → Rs) × (AVal → AVal → AVal → AVal → AHeap → Rs)) × ((AVal → AVal → AVal → AVal → AHeap → Rs) × ((AVal → AVal → AVal → AVal → AHeap → Rs) × (AVal → AVal → AVal → AVal → AVal → AVal → AHeap → Rs)))) × (((AVal → AVal → AVal → AVal → AVal → AVal → AHeap → Rs) × ((AVal → AVal → AVal → AVal → AVal → AVal → AHeap → Rs) × (AVal → AVal → AHeap → Rs))) × ((AVal → AVal → AHeap → Rs) × ((AVal → AVal → AVal → AHeap → Rs) × (AVal → AVal → AVal → AHeap → Rs))))) × ((((AVal → AVal → AVal → AHeap → Rs) × ((AVal → AVal → AVal → AVal → AVal → AHeap → Rs) × (AVal → AVal → AVal → AVal → AVal → AVal → AHeap → Rs))) × ((AVal → AVal → AVal → AVal → AVal → AVal → AHeap → Rs) × ((AVal → AVal → AVal → AVal → AVal → AVal → AHeap → Rs) × (AVal → AVal → AVal → AVal → AHeap → Rs)))) × (((AVal → AVal → AVal → AVal → AVal → AHeap → Rs) × ((AVal → AVal → AVal → AVal → AVal → AHeap → Rs) × (AVal → AVal → AVal → AVal → AVal → AHeap → Rs))) × ((AVal → AVal → AVal → AVal → AVal → AVal → AHeap → Rs) × ((AVal → AVal → AVal → AVal → AVal → AVal → AHeap → Rs) × (AVal → AVal → AVal → AVal → AVal → AVal → AHeap → Rs)))))))
noncomputable def f19.b0 (I : Inp) (call : CallFn) (j : f19.Js) (v0 v2 v4 : AVal) (h : AHeap) : Rs :=
  j.1.1.2.2.1 v0 v2 v4 (Z 0) h
noncomputable def f19.b1 (I : Inp) (call : CallFn) (j : f19.Js) (v0 v2 v4 v5 : AVal) (h : AHeap) : Rs :=
  bndP (pNilCheck v0) fun v21 =>
  bndP (pFieldAddr 0 v21) fun v22 =>
  bndP (pLoad1 I v22 h) fun v23 =>
  bndP (pLenSl v23) fun v24 =>
  bndP (pBin .lss v5 v24) fun v25 =>
  sCond v25 (
  j.1.1.1.1.1 v0 v2 v4 h) (
  j.1.1.1.2.1 v0 v2 v4 v5 h)
noncomputable def f19.b2 (I : Inp) (call : CallFn) (j : f19.Js) (v0 v2 v4 v5 : AVal) (h : AHeap) : Rs :=
  j.1.1.1.2.2.2 v0 v2 v4 v5 (Z 0) h
noncomputable def f19.b3 (I : Inp) (call : CallFn) (j : f19.Js) (v0 v2 v4 v5 : AVal) (h : AHeap) : Rs :=
  bndP (pBin .add v5 (Z 1)) fun v27 =>
  j.1.1.1.1.2 v0 v2 v4 v27 h
noncomputable def f19.b4 (I : Inp) (call : CallFn) (j : f19.Js) (v0 v2 v4 v5 v6 : AVal) (h : AHeap) : Rs :=
  bndP (pNilCheck v0) fun v30 =>
  bndP (pFieldAddr 0 v30) fun v31 =>
  bndP (pLoad1 I v31 h) fun v32 =>
  bndP (pIndexAddr 1 v32 v5) fun v34 =>
  bndP (pLoad1 I v34 h) fun v35 =>
  bndP (pLenSl v35) fun v36 =>
  bndP (pBin .lss v6 v36) fun v37 =>
  sCond v37 (
  j.1.1.1.2.2.1 v0 v2 v4 v5 h) (
  j.1.1.2.1.1 v0 v2 v4 v5 v6 h)
noncomputable def f19.b5 (I : Inp) (call : CallFn) (j : f19.Js) (v0 v2 v4 v5 v6 : AVal) (h : AHeap) : Rs :=
  bnd (sGuard v4 .true (some (v0, h)) h) fun v42 h1 =>
  bnd (sGuard v4 .true (some (v0, h1)) h1) fun v43 h2 =>
  bnd (sGuard v4 .true (lift (pNilCheck v43) h2) h2) fun v44 h3 =>
  bnd (sGuard v4 .true (lift (pFieldAddr 0 v44) h3) h3) fun v45 h4 =>
  bnd (sGuard v4 .true (lift (pLoad1 I v45 h4) h4) h4) fun v46 h5 =>
  bnd (sGuard v4 .true (some (v5, h5)) h5) fun v47 h6 =>
  bnd (sGuard v4 .true (lift (pIndexAddr 1 v46 v47) h6) h6) fun v48 h7 =>
  bnd (sGuard v4 .true (lift (pLoad1 I v48 h7) h7) h7) fun v49 h8 =>
  bnd (sGuard v4 .true (some (v6, h8)) h8) fun v50 h9 =>
  bnd (sGuard v4 .true (lift (pIndexAddr 2 v49 v50) h9) h9) fun v51 h10 =>
  bnd (sGuard v4 .true (lift (pLoadN I 2 v51 h10) h10) h10) fun v52 h11 =>
  bnd (sGuard v4 .true (call 41 [v42, v52] h11) h11) fun v53 h12 =>
  bndP (pPick v4 v53 (.bool .false)) fun v54 =>
  j.1.1.2.1.2.1 v0 v2 v54 v5 v6 h12
noncomputable def f19.b6 (I : Inp) (call : CallFn) (j : f19.Js) (v0 v2 v4 v5 v6 : AVal) (h : AHeap) : Rs :=
  bndP (pBin .add v6 (Z 1)) fun v39 =>
  j.1.1.1.2.2.2 v0 v2 v4 v5 v39 h
noncomputable def f19.b7 (I : Inp) (call : CallFn) (j : f19.Js) (v0 v2 v4 : AVal) (h : AHeap) : Rs :=
  j.1.2.2.1.1 v0 v2 v4 (Z 0) h
noncomputable def f19.b8 (I : Inp) (call : CallFn) (j : f19.Js) (v0 v2 v4 v7 : AVal) (h : AHeap) : Rs :=
  bndP (pNilCheck v0) fun v57 =>
  bndP (pFieldAddr 1 v57) fun v58 =>
  bndP (pLoad1 I v58 h) fun v59 =>
  bndP (pLenSl v59) fun v60 =>
  bndP (pBin .lss v7 v60) fun v61 =>
  sCond v61 (
  j.1.1.2.1.2.2 v0 v2 v4 h) (
  j.1.1.2.2.2.1 v0 v2 v4 v7 h)
noncomputable def f19.b9 (I : Inp) (call : CallFn) (j : f19.Js) (v0 v2 v4 v7 : AVal) (h : AHeap) : Rs :=
  j.1.2.1.1.2 v0 v2 v4 v7 (Z 0) h
noncomputable def f19.b10 (I : Inp) (call : CallFn) (j : f19.Js) (v0 v2 v4 v7 : AVal) (h : AHeap) : Rs :=
  bndP (pBin .add v7 (Z 1)) fun v63 =>
  j.1.1.2.2.1 v0 v2 v4 v63 h
noncomputable def f19.b11 (I : Inp) (call : CallFn) (j : f19.Js) (v0 v2 v4 v7 : AVal) (h : AHeap) : Rs :=
  bnd (sGuard v4 .true (some (v0, h)) h) fun v95 h1 =>
  bnd (sGuard v4 .true (some (v0, h1)) h1) fun v96 h2 =>
  bnd (sGuard v4 .true (lift (pNilCheck v96) h2) h2) fun v97 h3 =>
  bnd (sGuard v4 .true (lift (pFieldAddr 1 v97) h3) h3) fun v98 h4 =>
  bnd (sGuard v4 .true (lift (pLoad1 I v98 h4) h4) h4) fun v99 h5 =>
  bnd (sGuard v4 .true (some (v7, h5)) h5) fun v100 h6 =>
  bnd (sGuard v4 .true (lift (pIndexAddr 3 v99 v100) h6) h6) fun v101 h7 =>
  bnd (sGuard v4 .true (lift (pFieldAddr 1 v101) h7) h7) fun v102 h8 =>
  bnd (sGuard v4 .true (lift (pLoadN I 2 v102 h8) h8) h8) fun v103 h9 =>
  bnd (sGuard v4 .true (call 41 [v95, v103] h9) h9) fun v104 h10 =>
  bndP (pPick v4 v104 (.bool .false)) fun v105 =>
  j.1.1.2.2.2.2 v0 v2 v105 v7 h10
noncomputable def f19.b12 (I : Inp) (call : CallFn) (j : f19.Js) (v0 v2 v4 v7 v8 : AVal) (h : AHeap) : Rs :=
  bndP (pNilCheck v0) fun v66 =>
  bndP (pFieldAddr 1 v66) fun v67 =>
  bndP (pLoad1 I v67 h) fun v68 =>
  bndP (pIndexAddr 3 v68 v7) fun v70 =>
  bndP (pFieldAddr 0 v70) fun v71 =>
  bndP (pLoad1 I v71 h) fun v72 =>
  bndP (pLenSl v72) fun v73 =>
  bndP (pBin .lss v8 v73) fun v74 =>
  sCond v74 (
  j.1.2.1.1.1 v0 v2 v4 v7 h) (
  j.1.2.1.2.1 v0 v2 v4 v7 v8 h)
noncomputable def f19.b13 (I : Inp) (call : CallFn) (j : f19.Js) (v0 v2 v4 v7 v8 : AVal) (h : AHeap) : Rs :=
  bnd (sGuard v4 .true (some (v0, h)) h) fun v79 h1 =>
  bnd (sGuard v4 .true (some (v0, h1)) h1) fun v80 h2 =>
  bnd (sGuard v4 .true (lift (pNilCheck v80) h2) h2) fun v81 h3 =>
  bnd (sGuard v4 .true (lift (pFieldAddr 1 v81) h3) h3) fun v82 h4 =>
  bnd (sGuard v4 .true (lift (pLoad1 I v82 h4) h4) h4) fun v83 h5 =>
  bnd (sGuard v4 .true (some (v7, h5)) h5) fun v84 h6 =>
  bnd (sGuard v4 .true (lift (pIndexAddr 3 v83 v84) h6) h6) fun v85 h7 =>
  bnd (sGuard v4 .true (lift (pFieldAddr 0 v85) h7) h7) fun v86 h8 =>
  bnd (sGuard v4 .true (lift (pLoad1 I v86 h8) h8) h8) fun v87 h9 =>
  bnd (sGuard v4 .true (some (v8, h9)) h9) fun v88 h10 =>
  bnd (sGuard v4 .true (lift (pIndexAddr 2 v87 v88) h10) h10) fun v89 h11 =>
  bnd (sGuard v4 .true (lift (pLoadN I 2 v89 h11) h11) h11) fun v90 h12 =>
  bnd (sGuard v4 .true (call 41 [v79, v90] h12) h12) fun v91 h13 =>
  bndP (pPick v4 v91 (.bool .false)) fun v92 =>
  j.1.2.1.2.2.1 v0 v2 v92 v7 v8 h13
noncomputable def f19.b14 (I : Inp) (call : CallFn) (j : f19.Js) (v0 v2 v4 v7 v8 : AVal) (h : AHeap) : Rs :=
  bndP (pBin .add v8 (Z 1)) fun v76 =>
  j.1.2.1.1.2 v0 v2 v4 v7 v76 h
noncomputable def f19.b15 (I : Inp) (call : CallFn) (j : f19.Js) (v0 v2 v4 : AVal) (h : AHeap) : Rs :=
  j.2.1.1.1.2 v0 v2 v4 (Z 0) h
noncomputable def f19.b16 (I : Inp) (call : CallFn) (j : f19.Js) (v0 v2 v4 v9 : AVal) (h : AHeap) : Rs :=
  bndP (pNilCheck v0) fun v108 =>
  bndP (pFieldAddr 2 v108) fun v109 =>
  bndP (pLoad1 I v109 h) fun v110 =>
  bndP (pLenSl v110) fun v111 =>
  bndP (pBin .lss v9 v111) fun v112 =>
  sCond v112 (
  j.1.2.1.2.2.2 v0 v2 v4 h) (
  j.1.2.2.1.2.1 v0 v2 v4 v9 h)
noncomputable def f19.b17 (I : Inp) (call : CallFn) (j : f19.Js) (v0 v2 v4 v9 : AVal) (h : AHeap) : Rs :=
  j.1.2.2.2.1 v0 v2 v4 v9 (Z 0) h
noncomputable def f19.b18 (I : Inp) (call : CallFn) (j : f19.Js) (v0 v2 v4 v9 : AVal) (h : AHeap) : Rs :=
  bndP (pBin .add v9 (Z 1)) fun v114 =>
  j.1.2.2.1.1 v0 v2 v4 v114 h
noncomputable def f19.b19 (I : Inp) (call : CallFn) (j : f19.Js) (v0 v2 v4 v9 v10 : AVal) (h : AHeap) : Rs :=
  bndP (pNilCheck v0) fun v117 =>
  bndP (pFieldAddr 2 v117) fun v118 =>
  bndP (pLoad1 I v118 h) fun v119 =>
  bndP (pIndexAddr 1 v119 v9) fun v121 =>
  bndP (pFieldAddr 0 v121) fun v122 =>
  bndP (pLoad1 I v122 h) fun v123 =>
  bndP (pLenSl v123) fun v124 =>
  bndP (pBin .lss v10 v124) fun v125 =>
  sCond v125 (
  j.1.2.2.1.2.2 v0 v2 v4 v9 h) (
  j.1.2.2.2.2.1 v0 v2 v4 v9 v10 h)
noncomputable def f19.b20 (I : Inp) (call : CallFn) (j : f19.Js) (v0 v2 v4 v9 v10 : AVal) (h : AHeap) : Rs :=
  bnd (sGuard v4 .true (some (v0, h)) h) fun v130 h1 =>
  bnd (sGuard v4 .true (lift (pNilCheck v130) h1) h1) fun v131 h2 =>
  bnd (sGuard v4 .true (lift (pFieldAddr 2 v131) h2) h2) fun v132 h3 =>
  bnd (sGuard v4 .true (lift (pLoad1 I v132 h3) h3) h3) fun v133 h4 =>
  bnd (sGuard v4 .true (some (v9, h4)) h4) fun v134 h5 =>
  bnd (sGuard v4 .true (lift (pIndexAddr 1 v133 v134) h5) h5) fun v135 h6 =>
  bnd (sGuard v4 .true (lift (pFieldAddr 0 v135) h6) h6) fun v136 h7 =>
  bnd (sGuard v4 .true (lift (pLoad1 I v136 h7) h7) h7) fun v137 h8 =>
  bnd (sGuard v4 .true (some (v10, h8)) h8) fun v138 h9 =>
  bnd (sGuard v4 .true (lift (pIndexAddr 1 v137 v138) h9) h9) fun v139 h10 =>
  bnd (sGuard v4 .true (lift (pLoad1 I v139 h10) h10) h10) fun v140 h11 =>
  bnd (sGuard v4 .true (some (v0, h11)) h11) fun v141 h12 =>
  bnd (sGuard v4 .true (lift (pNilCheck v141) h12) h12) fun v142 h13 =>
  bnd (sGuard v4 .true (lift (pFieldAddr 1 v142) h13) h13) fun v143 h14 =>
  bnd (sGuard v4 .true (lift (pLoad1 I v143 h14) h14) h14) fun v144 h15 =>
  bnd (sGuard v4 .true (lift (pLenSl v144) h15) h15) fun v145 h16 =>
  bnd (sGuard v4 .true (call 42 [v140, v145] h16) h16) fun v146 h17 =>
  bndP (pPick v4 v146 (.bool .false)) fun v147 =>
  j.1.2.2.2.2.2 v0 v2 v147 v9 v10 h17
noncomputable def f19.b21 (I : Inp) (call : CallFn) (j : f19.Js) (v0 v2 v4 v9 v10 : AVal) (h : AHeap) : Rs :=
  bndP (pBin .add v10 (Z 1)) fun v127 =>
  j.1.2.2.2.1 v0 v2 v4 v9 v127 h
noncomputable def f19.b22 (I : Inp) (call : CallFn) (j : f19.Js) (v0 v2 v4 : AVal) (h : AHeap) : Rs :=
  bndP (pUn .not v4) fun v207 =>
  sCond v207 (
  j.2.1.2.1.2.2 v0 v2 h) (
  bnd (call 17 [] h) fun v208 h1 =>
  bnd (sStore 3 v2 v208 h1) fun _ h2 =>
  sRet (sCons (sResN I 3 v2 h2) (sCons (some (.bool .false)) (some []))) h2)
noncomputable def f19.b23 (I : Inp) (call : CallFn) (j : f19.Js) (v0 v2 v4 v11 : AVal) (h : AHeap) : Rs :=
  bndP (pNilCheck v0) fun v150 =>
  bndP (pFieldAddr 3 v150) fun v151 =>
  bndP (pLoad1 I v151 h) fun v152 =>
  bndP (pLenSl v152) fun v153 =>
  bndP (pBin .lss v11 v153) fun v154 =>
  sCond v154 (
  j.2.1.1.1.1 v0 v2 v4 h) (
  j.2.1.1.2.1 v0 v2 v4 v11 h)
noncomputable def f19.b24 (I : Inp) (call : CallFn) (j : f19.Js) (v0 v2 v4 v11 : AVal) (h : AHeap) : Rs :=
  bndP (pNilCheck v0) fun v158 =>
  bndP (pFieldAddr 3 v158) fun v159 =>
  bndP (pLoad1 I v159 h) fun v160 =>
  bndP (pIndexAddr 3 v160 v11) fun v162 =>
  bndP (pLoadN I 3 v162 h) fun v163 =>
  bnd (sAlloc [(Z 0), (Z 0), .nils] h) fun v12 h1 =>
  bnd (sStore 3 v12 v163 h1) fun _ h2 =>
  bnd (sGuard v4 .true (lift (pFieldAddr 0 v12) h2) h2) fun v166 h3 =>
  bnd (sGuard v4 .true (lift (pLoad1 I v166 h3) h3) h3) fun v167 h4 =>
  bnd (sGuard v4 .true (some (v0, h4)) h4) fun v168 h5 =>
  bnd (sGuard v4 .true (lift (pNilCheck v168) h5) h5) fun v169 h6 =>
  bnd (sGuard v4 .true (lift (pFieldAddr 0 v169) h6) h6) fun v170 h7 =>
  bnd (sGuard v4 .true (lift (pLoad1 I v170 h7) h7) h7) fun v171 h8 =>
  bnd (sGuard v4 .true (lift (pLenSl v171) h8) h8) fun v172 h9 =>
  bnd (sGuard v4 .true (call 42 [v167, v172] h9) h9) fun v173 h10 =>
  bndP (pPick v4 v173 (.bool .false)) fun v174 =>
  bnd (sGuard v174 .true (lift (pFieldAddr 1 v12) h10) h10) fun v176 h11 =>
  bnd (sGuard v174 .true (lift (pLoad1 I v176 h11) h11) h11) fun v177 h12 =>
  bnd (sGuard v174 .true (some (v0, h12)) h12) fun v178 h13 =>
  bnd (sGuard v174 .true (lift (pNilCheck v178) h13) h13) fun v179 h14 =>
  bnd (sGuard v174 .true (lift (pFieldAddr 2 v179) h14) h14) fun v180 h15 =>
  bnd (sGuard v174 .true (lift (pLoad1 I v180 h15) h15) h15) fun v181 h16 =>
  bnd (sGuard v174 .true (lift (pLenSl v181) h16) h16) fun v182 h17 =>
  bnd (sGuard v174 .true (call 42 [v177, v182] h17) h17) fun v183 h18 =>
  bndP (pPick v174 v183 (.bool .false)) fun v184 =>
  j.2.1.1.2.2.2 v0 v2 v184 v11 v12 (Z 0) h18
noncomputable def f19.b25 (I : Inp) (call : CallFn) (j : f19.Js) (v0 v2 v4 v11 : AVal) (h : AHeap) : Rs :=
  bndP (pBin .add v11 (Z 1)) fun v156 =>
  j.2.1.1.1.2 v0 v2 v4 v156 h
noncomputable def f19.b26 (I : Inp) (call : CallFn) (j : f19.Js) (v0 v2 v4 v11 v12 v13 : AVal) (h : AHeap) : Rs :=
  bndP (pFieldAddr 2 v12) fun v186 =>
  bndP (pLoad1 I v186 h) fun v187 =>
  bndP (pLenSl v187) fun v188 =>
  bndP (pBin .lss v13 v188) fun v189 =>
  sCond v189 (
  j.2.1.1.2.2.1 v0 v2 v4 v11 h) (
  j.2.1.2.1.1 v0 v2 v4 v11 v12 v13 h)
noncomputable def f19.b27 (I : Inp) (call : CallFn) (j : f19.Js) (v0 v2 v4 v11 v12 v13 : AVal) (h : AHeap) : Rs :=
  bnd (sGuard v4 .true (lift (pFieldAddr 2 v12) h) h) fun v194 h1 =>
  bnd (sGuard v4 .true (lift (pLoad1 I v194 h1) h1) h1) fun v195 h2 =>
  bnd (sGuard v4 .true (some (v13, h2)) h2) fun v196 h3 =>
  bnd (sGuard v4 .true (lift (pIndexAddr 1 v195 v196) h3) h3) fun v197 h4 =>
  bnd (sGuard v4 .true (lift (pLoad1 I v197 h4) h4) h4) fun v198 h5 =>
  bnd (sGuard v4 .true (some (v0, h5)) h5) fun v199 h6 =>
  bnd (sGuard v4 .true (lift (pNilCheck v199) h6) h6) fun v200 h7 =>
  bnd (sGuard v4 .true (lift (pFieldAddr 4 v200) h7) h7) fun v201 h8 =>
  bnd (sGuard v4 .true (lift (pLoad1 I v201 h8) h8) h8) fun v202 h9 =>
  bnd (sGuard v4 .true (lift (pLenSl v202) h9) h9) fun v203 h10 =>
  bnd (sGuard v4 .true (call 42 [v198, v203] h10) h10) fun v204 h11 =>
  bndP (pPick v4 v204 (.bool .false)) fun v205 =>
  j.2.1.2.1.2.1 v0 v2 v205 v11 v12 v13 h11
noncomputable def f19.b28 (I : Inp) (call : CallFn) (j : f19.Js) (v0 v2 v4 v11 v12 v13 : AVal) (h : AHeap) : Rs :=
  bndP (pBin .add v13 (Z 1)) fun v191 =>
  j.2.1.1.2.2.2 v0 v2 v4 v11 v12 v191 h
noncomputable def f19.b29 (I : Inp) (call : CallFn) (j : f19.Js) (v0 v2 : AVal) (h : AHeap) : Rs :=
  j.2.1.2.2.2.1 v0 v2 (Z 0) h
noncomputable def f19.b30 (I : Inp) (call : CallFn) (j : f19.Js) (v0 v2 : AVal) (h : AHeap) : Rs :=
  bnd (call 17 [] h) fun v320 h1 =>
  bndP (pNilCheck v0) fun v322 =>
  bndP (pFieldAddr 5 v322) fun v323 =>
  bndP (pLoad1 I v323 h1) fun v324 =>
  bndP (pNilCheck v0) fun v326 =>
  bndP (pFieldAddr 4 v326) fun v327 =>
  bndP (pLoad1 I v327 h1) fun v328 =>
  bndP (pLenSl v328) fun v329 =>
  bnd (call 42 [v324, v329] h1) fun v330 h2 =>
  bnd (sStore 3 v2 v320 h2) fun _ h3 =>
  sCheck (sSame (lift (pLoad1 I v323 h) h) v324 && true) (
  sCheck (sSame (lift (pLoad1 I v327 h) h) v328 && true) (
  sRet (sCons (sResN I 3 v2 h3) (sCons (some v330) (some []))) h3))
noncomputable def f19.b31 (I : Inp) (call : CallFn) (j : f19.Js) (v0 v2 v14 : AVal) (h : AHeap) : Rs :=
  bndP (pNilCheck v0) fun v211 =>
  bndP (pFieldAddr 4 v211) fun v212 =>
  bndP (pLoad1 I v212 h) fun v213 =>
  bndP (pLenSl v213) fun v214 =>
  bndP (pBin .lss v14 v214) fun v215 =>
  sCond v215 (
  j.2.1.2.2.1 v0 v2 h) (
  j.2.1.2.2.2.2 v0 v2 v14 h)
noncomputable def f19.b32 (I : Inp) (call : CallFn) (j : f19.Js) (v0 v2 v14 : AVal) (h : AHeap) : Rs :=
  bndP (pNilCheck v0) fun v219 =>
  bndP (pFieldAddr 4 v219) fun v220 =>
  bndP (pLoad1 I v220 h) fun v221 =>
  bndP (pIndexAddr 3 v221 v14) fun v223 =>
  bndP (pLoadN I 3 v223 h) fun v224 =>
  bnd (sAlloc [(Z 0), .nils, .nils] h) fun v15 h1 =>
  bnd (sStore 3 v15 v224 h1) fun _ h2 =>
  bndP (pFieldAddr 0 v15) fun v225 =>
  bndP (pLoad1 I v225 h2) fun v226 =>
  bndP (pNilCheck v0) fun v228 =>
  bndP (pFieldAddr 1 v228) fun v229 =>
  bndP (pLoad1 I v229 h2) fun v230 =>
  bndP (pLenSl v230) fun v231 =>
  bnd (call 42 [v226, v231] h2) fun v232 h3 =>
  j.2.2.1.1.2.2 v0 v2 v232 v14 v15 (Z 0) h3
noncomputable def f19.b33 (I : Inp) (call : CallFn) (j : f19.Js) (v0 v2 v14 : AVal) (h : AHeap) : Rs :=
  bndP (pBin .add v14 (Z 1)) fun v217 =>
  j.2.1.2.2.2.1 v0 v2 v217 h
noncomputable def f19.b34 (I : Inp) (call : CallFn) (j : f19.Js) (v0 v2 v4 v14 v15 : AVal) (h : AHeap) : Rs :=
  bndP (pUn .not v4) fun v251 =>
  sCond v251 (
  j.2.2.1.2.2.2 v0 v2 v14 v15 h) (
  bnd (call 17 [] h) fun v252 h1 =>
  bnd (sStore 3 v2 v252 h1) fun _ h2 =>
  sRet (sCons (sResN I 3 v2 h2) (sCons (some (.bool .false)) (some []))) h2)
noncomputable def f19.b35 (I : Inp) (call : CallFn) (j : f19.Js) (v0 v2 v4 v14 v15 v16 : AVal) (h : AHeap) : Rs :=
  bndP (pFieldAddr 1 v15) fun v234 =>
  bndP (pLoad1 I v234 h) fun v235 =>
  bndP (pLenSl v235) fun v236 =>
  bndP (pBin .lss v16 v236) fun v237 =>
  sCond v237 (
  j.2.2.1.1.2.1 v0 v2 v4 v14 v15 h) (
  j.2.2.1.2.1 v0 v2 v4 v14 v15 v16 h)
noncomputable def f19.b36 (I : Inp) (call : CallFn) (j : f19.Js) (v0 v2 v4 v14 v15 v16 : AVal) (h : AHeap) : Rs :=
  bnd (sGuard v4 .true (some (v0, h)) h) fun v242 h1 =>
  bnd (sGuard v4 .true (lift (pFieldAddr 1 v15) h1) h1) fun v243 h2 =>
  bnd (sGuard v4 .true (lift (pLoad1 I v243 h2) h2) h2) fun v244 h3 =>
  bnd (sGuard v4 .true (some (v16, h3)) h3) fun v245 h4 =>
  bnd (sGuard v4 .true (lift (pIndexAddr 2 v244 v245) h4) h4) fun v246 h5 =>
  bnd (sGuard v4 .true (lift (pLoadN I 2 v246 h5) h5) h5) fun v247 h6 =>
  bnd (sGuard v4 .true (call 41 [v242, v247] h6) h6) fun v248 h7 =>
  bndP (pPick v4 v248 (.bool .false)) fun v249 =>
  j.2.2.1.2.2.1 v0 v2 v249 v14 v15 v16 h7
noncomputable def f19.b37 (I : Inp) (call : CallFn) (j : f19.Js) (v0 v2 v4 v14 v15 v16 : AVal) (h : AHeap) : Rs :=
  bndP (pBin .add v16 (Z 1)) fun v239 =>
  j.2.2.1.1.2.2 v0 v2 v4 v14 v15 v239 h
noncomputable def f19.b38 (I : Inp) (call : CallFn) (j : f19.Js) (v0 v2 v14 v15 : AVal) (h : AHeap) : Rs :=
  j.2.2.2.1.1 v0 v2 v14 v15 (Z 0) h
noncomputable def f19.b39 (I : Inp) (call : CallFn) (j : f19.Js) (v0 v2 v14 v15 v17 : AVal) (h : AHeap) : Rs :=
  bndP (pFieldAddr 2 v15) fun v254 =>
  bndP (pLoad1 I v254 h) fun v255 =>
  bndP (pLenSl v255) fun v256 =>
  bndP (pBin .lss v17 v256) fun v257 =>
  sCond v257 (
  j.2.2.1.1.1 v0 v2 v14 h) (
  j.2.2.2.1.2.1 v0 v2 v14 v15 v17 h)
noncomputable def f19.b40 (I : Inp) (call : CallFn) (j : f19.Js) (v0 v2 v14 v15 v17 : AVal) (h : AHeap) : Rs :=
  j.2.2.2.2.1 v0 v2 v14 v15 v17 (Z 0) h
noncomputable def f19.b41 (I : Inp) (call : CallFn) (j : f19.Js) (v0 v2 v14 v15 v17 : AVal) (h : AHeap) : Rs :=
  bndP (pBin .add v17 (Z 1)) fun v259 =>
  j.2.2.2.1.1 v0 v2 v14 v15 v259 h
noncomputable def f19.b42 (I : Inp) (call : CallFn) (j : f19.Js) (v0 v2 v14 v15 v17 v18 : AVal) (h : AHeap) : Rs :=
  bndP (pFieldAddr 2 v15) fun v261 =>
  bndP (pLoad1 I v261 h) fun v262 =>
  bndP (pIndexAddr 5 v262 v17) fun v264 =>
  bndP (pFieldAddr 0 v264) fun v265 =>
  bndP (pLoad1 I v265 h) fun v266 =>
  bndP (pLenSl v266) fun v267 =>
  bndP (pBin .leq v18 v267) fun v268 =>
  sCond v268 (
  j.2.2.2.1.2.2 v0 v2 v14 v15 v17 h) (
  j.2.2.2.2.2.1 v0 v2 v14 v15 v17 v18 h)
noncomputable def f19.b43 (I : Inp) (call : CallFn) (j : f19.Js) (v0 v2 v14 v15 v17 v18 : AVal) (h : AHeap) : Rs :=
  bndP (pFieldAddr 2 v15) fun v272 =>
  bndP (pLoad1 I v272 h) fun v273 =>
  bndP (pIndexAddr 5 v273 v17) fun v275 =>
  bndP (pFieldAddr 0 v275) fun v276 =>
  bndP (pLoad1 I v276 h) fun v277 =>
  bndP (pLenSl v277) fun v278 =>
  bndP (pBin .lss v18 v278) fun v279 =>
  bnd (sGuard v279 .true (some (v0, h)) h) fun v281 h1 =>
  bnd (sGuard v279 .true (lift (pLoadN I 3 v15 h1) h1) h1) fun v282 h2 =>
  bnd (sGuard v279 .true (lift (pFieldAddr 2 v15) h2) h2) fun v283 h3 =>
  bnd (sGuard v279 .true (lift (pLoad1 I v283 h3) h3) h3) fun v284 h4 =>
  bnd (sGuard v279 .true (some (v17, h4)) h4) fun v285 h5 =>
  bnd (sGuard v279 .true (lift (pIndexAddr 5 v284 v285) h5) h5) fun v286 h6 =>
  bnd (sGuard v279 .true (lift (pFieldAddr 0 v286) h6) h6) fun v287 h7 =>
  bnd (sGuard v279 .true (lift (pLoad1 I v287 h7) h7) h7) fun v288 h8 =>
  bnd (sGuard v279 .true (some (v18, h8)) h8) fun v289 h9 =>
  bnd (sGuard v279 .true (lift (pIndexAddr 6 v288 v289) h9) h9) fun v290 h10 =>
  bnd (sGuard v279 .true (lift (pLoadN I 6 v290 h10) h10) h10) fun v291 h11 =>
  bnd (sGuard v279 .true (call 33 [v281, v282, v291] h11) h11) fun v292 h12 =>
  bnd (sGuard v279 .true (lift (pUn .not v292) h12) h12) fun v293 h13 =>
  bndP (pPick v279 v293 (.bool .false)) fun v294 =>
  bnd (sGuard v294 .false (some (v18, h13)) h13) fun v296 h14 =>
  bnd (sGuard v294 .false (lift (pFieldAddr 2 v15) h14) h14) fun v297 h15 =>
  bnd (sGuard v294 .false (lift (pLoad1 I v297 h15) h15) h15) fun v298 h16 =>
  bnd (sGuard v294 .false (some (v17, h16)) h16) fun v299 h17 =>
  bnd (sGuard v294 .false (lift (pIndexAddr 5 v298 v299) h17) h17) fun v300 h18 =>
  bnd (sGuard v294 .false (lift (pFieldAddr 0 v300) h18) h18) fun v301 h19 =>
  bnd (sGuard v294 .false (lift (pLoad1 I v301 h19) h19) h19) fun v302 h20 =>
  bnd (sGuard v294 .false (lift (pLenSl v302) h20) h20) fun v303 h21 =>
  bnd (sGuard v294 .false (lift (pBin .eql v296 v303) h21) h21) fun v304 h22 =>
  bnd (sGuard v294 .false (some (v304, h22)) h22) fun v305 h23 =>
  bnd (sGuard v305 .true (lift (pLoadN I 3 v15 h23) h23) h23) fun v306 h24 =>
  bnd (sGuard v305 .true (lift (pFieldAddr 2 v15) h24) h24) fun v307 h25 =>
  bnd (sGuard v305 .true (lift (pLoad1 I v307 h25) h25) h25) fun v308 h26 =>
  bnd (sGuard v305 .true (some (v17, h26)) h26) fun v309 h27 =>
  bnd (sGuard v305 .true (lift (pIndexAddr 5 v308 v309) h27) h27) fun v310 h28 =>
  bnd (sGuard v305 .true (lift (pLoadN I 5 v310 h28) h28) h28) fun v311 h29 =>
  bnd (sGuard v305 .true (call 43 [v306, v311] h29) h29) fun v312 h30 =>
  bnd (sGuard v305 .true (lift (pUn .not v312) h30) h30) fun v313 h31 =>
  bnd (sGuard v294 .false (lift (pPick v305 v313 (.bool .false)) h31) h31) fun v314 h32 =>
  bndP (pPick v294 (.bool .true) v314) fun v315 =>
  sCond v315 (
  j.2.2.2.2.2.2 v0 v2 v14 v15 v17 v18 h32) (
  bndP (pBuild [(Z 0), (Z 0), (Z 0)] [(0, 1, v14), (1, 1, v17), (2, 1, v18)]) fun v319 =>
  bnd (sStore 3 v2 v319 h32) fun _ h33 =>
  sRet (sCons (sResN I 3 v2 h33) (sCons (some (.bool .false)) (some []))) h33)
noncomputable def f19.b44 (I : Inp) (call : CallFn) (j : f19.Js) (v0 v2 v14 v15 v17 v18 : AVal) (h : AHeap) : Rs :=
  bndP (pBin .add v18 (Z 1)) fun v270 =>
  j.2.2.2.2.1 v0 v2 v14 v15 v17 v270 h
noncomputable def f19.e (I : Inp) (call : CallFn) (j : f19.Js) (v0 : AVal) (h : AHeap) : Rs :=
  bnd (sAlloc [(Z 0), (Z 0), (Z 0)] h) fun v2 h1 =>
  j.1.1.1.1.2 v0 v2 (.bool .true) (Z 0) h1
noncomputable def f19.J (I : Inp) (call : CallFn) (n : Nat) : f19.Js :=
  Nat.rec (motive := fun _ => f19.Js) ((((((fun _ _ _ _ => none), (fun _ _ _ _ _ => none)), ((fun _ _ _ _ _ => none), ((fun _ _ _ _ _ => none), (fun _ _ _ _ _ _ => none)))), (((fun _ _ _ _ _ _ => none), ((fun _ _ _ _ _ _ => none), (fun _ _ _ _ => none))), ((fun _ _ _ _ _ => none), ((fun _ _ _ _ _ => none), (fun _ _ _ _ _ => none))))), ((((fun _ _ _ _ _ => none), (fun _ _ _ _ _ _ => none)), ((fun _ _ _ _ _ _ => none), ((fun _ _ _ _ _ _ => none), (fun _ _ _ _ => none)))), (((fun _ _ _ _ _ => none), ((fun _ _ _ _ _ => none), (fun _ _ _ _ _ => none))), ((fun _ _ _ _ _ _ => none), ((fun _ _ _ _ _ _ => none), (fun _ _ _ _ _ _ => none)))))), (((((fun _ _ _ _ => none), (fun _ _ _ _ _ => none)), ((fun _ _ _ _ _ => none), ((fun _ _ _ _ _ => none), (fun _ _ _ _ _ _ _ => none)))), (((fun _ _ _ _ _ _ _ => none), ((fun _ _ _ _ _ _ _ => none), (fun _ _ _ => none))), ((fun _ _ _ => none), ((fun _ _ _ _ => none), (fun _ _ _ _ => none))))), ((((fun _ _ _ _ => none), ((fun _ _ _ _ _ _ => none), (fun _ _ _ _ _ _ _ => none))), ((fun _ _ _ _ _ _ _ => none), ((fun _ _ _ _ _ _ _ => none), (fun _ _ _ _ _ => none)))), (((fun _ _ _ _ _ _ => none), ((fun _ _ _ _ _ _ => none), (fun _ _ _ _ _ _ => none))), ((fun _ _ _ _ _ _ _ => none), ((fun _ _ _ _ _ _ _ => none), (fun _ _ _ _ _ _ _ => none))))))) (fun _ ih => (((((f19.b0 I call ih, f19.b1 I call ih), (f19.b2 I call ih, (f19.b3 I call ih, f19.b4 I call ih))), ((f19.b5 I call ih, (f19.b6 I call ih, f19.b7 I call ih)), (f19.b8 I call ih, (f19.b9 I call ih, f19.b10 I call ih)))), (((f19.b11 I call ih, f19.b12 I call ih), (f19.b13 I call ih, (f19.b14 I call ih, f19.b15 I call ih))), ((f19.b16 I call ih, (f19.b17 I call ih, f19.b18 I call ih)), (f19.b19 I call ih, (f19.b20 I call ih, f19.b21 I call ih))))), ((((f19.b22 I call ih, f19.b23 I call ih), (f19.b24 I call ih, (f19.b25 I call ih, f19.b26 I call ih))), ((f19.b27 I call ih, (f19.b28 I call ih, f19.b29 I call ih)), (f19.b30 I call ih, (f19.b31 I call ih, f19.b32 I call ih)))), (((f19.b33 I call ih, (f19.b34 I call ih, f19.b35 I call ih)), (f19.b36 I call ih, (f19.b37 I call ih, f19.b38 I call ih))), ((f19.b39 I call ih, (f19.b40 I call ih, f19.b41 I call ih)), (f19.b42 I call ih, (f19.b43 I call ih, f19.b44 I call ih))))))) n
theorem f19.n0 (I : Inp) (call : CallFn) (n : Nat) : (f19.J I call (n + 1)).1.1.1.1.1 = f19.b0 I call (f19.J I call n) := Eq.trans rfl rfl
theorem f19.n1 (I : Inp) (call : CallFn) (n : Nat) : (f19.J I call (n + 1)).1.1.1.1.2 = f19.b1 I call (f19.J I call n) := Eq.trans rfl rfl
theorem f19.n2 (I : Inp) (call : CallFn) (n : Nat) : (f19.J I call (n + 1)).1.1.1.2.1 = f19.b2 I call (f19.J I call n) := Eq.trans rfl rfl
theorem f19.n3 (I : Inp) (call : CallFn) (n : Nat) : (f19.J I call (n + 1)).1.1.1.2.2.1 = f19.b3 I call (f19.J I call n) := Eq.trans rfl rfl
theorem f19.n4 (I : Inp) (call : CallFn) (n : Nat) : (f19.J I call (n + 1)).1.1.1.2.2.2 = f19.b4 I call (f19.J I call n) := Eq.trans rfl rfl
theorem f19.n5 (I : Inp) (call : CallFn) (n : Nat) : (f19.J I call (n + 1)).1.1.2.1.1 = f19.b5 I call (f19.J I call n) := Eq.trans rfl rfl
theorem f19.n6 (I : Inp) (call : CallFn) (n : Nat) : (f19.J I call (n + 1)).1.1.2.1.2.1 = f19.b6 I call (f19.J I call n) := Eq.trans rfl rfl
theorem f19.n7 (I : Inp) (call : CallFn) (n : Nat) : (f19.J I call (n + 1)).1.1.2.1.2.2 = f19.b7 I call (f19.J I call n) := Eq.trans rfl rfl
theorem f19.n8 (I : Inp) (call : CallFn) (n : Nat) : (f19.J I call (n + 1)).1.1.2.2.1 = f19.b8 I call (f19.J I call n) := Eq.trans rfl rfl
theorem f19.n9 (I : Inp) (call : CallFn) (n : Nat) : (f19.J I call (n + 1)).1.1.2.2.2.1 = f19.b9 I call (f19.J I call n) := Eq.trans rfl rfl
theorem f19.n10 (I : Inp) (call : CallFn) (n : Nat) : (f19.J I call (n + 1)).1.1.2.2.2.2 = f19.b10 I call (f19.J I call n) := Eq.trans rfl rfl
theorem f19.n11 (I : Inp) (call : CallFn) (n : Nat) : (f19.J I call (n + 1)).1.2.1.1.1 = f19.b11 I call (f19.J I call n) := Eq.trans rfl rfl
theorem f19.n12 (I : Inp) (call : CallFn) (n : Nat) : (f19.J I call (n + 1)).1.2.1.1.2 = f19.b12 I call (f19.J I call n) := Eq.trans rfl rfl
theorem f19.n13 (I : Inp) (call : CallFn) (n : Nat) : (f19.J I call (n + 1)).1.2.1.2.1 = f19.b13 I call (f19.J I call n) := Eq.trans rfl rfl
theorem f19.n14 (I : Inp) (call : CallFn) (n : Nat) : (f19.J I call (n + 1)).1.2.1.2.2.1 = f19.b14 I call (f19.J I call n) := Eq.trans rfl rfl
theorem f19.n15 (I : Inp) (call : CallFn) (n : Nat) : (f19.J I call (n + 1)).1.2.1.2.2.2 = f19.b15 I call (f19.J I call n) := Eq.trans rfl rfl
theorem f19.n16 (I : Inp) (call : CallFn) (n : Nat) : (f19.J I call (n + 1)).1.2.2.1.1 = f19.b16 I call (f19.J I call n) := Eq.trans rfl rfl
theorem f19.n17 (I : Inp) (call : CallFn) (n : Nat) : (f19.J I call (n + 1)).1.2.2.1.2.1 = f19.b17 I call (f19.J I call n) := Eq.trans rfl rfl
theorem f19.n18 (I : Inp) (call : CallFn) (n : Nat) : (f19.J I call (n + 1)).1.2.2.1.2.2 = f19.b18 I call (f19.J I call n) := Eq.trans rfl rfl
theorem f19.n19 (I : Inp) (call : CallFn) (n : Nat) : (f19.J I call (n + 1)).1.2.2.2.1 = f19.b19 I call (f19.J I call n) := Eq.trans rfl rfl
theorem f19.n20 (I : Inp) (call : CallFn) (n : Nat) : (f19.J I call (n + 1)).1.2.2.2.2.1 = f19.b20 I call (f19.J I call n) := Eq.trans rfl rfl
theorem f19.n21 (I : Inp) (call : CallFn) (n : Nat) : (f19.J I call (n + 1)).1.2.2.2.2.2 = f19.b21 I call (f19.J I call n) := Eq.trans rfl rfl
theorem f19.n22 (I : Inp) (call : CallFn) (n : Nat) : (f19.J I call (n + 1)).2.1.1.1.1 = f19.b22 I call (f19.J I call n) := Eq.trans rfl rfl
theorem f19.n23 (I : Inp) (call : CallFn) (n : Nat) : (f19.J I call (n + 1)).2.1.1.1.2 = f19.b23 I call (f19.J I call n) := Eq.trans rfl rfl
theorem f19.n24 (I : Inp) (call : CallFn) (n : Nat) : (f19.J I call (n + 1)).2.1.1.2.1 = f19.b24 I call (f19.J I call n) := Eq.trans rfl rfl
theorem f19.n25 (I : Inp) (call : CallFn) (n : Nat) : (f19.J I call (n + 1)).2.1.1.2.2.1 = f19.b25 I call (f19.J I call n) := Eq.trans rfl rfl
theorem f19.n26 (I : Inp) (call : CallFn) (n : Nat) : (f19.J I call (n + 1)).2.1.1.2.2.2 = f19.b26 I call (f19.J I call n) := Eq.trans rfl rfl
theorem f19.n27 (I : Inp) (call : CallFn) (n : Nat) : (f19.J I call (n + 1)).2.1.2.1.1 = f19.b27 I call (f19.J I call n) := Eq.trans rfl rfl
theorem f19.n28 (I : Inp) (call : CallFn) (n : Nat) : (f19.J I call (n + 1)).2.1.2.1.2.1 = f19.b28 I call (f19.J I call n) := Eq.trans rfl rfl
theorem f19.n29 (I : Inp) (call : CallFn) (n : Nat) : (f19.J I call (n + 1)).2.1.2.1.2.2 = f19.b29 I call (f19.J I call n) := Eq.trans rfl rfl
theorem f19.n30 (I : Inp) (call : CallFn) (n : Nat) : (f19.J I call (n + 1)).2.1.2.2.1 = f19.b30 I call (f19.J I call n) := Eq.trans rfl rfl
theorem f19.n31 (I : Inp) (call : CallFn) (n : Nat) : (f19.J I call (n + 1)).2.1.2.2.2.1 = f19.b31 I call (f19.J I call n) := Eq.trans rfl rfl
theorem f19.n32 (I : Inp) (call : CallFn) (n : Nat) : (f19.J I call (n + 1)).2.1.2.2.2.2 = f19.b32 I call (f19.J I call n) := Eq.trans rfl rfl
theorem f19.n33 (I : Inp) (call : CallFn) (n : Nat) : (f19.J I call (n + 1)).2.2.1.1.1 = f19.b33 I call (f19.J I call n) := Eq.trans rfl rfl
theorem f19.n34 (I : Inp) (call : CallFn) (n : Nat) : (f19.J I call (n + 1)).2.2.1.1.2.1 = f19.b34 I call (f19.J I call n) := Eq.trans rfl rfl
theorem f19.n35 (I : Inp) (call : CallFn) (n : Nat) : (f19.J I call (n + 1)).2.2.1.1.2.2 = f19.b35 I call (f19.J I call n) := Eq.trans rfl rfl
theorem f19.n36 (I : Inp) (call : CallFn) (n : Nat) : (f19.J I call (n + 1)).2.2.1.2.1 = f19.b36 I call (f19.J I call n) := Eq.trans rfl rfl
theorem f19.n37 (I : Inp) (call : CallFn) (n : Nat) : (f19.J I call (n + 1)).2.2.1.2.2.1 = f19.b37 I call (f19.J I call n) := Eq.trans rfl rfl
theorem f19.n38 (I : Inp) (call : CallFn) (n : Nat) : (f19.J I call (n + 1)).2.2.1.2.2.2 = f19.b38 I call (f19.J I call n) := Eq.trans rfl rfl
theorem f19.n39 (I : Inp) (call : CallFn) (n : Nat) : (f19.J I call (n + 1)).2.2.2.1.1 = f19.b39 I call (f19.J I call n) := Eq.trans rfl rfl
theorem f19.n40 (I : Inp) (call : CallFn) (n : Nat) : (f19.J I call (n + 1)).2.2.2.1.2.1 = f19.b40 I call (f19.J I call n) := Eq.trans rfl rfl
theorem f19.n41 (I : Inp) (call : CallFn) (n : Nat) : (f19.J I call (n + 1)).2.2.2.1.2.2 = f19.b41 I call (f19.J I call n) := Eq.trans rfl rfl
theorem f19.n42 (I : Inp) (call : CallFn) (n : Nat) : (f19.J I call (n + 1)).2.2.2.2.1 = f19.b42 I call (f19.J I call n) := Eq.trans rfl rfl
theorem f19.n43 (I : Inp) (call : CallFn) (n : Nat) : (f19.J I call (n + 1)).2.2.2.2.2.1 = f19.b43 I call (f19.J I call n) := Eq.trans rfl rfl
theorem f19.n44 (I : Inp) (call : CallFn) (n : Nat) : (f19.J I call (n + 1)).2.2.2.2.2.2 = f19.b44 I call (f19.J I call n) := Eq.trans rfl rfl
noncomputable def f19.JS (I : Inp) (call : CallFn) (n : Nat) : Jmp := fun id ρ h =>
  (Bool.rec (motive := fun _ => _) (Bool.rec (motive := fun _ => _) (Bool.rec (motive := fun _ => _) (Bool.rec (motive := fun _ => _) (Bool.rec (motive := fun _ => _) (Bool.rec (motive := fun _ => _) ((f19.J I call n).2.2.2.2.2.2 (ρ 0) (ρ 2) (ρ 14) (ρ 15) (ρ 17) (ρ 18) h) ((f19.J I call n).2.2.2.2.2.1 (ρ 0) (ρ 2) (ρ 14) (ρ 15) (ρ 17) (ρ 18) h) (Nat.blt id 44)) ((f19.J I call n).2.2.2.2.1 (ρ 0) (ρ 2) (ρ 14) (ρ 15) (ρ 17) (ρ 18) h) (Nat.blt id 43)) (Bool.rec (motive := fun _ => _) (Bool.rec (motive := fun _ => _) ((f19.J I call n).2.2.2.1.2.2 (ρ 0) (ρ 2) (ρ 14) (ρ 15) (ρ 17) h) ((f19.J I call n).2.2.2.1.2.1 (ρ 0) (ρ 2) (ρ 14) (ρ 15) (ρ 17) h) (Nat.blt id 41)) ((f19.J I call n).2.2.2.1.1 (ρ 0) (ρ 2) (ρ 14) (ρ 15) (ρ 17) h) (Nat.blt id 40)) (Nat.blt id 42)) (Bool.rec (motive := fun _ => _) (Bool.rec (motive := fun _ => _) (Bool.rec (motive := fun _ => _) ((f19.J I call n).2.2.1.2.2.2 (ρ 0) (ρ 2) (ρ 14) (ρ 15) h) ((f19.J I call n).2.2.1.2.2.1 (ρ 0) (ρ 2) (ρ 4) (ρ 14) (ρ 15) (ρ 16) h) (Nat.blt id 38)) ((f19.J I call n).2.2.1.2.1 (ρ 0) (ρ 2) (ρ 4) (ρ 14) (ρ 15) (ρ 16) h) (Nat.blt id 37)) (Bool.rec (motive := fun _ => _) (Bool.rec (motive := fun _ => _) ((f19.J I call n).2.2.1.1.2.2 (ρ 0) (ρ 2) (ρ 4) (ρ 14) (ρ 15) (ρ 16) h) ((f19.J I call n).2.2.1.1.2.1 (ρ 0) (ρ 2) (ρ 4) (ρ 14) (ρ 15) h) (Nat.blt id 35)) ((f19.J I call n).2.2.1.1.1 (ρ 0) (ρ 2) (ρ 14) h) (Nat.blt id 34)) (Nat.blt id 36)) (Nat.blt id 39)) (Bool.rec (motive := fun _ => _) (Bool.rec (motive := fun _ => _) (Bool.rec (motive := fun _ => _) (Bool.rec (motive := fun _ => _) ((f19.J I call n).2.1.2.2.2.2 (ρ 0) (ρ 2) (ρ 14) h) ((f19.J I call n).2.1.2.2.2.1 (ρ 0) (ρ 2) (ρ 14) h) (Nat.blt id 32)) ((f19.J I call n).2.1.2.2.1 (ρ 0) (ρ 2) h) (Nat.blt id 31)) (Bool.rec (motive := fun _ => _) (Bool.rec (motive := fun _ => _) ((f19.J I call n).2.1.2.1.2.2 (ρ 0) (ρ 2) h) ((f19.J I call n).2.1.2.1.2.1 (ρ 0) (ρ 2) (ρ 4) (ρ 11) (ρ 12) (ρ 13) h) (Nat.blt id 29)) ((f19.J I call n).2.1.2.1.1 (ρ 0) (ρ 2) (ρ 4) (ρ 11) (ρ 12) (ρ 13) h) (Nat.blt id 28)) (Nat.blt id 30)) (Bool.rec (motive := fun _ => _) (Bool.rec (motive := fun _ => _) (Bool.rec (motive := fun _ => _) ((f19.J I call n).2.1.1.2.2.2 (ρ 0) (ρ 2) (ρ 4) (ρ 11) (ρ 12) (ρ 13) h) ((f19.J I call n).2.1.1.2.2.1 (ρ 0) (ρ 2) (ρ 4) (ρ 11) h) (Nat.blt id 26)) ((f19.J I call n).2.1.1.2.1 (ρ 0) (ρ 2) (ρ 4) (ρ 11) h) (Nat.blt id 25)) (Bool.rec (motive := fun _ => _) ((f19.J I call n).2.1.1.1.2 (ρ 0) (ρ 2) (ρ 4) (ρ 11) h) ((f19.J I call n).2.1.1.1.1 (ρ 0) (ρ 2) (ρ 4) h) (Nat.blt id 23)) (Nat.blt id 24)) (Nat.blt id 27)) (Nat.blt id 33)) (Bool.rec (motive := fun _ => _) (Bool.rec (motive := fun _ => _) (Bool.rec (motive := fun _ => _) (Bool.rec (motive := fun _ => _) (Bool.rec (motive := fun _ => _) ((f19.J I call n).1.2.2.2.2.2 (ρ 0) (ρ 2) (ρ 4) (ρ 9) (ρ 10) h) ((f19.J I call n).1.2.2.2.2.1 (ρ 0) (ρ 2) (ρ 4) (ρ 9) (ρ 10) h) (Nat.blt id 21)) ((f19.J I call n).1.2.2.2.1 (ρ 0) (ρ 2) (ρ 4) (ρ 9) (ρ 10) h) (Nat.blt id 20)) (Bool.rec (motive := fun _ => _) (Bool.rec (motive := fun _ => _) ((f19.J I call n).1.2.2.1.2.2 (ρ 0) (ρ 2) (ρ 4) (ρ 9) h) ((f19.J I call n).1.2.2.1.2.1 (ρ 0) (ρ 2) (ρ 4) (ρ 9) h) (Nat.blt id 18)) ((f19.J I call n).1.2.2.1.1 (ρ 0) (ρ 2) (ρ 4) (ρ 9) h) (Nat.blt id 17)) (Nat.blt id 19)) (Bool.rec (motive := fun _ => _) (Bool.rec (motive := fun _ => _) (Bool.rec (motive := fun _ => _) ((f19.J I call n).1.2.1.2.2.2 (ρ 0) (ρ 2) (ρ 4) h) ((f19.J I call n).1.2.1.2.2.1 (ρ 0) (ρ 2) (ρ 4) (ρ 7) (ρ 8) h) (Nat.blt id 15)) ((f19.J I call n).1.2.1.2.1 (ρ 0) (ρ 2) (ρ 4) (ρ 7) (ρ 8) h) (Nat.blt id 14)) (Bool.rec (motive := fun _ => _) ((f19.J I call n).1.2.1.1.2 (ρ 0) (ρ 2) (ρ 4) (ρ 7) (ρ 8) h) ((f19.J I call n).1.2.1.1.1 (ρ 0) (ρ 2) (ρ 4) (ρ 7) h) (Nat.blt id 12)) (Nat.blt id 13)) (Nat.blt id 16)) (Bool.rec (motive := fun _ => _) (Bool.rec (motive := fun _ => _) (Bool.rec (motive := fun _ => _) (Bool.rec (motive := fun _ => _) ((f19.J I call n).1.1.2.2.2.2 (ρ 0) (ρ 2) (ρ 4) (ρ 7) h) ((f19.J I call n).1.1.2.2.2.1 (ρ 0) (ρ 2) (ρ 4) (ρ 7) h) (Nat.blt id 10)) ((f19.J I call n).1.1.2.2.1 (ρ 0) (ρ 2) (ρ 4) (ρ 7) h) (Nat.blt id 9)) (Bool.rec (motive := fun _ => _) (Bool.rec (motive := fun _ => _) ((f19.J I call n).1.1.2.1.2.2 (ρ 0) (ρ 2) (ρ 4) h) ((f19.J I call n).1.1.2.1.2.1 (ρ 0) (ρ 2) (ρ 4) (ρ 5) (ρ 6) h) (Nat.blt id 7)) ((f19.J I call n).1.1.2.1.1 (ρ 0) (ρ 2) (ρ 4) (ρ 5) (ρ 6) h) (Nat.blt id 6)) (Nat.blt id 8)) (Bool.rec (motive := fun _ => _) (Bool.rec (motive := fun _ => _) (Bool.rec (motive := fun _ => _) ((f19.J I call n).1.1.1.2.2.2 (ρ 0) (ρ 2) (ρ 4) (ρ 5) (ρ 6) h) ((f19.J I call n).1.1.1.2.2.1 (ρ 0) (ρ 2) (ρ 4) (ρ 5) h) (Nat.blt id 4)) ((f19.J I call n).1.1.1.2.1 (ρ 0) (ρ 2) (ρ 4) (ρ 5) h) (Nat.blt id 3)) (Bool.rec (motive := fun _ => _) ((f19.J I call n).1.1.1.1.2 (ρ 0) (ρ 2) (ρ 4) (ρ 5) h) ((f19.J I call n).1.1.1.1.1 (ρ 0) (ρ 2) (ρ 4) h) (Nat.blt id 1)) (Nat.blt id 2)) (Nat.blt id 5)) (Nat.blt id 11)) (Nat.blt id 22))
theorem f19.q0 (I : Inp) (call : CallFn) (n : Nat) (ρ : Fun) (h : AHeap) : f19.JS I call (n + 1) 0 ρ h = labC P I call (f19.JS I call n) c19.body 0 (finV I c19.results) 0 ρ h := by kernel_rfl
theorem f19.q1 (I : Inp) (call : CallFn) (n : Nat) (ρ : Fun) (h : AHeap) : f19.JS I call (n + 1) 1 ρ h = labC P I call (f19.JS I call n) c19.body 0 (finV I c19.results) 1 ρ h := by kernel_rfl
theorem f19.q2 (I : Inp) (call : CallFn) (n : Nat) (ρ : Fun) (h : AHeap) : f19.JS I call (n + 1) 2 ρ h = labC P I call (f19.JS I call n) c19.body 0 (finV I c19.results) 2 ρ h := by kernel_rfl
theorem f19.q3 (I : Inp) (call : CallFn) (n : Nat) (ρ : Fun) (h : AHeap) : f19.JS I call (n + 1) 3 ρ h = labC P I call (f19.JS I call n) c19.body 0 (finV I c19.results) 3 ρ h := by kernel_rfl
theorem f19.q4 (I : Inp) (call : CallFn) (n : Nat) (ρ : Fun) (h : AHeap) : f19.JS I call (n + 1) 4 ρ h = labC P I call (f19.JS I call n) c19.body 0 (finV I c19.results) 4 ρ h := by kernel_rfl
theorem f19.q5 (I : Inp) (call : CallFn) (n : Nat) (ρ : Fun) (h : AHeap) : f19.JS I call (n + 1) 5 ρ h = labC P I call (f19.JS I call n) c19.body 0 (finV I c19.results) 5 ρ h := by kernel_rfl
theorem f19.q6 (I : Inp) (call : CallFn) (n : Nat) (ρ : Fun) (h : AHeap) : f19.JS I call (n + 1) 6 ρ h = labC P I call (f19.JS I call n) c19.body 0 (finV I c19.results) 6 ρ h := by kernel_rfl
theorem f19.q7 (I : Inp) (call : CallFn) (n : Nat) (ρ : Fun) (h : AHeap) : f19.JS I call (n + 1) 7 ρ h = labC P I call (f19.JS I call n) c19.body 0 (finV I c19.results) 7 ρ h := by kernel_rfl
theorem f19.q8 (I : Inp) (call : CallFn) (n : Nat) (ρ : Fun) (h : AHeap) : f19.JS I call (n + 1) 8 ρ h = labC P I call (f19.JS I call n) c19.body 0 (finV I c19.results) 8 ρ h := by kernel_rfl
theorem f19.q9 (I : Inp) (call : CallFn) (n : Nat) (ρ : Fun) (h : AHeap) : f19.JS I call (n + 1) 9 ρ h = labC P I call (f19.JS I call n) c19.body 0 (finV I c19.results) 9 ρ h := by kernel_rfl
theorem f19.q10 (I : Inp) (call : CallFn) (n : Nat) (ρ : Fun) (h : AHeap) : f19.JS I call (n + 1) 10 ρ h = labC P I call (f19.JS I call n) c19.body 0 (finV I c19.results) 10 ρ h := by kernel_rfl
theorem f19.q11 (I : Inp) (call : CallFn) (n : Nat) (ρ : Fun) (h : AHeap) : f19.JS I call (n + 1) 11 ρ h = labC P I call (f19.JS I call n) c19.body 0 (finV I c19.results) 11 ρ h := by kernel_rfl
theorem f19.q12 (I : Inp) (call : CallFn) (n : Nat) (ρ : Fun) (h : AHeap) : f19.JS I call (n + 1) 12 ρ h = labC P I call (f19.JS I call n) c19.body 0 (finV I c19.results) 12 ρ h := by kernel_rfl
theorem f19.q13 (I : Inp) (call : CallFn) (n : Nat) (ρ : Fun) (h : AHeap) : f19.JS I call (n + 1) 13 ρ h = labC P I call (f19.JS I call n) c19.body 0 (finV I c19.results) 13 ρ h := by kernel_rfl
theorem f19.q14 (I : Inp) (call : CallFn) (n : Nat) (ρ : Fun) (h : AHeap) : f19.JS I call (n + 1) 14 ρ h = labC P I call (f19.JS I call n) c19.body 0 (finV I c19.results) 14 ρ h := by kernel_rfl
theorem f19.q15 (I : Inp) (call : CallFn) (n : Nat) (ρ : Fun) (h : AHeap) : f19.JS I call (n + 1) 15 ρ h = labC P I call (f19.JS I call n) c19.body 0 (finV I c19.results) 15 ρ h := by kernel_rfl
theorem f19.q16 (I : Inp) (call : CallFn) (n : Nat) (ρ : Fun) (h : AHeap) : f19.JS I call (n + 1) 16 ρ h = labC P I call (f19.JS I call n) c19.body 0 (finV I c19.results) 16 ρ h := by kernel_rfl
theorem f19.q17 (I : Inp) (call : CallFn) (n : Nat) (ρ : Fun) (h : AHeap) : f19.JS I call (n + 1) 17 ρ h = labC P I call (f19.JS I call n) c19.body 0 (finV I c19.results) 17 ρ h := by kernel_rfl
theorem f19.q18 (I : Inp) (call : CallFn) (n : Nat) (ρ : Fun) (h : AHeap) : f19.JS I call (n + 1) 18 ρ h = labC P I call (f19.JS I call n) c19.body 0 (finV I c19.results) 18 ρ h := by kernel_rfl
theorem f19.q19 (I : Inp) (call : CallFn) (n : Nat) (ρ : Fun) (h : AHeap) : f19.JS I call (n + 1) 19 ρ h = labC P I call (f19.JS I call n) c19.body 0 (finV I c19.results) 19 ρ h := by kernel_rfl
theorem f19.q20 (I : Inp) (call : CallFn) (n : Nat) (ρ : Fun) (h : AHeap) : f19.JS I call (n + 1) 20 ρ h = labC P I call (f19.JS I call n) c19.body 0 (finV I c19.results) 20 ρ h := by kernel_rfl
theorem f19.q21 (I : Inp) (call : CallFn) (n : Nat) (ρ : Fun) (h : AHeap) : f19.JS I call (n + 1) 21 ρ h = labC P I call (f19.JS I call n) c19.body 0 (finV I c19.results) 21 ρ h := by kernel_rfl
theorem f19.q22 (I : Inp) (call : CallFn) (n : Nat) (ρ : Fun) (h : AHeap) : f19.JS I call (n + 1) 22 ρ h = labC P I call (f19.JS I call n) c19.body 0 (finV I c19.results) 22 ρ h := by kernel_rfl
theorem f19.q23 (I : Inp) (call : CallFn) (n : Nat) (ρ : Fun) (h : AHeap) : f19.JS I call (n + 1) 23 ρ h = labC P I call (f19.JS I call n) c19.body 0 (finV I c19.results) 23 ρ h := by kernel_rfl
theorem f19.q24 (I : Inp) (call : CallFn) (n : Nat) (ρ : Fun) (h : AHeap) : f19.JS I call (n + 1) 24 ρ h = labC P I call (f19.JS I call n) c19.body 0 (finV I c19.results) 24 ρ h := by kernel_rfl
theorem f19.q25 (I : Inp) (call : CallFn) (n : Nat) (ρ : Fun) (h : AHeap) : f19.JS I call (n + 1) 25 ρ h = labC P I call (f19.JS I call n) c19.body 0 (finV I c19.results) 25 ρ h := by kernel_rfl
theorem f19.q26 (I : Inp) (call : CallFn) (n : Nat) (ρ : Fun) (h : AHeap) : f19.JS I call (n + 1) 26 ρ h = labC P I call (f19.JS I call n) c19.body 0 (finV I c19.results) 26 ρ h := by kernel_rfl
theorem f19.q27 (I : Inp) (call : CallFn) (n : Nat) (ρ : Fun) (h : AHeap) : f19.JS I call (n + 1) 27 ρ h = labC P I call (f19.JS I call n) c19.body 0 (finV I c19.results) 27 ρ h := by kernel_rfl
theorem f19.q28 (I : Inp) (call : CallFn) (n : Nat) (ρ : Fun) (h : AHeap) : f19.JS I call (n + 1) 28 ρ h = labC P I call (f19.JS I call n) c19.body 0 (finV I c19.results) 28 ρ h := by kernel_rfl
theorem f19.q29 (I : Inp) (call : CallFn) (n : Nat) (ρ : Fun) (h : AHeap) : f19.JS I call (n + 1) 29 ρ h = labC P I call (f19.JS I call n) c19.body 0 (finV I c19.results) 29 ρ h := by kernel_rfl
theorem f19.q30 (I : Inp) (call : CallFn) (n : Nat) (ρ : Fun) (h : AHeap) : f19.JS I call (n + 1) 30 ρ h = labC P I call (f19.JS I call n) c19.body 0 (finV I c19.results) 30 ρ h := by kernel_rfl
theorem f19.q31 (I : Inp) (call : CallFn) (n : Nat) (ρ : Fun) (h : AHeap) : f19.JS I call (n + 1) 31 ρ h = labC P I call (f19.JS I call n) c19.body 0 (finV I c19.results) 31 ρ h := by kernel_rfl
theorem f19.q32 (I : Inp) (call : CallFn) (n : Nat) (ρ : Fun) (h : AHeap) : f19.JS I call (n + 1) 32 ρ h = labC P I call (f19.JS I call n) c19.body 0 (finV I c19.results) 32 ρ h := by kernel_rfl
theorem f19.q33 (I : Inp) (call : CallFn) (n : Nat) (ρ : Fun) (h : AHeap) : f19.JS I call (n + 1) 33 ρ h = labC P I call (f19.JS I call n) c19.body 0 (finV I c19.results) 33 ρ h := by kernel_rfl
theorem f19.q34 (I : Inp) (call : CallFn) (n : Nat) (ρ : Fun) (h : AHeap) : f19.JS I call (n + 1) 34 ρ h = labC P I call (f19.JS I call n) c19.body 0 (finV I c19.results) 34 ρ h := by kernel_rfl
theorem f19.q35 (I : Inp) (call : CallFn) (n : Nat) (ρ : Fun) (h : AHeap) : f19.JS I call (n + 1) 35 ρ h = labC P I call (f19.JS I call n) c19.body 0 (finV I c19.results) 35 ρ h := by kernel_rfl
theorem f19.q36 (I : Inp) (call : CallFn) (n : Nat) (ρ : Fun) (h : AHeap) : f19.JS I call (n + 1) 36 ρ h = labC P I call (f19.JS I call n) c19.body 0 (finV I c19.results) 36 ρ h := by kernel_rfl
theorem f19.q37 (I : Inp) (call : CallFn) (n : Nat) (ρ : Fun) (h : AHeap) : f19.JS I call (n + 1) 37 ρ h = labC P I call (f19.JS I call n) c19.body 0 (finV I c19.results) 37 ρ h := by kernel_rfl
theorem f19.q38 (I : Inp) (call : CallFn) (n : Nat) (ρ : Fun) (h : AHeap) : f19.JS I call (n + 1) 38 ρ h = labC P I call (f19.JS I call n) c19.body 0 (finV I c19.results) 38 ρ h := by kernel_rfl
theorem f19.q39 (I : Inp) (call : CallFn) (n : Nat) (ρ : Fun) (h : AHeap) : f19.JS I call (n + 1) 39 ρ h = labC P I call (f19.JS I call n) c19.body 0 (finV I c19.results) 39 ρ h := by kernel_rfl
theorem f19.q40 (I : Inp) (call : CallFn) (n : Nat) (ρ : Fun) (h : AHeap) : f19.JS I call (n + 1) 40 ρ h = labC P I call (f19.JS I call n) c19.body 0 (finV I c19.results) 40 ρ h := by kernel_rfl
theorem f19.q41 (I : Inp) (call : CallFn) (n : Nat) (ρ : Fun) (h : AHeap) : f19.JS I call (n + 1) 41 ρ h = labC P I call (f19.JS I call n) c19.body 0 (finV I c19.results) 41 ρ h := by kernel_rfl
theorem f19.q42 (I : Inp) (call : CallFn) (n : Nat) (ρ : Fun) (h : AHeap) : f19.JS I call (n + 1) 42 ρ h = labC P I call (f19.JS I call n) c19.body 0 (finV I c19.results) 42 ρ h := by kernel_rfl
theorem f19.q43 (I : Inp) (call : CallFn) (n : Nat) (ρ : Fun) (h : AHeap) : f19.JS I call (n + 1) 43 ρ h = labC P I call (f19.JS I call n) c19.body 0 (finV I c19.results) 43 ρ h := by kernel_rfl
theorem f19.q44 (I : Inp) (call : CallFn) (n : Nat) (ρ : Fun) (h : AHeap) : f19.JS I call (n + 1) 44 ρ h = labC P I call (f19.JS I call n) c19.body 0 (finV I c19.results) 44 ρ h := by kernel_rfl
theorem f19.S (I : Inp) (F : Nat → Option AFn) (call : CallFn) : SFn ⟨P, I, F⟩ call c19 (f19.JS I call) :=
  ⟨fun id hid ρ h => by
    have hc : c19.body.cnt = 45 := by kernel_rfl
    rw [hc] at hid
    exact match id, hid with
    | 0, _ => rfl
    | 1, _ => rfl
    | 2, _ => rfl
    | 3, _ => rfl
    | 4, _ => rfl
    | 5, _ => rfl
    | 6, _ => rfl
    | 7, _ => rfl
    | 8, _ => rfl
    | 9, _ => rfl
    | 10, _ => rfl
    | 11, _ => rfl
    | 12, _ => rfl
    | 13, _ => rfl
    | 14, _ => rfl
    | 15, _ => rfl
    | 16, _ => rfl
    | 17, _ => rfl
    | 18, _ => rfl
    | 19, _ => rfl
    | 20, _ => rfl
    | 21, _ => rfl
    | 22, _ => rfl
    | 23, _ => rfl
    | 24, _ => rfl
    | 25, _ => rfl
    | 26, _ => rfl
    | 27, _ => rfl
    | 28, _ => rfl
    | 29, _ => rfl
    | 30, _ => rfl
    | 31, _ => rfl
    | 32, _ => rfl
    | 33, _ => rfl
    | 34, _ => rfl
    | 35, _ => rfl
    | 36, _ => rfl
    | 37, _ => rfl
    | 38, _ => rfl
    | 39, _ => rfl
    | 40, _ => rfl
    | 41, _ => rfl
    | 42, _ => rfl
    | 43, _ => rfl
    | 44, _ => rfl
    | id + 45, hid => absurd hid (by omega), fun n id hid ρ h => by
    have hc : c19.body.cnt = 45 := by kernel_rfl
    rw [hc] at hid
    exact match id, hid with
    | 0, _ => f19.q0 I call n ρ h
    | 1, _ => f19.q1 I call n ρ h
    | 2, _ => f19.q2 I call n ρ h
    | 3, _ => f19.q3 I call n ρ h
    | 4, _ => f19.q4 I call n ρ h
    | 5, _ => f19.q5 I call n ρ h
    | 6, _ => f19.q6 I call n ρ h
    | 7, _ => f19.q7 I call n ρ h
    | 8, _ => f19.q8 I call n ρ h
    | 9, _ => f19.q9 I call n ρ h
    | 10, _ => f19.q10 I call n ρ h
    | 11, _ => f19.q11 I call n ρ h
    | 12, _ => f19.q12 I call n ρ h
    | 13, _ => f19.q13 I call n ρ h
    | 14, _ => f19.q14 I call n ρ h
    | 15, _ => f19.q15 I call n ρ h
    | 16, _ => f19.q16 I call n ρ h
    | 17, _ => f19.q17 I call n ρ h
    | 18, _ => f19.q18 I call n ρ h
    | 19, _ => f19.q19 I call n ρ h
    | 20, _ => f19.q20 I call n ρ h
    | 21, _ => f19.q21 I call n ρ h
    | 22, _ => f19.q22 I call n ρ h
    | 23, _ => f19.q23 I call n ρ h
    | 24, _ => f19.q24 I call n ρ h
    | 25, _ => f19.q25 I call n ρ h
    | 26, _ => f19.q26 I call n ρ h
    | 27, _ => f19.q27 I call n ρ h
    | 28, _ => f19.q28 I call n ρ h
    | 29, _ => f19.q29 I call n ρ h
    | 30, _ => f19.q30 I call n ρ h
    | 31, _ => f19.q31 I call n ρ h
    | 32, _ => f19.q32 I call n ρ h
    | 33, _ => f19.q33 I call n ρ h
    | 34, _ => f19.q34 I call n ρ h
    | 35, _ => f19.q35 I call n ρ h
    | 36, _ => f19.q36 I call n ρ h
    | 37, _ => f19.q37 I call n ρ h
    | 38, _ => f19.q38 I call n ρ h
    | 39, _ => f19.q39 I call n ρ h
    | 40, _ => f19.q40 I call n ρ h
    | 41, _ => f19.q41 I call n ρ h
    | 42, _ => f19.q42 I call n ρ h
    | 43, _ => f19.q43 I call n ρ h
    | 44, _ => f19.q44 I call n ρ h
    | id + 45, hid => absurd hid (by omega)⟩
noncomputable def f19.run (I : Inp) : SF := fun call n a h =>
  match a with
  | [v0] => f19.e I call (f19.J I call n) v0 h
  | _ => none
theorem f19.qe (I : Inp) (call : CallFn) (n : Nat) (v0 : AVal) (h : AHeap) : f19.e I call (f19.J I call n) v0 h = execC P I call (f19.JS I call n) c19.body 0 (finV I c19.results) (argV [v0]) h := by kernel_rfl
theorem f19.code : codeOf P 19 = some c19 := by kernel_rfl
theorem f19.ok (I : Inp) (F : Nat → Option AFn) (hF : F 19 = some (.code c19)) : SfOk P I F 19 (f19.run I) := by
  intro call hc n args h r hr
  unfold f19.run at hr
  split at hr
  · exact fn_sound (C := ⟨P, I, F⟩) (n := n) hc hF (Nat.le_of_ble_eq_true (by kernel_rfl)) (by kernel_rfl) (f19.S I F call) (by kernel_rfl) ((f19.qe I call n _ h).symm.trans hr)
  · cases hr
theorem f19.qr (I : Inp) (call : CallFn) (n : Nat) (v0 : AVal) (h : AHeap) : f19.run I call n [v0] h = f19.e I call (f19.J I call n) v0 h := by kernel_rfl
theorem f19.lim {I : Inp} {prims : Nat → Option Prim} (hp : prims 19 = none) {n : Nat} {v0 : AVal} {h : AHeap} {Q : AVal → AHeap → Prop} (hr : Res (f19.e I (AM.lim ⟨P, I, genF P prims⟩) (f19.J I (AM.lim ⟨P, I, genF P prims⟩) n) v0 h) Q) :
    Res (AM.lim ⟨P, I, genF P prims⟩ 19 [v0] h) Q := by
  obtain ⟨v, h', e, q⟩ := hr
  exact ⟨v, h', lim_sf (C := ⟨P, I, genF P prims⟩) (n := n) (f19.ok I (genF P prims) (genF_code hp f19.code)) ((f19.qr I _ n v0 h).trans e), q⟩
/-! haruspex/types.Names -/
noncomputable def c20 : AFunc := (AFunc.mk 61 1 [(.tmp 2)] (.seq (.region [(S 1 (.box (T 0)) .none), (S 2 (.move (.val .nili)) .none)]) (.seq (.region [(S 7 (.call 45 []) .none), (S 8 (.call 44 [(V 3), (T 7), (.val .nili)]) .none), (M 3 8)]) (.seq (.seq (.region [(L1 9 1), (S 10 (.call 26 [(T 9)]) .none), (S 11 (.un .not (T 10)) .none)]) (.cond (T 11) (.seq (.region [(M 12 3), (M 2 12)]) .ret) .skip)) (.seq (.seq (.region [(L1 13 1), (NC 14 13), (FA 15 4 14), (L1 16 15), (S 17 (.lenSl (T 16)) .none), (S 18 (.move (V 0)) .none)]) (.block 0 (.loop (.seq (.region [(S 19 (.bin .lss (T 18) (T 17)) .none)]) (.seq (.cond (T 19) .skip (.exit 0)) (.seq (.block 1 (.seq (.region [(M 20 18), (S 21 (.indexAddr 3 (T 16) (T 18)) .none), (S 22 (.loadN 3 (T 21)) .none), (S 5 (.alloc [(Z 0), .nils, .nils]) .none), (M 4 20), (AOper.mk .none (.store 3 (T 5) (T 22)) .none)]) (.seq (.seq (.draw [(FA 23 0 5), (L1 24 23), (L1 25 1), (NC 26 25), (FA 27 1 26), (L1 28 27), (S 29 (.lenSl (T 28)) .none), (S 30 (.call 25 [(T 24), (T 29)]) .none), (S 31 (.un .not (T 30)) .none), (M 32 31), (S 33 (.load1 (T 1)) (.some (32, .false))), (S 34 (.fieldAddr 1 (T 5)) (.some (32, .false))), (S 35 (.load1 (T 34)) (.some (32, .false))), (S 36 (.call 27 [(T 33), (T 35)]) (.some (32, .false))), (S 37 (.un .not (T 36)) (.some (32, .false))), (S 38 (.pick (T 32) (.val (.bool .true)) (T 37)) .none)] [N, N, N, N, N, N, N, Y, N, N, N, N, N, Y, N, N] 0) (.cond (T 38) (.seq (.region [(M 39 3), (M 2 39)]) .ret) .skip)) (.seq (.region [(L1 40 1), (M 41 4), (S 42 (.mkFunc (.func 47) [] [(T 1), (T 5)]) .none), (S 43 (.mkFunc (.func 48) [] [(T 5)]) .none), (S 44 (.call 46 [(T 40), (V 3), (T 41), (T 42), (T 43)]) .none), (M 6 44)]) (.seq (.region [(M 45 6), (S 46 (.eq .true .iface .true (T 45) (.val .nili)) .none)]) (.cond (T 46) (.seq (.region [(M 47 6), (M 2 47)]) .ret) .skip)))))) (.region [(S 48 (.bin .add (T 18) (V 1)) .none), (M 18 48)]))))))) (.seq (.seq (.draw [(L1 49 1), (NC 50 49), (FA 51 5 50), (L1 52 51), (L1 53 1), (NC 54 53), (FA 55 4 54), (L1 56 55), (S 57 (.lenSl (T 56)) .none), (S 58 (.call 25 [(T 52), (T 57)]) .none), (S 59 (.un .not (T 58)) .none)] [N, N, N, N, N, N, N, N, N, Y, N] 0) (.cond (T 59) (.seq (.region [(M 60 3), (M 2 60)]) .ret) .skip)) (.seq (.region [(S 2 (.move (.val .nili)) .none)]) .ret)))))))
abbrev f20.Js : Type := (((AVal → AVal → AHeap → Rs) × ((AVal → AVal → AHeap → Rs) × (AVal → AVal → AVal → AVal → AVal → AHeap → Rs))) × (((AVal → AVal → AVal → AVal → AVal → AHeap → Rs) × (AVal → AVal → AVal → AVal → AVal → AHeap → Rs)) × ((AVal → AVal → AVal → AVal → AVal → AVal → AVal → AHeap → Rs) × (AHeap → Rs))))
noncomputable def f20.b0 (I : Inp) (call : CallFn) (j : f20.Js) (v1 v3 : AVal) (h : AHeap) : Rs :=
  bndP (pLoad1 I v1 h) fun v13 =>
  bndP (pNilCheck v13) fun v14 =>
  bndP (pFieldAddr 4 v14) fun v15 =>
  bndP (pLoad1 I v15 h) fun v16 =>
  bndP (pLenSl v16) fun v17 =>
  j.1.2.2 v1 v3 v16 v17 (Z 0) h
noncomputable def f20.b1 (I : Inp) (call : CallFn) (j : f20.Js) (v1 v3 : AVal) (h : AHeap) : Rs :=
  bndP (pLoad1 I v1 h) fun v49 =>
  bndP (pNilCheck v49) fun v50 =>
  bndP (pFieldAddr 5 v50) fun v51 =>
  bndP (pLoad1 I v51 h) fun v52 =>
  bndP (pLoad1 I v1 h) fun v53 =>
  bndP (pNilCheck v53) fun v54 =>
  bndP (pFieldAddr 4 v54) fun v55 =>
  bndP (pLoad1 I v55 h) fun v56 =>
  bndP (pLenSl v56) fun v57 =>
  bnd (call 25 [v52, v57] h) fun v58 h1 =>
  bndP (pUn .not v58) fun v59 =>
  sCond v59 (
  j.2.2.2 h1) (
  some (v3, h1))
noncomputable def f20.b2 (I : Inp) (call : CallFn) (j : f20.Js) (v1 v3 v16 v17 v18 : AVal) (h : AHeap) : Rs :=
  bndP (pBin .lss v18 v17) fun v19 =>
  sCond v19 (
  j.1.2.1 v1 v3 h) (
  j.2.1.1 v1 v3 v16 v17 v18 h)
noncomputable def f20.b3 (I : Inp) (call : CallFn) (j : f20.Js) (v1 v3 v16 v17 v18 : AVal) (h : AHeap) : Rs :=
  bndP (pIndexAddr 3 v16 v18) fun v21 =>
  bndP (pLoadN I 3 v21 h) fun v22 =>
  bnd (sAlloc [(Z 0), .nils, .nils] h) fun v5 h1 =>
  bnd (sStore 3 v5 v22 h1) fun _ h2 =>
  bndP (pFieldAddr 0 v5) fun v23 =>
  bndP (pLoad1 I v23 h2) fun v24 =>
  bndP (pLoad1 I v1 h2) fun v25 =>
  bndP (pNilCheck v25) fun v26 =>
  bndP (pFieldAddr 1 v26) fun v27 =>
  bndP (pLoad1 I v27 h2) fun v28 =>
  bndP (pLenSl v28) fun v29 =>
  bnd (call 25 [v24, v29] h2) fun v30 h3 =>
  bndP (pUn .not v30) fun v31 =>
  bnd (sGuard v31 .false (lift (pLoad1 I v1 h3) h3) h3) fun v33 h4 =>
  bnd (sGuard v31 .false (lift (pFieldAddr 1 v5) h4) h4) fun v34 h5 =>
  bnd (sGuard v31 .false (lift (pLoad1 I v34 h5) h5) h5) fun v35 h6 =>
  bnd (sGuard v31 .false (call 27 [v33, v35] h6) h6) fun v36 h7 =>
  bnd (sGuard v31 .false (lift (pUn .not v36) h7) h7) fun v37 h8 =>
  bndP (pPick v31 (.bool .true) v37) fun v38 =>
  sCond v38 (
  j.2.2.1 v1 v3 v18 v5 v16 v17 v18 h8) (
  some (v3, h8))
noncomputable def f20.b4 (I : Inp) (call : CallFn) (j : f20.Js) (v1 v3 v16 v17 v18 : AVal) (h : AHeap) : Rs :=
  bndP (pBin .add v18 (Z 1)) fun v48 =>
  j.1.2.2 v1 v3 v16 v17 v48 h
noncomputable def f20.b5 (I : Inp) (call : CallFn) (j : f20.Js) (v1 v3 v4 v5 v16 v17 v18 : AVal) (h : AHeap) : Rs :=
  bndP (pLoad1 I v1 h) fun v40 =>
  bnd (call 46 [v40, (Z 3), v4, (.func (.func 47) [] [v1, v5]), (.func (.func 48) [] [v5])] h) fun v44 h1 =>
  bndP (pEq P .true .iface .true v44 .nili h1) fun v46 =>
  sCond v46 (
  j.2.1.2 v1 v3 v16 v17 v18 h1) (
  some (v44, h1))
noncomputable def f20.b6 (I : Inp) (call : CallFn) (j : f20.Js) (h : AHeap) : Rs :=
  some (.nili, h)
noncomputable def f20.e (I : Inp) (call : CallFn) (j : f20.Js) (v0 : AVal) (h : AHeap) : Rs :=
  bnd (sBox v0 h) fun v1 h1 =>
  bnd (call 45 [] h1) fun v7 h2 =>
  bnd (call 44 [(Z 3), v7, .nili] h2) fun v8 h3 =>
  bndP (pLoad1 I v1 h3) fun v9 =>
  bnd (call 26 [v9] h3) fun v10 h4 =>
  bndP (pUn .not v10) fun v11 =>
  sCond v11 (
  j.1.1 v1 v8 h4) (
  some (v8, h4))
noncomputable def f20.J (I : Inp) (call : CallFn) (n : Nat) : f20.Js :=
  Nat.rec (motive := fun _ => f20.Js) (((fun _ _ _ => none), ((fun _ _ _ => none), (fun _ _ _ _ _ _ => none))), (((fun _ _ _ _ _ _ => none), (fun _ _ _ _ _ _ => none)), ((fun _ _ _ _ _ _ _ _ => none), (fun _ => none)))) (fun _ ih => ((f20.b0 I call ih, (f20.b1 I call ih, f20.b2 I call ih)), ((f20.b3 I call ih, f20.b4 I call ih), (f20.b5 I call ih, f20.b6 I call ih)))) n
theorem f20.n0 (I : Inp) (call : CallFn) (n : Nat) : (f20.J I call (n + 1)).1.1 = f20.b0 I call (f20.J I call n) := Eq.trans rfl rfl
theorem f20.n1 (I : Inp) (call : CallFn) (n : Nat) : (f20.J I call (n + 1)).1.2.1 = f20.b1 I call (f20.J I call n) := Eq.trans rfl rfl
theorem f20.n2 (I : Inp) (call : CallFn) (n : Nat) : (f20.J I call (n + 1)).1.2.2 = f20.b2 I call (f20.J I call n) := Eq.trans rfl rfl
theorem f20.n3 (I : Inp) (call : CallFn) (n : Nat) : (f20.J I call (n + 1)).2.1.1 = f20.b3 I call (f20.J I call n) := Eq.trans rfl rfl
theorem f20.n4 (I : Inp) (call : CallFn) (n : Nat) : (f20.J I call (n + 1)).2.1.2 = f20.b4 I call (f20.J I call n) := Eq.trans rfl rfl
theorem f20.n5 (I : Inp) (call : CallFn) (n : Nat) : (f20.J I call (n + 1)).2.2.1 = f20.b5 I call (f20.J I call n) := Eq.trans rfl rfl
theorem f20.n6 (I : Inp) (call : CallFn) (n : Nat) : (f20.J I call (n + 1)).2.2.2 = f20.b6 I call (f20.J I call n) := Eq.trans rfl rfl
noncomputable def f20.JS (I : Inp) (call : CallFn) (n : Nat) : Jmp := fun id ρ h =>
  (Bool.rec (motive := fun _ => _) (Bool.rec (motive := fun _ => _) (Bool.rec (motive := fun _ => _) ((f20.J I call n).2.2.2 h) ((f20.J I call n).2.2.1 (ρ 1) (ρ 3) (ρ 4) (ρ 5) (ρ 16) (ρ 17) (ρ 18) h) (Nat.blt id 6)) (Bool.rec (motive := fun _ => _) ((f20.J I call n).2.1.2 (ρ 1) (ρ 3) (ρ 16) (ρ 17) (ρ 18) h) ((f20.J I call n).2.1.1 (ρ 1) (ρ 3) (ρ 16) (ρ 17) (ρ 18) h) (Nat.blt id 4)) (Nat.blt id 5)) (Bool.rec (motive := fun _ => _) (Bool.rec (motive := fun _ => _) ((f20.J I call n).1.2.2 (ρ 1) (ρ 3) (ρ 16) (ρ 17) (ρ 18) h) ((f20.J I call n).1.2.1 (ρ 1) (ρ 3) h) (Nat.blt id 2)) ((f20.J I call n).1.1 (ρ 1) (ρ 3) h) (Nat.blt id 1)) (Nat.blt id 3))
theorem f20.q0 (I : Inp) (call : CallFn) (n : Nat) (ρ : Fun) (h : AHeap) : f20.JS I call (n + 1) 0 ρ h = labC P I call (f20.JS I call n) c20.body 0 (finV I c20.results) 0 ρ h := by kernel_rfl
theorem f20.q1 (I : Inp) (call : CallFn) (n : Nat) (ρ : Fun) (h : AHeap) : f20.JS I call (n + 1) 1 ρ h = labC P I call (f20.JS I call n) c20.body 0 (finV I c20.results) 1 ρ h := by kernel_rfl
theorem f20.q2 (I : Inp) (call : CallFn) (n : Nat) (ρ : Fun) (h : AHeap) : f20.JS I call (n + 1) 2 ρ h = labC P I call (f20.JS I call n) c20.body 0 (finV I c20.results) 2 ρ h := by kernel_rfl
theorem f20.q3 (I : Inp) (call : CallFn) (n : Nat) (ρ : Fun) (h : AHeap) : f20.JS I call (n + 1) 3 ρ h = labC P I call (f20.JS I call n) c20.body 0 (finV I c20.results) 3 ρ h := by kernel_rfl
theorem f20.q4 (I : Inp) (call : CallFn) (n : Nat) (ρ : Fun) (h : AHeap) : f20.JS I call (n + 1) 4 ρ h = labC P I call (f20.JS I call n) c20.body 0 (finV I c20.results) 4 ρ h := by kernel_rfl
theorem f20.q5 (I : Inp) (call : CallFn) (n : Nat) (ρ : Fun) (h : AHeap) : f20.JS I call (n + 1) 5 ρ h = labC P I call (f20.JS I call n) c20.body 0 (finV I c20.results) 5 ρ h := by kernel_rfl
theorem f20.q6 (I : Inp) (call : CallFn) (n : Nat) (ρ : Fun) (h : AHeap) : f20.JS I call (n + 1) 6 ρ h = labC P I call (f20.JS I call n) c20.body 0 (finV I c20.results) 6 ρ h := by kernel_rfl
theorem f20.S (I : Inp) (F : Nat → Option AFn) (call : CallFn) : SFn ⟨P, I, F⟩ call c20 (f20.JS I call) :=
  ⟨fun id hid ρ h => by
    have hc : c20.body.cnt = 7 := by kernel_rfl
    rw [hc] at hid
    exact match id, hid with
    | 0, _ => rfl
    | 1, _ => rfl
    | 2, _ => rfl
    | 3, _ => rfl
    | 4, _ => rfl
    | 5, _ => rfl
    | 6, _ => rfl
    | id + 7, hid => absurd hid (by omega), fun n id hid ρ h => by
    have hc : c20.body.cnt = 7 := by kernel_rfl
    rw [hc] at hid
    exact match id, hid with
    | 0, _ => f20.q0 I call n ρ h
    | 1, _ => f20.q1 I call n ρ h
    | 2, _ => f20.q2 I call n ρ h
    | 3, _ => f20.q3 I call n ρ h
    | 4, _ => f20.q4 I call n ρ h
    | 5, _ => f20.q5 I call n ρ h
    | 6, _ => f20.q6 I call n ρ h
    | id + 7, hid => absurd hid (by omega)⟩
noncomputable def f20.run (I : Inp) : SF := fun call n a h =>
  match a with
  | [v0] => f20.e I call (f20.J I call n) v0 h
  | _ => none
theorem f20.qe (I : Inp) (call : CallFn) (n : Nat) (v0 : AVal) (h : AHeap) : f20.e I call (f20.J I call n) v0 h = execC P I call (f20.JS I call n) c20.body 0 (finV I c20.results) (argV [v0]) h := by kernel_rfl
theorem f20.code : codeOf P 20 = some c20 := by kernel_rfl
theorem f20.ok (I : Inp) (F : Nat → Option AFn) (hF : F 20 = some (.code c20)) : SfOk P I F 20 (f20.run I) := by
  intro call hc n args h r hr
  unfold f20.run at hr
  split at hr
  · exact fn_sound (C := ⟨P, I, F⟩) (n := n) hc hF (Nat.le_of_ble_eq_true (by kernel_rfl)) (by kernel_rfl) (f20.S I F call) (by kernel_rfl) ((f20.qe I call n _ h).symm.trans hr)
  · cases hr
theorem f20.qr (I : Inp) (call : CallFn) (n : Nat) (v0 : AVal) (h : AHeap) : f20.run I call n [v0] h = f20.e I call (f20.J I call n) v0 h := by kernel_rfl
theorem f20.lim {I : Inp} {prims : Nat → Option Prim} (hp : prims 20 = none) {n : Nat} {v0 : AVal} {h : AHeap} {Q : AVal → AHeap → Prop} (hr : Res (f20.e I (AM.lim ⟨P, I, genF P prims⟩) (f20.J I (AM.lim ⟨P, I, genF P prims⟩) n) v0 h) Q) :
    Res (AM.lim ⟨P, I, genF P prims⟩ 20 [v0] h) Q := by
  obtain ⟨v, h', e, q⟩ := hr
  exact ⟨v, h', lim_sf (C := ⟨P, I, genF P prims⟩) (n := n) (f20.ok I (genF P prims) (genF_code hp f20.code)) ((f20.qr I _ n v0 h).trans e), q⟩
/-! haruspex/types.Check -/
noncomputable def c23 : AFunc := (AFunc.mk 71 1 [(.tmp 2)] (.seq (.region [(S 1 (.box (T 0)) .none), (S 2 (.move (.val .nili)) .none)]) (.seq (.region [(S 9 (.call 45 []) .none), (S 10 (.call 44 [(V 4), (T 9), (.val .nili)]) .none), (M 3 10)]) (.seq (.seq (.region [(L1 11 1), (NC 12 11), (FA 13 4 12), (L1 14 13), (S 15 (.lenSl (T 14)) .none), (S 16 (.move (V 0)) .none)]) (.block 0 (.loop (.seq (.region [(S 17 (.bin .lss (T 16) (T 15)) .none)]) (.seq (.cond (T 17) .skip (.exit 0)) (.seq (.block 1 (.seq (.region [(S 18 (.indexAddr 3 (T 14) (T 16)) .none), (S 19 (.loadN 3 (T 18)) .none), (S 5 (.alloc [(Z 0), .nils, .nils]) .none), (AOper.mk .none (.store 3 (T 5) (T 19)) .none)]) (.seq (.region [(L1 20 1), (S 21 (.loadN 3 (T 5)) .none), (S 22 (.call 52 [(T 20), (T 21)]) .none), (S 23 (.un .not (T 22)) .none)]) (.cond (T 23) (.seq (.region [(M 24 3), (M 2 24)]) .ret) .skip)))) (.region [(S 25 (.bin .add (T 16) (V 1)) .none), (M 16 25)]))))))) (.seq (.seq (.region [(L1 26 1), (NC 27 26), (FA 28 4 27), (L1 29 28), (S 30 (.lenSl (T 29)) .none), (S 31 (.move (V 0)) .none)]) (.block 2 (.loop (.seq (.region [(S 32 (.bin .lss (T 31) (T 30)) .none)]) (.seq (.cond (T 32) .skip (.exit 2)) (.seq (.block 3 (.seq (.region [(M 33 31), (M 6 33)]) (.seq (.region [(L1 34 1), (M 35 6), (S 36 (.mkFunc (.func 53) [] [(T 1)]) .none), (S 37 (.mkFunc (.func 54) [] [(T 1)]) .none), (S 38 (.call 46 [(T 34), (V 4), (T 35), (T 36), (T 37)]) .none), (M 7 38)]) (.seq (.region [(M 39 7), (S 40 (.eq .true .iface .true (T 39) (.val .nili)) .none)]) (.cond (T 40) (.seq (.region [(M 41 7), (M 2 41)]) .ret) .skip))))) (.region [(S 42 (.bin .add (T 31) (V 1)) .none), (M 31 42)]))))))) (.seq (.seq (.draw [(L1 43 1), (NC 44 43), (FA 45 1 44), (L1 46 45), (L1 47 1), (NC 48 47), (FA 49 4 48), (L1 50 49), (L1 51 1), (NC 52 51), (FA 53 5 52), (L1 54 53), (S 55 (.indexAddr 3 (T 50) (T 54)) .none), (FA 56 0 55), (L1 57 56), (S 58 (.indexAddr 3 (T 46) (T 57)) .none), (S 59 (.loadN 3 (T 58)) .none), (S 8 (.alloc [.nils, (Z 0), (Z 0)]) .none), (AOper.mk .none (.store 3 (T 8) (T 59)) .none)] [(.false, [1]), N, N, (.false, [1]), (.false, [1]), N, N, (.false, [1]), (.false, [1]), N, N, (.false, [1]), N, N, (.false, [1]), N, (.false, [1]), Y, Y] 0) (.seq (.region [(FA 60 0 8), (L1 61 60), (S 62 (.lenSl (T 61)) .none), (S 63 (.bin .gtr (T 62) (V 0)) .none), (M 64 63), (S 65 (.fieldAddr 1 (T 8)) (.some (64, .false))), (S 66 (.fieldAddr 0 (T 65)) (.some (64, .false))), (S 67 (.load1 (T 66)) (.some (64, .false))), (S 68 (.bin .neq (T 67) (V 0)) (.some (64, .false))), (S 69 (.pick (T 64) (.val (.bool .true)) (T 68)) .none)]) (.cond (T 69) (.seq (.region [(M 70 3), (M 2 70)]) .ret) .skip))) (.seq (.region [(S 2 (.move (.val .nili)) .none)]) .ret)))))))
abbrev f23.Js : Type := ((((AVal → AVal → AHeap → Rs) × (AVal → AVal → AVal → AVal → AVal → AHeap → Rs)) × ((AVal → AVal → AVal → AVal → AVal → AHeap → Rs) × (AVal → AVal → AVal → AVal → AVal → AHeap → Rs))) × (((AVal → AVal → AHeap → Rs) × (AVal → AVal → AVal → AVal → AHeap → Rs)) × ((AVal → AVal → AVal → AVal → AHeap → Rs) × ((AVal → AVal → AVal → AVal → AHeap → Rs) × (AHeap → Rs)))))
noncomputable def f23.b0 (I : Inp) (call : CallFn) (j : f23.Js) (v1 v3 : AVal) (h : AHeap) : Rs :=
  bndP (pLoad1 I v1 h) fun v26 =>
  bndP (pNilCheck v26) fun v27 =>
  bndP (pFieldAddr 4 v27) fun v28 =>
  bndP (pLoad1 I v28 h) fun v29 =>
  bndP (pLenSl v29) fun v30 =>
  j.2.1.2 v1 v3 v30 (Z 0) h
noncomputable def f23.b1 (I : Inp) (call : CallFn) (j : f23.Js) (v1 v3 v14 v15 v16 : AVal) (h : AHeap) : Rs :=
  bndP (pBin .lss v16 v15) fun v17 =>
  sCond v17 (
  j.1.1.1 v1 v3 h) (
  j.1.2.1 v1 v3 v14 v15 v16 h)
noncomputable def f23.b2 (I : Inp) (call : CallFn) (j : f23.Js) (v1 v3 v14 v15 v16 : AVal) (h : AHeap) : Rs :=
  bndP (pIndexAddr 3 v14 v16) fun v18 =>
  bndP (pLoadN I 3 v18 h) fun v19 =>
  bnd (sAlloc [(Z 0), .nils, .nils] h) fun v5 h1 =>
  bnd (sStore 3 v5 v19 h1) fun _ h2 =>
  bndP (pLoad1 I v1 h2) fun v20 =>
  bndP (pLoadN I 3 v5 h2) fun v21 =>
  bnd (call 52 [v20, v21] h2) fun v22 h3 =>
  bndP (pUn .not v22) fun v23 =>
  sCond v23 (
  j.1.2.2 v1 v3 v14 v15 v16 h3) (
  some (v3, h3))
noncomputable def f23.b3 (I : Inp) (call : CallFn) (j : f23.Js) (v1 v3 v14 v15 v16 : AVal) (h : AHeap) : Rs :=
  bndP (pBin .add v16 (Z 1)) fun v25 =>
  j.1.1.2 v1 v3 v14 v15 v25 h
noncomputable def f23.b4 (I : Inp) (call : CallFn) (j : f23.Js) (v1 v3 : AVal) (h : AHeap) : Rs :=
  bndP (pLoad1 I v1 h) fun v43 =>
  bndP (pNilCheck v43) fun v44 =>
  bndP (pFieldAddr 1 v44) fun v45 =>
  bndP (pLoad1 I v45 h) fun v46 =>
  bndP (pLoad1 I v1 h) fun v47 =>
  bndP (pNilCheck v47) fun v48 =>
  bndP (pFieldAddr 4 v48) fun v49 =>
  bndP (pLoad1 I v49 h) fun v50 =>
  bndP (pLoad1 I v1 h) fun v51 =>
  bndP (pNilCheck v51) fun v52 =>
  bndP (pFieldAddr 5 v52) fun v53 =>
  bndP (pLoad1 I v53 h) fun v54 =>
  bndP (pIndexAddr 3 v50 v54) fun v55 =>
  bndP (pFieldAddr 0 v55) fun v56 =>
  bndP (pLoad1 I v56 h) fun v57 =>
  bndP (pIndexAddr 3 v46 v57) fun v58 =>
  bndP (pLoadN I 3 v58 h) fun v59 =>
  bnd (sAlloc [.nils, (Z 0), (Z 0)] h) fun v8 h1 =>
  bnd (sStore 3 v8 v59 h1) fun _ h2 =>
  sCheck (sSame (lift (pLoad1 I v1 h1) h1) v43 && true) (
  sCheck (sSame (lift (pLoad1 I v45 h1) h1) v46 && true) (
  sCheck (sSame (lift (pLoad1 I v1 h1) h1) v47 && true) (
  sCheck (sSame (lift (pLoad1 I v49 h1) h1) v50 && true) (
  sCheck (sSame (lift (pLoad1 I v1 h1) h1) v51 && true) (
  sCheck (sSame (lift (pLoad1 I v53 h1) h1) v54 && true) (
  sCheck (sSame (lift (pLoad1 I v56 h1) h1) v57 && true) (
  sCheck (sSame (lift (pLoadN I 3 v58 h1) h1) v59 && true) (
  bndP (pFieldAddr 0 v8) fun v60 =>
  bndP (pLoad1 I v60 h2) fun v61 =>
  bndP (pLenSl v61) fun v62 =>
  bndP (pBin .gtr v62 (Z 0)) fun v63 =>
  bnd (sGuard v63 .false (lift (pFieldAddr 1 v8) h2) h2) fun v65 h3 =>
  bnd (sGuard v63 .false (lift (pFieldAddr 0 v65) h3) h3) fun v66 h4 =>
  bnd (sGuard v63 .false (lift (pLoad1 I v66 h4) h4) h4) fun v67 h5 =>
  bnd (sGuard v63 .false (lift (pBin .neq v67 (Z 0)) h5) h5) fun v68 h6 =>
  bndP (pPick v63 (.bool .true) v68) fun v69 =>
  sCond v69 (
  j.2.2.2.2 h6) (
  some (v3, h6))))))))))
noncomputable def f23.b5 (I : Inp) (call : CallFn) (j : f23.Js) (v1 v3 v30 v31 : AVal) (h : AHeap) : Rs :=
  bndP (pBin .lss v31 v30) fun v32 =>
  sCond v32 (
  j.2.1.1 v1 v3 h) (
  j.2.2.1 v1 v3 v30 v31 h)
noncomputable def f23.b6 (I : Inp) (call : CallFn) (j : f23.Js) (v1 v3 v30 v31 : AVal) (h : AHeap) : Rs :=
  bndP (pLoad1 I v1 h) fun v34 =>
  bnd (call 46 [v34, (Z 4), v31, (.func (.func 53) [] [v1]), (.func (.func 54) [] [v1])] h) fun v38 h1 =>
  bndP (pEq P .true .iface .true v38 .nili h1) fun v40 =>
  sCond v40 (
  j.2.2.2.1 v1 v3 v30 v31 h1) (
  some (v38, h1))
noncomputable def f23.b7 (I : Inp) (call : CallFn) (j : f23.Js) (v1 v3 v30 v31 : AVal) (h : AHeap) : Rs :=
  bndP (pBin .add v31 (Z 1)) fun v42 =>
  j.2.1.2 v1 v3 v30 v42 h
noncomputable def f23.b8 (I : Inp) (call : CallFn) (j : f23.Js) (h : AHeap) : Rs :=
  some (.nili, h)
noncomputable def f23.e (I : Inp) (call : CallFn) (j : f23.Js) (v0 : AVal) (h : AHeap) : Rs :=
  bnd (sBox v0 h) fun v1 h1 =>
  bnd (call 45 [] h1) fun v9 h2 =>
  bnd (call 44 [(Z 4), v9, .nili] h2) fun v10 h3 =>
  bndP (pLoad1 I v1 h3) fun v11 =>
  bndP (pNilCheck v11) fun v12 =>
  bndP (pFieldAddr 4 v12) fun v13 =>
  bndP (pLoad1 I v13 h3) fun v14 =>
  bndP (pLenSl v14) fun v15 =>
  j.1.1.2 v1 v10 v14 v15 (Z 0) h3
noncomputable def f23.J (I : Inp) (call : CallFn) (n : Nat) : f23.Js :=
  Nat.rec (motive := fun _ => f23.Js) ((((fun _ _ _ => none), (fun _ _ _ _ _ _ => none)), ((fun _ _ _ _ _ _ => none), (fun _ _ _ _ _ _ => none))), (((fun _ _ _ => none), (fun _ _ _ _ _ => none)), ((fun _ _ _ _ _ => none), ((fun _ _ _ _ _ => none), (fun _ => none))))) (fun _ ih => (((f23.b0 I call ih, f23.b1 I call ih), (f23.b2 I call ih, f23.b3 I call ih)), ((f23.b4 I call ih, f23.b5 I call ih), (f23.b6 I call ih, (f23.b7 I call ih, f23.b8 I call ih))))) n
noncomputable def f23.JS (I : Inp) (call : CallFn) (n : Nat) : Jmp := fun id ρ h =>
  (Bool.rec (motive := fun _ => _) (Bool.rec (motive := fun _ => _) (Bool.rec (motive := fun _ => _) (Bool.rec (motive := fun _ => _) ((f23.J I call n).2.2.2.2 h) ((f23.J I call n).2.2.2.1 (ρ 1) (ρ 3) (ρ 30) (ρ 31) h) (Nat.blt id 8)) ((f23.J I call n).2.2.1 (ρ 1) (ρ 3) (ρ 30) (ρ 31) h) (Nat.blt id 7)) (Bool.rec (motive := fun _ => _) ((f23.J I call n).2.1.2 (ρ 1) (ρ 3) (ρ 30) (ρ 31) h) ((f23.J I call n).2.1.1 (ρ 1) (ρ 3) h) (Nat.blt id 5)) (Nat.blt id 6)) (Bool.rec (motive := fun _ => _) (Bool.rec (motive := fun _ => _) ((f23.J I call n).1.2.2 (ρ 1) (ρ 3) (ρ 14) (ρ 15) (ρ 16) h) ((f23.J I call n).1.2.1 (ρ 1) (ρ 3) (ρ 14) (ρ 15) (ρ 16) h) (Nat.blt id 3)) (Bool.rec (motive := fun _ => _) ((f23.J I call n).1.1.2 (ρ 1) (ρ 3) (ρ 14) (ρ 15) (ρ 16) h) ((f23.J I call n).1.1.1 (ρ 1) (ρ 3) h) (Nat.blt id 1)) (Nat.blt id 2)) (Nat.blt id 4))
theorem f23.q0 (I : Inp) (call : CallFn) (n : Nat) (ρ : Fun) (h : AHeap) : f23.JS I call (n + 1) 0 ρ h = labC P I call (f23.JS I call n) c23.body 0 (finV I c23.results) 0 ρ h := by kernel_rfl
theorem f23.q1 (I : Inp) (call : CallFn) (n : Nat) (ρ : Fun) (h : AHeap) : f23.JS I call (n + 1) 1 ρ h = labC P I call (f23.JS I call n) c23.body 0 (finV I c23.results) 1 ρ h := by kernel_rfl
theorem f23.q2 (I : Inp) (call : CallFn) (n : Nat) (ρ : Fun) (h : AHeap) : f23.JS I call (n + 1) 2 ρ h = labC P I call (f23.JS I call n) c23.body 0 (finV I c23.results) 2 ρ h := by kernel_rfl
theorem f23.q3 (I : Inp) (call : CallFn) (n : Nat) (ρ : Fun) (h : AHeap) : f23.JS I call (n + 1) 3 ρ h = labC P I call (f23.JS I call n) c23.body 0 (finV I c23.results) 3 ρ h := by kernel_rfl
theorem f23.q4 (I : Inp) (call : CallFn) (n : Nat) (ρ : Fun) (h : AHeap) : f23.JS I call (n + 1) 4 ρ h = labC P I call (f23.JS I call n) c23.body 0 (finV I c23.results) 4 ρ h := by kernel_rfl
theorem f23.q5 (I : Inp) (call : CallFn) (n : Nat) (ρ : Fun) (h : AHeap) : f23.JS I call (n + 1) 5 ρ h = labC P I call (f23.JS I call n) c23.body 0 (finV I c23.results) 5 ρ h := by kernel_rfl
theorem f23.q6 (I : Inp) (call : CallFn) (n : Nat) (ρ : Fun) (h : AHeap) : f23.JS I call (n + 1) 6 ρ h = labC P I call (f23.JS I call n) c23.body 0 (finV I c23.results) 6 ρ h := by kernel_rfl
theorem f23.q7 (I : Inp) (call : CallFn) (n : Nat) (ρ : Fun) (h : AHeap) : f23.JS I call (n + 1) 7 ρ h = labC P I call (f23.JS I call n) c23.body 0 (finV I c23.results) 7 ρ h := by kernel_rfl
theorem f23.q8 (I : Inp) (call : CallFn) (n : Nat) (ρ : Fun) (h : AHeap) : f23.JS I call (n + 1) 8 ρ h = labC P I call (f23.JS I call n) c23.body 0 (finV I c23.results) 8 ρ h := by kernel_rfl
theorem f23.S (I : Inp) (F : Nat → Option AFn) (call : CallFn) : SFn ⟨P, I, F⟩ call c23 (f23.JS I call) :=
  ⟨fun id hid ρ h => by
    have hc : c23.body.cnt = 9 := by kernel_rfl
    rw [hc] at hid
    exact match id, hid with
    | 0, _ => rfl
    | 1, _ => rfl
    | 2, _ => rfl
    | 3, _ => rfl
    | 4, _ => rfl
    | 5, _ => rfl
    | 6, _ => rfl
    | 7, _ => rfl
    | 8, _ => rfl
    | id + 9, hid => absurd hid (by omega), fun n id hid ρ h => by
    have hc : c23.body.cnt = 9 := by kernel_rfl
    rw [hc] at hid
    exact match id, hid with
    | 0, _ => f23.q0 I call n ρ h
    | 1, _ => f23.q1 I call n ρ h
    | 2, _ => f23.q2 I call n ρ h
    | 3, _ => f23.q3 I call n ρ h
    | 4, _ => f23.q4 I call n ρ h
    | 5, _ => f23.q5 I call n ρ h
    | 6, _ => f23.q6 I call n ρ h
    | 7, _ => f23.q7 I call n ρ h
    | 8, _ => f23.q8 I call n ρ h
    | id + 9, hid => absurd hid (by omega)⟩
noncomputable def f23.run (I : Inp) : SF := fun call n a h =>
  match a with
  | [v0] => f23.e I call (f23.J I call n) v0 h
  | _ => none
theorem f23.qe (I : Inp) (call : CallFn) (n : Nat) (v0 : AVal) (h : AHeap) : f23.e I call (f23.J I call n) v0 h = execC P I call (f23.JS I call n) c23.body 0 (finV I c23.results) (argV [v0]) h := by kernel_rfl
theorem f23.code : codeOf P 23 = some c23 := by kernel_rfl
theorem f23.ok (I : Inp) (F : Nat → Option AFn) (hF : F 23 = some (.code c23)) : SfOk P I F 23 (f23.run I) := by
  intro call hc n args h r hr
  unfold f23.run at hr
  split at hr
  · exact fn_sound (C := ⟨P, I, F⟩) (n := n) hc hF (Nat.le_of_ble_eq_true (by kernel_rfl)) (by kernel_rfl) (f23.S I F call) (by kernel_rfl) ((f23.qe I call n _ h).symm.trans hr)
  · cases hr
/-! haruspex/refuse.Why -/
noncomputable def c24 : AFunc := (AFunc.mk 12 1 [(.tmp 2)] (.seq (.region [(S 2 (.move (V 0)) .none)]) (.seq (.seq (.region [(M 4 0), (S 5 (.call 56 [(T 4)]) .none), (M 3 5)]) (.seq (.region [(M 6 3), (S 7 (.eq .true .ptr .true (T 6) (.val .nilp)) .none)]) (.cond (T 7) (.seq (.region [(M 8 3), (NC 9 8), (FA 10 0 9), (L1 11 10), (M 2 11)]) .ret) .skip))) (.seq (.region [(S 2 (.move (V 0)) .none)]) .ret))))
abbrev f24.Js : Type := (AHeap → Rs)
noncomputable def f24.b0 (I : Inp) (call : CallFn) (j : f24.Js) (h : AHeap) : Rs :=
  some ((Z 0), h)
noncomputable def f24.e (I : Inp) (call : CallFn) (j : f24.Js) (v0 : AVal) (h : AHeap) : Rs :=
  bnd (call 56 [v0] h) fun v5 h1 =>
  bndP (pEq P .true .ptr .true v5 .nilp h1) fun v7 =>
  sCond v7 (
  j h1) (
  bndP (pNilCheck v5) fun v9 =>
  bndP (pFieldAddr 0 v9) fun v10 =>
  bndP (pLoad1 I v10 h1) fun v11 =>
  some (v11, h1))
noncomputable def f24.J (I : Inp) (call : CallFn) (n : Nat) : f24.Js :=
  Nat.rec (motive := fun _ => f24.Js) (fun _ => none) (fun _ ih => f24.b0 I call ih) n
theorem f24.n0 (I : Inp) (call : CallFn) (n : Nat) : (f24.J I call (n + 1)) = f24.b0 I call (f24.J I call n) := Eq.trans rfl rfl
noncomputable def f24.JS (I : Inp) (call : CallFn) (n : Nat) : Jmp := fun id ρ h =>
  ((f24.J I call n) h)
theorem f24.q0 (I : Inp) (call : CallFn) (n : Nat) (ρ : Fun) (h : AHeap) : f24.JS I call (n + 1) 0 ρ h = labC P I call (f24.JS I call n) c24.body 0 (finV I c24.results) 0 ρ h := by kernel_rfl
theorem f24.S (I : Inp) (F : Nat → Option AFn) (call : CallFn) : SFn ⟨P, I, F⟩ call c24 (f24.JS I call) :=
  ⟨fun id hid ρ h => by
    have hc : c24.body.cnt = 1 := by kernel_rfl
    rw [hc] at hid
    exact match id, hid with
    | 0, _ => rfl
    | id + 1, hid => absurd hid (by omega), fun n id hid ρ h => by
    have hc : c24.body.cnt = 1 := by kernel_rfl
    rw [hc] at hid
    exact match id, hid with
    | 0, _ => f24.q0 I call n ρ h
    | id + 1, hid => absurd hid (by omega)⟩
noncomputable def f24.run (I : Inp) : SF := fun call n a h =>
  match a with
  | [v0] => f24.e I call (f24.J I call n) v0 h
  | _ => none
theorem f24.qe (I : Inp) (call : CallFn) (n : Nat) (v0 : AVal) (h : AHeap) : f24.e I call (f24.J I call n) v0 h = execC P I call (f24.JS I call n) c24.body 0 (finV I c24.results) (argV [v0]) h := by kernel_rfl
theorem f24.code : codeOf P 24 = some c24 := by kernel_rfl
theorem f24.ok (I : Inp) (F : Nat → Option AFn) (hF : F 24 = some (.code c24)) : SfOk P I F 24 (f24.run I) := by
  intro call hc n args h r hr
  unfold f24.run at hr
  split at hr
  · exact fn_sound (C := ⟨P, I, F⟩) (n := n) hc hF (Nat.le_of_ble_eq_true (by kernel_rfl)) (by kernel_rfl) (f24.S I F call) (by kernel_rfl) ((f24.qe I call n _ h).symm.trans hr)
  · cases hr
theorem f24.qr (I : Inp) (call : CallFn) (n : Nat) (v0 : AVal) (h : AHeap) : f24.run I call n [v0] h = f24.e I call (f24.J I call n) v0 h := by kernel_rfl
theorem f24.lim {I : Inp} {prims : Nat → Option Prim} (hp : prims 24 = none) {n : Nat} {v0 : AVal} {h : AHeap} {Q : AVal → AHeap → Prop} (hr : Res (f24.e I (AM.lim ⟨P, I, genF P prims⟩) (f24.J I (AM.lim ⟨P, I, genF P prims⟩) n) v0 h) Q) :
    Res (AM.lim ⟨P, I, genF P prims⟩ 24 [v0] h) Q := by
  obtain ⟨v, h', e, q⟩ := hr
  exact ⟨v, h', lim_sf (C := ⟨P, I, genF P prims⟩) (n := n) (f24.ok I (genF P prims) (genF_code hp f24.code)) ((f24.qr I _ n v0 h).trans e), q⟩
/-! haruspex/types.in -/
noncomputable def c25 : AFunc := (AFunc.mk 12 2 [(.tmp 4)] (.seq (.region [(S 4 (.move (.val (.bool .false))) .none)]) (.seq (.region [(M 5 0), (S 6 (.bin .geq (T 5) (V 0)) .none), (M 7 6), (S 8 (.move (T 0)) (.some (7, .true))), (S 9 (.move (T 1)) (.some (7, .true))), (S 10 (.bin .lss (T 8) (T 9)) (.some (7, .true))), (S 11 (.pick (T 7) (T 10) (.val (.bool .false))) .none), (M 4 11)]) .ret)))
abbrev f25.Js : Type := Unit
noncomputable def f25.e (I : Inp) (call : CallFn) (j : f25.Js) (v0 v1 : AVal) (h : AHeap) : Rs :=
  bndP (pBin .geq v0 (Z 0)) fun v6 =>
  bnd (sGuard v6 .true (some (v0, h)) h) fun v8 h1 =>
  bnd (sGuard v6 .true (some (v1, h1)) h1) fun v9 h2 =>
  bnd (sGuard v6 .true (lift (pBin .lss v8 v9) h2) h2) fun v10 h3 =>
  bndP (pPick v6 v10 (.bool .false)) fun v11 =>
  some (v11, h3)
theorem f25.S (I : Inp) (F : Nat → Option AFn) (call : CallFn) : SFn ⟨P, I, F⟩ call c25 (fun _ _ _ _ => none) :=
  ⟨fun _ _ _ _ => rfl, fun n id hid => absurd hid (by rw [show c25.body.cnt = 0 by kernel_rfl]; omega)⟩
noncomputable def f25.run (I : Inp) : SF := fun call n a h =>
  match a with
  | [v0, v1] => f25.e I call () v0 v1 h
  | _ => none
theorem f25.qe (I : Inp) (call : CallFn) (n : Nat) (v0 v1 : AVal) (h : AHeap) : f25.e I call () v0 v1 h = execC P I call (fun _ _ _ => none) c25.body 0 (finV I c25.results) (argV [v0, v1]) h := by kernel_rfl
theorem f25.code : codeOf P 25 = some c25 := by kernel_rfl
theorem f25.ok (I : Inp) (F : Nat → Option AFn) (hF : F 25 = some (.code c25)) : SfOk P I F 25 (f25.run I) := by
  intro call hc n args h r hr
  unfold f25.run at hr
  split at hr
  · exact fn_sound (C := ⟨P, I, F⟩) (n := n) hc hF (Nat.le_of_ble_eq_true (by kernel_rfl)) (by kernel_rfl) (f25.S I F call) (by kernel_rfl) ((f25.qe I call n _ _ h).symm.trans hr)
  · cases hr
theorem f25.qr (I : Inp) (call : CallFn) (n : Nat) (v0 v1 : AVal) (h : AHeap) : f25.run I call n [v0, v1] h = f25.e I call () v0 v1 h := by kernel_rfl
theorem f25.lim {I : Inp} {prims : Nat → Option Prim} (hp : prims 25 = none) {n : Nat} {v0 v1 : AVal} {h : AHeap} {Q : AVal → AHeap → Prop} (hr : Res (f25.e I (AM.lim ⟨P, I, genF P prims⟩) () v0 v1 h) Q) :
    Res (AM.lim ⟨P, I, genF P prims⟩ 25 [v0, v1] h) Q := by
  obtain ⟨v, h', e, q⟩ := hr
  exact ⟨v, h', lim_sf (C := ⟨P, I, genF P prims⟩) (n := 0) (f25.ok I (genF P prims) (genF_code hp f25.code)) ((f25.qr I _ 0 v0 v1 h).trans e), q⟩
/-! haruspex/types.lists -/
noncomputable def c26 : AFunc := (AFunc.mk 114 1 [(.tmp 2)] (.seq (.region [(S 2 (.move (.val (.bool .false))) .none)]) (.seq (.region [(S 3 (.move (.val (.bool .true))) .none)]) (.seq (.seq (.region [(M 12 0), (NC 13 12), (FA 14 0 13), (L1 15 14), (S 16 (.lenSl (T 15)) .none), (S 17 (.move (V 0)) .none)]) (.block 0 (.loop (.seq (.region [(S 18 (.bin .lss (T 17) (T 16)) .none)]) (.seq (.cond (T 18) .skip (.exit 0)) (.seq (.block 1 (.seq (.region [(S 19 (.indexAddr 1 (T 15) (T 17)) .none), (L1 20 19), (M 5 20)]) (.region [(M 21 3), (M 22 21), (S 23 (.move (T 0)) (.some (22, .true))), (S 24 (.move (T 5)) (.some (22, .true))), (S 25 (.call 27 [(T 23), (T 24)]) (.some (22, .true))), (S 26 (.pick (T 22) (T 25) (.val (.bool .false))) .none), (M 3 26)]))) (.region [(S 27 (.bin .add (T 17) (V 1)) .none), (M 17 27)]))))))) (.seq (.seq (.region [(M 28 0), (NC 29 28), (FA 30 1 29), (L1 31 30), (S 32 (.lenSl (T 31)) .none), (S 33 (.move (V 0)) .none)]) (.block 2 (.loop (.seq (.region [(S 34 (.bin .lss (T 33) (T 32)) .none)]) (.seq (.cond (T 34) .skip (.exit 2)) (.seq (.block 3 (.seq (.region [(S 35 (.indexAddr 3 (T 31) (T 33)) .none), (S 36 (.loadN 3 (T 35)) .none), (S 7 (.alloc [.nils, (Z 0), (Z 0)]) .none), (AOper.mk .none (.store 3 (T 7) (T 36)) .none)]) (.region [(M 37 3), (M 38 37), (S 39 (.move (T 0)) (.some (38, .true))), (S 40 (.fieldAddr 0 (T 7)) (.some (38, .true))), (S 41 (.load1 (T 40)) (.some (38, .true))), (S 42 (.call 27 [(T 39), (T 41)]) (.some (38, .true))), (S 43 (.pick (T 38) (T 42) (.val (.bool .false))) .none), (M 44 43), (S 45 (.move (T 0)) (.some (44, .true))), (S 46 (.fieldAddr 1 (T 7)) (.some (44, .true))), (S 47 (.loadN 2 (T 46)) (.some (44, .true))), (S 48 (.call 57 [(T 45), (T 47)]) (.some (44, .true))), (S 49 (.pick (T 44) (T 48) (.val (.bool .false))) .none), (M 3 49)]))) (.region [(S 50 (.bin .add (T 33) (V 1)) .none), (M 33 50)]))))))) (.seq (.seq (.region [(M 51 0), (NC 52 51), (FA 53 2 52), (L1 54 53), (S 55 (.lenSl (T 54)) .none), (S 56 (.move (V 0)) .none)]) (.block 4 (.loop (.seq (.region [(S 57 (.bin .lss (T 56) (T 55)) .none)]) (.seq (.cond (T 57) .skip (.exit 4)) (.seq (.block 5 (.seq (.region [(S 58 (.indexAddr 1 (T 54) (T 56)) .none), (S 59 (.loadN 1 (T 58)) .none), (S 9 (.alloc [.nils]) .none), (AOper.mk .none (.store 1 (T 9) (T 59)) .none)]) (.draw [(M 60 3), (M 61 60), (S 62 (.fieldAddr 0 (T 9)) (.some (61, .true))), (S 63 (.load1 (T 62)) (.some (61, .true))), (S 64 (.move (T 0)) (.some (61, .true))), (S 65 (.nilCheck (T 64)) (.some (61, .true))), (S 66 (.fieldAddr 1 (T 65)) (.some (61, .true))), (S 67 (.load1 (T 66)) (.some (61, .true))), (S 68 (.lenSl (T 67)) (.some (61, .true))), (S 69 (.call 58 [(T 63), (T 68)]) (.some (61, .true))), (S 70 (.pick (T 61) (T 69) (.val (.bool .false))) .none), (M 3 70)] [N, N, N, N, N, N, N, N, N, Y, N, N] 0))) (.region [(S 71 (.bin .add (T 56) (V 1)) .none), (M 56 71)]))))))) (.seq (.seq (.region [(M 72 0), (NC 73 72), (FA 74 3 73), (L1 75 74), (S 76 (.lenSl (T 75)) .none), (S 77 (.move (V 0)) .none)]) (.block 6 (.loop (.seq (.region [(S 78 (.bin .lss (T 77) (T 76)) .none)]) (.seq (.cond (T 78) .skip (.exit 6)) (.seq (.block 7 (.seq (.region [(S 79 (.indexAddr 3 (T 75) (T 77)) .none), (S 80 (.loadN 3 (T 79)) .none), (S 11 (.alloc [(Z 0), (Z 0), .nils]) .none), (AOper.mk .none (.store 3 (T 11) (T 80)) .none)]) (.draw [(M 81 3), (M 82 81), (S 83 (.fieldAddr 0 (T 11)) (.some (82, .true))), (S 84 (.load1 (T 83)) (.some (82, .true))), (S 85 (.move (T 0)) (.some (82, .true))), (S 86 (.nilCheck (T 85)) (.some (82, .true))), (S 87 (.fieldAddr 0 (T 86)) (.some (82, .true))), (S 88 (.load1 (T 87)) (.some (82, .true))), (S 89 (.lenSl (T 88)) (.some (82, .true))), (S 90 (.call 25 [(T 84), (T 89)]) (.some (82, .true))), (S 91 (.pick (T 82) (T 90) (.val (.bool .false))) .none), (M 92 91), (S 93 (.fieldAddr 1 (T 11)) (.some (92, .true))), (S 94 (.load1 (T 93)) (.some (92, .true))), (S 95 (.move (T 0)) (.some (92, .true))), (S 96 (.nilCheck (T 95)) (.some (92, .true))), (S 97 (.fieldAddr 2 (T 96)) (.some (92, .true))), (S 98 (.load1 (T 97)) (.some (92, .true))), (S 99 (.lenSl (T 98)) (.some (92, .true))), (S 100 (.call 25 [(T 94), (T 99)]) (.some (92, .true))), (S 101 (.pick (T 92) (T 100) (.val (.bool .false))) .none), (M 102 101), (S 103 (.fieldAddr 2 (T 11)) (.some (102, .true))), (S 104 (.load1 (T 103)) (.some (102, .true))), (S 105 (.move (T 0)) (.some (102, .true))), (S 106 (.nilCheck (T 105)) (.some (102, .true))), (S 107 (.fieldAddr 4 (T 106)) (.some (102, .true))), (S 108 (.load1 (T 107)) (.some (102, .true))), (S 109 (.lenSl (T 108)) (.some (102, .true))), (S 110 (.call 58 [(T 104), (T 109)]) (.some (102, .true))), (S 111 (.pick (T 102) (T 110) (.val (.bool .false))) .none), (M 3 111)] [N, N, N, N, N, N, N, N, N, Y, N, N, N, N, N, N, N, N, N, Y, N, N, N, N, N, N, N, N, N, Y, N, N] 0))) (.region [(S 112 (.bin .add (T 77) (V 1)) .none), (M 77 112)]))))))) (.seq (.region [(M 113 3), (M 2 113)]) .ret))))))))
abbrev f26.Js : Type := (((((AVal → AVal → AHeap → Rs) × (AVal → AVal → AVal → AVal → AVal → AHeap → Rs)) × ((AVal → AVal → AVal → AVal → AVal → AHeap → Rs) × (AVal → AVal → AVal → AVal → AVal → AHeap → Rs))) × (((AVal → AVal → AHeap → Rs) × (AVal → AVal → AVal → AVal → AVal → AHeap → Rs)) × ((AVal → AVal → AVal → AVal → AVal → AHeap → Rs) × (AVal → AVal → AVal → AVal → AVal → AHeap → Rs)))) × ((((AVal → AVal → AHeap → Rs) × (AVal → AVal → AVal → AVal → AVal → AHeap → Rs)) × ((AVal → AVal → AVal → AVal → AVal → AHeap → Rs) × (AVal → AVal → AVal → AVal → AVal → AHeap → Rs))) × (((AVal → AHeap → Rs) × (AVal → AVal → AVal → AVal → AVal → AHeap → Rs)) × ((AVal → AVal → AVal → AVal → AVal → AHeap → Rs) × (AVal → AVal → AVal → AVal → AVal → AHeap → Rs)))))
noncomputable def f26.b0 (I : Inp) (call : CallFn) (j : f26.Js) (v0 v3 : AVal) (h : AHeap) : Rs :=
  bndP (pNilCheck v0) fun v29 =>
  bndP (pFieldAddr 1 v29) fun v30 =>
  bndP (pLoad1 I v30 h) fun v31 =>
  bndP (pLenSl v31) fun v32 =>
  j.1.2.1.2 v0 v3 v31 v32 (Z 0) h
noncomputable def f26.b1 (I : Inp) (call : CallFn) (j : f26.Js) (v0 v3 v15 v16 v17 : AVal) (h : AHeap) : Rs :=
  bndP (pBin .lss v17 v16) fun v18 =>
  sCond v18 (
  j.1.1.1.1 v0 v3 h) (
  j.1.1.2.1 v0 v3 v15 v16 v17 h)
noncomputable def f26.b2 (I : Inp) (call : CallFn) (j : f26.Js) (v0 v3 v15 v16 v17 : AVal) (h : AHeap) : Rs :=
  bndP (pIndexAddr 1 v15 v17) fun v19 =>
  bndP (pLoad1 I v19 h) fun v20 =>
  bnd (sGuard v3 .true (some (v0, h)) h) fun v23 h1 =>
  bnd (sGuard v3 .true (some (v20, h1)) h1) fun v24 h2 =>
  bnd (sGuard v3 .true (call 27 [v23, v24] h2) h2) fun v25 h3 =>
  bndP (pPick v3 v25 (.bool .false)) fun v26 =>
  j.1.1.2.2 v0 v26 v15 v16 v17 h3
noncomputable def f26.b3 (I : Inp) (call : CallFn) (j : f26.Js) (v0 v3 v15 v16 v17 : AVal) (h : AHeap) : Rs :=
  bndP (pBin .add v17 (Z 1)) fun v27 =>
  j.1.1.1.2 v0 v3 v15 v16 v27 h
noncomputable def f26.b4 (I : Inp) (call : CallFn) (j : f26.Js) (v0 v3 : AVal) (h : AHeap) : Rs :=
  bndP (pNilCheck v0) fun v52 =>
  bndP (pFieldAddr 2 v52) fun v53 =>
  bndP (pLoad1 I v53 h) fun v54 =>
  bndP (pLenSl v54) fun v55 =>
  j.2.1.1.2 v0 v3 v54 v55 (Z 0) h
noncomputable def f26.b5 (I : Inp) (call : CallFn) (j : f26.Js) (v0 v3 v31 v32 v33 : AVal) (h : AHeap) : Rs :=
  bndP (pBin .lss v33 v32) fun v34 =>
  sCond v34 (
  j.1.2.1.1 v0 v3 h) (
  j.1.2.2.1 v0 v3 v31 v32 v33 h)
noncomputable def f26.b6 (I : Inp) (call : CallFn) (j : f26.Js) (v0 v3 v31 v32 v33 : AVal) (h : AHeap) : Rs :=
  bndP (pIndexAddr 3 v31 v33) fun v35 =>
  bndP (pLoadN I 3 v35 h) fun v36 =>
  bnd (sAlloc [.nils, (Z 0), (Z 0)] h) fun v7 h1 =>
  bnd (sStore 3 v7 v36 h1) fun _ h2 =>
  bnd (sGuard v3 .true (some (v0, h2)) h2) fun v39 h3 =>
  bnd (sGuard v3 .true (lift (pFieldAddr 0 v7) h3) h3) fun v40 h4 =>
  bnd (sGuard v3 .true (lift (pLoad1 I v40 h4) h4) h4) fun v41 h5 =>
  bnd (sGuard v3 .true (call 27 [v39, v41] h5) h5) fun v42 h6 =>
  bndP (pPick v3 v42 (.bool .false)) fun v43 =>
  bnd (sGuard v43 .true (some (v0, h6)) h6) fun v45 h7 =>
  bnd (sGuard v43 .true (lift (pFieldAddr 1 v7) h7) h7) fun v46 h8 =>
  bnd (sGuard v43 .true (lift (pLoadN I 2 v46 h8) h8) h8) fun v47 h9 =>
  bnd (sGuard v43 .true (call 57 [v45, v47] h9) h9) fun v48 h10 =>
  bndP (pPick v43 v48 (.bool .false)) fun v49 =>
  j.1.2.2.2 v0 v49 v31 v32 v33 h10
noncomputable def f26.b7 (I : Inp) (call : CallFn) (j : f26.Js) (v0 v3 v31 v32 v33 : AVal) (h : AHeap) : Rs :=
  bndP (pBin .add v33 (Z 1)) fun v50 =>
  j.1.2.1.2 v0 v3 v31 v32 v50 h
noncomputable def f26.b8 (I : Inp) (call : CallFn) (j : f26.Js) (v0 v3 : AVal) (h : AHeap) : Rs :=
  bndP (pNilCheck v0) fun v73 =>
  bndP (pFieldAddr 3 v73) fun v74 =>
  bndP (pLoad1 I v74 h) fun v75 =>
  bndP (pLenSl v75) fun v76 =>
  j.2.2.1.2 v0 v3 v75 v76 (Z 0) h
noncomputable def f26.b9 (I : Inp) (call : CallFn) (j : f26.Js) (v0 v3 v54 v55 v56 : AVal) (h : AHeap) : Rs :=
  bndP (pBin .lss v56 v55) fun v57 =>
  sCond v57 (
  j.2.1.1.1 v0 v3 h) (
  j.2.1.2.1 v0 v3 v54 v55 v56 h)
noncomputable def f26.b10 (I : Inp) (call : CallFn) (j : f26.Js) (v0 v3 v54 v55 v56 : AVal) (h : AHeap) : Rs :=
  bndP (pIndexAddr 1 v54 v56) fun v58 =>
  bndP (pLoadN I 1 v58 h) fun v59 =>
  bnd (sAlloc [.nils] h) fun v9 h1 =>
  bnd (sStore 1 v9 v59 h1) fun _ h2 =>
  bnd (sGuard v3 .true (lift (pFieldAddr 0 v9) h2) h2) fun v62 h3 =>
  bnd (sGuard v3 .true (lift (pLoad1 I v62 h3) h3) h3) fun v63 h4 =>
  bnd (sGuard v3 .true (some (v0, h4)) h4) fun v64 h5 =>
  bnd (sGuard v3 .true (lift (pNilCheck v64) h5) h5) fun v65 h6 =>
  bnd (sGuard v3 .true (lift (pFieldAddr 1 v65) h6) h6) fun v66 h7 =>
  bnd (sGuard v3 .true (lift (pLoad1 I v66 h7) h7) h7) fun v67 h8 =>
  bnd (sGuard v3 .true (lift (pLenSl v67) h8) h8) fun v68 h9 =>
  bnd (sGuard v3 .true (call 58 [v63, v68] h9) h9) fun v69 h10 =>
  bndP (pPick v3 v69 (.bool .false)) fun v70 =>
  j.2.1.2.2 v0 v70 v54 v55 v56 h10
noncomputable def f26.b11 (I : Inp) (call : CallFn) (j : f26.Js) (v0 v3 v54 v55 v56 : AVal) (h : AHeap) : Rs :=
  bndP (pBin .add v56 (Z 1)) fun v71 =>
  j.2.1.1.2 v0 v3 v54 v55 v71 h
noncomputable def f26.b12 (I : Inp) (call : CallFn) (j : f26.Js) (v3 : AVal) (h : AHeap) : Rs :=
  some (v3, h)
noncomputable def f26.b13 (I : Inp) (call : CallFn) (j : f26.Js) (v0 v3 v75 v76 v77 : AVal) (h : AHeap) : Rs :=
  bndP (pBin .lss v77 v76) fun v78 =>
  sCond v78 (
  j.2.2.1.1 v3 h) (
  j.2.2.2.1 v0 v3 v75 v76 v77 h)
noncomputable def f26.b14 (I : Inp) (call : CallFn) (j : f26.Js) (v0 v3 v75 v76 v77 : AVal) (h : AHeap) : Rs :=
  bndP (pIndexAddr 3 v75 v77) fun v79 =>
  bndP (pLoadN I 3 v79 h) fun v80 =>
  bnd (sAlloc [(Z 0), (Z 0), .nils] h) fun v11 h1 =>
  bnd (sStore 3 v11 v80 h1) fun _ h2 =>
  bnd (sGuard v3 .true (lift (pFieldAddr 0 v11) h2) h2) fun v83 h3 =>
  bnd (sGuard v3 .true (lift (pLoad1 I v83 h3) h3) h3) fun v84 h4 =>
  bnd (sGuard v3 .true (some (v0, h4)) h4) fun v85 h5 =>
  bnd (sGuard v3 .true (lift (pNilCheck v85) h5) h5) fun v86 h6 =>
  bnd (sGuard v3 .true (lift (pFieldAddr 0 v86) h6) h6) fun v87 h7 =>
  bnd (sGuard v3 .true (lift (pLoad1 I v87 h7) h7) h7) fun v88 h8 =>
  bnd (sGuard v3 .true (lift (pLenSl v88) h8) h8) fun v89 h9 =>
  bnd (sGuard v3 .true (call 25 [v84, v89] h9) h9) fun v90 h10 =>
  bndP (pPick v3 v90 (.bool .false)) fun v91 =>
  bnd (sGuard v91 .true (lift (pFieldAddr 1 v11) h10) h10) fun v93 h11 =>
  bnd (sGuard v91 .true (lift (pLoad1 I v93 h11) h11) h11) fun v94 h12 =>
  bnd (sGuard v91 .true (some (v0, h12)) h12) fun v95 h13 =>
  bnd (sGuard v91 .true (lift (pNilCheck v95) h13) h13) fun v96 h14 =>
  bnd (sGuard v91 .true (lift (pFieldAddr 2 v96) h14) h14) fun v97 h15 =>
  bnd (sGuard v91 .true (lift (pLoad1 I v97 h15) h15) h15) fun v98 h16 =>
  bnd (sGuard v91 .true (lift (pLenSl v98) h16) h16) fun v99 h17 =>
  bnd (sGuard v91 .true (call 25 [v94, v99] h17) h17) fun v100 h18 =>
  bndP (pPick v91 v100 (.bool .false)) fun v101 =>
  bnd (sGuard v101 .true (lift (pFieldAddr 2 v11) h18) h18) fun v103 h19 =>
  bnd (sGuard v101 .true (lift (pLoad1 I v103 h19) h19) h19) fun v104 h20 =>
  bnd (sGuard v101 .true (some (v0, h20)) h20) fun v105 h21 =>
  bnd (sGuard v101 .true (lift (pNilCheck v105) h21) h21) fun v106 h22 =>
  bnd (sGuard v101 .true (lift (pFieldAddr 4 v106) h22) h22) fun v107 h23 =>
  bnd (sGuard v101 .true (lift (pLoad1 I v107 h23) h23) h23) fun v108 h24 =>
  bnd (sGuard v101 .true (lift (pLenSl v108) h24) h24) fun v109 h25 =>
  bnd (sGuard v101 .true (call 58 [v104, v109] h25) h25) fun v110 h26 =>
  bndP (pPick v101 v110 (.bool .false)) fun v111 =>
  j.2.2.2.2 v0 v111 v75 v76 v77 h26
noncomputable def f26.b15 (I : Inp) (call : CallFn) (j : f26.Js) (v0 v3 v75 v76 v77 : AVal) (h : AHeap) : Rs :=
  bndP (pBin .add v77 (Z 1)) fun v112 =>
  j.2.2.1.2 v0 v3 v75 v76 v112 h
noncomputable def f26.e (I : Inp) (call : CallFn) (j : f26.Js) (v0 : AVal) (h : AHeap) : Rs :=
  bndP (pNilCheck v0) fun v13 =>
  bndP (pFieldAddr 0 v13) fun v14 =>
  bndP (pLoad1 I v14 h) fun v15 =>
  bndP (pLenSl v15) fun v16 =>
  j.1.1.1.2 v0 (.bool .true) v15 v16 (Z 0) h
noncomputable def f26.J (I : Inp) (call : CallFn) (n : Nat) : f26.Js :=
  Nat.rec (motive := fun _ => f26.Js) (((((fun _ _ _ => none), (fun _ _ _ _ _ _ => none)), ((fun _ _ _ _ _ _ => none), (fun _ _ _ _ _ _ => none))), (((fun _ _ _ => none), (fun _ _ _ _ _ _ => none)), ((fun _ _ _ _ _ _ => none), (fun _ _ _ _ _ _ => none)))), ((((fun _ _ _ => none), (fun _ _ _ _ _ _ => none)), ((fun _ _ _ _ _ _ => none), (fun _ _ _ _ _ _ => none))), (((fun _ _ => none), (fun _ _ _ _ _ _ => none)), ((fun _ _ _ _ _ _ => none), (fun _ _ _ _ _ _ => none))))) (fun _ ih => ((((f26.b0 I call ih, f26.b1 I call ih), (f26.b2 I call ih, f26.b3 I call ih)), ((f26.b4 I call ih, f26.b5 I call ih), (f26.b6 I call ih, f26.b7 I call ih))), (((f26.b8 I call ih, f26.b9 I call ih), (f26.b10 I call ih, f26.b11 I call ih)), ((f26.b12 I call ih, f26.b13 I call ih), (f26.b14 I call ih, f26.b15 I call ih))))) n
theorem f26.n0 (I : Inp) (call : CallFn) (n : Nat) : (f26.J I call (n + 1)).1.1.1.1 = f26.b0 I call (f26.J I call n) := Eq.trans rfl rfl
theorem f26.n1 (I : Inp) (call : CallFn) (n : Nat) : (f26.J I call (n + 1)).1.1.1.2 = f26.b1 I call (f26.J I call n) := Eq.trans rfl rfl
theorem f26.n2 (I : Inp) (call : CallFn) (n : Nat) : (f26.J I call (n + 1)).1.1.2.1 = f26.b2 I call (f26.J I call n) := Eq.trans rfl rfl
theorem f26.n3 (I : Inp) (call : CallFn) (n : Nat) : (f26.J I call (n + 1)).1.1.2.2 = f26.b3 I call (f26.J I call n) := Eq.trans rfl rfl
theorem f26.n4 (I : Inp) (call : CallFn) (n : Nat) : (f26.J I call (n + 1)).1.2.1.1 = f26.b4 I call (f26.J I call n) := Eq.trans rfl rfl
theorem f26.n5 (I : Inp) (call : CallFn) (n : Nat) : (f26.J I call (n + 1)).1.2.1.2 = f26.b5 I call (f26.J I call n) := Eq.trans rfl rfl
theorem f26.n6 (I : Inp) (call : CallFn) (n : Nat) : (f26.J I call (n + 1)).1.2.2.1 = f26.b6 I call (f26.J I call n) := Eq.trans rfl rfl
theorem f26.n7 (I : Inp) (call : CallFn) (n : Nat) : (f26.J I call (n + 1)).1.2.2.2 = f26.b7 I call (f26.J I call n) := Eq.trans rfl rfl
theorem f26.n8 (I : Inp) (call : CallFn) (n : Nat) : (f26.J I call (n + 1)).2.1.1.1 = f26.b8 I call (f26.J I call n) := Eq.trans rfl rfl
theorem f26.n9 (I : Inp) (call : CallFn) (n : Nat) : (f26.J I call (n + 1)).2.1.1.2 = f26.b9 I call (f26.J I call n) := Eq.trans rfl rfl
theorem f26.n10 (I : Inp) (call : CallFn) (n : Nat) : (f26.J I call (n + 1)).2.1.2.1 = f26.b10 I call (f26.J I call n) := Eq.trans rfl rfl
theorem f26.n11 (I : Inp) (call : CallFn) (n : Nat) : (f26.J I call (n + 1)).2.1.2.2 = f26.b11 I call (f26.J I call n) := Eq.trans rfl rfl
theorem f26.n12 (I : Inp) (call : CallFn) (n : Nat) : (f26.J I call (n + 1)).2.2.1.1 = f26.b12 I call (f26.J I call n) := Eq.trans rfl rfl
theorem f26.n13 (I : Inp) (call : CallFn) (n : Nat) : (f26.J I call (n + 1)).2.2.1.2 = f26.b13 I call (f26.J I call n) := Eq.trans rfl rfl
theorem f26.n14 (I : Inp) (call : CallFn) (n : Nat) : (f26.J I call (n + 1)).2.2.2.1 = f26.b14 I call (f26.J I call n) := Eq.trans rfl rfl
theorem f26.n15 (I : Inp) (call : CallFn) (n : Nat) : (f26.J I call (n + 1)).2.2.2.2 = f26.b15 I call (f26.J I call n) := Eq.trans rfl rfl
noncomputable def f26.JS (I : Inp) (call : CallFn) (n : Nat) : Jmp := fun id ρ h =>
  (Bool.rec (motive := fun _ => _) (Bool.rec (motive := fun _ => _) (Bool.rec (motive := fun _ => _) (Bool.rec (motive := fun _ => _) ((f26.J I call n).2.2.2.2 (ρ 0) (ρ 3) (ρ 75) (ρ 76) (ρ 77) h) ((f26.J I call n).2.2.2.1 (ρ 0) (ρ 3) (ρ 75) (ρ 76) (ρ 77) h) (Nat.blt id 15)) (Bool.rec (motive := fun _ => _) ((f26.J I call n).2.2.1.2 (ρ 0) (ρ 3) (ρ 75) (ρ 76) (ρ 77) h) ((f26.J I call n).2.2.1.1 (ρ 3) h) (Nat.blt id 13)) (Nat.blt id 14)) (Bool.rec (motive := fun _ => _) (Bool.rec (motive := fun _ => _) ((f26.J I call n).2.1.2.2 (ρ 0) (ρ 3) (ρ 54) (ρ 55) (ρ 56) h) ((f26.J I call n).2.1.2.1 (ρ 0) (ρ 3) (ρ 54) (ρ 55) (ρ 56) h) (Nat.blt id 11)) (Bool.rec (motive := fun _ => _) ((f26.J I call n).2.1.1.2 (ρ 0) (ρ 3) (ρ 54) (ρ 55) (ρ 56) h) ((f26.J I call n).2.1.1.1 (ρ 0) (ρ 3) h) (Nat.blt id 9)) (Nat.blt id 10)) (Nat.blt id 12)) (Bool.rec (motive := fun _ => _) (Bool.rec (motive := fun _ => _) (Bool.rec (motive := fun _ => _) ((f26.J I call n).1.2.2.2 (ρ 0) (ρ 3) (ρ 31) (ρ 32) (ρ 33) h) ((f26.J I call n).1.2.2.1 (ρ 0) (ρ 3) (ρ 31) (ρ 32) (ρ 33) h) (Nat.blt id 7)) (Bool.rec (motive := fun _ => _) ((f26.J I call n).1.2.1.2 (ρ 0) (ρ 3) (ρ 31) (ρ 32) (ρ 33) h) ((f26.J I call n).1.2.1.1 (ρ 0) (ρ 3) h) (Nat.blt id 5)) (Nat.blt id 6)) (Bool.rec (motive := fun _ => _) (Bool.rec (motive := fun _ => _) ((f26.J I call n).1.1.2.2 (ρ 0) (ρ 3) (ρ 15) (ρ 16) (ρ 17) h) ((f26.J I call n).1.1.2.1 (ρ 0) (ρ 3) (ρ 15) (ρ 16) (ρ 17) h) (Nat.blt id 3)) (Bool.rec (motive := fun _ => _) ((f26.J I call n).1.1.1.2 (ρ 0) (ρ 3) (ρ 15) (ρ 16) (ρ 17) h) ((f26.J I call n).1.1.1.1 (ρ 0) (ρ 3) h) (Nat.blt id 1)) (Nat.blt id 2)) (Nat.blt id 4)) (Nat.blt id 8))
theorem f26.q0 (I : Inp) (call : CallFn) (n : Nat) (ρ : Fun) (h : AHeap) : f26.JS I call (n + 1) 0 ρ h = labC P I call (f26.JS I call n) c26.body 0 (finV I c26.results) 0 ρ h := by kernel_rfl
theorem f26.q1 (I : Inp) (call : CallFn) (n : Nat) (ρ : Fun) (h : AHeap) : f26.JS I call (n + 1) 1 ρ h = labC P I call (f26.JS I call n) c26.body 0 (finV I c26.results) 1 ρ h := by kernel_rfl
theorem f26.q2 (I : Inp) (call : CallFn) (n : Nat) (ρ : Fun) (h : AHeap) : f26.JS I call (n + 1) 2 ρ h = labC P I call (f26.JS I call n) c26.body 0 (finV I c26.results) 2 ρ h := by kernel_rfl
theorem f26.q3 (I : Inp) (call : CallFn) (n : Nat) (ρ : Fun) (h : AHeap) : f26.JS I call (n + 1) 3 ρ h = labC P I call (f26.JS I call n) c26.body 0 (finV I c26.results) 3 ρ h := by kernel_rfl
theorem f26.q4 (I : Inp) (call : CallFn) (n : Nat) (ρ : Fun) (h : AHeap) : f26.JS I call (n + 1) 4 ρ h = labC P I call (f26.JS I call n) c26.body 0 (finV I c26.results) 4 ρ h := by kernel_rfl
theorem f26.q5 (I : Inp) (call : CallFn) (n : Nat) (ρ : Fun) (h : AHeap) : f26.JS I call (n + 1) 5 ρ h = labC P I call (f26.JS I call n) c26.body 0 (finV I c26.results) 5 ρ h := by kernel_rfl
theorem f26.q6 (I : Inp) (call : CallFn) (n : Nat) (ρ : Fun) (h : AHeap) : f26.JS I call (n + 1) 6 ρ h = labC P I call (f26.JS I call n) c26.body 0 (finV I c26.results) 6 ρ h := by kernel_rfl
theorem f26.q7 (I : Inp) (call : CallFn) (n : Nat) (ρ : Fun) (h : AHeap) : f26.JS I call (n + 1) 7 ρ h = labC P I call (f26.JS I call n) c26.body 0 (finV I c26.results) 7 ρ h := by kernel_rfl
theorem f26.q8 (I : Inp) (call : CallFn) (n : Nat) (ρ : Fun) (h : AHeap) : f26.JS I call (n + 1) 8 ρ h = labC P I call (f26.JS I call n) c26.body 0 (finV I c26.results) 8 ρ h := by kernel_rfl
theorem f26.q9 (I : Inp) (call : CallFn) (n : Nat) (ρ : Fun) (h : AHeap) : f26.JS I call (n + 1) 9 ρ h = labC P I call (f26.JS I call n) c26.body 0 (finV I c26.results) 9 ρ h := by kernel_rfl
theorem f26.q10 (I : Inp) (call : CallFn) (n : Nat) (ρ : Fun) (h : AHeap) : f26.JS I call (n + 1) 10 ρ h = labC P I call (f26.JS I call n) c26.body 0 (finV I c26.results) 10 ρ h := by kernel_rfl
theorem f26.q11 (I : Inp) (call : CallFn) (n : Nat) (ρ : Fun) (h : AHeap) : f26.JS I call (n + 1) 11 ρ h = labC P I call (f26.JS I call n) c26.body 0 (finV I c26.results) 11 ρ h := by kernel_rfl
theorem f26.q12 (I : Inp) (call : CallFn) (n : Nat) (ρ : Fun) (h : AHeap) : f26.JS I call (n + 1) 12 ρ h = labC P I call (f26.JS I call n) c26.body 0 (finV I c26.results) 12 ρ h := by kernel_rfl
theorem f26.q13 (I : Inp) (call : CallFn) (n : Nat) (ρ : Fun) (h : AHeap) : f26.JS I call (n + 1) 13 ρ h = labC P I call (f26.JS I call n) c26.body 0 (finV I c26.results) 13 ρ h := by kernel_rfl
theorem f26.q14 (I : Inp) (call : CallFn) (n : Nat) (ρ : Fun) (h : AHeap) : f26.JS I call (n + 1) 14 ρ h = labC P I call (f26.JS I call n) c26.body 0 (finV I c26.results) 14 ρ h := by kernel_rfl
theorem f26.q15 (I : Inp) (call : CallFn) (n : Nat) (ρ : Fun) (h : AHeap) : f26.JS I call (n + 1) 15 ρ h = labC P I call (f26.JS I call n) c26.body 0 (finV I c26.results) 15 ρ h := by kernel_rfl
theorem f26.S (I : Inp) (F : Nat → Option AFn) (call : CallFn) : SFn ⟨P, I, F⟩ call c26 (f26.JS I call) :=
  ⟨fun id hid ρ h => by
    have hc : c26.body.cnt = 16 := by kernel_rfl
    rw [hc] at hid
    exact match id, hid with
    | 0, _ => rfl
    | 1, _ => rfl
    | 2, _ => rfl
    | 3, _ => rfl
    | 4, _ => rfl
    | 5, _ => rfl
    | 6, _ => rfl
    | 7, _ => rfl
    | 8, _ => rfl
    | 9, _ => rfl
    | 10, _ => rfl
    | 11, _ => rfl
    | 12, _ => rfl
    | 13, _ => rfl
    | 14, _ => rfl
    | 15, _ => rfl
    | id + 16, hid => absurd hid (by omega), fun n id hid ρ h => by
    have hc : c26.body.cnt = 16 := by kernel_rfl
    rw [hc] at hid
    exact match id, hid with
    | 0, _ => f26.q0 I call n ρ h
    | 1, _ => f26.q1 I call n ρ h
    | 2, _ => f26.q2 I call n ρ h
    | 3, _ => f26.q3 I call n ρ h
    | 4, _ => f26.q4 I call n ρ h
    | 5, _ => f26.q5 I call n ρ h
    | 6, _ => f26.q6 I call n ρ h
    | 7, _ => f26.q7 I call n ρ h
    | 8, _ => f26.q8 I call n ρ h
    | 9, _ => f26.q9 I call n ρ h
    | 10, _ => f26.q10 I call n ρ h
    | 11, _ => f26.q11 I call n ρ h
    | 12, _ => f26.q12 I call n ρ h
    | 13, _ => f26.q13 I call n ρ h
    | 14, _ => f26.q14 I call n ρ h
    | 15, _ => f26.q15 I call n ρ h
    | id + 16, hid => absurd hid (by omega)⟩
noncomputable def f26.run (I : Inp) : SF := fun call n a h =>
  match a with
  | [v0] => f26.e I call (f26.J I call n) v0 h
  | _ => none
theorem f26.qe (I : Inp) (call : CallFn) (n : Nat) (v0 : AVal) (h : AHeap) : f26.e I call (f26.J I call n) v0 h = execC P I call (f26.JS I call n) c26.body 0 (finV I c26.results) (argV [v0]) h := by kernel_rfl
theorem f26.code : codeOf P 26 = some c26 := by kernel_rfl
theorem f26.ok (I : Inp) (F : Nat → Option AFn) (hF : F 26 = some (.code c26)) : SfOk P I F 26 (f26.run I) := by
  intro call hc n args h r hr
  unfold f26.run at hr
  split at hr
  · exact fn_sound (C := ⟨P, I, F⟩) (n := n) hc hF (Nat.le_of_ble_eq_true (by kernel_rfl)) (by kernel_rfl) (f26.S I F call) (by kernel_rfl) ((f26.qe I call n _ h).symm.trans hr)
  · cases hr
theorem f26.qr (I : Inp) (call : CallFn) (n : Nat) (v0 : AVal) (h : AHeap) : f26.run I call n [v0] h = f26.e I call (f26.J I call n) v0 h := by kernel_rfl
theorem f26.lim {I : Inp} {prims : Nat → Option Prim} (hp : prims 26 = none) {n : Nat} {v0 : AVal} {h : AHeap} {Q : AVal → AHeap → Prop} (hr : Res (f26.e I (AM.lim ⟨P, I, genF P prims⟩) (f26.J I (AM.lim ⟨P, I, genF P prims⟩) n) v0 h) Q) :
    Res (AM.lim ⟨P, I, genF P prims⟩ 26 [v0] h) Q := by
  obtain ⟨v, h', e, q⟩ := hr
  exact ⟨v, h', lim_sf (C := ⟨P, I, genF P prims⟩) (n := n) (f26.ok I (genF P prims) (genF_code hp f26.code)) ((f26.qr I _ n v0 h).trans e), q⟩
/-! haruspex/types.all -/
noncomputable def c27 : AFunc := (AFunc.mk 18 2 [(.tmp 4)] (.seq (.region [(S 4 (.move (.val (.bool .false))) .none)]) (.seq (.seq (.region [(M 7 1), (S 8 (.lenSl (T 7)) .none), (S 9 (.move (V 0)) .none)]) (.block 0 (.loop (.seq (.region [(S 10 (.bin .lss (T 9) (T 8)) .none)]) (.seq (.cond (T 10) .skip (.exit 0)) (.seq (.block 1 (.seq (.region [(S 11 (.indexAddr 2 (T 7) (T 9)) .none), (S 12 (.loadN 2 (T 11)) .none), (S 6 (.alloc [(Z 0), (Z 0)]) .none), (AOper.mk .none (.store 2 (T 6) (T 12)) .none)]) (.seq (.region [(M 13 0), (S 14 (.loadN 2 (T 6)) .none), (S 15 (.call 57 [(T 13), (T 14)]) .none), (S 16 (.un .not (T 15)) .none)]) (.cond (T 16) (.seq (.region [(S 4 (.move (.val (.bool .false))) .none)]) .ret) .skip)))) (.region [(S 17 (.bin .add (T 9) (V 1)) .none), (M 9 17)]))))))) (.seq (.region [(S 4 (.move (.val (.bool .true))) .none)]) .ret))))
abbrev f27.Js : Type := (((AHeap → Rs) × (AVal → AVal → AVal → AVal → AHeap → Rs)) × ((AVal → AVal → AVal → AVal → AHeap → Rs) × (AVal → AVal → AVal → AVal → AHeap → Rs)))
noncomputable def f27.b0 (I : Inp) (call : CallFn) (j : f27.Js) (h : AHeap) : Rs :=
  some ((.bool .true), h)
noncomputable def f27.b1 (I : Inp) (call : CallFn) (j : f27.Js) (v0 v7 v8 v9 : AVal) (h : AHeap) : Rs :=
  bndP (pBin .lss v9 v8) fun v10 =>
  sCond v10 (
  j.1.1 h) (
  j.2.1 v0 v7 v8 v9 h)
noncomputable def f27.b2 (I : Inp) (call : CallFn) (j : f27.Js) (v0 v7 v8 v9 : AVal) (h : AHeap) : Rs :=
  bndP (pIndexAddr 2 v7 v9) fun v11 =>
  bndP (pLoadN I 2 v11 h) fun v12 =>
  bnd (sAlloc [(Z 0), (Z 0)] h) fun v6 h1 =>
  bnd (sStore 2 v6 v12 h1) fun _ h2 =>
  bndP (pLoadN I 2 v6 h2) fun v14 =>
  bnd (call 57 [v0, v14] h2) fun v15 h3 =>
  bndP (pUn .not v15) fun v16 =>
  sCond v16 (
  j.2.2 v0 v7 v8 v9 h3) (
  some ((.bool .false), h3))
noncomputable def f27.b3 (I : Inp) (call : CallFn) (j : f27.Js) (v0 v7 v8 v9 : AVal) (h : AHeap) : Rs :=
  bndP (pBin .add v9 (Z 1)) fun v17 =>
  j.1.2 v0 v7 v8 v17 h
noncomputable def f27.e (I : Inp) (call : CallFn) (j : f27.Js) (v0 v1 : AVal) (h : AHeap) : Rs :=
  bndP (pLenSl v1) fun v8 =>
  j.1.2 v0 v1 v8 (Z 0) h
noncomputable def f27.J (I : Inp) (call : CallFn) (n : Nat) : f27.Js :=
  Nat.rec (motive := fun _ => f27.Js) (((fun _ => none), (fun _ _ _ _ _ => none)), ((fun _ _ _ _ _ => none), (fun _ _ _ _ _ => none))) (fun _ ih => ((f27.b0 I call ih, f27.b1 I call ih), (f27.b2 I call ih, f27.b3 I call ih))) n
theorem f27.n0 (I : Inp) (call : CallFn) (n : Nat) : (f27.J I call (n + 1)).1.1 = f27.b0 I call (f27.J I call n) := Eq.trans rfl rfl
theorem f27.n1 (I : Inp) (call : CallFn) (n : Nat) : (f27.J I call (n + 1)).1.2 = f27.b1 I call (f27.J I call n) := Eq.trans rfl rfl
theorem f27.n2 (I : Inp) (call : CallFn) (n : Nat) : (f27.J I call (n + 1)).2.1 = f27.b2 I call (f27.J I call n) := Eq.trans rfl rfl
theorem f27.n3 (I : Inp) (call : CallFn) (n : Nat) : (f27.J I call (n + 1)).2.2 = f27.b3 I call (f27.J I call n) := Eq.trans rfl rfl
noncomputable def f27.JS (I : Inp) (call : CallFn) (n : Nat) : Jmp := fun id ρ h =>
  (Bool.rec (motive := fun _ => _) (Bool.rec (motive := fun _ => _) ((f27.J I call n).2.2 (ρ 0) (ρ 7) (ρ 8) (ρ 9) h) ((f27.J I call n).2.1 (ρ 0) (ρ 7) (ρ 8) (ρ 9) h) (Nat.blt id 3)) (Bool.rec (motive := fun _ => _) ((f27.J I call n).1.2 (ρ 0) (ρ 7) (ρ 8) (ρ 9) h) ((f27.J I call n).1.1 h) (Nat.blt id 1)) (Nat.blt id 2))
theorem f27.q0 (I : Inp) (call : CallFn) (n : Nat) (ρ : Fun) (h : AHeap) : f27.JS I call (n + 1) 0 ρ h = labC P I call (f27.JS I call n) c27.body 0 (finV I c27.results) 0 ρ h := by kernel_rfl
theorem f27.q1 (I : Inp) (call : CallFn) (n : Nat) (ρ : Fun) (h : AHeap) : f27.JS I call (n + 1) 1 ρ h = labC P I call (f27.JS I call n) c27.body 0 (finV I c27.results) 1 ρ h := by kernel_rfl
theorem f27.q2 (I : Inp) (call : CallFn) (n : Nat) (ρ : Fun) (h : AHeap) : f27.JS I call (n + 1) 2 ρ h = labC P I call (f27.JS I call n) c27.body 0 (finV I c27.results) 2 ρ h := by kernel_rfl
theorem f27.q3 (I : Inp) (call : CallFn) (n : Nat) (ρ : Fun) (h : AHeap) : f27.JS I call (n + 1) 3 ρ h = labC P I call (f27.JS I call n) c27.body 0 (finV I c27.results) 3 ρ h := by kernel_rfl
theorem f27.S (I : Inp) (F : Nat → Option AFn) (call : CallFn) : SFn ⟨P, I, F⟩ call c27 (f27.JS I call) :=
  ⟨fun id hid ρ h => by
    have hc : c27.body.cnt = 4 := by kernel_rfl
    rw [hc] at hid
    exact match id, hid with
    | 0, _ => rfl
    | 1, _ => rfl
    | 2, _ => rfl
    | 3, _ => rfl
    | id + 4, hid => absurd hid (by omega), fun n id hid ρ h => by
    have hc : c27.body.cnt = 4 := by kernel_rfl
    rw [hc] at hid
    exact match id, hid with
    | 0, _ => f27.q0 I call n ρ h
    | 1, _ => f27.q1 I call n ρ h
    | 2, _ => f27.q2 I call n ρ h
    | 3, _ => f27.q3 I call n ρ h
    | id + 4, hid => absurd hid (by omega)⟩
noncomputable def f27.run (I : Inp) : SF := fun call n a h =>
  match a with
  | [v0, v1] => f27.e I call (f27.J I call n) v0 v1 h
  | _ => none
theorem f27.qe (I : Inp) (call : CallFn) (n : Nat) (v0 v1 : AVal) (h : AHeap) : f27.e I call (f27.J I call n) v0 v1 h = execC P I call (f27.JS I call n) c27.body 0 (finV I c27.results) (argV [v0, v1]) h := by kernel_rfl
theorem f27.code : codeOf P 27 = some c27 := by kernel_rfl
theorem f27.ok (I : Inp) (F : Nat → Option AFn) (hF : F 27 = some (.code c27)) : SfOk P I F 27 (f27.run I) := by
  intro call hc n args h r hr
  unfold f27.run at hr
  split at hr
  · exact fn_sound (C := ⟨P, I, F⟩) (n := n) hc hF (Nat.le_of_ble_eq_true (by kernel_rfl)) (by kernel_rfl) (f27.S I F call) (by kernel_rfl) ((f27.qe I call n _ _ h).symm.trans hr)
  · cases hr
theorem f27.qr (I : Inp) (call : CallFn) (n : Nat) (v0 v1 : AVal) (h : AHeap) : f27.run I call n [v0, v1] h = f27.e I call (f27.J I call n) v0 v1 h := by kernel_rfl
theorem f27.lim {I : Inp} {prims : Nat → Option Prim} (hp : prims 27 = none) {n : Nat} {v0 v1 : AVal} {h : AHeap} {Q : AVal → AHeap → Prop} (hr : Res (f27.e I (AM.lim ⟨P, I, genF P prims⟩) (f27.J I (AM.lim ⟨P, I, genF P prims⟩) n) v0 v1 h) Q) :
    Res (AM.lim ⟨P, I, genF P prims⟩ 27 [v0, v1] h) Q := by
  obtain ⟨v, h', e, q⟩ := hr
  exact ⟨v, h', lim_sf (C := ⟨P, I, genF P prims⟩) (n := n) (f27.ok I (genF P prims) (genF_code hp f27.code)) ((f27.qr I _ n v0 v1 h).trans e), q⟩
end Go.Proofs.YthihegmbdclikaaDoor.Sf
