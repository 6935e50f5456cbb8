/- AM, part 21: what the abstract machine comes to, without a count of rounds: rules to walk by. -/
import Derived.Test.YthihegmbdclikaaDoorAmLaw
namespace Go.AM
noncomputable section
open Go.RowKit

section
variable {P : Program} {I : Inp}

/-! ### more rounds, the same answer -/
def Le (c c' : CallFn) : Prop := ∀ g args h r, c g args h = some r → c' g args h = some r

theorem valOper_le {c c' : CallFn} (hc : Le c c') {o : AOper} {f : Fr} {h : AHeap} {r : AVal × AHeap} (hr : valOper P I c o f h = some r) : valOper P I c' o f h = some r := by
  obtain ⟨dst, op, guard⟩ := o
  cases guard with
  | none =>
    simp only [valOper, AOp.stepK_eq] at hr ⊢
    split at hr
    · exact hc _ _ _ _ hr
    · exact hr
  | some gd =>
    simp only [valOper, AOp.stepK_eq] at hr ⊢
    split at hr
    · split at hr
      · split at hr
        · exact hc _ _ _ _ hr
        · exact hr
      · exact hr
    · exact hr

theorem runOper_le {c c' : CallFn} (hc : Le c c') {o : AOper} {f : Fr} {h : AHeap} {r : Fr × AHeap} (hr : runOper P I c o f h = some r) : runOper P I c' o f h = some r := by
  simp only [runOper] at hr ⊢
  split at hr
  · rename_i v h1 hv; rw [valOper_le hc hv]; exact hr
  · cases hr

theorem runOps_le {c c' : CallFn} (hc : Le c c') : ∀ {ops : List AOper} {f : Fr} {h : AHeap} {r : Fr × AHeap}, runOps P I c ops f h = some r → runOps P I c' ops f h = some r
  | [], _, _, _, hr => hr
  | o :: ops, f, h, r, hr => by
    simp only [runOps] at hr ⊢
    split at hr
    · rename_i f1 h1 h2; rw [runOper_le hc h2]; exact runOps_le hc hr
    · cases hr

theorem trace_le {c c' : CallFn} (hc : Le c c') : ∀ {ops : List AOper} {f : Fr} {h : AHeap} {r}, trace P I c ops f h = some r → trace P I c' ops f h = some r
  | [], _, _, _, hr => hr
  | o :: ops, f, h, r, hr => by
    simp only [trace] at hr ⊢
    split at hr
    · rename_i v h1 hv
      rw [valOper_le hc hv]
      split at hr
      · rename_i l f2 h2 ht
        simp only [trace_le hc ht]
        exact hr
      · cases hr
    · cases hr

theorem chkOne_le {c c' : CallFn} (hc : Le c c') {hs : List AHeap} {o : AOper} {e : Fr × AVal × AHeap} {s : Nat} (h : chkOne P I c hs o e s = true) : chkOne P I c' hs o e s = true := by
  unfold chkOne at h ⊢
  split at h
  · split at h
    · rename_i v h1 hv; simp only [valOper_le hc hv]; exact h
    · cases h
  · cases h

theorem chkAll_le {c c' : CallFn} (hc : Le c c') {hs : List AHeap} : ∀ {os : List AOper} {is : List (Bool × List Nat)} {es : List (Fr × AVal × AHeap)}, chkAll P I c hs os is es = true → chkAll P I c' hs os is es = true := by
  intro os
  induction os with
  | nil => intro is es _; rfl
  | cons o os ih =>
    intro is es h
    cases is with
    | nil => rfl
    | cons i is =>
      cases es with
      | nil => rfl
      | cons e es =>
        obtain ⟨a, l⟩ := i
        simp only [chkAll, Bool.and_eq_true, List.all_eq_true] at h ⊢
        exact ⟨fun s hs => chkOne_le hc (h.1 s hs), ih h.2⟩

theorem iter_le {b b' : Fr → AHeap → Option (Ex × Fr × AHeap)} (hb : ∀ f h r, b f h = some r → b' f h = some r) : ∀ {n m : Nat}, n ≤ m → ∀ {f : Fr} {h : AHeap} {r}, iter b n f h = some r → iter b' m f h = some r
  | 0, _, _, _, _, _, hr => by cases hr
  | n + 1, 0, hnm, _, _, _, _ => by omega
  | n + 1, m + 1, hnm, f, h, r, hr => by
    simp only [iter] at hr ⊢
    cases hx : b f h with
    | none => rw [hx] at hr; cases hr
    | some p =>
      obtain ⟨x, f1, h1⟩ := p
      rw [hx] at hr
      rw [hb _ _ _ hx]
      cases x with
      | normal => exact iter_le hb (by omega) hr
      | exit id => exact hr
      | ret => exact hr

theorem exec_le {c c' : CallFn} (hc : Le c c') {n m : Nat} (hnm : n ≤ m) : ∀ (ac : ACode) {f : Fr} {h : AHeap} {r}, exec P I c n ac f h = some r → exec P I c' m ac f h = some r := by
  intro ac
  induction ac with
  | skip => intro f h r hr; exact hr
  | region ops =>
    intro f h r hr
    simp only [exec] at hr ⊢
    split at hr
    · rename_i f1 h1 hx; rw [runOps_le hc hx]; exact hr
    · cases hr
  | draw ops info k =>
    intro f h r hr
    have go : ∀ {ops : List AOper} {h0 : AHeap}, (match trace P I c ops f h0 with
        | some (es, f', h') => match chkAll P I c (h0 :: heapsOf info es) ops info es with
          | true => some (Ex.normal, f', h')
          | false => none
        | none => none) = some r → (match trace P I c' ops f h0 with
        | some (es, f', h') => match chkAll P I c' (h0 :: heapsOf info es) ops info es with
          | true => some (Ex.normal, f', h')
          | false => none
        | none => none) = some r := by
      intro ops h0 hr
      split at hr
      · rename_i es f1 h1 ht
        simp only [trace_le hc ht]
        split at hr
        · rename_i hk; rw [chkAll_le hc hk]; exact hr
        · cases hr
      · cases hr
    cases k with
    | zero => simp only [exec] at hr ⊢; exact go hr
    | succ k =>
      simp only [exec] at hr ⊢
      split at hr
      · exact go hr
      · cases hr
  | seq a b iha ihb =>
    intro f h r hr
    simp only [exec] at hr ⊢
    cases hx : exec P I c n a f h with
    | none => rw [hx] at hr; cases hr
    | some p =>
      obtain ⟨x, f1, h1⟩ := p
      rw [hx] at hr
      rw [iha hx]
      cases x with
      | normal => exact ihb hr
      | exit id => exact hr
      | ret => exact hr
  | cond o t e iht ihe =>
    intro f h r hr
    simp only [exec] at hr ⊢
    split at hr
    · exact iht hr
    · exact ihe hr
    · cases hr
  | block id a ih =>
    intro f h r hr
    simp only [exec] at hr ⊢
    cases hx : exec P I c n a f h with
    | none => rw [hx] at hr; cases hr
    | some p => rw [hx] at hr; rw [ih hx]; exact hr
  | loop a ih =>
    intro f h r hr
    simp only [exec] at hr ⊢
    exact iter_le (fun f h r h1 => ih h1) hnm hr
  | exit id => intro f h r hr; exact hr
  | ret => intro f h r hr; exact hr

theorem callF_le {F : Nat → Option AFn} : ∀ {n m : Nat}, n ≤ m → Le (callF P I F n) (callF P I F m)
  | 0, _, _ => fun g args h r hr => by cases hr
  | n + 1, 0, hnm => by omega
  | n + 1, m + 1, hnm => fun g args h r hr => by
    simp only [callF, execK_eq] at hr ⊢
    split at hr
    · cases hr
    · exact hr
    · split at hr
      · cases hr
      · split at hr
        · cases hr
        · rename_i x f1 h1 hne hx
          rw [exec_le (callF_le (F := F) (show n ≤ m by omega)) (by omega) _ hx]
          cases x with
          | normal => exact hr
          | exit id => exact absurd rfl (hne id)
          | ret => exact hr
        · cases hr
end

/-! ### the rules -/
structure Cx where
  P : Program
  I : Inp
  F : Nat → Option AFn

/-- A call comes to an answer that .. -/
def Ev (C : Cx) (g : Nat) (args : List AVal) (h : AHeap) (R : AVal → AHeap → Prop) : Prop := ∃ n v h', callF C.P C.I C.F n g args h = some (v, h') ∧ R v h'
/-- Code comes to an end that .. -/
def Wp (C : Cx) (c : ACode) (Q : Ex → Fr → AHeap → Prop) (f : Fr) (h : AHeap) : Prop := ∃ n x f' h', exec C.P C.I (callF C.P C.I C.F n) n c f h = some (x, f', h') ∧ Q x f' h'
/-- Operations, one behind the other. -/
def Ops (C : Cx) : List AOper → (Fr → AHeap → Prop) → Fr → AHeap → Prop
  | [], K, f, h => K f h
  | o :: r, K, f, h => ∃ n v h', valOper C.P C.I (callF C.P C.I C.F n) o f h = some (v, h') ∧ Ops C r K (putDst o f v) h'

section
variable {C : Cx}

theorem Ev.mono {g : Nat} {args : List AVal} {h : AHeap} {R R' : AVal → AHeap → Prop} (he : Ev C g args h R) (hr : ∀ v h', R v h' → R' v h') : Ev C g args h R' :=
  let ⟨n, v, h', h1, h2⟩ := he; ⟨n, v, h', h1, hr _ _ h2⟩
theorem Wp.mono {c : ACode} {Q Q' : Ex → Fr → AHeap → Prop} {f : Fr} {h : AHeap} (he : Wp C c Q f h) (hr : ∀ x f' h', Q x f' h' → Q' x f' h') : Wp C c Q' f h :=
  let ⟨n, x, f', h', h1, h2⟩ := he; ⟨n, x, f', h', h1, hr _ _ _ h2⟩

/-- What holds behind the end 'normal', else what was asked. -/
def andThen (K : Fr → AHeap → Prop) (Q : Ex → Fr → AHeap → Prop) : Ex → Fr → AHeap → Prop
  | .normal, f, h => K f h
  | x, f, h => Q x f h

theorem Ops.run : ∀ {ops : List AOper} {K : Fr → AHeap → Prop} {f : Fr} {h : AHeap}, Ops C ops K f h → ∃ n f' h', runOps C.P C.I (callF C.P C.I C.F n) ops f h = some (f', h') ∧ K f' h'
  | [], K, f, h, hk => ⟨0, f, h, rfl, hk⟩
  | o :: r, K, f, h, hk => by
    obtain ⟨n, v, h1, hv, hk⟩ := hk
    obtain ⟨m, f', h', hr, hq⟩ := Ops.run hk
    refine ⟨n + m, f', h', ?_, hq⟩
    have h2 := valOper_le (callF_le (F := C.F) (show n ≤ n + m by omega)) hv
    simp only [runOps, runOper, h2]
    exact runOps_le (callF_le (by omega)) hr

theorem wp_region' {ops : List AOper} {Q : Ex → Fr → AHeap → Prop} {f : Fr} {h : AHeap} (hk : Ops C ops (Q .normal) f h) : Wp C (.region ops) Q f h := by
  obtain ⟨n, f', h', hr, hq⟩ := Ops.run hk
  exact ⟨n, .normal, f', h', by simp [exec, hr], hq⟩

theorem wp_seq' {a b : ACode} {Q : Ex → Fr → AHeap → Prop} {f : Fr} {h : AHeap} (hk : Wp C a (andThen (Wp C b Q) Q) f h) : Wp C (.seq a b) Q f h := by
  obtain ⟨n, x, f1, h1, hr, hq⟩ := hk
  cases x with
  | normal =>
    obtain ⟨m, y, f2, h2, hr2, hq2⟩ := hq
    refine ⟨n + m, y, f2, h2, ?_, hq2⟩
    simp only [exec, exec_le (callF_le (F := C.F) (show n ≤ n + m by omega)) (show n ≤ n + m by omega) _ hr]
    exact exec_le (callF_le (by omega)) (by omega) _ hr2
  | exit id => exact ⟨n, .exit id, f1, h1, by simp [exec, hr], hq⟩
  | ret => exact ⟨n, .ret, f1, h1, by simp [exec, hr], hq⟩

theorem wp_skip' {Q : Ex → Fr → AHeap → Prop} {f : Fr} {h : AHeap} (hk : Q .normal f h) : Wp C .skip Q f h := ⟨0, _, _, _, rfl, hk⟩
theorem wp_ret' {Q : Ex → Fr → AHeap → Prop} {f : Fr} {h : AHeap} (hk : Q .ret f h) : Wp C .ret Q f h := ⟨0, _, _, _, rfl, hk⟩
theorem wp_exit' {id : Nat} {Q : Ex → Fr → AHeap → Prop} {f : Fr} {h : AHeap} (hk : Q (.exit id) f h) : Wp C (.exit id) Q f h := ⟨0, _, _, _, rfl, hk⟩

theorem wp_cond' {c : AOpd} {t e : ACode} {Q : Ex → Fr → AHeap → Prop} {f : Fr} {h : AHeap} {b : Bool} (hc : c.ev f = .bool b) (ht : b = true → Wp C t Q f h) (he : b = false → Wp C e Q f h) : Wp C (.cond c t e) Q f h := by
  cases b with
  | true =>
    obtain ⟨n, x, f1, h1, hr, hq⟩ := ht rfl
    exact ⟨n, x, f1, h1, by simp [exec, hc, hr], hq⟩
  | false =>
    obtain ⟨n, x, f1, h1, hr, hq⟩ := he rfl
    exact ⟨n, x, f1, h1, by simp [exec, hc, hr], hq⟩

/-- Out of a block. -/
def inBlk (id : Nat) (Q : Ex → Fr → AHeap → Prop) : Ex → Fr → AHeap → Prop
  | .exit i, f, h => if i = id then Q .normal f h else Q (.exit i) f h
  | x, f, h => Q x f h

theorem wp_block' {id : Nat} {c : ACode} {Q : Ex → Fr → AHeap → Prop} {f : Fr} {h : AHeap} (hk : Wp C c (inBlk id Q) f h) : Wp C (.block id c) Q f h := by
  obtain ⟨n, x, f1, h1, hr, hq⟩ := hk
  cases x with
  | normal => exact ⟨n, .normal, f1, h1, by simp [exec, hr], hq⟩
  | exit i =>
    simp only [inBlk] at hq
    by_cases hi : i = id
    · rw [if_pos hi] at hq
      exact ⟨n, .normal, f1, h1, by simp [exec, hr, hi], hq⟩
    · rw [if_neg hi] at hq
      refine ⟨n, .exit i, f1, h1, ?_, hq⟩
      have : Nat.beq i id = false := by
        cases hb : Nat.beq i id with
        | false => rfl
        | true => exact absurd (by simpa using hb) hi
      simp [exec, hr, this]
  | ret => exact ⟨n, .ret, f1, h1, by simp [exec, hr], hq⟩

theorem wp_loop_once {c : ACode} {Q : Ex → Fr → AHeap → Prop} {f : Fr} {h : AHeap} (hk : Wp C c (andThen (Wp C (.loop c) Q) Q) f h) : Wp C (.loop c) Q f h := by
  obtain ⟨n, x, f1, h1, hr, hq⟩ := hk
  cases x with
  | normal =>
    obtain ⟨m, y, f2, h2, hr2, hq2⟩ := hq
    refine ⟨n + m + 1, y, f2, h2, ?_, hq2⟩
    simp only [exec, iter]
    rw [exec_le (callF_le (F := C.F) (show n ≤ n + m + 1 by omega)) (show n ≤ n + m + 1 by omega) _ hr]
    simp only [exec] at hr2
    exact iter_le (fun f h r h1 => exec_le (callF_le (show m ≤ n + m + 1 by omega)) (by omega) c h1) (show m ≤ n + m by omega) hr2
  | exit id =>
    refine ⟨n + 1, .exit id, f1, h1, ?_, hq⟩
    simp only [exec, iter]
    rw [exec_le (callF_le (F := C.F) (show n ≤ n + 1 by omega)) (show n ≤ n + 1 by omega) _ hr]
  | ret =>
    refine ⟨n + 1, .ret, f1, h1, ?_, hq⟩
    simp only [exec, iter]
    rw [exec_le (callF_le (F := C.F) (show n ≤ n + 1 by omega)) (show n ≤ n + 1 by omega) _ hr]

/-- A loop, by what holds at its head and a measure. -/
theorem wp_loop' {c : ACode} {Q : Ex → Fr → AHeap → Prop} (J : Nat → Fr → AHeap → Prop) (hround : ∀ k f h, J k f h → Wp C c (andThen (fun f' h' => ∃ k', k' < k ∧ J k' f' h') Q) f h) : ∀ (k : Nat) (f : Fr) (h : AHeap), J k f h → Wp C (.loop c) Q f h := by
  intro k
  induction k using Nat.strongRecOn with
  | _ k ih =>
    intro f h hj
    refine wp_loop_once (Wp.mono (hround k f h hj) fun x f' h' hx => ?_)
    cases x with
    | normal => obtain ⟨k', hlt, hj'⟩ := hx; exact ih k' hlt f' h' hj'
    | exit id => exact hx
    | ret => exact hx

/-! operations -/
theorem ops_nil {K : Fr → AHeap → Prop} {f : Fr} {h : AHeap} (hk : K f h) : Ops C [] K f h := hk
/-- An operation that is no call. -/
theorem ops_step {d : Option Nat} {op : AOp} {r : List AOper} {K : Fr → AHeap → Prop} {f : Fr} {h : AHeap} {v : AVal} {h' : AHeap} (ht : op.target C.P f = none) (hs : op.step C.P C.I f h = some (v, h'))
    (hk : Ops C r K (putDst ⟨d, op, none⟩ f v) h') : Ops C (⟨d, op, none⟩ :: r) K f h :=
  ⟨0, v, h', by simp [valOper, AOp.stepK_eq, ht, hs], hk⟩
theorem ops_skip {d : Option Nat} {op : AOp} {t : Nat} {want b : Bool} {r : List AOper} {K : Fr → AHeap → Prop} {f : Fr} {h : AHeap} (hg : f.get t = .bool b) (hb : (b == want) = false)
    (hk : Ops C r K (putDst ⟨d, op, some (t, want)⟩ f aundef) h) : Ops C (⟨d, op, some (t, want)⟩ :: r) K f h :=
  ⟨0, aundef, h, by simp [valOper, hg, hb], hk⟩
theorem ops_guard {d : Option Nat} {op : AOp} {t : Nat} {want b : Bool} {r : List AOper} {K : Fr → AHeap → Prop} {f : Fr} {h : AHeap} (hg : f.get t = .bool b) (hb : (b == want) = true)
    (hk : Ops C (⟨d, op, none⟩ :: r) K f h) : Ops C (⟨d, op, some (t, want)⟩ :: r) K f h := by
  obtain ⟨n, v, h', hv, hk⟩ := hk
  exact ⟨n, v, h', by simpa [valOper, hg, hb] using hv, hk⟩
/-- A call. -/
theorem ops_call {d : Option Nat} {op : AOp} {r : List AOper} {K : Fr → AHeap → Prop} {f : Fr} {h : AHeap} {g : Nat} {args : List AVal} (ht : op.target C.P f = some (g, args))
    (he : Ev C g args h fun v h' => Ops C r K (putDst ⟨d, op, none⟩ f v) h') : Ops C (⟨d, op, none⟩ :: r) K f h := by
  obtain ⟨n, v, h', hr, hk⟩ := he
  exact ⟨n, v, h', by simp [valOper, ht, hr], hk⟩

/-- A function. -/
theorem ev_of_wp {g : Nat} {fn : AFunc} {args : List AVal} {h : AHeap} {R : AVal → AHeap → Prop} (hF : C.F g = some (.code fn)) (hl : Nat.ble args.length fn.ntmps = true)
    (hw : Wp C fn.body (fun x f h' => (∀ id, x ≠ .exit id) ∧ ∃ vs, ressOf C.I f h' fn.results = some vs ∧ R (oneOrTuple vs) h') (putArgs 0 args .nil) h) : Ev C g args h R := by
  obtain ⟨n, x, f1, h1, hr, hne, vs, hvs, hq⟩ := hw
  refine ⟨n + 1, oneOrTuple vs, h1, ?_, hq⟩
  simp only [callF, execK_eq, hF, hl, hr]
  cases x with
  | normal => simp [hvs]
  | exit id => exact absurd rfl (hne id)
  | ret => simp [hvs]

theorem ev_prim {g : Nat} {p : Prim} {args : List AVal} {h : AHeap} {R : AVal → AHeap → Prop} {v : AVal} {h' : AHeap} (hF : C.F g = some (.prim p)) (hp : p args h = some (v, h')) (hr : R v h') : Ev C g args h R :=
  ⟨1, v, h', by simp [callF, hF, hp], hr⟩
end

end

end Go.AM
