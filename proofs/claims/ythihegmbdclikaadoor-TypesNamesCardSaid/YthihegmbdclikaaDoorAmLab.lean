/- AM, part 24: code in continuation style, labels at its loops and joins; what it computes the abstract machine computes. Conditions: as each lemma says. -/
import Derived.Test.YthihegmbdclikaaDoorAmVal
namespace Go.AM
noncomputable section
open Go.RowKit

theorem bnd_some (v : AVal) (h : AHeap) (k : AVal → AHeap → Rs) : bnd (some (v, h)) k = k v h := rfl
theorem bnd_none (k : AVal → AHeap → Rs) : bnd none k = none := rfl
theorem bnd_inv {r : Rs} {k : AVal → AHeap → Rs} {x : AVal × AHeap} (h : bnd r k = some x) : ∃ v h', r = some (v, h') ∧ k v h' = some x := by
  cases r with
  | none => cases h
  | some p => exact ⟨p.1, p.2, rfl, h⟩

def sCond (c : AVal) (e t : Rs) : Rs :=
  match c with
  | .bool b => Bool.rec (motive := fun _ => Rs) e t b
  | _ => none

def sCheck (b : Bool) (r : Rs) : Rs := Bool.rec (motive := fun _ => Rs) none r b

/-- Numbers are kept. -/
def sKeep (m : Nat) (h : AHeap) (k : AHeap → Rs) : Rs :=
  Bool.rec (motive := fun _ => Rs) none (k ⟨h.t, h.next + (m + 1)⟩) h.room

def putV (o : AOper) (ρ : Fun) (v : AVal) : Fun :=
  match o.dst with
  | some d => ρ.put d v
  | none => ρ

/-- Is an operation's value the same in another heap? -/
def sSame (r : Rs) (v : AVal) : Bool :=
  match r with
  | some (v', _) => v'.eqb v
  | none => false

section
variable (P : Program) (I : Inp) (call : CallFn)

def opsC : List AOper → (Fun → AHeap → Rs) → Fun → AHeap → Rs
  | [], k, ρ, h => k ρ h
  | o :: r, k, ρ, h => bindO P I call o ρ h fun v h => opsC r k (putV o ρ v) h

def chkV (H : List AHeap) (o : AOper) (ρ : Fun) (v : AVal) : List Nat → Bool
  | [] => true
  | s :: l => (match H[s]? with | some h => sSame (valV P I call o ρ h) v | none => false) && chkV H o ρ v l

def pushH (b : Bool) (hs : List AHeap) (h : AHeap) : List AHeap := Bool.rec (motive := fun _ => List AHeap) hs (hs ++ [h]) b

/-- Checks that must hold at the end. -/
def drawC : List AOper → List (Bool × List Nat) → List AHeap → (List AHeap → Rs → Rs) → (Fun → AHeap → Rs) → Fun → AHeap → Rs
  | [], _, hs, ck, k, ρ, h => ck hs (k ρ h)
  | o :: os, [], hs, ck, k, ρ, h => bindO P I call o ρ h fun v h1 => drawC os [] hs ck k (putV o ρ v) h1
  | o :: os, (b, l) :: is, hs, ck, k, ρ, h => bindO P I call o ρ h fun v h1 =>
      drawC os is (pushH b hs h1)
        (match l with
          | [] => ck
          | s :: l => fun H r => ck H (sCheck (chkV P I call H o ρ v (s :: l)) r)) k (putV o ρ v) h1

def ACode.flat : ACode → Bool
  | .skip => true
  | .region _ => true
  | .draw _ _ _ => true
  | .seq a b => a.flat && b.flat
  | _ => false

/-- How many labels code has: its loops, and what follows what is not straight. -/
def ACode.cnt : ACode → Nat
  | .seq a b => match a.flat with
    | true => b.cnt
    | false => 1 + a.cnt + b.cnt
  | .cond _ t e => t.cnt + e.cnt
  | .block _ c => c.cnt
  | .loop c => 1 + c.cnt
  | _ => 0

abbrev Jmp := Nat → Fun → AHeap → Rs
abbrev Kont := Ex → Fun → AHeap → Rs

def kSeq (j : Fun → AHeap → Rs) (k : Kont) : Kont
  | .normal, ρ, h => j ρ h
  | .exit i, ρ, h => k (.exit i) ρ h
  | .ret, ρ, h => k .ret ρ h

def kBlk (id : Nat) (k : Kont) : Kont
  | .normal, ρ, h => k .normal ρ h
  | .exit i, ρ, h => match Nat.beq i id with
    | true => k .normal ρ h
    | false => k (.exit i) ρ h
  | .ret, ρ, h => k .ret ρ h

def execC (J : Jmp) : ACode → Nat → Kont → Fun → AHeap → Rs
  | .skip, _, k, ρ, h => k .normal ρ h
  | .region ops, _, k, ρ, h => opsC P I call ops (k .normal) ρ h
  | .draw ops info m, _, k, ρ, h => match m with
    | 0 => drawC P I call ops info [h] (fun _ r => r) (k .normal) ρ h
    | m + 1 => sKeep m h fun h0 => drawC P I call (ops.map (AOper.shift h.next)) info [h0] (fun _ r => r) (k .normal) ρ h0
  | .seq a b, n, k, ρ, h => match a.flat with
    | true => execC J a n (kSeq (execC J b n k) k) ρ h
    | false => execC J a (n + 1) (kSeq (J n) k) ρ h
  | .cond c t e, n, k, ρ, h => sCond (c.evV ρ) (execC J e (n + t.cnt) k ρ h) (execC J t n k ρ h)
  | .block id c, n, k, ρ, h => execC J c n (kBlk id k) ρ h
  | .loop _, n, _, ρ, h => J n ρ h
  | .exit id, _, k, ρ, h => k (.exit id) ρ h
  | .ret, _, k, ρ, h => k .ret ρ h

/-- What stands at a label. -/
def labC (J : Jmp) : ACode → Nat → Kont → Nat → Fun → AHeap → Rs
  | .seq a b, n, k, id => match a.flat with
    | true => labC J b n k id
    | false => match Nat.beq id n with
      | true => execC P I call J b (n + 1 + a.cnt) k
      | false => match Nat.blt id (n + 1 + a.cnt) with
        | true => labC J a (n + 1) (kSeq (J n) k) id
        | false => labC J b (n + 1 + a.cnt) k id
  | .cond _ t e, n, k, id => match Nat.blt id (n + t.cnt) with
    | true => labC J t n k id
    | false => labC J e (n + t.cnt) k id
  | .block i c, n, k, id => labC J c n (kBlk i k) id
  | .loop c, n, k, id => match Nat.beq id n with
    | true => execC P I call J c (n + 1) (kSeq (J n) k)
    | false => labC J c (n + 1) (kSeq (J n) k) id
  | _, _, _, _ => fun _ _ => none

def sRes1 (I : Inp) (x : AVal) (h : AHeap) : Option AVal :=
  match x with
  | .ptr l o => rd I h l o
  | _ => none
def sResN (I : Inp) (n : Nat) (x : AVal) (h : AHeap) : Option AVal :=
  match x with
  | .ptr l o => (rds I h l o n).map .agg
  | _ => none
def sCons (a : Option AVal) (b : Option (List AVal)) : Option (List AVal) :=
  match a, b with
  | some v, some vs => some (v :: vs)
  | _, _ => none

def resV (I : Inp) (ρ : Fun) (h : AHeap) : ARes → Option AVal
  | .tmp t => some (ρ t)
  | .cell1 t => sRes1 I (ρ t) h
  | .cellN t n => sResN I n (ρ t) h

def ressV (I : Inp) (ρ : Fun) (h : AHeap) : List ARes → Option (List AVal)
  | [] => some []
  | r :: rs => sCons (resV I ρ h r) (ressV I ρ h rs)

def sRet (r : Option (List AVal)) (h : AHeap) : Rs :=
  match r with
  | some vs => some (oneOrTuple vs, h)
  | none => none

/-- The end of a function. -/
def finV (rs : List ARes) : Kont
  | .normal, ρ, h => sRet (ressV I ρ h rs) h
  | .exit _, _, _ => none
  | .ret, ρ, h => sRet (ressV I ρ h rs) h

def argV (args : List AVal) : Fun := fun n => args.getD n aundef
end

/-! ### what it computes the abstract machine computes -/
/-- A call function that says nothing but what the abstract machine says. -/
def CallLe (C : Cx) (call : CallFn) : Prop := ∀ g args h r, call g args h = some r → ∃ n, callF C.P C.I C.F n g args h = some r

section
variable {C : Cx} {call : CallFn}

theorem valV_sound (hc : CallLe C call) {o : AOper} {f : Fr} {h : AHeap} {r : AVal × AHeap} (hr : valV C.P C.I call o (Fr.get f) h = some r) : ∃ n, valOper C.P C.I (callF C.P C.I C.F n) o f h = some r := by
  rw [valV_eq] at hr
  obtain ⟨dst, op, guard⟩ := o
  have go : ∀ {r : AVal × AHeap}, (match op.target C.P f with | some (g, args) => call g args h | none => op.stepK C.P C.I f h) = some r → ∃ n, (match op.target C.P f with | some (g, args) => callF C.P C.I C.F n g args h | none => op.stepK C.P C.I f h) = some r := by
    intro r hr
    cases ht : op.target C.P f with
    | none => rw [ht] at hr; exact ⟨0, hr⟩
    | some p => rw [ht] at hr; exact hc _ _ _ _ hr
  cases guard with
  | none => simp only [valOper] at hr ⊢; exact go hr
  | some g =>
    obtain ⟨t, want⟩ := g
    simp only [valOper] at hr ⊢
    cases hb : f.get t with
    | bool b =>
      rw [hb] at hr
      cases hw : b == want with
      | true => simp only [hw] at hr ⊢; exact go hr
      | false => simp only [hw] at hr ⊢; exact ⟨0, hr⟩
    | _ => rw [hb] at hr; exact ⟨0, hr⟩

theorem get_putDst {n : Nat} (hn : n ≤ 16000) {o : AOper} (hd : ∀ d, o.dst = some d → d < n) (f : Fr) (v : AVal) : Fr.get (putDst o f v) = putV o (Fr.get f) v := by
  unfold putDst putV
  cases hdst : o.dst with
  | none => rfl
  | some d =>
    have := hd d hdst
    funext m
    rw [Fr.get_put (by show d + 1 < 16384; omega)]
    show _ = (Bool.rec (motive := fun _ => AVal) (Fr.get f m) v (Nat.beq m d))
    rw [beq_if]

theorem opersIn_cons {n : Nat} {o : AOper} {r : List AOper} (h : opersIn n (o :: r) = true) : (∀ d, o.dst = some d → d < n) ∧ opersIn n r = true := by
  simp only [opersIn, List.all_cons, Bool.and_eq_true] at h
  refine ⟨fun d he => ?_, h.2⟩
  have := h.1
  rw [he] at this
  exact Nat.le_of_ble_eq_true this

theorem opsC_sound (hc : CallLe C call) {n : Nat} (hn : n ≤ 16000) {k : Fun → AHeap → Rs} {r : AVal × AHeap} : ∀ (ops : List AOper) (f : Fr) (h : AHeap), opersIn n ops = true → opsC C.P C.I call ops k (Fr.get f) h = some r →
    Ops C ops (fun f' h' => k (Fr.get f') h' = some r) f h
  | [], f, h, _, hr => hr
  | o :: ops, f, h, hin, hr => by
    obtain ⟨hd, hin⟩ := opersIn_cons hin
    obtain ⟨v, h1, hv, hk⟩ := bnd_inv ((bindO_eq ..).symm.trans hr)
    obtain ⟨m, hm⟩ := valV_sound hc hv
    rw [← get_putDst hn hd] at hk
    exact ⟨m, v, h1, hm, opsC_sound hc hn ops _ _ hin hk⟩

theorem chkV_sound (hc : CallLe C call) {H : List AHeap} {o : AOper} {f : Fr} {v : AVal} {h1 : AHeap} : ∀ (l : List Nat), chkV C.P C.I call H o (Fr.get f) v l = true → ∃ n, l.all (chkOne C.P C.I (callF C.P C.I C.F n) H o (f, v, h1)) = true
  | [], _ => ⟨0, rfl⟩
  | s :: l, h => by
    simp only [chkV, Bool.and_eq_true] at h
    obtain ⟨n, hn⟩ := chkV_sound hc l h.2
    have h1 := h.1
    split at h1
    · rename_i h2 hs
      unfold sSame at h1
      split at h1
      · rename_i v' h3 hv
        obtain ⟨m, hm⟩ := valV_sound hc hv
        refine ⟨n + m, ?_⟩
        simp only [List.all_cons, Bool.and_eq_true]
        refine ⟨?_, ?_⟩
        · simp only [chkOne, hs, valOper_le (callF_le (F := C.F) (show m ≤ n + m by omega)) hm]
          exact h1
        · rw [List.all_eq_true] at hn ⊢
          exact fun s hs => chkOne_le (callF_le (by omega)) (hn s hs)
      · cases h1
    · cases h1

theorem sCheck_inv {b : Bool} {r : Rs} {x : AVal × AHeap} (h : sCheck b r = some x) : b = true ∧ r = some x := by
  cases b with
  | true => exact ⟨rfl, h⟩
  | false => cases h

theorem drawC_sound (hc : CallLe C call) {n : Nat} (hn : n ≤ 16000) {k : Fun → AHeap → Rs} {r : AVal × AHeap} : ∀ (ops : List AOper) (is : List (Bool × List Nat)) (hs : List AHeap) (ck : List AHeap → Rs → Rs) (T : List AHeap → Prop) (f : Fr) (h : AHeap),
    (∀ H x, ck H x = some r → T H ∧ x = some r) → opersIn n ops = true → drawC C.P C.I call ops is hs ck k (Fr.get f) h = some r →
    ∃ m es f' h', trace C.P C.I (callF C.P C.I C.F m) ops f h = some (es, f', h') ∧ T (hs ++ heapsOf is es) ∧ chkAll C.P C.I (callF C.P C.I C.F m) (hs ++ heapsOf is es) ops is es = true ∧ k (Fr.get f') h' = some r
  | [], is, hs, ck, T, f, h, hT, _, hr => by
    obtain ⟨h1, h2⟩ := hT _ _ hr
    refine ⟨0, [], f, h, rfl, ?_, ?_, h2⟩
    · cases is with
      | nil => simpa [heapsOf] using h1
      | cons i is => obtain ⟨b, l⟩ := i; cases b <;> simpa [heapsOf] using h1
    · rfl
  | o :: ops, [], hs, ck, T, f, h, hT, hin, hr => by
    obtain ⟨hd, hin⟩ := opersIn_cons hin
    obtain ⟨v, h1, hv, hk⟩ := bnd_inv ((bindO_eq ..).symm.trans hr)
    obtain ⟨m, hm⟩ := valV_sound hc hv
    rw [← get_putDst hn hd] at hk
    obtain ⟨m', es, f', h', ht, h2, h3, h4⟩ := drawC_sound hc hn ops [] hs ck T _ _ hT hin hk
    refine ⟨m + m', (f, v, h1) :: es, f', h', ?_, ?_, ?_, h4⟩
    · simp only [trace, valOper_le (callF_le (F := C.F) (show m ≤ m + m' by omega)) hm, trace_le (callF_le (F := C.F) (show m' ≤ m + m' by omega)) ht]
    · simpa [heapsOf] using h2
    · rfl
  | o :: ops, (b, l) :: is, hs, ck, T, f, h, hT, hin, hr => by
    obtain ⟨hd, hin⟩ := opersIn_cons hin
    obtain ⟨v, h1, hv, hk⟩ := bnd_inv ((bindO_eq ..).symm.trans hr)
    obtain ⟨m, hm⟩ := valV_sound hc hv
    rw [← get_putDst hn hd] at hk
    obtain ⟨m', es, f', h', ht, ⟨h2, h2'⟩, h3, h4⟩ := drawC_sound hc hn ops is _ _ (fun H => T H ∧ chkV C.P C.I call H o (Fr.get f) v l = true) _ _ (fun H x hx => by
      cases l with
      | nil => exact ⟨⟨(hT _ _ hx).1, rfl⟩, (hT _ _ hx).2⟩
      | cons s l =>
        obtain ⟨q1, q2⟩ := hT _ _ hx
        obtain ⟨q3, q4⟩ := sCheck_inv q2
        exact ⟨⟨q1, q3⟩, q4⟩) hin hk
    have hheap : hs ++ heapsOf ((b, l) :: is) ((f, v, h1) :: es) = pushH b hs h1 ++ heapsOf is es := by
      cases b <;> simp [heapsOf, pushH]
    obtain ⟨q, hq⟩ := chkV_sound (h1 := h1) hc l h2'
    refine ⟨m + m' + q, (f, v, h1) :: es, f', h', ?_, ?_, ?_, h4⟩
    · simp only [trace, valOper_le (callF_le (F := C.F) (show m ≤ m + m' + q by omega)) hm, trace_le (callF_le (F := C.F) (show m' ≤ m + m' + q by omega)) ht]
    · rw [hheap]; exact h2
    · rw [hheap]
      simp only [chkAll, Bool.and_eq_true]
      refine ⟨?_, chkAll_le (callF_le (F := C.F) (show m' ≤ m + m' + q by omega)) h3⟩
      rw [List.all_eq_true] at hq ⊢
      exact fun s hs => chkOne_le (callF_le (F := C.F) (show q ≤ m + m' + q by omega)) (hq s hs)

theorem shift_dst (base : Nat) (x : AOper) : (x.shift base).dst = x.dst := by
  unfold AOper.shift
  split <;> rfl
theorem opersIn_shift {n base : Nat} {ops : List AOper} (h : opersIn n ops = true) : opersIn n (ops.map (AOper.shift base)) = true := by
  unfold opersIn at h ⊢
  rw [List.all_eq_true] at h ⊢
  intro x hx
  obtain ⟨y, hy, rfl⟩ := List.mem_map.1 hx
  rw [shift_dst]
  exact h y hy

/-- What follows, as a condition on the machine's end. -/
abbrev Post1 := Ex → Fun → AHeap → Prop
def WpF (C : Cx) (c : ACode) (Q : Post1) (ρ : Fun) (h : AHeap) : Prop := ∀ f, Fr.get f = ρ → Wp C c (fun x f' h' => Q x (Fr.get f') h') f h

def pSeq (j : Fun → AHeap → Prop) (Q : Post1) : Post1
  | .normal, ρ, h => j ρ h
  | .exit i, ρ, h => Q (.exit i) ρ h
  | .ret, ρ, h => Q .ret ρ h
def pBlk (id : Nat) (Q : Post1) : Post1
  | .normal, ρ, h => Q .normal ρ h
  | .exit i, ρ, h => if i = id then Q .normal ρ h else Q (.exit i) ρ h
  | .ret, ρ, h => Q .ret ρ h

/-- What a label means. -/
def labP (C : Cx) : ACode → Nat → Post1 → Nat → Fun → AHeap → Prop
  | .seq a b, n, Q, id => match a.flat with
    | true => labP C b n Q id
    | false => match Nat.beq id n with
      | true => WpF C b Q
      | false => match Nat.blt id (n + 1 + a.cnt) with
        | true => labP C a (n + 1) (pSeq (WpF C b Q) Q) id
        | false => labP C b (n + 1 + a.cnt) Q id
  | .cond _ t e, n, Q, id => match Nat.blt id (n + t.cnt) with
    | true => labP C t n Q id
    | false => labP C e (n + t.cnt) Q id
  | .block i c, n, Q, id => labP C c n (pBlk i Q) id
  | .loop c, n, Q, id => match Nat.beq id n with
    | true => WpF C (.loop c) Q
    | false => labP C c (n + 1) (pSeq (WpF C (.loop c) Q) Q) id
  | _, _, _, _ => fun _ _ => True

theorem flat_cnt : ∀ {c : ACode}, c.flat = true → c.cnt = 0
  | .skip, _ => rfl
  | .region _, _ => rfl
  | .draw _ _ _, _ => rfl
  | .seq a b, h => by
    simp only [ACode.flat, Bool.and_eq_true] at h
    simp only [ACode.cnt, h.1, flat_cnt h.2]
  | .cond _ _ _, h => by cases h
  | .block _ _, h => by cases h
  | .loop _, h => by cases h
  | .exit _, h => by cases h
  | .ret, h => by cases h

theorem blt_iff (a b : Nat) : Nat.blt a b = decide (a < b) := by
  rw [Bool.eq_iff_iff]; simp only [Nat.blt, Nat.ble_eq, decide_eq_true_eq]; omega
theorem beq_iff (a b : Nat) : Nat.beq a b = decide (a = b) := by
  rw [Bool.eq_iff_iff]; simp

theorem execC_sound (hc : CallLe C call) {n : Nat} (hn : n ≤ 16000) {r : AVal × AHeap} {J : Jmp} : ∀ (c : ACode) (b : Nat) (k : Kont) (Q : Post1), c.within n = true →
    (∀ id, b ≤ id → id < b + c.cnt → ∀ ρ h, J id ρ h = some r → labP C c b Q id ρ h) → (∀ x ρ h, k x ρ h = some r → Q x ρ h) → ∀ ρ h, execC C.P C.I call J c b k ρ h = some r → WpF C c Q ρ h := by
  intro c
  induction c with
  | skip => intro b k Q hw hJ hk ρ h hr f hf; subst hf; exact wp_skip' (hk _ _ _ hr)
  | region ops =>
    intro b k Q hw hJ hk ρ h hr f hf
    subst hf
    have := opsC_sound hc hn ops f h hw hr
    obtain ⟨m, f', h', h1, h2⟩ := Ops.run this
    exact ⟨m, .normal, f', h', by simp [exec, h1], hk _ _ _ h2⟩
  | draw ops info m =>
    intro b k Q hw hJ hk ρ h hr f hf
    subst hf
    cases m with
    | zero =>
      obtain ⟨m, es, f', h', ht, _, h3, h4⟩ := drawC_sound hc hn ops info [h] (fun _ r => r) (fun _ => True) f h (fun _ _ hx => ⟨trivial, hx⟩) hw hr
      refine ⟨m, .normal, f', h', ?_, hk _ _ _ h4⟩
      simp only [List.singleton_append] at h3
      simp only [exec, ht, h3]
    | succ m =>
      simp only [execC, sKeep] at hr
      cases hroom : h.room with
      | false => rw [hroom] at hr; cases hr
      | true =>
        rw [hroom] at hr
        obtain ⟨m', es, f', h', ht, _, h3, h4⟩ := drawC_sound hc hn _ info _ (fun _ r => r) (fun _ => True) f _ (fun _ _ hx => ⟨trivial, hx⟩) (opersIn_shift hw) hr
        refine ⟨m', .normal, f', h', ?_, hk _ _ _ h4⟩
        simp only [List.singleton_append] at h3
        simp only [exec, hroom, ht, h3]
  | seq a b' iha ihb =>
    intro b k Q hw hJ hk ρ h hr f hf
    simp only [ACode.within, Bool.and_eq_true] at hw
    simp only [execC] at hr
    cases hfl : a.flat with
    | true =>
      simp only [hfl] at hr
      have hca := flat_cnt hfl
      have hJb : ∀ id, b ≤ id → id < b + b'.cnt → ∀ ρ h, J id ρ h = some r → labP C b' b Q id ρ h := fun id h1 h2 ρ h hj => by
        have := hJ id h1 (by simp only [ACode.cnt, hfl]; exact h2) ρ h hj
        simpa only [labP, hfl] using this
      have := iha b (kSeq (execC C.P C.I call J b' b k) k) (pSeq (WpF C b' Q) Q) hw.1 (fun id h1 h2 => by omega) (fun x ρ h hx => by
        cases x with
        | normal => exact ihb b k Q hw.2 hJb hk ρ h hx
        | exit i => exact hk _ _ _ hx
        | ret => exact hk _ _ _ hx) ρ h hr f hf
      refine wp_seq' (this.mono fun x f' h' hq => ?_)
      cases x with
      | normal => exact hq f' rfl
      | exit i => exact hq
      | ret => exact hq
    | false =>
      simp only [hfl] at hr
      have hcnt : (ACode.seq a b').cnt = 1 + a.cnt + b'.cnt := by simp only [ACode.cnt, hfl]
      have := iha (b + 1) (kSeq (J b) k) (pSeq (WpF C b' Q) Q) hw.1 (fun id h1 h2 ρ h hj => by
        have := hJ id (by omega) (by omega) ρ h hj
        simp only [labP, hfl, beq_iff, blt_iff, show ¬ id = b by omega, show id < b + 1 + a.cnt by omega, decide_true, decide_false] at this
        exact this) (fun x ρ h hx => by
        cases x with
        | normal =>
          have := hJ b (by omega) (by omega) ρ h hx
          simp only [labP, hfl, beq_iff, decide_true] at this
          exact this
        | exit i => exact hk _ _ _ hx
        | ret => exact hk _ _ _ hx) ρ h hr f hf
      refine wp_seq' (this.mono fun x f' h' hq => ?_)
      cases x with
      | normal => exact hq f' rfl
      | exit i => exact hq
      | ret => exact hq
  | cond o t e iht ihe =>
    intro b k Q hw hJ hk ρ h hr f hf
    simp only [ACode.within, Bool.and_eq_true] at hw
    simp only [execC, sCond] at hr
    have hev : o.ev f = o.evV ρ := by subst hf; exact (evV_get f o).symm
    have hcnt : (ACode.cond o t e).cnt = t.cnt + e.cnt := rfl
    cases hx : o.evV ρ with
    | bool v =>
      rw [hx] at hr
      refine wp_cond' (hev.trans hx) (fun hv => ?_) (fun hv => ?_)
      · subst hv
        refine iht b k Q hw.1 (fun id h1 h2 ρ h hj => ?_) hk ρ h hr f hf
        have := hJ id h1 (by omega) ρ h hj
        simpa only [labP, blt_iff, show id < b + t.cnt from h2, decide_true] using this
      · subst hv
        refine ihe (b + t.cnt) k Q hw.2 (fun id h1 h2 ρ h hj => ?_) hk ρ h hr f hf
        have := hJ id (by omega) (by omega) ρ h hj
        simpa only [labP, blt_iff, show ¬ id < b + t.cnt by omega, decide_false] using this
    | _ => rw [hx] at hr; cases hr
  | block i c ih =>
    intro b k Q hw hJ hk ρ h hr f hf
    refine wp_block' ((ih b (kBlk i k) (pBlk i Q) hw hJ (fun x ρ h hx => ?_) ρ h hr f hf).mono fun x f' h' hq => ?_)
    · cases x with
      | normal => exact hk _ _ _ hx
      | ret => exact hk _ _ _ hx
      | exit j =>
        simp only [kBlk] at hx
        simp only [pBlk]
        by_cases hj : j = i
        · subst hj
          simp only [Nat.beq_refl] at hx
          rw [if_pos rfl]; exact hk _ _ _ hx
        · have : Nat.beq j i = false := by rw [beq_iff]; simpa using hj
          simp only [this] at hx
          rw [if_neg hj]; exact hk _ _ _ hx
    · cases x with
      | normal => exact hq
      | ret => exact hq
      | exit j => exact hq
  | loop c ih =>
    intro b k Q hw hJ hk ρ h hr f hf
    have := hJ b (by omega) (by simp only [ACode.cnt]; omega) ρ h hr
    simp only [labP, beq_iff, decide_true] at this
    exact this f hf
  | exit id => intro b k Q hw hJ hk ρ h hr f hf; subst hf; exact wp_exit' (hk _ _ _ hr)
  | ret => intro b k Q hw hJ hk ρ h hr f hf; subst hf; exact wp_ret' (hk _ _ _ hr)

theorem labC_sound (hc : CallLe C call) {n : Nat} (hn : n ≤ 16000) {r : AVal × AHeap} {J : Jmp} : ∀ (c : ACode) (b : Nat) (k : Kont) (Q : Post1), c.within n = true →
    (∀ id, b ≤ id → id < b + c.cnt → ∀ ρ h, J id ρ h = some r → labP C c b Q id ρ h) → (∀ x ρ h, k x ρ h = some r → Q x ρ h) → ∀ id, b ≤ id → id < b + c.cnt → ∀ ρ h, labC C.P C.I call J c b k id ρ h = some r → labP C c b Q id ρ h := by
  intro c
  induction c with
  | seq a b' iha ihb =>
    intro b k Q hw hJ hk id hb1 hb2 ρ h hr
    simp only [ACode.within, Bool.and_eq_true] at hw
    simp only [labC] at hr
    simp only [labP]
    cases hfl : a.flat with
    | true =>
      simp only [hfl] at hr ⊢
      have hcnt : (ACode.seq a b').cnt = b'.cnt := by simp only [ACode.cnt, hfl]
      refine ihb b k Q hw.2 (fun id h1 h2 ρ h hj => ?_) hk id hb1 (by omega) ρ h hr
      have := hJ id h1 (by omega) ρ h hj
      simpa only [labP, hfl] using this
    | false =>
      simp only [hfl, beq_iff, blt_iff] at hr ⊢
      have hcnt : (ACode.seq a b').cnt = 1 + a.cnt + b'.cnt := by simp only [ACode.cnt, hfl]
      have hJb : ∀ id, b + 1 + a.cnt ≤ id → id < b + 1 + a.cnt + b'.cnt → ∀ ρ h, J id ρ h = some r → labP C b' (b + 1 + a.cnt) Q id ρ h := fun id h1 h2 ρ h hj => by
        have := hJ id (by omega) (by omega) ρ h hj
        simpa only [labP, hfl, beq_iff, blt_iff, show ¬ id = b by omega, show ¬ id < b + 1 + a.cnt by omega, decide_false] using this
      by_cases h0 : id = b
      · simp only [h0, decide_true] at hr ⊢
        exact execC_sound hc hn b' _ k Q hw.2 hJb hk ρ h hr
      · simp only [h0, decide_false] at hr ⊢
        by_cases h1 : id < b + 1 + a.cnt
        · simp only [h1, decide_true] at hr ⊢
          refine iha (b + 1) (kSeq (J b) k) (pSeq (WpF C b' Q) Q) hw.1 (fun id h1 h2 ρ h hj => ?_) (fun x ρ h hx => ?_) id (by omega) (by omega) ρ h hr
          · have := hJ id (by omega) (by omega) ρ h hj
            simpa only [labP, hfl, beq_iff, blt_iff, show ¬ id = b by omega, show id < b + 1 + a.cnt by omega, decide_true, decide_false] using this
          · cases x with
            | normal =>
              have := hJ b (by omega) (by omega) ρ h hx
              simp only [labP, hfl, beq_iff, decide_true] at this
              exact this
            | exit i => exact hk _ _ _ hx
            | ret => exact hk _ _ _ hx
        · simp only [h1, decide_false] at hr ⊢
          exact ihb _ k Q hw.2 hJb hk id (by omega) (by omega) ρ h hr
  | cond o t e iht ihe =>
    intro b k Q hw hJ hk id hb1 hb2 ρ h hr
    simp only [ACode.within, Bool.and_eq_true] at hw
    simp only [labC, blt_iff] at hr
    simp only [labP, blt_iff]
    have hcnt : (ACode.cond o t e).cnt = t.cnt + e.cnt := rfl
    by_cases h1 : id < b + t.cnt
    · simp only [h1, decide_true] at hr ⊢
      refine iht b k Q hw.1 (fun id h1 h2 ρ h hj => ?_) hk id hb1 (by omega) ρ h hr
      have := hJ id h1 (by omega) ρ h hj
      simpa only [labP, blt_iff, show id < b + t.cnt from h2, decide_true] using this
    · simp only [h1, decide_false] at hr ⊢
      refine ihe (b + t.cnt) k Q hw.2 (fun id h1 h2 ρ h hj => ?_) hk id (by omega) (by omega) ρ h hr
      have := hJ id (by omega) (by omega) ρ h hj
      simpa only [labP, blt_iff, show ¬ id < b + t.cnt by omega, decide_false] using this
  | block i c ih =>
    intro b k Q hw hJ hk id hb1 hb2 ρ h hr
    refine ih b (kBlk i k) (pBlk i Q) hw hJ (fun x ρ h hx => ?_) id hb1 hb2 ρ h hr
    cases x with
    | normal => exact hk _ _ _ hx
    | ret => exact hk _ _ _ hx
    | exit j =>
      simp only [kBlk] at hx
      simp only [pBlk]
      by_cases hj : j = i
      · subst hj
        simp only [Nat.beq_refl] at hx
        rw [if_pos rfl]; exact hk _ _ _ hx
      · have : Nat.beq j i = false := by rw [beq_iff]; simpa using hj
        simp only [this] at hx
        rw [if_neg hj]; exact hk _ _ _ hx
  | loop c ih =>
    intro b k Q hw hJ hk id hb1 hb2 ρ h hr
    simp only [ACode.within] at hw
    have hcnt : (ACode.loop c).cnt = 1 + c.cnt := rfl
    have hJc : ∀ id, b + 1 ≤ id → id < b + 1 + c.cnt → ∀ ρ h, J id ρ h = some r → labP C c (b + 1) (pSeq (WpF C (.loop c) Q) Q) id ρ h := fun id h1 h2 ρ h hj => by
      have := hJ id (by omega) (by omega) ρ h hj
      simpa only [labP, beq_iff, show ¬ id = b by omega, decide_false] using this
    have hkc : ∀ x ρ h, kSeq (J b) k x ρ h = some r → pSeq (WpF C (.loop c) Q) Q x ρ h := fun x ρ h hx => by
      cases x with
      | normal =>
        have := hJ b (by omega) (by omega) ρ h hx
        simp only [labP, beq_iff, decide_true] at this
        exact this
      | exit i => exact hk _ _ _ hx
      | ret => exact hk _ _ _ hx
    simp only [labC, beq_iff] at hr
    simp only [labP, beq_iff]
    by_cases h0 : id = b
    · simp only [h0, decide_true] at hr ⊢
      intro f hf
      have := execC_sound hc hn c (b + 1) (kSeq (J b) k) (pSeq (WpF C (.loop c) Q) Q) hw hJc hkc ρ h hr f hf
      refine wp_loop_once (this.mono fun x f' h' hq => ?_)
      cases x with
      | normal => exact hq f' rfl
      | exit i => exact hq
      | ret => exact hq
    · simp only [h0, decide_false] at hr ⊢
      exact ih (b + 1) _ _ hw hJc hkc id (by omega) (by omega) ρ h hr
  | skip => intro b k Q hw hJ hk id hb1 hb2 ρ h hr; simp only [ACode.cnt] at hb2; omega
  | region ops => intro b k Q hw hJ hk id hb1 hb2 ρ h hr; simp only [ACode.cnt] at hb2; omega
  | draw ops info m => intro b k Q hw hJ hk id hb1 hb2 ρ h hr; simp only [ACode.cnt] at hb2; omega
  | exit i => intro b k Q hw hJ hk id hb1 hb2 ρ h hr; simp only [ACode.cnt] at hb2; omega
  | ret => intro b k Q hw hJ hk id hb1 hb2 ρ h hr; simp only [ACode.cnt] at hb2; omega

/-! ### functions -/
theorem resV_get (f : Fr) (h : AHeap) (x : ARes) : resV C.I (Fr.get f) h x = resOf C.I f h x := by
  cases x <;> simp only [resV, resOf, sRes1, sResN] <;> cases f.get _ <;> rfl
theorem ressV_get (f : Fr) (h : AHeap) : ∀ (rs : List ARes), ressV C.I (Fr.get f) h rs = ressOf C.I f h rs
  | [] => rfl
  | r :: rs => by simp only [ressV, ressOf, resV_get, ressV_get f h rs, sCons]; rfl

theorem putArgs_getV : ∀ (args : List AVal) (i : Nat) (f : Fr), i + args.length ≤ 16000 → ∀ t, (putArgs i args f).get t = if i ≤ t ∧ t < i + args.length then args.getD (t - i) aundef else f.get t
  | [], i, f, _, t => by
    rw [if_neg (by simp only [List.length_nil]; omega)]; rfl
  | v :: r, i, f, hl, t => by
    simp only [List.length_cons] at hl
    simp only [putArgs]
    rw [putArgs_getV r (i + 1) _ (by omega), Fr.get_put (by show i + 1 < 16384; omega)]
    simp only [List.length_cons]
    by_cases h0 : t = i
    · subst h0
      rw [if_neg (by omega), if_pos rfl, if_pos (by omega)]
      simp
    · by_cases h1 : i + 1 ≤ t ∧ t < i + 1 + r.length
      · rw [if_pos h1, if_pos (by omega)]
        obtain ⟨d, hd⟩ : ∃ d, t - i = d + 1 := ⟨t - i - 1, by omega⟩
        rw [hd, show t - (i + 1) = d by omega]
        simp
      · rw [if_neg h1, if_neg h0, if_neg (by omega)]

theorem argV_get {args : List AVal} (hl : args.length ≤ 16000) : Fr.get (putArgs 0 args .nil) = argV args := by
  funext t
  rw [putArgs_getV _ _ _ (by omega)]
  simp only [Nat.zero_le, true_and, Nat.zero_add, Nat.sub_zero]
  by_cases h : t < args.length
  · rw [if_pos h]; rfl
  · rw [if_neg h]
    show Fr.get .nil t = args.getD t aundef
    rw [List.getD_eq_getElem?_getD, List.getElem?_eq_none (by omega)]
    rfl

/-- A function by its labels. 'JS n': the labels, with 'n' jumps left. -/
structure SFn (C : Cx) (call : CallFn) (fn : AFunc) (JS : Nat → Jmp) : Prop where
  zero : ∀ id, id < fn.body.cnt → ∀ ρ h, JS 0 id ρ h = none
  succ : ∀ n id, id < fn.body.cnt → ∀ ρ h, JS (n + 1) id ρ h = labC C.P C.I call (JS n) fn.body 0 (finV C.I fn.results) id ρ h

theorem finV_inv {fn : AFunc} {x : Ex} {ρ : Fun} {h : AHeap} {r : AVal × AHeap} (hx : finV C.I fn.results x ρ h = some r) : (∀ id, x ≠ .exit id) ∧ ∃ vs, ressV C.I ρ h fn.results = some vs ∧ r = (oneOrTuple vs, h) := by
  have go : sRet (ressV C.I ρ h fn.results) h = some r → ∃ vs, ressV C.I ρ h fn.results = some vs ∧ r = (oneOrTuple vs, h) := fun hx => by
    unfold sRet at hx
    split at hx
    · rename_i vs hvs; exact ⟨vs, hvs, by cases hx; rfl⟩
    · cases hx
  cases x with
  | normal => exact ⟨fun id e => (by cases e), go hx⟩
  | exit i => cases hx
  | ret => exact ⟨fun id e => (by cases e), go hx⟩

theorem fn_sound (hc : CallLe C call) {g : Nat} {fn : AFunc} (hF : C.F g = some (.code fn)) (hn : fn.ntmps ≤ 16000) (hw : fn.body.within fn.ntmps = true) {JS : Nat → Jmp} (hS : SFn C call fn JS) {n : Nat} {args : List AVal} {h : AHeap} {r : AVal × AHeap}
    (hl : Nat.ble args.length fn.ntmps = true) (hr : execC C.P C.I call (JS n) fn.body 0 (finV C.I fn.results) (argV args) h = some r) : ∃ m, callF C.P C.I C.F m g args h = some r := by
  let Q : Post1 := fun x ρ h => (∀ id, x ≠ .exit id) ∧ ∃ vs, ressV C.I ρ h fn.results = some vs ∧ r = (oneOrTuple vs, h)
  have hJ : ∀ n, ∀ id, 0 ≤ id → id < 0 + fn.body.cnt → ∀ ρ h, JS n id ρ h = some r → labP C fn.body 0 Q id ρ h := by
    intro n
    induction n with
    | zero => intro id _ h2 ρ h hj; rw [hS.zero id (by omega)] at hj; cases hj
    | succ n ih =>
      intro id h1 h2 ρ h hj
      rw [hS.succ n id (by omega)] at hj
      exact labC_sound hc hn fn.body 0 _ Q hw ih (fun x ρ h hx => finV_inv hx) id h1 h2 ρ h hj
  have hle := Nat.le_of_ble_eq_true hl
  have := execC_sound hc hn fn.body 0 _ Q hw (hJ n) (fun x ρ h hx => finV_inv hx) _ h hr (putArgs 0 args .nil) (argV_get (by omega))
  have hev := ev_of_wp (R := fun v h' => r = (v, h')) hF hl (this.mono fun x f' h' ⟨hne, vs, hvs, he⟩ => ⟨hne, vs, by rw [← ressV_get]; exact hvs, he⟩)
  obtain ⟨m, v, h', h1, h2⟩ := hev
  exact ⟨m, by rw [h1, h2]⟩
end
end

end Go.AM
