/- AM, part 25: tables of functions by their labels; the limit of all counts of rounds. Conditions: as each lemma says. -/
import Derived.Test.YthihegmbdclikaaDoorAmLab
namespace Go.AM
noncomputable section
open Go.RowKit

/-- A function: by what calls come to, and a count of jumps. -/
abbrev SF := CallFn → Nat → List AVal → AHeap → Rs

section
variable {P : Program} {I : Inp} {F : Nat → Option AFn}

def SfOk (P : Program) (I : Inp) (F : Nat → Option AFn) (g : Nat) (s : SF) : Prop :=
  ∀ call, CallLe ⟨P, I, F⟩ call → ∀ n args h r, s call n args h = some r → ∃ m, callF P I F m g args h = some r

/-- A function's answers: a structure, so that the kernel keeps what a number stands for. -/
structure Fn1 where
  run : List AVal → AHeap → Rs

def runP (tab : Nat → Option SF) (n : Nat) : Nat → Fn1 :=
  Nat.rec (motive := fun _ => Nat → Fn1) (fun _ => ⟨fun _ _ => none⟩) (fun n ih g => Option.rec (motive := fun _ => Fn1) ⟨fun _ _ => none⟩ (fun s => ⟨s (fun g => (ih g).run) n⟩) (tab g)) n
def runS (tab : Nat → Option SF) (n : Nat) : CallFn := fun g => (runP tab n g).run

theorem runS_le {tab : Nat → Option SF} (ht : ∀ g s, tab g = some s → SfOk P I F g s) : ∀ n, CallLe ⟨P, I, F⟩ (runS tab n)
  | 0 => fun g args h r hr => by cases hr
  | n + 1 => fun g args h r hr => by
    have e : runS tab (n + 1) g args h = (Option.rec (motive := fun _ => Fn1) ⟨fun _ _ => none⟩ (fun s => ⟨s (runS tab n) n⟩) (tab g) : Fn1).run args h := rfl
    cases hg : tab g with
    | none =>
      rw [e, hg] at hr; cases hr
    | some s =>
      rw [e, hg] at hr
      exact ht g s hg _ (runS_le ht n) n args h r hr

def primSF (p : Prim) : SF := fun _ _ args h => p args h
theorem primSF_ok {g : Nat} {p : Prim} (hF : F g = some (.prim p)) : SfOk P I F g (primSF p) :=
  fun _ _ _ args h r hr => ⟨1, by simp only [callF, hF]; exact hr⟩

/-- A table, prims ahead. -/
def withPrims (prims : Nat → Option Prim) (tab : Nat → Option SF) (g : Nat) : Option SF :=
  Option.rec (motive := fun _ => Option SF) (tab g) (fun p => some (primSF p)) (prims g)

theorem withPrims_ok {prims : Nat → Option Prim} {tab : Nat → Option SF} (ht : ∀ g s, prims g = none → tab g = some s → SfOk P I (genF P prims) g s) :
    ∀ g s, withPrims prims tab g = some s → SfOk P I (genF P prims) g s := by
  intro g s hs
  unfold withPrims at hs
  cases hp : prims g with
  | none => rw [hp] at hs; exact ht g s hp hs
  | some p =>
    rw [hp] at hs
    cases hs
    exact primSF_ok (by unfold genF; rw [hp])

/-- The abstract machine's text of a function. -/
def codeOf (P : Program) (g : Nat) : Option AFunc :=
  match P.funcs[g]? with
  | none => none
  | some fn => cFunc P fn
theorem genF_code {prims : Nat → Option Prim} {g : Nat} {fn : AFunc} (hp : prims g = none) (hc : codeOf P g = some fn) : genF P prims g = some (.code fn) := by
  unfold genF codeOf at *
  rw [hp]
  cases h : P.funcs[g]? with
  | none => rw [h] at hc; cases hc
  | some f => rw [h] at hc; simp only [] at hc ⊢; rw [hc]

/-! ### the limit -/
open Classical in
/-- What a call comes to, whatever the rounds. -/
def lim (C : Cx) : CallFn := fun g args h => if hx : ∃ r n, callF C.P C.I C.F n g args h = some r then some (Classical.choose hx) else none

variable {C : Cx}
theorem lim_of {n g : Nat} {args : List AVal} {h : AHeap} {r : AVal × AHeap} (hr : callF C.P C.I C.F n g args h = some r) : lim C g args h = some r := by
  classical
  have hx : ∃ r n, callF C.P C.I C.F n g args h = some r := ⟨r, n, hr⟩
  unfold lim
  rw [dif_pos hx]
  obtain ⟨m, hm⟩ := Classical.choose_spec hx
  have h1 := callF_le (P := C.P) (I := C.I) (F := C.F) (show m ≤ m + n by omega) _ _ _ _ hm
  have h2 := callF_le (P := C.P) (I := C.I) (F := C.F) (show n ≤ m + n by omega) _ _ _ _ hr
  rw [h2] at h1
  exact h1.symm ▸ rfl
theorem lim_le : CallLe C (lim C) := by
  intro g args h r hr
  unfold lim at hr
  split at hr
  · rename_i hx
    obtain ⟨m, hm⟩ := Classical.choose_spec hx
    cases hr
    exact ⟨m, hm⟩
  · cases hr
theorem lim_sf {g : Nat} {s : SF} (hs : SfOk C.P C.I C.F g s) {n : Nat} {args : List AVal} {h : AHeap} {r : AVal × AHeap} (hr : s (lim C) n args h = some r) : lim C g args h = some r := by
  obtain ⟨m, hm⟩ := hs (lim C) (fun g args h r hr => lim_le g args h r hr) n args h r hr
  exact lim_of hm
theorem lim_runS {tab : Nat → Option SF} (ht : ∀ g s, tab g = some s → SfOk C.P C.I C.F g s) {n g : Nat} {args : List AVal} {h : AHeap} {r : AVal × AHeap} (hr : runS tab n g args h = some r) : lim C g args h = some r := by
  obtain ⟨m, hm⟩ := runS_le ht n g args h r hr
  exact lim_of hm
end
end

end Go.AM
