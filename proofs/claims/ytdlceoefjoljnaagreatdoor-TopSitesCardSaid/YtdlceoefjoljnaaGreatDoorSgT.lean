/- The table of the functions by their labels. Conditions: none. -/
import Derived.Test.YtdlceoefjoljnaaGreatDoorSg0
namespace Go.Proofs.YtdlceoefjoljnaaGreatDoor.Sg
open Go.AM
noncomputable def tab (I : Inp) (g : Nat) : Option SF :=
  (Bool.rec (motive := fun _ => Option SF) (Bool.rec (motive := fun _ => Option SF) (Bool.rec (motive := fun _ => Option SF) (Bool.rec (motive := fun _ => Option SF) (Bool.rec (motive := fun _ => Option SF) none (some (f313.run I)) (Nat.beq g 313)) (Bool.rec (motive := fun _ => Option SF) none (some (f254.run I)) (Nat.beq g 254)) (Nat.blt g 313)) (Bool.rec (motive := fun _ => Option SF) none (some (f253.run I)) (Nat.beq g 253)) (Nat.blt g 254)) (Bool.rec (motive := fun _ => Option SF) (Bool.rec (motive := fun _ => Option SF) (Bool.rec (motive := fun _ => Option SF) none (some (f230.run I)) (Nat.beq g 230)) (Bool.rec (motive := fun _ => Option SF) none (some (f114.run I)) (Nat.beq g 114)) (Nat.blt g 230)) (Bool.rec (motive := fun _ => Option SF) none (some (f100.run I)) (Nat.beq g 100)) (Nat.blt g 114)) (Nat.blt g 253)) (Bool.rec (motive := fun _ => Option SF) (Bool.rec (motive := fun _ => Option SF) (Bool.rec (motive := fun _ => Option SF) (Bool.rec (motive := fun _ => Option SF) none (some (f87.run I)) (Nat.beq g 87)) (Bool.rec (motive := fun _ => Option SF) none (some (f63.run I)) (Nat.beq g 63)) (Nat.blt g 87)) (Bool.rec (motive := fun _ => Option SF) none (some (f62.run I)) (Nat.beq g 62)) (Nat.blt g 63)) (Bool.rec (motive := fun _ => Option SF) (Bool.rec (motive := fun _ => Option SF) none (some (f61.run I)) (Nat.beq g 61)) (Bool.rec (motive := fun _ => Option SF) none (some (f22.run I)) (Nat.beq g 22)) (Nat.blt g 61)) (Nat.blt g 62)) (Nat.blt g 100))
theorem leaf {I : Inp} {F : Nat → Option AFn} {g k : Nat} {f s : SF} (hf : SfOk P I F k f) (h : (Bool.rec (motive := fun _ => Option SF) none (some f) (Nat.beq g k) : Option SF) = some s) : SfOk P I F g s := by
  cases hb : Nat.beq g k with
  | false => rw [hb] at h; cases h
  | true => rw [hb] at h; cases h; rw [Nat.eq_of_beq_eq_true hb]; exact hf
theorem fork {I : Inp} {F : Nat → Option AFn} {g m : Nat} {a b : Option SF} {s : SF} (ha : a = some s → SfOk P I F g s) (hb : b = some s → SfOk P I F g s) (h : (Bool.rec (motive := fun _ => Option SF) a b (Nat.blt g m) : Option SF) = some s) : SfOk P I F g s := by
  cases hx : Nat.blt g m with
  | false => rw [hx] at h; exact ha h
  | true => rw [hx] at h; exact hb h
theorem hcode {I : Inp} {prims : Nat → Option Prim} {g k : Nat} {c : AFunc} {f s : SF} (hp : prims g = none) (hc : codeOf P k = some c) (hok : ∀ F : Nat → Option AFn, F k = some (.code c) → SfOk P I F k f) (h : (Bool.rec (motive := fun _ => Option SF) none (some f) (Nat.beq g k) : Option SF) = some s) : SfOk P I (genF P prims) g s := by
  cases hb : Nat.beq g k with
  | false => rw [hb] at h; cases h
  | true =>
    rw [hb] at h; cases h
    have := Nat.eq_of_beq_eq_true hb
    subst this
    exact hok _ (genF_code hp hc)
theorem tab_ok (I : Inp) (prims : Nat → Option Prim) : ∀ g s, prims g = none → tab I g = some s → SfOk P I (genF P prims) g s := fun _ _ hp =>
  (fork (fork (fork (fork (hcode hp f313.code (f313.ok I)) (hcode hp f254.code (f254.ok I))) (hcode hp f253.code (f253.ok I))) (fork (fork (hcode hp f230.code (f230.ok I)) (hcode hp f114.code (f114.ok I))) (hcode hp f100.code (f100.ok I)))) (fork (fork (fork (hcode hp f87.code (f87.ok I)) (hcode hp f63.code (f63.ok I))) (hcode hp f62.code (f62.ok I))) (fork (hcode hp f61.code (f61.ok I)) (hcode hp f22.code (f22.ok I)))))
end Go.Proofs.YtdlceoefjoljnaaGreatDoor.Sg
