/- The table of the functions by their labels. Conditions: none. -/
import Derived.Test.YtaekibfknmanhaaSf0
namespace Go.Proofs.Ytaekibfknmanhaa.Sf
open Go.AM
noncomputable def tab (I : Inp) (g : Nat) : Option SF :=
  (Bool.rec (motive := fun _ => Option SF) (Bool.rec (motive := fun _ => Option SF) (Bool.rec (motive := fun _ => Option SF) (Bool.rec (motive := fun _ => Option SF) (Bool.rec (motive := fun _ => Option SF) none (some (f21.run I)) (Nat.beq g 21)) (Bool.rec (motive := fun _ => Option SF) none (some (f20.run I)) (Nat.beq g 20)) (Nat.blt g 21)) (Bool.rec (motive := fun _ => Option SF) (Bool.rec (motive := fun _ => Option SF) none (some (f19.run I)) (Nat.beq g 19)) (Bool.rec (motive := fun _ => Option SF) none (some (f18.run I)) (Nat.beq g 18)) (Nat.blt g 19)) (Nat.blt g 20)) (Bool.rec (motive := fun _ => Option SF) (Bool.rec (motive := fun _ => Option SF) (Bool.rec (motive := fun _ => Option SF) none (some (f17.run I)) (Nat.beq g 17)) (Bool.rec (motive := fun _ => Option SF) none (some (f15.run I)) (Nat.beq g 15)) (Nat.blt g 17)) (Bool.rec (motive := fun _ => Option SF) none (some (f13.run I)) (Nat.beq g 13)) (Nat.blt g 15)) (Nat.blt g 18)) (Bool.rec (motive := fun _ => Option SF) (Bool.rec (motive := fun _ => Option SF) (Bool.rec (motive := fun _ => Option SF) (Bool.rec (motive := fun _ => Option SF) none (some (f12.run I)) (Nat.beq g 12)) (Bool.rec (motive := fun _ => Option SF) none (some (f11.run I)) (Nat.beq g 11)) (Nat.blt g 12)) (Bool.rec (motive := fun _ => Option SF) (Bool.rec (motive := fun _ => Option SF) none (some (f10.run I)) (Nat.beq g 10)) (Bool.rec (motive := fun _ => Option SF) none (some (f9.run I)) (Nat.beq g 9)) (Nat.blt g 10)) (Nat.blt g 11)) (Bool.rec (motive := fun _ => Option SF) (Bool.rec (motive := fun _ => Option SF) (Bool.rec (motive := fun _ => Option SF) none (some (f8.run I)) (Nat.beq g 8)) (Bool.rec (motive := fun _ => Option SF) none (some (f7.run I)) (Nat.beq g 7)) (Nat.blt g 8)) (Bool.rec (motive := fun _ => Option SF) none (some (f3.run I)) (Nat.beq g 3)) (Nat.blt g 7)) (Nat.blt g 9)) (Nat.blt g 13))
theorem leaf {I : Inp} {F : Nat → Option AFn} {g k : Nat} {f s : SF} (hf : SfOk P I F k f) (h : (Bool.rec (motive := fun _ => Option SF) none (some f) (Nat.beq g k) : Option SF) = some s) : SfOk P I F g s := by
  cases hb : Nat.beq g k with
  | false => rw [hb] at h; cases h
  | true => rw [hb] at h; cases h; rw [Nat.eq_of_beq_eq_true hb]; exact hf
theorem fork {I : Inp} {F : Nat → Option AFn} {g m : Nat} {a b : Option SF} {s : SF} (ha : a = some s → SfOk P I F g s) (hb : b = some s → SfOk P I F g s) (h : (Bool.rec (motive := fun _ => Option SF) a b (Nat.blt g m) : Option SF) = some s) : SfOk P I F g s := by
  cases hx : Nat.blt g m with
  | false => rw [hx] at h; exact ha h
  | true => rw [hx] at h; exact hb h
theorem hcode {I : Inp} {prims : Nat → Option Prim} {g k : Nat} {c : AFunc} {f s : SF} (hp : prims g = none) (hc : codeOf P k = some c) (hok : ∀ F : Nat → Option AFn, F k = some (.code c) → SfOk P I F k f) (h : (Bool.rec (motive := fun _ => Option SF) none (some f) (Nat.beq g k) : Option SF) = some s) : SfOk P I (genF P prims) g s := by
  cases hb : Nat.beq g k with
  | false => rw [hb] at h; cases h
  | true =>
    rw [hb] at h; cases h
    have := Nat.eq_of_beq_eq_true hb
    subst this
    exact hok _ (genF_code hp hc)
theorem tab_ok (I : Inp) (prims : Nat → Option Prim) : ∀ g s, prims g = none → tab I g = some s → SfOk P I (genF P prims) g s := fun _ _ hp =>
  (fork (fork (fork (fork (hcode hp f21.code (f21.ok I)) (hcode hp f20.code (f20.ok I))) (fork (hcode hp f19.code (f19.ok I)) (hcode hp f18.code (f18.ok I)))) (fork (fork (hcode hp f17.code (f17.ok I)) (hcode hp f15.code (f15.ok I))) (hcode hp f13.code (f13.ok I)))) (fork (fork (fork (hcode hp f12.code (f12.ok I)) (hcode hp f11.code (f11.ok I))) (fork (hcode hp f10.code (f10.ok I)) (hcode hp f9.code (f9.ok I)))) (fork (fork (hcode hp f8.code (f8.ok I)) (hcode hp f7.code (f7.ok I))) (hcode hp f3.code (f3.ok I)))))
end Go.Proofs.Ytaekibfknmanhaa.Sf
