/- The table of the functions by their labels. Conditions: none. -/
import Derived.Test.YtlfdcehdpnidnaaDoorSf0
namespace Go.Proofs.YtlfdcehdpnidnaaDoor.Sf
open Go.AM
noncomputable def tab (I : Inp) (g : Nat) : Option SF :=
  (Bool.rec (motive := fun _ => Option SF) (Bool.rec (motive := fun _ => Option SF) (Bool.rec (motive := fun _ => Option SF) (Bool.rec (motive := fun _ => Option SF) (Bool.rec (motive := fun _ => Option SF) (Bool.rec (motive := fun _ => Option SF) none (some (f42.run I)) (Nat.beq g 42)) (Bool.rec (motive := fun _ => Option SF) none (some (f41.run I)) (Nat.beq g 41)) (Nat.blt g 42)) (Bool.rec (motive := fun _ => Option SF) none (some (f40.run I)) (Nat.beq g 40)) (Nat.blt g 41)) (Bool.rec (motive := fun _ => Option SF) (Bool.rec (motive := fun _ => Option SF) none (some (f38.run I)) (Nat.beq g 38)) (Bool.rec (motive := fun _ => Option SF) none (some (f37.run I)) (Nat.beq g 37)) (Nat.blt g 38)) (Nat.blt g 40)) (Bool.rec (motive := fun _ => Option SF) (Bool.rec (motive := fun _ => Option SF) (Bool.rec (motive := fun _ => Option SF) (Bool.rec (motive := fun _ => Option SF) none (some (f36.run I)) (Nat.beq g 36)) (Bool.rec (motive := fun _ => Option SF) none (some (f35.run I)) (Nat.beq g 35)) (Nat.blt g 36)) (Bool.rec (motive := fun _ => Option SF) none (some (f32.run I)) (Nat.beq g 32)) (Nat.blt g 35)) (Bool.rec (motive := fun _ => Option SF) (Bool.rec (motive := fun _ => Option SF) none (some (f24.run I)) (Nat.beq g 24)) (Bool.rec (motive := fun _ => Option SF) none (some (f23.run I)) (Nat.beq g 23)) (Nat.blt g 24)) (Nat.blt g 32)) (Nat.blt g 37)) (Bool.rec (motive := fun _ => Option SF) (Bool.rec (motive := fun _ => Option SF) (Bool.rec (motive := fun _ => Option SF) (Bool.rec (motive := fun _ => Option SF) (Bool.rec (motive := fun _ => Option SF) none (some (f21.run I)) (Nat.beq g 21)) (Bool.rec (motive := fun _ => Option SF) none (some (f16.run I)) (Nat.beq g 16)) (Nat.blt g 21)) (Bool.rec (motive := fun _ => Option SF) none (some (f13.run I)) (Nat.beq g 13)) (Nat.blt g 16)) (Bool.rec (motive := fun _ => Option SF) (Bool.rec (motive := fun _ => Option SF) none (some (f11.run I)) (Nat.beq g 11)) (Bool.rec (motive := fun _ => Option SF) none (some (f10.run I)) (Nat.beq g 10)) (Nat.blt g 11)) (Nat.blt g 13)) (Bool.rec (motive := fun _ => Option SF) (Bool.rec (motive := fun _ => Option SF) (Bool.rec (motive := fun _ => Option SF) none (some (f9.run I)) (Nat.beq g 9)) (Bool.rec (motive := fun _ => Option SF) none (some (f8.run I)) (Nat.beq g 8)) (Nat.blt g 9)) (Bool.rec (motive := fun _ => Option SF) (Bool.rec (motive := fun _ => Option SF) none (some (f7.run I)) (Nat.beq g 7)) (Bool.rec (motive := fun _ => Option SF) none (some (f3.run I)) (Nat.beq g 3)) (Nat.blt g 7)) (Nat.blt g 8)) (Nat.blt g 10)) (Nat.blt g 23))
theorem leaf {I : Inp} {F : Nat → Option AFn} {g k : Nat} {f s : SF} (hf : SfOk P I F k f) (h : (Bool.rec (motive := fun _ => Option SF) none (some f) (Nat.beq g k) : Option SF) = some s) : SfOk P I F g s := by
  cases hb : Nat.beq g k with
  | false => rw [hb] at h; cases h
  | true => rw [hb] at h; cases h; rw [Nat.eq_of_beq_eq_true hb]; exact hf
theorem fork {I : Inp} {F : Nat → Option AFn} {g m : Nat} {a b : Option SF} {s : SF} (ha : a = some s → SfOk P I F g s) (hb : b = some s → SfOk P I F g s) (h : (Bool.rec (motive := fun _ => Option SF) a b (Nat.blt g m) : Option SF) = some s) : SfOk P I F g s := by
  cases hx : Nat.blt g m with
  | false => rw [hx] at h; exact ha h
  | true => rw [hx] at h; exact hb h
theorem hcode {I : Inp} {prims : Nat → Option Prim} {g k : Nat} {c : AFunc} {f s : SF} (hp : prims g = none) (hc : codeOf P k = some c) (hok : ∀ F : Nat → Option AFn, F k = some (.code c) → SfOk P I F k f) (h : (Bool.rec (motive := fun _ => Option SF) none (some f) (Nat.beq g k) : Option SF) = some s) : SfOk P I (genF P prims) g s := by
  cases hb : Nat.beq g k with
  | false => rw [hb] at h; cases h
  | true =>
    rw [hb] at h; cases h
    have := Nat.eq_of_beq_eq_true hb
    subst this
    exact hok _ (genF_code hp hc)
theorem tab_ok (I : Inp) (prims : Nat → Option Prim) : ∀ g s, prims g = none → tab I g = some s → SfOk P I (genF P prims) g s := fun _ _ hp =>
  (fork (fork (fork (fork (fork (hcode hp f42.code (f42.ok I)) (hcode hp f41.code (f41.ok I))) (hcode hp f40.code (f40.ok I))) (fork (hcode hp f38.code (f38.ok I)) (hcode hp f37.code (f37.ok I)))) (fork (fork (fork (hcode hp f36.code (f36.ok I)) (hcode hp f35.code (f35.ok I))) (hcode hp f32.code (f32.ok I))) (fork (hcode hp f24.code (f24.ok I)) (hcode hp f23.code (f23.ok I))))) (fork (fork (fork (fork (hcode hp f21.code (f21.ok I)) (hcode hp f16.code (f16.ok I))) (hcode hp f13.code (f13.ok I))) (fork (hcode hp f11.code (f11.ok I)) (hcode hp f10.code (f10.ok I)))) (fork (fork (hcode hp f9.code (f9.ok I)) (hcode hp f8.code (f8.ok I))) (fork (hcode hp f7.code (f7.ok I)) (hcode hp f3.code (f3.ok I))))))
end Go.Proofs.YtlfdcehdpnidnaaDoor.Sf
