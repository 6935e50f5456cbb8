/- AM, part 26: a law that the table of labels calls true is true. Conditions: as each lemma says. -/
import Derived.Test.YthihegmbdclikaaDoorAmTab
import Derived.Test.YthihegmbdclikaaDoorAmPrim
namespace Go.AM
noncomputable section
open Go.RowKit

section
variable {P : Program} {I : Inp}
theorem run_true {prims : Nat → Option Prim} {tab : Nat → Option SF} (ht : ∀ g s, prims g = none → tab g = some s → SfOk P I (genF P prims) g s) {n g : Nat} {args : List AVal} {h : AHeap}
    (hrun : saysTrue (runS (withPrims prims tab) n g args h) = true) : ∃ m, saysTrue (callF P I (genF P prims) m g args h) = true := by
  obtain ⟨h', hr⟩ := saysTrue_spec hrun
  obtain ⟨m, hm⟩ := runS_le (withPrims_ok ht) n g args h _ hr
  exact ⟨m, by rw [show callF P I (genF P prims) m g args h = some (.bool true, h') from hm]; rfl⟩

theorem lim_true {C : Cx} {g : Nat} {args : List AVal} {h h' : AHeap} (hr : lim C g args h = some (.bool true, h')) : ∃ m, saysTrue (callF C.P C.I C.F m g args h) = true := by
  obtain ⟨m, hm⟩ := lim_le g args h _ hr
  exact ⟨m, by rw [hm]; rfl⟩
end
end

end Go.AM
