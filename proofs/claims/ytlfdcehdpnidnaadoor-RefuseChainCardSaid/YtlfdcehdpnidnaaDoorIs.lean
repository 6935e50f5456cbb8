/- errors.Is at a target of known pointer types: a nil error; else what errors.is comes to. Conditions: as each lemma says. -/
import Derived.Test.YtlfdcehdpnidnaaDoorProg
import Derived.WalkKit
import Derived.LaidEql
import Derived.Stop.Asserts
import Derived.RowKitTokens
import Derived.Deep.RegionWith
namespace Go.Proofs.YtlfdcehdpnidnaaDoor
open Go.RowKit Go.Extern.Stop Go.Stop Go.Extern
theorem Iw.methodComparable (h : Value) (w : World) : (Go.method 234 76 (.agg #[h]) "Comparable").run Tryd.prog w = .ok (71, .agg #[h]) w := by kernel_rfl
theorem Iw.typeOf22 (v : Value) (w : World) : (ReflectliteType.typeOf #[.iface 22 v]).run Tryd.prog w = .ok (.iface 76 (.agg #[.pointer (some ⟨4, 22, none⟩)])) w := by kernel_rfl
theorem Iw.comparable22 (w : World) : ((ReflectliteType.method fun t => do Rtype.noPackHeld "Comparable" t; (fun a => Value.bool a.comparable) <$> typeInfo t) #[.agg #[.pointer (some ⟨4, 22, none⟩)]]).run Tryd.prog w = .ok (.bool true) w := by kernel_rfl
set_option maxRecDepth 20000 in
set_option maxHeartbeats 1000000 in
theorem is_is22 {R : Value → World → Prop} (a : TypeId) (u v : Value) (w : World) (c : Calls Tryd.prog 31 #[.iface a u, .iface 22 v, .bool true] w fun ev w' => ∃ r, ev = .returned r ∧ R r w') :
    Calls Tryd.prog 19 #[.iface a u, .iface 22 v] w fun ev w' => ∃ r, ev = .returned r ∧ R r w' := by
  have h1 := @run_callFunc_extern Tryd.prog 30 _ ReflectliteType.typeOf Tryd.func30 (by kernel_rfl) (by kernel_rfl) (by kernel_rfl) (by kernel_rfl)
  have h2 := @run_callFunc_extern Tryd.prog 71 _ (ReflectliteType.method fun t => do Rtype.noPackHeld "Comparable" t; pure (.bool (← typeInfo t).comparable)) Tryd.func71 (by kernel_rfl) (by kernel_rfl) (by kernel_rfl) (by kernel_rfl)
  have tT := Iw.typeOf22
  have cT := Iw.comparable22
  have mR := Iw.methodComparable
  go_enter Tryd.func19, Tryd.ntmps19
  go_wp2_with (go_at_call 31; refine c.mono ?_; rintro e w' ⟨r, rfl, hR⟩)
  go_ret
  exact ⟨_, rfl, hR⟩
theorem is_nil22 (v : Value) (w : World) : Calls Tryd.prog 19 #[.nilIface, .iface 22 v] w fun e w' => e = .returned (.bool false) ∧ w' = w := by
  have hn := run_eql_iface_nil_left (P := Tryd.prog) w 22 v Tryd.underlying30
  go_enter Tryd.func19, Tryd.ntmps19
  go_wp2
  go_ret
  exact ⟨rfl, rfl⟩
theorem Iw.typeOf50 (v : Value) (w : World) : (ReflectliteType.typeOf #[.iface 50 v]).run Tryd.prog w = .ok (.iface 76 (.agg #[.pointer (some ⟨4, 50, none⟩)])) w := by kernel_rfl
theorem Iw.comparable50 (w : World) : ((ReflectliteType.method fun t => do Rtype.noPackHeld "Comparable" t; (fun a => Value.bool a.comparable) <$> typeInfo t) #[.agg #[.pointer (some ⟨4, 50, none⟩)]]).run Tryd.prog w = .ok (.bool true) w := by kernel_rfl
set_option maxRecDepth 20000 in
set_option maxHeartbeats 1000000 in
theorem is_is50 {R : Value → World → Prop} (a : TypeId) (u v : Value) (w : World) (c : Calls Tryd.prog 31 #[.iface a u, .iface 50 v, .bool true] w fun ev w' => ∃ r, ev = .returned r ∧ R r w') :
    Calls Tryd.prog 19 #[.iface a u, .iface 50 v] w fun ev w' => ∃ r, ev = .returned r ∧ R r w' := by
  have h1 := @run_callFunc_extern Tryd.prog 30 _ ReflectliteType.typeOf Tryd.func30 (by kernel_rfl) (by kernel_rfl) (by kernel_rfl) (by kernel_rfl)
  have h2 := @run_callFunc_extern Tryd.prog 71 _ (ReflectliteType.method fun t => do Rtype.noPackHeld "Comparable" t; pure (.bool (← typeInfo t).comparable)) Tryd.func71 (by kernel_rfl) (by kernel_rfl) (by kernel_rfl) (by kernel_rfl)
  have tT := Iw.typeOf50
  have cT := Iw.comparable50
  have mR := Iw.methodComparable
  go_enter Tryd.func19, Tryd.ntmps19
  go_wp2_with (go_at_call 31; refine c.mono ?_; rintro e w' ⟨r, rfl, hR⟩)
  go_ret
  exact ⟨_, rfl, hR⟩
theorem is_nil50 (v : Value) (w : World) : Calls Tryd.prog 19 #[.nilIface, .iface 50 v] w fun e w' => e = .returned (.bool false) ∧ w' = w := by
  have hn := run_eql_iface_nil_left (P := Tryd.prog) w 50 v Tryd.underlying30
  go_enter Tryd.func19, Tryd.ntmps19
  go_wp2
  go_ret
  exact ⟨rfl, rfl⟩
end Go.Proofs.YtlfdcehdpnidnaaDoor
