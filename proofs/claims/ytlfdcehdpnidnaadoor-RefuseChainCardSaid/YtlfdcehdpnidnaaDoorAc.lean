/- errors.As over a chain of errors, at a target of the kind **refuse.Error: so many of another kind ahead, then nil or a *refuse.Error. Conditions: as each lemma says. -/
import Derived.Test.YtlfdcehdpnidnaaDoorAs
import Derived.Test.YtlfdcehdpnidnaaDoorAmZ
import Derived.Deep.RegionWith
namespace Go.Proofs.YtlfdcehdpnidnaaDoor
open Go.RowKit Go.Extern.Stop Go.Stop Go.Extern
theorem asGen {c : Code} {Q : Exit → Act → World → Prop} {w : World} {e t v T bx : Value} (n : Nat) (hne : e ≠ .nilIface) (key : e ≠ .nilIface → ∀ (x4 x5 x7 x8 x9 x10 x11 x12 x13 x14 x15 x16 x17 x18 x19 x20 x21 x22 x23 x24 x25 x26 x27 x28 x29 x30 x31 x32 x33 x34 x35 x36 x37 x38 x39 x40 x41 x42 x43 x44 x45 x46 x47 x48 x49 x50 x51 x52 x53 x54 x55 x56 x57 x58 x59 x60 x61 : Value), Code.rounds Tryd.prog c Q n ⟨#[e, t, v, T, x4, x5, bx, x7, x8, x9, x10, x11, x12, x13, x14, x15, x16, x17, x18, x19, x20, x21, x22, x23, x24, x25, x26, x27, x28, x29, x30, x31, x32, x33, x34, x35, x36, x37, x38, x39, x40, x41, x42, x43, x44, x45, x46, x47, x48, x49, x50, x51, x52, x53, x54, x55, x56, x57, x58, x59, x60, x61], []⟩ w) :
    Code.rounds Tryd.prog c Q n ⟨#[e, t, v, T, undef, undef, bx, undef, .bool false, undef, undef, undef, undef, undef, undef, undef, undef, undef, undef, undef, undef, undef, undef, undef, undef, undef, undef, undef, undef, undef, undef, undef, undef, undef, undef, undef, undef, undef, undef, undef, undef, undef, undef, undef, undef, undef, undef, undef, undef, undef, undef, undef, undef, undef, undef, undef, undef, undef, undef, undef, undef, undef], []⟩ w := key hne undef undef undef (.bool false) undef undef undef undef undef undef undef undef undef undef undef undef undef undef undef undef undef undef undef undef undef undef undef undef undef undef undef undef undef undef undef undef undef undef undef undef undef undef undef undef undef undef undef undef undef undef undef undef undef undef undef undef undef
theorem aw.typeOf50 (v : Value) (w : World) : (ReflectliteType.typeOf #[.iface 50 v]).run Tryd.prog w = .ok (.iface 76 (.agg #[.pointer (some ⟨4, 50, none⟩)])) w := by kernel_rfl
theorem aw.assignable50 (w : World) : (ReflectliteType.relation "AssignableTo" ReflectliteType.assignableTo #[.agg #[.pointer (some ⟨4, 50, none⟩)], .iface 76 (.agg #[.pointer (some ⟨4, 22, none⟩)])]).run Tryd.prog w = .ok (.bool false) w := by kernel_rfl
theorem aw.noAs (v : Value) (xT : TypeId) (w : World) : (Instr.typeAssert (.iface 50 v) xT 80 true).run Tryd.prog w = .ok (.tuple #[.nilIface, .bool false]) w := run_typeAssert_lacksB Tryd.underlying80 (by kernel_rfl) (by kernel_rfl) v xT w
theorem aw.hasUnwrap (v : Value) (xT : TypeId) (w : World) : (Instr.typeAssert (.iface 50 v) xT 72 true).run Tryd.prog w = .ok (.tuple #[.iface 50 v, .bool true]) w := run_typeAssert_hasB Tryd.underlying72 (by kernel_rfl) v xT w
theorem aw.methodUnwrap (v : Value) (w : World) : (Go.method 234 50 v "Unwrap").run Tryd.prog w = .ok (65, v) w := by kernel_rfl
set_option maxRecDepth 20000 in
set_option maxHeartbeats 4000000 in
theorem as29 {e : Value} {n : Nat} {r : Option Addr} (va ta : Addr) (old : Value) (w : World) (hne : e ≠ .nilIface) (hva : w.cell? va = some (.pointer (some ta))) (hta : w.cell? ta = some old) (hfa : w.frozen? ta = false)
    (h : AM.ErrC 22 50 (w.alloc (.cells #[.pointer (some ⟨4, 44, none⟩), .pointer (some va), .int .u64 150] 61)) e n r) :
    Calls Tryd.prog 29 #[e, .iface 44 (.pointer (some ta)), .agg #[.pointer (some ⟨4, 44, none⟩), .pointer (some va), .int .u64 150], .iface 76 (.agg #[.pointer (some ⟨4, 22, none⟩)])] w fun ev w' =>
      (r = none ∧ ev = .returned (.bool false) ∧ ∃ o1, w' = w.alloc o1) ∨ (∃ a, r = some a ∧ ev = .returned (.bool true) ∧ ∃ o1 o2, w' = ((w.alloc o1).alloc o2).setCell ta (.pointer (some a))) := by
  have h10 := @run_callFunc_extern Tryd.prog 30 _ ReflectliteType.typeOf Tryd.func30 (by kernel_rfl) (by kernel_rfl) (by kernel_rfl) (by kernel_rfl)
  have h35 := @run_callFunc_extern Tryd.prog 70 _ (ReflectliteType.relation "AssignableTo" ReflectliteType.assignableTo) Tryd.func70 (by kernel_rfl) (by kernel_rfl) (by kernel_rfl) (by kernel_rfl)
  have h11 := @run_callFunc_extern Tryd.prog 33 _ (ReflectliteValue.method (ReflectliteValue.valueError "reflectlite.Value.Elem" 0) ReflectliteValue.elem) Tryd.func33 (by kernel_rfl) (by kernel_rfl) (by kernel_rfl) (by kernel_rfl)
  have h12 := @run_callFunc_extern Tryd.prog 34 _ ReflectliteValue.set Tryd.func34 (by kernel_rfl) (by kernel_rfl) (by kernel_rfl) (by kernel_rfl)
  have h6 := @run_callFunc_extern Tryd.prog 26 _ (fun args => ReflectliteValue.unpack (args.getD 0 (.tuple #[]))) Tryd.func26 (by kernel_rfl) (by kernel_rfl) (by kernel_rfl) (by kernel_rfl)
  have tO := As.typeOf25
  have tO2 := aw.typeOf50
  have mA := As.methodAssignableTo
  have a25 := As.assignable25
  have a50 := aw.assignable50
  have v25 := As.valueOf25
  have nA := aw.noAs
  have hU := aw.hasUnwrap
  have mU := aw.methodUnwrap
  have hval : va.block < w.heap.size := by
    rcases Nat.lt_or_ge va.block w.heap.size with h | h
    · exact h
    · simp [World.cell?, Array.getElem?_eq_none h] at hva
  have htl : ta.block < w.heap.size := by
    rcases Nat.lt_or_ge ta.block w.heap.size with h | h
    · exact h
    · simp [World.cell?, Array.getElem?_eq_none h] at hta
  have hva1 : (w.alloc (.cells #[.pointer (some ⟨4, 44, none⟩), .pointer (some va), .int .u64 150] 61)).cell? va = some (.pointer (some ta)) := by rw [World.cell?_alloc_lt _ _ va hval]; exact hva
  have el := As.elemV27 va ta _ hva1
  have st := fun e => As.set25 ta ⟨w.heap.size + 1, 0, none⟩ e old ((w.alloc (.cells #[.pointer (some ⟨4, 44, none⟩), .pointer (some va), .int .u64 150] 61)).alloc (.cells #[.pointer (some e)] 22))
    (by rw [World.cell?_alloc_at _ _ _ _ (by simp)]; rfl)
    (by rw [World.cell?_alloc_lt _ _ ta (by simp; omega), World.cell?_alloc_lt _ _ ta htl]; exact hta)
    (by rw [World.frozen?_alloc_old _ _ ta (by simp; omega), World.frozen?_alloc_old _ _ ta (Nat.ne_of_lt htl)]; exact hfa)
  go_enter Tryd.func29, Tryd.ntmps29
  go_wp2
  refine wp_loop_rounds (n + 1) ?_
  refine asGen (n + 1) hne ?_
  clear hne
  induction h with
  | nil => intro hne; exact absurd rfl hne
  | hit a =>
    intro _ x4 x5 x7 x8 x9 x10 x11 x12 x13 x14 x15 x16 x17 x18 x19 x20 x21 x22 x23 x24 x25 x26 x27 x28 x29 x30 x31 x32 x33 x34 x35 x36 x37 x38 x39 x40 x41 x42 x43 x44 x45 x46 x47 x48 x49 x50 x51 x52 x53 x54 x55 x56 x57 x58 x59 x60 x61
    have st := st a
    rw [rounds_succ]
    go_wp2
    go_ret
    exact .inr ⟨a, rfl, rfl, _, _, rfl⟩
  | oth hc hcc ih =>
    intro _ x4 x5 x7 x8 x9 x10 x11 x12 x13 x14 x15 x16 x17 x18 x19 x20 x21 x22 x23 x24 x25 x26 x27 x28 x29 x30 x31 x32 x33 x34 x35 x36 x37 x38 x39 x40 x41 x42 x43 x44 x45 x46 x47 x48 x49 x50 x51 x52 x53 x54 x55 x56 x57 x58 x59 x60 x61
    rw [rounds_succ]
    cases hcc with
    | nil =>
      go_wp2
      go_ret
      first | exact .inl ⟨rfl, rfl, _, rfl⟩ | exact ⟨rfl, _, rfl⟩ | exact ⟨rfl, rfl, _, rfl⟩
    | hit a =>
      go_wp2
      exact ih (by simp) _ _ _ _ _ _ _ _ _ _ _ _ _ _ _ _ _ _ _ _ _ _ _ _ _ _ _ _ _ _ _ _ _ _ _ _ _ _ _ _ _ _ _ _ _ _ _ _ _ _ _ _ _ _ _ _ _
    | oth hc2 hcc2 =>
      go_wp2
      exact ih (by simp) _ _ _ _ _ _ _ _ _ _ _ _ _ _ _ _ _ _ _ _ _ _ _ _ _ _ _ _ _ _ _ _ _ _ _ _ _ _ _ _ _ _ _ _ _ _ _ _ _ _ _ _ _ _ _ _ _
/-- A chain lies as it lay where its blocks are old. -/
theorem errC_alloc {w : World} {e : Value} {n : Nat} {r : Option Addr} (h : AM.ErrC 22 50 w e n r) (o : Obj) : AM.ErrC 22 50 (w.alloc o) e n r := by
  induction h with
  | nil => exact .nil
  | hit a => exact .hit a
  | @oth b o' n v r hc _ ih =>
    refine .oth ?_ ih
    have hb : b < w.heap.size := by
      rcases Nat.lt_or_ge b w.heap.size with h | h
      · exact h
      · simp [World.cell?, Array.getElem?_eq_none h] at hc
    rw [World.cell?_alloc_lt _ _ ⟨b, o' + 1, none⟩ hb]; exact hc
set_option maxRecDepth 20000 in
set_option maxHeartbeats 4000000 in
theorem as18 {e : Value} {n : Nat} {r : Option Addr} (t : Addr) (old : Value) (w : World) (hne : e ≠ .nilIface) (hg : w.cell? ⟨0, 0, none⟩ = some (.iface 76 (.agg #[.pointer (some ⟨4, 30, none⟩)]))) (ht0 : w.cell? t = some old) (hf0 : w.frozen? t = false) (hcc : AM.ErrC 22 50 w e n r) :
    Calls Tryd.prog 18 #[e, .iface 44 (.pointer (some t))] w fun ev w' =>
      (r = none ∧ ev = .returned (.bool false) ∧ ∃ o1 o2 o3, w' = ((w.alloc o1).alloc o2).alloc o3) ∨ (∃ a, r = some a ∧ ev = .returned (.bool true) ∧ ∃ o1 o2 o3 o4, w' = ((((w.alloc o1).alloc o2).alloc o3).alloc o4).setCell t (.pointer (some a))) := by
  have h6 := @run_callFunc_extern Tryd.prog 26 _ (fun args => ReflectliteValue.unpack (args.getD 0 (.tuple #[]))) Tryd.func26 (by kernel_rfl) (by kernel_rfl) (by kernel_rfl) (by kernel_rfl)
  have h7 := @run_callFunc_extern Tryd.prog 27 _ (ReflectliteValue.methodAny (ReflectliteValue.valueError "reflectlite.Value.Type" 0) (fun t _ _ _ => ReflectliteType.toType t)) Tryd.func27 (by kernel_rfl) (by kernel_rfl) (by kernel_rfl) (by kernel_rfl)
  have h8 := @run_callFunc_extern Tryd.prog 28 _ (ReflectliteValue.method (ReflectliteValue.valueError "reflectlite.Value.IsNil" 0) ReflectliteValue.isNil) Tryd.func28 (by kernel_rfl) (by kernel_rfl) (by kernel_rfl) (by kernel_rfl)
  have h27 := @run_callFunc_extern Tryd.prog 61 _ (ReflectliteType.abiMethod fun t => do pure (.int .u8 (← Rtype.kind t))) Tryd.func61 (by kernel_rfl) (by kernel_rfl) (by kernel_rfl) (by kernel_rfl)
  have h37 := @run_callFunc_extern Tryd.prog 72 _ (ReflectliteType.method ReflectliteType.elem) Tryd.func72 (by kernel_rfl) (by kernel_rfl) (by kernel_rfl) (by kernel_rfl)
  have h38 := @run_callFunc_extern Tryd.prog 73 _ (ReflectliteType.relation "Implements" ReflectliteType.implements_) Tryd.func73 (by kernel_rfl) (by kernel_rfl) (by kernel_rfl) (by kernel_rfl)
  have f6 := As.valueOf27
  have f7 := As.type27
  have mK := As.methodKind
  have mE := As.methodElem
  have mI := As.methodImplements
  have k27 := As.kind27
  have k25 := As.kind25
  have e27 := As.elem27
  have i25 := As.implements25
  have n8 := As.isNil27 ⟨w.heap.size, 0, none⟩ t ((w.alloc (.cells #[.pointer (some t)] 44)).alloc (.cells #[.pointer (some ⟨4, 44, none⟩), .pointer (some ⟨w.heap.size, 0, none⟩), .int .u64 150] 61)) (by simp)
  have hlt : 0 < w.heap.size := by
    rcases Nat.eq_zero_or_pos w.heap.size with h0 | h
    · simp [World.cell?, h0] at hg
    · exact h
  have hg2 : ((w.alloc (.cells #[.pointer (some t)] 44)).alloc (.cells #[.pointer (some ⟨4, 44, none⟩), .pointer (some ⟨w.heap.size, 0, none⟩), .int .u64 150] 61)).cell? ⟨0, 0, none⟩ = some (.iface 76 (.agg #[.pointer (some ⟨4, 30, none⟩)])) := by
    rw [World.cell?_alloc_lt _ _ ⟨0, 0, none⟩ (by simp), World.cell?_alloc_lt _ _ ⟨0, 0, none⟩ hlt]; exact hg
  have htl : t.block < w.heap.size := by
    rcases Nat.lt_or_ge t.block w.heap.size with h | h
    · exact h
    · simp [World.cell?, Array.getElem?_eq_none h] at ht0
  have c29 := as29 (e := e) ⟨w.heap.size, 0, none⟩ t old ((w.alloc (.cells #[.pointer (some t)] 44)).alloc (.cells #[.pointer (some ⟨4, 44, none⟩), .pointer (some ⟨w.heap.size, 0, none⟩), .int .u64 150] 61)) hne
    (by rw [World.cell?_alloc_lt _ _ ⟨w.heap.size, 0, none⟩ (by simp), World.cell?_alloc_at _ _ _ _ (by simp)]; rfl)
    (by rw [World.cell?_alloc_lt _ _ t (by simp; omega), World.cell?_alloc_lt _ _ t htl]; exact ht0)
    (by rw [World.frozen?_alloc_old _ _ t (by simp; omega), World.frozen?_alloc_old _ _ t (Nat.ne_of_lt htl)]; exact hf0)
    (errC_alloc (errC_alloc (errC_alloc hcc _) _) _)
  go_enter Tryd.func18, Tryd.ntmps18
  cases hcc with
  | nil => exact absurd rfl hne
  | hit a =>
    go_wp2_with (go_at_call 29; refine c29.mono ?_; rintro ev w' (⟨hr, _⟩ | ⟨a', hr, rfl, o1, o2, rfl⟩))
    go_ret
    exact .inr ⟨a', hr, rfl, _, _, _, _, rfl⟩
  | oth hc hcc2 =>
    go_wp2_with (go_at_call 29; refine c29.mono ?_; rintro ev w' (⟨hr, rfl, o1, rfl⟩ | ⟨a', hr, rfl, o1, o2, rfl⟩))
    · go_ret
      exact .inl ⟨hr, rfl, _, _, _, rfl⟩
    · go_ret
      exact .inr ⟨a', hr, rfl, _, _, _, _, rfl⟩
end Go.Proofs.YtlfdcehdpnidnaaDoor
