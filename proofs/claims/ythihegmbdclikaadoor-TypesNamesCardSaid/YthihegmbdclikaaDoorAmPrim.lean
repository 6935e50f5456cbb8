/- AM, part 22: contracts that stand in a function's place: errors.As at one target's type. -/
import Derived.Test.YthihegmbdclikaaDoorAmLaw
namespace Go.AM
noncomputable section
open Go.RowKit
set_option linter.unusedSectionVars false
variable [Sig]

section
variable {P : Program} {W : World} {ι : Map} {h : AHeap} {w : World}

/-- A block that the abstract machine does not know of. -/
theorem Step.extra (r : Rep W ι h w) (o : Obj) : Step W ι h w ι h (w.alloc o) := by
  have hb : W.heap.size ≤ w.heap.size := r.below.size
  have hlt : ∀ k b pl, h.get k = some b → ι k = some pl → pl.blk < w.heap.size := fun k b pl hk hp => by
    obtain ⟨pl', hp', _, cs, e, fz, hg, _⟩ := r.own k b hk
    rw [hp] at hp'; cases hp'
    exact (Array.getElem?_eq_some_iff.1 hg).1
  refine ⟨Map.le_refl _, ⟨r.below.alloc hb o, fun k b hk => ?_, r.inj, r.fresh⟩, by simp, Nat.le_refl _, fun g hg hno => ⟨Below.heap_alloc w o g hg, hno⟩, fun _ _ => rfl, fun _ _ hn => hn⟩
  obtain ⟨pl, hp, hbase, cs, e, fz, hg, rest⟩ := r.own k b hk
  exact ⟨pl, hp, hbase, cs, e, fz, by rw [Below.heap_alloc w o _ (hlt k b pl hk hp)]; exact hg, rest⟩

/-- One cell of an own block, as the world has it. -/
theorem Rep.cellAt (r : Rep W ι h w) {k o : Nat} {b : Blk} {v : AVal} {a : Addr} (hk : h.get k = some b) (hv : b.cells[o]? = some v) (ha : (Loc.own k).at ι o a) :
    W.heap.size ≤ a.block ∧ w.frozen? a = false ∧ ∃ u, w.cell? a = some u ∧ VRel ι v u := by
  obtain ⟨pl, hp, rfl⟩ := ha
  obtain ⟨pl', hp', hbase, cs, e, fz, hg, hz, hplain, hroom, hn, hlen, hcells⟩ := r.own k b hk
  rw [hp] at hp'; cases hp'
  have ho : o < b.cells.length := (List.getElem?_eq_some_iff.1 hv).1
  obtain ⟨u, hu, hr⟩ := hcells o v hv
  refine ⟨hbase, ?_, u, ?_, hr⟩
  · have := hz (pl.off + o) (by omega)
    simp only [World.frozen?, hg, Bool.and_eq_false_iff, decide_eq_false_iff_not]
    omega
  · simp [World.cell?, hg, hu]

/-- One cell is set. -/
theorem Step.set1 (P : Program) (r : Rep W ι h w) {k o : Nat} {b b' : Blk} {v old : AVal} {u : Value} {a : Addr} (hk : h.get k = some b) (hold : b.cells[o]? = some old) (hw : b.wr o [v] = some b') (ha : (Loc.own k).at ι o a) (hv : VRel ι v u) :
    Step W ι h w ι (h.set k b') (w.setCell a u) := by
  obtain ⟨w', hrun, hst⟩ := wr_sound P r hk hw ha (.cons hv .nil)
  obtain ⟨_, hf, u0, hc, _⟩ := r.cellAt hk hold ha
  have hone : u.oneCell' = true := by
    unfold Blk.wr at hw
    split at hw
    case h_2 => cases hw
    rename_i hc
    simp only [Bool.and_eq_true, List.all_eq_true] at hc
    exact VRel.one hv (hc.2 v (by simp))
  have ha0 : a.add 0 = a := by obtain ⟨pl, _, rfl⟩ := ha; rw [addr_add]; rfl
  have : (storeCells a [u]).run P w = .ok () (w.setCell a u) := by
    simp only [storeCells, ha0, Sem.run_bind]
    rw [run_store P w a u _ hone]
    simp [hc, hf, Result.andThen]
  rw [this] at hrun
  cases hrun
  exact hst

/-- A function with a text is entered. -/
theorem enter_code {g : Nat} (hf : ((P.funcs[g]?).any fun fn => fn.name != "runtime.NumGoroutine" && fn.body.isSome) = true) (args : Array Value) (w : World) : (callFunc g args).run P w = .ok (.enter g args) w := by
  cases hfn : P.funcs[g]? with
  | none => rw [hfn] at hf; cases hf
  | some fn =>
    rw [hfn] at hf
    simp only [Option.any_some, Bool.and_eq_true, bne_iff_ne, ne_eq] at hf
    obtain ⟨c, hc⟩ := Option.isSome_iff_exists.1 hf.2
    simp [callFunc, hfn, hf.1, hc]

/-! ### errors.As -/
/-- errors.As where the target is a variable of the type E: a nil error, or an error of the type E itself. -/
def asPrim (E EE : TypeId) : Prim := fun args h =>
  match args with
  | [.nili, _] => some (.bool false, h)
  | [.iface e (.ptr l o), .iface ee (.ptr (.own k) q)] => match Nat.beq e E && Nat.beq ee EE, h.get k with
    | true, some b => match b.cells[q]?, b.wr q [.ptr l o] with
      | some _, some b' => some (.bool true, h.set k b')
      | _, _ => none
    | _, _ => none
  | _ => none

theorem asPrim_ok {fAs E EE : Nat} {ga : Addr} {gv : Value} (henter : ∀ args w, (callFunc fAs args).run P w = .ok (.enter fAs args) w)
    (hnil : ∀ (t : Value) (w : World), Calls P fAs #[.nilIface, t] w fun e w' => e = .returned (.bool false) ∧ w' = w)
    (hhit : ∀ (e t : Addr) (old : Value) (w : World), w.cell? ga = some gv → w.cell? t = some old → w.frozen? t = false →
      Calls P fAs #[.iface E (.pointer (some e)), .iface EE (.pointer (some t))] w fun ev w' => ev = .returned (.bool true) ∧ ∃ o1 o2 o3 o4, w' = ((((w.alloc o1).alloc o2).alloc o3).alloc o4).setCell t (.pointer (some e)))
    (hlt : ga.block < W.heap.size) (hW : W.cell? ga = some gv) : CallOk1 P W (asPrim E EE) fAs := by
  intro args h v h' hr ι w argsC r hrel
  obtain ⟨argsL⟩ := argsC
  simp only at hrel
  unfold asPrim at hr
  split at hr
  · cases hr
    cases hrel with
    | cons h1 hs => cases hs with
      | cons h2 hs => cases hs
                      cases h1
                      exact .inl ⟨henter _ _, (hnil _ w).mono fun e w' ⟨he, hw⟩ => ⟨_, he, ι, .bool false, by rw [hw]; exact Step.refl r⟩⟩
  · rename_i e l o ee k q
    split at hr
    · rename_i b hb hk
      rw [Bool.and_eq_true] at hb
      obtain rfl := Nat.eq_of_beq_eq_true hb.1
      obtain rfl := Nat.eq_of_beq_eq_true hb.2
      split at hr
      · rename_i old b' hold hwr
        cases hr
        cases hrel with
        | cons h1 hs => cases hs with
          | cons h2 hs =>
            cases hs
            cases h1 with
            | iface _ _ u1 hu1 => cases h2 with
              | iface _ _ u2 hu2 =>
                cases hu1 with
                | ptr _ _ a1 ha1 => cases hu2 with
                  | ptr _ _ a2 ha2 =>
                    obtain ⟨hbase, hfz, u0, hc, _⟩ := r.cellAt hk hold ha2
                    refine .inl ⟨henter _ _, (hhit a1 a2 u0 w (by rw [r.below.cell hlt]; exact hW) hc hfz).mono fun ev w' ⟨he, o1, o2, o3, o4, hw⟩ => ⟨_, he, ι, .bool true, ?_⟩⟩
                    subst hw
                    have s1 := Step.extra r o1
                    have s2 := Step.extra s1.rep o2
                    have s3 := Step.extra s2.rep o3
                    have s4 := Step.extra s3.rep o4
                    exact (((s1.trans s2).trans s3).trans s4).trans (Step.set1 P s4.rep hk hold hwr ha2 (.ptr l o a1 ha1))
      · cases hr
    · cases hr
  · cases hr
/-! ### a closed function, run once -/
theorem Rep.nothing (r : Rep W ι h w) : Rep W (fun _ => none) ⟨.nil, 0⟩ w := by
  have hn : ∀ k b, (⟨.nil, 0⟩ : AHeap).get k ≠ some b := fun k b h => by cases h
  exact ⟨r.below, fun k b h => absurd h (hn k b), fun k k' b b' pl pl' h => absurd h (hn k b), fun _ _ => rfl⟩

/-- What runs with no memory known leaves all memory that is known as it was. -/
theorem Step.aside {ι' : Map} {h' : AHeap} {w' : World} (r : Rep W ι h w) (s : Step W (fun _ => none) ⟨.nil, 0⟩ w ι' h' w') : Step W ι h w ι h w' := by
  have hn : ∀ k b, (⟨.nil, 0⟩ : AHeap).get k ≠ some b := fun k b h => by cases h
  have same : ∀ g, g < w.heap.size → w'.heap[g]? = w.heap[g]? := fun g hg => (s.keeps g hg fun k b pl h => absurd h (hn k b)).1
  refine ⟨Map.le_refl _, ⟨s.rep.below, fun k b hk => ?_, r.inj, r.fresh⟩, s.size, Nat.le_refl _, fun g hg hno => ⟨same g hg, hno⟩, fun _ _ => rfl, fun _ _ h => h⟩
  obtain ⟨pl, hp, hbase, hblk⟩ := r.own k b hk
  exact ⟨pl, hp, hbase, hblk.keep (Map.le_refl _) (same _ (r.live_lt hk hp))⟩

/-- A function without parameters that says yes. -/
def yesPrim : Prim := fun args h =>
  match args with
  | [] => some (.bool true, h)
  | _ => none

theorem yesPrim_ok {I : Inp} {prims : Nat → Option Prim} {n g : Nat} (hm : P.follows .mixedOrders = true) (hname : P.funcs.toList.all (fun f => f.name != "runtime.NumGoroutine") = true) (hI : InpOk W I)
    (hp : ∀ g p, prims g = some p → CallOk1 P W p g) (hrun : saysTrue (callF P I (genF P prims) n g [] ⟨.nil, 0⟩) = true) : CallOk1 P W yesPrim g := by
  intro args h v h' hr ι w argsC r hrel
  unfold yesPrim at hr
  split at hr
  · cases hr
    obtain ⟨h2, hr2⟩ := saysTrue_spec hrun
    have hnil : VRels (fun _ => none) [] argsC.toList := by
      cases hx : argsC.toList with
      | nil => exact .nil
      | cons a b => rw [hx] at hrel; cases hrel
    exact (callF_sound hI hm (genF_ok hname hp) n g [] _ _ _ hr2 _ w argsC r.nothing hnil).mono fun u w' ⟨ι', hv, hst⟩ => by
      rw [inv_bool hv]
      exact ⟨ι, .bool true, Step.aside r hst⟩
  · cases hr
end

end

end Go.AM
