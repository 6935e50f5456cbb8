/- AM, part 15: regions, code, functions: what the abstract machine computes is what the model computes, on every tape. -/
import Derived.Test.YthihegmbdclikaaDoorAmRun
namespace Go.AM
noncomputable section
open Go.RowKit
set_option linter.unusedSectionVars false
variable [Sig]

/-- From one frame and world to later ones. -/
structure Post (W : World) (ι : Map) (n : Nat) (h : AHeap) (a : Act) (w : World) (f' : Fr) (h' : AHeap) (a' : Act) (w' : World) : Prop where
  ex : ∃ ι', FrRel ι' n f' a'.tmps ∧ Step W ι h w ι' h' w'
  defers : a'.defers = a.defers

section
variable {P : Program} {W : World} {I : Inp} {call : CallFn}

theorem not_bool {ι : Map} {x : AVal} {u : Value} (hx : VRel ι x u) (hn : ∀ b, x ≠ .bool b) : ∀ b, u ≠ .bool b := by
  intro b e
  subst e
  cases hx
  exact hn _ rfl

theorem yielded_bool {tmps : Array Value} {ops : Array Oper} {j t : Nat} (hj : (ops[j]?).bind (·.dst) = some t) {b : Bool} (hb : tmps.getD t undef = .bool b) : yielded ops tmps j = some b := by
  have : tmps[t]? = some (.bool b) := by
    rw [Array.getD_eq_getD_getElem?] at hb
    cases h : tmps[t]? with
    | none => rw [h] at hb; cases hb
    | some v => rw [h] at hb; simp at hb; rw [hb]
  unfold yielded
  rw [hj]
  simp [this]

theorem yielded_none {tmps : Array Value} {ops : Array Oper} {j t : Nat} (hj : (ops[j]?).bind (·.dst) = some t) (hb : ∀ b, tmps.getD t undef ≠ .bool b) : yielded ops tmps j = none := by
  unfold yielded
  rw [hj]
  simp only [Option.bind_some]
  cases h : tmps[t]? with
  | none => rfl
  | some v =>
    have : ∀ b, v ≠ .bool b := fun b e => hb b (by rw [Array.getD_eq_getD_getElem?, h, e]; rfl)
    cases v <;> first | rfl | exact absurd rfl (this _)

/-- One operation, whatever comes behind. -/
theorem oper_sound (hI : InpOk W I) (hcall : CallOk P W call) {n : Nat} (hn : n ≤ 16000) {ops : Array Oper} {o : Oper} {ao : AOper} (hc : cOper P ops o = some ao) (hd : ∀ d, ao.dst = some d → d < n)
    {f f' : Fr} {h h' : AHeap} (hrun : runOper P I call ao f h = some (f', h')) {ι : Map} {a : Act} {w : World} (r : Rep W ι h w) (fr : FrRel ι n f a.tmps) {Q : Exit → Act → World → Prop} {next : Act → World → Prop}
    (hnext : ∀ a' w', Post W ι n h a w f' h' a' w' → next a' w') :
    if Region.wanted o (yielded ops a.tmps) then o.wp P a w next Q ∨ (o.asks P a w ∧ LetsOut Q) else next (a.put o.dst undef) w := by
  unfold cOper at hc
  split at hc
  · cases hc
  rename_i op hop
  -- the frame behind
  have put_post : ∀ (dst : Option Nat), o.dst = dst → (∀ d, dst = some d → d < n) → ∀ {v : AVal} {u : Value} {ι' : Map} {w' : World} {h' : AHeap}, VRel ι' v u → Step W ι h w ι' h' w' →
      Post W ι n h a w (match dst with | some d => f.put d v | none => f) h' (a.put o.dst u) w' := by
    intro dst hdst hlt v u ι' w' h' hv hst
    refine ⟨⟨ι', ?_, hst⟩, ?_⟩
    · rw [hdst]
      cases dst with
      | none => exact fr.mono hst.le
      | some d => exact (fr.mono hst.le).put hn (hlt d rfl) hv
    · rw [hdst]; cases dst <;> rfl
  have hput : ∀ (dst : Option Nat) (g : Option (Nat × Bool)) (v : AVal), putDst ⟨dst, op, g⟩ f v = (match dst with | some d => f.put d v | none => f) := fun dst g v => by cases dst <;> rfl
  have go : ∀ (g : Option (Nat × Bool)), (∀ d, o.dst = some d → d < n) → ∀ {v : AVal} {h' : AHeap}, (match op.target P f with
      | some (g, args) => call g args h
      | none => op.step P I f h) = some (v, h') → (∀ a' w', Post W ι n h a w (putDst ⟨o.dst, op, g⟩ f v) h' a' w' → next a' w') → o.wp P a w next Q := by
    intro g hlt v h' hg hnx
    rw [hput] at hnx
    split at hg
    · rename_i g args ht
      obtain ⟨argsC, hrel, he⟩ := target_sound fr hop ht w
      refine Oper.wp_of_ans he (hcall g args h v _ hg ι w argsC r hrel) fun u w' ⟨ι', hv, hst⟩ => hnx _ _ (put_post o.dst rfl hlt hv hst)
    · obtain ⟨u, w', ι', hx, hv, hstep⟩ := step_sound hI r fr hop hg
      have hp := put_post o.dst rfl hlt hv hstep
      unfold Oper.wp
      rcases hx with hx | ⟨hx, rfl⟩
      · rw [hx]; exact hnx _ _ hp
      · rw [hx]; exact hnx _ _ hp
  split at hc
  · -- no guard
    rename_i hg
    cases hc
    have hw : Region.wanted o (yielded ops a.tmps) = true := by simp [Region.wanted, hg]
    rw [if_pos hw]
    left
    simp only [runOper, valOper, AOp.stepK_eq] at hrun
    split at hrun
    · rename_i v h1 hv
      cases hrun
      exact go none hd hv hnext
    · cases hrun
  · rename_i j want hg
    split at hc
    · rename_i t ht
      cases hc
      simp only [runOper, valOper, AOp.stepK_eq] at hrun
      have hft := fr.get t
      split at hrun
      · rename_i v h1 hv
        cases hrun
        split at hv
        · rename_i b hb
          rw [hb] at hft
          have hy := yielded_bool ht (inv_bool hft)
          split at hv
          · rename_i hbw
            have hw : Region.wanted o (yielded ops a.tmps) = true := by
              have : b = want := by simpa using hbw
              simp [Region.wanted, hg, hy, this]
            rw [if_pos hw]
            left
            exact go (some (t, want)) hd hv hnext
          · rename_i hbw
            cases hv
            have hw : ¬ Region.wanted o (yielded ops a.tmps) = true := by
              have : b ≠ want := by intro e; subst e; simp at hbw
              simp [Region.wanted, hg, hy, this]
            rw [if_neg hw]
            rw [hput] at hnext
            exact hnext _ _ (put_post o.dst rfl hd (undef_rel _) (Step.refl r))
        · rename_i hnb
          cases hv
          have hy := yielded_none (tmps := a.tmps) ht (not_bool hft (fun b e => hnb b e))
          have hw : ¬ Region.wanted o (yielded ops a.tmps) = true := by simp [Region.wanted, hg, hy]
          rw [if_neg hw]
          rw [hput] at hnext
          exact hnext _ _ (put_post o.dst rfl hd (undef_rel _) (Step.refl r))
      · cases hrun
    · cases hc

theorem Post.trans {ι : Map} {n : Nat} {h : AHeap} {a : Act} {w : World} {h1 : AHeap} {a1 : Act} {w1 : World} {f2 : Fr} {h2 : AHeap} {a2 : Act} {w2 : World} {ι1 : Map} (s : Step W ι h w ι1 h1 w1) (hd : a1.defers = a.defers)
    (p2 : Post W ι1 n h1 a1 w1 f2 h2 a2 w2) : Post W ι n h a w f2 h2 a2 w2 := by
  obtain ⟨⟨ι2, hf, hs⟩, hd2⟩ := p2
  exact ⟨⟨ι2, hf, s.trans hs⟩, hd2.trans hd⟩

theorem ops_sound (hI : InpOk W I) (hcall : CallOk P W call) {n : Nat} (hn : n ≤ 16000) {ops : Array Oper} {Q : Exit → Act → World → Prop} : ∀ (l : List Oper) (k : Nat), ops.toList.drop k = l → ∀ (aos : List AOper), cOpers P ops l = some aos →
    opersIn n aos = true → ∀ (f : Fr) (h : AHeap) (f' : Fr) (h' : AHeap), runOps P I call aos f h = some (f', h') → ∀ (ι : Map) (a : Act) (w : World), Rep W ι h w → FrRel ι n f a.tmps →
    (∀ a' w', Post W ι n h a w f' h' a' w' → Q .normal a' w') → wpOps P ops Q (List.range' k l.length) a w := by
  intro l
  induction l with
  | nil =>
    intro k hk aos hc hin f h f' h' hr ι a w r fr hQ
    simp only [cOpers, Option.some.injEq] at hc
    subst hc
    simp only [runOps, Option.some.injEq, Prod.mk.injEq] at hr
    obtain ⟨rfl, rfl⟩ := hr
    exact hQ a w ⟨⟨ι, fr, Step.refl r⟩, rfl⟩
  | cons o l ih =>
    intro k hk aos hc hin f h f' h' hr ι a w r fr hQ
    simp only [cOpers] at hc
    split at hc
    · rename_i ao aos' hao haos
      cases hc
      simp only [opersIn, List.all_cons, Bool.and_eq_true] at hin
      have hd : ∀ d, ao.dst = some d → d < n := by
        intro d he
        have := hin.1
        rw [he] at this
        exact Nat.le_of_ble_eq_true this
      have hko : ops[k]? = some o := by
        have : (ops.toList.drop k)[0]? = some o := by rw [hk]; rfl
        rw [List.getElem?_drop] at this
        simpa using this
      have hkl : ops.toList.drop (k + 1) = l := by
        have := congrArg (List.drop 1) hk
        rw [List.drop_drop] at this
        simpa using this
      simp only [runOps] at hr
      split at hr
      · rename_i f1 h1 hr1
        simp only [List.length_cons, List.range'_succ, wpOps, hko]
        exact oper_sound hI hcall hn hao hd hr1 r fr fun a1 w1 hp => by
          obtain ⟨⟨ι1, fr1, st1⟩, hd1⟩ := hp
          exact ih (k + 1) hkl aos' haos hin.2 f1 h1 f' h' hr ι1 a1 w1 st1.rep fr1 fun a2 w2 hp2 => hQ a2 w2 (Post.trans st1 hd1 hp2)
      · cases hr
    · cases hc

def exOf : Ex → Exit
  | .normal => .normal
  | .exit id => .exit id
  | .ret => .ret

/-- What code comes to. -/
def Does (P : Program) (W : World) (n : Nat) (c : Code) (f : Fr) (h : AHeap) (x : Ex) (f' : Fr) (h' : AHeap) : Prop :=
  ∀ (ι : Map) (a : Act) (w : World), Rep W ι h w → FrRel ι n f a.tmps → c.wp P (fun e a' w' => e = exOf x ∧ Post W ι n h a w f' h' a' w') a w

theorem rounds_mono {c : Code} {Q Q' : Exit → Act → World → Prop} (hq : ∀ e a w, Q e a w → Q' e a w) : ∀ {m : Nat} {a : Act} {w : World}, Code.rounds P c Q m a w → Code.rounds P c Q' m a w := by
  intro m
  induction m with
  | zero => intro a w h; exact h
  | succ m ih =>
    intro a w h
    rw [rounds_succ] at h ⊢
    refine wp_mono h fun e a w h => ?_
    cases e with
    | normal => exact ih h
    | _ => exact hq _ _ _ h

theorem iter_sound {n : Nat} {c : Code} {body : Fr → AHeap → Option (Ex × Fr × AHeap)} (hb : ∀ f h x f' h', body f h = some (x, f', h') → Does P W n c f h x f' h') :
    ∀ (m : Nat) (f : Fr) (h : AHeap) (x : Ex) (f' : Fr) (h' : AHeap), iter body m f h = some (x, f', h') → ∀ (ι : Map) (a : Act) (w : World), Rep W ι h w → FrRel ι n f a.tmps →
      Code.rounds P c (fun e a' w' => e = exOf x ∧ Post W ι n h a w f' h' a' w') m a w := by
  intro m
  induction m with
  | zero => intro f h x f' h' hr; cases hr
  | succ m ih =>
    intro f h x f' h' hr ι a w r fr
    simp only [iter] at hr
    rw [rounds_succ]
    cases hbody : body f h with
    | none => rw [hbody] at hr; cases hr
    | some p =>
      obtain ⟨x1, f1, h1⟩ := p
      rw [hbody] at hr
      have hd := hb f h x1 f1 h1 hbody ι a w r fr
      refine wp_mono hd fun e a1 w1 ⟨he, hp⟩ => ?_
      subst he
      cases x1 with
      | normal =>
        obtain ⟨⟨ι1, fr1, st1⟩, hd1⟩ := hp
        have := ih f1 h1 x f' h' hr ι1 a1 w1 st1.rep fr1
        show Code.rounds P c _ m a1 w1
        exact rounds_mono (fun e a2 w2 ⟨h1, h2⟩ => ⟨h1, Post.trans st1 hd1 h2⟩) this
      | exit id => cases hr; exact ⟨rfl, hp⟩
      | ret => cases hr; exact ⟨rfl, hp⟩

/-- What a region that draws its order comes to. -/
def DrawOk (P : Program) (W : World) (I : Inp) (call : CallFn) (n : Nat) : Prop :=
  ∀ (ops : Array Oper) (aos : List AOper) (dc : DrawC), cOpers P ops ops.toList = some aos → drawInfo ops.toList aos = some dc → opersIn n dc.ops = true →
    ∀ (m : Nat) (f : Fr) (h : AHeap) (x : Ex) (f' : Fr) (h' : AHeap), exec P I call m (.draw dc.ops dc.info dc.m) f h = some (x, f', h') → ∀ id, Does P W n (.region id ops true) f h x f' h'

theorem exec_sound (hI : InpOk W I) (hcall : CallOk P W call) {n : Nat} (hn : n ≤ 16000) (hdraw : DrawOk P W I call n) (m : Nat) : ∀ (c : Code) (ac : ACode), cCode P c = some ac → ac.within n = true →
    ∀ (f : Fr) (h : AHeap) (x : Ex) (f' : Fr) (h' : AHeap), exec P I call m ac f h = some (x, f', h') → Does P W n c f h x f' h' := by
  intro c
  induction c with
  | skip =>
    intro ac hc hin f h x f' h' hr ι a w r fr
    cases hc; cases hr
    exact wp_skip ⟨rfl, ⟨ι, fr, Step.refl r⟩, rfl⟩
  | region id ops draw =>
    intro ac hc hin f h x f' h' hr ι a w r fr
    simp only [cCode] at hc
    split at hc
    · obtain ⟨aos, haos, rfl⟩ := map_some hc
      simp only [exec] at hr
      split at hr
      · rename_i f1 h1 hr1
        cases hr
        refine wp_region ?_
        have := ops_sound hI hcall hn (Q := fun e a' w' => e = exOf .normal ∧ Post W ι n h a w f' h' a' w') ops.toList 0 rfl aos haos hin f h f' h' hr1 ι a w r fr (fun a' w' hp => ⟨rfl, hp⟩)
        rwa [Array.length_toList, ← List.range_eq_range'] at this
      · cases hr
    · split at hc
      · rename_i aos haos
        obtain ⟨dc, hdc, rfl⟩ := map_some hc
        exact hdraw ops aos dc haos hdc hin m f h x f' h' hr id ι a w r fr
      · cases hc
  | seq c1 c2 ih1 ih2 =>
    intro ac hc hin f h x f' h' hr ι a w r fr
    simp only [cCode] at hc
    split at hc
    · rename_i a1 a2 h1 h2
      cases hc
      simp only [ACode.within, Bool.and_eq_true] at hin
      simp only [exec] at hr
      cases he : exec P I call m a1 f h with
      | none => rw [he] at hr; cases hr
      | some p =>
        obtain ⟨x1, f1, hh1⟩ := p
        rw [he] at hr
        have hd := ih1 a1 h1 hin.1 f h x1 f1 hh1 he ι a w r fr
        refine wp_seq (wp_mono hd fun e b w1 ⟨hx, hp⟩ => ?_)
        subst hx
        cases x1 with
        | normal =>
          obtain ⟨⟨ι1, fr1, st1⟩, hd1⟩ := hp
          exact wp_mono (ih2 a2 h2 hin.2 f1 hh1 x f' h' hr ι1 b w1 st1.rep fr1) fun e b2 w2 ⟨q1, q2⟩ => ⟨q1, Post.trans st1 hd1 q2⟩
        | exit id => cases hr; exact ⟨rfl, hp⟩
        | ret => cases hr; exact ⟨rfl, hp⟩
    · cases hc
  | cond o t e iht ihe =>
    intro ac hc hin f h x f' h' hr ι a w r fr
    simp only [cCode] at hc
    split at hc
    · rename_i o' t' e' ho ht he
      cases hc
      simp only [ACode.within, Bool.and_eq_true] at hin
      simp only [exec] at hr
      have hor := cOpd_rel ho fr
      split at hr
      · rename_i hb
        rw [hb] at hor
        exact wp_cond_true (inv_bool hor) (iht t' ht hin.1 f h x f' h' hr ι a w r fr)
      · rename_i hb
        rw [hb] at hor
        exact wp_cond_false (inv_bool hor) (ihe e' he hin.2 f h x f' h' hr ι a w r fr)
      · cases hr
    · cases hc
  | block id c ih =>
    intro ac hc hin f h x f' h' hr ι a w r fr
    simp only [cCode] at hc
    obtain ⟨ac', hac, rfl⟩ := map_some hc
    simp only [exec] at hr
    cases he : exec P I call m ac' f h with
    | none => rw [he] at hr; cases hr
    | some p =>
      obtain ⟨x1, f1, hh1⟩ := p
      rw [he] at hr
      have hd := ih ac' hac hin f h x1 f1 hh1 he ι a w r fr
      refine wp_block (wp_mono hd fun e b w1 ⟨hx, hp⟩ => ?_)
      subst hx
      cases x1 with
      | normal => cases hr; exact ⟨rfl, hp⟩
      | exit i =>
        simp only at hr
        split at hr
        · rename_i hi
          cases hr
          have : i = id := by simpa using hi
          simp only [exOf, Exit.inBlock, this, if_true]
          exact ⟨trivial, hp⟩
        · rename_i hi
          cases hr
          have : ¬ i = id := by intro e; subst e; simp at hi
          simp only [exOf, Exit.inBlock, this, if_false]
          exact ⟨trivial, hp⟩
      | ret => cases hr; exact ⟨rfl, hp⟩
  | loop c ih =>
    intro ac hc hin f h x f' h' hr ι a w r fr
    simp only [cCode] at hc
    obtain ⟨ac', hac, rfl⟩ := map_some hc
    simp only [exec] at hr
    exact wp_loop_rounds m (iter_sound (fun f h x f' h' hb => ih ac' hac hin f h x f' h' hb) m f h x f' h' hr ι a w r fr)
  | exit id =>
    intro ac hc hin f h x f' h' hr ι a w r fr
    cases hc; cases hr
    exact wp_exit ⟨rfl, ⟨ι, fr, Step.refl r⟩, rfl⟩
  | ret =>
    intro ac hc hin f h x f' h' hr ι a w r fr
    cases hc; cases hr
    exact wp_ret ⟨rfl, ⟨ι, fr, Step.refl r⟩, rfl⟩
  | _ => intro ac hc; cases hc
end

end

end Go.AM
