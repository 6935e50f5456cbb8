/-
  NARROWER THAN 'FOR EVERY INPUT', by the rows' own cells (each row's printed sentence says how): WfImpl: laid · WfMethods: laid · WfLoad: laid · WfOne: laid · WfRound: laid · WfCheck: laid.
  DERIVED. THE GIVEN ROWS OF THIS SEAT. 6 by the template 'for every input the law returns true; each argument reads behind the call as it read before'; 0 by the template 'total and deterministic' (their statements: YtikjkhddkfkijaaGreatDoorTotals.lean).
  GIVEN WITH THE SEED: the statements are not yours to turn. If you find one false, say at which input.
  Laid BY PROGRAM, IN A SANDBOX (cutbox-rows.mjs): the forced cells as the released guide's own fill.sh prints them over the translation d7dbb2f17fbf151f… (all of the seat's roots in one cut). By AI agents, Wed Nov 11 2026. No macro, syntax, notation, axiom, sorry.
-/
import Derived.Test.YtikjkhddkfkijaaGreatDoorChecked
import GoSem.Claim
import GoSem.ClaimJoined
import GoSem.ClaimMapViews
import Derived.JoinedTies
import Derived.KernelRfl
namespace Go.Proofs.YtikjkhddkfkijaaGreatDoor
/- THE CELL 'sum', in the pinned program and in every row, IS THE sha256 OF THE DUMP (.gsa) THAT YtikjkhddkfkijaaGreatDoorProg.lean LOADS. Nothing in Lean hashes anything: it is a label: what it is worth is what the hold of that sum in a sandbox is worth. -/
noncomputable def Tryz.pinned : Pinned := { name := "ytikjkhddkfkijaagreatdoor", sum := "d7dbb2f17fbf151f03644f4d529080bd9df257bc6581e64f140067da0412fc21", checked := Tryz.checked }
namespace Rows
def none {H : Type} : Left H := { results := [], args := [] }

/- WHAT THE LISTED PACKAGE-LEVEL VARIABLES READ AS WHEN THE CALL BEGINS. Each datum BY PROGRAM (the guide's laid-datum.mjs) off the statement by which the dump's own 'gosem.cut.vars' lays the variable. In a bare row this is a premise. The card (YtikjkhddkfkijaaGreatDoorCards.lean) ties it to the program's text. -/
def laid_errors_errorType {H : Type} : DataW H := .iface "internal/reflectlite.rtype" (.agg [.ptr (.lit (.string [101, 114, 114, 111, 114]))])

/-- 'haruspexlaw12.WfImpl': WHATEVER THE INPUT: true; the input reads as it did. -/
def wfImplSpec : ChangeSpec := { name := "wfImpl", fn := fun _ => fun
  | [d1, d2, d3, d4] => { results := [.lit (.bool true)], args := [d1, d2, d3, d4] }
  | _ => none }
def wfImplRow : OpenClaim := { program := "ytikjkhddkfkijaagreatdoor", sum := "d7dbb2f17fbf151f03644f4d529080bd9df257bc6581e64f140067da0412fc21", func := "haruspex/haruspexlaw12.WfImpl", spec := "wfImpl", inPlace := ["internal/reflectlite.ValueOf", "(internal/reflectlite.Value).Type", "(internal/reflectlite.Value).IsNil", "internal/reflectlite.TypeOf", "(internal/reflectlite.Value).Elem", "(internal/reflectlite.Value).Set"], unfollowed := true, recurses := true, named := ["errors.errorType"], plainKeys := false, apart := false, laid := [("errors.errorType", laid_errors_errorType)] }
def WfImplSaid : Prop := wfImplRow.holds Tryz.pinned (OpenSpec.ofChange wfImplSpec)

/-- ITS FALSE NEIGHBOUR: 'it returns false'. Refute it at one input. -/
def wfImplWrong : ChangeSpec := { name := "wfImpl", fn := fun _ => fun
  | [d1, d2, d3, d4] => { results := [.lit (.bool false)], args := [d1, d2, d3, d4] }
  | _ => none }
def WfImplWrongFalsely : Prop := wfImplRow.holds Tryz.pinned (OpenSpec.ofChange wfImplWrong)

/-- 'haruspexlaw12.WfMethods': WHATEVER THE INPUT: true; the input reads as it did. -/
def wfMethodsSpec : ChangeSpec := { name := "wfMethods", fn := fun _ => fun
  | [d] => { results := [.lit (.bool true)], args := [d] }
  | _ => none }
def wfMethodsRow : OpenClaim := { program := "ytikjkhddkfkijaagreatdoor", sum := "d7dbb2f17fbf151f03644f4d529080bd9df257bc6581e64f140067da0412fc21", func := "haruspex/haruspexlaw12.WfMethods", spec := "wfMethods", inPlace := ["internal/reflectlite.ValueOf", "(internal/reflectlite.Value).Type", "(internal/reflectlite.Value).IsNil", "internal/reflectlite.TypeOf", "(internal/reflectlite.Value).Elem", "(internal/reflectlite.Value).Set"], unfollowed := true, recurses := true, named := ["errors.errorType"], plainKeys := false, apart := false, laid := [("errors.errorType", laid_errors_errorType)] }
def WfMethodsSaid : Prop := wfMethodsRow.holds Tryz.pinned (OpenSpec.ofChange wfMethodsSpec)

/-- ITS FALSE NEIGHBOUR: 'it returns false'. Refute it at one input. -/
def wfMethodsWrong : ChangeSpec := { name := "wfMethods", fn := fun _ => fun
  | [d] => { results := [.lit (.bool false)], args := [d] }
  | _ => none }
def WfMethodsWrongFalsely : Prop := wfMethodsRow.holds Tryz.pinned (OpenSpec.ofChange wfMethodsWrong)

/-- 'haruspexlaw12.WfLoad': WHATEVER THE INPUT: true; the input reads as it did. -/
def wfLoadSpec : ChangeSpec := { name := "wfLoad", fn := fun _ => fun
  | [d1, d2, d3, d4] => { results := [.lit (.bool true)], args := [d1, d2, d3, d4] }
  | _ => none }
def wfLoadRow : OpenClaim := { program := "ytikjkhddkfkijaagreatdoor", sum := "d7dbb2f17fbf151f03644f4d529080bd9df257bc6581e64f140067da0412fc21", func := "haruspex/haruspexlaw12.WfLoad", spec := "wfLoad", inPlace := ["internal/reflectlite.ValueOf", "(internal/reflectlite.Value).Type", "(internal/reflectlite.Value).IsNil", "internal/reflectlite.TypeOf", "(internal/reflectlite.Value).Elem", "(internal/reflectlite.Value).Set"], unfollowed := true, recurses := true, named := ["errors.errorType"], plainKeys := false, apart := false, laid := [("errors.errorType", laid_errors_errorType)] }
def WfLoadSaid : Prop := wfLoadRow.holds Tryz.pinned (OpenSpec.ofChange wfLoadSpec)

/-- ITS FALSE NEIGHBOUR: 'it returns false'. Refute it at one input. -/
def wfLoadWrong : ChangeSpec := { name := "wfLoad", fn := fun _ => fun
  | [d1, d2, d3, d4] => { results := [.lit (.bool false)], args := [d1, d2, d3, d4] }
  | _ => none }
def WfLoadWrongFalsely : Prop := wfLoadRow.holds Tryz.pinned (OpenSpec.ofChange wfLoadWrong)

/-- 'haruspexlaw12.WfOne': WHATEVER THE INPUT: true; the input reads as it did. -/
def wfOneSpec : ChangeSpec := { name := "wfOne", fn := fun _ => fun
  | [d1, d2, d3, d4] => { results := [.lit (.bool true)], args := [d1, d2, d3, d4] }
  | _ => none }
def wfOneRow : OpenClaim := { program := "ytikjkhddkfkijaagreatdoor", sum := "d7dbb2f17fbf151f03644f4d529080bd9df257bc6581e64f140067da0412fc21", func := "haruspex/haruspexlaw12.WfOne", spec := "wfOne", inPlace := ["internal/reflectlite.ValueOf", "(internal/reflectlite.Value).Type", "(internal/reflectlite.Value).IsNil", "internal/reflectlite.TypeOf", "(internal/reflectlite.Value).Elem", "(internal/reflectlite.Value).Set"], unfollowed := true, recurses := true, named := ["errors.errorType"], plainKeys := false, apart := false, laid := [("errors.errorType", laid_errors_errorType)] }
def WfOneSaid : Prop := wfOneRow.holds Tryz.pinned (OpenSpec.ofChange wfOneSpec)

/-- ITS FALSE NEIGHBOUR: 'it returns false'. Refute it at one input. -/
def wfOneWrong : ChangeSpec := { name := "wfOne", fn := fun _ => fun
  | [d1, d2, d3, d4] => { results := [.lit (.bool false)], args := [d1, d2, d3, d4] }
  | _ => none }
def WfOneWrongFalsely : Prop := wfOneRow.holds Tryz.pinned (OpenSpec.ofChange wfOneWrong)

/-- 'haruspexlaw12.WfRound': WHATEVER THE INPUT: true; the input reads as it did. -/
def wfRoundSpec : ChangeSpec := { name := "wfRound", fn := fun _ => fun
  | [d] => { results := [.lit (.bool true)], args := [d] }
  | _ => none }
def wfRoundRow : OpenClaim := { program := "ytikjkhddkfkijaagreatdoor", sum := "d7dbb2f17fbf151f03644f4d529080bd9df257bc6581e64f140067da0412fc21", func := "haruspex/haruspexlaw12.WfRound", spec := "wfRound", inPlace := ["internal/reflectlite.ValueOf", "(internal/reflectlite.Value).Type", "(internal/reflectlite.Value).IsNil", "internal/reflectlite.TypeOf", "(internal/reflectlite.Value).Elem", "(internal/reflectlite.Value).Set"], unfollowed := true, recurses := true, named := ["errors.errorType"], plainKeys := false, apart := false, laid := [("errors.errorType", laid_errors_errorType)] }
def WfRoundSaid : Prop := wfRoundRow.holds Tryz.pinned (OpenSpec.ofChange wfRoundSpec)

/-- ITS FALSE NEIGHBOUR: 'it returns false'. Refute it at one input. -/
def wfRoundWrong : ChangeSpec := { name := "wfRound", fn := fun _ => fun
  | [d] => { results := [.lit (.bool false)], args := [d] }
  | _ => none }
def WfRoundWrongFalsely : Prop := wfRoundRow.holds Tryz.pinned (OpenSpec.ofChange wfRoundWrong)

/-- 'haruspexlaw12.WfCheck': WHATEVER THE INPUT: true; the input reads as it did. -/
def wfCheckSpec : ChangeSpec := { name := "wfCheck", fn := fun _ => fun
  | [d] => { results := [.lit (.bool true)], args := [d] }
  | _ => none }
def wfCheckRow : OpenClaim := { program := "ytikjkhddkfkijaagreatdoor", sum := "d7dbb2f17fbf151f03644f4d529080bd9df257bc6581e64f140067da0412fc21", func := "haruspex/haruspexlaw12.WfCheck", spec := "wfCheck", inPlace := ["internal/reflectlite.ValueOf", "(internal/reflectlite.Value).Type", "(internal/reflectlite.Value).IsNil", "internal/reflectlite.TypeOf", "(internal/reflectlite.Value).Elem", "(internal/reflectlite.Value).Set"], unfollowed := true, recurses := true, named := ["errors.errorType"], plainKeys := false, apart := false, laid := [("errors.errorType", laid_errors_errorType)] }
def WfCheckSaid : Prop := wfCheckRow.holds Tryz.pinned (OpenSpec.ofChange wfCheckSpec)

/-- ITS FALSE NEIGHBOUR: 'it returns false'. Refute it at one input. -/
def wfCheckWrong : ChangeSpec := { name := "wfCheck", fn := fun _ => fun
  | [d] => { results := [.lit (.bool false)], args := [d] }
  | _ => none }
def WfCheckWrongFalsely : Prop := wfCheckRow.holds Tryz.pinned (OpenSpec.ofChange wfCheckWrong)

/- THE SECOND FORM. 'bulk': how many values and letters a reading holds, each counted each time it is reached (what is shared counts as often as it is met; a slice's spare places count too). A statement '..UptoSaid' is the law's where the arguments, and the package variables that the reading takes, are together of bulk at most 1048576: NARROWER than '..Said'. Prove '..Said' where nothing that the law and all that it calls make is longer than what came in: it says more and counts as full. Else prove '..UptoSaid'. A law counts once. -/
mutual
def uptoBulk {H : Type} : DataW H → Nat
  | .lit (.string bytes) => bytes.length + 1
  | .lit _ => 1
  | .nil => 1
  | .ptr d => uptoBulk d + 1
  | .slice elems spare => uptoBulkAll elems + uptoBulkAll spare + 1
  | .agg parts => uptoBulkAll parts + 1
  | .iface _ d => uptoBulk d + 1
  | .map entries => uptoBulkEntries entries + 1
  | .held _ => 1
def uptoBulkAll {H : Type} : List (DataW H) → Nat
  | [] => 0
  | d :: r => uptoBulk d + uptoBulkAll r
def uptoBulkEntries {H : Type} : List (Lit × DataW H) → Nat
  | [] => 0
  | x :: r => uptoBulkEntry x + uptoBulkEntries r
def uptoBulkEntry {H : Type} : Lit × DataW H → Nat
  | (.string bytes, d) => bytes.length + uptoBulk d + 1
  | (_, d) => uptoBulk d + 1
 end
def uptoSmall : (H : Type) → List (DataW H) → Bool := fun _ ds => decide (uptoBulkAll ds ≤ 1048576)
def OpenSpec.upto (s : _root_.Go.ChangeSpec) : _root_.Go.OpenSpec := { _root_.Go.OpenSpec.ofChange s with cond := some uptoSmall }

/-- 'haruspexlaw12.WfImpl', WHERE WHAT IT READS IS OF BULK AT MOST 1048576: true; the input reads as it did. -/
def wfImplUptoRow : OpenClaim := { program := "ytikjkhddkfkijaagreatdoor", sum := "d7dbb2f17fbf151f03644f4d529080bd9df257bc6581e64f140067da0412fc21", func := "haruspex/haruspexlaw12.WfImpl", spec := "wfImpl", inPlace := ["internal/reflectlite.ValueOf", "(internal/reflectlite.Value).Type", "(internal/reflectlite.Value).IsNil", "internal/reflectlite.TypeOf", "(internal/reflectlite.Value).Elem", "(internal/reflectlite.Value).Set"], unfollowed := true, recurses := true, named := ["errors.errorType"], plainKeys := false, apart := false, laid := [("errors.errorType", laid_errors_errorType)], narrowed := true }
def WfImplUptoSaid : Prop := wfImplUptoRow.holds Tryz.pinned (OpenSpec.upto wfImplSpec)

/-- 'haruspexlaw12.WfMethods', WHERE WHAT IT READS IS OF BULK AT MOST 1048576: true; the input reads as it did. -/
def wfMethodsUptoRow : OpenClaim := { program := "ytikjkhddkfkijaagreatdoor", sum := "d7dbb2f17fbf151f03644f4d529080bd9df257bc6581e64f140067da0412fc21", func := "haruspex/haruspexlaw12.WfMethods", spec := "wfMethods", inPlace := ["internal/reflectlite.ValueOf", "(internal/reflectlite.Value).Type", "(internal/reflectlite.Value).IsNil", "internal/reflectlite.TypeOf", "(internal/reflectlite.Value).Elem", "(internal/reflectlite.Value).Set"], unfollowed := true, recurses := true, named := ["errors.errorType"], plainKeys := false, apart := false, laid := [("errors.errorType", laid_errors_errorType)], narrowed := true }
def WfMethodsUptoSaid : Prop := wfMethodsUptoRow.holds Tryz.pinned (OpenSpec.upto wfMethodsSpec)

/-- 'haruspexlaw12.WfLoad', WHERE WHAT IT READS IS OF BULK AT MOST 1048576: true; the input reads as it did. -/
def wfLoadUptoRow : OpenClaim := { program := "ytikjkhddkfkijaagreatdoor", sum := "d7dbb2f17fbf151f03644f4d529080bd9df257bc6581e64f140067da0412fc21", func := "haruspex/haruspexlaw12.WfLoad", spec := "wfLoad", inPlace := ["internal/reflectlite.ValueOf", "(internal/reflectlite.Value).Type", "(internal/reflectlite.Value).IsNil", "internal/reflectlite.TypeOf", "(internal/reflectlite.Value).Elem", "(internal/reflectlite.Value).Set"], unfollowed := true, recurses := true, named := ["errors.errorType"], plainKeys := false, apart := false, laid := [("errors.errorType", laid_errors_errorType)], narrowed := true }
def WfLoadUptoSaid : Prop := wfLoadUptoRow.holds Tryz.pinned (OpenSpec.upto wfLoadSpec)

/-- 'haruspexlaw12.WfOne', WHERE WHAT IT READS IS OF BULK AT MOST 1048576: true; the input reads as it did. -/
def wfOneUptoRow : OpenClaim := { program := "ytikjkhddkfkijaagreatdoor", sum := "d7dbb2f17fbf151f03644f4d529080bd9df257bc6581e64f140067da0412fc21", func := "haruspex/haruspexlaw12.WfOne", spec := "wfOne", inPlace := ["internal/reflectlite.ValueOf", "(internal/reflectlite.Value).Type", "(internal/reflectlite.Value).IsNil", "internal/reflectlite.TypeOf", "(internal/reflectlite.Value).Elem", "(internal/reflectlite.Value).Set"], unfollowed := true, recurses := true, named := ["errors.errorType"], plainKeys := false, apart := false, laid := [("errors.errorType", laid_errors_errorType)], narrowed := true }
def WfOneUptoSaid : Prop := wfOneUptoRow.holds Tryz.pinned (OpenSpec.upto wfOneSpec)

/-- 'haruspexlaw12.WfRound', WHERE WHAT IT READS IS OF BULK AT MOST 1048576: true; the input reads as it did. -/
def wfRoundUptoRow : OpenClaim := { program := "ytikjkhddkfkijaagreatdoor", sum := "d7dbb2f17fbf151f03644f4d529080bd9df257bc6581e64f140067da0412fc21", func := "haruspex/haruspexlaw12.WfRound", spec := "wfRound", inPlace := ["internal/reflectlite.ValueOf", "(internal/reflectlite.Value).Type", "(internal/reflectlite.Value).IsNil", "internal/reflectlite.TypeOf", "(internal/reflectlite.Value).Elem", "(internal/reflectlite.Value).Set"], unfollowed := true, recurses := true, named := ["errors.errorType"], plainKeys := false, apart := false, laid := [("errors.errorType", laid_errors_errorType)], narrowed := true }
def WfRoundUptoSaid : Prop := wfRoundUptoRow.holds Tryz.pinned (OpenSpec.upto wfRoundSpec)

/-- 'haruspexlaw12.WfCheck', WHERE WHAT IT READS IS OF BULK AT MOST 1048576: true; the input reads as it did. -/
def wfCheckUptoRow : OpenClaim := { program := "ytikjkhddkfkijaagreatdoor", sum := "d7dbb2f17fbf151f03644f4d529080bd9df257bc6581e64f140067da0412fc21", func := "haruspex/haruspexlaw12.WfCheck", spec := "wfCheck", inPlace := ["internal/reflectlite.ValueOf", "(internal/reflectlite.Value).Type", "(internal/reflectlite.Value).IsNil", "internal/reflectlite.TypeOf", "(internal/reflectlite.Value).Elem", "(internal/reflectlite.Value).Set"], unfollowed := true, recurses := true, named := ["errors.errorType"], plainKeys := false, apart := false, laid := [("errors.errorType", laid_errors_errorType)], narrowed := true }
def WfCheckUptoSaid : Prop := wfCheckUptoRow.holds Tryz.pinned (OpenSpec.upto wfCheckSpec)

end Rows
end Go.Proofs.YtikjkhddkfkijaaGreatDoor
