/-
  NARROWER THAN 'FOR EVERY INPUT', by the rows' own cells (each row's printed sentence says how): AssignIn: laid · AssignFlow: laid · AssignCheck: laid · AssignDiamond: laid · AssignLoop: laid.
  DERIVED. THE GIVEN ROWS OF THIS SEAT. 5 by the template 'for every input the law returns true; each argument reads behind the call as it read before'; 0 by the template 'total and deterministic' (their statements: YtlhdpcecinfpgaaDoorTotals.lean).
  GIVEN WITH THE SEED: the statements are not yours to turn. If you find one false, say at which input.
  Laid BY PROGRAM, IN A SANDBOX (cutbox-rows.mjs): the forced cells as the released guide's own fill.sh prints them over the translation c39cab12154b216a… (all of the seat's roots in one cut). By AI agents, Wed Nov 11 2026. No macro, syntax, notation, axiom, sorry.
-/
import Derived.Test.YtlhdpcecinfpgaaDoorChecked
import GoSem.Claim
import GoSem.ClaimJoined
import GoSem.ClaimMapViews
import Derived.JoinedTies
import Derived.KernelRfl
namespace Go.Proofs.YtlhdpcecinfpgaaDoor
/- THE CELL 'sum', in the pinned program and in every row, IS THE sha256 OF THE DUMP (.gsa) THAT YtlhdpcecinfpgaaDoorProg.lean LOADS. Nothing in Lean hashes anything: it is a label: what it is worth is what the hold of that sum in a sandbox is worth. -/
noncomputable def Tryd.pinned : Pinned := { name := "ytlhdpcecinfpgaadoor", sum := "c39cab12154b216af805200c9c1b049ea0c4a70227f229cda769d8d911d294d6", checked := Tryd.checked }
namespace Rows
def none {H : Type} : Left H := { results := [], args := [] }

/- WHAT THE LISTED PACKAGE-LEVEL VARIABLES READ AS WHEN THE CALL BEGINS. Each datum BY PROGRAM (the guide's laid-datum.mjs) off the statement by which the dump's own 'gosem.cut.vars' lays the variable. In a bare row this is a premise. The card (YtlhdpcecinfpgaaDoorCards.lean) ties it to the program's text. -/
def laid_errors_errorType {H : Type} : DataW H := .iface "internal/reflectlite.rtype" (.agg [.ptr (.lit (.string [101, 114, 114, 111, 114]))])

/-- 'haruspexlaw11.AssignIn': WHATEVER THE INPUT: true; the input reads as it did. -/
def assignInSpec : ChangeSpec := { name := "assignIn", fn := fun _ => fun
  | [d] => { results := [.lit (.bool true)], args := [d] }
  | _ => none }
def assignInRow : OpenClaim := { program := "ytlhdpcecinfpgaadoor", sum := "c39cab12154b216af805200c9c1b049ea0c4a70227f229cda769d8d911d294d6", func := "haruspex/haruspexlaw11.AssignIn", spec := "assignIn", inPlace := ["internal/reflectlite.ValueOf", "(internal/reflectlite.Value).Type", "(internal/reflectlite.Value).IsNil", "internal/reflectlite.TypeOf", "(internal/reflectlite.Value).Elem", "(internal/reflectlite.Value).Set"], unfollowed := true, recurses := true, named := ["errors.errorType"], plainKeys := false, apart := false, laid := [("errors.errorType", laid_errors_errorType)] }
def AssignInSaid : Prop := assignInRow.holds Tryd.pinned (OpenSpec.ofChange assignInSpec)

/-- ITS FALSE NEIGHBOUR: 'it returns false'. Refute it at one input. -/
def assignInWrong : ChangeSpec := { name := "assignIn", fn := fun _ => fun
  | [d] => { results := [.lit (.bool false)], args := [d] }
  | _ => none }
def AssignInWrongFalsely : Prop := assignInRow.holds Tryd.pinned (OpenSpec.ofChange assignInWrong)

/-- 'haruspexlaw11.AssignFlow': WHATEVER THE INPUT: true; the input reads as it did. -/
def assignFlowSpec : ChangeSpec := { name := "assignFlow", fn := fun _ => fun
  | [d] => { results := [.lit (.bool true)], args := [d] }
  | _ => none }
def assignFlowRow : OpenClaim := { program := "ytlhdpcecinfpgaadoor", sum := "c39cab12154b216af805200c9c1b049ea0c4a70227f229cda769d8d911d294d6", func := "haruspex/haruspexlaw11.AssignFlow", spec := "assignFlow", inPlace := ["internal/reflectlite.ValueOf", "(internal/reflectlite.Value).Type", "(internal/reflectlite.Value).IsNil", "internal/reflectlite.TypeOf", "(internal/reflectlite.Value).Elem", "(internal/reflectlite.Value).Set"], unfollowed := true, recurses := true, named := ["errors.errorType"], plainKeys := false, apart := false, laid := [("errors.errorType", laid_errors_errorType)] }
def AssignFlowSaid : Prop := assignFlowRow.holds Tryd.pinned (OpenSpec.ofChange assignFlowSpec)

/-- ITS FALSE NEIGHBOUR: 'it returns false'. Refute it at one input. -/
def assignFlowWrong : ChangeSpec := { name := "assignFlow", fn := fun _ => fun
  | [d] => { results := [.lit (.bool false)], args := [d] }
  | _ => none }
def AssignFlowWrongFalsely : Prop := assignFlowRow.holds Tryd.pinned (OpenSpec.ofChange assignFlowWrong)

/-- 'haruspexlaw11.AssignCheck': WHATEVER THE INPUT: true; the input reads as it did. -/
def assignCheckSpec : ChangeSpec := { name := "assignCheck", fn := fun _ => fun
  | [d] => { results := [.lit (.bool true)], args := [d] }
  | _ => none }
def assignCheckRow : OpenClaim := { program := "ytlhdpcecinfpgaadoor", sum := "c39cab12154b216af805200c9c1b049ea0c4a70227f229cda769d8d911d294d6", func := "haruspex/haruspexlaw11.AssignCheck", spec := "assignCheck", inPlace := ["internal/reflectlite.ValueOf", "(internal/reflectlite.Value).Type", "(internal/reflectlite.Value).IsNil", "internal/reflectlite.TypeOf", "(internal/reflectlite.Value).Elem", "(internal/reflectlite.Value).Set"], unfollowed := true, recurses := true, named := ["errors.errorType"], plainKeys := false, apart := false, laid := [("errors.errorType", laid_errors_errorType)] }
def AssignCheckSaid : Prop := assignCheckRow.holds Tryd.pinned (OpenSpec.ofChange assignCheckSpec)

/-- ITS FALSE NEIGHBOUR: 'it returns false'. Refute it at one input. -/
def assignCheckWrong : ChangeSpec := { name := "assignCheck", fn := fun _ => fun
  | [d] => { results := [.lit (.bool false)], args := [d] }
  | _ => none }
def AssignCheckWrongFalsely : Prop := assignCheckRow.holds Tryd.pinned (OpenSpec.ofChange assignCheckWrong)

/-- 'haruspexlaw11.AssignDiamond': WHATEVER THE INPUT: true; the input reads as it did. -/
def assignDiamondSpec : ChangeSpec := { name := "assignDiamond", fn := fun _ => fun
  | [d1, d2] => { results := [.lit (.bool true)], args := [d1, d2] }
  | _ => none }
def assignDiamondRow : OpenClaim := { program := "ytlhdpcecinfpgaadoor", sum := "c39cab12154b216af805200c9c1b049ea0c4a70227f229cda769d8d911d294d6", func := "haruspex/haruspexlaw11.AssignDiamond", spec := "assignDiamond", inPlace := ["internal/reflectlite.ValueOf", "(internal/reflectlite.Value).Type", "(internal/reflectlite.Value).IsNil", "internal/reflectlite.TypeOf", "(internal/reflectlite.Value).Elem", "(internal/reflectlite.Value).Set"], unfollowed := true, recurses := true, named := ["errors.errorType"], plainKeys := false, apart := false, laid := [("errors.errorType", laid_errors_errorType)] }
def AssignDiamondSaid : Prop := assignDiamondRow.holds Tryd.pinned (OpenSpec.ofChange assignDiamondSpec)

/-- ITS FALSE NEIGHBOUR: 'it returns false'. Refute it at one input. -/
def assignDiamondWrong : ChangeSpec := { name := "assignDiamond", fn := fun _ => fun
  | [d1, d2] => { results := [.lit (.bool false)], args := [d1, d2] }
  | _ => none }
def AssignDiamondWrongFalsely : Prop := assignDiamondRow.holds Tryd.pinned (OpenSpec.ofChange assignDiamondWrong)

/-- 'haruspexlaw11.AssignLoop': WHATEVER THE INPUT: true; the input reads as it did. -/
def assignLoopSpec : ChangeSpec := { name := "assignLoop", fn := fun _ => fun
  | [d] => { results := [.lit (.bool true)], args := [d] }
  | _ => none }
def assignLoopRow : OpenClaim := { program := "ytlhdpcecinfpgaadoor", sum := "c39cab12154b216af805200c9c1b049ea0c4a70227f229cda769d8d911d294d6", func := "haruspex/haruspexlaw11.AssignLoop", spec := "assignLoop", inPlace := ["internal/reflectlite.ValueOf", "(internal/reflectlite.Value).Type", "(internal/reflectlite.Value).IsNil", "internal/reflectlite.TypeOf", "(internal/reflectlite.Value).Elem", "(internal/reflectlite.Value).Set"], unfollowed := true, recurses := true, named := ["errors.errorType"], plainKeys := false, apart := false, laid := [("errors.errorType", laid_errors_errorType)] }
def AssignLoopSaid : Prop := assignLoopRow.holds Tryd.pinned (OpenSpec.ofChange assignLoopSpec)

/-- ITS FALSE NEIGHBOUR: 'it returns false'. Refute it at one input. -/
def assignLoopWrong : ChangeSpec := { name := "assignLoop", fn := fun _ => fun
  | [d] => { results := [.lit (.bool false)], args := [d] }
  | _ => none }
def AssignLoopWrongFalsely : Prop := assignLoopRow.holds Tryd.pinned (OpenSpec.ofChange assignLoopWrong)

/- THE SECOND FORM. 'bulk': how many values and letters a reading holds, each counted each time it is reached (what is shared counts as often as it is met; a slice's spare places count too). A statement '..UptoSaid' is the law's where the arguments, and the package variables that the reading takes, are together of bulk at most 1048576: NARROWER than '..Said'. Prove '..Said' where nothing that the law and all that it calls make is longer than what came in: it says more and counts as full. Else prove '..UptoSaid'. A law counts once. -/
mutual
def uptoBulk {H : Type} : DataW H → Nat
  | .lit (.string bytes) => bytes.length + 1
  | .lit _ => 1
  | .nil => 1
  | .ptr d => uptoBulk d + 1
  | .slice elems spare => uptoBulkAll elems + uptoBulkAll spare + 1
  | .agg parts => uptoBulkAll parts + 1
  | .iface _ d => uptoBulk d + 1
  | .map entries => uptoBulkEntries entries + 1
  | .held _ => 1
def uptoBulkAll {H : Type} : List (DataW H) → Nat
  | [] => 0
  | d :: r => uptoBulk d + uptoBulkAll r
def uptoBulkEntries {H : Type} : List (Lit × DataW H) → Nat
  | [] => 0
  | x :: r => uptoBulkEntry x + uptoBulkEntries r
def uptoBulkEntry {H : Type} : Lit × DataW H → Nat
  | (.string bytes, d) => bytes.length + uptoBulk d + 1
  | (_, d) => uptoBulk d + 1
 end
def uptoSmall : (H : Type) → List (DataW H) → Bool := fun _ ds => decide (uptoBulkAll ds ≤ 1048576)
def OpenSpec.upto (s : _root_.Go.ChangeSpec) : _root_.Go.OpenSpec := { _root_.Go.OpenSpec.ofChange s with cond := some uptoSmall }

/-- 'haruspexlaw11.AssignIn', WHERE WHAT IT READS IS OF BULK AT MOST 1048576: true; the input reads as it did. -/
def assignInUptoRow : OpenClaim := { program := "ytlhdpcecinfpgaadoor", sum := "c39cab12154b216af805200c9c1b049ea0c4a70227f229cda769d8d911d294d6", func := "haruspex/haruspexlaw11.AssignIn", spec := "assignIn", inPlace := ["internal/reflectlite.ValueOf", "(internal/reflectlite.Value).Type", "(internal/reflectlite.Value).IsNil", "internal/reflectlite.TypeOf", "(internal/reflectlite.Value).Elem", "(internal/reflectlite.Value).Set"], unfollowed := true, recurses := true, named := ["errors.errorType"], plainKeys := false, apart := false, laid := [("errors.errorType", laid_errors_errorType)], narrowed := true }
def AssignInUptoSaid : Prop := assignInUptoRow.holds Tryd.pinned (OpenSpec.upto assignInSpec)

/-- 'haruspexlaw11.AssignFlow', WHERE WHAT IT READS IS OF BULK AT MOST 1048576: true; the input reads as it did. -/
def assignFlowUptoRow : OpenClaim := { program := "ytlhdpcecinfpgaadoor", sum := "c39cab12154b216af805200c9c1b049ea0c4a70227f229cda769d8d911d294d6", func := "haruspex/haruspexlaw11.AssignFlow", spec := "assignFlow", inPlace := ["internal/reflectlite.ValueOf", "(internal/reflectlite.Value).Type", "(internal/reflectlite.Value).IsNil", "internal/reflectlite.TypeOf", "(internal/reflectlite.Value).Elem", "(internal/reflectlite.Value).Set"], unfollowed := true, recurses := true, named := ["errors.errorType"], plainKeys := false, apart := false, laid := [("errors.errorType", laid_errors_errorType)], narrowed := true }
def AssignFlowUptoSaid : Prop := assignFlowUptoRow.holds Tryd.pinned (OpenSpec.upto assignFlowSpec)

/-- 'haruspexlaw11.AssignCheck', WHERE WHAT IT READS IS OF BULK AT MOST 1048576: true; the input reads as it did. -/
def assignCheckUptoRow : OpenClaim := { program := "ytlhdpcecinfpgaadoor", sum := "c39cab12154b216af805200c9c1b049ea0c4a70227f229cda769d8d911d294d6", func := "haruspex/haruspexlaw11.AssignCheck", spec := "assignCheck", inPlace := ["internal/reflectlite.ValueOf", "(internal/reflectlite.Value).Type", "(internal/reflectlite.Value).IsNil", "internal/reflectlite.TypeOf", "(internal/reflectlite.Value).Elem", "(internal/reflectlite.Value).Set"], unfollowed := true, recurses := true, named := ["errors.errorType"], plainKeys := false, apart := false, laid := [("errors.errorType", laid_errors_errorType)], narrowed := true }
def AssignCheckUptoSaid : Prop := assignCheckUptoRow.holds Tryd.pinned (OpenSpec.upto assignCheckSpec)

/-- 'haruspexlaw11.AssignDiamond', WHERE WHAT IT READS IS OF BULK AT MOST 1048576: true; the input reads as it did. -/
def assignDiamondUptoRow : OpenClaim := { program := "ytlhdpcecinfpgaadoor", sum := "c39cab12154b216af805200c9c1b049ea0c4a70227f229cda769d8d911d294d6", func := "haruspex/haruspexlaw11.AssignDiamond", spec := "assignDiamond", inPlace := ["internal/reflectlite.ValueOf", "(internal/reflectlite.Value).Type", "(internal/reflectlite.Value).IsNil", "internal/reflectlite.TypeOf", "(internal/reflectlite.Value).Elem", "(internal/reflectlite.Value).Set"], unfollowed := true, recurses := true, named := ["errors.errorType"], plainKeys := false, apart := false, laid := [("errors.errorType", laid_errors_errorType)], narrowed := true }
def AssignDiamondUptoSaid : Prop := assignDiamondUptoRow.holds Tryd.pinned (OpenSpec.upto assignDiamondSpec)

/-- 'haruspexlaw11.AssignLoop', WHERE WHAT IT READS IS OF BULK AT MOST 1048576: true; the input reads as it did. -/
def assignLoopUptoRow : OpenClaim := { program := "ytlhdpcecinfpgaadoor", sum := "c39cab12154b216af805200c9c1b049ea0c4a70227f229cda769d8d911d294d6", func := "haruspex/haruspexlaw11.AssignLoop", spec := "assignLoop", inPlace := ["internal/reflectlite.ValueOf", "(internal/reflectlite.Value).Type", "(internal/reflectlite.Value).IsNil", "internal/reflectlite.TypeOf", "(internal/reflectlite.Value).Elem", "(internal/reflectlite.Value).Set"], unfollowed := true, recurses := true, named := ["errors.errorType"], plainKeys := false, apart := false, laid := [("errors.errorType", laid_errors_errorType)], narrowed := true }
def AssignLoopUptoSaid : Prop := assignLoopUptoRow.holds Tryd.pinned (OpenSpec.upto assignLoopSpec)

end Rows
end Go.Proofs.YtlhdpcecinfpgaaDoor
