/-
  NARROWER THAN 'FOR EVERY INPUT', by the rows' own cells (each row's printed sentence says how): SemBranch: laid · SemLoop: laid · SemArgs: laid · SemMethod: laid · SemWrong: laid · SemSum: laid · SemDeep: laid · SemOracle: laid · SemOwn: laid · SemTypes: laid · SemRaw: laid · SemNone: laid · SemSteps: laid.
  DERIVED. THE GIVEN ROWS OF THIS SEAT. 13 by the template 'for every input the law returns true; each argument reads behind the call as it read before'; 0 by the template 'total and deterministic' (their statements: YtechgpjdlkjjoaaGreatDoorTotals.lean).
  GIVEN WITH THE SEED: the statements are not yours to turn. If you find one false, say at which input.
  Laid BY PROGRAM, IN A SANDBOX (cutbox-rows.mjs): the forced cells as the released guide's own fill.sh prints them over the translation dbb263a430923b5e… (all of the seat's roots in one cut). By AI agents, Wed Nov 11 2026. No macro, syntax, notation, axiom, sorry.
-/
import Derived.Test.YtechgpjdlkjjoaaGreatDoorChecked
import GoSem.Claim
import GoSem.ClaimJoined
import GoSem.ClaimMapViews
import Derived.JoinedTies
import Derived.KernelRfl
namespace Go.Proofs.YtechgpjdlkjjoaaGreatDoor
/- THE CELL 'sum', in the pinned program and in every row, IS THE sha256 OF THE DUMP (.gsa) THAT YtechgpjdlkjjoaaGreatDoorProg.lean LOADS. Nothing in Lean hashes anything: it is a label: what it is worth is what the hold of that sum in a sandbox is worth. -/
noncomputable def Tryz.pinned : Pinned := { name := "ytechgpjdlkjjoaagreatdoor", sum := "dbb263a430923b5e47e5f1564f0df901f1d7a9b269a174fd6ac690599b628afb", checked := Tryz.checked }
namespace Rows
def none {H : Type} : Left H := { results := [], args := [] }

/- WHAT THE LISTED PACKAGE-LEVEL VARIABLES READ AS WHEN THE CALL BEGINS. Each datum BY PROGRAM (the guide's laid-datum.mjs) off the statement by which the dump's own 'gosem.cut.vars' lays the variable. In a bare row this is a premise. The card (YtechgpjdlkjjoaaGreatDoorCards.lean) ties it to the program's text. -/
def laid_errors_errorType {H : Type} : DataW H := .iface "internal/reflectlite.rtype" (.agg [.ptr (.lit (.string [101, 114, 114, 111, 114]))])

/-- 'haruspexlaw14.SemBranch': WHATEVER THE INPUT: true; the input reads as it did. -/
def semBranchSpec : ChangeSpec := { name := "semBranch", fn := fun _ => fun
  | [d] => { results := [.lit (.bool true)], args := [d] }
  | _ => none }
def semBranchRow : OpenClaim := { program := "ytechgpjdlkjjoaagreatdoor", sum := "dbb263a430923b5e47e5f1564f0df901f1d7a9b269a174fd6ac690599b628afb", func := "haruspex/haruspexlaw14.SemBranch", spec := "semBranch", inPlace := ["internal/reflectlite.ValueOf", "(internal/reflectlite.Value).Type", "(internal/reflectlite.Value).IsNil", "internal/reflectlite.TypeOf", "(internal/reflectlite.Value).Elem", "(internal/reflectlite.Value).Set"], unfollowed := true, recurses := true, named := ["errors.errorType"], plainKeys := false, apart := false, laid := [("errors.errorType", laid_errors_errorType)] }
def SemBranchSaid : Prop := semBranchRow.holds Tryz.pinned (OpenSpec.ofChange semBranchSpec)

/-- ITS FALSE NEIGHBOUR: 'it returns false'. Refute it at one input. -/
def semBranchWrong : ChangeSpec := { name := "semBranch", fn := fun _ => fun
  | [d] => { results := [.lit (.bool false)], args := [d] }
  | _ => none }
def SemBranchWrongFalsely : Prop := semBranchRow.holds Tryz.pinned (OpenSpec.ofChange semBranchWrong)

/-- 'haruspexlaw14.SemLoop': WHATEVER THE INPUT: true; the input reads as it did. -/
def semLoopSpec : ChangeSpec := { name := "semLoop", fn := fun _ => fun
  | [d] => { results := [.lit (.bool true)], args := [d] }
  | _ => none }
def semLoopRow : OpenClaim := { program := "ytechgpjdlkjjoaagreatdoor", sum := "dbb263a430923b5e47e5f1564f0df901f1d7a9b269a174fd6ac690599b628afb", func := "haruspex/haruspexlaw14.SemLoop", spec := "semLoop", inPlace := ["internal/reflectlite.ValueOf", "(internal/reflectlite.Value).Type", "(internal/reflectlite.Value).IsNil", "internal/reflectlite.TypeOf", "(internal/reflectlite.Value).Elem", "(internal/reflectlite.Value).Set"], unfollowed := true, recurses := true, named := ["errors.errorType"], plainKeys := false, apart := false, laid := [("errors.errorType", laid_errors_errorType)] }
def SemLoopSaid : Prop := semLoopRow.holds Tryz.pinned (OpenSpec.ofChange semLoopSpec)

/-- ITS FALSE NEIGHBOUR: 'it returns false'. Refute it at one input. -/
def semLoopWrong : ChangeSpec := { name := "semLoop", fn := fun _ => fun
  | [d] => { results := [.lit (.bool false)], args := [d] }
  | _ => none }
def SemLoopWrongFalsely : Prop := semLoopRow.holds Tryz.pinned (OpenSpec.ofChange semLoopWrong)

/-- 'haruspexlaw14.SemArgs': WHATEVER THE INPUT: true; the input reads as it did. -/
def semArgsSpec : ChangeSpec := { name := "semArgs", fn := fun _ => fun
  | [d1, d2, d3] => { results := [.lit (.bool true)], args := [d1, d2, d3] }
  | _ => none }
def semArgsRow : OpenClaim := { program := "ytechgpjdlkjjoaagreatdoor", sum := "dbb263a430923b5e47e5f1564f0df901f1d7a9b269a174fd6ac690599b628afb", func := "haruspex/haruspexlaw14.SemArgs", spec := "semArgs", inPlace := ["internal/reflectlite.ValueOf", "(internal/reflectlite.Value).Type", "(internal/reflectlite.Value).IsNil", "internal/reflectlite.TypeOf", "(internal/reflectlite.Value).Elem", "(internal/reflectlite.Value).Set"], unfollowed := true, recurses := true, named := ["errors.errorType"], plainKeys := false, apart := false, laid := [("errors.errorType", laid_errors_errorType)] }
def SemArgsSaid : Prop := semArgsRow.holds Tryz.pinned (OpenSpec.ofChange semArgsSpec)

/-- ITS FALSE NEIGHBOUR: 'it returns false'. Refute it at one input. -/
def semArgsWrong : ChangeSpec := { name := "semArgs", fn := fun _ => fun
  | [d1, d2, d3] => { results := [.lit (.bool false)], args := [d1, d2, d3] }
  | _ => none }
def SemArgsWrongFalsely : Prop := semArgsRow.holds Tryz.pinned (OpenSpec.ofChange semArgsWrong)

/-- 'haruspexlaw14.SemMethod': WHATEVER THE INPUT: true; the input reads as it did. -/
def semMethodSpec : ChangeSpec := { name := "semMethod", fn := fun _ => fun
  | [d1, d2] => { results := [.lit (.bool true)], args := [d1, d2] }
  | _ => none }
def semMethodRow : OpenClaim := { program := "ytechgpjdlkjjoaagreatdoor", sum := "dbb263a430923b5e47e5f1564f0df901f1d7a9b269a174fd6ac690599b628afb", func := "haruspex/haruspexlaw14.SemMethod", spec := "semMethod", inPlace := ["internal/reflectlite.ValueOf", "(internal/reflectlite.Value).Type", "(internal/reflectlite.Value).IsNil", "internal/reflectlite.TypeOf", "(internal/reflectlite.Value).Elem", "(internal/reflectlite.Value).Set"], unfollowed := true, recurses := true, named := ["errors.errorType"], plainKeys := false, apart := false, laid := [("errors.errorType", laid_errors_errorType)] }
def SemMethodSaid : Prop := semMethodRow.holds Tryz.pinned (OpenSpec.ofChange semMethodSpec)

/-- ITS FALSE NEIGHBOUR: 'it returns false'. Refute it at one input. -/
def semMethodWrong : ChangeSpec := { name := "semMethod", fn := fun _ => fun
  | [d1, d2] => { results := [.lit (.bool false)], args := [d1, d2] }
  | _ => none }
def SemMethodWrongFalsely : Prop := semMethodRow.holds Tryz.pinned (OpenSpec.ofChange semMethodWrong)

/-- 'haruspexlaw14.SemWrong': WHATEVER THE INPUT: true; the input reads as it did. -/
def semWrongSpec : ChangeSpec := { name := "semWrong", fn := fun _ => fun
  | [d] => { results := [.lit (.bool true)], args := [d] }
  | _ => none }
def semWrongRow : OpenClaim := { program := "ytechgpjdlkjjoaagreatdoor", sum := "dbb263a430923b5e47e5f1564f0df901f1d7a9b269a174fd6ac690599b628afb", func := "haruspex/haruspexlaw14.SemWrong", spec := "semWrong", inPlace := ["internal/reflectlite.ValueOf", "(internal/reflectlite.Value).Type", "(internal/reflectlite.Value).IsNil", "internal/reflectlite.TypeOf", "(internal/reflectlite.Value).Elem", "(internal/reflectlite.Value).Set"], unfollowed := true, recurses := true, named := ["errors.errorType"], plainKeys := false, apart := false, laid := [("errors.errorType", laid_errors_errorType)] }
def SemWrongSaid : Prop := semWrongRow.holds Tryz.pinned (OpenSpec.ofChange semWrongSpec)

/-- ITS FALSE NEIGHBOUR: 'it returns false'. Refute it at one input. -/
def semWrongWrong : ChangeSpec := { name := "semWrong", fn := fun _ => fun
  | [d] => { results := [.lit (.bool false)], args := [d] }
  | _ => none }
def SemWrongWrongFalsely : Prop := semWrongRow.holds Tryz.pinned (OpenSpec.ofChange semWrongWrong)

/-- 'haruspexlaw14.SemSum': WHATEVER THE INPUT: true; the input reads as it did. -/
def semSumSpec : ChangeSpec := { name := "semSum", fn := fun _ => fun
  | [d] => { results := [.lit (.bool true)], args := [d] }
  | _ => none }
def semSumRow : OpenClaim := { program := "ytechgpjdlkjjoaagreatdoor", sum := "dbb263a430923b5e47e5f1564f0df901f1d7a9b269a174fd6ac690599b628afb", func := "haruspex/haruspexlaw14.SemSum", spec := "semSum", inPlace := ["internal/reflectlite.ValueOf", "(internal/reflectlite.Value).Type", "(internal/reflectlite.Value).IsNil", "internal/reflectlite.TypeOf", "(internal/reflectlite.Value).Elem", "(internal/reflectlite.Value).Set"], unfollowed := true, recurses := true, named := ["errors.errorType"], plainKeys := false, apart := false, laid := [("errors.errorType", laid_errors_errorType)] }
def SemSumSaid : Prop := semSumRow.holds Tryz.pinned (OpenSpec.ofChange semSumSpec)

/-- ITS FALSE NEIGHBOUR: 'it returns false'. Refute it at one input. -/
def semSumWrong : ChangeSpec := { name := "semSum", fn := fun _ => fun
  | [d] => { results := [.lit (.bool false)], args := [d] }
  | _ => none }
def SemSumWrongFalsely : Prop := semSumRow.holds Tryz.pinned (OpenSpec.ofChange semSumWrong)

/-- 'haruspexlaw14.SemDeep': WHATEVER THE INPUT: true; the input reads as it did. -/
def semDeepSpec : ChangeSpec := { name := "semDeep", fn := fun _ => fun
  | [d] => { results := [.lit (.bool true)], args := [d] }
  | _ => none }
def semDeepRow : OpenClaim := { program := "ytechgpjdlkjjoaagreatdoor", sum := "dbb263a430923b5e47e5f1564f0df901f1d7a9b269a174fd6ac690599b628afb", func := "haruspex/haruspexlaw14.SemDeep", spec := "semDeep", inPlace := ["internal/reflectlite.ValueOf", "(internal/reflectlite.Value).Type", "(internal/reflectlite.Value).IsNil", "internal/reflectlite.TypeOf", "(internal/reflectlite.Value).Elem", "(internal/reflectlite.Value).Set"], unfollowed := true, recurses := true, named := ["errors.errorType"], plainKeys := false, apart := false, laid := [("errors.errorType", laid_errors_errorType)] }
def SemDeepSaid : Prop := semDeepRow.holds Tryz.pinned (OpenSpec.ofChange semDeepSpec)

/-- ITS FALSE NEIGHBOUR: 'it returns false'. Refute it at one input. -/
def semDeepWrong : ChangeSpec := { name := "semDeep", fn := fun _ => fun
  | [d] => { results := [.lit (.bool false)], args := [d] }
  | _ => none }
def SemDeepWrongFalsely : Prop := semDeepRow.holds Tryz.pinned (OpenSpec.ofChange semDeepWrong)

/-- 'haruspexlaw14.SemOracle': WHATEVER THE INPUT: true; the input reads as it did. -/
def semOracleSpec : ChangeSpec := { name := "semOracle", fn := fun _ => fun
  | [d1, d2] => { results := [.lit (.bool true)], args := [d1, d2] }
  | _ => none }
def semOracleRow : OpenClaim := { program := "ytechgpjdlkjjoaagreatdoor", sum := "dbb263a430923b5e47e5f1564f0df901f1d7a9b269a174fd6ac690599b628afb", func := "haruspex/haruspexlaw14.SemOracle", spec := "semOracle", inPlace := ["internal/reflectlite.ValueOf", "(internal/reflectlite.Value).Type", "(internal/reflectlite.Value).IsNil", "internal/reflectlite.TypeOf", "(internal/reflectlite.Value).Elem", "(internal/reflectlite.Value).Set"], unfollowed := true, recurses := true, named := ["errors.errorType"], plainKeys := false, apart := false, laid := [("errors.errorType", laid_errors_errorType)] }
def SemOracleSaid : Prop := semOracleRow.holds Tryz.pinned (OpenSpec.ofChange semOracleSpec)

/-- ITS FALSE NEIGHBOUR: 'it returns false'. Refute it at one input. -/
def semOracleWrong : ChangeSpec := { name := "semOracle", fn := fun _ => fun
  | [d1, d2] => { results := [.lit (.bool false)], args := [d1, d2] }
  | _ => none }
def SemOracleWrongFalsely : Prop := semOracleRow.holds Tryz.pinned (OpenSpec.ofChange semOracleWrong)

/-- 'haruspexlaw14.SemOwn': WHATEVER THE INPUT: true; the input reads as it did. -/
def semOwnSpec : ChangeSpec := { name := "semOwn", fn := fun _ => fun
  | [d1, d2, d3] => { results := [.lit (.bool true)], args := [d1, d2, d3] }
  | _ => none }
def semOwnRow : OpenClaim := { program := "ytechgpjdlkjjoaagreatdoor", sum := "dbb263a430923b5e47e5f1564f0df901f1d7a9b269a174fd6ac690599b628afb", func := "haruspex/haruspexlaw14.SemOwn", spec := "semOwn", inPlace := ["internal/reflectlite.ValueOf", "(internal/reflectlite.Value).Type", "(internal/reflectlite.Value).IsNil", "internal/reflectlite.TypeOf", "(internal/reflectlite.Value).Elem", "(internal/reflectlite.Value).Set"], unfollowed := true, recurses := true, named := ["errors.errorType"], plainKeys := false, apart := false, laid := [("errors.errorType", laid_errors_errorType)] }
def SemOwnSaid : Prop := semOwnRow.holds Tryz.pinned (OpenSpec.ofChange semOwnSpec)

/-- ITS FALSE NEIGHBOUR: 'it returns false'. Refute it at one input. -/
def semOwnWrong : ChangeSpec := { name := "semOwn", fn := fun _ => fun
  | [d1, d2, d3] => { results := [.lit (.bool false)], args := [d1, d2, d3] }
  | _ => none }
def SemOwnWrongFalsely : Prop := semOwnRow.holds Tryz.pinned (OpenSpec.ofChange semOwnWrong)

/-- 'haruspexlaw14.SemTypes': WHATEVER THE INPUT: true; the input reads as it did. -/
def semTypesSpec : ChangeSpec := { name := "semTypes", fn := fun _ => fun
  | [d1, d2, d3] => { results := [.lit (.bool true)], args := [d1, d2, d3] }
  | _ => none }
def semTypesRow : OpenClaim := { program := "ytechgpjdlkjjoaagreatdoor", sum := "dbb263a430923b5e47e5f1564f0df901f1d7a9b269a174fd6ac690599b628afb", func := "haruspex/haruspexlaw14.SemTypes", spec := "semTypes", inPlace := ["internal/reflectlite.ValueOf", "(internal/reflectlite.Value).Type", "(internal/reflectlite.Value).IsNil", "internal/reflectlite.TypeOf", "(internal/reflectlite.Value).Elem", "(internal/reflectlite.Value).Set"], unfollowed := true, recurses := true, named := ["errors.errorType"], plainKeys := false, apart := false, laid := [("errors.errorType", laid_errors_errorType)] }
def SemTypesSaid : Prop := semTypesRow.holds Tryz.pinned (OpenSpec.ofChange semTypesSpec)

/-- ITS FALSE NEIGHBOUR: 'it returns false'. Refute it at one input. -/
def semTypesWrong : ChangeSpec := { name := "semTypes", fn := fun _ => fun
  | [d1, d2, d3] => { results := [.lit (.bool false)], args := [d1, d2, d3] }
  | _ => none }
def SemTypesWrongFalsely : Prop := semTypesRow.holds Tryz.pinned (OpenSpec.ofChange semTypesWrong)

/-- 'haruspexlaw14.SemRaw': WHATEVER THE INPUT: true; the input reads as it did. -/
def semRawSpec : ChangeSpec := { name := "semRaw", fn := fun _ => fun
  | [d1, d2] => { results := [.lit (.bool true)], args := [d1, d2] }
  | _ => none }
def semRawRow : OpenClaim := { program := "ytechgpjdlkjjoaagreatdoor", sum := "dbb263a430923b5e47e5f1564f0df901f1d7a9b269a174fd6ac690599b628afb", func := "haruspex/haruspexlaw14.SemRaw", spec := "semRaw", inPlace := ["internal/reflectlite.ValueOf", "(internal/reflectlite.Value).Type", "(internal/reflectlite.Value).IsNil", "internal/reflectlite.TypeOf", "(internal/reflectlite.Value).Elem", "(internal/reflectlite.Value).Set"], unfollowed := true, recurses := true, named := ["errors.errorType"], plainKeys := false, apart := false, laid := [("errors.errorType", laid_errors_errorType)] }
def SemRawSaid : Prop := semRawRow.holds Tryz.pinned (OpenSpec.ofChange semRawSpec)

/-- ITS FALSE NEIGHBOUR: 'it returns false'. Refute it at one input. -/
def semRawWrong : ChangeSpec := { name := "semRaw", fn := fun _ => fun
  | [d1, d2] => { results := [.lit (.bool false)], args := [d1, d2] }
  | _ => none }
def SemRawWrongFalsely : Prop := semRawRow.holds Tryz.pinned (OpenSpec.ofChange semRawWrong)

/-- 'haruspexlaw14.SemNone': WHATEVER THE INPUT: true; the input reads as it did. -/
def semNoneSpec : ChangeSpec := { name := "semNone", fn := fun _ => fun
  | [] => { results := [.lit (.bool true)], args := [] }
  | _ => none }
def semNoneRow : OpenClaim := { program := "ytechgpjdlkjjoaagreatdoor", sum := "dbb263a430923b5e47e5f1564f0df901f1d7a9b269a174fd6ac690599b628afb", func := "haruspex/haruspexlaw14.SemNone", spec := "semNone", inPlace := ["internal/reflectlite.ValueOf", "(internal/reflectlite.Value).Type", "(internal/reflectlite.Value).IsNil", "internal/reflectlite.TypeOf", "(internal/reflectlite.Value).Elem", "(internal/reflectlite.Value).Set"], unfollowed := true, recurses := true, named := ["errors.errorType"], plainKeys := false, apart := false, laid := [("errors.errorType", laid_errors_errorType)] }
def SemNoneSaid : Prop := semNoneRow.holds Tryz.pinned (OpenSpec.ofChange semNoneSpec)

/-- ITS FALSE NEIGHBOUR: 'it returns false'. Refute it at one input. -/
def semNoneWrong : ChangeSpec := { name := "semNone", fn := fun _ => fun
  | [] => { results := [.lit (.bool false)], args := [] }
  | _ => none }
def SemNoneWrongFalsely : Prop := semNoneRow.holds Tryz.pinned (OpenSpec.ofChange semNoneWrong)

/-- 'haruspexlaw14.SemSteps': WHATEVER THE INPUT: true; the input reads as it did. -/
def semStepsSpec : ChangeSpec := { name := "semSteps", fn := fun _ => fun
  | [d1, d2, d3] => { results := [.lit (.bool true)], args := [d1, d2, d3] }
  | _ => none }
def semStepsRow : OpenClaim := { program := "ytechgpjdlkjjoaagreatdoor", sum := "dbb263a430923b5e47e5f1564f0df901f1d7a9b269a174fd6ac690599b628afb", func := "haruspex/haruspexlaw14.SemSteps", spec := "semSteps", inPlace := ["internal/reflectlite.ValueOf", "(internal/reflectlite.Value).Type", "(internal/reflectlite.Value).IsNil", "internal/reflectlite.TypeOf", "(internal/reflectlite.Value).Elem", "(internal/reflectlite.Value).Set"], unfollowed := true, recurses := true, named := ["errors.errorType"], plainKeys := false, apart := false, laid := [("errors.errorType", laid_errors_errorType)] }
def SemStepsSaid : Prop := semStepsRow.holds Tryz.pinned (OpenSpec.ofChange semStepsSpec)

/-- ITS FALSE NEIGHBOUR: 'it returns false'. Refute it at one input. -/
def semStepsWrong : ChangeSpec := { name := "semSteps", fn := fun _ => fun
  | [d1, d2, d3] => { results := [.lit (.bool false)], args := [d1, d2, d3] }
  | _ => none }
def SemStepsWrongFalsely : Prop := semStepsRow.holds Tryz.pinned (OpenSpec.ofChange semStepsWrong)

/- THE SECOND FORM. 'bulk': how many values and letters a reading holds, each counted each time it is reached (what is shared counts as often as it is met; a slice's spare places count too). A statement '..UptoSaid' is the law's where the arguments, and the package variables that the reading takes, are together of bulk at most 1048576: NARROWER than '..Said'. Prove '..Said' where nothing that the law and all that it calls make is longer than what came in: it says more and counts as full. Else prove '..UptoSaid'. A law counts once. -/
mutual
def uptoBulk {H : Type} : DataW H → Nat
  | .lit (.string bytes) => bytes.length + 1
  | .lit _ => 1
  | .nil => 1
  | .ptr d => uptoBulk d + 1
  | .slice elems spare => uptoBulkAll elems + uptoBulkAll spare + 1
  | .agg parts => uptoBulkAll parts + 1
  | .iface _ d => uptoBulk d + 1
  | .map entries => uptoBulkEntries entries + 1
  | .held _ => 1
def uptoBulkAll {H : Type} : List (DataW H) → Nat
  | [] => 0
  | d :: r => uptoBulk d + uptoBulkAll r
def uptoBulkEntries {H : Type} : List (Lit × DataW H) → Nat
  | [] => 0
  | x :: r => uptoBulkEntry x + uptoBulkEntries r
def uptoBulkEntry {H : Type} : Lit × DataW H → Nat
  | (.string bytes, d) => bytes.length + uptoBulk d + 1
  | (_, d) => uptoBulk d + 1
 end
def uptoSmall : (H : Type) → List (DataW H) → Bool := fun _ ds => decide (uptoBulkAll ds ≤ 1048576)
def OpenSpec.upto (s : _root_.Go.ChangeSpec) : _root_.Go.OpenSpec := { _root_.Go.OpenSpec.ofChange s with cond := some uptoSmall }

/-- 'haruspexlaw14.SemBranch', WHERE WHAT IT READS IS OF BULK AT MOST 1048576: true; the input reads as it did. -/
def semBranchUptoRow : OpenClaim := { program := "ytechgpjdlkjjoaagreatdoor", sum := "dbb263a430923b5e47e5f1564f0df901f1d7a9b269a174fd6ac690599b628afb", func := "haruspex/haruspexlaw14.SemBranch", spec := "semBranch", inPlace := ["internal/reflectlite.ValueOf", "(internal/reflectlite.Value).Type", "(internal/reflectlite.Value).IsNil", "internal/reflectlite.TypeOf", "(internal/reflectlite.Value).Elem", "(internal/reflectlite.Value).Set"], unfollowed := true, recurses := true, named := ["errors.errorType"], plainKeys := false, apart := false, laid := [("errors.errorType", laid_errors_errorType)], narrowed := true }
def SemBranchUptoSaid : Prop := semBranchUptoRow.holds Tryz.pinned (OpenSpec.upto semBranchSpec)

/-- 'haruspexlaw14.SemLoop', WHERE WHAT IT READS IS OF BULK AT MOST 1048576: true; the input reads as it did. -/
def semLoopUptoRow : OpenClaim := { program := "ytechgpjdlkjjoaagreatdoor", sum := "dbb263a430923b5e47e5f1564f0df901f1d7a9b269a174fd6ac690599b628afb", func := "haruspex/haruspexlaw14.SemLoop", spec := "semLoop", inPlace := ["internal/reflectlite.ValueOf", "(internal/reflectlite.Value).Type", "(internal/reflectlite.Value).IsNil", "internal/reflectlite.TypeOf", "(internal/reflectlite.Value).Elem", "(internal/reflectlite.Value).Set"], unfollowed := true, recurses := true, named := ["errors.errorType"], plainKeys := false, apart := false, laid := [("errors.errorType", laid_errors_errorType)], narrowed := true }
def SemLoopUptoSaid : Prop := semLoopUptoRow.holds Tryz.pinned (OpenSpec.upto semLoopSpec)

/-- 'haruspexlaw14.SemArgs', WHERE WHAT IT READS IS OF BULK AT MOST 1048576: true; the input reads as it did. -/
def semArgsUptoRow : OpenClaim := { program := "ytechgpjdlkjjoaagreatdoor", sum := "dbb263a430923b5e47e5f1564f0df901f1d7a9b269a174fd6ac690599b628afb", func := "haruspex/haruspexlaw14.SemArgs", spec := "semArgs", inPlace := ["internal/reflectlite.ValueOf", "(internal/reflectlite.Value).Type", "(internal/reflectlite.Value).IsNil", "internal/reflectlite.TypeOf", "(internal/reflectlite.Value).Elem", "(internal/reflectlite.Value).Set"], unfollowed := true, recurses := true, named := ["errors.errorType"], plainKeys := false, apart := false, laid := [("errors.errorType", laid_errors_errorType)], narrowed := true }
def SemArgsUptoSaid : Prop := semArgsUptoRow.holds Tryz.pinned (OpenSpec.upto semArgsSpec)

/-- 'haruspexlaw14.SemMethod', WHERE WHAT IT READS IS OF BULK AT MOST 1048576: true; the input reads as it did. -/
def semMethodUptoRow : OpenClaim := { program := "ytechgpjdlkjjoaagreatdoor", sum := "dbb263a430923b5e47e5f1564f0df901f1d7a9b269a174fd6ac690599b628afb", func := "haruspex/haruspexlaw14.SemMethod", spec := "semMethod", inPlace := ["internal/reflectlite.ValueOf", "(internal/reflectlite.Value).Type", "(internal/reflectlite.Value).IsNil", "internal/reflectlite.TypeOf", "(internal/reflectlite.Value).Elem", "(internal/reflectlite.Value).Set"], unfollowed := true, recurses := true, named := ["errors.errorType"], plainKeys := false, apart := false, laid := [("errors.errorType", laid_errors_errorType)], narrowed := true }
def SemMethodUptoSaid : Prop := semMethodUptoRow.holds Tryz.pinned (OpenSpec.upto semMethodSpec)

/-- 'haruspexlaw14.SemWrong', WHERE WHAT IT READS IS OF BULK AT MOST 1048576: true; the input reads as it did. -/
def semWrongUptoRow : OpenClaim := { program := "ytechgpjdlkjjoaagreatdoor", sum := "dbb263a430923b5e47e5f1564f0df901f1d7a9b269a174fd6ac690599b628afb", func := "haruspex/haruspexlaw14.SemWrong", spec := "semWrong", inPlace := ["internal/reflectlite.ValueOf", "(internal/reflectlite.Value).Type", "(internal/reflectlite.Value).IsNil", "internal/reflectlite.TypeOf", "(internal/reflectlite.Value).Elem", "(internal/reflectlite.Value).Set"], unfollowed := true, recurses := true, named := ["errors.errorType"], plainKeys := false, apart := false, laid := [("errors.errorType", laid_errors_errorType)], narrowed := true }
def SemWrongUptoSaid : Prop := semWrongUptoRow.holds Tryz.pinned (OpenSpec.upto semWrongSpec)

/-- 'haruspexlaw14.SemSum', WHERE WHAT IT READS IS OF BULK AT MOST 1048576: true; the input reads as it did. -/
def semSumUptoRow : OpenClaim := { program := "ytechgpjdlkjjoaagreatdoor", sum := "dbb263a430923b5e47e5f1564f0df901f1d7a9b269a174fd6ac690599b628afb", func := "haruspex/haruspexlaw14.SemSum", spec := "semSum", inPlace := ["internal/reflectlite.ValueOf", "(internal/reflectlite.Value).Type", "(internal/reflectlite.Value).IsNil", "internal/reflectlite.TypeOf", "(internal/reflectlite.Value).Elem", "(internal/reflectlite.Value).Set"], unfollowed := true, recurses := true, named := ["errors.errorType"], plainKeys := false, apart := false, laid := [("errors.errorType", laid_errors_errorType)], narrowed := true }
def SemSumUptoSaid : Prop := semSumUptoRow.holds Tryz.pinned (OpenSpec.upto semSumSpec)

/-- 'haruspexlaw14.SemDeep', WHERE WHAT IT READS IS OF BULK AT MOST 1048576: true; the input reads as it did. -/
def semDeepUptoRow : OpenClaim := { program := "ytechgpjdlkjjoaagreatdoor", sum := "dbb263a430923b5e47e5f1564f0df901f1d7a9b269a174fd6ac690599b628afb", func := "haruspex/haruspexlaw14.SemDeep", spec := "semDeep", inPlace := ["internal/reflectlite.ValueOf", "(internal/reflectlite.Value).Type", "(internal/reflectlite.Value).IsNil", "internal/reflectlite.TypeOf", "(internal/reflectlite.Value).Elem", "(internal/reflectlite.Value).Set"], unfollowed := true, recurses := true, named := ["errors.errorType"], plainKeys := false, apart := false, laid := [("errors.errorType", laid_errors_errorType)], narrowed := true }
def SemDeepUptoSaid : Prop := semDeepUptoRow.holds Tryz.pinned (OpenSpec.upto semDeepSpec)

/-- 'haruspexlaw14.SemOracle', WHERE WHAT IT READS IS OF BULK AT MOST 1048576: true; the input reads as it did. -/
def semOracleUptoRow : OpenClaim := { program := "ytechgpjdlkjjoaagreatdoor", sum := "dbb263a430923b5e47e5f1564f0df901f1d7a9b269a174fd6ac690599b628afb", func := "haruspex/haruspexlaw14.SemOracle", spec := "semOracle", inPlace := ["internal/reflectlite.ValueOf", "(internal/reflectlite.Value).Type", "(internal/reflectlite.Value).IsNil", "internal/reflectlite.TypeOf", "(internal/reflectlite.Value).Elem", "(internal/reflectlite.Value).Set"], unfollowed := true, recurses := true, named := ["errors.errorType"], plainKeys := false, apart := false, laid := [("errors.errorType", laid_errors_errorType)], narrowed := true }
def SemOracleUptoSaid : Prop := semOracleUptoRow.holds Tryz.pinned (OpenSpec.upto semOracleSpec)

/-- 'haruspexlaw14.SemOwn', WHERE WHAT IT READS IS OF BULK AT MOST 1048576: true; the input reads as it did. -/
def semOwnUptoRow : OpenClaim := { program := "ytechgpjdlkjjoaagreatdoor", sum := "dbb263a430923b5e47e5f1564f0df901f1d7a9b269a174fd6ac690599b628afb", func := "haruspex/haruspexlaw14.SemOwn", spec := "semOwn", inPlace := ["internal/reflectlite.ValueOf", "(internal/reflectlite.Value).Type", "(internal/reflectlite.Value).IsNil", "internal/reflectlite.TypeOf", "(internal/reflectlite.Value).Elem", "(internal/reflectlite.Value).Set"], unfollowed := true, recurses := true, named := ["errors.errorType"], plainKeys := false, apart := false, laid := [("errors.errorType", laid_errors_errorType)], narrowed := true }
def SemOwnUptoSaid : Prop := semOwnUptoRow.holds Tryz.pinned (OpenSpec.upto semOwnSpec)

/-- 'haruspexlaw14.SemTypes', WHERE WHAT IT READS IS OF BULK AT MOST 1048576: true; the input reads as it did. -/
def semTypesUptoRow : OpenClaim := { program := "ytechgpjdlkjjoaagreatdoor", sum := "dbb263a430923b5e47e5f1564f0df901f1d7a9b269a174fd6ac690599b628afb", func := "haruspex/haruspexlaw14.SemTypes", spec := "semTypes", inPlace := ["internal/reflectlite.ValueOf", "(internal/reflectlite.Value).Type", "(internal/reflectlite.Value).IsNil", "internal/reflectlite.TypeOf", "(internal/reflectlite.Value).Elem", "(internal/reflectlite.Value).Set"], unfollowed := true, recurses := true, named := ["errors.errorType"], plainKeys := false, apart := false, laid := [("errors.errorType", laid_errors_errorType)], narrowed := true }
def SemTypesUptoSaid : Prop := semTypesUptoRow.holds Tryz.pinned (OpenSpec.upto semTypesSpec)

/-- 'haruspexlaw14.SemRaw', WHERE WHAT IT READS IS OF BULK AT MOST 1048576: true; the input reads as it did. -/
def semRawUptoRow : OpenClaim := { program := "ytechgpjdlkjjoaagreatdoor", sum := "dbb263a430923b5e47e5f1564f0df901f1d7a9b269a174fd6ac690599b628afb", func := "haruspex/haruspexlaw14.SemRaw", spec := "semRaw", inPlace := ["internal/reflectlite.ValueOf", "(internal/reflectlite.Value).Type", "(internal/reflectlite.Value).IsNil", "internal/reflectlite.TypeOf", "(internal/reflectlite.Value).Elem", "(internal/reflectlite.Value).Set"], unfollowed := true, recurses := true, named := ["errors.errorType"], plainKeys := false, apart := false, laid := [("errors.errorType", laid_errors_errorType)], narrowed := true }
def SemRawUptoSaid : Prop := semRawUptoRow.holds Tryz.pinned (OpenSpec.upto semRawSpec)

/-- 'haruspexlaw14.SemNone', WHERE WHAT IT READS IS OF BULK AT MOST 1048576: true; the input reads as it did. -/
def semNoneUptoRow : OpenClaim := { program := "ytechgpjdlkjjoaagreatdoor", sum := "dbb263a430923b5e47e5f1564f0df901f1d7a9b269a174fd6ac690599b628afb", func := "haruspex/haruspexlaw14.SemNone", spec := "semNone", inPlace := ["internal/reflectlite.ValueOf", "(internal/reflectlite.Value).Type", "(internal/reflectlite.Value).IsNil", "internal/reflectlite.TypeOf", "(internal/reflectlite.Value).Elem", "(internal/reflectlite.Value).Set"], unfollowed := true, recurses := true, named := ["errors.errorType"], plainKeys := false, apart := false, laid := [("errors.errorType", laid_errors_errorType)], narrowed := true }
def SemNoneUptoSaid : Prop := semNoneUptoRow.holds Tryz.pinned (OpenSpec.upto semNoneSpec)

/-- 'haruspexlaw14.SemSteps', WHERE WHAT IT READS IS OF BULK AT MOST 1048576: true; the input reads as it did. -/
def semStepsUptoRow : OpenClaim := { program := "ytechgpjdlkjjoaagreatdoor", sum := "dbb263a430923b5e47e5f1564f0df901f1d7a9b269a174fd6ac690599b628afb", func := "haruspex/haruspexlaw14.SemSteps", spec := "semSteps", inPlace := ["internal/reflectlite.ValueOf", "(internal/reflectlite.Value).Type", "(internal/reflectlite.Value).IsNil", "internal/reflectlite.TypeOf", "(internal/reflectlite.Value).Elem", "(internal/reflectlite.Value).Set"], unfollowed := true, recurses := true, named := ["errors.errorType"], plainKeys := false, apart := false, laid := [("errors.errorType", laid_errors_errorType)], narrowed := true }
def SemStepsUptoSaid : Prop := semStepsUptoRow.holds Tryz.pinned (OpenSpec.upto semStepsSpec)

end Rows
end Go.Proofs.YtechgpjdlkjjoaaGreatDoor
