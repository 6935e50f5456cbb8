/-
  NARROWER THAN 'FOR EVERY INPUT', by the rows' own cells (each row's printed sentence says how): TypesTable: laid · TypesLimits: laid · TypesPoints: laid · TypesBounds: laid · TypesNames: laid · TypesCheck: laid · TypesMain: laid.
  DERIVED. THE GIVEN ROWS OF THIS SEAT. 7 by the template 'for every input the law returns true; each argument reads behind the call as it read before'; 0 by the template 'total and deterministic' (their statements: YthihegmbdclikaaDoorTotals.lean).
  GIVEN WITH THE SEED: the statements are not yours to turn. If you find one false, say at which input.
  Laid BY PROGRAM, IN A SANDBOX (cutbox-rows.mjs): the forced cells as the released guide's own fill.sh prints them over the translation ef69d8ec83e2b412… (all of the seat's roots in one cut). By AI agents, Wed Nov 11 2026. No macro, syntax, notation, axiom, sorry.
-/
import Derived.Test.YthihegmbdclikaaDoorChecked
import GoSem.Claim
import GoSem.ClaimJoined
import GoSem.ClaimMapViews
import Derived.JoinedTies
import Derived.KernelRfl
namespace Go.Proofs.YthihegmbdclikaaDoor
/- THE CELL 'sum', in the pinned program and in every row, IS THE sha256 OF THE DUMP (.gsa) THAT YthihegmbdclikaaDoorProg.lean LOADS. Nothing in Lean hashes anything: it is a label: what it is worth is what the hold of that sum in a sandbox is worth. -/
noncomputable def Tryd.pinned : Pinned := { name := "ythihegmbdclikaadoor", sum := "ef69d8ec83e2b412f574b3c21a238ee2575bc946b2505f987ed47b794fe8eaf5", checked := Tryd.checked }
namespace Rows
def none {H : Type} : Left H := { results := [], args := [] }

/- WHAT THE LISTED PACKAGE-LEVEL VARIABLES READ AS WHEN THE CALL BEGINS. Each datum BY PROGRAM (the guide's laid-datum.mjs) off the statement by which the dump's own 'gosem.cut.vars' lays the variable. In a bare row this is a premise. The card (YthihegmbdclikaaDoorCards.lean) ties it to the program's text. -/
def laid_errors_errorType {H : Type} : DataW H := .iface "internal/reflectlite.rtype" (.agg [.ptr (.lit (.string [101, 114, 114, 111, 114]))])

/-- 'haruspexlaw10.TypesTable': WHATEVER THE INPUT: true; the input reads as it did. -/
def typesTableSpec : ChangeSpec := { name := "typesTable", fn := fun _ => fun
  | [d1, d2, d3, d4, d5] => { results := [.lit (.bool true)], args := [d1, d2, d3, d4, d5] }
  | _ => none }
def typesTableRow : OpenClaim := { program := "ythihegmbdclikaadoor", sum := "ef69d8ec83e2b412f574b3c21a238ee2575bc946b2505f987ed47b794fe8eaf5", func := "haruspex/haruspexlaw10.TypesTable", spec := "typesTable", inPlace := ["internal/reflectlite.ValueOf", "(internal/reflectlite.Value).Type", "(internal/reflectlite.Value).IsNil", "internal/reflectlite.TypeOf", "(internal/reflectlite.Value).Elem", "(internal/reflectlite.Value).Set"], unfollowed := true, recurses := true, named := ["errors.errorType"], apart := false, laid := [("errors.errorType", laid_errors_errorType)] }
def TypesTableSaid : Prop := typesTableRow.holds Tryd.pinned (OpenSpec.ofChange typesTableSpec)

/-- ITS FALSE NEIGHBOUR: 'it returns false'. Refute it at one input. -/
def typesTableWrong : ChangeSpec := { name := "typesTable", fn := fun _ => fun
  | [d1, d2, d3, d4, d5] => { results := [.lit (.bool false)], args := [d1, d2, d3, d4, d5] }
  | _ => none }
def TypesTableWrongFalsely : Prop := typesTableRow.holds Tryd.pinned (OpenSpec.ofChange typesTableWrong)

/-- 'haruspexlaw10.TypesLimits': WHATEVER THE INPUT: true; the input reads as it did. -/
def typesLimitsSpec : ChangeSpec := { name := "typesLimits", fn := fun _ => fun
  | [d1, d2] => { results := [.lit (.bool true)], args := [d1, d2] }
  | _ => none }
def typesLimitsRow : OpenClaim := { program := "ythihegmbdclikaadoor", sum := "ef69d8ec83e2b412f574b3c21a238ee2575bc946b2505f987ed47b794fe8eaf5", func := "haruspex/haruspexlaw10.TypesLimits", spec := "typesLimits", inPlace := ["internal/reflectlite.ValueOf", "(internal/reflectlite.Value).Type", "(internal/reflectlite.Value).IsNil", "internal/reflectlite.TypeOf", "(internal/reflectlite.Value).Elem", "(internal/reflectlite.Value).Set"], unfollowed := true, recurses := true, named := ["errors.errorType"], apart := false, laid := [("errors.errorType", laid_errors_errorType)] }
def TypesLimitsSaid : Prop := typesLimitsRow.holds Tryd.pinned (OpenSpec.ofChange typesLimitsSpec)

/-- ITS FALSE NEIGHBOUR: 'it returns false'. Refute it at one input. -/
def typesLimitsWrong : ChangeSpec := { name := "typesLimits", fn := fun _ => fun
  | [d1, d2] => { results := [.lit (.bool false)], args := [d1, d2] }
  | _ => none }
def TypesLimitsWrongFalsely : Prop := typesLimitsRow.holds Tryd.pinned (OpenSpec.ofChange typesLimitsWrong)

/-- 'haruspexlaw10.TypesPoints': WHATEVER THE INPUT: true; the input reads as it did. -/
def typesPointsSpec : ChangeSpec := { name := "typesPoints", fn := fun _ => fun
  | [d1, d2] => { results := [.lit (.bool true)], args := [d1, d2] }
  | _ => none }
def typesPointsRow : OpenClaim := { program := "ythihegmbdclikaadoor", sum := "ef69d8ec83e2b412f574b3c21a238ee2575bc946b2505f987ed47b794fe8eaf5", func := "haruspex/haruspexlaw10.TypesPoints", spec := "typesPoints", inPlace := ["internal/reflectlite.ValueOf", "(internal/reflectlite.Value).Type", "(internal/reflectlite.Value).IsNil", "internal/reflectlite.TypeOf", "(internal/reflectlite.Value).Elem", "(internal/reflectlite.Value).Set"], unfollowed := true, recurses := true, named := ["errors.errorType"], apart := false, laid := [("errors.errorType", laid_errors_errorType)] }
def TypesPointsSaid : Prop := typesPointsRow.holds Tryd.pinned (OpenSpec.ofChange typesPointsSpec)

/-- ITS FALSE NEIGHBOUR: 'it returns false'. Refute it at one input. -/
def typesPointsWrong : ChangeSpec := { name := "typesPoints", fn := fun _ => fun
  | [d1, d2] => { results := [.lit (.bool false)], args := [d1, d2] }
  | _ => none }
def TypesPointsWrongFalsely : Prop := typesPointsRow.holds Tryd.pinned (OpenSpec.ofChange typesPointsWrong)

/-- 'haruspexlaw10.TypesBounds': WHATEVER THE INPUT: true; the input reads as it did. -/
def typesBoundsSpec : ChangeSpec := { name := "typesBounds", fn := fun _ => fun
  | [d] => { results := [.lit (.bool true)], args := [d] }
  | _ => none }
def typesBoundsRow : OpenClaim := { program := "ythihegmbdclikaadoor", sum := "ef69d8ec83e2b412f574b3c21a238ee2575bc946b2505f987ed47b794fe8eaf5", func := "haruspex/haruspexlaw10.TypesBounds", spec := "typesBounds", inPlace := ["internal/reflectlite.ValueOf", "(internal/reflectlite.Value).Type", "(internal/reflectlite.Value).IsNil", "internal/reflectlite.TypeOf", "(internal/reflectlite.Value).Elem", "(internal/reflectlite.Value).Set"], unfollowed := true, recurses := true, named := ["errors.errorType"], apart := false, laid := [("errors.errorType", laid_errors_errorType)] }
def TypesBoundsSaid : Prop := typesBoundsRow.holds Tryd.pinned (OpenSpec.ofChange typesBoundsSpec)

/-- ITS FALSE NEIGHBOUR: 'it returns false'. Refute it at one input. -/
def typesBoundsWrong : ChangeSpec := { name := "typesBounds", fn := fun _ => fun
  | [d] => { results := [.lit (.bool false)], args := [d] }
  | _ => none }
def TypesBoundsWrongFalsely : Prop := typesBoundsRow.holds Tryd.pinned (OpenSpec.ofChange typesBoundsWrong)

/-- 'haruspexlaw10.TypesNames': WHATEVER THE INPUT: true; the input reads as it did. -/
def typesNamesSpec : ChangeSpec := { name := "typesNames", fn := fun _ => fun
  | [d] => { results := [.lit (.bool true)], args := [d] }
  | _ => none }
def typesNamesRow : OpenClaim := { program := "ythihegmbdclikaadoor", sum := "ef69d8ec83e2b412f574b3c21a238ee2575bc946b2505f987ed47b794fe8eaf5", func := "haruspex/haruspexlaw10.TypesNames", spec := "typesNames", inPlace := ["internal/reflectlite.ValueOf", "(internal/reflectlite.Value).Type", "(internal/reflectlite.Value).IsNil", "internal/reflectlite.TypeOf", "(internal/reflectlite.Value).Elem", "(internal/reflectlite.Value).Set"], unfollowed := true, recurses := true, named := ["errors.errorType"], apart := false, laid := [("errors.errorType", laid_errors_errorType)] }
def TypesNamesSaid : Prop := typesNamesRow.holds Tryd.pinned (OpenSpec.ofChange typesNamesSpec)

/-- ITS FALSE NEIGHBOUR: 'it returns false'. Refute it at one input. -/
def typesNamesWrong : ChangeSpec := { name := "typesNames", fn := fun _ => fun
  | [d] => { results := [.lit (.bool false)], args := [d] }
  | _ => none }
def TypesNamesWrongFalsely : Prop := typesNamesRow.holds Tryd.pinned (OpenSpec.ofChange typesNamesWrong)

/-- 'haruspexlaw10.TypesCheck': WHATEVER THE INPUT: true; the input reads as it did. -/
def typesCheckSpec : ChangeSpec := { name := "typesCheck", fn := fun _ => fun
  | [d] => { results := [.lit (.bool true)], args := [d] }
  | _ => none }
def typesCheckRow : OpenClaim := { program := "ythihegmbdclikaadoor", sum := "ef69d8ec83e2b412f574b3c21a238ee2575bc946b2505f987ed47b794fe8eaf5", func := "haruspex/haruspexlaw10.TypesCheck", spec := "typesCheck", inPlace := ["internal/reflectlite.ValueOf", "(internal/reflectlite.Value).Type", "(internal/reflectlite.Value).IsNil", "internal/reflectlite.TypeOf", "(internal/reflectlite.Value).Elem", "(internal/reflectlite.Value).Set"], unfollowed := true, recurses := true, named := ["errors.errorType"], apart := false, laid := [("errors.errorType", laid_errors_errorType)] }
def TypesCheckSaid : Prop := typesCheckRow.holds Tryd.pinned (OpenSpec.ofChange typesCheckSpec)

/-- ITS FALSE NEIGHBOUR: 'it returns false'. Refute it at one input. -/
def typesCheckWrong : ChangeSpec := { name := "typesCheck", fn := fun _ => fun
  | [d] => { results := [.lit (.bool false)], args := [d] }
  | _ => none }
def TypesCheckWrongFalsely : Prop := typesCheckRow.holds Tryd.pinned (OpenSpec.ofChange typesCheckWrong)

/-- 'haruspexlaw10.TypesMain': WHATEVER THE INPUT: true; the input reads as it did. -/
def typesMainSpec : ChangeSpec := { name := "typesMain", fn := fun _ => fun
  | [d1, d2] => { results := [.lit (.bool true)], args := [d1, d2] }
  | _ => none }
def typesMainRow : OpenClaim := { program := "ythihegmbdclikaadoor", sum := "ef69d8ec83e2b412f574b3c21a238ee2575bc946b2505f987ed47b794fe8eaf5", func := "haruspex/haruspexlaw10.TypesMain", spec := "typesMain", inPlace := ["internal/reflectlite.ValueOf", "(internal/reflectlite.Value).Type", "(internal/reflectlite.Value).IsNil", "internal/reflectlite.TypeOf", "(internal/reflectlite.Value).Elem", "(internal/reflectlite.Value).Set"], unfollowed := true, recurses := true, named := ["errors.errorType"], apart := false, laid := [("errors.errorType", laid_errors_errorType)] }
def TypesMainSaid : Prop := typesMainRow.holds Tryd.pinned (OpenSpec.ofChange typesMainSpec)

/-- ITS FALSE NEIGHBOUR: 'it returns false'. Refute it at one input. -/
def typesMainWrong : ChangeSpec := { name := "typesMain", fn := fun _ => fun
  | [d1, d2] => { results := [.lit (.bool false)], args := [d1, d2] }
  | _ => none }
def TypesMainWrongFalsely : Prop := typesMainRow.holds Tryd.pinned (OpenSpec.ofChange typesMainWrong)

/- THE SECOND FORM. 'bulk': how many values and letters a reading holds, each counted each time it is reached (what is shared counts as often as it is met; a slice's spare places count too). A statement '..UptoSaid' is the law's where the arguments, and the package variables that the reading takes, are together of bulk at most 1048576: NARROWER than '..Said'. Prove '..Said' where nothing that the law and all that it calls make is longer than what came in: it says more and counts as full. Else prove '..UptoSaid'. A law counts once. -/
mutual
def uptoBulk {H : Type} : DataW H → Nat
  | .lit (.string bytes) => bytes.length + 1
  | .lit _ => 1
  | .nil => 1
  | .ptr d => uptoBulk d + 1
  | .slice elems spare => uptoBulkAll elems + uptoBulkAll spare + 1
  | .agg parts => uptoBulkAll parts + 1
  | .iface _ d => uptoBulk d + 1
  | .map entries => uptoBulkEntries entries + 1
  | .held _ => 1
def uptoBulkAll {H : Type} : List (DataW H) → Nat
  | [] => 0
  | d :: r => uptoBulk d + uptoBulkAll r
def uptoBulkEntries {H : Type} : List (Lit × DataW H) → Nat
  | [] => 0
  | x :: r => uptoBulkEntry x + uptoBulkEntries r
def uptoBulkEntry {H : Type} : Lit × DataW H → Nat
  | (.string bytes, d) => bytes.length + uptoBulk d + 1
  | (_, d) => uptoBulk d + 1
 end
def uptoSmall : (H : Type) → List (DataW H) → Bool := fun _ ds => decide (uptoBulkAll ds ≤ 1048576)
def OpenSpec.upto (s : _root_.Go.ChangeSpec) : _root_.Go.OpenSpec := { _root_.Go.OpenSpec.ofChange s with cond := some uptoSmall }

/-- 'haruspexlaw10.TypesTable', WHERE WHAT IT READS IS OF BULK AT MOST 1048576: true; the input reads as it did. -/
def typesTableUptoRow : OpenClaim := { program := "ythihegmbdclikaadoor", sum := "ef69d8ec83e2b412f574b3c21a238ee2575bc946b2505f987ed47b794fe8eaf5", func := "haruspex/haruspexlaw10.TypesTable", spec := "typesTable", inPlace := ["internal/reflectlite.ValueOf", "(internal/reflectlite.Value).Type", "(internal/reflectlite.Value).IsNil", "internal/reflectlite.TypeOf", "(internal/reflectlite.Value).Elem", "(internal/reflectlite.Value).Set"], unfollowed := true, recurses := true, named := ["errors.errorType"], apart := false, laid := [("errors.errorType", laid_errors_errorType)], narrowed := true }
def TypesTableUptoSaid : Prop := typesTableUptoRow.holds Tryd.pinned (OpenSpec.upto typesTableSpec)

/-- 'haruspexlaw10.TypesLimits', WHERE WHAT IT READS IS OF BULK AT MOST 1048576: true; the input reads as it did. -/
def typesLimitsUptoRow : OpenClaim := { program := "ythihegmbdclikaadoor", sum := "ef69d8ec83e2b412f574b3c21a238ee2575bc946b2505f987ed47b794fe8eaf5", func := "haruspex/haruspexlaw10.TypesLimits", spec := "typesLimits", inPlace := ["internal/reflectlite.ValueOf", "(internal/reflectlite.Value).Type", "(internal/reflectlite.Value).IsNil", "internal/reflectlite.TypeOf", "(internal/reflectlite.Value).Elem", "(internal/reflectlite.Value).Set"], unfollowed := true, recurses := true, named := ["errors.errorType"], apart := false, laid := [("errors.errorType", laid_errors_errorType)], narrowed := true }
def TypesLimitsUptoSaid : Prop := typesLimitsUptoRow.holds Tryd.pinned (OpenSpec.upto typesLimitsSpec)

/-- 'haruspexlaw10.TypesPoints', WHERE WHAT IT READS IS OF BULK AT MOST 1048576: true; the input reads as it did. -/
def typesPointsUptoRow : OpenClaim := { program := "ythihegmbdclikaadoor", sum := "ef69d8ec83e2b412f574b3c21a238ee2575bc946b2505f987ed47b794fe8eaf5", func := "haruspex/haruspexlaw10.TypesPoints", spec := "typesPoints", inPlace := ["internal/reflectlite.ValueOf", "(internal/reflectlite.Value).Type", "(internal/reflectlite.Value).IsNil", "internal/reflectlite.TypeOf", "(internal/reflectlite.Value).Elem", "(internal/reflectlite.Value).Set"], unfollowed := true, recurses := true, named := ["errors.errorType"], apart := false, laid := [("errors.errorType", laid_errors_errorType)], narrowed := true }
def TypesPointsUptoSaid : Prop := typesPointsUptoRow.holds Tryd.pinned (OpenSpec.upto typesPointsSpec)

/-- 'haruspexlaw10.TypesBounds', WHERE WHAT IT READS IS OF BULK AT MOST 1048576: true; the input reads as it did. -/
def typesBoundsUptoRow : OpenClaim := { program := "ythihegmbdclikaadoor", sum := "ef69d8ec83e2b412f574b3c21a238ee2575bc946b2505f987ed47b794fe8eaf5", func := "haruspex/haruspexlaw10.TypesBounds", spec := "typesBounds", inPlace := ["internal/reflectlite.ValueOf", "(internal/reflectlite.Value).Type", "(internal/reflectlite.Value).IsNil", "internal/reflectlite.TypeOf", "(internal/reflectlite.Value).Elem", "(internal/reflectlite.Value).Set"], unfollowed := true, recurses := true, named := ["errors.errorType"], apart := false, laid := [("errors.errorType", laid_errors_errorType)], narrowed := true }
def TypesBoundsUptoSaid : Prop := typesBoundsUptoRow.holds Tryd.pinned (OpenSpec.upto typesBoundsSpec)

/-- 'haruspexlaw10.TypesNames', WHERE WHAT IT READS IS OF BULK AT MOST 1048576: true; the input reads as it did. -/
def typesNamesUptoRow : OpenClaim := { program := "ythihegmbdclikaadoor", sum := "ef69d8ec83e2b412f574b3c21a238ee2575bc946b2505f987ed47b794fe8eaf5", func := "haruspex/haruspexlaw10.TypesNames", spec := "typesNames", inPlace := ["internal/reflectlite.ValueOf", "(internal/reflectlite.Value).Type", "(internal/reflectlite.Value).IsNil", "internal/reflectlite.TypeOf", "(internal/reflectlite.Value).Elem", "(internal/reflectlite.Value).Set"], unfollowed := true, recurses := true, named := ["errors.errorType"], apart := false, laid := [("errors.errorType", laid_errors_errorType)], narrowed := true }
def TypesNamesUptoSaid : Prop := typesNamesUptoRow.holds Tryd.pinned (OpenSpec.upto typesNamesSpec)

/-- 'haruspexlaw10.TypesCheck', WHERE WHAT IT READS IS OF BULK AT MOST 1048576: true; the input reads as it did. -/
def typesCheckUptoRow : OpenClaim := { program := "ythihegmbdclikaadoor", sum := "ef69d8ec83e2b412f574b3c21a238ee2575bc946b2505f987ed47b794fe8eaf5", func := "haruspex/haruspexlaw10.TypesCheck", spec := "typesCheck", inPlace := ["internal/reflectlite.ValueOf", "(internal/reflectlite.Value).Type", "(internal/reflectlite.Value).IsNil", "internal/reflectlite.TypeOf", "(internal/reflectlite.Value).Elem", "(internal/reflectlite.Value).Set"], unfollowed := true, recurses := true, named := ["errors.errorType"], apart := false, laid := [("errors.errorType", laid_errors_errorType)], narrowed := true }
def TypesCheckUptoSaid : Prop := typesCheckUptoRow.holds Tryd.pinned (OpenSpec.upto typesCheckSpec)

/-- 'haruspexlaw10.TypesMain', WHERE WHAT IT READS IS OF BULK AT MOST 1048576: true; the input reads as it did. -/
def typesMainUptoRow : OpenClaim := { program := "ythihegmbdclikaadoor", sum := "ef69d8ec83e2b412f574b3c21a238ee2575bc946b2505f987ed47b794fe8eaf5", func := "haruspex/haruspexlaw10.TypesMain", spec := "typesMain", inPlace := ["internal/reflectlite.ValueOf", "(internal/reflectlite.Value).Type", "(internal/reflectlite.Value).IsNil", "internal/reflectlite.TypeOf", "(internal/reflectlite.Value).Elem", "(internal/reflectlite.Value).Set"], unfollowed := true, recurses := true, named := ["errors.errorType"], apart := false, laid := [("errors.errorType", laid_errors_errorType)], narrowed := true }
def TypesMainUptoSaid : Prop := typesMainUptoRow.holds Tryd.pinned (OpenSpec.upto typesMainSpec)

end Rows
end Go.Proofs.YthihegmbdclikaaDoor
