/-
  NARROWER THAN 'FOR EVERY INPUT', by the rows' own cells (each row's printed sentence says how): TopBranch: laid · TopLoopFree: laid · TopTaintLoop: laid · TopTaintHeap: laid · TopOrder: laid · TopFreeOther: laid · TopCosts: laid · TopFaceNil: laid · TopFunField: laid · TopDispatch: laid · TopTable: laid · TopList: laid · TopSites: laid · TopMade: laid.
  DERIVED. THE GIVEN ROWS OF THIS SEAT. 14 by the template 'for every input the law returns true; each argument reads behind the call as it read before'; 0 by the template 'total and deterministic' (their statements: YtdlceoefjoljnaaGreatDoorTotals.lean).
  GIVEN WITH THE SEED: the statements are not yours to turn. If you find one false, say at which input.
  Laid BY PROGRAM, IN A SANDBOX (cutbox-rows.mjs): the forced cells as the released guide's own fill.sh prints them over the translation 85cca857eee02a08… (all of the seat's roots in one cut). By AI agents, Wed Nov 11 2026. No macro, syntax, notation, axiom, sorry.
-/
import Derived.Test.YtdlceoefjoljnaaGreatDoorChecked
import GoSem.Claim
import GoSem.ClaimJoined
import GoSem.ClaimMapViews
import Derived.JoinedTies
import Derived.KernelRfl
namespace Go.Proofs.YtdlceoefjoljnaaGreatDoor
/- THE CELL 'sum', in the pinned program and in every row, IS THE sha256 OF THE DUMP (.gsa) THAT YtdlceoefjoljnaaGreatDoorProg.lean LOADS. Nothing in Lean hashes anything: it is a label: what it is worth is what the hold of that sum in a sandbox is worth. -/
noncomputable def Tryz.pinned : Pinned := { name := "ytdlceoefjoljnaagreatdoor", sum := "85cca857eee02a08fc405d67050efb93ce6fe076693029c683d75df65248ca74", checked := Tryz.checked }
namespace Rows
def none {H : Type} : Left H := { results := [], args := [] }

/- WHAT THE LISTED PACKAGE-LEVEL VARIABLES READ AS WHEN THE CALL BEGINS. Each datum BY PROGRAM (the guide's laid-datum.mjs) off the statement by which the dump's own 'gosem.cut.vars' lays the variable. In a bare row this is a premise. The card (YtdlceoefjoljnaaGreatDoorCards.lean) ties it to the program's text. -/
def laid_math_bits_deBruijn64tab {H : Type} : DataW H := .agg [.lit (.int .u8 0), .lit (.int .u8 1), .lit (.int .u8 56), .lit (.int .u8 2), .lit (.int .u8 57), .lit (.int .u8 49), .lit (.int .u8 28), .lit (.int .u8 3), .lit (.int .u8 61), .lit (.int .u8 58), .lit (.int .u8 42), .lit (.int .u8 50), .lit (.int .u8 38), .lit (.int .u8 29), .lit (.int .u8 17), .lit (.int .u8 4), .lit (.int .u8 62), .lit (.int .u8 47), .lit (.int .u8 59), .lit (.int .u8 36), .lit (.int .u8 45), .lit (.int .u8 43), .lit (.int .u8 51), .lit (.int .u8 22), .lit (.int .u8 53), .lit (.int .u8 39), .lit (.int .u8 33), .lit (.int .u8 30), .lit (.int .u8 24), .lit (.int .u8 18), .lit (.int .u8 12), .lit (.int .u8 5), .lit (.int .u8 63), .lit (.int .u8 55), .lit (.int .u8 48), .lit (.int .u8 27), .lit (.int .u8 60), .lit (.int .u8 41), .lit (.int .u8 37), .lit (.int .u8 16), .lit (.int .u8 46), .lit (.int .u8 35), .lit (.int .u8 44), .lit (.int .u8 21), .lit (.int .u8 52), .lit (.int .u8 32), .lit (.int .u8 23), .lit (.int .u8 11), .lit (.int .u8 54), .lit (.int .u8 26), .lit (.int .u8 40), .lit (.int .u8 15), .lit (.int .u8 34), .lit (.int .u8 20), .lit (.int .u8 31), .lit (.int .u8 10), .lit (.int .u8 25), .lit (.int .u8 14), .lit (.int .u8 19), .lit (.int .u8 9), .lit (.int .u8 13), .lit (.int .u8 8), .lit (.int .u8 7), .lit (.int .u8 6)]
def laid_errors_errorType {H : Type} : DataW H := .iface "internal/reflectlite.rtype" (.agg [.ptr (.lit (.string [101, 114, 114, 111, 114]))])

/-- 'haruspextop.TopBranch': WHATEVER THE INPUT: true; the input reads as it did. -/
def topBranchSpec : ChangeSpec := { name := "topBranch", fn := fun _ => fun
  | [d1, d2] => { results := [.lit (.bool true)], args := [d1, d2] }
  | _ => none }
def topBranchRow : OpenClaim := { program := "ytdlceoefjoljnaagreatdoor", sum := "85cca857eee02a08fc405d67050efb93ce6fe076693029c683d75df65248ca74", func := "haruspex/haruspextop.TopBranch", spec := "topBranch", inPlace := ["internal/reflectlite.ValueOf", "(internal/reflectlite.Value).Type", "(internal/reflectlite.Value).IsNil", "internal/reflectlite.TypeOf", "(internal/reflectlite.Value).Elem", "(internal/reflectlite.Value).Set"], unfollowed := true, recurses := true, named := ["errors.errorType", "math/bits.deBruijn64tab"], plainKeys := false, apart := false, laid := [("math/bits.deBruijn64tab", laid_math_bits_deBruijn64tab), ("errors.errorType", laid_errors_errorType)] }
def TopBranchSaid : Prop := topBranchRow.holds Tryz.pinned (OpenSpec.ofChange topBranchSpec)

/-- ITS FALSE NEIGHBOUR: 'it returns false'. Refute it at one input. -/
def topBranchWrong : ChangeSpec := { name := "topBranch", fn := fun _ => fun
  | [d1, d2] => { results := [.lit (.bool false)], args := [d1, d2] }
  | _ => none }
def TopBranchWrongFalsely : Prop := topBranchRow.holds Tryz.pinned (OpenSpec.ofChange topBranchWrong)

/-- 'haruspextop.TopLoopFree': WHATEVER THE INPUT: true; the input reads as it did. -/
def topLoopFreeSpec : ChangeSpec := { name := "topLoopFree", fn := fun _ => fun
  | [d1, d2] => { results := [.lit (.bool true)], args := [d1, d2] }
  | _ => none }
def topLoopFreeRow : OpenClaim := { program := "ytdlceoefjoljnaagreatdoor", sum := "85cca857eee02a08fc405d67050efb93ce6fe076693029c683d75df65248ca74", func := "haruspex/haruspextop.TopLoopFree", spec := "topLoopFree", inPlace := ["internal/reflectlite.ValueOf", "(internal/reflectlite.Value).Type", "(internal/reflectlite.Value).IsNil", "internal/reflectlite.TypeOf", "(internal/reflectlite.Value).Elem", "(internal/reflectlite.Value).Set"], unfollowed := true, recurses := true, named := ["errors.errorType", "math/bits.deBruijn64tab"], plainKeys := false, apart := false, laid := [("math/bits.deBruijn64tab", laid_math_bits_deBruijn64tab), ("errors.errorType", laid_errors_errorType)] }
def TopLoopFreeSaid : Prop := topLoopFreeRow.holds Tryz.pinned (OpenSpec.ofChange topLoopFreeSpec)

/-- ITS FALSE NEIGHBOUR: 'it returns false'. Refute it at one input. -/
def topLoopFreeWrong : ChangeSpec := { name := "topLoopFree", fn := fun _ => fun
  | [d1, d2] => { results := [.lit (.bool false)], args := [d1, d2] }
  | _ => none }
def TopLoopFreeWrongFalsely : Prop := topLoopFreeRow.holds Tryz.pinned (OpenSpec.ofChange topLoopFreeWrong)

/-- 'haruspextop.TopTaintLoop': WHATEVER THE INPUT: true; the input reads as it did. -/
def topTaintLoopSpec : ChangeSpec := { name := "topTaintLoop", fn := fun _ => fun
  | [d1, d2] => { results := [.lit (.bool true)], args := [d1, d2] }
  | _ => none }
def topTaintLoopRow : OpenClaim := { program := "ytdlceoefjoljnaagreatdoor", sum := "85cca857eee02a08fc405d67050efb93ce6fe076693029c683d75df65248ca74", func := "haruspex/haruspextop.TopTaintLoop", spec := "topTaintLoop", inPlace := ["internal/reflectlite.ValueOf", "(internal/reflectlite.Value).Type", "(internal/reflectlite.Value).IsNil", "internal/reflectlite.TypeOf", "(internal/reflectlite.Value).Elem", "(internal/reflectlite.Value).Set"], unfollowed := true, recurses := true, named := ["errors.errorType", "math/bits.deBruijn64tab"], plainKeys := false, apart := false, laid := [("math/bits.deBruijn64tab", laid_math_bits_deBruijn64tab), ("errors.errorType", laid_errors_errorType)] }
def TopTaintLoopSaid : Prop := topTaintLoopRow.holds Tryz.pinned (OpenSpec.ofChange topTaintLoopSpec)

/-- ITS FALSE NEIGHBOUR: 'it returns false'. Refute it at one input. -/
def topTaintLoopWrong : ChangeSpec := { name := "topTaintLoop", fn := fun _ => fun
  | [d1, d2] => { results := [.lit (.bool false)], args := [d1, d2] }
  | _ => none }
def TopTaintLoopWrongFalsely : Prop := topTaintLoopRow.holds Tryz.pinned (OpenSpec.ofChange topTaintLoopWrong)

/-- 'haruspextop.TopTaintHeap': WHATEVER THE INPUT: true; the input reads as it did. -/
def topTaintHeapSpec : ChangeSpec := { name := "topTaintHeap", fn := fun _ => fun
  | [d1, d2] => { results := [.lit (.bool true)], args := [d1, d2] }
  | _ => none }
def topTaintHeapRow : OpenClaim := { program := "ytdlceoefjoljnaagreatdoor", sum := "85cca857eee02a08fc405d67050efb93ce6fe076693029c683d75df65248ca74", func := "haruspex/haruspextop.TopTaintHeap", spec := "topTaintHeap", inPlace := ["internal/reflectlite.ValueOf", "(internal/reflectlite.Value).Type", "(internal/reflectlite.Value).IsNil", "internal/reflectlite.TypeOf", "(internal/reflectlite.Value).Elem", "(internal/reflectlite.Value).Set"], unfollowed := true, recurses := true, named := ["errors.errorType", "math/bits.deBruijn64tab"], plainKeys := false, apart := false, laid := [("math/bits.deBruijn64tab", laid_math_bits_deBruijn64tab), ("errors.errorType", laid_errors_errorType)] }
def TopTaintHeapSaid : Prop := topTaintHeapRow.holds Tryz.pinned (OpenSpec.ofChange topTaintHeapSpec)

/-- ITS FALSE NEIGHBOUR: 'it returns false'. Refute it at one input. -/
def topTaintHeapWrong : ChangeSpec := { name := "topTaintHeap", fn := fun _ => fun
  | [d1, d2] => { results := [.lit (.bool false)], args := [d1, d2] }
  | _ => none }
def TopTaintHeapWrongFalsely : Prop := topTaintHeapRow.holds Tryz.pinned (OpenSpec.ofChange topTaintHeapWrong)

/-- 'haruspextop.TopOrder': WHATEVER THE INPUT: true; the input reads as it did. -/
def topOrderSpec : ChangeSpec := { name := "topOrder", fn := fun _ => fun
  | [d] => { results := [.lit (.bool true)], args := [d] }
  | _ => none }
def topOrderRow : OpenClaim := { program := "ytdlceoefjoljnaagreatdoor", sum := "85cca857eee02a08fc405d67050efb93ce6fe076693029c683d75df65248ca74", func := "haruspex/haruspextop.TopOrder", spec := "topOrder", inPlace := ["internal/reflectlite.ValueOf", "(internal/reflectlite.Value).Type", "(internal/reflectlite.Value).IsNil", "internal/reflectlite.TypeOf", "(internal/reflectlite.Value).Elem", "(internal/reflectlite.Value).Set"], unfollowed := true, recurses := true, named := ["errors.errorType", "math/bits.deBruijn64tab"], plainKeys := false, apart := false, laid := [("math/bits.deBruijn64tab", laid_math_bits_deBruijn64tab), ("errors.errorType", laid_errors_errorType)] }
def TopOrderSaid : Prop := topOrderRow.holds Tryz.pinned (OpenSpec.ofChange topOrderSpec)

/-- ITS FALSE NEIGHBOUR: 'it returns false'. Refute it at one input. -/
def topOrderWrong : ChangeSpec := { name := "topOrder", fn := fun _ => fun
  | [d] => { results := [.lit (.bool false)], args := [d] }
  | _ => none }
def TopOrderWrongFalsely : Prop := topOrderRow.holds Tryz.pinned (OpenSpec.ofChange topOrderWrong)

/-- 'haruspextop.TopFreeOther': WHATEVER THE INPUT: true; the input reads as it did. -/
def topFreeOtherSpec : ChangeSpec := { name := "topFreeOther", fn := fun _ => fun
  | [d1, d2] => { results := [.lit (.bool true)], args := [d1, d2] }
  | _ => none }
def topFreeOtherRow : OpenClaim := { program := "ytdlceoefjoljnaagreatdoor", sum := "85cca857eee02a08fc405d67050efb93ce6fe076693029c683d75df65248ca74", func := "haruspex/haruspextop.TopFreeOther", spec := "topFreeOther", inPlace := ["internal/reflectlite.ValueOf", "(internal/reflectlite.Value).Type", "(internal/reflectlite.Value).IsNil", "internal/reflectlite.TypeOf", "(internal/reflectlite.Value).Elem", "(internal/reflectlite.Value).Set"], unfollowed := true, recurses := true, named := ["errors.errorType", "math/bits.deBruijn64tab"], plainKeys := false, apart := false, laid := [("math/bits.deBruijn64tab", laid_math_bits_deBruijn64tab), ("errors.errorType", laid_errors_errorType)] }
def TopFreeOtherSaid : Prop := topFreeOtherRow.holds Tryz.pinned (OpenSpec.ofChange topFreeOtherSpec)

/-- ITS FALSE NEIGHBOUR: 'it returns false'. Refute it at one input. -/
def topFreeOtherWrong : ChangeSpec := { name := "topFreeOther", fn := fun _ => fun
  | [d1, d2] => { results := [.lit (.bool false)], args := [d1, d2] }
  | _ => none }
def TopFreeOtherWrongFalsely : Prop := topFreeOtherRow.holds Tryz.pinned (OpenSpec.ofChange topFreeOtherWrong)

/-- 'haruspextop.TopCosts': WHATEVER THE INPUT: true; the input reads as it did. -/
def topCostsSpec : ChangeSpec := { name := "topCosts", fn := fun _ => fun
  | [d1, d2] => { results := [.lit (.bool true)], args := [d1, d2] }
  | _ => none }
def topCostsRow : OpenClaim := { program := "ytdlceoefjoljnaagreatdoor", sum := "85cca857eee02a08fc405d67050efb93ce6fe076693029c683d75df65248ca74", func := "haruspex/haruspextop.TopCosts", spec := "topCosts", inPlace := ["internal/reflectlite.ValueOf", "(internal/reflectlite.Value).Type", "(internal/reflectlite.Value).IsNil", "internal/reflectlite.TypeOf", "(internal/reflectlite.Value).Elem", "(internal/reflectlite.Value).Set"], unfollowed := true, recurses := true, named := ["errors.errorType", "math/bits.deBruijn64tab"], plainKeys := false, apart := false, laid := [("math/bits.deBruijn64tab", laid_math_bits_deBruijn64tab), ("errors.errorType", laid_errors_errorType)] }
def TopCostsSaid : Prop := topCostsRow.holds Tryz.pinned (OpenSpec.ofChange topCostsSpec)

/-- ITS FALSE NEIGHBOUR: 'it returns false'. Refute it at one input. -/
def topCostsWrong : ChangeSpec := { name := "topCosts", fn := fun _ => fun
  | [d1, d2] => { results := [.lit (.bool false)], args := [d1, d2] }
  | _ => none }
def TopCostsWrongFalsely : Prop := topCostsRow.holds Tryz.pinned (OpenSpec.ofChange topCostsWrong)

/-- 'haruspextop.TopFaceNil': WHATEVER THE INPUT: true; the input reads as it did. -/
def topFaceNilSpec : ChangeSpec := { name := "topFaceNil", fn := fun _ => fun
  | [d] => { results := [.lit (.bool true)], args := [d] }
  | _ => none }
def topFaceNilRow : OpenClaim := { program := "ytdlceoefjoljnaagreatdoor", sum := "85cca857eee02a08fc405d67050efb93ce6fe076693029c683d75df65248ca74", func := "haruspex/haruspextop.TopFaceNil", spec := "topFaceNil", inPlace := ["internal/reflectlite.ValueOf", "(internal/reflectlite.Value).Type", "(internal/reflectlite.Value).IsNil", "internal/reflectlite.TypeOf", "(internal/reflectlite.Value).Elem", "(internal/reflectlite.Value).Set"], unfollowed := true, recurses := true, named := ["errors.errorType", "math/bits.deBruijn64tab"], plainKeys := false, apart := false, laid := [("math/bits.deBruijn64tab", laid_math_bits_deBruijn64tab), ("errors.errorType", laid_errors_errorType)] }
def TopFaceNilSaid : Prop := topFaceNilRow.holds Tryz.pinned (OpenSpec.ofChange topFaceNilSpec)

/-- ITS FALSE NEIGHBOUR: 'it returns false'. Refute it at one input. -/
def topFaceNilWrong : ChangeSpec := { name := "topFaceNil", fn := fun _ => fun
  | [d] => { results := [.lit (.bool false)], args := [d] }
  | _ => none }
def TopFaceNilWrongFalsely : Prop := topFaceNilRow.holds Tryz.pinned (OpenSpec.ofChange topFaceNilWrong)

/-- 'haruspextop.TopFunField': WHATEVER THE INPUT: true; the input reads as it did. -/
def topFunFieldSpec : ChangeSpec := { name := "topFunField", fn := fun _ => fun
  | [d] => { results := [.lit (.bool true)], args := [d] }
  | _ => none }
def topFunFieldRow : OpenClaim := { program := "ytdlceoefjoljnaagreatdoor", sum := "85cca857eee02a08fc405d67050efb93ce6fe076693029c683d75df65248ca74", func := "haruspex/haruspextop.TopFunField", spec := "topFunField", inPlace := ["internal/reflectlite.ValueOf", "(internal/reflectlite.Value).Type", "(internal/reflectlite.Value).IsNil", "internal/reflectlite.TypeOf", "(internal/reflectlite.Value).Elem", "(internal/reflectlite.Value).Set"], unfollowed := true, recurses := true, named := ["errors.errorType", "math/bits.deBruijn64tab"], plainKeys := false, apart := false, laid := [("math/bits.deBruijn64tab", laid_math_bits_deBruijn64tab), ("errors.errorType", laid_errors_errorType)] }
def TopFunFieldSaid : Prop := topFunFieldRow.holds Tryz.pinned (OpenSpec.ofChange topFunFieldSpec)

/-- ITS FALSE NEIGHBOUR: 'it returns false'. Refute it at one input. -/
def topFunFieldWrong : ChangeSpec := { name := "topFunField", fn := fun _ => fun
  | [d] => { results := [.lit (.bool false)], args := [d] }
  | _ => none }
def TopFunFieldWrongFalsely : Prop := topFunFieldRow.holds Tryz.pinned (OpenSpec.ofChange topFunFieldWrong)

/-- 'haruspextop.TopDispatch': WHATEVER THE INPUT: true; the input reads as it did. -/
def topDispatchSpec : ChangeSpec := { name := "topDispatch", fn := fun _ => fun
  | [d1, d2] => { results := [.lit (.bool true)], args := [d1, d2] }
  | _ => none }
def topDispatchRow : OpenClaim := { program := "ytdlceoefjoljnaagreatdoor", sum := "85cca857eee02a08fc405d67050efb93ce6fe076693029c683d75df65248ca74", func := "haruspex/haruspextop.TopDispatch", spec := "topDispatch", inPlace := ["internal/reflectlite.ValueOf", "(internal/reflectlite.Value).Type", "(internal/reflectlite.Value).IsNil", "internal/reflectlite.TypeOf", "(internal/reflectlite.Value).Elem", "(internal/reflectlite.Value).Set"], unfollowed := true, recurses := true, named := ["errors.errorType", "math/bits.deBruijn64tab"], plainKeys := false, apart := false, laid := [("math/bits.deBruijn64tab", laid_math_bits_deBruijn64tab), ("errors.errorType", laid_errors_errorType)] }
def TopDispatchSaid : Prop := topDispatchRow.holds Tryz.pinned (OpenSpec.ofChange topDispatchSpec)

/-- ITS FALSE NEIGHBOUR: 'it returns false'. Refute it at one input. -/
def topDispatchWrong : ChangeSpec := { name := "topDispatch", fn := fun _ => fun
  | [d1, d2] => { results := [.lit (.bool false)], args := [d1, d2] }
  | _ => none }
def TopDispatchWrongFalsely : Prop := topDispatchRow.holds Tryz.pinned (OpenSpec.ofChange topDispatchWrong)

/-- 'haruspextop.TopTable': WHATEVER THE INPUT: true; the input reads as it did. -/
def topTableSpec : ChangeSpec := { name := "topTable", fn := fun _ => fun
  | [d1, d2] => { results := [.lit (.bool true)], args := [d1, d2] }
  | _ => none }
def topTableRow : OpenClaim := { program := "ytdlceoefjoljnaagreatdoor", sum := "85cca857eee02a08fc405d67050efb93ce6fe076693029c683d75df65248ca74", func := "haruspex/haruspextop.TopTable", spec := "topTable", inPlace := ["internal/reflectlite.ValueOf", "(internal/reflectlite.Value).Type", "(internal/reflectlite.Value).IsNil", "internal/reflectlite.TypeOf", "(internal/reflectlite.Value).Elem", "(internal/reflectlite.Value).Set"], unfollowed := true, recurses := true, named := ["errors.errorType", "math/bits.deBruijn64tab"], plainKeys := false, apart := false, laid := [("math/bits.deBruijn64tab", laid_math_bits_deBruijn64tab), ("errors.errorType", laid_errors_errorType)] }
def TopTableSaid : Prop := topTableRow.holds Tryz.pinned (OpenSpec.ofChange topTableSpec)

/-- ITS FALSE NEIGHBOUR: 'it returns false'. Refute it at one input. -/
def topTableWrong : ChangeSpec := { name := "topTable", fn := fun _ => fun
  | [d1, d2] => { results := [.lit (.bool false)], args := [d1, d2] }
  | _ => none }
def TopTableWrongFalsely : Prop := topTableRow.holds Tryz.pinned (OpenSpec.ofChange topTableWrong)

/-- 'haruspextop.TopList': WHATEVER THE INPUT: true; the input reads as it did. -/
def topListSpec : ChangeSpec := { name := "topList", fn := fun _ => fun
  | [d1, d2] => { results := [.lit (.bool true)], args := [d1, d2] }
  | _ => none }
def topListRow : OpenClaim := { program := "ytdlceoefjoljnaagreatdoor", sum := "85cca857eee02a08fc405d67050efb93ce6fe076693029c683d75df65248ca74", func := "haruspex/haruspextop.TopList", spec := "topList", inPlace := ["internal/reflectlite.ValueOf", "(internal/reflectlite.Value).Type", "(internal/reflectlite.Value).IsNil", "internal/reflectlite.TypeOf", "(internal/reflectlite.Value).Elem", "(internal/reflectlite.Value).Set"], unfollowed := true, recurses := true, named := ["errors.errorType", "math/bits.deBruijn64tab"], plainKeys := false, apart := false, laid := [("math/bits.deBruijn64tab", laid_math_bits_deBruijn64tab), ("errors.errorType", laid_errors_errorType)] }
def TopListSaid : Prop := topListRow.holds Tryz.pinned (OpenSpec.ofChange topListSpec)

/-- ITS FALSE NEIGHBOUR: 'it returns false'. Refute it at one input. -/
def topListWrong : ChangeSpec := { name := "topList", fn := fun _ => fun
  | [d1, d2] => { results := [.lit (.bool false)], args := [d1, d2] }
  | _ => none }
def TopListWrongFalsely : Prop := topListRow.holds Tryz.pinned (OpenSpec.ofChange topListWrong)

/-- 'haruspextop.TopSites': WHATEVER THE INPUT: true; the input reads as it did. -/
def topSitesSpec : ChangeSpec := { name := "topSites", fn := fun _ => fun
  | [d1, d2] => { results := [.lit (.bool true)], args := [d1, d2] }
  | _ => none }
def topSitesRow : OpenClaim := { program := "ytdlceoefjoljnaagreatdoor", sum := "85cca857eee02a08fc405d67050efb93ce6fe076693029c683d75df65248ca74", func := "haruspex/haruspextop.TopSites", spec := "topSites", inPlace := ["internal/reflectlite.ValueOf", "(internal/reflectlite.Value).Type", "(internal/reflectlite.Value).IsNil", "internal/reflectlite.TypeOf", "(internal/reflectlite.Value).Elem", "(internal/reflectlite.Value).Set"], unfollowed := true, recurses := true, named := ["errors.errorType", "math/bits.deBruijn64tab"], plainKeys := false, apart := false, laid := [("math/bits.deBruijn64tab", laid_math_bits_deBruijn64tab), ("errors.errorType", laid_errors_errorType)] }
def TopSitesSaid : Prop := topSitesRow.holds Tryz.pinned (OpenSpec.ofChange topSitesSpec)

/-- ITS FALSE NEIGHBOUR: 'it returns false'. Refute it at one input. -/
def topSitesWrong : ChangeSpec := { name := "topSites", fn := fun _ => fun
  | [d1, d2] => { results := [.lit (.bool false)], args := [d1, d2] }
  | _ => none }
def TopSitesWrongFalsely : Prop := topSitesRow.holds Tryz.pinned (OpenSpec.ofChange topSitesWrong)

/-- 'haruspextop.TopMade': WHATEVER THE INPUT: true; the input reads as it did. -/
def topMadeSpec : ChangeSpec := { name := "topMade", fn := fun _ => fun
  | [d] => { results := [.lit (.bool true)], args := [d] }
  | _ => none }
def topMadeRow : OpenClaim := { program := "ytdlceoefjoljnaagreatdoor", sum := "85cca857eee02a08fc405d67050efb93ce6fe076693029c683d75df65248ca74", func := "haruspex/haruspextop.TopMade", spec := "topMade", inPlace := ["internal/reflectlite.ValueOf", "(internal/reflectlite.Value).Type", "(internal/reflectlite.Value).IsNil", "internal/reflectlite.TypeOf", "(internal/reflectlite.Value).Elem", "(internal/reflectlite.Value).Set"], unfollowed := true, recurses := true, named := ["errors.errorType", "math/bits.deBruijn64tab"], plainKeys := false, apart := false, laid := [("math/bits.deBruijn64tab", laid_math_bits_deBruijn64tab), ("errors.errorType", laid_errors_errorType)] }
def TopMadeSaid : Prop := topMadeRow.holds Tryz.pinned (OpenSpec.ofChange topMadeSpec)

/-- ITS FALSE NEIGHBOUR: 'it returns false'. Refute it at one input. -/
def topMadeWrong : ChangeSpec := { name := "topMade", fn := fun _ => fun
  | [d] => { results := [.lit (.bool false)], args := [d] }
  | _ => none }
def TopMadeWrongFalsely : Prop := topMadeRow.holds Tryz.pinned (OpenSpec.ofChange topMadeWrong)

/- THE SECOND FORM. 'bulk': how many values and letters a reading holds, each counted each time it is reached (what is shared counts as often as it is met; a slice's spare places count too). A statement '..UptoSaid' is the law's where the arguments, and the package variables that the reading takes, are together of bulk at most 1048576: NARROWER than '..Said'. Prove '..Said' where nothing that the law and all that it calls make is longer than what came in: it says more and counts as full. Else prove '..UptoSaid'. A law counts once. -/
mutual
def uptoBulk {H : Type} : DataW H → Nat
  | .lit (.string bytes) => bytes.length + 1
  | .lit _ => 1
  | .nil => 1
  | .ptr d => uptoBulk d + 1
  | .slice elems spare => uptoBulkAll elems + uptoBulkAll spare + 1
  | .agg parts => uptoBulkAll parts + 1
  | .iface _ d => uptoBulk d + 1
  | .map entries => uptoBulkEntries entries + 1
  | .held _ => 1
def uptoBulkAll {H : Type} : List (DataW H) → Nat
  | [] => 0
  | d :: r => uptoBulk d + uptoBulkAll r
def uptoBulkEntries {H : Type} : List (Lit × DataW H) → Nat
  | [] => 0
  | x :: r => uptoBulkEntry x + uptoBulkEntries r
def uptoBulkEntry {H : Type} : Lit × DataW H → Nat
  | (.string bytes, d) => bytes.length + uptoBulk d + 1
  | (_, d) => uptoBulk d + 1
 end
def uptoSmall : (H : Type) → List (DataW H) → Bool := fun _ ds => decide (uptoBulkAll ds ≤ 1048576)
def OpenSpec.upto (s : _root_.Go.ChangeSpec) : _root_.Go.OpenSpec := { _root_.Go.OpenSpec.ofChange s with cond := some uptoSmall }

/-- 'haruspextop.TopBranch', WHERE WHAT IT READS IS OF BULK AT MOST 1048576: true; the input reads as it did. -/
def topBranchUptoRow : OpenClaim := { program := "ytdlceoefjoljnaagreatdoor", sum := "85cca857eee02a08fc405d67050efb93ce6fe076693029c683d75df65248ca74", func := "haruspex/haruspextop.TopBranch", spec := "topBranch", inPlace := ["internal/reflectlite.ValueOf", "(internal/reflectlite.Value).Type", "(internal/reflectlite.Value).IsNil", "internal/reflectlite.TypeOf", "(internal/reflectlite.Value).Elem", "(internal/reflectlite.Value).Set"], unfollowed := true, recurses := true, named := ["errors.errorType", "math/bits.deBruijn64tab"], plainKeys := false, apart := false, laid := [("math/bits.deBruijn64tab", laid_math_bits_deBruijn64tab), ("errors.errorType", laid_errors_errorType)], narrowed := true }
def TopBranchUptoSaid : Prop := topBranchUptoRow.holds Tryz.pinned (OpenSpec.upto topBranchSpec)

/-- 'haruspextop.TopLoopFree', WHERE WHAT IT READS IS OF BULK AT MOST 1048576: true; the input reads as it did. -/
def topLoopFreeUptoRow : OpenClaim := { program := "ytdlceoefjoljnaagreatdoor", sum := "85cca857eee02a08fc405d67050efb93ce6fe076693029c683d75df65248ca74", func := "haruspex/haruspextop.TopLoopFree", spec := "topLoopFree", inPlace := ["internal/reflectlite.ValueOf", "(internal/reflectlite.Value).Type", "(internal/reflectlite.Value).IsNil", "internal/reflectlite.TypeOf", "(internal/reflectlite.Value).Elem", "(internal/reflectlite.Value).Set"], unfollowed := true, recurses := true, named := ["errors.errorType", "math/bits.deBruijn64tab"], plainKeys := false, apart := false, laid := [("math/bits.deBruijn64tab", laid_math_bits_deBruijn64tab), ("errors.errorType", laid_errors_errorType)], narrowed := true }
def TopLoopFreeUptoSaid : Prop := topLoopFreeUptoRow.holds Tryz.pinned (OpenSpec.upto topLoopFreeSpec)

/-- 'haruspextop.TopTaintLoop', WHERE WHAT IT READS IS OF BULK AT MOST 1048576: true; the input reads as it did. -/
def topTaintLoopUptoRow : OpenClaim := { program := "ytdlceoefjoljnaagreatdoor", sum := "85cca857eee02a08fc405d67050efb93ce6fe076693029c683d75df65248ca74", func := "haruspex/haruspextop.TopTaintLoop", spec := "topTaintLoop", inPlace := ["internal/reflectlite.ValueOf", "(internal/reflectlite.Value).Type", "(internal/reflectlite.Value).IsNil", "internal/reflectlite.TypeOf", "(internal/reflectlite.Value).Elem", "(internal/reflectlite.Value).Set"], unfollowed := true, recurses := true, named := ["errors.errorType", "math/bits.deBruijn64tab"], plainKeys := false, apart := false, laid := [("math/bits.deBruijn64tab", laid_math_bits_deBruijn64tab), ("errors.errorType", laid_errors_errorType)], narrowed := true }
def TopTaintLoopUptoSaid : Prop := topTaintLoopUptoRow.holds Tryz.pinned (OpenSpec.upto topTaintLoopSpec)

/-- 'haruspextop.TopTaintHeap', WHERE WHAT IT READS IS OF BULK AT MOST 1048576: true; the input reads as it did. -/
def topTaintHeapUptoRow : OpenClaim := { program := "ytdlceoefjoljnaagreatdoor", sum := "85cca857eee02a08fc405d67050efb93ce6fe076693029c683d75df65248ca74", func := "haruspex/haruspextop.TopTaintHeap", spec := "topTaintHeap", inPlace := ["internal/reflectlite.ValueOf", "(internal/reflectlite.Value).Type", "(internal/reflectlite.Value).IsNil", "internal/reflectlite.TypeOf", "(internal/reflectlite.Value).Elem", "(internal/reflectlite.Value).Set"], unfollowed := true, recurses := true, named := ["errors.errorType", "math/bits.deBruijn64tab"], plainKeys := false, apart := false, laid := [("math/bits.deBruijn64tab", laid_math_bits_deBruijn64tab), ("errors.errorType", laid_errors_errorType)], narrowed := true }
def TopTaintHeapUptoSaid : Prop := topTaintHeapUptoRow.holds Tryz.pinned (OpenSpec.upto topTaintHeapSpec)

/-- 'haruspextop.TopOrder', WHERE WHAT IT READS IS OF BULK AT MOST 1048576: true; the input reads as it did. -/
def topOrderUptoRow : OpenClaim := { program := "ytdlceoefjoljnaagreatdoor", sum := "85cca857eee02a08fc405d67050efb93ce6fe076693029c683d75df65248ca74", func := "haruspex/haruspextop.TopOrder", spec := "topOrder", inPlace := ["internal/reflectlite.ValueOf", "(internal/reflectlite.Value).Type", "(internal/reflectlite.Value).IsNil", "internal/reflectlite.TypeOf", "(internal/reflectlite.Value).Elem", "(internal/reflectlite.Value).Set"], unfollowed := true, recurses := true, named := ["errors.errorType", "math/bits.deBruijn64tab"], plainKeys := false, apart := false, laid := [("math/bits.deBruijn64tab", laid_math_bits_deBruijn64tab), ("errors.errorType", laid_errors_errorType)], narrowed := true }
def TopOrderUptoSaid : Prop := topOrderUptoRow.holds Tryz.pinned (OpenSpec.upto topOrderSpec)

/-- 'haruspextop.TopFreeOther', WHERE WHAT IT READS IS OF BULK AT MOST 1048576: true; the input reads as it did. -/
def topFreeOtherUptoRow : OpenClaim := { program := "ytdlceoefjoljnaagreatdoor", sum := "85cca857eee02a08fc405d67050efb93ce6fe076693029c683d75df65248ca74", func := "haruspex/haruspextop.TopFreeOther", spec := "topFreeOther", inPlace := ["internal/reflectlite.ValueOf", "(internal/reflectlite.Value).Type", "(internal/reflectlite.Value).IsNil", "internal/reflectlite.TypeOf", "(internal/reflectlite.Value).Elem", "(internal/reflectlite.Value).Set"], unfollowed := true, recurses := true, named := ["errors.errorType", "math/bits.deBruijn64tab"], plainKeys := false, apart := false, laid := [("math/bits.deBruijn64tab", laid_math_bits_deBruijn64tab), ("errors.errorType", laid_errors_errorType)], narrowed := true }
def TopFreeOtherUptoSaid : Prop := topFreeOtherUptoRow.holds Tryz.pinned (OpenSpec.upto topFreeOtherSpec)

/-- 'haruspextop.TopCosts', WHERE WHAT IT READS IS OF BULK AT MOST 1048576: true; the input reads as it did. -/
def topCostsUptoRow : OpenClaim := { program := "ytdlceoefjoljnaagreatdoor", sum := "85cca857eee02a08fc405d67050efb93ce6fe076693029c683d75df65248ca74", func := "haruspex/haruspextop.TopCosts", spec := "topCosts", inPlace := ["internal/reflectlite.ValueOf", "(internal/reflectlite.Value).Type", "(internal/reflectlite.Value).IsNil", "internal/reflectlite.TypeOf", "(internal/reflectlite.Value).Elem", "(internal/reflectlite.Value).Set"], unfollowed := true, recurses := true, named := ["errors.errorType", "math/bits.deBruijn64tab"], plainKeys := false, apart := false, laid := [("math/bits.deBruijn64tab", laid_math_bits_deBruijn64tab), ("errors.errorType", laid_errors_errorType)], narrowed := true }
def TopCostsUptoSaid : Prop := topCostsUptoRow.holds Tryz.pinned (OpenSpec.upto topCostsSpec)

/-- 'haruspextop.TopFaceNil', WHERE WHAT IT READS IS OF BULK AT MOST 1048576: true; the input reads as it did. -/
def topFaceNilUptoRow : OpenClaim := { program := "ytdlceoefjoljnaagreatdoor", sum := "85cca857eee02a08fc405d67050efb93ce6fe076693029c683d75df65248ca74", func := "haruspex/haruspextop.TopFaceNil", spec := "topFaceNil", inPlace := ["internal/reflectlite.ValueOf", "(internal/reflectlite.Value).Type", "(internal/reflectlite.Value).IsNil", "internal/reflectlite.TypeOf", "(internal/reflectlite.Value).Elem", "(internal/reflectlite.Value).Set"], unfollowed := true, recurses := true, named := ["errors.errorType", "math/bits.deBruijn64tab"], plainKeys := false, apart := false, laid := [("math/bits.deBruijn64tab", laid_math_bits_deBruijn64tab), ("errors.errorType", laid_errors_errorType)], narrowed := true }
def TopFaceNilUptoSaid : Prop := topFaceNilUptoRow.holds Tryz.pinned (OpenSpec.upto topFaceNilSpec)

/-- 'haruspextop.TopFunField', WHERE WHAT IT READS IS OF BULK AT MOST 1048576: true; the input reads as it did. -/
def topFunFieldUptoRow : OpenClaim := { program := "ytdlceoefjoljnaagreatdoor", sum := "85cca857eee02a08fc405d67050efb93ce6fe076693029c683d75df65248ca74", func := "haruspex/haruspextop.TopFunField", spec := "topFunField", inPlace := ["internal/reflectlite.ValueOf", "(internal/reflectlite.Value).Type", "(internal/reflectlite.Value).IsNil", "internal/reflectlite.TypeOf", "(internal/reflectlite.Value).Elem", "(internal/reflectlite.Value).Set"], unfollowed := true, recurses := true, named := ["errors.errorType", "math/bits.deBruijn64tab"], plainKeys := false, apart := false, laid := [("math/bits.deBruijn64tab", laid_math_bits_deBruijn64tab), ("errors.errorType", laid_errors_errorType)], narrowed := true }
def TopFunFieldUptoSaid : Prop := topFunFieldUptoRow.holds Tryz.pinned (OpenSpec.upto topFunFieldSpec)

/-- 'haruspextop.TopDispatch', WHERE WHAT IT READS IS OF BULK AT MOST 1048576: true; the input reads as it did. -/
def topDispatchUptoRow : OpenClaim := { program := "ytdlceoefjoljnaagreatdoor", sum := "85cca857eee02a08fc405d67050efb93ce6fe076693029c683d75df65248ca74", func := "haruspex/haruspextop.TopDispatch", spec := "topDispatch", inPlace := ["internal/reflectlite.ValueOf", "(internal/reflectlite.Value).Type", "(internal/reflectlite.Value).IsNil", "internal/reflectlite.TypeOf", "(internal/reflectlite.Value).Elem", "(internal/reflectlite.Value).Set"], unfollowed := true, recurses := true, named := ["errors.errorType", "math/bits.deBruijn64tab"], plainKeys := false, apart := false, laid := [("math/bits.deBruijn64tab", laid_math_bits_deBruijn64tab), ("errors.errorType", laid_errors_errorType)], narrowed := true }
def TopDispatchUptoSaid : Prop := topDispatchUptoRow.holds Tryz.pinned (OpenSpec.upto topDispatchSpec)

/-- 'haruspextop.TopTable', WHERE WHAT IT READS IS OF BULK AT MOST 1048576: true; the input reads as it did. -/
def topTableUptoRow : OpenClaim := { program := "ytdlceoefjoljnaagreatdoor", sum := "85cca857eee02a08fc405d67050efb93ce6fe076693029c683d75df65248ca74", func := "haruspex/haruspextop.TopTable", spec := "topTable", inPlace := ["internal/reflectlite.ValueOf", "(internal/reflectlite.Value).Type", "(internal/reflectlite.Value).IsNil", "internal/reflectlite.TypeOf", "(internal/reflectlite.Value).Elem", "(internal/reflectlite.Value).Set"], unfollowed := true, recurses := true, named := ["errors.errorType", "math/bits.deBruijn64tab"], plainKeys := false, apart := false, laid := [("math/bits.deBruijn64tab", laid_math_bits_deBruijn64tab), ("errors.errorType", laid_errors_errorType)], narrowed := true }
def TopTableUptoSaid : Prop := topTableUptoRow.holds Tryz.pinned (OpenSpec.upto topTableSpec)

/-- 'haruspextop.TopList', WHERE WHAT IT READS IS OF BULK AT MOST 1048576: true; the input reads as it did. -/
def topListUptoRow : OpenClaim := { program := "ytdlceoefjoljnaagreatdoor", sum := "85cca857eee02a08fc405d67050efb93ce6fe076693029c683d75df65248ca74", func := "haruspex/haruspextop.TopList", spec := "topList", inPlace := ["internal/reflectlite.ValueOf", "(internal/reflectlite.Value).Type", "(internal/reflectlite.Value).IsNil", "internal/reflectlite.TypeOf", "(internal/reflectlite.Value).Elem", "(internal/reflectlite.Value).Set"], unfollowed := true, recurses := true, named := ["errors.errorType", "math/bits.deBruijn64tab"], plainKeys := false, apart := false, laid := [("math/bits.deBruijn64tab", laid_math_bits_deBruijn64tab), ("errors.errorType", laid_errors_errorType)], narrowed := true }
def TopListUptoSaid : Prop := topListUptoRow.holds Tryz.pinned (OpenSpec.upto topListSpec)

/-- 'haruspextop.TopSites', WHERE WHAT IT READS IS OF BULK AT MOST 1048576: true; the input reads as it did. -/
def topSitesUptoRow : OpenClaim := { program := "ytdlceoefjoljnaagreatdoor", sum := "85cca857eee02a08fc405d67050efb93ce6fe076693029c683d75df65248ca74", func := "haruspex/haruspextop.TopSites", spec := "topSites", inPlace := ["internal/reflectlite.ValueOf", "(internal/reflectlite.Value).Type", "(internal/reflectlite.Value).IsNil", "internal/reflectlite.TypeOf", "(internal/reflectlite.Value).Elem", "(internal/reflectlite.Value).Set"], unfollowed := true, recurses := true, named := ["errors.errorType", "math/bits.deBruijn64tab"], plainKeys := false, apart := false, laid := [("math/bits.deBruijn64tab", laid_math_bits_deBruijn64tab), ("errors.errorType", laid_errors_errorType)], narrowed := true }
def TopSitesUptoSaid : Prop := topSitesUptoRow.holds Tryz.pinned (OpenSpec.upto topSitesSpec)

/-- 'haruspextop.TopMade', WHERE WHAT IT READS IS OF BULK AT MOST 1048576: true; the input reads as it did. -/
def topMadeUptoRow : OpenClaim := { program := "ytdlceoefjoljnaagreatdoor", sum := "85cca857eee02a08fc405d67050efb93ce6fe076693029c683d75df65248ca74", func := "haruspex/haruspextop.TopMade", spec := "topMade", inPlace := ["internal/reflectlite.ValueOf", "(internal/reflectlite.Value).Type", "(internal/reflectlite.Value).IsNil", "internal/reflectlite.TypeOf", "(internal/reflectlite.Value).Elem", "(internal/reflectlite.Value).Set"], unfollowed := true, recurses := true, named := ["errors.errorType", "math/bits.deBruijn64tab"], plainKeys := false, apart := false, laid := [("math/bits.deBruijn64tab", laid_math_bits_deBruijn64tab), ("errors.errorType", laid_errors_errorType)], narrowed := true }
def TopMadeUptoSaid : Prop := topMadeUptoRow.holds Tryz.pinned (OpenSpec.upto topMadeSpec)

end Rows
end Go.Proofs.YtdlceoefjoljnaaGreatDoor
