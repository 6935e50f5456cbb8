/-
  DERIVED. GIVEN WITH THE SEED: THE CARDS: each row of YtechgpjdlkjjoaaGreatDoorRows.lean that lists a variable, with what it lists TIED to the program's text (the seventh form; the later family's looks); each row that meets fmt, with fmt's text TOLD by the authors' own Lean function (tested against real Go, not proved from fmt's source: count such statements apart). THE CARD IS WHAT COUNTS. Prove the row's statement (the work); the ties are given (YtechgpjdlkjjoaaGreatDoorTie.lean); close each card by the builder's one call (the guide's Derived/Test/ToyasCard.lean, 'card_holds'). Laid BY PROGRAM, IN A SANDBOX (cutbox-door.mjs). By AI agents, Wed Nov 11 2026. No macro, syntax, notation, axiom, sorry.
-/
import Derived.Test.YtechgpjdlkjjoaaGreatDoorRows
import GoSem.ClaimSeven
namespace Go.Proofs.YtechgpjdlkjjoaaGreatDoor
namespace Rows

/-- THE TIED CARD OF 'haruspexlaw14.SemBranch'. -/
def semBranchCard : Claim7 := { stood := { row := semBranchRow, standIns := [], harness := (true, "9fb4267fbbecec8ff968db5b91edca8b0a10b6f45185bdee984e12c64f386cf2"), looks := true }, kinds := [], alts := [], laidByText := true, laidKinds := [.handle], laidTests := true, laidLooks := .later }
def SemBranchCardSaid : Prop := Claim7.holds Tryz.pinned (.plain (OpenSpec.ofChange semBranchSpec)) semBranchCard

/-- THE TIED CARD OF 'haruspexlaw14.SemLoop'. -/
def semLoopCard : Claim7 := { stood := { row := semLoopRow, standIns := [], harness := (true, "9fb4267fbbecec8ff968db5b91edca8b0a10b6f45185bdee984e12c64f386cf2"), looks := true }, kinds := [], alts := [], laidByText := true, laidKinds := [.handle], laidTests := true, laidLooks := .later }
def SemLoopCardSaid : Prop := Claim7.holds Tryz.pinned (.plain (OpenSpec.ofChange semLoopSpec)) semLoopCard

/-- THE TIED CARD OF 'haruspexlaw14.SemArgs'. -/
def semArgsCard : Claim7 := { stood := { row := semArgsRow, standIns := [], harness := (true, "9fb4267fbbecec8ff968db5b91edca8b0a10b6f45185bdee984e12c64f386cf2"), looks := true }, kinds := [], alts := [], laidByText := true, laidKinds := [.handle], laidTests := true, laidLooks := .later }
def SemArgsCardSaid : Prop := Claim7.holds Tryz.pinned (.plain (OpenSpec.ofChange semArgsSpec)) semArgsCard

/-- THE TIED CARD OF 'haruspexlaw14.SemMethod'. -/
def semMethodCard : Claim7 := { stood := { row := semMethodRow, standIns := [], harness := (true, "9fb4267fbbecec8ff968db5b91edca8b0a10b6f45185bdee984e12c64f386cf2"), looks := true }, kinds := [], alts := [], laidByText := true, laidKinds := [.handle], laidTests := true, laidLooks := .later }
def SemMethodCardSaid : Prop := Claim7.holds Tryz.pinned (.plain (OpenSpec.ofChange semMethodSpec)) semMethodCard

/-- THE TIED CARD OF 'haruspexlaw14.SemWrong'. -/
def semWrongCard : Claim7 := { stood := { row := semWrongRow, standIns := [], harness := (true, "9fb4267fbbecec8ff968db5b91edca8b0a10b6f45185bdee984e12c64f386cf2"), looks := true }, kinds := [], alts := [], laidByText := true, laidKinds := [.handle], laidTests := true, laidLooks := .later }
def SemWrongCardSaid : Prop := Claim7.holds Tryz.pinned (.plain (OpenSpec.ofChange semWrongSpec)) semWrongCard

/-- THE TIED CARD OF 'haruspexlaw14.SemSum'. -/
def semSumCard : Claim7 := { stood := { row := semSumRow, standIns := [], harness := (true, "9fb4267fbbecec8ff968db5b91edca8b0a10b6f45185bdee984e12c64f386cf2"), looks := true }, kinds := [], alts := [], laidByText := true, laidKinds := [.handle], laidTests := true, laidLooks := .later }
def SemSumCardSaid : Prop := Claim7.holds Tryz.pinned (.plain (OpenSpec.ofChange semSumSpec)) semSumCard

/-- THE TIED CARD OF 'haruspexlaw14.SemDeep'. -/
def semDeepCard : Claim7 := { stood := { row := semDeepRow, standIns := [], harness := (true, "9fb4267fbbecec8ff968db5b91edca8b0a10b6f45185bdee984e12c64f386cf2"), looks := true }, kinds := [], alts := [], laidByText := true, laidKinds := [.handle], laidTests := true, laidLooks := .later }
def SemDeepCardSaid : Prop := Claim7.holds Tryz.pinned (.plain (OpenSpec.ofChange semDeepSpec)) semDeepCard

/-- THE TIED CARD OF 'haruspexlaw14.SemOracle'. -/
def semOracleCard : Claim7 := { stood := { row := semOracleRow, standIns := [], harness := (true, "9fb4267fbbecec8ff968db5b91edca8b0a10b6f45185bdee984e12c64f386cf2"), looks := true }, kinds := [], alts := [], laidByText := true, laidKinds := [.handle], laidTests := true, laidLooks := .later }
def SemOracleCardSaid : Prop := Claim7.holds Tryz.pinned (.plain (OpenSpec.ofChange semOracleSpec)) semOracleCard

/-- THE TIED CARD OF 'haruspexlaw14.SemOwn'. -/
def semOwnCard : Claim7 := { stood := { row := semOwnRow, standIns := [], harness := (true, "9fb4267fbbecec8ff968db5b91edca8b0a10b6f45185bdee984e12c64f386cf2"), looks := true }, kinds := [], alts := [], laidByText := true, laidKinds := [.handle], laidTests := true, laidLooks := .later }
def SemOwnCardSaid : Prop := Claim7.holds Tryz.pinned (.plain (OpenSpec.ofChange semOwnSpec)) semOwnCard

/-- THE TIED CARD OF 'haruspexlaw14.SemTypes'. -/
def semTypesCard : Claim7 := { stood := { row := semTypesRow, standIns := [], harness := (true, "9fb4267fbbecec8ff968db5b91edca8b0a10b6f45185bdee984e12c64f386cf2"), looks := true }, kinds := [], alts := [], laidByText := true, laidKinds := [.handle], laidTests := true, laidLooks := .later }
def SemTypesCardSaid : Prop := Claim7.holds Tryz.pinned (.plain (OpenSpec.ofChange semTypesSpec)) semTypesCard

/-- THE TIED CARD OF 'haruspexlaw14.SemRaw'. -/
def semRawCard : Claim7 := { stood := { row := semRawRow, standIns := [], harness := (true, "9fb4267fbbecec8ff968db5b91edca8b0a10b6f45185bdee984e12c64f386cf2"), looks := true }, kinds := [], alts := [], laidByText := true, laidKinds := [.handle], laidTests := true, laidLooks := .later }
def SemRawCardSaid : Prop := Claim7.holds Tryz.pinned (.plain (OpenSpec.ofChange semRawSpec)) semRawCard

/-- THE TIED CARD OF 'haruspexlaw14.SemNone'. -/
def semNoneCard : Claim7 := { stood := { row := semNoneRow, standIns := [], harness := (true, "9fb4267fbbecec8ff968db5b91edca8b0a10b6f45185bdee984e12c64f386cf2"), looks := true }, kinds := [], alts := [], laidByText := true, laidKinds := [.handle], laidTests := true, laidLooks := .later }
def SemNoneCardSaid : Prop := Claim7.holds Tryz.pinned (.plain (OpenSpec.ofChange semNoneSpec)) semNoneCard

/-- THE TIED CARD OF 'haruspexlaw14.SemSteps'. -/
def semStepsCard : Claim7 := { stood := { row := semStepsRow, standIns := [], harness := (true, "9fb4267fbbecec8ff968db5b91edca8b0a10b6f45185bdee984e12c64f386cf2"), looks := true }, kinds := [], alts := [], laidByText := true, laidKinds := [.handle], laidTests := true, laidLooks := .later }
def SemStepsCardSaid : Prop := Claim7.holds Tryz.pinned (.plain (OpenSpec.ofChange semStepsSpec)) semStepsCard

/-- THE SECOND FORM's CARD OF 'haruspexlaw14.SemBranch'. -/
def semBranchUptoCard : Claim7 := { stood := { row := semBranchUptoRow, standIns := [], harness := (true, "9fb4267fbbecec8ff968db5b91edca8b0a10b6f45185bdee984e12c64f386cf2"), looks := true }, kinds := [], alts := [], laidByText := true, laidKinds := [.handle], laidTests := true, laidLooks := .later }
def SemBranchUptoCardSaid : Prop := Claim7.holds Tryz.pinned (.plain (OpenSpec.upto semBranchSpec)) semBranchUptoCard

/-- THE SECOND FORM's CARD OF 'haruspexlaw14.SemLoop'. -/
def semLoopUptoCard : Claim7 := { stood := { row := semLoopUptoRow, standIns := [], harness := (true, "9fb4267fbbecec8ff968db5b91edca8b0a10b6f45185bdee984e12c64f386cf2"), looks := true }, kinds := [], alts := [], laidByText := true, laidKinds := [.handle], laidTests := true, laidLooks := .later }
def SemLoopUptoCardSaid : Prop := Claim7.holds Tryz.pinned (.plain (OpenSpec.upto semLoopSpec)) semLoopUptoCard

/-- THE SECOND FORM's CARD OF 'haruspexlaw14.SemArgs'. -/
def semArgsUptoCard : Claim7 := { stood := { row := semArgsUptoRow, standIns := [], harness := (true, "9fb4267fbbecec8ff968db5b91edca8b0a10b6f45185bdee984e12c64f386cf2"), looks := true }, kinds := [], alts := [], laidByText := true, laidKinds := [.handle], laidTests := true, laidLooks := .later }
def SemArgsUptoCardSaid : Prop := Claim7.holds Tryz.pinned (.plain (OpenSpec.upto semArgsSpec)) semArgsUptoCard

/-- THE SECOND FORM's CARD OF 'haruspexlaw14.SemMethod'. -/
def semMethodUptoCard : Claim7 := { stood := { row := semMethodUptoRow, standIns := [], harness := (true, "9fb4267fbbecec8ff968db5b91edca8b0a10b6f45185bdee984e12c64f386cf2"), looks := true }, kinds := [], alts := [], laidByText := true, laidKinds := [.handle], laidTests := true, laidLooks := .later }
def SemMethodUptoCardSaid : Prop := Claim7.holds Tryz.pinned (.plain (OpenSpec.upto semMethodSpec)) semMethodUptoCard

/-- THE SECOND FORM's CARD OF 'haruspexlaw14.SemWrong'. -/
def semWrongUptoCard : Claim7 := { stood := { row := semWrongUptoRow, standIns := [], harness := (true, "9fb4267fbbecec8ff968db5b91edca8b0a10b6f45185bdee984e12c64f386cf2"), looks := true }, kinds := [], alts := [], laidByText := true, laidKinds := [.handle], laidTests := true, laidLooks := .later }
def SemWrongUptoCardSaid : Prop := Claim7.holds Tryz.pinned (.plain (OpenSpec.upto semWrongSpec)) semWrongUptoCard

/-- THE SECOND FORM's CARD OF 'haruspexlaw14.SemSum'. -/
def semSumUptoCard : Claim7 := { stood := { row := semSumUptoRow, standIns := [], harness := (true, "9fb4267fbbecec8ff968db5b91edca8b0a10b6f45185bdee984e12c64f386cf2"), looks := true }, kinds := [], alts := [], laidByText := true, laidKinds := [.handle], laidTests := true, laidLooks := .later }
def SemSumUptoCardSaid : Prop := Claim7.holds Tryz.pinned (.plain (OpenSpec.upto semSumSpec)) semSumUptoCard

/-- THE SECOND FORM's CARD OF 'haruspexlaw14.SemDeep'. -/
def semDeepUptoCard : Claim7 := { stood := { row := semDeepUptoRow, standIns := [], harness := (true, "9fb4267fbbecec8ff968db5b91edca8b0a10b6f45185bdee984e12c64f386cf2"), looks := true }, kinds := [], alts := [], laidByText := true, laidKinds := [.handle], laidTests := true, laidLooks := .later }
def SemDeepUptoCardSaid : Prop := Claim7.holds Tryz.pinned (.plain (OpenSpec.upto semDeepSpec)) semDeepUptoCard

/-- THE SECOND FORM's CARD OF 'haruspexlaw14.SemOracle'. -/
def semOracleUptoCard : Claim7 := { stood := { row := semOracleUptoRow, standIns := [], harness := (true, "9fb4267fbbecec8ff968db5b91edca8b0a10b6f45185bdee984e12c64f386cf2"), looks := true }, kinds := [], alts := [], laidByText := true, laidKinds := [.handle], laidTests := true, laidLooks := .later }
def SemOracleUptoCardSaid : Prop := Claim7.holds Tryz.pinned (.plain (OpenSpec.upto semOracleSpec)) semOracleUptoCard

/-- THE SECOND FORM's CARD OF 'haruspexlaw14.SemOwn'. -/
def semOwnUptoCard : Claim7 := { stood := { row := semOwnUptoRow, standIns := [], harness := (true, "9fb4267fbbecec8ff968db5b91edca8b0a10b6f45185bdee984e12c64f386cf2"), looks := true }, kinds := [], alts := [], laidByText := true, laidKinds := [.handle], laidTests := true, laidLooks := .later }
def SemOwnUptoCardSaid : Prop := Claim7.holds Tryz.pinned (.plain (OpenSpec.upto semOwnSpec)) semOwnUptoCard

/-- THE SECOND FORM's CARD OF 'haruspexlaw14.SemTypes'. -/
def semTypesUptoCard : Claim7 := { stood := { row := semTypesUptoRow, standIns := [], harness := (true, "9fb4267fbbecec8ff968db5b91edca8b0a10b6f45185bdee984e12c64f386cf2"), looks := true }, kinds := [], alts := [], laidByText := true, laidKinds := [.handle], laidTests := true, laidLooks := .later }
def SemTypesUptoCardSaid : Prop := Claim7.holds Tryz.pinned (.plain (OpenSpec.upto semTypesSpec)) semTypesUptoCard

/-- THE SECOND FORM's CARD OF 'haruspexlaw14.SemRaw'. -/
def semRawUptoCard : Claim7 := { stood := { row := semRawUptoRow, standIns := [], harness := (true, "9fb4267fbbecec8ff968db5b91edca8b0a10b6f45185bdee984e12c64f386cf2"), looks := true }, kinds := [], alts := [], laidByText := true, laidKinds := [.handle], laidTests := true, laidLooks := .later }
def SemRawUptoCardSaid : Prop := Claim7.holds Tryz.pinned (.plain (OpenSpec.upto semRawSpec)) semRawUptoCard

/-- THE SECOND FORM's CARD OF 'haruspexlaw14.SemNone'. -/
def semNoneUptoCard : Claim7 := { stood := { row := semNoneUptoRow, standIns := [], harness := (true, "9fb4267fbbecec8ff968db5b91edca8b0a10b6f45185bdee984e12c64f386cf2"), looks := true }, kinds := [], alts := [], laidByText := true, laidKinds := [.handle], laidTests := true, laidLooks := .later }
def SemNoneUptoCardSaid : Prop := Claim7.holds Tryz.pinned (.plain (OpenSpec.upto semNoneSpec)) semNoneUptoCard

/-- THE SECOND FORM's CARD OF 'haruspexlaw14.SemSteps'. -/
def semStepsUptoCard : Claim7 := { stood := { row := semStepsUptoRow, standIns := [], harness := (true, "9fb4267fbbecec8ff968db5b91edca8b0a10b6f45185bdee984e12c64f386cf2"), looks := true }, kinds := [], alts := [], laidByText := true, laidKinds := [.handle], laidTests := true, laidLooks := .later }
def SemStepsUptoCardSaid : Prop := Claim7.holds Tryz.pinned (.plain (OpenSpec.upto semStepsSpec)) semStepsUptoCard
end Rows
end Go.Proofs.YtechgpjdlkjjoaaGreatDoor
