/-
  DERIVED. GIVEN WITH THE SEED: THE CARDS: each row of YtcndkkagnobpmaaDoorRows.lean that lists a variable, with what it lists TIED to the program's text (the seventh form; the later family's looks); each row that meets fmt, with fmt's text TOLD by the authors' own Lean function (tested against real Go, not proved from fmt's source: count such statements apart). THE CARD IS WHAT COUNTS. Prove the row's statement (the work); the ties are given (YtcndkkagnobpmaaDoorTie.lean); close each card by the builder's one call (the guide's Derived/Test/ToyasCard.lean, 'card_holds'). Laid BY PROGRAM, IN A SANDBOX (cutbox-door.mjs). By AI agents, Wed Nov 11 2026. No macro, syntax, notation, axiom, sorry.
-/
import Derived.Test.YtcndkkagnobpmaaDoorRows
import GoSem.ClaimSeven
namespace Go.Proofs.YtcndkkagnobpmaaDoor
namespace Rows

/-- THE TIED CARD OF 'pursuivantlaw22.RecordNobody'. -/
def recordNobodyCard : Claim7 := { stood := { row := recordNobodyRow, standIns := [], harness := (true, "3425052c376c362da3f3b631ca22311a49db2778145360a86acf348d06584b96"), looks := false }, kinds := [], alts := [], laidByText := true, laidKinds := [.data], laidTests := true, laidLooks := .later }
def RecordNobodyCardSaid : Prop := Claim7.holds Tryd.pinned (.plain (OpenSpec.ofChange recordNobodySpec)) recordNobodyCard

/-- THE TIED CARD OF 'pursuivantlaw22.RecordCounts'. -/
def recordCountsCard : Claim7 := { stood := { row := recordCountsRow, standIns := [], harness := (true, "3425052c376c362da3f3b631ca22311a49db2778145360a86acf348d06584b96"), looks := false }, kinds := [], alts := [], laidByText := true, laidKinds := [.data], laidTests := true, laidLooks := .later }
def RecordCountsCardSaid : Prop := Claim7.holds Tryd.pinned (.plain (OpenSpec.ofChange recordCountsSpec)) recordCountsCard

/-- THE TIED CARD OF 'pursuivantlaw22.RecordKeeps'. -/
def recordKeepsCard : Claim7 := { stood := { row := recordKeepsRow, standIns := [], harness := (true, "3425052c376c362da3f3b631ca22311a49db2778145360a86acf348d06584b96"), looks := false }, kinds := [], alts := [], laidByText := true, laidKinds := [.data], laidTests := true, laidLooks := .later }
def RecordKeepsCardSaid : Prop := Claim7.holds Tryd.pinned (.plain (OpenSpec.ofChange recordKeepsSpec)) recordKeepsCard

/-- THE TIED CARD OF 'pursuivantlaw22.RecordAgain'. -/
def recordAgainCard : Claim7 := { stood := { row := recordAgainRow, standIns := [], harness := (true, "3425052c376c362da3f3b631ca22311a49db2778145360a86acf348d06584b96"), looks := false }, kinds := [], alts := [], laidByText := true, laidKinds := [.data], laidTests := true, laidLooks := .later }
def RecordAgainCardSaid : Prop := Claim7.holds Tryd.pinned (.plain (OpenSpec.ofChange recordAgainSpec)) recordAgainCard

/-- THE TIED CARD OF 'pursuivantlaw12.GlobMatches'. -/
def globMatchesCard : Claim7 := { stood := { row := globMatchesRow, standIns := [], harness := (true, "3425052c376c362da3f3b631ca22311a49db2778145360a86acf348d06584b96"), looks := false }, kinds := [], alts := [], laidByText := true, laidKinds := [.data, .data, .pinned], laidTests := true, laidLooks := .later }
def GlobMatchesCardSaid : Prop := Claim7.holds Tryd.pinned (.plain (OpenSpec.ofChange globMatchesSpec)) globMatchesCard

/-- THE TIED CARD OF 'pursuivantlaw12.GlobUnder'. -/
def globUnderCard : Claim7 := { stood := { row := globUnderRow, standIns := [], harness := (true, "3425052c376c362da3f3b631ca22311a49db2778145360a86acf348d06584b96"), looks := false }, kinds := [], alts := [], laidByText := true, laidKinds := [.data, .data, .pinned], laidTests := true, laidLooks := .later }
def GlobUnderCardSaid : Prop := Claim7.holds Tryd.pinned (.plain (OpenSpec.ofChange globUnderSpec)) globUnderCard

/-- THE SECOND FORM's CARD OF 'pursuivantlaw22.RecordNobody'. -/
def recordNobodyUptoCard : Claim7 := { stood := { row := recordNobodyUptoRow, standIns := [], harness := (true, "3425052c376c362da3f3b631ca22311a49db2778145360a86acf348d06584b96"), looks := false }, kinds := [], alts := [], laidByText := true, laidKinds := [.data], laidTests := true, laidLooks := .later }
def RecordNobodyUptoCardSaid : Prop := Claim7.holds Tryd.pinned (.plain (OpenSpec.upto recordNobodySpec)) recordNobodyUptoCard

/-- THE SECOND FORM's CARD OF 'pursuivantlaw22.RecordCounts'. -/
def recordCountsUptoCard : Claim7 := { stood := { row := recordCountsUptoRow, standIns := [], harness := (true, "3425052c376c362da3f3b631ca22311a49db2778145360a86acf348d06584b96"), looks := false }, kinds := [], alts := [], laidByText := true, laidKinds := [.data], laidTests := true, laidLooks := .later }
def RecordCountsUptoCardSaid : Prop := Claim7.holds Tryd.pinned (.plain (OpenSpec.upto recordCountsSpec)) recordCountsUptoCard

/-- THE SECOND FORM's CARD OF 'pursuivantlaw22.RecordKeeps'. -/
def recordKeepsUptoCard : Claim7 := { stood := { row := recordKeepsUptoRow, standIns := [], harness := (true, "3425052c376c362da3f3b631ca22311a49db2778145360a86acf348d06584b96"), looks := false }, kinds := [], alts := [], laidByText := true, laidKinds := [.data], laidTests := true, laidLooks := .later }
def RecordKeepsUptoCardSaid : Prop := Claim7.holds Tryd.pinned (.plain (OpenSpec.upto recordKeepsSpec)) recordKeepsUptoCard

/-- THE SECOND FORM's CARD OF 'pursuivantlaw22.RecordAgain'. -/
def recordAgainUptoCard : Claim7 := { stood := { row := recordAgainUptoRow, standIns := [], harness := (true, "3425052c376c362da3f3b631ca22311a49db2778145360a86acf348d06584b96"), looks := false }, kinds := [], alts := [], laidByText := true, laidKinds := [.data], laidTests := true, laidLooks := .later }
def RecordAgainUptoCardSaid : Prop := Claim7.holds Tryd.pinned (.plain (OpenSpec.upto recordAgainSpec)) recordAgainUptoCard

/-- THE SECOND FORM's CARD OF 'pursuivantlaw12.GlobMatches'. -/
def globMatchesUptoCard : Claim7 := { stood := { row := globMatchesUptoRow, standIns := [], harness := (true, "3425052c376c362da3f3b631ca22311a49db2778145360a86acf348d06584b96"), looks := false }, kinds := [], alts := [], laidByText := true, laidKinds := [.data, .data, .pinned], laidTests := true, laidLooks := .later }
def GlobMatchesUptoCardSaid : Prop := Claim7.holds Tryd.pinned (.plain (OpenSpec.upto globMatchesSpec)) globMatchesUptoCard

/-- THE SECOND FORM's CARD OF 'pursuivantlaw12.GlobUnder'. -/
def globUnderUptoCard : Claim7 := { stood := { row := globUnderUptoRow, standIns := [], harness := (true, "3425052c376c362da3f3b631ca22311a49db2778145360a86acf348d06584b96"), looks := false }, kinds := [], alts := [], laidByText := true, laidKinds := [.data, .data, .pinned], laidTests := true, laidLooks := .later }
def GlobUnderUptoCardSaid : Prop := Claim7.holds Tryd.pinned (.plain (OpenSpec.upto globUnderSpec)) globUnderUptoCard
end Rows
end Go.Proofs.YtcndkkagnobpmaaDoor
