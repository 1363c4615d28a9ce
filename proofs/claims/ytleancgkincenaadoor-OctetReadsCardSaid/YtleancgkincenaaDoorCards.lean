/-
  DERIVED. GIVEN WITH THE SEED: THE CARDS: each row of YtleancgkincenaaDoorRows.lean that lists a variable, with what it lists TIED to the program's text (the seventh form; the later family's looks); each row that meets fmt, with fmt's text TOLD by the authors' own Lean function (tested against real Go, not proved from fmt's source: count such statements apart). THE CARD IS WHAT COUNTS. Prove the row's statement (the work); the ties are given (YtleancgkincenaaDoorTie.lean); close each card by the builder's one call (the guide's Derived/Test/ToyasCard.lean, 'card_holds'). Laid BY PROGRAM, IN A SANDBOX (cutbox-door.mjs). By AI agents, Wed Nov 11 2026. No macro, syntax, notation, axiom, sorry.
-/
import Derived.Test.YtleancgkincenaaDoorRows
import GoSem.ClaimSeven
namespace Go.Proofs.YtleancgkincenaaDoor
namespace Rows

/-- THE TIED CARD OF 'pursuivantlaw22.RecordNobody'. -/
def recordNobodyCard : Claim7 := { stood := { row := recordNobodyRow, standIns := [], harness := (true, "8c0cb82aa5cf73fe761e72ccb7f777d4ee55a98126fa009417550bdc25c24099"), looks := false }, kinds := [], alts := [], laidByText := true, laidKinds := [.data], laidTests := true, laidLooks := .later }
def RecordNobodyCardSaid : Prop := Claim7.holds Tryd.pinned (.plain (OpenSpec.ofChange recordNobodySpec)) recordNobodyCard

/-- THE TIED CARD OF 'pursuivantlaw22.RecordCounts'. -/
def recordCountsCard : Claim7 := { stood := { row := recordCountsRow, standIns := [], harness := (true, "8c0cb82aa5cf73fe761e72ccb7f777d4ee55a98126fa009417550bdc25c24099"), looks := false }, kinds := [], alts := [], laidByText := true, laidKinds := [.data], laidTests := true, laidLooks := .later }
def RecordCountsCardSaid : Prop := Claim7.holds Tryd.pinned (.plain (OpenSpec.ofChange recordCountsSpec)) recordCountsCard

/-- THE TIED CARD OF 'pursuivantlaw01.OctetHexes'. -/
def octetHexesCard : Claim7 := { stood := { row := octetHexesRow, standIns := [], harness := (true, "8c0cb82aa5cf73fe761e72ccb7f777d4ee55a98126fa009417550bdc25c24099"), looks := false }, kinds := [], alts := [], laidByText := true, laidKinds := [.data, .pinned], laidTests := true, laidLooks := .later }
def OctetHexesCardSaid : Prop := Claim7.holds Tryd.pinned (.plain (OpenSpec.ofChange octetHexesSpec)) octetHexesCard

/-- THE TIED CARD OF 'pursuivantlaw01.OctetUnhexes'. -/
def octetUnhexesCard : Claim7 := { stood := { row := octetUnhexesRow, standIns := [], harness := (true, "8c0cb82aa5cf73fe761e72ccb7f777d4ee55a98126fa009417550bdc25c24099"), looks := false }, kinds := [], alts := [], laidByText := true, laidKinds := [.data, .pinned], laidTests := true, laidLooks := .later }
def OctetUnhexesCardSaid : Prop := Claim7.holds Tryd.pinned (.plain (OpenSpec.ofChange octetUnhexesSpec)) octetUnhexesCard

/-- THE TIED CARD OF 'pursuivantlaw01.OctetSames'. -/
def octetSamesCard : Claim7 := { stood := { row := octetSamesRow, standIns := [], harness := (true, "8c0cb82aa5cf73fe761e72ccb7f777d4ee55a98126fa009417550bdc25c24099"), looks := false }, kinds := [], alts := [], laidByText := true, laidKinds := [.data, .pinned], laidTests := true, laidLooks := .later }
def OctetSamesCardSaid : Prop := Claim7.holds Tryd.pinned (.plain (OpenSpec.ofChange octetSamesSpec)) octetSamesCard

/-- THE TIED CARD OF 'pursuivantlaw01.OctetPuts'. -/
def octetPutsCard : Claim7 := { stood := { row := octetPutsRow, standIns := [], harness := (true, "8c0cb82aa5cf73fe761e72ccb7f777d4ee55a98126fa009417550bdc25c24099"), looks := false }, kinds := [], alts := [], laidByText := true, laidKinds := [.data, .pinned], laidTests := true, laidLooks := .later }
def OctetPutsCardSaid : Prop := Claim7.holds Tryd.pinned (.plain (OpenSpec.ofChange octetPutsSpec)) octetPutsCard

/-- THE TIED CARD OF 'pursuivantlaw01.OctetReads'. -/
def octetReadsCard : Claim7 := { stood := { row := octetReadsRow, standIns := [], harness := (true, "8c0cb82aa5cf73fe761e72ccb7f777d4ee55a98126fa009417550bdc25c24099"), looks := false }, kinds := [], alts := [], laidByText := true, laidKinds := [.data, .pinned], laidTests := true, laidLooks := .later }
def OctetReadsCardSaid : Prop := Claim7.holds Tryd.pinned (.plain (OpenSpec.ofChange octetReadsSpec)) octetReadsCard

/-- THE TIED CARD OF 'pursuivantlaw01.OctetNobody'. -/
def octetNobodyCard : Claim7 := { stood := { row := octetNobodyRow, standIns := [], harness := (true, "8c0cb82aa5cf73fe761e72ccb7f777d4ee55a98126fa009417550bdc25c24099"), looks := false }, kinds := [], alts := [], laidByText := true, laidKinds := [.data, .pinned], laidTests := true, laidLooks := .later }
def OctetNobodyCardSaid : Prop := Claim7.holds Tryd.pinned (.plain (OpenSpec.ofChange octetNobodySpec)) octetNobodyCard

/-- THE TIED CARD OF 'pursuivantlaw01.OctetJoins'. -/
def octetJoinsCard : Claim7 := { stood := { row := octetJoinsRow, standIns := [], harness := (true, "8c0cb82aa5cf73fe761e72ccb7f777d4ee55a98126fa009417550bdc25c24099"), looks := false }, kinds := [], alts := [], laidByText := true, laidKinds := [.data, .pinned], laidTests := true, laidLooks := .later }
def OctetJoinsCardSaid : Prop := Claim7.holds Tryd.pinned (.plain (OpenSpec.ofChange octetJoinsSpec)) octetJoinsCard

/-- THE TIED CARD OF 'pursuivantlaw22.RecordKeeps'. -/
def recordKeepsCard : Claim7 := { stood := { row := recordKeepsRow, standIns := [], harness := (true, "8c0cb82aa5cf73fe761e72ccb7f777d4ee55a98126fa009417550bdc25c24099"), looks := false }, kinds := [], alts := [], laidByText := true, laidKinds := [.data], laidTests := true, laidLooks := .later }
def RecordKeepsCardSaid : Prop := Claim7.holds Tryd.pinned (.plain (OpenSpec.ofChange recordKeepsSpec)) recordKeepsCard

/-- THE TIED CARD OF 'pursuivantlaw22.RecordAgain'. -/
def recordAgainCard : Claim7 := { stood := { row := recordAgainRow, standIns := [], harness := (true, "8c0cb82aa5cf73fe761e72ccb7f777d4ee55a98126fa009417550bdc25c24099"), looks := false }, kinds := [], alts := [], laidByText := true, laidKinds := [.data], laidTests := true, laidLooks := .later }
def RecordAgainCardSaid : Prop := Claim7.holds Tryd.pinned (.plain (OpenSpec.ofChange recordAgainSpec)) recordAgainCard

/-- THE SECOND FORM's CARD OF 'pursuivantlaw22.RecordNobody'. -/
def recordNobodyUptoCard : Claim7 := { stood := { row := recordNobodyUptoRow, standIns := [], harness := (true, "8c0cb82aa5cf73fe761e72ccb7f777d4ee55a98126fa009417550bdc25c24099"), looks := false }, kinds := [], alts := [], laidByText := true, laidKinds := [.data], laidTests := true, laidLooks := .later }
def RecordNobodyUptoCardSaid : Prop := Claim7.holds Tryd.pinned (.plain (OpenSpec.upto recordNobodySpec)) recordNobodyUptoCard

/-- THE SECOND FORM's CARD OF 'pursuivantlaw22.RecordCounts'. -/
def recordCountsUptoCard : Claim7 := { stood := { row := recordCountsUptoRow, standIns := [], harness := (true, "8c0cb82aa5cf73fe761e72ccb7f777d4ee55a98126fa009417550bdc25c24099"), looks := false }, kinds := [], alts := [], laidByText := true, laidKinds := [.data], laidTests := true, laidLooks := .later }
def RecordCountsUptoCardSaid : Prop := Claim7.holds Tryd.pinned (.plain (OpenSpec.upto recordCountsSpec)) recordCountsUptoCard

/-- THE SECOND FORM's CARD OF 'pursuivantlaw01.OctetHexes'. -/
def octetHexesUptoCard : Claim7 := { stood := { row := octetHexesUptoRow, standIns := [], harness := (true, "8c0cb82aa5cf73fe761e72ccb7f777d4ee55a98126fa009417550bdc25c24099"), looks := false }, kinds := [], alts := [], laidByText := true, laidKinds := [.data, .pinned], laidTests := true, laidLooks := .later }
def OctetHexesUptoCardSaid : Prop := Claim7.holds Tryd.pinned (.plain (OpenSpec.upto octetHexesSpec)) octetHexesUptoCard

/-- THE SECOND FORM's CARD OF 'pursuivantlaw01.OctetUnhexes'. -/
def octetUnhexesUptoCard : Claim7 := { stood := { row := octetUnhexesUptoRow, standIns := [], harness := (true, "8c0cb82aa5cf73fe761e72ccb7f777d4ee55a98126fa009417550bdc25c24099"), looks := false }, kinds := [], alts := [], laidByText := true, laidKinds := [.data, .pinned], laidTests := true, laidLooks := .later }
def OctetUnhexesUptoCardSaid : Prop := Claim7.holds Tryd.pinned (.plain (OpenSpec.upto octetUnhexesSpec)) octetUnhexesUptoCard

/-- THE SECOND FORM's CARD OF 'pursuivantlaw01.OctetSames'. -/
def octetSamesUptoCard : Claim7 := { stood := { row := octetSamesUptoRow, standIns := [], harness := (true, "8c0cb82aa5cf73fe761e72ccb7f777d4ee55a98126fa009417550bdc25c24099"), looks := false }, kinds := [], alts := [], laidByText := true, laidKinds := [.data, .pinned], laidTests := true, laidLooks := .later }
def OctetSamesUptoCardSaid : Prop := Claim7.holds Tryd.pinned (.plain (OpenSpec.upto octetSamesSpec)) octetSamesUptoCard

/-- THE SECOND FORM's CARD OF 'pursuivantlaw01.OctetPuts'. -/
def octetPutsUptoCard : Claim7 := { stood := { row := octetPutsUptoRow, standIns := [], harness := (true, "8c0cb82aa5cf73fe761e72ccb7f777d4ee55a98126fa009417550bdc25c24099"), looks := false }, kinds := [], alts := [], laidByText := true, laidKinds := [.data, .pinned], laidTests := true, laidLooks := .later }
def OctetPutsUptoCardSaid : Prop := Claim7.holds Tryd.pinned (.plain (OpenSpec.upto octetPutsSpec)) octetPutsUptoCard

/-- THE SECOND FORM's CARD OF 'pursuivantlaw01.OctetReads'. -/
def octetReadsUptoCard : Claim7 := { stood := { row := octetReadsUptoRow, standIns := [], harness := (true, "8c0cb82aa5cf73fe761e72ccb7f777d4ee55a98126fa009417550bdc25c24099"), looks := false }, kinds := [], alts := [], laidByText := true, laidKinds := [.data, .pinned], laidTests := true, laidLooks := .later }
def OctetReadsUptoCardSaid : Prop := Claim7.holds Tryd.pinned (.plain (OpenSpec.upto octetReadsSpec)) octetReadsUptoCard

/-- THE SECOND FORM's CARD OF 'pursuivantlaw01.OctetNobody'. -/
def octetNobodyUptoCard : Claim7 := { stood := { row := octetNobodyUptoRow, standIns := [], harness := (true, "8c0cb82aa5cf73fe761e72ccb7f777d4ee55a98126fa009417550bdc25c24099"), looks := false }, kinds := [], alts := [], laidByText := true, laidKinds := [.data, .pinned], laidTests := true, laidLooks := .later }
def OctetNobodyUptoCardSaid : Prop := Claim7.holds Tryd.pinned (.plain (OpenSpec.upto octetNobodySpec)) octetNobodyUptoCard

/-- THE SECOND FORM's CARD OF 'pursuivantlaw01.OctetJoins'. -/
def octetJoinsUptoCard : Claim7 := { stood := { row := octetJoinsUptoRow, standIns := [], harness := (true, "8c0cb82aa5cf73fe761e72ccb7f777d4ee55a98126fa009417550bdc25c24099"), looks := false }, kinds := [], alts := [], laidByText := true, laidKinds := [.data, .pinned], laidTests := true, laidLooks := .later }
def OctetJoinsUptoCardSaid : Prop := Claim7.holds Tryd.pinned (.plain (OpenSpec.upto octetJoinsSpec)) octetJoinsUptoCard

/-- THE SECOND FORM's CARD OF 'pursuivantlaw22.RecordKeeps'. -/
def recordKeepsUptoCard : Claim7 := { stood := { row := recordKeepsUptoRow, standIns := [], harness := (true, "8c0cb82aa5cf73fe761e72ccb7f777d4ee55a98126fa009417550bdc25c24099"), looks := false }, kinds := [], alts := [], laidByText := true, laidKinds := [.data], laidTests := true, laidLooks := .later }
def RecordKeepsUptoCardSaid : Prop := Claim7.holds Tryd.pinned (.plain (OpenSpec.upto recordKeepsSpec)) recordKeepsUptoCard

/-- THE SECOND FORM's CARD OF 'pursuivantlaw22.RecordAgain'. -/
def recordAgainUptoCard : Claim7 := { stood := { row := recordAgainUptoRow, standIns := [], harness := (true, "8c0cb82aa5cf73fe761e72ccb7f777d4ee55a98126fa009417550bdc25c24099"), looks := false }, kinds := [], alts := [], laidByText := true, laidKinds := [.data], laidTests := true, laidLooks := .later }
def RecordAgainUptoCardSaid : Prop := Claim7.holds Tryd.pinned (.plain (OpenSpec.upto recordAgainSpec)) recordAgainUptoCard
end Rows
end Go.Proofs.YtleancgkincenaaDoor
