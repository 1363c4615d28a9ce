/-
  DERIVED. GIVEN WITH THE SEED: THE CARDS: each row of YtonjnonpajkmlaaDoorRows.lean that lists a variable, with what it lists TIED to the program's text (the seventh form; the later family's looks); each row that meets fmt, with fmt's text TOLD by the authors' own Lean function (tested against real Go, not proved from fmt's source: count such statements apart). THE CARD IS WHAT COUNTS. Prove the row's statement (the work); the ties are given (YtonjnonpajkmlaaDoorTie.lean); close each card by the builder's one call (the guide's Derived/Test/ToyasCard.lean, 'card_holds'). Laid BY PROGRAM, IN A SANDBOX (cutbox-door.mjs). By AI agents, Wed Nov 11 2026. No macro, syntax, notation, axiom, sorry.
-/
import Derived.Test.YtonjnonpajkmlaaDoorRows
import GoSem.ClaimSeven
namespace Go.Proofs.YtonjnonpajkmlaaDoor
namespace Rows

/-- THE TIED CARD OF 'pursuivantlaw03.UtfNexts'. -/
def utfNextsCard : Claim7 := { stood := { row := utfNextsRow, standIns := [], harness := (true, "17a941b81b684f36e47fd34b28dc7f2a06c29629b89abd4d0c9f8e8aad60b63b"), looks := false }, kinds := [], alts := [], laidByText := true, laidKinds := [.data, .pinned, .pinned], laidTests := true, laidLooks := .later }
def UtfNextsCardSaid : Prop := Claim7.holds Tryd.pinned (.plain (OpenSpec.ofChange utfNextsSpec)) utfNextsCard

/-- THE TIED CARD OF 'pursuivantlaw03.UtfEncodes'. -/
def utfEncodesCard : Claim7 := { stood := { row := utfEncodesRow, standIns := [], harness := (true, "17a941b81b684f36e47fd34b28dc7f2a06c29629b89abd4d0c9f8e8aad60b63b"), looks := false }, kinds := [], alts := [], laidByText := true, laidKinds := [.data, .pinned, .pinned], laidTests := true, laidLooks := .later }
def UtfEncodesCardSaid : Prop := Claim7.holds Tryd.pinned (.plain (OpenSpec.ofChange utfEncodesSpec)) utfEncodesCard

/-- THE TIED CARD OF 'pursuivantlaw03.UtfQuotes'. -/
def utfQuotesCard : Claim7 := { stood := { row := utfQuotesRow, standIns := [], harness := (true, "17a941b81b684f36e47fd34b28dc7f2a06c29629b89abd4d0c9f8e8aad60b63b"), looks := false }, kinds := [], alts := [], laidByText := true, laidKinds := [.data, .pinned, .pinned], laidTests := true, laidLooks := .later }
def UtfQuotesCardSaid : Prop := Claim7.holds Tryd.pinned (.plain (OpenSpec.ofChange utfQuotesSpec)) utfQuotesCard

/-- THE TIED CARD OF 'pursuivantlaw03.UtfJoins'. -/
def utfJoinsCard : Claim7 := { stood := { row := utfJoinsRow, standIns := [], harness := (true, "17a941b81b684f36e47fd34b28dc7f2a06c29629b89abd4d0c9f8e8aad60b63b"), looks := false }, kinds := [], alts := [], laidByText := true, laidKinds := [.data, .pinned, .pinned], laidTests := true, laidLooks := .later }
def UtfJoinsCardSaid : Prop := Claim7.holds Tryd.pinned (.plain (OpenSpec.ofChange utfJoinsSpec)) utfJoinsCard

/-- THE TIED CARD OF 'pursuivantlaw03.UtfEscapes'. -/
def utfEscapesCard : Claim7 := { stood := { row := utfEscapesRow, standIns := [], harness := (true, "17a941b81b684f36e47fd34b28dc7f2a06c29629b89abd4d0c9f8e8aad60b63b"), looks := false }, kinds := [], alts := [], laidByText := true, laidKinds := [.data, .pinned, .pinned], laidTests := true, laidLooks := .later }
def UtfEscapesCardSaid : Prop := Claim7.holds Tryd.pinned (.plain (OpenSpec.ofChange utfEscapesSpec)) utfEscapesCard

/-- THE SECOND FORM's CARD OF 'pursuivantlaw03.UtfNexts'. -/
def utfNextsUptoCard : Claim7 := { stood := { row := utfNextsUptoRow, standIns := [], harness := (true, "17a941b81b684f36e47fd34b28dc7f2a06c29629b89abd4d0c9f8e8aad60b63b"), looks := false }, kinds := [], alts := [], laidByText := true, laidKinds := [.data, .pinned, .pinned], laidTests := true, laidLooks := .later }
def UtfNextsUptoCardSaid : Prop := Claim7.holds Tryd.pinned (.plain (OpenSpec.upto utfNextsSpec)) utfNextsUptoCard

/-- THE SECOND FORM's CARD OF 'pursuivantlaw03.UtfEncodes'. -/
def utfEncodesUptoCard : Claim7 := { stood := { row := utfEncodesUptoRow, standIns := [], harness := (true, "17a941b81b684f36e47fd34b28dc7f2a06c29629b89abd4d0c9f8e8aad60b63b"), looks := false }, kinds := [], alts := [], laidByText := true, laidKinds := [.data, .pinned, .pinned], laidTests := true, laidLooks := .later }
def UtfEncodesUptoCardSaid : Prop := Claim7.holds Tryd.pinned (.plain (OpenSpec.upto utfEncodesSpec)) utfEncodesUptoCard

/-- THE SECOND FORM's CARD OF 'pursuivantlaw03.UtfQuotes'. -/
def utfQuotesUptoCard : Claim7 := { stood := { row := utfQuotesUptoRow, standIns := [], harness := (true, "17a941b81b684f36e47fd34b28dc7f2a06c29629b89abd4d0c9f8e8aad60b63b"), looks := false }, kinds := [], alts := [], laidByText := true, laidKinds := [.data, .pinned, .pinned], laidTests := true, laidLooks := .later }
def UtfQuotesUptoCardSaid : Prop := Claim7.holds Tryd.pinned (.plain (OpenSpec.upto utfQuotesSpec)) utfQuotesUptoCard

/-- THE SECOND FORM's CARD OF 'pursuivantlaw03.UtfJoins'. -/
def utfJoinsUptoCard : Claim7 := { stood := { row := utfJoinsUptoRow, standIns := [], harness := (true, "17a941b81b684f36e47fd34b28dc7f2a06c29629b89abd4d0c9f8e8aad60b63b"), looks := false }, kinds := [], alts := [], laidByText := true, laidKinds := [.data, .pinned, .pinned], laidTests := true, laidLooks := .later }
def UtfJoinsUptoCardSaid : Prop := Claim7.holds Tryd.pinned (.plain (OpenSpec.upto utfJoinsSpec)) utfJoinsUptoCard

/-- THE SECOND FORM's CARD OF 'pursuivantlaw03.UtfEscapes'. -/
def utfEscapesUptoCard : Claim7 := { stood := { row := utfEscapesUptoRow, standIns := [], harness := (true, "17a941b81b684f36e47fd34b28dc7f2a06c29629b89abd4d0c9f8e8aad60b63b"), looks := false }, kinds := [], alts := [], laidByText := true, laidKinds := [.data, .pinned, .pinned], laidTests := true, laidLooks := .later }
def UtfEscapesUptoCardSaid : Prop := Claim7.holds Tryd.pinned (.plain (OpenSpec.upto utfEscapesSpec)) utfEscapesUptoCard
end Rows
end Go.Proofs.YtonjnonpajkmlaaDoor
