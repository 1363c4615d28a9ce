/-
  DERIVED. GIVEN WITH THE SEED: THE CARDS: each row of YtahcajhacfnffaaDoorRows.lean that lists a variable, with what it lists TIED to the program's text (the seventh form; the later family's looks); each row that meets fmt, with fmt's text TOLD by the authors' own Lean function (tested against real Go, not proved from fmt's source: count such statements apart). THE CARD IS WHAT COUNTS. Prove the row's statement (the work); the ties are given (YtahcajhacfnffaaDoorTie.lean); close each card by the builder's one call (the guide's Derived/Test/ToyasCard.lean, 'card_holds'). Laid BY PROGRAM, IN A SANDBOX (cutbox-door.mjs). By AI agents, Wed Nov 11 2026. No macro, syntax, notation, axiom, sorry.
-/
import Derived.Test.YtahcajhacfnffaaDoorRows
import GoSem.ClaimSeven
namespace Go.Proofs.YtahcajhacfnffaaDoor
namespace Rows

/-- THE TIED CARD OF 'pursuivantlaw10.DateCivils'. -/
def dateCivilsCard : Claim7 := { stood := { row := dateCivilsRow, standIns := [], harness := (true, "cc00ad6712414225c2e7de9879ddd641554bb6aae9da240b1ee8bb9cfa66d1e8"), looks := false }, kinds := [], alts := [], laidByText := true, laidKinds := [.data, .data, .data], laidTests := true, laidLooks := .later }
def DateCivilsCardSaid : Prop := Claim7.holds Tryd.pinned (.plain (OpenSpec.ofChange dateCivilsSpec)) dateCivilsCard

/-- THE TIED CARD OF 'pursuivantlaw10.DateTimes'. -/
def dateTimesCard : Claim7 := { stood := { row := dateTimesRow, standIns := [], harness := (true, "cc00ad6712414225c2e7de9879ddd641554bb6aae9da240b1ee8bb9cfa66d1e8"), looks := false }, kinds := [], alts := [], laidByText := true, laidKinds := [.data, .data, .data], laidTests := true, laidLooks := .later }
def DateTimesCardSaid : Prop := Claim7.holds Tryd.pinned (.plain (OpenSpec.ofChange dateTimesSpec)) dateTimesCard

/-- THE TIED CARD OF 'pursuivantlaw10.DateParses'. -/
def dateParsesCard : Claim7 := { stood := { row := dateParsesRow, standIns := [], harness := (true, "cc00ad6712414225c2e7de9879ddd641554bb6aae9da240b1ee8bb9cfa66d1e8"), looks := false }, kinds := [], alts := [], laidByText := true, laidKinds := [.data, .data, .data], laidTests := true, laidLooks := .later }
def DateParsesCardSaid : Prop := Claim7.holds Tryd.pinned (.plain (OpenSpec.ofChange dateParsesSpec)) dateParsesCard

/-- THE TIED CARD OF 'pursuivantlaw10.DateOrders'. -/
def dateOrdersCard : Claim7 := { stood := { row := dateOrdersRow, standIns := [], harness := (true, "cc00ad6712414225c2e7de9879ddd641554bb6aae9da240b1ee8bb9cfa66d1e8"), looks := false }, kinds := [], alts := [], laidByText := true, laidKinds := [.data, .data, .data], laidTests := true, laidLooks := .later }
def DateOrdersCardSaid : Prop := Claim7.holds Tryd.pinned (.plain (OpenSpec.ofChange dateOrdersSpec)) dateOrdersCard

/-- THE TIED CARD OF 'pursuivantlaw10.DateDays'. -/
def dateDaysCard : Claim7 := { stood := { row := dateDaysRow, standIns := [], harness := (true, "cc00ad6712414225c2e7de9879ddd641554bb6aae9da240b1ee8bb9cfa66d1e8"), looks := false }, kinds := [], alts := [], laidByText := true, laidKinds := [.data, .data, .data], laidTests := true, laidLooks := .later }
def DateDaysCardSaid : Prop := Claim7.holds Tryd.pinned (.plain (OpenSpec.ofChange dateDaysSpec)) dateDaysCard

/-- THE TIED CARD OF 'pursuivantlaw10.DateShifts'. -/
def dateShiftsCard : Claim7 := { stood := { row := dateShiftsRow, standIns := [], harness := (true, "cc00ad6712414225c2e7de9879ddd641554bb6aae9da240b1ee8bb9cfa66d1e8"), looks := false }, kinds := [], alts := [], laidByText := true, laidKinds := [.data, .data, .data], laidTests := true, laidLooks := .later }
def DateShiftsCardSaid : Prop := Claim7.holds Tryd.pinned (.plain (OpenSpec.ofChange dateShiftsSpec)) dateShiftsCard

/-- THE TIED CARD OF 'pursuivantlaw10.DateBack'. -/
def dateBackCard : Claim7 := { stood := { row := dateBackRow, standIns := [], harness := (true, "cc00ad6712414225c2e7de9879ddd641554bb6aae9da240b1ee8bb9cfa66d1e8"), looks := false }, kinds := [], alts := [], laidByText := true, laidKinds := [.data, .data, .data], laidTests := true, laidLooks := .later }
def DateBackCardSaid : Prop := Claim7.holds Tryd.pinned (.plain (OpenSpec.ofChange dateBackSpec)) dateBackCard

/-- THE TIED CARD OF 'pursuivantlaw10.DateMonths'. -/
def dateMonthsCard : Claim7 := { stood := { row := dateMonthsRow, standIns := [], harness := (true, "cc00ad6712414225c2e7de9879ddd641554bb6aae9da240b1ee8bb9cfa66d1e8"), looks := false }, kinds := [], alts := [], laidByText := true, laidKinds := [.data, .data, .data], laidTests := true, laidLooks := .later }
def DateMonthsCardSaid : Prop := Claim7.holds Tryd.pinned (.plain (OpenSpec.ofChange dateMonthsSpec)) dateMonthsCard

/-- THE SECOND FORM's CARD OF 'pursuivantlaw10.DateCivils'. -/
def dateCivilsUptoCard : Claim7 := { stood := { row := dateCivilsUptoRow, standIns := [], harness := (true, "cc00ad6712414225c2e7de9879ddd641554bb6aae9da240b1ee8bb9cfa66d1e8"), looks := false }, kinds := [], alts := [], laidByText := true, laidKinds := [.data, .data, .data], laidTests := true, laidLooks := .later }
def DateCivilsUptoCardSaid : Prop := Claim7.holds Tryd.pinned (.plain (OpenSpec.upto dateCivilsSpec)) dateCivilsUptoCard

/-- THE SECOND FORM's CARD OF 'pursuivantlaw10.DateTimes'. -/
def dateTimesUptoCard : Claim7 := { stood := { row := dateTimesUptoRow, standIns := [], harness := (true, "cc00ad6712414225c2e7de9879ddd641554bb6aae9da240b1ee8bb9cfa66d1e8"), looks := false }, kinds := [], alts := [], laidByText := true, laidKinds := [.data, .data, .data], laidTests := true, laidLooks := .later }
def DateTimesUptoCardSaid : Prop := Claim7.holds Tryd.pinned (.plain (OpenSpec.upto dateTimesSpec)) dateTimesUptoCard

/-- THE SECOND FORM's CARD OF 'pursuivantlaw10.DateParses'. -/
def dateParsesUptoCard : Claim7 := { stood := { row := dateParsesUptoRow, standIns := [], harness := (true, "cc00ad6712414225c2e7de9879ddd641554bb6aae9da240b1ee8bb9cfa66d1e8"), looks := false }, kinds := [], alts := [], laidByText := true, laidKinds := [.data, .data, .data], laidTests := true, laidLooks := .later }
def DateParsesUptoCardSaid : Prop := Claim7.holds Tryd.pinned (.plain (OpenSpec.upto dateParsesSpec)) dateParsesUptoCard

/-- THE SECOND FORM's CARD OF 'pursuivantlaw10.DateOrders'. -/
def dateOrdersUptoCard : Claim7 := { stood := { row := dateOrdersUptoRow, standIns := [], harness := (true, "cc00ad6712414225c2e7de9879ddd641554bb6aae9da240b1ee8bb9cfa66d1e8"), looks := false }, kinds := [], alts := [], laidByText := true, laidKinds := [.data, .data, .data], laidTests := true, laidLooks := .later }
def DateOrdersUptoCardSaid : Prop := Claim7.holds Tryd.pinned (.plain (OpenSpec.upto dateOrdersSpec)) dateOrdersUptoCard

/-- THE SECOND FORM's CARD OF 'pursuivantlaw10.DateDays'. -/
def dateDaysUptoCard : Claim7 := { stood := { row := dateDaysUptoRow, standIns := [], harness := (true, "cc00ad6712414225c2e7de9879ddd641554bb6aae9da240b1ee8bb9cfa66d1e8"), looks := false }, kinds := [], alts := [], laidByText := true, laidKinds := [.data, .data, .data], laidTests := true, laidLooks := .later }
def DateDaysUptoCardSaid : Prop := Claim7.holds Tryd.pinned (.plain (OpenSpec.upto dateDaysSpec)) dateDaysUptoCard

/-- THE SECOND FORM's CARD OF 'pursuivantlaw10.DateShifts'. -/
def dateShiftsUptoCard : Claim7 := { stood := { row := dateShiftsUptoRow, standIns := [], harness := (true, "cc00ad6712414225c2e7de9879ddd641554bb6aae9da240b1ee8bb9cfa66d1e8"), looks := false }, kinds := [], alts := [], laidByText := true, laidKinds := [.data, .data, .data], laidTests := true, laidLooks := .later }
def DateShiftsUptoCardSaid : Prop := Claim7.holds Tryd.pinned (.plain (OpenSpec.upto dateShiftsSpec)) dateShiftsUptoCard

/-- THE SECOND FORM's CARD OF 'pursuivantlaw10.DateBack'. -/
def dateBackUptoCard : Claim7 := { stood := { row := dateBackUptoRow, standIns := [], harness := (true, "cc00ad6712414225c2e7de9879ddd641554bb6aae9da240b1ee8bb9cfa66d1e8"), looks := false }, kinds := [], alts := [], laidByText := true, laidKinds := [.data, .data, .data], laidTests := true, laidLooks := .later }
def DateBackUptoCardSaid : Prop := Claim7.holds Tryd.pinned (.plain (OpenSpec.upto dateBackSpec)) dateBackUptoCard

/-- THE SECOND FORM's CARD OF 'pursuivantlaw10.DateMonths'. -/
def dateMonthsUptoCard : Claim7 := { stood := { row := dateMonthsUptoRow, standIns := [], harness := (true, "cc00ad6712414225c2e7de9879ddd641554bb6aae9da240b1ee8bb9cfa66d1e8"), looks := false }, kinds := [], alts := [], laidByText := true, laidKinds := [.data, .data, .data], laidTests := true, laidLooks := .later }
def DateMonthsUptoCardSaid : Prop := Claim7.holds Tryd.pinned (.plain (OpenSpec.upto dateMonthsSpec)) dateMonthsUptoCard
end Rows
end Go.Proofs.YtahcajhacfnffaaDoor
