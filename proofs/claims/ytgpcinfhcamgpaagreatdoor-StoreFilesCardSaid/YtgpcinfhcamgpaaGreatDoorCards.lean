/-
  DERIVED. GIVEN WITH THE SEED: THE CARDS: each row of YtgpcinfhcamgpaaGreatDoorRows.lean that lists a variable, with what it lists TIED to the program's text (the seventh form; the later family's looks); each row that meets fmt, with fmt's text TOLD by the authors' own Lean function (tested against real Go, not proved from fmt's source: count such statements apart). THE CARD IS WHAT COUNTS. Prove the row's statement (the work); the ties are given (YtgpcinfhcamgpaaGreatDoorTie.lean); close each card by the builder's one call (the guide's Derived/Test/ToyasCard.lean, 'card_holds'). Laid BY PROGRAM, IN A SANDBOX (cutbox-door.mjs). By AI agents, Wed Nov 11 2026. No macro, syntax, notation, axiom, sorry.
-/
import Derived.Test.YtgpcinfhcamgpaaGreatDoorRows
import GoSem.ClaimSeven
namespace Go.Proofs.YtgpcinfhcamgpaaGreatDoor
namespace Rows

/-- THE TIED CARD OF 'pursuivantlaw23.StoreCodes'. -/
def storeCodesCard : Claim7 := { stood := { row := storeCodesRow, standIns := [], harness := (true, "f5066c5d77c56c64d3b814e16cc9183b959947d8ed4588667d1b445ddf206f78"), looks := false }, kinds := [], alts := [], laidByText := true, laidKinds := [.data, .data, .pinned], laidTests := true, laidLooks := .later }
def StoreCodesCardSaid : Prop := Claim7.holds Tryz.pinned (.plain (OpenSpec.ofChange storeCodesSpec)) storeCodesCard

/-- THE TIED CARD OF 'pursuivantlaw23.StoreSames'. -/
def storeSamesCard : Claim7 := { stood := { row := storeSamesRow, standIns := [], harness := (true, "f5066c5d77c56c64d3b814e16cc9183b959947d8ed4588667d1b445ddf206f78"), looks := false }, kinds := [], alts := [], laidByText := true, laidKinds := [.data, .data, .pinned], laidTests := true, laidLooks := .later }
def StoreSamesCardSaid : Prop := Claim7.holds Tryz.pinned (.plain (OpenSpec.ofChange storeSamesSpec)) storeSamesCard

/-- THE TIED CARD OF 'pursuivantlaw23.StoreNobody'. -/
def storeNobodyCard : Claim7 := { stood := { row := storeNobodyRow, standIns := [], harness := (true, "f5066c5d77c56c64d3b814e16cc9183b959947d8ed4588667d1b445ddf206f78"), looks := false }, kinds := [], alts := [], laidByText := true, laidKinds := [.data, .data, .pinned], laidTests := true, laidLooks := .later }
def StoreNobodyCardSaid : Prop := Claim7.holds Tryz.pinned (.plain (OpenSpec.ofChange storeNobodySpec)) storeNobodyCard

/-- THE TIED CARD OF 'pursuivantlaw23.StoreKeeps'. -/
def storeKeepsCard : Claim7 := { stood := { row := storeKeepsRow, standIns := [], harness := (true, "f5066c5d77c56c64d3b814e16cc9183b959947d8ed4588667d1b445ddf206f78"), looks := false }, kinds := [], alts := [], laidByText := true, laidKinds := [.data, .data, .pinned], laidTests := true, laidLooks := .later }
def StoreKeepsCardSaid : Prop := Claim7.holds Tryz.pinned (.plain (OpenSpec.ofChange storeKeepsSpec)) storeKeepsCard

/-- THE TIED CARD OF 'pursuivantlaw23.StoreFiles'. -/
def storeFilesCard : Claim7 := { stood := { row := storeFilesRow, standIns := [], harness := (true, "f5066c5d77c56c64d3b814e16cc9183b959947d8ed4588667d1b445ddf206f78"), looks := false }, kinds := [], alts := [], laidByText := true, laidKinds := [.data, .data, .pinned], laidTests := true, laidLooks := .later }
def StoreFilesCardSaid : Prop := Claim7.holds Tryz.pinned (.plain (OpenSpec.ofChange storeFilesSpec)) storeFilesCard

/-- THE SECOND FORM's CARD OF 'pursuivantlaw23.StoreCodes'. -/
def storeCodesUptoCard : Claim7 := { stood := { row := storeCodesUptoRow, standIns := [], harness := (true, "f5066c5d77c56c64d3b814e16cc9183b959947d8ed4588667d1b445ddf206f78"), looks := false }, kinds := [], alts := [], laidByText := true, laidKinds := [.data, .data, .pinned], laidTests := true, laidLooks := .later }
def StoreCodesUptoCardSaid : Prop := Claim7.holds Tryz.pinned (.plain (OpenSpec.upto storeCodesSpec)) storeCodesUptoCard

/-- THE SECOND FORM's CARD OF 'pursuivantlaw23.StoreSames'. -/
def storeSamesUptoCard : Claim7 := { stood := { row := storeSamesUptoRow, standIns := [], harness := (true, "f5066c5d77c56c64d3b814e16cc9183b959947d8ed4588667d1b445ddf206f78"), looks := false }, kinds := [], alts := [], laidByText := true, laidKinds := [.data, .data, .pinned], laidTests := true, laidLooks := .later }
def StoreSamesUptoCardSaid : Prop := Claim7.holds Tryz.pinned (.plain (OpenSpec.upto storeSamesSpec)) storeSamesUptoCard

/-- THE SECOND FORM's CARD OF 'pursuivantlaw23.StoreNobody'. -/
def storeNobodyUptoCard : Claim7 := { stood := { row := storeNobodyUptoRow, standIns := [], harness := (true, "f5066c5d77c56c64d3b814e16cc9183b959947d8ed4588667d1b445ddf206f78"), looks := false }, kinds := [], alts := [], laidByText := true, laidKinds := [.data, .data, .pinned], laidTests := true, laidLooks := .later }
def StoreNobodyUptoCardSaid : Prop := Claim7.holds Tryz.pinned (.plain (OpenSpec.upto storeNobodySpec)) storeNobodyUptoCard

/-- THE SECOND FORM's CARD OF 'pursuivantlaw23.StoreKeeps'. -/
def storeKeepsUptoCard : Claim7 := { stood := { row := storeKeepsUptoRow, standIns := [], harness := (true, "f5066c5d77c56c64d3b814e16cc9183b959947d8ed4588667d1b445ddf206f78"), looks := false }, kinds := [], alts := [], laidByText := true, laidKinds := [.data, .data, .pinned], laidTests := true, laidLooks := .later }
def StoreKeepsUptoCardSaid : Prop := Claim7.holds Tryz.pinned (.plain (OpenSpec.upto storeKeepsSpec)) storeKeepsUptoCard

/-- THE SECOND FORM's CARD OF 'pursuivantlaw23.StoreFiles'. -/
def storeFilesUptoCard : Claim7 := { stood := { row := storeFilesUptoRow, standIns := [], harness := (true, "f5066c5d77c56c64d3b814e16cc9183b959947d8ed4588667d1b445ddf206f78"), looks := false }, kinds := [], alts := [], laidByText := true, laidKinds := [.data, .data, .pinned], laidTests := true, laidLooks := .later }
def StoreFilesUptoCardSaid : Prop := Claim7.holds Tryz.pinned (.plain (OpenSpec.upto storeFilesSpec)) storeFilesUptoCard
end Rows
end Go.Proofs.YtgpcinfhcamgpaaGreatDoor
