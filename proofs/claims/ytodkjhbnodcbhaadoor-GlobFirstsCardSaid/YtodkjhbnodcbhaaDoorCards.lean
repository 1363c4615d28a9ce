/-
  DERIVED. GIVEN WITH THE SEED: THE CARDS: each row of YtodkjhbnodcbhaaDoorRows.lean that lists a variable, with what it lists TIED to the program's text (the seventh form; the later family's looks); each row that meets fmt, with fmt's text TOLD by the authors' own Lean function (tested against real Go, not proved from fmt's source: count such statements apart). THE CARD IS WHAT COUNTS. Prove the row's statement (the work); the ties are given (YtodkjhbnodcbhaaDoorTie.lean); close each card by the builder's one call (the guide's Derived/Test/ToyasCard.lean, 'card_holds'). Laid BY PROGRAM, IN A SANDBOX (cutbox-door.mjs). By AI agents, Wed Nov 11 2026. No macro, syntax, notation, axiom, sorry.
-/
import Derived.Test.YtodkjhbnodcbhaaDoorRows
import GoSem.ClaimSeven
namespace Go.Proofs.YtodkjhbnodcbhaaDoor
namespace Rows

/-- THE TIED CARD OF 'pursuivantlaw12.GlobNames'. -/
def globNamesCard : Claim7 := { stood := { row := globNamesRow, standIns := [], harness := (true, "cf9c1bb32e9a22c894c2e305cbf2dc3f40becc8f4de8413e5000c272dae76367"), looks := false }, kinds := [], alts := [], laidByText := true, laidKinds := [.data, .pinned], laidTests := true, laidLooks := .later }
def GlobNamesCardSaid : Prop := Claim7.holds Tryd.pinned (.plain (OpenSpec.ofChange globNamesSpec)) globNamesCard

/-- THE TIED CARD OF 'pursuivantlaw12.GlobItself'. -/
def globItselfCard : Claim7 := { stood := { row := globItselfRow, standIns := [], harness := (true, "cf9c1bb32e9a22c894c2e305cbf2dc3f40becc8f4de8413e5000c272dae76367"), looks := false }, kinds := [], alts := [], laidByText := true, laidKinds := [.data, .pinned], laidTests := true, laidLooks := .later }
def GlobItselfCardSaid : Prop := Claim7.holds Tryd.pinned (.plain (OpenSpec.ofChange globItselfSpec)) globItselfCard

/-- THE TIED CARD OF 'pursuivantlaw12.GlobWider'. -/
def globWiderCard : Claim7 := { stood := { row := globWiderRow, standIns := [], harness := (true, "cf9c1bb32e9a22c894c2e305cbf2dc3f40becc8f4de8413e5000c272dae76367"), looks := false }, kinds := [], alts := [], laidByText := true, laidKinds := [.data, .pinned], laidTests := true, laidLooks := .later }
def GlobWiderCardSaid : Prop := Claim7.holds Tryd.pinned (.plain (OpenSpec.ofChange globWiderSpec)) globWiderCard

/-- THE TIED CARD OF 'pursuivantlaw12.GlobOverlaps'. -/
def globOverlapsCard : Claim7 := { stood := { row := globOverlapsRow, standIns := [], harness := (true, "cf9c1bb32e9a22c894c2e305cbf2dc3f40becc8f4de8413e5000c272dae76367"), looks := false }, kinds := [], alts := [], laidByText := true, laidKinds := [.data, .pinned], laidTests := true, laidLooks := .later }
def GlobOverlapsCardSaid : Prop := Claim7.holds Tryd.pinned (.plain (OpenSpec.ofChange globOverlapsSpec)) globOverlapsCard

/-- THE TIED CARD OF 'pursuivantlaw12.GlobMeets'. -/
def globMeetsCard : Claim7 := { stood := { row := globMeetsRow, standIns := [], harness := (true, "cf9c1bb32e9a22c894c2e305cbf2dc3f40becc8f4de8413e5000c272dae76367"), looks := false }, kinds := [], alts := [], laidByText := true, laidKinds := [.data, .pinned], laidTests := true, laidLooks := .later }
def GlobMeetsCardSaid : Prop := Claim7.holds Tryd.pinned (.plain (OpenSpec.ofChange globMeetsSpec)) globMeetsCard

/-- THE TIED CARD OF 'pursuivantlaw12.GlobFirsts'. -/
def globFirstsCard : Claim7 := { stood := { row := globFirstsRow, standIns := [], harness := (true, "cf9c1bb32e9a22c894c2e305cbf2dc3f40becc8f4de8413e5000c272dae76367"), looks := false }, kinds := [], alts := [], laidByText := true, laidKinds := [.data, .pinned], laidTests := true, laidLooks := .later }
def GlobFirstsCardSaid : Prop := Claim7.holds Tryd.pinned (.plain (OpenSpec.ofChange globFirstsSpec)) globFirstsCard

/-- THE SECOND FORM's CARD OF 'pursuivantlaw12.GlobNames'. -/
def globNamesUptoCard : Claim7 := { stood := { row := globNamesUptoRow, standIns := [], harness := (true, "cf9c1bb32e9a22c894c2e305cbf2dc3f40becc8f4de8413e5000c272dae76367"), looks := false }, kinds := [], alts := [], laidByText := true, laidKinds := [.data, .pinned], laidTests := true, laidLooks := .later }
def GlobNamesUptoCardSaid : Prop := Claim7.holds Tryd.pinned (.plain (OpenSpec.upto globNamesSpec)) globNamesUptoCard

/-- THE SECOND FORM's CARD OF 'pursuivantlaw12.GlobItself'. -/
def globItselfUptoCard : Claim7 := { stood := { row := globItselfUptoRow, standIns := [], harness := (true, "cf9c1bb32e9a22c894c2e305cbf2dc3f40becc8f4de8413e5000c272dae76367"), looks := false }, kinds := [], alts := [], laidByText := true, laidKinds := [.data, .pinned], laidTests := true, laidLooks := .later }
def GlobItselfUptoCardSaid : Prop := Claim7.holds Tryd.pinned (.plain (OpenSpec.upto globItselfSpec)) globItselfUptoCard

/-- THE SECOND FORM's CARD OF 'pursuivantlaw12.GlobWider'. -/
def globWiderUptoCard : Claim7 := { stood := { row := globWiderUptoRow, standIns := [], harness := (true, "cf9c1bb32e9a22c894c2e305cbf2dc3f40becc8f4de8413e5000c272dae76367"), looks := false }, kinds := [], alts := [], laidByText := true, laidKinds := [.data, .pinned], laidTests := true, laidLooks := .later }
def GlobWiderUptoCardSaid : Prop := Claim7.holds Tryd.pinned (.plain (OpenSpec.upto globWiderSpec)) globWiderUptoCard

/-- THE SECOND FORM's CARD OF 'pursuivantlaw12.GlobOverlaps'. -/
def globOverlapsUptoCard : Claim7 := { stood := { row := globOverlapsUptoRow, standIns := [], harness := (true, "cf9c1bb32e9a22c894c2e305cbf2dc3f40becc8f4de8413e5000c272dae76367"), looks := false }, kinds := [], alts := [], laidByText := true, laidKinds := [.data, .pinned], laidTests := true, laidLooks := .later }
def GlobOverlapsUptoCardSaid : Prop := Claim7.holds Tryd.pinned (.plain (OpenSpec.upto globOverlapsSpec)) globOverlapsUptoCard

/-- THE SECOND FORM's CARD OF 'pursuivantlaw12.GlobMeets'. -/
def globMeetsUptoCard : Claim7 := { stood := { row := globMeetsUptoRow, standIns := [], harness := (true, "cf9c1bb32e9a22c894c2e305cbf2dc3f40becc8f4de8413e5000c272dae76367"), looks := false }, kinds := [], alts := [], laidByText := true, laidKinds := [.data, .pinned], laidTests := true, laidLooks := .later }
def GlobMeetsUptoCardSaid : Prop := Claim7.holds Tryd.pinned (.plain (OpenSpec.upto globMeetsSpec)) globMeetsUptoCard

/-- THE SECOND FORM's CARD OF 'pursuivantlaw12.GlobFirsts'. -/
def globFirstsUptoCard : Claim7 := { stood := { row := globFirstsUptoRow, standIns := [], harness := (true, "cf9c1bb32e9a22c894c2e305cbf2dc3f40becc8f4de8413e5000c272dae76367"), looks := false }, kinds := [], alts := [], laidByText := true, laidKinds := [.data, .pinned], laidTests := true, laidLooks := .later }
def GlobFirstsUptoCardSaid : Prop := Claim7.holds Tryd.pinned (.plain (OpenSpec.upto globFirstsSpec)) globFirstsUptoCard
end Rows
end Go.Proofs.YtodkjhbnodcbhaaDoor
