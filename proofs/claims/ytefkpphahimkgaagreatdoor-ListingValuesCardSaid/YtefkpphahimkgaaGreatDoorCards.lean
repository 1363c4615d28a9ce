/-
  DERIVED. GIVEN WITH THE SEED: THE CARDS: each row of YtefkpphahimkgaaGreatDoorRows.lean that lists a variable, with what it lists TIED to the program's text (the seventh form; the later family's looks); each row that meets fmt, with fmt's text TOLD by the authors' own Lean function (tested against real Go, not proved from fmt's source: count such statements apart). THE CARD IS WHAT COUNTS. Prove the row's statement (the work); the ties are given (YtefkpphahimkgaaGreatDoorTie.lean); close each card by the builder's one call (the guide's Derived/Test/ToyasCard.lean, 'card_holds'). Laid BY PROGRAM, IN A SANDBOX (cutbox-door.mjs). By AI agents, Wed Nov 11 2026. No macro, syntax, notation, axiom, sorry.
-/
import Derived.Test.YtefkpphahimkgaaGreatDoorRows
import GoSem.ClaimSeven
namespace Go.Proofs.YtefkpphahimkgaaGreatDoor
namespace Rows

/-- THE TIED CARD OF 'pursuivantlaw15.ListingValues'. -/
def listingValuesCard : Claim7 := { stood := { row := listingValuesRow, standIns := [], harness := (true, "70c886ea2088db0b79bc6ea609e74c9de74248aff9ae1d721fce525c76f53429"), looks := false }, kinds := [], alts := [], laidByText := true, laidKinds := [.data, .data, .data, .data, .data, .pinned], laidTests := true, laidLooks := .later }
def ListingValuesCardSaid : Prop := Claim7.holds Tryz.pinned (.plain (OpenSpec.ofChange listingValuesSpec)) listingValuesCard

/-- THE TIED CARD OF 'pursuivantlaw15.ListingOlder'. -/
def listingOlderCard : Claim7 := { stood := { row := listingOlderRow, standIns := [], harness := (true, "70c886ea2088db0b79bc6ea609e74c9de74248aff9ae1d721fce525c76f53429"), looks := false }, kinds := [], alts := [], laidByText := true, laidKinds := [.data, .data, .data, .data, .data, .pinned], laidTests := true, laidLooks := .later }
def ListingOlderCardSaid : Prop := Claim7.holds Tryz.pinned (.plain (OpenSpec.ofChange listingOlderSpec)) listingOlderCard

/-- THE TIED CARD OF 'pursuivantlaw15.ListingFits'. -/
def listingFitsCard : Claim7 := { stood := { row := listingFitsRow, standIns := [], harness := (true, "70c886ea2088db0b79bc6ea609e74c9de74248aff9ae1d721fce525c76f53429"), looks := false }, kinds := [], alts := [], laidByText := true, laidKinds := [.data, .data, .data, .data, .data, .pinned], laidTests := true, laidLooks := .later }
def ListingFitsCardSaid : Prop := Claim7.holds Tryz.pinned (.plain (OpenSpec.ofChange listingFitsSpec)) listingFitsCard

/-- THE TIED CARD OF 'pursuivantlaw15.ListingApplies'. -/
def listingAppliesCard : Claim7 := { stood := { row := listingAppliesRow, standIns := [], harness := (true, "70c886ea2088db0b79bc6ea609e74c9de74248aff9ae1d721fce525c76f53429"), looks := false }, kinds := [], alts := [], laidByText := true, laidKinds := [.data, .data, .data, .data, .data, .pinned], laidTests := true, laidLooks := .later }
def ListingAppliesCardSaid : Prop := Claim7.holds Tryz.pinned (.plain (OpenSpec.ofChange listingAppliesSpec)) listingAppliesCard

/-- THE SECOND FORM's CARD OF 'pursuivantlaw15.ListingValues'. -/
def listingValuesUptoCard : Claim7 := { stood := { row := listingValuesUptoRow, standIns := [], harness := (true, "70c886ea2088db0b79bc6ea609e74c9de74248aff9ae1d721fce525c76f53429"), looks := false }, kinds := [], alts := [], laidByText := true, laidKinds := [.data, .data, .data, .data, .data, .pinned], laidTests := true, laidLooks := .later }
def ListingValuesUptoCardSaid : Prop := Claim7.holds Tryz.pinned (.plain (OpenSpec.upto listingValuesSpec)) listingValuesUptoCard

/-- THE SECOND FORM's CARD OF 'pursuivantlaw15.ListingOlder'. -/
def listingOlderUptoCard : Claim7 := { stood := { row := listingOlderUptoRow, standIns := [], harness := (true, "70c886ea2088db0b79bc6ea609e74c9de74248aff9ae1d721fce525c76f53429"), looks := false }, kinds := [], alts := [], laidByText := true, laidKinds := [.data, .data, .data, .data, .data, .pinned], laidTests := true, laidLooks := .later }
def ListingOlderUptoCardSaid : Prop := Claim7.holds Tryz.pinned (.plain (OpenSpec.upto listingOlderSpec)) listingOlderUptoCard

/-- THE SECOND FORM's CARD OF 'pursuivantlaw15.ListingFits'. -/
def listingFitsUptoCard : Claim7 := { stood := { row := listingFitsUptoRow, standIns := [], harness := (true, "70c886ea2088db0b79bc6ea609e74c9de74248aff9ae1d721fce525c76f53429"), looks := false }, kinds := [], alts := [], laidByText := true, laidKinds := [.data, .data, .data, .data, .data, .pinned], laidTests := true, laidLooks := .later }
def ListingFitsUptoCardSaid : Prop := Claim7.holds Tryz.pinned (.plain (OpenSpec.upto listingFitsSpec)) listingFitsUptoCard

/-- THE SECOND FORM's CARD OF 'pursuivantlaw15.ListingApplies'. -/
def listingAppliesUptoCard : Claim7 := { stood := { row := listingAppliesUptoRow, standIns := [], harness := (true, "70c886ea2088db0b79bc6ea609e74c9de74248aff9ae1d721fce525c76f53429"), looks := false }, kinds := [], alts := [], laidByText := true, laidKinds := [.data, .data, .data, .data, .data, .pinned], laidTests := true, laidLooks := .later }
def ListingAppliesUptoCardSaid : Prop := Claim7.holds Tryz.pinned (.plain (OpenSpec.upto listingAppliesSpec)) listingAppliesUptoCard
end Rows
end Go.Proofs.YtefkpphahimkgaaGreatDoor
