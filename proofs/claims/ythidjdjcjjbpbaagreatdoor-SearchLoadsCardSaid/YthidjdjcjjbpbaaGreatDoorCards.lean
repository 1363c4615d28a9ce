/-
  DERIVED. GIVEN WITH THE SEED: THE CARDS: each row of YthidjdjcjjbpbaaGreatDoorRows.lean that lists a variable, with what it lists TIED to the program's text (the seventh form; the later family's looks); each row that meets fmt, with fmt's text TOLD by the authors' own Lean function (tested against real Go, not proved from fmt's source: count such statements apart). THE CARD IS WHAT COUNTS. Prove the row's statement (the work); the ties are given (YthidjdjcjjbpbaaGreatDoorTie.lean); close each card by the builder's one call (the guide's Derived/Test/ToyasCard.lean, 'card_holds'). Laid BY PROGRAM, IN A SANDBOX (cutbox-door.mjs). By AI agents, Wed Nov 11 2026. No macro, syntax, notation, axiom, sorry.
-/
import Derived.Test.YthidjdjcjjbpbaaGreatDoorRows
import GoSem.ClaimSeven
namespace Go.Proofs.YthidjdjcjjbpbaaGreatDoor
namespace Rows

/-- THE TIED CARD OF 'pursuivantlaw20.SearchFinds'. -/
def searchFindsCard : Claim7 := { stood := { row := searchFindsRow, standIns := [], harness := (true, "07f3037973dd4686e2fd5c0df4365fe65bbb42f343173dc9ebd49b725d10ef1b"), looks := false }, kinds := [], alts := [], laidByText := true, laidKinds := [.data, .data, .pinned], laidTests := true, laidLooks := .later }
def SearchFindsCardSaid : Prop := Claim7.holds Tryz.pinned (.plain (OpenSpec.ofChange searchFindsSpec)) searchFindsCard

/-- THE TIED CARD OF 'pursuivantlaw20.SearchLoads'. -/
def searchLoadsCard : Claim7 := { stood := { row := searchLoadsRow, standIns := [], harness := (true, "07f3037973dd4686e2fd5c0df4365fe65bbb42f343173dc9ebd49b725d10ef1b"), looks := false }, kinds := [], alts := [], laidByText := true, laidKinds := [.data, .data, .pinned], laidTests := true, laidLooks := .later }
def SearchLoadsCardSaid : Prop := Claim7.holds Tryz.pinned (.plain (OpenSpec.ofChange searchLoadsSpec)) searchLoadsCard

/-- THE TIED CARD OF 'pursuivantlaw20.SearchFirst'. -/
def searchFirstCard : Claim7 := { stood := { row := searchFirstRow, standIns := [], harness := (true, "07f3037973dd4686e2fd5c0df4365fe65bbb42f343173dc9ebd49b725d10ef1b"), looks := false }, kinds := [], alts := [], laidByText := true, laidKinds := [.data, .data, .pinned], laidTests := true, laidLooks := .later }
def SearchFirstCardSaid : Prop := Claim7.holds Tryz.pinned (.plain (OpenSpec.ofChange searchFirstSpec)) searchFirstCard

/-- THE TIED CARD OF 'pursuivantlaw20.SearchRoles'. -/
def searchRolesCard : Claim7 := { stood := { row := searchRolesRow, standIns := [], harness := (true, "07f3037973dd4686e2fd5c0df4365fe65bbb42f343173dc9ebd49b725d10ef1b"), looks := false }, kinds := [], alts := [], laidByText := true, laidKinds := [.data, .data, .pinned], laidTests := true, laidLooks := .later }
def SearchRolesCardSaid : Prop := Claim7.holds Tryz.pinned (.plain (OpenSpec.ofChange searchRolesSpec)) searchRolesCard

/-- THE SECOND FORM's CARD OF 'pursuivantlaw20.SearchFinds'. -/
def searchFindsUptoCard : Claim7 := { stood := { row := searchFindsUptoRow, standIns := [], harness := (true, "07f3037973dd4686e2fd5c0df4365fe65bbb42f343173dc9ebd49b725d10ef1b"), looks := false }, kinds := [], alts := [], laidByText := true, laidKinds := [.data, .data, .pinned], laidTests := true, laidLooks := .later }
def SearchFindsUptoCardSaid : Prop := Claim7.holds Tryz.pinned (.plain (OpenSpec.upto searchFindsSpec)) searchFindsUptoCard

/-- THE SECOND FORM's CARD OF 'pursuivantlaw20.SearchLoads'. -/
def searchLoadsUptoCard : Claim7 := { stood := { row := searchLoadsUptoRow, standIns := [], harness := (true, "07f3037973dd4686e2fd5c0df4365fe65bbb42f343173dc9ebd49b725d10ef1b"), looks := false }, kinds := [], alts := [], laidByText := true, laidKinds := [.data, .data, .pinned], laidTests := true, laidLooks := .later }
def SearchLoadsUptoCardSaid : Prop := Claim7.holds Tryz.pinned (.plain (OpenSpec.upto searchLoadsSpec)) searchLoadsUptoCard

/-- THE SECOND FORM's CARD OF 'pursuivantlaw20.SearchFirst'. -/
def searchFirstUptoCard : Claim7 := { stood := { row := searchFirstUptoRow, standIns := [], harness := (true, "07f3037973dd4686e2fd5c0df4365fe65bbb42f343173dc9ebd49b725d10ef1b"), looks := false }, kinds := [], alts := [], laidByText := true, laidKinds := [.data, .data, .pinned], laidTests := true, laidLooks := .later }
def SearchFirstUptoCardSaid : Prop := Claim7.holds Tryz.pinned (.plain (OpenSpec.upto searchFirstSpec)) searchFirstUptoCard

/-- THE SECOND FORM's CARD OF 'pursuivantlaw20.SearchRoles'. -/
def searchRolesUptoCard : Claim7 := { stood := { row := searchRolesUptoRow, standIns := [], harness := (true, "07f3037973dd4686e2fd5c0df4365fe65bbb42f343173dc9ebd49b725d10ef1b"), looks := false }, kinds := [], alts := [], laidByText := true, laidKinds := [.data, .data, .pinned], laidTests := true, laidLooks := .later }
def SearchRolesUptoCardSaid : Prop := Claim7.holds Tryz.pinned (.plain (OpenSpec.upto searchRolesSpec)) searchRolesUptoCard
end Rows
end Go.Proofs.YthidjdjcjjbpbaaGreatDoor
