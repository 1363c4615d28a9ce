/-
  DERIVED. GIVEN WITH THE SEED: THE CARDS: each row of YteodigdcdhceiaaDoorRows.lean that lists a variable, with what it lists TIED to the program's text (the seventh form; the later family's looks); each row that meets fmt, with fmt's text TOLD by the authors' own Lean function (tested against real Go, not proved from fmt's source: count such statements apart). THE CARD IS WHAT COUNTS. Prove the row's statement (the work); the ties are given (YteodigdcdhceiaaDoorTie.lean); close each card by the builder's one call (the guide's Derived/Test/ToyasCard.lean, 'card_holds'). Laid BY PROGRAM, IN A SANDBOX (cutbox-door.mjs). By AI agents, Wed Nov 11 2026. No macro, syntax, notation, axiom, sorry.
-/
import Derived.Test.YteodigdcdhceiaaDoorRows
import GoSem.ClaimSeven
namespace Go.Proofs.YteodigdcdhceiaaDoor
namespace Rows

/-- THE TIED CARD OF 'pursuivantlaw04.ValueSames'. -/
def valueSamesCard : Claim7 := { stood := { row := valueSamesRow, standIns := [], harness := (true, "be4b780e7aad935fee1c5c09f7f2ec78a5b2da452e7e9b7629c64df2e94e0e0a"), looks := false }, kinds := [], alts := [], laidByText := true, laidKinds := [.data, .pinned], laidTests := true, laidLooks := .later }
def ValueSamesCardSaid : Prop := Claim7.holds Tryd.pinned (.plain (OpenSpec.ofChange valueSamesSpec)) valueSamesCard

/-- THE TIED CARD OF 'pursuivantlaw04.ValueMakes'. -/
def valueMakesCard : Claim7 := { stood := { row := valueMakesRow, standIns := [], harness := (true, "be4b780e7aad935fee1c5c09f7f2ec78a5b2da452e7e9b7629c64df2e94e0e0a"), looks := false }, kinds := [], alts := [], laidByText := true, laidKinds := [.data, .pinned], laidTests := true, laidLooks := .later }
def ValueMakesCardSaid : Prop := Claim7.holds Tryd.pinned (.plain (OpenSpec.ofChange valueMakesSpec)) valueMakesCard

/-- THE TIED CARD OF 'pursuivantlaw04.ValueOrders'. -/
def valueOrdersCard : Claim7 := { stood := { row := valueOrdersRow, standIns := [], harness := (true, "be4b780e7aad935fee1c5c09f7f2ec78a5b2da452e7e9b7629c64df2e94e0e0a"), looks := false }, kinds := [], alts := [], laidByText := true, laidKinds := [.data, .pinned], laidTests := true, laidLooks := .later }
def ValueOrdersCardSaid : Prop := Claim7.holds Tryd.pinned (.plain (OpenSpec.ofChange valueOrdersSpec)) valueOrdersCard

/-- THE SECOND FORM's CARD OF 'pursuivantlaw04.ValueSames'. -/
def valueSamesUptoCard : Claim7 := { stood := { row := valueSamesUptoRow, standIns := [], harness := (true, "be4b780e7aad935fee1c5c09f7f2ec78a5b2da452e7e9b7629c64df2e94e0e0a"), looks := false }, kinds := [], alts := [], laidByText := true, laidKinds := [.data, .pinned], laidTests := true, laidLooks := .later }
def ValueSamesUptoCardSaid : Prop := Claim7.holds Tryd.pinned (.plain (OpenSpec.upto valueSamesSpec)) valueSamesUptoCard

/-- THE SECOND FORM's CARD OF 'pursuivantlaw04.ValueMakes'. -/
def valueMakesUptoCard : Claim7 := { stood := { row := valueMakesUptoRow, standIns := [], harness := (true, "be4b780e7aad935fee1c5c09f7f2ec78a5b2da452e7e9b7629c64df2e94e0e0a"), looks := false }, kinds := [], alts := [], laidByText := true, laidKinds := [.data, .pinned], laidTests := true, laidLooks := .later }
def ValueMakesUptoCardSaid : Prop := Claim7.holds Tryd.pinned (.plain (OpenSpec.upto valueMakesSpec)) valueMakesUptoCard

/-- THE SECOND FORM's CARD OF 'pursuivantlaw04.ValueOrders'. -/
def valueOrdersUptoCard : Claim7 := { stood := { row := valueOrdersUptoRow, standIns := [], harness := (true, "be4b780e7aad935fee1c5c09f7f2ec78a5b2da452e7e9b7629c64df2e94e0e0a"), looks := false }, kinds := [], alts := [], laidByText := true, laidKinds := [.data, .pinned], laidTests := true, laidLooks := .later }
def ValueOrdersUptoCardSaid : Prop := Claim7.holds Tryd.pinned (.plain (OpenSpec.upto valueOrdersSpec)) valueOrdersUptoCard
end Rows
end Go.Proofs.YteodigdcdhceiaaDoor
