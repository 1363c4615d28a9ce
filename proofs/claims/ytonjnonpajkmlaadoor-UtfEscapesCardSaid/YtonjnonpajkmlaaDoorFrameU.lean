/-
  What the frames of the laws of UTF-8 share: the tables of package utf8 as they are laid, a world for the witnesses.
-/
import Derived.Test.YtonjnonpajkmlaaDoorUtfN
import Derived.Test.YtonjnonpajkmlaaDoorRows
import Derived.ProofKit
import Derived.OpenShut
import Derived.ShutString
import Derived.ChangeOld
import Derived.Deep.DeepHandedRow
import Derived.Deep.DeepWitnessRowRef
import Derived.Lib.LaidU8T
import Derived.Lay
import Derived.MakeChecks
set_option linter.unusedVariables false
set_option linter.unusedSimpArgs false
namespace Go.Proofs.YtonjnonpajkmlaaDoor
open Go.ChangeShapes Go.WideShapes Go.ChangeAt Go.RowKit

theorem own : ownKnob Tryd.prog.godebug = none := by kernel_rfl
theorem laidOut : laidOutB Tryd.prog = true := by kernel_rfl
theorem first_lit : Rows.laid_unicode_utf8_first = Lib.firstData := by kernel_rfl
theorem accept_lit : (Rows.laid_unicode_utf8_acceptRanges : DataW Unit) = Lib.acceptData := by kernel_rfl
theorem extraU : U8Extra Tryd.prog Tryd.laysValid_ren := ⟨by kernel_rfl, by kernel_rfl, by kernel_rfl, by kernel_rfl, by kernel_rfl, by kernel_rfl, by kernel_rfl⟩
theorem tab_of_laid {W : World} (h : laidMetH Tryd.prog [("unicode/utf8.acceptRanges", Rows.laid_unicode_utf8_acceptRanges), ("unicode.CaseRanges", Rows.laid_unicode_CaseRanges), ("unicode/utf8.first", Rows.laid_unicode_utf8_first)] W) : tabU W := by
  have h2 : laidMet Tryd.prog [("unicode/utf8.acceptRanges", Rows.laid_unicode_utf8_acceptRanges), ("unicode.CaseRanges", Rows.laid_unicode_CaseRanges), ("unicode/utf8.first", Rows.laid_unicode_utf8_first)] W := h
  have a1 := Lib.laidMet.reads h2 (.tail _ (.tail _ (.head _)))
  have a2 := Lib.laidMet.reads h2 (.head _)
  rw [first_lit] at a1
  rw [accept_lit] at a2
  exact utf8Tabs_of_readsT (U8Types.of196 Tryd.laysValid) extraU a1 a2
/-- A start whose tables hold what their initialisers lay. -/
noncomputable def laidWorld_u8 (os : Os) : World := World.laidAll Tryd.prog os Rows.utfNextsRow.laid
theorem laid_u8 (os : Os) (args : Array Value) : laidMet Tryd.prog Rows.utfNextsRow.laid ((laidWorld_u8 os).forCall (fun _ _ => 0) ⟨#[], args, []⟩).memory :=
  laidMet_laidAll _ (by kernel_rfl) (by kernel_rfl)
end Go.Proofs.YtonjnonpajkmlaaDoor
