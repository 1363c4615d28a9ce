/-
  What the frames of the laws of globs share: the length that package bytealg lays, a world for the witnesses.
-/
import Derived.Test.YtodkjhbnodcbhaaDoorGlobLives
import Derived.Test.YtodkjhbnodcbhaaDoorRows
import Derived.ProofKit
import Derived.OpenShut
import Derived.ShutString
import Derived.ChangeOld
import Derived.Deep.DeepHandedRow
import Derived.Deep.DeepWitnessRowRef
import Derived.Lay
import Derived.MakeChecks
set_option linter.unusedVariables false
set_option linter.unusedSimpArgs false
namespace Go.Proofs.YtodkjhbnodcbhaaDoor
open Go.ChangeShapes Go.WideShapes Go.ChangeAt Go.RowKit

theorem own : ownKnob Tryd.prog.godebug = none := by kernel_rfl
theorem laidOut : laidOutB Tryd.prog = true := by kernel_rfl
theorem tab_of_shaped {W : World} (h : W.ShapedOpen Tryd.prog) : Tab W := by
  obtain ⟨m, hm⟩ := Tryd.laysM146.s1_3 W h
  have hm' : W.cell? ⟨0, 0, none⟩ = some (.int .i64 m) := hm
  refine ⟨?_, m, hm'⟩
  rcases Nat.lt_or_ge 0 W.heap.size with hlt | hge
  · exact hlt
  · unfold World.cell? at hm'
    rw [Array.getElem?_eq_none hge] at hm'
    cases hm'
/-- A start whose tables hold what their initialisers lay. -/
noncomputable def laidWorld_g (os : Os) : World := World.laidAll Tryd.prog os Rows.globNamesRow.laid
theorem laid_g (os : Os) (args : Array Value) : laidMet Tryd.prog Rows.globNamesRow.laid ((laidWorld_g os).forCall (fun _ _ => 0) ⟨#[], args, []⟩).memory :=
  laidMet_laidAll _ (by kernel_rfl) (by kernel_rfl)
end Go.Proofs.YtodkjhbnodcbhaaDoor
