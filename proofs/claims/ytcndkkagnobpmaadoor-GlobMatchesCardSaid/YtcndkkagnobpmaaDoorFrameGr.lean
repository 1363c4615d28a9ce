/-
  What the frames of the laws GlobMatches and GlobUnder share: the length that package bytealg lays, sha's constants, a world for the witnesses.
-/
import Derived.Test.YtcndkkagnobpmaaDoorGlobLives
import Derived.Test.YtcndkkagnobpmaaDoorSha7
import Derived.Test.YtcndkkagnobpmaaDoorRows
import Derived.ProofKit
import Derived.OpenShut
import Derived.ShutString
import Derived.ChangeOld
import Derived.Deep.DeepHandedRow
import Derived.Deep.DeepWitnessRowRef
import Derived.Lib.LaidTab
import Derived.Stop.LaidErr
import Derived.Lay
import Derived.MakeChecks
set_option linter.unusedVariables false
set_option linter.unusedSimpArgs false
namespace Go.Proofs.YtcndkkagnobpmaaDoor
open Go.ChangeShapes Go.WideShapes Go.ChangeAt Go.RowKit

theorem own : ownKnob Tryd.prog.godebug = none := by kernel_rfl
theorem laidOut : laidOutB Tryd.prog = true := by kernel_rfl
theorem tab_of_shaped {W : World} (h : W.ShapedOpen Tryd.prog) : Tab W := by
  obtain ⟨m, hm⟩ := Tryd.laysM146.s1_3 W h
  have hm' : W.cell? ⟨1, 0, none⟩ = some (.int .i64 m) := hm
  refine ⟨?_, m, hm'⟩
  rcases Nat.lt_or_ge 1 W.heap.size with hlt | hge
  · exact hlt
  · unfold World.cell? at hm'
    rw [Array.getElem?_eq_none hge] at hm'
    cases hm'
theorem kon_lit {H : Type} : (Rows.laid_pursuivant_sha_constants : DataW H) = Lib.tabData .u32 kL := rfl
theorem kon_glob : Tryd.prog.globalNamed "pursuivant/sha.constants" = some 0 := by kernel_rfl
theorem kon_type : (Tryd.prog.globals[(0 : Nat)]?).map (·.type) = some 133 := by kernel_rfl
theorem tabK_of_laid {W : World} (h : laidMetH Tryd.prog Rows.globMatchesRow.laid W) : TabK W := by
  have h2 := laidMet.tail (show laidMet Tryd.prog [("unicode/utf8.acceptRanges", Rows.laid_unicode_utf8_acceptRanges), ("pursuivant/sha.constants", Rows.laid_pursuivant_sha_constants), ("unicode/utf8.first", Rows.laid_unicode_utf8_first)] W from h)
  rw [kon_lit] at h2
  have h3 := Lib.tabIs_of_head kon_glob kon_type Tryd.underlying133 Tryd.underlying113 (by kernel_rfl) (by kernel_rfl) h2
  unfold Lib.TabIs World.var? at h3
  rw [kon_glob] at h3
  simp only [Option.bind_some] at h3
  split at h3
  · rename_i cs t fr heq
    cases h3
    exact ⟨t, fr, heq⟩
  · cases h3
/-- A start whose tables hold what their initialisers lay. -/
noncomputable def laidWorld_g (os : Os) : World := World.laidAll Tryd.prog os Rows.globMatchesRow.laid
theorem laid_g (os : Os) (args : Array Value) : laidMet Tryd.prog Rows.globMatchesRow.laid ((laidWorld_g os).forCall (fun _ _ => 0) ⟨#[], args, []⟩).memory :=
  laidMet_laidAll _ (by kernel_rfl) (by kernel_rfl)
end Go.Proofs.YtcndkkagnobpmaaDoor
