/-
 string(b): what it yields.
-/
import Derived.Test.YtefkpphahimkgaaGreatDoorGA
import Derived.Handy
import Derived.Lib.BufferRead
import Derived.Lib.ConvBytes
namespace Go.Proofs.YtefkpphahimkgaaGreatDoor
open Go.RowKit
set_option linter.unusedVariables false
theorem run_string {w : World} {A : Option Addr} {l : List UInt8} (h : RB w A l) (n c : Nat) (hn : l.length = n) :
  (convert 45 9 (.slice A n c)).run Tryz.prog w = .ok (.string ⟨l.toArray⟩) w := by
 subst hn
 rcases A with _ | ad
 ·have hl : l = [] := by
   rcases Nat.eq_zero_or_pos l.length with h0 | h0
   ·exact List.eq_nil_of_length_eq_zero h0
   ·obtain ⟨ad, h, _⟩ := h.2 h0; cases h
  subst hl
  exact Lib.run_convert_nil_bytes w _ _ _ c Tryz.underlying45 Tryz.underlying5 Tryz.underlying9
 ·refine run_convert_bytes_back w _ _ _ ad c l Tryz.underlying45 Tryz.underlying5 Tryz.underlying9 (fun j hj => ?_)
  obtain ⟨a', e, _, hc⟩ := h.at_ hj
  cases e
  exact hc
end Go.Proofs.YtefkpphahimkgaaGreatDoor
