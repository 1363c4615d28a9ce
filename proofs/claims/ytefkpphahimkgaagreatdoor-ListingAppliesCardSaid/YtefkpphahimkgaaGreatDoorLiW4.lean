/-
  The document's May.
-/
import Derived.Test.YtefkpphahimkgaaGreatDoorLiW2
namespace Go.Proofs.YtefkpphahimkgaaGreatDoor
open Go.RowKit
attribute [local go_sem ↓] Go.wp_at_zero Go.wp_at_succ
set_option linter.unusedVariables false
set_option linter.unusedSimpArgs false

theorem may_of {kind : ByteArray} {v e : Int} {l : List ME} (h1 : 1 ≤ v) (h2 : v ≤ 1099511627776) (h3 : 0 ≤ e) (h4 : e ≤ 253402300799) : mayL kind v e l = (risB l && ((decide (kind = tsN) && (decide (l.length = 1) && l.all (fun m => decide (m.name = ssJ)))) || (decide (kind = ssN) && (l.any (fun m => decide (m.name = tgJ)) && l.all (fun m => sufJ m.name))))) := by
  unfold mayL
  rw [decide_eq_true h1, decide_eq_true h2, decide_eq_true h3, decide_eq_true h4]
  rfl
theorem ts_ne_ss : tsN ≠ ssN := by decide
/-- the loop so far -/
structure RM (l : List ME) (sn : Bool) (k : Nat) (tf : Bool) : Prop where
  st : ∀ i, i < k → stepB l i = true
  sf : sn = true → ∀ i (hi : i < l.length), i < k → sufJ (l[i]).name = true
  tg : tf = (l.take k).any (fun m => decide (m.name = tgJ))
end Go.Proofs.YtefkpphahimkgaaGreatDoor
