/-
  The document's kids, Depth, Count.
-/
import Derived.Test.YteofdpogjnojnaaDoorVa4
namespace Go.Proofs.YteofdpogjnojnaaDoor
open Go.RowKit
attribute [local go_sem ↓] Go.wp_at_zero Go.wp_at_succ
set_option linter.unusedVariables false
set_option linter.unusedSimpArgs false

def KidP (v : MV) (w : World) (e : Ending) (w' : World) : Prop :=
  ∃ (A : Option Addr) (n c : Nat), e = .returned (.slice A n c) ∧ n = (v.l ++ v.m).length ∧ Reads w' w'.heap.size 5 A n ((v.l ++ v.m).flatMap MV.cs) ∧ Below w.heap.size w w'
theorem VAt.rl {w : World} {v : MV} (h : VAt w v) : Reads w w.heap.size 5 v.lA v.l.length (v.l.flatMap MV.cs) := by cases h; assumption
theorem oneC_csL (l : List MV) : ∀ u ∈ l.flatMap MV.cs, u.oneCell' = true := fun u hu => by
  rw [List.mem_flatMap] at hu
  obtain ⟨x, _, hu⟩ := hu
  exact oneC_cs x u hu
end Go.Proofs.YteofdpogjnojnaaDoor
