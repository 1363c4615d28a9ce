/-
  A slice of questions (Kind, Name, At) that is read.
-/
import Derived.Test.YtdhilhjiccpkkaaWords2
namespace Go.Proofs.Ytdhilhjiccpkkaa
open Go.RowKit
set_option linter.unusedVariables false

/-- n questions, three cells each -/
def OL (W : World) (A : Option Addr) (n : Nat) (K : Nat → Int × ByteArray × Int) : Prop :=
  n = 0 ∨ ∃ b o, A = some ⟨b, o, none⟩ ∧ b < W.heap.size ∧ ∀ i, i < n → W.cell? ⟨b, o + i * 3, none⟩ = some (.int .i64 (K i).1) ∧ W.cell? ⟨b, o + i * 3 + 1, none⟩ = some (.string (K i).2.1) ∧ W.cell? ⟨b, o + i * 3 + 2, none⟩ = some (.int .i64 (K i).2.2) ∧ (K i).2.1.size ≤ maxLen
theorem OL.below {W w : World} {A : Option Addr} {n : Nat} {K : Nat → Int × ByteArray × Int} (h : OL W A n K) (hb : Below W.heap.size W w) : OL w A n K := by
  rcases h with h | ⟨b, o, rfl, hl, hc⟩
  · exact .inl h
  · refine .inr ⟨b, o, rfl, Nat.lt_of_lt_of_le hl hb.size, fun i hi => ?_⟩
    obtain ⟨h0, h1, h2, h3⟩ := hc i hi
    exact ⟨by rw [hb.cell (p := ⟨b, o + i * 3, none⟩) hl]; exact h0, by rw [hb.cell (p := ⟨b, o + i * 3 + 1, none⟩) hl]; exact h1, by rw [hb.cell (p := ⟨b, o + i * 3 + 2, none⟩) hl]; exact h2, h3⟩
end Go.Proofs.Ytdhilhjiccpkkaa
