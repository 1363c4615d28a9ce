/-
  The walk of the law RecordCounts, at every input.
-/
import Derived.Test.YtcndkkagnobpmaaDoorRecCountsW
namespace Go.Proofs.YtcndkkagnobpmaaDoor
open Go.RowKit
set_option linter.unusedVariables false

theorem recordCounts_walk (first half : Int) (A : Option Addr) (n c : Nat) (ps : List Pt) (W : World) (hK : TabK W) (hps : Pts W A ps) (hpn : ps.length = n) (hnc : n ≤ c) (hcm : c ≤ maxLen) (hcs : ∀ p ∈ ps, p.l.length ≤ p.c ∧ p.c ≤ maxLen) :
    Calls Tryd.prog 4 #[.int .i64 first, .int .i64 half, .slice A n c] W fun e w' => e = .returned (.bool true) ∧ Below W.heap.size W w' := by
  by_cases h : first < 0 ∨ 10 < first ∨ half < 2 ∨ 8 < half
  · exact counts_out A n c first half W hK h
  · obtain ⟨f, rfl⟩ := Int.eq_ofNat_of_zero_le (show 0 ≤ first by omega)
    obtain ⟨g, rfl⟩ := Int.eq_ofNat_of_zero_le (show 0 ≤ half by omega)
    exact counts_in A n c ps f g W hK hps hpn hcs (by omega) (by omega) (by omega) (by omega)
end Go.Proofs.YtcndkkagnobpmaaDoor
