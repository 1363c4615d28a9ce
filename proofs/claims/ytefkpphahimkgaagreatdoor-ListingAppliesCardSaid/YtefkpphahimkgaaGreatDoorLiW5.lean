/-
  The document's May, for any listing; Large.
-/
import Derived.Test.YtefkpphahimkgaaGreatDoorLiW4
namespace Go.Proofs.YtefkpphahimkgaaGreatDoor
open Go.RowKit
attribute [local go_sem ↓] Go.wp_at_zero Go.wp_at_succ
set_option linter.unusedVariables false
set_option linter.unusedSimpArgs false

theorem may_v {kind : ByteArray} {v e : Int} {l : List ME} (h : ¬ (1 ≤ v ∧ v ≤ 1099511627776 ∧ 0 ≤ e ∧ e ≤ 253402300799)) : mayL kind v e l = false := by
  unfold mayL
  rw [← Bool.not_eq_true]
  simp only [Bool.and_eq_true, decide_eq_true_eq]
  rintro ⟨h1, h2, h3, h4, _⟩
  exact h ⟨h1, h2, h3, h4⟩
theorem may_k {kind : ByteArray} {v e : Int} {l : List ME} (h1 : kind ≠ tsN) (h2 : kind ≠ ssN) : mayL kind v e l = false := by
  unfold mayL
  rw [decide_eq_false h1, decide_eq_false h2]
  simp
theorem may_l {kind : ByteArray} {v e : Int} {l : List ME} (h1 : 64 < l.length) : mayL kind v e l = false := by
  unfold mayL risB
  rw [decide_eq_false (show ¬ l.length ≤ 64 by omega)]
  simp
theorem rLarge15_any {w : World} (v e0 : Int) {A : Option Addr} {c : Nat} {l : List ME} (h : MAt w A c l) :
    Calls Tryz.prog 7 #[.agg #[.int .i64 v, .int .i64 e0, .slice A l.length c]] w fun e w' => BoP (decide (200 < l.length)) w e w' := by
  obtain ⟨n, hn⟩ : ∃ n, n = l.length := ⟨_, rfl⟩
  rw [← hn]
  obtain ⟨r, hr⟩ : ∃ r, r = decide (200 < n) := ⟨_, rfl⟩
  have hr1 : decide ((200 : Int) < (n : Int)) = r := by rw [hr]; exact decide_eq_decide.2 (by omega)
  have hr2 : decide ((n : Int) > 200) = r := hr1
  have hr3 : decide (200 < n) = r := hr.symm
  rw [← hr]
  clear hr hn h
  go_enter Tryz.func7, Tryz.ntmps7
  go_wp2
  go_ret
  exact ⟨rfl, (Below.refl _ _).alloc (Nat.le_refl _) _⟩
end Go.Proofs.YtefkpphahimkgaaGreatDoor
