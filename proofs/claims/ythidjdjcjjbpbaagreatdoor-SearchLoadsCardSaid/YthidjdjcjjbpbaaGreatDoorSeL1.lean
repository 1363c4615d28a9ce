/-
  The document's LargeOne: where it says no, the rows are short.
-/
import Derived.Test.YthidjdjcjjbpbaaGreatDoorSeR1
namespace Go.Proofs.YthidjdjcjjbpbaaGreatDoor
open Go.RowKit Sea
set_option linter.unusedVariables false
set_option linter.unusedSimpArgs false

/-- it says no only where P holds -/
def LrP (P : Prop) (w : World) (e : Ending) (w' : World) : Prop := ∃ b : Bool, e = .returned (.bool b) ∧ (b = false → P) ∧ Below w.heap.size w w'
set_option maxRecDepth 100000 in
set_option maxHeartbeats 2000000 in
theorem largeOne_any (X : Nat → Prop) (d : PD) (a : DA) (w : World) (h : DOk X w d a) : Calls Tryz.prog 31 #[d.val a] w fun e w' => PF (LrP (PDs d) w) e w' := by
  obtain ⟨n1, hn1⟩ : ∃ n, n = d.paths.length := ⟨_, rfl⟩
  obtain ⟨n2, hn2⟩ : ∃ n, n = d.prefs.length := ⟨_, rfl⟩
  obtain ⟨n3, hn3⟩ : ∃ n, n = d.rk.length := ⟨_, rfl⟩
  have HD : Hid (n1 ≤ 50 → n2 ≤ 50 → n3 ≤ 50 → PDs d) := Lib.hid (fun h1 h2 h3 => ⟨by omega, by omega, by omega⟩)
  unfold Sea.PD.val Sea.PD.cs
  rw [← hn1, ← hn2, ← hn3]
  clear h hn1 hn2 hn3
  by_cases h1 : 50 < n1
  · have q1 : decide (50 < n1) = true := decide_eq_true h1
    have q1' : decide ((50 : Int) < (n1 : Int)) = true := by rw [decide_eq_true_iff]; omega
    clear h1
    go_enter Tryz.func31, Tryz.ntmps31
    go_wp2
    go_ret
    exact ⟨true, rfl, (fun e => by cases e), (Below.refl _ _).alloc (Nat.le_refl _) _⟩
  have H1 : Hid (n1 ≤ 50) := Lib.hid (by omega)
  have q1 : decide (50 < n1) = false := decide_eq_false h1
  have q1' : decide ((50 : Int) < (n1 : Int)) = false := by rw [decide_eq_false_iff_not]; omega
  clear h1
  by_cases h2 : 50 < n2
  · have q2 : decide (50 < n2) = true := decide_eq_true h2
    have q2' : decide ((50 : Int) < (n2 : Int)) = true := by rw [decide_eq_true_iff]; omega
    clear h2
    go_enter Tryz.func31, Tryz.ntmps31
    go_wp2
    go_ret
    exact ⟨true, rfl, (fun e => by cases e), (Below.refl _ _).alloc (Nat.le_refl _) _⟩
  have H2 : Hid (n2 ≤ 50) := Lib.hid (by omega)
  have q2 : decide (50 < n2) = false := decide_eq_false h2
  have q2' : decide ((50 : Int) < (n2 : Int)) = false := by rw [decide_eq_false_iff_not]; omega
  clear h2
  by_cases h3 : 50 < n3
  · have q3 : decide (50 < n3) = true := decide_eq_true h3
    have q3' : decide ((50 : Int) < (n3 : Int)) = true := by rw [decide_eq_true_iff]; omega
    clear h3
    go_enter Tryz.func31, Tryz.ntmps31
    go_wp2
    go_ret
    exact ⟨true, rfl, (fun e => by cases e), (Below.refl _ _).alloc (Nat.le_refl _) _⟩
  have H3 : Hid (n3 ≤ 50) := Lib.hid (by omega)
  have q3 : decide (50 < n3) = false := decide_eq_false h3
  have q3' : decide ((50 : Int) < (n3 : Int)) = false := by rw [decide_eq_false_iff_not]; omega
  clear h3
  go_enter Tryz.func31, Tryz.ntmps31
  go_wp2
  go_ret
  exact ⟨false, rfl, (fun _ => HD.out H1.out H2.out H3.out), (Below.refl _ _).alloc (Nat.le_refl _) _⟩
end Go.Proofs.YthidjdjcjjbpbaaGreatDoor
