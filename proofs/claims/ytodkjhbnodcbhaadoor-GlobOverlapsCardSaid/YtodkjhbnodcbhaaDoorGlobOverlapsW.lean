/-
  The walk of the law GlobOverlaps.
-/
import Derived.Test.YtodkjhbnodcbhaaDoorGlobLives
import Derived.Test.YtodkjhbnodcbhaaDoorGlobT9
namespace Go.Proofs.YtodkjhbnodcbhaaDoor
open Go.RowKit Glob
set_option linter.unusedVariables false

theorem globOverlaps_long0 (p q : ByteArray) (w : World) (hT : Tab w) (hp : 1000 < p.size) (zp : p.size ≤ 140737488351232) (zq : q.size ≤ 140737488351232) : Calls Tryd.prog 6 #[.string p, .string q] w fun e w' => e = .returned (.bool true) ∧ Below w.heap.size w w' := by
  have ep : decide (1000 < (p.size : Int)) = true := by rw [decide_eq_true_iff]; omega
  go_enter Tryd.func6, Tryd.ntmps6
  go_wp2_with fail
  refine (lives_any _ hT).mono ?_
  rintro e w' ⟨rfl, hb⟩
  go_wp2
  go_ret
  exact ⟨rfl, hb⟩
theorem globOverlaps_long1 (p q : ByteArray) (w : World) (hT : Tab w) (hp : p.size ≤ 1000) (hq : 1000 < q.size) (zp : p.size ≤ 140737488351232) (zq : q.size ≤ 140737488351232) : Calls Tryd.prog 6 #[.string p, .string q] w fun e w' => e = .returned (.bool true) ∧ Below w.heap.size w w' := by
  have ep : decide (1000 < (p.size : Int)) = false := by rw [decide_eq_false_iff_not]; omega
  have eq : decide (1000 < (q.size : Int)) = true := by rw [decide_eq_true_iff]; omega
  go_enter Tryd.func6, Tryd.ntmps6
  go_wp2_with fail
  refine (lives_any _ hT).mono ?_
  rintro e w' ⟨rfl, hb⟩
  go_wp2
  go_ret
  exact ⟨rfl, hb⟩
set_option maxRecDepth 100000 in
set_option maxHeartbeats 2000000 in
theorem globOverlaps_short (p q : ByteArray) (w : World) (hT : Tab w) (hp : p.size ≤ 1000) (hq : q.size ≤ 1000) : Calls Tryd.prog 6 #[.string p, .string q] w fun e w' => e = .returned (.bool true) ∧ Below w.heap.size w w' := by
  have ep : decide (1000 < (p.size : Int)) = false := by rw [decide_eq_false_iff_not]; omega
  have eq : decide (1000 < (q.size : Int)) = false := by rw [decide_eq_false_iff_not]; omega
  have HA := fun w h0 => (overlap_any p q w hp hq h0)
  have HB := fun w (h0 : Tab w) => (roverlap_any p q w hp hq)
  have HC := fun w h0 => (overlap_any q p w hq hp h0)
  have HD := fun w h0 => (overlap_any p p w hp hp h0)
  have HE := fun w (h0 : Tab w) => (rpattern_any p w (by omega))
  rw [over_symm] at HC
  rw [over_refl] at HD
  obtain ⟨r, hr⟩ : ∃ r, r = overL p.data.toList q.data.toList := ⟨_, rfl⟩
  obtain ⟨s, hs⟩ : ∃ s, s = patL p.data.toList := ⟨_, rfl⟩
  rw [← hr] at HA HB HC
  rw [← hs] at HD HE
  clear hr hs
  have HA := Lib.hid HA
  have HB := Lib.hid HB
  have HC := Lib.hid HC
  have HD := Lib.hid HD
  have HE := Lib.hid HE
  have n1 : (r == r) = true := by simp
  have n2 : (s == s) = true := by simp
  go_enter Tryd.func6, Tryd.ntmps6
  go_wp2_with fail
  refine (HA.out _ hT).mono ?_
  rintro e w1 ⟨rfl, hb1⟩
  have hT1 := hT.below hb1
  have a1 := hb1
  go_wp2_with fail
  refine (lives_any _ hT1).mono ?_
  rintro e w2 ⟨rfl, hb2⟩
  have hT2 := hT1.below hb2
  have a2 := a1.trans (hb2.mono a1.size)
  go_wp2_with fail
  refine (HB.out _ hT2).mono ?_
  rintro e w3 ⟨rfl, hb3⟩
  have hT3 := hT2.below hb3
  have a3 := a2.trans (hb3.mono a2.size)
  go_wp2_with fail
  refine (HC.out _ hT3).mono ?_
  rintro e w4 ⟨rfl, hb4⟩
  have hT4 := hT3.below hb4
  have a4 := a3.trans (hb4.mono a3.size)
  go_wp2_with fail
  refine (HD.out _ hT4).mono ?_
  rintro e w5 ⟨rfl, hb5⟩
  have hT5 := hT4.below hb5
  have a5 := a4.trans (hb5.mono a4.size)
  go_wp2_with fail
  refine (HE.out _ hT5).mono ?_
  rintro e w6 ⟨rfl, hb6⟩
  have hT6 := hT5.below hb6
  have a6 := a5.trans (hb6.mono a5.size)
  go_wp2
  go_ret
  exact ⟨rfl, a6⟩
theorem globOverlaps_walk (p q : ByteArray) (w : World) (hT : Tab w) (zp : p.size ≤ 140737488351232) (zq : q.size ≤ 140737488351232) : Calls Tryd.prog 6 #[.string p, .string q] w fun e w' => e = .returned (.bool true) ∧ Below w.heap.size w w' := by
  rcases (by omega : 1000 < p.size ∨ p.size ≤ 1000) with hp | hp
  · exact globOverlaps_long0 p q w hT hp zp zq
  · rcases (by omega : 1000 < q.size ∨ q.size ≤ 1000) with hq | hq
    · exact globOverlaps_long1 p q w hT hp hq zp zq
    · exact globOverlaps_short p q w hT hp hq
end Go.Proofs.YtodkjhbnodcbhaaDoor
