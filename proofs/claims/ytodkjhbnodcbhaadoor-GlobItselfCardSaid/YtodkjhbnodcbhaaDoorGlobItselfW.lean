/-
  The walk of the law GlobItself.
-/
import Derived.Test.YtodkjhbnodcbhaaDoorGlobLives
import Derived.Test.YtodkjhbnodcbhaaDoorGlobLaw1
namespace Go.Proofs.YtodkjhbnodcbhaaDoor
open Go.RowKit Glob
set_option linter.unusedVariables false

set_option maxHeartbeats 2000000 in
theorem globItself_walk (s t : ByteArray) (w : World) (hT : Tab w) (hz : s.size ≤ 140737488351232) (hz2 : t.size ≤ 140737488351232) : Calls Tryd.prog 4 #[.string s, .string t] w fun e w' => e = .returned (.bool true) ∧ Below w.heap.size w w' := by
  have HL := fun w h => Lib.hid (lives_any w h)
  rcases (by omega : 5000 < s.size ∨ (s.size ≤ 5000 ∧ 5000 < t.size) ∨ (s.size ≤ 5000 ∧ t.size ≤ 5000)) with h | ⟨h, h2⟩ | ⟨h, h2⟩
  · have e1 : decide (5000 < (s.size : Int)) = true := by rw [decide_eq_true_iff]; omega
    go_enter Tryd.func4, Tryd.ntmps4
    go_wp2_with fail
    refine (HL _ hT).out.mono ?_
    rintro e w' ⟨rfl, hb⟩
    go_wp2
    go_ret
    exact ⟨rfl, hb⟩
  · have e1 : decide (5000 < (s.size : Int)) = false := by rw [decide_eq_false_iff_not]; omega
    have e2 : decide (5000 < (t.size : Int)) = true := by rw [decide_eq_true_iff]; omega
    go_enter Tryd.func4, Tryd.ntmps4
    go_wp2_with fail
    refine (HL _ hT).out.mono ?_
    rintro e w' ⟨rfl, hb⟩
    go_wp2
    go_ret
    exact ⟨rfl, hb⟩
  · have e1 : decide (5000 < (s.size : Int)) = false := by rw [decide_eq_false_iff_not]; omega
    have e2 : decide (5000 < (t.size : Int)) = false := by rw [decide_eq_false_iff_not]; omega
    have HP := fun w (h0 : Tab w) => Lib.hid (rpath_any s w (by omega))
    have HQ := fun w (h0 : Tab w) => Lib.hid (rpath_any t w (by omega))
    have HM := fun w (h0 : Tab w) => Lib.hid (match_any s s w (by omega) (by omega) h0)
    have HN := fun w (h0 : Tab w) => Lib.hid (match_any s t w (by omega) (by omega) h0)
    cases hp : pathL s.data.toList with
    | false =>
      rw [hp] at HP
      clear hp
      go_enter Tryd.func4, Tryd.ntmps4
      go_wp2_with fail
      refine (HP _ hT).out.mono ?_
      rintro e w1 ⟨rfl, hb1⟩
      go_wp2_with fail
      refine (HL _ (hT.below hb1)).out.mono ?_
      rintro e w2 ⟨rfl, hb2⟩
      go_wp2
      go_ret
      exact ⟨rfl, hb1.trans (hb2.mono hb1.size)⟩
    | true =>
      rw [hp] at HP
      rw [match_path _ _ hp hp, decide_eq_true rfl] at HM
      cases hq : pathL t.data.toList with
      | false =>
        rw [hq] at HQ
        clear hp hq
        go_enter Tryd.func4, Tryd.ntmps4
        go_wp2_with fail
        refine (HP _ hT).out.mono ?_
        rintro e w1 ⟨rfl, hb1⟩
        have hT1 := hT.below hb1
        go_wp2_with fail
        refine (HL _ hT1).out.mono ?_
        rintro e w2 ⟨rfl, hb2⟩
        have hT2 := hT1.below hb2
        have a2 := hb1.trans (hb2.mono hb1.size)
        go_wp2_with fail
        refine (HM _ hT2).out.mono ?_
        rintro e w3 ⟨rfl, hb3⟩
        have hT3 := hT2.below hb3
        have a3 := a2.trans (hb3.mono a2.size)
        go_wp2_with fail
        refine (HQ _ hT3).out.mono ?_
        rintro e w4 ⟨rfl, hb4⟩
        have a4 := a3.trans (hb4.mono a3.size)
        go_wp2
        go_ret
        exact ⟨rfl, a4⟩
      | true =>
        rw [hq] at HQ
        rw [match_path _ _ hp hq] at HN
        clear hp hq
        obtain ⟨r, hr⟩ : ∃ r, r = decide (s.data.toList = t.data.toList) := ⟨_, rfl⟩
        rw [← hr] at HN
        have hst : (s.toList == t.toList) = r := by rw [hr, Lib.toList_data, Lib.toList_data, Bool.eq_iff_iff, beq_iff_eq, decide_eq_true_iff]
        clear hr
        have hrr : (r == r) = true := by simp
        go_enter Tryd.func4, Tryd.ntmps4
        go_wp2_with fail
        refine (HP _ hT).out.mono ?_
        rintro e w1 ⟨rfl, hb1⟩
        have hT1 := hT.below hb1
        go_wp2_with fail
        refine (HL _ hT1).out.mono ?_
        rintro e w2 ⟨rfl, hb2⟩
        have hT2 := hT1.below hb2
        have a2 := hb1.trans (hb2.mono hb1.size)
        go_wp2_with fail
        refine (HM _ hT2).out.mono ?_
        rintro e w3 ⟨rfl, hb3⟩
        have hT3 := hT2.below hb3
        have a3 := a2.trans (hb3.mono a2.size)
        go_wp2_with fail
        refine (HQ _ hT3).out.mono ?_
        rintro e w4 ⟨rfl, hb4⟩
        have hT4 := hT3.below hb4
        have a4 := a3.trans (hb4.mono a3.size)
        go_wp2_with fail
        refine (HN _ hT4).out.mono ?_
        rintro e w5 ⟨rfl, hb5⟩
        have a5 := a4.trans (hb5.mono a4.size)
        go_wp2
        go_ret
        exact ⟨rfl, a5⟩
end Go.Proofs.YtodkjhbnodcbhaaDoor
