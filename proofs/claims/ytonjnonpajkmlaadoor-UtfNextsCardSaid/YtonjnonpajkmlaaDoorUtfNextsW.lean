/-
  pursuivantlaw03.UtfNexts, UtfEncodes, UtfJoins: each returns true.
-/
import Derived.Test.YtonjnonpajkmlaaDoorUtfLives
namespace Go.Proofs.YtonjnonpajkmlaaDoor
open Go.RowKit Utf
set_option linter.unusedVariables false

set_option maxRecDepth 1000000 in
set_option maxHeartbeats 2000000 in
theorem utfNexts_walk (s : ByteArray) (w : World) (ht : tabU w) : Calls Tryd.prog 3 #[.string s] w fun e w' => e = .returned (.bool true) ∧ Below w.heap.size w w' := by
  have HT := Lib.hid ht
  have HL := Lib.hid (fun w ht => lives_any w ht)
  clear ht
  go_enter Tryd.func3, Tryd.ntmps3
  rcases (by omega : 5000 < s.size ∨ s.size ≤ 5000) with g | g
  · have e1 : decide (5000 < (s.size : Int)) = true := by rw [decide_eq_true_iff]; omega
    go_wp2_with fail
    refine (HL.out _ HT.out).mono ?_
    rintro e w1 ⟨rfl, hb1⟩
    go_wp2
    go_ret
    exact ⟨rfl, hb1⟩
  · have e1 : decide (5000 < (s.size : Int)) = false := by rw [decide_eq_false_iff_not]; omega
    have hN := fun w ht => next_any s w ht
    have hR := fun w => rnext_any s w (by omega)
    have hV := fun w ht => valid_any s w ht (by omega)
    have hRV := fun w => rvalid_any s w (by omega)
    obtain ⟨c, hc⟩ : ∃ c, c = (nxt s.data.toList).1 := ⟨_, rfl⟩
    obtain ⟨n, hn⟩ : ∃ n, n = (nxt s.data.toList).2 := ⟨_, rfl⟩
    obtain ⟨v, hv⟩ : ∃ v, v = Lib.validD s.data.toList := ⟨_, rfl⟩
    simp only [← hc, ← hn, ← hv] at hN hR hV hRV
    have HN := Lib.hid hN
    have HR := Lib.hid hR
    have HV := Lib.hid hV
    have HRV := Lib.hid hRV
    clear hN hR hV hRV hc hn hv
    go_wp2_with fail
    refine (HN.out _ HT.out).mono ?_
    rintro e w1 ⟨rfl, hb1⟩
    have HT1 := Lib.hid (HT.out.below hb1)
    have HB1 := Lib.hid hb1
    clear hb1
    go_wp2_with fail
    refine (HR.out _).mono ?_
    rintro e w2 ⟨rfl, hb2⟩
    have HT2 := Lib.hid (HT1.out.below hb2)
    have HB2 := Lib.hid (below2 HB1.out hb2)
    clear hb2
    go_wp2_with fail
    refine (HL.out _ HT2.out).mono ?_
    rintro e w3 ⟨rfl, hb3⟩
    have HT3 := Lib.hid (HT2.out.below hb3)
    have HB3 := Lib.hid (below2 HB2.out hb3)
    clear hb3
    go_wp2_with fail
    refine (HV.out _ HT3.out).mono ?_
    rintro e w4 ⟨rfl, hb4⟩
    have HB4 := Lib.hid (below2 HB3.out hb4)
    clear hb4
    go_wp2_with fail
    refine (HRV.out _).mono ?_
    rintro e w5 ⟨rfl, hb5⟩
    go_wp2
    go_ret
    exact ⟨by simp, below2 HB4.out hb5⟩
end Go.Proofs.YtonjnonpajkmlaaDoor
