/-
  pursuivantlaw03.UtfJoins: it returns true.
-/
import Derived.Test.YtonjnonpajkmlaaDoorUtfLives
import Derived.Test.YtonjnonpajkmlaaDoorUtfV
namespace Go.Proofs.YtonjnonpajkmlaaDoor
open Go.RowKit Utf
set_option linter.unusedVariables false

theorem str_app (a b : ByteArray) : (a ++ b).data.toList = a.data.toList ++ b.data.toList := by rw [ByteArray.data_append, Array.toList_append]
theorem ext_zero (s : ByteArray) (k : Nat) : (s.extract 0 k).data.toList = s.data.toList.take k := by simp
set_option maxRecDepth 1000000 in
set_option maxHeartbeats 2000000 in
theorem utfJoins_walk (a b : ByteArray) (x : Int) (w : World) (ht : tabU w) : Calls Tryd.prog 6 #[.string a, .string b, .int .i64 x] w fun e w' => e = .returned (.bool true) ∧ Below w.heap.size w w' := by
  have HT := Lib.hid ht
  have HL := Lib.hid (fun w ht => lives_any w ht)
  clear ht
  rcases (by omega : 3000 < a.size ∨ a.size ≤ 3000) with g1 | g1
  · have e1 : decide (3000 < (a.size : Int)) = true := by rw [decide_eq_true_iff]; omega
    go_enter Tryd.func6, Tryd.ntmps6
    go_wp2_with fail
    refine (HL.out _ HT.out).mono ?_
    rintro e w1 ⟨rfl, hb1⟩
    go_wp2
    go_ret
    exact ⟨rfl, hb1⟩
  have e1 : decide (3000 < (a.size : Int)) = false := by rw [decide_eq_false_iff_not]; omega
  rcases (by omega : 3000 < b.size ∨ b.size ≤ 3000) with g2 | g2
  · have e2 : decide (3000 < (b.size : Int)) = true := by rw [decide_eq_true_iff]; omega
    go_enter Tryd.func6, Tryd.ntmps6
    go_wp2_with fail
    refine (HL.out _ HT.out).mono ?_
    rintro e w1 ⟨rfl, hb1⟩
    go_wp2
    go_ret
    exact ⟨rfl, hb1⟩
  have e2 : decide (3000 < (b.size : Int)) = false := by rw [decide_eq_false_iff_not]; omega
  have ha := fun w => rvalid_any a w (by omega)
  have hb := fun w => rvalid_any b w (by omega)
  rcases Bool.eq_false_or_eq_true (Lib.validD a.data.toList) with va | va
  case inr =>
    rw [va] at ha
    have HA := Lib.hid ha
    clear ha hb va
    go_enter Tryd.func6, Tryd.ntmps6
    go_wp2_with fail
    refine (HA.out _).mono ?_
    rintro e w1 ⟨rfl, hb1⟩
    have HT1 := Lib.hid (HT.out.below hb1)
    have HB1 := Lib.hid hb1
    clear hb1
    go_wp2_with fail
    refine (HL.out _ HT1.out).mono ?_
    rintro e w2 ⟨rfl, hb2⟩
    go_wp2
    go_ret
    exact ⟨rfl, below2 HB1.out hb2⟩
  rw [va] at ha
  have HA := Lib.hid ha
  clear ha
  rcases Bool.eq_false_or_eq_true (Lib.validD b.data.toList) with vb | vb
  case inr =>
    rw [vb] at hb
    have HB := Lib.hid hb
    clear hb va vb
    go_enter Tryd.func6, Tryd.ntmps6
    go_wp2_with fail
    refine (HA.out _).mono ?_
    rintro e w1 ⟨rfl, hb1⟩
    have HT1 := Lib.hid (HT.out.below hb1)
    have HB1 := Lib.hid hb1
    clear hb1
    go_wp2_with fail
    refine (HB.out _).mono ?_
    rintro e w2 ⟨rfl, hb2⟩
    have HT2 := Lib.hid (HT1.out.below hb2)
    have HB2 := Lib.hid (below2 HB1.out hb2)
    clear hb2
    go_wp2_with fail
    refine (HL.out _ HT2.out).mono ?_
    rintro e w3 ⟨rfl, hb3⟩
    go_wp2
    go_ret
    exact ⟨rfl, below2 HB2.out hb3⟩
  rw [vb] at hb
  have HB := Lib.hid hb
  clear hb
  have hab := fun w ht => valid_any (a ++ b) w ht (by rw [ByteArray.size_append]; omega)
  rw [str_app, valid_app _ _ _ (Nat.le_refl _) va, vb] at hab
  have HAB := Lib.hid hab
  have VA := Lib.hid va
  clear hab vb va
  have hsl : a.data.toList.length = a.size := by cases a; simp [ByteArray.size]
  have HSL := Lib.hid hsl
  clear hsl
  rcases (by omega : x < 0 ∨ 0 ≤ x ∧ (a.size : Int) < x ∨ 0 ≤ x ∧ x ≤ (a.size : Int)) with g3 | ⟨g3, g4⟩ | ⟨g3, g4⟩
  · have e3 : decide (x < 0) = true := by rw [decide_eq_true_iff]; omega
    go_enter Tryd.func6, Tryd.ntmps6
    go_wp2_with fail
    refine (HA.out _).mono ?_
    rintro e w1 ⟨rfl, hb1⟩
    have HT1 := Lib.hid (HT.out.below hb1)
    have HB1 := Lib.hid hb1
    clear hb1
    go_wp2_with fail
    refine (HB.out _).mono ?_
    rintro e w2 ⟨rfl, hb2⟩
    have HT2 := Lib.hid (HT1.out.below hb2)
    have HB2 := Lib.hid (below2 HB1.out hb2)
    clear hb2
    go_wp2_with fail
    refine (HL.out _ HT2.out).mono ?_
    rintro e w3 ⟨rfl, hb3⟩
    have HT3 := Lib.hid (HT2.out.below hb3)
    have HB3 := Lib.hid (below2 HB2.out hb3)
    clear hb3
    go_wp2_with fail
    refine (HAB.out _ HT3.out).mono ?_
    rintro e w4 ⟨rfl, hb4⟩
    have HT4 := Lib.hid (HT3.out.below hb4)
    have HB4 := Lib.hid (below2 HB3.out hb4)
    clear hb4
    go_wp2
    go_ret
    exact ⟨rfl, HB4.out⟩
  · have e3 : decide (x < 0) = false := by rw [decide_eq_false_iff_not]; omega
    have e4 : decide ((a.size : Int) < x) = true := by rw [decide_eq_true_iff]; omega
    go_enter Tryd.func6, Tryd.ntmps6
    go_wp2_with fail
    refine (HA.out _).mono ?_
    rintro e w1 ⟨rfl, hb1⟩
    have HT1 := Lib.hid (HT.out.below hb1)
    have HB1 := Lib.hid hb1
    clear hb1
    go_wp2_with fail
    refine (HB.out _).mono ?_
    rintro e w2 ⟨rfl, hb2⟩
    have HT2 := Lib.hid (HT1.out.below hb2)
    have HB2 := Lib.hid (below2 HB1.out hb2)
    clear hb2
    go_wp2_with fail
    refine (HL.out _ HT2.out).mono ?_
    rintro e w3 ⟨rfl, hb3⟩
    have HT3 := Lib.hid (HT2.out.below hb3)
    have HB3 := Lib.hid (below2 HB2.out hb3)
    clear hb3
    go_wp2_with fail
    refine (HAB.out _ HT3.out).mono ?_
    rintro e w4 ⟨rfl, hb4⟩
    have HT4 := Lib.hid (HT3.out.below hb4)
    have HB4 := Lib.hid (below2 HB3.out hb4)
    clear hb4
    go_wp2
    go_ret
    exact ⟨rfl, HB4.out⟩
  · obtain ⟨k, rfl⟩ : ∃ k : Nat, x = k := ⟨x.toNat, by omega⟩
    have e3 : decide ((k : Int) < 0) = false := by rw [decide_eq_false_iff_not]; omega
    have e4 : decide ((a.size : Int) < (k : Int)) = false := by rw [decide_eq_false_iff_not]; omega
    have hcut := fun w ht => valid_any (a.extract 0 k) w ht (by rw [ByteArray.size_extract]; omega)
    rw [ext_zero] at hcut
    rcases (by omega : k = a.size ∨ k < a.size) with hk | hk
    · have e5 : ((k : Int) == (a.size : Int)) = true := by rw [beq_iff_eq]; omega
      have hfull := fun w ht => valid_any a w ht (by omega)
      rw [VA.out] at hfull
      have HC := Lib.hid hfull
      clear hcut hfull
      go_enter Tryd.func6, Tryd.ntmps6
      go_wp2_with fail
      refine (HA.out _).mono ?_
      rintro e w1 ⟨rfl, hb1⟩
      have HT1 := Lib.hid (HT.out.below hb1)
      have HB1 := Lib.hid hb1
      clear hb1
      go_wp2_with fail
      refine (HB.out _).mono ?_
      rintro e w2 ⟨rfl, hb2⟩
      have HT2 := Lib.hid (HT1.out.below hb2)
      have HB2 := Lib.hid (below2 HB1.out hb2)
      clear hb2
      go_wp2_with fail
      refine (HL.out _ HT2.out).mono ?_
      rintro e w3 ⟨rfl, hb3⟩
      have HT3 := Lib.hid (HT2.out.below hb3)
      have HB3 := Lib.hid (below2 HB2.out hb3)
      clear hb3
      go_wp2_with fail
      refine (HAB.out _ HT3.out).mono ?_
      rintro e w4 ⟨rfl, hb4⟩
      have HT4 := Lib.hid (HT3.out.below hb4)
      have HB4 := Lib.hid (below2 HB3.out hb4)
      clear hb4
      go_wp2_with fail
      refine (HC.out _ HT4.out).mono ?_
      rintro e w5 ⟨rfl, hb5⟩
      go_wp2
      go_ret
      exact ⟨rfl, below2 HB4.out hb5⟩
    · have e5 : ((k : Int) == (a.size : Int)) = false := by rw [beq_eq_false_iff_ne]; omega
      have hv := valid_cut _ a.data.toList k (by rw [HSL.out]; exact hk) (Nat.le_refl _) VA.out
      have hg : a.data.toList[k]'(by rw [HSL.out]; exact hk) = a[k] := rfl
      rw [hg] at hv
      obtain ⟨c, hc⟩ : ∃ c, c = a[k] := ⟨_, rfl⟩
      have hci := hc.symm
      rw [← hc] at hv
      obtain ⟨v, hvv⟩ : ∃ v, v = Lib.validD (a.data.toList.take k) := ⟨_, rfl⟩
      rw [← hvv] at hv hcut
      have HC := Lib.hid hcut
      clear hcut hvv hc hg
      have hc256 : c.toNat < 256 := c.toNat_lt
      rcases (by omega : c.toNat < 128 ∨ 128 ≤ c.toNat ∧ c.toNat < 192 ∨ 192 ≤ c.toNat) with q | ⟨q, q2⟩ | q
      · have e6 : decide ((c.toNat : Int) < 128) = true := by rw [decide_eq_true_iff]; omega
        obtain rfl : v = true := hv.2 (.inl q)
        clear hv
        go_enter Tryd.func6, Tryd.ntmps6
        go_wp2_with fail
        refine (HA.out _).mono ?_
        rintro e w1 ⟨rfl, hb1⟩
        have HT1 := Lib.hid (HT.out.below hb1)
        have HB1 := Lib.hid hb1
        clear hb1
        go_wp2_with fail
        refine (HB.out _).mono ?_
        rintro e w2 ⟨rfl, hb2⟩
        have HT2 := Lib.hid (HT1.out.below hb2)
        have HB2 := Lib.hid (below2 HB1.out hb2)
        clear hb2
        go_wp2_with fail
        refine (HL.out _ HT2.out).mono ?_
        rintro e w3 ⟨rfl, hb3⟩
        have HT3 := Lib.hid (HT2.out.below hb3)
        have HB3 := Lib.hid (below2 HB2.out hb3)
        clear hb3
        go_wp2_with fail
        refine (HAB.out _ HT3.out).mono ?_
        rintro e w4 ⟨rfl, hb4⟩
        have HT4 := Lib.hid (HT3.out.below hb4)
        have HB4 := Lib.hid (below2 HB3.out hb4)
        clear hb4
        go_wp2_with fail
        refine (HC.out _ HT4.out).mono ?_
        rintro e w5 ⟨rfl, hb5⟩
        go_wp2
        go_ret
        exact ⟨rfl, below2 HB4.out hb5⟩
      · have e6 : decide ((c.toNat : Int) < 128) = false := by rw [decide_eq_false_iff_not]; omega
        have e7 : decide ((192 : Int) ≤ (c.toNat : Int)) = false := by rw [decide_eq_false_iff_not]; omega
        obtain rfl : v = false := by
          cases v
          · rfl
          · have := hv.1 rfl; omega
        clear hv
        go_enter Tryd.func6, Tryd.ntmps6
        go_wp2_with fail
        refine (HA.out _).mono ?_
        rintro e w1 ⟨rfl, hb1⟩
        have HT1 := Lib.hid (HT.out.below hb1)
        have HB1 := Lib.hid hb1
        clear hb1
        go_wp2_with fail
        refine (HB.out _).mono ?_
        rintro e w2 ⟨rfl, hb2⟩
        have HT2 := Lib.hid (HT1.out.below hb2)
        have HB2 := Lib.hid (below2 HB1.out hb2)
        clear hb2
        go_wp2_with fail
        refine (HL.out _ HT2.out).mono ?_
        rintro e w3 ⟨rfl, hb3⟩
        have HT3 := Lib.hid (HT2.out.below hb3)
        have HB3 := Lib.hid (below2 HB2.out hb3)
        clear hb3
        go_wp2_with fail
        refine (HAB.out _ HT3.out).mono ?_
        rintro e w4 ⟨rfl, hb4⟩
        have HT4 := Lib.hid (HT3.out.below hb4)
        have HB4 := Lib.hid (below2 HB3.out hb4)
        clear hb4
        go_wp2_with fail
        refine (HC.out _ HT4.out).mono ?_
        rintro e w5 ⟨rfl, hb5⟩
        go_wp2
        go_ret
        exact ⟨rfl, below2 HB4.out hb5⟩
      · have e6 : decide ((c.toNat : Int) < 128) = false := by rw [decide_eq_false_iff_not]; omega
        have e7 : decide ((192 : Int) ≤ (c.toNat : Int)) = true := by rw [decide_eq_true_iff]; omega
        obtain rfl : v = true := hv.2 (.inr q)
        clear hv
        go_enter Tryd.func6, Tryd.ntmps6
        go_wp2_with fail
        refine (HA.out _).mono ?_
        rintro e w1 ⟨rfl, hb1⟩
        have HT1 := Lib.hid (HT.out.below hb1)
        have HB1 := Lib.hid hb1
        clear hb1
        go_wp2_with fail
        refine (HB.out _).mono ?_
        rintro e w2 ⟨rfl, hb2⟩
        have HT2 := Lib.hid (HT1.out.below hb2)
        have HB2 := Lib.hid (below2 HB1.out hb2)
        clear hb2
        go_wp2_with fail
        refine (HL.out _ HT2.out).mono ?_
        rintro e w3 ⟨rfl, hb3⟩
        have HT3 := Lib.hid (HT2.out.below hb3)
        have HB3 := Lib.hid (below2 HB2.out hb3)
        clear hb3
        go_wp2_with fail
        refine (HAB.out _ HT3.out).mono ?_
        rintro e w4 ⟨rfl, hb4⟩
        have HT4 := Lib.hid (HT3.out.below hb4)
        have HB4 := Lib.hid (below2 HB3.out hb4)
        clear hb4
        go_wp2_with fail
        refine (HC.out _ HT4.out).mono ?_
        rintro e w5 ⟨rfl, hb5⟩
        go_wp2
        go_ret
        exact ⟨rfl, below2 HB4.out hb5⟩
end Go.Proofs.YtonjnonpajkmlaaDoor
