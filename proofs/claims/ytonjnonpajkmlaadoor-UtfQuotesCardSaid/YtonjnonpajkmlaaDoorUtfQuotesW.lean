/-
  pursuivantlaw03.UtfQuotes: it returns true.
-/
import Derived.Test.YtonjnonpajkmlaaDoorUtfLives
import Derived.Test.YtonjnonpajkmlaaDoorUtfUL
import Derived.Test.YtonjnonpajkmlaaDoorUtfRQ
namespace Go.Proofs.YtonjnonpajkmlaaDoor
open Go.RowKit Utf
set_option linter.unusedVariables false

theorem quoteL_len (l : List UInt8) : (quoteL l).length ≤ 6 * l.length + 2 := by
  unfold quoteL
  have := fm_len l
  simp only [List.length_append, List.length_cons, List.length_nil]; omega
theorem unquote_lit (s b : ByteArray) (hs : s.size ≤ 3000) (hb : b.size ≤ 3000) (hv : Lib.validD s.data.toList = true) (w : World) (ht : tabU w) :
    Calls Tryd.prog 17 #[.string ((⟨(quoteL s.data.toList).toArray⟩ : ByteArray) ++ b)] w fun e w' => e = .returned (.tuple #[.string s, .int .i64 ((quoteL s.data.toList).length : Nat), .int .i64 0]) ∧ Below w.heap.size w w' := by
  have hsl : s.data.toList.length = s.size := by cases s; simp [ByteArray.size]
  obtain ⟨F, hF⟩ : ∃ F : ByteArray, F = (⟨(quoteL s.data.toList).toArray⟩ : ByteArray) ++ b := ⟨_, rfl⟩
  have hFl : F.data.toList = [34] ++ (s.data.toList.flatMap qs ++ ([34] ++ b.data.toList)) := by
    rw [hF, ByteArray.data_append, Array.toList_append]
    simp [quoteL, List.append_assoc]
  have hql := quoteL_len s.data.toList
  have hFs : F.size ≤ 1000000 := by
    rw [hF, ByteArray.size_append]
    have : (⟨(quoteL s.data.toList).toArray⟩ : ByteArray).size = (quoteL s.data.toList).length := rfl
    omega
  have hF1 : 1 ≤ F.size := by rw [size_l hFl]; simp
  rw [← hF]
  obtain ⟨k, hk⟩ := uq_lit F (by omega) b.data.toList _ s.data.toList [34] [] (Nat.le_refl _) hv hFl
  have h := unquote_any F k s.data.toList (quoteL s.data.toList).length 0 w ht hFs hF1 (by unfold qAt; rw [ext_drop, hFl]; simp [Lib.hasPrefix]) (by
    have e1 : (quoteL s.data.toList).length = ([34] : List UInt8).length + (s.data.toList.flatMap qs).length + 1 := by simp only [quoteL, List.length_append]; rfl
    rw [e1]
    exact hk)
  exact h
set_option maxRecDepth 1000000 in
set_option maxHeartbeats 2000000 in
theorem utfQuotes_walk (s b : ByteArray) (w : World) (ht : tabU w) : Calls Tryd.prog 5 #[.string s, .string b] w fun e w' => e = .returned (.bool true) ∧ Below w.heap.size w w' := by
  have HT := Lib.hid ht
  have HL := Lib.hid (fun w ht => lives_any w ht)
  clear ht
  rcases (by omega : 3000 < s.size ∨ s.size ≤ 3000) with g1 | g1
  · have e1 : decide (3000 < (s.size : Int)) = true := by rw [decide_eq_true_iff]; omega
    go_enter Tryd.func5, Tryd.ntmps5
    go_wp2_with fail
    refine (HL.out _ HT.out).mono ?_
    rintro e w1 ⟨rfl, hb1⟩
    go_wp2
    go_ret
    exact ⟨rfl, hb1⟩
  have e1 : decide (3000 < (s.size : Int)) = false := by rw [decide_eq_false_iff_not]; omega
  rcases (by omega : 3000 < b.size ∨ b.size ≤ 3000) with g2 | g2
  · have e2 : decide (3000 < (b.size : Int)) = true := by rw [decide_eq_true_iff]; omega
    go_enter Tryd.func5, Tryd.ntmps5
    go_wp2_with fail
    refine (HL.out _ HT.out).mono ?_
    rintro e w1 ⟨rfl, hb1⟩
    go_wp2
    go_ret
    exact ⟨rfl, hb1⟩
  have e2 : decide (3000 < (b.size : Int)) = false := by rw [decide_eq_false_iff_not]; omega
  have hrv := fun w => rvalid_any s w (by omega)
  rcases Bool.eq_false_or_eq_true (Lib.validD s.data.toList) with va | va
  case inr =>
    have hq := fun w ht => quote_no s w ht (by omega) va
    rw [va] at hrv
    have HRV := Lib.hid hrv
    have HQ := Lib.hid hq
    clear hrv hq va
    go_enter Tryd.func5, Tryd.ntmps5
    go_wp2_with fail
    refine (HQ.out _ HT.out).mono ?_
    rintro e w1 ⟨rfl, hb1⟩
    have HT1 := Lib.hid (HT.out.below hb1)
    have HB1 := Lib.hid hb1
    clear hb1
    go_wp2_with fail
    refine (HL.out _ HT1.out).mono ?_
    rintro e w2 ⟨rfl, hb2⟩
    have HB2 := Lib.hid (below2 HB1.out hb2)
    clear hb2
    go_wp2_with fail
    refine (HRV.out _).mono ?_
    rintro e w3 ⟨rfl, hb3⟩
    go_wp2
    go_ret
    exact ⟨rfl, below2 HB2.out hb3⟩
  have hq := fun w ht => quote_yes s w ht (by omega) va
  have hu := fun w ht => unquote_lit s b g1 g2 va w ht
  have hr := fun w => rquote_any s w (by omega)
  rw [va] at hrv
  obtain ⟨n, hn⟩ : ∃ n, n = (quoteL s.data.toList).length := ⟨_, rfl⟩
  obtain ⟨Q, hQ⟩ : ∃ Q : ByteArray, Q = ⟨(quoteL s.data.toList).toArray⟩ := ⟨_, rfl⟩
  have hQs : Q.size = n := by rw [hQ, hn]; rfl
  have hnb : n ≤ 18002 := by have := quoteL_len s.data.toList; have h2 : s.data.toList.length = s.size := by cases s; simp [ByteArray.size]
                             omega
  simp only [← hn, ← hQ] at hq hu hr
  have HRV := Lib.hid hrv
  have HQ := Lib.hid hq
  have HU := Lib.hid hu
  have HR := Lib.hid hr
  clear hrv hq hu hr va hQ hn
  have c1 : (Q.toList == Q.toList) = true := by simp
  have c2 : (s.toList == s.toList) = true := by simp
  go_enter Tryd.func5, Tryd.ntmps5
  go_wp2_with fail
  refine (HQ.out _ HT.out).mono ?_
  rintro e w1 ⟨rfl, hb1⟩
  have HT1 := Lib.hid (HT.out.below hb1)
  have HB1 := Lib.hid hb1
  clear hb1
  go_wp2_with fail
  refine (HL.out _ HT1.out).mono ?_
  rintro e w2 ⟨rfl, hb2⟩
  have HT2 := Lib.hid (HT1.out.below hb2)
  have HB2 := Lib.hid (below2 HB1.out hb2)
  clear hb2
  go_wp2_with fail
  refine (HRV.out _).mono ?_
  rintro e w3 ⟨rfl, hb3⟩
  have HT3 := Lib.hid (HT2.out.below hb3)
  have HB3 := Lib.hid (below2 HB2.out hb3)
  clear hb3
  go_wp2_with fail
  refine (HU.out _ HT3.out).mono ?_
  rintro e w4 ⟨rfl, hb4⟩
  have HB4 := Lib.hid (below2 HB3.out hb4)
  clear hb4
  go_wp2_with fail
  refine (HR.out _).mono ?_
  rintro e w5 ⟨rfl, hb5⟩
  go_wp2
  go_ret
  exact ⟨rfl, below2 HB4.out hb5⟩
end Go.Proofs.YtonjnonpajkmlaaDoor
