/-
  The laws of dates, walked: DateTimes, DateParses.
-/
import Derived.Test.YtahcajhacfnffaaDoorDateL1
namespace Go.Proofs.YtahcajhacfnffaaDoor
open Go.RowKit
set_option linter.unusedVariables false

set_option maxRecDepth 100000 in
set_option maxHeartbeats 1600000 in
theorem dateTimes_at (y m d h i s : Int) (W : World) (htab : tabP W) (a b : Int) (ok : Bool)
    (hT : ∀ w, Calls Tryd.prog 16 #[dateV y m d h i s] w fun e w' => e = .returned (.tuple #[.int .i64 a, .int .i64 b]) ∧ Below w.heap.size w w')
    (hR : ∀ w, Calls Tryd.prog 19 #[dateV y m d h i s] w fun e w' => e = .returned (.tuple #[.int .i64 a, .bool ok]) ∧ Below w.heap.size w w')
    (hok : ok = true ∧ b = 0 ∨ ok = false ∧ b = 100) :
    Calls Tryd.prog 4 #[dateV y m d h i s] W fun e w' => e = .returned (.bool true) ∧ Below W.heap.size W w' := by
  have HT := Lib.hid htab
  have HTM := Lib.hid hT
  have HRM := Lib.hid hR
  clear htab hT hR
  have K0 := Lib.hid (Blk.new W 23 #[.int .i64 y, .int .i64 m, .int .i64 d, .int .i64 h, .int .i64 i, .int .i64 s])
  have ha : (a != a) = false := by simp
  have hl : (Cal.leapB y == Cal.leapB y) = true := by simp
  have hdm : (Cal.dimZ y m == Cal.dimZ y m) = true := by simp
  rcases hok with ⟨rfl, rfl⟩ | ⟨rfl, rfl⟩
  all_goals
    go_enter Tryd.func4, Tryd.ntmps4
    go_wp2_with fail
    refine (HTM.out _).mono ?_
    rintro e w1 ⟨rfl, hb1⟩
    have HB1 := Lib.hid (below2 (below_new W _) hb1)
    have K1 := Lib.hid (K0.out.onw hb1)
    clear hb1
    obtain ⟨a0, a1, a2, a3, a4, a5⟩ := K1.out.six
    go_wp2_with fail
    refine (HRM.out _).mono ?_
    rintro e w2 ⟨rfl, hb2⟩
    have HB2 := Lib.hid (below2 HB1.out hb2)
    have K2 := Lib.hid (K1.out.onw hb2)
    clear hb2 HB1 K1 a0 a1 a2 a3 a4 a5
    go_wp2_with fail
    refine (lives_any _ (HT.out.below HB2.out)).mono ?_
    rintro e w3 ⟨rfl, hb3⟩
    have HB3 := Lib.hid (below2 HB2.out hb3)
    obtain ⟨a0, a1, a2, a3, a4, a5⟩ := (K2.out.onw hb3).six
    clear hb3 HB2 K2
    go_wp2
    go_quiet ((first | (go_at_call 20; exact quiet_l (days_any _ _ _)) | (go_at_call 21; exact quiet_l (rdays_any _ _ _)) | (go_at_call 22; exact quiet_l (leap_any _ _)) | (go_at_call 23; exact quiet_l (rleap_any _ _))))
    go_wp2
    go_ret
    exact ⟨rfl, dnB HB3.out _⟩
theorem dateTimes_walk (y m d h i s : Int) (W : World) (htab : tabP W) :
    Calls Tryd.prog 4 #[dateV y m d h i s] W fun e w' => e = .returned (.bool true) ∧ Below W.heap.size W w' := by
  cases hv : valB y m d h i s
  · exact dateTimes_at y m d h i s W htab 0 100 false (fun w => time_no _ _ _ _ _ _ w hv) (fun w => rtime_no _ _ _ _ _ _ w hv) (.inr ⟨rfl, rfl⟩)
  · exact dateTimes_at y m d h i s W htab (timV y m d h i s) 0 true (fun w => time_yes _ _ _ _ _ _ w hv) (fun w => rtime_yes _ _ _ _ _ _ w hv) (.inl ⟨rfl, rfl⟩)

set_option maxRecDepth 100000 in
set_option maxHeartbeats 1600000 in
theorem dateParses_at (s : ByteArray) (W : World) (htab : tabP W) (a b : Int) (ok : Bool)
    (hT : ∀ w, Calls Tryd.prog 17 #[.string s] w fun e w' => e = .returned (.tuple #[.int .i64 a, .int .i64 b]) ∧ Below w.heap.size w w')
    (hR : ∀ w, Calls Tryd.prog 24 #[.string s] w fun e w' => e = .returned (.tuple #[.int .i64 a, .bool ok]) ∧ Below w.heap.size w w')
    (hok : ok = true ∧ b = 0 ∨ ok = false ∧ b = 100) :
    Calls Tryd.prog 5 #[.string s] W fun e w' => e = .returned (.bool true) ∧ Below W.heap.size W w' := by
  have HT := Lib.hid htab
  have HTM := Lib.hid hT
  have HRM := Lib.hid hR
  clear htab hT hR
  have ha : (a == a) = true := by simp
  rcases hok with ⟨rfl, rfl⟩ | ⟨rfl, rfl⟩
  all_goals
    go_enter Tryd.func5, Tryd.ntmps5
    go_wp2_with fail
    refine (HTM.out _).mono ?_
    rintro e w1 ⟨rfl, hb1⟩
    go_wp2_with fail
    refine (HRM.out _).mono ?_
    rintro e w2 ⟨rfl, hb2⟩
    have HB2 := Lib.hid (below2 hb1 hb2)
    clear hb1 hb2
    go_wp2_with fail
    refine (lives_any _ (HT.out.below HB2.out)).mono ?_
    rintro e w3 ⟨rfl, hb3⟩
    go_wp2
    go_ret
    exact ⟨rfl, below2 HB2.out hb3⟩
theorem dateParses_walk (s : ByteArray) (W : World) (htab : tabP W) :
    Calls Tryd.prog 5 #[.string s] W fun e w' => e = .returned (.bool true) ∧ Below W.heap.size W w' := by
  by_cases hs : s.size = 20
  · cases hok : okB s
    · exact dateParses_at s W htab 0 100 false (fun w => parse_no s w hs hok) (fun w => rparse_no s w hs hok) (.inr ⟨rfl, rfl⟩)
    · cases hv : valB (dgs (s.extract 0 4)) (dgs (s.extract 5 7)) (dgs (s.extract 8 10)) (dgs (s.extract 11 13)) (dgs (s.extract 14 16)) (dgs (s.extract 17 19))
      · exact dateParses_at s W htab 0 100 false (fun w => parse_bad s w hs hok hv) (fun w => rparse_bad s w hs hok hv) (.inr ⟨rfl, rfl⟩)
      · exact dateParses_at s W htab _ 0 true (fun w => parse_yes s w hs hok hv) (fun w => rparse_yes s w hs hok hv) (.inl ⟨rfl, rfl⟩)
  · have h : ((s.size : Int) != 20) = true := by simp; omega
    exact dateParses_at s W htab 0 100 false (fun w => parse_len s w h) (fun w => rparse_len s w h) (.inr ⟨rfl, rfl⟩)
end Go.Proofs.YtahcajhacfnffaaDoor
