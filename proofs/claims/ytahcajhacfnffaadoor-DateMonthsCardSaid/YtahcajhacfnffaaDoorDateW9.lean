/-
  The reference's Parse; what comes of every program (lives).
-/
import Derived.Test.YtahcajhacfnffaaDoorDateW8
import Derived.Test.YtahcajhacfnffaaDoorDateW6
namespace Go.Proofs.YtahcajhacfnffaaDoor
open Go.RowKit
set_option linter.unusedVariables false

set_option maxHeartbeats 400000 in
theorem rparse_len (s : ByteArray) (w : World) (h : ((s.size : Int) != 20) = true) :
    Calls Tryd.prog 24 #[.string s] w fun e w' => e = .returned (.tuple #[.int .i64 0, .bool false]) ∧ Below w.heap.size w w' := by
  go_enter Tryd.func24, Tryd.ntmps24
  go_wp2
  go_ret2
  exact ⟨rfl, Below.refl _ _⟩
set_option maxRecDepth 100000 in
set_option maxHeartbeats 1600000 in
theorem rparse_no (s : ByteArray) (w : World) (hs : s.size = 20) (hok : okB s = false) :
    Calls Tryd.prog 24 #[.string s] w fun e w' => e = .returned (.tuple #[.int .i64 0, .bool false]) ∧ Below w.heap.size w w' := by
  have hn := okB_false hok
  have e4 := ch_at (s := s) (k := 4) (by omega)
  have e7 := ch_at (s := s) (k := 7) (by omega)
  have e10 := ch_at (s := s) (k := 10) (by omega)
  have e13 := ch_at (s := s) (k := 13) (by omega)
  have e16 := ch_at (s := s) (k := 16) (by omega)
  have e19 := ch_at (s := s) (k := 19) (by omega)
  have cs : ((((ch s 4).toNat : Int) != 45) = true) ∨ ((((ch s 4).toNat : Int) != 45) = false) ∧ (((((ch s 7).toNat : Int) != 45) = true) ∨ ((((ch s 7).toNat : Int) != 45) = false) ∧ (((((ch s 10).toNat : Int) != 84) = true) ∨ ((((ch s 10).toNat : Int) != 84) = false) ∧ (((((ch s 13).toNat : Int) != 58) = true) ∨ ((((ch s 13).toNat : Int) != 58) = false) ∧ (((((ch s 16).toNat : Int) != 58) = true) ∨ ((((ch s 16).toNat : Int) != 58) = false) ∧ ((((ch s 19).toNat : Int) != 90) = true))))) := by
    simp only [bne_iff_ne, bne_eq_false_iff_eq]
    omega
  clear hok hn
  rcases cs with a1 | ⟨a1, a2 | ⟨a2, a3 | ⟨a3, a4 | ⟨a4, a5 | ⟨a5, a6⟩⟩⟩⟩⟩
  all_goals
    go_enter Tryd.func24, Tryd.ntmps24
    go_wp2
    go_ret2
    exact ⟨rfl, Below.refl _ _⟩
set_option maxRecDepth 100000 in
set_option maxHeartbeats 1600000 in
theorem rparse_yes (s : ByteArray) (w : World) (hs : s.size = 20) (hok : okB s = true) (hv : valB (dgs (s.extract 0 4)) (dgs (s.extract 5 7)) (dgs (s.extract 8 10)) (dgs (s.extract 11 13)) (dgs (s.extract 14 16)) (dgs (s.extract 17 19)) = true) :
    Calls Tryd.prog 24 #[.string s] w fun e w' => e = .returned (.tuple #[.int .i64 (timV (dgs (s.extract 0 4)) (dgs (s.extract 5 7)) (dgs (s.extract 8 10)) (dgs (s.extract 11 13)) (dgs (s.extract 14 16)) (dgs (s.extract 17 19))), .bool true]) ∧ Below w.heap.size w w' := by
  obtain ⟨k4, k7, k10, k13, k16, k19⟩ := okB_true hok
  have e4 := ch_at (s := s) (k := 4) (by omega)
  have e7 := ch_at (s := s) (k := 7) (by omega)
  have e10 := ch_at (s := s) (k := 10) (by omega)
  have e13 := ch_at (s := s) (k := 13) (by omega)
  have e16 := ch_at (s := s) (k := 16) (by omega)
  have e19 := ch_at (s := s) (k := 19) (by omega)
  have HV := Lib.hid hv
  clear hok hv
  go_enter Tryd.func24, Tryd.ntmps24
  go_wp2_with fail
  refine (number_any s 0 4 _ hs (by omega) (by omega)).mono ?_
  rintro e w' ⟨rfl, rfl⟩
  go_wp2_with fail
  refine (number_any s 5 2 _ hs (by omega) (by omega)).mono ?_
  rintro e w' ⟨rfl, rfl⟩
  go_wp2_with fail
  refine (number_any s 8 2 _ hs (by omega) (by omega)).mono ?_
  rintro e w' ⟨rfl, rfl⟩
  go_wp2_with fail
  refine (number_any s 11 2 _ hs (by omega) (by omega)).mono ?_
  rintro e w' ⟨rfl, rfl⟩
  go_wp2_with fail
  refine (number_any s 14 2 _ hs (by omega) (by omega)).mono ?_
  rintro e w' ⟨rfl, rfl⟩
  go_wp2_with fail
  refine (number_any s 17 2 _ hs (by omega) (by omega)).mono ?_
  rintro e w' ⟨rfl, rfl⟩
  go_wp2_with fail
  refine (rtime_yes _ _ _ _ _ _ _ HV.out).mono ?_
  rintro e w1 ⟨rfl, hb⟩
  go_wp2
  go_ret2
  exact ⟨rfl, hb⟩
set_option maxRecDepth 100000 in
set_option maxHeartbeats 1600000 in
theorem rparse_bad (s : ByteArray) (w : World) (hs : s.size = 20) (hok : okB s = true) (hv : valB (dgs (s.extract 0 4)) (dgs (s.extract 5 7)) (dgs (s.extract 8 10)) (dgs (s.extract 11 13)) (dgs (s.extract 14 16)) (dgs (s.extract 17 19)) = false) :
    Calls Tryd.prog 24 #[.string s] w fun e w' => e = .returned (.tuple #[.int .i64 0, .bool false]) ∧ Below w.heap.size w w' := by
  obtain ⟨k4, k7, k10, k13, k16, k19⟩ := okB_true hok
  have e4 := ch_at (s := s) (k := 4) (by omega)
  have e7 := ch_at (s := s) (k := 7) (by omega)
  have e10 := ch_at (s := s) (k := 10) (by omega)
  have e13 := ch_at (s := s) (k := 13) (by omega)
  have e16 := ch_at (s := s) (k := 16) (by omega)
  have e19 := ch_at (s := s) (k := 19) (by omega)
  have HV := Lib.hid hv
  clear hok hv
  go_enter Tryd.func24, Tryd.ntmps24
  go_wp2_with fail
  refine (number_any s 0 4 _ hs (by omega) (by omega)).mono ?_
  rintro e w' ⟨rfl, rfl⟩
  go_wp2_with fail
  refine (number_any s 5 2 _ hs (by omega) (by omega)).mono ?_
  rintro e w' ⟨rfl, rfl⟩
  go_wp2_with fail
  refine (number_any s 8 2 _ hs (by omega) (by omega)).mono ?_
  rintro e w' ⟨rfl, rfl⟩
  go_wp2_with fail
  refine (number_any s 11 2 _ hs (by omega) (by omega)).mono ?_
  rintro e w' ⟨rfl, rfl⟩
  go_wp2_with fail
  refine (number_any s 14 2 _ hs (by omega) (by omega)).mono ?_
  rintro e w' ⟨rfl, rfl⟩
  go_wp2_with fail
  refine (number_any s 17 2 _ hs (by omega) (by omega)).mono ?_
  rintro e w' ⟨rfl, rfl⟩
  go_wp2_with fail
  refine (rtime_no _ _ _ _ _ _ _ HV.out).mono ?_
  rintro e w1 ⟨rfl, hb⟩
  go_wp2
  go_ret2
  exact ⟨rfl, hb⟩

theorem civ_lives : Cal.Civ (951782400 / 86400 + 719162) 2000 2 29 := ⟨by decide, by decide, by decide, by decide, by decide, by decide, by decide⟩
theorem lives_text (w : World) (htab : tabP w) : Calls Tryd.prog 12 #[.int .i64 951782400] w fun e w' => e = .returned (.tuple #[.string ⟨#[50, 48, 48, 48, 45, 48, 50, 45, 50, 57, 84, 48, 48, 58, 48, 48, 58, 48, 48, 90]⟩, .int .i64 0]) ∧ Below w.heap.size w w' :=
  text_yes 951782400 2000 2 29 w (by decide) civ_lives htab
def sGood : ByteArray := ⟨#[50, 48, 48, 48, 45, 48, 50, 45, 50, 57, 84, 48, 48, 58, 48, 48, 58, 48, 48, 90]⟩
def sBad : ByteArray := ⟨#[50, 48, 48, 49, 45, 48, 50, 45, 50, 57, 84, 48, 48, 58, 48, 48, 58, 48, 48, 90]⟩
theorem lives_parse (w : World) : Calls Tryd.prog 17 #[.string ⟨#[50, 48, 48, 48, 45, 48, 50, 45, 50, 57, 84, 48, 48, 58, 48, 48, 58, 48, 48, 90]⟩] w fun e w' => e = .returned (.tuple #[.int .i64 951782400, .int .i64 0]) ∧ Below w.heap.size w w' := by
  have h := parse_yes sGood w rfl (by decide +kernel) (by decide +kernel)
  have e : timV (dgs (sGood.extract 0 4)) (dgs (sGood.extract 5 7)) (dgs (sGood.extract 8 10)) (dgs (sGood.extract 11 13)) (dgs (sGood.extract 14 16)) (dgs (sGood.extract 17 19)) = 951782400 := by decide +kernel
  rw [e] at h
  exact h
theorem lives_bad (w : World) : Calls Tryd.prog 17 #[.string ⟨#[50, 48, 48, 49, 45, 48, 50, 45, 50, 57, 84, 48, 48, 58, 48, 48, 58, 48, 48, 90]⟩] w fun e w' => e = .returned (.tuple #[.int .i64 0, .int .i64 100]) ∧ Below w.heap.size w w' :=
  parse_bad sBad w rfl (by decide +kernel) (by decide +kernel)
theorem lives_wd0 (w : World) : Calls Tryd.prog 15 #[.int .i64 0] w fun e w' => e = .returned (.int .i64 4) ∧ w = w' := weekday_yes 0 w (by decide)
theorem lives_wd1 (w : World) : Calls Tryd.prog 15 #[.int .i64 (-1)] w fun e w' => e = .returned (.int .i64 0) ∧ w = w' := weekday_no (-1) w (by decide)
theorem lives_leap0 (w : World) : Calls Tryd.prog 22 #[.int .i64 2000] w fun e w' => e = .returned (.bool true) ∧ w = w' := leap_any 2000 w
theorem lives_leap1 (w : World) : Calls Tryd.prog 22 #[.int .i64 1900] w fun e w' => e = .returned (.bool false) ∧ w = w' := leap_any 1900 w
theorem lives_days (w : World) : Calls Tryd.prog 20 #[.int .i64 1999, .int .i64 2] w fun e w' => e = .returned (.int .i64 28) ∧ w = w' := days_any 1999 2 w

set_option maxRecDepth 100000 in
set_option maxHeartbeats 1600000 in
theorem lives_any (w : World) (htab : tabP w) : Calls Tryd.prog 14 #[] w fun e w' => e = .returned (.bool true) ∧ Below w.heap.size w w' := by
  have HT := Lib.hid htab
  clear htab
  go_enter Tryd.func14, Tryd.ntmps14
  go_wp2_with fail
  refine (lives_text _ HT.out).mono ?_
  rintro e w1 ⟨rfl, hb1⟩
  go_wp2_with fail
  refine (lives_parse _).mono ?_
  rintro e w2 ⟨rfl, hb2⟩
  go_wp2_with fail
  refine (lives_bad _).mono ?_
  rintro e w3 ⟨rfl, hb3⟩
  go_wp2_with fail
  refine (text_no (-1) _ (by decide)).mono ?_
  rintro e w4 ⟨rfl, hb4⟩
  have HB := Lib.hid (((hb1.trans (hb2.mono hb1.size)).trans (hb3.mono (Nat.le_trans hb1.size hb2.size))).trans (hb4.mono (Nat.le_trans (Nat.le_trans hb1.size hb2.size) hb3.size)))
  clear hb1 hb2 hb3 hb4
  go_wp2_with fail
  refine (lives_wd0 _).mono ?_
  rintro e w' ⟨rfl, rfl⟩
  go_wp2_with fail
  refine (lives_wd1 _).mono ?_
  rintro e w' ⟨rfl, rfl⟩
  go_wp2_with fail
  refine (lives_leap0 _).mono ?_
  rintro e w' ⟨rfl, rfl⟩
  go_wp2_with fail
  refine (lives_leap1 _).mono ?_
  rintro e w' ⟨rfl, rfl⟩
  go_wp2_with fail
  refine (lives_days _).mono ?_
  rintro e w' ⟨rfl, rfl⟩
  go_wp2
  go_ret
  exact ⟨rfl, HB.out⟩

end Go.Proofs.YtahcajhacfnffaaDoor
