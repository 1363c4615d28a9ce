/-
  date and its reference: leap years, days of months, days ahead of a year, a day's year: what the functions compute.
-/
import Derived.Test.YtahcajhacfnffaaDoorWords
import Derived.Test.YtahcajhacfnffaaDoorDatePlain
import Derived.LoopTactic
import Derived.Outline
namespace Go.Proofs.YtahcajhacfnffaaDoor
open Go.RowKit
set_option linter.unusedVariables false

theorem ret_int {k : IntKind} {a b : Int} (h : a = b) : Ending.returned (.int k a) = .returned (.int k b) := by rw [h]
theorem ret_bool {a b : Bool} (h : a = b) : Ending.returned (.bool a) = .returned (.bool b) := by rw [h]

theorem leap_form (y : Int) : Cal.leapB y = (y.tmod 4 == 0 && (y.tmod 100 != 0 || y.tmod 400 == 0)) := by
  have h4 : y.tmod 4 = 0 ↔ y % 4 = 0 := by rw [← Int.dvd_iff_tmod_eq_zero, ← Int.dvd_iff_emod_eq_zero]
  have h100 : y.tmod 100 = 0 ↔ y % 100 = 0 := by rw [← Int.dvd_iff_tmod_eq_zero, ← Int.dvd_iff_emod_eq_zero]
  have h400 : y.tmod 400 = 0 ↔ y % 400 = 0 := by rw [← Int.dvd_iff_tmod_eq_zero, ← Int.dvd_iff_emod_eq_zero]
  unfold Cal.leapB
  rw [Bool.eq_iff_iff]
  simp [h4, h100, h400]
theorem leap_form' (y : Int) : Cal.leapB y = (y.tmod 4 == 0 && y.tmod 100 != 0 || y.tmod 400 == 0) := by
  have h4 : y.tmod 4 = 0 ↔ y % 4 = 0 := by rw [← Int.dvd_iff_tmod_eq_zero, ← Int.dvd_iff_emod_eq_zero]
  have h100 : y.tmod 100 = 0 ↔ y % 100 = 0 := by rw [← Int.dvd_iff_tmod_eq_zero, ← Int.dvd_iff_emod_eq_zero]
  have h400 : y.tmod 400 = 0 ↔ y % 400 = 0 := by rw [← Int.dvd_iff_tmod_eq_zero, ← Int.dvd_iff_emod_eq_zero]
  unfold Cal.leapB
  rw [Bool.eq_iff_iff]
  simp [h4, h100, h400]
  omega

set_option maxHeartbeats 400000 in
theorem leap_any (y : Int) (w : World) : Calls Tryd.prog 22 #[.int .i64 y] w fun e w' => e = .returned (.bool (Cal.leapB y)) ∧ w = w' := by
  have hf := Lib.hid (leap_form y)
  cases h4 : (y.tmod 4 == 0) <;> cases h100 : (y.tmod 100 != 0) <;> cases h400 : (y.tmod 400 == 0)
  all_goals
    go_enter Tryd.func22, Tryd.ntmps22
    go_wp2
    go_ret
    exact ⟨ret_bool (by rw [hf.out, h4, h100, h400]; rfl), rfl⟩
set_option maxHeartbeats 400000 in
theorem rleap_any (y : Int) (w : World) : Calls Tryd.prog 23 #[.int .i64 y] w fun e w' => e = .returned (.bool (Cal.leapB y)) ∧ w = w' := by
  have hf := Lib.hid (leap_form' y)
  cases h4 : (y.tmod 4 == 0) <;> cases h100 : (y.tmod 100 != 0) <;> cases h400 : (y.tmod 400 == 0)
  all_goals
    go_enter Tryd.func23, Tryd.ntmps23
    go_wp2
    go_ret
    exact ⟨ret_bool (by rw [hf.out, h4, h100, h400]; rfl), rfl⟩

theorem dimZ_feb {y : Int} (h1 : 1 ≤ y) (h2 : y ≤ 9999) : Cal.dimZ y 2 = if Cal.leapB y = true then 29 else 28 := by
  rw [Cal.dimZ_in h1 h2 (by omega) (by omega)]
  have := Cal.lp_of y
  unfold Cal.dim
  rw [if_pos rfl, this]
  split <;> rfl

theorem ix0 (w : World) : (Instr.index 53 (.agg #[.int .i64 31, .int .i64 28, .int .i64 31, .int .i64 30, .int .i64 31, .int .i64 30, .int .i64 31, .int .i64 31, .int .i64 30, .int .i64 31, .int .i64 30, .int .i64 31]) (.int .i64 0)).run Tryd.prog w = .ok (.int .i64 31) w := by kernel_rfl
theorem ix1 (w : World) : (Instr.index 53 (.agg #[.int .i64 31, .int .i64 28, .int .i64 31, .int .i64 30, .int .i64 31, .int .i64 30, .int .i64 31, .int .i64 31, .int .i64 30, .int .i64 31, .int .i64 30, .int .i64 31]) (.int .i64 1)).run Tryd.prog w = .ok (.int .i64 28) w := by kernel_rfl
theorem ix2 (w : World) : (Instr.index 53 (.agg #[.int .i64 31, .int .i64 28, .int .i64 31, .int .i64 30, .int .i64 31, .int .i64 30, .int .i64 31, .int .i64 31, .int .i64 30, .int .i64 31, .int .i64 30, .int .i64 31]) (.int .i64 2)).run Tryd.prog w = .ok (.int .i64 31) w := by kernel_rfl
theorem ix3 (w : World) : (Instr.index 53 (.agg #[.int .i64 31, .int .i64 28, .int .i64 31, .int .i64 30, .int .i64 31, .int .i64 30, .int .i64 31, .int .i64 31, .int .i64 30, .int .i64 31, .int .i64 30, .int .i64 31]) (.int .i64 3)).run Tryd.prog w = .ok (.int .i64 30) w := by kernel_rfl
theorem ix4 (w : World) : (Instr.index 53 (.agg #[.int .i64 31, .int .i64 28, .int .i64 31, .int .i64 30, .int .i64 31, .int .i64 30, .int .i64 31, .int .i64 31, .int .i64 30, .int .i64 31, .int .i64 30, .int .i64 31]) (.int .i64 4)).run Tryd.prog w = .ok (.int .i64 31) w := by kernel_rfl
theorem ix5 (w : World) : (Instr.index 53 (.agg #[.int .i64 31, .int .i64 28, .int .i64 31, .int .i64 30, .int .i64 31, .int .i64 30, .int .i64 31, .int .i64 31, .int .i64 30, .int .i64 31, .int .i64 30, .int .i64 31]) (.int .i64 5)).run Tryd.prog w = .ok (.int .i64 30) w := by kernel_rfl
theorem ix6 (w : World) : (Instr.index 53 (.agg #[.int .i64 31, .int .i64 28, .int .i64 31, .int .i64 30, .int .i64 31, .int .i64 30, .int .i64 31, .int .i64 31, .int .i64 30, .int .i64 31, .int .i64 30, .int .i64 31]) (.int .i64 6)).run Tryd.prog w = .ok (.int .i64 31) w := by kernel_rfl
theorem ix7 (w : World) : (Instr.index 53 (.agg #[.int .i64 31, .int .i64 28, .int .i64 31, .int .i64 30, .int .i64 31, .int .i64 30, .int .i64 31, .int .i64 31, .int .i64 30, .int .i64 31, .int .i64 30, .int .i64 31]) (.int .i64 7)).run Tryd.prog w = .ok (.int .i64 31) w := by kernel_rfl
theorem ix8 (w : World) : (Instr.index 53 (.agg #[.int .i64 31, .int .i64 28, .int .i64 31, .int .i64 30, .int .i64 31, .int .i64 30, .int .i64 31, .int .i64 31, .int .i64 30, .int .i64 31, .int .i64 30, .int .i64 31]) (.int .i64 8)).run Tryd.prog w = .ok (.int .i64 30) w := by kernel_rfl
theorem ix9 (w : World) : (Instr.index 53 (.agg #[.int .i64 31, .int .i64 28, .int .i64 31, .int .i64 30, .int .i64 31, .int .i64 30, .int .i64 31, .int .i64 31, .int .i64 30, .int .i64 31, .int .i64 30, .int .i64 31]) (.int .i64 9)).run Tryd.prog w = .ok (.int .i64 31) w := by kernel_rfl
theorem ix10 (w : World) : (Instr.index 53 (.agg #[.int .i64 31, .int .i64 28, .int .i64 31, .int .i64 30, .int .i64 31, .int .i64 30, .int .i64 31, .int .i64 31, .int .i64 30, .int .i64 31, .int .i64 30, .int .i64 31]) (.int .i64 10)).run Tryd.prog w = .ok (.int .i64 30) w := by kernel_rfl
theorem ix11 (w : World) : (Instr.index 53 (.agg #[.int .i64 31, .int .i64 28, .int .i64 31, .int .i64 30, .int .i64 31, .int .i64 30, .int .i64 31, .int .i64 31, .int .i64 30, .int .i64 31, .int .i64 30, .int .i64 31]) (.int .i64 11)).run Tryd.prog w = .ok (.int .i64 31) w := by kernel_rfl
set_option maxHeartbeats 800000 in
theorem days_any (y m : Int) (w : World) : Calls Tryd.prog 20 #[.int .i64 y, .int .i64 m] w fun e w' => e = .returned (.int .i64 (Cal.dimZ y m)) ∧ w = w' := by
  by_cases hin : 1 ≤ y ∧ y ≤ 9999 ∧ 1 ≤ m ∧ m ≤ 12
  · obtain ⟨h1, h2, h3, h4⟩ := hin
    have d1 : decide (y < 1) = false := by rw [decide_eq_false_iff_not]; omega
    have d2 : decide (9999 < y) = false := by rw [decide_eq_false_iff_not]; omega
    have hm : m = 1 ∨ m = 2 ∨ m = 3 ∨ m = 4 ∨ m = 5 ∨ m = 6 ∨ m = 7 ∨ m = 8 ∨ m = 9 ∨ m = 10 ∨ m = 11 ∨ m = 12 := by omega
    rcases hm with rfl | rfl | rfl | rfl | rfl | rfl | rfl | rfl | rfl | rfl | rfl | rfl
    case inr.inl =>
      have hf := Lib.hid (dimZ_feb h1 h2)
      have a1 := ix1
      cases hl : Cal.leapB y
      all_goals
        go_enter Tryd.func20, Tryd.ntmps20
        go_wp2_with (go_at_call 22; refine (leap_any _ _).mono ?_; rintro e w' ⟨rfl, rfl⟩)
        go_ret
        exact ⟨ret_int (by rw [hf.out, hl]; rfl), rfl⟩
    all_goals
      have a0 := ix0; have a2 := ix2; have a3 := ix3; have a4 := ix4; have a5 := ix5; have a6 := ix6; have a7 := ix7; have a8 := ix8; have a9 := ix9; have a10 := ix10; have a11 := ix11
      go_enter Tryd.func20, Tryd.ntmps20
      go_wp2
      go_ret
      exact ⟨ret_int (by rw [Cal.dimZ_in h1 h2 (by omega) (by omega)]; rfl), rfl⟩
  · have hz := Lib.hid (Cal.dimZ_out hin)
    rcases (by omega : y < 1 ∨ 9999 < y ∨ (1 ≤ y ∧ y ≤ 9999 ∧ m < 1) ∨ (1 ≤ y ∧ y ≤ 9999 ∧ 12 < m)) with h | h | ⟨h1, h2, h⟩ | ⟨h1, h2, h⟩
    all_goals
      clear hin
      go_enter Tryd.func20, Tryd.ntmps20
      go_wp2
      go_ret
      exact ⟨ret_int (by rw [hz.out]), rfl⟩
set_option maxHeartbeats 800000 in
theorem rdays_any (y m : Int) (w : World) : Calls Tryd.prog 21 #[.int .i64 y, .int .i64 m] w fun e w' => e = .returned (.int .i64 (Cal.dimZ y m)) ∧ w = w' := by
  by_cases hin : 1 ≤ y ∧ y ≤ 9999 ∧ 1 ≤ m ∧ m ≤ 12
  · obtain ⟨h1, h2, h3, h4⟩ := hin
    have d1 : decide (y < 1) = false := by rw [decide_eq_false_iff_not]; omega
    have d2 : decide (9999 < y) = false := by rw [decide_eq_false_iff_not]; omega
    have hm : m = 1 ∨ m = 2 ∨ m = 3 ∨ m = 4 ∨ m = 5 ∨ m = 6 ∨ m = 7 ∨ m = 8 ∨ m = 9 ∨ m = 10 ∨ m = 11 ∨ m = 12 := by omega
    rcases hm with rfl | rfl | rfl | rfl | rfl | rfl | rfl | rfl | rfl | rfl | rfl | rfl
    case inr.inl =>
      have hf := Lib.hid (dimZ_feb h1 h2)
      cases hl : Cal.leapB y
      all_goals
        go_enter Tryd.func21, Tryd.ntmps21
        go_wp2_with (go_at_call 23; refine (rleap_any _ _).mono ?_; rintro e w' ⟨rfl, rfl⟩)
        go_ret
        exact ⟨ret_int (by rw [hf.out, hl]; rfl), rfl⟩
    all_goals
      go_enter Tryd.func21, Tryd.ntmps21
      go_wp2
      go_ret
      exact ⟨ret_int (by rw [Cal.dimZ_in h1 h2 (by omega) (by omega)]; rfl), rfl⟩
  · have hz := Lib.hid (Cal.dimZ_out hin)
    rcases (by omega : y < 1 ∨ 9999 < y ∨ (1 ≤ y ∧ y ≤ 9999 ∧ m < 1) ∨ (1 ≤ y ∧ y ≤ 9999 ∧ 12 < m)) with h | h | ⟨h1, h2, h⟩ | ⟨h1, h2, h⟩
    all_goals
      clear hin
      go_enter Tryd.func21, Tryd.ntmps21
      go_wp2
      go_ret
      exact ⟨ret_int (by rw [hz.out]), rfl⟩

set_option maxHeartbeats 400000 in
theorem ahead_any (y : Int) (w : World) (h1 : 1 ≤ y) (h2 : y ≤ 20000) : Calls Tryd.prog 31 #[.int .i64 y] w fun e w' => e = .returned (.int .i64 (Cal.dby y)) ∧ w = w' := by
  go_enter Tryd.func31, Tryd.ntmps31
  go_wp2
  go_ret
  exact ⟨rfl, rfl⟩

theorem dby_bd' {y : Int} (h1 : 1970 ≤ y) (h2 : y ≤ 10001) : 719162 ≤ Cal.dby y ∧ Cal.dby y ≤ 3652425 := by unfold Cal.dby; omega
set_option maxHeartbeats 800000 in
theorem rahead_any (y : Int) (w : World) (h1 : 1970 ≤ y) (h2 : y ≤ 10000) : Calls Tryd.prog 36 #[.int .i64 y] w fun e w' => e = .returned (.int .i64 (Cal.dby y - 719162)) ∧ w = w' := by
  have hd := Lib.hid Cal.dby_1970
  go_enter Tryd.func36, Tryd.ntmps36
  go_wp2
  go_loop [3, 4] (fun n k => ∃ j : Int, 1970 ≤ j ∧ j ≤ y ∧ k = .int .i64 j ∧ n = .int .i64 (Cal.dby j - 719162)) (fun _ k => (y - intOf k).toNat)
  case atStart => exact ⟨1970, by omega, by omega, rfl, by rw [hd.out]; rfl⟩
  case round =>
    obtain ⟨j, hj1, hj2, rfl, rfl⟩ := hrel
    have hb := dby_bd' hj1 (by omega)
    have hs := Lib.hid (Cal.dby_succ j)
    rcases (by omega : j < y ∨ y ≤ j) with hlt | hge
    · cases hl : Cal.leapB j
      · have hlp := Lib.hid (Cal.lp_false hl)
        go_wp2_with (go_at_call 23; refine (rleap_any _ _).mono ?_; rintro e w' ⟨rfl, rfl⟩)
        go_round
        case rel => exact ⟨j + 1, by omega, by omega, rfl, by rw [hs.out, hlp.out]; go_num⟩
        case measure => simp [intOf]; omega
      · have hlp := Lib.hid (Cal.lp_true hl)
        go_wp2_with (go_at_call 23; refine (rleap_any _ _).mono ?_; rintro e w' ⟨rfl, rfl⟩)
        go_round
        case rel => exact ⟨j + 1, by omega, by omega, rfl, by rw [hs.out, hlp.out]; go_num⟩
        case measure => simp [intOf]; omega
    · go_wp2
      go_ret
      exact ⟨ret_int (by rw [show j = y by omega]), rfl⟩

def mayB (t : Int) : Bool := decide (0 ≤ t ∧ t ≤ 253402300799)
set_option maxHeartbeats 400000 in
theorem may_any (t : Int) (w : World) : Calls Tryd.prog 29 #[.int .i64 t] w fun e w' => e = .returned (.bool (mayB t)) ∧ w = w' := by
  rcases (by omega : t < 0 ∨ (0 ≤ t ∧ t ≤ 253402300799) ∨ (0 ≤ t ∧ 253402300799 < t)) with h | ⟨h1, h2⟩ | ⟨h1, h2⟩
  all_goals
    go_enter Tryd.func29, Tryd.ntmps29
    go_wp2
    go_ret
    exact ⟨ret_bool (by unfold mayB; rw [Bool.eq_iff_iff]; simp; omega), rfl⟩

def wiB (n a b : Int) : Bool := decide (a ≤ n ∧ n ≤ b)
set_option maxHeartbeats 400000 in
theorem within_any (n a b : Int) (w : World) : Calls Tryd.prog 33 #[.int .i64 n, .int .i64 a, .int .i64 b] w fun e w' => e = .returned (.bool (wiB n a b)) ∧ w = w' := by
  rcases (by omega : n < a ∨ (a ≤ n ∧ n ≤ b) ∨ (a ≤ n ∧ b < n)) with h | ⟨h1, h2⟩ | ⟨h1, h2⟩
  all_goals
    go_enter Tryd.func33, Tryd.ntmps33
    go_wp2
    go_ret
    exact ⟨ret_bool (by unfold wiB; rw [Bool.eq_iff_iff]; simp; omega), rfl⟩

theorem guess_bd (n : Int) (h1 : 719162 ≤ n) (h2 : n < 3652059) : 1 ≤ 400 * (n / 146097) + 1 + n % 146097 / 366 ∧ 400 * (n / 146097) + 1 + n % 146097 / 366 ≤ 9999 := by omega
set_option maxHeartbeats 800000 in
theorem yearOf_any (n y m d : Int) (w : World) (h : Cal.Civ n y m d) : Calls Tryd.prog 30 #[.int .i64 n] w fun e w' => e = .returned (.tuple #[.int .i64 y, .int .i64 (n - Cal.dby y)]) ∧ w = w' := by
  obtain ⟨hr1, hr2⟩ := h.range
  have hg := Cal.guess n
  have hgb := guess_bd n hr1 hr2
  obtain ⟨hy1, hy2⟩ := h.year
  have hy3 := h.y0
  have hy4 := h.y1
  go_enter Tryd.func30, Tryd.ntmps30
  go_wp2
  go_loop [4] (fun t => ∃ j : Int, 1 ≤ j ∧ j ≤ 9999 ∧ Cal.dby j ≤ n ∧ t = .int .i64 j) (fun t => (9999 - intOf t).toNat)
  case atStart => exact ⟨_, hgb.1, hgb.2, hg, rfl⟩
  case round =>
    obtain ⟨j, hj1, hj2, hj3, rfl⟩ := hrel
    rcases (by omega : Cal.dby (j + 1) ≤ n ∨ n < Cal.dby (j + 1)) with hlt | hge
    · have hj4 : j + 1 ≤ y := by
        rcases (by omega : j + 1 ≤ y ∨ y + 1 ≤ j + 1) with k | k
        · exact k
        · have := Cal.dby_mono k; omega
      go_wp2_with (go_at_call 31; refine (ahead_any _ _ (by omega) (by omega)).mono ?_; rintro e w' ⟨rfl, rfl⟩)
      go_round
      case rel => exact ⟨j + 1, by omega, by omega, hlt, rfl⟩
      case measure => simp [intOf]; omega
    · obtain rfl := Cal.year_eq hj3 hge hy1 hy2
      have hb := Cal.dby_bd (y := j) (by omega) (by omega)
      go_wp2_with (go_at_call 31; refine (ahead_any _ _ (by omega) (by omega)).mono ?_; rintro e w' ⟨rfl, rfl⟩)
      go_ret2
      exact ⟨rfl, rfl⟩
end Go.Proofs.YtahcajhacfnffaaDoor
