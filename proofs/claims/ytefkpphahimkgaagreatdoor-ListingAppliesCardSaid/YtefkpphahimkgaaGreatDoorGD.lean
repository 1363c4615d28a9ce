/-
  Plain arithmetic of the calendar: leap years, days of months, days ahead of a year, a day's date. No program in sight.
  date and its reference: leap years, days of months, days ahead of a year, a day's year: what the functions compute.
  date and its reference: a moment's date, a moment's day of the week: what the functions compute.
  date and its reference: a date's moment.
  date and its reference: a moment's text: what the functions compute.
  date and its reference: digits of a text; what a text is as a moment.
  date.Parse: what a text is as a moment.
  The reference's texts of moments: two digits, a date's text.
  The reference's Parse; what comes of every program (lives).
  A moment's text is read back: plain facts.
-/
import Derived.IntWalk
import Derived.Test.YtefkpphahimkgaaGreatDoorGA
import Derived.LoopTactic
import Derived.Outline
import Derived.Deep.QuietTactic
import Derived.BigQuiet
import Derived.Test.YtefkpphahimkgaaGreatDoorShelf
import Derived.Lib.ItoaNum
import Derived.Lib.AppendIntMem
import Derived.Deep.RegionHeld3
import Derived.Lib.SlBytesConst
namespace Go.Proofs.YtefkpphahimkgaaGreatDoor.Cal

def leapB (y : Int) : Bool := decide (y % 4 = 0 ∧ (y % 100 ≠ 0 ∨ y % 400 = 0))
def lp (y : Int) : Int := if y % 4 = 0 ∧ (y % 100 ≠ 0 ∨ y % 400 = 0) then 1 else 0
theorem lp_of (y : Int) : lp y = if leapB y = true then 1 else 0 := by unfold lp leapB; simp
theorem lp_bd (y : Int) : 0 ≤ lp y ∧ lp y ≤ 1 := by unfold lp; split <;> omega
/-- days ahead of a year, from the year 1 on -/
def dby (y : Int) : Int := 365 * (y - 1) + (y - 1) / 4 - (y - 1) / 100 + (y - 1) / 400
theorem dby_succ (y : Int) : dby (y + 1) = dby y + 365 + lp y := by
  unfold dby lp
  split <;> omega
theorem dby_mono {a b : Int} (h : a ≤ b) : dby a ≤ dby b := by unfold dby; omega
theorem dby_step {a b : Int} (h : a < b) : dby a + 365 + lp a ≤ dby b := by
  have h1 := dby_succ a
  have h2 := dby_mono (show a + 1 ≤ b by omega)
  omega
theorem dby_1970 : dby 1970 = 719162 := by decide
theorem dby_10000 : dby 10000 = 3652059 := by decide
def dim (y m : Int) : Int := if m = 2 then 28 + lp y else if m = 4 ∨ m = 6 ∨ m = 9 ∨ m = 11 then 30 else 31
def dimZ (y m : Int) : Int := if 1 ≤ y ∧ y ≤ 9999 ∧ 1 ≤ m ∧ m ≤ 12 then dim y m else 0
theorem dimZ_in {y m : Int} (h1 : 1 ≤ y) (h2 : y ≤ 9999) (h3 : 1 ≤ m) (h4 : m ≤ 12) : dimZ y m = dim y m := if_pos ⟨h1, h2, h3, h4⟩
theorem dimZ_out {y m : Int} (h : ¬ (1 ≤ y ∧ y ≤ 9999 ∧ 1 ≤ m ∧ m ≤ 12)) : dimZ y m = 0 := if_neg h
theorem dim_bd (y m : Int) : 28 ≤ dim y m ∧ dim y m ≤ 31 := by have := lp_bd y; unfold dim; split <;> (try split) <;> omega
/-- days ahead of a month in its year -/
def cum (y m : Int) : Int := if m ≤ 2 then 31 * (m - 1) else (367 * m - 362) / 12 - 2 + lp y
theorem cum_one (y : Int) : cum y 1 = 0 := by simp [cum]
theorem cum_succ (y m : Int) (h1 : 1 ≤ m) (h2 : m ≤ 12) : cum y (m + 1) = cum y m + dim y m := by
  have hm : m = 1 ∨ m = 2 ∨ m = 3 ∨ m = 4 ∨ m = 5 ∨ m = 6 ∨ m = 7 ∨ m = 8 ∨ m = 9 ∨ m = 10 ∨ m = 11 ∨ m = 12 := by omega
  unfold cum dim
  rcases hm with rfl | rfl | rfl | rfl | rfl | rfl | rfl | rfl | rfl | rfl | rfl | rfl <;> simp <;> omega
theorem cum_13 (y : Int) : cum y 13 = 365 + lp y := by simp [cum]
theorem cum_mono (y : Int) {a b : Int} (h1 : 1 ≤ a) (h : a ≤ b) : cum y a ≤ cum y b := by
  have := lp_bd y
  unfold cum
  split <;> split <;> omega
theorem cum_step (y : Int) {a b : Int} (h1 : 1 ≤ a) (h : a < b) (h2 : b ≤ 13) : cum y a + dim y a ≤ cum y b := by
  rw [← cum_succ y a h1 (by omega)]
  exact cum_mono y (by omega) (by omega)
theorem cum_bd (y : Int) {m : Int} (h1 : 1 ≤ m) (h2 : m ≤ 12) : 0 ≤ cum y m ∧ cum y m ≤ 335 := by
  have h3 := cum_mono y (Int.le_refl 1) h1
  have h4 := cum_step y h1 (show m < 13 by omega) (Int.le_refl _)
  rw [cum_one] at h3
  rw [cum_13] at h4
  have := dim_bd y m
  have := lp_bd y
  exact ⟨h3, by unfold cum; split <;> omega⟩
theorem dby_bd {y : Int} (h1 : 1 ≤ y) (h2 : y ≤ 10001) : 0 ≤ dby y ∧ dby y ≤ 3652425 := by unfold dby; omega

/-- a day (from the year 1 on) has that date -/
structure Civ (n y m d : Int) : Prop where
  y0 : 1970 ≤ y
  y1 : y ≤ 9999
  m0 : 1 ≤ m
  m1 : m ≤ 12
  d0 : 1 ≤ d
  d1 : d ≤ dim y m
  num : n = dby y + cum y m + d - 1
theorem Civ.first : Civ 719162 1970 1 1 := ⟨by omega, by omega, by omega, by omega, by omega, by decide, by decide⟩
theorem Civ.year {n y m d : Int} (h : Civ n y m d) : dby y ≤ n ∧ n < dby (y + 1) := by
  have h1 := cum_step y h.m0 (show m < 13 by have := h.m1; omega) (Int.le_refl _)
  rw [cum_13] at h1
  have h2 := dby_succ y
  have h3 := cum_bd y h.m0 h.m1
  have h4 := h.num
  have h5 := h.d0
  have h6 := h.d1
  omega
theorem Civ.next {n y m d : Int} (h : Civ n y m d) (hn : n + 1 < 3652059) :
    (d < dim y m → Civ (n + 1) y m (d + 1)) ∧ (d = dim y m → m < 12 → Civ (n + 1) y (m + 1) 1) ∧ (d = dim y m → m = 12 → Civ (n + 1) (y + 1) 1 1) := by
  have h1 := h.num
  have h2 := h.y0; have h3 := h.y1; have h4 := h.m0; have h5 := h.m1; have h6 := h.d0
  refine ⟨fun hd => ⟨h2, h3, h4, h5, by omega, by omega, by omega⟩, fun hd hm => ⟨h2, h3, by omega, by omega, by omega, by have := dim_bd y (m + 1); omega, ?_⟩, fun hd hm => ?_⟩
  · have := cum_succ y m h4 h5; omega
  · subst hm
    have k1 := cum_succ y 12 (by omega) (by omega)
    have k2 : cum y (12 + 1) = 365 + lp y := cum_13 y
    have k3 := dby_succ y
    have k4 : y + 1 ≤ 9999 := by
      rcases (by omega : y + 1 ≤ 9999 ∨ y = 9999) with k | rfl
      · exact k
      · have k5 : dby (9999 + 1) = 3652059 := dby_10000
        omega
    have k6 := dim_bd (y + 1) 1
    exact ⟨by omega, k4, by omega, by omega, by omega, by omega, by rw [cum_one]; omega⟩
theorem Civ.ex_nat (k : Nat) (hk : 719162 + (k : Int) < 3652059) : ∃ y m d, Civ (719162 + (k : Int)) y m d := by
  induction k with
  | zero => exact ⟨_, _, _, Civ.first⟩
  | succ k ih =>
    obtain ⟨y, m, d, h⟩ := ih (by omega)
    have e : (719162 + ((k + 1 : Nat) : Int)) = 719162 + (k : Int) + 1 := by omega
    rw [e]
    obtain ⟨h1, h2, h3⟩ := h.next (by omega)
    have h4 := h.d1
    have h5 := h.m1
    rcases (by omega : d < dim y m ∨ d = dim y m) with hd | hd
    · exact ⟨_, _, _, h1 hd⟩
    · rcases (by omega : m < 12 ∨ m = 12) with hm | hm
      · exact ⟨_, _, _, h2 hd hm⟩
      · exact ⟨_, _, _, h3 hd hm⟩
theorem Civ.ex {n : Int} (h1 : 719162 ≤ n) (h2 : n < 3652059) : ∃ y m d, Civ n y m d := by
  obtain ⟨y, m, d, h⟩ := Civ.ex_nat (n - 719162).toNat (by omega)
  have e : 719162 + ((n - 719162).toNat : Int) = n := by omega
  rw [e] at h
  exact ⟨y, m, d, h⟩
theorem Civ.range {n y m d : Int} (h : Civ n y m d) : 719162 ≤ n ∧ n < 3652059 := by
  have h1 := h.year
  have h2 := dby_mono h.y0
  have h3 := dby_mono (show y + 1 ≤ 10000 by have := h.y1; omega)
  rw [dby_1970] at h2
  rw [dby_10000] at h3
  omega
theorem year_eq {n a b : Int} (h1 : dby a ≤ n) (h2 : n < dby (a + 1)) (h3 : dby b ≤ n) (h4 : n < dby (b + 1)) : a = b := by
  rcases (by omega : a < b ∨ a = b ∨ b < a) with h | h | h
  · have := dby_mono (show a + 1 ≤ b by omega); omega
  · exact h
  · have := dby_mono (show b + 1 ≤ a by omega); omega
/-- the loop over the months -/
theorem Civ.month {n y m d k : Int} (h : Civ n y m d) (hk : 1 ≤ k) (hkm : k ≤ m) : (k < m → dim y k ≤ n - dby y - cum y k) ∧ (k = m → n - dby y - cum y k = d - 1) := by
  constructor
  · intro hlt
    have h1 := cum_step y hk hlt (by have := h.m1; omega)
    have := h.num; have := h.d0
    omega
  · rintro rfl
    have := h.num
    omega
/-- the first guess of a day's year -/
theorem guess (n : Int) : dby (400 * (n / 146097) + 1 + n % 146097 / 366) ≤ n := by
  unfold dby
  omega

end Go.Proofs.YtefkpphahimkgaaGreatDoor.Cal

namespace Go.Proofs.YtefkpphahimkgaaGreatDoor
open Go.RowKit
set_option linter.unusedVariables false

theorem ret_int {k : IntKind} {a b : Int} (h : a = b) : Ending.returned (.int k a) = .returned (.int k b) := by rw [h]
theorem ret_bool {a b : Bool} (h : a = b) : Ending.returned (.bool a) = .returned (.bool b) := by rw [h]

theorem leap_form (y : Int) : Cal.leapB y = (y.tmod 4 == 0 && (y.tmod 100 != 0 || y.tmod 400 == 0)) := by
  have h4 : y.tmod 4 = 0 ↔ y % 4 = 0 := by rw [← Int.dvd_iff_tmod_eq_zero, ← Int.dvd_iff_emod_eq_zero]
  have h100 : y.tmod 100 = 0 ↔ y % 100 = 0 := by rw [← Int.dvd_iff_tmod_eq_zero, ← Int.dvd_iff_emod_eq_zero]
  have h400 : y.tmod 400 = 0 ↔ y % 400 = 0 := by rw [← Int.dvd_iff_tmod_eq_zero, ← Int.dvd_iff_emod_eq_zero]
  unfold Cal.leapB
  rw [Bool.eq_iff_iff]
  simp [h4, h100, h400]
set_option maxHeartbeats 400000 in
theorem leap_any (y : Int) (w : World) : Calls Tryz.prog 164 #[.int .i64 y] w fun e w' => e = .returned (.bool (Cal.leapB y)) ∧ w = w' := by
  have hf := Lib.hid (leap_form y)
  cases h4 : (y.tmod 4 == 0) <;> cases h100 : (y.tmod 100 != 0) <;> cases h400 : (y.tmod 400 == 0)
  all_goals
    go_enter Tryz.func164, Tryz.ntmps164
    go_wp2
    go_ret
    exact ⟨ret_bool (by rw [hf.out, h4, h100, h400]; rfl), rfl⟩
theorem dimZ_feb {y : Int} (h1 : 1 ≤ y) (h2 : y ≤ 9999) : Cal.dimZ y 2 = if Cal.leapB y = true then 29 else 28 := by
  rw [Cal.dimZ_in h1 h2 (by omega) (by omega)]
  have := Cal.lp_of y
  unfold Cal.dim
  rw [if_pos rfl, this]
  split <;> rfl

theorem ix0 (w : World) : (Instr.index 197 (.agg #[.int .i64 31, .int .i64 28, .int .i64 31, .int .i64 30, .int .i64 31, .int .i64 30, .int .i64 31, .int .i64 31, .int .i64 30, .int .i64 31, .int .i64 30, .int .i64 31]) (.int .i64 0)).run Tryz.prog w = .ok (.int .i64 31) w := by kernel_rfl
theorem ix1 (w : World) : (Instr.index 197 (.agg #[.int .i64 31, .int .i64 28, .int .i64 31, .int .i64 30, .int .i64 31, .int .i64 30, .int .i64 31, .int .i64 31, .int .i64 30, .int .i64 31, .int .i64 30, .int .i64 31]) (.int .i64 1)).run Tryz.prog w = .ok (.int .i64 28) w := by kernel_rfl
theorem ix2 (w : World) : (Instr.index 197 (.agg #[.int .i64 31, .int .i64 28, .int .i64 31, .int .i64 30, .int .i64 31, .int .i64 30, .int .i64 31, .int .i64 31, .int .i64 30, .int .i64 31, .int .i64 30, .int .i64 31]) (.int .i64 2)).run Tryz.prog w = .ok (.int .i64 31) w := by kernel_rfl
theorem ix3 (w : World) : (Instr.index 197 (.agg #[.int .i64 31, .int .i64 28, .int .i64 31, .int .i64 30, .int .i64 31, .int .i64 30, .int .i64 31, .int .i64 31, .int .i64 30, .int .i64 31, .int .i64 30, .int .i64 31]) (.int .i64 3)).run Tryz.prog w = .ok (.int .i64 30) w := by kernel_rfl
theorem ix4 (w : World) : (Instr.index 197 (.agg #[.int .i64 31, .int .i64 28, .int .i64 31, .int .i64 30, .int .i64 31, .int .i64 30, .int .i64 31, .int .i64 31, .int .i64 30, .int .i64 31, .int .i64 30, .int .i64 31]) (.int .i64 4)).run Tryz.prog w = .ok (.int .i64 31) w := by kernel_rfl
theorem ix5 (w : World) : (Instr.index 197 (.agg #[.int .i64 31, .int .i64 28, .int .i64 31, .int .i64 30, .int .i64 31, .int .i64 30, .int .i64 31, .int .i64 31, .int .i64 30, .int .i64 31, .int .i64 30, .int .i64 31]) (.int .i64 5)).run Tryz.prog w = .ok (.int .i64 30) w := by kernel_rfl
theorem ix6 (w : World) : (Instr.index 197 (.agg #[.int .i64 31, .int .i64 28, .int .i64 31, .int .i64 30, .int .i64 31, .int .i64 30, .int .i64 31, .int .i64 31, .int .i64 30, .int .i64 31, .int .i64 30, .int .i64 31]) (.int .i64 6)).run Tryz.prog w = .ok (.int .i64 31) w := by kernel_rfl
theorem ix7 (w : World) : (Instr.index 197 (.agg #[.int .i64 31, .int .i64 28, .int .i64 31, .int .i64 30, .int .i64 31, .int .i64 30, .int .i64 31, .int .i64 31, .int .i64 30, .int .i64 31, .int .i64 30, .int .i64 31]) (.int .i64 7)).run Tryz.prog w = .ok (.int .i64 31) w := by kernel_rfl
theorem ix8 (w : World) : (Instr.index 197 (.agg #[.int .i64 31, .int .i64 28, .int .i64 31, .int .i64 30, .int .i64 31, .int .i64 30, .int .i64 31, .int .i64 31, .int .i64 30, .int .i64 31, .int .i64 30, .int .i64 31]) (.int .i64 8)).run Tryz.prog w = .ok (.int .i64 30) w := by kernel_rfl
theorem ix9 (w : World) : (Instr.index 197 (.agg #[.int .i64 31, .int .i64 28, .int .i64 31, .int .i64 30, .int .i64 31, .int .i64 30, .int .i64 31, .int .i64 31, .int .i64 30, .int .i64 31, .int .i64 30, .int .i64 31]) (.int .i64 9)).run Tryz.prog w = .ok (.int .i64 31) w := by kernel_rfl
theorem ix10 (w : World) : (Instr.index 197 (.agg #[.int .i64 31, .int .i64 28, .int .i64 31, .int .i64 30, .int .i64 31, .int .i64 30, .int .i64 31, .int .i64 31, .int .i64 30, .int .i64 31, .int .i64 30, .int .i64 31]) (.int .i64 10)).run Tryz.prog w = .ok (.int .i64 30) w := by kernel_rfl
theorem ix11 (w : World) : (Instr.index 197 (.agg #[.int .i64 31, .int .i64 28, .int .i64 31, .int .i64 30, .int .i64 31, .int .i64 30, .int .i64 31, .int .i64 31, .int .i64 30, .int .i64 31, .int .i64 30, .int .i64 31]) (.int .i64 11)).run Tryz.prog w = .ok (.int .i64 31) w := by kernel_rfl
set_option maxHeartbeats 800000 in
theorem days_any (y m : Int) (w : World) : Calls Tryz.prog 142 #[.int .i64 y, .int .i64 m] w fun e w' => e = .returned (.int .i64 (Cal.dimZ y m)) ∧ w = w' := by
  by_cases hin : 1 ≤ y ∧ y ≤ 9999 ∧ 1 ≤ m ∧ m ≤ 12
  · obtain ⟨h1, h2, h3, h4⟩ := hin
    have d1 : decide (y < 1) = false := by rw [decide_eq_false_iff_not]; omega
    have d2 : decide (9999 < y) = false := by rw [decide_eq_false_iff_not]; omega
    have hm : m = 1 ∨ m = 2 ∨ m = 3 ∨ m = 4 ∨ m = 5 ∨ m = 6 ∨ m = 7 ∨ m = 8 ∨ m = 9 ∨ m = 10 ∨ m = 11 ∨ m = 12 := by omega
    rcases hm with rfl | rfl | rfl | rfl | rfl | rfl | rfl | rfl | rfl | rfl | rfl | rfl
    case inr.inl =>
      have hf := Lib.hid (dimZ_feb h1 h2)
      have a1 := ix1
      cases hl : Cal.leapB y
      all_goals
        go_enter Tryz.func142, Tryz.ntmps142
        go_wp2_with (go_at_call 164; refine (leap_any _ _).mono ?_; rintro e w' ⟨rfl, rfl⟩)
        go_ret
        exact ⟨ret_int (by rw [hf.out, hl]; rfl), rfl⟩
    all_goals
      have a0 := ix0; have a2 := ix2; have a3 := ix3; have a4 := ix4; have a5 := ix5; have a6 := ix6; have a7 := ix7; have a8 := ix8; have a9 := ix9; have a10 := ix10; have a11 := ix11
      go_enter Tryz.func142, Tryz.ntmps142
      go_wp2
      go_ret
      exact ⟨ret_int (by rw [Cal.dimZ_in h1 h2 (by omega) (by omega)]; rfl), rfl⟩
  · have hz := Lib.hid (Cal.dimZ_out hin)
    rcases (by omega : y < 1 ∨ 9999 < y ∨ (1 ≤ y ∧ y ≤ 9999 ∧ m < 1) ∨ (1 ≤ y ∧ y ≤ 9999 ∧ 12 < m)) with h | h | ⟨h1, h2, h⟩ | ⟨h1, h2, h⟩
    all_goals
      clear hin
      go_enter Tryz.func142, Tryz.ntmps142
      go_wp2
      go_ret
      exact ⟨ret_int (by rw [hz.out]), rfl⟩
set_option maxHeartbeats 400000 in
theorem ahead_any (y : Int) (w : World) (h1 : 1 ≤ y) (h2 : y ≤ 20000) : Calls Tryz.prog 141 #[.int .i64 y] w fun e w' => e = .returned (.int .i64 (Cal.dby y)) ∧ w = w' := by
  go_enter Tryz.func141, Tryz.ntmps141
  go_wp2
  go_ret
  exact ⟨rfl, rfl⟩

theorem dby_bd' {y : Int} (h1 : 1970 ≤ y) (h2 : y ≤ 10001) : 719162 ≤ Cal.dby y ∧ Cal.dby y ≤ 3652425 := by unfold Cal.dby; omega
def mayB (t : Int) : Bool := decide (0 ≤ t ∧ t ≤ 253402300799)
set_option maxHeartbeats 400000 in
theorem may_any (t : Int) (w : World) : Calls Tryz.prog 139 #[.int .i64 t] w fun e w' => e = .returned (.bool (mayB t)) ∧ w = w' := by
  rcases (by omega : t < 0 ∨ (0 ≤ t ∧ t ≤ 253402300799) ∨ (0 ≤ t ∧ 253402300799 < t)) with h | ⟨h1, h2⟩ | ⟨h1, h2⟩
  all_goals
    go_enter Tryz.func139, Tryz.ntmps139
    go_wp2
    go_ret
    exact ⟨ret_bool (by unfold mayB; rw [Bool.eq_iff_iff]; simp; omega), rfl⟩

def wiB (n a b : Int) : Bool := decide (a ≤ n ∧ n ≤ b)
set_option maxHeartbeats 400000 in
theorem within_any (n a b : Int) (w : World) : Calls Tryz.prog 153 #[.int .i64 n, .int .i64 a, .int .i64 b] w fun e w' => e = .returned (.bool (wiB n a b)) ∧ w = w' := by
  rcases (by omega : n < a ∨ (a ≤ n ∧ n ≤ b) ∨ (a ≤ n ∧ b < n)) with h | ⟨h1, h2⟩ | ⟨h1, h2⟩
  all_goals
    go_enter Tryz.func153, Tryz.ntmps153
    go_wp2
    go_ret
    exact ⟨ret_bool (by unfold wiB; rw [Bool.eq_iff_iff]; simp; omega), rfl⟩

theorem guess_bd (n : Int) (h1 : 719162 ≤ n) (h2 : n < 3652059) : 1 ≤ 400 * (n / 146097) + 1 + n % 146097 / 366 ∧ 400 * (n / 146097) + 1 + n % 146097 / 366 ≤ 9999 := by omega
set_option maxHeartbeats 800000 in
theorem yearOf_any (n y m d : Int) (w : World) (h : Cal.Civ n y m d) : Calls Tryz.prog 140 #[.int .i64 n] w fun e w' => e = .returned (.tuple #[.int .i64 y, .int .i64 (n - Cal.dby y)]) ∧ w = w' := by
  obtain ⟨hr1, hr2⟩ := h.range
  have hg := Cal.guess n
  have hgb := guess_bd n hr1 hr2
  obtain ⟨hy1, hy2⟩ := h.year
  have hy3 := h.y0
  have hy4 := h.y1
  go_enter Tryz.func140, Tryz.ntmps140
  go_wp2
  go_loop [4] (fun t => ∃ j : Int, 1 ≤ j ∧ j ≤ 9999 ∧ Cal.dby j ≤ n ∧ t = .int .i64 j) (fun t => (9999 - intOf t).toNat)
  case atStart => exact ⟨_, hgb.1, hgb.2, hg, rfl⟩
  case round =>
    obtain ⟨j, hj1, hj2, hj3, rfl⟩ := hrel
    rcases (by omega : Cal.dby (j + 1) ≤ n ∨ n < Cal.dby (j + 1)) with hlt | hge
    · have hj4 : j + 1 ≤ y := by
        rcases (by omega : j + 1 ≤ y ∨ y + 1 ≤ j + 1) with k | k
        · exact k
        · have := Cal.dby_mono k; omega
      go_wp2_with (go_at_call 141; refine (ahead_any _ _ (by omega) (by omega)).mono ?_; rintro e w' ⟨rfl, rfl⟩)
      go_round
      case rel => exact ⟨j + 1, by omega, by omega, hlt, rfl⟩
      case measure => simp [intOf]; omega
    · obtain rfl := Cal.year_eq hj3 hge hy1 hy2
      have hb := Cal.dby_bd (y := j) (by omega) (by omega)
      go_wp2_with (go_at_call 141; refine (ahead_any _ _ (by omega) (by omega)).mono ?_; rintro e w' ⟨rfl, rfl⟩)
      go_ret2
      exact ⟨rfl, rfl⟩
end Go.Proofs.YtefkpphahimkgaaGreatDoor

namespace Go.Proofs.YtefkpphahimkgaaGreatDoor
open Go.RowKit
set_option linter.unusedVariables false

def hhT (t : Int) : Int := t % 86400 / 3600
def mmT (t : Int) : Int := t % 86400 / 60 % 60
def ssT (t : Int) : Int := t % 86400 % 60
theorem mm_eq (t : Int) : t % 86400 % 3600 / 60 = mmT t := by unfold mmT; omega
theorem ss_eq (t : Int) : t % 86400 % 60 = ssT t := rfl
theorem hh_eq (t : Int) : t % 86400 / 3600 = hhT t := rfl
abbrev dateV (y m d h i s : Int) : Value := .agg #[.int .i64 y, .int .i64 m, .int .i64 d, .int .i64 h, .int .i64 i, .int .i64 s]
theorem days_in (y m : Int) (w : World) (h1 : 1 ≤ y) (h2 : y ≤ 9999) (h3 : 1 ≤ m) (h4 : m ≤ 12) : Calls Tryz.prog 142 #[.int .i64 y, .int .i64 m] w fun e w' => e = .returned (.int .i64 (Cal.dim y m)) ∧ w = w' := by
  have := days_any y m w
  rwa [Cal.dimZ_in h1 h2 h3 h4] at this
theorem ahead_1970 (w : World) : Calls Tryz.prog 141 #[.int .i64 1970] w fun e w' => e = .returned (.int .i64 719162) ∧ w = w' := by
  have := ahead_any 1970 w (by omega) (by omega)
  rwa [Cal.dby_1970] at this

set_option maxHeartbeats 400000 in
theorem civil_no (t : Int) (w : World) (h : mayB t = false) :
    Calls Tryz.prog 106 #[.int .i64 t] w fun e w' => e = .returned (.tuple #[dateV 0 0 0 0 0 0, .int .i64 100]) ∧ Below w.heap.size w w' := by
  go_enter Tryz.func106, Tryz.ntmps106
  go_wp2_with (go_at_call 139; refine (may_any _ _).mono ?_; rintro e w' ⟨rfl, rfl⟩)
  exact bodyPost_ret (v := .tuple #[dateV 0 0 0 0 0 0, .int .i64 100]) (by simp [results, Tryz.results106, go_sem]) rfl ⟨rfl, (Below.refl _ _).alloc (Nat.le_refl _) _⟩

theorem mayB_true {t : Int} (h : mayB t = true) : 0 ≤ t ∧ t ≤ 253402300799 := by unfold mayB at h; simpa using h
set_option maxHeartbeats 800000 in
theorem civil_yes (t y m d : Int) (w : World) (hm : mayB t = true) (h : Cal.Civ (t / 86400 + 719162) y m d) :
    Calls Tryz.prog 106 #[.int .i64 t] w fun e w' => e = .returned (.tuple #[dateV y m d (hhT t) (mmT t) (ssT t), .int .i64 0]) ∧ Below w.heap.size w w' := by
  obtain ⟨ht0, ht1⟩ := mayB_true hm
  have h1 := h.y0
  have h2 := h.y1
  have h3 := h.m0
  have h4 := h.m1
  have hb := Cal.dby_bd (y := y) (by omega) (by omega)
  have hM := Lib.hid (mm_eq t)
  go_enter Tryz.func106, Tryz.ntmps106
  go_wp2_with (first | (go_at_call 139; refine (may_any _ _).mono ?_; rintro e w' ⟨rfl, rfl⟩) | (go_at_call 141; refine (ahead_1970 _).mono ?_; rintro e w' ⟨rfl, rfl⟩) | (go_at_call 140; refine (yearOf_any _ y m d _ h).mono ?_; rintro e w' ⟨rfl, rfl⟩))
  go_loop [5, 6] (fun a b => ∃ k : Int, 1 ≤ k ∧ k ≤ m ∧ b = .int .i64 k ∧ a = .int .i64 (t / 86400 + 719162 - Cal.dby y - Cal.cum y k)) (fun _ b => (12 - intOf b).toNat)
  case atStart => exact ⟨1, by omega, h3, rfl, by rw [Cal.cum_one]; go_num⟩
  case round =>
    obtain ⟨k, hk1, hk2, rfl, rfl⟩ := hrel
    have hcb := Cal.cum_bd y hk1 (by omega)
    have hdb := Cal.dim_bd y k
    obtain ⟨hmo1, hmo2⟩ := h.month hk1 hk2
    have hcs := Lib.hid (Cal.cum_succ y k hk1 (by omega))
    rcases (by omega : k < m ∨ k = m) with hlt | heq
    · have hge := hmo1 hlt
      clear hmo1 hmo2
      go_wp2_with (go_at_call 142; refine (days_in _ _ _ (by omega) (by omega) (by omega) (by omega)).mono ?_; rintro e w' ⟨rfl, rfl⟩)
      go_round
      case rel => exact ⟨k + 1, by omega, by omega, rfl, by rw [hcs.out]; go_num⟩
      case measure => simp [intOf]; omega
    · have heq2 := Lib.hid (hmo2 heq)
      have hd1 := h.d1
      have hd0 := h.d0
      subst heq
      have hlt2 : t / 86400 + 719162 - Cal.dby y - Cal.cum y k < Cal.dim y k := by rw [heq2.out]; omega
      clear hmo1 hmo2
      go_wp2_with (go_at_call 142; refine (days_in _ _ _ (by omega) (by omega) (by omega) (by omega)).mono ?_; rintro e w' ⟨rfl, rfl⟩)
      exact bodyPost_ret (v := .tuple #[dateV y k (t / 86400 + 719162 - Cal.dby y - Cal.cum y k + 1) (t % 86400 / 3600) (t % 86400 % 3600 / 60) (t % 86400 % 60), .int .i64 0]) (by simp [results, Tryz.results106, go_sem]) rfl ⟨by rw [heq2.out, hM.out, ss_eq, hh_eq, Int.sub_add_cancel], (Below.refl _ _).alloc (Nat.le_refl _) _⟩
end Go.Proofs.YtefkpphahimkgaaGreatDoor

namespace Go.Proofs.YtefkpphahimkgaaGreatDoor
open Go.RowKit
set_option linter.unusedVariables false

theorem quiet_ld {P : Program} {f : FuncId} {args : Array Value} {w : World} {n : Nat} {v : Value}
    (h : Calls P f args (w.drewN n) fun e w' => e = .returned v ∧ w.drewN n = w') : Calls P f args (w.drewN n) fun e w'' => e = .returned v ∧ ∃ m, w'' = w.drewN m :=
  h.mono fun _ _ ⟨he, hm⟩ => ⟨he, n, hm.symm⟩

theorem dnB {B : Nat} {w w' : World} (h : Below B w w') (n : Nat) : Below B w (w'.drewN n) :=
  ⟨h.os, h.tape, h.output, h.size, h.block⟩
theorem quiet_al {P : Program} {f : FuncId} {args : Array Value} {w : World} {a n : Nat} {v : Value}
    (h : Calls P f args (w.drewN (a + n)) fun e w' => e = .returned v ∧ w.drewN (a + n) = w') : Calls P f args (w.drewN (a + n)) fun e w'' => e = .returned v ∧ ∃ m, w'' = w.drewN (a + m) :=
  h.mono fun _ _ ⟨he, hm⟩ => ⟨he, n, hm.symm⟩
/-- is there a moment of a date? -/
def valB (y m d h i s : Int) : Bool := wiB y 1970 9999 && wiB d 1 (Cal.dimZ y m) && wiB h 0 23 && wiB i 0 59 && wiB s 0 59
def timV (y m d h i s : Int) : Int := 86400 * (Cal.dby y - 719162 + Cal.cum y m + d - 1) + 3600 * h + 60 * i + s

theorem valB_true {y m d h i s : Int} (hv : valB y m d h i s = true) : wiB y 1970 9999 = true ∧ wiB d 1 (Cal.dimZ y m) = true ∧ wiB h 0 23 = true ∧ wiB i 0 59 = true ∧ wiB s 0 59 = true := by
  unfold valB at hv
  revert hv
  cases wiB y 1970 9999 <;> cases wiB d 1 (Cal.dimZ y m) <;> cases wiB h 0 23 <;> cases wiB i 0 59 <;> cases wiB s 0 59 <;> simp
theorem wiB_true {n a b : Int} (h : wiB n a b = true) : a ≤ n ∧ n ≤ b := by unfold wiB at h; simpa using h
theorem valB_facts {y m d h i s : Int} (hv : valB y m d h i s = true) : 1970 ≤ y ∧ y ≤ 9999 ∧ 1 ≤ m ∧ m ≤ 12 ∧ 1 ≤ d ∧ d ≤ Cal.dim y m ∧ 0 ≤ h ∧ h ≤ 23 ∧ 0 ≤ i ∧ i ≤ 59 ∧ 0 ≤ s ∧ s ≤ 59 := by
  obtain ⟨a1, a2, a3, a4, a5⟩ := valB_true hv
  obtain ⟨b1, c1⟩ := wiB_true a1
  obtain ⟨b2, c2⟩ := wiB_true a2
  obtain ⟨b3, c3⟩ := wiB_true a3
  obtain ⟨b4, c4⟩ := wiB_true a4
  obtain ⟨b5, c5⟩ := wiB_true a5
  by_cases hin : 1 ≤ y ∧ y ≤ 9999 ∧ 1 ≤ m ∧ m ≤ 12
  · rw [Cal.dimZ_in hin.1 hin.2.1 hin.2.2.1 hin.2.2.2] at c2
    exact ⟨b1, c1, hin.2.2.1, hin.2.2.2, b2, c2, b3, c3, b4, c4, b5, c5⟩
  · rw [Cal.dimZ_out hin] at c2
    omega

set_option maxHeartbeats 1600000 in
theorem time_yes (y m d h i s : Int) (w : World) (hv : valB y m d h i s = true) :
    Calls Tryz.prog 120 #[dateV y m d h i s] w fun e w' => e = .returned (.tuple #[.int .i64 (timV y m d h i s), .int .i64 0]) ∧ Below w.heap.size w w' := by
  obtain ⟨a1, a2, a3, a4, a5⟩ := valB_true hv
  obtain ⟨h1, h2, h3, h4, h5, h6, h7, h8, h9, h10, h11, h12⟩ := valB_facts hv
  clear hv
  have hb := dby_bd' (y := y) (by omega) (by omega)
  have hdm := Cal.dim_bd y m
  have hd70 := Cal.dby_1970
  have hw1 : IntKind.i64.wrap (Cal.dby y - 719162) = Cal.dby y - 719162 := IntWalk.i64_in _ (by omega)
  have hw2 : IntKind.i64.wrap (Cal.dby y - 719162 + d) = Cal.dby y - 719162 + d := IntWalk.i64_in _ (by omega)
  have hw3 : IntKind.i64.wrap (Cal.dby y - 719162 + d - 1) = Cal.dby y - 719162 + d - 1 := IntWalk.i64_in _ (by omega)
  go_enter Tryz.func120, Tryz.ntmps120
  go_wp2
  go_quiet ((first | (go_at_call 153; exact quiet_ld (within_any _ _ _ _)) | (go_at_call 142; exact quiet_ld (days_any _ _ _))))
  go_wp2
  go_quiet ((go_at_call 141; exact quiet_al (ahead_any _ _ (by omega) (by omega))))
  clear hw1 hw2 hw3 hd70 a1 a2 a3 a4 a5
  go_wp2
  rw [World.drewN_drewN]
  go_loop [4, 5] (fun a b => ∃ k : Int, 1 ≤ k ∧ k ≤ m ∧ b = .int .i64 k ∧ a = .int .i64 (Cal.dby y - 719162 + d - 1 + Cal.cum y k)) (fun _ b => (12 - intOf b).toNat)
  case atStart => exact ⟨1, by omega, h3, rfl, by rw [Cal.cum_one]; go_num⟩
  case round =>
    obtain ⟨k, hk1, hk2, rfl, rfl⟩ := hrel
    have hcb := Cal.cum_bd y hk1 (by omega)
    have hdb := Cal.dim_bd y k
    have hcs := Lib.hid (Cal.cum_succ y k hk1 (by omega))
    rcases (by omega : k < m ∨ k = m) with hlt | heq
    · go_wp2_with (go_at_call 142; refine (days_in _ _ _ (by omega) (by omega) (by omega) (by omega)).mono ?_; rintro e w' ⟨rfl, rfl⟩)
      go_round
      case rel => exact ⟨k + 1, by omega, by omega, rfl, by rw [hcs.out]; go_num⟩
      case measure => simp [intOf]; omega
    · subst heq
      go_wp2
      go_ret2
      exact ⟨by unfold timV; rw [show Cal.dby y - 719162 + d - 1 + Cal.cum y k = Cal.dby y - 719162 + Cal.cum y k + d - 1 by omega]; rfl, dnB ((Below.refl _ _).alloc (Nat.le_refl _) _) _⟩

end Go.Proofs.YtefkpphahimkgaaGreatDoor

namespace Go.Proofs.YtefkpphahimkgaaGreatDoor
open Go.RowKit
set_option linter.unusedVariables false

/-- two digits -/
def dig2 (n : Nat) : List UInt8 := [UInt8.ofNat (48 + n / 10), UInt8.ofNat (48 + n % 10)]
def dig4 (n : Nat) : List UInt8 := dig2 (n / 100) ++ dig2 (n % 100)
/-- a text's bytes -/
def strL (l : List UInt8) : ByteArray := ⟨l.toArray⟩
theorem ba_eq {a b : ByteArray} (h : a.data.toList = b.data.toList) : a = b := by
  cases a; cases b; simp at h; simp [h]
theorem ret_str {a b : ByteArray} (h : a = b) : Ending.returned (.string a) = .returned (.string b) := by rw [h]

theorem dec_dig4 {n : Nat} (h1 : 1000 ≤ n) (h2 : n < 10000) : Lib.decDigits n = dig4 n := by
  rw [Lib.decDigits, dif_neg (by omega), Lib.decDigits, dif_neg (by omega), Lib.decDigits_two (by omega) (by omega)]
  unfold dig4 dig2
  rw [show n / 10 / 10 / 10 = n / 100 / 10 by omega, show n / 10 / 10 % 10 = n / 100 % 10 by omega, show n / 10 % 10 = n % 100 / 10 by omega, show n % 10 = n % 100 % 10 by omega]
  rfl

def tabP (w : World) : Prop := Lib.TabIs Tryz.prog w "internal/strconv.uint64pow10" .u64 Lib.pow10Tab
theorem tabP.below {w w' : World} (h : tabP w) (hb : Below w.heap.size w w') : tabP w' := by
  have hgn : Tryz.prog.globalNamed "internal/strconv.uint64pow10" = some 4 := by kernel_rfl
  unfold tabP Lib.TabIs World.var? at h ⊢
  rw [hgn] at h ⊢
  simp only [Option.bind_some] at h ⊢
  have hlt : 4 < w.heap.size := by
    rcases Nat.lt_or_ge 4 w.heap.size with h' | h'
    · exact h'
    · rw [Array.getElem?_eq_none h'] at h; cases h
  rw [hb.block _ hlt]
  exact h

theorem itoa_small_as (n : Nat) (hn : n < 100) (t : ByteArray) (ht : t = strL (Lib.decDigits n)) (w : World) :
    Calls Tryz.prog 143 #[.int .i64 n] w fun e w' => e = .returned (.string t) ∧ w = w' := by
  subst ht
  exact (Tryz.strconv_Itoa_small n hn w).mono fun _ _ ⟨a, b⟩ => ⟨a, b.symm⟩
theorem itoa_any_as (n : Nat) (hn : n < 10000) (t : ByteArray) (ht : t = strL (Lib.decDigits n)) (w : World) (htab : tabP w) :
    Calls Tryz.prog 143 #[.int .i64 n] w fun e w' => e = .returned (.string t) ∧ Below w.heap.size w w' := by
  subst ht
  refine (Tryz.strconv_Itoa n (by omega) (by omega) w htab).mono fun _ _ ⟨a, k, os, b⟩ => ⟨?_, ?_⟩
  · rw [a, Lib.itoa_nonneg]; rfl
  · subst b; exact Lib.below_grow _ _ (Nat.le_refl _) _ _
theorem rep_one (w : World) : Calls Tryz.prog 144 #[.string ⟨#[48]⟩, .int .i64 1] w fun e w' => e = .returned (.string ⟨#[48]⟩) ∧ w = w' :=
  (Tryz.strings_Repeat_one _ w).mono fun _ _ ⟨a, b⟩ => ⟨a, b.symm⟩
theorem rep_zero (w : World) : Calls Tryz.prog 144 #[.string ⟨#[48]⟩, .int .i64 0] w fun e w' => e = .returned (.string ⟨#[]⟩) ∧ w = w' :=
  (Tryz.strings_Repeat_zero _ w).mono fun _ _ ⟨a, b⟩ => ⟨a, b.symm⟩

set_option maxHeartbeats 400000 in
theorem pad2_any (n : Nat) (w : World) (hn : n < 100) :
    Calls Tryz.prog 107 #[.int .i64 n, .int .i64 2] w fun e w' => e = .returned (.string (strL (dig2 n))) ∧ w = w' := by
  obtain ⟨t, ht⟩ : ∃ t, t = strL (Lib.decDigits n) := ⟨_, rfl⟩
  have HT := Lib.hid ht
  rcases (by omega : n < 10 ∨ 10 ≤ n) with h | h
  · have hz : t.size = 1 := by rw [ht, Lib.decDigits_one h]; rfl
    have HD := Lib.hid (Lib.decDigits_one h)
    clear ht
    go_enter Tryz.func107, Tryz.ntmps107
    go_wp2_with (first | (go_at_call 143; refine (itoa_small_as n hn t HT.out _).mono ?_; rintro e w' ⟨rfl, rfl⟩) | (go_at_call 144; refine (rep_one _).mono ?_; rintro e w' ⟨rfl, rfl⟩))
    go_ret
    exact ⟨ret_str (ba_eq (by rw [HT.out, HD.out]; simp only [dig2, show n / 10 = 0 by omega, show n % 10 = n by omega]; simp [strL])), rfl⟩
  · have hz : t.size = 2 := by rw [ht, Lib.decDigits_two (by omega) hn]; rfl
    have HD := Lib.hid (Lib.decDigits_two (by omega : ¬ n < 10) hn)
    clear ht
    go_enter Tryz.func107, Tryz.ntmps107
    go_wp2_with (first | (go_at_call 143; refine (itoa_small_as n hn t HT.out _).mono ?_; rintro e w' ⟨rfl, rfl⟩) | (go_at_call 144; refine (rep_zero _).mono ?_; rintro e w' ⟨rfl, rfl⟩))
    go_ret
    exact ⟨ret_str (ba_eq (by rw [HT.out, HD.out]; simp [strL, dig2])), rfl⟩
set_option maxHeartbeats 400000 in
theorem pad4_any (n : Nat) (w : World) (h1 : 1000 ≤ n) (hn : n < 10000) (htab : tabP w) :
    Calls Tryz.prog 107 #[.int .i64 n, .int .i64 4] w fun e w' => e = .returned (.string (strL (dig4 n))) ∧ Below w.heap.size w w' := by
  obtain ⟨t, ht⟩ : ∃ t, t = strL (Lib.decDigits n) := ⟨_, rfl⟩
  have HT := Lib.hid ht
  have HTAB := Lib.hid htab
  have hz : t.size = 4 := by rw [ht, dec_dig4 h1 hn]; rfl
  have HD := Lib.hid (dec_dig4 h1 hn)
  clear ht htab
  go_enter Tryz.func107, Tryz.ntmps107
  go_wp2_with (first | (go_at_call 143; refine (itoa_any_as n hn t HT.out _ HTAB.out).mono ?_; rintro e w1 ⟨rfl, hb⟩) | (go_at_call 144; refine (rep_zero _).mono ?_; rintro e w' ⟨rfl, rfl⟩))
  go_ret
  exact ⟨ret_str (ba_eq (by rw [HT.out, HD.out]; simp [strL])), hb⟩
theorem pad2_int (n : Int) (w : World) (h0 : 0 ≤ n) (hn : n < 100) :
    Calls Tryz.prog 107 #[.int .i64 n, .int .i64 2] w fun e w' => e = .returned (.string (strL (dig2 n.toNat))) ∧ w = w' := by
  have := pad2_any n.toNat w (by omega)
  rwa [show ((n.toNat : Nat) : Int) = n by omega] at this
theorem pad4_int (n : Int) (w : World) (h0 : 1000 ≤ n) (hn : n < 10000) (htab : tabP w) :
    Calls Tryz.prog 107 #[.int .i64 n, .int .i64 4] w fun e w' => e = .returned (.string (strL (dig4 n.toNat))) ∧ Below w.heap.size w w' := by
  have := pad4_any n.toNat w (by omega) (by omega) htab
  rwa [show ((n.toNat : Nat) : Int) = n by omega] at this

def txtL (y m d h i s : Int) : List UInt8 := dig4 y.toNat ++ [45] ++ dig2 m.toNat ++ [45] ++ dig2 d.toNat ++ [84] ++ dig2 h.toNat ++ [58] ++ dig2 i.toNat ++ [58] ++ dig2 s.toNat ++ [90]

theorem pad2_as (n : Int) (t : ByteArray) (w : World) (h0 : 0 ≤ n) (hn : n < 100) (ht : t = strL (dig2 n.toNat)) :
    Calls Tryz.prog 107 #[.int .i64 n, .int .i64 2] w fun e w' => e = .returned (.string t) ∧ w = w' := by
  subst ht; exact pad2_int n w h0 hn
theorem pad4_as (n : Int) (t : ByteArray) (w : World) (h0 : 1000 ≤ n) (hn : n < 10000) (htab : tabP w) (ht : t = strL (dig4 n.toNat)) :
    Calls Tryz.prog 107 #[.int .i64 n, .int .i64 4] w fun e w' => e = .returned (.string t) ∧ Below w.heap.size w w' := by
  subst ht; exact pad4_int n w h0 hn htab
theorem txt_str {y m d a b c : Int} {ty tm td ta tb tc : ByteArray} (hy : ty = strL (dig4 y.toNat)) (hm : tm = strL (dig2 m.toNat)) (hd : td = strL (dig2 d.toNat)) (ha : ta = strL (dig2 a.toNat)) (hb : tb = strL (dig2 b.toNat)) (hc : tc = strL (dig2 c.toNat)) :
    ty ++ { data := #[45] } ++ tm ++ { data := #[45] } ++ td ++ { data := #[84] } ++ ta ++ { data := #[58] } ++ tb ++ { data := #[58] } ++ tc ++ { data := #[90] } = strL (txtL y m d a b c) := by
  subst hy; subst hm; subst hd; subst ha; subst hb; subst hc
  apply ba_eq
  simp [strL, txtL]
theorem civ_dim {n y m d : Int} (h : Cal.Civ n y m d) : 1970 ≤ y ∧ y ≤ 9999 ∧ 1 ≤ m ∧ m ≤ 12 ∧ 1 ≤ d ∧ d ≤ 31 := by
  have := Cal.dim_bd y m
  exact ⟨h.y0, h.y1, h.m0, h.m1, h.d0, by have := h.d1; omega⟩
theorem hms_bd (t : Int) : 0 ≤ hhT t ∧ hhT t ≤ 23 ∧ 0 ≤ mmT t ∧ mmT t ≤ 59 ∧ 0 ≤ ssT t ∧ ssT t ≤ 59 := by
  unfold hhT mmT ssT
  omega

set_option maxHeartbeats 400000 in
theorem text_no (t : Int) (w : World) (h : mayB t = false) :
    Calls Tryz.prog 66 #[.int .i64 t] w fun e w' => e = .returned (.tuple #[.string ⟨#[]⟩, .int .i64 100]) ∧ Below w.heap.size w w' := by
  go_enter Tryz.func66, Tryz.ntmps66
  go_wp2_with (go_at_call 106; refine (civil_no t _ h).mono ?_; rintro e w1 ⟨rfl, hb⟩)
  go_ret2
  exact ⟨rfl, hb.alloc hb.size _⟩
/-- the cells of a date in a block -/
def six (w' : World) (g : Nat) (y m d a b c : Int) : Prop :=
  w'.cell? ⟨g, 0, none⟩ = some (.int .i64 y) ∧ w'.cell? ⟨g, 1, none⟩ = some (.int .i64 m) ∧ w'.cell? ⟨g, 2, none⟩ = some (.int .i64 d) ∧ w'.cell? ⟨g, 3, none⟩ = some (.int .i64 a) ∧ w'.cell? ⟨g, 4, none⟩ = some (.int .i64 b) ∧ w'.cell? ⟨g, 5, none⟩ = some (.int .i64 c)
theorem six_new (w : World) (y m d a b c : Int) : six ((w.alloc (.cells #[.int .i64 y, .int .i64 m, .int .i64 d, .int .i64 a, .int .i64 b, .int .i64 c] 103)).drew) w.heap.size y m d a b c :=
  have h := (Blk.new w 103 #[.int .i64 y, .int .i64 m, .int .i64 d, .int .i64 a, .int .i64 b, .int .i64 c]).drew
  ⟨h.cell 0, h.cell 1, h.cell 2, h.cell 3, h.cell 4, h.cell 5⟩
theorem six_below {W w' : World} {g : Nat} {y m d a b c : Int} (h : six W g y m d a b c) (hg : g < W.heap.size) (hb : Below W.heap.size W w') : six w' g y m d a b c :=
  ⟨(hb.cell (p := ⟨g, 0, none⟩) hg).trans h.1, (hb.cell (p := ⟨g, 1, none⟩) hg).trans h.2.1, (hb.cell (p := ⟨g, 2, none⟩) hg).trans h.2.2.1, (hb.cell (p := ⟨g, 3, none⟩) hg).trans h.2.2.2.1, (hb.cell (p := ⟨g, 4, none⟩) hg).trans h.2.2.2.2.1, (hb.cell (p := ⟨g, 5, none⟩) hg).trans h.2.2.2.2.2⟩
set_option maxHeartbeats 1600000 in
theorem text_yes (t y m d : Int) (w : World) (hm : mayB t = true) (h : Cal.Civ (t / 86400 + 719162) y m d) (htab : tabP w) :
    Calls Tryz.prog 66 #[.int .i64 t] w fun e w' => e = .returned (.tuple #[.string (strL (txtL y m d (hhT t) (mmT t) (ssT t))), .int .i64 0]) ∧ Below w.heap.size w w' := by
  obtain ⟨h1, h2, h3, h4, h5, h6⟩ := civ_dim h
  obtain ⟨h7, h8, h9, h10, h11, h12⟩ := hms_bd t
  have HTAB := Lib.hid htab
  clear htab
  go_enter Tryz.func66, Tryz.ntmps66
  go_wp2_with (go_at_call 106; refine (civil_yes t y m d _ hm h).mono ?_; rintro e w1 ⟨rfl, hb⟩)
  obtain ⟨a, ha⟩ : ∃ a, a = hhT t := ⟨_, rfl⟩
  obtain ⟨b, hb'⟩ : ∃ b, b = mmT t := ⟨_, rfl⟩
  obtain ⟨c, hc⟩ : ∃ c, c = ssT t := ⟨_, rfl⟩
  rw [← ha, ← hb', ← hc]
  rw [← ha] at h7 h8
  rw [← hb'] at h9 h10
  rw [← hc] at h11 h12
  have EA := Lib.hid ha
  have EB := Lib.hid hb'
  have EC := Lib.hid hc
  clear ha hb' hc
  obtain ⟨ty, hty⟩ : ∃ x, x = strL (dig4 y.toNat) := ⟨_, rfl⟩
  obtain ⟨tm, htm⟩ : ∃ x, x = strL (dig2 m.toNat) := ⟨_, rfl⟩
  obtain ⟨td, htd⟩ : ∃ x, x = strL (dig2 d.toNat) := ⟨_, rfl⟩
  obtain ⟨ta, hta⟩ : ∃ x, x = strL (dig2 a.toNat) := ⟨_, rfl⟩
  obtain ⟨tb, htb⟩ : ∃ x, x = strL (dig2 b.toNat) := ⟨_, rfl⟩
  obtain ⟨tc, htc⟩ : ∃ x, x = strL (dig2 c.toNat) := ⟨_, rfl⟩
  have zy : ty.size = 4 := by rw [hty]; rfl
  have zm : tm.size = 2 := by rw [htm]; rfl
  have zd : td.size = 2 := by rw [htd]; rfl
  have za : ta.size = 2 := by rw [hta]; rfl
  have zb : tb.size = 2 := by rw [htb]; rfl
  have zc : tc.size = 2 := by rw [htc]; rfl
  have HY := Lib.hid hty
  have HM := Lib.hid htm
  have HD := Lib.hid htd
  have HA := Lib.hid hta
  have HBB := Lib.hid htb
  have HC := Lib.hid htc
  clear hty htm htd hta htb htc
  have HB := Lib.hid hb
  have HT1 := Lib.hid (HTAB.out.below hb)
  have hz := hb.size
  clear hb
  go_region_held3 (fun w' => w'.cell? ⟨w1.heap.size, 0, none⟩ = some (.int .i64 y) ∧ w'.cell? ⟨w1.heap.size, 1, none⟩ = some (.int .i64 m) ∧ w'.cell? ⟨w1.heap.size, 2, none⟩ = some (.int .i64 d) ∧ w'.cell? ⟨w1.heap.size, 3, none⟩ = some (.int .i64 a) ∧ w'.cell? ⟨w1.heap.size, 4, none⟩ = some (.int .i64 b) ∧ w'.cell? ⟨w1.heap.size, 5, none⟩ = some (.int .i64 c))
    (first | exact six_below (six_new w1 y m d a b c) (by simp) hb2 | go_keep)
    (first | (go_at_call 107; (with_reducible refine (pad4_as y ty _ (by omega) (by omega) (by exact HT1.out.below (((Below.refl _ _).alloc (Nat.le_refl _) _).drew)) HY.out).mono ?_); rintro e w2 ⟨rfl, hb2⟩)
           | (go_at_call 107; (with_reducible refine (pad2_as m tm _ (by omega) (by omega) HM.out).mono ?_); rintro e w' ⟨rfl, rfl⟩)
           | (go_at_call 107; (with_reducible refine (pad2_as d td _ (by omega) (by omega) HD.out).mono ?_); rintro e w' ⟨rfl, rfl⟩)
           | (go_at_call 107; (with_reducible refine (pad2_as a ta _ (by omega) (by omega) HA.out).mono ?_); rintro e w' ⟨rfl, rfl⟩)
           | (go_at_call 107; (with_reducible refine (pad2_as b tb _ (by omega) (by omega) HBB.out).mono ?_); rintro e w' ⟨rfl, rfl⟩)
           | (go_at_call 107; (with_reducible refine (pad2_as c tc _ (by omega) (by omega) HC.out).mono ?_); rintro e w' ⟨rfl, rfl⟩))
  go_wp2
  go_ret2
  exact ⟨by rw [← EA.out, ← EB.out, ← EC.out, txt_str HY.out HM.out HD.out HA.out HBB.out HC.out]; rfl, ((HB.out.alloc hz _).drew).trans (hb2.mono (by simp; omega))⟩
end Go.Proofs.YtefkpphahimkgaaGreatDoor

namespace Go.Proofs.YtefkpphahimkgaaGreatDoor
open Go.RowKit
set_option linter.unusedVariables false

/-- the number of digits; below 0: they are none -/
def digN : List UInt8 → Int → Int
  | [], n => n
  | c :: l, n => if 48 ≤ (c.toNat : Int) ∧ (c.toNat : Int) ≤ 57 then digN l (10 * n + ((c.toNat : Int) - 48)) else -1
def dgs (t : ByteArray) : Int := digN t.data.toList 0
theorem digN_cons_yes {c : UInt8} {l : List UInt8} {n : Int} (h1 : 48 ≤ (c.toNat : Int)) (h2 : (c.toNat : Int) ≤ 57) : digN (c :: l) n = digN l (10 * n + ((c.toNat : Int) - 48)) := by
  rw [digN, if_pos ⟨h1, h2⟩]
theorem digN_cons_no {c : UInt8} {l : List UInt8} {n : Int} (h : (c.toNat : Int) < 48 ∨ 57 < (c.toNat : Int)) : digN (c :: l) n = -1 := by
  rw [digN, if_neg (by omega)]
theorem drop_cons {s : ByteArray} {k : Nat} (h : k < s.size) : s.data.toList.drop k = s[k] :: s.data.toList.drop (k + 1) := by
  rw [List.drop_eq_getElem_cons (by simpa using h)]
  rfl

/-- what the digits so far may be -/
def BD (k : Nat) (x : Int) : Prop := 0 ≤ x ∧ x ≤ 9999 ∧ (k = 0 → x ≤ 0) ∧ (k = 1 → x ≤ 9) ∧ (k = 2 → x ≤ 99) ∧ (k = 3 → x ≤ 999)
theorem BD.zero : BD 0 0 := by unfold BD; omega
theorem BD.next {k : Nat} {x c : Int} (h : BD k x) (hk : k < 4) (h1 : 48 ≤ c) (h2 : c ≤ 57) : BD (k + 1) (10 * x + (c - 48)) := by
  unfold BD at h ⊢; omega
theorem BD.bd {k : Nat} {x : Int} (h : BD k x) : 0 ≤ x ∧ x ≤ 9999 := ⟨h.1, h.2.1⟩
theorem conv_at (s : ByteArray) (w : World) : ∃ cap C, (convert 9 45 (.string s)).run Tryz.prog w = .ok (.slice (some ⟨w.heap.size, 0, none⟩) s.size cap) (w.drew.alloc (.cells C 5 (C.size, C.size + 1))) ∧ ∀ k (h : k < s.size), C[k]? = some (.int .u8 (s[k].toNat : Int)) := by
  refine ⟨_, _, run_bytes_of_string w 9 45 5 s Tryz.underlying9 Tryz.underlying45 Tryz.underlying5, fun k h => ?_⟩
  have h' : k < s.data.size := h
  unfold bytesRow
  rw [Array.getElem?_append_left (by simpa using h')]
  simp
  exact ⟨s[k], Array.getElem?_eq_getElem h', rfl⟩

set_option maxHeartbeats 800000 in
theorem digits_any (s : ByteArray) (w : World) (hs : s.size ≤ 4) :
    Calls Tryz.prog 121 #[.string s] w fun e w' => e = .returned (.int .i64 (dgs s)) ∧ Below w.heap.size w w' := by
  obtain ⟨cap, C, hconv, hC⟩ := conv_at s w
  have HC := Lib.hid hC
  clear hC
  have hd0 : digN (s.data.toList.drop 0) 0 = dgs s := rfl
  have HD0 := Lib.hid hd0
  clear hd0
  go_enter Tryz.func121, Tryz.ntmps121
  go_wp2
  clear hconv
  go_loop [3, 9] (fun n i => ∃ (k : Nat) (x : Int), k ≤ s.size ∧ i = .int .i64 k ∧ n = .int .i64 x ∧ BD k x ∧ digN (s.data.toList.drop k) x = dgs s) (fun _ i => s.size - (intOf i).toNat)
  case atStart => exact ⟨0, 0, Nat.zero_le _, rfl, rfl, BD.zero, HD0.out⟩
  case round =>
    obtain ⟨k, x, hk, rfl, rfl, hbd, hdg⟩ := hrel
    obtain ⟨hx0, hx1⟩ := hbd.bd
    have HG := Lib.hid hdg
    clear hdg
    rcases (by omega : k < s.size ∨ k = s.size) with hlt | heq
    · have hck := HC.out k hlt
      have HCONS := Lib.hid (drop_cons hlt)
      obtain ⟨c, hc⟩ : ∃ c : Int, c = (s[k].toNat : Int) := ⟨_, rfl⟩
      rw [← hc] at hck
      have hcell : (w.alloc (Obj.cells C 5 (C.size, C.size + 1))).cell? ⟨w.heap.size, k, none⟩ = some (.int .u8 c) := (cell_of_row _ _ k C _ _ (heap_alloc_new w _)).trans hck
      clear hck
      have HCE := Lib.hid hc
      have hc256 : 0 ≤ c ∧ c < 256 := by rw [hc]; have := s[k].toNat_lt; omega
      clear hc
      rcases (by omega : c < 48 ∨ (48 ≤ c ∧ 57 < c) ∨ (48 ≤ c ∧ c ≤ 57)) with h1 | ⟨h1, h2⟩ | ⟨h1, h2⟩
      · go_wp2
        go_ret
        exact ⟨ret_int (by rw [← HG.out, HCONS.out, digN_cons_no (by rw [← HCE.out]; omega)]), ((Below.refl _ _).alloc (Nat.le_refl _) _).drew⟩
      · go_wp2
        go_ret
        exact ⟨ret_int (by rw [← HG.out, HCONS.out, digN_cons_no (by rw [← HCE.out]; omega)]), ((Below.refl _ _).alloc (Nat.le_refl _) _).drew⟩
      · have hnx := hbd.next (by omega) h1 h2
        have hnb := hnx.bd
        have HN := Lib.hid hnx
        clear hnx
        go_wp2
        go_round
        case rel => exact ⟨k + 1, 10 * x + (c - 48), by omega, by go_num, rfl, HN.out, by rw [← HG.out, HCONS.out, digN_cons_yes (by rw [← HCE.out]; omega) (by rw [← HCE.out]; omega), HCE.out]⟩
        case measure => simp [intOf]; omega
    · subst heq
      have HE : Hid (dgs s = x) := by show _ = _; rw [← HG.out, List.drop_of_length_le (by simp)]; rfl
      go_wp2
      go_ret
      exact ⟨ret_int HE.out.symm, ((Below.refl _ _).alloc (Nat.le_refl _) _).drew⟩
end Go.Proofs.YtefkpphahimkgaaGreatDoor

namespace Go.Proofs.YtefkpphahimkgaaGreatDoor
open Go.RowKit
set_option linter.unusedVariables false

def ch (s : ByteArray) (k : Nat) : UInt8 := if h : k < s.size then s[k] else 0
theorem ch_at {s : ByteArray} {k : Nat} (h : k < s.size) : s[k] = ch s k := by unfold ch; rw [dif_pos h]
/-- do the signs between the digits stand there? -/
def okB (s : ByteArray) : Bool := decide (((ch s 4).toNat : Int) = 45 ∧ ((ch s 7).toNat : Int) = 45 ∧ ((ch s 10).toNat : Int) = 84 ∧ ((ch s 13).toNat : Int) = 58 ∧ ((ch s 16).toNat : Int) = 58 ∧ ((ch s 19).toNat : Int) = 90)
theorem okB_true {s : ByteArray} (h : okB s = true) : ((ch s 4).toNat : Int) = 45 ∧ ((ch s 7).toNat : Int) = 45 ∧ ((ch s 10).toNat : Int) = 84 ∧ ((ch s 13).toNat : Int) = 58 ∧ ((ch s 16).toNat : Int) = 58 ∧ ((ch s 19).toNat : Int) = 90 := by
  unfold okB at h; simpa using h

theorem lt20 {k : Nat} (h : k < 20) : k = 0 ∨ k = 1 ∨ k = 2 ∨ k = 3 ∨ k = 4 ∨ k = 5 ∨ k = 6 ∨ k = 7 ∨ k = 8 ∨ k = 9 ∨ k = 10 ∨ k = 11 ∨ k = 12 ∨ k = 13 ∨ k = 14 ∨ k = 15 ∨ k = 16 ∨ k = 17 ∨ k = 18 ∨ k = 19 := by omega
theorem fm0 : ((ByteArray.mk #[48, 48, 48, 48, 45, 48, 48, 45, 48, 48, 84, 48, 48, 58, 48, 48, 58, 48, 48, 90])[0]'(by decide)).toNat = 48 := by decide
theorem fm1 : ((ByteArray.mk #[48, 48, 48, 48, 45, 48, 48, 45, 48, 48, 84, 48, 48, 58, 48, 48, 58, 48, 48, 90])[1]'(by decide)).toNat = 48 := by decide
theorem fm2 : ((ByteArray.mk #[48, 48, 48, 48, 45, 48, 48, 45, 48, 48, 84, 48, 48, 58, 48, 48, 58, 48, 48, 90])[2]'(by decide)).toNat = 48 := by decide
theorem fm3 : ((ByteArray.mk #[48, 48, 48, 48, 45, 48, 48, 45, 48, 48, 84, 48, 48, 58, 48, 48, 58, 48, 48, 90])[3]'(by decide)).toNat = 48 := by decide
theorem fm4 : ((ByteArray.mk #[48, 48, 48, 48, 45, 48, 48, 45, 48, 48, 84, 48, 48, 58, 48, 48, 58, 48, 48, 90])[4]'(by decide)).toNat = 45 := by decide
theorem fm5 : ((ByteArray.mk #[48, 48, 48, 48, 45, 48, 48, 45, 48, 48, 84, 48, 48, 58, 48, 48, 58, 48, 48, 90])[5]'(by decide)).toNat = 48 := by decide
theorem fm6 : ((ByteArray.mk #[48, 48, 48, 48, 45, 48, 48, 45, 48, 48, 84, 48, 48, 58, 48, 48, 58, 48, 48, 90])[6]'(by decide)).toNat = 48 := by decide
theorem fm7 : ((ByteArray.mk #[48, 48, 48, 48, 45, 48, 48, 45, 48, 48, 84, 48, 48, 58, 48, 48, 58, 48, 48, 90])[7]'(by decide)).toNat = 45 := by decide
theorem fm8 : ((ByteArray.mk #[48, 48, 48, 48, 45, 48, 48, 45, 48, 48, 84, 48, 48, 58, 48, 48, 58, 48, 48, 90])[8]'(by decide)).toNat = 48 := by decide
theorem fm9 : ((ByteArray.mk #[48, 48, 48, 48, 45, 48, 48, 45, 48, 48, 84, 48, 48, 58, 48, 48, 58, 48, 48, 90])[9]'(by decide)).toNat = 48 := by decide
theorem fm10 : ((ByteArray.mk #[48, 48, 48, 48, 45, 48, 48, 45, 48, 48, 84, 48, 48, 58, 48, 48, 58, 48, 48, 90])[10]'(by decide)).toNat = 84 := by decide
theorem fm11 : ((ByteArray.mk #[48, 48, 48, 48, 45, 48, 48, 45, 48, 48, 84, 48, 48, 58, 48, 48, 58, 48, 48, 90])[11]'(by decide)).toNat = 48 := by decide
theorem fm12 : ((ByteArray.mk #[48, 48, 48, 48, 45, 48, 48, 45, 48, 48, 84, 48, 48, 58, 48, 48, 58, 48, 48, 90])[12]'(by decide)).toNat = 48 := by decide
theorem fm13 : ((ByteArray.mk #[48, 48, 48, 48, 45, 48, 48, 45, 48, 48, 84, 48, 48, 58, 48, 48, 58, 48, 48, 90])[13]'(by decide)).toNat = 58 := by decide
theorem fm14 : ((ByteArray.mk #[48, 48, 48, 48, 45, 48, 48, 45, 48, 48, 84, 48, 48, 58, 48, 48, 58, 48, 48, 90])[14]'(by decide)).toNat = 48 := by decide
theorem fm15 : ((ByteArray.mk #[48, 48, 48, 48, 45, 48, 48, 45, 48, 48, 84, 48, 48, 58, 48, 48, 58, 48, 48, 90])[15]'(by decide)).toNat = 48 := by decide
theorem fm16 : ((ByteArray.mk #[48, 48, 48, 48, 45, 48, 48, 45, 48, 48, 84, 48, 48, 58, 48, 48, 58, 48, 48, 90])[16]'(by decide)).toNat = 58 := by decide
theorem fm17 : ((ByteArray.mk #[48, 48, 48, 48, 45, 48, 48, 45, 48, 48, 84, 48, 48, 58, 48, 48, 58, 48, 48, 90])[17]'(by decide)).toNat = 48 := by decide
theorem fm18 : ((ByteArray.mk #[48, 48, 48, 48, 45, 48, 48, 45, 48, 48, 84, 48, 48, 58, 48, 48, 58, 48, 48, 90])[18]'(by decide)).toNat = 48 := by decide
theorem fm19 : ((ByteArray.mk #[48, 48, 48, 48, 45, 48, 48, 45, 48, 48, 84, 48, 48, 58, 48, 48, 58, 48, 48, 90])[19]'(by decide)).toNat = 90 := by decide

set_option maxRecDepth 100000 in
set_option maxHeartbeats 6400000 in
theorem parse_yes (s : ByteArray) (w : World) (hs : s.size = 20) (hok : okB s = true) (hv : valB (dgs (s.extract 0 4)) (dgs (s.extract 5 7)) (dgs (s.extract 8 10)) (dgs (s.extract 11 13)) (dgs (s.extract 14 16)) (dgs (s.extract 17 19)) = true) :
    Calls Tryz.prog 84 #[.string s] w fun e w' => e = .returned (.tuple #[.int .i64 (timV (dgs (s.extract 0 4)) (dgs (s.extract 5 7)) (dgs (s.extract 8 10)) (dgs (s.extract 11 13)) (dgs (s.extract 14 16)) (dgs (s.extract 17 19))), .int .i64 0]) ∧ Below w.heap.size w w' := by
  obtain ⟨k4, k7, k10, k13, k16, k19⟩ := okB_true hok
  have e4 := ch_at (s := s) (k := 4) (by omega)
  have e7 := ch_at (s := s) (k := 7) (by omega)
  have e10 := ch_at (s := s) (k := 10) (by omega)
  have e13 := ch_at (s := s) (k := 13) (by omega)
  have e16 := ch_at (s := s) (k := 16) (by omega)
  have e19 := ch_at (s := s) (k := 19) (by omega)
  have HV := Lib.hid hv
  clear hok hv
  go_enter Tryz.func84, Tryz.ntmps84
  go_wp2
  go_loopw [8] (fun i wr => ∃ k m : Nat, k ≤ 20 ∧ i = .int .i64 k ∧ wr = w.drewN m) (fun i _ => 20 - (intOf i).toNat)
  case atStart => exact ⟨0, 0, by omega, rfl, rfl⟩
  case round =>
    obtain ⟨k, m, hk, rfl, rfl⟩ := hrel
    rcases (by omega : k < 20 ∨ k = 20) with hlt | heq
    · rcases lt20 hlt with rfl | rfl | rfl | rfl | rfl | rfl | rfl | rfl | rfl | rfl | rfl | rfl | rfl | rfl | rfl | rfl | rfl | rfl | rfl | rfl
      · have f := fm0
        go_wp2
        go_quiet (fail)
        go_wp2
        go_roundw
        case rel => exact ⟨1, _, by omega, rfl, rfl⟩
        case measure => simp [intOf]
      · have f := fm1
        go_wp2
        go_quiet (fail)
        go_wp2
        go_roundw
        case rel => exact ⟨2, _, by omega, rfl, rfl⟩
        case measure => simp [intOf]
      · have f := fm2
        go_wp2
        go_quiet (fail)
        go_wp2
        go_roundw
        case rel => exact ⟨3, _, by omega, rfl, rfl⟩
        case measure => simp [intOf]
      · have f := fm3
        go_wp2
        go_quiet (fail)
        go_wp2
        go_roundw
        case rel => exact ⟨4, _, by omega, rfl, rfl⟩
        case measure => simp [intOf]
      · have f := fm4
        go_wp2
        go_quiet (fail)
        go_wp2
        go_roundw
        case rel => exact ⟨5, _, by omega, rfl, rfl⟩
        case measure => simp [intOf]
      · have f := fm5
        go_wp2
        go_quiet (fail)
        go_wp2
        go_roundw
        case rel => exact ⟨6, _, by omega, rfl, rfl⟩
        case measure => simp [intOf]
      · have f := fm6
        go_wp2
        go_quiet (fail)
        go_wp2
        go_roundw
        case rel => exact ⟨7, _, by omega, rfl, rfl⟩
        case measure => simp [intOf]
      · have f := fm7
        go_wp2
        go_quiet (fail)
        go_wp2
        go_roundw
        case rel => exact ⟨8, _, by omega, rfl, rfl⟩
        case measure => simp [intOf]
      · have f := fm8
        go_wp2
        go_quiet (fail)
        go_wp2
        go_roundw
        case rel => exact ⟨9, _, by omega, rfl, rfl⟩
        case measure => simp [intOf]
      · have f := fm9
        go_wp2
        go_quiet (fail)
        go_wp2
        go_roundw
        case rel => exact ⟨10, _, by omega, rfl, rfl⟩
        case measure => simp [intOf]
      · have f := fm10
        go_wp2
        go_quiet (fail)
        go_wp2
        go_roundw
        case rel => exact ⟨11, _, by omega, rfl, rfl⟩
        case measure => simp [intOf]
      · have f := fm11
        go_wp2
        go_quiet (fail)
        go_wp2
        go_roundw
        case rel => exact ⟨12, _, by omega, rfl, rfl⟩
        case measure => simp [intOf]
      · have f := fm12
        go_wp2
        go_quiet (fail)
        go_wp2
        go_roundw
        case rel => exact ⟨13, _, by omega, rfl, rfl⟩
        case measure => simp [intOf]
      · have f := fm13
        go_wp2
        go_quiet (fail)
        go_wp2
        go_roundw
        case rel => exact ⟨14, _, by omega, rfl, rfl⟩
        case measure => simp [intOf]
      · have f := fm14
        go_wp2
        go_quiet (fail)
        go_wp2
        go_roundw
        case rel => exact ⟨15, _, by omega, rfl, rfl⟩
        case measure => simp [intOf]
      · have f := fm15
        go_wp2
        go_quiet (fail)
        go_wp2
        go_roundw
        case rel => exact ⟨16, _, by omega, rfl, rfl⟩
        case measure => simp [intOf]
      · have f := fm16
        go_wp2
        go_quiet (fail)
        go_wp2
        go_roundw
        case rel => exact ⟨17, _, by omega, rfl, rfl⟩
        case measure => simp [intOf]
      · have f := fm17
        go_wp2
        go_quiet (fail)
        go_wp2
        go_roundw
        case rel => exact ⟨18, _, by omega, rfl, rfl⟩
        case measure => simp [intOf]
      · have f := fm18
        go_wp2
        go_quiet (fail)
        go_wp2
        go_roundw
        case rel => exact ⟨19, _, by omega, rfl, rfl⟩
        case measure => simp [intOf]
      · have f := fm19
        go_wp2
        go_quiet (fail)
        go_wp2
        go_roundw
        case rel => exact ⟨20, _, by omega, rfl, rfl⟩
        case measure => simp [intOf]
    · subst heq
      clear k4 k7 k10 k13 k16 k19 e4 e7 e10 e13 e16 e19
      go_wp2
      have hB : Below w.heap.size w (w.drewN (m + 1)) := dnB (Below.refl _ _) _
      go_region_held3 (fun w' => True) (trivial)
        (first | (go_at_call 121; (refine (digits_any _ _ (by simp only [ByteArray.size_extract]; omega)).mono ?_); rintro e w1 ⟨rfl, hb1⟩; have hB := hB.trans (hb1.mono hB.size); clear hb1)
               | (go_at_call 120; (refine (time_yes _ _ _ _ _ _ _ HV.out).mono ?_); rintro e w1 ⟨rfl, hb1⟩; have hB := hB.trans (hb1.mono hB.size); clear hb1))
      go_wp2
      go_ret2
      exact ⟨rfl, hB⟩

end Go.Proofs.YtefkpphahimkgaaGreatDoor

namespace Go.Proofs.YtefkpphahimkgaaGreatDoor
open Go.RowKit
set_option linter.unusedVariables false

end Go.Proofs.YtefkpphahimkgaaGreatDoor

namespace Go.Proofs.YtefkpphahimkgaaGreatDoor
open Go.RowKit
set_option linter.unusedVariables false

end Go.Proofs.YtefkpphahimkgaaGreatDoor

namespace Go.Proofs.YtefkpphahimkgaaGreatDoor
open Go.RowKit
set_option linter.unusedVariables false

theorem txt_size (y m d h i s : Int) : (strL (txtL y m d h i s)).size = 20 := rfl
theorem ch_strL (l : List UInt8) (k : Nat) : ch (strL l) k = l.getD k 0 := by
  unfold ch
  split
  · rename_i h
    have h' : k < l.length := by simpa [strL, ByteArray.size] using h
    rw [List.getD_eq_getElem?_getD, List.getElem?_eq_getElem h']
    rfl
  · rename_i h
    have h' : l.length ≤ k := by simpa [strL, ByteArray.size] using h
    rw [List.getD_eq_getElem?_getD, List.getElem?_eq_none h']
    rfl
theorem txt_ok (y m d h i s : Int) : okB (strL (txtL y m d h i s)) = true := by
  unfold okB
  simp only [ch_strL]
  exact decide_eq_true ⟨rfl, rfl, rfl, rfl, rfl, rfl⟩
theorem ext_strL (l : List UInt8) (a b : Nat) : ((strL l).extract a b).data.toList = (l.drop a).take (b - a) := by
  simp [strL]
theorem dgU (q : Nat) (h : q ≤ 9) : ((UInt8.ofNat (48 + q)).toNat : Int) = 48 + q := by
  rw [UInt8.toNat_ofNat']
  omega
theorem digN_app (q : Nat) (h : q ≤ 9) (l : List UInt8) (x : Int) : digN (UInt8.ofNat (48 + q) :: l) x = digN l (10 * x + q) := by
  rw [digN_cons_yes (by rw [dgU q h]; omega) (by rw [dgU q h]; omega), dgU q h]
  congr 1
  omega
theorem digN_dig2 (n : Nat) (h : n < 100) (l : List UInt8) (x : Int) : digN (dig2 n ++ l) x = digN l (100 * x + n) := by
  unfold dig2
  rw [List.cons_append, List.cons_append, List.nil_append, digN_app _ (by omega), digN_app _ (by omega)]
  congr 1
  omega
theorem digN_dig2t (n : Nat) (h : n < 100) (x : Int) : digN (dig2 n) x = 100 * x + n := by
  have := digN_dig2 n h [] x
  rw [List.append_nil] at this
  rw [this, digN]
theorem digN_dig2' (n : Nat) (h : n < 100) : digN (dig2 n) 0 = n := by rw [digN_dig2t n h]; omega
theorem digN_dig4 (n : Nat) (h : n < 10000) : digN (dig4 n) 0 = n := by
  unfold dig4
  rw [digN_dig2 _ (by omega), digN_dig2t _ (by omega)]
  omega
theorem txt_dgs {y m d h i s : Int} (y0 : 0 ≤ y) (y1 : y ≤ 9999) (m0 : 0 ≤ m) (m1 : m ≤ 99) (d0 : 0 ≤ d) (d1 : d ≤ 99) (h0 : 0 ≤ h) (h1 : h ≤ 99) (i0 : 0 ≤ i) (i1 : i ≤ 99) (s0 : 0 ≤ s) (s1 : s ≤ 99) :
    dgs ((strL (txtL y m d h i s)).extract 0 4) = y ∧ dgs ((strL (txtL y m d h i s)).extract 5 7) = m ∧ dgs ((strL (txtL y m d h i s)).extract 8 10) = d ∧ dgs ((strL (txtL y m d h i s)).extract 11 13) = h ∧ dgs ((strL (txtL y m d h i s)).extract 14 16) = i ∧ dgs ((strL (txtL y m d h i s)).extract 17 19) = s := by
  unfold dgs
  simp only [ext_strL]
  refine ⟨?_, ?_, ?_, ?_, ?_, ?_⟩
  · show digN (dig4 y.toNat) 0 = y
    rw [digN_dig4 _ (by omega)]; omega
  · show digN (dig2 m.toNat) 0 = m
    rw [digN_dig2' _ (by omega)]; omega
  · show digN (dig2 d.toNat) 0 = d
    rw [digN_dig2' _ (by omega)]; omega
  · show digN (dig2 h.toNat) 0 = h
    rw [digN_dig2' _ (by omega)]; omega
  · show digN (dig2 i.toNat) 0 = i
    rw [digN_dig2' _ (by omega)]; omega
  · show digN (dig2 s.toNat) 0 = s
    rw [digN_dig2' _ (by omega)]; omega
theorem wi_mk {n a b : Int} (h1 : a ≤ n) (h2 : n ≤ b) : wiB n a b = true := decide_eq_true ⟨h1, h2⟩
theorem val_of {n y m d h i s : Int} (hc : Cal.Civ n y m d) (h0 : 0 ≤ h) (h1 : h ≤ 23) (i0 : 0 ≤ i) (i1 : i ≤ 59) (s0 : 0 ≤ s) (s1 : s ≤ 59) : valB y m d h i s = true := by
  have a := hc.y0; have b := hc.y1; have c := hc.m0; have e := hc.m1
  have hz := Cal.dimZ_in (show 1 ≤ y by omega) b c e
  unfold valB
  rw [wi_mk a b, wi_mk hc.d0 (by rw [hz]; exact hc.d1), wi_mk h0 h1, wi_mk i0 i1, wi_mk s0 s1]
  rfl
theorem tim_of {t y m d : Int} (hc : Cal.Civ (t / 86400 + 719162) y m d) : timV y m d (hhT t) (mmT t) (ssT t) = t := by
  have h := hc.num
  unfold timV hhT mmT ssT
  omega
theorem val_t {t y m d : Int} (hc : Cal.Civ (t / 86400 + 719162) y m d) : valB y m d (hhT t) (mmT t) (ssT t) = true := by
  obtain ⟨a, b, c, d', e, f⟩ := hms_bd t
  exact val_of hc a b c d' e f
theorem parse_back (t y m d : Int) (w : World) (s : ByteArray) (hs : s = strL (txtL y m d (hhT t) (mmT t) (ssT t))) (h : Cal.Civ (t / 86400 + 719162) y m d) :
    Calls Tryz.prog 84 #[.string s] w fun e w' => e = .returned (.tuple #[.int .i64 t, .int .i64 0]) ∧ Below w.heap.size w w' := by
  subst hs
  obtain ⟨a, b, c, d', e, f⟩ := hms_bd t
  obtain ⟨y0, y1, m0, m1, d0, d1⟩ := civ_dim h
  obtain ⟨g1, g2, g3, g4, g5, g6⟩ := txt_dgs (y := y) (m := m) (d := d) (h := hhT t) (i := mmT t) (s := ssT t) (by omega) (by omega) (by omega) (by omega) (by omega) (by omega) (by omega) (by omega) (by omega) (by omega) (by omega) (by omega)
  have := parse_yes (strL (txtL y m d (hhT t) (mmT t) (ssT t))) w (txt_size ..) (txt_ok ..) (by rw [g1, g2, g3, g4, g5, g6]; exact val_t h)
  rw [g1, g2, g3, g4, g5, g6, tim_of h] at this
  exact this
/-- each moment has a date -/
theorem civ_t {t : Int} (h : mayB t = true) : ∃ y m d, Cal.Civ (t / 86400 + 719162) y m d := by
  obtain ⟨h0, h1⟩ := mayB_true h
  exact Cal.Civ.ex (by omega) (by omega)
end Go.Proofs.YtefkpphahimkgaaGreatDoor
