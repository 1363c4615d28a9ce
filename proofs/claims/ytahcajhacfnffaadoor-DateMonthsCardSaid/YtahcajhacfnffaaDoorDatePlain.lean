/-
  Plain arithmetic of the calendar: leap years, days of months, days ahead of a year, a day's date. No program in sight.
-/
import Derived.IntWalk
namespace Go.Proofs.YtahcajhacfnffaaDoor.Cal

def leapB (y : Int) : Bool := decide (y % 4 = 0 ∧ (y % 100 ≠ 0 ∨ y % 400 = 0))
def lp (y : Int) : Int := if y % 4 = 0 ∧ (y % 100 ≠ 0 ∨ y % 400 = 0) then 1 else 0
theorem lp_of (y : Int) : lp y = if leapB y = true then 1 else 0 := by unfold lp leapB; simp
theorem lp_bd (y : Int) : 0 ≤ lp y ∧ lp y ≤ 1 := by unfold lp; split <;> omega
theorem lp_true {y : Int} (h : leapB y = true) : lp y = 1 := by rw [lp_of, if_pos h]
theorem lp_false {y : Int} (h : leapB y = false) : lp y = 0 := by rw [lp_of, if_neg (by simp [h])]
/-- days ahead of a year, from the year 1 on -/
def dby (y : Int) : Int := 365 * (y - 1) + (y - 1) / 4 - (y - 1) / 100 + (y - 1) / 400
theorem dby_succ (y : Int) : dby (y + 1) = dby y + 365 + lp y := by
  unfold dby lp
  split <;> omega
theorem dby_mono {a b : Int} (h : a ≤ b) : dby a ≤ dby b := by unfold dby; omega
theorem dby_step {a b : Int} (h : a < b) : dby a + 365 + lp a ≤ dby b := by
  have h1 := dby_succ a
  have h2 := dby_mono (show a + 1 ≤ b by omega)
  omega
theorem dby_1970 : dby 1970 = 719162 := by decide
theorem dby_10000 : dby 10000 = 3652059 := by decide
def dim (y m : Int) : Int := if m = 2 then 28 + lp y else if m = 4 ∨ m = 6 ∨ m = 9 ∨ m = 11 then 30 else 31
def dimZ (y m : Int) : Int := if 1 ≤ y ∧ y ≤ 9999 ∧ 1 ≤ m ∧ m ≤ 12 then dim y m else 0
theorem dimZ_in {y m : Int} (h1 : 1 ≤ y) (h2 : y ≤ 9999) (h3 : 1 ≤ m) (h4 : m ≤ 12) : dimZ y m = dim y m := if_pos ⟨h1, h2, h3, h4⟩
theorem dimZ_out {y m : Int} (h : ¬ (1 ≤ y ∧ y ≤ 9999 ∧ 1 ≤ m ∧ m ≤ 12)) : dimZ y m = 0 := if_neg h
theorem dim_bd (y m : Int) : 28 ≤ dim y m ∧ dim y m ≤ 31 := by have := lp_bd y; unfold dim; split <;> (try split) <;> omega
theorem dimZ_bd (y m : Int) : 0 ≤ dimZ y m ∧ dimZ y m ≤ 31 := by have := dim_bd y m; unfold dimZ; split <;> omega
/-- days ahead of a month in its year -/
def cum (y m : Int) : Int := if m ≤ 2 then 31 * (m - 1) else (367 * m - 362) / 12 - 2 + lp y
theorem cum_one (y : Int) : cum y 1 = 0 := by simp [cum]
theorem cum_succ (y m : Int) (h1 : 1 ≤ m) (h2 : m ≤ 12) : cum y (m + 1) = cum y m + dim y m := by
  have hm : m = 1 ∨ m = 2 ∨ m = 3 ∨ m = 4 ∨ m = 5 ∨ m = 6 ∨ m = 7 ∨ m = 8 ∨ m = 9 ∨ m = 10 ∨ m = 11 ∨ m = 12 := by omega
  unfold cum dim
  rcases hm with rfl | rfl | rfl | rfl | rfl | rfl | rfl | rfl | rfl | rfl | rfl | rfl <;> simp <;> omega
theorem cum_13 (y : Int) : cum y 13 = 365 + lp y := by simp [cum]
theorem cum_mono (y : Int) {a b : Int} (h1 : 1 ≤ a) (h : a ≤ b) : cum y a ≤ cum y b := by
  have := lp_bd y
  unfold cum
  split <;> split <;> omega
theorem cum_step (y : Int) {a b : Int} (h1 : 1 ≤ a) (h : a < b) (h2 : b ≤ 13) : cum y a + dim y a ≤ cum y b := by
  rw [← cum_succ y a h1 (by omega)]
  exact cum_mono y (by omega) (by omega)
theorem cum_bd (y : Int) {m : Int} (h1 : 1 ≤ m) (h2 : m ≤ 12) : 0 ≤ cum y m ∧ cum y m ≤ 335 := by
  have h3 := cum_mono y (Int.le_refl 1) h1
  have h4 := cum_step y h1 (show m < 13 by omega) (Int.le_refl _)
  rw [cum_one] at h3
  rw [cum_13] at h4
  have := dim_bd y m
  have := lp_bd y
  exact ⟨h3, by unfold cum; split <;> omega⟩
theorem dby_bd {y : Int} (h1 : 1 ≤ y) (h2 : y ≤ 10001) : 0 ≤ dby y ∧ dby y ≤ 3652425 := by unfold dby; omega

/-- a day (from the year 1 on) has that date -/
structure Civ (n y m d : Int) : Prop where
  y0 : 1970 ≤ y
  y1 : y ≤ 9999
  m0 : 1 ≤ m
  m1 : m ≤ 12
  d0 : 1 ≤ d
  d1 : d ≤ dim y m
  num : n = dby y + cum y m + d - 1
theorem Civ.first : Civ 719162 1970 1 1 := ⟨by omega, by omega, by omega, by omega, by omega, by decide, by decide⟩
theorem Civ.year {n y m d : Int} (h : Civ n y m d) : dby y ≤ n ∧ n < dby (y + 1) := by
  have h1 := cum_step y h.m0 (show m < 13 by have := h.m1; omega) (Int.le_refl _)
  rw [cum_13] at h1
  have h2 := dby_succ y
  have h3 := cum_bd y h.m0 h.m1
  have h4 := h.num
  have h5 := h.d0
  have h6 := h.d1
  omega
theorem Civ.next {n y m d : Int} (h : Civ n y m d) (hn : n + 1 < 3652059) :
    (d < dim y m → Civ (n + 1) y m (d + 1)) ∧ (d = dim y m → m < 12 → Civ (n + 1) y (m + 1) 1) ∧ (d = dim y m → m = 12 → Civ (n + 1) (y + 1) 1 1) := by
  have h1 := h.num
  have h2 := h.y0; have h3 := h.y1; have h4 := h.m0; have h5 := h.m1; have h6 := h.d0
  refine ⟨fun hd => ⟨h2, h3, h4, h5, by omega, by omega, by omega⟩, fun hd hm => ⟨h2, h3, by omega, by omega, by omega, by have := dim_bd y (m + 1); omega, ?_⟩, fun hd hm => ?_⟩
  · have := cum_succ y m h4 h5; omega
  · subst hm
    have k1 := cum_succ y 12 (by omega) (by omega)
    have k2 : cum y (12 + 1) = 365 + lp y := cum_13 y
    have k3 := dby_succ y
    have k4 : y + 1 ≤ 9999 := by
      rcases (by omega : y + 1 ≤ 9999 ∨ y = 9999) with k | rfl
      · exact k
      · have k5 : dby (9999 + 1) = 3652059 := dby_10000
        omega
    have k6 := dim_bd (y + 1) 1
    exact ⟨by omega, k4, by omega, by omega, by omega, by omega, by rw [cum_one]; omega⟩
theorem Civ.ex_nat (k : Nat) (hk : 719162 + (k : Int) < 3652059) : ∃ y m d, Civ (719162 + (k : Int)) y m d := by
  induction k with
  | zero => exact ⟨_, _, _, Civ.first⟩
  | succ k ih =>
    obtain ⟨y, m, d, h⟩ := ih (by omega)
    have e : (719162 + ((k + 1 : Nat) : Int)) = 719162 + (k : Int) + 1 := by omega
    rw [e]
    obtain ⟨h1, h2, h3⟩ := h.next (by omega)
    have h4 := h.d1
    have h5 := h.m1
    rcases (by omega : d < dim y m ∨ d = dim y m) with hd | hd
    · exact ⟨_, _, _, h1 hd⟩
    · rcases (by omega : m < 12 ∨ m = 12) with hm | hm
      · exact ⟨_, _, _, h2 hd hm⟩
      · exact ⟨_, _, _, h3 hd hm⟩
theorem Civ.ex {n : Int} (h1 : 719162 ≤ n) (h2 : n < 3652059) : ∃ y m d, Civ n y m d := by
  obtain ⟨y, m, d, h⟩ := Civ.ex_nat (n - 719162).toNat (by omega)
  have e : 719162 + ((n - 719162).toNat : Int) = n := by omega
  rw [e] at h
  exact ⟨y, m, d, h⟩
theorem Civ.range {n y m d : Int} (h : Civ n y m d) : 719162 ≤ n ∧ n < 3652059 := by
  have h1 := h.year
  have h2 := dby_mono h.y0
  have h3 := dby_mono (show y + 1 ≤ 10000 by have := h.y1; omega)
  rw [dby_1970] at h2
  rw [dby_10000] at h3
  omega
theorem year_eq {n a b : Int} (h1 : dby a ≤ n) (h2 : n < dby (a + 1)) (h3 : dby b ≤ n) (h4 : n < dby (b + 1)) : a = b := by
  rcases (by omega : a < b ∨ a = b ∨ b < a) with h | h | h
  · have := dby_mono (show a + 1 ≤ b by omega); omega
  · exact h
  · have := dby_mono (show b + 1 ≤ a by omega); omega
/-- the order of dates is that of days -/
theorem Civ.lt_of {n y m d n' y' m' d' : Int} (h : Civ n y m d) (h' : Civ n' y' m' d') (hl : y < y' ∨ y = y' ∧ (m < m' ∨ m = m' ∧ d < d')) : n < n' := by
  rcases hl with hy | ⟨rfl, hm | ⟨rfl, hd⟩⟩
  · have h1 := h.year
    have h2 := h'.year
    have := dby_mono (show y + 1 ≤ y' by omega)
    omega
  · have h1 := cum_step y h.m0 hm (by have := h'.m1; omega)
    have := h.num; have := h'.num; have := h.d1; have := h'.d0
    omega
  · have := h.num; have := h'.num
    omega
theorem Civ.uniq {n y m d y' m' d' : Int} (h : Civ n y m d) (h' : Civ n y' m' d') : y = y' ∧ m = m' ∧ d = d' := by
  rcases (by omega : y < y' ∨ y = y' ∨ y' < y) with a | a | a
  · have := h.lt_of h' (.inl a); omega
  · rcases (by omega : m < m' ∨ m = m' ∨ m' < m) with b | b | b
    · have := h.lt_of h' (.inr ⟨a, .inl b⟩); omega
    · rcases (by omega : d < d' ∨ d = d' ∨ d' < d) with c | c | c
      · have := h.lt_of h' (.inr ⟨a, .inr ⟨b, c⟩⟩); omega
      · exact ⟨a, b, c⟩
      · have := h'.lt_of h (.inr ⟨a.symm, .inr ⟨b.symm, c⟩⟩); omega
    · have := h'.lt_of h (.inr ⟨a.symm, .inl b⟩); omega
  · have := h'.lt_of h (.inl a); omega
/-- the loop over the months -/
theorem Civ.month {n y m d k : Int} (h : Civ n y m d) (hk : 1 ≤ k) (hkm : k ≤ m) : (k < m → dim y k ≤ n - dby y - cum y k) ∧ (k = m → n - dby y - cum y k = d - 1) := by
  constructor
  · intro hlt
    have h1 := cum_step y hk hlt (by have := h.m1; omega)
    have := h.num; have := h.d0
    omega
  · rintro rfl
    have := h.num
    omega
/-- the first guess of a day's year -/
theorem guess (n : Int) : dby (400 * (n / 146097) + 1 + n % 146097 / 366) ≤ n := by
  unfold dby
  omega

end Go.Proofs.YtahcajhacfnffaaDoor.Cal
