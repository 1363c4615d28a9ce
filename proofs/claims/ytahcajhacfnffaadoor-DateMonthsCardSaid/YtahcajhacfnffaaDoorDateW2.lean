/-
  date and its reference: a moment's date, a moment's day of the week: what the functions compute.
-/
import Derived.Test.YtahcajhacfnffaaDoorDateW1
import Derived.Test.YtahcajhacfnffaaDoorWords2
namespace Go.Proofs.YtahcajhacfnffaaDoor
open Go.RowKit
set_option linter.unusedVariables false

def hhT (t : Int) : Int := t % 86400 / 3600
def mmT (t : Int) : Int := t % 86400 / 60 % 60
def ssT (t : Int) : Int := t % 86400 % 60
theorem mm_eq (t : Int) : t % 86400 % 3600 / 60 = mmT t := by unfold mmT; omega
theorem ss_eq (t : Int) : t % 86400 % 60 = ssT t := rfl
theorem hh_eq (t : Int) : t % 86400 / 3600 = hhT t := rfl
abbrev dateV (y m d h i s : Int) : Value := .agg #[.int .i64 y, .int .i64 m, .int .i64 d, .int .i64 h, .int .i64 i, .int .i64 s]
theorem days_in (y m : Int) (w : World) (h1 : 1 ≤ y) (h2 : y ≤ 9999) (h3 : 1 ≤ m) (h4 : m ≤ 12) : Calls Tryd.prog 20 #[.int .i64 y, .int .i64 m] w fun e w' => e = .returned (.int .i64 (Cal.dim y m)) ∧ w = w' := by
  have := days_any y m w
  rwa [Cal.dimZ_in h1 h2 h3 h4] at this
theorem rdays_in (y m : Int) (w : World) (h1 : 1 ≤ y) (h2 : y ≤ 9999) (h3 : 1 ≤ m) (h4 : m ≤ 12) : Calls Tryd.prog 21 #[.int .i64 y, .int .i64 m] w fun e w' => e = .returned (.int .i64 (Cal.dim y m)) ∧ w = w' := by
  have := rdays_any y m w
  rwa [Cal.dimZ_in h1 h2 h3 h4] at this
theorem ahead_1970 (w : World) : Calls Tryd.prog 31 #[.int .i64 1970] w fun e w' => e = .returned (.int .i64 719162) ∧ w = w' := by
  have := ahead_any 1970 w (by omega) (by omega)
  rwa [Cal.dby_1970] at this

set_option maxHeartbeats 400000 in
theorem civil_no (t : Int) (w : World) (h : mayB t = false) :
    Calls Tryd.prog 11 #[.int .i64 t] w fun e w' => e = .returned (.tuple #[dateV 0 0 0 0 0 0, .int .i64 100]) ∧ Below w.heap.size w w' := by
  go_enter Tryd.func11, Tryd.ntmps11
  go_wp2_with (go_at_call 29; refine (may_any _ _).mono ?_; rintro e w' ⟨rfl, rfl⟩)
  exact bodyPost_ret (v := .tuple #[dateV 0 0 0 0 0 0, .int .i64 100]) (by simp [results, Tryd.results11, go_sem]) rfl ⟨rfl, (Below.refl _ _).alloc (Nat.le_refl _) _⟩

theorem mayB_true {t : Int} (h : mayB t = true) : 0 ≤ t ∧ t ≤ 253402300799 := by unfold mayB at h; simpa using h
set_option maxHeartbeats 800000 in
theorem civil_yes (t y m d : Int) (w : World) (hm : mayB t = true) (h : Cal.Civ (t / 86400 + 719162) y m d) :
    Calls Tryd.prog 11 #[.int .i64 t] w fun e w' => e = .returned (.tuple #[dateV y m d (hhT t) (mmT t) (ssT t), .int .i64 0]) ∧ Below w.heap.size w w' := by
  obtain ⟨ht0, ht1⟩ := mayB_true hm
  have h1 := h.y0
  have h2 := h.y1
  have h3 := h.m0
  have h4 := h.m1
  have hb := Cal.dby_bd (y := y) (by omega) (by omega)
  have hM := Lib.hid (mm_eq t)
  go_enter Tryd.func11, Tryd.ntmps11
  go_wp2_with (first | (go_at_call 29; refine (may_any _ _).mono ?_; rintro e w' ⟨rfl, rfl⟩) | (go_at_call 31; refine (ahead_1970 _).mono ?_; rintro e w' ⟨rfl, rfl⟩) | (go_at_call 30; refine (yearOf_any _ y m d _ h).mono ?_; rintro e w' ⟨rfl, rfl⟩))
  go_loop [5, 6] (fun a b => ∃ k : Int, 1 ≤ k ∧ k ≤ m ∧ b = .int .i64 k ∧ a = .int .i64 (t / 86400 + 719162 - Cal.dby y - Cal.cum y k)) (fun _ b => (12 - intOf b).toNat)
  case atStart => exact ⟨1, by omega, h3, rfl, by rw [Cal.cum_one]; go_num⟩
  case round =>
    obtain ⟨k, hk1, hk2, rfl, rfl⟩ := hrel
    have hcb := Cal.cum_bd y hk1 (by omega)
    have hdb := Cal.dim_bd y k
    obtain ⟨hmo1, hmo2⟩ := h.month hk1 hk2
    have hcs := Lib.hid (Cal.cum_succ y k hk1 (by omega))
    rcases (by omega : k < m ∨ k = m) with hlt | heq
    · have hge := hmo1 hlt
      clear hmo1 hmo2
      go_wp2_with (go_at_call 20; refine (days_in _ _ _ (by omega) (by omega) (by omega) (by omega)).mono ?_; rintro e w' ⟨rfl, rfl⟩)
      go_round
      case rel => exact ⟨k + 1, by omega, by omega, rfl, by rw [hcs.out]; go_num⟩
      case measure => simp [intOf]; omega
    · have heq2 := Lib.hid (hmo2 heq)
      have hd1 := h.d1
      have hd0 := h.d0
      subst heq
      have hlt2 : t / 86400 + 719162 - Cal.dby y - Cal.cum y k < Cal.dim y k := by rw [heq2.out]; omega
      clear hmo1 hmo2
      go_wp2_with (go_at_call 20; refine (days_in _ _ _ (by omega) (by omega) (by omega) (by omega)).mono ?_; rintro e w' ⟨rfl, rfl⟩)
      exact bodyPost_ret (v := .tuple #[dateV y k (t / 86400 + 719162 - Cal.dby y - Cal.cum y k + 1) (t % 86400 / 3600) (t % 86400 % 3600 / 60) (t % 86400 % 60), .int .i64 0]) (by simp [results, Tryd.results11, go_sem]) rfl ⟨by rw [heq2.out, hM.out, ss_eq, hh_eq, Int.sub_add_cancel], (Below.refl _ _).alloc (Nat.le_refl _) _⟩
set_option maxHeartbeats 400000 in
theorem weekday_no (t : Int) (w : World) (h : mayB t = false) : Calls Tryd.prog 15 #[.int .i64 t] w fun e w' => e = .returned (.int .i64 0) ∧ w = w' := by
  go_enter Tryd.func15, Tryd.ntmps15
  go_wp2_with (go_at_call 29; refine (may_any _ _).mono ?_; rintro e w' ⟨rfl, rfl⟩)
  go_ret
  exact ⟨rfl, rfl⟩
set_option maxHeartbeats 400000 in
theorem weekday_yes (t : Int) (w : World) (h : mayB t = true) : Calls Tryd.prog 15 #[.int .i64 t] w fun e w' => e = .returned (.int .i64 ((t / 86400 + 3) % 7 + 1)) ∧ w = w' := by
  obtain ⟨ht0, ht1⟩ := mayB_true h
  go_enter Tryd.func15, Tryd.ntmps15
  go_wp2_with (go_at_call 29; refine (may_any _ _).mono ?_; rintro e w' ⟨rfl, rfl⟩)
  go_ret
  exact ⟨rfl, rfl⟩

end Go.Proofs.YtahcajhacfnffaaDoor
