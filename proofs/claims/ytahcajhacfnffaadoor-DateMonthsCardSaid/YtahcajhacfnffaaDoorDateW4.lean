/-
  date and its reference: a date's moment.
-/
import Derived.Test.YtahcajhacfnffaaDoorDateW2
import Derived.Deep.QuietTactic
import Derived.BigQuiet
namespace Go.Proofs.YtahcajhacfnffaaDoor
open Go.RowKit
set_option linter.unusedVariables false

theorem quiet_l {P : Program} {f : FuncId} {args : Array Value} {w : World} {n : Nat} {v : Value}
    (h : Calls P f args (w.drewN n) fun e w' => e = .returned v ∧ w.drewN n = w') : Calls P f args (w.drewN n) fun e w'' => e = .returned v ∧ ∃ m, w'' = w.drewN m :=
  h.mono fun _ _ ⟨he, hm⟩ => ⟨he, n, hm.symm⟩

theorem dnB {B : Nat} {w w' : World} (h : Below B w w') (n : Nat) : Below B w (w'.drewN n) :=
  ⟨h.os, h.tape, h.output, h.size, h.block⟩
theorem quiet_al {P : Program} {f : FuncId} {args : Array Value} {w : World} {a n : Nat} {v : Value}
    (h : Calls P f args (w.drewN (a + n)) fun e w' => e = .returned v ∧ w.drewN (a + n) = w') : Calls P f args (w.drewN (a + n)) fun e w'' => e = .returned v ∧ ∃ m, w'' = w.drewN (a + m) :=
  h.mono fun _ _ ⟨he, hm⟩ => ⟨he, n, hm.symm⟩
/-- is there a moment of a date? -/
def valB (y m d h i s : Int) : Bool := wiB y 1970 9999 && wiB d 1 (Cal.dimZ y m) && wiB h 0 23 && wiB i 0 59 && wiB s 0 59
def timV (y m d h i s : Int) : Int := 86400 * (Cal.dby y - 719162 + Cal.cum y m + d - 1) + 3600 * h + 60 * i + s

set_option maxHeartbeats 1600000 in
theorem time_no (y m d h i s : Int) (w : World) (hv : valB y m d h i s = false) :
    Calls Tryd.prog 16 #[dateV y m d h i s] w fun e w' => e = .returned (.tuple #[.int .i64 0, .int .i64 100]) ∧ Below w.heap.size w w' := by
  have hc : wiB y 1970 9999 = false ∨ wiB y 1970 9999 = true ∧ (wiB d 1 (Cal.dimZ y m) = false ∨ wiB d 1 (Cal.dimZ y m) = true ∧ (wiB h 0 23 = false ∨ wiB h 0 23 = true ∧ (wiB i 0 59 = false ∨ wiB i 0 59 = true ∧ wiB s 0 59 = false))) := by
    unfold valB at hv
    revert hv
    cases wiB y 1970 9999 <;> cases wiB d 1 (Cal.dimZ y m) <;> cases wiB h 0 23 <;> cases wiB i 0 59 <;> cases wiB s 0 59 <;> simp
  clear hv
  rcases hc with a1 | ⟨a1, a2 | ⟨a2, a3 | ⟨a3, a4 | ⟨a4, a5⟩⟩⟩⟩
  all_goals
    go_enter Tryd.func16, Tryd.ntmps16
    go_wp2
    go_quiet ((first | (go_at_call 33; exact quiet_l (within_any _ _ _ _)) | (go_at_call 20; exact quiet_l (days_any _ _ _))))
    go_wp2
    go_ret2
    exact ⟨rfl, dnB ((Below.refl _ _).alloc (Nat.le_refl _) _) _⟩

theorem valB_true {y m d h i s : Int} (hv : valB y m d h i s = true) : wiB y 1970 9999 = true ∧ wiB d 1 (Cal.dimZ y m) = true ∧ wiB h 0 23 = true ∧ wiB i 0 59 = true ∧ wiB s 0 59 = true := by
  unfold valB at hv
  revert hv
  cases wiB y 1970 9999 <;> cases wiB d 1 (Cal.dimZ y m) <;> cases wiB h 0 23 <;> cases wiB i 0 59 <;> cases wiB s 0 59 <;> simp
theorem wiB_true {n a b : Int} (h : wiB n a b = true) : a ≤ n ∧ n ≤ b := by unfold wiB at h; simpa using h
theorem valB_facts {y m d h i s : Int} (hv : valB y m d h i s = true) : 1970 ≤ y ∧ y ≤ 9999 ∧ 1 ≤ m ∧ m ≤ 12 ∧ 1 ≤ d ∧ d ≤ Cal.dim y m ∧ 0 ≤ h ∧ h ≤ 23 ∧ 0 ≤ i ∧ i ≤ 59 ∧ 0 ≤ s ∧ s ≤ 59 := by
  obtain ⟨a1, a2, a3, a4, a5⟩ := valB_true hv
  obtain ⟨b1, c1⟩ := wiB_true a1
  obtain ⟨b2, c2⟩ := wiB_true a2
  obtain ⟨b3, c3⟩ := wiB_true a3
  obtain ⟨b4, c4⟩ := wiB_true a4
  obtain ⟨b5, c5⟩ := wiB_true a5
  by_cases hin : 1 ≤ y ∧ y ≤ 9999 ∧ 1 ≤ m ∧ m ≤ 12
  · rw [Cal.dimZ_in hin.1 hin.2.1 hin.2.2.1 hin.2.2.2] at c2
    exact ⟨b1, c1, hin.2.2.1, hin.2.2.2, b2, c2, b3, c3, b4, c4, b5, c5⟩
  · rw [Cal.dimZ_out hin] at c2
    omega

set_option maxHeartbeats 1600000 in
theorem time_yes (y m d h i s : Int) (w : World) (hv : valB y m d h i s = true) :
    Calls Tryd.prog 16 #[dateV y m d h i s] w fun e w' => e = .returned (.tuple #[.int .i64 (timV y m d h i s), .int .i64 0]) ∧ Below w.heap.size w w' := by
  obtain ⟨a1, a2, a3, a4, a5⟩ := valB_true hv
  obtain ⟨h1, h2, h3, h4, h5, h6, h7, h8, h9, h10, h11, h12⟩ := valB_facts hv
  clear hv
  have hb := dby_bd' (y := y) (by omega) (by omega)
  have hdm := Cal.dim_bd y m
  have hd70 := Cal.dby_1970
  have hw1 : IntKind.i64.wrap (Cal.dby y - 719162) = Cal.dby y - 719162 := IntWalk.i64_in _ (by omega)
  have hw2 : IntKind.i64.wrap (Cal.dby y - 719162 + d) = Cal.dby y - 719162 + d := IntWalk.i64_in _ (by omega)
  have hw3 : IntKind.i64.wrap (Cal.dby y - 719162 + d - 1) = Cal.dby y - 719162 + d - 1 := IntWalk.i64_in _ (by omega)
  go_enter Tryd.func16, Tryd.ntmps16
  go_wp2
  go_quiet ((first | (go_at_call 33; exact quiet_l (within_any _ _ _ _)) | (go_at_call 20; exact quiet_l (days_any _ _ _))))
  go_wp2
  go_quiet ((go_at_call 31; exact quiet_al (ahead_any _ _ (by omega) (by omega))))
  clear hw1 hw2 hw3 hd70 a1 a2 a3 a4 a5
  go_wp2
  rw [World.drewN_drewN]
  go_loop [4, 5] (fun a b => ∃ k : Int, 1 ≤ k ∧ k ≤ m ∧ b = .int .i64 k ∧ a = .int .i64 (Cal.dby y - 719162 + d - 1 + Cal.cum y k)) (fun _ b => (12 - intOf b).toNat)
  case atStart => exact ⟨1, by omega, h3, rfl, by rw [Cal.cum_one]; go_num⟩
  case round =>
    obtain ⟨k, hk1, hk2, rfl, rfl⟩ := hrel
    have hcb := Cal.cum_bd y hk1 (by omega)
    have hdb := Cal.dim_bd y k
    have hcs := Lib.hid (Cal.cum_succ y k hk1 (by omega))
    rcases (by omega : k < m ∨ k = m) with hlt | heq
    · go_wp2_with (go_at_call 20; refine (days_in _ _ _ (by omega) (by omega) (by omega) (by omega)).mono ?_; rintro e w' ⟨rfl, rfl⟩)
      go_round
      case rel => exact ⟨k + 1, by omega, by omega, rfl, by rw [hcs.out]; go_num⟩
      case measure => simp [intOf]; omega
    · subst heq
      go_wp2
      go_ret2
      exact ⟨by unfold timV; rw [show Cal.dby y - 719162 + d - 1 + Cal.cum y k = Cal.dby y - 719162 + Cal.cum y k + d - 1 by omega]; rfl, dnB ((Below.refl _ _).alloc (Nat.le_refl _) _) _⟩

set_option maxHeartbeats 3200000 in
theorem rtime_no (y m d h i s : Int) (w : World) (hv : valB y m d h i s = false) :
    Calls Tryd.prog 19 #[dateV y m d h i s] w fun e w' => e = .returned (.tuple #[.int .i64 0, .bool false]) ∧ Below w.heap.size w w' := by
  have hc : ¬ (1970 ≤ y ∧ y ≤ 9999 ∧ 1 ≤ d ∧ d ≤ Cal.dimZ y m ∧ 0 ≤ h ∧ h ≤ 23 ∧ 0 ≤ i ∧ i ≤ 59 ∧ 0 ≤ s ∧ s ≤ 59) := by
    rintro ⟨c1, c2, c3, c4, c5, c6, c7, c8, c9, c10⟩
    have e1 : wiB y 1970 9999 = true := decide_eq_true ⟨c1, c2⟩
    have e2 : wiB d 1 (Cal.dimZ y m) = true := decide_eq_true ⟨c3, c4⟩
    have e3 : wiB h 0 23 = true := decide_eq_true ⟨c5, c6⟩
    have e4 : wiB i 0 59 = true := decide_eq_true ⟨c7, c8⟩
    have e5 : wiB s 0 59 = true := decide_eq_true ⟨c9, c10⟩
    unfold valB at hv
    rw [e1, e2, e3, e4, e5] at hv
    exact absurd hv (by decide)
  clear hv
  have hn : ∀ {a b : Int}, b ≤ a → decide (a < b) = false := fun h => by rw [decide_eq_false_iff_not]; omega
  have hy : ∀ {a b : Int}, a < b → decide (a < b) = true := fun h => by rw [decide_eq_true_iff]; omega
  have cs : decide (y < 1970) = true ∨ decide (y < 1970) = false ∧ (decide (9999 < y) = true ∨ decide (9999 < y) = false ∧ (decide (d < 1) = true ∨ decide (d < 1) = false ∧ (decide (Cal.dimZ y m < d) = true ∨ decide (Cal.dimZ y m < d) = false ∧ (decide (h < 0) = true ∨ decide (h < 0) = false ∧ (decide (23 < h) = true ∨ decide (23 < h) = false ∧ (decide (i < 0) = true ∨ decide (i < 0) = false ∧ (decide (59 < i) = true ∨ decide (59 < i) = false ∧ (decide (s < 0) = true ∨ decide (s < 0) = false ∧ decide (59 < s) = true)))))))) := by
    simp only [decide_eq_true_iff, decide_eq_false_iff_not]
    omega
  clear hn hy hc
  rcases cs with a1 | ⟨a1, a2 | ⟨a2, a3 | ⟨a3, a4 | ⟨a4, a5 | ⟨a5, a6 | ⟨a6, a7 | ⟨a7, a8 | ⟨a8, a9 | ⟨a9, a10⟩⟩⟩⟩⟩⟩⟩⟩⟩
  all_goals
    go_enter Tryd.func19, Tryd.ntmps19
    go_wp2
    go_quiet ((go_at_call 21; exact quiet_l (rdays_any _ _ _)))
    go_wp2
    go_ret2
    exact ⟨rfl, dnB ((Below.refl _ _).alloc (Nat.le_refl _) _) _⟩

set_option maxHeartbeats 1600000 in
theorem rtime_yes (y m d h i s : Int) (w : World) (hv : valB y m d h i s = true) :
    Calls Tryd.prog 19 #[dateV y m d h i s] w fun e w' => e = .returned (.tuple #[.int .i64 (timV y m d h i s), .bool true]) ∧ Below w.heap.size w w' := by
  obtain ⟨h1, h2, h3, h4, h5, h6, h7, h8, h9, h10, h11, h12⟩ := valB_facts hv
  clear hv
  have hb := dby_bd' (y := y) (by omega) (by omega)
  have hdm := Cal.dim_bd y m
  have a1 : decide (y < 1970) = false := by rw [decide_eq_false_iff_not]; omega
  have a2 : decide (9999 < y) = false := by rw [decide_eq_false_iff_not]; omega
  have a3 : decide (d < 1) = false := by rw [decide_eq_false_iff_not]; omega
  have a4 : decide (Cal.dim y m < d) = false := by rw [decide_eq_false_iff_not]; omega
  have a5 : decide (h < 0) = false := by rw [decide_eq_false_iff_not]; omega
  have a6 : decide (23 < h) = false := by rw [decide_eq_false_iff_not]; omega
  have a7 : decide (i < 0) = false := by rw [decide_eq_false_iff_not]; omega
  have a8 : decide (59 < i) = false := by rw [decide_eq_false_iff_not]; omega
  have a9 : decide (s < 0) = false := by rw [decide_eq_false_iff_not]; omega
  have a10 : decide (59 < s) = false := by rw [decide_eq_false_iff_not]; omega
  go_enter Tryd.func19, Tryd.ntmps19
  go_wp2
  go_quiet ((go_at_call 21; exact quiet_l (rdays_in _ _ _ (by omega) (by omega) (by omega) (by omega))))
  clear a1 a2 a3 a4 a5 a6 a7 a8 a9 a10
  go_wp2_with (go_at_call 36; refine (rahead_any _ _ (by omega) (by omega)).mono ?_; rintro e w' ⟨rfl, rfl⟩)
  go_loop [4, 5] (fun a b => ∃ k : Int, 1 ≤ k ∧ k ≤ m ∧ b = .int .i64 k ∧ a = .int .i64 (Cal.dby y - 719162 + Cal.cum y k)) (fun _ b => (12 - intOf b).toNat)
  case atStart => exact ⟨1, by omega, h3, rfl, by rw [Cal.cum_one]; go_num⟩
  case round =>
    obtain ⟨k, hk1, hk2, rfl, rfl⟩ := hrel
    have hcb := Cal.cum_bd y hk1 (by omega)
    have hdb := Cal.dim_bd y k
    have hcs := Lib.hid (Cal.cum_succ y k hk1 (by omega))
    rcases (by omega : k < m ∨ k = m) with hlt | heq
    · go_wp2_with (go_at_call 21; refine (rdays_in _ _ _ (by omega) (by omega) (by omega) (by omega)).mono ?_; rintro e w' ⟨rfl, rfl⟩)
      go_round
      case rel => exact ⟨k + 1, by omega, by omega, rfl, by rw [hcs.out]; go_num⟩
      case measure => simp [intOf]; omega
    · subst heq
      go_wp2
      go_ret2
      exact ⟨rfl, dnB ((Below.refl _ _).alloc (Nat.le_refl _) _) _⟩

end Go.Proofs.YtahcajhacfnffaaDoor
