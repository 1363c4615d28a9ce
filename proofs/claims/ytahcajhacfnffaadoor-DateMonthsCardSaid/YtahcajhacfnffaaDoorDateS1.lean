/-
  date.later, date.Shift and the reference's Shift.
-/
import Derived.Test.YtahcajhacfnffaaDoorDateL1
import Derived.StillTailTactics
namespace Go.Proofs.YtahcajhacfnffaaDoor
open Go.RowKit
set_option linter.unusedVariables false

set_option maxHeartbeats 800000 in
theorem later_neg (y m d h i s n : Int) (w : World) (hy1 : 1970 ≤ y) (hy2 : y ≤ 9999) (hm1 : 1 ≤ m) (hm2 : m ≤ 12) (hn1 : -120000 ≤ n) (hn2 : n ≤ 120000) (hneg : 12 * y + m - 1 + n < 0) :
    Calls Tryd.prog 38 #[dateV y m d h i s, .int .i64 n] w fun e w' => e = .returned (dateV 0 0 0 0 0 0) ∧ Below w.heap.size w w' := by
  go_enter Tryd.func38, Tryd.ntmps38
  go_wp2
  exact bodyPost_ret (v := dateV 0 0 0 0 0 0) (by simp [results, Tryd.results38, go_sem]) rfl ⟨rfl, below_al _ (below_new _ _)⟩
set_option maxHeartbeats 800000 in
theorem later_pos (y m d h i s n : Int) (w : World) (hy1 : 1970 ≤ y) (hy2 : y ≤ 9999) (hm1 : 1 ≤ m) (hm2 : m ≤ 12) (hn1 : -120000 ≤ n) (hn2 : n ≤ 120000) (hneg : 0 ≤ 12 * y + m - 1 + n) :
    Calls Tryd.prog 38 #[dateV y m d h i s, .int .i64 n] w fun e w' => e = .returned (dateV ((12 * y + m - 1 + n) / 12) ((12 * y + m - 1 + n) % 12 + 1) (min d (Cal.dimZ ((12 * y + m - 1 + n) / 12) ((12 * y + m - 1 + n) % 12 + 1))) h i s) ∧ Below w.heap.size w w' := by
  go_enter Tryd.func38, Tryd.ntmps38
  go_wp2
  refine wp_region_still_tail 9 (by kernel_rfl) (by kernel_rfl) ?_
  simp only [List.take_succ_cons, List.take_zero, List.drop_succ_cons, List.drop_zero]
  change wpStill _ _ (World.drew _) _ _ _
  repeat still_step
  still_call ((days_any _ _ _).mono fun _ _ ⟨a, b⟩ => ⟨a, b.symm⟩)
  repeat still_step
  refine wpStill_nil ?_
  change wpList _ _ _ _ _ (World.drew _)
  go_wp2
  exact bodyPost_ret (v := dateV ((12 * y + m - 1 + n) / 12) ((12 * y + m - 1 + n) % 12 + 1) (min d (Cal.dimZ ((12 * y + m - 1 + n) / 12) ((12 * y + m - 1 + n) % 12 + 1))) h i s) (by simp [results, Tryd.results38, go_sem]) rfl ⟨rfl, (below_al _ (below_new _ _)).drew⟩

def shY (y m n : Int) : Int := (12 * y + m - 1 + n) / 12
def shM (y m n : Int) : Int := (12 * y + m - 1 + n) % 12 + 1
def shD (y m d n : Int) : Int := min d (Cal.dimZ (shY y m n) (shM y m n))
/-- the moment so many months later -/
def shT (t y m d n : Int) : Int := timV (shY y m n) (shM y m n) (shD y m d n) (hhT t) (mmT t) (ssT t)
theorem sh_val {n0 y m d n t : Int} (hc : Cal.Civ n0 y m d) (h1 : 1970 ≤ shY y m n) (h2 : shY y m n ≤ 9999) : valB (shY y m n) (shM y m n) (shD y m d n) (hhT t) (mmT t) (ssT t) = true := by
  obtain ⟨a, b, c, d', e, f⟩ := hms_bd t
  have hM : 1 ≤ shM y m n ∧ shM y m n ≤ 12 := by unfold shM; omega
  have hz := Cal.dimZ_in (show 1 ≤ shY y m n by omega) h2 hM.1 hM.2
  have hb := Cal.dim_bd (shY y m n) (shM y m n)
  have h0 := hc.d0
  unfold valB
  rw [wi_mk h1 h2, wi_mk (n := shD y m d n) (by unfold shD; rw [hz]; omega) (by unfold shD; omega), wi_mk a b, wi_mk c d', wi_mk e f]
  rfl
theorem sh_civ {n0 y m d n : Int} (hc : Cal.Civ n0 y m d) (h1 : 1970 ≤ shY y m n) (h2 : shY y m n ≤ 9999) :
    Cal.Civ (Cal.dby (shY y m n) + Cal.cum (shY y m n) (shM y m n) + shD y m d n - 1) (shY y m n) (shM y m n) (shD y m d n) := by
  have hM : 1 ≤ shM y m n ∧ shM y m n ≤ 12 := by unfold shM; omega
  have hz := Cal.dimZ_in (show 1 ≤ shY y m n by omega) h2 hM.1 hM.2
  have hb := Cal.dim_bd (shY y m n) (shM y m n)
  have h0 := hc.d0
  exact ⟨h1, h2, hM.1, hM.2, by unfold shD; rw [hz]; omega, by unfold shD; rw [hz]; omega, rfl⟩
theorem tim_bd {n y m d h i s : Int} (hc : Cal.Civ n y m d) (h0 : 0 ≤ h) (h1 : h ≤ 23) (i0 : 0 ≤ i) (i1 : i ≤ 59) (s0 : 0 ≤ s) (s1 : s ≤ 59) : 0 ≤ timV y m d h i s ∧ timV y m d h i s ≤ 253402300799 ∧ timV y m d h i s / 86400 + 719162 = n ∧ hhT (timV y m d h i s) = h ∧ mmT (timV y m d h i s) = i ∧ ssT (timV y m d h i s) = s := by
  obtain ⟨r1, r2⟩ := hc.range
  have hn := hc.num
  have e : timV y m d h i s = 86400 * (n - 719162) + 3600 * h + 60 * i + s := by unfold timV; rw [hn]; omega
  rw [e]
  unfold hhT mmT ssT
  omega
theorem sh_bd {n0 y m d n t : Int} (hc : Cal.Civ n0 y m d) (h1 : 1970 ≤ shY y m n) (h2 : shY y m n ≤ 9999) : 0 ≤ shT t y m d n ∧ shT t y m d n ≤ 253402300799 := by
  obtain ⟨a, b, c, d', e, f⟩ := hms_bd t
  have := tim_bd (sh_civ hc h1 h2) a b c d' e f
  exact ⟨this.1, this.2.1⟩

set_option maxHeartbeats 800000 in
theorem shift_arg (t n k : Int) (w : World) (h : wiB n (-120000) 120000 = false ∨ wiB n (-120000) 120000 = true ∧ wiB k (-4000000) 4000000 = false) :
    Calls Tryd.prog 25 #[.int .i64 t, .int .i64 n, .int .i64 k] w fun e w' => e = .returned (.tuple #[.int .i64 0, .int .i64 1]) ∧ Below w.heap.size w w' := by
  rcases h with h | ⟨h, h2⟩
  all_goals
    go_enter Tryd.func25, Tryd.ntmps25
    go_wp2_with (go_at_call 33; refine (within_any _ _ _ _).mono ?_; rintro e w' ⟨rfl, rfl⟩)
    go_ret2
    exact ⟨rfl, Below.refl _ _⟩
set_option maxHeartbeats 800000 in
theorem shift_no (t n k : Int) (w : World) (h1 : wiB n (-120000) 120000 = true) (h2 : wiB k (-4000000) 4000000 = true) (h : mayB t = false) :
    Calls Tryd.prog 25 #[.int .i64 t, .int .i64 n, .int .i64 k] w fun e w' => e = .returned (.tuple #[.int .i64 0, .int .i64 100]) ∧ Below w.heap.size w w' := by
  go_enter Tryd.func25, Tryd.ntmps25
  go_wp2_with (first | (go_at_call 33; refine (within_any _ _ _ _).mono ?_; rintro e w' ⟨rfl, rfl⟩) | (go_at_call 11; refine (civil_no _ _ h).mono ?_; rintro e w1 ⟨rfl, hb1⟩))
  go_ret2
  exact ⟨rfl, below_al _ hb1⟩
theorem val_zero : valB 0 0 0 0 0 0 = false := by decide
set_option maxHeartbeats 800000 in
theorem shift_out (t n k y m d : Int) (w : World) (h1 : wiB n (-120000) 120000 = true) (h2 : wiB k (-4000000) 4000000 = true) (h : mayB t = true) (hc : Cal.Civ (t / 86400 + 719162) y m d) (ho : shY y m n < 1970 ∨ 9999 < shY y m n) :
    Calls Tryd.prog 25 #[.int .i64 t, .int .i64 n, .int .i64 k] w fun e w' => e = .returned (.tuple #[.int .i64 0, .int .i64 100]) ∧ Below w.heap.size w w' := by
  obtain ⟨c1, c2, c3, c4, c5, c6⟩ := civ_dim hc
  obtain ⟨k1, k2⟩ := wiB_true h1
  have hL : ∃ y' m' d' a i s, valB y' m' d' a i s = false ∧ ∀ w, Calls Tryd.prog 38 #[dateV y m d (hhT t) (mmT t) (ssT t), .int .i64 n] w fun e w' => e = .returned (dateV y' m' d' a i s) ∧ Below w.heap.size w w' := by
    rcases (by omega : 12 * y + m - 1 + n < 0 ∨ 0 ≤ 12 * y + m - 1 + n) with hn | hn
    · exact ⟨0, 0, 0, 0, 0, 0, val_zero, fun w => later_neg y m d _ _ _ n w c1 c2 c3 c4 k1 k2 hn⟩
    · refine ⟨_, _, _, _, _, _, ?_, fun w => later_pos y m d _ _ _ n w c1 c2 c3 c4 k1 k2 hn⟩
      have : wiB (shY y m n) 1970 9999 = false := decide_eq_false (by omega)
      unfold valB
      rw [show (12 * y + m - 1 + n) / 12 = shY y m n from rfl, this]
      rfl
  obtain ⟨y', m', d', a, i, s, hv, hL⟩ := hL
  have HL := Lib.hid hL
  clear hL ho
  go_enter Tryd.func25, Tryd.ntmps25
  go_wp2_with (first | (go_at_call 33; refine (within_any _ _ _ _).mono ?_; rintro e w' ⟨rfl, rfl⟩) | (go_at_call 11; refine (civil_yes _ _ _ _ _ h hc).mono ?_; rintro e w1 ⟨rfl, hb1⟩) | (go_at_call 38; refine (HL.out _).mono ?_; rintro e w2 ⟨rfl, hb2⟩) | (go_at_call 16; refine (time_no _ _ _ _ _ _ _ hv).mono ?_; rintro e w3 ⟨rfl, hb3⟩))
  go_ret2
  exact ⟨rfl, below3 (below_al _ hb1) hb2 hb3⟩
set_option maxHeartbeats 1600000 in
theorem shift_at (t n k y m d v b : Int) (w : World) (h1 : wiB n (-120000) 120000 = true) (h2 : wiB k (-4000000) 4000000 = true) (h : mayB t = true) (hc : Cal.Civ (t / 86400 + 719162) y m d) (ho1 : 1970 ≤ shY y m n) (ho2 : shY y m n ≤ 9999)
    (hv : mayB (shT t y m d n + 86400 * k) = true ∧ v = shT t y m d n + 86400 * k ∧ b = 0 ∨ mayB (shT t y m d n + 86400 * k) = false ∧ v = 0 ∧ b = 100) :
    Calls Tryd.prog 25 #[.int .i64 t, .int .i64 n, .int .i64 k] w fun e w' => e = .returned (.tuple #[.int .i64 v, .int .i64 b]) ∧ Below w.heap.size w w' := by
  obtain ⟨c1, c2, c3, c4, c5, c6⟩ := civ_dim hc
  obtain ⟨k1, k2⟩ := wiB_true h1
  obtain ⟨k3, k4⟩ := wiB_true h2
  have hn : 0 ≤ 12 * y + m - 1 + n := by unfold shY at ho1; omega
  have hL : ∀ w, Calls Tryd.prog 38 #[dateV y m d (hhT t) (mmT t) (ssT t), .int .i64 n] w fun e w' => e = .returned (dateV (shY y m n) (shM y m n) (shD y m d n) (hhT t) (mmT t) (ssT t)) ∧ Below w.heap.size w w' := fun w => later_pos y m d _ _ _ n w c1 c2 c3 c4 k1 k2 hn
  have hT : ∀ w, Calls Tryd.prog 16 #[dateV (shY y m n) (shM y m n) (shD y m d n) (hhT t) (mmT t) (ssT t)] w fun e w' => e = .returned (.tuple #[.int .i64 (shT t y m d n), .int .i64 0]) ∧ Below w.heap.size w w' := fun w => time_yes _ _ _ _ _ _ w (sh_val hc ho1 ho2)
  obtain ⟨b1, b2⟩ := sh_bd (t := t) hc ho1 ho2
  have HL := Lib.hid hL
  have HTM := Lib.hid hT
  clear hL hT
  rcases hv with ⟨hv, rfl, rfl⟩ | ⟨hv, rfl, rfl⟩
  all_goals
    go_enter Tryd.func25, Tryd.ntmps25
    go_wp2_with (first | (go_at_call 33; refine (within_any _ _ _ _).mono ?_; rintro e w' ⟨rfl, rfl⟩) | (go_at_call 11; refine (civil_yes _ _ _ _ _ h hc).mono ?_; rintro e w1 ⟨rfl, hb1⟩) | (go_at_call 38; refine (HL.out _).mono ?_; rintro e w2 ⟨rfl, hb2⟩) | (go_at_call 16; refine (HTM.out _).mono ?_; rintro e w3 ⟨rfl, hb3⟩) | (go_at_call 29; refine (may_any _ _).mono ?_; rintro e w' ⟨rfl, rfl⟩))
    go_ret2
    exact ⟨rfl, below3 (below_al _ hb1) hb2 hb3⟩

/- the reference -/
set_option maxHeartbeats 1600000 in
theorem rshift_arg (t n k : Int) (w : World) (h : wiB n (-120000) 120000 = false ∨ wiB n (-120000) 120000 = true ∧ wiB k (-4000000) 4000000 = false) :
    Calls Tryd.prog 26 #[.int .i64 t, .int .i64 n, .int .i64 k] w fun e w' => e = .returned (.tuple #[.int .i64 0, .int .i64 1]) ∧ Below w.heap.size w w' := by
  have cs : decide (n < -120000) = true ∨ decide (n < -120000) = false ∧ (decide (120000 < n) = true ∨ decide (120000 < n) = false ∧ (decide (k < -4000000) = true ∨ decide (k < -4000000) = false ∧ decide (4000000 < k) = true)) := by
    unfold wiB at h
    simp only [decide_eq_true_iff, decide_eq_false_iff_not] at h ⊢
    omega
  clear h
  rcases cs with a1 | ⟨a1, a2 | ⟨a2, a3 | ⟨a3, a4⟩⟩⟩
  all_goals
    go_enter Tryd.func26, Tryd.ntmps26
    go_wp2
    go_ret2
    exact ⟨rfl, Below.refl _ _⟩
set_option maxHeartbeats 800000 in
theorem rshift_no (t n k : Int) (w : World) (h1 : wiB n (-120000) 120000 = true) (h2 : wiB k (-4000000) 4000000 = true) (h : mayB t = false) :
    Calls Tryd.prog 26 #[.int .i64 t, .int .i64 n, .int .i64 k] w fun e w' => e = .returned (.tuple #[.int .i64 0, .int .i64 100]) ∧ Below w.heap.size w w' := by
  obtain ⟨k1, k2⟩ := wiB_true h1
  obtain ⟨k3, k4⟩ := wiB_true h2
  have a1 : decide (n < -120000) = false := by rw [decide_eq_false_iff_not]; omega
  have a2 : decide (120000 < n) = false := by rw [decide_eq_false_iff_not]; omega
  have a3 : decide (k < -4000000) = false := by rw [decide_eq_false_iff_not]; omega
  have a4 : decide (4000000 < k) = false := by rw [decide_eq_false_iff_not]; omega
  go_enter Tryd.func26, Tryd.ntmps26
  go_wp2_with (go_at_call 13; refine (rcivil_no _ _ h).mono ?_; rintro e w1 ⟨rfl, hb1⟩)
  go_ret2
  exact ⟨rfl, below_al _ hb1⟩
set_option maxHeartbeats 800000 in
theorem rshift_out (t n k y m d : Int) (w : World) (h1 : wiB n (-120000) 120000 = true) (h2 : wiB k (-4000000) 4000000 = true) (h : mayB t = true) (hc : Cal.Civ (t / 86400 + 719162) y m d) (ho : shY y m n < 1970 ∨ 9999 < shY y m n) :
    Calls Tryd.prog 26 #[.int .i64 t, .int .i64 n, .int .i64 k] w fun e w' => e = .returned (.tuple #[.int .i64 0, .int .i64 100]) ∧ Below w.heap.size w w' := by
  obtain ⟨c1, c2, c3, c4, c5, c6⟩ := civ_dim hc
  obtain ⟨k1, k2⟩ := wiB_true h1
  obtain ⟨k3, k4⟩ := wiB_true h2
  have a1 : decide (n < -120000) = false := by rw [decide_eq_false_iff_not]; omega
  have a2 : decide (120000 < n) = false := by rw [decide_eq_false_iff_not]; omega
  have a3 : decide (k < -4000000) = false := by rw [decide_eq_false_iff_not]; omega
  have a4 : decide (4000000 < k) = false := by rw [decide_eq_false_iff_not]; omega
  have cs : decide (12 * y + m - 1 + n < 23640) = true ∨ decide (12 * y + m - 1 + n < 23640) = false ∧ decide (119999 < 12 * y + m - 1 + n) = true := by
    unfold shY at ho
    simp only [decide_eq_true_iff, decide_eq_false_iff_not]
    omega
  clear ho
  rcases cs with a5 | ⟨a5, a6⟩
  all_goals
    go_enter Tryd.func26, Tryd.ntmps26
    go_wp2_with (go_at_call 13; refine (rcivil_yes _ _ _ _ _ h hc).mono ?_; rintro e w1 ⟨rfl, hb1⟩)
    go_ret2
    exact ⟨rfl, below_al _ hb1⟩
end Go.Proofs.YtahcajhacfnffaaDoor
