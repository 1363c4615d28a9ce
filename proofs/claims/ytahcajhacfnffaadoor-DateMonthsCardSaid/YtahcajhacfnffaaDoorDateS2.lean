/-
  The reference's Shift; date.Months and the reference's Months.
-/
import Derived.Test.YtahcajhacfnffaaDoorDateS1
namespace Go.Proofs.YtahcajhacfnffaaDoor
open Go.RowKit
set_option linter.unusedVariables false

set_option maxHeartbeats 1600000 in
theorem rshift_at (t n k y m d v b : Int) (w : World) (h1 : wiB n (-120000) 120000 = true) (h2 : wiB k (-4000000) 4000000 = true) (h : mayB t = true) (hc : Cal.Civ (t / 86400 + 719162) y m d) (ho1 : 1970 ≤ shY y m n) (ho2 : shY y m n ≤ 9999)
    (hv : mayB (shT t y m d n + 86400 * k) = true ∧ v = shT t y m d n + 86400 * k ∧ b = 0 ∨ mayB (shT t y m d n + 86400 * k) = false ∧ v = 0 ∧ b = 100) :
    Calls Tryd.prog 26 #[.int .i64 t, .int .i64 n, .int .i64 k] w fun e w' => e = .returned (.tuple #[.int .i64 v, .int .i64 b]) ∧ Below w.heap.size w w' := by
  obtain ⟨c1, c2, c3, c4, c5, c6⟩ := civ_dim hc
  obtain ⟨k1, k2⟩ := wiB_true h1
  obtain ⟨k3, k4⟩ := wiB_true h2
  have a1 : decide (n < -120000) = false := by rw [decide_eq_false_iff_not]; omega
  have a2 : decide (120000 < n) = false := by rw [decide_eq_false_iff_not]; omega
  have a3 : decide (k < -4000000) = false := by rw [decide_eq_false_iff_not]; omega
  have a4 : decide (4000000 < k) = false := by rw [decide_eq_false_iff_not]; omega
  have a5 : decide (12 * y + m - 1 + n < 23640) = false := by unfold shY at ho1; rw [decide_eq_false_iff_not]; omega
  have a6 : decide (119999 < 12 * y + m - 1 + n) = false := by unfold shY at ho2; rw [decide_eq_false_iff_not]; omega
  have hn : 0 ≤ 12 * y + m - 1 + n := by unfold shY at ho1; omega
  have hT : ∀ D w, D = shD y m d n → Calls Tryd.prog 19 #[dateV ((12 * y + m - 1 + n) / 12) ((12 * y + m - 1 + n) % 12 + 1) D (hhT t) (mmT t) (ssT t)] w fun e w' => e = .returned (.tuple #[.int .i64 (shT t y m d n), .bool true]) ∧ Below w.heap.size w w' := by
    intro D w hD
    subst hD
    exact rtime_yes _ _ _ _ _ _ w (sh_val hc ho1 ho2)
  obtain ⟨b1, b2⟩ := sh_bd (t := t) hc ho1 ho2
  have HTM := Lib.hid hT
  clear hT ho1 ho2
  have cs : Cal.dimZ ((12 * y + m - 1 + n) / 12) ((12 * y + m - 1 + n) % 12 + 1) < d ∨ d ≤ Cal.dimZ ((12 * y + m - 1 + n) / 12) ((12 * y + m - 1 + n) % 12 + 1) := by omega
  have hv2 : (0 ≤ shT t y m d n + 86400 * k ∧ shT t y m d n + 86400 * k ≤ 253402300799 ∧ v = shT t y m d n + 86400 * k ∧ b = 0) ∨ (decide (shT t y m d n + 86400 * k < 0) = true ∧ v = 0 ∧ b = 100) ∨ (decide (shT t y m d n + 86400 * k < 0) = false ∧ decide (253402300799 < shT t y m d n + 86400 * k) = true ∧ v = 0 ∧ b = 100) := by
    rcases hv with ⟨hv, e1, e2⟩ | ⟨hv, e1, e2⟩
    · obtain ⟨g1, g2⟩ := mayB_true hv
      exact .inl ⟨g1, g2, e1, e2⟩
    · unfold mayB at hv
      simp only [decide_eq_true_iff, decide_eq_false_iff_not] at hv ⊢
      right; omega
  clear hv
  rcases cs with hd | hd
  · have HD : Hid (Cal.dimZ ((12 * y + m - 1 + n) / 12) ((12 * y + m - 1 + n) % 12 + 1) = shD y m d n) := by show _ = _; unfold shD shY shM; omega
    rcases hv2 with ⟨g1, g2, rfl, rfl⟩ | ⟨g1, rfl, rfl⟩ | ⟨g1, g2, rfl, rfl⟩
    all_goals
      go_enter Tryd.func26, Tryd.ntmps26
      go_wp2_with (go_at_call 13; refine (rcivil_yes _ _ _ _ _ h hc).mono ?_; rintro e w1 ⟨rfl, hb1⟩)
      go_quiet ((go_at_call 21; exact quiet_l (rdays_any _ _ _)))
      go_wp2_with (first | (go_at_call 21; refine (rdays_any _ _ _).mono ?_; rintro e w' ⟨rfl, rfl⟩) | (go_at_call 19; refine (HTM.out _ _ HD.out).mono ?_; rintro e w2 ⟨rfl, hb2⟩))
      go_ret2
      exact ⟨rfl, below2 ((dnB (below_al _ hb1) _).setCell (by have := hb1.size; simp; omega) _) hb2⟩

  · have HD : Hid (d = shD y m d n) := by show _ = _; unfold shD shY shM; omega
    rcases hv2 with ⟨g1, g2, rfl, rfl⟩ | ⟨g1, rfl, rfl⟩ | ⟨g1, g2, rfl, rfl⟩
    all_goals
      go_enter Tryd.func26, Tryd.ntmps26
      go_wp2_with (go_at_call 13; refine (rcivil_yes _ _ _ _ _ h hc).mono ?_; rintro e w1 ⟨rfl, hb1⟩)
      go_quiet ((go_at_call 21; exact quiet_l (rdays_any _ _ _)))
      go_wp2_with (first | (go_at_call 21; refine (rdays_any _ _ _).mono ?_; rintro e w' ⟨rfl, rfl⟩) | (go_at_call 19; refine (HTM.out _ _ HD.out).mono ?_; rintro e w2 ⟨rfl, hb2⟩))
      go_ret2
      exact ⟨rfl, below2 (dnB (below_al _ hb1) _) hb2⟩

/-- how many months there are -/
def kM (y m y' m' : Int) : Int := 12 * (y' - y) + m' - m
def monR (fr tu y m d y' m' : Int) : Int := if kM y m y' m' ≤ 0 then 0 else if shT fr y m d (kM y m y' m') ≤ tu then kM y m y' m' else kM y m y' m' - 1
theorem sh_rel (y m n : Int) : 12 * shY y m n + shM y m n = 12 * y + m + n ∧ 1 ≤ shM y m n ∧ shM y m n ≤ 12 := by unfold shY shM; omega
/-- an earlier month is an earlier moment -/
theorem mon_lt {n1 y1 m1 d1 t t' y' m' d' : Int} (h1 : Cal.Civ n1 y1 m1 d1) (h2 : Cal.Civ (t' / 86400 + 719162) y' m' d') (hl : 12 * y1 + m1 < 12 * y' + m') : timV y1 m1 d1 (hhT t) (mmT t) (ssT t) < t' := by
  have a := h1.m1; have b := h2.m0; have c := h1.m0; have e := h2.m1
  have hlt := h1.lt_of h2 (by omega)
  have hn := h1.num
  obtain ⟨j1, j2, j3, j4, j5, j6⟩ := hms_bd t
  unfold timV
  omega
theorem mon_gt {n1 y1 m1 d1 t t' y' m' d' : Int} (h1 : Cal.Civ n1 y1 m1 d1) (h2 : Cal.Civ (t' / 86400 + 719162) y' m' d') (hl : 12 * y' + m' < 12 * y1 + m1) : t' < timV y1 m1 d1 (hhT t) (mmT t) (ssT t) := by
  have a := h1.m1; have b := h2.m0; have c := h1.m0; have e := h2.m1
  have hlt := h2.lt_of h1 (by omega)
  have hn := h1.num
  obtain ⟨j1, j2, j3, j4, j5, j6⟩ := hms_bd t
  unfold timV
  omega
section
variable {fr tu y m d y' m' d' : Int} (h : Cal.Civ (fr / 86400 + 719162) y m d) (h' : Cal.Civ (tu / 86400 + 719162) y' m' d')
include h h'
theorem monR_up (j : Int) (h1 : monR fr tu y m d y' m' < j) (h2 : j ≤ kM y m y' m' + 1) (h0 : 0 < j) : 9999 < shY y m j ∨ 1970 ≤ shY y m j ∧ shY y m j ≤ 9999 ∧ tu < shT fr y m d j := by
  obtain ⟨r1, r2, r3⟩ := sh_rel y m j
  have a1 := h.y0; have a2 := h.m0
  rcases (by omega : 9999 < shY y m j ∨ shY y m j ≤ 9999) with hy | hy
  · exact .inl hy
  · have hy0 : 1970 ≤ shY y m j := by have := h.m1; omega
    refine .inr ⟨hy0, hy, ?_⟩
    unfold monR at h1
    rcases (by omega : j = kM y m y' m' + 1 ∨ j ≤ kM y m y' m') with e | e
    · exact mon_gt (sh_civ h hy0 hy) h' (by unfold kM at e; omega)
    · rw [if_neg (by omega)] at h1
      split at h1
      · omega
      · have : j = kM y m y' m' := by omega
        subst this
        omega
theorem monR_at (h1 : 0 < monR fr tu y m d y' m') : 1970 ≤ shY y m (monR fr tu y m d y' m') ∧ shY y m (monR fr tu y m d y' m') ≤ 9999 ∧ shT fr y m d (monR fr tu y m d y' m') ≤ tu := by
  obtain ⟨r1, r2, r3⟩ := sh_rel y m (monR fr tu y m d y' m')
  have a1 := h.y0; have a2 := h.m0; have a3 := h.m1
  have b1 := h'.y1; have b2 := h'.m1; have b3 := h'.m0
  have hle : monR fr tu y m d y' m' ≤ kM y m y' m' := by unfold monR at h1 ⊢; split <;> (try split) <;> simp_all <;> omega
  have hy0 : 1970 ≤ shY y m (monR fr tu y m d y' m') := by omega
  have hy1 : shY y m (monR fr tu y m d y' m') ≤ 9999 := by unfold kM at hle; omega
  refine ⟨hy0, hy1, ?_⟩
  rcases (by omega : monR fr tu y m d y' m' = kM y m y' m' ∨ monR fr tu y m d y' m' < kM y m y' m') with e | e
  · rw [e]
    unfold monR at e h1
    split at e
    · rename_i hk; rw [if_pos hk] at h1; omega
    · split at e
      · assumption
      · omega
  · have := mon_lt (t := fr) (sh_civ h hy0 hy1) h' (by unfold kM at e; omega)
    have e2 : timV (shY y m (monR fr tu y m d y' m')) (shM y m (monR fr tu y m d y' m')) (shD y m d (monR fr tu y m d y' m')) (hhT fr) (mmT fr) (ssT fr) = shT fr y m d (monR fr tu y m d y' m') := rfl
    omega
theorem monR_bd : 0 ≤ monR fr tu y m d y' m' ∧ monR fr tu y m d y' m' ≤ 96360 ∧ kM y m y' m' ≤ 96360 ∧ -96360 ≤ kM y m y' m' ∧ (kM y m y' m' ≤ 0 → monR fr tu y m d y' m' = 0) ∧ (0 < kM y m y' m' → kM y m y' m' - 1 ≤ monR fr tu y m d y' m' ∧ monR fr tu y m d y' m' ≤ kM y m y' m') := by
  have a1 := h.y0; have a2 := h.m0; have a3 := h.m1; have a4 := h.y1
  have b1 := h'.y0; have b2 := h'.m0; have b3 := h'.m1; have b4 := h'.y1
  have hk : kM y m y' m' ≤ 96360 ∧ -96360 ≤ kM y m y' m' := by unfold kM; omega
  unfold monR
  split
  · exact ⟨by omega, by omega, by omega, by omega, by omega, by omega⟩
  · split <;> exact ⟨by omega, by omega, by omega, by omega, by omega, by omega⟩
end
theorem shift_zero {n y m d t : Int} (hc : Cal.Civ (t / 86400 + 719162) y m d) : shY y m 0 = y ∧ shM y m 0 = m ∧ shD y m d 0 = d ∧ shT t y m d 0 = t := by
  obtain ⟨r1, r2, r3⟩ := sh_rel y m 0
  have a1 := hc.y0; have a2 := hc.m0; have a3 := hc.m1; have a4 := hc.y1; have a5 := hc.d1
  have e1 : shY y m 0 = y := by omega
  have e2 : shM y m 0 = m := by omega
  have e3 : shD y m d 0 = d := by unfold shD; rw [e1, e2, Cal.dimZ_in (by omega) a4 a2 a3]; omega
  exact ⟨e1, e2, e3, by unfold shT; rw [e1, e2, e3, tim_of hc]⟩
/-- a shift by months alone, that goes -/
theorem shift_go (t n y m d : Int) (w : World) (hn1 : -120000 ≤ n) (hn2 : n ≤ 120000) (h : mayB t = true) (hc : Cal.Civ (t / 86400 + 719162) y m d) (ho1 : 1970 ≤ shY y m n) (ho2 : shY y m n ≤ 9999) :
    Calls Tryd.prog 25 #[.int .i64 t, .int .i64 n, .int .i64 0] w fun e w' => e = .returned (.tuple #[.int .i64 (shT t y m d n), .int .i64 0]) ∧ Below w.heap.size w w' := by
  obtain ⟨b1, b2⟩ := sh_bd (t := t) hc ho1 ho2
  exact shift_at t n 0 y m d _ 0 w (wi_mk hn1 hn2) (by decide) h hc ho1 ho2 (.inl ⟨decide_eq_true ⟨by omega, by omega⟩, by omega, rfl⟩)
theorem rshift_go (t n y m d : Int) (w : World) (hn1 : -120000 ≤ n) (hn2 : n ≤ 120000) (h : mayB t = true) (hc : Cal.Civ (t / 86400 + 719162) y m d) (ho1 : 1970 ≤ shY y m n) (ho2 : shY y m n ≤ 9999) :
    Calls Tryd.prog 26 #[.int .i64 t, .int .i64 n, .int .i64 0] w fun e w' => e = .returned (.tuple #[.int .i64 (shT t y m d n), .int .i64 0]) ∧ Below w.heap.size w w' := by
  obtain ⟨b1, b2⟩ := sh_bd (t := t) hc ho1 ho2
  exact rshift_at t n 0 y m d _ 0 w (wi_mk hn1 hn2) (by decide) h hc ho1 ho2 (.inl ⟨decide_eq_true ⟨by omega, by omega⟩, by omega, rfl⟩)
end Go.Proofs.YtahcajhacfnffaaDoor
