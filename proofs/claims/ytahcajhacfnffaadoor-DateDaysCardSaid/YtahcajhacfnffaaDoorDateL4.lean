/-
  The laws of dates, walked: DateDays.
-/
import Derived.Test.YtahcajhacfnffaaDoorDateL1
import Derived.OpenShut
namespace Go.Proofs.YtahcajhacfnffaaDoor
open Go.RowKit
set_option linter.unusedVariables false

theorem civil_all (t : Int) (w : World) : ∃ (y m d h i s e0 : Int), ∀ w, Calls Tryd.prog 11 #[.int .i64 t] w fun e w' => e = .returned (.tuple #[dateV y m d h i s, .int .i64 e0]) ∧ Below w.heap.size w w' := by
  cases h : mayB t
  · exact ⟨_, _, _, _, _, _, _, fun w => civil_no t w h⟩
  · obtain ⟨y, m, d, hc⟩ := civ_t h
    exact ⟨_, _, _, _, _, _, _, fun w => civil_yes t y m d w h hc⟩

set_option maxRecDepth 100000 in
set_option maxHeartbeats 1600000 in
theorem dateDays_no (t : Int) (W : World) (htab : tabP W) (h : mayB t = false) (h0 : -9223372036854775808 ≤ t) :
    Calls Tryd.prog 7 #[.int .i64 t] W fun e w' => e = .returned (.bool true) ∧ Below W.heap.size W w' := by
  obtain ⟨y, m, d, a, i, s, e0, hC⟩ := civil_all (min t 253402214399 + 86400) W
  have HT := Lib.hid htab
  have HC := Lib.hid hC
  clear htab hC
  go_enter Tryd.func7, Tryd.ntmps7
  go_wp2_with fail
  refine (civil_no t _ h).mono ?_
  rintro e w1 ⟨rfl, hb1⟩
  go_wp2_with fail
  refine (HC.out _).mono ?_
  rintro e w2 ⟨rfl, hb2⟩
  have HB2 := Lib.hid (below_al (.cells #[.int .i64 y, .int .i64 m, .int .i64 d, .int .i64 a, .int .i64 i, .int .i64 s] 23) (below2 (below_al _ hb1) hb2))
  clear hb1 hb2
  go_wp2_with fail
  refine (lives_any _ (HT.out.below HB2.out)).mono ?_
  rintro e w3 ⟨rfl, hb3⟩
  have HB3 := Lib.hid (below2 HB2.out hb3)
  clear hb3
  go_wp2_with fail
  refine (lives_any _ (HT.out.below HB3.out)).mono ?_
  rintro e w4 ⟨rfl, hb4⟩
  go_wp2
  go_ret
  exact ⟨rfl, below2 HB3.out hb4⟩
set_option maxRecDepth 100000 in
set_option maxHeartbeats 1600000 in
theorem dateDays_late (t y0 m0 d0 : Int) (W : World) (htab : tabP W) (h : mayB t = true) (hc : Cal.Civ (t / 86400 + 719162) y0 m0 d0) (h0 : 253402214399 < t) :
    Calls Tryd.prog 7 #[.int .i64 t] W fun e w' => e = .returned (.bool true) ∧ Below W.heap.size W w' := by
  obtain ⟨y, m, d, a, i, s, e0, hC⟩ := civil_all (min t 253402214399 + 86400) W
  obtain ⟨ht0, ht1⟩ := mayB_true h
  have HT := Lib.hid htab
  have HC := Lib.hid hC
  clear htab hC
  go_enter Tryd.func7, Tryd.ntmps7
  go_wp2_with fail
  refine (civil_yes t y0 m0 d0 _ h hc).mono ?_
  rintro e w1 ⟨rfl, hb1⟩
  go_wp2_with fail
  refine (HC.out _).mono ?_
  rintro e w2 ⟨rfl, hb2⟩
  have HB2 := Lib.hid (below_al (.cells #[.int .i64 y, .int .i64 m, .int .i64 d, .int .i64 a, .int .i64 i, .int .i64 s] 23) (below2 (below_al _ hb1) hb2))
  clear hb1 hb2
  go_wp2_with fail
  refine (lives_any _ (HT.out.below HB2.out)).mono ?_
  rintro e w3 ⟨rfl, hb3⟩
  have HB3 := Lib.hid (below2 HB2.out hb3)
  clear hb3
  go_wp2_with fail
  refine (lives_any _ (HT.out.below HB3.out)).mono ?_
  rintro e w4 ⟨rfl, hb4⟩
  go_wp2
  go_ret
  exact ⟨rfl, below2 HB3.out hb4⟩

theorem later_hms (t : Int) : hhT (t + 86400) = hhT t ∧ mmT (t + 86400) = mmT t ∧ ssT (t + 86400) = ssT t := by
  unfold hhT mmT ssT; omega
set_option maxRecDepth 100000 in
set_option maxHeartbeats 3200000 in
theorem dateDays_at (t y m d y' m' d' a i s wd : Int) (W : World) (htab : tabP W) (ht0 : 0 ≤ t) (ht1 : t ≤ 253402214399) (hy1 : 1970 ≤ y) (hy2 : y ≤ 9999) (hm1 : 1 ≤ m) (hm2 : m ≤ 12) (hd1 : 1 ≤ d) (hd2 : d ≤ 31) (w0 : 1 ≤ wd) (w7 : wd ≤ 7)
    (hA : ∀ w, Calls Tryd.prog 11 #[.int .i64 t] w fun e w' => e = .returned (.tuple #[dateV y m d a i s, .int .i64 0]) ∧ Below w.heap.size w w')
    (hB : ∀ w, Calls Tryd.prog 11 #[.int .i64 (min t 253402214399 + 86400)] w fun e w' => e = .returned (.tuple #[dateV y' m' d' a i s, .int .i64 0]) ∧ Below w.heap.size w w')
    (hW : ∀ w, Calls Tryd.prog 15 #[.int .i64 t] w fun e w' => e = .returned (.int .i64 wd) ∧ w = w')
    (hV : ∀ w, Calls Tryd.prog 15 #[.int .i64 (t + 86400)] w fun e w' => e = .returned (.int .i64 (wd % 7 + 1)) ∧ w = w')
    (hD : d < Cal.dim y m ∧ y' = y ∧ m' = m ∧ d' = d + 1 ∨ Cal.dim y m ≤ d ∧ m < 12 ∧ y' = y ∧ m' = m + 1 ∧ d' = 1 ∨ Cal.dim y m ≤ d ∧ 12 ≤ m ∧ y' = y + 1 ∧ m' = 1 ∧ d' = 1) :
    Calls Tryd.prog 7 #[.int .i64 t] W fun e w' => e = .returned (.bool true) ∧ Below W.heap.size W w' := by
  have HT := Lib.hid htab
  have HA := Lib.hid hA
  have HBB := Lib.hid hB
  have HW := Lib.hid hW
  have HV := Lib.hid hV
  clear htab hA hB hW hV
  rcases hD with ⟨q1, rfl, rfl, rfl⟩ | ⟨q1, q2, rfl, rfl, rfl⟩ | ⟨q1, q2, rfl, rfl, rfl⟩
  all_goals
    go_enter Tryd.func7, Tryd.ntmps7
    go_wp2_with fail
    refine (HA.out _).mono ?_
    rintro e w1 ⟨rfl, hb1⟩
    go_wp2_with fail
    refine (HBB.out _).mono ?_
    rintro e w2 ⟨rfl, hb2⟩
    have HB2 := Lib.hid (below2 (below_al _ hb1) hb2)
    have K1 := Lib.hid ((Blk.new w1 23 _).onw hb2)
    clear hb1 hb2
    go_wp2_with fail
    refine (lives_any _ (HT.out.below (below_al _ HB2.out))).mono ?_
    rintro e w3 ⟨rfl, hb3⟩
    have HB3 := Lib.hid (below2 (below_al _ HB2.out) hb3)
    obtain ⟨a0, a1, a2, a3, a4, a5⟩ := ((K1.out.alloc _).onw hb3).six
    obtain ⟨b0, b1, b2, b3, b4, b5⟩ := ((Blk.new w2 23 _).onw hb3).six
    clear hb3 HB2 K1
    go_wp2_with fail
    refine (HV.out _).mono ?_
    rintro e w' ⟨rfl, rfl⟩
    go_wp2_with fail
    refine (HW.out _).mono ?_
    rintro e w' ⟨rfl, rfl⟩
    go_wp2
    go_quiet ((go_at_call 20; exact quiet_l (days_in _ _ _ (by omega) (by omega) (by omega) (by omega))))
    go_wp2
    go_ret
    exact ⟨rfl, dnB HB3.out _⟩
theorem dateDays_walk (t : Int) (W : World) (htab : tabP W) (hwf : (Lit.int .i64 t).wf = true) :
    Calls Tryd.prog 7 #[.int .i64 t] W fun e w' => e = .returned (.bool true) ∧ Below W.heap.size W w' := by
  obtain ⟨h0, h1⟩ := Go.bounds_i64 hwf
  cases h : mayB t
  · exact dateDays_no t W htab h h0
  · obtain ⟨y, m, d, hc⟩ := civ_t h
    obtain ⟨ht0, ht1⟩ := mayB_true h
    rcases (by omega : t ≤ 253402214399 ∨ 253402214399 < t) with hl | hl
    · obtain ⟨c1, c2, c3, c4, c5, c6⟩ := civ_dim hc
      have hm2 : mayB (t + 86400) = true := decide_eq_true ⟨by omega, by omega⟩
      have emin : min t 253402214399 + 86400 = t + 86400 := by omega
      have en : (t + 86400) / 86400 + 719162 = t / 86400 + 719162 + 1 := by omega
      obtain ⟨g1, g2, g3⟩ := later_hms t
      obtain ⟨n1, n2, n3⟩ := hc.next (by omega)
      have hd1 := hc.d1
      have hB : ∀ y' m' d', Cal.Civ (t / 86400 + 719162 + 1) y' m' d' → ∀ w, Calls Tryd.prog 11 #[.int .i64 (min t 253402214399 + 86400)] w fun e w' => e = .returned (.tuple #[dateV y' m' d' (hhT t) (mmT t) (ssT t), .int .i64 0]) ∧ Below w.heap.size w w' := by
        intro y' m' d' hc' w
        have := civil_yes (t + 86400) y' m' d' w hm2 (by rw [en]; exact hc')
        rw [g1, g2, g3] at this
        rw [emin]
        exact this
      have hV : ∀ w, Calls Tryd.prog 15 #[.int .i64 (t + 86400)] w fun e w' => e = .returned (.int .i64 (((t / 86400 + 3) % 7 + 1) % 7 + 1)) ∧ w = w' := by
        intro w
        have := weekday_yes (t + 86400) w hm2
        rwa [show ((t + 86400) / 86400 + 3) % 7 + 1 = ((t / 86400 + 3) % 7 + 1) % 7 + 1 by omega] at this
      rcases (by omega : d < Cal.dim y m ∨ d = Cal.dim y m ∧ m < 12 ∨ d = Cal.dim y m ∧ m = 12) with hd | ⟨hd, hm⟩ | ⟨hd, hm⟩
      · exact dateDays_at t y m d _ _ _ _ _ _ _ W htab ht0 hl c1 c2 c3 c4 c5 c6 (by omega) (by omega) (fun w => civil_yes t y m d w h hc) (hB _ _ _ (n1 hd)) (fun w => weekday_yes t w h) hV (.inl ⟨hd, rfl, rfl, rfl⟩)
      · exact dateDays_at t y m d _ _ _ _ _ _ _ W htab ht0 hl c1 c2 c3 c4 c5 c6 (by omega) (by omega) (fun w => civil_yes t y m d w h hc) (hB _ _ _ (n2 hd hm)) (fun w => weekday_yes t w h) hV (.inr (.inl ⟨by omega, hm, rfl, rfl, rfl⟩))
      · exact dateDays_at t y m d _ _ _ _ _ _ _ W htab ht0 hl c1 c2 c3 c4 c5 c6 (by omega) (by omega) (fun w => civil_yes t y m d w h hc) (hB _ _ _ (n3 hd hm)) (fun w => weekday_yes t w h) hV (.inr (.inr ⟨by omega, by omega, rfl, rfl, rfl⟩))
    · exact dateDays_late t y m d W htab h hc hl
end Go.Proofs.YtahcajhacfnffaaDoor
