/-
  date.Months and the reference's Months.
-/
import Derived.Test.YtahcajhacfnffaaDoorDateS2
namespace Go.Proofs.YtahcajhacfnffaaDoor
open Go.RowKit
set_option linter.unusedVariables false

set_option maxHeartbeats 800000 in
theorem months_no (fr tu : Int) (w : World) (h : mayB fr = false ∨ mayB fr = true ∧ mayB tu = false) :
    Calls Tryd.prog 27 #[.int .i64 fr, .int .i64 tu] w fun e w' => e = .returned (.tuple #[.int .i64 0, .int .i64 100]) ∧ Below w.heap.size w w' := by
  have hcs : ∃ y m d a i s b y' m' d' a' i' s' b', (∀ w, Calls Tryd.prog 11 #[.int .i64 fr] w fun e w' => e = .returned (.tuple #[dateV y m d a i s, .int .i64 b]) ∧ Below w.heap.size w w') ∧ (∀ w, Calls Tryd.prog 11 #[.int .i64 tu] w fun e w' => e = .returned (.tuple #[dateV y' m' d' a' i' s', .int .i64 b']) ∧ Below w.heap.size w w') ∧ ((b != 0) = true ∨ (b != 0) = false ∧ (b' != 0) = true) := by
    rcases h with h | ⟨h, h'⟩
    · cases k : mayB tu
      · exact ⟨_, _, _, _, _, _, 100, _, _, _, _, _, _, 100, fun w => civil_no fr w h, fun w => civil_no tu w k, .inl rfl⟩
      · obtain ⟨y, m, d, hc⟩ := civ_t k
        exact ⟨_, _, _, _, _, _, 100, _, _, _, _, _, _, 0, fun w => civil_no fr w h, fun w => civil_yes tu y m d w k hc, .inl rfl⟩
    · obtain ⟨y, m, d, hc⟩ := civ_t h
      exact ⟨_, _, _, _, _, _, 0, _, _, _, _, _, _, 100, fun w => civil_yes fr y m d w h hc, fun w => civil_no tu w h', .inr ⟨rfl, rfl⟩⟩
  obtain ⟨y, m, d, a, i, s, b, y', m', d', a', i', s', b', hA, hB, hb⟩ := hcs
  have HA := Lib.hid hA
  have HB := Lib.hid hB
  clear hA hB h
  rcases hb with hb | ⟨hb, hb'⟩
  all_goals
    go_enter Tryd.func27, Tryd.ntmps27
    go_wp2_with fail
    refine (HA.out _).mono ?_
    rintro e w1 ⟨rfl, hb1⟩
    go_wp2_with fail
    refine (HB.out _).mono ?_
    rintro e w2 ⟨rfl, hb2⟩
    go_wp2
    go_ret2
    exact ⟨rfl, below_al _ (below2 (below_al _ hb1) hb2)⟩

set_option maxHeartbeats 1600000 in
theorem months_yes (fr tu y m d y' m' d' : Int) (w : World) (h : mayB fr = true) (k : mayB tu = true) (hc : Cal.Civ (fr / 86400 + 719162) y m d) (hc' : Cal.Civ (tu / 86400 + 719162) y' m' d') :
    Calls Tryd.prog 27 #[.int .i64 fr, .int .i64 tu] w fun e w' => e = .returned (.tuple #[.int .i64 (monR fr tu y m d y' m'), .int .i64 0]) ∧ Below w.heap.size w w' := by
  obtain ⟨q1, q2, q3, q4, q5, q6⟩ := monR_bd hc hc'
  obtain ⟨c1, c2, c3, c4, c5, c6⟩ := civ_dim hc
  obtain ⟨e1, e2, e3, e4, e5, e6⟩ := civ_dim hc'
  obtain ⟨K, hK⟩ : ∃ K, K = kM y m y' m' := ⟨_, rfl⟩
  obtain ⟨R, hR⟩ : ∃ R, R = monR fr tu y m d y' m' := ⟨_, rfl⟩
  obtain ⟨N, hN⟩ : ∃ N, N = max K 0 := ⟨_, rfl⟩
  have hNN : 1970 ≤ shY y m N ∧ shY y m N ≤ 9999 ∧ 0 ≤ N ∧ N ≤ 96360 := by
    obtain ⟨r1, r2, r3⟩ := sh_rel y m N
    unfold kM at hK
    omega
  have HS := Lib.hid (fun w => shift_go fr N y m d w (by omega) (by omega) h hc hNN.1 hNN.2.1)
  have hmax : max (12 * (y' - y) + m' - m) 0 = N := by unfold kM at hK; omega
  have hN0 : 0 ≤ N ∧ N ≤ 96360 := hNN.2.2
  have hcs : decide (0 < N) = false ∧ R = N ∨ (decide (0 < N) = true ∧ decide (tu < shT fr y m d N) = false ∧ R = N) ∨ (decide (0 < N) = true ∧ decide (tu < shT fr y m d N) = true ∧ R = N - 1) := by
    simp only [decide_eq_true_iff, decide_eq_false_iff_not]
    have e : R = if K ≤ 0 then 0 else if shT fr y m d K ≤ tu then K else K - 1 := by rw [hR, hK]; rfl
    rcases (by omega : K ≤ 0 ∨ 0 < K) with x | x
    · rw [if_pos x] at e; omega
    · have : N = K := by omega
      rw [if_neg (by omega)] at e
      subst this
      split at e <;> omega
  have HR := Lib.hid hR
  clear hR hNN hN q1 q2 q5 q6
  rcases hcs with ⟨g1, hRN⟩ | ⟨g1, g2, hRN⟩ | ⟨g1, g2, hRN⟩
  all_goals
    have HRN := Lib.hid hRN
    clear hRN
    go_enter Tryd.func27, Tryd.ntmps27
    go_wp2_with fail
    refine (civil_yes fr y m d _ h hc).mono ?_
    rintro e w1 ⟨rfl, hb1⟩
    have K1 := Lib.hid (Blk.new w1 23 #[.int .i64 y, .int .i64 m, .int .i64 d, .int .i64 (hhT fr), .int .i64 (mmT fr), .int .i64 (ssT fr)])
    go_wp2_with fail
    refine (civil_yes tu y' m' d' _ k hc').mono ?_
    rintro e w2 ⟨rfl, hb2⟩
    have HB2 := Lib.hid (below2 (below_al _ hb1) hb2)
    obtain ⟨a0, a1, a2, a3, a4, a5⟩ := ((K1.out.onw hb2).alloc (.cells #[.int .i64 y', .int .i64 m', .int .i64 d', .int .i64 (hhT tu), .int .i64 (mmT tu), .int .i64 (ssT tu)] 23)).six
    clear hb1 hb2 K1
    go_wp2_with fail
    refine (HS.out _).mono ?_
    rintro e w3 ⟨rfl, hb3⟩
    clear a0 a1 a2 a3 a4 a5
    have HB3 := Lib.hid (below2 (below_al _ HB2.out) hb3)
    clear hb3
    go_wp2
    go_ret2
    exact ⟨by rw [← HR.out, HRN.out]; rfl, HB3.out⟩

set_option maxHeartbeats 800000 in
theorem rmonths_no (fr tu : Int) (w : World) (h : mayB fr = false ∨ mayB fr = true ∧ mayB tu = false) :
    Calls Tryd.prog 28 #[.int .i64 fr, .int .i64 tu] w fun e w' => e = .returned (.tuple #[.int .i64 0, .int .i64 100]) ∧ Below w.heap.size w w' := by
  have hcs : ∃ y m d a i s b y' m' d' a' i' s' b', (∀ w, Calls Tryd.prog 13 #[.int .i64 fr] w fun e w' => e = .returned (.tuple #[dateV y m d a i s, .bool b]) ∧ Below w.heap.size w w') ∧ (∀ w, Calls Tryd.prog 13 #[.int .i64 tu] w fun e w' => e = .returned (.tuple #[dateV y' m' d' a' i' s', .bool b']) ∧ Below w.heap.size w w') ∧ (b = false ∨ b = true ∧ b' = false) := by
    rcases h with h | ⟨h, h'⟩
    · cases k : mayB tu
      · exact ⟨_, _, _, _, _, _, false, _, _, _, _, _, _, false, fun w => rcivil_no fr w h, fun w => rcivil_no tu w k, .inl rfl⟩
      · obtain ⟨y, m, d, hc⟩ := civ_t k
        exact ⟨_, _, _, _, _, _, false, _, _, _, _, _, _, true, fun w => rcivil_no fr w h, fun w => rcivil_yes tu y m d w k hc, .inl rfl⟩
    · obtain ⟨y, m, d, hc⟩ := civ_t h
      exact ⟨_, _, _, _, _, _, true, _, _, _, _, _, _, false, fun w => rcivil_yes fr y m d w h hc, fun w => rcivil_no tu w h', .inr ⟨rfl, rfl⟩⟩
  obtain ⟨y, m, d, a, i, s, b, y', m', d', a', i', s', b', hA, hB, hb⟩ := hcs
  have HA := Lib.hid hA
  have HB := Lib.hid hB
  clear hA hB h
  rcases hb with rfl | ⟨rfl, rfl⟩
  all_goals
    go_enter Tryd.func28, Tryd.ntmps28
    go_wp2_with fail
    refine (HA.out _).mono ?_
    rintro e w1 ⟨rfl, hb1⟩
    go_wp2_with fail
    refine (HB.out _).mono ?_
    rintro e w2 ⟨rfl, hb2⟩
    go_wp2
    go_ret2
    exact ⟨rfl, below_al _ (below2 (below_al _ hb1) hb2)⟩

set_option maxHeartbeats 3200000 in
theorem rmonths_yes (fr tu y m d y' m' d' : Int) (w : World) (h : mayB fr = true) (k : mayB tu = true) (hc : Cal.Civ (fr / 86400 + 719162) y m d) (hc' : Cal.Civ (tu / 86400 + 719162) y' m' d') :
    Calls Tryd.prog 28 #[.int .i64 fr, .int .i64 tu] w fun e w' => e = .returned (.tuple #[.int .i64 (monR fr tu y m d y' m'), .int .i64 0]) ∧ Below w.heap.size w w' := by
  obtain ⟨q1, q2, q3, q4, q5, q6⟩ := monR_bd hc hc'
  obtain ⟨c1, c2, c3, c4, c5, c6⟩ := civ_dim hc
  obtain ⟨e1, e2, e3, e4, e5, e6⟩ := civ_dim hc'
  have HUP := Lib.hid (monR_up hc hc')
  have HAT := Lib.hid (monR_at hc hc')
  obtain ⟨K, hK⟩ : ∃ K, K = kM y m y' m' := ⟨_, rfl⟩
  obtain ⟨R, hR⟩ : ∃ R, R = monR fr tu y m d y' m' := ⟨_, rfl⟩
  rw [← hR] at q1 q2 q5 q6 ⊢
  rw [← hK] at q3 q4 q5 q6
  have hk1 : 12 * (y' - y) + m' - m = K := by rw [hK]; rfl
  have HK1 : Hid (12 * (y' - y) + m' - m + 1 = K + 1) := by show _ = _; rw [hk1]
  have HR := Lib.hid hR
  have HK := Lib.hid hK
  have hRK : R ≤ K ∨ K ≤ 0 ∧ R = 0 := by omega
  clear hR hK hk1 q5 q6
  go_enter Tryd.func28, Tryd.ntmps28
  go_wp2_with fail
  refine (rcivil_yes fr y m d _ h hc).mono ?_
  rintro e w1 ⟨rfl, hb1⟩
  have K1 := Lib.hid (Blk.new w1 23 #[.int .i64 y, .int .i64 m, .int .i64 d, .int .i64 (hhT fr), .int .i64 (mmT fr), .int .i64 (ssT fr)])
  go_wp2_with fail
  refine (rcivil_yes tu y' m' d' _ k hc').mono ?_
  rintro e w2 ⟨rfl, hb2⟩
  have HB2 := Lib.hid (below2 (below_al _ hb1) hb2)
  obtain ⟨a0, a1, a2, a3, a4, a5⟩ := ((K1.out.onw hb2).alloc (.cells #[.int .i64 y', .int .i64 m', .int .i64 d', .int .i64 (hhT tu), .int .i64 (mmT tu), .int .i64 (ssT tu)] 23)).six
  clear hb1 hb2 K1
  go_wp2
  clear a0 a1 a2 a3 a4 a5
  go_loopw [10] (fun n wr => ∃ j : Int, (R ≤ j ∨ j ≤ 0 ∧ R = 0) ∧ j ≤ K + 1 ∧ n = .int .i64 j ∧ Below w.heap.size w wr) (fun n _ => (intOf n).toNat)
  case atStart => exact ⟨K + 1, by omega, by omega, by rw [HK1.out], below_al _ HB2.out⟩
  case round =>
    obtain ⟨j, hj1, hj2, rfl, hbw⟩ := hrel
    have HBW := Lib.hid hbw
    clear hbw
    have hjb : j ≤ 96361 := by omega
    rcases (by omega : j ≤ 0 ∨ 0 < j ∧ j = R ∨ 0 < j ∧ R < j) with g | ⟨g, hjR⟩ | ⟨g, hjR⟩
    · have hR0 : R = 0 := by omega
      subst hR0
      go_wp2
      go_ret2
      exact ⟨rfl, HBW.out⟩
    · subst hjR
      have ha := HAT.out (by rw [← HR.out]; exact g)
      rw [← HR.out] at ha
      obtain ⟨p1, p2, p3⟩ := ha
      have HS := Lib.hid (fun w => rshift_go fr j y m d w (by omega) (by omega) h hc p1 p2)
      have hle : decide (shT fr y m d j ≤ tu) = true := decide_eq_true p3
      clear p1 p2
      go_wp2_with fail
      refine (HS.out _).mono ?_
      rintro e w3 ⟨rfl, hb3⟩
      have HB3 := Lib.hid (below2 HBW.out hb3)
      clear hb3
      go_wp2
      go_ret2
      exact ⟨rfl, HB3.out⟩
    · have hu := HUP.out j (by rw [← HR.out]; exact hjR) (by rw [← HK.out]; exact hj2) g
      rcases hu with hu | ⟨p1, p2, p3⟩
      · have HS := Lib.hid (fun w => rshift_out fr j 0 y m d w (wi_mk (by omega) (by omega)) (by decide) h hc (.inr hu))
        clear hu
        go_wp2_with fail
        refine (HS.out _).mono ?_
        rintro e w3 ⟨rfl, hb3⟩
        have HB3 := Lib.hid (below2 HBW.out hb3)
        clear hb3
        go_wp2
        go_roundw
        case rel => exact ⟨j - 1, by omega, by omega, rfl, HB3.out⟩
        case measure => simp [intOf]; omega
      · have HS := Lib.hid (fun w => rshift_go fr j y m d w (by omega) (by omega) h hc p1 p2)
        have hle : decide (shT fr y m d j ≤ tu) = false := decide_eq_false (by omega)
        clear p1 p2
        go_wp2_with fail
        refine (HS.out _).mono ?_
        rintro e w3 ⟨rfl, hb3⟩
        have HB3 := Lib.hid (below2 HBW.out hb3)
        clear hb3
        go_wp2
        go_roundw
        case rel => exact ⟨j - 1, by omega, by omega, rfl, HB3.out⟩
        case measure => simp [intOf]; omega
end Go.Proofs.YtahcajhacfnffaaDoor
