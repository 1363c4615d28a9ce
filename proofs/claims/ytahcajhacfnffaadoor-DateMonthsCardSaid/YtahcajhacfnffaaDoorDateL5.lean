/-
  The laws of dates, walked: DateShifts, DateBack, DateMonths.
-/
import Derived.Test.YtahcajhacfnffaaDoorDateS3
import Derived.OpenShut
namespace Go.Proofs.YtahcajhacfnffaaDoor
open Go.RowKit
set_option linter.unusedVariables false

/-- what a shift tells -/
def Sh (t n k v b : Int) : Prop :=
  (∀ w, Calls Tryd.prog 25 #[.int .i64 t, .int .i64 n, .int .i64 k] w fun e w' => e = .returned (.tuple #[.int .i64 v, .int .i64 b]) ∧ Below w.heap.size w w') ∧
  (∀ w, Calls Tryd.prog 26 #[.int .i64 t, .int .i64 n, .int .i64 k] w fun e w' => e = .returned (.tuple #[.int .i64 v, .int .i64 b]) ∧ Below w.heap.size w w')
theorem sh_all (t n k : Int) : ∃ v b, Sh t n k v b ∧ ((b != 0) = true ∧ (b == 0) = false ∨ b = 0 ∧ mayB t = true ∧ wiB n (-120000) 120000 = true ∧ wiB k (-4000000) 4000000 = true ∧ mayB v = true ∧ ∃ y m d, Cal.Civ (t / 86400 + 719162) y m d ∧ 1970 ≤ shY y m n ∧ shY y m n ≤ 9999 ∧ v = shT t y m d n + 86400 * k) := by
  cases h1 : wiB n (-120000) 120000
  · exact ⟨0, 1, ⟨fun w => shift_arg t n k w (.inl h1), fun w => rshift_arg t n k w (.inl h1)⟩, .inl ⟨rfl, rfl⟩⟩
  · cases h2 : wiB k (-4000000) 4000000
    · exact ⟨0, 1, ⟨fun w => shift_arg t n k w (.inr ⟨h1, h2⟩), fun w => rshift_arg t n k w (.inr ⟨h1, h2⟩)⟩, .inl ⟨rfl, rfl⟩⟩
    · cases h : mayB t
      · exact ⟨0, 100, ⟨fun w => shift_no t n k w h1 h2 h, fun w => rshift_no t n k w h1 h2 h⟩, .inl ⟨rfl, rfl⟩⟩
      · obtain ⟨y, m, d, hc⟩ := civ_t h
        rcases (by omega : (shY y m n < 1970 ∨ 9999 < shY y m n) ∨ 1970 ≤ shY y m n ∧ shY y m n ≤ 9999) with ho | ⟨ho1, ho2⟩
        · exact ⟨0, 100, ⟨fun w => shift_out t n k y m d w h1 h2 h hc ho, fun w => rshift_out t n k y m d w h1 h2 h hc ho⟩, .inl ⟨rfl, rfl⟩⟩
        · cases hv : mayB (shT t y m d n + 86400 * k)
          · exact ⟨0, 100, ⟨fun w => shift_at t n k y m d 0 100 w h1 h2 h hc ho1 ho2 (.inr ⟨hv, rfl, rfl⟩), fun w => rshift_at t n k y m d 0 100 w h1 h2 h hc ho1 ho2 (.inr ⟨hv, rfl, rfl⟩)⟩, .inl ⟨rfl, rfl⟩⟩
          · exact ⟨_, 0, ⟨fun w => shift_at t n k y m d _ 0 w h1 h2 h hc ho1 ho2 (.inl ⟨hv, rfl, rfl⟩), fun w => rshift_at t n k y m d _ 0 w h1 h2 h hc ho1 ho2 (.inl ⟨hv, rfl, rfl⟩)⟩, .inr ⟨rfl, rfl, rfl, rfl, hv, y, m, d, hc, ho1, ho2, rfl⟩⟩

set_option maxRecDepth 100000 in
set_option maxHeartbeats 1600000 in
theorem dateShifts_walk (t n k : Int) (W : World) (htab : tabP W) :
    Calls Tryd.prog 8 #[.int .i64 t, .int .i64 n, .int .i64 k] W fun e w' => e = .returned (.bool true) ∧ Below W.heap.size W w' := by
  obtain ⟨v, b, ⟨hS, hR⟩, _⟩ := sh_all t n k
  have HT := Lib.hid htab
  have HS := Lib.hid hS
  have HR := Lib.hid hR
  clear htab hS hR
  have e1 : (v == v) = true := by simp
  have e2 : (b == b) = true := by simp
  go_enter Tryd.func8, Tryd.ntmps8
  go_wp2_with fail
  refine (HS.out _).mono ?_
  rintro e w1 ⟨rfl, hb1⟩
  go_wp2_with fail
  refine (HR.out _).mono ?_
  rintro e w2 ⟨rfl, hb2⟩
  have HB2 := Lib.hid (below2 hb1 hb2)
  clear hb1 hb2
  go_wp2_with fail
  refine (lives_any _ (HT.out.below HB2.out)).mono ?_
  rintro e w3 ⟨rfl, hb3⟩
  have HB3 := Lib.hid (below2 HB2.out hb3)
  clear hb3
  go_wp2
  go_ret
  exact ⟨rfl, HB3.out⟩

set_option maxRecDepth 100000 in
set_option maxHeartbeats 1600000 in
theorem dateMonths_no (fr tu : Int) (W : World) (htab : tabP W) (h : mayB fr = false ∨ mayB fr = true ∧ mayB tu = false) :
    Calls Tryd.prog 10 #[.int .i64 fr, .int .i64 tu] W fun e w' => e = .returned (.bool true) ∧ Below W.heap.size W w' := by
  have HT := Lib.hid htab
  have HH := Lib.hid h
  clear htab h
  go_enter Tryd.func10, Tryd.ntmps10
  go_wp2_with fail
  refine (months_no fr tu _ HH.out).mono ?_
  rintro e w1 ⟨rfl, hb1⟩
  go_wp2_with fail
  refine (rmonths_no fr tu _ HH.out).mono ?_
  rintro e w2 ⟨rfl, hb2⟩
  have HB2 := Lib.hid (below2 hb1 hb2)
  clear hb1 hb2
  go_wp2_with fail
  refine (lives_any _ (HT.out.below HB2.out)).mono ?_
  rintro e w3 ⟨rfl, hb3⟩
  have HB3 := Lib.hid (below2 HB2.out hb3)
  clear hb3
  go_wp2
  go_ret
  exact ⟨rfl, HB3.out⟩

set_option maxRecDepth 100000 in
set_option maxHeartbeats 1600000 in
theorem dateMonths_at (fr tu R u v b : Int) (W : World) (htab : tabP W) (hR0 : 0 ≤ R) (hR1 : R ≤ 96360)
    (hA : ∀ w, Calls Tryd.prog 27 #[.int .i64 fr, .int .i64 tu] w fun e w' => e = .returned (.tuple #[.int .i64 R, .int .i64 0]) ∧ Below w.heap.size w w')
    (hB : ∀ w, Calls Tryd.prog 28 #[.int .i64 fr, .int .i64 tu] w fun e w' => e = .returned (.tuple #[.int .i64 R, .int .i64 0]) ∧ Below w.heap.size w w')
    (hcs : decide (tu < fr) = true ∧ R = 0 ∨ decide (tu < fr) = false ∧ decide (u ≤ tu) = true ∧ ((b != 0) = true ∨ (b != 0) = false ∧ decide (tu < v) = true))
    (hU : decide (tu < fr) = false → ∀ w, Calls Tryd.prog 25 #[.int .i64 fr, .int .i64 R, .int .i64 0] w fun e w' => e = .returned (.tuple #[.int .i64 u, .int .i64 0]) ∧ Below w.heap.size w w')
    (hV : decide (tu < fr) = false → ∀ w, Calls Tryd.prog 25 #[.int .i64 fr, .int .i64 (R + 1), .int .i64 0] w fun e w' => e = .returned (.tuple #[.int .i64 v, .int .i64 b]) ∧ Below w.heap.size w w') :
    Calls Tryd.prog 10 #[.int .i64 fr, .int .i64 tu] W fun e w' => e = .returned (.bool true) ∧ Below W.heap.size W w' := by
  have HT := Lib.hid htab
  have HA := Lib.hid hA
  have HB := Lib.hid hB
  have HU := Lib.hid hU
  have HV := Lib.hid hV
  clear htab hA hB hU hV
  have e1 : (R != R) = false := by simp
  rcases hcs with ⟨g1, rfl⟩ | ⟨g1, g2, g3⟩
  · clear HU HV
    go_enter Tryd.func10, Tryd.ntmps10
    go_wp2_with fail
    refine (HA.out _).mono ?_
    rintro e w1 ⟨rfl, hb1⟩
    go_wp2_with fail
    refine (HB.out _).mono ?_
    rintro e w2 ⟨rfl, hb2⟩
    have HB2 := Lib.hid (below2 hb1 hb2)
    clear hb1 hb2
    go_wp2_with fail
    refine (lives_any _ (HT.out.below HB2.out)).mono ?_
    rintro e w3 ⟨rfl, hb3⟩
    have HB3 := Lib.hid (below2 HB2.out hb3)
    clear hb3
    go_wp2
    go_ret
    exact ⟨rfl, HB3.out⟩
  · have HU2 := Lib.hid (HU.out g1)
    have HV2 := Lib.hid (HV.out g1)
    rcases g3 with g3 | ⟨g3, g4⟩
    all_goals
      go_enter Tryd.func10, Tryd.ntmps10
      go_wp2_with fail
      refine (HA.out _).mono ?_
      rintro e w1 ⟨rfl, hb1⟩
      go_wp2_with fail
      refine (HB.out _).mono ?_
      rintro e w2 ⟨rfl, hb2⟩
      have HB2 := Lib.hid (below2 hb1 hb2)
      clear hb1 hb2
      go_wp2_with fail
      refine (lives_any _ (HT.out.below HB2.out)).mono ?_
      rintro e w3 ⟨rfl, hb3⟩
      have HB3 := Lib.hid (below2 HB2.out hb3)
      clear hb3
      go_wp2_with fail
      refine (HU2.out _).mono ?_
      rintro e w4 ⟨rfl, hb4⟩
      go_wp2_with fail
      refine (HV2.out _).mono ?_
      rintro e w5 ⟨rfl, hb5⟩
      have HB5 := Lib.hid (below3 HB3.out hb4 hb5)
      clear hb4 hb5
      go_wp2
      go_ret
      exact ⟨rfl, HB5.out⟩

theorem dateMonths_walk (fr tu : Int) (W : World) (htab : tabP W) :
    Calls Tryd.prog 10 #[.int .i64 fr, .int .i64 tu] W fun e w' => e = .returned (.bool true) ∧ Below W.heap.size W w' := by
  cases h : mayB fr
  · exact dateMonths_no fr tu W htab (.inl h)
  · cases k : mayB tu
    · exact dateMonths_no fr tu W htab (.inr ⟨h, k⟩)
    · obtain ⟨y, m, d, hc⟩ := civ_t h
      obtain ⟨y', m', d', hc'⟩ := civ_t k
      obtain ⟨q1, q2, q3, q4, q5, q6⟩ := monR_bd hc hc'
      obtain ⟨z1, z2, z3, z4⟩ := shift_zero (n := 0) (t := fr) hc
      have hA := fun w => months_yes fr tu y m d y' m' d' w h k hc hc'
      have hB := fun w => rmonths_yes fr tu y m d y' m' d' w h k hc hc'
      have c1 := hc.y0; have c2 := hc.y1
      rcases (by omega : tu < fr ∨ fr ≤ tu) with hl | hl
      · have hd : decide (tu < fr) = true := decide_eq_true hl
        have hk : kM y m y' m' ≤ 0 := by
          rcases (by omega : kM y m y' m' ≤ 0 ∨ 0 < kM y m y' m') with x | x
          · exact x
          · have := mon_lt (t := fr) hc hc' (by unfold kM at x; omega)
            rw [tim_of hc] at this
            omega
        exact dateMonths_at fr tu _ 0 0 0 W htab q1 q2 hA hB (.inl ⟨hd, q5 hk⟩) (fun e => by rw [hd] at e; cases e) (fun e => by rw [hd] at e; cases e)
      · have hd : decide (tu < fr) = false := decide_eq_false (by omega)
        have hk : 0 ≤ kM y m y' m' := by
          rcases (by omega : 0 ≤ kM y m y' m' ∨ kM y m y' m' < 0) with x | x
          · exact x
          · have := mon_gt (t := fr) hc hc' (by unfold kM at x; omega)
            rw [tim_of hc] at this
            omega
        have hle : monR fr tu y m d y' m' ≤ kM y m y' m' := by
          rcases (by omega : kM y m y' m' ≤ 0 ∨ 0 < kM y m y' m') with x | x
          · have := q5 x; omega
          · exact (q6 x).2
        have hat : 1970 ≤ shY y m (monR fr tu y m d y' m') ∧ shY y m (monR fr tu y m d y' m') ≤ 9999 ∧ shT fr y m d (monR fr tu y m d y' m') ≤ tu := by
          rcases (by omega : monR fr tu y m d y' m' = 0 ∨ 0 < monR fr tu y m d y' m') with x | x
          · rw [x, z1, z4]; omega
          · exact monR_at hc hc' x
        obtain ⟨p1, p2, p3⟩ := hat
        rcases monR_up hc hc' (monR fr tu y m d y' m' + 1) (by omega) (by omega) (by omega) with hu | ⟨r1, r2, r3⟩
        · exact dateMonths_at fr tu _ (shT fr y m d (monR fr tu y m d y' m')) 0 100 W htab q1 q2 hA hB (.inr ⟨hd, decide_eq_true p3, .inl rfl⟩) (fun _ w => shift_go fr _ y m d w (by omega) (by omega) h hc p1 p2) (fun _ w => shift_out fr _ 0 y m d w (wi_mk (by omega) (by omega)) (by decide) h hc (.inr hu))
        · exact dateMonths_at fr tu _ (shT fr y m d (monR fr tu y m d y' m')) _ 0 W htab q1 q2 hA hB (.inr ⟨hd, decide_eq_true p3, .inr ⟨rfl, decide_eq_true r3⟩⟩) (fun _ w => shift_go fr _ y m d w (by omega) (by omega) h hc p1 p2) (fun _ w => shift_go fr _ y m d w (by omega) (by omega) h hc r1 r2)

/-- days back -/
theorem sh_days (t k a : Int) (hb : ∃ v b, Sh t 0 k v b ∧ a = v ∧ b = 0 ∧ mayB t = true ∧ wiB k (-4000000) 4000000 = true ∧ mayB v = true ∧ ∃ y m d, Cal.Civ (t / 86400 + 719162) y m d ∧ v = shT t y m d 0 + 86400 * k) (w : World) :
    Calls Tryd.prog 25 #[.int .i64 a, .int .i64 0, .int .i64 (-k)] w fun e w' => e = .returned (.tuple #[.int .i64 t, .int .i64 0]) ∧ Below w.heap.size w w' := by
  obtain ⟨v, b, _, rfl, _, ht, hk, hv, y, m, d, hc, he⟩ := hb
  obtain ⟨z1, z2, z3, z4⟩ := shift_zero (n := 0) (t := t) hc
  obtain ⟨y2, m2, d2, hc2⟩ := civ_t hv
  obtain ⟨x1, x2, x3, x4⟩ := shift_zero (n := 0) (t := a) hc2
  obtain ⟨k1, k2⟩ := wiB_true hk
  have hy0 := hc2.y0; have hy1 := hc2.y1
  have e : shT a y2 m2 d2 0 + 86400 * -k = t := by rw [x4, he, z4]; omega
  exact shift_at a 0 (-k) y2 m2 d2 t 0 w (by decide) (wi_mk (by omega) (by omega)) hv hc2 (by omega) (by omega) (.inl ⟨by rw [e]; exact ht, e.symm, rfl⟩)
/-- months back -/
theorem sh_months (t n y m d : Int) (ht : mayB t = true) (hn : wiB n (-120000) 120000 = true) (hc : Cal.Civ (t / 86400 + 719162) y m d) (ho1 : 1970 ≤ shY y m n) (ho2 : shY y m n ≤ 9999) :
    ∃ u, (d = shD y m d n → u = t) ∧ mayB (shT t y m d n) = true ∧ Cal.Civ (shT t y m d n / 86400 + 719162) (shY y m n) (shM y m n) (shD y m d n) ∧
      ∀ w, Calls Tryd.prog 25 #[.int .i64 (shT t y m d n), .int .i64 (-n), .int .i64 0] w fun e w' => e = .returned (.tuple #[.int .i64 u, .int .i64 0]) ∧ Below w.heap.size w w' := by
  obtain ⟨a, b, c, d', e, f⟩ := hms_bd t
  obtain ⟨g1, g2, g3, g4, g5, g6⟩ := tim_bd (sh_civ hc ho1 ho2) a b c d' e f
  have hT : timV (shY y m n) (shM y m n) (shD y m d n) (hhT t) (mmT t) (ssT t) = shT t y m d n := rfl
  rw [hT] at g1 g2 g3 g4 g5 g6
  have hv : mayB (shT t y m d n) = true := decide_eq_true ⟨g1, g2⟩
  have hc2 : Cal.Civ (shT t y m d n / 86400 + 719162) (shY y m n) (shM y m n) (shD y m d n) := by rw [g3]; exact sh_civ hc ho1 ho2
  obtain ⟨k1, k2⟩ := wiB_true hn
  obtain ⟨r1, r2, r3⟩ := sh_rel y m n
  obtain ⟨s1, s2, s3⟩ := sh_rel (shY y m n) (shM y m n) (-n)
  have hm0 := hc.m0; have hm1 := hc.m1; have hy0 := hc.y0; have hy1 := hc.y1; have hd1 := hc.d1
  have e1 : shY (shY y m n) (shM y m n) (-n) = y := by omega
  have e2 : shM (shY y m n) (shM y m n) (-n) = m := by omega
  refine ⟨shT (shT t y m d n) (shY y m n) (shM y m n) (shD y m d n) (-n), ?_, hv, hc2, fun w => shift_go _ (-n) _ _ _ w (by omega) (by omega) hv hc2 (by omega) (by omega)⟩
  intro hd
  have e3 : shD (shY y m n) (shM y m n) (shD y m d n) (-n) = d := by
    rw [shD, e1, e2, Cal.dimZ_in (by omega) hy1 hm0 hm1, ← hd]
    omega
  rw [shT, e1, e2, e3, g4, g5, g6, tim_of hc]

set_option maxRecDepth 100000 in
set_option maxHeartbeats 3200000 in
theorem dateBack_at (t n k a b e0 f0 : Int) (W : World) (htab : tabP W) (k1 : -4000000 ≤ k ∧ k ≤ 4000000 ∨ (e0 == 0) = false)
    (hA : ∀ w, Calls Tryd.prog 25 #[.int .i64 t, .int .i64 0, .int .i64 k] w fun e w' => e = .returned (.tuple #[.int .i64 a, .int .i64 e0]) ∧ Below w.heap.size w w')
    (hB : ∀ w, Calls Tryd.prog 25 #[.int .i64 t, .int .i64 n, .int .i64 0] w fun e w' => e = .returned (.tuple #[.int .i64 b, .int .i64 f0]) ∧ Below w.heap.size w w')
    (hE : (e0 == 0) = false ∨ e0 = 0 ∧ ∀ w, Calls Tryd.prog 25 #[.int .i64 a, .int .i64 0, .int .i64 (-k)] w fun e w' => e = .returned (.tuple #[.int .i64 t, .int .i64 0]) ∧ Below w.heap.size w w')
    (hF : (f0 != 0) = true ∨ f0 = 0 ∧ -120000 ≤ n ∧ n ≤ 120000 ∧ ∃ y m d c1 c2 c3 y' m' d' c1' c2' c3' u, (d = d' → u = t) ∧ (∀ w, Calls Tryd.prog 13 #[.int .i64 t] w fun e w' => e = .returned (.tuple #[dateV y m d c1 c2 c3, .bool true]) ∧ Below w.heap.size w w') ∧ (∀ w, Calls Tryd.prog 13 #[.int .i64 b] w fun e w' => e = .returned (.tuple #[dateV y' m' d' c1' c2' c3', .bool true]) ∧ Below w.heap.size w w') ∧ ∀ w, Calls Tryd.prog 25 #[.int .i64 b, .int .i64 (-n), .int .i64 0] w fun e w' => e = .returned (.tuple #[.int .i64 u, .int .i64 0]) ∧ Below w.heap.size w w') :
    Calls Tryd.prog 9 #[.int .i64 t, .int .i64 n, .int .i64 k] W fun e w' => e = .returned (.bool true) ∧ Below W.heap.size W w' := by
  have HT := Lib.hid htab
  have HA := Lib.hid hA
  have HBB := Lib.hid hB
  clear htab hA hB
  have et : (t != t) = false := by simp
  have eq' : (t == t) = true := by simp
  rcases hF with hf | ⟨rfl, n1, n2, y, m, d, c1, c2, c3, y', m', d', c1', c2', c3', u, hu, hC, hD, hG⟩
  · rcases hE with he | ⟨rfl, hE⟩
    · clear k1
      go_enter Tryd.func9, Tryd.ntmps9
      go_wp2_with fail
      refine (HA.out _).mono ?_
      rintro e w1 ⟨rfl, hb1⟩
      go_wp2_with fail
      refine (HBB.out _).mono ?_
      rintro e w2 ⟨rfl, hb2⟩
      have HB2 := Lib.hid (below2 hb1 hb2)
      clear hb1 hb2
      go_wp2_with fail
      refine (lives_any _ (HT.out.below HB2.out)).mono ?_
      rintro e w3 ⟨rfl, hb3⟩
      have HB3 := Lib.hid (below2 HB2.out hb3)
      clear hb3
      go_wp2
      go_ret
      exact ⟨rfl, HB3.out⟩
    · have HE := Lib.hid hE
      have hk : -4000000 ≤ k ∧ k ≤ 4000000 := by rcases k1 with x | x; exact x; exact absurd x (by decide)
      clear hE k1
      go_enter Tryd.func9, Tryd.ntmps9
      go_wp2_with fail
      refine (HA.out _).mono ?_
      rintro e w1 ⟨rfl, hb1⟩
      go_wp2_with fail
      refine (HBB.out _).mono ?_
      rintro e w2 ⟨rfl, hb2⟩
      have HB2 := Lib.hid (below2 hb1 hb2)
      clear hb1 hb2
      go_wp2_with fail
      refine (lives_any _ (HT.out.below HB2.out)).mono ?_
      rintro e w3 ⟨rfl, hb3⟩
      have HB3 := Lib.hid (below2 HB2.out hb3)
      clear hb3
      go_wp2_with fail
      refine (HE.out _).mono ?_
      rintro e w4 ⟨rfl, hb4⟩
      have HB4 := Lib.hid (below2 HB3.out hb4)
      clear hb4
      go_wp2
      go_ret
      exact ⟨rfl, HB4.out⟩
  · have HC := Lib.hid hC
    have HD := Lib.hid hD
    have HG := Lib.hid hG
    have hdc : (d != d') = true ∨ (d != d') = false ∧ (u == t) = true := by
      by_cases x : d = d'
      · right
        have := hu x
        simp [x, this]
      · left
        simpa using x
    clear hC hD hG hu
    rcases hE with he | ⟨rfl, hE⟩
    · clear k1
      rcases hdc with g1 | ⟨g1, g2⟩
      all_goals
        go_enter Tryd.func9, Tryd.ntmps9
        go_wp2_with fail
        refine (HA.out _).mono ?_
        rintro e w1 ⟨rfl, hb1⟩
        go_wp2_with fail
        refine (HBB.out _).mono ?_
        rintro e w2 ⟨rfl, hb2⟩
        have HB2 := Lib.hid (below2 hb1 hb2)
        clear hb1 hb2
        go_wp2_with fail
        refine (lives_any _ (HT.out.below HB2.out)).mono ?_
        rintro e w3 ⟨rfl, hb3⟩
        have HB3 := Lib.hid (below2 HB2.out hb3)
        clear hb3
        go_wp2_with fail
        refine (HC.out _).mono ?_
        rintro e w5 ⟨rfl, hb5⟩
        have HB5 := Lib.hid (below2 HB3.out hb5)
        have K5 := Lib.hid (Blk.new w5 23 #[.int .i64 y, .int .i64 m, .int .i64 d, .int .i64 c1, .int .i64 c2, .int .i64 c3])
        clear hb5
        go_wp2_with fail
        refine (HD.out _).mono ?_
        rintro e w6 ⟨rfl, hb6⟩
        have HB6 := Lib.hid (below2 (below_al _ HB5.out) hb6)
        have K6 := Lib.hid ((K5.out.onw hb6).alloc (.cells #[.int .i64 y', .int .i64 m', .int .i64 d', .int .i64 c1', .int .i64 c2', .int .i64 c3'] 23))
        have K7 := Lib.hid (Blk.new w6 23 #[.int .i64 y', .int .i64 m', .int .i64 d', .int .i64 c1', .int .i64 c2', .int .i64 c3'])
        clear hb6 K5
        go_wp2_with fail
        refine (HG.out _).mono ?_
        rintro e w7 ⟨rfl, hb7⟩
        have HB7 := Lib.hid (below2 (below_al _ HB6.out) hb7)
        obtain ⟨a0, a1, a2, a3, a4, a5⟩ := (K6.out.onw hb7).six
        obtain ⟨b0, b1, b2, b3, b4, b5⟩ := (K7.out.onw hb7).six
        clear hb7 K6 K7
        go_wp2
        go_ret
        exact ⟨rfl, HB7.out⟩
    · have HE := Lib.hid hE
      have hk : -4000000 ≤ k ∧ k ≤ 4000000 := by rcases k1 with x | x; exact x; exact absurd x (by decide)
      clear hE k1
      rcases hdc with g1 | ⟨g1, g2⟩
      all_goals
        go_enter Tryd.func9, Tryd.ntmps9
        go_wp2_with fail
        refine (HA.out _).mono ?_
        rintro e w1 ⟨rfl, hb1⟩
        go_wp2_with fail
        refine (HBB.out _).mono ?_
        rintro e w2 ⟨rfl, hb2⟩
        have HB2 := Lib.hid (below2 hb1 hb2)
        clear hb1 hb2
        go_wp2_with fail
        refine (lives_any _ (HT.out.below HB2.out)).mono ?_
        rintro e w3 ⟨rfl, hb3⟩
        have HB3 := Lib.hid (below2 HB2.out hb3)
        clear hb3
        go_wp2_with fail
        refine (HE.out _).mono ?_
        rintro e w4 ⟨rfl, hb4⟩
        have HB4 := Lib.hid (below2 HB3.out hb4)
        clear hb4
        go_wp2_with fail
        refine (HC.out _).mono ?_
        rintro e w5 ⟨rfl, hb5⟩
        have HB5 := Lib.hid (below2 HB4.out hb5)
        have K5 := Lib.hid (Blk.new w5 23 #[.int .i64 y, .int .i64 m, .int .i64 d, .int .i64 c1, .int .i64 c2, .int .i64 c3])
        clear hb5
        go_wp2_with fail
        refine (HD.out _).mono ?_
        rintro e w6 ⟨rfl, hb6⟩
        have HB6 := Lib.hid (below2 (below_al _ HB5.out) hb6)
        have K6 := Lib.hid ((K5.out.onw hb6).alloc (.cells #[.int .i64 y', .int .i64 m', .int .i64 d', .int .i64 c1', .int .i64 c2', .int .i64 c3'] 23))
        have K7 := Lib.hid (Blk.new w6 23 #[.int .i64 y', .int .i64 m', .int .i64 d', .int .i64 c1', .int .i64 c2', .int .i64 c3'])
        clear hb6 K5
        go_wp2_with fail
        refine (HG.out _).mono ?_
        rintro e w7 ⟨rfl, hb7⟩
        have HB7 := Lib.hid (below2 (below_al _ HB6.out) hb7)
        obtain ⟨a0, a1, a2, a3, a4, a5⟩ := (K6.out.onw hb7).six
        obtain ⟨b0, b1, b2, b3, b4, b5⟩ := (K7.out.onw hb7).six
        clear hb7 K6 K7
        go_wp2
        go_ret
        exact ⟨rfl, HB7.out⟩
theorem dateBack_walk (t n k : Int) (W : World) (htab : tabP W) :
    Calls Tryd.prog 9 #[.int .i64 t, .int .i64 n, .int .i64 k] W fun e w' => e = .returned (.bool true) ∧ Below W.heap.size W w' := by
  obtain ⟨a, e0, hA, hE⟩ := sh_all t 0 k
  obtain ⟨b, f0, hB, hF⟩ := sh_all t n 0
  refine dateBack_at t n k a b e0 f0 W htab ?_ hA.1 hB.1 ?_ ?_
  · rcases hE with ⟨_, h⟩ | ⟨_, _, _, h, _⟩
    · exact .inr h
    · exact .inl (wiB_true h)
  · rcases hE with ⟨_, h⟩ | ⟨h0, ht, _, hk, hv, y, m, d, hc, _, _, he⟩
    · exact .inl h
    · exact .inr ⟨h0, fun w => sh_days t k a ⟨a, e0, hA, rfl, h0, ht, hk, hv, y, m, d, hc, he⟩ w⟩
  · rcases hF with ⟨h, _⟩ | ⟨h0, ht, hn, _, hv, y, m, d, hc, ho1, ho2, he⟩
    · exact .inl h
    · obtain ⟨n1, n2⟩ := wiB_true hn
      have e : b = shT t y m d n := by rw [he]; omega
      subst e
      obtain ⟨u, hu, hv2, hc2, hG⟩ := sh_months t n y m d ht hn hc ho1 ho2
      exact .inr ⟨h0, n1, n2, y, m, d, _, _, _, _, _, _, _, _, _, u, hu, fun w => rcivil_yes t y m d w ht hc, fun w => rcivil_yes _ _ _ _ w hv2 hc2, hG⟩
end Go.Proofs.YtahcajhacfnffaaDoor
