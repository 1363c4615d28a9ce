/-
  The walk of the law GlobMeets.
-/
import Derived.Test.YtodkjhbnodcbhaaDoorGlobLives
import Derived.Test.YtodkjhbnodcbhaaDoorGlobT9
namespace Go.Proofs.YtodkjhbnodcbhaaDoor
open Go.RowKit Glob
set_option linter.unusedVariables false

theorem globMeets_long0 (p q s : ByteArray) (w : World) (hT : Tab w) (hp : 1000 < p.size) (zp : p.size ≤ 140737488351232) (zq : q.size ≤ 140737488351232) (zs : s.size ≤ 140737488351232) : Calls Tryd.prog 7 #[.string p, .string q, .string s] w fun e w' => e = .returned (.bool true) ∧ Below w.heap.size w w' := by
  have ep : decide (1000 < (p.size : Int)) = true := by rw [decide_eq_true_iff]; omega
  go_enter Tryd.func7, Tryd.ntmps7
  go_wp2_with fail
  refine (lives_any _ hT).mono ?_
  rintro e w' ⟨rfl, hb⟩
  go_wp2
  go_ret
  exact ⟨rfl, hb⟩
theorem globMeets_long1 (p q s : ByteArray) (w : World) (hT : Tab w) (hp : p.size ≤ 1000) (hq : 1000 < q.size) (zp : p.size ≤ 140737488351232) (zq : q.size ≤ 140737488351232) (zs : s.size ≤ 140737488351232) : Calls Tryd.prog 7 #[.string p, .string q, .string s] w fun e w' => e = .returned (.bool true) ∧ Below w.heap.size w w' := by
  have ep : decide (1000 < (p.size : Int)) = false := by rw [decide_eq_false_iff_not]; omega
  have eq : decide (1000 < (q.size : Int)) = true := by rw [decide_eq_true_iff]; omega
  go_enter Tryd.func7, Tryd.ntmps7
  go_wp2_with fail
  refine (lives_any _ hT).mono ?_
  rintro e w' ⟨rfl, hb⟩
  go_wp2
  go_ret
  exact ⟨rfl, hb⟩
theorem globMeets_long2 (p q s : ByteArray) (w : World) (hT : Tab w) (hp : p.size ≤ 1000) (hq : q.size ≤ 1000) (hs : 1000 < s.size) (zp : p.size ≤ 140737488351232) (zq : q.size ≤ 140737488351232) (zs : s.size ≤ 140737488351232) : Calls Tryd.prog 7 #[.string p, .string q, .string s] w fun e w' => e = .returned (.bool true) ∧ Below w.heap.size w w' := by
  have ep : decide (1000 < (p.size : Int)) = false := by rw [decide_eq_false_iff_not]; omega
  have eq : decide (1000 < (q.size : Int)) = false := by rw [decide_eq_false_iff_not]; omega
  have es : decide (1000 < (s.size : Int)) = true := by rw [decide_eq_true_iff]; omega
  go_enter Tryd.func7, Tryd.ntmps7
  go_wp2_with fail
  refine (lives_any _ hT).mono ?_
  rintro e w' ⟨rfl, hb⟩
  go_wp2
  go_ret
  exact ⟨rfl, hb⟩
set_option maxRecDepth 100000 in
set_option maxHeartbeats 2000000 in
theorem globMeets_00 (p q s : ByteArray) (w : World) (hT : Tab w) (hp : p.size ≤ 1000) (hq : q.size ≤ 1000) (hs : s.size ≤ 1000) (m1 : matchL p.data.toList s.data.toList = false) (pl : pathL p.data.toList = false) : Calls Tryd.prog 7 #[.string p, .string q, .string s] w fun e w' => e = .returned (.bool true) ∧ Below w.heap.size w w' := by
  have ep : decide (1000 < (p.size : Int)) = false := by rw [decide_eq_false_iff_not]; omega
  have eq : decide (1000 < (q.size : Int)) = false := by rw [decide_eq_false_iff_not]; omega
  have es : decide (1000 < (s.size : Int)) = false := by rw [decide_eq_false_iff_not]; omega
  have HA := fun w h0 => (match_is p s _ m1 w (by omega) (by omega) h0)
  have HP := fun w h0 => (plainP_any p w (by omega) h0)
  have HR := fun w (h0 : Tab w) => (rpath_any p w (by omega))
  rw [pl] at HP HR
  have HA := Lib.hid HA
  have HP := Lib.hid HP
  have HR := Lib.hid HR
  clear m1 pl
  go_enter Tryd.func7, Tryd.ntmps7
  go_wp2_with fail
  refine (HA.out _ hT).mono ?_
  rintro e w1 ⟨rfl, hb1⟩
  have hT1 := hT.below hb1
  have a1 := hb1
  go_wp2_with fail
  refine (HP.out _ hT1).mono ?_
  rintro e w2 ⟨rfl, hb2⟩
  have hT2 := hT1.below hb2
  have a2 := a1.trans (hb2.mono a1.size)
  go_wp2_with fail
  refine (lives_any _ hT2).mono ?_
  rintro e w3 ⟨rfl, hb3⟩
  have hT3 := hT2.below hb3
  have a3 := a2.trans (hb3.mono a2.size)
  go_wp2_with fail
  refine (HR.out _ hT3).mono ?_
  rintro e w4 ⟨rfl, hb4⟩
  have hT4 := hT3.below hb4
  have a4 := a3.trans (hb4.mono a3.size)
  go_wp2
  go_ret
  exact ⟨rfl, a4⟩
set_option maxRecDepth 100000 in
set_option maxHeartbeats 2000000 in
theorem globMeets_01 (p q s : ByteArray) (w : World) (hT : Tab w) (hp : p.size ≤ 1000) (hq : q.size ≤ 1000) (hs : s.size ≤ 1000) (m1 : matchL p.data.toList s.data.toList = false) (pl : pathL p.data.toList = true) (pq : patL q.data.toList = false) : Calls Tryd.prog 7 #[.string p, .string q, .string s] w fun e w' => e = .returned (.bool true) ∧ Below w.heap.size w w' := by
  have ep : decide (1000 < (p.size : Int)) = false := by rw [decide_eq_false_iff_not]; omega
  have eq : decide (1000 < (q.size : Int)) = false := by rw [decide_eq_false_iff_not]; omega
  have es : decide (1000 < (s.size : Int)) = false := by rw [decide_eq_false_iff_not]; omega
  have HA := fun w h0 => (match_is p s _ m1 w (by omega) (by omega) h0)
  have HP := fun w h0 => (plainP_any p w (by omega) h0)
  have HR := fun w (h0 : Tab w) => (rpath_any p w (by omega))
  rw [pl] at HP HR
  have HQ := fun w (h0 : Tab w) => (rpattern_any q w (by omega))
  rw [pq] at HQ
  have HQ := Lib.hid HQ
  have HA := Lib.hid HA
  have HP := Lib.hid HP
  have HR := Lib.hid HR
  clear m1 pl pq
  go_enter Tryd.func7, Tryd.ntmps7
  go_wp2_with fail
  refine (HA.out _ hT).mono ?_
  rintro e w1 ⟨rfl, hb1⟩
  have hT1 := hT.below hb1
  have a1 := hb1
  go_wp2_with fail
  refine (HP.out _ hT1).mono ?_
  rintro e w2 ⟨rfl, hb2⟩
  have hT2 := hT1.below hb2
  have a2 := a1.trans (hb2.mono a1.size)
  go_wp2_with fail
  refine (lives_any _ hT2).mono ?_
  rintro e w3 ⟨rfl, hb3⟩
  have hT3 := hT2.below hb3
  have a3 := a2.trans (hb3.mono a2.size)
  go_wp2_with fail
  refine (HR.out _ hT3).mono ?_
  rintro e w4 ⟨rfl, hb4⟩
  have hT4 := hT3.below hb4
  have a4 := a3.trans (hb4.mono a3.size)
  go_wp2_with fail
  refine (HQ.out _ hT4).mono ?_
  rintro e w5 ⟨rfl, hb5⟩
  have hT5 := hT4.below hb5
  have a5 := a4.trans (hb5.mono a4.size)
  go_wp2
  go_ret
  exact ⟨rfl, a5⟩
set_option maxRecDepth 100000 in
set_option maxHeartbeats 2000000 in
theorem globMeets_02 (p q s : ByteArray) (w : World) (hT : Tab w) (hp : p.size ≤ 1000) (hq : q.size ≤ 1000) (hs : s.size ≤ 1000) (m1 : matchL p.data.toList s.data.toList = false) (pl : pathL p.data.toList = true) (pq : patL q.data.toList = true) : Calls Tryd.prog 7 #[.string p, .string q, .string s] w fun e w' => e = .returned (.bool true) ∧ Below w.heap.size w w' := by
  have ep : decide (1000 < (p.size : Int)) = false := by rw [decide_eq_false_iff_not]; omega
  have eq : decide (1000 < (q.size : Int)) = false := by rw [decide_eq_false_iff_not]; omega
  have es : decide (1000 < (s.size : Int)) = false := by rw [decide_eq_false_iff_not]; omega
  have HA := fun w h0 => (match_is p s _ m1 w (by omega) (by omega) h0)
  have HP := fun w h0 => (plainP_any p w (by omega) h0)
  have HR := fun w (h0 : Tab w) => (rpath_any p w (by omega))
  rw [pl] at HP HR
  have HQ := fun w (h0 : Tab w) => (rpattern_any q w (by omega))
  rw [pq] at HQ
  have HQ := Lib.hid HQ
  have HV := fun w h0 => (overlap_any p q w hp hq h0)
  have HM := fun w h0 => (match_any q p w (by omega) (by omega) h0)
  rw [over_plain _ _ pl pq] at HV
  obtain ⟨r, hr⟩ : ∃ r, r = matchL q.data.toList p.data.toList := ⟨_, rfl⟩
  rw [← hr] at HV HM
  clear hr
  have HV := Lib.hid HV
  have HM := Lib.hid HM
  have n1 : (r == r) = true := by simp
  have HA := Lib.hid HA
  have HP := Lib.hid HP
  have HR := Lib.hid HR
  clear m1 pl pq
  go_enter Tryd.func7, Tryd.ntmps7
  go_wp2_with fail
  refine (HA.out _ hT).mono ?_
  rintro e w1 ⟨rfl, hb1⟩
  have hT1 := hT.below hb1
  have a1 := hb1
  go_wp2_with fail
  refine (HP.out _ hT1).mono ?_
  rintro e w2 ⟨rfl, hb2⟩
  have hT2 := hT1.below hb2
  have a2 := a1.trans (hb2.mono a1.size)
  go_wp2_with fail
  refine (lives_any _ hT2).mono ?_
  rintro e w3 ⟨rfl, hb3⟩
  have hT3 := hT2.below hb3
  have a3 := a2.trans (hb3.mono a2.size)
  go_wp2_with fail
  refine (HR.out _ hT3).mono ?_
  rintro e w4 ⟨rfl, hb4⟩
  have hT4 := hT3.below hb4
  have a4 := a3.trans (hb4.mono a3.size)
  go_wp2_with fail
  refine (HQ.out _ hT4).mono ?_
  rintro e w5 ⟨rfl, hb5⟩
  have hT5 := hT4.below hb5
  have a5 := a4.trans (hb5.mono a4.size)
  go_wp2_with fail
  refine (HV.out _ hT5).mono ?_
  rintro e w6 ⟨rfl, hb6⟩
  have hT6 := hT5.below hb6
  have a6 := a5.trans (hb6.mono a5.size)
  go_wp2_with fail
  refine (HM.out _ hT6).mono ?_
  rintro e w7 ⟨rfl, hb7⟩
  have hT7 := hT6.below hb7
  have a7 := a6.trans (hb7.mono a6.size)
  go_wp2
  go_ret
  exact ⟨rfl, a7⟩
set_option maxRecDepth 100000 in
set_option maxHeartbeats 2000000 in
theorem globMeets_10 (p q s : ByteArray) (w : World) (hT : Tab w) (hp : p.size ≤ 1000) (hq : q.size ≤ 1000) (hs : s.size ≤ 1000) (m1 : matchL p.data.toList s.data.toList = true) (m2 : matchL q.data.toList s.data.toList = false) (pl : pathL p.data.toList = false) : Calls Tryd.prog 7 #[.string p, .string q, .string s] w fun e w' => e = .returned (.bool true) ∧ Below w.heap.size w w' := by
  have ep : decide (1000 < (p.size : Int)) = false := by rw [decide_eq_false_iff_not]; omega
  have eq : decide (1000 < (q.size : Int)) = false := by rw [decide_eq_false_iff_not]; omega
  have es : decide (1000 < (s.size : Int)) = false := by rw [decide_eq_false_iff_not]; omega
  have HA := fun w h0 => (match_is p s _ m1 w (by omega) (by omega) h0)
  have HP := fun w h0 => (plainP_any p w (by omega) h0)
  have HR := fun w (h0 : Tab w) => (rpath_any p w (by omega))
  rw [pl] at HP HR
  have HB := fun w h0 => (match_is q s _ m2 w (by omega) (by omega) h0)
  have HA := Lib.hid HA
  have HP := Lib.hid HP
  have HR := Lib.hid HR
  have HB := Lib.hid HB
  clear m1 pl m2
  go_enter Tryd.func7, Tryd.ntmps7
  go_wp2_with fail
  refine (HA.out _ hT).mono ?_
  rintro e w1 ⟨rfl, hb1⟩
  have hT1 := hT.below hb1
  have a1 := hb1
  go_wp2_with fail
  refine (HB.out _ hT1).mono ?_
  rintro e w2 ⟨rfl, hb2⟩
  have hT2 := hT1.below hb2
  have a2 := a1.trans (hb2.mono a1.size)
  go_wp2_with fail
  refine (HP.out _ hT2).mono ?_
  rintro e w3 ⟨rfl, hb3⟩
  have hT3 := hT2.below hb3
  have a3 := a2.trans (hb3.mono a2.size)
  go_wp2_with fail
  refine (lives_any _ hT3).mono ?_
  rintro e w4 ⟨rfl, hb4⟩
  have hT4 := hT3.below hb4
  have a4 := a3.trans (hb4.mono a3.size)
  go_wp2_with fail
  refine (HR.out _ hT4).mono ?_
  rintro e w5 ⟨rfl, hb5⟩
  have hT5 := hT4.below hb5
  have a5 := a4.trans (hb5.mono a4.size)
  go_wp2
  go_ret
  exact ⟨rfl, a5⟩
set_option maxRecDepth 100000 in
set_option maxHeartbeats 2000000 in
theorem globMeets_11 (p q s : ByteArray) (w : World) (hT : Tab w) (hp : p.size ≤ 1000) (hq : q.size ≤ 1000) (hs : s.size ≤ 1000) (m1 : matchL p.data.toList s.data.toList = true) (m2 : matchL q.data.toList s.data.toList = false) (pl : pathL p.data.toList = true) (pq : patL q.data.toList = false) : Calls Tryd.prog 7 #[.string p, .string q, .string s] w fun e w' => e = .returned (.bool true) ∧ Below w.heap.size w w' := by
  have ep : decide (1000 < (p.size : Int)) = false := by rw [decide_eq_false_iff_not]; omega
  have eq : decide (1000 < (q.size : Int)) = false := by rw [decide_eq_false_iff_not]; omega
  have es : decide (1000 < (s.size : Int)) = false := by rw [decide_eq_false_iff_not]; omega
  have HA := fun w h0 => (match_is p s _ m1 w (by omega) (by omega) h0)
  have HP := fun w h0 => (plainP_any p w (by omega) h0)
  have HR := fun w (h0 : Tab w) => (rpath_any p w (by omega))
  rw [pl] at HP HR
  have HB := fun w h0 => (match_is q s _ m2 w (by omega) (by omega) h0)
  have HQ := fun w (h0 : Tab w) => (rpattern_any q w (by omega))
  rw [pq] at HQ
  have HQ := Lib.hid HQ
  have HA := Lib.hid HA
  have HP := Lib.hid HP
  have HR := Lib.hid HR
  have HB := Lib.hid HB
  clear m1 pl m2 pq
  go_enter Tryd.func7, Tryd.ntmps7
  go_wp2_with fail
  refine (HA.out _ hT).mono ?_
  rintro e w1 ⟨rfl, hb1⟩
  have hT1 := hT.below hb1
  have a1 := hb1
  go_wp2_with fail
  refine (HB.out _ hT1).mono ?_
  rintro e w2 ⟨rfl, hb2⟩
  have hT2 := hT1.below hb2
  have a2 := a1.trans (hb2.mono a1.size)
  go_wp2_with fail
  refine (HP.out _ hT2).mono ?_
  rintro e w3 ⟨rfl, hb3⟩
  have hT3 := hT2.below hb3
  have a3 := a2.trans (hb3.mono a2.size)
  go_wp2_with fail
  refine (lives_any _ hT3).mono ?_
  rintro e w4 ⟨rfl, hb4⟩
  have hT4 := hT3.below hb4
  have a4 := a3.trans (hb4.mono a3.size)
  go_wp2_with fail
  refine (HR.out _ hT4).mono ?_
  rintro e w5 ⟨rfl, hb5⟩
  have hT5 := hT4.below hb5
  have a5 := a4.trans (hb5.mono a4.size)
  go_wp2_with fail
  refine (HQ.out _ hT5).mono ?_
  rintro e w6 ⟨rfl, hb6⟩
  have hT6 := hT5.below hb6
  have a6 := a5.trans (hb6.mono a5.size)
  go_wp2
  go_ret
  exact ⟨rfl, a6⟩
set_option maxRecDepth 100000 in
set_option maxHeartbeats 2000000 in
theorem globMeets_12 (p q s : ByteArray) (w : World) (hT : Tab w) (hp : p.size ≤ 1000) (hq : q.size ≤ 1000) (hs : s.size ≤ 1000) (m1 : matchL p.data.toList s.data.toList = true) (m2 : matchL q.data.toList s.data.toList = false) (pl : pathL p.data.toList = true) (pq : patL q.data.toList = true) : Calls Tryd.prog 7 #[.string p, .string q, .string s] w fun e w' => e = .returned (.bool true) ∧ Below w.heap.size w w' := by
  have ep : decide (1000 < (p.size : Int)) = false := by rw [decide_eq_false_iff_not]; omega
  have eq : decide (1000 < (q.size : Int)) = false := by rw [decide_eq_false_iff_not]; omega
  have es : decide (1000 < (s.size : Int)) = false := by rw [decide_eq_false_iff_not]; omega
  have HA := fun w h0 => (match_is p s _ m1 w (by omega) (by omega) h0)
  have HP := fun w h0 => (plainP_any p w (by omega) h0)
  have HR := fun w (h0 : Tab w) => (rpath_any p w (by omega))
  rw [pl] at HP HR
  have HB := fun w h0 => (match_is q s _ m2 w (by omega) (by omega) h0)
  have HQ := fun w (h0 : Tab w) => (rpattern_any q w (by omega))
  rw [pq] at HQ
  have HQ := Lib.hid HQ
  have HV := fun w h0 => (overlap_any p q w hp hq h0)
  have HM := fun w h0 => (match_any q p w (by omega) (by omega) h0)
  rw [over_plain _ _ pl pq] at HV
  obtain ⟨r, hr⟩ : ∃ r, r = matchL q.data.toList p.data.toList := ⟨_, rfl⟩
  rw [← hr] at HV HM
  clear hr
  have HV := Lib.hid HV
  have HM := Lib.hid HM
  have n1 : (r == r) = true := by simp
  have HA := Lib.hid HA
  have HP := Lib.hid HP
  have HR := Lib.hid HR
  have HB := Lib.hid HB
  clear m1 pl m2 pq
  go_enter Tryd.func7, Tryd.ntmps7
  go_wp2_with fail
  refine (HA.out _ hT).mono ?_
  rintro e w1 ⟨rfl, hb1⟩
  have hT1 := hT.below hb1
  have a1 := hb1
  go_wp2_with fail
  refine (HB.out _ hT1).mono ?_
  rintro e w2 ⟨rfl, hb2⟩
  have hT2 := hT1.below hb2
  have a2 := a1.trans (hb2.mono a1.size)
  go_wp2_with fail
  refine (HP.out _ hT2).mono ?_
  rintro e w3 ⟨rfl, hb3⟩
  have hT3 := hT2.below hb3
  have a3 := a2.trans (hb3.mono a2.size)
  go_wp2_with fail
  refine (lives_any _ hT3).mono ?_
  rintro e w4 ⟨rfl, hb4⟩
  have hT4 := hT3.below hb4
  have a4 := a3.trans (hb4.mono a3.size)
  go_wp2_with fail
  refine (HR.out _ hT4).mono ?_
  rintro e w5 ⟨rfl, hb5⟩
  have hT5 := hT4.below hb5
  have a5 := a4.trans (hb5.mono a4.size)
  go_wp2_with fail
  refine (HQ.out _ hT5).mono ?_
  rintro e w6 ⟨rfl, hb6⟩
  have hT6 := hT5.below hb6
  have a6 := a5.trans (hb6.mono a5.size)
  go_wp2_with fail
  refine (HV.out _ hT6).mono ?_
  rintro e w7 ⟨rfl, hb7⟩
  have hT7 := hT6.below hb7
  have a7 := a6.trans (hb7.mono a6.size)
  go_wp2_with fail
  refine (HM.out _ hT7).mono ?_
  rintro e w8 ⟨rfl, hb8⟩
  have hT8 := hT7.below hb8
  have a8 := a7.trans (hb8.mono a7.size)
  go_wp2
  go_ret
  exact ⟨rfl, a8⟩
set_option maxRecDepth 100000 in
set_option maxHeartbeats 2000000 in
theorem globMeets_20 (p q s : ByteArray) (w : World) (hT : Tab w) (hp : p.size ≤ 1000) (hq : q.size ≤ 1000) (hs : s.size ≤ 1000) (m1 : matchL p.data.toList s.data.toList = true) (m2 : matchL q.data.toList s.data.toList = true) (pl : pathL p.data.toList = false) : Calls Tryd.prog 7 #[.string p, .string q, .string s] w fun e w' => e = .returned (.bool true) ∧ Below w.heap.size w w' := by
  have ep : decide (1000 < (p.size : Int)) = false := by rw [decide_eq_false_iff_not]; omega
  have eq : decide (1000 < (q.size : Int)) = false := by rw [decide_eq_false_iff_not]; omega
  have es : decide (1000 < (s.size : Int)) = false := by rw [decide_eq_false_iff_not]; omega
  have HA := fun w h0 => (match_is p s _ m1 w (by omega) (by omega) h0)
  have HP := fun w h0 => (plainP_any p w (by omega) h0)
  have HR := fun w (h0 : Tab w) => (rpath_any p w (by omega))
  rw [pl] at HP HR
  have HB := fun w h0 => (match_is q s _ m2 w (by omega) (by omega) h0)
  have HO := fun w h0 => (overlap_any p q w hp hq h0)
  rw [match_meet _ _ _ m1 m2] at HO
  have HO := Lib.hid HO
  have HA := Lib.hid HA
  have HP := Lib.hid HP
  have HR := Lib.hid HR
  have HB := Lib.hid HB
  clear m1 pl m2
  go_enter Tryd.func7, Tryd.ntmps7
  go_wp2_with fail
  refine (HA.out _ hT).mono ?_
  rintro e w1 ⟨rfl, hb1⟩
  have hT1 := hT.below hb1
  have a1 := hb1
  go_wp2_with fail
  refine (HB.out _ hT1).mono ?_
  rintro e w2 ⟨rfl, hb2⟩
  have hT2 := hT1.below hb2
  have a2 := a1.trans (hb2.mono a1.size)
  go_wp2_with fail
  refine (HP.out _ hT2).mono ?_
  rintro e w3 ⟨rfl, hb3⟩
  have hT3 := hT2.below hb3
  have a3 := a2.trans (hb3.mono a2.size)
  go_wp2_with fail
  refine (lives_any _ hT3).mono ?_
  rintro e w4 ⟨rfl, hb4⟩
  have hT4 := hT3.below hb4
  have a4 := a3.trans (hb4.mono a3.size)
  go_wp2_with fail
  refine (HO.out _ hT4).mono ?_
  rintro e w5 ⟨rfl, hb5⟩
  have hT5 := hT4.below hb5
  have a5 := a4.trans (hb5.mono a4.size)
  go_wp2_with fail
  refine (HR.out _ hT5).mono ?_
  rintro e w6 ⟨rfl, hb6⟩
  have hT6 := hT5.below hb6
  have a6 := a5.trans (hb6.mono a5.size)
  go_wp2
  go_ret
  exact ⟨rfl, a6⟩
set_option maxRecDepth 100000 in
set_option maxHeartbeats 2000000 in
theorem globMeets_21 (p q s : ByteArray) (w : World) (hT : Tab w) (hp : p.size ≤ 1000) (hq : q.size ≤ 1000) (hs : s.size ≤ 1000) (m1 : matchL p.data.toList s.data.toList = true) (m2 : matchL q.data.toList s.data.toList = true) (pl : pathL p.data.toList = true) (pq : patL q.data.toList = false) : Calls Tryd.prog 7 #[.string p, .string q, .string s] w fun e w' => e = .returned (.bool true) ∧ Below w.heap.size w w' := by
  have ep : decide (1000 < (p.size : Int)) = false := by rw [decide_eq_false_iff_not]; omega
  have eq : decide (1000 < (q.size : Int)) = false := by rw [decide_eq_false_iff_not]; omega
  have es : decide (1000 < (s.size : Int)) = false := by rw [decide_eq_false_iff_not]; omega
  have HA := fun w h0 => (match_is p s _ m1 w (by omega) (by omega) h0)
  have HP := fun w h0 => (plainP_any p w (by omega) h0)
  have HR := fun w (h0 : Tab w) => (rpath_any p w (by omega))
  rw [pl] at HP HR
  have HB := fun w h0 => (match_is q s _ m2 w (by omega) (by omega) h0)
  have HO := fun w h0 => (overlap_any p q w hp hq h0)
  rw [match_meet _ _ _ m1 m2] at HO
  have HO := Lib.hid HO
  have HQ := fun w (h0 : Tab w) => (rpattern_any q w (by omega))
  rw [pq] at HQ
  have HQ := Lib.hid HQ
  have HA := Lib.hid HA
  have HP := Lib.hid HP
  have HR := Lib.hid HR
  have HB := Lib.hid HB
  clear m1 pl m2 pq
  go_enter Tryd.func7, Tryd.ntmps7
  go_wp2_with fail
  refine (HA.out _ hT).mono ?_
  rintro e w1 ⟨rfl, hb1⟩
  have hT1 := hT.below hb1
  have a1 := hb1
  go_wp2_with fail
  refine (HB.out _ hT1).mono ?_
  rintro e w2 ⟨rfl, hb2⟩
  have hT2 := hT1.below hb2
  have a2 := a1.trans (hb2.mono a1.size)
  go_wp2_with fail
  refine (HP.out _ hT2).mono ?_
  rintro e w3 ⟨rfl, hb3⟩
  have hT3 := hT2.below hb3
  have a3 := a2.trans (hb3.mono a2.size)
  go_wp2_with fail
  refine (lives_any _ hT3).mono ?_
  rintro e w4 ⟨rfl, hb4⟩
  have hT4 := hT3.below hb4
  have a4 := a3.trans (hb4.mono a3.size)
  go_wp2_with fail
  refine (HO.out _ hT4).mono ?_
  rintro e w5 ⟨rfl, hb5⟩
  have hT5 := hT4.below hb5
  have a5 := a4.trans (hb5.mono a4.size)
  go_wp2_with fail
  refine (HR.out _ hT5).mono ?_
  rintro e w6 ⟨rfl, hb6⟩
  have hT6 := hT5.below hb6
  have a6 := a5.trans (hb6.mono a5.size)
  go_wp2_with fail
  refine (HQ.out _ hT6).mono ?_
  rintro e w7 ⟨rfl, hb7⟩
  have hT7 := hT6.below hb7
  have a7 := a6.trans (hb7.mono a6.size)
  go_wp2
  go_ret
  exact ⟨rfl, a7⟩
set_option maxRecDepth 100000 in
set_option maxHeartbeats 2000000 in
theorem globMeets_22 (p q s : ByteArray) (w : World) (hT : Tab w) (hp : p.size ≤ 1000) (hq : q.size ≤ 1000) (hs : s.size ≤ 1000) (m1 : matchL p.data.toList s.data.toList = true) (m2 : matchL q.data.toList s.data.toList = true) (pl : pathL p.data.toList = true) (pq : patL q.data.toList = true) : Calls Tryd.prog 7 #[.string p, .string q, .string s] w fun e w' => e = .returned (.bool true) ∧ Below w.heap.size w w' := by
  have ep : decide (1000 < (p.size : Int)) = false := by rw [decide_eq_false_iff_not]; omega
  have eq : decide (1000 < (q.size : Int)) = false := by rw [decide_eq_false_iff_not]; omega
  have es : decide (1000 < (s.size : Int)) = false := by rw [decide_eq_false_iff_not]; omega
  have HA := fun w h0 => (match_is p s _ m1 w (by omega) (by omega) h0)
  have HP := fun w h0 => (plainP_any p w (by omega) h0)
  have HR := fun w (h0 : Tab w) => (rpath_any p w (by omega))
  rw [pl] at HP HR
  have HB := fun w h0 => (match_is q s _ m2 w (by omega) (by omega) h0)
  have HO := fun w h0 => (overlap_any p q w hp hq h0)
  rw [match_meet _ _ _ m1 m2] at HO
  have HO := Lib.hid HO
  have HQ := fun w (h0 : Tab w) => (rpattern_any q w (by omega))
  rw [pq] at HQ
  have HQ := Lib.hid HQ
  have HV := fun w h0 => (overlap_any p q w hp hq h0)
  have HM := fun w h0 => (match_any q p w (by omega) (by omega) h0)
  rw [over_plain _ _ pl pq] at HV
  obtain ⟨r, hr⟩ : ∃ r, r = matchL q.data.toList p.data.toList := ⟨_, rfl⟩
  rw [← hr] at HV HM
  clear hr
  have HV := Lib.hid HV
  have HM := Lib.hid HM
  have n1 : (r == r) = true := by simp
  have HA := Lib.hid HA
  have HP := Lib.hid HP
  have HR := Lib.hid HR
  have HB := Lib.hid HB
  clear m1 pl m2 pq
  go_enter Tryd.func7, Tryd.ntmps7
  go_wp2_with fail
  refine (HA.out _ hT).mono ?_
  rintro e w1 ⟨rfl, hb1⟩
  have hT1 := hT.below hb1
  have a1 := hb1
  go_wp2_with fail
  refine (HB.out _ hT1).mono ?_
  rintro e w2 ⟨rfl, hb2⟩
  have hT2 := hT1.below hb2
  have a2 := a1.trans (hb2.mono a1.size)
  go_wp2_with fail
  refine (HP.out _ hT2).mono ?_
  rintro e w3 ⟨rfl, hb3⟩
  have hT3 := hT2.below hb3
  have a3 := a2.trans (hb3.mono a2.size)
  go_wp2_with fail
  refine (lives_any _ hT3).mono ?_
  rintro e w4 ⟨rfl, hb4⟩
  have hT4 := hT3.below hb4
  have a4 := a3.trans (hb4.mono a3.size)
  go_wp2_with fail
  refine (HO.out _ hT4).mono ?_
  rintro e w5 ⟨rfl, hb5⟩
  have hT5 := hT4.below hb5
  have a5 := a4.trans (hb5.mono a4.size)
  go_wp2_with fail
  refine (HR.out _ hT5).mono ?_
  rintro e w6 ⟨rfl, hb6⟩
  have hT6 := hT5.below hb6
  have a6 := a5.trans (hb6.mono a5.size)
  go_wp2_with fail
  refine (HQ.out _ hT6).mono ?_
  rintro e w7 ⟨rfl, hb7⟩
  have hT7 := hT6.below hb7
  have a7 := a6.trans (hb7.mono a6.size)
  go_wp2_with fail
  refine (HV.out _ hT7).mono ?_
  rintro e w8 ⟨rfl, hb8⟩
  have hT8 := hT7.below hb8
  have a8 := a7.trans (hb8.mono a7.size)
  go_wp2_with fail
  refine (HM.out _ hT8).mono ?_
  rintro e w9 ⟨rfl, hb9⟩
  have hT9 := hT8.below hb9
  have a9 := a8.trans (hb9.mono a8.size)
  go_wp2
  go_ret
  exact ⟨rfl, a9⟩
theorem globMeets_walk (p q s : ByteArray) (w : World) (hT : Tab w) (zp : p.size ≤ 140737488351232) (zq : q.size ≤ 140737488351232) (zs : s.size ≤ 140737488351232) : Calls Tryd.prog 7 #[.string p, .string q, .string s] w fun e w' => e = .returned (.bool true) ∧ Below w.heap.size w w' := by
  rcases (by omega : 1000 < p.size ∨ p.size ≤ 1000) with hp | hp
  · exact globMeets_long0 p q s w hT hp zp zq zs
  · rcases (by omega : 1000 < q.size ∨ q.size ≤ 1000) with hq | hq
    · exact globMeets_long1 p q s w hT hp hq zp zq zs
    · rcases (by omega : 1000 < s.size ∨ s.size ≤ 1000) with hs | hs
      · exact globMeets_long2 p q s w hT hp hq hs zp zq zs
      · cases m1 : matchL p.data.toList s.data.toList with
        | false =>
          cases pl : pathL p.data.toList with
          | false => exact globMeets_00 p q s w hT hp hq hs m1 pl
          | true =>
            cases pq : patL q.data.toList with
            | false => exact globMeets_01 p q s w hT hp hq hs m1 pl pq
            | true => exact globMeets_02 p q s w hT hp hq hs m1 pl pq
        | true =>
          cases m2 : matchL q.data.toList s.data.toList with
          | false =>
            cases pl : pathL p.data.toList with
            | false => exact globMeets_10 p q s w hT hp hq hs m1 m2 pl
            | true =>
              cases pq : patL q.data.toList with
              | false => exact globMeets_11 p q s w hT hp hq hs m1 m2 pl pq
              | true => exact globMeets_12 p q s w hT hp hq hs m1 m2 pl pq
          | true =>
            cases pl : pathL p.data.toList with
            | false => exact globMeets_20 p q s w hT hp hq hs m1 m2 pl
            | true =>
              cases pq : patL q.data.toList with
              | false => exact globMeets_21 p q s w hT hp hq hs m1 m2 pl pq
              | true => exact globMeets_22 p q s w hT hp hq hs m1 m2 pl pq
end Go.Proofs.YtodkjhbnodcbhaaDoor
