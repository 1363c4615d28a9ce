/-
  The walk of the law GlobNames.
-/
import Derived.Test.YtodkjhbnodcbhaaDoorGlobLives
import Derived.Deep.QuietTactic
import Derived.BigQuiet
namespace Go.Proofs.YtodkjhbnodcbhaaDoor
open Go.RowKit Glob
set_option linter.unusedVariables false

theorem map_data_inj : ∀ (l m : List ByteArray), l.map (·.data.toList) = m.map (·.data.toList) → l = m
  | [], [], _ => rfl
  | [], _ :: _, h => by simp at h
  | _ :: _, [], h => by simp at h
  | a :: l, b :: m, h => by
    simp only [List.map_cons, List.cons.injEq] at h
    rw [map_data_inj l m h.2]
    have : a = b := by cases a; cases b; simp only at h; congr 1; exact Array.toList_inj.1 h.1
    rw [this]
theorem below_drewN (B : Nat) (w : World) (n : Nat) : Below B w (w.drewN n) := ⟨rfl, rfl, rfl, Nat.le_refl _, fun _ _ => rfl⟩
theorem globNames_long (s : ByteArray) (w : World) (hT : Tab w) (h : 5000 < s.size) (hz : s.size ≤ 140737488351232) : Calls Tryd.prog 3 #[.string s] w fun e w' => e = .returned (.bool true) ∧ Below w.heap.size w w' := by
  have e1 : decide (5000 < (s.size : Int)) = true := by rw [decide_eq_true_iff]; omega
  go_enter Tryd.func3, Tryd.ntmps3
  go_wp2_with fail
  refine (lives_any _ hT).mono ?_
  rintro e w' ⟨rfl, hb⟩
  go_wp2
  go_ret
  exact ⟨rfl, hb⟩
set_option maxRecDepth 100000 in
set_option maxHeartbeats 2000000 in
theorem globNames_no (s : ByteArray) (w : World) (hT : Tab w) (h : s.size ≤ 5000) (hp : patL s.data.toList = false) : Calls Tryd.prog 3 #[.string s] w fun e w' => e = .returned (.bool true) ∧ Below w.heap.size w w' := by
  have e1 : decide (5000 < (s.size : Int)) = false := by rw [decide_eq_false_iff_not]; omega
  have HA := fun w h => Lib.hid (path_any s w (by omega) h)
  have HB := fun w (h : Tab w) => Lib.hid (rpath_any s w (by omega))
  have HC := fun w h => Lib.hid (pattern_any s w (by omega) h)
  have HD := fun w (h : Tab w) => Lib.hid (rpattern_any s w (by omega))
  have HE := fun w => Lib.hid (prefix_any s w (by omega))
  have HF := fun w => Lib.hid (rprefix_any s w (by omega))
  have HS := fun w h => Lib.hid (gsplit_no s w (by omega) h hp)
  have HR := fun w => Lib.hid (rsplit_any s w (by omega))
  rw [hp] at HC HD
  clear hp
  obtain ⟨r1, hr1⟩ : ∃ r, r = pathL s.data.toList := ⟨_, rfl⟩
  obtain ⟨r2, hr2⟩ : ∃ r, r = prefixL s.data.toList := ⟨_, rfl⟩
  rw [← hr1] at HA HB
  rw [← hr2] at HE HF
  clear hr1 hr2
  have n1 : (r1 != r1) = false := by simp
  have n2 : (r2 != r2) = false := by simp
  go_enter Tryd.func3, Tryd.ntmps3
  go_wp2_with fail
  refine ((HS _ hT).out).mono ?_
  rintro e w1 ⟨rfl, hb1⟩
  have hT1 := hT.below hb1
  have a1 := hb1
  go_wp2_with fail
  refine (lives_any _ hT1).mono ?_
  rintro e w2 ⟨rfl, hb2⟩
  have hT2 := hT1.below hb2
  have a2 := a1.trans (hb2.mono a1.size)
  go_wp2_with fail
  refine ((HA _ hT2).out).mono ?_
  rintro e w3 ⟨rfl, hb3⟩
  have hT3 := hT2.below hb3
  have a3 := a2.trans (hb3.mono a2.size)
  go_wp2_with fail
  refine ((HB _ hT3).out).mono ?_
  rintro e w4 ⟨rfl, hb4⟩
  have hT4 := hT3.below hb4
  have a4 := a3.trans (hb4.mono a3.size)
  go_wp2_with fail
  refine ((HC _ hT4).out).mono ?_
  rintro e w5 ⟨rfl, hb5⟩
  have hT5 := hT4.below hb5
  have a5 := a4.trans (hb5.mono a4.size)
  go_wp2_with fail
  refine ((HD _ hT5).out).mono ?_
  rintro e w6 ⟨rfl, hb6⟩
  have hT6 := hT5.below hb6
  have a6 := a5.trans (hb6.mono a5.size)
  go_wp2_with fail
  refine ((HE _).out).mono ?_
  rintro e w7 ⟨rfl, hb7⟩
  have hT7 := hT6.below hb7
  have a7 := a6.trans (hb7.mono a6.size)
  go_wp2_with fail
  refine ((HF _).out).mono ?_
  rintro e w8 ⟨rfl, rfl⟩
  go_wp2_with fail
  refine ((HD _ hT7).out).mono ?_
  rintro e w8 ⟨rfl, hb8⟩
  have hT8 := hT7.below hb8
  have a8 := a7.trans (hb8.mono a7.size)
  go_wp2
  go_ret
  exact ⟨rfl, a8⟩
set_option maxRecDepth 100000 in
set_option maxHeartbeats 2000000 in
theorem globNames_yes (s : ByteArray) (w : World) (hT : Tab w) (h : s.size ≤ 5000) (hp : patL s.data.toList = true) : Calls Tryd.prog 3 #[.string s] w fun e w' => e = .returned (.bool true) ∧ Below w.heap.size w w' := by
  have e1 : decide (5000 < (s.size : Int)) = false := by rw [decide_eq_false_iff_not]; omega
  have HA := fun w h => Lib.hid (path_any s w (by omega) h)
  have HB := fun w (h : Tab w) => Lib.hid (rpath_any s w (by omega))
  have HC := fun w h => Lib.hid (pattern_any s w (by omega) h)
  have HD := fun w (h : Tab w) => Lib.hid (rpattern_any s w (by omega))
  have HE := fun w => Lib.hid (prefix_any s w (by omega))
  have HF := fun w => Lib.hid (rprefix_any s w (by omega))
  have HS := fun w h => Lib.hid (gsplit_yes s w (by omega) h hp)
  have HR := fun w => Lib.hid (rsplit_any s w (by omega))
  rw [hp] at HC HD
  clear hp
  obtain ⟨r1, hr1⟩ : ∃ r, r = pathL s.data.toList := ⟨_, rfl⟩
  obtain ⟨r2, hr2⟩ : ∃ r, r = prefixL s.data.toList := ⟨_, rfl⟩
  rw [← hr1] at HA HB
  rw [← hr2] at HE HF
  clear hr1 hr2
  have n1 : (r1 != r1) = false := by simp
  have n2 : (r2 != r2) = false := by simp
  go_enter Tryd.func3, Tryd.ntmps3
  go_wp2_with fail
  refine ((HS _ hT).out).mono ?_
  rintro e w1 ⟨A, l, hl, rfl, hA1, hb1⟩
  have hT1 := hT.below hb1
  have a1 := hb1
  have HL := Lib.hid hl
  clear hl
  go_wp2_with fail
  refine (lives_any _ hT1).mono ?_
  rintro e w2 ⟨rfl, hb2⟩
  have hT2 := hT1.below hb2
  have a2 := a1.trans (hb2.mono a1.size)
  go_wp2_with fail
  refine ((HA _ hT2).out).mono ?_
  rintro e w3 ⟨rfl, hb3⟩
  have hT3 := hT2.below hb3
  have a3 := a2.trans (hb3.mono a2.size)
  go_wp2_with fail
  refine ((HB _ hT3).out).mono ?_
  rintro e w4 ⟨rfl, hb4⟩
  have hT4 := hT3.below hb4
  have a4 := a3.trans (hb4.mono a3.size)
  go_wp2_with fail
  refine ((HC _ hT4).out).mono ?_
  rintro e w5 ⟨rfl, hb5⟩
  have hT5 := hT4.below hb5
  have a5 := a4.trans (hb5.mono a4.size)
  go_wp2_with fail
  refine ((HD _ hT5).out).mono ?_
  rintro e w6 ⟨rfl, hb6⟩
  have hT6 := hT5.below hb6
  have a6 := a5.trans (hb6.mono a5.size)
  go_wp2_with fail
  refine ((HE _).out).mono ?_
  rintro e w7 ⟨rfl, hb7⟩
  have hT7 := hT6.below hb7
  have a7 := a6.trans (hb7.mono a6.size)
  go_wp2_with fail
  refine ((HF _).out).mono ?_
  rintro e w8 ⟨rfl, rfl⟩
  go_wp2_with fail
  refine ((HD _ hT7).out).mono ?_
  rintro e w8 ⟨rfl, hb8⟩
  have hT8 := hT7.below hb8
  have a8 := a7.trans (hb8.mono a7.size)
  go_wp2_with fail
  refine ((HR _).out).mono ?_
  rintro e w9 ⟨B, c, m, hm, rfl, hB9, hb9⟩
  have hT9 := hT8.below hb9
  have a9 := a8.trans (hb9.mono a8.size)
  obtain rfl : l = m := map_data_inj _ _ (HL.out.trans hm.symm)
  have hA9 : SS w9 A l := hA1.below ((((((((hb2).trans (hb3.mono (hb2).size)).trans (hb4.mono ((hb2).trans (hb3.mono (hb2).size)).size)).trans (hb5.mono (((hb2).trans (hb3.mono (hb2).size)).trans (hb4.mono ((hb2).trans (hb3.mono (hb2).size)).size)).size)).trans (hb6.mono ((((hb2).trans (hb3.mono (hb2).size)).trans (hb4.mono ((hb2).trans (hb3.mono (hb2).size)).size)).trans (hb5.mono (((hb2).trans (hb3.mono (hb2).size)).trans (hb4.mono ((hb2).trans (hb3.mono (hb2).size)).size)).size)).size)).trans (hb7.mono (((((hb2).trans (hb3.mono (hb2).size)).trans (hb4.mono ((hb2).trans (hb3.mono (hb2).size)).size)).trans (hb5.mono (((hb2).trans (hb3.mono (hb2).size)).trans (hb4.mono ((hb2).trans (hb3.mono (hb2).size)).size)).size)).trans (hb6.mono ((((hb2).trans (hb3.mono (hb2).size)).trans (hb4.mono ((hb2).trans (hb3.mono (hb2).size)).size)).trans (hb5.mono (((hb2).trans (hb3.mono (hb2).size)).trans (hb4.mono ((hb2).trans (hb3.mono (hb2).size)).size)).size)).size)).size)).trans (hb8.mono ((((((hb2).trans (hb3.mono (hb2).size)).trans (hb4.mono ((hb2).trans (hb3.mono (hb2).size)).size)).trans (hb5.mono (((hb2).trans (hb3.mono (hb2).size)).trans (hb4.mono ((hb2).trans (hb3.mono (hb2).size)).size)).size)).trans (hb6.mono ((((hb2).trans (hb3.mono (hb2).size)).trans (hb4.mono ((hb2).trans (hb3.mono (hb2).size)).size)).trans (hb5.mono (((hb2).trans (hb3.mono (hb2).size)).trans (hb4.mono ((hb2).trans (hb3.mono (hb2).size)).size)).size)).size)).trans (hb7.mono (((((hb2).trans (hb3.mono (hb2).size)).trans (hb4.mono ((hb2).trans (hb3.mono (hb2).size)).size)).trans (hb5.mono (((hb2).trans (hb3.mono (hb2).size)).trans (hb4.mono ((hb2).trans (hb3.mono (hb2).size)).size)).size)).trans (hb6.mono ((((hb2).trans (hb3.mono (hb2).size)).trans (hb4.mono ((hb2).trans (hb3.mono (hb2).size)).size)).trans (hb5.mono (((hb2).trans (hb3.mono (hb2).size)).trans (hb4.mono ((hb2).trans (hb3.mono (hb2).size)).size)).size)).size)).size)).size)).trans (hb9.mono (((((((hb2).trans (hb3.mono (hb2).size)).trans (hb4.mono ((hb2).trans (hb3.mono (hb2).size)).size)).trans (hb5.mono (((hb2).trans (hb3.mono (hb2).size)).trans (hb4.mono ((hb2).trans (hb3.mono (hb2).size)).size)).size)).trans (hb6.mono ((((hb2).trans (hb3.mono (hb2).size)).trans (hb4.mono ((hb2).trans (hb3.mono (hb2).size)).size)).trans (hb5.mono (((hb2).trans (hb3.mono (hb2).size)).trans (hb4.mono ((hb2).trans (hb3.mono (hb2).size)).size)).size)).size)).trans (hb7.mono (((((hb2).trans (hb3.mono (hb2).size)).trans (hb4.mono ((hb2).trans (hb3.mono (hb2).size)).size)).trans (hb5.mono (((hb2).trans (hb3.mono (hb2).size)).trans (hb4.mono ((hb2).trans (hb3.mono (hb2).size)).size)).size)).trans (hb6.mono ((((hb2).trans (hb3.mono (hb2).size)).trans (hb4.mono ((hb2).trans (hb3.mono (hb2).size)).size)).trans (hb5.mono (((hb2).trans (hb3.mono (hb2).size)).trans (hb4.mono ((hb2).trans (hb3.mono (hb2).size)).size)).size)).size)).size)).trans (hb8.mono ((((((hb2).trans (hb3.mono (hb2).size)).trans (hb4.mono ((hb2).trans (hb3.mono (hb2).size)).size)).trans (hb5.mono (((hb2).trans (hb3.mono (hb2).size)).trans (hb4.mono ((hb2).trans (hb3.mono (hb2).size)).size)).size)).trans (hb6.mono ((((hb2).trans (hb3.mono (hb2).size)).trans (hb4.mono ((hb2).trans (hb3.mono (hb2).size)).size)).trans (hb5.mono (((hb2).trans (hb3.mono (hb2).size)).trans (hb4.mono ((hb2).trans (hb3.mono (hb2).size)).size)).size)).size)).trans (hb7.mono (((((hb2).trans (hb3.mono (hb2).size)).trans (hb4.mono ((hb2).trans (hb3.mono (hb2).size)).size)).trans (hb5.mono (((hb2).trans (hb3.mono (hb2).size)).trans (hb4.mono ((hb2).trans (hb3.mono (hb2).size)).size)).size)).trans (hb6.mono ((((hb2).trans (hb3.mono (hb2).size)).trans (hb4.mono ((hb2).trans (hb3.mono (hb2).size)).size)).trans (hb5.mono (((hb2).trans (hb3.mono (hb2).size)).trans (hb4.mono ((hb2).trans (hb3.mono (hb2).size)).size)).size)).size)).size)).size)).size))
  clear hm hA1
  have hll : l.length ≤ 100001 := (seg_sizes (by omega) HL.out).1
  obtain ⟨n, hn⟩ : ∃ n, n = l.length := ⟨_, rfl⟩
  rw [← hn] at hll ⊢
  have HN := Lib.hid hn
  clear hn
  go_wp2
  go_loopw [5] (fun i wr => ∃ k : Nat, k ≤ n ∧ i = .int .i64 k ∧ ∃ m, wr = w9.drewN m) (fun i _ => n - (intOf i).toNat)
  case atStart => exact ⟨0, Nat.zero_le _, rfl, 0, rfl⟩
  case round =>
    obtain ⟨k, hk, rfl, q, rfl⟩ := hrel
    rcases (by omega : k < n ∨ k = n) with hlt | heq
    · have hkl : k < l.length := by rw [← HN.out]; exact hlt
      obtain ⟨ad, rfl, _, hc⟩ := hA9.at_ hkl
      obtain ⟨bd, rfl, _, hd⟩ := hB9.at_ hkl
      clear hA9 hB9
      have hki : (k : Int) < (n : Int) := by omega
      have hk0 : (0 : Int) ≤ (k : Int) := by omega
      obtain ⟨x, hx⟩ : ∃ x, x = l[k] := ⟨_, rfl⟩
      rw [← hx] at hc hd
      clear hx
      have hne : (x.toList != x.toList) = false := by simp
      go_wp2
      go_quiet (fail)
      go_wp2
      go_roundw
      case rel => exact ⟨k + 1, by omega, by go_num, _, by first | rfl | rw [World.drewN_drewN]⟩
      case measure => simp [intOf]; omega
    · have hki : ¬ (k : Int) < (n : Int) := by omega
      clear heq hA9 hB9
      go_wp2
      go_ret
      exact ⟨rfl, Below.trans a9 (below_drewN _ _ _)⟩
theorem globNames_walk (s : ByteArray) (w : World) (hT : Tab w) (hz : s.size ≤ 140737488351232) : Calls Tryd.prog 3 #[.string s] w fun e w' => e = .returned (.bool true) ∧ Below w.heap.size w w' := by
  rcases (by omega : 5000 < s.size ∨ s.size ≤ 5000) with h | h
  · exact globNames_long s w hT h hz
  · cases hp : patL s.data.toList with
    | false => exact globNames_no s w hT h hp
    | true => exact globNames_yes s w hT h hp
end Go.Proofs.YtodkjhbnodcbhaaDoor
