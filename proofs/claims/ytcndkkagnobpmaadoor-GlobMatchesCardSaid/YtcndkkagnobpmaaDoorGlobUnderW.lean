/-
  The walks of the laws GlobUnder and GlobMatches.
-/
import Derived.Test.YtcndkkagnobpmaaDoorGlobR5
import Derived.Test.YtcndkkagnobpmaaDoorGlobLives
namespace Go.Proofs.YtcndkkagnobpmaaDoor
open Go.RowKit Glob
set_option linter.unusedVariables false

theorem data_len (s : ByteArray) : s.data.toList.length = s.size := by cases s; simp [ByteArray.size]
theorem prefixL_take (p : List UInt8) (n : Nat) (h0 : 1 ≤ n) (h : prefixL p = true) : prefixL (p.take n) = true := by
  unfold prefixL at h ⊢
  simp only [Bool.and_eq_true, decide_eq_true_eq, Bool.not_eq_true'] at h ⊢
  obtain ⟨h1, h2, h3⟩ := h
  refine ⟨?_, by rw [List.length_take]; omega, ?_⟩
  · cases p with
    | nil => simp at h1
    | cons a p => cases n with
      | zero => omega
      | succ n => rfl
  · rw [List.all_eq_true] at h3 ⊢
    exact fun x hx => h3 x (List.mem_of_mem_take hx)
theorem underL_take (p s : List UInt8) (n : Nat) (h0 : 1 ≤ n) (h : underL p s = true) : underL (p.take n) s = true := by
  unfold underL at h ⊢
  simp only [Bool.and_eq_true] at h ⊢
  refine ⟨prefixL_take p n h0 h.1, h.2.1, ?_⟩
  have h3 := h.2.2
  rw [List.isPrefixOf_iff_prefix] at h3 ⊢
  exact (List.take_prefix n p).trans h3
theorem under_as (p s : ByteArray) (b : Bool) (hb : underL p.data.toList s.data.toList = b) (w : World) (hp : p.size ≤ 100000) (hs : s.size ≤ 100000) (hT : Tab w) (hK : TabK w) : Calls Tryd.prog 25 #[.string p, .string s] w fun e w' => e = .returned (.bool b) ∧ Below w.heap.size w w' := by
  rw [← hb]; exact under_any p s w hp hs hT hK
theorem runder_as (p s : ByteArray) (b : Bool) (hb : underL p.data.toList s.data.toList = b) (w : World) (hp : p.size ≤ 100000) (hs : s.size ≤ 100000) : Calls Tryd.prog 26 #[.string p, .string s] w fun e w' => e = .returned (.bool b) ∧ Below w.heap.size w w' := by
  rw [← hb]; exact runder_any p s w hp hs
set_option maxRecDepth 100000 in
set_option maxHeartbeats 2000000 in
theorem globUnder_walk (p s : ByteArray) (n : Int) (W : World) (hT : Tab W) (hK : TabK W) (zp : p.size ≤ 140737488351232) (zs : s.size ≤ 140737488351232) : Calls Tryd.prog 8 #[.string p, .string s, .int .i64 n] W fun e w' => e = .returned (.bool true) ∧ Below W.heap.size W w' := by
  by_cases hp : 100 < p.size
  · have e1 : decide (100 < (p.size : Int)) = true := by rw [decide_eq_true_iff]; omega
    go_enter Tryd.func8, Tryd.ntmps8
    go_wp2_with fail
    refine (lives_any _ hT).mono ?_
    rintro e w1 ⟨rfl, hb⟩
    go_wp2
    go_ret
    exact ⟨rfl, hb⟩
  have e1 : decide (100 < (p.size : Int)) = false := by rw [decide_eq_false_iff_not]; omega
  by_cases hs : 1000 < s.size
  · have e2 : decide (1000 < (s.size : Int)) = true := by rw [decide_eq_true_iff]; omega
    go_enter Tryd.func8, Tryd.ntmps8
    go_wp2_with fail
    refine (lives_any _ hT).mono ?_
    rintro e w1 ⟨rfl, hb⟩
    go_wp2
    go_ret
    exact ⟨rfl, hb⟩
  have e2 : decide (1000 < (s.size : Int)) = false := by rw [decide_eq_false_iff_not]; omega
  by_cases hn : n < 1
  · have e3 : decide (n < 1) = true := by rw [decide_eq_true_iff]; omega
    go_enter Tryd.func8, Tryd.ntmps8
    go_wp2_with fail
    refine (lives_any _ hT).mono ?_
    rintro e w1 ⟨rfl, hb⟩
    go_wp2
    go_ret
    exact ⟨rfl, hb⟩
  have e3 : decide (n < 1) = false := by rw [decide_eq_false_iff_not]; omega
  by_cases hnp : (p.size : Int) < n
  · have e4 : decide ((p.size : Int) < n) = true := by rw [decide_eq_true_iff]; omega
    go_enter Tryd.func8, Tryd.ntmps8
    go_wp2_with fail
    refine (lives_any _ hT).mono ?_
    rintro e w1 ⟨rfl, hb⟩
    go_wp2
    go_ret
    exact ⟨rfl, hb⟩
  have e4 : decide ((p.size : Int) < n) = false := by rw [decide_eq_false_iff_not]; omega
  obtain ⟨k, rfl⟩ := Int.eq_ofNat_of_zero_le (show 0 ≤ n by omega)
  have hk1 : 1 ≤ k := by omega
  have hkp : k ≤ p.size := by omega
  have hk0 : (0 : Int) ≤ (k : Int) := by omega
  have hk2 : (k : Int) ≤ (p.size : Int) := by omega
  have e4N : decide (p.size < k) = false := by rw [decide_eq_false_iff_not]; omega
  have hT0 := hT
  cases hu : underL p.data.toList s.data.toList with
  | false =>
    have HU := fun w hT hK => Lib.hid (under_as p s false hu w (by omega) (by omega) hT hK)
    have HR := fun w => Lib.hid (runder_as p s false hu w (by omega) (by omega))
    clear hu hn hnp hp hs
    go_enter Tryd.func8, Tryd.ntmps8
    go_wp2_with fail
    refine (lives_any _ hT).mono ?_
    rintro e w1 ⟨rfl, hb1⟩
    have a1 := hb1
    go_wp2_with fail
    refine (HU _ (hT.below a1) (hK.below a1)).out.mono ?_
    rintro e w2 ⟨rfl, hb2⟩
    have a2 := a1.trans (hb2.mono a1.size)
    go_wp2_with fail
    refine (HU _ (hT.below a2) (hK.below a2)).out.mono ?_
    rintro e w3 ⟨rfl, hb3⟩
    have a3 := a2.trans (hb3.mono a2.size)
    go_wp2_with fail
    refine (HR _).out.mono ?_
    rintro e w4 ⟨rfl, hb4⟩
    have a4 := a3.trans (hb4.mono a3.size)
    go_wp2
    go_ret
    exact ⟨rfl, a4⟩
  | true =>
    have HU := fun w hT hK => Lib.hid (under_as p s true hu w (by omega) (by omega) hT hK)
    have HR := fun w => Lib.hid (runder_as p s true hu w (by omega) (by omega))
    have hx : (p.extract 0 k).data.toList = p.data.toList.take k := by rw [Lib.extract_data]; simp
    have hxs : (p.extract 0 k).size ≤ 100000 := by
      have := data_len (p.extract 0 k)
      rw [hx, List.length_take] at this
      omega
    have HV := fun w hT hK => Lib.hid (under_as (p.extract 0 k) s true (by rw [hx]; exact underL_take _ _ _ hk1 hu) w hxs (by omega) hT hK)
    clear hu hn hnp hp hs hx
    go_enter Tryd.func8, Tryd.ntmps8
    go_wp2_with fail
    refine (lives_any _ hT).mono ?_
    rintro e w1 ⟨rfl, hb1⟩
    have a1 := hb1
    go_wp2_with fail
    refine (HU _ (hT.below a1) (hK.below a1)).out.mono ?_
    rintro e w2 ⟨rfl, hb2⟩
    have a2 := a1.trans (hb2.mono a1.size)
    go_wp2_with fail
    refine (HV _ (hT.below a2) (hK.below a2)).out.mono ?_
    rintro e w3 ⟨rfl, hb3⟩
    have a3 := a2.trans (hb3.mono a2.size)
    go_wp2_with fail
    refine (HU _ (hT.below a3) (hK.below a3)).out.mono ?_
    rintro e w4 ⟨rfl, hb4⟩
    have a4 := a3.trans (hb4.mono a3.size)
    go_wp2_with fail
    refine (HR _).out.mono ?_
    rintro e w5 ⟨rfl, hb5⟩
    have a5 := a4.trans (hb5.mono a4.size)
    go_wp2
    go_ret
    exact ⟨rfl, a5⟩
end Go.Proofs.YtcndkkagnobpmaaDoor
