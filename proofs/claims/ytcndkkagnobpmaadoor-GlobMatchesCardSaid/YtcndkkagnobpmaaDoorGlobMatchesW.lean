/-
  The walk of the law GlobMatches.
-/
import Derived.Test.YtcndkkagnobpmaaDoorGlobUnderW
namespace Go.Proofs.YtcndkkagnobpmaaDoor
open Go.RowKit Glob
set_option linter.unusedVariables false

theorem idxS_snoc (p : ByteArray → Bool) (l : List ByteArray) (x : ByteArray) : idxS p (l ++ [x]) = if idxS p l < 0 then (if p x = true then (l.length : Int) else -1) else idxS p l := by
  by_cases h : l.findIdx p < l.length
  · have e1 : (l ++ [x]).findIdx p = l.findIdx p := by rw [List.findIdx_append, if_pos h]
    have e2 : idxS p l = ((l.findIdx p : Nat) : Int) := if_pos h
    rw [e2, if_neg (by omega)]
    unfold idxS
    rw [e1, if_pos (by rw [List.length_append]; omega)]
  · have e1 : (l ++ [x]).findIdx p = [x].findIdx p + l.length := by rw [List.findIdx_append, if_neg h]
    have e2 : idxS p l = -1 := if_neg h
    rw [e2, if_pos (by omega)]
    unfold idxS
    rw [e1]
    cases hx : p x with
    | true =>
      have e3 : [x].findIdx p = 0 := by simp [List.findIdx_cons, hx]
      rw [e3, if_pos (by rw [List.length_append]; simp)]; simp
    | false =>
      have e3 : [x].findIdx p = 1 := by simp [List.findIdx_cons, hx]
      rw [e3, if_neg (by rw [List.length_append]; simp; omega)]; simp
theorem match_as (p s : ByteArray) (b : Bool) (hb : matchL p.data.toList s.data.toList = b) (w : World) (hp : p.size ≤ 100000) (hs : s.size ≤ 100000) (hT : Tab w) : Calls Tryd.prog 24 #[.string p, .string s] w fun e w' => e = .returned (.bool b) ∧ Below w.heap.size w w' := by
  rw [← hb]; exact match_any p s w hp hs hT
theorem rmatch_as (p s : ByteArray) (b : Bool) (hb : matchL p.data.toList s.data.toList = b) (w : World) (hp : p.size ≤ 100000) (hs : s.size ≤ 100000) : Calls Tryd.prog 23 #[.string p, .string s] w fun e w' => e = .returned (.bool b) ∧ Below w.heap.size w w' := by
  rw [← hb]; exact rmatch_any p s w hp hs
set_option maxRecDepth 100000 in
set_option maxHeartbeats 4000000 in
theorem globMatches_walk (p s : ByteArray) (A : Option Addr) (n c : Nat) (l : List ByteArray) (W : World) (hT : Tab W) (hK : TabK W) (zp : p.size ≤ 140737488351232) (zs : s.size ≤ 140737488351232) (hl : SS W A l) (hn : l.length = n) (hnc : n ≤ c) (hc : c ≤ 9223372036854775807) (hz : ∀ a ∈ l, a.size ≤ 9223372036854775807) :
    Calls Tryd.prog 7 #[.string p, .string s, .slice A n c] W fun e w' => e = .returned (.bool true) ∧ Below W.heap.size W w' := by
  by_cases hp : 5000 < p.size
  · have e1 : decide (5000 < (p.size : Int)) = true := by rw [decide_eq_true_iff]; omega
    clear hl hn hz
    go_enter Tryd.func7, Tryd.ntmps7
    go_wp2_with fail
    refine (lives_any _ hT).mono ?_
    rintro e w1 ⟨rfl, hb⟩
    go_wp2
    go_ret
    exact ⟨rfl, hb⟩
  have e1 : decide (5000 < (p.size : Int)) = false := by rw [decide_eq_false_iff_not]; omega
  by_cases hs : 5000 < s.size
  · have e2 : decide (5000 < (s.size : Int)) = true := by rw [decide_eq_true_iff]; omega
    clear hl hn hz
    go_enter Tryd.func7, Tryd.ntmps7
    go_wp2_with fail
    refine (lives_any _ hT).mono ?_
    rintro e w1 ⟨rfl, hb⟩
    go_wp2
    go_ret
    exact ⟨rfl, hb⟩
  have e2 : decide (5000 < (s.size : Int)) = false := by rw [decide_eq_false_iff_not]; omega
  by_cases hnn : 100 < n
  · have e3 : decide (100 < (n : Int)) = true := by rw [decide_eq_true_iff]; omega
    clear hl hn hz
    go_enter Tryd.func7, Tryd.ntmps7
    go_wp2_with fail
    refine (lives_any _ hT).mono ?_
    rintro e w1 ⟨rfl, hb⟩
    go_wp2
    go_ret
    exact ⟨rfl, hb⟩
  have e3 : decide (100 < (n : Int)) = false := by rw [decide_eq_false_iff_not]; omega
  have HL := Lib.hid hl
  have HN := Lib.hid hn
  have HZ := Lib.hid hz
  obtain ⟨m, hm⟩ : ∃ m : ByteArray → Bool, m = fun x => matchL x.data.toList s.data.toList := ⟨_, rfl⟩
  have HM := Lib.hid hm
  clear hl hn hz hm
  go_enter Tryd.func7, Tryd.ntmps7
  go_wp2
  go_loopw [7, 8] (fun v i wr => ∃ k : Nat, k ≤ n ∧ i = .int .i64 k ∧ v = .int .i64 (idxS m (l.take k)) ∧ Hid (∀ a ∈ l.take k, a.size ≤ 5000) ∧ Hid (Below W.heap.size W wr)) (fun _ i _ => n - (intOf i).toNat)
  case atStart => exact ⟨0, Nat.zero_le _, rfl, rfl, Lib.hid (by simp), Lib.hid (Below.refl _ _)⟩
  case round =>
    obtain ⟨k, hk, rfl, rfl, HK, HB⟩ := hrel
    rcases (by omega : k < n ∨ k = n) with hlt | heq
    · have hkl : k < l.length := by rw [HN.out]; exact hlt
      obtain ⟨ad, rfl, _, hcell⟩ := (HL.out.below HB.out).at_ hkl
      have hki : decide ((k : Int) < (n : Int)) = true := by rw [decide_eq_true_iff]; omega
      have hk1 : (k : Int) < (n : Int) := by omega
      have hk0 : (0 : Int) ≤ (k : Int) := by omega
      have hts : l.take (k + 1) = l.take k ++ [l[k]] := List.take_succ_eq_append_getElem hkl
      have hsn := idxS_snoc m (l.take k) l[k]
      rw [← hts, List.length_take, Nat.min_eq_left (by omega)] at hsn
      obtain ⟨x, hx⟩ : ∃ x, x = l[k] := ⟨_, rfl⟩
      rw [← hx] at hcell hsn
      by_cases hxs : 5000 < x.size
      · have e4 : decide (5000 < (x.size : Int)) = true := by rw [decide_eq_true_iff]; omega
        clear hsn hx hts
        go_wp2_with fail
        refine (lives_any _ (hT.below HB.out)).mono ?_
        rintro e w1 ⟨rfl, hb⟩
        go_wp2
        go_ret
        exact ⟨rfl, HB.out.trans (hb.mono HB.out.size)⟩
      · have e4 : decide (5000 < (x.size : Int)) = false := by rw [decide_eq_false_iff_not]; omega
        have HK2 : Hid (∀ a ∈ l.take (k + 1), a.size ≤ 5000) := by
          intro a ha
          rw [hts] at ha
          rcases List.mem_append.1 ha with h | h
          · exact HK.out a h
          · rw [List.mem_singleton] at h; rw [h, ← hx]; omega
        obtain ⟨q, hq⟩ : ∃ q, q = idxS m (l.take k) := ⟨_, rfl⟩
        rw [← hq] at hsn ⊢
        have hqge : -1 ≤ q := by rw [hq]; exact idxS_ge _ _
        clear HK hq hx hts
        by_cases hneg : q < 0
        · have e5 : decide (q < 0) = true := by rw [decide_eq_true_iff]; exact hneg
          rw [if_pos hneg] at hsn
          have HR := fun w => Lib.hid (rmatch_any x s w (by omega) (by omega))
          obtain ⟨b, hb⟩ : ∃ b, b = matchL x.data.toList s.data.toList := ⟨_, rfl⟩
          have hmx : m x = b := by rw [HM.out, hb]
          rw [← hb] at HR
          rw [hmx] at hsn
          clear hb hmx
          cases b with
          | true =>
            rw [if_pos rfl] at hsn
            have HSN := Lib.hid hsn
            clear hsn
            go_wp2_with fail
            refine (HR _).out.mono ?_
            rintro e w1 ⟨rfl, hb⟩
            have HB2 := Lib.hid (HB.out.trans (hb.mono HB.out.size))
            clear hb HB
            go_wp2
            go_roundw
            case rel => exact ⟨k + 1, by omega, by go_num, by rw [HSN.out], HK2, HB2⟩
            case measure => simp [intOf]; omega
          | false =>
            have HSN : Hid (idxS m (l.take (k + 1)) = -1) := by show _ = _; rw [hsn]; rfl
            have hq1 : Hid (q = -1) := by
              show _ = _
              omega
            clear hsn
            go_wp2_with fail
            refine (HR _).out.mono ?_
            rintro e w1 ⟨rfl, hb⟩
            have HB2 := Lib.hid (HB.out.trans (hb.mono HB.out.size))
            clear hb HB
            go_wp2
            go_roundw
            case rel => exact ⟨k + 1, by omega, by go_num, by rw [HSN.out, hq1.out], HK2, HB2⟩
            case measure => simp [intOf]; omega
        · have e5 : decide (q < 0) = false := by rw [decide_eq_false_iff_not]; exact hneg
          rw [if_neg hneg] at hsn
          have HSN := Lib.hid hsn
          clear hsn hneg
          go_wp2
          go_roundw
          case rel => exact ⟨k + 1, by omega, by go_num, by rw [HSN.out], HK2, HB⟩
          case measure => simp [intOf]; omega
    · subst heq
      have hki : decide ((k : Int) < (k : Int)) = false := by rw [decide_eq_false_iff_not]; omega
      have hall : l.take k = l := List.take_of_length_le (by rw [HN.out]; omega)
      rw [hall] at HK ⊢
      have HA := fun w hl hT => Lib.hid (anyG_any A k c l s w hl HN.out (by omega) (fun a ha => by have := HK.out a ha; omega) (by omega) hT)
      have HAM : Hid (idxS (fun p => matchL p.data.toList s.data.toList) l = idxS m l) := by show _ = _; rw [HM.out]
      rw [HAM.out] at HA
      obtain ⟨q, hq⟩ : ∃ q, q = idxS m l := ⟨_, rfl⟩
      rw [← hq] at HA ⊢
      obtain ⟨b, hb⟩ : ∃ b, b = matchL p.data.toList s.data.toList := ⟨_, rfl⟩
      obtain ⟨u, hu⟩ : ∃ u, u = underL p.data.toList s.data.toList := ⟨_, rfl⟩
      have H1 := fun w hT => Lib.hid (match_as p s b hb.symm w (by omega) (by omega) hT)
      have H2 := fun w => Lib.hid (rmatch_as p s b hb.symm w (by omega) (by omega))
      have H3 := fun w hT hK => Lib.hid (under_as p s u hu.symm w (by omega) (by omega) hT hK)
      have H4 := fun w => Lib.hid (runder_as p s u hu.symm w (by omega) (by omega))
      have a0 := HB.out
      clear hq hb hu hall HAM
      go_wp2_with fail
      refine (lives_any _ (hT.below a0)).mono ?_
      rintro e w1 ⟨rfl, hb1⟩
      have a1 := a0.trans (hb1.mono a0.size)
      go_wp2_with fail
      refine (H1 _ (hT.below a1)).out.mono ?_
      rintro e w2 ⟨rfl, hb2⟩
      have a2 := a1.trans (hb2.mono a1.size)
      go_wp2_with fail
      refine (H2 _).out.mono ?_
      rintro e w3 ⟨rfl, hb3⟩
      have a3 := a2.trans (hb3.mono a2.size)
      have bb : (b == b) = true := by simp
      go_wp2_with fail
      refine (H3 _ (hT.below a3) (hK.below a3)).out.mono ?_
      rintro e w4 ⟨rfl, hb4⟩
      have a4 := a3.trans (hb4.mono a3.size)
      go_wp2_with fail
      refine (H4 _).out.mono ?_
      rintro e w5 ⟨rfl, hb5⟩
      have a5 := a4.trans (hb5.mono a4.size)
      go_wp2_with fail
      refine (HA _ (HL.out.below a5) (hT.below a5)).out.mono ?_
      rintro e w6 ⟨rfl, hb6⟩
      have a6 := a5.trans (hb6.mono a5.size)
      go_wp2
      go_ret
      exact ⟨by simp, a6⟩
end Go.Proofs.YtcndkkagnobpmaaDoor
