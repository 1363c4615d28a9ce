/-
  glob's pieces: next.
-/
import Derived.Test.YtcndkkagnobpmaaDoorGlobW2
namespace Go.Proofs.YtcndkkagnobpmaaDoor
open Go.RowKit Glob
set_option linter.unusedVariables false

theorem nextL_short (p : List UInt8) : ∀ (s : List UInt8), s.length < p.length → nextL p s = none
  | [], h => by
    show headL p [] = none
    rw [headL_fits, if_neg (fun e => by omega)]
  | b :: s, h => by
    unfold nextL
    have h1 : headL p (b :: s) = none := by rw [headL_fits, if_neg (fun e => by omega)]
    rw [h1]
    exact nextL_short p s (by simp at h; omega)
theorem nextL_found (p s t : List UInt8) (h : headL p s = some t) : nextL p s = some t := by
  cases s with
  | nil => exact h
  | cons b s => unfold nextL; rw [h]
theorem nextL_skip (p s : List UInt8) (h : headL p s = none) (h0 : s ≠ []) : nextL p s = nextL p s.tail := by
  cases s with
  | nil => exact absurd rfl h0
  | cons b s => conv => lhs; unfold nextL
                rw [h]; rfl
set_option maxHeartbeats 1600000 in
theorem next_any (p s : ByteArray) (w : World) (hp : p.size ≤ 100000) (hs : s.size ≤ 100000) : Calls Tryd.prog 76 #[.string p, .string s] w fun e w' =>
    (∃ m, w' = w.drewN m) ∧ ((nextL p.data.toList s.data.toList = none ∧ e = .returned (.tuple #[.string ⟨#[]⟩, .bool false])) ∨ (∃ j, j ≤ s.size ∧ nextL p.data.toList s.data.toList = some (s.extract j s.size).data.toList ∧ e = .returned (.tuple #[.string (s.extract j s.size), .bool true]))) := by
  have hpl : p.data.toList.length = p.size := by cases p; simp [ByteArray.size]
  have hsl : s.data.toList.length = s.size := by cases s; simp [ByteArray.size]
  have HP := Lib.hid hpl
  have HS := Lib.hid hsl
  clear hpl hsl
  obtain ⟨R, hR⟩ : ∃ R, R = nextL p.data.toList s.data.toList := ⟨_, rfl⟩
  rw [← hR]
  have HR := Lib.hid hR
  clear hR
  go_enter Tryd.func76, Tryd.ntmps76
  go_wp2
  go_loopw [6] (fun i wr => ∃ k : Nat, k ≤ s.size + 1 ∧ i = .int .i64 k ∧ (k = s.size + 1 → R = none) ∧ (k ≤ s.size → R = nextL p.data.toList (s.data.toList.drop k)) ∧ ∃ m, wr = w.drewN m) (fun i _ => s.size + 1 - (intOf i).toNat)
  case atStart => exact ⟨0, Nat.zero_le _, rfl, fun h => by omega, fun _ => HR.out, 0, rfl⟩
  case round =>
    obtain ⟨k, hk, rfl, hk1, hk2, m, rfl⟩ := hrel
    rcases (by omega : s.size < k + p.size ∨ k + p.size ≤ s.size) with g | g
    · have e1 : decide ((k : Int) + (p.size : Int) ≤ (s.size : Int)) = false := by rw [decide_eq_false_iff_not]; omega
      have HN : Hid (R = none) := by
        show _ = _
        rcases (by omega : k = s.size + 1 ∨ k ≤ s.size) with h | h
        · exact hk1 h
        · rw [hk2 h]; exact nextL_short _ _ (by rw [List.length_drop, HS.out, HP.out]; omega)
      clear hk1 hk2
      go_wp2
      go_ret2
      exact ⟨⟨m, rfl⟩, .inl ⟨HN.out, rfl⟩⟩
    · have e1 : decide ((k : Int) + (p.size : Int) ≤ (s.size : Int)) = true := by rw [decide_eq_true_iff]; omega
      have hR := hk2 (by omega)
      clear hk1 hk2
      have hh := headL_fits p.data.toList (s.data.toList.drop k)
      rw [List.length_drop, HP.out, HS.out, List.drop_drop] at hh
      have hext : (s.extract k (k + p.size)).data.toList = (s.data.toList.drop k).take p.size := by simp [List.extract]
      have hdr : (s.extract (k + p.size) s.size).data.toList = s.data.toList.drop (k + p.size) := by simp [List.extract, List.take_of_length_le]
      have hF := fun w => fits_any p (s.extract k (k + p.size)) w (by rw [ByteArray.size_extract]; omega) (by omega)
      rw [hext] at hF
      obtain ⟨r, hr⟩ : ∃ r, r = fitsL p.data.toList ((s.data.toList.drop k).take p.size) := ⟨_, rfl⟩
      rw [← hr] at hF hh
      have HF := Lib.hid hF
      have HD := Lib.hid hdr
      clear hF hr hext hdr
      cases r with
      | true =>
        rw [if_pos ⟨by omega, rfl⟩] at hh
        have HN : Hid (R = some (s.extract (k + p.size) s.size).data.toList) := by show _ = _; rw [hR, nextL_found _ _ _ hh, HD.out]
        clear hh hR
        go_wp2_with fail
        refine (HF.out _).mono ?_
        rintro e w' ⟨rfl, m2, rfl⟩
        go_wp2
        go_ret2
        exact ⟨⟨_, rfl⟩, .inr ⟨k + p.size, g, HN.out, rfl⟩⟩
      | false =>
        rw [if_neg (by simp)] at hh
        have HN : Hid ((k + 1 = s.size + 1 → R = none) ∧ (k + 1 ≤ s.size → R = nextL p.data.toList (s.data.toList.drop (k + 1)))) := by
          refine ⟨fun h => ?_, fun h => ?_⟩
          · rw [hR, List.drop_of_length_le (by rw [HS.out]; omega)]
            rw [List.drop_of_length_le (by rw [HS.out]; omega)] at hh
            exact hh
          · rw [hR, nextL_skip _ _ hh (by intro e; have := congrArg List.length e; rw [List.length_drop, HS.out, List.length_nil] at this; omega), List.tail_drop]
        clear hh hR
        go_wp2_with fail
        refine (HF.out _).mono ?_
        rintro e w' ⟨rfl, m2, rfl⟩
        go_wp2
        go_roundw
        case rel => exact ⟨k + 1, by omega, by go_num, HN.out.1, HN.out.2, _, rfl⟩
        case measure => simp [intOf]; omega
end Go.Proofs.YtcndkkagnobpmaaDoor
