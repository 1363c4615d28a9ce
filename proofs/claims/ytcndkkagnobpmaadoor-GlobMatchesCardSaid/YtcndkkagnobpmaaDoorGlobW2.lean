/-
  glob's pieces: head, tail.
-/
import Derived.Test.YtcndkkagnobpmaaDoorGlobW1
namespace Go.Proofs.YtcndkkagnobpmaaDoor
open Go.RowKit Glob
set_option linter.unusedVariables false

theorem headL_fits : ∀ (p s : List UInt8), headL p s = if p.length ≤ s.length ∧ fitsL p (s.take p.length) = true then some (s.drop p.length) else none
  | [], s => by simp [headL, fitsL]
  | a :: p, [] => by simp [headL]
  | a :: p, b :: s => by
    have ih := headL_fits p s
    show (if (a == 63 || a == b) = true then headL p s else none) = _
    simp only [List.length_cons, List.take_succ_cons, List.drop_succ_cons]
    rw [show fitsL (a :: p) (b :: s.take p.length) = ((a == 63 || a == b) && fitsL p (s.take p.length)) from rfl, ih]
    cases hc : (a == 63 || a == b) with
    | true => simp
    | false => simp
set_option maxHeartbeats 1600000 in
theorem head_any (p s : ByteArray) (w : World) (hp : p.size ≤ 100000) (hs : s.size ≤ 100000) : Calls Tryd.prog 74 #[.string p, .string s] w fun e w' =>
    (∃ m, w' = w.drewN m) ∧ ((headL p.data.toList s.data.toList = none ∧ e = .returned (.tuple #[.string ⟨#[]⟩, .bool false])) ∨ (p.size ≤ s.size ∧ headL p.data.toList s.data.toList = some (s.extract p.size s.size).data.toList ∧ e = .returned (.tuple #[.string (s.extract p.size s.size), .bool true]))) := by
  have hpl : p.data.toList.length = p.size := by cases p; simp [ByteArray.size]
  have hsl : s.data.toList.length = s.size := by cases s; simp [ByteArray.size]
  have hh := headL_fits p.data.toList s.data.toList
  rw [hpl, hsl] at hh
  rcases (by omega : s.size < p.size ∨ p.size ≤ s.size) with g | g
  · have e1 : decide ((s.size : Int) < (p.size : Int)) = true := by rw [decide_eq_true_iff]; omega
    have e2 : decide (s.size < p.size) = true := by rw [decide_eq_true_iff]; omega
    rw [if_neg (by omega)] at hh
    have HH := Lib.hid hh
    clear hh hpl hsl
    go_enter Tryd.func74, Tryd.ntmps74
    go_wp2
    go_ret2
    exact ⟨⟨0, rfl⟩, .inl ⟨HH.out, rfl⟩⟩
  · have e1 : decide ((s.size : Int) < (p.size : Int)) = false := by rw [decide_eq_false_iff_not]; omega
    have e2 : decide (s.size < p.size) = false := by rw [decide_eq_false_iff_not]; omega
    have hext : (s.extract 0 p.size).data.toList = s.data.toList.take p.size := by simp
    have hdr : (s.extract p.size s.size).data.toList = s.data.toList.drop p.size := by simp [List.extract, List.take_of_length_le]
    have hF := fun w => fits_any p (s.extract 0 p.size) w (by rw [ByteArray.size_extract]; omega) (by omega)
    rw [hext] at hF
    obtain ⟨r, hr⟩ : ∃ r, r = fitsL p.data.toList (s.data.toList.take p.size) := ⟨_, rfl⟩
    rw [← hr] at hF hh
    have HF := Lib.hid hF
    have HD := Lib.hid hdr
    clear hF hr hext hdr hpl hsl
    cases r with
    | false =>
      have HH : Hid (headL p.data.toList s.data.toList = none) := by show _ = _; rw [hh, if_neg (by simp)]
      clear hh
      go_enter Tryd.func74, Tryd.ntmps74
      go_wp2_with fail
      refine (HF.out _).mono ?_
      rintro e w' ⟨rfl, m, rfl⟩
      go_wp2
      go_ret2
      exact ⟨⟨_, rfl⟩, .inl ⟨HH.out, rfl⟩⟩
    | true =>
      have HH : Hid (headL p.data.toList s.data.toList = some (s.extract p.size s.size).data.toList) := by show _ = _; rw [hh, HD.out, if_pos ⟨g, rfl⟩]
      clear hh
      go_enter Tryd.func74, Tryd.ntmps74
      go_wp2_with fail
      refine (HF.out _).mono ?_
      rintro e w' ⟨rfl, m, rfl⟩
      go_wp2
      go_ret2
      exact ⟨⟨_, rfl⟩, .inr ⟨g, HH.out, rfl⟩⟩
theorem fits_len : ∀ (p s : List UInt8), fitsL p s = true → p.length = s.length
  | [], [], _ => rfl
  | [], _ :: _, h => by simp [fitsL] at h
  | _ :: _, [], h => by simp [fitsL] at h
  | a :: p, b :: s, h => by
    unfold fitsL at h
    rw [Bool.and_eq_true] at h
    rw [List.length_cons, List.length_cons, fits_len p s h.2]
theorem tailL_fits (p s : List UInt8) : tailL p s = if p.length ≤ s.length ∧ fitsL p (s.drop (s.length - p.length)) = true then some (s.take (s.length - p.length)) else none := by
  unfold tailL
  by_cases h : p.length ≤ s.length
  · have hl : (s.drop (s.length - p.length)).length = p.length := by rw [List.length_drop]; omega
    have ht : (s.drop (s.length - p.length)).take p.length = s.drop (s.length - p.length) := List.take_of_length_le (by omega)
    have hd : (s.drop (s.length - p.length)).drop p.length = [] := List.drop_of_length_le (by omega)
    rw [headL_fits, hl, ht, hd]
    cases hf : fitsL p (s.drop (s.length - p.length)) <;> simp [h]
  · rw [if_neg (fun e => h e.1), if_neg (fun e => h e.1)]
set_option maxHeartbeats 1600000 in
theorem tail_any (p s : ByteArray) (w : World) (hp : p.size ≤ 100000) (hs : s.size ≤ 100000) : Calls Tryd.prog 75 #[.string p, .string s] w fun e w' =>
    (∃ m, w' = w.drewN m) ∧ ((tailL p.data.toList s.data.toList = none ∧ e = .returned (.tuple #[.string ⟨#[]⟩, .bool false])) ∨ (p.size ≤ s.size ∧ tailL p.data.toList s.data.toList = some (s.extract 0 (s.size - p.size)).data.toList ∧ e = .returned (.tuple #[.string (s.extract 0 (s.size - p.size)), .bool true]))) := by
  have hpl : p.data.toList.length = p.size := by cases p; simp [ByteArray.size]
  have hsl : s.data.toList.length = s.size := by cases s; simp [ByteArray.size]
  have hh := tailL_fits p.data.toList s.data.toList
  rw [hpl, hsl] at hh
  rcases (by omega : s.size < p.size ∨ p.size ≤ s.size) with g | g
  · have e1 : decide ((s.size : Int) - (p.size : Int) < 0) = true := by rw [decide_eq_true_iff]; omega
    rw [if_neg (by omega)] at hh
    have HH := Lib.hid hh
    clear hh hpl hsl
    go_enter Tryd.func75, Tryd.ntmps75
    go_wp2
    go_ret2
    exact ⟨⟨0, rfl⟩, .inl ⟨HH.out, rfl⟩⟩
  · obtain ⟨d, hd⟩ : ∃ d : Nat, d = s.size - p.size := ⟨_, rfl⟩
    have e0 : (s.size : Int) - (p.size : Int) = (d : Int) := by omega
    have e1 : decide ((d : Int) < 0) = false := by rw [decide_eq_false_iff_not]; omega
    have hdle : (d : Int) ≤ (s.size : Int) := by omega
    have hd0 : (0 : Int) ≤ (d : Int) := by omega
    rw [← hd] at hh ⊢
    have hext : (s.extract d s.size).data.toList = s.data.toList.drop d := by simp [List.extract, List.take_of_length_le]
    have hdr : (s.extract 0 d).data.toList = s.data.toList.take d := by simp
    have hF := fun w => fits_any p (s.extract d s.size) w (by rw [ByteArray.size_extract]; omega) (by omega)
    rw [hext] at hF
    obtain ⟨r, hr⟩ : ∃ r, r = fitsL p.data.toList (s.data.toList.drop d) := ⟨_, rfl⟩
    rw [← hr] at hF hh
    have HF := Lib.hid hF
    have HD := Lib.hid hdr
    clear hF hr hext hdr hpl hsl hd
    cases r with
    | false =>
      have HH : Hid (tailL p.data.toList s.data.toList = none) := by show _ = _; rw [hh, if_neg (by simp)]
      clear hh
      go_enter Tryd.func75, Tryd.ntmps75
      go_wp2_with fail
      refine (HF.out _).mono ?_
      rintro e w' ⟨rfl, m, rfl⟩
      go_wp2
      go_ret2
      exact ⟨⟨_, rfl⟩, .inl ⟨HH.out, rfl⟩⟩
    | true =>
      have HH : Hid (tailL p.data.toList s.data.toList = some (s.extract 0 d).data.toList) := by show _ = _; rw [hh, HD.out, if_pos ⟨g, rfl⟩]
      clear hh
      go_enter Tryd.func75, Tryd.ntmps75
      go_wp2_with fail
      refine (HF.out _).mono ?_
      rintro e w' ⟨rfl, m, rfl⟩
      go_wp2
      go_ret2
      exact ⟨⟨_, rfl⟩, .inr ⟨g, HH.out, rfl⟩⟩
end Go.Proofs.YtcndkkagnobpmaaDoor
