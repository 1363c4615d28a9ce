/-
  date.Parse: what a text is as a moment.
-/
import Derived.Test.YtahcajhacfnffaaDoorDateW7
namespace Go.Proofs.YtahcajhacfnffaaDoor
open Go.RowKit
set_option linter.unusedVariables false

def ch (s : ByteArray) (k : Nat) : UInt8 := if h : k < s.size then s[k] else 0
theorem ch_at {s : ByteArray} {k : Nat} (h : k < s.size) : s[k] = ch s k := by unfold ch; rw [dif_pos h]
/-- do the signs between the digits stand there? -/
def okB (s : ByteArray) : Bool := decide (((ch s 4).toNat : Int) = 45 ∧ ((ch s 7).toNat : Int) = 45 ∧ ((ch s 10).toNat : Int) = 84 ∧ ((ch s 13).toNat : Int) = 58 ∧ ((ch s 16).toNat : Int) = 58 ∧ ((ch s 19).toNat : Int) = 90)
theorem okB_true {s : ByteArray} (h : okB s = true) : ((ch s 4).toNat : Int) = 45 ∧ ((ch s 7).toNat : Int) = 45 ∧ ((ch s 10).toNat : Int) = 84 ∧ ((ch s 13).toNat : Int) = 58 ∧ ((ch s 16).toNat : Int) = 58 ∧ ((ch s 19).toNat : Int) = 90 := by
  unfold okB at h; simpa using h

set_option maxHeartbeats 400000 in
theorem parse_len (s : ByteArray) (w : World) (h : ((s.size : Int) != 20) = true) :
    Calls Tryd.prog 17 #[.string s] w fun e w' => e = .returned (.tuple #[.int .i64 0, .int .i64 100]) ∧ Below w.heap.size w w' := by
  go_enter Tryd.func17, Tryd.ntmps17
  go_wp2
  go_ret2
  exact ⟨rfl, Below.refl _ _⟩

theorem lt20 {k : Nat} (h : k < 20) : k = 0 ∨ k = 1 ∨ k = 2 ∨ k = 3 ∨ k = 4 ∨ k = 5 ∨ k = 6 ∨ k = 7 ∨ k = 8 ∨ k = 9 ∨ k = 10 ∨ k = 11 ∨ k = 12 ∨ k = 13 ∨ k = 14 ∨ k = 15 ∨ k = 16 ∨ k = 17 ∨ k = 18 ∨ k = 19 := by omega
theorem fm0 : ((ByteArray.mk #[48, 48, 48, 48, 45, 48, 48, 45, 48, 48, 84, 48, 48, 58, 48, 48, 58, 48, 48, 90])[0]'(by decide)).toNat = 48 := by decide
theorem fm1 : ((ByteArray.mk #[48, 48, 48, 48, 45, 48, 48, 45, 48, 48, 84, 48, 48, 58, 48, 48, 58, 48, 48, 90])[1]'(by decide)).toNat = 48 := by decide
theorem fm2 : ((ByteArray.mk #[48, 48, 48, 48, 45, 48, 48, 45, 48, 48, 84, 48, 48, 58, 48, 48, 58, 48, 48, 90])[2]'(by decide)).toNat = 48 := by decide
theorem fm3 : ((ByteArray.mk #[48, 48, 48, 48, 45, 48, 48, 45, 48, 48, 84, 48, 48, 58, 48, 48, 58, 48, 48, 90])[3]'(by decide)).toNat = 48 := by decide
theorem fm4 : ((ByteArray.mk #[48, 48, 48, 48, 45, 48, 48, 45, 48, 48, 84, 48, 48, 58, 48, 48, 58, 48, 48, 90])[4]'(by decide)).toNat = 45 := by decide
theorem fm5 : ((ByteArray.mk #[48, 48, 48, 48, 45, 48, 48, 45, 48, 48, 84, 48, 48, 58, 48, 48, 58, 48, 48, 90])[5]'(by decide)).toNat = 48 := by decide
theorem fm6 : ((ByteArray.mk #[48, 48, 48, 48, 45, 48, 48, 45, 48, 48, 84, 48, 48, 58, 48, 48, 58, 48, 48, 90])[6]'(by decide)).toNat = 48 := by decide
theorem fm7 : ((ByteArray.mk #[48, 48, 48, 48, 45, 48, 48, 45, 48, 48, 84, 48, 48, 58, 48, 48, 58, 48, 48, 90])[7]'(by decide)).toNat = 45 := by decide
theorem fm8 : ((ByteArray.mk #[48, 48, 48, 48, 45, 48, 48, 45, 48, 48, 84, 48, 48, 58, 48, 48, 58, 48, 48, 90])[8]'(by decide)).toNat = 48 := by decide
theorem fm9 : ((ByteArray.mk #[48, 48, 48, 48, 45, 48, 48, 45, 48, 48, 84, 48, 48, 58, 48, 48, 58, 48, 48, 90])[9]'(by decide)).toNat = 48 := by decide
theorem fm10 : ((ByteArray.mk #[48, 48, 48, 48, 45, 48, 48, 45, 48, 48, 84, 48, 48, 58, 48, 48, 58, 48, 48, 90])[10]'(by decide)).toNat = 84 := by decide
theorem fm11 : ((ByteArray.mk #[48, 48, 48, 48, 45, 48, 48, 45, 48, 48, 84, 48, 48, 58, 48, 48, 58, 48, 48, 90])[11]'(by decide)).toNat = 48 := by decide
theorem fm12 : ((ByteArray.mk #[48, 48, 48, 48, 45, 48, 48, 45, 48, 48, 84, 48, 48, 58, 48, 48, 58, 48, 48, 90])[12]'(by decide)).toNat = 48 := by decide
theorem fm13 : ((ByteArray.mk #[48, 48, 48, 48, 45, 48, 48, 45, 48, 48, 84, 48, 48, 58, 48, 48, 58, 48, 48, 90])[13]'(by decide)).toNat = 58 := by decide
theorem fm14 : ((ByteArray.mk #[48, 48, 48, 48, 45, 48, 48, 45, 48, 48, 84, 48, 48, 58, 48, 48, 58, 48, 48, 90])[14]'(by decide)).toNat = 48 := by decide
theorem fm15 : ((ByteArray.mk #[48, 48, 48, 48, 45, 48, 48, 45, 48, 48, 84, 48, 48, 58, 48, 48, 58, 48, 48, 90])[15]'(by decide)).toNat = 48 := by decide
theorem fm16 : ((ByteArray.mk #[48, 48, 48, 48, 45, 48, 48, 45, 48, 48, 84, 48, 48, 58, 48, 48, 58, 48, 48, 90])[16]'(by decide)).toNat = 58 := by decide
theorem fm17 : ((ByteArray.mk #[48, 48, 48, 48, 45, 48, 48, 45, 48, 48, 84, 48, 48, 58, 48, 48, 58, 48, 48, 90])[17]'(by decide)).toNat = 48 := by decide
theorem fm18 : ((ByteArray.mk #[48, 48, 48, 48, 45, 48, 48, 45, 48, 48, 84, 48, 48, 58, 48, 48, 58, 48, 48, 90])[18]'(by decide)).toNat = 48 := by decide
theorem fm19 : ((ByteArray.mk #[48, 48, 48, 48, 45, 48, 48, 45, 48, 48, 84, 48, 48, 58, 48, 48, 58, 48, 48, 90])[19]'(by decide)).toNat = 90 := by decide

set_option maxRecDepth 100000 in
set_option maxHeartbeats 6400000 in
theorem parse_yes (s : ByteArray) (w : World) (hs : s.size = 20) (hok : okB s = true) (hv : valB (dgs (s.extract 0 4)) (dgs (s.extract 5 7)) (dgs (s.extract 8 10)) (dgs (s.extract 11 13)) (dgs (s.extract 14 16)) (dgs (s.extract 17 19)) = true) :
    Calls Tryd.prog 17 #[.string s] w fun e w' => e = .returned (.tuple #[.int .i64 (timV (dgs (s.extract 0 4)) (dgs (s.extract 5 7)) (dgs (s.extract 8 10)) (dgs (s.extract 11 13)) (dgs (s.extract 14 16)) (dgs (s.extract 17 19))), .int .i64 0]) ∧ Below w.heap.size w w' := by
  obtain ⟨k4, k7, k10, k13, k16, k19⟩ := okB_true hok
  have e4 := ch_at (s := s) (k := 4) (by omega)
  have e7 := ch_at (s := s) (k := 7) (by omega)
  have e10 := ch_at (s := s) (k := 10) (by omega)
  have e13 := ch_at (s := s) (k := 13) (by omega)
  have e16 := ch_at (s := s) (k := 16) (by omega)
  have e19 := ch_at (s := s) (k := 19) (by omega)
  have HV := Lib.hid hv
  clear hok hv
  go_enter Tryd.func17, Tryd.ntmps17
  go_wp2
  go_loopw [8] (fun i wr => ∃ k m : Nat, k ≤ 20 ∧ i = .int .i64 k ∧ wr = w.drewN m) (fun i _ => 20 - (intOf i).toNat)
  case atStart => exact ⟨0, 0, by omega, rfl, rfl⟩
  case round =>
    obtain ⟨k, m, hk, rfl, rfl⟩ := hrel
    rcases (by omega : k < 20 ∨ k = 20) with hlt | heq
    · rcases lt20 hlt with rfl | rfl | rfl | rfl | rfl | rfl | rfl | rfl | rfl | rfl | rfl | rfl | rfl | rfl | rfl | rfl | rfl | rfl | rfl | rfl
      · have f := fm0
        go_wp2
        go_quiet (fail)
        go_wp2
        go_roundw
        case rel => exact ⟨1, _, by omega, rfl, rfl⟩
        case measure => simp [intOf]
      · have f := fm1
        go_wp2
        go_quiet (fail)
        go_wp2
        go_roundw
        case rel => exact ⟨2, _, by omega, rfl, rfl⟩
        case measure => simp [intOf]
      · have f := fm2
        go_wp2
        go_quiet (fail)
        go_wp2
        go_roundw
        case rel => exact ⟨3, _, by omega, rfl, rfl⟩
        case measure => simp [intOf]
      · have f := fm3
        go_wp2
        go_quiet (fail)
        go_wp2
        go_roundw
        case rel => exact ⟨4, _, by omega, rfl, rfl⟩
        case measure => simp [intOf]
      · have f := fm4
        go_wp2
        go_quiet (fail)
        go_wp2
        go_roundw
        case rel => exact ⟨5, _, by omega, rfl, rfl⟩
        case measure => simp [intOf]
      · have f := fm5
        go_wp2
        go_quiet (fail)
        go_wp2
        go_roundw
        case rel => exact ⟨6, _, by omega, rfl, rfl⟩
        case measure => simp [intOf]
      · have f := fm6
        go_wp2
        go_quiet (fail)
        go_wp2
        go_roundw
        case rel => exact ⟨7, _, by omega, rfl, rfl⟩
        case measure => simp [intOf]
      · have f := fm7
        go_wp2
        go_quiet (fail)
        go_wp2
        go_roundw
        case rel => exact ⟨8, _, by omega, rfl, rfl⟩
        case measure => simp [intOf]
      · have f := fm8
        go_wp2
        go_quiet (fail)
        go_wp2
        go_roundw
        case rel => exact ⟨9, _, by omega, rfl, rfl⟩
        case measure => simp [intOf]
      · have f := fm9
        go_wp2
        go_quiet (fail)
        go_wp2
        go_roundw
        case rel => exact ⟨10, _, by omega, rfl, rfl⟩
        case measure => simp [intOf]
      · have f := fm10
        go_wp2
        go_quiet (fail)
        go_wp2
        go_roundw
        case rel => exact ⟨11, _, by omega, rfl, rfl⟩
        case measure => simp [intOf]
      · have f := fm11
        go_wp2
        go_quiet (fail)
        go_wp2
        go_roundw
        case rel => exact ⟨12, _, by omega, rfl, rfl⟩
        case measure => simp [intOf]
      · have f := fm12
        go_wp2
        go_quiet (fail)
        go_wp2
        go_roundw
        case rel => exact ⟨13, _, by omega, rfl, rfl⟩
        case measure => simp [intOf]
      · have f := fm13
        go_wp2
        go_quiet (fail)
        go_wp2
        go_roundw
        case rel => exact ⟨14, _, by omega, rfl, rfl⟩
        case measure => simp [intOf]
      · have f := fm14
        go_wp2
        go_quiet (fail)
        go_wp2
        go_roundw
        case rel => exact ⟨15, _, by omega, rfl, rfl⟩
        case measure => simp [intOf]
      · have f := fm15
        go_wp2
        go_quiet (fail)
        go_wp2
        go_roundw
        case rel => exact ⟨16, _, by omega, rfl, rfl⟩
        case measure => simp [intOf]
      · have f := fm16
        go_wp2
        go_quiet (fail)
        go_wp2
        go_roundw
        case rel => exact ⟨17, _, by omega, rfl, rfl⟩
        case measure => simp [intOf]
      · have f := fm17
        go_wp2
        go_quiet (fail)
        go_wp2
        go_roundw
        case rel => exact ⟨18, _, by omega, rfl, rfl⟩
        case measure => simp [intOf]
      · have f := fm18
        go_wp2
        go_quiet (fail)
        go_wp2
        go_roundw
        case rel => exact ⟨19, _, by omega, rfl, rfl⟩
        case measure => simp [intOf]
      · have f := fm19
        go_wp2
        go_quiet (fail)
        go_wp2
        go_roundw
        case rel => exact ⟨20, _, by omega, rfl, rfl⟩
        case measure => simp [intOf]
    · subst heq
      clear k4 k7 k10 k13 k16 k19 e4 e7 e10 e13 e16 e19
      go_wp2
      have hB : Below w.heap.size w (w.drewN (m + 1)) := dnB (Below.refl _ _) _
      go_region_held3 (fun w' => True) (trivial)
        (first | (go_at_call 34; (refine (digits_any _ _ (by simp only [ByteArray.size_extract]; omega)).mono ?_); rintro e w1 ⟨rfl, hb1⟩; have hB := hB.trans (hb1.mono hB.size); clear hb1)
               | (go_at_call 16; (refine (time_yes _ _ _ _ _ _ _ HV.out).mono ?_); rintro e w1 ⟨rfl, hb1⟩; have hB := hB.trans (hb1.mono hB.size); clear hb1))
      go_wp2
      go_ret2
      exact ⟨rfl, hB⟩

set_option maxRecDepth 100000 in
set_option maxHeartbeats 6400000 in
theorem parse_bad (s : ByteArray) (w : World) (hs : s.size = 20) (hok : okB s = true) (hv : valB (dgs (s.extract 0 4)) (dgs (s.extract 5 7)) (dgs (s.extract 8 10)) (dgs (s.extract 11 13)) (dgs (s.extract 14 16)) (dgs (s.extract 17 19)) = false) :
    Calls Tryd.prog 17 #[.string s] w fun e w' => e = .returned (.tuple #[.int .i64 0, .int .i64 100]) ∧ Below w.heap.size w w' := by
  obtain ⟨k4, k7, k10, k13, k16, k19⟩ := okB_true hok
  have e4 := ch_at (s := s) (k := 4) (by omega)
  have e7 := ch_at (s := s) (k := 7) (by omega)
  have e10 := ch_at (s := s) (k := 10) (by omega)
  have e13 := ch_at (s := s) (k := 13) (by omega)
  have e16 := ch_at (s := s) (k := 16) (by omega)
  have e19 := ch_at (s := s) (k := 19) (by omega)
  have HV := Lib.hid hv
  clear hok hv
  go_enter Tryd.func17, Tryd.ntmps17
  go_wp2
  go_loopw [8] (fun i wr => ∃ k m : Nat, k ≤ 20 ∧ i = .int .i64 k ∧ wr = w.drewN m) (fun i _ => 20 - (intOf i).toNat)
  case atStart => exact ⟨0, 0, by omega, rfl, rfl⟩
  case round =>
    obtain ⟨k, m, hk, rfl, rfl⟩ := hrel
    rcases (by omega : k < 20 ∨ k = 20) with hlt | heq
    · rcases lt20 hlt with rfl | rfl | rfl | rfl | rfl | rfl | rfl | rfl | rfl | rfl | rfl | rfl | rfl | rfl | rfl | rfl | rfl | rfl | rfl | rfl
      · have f := fm0
        go_wp2
        go_quiet (fail)
        go_wp2
        go_roundw
        case rel => exact ⟨1, _, by omega, rfl, rfl⟩
        case measure => simp [intOf]
      · have f := fm1
        go_wp2
        go_quiet (fail)
        go_wp2
        go_roundw
        case rel => exact ⟨2, _, by omega, rfl, rfl⟩
        case measure => simp [intOf]
      · have f := fm2
        go_wp2
        go_quiet (fail)
        go_wp2
        go_roundw
        case rel => exact ⟨3, _, by omega, rfl, rfl⟩
        case measure => simp [intOf]
      · have f := fm3
        go_wp2
        go_quiet (fail)
        go_wp2
        go_roundw
        case rel => exact ⟨4, _, by omega, rfl, rfl⟩
        case measure => simp [intOf]
      · have f := fm4
        go_wp2
        go_quiet (fail)
        go_wp2
        go_roundw
        case rel => exact ⟨5, _, by omega, rfl, rfl⟩
        case measure => simp [intOf]
      · have f := fm5
        go_wp2
        go_quiet (fail)
        go_wp2
        go_roundw
        case rel => exact ⟨6, _, by omega, rfl, rfl⟩
        case measure => simp [intOf]
      · have f := fm6
        go_wp2
        go_quiet (fail)
        go_wp2
        go_roundw
        case rel => exact ⟨7, _, by omega, rfl, rfl⟩
        case measure => simp [intOf]
      · have f := fm7
        go_wp2
        go_quiet (fail)
        go_wp2
        go_roundw
        case rel => exact ⟨8, _, by omega, rfl, rfl⟩
        case measure => simp [intOf]
      · have f := fm8
        go_wp2
        go_quiet (fail)
        go_wp2
        go_roundw
        case rel => exact ⟨9, _, by omega, rfl, rfl⟩
        case measure => simp [intOf]
      · have f := fm9
        go_wp2
        go_quiet (fail)
        go_wp2
        go_roundw
        case rel => exact ⟨10, _, by omega, rfl, rfl⟩
        case measure => simp [intOf]
      · have f := fm10
        go_wp2
        go_quiet (fail)
        go_wp2
        go_roundw
        case rel => exact ⟨11, _, by omega, rfl, rfl⟩
        case measure => simp [intOf]
      · have f := fm11
        go_wp2
        go_quiet (fail)
        go_wp2
        go_roundw
        case rel => exact ⟨12, _, by omega, rfl, rfl⟩
        case measure => simp [intOf]
      · have f := fm12
        go_wp2
        go_quiet (fail)
        go_wp2
        go_roundw
        case rel => exact ⟨13, _, by omega, rfl, rfl⟩
        case measure => simp [intOf]
      · have f := fm13
        go_wp2
        go_quiet (fail)
        go_wp2
        go_roundw
        case rel => exact ⟨14, _, by omega, rfl, rfl⟩
        case measure => simp [intOf]
      · have f := fm14
        go_wp2
        go_quiet (fail)
        go_wp2
        go_roundw
        case rel => exact ⟨15, _, by omega, rfl, rfl⟩
        case measure => simp [intOf]
      · have f := fm15
        go_wp2
        go_quiet (fail)
        go_wp2
        go_roundw
        case rel => exact ⟨16, _, by omega, rfl, rfl⟩
        case measure => simp [intOf]
      · have f := fm16
        go_wp2
        go_quiet (fail)
        go_wp2
        go_roundw
        case rel => exact ⟨17, _, by omega, rfl, rfl⟩
        case measure => simp [intOf]
      · have f := fm17
        go_wp2
        go_quiet (fail)
        go_wp2
        go_roundw
        case rel => exact ⟨18, _, by omega, rfl, rfl⟩
        case measure => simp [intOf]
      · have f := fm18
        go_wp2
        go_quiet (fail)
        go_wp2
        go_roundw
        case rel => exact ⟨19, _, by omega, rfl, rfl⟩
        case measure => simp [intOf]
      · have f := fm19
        go_wp2
        go_quiet (fail)
        go_wp2
        go_roundw
        case rel => exact ⟨20, _, by omega, rfl, rfl⟩
        case measure => simp [intOf]
    · subst heq
      clear k4 k7 k10 k13 k16 k19 e4 e7 e10 e13 e16 e19
      go_wp2
      have hB : Below w.heap.size w (w.drewN (m + 1)) := dnB (Below.refl _ _) _
      go_region_held3 (fun w' => True) (trivial)
        (first | (go_at_call 34; (refine (digits_any _ _ (by simp only [ByteArray.size_extract]; omega)).mono ?_); rintro e w1 ⟨rfl, hb1⟩; have hB := hB.trans (hb1.mono hB.size); clear hb1)
               | (go_at_call 16; (refine (time_no _ _ _ _ _ _ _ HV.out).mono ?_); rintro e w1 ⟨rfl, hb1⟩; have hB := hB.trans (hb1.mono hB.size); clear hb1))
      go_wp2
      go_ret2
      exact ⟨rfl, hB⟩

theorem okB_false {s : ByteArray} (h : okB s = false) : ¬ (((ch s 4).toNat : Int) = 45 ∧ ((ch s 7).toNat : Int) = 45 ∧ ((ch s 10).toNat : Int) = 84 ∧ ((ch s 13).toNat : Int) = 58 ∧ ((ch s 16).toNat : Int) = 58 ∧ ((ch s 19).toNat : Int) = 90) := by
  unfold okB at h; exact of_decide_eq_false h
/-- the signs ahead of a place stand there -/
def pre (s : ByteArray) (k : Nat) : Prop := (4 < k → ((ch s 4).toNat : Int) = 45) ∧ (7 < k → ((ch s 7).toNat : Int) = 45) ∧ (10 < k → ((ch s 10).toNat : Int) = 84) ∧ (13 < k → ((ch s 13).toNat : Int) = 58) ∧ (16 < k → ((ch s 16).toNat : Int) = 58) ∧ (19 < k → ((ch s 19).toNat : Int) = 90)
set_option maxRecDepth 100000 in
set_option maxHeartbeats 6400000 in
theorem parse_no (s : ByteArray) (w : World) (hs : s.size = 20) (hok : okB s = false) :
    Calls Tryd.prog 17 #[.string s] w fun e w' => e = .returned (.tuple #[.int .i64 0, .int .i64 100]) ∧ Below w.heap.size w w' := by
  have HN := Lib.hid (okB_false hok)
  have e4 := ch_at (s := s) (k := 4) (by omega)
  have e7 := ch_at (s := s) (k := 7) (by omega)
  have e10 := ch_at (s := s) (k := 10) (by omega)
  have e13 := ch_at (s := s) (k := 13) (by omega)
  have e16 := ch_at (s := s) (k := 16) (by omega)
  have e19 := ch_at (s := s) (k := 19) (by omega)
  clear hok
  go_enter Tryd.func17, Tryd.ntmps17
  go_wp2
  go_loopw [8] (fun i wr => ∃ k m : Nat, k ≤ 20 ∧ i = .int .i64 k ∧ wr = w.drewN m ∧ pre s k) (fun i _ => 20 - (intOf i).toNat)
  case atStart => exact ⟨0, 0, by omega, rfl, rfl, by unfold pre; omega⟩
  case round =>
    obtain ⟨k, m, hk, rfl, rfl, hpre⟩ := hrel
    have HP := Lib.hid hpre
    clear hpre
    rcases (by omega : k < 20 ∨ k = 20) with hlt | heq
    · rcases lt20 hlt with rfl | rfl | rfl | rfl | rfl | rfl | rfl | rfl | rfl | rfl | rfl | rfl | rfl | rfl | rfl | rfl | rfl | rfl | rfl | rfl
      · have f := fm0
        go_wp2
        go_quiet (fail)
        go_wp2
        go_roundw
        case rel => exact ⟨1, _, by omega, rfl, rfl, by have hp := HP.out; unfold pre at hp ⊢; omega⟩
        case measure => simp [intOf]
      · have f := fm1
        go_wp2
        go_quiet (fail)
        go_wp2
        go_roundw
        case rel => exact ⟨2, _, by omega, rfl, rfl, by have hp := HP.out; unfold pre at hp ⊢; omega⟩
        case measure => simp [intOf]
      · have f := fm2
        go_wp2
        go_quiet (fail)
        go_wp2
        go_roundw
        case rel => exact ⟨3, _, by omega, rfl, rfl, by have hp := HP.out; unfold pre at hp ⊢; omega⟩
        case measure => simp [intOf]
      · have f := fm3
        go_wp2
        go_quiet (fail)
        go_wp2
        go_roundw
        case rel => exact ⟨4, _, by omega, rfl, rfl, by have hp := HP.out; unfold pre at hp ⊢; omega⟩
        case measure => simp [intOf]
      · have f := fm4
        by_cases hc : ((ch s 4).toNat : Int) = 45
        · have HC := Lib.hid hc
          have h2 : (((ch s 4).toNat : Int) != 45) = false := by rw [hc]; rfl
          clear hc
          go_wp2
          go_quiet (fail)
          go_wp2
          go_roundw
          case rel => exact ⟨5, _, by omega, rfl, rfl, by have hp := HP.out; have h1 := HC.out; unfold pre at hp ⊢; omega⟩
          case measure => simp [intOf]
        · have h2 : (((ch s 4).toNat : Int) != 45) = true := by simpa using hc
          clear hc
          go_wp2
          go_quiet (fail)
          go_wp2
          go_ret2
          exact ⟨rfl, dnB (dnB (Below.refl _ _) _) _⟩
      · have f := fm5
        go_wp2
        go_quiet (fail)
        go_wp2
        go_roundw
        case rel => exact ⟨6, _, by omega, rfl, rfl, by have hp := HP.out; unfold pre at hp ⊢; omega⟩
        case measure => simp [intOf]
      · have f := fm6
        go_wp2
        go_quiet (fail)
        go_wp2
        go_roundw
        case rel => exact ⟨7, _, by omega, rfl, rfl, by have hp := HP.out; unfold pre at hp ⊢; omega⟩
        case measure => simp [intOf]
      · have f := fm7
        by_cases hc : ((ch s 7).toNat : Int) = 45
        · have HC := Lib.hid hc
          have h2 : (((ch s 7).toNat : Int) != 45) = false := by rw [hc]; rfl
          clear hc
          go_wp2
          go_quiet (fail)
          go_wp2
          go_roundw
          case rel => exact ⟨8, _, by omega, rfl, rfl, by have hp := HP.out; have h1 := HC.out; unfold pre at hp ⊢; omega⟩
          case measure => simp [intOf]
        · have h2 : (((ch s 7).toNat : Int) != 45) = true := by simpa using hc
          clear hc
          go_wp2
          go_quiet (fail)
          go_wp2
          go_ret2
          exact ⟨rfl, dnB (dnB (Below.refl _ _) _) _⟩
      · have f := fm8
        go_wp2
        go_quiet (fail)
        go_wp2
        go_roundw
        case rel => exact ⟨9, _, by omega, rfl, rfl, by have hp := HP.out; unfold pre at hp ⊢; omega⟩
        case measure => simp [intOf]
      · have f := fm9
        go_wp2
        go_quiet (fail)
        go_wp2
        go_roundw
        case rel => exact ⟨10, _, by omega, rfl, rfl, by have hp := HP.out; unfold pre at hp ⊢; omega⟩
        case measure => simp [intOf]
      · have f := fm10
        by_cases hc : ((ch s 10).toNat : Int) = 84
        · have HC := Lib.hid hc
          have h2 : (((ch s 10).toNat : Int) != 84) = false := by rw [hc]; rfl
          clear hc
          go_wp2
          go_quiet (fail)
          go_wp2
          go_roundw
          case rel => exact ⟨11, _, by omega, rfl, rfl, by have hp := HP.out; have h1 := HC.out; unfold pre at hp ⊢; omega⟩
          case measure => simp [intOf]
        · have h2 : (((ch s 10).toNat : Int) != 84) = true := by simpa using hc
          clear hc
          go_wp2
          go_quiet (fail)
          go_wp2
          go_ret2
          exact ⟨rfl, dnB (dnB (Below.refl _ _) _) _⟩
      · have f := fm11
        go_wp2
        go_quiet (fail)
        go_wp2
        go_roundw
        case rel => exact ⟨12, _, by omega, rfl, rfl, by have hp := HP.out; unfold pre at hp ⊢; omega⟩
        case measure => simp [intOf]
      · have f := fm12
        go_wp2
        go_quiet (fail)
        go_wp2
        go_roundw
        case rel => exact ⟨13, _, by omega, rfl, rfl, by have hp := HP.out; unfold pre at hp ⊢; omega⟩
        case measure => simp [intOf]
      · have f := fm13
        by_cases hc : ((ch s 13).toNat : Int) = 58
        · have HC := Lib.hid hc
          have h2 : (((ch s 13).toNat : Int) != 58) = false := by rw [hc]; rfl
          clear hc
          go_wp2
          go_quiet (fail)
          go_wp2
          go_roundw
          case rel => exact ⟨14, _, by omega, rfl, rfl, by have hp := HP.out; have h1 := HC.out; unfold pre at hp ⊢; omega⟩
          case measure => simp [intOf]
        · have h2 : (((ch s 13).toNat : Int) != 58) = true := by simpa using hc
          clear hc
          go_wp2
          go_quiet (fail)
          go_wp2
          go_ret2
          exact ⟨rfl, dnB (dnB (Below.refl _ _) _) _⟩
      · have f := fm14
        go_wp2
        go_quiet (fail)
        go_wp2
        go_roundw
        case rel => exact ⟨15, _, by omega, rfl, rfl, by have hp := HP.out; unfold pre at hp ⊢; omega⟩
        case measure => simp [intOf]
      · have f := fm15
        go_wp2
        go_quiet (fail)
        go_wp2
        go_roundw
        case rel => exact ⟨16, _, by omega, rfl, rfl, by have hp := HP.out; unfold pre at hp ⊢; omega⟩
        case measure => simp [intOf]
      · have f := fm16
        by_cases hc : ((ch s 16).toNat : Int) = 58
        · have HC := Lib.hid hc
          have h2 : (((ch s 16).toNat : Int) != 58) = false := by rw [hc]; rfl
          clear hc
          go_wp2
          go_quiet (fail)
          go_wp2
          go_roundw
          case rel => exact ⟨17, _, by omega, rfl, rfl, by have hp := HP.out; have h1 := HC.out; unfold pre at hp ⊢; omega⟩
          case measure => simp [intOf]
        · have h2 : (((ch s 16).toNat : Int) != 58) = true := by simpa using hc
          clear hc
          go_wp2
          go_quiet (fail)
          go_wp2
          go_ret2
          exact ⟨rfl, dnB (dnB (Below.refl _ _) _) _⟩
      · have f := fm17
        go_wp2
        go_quiet (fail)
        go_wp2
        go_roundw
        case rel => exact ⟨18, _, by omega, rfl, rfl, by have hp := HP.out; unfold pre at hp ⊢; omega⟩
        case measure => simp [intOf]
      · have f := fm18
        go_wp2
        go_quiet (fail)
        go_wp2
        go_roundw
        case rel => exact ⟨19, _, by omega, rfl, rfl, by have hp := HP.out; unfold pre at hp ⊢; omega⟩
        case measure => simp [intOf]
      · have f := fm19
        by_cases hc : ((ch s 19).toNat : Int) = 90
        · have HC := Lib.hid hc
          have h2 : (((ch s 19).toNat : Int) != 90) = false := by rw [hc]; rfl
          clear hc
          go_wp2
          go_quiet (fail)
          go_wp2
          go_roundw
          case rel => exact ⟨20, _, by omega, rfl, rfl, by have hp := HP.out; have h1 := HC.out; unfold pre at hp ⊢; omega⟩
          case measure => simp [intOf]
        · have h2 : (((ch s 19).toNat : Int) != 90) = true := by simpa using hc
          clear hc
          go_wp2
          go_quiet (fail)
          go_wp2
          go_ret2
          exact ⟨rfl, dnB (dnB (Below.refl _ _) _) _⟩
    · exact absurd (by have hp := HP.out; unfold pre at hp; omega) HN.out
end Go.Proofs.YtahcajhacfnffaaDoor
