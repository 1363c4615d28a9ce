/-
  glob's pieces: fits, head, tail.
-/
import Derived.Test.YtcndkkagnobpmaaDoorWords2
import Derived.Test.YtcndkkagnobpmaaDoorGlobOne
import Derived.Deep.QuietTactic
import Derived.BigQuiet
import Derived.Deep.RegionHeld
namespace Go.Proofs.YtcndkkagnobpmaaDoor
open Go.RowKit Glob
set_option linter.unusedVariables false

theorem fits_step {p s : List UInt8} {k : Nat} (h1 : k < p.length) (h2 : k < s.length) : fitsL (p.drop k) (s.drop k) = ((p[k] == 63 || p[k] == s[k]) && fitsL (p.drop (k + 1)) (s.drop (k + 1))) := by
  rw [List.drop_eq_getElem_cons h1, List.drop_eq_getElem_cons h2]; rfl
set_option maxHeartbeats 1600000 in
theorem fits_any (p s : ByteArray) (w : World) (h : p.size = s.size) (hbig : p.size ≤ 140737488351232) : Calls Tryd.prog 101 #[.string p, .string s] w fun e w' => e = .returned (.bool (fitsL p.data.toList s.data.toList)) ∧ ∃ m, w' = w.drewN m := by
  have hpl : p.data.toList.length = p.size := by cases p; simp [ByteArray.size]
  have hsl : s.data.toList.length = s.size := by cases s; simp [ByteArray.size]
  have HP := Lib.hid hpl
  have HS := Lib.hid hsl
  clear hpl hsl
  obtain ⟨r, hr⟩ : ∃ r, r = fitsL p.data.toList s.data.toList := ⟨_, rfl⟩
  rw [← hr]
  have HR := Lib.hid hr
  clear hr
  go_enter Tryd.func101, Tryd.ntmps101
  go_wp2
  go_loopw [8] (fun i wr => ∃ k : Nat, k ≤ p.size ∧ i = .int .i64 k ∧ r = fitsL (p.data.toList.drop k) (s.data.toList.drop k) ∧ ∃ m, wr = w.drewN m) (fun i _ => p.size - (intOf i).toNat)
  case atStart => exact ⟨0, Nat.zero_le _, rfl, HR.out, 0, rfl⟩
  case round =>
    obtain ⟨k, hk, rfl, hrk, m, rfl⟩ := hrel
    have HRK := Lib.hid hrk
    clear hrk
    rcases (by omega : k < p.size ∨ k = p.size) with hlt | heq
    · have hls : k < s.size := by omega
      have hst := fits_step (p := p.data.toList) (s := s.data.toList) (k := k) (by rw [HP.out]; exact hlt) (by rw [HS.out]; exact hls)
      have hg1 : p.data.toList[k]'(by rw [HP.out]; exact hlt) = p[k] := rfl
      have hg2 : s.data.toList[k]'(by rw [HS.out]; exact hls) = s[k] := rfl
      rw [hg1, hg2] at hst
      obtain ⟨a, ha⟩ : ∃ a, a = p[k] := ⟨_, rfl⟩
      obtain ⟨b, hb⟩ : ∃ b, b = s[k] := ⟨_, rfl⟩
      rw [← ha, ← hb] at hst
      have ha' := ha.symm
      have hb' := hb.symm
      have HST := Lib.hid hst
      clear ha hb hst hg1 hg2
      rcases (by omega : a.toNat = 63 ∨ (a.toNat ≠ 63 ∧ a.toNat = b.toNat) ∨ (a.toNat ≠ 63 ∧ a.toNat ≠ b.toNat)) with g | ⟨g, g2⟩ | ⟨g, g2⟩
      · have e1 : ((a.toNat : Int) != 63) = false := by simp; omega
        have hb1 : (a == 63) = true := by rw [beq_iff_eq]; exact UInt8.toNat_inj.1 g
        have HX : Hid (r = fitsL (p.data.toList.drop (k + 1)) (s.data.toList.drop (k + 1))) := by show _ = _; rw [HRK.out, HST.out, hb1]; rfl
        clear hb1 g
        go_wp2
        go_quiet (fail)
        go_wp2
        go_roundw
        case rel => exact ⟨k + 1, by omega, by go_num, HX.out, _, rfl⟩
        case measure => simp [intOf]; omega
      · have e1 : ((a.toNat : Int) != 63) = true := by simp; omega
        have e2 : ((a.toNat : Int) != (b.toNat : Int)) = false := by simp; omega
        have hb1 : (a == b) = true := by rw [beq_iff_eq]; exact UInt8.toNat_inj.1 g2
        have HX : Hid (r = fitsL (p.data.toList.drop (k + 1)) (s.data.toList.drop (k + 1))) := by show _ = _; rw [HRK.out, HST.out, hb1]; simp
        clear hb1 g g2
        go_wp2
        go_quiet (fail)
        go_wp2
        go_roundw
        case rel => exact ⟨k + 1, by omega, by go_num, HX.out, _, rfl⟩
        case measure => simp [intOf]; omega
      · have e1 : ((a.toNat : Int) != 63) = true := by simp; omega
        have e2 : ((a.toNat : Int) != (b.toNat : Int)) = true := by simp; omega
        have hb1 : (a == 63) = false := by rw [beq_eq_false_iff_ne]; intro e; rw [e] at g; exact g rfl
        have hb2 : (a == b) = false := by rw [beq_eq_false_iff_ne]; intro e; rw [e] at g2; exact g2 rfl
        have HX : Hid (r = false) := by show _ = _; rw [HRK.out, HST.out, hb1, hb2]; rfl
        clear hb1 hb2 g g2
        go_wp2
        go_quiet (fail)
        go_wp2
        go_ret
        exact ⟨by rw [HX.out]; rfl, _, World.drewN_drewN _ _ _⟩
    · have e1 : decide (k < p.size) = false := by rw [decide_eq_false_iff_not]; omega
      have e2 : decide (k < s.size) = false := by rw [decide_eq_false_iff_not]; omega
      have HX : Hid (r = true) := by show _ = _; rw [HRK.out, List.drop_of_length_le (by rw [HP.out]; omega), List.drop_of_length_le (by rw [HS.out]; omega)]; rfl
      clear heq
      go_wp2
      go_ret
      exact ⟨by rw [HX.out]; rfl, _, rfl⟩
end Go.Proofs.YtcndkkagnobpmaaDoor
