/-
  block.Disk: Stop.
-/
import Derived.Test.YtcndkkagnobpmaaDoorDisk4
namespace Go.Proofs.YtcndkkagnobpmaaDoor
open Go.RowKit
set_option linter.unusedVariables false

def stopBad (n b : Int) : Bool := decide (n < -1) || (decide (b < 0) || decide (64 < b))
def stopE (K : Dk) (n b : Int) : Int := if K.off then 210 else if stopBad n b then 1 else 0
def Dk.stop (K : Dk) (n b : Int) : Dk := if K.off then K else if stopBad n b then K else { K with left := n, bytes := b.toNat }
set_option maxRecDepth 100000 in
set_option maxHeartbeats 1000000 in
theorem stop_any {d s M m : Nat} {K : Dk} (n b : Int) (w : World) (h : DiskAt w d s M m K) (hn : n ≤ 9223372036854775807) : Calls Tryd.prog 20 #[.pointer (some ⟨d, 0, none⟩), .int .i64 n, .int .i64 b] w fun e w' => e = .returned (.int .i64 (stopE K n b)) ∧ DiskAt w' d s M m (K.stop n b) ∧ Fr (· = d) w w' := by
  have h1 := h.few.1
  cases ho : K.off with
  | true =>
    have HM := Lib.hid (may_as (K := K) 0 210 w h (by unfold mayE; rw [ho]; rfl))
    have HE : Hid (stopE K n b = 210) := by show _ = _; unfold stopE; rw [ho]; rfl
    have HK : Hid (K.stop n b = K) := by show _ = _; unfold Dk.stop; rw [ho]; rfl
    have HH := Lib.hid h
    clear h ho h1
    go_enter Tryd.func20, Tryd.ntmps20
    go_wp2_with fail
    refine HM.out.mono ?_
    rintro e w1 ⟨rfl, rfl⟩
    go_wp2
    go_ret
    exact ⟨by rw [HE.out]; rfl, by rw [HK.out]; exact HH.out, Fr.refl _ _⟩
  | false =>
    have HM := Lib.hid (may_as (K := K) 0 0 w h (by unfold mayE; rw [ho, if_neg (by simp), if_neg (by omega)]))
    have HE : Hid (stopE K n b = if stopBad n b then 1 else 0) := by show _ = _; unfold stopE; rw [ho]; rfl
    have HK : Hid (K.stop n b = if stopBad n b then K else { K with left := n, bytes := b.toNat }) := by show _ = _; unfold Dk.stop; rw [ho]; rfl
    have HH := Lib.hid h
    by_cases c1 : n < -1
    · have e1 : decide (n < -1) = true := by rw [decide_eq_true_iff]; exact c1
      have HB : Hid (stopBad n b = true) := by show _ = _; unfold stopBad; rw [e1]; rfl
      clear h ho h1 c1
      go_enter Tryd.func20, Tryd.ntmps20
      go_wp2_with fail
      refine HM.out.mono ?_
      rintro e w1 ⟨rfl, rfl⟩
      go_wp2
      go_ret
      exact ⟨by rw [HE.out, HB.out]; rfl, by rw [HK.out, HB.out]; exact HH.out, Fr.refl _ _⟩
    have e1 : decide (n < -1) = false := by rw [decide_eq_false_iff_not]; exact c1
    by_cases c2 : b < 0
    · have e2 : decide (b < 0) = true := by rw [decide_eq_true_iff]; exact c2
      have HB : Hid (stopBad n b = true) := by show _ = _; unfold stopBad; rw [e1, e2]; rfl
      clear h ho h1 c1 c2
      go_enter Tryd.func20, Tryd.ntmps20
      go_wp2_with fail
      refine HM.out.mono ?_
      rintro e w1 ⟨rfl, rfl⟩
      go_wp2
      go_ret
      exact ⟨by rw [HE.out, HB.out]; rfl, by rw [HK.out, HB.out]; exact HH.out, Fr.refl _ _⟩
    have e2 : decide (b < 0) = false := by rw [decide_eq_false_iff_not]; exact c2
    by_cases c3 : 64 < b
    · have e3 : decide (64 < b) = true := by rw [decide_eq_true_iff]; exact c3
      have HB : Hid (stopBad n b = true) := by show _ = _; unfold stopBad; rw [e1, e2, e3]; rfl
      clear h ho h1 c1 c2 c3
      go_enter Tryd.func20, Tryd.ntmps20
      go_wp2_with fail
      refine HM.out.mono ?_
      rintro e w1 ⟨rfl, rfl⟩
      go_wp2
      go_ret
      exact ⟨by rw [HE.out, HB.out]; rfl, by rw [HK.out, HB.out]; exact HH.out, Fr.refl _ _⟩
    have e3 : decide (64 < b) = false := by rw [decide_eq_false_iff_not]; exact c3
    have HB : Hid (stopBad n b = false) := by show _ = _; unfold stopBad; rw [e1, e2, e3]; rfl
    obtain ⟨k, rfl⟩ := Int.eq_ofNat_of_zero_le (show 0 ≤ b by omega)
    obtain ⟨cap, hb, hc⟩ := h.blk
    have f2 := hb.frozen 2
    have f3 := hb.frozen 3
    obtain ⟨d0, d1, d2, d3, d4⟩ := disk_cells hb
    have hf : Fr (· = d) w ((w.setCell ⟨d, 2, none⟩ (.int .i64 n)).setCell ⟨d, 3, none⟩ (.int .i64 (k : Int))) := (fr_cell _).setCell (p := ⟨d, 3, none⟩) (fun _ => rfl) _
    have HF := Lib.hid hf
    have HD : Hid (DiskAt ((w.setCell ⟨d, 2, none⟩ (.int .i64 n)).setCell ⟨d, 3, none⟩ (.int .i64 (k : Int))) d s M m { K with left := n, bytes := k }) := by
      refine Lib.hid (h.turn hf cap ?_ hc rfl rfl (by show -1 ≤ n ∧ n ≤ _; omega) (by show k ≤ 64; omega))
      exact (Blk.setDisk2 (left' := n) hb).setDisk3
    clear h ho h1 c1 c2 c3 hf hb d0 hc
    go_enter Tryd.func20, Tryd.ntmps20
    go_wp2_with fail
    refine HM.out.mono ?_
    rintro e w1 ⟨rfl, rfl⟩
    go_wp2
    go_ret
    exact ⟨by rw [HE.out, HB.out]; rfl, by rw [HK.out, HB.out]; exact HD.out, HF.out⟩
end Go.Proofs.YtcndkkagnobpmaaDoor
