/-
  block.Disk: Read, goes, Write, Stop.
-/
import Derived.Test.YtcndkkagnobpmaaDoorDisk1
import Derived.Deep.RegionWith
import Derived.Deep.RegionHeld3
import Derived.Deep.DrawnRows
namespace Go.Proofs.YtcndkkagnobpmaaDoor
open Go.RowKit
set_option linter.unusedVariables false

theorem clone_sl (v : Value) (b : List UInt8) (w : World) (h : SlB w v b) : Calls Tryd.prog 30 #[v] w fun e w' => ∃ A c, e = .returned (.slice A 64 c) ∧ 64 ≤ c ∧ c ≤ 9223372036854775807 ∧ RB w' A b ∧ b.length = 64 ∧ Below w.heap.size w w' := by
  obtain ⟨A, c, rfl, h2, h3, h4, h5⟩ := h
  refine (clone_n A 64 c b w h5 (by omega) h4).mono ?_
  rintro e w' ⟨v, rfl, hv, hb⟩
  obtain ⟨A', c', rfl, k1, k2, k3, _⟩ := hv.shape
  exact ⟨A', c', by rw [h5], by omega, by unfold maxLen at k2; omega, k3, h5, hb⟩
set_option maxRecDepth 100000 in
set_option maxHeartbeats 1000000 in
theorem read_ok {d s M n : Nat} {K : Dk} (i : Nat) (w : World) (h : DiskAt w d s M n K) (ho : K.off = false) (hi : i < K.sure.length) : Calls Tryd.prog 19 #[.pointer (some ⟨d, 0, none⟩), .int .i64 (i : Int)] w fun e w' => ∃ A c, e = .returned (.tuple #[.slice A 64 c, .int .i64 0]) ∧ 64 ≤ c ∧ c ≤ 9223372036854775807 ∧ RB w' A (K.now i) ∧ (K.now i).length = 64 ∧ Below w.heap.size w w' := by
  have HM := fun w h => Lib.hid (may_as (K := K) (d := d) (s := s) (M := M) (n := n) (i : Int) 0 w h (by unfold mayE; rw [ho, if_neg (by simp), if_neg (by omega)]))
  have HW := fun w h => Lib.hid (now_any (K := K) (d := d) (s := s) (M := M) (n := n) i w h hi)
  have HH := Lib.hid h
  clear h ho hi
  go_enter Tryd.func19, Tryd.ntmps19
  go_wp2_with fail
  refine (HM _ HH.out).out.mono ?_
  rintro e w1 ⟨rfl, rfl⟩
  go_wp2_with fail
  refine (HW _ HH.out).out.mono ?_
  rintro e w2 ⟨v, rfl, hs, rfl⟩
  have HS := Lib.hid hs
  clear hs
  go_wp2_with fail
  refine (clone_sl v _ _ HS.out).mono ?_
  rintro e w3 ⟨A, c, rfl, h1, h2, h3, h4, h5⟩
  have H3 := Lib.hid h3
  have H4 := Lib.hid h4
  clear h3 h4
  go_wp2
  go_ret2
  exact ⟨A, c, rfl, h1, h2, H3.out, H4.out, h5⟩
set_option maxRecDepth 100000 in
set_option maxHeartbeats 1000000 in
theorem read_no {d s M n : Nat} {K : Dk} (i : Int) (r : Int) (w : World) (h : DiskAt w d s M n K) (hr : mayE K i = r) (hne : r ≠ 0) : Calls Tryd.prog 19 #[.pointer (some ⟨d, 0, none⟩), .int .i64 i] w fun e w' => e = .returned (.tuple #[.slice none 0 0, .int .i64 r]) ∧ w' = w := by
  have HM := Lib.hid (may_as (K := K) i r w h hr)
  have e1 : (r != 0) = true := by rw [bne_iff_ne]; exact hne
  have e2 : (r == 0) = false := by rw [beq_eq_false_iff_ne]; exact hne
  clear h hr hne
  go_enter Tryd.func19, Tryd.ntmps19
  go_wp2_with fail
  refine HM.out.mono ?_
  rintro e w1 ⟨rfl, rfl⟩
  go_wp2
  go_ret2
  exact ⟨rfl, rfl⟩
/-- the power behind one more write or sync -/
def Dk.go (K : Dk) : Dk := if K.left = 0 then { K with off := true } else if 0 < K.left then { K with left := K.left - 1 } else K
theorem Blk.setDisk2 {w : World} {d s M len cap bytes : Nat} {left left' : Int} {off : Bool} (h : Blk w d 63 (diskV s M len cap left bytes off)) : Blk (w.setCell ⟨d, 2, none⟩ (.int .i64 left')) d 63 (diskV s M len cap left' bytes off) := by
  have := h.set_ 2 (.int .i64 left')
  unfold diskV at this ⊢
  simpa only [List.setIfInBounds_toArray, List.set_cons_zero, List.set_cons_succ] using this
theorem Blk.setDisk3 {w : World} {d s M len cap bytes bytes' : Nat} {left : Int} {off : Bool} (h : Blk w d 63 (diskV s M len cap left bytes off)) : Blk (w.setCell ⟨d, 3, none⟩ (.int .i64 (bytes' : Int))) d 63 (diskV s M len cap left bytes' off) := by
  have := h.set_ 3 (.int .i64 (bytes' : Int))
  unfold diskV at this ⊢
  simpa only [List.setIfInBounds_toArray, List.set_cons_zero, List.set_cons_succ] using this
theorem Blk.setDisk4 {w : World} {d s M len cap bytes : Nat} {left : Int} {off off' : Bool} (h : Blk w d 63 (diskV s M len cap left bytes off)) : Blk (w.setCell ⟨d, 4, none⟩ (.bool off')) d 63 (diskV s M len cap left bytes off') := by
  have := h.set_ 4 (.bool off')
  unfold diskV at this ⊢
  simpa only [List.setIfInBounds_toArray, List.set_cons_zero, List.set_cons_succ] using this
/-- the disk's own block has turned -/
theorem DiskAt.turn {w w' : World} {d s M n : Nat} {K K' : Dk} (h : DiskAt w d s M n K) (hf : Fr (· = d) w w') (cap : Nat) (hb : Blk w' d 63 (diskV s M K.sure.length cap K'.left K'.bytes K'.off)) (hc : K.sure.length ≤ cap ∧ cap ≤ 9223372036854775807)
    (h1 : K'.sure = K.sure) (h2 : K'.loose = K.loose) (h3 : -1 ≤ K'.left ∧ K'.left ≤ 9223372036854775807) (h4 : K'.bytes ≤ 64) : DiskAt w' d s M n K' := by
  have hn := h.ne
  have hN : ∀ g, g = d → g < w.heap.size → NoBy w g := fun g e _ => e ▸ h.noBy d (.inl rfl)
  obtain ⟨_, ⟨cs, hr, hr2, hr3⟩, ⟨f, hm, hm2, hm3⟩, h4', h5, h6, h7⟩ := h
  refine ⟨⟨cap, by rw [h1]; exact hb, by rw [h1]; exact hc⟩, ⟨cs, hr.fr hf (fun e => hn.1 e.symm), fun i hi => ?_, hr3⟩, ⟨f, hm.fr hf (fun e => hn.2.1 e.symm), by rw [h2]; exact hm2, fun i b hb => ?_⟩, by rw [h1]; exact h4', by rw [h1, h2]; exact h5, h3, h4⟩
  · rw [h1] at hi ⊢
    obtain ⟨v, k1, k2⟩ := hr2 i hi
    exact ⟨v, k1, k2.fr2 hf hN⟩
  · rw [h2] at hb
    obtain ⟨v, k1, k2⟩ := hm3 i b hb
    exact ⟨v, k1, k2.fr2 hf hN⟩
set_option maxRecDepth 100000 in
set_option maxHeartbeats 1000000 in
theorem goes_any {d s M n : Nat} {K : Dk} (w : World) (h : DiskAt w d s M n K) (ho : K.off = false) : Calls Tryd.prog 37 #[.pointer (some ⟨d, 0, none⟩)] w fun e w' => e = .returned (.bool K.go.off) ∧ DiskAt w' d s M n K.go ∧ Fr (· = d) w w' := by
  obtain ⟨cap, hb, hc⟩ := h.blk
  rw [ho] at hb
  obtain ⟨c0, c1, c2, c3, c4⟩ := disk_cells hb
  have hl := h.lft
  have f2 := hb.frozen 2
  have f4 := hb.frozen 4
  have HH := Lib.hid h
  have HB := Lib.hid hb
  rcases (by omega : K.left = 0 ∨ 0 < K.left ∨ K.left < 0) with h0 | h0 | h0
  · have HG : Hid (K.go = { K with off := true }) := by show _ = _; unfold Dk.go; rw [if_pos h0]
    have HK : Hid (DiskAt (w.setCell ⟨d, 4, none⟩ (.bool true)) d s M n K.go) := by
      show DiskAt _ _ _ _ _ _
      rw [HG.out]
      exact HH.out.turn (fr_cell _) cap (by have := HB.out.setDisk4 (off' := true); exact this) hc rfl rfl hl h.byt
    have HF : Hid (K.go.off = true) := by show _ = _; rw [HG.out]
    rw [h0] at c2
    clear h h0 hb hl c0 c1 c3 hc ho
    go_enter Tryd.func37, Tryd.ntmps37
    go_wp2
    go_ret
    exact ⟨by rw [HF.out]; rfl, HK.out, fr_cell _⟩
  · have HG : Hid (K.go = { K with left := K.left - 1 }) := by show _ = _; unfold Dk.go; rw [if_neg (by omega), if_pos h0]
    have HK : Hid (DiskAt (w.setCell ⟨d, 2, none⟩ (.int .i64 (K.left - 1))) d s M n K.go) := by
      show DiskAt _ _ _ _ _ _
      rw [HG.out]
      exact HH.out.turn (fr_cell _) cap (by have := HB.out.setDisk2 (left' := K.left - 1); rw [← ho] at this; exact this) hc rfl rfl (by show -1 ≤ K.left - 1 ∧ K.left - 1 ≤ _; omega) h.byt
    have HF : Hid (K.go.off = false) := by show _ = _; rw [HG.out]; exact ho
    obtain ⟨L, hL⟩ : ∃ L, L = K.left := ⟨_, rfl⟩
    rw [← hL] at c2 HK h0 hl
    have e1 : (L == 0) = false := by rw [beq_eq_false_iff_ne]; omega
    have e2 : decide (0 < L) = true := by rw [decide_eq_true_iff]; exact h0
    clear h hb c0 c1 c3 hc ho hL
    go_enter Tryd.func37, Tryd.ntmps37
    go_wp2
    go_ret
    exact ⟨by rw [HF.out]; rfl, HK.out, fr_cell _⟩
  · have HG : Hid (K.go = K) := by show _ = _; unfold Dk.go; rw [if_neg (by omega), if_neg (by omega)]
    have HF : Hid (K.go.off = false) := by show _ = _; rw [HG.out]; exact ho
    obtain ⟨L, hL⟩ : ∃ L, L = K.left := ⟨_, rfl⟩
    rw [← hL] at c2 h0 hl
    have e1 : (L == 0) = false := by rw [beq_eq_false_iff_ne]; omega
    have e2 : decide (0 < L) = false := by rw [decide_eq_false_iff_not]; omega
    clear h hb c0 c1 c3 hc ho hL
    go_enter Tryd.func37, Tryd.ntmps37
    go_wp2
    go_ret
    exact ⟨by rw [HF.out]; rfl, by rw [HG.out]; exact HH.out, Fr.refl _ _⟩
end Go.Proofs.YtcndkkagnobpmaaDoor
