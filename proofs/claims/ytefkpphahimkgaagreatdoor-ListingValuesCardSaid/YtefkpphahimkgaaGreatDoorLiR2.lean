/-
 role.understood at the specification's version.
-/
import Derived.Test.YtefkpphahimkgaaGreatDoorTk
import Derived.Test.YtefkpphahimkgaaGreatDoorLiR1
import Derived.Test.YtefkpphahimkgaaGreatDoorShelf
namespace Go.Proofs.YtefkpphahimkgaaGreatDoor
open Go.RowKit
attribute [local go_sem ↓] Go.wp_at_zero Go.wp_at_succ
set_option linter.unusedVariables false
set_option linter.unusedSimpArgs false
def tabM (w : World) : Prop := ∃ m, w.cell? ⟨3, 0, none⟩ = some (.int .i64 m)
theorem tabM.below {w w' : World} (h : tabM w) (hb : Below w.heap.size w w') : tabM w' := by
 obtain ⟨m, hm⟩ := h
 exact ⟨m, (hb.cell (lt_of_cell hm)).trans hm⟩
def noT : ByteArray := ⟨#[48]⟩
theorem split_spec : Lib.splitB ⟨#[46]⟩ 0 (Lib.countB spT ⟨#[46]⟩) spT = [⟨#[49]⟩, noT, noT] := by decide
theorem count_spec : Lib.countB spT ⟨#[46]⟩ = 2 := by decide
set_option maxRecDepth 100000 in
set_option maxHeartbeats 2000000 in
theorem plainDigits_no (w : World) : Calls Tryz.prog 156 #[.string noT] w fun e w' => e = .returned (.bool true) ∧ Below w.heap.size w w' := by
 unfold noT
 go_enter Tryz.func156, Tryz.ntmps156
 go_wp2
 go_loopw [3, 6] (fun _ i wr => ∃ k : Nat, k ≤ 1 ∧ i = .int .i64 k ∧ Hid (Below w.heap.size w wr)) (fun _ i _ => 1 - (intOf i).toNat)
 case atStart => exact ⟨0, Nat.zero_le _, rfl, Ld (Below.refl _ _)⟩
 case round =>
  obtain ⟨k, hk, rfl, HW⟩ := hrel
  rcases (by omega : k = 0 ∨ k = 1) with rfl | rfl
  ·go_wp2
   go_roundw
   case rel => exact ⟨1, by omega, by go_num, HW⟩
   case measure => simp [intOf]
  ·go_wp2
   go_ret
   exact ⟨rfl, HW.out⟩
set_option maxRecDepth 100000 in
set_option maxHeartbeats 2000000 in
theorem isNumber_no (w : World) : Calls Tryz.prog 123 #[.string noT] w fun e w' => e = .returned (.bool true) ∧ Below w.heap.size w w' := by
 obtain ⟨s, hs⟩ : ∃ s, s = noT := ⟨_, rfl⟩
 have HP := Ld (plainDigits_no w)
 have HX := Ld (Tryz.strings_HasPrefix ByteArray.empty ⟨#[48]⟩ w)
 have h1 : s.size = 1 := by rw [hs]; rfl
 have g1 : s.toList = [48] := by rw [hs, ByteArray.toList_eq]; rfl
 have g2 : ¬ s.toList = [] := by rw [g1]; simp
 have g3 : s.toList.isEmpty = false := by rw [g1]; rfl
 have g4 : (s.toList == []) = false := by rw [g1]; rfl
 have g5 : (s.toList != []) = true := by rw [g1]; rfl
 have g6 : decide (s.toList = []) = false := by rw [g1]; rfl
 have HG := Ld hs
 rw [← hs] at HP ⊢
 clear hs g1
 go_enter Tryz.func123, Tryz.ntmps123
 go_wp2_with fail
 refine HX.out.mono ?_
 rintro e w1 ⟨rfl, hww⟩
 rw [hww, show Lib.hasPrefix ByteArray.empty.data.toList [48] = false from rfl]
 clear hww
 go_wp2_with fail
 refine HP.out.mono ?_
 rintro e w1 ⟨rfl, hb⟩
 have HB := Ld hb
 clear hb
 go_wp2
 refine bodyPost_ret (v := .bool true) (by simp [results, Tryz.results123, go_sem]) rfl ?_
 exact ⟨rfl, HB.out⟩
set_option maxRecDepth 100000 in
set_option maxHeartbeats 4000000 in
theorem understood_any {w : World} (ht : tabM w) : Calls Tryz.prog 85 #[.string spT] w fun e w' => e = .returned (.bool true) ∧ Below w.heap.size w w' := by
 obtain ⟨m, hm⟩ := ht
 have HS := Ld (Tryz.strings_Split spT ⟨#[46]⟩ m w (by decide) hm (by decide))
 clear hm
 go_enter Tryz.func85, Tryz.ntmps85
 go_wp2_with fail
 have hs := HS.out
 rw [count_spec, show Lib.splitB ⟨#[46]⟩ 0 2 spT = [⟨#[49]⟩, noT, noT] from count_spec ▸ split_spec] at hs
 refine hs.mono ?_
 clear hs
 rintro e w1 ⟨rfl, hw1⟩
 have hb1 : Below w.heap.size w w1 := by rw [hw1]; exact below_new _ _
 have hx1 : Blk w1 w.heap.size 9 #[.string ⟨#[49]⟩, .string noT, .string noT] := by rw [hw1]; exact Blk.new _ _ _
 have t0 : w1.cell? ⟨w.heap.size, 0, none⟩ = some (.string ⟨#[49]⟩) := hx1.cell 0
 have t1 : w1.cell? ⟨w.heap.size, 1, none⟩ = some (.string noT) := hx1.cell 1
 have HB1 := Ld hb1
 have HX1 := Ld hx1
 clear hb1 hx1 hw1
 go_wp2_with fail
 refine (isNumber_no _).mono ?_
 rintro e w2 ⟨rfl, hb2⟩
 have HX2 := Ld (HX1.out.below hb2 HX1.out.lt)
 have t2 : w2.cell? ⟨w.heap.size, 2, none⟩ = some (.string noT) := HX2.out.cell 2
 have HB2 := Ld (HB1.out.trans (hb2.mono HB1.out.size))
 clear hb2 t0 t1
 go_wp2_with fail
 refine (isNumber_no _).mono ?_
 rintro e w3 ⟨rfl, hb3⟩
 have HB3 := Ld (HB2.out.trans (hb3.mono HB2.out.size))
 clear hb3
 go_wp2
 refine bodyPost_ret (v := .bool true) (by simp [results, Tryz.results85, go_sem]) rfl ?_
 exact ⟨rfl, HB3.out⟩
end Go.Proofs.YtefkpphahimkgaaGreatDoor
