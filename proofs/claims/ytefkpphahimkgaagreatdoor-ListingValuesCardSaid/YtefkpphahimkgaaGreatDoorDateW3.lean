/-
 The reference's Civil: a moment's date.
-/
import Derived.Test.YtefkpphahimkgaaGreatDoorTk
import Derived.Test.YtefkpphahimkgaaGreatDoorGD
namespace Go.Proofs.YtefkpphahimkgaaGreatDoor
open Go.RowKit
set_option linter.unusedVariables false
def civW (w : World) (t y m d : Int) : World :=
 (w.alloc (.cells #[.int .i64 0, .int .i64 0, .int .i64 0, .int .i64 0, .int .i64 0, .int .i64 0] 103)).alloc
  (.cells #[.int .i64 y, .int .i64 m, .int .i64 d, .int .i64 (t % 86400 / 3600), .int .i64 (t % 86400 / 60 % 60), .int .i64 (t % 60)] 103)
theorem ss_eq' (t : Int) : t % 60 = ssT t := by unfold ssT; omega
set_option maxHeartbeats 1600000 in
theorem rcivil_yes (t y m d : Int) (w : World) (hm : mayB t = true) (h : Cal.Civ (t / 86400 + 719162) y m d) :
  Calls Tryz.prog 72 #[.int .i64 t] w fun e w' => e = .returned (.tuple #[dateV y m d (hhT t) (mmT t) (ssT t), .bool true]) ∧ Below w.heap.size w w' := by
 obtain ⟨ht0, ht1⟩ := mayB_true hm
 have h1 := h.y0
 have h2 := h.y1
 have h3 := h.m0
 have h4 := h.m1
 obtain ⟨hy1, hy2⟩ := h.year
 have hb := Cal.dby_bd (y := y) (by omega) (by omega)
 have hd70 := Ld Cal.dby_1970
 go_enter Tryz.func72, Tryz.ntmps72
 go_wp2
 rw [show t % 86400 % 60 = t % 60 from by omega]
 go_loopw [4] (fun a wr => ∃ j : Int, 1970 ≤ j ∧ j ≤ y ∧ a = .int .i64 (t / 86400 + 719162 - Cal.dby j) ∧ wr = civW w t j 1 1) (fun a _ => (intOf a).toNat)
 case atStart => exact ⟨1970, by omega, by omega, by rw [hd70.out]; go_num, rfl⟩
 case round =>
  obtain ⟨j, hj1, hj2, rfl, rfl⟩ := hrel
  unfold civW
  have hjb := Cal.dby_bd (y := j) (by omega) (by omega)
  have hjm := Cal.dby_mono hj2
  have hs := Ld (Cal.dby_succ j)
  rcases (by omega : j < y ∨ j = y) with hlt | heq
  ·have hst := Cal.dby_step hlt
   cases hl : Cal.leapB j
   ·have hlp := Ld (Cal.lp_false hl)
    have hdec : decide (t / 86400 + 719162 - Cal.dby j < 365) = false := by rw [decide_eq_false_iff_not]; have := hlp.out; omega
    have hp : 365 ≤ t / 86400 + 719162 - Cal.dby j := by have := hlp.out; omega
    clear hst
    go_wp2_with (go_at_call 110; refine (rleap_any _ _).mono ?_; rintro e w' ⟨rfl, rfl⟩)
    go_roundw
    case rel => exact ⟨j + 1, by omega, by omega, by rw [hs.out, hlp.out]; go_num, rfl⟩
    case measure => simp [intOf]; omega
   ·have hlp := Ld (Cal.lp_true hl)
    have hdec : decide (t / 86400 + 719162 - Cal.dby j < 366) = false := by rw [decide_eq_false_iff_not]; have := hlp.out; omega
    have hp : 365 ≤ t / 86400 + 719162 - Cal.dby j := by have := hlp.out; omega
    clear hst
    go_wp2_with (go_at_call 110; refine (rleap_any _ _).mono ?_; rintro e w' ⟨rfl, rfl⟩)
    go_roundw
    case rel => exact ⟨j + 1, by omega, by omega, by rw [hs.out, hlp.out]; go_num, rfl⟩
    case measure => simp [intOf]; omega
  ·subst heq
   cases hl : Cal.leapB j
   ·have hlp := Ld (Cal.lp_false hl)
    have hdec : decide (t / 86400 + 719162 - Cal.dby j < 365) = true := by rw [decide_eq_true_iff]; have := hlp.out; have := hs.out; omega
    go_wp2_with (go_at_call 110; refine (rleap_any _ _).mono ?_; rintro e w' ⟨rfl, rfl⟩)
    go_loopw [4] (fun a wr => ∃ k : Int, 1 ≤ k ∧ k ≤ m ∧ a = .int .i64 (t / 86400 + 719162 - Cal.dby j - Cal.cum j k) ∧ wr = civW w t j k 1) (fun a _ => (intOf a).toNat)
    case atStart => exact ⟨1, by omega, h3, by rw [Cal.cum_one]; go_num, rfl⟩
    case round =>
     obtain ⟨k, hk1, hk2, rfl, rfl⟩ := hrel
     unfold civW
     have hcb := Cal.cum_bd j hk1 (by omega)
     have hdb := Cal.dim_bd j k
     obtain ⟨hmo1, hmo2⟩ := h.month hk1 hk2
     have hcs := Ld (Cal.cum_succ j k hk1 (by omega))
     rcases (by omega : k < m ∨ k = m) with hlt | heq
     ·have hge := hmo1 hlt
      clear hmo1 hmo2
      go_wp2_with (go_at_call 111; refine (rdays_in _ _ _ (by omega) (by omega) (by omega) (by omega)).mono ?_; rintro e w' ⟨rfl, rfl⟩)
      go_roundw
      case rel => exact ⟨k + 1, by omega, by omega, by rw [hcs.out]; go_num, rfl⟩
      case measure => simp [intOf]; omega
     ·have heq2 := Ld (hmo2 heq)
      have hd1 := h.d1
      have hd0 := h.d0
      subst heq
      have hlt2 : t / 86400 + 719162 - Cal.dby j - Cal.cum j k < Cal.dim j k := by rw [heq2.out]; omega
      clear hmo1 hmo2
      go_wp2_with (go_at_call 111; refine (rdays_in _ _ _ (by omega) (by omega) (by omega) (by omega)).mono ?_; rintro e w' ⟨rfl, rfl⟩)
      exact bodyPost_ret (v := .tuple #[dateV j k (t / 86400 + 719162 - Cal.dby j - Cal.cum j k + 1) (t % 86400 / 3600) (t % 86400 / 60 % 60) (t % 60), .bool true]) (by simp [results, Tryz.results72, go_sem]) rfl ⟨by rw [heq2.out, Int.sub_add_cancel, ← ss_eq' t]; rfl, ((Below.refl _ _).alloc (Nat.le_refl _) _).alloc (by simp) _⟩
   ·have hlp := Ld (Cal.lp_true hl)
    have hdec : decide (t / 86400 + 719162 - Cal.dby j < 366) = true := by rw [decide_eq_true_iff]; have := hlp.out; have := hs.out; omega
    go_wp2_with (go_at_call 110; refine (rleap_any _ _).mono ?_; rintro e w' ⟨rfl, rfl⟩)
    go_loopw [4] (fun a wr => ∃ k : Int, 1 ≤ k ∧ k ≤ m ∧ a = .int .i64 (t / 86400 + 719162 - Cal.dby j - Cal.cum j k) ∧ wr = civW w t j k 1) (fun a _ => (intOf a).toNat)
    case atStart => exact ⟨1, by omega, h3, by rw [Cal.cum_one]; go_num, rfl⟩
    case round =>
     obtain ⟨k, hk1, hk2, rfl, rfl⟩ := hrel
     unfold civW
     have hcb := Cal.cum_bd j hk1 (by omega)
     have hdb := Cal.dim_bd j k
     obtain ⟨hmo1, hmo2⟩ := h.month hk1 hk2
     have hcs := Ld (Cal.cum_succ j k hk1 (by omega))
     rcases (by omega : k < m ∨ k = m) with hlt | heq
     ·have hge := hmo1 hlt
      clear hmo1 hmo2
      go_wp2_with (go_at_call 111; refine (rdays_in _ _ _ (by omega) (by omega) (by omega) (by omega)).mono ?_; rintro e w' ⟨rfl, rfl⟩)
      go_roundw
      case rel => exact ⟨k + 1, by omega, by omega, by rw [hcs.out]; go_num, rfl⟩
      case measure => simp [intOf]; omega
     ·have heq2 := Ld (hmo2 heq)
      have hd1 := h.d1
      have hd0 := h.d0
      subst heq
      have hlt2 : t / 86400 + 719162 - Cal.dby j - Cal.cum j k < Cal.dim j k := by rw [heq2.out]; omega
      clear hmo1 hmo2
      go_wp2_with (go_at_call 111; refine (rdays_in _ _ _ (by omega) (by omega) (by omega) (by omega)).mono ?_; rintro e w' ⟨rfl, rfl⟩)
      exact bodyPost_ret (v := .tuple #[dateV j k (t / 86400 + 719162 - Cal.dby j - Cal.cum j k + 1) (t % 86400 / 3600) (t % 86400 / 60 % 60) (t % 60), .bool true]) (by simp [results, Tryz.results72, go_sem]) rfl ⟨by rw [heq2.out, Int.sub_add_cancel, ← ss_eq' t]; rfl, ((Below.refl _ _).alloc (Nat.le_refl _) _).alloc (by simp) _⟩
end Go.Proofs.YtefkpphahimkgaaGreatDoor
