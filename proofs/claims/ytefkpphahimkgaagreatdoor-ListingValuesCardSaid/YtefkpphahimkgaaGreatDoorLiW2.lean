/-
 listing.rising.
-/
import Derived.Test.YtefkpphahimkgaaGreatDoorTk
import Derived.Test.YtefkpphahimkgaaGreatDoorLiW1
import Derived.Deep.RegionHeld3
import Derived.Deep.DrawnRows
namespace Go.Proofs.YtefkpphahimkgaaGreatDoor
open Go.RowKit
attribute [local go_sem ↓] Go.wp_at_zero Go.wp_at_succ
set_option linter.unusedVariables false
set_option linter.unusedSimpArgs false
theorem cmpS_ge {a b : ByteArray} : decide (0 ≤ cmpS a b) = !bl a b := by
 unfold cmpS
 cases h : bl a b with
 | true => simp
 | false => simp only [Bool.false_eq_true, if_false]; split <;> simp
set_option maxRecDepth 100000 in
set_option maxHeartbeats 8000000 in
theorem rising_any {w : World} {A : Option Addr} {c : Nat} {l : List ME} (h : MAt w A c l) : Calls Tryz.prog 30 #[.slice A l.length c] w fun e w' => PFb (BoP (risB l) w) e w' := by
 have hcap := h.cap
 have hmx := h.mx
 have HF := Ld h
 obtain ⟨r, hr⟩ : ∃ r, r = risB l := ⟨_, rfl⟩
 rw [← hr]
 have HR := Ld hr
 obtain ⟨n, hn⟩ : ∃ n, n = l.length := ⟨_, rfl⟩
 rw [← hn] at hcap ⊢
 have HN : Hid (l.length = n) := Ld hn.symm
 have hbig : n ≤ 9223372036854775807 := by unfold maxLen at hmx; omega
 clear hr h hn hcap hmx
 go_enter Tryz.func30, Tryz.ntmps30
 go_wp2
 go_loopw [7] (fun i wr => ∃ k : Nat, k ≤ n ∧ i = .int .i64 (k : Int) ∧ Hid (∀ i, i < k → stepB l i = true) ∧ Hid (Below w.heap.size w wr)) (fun i _ => n - (intOf i).toNat)
 case atStart => exact ⟨0, Nat.zero_le _, rfl, Ld (fun i hi => by omega), Ld (Below.refl _ _)⟩
 case round =>
  obtain ⟨k, hk, rfl, HK, HB⟩ := hrel
  rcases (by omega : k < n ∨ k = n) with hlt | heq
  ·have q0 : decide ((k : Int) < (n : Int)) = true := by rw [decide_eq_true_iff]; omega
   have q0' : decide (k < n) = true := by rw [decide_eq_true_iff]; omega
   have hkl : k < l.length := by rw [HN.out]; exact hlt
   have hmr := HF.out.bel HB.out
   obtain ⟨b, o, hA, hb, hall⟩ := hmr.at_ (by omega)
   subst hA
   obtain ⟨x, hx⟩ : ∃ x, x = l[k] := ⟨_, rfl⟩
   obtain ⟨y, hy⟩ : ∃ y, y = l.getD (k - 1) ME.none_ := ⟨_, rfl⟩
   have hY : ∀ h0 : 0 < k, y = l[k - 1]'(by omega) := fun h0 => by rw [hy, List.getD_eq_getElem?_getD, List.getElem?_eq_getElem (by omega), Option.getD_some]
   have hst : stepB l k = (x.ok && (decide (k = 0) || bl y.name x.name)) := by
    rcases (by omega : k = 0 ∨ 0 < k) with h0 | h0
    ·subst h0
     rw [step_zero hkl, ← hx]
     simp
    ·obtain ⟨j, rfl⟩ : ∃ j, k = j + 1 := ⟨k - 1, by omega⟩
     have e := hY h0
     simp only [Nat.add_one_sub_one] at e
     rw [step_succ hkl, ← hx, ← e]
     simp
   have HST := Ld hst
   clear hst
   have c0 : wr.cell? ⟨b, o + k * 4, none⟩ = some (.string x.name) := by rw [hx]; exact hall k hkl 0 (by omega)
   have c1 : wr.cell? ⟨b, o + k * 4 + 1, none⟩ = some (.int .i64 x.ver) := by rw [hx]; exact hall k hkl 1 (by omega)
   have c2 : wr.cell? ⟨b, o + k * 4 + 2, none⟩ = some (.int .i64 x.len) := by rw [hx]; exact hall k hkl 2 (by omega)
   have c3 : wr.cell? ⟨b, o + k * 4 + 3, none⟩ = some (.string x.hash) := by rw [hx]; exact hall k hkl 3 (by omega)
   obtain ⟨WR, hWR⟩ : ∃ WR, WR = wr.alloc (.cells #[.string x.name, .int .i64 x.ver, .int .i64 x.len, .string x.hash] 44) := ⟨_, rfl⟩
   have hbr : Below wr.heap.size wr WR := by rw [hWR]; exact (Below.refl _ _).alloc (Nat.le_refl _) _
   have hkr : Blk WR wr.heap.size 44 #[.string x.name, .int .i64 x.ver, .int .i64 x.len, .string x.hash] := by rw [hWR]; exact Blk.new _ _ _
   have HZ : Hid (∀ V, Below WR.heap.size WR V → V.cell? ⟨wr.heap.size, 0, none⟩ = some (.string x.name) ∧ V.cell? ⟨wr.heap.size, 1, none⟩ = some (.int .i64 x.ver) ∧ V.cell? ⟨wr.heap.size, 2, none⟩ = some (.int .i64 x.len) ∧ V.cell? ⟨wr.heap.size, 3, none⟩ = some (.string x.hash)) := Ld (fun V hV => by
    have hk := hkr.below hV hkr.lt
    exact ⟨hk.cell 0, hk.cell 1, hk.cell 2, hk.cell 3⟩)
   have HPY : Hid (∀ V, Below WR.heap.size WR V → 0 < k → V.cell? ⟨b, o + (k - 1) * 4, none⟩ = some (.string y.name) ∧ V.cell? ⟨b, o + (k - 1) * 4 + 1, none⟩ = some (.int .i64 y.ver) ∧ V.cell? ⟨b, o + (k - 1) * 4 + 2, none⟩ = some (.int .i64 y.len) ∧ V.cell? ⟨b, o + (k - 1) * 4 + 3, none⟩ = some (.string y.hash)) := Ld (fun V hV h0 => by
    have hW : ∀ j, V.cell? ⟨b, j, none⟩ = wr.cell? ⟨b, j, none⟩ := fun j => (hbr.trans (hV.mono hbr.size)).cell (p := ⟨b, j, none⟩) hb
    rw [hY h0]
    refine ⟨?_, ?_, ?_, ?_⟩
    ·rw [hW]; exact hall (k - 1) (by omega) 0 (by omega)
    ·rw [hW]; exact hall (k - 1) (by omega) 1 (by omega)
    ·rw [hW]; exact hall (k - 1) (by omega) 2 (by omega)
    ·rw [hW]; exact hall (k - 1) (by omega) 3 (by omega))
   have HYY := Ld hY
   have hsz := HF.out.sz x (by rw [hx]; exact List.getElem_mem hkl)
   have hc0 := fun V => file_any x V hsz
   unfold ME.val at hc0
   obtain ⟨f, hf⟩ : ∃ f, f = x.ok := ⟨_, rfl⟩
   rw [← hf] at hc0
   have HC : Hid (∀ V, Below WR.heap.size WR V → Calls Tryz.prog 69 #[.agg #[.string x.name, .int .i64 x.ver, .int .i64 x.len, .string x.hash]] V fun e w' => BoP f V e w') := Ld (fun V _ => hc0 V)
   have hbn := fun V => byName_any y x V
   unfold ME.val at hbn
   have HBN := Ld hbn
   have HX := Ld hx
   have HKL := Ld hkl
   have HFX := Ld hf
   have HBI : Hid (∀ V, Below WR.heap.size WR V → Below w.heap.size w V) := Ld (fun V hV => HB.out.trans ((hbr.trans (hV.mono hbr.size)).mono HB.out.size))
   have HWR := Ld hWR
   have hki : (k : Int) < (n : Int) := by omega
   have hk0 : (0 : Int) ≤ (k : Int) := by omega
   clear hmr hall hx hy hY hkr hbr hWR hc0 hbn hf hsz hb
   go_wp2
   rw [← HWR.out]
   clear c0 c1 c2 c3
   cases f with
   | false =>
    refine wp_region_held_drew (S := fun V => Below WR.heap.size WR V) (by kernel_rfl) ((Below.refl _ _).drew) (fun hS1 => ?_)
    refine tk 0 (some 12) (.agg #[.string x.name, .int .i64 x.ver, .int .i64 x.len, .string x.hash]) rfl (fun V hS => by obtain ⟨h0, h1, h2, h3⟩ := HZ.out V hS; go_simp) hS1 ?_
    simp only [nf]
    refine rd1 1 rfl (fun K' hK => ?_)
    go_simp
    refine (HC.out _ hS1).mono ?_
    rintro e w6 ⟨rfl, hb6⟩
    go_simp
    refine hK.out _ _ (hS1.trans (hb6.mono hS1.size)) (fun hS2 => ?_)
    clear hK K' hS1
    refine tk 2 (some 14) (.bool true) rfl (fun V hS => by go_simp) hS2 ?_
    simp only [nf]
    refine tk 3 (some 15) (.bool true) rfl (fun V hS => by go_simp) hS2 ?_
    simp only [nf]
    refine tk0 4 (some 16) rfl hS2 ?_
    simp only [nf]
    refine tk0 5 (some 17) rfl hS2 ?_
    simp only [nf]
    refine tk0 6 (some 18) rfl hS2 ?_
    simp only [nf]
    refine tk0 7 (some 19) rfl hS2 ?_
    simp only [nf]
    refine tk0 8 (some 20) rfl hS2 ?_
    simp only [nf]
    refine tk0 9 (some 21) rfl hS2 ?_
    simp only [nf]
    refine tk0 10 (some 22) rfl hS2 ?_
    simp only [nf]
    refine tk0 11 (some 23) rfl hS2 ?_
    simp only [nf]
    refine tk0 12 (some 24) rfl hS2 ?_
    simp only [nf]
    refine tk0 13 (some 25) rfl hS2 ?_
    simp only [nf]
    refine tk0 14 (some 26) rfl hS2 ?_
    simp only [nf]
    refine tk0 15 (some 27) rfl hS2 ?_
    simp only [nf]
    refine tk 16 (some 28) (.bool true) rfl (fun V hS => by go_simp) hS2 ?_
    simp only [nf]
    refine wpAnyH_done (by kernel_rfl) ?_ _
    have HI : Hid (r = false) := by
     show _ = _
     rw [HR.out]
     unfold risB
     rw [allB_no HKL.out (by rw [HST.out, ← HFX.out]; rfl)]
     rfl
    go_wp2
    go_ret
    exact ⟨by rw [HI.out]; rfl, HBI.out _ hS2⟩
   | true =>
    rcases (by omega : k = 0 ∨ 0 < k) with hz | hz
    ·have e2 : decide ((0 : Int) < (k : Int)) = false := by rw [decide_eq_false_iff_not]; omega
     have e2n : decide (0 < k) = false := by rw [decide_eq_false_iff_not]; omega
     have e2g : decide ((k : Int) > 0) = false := by rw [decide_eq_false_iff_not]; omega
     have HKZ := Ld hz
     clear hz
     refine wp_region_held_drew (S := fun V => Below WR.heap.size WR V) (by kernel_rfl) ((Below.refl _ _).drew) (fun hS1 => ?_)
     refine tk 0 (some 12) (.agg #[.string x.name, .int .i64 x.ver, .int .i64 x.len, .string x.hash]) rfl (fun V hS => by obtain ⟨h0, h1, h2, h3⟩ := HZ.out V hS; go_simp) hS1 ?_
     simp only [nf]
     refine rd1 1 rfl (fun K' hK => ?_)
     go_simp
     refine (HC.out _ hS1).mono ?_
     rintro e w6 ⟨rfl, hb6⟩
     go_simp
     refine hK.out _ _ (hS1.trans (hb6.mono hS1.size)) (fun hS2 => ?_)
     clear hK K' hS1
     refine tk 2 (some 14) (.bool false) rfl (fun V hS => by go_simp) hS2 ?_
     simp only [nf]
     refine tk 3 (some 15) (.bool false) rfl (fun V hS => by go_simp) hS2 ?_
     simp only [nf]
     refine tk 4 (some 16) (.int .i64 (k : Int)) rfl (fun V hS => by go_simp) hS2 ?_
     simp only [nf]
     refine tk 5 (some 17) (.bool false) rfl (fun V hS => by go_simp) hS2 ?_
     simp only [nf]
     refine tk 6 (some 18) (.bool false) rfl (fun V hS => by go_simp) hS2 ?_
     simp only [nf]
     refine tk0 7 (some 19) rfl hS2 ?_
     simp only [nf]
     refine tk0 8 (some 20) rfl hS2 ?_
     simp only [nf]
     refine tk0 9 (some 21) rfl hS2 ?_
     simp only [nf]
     refine tk0 10 (some 22) rfl hS2 ?_
     simp only [nf]
     refine tk0 11 (some 23) rfl hS2 ?_
     simp only [nf]
     refine tk0 12 (some 24) rfl hS2 ?_
     simp only [nf]
     refine tk0 13 (some 25) rfl hS2 ?_
     simp only [nf]
     refine tk0 14 (some 26) rfl hS2 ?_
     simp only [nf]
     refine tk 15 (some 27) (.bool false) rfl (fun V hS => by go_simp) hS2 ?_
     simp only [nf]
     refine tk 16 (some 28) (.bool false) rfl (fun V hS => by go_simp) hS2 ?_
     simp only [nf]
     refine wpAnyH_done (by kernel_rfl) ?_ _
     have HI : Hid (∀ i, i < k + 1 → stepB l i = true) := Ld (fun i hi => by
      rcases (by omega : i < k ∨ i = k) with h1 | h1
      ·exact HK.out i h1
      ·rw [h1]
       rw [HST.out, ← HFX.out]; simp [HKZ.out])
     have HN2 := Ld (HBI.out _ hS2)
     go_wp2
     go_roundw
     case rel => exact ⟨k + 1, by omega, by go_num, HI, HN2⟩
     case measure => simp [intOf]; omega
    ·have e2 : decide ((0 : Int) < (k : Int)) = true := by rw [decide_eq_true_iff]; omega
     have e2n : decide (0 < k) = true := by rw [decide_eq_true_iff]; omega
     have e2g : decide ((k : Int) > 0) = true := by rw [decide_eq_true_iff]; omega
     have HPY' := HPY
     clear HPY
     have HPY : Hid (∀ V, Below WR.heap.size WR V → V.cell? ⟨b, o + (k - 1) * 4, none⟩ = some (.string y.name) ∧ V.cell? ⟨b, o + (k - 1) * 4 + 1, none⟩ = some (.int .i64 y.ver) ∧ V.cell? ⟨b, o + (k - 1) * 4 + 2, none⟩ = some (.int .i64 y.len) ∧ V.cell? ⟨b, o + (k - 1) * 4 + 3, none⟩ = some (.string y.hash)) := Ld (fun V hV => HPY'.out V hV hz)
     have hk1 : (1 : Int) ≤ (k : Int) := by omega
     have g1 : IntKind.i64.wrap ((k : Int) - 1) = (k : Int) - 1 := IntWalk.i64_in _ (by omega)
     have g2 : ¬ (n : Int) ≤ (k : Int) - 1 := by omega
     have g3 : ((k : Int) - 1).toNat = k - 1 := by omega
     have g4 : ¬ (k : Int) - 1 < 0 := by omega
     have HZK := Ld hz
     clear hz
     cases hbl : bl y.name x.name with
     | false =>
      have HBF := Ld hbl
      have hge : decide (0 ≤ cmpS y.name x.name) = true := by rw [cmpS_ge, hbl]; rfl
      have hge' : decide (cmpS y.name x.name ≥ 0) = true := hge
      clear hbl
      refine wp_region_held_drew (S := fun V => Below WR.heap.size WR V) (by kernel_rfl) ((Below.refl _ _).drew) (fun hS1 => ?_)
      refine tk 0 (some 12) (.agg #[.string x.name, .int .i64 x.ver, .int .i64 x.len, .string x.hash]) rfl (fun V hS => by obtain ⟨h0, h1, h2, h3⟩ := HZ.out V hS; go_simp) hS1 ?_
      simp only [nf]
      refine rd1 1 rfl (fun K' hK => ?_)
      go_simp
      refine (HC.out _ hS1).mono ?_
      rintro e w6 ⟨rfl, hb6⟩
      go_simp
      refine hK.out _ _ (hS1.trans (hb6.mono hS1.size)) (fun hS2 => ?_)
      clear hK K' hS1
      refine tk 2 (some 14) (.bool false) rfl (fun V hS => by go_simp) hS2 ?_
      simp only [nf]
      refine tk 3 (some 15) (.bool false) rfl (fun V hS => by go_simp) hS2 ?_
      simp only [nf]
      refine tk 4 (some 16) (.int .i64 (k : Int)) rfl (fun V hS => by go_simp) hS2 ?_
      simp only [nf]
      refine tk 5 (some 17) (.bool true) rfl (fun V hS => by go_simp) hS2 ?_
      simp only [nf]
      refine tk 6 (some 18) (.bool true) rfl (fun V hS => by go_simp) hS2 ?_
      simp only [nf]
      refine tk 7 (some 19) (.slice (some ⟨b, o, none⟩) n c) rfl (fun V hS => by go_simp) hS2 ?_
      simp only [nf]
      refine tk 8 (some 20) (.int .i64 (k : Int)) rfl (fun V hS => by go_simp) hS2 ?_
      simp only [nf]
      refine tk 9 (some 21) (.int .i64 ((k : Int) - 1)) rfl (fun V hS => by go_simp) hS2 ?_
      simp only [nf]
      refine tk 10 (some 22) (.pointer (some ⟨b, o + (k - 1) * 4, none⟩)) rfl (fun V hS => by go_simp) hS2 ?_
      simp only [nf]
      refine tk 11 (some 23) (.agg #[.string y.name, .int .i64 y.ver, .int .i64 y.len, .string y.hash]) rfl (fun V hS => by obtain ⟨h0, h1, h2, h3⟩ := HPY.out V hS; go_simp) hS2 ?_
      simp only [nf]
      refine tk 12 (some 24) (.agg #[.string x.name, .int .i64 x.ver, .int .i64 x.len, .string x.hash]) rfl (fun V hS => by obtain ⟨h0, h1, h2, h3⟩ := HZ.out V hS; go_simp) hS2 ?_
      simp only [nf]
      refine rd1 13 rfl (fun K' hK => ?_)
      go_simp
      refine (HBN.out _).mono ?_
      rintro e w7 ⟨rfl, hb7⟩
      go_simp
      refine hK.out _ _ (hS2.trans (hb7.mono hS2.size)) (fun hS3 => ?_)
      clear hK K' hS2
      refine tk 14 (some 26) (.bool true) rfl (fun V hS => by go_simp) hS3 ?_
      simp only [nf]
      refine tk 15 (some 27) (.bool true) rfl (fun V hS => by go_simp) hS3 ?_
      simp only [nf]
      refine tk 16 (some 28) (.bool true) rfl (fun V hS => by go_simp) hS3 ?_
      simp only [nf]
      refine wpAnyH_done (by kernel_rfl) ?_ _
      have HI : Hid (r = false) := by
       show _ = _
       rw [HR.out]
       unfold risB
       rw [allB_no HKL.out (by rw [HST.out, ← HFX.out]; rw [HBF.out]; simp; have := HZK.out; omega)]
       rfl
      go_wp2
      go_ret
      exact ⟨by rw [HI.out]; rfl, HBI.out _ hS3⟩
     | true =>
      have HBF := Ld hbl
      have hge : decide (0 ≤ cmpS y.name x.name) = false := by rw [cmpS_ge, hbl]; rfl
      have hge' : decide (cmpS y.name x.name ≥ 0) = false := hge
      clear hbl
      refine wp_region_held_drew (S := fun V => Below WR.heap.size WR V) (by kernel_rfl) ((Below.refl _ _).drew) (fun hS1 => ?_)
      refine tk 0 (some 12) (.agg #[.string x.name, .int .i64 x.ver, .int .i64 x.len, .string x.hash]) rfl (fun V hS => by obtain ⟨h0, h1, h2, h3⟩ := HZ.out V hS; go_simp) hS1 ?_
      simp only [nf]
      refine rd1 1 rfl (fun K' hK => ?_)
      go_simp
      refine (HC.out _ hS1).mono ?_
      rintro e w6 ⟨rfl, hb6⟩
      go_simp
      refine hK.out _ _ (hS1.trans (hb6.mono hS1.size)) (fun hS2 => ?_)
      clear hK K' hS1
      refine tk 2 (some 14) (.bool false) rfl (fun V hS => by go_simp) hS2 ?_
      simp only [nf]
      refine tk 3 (some 15) (.bool false) rfl (fun V hS => by go_simp) hS2 ?_
      simp only [nf]
      refine tk 4 (some 16) (.int .i64 (k : Int)) rfl (fun V hS => by go_simp) hS2 ?_
      simp only [nf]
      refine tk 5 (some 17) (.bool true) rfl (fun V hS => by go_simp) hS2 ?_
      simp only [nf]
      refine tk 6 (some 18) (.bool true) rfl (fun V hS => by go_simp) hS2 ?_
      simp only [nf]
      refine tk 7 (some 19) (.slice (some ⟨b, o, none⟩) n c) rfl (fun V hS => by go_simp) hS2 ?_
      simp only [nf]
      refine tk 8 (some 20) (.int .i64 (k : Int)) rfl (fun V hS => by go_simp) hS2 ?_
      simp only [nf]
      refine tk 9 (some 21) (.int .i64 ((k : Int) - 1)) rfl (fun V hS => by go_simp) hS2 ?_
      simp only [nf]
      refine tk 10 (some 22) (.pointer (some ⟨b, o + (k - 1) * 4, none⟩)) rfl (fun V hS => by go_simp) hS2 ?_
      simp only [nf]
      refine tk 11 (some 23) (.agg #[.string y.name, .int .i64 y.ver, .int .i64 y.len, .string y.hash]) rfl (fun V hS => by obtain ⟨h0, h1, h2, h3⟩ := HPY.out V hS; go_simp) hS2 ?_
      simp only [nf]
      refine tk 12 (some 24) (.agg #[.string x.name, .int .i64 x.ver, .int .i64 x.len, .string x.hash]) rfl (fun V hS => by obtain ⟨h0, h1, h2, h3⟩ := HZ.out V hS; go_simp) hS2 ?_
      simp only [nf]
      refine rd1 13 rfl (fun K' hK => ?_)
      go_simp
      refine (HBN.out _).mono ?_
      rintro e w7 ⟨rfl, hb7⟩
      go_simp
      refine hK.out _ _ (hS2.trans (hb7.mono hS2.size)) (fun hS3 => ?_)
      clear hK K' hS2
      refine tk 14 (some 26) (.bool false) rfl (fun V hS => by go_simp) hS3 ?_
      simp only [nf]
      refine tk 15 (some 27) (.bool false) rfl (fun V hS => by go_simp) hS3 ?_
      simp only [nf]
      refine tk 16 (some 28) (.bool false) rfl (fun V hS => by go_simp) hS3 ?_
      simp only [nf]
      refine wpAnyH_done (by kernel_rfl) ?_ _
      have HI : Hid (∀ i, i < k + 1 → stepB l i = true) := Ld (fun i hi => by
       rcases (by omega : i < k ∨ i = k) with h1 | h1
       ·exact HK.out i h1
       ·rw [h1]
        rw [HST.out, ← HFX.out]; rw [HBF.out]; simp)
      have HN2 := Ld (HBI.out _ hS3)
      go_wp2
      go_roundw
      case rel => exact ⟨k + 1, by omega, by go_num, HI, HN2⟩
      case measure => simp [intOf]; omega
  ·have q0 : decide ((k : Int) < (n : Int)) = false := by rw [decide_eq_false_iff_not]; omega
   have q0' : decide (k < n) = false := by rw [decide_eq_false_iff_not]; omega
   have HKL : Hid (allB l = true) := Ld (allB_iff.2 (by rw [HN.out, ← heq]; exact HK.out))
   clear heq
   rcases (by omega : n ≤ 64 ∨ 64 < n) with hm2 | hm2
   ·have e1 : decide ((n : Int) ≤ 64) = true := by rw [decide_eq_true_iff]; omega
    have e1' : decide (n ≤ 64) = true := by rw [decide_eq_true_iff]; omega
    have HI : Hid (r = true) := by show _ = _; rw [HR.out]; unfold risB; rw [HKL.out, HN.out, e1']; rfl
    go_wp2
    go_ret
    exact ⟨by rw [HI.out]; rfl, HB.out⟩
   ·have e1 : decide ((n : Int) ≤ 64) = false := by rw [decide_eq_false_iff_not]; omega
    have e1' : decide (n ≤ 64) = false := by rw [decide_eq_false_iff_not]; omega
    have HI : Hid (r = false) := by show _ = _; rw [HR.out]; unfold risB; rw [HKL.out, HN.out, e1']; rfl
    go_wp2
    go_ret
    exact ⟨by rw [HI.out]; rfl, HB.out⟩
end Go.Proofs.YtefkpphahimkgaaGreatDoor
