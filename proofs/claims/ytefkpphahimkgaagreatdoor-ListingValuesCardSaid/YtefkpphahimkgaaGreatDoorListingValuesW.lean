/-
 The law ListingValues: its walk.
-/
import Derived.Test.YtefkpphahimkgaaGreatDoorTk
import Derived.Test.YtefkpphahimkgaaGreatDoorLiD6
import Derived.Test.YtefkpphahimkgaaGreatDoorLiL2
import Derived.Test.YtefkpphahimkgaaGreatDoorGH
namespace Go.Proofs.YtefkpphahimkgaaGreatDoor
open Go.RowKit
attribute [local go_sem ↓] Go.wp_at_zero Go.wp_at_succ
set_option linter.unusedVariables false
set_option linter.unusedSimpArgs false
set_option maxRecDepth 100000 in
set_option maxHeartbeats 16000000 in
theorem listingValues_walk (kind : ByteArray) (v e0 : Int) (A : Option Addr) (n c : Nat) (l : List ME) (name : ByteArray) (w : World) (ht : tabL w)
  (hkz : kind.size ≤ 140737488351232) (h : MAt w A c l) (hn : l.length = n) (hnz : name.size ≤ 140737488351232) :
  Calls Tryz.prog 3 #[.string kind, .agg #[.int .i64 v, .int .i64 e0, .slice A n c], .string name] w fun e w' => e = .returned (.bool true) ∧ Below w.heap.size w w' := by
 obtain ⟨W1, hW1⟩ : ∃ W1, W1 = w.alloc (.cells #[.int .i64 v, .int .i64 e0, .slice A n c] 24) := ⟨_, rfl⟩
 have hb1 : Below w.heap.size w W1 := by rw [hW1]; exact (Below.refl _ _).alloc (Nat.le_refl _) _
 have hk1 : Blk W1 w.heap.size 24 #[.int .i64 v, .int .i64 e0, .slice A n c] := by rw [hW1]; exact Blk.new _ _ _
 have HCE : Hid (∀ V, Below W1.heap.size W1 V → V.cell? ⟨w.heap.size, 0, none⟩ = some (.int .i64 v) ∧ V.cell? ⟨w.heap.size, 1, none⟩ = some (.int .i64 e0) ∧ V.cell? ⟨w.heap.size, 2, none⟩ = some (.slice A n c)) := Ld (fun V hV => three_cells (hk1.below hV hk1.lt))
 have HTA := Ld (fun V hV => (ht.below hb1).below (w' := V) hV)
 have HM1 := Ld (fun V hV => (h.bel hb1).bel (w' := V) hV)
 have HW1 := Ld hW1
 have HB1 := Ld hb1
 have HN := Ld hn
 have HNZ := Ld hnz
 have HB := Ld (Below.refl W1.heap.size W1)
 obtain ⟨x0, x1, x2⟩ := HCE.out W1 HB.out
 clear ht h hn hk1 hb1 hW1 hkz hnz
 have hc9 := rLarge15_any v e0 (HM1.out _ HB.out)
 rw [HN.out] at hc9
 rcases Nat.lt_or_ge 200 n with hl | hl
 ·rw [decide_eq_true hl] at hc9
  have HC9 := Ld hc9
  clear hc9 hl
  go_enter Tryz.func3, Tryz.ntmps3
  go_upto_region 1 with (fail)
  rw [← HW1.out]
  go_wp2_with fail
  refine HC9.out.mono ?_
  rintro e y1 ⟨rfl, hby⟩
  have HBy := Ld (HB.out.trans (hby.mono HB.out.size))
  clear hby x0 x1 x2
  go_wp2_with fail
  refine (llives_any _ (HTA.out _ HBy.out)).mono ?_
  rintro e y2 ⟨rfl, hby⟩
  have HBz := Ld (HB1.out.trans ((HBy.out.trans (hby.mono HBy.out.size)).mono HB1.out.size))
  clear hby
  go_wp2
  refine bodyPost_ret (v := .bool true) (by simp [results, Tryz.results3, go_sem]) rfl ?_
  exact ⟨rfl, HBz.out⟩
 rw [decide_eq_false (Nat.not_lt.2 hl)] at hc9
 have HC9 := Ld hc9
 have HL := Ld hl
 clear hc9 hl
 rcases Nat.lt_or_ge 1000 name.size with hl2 | hl2
 ·have d1 : decide ((name.size : Int) > 1000) = true := by rw [decide_eq_true_iff]; omega
  have d2 : decide (1000 < (name.size : Int)) = true := by rw [decide_eq_true_iff]; omega
  have d3 : decide (1000 < name.size) = true := decide_eq_true hl2
  clear hl2
  go_enter Tryz.func3, Tryz.ntmps3
  go_upto_region 1 with (fail)
  rw [← HW1.out]
  go_wp2_with fail
  refine HC9.out.mono ?_
  rintro e y1 ⟨rfl, hby⟩
  have HBy := Ld (HB.out.trans (hby.mono HB.out.size))
  clear hby x0 x1 x2
  go_wp2_with fail
  refine (llives_any _ (HTA.out _ HBy.out)).mono ?_
  rintro e y2 ⟨rfl, hby⟩
  have HBz := Ld (HB1.out.trans ((HBy.out.trans (hby.mono HBy.out.size)).mono HB1.out.size))
  clear hby
  go_wp2
  refine bodyPost_ret (v := .bool true) (by simp [results, Tryz.results3, go_sem]) rfl ?_
  exact ⟨rfl, HBz.out⟩
 have d1 : decide ((name.size : Int) > 1000) = false := by rw [decide_eq_false_iff_not]; omega
 have d2 : decide (1000 < (name.size : Int)) = false := by rw [decide_eq_false_iff_not]; omega
 have d3 : decide (1000 < name.size) = false := decide_eq_false (by omega)
 clear hl2
 obtain ⟨fb, hfb⟩ : ∃ fb, fb = fnameL name.data.toList := ⟨_, rfl⟩
 have HFN : Hid (∀ V, Calls Tryz.prog 13 #[.string name] V fun e w' => FnPost name V fb e w') := Ld (fun V => by rw [hfb]; exact fileName_any name V HNZ.out)
 have HRFN : Hid (∀ V, Calls Tryz.prog 14 #[.string name] V fun e w' => e = .returned (.bool fb) ∧ V = w') := Ld (fun V => by rw [hfb]; exact rfileName_any name V HNZ.out)
 obtain ⟨mb, hmb⟩ : ∃ mb, mb = mayL kind v e0 l := ⟨_, rfl⟩
 have HMAY : Hid (∀ V, Below W1.heap.size W1 V → Calls Tryz.prog 10 #[.string kind, .agg #[.int .i64 v, .int .i64 e0, .slice A n c]] V fun e w' => PFb (BoP mb V) e w') := Ld (fun V hV => by
  have := may_any15 (HTA.out V hV).u (HTA.out V hV).p kind v e0 (HM1.out V hV)
  rw [HN.out, ← hmb] at this
  exact this)
 have HRMAY : Hid (∀ V, Below W1.heap.size W1 V → Calls Tryz.prog 11 #[.string kind, .agg #[.int .i64 v, .int .i64 e0, .slice A n c]] V fun e w' => PFb (BoP mb V) e w') := Ld (fun V hV => by
  have := rmay15_any kind v e0 (HM1.out V hV)
  rw [HN.out, ← hmb] at this
  exact this)
 clear hfb
 cases mb with
 | false =>
  have HVAL : Hid (∀ V, Below W1.heap.size W1 V → Calls Tryz.prog 9 #[.string kind, .agg #[.int .i64 v, .int .i64 e0, .slice A n c]] V fun e w' => PF (OwP PV.none_ V) e w') := Ld (fun V hV => by
   have := value_no (HTA.out V hV).u (HTA.out V hV).p kind v e0 (HM1.out V hV) hmb.symm
   rw [HN.out] at this
   exact this)
  have HRVAL : Hid (∀ V, Below W1.heap.size W1 V → Calls Tryz.prog 12 #[.string kind, .agg #[.int .i64 v, .int .i64 e0, .slice A n c]] V fun e w' => PF (OwP PV.none_ V) e w') := Ld (fun V hV => by
   have := rvalue15_no kind v e0 (HM1.out V hV) hmb.symm
   rw [HN.out] at this
   exact this)
  clear hmb
  go_enter Tryz.func3, Tryz.ntmps3
  go_upto_region 1 with (fail)
  rw [← HW1.out]
  go_wp2_with fail
  refine HC9.out.mono ?_
  rintro e y1 ⟨rfl, hby⟩
  have HBy := Ld (HB.out.trans (hby.mono HB.out.size))
  clear hby x0 x1 x2
  obtain ⟨x0, x1, x2⟩ := HCE.out y1 HBy.out
  go_wp2_with fail
  refine (HVAL.out y1 HBy.out).mono ?_
  rintro e y2 ⟨x, rfl, hpx, hox, hb2⟩
  unfold MV.val
  obtain ⟨W3, hW3⟩ : ∃ W3, W3 = y2.alloc (.cells #[.int .i64 x.k, .int .i64 x.n, .string x.s, .slice x.lA x.l.length x.lc, .slice x.mA x.m.length x.mc] 30) := ⟨_, rfl⟩
  obtain ⟨B3, hB3⟩ : ∃ B3, B3 = y2.heap.size := ⟨_, rfl⟩
  have hb3 : Below y2.heap.size y2 W3 := by rw [hW3]; exact below_new _ _
  have hb13 : Below y1.heap.size y1 W3 := hb2.trans (hb3.mono hb2.size)
  have HB3 : Hid (Below W1.heap.size W1 W3) := Ld (HBy.out.trans (hb13.mono HBy.out.size))
  have HK3 : Hid (Blk W3 B3 30 #[.int .i64 x.k, .int .i64 x.n, .string x.s, .slice x.lA x.l.length x.lc, .slice x.mA x.m.length x.mc]) := Ld (by rw [hW3, hB3]; exact Blk.new _ _ _)
  have HVA := Ld (hox.at_.bel hb3)
  have HPX := Ld hpx
  have HW3 := Ld (And.intro hW3 hB3)
  clear hpx hox hb2 hW3 hB3 hb3 hb13 x0 x1 x2
  go_upto_region 4 with (fail)
  rw [← HW3.out.2, ← HW3.out.1]
  have HK0 : Hid (x.k = 0) := Ld (k_of HPX.out)
  go_wp2
  have RF : ∀ (v0 v1 v2 v3 v4 : Value) W, (Instr.field 30 (.agg #[v0, v1, v2, v3, v4]) 0).run Tryz.prog W = .ok v0 W := fun _ _ _ _ _ _ => rfl
  have FF : (fb != fb) = false := by simp
  refine wp_region_held_drew (S := fun V => Below W3.heap.size W3 V) (by kernel_rfl) ((Below.refl _ _).drew) (fun hS1 => ?_)
  obtain ⟨WD, hWD⟩ : ∃ WD, WD = W3.drew := ⟨_, rfl⟩
  rw [← hWD] at hS1 ⊢
  clear hWD
  refine rd1 0 rfl (fun K' hK => ?_)
  go_simp
  refine (llives_any WD (HTA.out _ (HB3.out.trans (hS1.mono HB3.out.size)))).mono ?_
  rintro e u0 ⟨rfl, hb0⟩
  go_simp
  refine hK.out _ _ ((hS1).trans (hb0.mono (hS1).size)) (fun hS2 => ?_)
  clear hK K' hS1
  refine tk 1 (some 22) (.bool false) rfl (fun V hS => by go_simp) hS2 ?_
  simp only [nf]
  refine tk 2 (some 23) (.bool false) rfl (fun V hS => by go_simp) hS2 ?_
  simp only [nf]
  refine tk 3 (some 24) (.string kind) rfl (fun V hS => by go_simp) hS2 ?_
  simp only [nf]
  refine tk 4 (some 25) (.agg #[.int .i64 v, .int .i64 e0, .slice A n c]) rfl (fun V hS => by obtain ⟨h0, h1, h2⟩ := HCE.out V (HB3.out.trans (hS.mono HB3.out.size)); go_simp) hS2 ?_
  simp only [nf]
  refine tk 6 (some 27) (.string kind) rfl (fun V hS => by go_simp) hS2 ?_
  simp only [nf]
  refine tk 7 (some 28) (.agg #[.int .i64 v, .int .i64 e0, .slice A n c]) rfl (fun V hS => by obtain ⟨h0, h1, h2⟩ := HCE.out V (HB3.out.trans (hS.mono HB3.out.size)); go_simp) hS2 ?_
  simp only [nf]
  refine rd1 5 rfl (fun K' hK => ?_)
  go_simp
  refine (HMAY.out u0 (HB3.out.trans (hS2.mono HB3.out.size))).mono ?_
  rintro e u5 ⟨rfl, hb5⟩
  go_simp
  refine hK.out _ _ ((hS2).trans (hb5.mono (hS2).size)) (fun hS3 => ?_)
  clear hK K' hS2
  refine rd1 8 rfl (fun K' hK => ?_)
  go_simp
  refine (HRMAY.out u5 (HB3.out.trans (hS3.mono HB3.out.size))).mono ?_
  rintro e u8 ⟨rfl, hb8⟩
  go_simp
  refine hK.out _ _ ((hS3).trans (hb8.mono (hS3).size)) (fun hS4 => ?_)
  clear hK K' hS3
  refine tk 9 (some 30) (.bool false) rfl (fun V hS => by go_simp) hS4 ?_
  simp only [nf]
  refine tk 10 (some 31) (.bool false) rfl (fun V hS => by go_simp) hS4 ?_
  simp only [nf]
  refine tk 11 (some 32) (.bool false) rfl (fun V hS => by go_simp) hS4 ?_
  simp only [nf]
  refine tk 12 (some 33) (.pointer (some ⟨B3, 0, none⟩)) rfl (fun V hS => by go_simp) hS4 ?_
  simp only [nf]
  refine tk 13 (some 34) (.int .i64 0) rfl (fun V hS => by have h0 := (HK3.out.below hS HK3.out.lt).cell 0; simp only [List.getElem?_toArray, List.getElem?_cons_zero, HK0.out] at h0; go_simp) hS4 ?_
  simp only [nf]
  refine tk 14 (some 35) (.string kind) rfl (fun V hS => by go_simp) hS4 ?_
  simp only [nf]
  refine tk 15 (some 36) (.agg #[.int .i64 v, .int .i64 e0, .slice A n c]) rfl (fun V hS => by obtain ⟨h0, h1, h2⟩ := HCE.out V (HB3.out.trans (hS.mono HB3.out.size)); go_simp) hS4 ?_
  simp only [nf]
  refine rd1 16 rfl (fun K' hK => ?_)
  go_simp
  refine (HRVAL.out u8 (HB3.out.trans (hS4.mono HB3.out.size))).mono ?_
  rintro e u16 ⟨y, rfl, hpy, hoy, hb16⟩
  unfold MV.val
  have hyk : y.k = 0 := k_of hpy
  rw [hyk]
  clear hpy hoy hyk
  go_simp
  refine hK.out _ _ ((hS4).trans (hb16.mono (hS4).size)) (fun hS5 => ?_)
  clear hK K' hS4
  refine tk 17 (some 38) (.int .i64 0) rfl (fun V hS => by go_simp) hS5 ?_
  simp only [nf]
  refine tk 18 (some 39) (.bool false) rfl (fun V hS => by go_simp) hS5 ?_
  simp only [nf]
  refine tk 19 (some 40) (.bool false) rfl (fun V hS => by go_simp) hS5 ?_
  simp only [nf]
  refine tk 20 (some 41) (.bool false) rfl (fun V hS => by go_simp) hS5 ?_
  simp only [nf]
  refine tk 21 (some 42) (.string name) rfl (fun V hS => by go_simp) hS5 ?_
  simp only [nf]
  refine tk 23 (some 44) (.string name) rfl (fun V hS => by go_simp) hS5 ?_
  simp only [nf]
  refine rd1 22 rfl (fun K' hK => ?_)
  go_simp
  refine (HFN.out u16).mono ?_
  rintro e u22 ⟨rfl, hb22⟩
  go_simp
  refine hK.out _ _ ((hS5).trans (hb22.mono (hS5).size)) (fun hS6 => ?_)
  clear hK K' hS5
  refine rd1 24 rfl (fun K' hK => ?_)
  go_simp
  refine (HRFN.out u22).mono ?_
  rintro e u24 ⟨rfl, rfl⟩
  go_simp
  refine hK.out _ _ (hS6) (fun hS7 => ?_)
  clear hK K' hS6
  refine tk 25 (some 46) (.bool false) rfl (fun V hS => by go_simp) hS7 ?_
  simp only [nf]
  refine tk 26 (some 47) (.bool false) rfl (fun V hS => by go_simp) hS7 ?_
  simp only [nf]
  refine wpAnyH_done (by kernel_rfl) ?_ _
  have hSF := hS7
  clear hS7 RF FF
  have HBZ := Ld (HB1.out.trans ((HB3.out.trans (hSF.mono HB3.out.size)).mono HB1.out.size))
  have z3 := (HK3.out.below hSF HK3.out.lt).cell 0
  simp only [List.getElem?_toArray, List.getElem?_cons_zero, HK0.out] at z3
  clear hSF
  go_wp2
  refine bodyPost_ret (v := .bool true) (by simp [results, Tryz.results3, go_sem]) rfl ?_
  exact ⟨rfl, HBZ.out⟩
 | true =>
  have HMT : Hid (mayL kind v e0 l = true) := Ld hmb.symm
  obtain ⟨tx, hd⟩ := DT.ex (may_nums hmb.symm).2.2.1
  have HD := Ld hd
  have HVAL : Hid (∀ V, Below W1.heap.size W1 V → Calls Tryz.prog 9 #[.string kind, .agg #[.int .i64 v, .int .i64 e0, .slice A n c]] V fun e w' => PF (OwP (valP kind v tx l) V) e w') := Ld (fun V hV => by
   have := value_yes (HTA.out V hV).u (HTA.out V hV).p kind v e0 (HM1.out V hV) hmb.symm tx hd
   rw [HN.out] at this
   exact this)
  have HRVAL : Hid (∀ V, Below W1.heap.size W1 V → Calls Tryz.prog 12 #[.string kind, .agg #[.int .i64 v, .int .i64 e0, .slice A n c]] V fun e w' => PF (OwP (refP kind v tx l) V) e w') := Ld (fun V hV => by
   have := rvalue15_yes kind v e0 tx (HM1.out V hV) hmb.symm hd
   rw [HN.out] at this
   exact this)
  clear hmb hd
  go_enter Tryz.func3, Tryz.ntmps3
  go_upto_region 1 with (fail)
  rw [← HW1.out]
  go_wp2_with fail
  refine HC9.out.mono ?_
  rintro e y1 ⟨rfl, hby⟩
  have HBy := Ld (HB.out.trans (hby.mono HB.out.size))
  clear hby x0 x1 x2
  obtain ⟨x0, x1, x2⟩ := HCE.out y1 HBy.out
  go_wp2_with fail
  refine (HVAL.out y1 HBy.out).mono ?_
  rintro e y2 ⟨x, rfl, hpx, hox, hb2⟩
  unfold MV.val
  obtain ⟨W3, hW3⟩ : ∃ W3, W3 = y2.alloc (.cells #[.int .i64 x.k, .int .i64 x.n, .string x.s, .slice x.lA x.l.length x.lc, .slice x.mA x.m.length x.mc] 30) := ⟨_, rfl⟩
  obtain ⟨B3, hB3⟩ : ∃ B3, B3 = y2.heap.size := ⟨_, rfl⟩
  have hb3 : Below y2.heap.size y2 W3 := by rw [hW3]; exact below_new _ _
  have hb13 : Below y1.heap.size y1 W3 := hb2.trans (hb3.mono hb2.size)
  have HB3 : Hid (Below W1.heap.size W1 W3) := Ld (HBy.out.trans (hb13.mono HBy.out.size))
  have HK3 : Hid (Blk W3 B3 30 #[.int .i64 x.k, .int .i64 x.n, .string x.s, .slice x.lA x.l.length x.lc, .slice x.mA x.m.length x.mc]) := Ld (by rw [hW3, hB3]; exact Blk.new _ _ _)
  have HVA := Ld (hox.at_.bel hb3)
  have HPX := Ld hpx
  have HW3 := Ld (And.intro hW3 hB3)
  clear hpx hox hb2 hW3 hB3 hb3 hb13 x0 x1 x2
  go_upto_region 4 with (fail)
  rw [← HW3.out.2, ← HW3.out.1]
  have HK0 : Hid (x.k = 6) := Ld (k_of HPX.out)
  go_wp2
  have RF : ∀ (v0 v1 v2 v3 v4 : Value) W, (Instr.field 30 (.agg #[v0, v1, v2, v3, v4]) 0).run Tryz.prog W = .ok v0 W := fun _ _ _ _ _ _ => rfl
  have FF : (fb != fb) = false := by simp
  refine wp_region_held_drew (S := fun V => Below W3.heap.size W3 V) (by kernel_rfl) ((Below.refl _ _).drew) (fun hS1 => ?_)
  obtain ⟨WD, hWD⟩ : ∃ WD, WD = W3.drew := ⟨_, rfl⟩
  rw [← hWD] at hS1 ⊢
  clear hWD
  refine rd1 0 rfl (fun K' hK => ?_)
  go_simp
  refine (llives_any WD (HTA.out _ (HB3.out.trans (hS1.mono HB3.out.size)))).mono ?_
  rintro e u0 ⟨rfl, hb0⟩
  go_simp
  refine hK.out _ _ ((hS1).trans (hb0.mono (hS1).size)) (fun hS2 => ?_)
  clear hK K' hS1
  refine tk 1 (some 22) (.bool false) rfl (fun V hS => by go_simp) hS2 ?_
  simp only [nf]
  refine tk 2 (some 23) (.bool false) rfl (fun V hS => by go_simp) hS2 ?_
  simp only [nf]
  refine tk 3 (some 24) (.string kind) rfl (fun V hS => by go_simp) hS2 ?_
  simp only [nf]
  refine tk 4 (some 25) (.agg #[.int .i64 v, .int .i64 e0, .slice A n c]) rfl (fun V hS => by obtain ⟨h0, h1, h2⟩ := HCE.out V (HB3.out.trans (hS.mono HB3.out.size)); go_simp) hS2 ?_
  simp only [nf]
  refine tk 6 (some 27) (.string kind) rfl (fun V hS => by go_simp) hS2 ?_
  simp only [nf]
  refine tk 7 (some 28) (.agg #[.int .i64 v, .int .i64 e0, .slice A n c]) rfl (fun V hS => by obtain ⟨h0, h1, h2⟩ := HCE.out V (HB3.out.trans (hS.mono HB3.out.size)); go_simp) hS2 ?_
  simp only [nf]
  refine rd1 5 rfl (fun K' hK => ?_)
  go_simp
  refine (HMAY.out u0 (HB3.out.trans (hS2.mono HB3.out.size))).mono ?_
  rintro e u5 ⟨rfl, hb5⟩
  go_simp
  refine hK.out _ _ ((hS2).trans (hb5.mono (hS2).size)) (fun hS3 => ?_)
  clear hK K' hS2
  refine rd1 8 rfl (fun K' hK => ?_)
  go_simp
  refine (HRMAY.out u5 (HB3.out.trans (hS3.mono HB3.out.size))).mono ?_
  rintro e u8 ⟨rfl, hb8⟩
  go_simp
  refine hK.out _ _ ((hS3).trans (hb8.mono (hS3).size)) (fun hS4 => ?_)
  clear hK K' hS3
  refine tk 9 (some 30) (.bool false) rfl (fun V hS => by go_simp) hS4 ?_
  simp only [nf]
  refine tk 10 (some 31) (.bool false) rfl (fun V hS => by go_simp) hS4 ?_
  simp only [nf]
  refine tk 11 (some 32) (.bool false) rfl (fun V hS => by go_simp) hS4 ?_
  simp only [nf]
  refine tk 12 (some 33) (.pointer (some ⟨B3, 0, none⟩)) rfl (fun V hS => by go_simp) hS4 ?_
  simp only [nf]
  refine tk 13 (some 34) (.int .i64 6) rfl (fun V hS => by have h0 := (HK3.out.below hS HK3.out.lt).cell 0; simp only [List.getElem?_toArray, List.getElem?_cons_zero, HK0.out] at h0; go_simp) hS4 ?_
  simp only [nf]
  refine tk 14 (some 35) (.string kind) rfl (fun V hS => by go_simp) hS4 ?_
  simp only [nf]
  refine tk 15 (some 36) (.agg #[.int .i64 v, .int .i64 e0, .slice A n c]) rfl (fun V hS => by obtain ⟨h0, h1, h2⟩ := HCE.out V (HB3.out.trans (hS.mono HB3.out.size)); go_simp) hS4 ?_
  simp only [nf]
  refine rd1 16 rfl (fun K' hK => ?_)
  go_simp
  refine (HRVAL.out u8 (HB3.out.trans (hS4.mono HB3.out.size))).mono ?_
  rintro e u16 ⟨y, rfl, hpy, hoy, hb16⟩
  unfold MV.val
  have hyk : y.k = 6 := k_of hpy
  rw [hyk]
  clear hpy hoy hyk
  go_simp
  refine hK.out _ _ ((hS4).trans (hb16.mono (hS4).size)) (fun hS5 => ?_)
  clear hK K' hS4
  refine tk 17 (some 38) (.int .i64 6) rfl (fun V hS => by go_simp) hS5 ?_
  simp only [nf]
  refine tk 18 (some 39) (.bool false) rfl (fun V hS => by go_simp) hS5 ?_
  simp only [nf]
  refine tk 19 (some 40) (.bool false) rfl (fun V hS => by go_simp) hS5 ?_
  simp only [nf]
  refine tk 20 (some 41) (.bool false) rfl (fun V hS => by go_simp) hS5 ?_
  simp only [nf]
  refine tk 21 (some 42) (.string name) rfl (fun V hS => by go_simp) hS5 ?_
  simp only [nf]
  refine tk 23 (some 44) (.string name) rfl (fun V hS => by go_simp) hS5 ?_
  simp only [nf]
  refine rd1 22 rfl (fun K' hK => ?_)
  go_simp
  refine (HFN.out u16).mono ?_
  rintro e u22 ⟨rfl, hb22⟩
  go_simp
  refine hK.out _ _ ((hS5).trans (hb22.mono (hS5).size)) (fun hS6 => ?_)
  clear hK K' hS5
  refine rd1 24 rfl (fun K' hK => ?_)
  go_simp
  refine (HRFN.out u22).mono ?_
  rintro e u24 ⟨rfl, rfl⟩
  go_simp
  refine hK.out _ _ (hS6) (fun hS7 => ?_)
  clear hK K' hS6
  refine tk 25 (some 46) (.bool false) rfl (fun V hS => by go_simp) hS7 ?_
  simp only [nf]
  refine tk 26 (some 47) (.bool false) rfl (fun V hS => by go_simp) hS7 ?_
  simp only [nf]
  refine wpAnyH_done (by kernel_rfl) ?_ _
  have hSF := hS7
  clear hS7 RF FF
  obtain ⟨WZ, hWZ⟩ : ∃ WZ, WZ = u22 := ⟨_, rfl⟩
  rw [← hWZ] at hSF ⊢
  have HB5 : Hid (Below W1.heap.size W1 WZ) := Ld (HB3.out.trans (hSF.mono HB3.out.size))
  have HK5 := Ld (HK3.out.below hSF HK3.out.lt)
  have HVA5 := Ld (HVA.out.bel hSF)
  clear hSF hWZ
  have hrd := read_yes (HTA.out WZ HB5.out).m (HTA.out WZ HB5.out).u (HTA.out WZ HB5.out).p HVA5.out kind v e0 tx l HPX.out HMT.out HD.out (HM1.out WZ HB5.out).wf (HM1.out WZ HB5.out).sz
  unfold MV.val at hrd
  have HRD := Ld hrd
  clear hrd
  obtain ⟨k0, k1, k2, k3, k4⟩ := five_cells HK5.out
  rw [HK0.out] at k0
  go_wp2_with fail
  rw [HK0.out] at HRD
  refine HRD.out.mono ?_
  rintro e w6 ⟨AX, cX, rfl, hmx, hb6⟩
  rw [HN.out]
  obtain ⟨W7, hW7⟩ : ∃ W7, W7 = w6.alloc (.cells #[.int .i64 v, .int .i64 e0, .slice AX n cX] 24) := ⟨_, rfl⟩
  obtain ⟨BX, hBX⟩ : ∃ BX, BX = w6.heap.size := ⟨_, rfl⟩
  have hb7 : Below w6.heap.size w6 W7 := by rw [hW7]; exact (Below.refl _ _).alloc (Nat.le_refl _) _
  have hb57 : Below WZ.heap.size WZ W7 := hb6.trans (hb7.mono hb6.size)
  have HB7 : Hid (Below W1.heap.size W1 W7) := Ld (HB5.out.trans (hb57.mono HB5.out.size))
  have HK7 := Ld (HK5.out.below hb57 HK5.out.lt)
  have HVA7 := Ld (HVA5.out.bel hb57)
  have HMX7 := Ld (hmx.bel hb7)
  have HKX : Hid (Blk W7 BX 24 #[.int .i64 v, .int .i64 e0, .slice AX n cX]) := Ld (by rw [hW7, hBX]; exact Blk.new _ _ _)
  have HW7 := Ld (And.intro hW7 hBX)
  clear hb6 hmx hW7 hBX hb7 hb57 k0 k1 k2 k3 k4
  have HC9b : Hid (∀ V, Below W7.heap.size W7 V → (V.cell? ⟨w.heap.size, 0, none⟩ = some (.int .i64 v) ∧ V.cell? ⟨w.heap.size, 1, none⟩ = some (.int .i64 e0) ∧ V.cell? ⟨w.heap.size, 2, none⟩ = some (.slice A n c)) ∧ (V.cell? ⟨BX, 0, none⟩ = some (.int .i64 v) ∧ V.cell? ⟨BX, 1, none⟩ = some (.int .i64 e0) ∧ V.cell? ⟨BX, 2, none⟩ = some (.slice AX n cX)) ∧ (V.cell? ⟨B3, 0, none⟩ = some (.int .i64 6) ∧ V.cell? ⟨B3, 1, none⟩ = some (.int .i64 x.n) ∧ V.cell? ⟨B3, 2, none⟩ = some (.string x.s) ∧ V.cell? ⟨B3, 3, none⟩ = some (.slice x.lA x.l.length x.lc) ∧ V.cell? ⟨B3, 4, none⟩ = some (.slice x.mA x.m.length x.mc))) := Ld (fun V hV => ⟨HCE.out V (HB7.out.trans (hV.mono HB7.out.size)), three_cells (HKX.out.below hV HKX.out.lt), by
   obtain ⟨k0, k1, k2, k3, k4⟩ := five_cells (HK7.out.below hV HK7.out.lt)
   rw [HK0.out] at k0
   exact ⟨k0, k1, k2, k3, k4⟩⟩)
  go_upto_region 9 with (fail)
  rw [← HW7.out.2, ← HW7.out.1]
  go_wp2
  refine wp_region_held_drew (S := fun V => Below W7.heap.size W7 V) (by kernel_rfl) ((Below.refl _ _).drew) (fun hS1 => ?_)
  obtain ⟨WD, hWD⟩ : ∃ WD, WD = W7.drew := ⟨_, rfl⟩
  rw [← hWD] at hS1 ⊢
  clear hWD
  refine tk 0 (some 57) (.int .i64 0) rfl (fun V hS => by go_simp) hS1 ?_
  simp only [nf]
  refine tk 1 (some 58) (.bool true) rfl (fun V hS => by go_simp) hS1 ?_
  simp only [nf]
  refine tk 2 (some 59) (.bool true) rfl (fun V hS => by go_simp) hS1 ?_
  simp only [nf]
  refine tk 3 (some 60) (.agg #[.int .i64 v, .int .i64 e0, .slice AX n cX]) rfl (fun V hS => by obtain ⟨⟨h0, h1, h2⟩, ⟨h3, h4, h5⟩, ⟨h6, h7, h8, h9, h10⟩⟩ := HC9b.out V hS; go_simp) hS1 ?_
  simp only [nf]
  refine tk 4 (some 61) (.agg #[.int .i64 v, .int .i64 e0, .slice A n c]) rfl (fun V hS => by obtain ⟨⟨h0, h1, h2⟩, ⟨h3, h4, h5⟩, ⟨h6, h7, h8, h9, h10⟩⟩ := HC9b.out V hS; go_simp) hS1 ?_
  simp only [nf]
  refine rd1 5 rfl (fun K' hK => ?_)
  go_simp
  have hsm := rsame15_any v e0 (HMX7.out.bel hS1) (HM1.out WD (HB7.out.trans (hS1.mono HB7.out.size)))
  rw [HN.out] at hsm
  refine hsm.mono ?_
  clear hsm
  rintro e u5 ⟨rfl, hb5⟩
  go_simp
  refine hK.out _ _ ((hS1).trans (hb5.mono (hS1).size)) (fun hS2 => ?_)
  clear hK K' hS1
  refine tk 6 (some 63) (.bool true) rfl (fun V hS => by go_simp) hS2 ?_
  simp only [nf]
  refine tk 7 (some 64) (.bool true) rfl (fun V hS => by go_simp) hS2 ?_
  simp only [nf]
  refine tk 8 (some 65) (.agg #[.int .i64 6, .int .i64 x.n, .string x.s, .slice x.lA x.l.length x.lc, .slice x.mA x.m.length x.mc]) rfl (fun V hS => by obtain ⟨⟨h0, h1, h2⟩, ⟨h3, h4, h5⟩, ⟨h6, h7, h8, h9, h10⟩⟩ := HC9b.out V hS; go_simp) hS2 ?_
  simp only [nf]
  refine tk 9 (some 66) (.string kind) rfl (fun V hS => by go_simp) hS2 ?_
  simp only [nf]
  refine tk 10 (some 67) (.agg #[.int .i64 v, .int .i64 e0, .slice A n c]) rfl (fun V hS => by obtain ⟨⟨h0, h1, h2⟩, ⟨h3, h4, h5⟩, ⟨h6, h7, h8, h9, h10⟩⟩ := HC9b.out V hS; go_simp) hS2 ?_
  simp only [nf]
  refine rd1 11 rfl (fun K' hK => ?_)
  go_simp
  refine (HRVAL.out u5 (HB7.out.trans (hS2.mono HB7.out.size))).mono ?_
  rintro e u11 ⟨y, rfl, hpy, hoy, hb11⟩
  unfold MV.val
  have HPY := Ld hpy
  have HVY := Ld hoy.at_
  clear hpy hoy
  go_simp
  refine hK.out _ _ ((hS2).trans (hb11.mono (hS2).size)) (fun hS3 => ?_)
  clear hK K' hS2
  refine rd1 12 rfl (fun K' hK => ?_)
  go_simp
  have hsm := rsame_any (val_fine (HVA7.out.bel hS3) HMT.out HD.out (HM1.out W1 HB.out).sz (.inl HPX.out)) (val_fine HVY.out HMT.out HD.out (HM1.out W1 HB.out).sz (.inr HPY.out))
  unfold MV.val at hsm
  rw [HPX.out, HPY.out, val_same HMT.out HD.out, HK0.out] at hsm
  refine hsm.mono ?_
  clear hsm
  rintro e u12 ⟨rfl, hb12⟩
  go_simp
  refine hK.out _ _ ((hS3).trans (hb12.mono (hS3).size)) (fun hS4 => ?_)
  clear hK K' hS3
  refine tk 13 (some 70) (.bool true) rfl (fun V hS => by go_simp) hS4 ?_
  simp only [nf]
  refine tk 14 (some 6) (.bool true) rfl (fun V hS => by go_simp) hS4 ?_
  simp only [nf]
  refine wpAnyH_done (by kernel_rfl) ?_ _
  have hSG := hS4
  clear hS4
  have HBZ := Ld (HB1.out.trans ((HB7.out.trans (hSG.mono HB7.out.size)).mono HB1.out.size))
  clear hSG
  go_wp2
  refine bodyPost_ret (v := .bool true) (by simp [results, Tryz.results3, go_sem]) rfl ?_
  exact ⟨rfl, HBZ.out⟩
end Go.Proofs.YtefkpphahimkgaaGreatDoor
