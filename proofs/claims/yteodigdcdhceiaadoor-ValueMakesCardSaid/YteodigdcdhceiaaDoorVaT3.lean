/-
  The document's Same.
-/
import Derived.Test.YteodigdcdhceiaaDoorVaT2
namespace Go.Proofs.YteodigdcdhceiaaDoor
open Go.RowKit
attribute [local go_sem ↓] Go.wp_at_zero Go.wp_at_succ
set_option linter.unusedVariables false
set_option linter.unusedSimpArgs false

set_option maxRecDepth 100000 in
set_option maxHeartbeats 2000000 in
theorem rsame_any {a b : MV} {w : World} (h : Fine w a) (h' : Fine w b) : Calls Tryd.prog 10 #[a.val, b.val] w fun e w' => PF (RiP (sameP a.pv b.pv) w) e w' := by
  obtain ⟨WX, hWX⟩ : ∃ WX, WX = ((w.alloc (.cells #[.int .i64 a.k, .int .i64 a.n, .string a.s, .slice a.lA a.l.length a.lc, .slice a.mA a.m.length a.mc] 25)).alloc (.cells #[.int .i64 b.k, .int .i64 b.n, .string b.s, .slice b.lA b.l.length b.lc, .slice b.mA b.m.length b.mc] 25)) := ⟨_, rfl⟩
  have hb2 : Below w.heap.size w WX := by rw [hWX]; exact below_al _ (below_new _ _)
  have hkx : Blk WX w.heap.size 25 #[.int .i64 a.k, .int .i64 a.n, .string a.s, .slice a.lA a.l.length a.lc, .slice a.mA a.m.length a.mc] := by rw [hWX]; exact (Blk.new _ _ _).alloc _
  have hky : Blk WX (w.heap.size + 1) 25 #[.int .i64 b.k, .int .i64 b.n, .string b.s, .slice b.lA b.l.length b.lc, .slice b.mA b.m.length b.mc] := by
    rw [hWX]
    have h2 := Blk.new (w.alloc (.cells #[.int .i64 a.k, .int .i64 a.n, .string a.s, .slice a.lA a.l.length a.lc, .slice a.mA a.m.length a.mc] 25)) 25 #[.int .i64 b.k, .int .i64 b.n, .string b.s, .slice b.lA b.l.length b.lc, .slice b.mA b.m.length b.mc]
    simpa using h2
  have hc := fun V (hV : Below WX.heap.size WX V) => rcheck_any ((h.bel hb2).bel hV)
  have hc' := fun V (hV : Below WX.heap.size WX V) => rcheck_any ((h'.bel hb2).bel hV)
  obtain ⟨C, hC⟩ : ∃ C, C = a.pv.chk := ⟨_, rfl⟩
  obtain ⟨D, hD⟩ : ∃ D, D = b.pv.chk := ⟨_, rfl⟩
  have hs : C = 0 → ∀ V (hV : Below WX.heap.size WX V), Calls Tryd.prog 13 #[a.val] V fun e w' => PF (OwP a.pv.sort V) e w' := fun e V hV => rsort_any ((h.at_.bel hb2).bel hV) h.ok (chk_zero.1 (hC.symm.trans e)).2.2 V (Below.refl _ _)
  have hs' : D = 0 → ∀ V (hV : Below WX.heap.size WX V), Calls Tryd.prog 13 #[b.val] V fun e w' => PF (OwP b.pv.sort V) e w' := fun e V hV => rsort_any ((h'.at_.bel hb2).bel hV) h'.ok (chk_zero.1 (hD.symm.trans e)).2.2 V (Below.refl _ _)
  obtain ⟨R, hR⟩ : ∃ R, R = sameP a.pv b.pv := ⟨_, rfl⟩
  rw [← hC] at hc
  rw [← hD] at hc'
  rw [← hR]
  have HR : Hid (R = (decide (C = 0) && (decide (D = 0) && decide (a.pv.sort = b.pv.sort)))) := Lib.hid (by rw [hR, hC, hD]; rfl)
  unfold MV.val at hc hc' hs hs' ⊢
  have HC := Lib.hid hc
  have HD := Lib.hid hc'
  have HS := Lib.hid hs
  have HS' := Lib.hid hs'
  have HBX := Lib.hid hb2
  have HWX := Lib.hid hWX
  have HSV : Hid (∀ V, Below WX.heap.size WX V → (V.cell? ⟨w.heap.size, 0, none⟩ = some (.int .i64 a.k) ∧ V.cell? ⟨w.heap.size, 1, none⟩ = some (.int .i64 a.n) ∧ V.cell? ⟨w.heap.size, 2, none⟩ = some (.string a.s) ∧ V.cell? ⟨w.heap.size, 3, none⟩ = some (.slice a.lA a.l.length a.lc) ∧ V.cell? ⟨w.heap.size, 4, none⟩ = some (.slice a.mA a.m.length a.mc)) ∧ (V.cell? ⟨w.heap.size + 1, 0, none⟩ = some (.int .i64 b.k) ∧ V.cell? ⟨w.heap.size + 1, 1, none⟩ = some (.int .i64 b.n) ∧ V.cell? ⟨w.heap.size + 1, 2, none⟩ = some (.string b.s) ∧ V.cell? ⟨w.heap.size + 1, 3, none⟩ = some (.slice b.lA b.l.length b.lc) ∧ V.cell? ⟨w.heap.size + 1, 4, none⟩ = some (.slice b.mA b.m.length b.mc))) := Lib.hid (fun V hV => ⟨five_cells (hkx.below hV hkx.lt), five_cells (hky.below hV hky.lt)⟩)
  clear hc hc' hs hs' h h' hC hD hR hb2 hWX hkx hky
  by_cases h0 : C = 0
  rotate_left
  · have q1 : (C == 0) = false := by rw [beq_eq_false_iff_ne]; exact h0
    have HF : Hid (R = false) := Lib.hid (by rw [HR.out, decide_eq_false h0]; rfl)
    clear h0
    go_enter Tryd.func10, Tryd.ntmps10
    go_wp2
    rw [← HWX.out]
    refine wp_region_held_drew (S := fun V => Below WX.heap.size WX V) (by kernel_rfl) ((Below.refl _ _).drew) (fun hS1 => ?_)
    refine wpAnyH_take (i := 0) (oi := ⟨some 5, _, _, _, _, _⟩) (v := .agg #[.int .i64 a.k, .int .i64 a.n, .string a.s, .slice a.lA a.l.length a.lc, .slice a.mA a.m.length a.mc]) rfl (by kernel_rfl) (by kernel_rfl) (by kernel_rfl) (fun _ _ _ h => h) (.inl ⟨by kernel_rfl, fun V hS => by obtain ⟨⟨h0, h1, h2, h3, h4⟩, _⟩ := HSV.out V hS; go_simp⟩) hS1 ?_
    simp only [Act.put, List.setIfInBounds_toArray, List.set_cons_zero, List.set_cons_succ]
    refine wpAnyH_ready (rs := [1]) (by kernel_rfl) (by simp) ?_
    refine AllReadyH.cons rfl (fun K' hK => ?_) AllReadyH.nil
    go_simp
    refine (HC.out _ hS1).mono ?_
    rintro e w3 ⟨rfl, hb3⟩
    go_simp
    refine hK.out _ _ ((hS1).trans (hb3.mono (hS1).size)) (fun hS2 => ?_)
    clear hK K' hS1
    refine wpAnyH_take (i := 2) (oi := ⟨some 7, _, _, _, _, _⟩) (v := .bool false) rfl (by kernel_rfl) (by kernel_rfl) (by kernel_rfl) (fun _ _ _ h => h) (.inl ⟨by kernel_rfl, fun V hS => by go_simp⟩) hS2 ?_
    simp only [Act.put, List.setIfInBounds_toArray, List.set_cons_zero, List.set_cons_succ]
    refine wpAnyH_take (i := 3) (oi := ⟨some 8, _, _, _, _, _⟩) (v := .bool false) rfl (by kernel_rfl) (by kernel_rfl) (by kernel_rfl) (fun _ _ _ h => h) (.inl ⟨by kernel_rfl, fun V hS => by go_simp⟩) hS2 ?_
    simp only [Act.put, List.setIfInBounds_toArray, List.set_cons_zero, List.set_cons_succ]
    refine wpAnyH_take (i := 4) (oi := ⟨some 9, _, _, _, _, _⟩) (v := undef) rfl (by kernel_rfl) (by kernel_rfl) (by kernel_rfl) (fun _ _ _ h => h) (.inr ⟨by kernel_rfl, rfl⟩) hS2 ?_
    simp only [Act.put, List.setIfInBounds_toArray, List.set_cons_zero, List.set_cons_succ]
    refine wpAnyH_take (i := 5) (oi := ⟨some 10, _, _, _, _, _⟩) (v := undef) rfl (by kernel_rfl) (by kernel_rfl) (by kernel_rfl) (fun _ _ _ h => h) (.inr ⟨by kernel_rfl, rfl⟩) hS2 ?_
    simp only [Act.put, List.setIfInBounds_toArray, List.set_cons_zero, List.set_cons_succ]
    refine wpAnyH_take (i := 6) (oi := ⟨some 11, _, _, _, _, _⟩) (v := undef) rfl (by kernel_rfl) (by kernel_rfl) (by kernel_rfl) (fun _ _ _ h => h) (.inr ⟨by kernel_rfl, rfl⟩) hS2 ?_
    simp only [Act.put, List.setIfInBounds_toArray, List.set_cons_zero, List.set_cons_succ]
    refine wpAnyH_take (i := 7) (oi := ⟨some 12, _, _, _, _, _⟩) (v := .bool false) rfl (by kernel_rfl) (by kernel_rfl) (by kernel_rfl) (fun _ _ _ h => h) (.inl ⟨by kernel_rfl, fun V hS => by go_simp⟩) hS2 ?_
    simp only [Act.put, List.setIfInBounds_toArray, List.set_cons_zero, List.set_cons_succ]
    refine wpAnyH_take (i := 8) (oi := ⟨some 13, _, _, _, _, _⟩) (v := .bool false) rfl (by kernel_rfl) (by kernel_rfl) (by kernel_rfl) (fun _ _ _ h => h) (.inl ⟨by kernel_rfl, fun V hS => by go_simp⟩) hS2 ?_
    simp only [Act.put, List.setIfInBounds_toArray, List.set_cons_zero, List.set_cons_succ]
    refine wpAnyH_take (i := 9) (oi := ⟨some 14, _, _, _, _, _⟩) (v := undef) rfl (by kernel_rfl) (by kernel_rfl) (by kernel_rfl) (fun _ _ _ h => h) (.inr ⟨by kernel_rfl, rfl⟩) hS2 ?_
    simp only [Act.put, List.setIfInBounds_toArray, List.set_cons_zero, List.set_cons_succ]
    refine wpAnyH_take (i := 10) (oi := ⟨some 15, _, _, _, _, _⟩) (v := undef) rfl (by kernel_rfl) (by kernel_rfl) (by kernel_rfl) (fun _ _ _ h => h) (.inr ⟨by kernel_rfl, rfl⟩) hS2 ?_
    simp only [Act.put, List.setIfInBounds_toArray, List.set_cons_zero, List.set_cons_succ]
    refine wpAnyH_take (i := 11) (oi := ⟨some 16, _, _, _, _, _⟩) (v := undef) rfl (by kernel_rfl) (by kernel_rfl) (by kernel_rfl) (fun _ _ _ h => h) (.inr ⟨by kernel_rfl, rfl⟩) hS2 ?_
    simp only [Act.put, List.setIfInBounds_toArray, List.set_cons_zero, List.set_cons_succ]
    refine wpAnyH_take (i := 12) (oi := ⟨some 17, _, _, _, _, _⟩) (v := undef) rfl (by kernel_rfl) (by kernel_rfl) (by kernel_rfl) (fun _ _ _ h => h) (.inr ⟨by kernel_rfl, rfl⟩) hS2 ?_
    simp only [Act.put, List.setIfInBounds_toArray, List.set_cons_zero, List.set_cons_succ]
    refine wpAnyH_take (i := 13) (oi := ⟨some 18, _, _, _, _, _⟩) (v := undef) rfl (by kernel_rfl) (by kernel_rfl) (by kernel_rfl) (fun _ _ _ h => h) (.inr ⟨by kernel_rfl, rfl⟩) hS2 ?_
    simp only [Act.put, List.setIfInBounds_toArray, List.set_cons_zero, List.set_cons_succ]
    refine wpAnyH_take (i := 14) (oi := ⟨some 19, _, _, _, _, _⟩) (v := .bool false) rfl (by kernel_rfl) (by kernel_rfl) (by kernel_rfl) (fun _ _ _ h => h) (.inl ⟨by kernel_rfl, fun V hS => by go_simp⟩) hS2 ?_
    simp only [Act.put, List.setIfInBounds_toArray, List.set_cons_zero, List.set_cons_succ]
    refine wpAnyH_take (i := 15) (oi := ⟨some 4, _, _, _, _, _⟩) (v := .bool false) rfl (by kernel_rfl) (by kernel_rfl) (by kernel_rfl) (fun _ _ _ h => h) (.inl ⟨by kernel_rfl, fun V hS => by go_simp⟩) hS2 ?_
    simp only [Act.put, List.setIfInBounds_toArray, List.set_cons_zero, List.set_cons_succ]
    refine wpAnyH_done (by kernel_rfl) ?_ _
    have HBE : Hid (Below w.heap.size w _) := Lib.hid (HBX.out.trans (hS2.mono HBX.out.size))
    clear hS2
    go_wp2
    go_ret
    exact ⟨by rw [HF.out]; rfl, HBE.out⟩
  have q1 : (C == 0) = true := by rw [h0]; rfl
  have HSA := Lib.hid (HS.out h0)
  have H0 := Lib.hid h0
  clear h0
  by_cases h1 : D = 0
  rotate_left
  · have q3 : (D == 0) = false := by rw [beq_eq_false_iff_ne]; exact h1
    have HF : Hid (R = false) := Lib.hid (by rw [HR.out, decide_eq_false h1]; simp)
    clear h1
    go_enter Tryd.func10, Tryd.ntmps10
    go_wp2
    rw [← HWX.out]
    refine wp_region_held_drew (S := fun V => Below WX.heap.size WX V) (by kernel_rfl) ((Below.refl _ _).drew) (fun hS1 => ?_)
    refine wpAnyH_take (i := 0) (oi := ⟨some 5, _, _, _, _, _⟩) (v := .agg #[.int .i64 a.k, .int .i64 a.n, .string a.s, .slice a.lA a.l.length a.lc, .slice a.mA a.m.length a.mc]) rfl (by kernel_rfl) (by kernel_rfl) (by kernel_rfl) (fun _ _ _ h => h) (.inl ⟨by kernel_rfl, fun V hS => by obtain ⟨⟨h0, h1, h2, h3, h4⟩, _⟩ := HSV.out V hS; go_simp⟩) hS1 ?_
    simp only [Act.put, List.setIfInBounds_toArray, List.set_cons_zero, List.set_cons_succ]
    refine wpAnyH_ready (rs := [1]) (by kernel_rfl) (by simp) ?_
    refine AllReadyH.cons rfl (fun K' hK => ?_) AllReadyH.nil
    go_simp
    refine (HC.out _ hS1).mono ?_
    rintro e w3 ⟨rfl, hb3⟩
    go_simp
    refine hK.out _ _ ((hS1).trans (hb3.mono (hS1).size)) (fun hS2 => ?_)
    clear hK K' hS1
    refine wpAnyH_take (i := 2) (oi := ⟨some 7, _, _, _, _, _⟩) (v := .bool true) rfl (by kernel_rfl) (by kernel_rfl) (by kernel_rfl) (fun _ _ _ h => h) (.inl ⟨by kernel_rfl, fun V hS => by go_simp⟩) hS2 ?_
    simp only [Act.put, List.setIfInBounds_toArray, List.set_cons_zero, List.set_cons_succ]
    refine wpAnyH_take (i := 3) (oi := ⟨some 8, _, _, _, _, _⟩) (v := .bool true) rfl (by kernel_rfl) (by kernel_rfl) (by kernel_rfl) (fun _ _ _ h => h) (.inl ⟨by kernel_rfl, fun V hS => by go_simp⟩) hS2 ?_
    simp only [Act.put, List.setIfInBounds_toArray, List.set_cons_zero, List.set_cons_succ]
    refine wpAnyH_take (i := 4) (oi := ⟨some 9, _, _, _, _, _⟩) (v := .agg #[.int .i64 b.k, .int .i64 b.n, .string b.s, .slice b.lA b.l.length b.lc, .slice b.mA b.m.length b.mc]) rfl (by kernel_rfl) (by kernel_rfl) (by kernel_rfl) (fun _ _ _ h => h) (.inl ⟨by kernel_rfl, fun V hS => by obtain ⟨_, ⟨h0, h1, h2, h3, h4⟩⟩ := HSV.out V hS; go_simp⟩) hS2 ?_
    simp only [Act.put, List.setIfInBounds_toArray, List.set_cons_zero, List.set_cons_succ]
    refine wpAnyH_ready (rs := [5]) (by kernel_rfl) (by simp) ?_
    refine AllReadyH.cons rfl (fun K' hK => ?_) AllReadyH.nil
    go_simp
    refine (HD.out _ hS2).mono ?_
    rintro e w4 ⟨rfl, hb4⟩
    go_simp
    refine hK.out _ _ ((hS2).trans (hb4.mono (hS2).size)) (fun hS3 => ?_)
    clear hK K' hS2
    refine wpAnyH_take (i := 6) (oi := ⟨some 11, _, _, _, _, _⟩) (v := .bool false) rfl (by kernel_rfl) (by kernel_rfl) (by kernel_rfl) (fun _ _ _ h => h) (.inl ⟨by kernel_rfl, fun V hS => by go_simp⟩) hS3 ?_
    simp only [Act.put, List.setIfInBounds_toArray, List.set_cons_zero, List.set_cons_succ]
    refine wpAnyH_take (i := 7) (oi := ⟨some 12, _, _, _, _, _⟩) (v := .bool false) rfl (by kernel_rfl) (by kernel_rfl) (by kernel_rfl) (fun _ _ _ h => h) (.inl ⟨by kernel_rfl, fun V hS => by go_simp⟩) hS3 ?_
    simp only [Act.put, List.setIfInBounds_toArray, List.set_cons_zero, List.set_cons_succ]
    refine wpAnyH_take (i := 8) (oi := ⟨some 13, _, _, _, _, _⟩) (v := .bool false) rfl (by kernel_rfl) (by kernel_rfl) (by kernel_rfl) (fun _ _ _ h => h) (.inl ⟨by kernel_rfl, fun V hS => by go_simp⟩) hS3 ?_
    simp only [Act.put, List.setIfInBounds_toArray, List.set_cons_zero, List.set_cons_succ]
    refine wpAnyH_take (i := 9) (oi := ⟨some 14, _, _, _, _, _⟩) (v := undef) rfl (by kernel_rfl) (by kernel_rfl) (by kernel_rfl) (fun _ _ _ h => h) (.inr ⟨by kernel_rfl, rfl⟩) hS3 ?_
    simp only [Act.put, List.setIfInBounds_toArray, List.set_cons_zero, List.set_cons_succ]
    refine wpAnyH_take (i := 10) (oi := ⟨some 15, _, _, _, _, _⟩) (v := undef) rfl (by kernel_rfl) (by kernel_rfl) (by kernel_rfl) (fun _ _ _ h => h) (.inr ⟨by kernel_rfl, rfl⟩) hS3 ?_
    simp only [Act.put, List.setIfInBounds_toArray, List.set_cons_zero, List.set_cons_succ]
    refine wpAnyH_take (i := 11) (oi := ⟨some 16, _, _, _, _, _⟩) (v := undef) rfl (by kernel_rfl) (by kernel_rfl) (by kernel_rfl) (fun _ _ _ h => h) (.inr ⟨by kernel_rfl, rfl⟩) hS3 ?_
    simp only [Act.put, List.setIfInBounds_toArray, List.set_cons_zero, List.set_cons_succ]
    refine wpAnyH_take (i := 12) (oi := ⟨some 17, _, _, _, _, _⟩) (v := undef) rfl (by kernel_rfl) (by kernel_rfl) (by kernel_rfl) (fun _ _ _ h => h) (.inr ⟨by kernel_rfl, rfl⟩) hS3 ?_
    simp only [Act.put, List.setIfInBounds_toArray, List.set_cons_zero, List.set_cons_succ]
    refine wpAnyH_take (i := 13) (oi := ⟨some 18, _, _, _, _, _⟩) (v := undef) rfl (by kernel_rfl) (by kernel_rfl) (by kernel_rfl) (fun _ _ _ h => h) (.inr ⟨by kernel_rfl, rfl⟩) hS3 ?_
    simp only [Act.put, List.setIfInBounds_toArray, List.set_cons_zero, List.set_cons_succ]
    refine wpAnyH_take (i := 14) (oi := ⟨some 19, _, _, _, _, _⟩) (v := .bool false) rfl (by kernel_rfl) (by kernel_rfl) (by kernel_rfl) (fun _ _ _ h => h) (.inl ⟨by kernel_rfl, fun V hS => by go_simp⟩) hS3 ?_
    simp only [Act.put, List.setIfInBounds_toArray, List.set_cons_zero, List.set_cons_succ]
    refine wpAnyH_take (i := 15) (oi := ⟨some 4, _, _, _, _, _⟩) (v := .bool false) rfl (by kernel_rfl) (by kernel_rfl) (by kernel_rfl) (fun _ _ _ h => h) (.inl ⟨by kernel_rfl, fun V hS => by go_simp⟩) hS3 ?_
    simp only [Act.put, List.setIfInBounds_toArray, List.set_cons_zero, List.set_cons_succ]
    refine wpAnyH_done (by kernel_rfl) ?_ _
    have HBE : Hid (Below w.heap.size w _) := Lib.hid (HBX.out.trans (hS3.mono HBX.out.size))
    clear hS3
    go_wp2
    go_ret
    exact ⟨by rw [HF.out]; rfl, HBE.out⟩
  have q3 : (D == 0) = true := by rw [h1]; rfl
  have HSB := Lib.hid (HS'.out h1)
  have HRR : Hid (R = decide (a.pv.sort = b.pv.sort)) := Lib.hid (by rw [HR.out, decide_eq_true H0.out, decide_eq_true h1]; rfl)
  clear h1
  go_enter Tryd.func10, Tryd.ntmps10
  go_wp2
  rw [← HWX.out]
  refine wp_region_held_drew (S := fun V => Below WX.heap.size WX V) (by kernel_rfl) ((Below.refl _ _).drew) (fun hS1 => ?_)
  refine wpAnyH_take (i := 0) (oi := ⟨some 5, _, _, _, _, _⟩) (v := .agg #[.int .i64 a.k, .int .i64 a.n, .string a.s, .slice a.lA a.l.length a.lc, .slice a.mA a.m.length a.mc]) rfl (by kernel_rfl) (by kernel_rfl) (by kernel_rfl) (fun _ _ _ h => h) (.inl ⟨by kernel_rfl, fun V hS => by obtain ⟨⟨h0, h1, h2, h3, h4⟩, _⟩ := HSV.out V hS; go_simp⟩) hS1 ?_
  simp only [Act.put, List.setIfInBounds_toArray, List.set_cons_zero, List.set_cons_succ]
  refine wpAnyH_ready (rs := [1]) (by kernel_rfl) (by simp) ?_
  refine AllReadyH.cons rfl (fun K' hK => ?_) AllReadyH.nil
  go_simp
  refine (HC.out _ hS1).mono ?_
  rintro e w3 ⟨rfl, hb3⟩
  go_simp
  refine hK.out _ _ ((hS1).trans (hb3.mono (hS1).size)) (fun hS2 => ?_)
  clear hK K' hS1
  refine wpAnyH_take (i := 2) (oi := ⟨some 7, _, _, _, _, _⟩) (v := .bool true) rfl (by kernel_rfl) (by kernel_rfl) (by kernel_rfl) (fun _ _ _ h => h) (.inl ⟨by kernel_rfl, fun V hS => by go_simp⟩) hS2 ?_
  simp only [Act.put, List.setIfInBounds_toArray, List.set_cons_zero, List.set_cons_succ]
  refine wpAnyH_take (i := 3) (oi := ⟨some 8, _, _, _, _, _⟩) (v := .bool true) rfl (by kernel_rfl) (by kernel_rfl) (by kernel_rfl) (fun _ _ _ h => h) (.inl ⟨by kernel_rfl, fun V hS => by go_simp⟩) hS2 ?_
  simp only [Act.put, List.setIfInBounds_toArray, List.set_cons_zero, List.set_cons_succ]
  refine wpAnyH_take (i := 4) (oi := ⟨some 9, _, _, _, _, _⟩) (v := .agg #[.int .i64 b.k, .int .i64 b.n, .string b.s, .slice b.lA b.l.length b.lc, .slice b.mA b.m.length b.mc]) rfl (by kernel_rfl) (by kernel_rfl) (by kernel_rfl) (fun _ _ _ h => h) (.inl ⟨by kernel_rfl, fun V hS => by obtain ⟨_, ⟨h0, h1, h2, h3, h4⟩⟩ := HSV.out V hS; go_simp⟩) hS2 ?_
  simp only [Act.put, List.setIfInBounds_toArray, List.set_cons_zero, List.set_cons_succ]
  refine wpAnyH_ready (rs := [5]) (by kernel_rfl) (by simp) ?_
  refine AllReadyH.cons rfl (fun K' hK => ?_) AllReadyH.nil
  go_simp
  refine (HD.out _ hS2).mono ?_
  rintro e w4 ⟨rfl, hb4⟩
  go_simp
  refine hK.out _ _ ((hS2).trans (hb4.mono (hS2).size)) (fun hS3 => ?_)
  clear hK K' hS2
  refine wpAnyH_take (i := 6) (oi := ⟨some 11, _, _, _, _, _⟩) (v := .bool true) rfl (by kernel_rfl) (by kernel_rfl) (by kernel_rfl) (fun _ _ _ h => h) (.inl ⟨by kernel_rfl, fun V hS => by go_simp⟩) hS3 ?_
  simp only [Act.put, List.setIfInBounds_toArray, List.set_cons_zero, List.set_cons_succ]
  refine wpAnyH_take (i := 7) (oi := ⟨some 12, _, _, _, _, _⟩) (v := .bool true) rfl (by kernel_rfl) (by kernel_rfl) (by kernel_rfl) (fun _ _ _ h => h) (.inl ⟨by kernel_rfl, fun V hS => by go_simp⟩) hS3 ?_
  simp only [Act.put, List.setIfInBounds_toArray, List.set_cons_zero, List.set_cons_succ]
  refine wpAnyH_take (i := 8) (oi := ⟨some 13, _, _, _, _, _⟩) (v := .bool true) rfl (by kernel_rfl) (by kernel_rfl) (by kernel_rfl) (fun _ _ _ h => h) (.inl ⟨by kernel_rfl, fun V hS => by go_simp⟩) hS3 ?_
  simp only [Act.put, List.setIfInBounds_toArray, List.set_cons_zero, List.set_cons_succ]
  refine wpAnyH_take (i := 9) (oi := ⟨some 14, _, _, _, _, _⟩) (v := .agg #[.int .i64 a.k, .int .i64 a.n, .string a.s, .slice a.lA a.l.length a.lc, .slice a.mA a.m.length a.mc]) rfl (by kernel_rfl) (by kernel_rfl) (by kernel_rfl) (fun _ _ _ h => h) (.inl ⟨by kernel_rfl, fun V hS => by obtain ⟨⟨h0, h1, h2, h3, h4⟩, _⟩ := HSV.out V hS; go_simp⟩) hS3 ?_
  simp only [Act.put, List.setIfInBounds_toArray, List.set_cons_zero, List.set_cons_succ]
  refine wpAnyH_take (i := 11) (oi := ⟨some 16, _, _, _, _, _⟩) (v := .agg #[.int .i64 b.k, .int .i64 b.n, .string b.s, .slice b.lA b.l.length b.lc, .slice b.mA b.m.length b.mc]) rfl (by kernel_rfl) (by kernel_rfl) (by kernel_rfl) (fun _ _ _ h => h) (.inl ⟨by kernel_rfl, fun V hS => by obtain ⟨_, ⟨h0, h1, h2, h3, h4⟩⟩ := HSV.out V hS; go_simp⟩) hS3 ?_
  simp only [Act.put, List.setIfInBounds_toArray, List.set_cons_zero, List.set_cons_succ]
  refine wpAnyH_ready (rs := [10]) (by kernel_rfl) (by simp) ?_
  refine AllReadyH.cons rfl (fun K' hK => ?_) AllReadyH.nil
  go_simp
  refine (HSA.out _ hS3).mono ?_
  rintro e w5 ⟨a', rfl, hpa, hva, hb5⟩
  unfold MV.val
  have HPA := Lib.hid hpa
  have HVA := Lib.hid hva
  clear hpa hva
  go_simp
  refine hK.out _ _ ((hS3).trans (hb5.mono (hS3).size)) (fun hS4 => ?_)
  clear hK K' hS3
  refine wpAnyH_ready (rs := [12]) (by kernel_rfl) (by simp) ?_
  refine AllReadyH.cons rfl (fun K' hK => ?_) AllReadyH.nil
  go_simp
  refine (HSB.out _ hS4).mono ?_
  rintro e w6 ⟨b', rfl, hpb, hvb, hb6⟩
  unfold MV.val
  have HPB := Lib.hid hpb
  have HVB := Lib.hid hvb
  have HVA6 := Lib.hid (HVA.out.at_.bel hb6)
  clear hpb hvb
  go_simp
  refine hK.out _ _ ((hS4).trans (hb6.mono (hS4).size)) (fun hS5 => ?_)
  clear hK K' hS4
  refine wpAnyH_ready (rs := [13]) (by kernel_rfl) (by simp) ?_
  refine AllReadyH.cons rfl (fun K' hK => ?_) AllReadyH.nil
  go_simp
  have hcall := rexact_any HVA6.out b' w6 (Below.refl _ _) HVB.out.at_
  unfold ExP MV.val at hcall
  obtain ⟨r9, hr9⟩ : ∃ r9, r9 = decide (a'.pv = b'.pv) := ⟨_, rfl⟩
  rw [← hr9] at hcall
  have HR9 := Lib.hid hr9
  clear hr9
  refine hcall.mono ?_
  clear hcall
  rintro e w7 ⟨rfl, hb7⟩
  go_simp
  refine hK.out _ _ ((hS5).trans (hb7.mono (hS5).size)) (fun hS6 => ?_)
  clear hK K' hS5
  refine wpAnyH_take (i := 14) (oi := ⟨some 19, _, _, _, _, _⟩) (v := (.bool r9)) rfl (by kernel_rfl) (by kernel_rfl) (by kernel_rfl) (fun _ _ _ h => h) (.inl ⟨by kernel_rfl, fun V hS => by go_simp⟩) hS6 ?_
  simp only [Act.put, List.setIfInBounds_toArray, List.set_cons_zero, List.set_cons_succ]
  refine wpAnyH_take (i := 15) (oi := ⟨some 4, _, _, _, _, _⟩) (v := (.bool r9)) rfl (by kernel_rfl) (by kernel_rfl) (by kernel_rfl) (fun _ _ _ h => h) (.inl ⟨by kernel_rfl, fun V hS => by go_simp⟩) hS6 ?_
  simp only [Act.put, List.setIfInBounds_toArray, List.set_cons_zero, List.set_cons_succ]
  refine wpAnyH_done (by kernel_rfl) ?_ _
  have HE9 : Hid (r9 = R) := Lib.hid (by rw [HRR.out, HR9.out, HPA.out, HPB.out])
  have HBE : Hid (Below w.heap.size w _) := Lib.hid (HBX.out.trans (hS6.mono HBX.out.size))
  clear hS6
  go_wp2
  go_ret
  exact ⟨by rw [HE9.out]; rfl, HBE.out⟩
end Go.Proofs.YteodigdcdhceiaaDoor
