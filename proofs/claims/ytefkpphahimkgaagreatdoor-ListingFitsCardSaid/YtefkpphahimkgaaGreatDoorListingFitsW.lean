/-
  The law ListingFits: its walk.
-/
import Derived.Test.YtefkpphahimkgaaGreatDoorLiL2
namespace Go.Proofs.YtefkpphahimkgaaGreatDoor
open Go.RowKit
attribute [local go_sem ↓] Go.wp_at_zero Go.wp_at_succ
set_option linter.unusedVariables false
set_option linter.unusedSimpArgs false

set_option maxRecDepth 100000 in
set_option maxHeartbeats 8000000 in
theorem listingFits_at (m : ME) (A : Option Addr) (n c : Nat) (b : List UInt8) (w : World) (ht : tabL w) (hwf : (Lit.int .i64 m.ver).wf = true ∧ (Lit.int .i64 m.len).wf = true) (hsz : m.name.size ≤ 140737488351232 ∧ m.hash.size ≤ 140737488351232) (hr : RB w A b) (hn : b.length = n) (hc : n ≤ c) (hcm : c ≤ maxLen) (hz : n ≤ 140737488351232) :
    Calls Tryz.prog 5 #[m.val, .slice A n c] w fun e w' => e = .returned (.bool true) ∧ Below w.heap.size w w' := by
  obtain ⟨W1, hW1⟩ : ∃ W1, W1 = w.alloc (.cells #[.string m.name, .int .i64 m.ver, .int .i64 m.len, .string m.hash] 44) := ⟨_, rfl⟩
  have hb1 : Below w.heap.size w W1 := by rw [hW1]; exact (Below.refl _ _).alloc (Nat.le_refl _) _
  have hk1 : Blk W1 w.heap.size 44 #[.string m.name, .int .i64 m.ver, .int .i64 m.len, .string m.hash] := by rw [hW1]; exact Blk.new _ _ _
  obtain ⟨q, hq⟩ : ∃ q, q = fitE m b := ⟨_, rfl⟩
  have HQ := Lib.hid hq
  have HT1 := Lib.hid (ht.below hb1)
  have HRB := Lib.hid (hr.below hb1)
  have HN := Lib.hid hn
  have HC := Lib.hid (And.intro hc hcm)
  have HSZ := Lib.hid hsz.2
  have HW1 := Lib.hid hW1
  have HB1 := Lib.hid hb1
  have HCE : Hid (∀ V, Below W1.heap.size W1 V → V.cell? ⟨w.heap.size, 0, none⟩ = some (.string m.name) ∧ V.cell? ⟨w.heap.size, 1, none⟩ = some (.int .i64 m.ver) ∧ V.cell? ⟨w.heap.size, 2, none⟩ = some (.int .i64 m.len) ∧ V.cell? ⟨w.heap.size, 3, none⟩ = some (.string m.hash)) := Lib.hid (fun V hV => by
    have h9 := hk1.below hV hk1.lt
    exact ⟨h9.cell 0, h9.cell 1, h9.cell 2, h9.cell 3⟩)
  have hni : (n : Int) ≤ 140737488351232 := by omega
  clear hq hwf hsz hr hn hc hcm hb1 hk1 hW1 ht
  unfold ME.val
  rcases Nat.lt_or_ge 3000 n with hlt | hge
  · have d1 : decide ((n : Int) > 3000) = true := by rw [decide_eq_true_iff]; omega
    have d2 : decide (3000 < (n : Int)) = true := by rw [decide_eq_true_iff]; omega
    have d3 : decide (3000 < n) = true := decide_eq_true hlt
    clear hlt
    go_enter Tryz.func5, Tryz.ntmps5
    go_upto_region 1 with (fail)
    rw [← HW1.out]
    go_wp2_with fail
    refine (llives_any _ HT1.out).mono ?_
    rintro e w2 ⟨rfl, hb2⟩
    have HB2 := Lib.hid (HB1.out.trans (hb2.mono HB1.out.size))
    clear hb2
    go_wp2
    refine bodyPost_ret (v := .bool true) (by simp [results, Tryz.results5, go_sem]) rfl ?_
    exact ⟨rfl, HB2.out⟩
  · have d1 : decide ((n : Int) > 3000) = false := by rw [decide_eq_false_iff_not]; omega
    have d2 : decide (3000 < (n : Int)) = false := by rw [decide_eq_false_iff_not]; omega
    have d3 : decide (3000 < n) = false := decide_eq_false (by omega)
    have HN3 := Lib.hid hge
    clear hge
    go_enter Tryz.func5, Tryz.ntmps5
    go_upto_region 1 with (fail)
    rw [← HW1.out]
    go_wp2
    refine wp_region_held_drew (S := fun V => Below W1.heap.size W1 V) (by kernel_rfl) ((Below.refl _ _).drew) (fun hS1 => ?_)
    refine wpAnyH_ready (rs := [0]) (by kernel_rfl) (by simp) ?_
    refine AllReadyH.cons rfl (fun K' hK => ?_) AllReadyH.nil
    go_simp
    refine (llives_any _ (HT1.out.below hS1)).mono ?_
    rintro e y0 ⟨rfl, hby⟩
    go_simp
    refine hK.out _ _ ((hS1).trans (hby.mono (hS1).size)) (fun hS2 => ?_)
    clear hK K' hS1
    refine wpAnyH_take (i := 1) (oi := ⟨some 10, _, _, _, _, _⟩) (v := .bool true) rfl (by kernel_rfl) (by kernel_rfl) (by kernel_rfl) (fun _ _ _ h => h) (.inl ⟨by kernel_rfl, fun V hS => by go_simp⟩) hS2 ?_
    simp only [Act.put, List.setIfInBounds_toArray, List.set_cons_zero, List.set_cons_succ]
    refine wpAnyH_take (i := 2) (oi := ⟨some 11, _, _, _, _, _⟩) (v := .agg #[.string m.name, .int .i64 m.ver, .int .i64 m.len, .string m.hash]) rfl (by kernel_rfl) (by kernel_rfl) (by kernel_rfl) (fun _ _ _ h => h) (.inl ⟨by kernel_rfl, fun V hS => by obtain ⟨h0, h1, h2, h3⟩ := HCE.out V hS; go_simp⟩) hS2 ?_
    simp only [Act.put, List.setIfInBounds_toArray, List.set_cons_zero, List.set_cons_succ]
    refine wpAnyH_take (i := 3) (oi := ⟨some 12, _, _, _, _, _⟩) (v := .slice A n c) rfl (by kernel_rfl) (by kernel_rfl) (by kernel_rfl) (fun _ _ _ h => h) (.inl ⟨by kernel_rfl, fun V hS => by go_simp⟩) hS2 ?_
    simp only [Act.put, List.setIfInBounds_toArray, List.set_cons_zero, List.set_cons_succ]
    refine wpAnyH_take (i := 5) (oi := ⟨some 14, _, _, _, _, _⟩) (v := .agg #[.string m.name, .int .i64 m.ver, .int .i64 m.len, .string m.hash]) rfl (by kernel_rfl) (by kernel_rfl) (by kernel_rfl) (fun _ _ _ h => h) (.inl ⟨by kernel_rfl, fun V hS => by obtain ⟨h0, h1, h2, h3⟩ := HCE.out V hS; go_simp⟩) hS2 ?_
    simp only [Act.put, List.setIfInBounds_toArray, List.set_cons_zero, List.set_cons_succ]
    refine wpAnyH_take (i := 6) (oi := ⟨some 15, _, _, _, _, _⟩) (v := .slice A n c) rfl (by kernel_rfl) (by kernel_rfl) (by kernel_rfl) (fun _ _ _ h => h) (.inl ⟨by kernel_rfl, fun V hS => by go_simp⟩) hS2 ?_
    simp only [Act.put, List.setIfInBounds_toArray, List.set_cons_zero, List.set_cons_succ]
    refine wpAnyH_ready (rs := [4]) (by kernel_rfl) (by simp) ?_
    refine AllReadyH.cons rfl (fun K' hK => ?_) AllReadyH.nil
    go_simp
    have hc9 := fits_any m A n c b _ (HT1.out.below hS2).k (HRB.out.below hS2) HN.out HN3.out HC.out.1 HC.out.2 HSZ.out
    rw [← HQ.out] at hc9
    unfold ME.val at hc9
    refine hc9.mono ?_
    clear hc9
    rintro e y4 ⟨rfl, hby⟩
    go_simp
    refine hK.out _ _ ((hS2).trans (hby.mono (hS2).size)) (fun hS3 => ?_)
    clear hK K' hS2
    refine wpAnyH_ready (rs := [7]) (by kernel_rfl) (by simp) ?_
    refine AllReadyH.cons rfl (fun K' hK => ?_) AllReadyH.nil
    go_simp
    have hc9 := rfits_any m A n c b _ (HRB.out.below hS3) HN.out HN3.out HC.out.1 HC.out.2 HSZ.out
    rw [← HQ.out] at hc9
    unfold ME.val at hc9
    refine hc9.mono ?_
    clear hc9
    rintro e y7 ⟨rfl, hby⟩
    go_simp
    refine hK.out _ _ ((hS3).trans (hby.mono (hS3).size)) (fun hS4 => ?_)
    clear hK K' hS3
    refine wpAnyH_take (i := 8) (oi := ⟨some 17, _, _, _, _, _⟩) (v := .bool true) rfl (by kernel_rfl) (by kernel_rfl) (by kernel_rfl) (fun _ _ _ h => h) (.inl ⟨by kernel_rfl, fun V hS => by go_simp⟩) hS4 ?_
    simp only [Act.put, List.setIfInBounds_toArray, List.set_cons_zero, List.set_cons_succ]
    refine wpAnyH_take (i := 9) (oi := ⟨some 18, _, _, _, _, _⟩) (v := .bool true) rfl (by kernel_rfl) (by kernel_rfl) (by kernel_rfl) (fun _ _ _ h => h) (.inl ⟨by kernel_rfl, fun V hS => by go_simp⟩) hS4 ?_
    simp only [Act.put, List.setIfInBounds_toArray, List.set_cons_zero, List.set_cons_succ]
    refine wpAnyH_take (i := 10) (oi := ⟨some 4, _, _, _, _, _⟩) (v := .bool true) rfl (by kernel_rfl) (by kernel_rfl) (by kernel_rfl) (fun _ _ _ h => h) (.inl ⟨by kernel_rfl, fun V hS => by go_simp⟩) hS4 ?_
    simp only [Act.put, List.setIfInBounds_toArray, List.set_cons_zero, List.set_cons_succ]
    refine wpAnyH_done (by kernel_rfl) ?_ _
    have HB2 := Lib.hid (HB1.out.trans ((hS4).mono HB1.out.size))
    clear hS4
    go_wp2
    refine bodyPost_ret (v := .bool true) (by simp [results, Tryz.results5, go_sem]) rfl ?_
    exact ⟨rfl, HB2.out⟩
theorem listingFits_walk (m : ME) (A : Option Addr) (c : Nat) (b : List UInt8) (w : World) (ht : tabL w) (hwf : (Lit.int .i64 m.ver).wf = true ∧ (Lit.int .i64 m.len).wf = true) (hsz : m.name.size ≤ 140737488351232 ∧ m.hash.size ≤ 140737488351232) (hr : RB w A b) (hc : b.length ≤ c) (hcm : c ≤ maxLen) (hz : b.length ≤ 140737488351232) :
    Calls Tryz.prog 5 #[m.val, .slice A b.length c] w fun e w' => e = .returned (.bool true) ∧ Below w.heap.size w w' :=
  listingFits_at m A b.length c b w ht hwf hsz hr rfl hc hcm hz
end Go.Proofs.YtefkpphahimkgaaGreatDoor
