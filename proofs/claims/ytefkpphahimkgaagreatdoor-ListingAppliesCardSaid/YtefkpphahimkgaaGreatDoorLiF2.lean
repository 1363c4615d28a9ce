/-
  the document's Fits.
-/
import Derived.Test.YtefkpphahimkgaaGreatDoorLiF1
import Derived.Test.YtefkpphahimkgaaGreatDoorGX
import Derived.Test.YtefkpphahimkgaaGreatDoorGT
namespace Go.Proofs.YtefkpphahimkgaaGreatDoor
open Go.RowKit
attribute [local go_sem ↓] Go.wp_at_zero Go.wp_at_succ
set_option linter.unusedVariables false
set_option linter.unusedSimpArgs false

set_option maxRecDepth 100000 in
set_option maxHeartbeats 8000000 in
theorem rfits_any (m : ME) (A : Option Addr) (n c : Nat) (b : List UInt8) (w : World) (hr : RB w A b) (hn : b.length = n) (hn2 : n ≤ 3000) (hc : n ≤ c) (hcm : c ≤ maxLen) (hsz : m.hash.size ≤ 140737488351232) :
    Calls Tryz.prog 20 #[m.val, .slice A n c] w fun e w' => e = .returned (.int .i64 (fitE m b)) ∧ Below w.heap.size w w' := by
  obtain ⟨r, hrr⟩ : ∃ r, r = fitE m b := ⟨_, rfl⟩
  rw [← hrr]
  have HR := Lib.hid hrr
  clear hrr
  obtain ⟨W1, hW1⟩ : ∃ W1, W1 = w.alloc (.cells #[.string m.name, .int .i64 m.ver, .int .i64 m.len, .string m.hash] 44) := ⟨_, rfl⟩
  have hb1 : Below w.heap.size w W1 := by rw [hW1]; exact (Below.refl _ _).alloc (Nat.le_refl _) _
  have hk1 : Blk W1 w.heap.size 44 #[.string m.name, .int .i64 m.ver, .int .i64 m.len, .string m.hash] := by rw [hW1]; exact Blk.new _ _ _
  have HB1 := Lib.hid hb1
  have HK1 := Lib.hid hk1
  have HW1 := Lib.hid hW1
  have HRA := Lib.hid (hr.below hb1)
  have HN := Lib.hid hn
  have HC := Lib.hid (And.intro hc hcm)
  clear hb1 hk1 hW1 hr hn hc hcm
  have k0 : W1.cell? ⟨w.heap.size, 0, none⟩ = some (.string m.name) := HK1.out.cell 0
  have k1 : W1.cell? ⟨w.heap.size, 1, none⟩ = some (.int .i64 m.ver) := HK1.out.cell 1
  have k2 : W1.cell? ⟨w.heap.size, 2, none⟩ = some (.int .i64 m.len) := HK1.out.cell 2
  have k3 : W1.cell? ⟨w.heap.size, 3, none⟩ = some (.string m.hash) := HK1.out.cell 3
  unfold ME.val
  by_cases h1 : 0 ≤ m.len ∧ (b.length : Int) ≠ m.len
  · have HI : Hid (r = 150) := Lib.hid (by rw [HR.out]; exact fitE_len h1.1 h1.2)
    have d1 : decide (0 ≤ m.len) = true := decide_eq_true h1.1
    have d1' : decide (m.len ≥ 0) = true := d1
    have d2' : ¬ (n : Int) = m.len := by rw [← HN.out]; exact h1.2
    have d2 : decide ((n : Int) = m.len) = false := decide_eq_false d2'
    have d3 : ((n : Int) == m.len) = false := beq_eq_false_iff_ne.2 d2'
    have d4 : ((n : Int) != m.len) = true := by rw [bne, d3]; rfl
    clear h1
    go_enter Tryz.func20, Tryz.ntmps20
    go_upto_region 1 with (fail)
    rw [← HW1.out]
    go_wp2
    refine bodyPost_ret (v := .int .i64 150) (by simp [results, Tryz.results20, go_sem]) rfl ?_
    exact ⟨by rw [HI.out], HB1.out⟩
  · have hpart : (decide (0 ≤ m.len) = false) ∨ (decide (0 ≤ m.len) = true ∧ (n : Int) = m.len) := by
      rw [HN.out] at h1
      by_cases h2 : 0 ≤ m.len
      · exact .inr ⟨decide_eq_true h2, Classical.byContradiction fun h3 => h1 ⟨h2, h3⟩⟩
      · exact .inl (decide_eq_false h2)
    have HH1 := Lib.hid h1
    clear h1
    go_enter Tryz.func20, Tryz.ntmps20
    go_upto_region 1 with (fail)
    rw [← HW1.out]
    have HOF := Lib.hid (refOf_any A n c b W1 HRA.out HN.out (by omega))
    rcases hpart with d1 | ⟨d1, d2⟩
    · have d1' : decide (m.len ≥ 0) = false := d1
      go_upto_region 3 with (fail)
      clear k0 k1 k2 k3
      go_wp2_with fail
      refine HOF.out.mono ?_
      rintro e w4 ⟨rfl, hb4⟩
      have BW4 := Lib.hid (HB1.out.trans (hb4.mono HB1.out.size))
      have HK4 := Lib.hid (HK1.out.below hb4 HK1.out.lt)
      obtain ⟨D, hD⟩ : ∃ D, D = shaL b := ⟨_, rfl⟩
      have hDl : D.length = 32 := by rw [hD, shaL_len]
      obtain ⟨V, hV⟩ : ∃ V, V = (Lib.byteCells D).toArray := ⟨_, rfl⟩
      rw [← hD, ← hV]
      have hVs : V.size = 32 := by rw [hV]; simp [Lib.byteCells, hDl]
      have HZB := Lib.hid (Blk.new w4 87 (#[.int .u8 0, .int .u8 0, .int .u8 0, .int .u8 0, .int .u8 0, .int .u8 0, .int .u8 0, .int .u8 0, .int .u8 0, .int .u8 0, .int .u8 0, .int .u8 0, .int .u8 0, .int .u8 0, .int .u8 0, .int .u8 0, .int .u8 0, .int .u8 0, .int .u8 0, .int .u8 0, .int .u8 0, .int .u8 0, .int .u8 0, .int .u8 0, .int .u8 0, .int .u8 0, .int .u8 0, .int .u8 0, .int .u8 0, .int .u8 0, .int .u8 0, .int .u8 0] : Array Value))
      have HIV : Hid ((Tryz.prog.info? 87).map (·.size) = some V.size) := by show _ = _; rw [hVs]; kernel_rfl
      have HOC : Hid (V.all (·.oneCell') = true) := by show _ = _; rw [hV]; simp [Lib.byteCells, Value.oneCell']
      have HS0 : Hid ((#[.int .u8 0, .int .u8 0, .int .u8 0, .int .u8 0, .int .u8 0, .int .u8 0, .int .u8 0, .int .u8 0, .int .u8 0, .int .u8 0, .int .u8 0, .int .u8 0, .int .u8 0, .int .u8 0, .int .u8 0, .int .u8 0, .int .u8 0, .int .u8 0, .int .u8 0, .int .u8 0, .int .u8 0, .int .u8 0, .int .u8 0, .int .u8 0, .int .u8 0, .int .u8 0, .int .u8 0, .int .u8 0, .int .u8 0, .int .u8 0, .int .u8 0, .int .u8 0] : Array Value).size = V.size) := by show _ = _; rw [hVs]; rfl
      have BW5 := Lib.hid (below_setRow (cs := V) (BW4.out.alloc BW4.out.size (.cells (#[.int .u8 0, .int .u8 0, .int .u8 0, .int .u8 0, .int .u8 0, .int .u8 0, .int .u8 0, .int .u8 0, .int .u8 0, .int .u8 0, .int .u8 0, .int .u8 0, .int .u8 0, .int .u8 0, .int .u8 0, .int .u8 0, .int .u8 0, .int .u8 0, .int .u8 0, .int .u8 0, .int .u8 0, .int .u8 0, .int .u8 0, .int .u8 0, .int .u8 0, .int .u8 0, .int .u8 0, .int .u8 0, .int .u8 0, .int .u8 0, .int .u8 0, .int .u8 0] : Array Value) 87)) BW4.out.size)
      have HRB : Hid (RB ((w4.alloc (.cells (#[.int .u8 0, .int .u8 0, .int .u8 0, .int .u8 0, .int .u8 0, .int .u8 0, .int .u8 0, .int .u8 0, .int .u8 0, .int .u8 0, .int .u8 0, .int .u8 0, .int .u8 0, .int .u8 0, .int .u8 0, .int .u8 0, .int .u8 0, .int .u8 0, .int .u8 0, .int .u8 0, .int .u8 0, .int .u8 0, .int .u8 0, .int .u8 0, .int .u8 0, .int .u8 0, .int .u8 0, .int .u8 0, .int .u8 0, .int .u8 0, .int .u8 0, .int .u8 0] : Array Value) 87)).setRow w4.heap.size V) (some ⟨w4.heap.size, 0, none⟩) D) := by
        have := setRow_at HZB.out V
        rw [hV] at this ⊢
        exact RB.of_blk this
      have HK5 : Hid (Blk ((w4.alloc (.cells (#[.int .u8 0, .int .u8 0, .int .u8 0, .int .u8 0, .int .u8 0, .int .u8 0, .int .u8 0, .int .u8 0, .int .u8 0, .int .u8 0, .int .u8 0, .int .u8 0, .int .u8 0, .int .u8 0, .int .u8 0, .int .u8 0, .int .u8 0, .int .u8 0, .int .u8 0, .int .u8 0, .int .u8 0, .int .u8 0, .int .u8 0, .int .u8 0, .int .u8 0, .int .u8 0, .int .u8 0, .int .u8 0, .int .u8 0, .int .u8 0, .int .u8 0, .int .u8 0] : Array Value) 87)).setRow w4.heap.size V) w.heap.size 44 #[.string m.name, .int .i64 m.ver, .int .i64 m.len, .string m.hash]) := Lib.hid (HK4.out.below (below_setRow (cs := V) ((Below.refl w4.heap.size w4).alloc (Nat.le_refl _) (.cells (#[.int .u8 0, .int .u8 0, .int .u8 0, .int .u8 0, .int .u8 0, .int .u8 0, .int .u8 0, .int .u8 0, .int .u8 0, .int .u8 0, .int .u8 0, .int .u8 0, .int .u8 0, .int .u8 0, .int .u8 0, .int .u8 0, .int .u8 0, .int .u8 0, .int .u8 0, .int .u8 0, .int .u8 0, .int .u8 0, .int .u8 0, .int .u8 0, .int .u8 0, .int .u8 0, .int .u8 0, .int .u8 0, .int .u8 0, .int .u8 0, .int .u8 0, .int .u8 0] : Array Value) 87)) (Nat.le_refl _)) HK4.out.lt)
      have HDL := Lib.hid hDl
      have HI : Hid (m.hash = ⟨#[]⟩ → r = 0) := Lib.hid (fun h2 => by rw [HR.out]; exact fitE_none HH1.out h2)
      have HJ : Hid (¬ m.hash = ⟨#[]⟩ → r = if m.hash.data.toList = hexL D then 0 else 151) := Lib.hid (fun h2 => by rw [HR.out, hD]; exact fitE_sum HH1.out h2)
      clear hD hDl hV hVs HOF hb4
      go_wp2_with (refine wpList_store_row rfl 87 _ _ rfl w4.heap.size V rfl rfl 87 _ HZB.out HIV.out HS0.out HOC.out ?_)
      generalize (w4.alloc (.cells (#[.int .u8 0, .int .u8 0, .int .u8 0, .int .u8 0, .int .u8 0, .int .u8 0, .int .u8 0, .int .u8 0, .int .u8 0, .int .u8 0, .int .u8 0, .int .u8 0, .int .u8 0, .int .u8 0, .int .u8 0, .int .u8 0, .int .u8 0, .int .u8 0, .int .u8 0, .int .u8 0, .int .u8 0, .int .u8 0, .int .u8 0, .int .u8 0, .int .u8 0, .int .u8 0, .int .u8 0, .int .u8 0, .int .u8 0, .int .u8 0, .int .u8 0, .int .u8 0] : Array Value) 87)).setRow w4.heap.size V = W5 at BW5 HRB HK5 ⊢
      generalize w4.heap.size = g at HRB ⊢
      have HBOX : Hid (∀ V, Below W5.heap.size W5 V → V.cell? ⟨w.heap.size, 0, none⟩ = some (.string m.name) ∧ V.cell? ⟨w.heap.size, 1, none⟩ = some (.int .i64 m.ver) ∧ V.cell? ⟨w.heap.size, 2, none⟩ = some (.int .i64 m.len) ∧ V.cell? ⟨w.heap.size, 3, none⟩ = some (.string m.hash)) := Lib.hid (fun V hV => by
        have h9 := HK5.out.below hV HK5.out.lt
        exact ⟨h9.cell 0, h9.cell 1, h9.cell 2, h9.cell 3⟩)
      by_cases he : m.hash = ⟨#[]⟩
      · have HI := Lib.hid (HI.out he)
        have g2 : m.hash.toList = [] := by rw [he, ByteArray.toList_eq]
        clear he HJ
        refine wp_region_held_drew (S := fun V => Below W5.heap.size W5 V) (by kernel_rfl) ((Below.refl _ _).drew) (fun hS1 => ?_)
        generalize W5.drew = WD at hS1 ⊢
        refine wpAnyH_take (i := 0) (oi := ⟨some 18, _, _, _, _, _⟩) (v := .pointer (some ⟨w.heap.size, 3, none⟩)) rfl (by kernel_rfl) (by kernel_rfl) (by kernel_rfl) (fun _ _ _ h => h) (.inl ⟨by kernel_rfl, fun V hS => by go_simp⟩) hS1 ?_
        simp only [Act.put, List.setIfInBounds_toArray, List.set_cons_zero, List.set_cons_succ]
        refine wpAnyH_take (i := 1) (oi := ⟨some 19, _, _, _, _, _⟩) (v := .string m.hash) rfl (by kernel_rfl) (by kernel_rfl) (by kernel_rfl) (fun _ _ _ h => h) (.inl ⟨by kernel_rfl, fun V hS => by obtain ⟨k0, k1, k2, k3⟩ := HBOX.out V hS; go_simp⟩) hS1 ?_
        simp only [Act.put, List.setIfInBounds_toArray, List.set_cons_zero, List.set_cons_succ]
        refine wpAnyH_take (i := 2) (oi := ⟨some 20, _, _, _, _, _⟩) (v := .bool false) rfl (by kernel_rfl) (by kernel_rfl) (by kernel_rfl) (fun _ _ _ h => h) (.inl ⟨by kernel_rfl, fun V hS => by go_simp⟩) hS1 ?_
        simp only [Act.put, List.setIfInBounds_toArray, List.set_cons_zero, List.set_cons_succ]
        refine wpAnyH_take (i := 3) (oi := ⟨some 21, _, _, _, _, _⟩) (v := .bool false) rfl (by kernel_rfl) (by kernel_rfl) (by kernel_rfl) (fun _ _ _ h => h) (.inl ⟨by kernel_rfl, fun V hS => by go_simp⟩) hS1 ?_
        simp only [Act.put, List.setIfInBounds_toArray, List.set_cons_zero, List.set_cons_succ]
        refine wpAnyH_take (i := 4) (oi := ⟨some 22, _, _, _, _, _⟩) (v := undef) rfl (by kernel_rfl) (by kernel_rfl) (by kernel_rfl) (fun _ _ _ h => h) (.inr ⟨by kernel_rfl, rfl⟩) hS1 ?_
        simp only [Act.put, List.setIfInBounds_toArray, List.set_cons_zero, List.set_cons_succ]
        refine wpAnyH_take (i := 5) (oi := ⟨some 23, _, _, _, _, _⟩) (v := undef) rfl (by kernel_rfl) (by kernel_rfl) (by kernel_rfl) (fun _ _ _ h => h) (.inr ⟨by kernel_rfl, rfl⟩) hS1 ?_
        simp only [Act.put, List.setIfInBounds_toArray, List.set_cons_zero, List.set_cons_succ]
        refine wpAnyH_take (i := 6) (oi := ⟨some 24, _, _, _, _, _⟩) (v := undef) rfl (by kernel_rfl) (by kernel_rfl) (by kernel_rfl) (fun _ _ _ h => h) (.inr ⟨by kernel_rfl, rfl⟩) hS1 ?_
        simp only [Act.put, List.setIfInBounds_toArray, List.set_cons_zero, List.set_cons_succ]
        refine wpAnyH_take (i := 7) (oi := ⟨some 25, _, _, _, _, _⟩) (v := undef) rfl (by kernel_rfl) (by kernel_rfl) (by kernel_rfl) (fun _ _ _ h => h) (.inr ⟨by kernel_rfl, rfl⟩) hS1 ?_
        simp only [Act.put, List.setIfInBounds_toArray, List.set_cons_zero, List.set_cons_succ]
        refine wpAnyH_take (i := 8) (oi := ⟨some 26, _, _, _, _, _⟩) (v := undef) rfl (by kernel_rfl) (by kernel_rfl) (by kernel_rfl) (fun _ _ _ h => h) (.inr ⟨by kernel_rfl, rfl⟩) hS1 ?_
        simp only [Act.put, List.setIfInBounds_toArray, List.set_cons_zero, List.set_cons_succ]
        refine wpAnyH_take (i := 9) (oi := ⟨some 27, _, _, _, _, _⟩) (v := .bool false) rfl (by kernel_rfl) (by kernel_rfl) (by kernel_rfl) (fun _ _ _ h => h) (.inl ⟨by kernel_rfl, fun V hS => by go_simp⟩) hS1 ?_
        simp only [Act.put, List.setIfInBounds_toArray, List.set_cons_zero, List.set_cons_succ]
        refine wpAnyH_done (by kernel_rfl) ?_ _
        have HBZ := Lib.hid (BW5.out.trans ((hS1).mono BW5.out.size))
        clear hS1
        go_wp2
        refine bodyPost_ret (v := .int .i64 0) (by simp [results, Tryz.results20, go_sem]) rfl ?_
        exact ⟨by rw [HI.out], HBZ.out⟩
      · have HI := Lib.hid (HJ.out he)
        have g2 : ¬ m.hash.toList = [] := fun e => he (toList_injV (e.trans (by rw [ByteArray.toList_eq])))
        have g3 : m.hash.toList.isEmpty = false := by
          cases hx : m.hash.toList with
          | nil => exact absurd hx g2
          | cons a b => rfl
        have g4 : (m.hash.toList == []) = false := beq_eq_false_iff_ne.2 g2
        have g5 : (m.hash.toList != []) = true := by rw [bne, g4]; rfl
        have g6 : decide (m.hash.toList = []) = false := decide_eq_false g2
        clear he HJ
        obtain ⟨X, hX⟩ : ∃ X, X = (⟨(hexL D).toArray⟩ : ByteArray) := ⟨_, rfl⟩
        have HX : Hid (X = ⟨(hexL D).toArray⟩) := Lib.hid hX
        by_cases hmx : m.hash = X
        · have HI := Lib.hid (HI.out.trans (if_pos (by rw [hmx, hX])))
          have q1 : (m.hash.toList == X.toList) = true := by rw [hmx]; exact beq_self_eq_true _
          have q2 : (m.hash.toList != X.toList) = false := by rw [bne, q1]; rfl
          have q3 : decide (m.hash.toList = X.toList) = true := by rw [hmx]; exact decide_eq_true rfl
          have q4 : m.hash.toList = X.toList := by rw [hmx]
          have q5 : ¬ X.toList = [] := by rw [← q4]; exact g2
          have q6 : (X.toList == []) = false := beq_eq_false_iff_ne.2 q5
          clear hmx hX
          refine wp_region_held_drew (S := fun V => Below W5.heap.size W5 V) (by kernel_rfl) ((Below.refl _ _).drew) (fun hS1 => ?_)
          generalize W5.drew = WD at hS1 ⊢
          refine wpAnyH_take (i := 0) (oi := ⟨some 18, _, _, _, _, _⟩) (v := .pointer (some ⟨w.heap.size, 3, none⟩)) rfl (by kernel_rfl) (by kernel_rfl) (by kernel_rfl) (fun _ _ _ h => h) (.inl ⟨by kernel_rfl, fun V hS => by go_simp⟩) hS1 ?_
          simp only [Act.put, List.setIfInBounds_toArray, List.set_cons_zero, List.set_cons_succ]
          refine wpAnyH_take (i := 1) (oi := ⟨some 19, _, _, _, _, _⟩) (v := .string m.hash) rfl (by kernel_rfl) (by kernel_rfl) (by kernel_rfl) (fun _ _ _ h => h) (.inl ⟨by kernel_rfl, fun V hS => by obtain ⟨k0, k1, k2, k3⟩ := HBOX.out V hS; go_simp⟩) hS1 ?_
          simp only [Act.put, List.setIfInBounds_toArray, List.set_cons_zero, List.set_cons_succ]
          refine wpAnyH_take (i := 2) (oi := ⟨some 20, _, _, _, _, _⟩) (v := .bool true) rfl (by kernel_rfl) (by kernel_rfl) (by kernel_rfl) (fun _ _ _ h => h) (.inl ⟨by kernel_rfl, fun V hS => by go_simp⟩) hS1 ?_
          simp only [Act.put, List.setIfInBounds_toArray, List.set_cons_zero, List.set_cons_succ]
          refine wpAnyH_take (i := 3) (oi := ⟨some 21, _, _, _, _, _⟩) (v := .bool true) rfl (by kernel_rfl) (by kernel_rfl) (by kernel_rfl) (fun _ _ _ h => h) (.inl ⟨by kernel_rfl, fun V hS => by go_simp⟩) hS1 ?_
          simp only [Act.put, List.setIfInBounds_toArray, List.set_cons_zero, List.set_cons_succ]
          refine wpAnyH_take (i := 4) (oi := ⟨some 22, _, _, _, _, _⟩) (v := .pointer (some ⟨w.heap.size, 3, none⟩)) rfl (by kernel_rfl) (by kernel_rfl) (by kernel_rfl) (fun _ _ _ h => h) (.inl ⟨by kernel_rfl, fun V hS => by go_simp⟩) hS1 ?_
          simp only [Act.put, List.setIfInBounds_toArray, List.set_cons_zero, List.set_cons_succ]
          refine wpAnyH_take (i := 5) (oi := ⟨some 23, _, _, _, _, _⟩) (v := .string m.hash) rfl (by kernel_rfl) (by kernel_rfl) (by kernel_rfl) (fun _ _ _ h => h) (.inl ⟨by kernel_rfl, fun V hS => by obtain ⟨k0, k1, k2, k3⟩ := HBOX.out V hS; go_simp⟩) hS1 ?_
          simp only [Act.put, List.setIfInBounds_toArray, List.set_cons_zero, List.set_cons_succ]
          refine wpAnyH_take (i := 6) (oi := ⟨some 24, _, _, _, _, _⟩) (v := .slice (some ⟨g, 0, none⟩) 32 32) rfl (by kernel_rfl) (by kernel_rfl) (by kernel_rfl) (fun _ _ _ h => h) (.inl ⟨by kernel_rfl, fun V hS => by go_simp⟩) hS1 ?_
          simp only [Act.put, List.setIfInBounds_toArray, List.set_cons_zero, List.set_cons_succ]
          refine wpAnyH_ready (rs := [7]) (by kernel_rfl) (by simp) ?_
          refine AllReadyH.cons rfl (fun K' hK => ?_) AllReadyH.nil
          go_simp
          refine (refHex_any (some ⟨g, 0, none⟩) 32 32 D WD HDL.out (by omega) (HRB.out.below hS1)).mono ?_
          rintro e7 wx7 ⟨rfl, hb7⟩
          rw [← HX.out]
          go_simp
          refine hK.out _ _ ((hS1).trans (hb7.mono (hS1).size)) (fun hS2 => ?_)
          clear hK K' hS1
          try simp only [Act.put, List.setIfInBounds_toArray, List.set_cons_zero, List.set_cons_succ]
          refine wpAnyH_take (i := 8) (oi := ⟨some 26, _, _, _, _, _⟩) (v := .bool false) rfl (by kernel_rfl) (by kernel_rfl) (by kernel_rfl) (fun _ _ _ h => h) (.inl ⟨by kernel_rfl, fun V hS => by go_simp⟩) hS2 ?_
          simp only [Act.put, List.setIfInBounds_toArray, List.set_cons_zero, List.set_cons_succ]
          refine wpAnyH_take (i := 9) (oi := ⟨some 27, _, _, _, _, _⟩) (v := .bool false) rfl (by kernel_rfl) (by kernel_rfl) (by kernel_rfl) (fun _ _ _ h => h) (.inl ⟨by kernel_rfl, fun V hS => by go_simp⟩) hS2 ?_
          simp only [Act.put, List.setIfInBounds_toArray, List.set_cons_zero, List.set_cons_succ]
          refine wpAnyH_done (by kernel_rfl) ?_ _
          have HBZ := Lib.hid (BW5.out.trans ((hS2).mono BW5.out.size))
          clear hS2
          go_wp2
          refine bodyPost_ret (v := .int .i64 0) (by simp [results, Tryz.results20, go_sem]) rfl ?_
          exact ⟨by rw [HI.out], HBZ.out⟩
        · have HI := Lib.hid (HI.out.trans (if_neg (fun e => hmx (toList_injV (by rw [hX, Lib.toList_data, Lib.toList_data, e])))))
          have q4 : ¬ m.hash.toList = X.toList := fun e => hmx (toList_injV e)
          have q1 : (m.hash.toList == X.toList) = false := beq_eq_false_iff_ne.2 q4
          have q2 : (m.hash.toList != X.toList) = true := by rw [bne, q1]; rfl
          have q3 : decide (m.hash.toList = X.toList) = false := decide_eq_false q4
          clear hmx hX
          refine wp_region_held_drew (S := fun V => Below W5.heap.size W5 V) (by kernel_rfl) ((Below.refl _ _).drew) (fun hS1 => ?_)
          generalize W5.drew = WD at hS1 ⊢
          refine wpAnyH_take (i := 0) (oi := ⟨some 18, _, _, _, _, _⟩) (v := .pointer (some ⟨w.heap.size, 3, none⟩)) rfl (by kernel_rfl) (by kernel_rfl) (by kernel_rfl) (fun _ _ _ h => h) (.inl ⟨by kernel_rfl, fun V hS => by go_simp⟩) hS1 ?_
          simp only [Act.put, List.setIfInBounds_toArray, List.set_cons_zero, List.set_cons_succ]
          refine wpAnyH_take (i := 1) (oi := ⟨some 19, _, _, _, _, _⟩) (v := .string m.hash) rfl (by kernel_rfl) (by kernel_rfl) (by kernel_rfl) (fun _ _ _ h => h) (.inl ⟨by kernel_rfl, fun V hS => by obtain ⟨k0, k1, k2, k3⟩ := HBOX.out V hS; go_simp⟩) hS1 ?_
          simp only [Act.put, List.setIfInBounds_toArray, List.set_cons_zero, List.set_cons_succ]
          refine wpAnyH_take (i := 2) (oi := ⟨some 20, _, _, _, _, _⟩) (v := .bool true) rfl (by kernel_rfl) (by kernel_rfl) (by kernel_rfl) (fun _ _ _ h => h) (.inl ⟨by kernel_rfl, fun V hS => by go_simp⟩) hS1 ?_
          simp only [Act.put, List.setIfInBounds_toArray, List.set_cons_zero, List.set_cons_succ]
          refine wpAnyH_take (i := 3) (oi := ⟨some 21, _, _, _, _, _⟩) (v := .bool true) rfl (by kernel_rfl) (by kernel_rfl) (by kernel_rfl) (fun _ _ _ h => h) (.inl ⟨by kernel_rfl, fun V hS => by go_simp⟩) hS1 ?_
          simp only [Act.put, List.setIfInBounds_toArray, List.set_cons_zero, List.set_cons_succ]
          refine wpAnyH_take (i := 4) (oi := ⟨some 22, _, _, _, _, _⟩) (v := .pointer (some ⟨w.heap.size, 3, none⟩)) rfl (by kernel_rfl) (by kernel_rfl) (by kernel_rfl) (fun _ _ _ h => h) (.inl ⟨by kernel_rfl, fun V hS => by go_simp⟩) hS1 ?_
          simp only [Act.put, List.setIfInBounds_toArray, List.set_cons_zero, List.set_cons_succ]
          refine wpAnyH_take (i := 5) (oi := ⟨some 23, _, _, _, _, _⟩) (v := .string m.hash) rfl (by kernel_rfl) (by kernel_rfl) (by kernel_rfl) (fun _ _ _ h => h) (.inl ⟨by kernel_rfl, fun V hS => by obtain ⟨k0, k1, k2, k3⟩ := HBOX.out V hS; go_simp⟩) hS1 ?_
          simp only [Act.put, List.setIfInBounds_toArray, List.set_cons_zero, List.set_cons_succ]
          refine wpAnyH_take (i := 6) (oi := ⟨some 24, _, _, _, _, _⟩) (v := .slice (some ⟨g, 0, none⟩) 32 32) rfl (by kernel_rfl) (by kernel_rfl) (by kernel_rfl) (fun _ _ _ h => h) (.inl ⟨by kernel_rfl, fun V hS => by go_simp⟩) hS1 ?_
          simp only [Act.put, List.setIfInBounds_toArray, List.set_cons_zero, List.set_cons_succ]
          refine wpAnyH_ready (rs := [7]) (by kernel_rfl) (by simp) ?_
          refine AllReadyH.cons rfl (fun K' hK => ?_) AllReadyH.nil
          go_simp
          refine (refHex_any (some ⟨g, 0, none⟩) 32 32 D WD HDL.out (by omega) (HRB.out.below hS1)).mono ?_
          rintro e7 wx7 ⟨rfl, hb7⟩
          rw [← HX.out]
          go_simp
          refine hK.out _ _ ((hS1).trans (hb7.mono (hS1).size)) (fun hS2 => ?_)
          clear hK K' hS1
          try simp only [Act.put, List.setIfInBounds_toArray, List.set_cons_zero, List.set_cons_succ]
          refine wpAnyH_take (i := 8) (oi := ⟨some 26, _, _, _, _, _⟩) (v := .bool true) rfl (by kernel_rfl) (by kernel_rfl) (by kernel_rfl) (fun _ _ _ h => h) (.inl ⟨by kernel_rfl, fun V hS => by go_simp⟩) hS2 ?_
          simp only [Act.put, List.setIfInBounds_toArray, List.set_cons_zero, List.set_cons_succ]
          refine wpAnyH_take (i := 9) (oi := ⟨some 27, _, _, _, _, _⟩) (v := .bool true) rfl (by kernel_rfl) (by kernel_rfl) (by kernel_rfl) (fun _ _ _ h => h) (.inl ⟨by kernel_rfl, fun V hS => by go_simp⟩) hS2 ?_
          simp only [Act.put, List.setIfInBounds_toArray, List.set_cons_zero, List.set_cons_succ]
          refine wpAnyH_done (by kernel_rfl) ?_ _
          have HBZ := Lib.hid (BW5.out.trans ((hS2).mono BW5.out.size))
          clear hS2
          go_wp2
          refine bodyPost_ret (v := .int .i64 151) (by simp [results, Tryz.results20, go_sem]) rfl ?_
          exact ⟨by rw [HI.out], HBZ.out⟩
    · have d1' : decide (m.len ≥ 0) = true := d1
      have d2' : decide ((n : Int) = m.len) = true := decide_eq_true d2
      have d3 : ((n : Int) == m.len) = true := by rw [d2]; exact beq_self_eq_true _
      have d4 : ((n : Int) != m.len) = false := by rw [bne, d3]; rfl
      have HD2 := Lib.hid d2
      clear d2
      go_upto_region 3 with (fail)
      clear k0 k1 k2 k3
      go_wp2_with fail
      refine HOF.out.mono ?_
      rintro e w4 ⟨rfl, hb4⟩
      have BW4 := Lib.hid (HB1.out.trans (hb4.mono HB1.out.size))
      have HK4 := Lib.hid (HK1.out.below hb4 HK1.out.lt)
      obtain ⟨D, hD⟩ : ∃ D, D = shaL b := ⟨_, rfl⟩
      have hDl : D.length = 32 := by rw [hD, shaL_len]
      obtain ⟨V, hV⟩ : ∃ V, V = (Lib.byteCells D).toArray := ⟨_, rfl⟩
      rw [← hD, ← hV]
      have hVs : V.size = 32 := by rw [hV]; simp [Lib.byteCells, hDl]
      have HZB := Lib.hid (Blk.new w4 87 (#[.int .u8 0, .int .u8 0, .int .u8 0, .int .u8 0, .int .u8 0, .int .u8 0, .int .u8 0, .int .u8 0, .int .u8 0, .int .u8 0, .int .u8 0, .int .u8 0, .int .u8 0, .int .u8 0, .int .u8 0, .int .u8 0, .int .u8 0, .int .u8 0, .int .u8 0, .int .u8 0, .int .u8 0, .int .u8 0, .int .u8 0, .int .u8 0, .int .u8 0, .int .u8 0, .int .u8 0, .int .u8 0, .int .u8 0, .int .u8 0, .int .u8 0, .int .u8 0] : Array Value))
      have HIV : Hid ((Tryz.prog.info? 87).map (·.size) = some V.size) := by show _ = _; rw [hVs]; kernel_rfl
      have HOC : Hid (V.all (·.oneCell') = true) := by show _ = _; rw [hV]; simp [Lib.byteCells, Value.oneCell']
      have HS0 : Hid ((#[.int .u8 0, .int .u8 0, .int .u8 0, .int .u8 0, .int .u8 0, .int .u8 0, .int .u8 0, .int .u8 0, .int .u8 0, .int .u8 0, .int .u8 0, .int .u8 0, .int .u8 0, .int .u8 0, .int .u8 0, .int .u8 0, .int .u8 0, .int .u8 0, .int .u8 0, .int .u8 0, .int .u8 0, .int .u8 0, .int .u8 0, .int .u8 0, .int .u8 0, .int .u8 0, .int .u8 0, .int .u8 0, .int .u8 0, .int .u8 0, .int .u8 0, .int .u8 0] : Array Value).size = V.size) := by show _ = _; rw [hVs]; rfl
      have BW5 := Lib.hid (below_setRow (cs := V) (BW4.out.alloc BW4.out.size (.cells (#[.int .u8 0, .int .u8 0, .int .u8 0, .int .u8 0, .int .u8 0, .int .u8 0, .int .u8 0, .int .u8 0, .int .u8 0, .int .u8 0, .int .u8 0, .int .u8 0, .int .u8 0, .int .u8 0, .int .u8 0, .int .u8 0, .int .u8 0, .int .u8 0, .int .u8 0, .int .u8 0, .int .u8 0, .int .u8 0, .int .u8 0, .int .u8 0, .int .u8 0, .int .u8 0, .int .u8 0, .int .u8 0, .int .u8 0, .int .u8 0, .int .u8 0, .int .u8 0] : Array Value) 87)) BW4.out.size)
      have HRB : Hid (RB ((w4.alloc (.cells (#[.int .u8 0, .int .u8 0, .int .u8 0, .int .u8 0, .int .u8 0, .int .u8 0, .int .u8 0, .int .u8 0, .int .u8 0, .int .u8 0, .int .u8 0, .int .u8 0, .int .u8 0, .int .u8 0, .int .u8 0, .int .u8 0, .int .u8 0, .int .u8 0, .int .u8 0, .int .u8 0, .int .u8 0, .int .u8 0, .int .u8 0, .int .u8 0, .int .u8 0, .int .u8 0, .int .u8 0, .int .u8 0, .int .u8 0, .int .u8 0, .int .u8 0, .int .u8 0] : Array Value) 87)).setRow w4.heap.size V) (some ⟨w4.heap.size, 0, none⟩) D) := by
        have := setRow_at HZB.out V
        rw [hV] at this ⊢
        exact RB.of_blk this
      have HK5 : Hid (Blk ((w4.alloc (.cells (#[.int .u8 0, .int .u8 0, .int .u8 0, .int .u8 0, .int .u8 0, .int .u8 0, .int .u8 0, .int .u8 0, .int .u8 0, .int .u8 0, .int .u8 0, .int .u8 0, .int .u8 0, .int .u8 0, .int .u8 0, .int .u8 0, .int .u8 0, .int .u8 0, .int .u8 0, .int .u8 0, .int .u8 0, .int .u8 0, .int .u8 0, .int .u8 0, .int .u8 0, .int .u8 0, .int .u8 0, .int .u8 0, .int .u8 0, .int .u8 0, .int .u8 0, .int .u8 0] : Array Value) 87)).setRow w4.heap.size V) w.heap.size 44 #[.string m.name, .int .i64 m.ver, .int .i64 m.len, .string m.hash]) := Lib.hid (HK4.out.below (below_setRow (cs := V) ((Below.refl w4.heap.size w4).alloc (Nat.le_refl _) (.cells (#[.int .u8 0, .int .u8 0, .int .u8 0, .int .u8 0, .int .u8 0, .int .u8 0, .int .u8 0, .int .u8 0, .int .u8 0, .int .u8 0, .int .u8 0, .int .u8 0, .int .u8 0, .int .u8 0, .int .u8 0, .int .u8 0, .int .u8 0, .int .u8 0, .int .u8 0, .int .u8 0, .int .u8 0, .int .u8 0, .int .u8 0, .int .u8 0, .int .u8 0, .int .u8 0, .int .u8 0, .int .u8 0, .int .u8 0, .int .u8 0, .int .u8 0, .int .u8 0] : Array Value) 87)) (Nat.le_refl _)) HK4.out.lt)
      have HDL := Lib.hid hDl
      have HI : Hid (m.hash = ⟨#[]⟩ → r = 0) := Lib.hid (fun h2 => by rw [HR.out]; exact fitE_none HH1.out h2)
      have HJ : Hid (¬ m.hash = ⟨#[]⟩ → r = if m.hash.data.toList = hexL D then 0 else 151) := Lib.hid (fun h2 => by rw [HR.out, hD]; exact fitE_sum HH1.out h2)
      clear hD hDl hV hVs HOF hb4
      go_wp2_with (refine wpList_store_row rfl 87 _ _ rfl w4.heap.size V rfl rfl 87 _ HZB.out HIV.out HS0.out HOC.out ?_)
      generalize (w4.alloc (.cells (#[.int .u8 0, .int .u8 0, .int .u8 0, .int .u8 0, .int .u8 0, .int .u8 0, .int .u8 0, .int .u8 0, .int .u8 0, .int .u8 0, .int .u8 0, .int .u8 0, .int .u8 0, .int .u8 0, .int .u8 0, .int .u8 0, .int .u8 0, .int .u8 0, .int .u8 0, .int .u8 0, .int .u8 0, .int .u8 0, .int .u8 0, .int .u8 0, .int .u8 0, .int .u8 0, .int .u8 0, .int .u8 0, .int .u8 0, .int .u8 0, .int .u8 0, .int .u8 0] : Array Value) 87)).setRow w4.heap.size V = W5 at BW5 HRB HK5 ⊢
      generalize w4.heap.size = g at HRB ⊢
      have HBOX : Hid (∀ V, Below W5.heap.size W5 V → V.cell? ⟨w.heap.size, 0, none⟩ = some (.string m.name) ∧ V.cell? ⟨w.heap.size, 1, none⟩ = some (.int .i64 m.ver) ∧ V.cell? ⟨w.heap.size, 2, none⟩ = some (.int .i64 m.len) ∧ V.cell? ⟨w.heap.size, 3, none⟩ = some (.string m.hash)) := Lib.hid (fun V hV => by
        have h9 := HK5.out.below hV HK5.out.lt
        exact ⟨h9.cell 0, h9.cell 1, h9.cell 2, h9.cell 3⟩)
      by_cases he : m.hash = ⟨#[]⟩
      · have HI := Lib.hid (HI.out he)
        have g2 : m.hash.toList = [] := by rw [he, ByteArray.toList_eq]
        clear he HJ
        refine wp_region_held_drew (S := fun V => Below W5.heap.size W5 V) (by kernel_rfl) ((Below.refl _ _).drew) (fun hS1 => ?_)
        generalize W5.drew = WD at hS1 ⊢
        refine wpAnyH_take (i := 0) (oi := ⟨some 18, _, _, _, _, _⟩) (v := .pointer (some ⟨w.heap.size, 3, none⟩)) rfl (by kernel_rfl) (by kernel_rfl) (by kernel_rfl) (fun _ _ _ h => h) (.inl ⟨by kernel_rfl, fun V hS => by go_simp⟩) hS1 ?_
        simp only [Act.put, List.setIfInBounds_toArray, List.set_cons_zero, List.set_cons_succ]
        refine wpAnyH_take (i := 1) (oi := ⟨some 19, _, _, _, _, _⟩) (v := .string m.hash) rfl (by kernel_rfl) (by kernel_rfl) (by kernel_rfl) (fun _ _ _ h => h) (.inl ⟨by kernel_rfl, fun V hS => by obtain ⟨k0, k1, k2, k3⟩ := HBOX.out V hS; go_simp⟩) hS1 ?_
        simp only [Act.put, List.setIfInBounds_toArray, List.set_cons_zero, List.set_cons_succ]
        refine wpAnyH_take (i := 2) (oi := ⟨some 20, _, _, _, _, _⟩) (v := .bool false) rfl (by kernel_rfl) (by kernel_rfl) (by kernel_rfl) (fun _ _ _ h => h) (.inl ⟨by kernel_rfl, fun V hS => by go_simp⟩) hS1 ?_
        simp only [Act.put, List.setIfInBounds_toArray, List.set_cons_zero, List.set_cons_succ]
        refine wpAnyH_take (i := 3) (oi := ⟨some 21, _, _, _, _, _⟩) (v := .bool false) rfl (by kernel_rfl) (by kernel_rfl) (by kernel_rfl) (fun _ _ _ h => h) (.inl ⟨by kernel_rfl, fun V hS => by go_simp⟩) hS1 ?_
        simp only [Act.put, List.setIfInBounds_toArray, List.set_cons_zero, List.set_cons_succ]
        refine wpAnyH_take (i := 4) (oi := ⟨some 22, _, _, _, _, _⟩) (v := undef) rfl (by kernel_rfl) (by kernel_rfl) (by kernel_rfl) (fun _ _ _ h => h) (.inr ⟨by kernel_rfl, rfl⟩) hS1 ?_
        simp only [Act.put, List.setIfInBounds_toArray, List.set_cons_zero, List.set_cons_succ]
        refine wpAnyH_take (i := 5) (oi := ⟨some 23, _, _, _, _, _⟩) (v := undef) rfl (by kernel_rfl) (by kernel_rfl) (by kernel_rfl) (fun _ _ _ h => h) (.inr ⟨by kernel_rfl, rfl⟩) hS1 ?_
        simp only [Act.put, List.setIfInBounds_toArray, List.set_cons_zero, List.set_cons_succ]
        refine wpAnyH_take (i := 6) (oi := ⟨some 24, _, _, _, _, _⟩) (v := undef) rfl (by kernel_rfl) (by kernel_rfl) (by kernel_rfl) (fun _ _ _ h => h) (.inr ⟨by kernel_rfl, rfl⟩) hS1 ?_
        simp only [Act.put, List.setIfInBounds_toArray, List.set_cons_zero, List.set_cons_succ]
        refine wpAnyH_take (i := 7) (oi := ⟨some 25, _, _, _, _, _⟩) (v := undef) rfl (by kernel_rfl) (by kernel_rfl) (by kernel_rfl) (fun _ _ _ h => h) (.inr ⟨by kernel_rfl, rfl⟩) hS1 ?_
        simp only [Act.put, List.setIfInBounds_toArray, List.set_cons_zero, List.set_cons_succ]
        refine wpAnyH_take (i := 8) (oi := ⟨some 26, _, _, _, _, _⟩) (v := undef) rfl (by kernel_rfl) (by kernel_rfl) (by kernel_rfl) (fun _ _ _ h => h) (.inr ⟨by kernel_rfl, rfl⟩) hS1 ?_
        simp only [Act.put, List.setIfInBounds_toArray, List.set_cons_zero, List.set_cons_succ]
        refine wpAnyH_take (i := 9) (oi := ⟨some 27, _, _, _, _, _⟩) (v := .bool false) rfl (by kernel_rfl) (by kernel_rfl) (by kernel_rfl) (fun _ _ _ h => h) (.inl ⟨by kernel_rfl, fun V hS => by go_simp⟩) hS1 ?_
        simp only [Act.put, List.setIfInBounds_toArray, List.set_cons_zero, List.set_cons_succ]
        refine wpAnyH_done (by kernel_rfl) ?_ _
        have HBZ := Lib.hid (BW5.out.trans ((hS1).mono BW5.out.size))
        clear hS1
        go_wp2
        refine bodyPost_ret (v := .int .i64 0) (by simp [results, Tryz.results20, go_sem]) rfl ?_
        exact ⟨by rw [HI.out], HBZ.out⟩
      · have HI := Lib.hid (HJ.out he)
        have g2 : ¬ m.hash.toList = [] := fun e => he (toList_injV (e.trans (by rw [ByteArray.toList_eq])))
        have g3 : m.hash.toList.isEmpty = false := by
          cases hx : m.hash.toList with
          | nil => exact absurd hx g2
          | cons a b => rfl
        have g4 : (m.hash.toList == []) = false := beq_eq_false_iff_ne.2 g2
        have g5 : (m.hash.toList != []) = true := by rw [bne, g4]; rfl
        have g6 : decide (m.hash.toList = []) = false := decide_eq_false g2
        clear he HJ
        obtain ⟨X, hX⟩ : ∃ X, X = (⟨(hexL D).toArray⟩ : ByteArray) := ⟨_, rfl⟩
        have HX : Hid (X = ⟨(hexL D).toArray⟩) := Lib.hid hX
        by_cases hmx : m.hash = X
        · have HI := Lib.hid (HI.out.trans (if_pos (by rw [hmx, hX])))
          have q1 : (m.hash.toList == X.toList) = true := by rw [hmx]; exact beq_self_eq_true _
          have q2 : (m.hash.toList != X.toList) = false := by rw [bne, q1]; rfl
          have q3 : decide (m.hash.toList = X.toList) = true := by rw [hmx]; exact decide_eq_true rfl
          have q4 : m.hash.toList = X.toList := by rw [hmx]
          have q5 : ¬ X.toList = [] := by rw [← q4]; exact g2
          have q6 : (X.toList == []) = false := beq_eq_false_iff_ne.2 q5
          clear hmx hX
          refine wp_region_held_drew (S := fun V => Below W5.heap.size W5 V) (by kernel_rfl) ((Below.refl _ _).drew) (fun hS1 => ?_)
          generalize W5.drew = WD at hS1 ⊢
          refine wpAnyH_take (i := 0) (oi := ⟨some 18, _, _, _, _, _⟩) (v := .pointer (some ⟨w.heap.size, 3, none⟩)) rfl (by kernel_rfl) (by kernel_rfl) (by kernel_rfl) (fun _ _ _ h => h) (.inl ⟨by kernel_rfl, fun V hS => by go_simp⟩) hS1 ?_
          simp only [Act.put, List.setIfInBounds_toArray, List.set_cons_zero, List.set_cons_succ]
          refine wpAnyH_take (i := 1) (oi := ⟨some 19, _, _, _, _, _⟩) (v := .string m.hash) rfl (by kernel_rfl) (by kernel_rfl) (by kernel_rfl) (fun _ _ _ h => h) (.inl ⟨by kernel_rfl, fun V hS => by obtain ⟨k0, k1, k2, k3⟩ := HBOX.out V hS; go_simp⟩) hS1 ?_
          simp only [Act.put, List.setIfInBounds_toArray, List.set_cons_zero, List.set_cons_succ]
          refine wpAnyH_take (i := 2) (oi := ⟨some 20, _, _, _, _, _⟩) (v := .bool true) rfl (by kernel_rfl) (by kernel_rfl) (by kernel_rfl) (fun _ _ _ h => h) (.inl ⟨by kernel_rfl, fun V hS => by go_simp⟩) hS1 ?_
          simp only [Act.put, List.setIfInBounds_toArray, List.set_cons_zero, List.set_cons_succ]
          refine wpAnyH_take (i := 3) (oi := ⟨some 21, _, _, _, _, _⟩) (v := .bool true) rfl (by kernel_rfl) (by kernel_rfl) (by kernel_rfl) (fun _ _ _ h => h) (.inl ⟨by kernel_rfl, fun V hS => by go_simp⟩) hS1 ?_
          simp only [Act.put, List.setIfInBounds_toArray, List.set_cons_zero, List.set_cons_succ]
          refine wpAnyH_take (i := 4) (oi := ⟨some 22, _, _, _, _, _⟩) (v := .pointer (some ⟨w.heap.size, 3, none⟩)) rfl (by kernel_rfl) (by kernel_rfl) (by kernel_rfl) (fun _ _ _ h => h) (.inl ⟨by kernel_rfl, fun V hS => by go_simp⟩) hS1 ?_
          simp only [Act.put, List.setIfInBounds_toArray, List.set_cons_zero, List.set_cons_succ]
          refine wpAnyH_take (i := 5) (oi := ⟨some 23, _, _, _, _, _⟩) (v := .string m.hash) rfl (by kernel_rfl) (by kernel_rfl) (by kernel_rfl) (fun _ _ _ h => h) (.inl ⟨by kernel_rfl, fun V hS => by obtain ⟨k0, k1, k2, k3⟩ := HBOX.out V hS; go_simp⟩) hS1 ?_
          simp only [Act.put, List.setIfInBounds_toArray, List.set_cons_zero, List.set_cons_succ]
          refine wpAnyH_take (i := 6) (oi := ⟨some 24, _, _, _, _, _⟩) (v := .slice (some ⟨g, 0, none⟩) 32 32) rfl (by kernel_rfl) (by kernel_rfl) (by kernel_rfl) (fun _ _ _ h => h) (.inl ⟨by kernel_rfl, fun V hS => by go_simp⟩) hS1 ?_
          simp only [Act.put, List.setIfInBounds_toArray, List.set_cons_zero, List.set_cons_succ]
          refine wpAnyH_ready (rs := [7]) (by kernel_rfl) (by simp) ?_
          refine AllReadyH.cons rfl (fun K' hK => ?_) AllReadyH.nil
          go_simp
          refine (refHex_any (some ⟨g, 0, none⟩) 32 32 D WD HDL.out (by omega) (HRB.out.below hS1)).mono ?_
          rintro e7 wx7 ⟨rfl, hb7⟩
          rw [← HX.out]
          go_simp
          refine hK.out _ _ ((hS1).trans (hb7.mono (hS1).size)) (fun hS2 => ?_)
          clear hK K' hS1
          try simp only [Act.put, List.setIfInBounds_toArray, List.set_cons_zero, List.set_cons_succ]
          refine wpAnyH_take (i := 8) (oi := ⟨some 26, _, _, _, _, _⟩) (v := .bool false) rfl (by kernel_rfl) (by kernel_rfl) (by kernel_rfl) (fun _ _ _ h => h) (.inl ⟨by kernel_rfl, fun V hS => by go_simp⟩) hS2 ?_
          simp only [Act.put, List.setIfInBounds_toArray, List.set_cons_zero, List.set_cons_succ]
          refine wpAnyH_take (i := 9) (oi := ⟨some 27, _, _, _, _, _⟩) (v := .bool false) rfl (by kernel_rfl) (by kernel_rfl) (by kernel_rfl) (fun _ _ _ h => h) (.inl ⟨by kernel_rfl, fun V hS => by go_simp⟩) hS2 ?_
          simp only [Act.put, List.setIfInBounds_toArray, List.set_cons_zero, List.set_cons_succ]
          refine wpAnyH_done (by kernel_rfl) ?_ _
          have HBZ := Lib.hid (BW5.out.trans ((hS2).mono BW5.out.size))
          clear hS2
          go_wp2
          refine bodyPost_ret (v := .int .i64 0) (by simp [results, Tryz.results20, go_sem]) rfl ?_
          exact ⟨by rw [HI.out], HBZ.out⟩
        · have HI := Lib.hid (HI.out.trans (if_neg (fun e => hmx (toList_injV (by rw [hX, Lib.toList_data, Lib.toList_data, e])))))
          have q4 : ¬ m.hash.toList = X.toList := fun e => hmx (toList_injV e)
          have q1 : (m.hash.toList == X.toList) = false := beq_eq_false_iff_ne.2 q4
          have q2 : (m.hash.toList != X.toList) = true := by rw [bne, q1]; rfl
          have q3 : decide (m.hash.toList = X.toList) = false := decide_eq_false q4
          clear hmx hX
          refine wp_region_held_drew (S := fun V => Below W5.heap.size W5 V) (by kernel_rfl) ((Below.refl _ _).drew) (fun hS1 => ?_)
          generalize W5.drew = WD at hS1 ⊢
          refine wpAnyH_take (i := 0) (oi := ⟨some 18, _, _, _, _, _⟩) (v := .pointer (some ⟨w.heap.size, 3, none⟩)) rfl (by kernel_rfl) (by kernel_rfl) (by kernel_rfl) (fun _ _ _ h => h) (.inl ⟨by kernel_rfl, fun V hS => by go_simp⟩) hS1 ?_
          simp only [Act.put, List.setIfInBounds_toArray, List.set_cons_zero, List.set_cons_succ]
          refine wpAnyH_take (i := 1) (oi := ⟨some 19, _, _, _, _, _⟩) (v := .string m.hash) rfl (by kernel_rfl) (by kernel_rfl) (by kernel_rfl) (fun _ _ _ h => h) (.inl ⟨by kernel_rfl, fun V hS => by obtain ⟨k0, k1, k2, k3⟩ := HBOX.out V hS; go_simp⟩) hS1 ?_
          simp only [Act.put, List.setIfInBounds_toArray, List.set_cons_zero, List.set_cons_succ]
          refine wpAnyH_take (i := 2) (oi := ⟨some 20, _, _, _, _, _⟩) (v := .bool true) rfl (by kernel_rfl) (by kernel_rfl) (by kernel_rfl) (fun _ _ _ h => h) (.inl ⟨by kernel_rfl, fun V hS => by go_simp⟩) hS1 ?_
          simp only [Act.put, List.setIfInBounds_toArray, List.set_cons_zero, List.set_cons_succ]
          refine wpAnyH_take (i := 3) (oi := ⟨some 21, _, _, _, _, _⟩) (v := .bool true) rfl (by kernel_rfl) (by kernel_rfl) (by kernel_rfl) (fun _ _ _ h => h) (.inl ⟨by kernel_rfl, fun V hS => by go_simp⟩) hS1 ?_
          simp only [Act.put, List.setIfInBounds_toArray, List.set_cons_zero, List.set_cons_succ]
          refine wpAnyH_take (i := 4) (oi := ⟨some 22, _, _, _, _, _⟩) (v := .pointer (some ⟨w.heap.size, 3, none⟩)) rfl (by kernel_rfl) (by kernel_rfl) (by kernel_rfl) (fun _ _ _ h => h) (.inl ⟨by kernel_rfl, fun V hS => by go_simp⟩) hS1 ?_
          simp only [Act.put, List.setIfInBounds_toArray, List.set_cons_zero, List.set_cons_succ]
          refine wpAnyH_take (i := 5) (oi := ⟨some 23, _, _, _, _, _⟩) (v := .string m.hash) rfl (by kernel_rfl) (by kernel_rfl) (by kernel_rfl) (fun _ _ _ h => h) (.inl ⟨by kernel_rfl, fun V hS => by obtain ⟨k0, k1, k2, k3⟩ := HBOX.out V hS; go_simp⟩) hS1 ?_
          simp only [Act.put, List.setIfInBounds_toArray, List.set_cons_zero, List.set_cons_succ]
          refine wpAnyH_take (i := 6) (oi := ⟨some 24, _, _, _, _, _⟩) (v := .slice (some ⟨g, 0, none⟩) 32 32) rfl (by kernel_rfl) (by kernel_rfl) (by kernel_rfl) (fun _ _ _ h => h) (.inl ⟨by kernel_rfl, fun V hS => by go_simp⟩) hS1 ?_
          simp only [Act.put, List.setIfInBounds_toArray, List.set_cons_zero, List.set_cons_succ]
          refine wpAnyH_ready (rs := [7]) (by kernel_rfl) (by simp) ?_
          refine AllReadyH.cons rfl (fun K' hK => ?_) AllReadyH.nil
          go_simp
          refine (refHex_any (some ⟨g, 0, none⟩) 32 32 D WD HDL.out (by omega) (HRB.out.below hS1)).mono ?_
          rintro e7 wx7 ⟨rfl, hb7⟩
          rw [← HX.out]
          go_simp
          refine hK.out _ _ ((hS1).trans (hb7.mono (hS1).size)) (fun hS2 => ?_)
          clear hK K' hS1
          try simp only [Act.put, List.setIfInBounds_toArray, List.set_cons_zero, List.set_cons_succ]
          refine wpAnyH_take (i := 8) (oi := ⟨some 26, _, _, _, _, _⟩) (v := .bool true) rfl (by kernel_rfl) (by kernel_rfl) (by kernel_rfl) (fun _ _ _ h => h) (.inl ⟨by kernel_rfl, fun V hS => by go_simp⟩) hS2 ?_
          simp only [Act.put, List.setIfInBounds_toArray, List.set_cons_zero, List.set_cons_succ]
          refine wpAnyH_take (i := 9) (oi := ⟨some 27, _, _, _, _, _⟩) (v := .bool true) rfl (by kernel_rfl) (by kernel_rfl) (by kernel_rfl) (fun _ _ _ h => h) (.inl ⟨by kernel_rfl, fun V hS => by go_simp⟩) hS2 ?_
          simp only [Act.put, List.setIfInBounds_toArray, List.set_cons_zero, List.set_cons_succ]
          refine wpAnyH_done (by kernel_rfl) ?_ _
          have HBZ := Lib.hid (BW5.out.trans ((hS2).mono BW5.out.size))
          clear hS2
          go_wp2
          refine bodyPost_ret (v := .int .i64 151) (by simp [results, Tryz.results20, go_sem]) rfl ?_
          exact ⟨by rw [HI.out], HBZ.out⟩
end Go.Proofs.YtefkpphahimkgaaGreatDoor
