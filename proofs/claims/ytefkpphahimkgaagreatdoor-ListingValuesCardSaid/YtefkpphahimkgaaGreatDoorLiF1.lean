/-
 listing.Fits.
-/
import Derived.Test.YtefkpphahimkgaaGreatDoorTk
import Derived.Test.YtefkpphahimkgaaGreatDoorLiP
import Derived.Test.YtefkpphahimkgaaGreatDoorGX
import Derived.Test.YtefkpphahimkgaaGreatDoorGT
namespace Go.Proofs.YtefkpphahimkgaaGreatDoor
open Go.RowKit
attribute [local go_sem ↓] Go.wp_at_zero Go.wp_at_succ
set_option linter.unusedVariables false
set_option linter.unusedSimpArgs false
def fitE (m : ME) (b : List UInt8) : Int := if 0 ≤ m.len ∧ (b.length : Int) ≠ m.len then 150 else if m.hash ≠ ⟨#[]⟩ ∧ m.hash.data.toList ≠ hexL (shaL b) then 151 else 0
theorem fitE_len {m : ME} {b : List UInt8} (h1 : 0 ≤ m.len) (h2 : (b.length : Int) ≠ m.len) : fitE m b = 150 := if_pos ⟨h1, h2⟩
theorem fitE_none {m : ME} {b : List UInt8} (h1 : ¬ (0 ≤ m.len ∧ (b.length : Int) ≠ m.len)) (h2 : m.hash = ⟨#[]⟩) : fitE m b = 0 := by
 unfold fitE
 rw [if_neg h1, if_neg (fun h => h.1 h2)]
theorem fitE_sum {m : ME} {b : List UInt8} (h1 : ¬ (0 ≤ m.len ∧ (b.length : Int) ≠ m.len)) (h2 : m.hash ≠ ⟨#[]⟩) : fitE m b = if m.hash.data.toList = hexL (shaL b) then 0 else 151 := by
 unfold fitE
 rw [if_neg h1]
 by_cases h3 : m.hash.data.toList = hexL (shaL b)
 ·rw [if_neg (fun h => h.2 h3), if_pos h3]
 ·rw [if_pos ⟨h2, h3⟩, if_neg h3]
theorem same_rb (A B : Option Addr) (n m c d : Nat) (a b : List UInt8) (w : World) (hn : a.length = n) (hm : b.length = m) (hn2 : n ≤ 140737488355328) (hm2 : m ≤ maxLen) (ha : RB w A a) (hb : RB w B b) :
  Calls Tryz.prog 53 #[.slice A n c, .slice B m d] w fun e w' => e = .returned (.bool (decide (a = b))) ∧ Below w.heap.size w w' := by
 by_cases h : n = m
 ·subst h
  refine (same_any A B n c d a b w hn2 (by have := ha; unfold RB at this; rw [hn] at this; exact this) (by have := hb; unfold RB at this; rw [hm] at this; exact this)).mono fun e w' ⟨he, q, hw⟩ => ⟨he, ?_⟩
  subst hw
  exact ((Fr.refl (fun _ => False) w).drewN q).to_below (fun _ _ h => h)
 ·refine (same_len A B n m c d w h (by simp only [maxLen]; omega) hm2).mono fun e w' ⟨he, hw⟩ => ?_
  subst hw
  rw [decide_eq_false (fun e' => h (by rw [← hn, ← hm, e']))]
  exact ⟨he, Below.refl _ _⟩
set_option maxRecDepth 100000 in
set_option maxHeartbeats 8000000 in
theorem fits_any (m : ME) (A : Option Addr) (n c : Nat) (b : List UInt8) (w : World) (hK : TabK w) (hr : RB w A b) (hn : b.length = n) (hn2 : n ≤ 3000) (hc : n ≤ c) (hcm : c ≤ maxLen) (hsz : m.hash.size ≤ 140737488351232) :
  Calls Tryz.prog 19 #[m.val, .slice A n c] w fun e w' => e = .returned (.int .i64 (fitE m b)) ∧ Below w.heap.size w w' := by
 obtain ⟨r, hrr⟩ : ∃ r, r = fitE m b := ⟨_, rfl⟩
 rw [← hrr]
 have HR := Ld hrr
 clear hrr
 obtain ⟨W1, hW1⟩ : ∃ W1, W1 = w.alloc (.cells #[.string m.name, .int .i64 m.ver, .int .i64 m.len, .string m.hash] 44) := ⟨_, rfl⟩
 have hb1 : Below w.heap.size w W1 := by rw [hW1]; exact (Below.refl _ _).alloc (Nat.le_refl _) _
 have hk1 : Blk W1 w.heap.size 44 #[.string m.name, .int .i64 m.ver, .int .i64 m.len, .string m.hash] := by rw [hW1]; exact Blk.new _ _ _
 have HB1 := Ld hb1
 have HK1 := Ld hk1
 have HW1 := Ld hW1
 have HTK := Ld (hK.below hb1)
 have HRA := Ld (hr.below hb1)
 have HN := Ld hn
 have HC := Ld (And.intro hc hcm)
 clear hb1 hk1 hW1 hK hr hn hc hcm
 have k0 : W1.cell? ⟨w.heap.size, 0, none⟩ = some (.string m.name) := HK1.out.cell 0
 have k1 : W1.cell? ⟨w.heap.size, 1, none⟩ = some (.int .i64 m.ver) := HK1.out.cell 1
 have k2 : W1.cell? ⟨w.heap.size, 2, none⟩ = some (.int .i64 m.len) := HK1.out.cell 2
 have k3 : W1.cell? ⟨w.heap.size, 3, none⟩ = some (.string m.hash) := HK1.out.cell 3
 unfold ME.val
 by_cases h1 : 0 ≤ m.len ∧ (b.length : Int) ≠ m.len
 ·have HI : Hid (r = 150) := Ld (by rw [HR.out]; exact fitE_len h1.1 h1.2)
  have d1 : decide (0 ≤ m.len) = true := decide_eq_true h1.1
  have d1' : decide (m.len ≥ 0) = true := d1
  have d2' : ¬ (n : Int) = m.len := by rw [← HN.out]; exact h1.2
  have d2 : decide ((n : Int) = m.len) = false := decide_eq_false d2'
  have d3 : ((n : Int) == m.len) = false := beq_eq_false_iff_ne.2 d2'
  have d4 : ((n : Int) != m.len) = true := by rw [bne, d3]; rfl
  clear h1
  go_enter Tryz.func19, Tryz.ntmps19
  go_upto_region 1 with (fail)
  rw [← HW1.out]
  go_wp2
  refine bodyPost_ret (v := .int .i64 150) (by simp [results, Tryz.results19, go_sem]) rfl ?_
  exact ⟨by rw [HI.out], HB1.out⟩
 ·have hpart : (decide (0 ≤ m.len) = false) ∨ (decide (0 ≤ m.len) = true ∧ (n : Int) = m.len) := by
   rw [HN.out] at h1
   by_cases h2 : 0 ≤ m.len
   ·exact .inr ⟨decide_eq_true h2, Classical.byContradiction fun h3 => h1 ⟨h2, h3⟩⟩
   ·exact .inl (decide_eq_false h2)
  have HH1 := Ld h1
  clear h1
  go_enter Tryz.func19, Tryz.ntmps19
  go_upto_region 1 with (fail)
  rw [← HW1.out]
  -- the sum
  obtain ⟨W2, hW2⟩ : ∃ W2, W2 = W1.alloc (.cells #[.slice A n c] 45) := ⟨_, rfl⟩
  have hb2 : Below W1.heap.size W1 W2 := by rw [hW2]; exact (Below.refl _ _).alloc (Nat.le_refl _) _
  have HPS : Hid (Pts W2 (some ⟨W1.heap.size, 0, none⟩) [⟨A, c, b⟩]) := by
   refine Pts.of_block (t := 45) ?_ ?_
   ·have := Blk.new W1 45 #[.slice A n c]
    rw [hW2]
    simpa [Pt.v, HN.out] using this
   ·intro p hp
    rw [List.mem_singleton] at hp
    subst hp
    exact HRA.out.below hb2
  have HOF := Ld (of_any (some ⟨W1.heap.size, 0, none⟩) 1 1 [⟨A, c, b⟩] W2 (HTK.out.below hb2) HPS.out rfl (by omega) (by simp [catP, HN.out]; omega) (by intro p hp; rw [List.mem_singleton] at hp; subst hp; exact ⟨by rw [HN.out]; exact HC.out.1, HC.out.2⟩))
  rw [show catP [⟨A, c, b⟩] = b from by simp [catP]] at HOF
  have HB2 := Ld (HB1.out.trans (hb2.mono HB1.out.size))
  have HK2 := Ld (HK1.out.below hb2 HK1.out.lt)
  have HW2 := Ld hW2
  clear hb2 hW2 HPS
  rcases hpart with d1 | ⟨d1, d2⟩
  ·have d1' : decide (m.len ≥ 0) = false := d1
   go_upto_region 3 with (fail)
   clear k0 k1 k2 k3
   go_wp2_with fail
   rw [← HW2.out]
   refine HOF.out.mono ?_
   rintro e w4 ⟨rfl, hb4⟩
   have BW4 := Ld (HB2.out.trans (hb4.mono HB2.out.size))
   have HK4 := Ld (HK2.out.below hb4 HK2.out.lt)
   obtain ⟨D, hD⟩ : ∃ D, D = shaL b := ⟨_, rfl⟩
   have hDl : D.length = 32 := by rw [hD, shaL_len]
   obtain ⟨V, hV⟩ : ∃ V, V = (Lib.byteCells D).toArray := ⟨_, rfl⟩
   rw [← hD, ← hV]
   have hVs : V.size = 32 := by rw [hV]; simp [Lib.byteCells, hDl]
   have HZB := Ld (Blk.new w4 87 (#[.int .u8 0, .int .u8 0, .int .u8 0, .int .u8 0, .int .u8 0, .int .u8 0, .int .u8 0, .int .u8 0, .int .u8 0, .int .u8 0, .int .u8 0, .int .u8 0, .int .u8 0, .int .u8 0, .int .u8 0, .int .u8 0, .int .u8 0, .int .u8 0, .int .u8 0, .int .u8 0, .int .u8 0, .int .u8 0, .int .u8 0, .int .u8 0, .int .u8 0, .int .u8 0, .int .u8 0, .int .u8 0, .int .u8 0, .int .u8 0, .int .u8 0, .int .u8 0] : Array Value))
   have HIV : Hid ((Tryz.prog.info? 87).map (·.size) = some V.size) := by show _ = _; rw [hVs]; kernel_rfl
   have HOC : Hid (V.all (·.oneCell') = true) := by show _ = _; rw [hV]; simp [Lib.byteCells, Value.oneCell']
   have HS0 : Hid ((#[.int .u8 0, .int .u8 0, .int .u8 0, .int .u8 0, .int .u8 0, .int .u8 0, .int .u8 0, .int .u8 0, .int .u8 0, .int .u8 0, .int .u8 0, .int .u8 0, .int .u8 0, .int .u8 0, .int .u8 0, .int .u8 0, .int .u8 0, .int .u8 0, .int .u8 0, .int .u8 0, .int .u8 0, .int .u8 0, .int .u8 0, .int .u8 0, .int .u8 0, .int .u8 0, .int .u8 0, .int .u8 0, .int .u8 0, .int .u8 0, .int .u8 0, .int .u8 0] : Array Value).size = V.size) := by show _ = _; rw [hVs]; rfl
   have BW5 := Ld (below_setRow (cs := V) (BW4.out.alloc BW4.out.size (.cells (#[.int .u8 0, .int .u8 0, .int .u8 0, .int .u8 0, .int .u8 0, .int .u8 0, .int .u8 0, .int .u8 0, .int .u8 0, .int .u8 0, .int .u8 0, .int .u8 0, .int .u8 0, .int .u8 0, .int .u8 0, .int .u8 0, .int .u8 0, .int .u8 0, .int .u8 0, .int .u8 0, .int .u8 0, .int .u8 0, .int .u8 0, .int .u8 0, .int .u8 0, .int .u8 0, .int .u8 0, .int .u8 0, .int .u8 0, .int .u8 0, .int .u8 0, .int .u8 0] : Array Value) 87)) BW4.out.size)
   have HRB : Hid (RB ((w4.alloc (.cells (#[.int .u8 0, .int .u8 0, .int .u8 0, .int .u8 0, .int .u8 0, .int .u8 0, .int .u8 0, .int .u8 0, .int .u8 0, .int .u8 0, .int .u8 0, .int .u8 0, .int .u8 0, .int .u8 0, .int .u8 0, .int .u8 0, .int .u8 0, .int .u8 0, .int .u8 0, .int .u8 0, .int .u8 0, .int .u8 0, .int .u8 0, .int .u8 0, .int .u8 0, .int .u8 0, .int .u8 0, .int .u8 0, .int .u8 0, .int .u8 0, .int .u8 0, .int .u8 0] : Array Value) 87)).setRow w4.heap.size V) (some ⟨w4.heap.size, 0, none⟩) D) := by
    have := setRow_at HZB.out V
    rw [hV] at this ⊢
    exact RB.of_blk this
   have HK5 : Hid (Blk ((w4.alloc (.cells (#[.int .u8 0, .int .u8 0, .int .u8 0, .int .u8 0, .int .u8 0, .int .u8 0, .int .u8 0, .int .u8 0, .int .u8 0, .int .u8 0, .int .u8 0, .int .u8 0, .int .u8 0, .int .u8 0, .int .u8 0, .int .u8 0, .int .u8 0, .int .u8 0, .int .u8 0, .int .u8 0, .int .u8 0, .int .u8 0, .int .u8 0, .int .u8 0, .int .u8 0, .int .u8 0, .int .u8 0, .int .u8 0, .int .u8 0, .int .u8 0, .int .u8 0, .int .u8 0] : Array Value) 87)).setRow w4.heap.size V) w.heap.size 44 #[.string m.name, .int .i64 m.ver, .int .i64 m.len, .string m.hash]) := Ld (HK4.out.below (below_setRow (cs := V) ((Below.refl w4.heap.size w4).alloc (Nat.le_refl _) (.cells (#[.int .u8 0, .int .u8 0, .int .u8 0, .int .u8 0, .int .u8 0, .int .u8 0, .int .u8 0, .int .u8 0, .int .u8 0, .int .u8 0, .int .u8 0, .int .u8 0, .int .u8 0, .int .u8 0, .int .u8 0, .int .u8 0, .int .u8 0, .int .u8 0, .int .u8 0, .int .u8 0, .int .u8 0, .int .u8 0, .int .u8 0, .int .u8 0, .int .u8 0, .int .u8 0, .int .u8 0, .int .u8 0, .int .u8 0, .int .u8 0, .int .u8 0, .int .u8 0] : Array Value) 87)) (Nat.le_refl _)) HK4.out.lt)
   have HDL := Ld hDl
   have HI : Hid (m.hash = ⟨#[]⟩ → r = 0) := Ld (fun h2 => by rw [HR.out]; exact fitE_none HH1.out h2)
   have HJ : Hid (¬ m.hash = ⟨#[]⟩ → r = if m.hash.data.toList = hexL D then 0 else 151) := Ld (fun h2 => by rw [HR.out, hD]; exact fitE_sum HH1.out h2)
   clear hD hDl hV hVs HOF hb4
   go_wp2_with (refine wpList_store_row rfl 87 _ _ rfl w4.heap.size V rfl rfl 87 _ HZB.out HIV.out HS0.out HOC.out ?_)
   generalize (w4.alloc (.cells (#[.int .u8 0, .int .u8 0, .int .u8 0, .int .u8 0, .int .u8 0, .int .u8 0, .int .u8 0, .int .u8 0, .int .u8 0, .int .u8 0, .int .u8 0, .int .u8 0, .int .u8 0, .int .u8 0, .int .u8 0, .int .u8 0, .int .u8 0, .int .u8 0, .int .u8 0, .int .u8 0, .int .u8 0, .int .u8 0, .int .u8 0, .int .u8 0, .int .u8 0, .int .u8 0, .int .u8 0, .int .u8 0, .int .u8 0, .int .u8 0, .int .u8 0, .int .u8 0] : Array Value) 87)).setRow w4.heap.size V = W5 at BW5 HRB HK5 ⊢
   generalize w4.heap.size = g at HRB ⊢
   have HBOX : Hid (∀ V, Below W5.heap.size W5 V → V.cell? ⟨w.heap.size, 0, none⟩ = some (.string m.name) ∧ V.cell? ⟨w.heap.size, 1, none⟩ = some (.int .i64 m.ver) ∧ V.cell? ⟨w.heap.size, 2, none⟩ = some (.int .i64 m.len) ∧ V.cell? ⟨w.heap.size, 3, none⟩ = some (.string m.hash)) := Ld (fun V hV => by
    have h9 := HK5.out.below hV HK5.out.lt
    exact ⟨h9.cell 0, h9.cell 1, h9.cell 2, h9.cell 3⟩)
   by_cases he : m.hash = ⟨#[]⟩
   ·have HI := Ld (HI.out he)
    have g2 : m.hash.toList = [] := by rw [he, ByteArray.toList_eq]
    clear he HJ
    refine wp_region_held_drew (S := fun V => Below W5.heap.size W5 V) (by kernel_rfl) ((Below.refl _ _).drew) (fun hS1 => ?_)
    generalize W5.drew = WD at hS1 ⊢
    refine tk 0 (some 19) (.pointer (some ⟨w.heap.size, 3, none⟩)) rfl (fun V hS => by go_simp) hS1 ?_
    simp only [nf]
    refine tk 1 (some 20) (.string m.hash) rfl (fun V hS => by obtain ⟨k0, k1, k2, k3⟩ := HBOX.out V hS; go_simp) hS1 ?_
    simp only [nf]
    refine tk 2 (some 21) (.bool false) rfl (fun V hS => by go_simp) hS1 ?_
    simp only [nf]
    refine tk 3 (some 22) (.bool false) rfl (fun V hS => by go_simp) hS1 ?_
    simp only [nf]
    refine tk0 4 (some 23) rfl hS1 ?_
    simp only [nf]
    refine tk0 5 (some 24) rfl hS1 ?_
    simp only [nf]
    refine tk0 6 (some 25) rfl hS1 ?_
    simp only [nf]
    refine tk0 7 (some 26) rfl hS1 ?_
    simp only [nf]
    refine tk0 8 (some 27) rfl hS1 ?_
    simp only [nf]
    refine tk0 9 (some 28) rfl hS1 ?_
    simp only [nf]
    refine tk0 10 (some 29) rfl hS1 ?_
    simp only [nf]
    refine tk0 11 (some 30) rfl hS1 ?_
    simp only [nf]
    refine tk 12 (some 31) (.bool false) rfl (fun V hS => by go_simp) hS1 ?_
    simp only [nf]
    refine wpAnyH_done (by kernel_rfl) ?_ _
    have HBZ := Ld (BW5.out.trans ((hS1).mono BW5.out.size))
    clear hS1
    go_wp2
    refine bodyPost_ret (v := .int .i64 0) (by simp [results, Tryz.results19, go_sem]) rfl ?_
    exact ⟨by rw [HI.out], HBZ.out⟩
   ·have HI := Ld (HJ.out he)
    have g2 : ¬ m.hash.toList = [] := fun e => he (toList_injV (e.trans (by rw [ByteArray.toList_eq])))
    have g3 : m.hash.toList.isEmpty = false := by
     cases hx : m.hash.toList with
     | nil => exact absurd hx g2
     | cons a b => rfl
    have g4 : (m.hash.toList == []) = false := beq_eq_false_iff_ne.2 g2
    have g5 : (m.hash.toList != []) = true := by rw [bne, g4]; rfl
    have g6 : decide (m.hash.toList = []) = false := decide_eq_false g2
    clear he HJ
    obtain ⟨X, hX⟩ : ∃ X, X = (⟨(hexL D).toArray⟩ : ByteArray) := ⟨_, rfl⟩
    have hxs : X.size ≤ 64 := by rw [hX]; have := hexL_length D; rw [HDL.out] at this; simp [ByteArray.size, this]
    have HXS : Hid ((hexL D).length = X.size) := Ld (by rw [hX]; simp [ByteArray.size])
    have HX : Hid (X = ⟨(hexL D).toArray⟩) := Ld hX
    have HXL : Hid (X.data.toList = hexL D) := Ld (by rw [hX])
    clear hX
    refine wp_region_held_drew (S := fun V => Below W5.heap.size W5 V) (by kernel_rfl) ((Below.refl _ _).drew) (fun hS1 => ?_)
    generalize W5.drew = WD at hS1 ⊢
    refine tk 0 (some 19) (.pointer (some ⟨w.heap.size, 3, none⟩)) rfl (fun V hS => by go_simp) hS1 ?_
    simp only [nf]
    refine tk 1 (some 20) (.string m.hash) rfl (fun V hS => by obtain ⟨k0, k1, k2, k3⟩ := HBOX.out V hS; go_simp) hS1 ?_
    simp only [nf]
    refine tk 2 (some 21) (.bool true) rfl (fun V hS => by go_simp) hS1 ?_
    simp only [nf]
    refine tk 3 (some 22) (.bool true) rfl (fun V hS => by go_simp) hS1 ?_
    simp only [nf]
    refine tk 4 (some 23) (.slice (some ⟨g, 0, none⟩) 32 32) rfl (fun V hS => by go_simp) hS1 ?_
    simp only [nf]
    refine tk 7 (some 26) (.pointer (some ⟨w.heap.size, 3, none⟩)) rfl (fun V hS => by go_simp) hS1 ?_
    simp only [nf]
    refine tk 8 (some 27) (.string m.hash) rfl (fun V hS => by obtain ⟨k0, k1, k2, k3⟩ := HBOX.out V hS; go_simp) hS1 ?_
    simp only [nf]
    refine wpAnyH_ready (rs := [5, 9]) (by kernel_rfl) (by simp) ?_
    refine AllReadyH.cons rfl (fun K' hK => ?_) (AllReadyH.cons rfl (fun K' hK => ?_) AllReadyH.nil)
    ·go_simp
     have hx1 := hex_any (some ⟨g, 0, none⟩) 32 32 D (WD) (by omega) (by have h9 := HRB.out.below hS1; unfold RB at h9; rw [HDL.out] at h9; exact h9)
     refine hx1.mono ?_
     clear hx1
     rintro e1 wx1 ⟨rfl, hb1⟩
     rw [← HX.out]
     go_simp
     refine hK.out _ _ ((hS1).trans (hb1.mono (hS1).size)) (fun hS2 => ?_)
     clear hK K' hS1
     try simp only [nf]
     refine wpAnyH_ready (rs := [6, 9]) (by kernel_rfl) (by simp) ?_
     refine AllReadyH.cons rfl (fun K' hK => ?_) (AllReadyH.cons rfl (fun K' hK => ?_) AllReadyH.nil)
     ·obtain ⟨cap6, wx2, hcv, hca2, hcm2, hrb2, hb2⟩ := conv_bytes X wx1 (by unfold maxLen; omega)
      have HF2 := Ld hrb2
      go_simp
      clear hcv hca2 hcm2 hrb2
      refine hK.out _ _ ((hS2).trans (hb2.mono (hS2).size)) (fun hS3 => ?_)
      clear hK K' hS2
      try simp only [nf]
      refine rd1 9 rfl (fun K' hK => ?_)
      obtain ⟨cap9, wx3, hcv, hca3, hcm3, hrb3, hb3⟩ := conv_bytes m.hash wx2 (by unfold maxLen; omega)
      have HF3 := Ld hrb3
      have HF4 := Ld (HF2.out.below hb3)
      go_simp
      clear hcv hca3 hcm3 hrb3
      refine hK.out _ _ ((hS3).trans (hb3.mono (hS3).size)) (fun hS4 => ?_)
      clear hK K' hS3
      try simp only [nf]
      refine rd1 10 rfl (fun K' hK => ?_)
      go_simp
      refine (same_rb (some ⟨wx1.heap.size, 0, none⟩) (some ⟨wx2.heap.size, 0, none⟩) X.size m.hash.size cap6 cap9 (hexL D) m.hash.data.toList wx3 HXS.out rfl (by omega) (by unfold maxLen; omega) (by have h9 := HF4.out; rw [HXL.out] at h9; exact h9) HF3.out).mono ?_
      rintro e5 wx5 ⟨rfl, hb5⟩
      go_simp
      refine hK.out _ _ ((hS4).trans (hb5.mono (hS4).size)) (fun hS5 => ?_)
      clear hK K' hS4
      try simp only [nf]
      refine tk 11 (some 30) (.bool (!decide (hexL D = m.hash.data.toList))) rfl (fun V hS => by go_simp) hS5 ?_
      simp only [nf]
      refine tk 12 (some 31) (.bool (!decide (hexL D = m.hash.data.toList))) rfl (fun V hS => by go_simp) hS5 ?_
      simp only [nf]
      refine wpAnyH_done (by kernel_rfl) ?_ _
      have HBZ := Ld (BW5.out.trans ((hS5).mono BW5.out.size))
      clear hS5
      cases hd : decide (hexL D = m.hash.data.toList) with
      | true =>
       have HI2 : Hid (r = 0) := Ld (by rw [HI.out, if_pos (of_decide_eq_true hd).symm])
       clear hd
       go_wp2
       refine bodyPost_ret (v := .int .i64 0) (by simp [results, Tryz.results19, go_sem]) rfl ?_
       exact ⟨by rw [HI2.out], HBZ.out⟩
      | false =>
       have HI2 : Hid (r = 151) := Ld (by rw [HI.out, if_neg (fun e => of_decide_eq_false hd e.symm)])
       clear hd
       go_wp2
       refine bodyPost_ret (v := .int .i64 151) (by simp [results, Tryz.results19, go_sem]) rfl ?_
       exact ⟨by rw [HI2.out], HBZ.out⟩
     ·obtain ⟨cap9, wx6, hcv, hca6, hcm6, hrb6, hb6⟩ := conv_bytes m.hash wx1 (by unfold maxLen; omega)
      have HF6 := Ld hrb6
      go_simp
      clear hcv hca6 hcm6 hrb6
      refine hK.out _ _ ((hS2).trans (hb6.mono (hS2).size)) (fun hS3 => ?_)
      clear hK K' hS2
      try simp only [nf]
      refine rd1 6 rfl (fun K' hK => ?_)
      obtain ⟨cap6, wx7, hcv, hca7, hcm7, hrb7, hb7⟩ := conv_bytes X wx6 (by unfold maxLen; omega)
      have HF7 := Ld hrb7
      have HF8 := Ld (HF6.out.below hb7)
      go_simp
      clear hcv hca7 hcm7 hrb7
      refine hK.out _ _ ((hS3).trans (hb7.mono (hS3).size)) (fun hS4 => ?_)
      clear hK K' hS3
      try simp only [nf]
      refine rd1 10 rfl (fun K' hK => ?_)
      go_simp
      refine (same_rb (some ⟨wx6.heap.size, 0, none⟩) (some ⟨wx1.heap.size, 0, none⟩) X.size m.hash.size cap6 cap9 (hexL D) m.hash.data.toList wx7 HXS.out rfl (by omega) (by unfold maxLen; omega) (by have h9 := HF7.out; rw [HXL.out] at h9; exact h9) HF8.out).mono ?_
      rintro e9 wx9 ⟨rfl, hb9⟩
      go_simp
      refine hK.out _ _ ((hS4).trans (hb9.mono (hS4).size)) (fun hS5 => ?_)
      clear hK K' hS4
      try simp only [nf]
      refine tk 11 (some 30) (.bool (!decide (hexL D = m.hash.data.toList))) rfl (fun V hS => by go_simp) hS5 ?_
      simp only [nf]
      refine tk 12 (some 31) (.bool (!decide (hexL D = m.hash.data.toList))) rfl (fun V hS => by go_simp) hS5 ?_
      simp only [nf]
      refine wpAnyH_done (by kernel_rfl) ?_ _
      have HBZ := Ld (BW5.out.trans ((hS5).mono BW5.out.size))
      clear hS5
      cases hd : decide (hexL D = m.hash.data.toList) with
      | true =>
       have HI2 : Hid (r = 0) := Ld (by rw [HI.out, if_pos (of_decide_eq_true hd).symm])
       clear hd
       go_wp2
       refine bodyPost_ret (v := .int .i64 0) (by simp [results, Tryz.results19, go_sem]) rfl ?_
       exact ⟨by rw [HI2.out], HBZ.out⟩
      | false =>
       have HI2 : Hid (r = 151) := Ld (by rw [HI.out, if_neg (fun e => of_decide_eq_false hd e.symm)])
       clear hd
       go_wp2
       refine bodyPost_ret (v := .int .i64 151) (by simp [results, Tryz.results19, go_sem]) rfl ?_
       exact ⟨by rw [HI2.out], HBZ.out⟩
    ·obtain ⟨cap9, wx10, hcv, hca10, hcm10, hrb10, hb10⟩ := conv_bytes m.hash WD (by unfold maxLen; omega)
     have HF10 := Ld hrb10
     go_simp
     clear hcv hca10 hcm10 hrb10
     refine hK.out _ _ ((hS1).trans (hb10.mono (hS1).size)) (fun hS2 => ?_)
     clear hK K' hS1
     try simp only [nf]
     refine rd1 5 rfl (fun K' hK => ?_)
     go_simp
     have hx11 := hex_any (some ⟨g, 0, none⟩) 32 32 D (wx10) (by omega) (by have h9 := HRB.out.below hS2; unfold RB at h9; rw [HDL.out] at h9; exact h9)
     refine hx11.mono ?_
     clear hx11
     rintro e11 wx11 ⟨rfl, hb11⟩
     rw [← HX.out]
     have HF12 := Ld (HF10.out.below hb11)
     go_simp
     refine hK.out _ _ ((hS2).trans (hb11.mono (hS2).size)) (fun hS3 => ?_)
     clear hK K' hS2
     try simp only [nf]
     refine rd1 6 rfl (fun K' hK => ?_)
     obtain ⟨cap6, wx13, hcv, hca13, hcm13, hrb13, hb13⟩ := conv_bytes X wx11 (by unfold maxLen; omega)
     have HF13 := Ld hrb13
     have HF14 := Ld (HF12.out.below hb13)
     go_simp
     clear hcv hca13 hcm13 hrb13
     refine hK.out _ _ ((hS3).trans (hb13.mono (hS3).size)) (fun hS4 => ?_)
     clear hK K' hS3
     try simp only [nf]
     refine rd1 10 rfl (fun K' hK => ?_)
     go_simp
     refine (same_rb (some ⟨wx11.heap.size, 0, none⟩) (some ⟨WD.heap.size, 0, none⟩) X.size m.hash.size cap6 cap9 (hexL D) m.hash.data.toList wx13 HXS.out rfl (by omega) (by unfold maxLen; omega) (by have h9 := HF13.out; rw [HXL.out] at h9; exact h9) HF14.out).mono ?_
     rintro e15 wx15 ⟨rfl, hb15⟩
     go_simp
     refine hK.out _ _ ((hS4).trans (hb15.mono (hS4).size)) (fun hS5 => ?_)
     clear hK K' hS4
     try simp only [nf]
     refine tk 11 (some 30) (.bool (!decide (hexL D = m.hash.data.toList))) rfl (fun V hS => by go_simp) hS5 ?_
     simp only [nf]
     refine tk 12 (some 31) (.bool (!decide (hexL D = m.hash.data.toList))) rfl (fun V hS => by go_simp) hS5 ?_
     simp only [nf]
     refine wpAnyH_done (by kernel_rfl) ?_ _
     have HBZ := Ld (BW5.out.trans ((hS5).mono BW5.out.size))
     clear hS5
     cases hd : decide (hexL D = m.hash.data.toList) with
     | true =>
      have HI2 : Hid (r = 0) := Ld (by rw [HI.out, if_pos (of_decide_eq_true hd).symm])
      clear hd
      go_wp2
      refine bodyPost_ret (v := .int .i64 0) (by simp [results, Tryz.results19, go_sem]) rfl ?_
      exact ⟨by rw [HI2.out], HBZ.out⟩
     | false =>
      have HI2 : Hid (r = 151) := Ld (by rw [HI.out, if_neg (fun e => of_decide_eq_false hd e.symm)])
      clear hd
      go_wp2
      refine bodyPost_ret (v := .int .i64 151) (by simp [results, Tryz.results19, go_sem]) rfl ?_
      exact ⟨by rw [HI2.out], HBZ.out⟩
  ·have d1' : decide (m.len ≥ 0) = true := d1
   have d2' : decide ((n : Int) = m.len) = true := decide_eq_true d2
   have d3 : ((n : Int) == m.len) = true := by rw [d2]; exact beq_self_eq_true _
   have d4 : ((n : Int) != m.len) = false := by rw [bne, d3]; rfl
   have HD2 := Ld d2
   clear d2
   go_upto_region 3 with (fail)
   clear k0 k1 k2 k3
   go_wp2_with fail
   rw [← HW2.out]
   refine HOF.out.mono ?_
   rintro e w4 ⟨rfl, hb4⟩
   have BW4 := Ld (HB2.out.trans (hb4.mono HB2.out.size))
   have HK4 := Ld (HK2.out.below hb4 HK2.out.lt)
   obtain ⟨D, hD⟩ : ∃ D, D = shaL b := ⟨_, rfl⟩
   have hDl : D.length = 32 := by rw [hD, shaL_len]
   obtain ⟨V, hV⟩ : ∃ V, V = (Lib.byteCells D).toArray := ⟨_, rfl⟩
   rw [← hD, ← hV]
   have hVs : V.size = 32 := by rw [hV]; simp [Lib.byteCells, hDl]
   have HZB := Ld (Blk.new w4 87 (#[.int .u8 0, .int .u8 0, .int .u8 0, .int .u8 0, .int .u8 0, .int .u8 0, .int .u8 0, .int .u8 0, .int .u8 0, .int .u8 0, .int .u8 0, .int .u8 0, .int .u8 0, .int .u8 0, .int .u8 0, .int .u8 0, .int .u8 0, .int .u8 0, .int .u8 0, .int .u8 0, .int .u8 0, .int .u8 0, .int .u8 0, .int .u8 0, .int .u8 0, .int .u8 0, .int .u8 0, .int .u8 0, .int .u8 0, .int .u8 0, .int .u8 0, .int .u8 0] : Array Value))
   have HIV : Hid ((Tryz.prog.info? 87).map (·.size) = some V.size) := by show _ = _; rw [hVs]; kernel_rfl
   have HOC : Hid (V.all (·.oneCell') = true) := by show _ = _; rw [hV]; simp [Lib.byteCells, Value.oneCell']
   have HS0 : Hid ((#[.int .u8 0, .int .u8 0, .int .u8 0, .int .u8 0, .int .u8 0, .int .u8 0, .int .u8 0, .int .u8 0, .int .u8 0, .int .u8 0, .int .u8 0, .int .u8 0, .int .u8 0, .int .u8 0, .int .u8 0, .int .u8 0, .int .u8 0, .int .u8 0, .int .u8 0, .int .u8 0, .int .u8 0, .int .u8 0, .int .u8 0, .int .u8 0, .int .u8 0, .int .u8 0, .int .u8 0, .int .u8 0, .int .u8 0, .int .u8 0, .int .u8 0, .int .u8 0] : Array Value).size = V.size) := by show _ = _; rw [hVs]; rfl
   have BW5 := Ld (below_setRow (cs := V) (BW4.out.alloc BW4.out.size (.cells (#[.int .u8 0, .int .u8 0, .int .u8 0, .int .u8 0, .int .u8 0, .int .u8 0, .int .u8 0, .int .u8 0, .int .u8 0, .int .u8 0, .int .u8 0, .int .u8 0, .int .u8 0, .int .u8 0, .int .u8 0, .int .u8 0, .int .u8 0, .int .u8 0, .int .u8 0, .int .u8 0, .int .u8 0, .int .u8 0, .int .u8 0, .int .u8 0, .int .u8 0, .int .u8 0, .int .u8 0, .int .u8 0, .int .u8 0, .int .u8 0, .int .u8 0, .int .u8 0] : Array Value) 87)) BW4.out.size)
   have HRB : Hid (RB ((w4.alloc (.cells (#[.int .u8 0, .int .u8 0, .int .u8 0, .int .u8 0, .int .u8 0, .int .u8 0, .int .u8 0, .int .u8 0, .int .u8 0, .int .u8 0, .int .u8 0, .int .u8 0, .int .u8 0, .int .u8 0, .int .u8 0, .int .u8 0, .int .u8 0, .int .u8 0, .int .u8 0, .int .u8 0, .int .u8 0, .int .u8 0, .int .u8 0, .int .u8 0, .int .u8 0, .int .u8 0, .int .u8 0, .int .u8 0, .int .u8 0, .int .u8 0, .int .u8 0, .int .u8 0] : Array Value) 87)).setRow w4.heap.size V) (some ⟨w4.heap.size, 0, none⟩) D) := by
    have := setRow_at HZB.out V
    rw [hV] at this ⊢
    exact RB.of_blk this
   have HK5 : Hid (Blk ((w4.alloc (.cells (#[.int .u8 0, .int .u8 0, .int .u8 0, .int .u8 0, .int .u8 0, .int .u8 0, .int .u8 0, .int .u8 0, .int .u8 0, .int .u8 0, .int .u8 0, .int .u8 0, .int .u8 0, .int .u8 0, .int .u8 0, .int .u8 0, .int .u8 0, .int .u8 0, .int .u8 0, .int .u8 0, .int .u8 0, .int .u8 0, .int .u8 0, .int .u8 0, .int .u8 0, .int .u8 0, .int .u8 0, .int .u8 0, .int .u8 0, .int .u8 0, .int .u8 0, .int .u8 0] : Array Value) 87)).setRow w4.heap.size V) w.heap.size 44 #[.string m.name, .int .i64 m.ver, .int .i64 m.len, .string m.hash]) := Ld (HK4.out.below (below_setRow (cs := V) ((Below.refl w4.heap.size w4).alloc (Nat.le_refl _) (.cells (#[.int .u8 0, .int .u8 0, .int .u8 0, .int .u8 0, .int .u8 0, .int .u8 0, .int .u8 0, .int .u8 0, .int .u8 0, .int .u8 0, .int .u8 0, .int .u8 0, .int .u8 0, .int .u8 0, .int .u8 0, .int .u8 0, .int .u8 0, .int .u8 0, .int .u8 0, .int .u8 0, .int .u8 0, .int .u8 0, .int .u8 0, .int .u8 0, .int .u8 0, .int .u8 0, .int .u8 0, .int .u8 0, .int .u8 0, .int .u8 0, .int .u8 0, .int .u8 0] : Array Value) 87)) (Nat.le_refl _)) HK4.out.lt)
   have HDL := Ld hDl
   have HI : Hid (m.hash = ⟨#[]⟩ → r = 0) := Ld (fun h2 => by rw [HR.out]; exact fitE_none HH1.out h2)
   have HJ : Hid (¬ m.hash = ⟨#[]⟩ → r = if m.hash.data.toList = hexL D then 0 else 151) := Ld (fun h2 => by rw [HR.out, hD]; exact fitE_sum HH1.out h2)
   clear hD hDl hV hVs HOF hb4
   go_wp2_with (refine wpList_store_row rfl 87 _ _ rfl w4.heap.size V rfl rfl 87 _ HZB.out HIV.out HS0.out HOC.out ?_)
   generalize (w4.alloc (.cells (#[.int .u8 0, .int .u8 0, .int .u8 0, .int .u8 0, .int .u8 0, .int .u8 0, .int .u8 0, .int .u8 0, .int .u8 0, .int .u8 0, .int .u8 0, .int .u8 0, .int .u8 0, .int .u8 0, .int .u8 0, .int .u8 0, .int .u8 0, .int .u8 0, .int .u8 0, .int .u8 0, .int .u8 0, .int .u8 0, .int .u8 0, .int .u8 0, .int .u8 0, .int .u8 0, .int .u8 0, .int .u8 0, .int .u8 0, .int .u8 0, .int .u8 0, .int .u8 0] : Array Value) 87)).setRow w4.heap.size V = W5 at BW5 HRB HK5 ⊢
   generalize w4.heap.size = g at HRB ⊢
   have HBOX : Hid (∀ V, Below W5.heap.size W5 V → V.cell? ⟨w.heap.size, 0, none⟩ = some (.string m.name) ∧ V.cell? ⟨w.heap.size, 1, none⟩ = some (.int .i64 m.ver) ∧ V.cell? ⟨w.heap.size, 2, none⟩ = some (.int .i64 m.len) ∧ V.cell? ⟨w.heap.size, 3, none⟩ = some (.string m.hash)) := Ld (fun V hV => by
    have h9 := HK5.out.below hV HK5.out.lt
    exact ⟨h9.cell 0, h9.cell 1, h9.cell 2, h9.cell 3⟩)
   by_cases he : m.hash = ⟨#[]⟩
   ·have HI := Ld (HI.out he)
    have g2 : m.hash.toList = [] := by rw [he, ByteArray.toList_eq]
    clear he HJ
    refine wp_region_held_drew (S := fun V => Below W5.heap.size W5 V) (by kernel_rfl) ((Below.refl _ _).drew) (fun hS1 => ?_)
    generalize W5.drew = WD at hS1 ⊢
    refine tk 0 (some 19) (.pointer (some ⟨w.heap.size, 3, none⟩)) rfl (fun V hS => by go_simp) hS1 ?_
    simp only [nf]
    refine tk 1 (some 20) (.string m.hash) rfl (fun V hS => by obtain ⟨k0, k1, k2, k3⟩ := HBOX.out V hS; go_simp) hS1 ?_
    simp only [nf]
    refine tk 2 (some 21) (.bool false) rfl (fun V hS => by go_simp) hS1 ?_
    simp only [nf]
    refine tk 3 (some 22) (.bool false) rfl (fun V hS => by go_simp) hS1 ?_
    simp only [nf]
    refine tk0 4 (some 23) rfl hS1 ?_
    simp only [nf]
    refine tk0 5 (some 24) rfl hS1 ?_
    simp only [nf]
    refine tk0 6 (some 25) rfl hS1 ?_
    simp only [nf]
    refine tk0 7 (some 26) rfl hS1 ?_
    simp only [nf]
    refine tk0 8 (some 27) rfl hS1 ?_
    simp only [nf]
    refine tk0 9 (some 28) rfl hS1 ?_
    simp only [nf]
    refine tk0 10 (some 29) rfl hS1 ?_
    simp only [nf]
    refine tk0 11 (some 30) rfl hS1 ?_
    simp only [nf]
    refine tk 12 (some 31) (.bool false) rfl (fun V hS => by go_simp) hS1 ?_
    simp only [nf]
    refine wpAnyH_done (by kernel_rfl) ?_ _
    have HBZ := Ld (BW5.out.trans ((hS1).mono BW5.out.size))
    clear hS1
    go_wp2
    refine bodyPost_ret (v := .int .i64 0) (by simp [results, Tryz.results19, go_sem]) rfl ?_
    exact ⟨by rw [HI.out], HBZ.out⟩
   ·have HI := Ld (HJ.out he)
    have g2 : ¬ m.hash.toList = [] := fun e => he (toList_injV (e.trans (by rw [ByteArray.toList_eq])))
    have g3 : m.hash.toList.isEmpty = false := by
     cases hx : m.hash.toList with
     | nil => exact absurd hx g2
     | cons a b => rfl
    have g4 : (m.hash.toList == []) = false := beq_eq_false_iff_ne.2 g2
    have g5 : (m.hash.toList != []) = true := by rw [bne, g4]; rfl
    have g6 : decide (m.hash.toList = []) = false := decide_eq_false g2
    clear he HJ
    obtain ⟨X, hX⟩ : ∃ X, X = (⟨(hexL D).toArray⟩ : ByteArray) := ⟨_, rfl⟩
    have hxs : X.size ≤ 64 := by rw [hX]; have := hexL_length D; rw [HDL.out] at this; simp [ByteArray.size, this]
    have HXS : Hid ((hexL D).length = X.size) := Ld (by rw [hX]; simp [ByteArray.size])
    have HX : Hid (X = ⟨(hexL D).toArray⟩) := Ld hX
    have HXL : Hid (X.data.toList = hexL D) := Ld (by rw [hX])
    clear hX
    refine wp_region_held_drew (S := fun V => Below W5.heap.size W5 V) (by kernel_rfl) ((Below.refl _ _).drew) (fun hS1 => ?_)
    generalize W5.drew = WD at hS1 ⊢
    refine tk 0 (some 19) (.pointer (some ⟨w.heap.size, 3, none⟩)) rfl (fun V hS => by go_simp) hS1 ?_
    simp only [nf]
    refine tk 1 (some 20) (.string m.hash) rfl (fun V hS => by obtain ⟨k0, k1, k2, k3⟩ := HBOX.out V hS; go_simp) hS1 ?_
    simp only [nf]
    refine tk 2 (some 21) (.bool true) rfl (fun V hS => by go_simp) hS1 ?_
    simp only [nf]
    refine tk 3 (some 22) (.bool true) rfl (fun V hS => by go_simp) hS1 ?_
    simp only [nf]
    refine tk 4 (some 23) (.slice (some ⟨g, 0, none⟩) 32 32) rfl (fun V hS => by go_simp) hS1 ?_
    simp only [nf]
    refine tk 7 (some 26) (.pointer (some ⟨w.heap.size, 3, none⟩)) rfl (fun V hS => by go_simp) hS1 ?_
    simp only [nf]
    refine tk 8 (some 27) (.string m.hash) rfl (fun V hS => by obtain ⟨k0, k1, k2, k3⟩ := HBOX.out V hS; go_simp) hS1 ?_
    simp only [nf]
    refine wpAnyH_ready (rs := [5, 9]) (by kernel_rfl) (by simp) ?_
    refine AllReadyH.cons rfl (fun K' hK => ?_) (AllReadyH.cons rfl (fun K' hK => ?_) AllReadyH.nil)
    ·go_simp
     have hx1 := hex_any (some ⟨g, 0, none⟩) 32 32 D (WD) (by omega) (by have h9 := HRB.out.below hS1; unfold RB at h9; rw [HDL.out] at h9; exact h9)
     refine hx1.mono ?_
     clear hx1
     rintro e1 wx1 ⟨rfl, hb1⟩
     rw [← HX.out]
     go_simp
     refine hK.out _ _ ((hS1).trans (hb1.mono (hS1).size)) (fun hS2 => ?_)
     clear hK K' hS1
     try simp only [nf]
     refine wpAnyH_ready (rs := [6, 9]) (by kernel_rfl) (by simp) ?_
     refine AllReadyH.cons rfl (fun K' hK => ?_) (AllReadyH.cons rfl (fun K' hK => ?_) AllReadyH.nil)
     ·obtain ⟨cap6, wx2, hcv, hca2, hcm2, hrb2, hb2⟩ := conv_bytes X wx1 (by unfold maxLen; omega)
      have HF2 := Ld hrb2
      go_simp
      clear hcv hca2 hcm2 hrb2
      refine hK.out _ _ ((hS2).trans (hb2.mono (hS2).size)) (fun hS3 => ?_)
      clear hK K' hS2
      try simp only [nf]
      refine rd1 9 rfl (fun K' hK => ?_)
      obtain ⟨cap9, wx3, hcv, hca3, hcm3, hrb3, hb3⟩ := conv_bytes m.hash wx2 (by unfold maxLen; omega)
      have HF3 := Ld hrb3
      have HF4 := Ld (HF2.out.below hb3)
      go_simp
      clear hcv hca3 hcm3 hrb3
      refine hK.out _ _ ((hS3).trans (hb3.mono (hS3).size)) (fun hS4 => ?_)
      clear hK K' hS3
      try simp only [nf]
      refine rd1 10 rfl (fun K' hK => ?_)
      go_simp
      refine (same_rb (some ⟨wx1.heap.size, 0, none⟩) (some ⟨wx2.heap.size, 0, none⟩) X.size m.hash.size cap6 cap9 (hexL D) m.hash.data.toList wx3 HXS.out rfl (by omega) (by unfold maxLen; omega) (by have h9 := HF4.out; rw [HXL.out] at h9; exact h9) HF3.out).mono ?_
      rintro e5 wx5 ⟨rfl, hb5⟩
      go_simp
      refine hK.out _ _ ((hS4).trans (hb5.mono (hS4).size)) (fun hS5 => ?_)
      clear hK K' hS4
      try simp only [nf]
      refine tk 11 (some 30) (.bool (!decide (hexL D = m.hash.data.toList))) rfl (fun V hS => by go_simp) hS5 ?_
      simp only [nf]
      refine tk 12 (some 31) (.bool (!decide (hexL D = m.hash.data.toList))) rfl (fun V hS => by go_simp) hS5 ?_
      simp only [nf]
      refine wpAnyH_done (by kernel_rfl) ?_ _
      have HBZ := Ld (BW5.out.trans ((hS5).mono BW5.out.size))
      clear hS5
      cases hd : decide (hexL D = m.hash.data.toList) with
      | true =>
       have HI2 : Hid (r = 0) := Ld (by rw [HI.out, if_pos (of_decide_eq_true hd).symm])
       clear hd
       go_wp2
       refine bodyPost_ret (v := .int .i64 0) (by simp [results, Tryz.results19, go_sem]) rfl ?_
       exact ⟨by rw [HI2.out], HBZ.out⟩
      | false =>
       have HI2 : Hid (r = 151) := Ld (by rw [HI.out, if_neg (fun e => of_decide_eq_false hd e.symm)])
       clear hd
       go_wp2
       refine bodyPost_ret (v := .int .i64 151) (by simp [results, Tryz.results19, go_sem]) rfl ?_
       exact ⟨by rw [HI2.out], HBZ.out⟩
     ·obtain ⟨cap9, wx6, hcv, hca6, hcm6, hrb6, hb6⟩ := conv_bytes m.hash wx1 (by unfold maxLen; omega)
      have HF6 := Ld hrb6
      go_simp
      clear hcv hca6 hcm6 hrb6
      refine hK.out _ _ ((hS2).trans (hb6.mono (hS2).size)) (fun hS3 => ?_)
      clear hK K' hS2
      try simp only [nf]
      refine rd1 6 rfl (fun K' hK => ?_)
      obtain ⟨cap6, wx7, hcv, hca7, hcm7, hrb7, hb7⟩ := conv_bytes X wx6 (by unfold maxLen; omega)
      have HF7 := Ld hrb7
      have HF8 := Ld (HF6.out.below hb7)
      go_simp
      clear hcv hca7 hcm7 hrb7
      refine hK.out _ _ ((hS3).trans (hb7.mono (hS3).size)) (fun hS4 => ?_)
      clear hK K' hS3
      try simp only [nf]
      refine rd1 10 rfl (fun K' hK => ?_)
      go_simp
      refine (same_rb (some ⟨wx6.heap.size, 0, none⟩) (some ⟨wx1.heap.size, 0, none⟩) X.size m.hash.size cap6 cap9 (hexL D) m.hash.data.toList wx7 HXS.out rfl (by omega) (by unfold maxLen; omega) (by have h9 := HF7.out; rw [HXL.out] at h9; exact h9) HF8.out).mono ?_
      rintro e9 wx9 ⟨rfl, hb9⟩
      go_simp
      refine hK.out _ _ ((hS4).trans (hb9.mono (hS4).size)) (fun hS5 => ?_)
      clear hK K' hS4
      try simp only [nf]
      refine tk 11 (some 30) (.bool (!decide (hexL D = m.hash.data.toList))) rfl (fun V hS => by go_simp) hS5 ?_
      simp only [nf]
      refine tk 12 (some 31) (.bool (!decide (hexL D = m.hash.data.toList))) rfl (fun V hS => by go_simp) hS5 ?_
      simp only [nf]
      refine wpAnyH_done (by kernel_rfl) ?_ _
      have HBZ := Ld (BW5.out.trans ((hS5).mono BW5.out.size))
      clear hS5
      cases hd : decide (hexL D = m.hash.data.toList) with
      | true =>
       have HI2 : Hid (r = 0) := Ld (by rw [HI.out, if_pos (of_decide_eq_true hd).symm])
       clear hd
       go_wp2
       refine bodyPost_ret (v := .int .i64 0) (by simp [results, Tryz.results19, go_sem]) rfl ?_
       exact ⟨by rw [HI2.out], HBZ.out⟩
      | false =>
       have HI2 : Hid (r = 151) := Ld (by rw [HI.out, if_neg (fun e => of_decide_eq_false hd e.symm)])
       clear hd
       go_wp2
       refine bodyPost_ret (v := .int .i64 151) (by simp [results, Tryz.results19, go_sem]) rfl ?_
       exact ⟨by rw [HI2.out], HBZ.out⟩
    ·obtain ⟨cap9, wx10, hcv, hca10, hcm10, hrb10, hb10⟩ := conv_bytes m.hash WD (by unfold maxLen; omega)
     have HF10 := Ld hrb10
     go_simp
     clear hcv hca10 hcm10 hrb10
     refine hK.out _ _ ((hS1).trans (hb10.mono (hS1).size)) (fun hS2 => ?_)
     clear hK K' hS1
     try simp only [nf]
     refine rd1 5 rfl (fun K' hK => ?_)
     go_simp
     have hx11 := hex_any (some ⟨g, 0, none⟩) 32 32 D (wx10) (by omega) (by have h9 := HRB.out.below hS2; unfold RB at h9; rw [HDL.out] at h9; exact h9)
     refine hx11.mono ?_
     clear hx11
     rintro e11 wx11 ⟨rfl, hb11⟩
     rw [← HX.out]
     have HF12 := Ld (HF10.out.below hb11)
     go_simp
     refine hK.out _ _ ((hS2).trans (hb11.mono (hS2).size)) (fun hS3 => ?_)
     clear hK K' hS2
     try simp only [nf]
     refine rd1 6 rfl (fun K' hK => ?_)
     obtain ⟨cap6, wx13, hcv, hca13, hcm13, hrb13, hb13⟩ := conv_bytes X wx11 (by unfold maxLen; omega)
     have HF13 := Ld hrb13
     have HF14 := Ld (HF12.out.below hb13)
     go_simp
     clear hcv hca13 hcm13 hrb13
     refine hK.out _ _ ((hS3).trans (hb13.mono (hS3).size)) (fun hS4 => ?_)
     clear hK K' hS3
     try simp only [nf]
     refine rd1 10 rfl (fun K' hK => ?_)
     go_simp
     refine (same_rb (some ⟨wx11.heap.size, 0, none⟩) (some ⟨WD.heap.size, 0, none⟩) X.size m.hash.size cap6 cap9 (hexL D) m.hash.data.toList wx13 HXS.out rfl (by omega) (by unfold maxLen; omega) (by have h9 := HF13.out; rw [HXL.out] at h9; exact h9) HF14.out).mono ?_
     rintro e15 wx15 ⟨rfl, hb15⟩
     go_simp
     refine hK.out _ _ ((hS4).trans (hb15.mono (hS4).size)) (fun hS5 => ?_)
     clear hK K' hS4
     try simp only [nf]
     refine tk 11 (some 30) (.bool (!decide (hexL D = m.hash.data.toList))) rfl (fun V hS => by go_simp) hS5 ?_
     simp only [nf]
     refine tk 12 (some 31) (.bool (!decide (hexL D = m.hash.data.toList))) rfl (fun V hS => by go_simp) hS5 ?_
     simp only [nf]
     refine wpAnyH_done (by kernel_rfl) ?_ _
     have HBZ := Ld (BW5.out.trans ((hS5).mono BW5.out.size))
     clear hS5
     cases hd : decide (hexL D = m.hash.data.toList) with
     | true =>
      have HI2 : Hid (r = 0) := Ld (by rw [HI.out, if_pos (of_decide_eq_true hd).symm])
      clear hd
      go_wp2
      refine bodyPost_ret (v := .int .i64 0) (by simp [results, Tryz.results19, go_sem]) rfl ?_
      exact ⟨by rw [HI2.out], HBZ.out⟩
     | false =>
      have HI2 : Hid (r = 151) := Ld (by rw [HI.out, if_neg (fun e => of_decide_eq_false hd e.symm)])
      clear hd
      go_wp2
      refine bodyPost_ret (v := .int .i64 151) (by simp [results, Tryz.results19, go_sem]) rfl ?_
      exact ⟨by rw [HI2.out], HBZ.out⟩
end Go.Proofs.YtefkpphahimkgaaGreatDoor
