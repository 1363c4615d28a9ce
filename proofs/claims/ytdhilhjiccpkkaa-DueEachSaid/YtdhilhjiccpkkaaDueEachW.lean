/-
  The walk of the law DueEach.
-/
import Derived.Test.YtdhilhjiccpkkaaDueLoop
import Derived.Deep.RegionHeld3
namespace Go.Proofs.Ytdhilhjiccpkkaa
open Go.RowKit
set_option linter.unusedVariables false

set_option maxRecDepth 100000 in
set_option maxHeartbeats 8000000 in
theorem dueEach_walk (A : Option Addr) (n c : Nat) (K : Nat → Int × ByteArray × Int) (most : Int) (W : World) (hnc : n ≤ c) (hcm : c ≤ maxLen) (hol : OL W A n K) : Calls Try.prog 6 #[.slice A n c, .int .i64 most] W fun e w' => e = .returned (.bool true) ∧ Below W.heap.size W w' := by
  have HOL := Lib.hid hol
  unfold maxLen at hcm
  clear hol
  go_enter Try.func6, Try.ntmps6
  go_wp2_with fail
  refine (inew_any _).mono ?_
  rintro e w1 ⟨q, S1, rfl, h1, hb1⟩
  have HQ1 := Lib.hid (QX.new h1)
  have HB1 : Hid (Below W.heap.size W (w1.alloc (.cells #[.slice none 0 0] 28))) := Lib.hid (hb1.alloc hb1.size _)
  clear h1 hb1
  go_wp2_with fail
  refine (lives_any _).mono ?_
  rintro e w2 ⟨rfl, hb2⟩
  obtain ⟨x, hx⟩ : ∃ x, x = w1.heap.size := ⟨_, rfl⟩
  rw [← hx] at HQ1 ⊢
  have HI0 : Hid (BothI W w2 q x) := Lib.hid ⟨[], HQ1.out.below hb2, HB1.out.trans (hb2.mono HQ1.out.size)⟩
  clear hb2 HQ1 HB1 hx
  go_wp2_with fail
  go_loopw [7] (fun o wr => ∃ k : Nat, k ≤ n ∧ k ≤ 60 ∧ o = .int .i64 (k : Int) ∧ Hid (BothI W wr q x)) (fun o _ => n - (intOf o).toNat)
  case atStart => exact ⟨0, Nat.zero_le _, by omega, rfl, HI0⟩
  case round =>
    obtain ⟨k, hk, hk6, rfl, HI⟩ := hrel
    clear HI0
    rcases (by omega : k < n ∨ k = n) with hlt | heq
    · have q0 : decide ((k : Int) < (n : Int)) = true := by rw [decide_eq_true_iff]; omega
      have q0' : decide (k < n) = true := by rw [decide_eq_true_iff]; omega
      rcases (by omega : k < 60 ∨ k = 60) with h60 | h60
      · have q1 : decide ((k : Int) < 60) = true := by rw [decide_eq_true_iff]; omega
        have q1' : decide (k < 60) = true := by rw [decide_eq_true_iff]; omega
        have q2 : (0 : Int) ≤ (k : Int) := by omega
        have q3 : (k : Int) < (n : Int) := by omega
        obtain ⟨X, h1, h2⟩ := HI.out
        rcases HOL.out.below h2 with e | ⟨b, o, rfl, hb, hc⟩
        · omega
        obtain ⟨z0, z1, z2, z3⟩ := hc k hlt
        obtain ⟨kk, hkk⟩ : ∃ kk, kk = K k := ⟨_, rfl⟩
        rw [← hkk] at z0 z1 z2 z3
        obtain ⟨k0, s, a⟩ := kk
        simp only at z0 z1 z2 z3
        have HX := Lib.hid h1
        have HBW := Lib.hid h2
        have HZ3 := Lib.hid z3
        have HCC := Lib.hid (fun V (hv : Below W.heap.size W V) => hc)
        have HOC : Hid (∀ V : World, Below W.heap.size W V → V.cell? ⟨b, o + k * 3, none⟩ = some (.int .i64 k0) ∧ V.cell? ⟨b, o + k * 3 + 1, none⟩ = some (.string s) ∧ V.cell? ⟨b, o + k * 3 + 2, none⟩ = some (.int .i64 a)) := Lib.hid (fun V hv => by
          rcases HOL.out.below hv with e | ⟨b', o', e, _, hc'⟩
          · omega
          · cases e
            obtain ⟨y0, y1, y2, _⟩ := hc' k hlt
            rw [← hkk] at y0 y1 y2
            exact ⟨y0, y1, y2⟩)
        have hsz := size_toList s
        clear h1 h2 hc z3 hb HI HCC hkk
        by_cases hlong : s.size ≤ 1000
        · have q4 : decide ((s.size : Int) ≤ (1000 : Int)) = true := by rw [decide_eq_true_iff]; omega
          have q4' : decide (s.size ≤ 1000) = true := by rw [decide_eq_true_iff]; omega
          have HDO := Lib.hid (do_any _ HX.out k0 s a HZ3.out)
          clear hlong
          go_wp2_with fail
          refine HDO.out.mono ?_
          rintro e w4 ⟨rfl, ⟨X2, k1⟩, k2⟩
          have HI4 : Hid (BothI W w4 q x) := Lib.hid ⟨X2, k1, HBW.out.trans k2⟩
          clear k1 k2 z0 z1 z2
          go_wp2
          go_roundw
          case rel => exact ⟨k + 1, by omega, by omega, by go_num, HI4⟩
          case measure => simp [intOf]; omega
        · have q4 : decide ((s.size : Int) ≤ (1000 : Int)) = false := by rw [decide_eq_false_iff_not]; omega
          have q4' : decide (s.size ≤ 1000) = false := by rw [decide_eq_false_iff_not]; omega
          clear hlong
          go_wp2
          go_roundw
          case rel => exact ⟨k + 1, by omega, by omega, by go_num, Lib.hid ⟨X, HX.out, HBW.out⟩⟩
          case measure => simp [intOf]; omega
      · have q1 : decide ((k : Int) < 60) = false := by rw [decide_eq_false_iff_not]; omega
        have q1' : decide (k < 60) = false := by rw [decide_eq_false_iff_not]; omega
        obtain ⟨X, h1, h2⟩ := HI.out
        have HBW := Lib.hid h2
        obtain ⟨AX, cX, hxa⟩ := h1.doc
        have HX := Lib.hid h1
        have HXA := Lib.hid hxa
        have y0 := hxa.blk.cell 0
        simp only [List.getElem?_toArray, List.getElem?_cons_zero] at y0
        have hle := hxa.le
        have hcm2 := hxa.cm
        have hfw := h1.few.1
        obtain ⟨m, hm⟩ : ∃ m, m = X.length := ⟨_, rfl⟩
        rw [← hm] at y0 hle hfw
        unfold maxLen at hcm2
        have HM := Lib.hid hm.symm
        clear h1 h2 hxa hm HI h60
        have hcase : (∃ M : Nat, most = (M : Int) ∧ 1 ≤ M ∧ M < m) ∨ ((decide ((1 : Int) ≤ most) = false ∨ (decide ((1 : Int) ≤ most) = true ∧ decide (most < (m : Int)) = false)) ∧ gathL X most = X) := by
          by_cases h1 : 1 ≤ most
          · by_cases h2 : most < (m : Int)
            · exact .inl ⟨most.toNat, by omega, by omega, by omega⟩
            · exact .inr ⟨.inr ⟨decide_eq_true h1, decide_eq_false h2⟩, by unfold gathL; rw [HM.out, if_neg (fun h => h2 h.2)]⟩
          · exact .inr ⟨.inl (decide_eq_false h1), by unfold gathL; rw [if_neg (fun h => h1 h.1)]⟩
        have HG0 : Hid (gathL X 0 = X) := Lib.hid (by unfold gathL; rw [if_neg (fun h => by omega)])
        rcases hcase with ⟨M, rfl, hM1, hM2⟩ | ⟨hd, hgl⟩
        · have g1 : decide ((1 : Int) ≤ (M : Int)) = true := by rw [decide_eq_true_iff]; omega
          have g2 : decide ((M : Int) < (m : Int)) = true := by rw [decide_eq_true_iff]; omega
          have g1' : decide (1 ≤ M) = true := by rw [decide_eq_true_iff]; omega
          have g2' : decide (M < m) = true := by rw [decide_eq_true_iff]; omega
          have g3 : (0 : Int) ≤ (M : Int) := by omega
          have g4 : (M : Int) ≤ (cX : Int) := by omega
          have HGL : Hid (gathL X (M : Int) = X.take M) := Lib.hid (by unfold gathL; rw [HM.out, if_pos ⟨by omega, by omega⟩]; rfl)
          have HML : Hid ((X.take M).length = M) := Lib.hid (by rw [List.length_take, HM.out]; omega)
          have HRW : Hid (RL wr AX (X.take M)) := Lib.hid (HXA.out.rl.take (by rw [HM.out]; omega))
          rcases HXA.out.rl with e | ⟨b2, o2, rfl, _, _⟩
          · have := HM.out; rw [e] at this; simp at this; omega
          go_wp2_with fail
          have TK1 : Hid True := Lib.hid trivial
          have TK2 : Hid True := Lib.hid trivial
          have HXD := Lib.hid (HX.out.below ((Below.refl _ _).drew))
          have HBD : Hid (Below W.heap.size W wr.drew) := Lib.hid (HBW.out.trans (((Below.refl _ _).drew).mono HX.out.size))
          have HXAD : Hid (XAt wr.drew x (some ⟨b2, o2, none⟩) cX X) := Lib.hid (HXA.out.fr (S := fun _ => False) (Fr.drew (Fr.refl _ _)) (fun e => e) (fun _ _ e => e))
          have HRWD : Hid (RL wr.drew (some ⟨b2, o2, none⟩) (X.take M)) := Lib.hid (HRW.out.below ((Below.refl _ _).drew))
          have d0 : wr.drew.cell? ⟨x, 0, none⟩ = some (.slice (some ⟨b2, o2, none⟩) m cX) := y0
          have HGA := Lib.hid (gath_b _ HXD.out _ HGL.out HML.out)
          have HM512 : Hid (M ≤ 512 ∧ m ≤ 512) := Lib.hid (by have := HML.out; omega)
          go_region_held3 (fun V : World => V.cell? ⟨x, 0, none⟩ = some (.slice (some ⟨b2, o2, none⟩) m cX))
            (go_keep)
            (first
            | (clear TK1; go_at_call 18; refine HGA.out.mono ?_; rintro e w4 ⟨A4, c4, rfl, r4, kb⟩; have HX4 := Lib.hid (HXD.out.below kb); have HB4 := Lib.hid (HBD.out.trans (kb.mono HXD.out.size)); have HR4 := Lib.hid r4; have HRW4 := Lib.hid (HRWD.out.below kb); have HXA4 := Lib.hid (HXAD.out.fr (S := fun _ => False) (Fr.of_below kb) (fun e => e) (fun _ _ e => e)); have y4 := HXA4.out.blk.cell 0; simp only [List.getElem?_toArray, List.getElem?_cons_zero, HM.out] at y4; clear r4 kb)
            | (clear TK2; go_at_call 12; refine (same_b _ HR4.out HRW4.out HML.out HM512.out.1).mono ?_; rintro e w5 ⟨rfl, kb⟩; have HX5 := Lib.hid (HX4.out.below kb); have HB5 := Lib.hid (HB4.out.trans (kb.mono HX4.out.size)); have HXA5 := Lib.hid (HXA4.out.fr (S := fun _ => False) (Fr.of_below kb) (fun e => e) (fun _ _ e => e)); have y5 := HXA5.out.blk.cell 0; simp only [List.getElem?_toArray, List.getElem?_cons_zero, HM.out] at y5; have hle5 := blen_q _ HX5.out; rw [HM.out] at hle5; have HLE := Lib.hid hle5; clear kb hle5)
            | (go_at_call 11; refine HLE.out.mono ?_; rintro e w' ⟨rfl, rfl⟩)
            | (go_at_call 18; refine (gath_b _ HX5.out 0 HG0.out HM.out).mono ?_; rintro e w6 ⟨A6, c6, rfl, r4, kb⟩; have HX6 := Lib.hid (HX5.out.below kb); have HB6 := Lib.hid (HB5.out.trans (kb.mono HX5.out.size)); have HR6 := Lib.hid r4; have HXA6 := Lib.hid (HXA5.out.fr (S := fun _ => False) (Fr.of_below kb) (fun e => e) (fun _ _ e => e)); have y6 := HXA6.out.blk.cell 0; simp only [List.getElem?_toArray, List.getElem?_cons_zero, HM.out] at y6; clear r4 kb)
            | (go_at_call 12; refine (same_b _ HR6.out HXA6.out.rl HM.out HM512.out.2).mono ?_; rintro e w7 ⟨rfl, kb⟩; have HB7 := Lib.hid (HB6.out.trans (kb.mono HX6.out.size)); have HXA7 := Lib.hid (HXA6.out.fr (S := fun _ => False) (Fr.of_below kb) (fun e => e) (fun _ _ e => e)); have y7 := HXA7.out.blk.cell 0; simp only [List.getElem?_toArray, List.getElem?_cons_zero, HM.out] at y7; clear kb))
          go_wp2
          go_ret
          exact ⟨rfl, HB7.out⟩
        · have HGL := Lib.hid hgl
          have HML : Hid (X.length = m) := HM
          have HRW : Hid (RL wr AX X) := Lib.hid HXA.out.rl
          clear hgl
          rcases hd with g1 | ⟨g1, g2⟩
          · go_wp2_with fail
            have TK1 : Hid True := Lib.hid trivial
            have TK2 : Hid True := Lib.hid trivial
            have HXD := Lib.hid (HX.out.below ((Below.refl _ _).drew))
            have HBD : Hid (Below W.heap.size W wr.drew) := Lib.hid (HBW.out.trans (((Below.refl _ _).drew).mono HX.out.size))
            have HXAD : Hid (XAt wr.drew x AX cX X) := Lib.hid (HXA.out.fr (S := fun _ => False) (Fr.drew (Fr.refl _ _)) (fun e => e) (fun _ _ e => e))
            have HRWD : Hid (RL wr.drew AX X) := Lib.hid (HRW.out.below ((Below.refl _ _).drew))
            have d0 : wr.drew.cell? ⟨x, 0, none⟩ = some (.slice AX m cX) := y0
            have HGA := Lib.hid (gath_b _ HXD.out _ HGL.out HML.out)
            have HM512 : Hid (m ≤ 512 ∧ m ≤ 512) := Lib.hid (by have := HML.out; omega)
            go_region_held3 (fun V : World => V.cell? ⟨x, 0, none⟩ = some (.slice AX m cX))
              (go_keep)
              (first
              | (clear TK1; go_at_call 18; refine HGA.out.mono ?_; rintro e w4 ⟨A4, c4, rfl, r4, kb⟩; have HX4 := Lib.hid (HXD.out.below kb); have HB4 := Lib.hid (HBD.out.trans (kb.mono HXD.out.size)); have HR4 := Lib.hid r4; have HRW4 := Lib.hid (HRWD.out.below kb); have HXA4 := Lib.hid (HXAD.out.fr (S := fun _ => False) (Fr.of_below kb) (fun e => e) (fun _ _ e => e)); have y4 := HXA4.out.blk.cell 0; simp only [List.getElem?_toArray, List.getElem?_cons_zero, HM.out] at y4; clear r4 kb)
              | (clear TK2; go_at_call 12; refine (same_b _ HR4.out HRW4.out HML.out HM512.out.1).mono ?_; rintro e w5 ⟨rfl, kb⟩; have HX5 := Lib.hid (HX4.out.below kb); have HB5 := Lib.hid (HB4.out.trans (kb.mono HX4.out.size)); have HXA5 := Lib.hid (HXA4.out.fr (S := fun _ => False) (Fr.of_below kb) (fun e => e) (fun _ _ e => e)); have y5 := HXA5.out.blk.cell 0; simp only [List.getElem?_toArray, List.getElem?_cons_zero, HM.out] at y5; have hle5 := blen_q _ HX5.out; rw [HM.out] at hle5; have HLE := Lib.hid hle5; clear kb hle5)
              | (go_at_call 11; refine HLE.out.mono ?_; rintro e w' ⟨rfl, rfl⟩)
              | (go_at_call 18; refine (gath_b _ HX5.out 0 HG0.out HM.out).mono ?_; rintro e w6 ⟨A6, c6, rfl, r4, kb⟩; have HX6 := Lib.hid (HX5.out.below kb); have HB6 := Lib.hid (HB5.out.trans (kb.mono HX5.out.size)); have HR6 := Lib.hid r4; have HXA6 := Lib.hid (HXA5.out.fr (S := fun _ => False) (Fr.of_below kb) (fun e => e) (fun _ _ e => e)); have y6 := HXA6.out.blk.cell 0; simp only [List.getElem?_toArray, List.getElem?_cons_zero, HM.out] at y6; clear r4 kb)
              | (go_at_call 12; refine (same_b _ HR6.out HXA6.out.rl HM.out HM512.out.2).mono ?_; rintro e w7 ⟨rfl, kb⟩; have HB7 := Lib.hid (HB6.out.trans (kb.mono HX6.out.size)); have HXA7 := Lib.hid (HXA6.out.fr (S := fun _ => False) (Fr.of_below kb) (fun e => e) (fun _ _ e => e)); have y7 := HXA7.out.blk.cell 0; simp only [List.getElem?_toArray, List.getElem?_cons_zero, HM.out] at y7; clear kb))
            go_wp2
            go_ret
            exact ⟨rfl, HB7.out⟩
          · go_wp2_with fail
            have TK1 : Hid True := Lib.hid trivial
            have TK2 : Hid True := Lib.hid trivial
            have HXD := Lib.hid (HX.out.below ((Below.refl _ _).drew))
            have HBD : Hid (Below W.heap.size W wr.drew) := Lib.hid (HBW.out.trans (((Below.refl _ _).drew).mono HX.out.size))
            have HXAD : Hid (XAt wr.drew x AX cX X) := Lib.hid (HXA.out.fr (S := fun _ => False) (Fr.drew (Fr.refl _ _)) (fun e => e) (fun _ _ e => e))
            have HRWD : Hid (RL wr.drew AX X) := Lib.hid (HRW.out.below ((Below.refl _ _).drew))
            have d0 : wr.drew.cell? ⟨x, 0, none⟩ = some (.slice AX m cX) := y0
            have HGA := Lib.hid (gath_b _ HXD.out _ HGL.out HML.out)
            have HM512 : Hid (m ≤ 512 ∧ m ≤ 512) := Lib.hid (by have := HML.out; omega)
            go_region_held3 (fun V : World => V.cell? ⟨x, 0, none⟩ = some (.slice AX m cX))
              (go_keep)
              (first
              | (clear TK1; go_at_call 18; refine HGA.out.mono ?_; rintro e w4 ⟨A4, c4, rfl, r4, kb⟩; have HX4 := Lib.hid (HXD.out.below kb); have HB4 := Lib.hid (HBD.out.trans (kb.mono HXD.out.size)); have HR4 := Lib.hid r4; have HRW4 := Lib.hid (HRWD.out.below kb); have HXA4 := Lib.hid (HXAD.out.fr (S := fun _ => False) (Fr.of_below kb) (fun e => e) (fun _ _ e => e)); have y4 := HXA4.out.blk.cell 0; simp only [List.getElem?_toArray, List.getElem?_cons_zero, HM.out] at y4; clear r4 kb)
              | (clear TK2; go_at_call 12; refine (same_b _ HR4.out HRW4.out HML.out HM512.out.1).mono ?_; rintro e w5 ⟨rfl, kb⟩; have HX5 := Lib.hid (HX4.out.below kb); have HB5 := Lib.hid (HB4.out.trans (kb.mono HX4.out.size)); have HXA5 := Lib.hid (HXA4.out.fr (S := fun _ => False) (Fr.of_below kb) (fun e => e) (fun _ _ e => e)); have y5 := HXA5.out.blk.cell 0; simp only [List.getElem?_toArray, List.getElem?_cons_zero, HM.out] at y5; have hle5 := blen_q _ HX5.out; rw [HM.out] at hle5; have HLE := Lib.hid hle5; clear kb hle5)
              | (go_at_call 11; refine HLE.out.mono ?_; rintro e w' ⟨rfl, rfl⟩)
              | (go_at_call 18; refine (gath_b _ HX5.out 0 HG0.out HM.out).mono ?_; rintro e w6 ⟨A6, c6, rfl, r4, kb⟩; have HX6 := Lib.hid (HX5.out.below kb); have HB6 := Lib.hid (HB5.out.trans (kb.mono HX5.out.size)); have HR6 := Lib.hid r4; have HXA6 := Lib.hid (HXA5.out.fr (S := fun _ => False) (Fr.of_below kb) (fun e => e) (fun _ _ e => e)); have y6 := HXA6.out.blk.cell 0; simp only [List.getElem?_toArray, List.getElem?_cons_zero, HM.out] at y6; clear r4 kb)
              | (go_at_call 12; refine (same_b _ HR6.out HXA6.out.rl HM.out HM512.out.2).mono ?_; rintro e w7 ⟨rfl, kb⟩; have HB7 := Lib.hid (HB6.out.trans (kb.mono HX6.out.size)); have HXA7 := Lib.hid (HXA6.out.fr (S := fun _ => False) (Fr.of_below kb) (fun e => e) (fun _ _ e => e)); have y7 := HXA7.out.blk.cell 0; simp only [List.getElem?_toArray, List.getElem?_cons_zero, HM.out] at y7; clear kb))
            go_wp2
            go_ret
            exact ⟨rfl, HB7.out⟩
    · have q0 : decide ((k : Int) < (n : Int)) = false := by rw [decide_eq_false_iff_not]; omega
      have q0' : decide (k < n) = false := by rw [decide_eq_false_iff_not]; omega
      obtain ⟨X, h1, h2⟩ := HI.out
      have HBW := Lib.hid h2
      obtain ⟨AX, cX, hxa⟩ := h1.doc
      have HX := Lib.hid h1
      have HXA := Lib.hid hxa
      have y0 := hxa.blk.cell 0
      simp only [List.getElem?_toArray, List.getElem?_cons_zero] at y0
      have hle := hxa.le
      have hcm2 := hxa.cm
      have hfw := h1.few.1
      obtain ⟨m, hm⟩ : ∃ m, m = X.length := ⟨_, rfl⟩
      rw [← hm] at y0 hle hfw
      unfold maxLen at hcm2
      have HM := Lib.hid hm.symm
      clear h1 h2 hxa hm HI heq
      have hcase : (∃ M : Nat, most = (M : Int) ∧ 1 ≤ M ∧ M < m) ∨ ((decide ((1 : Int) ≤ most) = false ∨ (decide ((1 : Int) ≤ most) = true ∧ decide (most < (m : Int)) = false)) ∧ gathL X most = X) := by
        by_cases h1 : 1 ≤ most
        · by_cases h2 : most < (m : Int)
          · exact .inl ⟨most.toNat, by omega, by omega, by omega⟩
          · exact .inr ⟨.inr ⟨decide_eq_true h1, decide_eq_false h2⟩, by unfold gathL; rw [HM.out, if_neg (fun h => h2 h.2)]⟩
        · exact .inr ⟨.inl (decide_eq_false h1), by unfold gathL; rw [if_neg (fun h => h1 h.1)]⟩
      have HG0 : Hid (gathL X 0 = X) := Lib.hid (by unfold gathL; rw [if_neg (fun h => by omega)])
      rcases hcase with ⟨M, rfl, hM1, hM2⟩ | ⟨hd, hgl⟩
      · have g1 : decide ((1 : Int) ≤ (M : Int)) = true := by rw [decide_eq_true_iff]; omega
        have g2 : decide ((M : Int) < (m : Int)) = true := by rw [decide_eq_true_iff]; omega
        have g1' : decide (1 ≤ M) = true := by rw [decide_eq_true_iff]; omega
        have g2' : decide (M < m) = true := by rw [decide_eq_true_iff]; omega
        have g3 : (0 : Int) ≤ (M : Int) := by omega
        have g4 : (M : Int) ≤ (cX : Int) := by omega
        have HGL : Hid (gathL X (M : Int) = X.take M) := Lib.hid (by unfold gathL; rw [HM.out, if_pos ⟨by omega, by omega⟩]; rfl)
        have HML : Hid ((X.take M).length = M) := Lib.hid (by rw [List.length_take, HM.out]; omega)
        have HRW : Hid (RL wr AX (X.take M)) := Lib.hid (HXA.out.rl.take (by rw [HM.out]; omega))
        rcases HXA.out.rl with e | ⟨b2, o2, rfl, _, _⟩
        · have := HM.out; rw [e] at this; simp at this; omega
        go_wp2_with fail
        have TK1 : Hid True := Lib.hid trivial
        have TK2 : Hid True := Lib.hid trivial
        have HXD := Lib.hid (HX.out.below ((Below.refl _ _).drew))
        have HBD : Hid (Below W.heap.size W wr.drew) := Lib.hid (HBW.out.trans (((Below.refl _ _).drew).mono HX.out.size))
        have HXAD : Hid (XAt wr.drew x (some ⟨b2, o2, none⟩) cX X) := Lib.hid (HXA.out.fr (S := fun _ => False) (Fr.drew (Fr.refl _ _)) (fun e => e) (fun _ _ e => e))
        have HRWD : Hid (RL wr.drew (some ⟨b2, o2, none⟩) (X.take M)) := Lib.hid (HRW.out.below ((Below.refl _ _).drew))
        have d0 : wr.drew.cell? ⟨x, 0, none⟩ = some (.slice (some ⟨b2, o2, none⟩) m cX) := y0
        have HGA := Lib.hid (gath_b _ HXD.out _ HGL.out HML.out)
        have HM512 : Hid (M ≤ 512 ∧ m ≤ 512) := Lib.hid (by have := HML.out; omega)
        go_region_held3 (fun V : World => V.cell? ⟨x, 0, none⟩ = some (.slice (some ⟨b2, o2, none⟩) m cX))
          (go_keep)
          (first
          | (clear TK1; go_at_call 18; refine HGA.out.mono ?_; rintro e w4 ⟨A4, c4, rfl, r4, kb⟩; have HX4 := Lib.hid (HXD.out.below kb); have HB4 := Lib.hid (HBD.out.trans (kb.mono HXD.out.size)); have HR4 := Lib.hid r4; have HRW4 := Lib.hid (HRWD.out.below kb); have HXA4 := Lib.hid (HXAD.out.fr (S := fun _ => False) (Fr.of_below kb) (fun e => e) (fun _ _ e => e)); have y4 := HXA4.out.blk.cell 0; simp only [List.getElem?_toArray, List.getElem?_cons_zero, HM.out] at y4; clear r4 kb)
          | (clear TK2; go_at_call 12; refine (same_b _ HR4.out HRW4.out HML.out HM512.out.1).mono ?_; rintro e w5 ⟨rfl, kb⟩; have HX5 := Lib.hid (HX4.out.below kb); have HB5 := Lib.hid (HB4.out.trans (kb.mono HX4.out.size)); have HXA5 := Lib.hid (HXA4.out.fr (S := fun _ => False) (Fr.of_below kb) (fun e => e) (fun _ _ e => e)); have y5 := HXA5.out.blk.cell 0; simp only [List.getElem?_toArray, List.getElem?_cons_zero, HM.out] at y5; have hle5 := blen_q _ HX5.out; rw [HM.out] at hle5; have HLE := Lib.hid hle5; clear kb hle5)
          | (go_at_call 11; refine HLE.out.mono ?_; rintro e w' ⟨rfl, rfl⟩)
          | (go_at_call 18; refine (gath_b _ HX5.out 0 HG0.out HM.out).mono ?_; rintro e w6 ⟨A6, c6, rfl, r4, kb⟩; have HX6 := Lib.hid (HX5.out.below kb); have HB6 := Lib.hid (HB5.out.trans (kb.mono HX5.out.size)); have HR6 := Lib.hid r4; have HXA6 := Lib.hid (HXA5.out.fr (S := fun _ => False) (Fr.of_below kb) (fun e => e) (fun _ _ e => e)); have y6 := HXA6.out.blk.cell 0; simp only [List.getElem?_toArray, List.getElem?_cons_zero, HM.out] at y6; clear r4 kb)
          | (go_at_call 12; refine (same_b _ HR6.out HXA6.out.rl HM.out HM512.out.2).mono ?_; rintro e w7 ⟨rfl, kb⟩; have HB7 := Lib.hid (HB6.out.trans (kb.mono HX6.out.size)); have HXA7 := Lib.hid (HXA6.out.fr (S := fun _ => False) (Fr.of_below kb) (fun e => e) (fun _ _ e => e)); have y7 := HXA7.out.blk.cell 0; simp only [List.getElem?_toArray, List.getElem?_cons_zero, HM.out] at y7; clear kb))
        go_wp2
        go_ret
        exact ⟨rfl, HB7.out⟩
      · have HGL := Lib.hid hgl
        have HML : Hid (X.length = m) := HM
        have HRW : Hid (RL wr AX X) := Lib.hid HXA.out.rl
        clear hgl
        rcases hd with g1 | ⟨g1, g2⟩
        · go_wp2_with fail
          have TK1 : Hid True := Lib.hid trivial
          have TK2 : Hid True := Lib.hid trivial
          have HXD := Lib.hid (HX.out.below ((Below.refl _ _).drew))
          have HBD : Hid (Below W.heap.size W wr.drew) := Lib.hid (HBW.out.trans (((Below.refl _ _).drew).mono HX.out.size))
          have HXAD : Hid (XAt wr.drew x AX cX X) := Lib.hid (HXA.out.fr (S := fun _ => False) (Fr.drew (Fr.refl _ _)) (fun e => e) (fun _ _ e => e))
          have HRWD : Hid (RL wr.drew AX X) := Lib.hid (HRW.out.below ((Below.refl _ _).drew))
          have d0 : wr.drew.cell? ⟨x, 0, none⟩ = some (.slice AX m cX) := y0
          have HGA := Lib.hid (gath_b _ HXD.out _ HGL.out HML.out)
          have HM512 : Hid (m ≤ 512 ∧ m ≤ 512) := Lib.hid (by have := HML.out; omega)
          go_region_held3 (fun V : World => V.cell? ⟨x, 0, none⟩ = some (.slice AX m cX))
            (go_keep)
            (first
            | (clear TK1; go_at_call 18; refine HGA.out.mono ?_; rintro e w4 ⟨A4, c4, rfl, r4, kb⟩; have HX4 := Lib.hid (HXD.out.below kb); have HB4 := Lib.hid (HBD.out.trans (kb.mono HXD.out.size)); have HR4 := Lib.hid r4; have HRW4 := Lib.hid (HRWD.out.below kb); have HXA4 := Lib.hid (HXAD.out.fr (S := fun _ => False) (Fr.of_below kb) (fun e => e) (fun _ _ e => e)); have y4 := HXA4.out.blk.cell 0; simp only [List.getElem?_toArray, List.getElem?_cons_zero, HM.out] at y4; clear r4 kb)
            | (clear TK2; go_at_call 12; refine (same_b _ HR4.out HRW4.out HML.out HM512.out.1).mono ?_; rintro e w5 ⟨rfl, kb⟩; have HX5 := Lib.hid (HX4.out.below kb); have HB5 := Lib.hid (HB4.out.trans (kb.mono HX4.out.size)); have HXA5 := Lib.hid (HXA4.out.fr (S := fun _ => False) (Fr.of_below kb) (fun e => e) (fun _ _ e => e)); have y5 := HXA5.out.blk.cell 0; simp only [List.getElem?_toArray, List.getElem?_cons_zero, HM.out] at y5; have hle5 := blen_q _ HX5.out; rw [HM.out] at hle5; have HLE := Lib.hid hle5; clear kb hle5)
            | (go_at_call 11; refine HLE.out.mono ?_; rintro e w' ⟨rfl, rfl⟩)
            | (go_at_call 18; refine (gath_b _ HX5.out 0 HG0.out HM.out).mono ?_; rintro e w6 ⟨A6, c6, rfl, r4, kb⟩; have HX6 := Lib.hid (HX5.out.below kb); have HB6 := Lib.hid (HB5.out.trans (kb.mono HX5.out.size)); have HR6 := Lib.hid r4; have HXA6 := Lib.hid (HXA5.out.fr (S := fun _ => False) (Fr.of_below kb) (fun e => e) (fun _ _ e => e)); have y6 := HXA6.out.blk.cell 0; simp only [List.getElem?_toArray, List.getElem?_cons_zero, HM.out] at y6; clear r4 kb)
            | (go_at_call 12; refine (same_b _ HR6.out HXA6.out.rl HM.out HM512.out.2).mono ?_; rintro e w7 ⟨rfl, kb⟩; have HB7 := Lib.hid (HB6.out.trans (kb.mono HX6.out.size)); have HXA7 := Lib.hid (HXA6.out.fr (S := fun _ => False) (Fr.of_below kb) (fun e => e) (fun _ _ e => e)); have y7 := HXA7.out.blk.cell 0; simp only [List.getElem?_toArray, List.getElem?_cons_zero, HM.out] at y7; clear kb))
          go_wp2
          go_ret
          exact ⟨rfl, HB7.out⟩
        · go_wp2_with fail
          have TK1 : Hid True := Lib.hid trivial
          have TK2 : Hid True := Lib.hid trivial
          have HXD := Lib.hid (HX.out.below ((Below.refl _ _).drew))
          have HBD : Hid (Below W.heap.size W wr.drew) := Lib.hid (HBW.out.trans (((Below.refl _ _).drew).mono HX.out.size))
          have HXAD : Hid (XAt wr.drew x AX cX X) := Lib.hid (HXA.out.fr (S := fun _ => False) (Fr.drew (Fr.refl _ _)) (fun e => e) (fun _ _ e => e))
          have HRWD : Hid (RL wr.drew AX X) := Lib.hid (HRW.out.below ((Below.refl _ _).drew))
          have d0 : wr.drew.cell? ⟨x, 0, none⟩ = some (.slice AX m cX) := y0
          have HGA := Lib.hid (gath_b _ HXD.out _ HGL.out HML.out)
          have HM512 : Hid (m ≤ 512 ∧ m ≤ 512) := Lib.hid (by have := HML.out; omega)
          go_region_held3 (fun V : World => V.cell? ⟨x, 0, none⟩ = some (.slice AX m cX))
            (go_keep)
            (first
            | (clear TK1; go_at_call 18; refine HGA.out.mono ?_; rintro e w4 ⟨A4, c4, rfl, r4, kb⟩; have HX4 := Lib.hid (HXD.out.below kb); have HB4 := Lib.hid (HBD.out.trans (kb.mono HXD.out.size)); have HR4 := Lib.hid r4; have HRW4 := Lib.hid (HRWD.out.below kb); have HXA4 := Lib.hid (HXAD.out.fr (S := fun _ => False) (Fr.of_below kb) (fun e => e) (fun _ _ e => e)); have y4 := HXA4.out.blk.cell 0; simp only [List.getElem?_toArray, List.getElem?_cons_zero, HM.out] at y4; clear r4 kb)
            | (clear TK2; go_at_call 12; refine (same_b _ HR4.out HRW4.out HML.out HM512.out.1).mono ?_; rintro e w5 ⟨rfl, kb⟩; have HX5 := Lib.hid (HX4.out.below kb); have HB5 := Lib.hid (HB4.out.trans (kb.mono HX4.out.size)); have HXA5 := Lib.hid (HXA4.out.fr (S := fun _ => False) (Fr.of_below kb) (fun e => e) (fun _ _ e => e)); have y5 := HXA5.out.blk.cell 0; simp only [List.getElem?_toArray, List.getElem?_cons_zero, HM.out] at y5; have hle5 := blen_q _ HX5.out; rw [HM.out] at hle5; have HLE := Lib.hid hle5; clear kb hle5)
            | (go_at_call 11; refine HLE.out.mono ?_; rintro e w' ⟨rfl, rfl⟩)
            | (go_at_call 18; refine (gath_b _ HX5.out 0 HG0.out HM.out).mono ?_; rintro e w6 ⟨A6, c6, rfl, r4, kb⟩; have HX6 := Lib.hid (HX5.out.below kb); have HB6 := Lib.hid (HB5.out.trans (kb.mono HX5.out.size)); have HR6 := Lib.hid r4; have HXA6 := Lib.hid (HXA5.out.fr (S := fun _ => False) (Fr.of_below kb) (fun e => e) (fun _ _ e => e)); have y6 := HXA6.out.blk.cell 0; simp only [List.getElem?_toArray, List.getElem?_cons_zero, HM.out] at y6; clear r4 kb)
            | (go_at_call 12; refine (same_b _ HR6.out HXA6.out.rl HM.out HM512.out.2).mono ?_; rintro e w7 ⟨rfl, kb⟩; have HB7 := Lib.hid (HB6.out.trans (kb.mono HX6.out.size)); have HXA7 := Lib.hid (HXA6.out.fr (S := fun _ => False) (Fr.of_below kb) (fun e => e) (fun _ _ e => e)); have y7 := HXA7.out.blk.cell 0; simp only [List.getElem?_toArray, List.getElem?_cons_zero, HM.out] at y7; clear kb))
          go_wp2
          go_ret
          exact ⟨rfl, HB7.out⟩
end Go.Proofs.Ytdhilhjiccpkkaa
