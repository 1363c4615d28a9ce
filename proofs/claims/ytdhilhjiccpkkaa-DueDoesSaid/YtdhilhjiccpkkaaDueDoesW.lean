/-
  The walk of the law DueDoes.
-/
import Derived.Test.YtdhilhjiccpkkaaDueLoop
import Derived.BigRegion
namespace Go.Proofs.Ytdhilhjiccpkkaa
open Go.RowKit
set_option linter.unusedVariables false

set_option maxRecDepth 100000 in
set_option maxHeartbeats 8000000 in
theorem dueDoes_walk (A : Option Addr) (n c : Nat) (K : Nat → Int × ByteArray × Int) (W : World) (hnc : n ≤ c) (hcm : c ≤ maxLen) (hol : OL W A n K) : Calls Try.prog 3 #[.slice A n c] W fun e w' => e = .returned (.bool true) ∧ Below W.heap.size W w' := by
  have HOL := Lib.hid hol
  unfold maxLen at hcm
  clear hol
  go_enter Try.func3, Try.ntmps3
  go_wp2_with fail
  refine (inew_any _).mono ?_
  rintro e w1 ⟨q, S1, rfl, h1, hb1⟩
  have HQ1 := Lib.hid (QX.new h1)
  have HB1 : Hid (Below W.heap.size W (w1.alloc (.cells #[.slice none 0 0] 28))) := Lib.hid (hb1.alloc hb1.size _)
  clear h1 hb1
  go_wp2_with fail
  refine (lives_any _).mono ?_
  rintro e w2 ⟨rfl, hb2⟩
  obtain ⟨x, hx⟩ : ∃ x, x = w1.heap.size := ⟨_, rfl⟩
  rw [← hx] at HQ1 ⊢
  have HI0 : Hid (BothI W w2 q x) := Lib.hid ⟨[], HQ1.out.below hb2, HB1.out.trans (hb2.mono HQ1.out.size)⟩
  clear hb2 HQ1 HB1 hx
  go_wp2_with fail
  go_loopw [5] (fun o wr => ∃ k : Nat, k ≤ n ∧ k ≤ 60 ∧ o = .int .i64 (k : Int) ∧ Hid (BothI W wr q x)) (fun o _ => n - (intOf o).toNat)
  case atStart => exact ⟨0, Nat.zero_le _, by omega, rfl, HI0⟩
  case round =>
    obtain ⟨k, hk, hk6, rfl, HI⟩ := hrel
    clear HI0
    rcases (by omega : k < n ∨ k = n) with hlt | heq
    · have q0 : decide ((k : Int) < (n : Int)) = true := by rw [decide_eq_true_iff]; omega
      have q0' : decide (k < n) = true := by rw [decide_eq_true_iff]; omega
      rcases (by omega : k < 60 ∨ k = 60) with h60 | h60
      · have q1 : decide ((k : Int) < 60) = true := by rw [decide_eq_true_iff]; omega
        have q1' : decide (k < 60) = true := by rw [decide_eq_true_iff]; omega
        have q2 : (0 : Int) ≤ (k : Int) := by omega
        have q3 : (k : Int) < (n : Int) := by omega
        obtain ⟨X, h1, h2⟩ := HI.out
        rcases HOL.out.below h2 with e | ⟨b, o, rfl, hb, hc⟩
        · omega
        obtain ⟨z0, z1, z2, z3⟩ := hc k hlt
        obtain ⟨kk, hkk⟩ : ∃ kk, kk = K k := ⟨_, rfl⟩
        rw [← hkk] at z0 z1 z2 z3
        obtain ⟨k0, s, a⟩ := kk
        simp only at z0 z1 z2 z3
        have HX := Lib.hid h1
        have HBW := Lib.hid h2
        have HZ3 := Lib.hid z3
        have HCC := Lib.hid (fun V (hv : Below W.heap.size W V) => hc)
        have HOC : Hid (∀ V : World, Below W.heap.size W V → V.cell? ⟨b, o + k * 3, none⟩ = some (.int .i64 k0) ∧ V.cell? ⟨b, o + k * 3 + 1, none⟩ = some (.string s) ∧ V.cell? ⟨b, o + k * 3 + 2, none⟩ = some (.int .i64 a)) := Lib.hid (fun V hv => by
          rcases HOL.out.below hv with e | ⟨b', o', e, _, hc'⟩
          · omega
          · cases e
            obtain ⟨y0, y1, y2, _⟩ := hc' k hlt
            rw [← hkk] at y0 y1 y2
            exact ⟨y0, y1, y2⟩)
        have hsz := size_toList s
        clear h1 h2 hc z3 hb HI HCC hkk
        by_cases hlong : 1000 < s.size
        · have q4 : decide ((1000 : Int) < (s.size : Int)) = true := by rw [decide_eq_true_iff]; omega
          have q4' : decide (1000 < s.size) = true := by rw [decide_eq_true_iff]; omega
          clear hlong
          go_wp2
          go_roundw
          case rel => exact ⟨k + 1, by omega, by omega, by go_num, Lib.hid ⟨X, HX.out, HBW.out⟩⟩
          case measure => simp [intOf]; omega
        · have q4 : decide ((1000 : Int) < (s.size : Int)) = false := by rw [decide_eq_false_iff_not]; omega
          have q4' : decide (1000 < s.size) = false := by rw [decide_eq_false_iff_not]; omega
          clear hlong
          go_wp2_with fail
          have HXD := Lib.hid (HX.out.below ((Below.refl _ _).drew))
          have HBD : Hid (Below W.heap.size W wr.drew) := Lib.hid (HBW.out.trans (((Below.refl _ _).drew).mono HX.out.size))
          have HDO := Lib.hid (do_any _ HXD.out k0 s a HZ3.out)
          have d0 : wr.drew.cell? ⟨b, o + k * 3, none⟩ = some (.int .i64 k0) := z0
          have d1 : wr.drew.cell? ⟨b, o + k * 3 + 1, none⟩ = some (.string s) := z1
          have d2 : wr.drew.cell? ⟨b, o + k * 3 + 2, none⟩ = some (.int .i64 a) := z2
          go_region_with
            (first
            | (go_at_call 10; refine HDO.out.mono ?_; rintro e w4 ⟨rfl, ⟨X2, k1⟩, k2⟩; have HX2 := Lib.hid k1; have HB2 := Lib.hid (HBD.out.trans k2); obtain ⟨AX, cX, hxa⟩ := HX2.out.doc; have HXA := Lib.hid hxa; have y0 := hxa.blk.cell 0; simp only [List.getElem?_toArray, List.getElem?_cons_zero] at y0; obtain ⟨o0, o1, o2⟩ := HOC.out _ HB2.out; have HLE := Lib.hid (blen_q _ HX2.out); have HAL := Lib.hid (ball_q _ HX2.out); clear k1 k2 hxa)
            | (go_at_call 11; refine HLE.out.mono ?_; rintro e w' ⟨rfl, rfl⟩)
            | (go_at_call 13; refine HAL.out.mono ?_; rintro e w5 ⟨v, rfl, hd, kb⟩; obtain ⟨A5, c5, rfl⟩ := dr_val hd; have HR5 := Lib.hid (RL.of_dr hd); have HX5 := Lib.hid (HX2.out.below kb); have HB5 := Lib.hid (HB2.out.trans (kb.mono HX2.out.size)); have HRX := Lib.hid (HXA.out.rl.below kb); have y5 := (HXA.out.blk.below kb HXA.out.blk.lt).cell 0; simp only [List.getElem?_toArray, List.getElem?_cons_zero] at y5; obtain ⟨p0, p1, p2⟩ := HOC.out _ HB5.out; clear hd kb)
            | (go_at_call 12; refine (same_any _ HR5.out HRX.out (Nat.le_trans HX2.out.few.1 (by omega))).mono ?_; rintro e w6 ⟨rfl, kb⟩; have HX6 := Lib.hid (HX5.out.below kb); have HB6 := Lib.hid (HB5.out.trans (kb.mono HX5.out.size)); obtain ⟨r0, r1, r2⟩ := HOC.out _ HB6.out; clear kb))
          all_goals
            clear z0 z1 z2 d0 d1 d2 o0 o1 o2 p0 p1 p2 r0 r1 r2 y0 y5
            go_wp2
            go_roundw
            case rel => exact ⟨k + 1, by omega, by omega, by go_num, Lib.hid ⟨_, HX6.out, HB6.out⟩⟩
            case measure => simp [intOf]; omega
      · have q1 : decide ((k : Int) < 60) = false := by rw [decide_eq_false_iff_not]; omega
        have q1' : decide (k < 60) = false := by rw [decide_eq_false_iff_not]; omega
        obtain ⟨X, h1, h2⟩ := HI.out
        have HBW := Lib.hid h2
        clear h1 h2 h60 HI
        go_wp2
        go_ret
        exact ⟨rfl, HBW.out⟩
    · have q0 : decide ((k : Int) < (n : Int)) = false := by rw [decide_eq_false_iff_not]; omega
      have q0' : decide (k < n) = false := by rw [decide_eq_false_iff_not]; omega
      obtain ⟨X, h1, h2⟩ := HI.out
      have HBW := Lib.hid h2
      clear h1 h2 heq HI
      go_wp2
      go_ret
      exact ⟨rfl, HBW.out⟩
end Go.Proofs.Ytdhilhjiccpkkaa
