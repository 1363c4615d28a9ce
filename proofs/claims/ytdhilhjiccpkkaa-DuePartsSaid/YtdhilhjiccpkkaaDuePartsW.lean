/-
  The walk of the law DueParts.
-/
import Derived.Test.YtdhilhjiccpkkaaDueLoop
namespace Go.Proofs.Ytdhilhjiccpkkaa
open Go.RowKit
set_option linter.unusedVariables false

theorem until_low {X : List Du} {t : Int} {k : Nat} (hk : k < (untilL X t).length) : (gd (untilL X t) k).2 ≤ t := by
  have h := List.all_takeWhile (p := fun d : Du => decide (d.2 ≤ t)) (l := X)
  rw [gd_at hk]
  have := List.all_eq_true.1 h _ (List.getElem_mem hk)
  exact of_decide_eq_true this
theorem until_high {X : List Du} (hs : SortedD X) {t : Int} {k : Nat} (hk : k < (untilR X t).length) : t < (gd (untilR X t) k).2 := by
  rw [gd_at hk]
  have hm : (untilR X t)[k] ∈ untilR X t := List.getElem_mem hk
  revert hm
  generalize (untilR X t)[k] = d
  unfold untilR
  clear hk
  induction X with
  | nil => intro hm; simp at hm
  | cons y Y ih =>
    have h1 := List.pairwise_cons.1 hs
    intro hm
    rw [List.dropWhile_cons] at hm
    split at hm
    · exact ih h1.2 hm
    · rename_i hy
      have hy' : t < y.2 := by simp at hy; omega
      rcases List.mem_cons.1 hm with rfl | hm
      · exact hy'
      · have h2 := h1.1 d hm
        unfold ltD at h2
        simp only [Bool.or_eq_true, Bool.and_eq_true, decide_eq_true_eq] at h2
        omega
theorem until_both (X : List Du) (t : Int) : untilL X t ++ untilR X t = X := List.takeWhile_append_dropWhile
set_option maxRecDepth 100000 in
set_option maxHeartbeats 8000000 in
theorem dueParts_walk (A : Option Addr) (n c : Nat) (K : Nat → Int × ByteArray × Int) (t : Int) (W : World) (hnc : n ≤ c) (hcm : c ≤ maxLen) (hol : OL W A n K) : Calls Try.prog 5 #[.slice A n c, .int .i64 t] W fun e w' => e = .returned (.bool true) ∧ Below W.heap.size W w' := by
  have HOL := Lib.hid hol
  unfold maxLen at hcm
  clear hol
  go_enter Try.func5, Try.ntmps5
  go_wp2_with fail
  refine (inew_any _).mono ?_
  rintro e w1 ⟨q, S1, rfl, h1, hb1⟩
  have HQ1 := Lib.hid (QX.new h1)
  have HB1 : Hid (Below W.heap.size W (w1.alloc (.cells #[.slice none 0 0] 28))) := Lib.hid (hb1.alloc hb1.size _)
  clear h1 hb1
  go_wp2_with fail
  refine (lives_any _).mono ?_
  rintro e w2 ⟨rfl, hb2⟩
  obtain ⟨x, hx⟩ : ∃ x, x = w1.heap.size := ⟨_, rfl⟩
  rw [← hx] at HQ1 ⊢
  have HI0 : Hid (BothI W w2 q x) := Lib.hid ⟨[], HQ1.out.below hb2, HB1.out.trans (hb2.mono HQ1.out.size)⟩
  clear hb2 HQ1 HB1 hx
  go_wp2_with fail
  go_loopw [7] (fun o wr => ∃ k : Nat, k ≤ n ∧ k ≤ 60 ∧ o = .int .i64 (k : Int) ∧ Hid (BothI W wr q x)) (fun o _ => n - (intOf o).toNat)
  case atStart => exact ⟨0, Nat.zero_le _, by omega, rfl, HI0⟩
  case round =>
    obtain ⟨k, hk, hk6, rfl, HI⟩ := hrel
    clear HI0
    rcases (by omega : k < n ∨ k = n) with hlt | heq
    · have q0 : decide ((k : Int) < (n : Int)) = true := by rw [decide_eq_true_iff]; omega
      have q0' : decide (k < n) = true := by rw [decide_eq_true_iff]; omega
      rcases (by omega : k < 60 ∨ k = 60) with h60 | h60
      · have q1 : decide ((k : Int) < 60) = true := by rw [decide_eq_true_iff]; omega
        have q1' : decide (k < 60) = true := by rw [decide_eq_true_iff]; omega
        have q2 : (0 : Int) ≤ (k : Int) := by omega
        have q3 : (k : Int) < (n : Int) := by omega
        obtain ⟨X, h1, h2⟩ := HI.out
        rcases HOL.out.below h2 with e | ⟨b, o, rfl, hb, hc⟩
        · omega
        obtain ⟨z0, z1, z2, z3⟩ := hc k hlt
        obtain ⟨kk, hkk⟩ : ∃ kk, kk = K k := ⟨_, rfl⟩
        rw [← hkk] at z0 z1 z2 z3
        obtain ⟨k0, s, a⟩ := kk
        simp only at z0 z1 z2 z3
        have HX := Lib.hid h1
        have HBW := Lib.hid h2
        have HZ3 := Lib.hid z3
        have HCC := Lib.hid (fun V (hv : Below W.heap.size W V) => hc)
        have HOC : Hid (∀ V : World, Below W.heap.size W V → V.cell? ⟨b, o + k * 3, none⟩ = some (.int .i64 k0) ∧ V.cell? ⟨b, o + k * 3 + 1, none⟩ = some (.string s) ∧ V.cell? ⟨b, o + k * 3 + 2, none⟩ = some (.int .i64 a)) := Lib.hid (fun V hv => by
          rcases HOL.out.below hv with e | ⟨b', o', e, _, hc'⟩
          · omega
          · cases e
            obtain ⟨y0, y1, y2, _⟩ := hc' k hlt
            rw [← hkk] at y0 y1 y2
            exact ⟨y0, y1, y2⟩)
        have hsz := size_toList s
        clear h1 h2 hc z3 hb HI HCC hkk
        by_cases hlong : s.size ≤ 1000
        · have q4 : decide ((s.size : Int) ≤ (1000 : Int)) = true := by rw [decide_eq_true_iff]; omega
          have q4' : decide (s.size ≤ 1000) = true := by rw [decide_eq_true_iff]; omega
          have HDO := Lib.hid (do_any _ HX.out k0 s a HZ3.out)
          clear hlong
          go_wp2_with fail
          refine HDO.out.mono ?_
          rintro e w4 ⟨rfl, ⟨X2, k1⟩, k2⟩
          have HI4 : Hid (BothI W w4 q x) := Lib.hid ⟨X2, k1, HBW.out.trans k2⟩
          clear k1 k2 z0 z1 z2
          go_wp2
          go_roundw
          case rel => exact ⟨k + 1, by omega, by omega, by go_num, HI4⟩
          case measure => simp [intOf]; omega
        · have q4 : decide ((s.size : Int) ≤ (1000 : Int)) = false := by rw [decide_eq_false_iff_not]; omega
          have q4' : decide (s.size ≤ 1000) = false := by rw [decide_eq_false_iff_not]; omega
          clear hlong
          go_wp2
          go_roundw
          case rel => exact ⟨k + 1, by omega, by omega, by go_num, Lib.hid ⟨X, HX.out, HBW.out⟩⟩
          case measure => simp [intOf]; omega
      · have q1 : decide ((k : Int) < 60) = false := by rw [decide_eq_false_iff_not]; omega
        have q1' : decide (k < 60) = false := by rw [decide_eq_false_iff_not]; omega
        obtain ⟨X, h1, h2⟩ := HI.out
        obtain ⟨S, _, _, hqi, _⟩ := h1
        have HB := Lib.hid h2
        have HQ := Lib.hid hqi
        clear h2 hqi HI h60
        go_wp2_with fail
        refine (iall_any _ HQ.out).mono ?_
        rintro e v1 ⟨va, rfl, hd1, kb1⟩
        obtain ⟨A1, c1, rfl⟩ := dr_val hd1
        have HB1 := Lib.hid (HB.out.trans (kb1.mono HQ.out.size))
        have HQ1 := Lib.hid (HQ.out.below kb1)
        have HD1 := Lib.hid hd1
        have HS1 := Lib.hid HQ.out.lt
        clear hd1 kb1
        go_wp2_with fail
        refine (iuntil_any _ HQ1.out t).mono ?_
        rintro e v2 ⟨A2, c2, rfl, hd2, hq2, hf2, kb2⟩
        have HB2 := Lib.hid (HB1.out.trans kb2)
        have HD12 := Lib.hid (HD1.out.fr hf2 (fun g e hs => by have a1 := HD1.out.ge g e; have a2 := HS1.out g hs; omega))
        have HD2 := Lib.hid hd2
        have HQ2 := Lib.hid hq2
        clear hd2 hq2 hf2 kb2
        go_wp2_with fail
        refine (iall_any _ HQ2.out).mono ?_
        rintro e v3 ⟨vl, rfl, hd3, kb3⟩
        obtain ⟨A3, c3, rfl⟩ := dr_val hd3
        have HB3 := Lib.hid (HB2.out.trans (kb3.mono HQ2.out.size))
        have HQ3 := Lib.hid (HQ2.out.below kb3)
        have HD3 := Lib.hid hd3
        have HR1 : Hid (RL v3 A1 X) := Lib.hid (RL.of_dr (HD12.out.below kb3))
        have HR2 : Hid (RL v3 A2 (untilL X t)) := Lib.hid (RL.of_dr (HD2.out.below kb3))
        have HR3 : Hid (RL v3 A3 (untilR X t)) := Lib.hid (RL.of_dr hd3)
        have HFW := Lib.hid HQ.out.few
        have HAP := Lib.hid (until_both X t)
        have HLO := Lib.hid (fun k hk => until_low (X := X) (t := t) (k := k) hk)
        have HHI := Lib.hid (fun k hk => until_high (t := t) (k := k) HQ.out.srt hk)
        obtain ⟨U, hU⟩ : ∃ U, U = untilL X t := ⟨_, rfl⟩
        obtain ⟨R, hR⟩ : ∃ R, R = untilR X t := ⟨_, rfl⟩
        rw [← hU] at HLO HR2
        rw [← hR] at HHI HR3 HQ3
        rw [← hU, ← hR] at HAP ⊢
        obtain ⟨m1, hm1⟩ : ∃ m1, m1 = U.length := ⟨_, rfl⟩
        obtain ⟨m2, hm2⟩ : ∃ m2, m2 = R.length := ⟨_, rfl⟩
        rw [← hm1, ← hm2]
        have HM1 := Lib.hid hm1
        have HM2 := Lib.hid hm2
        have hle : m1 + m2 ≤ 256 ∧ m1 + m2 = X.length := by
          have := HFW.out
          have h3 := congrArg List.length HAP.out
          rw [List.length_append, ← hm1, ← hm2] at h3
          omega
        have hle1 := hle.1
        have HLE := Lib.hid hle.2
        clear hd3 kb3 hU hR hm1 hm2 hle
        obtain ⟨i0, hi0, hz0, hz1, hz2⟩ := info_parts infoDue
        have HI0 := Lib.hid hi0
        have HZ0 := Lib.hid hz0
        have HZ1 := Lib.hid hz1
        have HZ2 := Lib.hid hz2
        clear hi0 hz0 hz1 hz2
        go_wp2_with fail
        go_loopw [11] (fun o wr => ∃ j : Nat, j ≤ m1 ∧ o = .int .i64 (j : Int) ∧ wr = v3) (fun o _ => m1 - (intOf o).toNat)
        case atStart => exact ⟨0, Nat.zero_le _, rfl, rfl⟩
        case round =>
          obtain ⟨j, hj, rfl, rfl⟩ := hrel
          rcases (by omega : j < m1 ∨ j = m1) with hl | he
          · have g0 : decide ((j : Int) < (m1 : Int)) = true := by rw [decide_eq_true_iff]; omega
            have g0' : decide (j < m1) = true := by rw [decide_eq_true_iff]; omega
            have g1 : (0 : Int) ≤ (j : Int) := by omega
            have g2 : (j : Int) < (m1 : Int) := by omega
            rcases HR2.out with e | ⟨b2, o2, rfl, _, hc⟩
            · have := HM1.out; rw [e] at this; simp at this; omega
            have y1 := (hc j (by rw [← HM1.out]; exact hl)).2
            have hlow := HLO.out j (by rw [← HM1.out]; exact hl)
            obtain ⟨d, hd⟩ : ∃ d, d = (gd U j).2 := ⟨_, rfl⟩
            rw [← hd] at y1 hlow
            have g3 : decide (t < d) = false := by rw [decide_eq_false_iff_not]; omega
            clear hc hd hlow
            go_wp2
            go_roundw
            case rel => exact ⟨j + 1, by omega, by go_num, by first | rfl | trivial⟩
            case measure => simp [intOf]; omega
          · have g0 : decide ((j : Int) < (m1 : Int)) = false := by rw [decide_eq_false_iff_not]; omega
            have g0' : decide (j < m1) = false := by rw [decide_eq_false_iff_not]; omega
            clear he
            go_wp2_with fail
            go_loopw [12] (fun o wr1 => ∃ j2 : Nat, j2 ≤ m2 ∧ o = .int .i64 (j2 : Int) ∧ wr1 = wr) (fun o _ => m2 - (intOf o).toNat)
            case atStart => exact ⟨0, Nat.zero_le _, rfl, rfl⟩
            case round =>
              obtain ⟨j2, hj2, rfl, rfl⟩ := hrel
              rcases (by omega : j2 < m2 ∨ j2 = m2) with hl | he
              · have g0 : decide ((j2 : Int) < (m2 : Int)) = true := by rw [decide_eq_true_iff]; omega
                have g0' : decide (j2 < m2) = true := by rw [decide_eq_true_iff]; omega
                have g1 : (0 : Int) ≤ (j2 : Int) := by omega
                have g2 : (j2 : Int) < (m2 : Int) := by omega
                rcases HR3.out with e | ⟨b3, o3, rfl, _, hc⟩
                · have := HM2.out; rw [e] at this; simp at this; omega
                have y1 := (hc j2 (by rw [← HM2.out]; exact hl)).2
                have hlow := HHI.out j2 (by rw [← HM2.out]; exact hl)
                obtain ⟨d, hd⟩ : ∃ d, d = (gd R j2).2 := ⟨_, rfl⟩
                rw [← hd] at y1 hlow
                have g3 : decide (d ≤ t) = false := by rw [decide_eq_false_iff_not]; omega
                clear hc hd hlow
                go_wp2
                go_roundw
                case rel => exact ⟨j2 + 1, by omega, by go_num, by first | rfl | trivial⟩
                case measure => simp [intOf]; omega
              · have g0 : decide ((j2 : Int) < (m2 : Int)) = false := by rw [decide_eq_false_iff_not]; omega
                have g0' : decide (j2 < m2) = false := by rw [decide_eq_false_iff_not]; omega
                clear he
                have HX0 := Lib.hid (XNew.empty (x := 0) (Fr.refl (fun _ => False) wr))
                have HU0 := Lib.hid ((HX0.out.rl HR2.out).reads (.inr trivial))
                rw [← HM1.out] at HU0
                have D1 := Lib.hid (dcells_one U)
                have D2 := Lib.hid (dcells_one R)
                have t0 : 0 < 2 := by omega
                have HML : Hid (X.length = m1 + m2) := Lib.hid HLE.out.symm
                go_wp2_with (first
                  | (at_builtin; refine wpList_append_any _ rfl (.tmp 82) (.tmp 83) 26 rfl wr.heap.size 44 i0 (.agg #[.string ⟨#[]⟩, .int .i64 0]) 2 24 Try.underlying26 HI0.out HZ0.out HZ1.out HZ2.out rfl t0 (.slice (some ⟨wr.heap.size, 0, none⟩) 0 0) 0 (dcells []) rfl HX0.out.own _ A2 m1 c2 (dcells U) rfl HU0.out D1.out (by unfold maxLen; omega) (by omega) HX0.out.fr.size ?_; intro v4 w4 ho1 hg1 hat1; have HX1 := Lib.hid (HX0.out.step (k := m1) (Nat.zero_add m1) ho1 hg1); obtain ⟨A4, c4, rfl⟩ := own_val HX1.out.own; have HU1 := Lib.hid ((HX1.out.rl HR3.out).reads (.inr trivial)); rw [← HM2.out] at HU1; clear ho1 hg1 hat1)
                  | (at_builtin; refine wpList_append_any _ rfl (.tmp 84) (.tmp 85) 26 rfl wr.heap.size 44 i0 (.agg #[.string ⟨#[]⟩, .int .i64 0]) 2 24 Try.underlying26 HI0.out HZ0.out HZ1.out HZ2.out rfl t0 (.slice A4 m1 c4) m1 (dcells ([] ++ U)) rfl HX1.out.own _ A3 m2 c3 (dcells R) rfl HU1.out D2.out (by unfold maxLen; omega) (by omega) HX1.out.fr.size ?_; intro v5 w5 ho2 hg2 hat2; have HX2 := Lib.hid (HX1.out.step (k := m1 + m2) rfl ho2 hg2); obtain ⟨A5, c5, rfl⟩ := own_val HX2.out.own; clear ho2 hg2 hat2))
                have HDR : Hid (DR w5 wr.heap.size (.slice A5 (m1 + m2) c5) X) := Lib.hid (by
                  have h := HX2.out.own
                  rw [List.nil_append, HAP.out] at h
                  unfold DR
                  rw [HML.out]
                  exact h)
                have HRA := HDR.out
                rw [← HML.out] at HRA
                have HR5 := Lib.hid (RL.of_dr HRA)
                have HR15 := Lib.hid (HX2.out.rl HR1.out)
                have HB5 := Lib.hid (HB3.out.trans ((HX2.out.fr.to_below (fun _ _ e => e)).mono HQ3.out.size))
                have HQ5 := Lib.hid (HQ3.out.below (HX2.out.fr.to_below (fun _ _ e => e)))
                have HSAM : Hid (Calls Try.prog 12 #[.slice A5 (m1 + m2) c5, .slice A1 X.length c1] w5 fun e w' => e = .returned (.bool true) ∧ Below w5.heap.size w5 w') := Lib.hid (by
                  rw [HML.out]
                  exact same_b w5 HR5.out HR15.out HML.out (by omega))
                have HM2S := Lib.hid HM2.out.symm
                clear HRA
                go_wp2_with fail
                refine HSAM.out.mono ?_
                rintro e w6 ⟨rfl, kb6⟩
                have HQ6 := Lib.hid (HQ5.out.below kb6)
                have HB6 := Lib.hid (HB5.out.trans (kb6.mono HQ5.out.size))
                have hl6 := ilen_any _ HQ6.out
                rw [HM2S.out] at hl6
                have HL6 := Lib.hid hl6
                clear kb6 hl6
                go_wp2_with fail
                refine HL6.out.mono ?_
                rintro e w7 ⟨rfl, rfl⟩
                go_wp2
                go_ret
                exact ⟨rfl, HB6.out⟩
    · have q0 : decide ((k : Int) < (n : Int)) = false := by rw [decide_eq_false_iff_not]; omega
      have q0' : decide (k < n) = false := by rw [decide_eq_false_iff_not]; omega
      obtain ⟨X, h1, h2⟩ := HI.out
      obtain ⟨S, _, _, hqi, _⟩ := h1
      have HB := Lib.hid h2
      have HQ := Lib.hid hqi
      clear h2 hqi HI heq
      go_wp2_with fail
      refine (iall_any _ HQ.out).mono ?_
      rintro e v1 ⟨va, rfl, hd1, kb1⟩
      obtain ⟨A1, c1, rfl⟩ := dr_val hd1
      have HB1 := Lib.hid (HB.out.trans (kb1.mono HQ.out.size))
      have HQ1 := Lib.hid (HQ.out.below kb1)
      have HD1 := Lib.hid hd1
      have HS1 := Lib.hid HQ.out.lt
      clear hd1 kb1
      go_wp2_with fail
      refine (iuntil_any _ HQ1.out t).mono ?_
      rintro e v2 ⟨A2, c2, rfl, hd2, hq2, hf2, kb2⟩
      have HB2 := Lib.hid (HB1.out.trans kb2)
      have HD12 := Lib.hid (HD1.out.fr hf2 (fun g e hs => by have a1 := HD1.out.ge g e; have a2 := HS1.out g hs; omega))
      have HD2 := Lib.hid hd2
      have HQ2 := Lib.hid hq2
      clear hd2 hq2 hf2 kb2
      go_wp2_with fail
      refine (iall_any _ HQ2.out).mono ?_
      rintro e v3 ⟨vl, rfl, hd3, kb3⟩
      obtain ⟨A3, c3, rfl⟩ := dr_val hd3
      have HB3 := Lib.hid (HB2.out.trans (kb3.mono HQ2.out.size))
      have HQ3 := Lib.hid (HQ2.out.below kb3)
      have HD3 := Lib.hid hd3
      have HR1 : Hid (RL v3 A1 X) := Lib.hid (RL.of_dr (HD12.out.below kb3))
      have HR2 : Hid (RL v3 A2 (untilL X t)) := Lib.hid (RL.of_dr (HD2.out.below kb3))
      have HR3 : Hid (RL v3 A3 (untilR X t)) := Lib.hid (RL.of_dr hd3)
      have HFW := Lib.hid HQ.out.few
      have HAP := Lib.hid (until_both X t)
      have HLO := Lib.hid (fun k hk => until_low (X := X) (t := t) (k := k) hk)
      have HHI := Lib.hid (fun k hk => until_high (t := t) (k := k) HQ.out.srt hk)
      obtain ⟨U, hU⟩ : ∃ U, U = untilL X t := ⟨_, rfl⟩
      obtain ⟨R, hR⟩ : ∃ R, R = untilR X t := ⟨_, rfl⟩
      rw [← hU] at HLO HR2
      rw [← hR] at HHI HR3 HQ3
      rw [← hU, ← hR] at HAP ⊢
      obtain ⟨m1, hm1⟩ : ∃ m1, m1 = U.length := ⟨_, rfl⟩
      obtain ⟨m2, hm2⟩ : ∃ m2, m2 = R.length := ⟨_, rfl⟩
      rw [← hm1, ← hm2]
      have HM1 := Lib.hid hm1
      have HM2 := Lib.hid hm2
      have hle : m1 + m2 ≤ 256 ∧ m1 + m2 = X.length := by
        have := HFW.out
        have h3 := congrArg List.length HAP.out
        rw [List.length_append, ← hm1, ← hm2] at h3
        omega
      have hle1 := hle.1
      have HLE := Lib.hid hle.2
      clear hd3 kb3 hU hR hm1 hm2 hle
      obtain ⟨i0, hi0, hz0, hz1, hz2⟩ := info_parts infoDue
      have HI0 := Lib.hid hi0
      have HZ0 := Lib.hid hz0
      have HZ1 := Lib.hid hz1
      have HZ2 := Lib.hid hz2
      clear hi0 hz0 hz1 hz2
      go_wp2_with fail
      go_loopw [11] (fun o wr => ∃ j : Nat, j ≤ m1 ∧ o = .int .i64 (j : Int) ∧ wr = v3) (fun o _ => m1 - (intOf o).toNat)
      case atStart => exact ⟨0, Nat.zero_le _, rfl, rfl⟩
      case round =>
        obtain ⟨j, hj, rfl, rfl⟩ := hrel
        rcases (by omega : j < m1 ∨ j = m1) with hl | he
        · have g0 : decide ((j : Int) < (m1 : Int)) = true := by rw [decide_eq_true_iff]; omega
          have g0' : decide (j < m1) = true := by rw [decide_eq_true_iff]; omega
          have g1 : (0 : Int) ≤ (j : Int) := by omega
          have g2 : (j : Int) < (m1 : Int) := by omega
          rcases HR2.out with e | ⟨b2, o2, rfl, _, hc⟩
          · have := HM1.out; rw [e] at this; simp at this; omega
          have y1 := (hc j (by rw [← HM1.out]; exact hl)).2
          have hlow := HLO.out j (by rw [← HM1.out]; exact hl)
          obtain ⟨d, hd⟩ : ∃ d, d = (gd U j).2 := ⟨_, rfl⟩
          rw [← hd] at y1 hlow
          have g3 : decide (t < d) = false := by rw [decide_eq_false_iff_not]; omega
          clear hc hd hlow
          go_wp2
          go_roundw
          case rel => exact ⟨j + 1, by omega, by go_num, by first | rfl | trivial⟩
          case measure => simp [intOf]; omega
        · have g0 : decide ((j : Int) < (m1 : Int)) = false := by rw [decide_eq_false_iff_not]; omega
          have g0' : decide (j < m1) = false := by rw [decide_eq_false_iff_not]; omega
          clear he
          go_wp2_with fail
          go_loopw [12] (fun o wr1 => ∃ j2 : Nat, j2 ≤ m2 ∧ o = .int .i64 (j2 : Int) ∧ wr1 = wr) (fun o _ => m2 - (intOf o).toNat)
          case atStart => exact ⟨0, Nat.zero_le _, rfl, rfl⟩
          case round =>
            obtain ⟨j2, hj2, rfl, rfl⟩ := hrel
            rcases (by omega : j2 < m2 ∨ j2 = m2) with hl | he
            · have g0 : decide ((j2 : Int) < (m2 : Int)) = true := by rw [decide_eq_true_iff]; omega
              have g0' : decide (j2 < m2) = true := by rw [decide_eq_true_iff]; omega
              have g1 : (0 : Int) ≤ (j2 : Int) := by omega
              have g2 : (j2 : Int) < (m2 : Int) := by omega
              rcases HR3.out with e | ⟨b3, o3, rfl, _, hc⟩
              · have := HM2.out; rw [e] at this; simp at this; omega
              have y1 := (hc j2 (by rw [← HM2.out]; exact hl)).2
              have hlow := HHI.out j2 (by rw [← HM2.out]; exact hl)
              obtain ⟨d, hd⟩ : ∃ d, d = (gd R j2).2 := ⟨_, rfl⟩
              rw [← hd] at y1 hlow
              have g3 : decide (d ≤ t) = false := by rw [decide_eq_false_iff_not]; omega
              clear hc hd hlow
              go_wp2
              go_roundw
              case rel => exact ⟨j2 + 1, by omega, by go_num, by first | rfl | trivial⟩
              case measure => simp [intOf]; omega
            · have g0 : decide ((j2 : Int) < (m2 : Int)) = false := by rw [decide_eq_false_iff_not]; omega
              have g0' : decide (j2 < m2) = false := by rw [decide_eq_false_iff_not]; omega
              clear he
              have HX0 := Lib.hid (XNew.empty (x := 0) (Fr.refl (fun _ => False) wr))
              have HU0 := Lib.hid ((HX0.out.rl HR2.out).reads (.inr trivial))
              rw [← HM1.out] at HU0
              have D1 := Lib.hid (dcells_one U)
              have D2 := Lib.hid (dcells_one R)
              have t0 : 0 < 2 := by omega
              have HML : Hid (X.length = m1 + m2) := Lib.hid HLE.out.symm
              go_wp2_with (first
                | (at_builtin; refine wpList_append_any _ rfl (.tmp 82) (.tmp 83) 26 rfl wr.heap.size 44 i0 (.agg #[.string ⟨#[]⟩, .int .i64 0]) 2 24 Try.underlying26 HI0.out HZ0.out HZ1.out HZ2.out rfl t0 (.slice (some ⟨wr.heap.size, 0, none⟩) 0 0) 0 (dcells []) rfl HX0.out.own _ A2 m1 c2 (dcells U) rfl HU0.out D1.out (by unfold maxLen; omega) (by omega) HX0.out.fr.size ?_; intro v4 w4 ho1 hg1 hat1; have HX1 := Lib.hid (HX0.out.step (k := m1) (Nat.zero_add m1) ho1 hg1); obtain ⟨A4, c4, rfl⟩ := own_val HX1.out.own; have HU1 := Lib.hid ((HX1.out.rl HR3.out).reads (.inr trivial)); rw [← HM2.out] at HU1; clear ho1 hg1 hat1)
                | (at_builtin; refine wpList_append_any _ rfl (.tmp 84) (.tmp 85) 26 rfl wr.heap.size 44 i0 (.agg #[.string ⟨#[]⟩, .int .i64 0]) 2 24 Try.underlying26 HI0.out HZ0.out HZ1.out HZ2.out rfl t0 (.slice A4 m1 c4) m1 (dcells ([] ++ U)) rfl HX1.out.own _ A3 m2 c3 (dcells R) rfl HU1.out D2.out (by unfold maxLen; omega) (by omega) HX1.out.fr.size ?_; intro v5 w5 ho2 hg2 hat2; have HX2 := Lib.hid (HX1.out.step (k := m1 + m2) rfl ho2 hg2); obtain ⟨A5, c5, rfl⟩ := own_val HX2.out.own; clear ho2 hg2 hat2))
              have HDR : Hid (DR w5 wr.heap.size (.slice A5 (m1 + m2) c5) X) := Lib.hid (by
                have h := HX2.out.own
                rw [List.nil_append, HAP.out] at h
                unfold DR
                rw [HML.out]
                exact h)
              have HRA := HDR.out
              rw [← HML.out] at HRA
              have HR5 := Lib.hid (RL.of_dr HRA)
              have HR15 := Lib.hid (HX2.out.rl HR1.out)
              have HB5 := Lib.hid (HB3.out.trans ((HX2.out.fr.to_below (fun _ _ e => e)).mono HQ3.out.size))
              have HQ5 := Lib.hid (HQ3.out.below (HX2.out.fr.to_below (fun _ _ e => e)))
              have HSAM : Hid (Calls Try.prog 12 #[.slice A5 (m1 + m2) c5, .slice A1 X.length c1] w5 fun e w' => e = .returned (.bool true) ∧ Below w5.heap.size w5 w') := Lib.hid (by
                rw [HML.out]
                exact same_b w5 HR5.out HR15.out HML.out (by omega))
              have HM2S := Lib.hid HM2.out.symm
              clear HRA
              go_wp2_with fail
              refine HSAM.out.mono ?_
              rintro e w6 ⟨rfl, kb6⟩
              have HQ6 := Lib.hid (HQ5.out.below kb6)
              have HB6 := Lib.hid (HB5.out.trans (kb6.mono HQ5.out.size))
              have hl6 := ilen_any _ HQ6.out
              rw [HM2S.out] at hl6
              have HL6 := Lib.hid hl6
              clear kb6 hl6
              go_wp2_with fail
              refine HL6.out.mono ?_
              rintro e w7 ⟨rfl, rfl⟩
              go_wp2
              go_ret
              exact ⟨rfl, HB6.out⟩
end Go.Proofs.Ytdhilhjiccpkkaa
