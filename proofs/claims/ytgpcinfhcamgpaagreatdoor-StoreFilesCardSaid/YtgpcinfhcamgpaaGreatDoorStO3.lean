/-
  store.Open: the store that is found.
-/
import Derived.Test.YtgpcinfhcamgpaaGreatDoorStO2
namespace Go.Proofs.YtgpcinfhcamgpaaGreatDoor
open Go.RowKit Glob
attribute [local go_sem ↓] Go.wp_at_zero Go.wp_at_succ
set_option linter.unusedVariables false
set_option linter.unusedSimpArgs false

set_option maxHeartbeats 1000000 in
theorem dlen_nil (w : World) : Calls Tryz.prog 53 #[.pointer none] w fun e w' => e = .returned (.int .i64 0) ∧ w' = w := by
  go_enter Tryz.func53, Tryz.ntmps53
  go_wp2
  go_ret
  exact ⟨rfl, rfl⟩
set_option maxHeartbeats 1000000 in
theorem sopen_nil (w : World) : Calls Tryz.prog 18 #[.pointer none] w fun e w' => e = .returned (.tuple #[.pointer none, .int .i64 1]) ∧ w' = w := by
  have HL := Lib.hid (dlen_nil w)
  go_enter Tryz.func18, Tryz.ntmps18
  go_wp2_with fail
  refine HL.out.mono ?_
  rintro e w' ⟨rfl, rfl⟩
  go_wp2
  go_ret2
  exact ⟨rfl, rfl⟩
set_option maxHeartbeats 1000000 in
theorem sopen_few {d s M n : Nat} {K : Dk} (w : World) (h : DiskAt w d s M n K) (hf : K.sure.length < 4) : Calls Tryz.prog 18 #[.pointer (some ⟨d, 0, none⟩)] w fun e w' => e = .returned (.tuple #[.pointer none, .int .i64 1]) ∧ w' = w := by
  have HL := Lib.hid (dlen_any w h)
  obtain ⟨nb, hnb⟩ : ∃ nb, nb = K.sure.length := ⟨_, rfl⟩
  rw [← hnb] at HL hf
  have q1 : decide ((nb : Int) < 4) = true := by rw [decide_eq_true_iff]; omega
  have q1' : decide (nb < 4) = true := by rw [decide_eq_true_iff]; omega
  clear hnb h
  go_enter Tryz.func18, Tryz.ntmps18
  go_wp2_with fail
  refine HL.out.mono ?_
  rintro e w' ⟨rfl, rfl⟩
  go_wp2
  go_ret2
  exact ⟨rfl, rfl⟩
/-- what a record's text says as a state -/
def StIs (T : List UInt8) (st : Sta) : Prop := (T = [] ∧ st = Sta.none) ∨ (mayS fnameL pathL st = true ∧ T = stB st)
def OpenP (w : World) (d half N : Nat) (T : List UInt8) (st : Sta) (e : Ending) (w' : World) : Prop :=
  ∃ p r x, e = .returned (.tuple #[.pointer (some ⟨p, 0, none⟩), .int .i64 0]) ∧ w.heap.size ≤ p ∧ w.heap.size ≤ r ∧ StoreAt w' p r x ∧ x.sta = st ∧ RecAt w' r d 0 half N T false ∧ Below w.heap.size w w'
theorem none_len : (stB Sta.none).length ≤ 100000 := by
  unfold stB fisB Sta.none
  simp only [List.length_append, textBytes_length, beBytes_length, List.length_nil, List.flatMap_nil]
  omega
theorem nil6_noBy (r : Nat) (k : Nat) (x : Int) : (#[.pointer (some ⟨r, 0, none⟩), .slice none 0 0, .slice none 0 0, .slice none 0 0, .slice none 0 0, .slice none 0 0] : Array Value)[k]? ≠ some (.int .u8 x) := by
  rcases (by omega : k = 0 ∨ k = 1 ∨ k = 2 ∨ k = 3 ∨ k = 4 ∨ k = 5 ∨ 6 ≤ k) with rfl | rfl | rfl | rfl | rfl | rfl | h
  all_goals first | (intro h; cases h) | (rw [Array.getElem?_eq_none (by simpa using h)]; intro h; cases h)
set_option maxRecDepth 100000 in
set_option maxHeartbeats 8000000 in
theorem sopen_any {d s M n half N : Nat} {T : List UInt8} {K : Dk} (st : Sta) (w : World) (h : DiskAt w d s M n K) (hg : DG K 0 half N T) (htab : TabK w) (hT : Tab w) (hb4 : 4 ≤ K.sure.length) (hhalf : K.sure.length / 2 = half) (hst : StIs T st) (hl : T.length ≤ 100000) :
    Calls Tryz.prog 18 #[.pointer (some ⟨d, 0, none⟩)] w fun e w' => OpenP w d half N T st e w' := by
  have HL := Lib.hid (dlen_any w h)
  have HOP := open_dg (2 * half) w h hg htab rfl
  have hfew := h.few.2
  obtain ⟨nb, hnb⟩ : ∃ nb, nb = K.sure.length := ⟨_, rfl⟩
  rw [← hnb] at HL hb4 hhalf hfew
  have q1 : decide ((nb : Int) < 4) = false := by rw [decide_eq_false_iff_not]; omega
  have q1' : decide (nb < 4) = false := by rw [decide_eq_false_iff_not]; omega
  have e2 : ((2 * half : Nat) : Int) = (nb : Int) - (nb : Int) % 2 := by omega
  rw [e2] at HOP
  have HO := Lib.hid HOP
  have HT := Lib.hid hT
  have HST := Lib.hid hst
  have HPOST : Hid (∀ p r x w', w.heap.size ≤ p → w.heap.size ≤ r → StoreAt w' p r x → x.sta = st → RecAt w' r d 0 half N T false → Below w.heap.size w w' → OpenP w d half N T st (.returned (.tuple #[.pointer (some ⟨p, 0, none⟩), .int .i64 0])) w') := Lib.hid (fun p r x w' h1 h2 h3 h4 h5 h6 => ⟨p, r, x, rfl, h1, h2, h3, h4, h5, h6⟩)
  clear hnb h hg htab hT hst HOP e2 hhalf
  go_enter Tryz.func18, Tryz.ntmps18
  go_wp2_with fail
  refine HL.out.mono ?_
  rintro e w' ⟨rfl, hww⟩
  rw [hww]
  clear hww
  go_wp2_with fail
  refine HL.out.mono ?_
  rintro e w' ⟨rfl, hww⟩
  rw [hww]
  clear hww
  go_wp2_with fail
  refine HL.out.mono ?_
  rintro e w' ⟨rfl, hww⟩
  rw [hww]
  clear hww
  go_wp2_with fail
  refine HO.out.mono ?_
  rintro e w1 ⟨r, rfl, hr1, hrec, hb1⟩
  have HB1 := Lib.hid hb1
  have HRG := Lib.hid hr1
  have HA2 : Hid (Below w1.heap.size w1 (w1.alloc (.cells #[.pointer (some ⟨r, 0, none⟩), .slice none 0 0, .slice none 0 0, .slice none 0 0, .slice none 0 0, .slice none 0 0] 89))) := Lib.hid ((Below.refl _ _).alloc (Nat.le_refl _) _)
  have HR2 := Lib.hid (hrec.below HA2.out)
  have HB2 : Hid (Below w.heap.size w (w1.alloc (.cells #[.pointer (some ⟨r, 0, none⟩), .slice none 0 0, .slice none 0 0, .slice none 0 0, .slice none 0 0, .slice none 0 0] 89))) := Lib.hid (HB1.out.trans (HA2.out.mono HB1.out.size))
  have HS2 : Hid (Blk (w1.alloc (.cells #[.pointer (some ⟨r, 0, none⟩), .slice none 0 0, .slice none 0 0, .slice none 0 0, .slice none 0 0, .slice none 0 0] 89)) w1.heap.size 89 #[.pointer (some ⟨r, 0, none⟩), .slice none 0 0, .slice none 0 0, .slice none 0 0, .slice none 0 0, .slice none 0 0]) := Lib.hid (Blk.new _ _ _)
  have HTX := Lib.hid (rtext_any _ HR2.out (by omega))
  clear hr1 hrec hb1 HO HL
  go_wp2_with fail
  refine HTX.out.mono ?_
  rintro e w3 ⟨v, rfl, hv, hb3⟩
  obtain ⟨m, hm⟩ : ∃ m, m = T.length := ⟨_, rfl⟩
  obtain ⟨A3, c3, rfl, _, _, hr3, _⟩ := hv.shape_n hm.symm
  rw [← hm] at hl
  have HM := Lib.hid hm.symm
  have HB3 : Hid (Below w.heap.size w w3) := Lib.hid (HB2.out.trans (hb3.mono HB2.out.size))
  have HR3 := Lib.hid (HR2.out.below hb3)
  have HS3 := Lib.hid (HS2.out.below hb3 HS2.out.lt)
  have HD := Lib.hid (decode_any A3 m c3 T w3 hr3 HM.out hl (HT.out.below HB3.out))
  unfold DecPost at HD
  clear hv hb3 hr3 hm
  rcases Nat.eq_zero_or_pos m with h0 | h0
  · have hmv : decide ((0 : Int) < (m : Int)) = false := by rw [decide_eq_false_iff_not]; omega
    have hmv' : decide (0 < m) = false := by rw [decide_eq_false_iff_not]; omega
    have HE : Hid (st = Sta.none) := Lib.hid (by
      have hT0 : T = [] := List.eq_nil_of_length_eq_zero (by rw [HM.out]; exact h0)
      rcases HST.out with ⟨_, e⟩ | ⟨_, e⟩
      · exact e
      · have := stB_len st
        rw [← e, hT0] at this
        simp at this)
    have HSA : Hid (StoreAt w3 w1.heap.size r SV.none) := Lib.hid ⟨HS3.out, STy.none _, SM.none, mayS_none _ _, none_len⟩
    have HRET := Lib.hid (HPOST.out w1.heap.size r SV.none w3 HB1.out.size HRG.out HSA.out (by rw [HE.out]; rfl) HR3.out HB3.out)
    clear h0
    go_wp2
    go_ret2
    exact HRET.out
  · have hmv : decide ((0 : Int) < (m : Int)) = true := by rw [decide_eq_true_iff]; omega
    have hmv' : decide (0 < m) = true := by rw [decide_eq_true_iff]; omega
    have HE : Hid (decP fnameL pathL T = some st ∧ mayS fnameL pathL st = true ∧ (stB st).length ≤ 100000) := Lib.hid (by
      rcases HST.out with ⟨e, _⟩ | ⟨hy, e⟩
      · have := HM.out
        rw [e] at this
        simp at this
        omega
      · exact ⟨by rw [e]; exact decP_enc fname_size path_size st hy, hy, by rw [← e, HM.out]; exact hl⟩)
    clear h0
    go_wp2_with fail
    refine HD.out.mono ?_
    rintro e w4 ⟨hb4', ⟨x, hx, rfl, hty, hsm⟩ | ⟨hno, _⟩⟩
    · have HX : Hid (x.sta = st) := Lib.hid (by
        rw [HE.out.1] at hx
        injection hx with hx
        exact hx.symm)
      have HB4 : Hid (Below w.heap.size w w4) := Lib.hid (HB3.out.trans (hb4'.mono HB3.out.size))
      have HR4 := Lib.hid (HR3.out.below hb4')
      have HS4 := Lib.hid (HS3.out.below hb4' HS3.out.lt)
      have HTY := Lib.hid hty
      have HSM := Lib.hid hsm
      obtain ⟨b0, m0, d0, b1, m1, d1, b2, m2, d2, b3, m3, d3, b4, m4, d4, hxv, hxs⟩ := storeV_five r x
      have HXS := Lib.hid hxs
      rw [hxv]
      clear hx hty hsm hb4' hxv hxs
      have qq1 := HS4.out.cell 1
      have z1 := HS4.out.frozen 1
      have q2 := HS4.out.cell 2
      have z2 := HS4.out.frozen 2
      have q3 := HS4.out.cell 3
      have z3 := HS4.out.frozen 3
      have q4 := HS4.out.cell 4
      have z4 := HS4.out.frozen 4
      have q5 := HS4.out.cell 5
      have z5 := HS4.out.frozen 5
      simp only [List.getElem?_toArray, List.getElem?_cons_zero, List.getElem?_cons_succ] at qq1 q2 q3 q4 q5
      go_wp2
      have HF : Hid (Blk (((((w4.setCell ⟨w1.heap.size, 1, none⟩ (.slice b0 m0 d0)).setCell ⟨w1.heap.size, 2, none⟩ (.slice b1 m1 d1)).setCell ⟨w1.heap.size, 3, none⟩ (.slice b2 m2 d2)).setCell ⟨w1.heap.size, 4, none⟩ (.slice b3 m3 d3)).setCell ⟨w1.heap.size, 5, none⟩ (.slice b4 m4 d4)) w1.heap.size 89 (storeV r x)) := Lib.hid (by rw [HXS.out]; exact (((((HS4.out.set_ 1 (.slice b0 m0 d0)).set_ 2 (.slice b1 m1 d1)).set_ 3 (.slice b2 m2 d2)).set_ 4 (.slice b3 m3 d3)).set_ 5 (.slice b4 m4 d4)))
      have HFR : Hid (Fr (· = w1.heap.size) w4 (((((w4.setCell ⟨w1.heap.size, 1, none⟩ (.slice b0 m0 d0)).setCell ⟨w1.heap.size, 2, none⟩ (.slice b1 m1 d1)).setCell ⟨w1.heap.size, 3, none⟩ (.slice b2 m2 d2)).setCell ⟨w1.heap.size, 4, none⟩ (.slice b3 m3 d3)).setCell ⟨w1.heap.size, 5, none⟩ (.slice b4 m4 d4))) := Lib.hid ((((((Fr.refl (· = w1.heap.size) w4).setCell (p := ⟨w1.heap.size, 1, none⟩) (fun _ => rfl) (.slice b0 m0 d0)).setCell (p := ⟨w1.heap.size, 2, none⟩) (fun _ => rfl) (.slice b1 m1 d1)).setCell (p := ⟨w1.heap.size, 3, none⟩) (fun _ => rfl) (.slice b2 m2 d2)).setCell (p := ⟨w1.heap.size, 4, none⟩) (fun _ => rfl) (.slice b3 m3 d3)).setCell (p := ⟨w1.heap.size, 5, none⟩) (fun _ => rfl) (.slice b4 m4 d4))
      have HBF : Hid (Below w.heap.size w (((((w4.setCell ⟨w1.heap.size, 1, none⟩ (.slice b0 m0 d0)).setCell ⟨w1.heap.size, 2, none⟩ (.slice b1 m1 d1)).setCell ⟨w1.heap.size, 3, none⟩ (.slice b2 m2 d2)).setCell ⟨w1.heap.size, 4, none⟩ (.slice b3 m3 d3)).setCell ⟨w1.heap.size, 5, none⟩ (.slice b4 m4 d4))) := Lib.hid (((((HB4.out.setCell HB1.out.size (.slice b0 m0 d0)).setCell HB1.out.size (.slice b1 m1 d1)).setCell HB1.out.size (.slice b2 m2 d2)).setCell HB1.out.size (.slice b3 m3 d3)).setCell HB1.out.size (.slice b4 m4 d4))
      generalize (((((w4.setCell ⟨w1.heap.size, 1, none⟩ (.slice b0 m0 d0)).setCell ⟨w1.heap.size, 2, none⟩ (.slice b1 m1 d1)).setCell ⟨w1.heap.size, 3, none⟩ (.slice b2 m2 d2)).setCell ⟨w1.heap.size, 4, none⟩ (.slice b3 m3 d3)).setCell ⟨w1.heap.size, 5, none⟩ (.slice b4 m4 d4)) = Wf at HF HFR HBF ⊢
      have HTF : Hid (STy Wf x) := Lib.hid (HTY.out.fr HFR.out (fun g e => by subst e; exact NoBF.of_blk HS4.out (by decide) (by decide)))
      have HRF : Hid (RecAt Wf r d 0 half N T false) := Lib.hid (HR4.out.fr HFR.out (fun e => by obtain ⟨_, _, hb, _⟩ := HR4.out; exact hb.ne_ HS4.out (by decide) e) (fun g e _ => by subst e; exact NoBy.of_blk HS4.out (nil6_noBy r)))
      have HRET := Lib.hid (HPOST.out w1.heap.size r x Wf HB1.out.size HRG.out ⟨HF.out, HTF.out, HSM.out, by rw [HX.out]; exact HE.out.2.1, by rw [HX.out]; exact HE.out.2.2⟩ HX.out HRF.out HBF.out)
      go_ret2
      exact HRET.out
    · exact absurd HE.out.1 (by rw [hno]; exact fun h => by cases h)
end Go.Proofs.YtgpcinfhcamgpaaGreatDoor
