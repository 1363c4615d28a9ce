/-
  record: what stands in a half.
-/
import Derived.Test.YtcndkkagnobpmaaDoorRec1
import Derived.Test.YtcndkkagnobpmaaDoorRec2
import Derived.Deep.RegionHeld3
namespace Go.Proofs.YtcndkkagnobpmaaDoor
open Go.RowKit
attribute [local go_sem ↓] Go.wp_at_zero Go.wp_at_succ
set_option linter.unusedVariables false

theorem from_nR (A : Option Addr) (n c : Nat) (l : List UInt8) (w : World) (hl : l.length = n) (hn : n ≤ 70368744177664) (hr : RB w A l) :
    Calls Tryd.prog 60 #[.slice A n c] w fun e w' => ∃ r, e = .returned (.pointer (some ⟨r, 0, none⟩)) ∧ w.heap.size ≤ r ∧ RD w' r l false ∧ Below w.heap.size w w' := by
  subst hl; exact from_any A c l w hn hr
/-- a number of eight bytes: read, or bad -/
def Int8R (l : List UInt8) (v : Nat) (l' : List UInt8) (bad : Bool) : Prop :=
  (bad = false ∧ v = beVal (l.take 8) ∧ l' = l.drop 8 ∧ v < 9223372036854775808) ∨ (bad = true ∧ v = 0 ∧ l' = [] ∧ 9223372036854775808 ≤ beVal (l.take 8))
theorem int8_any (w : World) (r : Nat) (l : List UInt8) (h : RD w r l false) (hn : 8 ≤ l.length) :
    Calls Tryd.prog 61 #[.pointer (some ⟨r, 0, none⟩), .int .i64 8] w fun e w' => ∃ (v : Nat) (l' : List UInt8) (bad : Bool), e = .returned (.int .i64 (v : Int)) ∧ RD w' r l' bad ∧ Fr (· = r) w w' ∧ Int8R l v l' bad := by
  cases l with
  | nil => simp at hn
  | cons c0 l =>
    have hn7 : 7 ≤ l.length := by simp at hn; omega
    have e8 : (c0 :: l).take 8 = c0 :: l.take 7 := rfl
    have hv : beVal ((c0 :: l).take 8) = c0.toNat * 72057594037927936 + beVal (l.take 7) := by
      rw [e8, beVal_cons, List.length_take, Nat.min_eq_left hn7]
    have hlt := beVal_lt (l.take 7)
    rw [List.length_take, Nat.min_eq_left hn7] at hlt
    by_cases hc : c0.toNat ≤ 127
    · refine (int8_ok w r c0 l h hn7 hc).mono ?_
      rintro e w' ⟨rfl, h1, h2⟩
      exact ⟨_, _, _, rfl, h1, h2, .inl ⟨rfl, rfl, rfl, by rw [hv]; omega⟩⟩
    · refine (int_big w r c0 l false h hn7 (by omega)).mono ?_
      rintro e w' ⟨rfl, h1, h2⟩
      exact ⟨0, _, _, rfl, h1, h2, .inr ⟨rfl, rfl, rfl, by rw [hv]; omega⟩⟩
/-- what comes of both numbers of a head -/
def Two8R (h : List UInt8) (a b : Nat) (bad : Bool) : Prop :=
  (bad = false ∧ a = beVal (h.take 8) ∧ b = beVal ((h.drop 8).take 8) ∧ a < 9223372036854775808 ∧ b < 9223372036854775808) ∨ (bad = true ∧ (9223372036854775808 ≤ beVal (h.take 8) ∨ 9223372036854775808 ≤ beVal ((h.drop 8).take 8)))
theorem int8_second (w : World) (r : Nat) (h l : List UInt8) (a : Nat) (bad : Bool) (hR : RD w r l bad) (hn : 16 ≤ h.length) (h8 : Int8R h a l bad) :
    Calls Tryd.prog 61 #[.pointer (some ⟨r, 0, none⟩), .int .i64 8] w fun e w' => ∃ (b : Nat) (l' : List UInt8) (bad' : Bool), e = .returned (.int .i64 (b : Int)) ∧ RD w' r l' bad' ∧ Fr (· = r) w w' ∧ Two8R h a b bad' := by
  rcases h8 with ⟨rfl, rfl, rfl, hlt⟩ | ⟨rfl, rfl, rfl, hge⟩
  · refine (int8_any w r _ hR (by rw [List.length_drop]; omega)).mono ?_
    rintro e w' ⟨v, l', bad, rfl, h1, h2, h3⟩
    refine ⟨v, l', bad, rfl, h1, h2, ?_⟩
    rcases h3 with ⟨rfl, rfl, rfl, h4⟩ | ⟨rfl, rfl, rfl, h4⟩
    · exact .inl ⟨rfl, rfl, rfl, hlt, h4⟩
    · exact .inr ⟨rfl, .inr h4⟩
  · refine (int_no w r [] true 8 hR (.inr (.inr (by simp)))).mono ?_
    rintro e w' ⟨rfl, h1, h2⟩
    exact ⟨0, _, _, rfl, h1, h2, .inr ⟨rfl, .inl hge⟩⟩
/-- what stands returns -/
def StPost (w' : World) (e : Ending) (o : Option (Nat × List UInt8)) : Prop := match o with
  | none => e = .returned (.tuple #[.int .i64 0, .slice none 0 0, .int .i64 0])
  | some x => ∃ A c, e = .returned (.tuple #[.int .i64 (x.1 : Int), .slice A x.2.length c, .int .i64 0]) ∧ x.2.length ≤ c ∧ c ≤ 9223372036854775807 ∧ RB w' A x.2
set_option maxRecDepth 100000 in
set_option maxHeartbeats 2000000 in
theorem stands_any {r d s M n first half num : Nat} {t : Value} {dead : Bool} {K : Dk} (g : Nat) (w : World) (hK : TabK w) (h : DiskAt w d s M n K) (hr : Blk w r 55 (recV d first half t num dead)) (ho : K.off = false) (hg : g < 2) (hh : 2 ≤ half) (hin : first + g * half + half ≤ K.sure.length) (hF : Full K) :
    Calls Tryd.prog 29 #[.pointer (some ⟨r, 0, none⟩), .int .i64 (g : Int)] w fun e w' => StPost w' e (stK K first half g) ∧ Below w.heap.size w w' := by
  have hfew := h.few.2
  have HRD := Lib.hid (rread_ok (first + g * half) half w.drew h.drew hr.drew ho (by omega) hF)
  have hal : (allL K (first + g * half) half).length = 64 * half := allL_len _ _ _ (fun i hi => hF _ (by omega))
  have HST : Hid (stK K first half g = standsL (allL K (first + g * half) half) g) := rfl
  obtain ⟨al, hall⟩ : ∃ al, al = allL K (first + g * half) half := ⟨_, rfl⟩
  rw [← hall] at HRD hal HST
  have c1 := hr.cell 1
  have c2 := hr.cell 2
  simp only [recV, List.getElem?_toArray, List.getElem?_cons_succ, List.getElem?_cons_zero] at c1 c2
  have HCC : Hid (∀ w1, Below w.drew.heap.size w.drew w1 → w1.cell? ⟨r, 1, none⟩ = some (.int .i64 (first : Int)) ∧ w1.cell? ⟨r, 2, none⟩ = some (.int .i64 (half : Int))) :=
    Lib.hid (fun w1 hb => ⟨(hb.cell (p := ⟨r, 1, none⟩) hr.lt).trans c1, (hb.cell (p := ⟨r, 2, none⟩) hr.lt).trans c2⟩)
  have hgh : g * half ≤ 16384 := by omega
  obtain ⟨q, hq⟩ : ∃ q, q = g * half := ⟨_, rfl⟩
  have hmul : (g : Int) * (half : Int) = (q : Int) := by rw [hq]; simp
  rw [← hq] at HRD hgh
  have hfb : first ≤ 16384 := by omega
  have hhb : half ≤ 16384 := by omega
  rw [show ((first + q : Nat) : Int) = (first : Int) + (q : Int) from by simp] at HRD
  have wq : IntKind.i64.wrap (q : Int) = (q : Int) := IntWalk.i64_in _ (by omega)
  have wf : IntKind.i64.wrap ((first : Int) + (q : Int)) = (first : Int) + (q : Int) := IntWalk.i64_in _ (by omega)
  have HAL := Lib.hid hal
  have HTK := Lib.hid hK
  clear hal hall hq hin hfew hF h ho hK
  go_enter Tryd.func29, Tryd.ntmps29
  go_wp2
  go_region_held3 (fun w' => w'.cell? ⟨r, 1, none⟩ = some (.int .i64 (first : Int)) ∧ w'.cell? ⟨r, 2, none⟩ = some (.int .i64 (half : Int)))
    (first | exact ⟨c1, c2⟩ | exact hk1 | go_keep)
    (first | (go_at_call 59; refine HRD.out.mono ?_; rintro e w1 ⟨v1, rfl, hv1, hb1⟩; have hk1 := HCC.out w1 hb1))
  obtain ⟨z, hz⟩ : ∃ z, z = 64 * half - 64 := ⟨_, rfl⟩
  obtain ⟨A, c, rfl, p1, p2, p3, p4⟩ := hv1.shape_n (show al.length = 64 + z by rw [HAL.out]; omega)
  have HALZ : Hid (al.length = 64 + z) := by show _ = _; rw [HAL.out]; omega
  have hzb : z ≤ 1048576 := by omega
  have hz64 : 64 ≤ z := by omega
  obtain ⟨b, rfl⟩ : ∃ b, A = some ⟨b, 0, none⟩ := by
    obtain ⟨ad, e, _⟩ := p3.at_ (k := 0) (by rw [HALZ.out]; omega)
    subst e
    exact ⟨ad.block, by rw [(p4 ad rfl).2.2]⟩
  have HR := Lib.hid p3
  have HB1 : Hid (Below w.heap.size w w1) := Lib.hid (((Below.refl w.heap.size w).drew).trans hb1)
  have q1 : (64 : Int) ≤ (c : Int) := by omega
  have q2 : (64 : Int) ≤ ((64 + z : Nat) : Int) := by omega
  have q3 : ((64 + z : Nat) : Int) ≤ (c : Int) := by omega
  have q4 : 64 ≤ c := by omega
  unfold maxLen at p2
  clear hv1 hb1 hk1 p3 p4 HRD HCC c1 c2 hmul wq wf HAL hz hr
  go_wp2
  go_region
  have HRh : Hid (RB w1.drew (some ⟨b, 0, none⟩) (al.take 64)) := Lib.hid (HR.out.drew'.take (by rw [HALZ.out]; omega))
  have hlh : (al.take 64).length = 64 := by rw [List.length_take, HALZ.out]; omega
  have HFR := Lib.hid (from_nR (some ⟨b, 0, none⟩) 64 c (al.take 64) w1.drew hlh (by omega) HRh.out)
  have HLH := Lib.hid hlh
  clear hlh
  go_wp2_with fail
  refine HFR.out.mono ?_
  rintro e w2 ⟨x, rfl, hx, hrd, hb2⟩
  have HB2 : Hid (Below w.heap.size w w2) := Lib.hid (HB1.out.drew.trans (hb2.mono HB1.out.size))
  have HX : Hid (w.heap.size ≤ x) := Lib.hid (Nat.le_trans HB1.out.size hx)
  have HRR : Hid (RB w2 (some ⟨b, 64, none⟩) (al.drop 64)) := by
    have h1 := (HR.out.drew'.cut (k := 64) (cap := c) (by rw [HALZ.out]; omega) (by rw [HALZ.out]; omega)).below hb2
    rw [if_neg (by omega), Option.map_some, Addr.add_lit] at h1
    exact Lib.hid h1
  have HRh2 : Hid (RB w2 (some ⟨b, 0, none⟩) (al.take 64)) := Lib.hid (HRh.out.below hb2)
  have HNX : Hid (∀ k, k = x → w.heap.size ≤ k) := Lib.hid (fun k e => by subst e; exact HX.out)
  have hnox : NoBy w2 x := by
    obtain ⟨A', c', hbx, _⟩ := hrd
    refine NoBy.of_blk hbx (fun k y => ?_)
    rcases (by omega : k = 0 ∨ k = 1 ∨ 2 ≤ k) with rfl | rfl | hk
    · intro e; cases e
    · intro e; cases e
    · rw [Array.getElem?_eq_none (by simpa using hk)]; intro e; cases e
  have HI1 := Lib.hid (int8_any w2 x (al.take 64) hrd (by rw [HLH.out]; omega))
  clear hrd hb2 hx
  go_wp2_with fail
  refine HI1.out.mono ?_
  rintro e w3 ⟨a, l1, bad1, rfl, hrd, hf3, h8⟩
  have HI2 := Lib.hid (int8_second w3 x (al.take 64) l1 a bad1 hrd (by rw [HLH.out]; omega) h8)
  have hnox3 : NoBy w3 x := by
    obtain ⟨A', c', hbx, _⟩ := hrd
    refine NoBy.of_blk hbx (fun k y => ?_)
    rcases (by omega : k = 0 ∨ k = 1 ∨ 2 ≤ k) with rfl | rfl | hk
    · intro e; cases e
    · intro e; cases e
    · rw [Array.getElem?_eq_none (by simpa using hk)]; intro e; cases e
  have HF3 := Lib.hid hf3
  clear hrd hf3 h8
  go_wp2_with fail
  refine HI2.out.mono ?_
  rintro e w4 ⟨bb, l2, bad, rfl, hrd, hf4, h8⟩
  have HB4 : Hid (Below w.heap.size w w4) := Lib.hid (Fr.below_trans (Fr.below_trans HB2.out HF3.out HB2.out.size HNX.out) hf4 (Nat.le_trans HB2.out.size HF3.out.size) HNX.out)
  have HRR4 := Lib.hid ((HRR.out.fr2 HF3.out (fun k e _ => e ▸ hnox)).fr2 hf4 (fun k e _ => e ▸ hnox3))
  have HRh4 := Lib.hid ((HRh2.out.fr2 HF3.out (fun k e _ => e ▸ hnox)).fr2 hf4 (fun k e _ => e ▸ hnox3))
  have HBAD := Lib.hid (bad_any w4 x l2 bad hrd)
  have H8 := Lib.hid h8
  clear hrd hf4 h8 hnox hnox3
  go_wp2_with fail
  refine HBAD.out.mono ?_
  rintro e w5 ⟨rfl, rfl⟩
  have HST2 := Lib.hid HST.out
  rcases H8.out with ⟨rfl, ha, hb, ha2, hb2⟩ | ⟨rfl, hbig⟩
  case inr =>
    have HN : Hid (stK K first half g = none) := by
      show _ = _
      rw [HST.out]
      unfold standsL
      rw [if_neg]
      rintro ⟨k1, k2, k3, k4, k5⟩
      rw [List.take_take, List.drop_take, List.take_take] at hbig
      rw [List.length_drop, HALZ.out] at k4
      simp only [Nat.reduceSub, Nat.min_eq_left (show 8 ≤ 64 from by omega), Nat.min_eq_left (show 8 ≤ 56 from by omega)] at hbig
      omega
    clear H8 hbig HBAD HI1 HI2 HFR
    go_wp2
    go_ret3
    exact ⟨by rw [HN.out]; rfl, HB4.out⟩
  rw [List.take_take, Nat.min_eq_left (show 8 ≤ 64 from by omega)] at ha
  rw [List.drop_take, List.take_take, Nat.min_eq_left (show 8 ≤ 64 - 8 from by omega)] at hb
  have HP : Hid (standsP al g ↔ 1 ≤ a ∧ a ≤ 1152921504606846976 ∧ a % 2 = g ∧ bb ≤ z ∧ al.take 64 = hdL a ((al.drop 64).take bb)) := by
    refine Lib.hid ?_
    unfold standsP
    rw [← ha, ← hb, List.length_drop, HALZ.out, Nat.add_sub_cancel_left]
  have HSO : Hid (standsP al g → stK K first half g = some (a, (al.drop 64).take bb)) := by
    refine Lib.hid (fun h => ?_)
    rw [HST.out]
    unfold standsL
    rw [if_pos h, ← ha, ← hb]
  have HNO : Hid (¬ standsP al g → stK K first half g = none) := by
    refine Lib.hid (fun h => ?_)
    rw [HST.out]
    unfold standsL
    rw [if_neg h]
  clear ha hb H8 HBAD HI1 HI2 HFR HST2
  by_cases c1 : a < 1
  · have d1 : decide ((a : Int) < 1) = true := by rw [decide_eq_true_iff]; omega
    have HN : Hid (stK K first half g = none) := Lib.hid (HNO.out (fun h => by have := HP.out.1 h; omega))
    clear c1
    go_wp2
    go_ret3
    exact ⟨by rw [HN.out]; rfl, HB4.out⟩
  have d1 : decide ((a : Int) < 1) = false := by rw [decide_eq_false_iff_not]; omega
  by_cases c2 : 1152921504606846976 < a
  · have d2 : decide (1152921504606846976 < (a : Int)) = true := by rw [decide_eq_true_iff]; omega
    have d2' : decide (1152921504606846976 < a) = true := by rw [decide_eq_true_iff]; omega
    have HN : Hid (stK K first half g = none) := Lib.hid (HNO.out (fun h => by have := HP.out.1 h; omega))
    clear c2
    go_wp2
    go_ret3
    exact ⟨by rw [HN.out]; rfl, HB4.out⟩
  have d2 : decide (1152921504606846976 < (a : Int)) = false := by rw [decide_eq_false_iff_not]; omega
  have d2' : decide (1152921504606846976 < a) = false := by rw [decide_eq_false_iff_not]; omega
  by_cases c3 : a % 2 = g
  case neg =>
    have d3 : ¬ ((a : Int) % 2 = (g : Int)) := by omega
    have HN : Hid (stK K first half g = none) := Lib.hid (HNO.out (fun h => c3 (HP.out.1 h).2.2.1))
    clear c3
    go_wp2
    go_ret3
    exact ⟨by rw [HN.out]; rfl, HB4.out⟩
  have d3 : (a : Int) % 2 = (g : Int) := by omega
  by_cases c4 : z < bb
  · have d4 : decide ((z : Int) < (bb : Int)) = true := by rw [decide_eq_true_iff]; omega
    have d4' : decide (z < bb) = true := by rw [decide_eq_true_iff]; omega
    have HN : Hid (stK K first half g = none) := Lib.hid (HNO.out (fun h => by have := HP.out.1 h; omega))
    clear c4 c3
    go_wp2
    go_ret3
    exact ⟨by rw [HN.out]; rfl, HB4.out⟩
  have d4 : decide ((z : Int) < (bb : Int)) = false := by rw [decide_eq_false_iff_not]; omega
  have d4' : decide (z < bb) = false := by rw [decide_eq_false_iff_not]; omega
  have hbz : (bb : Int) ≤ (z : Int) := by omega
  have hbc : (bb : Int) ≤ ((c - 64 : Nat) : Int) := by omega
  have hbl : ((al.drop 64).take bb).length = bb := by rw [List.length_take, List.length_drop, HALZ.out]; omega
  have hab : a ≤ 1152921504606846976 := by omega
  have HTK4 := Lib.hid (TabK.below HTK.out HB4.out)
  have HHD := Lib.hid (head_any a (some ⟨b, 64, none⟩) bb (c - 64) ((al.drop 64).take bb) w4 HTK4.out (by omega) (HRR4.out.take (by rw [List.length_drop, HALZ.out]; omega)) hbl (by omega) (by omega) (by omega))
  have HG3 : Hid (a % 2 = g) := c3
  have HA1 : Hid (1 ≤ a ∧ bb ≤ z) := Lib.hid ⟨by omega, by omega⟩
  clear c3 hbl
  go_wp2_with fail
  refine HHD.out.mono ?_
  rintro e w5 ⟨v, rfl, hv, hb5⟩
  obtain ⟨A9, c9, rfl, k1, k2, k3, _⟩ := hv.shape_n (hdL_len _ _)
  have HB5 : Hid (Below w.heap.size w w5) := Lib.hid (HB4.out.trans (hb5.mono HB4.out.size))
  have h1 : Reads w5 w5.heap.size 1 (some ⟨b, 0, none⟩) 64 (Lib.byteCells (al.take 64)) := by
    have := HRh4.out.below hb5
    unfold RB at this
    rw [HLH.out] at this
    exact this
  have h2 : Reads w5 w5.heap.size 1 A9 64 (Lib.byteCells (hdL a ((al.drop 64).take bb))) := by
    have := k3
    unfold RB at this
    rw [hdL_len] at this
    exact this
  have HEQ := Lib.hid (equal_any (some ⟨b, 0, none⟩) A9 64 c c9 (al.take 64) (hdL a ((al.drop 64).take bb)) w5 (by omega) h1 h2)
  have HRR5 := Lib.hid ((HRR4.out.below hb5).take (k := bb) (by rw [List.length_drop, HALZ.out]; omega))
  have HBL : Hid (((al.drop 64).take bb).length = bb) := by show _ = _; rw [List.length_take, List.length_drop, HALZ.out]; omega
  clear h1 h2 k3 hv hb5 HHD
  go_wp2_with fail
  refine HEQ.out.mono ?_
  by_cases c5 : al.take 64 = hdL a ((al.drop 64).take bb)
  · have HS : Hid (stK K first half g = some (a, (al.drop 64).take bb)) := Lib.hid (HSO.out (HP.out.2 ⟨HA1.out.1, hab, HG3.out, HA1.out.2, c5⟩))
    rw [decide_eq_true c5]
    rintro e w6 ⟨rfl, nq, rfl⟩
    have HB6 : Hid (Below w.heap.size w (w5.drewN nq)) := Lib.hid ⟨HB5.out.os, HB5.out.tape, HB5.out.output, HB5.out.size, HB5.out.block⟩
    have HR6 := Lib.hid (show RB (w5.drewN nq) (some ⟨b, 64, none⟩) ((al.drop 64).take bb) from HRR5.out)
    clear c5 HEQ HRR5 HB5
    go_wp2
    go_region
    go_wp2
    go_ret3
    refine ⟨?_, ⟨HB6.out.os, HB6.out.tape, HB6.out.output, HB6.out.size, HB6.out.block⟩⟩
    rw [HS.out]
    refine ⟨some ⟨b, 64, none⟩, c - 64, ?_, ?_, ?_, HR6.out.drew'⟩
    · show _ = Ending.returned (.tuple #[.int .i64 (a : Int), .slice (some ⟨b, 64, none⟩) ((al.drop 64).take bb).length (c - 64), .int .i64 0])
      rw [HBL.out]; rfl
    · show ((al.drop 64).take bb).length ≤ c - 64
      rw [HBL.out]; omega
    · omega
  · have HN : Hid (stK K first half g = none) := Lib.hid (HNO.out (fun h => c5 (HP.out.1 h).2.2.2.2))
    rw [decide_eq_false c5]
    rintro e w6 ⟨rfl, nq, rfl⟩
    have HB6 : Hid (Below w.heap.size w (w5.drewN nq)) := Lib.hid ⟨HB5.out.os, HB5.out.tape, HB5.out.output, HB5.out.size, HB5.out.block⟩
    clear c5 HEQ HRR5 HB5
    go_wp2
    go_ret3
    exact ⟨by rw [HN.out]; rfl, HB6.out⟩
end Go.Proofs.YtcndkkagnobpmaaDoor
