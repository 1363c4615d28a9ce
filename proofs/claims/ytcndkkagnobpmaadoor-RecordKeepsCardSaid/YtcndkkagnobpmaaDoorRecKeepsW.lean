/-
  The walk of the law RecordKeeps.
-/
import Derived.Test.YtcndkkagnobpmaaDoorRecK1
import Derived.Deep.RegionHeld3
namespace Go.Proofs.YtcndkkagnobpmaaDoor
open Go.RowKit
attribute [local go_sem ↓] Go.wp_at_zero Go.wp_at_succ
set_option linter.unusedVariables false
set_option linter.unusedSimpArgs false

set_option maxRecDepth 100000 in
set_option maxHeartbeats 8000000 in
theorem recordKeeps_walk (A : Option Addr) (nl c : Nat) (ps : List Pt) (Ab : Option Addr) (cb : Nat) (lb : List UInt8) (stop bytes : Int) (Ak : Option Addr) (nk ck : Nat) (lk : List (Int × Int)) (W : World) (hK : TabK W)
    (hps : Pts W A ps) (hpn : ps.length = nl) (hnc : nl ≤ c) (hcm : c ≤ maxLen) (hcs : ∀ p ∈ ps, p.l.length ≤ p.c ∧ p.c ≤ maxLen)
    (hrb : RB W Ab lb) (hbc : lb.length ≤ cb) (hbm : cb ≤ maxLen) (hbz : lb.length ≤ 140737488351232) (hst : (Lit.int .i64 stop).wf = true) (hby : (Lit.int .i64 bytes).wf = true)
    (hkp : KptAt W W.heap.size Ak lk) (hkn : lk.length = nk) (hkm : nk ≤ maxLen) :
    Calls Tryd.prog 5 #[.slice A nl c, .slice Ab lb.length cb, .int .i64 stop, .int .i64 bytes, .slice Ak nk ck] W fun e w' => e = .returned (.bool true) ∧ Below W.heap.size W w' := by
  obtain ⟨nb, hnb⟩ : ∃ nb, nb = lb.length := ⟨_, rfl⟩
  rw [← hnb] at hbc hbz ⊢
  have HNB : Hid (lb.length = nb) := Lib.hid hnb.symm
  unfold maxLen at hcm hbm hkm
  have hst2 : stop ≤ 9223372036854775807 := by
    exact wf_le hst
  have HN := Lib.hid (dnew_yes 12 W (by omega) (by omega))
  have HK := Lib.hid hK
  have HPS := Lib.hid hps
  have HPN := Lib.hid hpn
  have HCS := Lib.hid hcs
  have HRBB := Lib.hid hrb
  have HKP := Lib.hid hkp
  have HKN := Lib.hid hkn
  clear hK hps hpn hcs hrb hkp hkn hnb hst hby
  go_enter Tryd.func5, Tryd.ntmps5
  go_wp2_with fail
  refine HN.out.mono ?_
  rintro e w1 ⟨d, s, M, rfl, g1, g2, g3, hD, hb1⟩
  have HB1 := Lib.hid hb1
  have HDS : Hid (∀ k, DS d s M k → W.heap.size ≤ k) := Lib.hid (fun k e => by rcases e with rfl | rfl | rfl <;> assumption)
  have HR1 : Hid (RecD w1 d s M 0 6 0 [] (Dk.zero 12)) := Lib.hid ⟨hD, by show (-1 : Int) < 0; omega, zero_dg (by omega) (by omega)⟩
  have HOP := Lib.hid (open_dg 12 w1 hD HR1.out.dg (TabK.below HK.out hb1) rfl)
  clear hD hb1 g1 g2 g3
  go_wp2_with fail
  refine HOP.out.mono ?_
  rintro e w2 ⟨r, rfl, hr, hR, hb2⟩
  have HB2 : Hid (Below W.heap.size W w2) := Lib.hid (HB1.out.trans (hb2.mono HB1.out.size))
  have HD2 := Lib.hid (HR1.out.below hb2)
  have HRG : Hid (W.heap.size ≤ r) := Lib.hid (Nat.le_trans HB1.out.size hr)
  have HLV := Lib.hid (rlives_any w2 (TabK.below HK.out HB2.out))
  have HRA2 := Lib.hid hR
  clear hr hR hb2 HOP
  go_wp2_with fail
  refine HLV.out.mono ?_
  rintro e w3 ⟨rfl, hb3⟩
  have HB3 : Hid (Below W.heap.size W w3) := Lib.hid (HB2.out.trans (hb3.mono HB2.out.size))
  have HD3 := Lib.hid (HD2.out.below hb3)
  have HRA3 := Lib.hid (HRA2.out.below hb3)
  clear hb3
  go_wp2
  go_loopw [15, 16] (fun b v wr => ∃ (k num : Nat) (T : List UInt8), k ≤ nl ∧ k ≤ 10 ∧ num ≤ k ∧ T.length ≤ 320 ∧ b = .string ⟨T.toArray⟩ ∧ v = .int .i64 (k : Int) ∧
    Hid (∃ K, RecD wr d s M 0 6 num T K) ∧ Hid (RecAt wr r d 0 6 num T false) ∧ Hid (Below W.heap.size W wr)) (fun _ v _ => 10 - (intOf v).toNat)
  case atStart => exact ⟨0, 0, [], Nat.zero_le _, by omega, by omega, by simp, rfl, rfl, Lib.hid ⟨_, HD3.out⟩, HRA3, HB3⟩
  case round =>
    obtain ⟨k, num, T, hk, hk10, hnk, hT, rfl, rfl, HDX, HR, HB⟩ := hrel
    obtain ⟨K, hDX⟩ := HDX.out
    have HD := Lib.hid hDX
    clear hDX HDX HD3 HRA3 HB3
    rcases (by omega : (k < nl ∧ k < 10) ∨ nl ≤ k ∨ (k < nl ∧ 10 ≤ k)) with ⟨h5, h6⟩ | h5 | ⟨h5, h6⟩
    · have b1 : decide ((k : Int) < (nl : Int)) = true := by rw [decide_eq_true_iff]; omega
      have b1' : decide (k < nl) = true := by rw [decide_eq_true_iff]; omega
      have b2 : decide ((k : Int) < 10) = true := by rw [decide_eq_true_iff]; omega
      have b2' : decide (k < 10) = true := by rw [decide_eq_true_iff]; omega
      have hkp : k < ps.length := by rw [HPN.out]; exact h5
      obtain ⟨ad, rfl, hadb, _, _⟩ := HPS.out.at_ hkp
      obtain ⟨P0, hP0⟩ : ∃ P0, P0 = ps[k].A := ⟨_, rfl⟩
      obtain ⟨c0, hc0⟩ : ∃ c0, c0 = ps[k].c := ⟨_, rfl⟩
      obtain ⟨X, hX⟩ : ∃ X, X = ps[k].l := ⟨_, rfl⟩
      obtain ⟨L, hL⟩ : ∃ L, L = X.length := ⟨_, rfl⟩
      have hXL : X.length = L := hL.symm
      obtain ⟨hXc, hXm⟩ : L ≤ c0 ∧ c0 ≤ 9223372036854775807 := by
        have := HCS.out _ (List.getElem_mem hkp)
        unfold maxLen at this
        rw [hL, hX, hc0]
        exact ⟨this.1, by omega⟩
      have HPT : Hid (∀ V, Below W.heap.size W V → (True ∧ V.cell? (ad.add k) = some (.slice P0 L c0) ∧ RB V P0 X)) := by
        refine Lib.hid (fun V hb => ?_)
        obtain ⟨ad', e1, _, e3, e4⟩ := (HPS.out.below hb).at_ hkp
        cases e1
        rw [hL, hX, hP0, hc0]
        exact ⟨trivial, e3, e4⟩
      obtain ⟨_, hcell, hX0⟩ := HPT.out wr HB.out
      clear hL hX hP0 hc0 hadb
      rcases Nat.lt_or_ge 320 L with hlong | hok
      · have HCO := Lib.hid (rcommit_long P0 L c0 wr HR.out (by omega) (by omega) (by omega) (by omega))
        go_wp2_with fail
        refine HCO.out.mono ?_
        rintro e w7 ⟨rfl, hb7⟩
        have HB7 : Hid (Below W.heap.size W w7) := Lib.hid (HB.out.trans (hb7.mono HB.out.size))
        have HD7 := Lib.hid (HD.out.below hb7)
        have HR7 := Lib.hid (HR.out.below hb7)
        clear hb7 HCO
        go_wp2
        go_roundw
        case rel => exact ⟨k + 1, num, T, by omega, by omega, by omega, by omega, rfl, by go_num, Lib.hid ⟨_, HD7.out⟩, HR7, HB7⟩
        case measure => simp [intOf]; omega
      · have HCO := Lib.hid (rcommit_dg P0 L c0 X wr HD.out (TabK.below HK.out HB.out) HR.out hX0 hXL hXc hXm (by omega) (by omega))
        go_wp2_with fail
        refine HCO.out.mono ?_
        rintro e w7 ⟨rfl, ⟨K7, hO7, hl7⟩, hR7, hf7⟩
        have HB7 : Hid (Below W.heap.size W w7) := Lib.hid (Fr.below_trans HB.out hf7 HB.out.size (fun k e => e.elim (HDS.out k) (fun e => e ▸ HRG.out)))
        have HD7 := Lib.hid hO7
        have HR7 := Lib.hid hR7
        obtain ⟨_, hcell7, hrb7⟩ := HPT.out w7 HB7.out
        have RC7 := run_string hrb7 L c0 hXL
        have HXL2 : X.length ≤ 320 := by rw [hXL]; omega
        clear hO7 hl7 hR7 hf7 hrb7 HCO hXL
        go_wp2
        go_roundw
        case rel => exact ⟨k + 1, num + 1, X, by omega, by omega, by omega, by omega, rfl, by go_num, Lib.hid ⟨_, HD7.out⟩, HR7, HB7⟩
        case measure => simp [intOf]; omega
    · have b1 : decide ((k : Int) < (nl : Int)) = false := by rw [decide_eq_false_iff_not]; omega
      have b1' : decide (k < nl) = false := by rw [decide_eq_false_iff_not]; omega
      rcases (by omega : stop < 0 ∨ (0 ≤ stop ∧ 20 < nk) ∨ (0 ≤ stop ∧ nk ≤ 20)) with s1 | ⟨s1, s2⟩ | ⟨s1, s2⟩
      · have t1 : decide (stop < 0) = true := by rw [decide_eq_true_iff]; exact s1
        have HTX := Lib.hid (rtext_any wr HR.out (by omega))
        go_wp2_with fail
        refine HTX.out.mono ?_
        rintro e w4 ⟨v, rfl, hv, hb⟩
        obtain ⟨Aw4, cw4, rfl, _, _, hrw4, _⟩ := hv.shape_n rfl
        have RCw4 := run_string hrw4 _ cw4 rfl
        have HB4 : Hid (Below W.heap.size W w4) := Lib.hid (HB.out.trans (hb.mono HB.out.size))
        have HR4 := Lib.hid (HR.out.below hb)
        clear hv hb hrw4
        have HTX4 := Lib.hid (rtext_any w4 HR4.out (by omega))
        go_wp2_with fail
        refine HTX4.out.mono ?_
        rintro e w5 ⟨v, rfl, hv, hb⟩
        obtain ⟨Aw5, cw5, rfl, _, _, hrw5, _⟩ := hv.shape_n rfl
        have RCw5 := run_string hrw5 _ cw5 rfl
        have HB5 : Hid (Below W.heap.size W w5) := Lib.hid (HB4.out.trans (hb.mono HB4.out.size))
        clear hv hb hrw5
        go_wp2
        go_ret
        exact ⟨rfl, HB5.out⟩
      · have t1 : decide (stop < 0) = false := by rw [decide_eq_false_iff_not]; omega
        have t2 : decide (20 < (nk : Int)) = true := by rw [decide_eq_true_iff]; omega
        have t2' : decide (20 < nk) = true := by rw [decide_eq_true_iff]; omega
        have HTX := Lib.hid (rtext_any wr HR.out (by omega))
        go_wp2_with fail
        refine HTX.out.mono ?_
        rintro e w4 ⟨v, rfl, hv, hb⟩
        obtain ⟨Aw4, cw4, rfl, _, _, hrw4, _⟩ := hv.shape_n rfl
        have RCw4 := run_string hrw4 _ cw4 rfl
        have HB4 : Hid (Below W.heap.size W w4) := Lib.hid (HB.out.trans (hb.mono HB.out.size))
        have HR4 := Lib.hid (HR.out.below hb)
        clear hv hb hrw4
        have HTX4 := Lib.hid (rtext_any w4 HR4.out (by omega))
        go_wp2_with fail
        refine HTX4.out.mono ?_
        rintro e w5 ⟨v, rfl, hv, hb⟩
        obtain ⟨Aw5, cw5, rfl, _, _, hrw5, _⟩ := hv.shape_n rfl
        have RCw5 := run_string hrw5 _ cw5 rfl
        have HB5 : Hid (Below W.heap.size W w5) := Lib.hid (HB4.out.trans (hb.mono HB4.out.size))
        clear hv hb hrw5
        go_wp2
        go_ret
        exact ⟨rfl, HB5.out⟩
      · have t1 : decide (stop < 0) = false := by rw [decide_eq_false_iff_not]; omega
        have t2 : decide (20 < (nk : Int)) = false := by rw [decide_eq_false_iff_not]; omega
        have t2' : decide (20 < nk) = false := by rw [decide_eq_false_iff_not]; omega
        have HTX := Lib.hid (rtext_any wr HR.out (by omega))
        go_wp2_with fail
        refine HTX.out.mono ?_
        rintro e w4 ⟨v, rfl, hv, hb⟩
        obtain ⟨Aw4, cw4, rfl, _, _, hrw4, _⟩ := hv.shape_n rfl
        have RCw4 := run_string hrw4 _ cw4 rfl
        have HB4 : Hid (Below W.heap.size W w4) := Lib.hid (HB.out.trans (hb.mono HB.out.size))
        have HR4 := Lib.hid (HR.out.below hb)
        have HD4 := Lib.hid (HD.out.below hb)
        have HST := Lib.hid (stop_any stop bytes w4 HD4.out.disk hst2)
        clear hv hb hrw4
        go_wp2_with fail
        refine HST.out.mono ?_
        rintro e w6 ⟨rfl, hD6, hf6⟩
        have HB6 : Hid (Below W.heap.size W w6) := Lib.hid (Fr.below_trans HB4.out hf6 HB4.out.size (fun k e => HDS.out k (.inl e)))
        have HD6 := Lib.hid hD6
        have HG6 := Lib.hid (HD4.out.dg.stop stop bytes)
        have HR6 : Hid (RecAt w6 r d 0 6 num T false) := Lib.hid (HR4.out.fr hf6 (fun e => by
          obtain ⟨A5, c5, hb5, _⟩ := HR4.out
          obtain ⟨cap, hb, _⟩ := HD4.out.disk.blk
          exact hb5.ne_ hb (by decide) e) (fun g e _ => e ▸ HD4.out.disk.noBy d (.inl rfl)))
        generalize K.stop stop bytes = K6 at HD6 HG6
        clear hD6 hf6 HST
        have HCO := Lib.hid (rcommit_k Ab nb cb lb w6 HD6.out HG6.out (TabK.below HK.out HB6.out) HR6.out (HRBB.out.below HB6.out) HNB.out hbc (by omega) (by omega) (by omega) (by omega) (by omega))
        go_wp2_with fail
        refine HCO.out.mono ?_
        rintro e w8 ⟨gv, K8, n8, rfl, hD8, hf8, hfin⟩
        have HB8 : Hid (Below W.heap.size W w8) := Lib.hid (Fr.below_trans HB6.out hf8 HB6.out.size (fun k e => e.elim (HDS.out k) (fun e => e ▸ HRG.out)))
        have HD8 := Lib.hid hD8
        have HFI := Lib.hid hfin
        clear hD8 hf8 hfin HCO
        have HCR := Lib.hid (crash_in W.heap.size Ak nk ck lk w8 HD8.out HKN.out (by omega) (HKP.out.below HB8.out) HB8.out.size HDS.out)
        go_wp2_with fail
        refine HCR.out.mono ?_
        rintro e w9 (⟨_, rfl, hb9⟩ | ⟨sure, M9, rfl, hlen, htook, hM9, hD9, hf9⟩)
        · have HB9 : Hid (Below W.heap.size W w9) := Lib.hid (HB8.out.trans (hb9.mono HB8.out.size))
          clear hb9
          go_wp2
          go_ret
          exact ⟨rfl, HB9.out⟩
        · have HB9 : Hid (Below W.heap.size W w9) := Lib.hid (Fr.below_trans HB8.out hf9 HB8.out.size HDS.out)
          have HD9 := Lib.hid hD9
          obtain ⟨N9, T9, hg9, hfin, hT9⟩ := HFI.out sure hlen htook hD9.full
          have HG9 := Lib.hid hg9
          have HFN := Lib.hid hfin
          have hT99 : T9.length ≤ 320 := hT9
          clear hg9 hfin hT9 HFI
          clear hlen htook hM9 hD9 hf9
          have HOPX := Lib.hid (open_dg 12 w9 HD9.out HG9.out (TabK.below HK.out HB9.out) rfl)
          go_wp2_with fail
          refine HOPX.out.mono ?_
          rintro e w10 ⟨x, rfl, hx, hX, hb⟩
          have HB10 : Hid (Below W.heap.size W w10) := Lib.hid (HB9.out.trans (hb.mono HB9.out.size))
          have HD10 := Lib.hid (HD9.out.below hb)
          have HX10 := Lib.hid hX
          clear hx hX hb HOPX
          have HOPY := Lib.hid (open_dg 12 w10 HD10.out HG9.out (TabK.below HK.out HB10.out) rfl)
          go_wp2_with fail
          refine HOPY.out.mono ?_
          rintro e w11 ⟨y, rfl, hy, hY, hb⟩
          have HB11 : Hid (Below W.heap.size W w11) := Lib.hid (HB10.out.trans (hb.mono HB10.out.size))
          have HX11 := Lib.hid (HX10.out.below hb)
          have HY11 := Lib.hid hY
          have HTX := Lib.hid (fun V (hb : Below w11.heap.size w11 V) => rtext_any V (HX11.out.below hb) (by omega))
          have HTY := Lib.hid (fun V (hb : Below w11.heap.size w11 V) => rtext_any V (HY11.out.below hb) (by omega))
          have HNX := Lib.hid (fun V (hb : Below w11.heap.size w11 V) => rnumber_any V (HX11.out.below hb))
          have HNY := Lib.hid (fun V (hb : Below w11.heap.size w11 V) => rnumber_any V (HY11.out.below hb))
          have HBD : Hid (Below w11.heap.size w11 w11.drew) := Lib.hid (Below.refl _ _).drew
          clear hy hY hb HOPY
          go_wp2
          refine wp_region_held_drew (S := fun _ => True) (by kernel_rfl) trivial (fun hS1 => ?_)
          refine wpAnyH_take (i := 0) (v := .int .i64 0) rfl (by kernel_rfl) (by kernel_rfl) (by kernel_rfl) (fun _ _ _ h => h) (.inl ⟨by kernel_rfl, fun V _ => by go_simp⟩) trivial ?_
          simp only [Act.put, List.setIfInBounds_toArray, List.set_cons_zero, List.set_cons_succ]
          refine wpAnyH_take (i := 1) (v := .bool false) rfl (by kernel_rfl) (by kernel_rfl) (by kernel_rfl) (fun _ _ _ h => h) (.inl ⟨by kernel_rfl, fun V _ => by go_simp⟩) trivial ?_
          simp only [Act.put, List.setIfInBounds_toArray, List.set_cons_zero, List.set_cons_succ]
          refine wpAnyH_take (i := 2) (v := .bool false) rfl (by kernel_rfl) (by kernel_rfl) (by kernel_rfl) (fun _ _ _ h => h) (.inl ⟨by kernel_rfl, fun V _ => by go_simp⟩) trivial ?_
          simp only [Act.put, List.setIfInBounds_toArray, List.set_cons_zero, List.set_cons_succ]
          refine wpAnyH_take (i := 3) (v := .int .i64 0) rfl (by kernel_rfl) (by kernel_rfl) (by kernel_rfl) (fun _ _ _ h => h) (.inl ⟨by kernel_rfl, fun V _ => by go_simp⟩) trivial ?_
          simp only [Act.put, List.setIfInBounds_toArray, List.set_cons_zero, List.set_cons_succ]
          refine wpAnyH_take (i := 4) (v := .bool false) rfl (by kernel_rfl) (by kernel_rfl) (by kernel_rfl) (fun _ _ _ h => h) (.inl ⟨by kernel_rfl, fun V _ => by go_simp⟩) trivial ?_
          simp only [Act.put, List.setIfInBounds_toArray, List.set_cons_zero, List.set_cons_succ]
          refine wpAnyH_take (i := 5) (v := .bool false) rfl (by kernel_rfl) (by kernel_rfl) (by kernel_rfl) (fun _ _ _ h => h) (.inl ⟨by kernel_rfl, fun V _ => by go_simp⟩) trivial ?_
          simp only [Act.put, List.setIfInBounds_toArray, List.set_cons_zero, List.set_cons_succ]
          refine wpAnyH_take (i := 6) (v := .bool false) rfl (by kernel_rfl) (by kernel_rfl) (by kernel_rfl) (fun _ _ _ h => h) (.inl ⟨by kernel_rfl, fun V _ => by go_simp⟩) trivial ?_
          simp only [Act.put, List.setIfInBounds_toArray, List.set_cons_zero, List.set_cons_succ]
          refine wpAnyH_take (i := 7) (v := .pointer (some ⟨x, 0, none⟩)) rfl (by kernel_rfl) (by kernel_rfl) (by kernel_rfl) (fun _ _ _ h => h) (.inl ⟨by kernel_rfl, fun V _ => by go_simp⟩) trivial ?_
          simp only [Act.put, List.setIfInBounds_toArray, List.set_cons_zero, List.set_cons_succ]
          refine wpAnyH_take (i := 8) (v := .bool false) rfl (by kernel_rfl) (by kernel_rfl) (by kernel_rfl) (fun _ _ _ h => h) (.inl ⟨by kernel_rfl, fun V _ => by go_simp⟩) trivial ?_
          simp only [Act.put, List.setIfInBounds_toArray, List.set_cons_zero, List.set_cons_succ]
          refine wpAnyH_take (i := 9) (v := .bool false) rfl (by kernel_rfl) (by kernel_rfl) (by kernel_rfl) (fun _ _ _ h => h) (.inl ⟨by kernel_rfl, fun V _ => by go_simp⟩) trivial ?_
          simp only [Act.put, List.setIfInBounds_toArray, List.set_cons_zero, List.set_cons_succ]
          refine wpAnyH_take (i := 10) (v := .bool false) rfl (by kernel_rfl) (by kernel_rfl) (by kernel_rfl) (fun _ _ _ h => h) (.inl ⟨by kernel_rfl, fun V _ => by go_simp⟩) trivial ?_
          simp only [Act.put, List.setIfInBounds_toArray, List.set_cons_zero, List.set_cons_succ]
          refine wpAnyH_take (i := 11) (v := .pointer (some ⟨y, 0, none⟩)) rfl (by kernel_rfl) (by kernel_rfl) (by kernel_rfl) (fun _ _ _ h => h) (.inl ⟨by kernel_rfl, fun V _ => by go_simp⟩) trivial ?_
          simp only [Act.put, List.setIfInBounds_toArray, List.set_cons_zero, List.set_cons_succ]
          refine wpAnyH_take (i := 12) (v := .bool false) rfl (by kernel_rfl) (by kernel_rfl) (by kernel_rfl) (fun _ _ _ h => h) (.inl ⟨by kernel_rfl, fun V _ => by go_simp⟩) trivial ?_
          simp only [Act.put, List.setIfInBounds_toArray, List.set_cons_zero, List.set_cons_succ]
          refine wpAnyH_take (i := 13) (v := .bool false) rfl (by kernel_rfl) (by kernel_rfl) (by kernel_rfl) (fun _ _ _ h => h) (.inl ⟨by kernel_rfl, fun V _ => by go_simp⟩) trivial ?_
          simp only [Act.put, List.setIfInBounds_toArray, List.set_cons_zero, List.set_cons_succ]
          refine wpAnyH_take (i := 14) (v := .bool false) rfl (by kernel_rfl) (by kernel_rfl) (by kernel_rfl) (fun _ _ _ h => h) (.inl ⟨by kernel_rfl, fun V _ => by go_simp⟩) trivial ?_
          simp only [Act.put, List.setIfInBounds_toArray, List.set_cons_zero, List.set_cons_succ]
          refine wpAnyH_take (i := 15) (v := .pointer (some ⟨x, 0, none⟩)) rfl (by kernel_rfl) (by kernel_rfl) (by kernel_rfl) (fun _ _ _ h => h) (.inl ⟨by kernel_rfl, fun V _ => by go_simp⟩) trivial ?_
          simp only [Act.put, List.setIfInBounds_toArray, List.set_cons_zero, List.set_cons_succ]
          refine wpAnyH_take (i := 18) (v := .pointer (some ⟨y, 0, none⟩)) rfl (by kernel_rfl) (by kernel_rfl) (by kernel_rfl) (fun _ _ _ h => h) (.inl ⟨by kernel_rfl, fun V _ => by go_simp⟩) trivial ?_
          simp only [Act.put, List.setIfInBounds_toArray, List.set_cons_zero, List.set_cons_succ]
          refine wpAnyH_ready (rs := [16]) (by kernel_rfl) (by simp) ?_
          refine AllReadyH.cons rfl (fun K' hK => ?_) AllReadyH.nil
          go_simp
          refine (HTX.out _ HBD.out).mono ?_
          rintro e w12 ⟨v, rfl, hv, hb⟩
          obtain ⟨A12, c12, rfl, _, _, hr12, _⟩ := hv.shape_n rfl
          have RC12 := run_string hr12 _ c12 rfl
          have HB12 := Lib.hid (HBD.out.trans (hb.mono HBD.out.size))
          have HR12 := Lib.hid hr12
          clear hv hb hr12
          go_simp
          refine hK.out _ _ trivial (fun _ => ?_)
          clear hK K'
          refine wpAnyH_ready (rs := [17, 19]) (by kernel_rfl) (by simp) ?_
          refine AllReadyH.cons rfl (fun K' hK => ?_) (AllReadyH.cons rfl (fun K' hK => ?_) AllReadyH.nil)
          · go_simp
            refine hK.out _ _ trivial (fun _ => ?_)
            clear hK K'
            refine wpAnyH_ready (rs := [19]) (by kernel_rfl) (by simp) ?_
            refine AllReadyH.cons rfl (fun K' hK => ?_) AllReadyH.nil
            go_simp
            refine (HTY.out _ HB12.out).mono ?_
            rintro e w13 ⟨v, rfl, hv, hb⟩
            obtain ⟨A13, c13, rfl, _, _, hr13, _⟩ := hv.shape_n rfl
            have RC13 := run_string hr13 _ c13 rfl
            have RC14 := run_string (HR12.out.below hb) _ c12 rfl
            have HB13 := Lib.hid (HB12.out.trans (hb.mono HB12.out.size))
            clear hv hb hr13
            go_simp
            refine hK.out _ _ trivial (fun _ => ?_)
            clear hK K'
            refine wpAnyH_ready (rs := [20]) (by kernel_rfl) (by simp) ?_
            refine AllReadyH.cons rfl (fun K' hK => ?_) AllReadyH.nil
            go_simp
            refine hK.out _ _ trivial (fun _ => ?_)
            clear hK K'
            refine wpAnyH_take (i := 21) (v := .bool false) rfl (by kernel_rfl) (by kernel_rfl) (by kernel_rfl) (fun _ _ _ h => h) (.inl ⟨by kernel_rfl, fun V _ => by go_simp⟩) trivial ?_
            simp only [Act.put, List.setIfInBounds_toArray, List.set_cons_zero, List.set_cons_succ]
            refine wpAnyH_take (i := 22) (v := .bool false) rfl (by kernel_rfl) (by kernel_rfl) (by kernel_rfl) (fun _ _ _ h => h) (.inl ⟨by kernel_rfl, fun V _ => by go_simp⟩) trivial ?_
            simp only [Act.put, List.setIfInBounds_toArray, List.set_cons_zero, List.set_cons_succ]
            refine wpAnyH_take (i := 23) (v := .bool false) rfl (by kernel_rfl) (by kernel_rfl) (by kernel_rfl) (fun _ _ _ h => h) (.inl ⟨by kernel_rfl, fun V _ => by go_simp⟩) trivial ?_
            simp only [Act.put, List.setIfInBounds_toArray, List.set_cons_zero, List.set_cons_succ]
            refine wpAnyH_take (i := 24) (v := .pointer (some ⟨x, 0, none⟩)) rfl (by kernel_rfl) (by kernel_rfl) (by kernel_rfl) (fun _ _ _ h => h) (.inl ⟨by kernel_rfl, fun V _ => by go_simp⟩) trivial ?_
            simp only [Act.put, List.setIfInBounds_toArray, List.set_cons_zero, List.set_cons_succ]
            refine wpAnyH_take (i := 26) (v := .pointer (some ⟨y, 0, none⟩)) rfl (by kernel_rfl) (by kernel_rfl) (by kernel_rfl) (fun _ _ _ h => h) (.inl ⟨by kernel_rfl, fun V _ => by go_simp⟩) trivial ?_
            simp only [Act.put, List.setIfInBounds_toArray, List.set_cons_zero, List.set_cons_succ]
            refine wpAnyH_ready (rs := [25]) (by kernel_rfl) (by simp) ?_
            refine AllReadyH.cons rfl (fun K' hK => ?_) AllReadyH.nil
            go_simp
            refine (HNX.out _ HB13.out).mono ?_
            rintro e w13 ⟨rfl, rfl⟩
            go_simp
            refine hK.out _ _ trivial (fun _ => ?_)
            clear hK K'
            refine wpAnyH_ready (rs := [27]) (by kernel_rfl) (by simp) ?_
            refine AllReadyH.cons rfl (fun K' hK => ?_) AllReadyH.nil
            go_simp
            refine (HNY.out _ HB13.out).mono ?_
            rintro e w13 ⟨rfl, rfl⟩
            go_simp
            refine hK.out _ _ trivial (fun _ => ?_)
            clear hK K'
            refine wpAnyH_take (i := 28) (v := .bool false) rfl (by kernel_rfl) (by kernel_rfl) (by kernel_rfl) (fun _ _ _ h => h) (.inl ⟨by kernel_rfl, fun V _ => by go_simp⟩) trivial ?_
            simp only [Act.put, List.setIfInBounds_toArray, List.set_cons_zero, List.set_cons_succ]
            refine wpAnyH_take (i := 29) (v := .bool false) rfl (by kernel_rfl) (by kernel_rfl) (by kernel_rfl) (fun _ _ _ h => h) (.inl ⟨by kernel_rfl, fun V _ => by go_simp⟩) trivial ?_
            simp only [Act.put, List.setIfInBounds_toArray, List.set_cons_zero, List.set_cons_succ]
            refine wpAnyH_done (by kernel_rfl) ?_ _
            have HX13 := Lib.hid (HX11.out.below HB13.out)
            have HB14 : Hid (Below W.heap.size W w13) := Lib.hid (HB11.out.trans (HB13.out.mono HB11.out.size))
            have HTZ := Lib.hid (rtext_any w13 HX13.out (by omega))
            go_wp2_with fail
            refine HTZ.out.mono ?_
            rintro e w15 ⟨v, rfl, hv, hb⟩
            obtain ⟨A15, c15, rfl, _, _, hr15, _⟩ := hv.shape_n rfl
            have RC15 := run_string hr15 _ c15 rfl
            have HB15 : Hid (Below W.heap.size W w15) := Lib.hid (HB14.out.trans (hb.mono HB14.out.size))
            have RCB := run_string (HRBB.out.below HB15.out) nb cb HNB.out
            clear hv hb hr15
            rcases HFN.out with ⟨rfl, rfl, _⟩ | ⟨hne, rfl, _⟩ | ⟨rfl, rfl, _⟩
            · go_wp2
              go_ret
              exact ⟨rfl, HB15.out⟩
            · have hge : (gv == 0) = false := by rw [beq_eq_false_iff_ne]; exact hne
              clear hne
              go_wp2
              go_ret
              exact ⟨rfl, HB15.out⟩
            · go_wp2
              all_goals go_ret
              all_goals exact ⟨rfl, HB15.out⟩
          · go_simp
            refine (HTY.out _ HB12.out).mono ?_
            rintro e w13 ⟨v, rfl, hv, hb⟩
            obtain ⟨A13, c13, rfl, _, _, hr13, _⟩ := hv.shape_n rfl
            have RC13 := run_string hr13 _ c13 rfl
            have RC14 := run_string (HR12.out.below hb) _ c12 rfl
            have HB13 := Lib.hid (HB12.out.trans (hb.mono HB12.out.size))
            clear hv hb hr13
            go_simp
            refine hK.out _ _ trivial (fun _ => ?_)
            clear hK K'
            refine wpAnyH_ready (rs := [17, 20]) (by kernel_rfl) (by simp) ?_
            refine AllReadyH.cons rfl (fun K' hK => ?_) (AllReadyH.cons rfl (fun K' hK => ?_) AllReadyH.nil)
            · go_simp
              refine hK.out _ _ trivial (fun _ => ?_)
              clear hK K'
              refine wpAnyH_ready (rs := [20]) (by kernel_rfl) (by simp) ?_
              refine AllReadyH.cons rfl (fun K' hK => ?_) AllReadyH.nil
              go_simp
              refine hK.out _ _ trivial (fun _ => ?_)
              clear hK K'
              refine wpAnyH_take (i := 21) (v := .bool false) rfl (by kernel_rfl) (by kernel_rfl) (by kernel_rfl) (fun _ _ _ h => h) (.inl ⟨by kernel_rfl, fun V _ => by go_simp⟩) trivial ?_
              simp only [Act.put, List.setIfInBounds_toArray, List.set_cons_zero, List.set_cons_succ]
              refine wpAnyH_take (i := 22) (v := .bool false) rfl (by kernel_rfl) (by kernel_rfl) (by kernel_rfl) (fun _ _ _ h => h) (.inl ⟨by kernel_rfl, fun V _ => by go_simp⟩) trivial ?_
              simp only [Act.put, List.setIfInBounds_toArray, List.set_cons_zero, List.set_cons_succ]
              refine wpAnyH_take (i := 23) (v := .bool false) rfl (by kernel_rfl) (by kernel_rfl) (by kernel_rfl) (fun _ _ _ h => h) (.inl ⟨by kernel_rfl, fun V _ => by go_simp⟩) trivial ?_
              simp only [Act.put, List.setIfInBounds_toArray, List.set_cons_zero, List.set_cons_succ]
              refine wpAnyH_take (i := 24) (v := .pointer (some ⟨x, 0, none⟩)) rfl (by kernel_rfl) (by kernel_rfl) (by kernel_rfl) (fun _ _ _ h => h) (.inl ⟨by kernel_rfl, fun V _ => by go_simp⟩) trivial ?_
              simp only [Act.put, List.setIfInBounds_toArray, List.set_cons_zero, List.set_cons_succ]
              refine wpAnyH_take (i := 26) (v := .pointer (some ⟨y, 0, none⟩)) rfl (by kernel_rfl) (by kernel_rfl) (by kernel_rfl) (fun _ _ _ h => h) (.inl ⟨by kernel_rfl, fun V _ => by go_simp⟩) trivial ?_
              simp only [Act.put, List.setIfInBounds_toArray, List.set_cons_zero, List.set_cons_succ]
              refine wpAnyH_ready (rs := [25]) (by kernel_rfl) (by simp) ?_
              refine AllReadyH.cons rfl (fun K' hK => ?_) AllReadyH.nil
              go_simp
              refine (HNX.out _ HB13.out).mono ?_
              rintro e w13 ⟨rfl, rfl⟩
              go_simp
              refine hK.out _ _ trivial (fun _ => ?_)
              clear hK K'
              refine wpAnyH_ready (rs := [27]) (by kernel_rfl) (by simp) ?_
              refine AllReadyH.cons rfl (fun K' hK => ?_) AllReadyH.nil
              go_simp
              refine (HNY.out _ HB13.out).mono ?_
              rintro e w13 ⟨rfl, rfl⟩
              go_simp
              refine hK.out _ _ trivial (fun _ => ?_)
              clear hK K'
              refine wpAnyH_take (i := 28) (v := .bool false) rfl (by kernel_rfl) (by kernel_rfl) (by kernel_rfl) (fun _ _ _ h => h) (.inl ⟨by kernel_rfl, fun V _ => by go_simp⟩) trivial ?_
              simp only [Act.put, List.setIfInBounds_toArray, List.set_cons_zero, List.set_cons_succ]
              refine wpAnyH_take (i := 29) (v := .bool false) rfl (by kernel_rfl) (by kernel_rfl) (by kernel_rfl) (fun _ _ _ h => h) (.inl ⟨by kernel_rfl, fun V _ => by go_simp⟩) trivial ?_
              simp only [Act.put, List.setIfInBounds_toArray, List.set_cons_zero, List.set_cons_succ]
              refine wpAnyH_done (by kernel_rfl) ?_ _
              have HX13 := Lib.hid (HX11.out.below HB13.out)
              have HB14 : Hid (Below W.heap.size W w13) := Lib.hid (HB11.out.trans (HB13.out.mono HB11.out.size))
              have HTZ := Lib.hid (rtext_any w13 HX13.out (by omega))
              go_wp2_with fail
              refine HTZ.out.mono ?_
              rintro e w15 ⟨v, rfl, hv, hb⟩
              obtain ⟨A15, c15, rfl, _, _, hr15, _⟩ := hv.shape_n rfl
              have RC15 := run_string hr15 _ c15 rfl
              have HB15 : Hid (Below W.heap.size W w15) := Lib.hid (HB14.out.trans (hb.mono HB14.out.size))
              have RCB := run_string (HRBB.out.below HB15.out) nb cb HNB.out
              clear hv hb hr15
              rcases HFN.out with ⟨rfl, rfl, _⟩ | ⟨hne, rfl, _⟩ | ⟨rfl, rfl, _⟩
              · go_wp2
                go_ret
                exact ⟨rfl, HB15.out⟩
              · have hge : (gv == 0) = false := by rw [beq_eq_false_iff_ne]; exact hne
                clear hne
                go_wp2
                go_ret
                exact ⟨rfl, HB15.out⟩
              · go_wp2
                all_goals go_ret
                all_goals exact ⟨rfl, HB15.out⟩
            · go_simp
              refine hK.out _ _ trivial (fun _ => ?_)
              clear hK K'
              refine wpAnyH_ready (rs := [17]) (by kernel_rfl) (by simp) ?_
              refine AllReadyH.cons rfl (fun K' hK => ?_) AllReadyH.nil
              go_simp
              refine hK.out _ _ trivial (fun _ => ?_)
              clear hK K'
              refine wpAnyH_take (i := 21) (v := .bool false) rfl (by kernel_rfl) (by kernel_rfl) (by kernel_rfl) (fun _ _ _ h => h) (.inl ⟨by kernel_rfl, fun V _ => by go_simp⟩) trivial ?_
              simp only [Act.put, List.setIfInBounds_toArray, List.set_cons_zero, List.set_cons_succ]
              refine wpAnyH_take (i := 22) (v := .bool false) rfl (by kernel_rfl) (by kernel_rfl) (by kernel_rfl) (fun _ _ _ h => h) (.inl ⟨by kernel_rfl, fun V _ => by go_simp⟩) trivial ?_
              simp only [Act.put, List.setIfInBounds_toArray, List.set_cons_zero, List.set_cons_succ]
              refine wpAnyH_take (i := 23) (v := .bool false) rfl (by kernel_rfl) (by kernel_rfl) (by kernel_rfl) (fun _ _ _ h => h) (.inl ⟨by kernel_rfl, fun V _ => by go_simp⟩) trivial ?_
              simp only [Act.put, List.setIfInBounds_toArray, List.set_cons_zero, List.set_cons_succ]
              refine wpAnyH_take (i := 24) (v := .pointer (some ⟨x, 0, none⟩)) rfl (by kernel_rfl) (by kernel_rfl) (by kernel_rfl) (fun _ _ _ h => h) (.inl ⟨by kernel_rfl, fun V _ => by go_simp⟩) trivial ?_
              simp only [Act.put, List.setIfInBounds_toArray, List.set_cons_zero, List.set_cons_succ]
              refine wpAnyH_take (i := 26) (v := .pointer (some ⟨y, 0, none⟩)) rfl (by kernel_rfl) (by kernel_rfl) (by kernel_rfl) (fun _ _ _ h => h) (.inl ⟨by kernel_rfl, fun V _ => by go_simp⟩) trivial ?_
              simp only [Act.put, List.setIfInBounds_toArray, List.set_cons_zero, List.set_cons_succ]
              refine wpAnyH_ready (rs := [25]) (by kernel_rfl) (by simp) ?_
              refine AllReadyH.cons rfl (fun K' hK => ?_) AllReadyH.nil
              go_simp
              refine (HNX.out _ HB13.out).mono ?_
              rintro e w13 ⟨rfl, rfl⟩
              go_simp
              refine hK.out _ _ trivial (fun _ => ?_)
              clear hK K'
              refine wpAnyH_ready (rs := [27]) (by kernel_rfl) (by simp) ?_
              refine AllReadyH.cons rfl (fun K' hK => ?_) AllReadyH.nil
              go_simp
              refine (HNY.out _ HB13.out).mono ?_
              rintro e w13 ⟨rfl, rfl⟩
              go_simp
              refine hK.out _ _ trivial (fun _ => ?_)
              clear hK K'
              refine wpAnyH_take (i := 28) (v := .bool false) rfl (by kernel_rfl) (by kernel_rfl) (by kernel_rfl) (fun _ _ _ h => h) (.inl ⟨by kernel_rfl, fun V _ => by go_simp⟩) trivial ?_
              simp only [Act.put, List.setIfInBounds_toArray, List.set_cons_zero, List.set_cons_succ]
              refine wpAnyH_take (i := 29) (v := .bool false) rfl (by kernel_rfl) (by kernel_rfl) (by kernel_rfl) (fun _ _ _ h => h) (.inl ⟨by kernel_rfl, fun V _ => by go_simp⟩) trivial ?_
              simp only [Act.put, List.setIfInBounds_toArray, List.set_cons_zero, List.set_cons_succ]
              refine wpAnyH_done (by kernel_rfl) ?_ _
              have HX13 := Lib.hid (HX11.out.below HB13.out)
              have HB14 : Hid (Below W.heap.size W w13) := Lib.hid (HB11.out.trans (HB13.out.mono HB11.out.size))
              have HTZ := Lib.hid (rtext_any w13 HX13.out (by omega))
              go_wp2_with fail
              refine HTZ.out.mono ?_
              rintro e w15 ⟨v, rfl, hv, hb⟩
              obtain ⟨A15, c15, rfl, _, _, hr15, _⟩ := hv.shape_n rfl
              have RC15 := run_string hr15 _ c15 rfl
              have HB15 : Hid (Below W.heap.size W w15) := Lib.hid (HB14.out.trans (hb.mono HB14.out.size))
              have RCB := run_string (HRBB.out.below HB15.out) nb cb HNB.out
              clear hv hb hr15
              rcases HFN.out with ⟨rfl, rfl, _⟩ | ⟨hne, rfl, _⟩ | ⟨rfl, rfl, _⟩
              · go_wp2
                go_ret
                exact ⟨rfl, HB15.out⟩
              · have hge : (gv == 0) = false := by rw [beq_eq_false_iff_ne]; exact hne
                clear hne
                go_wp2
                go_ret
                exact ⟨rfl, HB15.out⟩
              · go_wp2
                all_goals go_ret
                all_goals exact ⟨rfl, HB15.out⟩
    · have b1 : decide ((k : Int) < (nl : Int)) = true := by rw [decide_eq_true_iff]; omega
      have b1' : decide (k < nl) = true := by rw [decide_eq_true_iff]; omega
      have b2 : decide ((k : Int) < 10) = false := by rw [decide_eq_false_iff_not]; omega
      have b2' : decide (k < 10) = false := by rw [decide_eq_false_iff_not]; omega
      rcases (by omega : stop < 0 ∨ (0 ≤ stop ∧ 20 < nk) ∨ (0 ≤ stop ∧ nk ≤ 20)) with s1 | ⟨s1, s2⟩ | ⟨s1, s2⟩
      · have t1 : decide (stop < 0) = true := by rw [decide_eq_true_iff]; exact s1
        have HTX := Lib.hid (rtext_any wr HR.out (by omega))
        go_wp2_with fail
        refine HTX.out.mono ?_
        rintro e w4 ⟨v, rfl, hv, hb⟩
        obtain ⟨Aw4, cw4, rfl, _, _, hrw4, _⟩ := hv.shape_n rfl
        have RCw4 := run_string hrw4 _ cw4 rfl
        have HB4 : Hid (Below W.heap.size W w4) := Lib.hid (HB.out.trans (hb.mono HB.out.size))
        have HR4 := Lib.hid (HR.out.below hb)
        clear hv hb hrw4
        have HTX4 := Lib.hid (rtext_any w4 HR4.out (by omega))
        go_wp2_with fail
        refine HTX4.out.mono ?_
        rintro e w5 ⟨v, rfl, hv, hb⟩
        obtain ⟨Aw5, cw5, rfl, _, _, hrw5, _⟩ := hv.shape_n rfl
        have RCw5 := run_string hrw5 _ cw5 rfl
        have HB5 : Hid (Below W.heap.size W w5) := Lib.hid (HB4.out.trans (hb.mono HB4.out.size))
        clear hv hb hrw5
        go_wp2
        go_ret
        exact ⟨rfl, HB5.out⟩
      · have t1 : decide (stop < 0) = false := by rw [decide_eq_false_iff_not]; omega
        have t2 : decide (20 < (nk : Int)) = true := by rw [decide_eq_true_iff]; omega
        have t2' : decide (20 < nk) = true := by rw [decide_eq_true_iff]; omega
        have HTX := Lib.hid (rtext_any wr HR.out (by omega))
        go_wp2_with fail
        refine HTX.out.mono ?_
        rintro e w4 ⟨v, rfl, hv, hb⟩
        obtain ⟨Aw4, cw4, rfl, _, _, hrw4, _⟩ := hv.shape_n rfl
        have RCw4 := run_string hrw4 _ cw4 rfl
        have HB4 : Hid (Below W.heap.size W w4) := Lib.hid (HB.out.trans (hb.mono HB.out.size))
        have HR4 := Lib.hid (HR.out.below hb)
        clear hv hb hrw4
        have HTX4 := Lib.hid (rtext_any w4 HR4.out (by omega))
        go_wp2_with fail
        refine HTX4.out.mono ?_
        rintro e w5 ⟨v, rfl, hv, hb⟩
        obtain ⟨Aw5, cw5, rfl, _, _, hrw5, _⟩ := hv.shape_n rfl
        have RCw5 := run_string hrw5 _ cw5 rfl
        have HB5 : Hid (Below W.heap.size W w5) := Lib.hid (HB4.out.trans (hb.mono HB4.out.size))
        clear hv hb hrw5
        go_wp2
        go_ret
        exact ⟨rfl, HB5.out⟩
      · have t1 : decide (stop < 0) = false := by rw [decide_eq_false_iff_not]; omega
        have t2 : decide (20 < (nk : Int)) = false := by rw [decide_eq_false_iff_not]; omega
        have t2' : decide (20 < nk) = false := by rw [decide_eq_false_iff_not]; omega
        have HTX := Lib.hid (rtext_any wr HR.out (by omega))
        go_wp2_with fail
        refine HTX.out.mono ?_
        rintro e w4 ⟨v, rfl, hv, hb⟩
        obtain ⟨Aw4, cw4, rfl, _, _, hrw4, _⟩ := hv.shape_n rfl
        have RCw4 := run_string hrw4 _ cw4 rfl
        have HB4 : Hid (Below W.heap.size W w4) := Lib.hid (HB.out.trans (hb.mono HB.out.size))
        have HR4 := Lib.hid (HR.out.below hb)
        have HD4 := Lib.hid (HD.out.below hb)
        have HST := Lib.hid (stop_any stop bytes w4 HD4.out.disk hst2)
        clear hv hb hrw4
        go_wp2_with fail
        refine HST.out.mono ?_
        rintro e w6 ⟨rfl, hD6, hf6⟩
        have HB6 : Hid (Below W.heap.size W w6) := Lib.hid (Fr.below_trans HB4.out hf6 HB4.out.size (fun k e => HDS.out k (.inl e)))
        have HD6 := Lib.hid hD6
        have HG6 := Lib.hid (HD4.out.dg.stop stop bytes)
        have HR6 : Hid (RecAt w6 r d 0 6 num T false) := Lib.hid (HR4.out.fr hf6 (fun e => by
          obtain ⟨A5, c5, hb5, _⟩ := HR4.out
          obtain ⟨cap, hb, _⟩ := HD4.out.disk.blk
          exact hb5.ne_ hb (by decide) e) (fun g e _ => e ▸ HD4.out.disk.noBy d (.inl rfl)))
        generalize K.stop stop bytes = K6 at HD6 HG6
        clear hD6 hf6 HST
        have HCO := Lib.hid (rcommit_k Ab nb cb lb w6 HD6.out HG6.out (TabK.below HK.out HB6.out) HR6.out (HRBB.out.below HB6.out) HNB.out hbc (by omega) (by omega) (by omega) (by omega) (by omega))
        go_wp2_with fail
        refine HCO.out.mono ?_
        rintro e w8 ⟨gv, K8, n8, rfl, hD8, hf8, hfin⟩
        have HB8 : Hid (Below W.heap.size W w8) := Lib.hid (Fr.below_trans HB6.out hf8 HB6.out.size (fun k e => e.elim (HDS.out k) (fun e => e ▸ HRG.out)))
        have HD8 := Lib.hid hD8
        have HFI := Lib.hid hfin
        clear hD8 hf8 hfin HCO
        have HCR := Lib.hid (crash_in W.heap.size Ak nk ck lk w8 HD8.out HKN.out (by omega) (HKP.out.below HB8.out) HB8.out.size HDS.out)
        go_wp2_with fail
        refine HCR.out.mono ?_
        rintro e w9 (⟨_, rfl, hb9⟩ | ⟨sure, M9, rfl, hlen, htook, hM9, hD9, hf9⟩)
        · have HB9 : Hid (Below W.heap.size W w9) := Lib.hid (HB8.out.trans (hb9.mono HB8.out.size))
          clear hb9
          go_wp2
          go_ret
          exact ⟨rfl, HB9.out⟩
        · have HB9 : Hid (Below W.heap.size W w9) := Lib.hid (Fr.below_trans HB8.out hf9 HB8.out.size HDS.out)
          have HD9 := Lib.hid hD9
          obtain ⟨N9, T9, hg9, hfin, hT9⟩ := HFI.out sure hlen htook hD9.full
          have HG9 := Lib.hid hg9
          have HFN := Lib.hid hfin
          have hT99 : T9.length ≤ 320 := hT9
          clear hg9 hfin hT9 HFI
          clear hlen htook hM9 hD9 hf9
          have HOPX := Lib.hid (open_dg 12 w9 HD9.out HG9.out (TabK.below HK.out HB9.out) rfl)
          go_wp2_with fail
          refine HOPX.out.mono ?_
          rintro e w10 ⟨x, rfl, hx, hX, hb⟩
          have HB10 : Hid (Below W.heap.size W w10) := Lib.hid (HB9.out.trans (hb.mono HB9.out.size))
          have HD10 := Lib.hid (HD9.out.below hb)
          have HX10 := Lib.hid hX
          clear hx hX hb HOPX
          have HOPY := Lib.hid (open_dg 12 w10 HD10.out HG9.out (TabK.below HK.out HB10.out) rfl)
          go_wp2_with fail
          refine HOPY.out.mono ?_
          rintro e w11 ⟨y, rfl, hy, hY, hb⟩
          have HB11 : Hid (Below W.heap.size W w11) := Lib.hid (HB10.out.trans (hb.mono HB10.out.size))
          have HX11 := Lib.hid (HX10.out.below hb)
          have HY11 := Lib.hid hY
          have HTX := Lib.hid (fun V (hb : Below w11.heap.size w11 V) => rtext_any V (HX11.out.below hb) (by omega))
          have HTY := Lib.hid (fun V (hb : Below w11.heap.size w11 V) => rtext_any V (HY11.out.below hb) (by omega))
          have HNX := Lib.hid (fun V (hb : Below w11.heap.size w11 V) => rnumber_any V (HX11.out.below hb))
          have HNY := Lib.hid (fun V (hb : Below w11.heap.size w11 V) => rnumber_any V (HY11.out.below hb))
          have HBD : Hid (Below w11.heap.size w11 w11.drew) := Lib.hid (Below.refl _ _).drew
          clear hy hY hb HOPY
          go_wp2
          refine wp_region_held_drew (S := fun _ => True) (by kernel_rfl) trivial (fun hS1 => ?_)
          refine wpAnyH_take (i := 0) (v := .int .i64 0) rfl (by kernel_rfl) (by kernel_rfl) (by kernel_rfl) (fun _ _ _ h => h) (.inl ⟨by kernel_rfl, fun V _ => by go_simp⟩) trivial ?_
          simp only [Act.put, List.setIfInBounds_toArray, List.set_cons_zero, List.set_cons_succ]
          refine wpAnyH_take (i := 1) (v := .bool false) rfl (by kernel_rfl) (by kernel_rfl) (by kernel_rfl) (fun _ _ _ h => h) (.inl ⟨by kernel_rfl, fun V _ => by go_simp⟩) trivial ?_
          simp only [Act.put, List.setIfInBounds_toArray, List.set_cons_zero, List.set_cons_succ]
          refine wpAnyH_take (i := 2) (v := .bool false) rfl (by kernel_rfl) (by kernel_rfl) (by kernel_rfl) (fun _ _ _ h => h) (.inl ⟨by kernel_rfl, fun V _ => by go_simp⟩) trivial ?_
          simp only [Act.put, List.setIfInBounds_toArray, List.set_cons_zero, List.set_cons_succ]
          refine wpAnyH_take (i := 3) (v := .int .i64 0) rfl (by kernel_rfl) (by kernel_rfl) (by kernel_rfl) (fun _ _ _ h => h) (.inl ⟨by kernel_rfl, fun V _ => by go_simp⟩) trivial ?_
          simp only [Act.put, List.setIfInBounds_toArray, List.set_cons_zero, List.set_cons_succ]
          refine wpAnyH_take (i := 4) (v := .bool false) rfl (by kernel_rfl) (by kernel_rfl) (by kernel_rfl) (fun _ _ _ h => h) (.inl ⟨by kernel_rfl, fun V _ => by go_simp⟩) trivial ?_
          simp only [Act.put, List.setIfInBounds_toArray, List.set_cons_zero, List.set_cons_succ]
          refine wpAnyH_take (i := 5) (v := .bool false) rfl (by kernel_rfl) (by kernel_rfl) (by kernel_rfl) (fun _ _ _ h => h) (.inl ⟨by kernel_rfl, fun V _ => by go_simp⟩) trivial ?_
          simp only [Act.put, List.setIfInBounds_toArray, List.set_cons_zero, List.set_cons_succ]
          refine wpAnyH_take (i := 6) (v := .bool false) rfl (by kernel_rfl) (by kernel_rfl) (by kernel_rfl) (fun _ _ _ h => h) (.inl ⟨by kernel_rfl, fun V _ => by go_simp⟩) trivial ?_
          simp only [Act.put, List.setIfInBounds_toArray, List.set_cons_zero, List.set_cons_succ]
          refine wpAnyH_take (i := 7) (v := .pointer (some ⟨x, 0, none⟩)) rfl (by kernel_rfl) (by kernel_rfl) (by kernel_rfl) (fun _ _ _ h => h) (.inl ⟨by kernel_rfl, fun V _ => by go_simp⟩) trivial ?_
          simp only [Act.put, List.setIfInBounds_toArray, List.set_cons_zero, List.set_cons_succ]
          refine wpAnyH_take (i := 8) (v := .bool false) rfl (by kernel_rfl) (by kernel_rfl) (by kernel_rfl) (fun _ _ _ h => h) (.inl ⟨by kernel_rfl, fun V _ => by go_simp⟩) trivial ?_
          simp only [Act.put, List.setIfInBounds_toArray, List.set_cons_zero, List.set_cons_succ]
          refine wpAnyH_take (i := 9) (v := .bool false) rfl (by kernel_rfl) (by kernel_rfl) (by kernel_rfl) (fun _ _ _ h => h) (.inl ⟨by kernel_rfl, fun V _ => by go_simp⟩) trivial ?_
          simp only [Act.put, List.setIfInBounds_toArray, List.set_cons_zero, List.set_cons_succ]
          refine wpAnyH_take (i := 10) (v := .bool false) rfl (by kernel_rfl) (by kernel_rfl) (by kernel_rfl) (fun _ _ _ h => h) (.inl ⟨by kernel_rfl, fun V _ => by go_simp⟩) trivial ?_
          simp only [Act.put, List.setIfInBounds_toArray, List.set_cons_zero, List.set_cons_succ]
          refine wpAnyH_take (i := 11) (v := .pointer (some ⟨y, 0, none⟩)) rfl (by kernel_rfl) (by kernel_rfl) (by kernel_rfl) (fun _ _ _ h => h) (.inl ⟨by kernel_rfl, fun V _ => by go_simp⟩) trivial ?_
          simp only [Act.put, List.setIfInBounds_toArray, List.set_cons_zero, List.set_cons_succ]
          refine wpAnyH_take (i := 12) (v := .bool false) rfl (by kernel_rfl) (by kernel_rfl) (by kernel_rfl) (fun _ _ _ h => h) (.inl ⟨by kernel_rfl, fun V _ => by go_simp⟩) trivial ?_
          simp only [Act.put, List.setIfInBounds_toArray, List.set_cons_zero, List.set_cons_succ]
          refine wpAnyH_take (i := 13) (v := .bool false) rfl (by kernel_rfl) (by kernel_rfl) (by kernel_rfl) (fun _ _ _ h => h) (.inl ⟨by kernel_rfl, fun V _ => by go_simp⟩) trivial ?_
          simp only [Act.put, List.setIfInBounds_toArray, List.set_cons_zero, List.set_cons_succ]
          refine wpAnyH_take (i := 14) (v := .bool false) rfl (by kernel_rfl) (by kernel_rfl) (by kernel_rfl) (fun _ _ _ h => h) (.inl ⟨by kernel_rfl, fun V _ => by go_simp⟩) trivial ?_
          simp only [Act.put, List.setIfInBounds_toArray, List.set_cons_zero, List.set_cons_succ]
          refine wpAnyH_take (i := 15) (v := .pointer (some ⟨x, 0, none⟩)) rfl (by kernel_rfl) (by kernel_rfl) (by kernel_rfl) (fun _ _ _ h => h) (.inl ⟨by kernel_rfl, fun V _ => by go_simp⟩) trivial ?_
          simp only [Act.put, List.setIfInBounds_toArray, List.set_cons_zero, List.set_cons_succ]
          refine wpAnyH_take (i := 18) (v := .pointer (some ⟨y, 0, none⟩)) rfl (by kernel_rfl) (by kernel_rfl) (by kernel_rfl) (fun _ _ _ h => h) (.inl ⟨by kernel_rfl, fun V _ => by go_simp⟩) trivial ?_
          simp only [Act.put, List.setIfInBounds_toArray, List.set_cons_zero, List.set_cons_succ]
          refine wpAnyH_ready (rs := [16]) (by kernel_rfl) (by simp) ?_
          refine AllReadyH.cons rfl (fun K' hK => ?_) AllReadyH.nil
          go_simp
          refine (HTX.out _ HBD.out).mono ?_
          rintro e w12 ⟨v, rfl, hv, hb⟩
          obtain ⟨A12, c12, rfl, _, _, hr12, _⟩ := hv.shape_n rfl
          have RC12 := run_string hr12 _ c12 rfl
          have HB12 := Lib.hid (HBD.out.trans (hb.mono HBD.out.size))
          have HR12 := Lib.hid hr12
          clear hv hb hr12
          go_simp
          refine hK.out _ _ trivial (fun _ => ?_)
          clear hK K'
          refine wpAnyH_ready (rs := [17, 19]) (by kernel_rfl) (by simp) ?_
          refine AllReadyH.cons rfl (fun K' hK => ?_) (AllReadyH.cons rfl (fun K' hK => ?_) AllReadyH.nil)
          · go_simp
            refine hK.out _ _ trivial (fun _ => ?_)
            clear hK K'
            refine wpAnyH_ready (rs := [19]) (by kernel_rfl) (by simp) ?_
            refine AllReadyH.cons rfl (fun K' hK => ?_) AllReadyH.nil
            go_simp
            refine (HTY.out _ HB12.out).mono ?_
            rintro e w13 ⟨v, rfl, hv, hb⟩
            obtain ⟨A13, c13, rfl, _, _, hr13, _⟩ := hv.shape_n rfl
            have RC13 := run_string hr13 _ c13 rfl
            have RC14 := run_string (HR12.out.below hb) _ c12 rfl
            have HB13 := Lib.hid (HB12.out.trans (hb.mono HB12.out.size))
            clear hv hb hr13
            go_simp
            refine hK.out _ _ trivial (fun _ => ?_)
            clear hK K'
            refine wpAnyH_ready (rs := [20]) (by kernel_rfl) (by simp) ?_
            refine AllReadyH.cons rfl (fun K' hK => ?_) AllReadyH.nil
            go_simp
            refine hK.out _ _ trivial (fun _ => ?_)
            clear hK K'
            refine wpAnyH_take (i := 21) (v := .bool false) rfl (by kernel_rfl) (by kernel_rfl) (by kernel_rfl) (fun _ _ _ h => h) (.inl ⟨by kernel_rfl, fun V _ => by go_simp⟩) trivial ?_
            simp only [Act.put, List.setIfInBounds_toArray, List.set_cons_zero, List.set_cons_succ]
            refine wpAnyH_take (i := 22) (v := .bool false) rfl (by kernel_rfl) (by kernel_rfl) (by kernel_rfl) (fun _ _ _ h => h) (.inl ⟨by kernel_rfl, fun V _ => by go_simp⟩) trivial ?_
            simp only [Act.put, List.setIfInBounds_toArray, List.set_cons_zero, List.set_cons_succ]
            refine wpAnyH_take (i := 23) (v := .bool false) rfl (by kernel_rfl) (by kernel_rfl) (by kernel_rfl) (fun _ _ _ h => h) (.inl ⟨by kernel_rfl, fun V _ => by go_simp⟩) trivial ?_
            simp only [Act.put, List.setIfInBounds_toArray, List.set_cons_zero, List.set_cons_succ]
            refine wpAnyH_take (i := 24) (v := .pointer (some ⟨x, 0, none⟩)) rfl (by kernel_rfl) (by kernel_rfl) (by kernel_rfl) (fun _ _ _ h => h) (.inl ⟨by kernel_rfl, fun V _ => by go_simp⟩) trivial ?_
            simp only [Act.put, List.setIfInBounds_toArray, List.set_cons_zero, List.set_cons_succ]
            refine wpAnyH_take (i := 26) (v := .pointer (some ⟨y, 0, none⟩)) rfl (by kernel_rfl) (by kernel_rfl) (by kernel_rfl) (fun _ _ _ h => h) (.inl ⟨by kernel_rfl, fun V _ => by go_simp⟩) trivial ?_
            simp only [Act.put, List.setIfInBounds_toArray, List.set_cons_zero, List.set_cons_succ]
            refine wpAnyH_ready (rs := [25]) (by kernel_rfl) (by simp) ?_
            refine AllReadyH.cons rfl (fun K' hK => ?_) AllReadyH.nil
            go_simp
            refine (HNX.out _ HB13.out).mono ?_
            rintro e w13 ⟨rfl, rfl⟩
            go_simp
            refine hK.out _ _ trivial (fun _ => ?_)
            clear hK K'
            refine wpAnyH_ready (rs := [27]) (by kernel_rfl) (by simp) ?_
            refine AllReadyH.cons rfl (fun K' hK => ?_) AllReadyH.nil
            go_simp
            refine (HNY.out _ HB13.out).mono ?_
            rintro e w13 ⟨rfl, rfl⟩
            go_simp
            refine hK.out _ _ trivial (fun _ => ?_)
            clear hK K'
            refine wpAnyH_take (i := 28) (v := .bool false) rfl (by kernel_rfl) (by kernel_rfl) (by kernel_rfl) (fun _ _ _ h => h) (.inl ⟨by kernel_rfl, fun V _ => by go_simp⟩) trivial ?_
            simp only [Act.put, List.setIfInBounds_toArray, List.set_cons_zero, List.set_cons_succ]
            refine wpAnyH_take (i := 29) (v := .bool false) rfl (by kernel_rfl) (by kernel_rfl) (by kernel_rfl) (fun _ _ _ h => h) (.inl ⟨by kernel_rfl, fun V _ => by go_simp⟩) trivial ?_
            simp only [Act.put, List.setIfInBounds_toArray, List.set_cons_zero, List.set_cons_succ]
            refine wpAnyH_done (by kernel_rfl) ?_ _
            have HX13 := Lib.hid (HX11.out.below HB13.out)
            have HB14 : Hid (Below W.heap.size W w13) := Lib.hid (HB11.out.trans (HB13.out.mono HB11.out.size))
            have HTZ := Lib.hid (rtext_any w13 HX13.out (by omega))
            go_wp2_with fail
            refine HTZ.out.mono ?_
            rintro e w15 ⟨v, rfl, hv, hb⟩
            obtain ⟨A15, c15, rfl, _, _, hr15, _⟩ := hv.shape_n rfl
            have RC15 := run_string hr15 _ c15 rfl
            have HB15 : Hid (Below W.heap.size W w15) := Lib.hid (HB14.out.trans (hb.mono HB14.out.size))
            have RCB := run_string (HRBB.out.below HB15.out) nb cb HNB.out
            clear hv hb hr15
            rcases HFN.out with ⟨rfl, rfl, _⟩ | ⟨hne, rfl, _⟩ | ⟨rfl, rfl, _⟩
            · go_wp2
              go_ret
              exact ⟨rfl, HB15.out⟩
            · have hge : (gv == 0) = false := by rw [beq_eq_false_iff_ne]; exact hne
              clear hne
              go_wp2
              go_ret
              exact ⟨rfl, HB15.out⟩
            · go_wp2
              all_goals go_ret
              all_goals exact ⟨rfl, HB15.out⟩
          · go_simp
            refine (HTY.out _ HB12.out).mono ?_
            rintro e w13 ⟨v, rfl, hv, hb⟩
            obtain ⟨A13, c13, rfl, _, _, hr13, _⟩ := hv.shape_n rfl
            have RC13 := run_string hr13 _ c13 rfl
            have RC14 := run_string (HR12.out.below hb) _ c12 rfl
            have HB13 := Lib.hid (HB12.out.trans (hb.mono HB12.out.size))
            clear hv hb hr13
            go_simp
            refine hK.out _ _ trivial (fun _ => ?_)
            clear hK K'
            refine wpAnyH_ready (rs := [17, 20]) (by kernel_rfl) (by simp) ?_
            refine AllReadyH.cons rfl (fun K' hK => ?_) (AllReadyH.cons rfl (fun K' hK => ?_) AllReadyH.nil)
            · go_simp
              refine hK.out _ _ trivial (fun _ => ?_)
              clear hK K'
              refine wpAnyH_ready (rs := [20]) (by kernel_rfl) (by simp) ?_
              refine AllReadyH.cons rfl (fun K' hK => ?_) AllReadyH.nil
              go_simp
              refine hK.out _ _ trivial (fun _ => ?_)
              clear hK K'
              refine wpAnyH_take (i := 21) (v := .bool false) rfl (by kernel_rfl) (by kernel_rfl) (by kernel_rfl) (fun _ _ _ h => h) (.inl ⟨by kernel_rfl, fun V _ => by go_simp⟩) trivial ?_
              simp only [Act.put, List.setIfInBounds_toArray, List.set_cons_zero, List.set_cons_succ]
              refine wpAnyH_take (i := 22) (v := .bool false) rfl (by kernel_rfl) (by kernel_rfl) (by kernel_rfl) (fun _ _ _ h => h) (.inl ⟨by kernel_rfl, fun V _ => by go_simp⟩) trivial ?_
              simp only [Act.put, List.setIfInBounds_toArray, List.set_cons_zero, List.set_cons_succ]
              refine wpAnyH_take (i := 23) (v := .bool false) rfl (by kernel_rfl) (by kernel_rfl) (by kernel_rfl) (fun _ _ _ h => h) (.inl ⟨by kernel_rfl, fun V _ => by go_simp⟩) trivial ?_
              simp only [Act.put, List.setIfInBounds_toArray, List.set_cons_zero, List.set_cons_succ]
              refine wpAnyH_take (i := 24) (v := .pointer (some ⟨x, 0, none⟩)) rfl (by kernel_rfl) (by kernel_rfl) (by kernel_rfl) (fun _ _ _ h => h) (.inl ⟨by kernel_rfl, fun V _ => by go_simp⟩) trivial ?_
              simp only [Act.put, List.setIfInBounds_toArray, List.set_cons_zero, List.set_cons_succ]
              refine wpAnyH_take (i := 26) (v := .pointer (some ⟨y, 0, none⟩)) rfl (by kernel_rfl) (by kernel_rfl) (by kernel_rfl) (fun _ _ _ h => h) (.inl ⟨by kernel_rfl, fun V _ => by go_simp⟩) trivial ?_
              simp only [Act.put, List.setIfInBounds_toArray, List.set_cons_zero, List.set_cons_succ]
              refine wpAnyH_ready (rs := [25]) (by kernel_rfl) (by simp) ?_
              refine AllReadyH.cons rfl (fun K' hK => ?_) AllReadyH.nil
              go_simp
              refine (HNX.out _ HB13.out).mono ?_
              rintro e w13 ⟨rfl, rfl⟩
              go_simp
              refine hK.out _ _ trivial (fun _ => ?_)
              clear hK K'
              refine wpAnyH_ready (rs := [27]) (by kernel_rfl) (by simp) ?_
              refine AllReadyH.cons rfl (fun K' hK => ?_) AllReadyH.nil
              go_simp
              refine (HNY.out _ HB13.out).mono ?_
              rintro e w13 ⟨rfl, rfl⟩
              go_simp
              refine hK.out _ _ trivial (fun _ => ?_)
              clear hK K'
              refine wpAnyH_take (i := 28) (v := .bool false) rfl (by kernel_rfl) (by kernel_rfl) (by kernel_rfl) (fun _ _ _ h => h) (.inl ⟨by kernel_rfl, fun V _ => by go_simp⟩) trivial ?_
              simp only [Act.put, List.setIfInBounds_toArray, List.set_cons_zero, List.set_cons_succ]
              refine wpAnyH_take (i := 29) (v := .bool false) rfl (by kernel_rfl) (by kernel_rfl) (by kernel_rfl) (fun _ _ _ h => h) (.inl ⟨by kernel_rfl, fun V _ => by go_simp⟩) trivial ?_
              simp only [Act.put, List.setIfInBounds_toArray, List.set_cons_zero, List.set_cons_succ]
              refine wpAnyH_done (by kernel_rfl) ?_ _
              have HX13 := Lib.hid (HX11.out.below HB13.out)
              have HB14 : Hid (Below W.heap.size W w13) := Lib.hid (HB11.out.trans (HB13.out.mono HB11.out.size))
              have HTZ := Lib.hid (rtext_any w13 HX13.out (by omega))
              go_wp2_with fail
              refine HTZ.out.mono ?_
              rintro e w15 ⟨v, rfl, hv, hb⟩
              obtain ⟨A15, c15, rfl, _, _, hr15, _⟩ := hv.shape_n rfl
              have RC15 := run_string hr15 _ c15 rfl
              have HB15 : Hid (Below W.heap.size W w15) := Lib.hid (HB14.out.trans (hb.mono HB14.out.size))
              have RCB := run_string (HRBB.out.below HB15.out) nb cb HNB.out
              clear hv hb hr15
              rcases HFN.out with ⟨rfl, rfl, _⟩ | ⟨hne, rfl, _⟩ | ⟨rfl, rfl, _⟩
              · go_wp2
                go_ret
                exact ⟨rfl, HB15.out⟩
              · have hge : (gv == 0) = false := by rw [beq_eq_false_iff_ne]; exact hne
                clear hne
                go_wp2
                go_ret
                exact ⟨rfl, HB15.out⟩
              · go_wp2
                all_goals go_ret
                all_goals exact ⟨rfl, HB15.out⟩
            · go_simp
              refine hK.out _ _ trivial (fun _ => ?_)
              clear hK K'
              refine wpAnyH_ready (rs := [17]) (by kernel_rfl) (by simp) ?_
              refine AllReadyH.cons rfl (fun K' hK => ?_) AllReadyH.nil
              go_simp
              refine hK.out _ _ trivial (fun _ => ?_)
              clear hK K'
              refine wpAnyH_take (i := 21) (v := .bool false) rfl (by kernel_rfl) (by kernel_rfl) (by kernel_rfl) (fun _ _ _ h => h) (.inl ⟨by kernel_rfl, fun V _ => by go_simp⟩) trivial ?_
              simp only [Act.put, List.setIfInBounds_toArray, List.set_cons_zero, List.set_cons_succ]
              refine wpAnyH_take (i := 22) (v := .bool false) rfl (by kernel_rfl) (by kernel_rfl) (by kernel_rfl) (fun _ _ _ h => h) (.inl ⟨by kernel_rfl, fun V _ => by go_simp⟩) trivial ?_
              simp only [Act.put, List.setIfInBounds_toArray, List.set_cons_zero, List.set_cons_succ]
              refine wpAnyH_take (i := 23) (v := .bool false) rfl (by kernel_rfl) (by kernel_rfl) (by kernel_rfl) (fun _ _ _ h => h) (.inl ⟨by kernel_rfl, fun V _ => by go_simp⟩) trivial ?_
              simp only [Act.put, List.setIfInBounds_toArray, List.set_cons_zero, List.set_cons_succ]
              refine wpAnyH_take (i := 24) (v := .pointer (some ⟨x, 0, none⟩)) rfl (by kernel_rfl) (by kernel_rfl) (by kernel_rfl) (fun _ _ _ h => h) (.inl ⟨by kernel_rfl, fun V _ => by go_simp⟩) trivial ?_
              simp only [Act.put, List.setIfInBounds_toArray, List.set_cons_zero, List.set_cons_succ]
              refine wpAnyH_take (i := 26) (v := .pointer (some ⟨y, 0, none⟩)) rfl (by kernel_rfl) (by kernel_rfl) (by kernel_rfl) (fun _ _ _ h => h) (.inl ⟨by kernel_rfl, fun V _ => by go_simp⟩) trivial ?_
              simp only [Act.put, List.setIfInBounds_toArray, List.set_cons_zero, List.set_cons_succ]
              refine wpAnyH_ready (rs := [25]) (by kernel_rfl) (by simp) ?_
              refine AllReadyH.cons rfl (fun K' hK => ?_) AllReadyH.nil
              go_simp
              refine (HNX.out _ HB13.out).mono ?_
              rintro e w13 ⟨rfl, rfl⟩
              go_simp
              refine hK.out _ _ trivial (fun _ => ?_)
              clear hK K'
              refine wpAnyH_ready (rs := [27]) (by kernel_rfl) (by simp) ?_
              refine AllReadyH.cons rfl (fun K' hK => ?_) AllReadyH.nil
              go_simp
              refine (HNY.out _ HB13.out).mono ?_
              rintro e w13 ⟨rfl, rfl⟩
              go_simp
              refine hK.out _ _ trivial (fun _ => ?_)
              clear hK K'
              refine wpAnyH_take (i := 28) (v := .bool false) rfl (by kernel_rfl) (by kernel_rfl) (by kernel_rfl) (fun _ _ _ h => h) (.inl ⟨by kernel_rfl, fun V _ => by go_simp⟩) trivial ?_
              simp only [Act.put, List.setIfInBounds_toArray, List.set_cons_zero, List.set_cons_succ]
              refine wpAnyH_take (i := 29) (v := .bool false) rfl (by kernel_rfl) (by kernel_rfl) (by kernel_rfl) (fun _ _ _ h => h) (.inl ⟨by kernel_rfl, fun V _ => by go_simp⟩) trivial ?_
              simp only [Act.put, List.setIfInBounds_toArray, List.set_cons_zero, List.set_cons_succ]
              refine wpAnyH_done (by kernel_rfl) ?_ _
              have HX13 := Lib.hid (HX11.out.below HB13.out)
              have HB14 : Hid (Below W.heap.size W w13) := Lib.hid (HB11.out.trans (HB13.out.mono HB11.out.size))
              have HTZ := Lib.hid (rtext_any w13 HX13.out (by omega))
              go_wp2_with fail
              refine HTZ.out.mono ?_
              rintro e w15 ⟨v, rfl, hv, hb⟩
              obtain ⟨A15, c15, rfl, _, _, hr15, _⟩ := hv.shape_n rfl
              have RC15 := run_string hr15 _ c15 rfl
              have HB15 : Hid (Below W.heap.size W w15) := Lib.hid (HB14.out.trans (hb.mono HB14.out.size))
              have RCB := run_string (HRBB.out.below HB15.out) nb cb HNB.out
              clear hv hb hr15
              rcases HFN.out with ⟨rfl, rfl, _⟩ | ⟨hne, rfl, _⟩ | ⟨rfl, rfl, _⟩
              · go_wp2
                go_ret
                exact ⟨rfl, HB15.out⟩
              · have hge : (gv == 0) = false := by rw [beq_eq_false_iff_ne]; exact hne
                clear hne
                go_wp2
                go_ret
                exact ⟨rfl, HB15.out⟩
              · go_wp2
                all_goals go_ret
                all_goals exact ⟨rfl, HB15.out⟩
end Go.Proofs.YtcndkkagnobpmaaDoor
