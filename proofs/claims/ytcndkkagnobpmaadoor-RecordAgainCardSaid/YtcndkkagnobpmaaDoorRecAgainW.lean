/-
  The walk of the law RecordAgain.
-/
import Derived.Test.YtcndkkagnobpmaaDoorRecK1
import Derived.Deep.RegionHeld3
namespace Go.Proofs.YtcndkkagnobpmaaDoor
open Go.RowKit
attribute [local go_sem ↓] Go.wp_at_zero Go.wp_at_succ
set_option linter.unusedVariables false

/-- one thing that happens, of those that came in -/
structure Op5 where
  n : Int
  k : Int
  A : Option Addr
  c : Nat
  b : List UInt8
  Ak : Option Addr
  ck : Nat
  l : List (Int × Int)
def Op5At (w : World) (B : Nat) (ad : Addr) (i : Nat) (o : Op5) : Prop :=
  (ad.add (i * 5)).block < B ∧ w.cell? ⟨(ad.add (i * 5)).block, (ad.add (i * 5)).off + 1, none⟩ = some (.int .i64 o.n) ∧ w.cell? ⟨(ad.add (i * 5)).block, (ad.add (i * 5)).off + 2, none⟩ = some (.int .i64 o.k) ∧
  w.cell? ⟨(ad.add (i * 5)).block, (ad.add (i * 5)).off + 3, none⟩ = some (.slice o.A o.b.length o.c) ∧ w.cell? ⟨(ad.add (i * 5)).block, (ad.add (i * 5)).off + 4, none⟩ = some (.slice o.Ak o.l.length o.ck) ∧
  RB w o.A o.b ∧ o.b.length ≤ o.c ∧ o.c ≤ maxLen ∧ KptAt w B o.Ak o.l ∧ (Lit.int .i64 o.n).wf = true
theorem Op5At.below {w w' : World} {ad : Addr} {i : Nat} {o : Op5} {B : Nat} (h : Op5At w B ad i o) (hB : B = w.heap.size) (hb : Below B w w') : Op5At w' B ad i o := by
  obtain ⟨h0, h1, h2, h3, h4, h5, h6, h7, h8, h9⟩ := h
  subst hB
  exact ⟨h0, (hb.cell (p := ⟨(ad.add (i * 5)).block, _, none⟩) h0).trans h1, (hb.cell (p := ⟨(ad.add (i * 5)).block, _, none⟩) h0).trans h2, (hb.cell (p := ⟨(ad.add (i * 5)).block, _, none⟩) h0).trans h3, (hb.cell (p := ⟨(ad.add (i * 5)).block, _, none⟩) h0).trans h4, h5.below hb, h6, h7, h8.below hb, h9⟩
set_option maxRecDepth 100000 in
set_option maxHeartbeats 8000000 in
theorem recordAgain_walk (A : Option Addr) (nl c : Nat) (W : World) (hK : TabK W) (hnl : nl ≤ maxLen) (hops : ∀ i, i < nl → ∃ ad o, A = some ad ∧ Op5At W W.heap.size ad i o) :
    Calls Tryd.prog 6 #[.slice A nl c] W fun e w' => e = .returned (.bool true) ∧ Below W.heap.size W w' := by
  unfold maxLen at hnl
  have HN := Lib.hid (dnew_yes 12 W (by omega) (by omega))
  have HK := Lib.hid hK
  have HOPS := Lib.hid hops
  clear hK hops
  go_enter Tryd.func6, Tryd.ntmps6
  go_wp2_with fail
  refine HN.out.mono ?_
  rintro e w1 ⟨d, s, M, rfl, g1, g2, g3, hD, hb1⟩
  have HB1 := Lib.hid hb1
  have HGD : Hid (W.heap.size ≤ d ∧ W.heap.size ≤ s) := Lib.hid ⟨g1, g2⟩
  have HGM : Hid (W.heap.size ≤ M) := Lib.hid g3
  have HR1 : Hid (RecD w1 d s M 0 6 0 [] (Dk.zero 12)) := Lib.hid ⟨hD, by show (-1 : Int) < 0; omega, zero_dg (by omega) (by omega)⟩
  have HOP := Lib.hid (open_dg 12 w1 hD HR1.out.dg (TabK.below HK.out hb1) rfl)
  clear hD hb1 g1 g2 g3
  go_wp2_with fail
  refine HOP.out.mono ?_
  rintro e w2 ⟨r, rfl, hr, hR, hb2⟩
  have HB2 : Hid (Below W.heap.size W w2) := Lib.hid (HB1.out.trans (hb2.mono HB1.out.size))
  have HD2 := Lib.hid (HR1.out.below hb2)
  have HRG : Hid (W.heap.size ≤ r) := Lib.hid (Nat.le_trans HB1.out.size hr)
  have HLV := Lib.hid (rlives_any w2 (TabK.below HK.out HB2.out))
  have HRA2 := Lib.hid hR
  clear hr hR hb2 HOP
  go_wp2_with fail
  refine HLV.out.mono ?_
  rintro e w3 ⟨rfl, hb3⟩
  have HB3 : Hid (Below W.heap.size W w3) := Lib.hid (HB2.out.trans (hb3.mono HB2.out.size))
  have HD3 := Lib.hid (HD2.out.below hb3)
  have HRA3 := Lib.hid (HRA2.out.below hb3)
  clear hb3
  go_wp2
  go_loopw [5, 7, 8, 9] (fun a b v0 v wr => ∃ (k num r M : Nat) (T : List UInt8), k ≤ nl ∧ k ≤ 12 ∧ num ≤ k ∧ T.length ≤ 320 ∧ a = .pointer (some ⟨r, 0, none⟩) ∧ b = .string ⟨T.toArray⟩ ∧ v0 = .int .i64 (num : Int) ∧ v = .int .i64 (k : Int) ∧
    Hid (∃ K, RecD wr d s M 0 6 num T K) ∧ Hid (RecAt wr r d 0 6 num T false) ∧ Hid (Below W.heap.size W wr) ∧ Hid (W.heap.size ≤ r ∧ W.heap.size ≤ M)) (fun _ _ _ v _ => 12 - (intOf v).toNat)
  case atStart => exact ⟨0, 0, r, M, [], Nat.zero_le _, by omega, by omega, by simp, rfl, rfl, rfl, rfl, Lib.hid ⟨_, HD3.out⟩, HRA3, HB3, Lib.hid ⟨HRG.out, HGM.out⟩⟩
  case round =>
    clear HD3 HRA3 HB3 HRG HGM HRA2 HD2 HR1
    obtain ⟨k, num, r, M, T, hk, hk12, hnk, hT, rfl, rfl, rfl, rfl, HDX, HR, HB, HG⟩ := hrel
    obtain ⟨K, hDX⟩ := HDX.out
    have HD := Lib.hid hDX
    clear hDX HDX
    have HDS : Hid (∀ k, DS d s M k → W.heap.size ≤ k) := Lib.hid (fun k e => by
      have h1 := HGD.out
      have h2 := HG.out.2
      rcases e with rfl | rfl | rfl <;> omega)
    rcases (by omega : (k < nl ∧ k < 12) ∨ nl ≤ k ∨ (k < nl ∧ 12 ≤ k)) with ⟨h5, h6⟩ | h5 | ⟨h5, h6⟩
    · have b1 : decide ((k : Int) < (nl : Int)) = true := by rw [decide_eq_true_iff]; omega
      have b1' : decide (k < nl) = true := by rw [decide_eq_true_iff]; omega
      have b2 : decide ((k : Int) < 12) = true := by rw [decide_eq_true_iff]; omega
      have b2' : decide (k < 12) = true := by rw [decide_eq_true_iff]; omega
      obtain ⟨ad, o, rfl, hop⟩ := HOPS.out k h5
      have HOP5 := Lib.hid hop
      obtain ⟨nb, hnb⟩ : ∃ nb, nb = o.b.length := ⟨_, rfl⟩
      obtain ⟨nk, hnkk⟩ : ∃ nk, nk = o.l.length := ⟨_, rfl⟩
      have HNB : Hid (o.b.length = nb) := Lib.hid hnb.symm
      have HNK : Hid (o.l.length = nk) := Lib.hid hnkk.symm
      have hnkm : nb ≤ 9223372036854775807 := by
        have h1 := hop.2.2.2.2.2.2.1
        have h2 := hop.2.2.2.2.2.2.2.1
        unfold maxLen at h2
        omega
      have hcm2 : o.c ≤ 9223372036854775807 := by
        have h2 := hop.2.2.2.2.2.2.2.1
        unfold maxLen at h2
        omega
      have hbc : nb ≤ o.c := by rw [hnb]; exact hop.2.2.2.2.2.2.1
      have HPC : Hid (∀ V, Below W.heap.size W V → V.cell? ⟨(ad.add (k * 5)).block, (ad.add (k * 5)).off + 1, none⟩ = some (.int .i64 o.n) ∧ V.cell? ⟨(ad.add (k * 5)).block, (ad.add (k * 5)).off + 2, none⟩ = some (.int .i64 o.k) ∧
          V.cell? ⟨(ad.add (k * 5)).block, (ad.add (k * 5)).off + 3, none⟩ = some (.slice o.A nb o.c) ∧ V.cell? ⟨(ad.add (k * 5)).block, (ad.add (k * 5)).off + 4, none⟩ = some (.slice o.Ak nk o.ck) ∧ RB V o.A o.b ∧ KptAt V W.heap.size o.Ak o.l) := by
        refine Lib.hid (fun V hb => ?_)
        obtain ⟨h0, h1, h2, h3, h4, h5, h6, h7, h8, h9⟩ := HOP5.out.below rfl hb
        rw [hnb, hnkk]
        exact ⟨h1, h2, h3, h4, h5, h8⟩
      have hwf := wf_le hop.2.2.2.2.2.2.2.2.2
      obtain ⟨p1, p2, p3, p4, _, _⟩ := HPC.out wr HB.out
      clear hop hnb hnkk
      by_cases h20 : 20 < nk
      · have t2 : decide (20 < (nk : Int)) = true := by rw [decide_eq_true_iff]; omega
        have t2' : decide (20 < nk) = true := by rw [decide_eq_true_iff]; omega
        go_wp2
        go_roundw
        case rel => exact ⟨k + 1, num, r, M, T, by omega, by omega, by omega, by omega, rfl, rfl, rfl, by go_num, Lib.hid ⟨_, HD.out⟩, HR, HB, HG⟩
        case measure => simp [intOf]; omega
      · have t2 : decide (20 < (nk : Int)) = false := by rw [decide_eq_false_iff_not]; omega
        have t2' : decide (20 < nk) = false := by rw [decide_eq_false_iff_not]; omega
        have HST := Lib.hid (stop_any o.n o.k wr.drew HD.out.disk.drew hwf)
        go_wp2
        go_region_held3 (fun V => V.cell? ⟨(ad.add (k * 5)).block, (ad.add (k * 5)).off + 1, none⟩ = some (.int .i64 o.n) ∧ V.cell? ⟨(ad.add (k * 5)).block, (ad.add (k * 5)).off + 2, none⟩ = some (.int .i64 o.k))
          (first | exact ⟨p1, p2⟩ | exact hs6 | go_keep)
          (first | (go_at_call 20; refine HST.out.mono ?_; rintro e w6 ⟨rfl, hD6, hf6⟩; have HB6 : Hid (Below W.heap.size W w6) := Lib.hid (Fr.below_trans HB.out.drew hf6 HB.out.size (fun k e => HDS.out k (.inl e))); have hs6 := And.intro (HPC.out w6 HB6.out).1 (HPC.out w6 HB6.out).2.1; have HD6 := Lib.hid hD6; have HF6 := Lib.hid hf6; clear hD6 hf6))
        have HG6 := Lib.hid (HD.out.dg.stop o.n o.k)
        have HR6 : Hid (RecAt w6 r d 0 6 num T false) := Lib.hid ((HR.out.below ((Below.refl _ _).drew)).fr HF6.out (fun e => by
          obtain ⟨A5, c5, hb5, _⟩ := HR.out
          obtain ⟨cap, hb, _⟩ := HD.out.disk.blk
          exact hb5.ne_ hb (by decide) e) (fun g e _ => e ▸ HD.out.disk.drew.noBy d (.inl rfl)))
        generalize K.stop o.n o.k = K6 at HD6 HG6
        obtain ⟨_, _, q3, q4, _, _⟩ := HPC.out w6 HB6.out
        clear p1 p2 p3 p4 hs6 HST
        have HCO := Lib.hid (rcommit_k o.A nb o.c o.b w6 HD6.out HG6.out (TabK.below HK.out HB6.out) HR6.out (HPC.out w6 HB6.out).2.2.2.2.1 HNB.out hbc hcm2 (by omega) (by omega) (by omega) (by omega))
        go_wp2_with fail
        refine HCO.out.mono ?_
        rintro e w8 ⟨gv, K8, n8, rfl, hD8, hf8, hfin⟩
        have HB8 : Hid (Below W.heap.size W w8) := Lib.hid (Fr.below_trans HB6.out hf8 HB6.out.size (fun k e => e.elim (HDS.out k) (fun e => e ▸ HG.out.1)))
        have HD8 := Lib.hid hD8
        have HFI := Lib.hid hfin
        obtain ⟨_, _, q33, q44, _, _⟩ := HPC.out w8 HB8.out
        clear hD8 hf8 hfin HCO q3 q4
        have HCR := Lib.hid (crash_in W.heap.size o.Ak nk o.ck o.l w8 HD8.out HNK.out (by omega) (HPC.out w8 HB8.out).2.2.2.2.2 HB8.out.size HDS.out)
        go_wp2_with fail
        refine HCR.out.mono ?_
        rintro e w9 (⟨_, rfl, hb9⟩ | ⟨sure, M9, rfl, hlen, htook, hM9, hD9, hf9⟩)
        · have HB8b : Hid (Below W.heap.size W w9) := Lib.hid (HB8.out.trans (hb9.mono HB8.out.size))
          have HD8b := Lib.hid (HD8.out.below hb9)
          have HCN := Lib.hid (crash_in W.heap.size none 0 0 [] w9 HD8b.out rfl (by omega) (fun i p hp => by simp at hp) HB8b.out.size HDS.out)
          clear hb9 HCR
          go_wp2_with fail
          refine HCN.out.mono ?_
          rintro e w9 (⟨hne, _⟩ | ⟨sure, M9, rfl, hlen, htook, hM9, hD9, hf9⟩)
          · exact absurd rfl hne
          have HB9 : Hid (Below W.heap.size W w9) := Lib.hid (Fr.below_trans HB8b.out hf9 HB8b.out.size HDS.out)
          have HM9 : Hid (W.heap.size ≤ M9) := Lib.hid (Nat.le_trans HB8b.out.size hM9)
          have HD9 := Lib.hid hD9
          obtain ⟨N9, T9, hg9, hfin9, hT9⟩ := HFI.out sure hlen htook hD9.full
          have HG9 := Lib.hid hg9
          have HFN := Lib.hid hfin9
          have hT99 : T9.length ≤ 320 := hT9
          clear hg9 hfin9 hT9 HFI hlen htook hM9 hD9 hf9
          have HOPX := Lib.hid (open_dg 12 w9 HD9.out HG9.out (TabK.below HK.out HB9.out) rfl)
          go_wp2_with fail
          refine HOPX.out.mono ?_
          rintro e w10 ⟨x, rfl, hx, hX, hb⟩
          have HB10 : Hid (Below W.heap.size W w10) := Lib.hid (HB9.out.trans (hb.mono HB9.out.size))
          have HD10 := Lib.hid (HD9.out.below hb)
          have HX10 := Lib.hid hX
          have HXG : Hid (W.heap.size ≤ x) := Lib.hid (Nat.le_trans HB9.out.size hx)
          clear hx hX hb HOPX
          have HNX := Lib.hid (rnumber_any w10 HX10.out)
          have HTX := Lib.hid (rtext_any w10 HX10.out (by omega))
          obtain ⟨_, _, q5, _, qr, _⟩ := HPC.out w10 HB10.out
          have RCB := run_string qr nb o.c HNB.out
          clear qr q33 q44
          rcases HFN.out with ⟨rfl, rfl, rfl⟩ | ⟨hne, rfl, rfl⟩ | ⟨rfl, rfl, rfl⟩
          · have u1 : decide ((num : Int) + 1 < (num : Int)) = false := by rw [decide_eq_false_iff_not]; omega
            have u2 : ((num : Int) + 1 == (num : Int)) = false := by rw [beq_eq_false_iff_ne]; omega
            have u3 : ¬ ((num : Int) + 1 = (num : Int)) := by omega
            go_wp2_with fail
            refine HTX.out.mono ?_
            rintro e w11 ⟨v, rfl, hv, hb⟩
            obtain ⟨A11, c11, rfl, _, _, hr11, _⟩ := hv.shape_n rfl
            have RC11 := run_string hr11 _ c11 rfl
            have HB11 : Hid (Below W.heap.size W w11) := Lib.hid (HB10.out.trans (hb.mono HB10.out.size))
            have HD11 := Lib.hid (HD10.out.below hb)
            have HX11 := Lib.hid (HX10.out.below hb)
            have HN11 := Lib.hid (rnumber_any w11 HX11.out)
            clear hv hb hr11
            go_wp2_with fail
            refine HN11.out.mono ?_
            rintro e w11 ⟨rfl, rfl⟩
            go_wp2_with fail
            refine HN11.out.mono ?_
            rintro e w11 ⟨rfl, rfl⟩
            go_wp2_with fail
            refine HN11.out.mono ?_
            rintro e w11 ⟨rfl, rfl⟩
            go_wp2_with fail
            refine HN11.out.mono ?_
            rintro e w11 ⟨rfl, rfl⟩
            go_wp2
            go_roundw
            case rel => exact ⟨k + 1, num + 1, x, M9, _, by omega, by omega, by omega, hT99, rfl, rfl, by go_num, by go_num, Lib.hid ⟨_, ⟨HD11.out, (by show (-1 : Int) < 0; omega), HG9.out⟩⟩, HX11, HB11, Lib.hid ⟨HXG.out, HM9.out⟩⟩
            case measure => simp [intOf]; omega
          · have hge : (gv == 0) = false := by rw [beq_eq_false_iff_ne]; exact hne
            clear hne
            go_wp2_with fail
            refine HNX.out.mono ?_
            rintro e w10 ⟨rfl, rfl⟩
            go_wp2_with fail
            refine HTX.out.mono ?_
            rintro e w11 ⟨v, rfl, hv, hb⟩
            obtain ⟨A11, c11, rfl, _, _, hr11, _⟩ := hv.shape_n rfl
            have RC11 := run_string hr11 _ c11 rfl
            have HB11 : Hid (Below W.heap.size W w11) := Lib.hid (HB10.out.trans (hb.mono HB10.out.size))
            have HD11 := Lib.hid (HD10.out.below hb)
            have HX11 := Lib.hid (HX10.out.below hb)
            have HN11 := Lib.hid (rnumber_any w11 HX11.out)
            clear hv hb hr11
            go_wp2_with fail
            refine HN11.out.mono ?_
            rintro e w11 ⟨rfl, rfl⟩
            go_wp2_with fail
            refine HN11.out.mono ?_
            rintro e w11 ⟨rfl, rfl⟩
            go_wp2_with fail
            refine HN11.out.mono ?_
            rintro e w11 ⟨rfl, rfl⟩
            go_wp2
            go_roundw
            case rel => exact ⟨k + 1, _, x, M9, _, by omega, by omega, by omega, hT99, rfl, rfl, by go_num, by go_num, Lib.hid ⟨_, ⟨HD11.out, (by show (-1 : Int) < 0; omega), HG9.out⟩⟩, HX11, HB11, Lib.hid ⟨HXG.out, HM9.out⟩⟩
            case measure => simp [intOf]; omega
          · have u1 : decide ((num : Int) < (num : Int) + 1) = true := by rw [decide_eq_true_iff]; omega
            have u2 : decide ((num : Int) + 1 < (num : Int)) = false := by rw [decide_eq_false_iff_not]; omega
            go_wp2_with fail
            refine HNX.out.mono ?_
            rintro e w10 ⟨rfl, rfl⟩
            go_wp2_with fail
            refine HTX.out.mono ?_
            rintro e w11 ⟨v, rfl, hv, hb⟩
            obtain ⟨A11, c11, rfl, _, _, hr11, _⟩ := hv.shape_n rfl
            have RC11 := run_string hr11 _ c11 rfl
            have HB11 : Hid (Below W.heap.size W w11) := Lib.hid (HB10.out.trans (hb.mono HB10.out.size))
            have HD11 := Lib.hid (HD10.out.below hb)
            have HX11 := Lib.hid (HX10.out.below hb)
            have HN11 := Lib.hid (rnumber_any w11 HX11.out)
            clear hv hb hr11
            go_wp2_with fail
            refine HN11.out.mono ?_
            rintro e w11 ⟨rfl, rfl⟩
            go_wp2_with fail
            refine HN11.out.mono ?_
            rintro e w11 ⟨rfl, rfl⟩
            go_wp2_with fail
            refine HN11.out.mono ?_
            rintro e w11 ⟨rfl, rfl⟩
            go_wp2
            go_roundw
            case rel => exact ⟨k + 1, num + 1, x, M9, _, by omega, by omega, by omega, hT99, rfl, rfl, by go_num, by go_num, Lib.hid ⟨_, ⟨HD11.out, (by show (-1 : Int) < 0; omega), HG9.out⟩⟩, HX11, HB11, Lib.hid ⟨HXG.out, HM9.out⟩⟩
            case measure => simp [intOf]; omega
        · have HB9 : Hid (Below W.heap.size W w9) := Lib.hid (Fr.below_trans HB8.out hf9 HB8.out.size HDS.out)
          have HM9 : Hid (W.heap.size ≤ M9) := Lib.hid (Nat.le_trans HB8.out.size hM9)
          have HD9 := Lib.hid hD9
          obtain ⟨N9, T9, hg9, hfin9, hT9⟩ := HFI.out sure hlen htook hD9.full
          have HG9 := Lib.hid hg9
          have HFN := Lib.hid hfin9
          have hT99 : T9.length ≤ 320 := hT9
          clear hg9 hfin9 hT9 HFI hlen htook hM9 hD9 hf9
          have HOPX := Lib.hid (open_dg 12 w9 HD9.out HG9.out (TabK.below HK.out HB9.out) rfl)
          go_wp2_with fail
          refine HOPX.out.mono ?_
          rintro e w10 ⟨x, rfl, hx, hX, hb⟩
          have HB10 : Hid (Below W.heap.size W w10) := Lib.hid (HB9.out.trans (hb.mono HB9.out.size))
          have HD10 := Lib.hid (HD9.out.below hb)
          have HX10 := Lib.hid hX
          have HXG : Hid (W.heap.size ≤ x) := Lib.hid (Nat.le_trans HB9.out.size hx)
          clear hx hX hb HOPX
          have HNX := Lib.hid (rnumber_any w10 HX10.out)
          have HTX := Lib.hid (rtext_any w10 HX10.out (by omega))
          obtain ⟨_, _, q5, _, qr, _⟩ := HPC.out w10 HB10.out
          have RCB := run_string qr nb o.c HNB.out
          clear qr q33 q44
          rcases HFN.out with ⟨rfl, rfl, rfl⟩ | ⟨hne, rfl, rfl⟩ | ⟨rfl, rfl, rfl⟩
          · have u1 : decide ((num : Int) + 1 < (num : Int)) = false := by rw [decide_eq_false_iff_not]; omega
            have u2 : ((num : Int) + 1 == (num : Int)) = false := by rw [beq_eq_false_iff_ne]; omega
            have u3 : ¬ ((num : Int) + 1 = (num : Int)) := by omega
            go_wp2_with fail
            refine HTX.out.mono ?_
            rintro e w11 ⟨v, rfl, hv, hb⟩
            obtain ⟨A11, c11, rfl, _, _, hr11, _⟩ := hv.shape_n rfl
            have RC11 := run_string hr11 _ c11 rfl
            have HB11 : Hid (Below W.heap.size W w11) := Lib.hid (HB10.out.trans (hb.mono HB10.out.size))
            have HD11 := Lib.hid (HD10.out.below hb)
            have HX11 := Lib.hid (HX10.out.below hb)
            have HN11 := Lib.hid (rnumber_any w11 HX11.out)
            clear hv hb hr11
            go_wp2_with fail
            refine HN11.out.mono ?_
            rintro e w11 ⟨rfl, rfl⟩
            go_wp2_with fail
            refine HN11.out.mono ?_
            rintro e w11 ⟨rfl, rfl⟩
            go_wp2_with fail
            refine HN11.out.mono ?_
            rintro e w11 ⟨rfl, rfl⟩
            go_wp2_with fail
            refine HN11.out.mono ?_
            rintro e w11 ⟨rfl, rfl⟩
            go_wp2
            go_roundw
            case rel => exact ⟨k + 1, num + 1, x, M9, _, by omega, by omega, by omega, hT99, rfl, rfl, by go_num, by go_num, Lib.hid ⟨_, ⟨HD11.out, (by show (-1 : Int) < 0; omega), HG9.out⟩⟩, HX11, HB11, Lib.hid ⟨HXG.out, HM9.out⟩⟩
            case measure => simp [intOf]; omega
          · have hge : (gv == 0) = false := by rw [beq_eq_false_iff_ne]; exact hne
            clear hne
            go_wp2_with fail
            refine HNX.out.mono ?_
            rintro e w10 ⟨rfl, rfl⟩
            go_wp2_with fail
            refine HTX.out.mono ?_
            rintro e w11 ⟨v, rfl, hv, hb⟩
            obtain ⟨A11, c11, rfl, _, _, hr11, _⟩ := hv.shape_n rfl
            have RC11 := run_string hr11 _ c11 rfl
            have HB11 : Hid (Below W.heap.size W w11) := Lib.hid (HB10.out.trans (hb.mono HB10.out.size))
            have HD11 := Lib.hid (HD10.out.below hb)
            have HX11 := Lib.hid (HX10.out.below hb)
            have HN11 := Lib.hid (rnumber_any w11 HX11.out)
            clear hv hb hr11
            go_wp2_with fail
            refine HN11.out.mono ?_
            rintro e w11 ⟨rfl, rfl⟩
            go_wp2_with fail
            refine HN11.out.mono ?_
            rintro e w11 ⟨rfl, rfl⟩
            go_wp2_with fail
            refine HN11.out.mono ?_
            rintro e w11 ⟨rfl, rfl⟩
            go_wp2
            go_roundw
            case rel => exact ⟨k + 1, _, x, M9, _, by omega, by omega, by omega, hT99, rfl, rfl, by go_num, by go_num, Lib.hid ⟨_, ⟨HD11.out, (by show (-1 : Int) < 0; omega), HG9.out⟩⟩, HX11, HB11, Lib.hid ⟨HXG.out, HM9.out⟩⟩
            case measure => simp [intOf]; omega
          · have u1 : decide ((num : Int) < (num : Int) + 1) = true := by rw [decide_eq_true_iff]; omega
            have u2 : decide ((num : Int) + 1 < (num : Int)) = false := by rw [decide_eq_false_iff_not]; omega
            go_wp2_with fail
            refine HNX.out.mono ?_
            rintro e w10 ⟨rfl, rfl⟩
            go_wp2_with fail
            refine HTX.out.mono ?_
            rintro e w11 ⟨v, rfl, hv, hb⟩
            obtain ⟨A11, c11, rfl, _, _, hr11, _⟩ := hv.shape_n rfl
            have RC11 := run_string hr11 _ c11 rfl
            have HB11 : Hid (Below W.heap.size W w11) := Lib.hid (HB10.out.trans (hb.mono HB10.out.size))
            have HD11 := Lib.hid (HD10.out.below hb)
            have HX11 := Lib.hid (HX10.out.below hb)
            have HN11 := Lib.hid (rnumber_any w11 HX11.out)
            clear hv hb hr11
            go_wp2_with fail
            refine HN11.out.mono ?_
            rintro e w11 ⟨rfl, rfl⟩
            go_wp2_with fail
            refine HN11.out.mono ?_
            rintro e w11 ⟨rfl, rfl⟩
            go_wp2_with fail
            refine HN11.out.mono ?_
            rintro e w11 ⟨rfl, rfl⟩
            go_wp2
            go_roundw
            case rel => exact ⟨k + 1, num + 1, x, M9, _, by omega, by omega, by omega, hT99, rfl, rfl, by go_num, by go_num, Lib.hid ⟨_, ⟨HD11.out, (by show (-1 : Int) < 0; omega), HG9.out⟩⟩, HX11, HB11, Lib.hid ⟨HXG.out, HM9.out⟩⟩
            case measure => simp [intOf]; omega
    · have b1 : decide ((k : Int) < (nl : Int)) = false := by rw [decide_eq_false_iff_not]; omega
      have b1' : decide (k < nl) = false := by rw [decide_eq_false_iff_not]; omega
      go_wp2
      go_ret
      exact ⟨rfl, HB.out⟩
    · have b1 : decide ((k : Int) < (nl : Int)) = true := by rw [decide_eq_true_iff]; omega
      have b1' : decide (k < nl) = true := by rw [decide_eq_true_iff]; omega
      have b2 : decide ((k : Int) < 12) = false := by rw [decide_eq_false_iff_not]; omega
      have b2' : decide (k < 12) = false := by rw [decide_eq_false_iff_not]; omega
      go_wp2
      go_ret
      exact ⟨rfl, HB.out⟩
end Go.Proofs.YtcndkkagnobpmaaDoor
