/-
  pursuivantlaw23.lives.
-/
import Derived.Test.YtgpcinfhcamgpaaGreatDoorStL2
import Derived.Test.YtgpcinfhcamgpaaGreatDoorStG1
import Derived.Test.YtgpcinfhcamgpaaGreatDoorStS2
import Derived.Test.YtgpcinfhcamgpaaGreatDoorStW4
import Derived.Test.YtgpcinfhcamgpaaGreatDoorStE3
import Derived.Test.YtgpcinfhcamgpaaGreatDoorStD5
import Derived.Deep.RegionHeld3
import Derived.Deep.DrawnRows
import Derived.Handy
namespace Go.Proofs.YtgpcinfhcamgpaaGreatDoor
open Go.RowKit Glob
attribute [local go_sem ↓] Go.wp_at_zero Go.wp_at_succ
set_option linter.unusedVariables false
set_option linter.unusedSimpArgs false

theorem may_r (fok gok : List UInt8 → Bool) (z : List UInt8) (h : z.length ≤ 1048576) : mayS fok gok ⟨z, [], [], [], []⟩ = true := by simp [mayS, risF, upF, h]
theorem dec_x : decP fnameL pathL [120] = none := by kernel_rfl
theorem none_len16 : (stB Sta.none).length = 16 := by kernel_rfl
theorem one_get : getF (oneS [120]).tg ⟨#[116, 97, 114, 103, 101, 116, 115, 46, 106, 115, 111, 110]⟩ = some [120] := by kernel_rfl
set_option maxRecDepth 100000 in
set_option maxHeartbeats 16000000 in
theorem slives_any (w : World) (hK : TabK w) (hT : Tab w) : Calls Tryz.prog 9 #[] w fun e w' => e = .returned (.bool true) ∧ Below w.heap.size w w' := by
  have HN := Lib.hid (dnew_yes 20 w (by omega) (by omega))
  have HK := Lib.hid hK
  have HT := Lib.hid hT
  have HONE := Lib.hid (fun V => one_any [120] V (Nat.le_of_ble_eq_true rfl))
  unfold OnePost at HONE
  have HGL : Hid ((2 : Nat) < w.heap.size) := Lib.hid hT.1
  clear hK hT
  go_enter Tryz.func9, Tryz.ntmps9
  go_wp2_with fail
  refine HN.out.mono ?_
  rintro e w1 ⟨d, s, M, rfl, g1, g2, g3, hD, hb1⟩
  have HB1 := Lib.hid hb1
  have HDS : Hid (∀ k, DS d s M k → w.heap.size ≤ k) := Lib.hid (fun k e => by rcases e with rfl | rfl | rfl <;> assumption)
  have HD1 : Hid (RecD w1 d s M 0 10 0 [] (Dk.zero 20)) := Lib.hid ⟨hD, by show (-1 : Int) < 0; omega, zero_dg (by omega) (by omega)⟩
  have HOP := Lib.hid (sopen_any Sta.none w1 hD HD1.out.dg (TabK.below HK.out hb1) (Tab.below HT.out hb1) (by simp [Dk.zero]) (by simp [Dk.zero]) (.inl ⟨rfl, rfl⟩) (by simp))
  unfold OpenP at HOP
  clear hD hb1 g1 g2 g3 HN
  go_wp2_with fail
  refine HOP.out.mono ?_
  rintro e w2 ⟨p, r, x0, rfl, hp, hr, hSA, hsta, hR, hb2⟩
  have HB2 : Hid (Below w.heap.size w w2) := Lib.hid (HB1.out.trans (hb2.mono HB1.out.size))
  have HD2 := Lib.hid (HD1.out.below hb2)
  have HSA2 := Lib.hid hSA
  have HR2 := Lib.hid hR
  have HGR : Hid (w.heap.size ≤ r) := Lib.hid (Nat.le_trans HB1.out.size hr)
  have HGP : Hid (w.heap.size ≤ p) := Lib.hid (Nat.le_trans HB1.out.size hp)
  have HS0 := Lib.hid hsta
  have HST := Lib.hid (sstate_any p r x0 w2 hSA (HT.out.below HB2.out))
  unfold ClonePost at HST
  clear hp hr hSA hsta hR hb2 HOP
  go_wp2_with fail
  refine HST.out.mono ?_
  rintro e w3 ⟨x1, rfl, hx1, hty, hsm, hb3⟩
  have HB3 : Hid (Below w.heap.size w w3) := Lib.hid (HB2.out.trans (hb3.mono HB2.out.size))
  have HD3 := Lib.hid (HD2.out.below hb3)
  have HSA3 := Lib.hid (HSA2.out.below hb3)
  have HR3 := Lib.hid (HR2.out.below hb3)
  have hsame := rsame_any x1 SV.none w3 hty.at_ (SAt.none w3) hsm SM.none
  rw [decide_eq_true (by rw [hx1, HS0.out]; rfl)] at hsame
  have HSAME : Hid (Calls Tryz.prog 15 #[x1.v, .agg #[.slice none 0 0, .slice none 0 0, .slice none 0 0, .slice none 0 0, .slice none 0 0]] w3 fun e w' => e = .returned (.bool true) ∧ Below w3.heap.size w3 w') := Lib.hid hsame
  clear hx1 hty hsm hb3 hsame HST
  go_wp2_with fail
  refine HSAME.out.mono ?_
  rintro e w4 ⟨rfl, hb4⟩
  have HB4 : Hid (Below w.heap.size w w4) := Lib.hid (HB3.out.trans (hb4.mono HB3.out.size))
  have HD4 := Lib.hid (HD3.out.below hb4)
  have HSA4 := Lib.hid (HSA3.out.below hb4)
  have HR4 := Lib.hid (HR3.out.below hb4)
  clear hb4 HSAME
  go_wp2_with fail
  refine (HONE.out w4).mono ?_
  rintro e w5 ⟨xo, rfl, hxo, hty, hsm, hb5⟩
  have HB5 : Hid (Below w.heap.size w w5) := Lib.hid (HB4.out.trans (hb5.mono HB4.out.size))
  have HD5 := Lib.hid (HD4.out.below hb5)
  have HSA5 := Lib.hid (HSA4.out.below hb5)
  have HR5 := Lib.hid (HR4.out.below hb5)
  have HXO := Lib.hid hxo
  have HTYO := Lib.hid hty
  have hlo : (stB xo.sta).length = 50 := by rw [hxo]; exact one_len
  have HCM := Lib.hid (scommit_dg xo w5 HD5.out (fun e => by
      have h1 := HGL.out
      rcases e with e | e
      · have := HDS.out _ e; omega
      · have := HGR.out; omega) (TabK.below HK.out HB5.out) (Tab.below HT.out HB5.out) HSA5.out HR5.out (fun V hf => (HTYO.out.fr hf (fun g e => e.elim (HD5.out.disk.noBF g) (fun e => by subst e; exact HR5.out.noBF))).at_) hsm (by rw [hxo]; exact one_may) (by omega) (by omega) (by omega) ⟨by omega, by omega⟩)
  unfold SDPost at HCM
  clear hb5 hty hsm hlo hxo
  go_wp2_with fail
  refine HCM.out.mono ?_
  rintro e w6 ⟨rfl, ⟨K6, hD6, hl6⟩, hR6, hf6, ⟨y6, hSA6, hy6⟩⟩
  have HB6 : Hid (Below w.heap.size w w6) := Lib.hid (Fr.below_trans HB5.out hf6 HB5.out.size (fun k e => e.elim (HDS.out k) (fun e => e.elim (fun e => e ▸ HGR.out) (fun e => e ▸ HGP.out))))
  rw [HXO.out] at hD6 hR6 hy6
  have HR6 : Hid (RecAt w6 r d 0 10 1 (stB (oneS [120])) false) := Lib.hid hR6
  have HD6 : Hid (RecD w6 d s M 0 10 1 (stB (oneS [120])) K6) := Lib.hid hD6
  have HSA6 := Lib.hid hSA6
  have hOP := sopen_any (oneS [120]) w6 HD6.out.disk HD6.out.dg (TabK.below HK.out HB6.out) (Tab.below HT.out HB6.out) (by rw [hl6]; simp [Dk.zero]) (by rw [hl6]; simp [Dk.zero]) (.inr ⟨one_may, rfl⟩) (by rw [one_len]; omega)
  unfold OpenP at hOP
  have HOP := Lib.hid hOP
  clear hD6 hl6 hR6 hf6 hSA6 hy6 hOP HCM HD2 HD3 HD4 HD5 HSA2 HSA3 HSA4 HSA5 HR2 HR3 HR4 HR5 HTYO HXO HD1 HS0
  go_wp2_with fail
  refine HOP.out.mono ?_
  rintro e w7 ⟨p2, r2, x2, rfl, -, -, hSA, hsta, hR, hb7⟩
  have HB7 : Hid (Below w.heap.size w w7) := Lib.hid (HB6.out.trans (hb7.mono HB6.out.size))
  have HR7 := Lib.hid (HR6.out.below hb7)
  have HD7 := Lib.hid (HD6.out.below hb7)
  have HSA7 := Lib.hid (HSA6.out.below hb7)
  have HSB7 := Lib.hid hSA
  have HX2 := Lib.hid hsta
  clear hSA hsta hR hb7 HOP
  go_wp2_with fail
  refine (HONE.out w7).mono ?_
  rintro e w8 ⟨xa, rfl, hxa, hty, hsm, hb8⟩
  have HB8 : Hid (Below w.heap.size w w8) := Lib.hid (HB7.out.trans (hb8.mono HB7.out.size))
  have HR8 := Lib.hid (HR7.out.below hb8)
  have HD8 := Lib.hid (HD7.out.below hb8)
  have HSA8 := Lib.hid (HSA7.out.below hb8)
  have HSB8 := Lib.hid (HSB7.out.below hb8)
  have hE := encode_yes xa w8 hty.at_ hsm (Tab.below HT.out HB8.out) (by rw [hxa]; exact one_may) (by rw [hxa, one_len]; omega)
  rw [hxa] at hE
  have HE := Lib.hid hE
  clear hxa hty hsm hb8 hE
  go_wp2_with fail
  refine HE.out.mono ?_
  rintro e w9 ⟨v9, rfl, hv9, hb9⟩
  obtain ⟨A9, c9, rfl, _, _, hr9, _⟩ := hv9.shape_n one_len
  have HB9 : Hid (Below w.heap.size w w9) := Lib.hid (HB8.out.trans (hb9.mono HB8.out.size))
  have HR9 := Lib.hid (HR8.out.below hb9)
  have HD9 := Lib.hid (HD8.out.below hb9)
  have HSA9 := Lib.hid (HSA8.out.below hb9)
  have HSB9 := Lib.hid (HSB8.out.below hb9)
  have hDE := decode_any A9 50 c9 (stB (oneS [120])) w9 hr9 one_len (by omega) (Tab.below HT.out HB9.out)
  unfold DecPost at hDE
  have HDE := Lib.hid hDE
  clear hv9 hb9 hr9 hDE HE HR6 HD6 HR7 HD7 HR8 HD8 HSA6 HSA7 HSA8 HSB7 HSB8
  go_wp2_with fail
  refine HDE.out.mono ?_
  rintro e w10 ⟨hb10, ⟨x3, hx3, rfl, hty3, hsm3⟩ | ⟨hno, _⟩⟩
  case inr => exact absurd (decP_enc fname_size path_size (oneS [120]) one_may) (by rw [hno]; exact fun h => by cases h)
  have HB10 : Hid (Below w.heap.size w w10) := Lib.hid (HB9.out.trans (hb10.mono HB9.out.size))
  have HR10 := Lib.hid (HR9.out.below hb10)
  have HD10 := Lib.hid (HD9.out.below hb10)
  have HSA10 := Lib.hid (HSA9.out.below hb10)
  have HSB10 := Lib.hid (HSB9.out.below hb10)
  have HX3 : Hid (x3.sta = oneS [120]) := Lib.hid (by
    rw [decP_enc fname_size path_size (oneS [120]) one_may] at hx3
    injection hx3 with hx3
    exact hx3.symm)
  have HTY10 := Lib.hid hty3
  have HSM3 := Lib.hid hsm3
  obtain ⟨b0, m0, d0, b1, m1, d1, b2, m2, d2, b3, m3, d3, b4, m4, d4, hxv, -⟩ := x3.five
  have HXV := Lib.hid hxv
  rw [hxv]
  have HA : Hid (Below w10.heap.size w10 (w10.alloc (.cells #[.slice none 0 0, .slice none 0 0, .slice none 0 0, .slice none 0 0, .slice none 0 0] 25))) := Lib.hid ((Below.refl _ _).alloc (Nat.le_refl _) _)
  have HBA : Hid (Blk (w10.alloc (.cells #[.slice none 0 0, .slice none 0 0, .slice none 0 0, .slice none 0 0, .slice none 0 0] 25)) w10.heap.size 25 #[.slice none 0 0, .slice none 0 0, .slice none 0 0, .slice none 0 0, .slice none 0 0]) := Lib.hid (Blk.new _ _ _)
  have HTA := Lib.hid (HTY10.out.below HA.out)
  have HF : Hid (Blk (w10.alloc (.cells #[.slice b0 m0 d0, .slice b1 m1 d1, .slice b2 m2 d2, .slice b3 m3 d3, .slice b4 m4 d4] 25)) w10.heap.size 25 #[.slice b0 m0 d0, .slice b1 m1 d1, .slice b2 m2 d2, .slice b3 m3 d3, .slice b4 m4 d4]) := Lib.hid (Blk.new _ _ _)
  have HTF : Hid (STy (w10.alloc (.cells #[.slice b0 m0 d0, .slice b1 m1 d1, .slice b2 m2 d2, .slice b3 m3 d3, .slice b4 m4 d4] 25)) x3) := Lib.hid (HTY10.out.below ((Below.refl _ _).alloc (Nat.le_refl _) _))
  have HBF : Hid (Below w10.heap.size w10 (w10.alloc (.cells #[.slice b0 m0 d0, .slice b1 m1 d1, .slice b2 m2 d2, .slice b3 m3 d3, .slice b4 m4 d4] 25))) := Lib.hid ((Below.refl _ _).alloc (Nat.le_refl _) _)
  have e10 : (w10.alloc (.cells #[.slice b0 m0 d0, .slice b1 m1 d1, .slice b2 m2 d2, .slice b3 m3 d3, .slice b4 m4 d4] 25)).heap.size = w10.heap.size + 1 := by simp
  obtain ⟨W10, hW10⟩ : ∃ W, W = (w10.alloc (.cells #[.slice b0 m0 d0, .slice b1 m1 d1, .slice b2 m2 d2, .slice b3 m3 d3, .slice b4 m4 d4] 25)).alloc (.cells #[.int .u8 120] 5 (1, 2)) := ⟨_, rfl⟩
  have k10 : (convert 22 22 (.slice (some ⟨w10.heap.size + 1, 0, none⟩) 1 1)).run Tryz.prog ((w10.alloc (.cells #[.slice b0 m0 d0, .slice b1 m1 d1, .slice b2 m2 d2, .slice b3 m3 d3, .slice b4 m4 d4] 25)).alloc (.cells #[.int .u8 120] 5)) = .ok (.slice (some ⟨w10.heap.size + 1, 0, none⟩) 1 1) W10 := by
    have h := Lib.run_convert_bytes_const (P := Tryz.prog) (w10.alloc (.cells #[.slice b0 m0 d0, .slice b1 m1 d1, .slice b2 m2 d2, .slice b3 m3 d3, .slice b4 m4 d4] 25)) 22 5 #[.int .u8 120] 1 1 Tryz.underlying22 Tryz.underlying5
    rw [e10] at h
    rw [hW10]
    exact h
  have HL10 : Hid (Below (w10.alloc (.cells #[.slice b0 m0 d0, .slice b1 m1 d1, .slice b2 m2 d2, .slice b3 m3 d3, .slice b4 m4 d4] 25)).heap.size (w10.alloc (.cells #[.slice b0 m0 d0, .slice b1 m1 d1, .slice b2 m2 d2, .slice b3 m3 d3, .slice b4 m4 d4] 25)) W10) := Lib.hid (by rw [hW10]; exact (Below.refl _ _).alloc (Nat.le_refl _) _)
  have HRB : Hid (RB W10 (some ⟨w10.heap.size + 1, 0, none⟩) [120]) := Lib.hid (by
    have h := lit_rbf (w10.alloc (.cells #[.slice b0 m0 d0, .slice b1 m1 d1, .slice b2 m2 d2, .slice b3 m3 d3, .slice b4 m4 d4] 25)) [120] #[.int .u8 120] (1, 2) rfl
    rw [e10] at h
    rw [hW10]
    exact h)
  have HB10t : Hid (Below w10.heap.size w10 W10) := Lib.hid (HBF.out.trans (HL10.out.mono HBF.out.size))
  have HB11 : Hid (Below w.heap.size w W10) := Lib.hid (HB10.out.trans (HB10t.out.mono HB10.out.size))
  have HR11 := Lib.hid (HR10.out.below HB10t.out)
  have HD11 := Lib.hid (HD10.out.below HB10t.out)
  have HSA11 := Lib.hid (HSA10.out.below HB10t.out)
  have HSB11 := Lib.hid (HSB10.out.below HB10t.out)
  have HF11 : Hid (Blk W10 w10.heap.size 25 #[.slice b0 m0 d0, .slice b1 m1 d1, .slice b2 m2 d2, .slice b3 m3 d3, .slice b4 m4 d4]) := Lib.hid (HF.out.below HL10.out HF.out.lt)
  have HTF11 := Lib.hid (HTF.out.below HL10.out)
  have hDX := decode_any (some ⟨w10.heap.size + 1, 0, none⟩) 1 1 [120] W10 HRB.out rfl (by omega) (Tab.below HT.out HB11.out)
  unfold DecPost at hDX
  have HDX := Lib.hid hDX
  clear hb10 hx3 hty3 hsm3 hxv e10 hW10 hDX
  go_wp2_with fail
  refine HDX.out.mono ?_
  rintro e w12 ⟨hb12, ⟨x4, hx4, _⟩ | ⟨_, rfl⟩⟩
  case inl => rw [dec_x] at hx4; cases hx4
  clear HF HTF HBF HRB HL10 k10 HDX HA HBA HTA HTY10 HDE HR9 HD9 HR10 HD10 HSA9 HSA10 HSB9 HSB10
  rw [show SV.none.v = .agg #[.slice none 0 0, .slice none 0 0, .slice none 0 0, .slice none 0 0, .slice none 0 0] from rfl]
  have HB12 : Hid (Below w.heap.size w w12) := Lib.hid (HB11.out.trans (hb12.mono HB11.out.size))
  have HA : Hid (Below w12.heap.size w12 (w12.alloc (.cells #[.slice none 0 0, .slice none 0 0, .slice none 0 0, .slice none 0 0, .slice none 0 0] 25))) := Lib.hid ((Below.refl _ _).alloc (Nat.le_refl _) _)
  have HBA : Hid (Blk (w12.alloc (.cells #[.slice none 0 0, .slice none 0 0, .slice none 0 0, .slice none 0 0, .slice none 0 0] 25)) w12.heap.size 25 #[.slice none 0 0, .slice none 0 0, .slice none 0 0, .slice none 0 0, .slice none 0 0]) := Lib.hid (Blk.new _ _ _)
  have HBF : Hid (Below w12.heap.size w12 (w12.alloc (.cells #[.slice none 0 0, .slice none 0 0, .slice none 0 0, .slice none 0 0, .slice none 0 0] 25))) := Lib.hid ((Below.refl _ _).alloc (Nat.le_refl _) _)
  have HB13 : Hid (Below W10.heap.size W10 (w12.alloc (.cells #[.slice none 0 0, .slice none 0 0, .slice none 0 0, .slice none 0 0, .slice none 0 0] 25))) := Lib.hid (hb12.trans (HBF.out.mono hb12.size))
  have HB13w : Hid (Below w.heap.size w (w12.alloc (.cells #[.slice none 0 0, .slice none 0 0, .slice none 0 0, .slice none 0 0, .slice none 0 0] 25))) := Lib.hid (HB11.out.trans (HB13.out.mono HB11.out.size))
  have HR13 := Lib.hid (HR11.out.below HB13.out)
  have HD13 := Lib.hid (HD11.out.below HB13.out)
  have HSA13 := Lib.hid (HSA11.out.below HB13.out)
  have HSB13 := Lib.hid (HSB11.out.below HB13.out)
  have HF13 := Lib.hid (HF11.out.below HB13.out HF11.out.lt)
  have HTF13 := Lib.hid (HTF11.out.below HB13.out)
  have hEN := encode_yes SV.none (w12.alloc (.cells #[.slice none 0 0, .slice none 0 0, .slice none 0 0, .slice none 0 0, .slice none 0 0] 25)) (SAt.none _) SM.none (Tab.below HT.out HB13w.out) (mayS_none _ _) (by rw [SV.none_sta, none_len16]; omega)
  have HEN : Hid (Calls Tryz.prog 10 #[.agg #[.slice none 0 0, .slice none 0 0, .slice none 0 0, .slice none 0 0, .slice none 0 0]] (w12.alloc (.cells #[.slice none 0 0, .slice none 0 0, .slice none 0 0, .slice none 0 0, .slice none 0 0] 25)) fun e w' => ∃ v, e = .returned (.tuple #[v, .int .i64 0]) ∧ OB w' (w12.alloc (.cells #[.slice none 0 0, .slice none 0 0, .slice none 0 0, .slice none 0 0, .slice none 0 0] 25)).heap.size v (stB Sta.none) ∧ Below (w12.alloc (.cells #[.slice none 0 0, .slice none 0 0, .slice none 0 0, .slice none 0 0, .slice none 0 0] 25)).heap.size (w12.alloc (.cells #[.slice none 0 0, .slice none 0 0, .slice none 0 0, .slice none 0 0, .slice none 0 0] 25)) w') := Lib.hid hEN
  clear hb12 hEN HBF
  go_wp2_with fail
  refine HEN.out.mono ?_
  rintro e w14 ⟨v14, rfl, hv14, hb14⟩
  obtain ⟨A14, c14, rfl, _, _, _, _⟩ := hv14.shape_n none_len16
  have HB14 : Hid (Below w.heap.size w w14) := Lib.hid (HB13w.out.trans (hb14.mono HB13w.out.size))
  have HR14 := Lib.hid (HR13.out.below hb14)
  have HD14 := Lib.hid (HD13.out.below hb14)
  have HSA14 := Lib.hid (HSA13.out.below hb14)
  have HSB14 := Lib.hid (HSB13.out.below hb14)
  have HF14 := Lib.hid (HF13.out.below hb14 HF13.out.lt)
  have HTF14 := Lib.hid (HTF13.out.below hb14)
  clear hv14 hb14 HEN HA HBA HR11 HD11 HR13 HD13 HSA11 HSA13 HSB11 HSB13 HF11 HF13 HTF11 HTF13 HB13 HB13w HB11 HB12 HB10t
  go_wp2_with fail
  refine (HONE.out w14).mono ?_
  rintro e w15 ⟨xg, rfl, hxg, hty, hsm, hb15⟩
  have HB15 : Hid (Below w.heap.size w w15) := Lib.hid (HB14.out.trans (hb15.mono HB14.out.size))
  have HR15 := Lib.hid (HR14.out.below hb15)
  have HD15 := Lib.hid (HD14.out.below hb15)
  have HSA15 := Lib.hid (HSA14.out.below hb15)
  have HSB15 := Lib.hid (HSB14.out.below hb15)
  have HF15 := Lib.hid (HF14.out.below hb15 HF14.out.lt)
  have HTF15 := Lib.hid (HTF14.out.below hb15)
  have htg : fiL xg.tg = (oneS [120]).tg := congrArg Sta.tg hxg
  have hlen : xg.tg.length = 1 := by have h := congrArg List.length htg; rw [fiL_len] at h; exact h
  rw [show xg.v = .agg #[.slice xg.r.A xg.r.l.length xg.r.c, .slice xg.t.A xg.t.l.length xg.t.c, .slice xg.s.A xg.s.l.length xg.s.c, .slice xg.tA 1 xg.tc, .slice xg.iA xg.ins.length xg.ic] from by rw [← hlen]; rfl]
  have hG := get_any xg.tA 1 xg.tc xg.tg ⟨#[116, 97, 114, 103, 101, 116, 115, 46, 106, 115, 111, 110]⟩ w15 hty.at_.tg hlen (by omega) (fun f hf => by
    have h1 : (⟨f.nm, f.b⟩ : Fi) ∈ fiL xg.tg := List.mem_map.2 ⟨f, hf, rfl⟩
    rw [htg] at h1
    obtain h2 := List.mem_singleton.1 h1
    injection h2 with _ h3
    rw [h3]
    exact Nat.le_of_ble_eq_true rfl)
  have RF : ∀ (v0 v1 v2 v3 v4 : Value) W, (Instr.field 25 (.agg #[v0, v1, v2, v3, v4]) 3).run Tryz.prog W = .ok v3 W := fun v0 v1 v2 v3 v4 W => rfl
  unfold GetPost at hG
  rw [htg, one_get] at hG
  have HG := Lib.hid hG
  clear hxg hty hsm hb15 htg hlen hG HR14 HD14 HSA14 HSB14 HF14 HTF14
  go_wp2_with fail
  refine HG.out.mono ?_
  rintro e w16 ⟨hb16, ⟨bb, v16, hbb, rfl, hv16⟩ | ⟨hno, _⟩⟩
  case inr => cases hno
  injection hbb with hbb
  subst hbb
  obtain ⟨A16, c16, rfl, _, _, hr16, _⟩ := hv16.shape_n (show ([120] : List UInt8).length = 1 from rfl)
  have HB16 : Hid (Below w.heap.size w w16) := Lib.hid (HB15.out.trans (hb16.mono HB15.out.size))
  have HR16 := Lib.hid (HR15.out.below hb16)
  have HD16 := Lib.hid (HD15.out.below hb16)
  have HSA16 := Lib.hid (HSA15.out.below hb16)
  have HSB16 := Lib.hid (HSB15.out.below hb16)
  have HF16 := Lib.hid (HF15.out.below hb16 HF15.out.lt)
  have HTF16 := Lib.hid (HTF15.out.below hb16)
  have HTB16 := Lib.hid (Tab.below HT.out HB16.out)
  have HKB16 := Lib.hid (TabK.below HK.out HB16.out)
  have HRC : Hid (∀ V, Below w16.heap.size w16 V → (convert 22 9 (.slice A16 1 c16)).run Tryz.prog V = .ok (.string ⟨#[120]⟩) V) := Lib.hid (fun V hV => run_string (hr16.below hV) 1 c16 rfl)
  have HCL : Hid (∀ (i : Nat) V, Below w16.heap.size w16 V → V.cell? ⟨w10.heap.size, i, none⟩ = (#[.slice b0 m0 d0, .slice b1 m1 d1, .slice b2 m2 d2, .slice b3 m3 d3, .slice b4 m4 d4] : Array Value)[i]?) := Lib.hid (fun i V hV => (HF16.out.below hV HF16.out.lt).cell i)
  obtain ⟨Q, hQ⟩ : ∃ Q, Q = madeCells #[Value.int .u8 0] 600 := ⟨_, rfl⟩
  have RM : ∀ w, (Instr.makeSlice 22 (.int .i64 600) (.int .i64 600)).run Tryz.prog w = .ok (.slice (some ⟨w.heap.size, 0, none⟩) 600 600) (w.alloc (.cells Q 5)) := fun w => by
    rw [hQ]
    exact run_make_bytes 600 (by omega) w
  obtain ⟨z, hz⟩ : ∃ z, z = List.replicate 600 (0 : UInt8) := ⟨_, rfl⟩
  have HQZ : Hid (Q = (Lib.byteCells z).toArray) := Lib.hid (by rw [hQ, hz]; exact made_zeros 600)
  have HZL : Hid (z.length = 600) := Lib.hid (by rw [hz, List.length_replicate])
  clear hb16 hv16 hr16 hQ hz HR15 HD15 HSA15 HSB15 HF15 HTF15 HG
  go_wp2
  refine wp_region_held_drew (S := fun V => Below w16.heap.size w16 V) (by kernel_rfl) ((Below.refl _ _).drew) (fun hS1 => ?_)
  refine wpAnyH_take (i := 0) (oi := ⟨some 79, _, _, _, _, _⟩) (v := .int .i64 0) rfl (by kernel_rfl) (by kernel_rfl) (by kernel_rfl) (fun _ _ _ h => h) (.inl ⟨by kernel_rfl, fun V hS => by go_simp⟩) hS1 ?_
  simp only [Act.put, List.setIfInBounds_toArray, List.set_cons_zero, List.set_cons_succ]
  refine wpAnyH_take (i := 1) (oi := ⟨some 80, _, _, _, _, _⟩) (v := .bool true) rfl (by kernel_rfl) (by kernel_rfl) (by kernel_rfl) (fun _ _ _ h => h) (.inl ⟨by kernel_rfl, fun V hS => by go_simp⟩) hS1 ?_
  simp only [Act.put, List.setIfInBounds_toArray, List.set_cons_zero, List.set_cons_succ]
  refine wpAnyH_take (i := 2) (oi := ⟨some 81, _, _, _, _, _⟩) (v := .bool true) rfl (by kernel_rfl) (by kernel_rfl) (by kernel_rfl) (fun _ _ _ h => h) (.inl ⟨by kernel_rfl, fun V hS => by go_simp⟩) hS1 ?_
  simp only [Act.put, List.setIfInBounds_toArray, List.set_cons_zero, List.set_cons_succ]
  refine wpAnyH_take (i := 3) (oi := ⟨some 82, _, _, _, _, _⟩) (v := .int .i64 0) rfl (by kernel_rfl) (by kernel_rfl) (by kernel_rfl) (fun _ _ _ h => h) (.inl ⟨by kernel_rfl, fun V hS => by go_simp⟩) hS1 ?_
  simp only [Act.put, List.setIfInBounds_toArray, List.set_cons_zero, List.set_cons_succ]
  refine wpAnyH_take (i := 4) (oi := ⟨some 83, _, _, _, _, _⟩) (v := .bool true) rfl (by kernel_rfl) (by kernel_rfl) (by kernel_rfl) (fun _ _ _ h => h) (.inl ⟨by kernel_rfl, fun V hS => by go_simp⟩) hS1 ?_
  simp only [Act.put, List.setIfInBounds_toArray, List.set_cons_zero, List.set_cons_succ]
  refine wpAnyH_take (i := 5) (oi := ⟨some 84, _, _, _, _, _⟩) (v := .bool true) rfl (by kernel_rfl) (by kernel_rfl) (by kernel_rfl) (fun _ _ _ h => h) (.inl ⟨by kernel_rfl, fun V hS => by go_simp⟩) hS1 ?_
  simp only [Act.put, List.setIfInBounds_toArray, List.set_cons_zero, List.set_cons_succ]
  refine wpAnyH_take (i := 6) (oi := ⟨some 85, _, _, _, _, _⟩) (v := .bool true) rfl (by kernel_rfl) (by kernel_rfl) (by kernel_rfl) (fun _ _ _ h => h) (.inl ⟨by kernel_rfl, fun V hS => by go_simp⟩) hS1 ?_
  simp only [Act.put, List.setIfInBounds_toArray, List.set_cons_zero, List.set_cons_succ]
  refine wpAnyH_take (i := 7) (oi := ⟨some 86, _, _, _, _, _⟩) (v := .pointer (some ⟨p2, 0, none⟩)) rfl (by kernel_rfl) (by kernel_rfl) (by kernel_rfl) (fun _ _ _ h => h) (.inl ⟨by kernel_rfl, fun V hS => by go_simp⟩) hS1 ?_
  simp only [Act.put, List.setIfInBounds_toArray, List.set_cons_zero, List.set_cons_succ]
  refine wpAnyH_take (i := 8) (oi := ⟨some 87, _, _, _, _, _⟩) (v := .bool true) rfl (by kernel_rfl) (by kernel_rfl) (by kernel_rfl) (fun _ _ _ h => h) (.inl ⟨by kernel_rfl, fun V hS => by go_simp⟩) hS1 ?_
  simp only [Act.put, List.setIfInBounds_toArray, List.set_cons_zero, List.set_cons_succ]
  refine wpAnyH_take (i := 9) (oi := ⟨some 88, _, _, _, _, _⟩) (v := .bool true) rfl (by kernel_rfl) (by kernel_rfl) (by kernel_rfl) (fun _ _ _ h => h) (.inl ⟨by kernel_rfl, fun V hS => by go_simp⟩) hS1 ?_
  simp only [Act.put, List.setIfInBounds_toArray, List.set_cons_zero, List.set_cons_succ]
  refine wpAnyH_take (i := 10) (oi := ⟨some 89, _, _, _, _, _⟩) (v := .bool true) rfl (by kernel_rfl) (by kernel_rfl) (by kernel_rfl) (fun _ _ _ h => h) (.inl ⟨by kernel_rfl, fun V hS => by go_simp⟩) hS1 ?_
  simp only [Act.put, List.setIfInBounds_toArray, List.set_cons_zero, List.set_cons_succ]
  refine wpAnyH_take (i := 11) (oi := ⟨some 90, _, _, _, _, _⟩) (v := .pointer (some ⟨p2, 0, none⟩)) rfl (by kernel_rfl) (by kernel_rfl) (by kernel_rfl) (fun _ _ _ h => h) (.inl ⟨by kernel_rfl, fun V hS => by go_simp⟩) hS1 ?_
  simp only [Act.put, List.setIfInBounds_toArray, List.set_cons_zero, List.set_cons_succ]
  refine wpAnyH_ready (rs := [12]) (by kernel_rfl) (by simp) ?_
  refine AllReadyH.cons rfl (fun K' hK => ?_) AllReadyH.nil
  go_simp
  refine (sstate_any p2 r2 x2 _ (HSB16.out.below hS1) (HTB16.out.below hS1)).mono ?_
  rintro e v1 ⟨y1, rfl, hy1, hty1, hmy1, hb1⟩
  go_simp
  refine hK.out _ _ ((hS1).trans (hb1.mono (hS1).size)) (fun hS2 => ?_)
  clear hK K' hS1
  refine wpAnyH_ready (rs := [13]) (by kernel_rfl) (by simp) ?_
  refine AllReadyH.cons rfl (fun K' hK => ?_) AllReadyH.nil
  go_simp
  refine (HONE.out _).mono ?_
  rintro e v2 ⟨y2, rfl, hy2, hty2, hmy2, hby2⟩
  go_simp
  refine hK.out _ _ ((hS2).trans (hby2.mono (hS2).size)) (fun hS3 => ?_)
  clear hK K' hS2
  refine wpAnyH_ready (rs := [14]) (by kernel_rfl) (by simp) ?_
  refine AllReadyH.cons rfl (fun K' hK => ?_) AllReadyH.nil
  go_simp
  have hs := rsame_any y1 y2 v2 (hty1.at_.below hby2) hty2.at_ hmy1 hmy2
  rw [decide_eq_true (by rw [hy1, HX2.out, hy2])] at hs
  refine hs.mono ?_
  rintro e v3 ⟨rfl, hb3⟩
  clear hs hty1 hmy1 hby2 hty2 hmy2 hy1 hy2
  go_simp
  refine hK.out _ _ ((hS3).trans (hb3.mono (hS3).size)) (fun hS4 => ?_)
  clear hK K' hS3
  refine wpAnyH_take (i := 15) (oi := ⟨some 94, _, _, _, _, _⟩) (v := .bool true) rfl (by kernel_rfl) (by kernel_rfl) (by kernel_rfl) (fun _ _ _ h => h) (.inl ⟨by kernel_rfl, fun V hS => by go_simp⟩) hS4 ?_
  simp only [Act.put, List.setIfInBounds_toArray, List.set_cons_zero, List.set_cons_succ]
  refine wpAnyH_take (i := 16) (oi := ⟨some 95, _, _, _, _, _⟩) (v := .bool true) rfl (by kernel_rfl) (by kernel_rfl) (by kernel_rfl) (fun _ _ _ h => h) (.inl ⟨by kernel_rfl, fun V hS => by go_simp⟩) hS4 ?_
  simp only [Act.put, List.setIfInBounds_toArray, List.set_cons_zero, List.set_cons_succ]
  refine wpAnyH_take (i := 17) (oi := ⟨some 96, _, _, _, _, _⟩) (v := .int .i64 0) rfl (by kernel_rfl) (by kernel_rfl) (by kernel_rfl) (fun _ _ _ h => h) (.inl ⟨by kernel_rfl, fun V hS => by go_simp⟩) hS4 ?_
  simp only [Act.put, List.setIfInBounds_toArray, List.set_cons_zero, List.set_cons_succ]
  refine wpAnyH_take (i := 18) (oi := ⟨some 97, _, _, _, _, _⟩) (v := .bool true) rfl (by kernel_rfl) (by kernel_rfl) (by kernel_rfl) (fun _ _ _ h => h) (.inl ⟨by kernel_rfl, fun V hS => by go_simp⟩) hS4 ?_
  simp only [Act.put, List.setIfInBounds_toArray, List.set_cons_zero, List.set_cons_succ]
  refine wpAnyH_take (i := 19) (oi := ⟨some 98, _, _, _, _, _⟩) (v := .bool true) rfl (by kernel_rfl) (by kernel_rfl) (by kernel_rfl) (fun _ _ _ h => h) (.inl ⟨by kernel_rfl, fun V hS => by go_simp⟩) hS4 ?_
  simp only [Act.put, List.setIfInBounds_toArray, List.set_cons_zero, List.set_cons_succ]
  refine wpAnyH_take (i := 20) (oi := ⟨some 99, _, _, _, _, _⟩) (v := .bool true) rfl (by kernel_rfl) (by kernel_rfl) (by kernel_rfl) (fun _ _ _ h => h) (.inl ⟨by kernel_rfl, fun V hS => by go_simp⟩) hS4 ?_
  simp only [Act.put, List.setIfInBounds_toArray, List.set_cons_zero, List.set_cons_succ]
  refine wpAnyH_take (i := 21) (oi := ⟨some 100, _, _, _, _, _⟩) (v := .int .i64 0) rfl (by kernel_rfl) (by kernel_rfl) (by kernel_rfl) (fun _ _ _ h => h) (.inl ⟨by kernel_rfl, fun V hS => by go_simp⟩) hS4 ?_
  simp only [Act.put, List.setIfInBounds_toArray, List.set_cons_zero, List.set_cons_succ]
  refine wpAnyH_take (i := 22) (oi := ⟨some 101, _, _, _, _, _⟩) (v := .bool true) rfl (by kernel_rfl) (by kernel_rfl) (by kernel_rfl) (fun _ _ _ h => h) (.inl ⟨by kernel_rfl, fun V hS => by go_simp⟩) hS4 ?_
  simp only [Act.put, List.setIfInBounds_toArray, List.set_cons_zero, List.set_cons_succ]
  refine wpAnyH_take (i := 23) (oi := ⟨some 102, _, _, _, _, _⟩) (v := .bool true) rfl (by kernel_rfl) (by kernel_rfl) (by kernel_rfl) (fun _ _ _ h => h) (.inl ⟨by kernel_rfl, fun V hS => by go_simp⟩) hS4 ?_
  simp only [Act.put, List.setIfInBounds_toArray, List.set_cons_zero, List.set_cons_succ]
  refine wpAnyH_take (i := 24) (oi := ⟨some 103, _, _, _, _, _⟩) (v := .bool true) rfl (by kernel_rfl) (by kernel_rfl) (by kernel_rfl) (fun _ _ _ h => h) (.inl ⟨by kernel_rfl, fun V hS => by go_simp⟩) hS4 ?_
  simp only [Act.put, List.setIfInBounds_toArray, List.set_cons_zero, List.set_cons_succ]
  refine wpAnyH_take (i := 25) (oi := ⟨some 104, _, _, _, _, _⟩) (v := .agg #[.slice b0 m0 d0, .slice b1 m1 d1, .slice b2 m2 d2, .slice b3 m3 d3, .slice b4 m4 d4]) rfl (by kernel_rfl) (by kernel_rfl) (by kernel_rfl) (fun _ _ _ h => h) (.inl ⟨by kernel_rfl, fun V hS => by have h0 := HCL.out 0 V hS; have h1 := HCL.out 1 V hS; have h2 := HCL.out 2 V hS; have h3 := HCL.out 3 V hS; have h4 := HCL.out 4 V hS; simp only [List.getElem?_toArray, List.getElem?_cons_zero, List.getElem?_cons_succ] at h0 h1 h2 h3 h4; go_simp⟩) hS4 ?_
  simp only [Act.put, List.setIfInBounds_toArray, List.set_cons_zero, List.set_cons_succ]
  refine wpAnyH_ready (rs := [26]) (by kernel_rfl) (by simp) ?_
  refine AllReadyH.cons rfl (fun K' hK => ?_) AllReadyH.nil
  go_simp
  refine (HONE.out _).mono ?_
  rintro e v4 ⟨y4, rfl, hy4, hty4, hmy4, hby4⟩
  go_simp
  refine hK.out _ _ ((hS4).trans (hby4.mono (hS4).size)) (fun hS5 => ?_)
  clear hK K' hS4
  refine wpAnyH_ready (rs := [27]) (by kernel_rfl) (by simp) ?_
  refine AllReadyH.cons rfl (fun K' hK => ?_) AllReadyH.nil
  go_simp
  have hs := rsame_any x3 y4 v4 (HTF16.out.below hS5).at_ hty4.at_ HSM3.out hmy4
  rw [decide_eq_true (by rw [HX3.out, hy4]), HXV.out] at hs
  refine hs.mono ?_
  rintro e v5 ⟨rfl, hbv5⟩
  clear hs hty4 hmy4 hy4 hby4
  go_simp
  refine hK.out _ _ ((hS5).trans (hbv5.mono (hS5).size)) (fun hS6 => ?_)
  clear hK K' hS5
  refine wpAnyH_take (i := 28) (oi := ⟨some 107, _, _, _, _, _⟩) (v := .bool true) rfl (by kernel_rfl) (by kernel_rfl) (by kernel_rfl) (fun _ _ _ h => h) (.inl ⟨by kernel_rfl, fun V hS => by go_simp⟩) hS6 ?_
  simp only [Act.put, List.setIfInBounds_toArray, List.set_cons_zero, List.set_cons_succ]
  refine wpAnyH_take (i := 29) (oi := ⟨some 108, _, _, _, _, _⟩) (v := .bool true) rfl (by kernel_rfl) (by kernel_rfl) (by kernel_rfl) (fun _ _ _ h => h) (.inl ⟨by kernel_rfl, fun V hS => by go_simp⟩) hS6 ?_
  simp only [Act.put, List.setIfInBounds_toArray, List.set_cons_zero, List.set_cons_succ]
  refine wpAnyH_take (i := 30) (oi := ⟨some 109, _, _, _, _, _⟩) (v := .int .i64 230) rfl (by kernel_rfl) (by kernel_rfl) (by kernel_rfl) (fun _ _ _ h => h) (.inl ⟨by kernel_rfl, fun V hS => by go_simp⟩) hS6 ?_
  simp only [Act.put, List.setIfInBounds_toArray, List.set_cons_zero, List.set_cons_succ]
  refine wpAnyH_take (i := 31) (oi := ⟨some 110, _, _, _, _, _⟩) (v := .bool true) rfl (by kernel_rfl) (by kernel_rfl) (by kernel_rfl) (fun _ _ _ h => h) (.inl ⟨by kernel_rfl, fun V hS => by go_simp⟩) hS6 ?_
  simp only [Act.put, List.setIfInBounds_toArray, List.set_cons_zero, List.set_cons_succ]
  refine wpAnyH_take (i := 32) (oi := ⟨some 111, _, _, _, _, _⟩) (v := .bool true) rfl (by kernel_rfl) (by kernel_rfl) (by kernel_rfl) (fun _ _ _ h => h) (.inl ⟨by kernel_rfl, fun V hS => by go_simp⟩) hS6 ?_
  simp only [Act.put, List.setIfInBounds_toArray, List.set_cons_zero, List.set_cons_succ]
  refine wpAnyH_take (i := 33) (oi := ⟨some 112, _, _, _, _, _⟩) (v := .bool true) rfl (by kernel_rfl) (by kernel_rfl) (by kernel_rfl) (fun _ _ _ h => h) (.inl ⟨by kernel_rfl, fun V hS => by go_simp⟩) hS6 ?_
  simp only [Act.put, List.setIfInBounds_toArray, List.set_cons_zero, List.set_cons_succ]
  refine wpAnyH_take (i := 34) (oi := ⟨some 113, _, _, _, _, _⟩) (v := .slice A14 16 c14) rfl (by kernel_rfl) (by kernel_rfl) (by kernel_rfl) (fun _ _ _ h => h) (.inl ⟨by kernel_rfl, fun V hS => by go_simp⟩) hS6 ?_
  simp only [Act.put, List.setIfInBounds_toArray, List.set_cons_zero, List.set_cons_succ]
  refine wpAnyH_take (i := 35) (oi := ⟨some 114, _, _, _, _, _⟩) (v := .int .i64 16) rfl (by kernel_rfl) (by kernel_rfl) (by kernel_rfl) (fun _ _ _ h => h) (.inl ⟨by kernel_rfl, fun V hS => by go_simp⟩) hS6 ?_
  simp only [Act.put, List.setIfInBounds_toArray, List.set_cons_zero, List.set_cons_succ]
  refine wpAnyH_take (i := 36) (oi := ⟨some 115, _, _, _, _, _⟩) (v := .bool true) rfl (by kernel_rfl) (by kernel_rfl) (by kernel_rfl) (fun _ _ _ h => h) (.inl ⟨by kernel_rfl, fun V hS => by go_simp⟩) hS6 ?_
  simp only [Act.put, List.setIfInBounds_toArray, List.set_cons_zero, List.set_cons_succ]
  refine wpAnyH_take (i := 37) (oi := ⟨some 116, _, _, _, _, _⟩) (v := .bool true) rfl (by kernel_rfl) (by kernel_rfl) (by kernel_rfl) (fun _ _ _ h => h) (.inl ⟨by kernel_rfl, fun V hS => by go_simp⟩) hS6 ?_
  simp only [Act.put, List.setIfInBounds_toArray, List.set_cons_zero, List.set_cons_succ]
  refine wpAnyH_take (i := 38) (oi := ⟨some 117, _, _, _, _, _⟩) (v := .bool true) rfl (by kernel_rfl) (by kernel_rfl) (by kernel_rfl) (fun _ _ _ h => h) (.inl ⟨by kernel_rfl, fun V hS => by go_simp⟩) hS6 ?_
  simp only [Act.put, List.setIfInBounds_toArray, List.set_cons_zero, List.set_cons_succ]
  refine wpAnyH_take (i := 39) (oi := ⟨some 118, _, _, _, _, _⟩) (v := .int .i64 0) rfl (by kernel_rfl) (by kernel_rfl) (by kernel_rfl) (fun _ _ _ h => h) (.inl ⟨by kernel_rfl, fun V hS => by go_simp⟩) hS6 ?_
  simp only [Act.put, List.setIfInBounds_toArray, List.set_cons_zero, List.set_cons_succ]
  refine wpAnyH_take (i := 40) (oi := ⟨some 119, _, _, _, _, _⟩) (v := .bool true) rfl (by kernel_rfl) (by kernel_rfl) (by kernel_rfl) (fun _ _ _ h => h) (.inl ⟨by kernel_rfl, fun V hS => by go_simp⟩) hS6 ?_
  simp only [Act.put, List.setIfInBounds_toArray, List.set_cons_zero, List.set_cons_succ]
  refine wpAnyH_take (i := 41) (oi := ⟨some 120, _, _, _, _, _⟩) (v := .bool true) rfl (by kernel_rfl) (by kernel_rfl) (by kernel_rfl) (fun _ _ _ h => h) (.inl ⟨by kernel_rfl, fun V hS => by go_simp⟩) hS6 ?_
  simp only [Act.put, List.setIfInBounds_toArray, List.set_cons_zero, List.set_cons_succ]
  refine wpAnyH_take (i := 42) (oi := ⟨some 121, _, _, _, _, _⟩) (v := .bool true) rfl (by kernel_rfl) (by kernel_rfl) (by kernel_rfl) (fun _ _ _ h => h) (.inl ⟨by kernel_rfl, fun V hS => by go_simp⟩) hS6 ?_
  simp only [Act.put, List.setIfInBounds_toArray, List.set_cons_zero, List.set_cons_succ]
  refine wpAnyH_take (i := 43) (oi := ⟨some 122, _, _, _, _, _⟩) (v := .bool true) rfl (by kernel_rfl) (by kernel_rfl) (by kernel_rfl) (fun _ _ _ h => h) (.inl ⟨by kernel_rfl, fun V hS => by go_simp⟩) hS6 ?_
  simp only [Act.put, List.setIfInBounds_toArray, List.set_cons_zero, List.set_cons_succ]
  refine wpAnyH_take (i := 44) (oi := ⟨some 123, _, _, _, _, _⟩) (v := .bool true) rfl (by kernel_rfl) (by kernel_rfl) (by kernel_rfl) (fun _ _ _ h => h) (.inl ⟨by kernel_rfl, fun V hS => by go_simp⟩) hS6 ?_
  simp only [Act.put, List.setIfInBounds_toArray, List.set_cons_zero, List.set_cons_succ]
  refine wpAnyH_take (i := 45) (oi := ⟨some 124, _, _, _, _, _⟩) (v := .bool true) rfl (by kernel_rfl) (by kernel_rfl) (by kernel_rfl) (fun _ _ _ h => h) (.inl ⟨by kernel_rfl, fun V hS => by go_simp⟩) hS6 ?_
  simp only [Act.put, List.setIfInBounds_toArray, List.set_cons_zero, List.set_cons_succ]
  refine wpAnyH_take (i := 46) (oi := ⟨some 125, _, _, _, _, _⟩) (v := .slice A16 1 c16) rfl (by kernel_rfl) (by kernel_rfl) (by kernel_rfl) (fun _ _ _ h => h) (.inl ⟨by kernel_rfl, fun V hS => by go_simp⟩) hS6 ?_
  simp only [Act.put, List.setIfInBounds_toArray, List.set_cons_zero, List.set_cons_succ]
  refine wpAnyH_take (i := 47) (oi := ⟨some 126, _, _, _, _, _⟩) (v := .string ⟨#[120]⟩) rfl (by kernel_rfl) (by kernel_rfl) (by kernel_rfl) (fun _ _ _ h => h) (.inl ⟨by kernel_rfl, fun V hS => by have hc := HRC.out V hS; go_simp⟩) hS6 ?_
  simp only [Act.put, List.setIfInBounds_toArray, List.set_cons_zero, List.set_cons_succ]
  refine wpAnyH_take (i := 48) (oi := ⟨some 127, _, _, _, _, _⟩) (v := .bool true) rfl (by kernel_rfl) (by kernel_rfl) (by kernel_rfl) (fun _ _ _ h => h) (.inl ⟨by kernel_rfl, fun V hS => by go_simp⟩) hS6 ?_
  simp only [Act.put, List.setIfInBounds_toArray, List.set_cons_zero, List.set_cons_succ]
  refine wpAnyH_take (i := 49) (oi := ⟨some 128, _, _, _, _, _⟩) (v := .bool true) rfl (by kernel_rfl) (by kernel_rfl) (by kernel_rfl) (fun _ _ _ h => h) (.inl ⟨by kernel_rfl, fun V hS => by go_simp⟩) hS6 ?_
  simp only [Act.put, List.setIfInBounds_toArray, List.set_cons_zero, List.set_cons_succ]
  refine wpAnyH_take (i := 50) (oi := ⟨some 129, _, _, _, _, _⟩) (v := .bool true) rfl (by kernel_rfl) (by kernel_rfl) (by kernel_rfl) (fun _ _ _ h => h) (.inl ⟨by kernel_rfl, fun V hS => by go_simp⟩) hS6 ?_
  simp only [Act.put, List.setIfInBounds_toArray, List.set_cons_zero, List.set_cons_succ]
  refine wpAnyH_take (i := 51) (oi := ⟨some 130, _, _, _, _, _⟩) (v := .agg #[.slice b0 m0 d0, .slice b1 m1 d1, .slice b2 m2 d2, .slice b3 m3 d3, .slice b4 m4 d4]) rfl (by kernel_rfl) (by kernel_rfl) (by kernel_rfl) (fun _ _ _ h => h) (.inl ⟨by kernel_rfl, fun V hS => by have h0 := HCL.out 0 V hS; have h1 := HCL.out 1 V hS; have h2 := HCL.out 2 V hS; have h3 := HCL.out 3 V hS; have h4 := HCL.out 4 V hS; simp only [List.getElem?_toArray, List.getElem?_cons_zero, List.getElem?_cons_succ] at h0 h1 h2 h3 h4; go_simp⟩) hS6 ?_
  simp only [Act.put, List.setIfInBounds_toArray, List.set_cons_zero, List.set_cons_succ]
  refine wpAnyH_ready (rs := [52]) (by kernel_rfl) (by simp) ?_
  refine AllReadyH.cons rfl (fun K' hK => ?_) AllReadyH.nil
  go_simp
  refine (HONE.out _).mono ?_
  rintro e v6 ⟨y6, rfl, hy6, hty6, hmy6, hby6⟩
  go_simp
  refine hK.out _ _ ((hS6).trans (hby6.mono (hS6).size)) (fun hS7 => ?_)
  clear hK K' hS6
  refine wpAnyH_ready (rs := [53]) (by kernel_rfl) (by simp) ?_
  refine AllReadyH.cons rfl (fun K' hK => ?_) AllReadyH.nil
  go_simp
  have hs := same_any x3 y6 v6 (HTF16.out.below hS7).at_ hty6.at_ HSM3.out hmy6
  rw [decide_eq_true (by rw [HX3.out, hy6]), HXV.out] at hs
  refine hs.mono ?_
  rintro e v7 ⟨rfl, hbv7⟩
  clear hs hty6 hmy6 hy6 hby6
  go_simp
  refine hK.out _ _ ((hS7).trans (hbv7.mono (hS7).size)) (fun hS8 => ?_)
  clear hK K' hS7
  refine wpAnyH_take (i := 54) (oi := ⟨some 133, _, _, _, _, _⟩) (v := .bool true) rfl (by kernel_rfl) (by kernel_rfl) (by kernel_rfl) (fun _ _ _ h => h) (.inl ⟨by kernel_rfl, fun V hS => by go_simp⟩) hS8 ?_
  simp only [Act.put, List.setIfInBounds_toArray, List.set_cons_zero, List.set_cons_succ]
  refine wpAnyH_take (i := 55) (oi := ⟨some 134, _, _, _, _, _⟩) (v := .bool true) rfl (by kernel_rfl) (by kernel_rfl) (by kernel_rfl) (fun _ _ _ h => h) (.inl ⟨by kernel_rfl, fun V hS => by go_simp⟩) hS8 ?_
  simp only [Act.put, List.setIfInBounds_toArray, List.set_cons_zero, List.set_cons_succ]
  refine wpAnyH_take (i := 56) (oi := ⟨some 135, _, _, _, _, _⟩) (v := .agg #[.slice b0 m0 d0, .slice b1 m1 d1, .slice b2 m2 d2, .slice b3 m3 d3, .slice b4 m4 d4]) rfl (by kernel_rfl) (by kernel_rfl) (by kernel_rfl) (fun _ _ _ h => h) (.inl ⟨by kernel_rfl, fun V hS => by have h0 := HCL.out 0 V hS; have h1 := HCL.out 1 V hS; have h2 := HCL.out 2 V hS; have h3 := HCL.out 3 V hS; have h4 := HCL.out 4 V hS; simp only [List.getElem?_toArray, List.getElem?_cons_zero, List.getElem?_cons_succ] at h0 h1 h2 h3 h4; go_simp⟩) hS8 ?_
  simp only [Act.put, List.setIfInBounds_toArray, List.set_cons_zero, List.set_cons_succ]
  refine wpAnyH_ready (rs := [57]) (by kernel_rfl) (by simp) ?_
  refine AllReadyH.cons rfl (fun K' hK => ?_) AllReadyH.nil
  go_simp
  have hs := smay_any x3 v7 (HTF16.out.below hS8).at_ HSM3.out (HTB16.out.below hS8)
  rw [HX3.out, one_may, HXV.out] at hs
  refine hs.mono ?_
  rintro e v8 ⟨rfl, hbv8⟩
  clear hs
  go_simp
  refine hK.out _ _ ((hS8).trans (hbv8.mono (hS8).size)) (fun hS9 => ?_)
  clear hK K' hS8
  refine wpAnyH_take (i := 58) (oi := ⟨some 137, _, _, _, _, _⟩) (v := .bool true) rfl (by kernel_rfl) (by kernel_rfl) (by kernel_rfl) (fun _ _ _ h => h) (.inl ⟨by kernel_rfl, fun V hS => by go_simp⟩) hS9 ?_
  simp only [Act.put, List.setIfInBounds_toArray, List.set_cons_zero, List.set_cons_succ]
  refine wpAnyH_take (i := 59) (oi := ⟨some 138, _, _, _, _, _⟩) (v := .bool true) rfl (by kernel_rfl) (by kernel_rfl) (by kernel_rfl) (fun _ _ _ h => h) (.inl ⟨by kernel_rfl, fun V hS => by go_simp⟩) hS9 ?_
  simp only [Act.put, List.setIfInBounds_toArray, List.set_cons_zero, List.set_cons_succ]
  refine wpAnyH_take (i := 60) (oi := ⟨some 139, _, _, _, _, _⟩) (v := .pointer (some ⟨p, 0, none⟩)) rfl (by kernel_rfl) (by kernel_rfl) (by kernel_rfl) (fun _ _ _ h => h) (.inl ⟨by kernel_rfl, fun V hS => by go_simp⟩) hS9 ?_
  simp only [Act.put, List.setIfInBounds_toArray, List.set_cons_zero, List.set_cons_succ]
  refine wpAnyH_ready (rs := [61]) (by kernel_rfl) (by simp) ?_
  refine AllReadyH.cons rfl (fun K' hK => ?_) AllReadyH.nil
  go_simp
  have hs : Calls Tryz.prog 21 #[.pointer (some ⟨p, 0, none⟩)] v8 fun e w' => e = .returned (.int .i64 1) ∧ w' = v8 := snumber_any v8 (HSA16.out.below hS9) (HR16.out.below hS9)
  refine hs.mono ?_
  rintro e w' ⟨rfl, hww⟩
  rw [hww]
  clear hww hs
  go_simp
  refine hK.out _ _ ((hS9)) (fun hS10 => ?_)
  clear hK K' hS9
  refine wpAnyH_take (i := 62) (oi := ⟨some 141, _, _, _, _, _⟩) (v := .bool true) rfl (by kernel_rfl) (by kernel_rfl) (by kernel_rfl) (fun _ _ _ h => h) (.inl ⟨by kernel_rfl, fun V hS => by go_simp⟩) hS10 ?_
  simp only [Act.put, List.setIfInBounds_toArray, List.set_cons_zero, List.set_cons_succ]
  refine wpAnyH_take (i := 63) (oi := ⟨some 142, _, _, _, _, _⟩) (v := .bool true) rfl (by kernel_rfl) (by kernel_rfl) (by kernel_rfl) (fun _ _ _ h => h) (.inl ⟨by kernel_rfl, fun V hS => by go_simp⟩) hS10 ?_
  simp only [Act.put, List.setIfInBounds_toArray, List.set_cons_zero, List.set_cons_succ]
  refine wpAnyH_take (i := 64) (oi := ⟨some 143, _, _, _, _, _⟩) (v := .bool true) rfl (by kernel_rfl) (by kernel_rfl) (by kernel_rfl) (fun _ _ _ h => h) (.inl ⟨by kernel_rfl, fun V hS => by go_simp⟩) hS10 ?_
  simp only [Act.put, List.setIfInBounds_toArray, List.set_cons_zero, List.set_cons_succ]
  refine wpAnyH_take (i := 65) (oi := ⟨some 144, _, _, _, _, _⟩) (v := .pointer (some ⟨p, 0, none⟩)) rfl (by kernel_rfl) (by kernel_rfl) (by kernel_rfl) (fun _ _ _ h => h) (.inl ⟨by kernel_rfl, fun V hS => by go_simp⟩) hS10 ?_
  simp only [Act.put, List.setIfInBounds_toArray, List.set_cons_zero, List.set_cons_succ]
  refine wpAnyH_ready (rs := [66]) (by kernel_rfl) (by simp) ?_
  refine AllReadyH.cons rfl (fun K' hK => ?_) AllReadyH.nil
  go_simp
  have hs : Calls Tryz.prog 22 #[.pointer (some ⟨p, 0, none⟩)] v8 fun e w' => e = .returned (.int .i64 576) ∧ w' = v8 := sroom_any v8 (HSA16.out.below hS10) (HR16.out.below hS10) (by omega) (by omega)
  refine hs.mono ?_
  rintro e w' ⟨rfl, hww⟩
  rw [hww]
  clear hww hs
  go_simp
  refine hK.out _ _ ((hS10)) (fun hS11 => ?_)
  clear hK K' hS10
  refine wpAnyH_take (i := 67) (oi := ⟨some 146, _, _, _, _, _⟩) (v := .bool true) rfl (by kernel_rfl) (by kernel_rfl) (by kernel_rfl) (fun _ _ _ h => h) (.inl ⟨by kernel_rfl, fun V hS => by go_simp⟩) hS11 ?_
  simp only [Act.put, List.setIfInBounds_toArray, List.set_cons_zero, List.set_cons_succ]
  refine wpAnyH_take (i := 68) (oi := ⟨some 147, _, _, _, _, _⟩) (v := .bool true) rfl (by kernel_rfl) (by kernel_rfl) (by kernel_rfl) (fun _ _ _ h => h) (.inl ⟨by kernel_rfl, fun V hS => by go_simp⟩) hS11 ?_
  simp only [Act.put, List.setIfInBounds_toArray, List.set_cons_zero, List.set_cons_succ]
  refine wpAnyH_take (i := 69) (oi := ⟨some 148, _, _, _, _, _⟩) (v := .bool true) rfl (by kernel_rfl) (by kernel_rfl) (by kernel_rfl) (fun _ _ _ h => h) (.inl ⟨by kernel_rfl, fun V hS => by go_simp⟩) hS11 ?_
  simp only [Act.put, List.setIfInBounds_toArray, List.set_cons_zero, List.set_cons_succ]
  refine wpAnyH_take (i := 70) (oi := ⟨some 149, _, _, _, _, _⟩) (v := .pointer (some ⟨p, 0, none⟩)) rfl (by kernel_rfl) (by kernel_rfl) (by kernel_rfl) (fun _ _ _ h => h) (.inl ⟨by kernel_rfl, fun V hS => by go_simp⟩) hS11 ?_
  simp only [Act.put, List.setIfInBounds_toArray, List.set_cons_zero, List.set_cons_succ]
  refine wpAnyH_ready (rs := [71]) (by kernel_rfl) (by simp) ?_
  refine AllReadyH.cons rfl (fun K' hK => ?_) AllReadyH.nil
  go_simp
  have hs : Calls Tryz.prog 23 #[.pointer (some ⟨p, 0, none⟩)] v8 fun e w' => e = .returned (.bool false) ∧ w' = v8 := sdead_any v8 (HSA16.out.below hS11) (HR16.out.below hS11)
  refine hs.mono ?_
  rintro e w' ⟨rfl, hww⟩
  rw [hww]
  clear hww hs
  go_simp
  refine hK.out _ _ ((hS11)) (fun hS12 => ?_)
  clear hK K' hS11
  refine wpAnyH_take (i := 72) (oi := ⟨some 151, _, _, _, _, _⟩) (v := .bool true) rfl (by kernel_rfl) (by kernel_rfl) (by kernel_rfl) (fun _ _ _ h => h) (.inl ⟨by kernel_rfl, fun V hS => by go_simp⟩) hS12 ?_
  simp only [Act.put, List.setIfInBounds_toArray, List.set_cons_zero, List.set_cons_succ]
  refine wpAnyH_take (i := 73) (oi := ⟨some 152, _, _, _, _, _⟩) (v := .bool true) rfl (by kernel_rfl) (by kernel_rfl) (by kernel_rfl) (fun _ _ _ h => h) (.inl ⟨by kernel_rfl, fun V hS => by go_simp⟩) hS12 ?_
  simp only [Act.put, List.setIfInBounds_toArray, List.set_cons_zero, List.set_cons_succ]
  refine wpAnyH_take (i := 74) (oi := ⟨some 153, _, _, _, _, _⟩) (v := .bool true) rfl (by kernel_rfl) (by kernel_rfl) (by kernel_rfl) (fun _ _ _ h => h) (.inl ⟨by kernel_rfl, fun V hS => by go_simp⟩) hS12 ?_
  simp only [Act.put, List.setIfInBounds_toArray, List.set_cons_zero, List.set_cons_succ]
  refine wpAnyH_take (i := 75) (oi := ⟨some 154, _, _, _, _, _⟩) (v := .pointer (some ⟨p, 0, none⟩)) rfl (by kernel_rfl) (by kernel_rfl) (by kernel_rfl) (fun _ _ _ h => h) (.inl ⟨by kernel_rfl, fun V hS => by go_simp⟩) hS12 ?_
  simp only [Act.put, List.setIfInBounds_toArray, List.set_cons_zero, List.set_cons_succ]
  refine wpAnyH_ready (rs := [76]) (by kernel_rfl) (by simp) ?_
  refine AllReadyH.cons rfl (fun K' hK => ?_) AllReadyH.nil
  go_simp
  
  refine hK.out _ _ ((hS12).alloc (hS12).size _) (fun hS13 => ?_)
  clear hK K' hS12
  refine wpAnyH_take (i := 77) (oi := ⟨some 156, _, _, _, _, _⟩) (v := .agg #[.slice (some ⟨v8.heap.size, 0, none⟩) 600 600, .slice none 0 0, .slice none 0 0, .slice none 0 0, .slice none 0 0]) rfl (by kernel_rfl) (by kernel_rfl) (by kernel_rfl) (fun _ _ _ h => h) (.inl ⟨by kernel_rfl, fun V hS => by go_simp⟩) hS13 ?_
  simp only [Act.put, List.setIfInBounds_toArray, List.set_cons_zero, List.set_cons_succ]
  refine wpAnyH_ready (rs := [78]) (by kernel_rfl) (by simp) ?_
  refine AllReadyH.cons rfl (fun K' hK => ?_) AllReadyH.nil
  go_simp
  obtain ⟨x9, hx9⟩ : ∃ x9 : SV, x9 = ⟨⟨some ⟨v8.heap.size, 0, none⟩, 600, z⟩, ⟨.none, 0, []⟩, ⟨.none, 0, []⟩, .none, 0, [], .none, 0, []⟩ := ⟨_, rfl⟩
  have hxv : x9.v = .agg #[.slice (some ⟨v8.heap.size, 0, none⟩) 600 600, .slice none 0 0, .slice none 0 0, .slice none 0 0, .slice none 0 0] := by rw [hx9, ← HZL.out]; rfl
  have hxs : x9.sta = ⟨z, [], [], [], []⟩ := by rw [hx9]; rfl
  have hlz : (stB x9.sta).length = 616 := by
    rw [hxs]
    have := HZL.out
    unfold stB fisB
    simp only [List.length_append, textBytes_length, beBytes_length, List.flatMap_nil, List.length_nil]
    omega
  have hrz : RB (v8.alloc (.cells Q 5)) (some ⟨v8.heap.size, 0, none⟩) z := lit_rbf v8 z Q _ HQZ.out
  have hty : STy (v8.alloc (.cells Q 5)) x9 := by
    have hn : ∀ W, PtT W ⟨Option.none, 0, []⟩ := fun W => ⟨⟨RB.nil W, fun ad e => by cases e⟩, Nat.le_refl _, by simp [maxLen]⟩
    rw [hx9]
    exact ⟨⟨⟨hrz, fun ad e => by injection e with e; subst e; exact .inr ⟨_, _, heap_alloc_new _ _⟩⟩, by show z.length ≤ 600; rw [HZL.out]; exact Nat.le_refl _, by show (600 : Nat) ≤ maxLen; unfold maxLen; omega⟩, hn _, hn _, OFl.nil _ _ _, OFl.nil _ _ _⟩
  have hsm : SM x9 := by
    rw [hx9]
    exact ⟨by show z.length ≤ _; rw [HZL.out]; exact Nat.le_of_ble_eq_true rfl, Nat.zero_le _, Nat.zero_le _, Nat.zero_le _, Nat.zero_le _, (fun f hf => by cases hf), (fun f hf => by cases hf)⟩
  have HDV := HD16.out.below hS13
  have hs := scommit_full (K := K6) (d := d) (s := s) (M := M) x9 _ (TabK.below HKB16.out hS13) (Tab.below HTB16.out hS13) (HSA16.out.below hS13) (HR16.out.below hS13) (fun V hf => (hty.fr hf (fun g e => e.elim (HDV.disk.noBF g) (fun e => by subst e; exact (HR16.out.below hS13).noBF))).at_) hsm (by rw [hxs]; exact may_r _ _ z (by rw [HZL.out]; omega)) (by omega) (by omega) (by omega) (by rw [hlz]; omega) (by rw [hlz]; omega)
  rw [hxv] at hs
  refine hs.mono ?_
  rintro e v10 ⟨rfl, hbv10⟩
  clear hs hx9 hxv hxs hlz hrz hty hsm HDV
  go_simp
  refine hK.out _ _ ((hS13).trans (hbv10.mono (hS13).size)) (fun hS14 => ?_)
  clear hK K' hS13
  refine wpAnyH_take (i := 79) (oi := ⟨some 158, _, _, _, _, _⟩) (v := .bool true) rfl (by kernel_rfl) (by kernel_rfl) (by kernel_rfl) (fun _ _ _ h => h) (.inl ⟨by kernel_rfl, fun V hS => by go_simp⟩) hS14 ?_
  simp only [Act.put, List.setIfInBounds_toArray, List.set_cons_zero, List.set_cons_succ]
  refine wpAnyH_take (i := 80) (oi := ⟨some 159, _, _, _, _, _⟩) (v := .bool true) rfl (by kernel_rfl) (by kernel_rfl) (by kernel_rfl) (fun _ _ _ h => h) (.inl ⟨by kernel_rfl, fun V hS => by go_simp⟩) hS14 ?_
  simp only [Act.put, List.setIfInBounds_toArray, List.set_cons_zero, List.set_cons_succ]
  refine wpAnyH_take (i := 81) (oi := ⟨some 0, _, _, _, _, _⟩) (v := .bool true) rfl (by kernel_rfl) (by kernel_rfl) (by kernel_rfl) (fun _ _ _ h => h) (.inl ⟨by kernel_rfl, fun V hS => by go_simp⟩) hS14 ?_
  simp only [Act.put, List.setIfInBounds_toArray, List.set_cons_zero, List.set_cons_succ]
  refine wpAnyH_done (by kernel_rfl) ?_ _
  go_wp2
  go_ret
  exact ⟨rfl, HB16.out.trans (hS14.mono HB16.out.size)⟩
end Go.Proofs.YtgpcinfhcamgpaaGreatDoor
