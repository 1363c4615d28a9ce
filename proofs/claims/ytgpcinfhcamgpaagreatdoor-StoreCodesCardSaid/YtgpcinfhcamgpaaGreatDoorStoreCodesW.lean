/-
  The walk of the law StoreCodes.
-/
import Derived.Test.YtgpcinfhcamgpaaGreatDoorStL3
import Derived.Test.YtgpcinfhcamgpaaGreatDoorStD6
import Derived.Test.YtgpcinfhcamgpaaGreatDoorStE4
import Derived.Deep.RegionHeld3
import Derived.Deep.DrawnRows
import Derived.Handy
namespace Go.Proofs.YtgpcinfhcamgpaaGreatDoor
open Go.RowKit Glob
attribute [local go_sem ↓] Go.wp_at_zero Go.wp_at_succ
set_option linter.unusedVariables false
set_option linter.unusedSimpArgs false

theorem five_cells {w : World} {b : Nat} {t : TypeId} {v0 v1 v2 v3 v4 : Value} (h : Blk w b t #[v0, v1, v2, v3, v4]) : w.cell? ⟨b, 0, none⟩ = some v0 ∧ w.cell? ⟨b, 1, none⟩ = some v1 ∧ w.cell? ⟨b, 2, none⟩ = some v2 ∧ w.cell? ⟨b, 3, none⟩ = some v3 ∧ w.cell? ⟨b, 4, none⟩ = some v4 :=
  ⟨h.cell 0, h.cell 1, h.cell 2, h.cell 3, h.cell 4⟩
def EncB (x : SV) (m : Bool) (w : World) (e : Ending) (w' : World) : Prop :=
  ∃ A n c ev, e = .returned (.tuple #[.slice A n c, .int .i64 ev]) ∧ Below w.heap.size w w' ∧ ((m = true ∧ ev = 0 ∧ RB w' A (stB x.sta) ∧ (stB x.sta).length = n ∧ n ≤ c ∧ c ≤ maxLen) ∨ (m = false ∧ n = 0 ∧ ev = 1))
theorem encode_both (x : SV) (m : Bool) (w : World) (h : SAt w x) (hm : SM x) (hT : Tab w) (hq : mayS fnameL pathL x.sta = m) (hl : (stB x.sta).length ≤ 100000) :
    Calls Tryz.prog 10 #[x.v] w fun e w' => EncB x m w e w' := by
  cases m with
  | true =>
    refine (encode_yes x w h hm hT hq (by omega)).mono ?_
    rintro e w' ⟨v, rfl, hv, hb⟩
    obtain ⟨A, c, rfl, h1, h2, hr, _⟩ := hv.shape
    exact ⟨A, _, c, 0, rfl, hb, .inl ⟨rfl, rfl, hr, rfl, h1, h2⟩⟩
  | false =>
    refine (encode_no x w h hm hT hq).mono ?_
    rintro e w' ⟨rfl, hb⟩
    exact ⟨none, 0, 0, 1, rfl, hb, .inr ⟨rfl, rfl, rfl⟩⟩
def DecB (l : List UInt8) (w : World) (e : Ending) (w' : World) : Prop :=
  ∃ X cd, e = .returned (.tuple #[SV.v X, .int .i64 cd]) ∧ Below w.heap.size w w' ∧ STy w' X ∧ SM X ∧ ((decP fnameL pathL l = some X.sta ∧ cd = 0) ∨ (decP fnameL pathL l = none ∧ X.sta = Sta.none ∧ cd = 230))
theorem decode_both (A : Option Addr) (n c : Nat) (l : List UInt8) (w : World) (hr : RB w A l) (hn : l.length = n) (hl : n ≤ 100000) (hT : Tab w) :
    Calls Tryz.prog 11 #[.slice A n c] w fun e w' => DecB l w e w' := by
  refine (decode_any A n c l w hr hn hl hT).mono ?_
  rintro e w' ⟨hb, ⟨x, hx, rfl, hty, hsm⟩ | ⟨hno, rfl⟩⟩
  · exact ⟨x, 0, rfl, hb, hty, hsm, .inl ⟨hx, rfl⟩⟩
  · exact ⟨SV.none, 230, rfl, hb, STy.none _, SM.none, .inr ⟨hno, rfl, rfl⟩⟩
def RDecB (l : List UInt8) (w : World) (e : Ending) (w' : World) : Prop :=
  ∃ X ok, e = .returned (.tuple #[SV.v X, .bool ok]) ∧ Below w.heap.size w w' ∧ STy w' X ∧ SM X ∧ ((decP fnameL pathL l = some X.sta ∧ ok = true) ∨ (decP fnameL pathL l = none ∧ X.sta = Sta.none ∧ ok = false))
theorem rdecode_both (A : Option Addr) (n c : Nat) (l : List UInt8) (w : World) (hr : RB w A l) (hn : l.length = n) (hl : n ≤ 100000) (hnc : n ≤ c) (hcm : c ≤ maxLen) :
    Calls Tryz.prog 12 #[.slice A n c] w fun e w' => RDecB l w e w' := by
  refine (rdecode_any A n c l w hr hn hl hnc hcm).mono ?_
  rintro e w' ⟨hb, ⟨x, hx, rfl, hty, hsm⟩ | ⟨hno, rfl⟩⟩
  · exact ⟨x, true, rfl, hb, hty, hsm, .inl ⟨hx, rfl⟩⟩
  · exact ⟨SV.none, false, rfl, hb, STy.none _, SM.none, .inr ⟨hno, rfl, rfl⟩⟩
set_option maxRecDepth 100000 in
set_option maxHeartbeats 16000000 in
theorem storeCodes_walk (x : SV) (A : Option Addr) (c : Nat) (l : List UInt8) (W : World) (hK : TabK W) (hT : Tab W) (hx : SAt W x) (hxb : SBd x) (hr : RB W A l) (hc : l.length ≤ c) (hcm : c ≤ maxLen) (hz : l.length ≤ 140737488351232) :
    Calls Tryz.prog 3 #[x.v, .slice A l.length c] W fun e w' => e = .returned (.bool true) ∧ Below W.heap.size W w' := by
  have HK := Lib.hid hK
  have HT := Lib.hid hT
  have HX := Lib.hid hx
  have HLX := Lib.hid (fun V (hV : Below W.heap.size W V) => large_any x V (hx.below hV) hxb)
  unfold LgPost at HLX
  obtain ⟨n, hn⟩ : ∃ n, n = l.length := ⟨_, rfl⟩
  rw [← hn] at hc hz ⊢
  have HD := Lib.hid (fun V (hV : Below W.heap.size W V) (h2 : n ≤ 20000) => decode_both A n c l V (hr.below hV) hn.symm (by omega) (hT.below hV))
  have HRD := Lib.hid (fun V (hV : Below W.heap.size W V) (h2 : n ≤ 20000) => rdecode_both A n c l V (hr.below hV) hn.symm (by omega) hc hcm)
  unfold DecB at HD
  unfold RDecB at HRD
  obtain ⟨a0, an0, ac0, a1, an1, ac1, a2, an2, ac2, a3, an3, ac3, a4, an4, ac4, hav, -⟩ := x.five
  have HAV := Lib.hid hav
  rw [hav] at HLX ⊢
  clear hK hT hx hxb hr hn hav
  have HA : Hid (Below W.heap.size W (W.alloc (.cells #[.slice a0 an0 ac0, .slice a1 an1 ac1, .slice a2 an2 ac2, .slice a3 an3 ac3, .slice a4 an4 ac4] 25))) := Lib.hid ((Below.refl _ _).alloc (Nat.le_refl _) _)
  have HBX : Hid (Blk (W.alloc (.cells #[.slice a0 an0 ac0, .slice a1 an1 ac1, .slice a2 an2 ac2, .slice a3 an3 ac3, .slice a4 an4 ac4] 25)) W.heap.size 25 #[.slice a0 an0 ac0, .slice a1 an1 ac1, .slice a2 an2 ac2, .slice a3 an3 ac3, .slice a4 an4 ac4]) := Lib.hid (Blk.new _ _ _)
  go_enter Tryz.func3, Tryz.ntmps3
  go_wp2_with fail
  refine (HLX.out _ HA.out).mono ?_
  rintro e w2 ⟨bx, rfl, hb2, hsx⟩
  have HB2 : Hid (Below W.heap.size W w2) := Lib.hid (HA.out.trans (hb2.mono HA.out.size))
  have HBX2 := Lib.hid (HBX.out.below hb2 HBX.out.lt)
  have HSX := Lib.hid hsx
  clear hb2 hsx HA HBX
  cases bx with
  | true =>
    go_wp2_with fail
    refine (slives_any _ (TabK.below HK.out HB2.out) (Tab.below HT.out HB2.out)).mono ?_
    rintro e w9 ⟨rfl, hb9⟩
    have HB9 : Hid (Below W.heap.size W w9) := Lib.hid (HB2.out.trans (hb9.mono HB2.out.size))
    clear hb9
    go_wp2
    go_ret
    exact ⟨rfl, HB9.out⟩
  | false =>
    have HSS := Lib.hid (HSX.out rfl)
    rcases Nat.lt_or_ge 20000 n with h20 | h20
    · have q1 : decide ((20000 : Int) < (n : Int)) = true := by rw [decide_eq_true_iff]; omega
      have q1' : decide (20000 < n) = true := by rw [decide_eq_true_iff]; omega
      go_wp2_with fail
      refine (slives_any _ (TabK.below HK.out HB2.out) (Tab.below HT.out HB2.out)).mono ?_
      rintro e w9 ⟨rfl, hb9⟩
      have HB9 : Hid (Below W.heap.size W w9) := Lib.hid (HB2.out.trans (hb9.mono HB2.out.size))
      clear hb9
      go_wp2
      go_ret
      exact ⟨rfl, HB9.out⟩
    · have q1 : decide ((20000 : Int) < (n : Int)) = false := by rw [decide_eq_false_iff_not]; omega
      have q1' : decide (20000 < n) = false := by rw [decide_eq_false_iff_not]; omega
      obtain ⟨m, hm⟩ : ∃ m, mayS fnameL pathL x.sta = m := ⟨_, rfl⟩
      have HM := Lib.hid hm
      obtain ⟨L, hL⟩ : ∃ L, stB x.sta = L := ⟨_, rfl⟩
      have HLE := Lib.hid hL
      have HLL : Hid (L.length ≤ 100000) := Lib.hid (by rw [← hL]; exact HSS.out.l)
      have hEE := encode_both x m w2 (HX.out.below HB2.out) HSS.out.m (HT.out.below HB2.out) hm HSS.out.l
      unfold EncB at hEE
      rw [hL, HAV.out] at hEE
      have HEE := Lib.hid hEE
      have HD2 := Lib.hid (fun V (hV : Below W.heap.size W V) => HD.out V hV h20)
      have HRD2 := Lib.hid (fun V (hV : Below W.heap.size W V) => HRD.out V hV h20)
      obtain ⟨s0, s1, s2, s3, s4⟩ := five_cells HBX2.out
      clear hm hL hEE
      go_wp2_with fail
      refine HEE.out.mono ?_
      rintro e w3 ⟨A5, n5, c5, ev, rfl, hb3, hen⟩
      have HEN := Lib.hid hen
      have HB3 : Hid (Below W.heap.size W w3) := Lib.hid (HB2.out.trans (hb3.mono HB2.out.size))
      have HBX3 := Lib.hid (HBX2.out.below hb3 HBX2.out.lt)
      clear hb3 hen s0 s1 s2 s3 s4 HBX2
      go_wp2_with fail
      refine (HD2.out _ HB3.out).mono ?_
      rintro e w4 ⟨X, cd, rfl, hb4, htx, hmx, hdx⟩
      have HMX := Lib.hid hmx
      have HDX := Lib.hid hdx
      have HB4 : Hid (Below W.heap.size W w4) := Lib.hid (HB3.out.trans (hb4.mono HB3.out.size))
      obtain ⟨x0, xn0, xc0, x1, xn1, xc1, x2, xn2, xc2, x3, xn3, xc3, x4, xn4, xc4, hxv, -⟩ := X.five
      have HXV := Lib.hid hxv
      rw [hxv]
      have HA4 : Hid (Below w4.heap.size w4 (w4.alloc (.cells #[.slice x0 xn0 xc0, .slice x1 xn1 xc1, .slice x2 xn2 xc2, .slice x3 xn3 xc3, .slice x4 xn4 xc4] 25))) := Lib.hid ((Below.refl _ _).alloc (Nat.le_refl _) _)
      have HB4a : Hid (Below W.heap.size W (w4.alloc (.cells #[.slice x0 xn0 xc0, .slice x1 xn1 xc1, .slice x2 xn2 xc2, .slice x3 xn3 xc3, .slice x4 xn4 xc4] 25))) := Lib.hid (HB4.out.trans (HA4.out.mono HB4.out.size))
      have HB34 : Hid (Below w3.heap.size w3 (w4.alloc (.cells #[.slice x0 xn0 xc0, .slice x1 xn1 xc1, .slice x2 xn2 xc2, .slice x3 xn3 xc3, .slice x4 xn4 xc4] 25))) := Lib.hid (hb4.trans (HA4.out.mono hb4.size))
      have HBB4 : Hid (Blk (w4.alloc (.cells #[.slice x0 xn0 xc0, .slice x1 xn1 xc1, .slice x2 xn2 xc2, .slice x3 xn3 xc3, .slice x4 xn4 xc4] 25)) w4.heap.size 25 #[.slice x0 xn0 xc0, .slice x1 xn1 xc1, .slice x2 xn2 xc2, .slice x3 xn3 xc3, .slice x4 xn4 xc4]) := Lib.hid (Blk.new _ _ _)
      have HTX4 := Lib.hid (htx.below HA4.out)
      have HBX4 := Lib.hid (HBX3.out.below HB34.out HBX3.out.lt)
      clear hb4 htx hmx hdx hxv HBX3
      go_wp2_with fail
      refine (HRD2.out _ HB4a.out).mono ?_
      rintro e w5 ⟨Y, ok, rfl, hb5, hty, hmy, hdy⟩
      have HMY := Lib.hid hmy
      have HXY : Hid (X.sta = Y.sta) := Lib.hid (by
        rcases HDX.out with ⟨h1, _⟩ | ⟨h1, h2, _⟩ <;> rcases hdy with ⟨h3, _⟩ | ⟨h3, h4, _⟩
        · rw [h1] at h3; injection h3
        · rw [h1] at h3; cases h3
        · rw [h1] at h3; cases h3
        · rw [h2, h4])
      have HW : Hid ((cd = 0 ∧ ok = true) ∨ (cd = 230 ∧ ok = false)) := Lib.hid (by
        rcases HDX.out with ⟨h1, k1⟩ | ⟨h1, h2, k1⟩ <;> rcases hdy with ⟨h3, k2⟩ | ⟨h3, h4, k2⟩
        · exact .inl ⟨k1, k2⟩
        · rw [h1] at h3; cases h3
        · rw [h1] at h3; cases h3
        · exact .inr ⟨k1, k2⟩)
      have HB5 : Hid (Below W.heap.size W w5) := Lib.hid (HB4a.out.trans (hb5.mono HB4a.out.size))
      obtain ⟨y0, yn0, yc0, y1, yn1, yc1, y2, yn2, yc2, y3, yn3, yc3, y4, yn4, yc4, hyv, -⟩ := Y.five
      have HYV := Lib.hid hyv
      rw [hyv]
      have HA5 : Hid (Below w5.heap.size w5 (w5.alloc (.cells #[.slice y0 yn0 yc0, .slice y1 yn1 yc1, .slice y2 yn2 yc2, .slice y3 yn3 yc3, .slice y4 yn4 yc4] 25))) := Lib.hid ((Below.refl _ _).alloc (Nat.le_refl _) _)
      have HB6 : Hid (Below W.heap.size W (w5.alloc (.cells #[.slice y0 yn0 yc0, .slice y1 yn1 yc1, .slice y2 yn2 yc2, .slice y3 yn3 yc3, .slice y4 yn4 yc4] 25))) := Lib.hid (HB5.out.trans (HA5.out.mono HB5.out.size))
      have HB46 : Hid (Below (w4.alloc (.cells #[.slice x0 xn0 xc0, .slice x1 xn1 xc1, .slice x2 xn2 xc2, .slice x3 xn3 xc3, .slice x4 xn4 xc4] 25)).heap.size (w4.alloc (.cells #[.slice x0 xn0 xc0, .slice x1 xn1 xc1, .slice x2 xn2 xc2, .slice x3 xn3 xc3, .slice x4 xn4 xc4] 25)) (w5.alloc (.cells #[.slice y0 yn0 yc0, .slice y1 yn1 yc1, .slice y2 yn2 yc2, .slice y3 yn3 yc3, .slice y4 yn4 yc4] 25))) := Lib.hid (hb5.trans (HA5.out.mono hb5.size))
      have HB36 : Hid (Below w3.heap.size w3 (w5.alloc (.cells #[.slice y0 yn0 yc0, .slice y1 yn1 yc1, .slice y2 yn2 yc2, .slice y3 yn3 yc3, .slice y4 yn4 yc4] 25))) := Lib.hid (HB34.out.trans (HB46.out.mono HB34.out.size))
      have HBB6 : Hid (Blk (w5.alloc (.cells #[.slice y0 yn0 yc0, .slice y1 yn1 yc1, .slice y2 yn2 yc2, .slice y3 yn3 yc3, .slice y4 yn4 yc4] 25)) w5.heap.size 25 #[.slice y0 yn0 yc0, .slice y1 yn1 yc1, .slice y2 yn2 yc2, .slice y3 yn3 yc3, .slice y4 yn4 yc4]) := Lib.hid (Blk.new _ _ _)
      have HBC6 := Lib.hid (HBB4.out.below HB46.out HBB4.out.lt)
      have HBA6 := Lib.hid (HBX4.out.below HB46.out HBX4.out.lt)
      have HTX := Lib.hid (HTX4.out.below HB46.out)
      have HTY := Lib.hid (hty.below HA5.out)
      have HX6 := Lib.hid (HX.out.below HB6.out)
      have hmx : (m != m) = false := by cases m <;> rfl
      clear hb5 hty hmy hdy hyv HB46 HBB4 HBX4 HTX4 HB34
      go_wp2
      generalize w5.alloc (.cells #[.slice y0 yn0 yc0, .slice y1 yn1 yc1, .slice y2 yn2 yc2, .slice y3 yn3 yc3, .slice y4 yn4 yc4] 25) = WR at HB6 HB36 HBB6 HBC6 HBA6 HTX HTY HX6 ⊢
      rcases HW.out with ⟨e1, e2⟩ | ⟨e1, e2⟩
      · subst e1
        subst e2
        refine wp_region_held_drew (S := fun V => Below WR.heap.size WR V) (by kernel_rfl) ((Below.refl _ _).drew) (fun hS1 => ?_)
        refine wpAnyH_ready (rs := [0]) (by kernel_rfl) (by simp) ?_
        refine AllReadyH.cons rfl (fun K' hK => ?_) AllReadyH.nil
        go_simp
        refine (slives_any _ (TabK.below HK.out (HB6.out.trans ((hS1).mono HB6.out.size))) (Tab.below HT.out (HB6.out.trans ((hS1).mono HB6.out.size)))).mono ?_
        rintro e v1 ⟨rfl, hb1⟩
        go_simp
        refine hK.out _ _ ((hS1).trans (hb1.mono (hS1).size)) (fun hS2 => ?_)
        clear hK K' hS1
        refine wpAnyH_take (i := 1) (oi := ⟨some 37, _, _, _, _, _⟩) (v := .bool false) rfl (by kernel_rfl) (by kernel_rfl) (by kernel_rfl) (fun _ _ _ h => h) (.inl ⟨by kernel_rfl, fun V hS => by go_simp⟩) hS2 ?_
        simp only [Act.put, List.setIfInBounds_toArray, List.set_cons_zero, List.set_cons_succ]
        refine wpAnyH_take (i := 2) (oi := ⟨some 38, _, _, _, _, _⟩) (v := .bool false) rfl (by kernel_rfl) (by kernel_rfl) (by kernel_rfl) (fun _ _ _ h => h) (.inl ⟨by kernel_rfl, fun V hS => by go_simp⟩) hS2 ?_
        simp only [Act.put, List.setIfInBounds_toArray, List.set_cons_zero, List.set_cons_succ]
        refine wpAnyH_take (i := 3) (oi := ⟨some 39, _, _, _, _, _⟩) (v := .agg #[.slice a0 an0 ac0, .slice a1 an1 ac1, .slice a2 an2 ac2, .slice a3 an3 ac3, .slice a4 an4 ac4]) rfl (by kernel_rfl) (by kernel_rfl) (by kernel_rfl) (fun _ _ _ h => h) (.inl ⟨by kernel_rfl, fun V hS => by obtain ⟨h0, h1, h2, h3, h4⟩ := five_cells (HBA6.out.below hS HBA6.out.lt); go_simp⟩) hS2 ?_
        simp only [Act.put, List.setIfInBounds_toArray, List.set_cons_zero, List.set_cons_succ]
        refine wpAnyH_take (i := 5) (oi := ⟨some 41, _, _, _, _, _⟩) (v := .agg #[.slice a0 an0 ac0, .slice a1 an1 ac1, .slice a2 an2 ac2, .slice a3 an3 ac3, .slice a4 an4 ac4]) rfl (by kernel_rfl) (by kernel_rfl) (by kernel_rfl) (fun _ _ _ h => h) (.inl ⟨by kernel_rfl, fun V hS => by obtain ⟨h0, h1, h2, h3, h4⟩ := five_cells (HBA6.out.below hS HBA6.out.lt); go_simp⟩) hS2 ?_
        simp only [Act.put, List.setIfInBounds_toArray, List.set_cons_zero, List.set_cons_succ]
        refine wpAnyH_ready (rs := [4]) (by kernel_rfl) (by simp) ?_
        refine AllReadyH.cons rfl (fun K' hK => ?_) AllReadyH.nil
        go_simp
        have hs := smay_any x v1 (HX6.out.below hS2) HSS.out.m (Tab.below HT.out (HB6.out.trans ((hS2).mono HB6.out.size)))
        rw [HM.out, HAV.out] at hs
        refine hs.mono ?_
        rintro e v2 ⟨rfl, hbv2⟩
        clear hs
        go_simp
        refine hK.out _ _ ((hS2).trans (hbv2.mono (hS2).size)) (fun hS3 => ?_)
        clear hK K' hS2
        refine wpAnyH_ready (rs := [6]) (by kernel_rfl) (by simp) ?_
        refine AllReadyH.cons rfl (fun K' hK => ?_) AllReadyH.nil
        go_simp
        have hs := rmay_any x v2 (HX6.out.below hS3) HSS.out.m
        rw [HM.out, HAV.out] at hs
        refine hs.mono ?_
        rintro e v3 ⟨rfl, hbv3⟩
        clear hs
        go_simp
        refine hK.out _ _ ((hS3).trans (hbv3.mono (hS3).size)) (fun hS4 => ?_)
        clear hK K' hS3
        refine wpAnyH_take (i := 7) (oi := ⟨some 43, _, _, _, _, _⟩) (v := .bool false) rfl (by kernel_rfl) (by kernel_rfl) (by kernel_rfl) (fun _ _ _ h => h) (.inl ⟨by kernel_rfl, fun V hS => by go_simp⟩) hS4 ?_
        simp only [Act.put, List.setIfInBounds_toArray, List.set_cons_zero, List.set_cons_succ]
        refine wpAnyH_take (i := 8) (oi := ⟨some 44, _, _, _, _, _⟩) (v := .bool false) rfl (by kernel_rfl) (by kernel_rfl) (by kernel_rfl) (fun _ _ _ h => h) (.inl ⟨by kernel_rfl, fun V hS => by go_simp⟩) hS4 ?_
        simp only [Act.put, List.setIfInBounds_toArray, List.set_cons_zero, List.set_cons_succ]
        refine wpAnyH_take (i := 9) (oi := ⟨some 45, _, _, _, _, _⟩) (v := .bool false) rfl (by kernel_rfl) (by kernel_rfl) (by kernel_rfl) (fun _ _ _ h => h) (.inl ⟨by kernel_rfl, fun V hS => by go_simp⟩) hS4 ?_
        simp only [Act.put, List.setIfInBounds_toArray, List.set_cons_zero, List.set_cons_succ]
        refine wpAnyH_take (i := 10) (oi := ⟨some 46, _, _, _, _, _⟩) (v := .agg #[.slice x0 xn0 xc0, .slice x1 xn1 xc1, .slice x2 xn2 xc2, .slice x3 xn3 xc3, .slice x4 xn4 xc4]) rfl (by kernel_rfl) (by kernel_rfl) (by kernel_rfl) (fun _ _ _ h => h) (.inl ⟨by kernel_rfl, fun V hS => by obtain ⟨h0, h1, h2, h3, h4⟩ := five_cells (HBC6.out.below hS HBC6.out.lt); go_simp⟩) hS4 ?_
        simp only [Act.put, List.setIfInBounds_toArray, List.set_cons_zero, List.set_cons_succ]
        refine wpAnyH_take (i := 11) (oi := ⟨some 47, _, _, _, _, _⟩) (v := .agg #[.slice y0 yn0 yc0, .slice y1 yn1 yc1, .slice y2 yn2 yc2, .slice y3 yn3 yc3, .slice y4 yn4 yc4]) rfl (by kernel_rfl) (by kernel_rfl) (by kernel_rfl) (fun _ _ _ h => h) (.inl ⟨by kernel_rfl, fun V hS => by obtain ⟨h0, h1, h2, h3, h4⟩ := five_cells (HBB6.out.below hS HBB6.out.lt); go_simp⟩) hS4 ?_
        simp only [Act.put, List.setIfInBounds_toArray, List.set_cons_zero, List.set_cons_succ]
        refine wpAnyH_ready (rs := [12]) (by kernel_rfl) (by simp) ?_
        refine AllReadyH.cons rfl (fun K' hK => ?_) AllReadyH.nil
        go_simp
        have hs := rsame_any X Y v3 (HTX.out.below hS4).at_ (HTY.out.below hS4).at_ HMX.out HMY.out
        rw [decide_eq_true HXY.out, HXV.out, HYV.out] at hs
        refine hs.mono ?_
        rintro e v4 ⟨rfl, hbv4⟩
        clear hs
        go_simp
        refine hK.out _ _ ((hS4).trans (hbv4.mono (hS4).size)) (fun hS5 => ?_)
        clear hK K' hS4
        refine wpAnyH_take (i := 13) (oi := ⟨some 49, _, _, _, _, _⟩) (v := .bool false) rfl (by kernel_rfl) (by kernel_rfl) (by kernel_rfl) (fun _ _ _ h => h) (.inl ⟨by kernel_rfl, fun V hS => by go_simp⟩) hS5 ?_
        simp only [Act.put, List.setIfInBounds_toArray, List.set_cons_zero, List.set_cons_succ]
        refine wpAnyH_take (i := 14) (oi := ⟨some 50, _, _, _, _, _⟩) (v := .bool false) rfl (by kernel_rfl) (by kernel_rfl) (by kernel_rfl) (fun _ _ _ h => h) (.inl ⟨by kernel_rfl, fun V hS => by go_simp⟩) hS5 ?_
        simp only [Act.put, List.setIfInBounds_toArray, List.set_cons_zero, List.set_cons_succ]
        refine wpAnyH_take (i := 15) (oi := ⟨some 51, _, _, _, _, _⟩) (v := .bool false) rfl (by kernel_rfl) (by kernel_rfl) (by kernel_rfl) (fun _ _ _ h => h) (.inl ⟨by kernel_rfl, fun V hS => by go_simp⟩) hS5 ?_
        simp only [Act.put, List.setIfInBounds_toArray, List.set_cons_zero, List.set_cons_succ]
        refine wpAnyH_take (i := 16) (oi := ⟨some 52, _, _, _, _, _⟩) (v := .int .i64 0) rfl (by kernel_rfl) (by kernel_rfl) (by kernel_rfl) (fun _ _ _ h => h) (.inl ⟨by kernel_rfl, fun V hS => by go_simp⟩) hS5 ?_
        simp only [Act.put, List.setIfInBounds_toArray, List.set_cons_zero, List.set_cons_succ]
        refine wpAnyH_take (i := 17) (oi := ⟨some 53, _, _, _, _, _⟩) (v := .bool true) rfl (by kernel_rfl) (by kernel_rfl) (by kernel_rfl) (fun _ _ _ h => h) (.inl ⟨by kernel_rfl, fun V hS => by go_simp⟩) hS5 ?_
        simp only [Act.put, List.setIfInBounds_toArray, List.set_cons_zero, List.set_cons_succ]
        refine wpAnyH_take (i := 18) (oi := ⟨some 54, _, _, _, _, _⟩) (v := .bool true) rfl (by kernel_rfl) (by kernel_rfl) (by kernel_rfl) (fun _ _ _ h => h) (.inl ⟨by kernel_rfl, fun V hS => by go_simp⟩) hS5 ?_
        simp only [Act.put, List.setIfInBounds_toArray, List.set_cons_zero, List.set_cons_succ]
        refine wpAnyH_take (i := 19) (oi := ⟨some 55, _, _, _, _, _⟩) (v := .bool false) rfl (by kernel_rfl) (by kernel_rfl) (by kernel_rfl) (fun _ _ _ h => h) (.inl ⟨by kernel_rfl, fun V hS => by go_simp⟩) hS5 ?_
        simp only [Act.put, List.setIfInBounds_toArray, List.set_cons_zero, List.set_cons_succ]
        refine wpAnyH_take (i := 20) (oi := ⟨some 56, _, _, _, _, _⟩) (v := .bool false) rfl (by kernel_rfl) (by kernel_rfl) (by kernel_rfl) (fun _ _ _ h => h) (.inl ⟨by kernel_rfl, fun V hS => by go_simp⟩) hS5 ?_
        simp only [Act.put, List.setIfInBounds_toArray, List.set_cons_zero, List.set_cons_succ]
        refine wpAnyH_take (i := 21) (oi := ⟨some 57, _, _, _, _, _⟩) (v := .bool false) rfl (by kernel_rfl) (by kernel_rfl) (by kernel_rfl) (fun _ _ _ h => h) (.inl ⟨by kernel_rfl, fun V hS => by go_simp⟩) hS5 ?_
        simp only [Act.put, List.setIfInBounds_toArray, List.set_cons_zero, List.set_cons_succ]
        refine wpAnyH_take (i := 22) (oi := ⟨some 58, _, _, _, _, _⟩) (v := .bool true) rfl (by kernel_rfl) (by kernel_rfl) (by kernel_rfl) (fun _ _ _ h => h) (.inl ⟨by kernel_rfl, fun V hS => by go_simp⟩) hS5 ?_
        simp only [Act.put, List.setIfInBounds_toArray, List.set_cons_zero, List.set_cons_succ]
        refine wpAnyH_take (i := 23) (oi := ⟨some 59, _, _, _, _, _⟩) (v := .bool false) rfl (by kernel_rfl) (by kernel_rfl) (by kernel_rfl) (fun _ _ _ h => h) (.inl ⟨by kernel_rfl, fun V hS => by go_simp⟩) hS5 ?_
        simp only [Act.put, List.setIfInBounds_toArray, List.set_cons_zero, List.set_cons_succ]
        refine wpAnyH_take (i := 24) (oi := ⟨some 60, _, _, _, _, _⟩) (v := .bool false) rfl (by kernel_rfl) (by kernel_rfl) (by kernel_rfl) (fun _ _ _ h => h) (.inl ⟨by kernel_rfl, fun V hS => by go_simp⟩) hS5 ?_
        simp only [Act.put, List.setIfInBounds_toArray, List.set_cons_zero, List.set_cons_succ]
        refine wpAnyH_take (i := 25) (oi := ⟨some 61, _, _, _, _, _⟩) (v := undef) rfl (by kernel_rfl) (by kernel_rfl) (by kernel_rfl) (fun _ _ _ h => h) (.inr ⟨by kernel_rfl, rfl⟩) hS5 ?_
        simp only [Act.put, List.setIfInBounds_toArray, List.set_cons_zero, List.set_cons_succ]
        refine wpAnyH_take (i := 26) (oi := ⟨some 62, _, _, _, _, _⟩) (v := undef) rfl (by kernel_rfl) (by kernel_rfl) (by kernel_rfl) (fun _ _ _ h => h) (.inr ⟨by kernel_rfl, rfl⟩) hS5 ?_
        simp only [Act.put, List.setIfInBounds_toArray, List.set_cons_zero, List.set_cons_succ]
        refine wpAnyH_take (i := 27) (oi := ⟨some 63, _, _, _, _, _⟩) (v := .bool false) rfl (by kernel_rfl) (by kernel_rfl) (by kernel_rfl) (fun _ _ _ h => h) (.inl ⟨by kernel_rfl, fun V hS => by go_simp⟩) hS5 ?_
        simp only [Act.put, List.setIfInBounds_toArray, List.set_cons_zero, List.set_cons_succ]
        refine wpAnyH_take (i := 28) (oi := ⟨some 64, _, _, _, _, _⟩) (v := .bool false) rfl (by kernel_rfl) (by kernel_rfl) (by kernel_rfl) (fun _ _ _ h => h) (.inl ⟨by kernel_rfl, fun V hS => by go_simp⟩) hS5 ?_
        simp only [Act.put, List.setIfInBounds_toArray, List.set_cons_zero, List.set_cons_succ]
        refine wpAnyH_done (by kernel_rfl) ?_ _
        have HB7 : Hid (Below W.heap.size W v4) := Lib.hid (HB6.out.trans (hS5.mono HB6.out.size))
        have HX7 := Lib.hid (HX.out.below HB7.out)
        have HCA7 : Hid (Blk v4 W.heap.size 25 #[.slice a0 an0 ac0, .slice a1 an1 ac1, .slice a2 an2 ac2, .slice a3 an3 ac3, .slice a4 an4 ac4]) := Lib.hid (HBA6.out.below hS5 HBA6.out.lt)
        have hmm := rmay_any x v4 HX7.out HSS.out.m
        rw [HM.out, HAV.out] at hmm
        have HMM := Lib.hid hmm
        obtain ⟨s0, s1, s2, s3, s4⟩ := five_cells HCA7.out
        clear hmm
        go_wp2_with fail
        refine HMM.out.mono ?_
        rintro e w8 ⟨rfl, hb8⟩
        have HB8 : Hid (Below W.heap.size W w8) := Lib.hid (HB7.out.trans (hb8.mono HB7.out.size))
        have HRR : Hid (m = true → ev = 0 ∧ RB w8 A5 L ∧ L.length = n5 ∧ n5 ≤ c5 ∧ c5 ≤ maxLen) := Lib.hid (fun e => by
          rcases HEN.out with ⟨_, h1, h2, h3, h4, h5⟩ | ⟨h1, _⟩
          · exact ⟨h1, (h2.below ((HB36.out.trans (hS5.mono HB36.out.size)).trans (hb8.mono (HB36.out.trans (hS5.mono HB36.out.size)).size))), h3, h4, h5⟩
          · rw [e] at h1; cases h1)
        have HRN : Hid (m = false → n5 = 0 ∧ ev = 1) := Lib.hid (fun e => by
          rcases HEN.out with ⟨h1, _⟩ | ⟨_, h2⟩
          · rw [e] at h1; cases h1
          · exact h2)
        have HCA8 : Hid (Blk w8 W.heap.size 25 #[.slice a0 an0 ac0, .slice a1 an1 ac1, .slice a2 an2 ac2, .slice a3 an3 ac3, .slice a4 an4 ac4]) := Lib.hid (HCA7.out.below hb8 HCA7.out.lt)
        clear hb8 s0 s1 s2 s3 s4
        cases m with
        | false =>
          obtain ⟨hn5, hev⟩ := HRN.out rfl
          subst hev
          rw [hn5]
          clear hn5
          go_wp2
          go_ret
          exact ⟨rfl, HB8.out⟩
        | true =>
          obtain ⟨hev, hr5, hl5, hnc5, hcm5⟩ := HRR.out rfl
          subst hev
          have HR5 := Lib.hid hr5
          have HL5 := Lib.hid hl5
          have hDD := decode_both A5 n5 c5 L w8 hr5 hl5 (by have := HLL.out; omega) (Tab.below HT.out HB8.out)
          unfold DecB at hDD
          have HDD := Lib.hid hDD
          clear hr5 hl5 hnc5 hcm5 hDD
          go_wp2_with fail
          refine HDD.out.mono ?_
          rintro e w10 ⟨Z, cz, rfl, hb10, htz, hmz, hz⟩
          have hz2 : Z.sta = x.sta ∧ cz = 0 := by
            have hd := decP_enc fname_size path_size x.sta HM.out
            rw [HLE.out] at hd
            rcases hz with ⟨h1, h2⟩ | ⟨h1, _⟩
            · rw [hd] at h1; injection h1 with h1; exact ⟨h1.symm, h2⟩
            · rw [hd] at h1; cases h1
          obtain ⟨hz3, hz4⟩ := hz2
          subst hz4
          have HZX := Lib.hid hz3
          have HMZ := Lib.hid hmz
          have HB10 : Hid (Below W.heap.size W w10) := Lib.hid (HB8.out.trans (hb10.mono HB8.out.size))
          obtain ⟨z0, zn0, zc0, z1, zn1, zc1, z2, zn2, zc2, z3, zn3, zc3, z4, zn4, zc4, hzv, -⟩ := Z.five
          have HZV := Lib.hid hzv
          rw [hzv]
          have HA10 : Hid (Below w10.heap.size w10 (w10.alloc (.cells #[.slice z0 zn0 zc0, .slice z1 zn1 zc1, .slice z2 zn2 zc2, .slice z3 zn3 zc3, .slice z4 zn4 zc4] 25))) := Lib.hid ((Below.refl _ _).alloc (Nat.le_refl _) _)
          have HB11 : Hid (Below W.heap.size W (w10.alloc (.cells #[.slice z0 zn0 zc0, .slice z1 zn1 zc1, .slice z2 zn2 zc2, .slice z3 zn3 zc3, .slice z4 zn4 zc4] 25))) := Lib.hid (HB10.out.trans (HA10.out.mono HB10.out.size))
          have HB8t : Hid (Below w8.heap.size w8 (w10.alloc (.cells #[.slice z0 zn0 zc0, .slice z1 zn1 zc1, .slice z2 zn2 zc2, .slice z3 zn3 zc3, .slice z4 zn4 zc4] 25))) := Lib.hid (hb10.trans (HA10.out.mono hb10.size))
          have HBZ : Hid (Blk (w10.alloc (.cells #[.slice z0 zn0 zc0, .slice z1 zn1 zc1, .slice z2 zn2 zc2, .slice z3 zn3 zc3, .slice z4 zn4 zc4] 25)) w10.heap.size 25 #[.slice z0 zn0 zc0, .slice z1 zn1 zc1, .slice z2 zn2 zc2, .slice z3 zn3 zc3, .slice z4 zn4 zc4]) := Lib.hid (Blk.new _ _ _)
          have HBA := Lib.hid (HCA8.out.below HB8t.out HCA8.out.lt)
          have HTZ := Lib.hid (htz.below HA10.out)
          have HR11 := Lib.hid (HR5.out.below HB8t.out)
          have HX11 := Lib.hid (HX.out.below HB11.out)
          clear hb10 htz hmz hz hz3 hzv
          go_wp2
          generalize w10.alloc (.cells #[.slice z0 zn0 zc0, .slice z1 zn1 zc1, .slice z2 zn2 zc2, .slice z3 zn3 zc3, .slice z4 zn4 zc4] 25) = WQ at HB11 HBZ HBA HTZ HR11 HX11 ⊢
          refine wp_region_held_drew (S := fun V => Below WQ.heap.size WQ V) (by kernel_rfl) ((Below.refl _ _).drew) (fun hS1 => ?_)
          refine wpAnyH_take (i := 0) (oi := ⟨some 80, _, _, _, _, _⟩) (v := .int .i64 0) rfl (by kernel_rfl) (by kernel_rfl) (by kernel_rfl) (fun _ _ _ h => h) (.inl ⟨by kernel_rfl, fun V hS => by go_simp⟩) hS1 ?_
          simp only [Act.put, List.setIfInBounds_toArray, List.set_cons_zero, List.set_cons_succ]
          refine wpAnyH_take (i := 1) (oi := ⟨some 81, _, _, _, _, _⟩) (v := .bool true) rfl (by kernel_rfl) (by kernel_rfl) (by kernel_rfl) (fun _ _ _ h => h) (.inl ⟨by kernel_rfl, fun V hS => by go_simp⟩) hS1 ?_
          simp only [Act.put, List.setIfInBounds_toArray, List.set_cons_zero, List.set_cons_succ]
          refine wpAnyH_take (i := 2) (oi := ⟨some 82, _, _, _, _, _⟩) (v := .bool true) rfl (by kernel_rfl) (by kernel_rfl) (by kernel_rfl) (fun _ _ _ h => h) (.inl ⟨by kernel_rfl, fun V hS => by go_simp⟩) hS1 ?_
          simp only [Act.put, List.setIfInBounds_toArray, List.set_cons_zero, List.set_cons_succ]
          refine wpAnyH_take (i := 3) (oi := ⟨some 83, _, _, _, _, _⟩) (v := .slice A5 n5 c5) rfl (by kernel_rfl) (by kernel_rfl) (by kernel_rfl) (fun _ _ _ h => h) (.inl ⟨by kernel_rfl, fun V hS => by go_simp⟩) hS1 ?_
          simp only [Act.put, List.setIfInBounds_toArray, List.set_cons_zero, List.set_cons_succ]
          refine wpAnyH_take (i := 4) (oi := ⟨some 84, _, _, _, _, _⟩) (v := .string ⟨L.toArray⟩) rfl (by kernel_rfl) (by kernel_rfl) (by kernel_rfl) (fun _ _ _ h => h) (.inl ⟨by kernel_rfl, fun V hS => by have hc := run_string (HR11.out.below hS) n5 c5 HL5.out; go_simp⟩) hS1 ?_
          simp only [Act.put, List.setIfInBounds_toArray, List.set_cons_zero, List.set_cons_succ]
          refine wpAnyH_take (i := 5) (oi := ⟨some 85, _, _, _, _, _⟩) (v := .agg #[.slice a0 an0 ac0, .slice a1 an1 ac1, .slice a2 an2 ac2, .slice a3 an3 ac3, .slice a4 an4 ac4]) rfl (by kernel_rfl) (by kernel_rfl) (by kernel_rfl) (fun _ _ _ h => h) (.inl ⟨by kernel_rfl, fun V hS => by obtain ⟨h0, h1, h2, h3, h4⟩ := five_cells (HBA.out.below hS HBA.out.lt); go_simp⟩) hS1 ?_
          simp only [Act.put, List.setIfInBounds_toArray, List.set_cons_zero, List.set_cons_succ]
          refine wpAnyH_ready (rs := [6]) (by kernel_rfl) (by simp) ?_
          refine AllReadyH.cons rfl (fun K' hK => ?_) AllReadyH.nil
          go_simp
          have hs := rencode_any x _ (HX11.out.below hS1) HSS.out.m HM.out (by have := HSS.out.l; omega)
          rw [HLE.out, HAV.out] at hs
          refine hs.mono ?_
          rintro e u1 ⟨v8, rfl, hv8, hbu1⟩
          obtain ⟨A8, c8, rfl, _, _, hr8, _⟩ := hv8.shape
          clear hs
          go_simp
          refine hK.out _ _ ((hS1).trans (hbu1.mono (hS1).size)) (fun hS2 => ?_)
          clear hK K' hS1
          refine wpAnyH_ready (rs := [7]) (by kernel_rfl) (by simp) ?_
          refine AllReadyH.cons rfl (fun K' hK => ?_) AllReadyH.nil
          go_simp
          have hc := run_string hr8 L.length c8 rfl
          go_simp
          refine hK.out _ _ ((hS2)) (fun hS3 => ?_)
          clear hK K' hS2
          refine wpAnyH_take (i := 8) (oi := ⟨some 88, _, _, _, _, _⟩) (v := .bool true) rfl (by kernel_rfl) (by kernel_rfl) (by kernel_rfl) (fun _ _ _ h => h) (.inl ⟨by kernel_rfl, fun V hS => by go_simp⟩) hS3 ?_
          simp only [Act.put, List.setIfInBounds_toArray, List.set_cons_zero, List.set_cons_succ]
          refine wpAnyH_take (i := 9) (oi := ⟨some 89, _, _, _, _, _⟩) (v := .bool true) rfl (by kernel_rfl) (by kernel_rfl) (by kernel_rfl) (fun _ _ _ h => h) (.inl ⟨by kernel_rfl, fun V hS => by go_simp⟩) hS3 ?_
          simp only [Act.put, List.setIfInBounds_toArray, List.set_cons_zero, List.set_cons_succ]
          refine wpAnyH_take (i := 10) (oi := ⟨some 90, _, _, _, _, _⟩) (v := .bool true) rfl (by kernel_rfl) (by kernel_rfl) (by kernel_rfl) (fun _ _ _ h => h) (.inl ⟨by kernel_rfl, fun V hS => by go_simp⟩) hS3 ?_
          simp only [Act.put, List.setIfInBounds_toArray, List.set_cons_zero, List.set_cons_succ]
          refine wpAnyH_take (i := 11) (oi := ⟨some 91, _, _, _, _, _⟩) (v := .int .i64 0) rfl (by kernel_rfl) (by kernel_rfl) (by kernel_rfl) (fun _ _ _ h => h) (.inl ⟨by kernel_rfl, fun V hS => by go_simp⟩) hS3 ?_
          simp only [Act.put, List.setIfInBounds_toArray, List.set_cons_zero, List.set_cons_succ]
          refine wpAnyH_take (i := 12) (oi := ⟨some 92, _, _, _, _, _⟩) (v := .bool true) rfl (by kernel_rfl) (by kernel_rfl) (by kernel_rfl) (fun _ _ _ h => h) (.inl ⟨by kernel_rfl, fun V hS => by go_simp⟩) hS3 ?_
          simp only [Act.put, List.setIfInBounds_toArray, List.set_cons_zero, List.set_cons_succ]
          refine wpAnyH_take (i := 13) (oi := ⟨some 93, _, _, _, _, _⟩) (v := .bool true) rfl (by kernel_rfl) (by kernel_rfl) (by kernel_rfl) (fun _ _ _ h => h) (.inl ⟨by kernel_rfl, fun V hS => by go_simp⟩) hS3 ?_
          simp only [Act.put, List.setIfInBounds_toArray, List.set_cons_zero, List.set_cons_succ]
          refine wpAnyH_take (i := 14) (oi := ⟨some 94, _, _, _, _, _⟩) (v := .bool true) rfl (by kernel_rfl) (by kernel_rfl) (by kernel_rfl) (fun _ _ _ h => h) (.inl ⟨by kernel_rfl, fun V hS => by go_simp⟩) hS3 ?_
          simp only [Act.put, List.setIfInBounds_toArray, List.set_cons_zero, List.set_cons_succ]
          refine wpAnyH_take (i := 15) (oi := ⟨some 95, _, _, _, _, _⟩) (v := .agg #[.slice z0 zn0 zc0, .slice z1 zn1 zc1, .slice z2 zn2 zc2, .slice z3 zn3 zc3, .slice z4 zn4 zc4]) rfl (by kernel_rfl) (by kernel_rfl) (by kernel_rfl) (fun _ _ _ h => h) (.inl ⟨by kernel_rfl, fun V hS => by obtain ⟨h0, h1, h2, h3, h4⟩ := five_cells (HBZ.out.below hS HBZ.out.lt); go_simp⟩) hS3 ?_
          simp only [Act.put, List.setIfInBounds_toArray, List.set_cons_zero, List.set_cons_succ]
          refine wpAnyH_take (i := 16) (oi := ⟨some 96, _, _, _, _, _⟩) (v := .agg #[.slice a0 an0 ac0, .slice a1 an1 ac1, .slice a2 an2 ac2, .slice a3 an3 ac3, .slice a4 an4 ac4]) rfl (by kernel_rfl) (by kernel_rfl) (by kernel_rfl) (fun _ _ _ h => h) (.inl ⟨by kernel_rfl, fun V hS => by obtain ⟨h0, h1, h2, h3, h4⟩ := five_cells (HBA.out.below hS HBA.out.lt); go_simp⟩) hS3 ?_
          simp only [Act.put, List.setIfInBounds_toArray, List.set_cons_zero, List.set_cons_succ]
          refine wpAnyH_ready (rs := [17]) (by kernel_rfl) (by simp) ?_
          refine AllReadyH.cons rfl (fun K' hK => ?_) AllReadyH.nil
          go_simp
          have hs := rsame_any Z x u1 (HTZ.out.below hS3).at_ (HX11.out.below hS3) HMZ.out HSS.out.m
          rw [decide_eq_true HZX.out, HZV.out, HAV.out] at hs
          refine hs.mono ?_
          rintro e u2 ⟨rfl, hbu2⟩
          clear hs
          go_simp
          refine hK.out _ _ ((hS3).trans (hbu2.mono (hS3).size)) (fun hS4 => ?_)
          clear hK K' hS3
          refine wpAnyH_take (i := 18) (oi := ⟨some 98, _, _, _, _, _⟩) (v := .bool true) rfl (by kernel_rfl) (by kernel_rfl) (by kernel_rfl) (fun _ _ _ h => h) (.inl ⟨by kernel_rfl, fun V hS => by go_simp⟩) hS4 ?_
          simp only [Act.put, List.setIfInBounds_toArray, List.set_cons_zero, List.set_cons_succ]
          refine wpAnyH_take (i := 19) (oi := ⟨some 4, _, _, _, _, _⟩) (v := .bool true) rfl (by kernel_rfl) (by kernel_rfl) (by kernel_rfl) (fun _ _ _ h => h) (.inl ⟨by kernel_rfl, fun V hS => by go_simp⟩) hS4 ?_
          simp only [Act.put, List.setIfInBounds_toArray, List.set_cons_zero, List.set_cons_succ]
          refine wpAnyH_done (by kernel_rfl) ?_ _
          go_wp2
          go_ret
          exact ⟨rfl, HB11.out.trans (hS4.mono HB11.out.size)⟩
      · subst e1
        subst e2
        refine wp_region_held_drew (S := fun V => Below WR.heap.size WR V) (by kernel_rfl) ((Below.refl _ _).drew) (fun hS1 => ?_)
        refine wpAnyH_ready (rs := [0]) (by kernel_rfl) (by simp) ?_
        refine AllReadyH.cons rfl (fun K' hK => ?_) AllReadyH.nil
        go_simp
        refine (slives_any _ (TabK.below HK.out (HB6.out.trans ((hS1).mono HB6.out.size))) (Tab.below HT.out (HB6.out.trans ((hS1).mono HB6.out.size)))).mono ?_
        rintro e v1 ⟨rfl, hb1⟩
        go_simp
        refine hK.out _ _ ((hS1).trans (hb1.mono (hS1).size)) (fun hS2 => ?_)
        clear hK K' hS1
        refine wpAnyH_take (i := 1) (oi := ⟨some 37, _, _, _, _, _⟩) (v := .bool false) rfl (by kernel_rfl) (by kernel_rfl) (by kernel_rfl) (fun _ _ _ h => h) (.inl ⟨by kernel_rfl, fun V hS => by go_simp⟩) hS2 ?_
        simp only [Act.put, List.setIfInBounds_toArray, List.set_cons_zero, List.set_cons_succ]
        refine wpAnyH_take (i := 2) (oi := ⟨some 38, _, _, _, _, _⟩) (v := .bool false) rfl (by kernel_rfl) (by kernel_rfl) (by kernel_rfl) (fun _ _ _ h => h) (.inl ⟨by kernel_rfl, fun V hS => by go_simp⟩) hS2 ?_
        simp only [Act.put, List.setIfInBounds_toArray, List.set_cons_zero, List.set_cons_succ]
        refine wpAnyH_take (i := 3) (oi := ⟨some 39, _, _, _, _, _⟩) (v := .agg #[.slice a0 an0 ac0, .slice a1 an1 ac1, .slice a2 an2 ac2, .slice a3 an3 ac3, .slice a4 an4 ac4]) rfl (by kernel_rfl) (by kernel_rfl) (by kernel_rfl) (fun _ _ _ h => h) (.inl ⟨by kernel_rfl, fun V hS => by obtain ⟨h0, h1, h2, h3, h4⟩ := five_cells (HBA6.out.below hS HBA6.out.lt); go_simp⟩) hS2 ?_
        simp only [Act.put, List.setIfInBounds_toArray, List.set_cons_zero, List.set_cons_succ]
        refine wpAnyH_take (i := 5) (oi := ⟨some 41, _, _, _, _, _⟩) (v := .agg #[.slice a0 an0 ac0, .slice a1 an1 ac1, .slice a2 an2 ac2, .slice a3 an3 ac3, .slice a4 an4 ac4]) rfl (by kernel_rfl) (by kernel_rfl) (by kernel_rfl) (fun _ _ _ h => h) (.inl ⟨by kernel_rfl, fun V hS => by obtain ⟨h0, h1, h2, h3, h4⟩ := five_cells (HBA6.out.below hS HBA6.out.lt); go_simp⟩) hS2 ?_
        simp only [Act.put, List.setIfInBounds_toArray, List.set_cons_zero, List.set_cons_succ]
        refine wpAnyH_ready (rs := [4]) (by kernel_rfl) (by simp) ?_
        refine AllReadyH.cons rfl (fun K' hK => ?_) AllReadyH.nil
        go_simp
        have hs := smay_any x v1 (HX6.out.below hS2) HSS.out.m (Tab.below HT.out (HB6.out.trans ((hS2).mono HB6.out.size)))
        rw [HM.out, HAV.out] at hs
        refine hs.mono ?_
        rintro e v2 ⟨rfl, hbv2⟩
        clear hs
        go_simp
        refine hK.out _ _ ((hS2).trans (hbv2.mono (hS2).size)) (fun hS3 => ?_)
        clear hK K' hS2
        refine wpAnyH_ready (rs := [6]) (by kernel_rfl) (by simp) ?_
        refine AllReadyH.cons rfl (fun K' hK => ?_) AllReadyH.nil
        go_simp
        have hs := rmay_any x v2 (HX6.out.below hS3) HSS.out.m
        rw [HM.out, HAV.out] at hs
        refine hs.mono ?_
        rintro e v3 ⟨rfl, hbv3⟩
        clear hs
        go_simp
        refine hK.out _ _ ((hS3).trans (hbv3.mono (hS3).size)) (fun hS4 => ?_)
        clear hK K' hS3
        refine wpAnyH_take (i := 7) (oi := ⟨some 43, _, _, _, _, _⟩) (v := .bool false) rfl (by kernel_rfl) (by kernel_rfl) (by kernel_rfl) (fun _ _ _ h => h) (.inl ⟨by kernel_rfl, fun V hS => by go_simp⟩) hS4 ?_
        simp only [Act.put, List.setIfInBounds_toArray, List.set_cons_zero, List.set_cons_succ]
        refine wpAnyH_take (i := 8) (oi := ⟨some 44, _, _, _, _, _⟩) (v := .bool false) rfl (by kernel_rfl) (by kernel_rfl) (by kernel_rfl) (fun _ _ _ h => h) (.inl ⟨by kernel_rfl, fun V hS => by go_simp⟩) hS4 ?_
        simp only [Act.put, List.setIfInBounds_toArray, List.set_cons_zero, List.set_cons_succ]
        refine wpAnyH_take (i := 9) (oi := ⟨some 45, _, _, _, _, _⟩) (v := .bool false) rfl (by kernel_rfl) (by kernel_rfl) (by kernel_rfl) (fun _ _ _ h => h) (.inl ⟨by kernel_rfl, fun V hS => by go_simp⟩) hS4 ?_
        simp only [Act.put, List.setIfInBounds_toArray, List.set_cons_zero, List.set_cons_succ]
        refine wpAnyH_take (i := 10) (oi := ⟨some 46, _, _, _, _, _⟩) (v := .agg #[.slice x0 xn0 xc0, .slice x1 xn1 xc1, .slice x2 xn2 xc2, .slice x3 xn3 xc3, .slice x4 xn4 xc4]) rfl (by kernel_rfl) (by kernel_rfl) (by kernel_rfl) (fun _ _ _ h => h) (.inl ⟨by kernel_rfl, fun V hS => by obtain ⟨h0, h1, h2, h3, h4⟩ := five_cells (HBC6.out.below hS HBC6.out.lt); go_simp⟩) hS4 ?_
        simp only [Act.put, List.setIfInBounds_toArray, List.set_cons_zero, List.set_cons_succ]
        refine wpAnyH_take (i := 11) (oi := ⟨some 47, _, _, _, _, _⟩) (v := .agg #[.slice y0 yn0 yc0, .slice y1 yn1 yc1, .slice y2 yn2 yc2, .slice y3 yn3 yc3, .slice y4 yn4 yc4]) rfl (by kernel_rfl) (by kernel_rfl) (by kernel_rfl) (fun _ _ _ h => h) (.inl ⟨by kernel_rfl, fun V hS => by obtain ⟨h0, h1, h2, h3, h4⟩ := five_cells (HBB6.out.below hS HBB6.out.lt); go_simp⟩) hS4 ?_
        simp only [Act.put, List.setIfInBounds_toArray, List.set_cons_zero, List.set_cons_succ]
        refine wpAnyH_ready (rs := [12]) (by kernel_rfl) (by simp) ?_
        refine AllReadyH.cons rfl (fun K' hK => ?_) AllReadyH.nil
        go_simp
        have hs := rsame_any X Y v3 (HTX.out.below hS4).at_ (HTY.out.below hS4).at_ HMX.out HMY.out
        rw [decide_eq_true HXY.out, HXV.out, HYV.out] at hs
        refine hs.mono ?_
        rintro e v4 ⟨rfl, hbv4⟩
        clear hs
        go_simp
        refine hK.out _ _ ((hS4).trans (hbv4.mono (hS4).size)) (fun hS5 => ?_)
        clear hK K' hS4
        refine wpAnyH_take (i := 13) (oi := ⟨some 49, _, _, _, _, _⟩) (v := .bool false) rfl (by kernel_rfl) (by kernel_rfl) (by kernel_rfl) (fun _ _ _ h => h) (.inl ⟨by kernel_rfl, fun V hS => by go_simp⟩) hS5 ?_
        simp only [Act.put, List.setIfInBounds_toArray, List.set_cons_zero, List.set_cons_succ]
        refine wpAnyH_take (i := 14) (oi := ⟨some 50, _, _, _, _, _⟩) (v := .bool false) rfl (by kernel_rfl) (by kernel_rfl) (by kernel_rfl) (fun _ _ _ h => h) (.inl ⟨by kernel_rfl, fun V hS => by go_simp⟩) hS5 ?_
        simp only [Act.put, List.setIfInBounds_toArray, List.set_cons_zero, List.set_cons_succ]
        refine wpAnyH_take (i := 15) (oi := ⟨some 51, _, _, _, _, _⟩) (v := .bool false) rfl (by kernel_rfl) (by kernel_rfl) (by kernel_rfl) (fun _ _ _ h => h) (.inl ⟨by kernel_rfl, fun V hS => by go_simp⟩) hS5 ?_
        simp only [Act.put, List.setIfInBounds_toArray, List.set_cons_zero, List.set_cons_succ]
        refine wpAnyH_take (i := 16) (oi := ⟨some 52, _, _, _, _, _⟩) (v := .int .i64 230) rfl (by kernel_rfl) (by kernel_rfl) (by kernel_rfl) (fun _ _ _ h => h) (.inl ⟨by kernel_rfl, fun V hS => by go_simp⟩) hS5 ?_
        simp only [Act.put, List.setIfInBounds_toArray, List.set_cons_zero, List.set_cons_succ]
        refine wpAnyH_take (i := 17) (oi := ⟨some 53, _, _, _, _, _⟩) (v := .bool false) rfl (by kernel_rfl) (by kernel_rfl) (by kernel_rfl) (fun _ _ _ h => h) (.inl ⟨by kernel_rfl, fun V hS => by go_simp⟩) hS5 ?_
        simp only [Act.put, List.setIfInBounds_toArray, List.set_cons_zero, List.set_cons_succ]
        refine wpAnyH_take (i := 18) (oi := ⟨some 54, _, _, _, _, _⟩) (v := .bool false) rfl (by kernel_rfl) (by kernel_rfl) (by kernel_rfl) (fun _ _ _ h => h) (.inl ⟨by kernel_rfl, fun V hS => by go_simp⟩) hS5 ?_
        simp only [Act.put, List.setIfInBounds_toArray, List.set_cons_zero, List.set_cons_succ]
        refine wpAnyH_take (i := 19) (oi := ⟨some 55, _, _, _, _, _⟩) (v := .bool false) rfl (by kernel_rfl) (by kernel_rfl) (by kernel_rfl) (fun _ _ _ h => h) (.inl ⟨by kernel_rfl, fun V hS => by go_simp⟩) hS5 ?_
        simp only [Act.put, List.setIfInBounds_toArray, List.set_cons_zero, List.set_cons_succ]
        refine wpAnyH_take (i := 20) (oi := ⟨some 56, _, _, _, _, _⟩) (v := .bool false) rfl (by kernel_rfl) (by kernel_rfl) (by kernel_rfl) (fun _ _ _ h => h) (.inl ⟨by kernel_rfl, fun V hS => by go_simp⟩) hS5 ?_
        simp only [Act.put, List.setIfInBounds_toArray, List.set_cons_zero, List.set_cons_succ]
        refine wpAnyH_take (i := 21) (oi := ⟨some 57, _, _, _, _, _⟩) (v := .bool false) rfl (by kernel_rfl) (by kernel_rfl) (by kernel_rfl) (fun _ _ _ h => h) (.inl ⟨by kernel_rfl, fun V hS => by go_simp⟩) hS5 ?_
        simp only [Act.put, List.setIfInBounds_toArray, List.set_cons_zero, List.set_cons_succ]
        refine wpAnyH_take (i := 22) (oi := ⟨some 58, _, _, _, _, _⟩) (v := .bool false) rfl (by kernel_rfl) (by kernel_rfl) (by kernel_rfl) (fun _ _ _ h => h) (.inl ⟨by kernel_rfl, fun V hS => by go_simp⟩) hS5 ?_
        simp only [Act.put, List.setIfInBounds_toArray, List.set_cons_zero, List.set_cons_succ]
        refine wpAnyH_take (i := 23) (oi := ⟨some 59, _, _, _, _, _⟩) (v := .bool true) rfl (by kernel_rfl) (by kernel_rfl) (by kernel_rfl) (fun _ _ _ h => h) (.inl ⟨by kernel_rfl, fun V hS => by go_simp⟩) hS5 ?_
        simp only [Act.put, List.setIfInBounds_toArray, List.set_cons_zero, List.set_cons_succ]
        refine wpAnyH_take (i := 24) (oi := ⟨some 60, _, _, _, _, _⟩) (v := .bool true) rfl (by kernel_rfl) (by kernel_rfl) (by kernel_rfl) (fun _ _ _ h => h) (.inl ⟨by kernel_rfl, fun V hS => by go_simp⟩) hS5 ?_
        simp only [Act.put, List.setIfInBounds_toArray, List.set_cons_zero, List.set_cons_succ]
        refine wpAnyH_take (i := 25) (oi := ⟨some 61, _, _, _, _, _⟩) (v := .int .i64 230) rfl (by kernel_rfl) (by kernel_rfl) (by kernel_rfl) (fun _ _ _ h => h) (.inl ⟨by kernel_rfl, fun V hS => by go_simp⟩) hS5 ?_
        simp only [Act.put, List.setIfInBounds_toArray, List.set_cons_zero, List.set_cons_succ]
        refine wpAnyH_take (i := 26) (oi := ⟨some 62, _, _, _, _, _⟩) (v := .bool false) rfl (by kernel_rfl) (by kernel_rfl) (by kernel_rfl) (fun _ _ _ h => h) (.inl ⟨by kernel_rfl, fun V hS => by go_simp⟩) hS5 ?_
        simp only [Act.put, List.setIfInBounds_toArray, List.set_cons_zero, List.set_cons_succ]
        refine wpAnyH_take (i := 27) (oi := ⟨some 63, _, _, _, _, _⟩) (v := .bool false) rfl (by kernel_rfl) (by kernel_rfl) (by kernel_rfl) (fun _ _ _ h => h) (.inl ⟨by kernel_rfl, fun V hS => by go_simp⟩) hS5 ?_
        simp only [Act.put, List.setIfInBounds_toArray, List.set_cons_zero, List.set_cons_succ]
        refine wpAnyH_take (i := 28) (oi := ⟨some 64, _, _, _, _, _⟩) (v := .bool false) rfl (by kernel_rfl) (by kernel_rfl) (by kernel_rfl) (fun _ _ _ h => h) (.inl ⟨by kernel_rfl, fun V hS => by go_simp⟩) hS5 ?_
        simp only [Act.put, List.setIfInBounds_toArray, List.set_cons_zero, List.set_cons_succ]
        refine wpAnyH_done (by kernel_rfl) ?_ _
        have HB7 : Hid (Below W.heap.size W v4) := Lib.hid (HB6.out.trans (hS5.mono HB6.out.size))
        have HX7 := Lib.hid (HX.out.below HB7.out)
        have HCA7 : Hid (Blk v4 W.heap.size 25 #[.slice a0 an0 ac0, .slice a1 an1 ac1, .slice a2 an2 ac2, .slice a3 an3 ac3, .slice a4 an4 ac4]) := Lib.hid (HBA6.out.below hS5 HBA6.out.lt)
        have hmm := rmay_any x v4 HX7.out HSS.out.m
        rw [HM.out, HAV.out] at hmm
        have HMM := Lib.hid hmm
        obtain ⟨s0, s1, s2, s3, s4⟩ := five_cells HCA7.out
        clear hmm
        go_wp2_with fail
        refine HMM.out.mono ?_
        rintro e w8 ⟨rfl, hb8⟩
        have HB8 : Hid (Below W.heap.size W w8) := Lib.hid (HB7.out.trans (hb8.mono HB7.out.size))
        have HRR : Hid (m = true → ev = 0 ∧ RB w8 A5 L ∧ L.length = n5 ∧ n5 ≤ c5 ∧ c5 ≤ maxLen) := Lib.hid (fun e => by
          rcases HEN.out with ⟨_, h1, h2, h3, h4, h5⟩ | ⟨h1, _⟩
          · exact ⟨h1, (h2.below ((HB36.out.trans (hS5.mono HB36.out.size)).trans (hb8.mono (HB36.out.trans (hS5.mono HB36.out.size)).size))), h3, h4, h5⟩
          · rw [e] at h1; cases h1)
        have HRN : Hid (m = false → n5 = 0 ∧ ev = 1) := Lib.hid (fun e => by
          rcases HEN.out with ⟨h1, _⟩ | ⟨_, h2⟩
          · rw [e] at h1; cases h1
          · exact h2)
        have HCA8 : Hid (Blk w8 W.heap.size 25 #[.slice a0 an0 ac0, .slice a1 an1 ac1, .slice a2 an2 ac2, .slice a3 an3 ac3, .slice a4 an4 ac4]) := Lib.hid (HCA7.out.below hb8 HCA7.out.lt)
        clear hb8 s0 s1 s2 s3 s4
        cases m with
        | false =>
          obtain ⟨hn5, hev⟩ := HRN.out rfl
          subst hev
          rw [hn5]
          clear hn5
          go_wp2
          go_ret
          exact ⟨rfl, HB8.out⟩
        | true =>
          obtain ⟨hev, hr5, hl5, hnc5, hcm5⟩ := HRR.out rfl
          subst hev
          have HR5 := Lib.hid hr5
          have HL5 := Lib.hid hl5
          have hDD := decode_both A5 n5 c5 L w8 hr5 hl5 (by have := HLL.out; omega) (Tab.below HT.out HB8.out)
          unfold DecB at hDD
          have HDD := Lib.hid hDD
          clear hr5 hl5 hnc5 hcm5 hDD
          go_wp2_with fail
          refine HDD.out.mono ?_
          rintro e w10 ⟨Z, cz, rfl, hb10, htz, hmz, hz⟩
          have hz2 : Z.sta = x.sta ∧ cz = 0 := by
            have hd := decP_enc fname_size path_size x.sta HM.out
            rw [HLE.out] at hd
            rcases hz with ⟨h1, h2⟩ | ⟨h1, _⟩
            · rw [hd] at h1; injection h1 with h1; exact ⟨h1.symm, h2⟩
            · rw [hd] at h1; cases h1
          obtain ⟨hz3, hz4⟩ := hz2
          subst hz4
          have HZX := Lib.hid hz3
          have HMZ := Lib.hid hmz
          have HB10 : Hid (Below W.heap.size W w10) := Lib.hid (HB8.out.trans (hb10.mono HB8.out.size))
          obtain ⟨z0, zn0, zc0, z1, zn1, zc1, z2, zn2, zc2, z3, zn3, zc3, z4, zn4, zc4, hzv, -⟩ := Z.five
          have HZV := Lib.hid hzv
          rw [hzv]
          have HA10 : Hid (Below w10.heap.size w10 (w10.alloc (.cells #[.slice z0 zn0 zc0, .slice z1 zn1 zc1, .slice z2 zn2 zc2, .slice z3 zn3 zc3, .slice z4 zn4 zc4] 25))) := Lib.hid ((Below.refl _ _).alloc (Nat.le_refl _) _)
          have HB11 : Hid (Below W.heap.size W (w10.alloc (.cells #[.slice z0 zn0 zc0, .slice z1 zn1 zc1, .slice z2 zn2 zc2, .slice z3 zn3 zc3, .slice z4 zn4 zc4] 25))) := Lib.hid (HB10.out.trans (HA10.out.mono HB10.out.size))
          have HB8t : Hid (Below w8.heap.size w8 (w10.alloc (.cells #[.slice z0 zn0 zc0, .slice z1 zn1 zc1, .slice z2 zn2 zc2, .slice z3 zn3 zc3, .slice z4 zn4 zc4] 25))) := Lib.hid (hb10.trans (HA10.out.mono hb10.size))
          have HBZ : Hid (Blk (w10.alloc (.cells #[.slice z0 zn0 zc0, .slice z1 zn1 zc1, .slice z2 zn2 zc2, .slice z3 zn3 zc3, .slice z4 zn4 zc4] 25)) w10.heap.size 25 #[.slice z0 zn0 zc0, .slice z1 zn1 zc1, .slice z2 zn2 zc2, .slice z3 zn3 zc3, .slice z4 zn4 zc4]) := Lib.hid (Blk.new _ _ _)
          have HBA := Lib.hid (HCA8.out.below HB8t.out HCA8.out.lt)
          have HTZ := Lib.hid (htz.below HA10.out)
          have HR11 := Lib.hid (HR5.out.below HB8t.out)
          have HX11 := Lib.hid (HX.out.below HB11.out)
          clear hb10 htz hmz hz hz3 hzv
          go_wp2
          generalize w10.alloc (.cells #[.slice z0 zn0 zc0, .slice z1 zn1 zc1, .slice z2 zn2 zc2, .slice z3 zn3 zc3, .slice z4 zn4 zc4] 25) = WQ at HB11 HBZ HBA HTZ HR11 HX11 ⊢
          refine wp_region_held_drew (S := fun V => Below WQ.heap.size WQ V) (by kernel_rfl) ((Below.refl _ _).drew) (fun hS1 => ?_)
          refine wpAnyH_take (i := 0) (oi := ⟨some 80, _, _, _, _, _⟩) (v := .int .i64 0) rfl (by kernel_rfl) (by kernel_rfl) (by kernel_rfl) (fun _ _ _ h => h) (.inl ⟨by kernel_rfl, fun V hS => by go_simp⟩) hS1 ?_
          simp only [Act.put, List.setIfInBounds_toArray, List.set_cons_zero, List.set_cons_succ]
          refine wpAnyH_take (i := 1) (oi := ⟨some 81, _, _, _, _, _⟩) (v := .bool true) rfl (by kernel_rfl) (by kernel_rfl) (by kernel_rfl) (fun _ _ _ h => h) (.inl ⟨by kernel_rfl, fun V hS => by go_simp⟩) hS1 ?_
          simp only [Act.put, List.setIfInBounds_toArray, List.set_cons_zero, List.set_cons_succ]
          refine wpAnyH_take (i := 2) (oi := ⟨some 82, _, _, _, _, _⟩) (v := .bool true) rfl (by kernel_rfl) (by kernel_rfl) (by kernel_rfl) (fun _ _ _ h => h) (.inl ⟨by kernel_rfl, fun V hS => by go_simp⟩) hS1 ?_
          simp only [Act.put, List.setIfInBounds_toArray, List.set_cons_zero, List.set_cons_succ]
          refine wpAnyH_take (i := 3) (oi := ⟨some 83, _, _, _, _, _⟩) (v := .slice A5 n5 c5) rfl (by kernel_rfl) (by kernel_rfl) (by kernel_rfl) (fun _ _ _ h => h) (.inl ⟨by kernel_rfl, fun V hS => by go_simp⟩) hS1 ?_
          simp only [Act.put, List.setIfInBounds_toArray, List.set_cons_zero, List.set_cons_succ]
          refine wpAnyH_take (i := 4) (oi := ⟨some 84, _, _, _, _, _⟩) (v := .string ⟨L.toArray⟩) rfl (by kernel_rfl) (by kernel_rfl) (by kernel_rfl) (fun _ _ _ h => h) (.inl ⟨by kernel_rfl, fun V hS => by have hc := run_string (HR11.out.below hS) n5 c5 HL5.out; go_simp⟩) hS1 ?_
          simp only [Act.put, List.setIfInBounds_toArray, List.set_cons_zero, List.set_cons_succ]
          refine wpAnyH_take (i := 5) (oi := ⟨some 85, _, _, _, _, _⟩) (v := .agg #[.slice a0 an0 ac0, .slice a1 an1 ac1, .slice a2 an2 ac2, .slice a3 an3 ac3, .slice a4 an4 ac4]) rfl (by kernel_rfl) (by kernel_rfl) (by kernel_rfl) (fun _ _ _ h => h) (.inl ⟨by kernel_rfl, fun V hS => by obtain ⟨h0, h1, h2, h3, h4⟩ := five_cells (HBA.out.below hS HBA.out.lt); go_simp⟩) hS1 ?_
          simp only [Act.put, List.setIfInBounds_toArray, List.set_cons_zero, List.set_cons_succ]
          refine wpAnyH_ready (rs := [6]) (by kernel_rfl) (by simp) ?_
          refine AllReadyH.cons rfl (fun K' hK => ?_) AllReadyH.nil
          go_simp
          have hs := rencode_any x _ (HX11.out.below hS1) HSS.out.m HM.out (by have := HSS.out.l; omega)
          rw [HLE.out, HAV.out] at hs
          refine hs.mono ?_
          rintro e u1 ⟨v8, rfl, hv8, hbu1⟩
          obtain ⟨A8, c8, rfl, _, _, hr8, _⟩ := hv8.shape
          clear hs
          go_simp
          refine hK.out _ _ ((hS1).trans (hbu1.mono (hS1).size)) (fun hS2 => ?_)
          clear hK K' hS1
          refine wpAnyH_ready (rs := [7]) (by kernel_rfl) (by simp) ?_
          refine AllReadyH.cons rfl (fun K' hK => ?_) AllReadyH.nil
          go_simp
          have hc := run_string hr8 L.length c8 rfl
          go_simp
          refine hK.out _ _ ((hS2)) (fun hS3 => ?_)
          clear hK K' hS2
          refine wpAnyH_take (i := 8) (oi := ⟨some 88, _, _, _, _, _⟩) (v := .bool true) rfl (by kernel_rfl) (by kernel_rfl) (by kernel_rfl) (fun _ _ _ h => h) (.inl ⟨by kernel_rfl, fun V hS => by go_simp⟩) hS3 ?_
          simp only [Act.put, List.setIfInBounds_toArray, List.set_cons_zero, List.set_cons_succ]
          refine wpAnyH_take (i := 9) (oi := ⟨some 89, _, _, _, _, _⟩) (v := .bool true) rfl (by kernel_rfl) (by kernel_rfl) (by kernel_rfl) (fun _ _ _ h => h) (.inl ⟨by kernel_rfl, fun V hS => by go_simp⟩) hS3 ?_
          simp only [Act.put, List.setIfInBounds_toArray, List.set_cons_zero, List.set_cons_succ]
          refine wpAnyH_take (i := 10) (oi := ⟨some 90, _, _, _, _, _⟩) (v := .bool true) rfl (by kernel_rfl) (by kernel_rfl) (by kernel_rfl) (fun _ _ _ h => h) (.inl ⟨by kernel_rfl, fun V hS => by go_simp⟩) hS3 ?_
          simp only [Act.put, List.setIfInBounds_toArray, List.set_cons_zero, List.set_cons_succ]
          refine wpAnyH_take (i := 11) (oi := ⟨some 91, _, _, _, _, _⟩) (v := .int .i64 0) rfl (by kernel_rfl) (by kernel_rfl) (by kernel_rfl) (fun _ _ _ h => h) (.inl ⟨by kernel_rfl, fun V hS => by go_simp⟩) hS3 ?_
          simp only [Act.put, List.setIfInBounds_toArray, List.set_cons_zero, List.set_cons_succ]
          refine wpAnyH_take (i := 12) (oi := ⟨some 92, _, _, _, _, _⟩) (v := .bool true) rfl (by kernel_rfl) (by kernel_rfl) (by kernel_rfl) (fun _ _ _ h => h) (.inl ⟨by kernel_rfl, fun V hS => by go_simp⟩) hS3 ?_
          simp only [Act.put, List.setIfInBounds_toArray, List.set_cons_zero, List.set_cons_succ]
          refine wpAnyH_take (i := 13) (oi := ⟨some 93, _, _, _, _, _⟩) (v := .bool true) rfl (by kernel_rfl) (by kernel_rfl) (by kernel_rfl) (fun _ _ _ h => h) (.inl ⟨by kernel_rfl, fun V hS => by go_simp⟩) hS3 ?_
          simp only [Act.put, List.setIfInBounds_toArray, List.set_cons_zero, List.set_cons_succ]
          refine wpAnyH_take (i := 14) (oi := ⟨some 94, _, _, _, _, _⟩) (v := .bool true) rfl (by kernel_rfl) (by kernel_rfl) (by kernel_rfl) (fun _ _ _ h => h) (.inl ⟨by kernel_rfl, fun V hS => by go_simp⟩) hS3 ?_
          simp only [Act.put, List.setIfInBounds_toArray, List.set_cons_zero, List.set_cons_succ]
          refine wpAnyH_take (i := 15) (oi := ⟨some 95, _, _, _, _, _⟩) (v := .agg #[.slice z0 zn0 zc0, .slice z1 zn1 zc1, .slice z2 zn2 zc2, .slice z3 zn3 zc3, .slice z4 zn4 zc4]) rfl (by kernel_rfl) (by kernel_rfl) (by kernel_rfl) (fun _ _ _ h => h) (.inl ⟨by kernel_rfl, fun V hS => by obtain ⟨h0, h1, h2, h3, h4⟩ := five_cells (HBZ.out.below hS HBZ.out.lt); go_simp⟩) hS3 ?_
          simp only [Act.put, List.setIfInBounds_toArray, List.set_cons_zero, List.set_cons_succ]
          refine wpAnyH_take (i := 16) (oi := ⟨some 96, _, _, _, _, _⟩) (v := .agg #[.slice a0 an0 ac0, .slice a1 an1 ac1, .slice a2 an2 ac2, .slice a3 an3 ac3, .slice a4 an4 ac4]) rfl (by kernel_rfl) (by kernel_rfl) (by kernel_rfl) (fun _ _ _ h => h) (.inl ⟨by kernel_rfl, fun V hS => by obtain ⟨h0, h1, h2, h3, h4⟩ := five_cells (HBA.out.below hS HBA.out.lt); go_simp⟩) hS3 ?_
          simp only [Act.put, List.setIfInBounds_toArray, List.set_cons_zero, List.set_cons_succ]
          refine wpAnyH_ready (rs := [17]) (by kernel_rfl) (by simp) ?_
          refine AllReadyH.cons rfl (fun K' hK => ?_) AllReadyH.nil
          go_simp
          have hs := rsame_any Z x u1 (HTZ.out.below hS3).at_ (HX11.out.below hS3) HMZ.out HSS.out.m
          rw [decide_eq_true HZX.out, HZV.out, HAV.out] at hs
          refine hs.mono ?_
          rintro e u2 ⟨rfl, hbu2⟩
          clear hs
          go_simp
          refine hK.out _ _ ((hS3).trans (hbu2.mono (hS3).size)) (fun hS4 => ?_)
          clear hK K' hS3
          refine wpAnyH_take (i := 18) (oi := ⟨some 98, _, _, _, _, _⟩) (v := .bool true) rfl (by kernel_rfl) (by kernel_rfl) (by kernel_rfl) (fun _ _ _ h => h) (.inl ⟨by kernel_rfl, fun V hS => by go_simp⟩) hS4 ?_
          simp only [Act.put, List.setIfInBounds_toArray, List.set_cons_zero, List.set_cons_succ]
          refine wpAnyH_take (i := 19) (oi := ⟨some 4, _, _, _, _, _⟩) (v := .bool true) rfl (by kernel_rfl) (by kernel_rfl) (by kernel_rfl) (fun _ _ _ h => h) (.inl ⟨by kernel_rfl, fun V hS => by go_simp⟩) hS4 ?_
          simp only [Act.put, List.setIfInBounds_toArray, List.set_cons_zero, List.set_cons_succ]
          refine wpAnyH_done (by kernel_rfl) ?_ _
          go_wp2
          go_ret
          exact ⟨rfl, HB11.out.trans (hS4.mono HB11.out.size)⟩
end Go.Proofs.YtgpcinfhcamgpaaGreatDoor
