/-
 lives of listing's laws.
-/
import Derived.Test.YtefkpphahimkgaaGreatDoorTk
import Derived.Test.YtefkpphahimkgaaGreatDoorLiL1
namespace Go.Proofs.YtefkpphahimkgaaGreatDoor
open Go.RowKit
attribute [local go_sem ↓] Go.wp_at_zero Go.wp_at_succ
set_option linter.unusedVariables false
set_option linter.unusedSimpArgs false
structure tabL (w : World) : Prop where
 u : tabU w
 p : tabP w
 m : tabM w
 k : TabK w
theorem tabL.below {w w' : World} (h : tabL w) (hb : Below w.heap.size w w') : tabL w' := ⟨h.u.below hb, h.p.below hb, h.m.below hb, h.k.below hb⟩
theorem rb_none (w : World) : RB w none [] := ⟨by simp [Lib.byteCells], fun h => by simp at h⟩
set_option maxRecDepth 100000 in
set_option maxHeartbeats 16000000 in
theorem llives_any (w : World) (ht : tabL w) : Calls Tryz.prog 8 #[] w fun e w' => BoP true w e w' := by
 obtain ⟨tx, hd⟩ := DT.ex (show mayB 9 = true by decide)
 have HD := Ld hd
 have HT0 := Ld ht
 clear hd ht
 go_enter Tryz.func8, Tryz.ntmps8
 go_wp2_with fail
 refine (one_any 3 _ (by decide)).mono ?_
 rintro e w1 ⟨g1, rfl, hm1, hb1⟩
 have HT1 := Ld (HT0.out.below hb1)
 have hv := value_yes HT1.out.u HT1.out.p ssN 3 9 hm1 may_one tx HD.out
 have HV := Ld hv
 have HB1 := Ld hb1
 clear hm1 hb1 hv
 unfold ssN at HV
 go_wp2_with fail
 refine HV.out.mono ?_
 rintro e w2 ⟨v, rfl, hpv, hov, hb2⟩
 clear HV
 unfold MV.val
 -- the value
 obtain ⟨W3, hW3⟩ : ∃ W3, W3 = w2.alloc (.cells #[.int .i64 v.k, .int .i64 v.n, .string v.s, .slice v.lA v.l.length v.lc, .slice v.mA v.m.length v.mc] 30) := ⟨_, rfl⟩
 have hb3 : Below w2.heap.size w2 W3 := by rw [hW3]; exact below_new _ _
 have hk3 : Blk W3 w2.heap.size 30 #[.int .i64 v.k, .int .i64 v.n, .string v.s, .slice v.lA v.l.length v.lc, .slice v.mA v.m.length v.mc] := by rw [hW3]; exact Blk.new _ _ _
 have hb13 : Below w1.heap.size w1 W3 := hb2.trans (hb3.mono hb2.size)
 have HT3 := Ld (HT1.out.below hb13)
 have HB3 := Ld (HB1.out.trans (hb13.mono HB1.out.size))
 have HPV := Ld hpv
 have HVA := Ld (hov.at_.bel hb3)
 have HK3 := Ld hk3
 have HW3 := Ld hW3
 clear hW3 hb3 hb13 hpv hov hb2 hk3 HB1
 obtain ⟨t0, t1, t2, t3, t4⟩ := five_cells HK3.out
 have HRD := Ld (read_yes HT3.out.m HT3.out.u HT3.out.p HVA.out ssN 3 9 tx [oneM 3] HPV.out may_one HD.out (by intro m hm; rw [List.mem_singleton] at hm; subst hm; exact ⟨(by decide : (Lit.int .i64 3).wf = true), (by decide : (Lit.int .i64 (-1)).wf = true)⟩) (by intro m hm; rw [List.mem_singleton] at hm; subst hm; exact ⟨(by decide : tgJ.size ≤ 140737488351232), (by decide : (⟨#[]⟩ : ByteArray).size ≤ 140737488351232)⟩))
 unfold MV.val ssN at HRD
 go_upto_region 2 with (fail)
 rw [← HW3.out]
 go_wp2_with fail
 refine HRD.out.mono ?_
 rintro e w4 ⟨A, c, rfl, hma, hb4⟩
 clear HRD t0 t1 t2 t3 t4
 simp only [List.length_cons, List.length_nil, Nat.zero_add]
 obtain ⟨W5, hW5⟩ : ∃ W5, W5 = w4.alloc (.cells #[.int .i64 3, .int .i64 9, .slice A 1 c] 24) := ⟨_, rfl⟩
 have hb5 : Below w4.heap.size w4 W5 := by rw [hW5]; exact below_new _ _
 have hk5 : Blk W5 w4.heap.size 24 #[.int .i64 3, .int .i64 9, .slice A 1 c] := by rw [hW5]; exact Blk.new _ _ _
 have hb35 : Below W3.heap.size W3 W5 := hb4.trans (hb5.mono hb4.size)
 have HT5 := Ld (HT3.out.below hb35)
 have HB5 := Ld (HB3.out.trans (hb35.mono HB3.out.size))
 have HK35 := Ld (HK3.out.below hb35 HK3.out.lt)
 have HVA5 := Ld (HVA.out.bel hb35)
 have HMA5 := Ld (hma.bel hb5)
 have HK5 := Ld hk5
 have HW5 := Ld hW5
 clear hW5 hb5 hb35 hma hb4 hk5
 obtain ⟨t0, t1, t2, t3, t4⟩ := five_cells HK35.out
 have HRN := Ld (read_no HT5.out.m HVA5.out ssN tsN 3 9 tx [oneM 3] HPV.out may_one HD.out (by decide))
 unfold MV.val tsN at HRN
 go_upto_region 3 with (fail)
 rw [← HW5.out]
 go_wp2_with fail
 refine HRN.out.mono ?_
 rintro e w6 ⟨rfl, hb6⟩
 clear HRN t0 t1 t2 t3 t4
 obtain ⟨W7, hW7⟩ : ∃ W7, W7 = w6.alloc (.cells #[.int .i64 0, .int .i64 0, .slice none 0 0] 24) := ⟨_, rfl⟩
 have hb7 : Below w6.heap.size w6 W7 := by rw [hW7]; exact below_new _ _
 have hb57 : Below W5.heap.size W5 W7 := hb6.trans (hb7.mono hb6.size)
 have HT7 := Ld (HT5.out.below hb57)
 have HB7 := Ld (HB5.out.trans (hb57.mono HB5.out.size))
 have HMA7 := Ld (HMA5.out.bel hb57)
 have HK7 := Ld (HK5.out.below hb57 HK5.out.lt)
 have HW7 := Ld hW7
 clear hW7 hb7 hb57 hb6
 obtain ⟨t0, t1, t2⟩ := three_cells HK7.out
 have HFN := Ld (find_any 3 9 HMA7.out tgJ)
 simp only [List.length_cons, List.length_nil, Nat.zero_add] at HFN
 unfold tgJ at HFN
 go_upto_region 4 with (fail)
 rw [← HW7.out]
 go_wp2_with fail
 refine HFN.out.mono ?_
 rintro e w8 ⟨m, b, rfl, hb8, hf8⟩
 clear HFN t0 t1 t2
 obtain ⟨rfl, rfl⟩ : b = true ∧ m = oneM 3 := by
  rcases hf8 with ⟨_, _, h2⟩ | ⟨h1, h2⟩
  ·have h3 : (none : Option ME) = some (oneM 3) := h2.symm.trans find_one
   cases h3
  ·have h3 : some m = some (oneM 3) := h2.symm.trans find_one
   injection h3 with h3
   exact ⟨h1, h3⟩
 clear hf8
 unfold ME.val oneM
 simp only []
 obtain ⟨W9, hW9⟩ : ∃ W9, W9 = w8.alloc (.cells #[.string tgJ, .int .i64 3, .int .i64 (-1), .string ⟨#[]⟩] 44) := ⟨_, rfl⟩
 have hb9 : Below w8.heap.size w8 W9 := by rw [hW9]; exact below_new _ _
 have hk9 : Blk W9 w8.heap.size 44 #[.string tgJ, .int .i64 3, .int .i64 (-1), .string ⟨#[]⟩] := by rw [hW9]; exact Blk.new _ _ _
 have hb79 : Below W7.heap.size W7 W9 := hb8.trans (hb9.mono hb8.size)
 have HT9 := Ld (HT7.out.below hb79)
 have HB9 := Ld (HB7.out.trans (hb79.mono HB7.out.size))
 have HMA9 := Ld (HMA7.out.bel hb79)
 have HK79 := Ld (HK7.out.below hb79 HK7.out.lt)
 have HK9 := Ld hk9
 have HW9 := Ld hW9
 clear hW9 hb9 hb79 hb8 hk9
 go_upto_region 5 with (fail)
 rw [← HW9.out]
 go_wp2_with fail
 refine (one_any 3 _ (by decide)).mono ?_
 rintro e w10 ⟨g10, rfl, hm10, hb10⟩
 have HM10 := Ld hm10
 have HB10 := Ld hb10
 clear hm10 hb10
 go_wp2_with fail
 refine (one_any 2 _ (by decide)).mono ?_
 rintro e w11 ⟨g11, rfl, hm11, hb11⟩
 have hol := older_any 3 9 2 9 (HM10.out.bel hb11) hm11 (by decide)
 rw [old_one] at hol
 simp only [List.length_cons, List.length_nil, Nat.zero_add] at hol
 have HOL := Ld hol
 have HB11 := Ld (HB10.out.trans (hb11.mono HB10.out.size))
 clear hm11 hb11 hol HM10 HB10
 go_wp2_with fail
 refine HOL.out.mono ?_
 rintro e w12 ⟨ov, rfl, ho12, hb12⟩
 obtain ⟨ob, oo, oc, rfl, hob, hoc⟩ := or_one ho12
 have hb912 := HB11.out.trans (hb12.mono HB11.out.size)
 have HT12 := Ld (HT9.out.below hb912)
 have HB12 := Ld (HB9.out.trans (hb912.mono HB9.out.size))
 have HMA12 := Ld (HMA9.out.bel hb912)
 have HK12 := Ld (HK79.out.below hb912 HK79.out.lt)
 have HKM := Ld (HK9.out.below hb912 HK9.out.lt)
 have HOC := Ld (And.intro hob hoc)
 clear ho12 hob hoc hb12 hb912 HOL
 generalize w4.heap.size = BL at HK12 ⊢
 generalize w8.heap.size = BM at HKM ⊢
 have HCE : Hid (∀ V, Below w12.heap.size w12 V → V.cell? ⟨BL, 0, none⟩ = some (.int .i64 3) ∧ V.cell? ⟨BL, 1, none⟩ = some (.int .i64 9) ∧ V.cell? ⟨BL, 2, none⟩ = some (.slice A 1 c) ∧ V.cell? ⟨BM, 1, none⟩ = some (.int .i64 3) ∧ V.cell? ⟨ob, oo, none⟩ = some (.string tgJ)) := Ld (fun V hV => by
  have h1 := HK12.out.below hV HK12.out.lt
  have h2 := HKM.out.below hV HKM.out.lt
  exact ⟨h1.cell 0, h1.cell 1, h1.cell 2, h2.cell 1, (hV.cell (by exact HOC.out.1)).trans HOC.out.2⟩)
 have s1 : (tgJ.toList == [116, 97, 114, 103, 101, 116, 115, 46, 106, 115, 111, 110]) = true := by rw [ByteArray.toList_eq]; rfl
 have s2 : tgJ.toList = [116, 97, 114, 103, 101, 116, 115, 46, 106, 115, 111, 110] := by rw [ByteArray.toList_eq]; rfl
 have s3 : decide (tgJ.toList = [116, 97, 114, 103, 101, 116, 115, 46, 106, 115, 111, 110]) = true := decide_eq_true s2
 go_wp2
 refine wp_region_held_drew (S := fun V => Below w12.heap.size w12 V) (by kernel_rfl) ((Below.refl _ _).drew) (fun hS1 => ?_)
 refine rd1 0 rfl (fun K' hK => ?_)
 go_simp
 refine (one_any 3 _ (by decide)).mono ?_
 rintro e y0 ⟨g0, rfl, hm0, hby⟩
 have HM0 := Ld hm0
 have HBY0 := Ld hby
 clear hm0
 go_simp
 refine hK.out _ _ ((hS1).trans (hby.mono (hS1).size)) (fun hS2 => ?_)
 clear hK K' hS1
 refine rd1 1 rfl (fun K' hK => ?_)
 go_simp
 have hc9 := may_any15 (HT12.out.below hS2).u (HT12.out.below hS2).p ssN 3 9 HM0.out
 rw [may_one] at hc9
 simp only [List.length_cons, List.length_nil, Nat.zero_add] at hc9
 refine hc9.mono ?_
 clear hc9
 rintro e y1 ⟨rfl, hby⟩
 go_simp
 refine hK.out _ _ ((hS2).trans (hby.mono (hS2).size)) (fun hS3 => ?_)
 clear hK K' hS2
 refine tk 2 (some 31) (.bool true) rfl (fun V hS => by go_simp) hS3 ?_
 simp only [nf]
 refine rd1 3 rfl (fun K' hK => ?_)
 go_simp
 refine (one_any 3 _ (by decide)).mono ?_
 rintro e y3 ⟨g3, rfl, hm3, hby⟩
 have HM3 := Ld hm3
 have HBY3 := Ld hby
 clear hm3
 go_simp
 refine hK.out _ _ ((hS3).trans (hby.mono (hS3).size)) (fun hS4 => ?_)
 clear hK K' hS3
 refine rd1 4 rfl (fun K' hK => ?_)
 go_simp
 have hc9 := may_any15 (HT12.out.below hS4).u (HT12.out.below hS4).p tsN 3 9 HM3.out
 rw [may_two] at hc9
 simp only [List.length_cons, List.length_nil, Nat.zero_add] at hc9
 refine hc9.mono ?_
 clear hc9
 rintro e y4 ⟨rfl, hby⟩
 go_simp
 refine hK.out _ _ ((hS4).trans (hby.mono (hS4).size)) (fun hS5 => ?_)
 clear hK K' hS4
 refine tk 5 (some 34) (.bool true) rfl (fun V hS => by go_simp) hS5 ?_
 simp only [nf]
 refine tk 6 (some 35) (.bool true) rfl (fun V hS => by go_simp) hS5 ?_
 simp only [nf]
 refine tk 7 (some 36) (.bool true) rfl (fun V hS => by go_simp) hS5 ?_
 simp only [nf]
 refine tk 8 (some 37) (.int .i64 0) rfl (fun V hS => by go_simp) hS5 ?_
 simp only [nf]
 refine tk 9 (some 38) (.bool true) rfl (fun V hS => by go_simp) hS5 ?_
 simp only [nf]
 refine tk 10 (some 39) (.bool true) rfl (fun V hS => by go_simp) hS5 ?_
 simp only [nf]
 refine tk 11 (some 40) (.bool true) rfl (fun V hS => by go_simp) hS5 ?_
 simp only [nf]
 refine tk 12 (some 41) (.agg #[.int .i64 3, .int .i64 9, .slice A 1 c]) rfl (fun V hS => by obtain ⟨h0, h1, h2, h3, h4⟩ := HCE.out V hS; go_simp) hS5 ?_
 simp only [nf]
 refine rd1 13 rfl (fun K' hK => ?_)
 go_simp
 refine (one_any 3 _ (by decide)).mono ?_
 rintro e y13 ⟨g13, rfl, hm13, hby⟩
 have HM13 := Ld hm13
 have HBY13 := Ld hby
 clear hm13
 go_simp
 refine hK.out _ _ ((hS5).trans (hby.mono (hS5).size)) (fun hS6 => ?_)
 clear hK K' hS5
 refine rd1 14 rfl (fun K' hK => ?_)
 go_simp
 have hc9 := rsame15_any 3 9 (HMA12.out.bel hS6) HM13.out
 simp only [List.length_cons, List.length_nil, Nat.zero_add] at hc9
 refine hc9.mono ?_
 clear hc9
 rintro e y14 ⟨rfl, hby⟩
 go_simp
 refine hK.out _ _ ((hS6).trans (hby.mono (hS6).size)) (fun hS7 => ?_)
 clear hK K' hS6
 refine tk 15 (some 44) (.bool true) rfl (fun V hS => by go_simp) hS7 ?_
 simp only [nf]
 refine tk 16 (some 45) (.bool true) rfl (fun V hS => by go_simp) hS7 ?_
 simp only [nf]
 refine tk 17 (some 46) (.int .i64 130) rfl (fun V hS => by go_simp) hS7 ?_
 simp only [nf]
 refine tk 18 (some 47) (.bool true) rfl (fun V hS => by go_simp) hS7 ?_
 simp only [nf]
 refine tk 19 (some 48) (.bool true) rfl (fun V hS => by go_simp) hS7 ?_
 simp only [nf]
 refine tk 20 (some 49) (.bool true) rfl (fun V hS => by go_simp) hS7 ?_
 simp only [nf]
 refine tk 21 (some 50) (.bool true) rfl (fun V hS => by go_simp) hS7 ?_
 simp only [nf]
 refine tk 22 (some 51) (.bool true) rfl (fun V hS => by go_simp) hS7 ?_
 simp only [nf]
 refine tk 23 (some 52) (.bool true) rfl (fun V hS => by go_simp) hS7 ?_
 simp only [nf]
 refine tk 24 (some 53) (.pointer (some ⟨BM, 1, none⟩)) rfl (fun V hS => by go_simp) hS7 ?_
 simp only [nf]
 refine tk 25 (some 54) (.int .i64 3) rfl (fun V hS => by obtain ⟨h0, h1, h2, h3, h4⟩ := HCE.out V hS; go_simp) hS7 ?_
 simp only [nf]
 refine tk 26 (some 55) (.bool true) rfl (fun V hS => by go_simp) hS7 ?_
 simp only [nf]
 refine tk 27 (some 56) (.bool true) rfl (fun V hS => by go_simp) hS7 ?_
 simp only [nf]
 refine tk 28 (some 57) (.bool true) rfl (fun V hS => by go_simp) hS7 ?_
 simp only [nf]
 refine tk 29 (some 58) (.slice (some ⟨ob, oo, none⟩) 1 oc) rfl (fun V hS => by go_simp) hS7 ?_
 simp only [nf]
 refine tk 30 (some 59) (.int .i64 1) rfl (fun V hS => by go_simp) hS7 ?_
 simp only [nf]
 refine tk 31 (some 60) (.bool true) rfl (fun V hS => by go_simp) hS7 ?_
 simp only [nf]
 refine tk 32 (some 61) (.bool true) rfl (fun V hS => by go_simp) hS7 ?_
 simp only [nf]
 refine tk 33 (some 62) (.bool true) rfl (fun V hS => by go_simp) hS7 ?_
 simp only [nf]
 refine tk 34 (some 63) (.slice (some ⟨ob, oo, none⟩) 1 oc) rfl (fun V hS => by go_simp) hS7 ?_
 simp only [nf]
 refine tk 35 (some 64) (.pointer (some ⟨ob, oo, none⟩)) rfl (fun V hS => by go_simp) hS7 ?_
 simp only [nf]
 refine tk 36 (some 65) (.string tgJ) rfl (fun V hS => by obtain ⟨h0, h1, h2, h3, h4⟩ := HCE.out V hS; go_simp) hS7 ?_
 simp only [nf]
 refine tk 37 (some 66) (.bool true) rfl (fun V hS => by go_simp) hS7 ?_
 simp only [nf]
 refine tk 38 (some 67) (.bool true) rfl (fun V hS => by go_simp) hS7 ?_
 simp only [nf]
 refine tk 39 (some 68) (.bool true) rfl (fun V hS => by go_simp) hS7 ?_
 simp only [nf]
 refine rd1 40 rfl (fun K' hK => ?_)
 go_simp
 refine (one_any 2 _ (by decide)).mono ?_
 rintro e y40 ⟨g40, rfl, hm40, hby⟩
 have HM40 := Ld hm40
 have HBY40 := Ld hby
 clear hm40
 go_simp
 refine hK.out _ _ ((hS7).trans (hby.mono (hS7).size)) (fun hS8 => ?_)
 clear hK K' hS7
 refine rd1 41 rfl (fun K' hK => ?_)
 go_simp
 refine (one_any 3 _ (by decide)).mono ?_
 rintro e y41 ⟨g41, rfl, hm41, hby⟩
 have HM41 := Ld hm41
 have HBY41 := Ld hby
 clear hm41
 go_simp
 refine hK.out _ _ ((hS8).trans (hby.mono (hS8).size)) (fun hS9 => ?_)
 clear hK K' hS8
 refine rd1 42 rfl (fun K' hK => ?_)
 go_simp
 have hc9 := older_any 2 9 3 9 (HM40.out.bel HBY41.out) HM41.out (by decide)
 rw [old_two] at hc9
 simp only [List.length_cons, List.length_nil, Nat.zero_add] at hc9
 refine hc9.mono ?_
 clear hc9
 rintro e y42 ⟨ov, rfl, ho42, hby⟩
 obtain ⟨oA, oC, rfl⟩ := or_nil ho42
 clear ho42
 go_simp
 refine hK.out _ _ ((hS9).trans (hby.mono (hS9).size)) (fun hS10 => ?_)
 clear hK K' hS9
 refine tk 43 (some 72) (.int .i64 0) rfl (fun V hS => by go_simp) hS10 ?_
 simp only [nf]
 refine tk 44 (some 73) (.bool true) rfl (fun V hS => by go_simp) hS10 ?_
 simp only [nf]
 refine tk 45 (some 74) (.bool true) rfl (fun V hS => by go_simp) hS10 ?_
 simp only [nf]
 refine tk 46 (some 75) (.bool true) rfl (fun V hS => by go_simp) hS10 ?_
 simp only [nf]
 refine rd1 47 rfl (fun K' hK => ?_)
 go_simp
 have hc9 := fileName_any ⟨#[97, 46, 106, 115, 111, 110]⟩ y42 (by decide)
 rw [show fnameL (⟨#[97, 46, 106, 115, 111, 110]⟩ : ByteArray).data.toList = true from fn_one] at hc9
 refine hc9.mono ?_
 clear hc9
 rintro e y47 ⟨rfl, hby⟩
 go_simp
 refine hK.out _ _ ((hS10).trans (hby.mono (hS10).size)) (fun hS11 => ?_)
 clear hK K' hS10
 refine tk 48 (some 77) (.bool true) rfl (fun V hS => by go_simp) hS11 ?_
 simp only [nf]
 refine tk 49 (some 78) (.bool true) rfl (fun V hS => by go_simp) hS11 ?_
 simp only [nf]
 refine rd1 50 rfl (fun K' hK => ?_)
 go_simp
 have hc9 := fileName_any ⟨#[46, 97]⟩ y47 (by decide)
 rw [show fnameL (⟨#[46, 97]⟩ : ByteArray).data.toList = false from fn_two] at hc9
 refine hc9.mono ?_
 clear hc9
 rintro e y50 ⟨rfl, hby⟩
 go_simp
 refine hK.out _ _ ((hS11).trans (hby.mono (hS11).size)) (fun hS12 => ?_)
 clear hK K' hS11
 refine tk 51 (some 80) (.bool true) rfl (fun V hS => by go_simp) hS12 ?_
 simp only [nf]
 refine tk 52 (some 81) (.bool true) rfl (fun V hS => by go_simp) hS12 ?_
 simp only [nf]
 refine tk 53 (some 82) (.bool true) rfl (fun V hS => by go_simp) hS12 ?_
 simp only [nf]
 refine tk 54 (some 83) (.agg #[.string ⟨#[]⟩, .int .i64 0, .int .i64 2, .string ⟨#[]⟩]) rfl (fun V hS => by go_simp) hS12 ?_
 simp only [nf]
 refine rd1 55 rfl (fun K' hK => ?_)
 go_simp
 have HPRE56 := Ld hS12
 refine hK.out _ _ ((hS12).alloc (hS12).size _) (fun hS13 => ?_)
 clear hK K' hS12
 refine rd1 56 rfl (fun K' hK => ?_)
 obtain ⟨y56, hcv, hrb56, hby⟩ := lit_conv6 y50 [97] y50.heap.size 1 #[.int .u8 97] rfl rfl rfl
 have HRB56 := Ld hrb56
 go_simp
 clear hcv hrb56
 refine hK.out _ _ ((HPRE56.out).trans (hby.mono (HPRE56.out).size)) (fun hS14 => ?_)
 clear hK K' hS13
 try simp only [nf]
 refine rd1 57 rfl (fun K' hK => ?_)
 go_simp
 have hc9 := fits_any ⟨⟨#[]⟩, 0, 2, ⟨#[]⟩⟩ (some ⟨y50.heap.size, 0, none⟩) 1 1 [97] _ (HT12.out.below hS14).k (HRB56.out) rfl (by decide) (by decide) (by decide) (by decide : (⟨#[]⟩ : ByteArray).size ≤ 140737488351232)
 rw [fit_one] at hc9
 unfold ME.val at hc9
 refine hc9.mono ?_
 clear hc9
 rintro e y57 ⟨rfl, hby⟩
 go_simp
 refine hK.out _ _ ((hS14).trans (hby.mono (hS14).size)) (fun hS15 => ?_)
 clear hK K' hS14
 refine tk 58 (some 87) (.bool true) rfl (fun V hS => by go_simp) hS15 ?_
 simp only [nf]
 refine tk 59 (some 88) (.bool true) rfl (fun V hS => by go_simp) hS15 ?_
 simp only [nf]
 refine tk 60 (some 89) (.bool true) rfl (fun V hS => by go_simp) hS15 ?_
 simp only [nf]
 refine tk 61 (some 90) (.agg #[.string ⟨#[]⟩, .int .i64 0, .int .i64 1, .string ⟨#[48, 48]⟩]) rfl (fun V hS => by go_simp) hS15 ?_
 simp only [nf]
 refine rd1 62 rfl (fun K' hK => ?_)
 go_simp
 have HPRE63 := Ld hS15
 refine hK.out _ _ ((hS15).alloc (hS15).size _) (fun hS16 => ?_)
 clear hK K' hS15
 refine rd1 63 rfl (fun K' hK => ?_)
 obtain ⟨y63, hcv, hrb63, hby⟩ := lit_conv6 y57 [97] y57.heap.size 1 #[.int .u8 97] rfl rfl rfl
 have HRB63 := Ld hrb63
 go_simp
 clear hcv hrb63
 refine hK.out _ _ ((HPRE63.out).trans (hby.mono (HPRE63.out).size)) (fun hS17 => ?_)
 clear hK K' hS16
 try simp only [nf]
 refine rd1 64 rfl (fun K' hK => ?_)
 go_simp
 have hc9 := fits_any ⟨⟨#[]⟩, 0, 1, ⟨#[48, 48]⟩⟩ (some ⟨y57.heap.size, 0, none⟩) 1 1 [97] _ (HT12.out.below hS17).k (HRB63.out) rfl (by decide) (by decide) (by decide) (by decide : (⟨#[48, 48]⟩ : ByteArray).size ≤ 140737488351232)
 rw [fit_two] at hc9
 unfold ME.val at hc9
 refine hc9.mono ?_
 clear hc9
 rintro e y64 ⟨rfl, hby⟩
 go_simp
 refine hK.out _ _ ((hS17).trans (hby.mono (hS17).size)) (fun hS18 => ?_)
 clear hK K' hS17
 refine tk 65 (some 94) (.bool true) rfl (fun V hS => by go_simp) hS18 ?_
 simp only [nf]
 refine tk 66 (some 95) (.bool true) rfl (fun V hS => by go_simp) hS18 ?_
 simp only [nf]
 refine tk 67 (some 96) (.bool true) rfl (fun V hS => by go_simp) hS18 ?_
 simp only [nf]
 refine tk 68 (some 97) (.agg #[.string ⟨#[]⟩, .int .i64 0, .int .i64 (-1), .string ⟨#[]⟩]) rfl (fun V hS => by go_simp) hS18 ?_
 simp only [nf]
 refine rd1 69 rfl (fun K' hK => ?_)
 go_simp
 have hc9 := fits_any ⟨⟨#[]⟩, 0, (-1), ⟨#[]⟩⟩ (none) 0 0 [] _ (HT12.out.below hS18).k (rb_none y64) rfl (by decide) (by decide) (by decide) (by decide : (⟨#[]⟩ : ByteArray).size ≤ 140737488351232)
 rw [fit_three] at hc9
 unfold ME.val at hc9
 refine hc9.mono ?_
 clear hc9
 rintro e y69 ⟨rfl, hby⟩
 go_simp
 refine hK.out _ _ ((hS18).trans (hby.mono (hS18).size)) (fun hS19 => ?_)
 clear hK K' hS18
 refine tk 70 (some 99) (.bool true) rfl (fun V hS => by go_simp) hS19 ?_
 simp only [nf]
 refine tk 71 (some 100) (.bool true) rfl (fun V hS => by go_simp) hS19 ?_
 simp only [nf]
 refine tk 72 (some 101) (.bool true) rfl (fun V hS => by go_simp) hS19 ?_
 simp only [nf]
 refine tk 73 (some 102) (.agg #[.int .i64 3, .int .i64 9, .slice A 1 c]) rfl (fun V hS => by obtain ⟨h0, h1, h2, h3, h4⟩ := HCE.out V hS; go_simp) hS19 ?_
 simp only [nf]
 refine tk 74 (some 103) (.agg #[.int .i64 3, .int .i64 9, .slice A 1 c]) rfl (fun V hS => by obtain ⟨h0, h1, h2, h3, h4⟩ := HCE.out V hS; go_simp) hS19 ?_
 simp only [nf]
 refine rd1 75 rfl (fun K' hK => ?_)
 go_simp
 have hc9 := lsame_any 3 9 (HMA12.out.bel hS19) (HMA12.out.bel hS19)
 simp only [List.length_cons, List.length_nil, Nat.zero_add] at hc9
 refine hc9.mono ?_
 clear hc9
 rintro e y75 ⟨rfl, hby⟩
 go_simp
 refine hK.out _ _ ((hS19).trans (hby.mono (hS19).size)) (fun hS20 => ?_)
 clear hK K' hS19
 refine tk 76 (some 105) (.bool true) rfl (fun V hS => by go_simp) hS20 ?_
 simp only [nf]
 refine tk 77 (some 0) (.bool true) rfl (fun V hS => by go_simp) hS20 ?_
 simp only [nf]
 refine wpAnyH_done (by kernel_rfl) ?_ _
 have HZ := Ld (HB12.out.trans ((hS20).mono HB12.out.size))
 clear hS20
 go_wp2
 refine bodyPost_ret (v := .bool true) (by simp [results, Tryz.results8, go_sem]) rfl ?_
 exact ⟨rfl, HZ.out⟩
end Go.Proofs.YtefkpphahimkgaaGreatDoor
