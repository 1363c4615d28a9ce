/-
  lives of listing's laws.
-/
import Derived.Test.YtefkpphahimkgaaGreatDoorLiL1
namespace Go.Proofs.YtefkpphahimkgaaGreatDoor
open Go.RowKit
attribute [local go_sem ↓] Go.wp_at_zero Go.wp_at_succ
set_option linter.unusedVariables false
set_option linter.unusedSimpArgs false

/-- the tables -/
structure tabL (w : World) : Prop where
  u : tabU w
  p : tabP w
  m : tabM w
  k : TabK w
theorem tabL.below {w w' : World} (h : tabL w) (hb : Below w.heap.size w w') : tabL w' := ⟨h.u.below hb, h.p.below hb, h.m.below hb, h.k.below hb⟩
theorem rb_none (w : World) : RB w none [] := ⟨by simp [Lib.byteCells], fun h => by simp at h⟩
set_option maxRecDepth 100000 in
set_option maxHeartbeats 16000000 in
theorem llives_any (w : World) (ht : tabL w) : Calls Tryz.prog 8 #[] w fun e w' => BoP true w e w' := by
  obtain ⟨tx, hd⟩ := DT.ex (show mayB 9 = true by decide)
  have HD := Lib.hid hd
  have HT0 := Lib.hid ht
  clear hd ht
  go_enter Tryz.func8, Tryz.ntmps8
  go_wp2_with fail
  refine (one_any 3 _ (by decide)).mono ?_
  rintro e w1 ⟨g1, rfl, hm1, hb1⟩
  have HT1 := Lib.hid (HT0.out.below hb1)
  have hv := value_yes HT1.out.u HT1.out.p ssN 3 9 hm1 may_one tx HD.out
  have HV := Lib.hid hv
  have HB1 := Lib.hid hb1
  clear hm1 hb1 hv
  unfold ssN at HV
  go_wp2_with fail
  refine HV.out.mono ?_
  rintro e w2 ⟨v, rfl, hpv, hov, hb2⟩
  clear HV
  unfold MV.val
  -- the value
  obtain ⟨W3, hW3⟩ : ∃ W3, W3 = w2.alloc (.cells #[.int .i64 v.k, .int .i64 v.n, .string v.s, .slice v.lA v.l.length v.lc, .slice v.mA v.m.length v.mc] 30) := ⟨_, rfl⟩
  have hb3 : Below w2.heap.size w2 W3 := by rw [hW3]; exact below_new _ _
  have hk3 : Blk W3 w2.heap.size 30 #[.int .i64 v.k, .int .i64 v.n, .string v.s, .slice v.lA v.l.length v.lc, .slice v.mA v.m.length v.mc] := by rw [hW3]; exact Blk.new _ _ _
  have hb13 : Below w1.heap.size w1 W3 := hb2.trans (hb3.mono hb2.size)
  have HT3 := Lib.hid (HT1.out.below hb13)
  have HB3 := Lib.hid (HB1.out.trans (hb13.mono HB1.out.size))
  have HPV := Lib.hid hpv
  have HVA := Lib.hid (hov.at_.bel hb3)
  have HK3 := Lib.hid hk3
  have HW3 := Lib.hid hW3
  clear hW3 hb3 hb13 hpv hov hb2 hk3 HB1
  obtain ⟨t0, t1, t2, t3, t4⟩ := five_cells HK3.out
  have HRD := Lib.hid (read_yes HT3.out.m HT3.out.u HT3.out.p HVA.out ssN 3 9 tx [oneM 3] HPV.out may_one HD.out (by intro m hm; rw [List.mem_singleton] at hm; subst hm; exact ⟨(by decide : (Lit.int .i64 3).wf = true), (by decide : (Lit.int .i64 (-1)).wf = true)⟩) (by intro m hm; rw [List.mem_singleton] at hm; subst hm; exact ⟨(by decide : tgJ.size ≤ 140737488351232), (by decide : (⟨#[]⟩ : ByteArray).size ≤ 140737488351232)⟩))
  unfold MV.val ssN at HRD
  go_upto_region 2 with (fail)
  rw [← HW3.out]
  go_wp2_with fail
  refine HRD.out.mono ?_
  rintro e w4 ⟨A, c, rfl, hma, hb4⟩
  clear HRD t0 t1 t2 t3 t4
  simp only [List.length_cons, List.length_nil, Nat.zero_add]
  obtain ⟨W5, hW5⟩ : ∃ W5, W5 = w4.alloc (.cells #[.int .i64 3, .int .i64 9, .slice A 1 c] 24) := ⟨_, rfl⟩
  have hb5 : Below w4.heap.size w4 W5 := by rw [hW5]; exact below_new _ _
  have hk5 : Blk W5 w4.heap.size 24 #[.int .i64 3, .int .i64 9, .slice A 1 c] := by rw [hW5]; exact Blk.new _ _ _
  have hb35 : Below W3.heap.size W3 W5 := hb4.trans (hb5.mono hb4.size)
  have HT5 := Lib.hid (HT3.out.below hb35)
  have HB5 := Lib.hid (HB3.out.trans (hb35.mono HB3.out.size))
  have HK35 := Lib.hid (HK3.out.below hb35 HK3.out.lt)
  have HVA5 := Lib.hid (HVA.out.bel hb35)
  have HMA5 := Lib.hid (hma.bel hb5)
  have HK5 := Lib.hid hk5
  have HW5 := Lib.hid hW5
  clear hW5 hb5 hb35 hma hb4 hk5
  obtain ⟨t0, t1, t2, t3, t4⟩ := five_cells HK35.out
  have HRN := Lib.hid (read_no HT5.out.m HVA5.out ssN tsN 3 9 tx [oneM 3] HPV.out may_one HD.out (by decide))
  unfold MV.val tsN at HRN
  go_upto_region 3 with (fail)
  rw [← HW5.out]
  go_wp2_with fail
  refine HRN.out.mono ?_
  rintro e w6 ⟨rfl, hb6⟩
  clear HRN t0 t1 t2 t3 t4
  obtain ⟨W7, hW7⟩ : ∃ W7, W7 = w6.alloc (.cells #[.int .i64 0, .int .i64 0, .slice none 0 0] 24) := ⟨_, rfl⟩
  have hb7 : Below w6.heap.size w6 W7 := by rw [hW7]; exact below_new _ _
  have hb57 : Below W5.heap.size W5 W7 := hb6.trans (hb7.mono hb6.size)
  have HT7 := Lib.hid (HT5.out.below hb57)
  have HB7 := Lib.hid (HB5.out.trans (hb57.mono HB5.out.size))
  have HMA7 := Lib.hid (HMA5.out.bel hb57)
  have HK7 := Lib.hid (HK5.out.below hb57 HK5.out.lt)
  have HW7 := Lib.hid hW7
  clear hW7 hb7 hb57 hb6
  obtain ⟨t0, t1, t2⟩ := three_cells HK7.out
  have HFN := Lib.hid (find_any 3 9 HMA7.out tgJ)
  simp only [List.length_cons, List.length_nil, Nat.zero_add] at HFN
  unfold tgJ at HFN
  go_upto_region 4 with (fail)
  rw [← HW7.out]
  go_wp2_with fail
  refine HFN.out.mono ?_
  rintro e w8 ⟨m, b, rfl, hb8, hf8⟩
  clear HFN t0 t1 t2
  obtain ⟨rfl, rfl⟩ : b = true ∧ m = oneM 3 := by
    rcases hf8 with ⟨_, _, h2⟩ | ⟨h1, h2⟩
    · have h3 : (none : Option ME) = some (oneM 3) := h2.symm.trans find_one
      cases h3
    · have h3 : some m = some (oneM 3) := h2.symm.trans find_one
      injection h3 with h3
      exact ⟨h1, h3⟩
  clear hf8
  unfold ME.val oneM
  simp only []
  obtain ⟨W9, hW9⟩ : ∃ W9, W9 = w8.alloc (.cells #[.string tgJ, .int .i64 3, .int .i64 (-1), .string ⟨#[]⟩] 44) := ⟨_, rfl⟩
  have hb9 : Below w8.heap.size w8 W9 := by rw [hW9]; exact below_new _ _
  have hk9 : Blk W9 w8.heap.size 44 #[.string tgJ, .int .i64 3, .int .i64 (-1), .string ⟨#[]⟩] := by rw [hW9]; exact Blk.new _ _ _
  have hb79 : Below W7.heap.size W7 W9 := hb8.trans (hb9.mono hb8.size)
  have HT9 := Lib.hid (HT7.out.below hb79)
  have HB9 := Lib.hid (HB7.out.trans (hb79.mono HB7.out.size))
  have HMA9 := Lib.hid (HMA7.out.bel hb79)
  have HK79 := Lib.hid (HK7.out.below hb79 HK7.out.lt)
  have HK9 := Lib.hid hk9
  have HW9 := Lib.hid hW9
  clear hW9 hb9 hb79 hb8 hk9
  go_upto_region 5 with (fail)
  rw [← HW9.out]
  go_wp2_with fail
  refine (one_any 3 _ (by decide)).mono ?_
  rintro e w10 ⟨g10, rfl, hm10, hb10⟩
  have HM10 := Lib.hid hm10
  have HB10 := Lib.hid hb10
  clear hm10 hb10
  go_wp2_with fail
  refine (one_any 2 _ (by decide)).mono ?_
  rintro e w11 ⟨g11, rfl, hm11, hb11⟩
  have hol := older_any 3 9 2 9 (HM10.out.bel hb11) hm11 (by decide)
  rw [old_one] at hol
  simp only [List.length_cons, List.length_nil, Nat.zero_add] at hol
  have HOL := Lib.hid hol
  have HB11 := Lib.hid (HB10.out.trans (hb11.mono HB10.out.size))
  clear hm11 hb11 hol HM10 HB10
  go_wp2_with fail
  refine HOL.out.mono ?_
  rintro e w12 ⟨ov, rfl, ho12, hb12⟩
  obtain ⟨ob, oo, oc, rfl, hob, hoc⟩ := or_one ho12
  have hb912 := HB11.out.trans (hb12.mono HB11.out.size)
  have HT12 := Lib.hid (HT9.out.below hb912)
  have HB12 := Lib.hid (HB9.out.trans (hb912.mono HB9.out.size))
  have HMA12 := Lib.hid (HMA9.out.bel hb912)
  have HK12 := Lib.hid (HK79.out.below hb912 HK79.out.lt)
  have HKM := Lib.hid (HK9.out.below hb912 HK9.out.lt)
  have HOC := Lib.hid (And.intro hob hoc)
  clear ho12 hob hoc hb12 hb912 HOL
  generalize w4.heap.size = BL at HK12 ⊢
  generalize w8.heap.size = BM at HKM ⊢
  have HCE : Hid (∀ V, Below w12.heap.size w12 V → V.cell? ⟨BL, 0, none⟩ = some (.int .i64 3) ∧ V.cell? ⟨BL, 1, none⟩ = some (.int .i64 9) ∧ V.cell? ⟨BL, 2, none⟩ = some (.slice A 1 c) ∧ V.cell? ⟨BM, 1, none⟩ = some (.int .i64 3) ∧ V.cell? ⟨ob, oo, none⟩ = some (.string tgJ)) := Lib.hid (fun V hV => by
    have h1 := HK12.out.below hV HK12.out.lt
    have h2 := HKM.out.below hV HKM.out.lt
    exact ⟨h1.cell 0, h1.cell 1, h1.cell 2, h2.cell 1, (hV.cell (by exact HOC.out.1)).trans HOC.out.2⟩)
  have s1 : (tgJ.toList == [116, 97, 114, 103, 101, 116, 115, 46, 106, 115, 111, 110]) = true := by rw [ByteArray.toList_eq]; rfl
  have s2 : tgJ.toList = [116, 97, 114, 103, 101, 116, 115, 46, 106, 115, 111, 110] := by rw [ByteArray.toList_eq]; rfl
  have s3 : decide (tgJ.toList = [116, 97, 114, 103, 101, 116, 115, 46, 106, 115, 111, 110]) = true := decide_eq_true s2
  go_wp2
  refine wp_region_held_drew (S := fun V => Below w12.heap.size w12 V) (by kernel_rfl) ((Below.refl _ _).drew) (fun hS1 => ?_)
  refine wpAnyH_ready (rs := [0]) (by kernel_rfl) (by simp) ?_
  refine AllReadyH.cons rfl (fun K' hK => ?_) AllReadyH.nil
  go_simp
  refine (one_any 3 _ (by decide)).mono ?_
  rintro e y0 ⟨g0, rfl, hm0, hby⟩
  have HM0 := Lib.hid hm0
  have HBY0 := Lib.hid hby
  clear hm0
  go_simp
  refine hK.out _ _ ((hS1).trans (hby.mono (hS1).size)) (fun hS2 => ?_)
  clear hK K' hS1
  refine wpAnyH_ready (rs := [1]) (by kernel_rfl) (by simp) ?_
  refine AllReadyH.cons rfl (fun K' hK => ?_) AllReadyH.nil
  go_simp
  have hc9 := may_any15 (HT12.out.below hS2).u (HT12.out.below hS2).p ssN 3 9 HM0.out
  rw [may_one] at hc9
  simp only [List.length_cons, List.length_nil, Nat.zero_add] at hc9
  refine hc9.mono ?_
  clear hc9
  rintro e y1 ⟨rfl, hby⟩
  go_simp
  refine hK.out _ _ ((hS2).trans (hby.mono (hS2).size)) (fun hS3 => ?_)
  clear hK K' hS2
  refine wpAnyH_take (i := 2) (oi := ⟨some 31, _, _, _, _, _⟩) (v := .bool true) rfl (by kernel_rfl) (by kernel_rfl) (by kernel_rfl) (fun _ _ _ h => h) (.inl ⟨by kernel_rfl, fun V hS => by go_simp⟩) hS3 ?_
  simp only [Act.put, List.setIfInBounds_toArray, List.set_cons_zero, List.set_cons_succ]
  refine wpAnyH_ready (rs := [3]) (by kernel_rfl) (by simp) ?_
  refine AllReadyH.cons rfl (fun K' hK => ?_) AllReadyH.nil
  go_simp
  refine (one_any 3 _ (by decide)).mono ?_
  rintro e y3 ⟨g3, rfl, hm3, hby⟩
  have HM3 := Lib.hid hm3
  have HBY3 := Lib.hid hby
  clear hm3
  go_simp
  refine hK.out _ _ ((hS3).trans (hby.mono (hS3).size)) (fun hS4 => ?_)
  clear hK K' hS3
  refine wpAnyH_ready (rs := [4]) (by kernel_rfl) (by simp) ?_
  refine AllReadyH.cons rfl (fun K' hK => ?_) AllReadyH.nil
  go_simp
  have hc9 := may_any15 (HT12.out.below hS4).u (HT12.out.below hS4).p tsN 3 9 HM3.out
  rw [may_two] at hc9
  simp only [List.length_cons, List.length_nil, Nat.zero_add] at hc9
  refine hc9.mono ?_
  clear hc9
  rintro e y4 ⟨rfl, hby⟩
  go_simp
  refine hK.out _ _ ((hS4).trans (hby.mono (hS4).size)) (fun hS5 => ?_)
  clear hK K' hS4
  refine wpAnyH_take (i := 5) (oi := ⟨some 34, _, _, _, _, _⟩) (v := .bool true) rfl (by kernel_rfl) (by kernel_rfl) (by kernel_rfl) (fun _ _ _ h => h) (.inl ⟨by kernel_rfl, fun V hS => by go_simp⟩) hS5 ?_
  simp only [Act.put, List.setIfInBounds_toArray, List.set_cons_zero, List.set_cons_succ]
  refine wpAnyH_take (i := 6) (oi := ⟨some 35, _, _, _, _, _⟩) (v := .bool true) rfl (by kernel_rfl) (by kernel_rfl) (by kernel_rfl) (fun _ _ _ h => h) (.inl ⟨by kernel_rfl, fun V hS => by go_simp⟩) hS5 ?_
  simp only [Act.put, List.setIfInBounds_toArray, List.set_cons_zero, List.set_cons_succ]
  refine wpAnyH_take (i := 7) (oi := ⟨some 36, _, _, _, _, _⟩) (v := .bool true) rfl (by kernel_rfl) (by kernel_rfl) (by kernel_rfl) (fun _ _ _ h => h) (.inl ⟨by kernel_rfl, fun V hS => by go_simp⟩) hS5 ?_
  simp only [Act.put, List.setIfInBounds_toArray, List.set_cons_zero, List.set_cons_succ]
  refine wpAnyH_take (i := 8) (oi := ⟨some 37, _, _, _, _, _⟩) (v := .int .i64 0) rfl (by kernel_rfl) (by kernel_rfl) (by kernel_rfl) (fun _ _ _ h => h) (.inl ⟨by kernel_rfl, fun V hS => by go_simp⟩) hS5 ?_
  simp only [Act.put, List.setIfInBounds_toArray, List.set_cons_zero, List.set_cons_succ]
  refine wpAnyH_take (i := 9) (oi := ⟨some 38, _, _, _, _, _⟩) (v := .bool true) rfl (by kernel_rfl) (by kernel_rfl) (by kernel_rfl) (fun _ _ _ h => h) (.inl ⟨by kernel_rfl, fun V hS => by go_simp⟩) hS5 ?_
  simp only [Act.put, List.setIfInBounds_toArray, List.set_cons_zero, List.set_cons_succ]
  refine wpAnyH_take (i := 10) (oi := ⟨some 39, _, _, _, _, _⟩) (v := .bool true) rfl (by kernel_rfl) (by kernel_rfl) (by kernel_rfl) (fun _ _ _ h => h) (.inl ⟨by kernel_rfl, fun V hS => by go_simp⟩) hS5 ?_
  simp only [Act.put, List.setIfInBounds_toArray, List.set_cons_zero, List.set_cons_succ]
  refine wpAnyH_take (i := 11) (oi := ⟨some 40, _, _, _, _, _⟩) (v := .bool true) rfl (by kernel_rfl) (by kernel_rfl) (by kernel_rfl) (fun _ _ _ h => h) (.inl ⟨by kernel_rfl, fun V hS => by go_simp⟩) hS5 ?_
  simp only [Act.put, List.setIfInBounds_toArray, List.set_cons_zero, List.set_cons_succ]
  refine wpAnyH_take (i := 12) (oi := ⟨some 41, _, _, _, _, _⟩) (v := .agg #[.int .i64 3, .int .i64 9, .slice A 1 c]) rfl (by kernel_rfl) (by kernel_rfl) (by kernel_rfl) (fun _ _ _ h => h) (.inl ⟨by kernel_rfl, fun V hS => by obtain ⟨h0, h1, h2, h3, h4⟩ := HCE.out V hS; go_simp⟩) hS5 ?_
  simp only [Act.put, List.setIfInBounds_toArray, List.set_cons_zero, List.set_cons_succ]
  refine wpAnyH_ready (rs := [13]) (by kernel_rfl) (by simp) ?_
  refine AllReadyH.cons rfl (fun K' hK => ?_) AllReadyH.nil
  go_simp
  refine (one_any 3 _ (by decide)).mono ?_
  rintro e y13 ⟨g13, rfl, hm13, hby⟩
  have HM13 := Lib.hid hm13
  have HBY13 := Lib.hid hby
  clear hm13
  go_simp
  refine hK.out _ _ ((hS5).trans (hby.mono (hS5).size)) (fun hS6 => ?_)
  clear hK K' hS5
  refine wpAnyH_ready (rs := [14]) (by kernel_rfl) (by simp) ?_
  refine AllReadyH.cons rfl (fun K' hK => ?_) AllReadyH.nil
  go_simp
  have hc9 := rsame15_any 3 9 (HMA12.out.bel hS6) HM13.out
  simp only [List.length_cons, List.length_nil, Nat.zero_add] at hc9
  refine hc9.mono ?_
  clear hc9
  rintro e y14 ⟨rfl, hby⟩
  go_simp
  refine hK.out _ _ ((hS6).trans (hby.mono (hS6).size)) (fun hS7 => ?_)
  clear hK K' hS6
  refine wpAnyH_take (i := 15) (oi := ⟨some 44, _, _, _, _, _⟩) (v := .bool true) rfl (by kernel_rfl) (by kernel_rfl) (by kernel_rfl) (fun _ _ _ h => h) (.inl ⟨by kernel_rfl, fun V hS => by go_simp⟩) hS7 ?_
  simp only [Act.put, List.setIfInBounds_toArray, List.set_cons_zero, List.set_cons_succ]
  refine wpAnyH_take (i := 16) (oi := ⟨some 45, _, _, _, _, _⟩) (v := .bool true) rfl (by kernel_rfl) (by kernel_rfl) (by kernel_rfl) (fun _ _ _ h => h) (.inl ⟨by kernel_rfl, fun V hS => by go_simp⟩) hS7 ?_
  simp only [Act.put, List.setIfInBounds_toArray, List.set_cons_zero, List.set_cons_succ]
  refine wpAnyH_take (i := 17) (oi := ⟨some 46, _, _, _, _, _⟩) (v := .int .i64 130) rfl (by kernel_rfl) (by kernel_rfl) (by kernel_rfl) (fun _ _ _ h => h) (.inl ⟨by kernel_rfl, fun V hS => by go_simp⟩) hS7 ?_
  simp only [Act.put, List.setIfInBounds_toArray, List.set_cons_zero, List.set_cons_succ]
  refine wpAnyH_take (i := 18) (oi := ⟨some 47, _, _, _, _, _⟩) (v := .bool true) rfl (by kernel_rfl) (by kernel_rfl) (by kernel_rfl) (fun _ _ _ h => h) (.inl ⟨by kernel_rfl, fun V hS => by go_simp⟩) hS7 ?_
  simp only [Act.put, List.setIfInBounds_toArray, List.set_cons_zero, List.set_cons_succ]
  refine wpAnyH_take (i := 19) (oi := ⟨some 48, _, _, _, _, _⟩) (v := .bool true) rfl (by kernel_rfl) (by kernel_rfl) (by kernel_rfl) (fun _ _ _ h => h) (.inl ⟨by kernel_rfl, fun V hS => by go_simp⟩) hS7 ?_
  simp only [Act.put, List.setIfInBounds_toArray, List.set_cons_zero, List.set_cons_succ]
  refine wpAnyH_take (i := 20) (oi := ⟨some 49, _, _, _, _, _⟩) (v := .bool true) rfl (by kernel_rfl) (by kernel_rfl) (by kernel_rfl) (fun _ _ _ h => h) (.inl ⟨by kernel_rfl, fun V hS => by go_simp⟩) hS7 ?_
  simp only [Act.put, List.setIfInBounds_toArray, List.set_cons_zero, List.set_cons_succ]
  refine wpAnyH_take (i := 21) (oi := ⟨some 50, _, _, _, _, _⟩) (v := .bool true) rfl (by kernel_rfl) (by kernel_rfl) (by kernel_rfl) (fun _ _ _ h => h) (.inl ⟨by kernel_rfl, fun V hS => by go_simp⟩) hS7 ?_
  simp only [Act.put, List.setIfInBounds_toArray, List.set_cons_zero, List.set_cons_succ]
  refine wpAnyH_take (i := 22) (oi := ⟨some 51, _, _, _, _, _⟩) (v := .bool true) rfl (by kernel_rfl) (by kernel_rfl) (by kernel_rfl) (fun _ _ _ h => h) (.inl ⟨by kernel_rfl, fun V hS => by go_simp⟩) hS7 ?_
  simp only [Act.put, List.setIfInBounds_toArray, List.set_cons_zero, List.set_cons_succ]
  refine wpAnyH_take (i := 23) (oi := ⟨some 52, _, _, _, _, _⟩) (v := .bool true) rfl (by kernel_rfl) (by kernel_rfl) (by kernel_rfl) (fun _ _ _ h => h) (.inl ⟨by kernel_rfl, fun V hS => by go_simp⟩) hS7 ?_
  simp only [Act.put, List.setIfInBounds_toArray, List.set_cons_zero, List.set_cons_succ]
  refine wpAnyH_take (i := 24) (oi := ⟨some 53, _, _, _, _, _⟩) (v := .pointer (some ⟨BM, 1, none⟩)) rfl (by kernel_rfl) (by kernel_rfl) (by kernel_rfl) (fun _ _ _ h => h) (.inl ⟨by kernel_rfl, fun V hS => by go_simp⟩) hS7 ?_
  simp only [Act.put, List.setIfInBounds_toArray, List.set_cons_zero, List.set_cons_succ]
  refine wpAnyH_take (i := 25) (oi := ⟨some 54, _, _, _, _, _⟩) (v := .int .i64 3) rfl (by kernel_rfl) (by kernel_rfl) (by kernel_rfl) (fun _ _ _ h => h) (.inl ⟨by kernel_rfl, fun V hS => by obtain ⟨h0, h1, h2, h3, h4⟩ := HCE.out V hS; go_simp⟩) hS7 ?_
  simp only [Act.put, List.setIfInBounds_toArray, List.set_cons_zero, List.set_cons_succ]
  refine wpAnyH_take (i := 26) (oi := ⟨some 55, _, _, _, _, _⟩) (v := .bool true) rfl (by kernel_rfl) (by kernel_rfl) (by kernel_rfl) (fun _ _ _ h => h) (.inl ⟨by kernel_rfl, fun V hS => by go_simp⟩) hS7 ?_
  simp only [Act.put, List.setIfInBounds_toArray, List.set_cons_zero, List.set_cons_succ]
  refine wpAnyH_take (i := 27) (oi := ⟨some 56, _, _, _, _, _⟩) (v := .bool true) rfl (by kernel_rfl) (by kernel_rfl) (by kernel_rfl) (fun _ _ _ h => h) (.inl ⟨by kernel_rfl, fun V hS => by go_simp⟩) hS7 ?_
  simp only [Act.put, List.setIfInBounds_toArray, List.set_cons_zero, List.set_cons_succ]
  refine wpAnyH_take (i := 28) (oi := ⟨some 57, _, _, _, _, _⟩) (v := .bool true) rfl (by kernel_rfl) (by kernel_rfl) (by kernel_rfl) (fun _ _ _ h => h) (.inl ⟨by kernel_rfl, fun V hS => by go_simp⟩) hS7 ?_
  simp only [Act.put, List.setIfInBounds_toArray, List.set_cons_zero, List.set_cons_succ]
  refine wpAnyH_take (i := 29) (oi := ⟨some 58, _, _, _, _, _⟩) (v := .slice (some ⟨ob, oo, none⟩) 1 oc) rfl (by kernel_rfl) (by kernel_rfl) (by kernel_rfl) (fun _ _ _ h => h) (.inl ⟨by kernel_rfl, fun V hS => by go_simp⟩) hS7 ?_
  simp only [Act.put, List.setIfInBounds_toArray, List.set_cons_zero, List.set_cons_succ]
  refine wpAnyH_take (i := 30) (oi := ⟨some 59, _, _, _, _, _⟩) (v := .int .i64 1) rfl (by kernel_rfl) (by kernel_rfl) (by kernel_rfl) (fun _ _ _ h => h) (.inl ⟨by kernel_rfl, fun V hS => by go_simp⟩) hS7 ?_
  simp only [Act.put, List.setIfInBounds_toArray, List.set_cons_zero, List.set_cons_succ]
  refine wpAnyH_take (i := 31) (oi := ⟨some 60, _, _, _, _, _⟩) (v := .bool true) rfl (by kernel_rfl) (by kernel_rfl) (by kernel_rfl) (fun _ _ _ h => h) (.inl ⟨by kernel_rfl, fun V hS => by go_simp⟩) hS7 ?_
  simp only [Act.put, List.setIfInBounds_toArray, List.set_cons_zero, List.set_cons_succ]
  refine wpAnyH_take (i := 32) (oi := ⟨some 61, _, _, _, _, _⟩) (v := .bool true) rfl (by kernel_rfl) (by kernel_rfl) (by kernel_rfl) (fun _ _ _ h => h) (.inl ⟨by kernel_rfl, fun V hS => by go_simp⟩) hS7 ?_
  simp only [Act.put, List.setIfInBounds_toArray, List.set_cons_zero, List.set_cons_succ]
  refine wpAnyH_take (i := 33) (oi := ⟨some 62, _, _, _, _, _⟩) (v := .bool true) rfl (by kernel_rfl) (by kernel_rfl) (by kernel_rfl) (fun _ _ _ h => h) (.inl ⟨by kernel_rfl, fun V hS => by go_simp⟩) hS7 ?_
  simp only [Act.put, List.setIfInBounds_toArray, List.set_cons_zero, List.set_cons_succ]
  refine wpAnyH_take (i := 34) (oi := ⟨some 63, _, _, _, _, _⟩) (v := .slice (some ⟨ob, oo, none⟩) 1 oc) rfl (by kernel_rfl) (by kernel_rfl) (by kernel_rfl) (fun _ _ _ h => h) (.inl ⟨by kernel_rfl, fun V hS => by go_simp⟩) hS7 ?_
  simp only [Act.put, List.setIfInBounds_toArray, List.set_cons_zero, List.set_cons_succ]
  refine wpAnyH_take (i := 35) (oi := ⟨some 64, _, _, _, _, _⟩) (v := .pointer (some ⟨ob, oo, none⟩)) rfl (by kernel_rfl) (by kernel_rfl) (by kernel_rfl) (fun _ _ _ h => h) (.inl ⟨by kernel_rfl, fun V hS => by go_simp⟩) hS7 ?_
  simp only [Act.put, List.setIfInBounds_toArray, List.set_cons_zero, List.set_cons_succ]
  refine wpAnyH_take (i := 36) (oi := ⟨some 65, _, _, _, _, _⟩) (v := .string tgJ) rfl (by kernel_rfl) (by kernel_rfl) (by kernel_rfl) (fun _ _ _ h => h) (.inl ⟨by kernel_rfl, fun V hS => by obtain ⟨h0, h1, h2, h3, h4⟩ := HCE.out V hS; go_simp⟩) hS7 ?_
  simp only [Act.put, List.setIfInBounds_toArray, List.set_cons_zero, List.set_cons_succ]
  refine wpAnyH_take (i := 37) (oi := ⟨some 66, _, _, _, _, _⟩) (v := .bool true) rfl (by kernel_rfl) (by kernel_rfl) (by kernel_rfl) (fun _ _ _ h => h) (.inl ⟨by kernel_rfl, fun V hS => by go_simp⟩) hS7 ?_
  simp only [Act.put, List.setIfInBounds_toArray, List.set_cons_zero, List.set_cons_succ]
  refine wpAnyH_take (i := 38) (oi := ⟨some 67, _, _, _, _, _⟩) (v := .bool true) rfl (by kernel_rfl) (by kernel_rfl) (by kernel_rfl) (fun _ _ _ h => h) (.inl ⟨by kernel_rfl, fun V hS => by go_simp⟩) hS7 ?_
  simp only [Act.put, List.setIfInBounds_toArray, List.set_cons_zero, List.set_cons_succ]
  refine wpAnyH_take (i := 39) (oi := ⟨some 68, _, _, _, _, _⟩) (v := .bool true) rfl (by kernel_rfl) (by kernel_rfl) (by kernel_rfl) (fun _ _ _ h => h) (.inl ⟨by kernel_rfl, fun V hS => by go_simp⟩) hS7 ?_
  simp only [Act.put, List.setIfInBounds_toArray, List.set_cons_zero, List.set_cons_succ]
  refine wpAnyH_ready (rs := [40]) (by kernel_rfl) (by simp) ?_
  refine AllReadyH.cons rfl (fun K' hK => ?_) AllReadyH.nil
  go_simp
  refine (one_any 2 _ (by decide)).mono ?_
  rintro e y40 ⟨g40, rfl, hm40, hby⟩
  have HM40 := Lib.hid hm40
  have HBY40 := Lib.hid hby
  clear hm40
  go_simp
  refine hK.out _ _ ((hS7).trans (hby.mono (hS7).size)) (fun hS8 => ?_)
  clear hK K' hS7
  refine wpAnyH_ready (rs := [41]) (by kernel_rfl) (by simp) ?_
  refine AllReadyH.cons rfl (fun K' hK => ?_) AllReadyH.nil
  go_simp
  refine (one_any 3 _ (by decide)).mono ?_
  rintro e y41 ⟨g41, rfl, hm41, hby⟩
  have HM41 := Lib.hid hm41
  have HBY41 := Lib.hid hby
  clear hm41
  go_simp
  refine hK.out _ _ ((hS8).trans (hby.mono (hS8).size)) (fun hS9 => ?_)
  clear hK K' hS8
  refine wpAnyH_ready (rs := [42]) (by kernel_rfl) (by simp) ?_
  refine AllReadyH.cons rfl (fun K' hK => ?_) AllReadyH.nil
  go_simp
  have hc9 := older_any 2 9 3 9 (HM40.out.bel HBY41.out) HM41.out (by decide)
  rw [old_two] at hc9
  simp only [List.length_cons, List.length_nil, Nat.zero_add] at hc9
  refine hc9.mono ?_
  clear hc9
  rintro e y42 ⟨ov, rfl, ho42, hby⟩
  obtain ⟨oA, oC, rfl⟩ := or_nil ho42
  clear ho42
  go_simp
  refine hK.out _ _ ((hS9).trans (hby.mono (hS9).size)) (fun hS10 => ?_)
  clear hK K' hS9
  refine wpAnyH_take (i := 43) (oi := ⟨some 72, _, _, _, _, _⟩) (v := .int .i64 0) rfl (by kernel_rfl) (by kernel_rfl) (by kernel_rfl) (fun _ _ _ h => h) (.inl ⟨by kernel_rfl, fun V hS => by go_simp⟩) hS10 ?_
  simp only [Act.put, List.setIfInBounds_toArray, List.set_cons_zero, List.set_cons_succ]
  refine wpAnyH_take (i := 44) (oi := ⟨some 73, _, _, _, _, _⟩) (v := .bool true) rfl (by kernel_rfl) (by kernel_rfl) (by kernel_rfl) (fun _ _ _ h => h) (.inl ⟨by kernel_rfl, fun V hS => by go_simp⟩) hS10 ?_
  simp only [Act.put, List.setIfInBounds_toArray, List.set_cons_zero, List.set_cons_succ]
  refine wpAnyH_take (i := 45) (oi := ⟨some 74, _, _, _, _, _⟩) (v := .bool true) rfl (by kernel_rfl) (by kernel_rfl) (by kernel_rfl) (fun _ _ _ h => h) (.inl ⟨by kernel_rfl, fun V hS => by go_simp⟩) hS10 ?_
  simp only [Act.put, List.setIfInBounds_toArray, List.set_cons_zero, List.set_cons_succ]
  refine wpAnyH_take (i := 46) (oi := ⟨some 75, _, _, _, _, _⟩) (v := .bool true) rfl (by kernel_rfl) (by kernel_rfl) (by kernel_rfl) (fun _ _ _ h => h) (.inl ⟨by kernel_rfl, fun V hS => by go_simp⟩) hS10 ?_
  simp only [Act.put, List.setIfInBounds_toArray, List.set_cons_zero, List.set_cons_succ]
  refine wpAnyH_ready (rs := [47]) (by kernel_rfl) (by simp) ?_
  refine AllReadyH.cons rfl (fun K' hK => ?_) AllReadyH.nil
  go_simp
  have hc9 := fileName_any ⟨#[97, 46, 106, 115, 111, 110]⟩ y42 (by decide)
  rw [show fnameL (⟨#[97, 46, 106, 115, 111, 110]⟩ : ByteArray).data.toList = true from fn_one] at hc9
  refine hc9.mono ?_
  clear hc9
  rintro e y47 ⟨rfl, hby⟩
  go_simp
  refine hK.out _ _ ((hS10).trans (hby.mono (hS10).size)) (fun hS11 => ?_)
  clear hK K' hS10
  refine wpAnyH_take (i := 48) (oi := ⟨some 77, _, _, _, _, _⟩) (v := .bool true) rfl (by kernel_rfl) (by kernel_rfl) (by kernel_rfl) (fun _ _ _ h => h) (.inl ⟨by kernel_rfl, fun V hS => by go_simp⟩) hS11 ?_
  simp only [Act.put, List.setIfInBounds_toArray, List.set_cons_zero, List.set_cons_succ]
  refine wpAnyH_take (i := 49) (oi := ⟨some 78, _, _, _, _, _⟩) (v := .bool true) rfl (by kernel_rfl) (by kernel_rfl) (by kernel_rfl) (fun _ _ _ h => h) (.inl ⟨by kernel_rfl, fun V hS => by go_simp⟩) hS11 ?_
  simp only [Act.put, List.setIfInBounds_toArray, List.set_cons_zero, List.set_cons_succ]
  refine wpAnyH_ready (rs := [50]) (by kernel_rfl) (by simp) ?_
  refine AllReadyH.cons rfl (fun K' hK => ?_) AllReadyH.nil
  go_simp
  have hc9 := fileName_any ⟨#[46, 97]⟩ y47 (by decide)
  rw [show fnameL (⟨#[46, 97]⟩ : ByteArray).data.toList = false from fn_two] at hc9
  refine hc9.mono ?_
  clear hc9
  rintro e y50 ⟨rfl, hby⟩
  go_simp
  refine hK.out _ _ ((hS11).trans (hby.mono (hS11).size)) (fun hS12 => ?_)
  clear hK K' hS11
  refine wpAnyH_take (i := 51) (oi := ⟨some 80, _, _, _, _, _⟩) (v := .bool true) rfl (by kernel_rfl) (by kernel_rfl) (by kernel_rfl) (fun _ _ _ h => h) (.inl ⟨by kernel_rfl, fun V hS => by go_simp⟩) hS12 ?_
  simp only [Act.put, List.setIfInBounds_toArray, List.set_cons_zero, List.set_cons_succ]
  refine wpAnyH_take (i := 52) (oi := ⟨some 81, _, _, _, _, _⟩) (v := .bool true) rfl (by kernel_rfl) (by kernel_rfl) (by kernel_rfl) (fun _ _ _ h => h) (.inl ⟨by kernel_rfl, fun V hS => by go_simp⟩) hS12 ?_
  simp only [Act.put, List.setIfInBounds_toArray, List.set_cons_zero, List.set_cons_succ]
  refine wpAnyH_take (i := 53) (oi := ⟨some 82, _, _, _, _, _⟩) (v := .bool true) rfl (by kernel_rfl) (by kernel_rfl) (by kernel_rfl) (fun _ _ _ h => h) (.inl ⟨by kernel_rfl, fun V hS => by go_simp⟩) hS12 ?_
  simp only [Act.put, List.setIfInBounds_toArray, List.set_cons_zero, List.set_cons_succ]
  refine wpAnyH_take (i := 54) (oi := ⟨some 83, _, _, _, _, _⟩) (v := .agg #[.string ⟨#[]⟩, .int .i64 0, .int .i64 2, .string ⟨#[]⟩]) rfl (by kernel_rfl) (by kernel_rfl) (by kernel_rfl) (fun _ _ _ h => h) (.inl ⟨by kernel_rfl, fun V hS => by go_simp⟩) hS12 ?_
  simp only [Act.put, List.setIfInBounds_toArray, List.set_cons_zero, List.set_cons_succ]
  refine wpAnyH_ready (rs := [55]) (by kernel_rfl) (by simp) ?_
  refine AllReadyH.cons rfl (fun K' hK => ?_) AllReadyH.nil
  go_simp
  have HPRE56 := Lib.hid hS12
  refine hK.out _ _ ((hS12).alloc (hS12).size _) (fun hS13 => ?_)
  clear hK K' hS12
  refine wpAnyH_ready (rs := [56]) (by kernel_rfl) (by simp) ?_
  refine AllReadyH.cons rfl (fun K' hK => ?_) AllReadyH.nil
  obtain ⟨y56, hcv, hrb56, hby⟩ := lit_conv6 y50 [97] y50.heap.size 1 #[.int .u8 97] rfl rfl rfl
  have HRB56 := Lib.hid hrb56
  go_simp
  clear hcv hrb56
  refine hK.out _ _ ((HPRE56.out).trans (hby.mono (HPRE56.out).size)) (fun hS14 => ?_)
  clear hK K' hS13
  try simp only [Act.put, List.setIfInBounds_toArray, List.set_cons_zero, List.set_cons_succ]
  refine wpAnyH_ready (rs := [57]) (by kernel_rfl) (by simp) ?_
  refine AllReadyH.cons rfl (fun K' hK => ?_) AllReadyH.nil
  go_simp
  have hc9 := fits_any ⟨⟨#[]⟩, 0, 2, ⟨#[]⟩⟩ (some ⟨y50.heap.size, 0, none⟩) 1 1 [97] _ (HT12.out.below hS14).k (HRB56.out) rfl (by decide) (by decide) (by decide) (by decide : (⟨#[]⟩ : ByteArray).size ≤ 140737488351232)
  rw [fit_one] at hc9
  unfold ME.val at hc9
  refine hc9.mono ?_
  clear hc9
  rintro e y57 ⟨rfl, hby⟩
  go_simp
  refine hK.out _ _ ((hS14).trans (hby.mono (hS14).size)) (fun hS15 => ?_)
  clear hK K' hS14
  refine wpAnyH_take (i := 58) (oi := ⟨some 87, _, _, _, _, _⟩) (v := .bool true) rfl (by kernel_rfl) (by kernel_rfl) (by kernel_rfl) (fun _ _ _ h => h) (.inl ⟨by kernel_rfl, fun V hS => by go_simp⟩) hS15 ?_
  simp only [Act.put, List.setIfInBounds_toArray, List.set_cons_zero, List.set_cons_succ]
  refine wpAnyH_take (i := 59) (oi := ⟨some 88, _, _, _, _, _⟩) (v := .bool true) rfl (by kernel_rfl) (by kernel_rfl) (by kernel_rfl) (fun _ _ _ h => h) (.inl ⟨by kernel_rfl, fun V hS => by go_simp⟩) hS15 ?_
  simp only [Act.put, List.setIfInBounds_toArray, List.set_cons_zero, List.set_cons_succ]
  refine wpAnyH_take (i := 60) (oi := ⟨some 89, _, _, _, _, _⟩) (v := .bool true) rfl (by kernel_rfl) (by kernel_rfl) (by kernel_rfl) (fun _ _ _ h => h) (.inl ⟨by kernel_rfl, fun V hS => by go_simp⟩) hS15 ?_
  simp only [Act.put, List.setIfInBounds_toArray, List.set_cons_zero, List.set_cons_succ]
  refine wpAnyH_take (i := 61) (oi := ⟨some 90, _, _, _, _, _⟩) (v := .agg #[.string ⟨#[]⟩, .int .i64 0, .int .i64 1, .string ⟨#[48, 48]⟩]) rfl (by kernel_rfl) (by kernel_rfl) (by kernel_rfl) (fun _ _ _ h => h) (.inl ⟨by kernel_rfl, fun V hS => by go_simp⟩) hS15 ?_
  simp only [Act.put, List.setIfInBounds_toArray, List.set_cons_zero, List.set_cons_succ]
  refine wpAnyH_ready (rs := [62]) (by kernel_rfl) (by simp) ?_
  refine AllReadyH.cons rfl (fun K' hK => ?_) AllReadyH.nil
  go_simp
  have HPRE63 := Lib.hid hS15
  refine hK.out _ _ ((hS15).alloc (hS15).size _) (fun hS16 => ?_)
  clear hK K' hS15
  refine wpAnyH_ready (rs := [63]) (by kernel_rfl) (by simp) ?_
  refine AllReadyH.cons rfl (fun K' hK => ?_) AllReadyH.nil
  obtain ⟨y63, hcv, hrb63, hby⟩ := lit_conv6 y57 [97] y57.heap.size 1 #[.int .u8 97] rfl rfl rfl
  have HRB63 := Lib.hid hrb63
  go_simp
  clear hcv hrb63
  refine hK.out _ _ ((HPRE63.out).trans (hby.mono (HPRE63.out).size)) (fun hS17 => ?_)
  clear hK K' hS16
  try simp only [Act.put, List.setIfInBounds_toArray, List.set_cons_zero, List.set_cons_succ]
  refine wpAnyH_ready (rs := [64]) (by kernel_rfl) (by simp) ?_
  refine AllReadyH.cons rfl (fun K' hK => ?_) AllReadyH.nil
  go_simp
  have hc9 := fits_any ⟨⟨#[]⟩, 0, 1, ⟨#[48, 48]⟩⟩ (some ⟨y57.heap.size, 0, none⟩) 1 1 [97] _ (HT12.out.below hS17).k (HRB63.out) rfl (by decide) (by decide) (by decide) (by decide : (⟨#[48, 48]⟩ : ByteArray).size ≤ 140737488351232)
  rw [fit_two] at hc9
  unfold ME.val at hc9
  refine hc9.mono ?_
  clear hc9
  rintro e y64 ⟨rfl, hby⟩
  go_simp
  refine hK.out _ _ ((hS17).trans (hby.mono (hS17).size)) (fun hS18 => ?_)
  clear hK K' hS17
  refine wpAnyH_take (i := 65) (oi := ⟨some 94, _, _, _, _, _⟩) (v := .bool true) rfl (by kernel_rfl) (by kernel_rfl) (by kernel_rfl) (fun _ _ _ h => h) (.inl ⟨by kernel_rfl, fun V hS => by go_simp⟩) hS18 ?_
  simp only [Act.put, List.setIfInBounds_toArray, List.set_cons_zero, List.set_cons_succ]
  refine wpAnyH_take (i := 66) (oi := ⟨some 95, _, _, _, _, _⟩) (v := .bool true) rfl (by kernel_rfl) (by kernel_rfl) (by kernel_rfl) (fun _ _ _ h => h) (.inl ⟨by kernel_rfl, fun V hS => by go_simp⟩) hS18 ?_
  simp only [Act.put, List.setIfInBounds_toArray, List.set_cons_zero, List.set_cons_succ]
  refine wpAnyH_take (i := 67) (oi := ⟨some 96, _, _, _, _, _⟩) (v := .bool true) rfl (by kernel_rfl) (by kernel_rfl) (by kernel_rfl) (fun _ _ _ h => h) (.inl ⟨by kernel_rfl, fun V hS => by go_simp⟩) hS18 ?_
  simp only [Act.put, List.setIfInBounds_toArray, List.set_cons_zero, List.set_cons_succ]
  refine wpAnyH_take (i := 68) (oi := ⟨some 97, _, _, _, _, _⟩) (v := .agg #[.string ⟨#[]⟩, .int .i64 0, .int .i64 (-1), .string ⟨#[]⟩]) rfl (by kernel_rfl) (by kernel_rfl) (by kernel_rfl) (fun _ _ _ h => h) (.inl ⟨by kernel_rfl, fun V hS => by go_simp⟩) hS18 ?_
  simp only [Act.put, List.setIfInBounds_toArray, List.set_cons_zero, List.set_cons_succ]
  refine wpAnyH_ready (rs := [69]) (by kernel_rfl) (by simp) ?_
  refine AllReadyH.cons rfl (fun K' hK => ?_) AllReadyH.nil
  go_simp
  have hc9 := fits_any ⟨⟨#[]⟩, 0, (-1), ⟨#[]⟩⟩ (none) 0 0 [] _ (HT12.out.below hS18).k (rb_none y64) rfl (by decide) (by decide) (by decide) (by decide : (⟨#[]⟩ : ByteArray).size ≤ 140737488351232)
  rw [fit_three] at hc9
  unfold ME.val at hc9
  refine hc9.mono ?_
  clear hc9
  rintro e y69 ⟨rfl, hby⟩
  go_simp
  refine hK.out _ _ ((hS18).trans (hby.mono (hS18).size)) (fun hS19 => ?_)
  clear hK K' hS18
  refine wpAnyH_take (i := 70) (oi := ⟨some 99, _, _, _, _, _⟩) (v := .bool true) rfl (by kernel_rfl) (by kernel_rfl) (by kernel_rfl) (fun _ _ _ h => h) (.inl ⟨by kernel_rfl, fun V hS => by go_simp⟩) hS19 ?_
  simp only [Act.put, List.setIfInBounds_toArray, List.set_cons_zero, List.set_cons_succ]
  refine wpAnyH_take (i := 71) (oi := ⟨some 100, _, _, _, _, _⟩) (v := .bool true) rfl (by kernel_rfl) (by kernel_rfl) (by kernel_rfl) (fun _ _ _ h => h) (.inl ⟨by kernel_rfl, fun V hS => by go_simp⟩) hS19 ?_
  simp only [Act.put, List.setIfInBounds_toArray, List.set_cons_zero, List.set_cons_succ]
  refine wpAnyH_take (i := 72) (oi := ⟨some 101, _, _, _, _, _⟩) (v := .bool true) rfl (by kernel_rfl) (by kernel_rfl) (by kernel_rfl) (fun _ _ _ h => h) (.inl ⟨by kernel_rfl, fun V hS => by go_simp⟩) hS19 ?_
  simp only [Act.put, List.setIfInBounds_toArray, List.set_cons_zero, List.set_cons_succ]
  refine wpAnyH_take (i := 73) (oi := ⟨some 102, _, _, _, _, _⟩) (v := .agg #[.int .i64 3, .int .i64 9, .slice A 1 c]) rfl (by kernel_rfl) (by kernel_rfl) (by kernel_rfl) (fun _ _ _ h => h) (.inl ⟨by kernel_rfl, fun V hS => by obtain ⟨h0, h1, h2, h3, h4⟩ := HCE.out V hS; go_simp⟩) hS19 ?_
  simp only [Act.put, List.setIfInBounds_toArray, List.set_cons_zero, List.set_cons_succ]
  refine wpAnyH_take (i := 74) (oi := ⟨some 103, _, _, _, _, _⟩) (v := .agg #[.int .i64 3, .int .i64 9, .slice A 1 c]) rfl (by kernel_rfl) (by kernel_rfl) (by kernel_rfl) (fun _ _ _ h => h) (.inl ⟨by kernel_rfl, fun V hS => by obtain ⟨h0, h1, h2, h3, h4⟩ := HCE.out V hS; go_simp⟩) hS19 ?_
  simp only [Act.put, List.setIfInBounds_toArray, List.set_cons_zero, List.set_cons_succ]
  refine wpAnyH_ready (rs := [75]) (by kernel_rfl) (by simp) ?_
  refine AllReadyH.cons rfl (fun K' hK => ?_) AllReadyH.nil
  go_simp
  have hc9 := lsame_any 3 9 (HMA12.out.bel hS19) (HMA12.out.bel hS19)
  simp only [List.length_cons, List.length_nil, Nat.zero_add] at hc9
  refine hc9.mono ?_
  clear hc9
  rintro e y75 ⟨rfl, hby⟩
  go_simp
  refine hK.out _ _ ((hS19).trans (hby.mono (hS19).size)) (fun hS20 => ?_)
  clear hK K' hS19
  refine wpAnyH_take (i := 76) (oi := ⟨some 105, _, _, _, _, _⟩) (v := .bool true) rfl (by kernel_rfl) (by kernel_rfl) (by kernel_rfl) (fun _ _ _ h => h) (.inl ⟨by kernel_rfl, fun V hS => by go_simp⟩) hS20 ?_
  simp only [Act.put, List.setIfInBounds_toArray, List.set_cons_zero, List.set_cons_succ]
  refine wpAnyH_take (i := 77) (oi := ⟨some 0, _, _, _, _, _⟩) (v := .bool true) rfl (by kernel_rfl) (by kernel_rfl) (by kernel_rfl) (fun _ _ _ h => h) (.inl ⟨by kernel_rfl, fun V hS => by go_simp⟩) hS20 ?_
  simp only [Act.put, List.setIfInBounds_toArray, List.set_cons_zero, List.set_cons_succ]
  refine wpAnyH_done (by kernel_rfl) ?_ _
  have HZ := Lib.hid (HB12.out.trans ((hS20).mono HB12.out.size))
  clear hS20
  go_wp2
  refine bodyPost_ret (v := .bool true) (by simp [results, Tryz.results8, go_sem]) rfl ?_
  exact ⟨rfl, HZ.out⟩
end Go.Proofs.YtefkpphahimkgaaGreatDoor
