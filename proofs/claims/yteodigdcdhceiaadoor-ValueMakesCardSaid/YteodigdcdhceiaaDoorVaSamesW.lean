/-
  The walk of ValueSames.
-/
import Derived.Test.YteodigdcdhceiaaDoorVaL
import Derived.Test.YteodigdcdhceiaaDoorVaT3
namespace Go.Proofs.YteodigdcdhceiaaDoor
open Go.RowKit
attribute [local go_sem ↓] Go.wp_at_zero Go.wp_at_succ
set_option linter.unusedVariables false
set_option linter.unusedSimpArgs false

theorem sameP_comm (a b : PV) : sameP a b = sameP b a := by
  unfold sameP
  rw [Bool.eq_iff_iff]
  simp only [Bool.and_eq_true, decide_eq_true_eq]
  exact ⟨fun ⟨h1, h2, h3⟩ => ⟨h2, h1, h3.symm⟩, fun ⟨h1, h2, h3⟩ => ⟨h2, h1, h3.symm⟩⟩
theorem fine_small {w : World} {v : MV} (h : VAt w v) (hs : SzV v) (hf : FitV v) (hw : v.wt ≤ 6000) : Fine w v := ⟨h, okP_of hs hf, Nat.le_trans (cnt_le_wt v) (by omega)⟩
theorem chk_sort {p : PV} (h : p.chk = 0) : p.sort.chk = 0 := by
  obtain ⟨h1, h2, h3⟩ := chk_zero.1 h
  exact chk_zero.2 ⟨by rw [dep_sort _ h3]; exact h1, by rw [cnt_sort _ h3]; exact h2, right_sort _ h3⟩
set_option maxRecDepth 100000 in
set_option maxHeartbeats 4000000 in
theorem valueSames_walk (a b : MV) (w : World) (ht : tabU w) (ha : VAt w a) (sa : SzV a) (hb : VAt w b) (sb : SzV b) : Calls Tryd.prog 3 #[a.val, b.val] w fun e w' => e = .returned (.bool true) ∧ Below w.heap.size w w' := by
  show Calls Tryd.prog 3 #[a.val, b.val] w fun e w' => PF (RiP true w) e w'
  have HT := Lib.hid ht
  have HVA := Lib.hid ha
  have HVB := Lib.hid hb
  have HSA := Lib.hid sa
  have HSB := Lib.hid sb
  obtain ⟨W2, hW2⟩ : ∃ W2, W2 = ((w.alloc (.cells #[.int .i64 a.k, .int .i64 a.n, .string a.s, .slice a.lA a.l.length a.lc, .slice a.mA a.m.length a.mc] 25)).alloc (.cells #[.int .i64 b.k, .int .i64 b.n, .string b.s, .slice b.lA b.l.length b.lc, .slice b.mA b.m.length b.mc] 25)) := ⟨_, rfl⟩
  have hb2 : Below w.heap.size w W2 := by rw [hW2]; exact below_al _ (below_new _ _)
  have HKA : Hid (Blk W2 w.heap.size 25 #[.int .i64 a.k, .int .i64 a.n, .string a.s, .slice a.lA a.l.length a.lc, .slice a.mA a.m.length a.mc]) := Lib.hid (by rw [hW2]; exact (Blk.new _ _ _).alloc _)
  have HKB : Hid (Blk W2 (w.heap.size + 1) 25 #[.int .i64 b.k, .int .i64 b.n, .string b.s, .slice b.lA b.l.length b.lc, .slice b.mA b.m.length b.mc]) := Lib.hid (by
    rw [hW2]
    have h2 := Blk.new (w.alloc (.cells #[.int .i64 a.k, .int .i64 a.n, .string a.s, .slice a.lA a.l.length a.lc, .slice a.mA a.m.length a.mc] 25)) 25 #[.int .i64 b.k, .int .i64 b.n, .string b.s, .slice b.lA b.l.length b.lc, .slice b.mA b.m.length b.mc]
    simpa using h2)
  have HB2 := Lib.hid hb2
  have hla := rLarge_any (ha.bel hb2) sa
  have HLB := Lib.hid (fun V (hV : Below W2.heap.size W2 V) => rLarge_any ((hb.bel hb2).bel hV) sb)
  unfold MV.val at hla HLB ⊢
  have HLA := Lib.hid hla
  have HW2 := Lib.hid hW2
  clear ht ha sa hb sb hb2 hla hW2
  go_enter Tryd.func3, Tryd.ntmps3
  obtain ⟨a0, a1, a2, a3, a4⟩ := five_cells HKA.out
  rw [HW2.out] at a0 a1 a2 a3 a4
  go_wp2_with fail
  rw [← HW2.out]
  refine HLA.out.mono ?_
  clear a0 a1 a2 a3 a4
  rintro e w3 ⟨lb, rfl, hb3, hsm⟩
  have HB3 := Lib.hid (HB2.out.trans (hb3.mono HB2.out.size))
  have HB23 := Lib.hid hb3
  clear hb3
  cases lb with
  | true =>
    clear hsm
    go_wp2_with fail
    refine (vlives_any w3 (HT.out.below HB3.out)).mono ?_
    rintro e u1 ⟨rfl, hb1⟩
    have HBE := Lib.hid (HB3.out.trans (hb1.mono HB3.out.size))
    clear hb1
    go_wp2
    go_ret
    exact ⟨rfl, HBE.out⟩
  | false =>
  obtain ⟨hw1, hw2, hw3⟩ := hsm rfl
  have HFA0 := Lib.hid (fine_small HVA.out HSA.out hw3 hw1)
  obtain ⟨b0, b1, b2, b3, b4⟩ := five_cells (HKB.out.below HB23.out HKB.out.lt)
  clear hsm hw1 hw2 hw3
  go_wp2_with fail
  refine (HLB.out w3 HB23.out).mono ?_
  clear b0 b1 b2 b3 b4
  rintro e w4' ⟨lb, rfl, hb4, hsm⟩
  have HB4 := Lib.hid (HB3.out.trans (hb4.mono HB3.out.size))
  have HB24 := Lib.hid (HB23.out.trans (hb4.mono HB23.out.size))
  clear hb4
  cases lb with
  | true =>
    clear hsm
    go_wp2_with fail
    refine (vlives_any w4' (HT.out.below HB4.out)).mono ?_
    rintro e u1 ⟨rfl, hb1⟩
    have HBE := Lib.hid (HB4.out.trans (hb1.mono HB4.out.size))
    clear hb1
    go_wp2
    go_ret
    exact ⟨rfl, HBE.out⟩
  | false =>
  obtain ⟨hw1, hw2, hw3⟩ := hsm rfl
  have HFB0 := Lib.hid (fine_small HVB.out HSB.out hw3 hw1)
  obtain ⟨a0, a1, a2, a3, a4⟩ := five_cells (HKA.out.below HB24.out HKA.out.lt)
  have hs := srtd_any (HFA0.out.bel HB4.out) (HT.out.below HB4.out)
  unfold MV.val at hs
  have HS := Lib.hid hs
  clear hsm hw1 hw2 hw3 hs
  go_wp2_with fail
  refine HS.out.mono ?_
  clear a0 a1 a2 a3 a4
  rintro e w4 ⟨s, rfl, hps, hos, hb5⟩
  obtain ⟨W5, hW5⟩ : ∃ W5, W5 = w4.alloc (.cells #[.int .i64 s.k, .int .i64 s.n, .string s.s, .slice s.lA s.l.length s.lc, .slice s.mA s.m.length s.mc] 25) := ⟨_, rfl⟩
  have hb6 : Below w4.heap.size w4 W5 := by rw [hW5]; exact below_new _ _
  have hks : Blk W5 w4.heap.size 25 #[.int .i64 s.k, .int .i64 s.n, .string s.s, .slice s.lA s.l.length s.lc, .slice s.mA s.m.length s.mc] := by rw [hW5]; exact Blk.new _ _ _
  have hb45 := hb5.trans (hb6.mono hb5.size)
  have HB5 := Lib.hid (HB4.out.trans (hb45.mono HB4.out.size))
  have hka := (HKA.out.below HB24.out HKA.out.lt).below hb45 (HKA.out.below HB24.out HKA.out.lt).lt
  have hkb := (HKB.out.below HB24.out HKB.out.lt).below hb45 (HKB.out.below HB24.out HKB.out.lt).lt
  have HSV : Hid (∀ V, Below W5.heap.size W5 V → (V.cell? ⟨w.heap.size, 0, none⟩ = some (.int .i64 a.k) ∧ V.cell? ⟨w.heap.size, 1, none⟩ = some (.int .i64 a.n) ∧ V.cell? ⟨w.heap.size, 2, none⟩ = some (.string a.s) ∧ V.cell? ⟨w.heap.size, 3, none⟩ = some (.slice a.lA a.l.length a.lc) ∧ V.cell? ⟨w.heap.size, 4, none⟩ = some (.slice a.mA a.m.length a.mc)) ∧ (V.cell? ⟨w.heap.size + 1, 0, none⟩ = some (.int .i64 b.k) ∧ V.cell? ⟨w.heap.size + 1, 1, none⟩ = some (.int .i64 b.n) ∧ V.cell? ⟨w.heap.size + 1, 2, none⟩ = some (.string b.s) ∧ V.cell? ⟨w.heap.size + 1, 3, none⟩ = some (.slice b.lA b.l.length b.lc) ∧ V.cell? ⟨w.heap.size + 1, 4, none⟩ = some (.slice b.mA b.m.length b.mc)) ∧ (V.cell? ⟨w4.heap.size, 0, none⟩ = some (.int .i64 s.k) ∧ V.cell? ⟨w4.heap.size, 1, none⟩ = some (.int .i64 s.n) ∧ V.cell? ⟨w4.heap.size, 2, none⟩ = some (.string s.s) ∧ V.cell? ⟨w4.heap.size, 3, none⟩ = some (.slice s.lA s.l.length s.lc) ∧ V.cell? ⟨w4.heap.size, 4, none⟩ = some (.slice s.mA s.m.length s.mc))) := Lib.hid (fun V hV => ⟨five_cells (hka.below hV hka.lt), five_cells (hkb.below hV hkb.lt), five_cells (hks.below hV hks.lt)⟩)
  have HFA := Lib.hid (HFA0.out.bel HB5.out)
  have HFB := Lib.hid (HFB0.out.bel HB5.out)
  have HVS := Lib.hid (hos.at_.bel hb6)
  have HPS0 := Lib.hid hps
  have HKA5 := Lib.hid hka
  obtain ⟨rs, hrs⟩ : ∃ rs, rs = sameP a.pv b.pv := ⟨_, rfl⟩
  have HRS := Lib.hid hrs
  have HRT : Hid (rs = sameP b.pv a.pv) := Lib.hid (hrs.trans (sameP_comm _ _))
  unfold MV.val
  clear hps hos hb5 hb6 hks hb45 hka hkb hrs HS HLA HLB HKA HKB
  go_upto_region 4 with (fail)
  rw [← hW5]
  clear hW5
  refine wp_region_held_drew (S := fun V => Below W5.heap.size W5 V) (by kernel_rfl) ((Below.refl _ _).drew) (fun hS1 => ?_)
  refine wpAnyH_ready (rs := [0]) (by kernel_rfl) (by simp) ?_
  refine AllReadyH.cons rfl (fun K' hK => ?_) AllReadyH.nil
  go_simp
  refine (vlives_any _ (HT.out.below (HB5.out.trans ((hS1).mono HB5.out.size)))).mono ?_
  rintro e u1 ⟨rfl, hb1⟩
  go_simp
  refine hK.out _ _ ((hS1).trans (hb1.mono (hS1).size)) (fun hS2 => ?_)
  clear hK K' hS1
  refine wpAnyH_take (i := 1) (oi := ⟨some 16, _, _, _, _, _⟩) (v := .bool false) rfl (by kernel_rfl) (by kernel_rfl) (by kernel_rfl) (fun _ _ _ h => h) (.inl ⟨by kernel_rfl, fun V hS => by go_simp⟩) hS2 ?_
  simp only [Act.put, List.setIfInBounds_toArray, List.set_cons_zero, List.set_cons_succ]
  refine wpAnyH_take (i := 2) (oi := ⟨some 17, _, _, _, _, _⟩) (v := .bool false) rfl (by kernel_rfl) (by kernel_rfl) (by kernel_rfl) (fun _ _ _ h => h) (.inl ⟨by kernel_rfl, fun V hS => by go_simp⟩) hS2 ?_
  simp only [Act.put, List.setIfInBounds_toArray, List.set_cons_zero, List.set_cons_succ]
  refine wpAnyH_take (i := 3) (oi := ⟨some 18, _, _, _, _, _⟩) (v := .agg #[.int .i64 a.k, .int .i64 a.n, .string a.s, .slice a.lA a.l.length a.lc, .slice a.mA a.m.length a.mc]) rfl (by kernel_rfl) (by kernel_rfl) (by kernel_rfl) (fun _ _ _ h => h) (.inl ⟨by kernel_rfl, fun V hS => by obtain ⟨⟨h0, h1, h2, h3, h4⟩, _, _⟩ := HSV.out V hS; go_simp⟩) hS2 ?_
  simp only [Act.put, List.setIfInBounds_toArray, List.set_cons_zero, List.set_cons_succ]
  refine wpAnyH_take (i := 4) (oi := ⟨some 19, _, _, _, _, _⟩) (v := .agg #[.int .i64 b.k, .int .i64 b.n, .string b.s, .slice b.lA b.l.length b.lc, .slice b.mA b.m.length b.mc]) rfl (by kernel_rfl) (by kernel_rfl) (by kernel_rfl) (fun _ _ _ h => h) (.inl ⟨by kernel_rfl, fun V hS => by obtain ⟨_, ⟨h0, h1, h2, h3, h4⟩, _⟩ := HSV.out V hS; go_simp⟩) hS2 ?_
  simp only [Act.put, List.setIfInBounds_toArray, List.set_cons_zero, List.set_cons_succ]
  refine wpAnyH_take (i := 6) (oi := ⟨some 21, _, _, _, _, _⟩) (v := .agg #[.int .i64 a.k, .int .i64 a.n, .string a.s, .slice a.lA a.l.length a.lc, .slice a.mA a.m.length a.mc]) rfl (by kernel_rfl) (by kernel_rfl) (by kernel_rfl) (fun _ _ _ h => h) (.inl ⟨by kernel_rfl, fun V hS => by obtain ⟨⟨h0, h1, h2, h3, h4⟩, _, _⟩ := HSV.out V hS; go_simp⟩) hS2 ?_
  simp only [Act.put, List.setIfInBounds_toArray, List.set_cons_zero, List.set_cons_succ]
  refine wpAnyH_take (i := 7) (oi := ⟨some 22, _, _, _, _, _⟩) (v := .agg #[.int .i64 b.k, .int .i64 b.n, .string b.s, .slice b.lA b.l.length b.lc, .slice b.mA b.m.length b.mc]) rfl (by kernel_rfl) (by kernel_rfl) (by kernel_rfl) (fun _ _ _ h => h) (.inl ⟨by kernel_rfl, fun V hS => by obtain ⟨_, ⟨h0, h1, h2, h3, h4⟩, _⟩ := HSV.out V hS; go_simp⟩) hS2 ?_
  simp only [Act.put, List.setIfInBounds_toArray, List.set_cons_zero, List.set_cons_succ]
  refine wpAnyH_ready (rs := [5]) (by kernel_rfl) (by simp) ?_
  refine AllReadyH.cons rfl (fun K' hK => ?_) AllReadyH.nil
  go_simp
  have hcc := same_any (HFA.out.bel hS2) (HFB.out.bel hS2) (HT.out.below (HB5.out.trans ((hS2).mono HB5.out.size)))
  rw [← HRS.out] at hcc
  unfold MV.val at hcc
  refine hcc.mono ?_
  clear hcc
  rintro e u2 ⟨rfl, hb2⟩
  go_simp
  refine hK.out _ _ ((hS2).trans (hb2.mono (hS2).size)) (fun hS3 => ?_)
  clear hK K' hS2
  refine wpAnyH_ready (rs := [8]) (by kernel_rfl) (by simp) ?_
  refine AllReadyH.cons rfl (fun K' hK => ?_) AllReadyH.nil
  go_simp
  have hcc := rsame_any (HFA.out.bel hS3) (HFB.out.bel hS3)
  rw [← HRS.out] at hcc
  unfold MV.val at hcc
  refine hcc.mono ?_
  clear hcc
  rintro e u3 ⟨rfl, hb3⟩
  go_simp
  refine hK.out _ _ ((hS3).trans (hb3.mono (hS3).size)) (fun hS4 => ?_)
  clear hK K' hS3
  refine wpAnyH_take (i := 9) (oi := ⟨some 24, _, _, _, _, _⟩) (v := .bool false) rfl (by kernel_rfl) (by kernel_rfl) (by kernel_rfl) (fun _ _ _ h => h) (.inl ⟨by kernel_rfl, fun V hS => by go_simp⟩) hS4 ?_
  simp only [Act.put, List.setIfInBounds_toArray, List.set_cons_zero, List.set_cons_succ]
  refine wpAnyH_take (i := 10) (oi := ⟨some 25, _, _, _, _, _⟩) (v := .bool false) rfl (by kernel_rfl) (by kernel_rfl) (by kernel_rfl) (fun _ _ _ h => h) (.inl ⟨by kernel_rfl, fun V hS => by go_simp⟩) hS4 ?_
  simp only [Act.put, List.setIfInBounds_toArray, List.set_cons_zero, List.set_cons_succ]
  refine wpAnyH_take (i := 11) (oi := ⟨some 26, _, _, _, _, _⟩) (v := .bool false) rfl (by kernel_rfl) (by kernel_rfl) (by kernel_rfl) (fun _ _ _ h => h) (.inl ⟨by kernel_rfl, fun V hS => by go_simp⟩) hS4 ?_
  simp only [Act.put, List.setIfInBounds_toArray, List.set_cons_zero, List.set_cons_succ]
  refine wpAnyH_take (i := 12) (oi := ⟨some 27, _, _, _, _, _⟩) (v := .agg #[.int .i64 b.k, .int .i64 b.n, .string b.s, .slice b.lA b.l.length b.lc, .slice b.mA b.m.length b.mc]) rfl (by kernel_rfl) (by kernel_rfl) (by kernel_rfl) (fun _ _ _ h => h) (.inl ⟨by kernel_rfl, fun V hS => by obtain ⟨_, ⟨h0, h1, h2, h3, h4⟩, _⟩ := HSV.out V hS; go_simp⟩) hS4 ?_
  simp only [Act.put, List.setIfInBounds_toArray, List.set_cons_zero, List.set_cons_succ]
  refine wpAnyH_take (i := 13) (oi := ⟨some 28, _, _, _, _, _⟩) (v := .agg #[.int .i64 a.k, .int .i64 a.n, .string a.s, .slice a.lA a.l.length a.lc, .slice a.mA a.m.length a.mc]) rfl (by kernel_rfl) (by kernel_rfl) (by kernel_rfl) (fun _ _ _ h => h) (.inl ⟨by kernel_rfl, fun V hS => by obtain ⟨⟨h0, h1, h2, h3, h4⟩, _, _⟩ := HSV.out V hS; go_simp⟩) hS4 ?_
  simp only [Act.put, List.setIfInBounds_toArray, List.set_cons_zero, List.set_cons_succ]
  refine wpAnyH_take (i := 15) (oi := ⟨some 30, _, _, _, _, _⟩) (v := .agg #[.int .i64 a.k, .int .i64 a.n, .string a.s, .slice a.lA a.l.length a.lc, .slice a.mA a.m.length a.mc]) rfl (by kernel_rfl) (by kernel_rfl) (by kernel_rfl) (fun _ _ _ h => h) (.inl ⟨by kernel_rfl, fun V hS => by obtain ⟨⟨h0, h1, h2, h3, h4⟩, _, _⟩ := HSV.out V hS; go_simp⟩) hS4 ?_
  simp only [Act.put, List.setIfInBounds_toArray, List.set_cons_zero, List.set_cons_succ]
  refine wpAnyH_take (i := 16) (oi := ⟨some 31, _, _, _, _, _⟩) (v := .agg #[.int .i64 b.k, .int .i64 b.n, .string b.s, .slice b.lA b.l.length b.lc, .slice b.mA b.m.length b.mc]) rfl (by kernel_rfl) (by kernel_rfl) (by kernel_rfl) (fun _ _ _ h => h) (.inl ⟨by kernel_rfl, fun V hS => by obtain ⟨_, ⟨h0, h1, h2, h3, h4⟩, _⟩ := HSV.out V hS; go_simp⟩) hS4 ?_
  simp only [Act.put, List.setIfInBounds_toArray, List.set_cons_zero, List.set_cons_succ]
  refine wpAnyH_ready (rs := [14]) (by kernel_rfl) (by simp) ?_
  refine AllReadyH.cons rfl (fun K' hK => ?_) AllReadyH.nil
  go_simp
  have hcc := same_any (HFB.out.bel hS4) (HFA.out.bel hS4) (HT.out.below (HB5.out.trans ((hS4).mono HB5.out.size)))
  rw [← HRT.out] at hcc
  unfold MV.val at hcc
  refine hcc.mono ?_
  clear hcc
  rintro e u4 ⟨rfl, hb4⟩
  go_simp
  refine hK.out _ _ ((hS4).trans (hb4.mono (hS4).size)) (fun hS5 => ?_)
  clear hK K' hS4
  refine wpAnyH_ready (rs := [17]) (by kernel_rfl) (by simp) ?_
  refine AllReadyH.cons rfl (fun K' hK => ?_) AllReadyH.nil
  go_simp
  have hcc := same_any (HFA.out.bel hS5) (HFB.out.bel hS5) (HT.out.below (HB5.out.trans ((hS5).mono HB5.out.size)))
  rw [← HRS.out] at hcc
  unfold MV.val at hcc
  refine hcc.mono ?_
  clear hcc
  rintro e u5 ⟨rfl, hb5⟩
  go_simp
  refine hK.out _ _ ((hS5).trans (hb5.mono (hS5).size)) (fun hS6 => ?_)
  clear hK K' hS5
  refine wpAnyH_take (i := 18) (oi := ⟨some 33, _, _, _, _, _⟩) (v := .bool false) rfl (by kernel_rfl) (by kernel_rfl) (by kernel_rfl) (fun _ _ _ h => h) (.inl ⟨by kernel_rfl, fun V hS => by go_simp⟩) hS6 ?_
  simp only [Act.put, List.setIfInBounds_toArray, List.set_cons_zero, List.set_cons_succ]
  refine wpAnyH_take (i := 19) (oi := ⟨some 34, _, _, _, _, _⟩) (v := .bool false) rfl (by kernel_rfl) (by kernel_rfl) (by kernel_rfl) (fun _ _ _ h => h) (.inl ⟨by kernel_rfl, fun V hS => by go_simp⟩) hS6 ?_
  simp only [Act.put, List.setIfInBounds_toArray, List.set_cons_zero, List.set_cons_succ]
  refine wpAnyH_done (by kernel_rfl) ?_ _
  obtain ⟨a0, a1, a2, a3, a4⟩ := (HSV.out u5 hS6).1
  have hcc := rcheck_any (HFA.out.bel hS6)
  obtain ⟨C, hC⟩ : ∃ C, C = a.pv.chk := ⟨_, rfl⟩
  rw [← hC] at hcc
  unfold MV.val at hcc
  have HCC := Lib.hid hcc
  have HC := Lib.hid hC
  have HN4 := Lib.hid hS6
  clear hcc hC hS6 hb1 hb2 hb3 hb4 hb5
  go_wp2_with fail
  refine HCC.out.mono ?_
  clear a0 a1 a2 a3 a4
  rintro e w6 ⟨rfl, hb6⟩
  have HN6 := Lib.hid (HN4.out.trans (hb6.mono HN4.out.size))
  clear hb6 HCC
  by_cases h0 : C = 0
  rotate_left
  · have q1 : (C == 0) = false := by rw [beq_eq_false_iff_ne]; exact h0
    have q2 : (C != 0) = true := by rw [bne_iff_ne]; exact h0
    have HPS : Hid (s.pv = PV.none_) := Lib.hid (by rw [HPS0.out, if_neg (by rw [← HC.out]; exact h0)])
    have HSN : Hid (sameP a.pv a.pv = false) := Lib.hid (by unfold sameP; rw [decide_eq_false (by rw [← HC.out]; exact h0)]; rfl)
    obtain ⟨s0, s1, s2, s3, s4⟩ := (HSV.out w6 HN6.out).2.2
    have hcc := rexact_any (HVS.out.bel HN6.out) MV.none_ w6 (Below.refl _ _) (VOwn.none_ 0 w6).at_
    rw [show ExP s MV.none_ w6 = RiP true w6 from by unfold ExP RiP; rw [HPS.out, show MV.none_.pv = PV.none_ from rfl, decide_eq_true rfl]] at hcc
    rw [show MV.none_.val = .agg #[.int .i64 0, .int .i64 0, .string ⟨#[]⟩, .slice none 0 0, .slice none 0 0] from rfl] at hcc
    unfold MV.val at hcc
    have HCC := Lib.hid hcc
    clear h0 hcc
    go_wp2_with fail
    refine HCC.out.mono ?_
    clear s0 s1 s2 s3 s4
    rintro e w7 ⟨rfl, hb7⟩
    have HN7 := Lib.hid (HN6.out.trans (hb7.mono HN6.out.size))
    clear hb7 HCC
    obtain ⟨a0, a1, a2, a3, a4⟩ := (HSV.out w7 HN7.out).1
    have hcc := same_any (HFA.out.bel HN7.out) (HFA.out.bel HN7.out) (HT.out.below (HB5.out.trans (HN7.out.mono HB5.out.size)))
    rw [HSN.out] at hcc
    unfold MV.val at hcc
    have HCC := Lib.hid hcc
    clear hcc
    go_wp2_with fail
    refine HCC.out.mono ?_
    rintro e w8 ⟨rfl, hb8⟩
    have HBE := Lib.hid (HB5.out.trans ((HN7.out.trans (hb8.mono HN7.out.size)).mono HB5.out.size))
    clear hb8
    go_wp2
    go_ret
    exact ⟨rfl, HBE.out⟩
  have q1 : (C == 0) = true := by rw [h0]; rfl
  have q2 : (C != 0) = false := by rw [h0]; rfl
  have hc0 : a.pv.chk = 0 := HC.out.symm.trans h0
  have HRI := Lib.hid (chk_zero.1 hc0).2.2
  have HPS : Hid (s.pv = a.pv.sort) := Lib.hid (by rw [HPS0.out, if_pos hc0])
  have HCS : Hid (a.pv.sort.chk = 0) := Lib.hid (chk_sort hc0)
  have HST : Hid (a.pv.sort.sort = a.pv.sort) := Lib.hid (sort_sort _ HRI.out)
  have HSS : Hid (sameP a.pv a.pv.sort = true) := Lib.hid (by unfold sameP; rw [hc0, HCS.out, HST.out]; simp)
  have HFS0 := Lib.hid (fine_of HVS.out HPS.out (ok_sort HFA.out.ok) (by rw [cnt_sort _ HRI.out, ← cnt_pv]; exact HFA.out.few))
  clear h0 hc0
  go_wp2_with fail
  have HBW := HB5
  have HB5 := Lib.hid (HBW.out.trans (HN6.out.mono HBW.out.size))
  have HFS := Lib.hid (HFS0.out.bel HN6.out)
  have HFA := Lib.hid (HFA.out.bel HN6.out)
  have HSV := Lib.hid (fun V (hV : Below w6.heap.size w6 V) => HSV.out V (HN6.out.trans (hV.mono HN6.out.size)))
  refine wp_region_held_drew (S := fun V => Below w6.heap.size w6 V) (by kernel_rfl) ((Below.refl _ _).drew) (fun hS1 => ?_)
  refine wpAnyH_take (i := 0) (oi := ⟨some 47, _, _, _, _, _⟩) (v := .agg #[.int .i64 s.k, .int .i64 s.n, .string s.s, .slice s.lA s.l.length s.lc, .slice s.mA s.m.length s.mc]) rfl (by kernel_rfl) (by kernel_rfl) (by kernel_rfl) (fun _ _ _ h => h) (.inl ⟨by kernel_rfl, fun V hS => by obtain ⟨_, _, ⟨h0, h1, h2, h3, h4⟩⟩ := HSV.out V hS; go_simp⟩) hS1 ?_
  simp only [Act.put, List.setIfInBounds_toArray, List.set_cons_zero, List.set_cons_succ]
  refine wpAnyH_take (i := 1) (oi := ⟨some 48, _, _, _, _, _⟩) (v := .agg #[.int .i64 a.k, .int .i64 a.n, .string a.s, .slice a.lA a.l.length a.lc, .slice a.mA a.m.length a.mc]) rfl (by kernel_rfl) (by kernel_rfl) (by kernel_rfl) (fun _ _ _ h => h) (.inl ⟨by kernel_rfl, fun V hS => by obtain ⟨⟨h0, h1, h2, h3, h4⟩, _, _⟩ := HSV.out V hS; go_simp⟩) hS1 ?_
  simp only [Act.put, List.setIfInBounds_toArray, List.set_cons_zero, List.set_cons_succ]
  refine wpAnyH_ready (rs := [2]) (by kernel_rfl) (by simp) ?_
  refine AllReadyH.cons rfl (fun K' hK => ?_) AllReadyH.nil
  go_simp
  have hcc := rsort_any (HFA.out.bel hS1).at_ HFA.out.ok HRI.out _ (Below.refl _ _)
  unfold MV.val at hcc
  refine hcc.mono ?_
  clear hcc
  rintro e u6 ⟨q, rfl, hpq, hoq, hb6⟩
  have HPQ := Lib.hid hpq
  have HVQ := Lib.hid hoq.at_
  have hS6 := (hS1).trans (hb6.mono (hS1).size)
  have HVS6 := Lib.hid ((HFS.out.bel hS6).at_)
  unfold MV.val
  clear hpq hoq hS6
  go_simp
  refine hK.out _ _ ((hS1).trans (hb6.mono (hS1).size)) (fun hS2 => ?_)
  clear hK K' hS1
  refine wpAnyH_ready (rs := [3]) (by kernel_rfl) (by simp) ?_
  refine AllReadyH.cons rfl (fun K' hK => ?_) AllReadyH.nil
  go_simp
  have hcc := rexact_any HVS6.out q _ (Below.refl _ _) HVQ.out
  unfold ExP MV.val at hcc
  rw [HPQ.out, HPS.out, decide_eq_true rfl] at hcc
  refine hcc.mono ?_
  clear hcc
  rintro e u7 ⟨rfl, hb7⟩
  go_simp
  refine hK.out _ _ ((hS2).trans (hb7.mono (hS2).size)) (fun hS3 => ?_)
  clear hK K' hS2
  refine wpAnyH_take (i := 4) (oi := ⟨some 51, _, _, _, _, _⟩) (v := .bool true) rfl (by kernel_rfl) (by kernel_rfl) (by kernel_rfl) (fun _ _ _ h => h) (.inl ⟨by kernel_rfl, fun V hS => by go_simp⟩) hS3 ?_
  simp only [Act.put, List.setIfInBounds_toArray, List.set_cons_zero, List.set_cons_succ]
  refine wpAnyH_take (i := 5) (oi := ⟨some 52, _, _, _, _, _⟩) (v := .agg #[.int .i64 a.k, .int .i64 a.n, .string a.s, .slice a.lA a.l.length a.lc, .slice a.mA a.m.length a.mc]) rfl (by kernel_rfl) (by kernel_rfl) (by kernel_rfl) (fun _ _ _ h => h) (.inl ⟨by kernel_rfl, fun V hS => by obtain ⟨⟨h0, h1, h2, h3, h4⟩, _, _⟩ := HSV.out V hS; go_simp⟩) hS3 ?_
  simp only [Act.put, List.setIfInBounds_toArray, List.set_cons_zero, List.set_cons_succ]
  refine wpAnyH_take (i := 6) (oi := ⟨some 53, _, _, _, _, _⟩) (v := .agg #[.int .i64 s.k, .int .i64 s.n, .string s.s, .slice s.lA s.l.length s.lc, .slice s.mA s.m.length s.mc]) rfl (by kernel_rfl) (by kernel_rfl) (by kernel_rfl) (fun _ _ _ h => h) (.inl ⟨by kernel_rfl, fun V hS => by obtain ⟨_, _, ⟨h0, h1, h2, h3, h4⟩⟩ := HSV.out V hS; go_simp⟩) hS3 ?_
  simp only [Act.put, List.setIfInBounds_toArray, List.set_cons_zero, List.set_cons_succ]
  refine wpAnyH_ready (rs := [7]) (by kernel_rfl) (by simp) ?_
  refine AllReadyH.cons rfl (fun K' hK => ?_) AllReadyH.nil
  go_simp
  have hcc := same_any (HFA.out.bel hS3) (HFS.out.bel hS3) (HT.out.below (HB5.out.trans ((hS3).mono HB5.out.size)))
  rw [HPS.out, HSS.out] at hcc
  unfold MV.val at hcc
  refine hcc.mono ?_
  clear hcc
  rintro e u8 ⟨rfl, hb8⟩
  go_simp
  refine hK.out _ _ ((hS3).trans (hb8.mono (hS3).size)) (fun hS4 => ?_)
  clear hK K' hS3
  refine wpAnyH_take (i := 8) (oi := ⟨some 55, _, _, _, _, _⟩) (v := .bool true) rfl (by kernel_rfl) (by kernel_rfl) (by kernel_rfl) (fun _ _ _ h => h) (.inl ⟨by kernel_rfl, fun V hS => by go_simp⟩) hS4 ?_
  simp only [Act.put, List.setIfInBounds_toArray, List.set_cons_zero, List.set_cons_succ]
  refine wpAnyH_take (i := 9) (oi := ⟨some 56, _, _, _, _, _⟩) (v := .bool true) rfl (by kernel_rfl) (by kernel_rfl) (by kernel_rfl) (fun _ _ _ h => h) (.inl ⟨by kernel_rfl, fun V hS => by go_simp⟩) hS4 ?_
  simp only [Act.put, List.setIfInBounds_toArray, List.set_cons_zero, List.set_cons_succ]
  refine wpAnyH_take (i := 10) (oi := ⟨some 57, _, _, _, _, _⟩) (v := .agg #[.int .i64 s.k, .int .i64 s.n, .string s.s, .slice s.lA s.l.length s.lc, .slice s.mA s.m.length s.mc]) rfl (by kernel_rfl) (by kernel_rfl) (by kernel_rfl) (fun _ _ _ h => h) (.inl ⟨by kernel_rfl, fun V hS => by obtain ⟨_, _, ⟨h0, h1, h2, h3, h4⟩⟩ := HSV.out V hS; go_simp⟩) hS4 ?_
  simp only [Act.put, List.setIfInBounds_toArray, List.set_cons_zero, List.set_cons_succ]
  refine wpAnyH_take (i := 12) (oi := ⟨some 59, _, _, _, _, _⟩) (v := .agg #[.int .i64 s.k, .int .i64 s.n, .string s.s, .slice s.lA s.l.length s.lc, .slice s.mA s.m.length s.mc]) rfl (by kernel_rfl) (by kernel_rfl) (by kernel_rfl) (fun _ _ _ h => h) (.inl ⟨by kernel_rfl, fun V hS => by obtain ⟨_, _, ⟨h0, h1, h2, h3, h4⟩⟩ := HSV.out V hS; go_simp⟩) hS4 ?_
  simp only [Act.put, List.setIfInBounds_toArray, List.set_cons_zero, List.set_cons_succ]
  refine wpAnyH_ready (rs := [11]) (by kernel_rfl) (by simp) ?_
  refine AllReadyH.cons rfl (fun K' hK => ?_) AllReadyH.nil
  go_simp
  have hcc := srtd_any (HFS.out.bel hS4) (HT.out.below (HB5.out.trans ((hS4).mono HB5.out.size)))
  rw [HPS.out, if_pos HCS.out, HST.out] at hcc
  unfold MV.val at hcc
  refine hcc.mono ?_
  clear hcc
  rintro e u9 ⟨t, rfl, hpt, hot, hb9⟩
  have HPT := Lib.hid hpt
  have HVT := Lib.hid hot.at_
  have hS9 := (hS4).trans (hb9.mono (hS4).size)
  have HVS9 := Lib.hid ((HFS.out.bel hS9).at_)
  unfold MV.val
  clear hpt hot hS9
  go_simp
  refine hK.out _ _ ((hS4).trans (hb9.mono (hS4).size)) (fun hS5 => ?_)
  clear hK K' hS4
  refine wpAnyH_ready (rs := [13]) (by kernel_rfl) (by simp) ?_
  refine AllReadyH.cons rfl (fun K' hK => ?_) AllReadyH.nil
  go_simp
  have hcc := rexact_any HVT.out s _ (Below.refl _ _) HVS9.out
  unfold ExP MV.val at hcc
  rw [HPT.out, HPS.out, decide_eq_true rfl] at hcc
  refine hcc.mono ?_
  clear hcc
  rintro e u10 ⟨rfl, hb10⟩
  go_simp
  refine hK.out _ _ ((hS5).trans (hb10.mono (hS5).size)) (fun hS6 => ?_)
  clear hK K' hS5
  refine wpAnyH_take (i := 14) (oi := ⟨some 61, _, _, _, _, _⟩) (v := .bool true) rfl (by kernel_rfl) (by kernel_rfl) (by kernel_rfl) (fun _ _ _ h => h) (.inl ⟨by kernel_rfl, fun V hS => by go_simp⟩) hS6 ?_
  simp only [Act.put, List.setIfInBounds_toArray, List.set_cons_zero, List.set_cons_succ]
  refine wpAnyH_take (i := 15) (oi := ⟨some 4, _, _, _, _, _⟩) (v := .bool true) rfl (by kernel_rfl) (by kernel_rfl) (by kernel_rfl) (fun _ _ _ h => h) (.inl ⟨by kernel_rfl, fun V hS => by go_simp⟩) hS6 ?_
  simp only [Act.put, List.setIfInBounds_toArray, List.set_cons_zero, List.set_cons_succ]
  refine wpAnyH_done (by kernel_rfl) ?_ _
  have HBE := Lib.hid (HB5.out.trans (hS6.mono HB5.out.size))
  clear hS6
  go_wp2
  go_ret
  exact ⟨rfl, HBE.out⟩
end Go.Proofs.YteodigdcdhceiaaDoor
