/-
  pursuivantlaw03.UtfEscapes: it returns true. (Printed by wip/tools/gen_esc.py.)
-/
import Derived.Test.YtonjnonpajkmlaaDoorUtfLives
import Derived.Test.YtonjnonpajkmlaaDoorUtfEscP
import Derived.Test.YtonjnonpajkmlaaDoorUtfEncodesW

namespace Go.Proofs.YtonjnonpajkmlaaDoor
open Go.RowKit Utf
set_option linter.unusedVariables false

theorem str_app2' (a b : ByteArray) : (a ++ b).data.toList = a.data.toList ++ b.data.toList := by rw [ByteArray.data_append, Array.toList_append]
theorem two_alloc (w : World) (o : Obj) (a b : Value) : ((w.alloc o).alloc (.cells #[a, b] 3)).cell? ⟨w.heap.size + 1, 0, none⟩ = some a ∧ ((w.alloc o).alloc (.cells #[a, b] 3)).cell? ⟨w.heap.size + 1, 1, none⟩ = some b := by
  have e : (w.alloc o).heap.size = w.heap.size + 1 := by simp
  rw [← e, World.cell?_alloc_new, World.cell?_alloc_new]
  exact ⟨rfl, rfl⟩
set_option maxHeartbeats 800000 in
theorem utfEscapes_no (x : Int) (u : Bool) (w : World) (ht : tabU w) (hm : mayU x = false) : Calls Tryd.prog 7 #[.int .i64 x, .bool u] w fun e w' => e = .returned (.bool true) ∧ Below w.heap.size w w' := by
  have hE := fun w => encode_no x w hm
  have HT := Lib.hid ht
  have HL := Lib.hid (fun w ht => lives_any w ht)
  have HE := Lib.hid hE
  clear hE hm ht
  go_enter Tryd.func7, Tryd.ntmps7
  go_wp2_with fail
  refine (HE.out _).mono ?_
  rintro e w' ⟨rfl, rfl⟩
  go_wp2_with fail
  refine (HL.out _ HT.out).mono ?_
  rintro e w1 ⟨rfl, hb1⟩
  have HT1 := Lib.hid (HT.out.below hb1)
  have HB1 := Lib.hid hb1
  clear hb1
  go_wp2_with fail
  refine (HL.out _ HT1.out).mono ?_
  rintro e w2 ⟨rfl, hb2⟩
  go_wp2
  go_ret
  exact ⟨rfl, below2 HB1.out hb2⟩
set_option maxRecDepth 1000000 in
set_option maxHeartbeats 8000000 in
theorem utfEscapes_oneL (z : Nat) (w : World) (ht : tabU w) (hm : mayU (z : Int) = true) (g : (z : Int) < 65536) : Calls Tryd.prog 7 #[.int .i64 (z : Int), .bool false] w fun e w' => e = .returned (.bool true) ∧ Below w.heap.size w w' := by
  have HT := Lib.hid ht
  have HL := Lib.hid (fun w ht => lives_any w ht)
  have hmm := may_iff.1 hm
  have h4 := enc_len z hm
  obtain ⟨n, hn⟩ : ∃ n, n = (encU (z : Int)).length := ⟨_, rfl⟩
  obtain ⟨E, hE⟩ : ∃ E : ByteArray, E = ⟨(encU (z : Int)).toArray⟩ := ⟨_, rfl⟩
  rw [← hn] at h4
  have HE := Lib.hid hE
  have HM := Lib.hid hm
  have HNL := Lib.hid hn.symm
  have c1 : (E.toList == E.toList) = true := by simp
  clear ht hm hE hn
  have e1 : decide ((65536 : Int) ≤ (z : Int)) = false := by rw [decide_eq_false_iff_not]; omega
  have HX := Lib.hid lowExt
  go_enter Tryd.func7, Tryd.ntmps7
  go_wp2_with fail
  refine (encode_yes z _ HM.out).mono ?_
  rintro e w1 ⟨v, rfl, hv, hb1⟩
  obtain ⟨A, c, rfl, _, _, hR, _⟩ := hv.shape
  rw [HNL.out]
  have HR1 := Lib.hid hR
  have HT1 := Lib.hid (HT.out.below hb1)
  have HB1 := Lib.hid hb1
  clear hb1 hv hR
  go_wp2_with fail
  refine (HL.out _ HT1.out).mono ?_
  rintro e w2 ⟨rfl, hb2⟩
  have HT2 := Lib.hid (HT1.out.below hb2)
  have HB2 := Lib.hid (below2 HB1.out hb2)
  have HR2 := Lib.hid (HR1.out.below hb2)
  clear hb2
  go_wp2_with fail
  obtain ⟨wl, hwl⟩ : ∃ wl, wl = w2.alloc (.cells #[.int .i64 (z : Int)] 3) := ⟨_, rfl⟩
  have hbl : Below w2.heap.size w2 wl := by rw [hwl]; exact below_new _ _
  have hcl0 : wl.cell? ⟨w2.heap.size, 0, none⟩ = some (.int .i64 (z : Int)) := by rw [hwl, World.cell?_alloc_new]; rfl
  rw [← hwl]
  have HWC0 := Lib.hid (fun wr (hb : Below wl.heap.size wl wr) => (hb.cell (p := ⟨w2.heap.size, 0, none⟩) (lt_of_cell hcl0)).trans hcl0)
  clear hcl0
  have HBL := Lib.hid (below2 HB2.out hbl)
  have HRL := Lib.hid (HR2.out.below hbl)
  have HTL := Lib.hid (HT2.out.below hbl)
  clear hbl hwl
  go_loopw [9, 10] (fun v i wr => ∃ (k : Nat) (T : ByteArray), k ≤ 1 ∧ i = .int .i64 k ∧ v = .string T ∧ T.data.toList = [34] ++ escL false ([z].take k) ∧ Below wl.heap.size wl wr) (fun _ i _ => 1 - (intOf i).toNat)
  case atStart => exact ⟨0, _, by omega, rfl, rfl, rfl, Below.refl _ _⟩
  case round =>
    obtain ⟨k, T, hk, rfl, rfl, hT, hb⟩ := hrel
    have HB := Lib.hid hb
    have HTT := Lib.hid hT
    have hts : T.size ≤ 13 := by rw [size_l hT, List.length_append]; rcases (by omega : k = 0 ∨ k = 1 ∨ k = 2) with rfl | rfl | rfl <;> simp [escL, hx4]
    clear hb hT
    rcases (by omega : k = 0 ∨ k = 1) with rfl | rfl
    · go_wp2_with fail
      go_loopw [9, 11] (fun v i wr => ∃ (j : Nat) (kz : Int) (T : ByteArray), j ≤ 4 ∧ kz = 12 - 4 * (j : Int) ∧ i = .int .i64 kz ∧ v = .string T ∧ T.data.toList = [34] ++ escL false ([z].take 0) ++ [92, 117] ++ (hx4 false z).take j ∧ Below wl.heap.size wl wr) (fun _ i _ => ((intOf i) + 4).toNat)
      case atStart => exact ⟨0, 12, _, by omega, by omega, rfl, rfl, by rw [str_app2', HTT.out]; rfl, HB.out⟩
      case round =>
        obtain ⟨j, kz, T2, hj, hkz, rfl, rfl, hT2, hb2⟩ := hrel
        have HB2 := Lib.hid hb2
        have HTT2 := Lib.hid hT2
        have hts2 : T2.size ≤ 20 := by rw [size_l hT2, List.length_append, List.length_take]; simp [escL, hx4]; omega
        have hc := HWC0.out _ hb2
        clear hb2 hT2
        rcases (by omega : j = 0 ∨ j = 1 ∨ j = 2 ∨ j = 3 ∨ j = 4) with rfl | rfl | rfl | rfl | rfl
        · obtain rfl : kz = 12 := by omega
          clear hkz hj
          go_wp2_with fail
          refine ⟨⟨1, 8, _, by omega, by omega, rfl, rfl, ?_, HB2.out⟩, by simp [intOf]⟩
          rw [HX.out _ (by omega), str_app2', HTT2.out]
          rfl
        · obtain rfl : kz = 8 := by omega
          clear hkz hj
          go_wp2_with fail
          refine ⟨⟨2, 4, _, by omega, by omega, rfl, rfl, ?_, HB2.out⟩, by simp [intOf]⟩
          rw [HX.out _ (by omega), str_app2', HTT2.out]
          rfl
        · obtain rfl : kz = 4 := by omega
          clear hkz hj
          go_wp2_with fail
          refine ⟨⟨3, 0, _, by omega, by omega, rfl, rfl, ?_, HB2.out⟩, by simp [intOf]⟩
          rw [HX.out _ (by omega), str_app2', HTT2.out]
          rfl
        · obtain rfl : kz = 0 := by omega
          clear hkz hj
          go_wp2_with fail
          refine ⟨⟨4, -4, _, by omega, by omega, rfl, rfl, ?_, HB2.out⟩, by simp [intOf]⟩
          rw [HX.out _ (by omega), str_app2', HTT2.out]
          rfl
        · obtain rfl : kz = -4 := by omega
          clear hkz hj
          go_wp2_with fail
          refine ⟨⟨1, T2, by omega, by go_num, rfl, ?_, HB2.out⟩, by simp [intOf]⟩
          rw [HTT2.out]
          rfl
    · have HF := Lib.hid (show (T ++ { data := #[34] }).data.toList = [34] ++ escL false [z] ++ [34] by rw [str_app2', HTT.out]; rfl)
      have hFs : (T ++ { data := #[34] }).size = T.size + 1 := by rw [ByteArray.size_append]; rfl
      have hU := fun w ht => unq_esc (T ++ { data := #[34] }) false z [z] HM.out (.inl ⟨g, rfl⟩) HF.out w ht
      rw [hFs, ← HE.out] at hU
      have HU := Lib.hid hU
      clear hU hFs
      go_wp2_with fail
      refine (HU.out _ (HTL.out.below HB.out)).mono ?_
      rintro e w5 ⟨rfl, hb5⟩
      have HB5 := Lib.hid (HB.out.trans (hb5.mono HB.out.size))
      have s1 := run_E HE.out (HRL.out.below HB5.out) n c HNL.out
      clear hb5
      go_wp2
      go_ret
      exact ⟨by simp, below2 HBL.out HB5.out⟩
set_option maxRecDepth 1000000 in
set_option maxHeartbeats 8000000 in
theorem utfEscapes_oneU (z : Nat) (w : World) (ht : tabU w) (hm : mayU (z : Int) = true) (g : (z : Int) < 65536) : Calls Tryd.prog 7 #[.int .i64 (z : Int), .bool true] w fun e w' => e = .returned (.bool true) ∧ Below w.heap.size w w' := by
  have HT := Lib.hid ht
  have HL := Lib.hid (fun w ht => lives_any w ht)
  have hmm := may_iff.1 hm
  have h4 := enc_len z hm
  obtain ⟨n, hn⟩ : ∃ n, n = (encU (z : Int)).length := ⟨_, rfl⟩
  obtain ⟨E, hE⟩ : ∃ E : ByteArray, E = ⟨(encU (z : Int)).toArray⟩ := ⟨_, rfl⟩
  rw [← hn] at h4
  have HE := Lib.hid hE
  have HM := Lib.hid hm
  have HNL := Lib.hid hn.symm
  have c1 : (E.toList == E.toList) = true := by simp
  clear ht hm hE hn
  have e1 : decide ((65536 : Int) ≤ (z : Int)) = false := by rw [decide_eq_false_iff_not]; omega
  have HX := Lib.hid upExt
  go_enter Tryd.func7, Tryd.ntmps7
  go_wp2_with fail
  refine (encode_yes z _ HM.out).mono ?_
  rintro e w1 ⟨v, rfl, hv, hb1⟩
  obtain ⟨A, c, rfl, _, _, hR, _⟩ := hv.shape
  rw [HNL.out]
  have HR1 := Lib.hid hR
  have HT1 := Lib.hid (HT.out.below hb1)
  have HB1 := Lib.hid hb1
  clear hb1 hv hR
  go_wp2_with fail
  refine (HL.out _ HT1.out).mono ?_
  rintro e w2 ⟨rfl, hb2⟩
  have HT2 := Lib.hid (HT1.out.below hb2)
  have HB2 := Lib.hid (below2 HB1.out hb2)
  have HR2 := Lib.hid (HR1.out.below hb2)
  clear hb2
  go_wp2_with fail
  obtain ⟨wl, hwl⟩ : ∃ wl, wl = w2.alloc (.cells #[.int .i64 (z : Int)] 3) := ⟨_, rfl⟩
  have hbl : Below w2.heap.size w2 wl := by rw [hwl]; exact below_new _ _
  have hcl0 : wl.cell? ⟨w2.heap.size, 0, none⟩ = some (.int .i64 (z : Int)) := by rw [hwl, World.cell?_alloc_new]; rfl
  rw [← hwl]
  have HWC0 := Lib.hid (fun wr (hb : Below wl.heap.size wl wr) => (hb.cell (p := ⟨w2.heap.size, 0, none⟩) (lt_of_cell hcl0)).trans hcl0)
  clear hcl0
  have HBL := Lib.hid (below2 HB2.out hbl)
  have HRL := Lib.hid (HR2.out.below hbl)
  have HTL := Lib.hid (HT2.out.below hbl)
  clear hbl hwl
  go_loopw [9, 10] (fun v i wr => ∃ (k : Nat) (T : ByteArray), k ≤ 1 ∧ i = .int .i64 k ∧ v = .string T ∧ T.data.toList = [34] ++ escL true ([z].take k) ∧ Below wl.heap.size wl wr) (fun _ i _ => 1 - (intOf i).toNat)
  case atStart => exact ⟨0, _, by omega, rfl, rfl, rfl, Below.refl _ _⟩
  case round =>
    obtain ⟨k, T, hk, rfl, rfl, hT, hb⟩ := hrel
    have HB := Lib.hid hb
    have HTT := Lib.hid hT
    have hts : T.size ≤ 13 := by rw [size_l hT, List.length_append]; rcases (by omega : k = 0 ∨ k = 1 ∨ k = 2) with rfl | rfl | rfl <;> simp [escL, hx4]
    clear hb hT
    rcases (by omega : k = 0 ∨ k = 1) with rfl | rfl
    · go_wp2_with fail
      go_loopw [9, 11] (fun v i wr => ∃ (j : Nat) (kz : Int) (T : ByteArray), j ≤ 4 ∧ kz = 12 - 4 * (j : Int) ∧ i = .int .i64 kz ∧ v = .string T ∧ T.data.toList = [34] ++ escL true ([z].take 0) ++ [92, 117] ++ (hx4 true z).take j ∧ Below wl.heap.size wl wr) (fun _ i _ => ((intOf i) + 4).toNat)
      case atStart => exact ⟨0, 12, _, by omega, by omega, rfl, rfl, by rw [str_app2', HTT.out]; rfl, HB.out⟩
      case round =>
        obtain ⟨j, kz, T2, hj, hkz, rfl, rfl, hT2, hb2⟩ := hrel
        have HB2 := Lib.hid hb2
        have HTT2 := Lib.hid hT2
        have hts2 : T2.size ≤ 20 := by rw [size_l hT2, List.length_append, List.length_take]; simp [escL, hx4]; omega
        have hc := HWC0.out _ hb2
        clear hb2 hT2
        rcases (by omega : j = 0 ∨ j = 1 ∨ j = 2 ∨ j = 3 ∨ j = 4) with rfl | rfl | rfl | rfl | rfl
        · obtain rfl : kz = 12 := by omega
          clear hkz hj
          go_wp2_with fail
          refine ⟨⟨1, 8, _, by omega, by omega, rfl, rfl, ?_, HB2.out⟩, by simp [intOf]⟩
          rw [HX.out _ (by omega), str_app2', HTT2.out]
          rfl
        · obtain rfl : kz = 8 := by omega
          clear hkz hj
          go_wp2_with fail
          refine ⟨⟨2, 4, _, by omega, by omega, rfl, rfl, ?_, HB2.out⟩, by simp [intOf]⟩
          rw [HX.out _ (by omega), str_app2', HTT2.out]
          rfl
        · obtain rfl : kz = 4 := by omega
          clear hkz hj
          go_wp2_with fail
          refine ⟨⟨3, 0, _, by omega, by omega, rfl, rfl, ?_, HB2.out⟩, by simp [intOf]⟩
          rw [HX.out _ (by omega), str_app2', HTT2.out]
          rfl
        · obtain rfl : kz = 0 := by omega
          clear hkz hj
          go_wp2_with fail
          refine ⟨⟨4, -4, _, by omega, by omega, rfl, rfl, ?_, HB2.out⟩, by simp [intOf]⟩
          rw [HX.out _ (by omega), str_app2', HTT2.out]
          rfl
        · obtain rfl : kz = -4 := by omega
          clear hkz hj
          go_wp2_with fail
          refine ⟨⟨1, T2, by omega, by go_num, rfl, ?_, HB2.out⟩, by simp [intOf]⟩
          rw [HTT2.out]
          rfl
    · have HF := Lib.hid (show (T ++ { data := #[34] }).data.toList = [34] ++ escL true [z] ++ [34] by rw [str_app2', HTT.out]; rfl)
      have hFs : (T ++ { data := #[34] }).size = T.size + 1 := by rw [ByteArray.size_append]; rfl
      have hU := fun w ht => unq_esc (T ++ { data := #[34] }) true z [z] HM.out (.inl ⟨g, rfl⟩) HF.out w ht
      rw [hFs, ← HE.out] at hU
      have HU := Lib.hid hU
      clear hU hFs
      go_wp2_with fail
      refine (HU.out _ (HTL.out.below HB.out)).mono ?_
      rintro e w5 ⟨rfl, hb5⟩
      have HB5 := Lib.hid (HB.out.trans (hb5.mono HB.out.size))
      have s1 := run_E HE.out (HRL.out.below HB5.out) n c HNL.out
      clear hb5
      go_wp2
      go_ret
      exact ⟨by simp, below2 HBL.out HB5.out⟩
set_option maxRecDepth 1000000 in
set_option maxHeartbeats 8000000 in
theorem utfEscapes_twoL (z : Nat) (w : World) (ht : tabU w) (hm : mayU (z : Int) = true) (g : 65536 ≤ (z : Int)) : Calls Tryd.prog 7 #[.int .i64 (z : Int), .bool false] w fun e w' => e = .returned (.bool true) ∧ Below w.heap.size w w' := by
  have HT := Lib.hid ht
  have HL := Lib.hid (fun w ht => lives_any w ht)
  have hmm := may_iff.1 hm
  have h4 := enc_len z hm
  obtain ⟨n, hn⟩ : ∃ n, n = (encU (z : Int)).length := ⟨_, rfl⟩
  obtain ⟨E, hE⟩ : ∃ E : ByteArray, E = ⟨(encU (z : Int)).toArray⟩ := ⟨_, rfl⟩
  rw [← hn] at h4
  have HE := Lib.hid hE
  have HM := Lib.hid hm
  have HNL := Lib.hid hn.symm
  have c1 : (E.toList == E.toList) = true := by simp
  clear ht hm hE hn
  have e1 : decide ((65536 : Int) ≤ (z : Int)) = true := by rw [decide_eq_true_iff]; omega
  obtain ⟨a1, ha1⟩ : ∃ a1 : Nat, (a1 : Int) = ((z : Int) - 65536) / 1024 := ⟨(((z : Int) - 65536) / 1024).toNat, by omega⟩
  obtain ⟨a2, ha2⟩ : ∃ a2 : Nat, (a2 : Int) = ((z : Int) - 65536) % 1024 := ⟨(((z : Int) - 65536) % 1024).toNat, by omega⟩
  obtain ⟨y0, hy0⟩ : ∃ y0 : Nat, (y0 : Int) = 55296 + (a1 : Int) := ⟨55296 + a1, by omega⟩
  obtain ⟨y1, hy1⟩ : ∃ y1 : Nat, (y1 : Int) = 56320 + (a2 : Int) := ⟨56320 + a2, by omega⟩
  have q1 : ((z : Int) - 65536).tdiv 1024 = (a1 : Int) := by rw [Int.tdiv_eq_ediv_of_nonneg (by omega), ha1]
  have q2 : ((z : Int) - 65536).tmod 1024 = (a2 : Int) := by rw [Int.tmod_eq_emod_of_nonneg (by omega), ha2]
  have hb1 : a1 < 1024 := by omega
  have hb2 : a2 < 1024 := by omega
  have hb3 : y0 < 65536 := by omega
  have hb4 : y1 < 65536 := by omega
  have HY0 := Lib.hid hy0.symm
  have HY1 := Lib.hid hy1.symm
  have HZS := Lib.hid (show [y0, y1] = [(55296 + ((z : Int) - 65536) / 1024).toNat, (56320 + ((z : Int) - 65536) % 1024).toNat] by rw [← ha1, ← ha2, ← hy0, ← hy1]; simp)
  clear ha1 ha2 hy0 hy1
  have HX := Lib.hid lowExt
  go_enter Tryd.func7, Tryd.ntmps7
  go_wp2_with fail
  refine (encode_yes z _ HM.out).mono ?_
  rintro e w1 ⟨v, rfl, hv, hb1⟩
  obtain ⟨A, c, rfl, _, _, hR, _⟩ := hv.shape
  rw [HNL.out]
  have HR1 := Lib.hid hR
  have HT1 := Lib.hid (HT.out.below hb1)
  have HB1 := Lib.hid hb1
  clear hb1 hv hR
  go_wp2_with fail
  refine (HL.out _ HT1.out).mono ?_
  rintro e w2 ⟨rfl, hb2⟩
  have HT2 := Lib.hid (HT1.out.below hb2)
  have HB2 := Lib.hid (below2 HB1.out hb2)
  have HR2 := Lib.hid (HR1.out.below hb2)
  clear hb2
  go_wp2_with fail
  obtain ⟨wl, hwl⟩ : ∃ wl, wl = (w2.alloc (.cells #[.int .i64 (z : Int)] 3)).alloc (.cells #[.int .i64 (55296 + (a1 : Int)), .int .i64 (56320 + (a2 : Int))] 3) := ⟨_, rfl⟩
  have hbl : Below w2.heap.size w2 wl := by rw [hwl]; exact (below_new w2 _).trans ((below_new (w2.alloc _) _).mono (by simp))
  have hcl0 : wl.cell? ⟨w2.heap.size + 1, 0, none⟩ = some (.int .i64 (y0 : Int)) := by rw [hwl, ← HY0.out]; exact (two_alloc _ _ _ _).1
  have hcl1 : wl.cell? ⟨w2.heap.size + 1, 1, none⟩ = some (.int .i64 (y1 : Int)) := by rw [hwl, ← HY1.out]; exact (two_alloc _ _ _ _).2
  rw [← hwl]
  have HWC0 := Lib.hid (fun wr (hb : Below wl.heap.size wl wr) => (hb.cell (p := ⟨w2.heap.size + 1, 0, none⟩) (lt_of_cell hcl0)).trans hcl0)
  have HWC1 := Lib.hid (fun wr (hb : Below wl.heap.size wl wr) => (hb.cell (p := ⟨w2.heap.size + 1, 1, none⟩) (lt_of_cell hcl1)).trans hcl1)
  clear hcl0 hcl1
  have HBL := Lib.hid (below2 HB2.out hbl)
  have HRL := Lib.hid (HR2.out.below hbl)
  have HTL := Lib.hid (HT2.out.below hbl)
  clear hbl hwl
  go_loopw [9, 10] (fun v i wr => ∃ (k : Nat) (T : ByteArray), k ≤ 2 ∧ i = .int .i64 k ∧ v = .string T ∧ T.data.toList = [34] ++ escL false ([y0, y1].take k) ∧ Below wl.heap.size wl wr) (fun _ i _ => 2 - (intOf i).toNat)
  case atStart => exact ⟨0, _, by omega, rfl, rfl, rfl, Below.refl _ _⟩
  case round =>
    obtain ⟨k, T, hk, rfl, rfl, hT, hb⟩ := hrel
    have HB := Lib.hid hb
    have HTT := Lib.hid hT
    have hts : T.size ≤ 13 := by rw [size_l hT, List.length_append]; rcases (by omega : k = 0 ∨ k = 1 ∨ k = 2) with rfl | rfl | rfl <;> simp [escL, hx4]
    clear hb hT
    rcases (by omega : k = 0 ∨ k = 1 ∨ k = 2) with rfl | rfl | rfl
    · go_wp2_with fail
      go_loopw [9, 11] (fun v i wr => ∃ (j : Nat) (kz : Int) (T : ByteArray), j ≤ 4 ∧ kz = 12 - 4 * (j : Int) ∧ i = .int .i64 kz ∧ v = .string T ∧ T.data.toList = [34] ++ escL false ([y0, y1].take 0) ++ [92, 117] ++ (hx4 false y0).take j ∧ Below wl.heap.size wl wr) (fun _ i _ => ((intOf i) + 4).toNat)
      case atStart => exact ⟨0, 12, _, by omega, by omega, rfl, rfl, by rw [str_app2', HTT.out]; rfl, HB.out⟩
      case round =>
        obtain ⟨j, kz, T2, hj, hkz, rfl, rfl, hT2, hb2⟩ := hrel
        have HB2 := Lib.hid hb2
        have HTT2 := Lib.hid hT2
        have hts2 : T2.size ≤ 20 := by rw [size_l hT2, List.length_append, List.length_take]; simp [escL, hx4]; omega
        have hc := HWC0.out _ hb2
        clear hb2 hT2
        rcases (by omega : j = 0 ∨ j = 1 ∨ j = 2 ∨ j = 3 ∨ j = 4) with rfl | rfl | rfl | rfl | rfl
        · obtain rfl : kz = 12 := by omega
          clear hkz hj
          go_wp2_with fail
          refine ⟨⟨1, 8, _, by omega, by omega, rfl, rfl, ?_, HB2.out⟩, by simp [intOf]⟩
          rw [HX.out _ (by omega), str_app2', HTT2.out]
          rfl
        · obtain rfl : kz = 8 := by omega
          clear hkz hj
          go_wp2_with fail
          refine ⟨⟨2, 4, _, by omega, by omega, rfl, rfl, ?_, HB2.out⟩, by simp [intOf]⟩
          rw [HX.out _ (by omega), str_app2', HTT2.out]
          rfl
        · obtain rfl : kz = 4 := by omega
          clear hkz hj
          go_wp2_with fail
          refine ⟨⟨3, 0, _, by omega, by omega, rfl, rfl, ?_, HB2.out⟩, by simp [intOf]⟩
          rw [HX.out _ (by omega), str_app2', HTT2.out]
          rfl
        · obtain rfl : kz = 0 := by omega
          clear hkz hj
          go_wp2_with fail
          refine ⟨⟨4, -4, _, by omega, by omega, rfl, rfl, ?_, HB2.out⟩, by simp [intOf]⟩
          rw [HX.out _ (by omega), str_app2', HTT2.out]
          rfl
        · obtain rfl : kz = -4 := by omega
          clear hkz hj
          go_wp2_with fail
          refine ⟨⟨1, T2, by omega, by go_num, rfl, ?_, HB2.out⟩, by simp [intOf]⟩
          rw [HTT2.out]
          rfl
    · go_wp2_with fail
      go_loopw [9, 11] (fun v i wr => ∃ (j : Nat) (kz : Int) (T : ByteArray), j ≤ 4 ∧ kz = 12 - 4 * (j : Int) ∧ i = .int .i64 kz ∧ v = .string T ∧ T.data.toList = [34] ++ escL false ([y0, y1].take 1) ++ [92, 117] ++ (hx4 false y1).take j ∧ Below wl.heap.size wl wr) (fun _ i _ => ((intOf i) + 4).toNat)
      case atStart => exact ⟨0, 12, _, by omega, by omega, rfl, rfl, by rw [str_app2', HTT.out]; rfl, HB.out⟩
      case round =>
        obtain ⟨j, kz, T2, hj, hkz, rfl, rfl, hT2, hb2⟩ := hrel
        have HB2 := Lib.hid hb2
        have HTT2 := Lib.hid hT2
        have hts2 : T2.size ≤ 20 := by rw [size_l hT2, List.length_append, List.length_take]; simp [escL, hx4]; omega
        have hc := HWC1.out _ hb2
        clear hb2 hT2
        rcases (by omega : j = 0 ∨ j = 1 ∨ j = 2 ∨ j = 3 ∨ j = 4) with rfl | rfl | rfl | rfl | rfl
        · obtain rfl : kz = 12 := by omega
          clear hkz hj
          go_wp2_with fail
          refine ⟨⟨1, 8, _, by omega, by omega, rfl, rfl, ?_, HB2.out⟩, by simp [intOf]⟩
          rw [HX.out _ (by omega), str_app2', HTT2.out]
          rfl
        · obtain rfl : kz = 8 := by omega
          clear hkz hj
          go_wp2_with fail
          refine ⟨⟨2, 4, _, by omega, by omega, rfl, rfl, ?_, HB2.out⟩, by simp [intOf]⟩
          rw [HX.out _ (by omega), str_app2', HTT2.out]
          rfl
        · obtain rfl : kz = 4 := by omega
          clear hkz hj
          go_wp2_with fail
          refine ⟨⟨3, 0, _, by omega, by omega, rfl, rfl, ?_, HB2.out⟩, by simp [intOf]⟩
          rw [HX.out _ (by omega), str_app2', HTT2.out]
          rfl
        · obtain rfl : kz = 0 := by omega
          clear hkz hj
          go_wp2_with fail
          refine ⟨⟨4, -4, _, by omega, by omega, rfl, rfl, ?_, HB2.out⟩, by simp [intOf]⟩
          rw [HX.out _ (by omega), str_app2', HTT2.out]
          rfl
        · obtain rfl : kz = -4 := by omega
          clear hkz hj
          go_wp2_with fail
          refine ⟨⟨2, T2, by omega, by go_num, rfl, ?_, HB2.out⟩, by simp [intOf]⟩
          rw [HTT2.out]
          rfl
    · have HF := Lib.hid (show (T ++ { data := #[34] }).data.toList = [34] ++ escL false [y0, y1] ++ [34] by rw [str_app2', HTT.out]; rfl)
      have hFs : (T ++ { data := #[34] }).size = T.size + 1 := by rw [ByteArray.size_append]; rfl
      have hU := fun w ht => unq_esc (T ++ { data := #[34] }) false z [y0, y1] HM.out (.inr ⟨g, HZS.out⟩) HF.out w ht
      rw [hFs, ← HE.out] at hU
      have HU := Lib.hid hU
      clear hU hFs
      go_wp2_with fail
      refine (HU.out _ (HTL.out.below HB.out)).mono ?_
      rintro e w5 ⟨rfl, hb5⟩
      have HB5 := Lib.hid (HB.out.trans (hb5.mono HB.out.size))
      have s1 := run_E HE.out (HRL.out.below HB5.out) n c HNL.out
      clear hb5
      go_wp2
      go_ret
      exact ⟨by simp, below2 HBL.out HB5.out⟩
set_option maxRecDepth 1000000 in
set_option maxHeartbeats 8000000 in
theorem utfEscapes_twoU (z : Nat) (w : World) (ht : tabU w) (hm : mayU (z : Int) = true) (g : 65536 ≤ (z : Int)) : Calls Tryd.prog 7 #[.int .i64 (z : Int), .bool true] w fun e w' => e = .returned (.bool true) ∧ Below w.heap.size w w' := by
  have HT := Lib.hid ht
  have HL := Lib.hid (fun w ht => lives_any w ht)
  have hmm := may_iff.1 hm
  have h4 := enc_len z hm
  obtain ⟨n, hn⟩ : ∃ n, n = (encU (z : Int)).length := ⟨_, rfl⟩
  obtain ⟨E, hE⟩ : ∃ E : ByteArray, E = ⟨(encU (z : Int)).toArray⟩ := ⟨_, rfl⟩
  rw [← hn] at h4
  have HE := Lib.hid hE
  have HM := Lib.hid hm
  have HNL := Lib.hid hn.symm
  have c1 : (E.toList == E.toList) = true := by simp
  clear ht hm hE hn
  have e1 : decide ((65536 : Int) ≤ (z : Int)) = true := by rw [decide_eq_true_iff]; omega
  obtain ⟨a1, ha1⟩ : ∃ a1 : Nat, (a1 : Int) = ((z : Int) - 65536) / 1024 := ⟨(((z : Int) - 65536) / 1024).toNat, by omega⟩
  obtain ⟨a2, ha2⟩ : ∃ a2 : Nat, (a2 : Int) = ((z : Int) - 65536) % 1024 := ⟨(((z : Int) - 65536) % 1024).toNat, by omega⟩
  obtain ⟨y0, hy0⟩ : ∃ y0 : Nat, (y0 : Int) = 55296 + (a1 : Int) := ⟨55296 + a1, by omega⟩
  obtain ⟨y1, hy1⟩ : ∃ y1 : Nat, (y1 : Int) = 56320 + (a2 : Int) := ⟨56320 + a2, by omega⟩
  have q1 : ((z : Int) - 65536).tdiv 1024 = (a1 : Int) := by rw [Int.tdiv_eq_ediv_of_nonneg (by omega), ha1]
  have q2 : ((z : Int) - 65536).tmod 1024 = (a2 : Int) := by rw [Int.tmod_eq_emod_of_nonneg (by omega), ha2]
  have hb1 : a1 < 1024 := by omega
  have hb2 : a2 < 1024 := by omega
  have hb3 : y0 < 65536 := by omega
  have hb4 : y1 < 65536 := by omega
  have HY0 := Lib.hid hy0.symm
  have HY1 := Lib.hid hy1.symm
  have HZS := Lib.hid (show [y0, y1] = [(55296 + ((z : Int) - 65536) / 1024).toNat, (56320 + ((z : Int) - 65536) % 1024).toNat] by rw [← ha1, ← ha2, ← hy0, ← hy1]; simp)
  clear ha1 ha2 hy0 hy1
  have HX := Lib.hid upExt
  go_enter Tryd.func7, Tryd.ntmps7
  go_wp2_with fail
  refine (encode_yes z _ HM.out).mono ?_
  rintro e w1 ⟨v, rfl, hv, hb1⟩
  obtain ⟨A, c, rfl, _, _, hR, _⟩ := hv.shape
  rw [HNL.out]
  have HR1 := Lib.hid hR
  have HT1 := Lib.hid (HT.out.below hb1)
  have HB1 := Lib.hid hb1
  clear hb1 hv hR
  go_wp2_with fail
  refine (HL.out _ HT1.out).mono ?_
  rintro e w2 ⟨rfl, hb2⟩
  have HT2 := Lib.hid (HT1.out.below hb2)
  have HB2 := Lib.hid (below2 HB1.out hb2)
  have HR2 := Lib.hid (HR1.out.below hb2)
  clear hb2
  go_wp2_with fail
  obtain ⟨wl, hwl⟩ : ∃ wl, wl = (w2.alloc (.cells #[.int .i64 (z : Int)] 3)).alloc (.cells #[.int .i64 (55296 + (a1 : Int)), .int .i64 (56320 + (a2 : Int))] 3) := ⟨_, rfl⟩
  have hbl : Below w2.heap.size w2 wl := by rw [hwl]; exact (below_new w2 _).trans ((below_new (w2.alloc _) _).mono (by simp))
  have hcl0 : wl.cell? ⟨w2.heap.size + 1, 0, none⟩ = some (.int .i64 (y0 : Int)) := by rw [hwl, ← HY0.out]; exact (two_alloc _ _ _ _).1
  have hcl1 : wl.cell? ⟨w2.heap.size + 1, 1, none⟩ = some (.int .i64 (y1 : Int)) := by rw [hwl, ← HY1.out]; exact (two_alloc _ _ _ _).2
  rw [← hwl]
  have HWC0 := Lib.hid (fun wr (hb : Below wl.heap.size wl wr) => (hb.cell (p := ⟨w2.heap.size + 1, 0, none⟩) (lt_of_cell hcl0)).trans hcl0)
  have HWC1 := Lib.hid (fun wr (hb : Below wl.heap.size wl wr) => (hb.cell (p := ⟨w2.heap.size + 1, 1, none⟩) (lt_of_cell hcl1)).trans hcl1)
  clear hcl0 hcl1
  have HBL := Lib.hid (below2 HB2.out hbl)
  have HRL := Lib.hid (HR2.out.below hbl)
  have HTL := Lib.hid (HT2.out.below hbl)
  clear hbl hwl
  go_loopw [9, 10] (fun v i wr => ∃ (k : Nat) (T : ByteArray), k ≤ 2 ∧ i = .int .i64 k ∧ v = .string T ∧ T.data.toList = [34] ++ escL true ([y0, y1].take k) ∧ Below wl.heap.size wl wr) (fun _ i _ => 2 - (intOf i).toNat)
  case atStart => exact ⟨0, _, by omega, rfl, rfl, rfl, Below.refl _ _⟩
  case round =>
    obtain ⟨k, T, hk, rfl, rfl, hT, hb⟩ := hrel
    have HB := Lib.hid hb
    have HTT := Lib.hid hT
    have hts : T.size ≤ 13 := by rw [size_l hT, List.length_append]; rcases (by omega : k = 0 ∨ k = 1 ∨ k = 2) with rfl | rfl | rfl <;> simp [escL, hx4]
    clear hb hT
    rcases (by omega : k = 0 ∨ k = 1 ∨ k = 2) with rfl | rfl | rfl
    · go_wp2_with fail
      go_loopw [9, 11] (fun v i wr => ∃ (j : Nat) (kz : Int) (T : ByteArray), j ≤ 4 ∧ kz = 12 - 4 * (j : Int) ∧ i = .int .i64 kz ∧ v = .string T ∧ T.data.toList = [34] ++ escL true ([y0, y1].take 0) ++ [92, 117] ++ (hx4 true y0).take j ∧ Below wl.heap.size wl wr) (fun _ i _ => ((intOf i) + 4).toNat)
      case atStart => exact ⟨0, 12, _, by omega, by omega, rfl, rfl, by rw [str_app2', HTT.out]; rfl, HB.out⟩
      case round =>
        obtain ⟨j, kz, T2, hj, hkz, rfl, rfl, hT2, hb2⟩ := hrel
        have HB2 := Lib.hid hb2
        have HTT2 := Lib.hid hT2
        have hts2 : T2.size ≤ 20 := by rw [size_l hT2, List.length_append, List.length_take]; simp [escL, hx4]; omega
        have hc := HWC0.out _ hb2
        clear hb2 hT2
        rcases (by omega : j = 0 ∨ j = 1 ∨ j = 2 ∨ j = 3 ∨ j = 4) with rfl | rfl | rfl | rfl | rfl
        · obtain rfl : kz = 12 := by omega
          clear hkz hj
          go_wp2_with fail
          refine ⟨⟨1, 8, _, by omega, by omega, rfl, rfl, ?_, HB2.out⟩, by simp [intOf]⟩
          rw [HX.out _ (by omega), str_app2', HTT2.out]
          rfl
        · obtain rfl : kz = 8 := by omega
          clear hkz hj
          go_wp2_with fail
          refine ⟨⟨2, 4, _, by omega, by omega, rfl, rfl, ?_, HB2.out⟩, by simp [intOf]⟩
          rw [HX.out _ (by omega), str_app2', HTT2.out]
          rfl
        · obtain rfl : kz = 4 := by omega
          clear hkz hj
          go_wp2_with fail
          refine ⟨⟨3, 0, _, by omega, by omega, rfl, rfl, ?_, HB2.out⟩, by simp [intOf]⟩
          rw [HX.out _ (by omega), str_app2', HTT2.out]
          rfl
        · obtain rfl : kz = 0 := by omega
          clear hkz hj
          go_wp2_with fail
          refine ⟨⟨4, -4, _, by omega, by omega, rfl, rfl, ?_, HB2.out⟩, by simp [intOf]⟩
          rw [HX.out _ (by omega), str_app2', HTT2.out]
          rfl
        · obtain rfl : kz = -4 := by omega
          clear hkz hj
          go_wp2_with fail
          refine ⟨⟨1, T2, by omega, by go_num, rfl, ?_, HB2.out⟩, by simp [intOf]⟩
          rw [HTT2.out]
          rfl
    · go_wp2_with fail
      go_loopw [9, 11] (fun v i wr => ∃ (j : Nat) (kz : Int) (T : ByteArray), j ≤ 4 ∧ kz = 12 - 4 * (j : Int) ∧ i = .int .i64 kz ∧ v = .string T ∧ T.data.toList = [34] ++ escL true ([y0, y1].take 1) ++ [92, 117] ++ (hx4 true y1).take j ∧ Below wl.heap.size wl wr) (fun _ i _ => ((intOf i) + 4).toNat)
      case atStart => exact ⟨0, 12, _, by omega, by omega, rfl, rfl, by rw [str_app2', HTT.out]; rfl, HB.out⟩
      case round =>
        obtain ⟨j, kz, T2, hj, hkz, rfl, rfl, hT2, hb2⟩ := hrel
        have HB2 := Lib.hid hb2
        have HTT2 := Lib.hid hT2
        have hts2 : T2.size ≤ 20 := by rw [size_l hT2, List.length_append, List.length_take]; simp [escL, hx4]; omega
        have hc := HWC1.out _ hb2
        clear hb2 hT2
        rcases (by omega : j = 0 ∨ j = 1 ∨ j = 2 ∨ j = 3 ∨ j = 4) with rfl | rfl | rfl | rfl | rfl
        · obtain rfl : kz = 12 := by omega
          clear hkz hj
          go_wp2_with fail
          refine ⟨⟨1, 8, _, by omega, by omega, rfl, rfl, ?_, HB2.out⟩, by simp [intOf]⟩
          rw [HX.out _ (by omega), str_app2', HTT2.out]
          rfl
        · obtain rfl : kz = 8 := by omega
          clear hkz hj
          go_wp2_with fail
          refine ⟨⟨2, 4, _, by omega, by omega, rfl, rfl, ?_, HB2.out⟩, by simp [intOf]⟩
          rw [HX.out _ (by omega), str_app2', HTT2.out]
          rfl
        · obtain rfl : kz = 4 := by omega
          clear hkz hj
          go_wp2_with fail
          refine ⟨⟨3, 0, _, by omega, by omega, rfl, rfl, ?_, HB2.out⟩, by simp [intOf]⟩
          rw [HX.out _ (by omega), str_app2', HTT2.out]
          rfl
        · obtain rfl : kz = 0 := by omega
          clear hkz hj
          go_wp2_with fail
          refine ⟨⟨4, -4, _, by omega, by omega, rfl, rfl, ?_, HB2.out⟩, by simp [intOf]⟩
          rw [HX.out _ (by omega), str_app2', HTT2.out]
          rfl
        · obtain rfl : kz = -4 := by omega
          clear hkz hj
          go_wp2_with fail
          refine ⟨⟨2, T2, by omega, by go_num, rfl, ?_, HB2.out⟩, by simp [intOf]⟩
          rw [HTT2.out]
          rfl
    · have HF := Lib.hid (show (T ++ { data := #[34] }).data.toList = [34] ++ escL true [y0, y1] ++ [34] by rw [str_app2', HTT.out]; rfl)
      have hFs : (T ++ { data := #[34] }).size = T.size + 1 := by rw [ByteArray.size_append]; rfl
      have hU := fun w ht => unq_esc (T ++ { data := #[34] }) true z [y0, y1] HM.out (.inr ⟨g, HZS.out⟩) HF.out w ht
      rw [hFs, ← HE.out] at hU
      have HU := Lib.hid hU
      clear hU hFs
      go_wp2_with fail
      refine (HU.out _ (HTL.out.below HB.out)).mono ?_
      rintro e w5 ⟨rfl, hb5⟩
      have HB5 := Lib.hid (HB.out.trans (hb5.mono HB.out.size))
      have s1 := run_E HE.out (HRL.out.below HB5.out) n c HNL.out
      clear hb5
      go_wp2
      go_ret
      exact ⟨by simp, below2 HBL.out HB5.out⟩
theorem utfEscapes_walk (x : Int) (u : Bool) (w : World) (ht : tabU w) : Calls Tryd.prog 7 #[.int .i64 x, .bool u] w fun e w' => e = .returned (.bool true) ∧ Below w.heap.size w w' := by
  rcases Bool.eq_false_or_eq_true (mayU x) with hm | hm
  · have hmm := may_iff.1 hm
    obtain ⟨z, rfl⟩ : ∃ z : Nat, x = z := ⟨x.toNat, by omega⟩
    rcases (by omega : (z : Int) < 65536 ∨ 65536 ≤ (z : Int)) with g | g
    · cases u
      · exact utfEscapes_oneL z w ht hm g
      · exact utfEscapes_oneU z w ht hm g
    · cases u
      · exact utfEscapes_twoL z w ht hm g
      · exact utfEscapes_twoU z w ht hm g
  · exact utfEscapes_no x u w ht hm
end Go.Proofs.YtonjnonpajkmlaaDoor
