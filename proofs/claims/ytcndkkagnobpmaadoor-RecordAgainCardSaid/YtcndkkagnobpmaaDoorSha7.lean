/-
  Hash.Sum, sha.Of.
-/
import Derived.Test.YtcndkkagnobpmaaDoorSha6
namespace Go.Proofs.YtcndkkagnobpmaaDoor
open Go.RowKit
set_option linter.unusedVariables false

def outV (s : St) (k : Nat) : Array Value := ((List.range 32).map fun i => if i < k then u8v (sumB s i) else .int .u8 0).toArray
theorem outV_size (s : St) (k : Nat) : (outV s k).size = 32 := by simp [outV]
theorem outV_zero (s : St) : outV s 0 = #[.int .u8 0, .int .u8 0, .int .u8 0, .int .u8 0, .int .u8 0, .int .u8 0, .int .u8 0, .int .u8 0, .int .u8 0, .int .u8 0, .int .u8 0, .int .u8 0, .int .u8 0, .int .u8 0, .int .u8 0, .int .u8 0, .int .u8 0, .int .u8 0, .int .u8 0, .int .u8 0, .int .u8 0, .int .u8 0, .int .u8 0, .int .u8 0, .int .u8 0, .int .u8 0, .int .u8 0, .int .u8 0, .int .u8 0, .int .u8 0, .int .u8 0, .int .u8 0] := rfl
theorem outV_full (s : St) : outV s 32 = (Lib.byteCells (sumL s)).toArray := by
  unfold outV sumL Lib.byteCells
  rw [List.map_map]
  congr 1
theorem outV_set (s : St) (k : Nat) (hk : k < 32) : (outV s k).setIfInBounds k (u8v (sumB s k)) = outV s (k + 1) := by
  apply Array.ext_getElem?
  intro j
  rcases Nat.lt_or_ge j 32 with hj | hj
  · rcases (by omega : j = k ∨ j ≠ k) with rfl | hne
    · rw [Array.getElem?_setIfInBounds_self_of_lt (by rw [outV_size]; omega)]
      unfold outV
      simp [hj]
    · rw [Array.getElem?_setIfInBounds_ne (by omega)]
      unfold outV
      simp only [List.getElem?_toArray, List.getElem?_map, List.getElem?_range hj, Option.map_some]
      congr 1
      by_cases h : j < k
      · rw [if_pos h, if_pos (by omega)]
      · rw [if_neg h, if_neg (by omega)]
  · rw [Array.getElem?_eq_none (by rw [Array.size_setIfInBounds, outV_size]; omega), Array.getElem?_eq_none (by rw [outV_size]; omega)]
theorem hash_word {w : World} {g : Nat} {s : St} {v : Value} {n : Int} (h : Blk w g 131 (hashV s v n)) (k : Nat) (hk : k < 8) : w.cell? ⟨g, k, none⟩ = some (.int .u32 ((stL s).getD k 0)) := by
  rw [h.cell]
  rcases (by omega : k = 0 ∨ k = 1 ∨ k = 2 ∨ k = 3 ∨ k = 4 ∨ k = 5 ∨ k = 6 ∨ k = 7) with rfl | rfl | rfl | rfl | rfl | rfl | rfl | rfl <;> rfl

theorem sum_val (s : St) (k : Nat) (h : 0 ≤ (stL s).getD (k / 4) 0) : Value.int .u8 ((stL s).getD (k / 4) 0 / 2 ^ (24 - 8 * (k % 4)) % 256) = u8v (sumB s k) := by
  unfold u8v sumB
  obtain ⟨n, hn⟩ := Int.eq_ofNat_of_zero_le h
  rw [hn]
  congr 1
set_option maxRecDepth 100000 in
set_option maxHeartbeats 4000000 in
theorem sum_any (g : Nat) (T : List UInt8) (w : World) (hK : TabK w) (hH : HashOf w g T) (hz : T.length ≤ 35184372088832) :
    Calls Tryd.prog 79 #[.pointer (some ⟨g, 0, none⟩)] w fun e w' => e = .returned (.agg (Lib.byteCells (shaL T)).toArray) ∧ Below w.heap.size w w' := by
  obtain ⟨Z, hZ⟩ : ∃ Z, Z = outV (eat (T ++ padL T.length)) 0 := ⟨_, rfl⟩
  have hZ0 := hZ.trans (outV_zero _)
  obtain ⟨W1, hW1⟩ : ∃ W1, W1 = (w.alloc (.cells #[.int .u8 0, .int .u8 0, .int .u8 0, .int .u8 0, .int .u8 0, .int .u8 0, .int .u8 0, .int .u8 0, .int .u8 0, .int .u8 0, .int .u8 0, .int .u8 0, .int .u8 0, .int .u8 0, .int .u8 0, .int .u8 0, .int .u8 0, .int .u8 0, .int .u8 0, .int .u8 0, .int .u8 0, .int .u8 0, .int .u8 0, .int .u8 0, .int .u8 0, .int .u8 0, .int .u8 0, .int .u8 0, .int .u8 0, .int .u8 0, .int .u8 0, .int .u8 0] 73)).alloc (.cells #[.int .u8 0, .int .u8 0, .int .u8 0, .int .u8 0, .int .u8 0, .int .u8 0, .int .u8 0, .int .u8 0, .int .u8 0, .int .u8 0, .int .u8 0, .int .u8 0, .int .u8 0, .int .u8 0, .int .u8 0, .int .u8 0, .int .u8 0, .int .u8 0, .int .u8 0, .int .u8 0, .int .u8 0, .int .u8 0, .int .u8 0, .int .u8 0, .int .u8 0, .int .u8 0, .int .u8 0, .int .u8 0, .int .u8 0, .int .u8 0, .int .u8 0, .int .u8 0] 73) := ⟨_, rfl⟩
  have hB0 : Blk W1 w.heap.size 73 Z := by rw [hW1, hZ0]; exact (Blk.new _ _ _).alloc _
  have hB1 : Blk W1 (w.heap.size + 1) 73 Z := by rw [hW1, hZ0]; simpa using Blk.new (w.alloc (.cells #[.int .u8 0, .int .u8 0, .int .u8 0, .int .u8 0, .int .u8 0, .int .u8 0, .int .u8 0, .int .u8 0, .int .u8 0, .int .u8 0, .int .u8 0, .int .u8 0, .int .u8 0, .int .u8 0, .int .u8 0, .int .u8 0, .int .u8 0, .int .u8 0, .int .u8 0, .int .u8 0, .int .u8 0, .int .u8 0, .int .u8 0, .int .u8 0, .int .u8 0, .int .u8 0, .int .u8 0, .int .u8 0, .int .u8 0, .int .u8 0, .int .u8 0, .int .u8 0] 73)) 73 _
  have hbel1 : Below w.heap.size w W1 := by rw [hW1]; exact ((Below.refl _ _).alloc (Nat.le_refl _) _).alloc (by simp) _
  have HW1 := Lib.hid hW1
  have HK := Lib.hid (TabK.below hK hbel1)
  have HH := Lib.hid (hH.below hbel1)
  have HB0 := Lib.hid hB0
  have HB1 := Lib.hid hB1
  have HBL := Lib.hid hbel1
  have HZ := Lib.hid hZ
  have hH0 := hH
  clear hZ hZ0 hK hH hB0 hB1 hbel1 hW1
  go_enter Tryd.func79, Tryd.ntmps79
  go_wp2_with fail
  rw [← HW1.out]
  clear HW1
  refine (fork_any g T _ HH.out).mono ?_
  rintro e w2 ⟨x, rfl, hx, hX, hb2⟩
  obtain ⟨A, c, hBx, hrx, hlx, hmx⟩ := hX.ex
  have hc8 := hBx.cell 8
  unfold hashV at hc8
  simp only [List.getElem?_toArray, List.getElem?_cons_succ, List.getElem?_cons_zero] at hc8
  obtain ⟨q, hq⟩ : ∃ q, q = (restL T).length := ⟨_, rfl⟩
  have hq64 : q < 64 := by rw [hq, restL_len]; omega
  rw [← hq] at hc8
  have HQ : Hid (q = T.length % 64) := by show _ = _; rw [hq, restL_len]
  clear hq
  obtain ⟨Ag, cg, hBg, _, _, _⟩ := (HH.out.below hb2).ex
  have hc9 := hBg.cell 9
  unfold hashV at hc9
  simp only [List.getElem?_toArray, List.getElem?_cons_succ, List.getElem?_cons_zero] at hc9
  have hxw := HB0.out.lt
  have hxw1 := HB1.out.lt
  have HX := Lib.hid hX
  have HB2 := Lib.hid hb2
  clear hBx hrx hlx hmx hBg hX hb2
  obtain ⟨t, ht⟩ : ∃ t, t = T.length := ⟨_, rfl⟩
  rw [← ht] at hc9 hz
  have HT := Lib.hid ht
  clear ht
  have wr1 : (119 - (q : Int)) % 64 = ((padZ t : Nat) : Int) := by unfold padZ; rw [HT.out, ← HQ.out]; omega
  have HP := Lib.hid wr1
  have hpz : padZ t < 64 := by unfold padZ; omega
  obtain ⟨z, hzz⟩ : ∃ z, z = padZ t := ⟨_, rfl⟩
  rw [← hzz] at hpz HP
  have HZZ := Lib.hid hzz
  have h8 : (8 : Int) * (t : Int) = ((8 * t : Nat) : Int) := by push_cast; rfl
  have H8 := Lib.hid h8
  have RM := fun w => run_make_bytes z (by omega) w
  clear wr1 hzz h8
  go_wp2_with fail
  rw [HP.out, H8.out]
  refine (put_ok (8 * t) 8 _ (by omega) (by omega) (fun h => by omega)).mono ?_
  rintro e w3 ⟨pv, rfl, hpv, hb3⟩
  obtain ⟨Ap, cp, rfl, hlp, hmp, hrp, _⟩ := hpv.shape
  rw [beBytes_length] at hlp ⊢
  have HX3 := Lib.hid (HX.out.below hb3)
  have HB3 := Lib.hid (HB2.out.trans (hb3.mono HB2.out.size))
  have HRP := Lib.hid hrp
  have hx3 : x < w3.heap.size := HX3.out.lt
  clear HX HB2 hrp hpv hb3 hc8 hc9
  go_wp2_with fail
  have hal1 : Below w3.heap.size w3 (w3.alloc (.cells #[.int .u8 128] 5)) := (Below.refl _ _).alloc (Nat.le_refl _) _
  have hal2 : Below w3.heap.size w3 ((w3.alloc (.cells #[.int .u8 128] 5)).alloc (.cells (madeCells #[Value.int .u8 0] z) 5)) := hal1.alloc (by simp) _
  have hal3 : Below w3.heap.size w3 (((w3.alloc (.cells #[.int .u8 128] 5)).alloc (.cells (madeCells #[Value.int .u8 0] z) 5)).alloc (.cells #[.slice (some ⟨w3.heap.size, 0, none⟩) 1 1, .slice (some ⟨w3.heap.size + 1, 0, none⟩) z z, .slice Ap 8 cp] 22)) := hal2.alloc hal2.size _
  have b1 : Blk (((w3.alloc (.cells #[.int .u8 128] 5)).alloc (.cells (madeCells #[Value.int .u8 0] z) 5)).alloc (.cells #[.slice (some ⟨w3.heap.size, 0, none⟩) 1 1, .slice (some ⟨w3.heap.size + 1, 0, none⟩) z z, .slice Ap 8 cp] 22)) w3.heap.size 5 (Lib.byteCells [128]).toArray := ((Blk.new w3 5 #[.int .u8 128]).alloc _).alloc _
  have b2 : Blk (((w3.alloc (.cells #[.int .u8 128] 5)).alloc (.cells (madeCells #[Value.int .u8 0] z) 5)).alloc (.cells #[.slice (some ⟨w3.heap.size, 0, none⟩) 1 1, .slice (some ⟨w3.heap.size + 1, 0, none⟩) z z, .slice Ap 8 cp] 22)) (w3.heap.size + 1) 5 (Lib.byteCells (List.replicate z 0)).toArray := by
    have := (Blk.new (w3.alloc (.cells #[.int .u8 128] 5)) 5 (madeCells #[Value.int .u8 0] z)).alloc (.cells #[.slice (some ⟨w3.heap.size, 0, none⟩) 1 1, .slice (some ⟨w3.heap.size + 1, 0, none⟩) z z, .slice Ap 8 cp] 22)
    rw [← made_zeros]
    simpa using this
  have b3 : Blk (((w3.alloc (.cells #[.int .u8 128] 5)).alloc (.cells (madeCells #[Value.int .u8 0] z) 5)).alloc (.cells #[.slice (some ⟨w3.heap.size, 0, none⟩) 1 1, .slice (some ⟨w3.heap.size + 1, 0, none⟩) z z, .slice Ap 8 cp] 22)) (w3.heap.size + 1 + 1) 22 #[.slice (some ⟨w3.heap.size, 0, none⟩) 1 1, .slice (some ⟨w3.heap.size + 1, 0, none⟩) z z, .slice Ap 8 cp] := by
    have := Blk.new ((w3.alloc (.cells #[.int .u8 128] 5)).alloc (.cells (madeCells #[Value.int .u8 0] z) 5)) 22 #[.slice (some ⟨w3.heap.size, 0, none⟩) 1 1, .slice (some ⟨w3.heap.size + 1, 0, none⟩) z z, .slice Ap 8 cp]
    simpa using this
  have hps : Pts (((w3.alloc (.cells #[.int .u8 128] 5)).alloc (.cells (madeCells #[Value.int .u8 0] z) 5)).alloc (.cells #[.slice (some ⟨w3.heap.size, 0, none⟩) 1 1, .slice (some ⟨w3.heap.size + 1, 0, none⟩) z z, .slice Ap 8 cp] 22)) (some ⟨w3.heap.size + 1 + 1, 0, none⟩) [⟨some ⟨w3.heap.size, 0, none⟩, 1, [128]⟩, ⟨some ⟨w3.heap.size + 1, 0, none⟩, z, List.replicate z 0⟩, ⟨Ap, cp, beBytes (8 * t) 8⟩] := by
    refine Pts.of_block (t := 22) (by simpa [Pt.v, beBytes_length] using b3) ?_
    intro p hp
    simp only [List.mem_cons, List.not_mem_nil, or_false] at hp
    rcases hp with rfl | rfl | rfl
    · exact RB.of_blk b1
    · exact RB.of_blk b2
    · exact HRP.out.below hal3
  have hcat : catP [⟨some ⟨w3.heap.size, 0, none⟩, 1, [128]⟩, ⟨some ⟨w3.heap.size + 1, 0, none⟩, z, List.replicate z 0⟩, ⟨Ap, cp, beBytes (8 * t) 8⟩] = padL t := by
    rw [HZZ.out]; simp [catP, padL]
  have hpl : (padL t).length ≤ 80 := by unfold padL; rw [List.length_append, List.length_append, beBytes_length, List.length_replicate, ← HZZ.out]; simp only [List.length_cons, List.length_nil]; omega
  refine (concat_any _ 3 3 _ _ hps rfl (by omega) (by rw [hcat]; omega)).mono ?_
  rintro e w4 ⟨cv, rfl, hcv, hb4⟩
  rw [hcat] at hcv
  obtain ⟨Ac, cc, rfl, hlc, hmc, hrc, _⟩ := hcv.shape
  have hb34 : Below w3.heap.size w3 w4 := hal3.trans (hb4.mono hal3.size)
  have HX4 := Lib.hid (HX3.out.below hb34)
  have HB4 := Lib.hid (HB3.out.trans (hb34.mono HB3.out.size))
  have HRC := Lib.hid hrc
  obtain ⟨m, hm⟩ : ∃ m, m = (padL t).length := ⟨_, rfl⟩
  rw [← hm] at hlc hpl ⊢
  have HM := Lib.hid hm
  clear hm hcv hrc hps hcat b1 b2 b3 hal1 hal2 hal3 hb4 hb34 HX3 HRP HB3 RM
  go_wp2_with fail
  refine (write_of x T Ac m cc (padL t) w4 (TabK.below HK.out HB4.out) HX4.out HRC.out HM.out.symm hlc hmc (by rw [← HT.out]; omega)).mono ?_
  rintro e w5 ⟨rfl, hX5, hf5⟩
  have hxx : W1.heap.size ≤ x := hx
  have HB5 : Hid (Below W1.heap.size W1 w5) := Lib.hid (Fr.below_trans HB4.out hf5 HB4.out.size (fun k hk => by omega))
  have HZ0 := Lib.hid (HB0.out.below HB5.out hxw)
  have HZ1 := Lib.hid (HB1.out.below HB5.out hxw1)
  obtain ⟨Ax, cx, hBx, _, _, _⟩ := hX5.ex
  obtain ⟨SS, hSS⟩ : ∃ SS, SS = eat (T ++ padL t) := ⟨_, rfl⟩
  rw [← hSS] at hBx
  have HSS : Hid (shaL T = sumL SS) := by show _ = _; rw [hSS, HT.out]; rfl
  have hsw : SS.isW := by rw [hSS]; exact eatN_isW _ startS_isW _ _
  rw [HZ.out, ← HT.out, ← hSS] at HZ1
  have HZ0s : Hid (Z.size = 32) := by show _ = _; rw [HZ.out, outV_size]
  have HBX := Lib.hid hBx
  have HSW := Lib.hid hsw
  clear hSS hBx hX5 hf5 hsw HX4 HB4 HRC HB0 HB1 HH HK hH0
  go_wp2
  go_loopw [8, 38] (fun _ i wr => ∃ k : Nat, k ≤ 32 ∧ i = .int .i64 k ∧ Hid (Blk wr (w.heap.size + 1) 73 (outV SS k)) ∧ Hid (Blk wr w.heap.size 73 Z) ∧ Hid (Blk wr x 131 (hashV SS (.slice Ax (restL (T ++ padL t)).length cx) ((T ++ padL t).length : Nat))) ∧ Hid (Below w.heap.size w wr)) (fun _ i _ => 32 - (intOf i).toNat)
  case atStart => exact ⟨0, Nat.zero_le _, rfl, HZ1, HZ0, HBX, Lib.hid (HBL.out.trans (HB5.out.mono HBL.out.size))⟩
  case round =>
    obtain ⟨k, hk, rfl, HO, HZ2, HBK, HBW⟩ := hrel
    clear HZ1 HZ0 HBX HBL HB5
    rcases (by omega : k < 32 ∨ k = 32) with hlt | heq
    · have hki : (k : Int) < 32 := by omega
      have hk0 : (0 : Int) ≤ (k : Int) := by omega
      have hw := hash_word HBK.out (k / 4) (by omega)
      have hfr := HO.out.frozen k
      obtain ⟨ov, hov⟩ : ∃ ov, wr.cell? ⟨w.heap.size + 1, k, none⟩ = some ov := ⟨_, by rw [HO.out.cell, Array.getElem?_eq_getElem (by rw [outV_size]; omega)]⟩
      have hub := stL_bd SS HSW.out (k / 4)
      have HV := Lib.hid (sum_val SS k hub.1)
      obtain ⟨u, hu⟩ : ∃ u, u = (stL SS).getD (k / 4) 0 := ⟨_, rfl⟩
      rw [← hu] at hw hub HV
      obtain ⟨hu0, hu1⟩ := hub
      have HN := HO.out.set_ k (u8v (sumB SS k))
      rw [outV_set SS k hlt] at HN
      have HN := Lib.hid HN
      have hx2 : w.heap.size + 1 < x := by omega
      have HZn := Lib.hid (HZ2.out.far (p := ⟨w.heap.size + 1, k, none⟩) (by simp) (u8v (sumB SS k)))
      have HBn := Lib.hid (HBK.out.far (p := ⟨w.heap.size + 1, k, none⟩) (by simp; omega) (u8v (sumB SS k)))
      have HWn := Lib.hid (HBW.out.setCell (p := ⟨w.heap.size + 1, k, none⟩) (by simp) (u8v (sumB SS k)))
      clear hu HO HZ2 HBK HBW
      go_wp2
      rw [HV.out]
      go_roundw
      case rel => exact ⟨k + 1, by omega, by go_num, HN, HZn, HBn, HWn⟩
      case measure => simp [intOf]; omega
    · subst heq
      have h88 : decide (((32 : Nat) : Int) < 32) = false := by decide
      have HE : Hid (outV SS 32 = (Lib.byteCells (shaL T)).toArray) := by show _ = _; rw [outV_full, HSS.out]
      have HI : Hid ((Tryd.prog.info? 73).map (·.size) = some (outV SS 32).size) := by show _ = _; rw [outV_size]; kernel_rfl
      have HOC : Hid ((outV SS 32).all (·.oneCell') = true) := by show _ = _; rw [outV_full]; simp [Lib.byteCells, Value.oneCell']
      have HS0 : Hid (Z.size = (outV SS 32).size) := by show _ = _; rw [outV_size]; exact HZ0s.out
      generalize outV SS 32 = V at HO HE HI HOC HS0 ⊢
      have HBz : Hid (Below w.heap.size w (wr.setRow w.heap.size V)) := below_setRow HBW.out (Nat.le_refl _)
      have HGz := Lib.hid (setRow_at HZ2.out V)
      clear HBK HSW HSS HZ0s
      go_wp2_with (first
        | (refine wpList_load_row rfl 73 _ rfl (w.heap.size + 1) rfl 73 V (0, 0) _ HO.out Tryd.underlying73 rfl HI.out ?_)
        | (refine wpList_store_row rfl 73 _ _ rfl w.heap.size V rfl rfl 73 _ HZ2.out HI.out HS0.out HOC.out ?_))
      exact bodyPost_ret (v := .agg V) (results_cell_row (fn := Tryd.f79) rfl _ _ w.heap.size 73 V (0, 0) _ rfl HGz.out Tryd.underlying73 rfl HI.out) rfl ⟨by rw [HE.out], HBz.out⟩
set_option maxRecDepth 100000 in
set_option maxHeartbeats 4000000 in
theorem of_any (A : Option Addr) (n c : Nat) (ps : List Pt) (w : World) (hK : TabK w) (hps : Pts w A ps) (hn : ps.length = n) (hnb : n ≤ 9223372036854775807) (hz : (catP ps).length ≤ 35184372088832) (hcs : ∀ p ∈ ps, p.l.length ≤ p.c ∧ p.c ≤ maxLen) :
    Calls Tryd.prog 51 #[.slice A n c] w fun e w' => e = .returned (.agg (Lib.byteCells (shaL (catP ps))).toArray) ∧ Below w.heap.size w w' := by
  obtain ⟨Z, hZ⟩ : ∃ Z, Z = outV startS 0 := ⟨_, rfl⟩
  have hZ0 := hZ.trans (outV_zero _)
  obtain ⟨W1, hW1⟩ : ∃ W1, W1 = w.alloc (.cells #[.int .u8 0, .int .u8 0, .int .u8 0, .int .u8 0, .int .u8 0, .int .u8 0, .int .u8 0, .int .u8 0, .int .u8 0, .int .u8 0, .int .u8 0, .int .u8 0, .int .u8 0, .int .u8 0, .int .u8 0, .int .u8 0, .int .u8 0, .int .u8 0, .int .u8 0, .int .u8 0, .int .u8 0, .int .u8 0, .int .u8 0, .int .u8 0, .int .u8 0, .int .u8 0, .int .u8 0, .int .u8 0, .int .u8 0, .int .u8 0, .int .u8 0, .int .u8 0] 73) := ⟨_, rfl⟩
  have hB0 : Blk W1 w.heap.size 73 Z := by rw [hW1, hZ0]; exact Blk.new _ _ _
  have hbel1 : Below w.heap.size w W1 := by rw [hW1]; exact (Below.refl _ _).alloc (Nat.le_refl _) _
  have HW1 := Lib.hid hW1
  have HB0 := Lib.hid hB0
  have HBL := Lib.hid hbel1
  have HZs : Hid (Z.size = 32) := by show _ = _; rw [hZ, outV_size]
  have HN := Lib.hid hn
  have HP := Lib.hid hps
  have HK := Lib.hid hK
  have HCS := Lib.hid hcs
  have HZZ := Lib.hid hz
  clear hZ hZ0 hB0 hbel1 hn hps hK hcs hz hW1
  go_enter Tryd.func51, Tryd.ntmps51
  go_wp2_with fail
  rw [← HW1.out]
  clear HW1
  refine (new_any _).mono ?_
  rintro e w2 ⟨g, rfl, hg, hH, hb2⟩
  have HH2 := Lib.hid hH
  have HB2 := Lib.hid (HBL.out.trans (hb2.mono HBL.out.size))
  have hwlt := HB0.out.lt
  have HZ2 := Lib.hid (HB0.out.below hb2 hwlt)
  have hgw : w.heap.size < g := by omega
  clear hH hb2 HB0 HBL
  go_wp2
  go_loopw [5, 9] (fun _ i wr => ∃ k : Nat, k ≤ n ∧ i = .int .i64 k ∧ Hid (HashOf wr g (catP (ps.take k))) ∧ Hid (Below w.heap.size w wr) ∧ Hid (Blk wr w.heap.size 73 Z)) (fun _ i _ => n - (intOf i).toNat)
  case atStart => exact ⟨0, Nat.zero_le _, rfl, HH2, HB2, HZ2⟩
  case round =>
    obtain ⟨k, hk, rfl, HH, HB, HZ⟩ := hrel
    clear HH2 HB2 HZ2
    rcases (by omega : k < n ∨ k = n) with hlt | heq
    · have hkl : k < ps.length := by rw [HN.out]; exact hlt
      obtain ⟨ad, rfl, hb, hc, hr⟩ := (HP.out.below HB.out).at_ hkl
      have HR := Lib.hid hr
      have HCt := Lib.hid (catP_take ps k hkl)
      have hcc := HCS.out _ (List.getElem_mem hkl)
      have HC := Lib.hid hcc
      obtain ⟨q, hq⟩ : ∃ q, q = ps[k].l.length := ⟨_, rfl⟩
      have HQ := Lib.hid hq
      rw [← hq] at hc
      have hki : decide ((k : Int) < (n : Int)) = true := by rw [decide_eq_true_iff]; omega
      clear hq hr hb hcc
      go_wp2_with fail
      refine (write_of g (catP (ps.take k)) _ q _ ps[k].l _ (TabK.below HK.out HB.out) HH.out HR.out HQ.out.symm (by rw [HQ.out]; exact HC.out.1) HC.out.2 (by have h1 := catP_le ps (k + 1); rw [HCt.out, List.length_append] at h1; have h2 := HZZ.out; have h3 := HQ.out; omega)).mono ?_
      rintro e w5 ⟨rfl, hH5, hf5⟩
      rw [← HCt.out] at hH5
      have HH5 := Lib.hid hH5
      have HB5 : Hid (Below w.heap.size w w5) := Lib.hid (Fr.below_trans HB.out hf5 HB.out.size (fun k hk => by omega))
      have HZ5 := Lib.hid (HZ.out.fr hf5 (by omega))
      clear hH5 hf5 HH HB HZ hc
      go_wp2
      go_roundw
      case rel => exact ⟨k + 1, by omega, by go_num, HH5, HB5, HZ5⟩
      case measure => simp [intOf]; omega
    · subst heq
      have hki : decide ((k : Int) < (k : Int)) = false := by rw [decide_eq_false_iff_not]; omega
      have hall : catP (ps.take k) = catP ps := by rw [List.take_of_length_le (by rw [HN.out]; omega)]
      rw [hall] at HH
      clear hall
      go_wp2_with fail
      refine (sum_any g (catP ps) _ (TabK.below HK.out HB.out) HH.out HZZ.out).mono ?_
      rintro e w5 ⟨rfl, hb5⟩
      have HZ5 := Lib.hid (HZ.out.below hb5 HZ.out.lt)
      have HB5 := Lib.hid (HB.out.trans (hb5.mono HB.out.size))
      have hVs : (Lib.byteCells (shaL (catP ps))).toArray.size = 32 := by simp [Lib.byteCells, shaL_len]
      have HI : Hid ((Tryd.prog.info? 73).map (·.size) = some (Lib.byteCells (shaL (catP ps))).toArray.size) := by show _ = _; rw [hVs]; kernel_rfl
      have HOC : Hid ((Lib.byteCells (shaL (catP ps))).toArray.all (·.oneCell') = true) := by show _ = _; simp [Lib.byteCells, Value.oneCell']
      have HS0 : Hid (Z.size = (Lib.byteCells (shaL (catP ps))).toArray.size) := by show _ = _; rw [hVs]; exact HZs.out
      have HVV := Lib.hid (rfl : (Lib.byteCells (shaL (catP ps))).toArray = (Lib.byteCells (shaL (catP ps))).toArray)
      clear hVs hb5
      generalize hV : (Lib.byteCells (shaL (catP ps))).toArray = V at HI HOC HS0 ⊢
      have HVe := Lib.hid hV
      clear hV HVV
      have HBz : Hid (Below w.heap.size w (w5.setRow w.heap.size V)) := below_setRow HB5.out (Nat.le_refl _)
      have HGz := Lib.hid (setRow_at HZ5.out V)
      go_wp2_with (refine wpList_store_row rfl 73 _ _ rfl w.heap.size V rfl rfl 73 _ HZ5.out HI.out HS0.out HOC.out ?_)
      exact bodyPost_ret (v := .agg V) (results_cell_row (fn := Tryd.f51) rfl _ _ w.heap.size 73 V (0, 0) _ rfl HGz.out Tryd.underlying73 rfl HI.out) rfl ⟨by rw [HVe.out], HBz.out⟩
end Go.Proofs.YtcndkkagnobpmaaDoor
