/-
  store.Encode: what it returns.
-/
import Derived.Test.YtgpcinfhcamgpaaGreatDoorStE2
import Derived.Test.YtgpcinfhcamgpaaGreatDoorStW2
namespace Go.Proofs.YtgpcinfhcamgpaaGreatDoor
open Go.RowKit Glob
attribute [local go_sem ↓] Go.wp_at_zero Go.wp_at_succ
set_option linter.unusedVariables false
set_option linter.unusedSimpArgs false

theorem path_size (l : List UInt8) (h : pathL l = true) : l.length ≤ 1048576 := by
  unfold pathL at h
  rw [Bool.and_eq_true] at h
  have := plainL_len _ _ h.1
  omega
theorem stB_eq (s : Sta) : stB s = ((((([] ++ textBytes s.r) ++ textBytes s.t) ++ textBytes s.s) ++ fisB s.tg) ++ fisB s.ins) := by simp [stB, List.append_assoc]
set_option maxRecDepth 100000 in
set_option maxHeartbeats 4000000 in
theorem encode_no (s : SV) (w : World) (h : SAt w s) (hm : SM s) (hT : Tab w) (hq : mayS fnameL pathL s.sta = false) :
    Calls Tryz.prog 10 #[s.v] w fun e w' => e = .returned (.tuple #[.slice none 0 0, .int .i64 1]) ∧ Below w.heap.size w w' := by
  have HMY : Hid (∀ V, Below w.heap.size w V → Calls Tryz.prog 13 #[s.v] V fun e w' => e = .returned (.bool false) ∧ Below V.heap.size V w') := Lib.hid (fun V hV => by
    have := smay_any s V (h.below hV) hm (hT.below hV)
    rw [hq] at this
    exact this)
  clear h hm hT hq
  obtain ⟨⟨rA, rc, rl⟩, ⟨tA, tc, tl⟩, ⟨sA, sc, sl⟩, gA, gc, tg, iA, ic, ins⟩ := s
  obtain ⟨rn, hrn⟩ : ∃ n, n = rl.length := ⟨_, rfl⟩
  obtain ⟨tn, htn⟩ : ∃ n, n = tl.length := ⟨_, rfl⟩
  obtain ⟨sn, hsn⟩ : ∃ n, n = sl.length := ⟨_, rfl⟩
  obtain ⟨gn, hgn⟩ : ∃ n, n = tg.length := ⟨_, rfl⟩
  obtain ⟨inn, hinn⟩ : ∃ n, n = ins.length := ⟨_, rfl⟩
  change Hid (∀ V, Below w.heap.size w V → Calls Tryz.prog 13 #[.agg #[.slice rA rl.length rc, .slice tA tl.length tc, .slice sA sl.length sc, .slice gA tg.length gc, .slice iA ins.length ic]] V _) at HMY
  show Calls Tryz.prog 10 #[.agg #[.slice rA rl.length rc, .slice tA tl.length tc, .slice sA sl.length sc, .slice gA tg.length gc, .slice iA ins.length ic]] w _
  rw [← hrn, ← htn, ← hsn, ← hgn, ← hinn] at HMY
  rw [← hrn, ← htn, ← hsn, ← hgn, ← hinn]
  have Hrn := Lib.hid hrn
  have Htn := Lib.hid htn
  have Hsn := Lib.hid hsn
  have Hgn := Lib.hid hgn
  have Hinn := Lib.hid hinn
  clear hrn htn hsn hgn hinn
  have HA : Hid (Below w.heap.size w (w.alloc (.cells #[.slice rA rn rc, .slice tA tn tc, .slice sA sn sc, .slice gA gn gc, .slice iA inn ic] 25))) := Lib.hid ((Below.refl _ _).alloc (Nat.le_refl _) _)
  go_enter Tryz.func10, Tryz.ntmps10
  go_wp2_with fail
  refine (HMY.out _ HA.out).mono ?_
  rintro e w1 ⟨rfl, hb1⟩
  have HB1 : Hid (Below w.heap.size w w1) := Lib.hid (HA.out.trans (hb1.mono HA.out.size))
  clear hb1
  go_wp2
  go_ret2
  exact ⟨rfl, HB1.out⟩
def pre3 (a b c : List UInt8) : Nat → List UInt8
  | 0 => []
  | 1 => [] ++ textBytes a
  | 2 => ([] ++ textBytes a) ++ textBytes b
  | _ => (([] ++ textBytes a) ++ textBytes b) ++ textBytes c
theorem fv_sizes {fs : List FV} (h : ∀ f ∈ fiL fs, f.nm.data.toList.length ≤ 1048576 ∧ f.b.length ≤ 1048576) : ∀ f ∈ fs, f.nm.size ≤ 1048576 ∧ f.b.length ≤ 1048576 := fun f hf => by
  have := h f.fi (List.mem_map_of_mem hf)
  have e : f.nm.data.toList.length = f.nm.size := by cases f.nm; simp [ByteArray.size]
  exact ⟨by rw [← e]; exact this.1, this.2⟩
set_option maxRecDepth 100000 in
set_option maxHeartbeats 8000000 in
theorem encode_yes (s : SV) (w : World) (h : SAt w s) (hm : SM s) (hT : Tab w) (hq : mayS fnameL pathL s.sta = true) (hl : (stB s.sta).length ≤ 140737488000000) :
    Calls Tryz.prog 10 #[s.v] w fun e w' => ∃ v, e = .returned (.tuple #[v, .int .i64 0]) ∧ OB w' w.heap.size v (stB s.sta) ∧ Below w.heap.size w w' := by
  have HMY : Hid (∀ V, Below w.heap.size w V → Calls Tryz.prog 13 #[s.v] V fun e w' => e = .returned (.bool true) ∧ Below V.heap.size V w') := Lib.hid (fun V hV => by
    have := smay_any s V (h.below hV) hm (hT.below hV)
    rw [hq] at this
    exact this)
  have HS := Lib.hid h
  have HQ := hq
  unfold mayS at HQ
  simp only [Bool.and_eq_true] at HQ
  have HTG := Lib.hid (risF_sizes fname_size HQ.1.2)
  have HIN := Lib.hid (risF_sizes path_size HQ.2)
  have HM := Lib.hid hm
  rw [stB_eq] at hl
  have hl5 := hl
  rw [List.length_append] at hl
  have hl4 : ((((([] ++ textBytes s.sta.r) ++ textBytes s.sta.t) ++ textBytes s.sta.s) ++ fisB s.sta.tg)).length ≤ 140737488000000 := by omega
  have hl3 := hl4
  rw [List.length_append] at hl3
  have HL5 := Lib.hid hl5
  have HL4 := Lib.hid hl4
  have hR : (textBytes s.sta.r).length = 4 + s.r.l.length := textBytes_length _
  have hTT : (textBytes s.sta.t).length = 4 + s.t.l.length := textBytes_length _
  have hSS : (textBytes s.sta.s).length = 4 + s.s.l.length := textBytes_length _
  have hbr := hm.r
  have hbt := hm.t
  have hbs := hm.s
  rw [stB_eq]
  clear h hT hq HQ hl hl5 hl4 hl3
  obtain ⟨⟨rA, rc, rl⟩, ⟨tA, tc, tl⟩, ⟨sA, sc, sl⟩, gA, gc, tg, iA, ic, ins⟩ := s
  obtain ⟨rn, hrn⟩ : ∃ n, n = rl.length := ⟨_, rfl⟩
  obtain ⟨tn, htn⟩ : ∃ n, n = tl.length := ⟨_, rfl⟩
  obtain ⟨sn, hsn⟩ : ∃ n, n = sl.length := ⟨_, rfl⟩
  obtain ⟨gn, hgn⟩ : ∃ n, n = tg.length := ⟨_, rfl⟩
  obtain ⟨inn, hinn⟩ : ∃ n, n = ins.length := ⟨_, rfl⟩
  change Hid (∀ V, Below w.heap.size w V → Calls Tryz.prog 13 #[.agg #[.slice rA rl.length rc, .slice tA tl.length tc, .slice sA sl.length sc, .slice gA tg.length gc, .slice iA ins.length ic]] V _) at HMY
  show Calls Tryz.prog 10 #[.agg #[.slice rA rl.length rc, .slice tA tl.length tc, .slice sA sl.length sc, .slice gA tg.length gc, .slice iA ins.length ic]] w _
  rw [← hrn, ← htn, ← hsn, ← hgn, ← hinn] at HMY
  change rl.length ≤ _ at hbr
  change tl.length ≤ _ at hbt
  change sl.length ≤ _ at hbs
  rw [← hrn] at hbr
  rw [← htn] at hbt
  rw [← hsn] at hbs
  rw [← hrn, ← htn, ← hsn, ← hgn, ← hinn]
  have Hrn := Lib.hid hrn
  have Htn := Lib.hid htn
  have Hsn := Lib.hid hsn
  have Hgn := Lib.hid hgn
  have Hinn := Lib.hid hinn
  clear hrn htn hsn hgn hinn
  have HLR : Hid ((textBytes rl).length = 4 + rn) := Lib.hid (by rw [textBytes_length, Hrn.out])
  have HLT : Hid ((textBytes tl).length = 4 + tn) := Lib.hid (by rw [textBytes_length, Htn.out])
  have HLS : Hid ((textBytes sl).length = 4 + sn) := Lib.hid (by rw [textBytes_length, Hsn.out])
  clear hR hTT hSS
  have HA : Hid (Below w.heap.size w (w.alloc (.cells #[.slice rA rn rc, .slice tA tn tc, .slice sA sn sc, .slice gA gn gc, .slice iA inn ic] 25))) := Lib.hid ((Below.refl _ _).alloc (Nat.le_refl _) _)
  have HBX : Hid (Blk (w.alloc (.cells #[.slice rA rn rc, .slice tA tn tc, .slice sA sn sc, .slice gA gn gc, .slice iA inn ic] 25)) w.heap.size 25 #[.slice rA rn rc, .slice tA tn tc, .slice sA sn sc, .slice gA gn gc, .slice iA inn ic]) := Lib.hid (Blk.new _ _ _)
  go_enter Tryz.func10, Tryz.ntmps10
  go_wp2_with fail
  refine (HMY.out _ HA.out).mono ?_
  rintro e w1 ⟨rfl, hb1⟩
  have HB1 : Hid (Below w.heap.size w w1) := Lib.hid (HA.out.trans (hb1.mono HA.out.size))
  have HX1 := Lib.hid (HBX.out.below hb1 HBX.out.lt)
  have x0 := (HX1.out.alloc (.cells #[.slice none 0 0] 63)).cell 0
  have x1 := (HX1.out.alloc (.cells #[.slice none 0 0] 63)).cell 1
  have x2 := (HX1.out.alloc (.cells #[.slice none 0 0] 63)).cell 2
  simp only [List.getElem?_toArray, List.getElem?_cons_zero, List.getElem?_cons_succ] at x0 x1 x2
  clear hb1 HMY HBX
  have HSZ1 : Hid (w.heap.size < w1.heap.size) := Lib.hid HX1.out.lt
  -- the code's box, the three texts' row
  have HG : Hid (CB (w1.alloc (.cells #[.slice none 0 0] 63)) w.heap.size w1.heap.size []) := Lib.hid ⟨_, Blk.new _ _ _, OB.nil _ _, Nat.le_of_lt HSZ1.out⟩
  have HB2 : Hid (Below w.heap.size w ((w1.alloc (.cells #[.slice none 0 0] 63)).alloc (.cells #[.slice rA rn rc, .slice tA tn tc, .slice sA sn sc] 22))) := Lib.hid ((HB1.out.alloc (Nat.le_of_lt HSZ1.out) _).alloc (by simp; have := HSZ1.out; omega) _)
  have HG2 : Hid (CB ((w1.alloc (.cells #[.slice none 0 0] 63)).alloc (.cells #[.slice rA rn rc, .slice tA tn tc, .slice sA sn sc] 22)) w.heap.size w1.heap.size []) := Lib.hid (HG.out.below ((Below.refl _ _).alloc (Nat.le_refl _) _))
  have HX2 : Hid (Blk ((w1.alloc (.cells #[.slice none 0 0] 63)).alloc (.cells #[.slice rA rn rc, .slice tA tn tc, .slice sA sn sc] 22)) w.heap.size 25 #[.slice rA rn rc, .slice tA tn tc, .slice sA sn sc, .slice gA gn gc, .slice iA inn ic]) := Lib.hid ((HX1.out.alloc _).alloc _)
  have HY2 : Hid (Blk ((w1.alloc (.cells #[.slice none 0 0] 63)).alloc (.cells #[.slice rA rn rc, .slice tA tn tc, .slice sA sn sc] 22)) (w1.heap.size + 1) 22 #[.slice rA rn rc, .slice tA tn tc, .slice sA sn sc]) := Lib.hid (by
    have := Blk.new (w1.alloc (.cells #[.slice none 0 0] 63)) 22 #[.slice rA rn rc, .slice tA tn tc, .slice sA sn sc]
    have e : (w1.alloc (.cells #[.slice none 0 0] 63)).heap.size = w1.heap.size + 1 := by simp
    rw [e] at this
    exact this)
  go_wp2
  generalize ((w1.alloc (.cells #[.slice none 0 0] 63)).alloc (.cells #[.slice rA rn rc, .slice tA tn tc, .slice sA sn sc] 22)) = w2 at HB2 HG2 HX2 HY2 ⊢
  clear x0 x1 x2 HX1 HG
  go_loopw [18] (fun i wr => ∃ k : Nat, k ≤ 3 ∧ i = .int .i64 (k : Int) ∧ Hid (CB wr w.heap.size w1.heap.size (pre3 rl tl sl k)) ∧ Hid (Below w.heap.size w wr) ∧ Hid (Blk wr w.heap.size 25 #[.slice rA rn rc, .slice tA tn tc, .slice sA sn sc, .slice gA gn gc, .slice iA inn ic]) ∧ Hid (Blk wr (w1.heap.size + 1) 22 #[.slice rA rn rc, .slice tA tn tc, .slice sA sn sc])) (fun i _ => 3 - (intOf i).toNat)
  case atStart => exact ⟨0, Nat.zero_le _, rfl, HG2, HB2, HX2, HY2⟩
  case round =>
    clear HG2 HB2 HX2 HY2
    obtain ⟨k, hk, rfl, HC, HB, HX, HY⟩ := hrel
    have y0 := HY.out.cell 0
    have y1 := HY.out.cell 1
    have y2 := HY.out.cell 2
    simp only [List.getElem?_toArray, List.getElem?_cons_zero, List.getElem?_cons_succ] at y0 y1 y2
    rcases (by omega : k = 0 ∨ k = 1 ∨ k = 2 ∨ k = 3) with rfl | rfl | rfl | rfl
    · have HT := Lib.hid (ctext_any w.heap.size w1.heap.size (pre3 rl tl sl 0) ⟨rl.toArray⟩ wr HC.out (Nat.le_of_lt HX.out.lt) (by show rl.toArray.size ≤ _; rw [List.size_toArray, ← Hrn.out]; exact hbr) (by
        show _ + rl.toArray.size ≤ _
        rw [List.size_toArray, ← Hrn.out]
        simp only [pre3, List.length_append, List.length_nil, HLR.out, HLT.out, HLS.out]
        omega))
      have RS := run_string (HS.out.below HB.out).r.1 rn rc Hrn.out.symm
      go_wp2_with fail
      refine HT.out.mono ?_
      rintro e w5 ⟨rfl, hc5, hb5, hk5⟩
      have HC5 : Hid (CB w5 w.heap.size w1.heap.size (pre3 rl tl sl 1)) := Lib.hid hc5
      have HB5 : Hid (Below w.heap.size w w5) := Lib.hid (HB.out.trans hb5)
      have HX5 := Lib.hid (hk5 _ _ _ (by decide) (by decide) HX.out)
      have HY5 := Lib.hid (hk5 _ _ _ (by decide) (by decide) HY.out)
      clear hc5 hb5 hk5 RS y0 y1 y2
      go_wp2
      go_roundw
      case rel => exact ⟨1, by omega, by go_num, HC5, HB5, HX5, HY5⟩
      case measure => simp [intOf]
    · have HT := Lib.hid (ctext_any w.heap.size w1.heap.size (pre3 rl tl sl 1) ⟨tl.toArray⟩ wr HC.out (Nat.le_of_lt HX.out.lt) (by show tl.toArray.size ≤ _; rw [List.size_toArray, ← Htn.out]; exact hbt) (by
        show _ + tl.toArray.size ≤ _
        rw [List.size_toArray, ← Htn.out]
        simp only [pre3, List.length_append, List.length_nil, HLR.out, HLT.out, HLS.out]
        omega))
      have RS := run_string (HS.out.below HB.out).t.1 tn tc Htn.out.symm
      go_wp2_with fail
      refine HT.out.mono ?_
      rintro e w5 ⟨rfl, hc5, hb5, hk5⟩
      have HC5 : Hid (CB w5 w.heap.size w1.heap.size (pre3 rl tl sl 2)) := Lib.hid hc5
      have HB5 : Hid (Below w.heap.size w w5) := Lib.hid (HB.out.trans hb5)
      have HX5 := Lib.hid (hk5 _ _ _ (by decide) (by decide) HX.out)
      have HY5 := Lib.hid (hk5 _ _ _ (by decide) (by decide) HY.out)
      clear hc5 hb5 hk5 RS y0 y1 y2
      go_wp2
      go_roundw
      case rel => exact ⟨2, by omega, by go_num, HC5, HB5, HX5, HY5⟩
      case measure => simp [intOf]
    · have HT := Lib.hid (ctext_any w.heap.size w1.heap.size (pre3 rl tl sl 2) ⟨sl.toArray⟩ wr HC.out (Nat.le_of_lt HX.out.lt) (by show sl.toArray.size ≤ _; rw [List.size_toArray, ← Hsn.out]; exact hbs) (by
        show _ + sl.toArray.size ≤ _
        rw [List.size_toArray, ← Hsn.out]
        simp only [pre3, List.length_append, List.length_nil, HLR.out, HLT.out, HLS.out]
        omega))
      have RS := run_string (HS.out.below HB.out).s.1 sn sc Hsn.out.symm
      go_wp2_with fail
      refine HT.out.mono ?_
      rintro e w5 ⟨rfl, hc5, hb5, hk5⟩
      have HC5 : Hid (CB w5 w.heap.size w1.heap.size (pre3 rl tl sl 3)) := Lib.hid hc5
      have HB5 : Hid (Below w.heap.size w w5) := Lib.hid (HB.out.trans hb5)
      have HX5 := Lib.hid (hk5 _ _ _ (by decide) (by decide) HX.out)
      have HY5 := Lib.hid (hk5 _ _ _ (by decide) (by decide) HY.out)
      clear hc5 hb5 hk5 RS y0 y1 y2
      go_wp2
      go_roundw
      case rel => exact ⟨3, by omega, by go_num, HC5, HB5, HX5, HY5⟩
      case measure => simp [intOf]
    · clear y0 y1 y2
      have x3 := HX.out.cell 3
      have x4 := HX.out.cell 4
      simp only [List.getElem?_toArray, List.getElem?_cons_zero, List.getElem?_cons_succ] at x3 x4
      have HF1 := Lib.hid (cfiles_any w.heap.size w1.heap.size (pre3 rl tl sl 3) gA gn gc tg wr HC.out (Nat.le_of_lt HX.out.lt) (fun V hV => (HS.out.below (HB.out.trans hV)).tg) Hgn.out.symm (by have := HM.out.tl; rw [Hgn.out]; show tg.length ≤ _; have h64 := HTG.out.1; rw [show (SV.sta _).tg = fiL tg from rfl, fiL_len] at h64; omega) (fun f hf => fv_sizes (HTG.out.2) f hf) HL4.out)
      go_wp2_with fail
      refine HF1.out.mono ?_
      rintro e w5 ⟨rfl, hc5, hb5, hk5⟩
      have HC5 := Lib.hid hc5
      have HB5 : Hid (Below w.heap.size w w5) := Lib.hid (HB.out.trans hb5)
      have HX5 := Lib.hid (hk5 _ _ _ (by decide) (by decide) HX.out)
      have x4 := HX5.out.cell 4
      simp only [List.getElem?_toArray, List.getElem?_cons_zero, List.getElem?_cons_succ] at x4
      clear hc5 hb5 hk5 x3
      have HF2 := Lib.hid (cfiles_any w.heap.size w1.heap.size (pre3 rl tl sl 3 ++ fisB (fiL tg)) iA inn ic ins w5 HC5.out (Nat.le_of_lt HX5.out.lt) (fun V hV => (HS.out.below (HB5.out.trans hV)).ins) Hinn.out.symm (by rw [Hinn.out]; have h64 := HIN.out.1; rw [show (SV.sta _).ins = fiL ins from rfl, fiL_len] at h64; omega) (fun f hf => fv_sizes (HIN.out.2) f hf) HL5.out)
      go_wp2_with fail
      refine HF2.out.mono ?_
      rintro e w6 ⟨rfl, hc6, hb6, hk6⟩
      obtain ⟨v6, hB6, hO6, hg6⟩ := hc6
      have d0 := hB6.cell 0
      simp only [List.getElem?_toArray, List.getElem?_cons_zero, List.getElem?_cons_succ] at d0
      have HO6 := Lib.hid hO6
      have HB6 : Hid (Below w.heap.size w w6) := Lib.hid (HB5.out.trans hb6)
      clear hB6 hO6 hg6 hb6 hk6 x4
      go_wp2
      go_ret2
      exact ⟨v6, rfl, HO6.out, HB6.out⟩
end Go.Proofs.YtgpcinfhcamgpaaGreatDoor
