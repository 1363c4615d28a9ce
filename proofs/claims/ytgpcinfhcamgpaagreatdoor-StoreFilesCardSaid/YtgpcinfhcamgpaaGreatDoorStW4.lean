/-
  The document's May, SameFiles: what they return.
-/
import Derived.Test.YtgpcinfhcamgpaaGreatDoorStW3
import Derived.Test.YtgpcinfhcamgpaaGreatDoorGA
namespace Go.Proofs.YtgpcinfhcamgpaaGreatDoor
open Go.RowKit Glob
attribute [local go_sem ↓] Go.wp_at_zero Go.wp_at_succ
set_option linter.unusedVariables false
set_option linter.unusedSimpArgs false

set_option maxRecDepth 100000 in
set_option maxHeartbeats 2000000 in
theorem rmay_any (s : SV) (w : World) (h : SAt w s) (hm : SM s) :
    Calls Tryz.prog 14 #[s.v] w fun e w' => e = .returned (.bool (mayS fnameL pathL s.sta)) ∧ Below w.heap.size w w' := by
  have H := Lib.hid h
  have HM := Lib.hid hm
  obtain ⟨q, hq⟩ : ∃ q, q = mayS fnameL pathL s.sta := ⟨_, rfl⟩
  rw [← hq]
  have HQ := Lib.hid hq
  clear hq h hm
  obtain ⟨⟨rA, rc, rl⟩, ⟨tA, tc, tl⟩, ⟨sA, sc, sl⟩, gA, gc, tg, iA, ic, ins⟩ := s
  obtain ⟨rn, hrn⟩ : ∃ n, n = rl.length := ⟨_, rfl⟩
  obtain ⟨tn, htn⟩ : ∃ n, n = tl.length := ⟨_, rfl⟩
  obtain ⟨sn, hsn⟩ : ∃ n, n = sl.length := ⟨_, rfl⟩
  obtain ⟨gn, hgn⟩ : ∃ n, n = tg.length := ⟨_, rfl⟩
  obtain ⟨inn, hinn⟩ : ∃ n, n = ins.length := ⟨_, rfl⟩
  show Calls Tryz.prog 14 #[.agg #[.slice rA rl.length rc, .slice tA tl.length tc, .slice sA sl.length sc, .slice gA tg.length gc, .slice iA ins.length ic]] w _
  rw [← hrn, ← htn, ← hsn, ← hgn, ← hinn]
  have Hrn := Lib.hid hrn
  have Htn := Lib.hid htn
  have Hsn := Lib.hid hsn
  have Hgn := Lib.hid hgn
  have Hinn := Lib.hid hinn
  clear hrn htn hsn hgn hinn
  have b1 : rn ≤ 1048576 := by rw [Hrn.out]; exact HM.out.r
  have b2 : tn ≤ 1048576 := by rw [Htn.out]; exact HM.out.t
  have b3 : sn ≤ 1048576 := by rw [Hsn.out]; exact HM.out.s
  have d1 : decide ((rn : Int) ≤ 1048576) = true := by rw [decide_eq_true_iff]; omega
  have d2 : decide ((tn : Int) ≤ 1048576) = true := by rw [decide_eq_true_iff]; omega
  have d3 : decide ((sn : Int) ≤ 1048576) = true := by rw [decide_eq_true_iff]; omega
  have b4 := HM.out.tl
  have b5 := HM.out.il
  have HB0 : Hid (Below w.heap.size w (w.alloc (.cells #[.slice rA rn rc, .slice tA tn tc, .slice sA sn sc, .slice gA gn gc, .slice iA inn ic] 25))) := Lib.hid ((Below.refl _ _).alloc (Nat.le_refl _) _)
  have HC0 : Hid ((w.alloc (.cells #[.slice rA rn rc, .slice tA tn tc, .slice sA sn sc, .slice gA gn gc, .slice iA inn ic] 25)).cell? ⟨w.heap.size, 4, none⟩ = some (.slice iA inn ic)) := Lib.hid ((Blk.new w 25 #[.slice rA rn rc, .slice tA tn tc, .slice sA sn sc, .slice gA gn gc, .slice iA inn ic]).cell 4)
  have HL0 : Hid (w.heap.size < (w.alloc (.cells #[.slice rA rn rc, .slice tA tn tc, .slice sA sn sc, .slice gA gn gc, .slice iA inn ic] 25)).heap.size) := Lib.hid (by simp)
  have HR1 : Hid (∀ V, Below (w.alloc (.cells #[.slice rA rn rc, .slice tA tn tc, .slice sA sn sc, .slice gA gn gc, .slice iA inn ic] 25)).heap.size (w.alloc (.cells #[.slice rA rn rc, .slice tA tn tc, .slice sA sn sc, .slice gA gn gc, .slice iA inn ic] 25)) V → Below w.heap.size w V) := Lib.hid (fun V hV => HB0.out.trans (hV.mono HB0.out.size))
  have HCG : Hid (∀ V, Below w.heap.size w V → Calls Tryz.prog 47 #[.slice gA gn gc, .bool false, .int .i64 64] V fun e w' => e = .returned (.bool (risF fnameL 64 (fiL tg))) ∧ Below V.heap.size V w') := Lib.hid (fun V hV => by
    refine rrising_f 64 gA gn gc tg V (by omega) (H.out.tg.below hV) Hgn.out.symm ?_ HM.out.tn
    rw [Hgn.out]
    exact Nat.le_trans b4 (by omega))
  have HCI : Hid (∀ V, Below w.heap.size w V → Calls Tryz.prog 47 #[.slice iA inn ic, .bool true, .int .i64 16] V fun e w' => e = .returned (.bool (risF pathL 16 (fiL ins))) ∧ Below V.heap.size V w') := Lib.hid (fun V hV => by
    refine rrising_p 16 iA inn ic ins V (by omega) (H.out.ins.below hV) Hinn.out.symm ?_ HM.out.inn
    rw [Hinn.out]
    exact Nat.le_trans b5 (by omega))
  have HQV : Hid (q = (risF fnameL 64 (fiL tg) && risF pathL 16 (fiL ins))) := by
    show _ = _
    rw [HQ.out]
    unfold mayS SV.sta
    simp only
    rw [decide_eq_true HM.out.r, decide_eq_true HM.out.t, decide_eq_true HM.out.s]
    simp
  clear b4 b5
  obtain ⟨z1, hz1⟩ : ∃ z, z = risF fnameL 64 (fiL tg) := ⟨_, rfl⟩
  obtain ⟨z2, hz2⟩ : ∃ z, z = risF pathL 16 (fiL ins) := ⟨_, rfl⟩
  rw [← hz1, ← hz2] at HQV
  rw [← hz1] at HCG
  rw [← hz2] at HCI
  clear hz1 hz2 HQ
  cases z1 with
  | false =>
    have HI : Hid (q = false) := by show _ = _; rw [HQV.out]; rfl
    go_enter Tryz.func14, Tryz.ntmps14
    go_wp2_with fail
    refine (HCG.out _ HB0.out).mono ?_
    rintro e w1 ⟨rfl, hb1⟩
    have HB1 := Lib.hid (HR1.out _ hb1)
    clear hb1
    go_wp2
    go_ret
    exact ⟨by rw [HI.out]; rfl, HB1.out⟩
  | true =>
    have HI : Hid (q = z2) := by show _ = _; rw [HQV.out]; rfl
    go_enter Tryz.func14, Tryz.ntmps14
    go_wp2_with fail
    refine (HCG.out _ HB0.out).mono ?_
    rintro e w1 ⟨rfl, hb1⟩
    have c4 := (hb1.cell (p := ⟨w.heap.size, 4, none⟩) HL0.out).trans HC0.out
    have HB1 := Lib.hid (HR1.out _ hb1)
    clear hb1
    go_wp2_with fail
    refine (HCI.out _ HB1.out).mono ?_
    rintro e w2 ⟨rfl, hb2⟩
    have HB2 := Lib.hid (HB1.out.trans (hb2.mono HB1.out.size))
    clear hb2 c4
    go_wp2
    go_ret
    exact ⟨by rw [HI.out]; rfl, HB2.out⟩
/-- the first k files are the same -/
def SamK (fs gs : List FV) (k : Nat) : Prop := (fiL fs).take k = (fiL gs).take k
theorem sam_step {fs gs : List FV} {k : Nat} (h : SamK fs gs k) (h1 : k < fs.length) (h2 : k < gs.length) (hn : fs[k].nm = gs[k].nm) (hb : fs[k].b = gs[k].b) : SamK fs gs (k + 1) := by
  unfold SamK at h ⊢
  rw [List.take_succ_eq_append_getElem (by rw [fiL_len]; exact h1), List.take_succ_eq_append_getElem (by rw [fiL_len]; exact h2), h, fiL_at h1, fiL_at h2, hn, hb]
theorem sam_not {fs gs : List FV} {k : Nat} (h1 : k < fs.length) (h2 : k < gs.length) (hn : ¬ (fs[k].nm = gs[k].nm ∧ fs[k].b = gs[k].b)) : decide (fiL fs = fiL gs) = false := by
  rw [decide_eq_false_iff_not]
  intro e
  have h3 : (fiL fs)[k]'(by rw [fiL_len]; exact h1) = (fiL gs)[k]'(by rw [fiL_len]; exact h2) := by simp only [e]
  rw [fiL_at h1, fiL_at h2] at h3
  injection h3 with h4 h5
  exact hn ⟨h4, h5⟩
theorem toList_inj' {a b : ByteArray} (h : a.toList = b.toList) : a = b := by
  rw [Lib.toList_data, Lib.toList_data] at h
  obtain ⟨⟨a⟩⟩ := a
  obtain ⟨⟨b⟩⟩ := b
  simp at h
  rw [h]
set_option maxRecDepth 100000 in
set_option maxHeartbeats 8000000 in
theorem rsameFiles_any (A B : Option Addr) (n m c d : Nat) (fs gs : List FV) (w : World) (h : Fls w A fs) (h2 : Fls w B gs) (hn : fs.length = n) (hm : gs.length = m) (hbig : n ≤ 140737488355328) (hbig2 : m ≤ 140737488355328) :
    Calls Tryz.prog 31 #[.slice A n c, .slice B m d] w fun e w' => e = .returned (.bool (decide (fiL fs = fiL gs))) ∧ Below w.heap.size w w' := by
  have HN := Lib.hid hn
  have HM := Lib.hid hm
  have HF := Lib.hid h
  have HG := Lib.hid h2
  obtain ⟨r, hr⟩ : ∃ r, r = decide (fiL fs = fiL gs) := ⟨_, rfl⟩
  rw [← hr]
  have HR := Lib.hid hr
  clear hr hn hm h h2
  by_cases hnm : n = m
  · subst hnm
    have e1 : ((n : Int) != (n : Int)) = false := by simp
    have e1' : (n != n) = false := by simp
    go_enter Tryz.func31, Tryz.ntmps31
    go_wp2
    go_loopw [5] (fun i wr => ∃ k : Nat, k ≤ n ∧ i = .int .i64 (k : Int) ∧ Hid (SamK fs gs k) ∧ Hid (Below w.heap.size w wr)) (fun i _ => n - (intOf i).toNat)
    case atStart => exact ⟨0, Nat.zero_le _, rfl, Lib.hid (by simp [SamK]), Lib.hid (Below.refl _ _)⟩
    case round =>
      obtain ⟨k, hk, rfl, HK, HB⟩ := hrel
      rcases (by omega : k < n ∨ k = n) with hlt | heq
      · have q0 : decide ((k : Int) < (n : Int)) = true := by rw [decide_eq_true_iff]; omega
        have q0' : decide (k < n) = true := by rw [decide_eq_true_iff]; omega
        have hkl : k < fs.length := by rw [HN.out]; exact hlt
        have hkm : k < gs.length := by rw [HM.out]; exact hlt
        obtain ⟨b, o, hA, hb, c0, c1, hrb, hbc, hbm⟩ := (HF.out.below HB.out).at_ hkl
        obtain ⟨b2, o2, hA2, hb2, d0, d1, hrb2, hbc2, hbm2⟩ := (HG.out.below HB.out).at_ hkm
        subst hA
        subst hA2
        obtain ⟨x, hx⟩ : ∃ x, x = fs[k] := ⟨_, rfl⟩
        obtain ⟨y, hy⟩ : ∃ y, y = gs[k] := ⟨_, rfl⟩
        rw [← hx] at c0 c1 hrb hbc hbm
        rw [← hy] at d0 d1 hrb2 hbc2 hbm2
        obtain ⟨nx, hnx⟩ : ∃ nx, nx = x.b.length := ⟨_, rfl⟩
        obtain ⟨ny, hny⟩ : ∃ ny, ny = y.b.length := ⟨_, rfl⟩
        rw [← hnx] at c1 hbc
        rw [← hny] at d1 hbc2
        have HX := Lib.hid hx
        have HY := Lib.hid hy
        have HNX := Lib.hid hnx.symm
        have HNY := Lib.hid hny.symm
        have hki : (k : Int) < (n : Int) := by omega
        have hk0 : (0 : Int) ≤ (k : Int) := by omega
        obtain ⟨WR, hWR⟩ : ∃ WR, WR = wr := ⟨_, rfl⟩
        rw [← hWR] at c0 c1 d0 d1 hrb hrb2 hb hb2 HB ⊢
        have HBL := Lib.hid hb
        have HBL2 := Lib.hid hb2
        have HX0 := Lib.hid c0
        have HX1 := Lib.hid c1
        have HY0 := Lib.hid d0
        have HY1 := Lib.hid d1
        have HXR := Lib.hid hrb
        have HYR := Lib.hid hrb2
        have HBI : Hid (∀ V, Below WR.heap.size WR V → Below w.heap.size w V) := Lib.hid (fun V hV => HB.out.trans (hV.mono HB.out.size))
        clear hx hy hnx hny hrb hrb2 hb hb2 c0 c1 d0 d1 hWR
        go_wp2
        by_cases hE : x.nm = y.nm
        · have q1 : (x.nm.toList == y.nm.toList) = true := by rw [hE]; exact beq_self_eq_true _
          have HE := Lib.hid hE
          clear hE
          by_cases hE2 : x.b = y.b
          · have q2 : (x.b == y.b) = true := by rw [hE2]; exact beq_self_eq_true _
            have HE2 := Lib.hid hE2
            clear hE2
            refine wp_region_held_drew (S := fun V => Below WR.heap.size WR V) (by kernel_rfl) ((Below.refl _ _).drew) (fun hS1 => ?_)
            refine wpAnyH_take (i := 0) (oi := ⟨some 17, _, _, _, _, _⟩) (v := .slice (some ⟨b, o, none⟩) n c) rfl (by kernel_rfl) (by kernel_rfl) (by kernel_rfl) (fun _ _ _ h => h) (.inl ⟨by kernel_rfl, fun V hS => by go_simp⟩) hS1 ?_
            simp only [Act.put, List.setIfInBounds_toArray, List.set_cons_zero, List.set_cons_succ]
            refine wpAnyH_take (i := 1) (oi := ⟨some 18, _, _, _, _, _⟩) (v := .int .i64 (k : Int)) rfl (by kernel_rfl) (by kernel_rfl) (by kernel_rfl) (fun _ _ _ h => h) (.inl ⟨by kernel_rfl, fun V hS => by go_simp⟩) hS1 ?_
            simp only [Act.put, List.setIfInBounds_toArray, List.set_cons_zero, List.set_cons_succ]
            refine wpAnyH_take (i := 2) (oi := ⟨some 19, _, _, _, _, _⟩) (v := .pointer (some ⟨b, o + k * 2, none⟩)) rfl (by kernel_rfl) (by kernel_rfl) (by kernel_rfl) (fun _ _ _ h => h) (.inl ⟨by kernel_rfl, fun V hS => by go_simp⟩) hS1 ?_
            simp only [Act.put, List.setIfInBounds_toArray, List.set_cons_zero, List.set_cons_succ]
            refine wpAnyH_take (i := 3) (oi := ⟨some 20, _, _, _, _, _⟩) (v := .pointer (some ⟨b, o + k * 2, none⟩)) rfl (by kernel_rfl) (by kernel_rfl) (by kernel_rfl) (fun _ _ _ h => h) (.inl ⟨by kernel_rfl, fun V hS => by go_simp⟩) hS1 ?_
            simp only [Act.put, List.setIfInBounds_toArray, List.set_cons_zero, List.set_cons_succ]
            refine wpAnyH_take (i := 4) (oi := ⟨some 21, _, _, _, _, _⟩) (v := .string x.nm) rfl (by kernel_rfl) (by kernel_rfl) (by kernel_rfl) (fun _ _ _ h => h) (.inl ⟨by kernel_rfl, fun V hS => by have hc := (hS.cell (p := ⟨b, o + k * 2, none⟩) HBL.out).trans HX0.out; go_simp⟩) hS1 ?_
            simp only [Act.put, List.setIfInBounds_toArray, List.set_cons_zero, List.set_cons_succ]
            refine wpAnyH_take (i := 5) (oi := ⟨some 22, _, _, _, _, _⟩) (v := .slice (some ⟨b2, o2, none⟩) n d) rfl (by kernel_rfl) (by kernel_rfl) (by kernel_rfl) (fun _ _ _ h => h) (.inl ⟨by kernel_rfl, fun V hS => by go_simp⟩) hS1 ?_
            simp only [Act.put, List.setIfInBounds_toArray, List.set_cons_zero, List.set_cons_succ]
            refine wpAnyH_take (i := 6) (oi := ⟨some 23, _, _, _, _, _⟩) (v := .int .i64 (k : Int)) rfl (by kernel_rfl) (by kernel_rfl) (by kernel_rfl) (fun _ _ _ h => h) (.inl ⟨by kernel_rfl, fun V hS => by go_simp⟩) hS1 ?_
            simp only [Act.put, List.setIfInBounds_toArray, List.set_cons_zero, List.set_cons_succ]
            refine wpAnyH_take (i := 7) (oi := ⟨some 24, _, _, _, _, _⟩) (v := .pointer (some ⟨b2, o2 + k * 2, none⟩)) rfl (by kernel_rfl) (by kernel_rfl) (by kernel_rfl) (fun _ _ _ h => h) (.inl ⟨by kernel_rfl, fun V hS => by go_simp⟩) hS1 ?_
            simp only [Act.put, List.setIfInBounds_toArray, List.set_cons_zero, List.set_cons_succ]
            refine wpAnyH_take (i := 8) (oi := ⟨some 25, _, _, _, _, _⟩) (v := .pointer (some ⟨b2, o2 + k * 2, none⟩)) rfl (by kernel_rfl) (by kernel_rfl) (by kernel_rfl) (fun _ _ _ h => h) (.inl ⟨by kernel_rfl, fun V hS => by go_simp⟩) hS1 ?_
            simp only [Act.put, List.setIfInBounds_toArray, List.set_cons_zero, List.set_cons_succ]
            refine wpAnyH_take (i := 9) (oi := ⟨some 26, _, _, _, _, _⟩) (v := .string y.nm) rfl (by kernel_rfl) (by kernel_rfl) (by kernel_rfl) (fun _ _ _ h => h) (.inl ⟨by kernel_rfl, fun V hS => by have hc := (hS.cell (p := ⟨b2, o2 + k * 2, none⟩) HBL2.out).trans HY0.out; go_simp⟩) hS1 ?_
            simp only [Act.put, List.setIfInBounds_toArray, List.set_cons_zero, List.set_cons_succ]
            refine wpAnyH_take (i := 10) (oi := ⟨some 27, _, _, _, _, _⟩) (v := .bool false) rfl (by kernel_rfl) (by kernel_rfl) (by kernel_rfl) (fun _ _ _ h => h) (.inl ⟨by kernel_rfl, fun V hS => by go_simp⟩) hS1 ?_
            simp only [Act.put, List.setIfInBounds_toArray, List.set_cons_zero, List.set_cons_succ]
            refine wpAnyH_take (i := 11) (oi := ⟨some 28, _, _, _, _, _⟩) (v := .bool false) rfl (by kernel_rfl) (by kernel_rfl) (by kernel_rfl) (fun _ _ _ h => h) (.inl ⟨by kernel_rfl, fun V hS => by go_simp⟩) hS1 ?_
            simp only [Act.put, List.setIfInBounds_toArray, List.set_cons_zero, List.set_cons_succ]
            refine wpAnyH_take (i := 12) (oi := ⟨some 29, _, _, _, _, _⟩) (v := .slice (some ⟨b, o, none⟩) n c) rfl (by kernel_rfl) (by kernel_rfl) (by kernel_rfl) (fun _ _ _ h => h) (.inl ⟨by kernel_rfl, fun V hS => by go_simp⟩) hS1 ?_
            simp only [Act.put, List.setIfInBounds_toArray, List.set_cons_zero, List.set_cons_succ]
            refine wpAnyH_take (i := 13) (oi := ⟨some 30, _, _, _, _, _⟩) (v := .int .i64 (k : Int)) rfl (by kernel_rfl) (by kernel_rfl) (by kernel_rfl) (fun _ _ _ h => h) (.inl ⟨by kernel_rfl, fun V hS => by go_simp⟩) hS1 ?_
            simp only [Act.put, List.setIfInBounds_toArray, List.set_cons_zero, List.set_cons_succ]
            refine wpAnyH_take (i := 14) (oi := ⟨some 31, _, _, _, _, _⟩) (v := .pointer (some ⟨b, o + k * 2, none⟩)) rfl (by kernel_rfl) (by kernel_rfl) (by kernel_rfl) (fun _ _ _ h => h) (.inl ⟨by kernel_rfl, fun V hS => by go_simp⟩) hS1 ?_
            simp only [Act.put, List.setIfInBounds_toArray, List.set_cons_zero, List.set_cons_succ]
            refine wpAnyH_take (i := 15) (oi := ⟨some 32, _, _, _, _, _⟩) (v := .pointer (some ⟨b, o + k * 2 + 1, none⟩)) rfl (by kernel_rfl) (by kernel_rfl) (by kernel_rfl) (fun _ _ _ h => h) (.inl ⟨by kernel_rfl, fun V hS => by go_simp⟩) hS1 ?_
            simp only [Act.put, List.setIfInBounds_toArray, List.set_cons_zero, List.set_cons_succ]
            refine wpAnyH_take (i := 16) (oi := ⟨some 33, _, _, _, _, _⟩) (v := .slice x.A nx x.c) rfl (by kernel_rfl) (by kernel_rfl) (by kernel_rfl) (fun _ _ _ h => h) (.inl ⟨by kernel_rfl, fun V hS => by have hc := (hS.cell (p := ⟨b, o + k * 2 + 1, none⟩) HBL.out).trans HX1.out; go_simp⟩) hS1 ?_
            simp only [Act.put, List.setIfInBounds_toArray, List.set_cons_zero, List.set_cons_succ]
            refine wpAnyH_take (i := 17) (oi := ⟨some 34, _, _, _, _, _⟩) (v := .string ⟨x.b.toArray⟩) rfl (by kernel_rfl) (by kernel_rfl) (by kernel_rfl) (fun _ _ _ h => h) (.inl ⟨by kernel_rfl, fun V hS => by have RX := run_string (HXR.out.below hS) nx x.c HNX.out; go_simp⟩) hS1 ?_
            simp only [Act.put, List.setIfInBounds_toArray, List.set_cons_zero, List.set_cons_succ]
            refine wpAnyH_take (i := 18) (oi := ⟨some 35, _, _, _, _, _⟩) (v := .slice (some ⟨b2, o2, none⟩) n d) rfl (by kernel_rfl) (by kernel_rfl) (by kernel_rfl) (fun _ _ _ h => h) (.inl ⟨by kernel_rfl, fun V hS => by go_simp⟩) hS1 ?_
            simp only [Act.put, List.setIfInBounds_toArray, List.set_cons_zero, List.set_cons_succ]
            refine wpAnyH_take (i := 19) (oi := ⟨some 36, _, _, _, _, _⟩) (v := .int .i64 (k : Int)) rfl (by kernel_rfl) (by kernel_rfl) (by kernel_rfl) (fun _ _ _ h => h) (.inl ⟨by kernel_rfl, fun V hS => by go_simp⟩) hS1 ?_
            simp only [Act.put, List.setIfInBounds_toArray, List.set_cons_zero, List.set_cons_succ]
            refine wpAnyH_take (i := 20) (oi := ⟨some 37, _, _, _, _, _⟩) (v := .pointer (some ⟨b2, o2 + k * 2, none⟩)) rfl (by kernel_rfl) (by kernel_rfl) (by kernel_rfl) (fun _ _ _ h => h) (.inl ⟨by kernel_rfl, fun V hS => by go_simp⟩) hS1 ?_
            simp only [Act.put, List.setIfInBounds_toArray, List.set_cons_zero, List.set_cons_succ]
            refine wpAnyH_take (i := 21) (oi := ⟨some 38, _, _, _, _, _⟩) (v := .pointer (some ⟨b2, o2 + k * 2 + 1, none⟩)) rfl (by kernel_rfl) (by kernel_rfl) (by kernel_rfl) (fun _ _ _ h => h) (.inl ⟨by kernel_rfl, fun V hS => by go_simp⟩) hS1 ?_
            simp only [Act.put, List.setIfInBounds_toArray, List.set_cons_zero, List.set_cons_succ]
            refine wpAnyH_take (i := 22) (oi := ⟨some 39, _, _, _, _, _⟩) (v := .slice y.A ny y.c) rfl (by kernel_rfl) (by kernel_rfl) (by kernel_rfl) (fun _ _ _ h => h) (.inl ⟨by kernel_rfl, fun V hS => by have hc := (hS.cell (p := ⟨b2, o2 + k * 2 + 1, none⟩) HBL2.out).trans HY1.out; go_simp⟩) hS1 ?_
            simp only [Act.put, List.setIfInBounds_toArray, List.set_cons_zero, List.set_cons_succ]
            refine wpAnyH_take (i := 23) (oi := ⟨some 40, _, _, _, _, _⟩) (v := .string ⟨y.b.toArray⟩) rfl (by kernel_rfl) (by kernel_rfl) (by kernel_rfl) (fun _ _ _ h => h) (.inl ⟨by kernel_rfl, fun V hS => by have RY := run_string (HYR.out.below hS) ny y.c HNY.out; go_simp⟩) hS1 ?_
            simp only [Act.put, List.setIfInBounds_toArray, List.set_cons_zero, List.set_cons_succ]
            refine wpAnyH_take (i := 24) (oi := ⟨some 41, _, _, _, _, _⟩) (v := .bool false) rfl (by kernel_rfl) (by kernel_rfl) (by kernel_rfl) (fun _ _ _ h => h) (.inl ⟨by kernel_rfl, fun V hS => by go_simp⟩) hS1 ?_
            simp only [Act.put, List.setIfInBounds_toArray, List.set_cons_zero, List.set_cons_succ]
            refine wpAnyH_take (i := 25) (oi := ⟨some 42, _, _, _, _, _⟩) (v := .bool false) rfl (by kernel_rfl) (by kernel_rfl) (by kernel_rfl) (fun _ _ _ h => h) (.inl ⟨by kernel_rfl, fun V hS => by go_simp⟩) hS1 ?_
            simp only [Act.put, List.setIfInBounds_toArray, List.set_cons_zero, List.set_cons_succ]
            refine wpAnyH_done (by kernel_rfl) ?_ _
            have HI : Hid (SamK fs gs (k + 1)) := Lib.hid (sam_step HK.out hkl hkm (by rw [← HX.out, ← HY.out]; exact HE.out) (by rw [← HX.out, ← HY.out]; exact HE2.out))
            have HE3 : Hid (Below w.heap.size w WR.drew) := Lib.hid (HBI.out _ hS1)
            clear hS1
            go_wp2
            go_roundw
            case rel => exact ⟨k + 1, by omega, by go_num, HI, HE3⟩
            case measure => simp [intOf]; omega
          · have q2 : (x.b == y.b) = false := by rw [beq_eq_false_iff_ne]; exact hE2
            have HE2 : Hid (¬ x.b = y.b) := hE2
            clear hE2
            refine wp_region_held_drew (S := fun V => Below WR.heap.size WR V) (by kernel_rfl) ((Below.refl _ _).drew) (fun hS1 => ?_)
            refine wpAnyH_take (i := 0) (oi := ⟨some 17, _, _, _, _, _⟩) (v := .slice (some ⟨b, o, none⟩) n c) rfl (by kernel_rfl) (by kernel_rfl) (by kernel_rfl) (fun _ _ _ h => h) (.inl ⟨by kernel_rfl, fun V hS => by go_simp⟩) hS1 ?_
            simp only [Act.put, List.setIfInBounds_toArray, List.set_cons_zero, List.set_cons_succ]
            refine wpAnyH_take (i := 1) (oi := ⟨some 18, _, _, _, _, _⟩) (v := .int .i64 (k : Int)) rfl (by kernel_rfl) (by kernel_rfl) (by kernel_rfl) (fun _ _ _ h => h) (.inl ⟨by kernel_rfl, fun V hS => by go_simp⟩) hS1 ?_
            simp only [Act.put, List.setIfInBounds_toArray, List.set_cons_zero, List.set_cons_succ]
            refine wpAnyH_take (i := 2) (oi := ⟨some 19, _, _, _, _, _⟩) (v := .pointer (some ⟨b, o + k * 2, none⟩)) rfl (by kernel_rfl) (by kernel_rfl) (by kernel_rfl) (fun _ _ _ h => h) (.inl ⟨by kernel_rfl, fun V hS => by go_simp⟩) hS1 ?_
            simp only [Act.put, List.setIfInBounds_toArray, List.set_cons_zero, List.set_cons_succ]
            refine wpAnyH_take (i := 3) (oi := ⟨some 20, _, _, _, _, _⟩) (v := .pointer (some ⟨b, o + k * 2, none⟩)) rfl (by kernel_rfl) (by kernel_rfl) (by kernel_rfl) (fun _ _ _ h => h) (.inl ⟨by kernel_rfl, fun V hS => by go_simp⟩) hS1 ?_
            simp only [Act.put, List.setIfInBounds_toArray, List.set_cons_zero, List.set_cons_succ]
            refine wpAnyH_take (i := 4) (oi := ⟨some 21, _, _, _, _, _⟩) (v := .string x.nm) rfl (by kernel_rfl) (by kernel_rfl) (by kernel_rfl) (fun _ _ _ h => h) (.inl ⟨by kernel_rfl, fun V hS => by have hc := (hS.cell (p := ⟨b, o + k * 2, none⟩) HBL.out).trans HX0.out; go_simp⟩) hS1 ?_
            simp only [Act.put, List.setIfInBounds_toArray, List.set_cons_zero, List.set_cons_succ]
            refine wpAnyH_take (i := 5) (oi := ⟨some 22, _, _, _, _, _⟩) (v := .slice (some ⟨b2, o2, none⟩) n d) rfl (by kernel_rfl) (by kernel_rfl) (by kernel_rfl) (fun _ _ _ h => h) (.inl ⟨by kernel_rfl, fun V hS => by go_simp⟩) hS1 ?_
            simp only [Act.put, List.setIfInBounds_toArray, List.set_cons_zero, List.set_cons_succ]
            refine wpAnyH_take (i := 6) (oi := ⟨some 23, _, _, _, _, _⟩) (v := .int .i64 (k : Int)) rfl (by kernel_rfl) (by kernel_rfl) (by kernel_rfl) (fun _ _ _ h => h) (.inl ⟨by kernel_rfl, fun V hS => by go_simp⟩) hS1 ?_
            simp only [Act.put, List.setIfInBounds_toArray, List.set_cons_zero, List.set_cons_succ]
            refine wpAnyH_take (i := 7) (oi := ⟨some 24, _, _, _, _, _⟩) (v := .pointer (some ⟨b2, o2 + k * 2, none⟩)) rfl (by kernel_rfl) (by kernel_rfl) (by kernel_rfl) (fun _ _ _ h => h) (.inl ⟨by kernel_rfl, fun V hS => by go_simp⟩) hS1 ?_
            simp only [Act.put, List.setIfInBounds_toArray, List.set_cons_zero, List.set_cons_succ]
            refine wpAnyH_take (i := 8) (oi := ⟨some 25, _, _, _, _, _⟩) (v := .pointer (some ⟨b2, o2 + k * 2, none⟩)) rfl (by kernel_rfl) (by kernel_rfl) (by kernel_rfl) (fun _ _ _ h => h) (.inl ⟨by kernel_rfl, fun V hS => by go_simp⟩) hS1 ?_
            simp only [Act.put, List.setIfInBounds_toArray, List.set_cons_zero, List.set_cons_succ]
            refine wpAnyH_take (i := 9) (oi := ⟨some 26, _, _, _, _, _⟩) (v := .string y.nm) rfl (by kernel_rfl) (by kernel_rfl) (by kernel_rfl) (fun _ _ _ h => h) (.inl ⟨by kernel_rfl, fun V hS => by have hc := (hS.cell (p := ⟨b2, o2 + k * 2, none⟩) HBL2.out).trans HY0.out; go_simp⟩) hS1 ?_
            simp only [Act.put, List.setIfInBounds_toArray, List.set_cons_zero, List.set_cons_succ]
            refine wpAnyH_take (i := 10) (oi := ⟨some 27, _, _, _, _, _⟩) (v := .bool false) rfl (by kernel_rfl) (by kernel_rfl) (by kernel_rfl) (fun _ _ _ h => h) (.inl ⟨by kernel_rfl, fun V hS => by go_simp⟩) hS1 ?_
            simp only [Act.put, List.setIfInBounds_toArray, List.set_cons_zero, List.set_cons_succ]
            refine wpAnyH_take (i := 11) (oi := ⟨some 28, _, _, _, _, _⟩) (v := .bool false) rfl (by kernel_rfl) (by kernel_rfl) (by kernel_rfl) (fun _ _ _ h => h) (.inl ⟨by kernel_rfl, fun V hS => by go_simp⟩) hS1 ?_
            simp only [Act.put, List.setIfInBounds_toArray, List.set_cons_zero, List.set_cons_succ]
            refine wpAnyH_take (i := 12) (oi := ⟨some 29, _, _, _, _, _⟩) (v := .slice (some ⟨b, o, none⟩) n c) rfl (by kernel_rfl) (by kernel_rfl) (by kernel_rfl) (fun _ _ _ h => h) (.inl ⟨by kernel_rfl, fun V hS => by go_simp⟩) hS1 ?_
            simp only [Act.put, List.setIfInBounds_toArray, List.set_cons_zero, List.set_cons_succ]
            refine wpAnyH_take (i := 13) (oi := ⟨some 30, _, _, _, _, _⟩) (v := .int .i64 (k : Int)) rfl (by kernel_rfl) (by kernel_rfl) (by kernel_rfl) (fun _ _ _ h => h) (.inl ⟨by kernel_rfl, fun V hS => by go_simp⟩) hS1 ?_
            simp only [Act.put, List.setIfInBounds_toArray, List.set_cons_zero, List.set_cons_succ]
            refine wpAnyH_take (i := 14) (oi := ⟨some 31, _, _, _, _, _⟩) (v := .pointer (some ⟨b, o + k * 2, none⟩)) rfl (by kernel_rfl) (by kernel_rfl) (by kernel_rfl) (fun _ _ _ h => h) (.inl ⟨by kernel_rfl, fun V hS => by go_simp⟩) hS1 ?_
            simp only [Act.put, List.setIfInBounds_toArray, List.set_cons_zero, List.set_cons_succ]
            refine wpAnyH_take (i := 15) (oi := ⟨some 32, _, _, _, _, _⟩) (v := .pointer (some ⟨b, o + k * 2 + 1, none⟩)) rfl (by kernel_rfl) (by kernel_rfl) (by kernel_rfl) (fun _ _ _ h => h) (.inl ⟨by kernel_rfl, fun V hS => by go_simp⟩) hS1 ?_
            simp only [Act.put, List.setIfInBounds_toArray, List.set_cons_zero, List.set_cons_succ]
            refine wpAnyH_take (i := 16) (oi := ⟨some 33, _, _, _, _, _⟩) (v := .slice x.A nx x.c) rfl (by kernel_rfl) (by kernel_rfl) (by kernel_rfl) (fun _ _ _ h => h) (.inl ⟨by kernel_rfl, fun V hS => by have hc := (hS.cell (p := ⟨b, o + k * 2 + 1, none⟩) HBL.out).trans HX1.out; go_simp⟩) hS1 ?_
            simp only [Act.put, List.setIfInBounds_toArray, List.set_cons_zero, List.set_cons_succ]
            refine wpAnyH_take (i := 17) (oi := ⟨some 34, _, _, _, _, _⟩) (v := .string ⟨x.b.toArray⟩) rfl (by kernel_rfl) (by kernel_rfl) (by kernel_rfl) (fun _ _ _ h => h) (.inl ⟨by kernel_rfl, fun V hS => by have RX := run_string (HXR.out.below hS) nx x.c HNX.out; go_simp⟩) hS1 ?_
            simp only [Act.put, List.setIfInBounds_toArray, List.set_cons_zero, List.set_cons_succ]
            refine wpAnyH_take (i := 18) (oi := ⟨some 35, _, _, _, _, _⟩) (v := .slice (some ⟨b2, o2, none⟩) n d) rfl (by kernel_rfl) (by kernel_rfl) (by kernel_rfl) (fun _ _ _ h => h) (.inl ⟨by kernel_rfl, fun V hS => by go_simp⟩) hS1 ?_
            simp only [Act.put, List.setIfInBounds_toArray, List.set_cons_zero, List.set_cons_succ]
            refine wpAnyH_take (i := 19) (oi := ⟨some 36, _, _, _, _, _⟩) (v := .int .i64 (k : Int)) rfl (by kernel_rfl) (by kernel_rfl) (by kernel_rfl) (fun _ _ _ h => h) (.inl ⟨by kernel_rfl, fun V hS => by go_simp⟩) hS1 ?_
            simp only [Act.put, List.setIfInBounds_toArray, List.set_cons_zero, List.set_cons_succ]
            refine wpAnyH_take (i := 20) (oi := ⟨some 37, _, _, _, _, _⟩) (v := .pointer (some ⟨b2, o2 + k * 2, none⟩)) rfl (by kernel_rfl) (by kernel_rfl) (by kernel_rfl) (fun _ _ _ h => h) (.inl ⟨by kernel_rfl, fun V hS => by go_simp⟩) hS1 ?_
            simp only [Act.put, List.setIfInBounds_toArray, List.set_cons_zero, List.set_cons_succ]
            refine wpAnyH_take (i := 21) (oi := ⟨some 38, _, _, _, _, _⟩) (v := .pointer (some ⟨b2, o2 + k * 2 + 1, none⟩)) rfl (by kernel_rfl) (by kernel_rfl) (by kernel_rfl) (fun _ _ _ h => h) (.inl ⟨by kernel_rfl, fun V hS => by go_simp⟩) hS1 ?_
            simp only [Act.put, List.setIfInBounds_toArray, List.set_cons_zero, List.set_cons_succ]
            refine wpAnyH_take (i := 22) (oi := ⟨some 39, _, _, _, _, _⟩) (v := .slice y.A ny y.c) rfl (by kernel_rfl) (by kernel_rfl) (by kernel_rfl) (fun _ _ _ h => h) (.inl ⟨by kernel_rfl, fun V hS => by have hc := (hS.cell (p := ⟨b2, o2 + k * 2 + 1, none⟩) HBL2.out).trans HY1.out; go_simp⟩) hS1 ?_
            simp only [Act.put, List.setIfInBounds_toArray, List.set_cons_zero, List.set_cons_succ]
            refine wpAnyH_take (i := 23) (oi := ⟨some 40, _, _, _, _, _⟩) (v := .string ⟨y.b.toArray⟩) rfl (by kernel_rfl) (by kernel_rfl) (by kernel_rfl) (fun _ _ _ h => h) (.inl ⟨by kernel_rfl, fun V hS => by have RY := run_string (HYR.out.below hS) ny y.c HNY.out; go_simp⟩) hS1 ?_
            simp only [Act.put, List.setIfInBounds_toArray, List.set_cons_zero, List.set_cons_succ]
            refine wpAnyH_take (i := 24) (oi := ⟨some 41, _, _, _, _, _⟩) (v := .bool true) rfl (by kernel_rfl) (by kernel_rfl) (by kernel_rfl) (fun _ _ _ h => h) (.inl ⟨by kernel_rfl, fun V hS => by go_simp⟩) hS1 ?_
            simp only [Act.put, List.setIfInBounds_toArray, List.set_cons_zero, List.set_cons_succ]
            refine wpAnyH_take (i := 25) (oi := ⟨some 42, _, _, _, _, _⟩) (v := .bool true) rfl (by kernel_rfl) (by kernel_rfl) (by kernel_rfl) (fun _ _ _ h => h) (.inl ⟨by kernel_rfl, fun V hS => by go_simp⟩) hS1 ?_
            simp only [Act.put, List.setIfInBounds_toArray, List.set_cons_zero, List.set_cons_succ]
            refine wpAnyH_done (by kernel_rfl) ?_ _
            have HI : Hid (r = false) := by show _ = _; rw [HR.out]; exact sam_not hkl hkm (by rw [← HX.out, ← HY.out]; exact fun e => HE2.out e.2)
            have HE3 : Hid (Below w.heap.size w WR.drew) := Lib.hid (HBI.out _ hS1)
            clear hS1
            go_wp2
            go_ret
            exact ⟨by rw [HI.out]; rfl, HE3.out⟩
        · have q1 : (x.nm.toList == y.nm.toList) = false := by rw [beq_eq_false_iff_ne]; exact fun e => hE (toList_inj' e)
          have HE : Hid (¬ x.nm = y.nm) := hE
          clear hE
          refine wp_region_held_drew (S := fun V => Below WR.heap.size WR V) (by kernel_rfl) ((Below.refl _ _).drew) (fun hS1 => ?_)
          refine wpAnyH_take (i := 0) (oi := ⟨some 17, _, _, _, _, _⟩) (v := .slice (some ⟨b, o, none⟩) n c) rfl (by kernel_rfl) (by kernel_rfl) (by kernel_rfl) (fun _ _ _ h => h) (.inl ⟨by kernel_rfl, fun V hS => by go_simp⟩) hS1 ?_
          simp only [Act.put, List.setIfInBounds_toArray, List.set_cons_zero, List.set_cons_succ]
          refine wpAnyH_take (i := 1) (oi := ⟨some 18, _, _, _, _, _⟩) (v := .int .i64 (k : Int)) rfl (by kernel_rfl) (by kernel_rfl) (by kernel_rfl) (fun _ _ _ h => h) (.inl ⟨by kernel_rfl, fun V hS => by go_simp⟩) hS1 ?_
          simp only [Act.put, List.setIfInBounds_toArray, List.set_cons_zero, List.set_cons_succ]
          refine wpAnyH_take (i := 2) (oi := ⟨some 19, _, _, _, _, _⟩) (v := .pointer (some ⟨b, o + k * 2, none⟩)) rfl (by kernel_rfl) (by kernel_rfl) (by kernel_rfl) (fun _ _ _ h => h) (.inl ⟨by kernel_rfl, fun V hS => by go_simp⟩) hS1 ?_
          simp only [Act.put, List.setIfInBounds_toArray, List.set_cons_zero, List.set_cons_succ]
          refine wpAnyH_take (i := 3) (oi := ⟨some 20, _, _, _, _, _⟩) (v := .pointer (some ⟨b, o + k * 2, none⟩)) rfl (by kernel_rfl) (by kernel_rfl) (by kernel_rfl) (fun _ _ _ h => h) (.inl ⟨by kernel_rfl, fun V hS => by go_simp⟩) hS1 ?_
          simp only [Act.put, List.setIfInBounds_toArray, List.set_cons_zero, List.set_cons_succ]
          refine wpAnyH_take (i := 4) (oi := ⟨some 21, _, _, _, _, _⟩) (v := .string x.nm) rfl (by kernel_rfl) (by kernel_rfl) (by kernel_rfl) (fun _ _ _ h => h) (.inl ⟨by kernel_rfl, fun V hS => by have hc := (hS.cell (p := ⟨b, o + k * 2, none⟩) HBL.out).trans HX0.out; go_simp⟩) hS1 ?_
          simp only [Act.put, List.setIfInBounds_toArray, List.set_cons_zero, List.set_cons_succ]
          refine wpAnyH_take (i := 5) (oi := ⟨some 22, _, _, _, _, _⟩) (v := .slice (some ⟨b2, o2, none⟩) n d) rfl (by kernel_rfl) (by kernel_rfl) (by kernel_rfl) (fun _ _ _ h => h) (.inl ⟨by kernel_rfl, fun V hS => by go_simp⟩) hS1 ?_
          simp only [Act.put, List.setIfInBounds_toArray, List.set_cons_zero, List.set_cons_succ]
          refine wpAnyH_take (i := 6) (oi := ⟨some 23, _, _, _, _, _⟩) (v := .int .i64 (k : Int)) rfl (by kernel_rfl) (by kernel_rfl) (by kernel_rfl) (fun _ _ _ h => h) (.inl ⟨by kernel_rfl, fun V hS => by go_simp⟩) hS1 ?_
          simp only [Act.put, List.setIfInBounds_toArray, List.set_cons_zero, List.set_cons_succ]
          refine wpAnyH_take (i := 7) (oi := ⟨some 24, _, _, _, _, _⟩) (v := .pointer (some ⟨b2, o2 + k * 2, none⟩)) rfl (by kernel_rfl) (by kernel_rfl) (by kernel_rfl) (fun _ _ _ h => h) (.inl ⟨by kernel_rfl, fun V hS => by go_simp⟩) hS1 ?_
          simp only [Act.put, List.setIfInBounds_toArray, List.set_cons_zero, List.set_cons_succ]
          refine wpAnyH_take (i := 8) (oi := ⟨some 25, _, _, _, _, _⟩) (v := .pointer (some ⟨b2, o2 + k * 2, none⟩)) rfl (by kernel_rfl) (by kernel_rfl) (by kernel_rfl) (fun _ _ _ h => h) (.inl ⟨by kernel_rfl, fun V hS => by go_simp⟩) hS1 ?_
          simp only [Act.put, List.setIfInBounds_toArray, List.set_cons_zero, List.set_cons_succ]
          refine wpAnyH_take (i := 9) (oi := ⟨some 26, _, _, _, _, _⟩) (v := .string y.nm) rfl (by kernel_rfl) (by kernel_rfl) (by kernel_rfl) (fun _ _ _ h => h) (.inl ⟨by kernel_rfl, fun V hS => by have hc := (hS.cell (p := ⟨b2, o2 + k * 2, none⟩) HBL2.out).trans HY0.out; go_simp⟩) hS1 ?_
          simp only [Act.put, List.setIfInBounds_toArray, List.set_cons_zero, List.set_cons_succ]
          refine wpAnyH_take (i := 10) (oi := ⟨some 27, _, _, _, _, _⟩) (v := .bool true) rfl (by kernel_rfl) (by kernel_rfl) (by kernel_rfl) (fun _ _ _ h => h) (.inl ⟨by kernel_rfl, fun V hS => by go_simp⟩) hS1 ?_
          simp only [Act.put, List.setIfInBounds_toArray, List.set_cons_zero, List.set_cons_succ]
          refine wpAnyH_take (i := 11) (oi := ⟨some 28, _, _, _, _, _⟩) (v := .bool true) rfl (by kernel_rfl) (by kernel_rfl) (by kernel_rfl) (fun _ _ _ h => h) (.inl ⟨by kernel_rfl, fun V hS => by go_simp⟩) hS1 ?_
          simp only [Act.put, List.setIfInBounds_toArray, List.set_cons_zero, List.set_cons_succ]
          refine wpAnyH_take (i := 12) (oi := ⟨some 29, _, _, _, _, _⟩) (v := undef) rfl (by kernel_rfl) (by kernel_rfl) (by kernel_rfl) (fun _ _ _ h => h) (.inr ⟨by kernel_rfl, rfl⟩) hS1 ?_
          simp only [Act.put, List.setIfInBounds_toArray, List.set_cons_zero, List.set_cons_succ]
          refine wpAnyH_take (i := 13) (oi := ⟨some 30, _, _, _, _, _⟩) (v := undef) rfl (by kernel_rfl) (by kernel_rfl) (by kernel_rfl) (fun _ _ _ h => h) (.inr ⟨by kernel_rfl, rfl⟩) hS1 ?_
          simp only [Act.put, List.setIfInBounds_toArray, List.set_cons_zero, List.set_cons_succ]
          refine wpAnyH_take (i := 14) (oi := ⟨some 31, _, _, _, _, _⟩) (v := undef) rfl (by kernel_rfl) (by kernel_rfl) (by kernel_rfl) (fun _ _ _ h => h) (.inr ⟨by kernel_rfl, rfl⟩) hS1 ?_
          simp only [Act.put, List.setIfInBounds_toArray, List.set_cons_zero, List.set_cons_succ]
          refine wpAnyH_take (i := 15) (oi := ⟨some 32, _, _, _, _, _⟩) (v := undef) rfl (by kernel_rfl) (by kernel_rfl) (by kernel_rfl) (fun _ _ _ h => h) (.inr ⟨by kernel_rfl, rfl⟩) hS1 ?_
          simp only [Act.put, List.setIfInBounds_toArray, List.set_cons_zero, List.set_cons_succ]
          refine wpAnyH_take (i := 16) (oi := ⟨some 33, _, _, _, _, _⟩) (v := undef) rfl (by kernel_rfl) (by kernel_rfl) (by kernel_rfl) (fun _ _ _ h => h) (.inr ⟨by kernel_rfl, rfl⟩) hS1 ?_
          simp only [Act.put, List.setIfInBounds_toArray, List.set_cons_zero, List.set_cons_succ]
          refine wpAnyH_take (i := 17) (oi := ⟨some 34, _, _, _, _, _⟩) (v := undef) rfl (by kernel_rfl) (by kernel_rfl) (by kernel_rfl) (fun _ _ _ h => h) (.inr ⟨by kernel_rfl, rfl⟩) hS1 ?_
          simp only [Act.put, List.setIfInBounds_toArray, List.set_cons_zero, List.set_cons_succ]
          refine wpAnyH_take (i := 18) (oi := ⟨some 35, _, _, _, _, _⟩) (v := undef) rfl (by kernel_rfl) (by kernel_rfl) (by kernel_rfl) (fun _ _ _ h => h) (.inr ⟨by kernel_rfl, rfl⟩) hS1 ?_
          simp only [Act.put, List.setIfInBounds_toArray, List.set_cons_zero, List.set_cons_succ]
          refine wpAnyH_take (i := 19) (oi := ⟨some 36, _, _, _, _, _⟩) (v := undef) rfl (by kernel_rfl) (by kernel_rfl) (by kernel_rfl) (fun _ _ _ h => h) (.inr ⟨by kernel_rfl, rfl⟩) hS1 ?_
          simp only [Act.put, List.setIfInBounds_toArray, List.set_cons_zero, List.set_cons_succ]
          refine wpAnyH_take (i := 20) (oi := ⟨some 37, _, _, _, _, _⟩) (v := undef) rfl (by kernel_rfl) (by kernel_rfl) (by kernel_rfl) (fun _ _ _ h => h) (.inr ⟨by kernel_rfl, rfl⟩) hS1 ?_
          simp only [Act.put, List.setIfInBounds_toArray, List.set_cons_zero, List.set_cons_succ]
          refine wpAnyH_take (i := 21) (oi := ⟨some 38, _, _, _, _, _⟩) (v := undef) rfl (by kernel_rfl) (by kernel_rfl) (by kernel_rfl) (fun _ _ _ h => h) (.inr ⟨by kernel_rfl, rfl⟩) hS1 ?_
          simp only [Act.put, List.setIfInBounds_toArray, List.set_cons_zero, List.set_cons_succ]
          refine wpAnyH_take (i := 22) (oi := ⟨some 39, _, _, _, _, _⟩) (v := undef) rfl (by kernel_rfl) (by kernel_rfl) (by kernel_rfl) (fun _ _ _ h => h) (.inr ⟨by kernel_rfl, rfl⟩) hS1 ?_
          simp only [Act.put, List.setIfInBounds_toArray, List.set_cons_zero, List.set_cons_succ]
          refine wpAnyH_take (i := 23) (oi := ⟨some 40, _, _, _, _, _⟩) (v := undef) rfl (by kernel_rfl) (by kernel_rfl) (by kernel_rfl) (fun _ _ _ h => h) (.inr ⟨by kernel_rfl, rfl⟩) hS1 ?_
          simp only [Act.put, List.setIfInBounds_toArray, List.set_cons_zero, List.set_cons_succ]
          refine wpAnyH_take (i := 24) (oi := ⟨some 41, _, _, _, _, _⟩) (v := undef) rfl (by kernel_rfl) (by kernel_rfl) (by kernel_rfl) (fun _ _ _ h => h) (.inr ⟨by kernel_rfl, rfl⟩) hS1 ?_
          simp only [Act.put, List.setIfInBounds_toArray, List.set_cons_zero, List.set_cons_succ]
          refine wpAnyH_take (i := 25) (oi := ⟨some 42, _, _, _, _, _⟩) (v := .bool true) rfl (by kernel_rfl) (by kernel_rfl) (by kernel_rfl) (fun _ _ _ h => h) (.inl ⟨by kernel_rfl, fun V hS => by go_simp⟩) hS1 ?_
          simp only [Act.put, List.setIfInBounds_toArray, List.set_cons_zero, List.set_cons_succ]
          refine wpAnyH_done (by kernel_rfl) ?_ _
          have HI : Hid (r = false) := by show _ = _; rw [HR.out]; exact sam_not hkl hkm (by rw [← HX.out, ← HY.out]; exact fun e => HE.out e.1)
          have HE3 : Hid (Below w.heap.size w WR.drew) := Lib.hid (HBI.out _ hS1)
          clear hS1
          go_wp2
          go_ret
          exact ⟨by rw [HI.out]; rfl, HE3.out⟩
      · have q0 : decide ((k : Int) < (n : Int)) = false := by rw [decide_eq_false_iff_not]; omega
        have q0' : decide (k < n) = false := by rw [decide_eq_false_iff_not]; omega
        have HI : Hid (r = true) := by
          show _ = _
          rw [HR.out, decide_eq_true_iff]
          have h1 := HK.out
          unfold SamK at h1
          rw [heq] at h1
          rw [List.take_of_length_le (by rw [fiL_len, HN.out]; omega), List.take_of_length_le (by rw [fiL_len, HM.out]; omega)] at h1
          exact h1
        clear heq
        go_wp2
        go_ret
        exact ⟨by rw [HI.out]; rfl, HB.out⟩
  · have HI : Hid (r = false) := by
      show _ = _
      rw [HR.out, decide_eq_false_iff_not]
      intro e
      have := congrArg List.length e
      rw [fiL_len, fiL_len, HN.out, HM.out] at this
      exact hnm this
    have e1 : ((n : Int) != (m : Int)) = true := by rw [bne_iff_ne]; omega
    have e1' : (n != m) = true := by rw [bne_iff_ne]; exact hnm
    clear hnm
    go_enter Tryz.func31, Tryz.ntmps31
    go_wp2
    go_ret
    exact ⟨by rw [HI.out]; rfl, Below.refl _ _⟩
end Go.Proofs.YtgpcinfhcamgpaaGreatDoor
