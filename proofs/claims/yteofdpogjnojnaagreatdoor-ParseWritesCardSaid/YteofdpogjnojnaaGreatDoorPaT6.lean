/-
  parse: value.
-/
import Derived.Test.YteofdpogjnojnaaGreatDoorPaT5
namespace Go.Proofs.YteofdpogjnojnaaGreatDoor
open Go.RowKit Utf Pa
attribute [local go_sem ↓] Go.wp_at_zero Go.wp_at_succ
set_option linter.unusedVariables false
set_option linter.unusedSimpArgs false

theorem valP_no {D : Nat} {p : St} (h : p.skip.e ≠ 0 ∨ begins p.skip.r = false) : valP D p = (p.skip.fail p.skip.i 50, pv0) := by
  cases D <;> (unfold valP; rw [if_pos h])
theorem valP_over {D : Nat} {p : St} (h : ¬ (p.skip.e ≠ 0 ∨ begins p.skip.r = false)) (hc : 4096 < p.skip.more.c) : valP D p = (p.skip.more.fail p.skip.i 42, pv0) := by
  cases D <;> (unfold valP; rw [if_neg h, if_pos hc])
theorem valP_zero {p : St} (h : ¬ (p.skip.e ≠ 0 ∨ begins p.skip.r = false)) (hc : ¬ 4096 < p.skip.more.c) : valP 0 p = (p.skip.more.fail p.skip.i 41, pv0) := by
  unfold valP; rw [if_neg h, if_neg hc]
theorem valP_succ {d : Nat} {p : St} (h : ¬ (p.skip.e ≠ 0 ∨ begins p.skip.r = false)) (hc : ¬ 4096 < p.skip.more.c) : valP (d + 1) p = ((readP (valP d) p.skip.more).1.skip, (readP (valP d) p.skip.more).2) := by
  conv => lhs; unfold valP
  rw [if_neg h, if_neg hc]
set_option maxRecDepth 100000 in
set_option maxHeartbeats 2000000 in
theorem fail_over {w : World} {B : Nat} {s : ByteArray} {i c : Int} (h : Blk w B 45 #[.string s, .int .i64 i, .int .i64 c, .int .i64 0]) (a er : Int) : Calls Tryz.prog 19 #[.pointer (some ⟨B, 0, none⟩), .int .i64 a, .int .i64 er] w fun e w' => e = .returned (.bool false) ∧ Blk w' B 45 #[.string s, .int .i64 a, .int .i64 c, .int .i64 er] ∧ Fr (· = B) w w' := by
  have c3 : w.cell? ⟨B, 3, none⟩ = some (.int .i64 0) := h.cell 3
  have c1 : w.cell? ⟨B, 1, none⟩ = some (.int .i64 i) := h.cell 1
  have f1 : w.frozen? ⟨B, 1, none⟩ = false := h.frozen 1
  have f3 : w.frozen? ⟨B, 3, none⟩ = false := h.frozen 3
  have hb := (h.set_ 1 (.int .i64 a)).set_ 3 (.int .i64 er)
  have HB := Lib.hid hb
  clear h hb
  go_enter Tryz.func19, Tryz.ntmps19
  go_wp2
  go_ret
  exact ⟨rfl, by have := HB.out; simpa using this, frB.trans frB⟩
set_option maxRecDepth 100000 in
set_option maxHeartbeats 16000000 in
theorem value_step {W : World} {B : Nat} {s : ByteArray} (D : Nat) (hD : D ≤ 100) (hs : s.size ≤ 1000000) (hF : FourOk s) (hT : tabV W) (hC : ∀ d, D = d + 1 → VC W B s d) : VC W B s D := by
  intro w p h
  obtain ⟨W0, hW0⟩ : ∃ W0, W0 = w.alloc (.cells #[.int .i64 0, .int .i64 0, .string ⟨#[]⟩, .slice none 0 0, .slice none 0 0] 25) := ⟨_, rfl⟩
  have hb0 : Below w.heap.size w W0 := by rw [hW0]; exact (Below.refl _ _).alloc (Nat.le_refl _) _
  have hs0 : W0.heap.size = w.heap.size + 1 := by rw [hW0]; exact alSz _ _
  have hk0 : Blk W0 w.heap.size 25 #[.int .i64 0, .int .i64 0, .string ⟨#[]⟩, .slice none 0 0, .slice none 0 0] := by rw [hW0]; exact Blk.new _ _ _
  have h0 := h.below hb0
  have hsk := skip_any h0 hs
  obtain ⟨q, hq⟩ : ∃ q, q = p.skip := ⟨_, rfl⟩
  have hqi : q.i ≤ s.size := by rw [hq]; exact HSKI h
  obtain ⟨RES, hres⟩ : ∃ RES, RES = valP D p := ⟨_, rfl⟩
  rw [← hres]
  rw [← hq] at hsk
  have HQ := Lib.hid hq
  have HSK := Lib.hid hsk
  have HQC : Hid (q.c ≤ 4097 ∧ (q.e = 0 → q.c ≤ 4096)) := Lib.hid (by rw [hq]; exact h.pc)
  have HB0 := Lib.hid hb0
  have HK0 := Lib.hid hk0
  have HW0 := Lib.hid hW0
  have HR := Lib.hid hres
  have HFAIL : Hid (∀ V z er, 1 ≤ er ∧ er ≤ 1000 → PSt W B s V z → Calls Tryz.prog 19 #[.pointer (some ⟨B, 0, none⟩), .int .i64 (q.i : Int), .int .i64 er] V fun e w' => PF (StpP W B s (.bool false) (z.fail q.i er) V) e w') := Lib.hid (fun V z er her hq' => fail_any hq' q.i er hqi her)
  have HN : Hid (B < w.heap.size ∧ W.heap.size ≤ w.heap.size ∧ W0.heap.size = w.heap.size + 1) := Lib.hid ⟨h.blk.lt, h.bel.size, hs0⟩
  have HQI := Lib.hid hqi
  have HBG : Hid (∀ V, PSt W B s V q → Calls Tryz.prog 27 #[.pointer (some ⟨B, 0, none⟩)] V fun e w' => PF (BoP' (begins q.r) V) e w') := Lib.hid (fun V hV => begins_any hV hs)
  have HSKQ : Hid (∀ V z, PSt W B s V z → Calls Tryz.prog 26 #[.pointer (some ⟨B, 0, none⟩)] V fun e w' => PF (StpP W B s (.tuple #[]) z.skip V) e w') := Lib.hid (fun V z hV => skip_any hV hs)
  clear hb0 hs0 hk0 h0 hsk hres hW0 hqi hq h
  by_cases he : q.e = 0
  · have HE := Lib.hid he
    cases hbg : begins q.r with
    | false =>
      have HB := Lib.hid hbg
      have HRES : Hid (RES = (q.fail q.i 50, pv0)) := Lib.hid (by rw [HR.out, valP_no (by rw [← HQ.out]; exact .inr hbg), ← HQ.out])
      clear hC hF hT hs hbg he
      go_enter Tryz.func17, Tryz.ntmps17
      go_wp2_with fail
      rw [← HW0.out]
      refine HSK.out.mono ?_
      rintro e w1 ⟨rfl, hp1, hf1⟩
      have HPS1 := Lib.hid hp1
      have HK1 := Lib.hid (HK0.out.fr hf1 (by have := HN.out; omega))
      have HF1 : Hid (Fr (· = B) w w1) := Lib.hid ((Fr.of_below HB0.out).trans hf1)
      have HS1 : Hid (W0.heap.size ≤ w1.heap.size) := Lib.hid hf1.size
      clear hp1 hf1
      have ce : w1.cell? ⟨B, 3, none⟩ = some (.int .i64 q.e) := HPS1.out.blk.cell 3
      have q0 : (q.e != 0) = false := by rw [HE.out]; rfl
      go_wp2_with fail
      refine (HBG.out w1 HPS1.out).mono ?_
      rintro e w2 ⟨rfl, hb2⟩
      rw [HB.out]
      have HPS2 := Lib.hid (HPS1.out.below hb2)
      have HK2 := Lib.hid (HK1.out.below hb2 HK1.out.lt)
      have HF2 := Lib.hid (HF1.out.below hb2)
      have HS2 : Hid (W0.heap.size ≤ w2.heap.size) := Lib.hid (Nat.le_trans HS1.out hb2.size)
      clear hb2 ce
      have ci : w2.cell? ⟨B, 1, none⟩ = some (.int .i64 q.i) := HPS2.out.blk.cell 1
      go_wp2_with fail
      refine (HFAIL.out w2 q 50 (by omega) HPS2.out).mono ?_
      rintro e w3 ⟨rfl, hp3, hf3⟩
      have HPS3 := Lib.hid hp3
      have HK3 := Lib.hid (HK2.out.fr hf3 (by have := HN.out; omega))
      have HF3 := Lib.hid (HF2.out.trans hf3)
      clear hp3 hf3 ci
      have y0 : w3.cell? ⟨w.heap.size, 0, none⟩ = some (.int .i64 0) := HK3.out.cell 0
      have z0 : w3.frozen? ⟨w.heap.size, 0, none⟩ = false := HK3.out.frozen 0
      have y1 : w3.cell? ⟨w.heap.size, 1, none⟩ = some (.int .i64 0) := HK3.out.cell 1
      have z1 : w3.frozen? ⟨w.heap.size, 1, none⟩ = false := HK3.out.frozen 1
      have y2 : w3.cell? ⟨w.heap.size, 2, none⟩ = some (.string ⟨#[]⟩) := HK3.out.cell 2
      have z2 : w3.frozen? ⟨w.heap.size, 2, none⟩ = false := HK3.out.frozen 2
      have y3 : w3.cell? ⟨w.heap.size, 3, none⟩ = some (.slice none 0 0) := HK3.out.cell 3
      have z3 : w3.frozen? ⟨w.heap.size, 3, none⟩ = false := HK3.out.frozen 3
      have y4 : w3.cell? ⟨w.heap.size, 4, none⟩ = some (.slice none 0 0) := HK3.out.cell 4
      have z4 : w3.frozen? ⟨w.heap.size, 4, none⟩ = false := HK3.out.frozen 4
      have HFK := Lib.hid (((((HK3.out.set_ 0 (.int .i64 0)).set_ 1 (.int .i64 0)).set_ 2 (.string ⟨#[]⟩)).set_ 3 (.slice none 0 0)).set_ 4 (.slice none 0 0))
      go_wp2
      have k0 := HFK.out.cell 0
      have k1 := HFK.out.cell 1
      have k2 := HFK.out.cell 2
      have k3 := HFK.out.cell 3
      have k4 := HFK.out.cell 4
      simp at k0 k1 k2 k3 k4
      refine bodyPost_ret (v := (fl 0 0 ⟨#[]⟩).val) (by rw [fl_val]; simp [results, Tryz.results17, go_sem, k0, k1, k2, k3, k4]) rfl ?_
      rw [HRES.out]
      exact val_end (R := w.heap.size) (base := w.heap.size + 1) HPS3.out (fl_own _ _ rfl rfl) rfl fr_put5 HF3.out (by have := HN.out; omega)
    | true =>
      have HB := Lib.hid hbg
      have hnn : ¬ (p.skip.e ≠ 0 ∨ begins p.skip.r = false) := by rw [← HQ.out, hbg]; simp [he]
      by_cases hc : 4096 < q.c + 1
      · have HRES : Hid (RES = (q.more.fail q.i 42, pv0)) := Lib.hid (by rw [HR.out, valP_over hnn (by rw [← HQ.out]; exact hc), ← HQ.out])
        have HC : Hid (q.c = 4096) := Lib.hid (by have := HQC.out.2 he; omega)
        clear hC hF hT hs hbg he hnn hc
        go_enter Tryz.func17, Tryz.ntmps17
        go_wp2_with fail
        rw [← HW0.out]
        refine HSK.out.mono ?_
        rintro e w1 ⟨rfl, hp1, hf1⟩
        have HPS1 := Lib.hid hp1
        have HK1 := Lib.hid (HK0.out.fr hf1 (by have := HN.out; omega))
        have HF1 : Hid (Fr (· = B) w w1) := Lib.hid ((Fr.of_below HB0.out).trans hf1)
        have HS1 : Hid (W0.heap.size ≤ w1.heap.size) := Lib.hid hf1.size
        clear hp1 hf1
        have ce : w1.cell? ⟨B, 3, none⟩ = some (.int .i64 q.e) := HPS1.out.blk.cell 3
        have q0 : (q.e != 0) = false := by rw [HE.out]; rfl
        go_wp2_with fail
        refine (HBG.out w1 HPS1.out).mono ?_
        rintro e w2 ⟨rfl, hb2⟩
        rw [HB.out]
        have HPS2 := Lib.hid (HPS1.out.below hb2)
        have HK2 := Lib.hid (HK1.out.below hb2 HK1.out.lt)
        have HF2 := Lib.hid (HF1.out.below hb2)
        have HS2 : Hid (W0.heap.size ≤ w2.heap.size) := Lib.hid (Nat.le_trans HS1.out hb2.size)
        clear hb2 ce
        have cc : w2.cell? ⟨B, 2, none⟩ = some (.int .i64 q.c) := HPS2.out.blk.cell 2
        have fc : w2.frozen? ⟨B, 2, none⟩ = false := HPS2.out.blk.frozen 2
        obtain ⟨w3, hw3⟩ : ∃ w3, w3 = w2.setCell ⟨B, 2, none⟩ (.int .i64 ((q.c : Int) + 1)) := ⟨_, rfl⟩
        have hf23 : Fr (· = B) w2 w3 := by rw [hw3]; exact frB
        have hbk : Blk w3 B 45 #[.string s, .int .i64 q.i, .int .i64 ((q.c : Int) + 1), .int .i64 q.e] := by
          rw [hw3]
          have := HPS2.out.blk.set_ 2 (.int .i64 ((q.c : Int) + 1))
          simpa using this
        have HBK := Lib.hid hbk
        have HK3 := Lib.hid (HK2.out.fr hf23 (by have := HN.out; omega))
        have HF3 := Lib.hid (HF2.out.trans hf23)
        have HF23 := Lib.hid hf23
        have HW3 := Lib.hid hw3
        have c3 : w3.cell? ⟨B, 2, none⟩ = some (.int .i64 ((q.c : Int) + 1)) := hbk.cell 2
        have ci : w3.cell? ⟨B, 1, none⟩ = some (.int .i64 q.i) := hbk.cell 1
        rw [hw3] at c3 ci
        clear hf23 hbk hw3
        have hw1 : IntKind.i64.wrap ((q.c : Int) + 1) = (q.c : Int) + 1 := IntWalk.i64_in _ (by have := HC.out; omega)
        have hgt : decide ((q.c : Int) + 1 > 4096) = true := decide_eq_true (by have := HC.out; omega)
        go_wp2_with fail
        rw [← HW3.out]
        have hbk := HBK.out
        rw [HE.out] at hbk
        refine (fail_over hbk q.i 42).mono ?_
        rintro e w4 ⟨rfl, hbk4, hf4⟩
        have HPS4 : Hid (PSt W B s w4 (q.more.fail q.i 42)) := Lib.hid (by
          rw [fail_ok (show q.more.e = 0 from HE.out)]
          exact ⟨hbk4, fun _ => rfl, fun z => by simp only at z; omega, HQI.out, ⟨by have := HC.out; show q.c + 1 ≤ 4097; omega, fun z => by simp only at z; omega⟩, ⟨by simp only; omega, by simp only; omega⟩, Fr.below_trans HPS2.out.bel (HF23.out.trans hf4) HPS2.out.bel.size (fun b e => e ▸ HPS2.out.bW), HPS2.out.bW⟩)
        have HK4 := Lib.hid (HK3.out.fr hf4 (by have := HN.out; omega))
        have HF4 := Lib.hid (HF3.out.trans hf4)
        clear hbk hbk4 hf4 ci c3 cc fc hw1 hgt q0
        have y0 : w4.cell? ⟨w.heap.size, 0, none⟩ = some (.int .i64 0) := HK4.out.cell 0
        have z0 : w4.frozen? ⟨w.heap.size, 0, none⟩ = false := HK4.out.frozen 0
        have y1 : w4.cell? ⟨w.heap.size, 1, none⟩ = some (.int .i64 0) := HK4.out.cell 1
        have z1 : w4.frozen? ⟨w.heap.size, 1, none⟩ = false := HK4.out.frozen 1
        have y2 : w4.cell? ⟨w.heap.size, 2, none⟩ = some (.string ⟨#[]⟩) := HK4.out.cell 2
        have z2 : w4.frozen? ⟨w.heap.size, 2, none⟩ = false := HK4.out.frozen 2
        have y3 : w4.cell? ⟨w.heap.size, 3, none⟩ = some (.slice none 0 0) := HK4.out.cell 3
        have z3 : w4.frozen? ⟨w.heap.size, 3, none⟩ = false := HK4.out.frozen 3
        have y4 : w4.cell? ⟨w.heap.size, 4, none⟩ = some (.slice none 0 0) := HK4.out.cell 4
        have z4 : w4.frozen? ⟨w.heap.size, 4, none⟩ = false := HK4.out.frozen 4
        have HFK := Lib.hid (((((HK4.out.set_ 0 (.int .i64 0)).set_ 1 (.int .i64 0)).set_ 2 (.string ⟨#[]⟩)).set_ 3 (.slice none 0 0)).set_ 4 (.slice none 0 0))
        go_wp2
        have k0 := HFK.out.cell 0
        have k1 := HFK.out.cell 1
        have k2 := HFK.out.cell 2
        have k3 := HFK.out.cell 3
        have k4 := HFK.out.cell 4
        simp at k0 k1 k2 k3 k4
        refine bodyPost_ret (v := (fl 0 0 ⟨#[]⟩).val) (by rw [fl_val]; simp [results, Tryz.results17, go_sem, k0, k1, k2, k3, k4]) rfl ?_
        rw [HRES.out]
        exact val_end (R := w.heap.size) (base := w.heap.size + 1) HPS4.out (fl_own _ _ rfl rfl) rfl fr_put5 HF4.out (by have := HN.out; omega)
      · have HC : Hid (q.c < 4096) := Lib.hid (by omega)
        cases D with
        | zero =>
          have HRES : Hid (RES = (q.more.fail q.i 41, pv0)) := Lib.hid (by rw [HR.out, valP_zero hnn (by rw [← HQ.out]; exact hc), ← HQ.out])
          clear hC hF hT hs hbg he hnn hc
          go_enter Tryz.func17, Tryz.ntmps17
          go_wp2_with fail
          rw [← HW0.out]
          refine HSK.out.mono ?_
          rintro e w1 ⟨rfl, hp1, hf1⟩
          have HPS1 := Lib.hid hp1
          have HK1 := Lib.hid (HK0.out.fr hf1 (by have := HN.out; omega))
          have HF1 : Hid (Fr (· = B) w w1) := Lib.hid ((Fr.of_below HB0.out).trans hf1)
          have HS1 : Hid (W0.heap.size ≤ w1.heap.size) := Lib.hid hf1.size
          clear hp1 hf1
          have ce : w1.cell? ⟨B, 3, none⟩ = some (.int .i64 q.e) := HPS1.out.blk.cell 3
          have q0 : (q.e != 0) = false := by rw [HE.out]; rfl
          go_wp2_with fail
          refine (HBG.out w1 HPS1.out).mono ?_
          rintro e w2 ⟨rfl, hb2⟩
          rw [HB.out]
          have HPS2 := Lib.hid (HPS1.out.below hb2)
          have HK2 := Lib.hid (HK1.out.below hb2 HK1.out.lt)
          have HF2 := Lib.hid (HF1.out.below hb2)
          have HS2 : Hid (W0.heap.size ≤ w2.heap.size) := Lib.hid (Nat.le_trans HS1.out hb2.size)
          clear hb2 ce
          have cc : w2.cell? ⟨B, 2, none⟩ = some (.int .i64 q.c) := HPS2.out.blk.cell 2
          have fc : w2.frozen? ⟨B, 2, none⟩ = false := HPS2.out.blk.frozen 2
          obtain ⟨w3, hw3⟩ : ∃ w3, w3 = w2.setCell ⟨B, 2, none⟩ (.int .i64 ((q.c : Int) + 1)) := ⟨_, rfl⟩
          have hf23 : Fr (· = B) w2 w3 := by rw [hw3]; exact frB
          have hbk : Blk w3 B 45 #[.string s, .int .i64 q.i, .int .i64 ((q.c : Int) + 1), .int .i64 q.e] := by
            rw [hw3]
            have := HPS2.out.blk.set_ 2 (.int .i64 ((q.c : Int) + 1))
            simpa using this
          have HBK := Lib.hid hbk
          have HK3 := Lib.hid (HK2.out.fr hf23 (by have := HN.out; omega))
          have HF3 := Lib.hid (HF2.out.trans hf23)
          have HF23 := Lib.hid hf23
          have HW3 := Lib.hid hw3
          have c3 : w3.cell? ⟨B, 2, none⟩ = some (.int .i64 ((q.c : Int) + 1)) := hbk.cell 2
          have ci : w3.cell? ⟨B, 1, none⟩ = some (.int .i64 q.i) := hbk.cell 1
          rw [hw3] at c3 ci
          clear hf23 hbk hw3
          have hw1 : IntKind.i64.wrap ((q.c : Int) + 1) = (q.c : Int) + 1 := IntWalk.i64_in _ (by have := HC.out; omega)
          have hgt : decide ((q.c : Int) + 1 > 4096) = false := decide_eq_false (by have := HC.out; omega)
          have HPS3 : Hid (PSt W B s w3 q.more) := Lib.hid (HPS2.out.set (p' := q.more) HBK.out HF23.out HPS2.out.no HPS2.out.ok HQI.out ⟨by have := HC.out; show q.c + 1 ≤ 4097; omega, fun _ => by have := HC.out; show q.c + 1 ≤ 4096; omega⟩ HPS2.out.pe)
          go_wp2_with fail
          rw [← HW3.out]
          refine (HFAIL.out w3 q.more 41 (by omega) HPS3.out).mono ?_
          rintro e w4 ⟨rfl, hp4, hf4⟩
          have HPS4 := Lib.hid hp4
          have HK4 := Lib.hid (HK3.out.fr hf4 (by have := HN.out; omega))
          have HF4 := Lib.hid (HF3.out.trans hf4)
          clear hp4 hf4 ci
          have y0 : w4.cell? ⟨w.heap.size, 0, none⟩ = some (.int .i64 0) := HK4.out.cell 0
          have z0 : w4.frozen? ⟨w.heap.size, 0, none⟩ = false := HK4.out.frozen 0
          have y1 : w4.cell? ⟨w.heap.size, 1, none⟩ = some (.int .i64 0) := HK4.out.cell 1
          have z1 : w4.frozen? ⟨w.heap.size, 1, none⟩ = false := HK4.out.frozen 1
          have y2 : w4.cell? ⟨w.heap.size, 2, none⟩ = some (.string ⟨#[]⟩) := HK4.out.cell 2
          have z2 : w4.frozen? ⟨w.heap.size, 2, none⟩ = false := HK4.out.frozen 2
          have y3 : w4.cell? ⟨w.heap.size, 3, none⟩ = some (.slice none 0 0) := HK4.out.cell 3
          have z3 : w4.frozen? ⟨w.heap.size, 3, none⟩ = false := HK4.out.frozen 3
          have y4 : w4.cell? ⟨w.heap.size, 4, none⟩ = some (.slice none 0 0) := HK4.out.cell 4
          have z4 : w4.frozen? ⟨w.heap.size, 4, none⟩ = false := HK4.out.frozen 4
          have HFK := Lib.hid (((((HK4.out.set_ 0 (.int .i64 0)).set_ 1 (.int .i64 0)).set_ 2 (.string ⟨#[]⟩)).set_ 3 (.slice none 0 0)).set_ 4 (.slice none 0 0))
          go_wp2
          have k0 := HFK.out.cell 0
          have k1 := HFK.out.cell 1
          have k2 := HFK.out.cell 2
          have k3 := HFK.out.cell 3
          have k4 := HFK.out.cell 4
          simp at k0 k1 k2 k3 k4
          refine bodyPost_ret (v := (fl 0 0 ⟨#[]⟩).val) (by rw [fl_val]; simp [results, Tryz.results17, go_sem, k0, k1, k2, k3, k4]) rfl ?_
          rw [HRES.out]
          exact val_end (R := w.heap.size) (base := w.heap.size + 1) HPS4.out (fl_own _ _ rfl rfl) rfl fr_put5 HF4.out (by have := HN.out; omega)
        | succ d =>
          have HRES : Hid (RES = ((readP (valP d) q.more).1.skip, (readP (valP d) q.more).2)) := Lib.hid (by rw [HR.out, valP_succ hnn (by rw [← HQ.out]; exact hc), ← HQ.out])
          have hVC := hC d rfl
          have HRD : Hid (∀ V, PSt W B s V q.more → Calls Tryz.prog 28 #[.pointer (some ⟨B, 0, none⟩), .int .i64 ((d + 1 : Nat) : Int)] V fun e w' => PF (ValP W B s (readP (valP d) q.more) V) e w') := Lib.hid (fun V hV => read_any d hVC hF hT hV hs he hbg _ (by rw [IntWalk.i64_in _ (by omega)]; omega))
          clear hC hVC hF hT hs hbg he hnn hc
          go_enter Tryz.func17, Tryz.ntmps17
          go_wp2_with fail
          rw [← HW0.out]
          refine HSK.out.mono ?_
          rintro e w1 ⟨rfl, hp1, hf1⟩
          have HPS1 := Lib.hid hp1
          have HK1 := Lib.hid (HK0.out.fr hf1 (by have := HN.out; omega))
          have HF1 : Hid (Fr (· = B) w w1) := Lib.hid ((Fr.of_below HB0.out).trans hf1)
          have HS1 : Hid (W0.heap.size ≤ w1.heap.size) := Lib.hid hf1.size
          clear hp1 hf1
          have ce : w1.cell? ⟨B, 3, none⟩ = some (.int .i64 q.e) := HPS1.out.blk.cell 3
          have q0 : (q.e != 0) = false := by rw [HE.out]; rfl
          go_wp2_with fail
          refine (HBG.out w1 HPS1.out).mono ?_
          rintro e w2 ⟨rfl, hb2⟩
          rw [HB.out]
          have HPS2 := Lib.hid (HPS1.out.below hb2)
          have HK2 := Lib.hid (HK1.out.below hb2 HK1.out.lt)
          have HF2 := Lib.hid (HF1.out.below hb2)
          have HS2 : Hid (W0.heap.size ≤ w2.heap.size) := Lib.hid (Nat.le_trans HS1.out hb2.size)
          clear hb2 ce
          have cc : w2.cell? ⟨B, 2, none⟩ = some (.int .i64 q.c) := HPS2.out.blk.cell 2
          have fc : w2.frozen? ⟨B, 2, none⟩ = false := HPS2.out.blk.frozen 2
          obtain ⟨w3, hw3⟩ : ∃ w3, w3 = w2.setCell ⟨B, 2, none⟩ (.int .i64 ((q.c : Int) + 1)) := ⟨_, rfl⟩
          have hf23 : Fr (· = B) w2 w3 := by rw [hw3]; exact frB
          have hbk : Blk w3 B 45 #[.string s, .int .i64 q.i, .int .i64 ((q.c : Int) + 1), .int .i64 q.e] := by
            rw [hw3]
            have := HPS2.out.blk.set_ 2 (.int .i64 ((q.c : Int) + 1))
            simpa using this
          have HBK := Lib.hid hbk
          have HK3 := Lib.hid (HK2.out.fr hf23 (by have := HN.out; omega))
          have HF3 := Lib.hid (HF2.out.trans hf23)
          have HF23 := Lib.hid hf23
          have HW3 := Lib.hid hw3
          have c3 : w3.cell? ⟨B, 2, none⟩ = some (.int .i64 ((q.c : Int) + 1)) := hbk.cell 2
          have ci : w3.cell? ⟨B, 1, none⟩ = some (.int .i64 q.i) := hbk.cell 1
          rw [hw3] at c3 ci
          clear hf23 hbk hw3
          have hw1 : IntKind.i64.wrap ((q.c : Int) + 1) = (q.c : Int) + 1 := IntWalk.i64_in _ (by have := HC.out; omega)
          have hgt : decide ((q.c : Int) + 1 > 4096) = false := decide_eq_false (by have := HC.out; omega)
          have hdz : (((d + 1 : Nat) : Int) == 0) = false := by rw [beq_eq_false_iff_ne]; omega
          have HPS3 : Hid (PSt W B s w3 q.more) := Lib.hid (HPS2.out.set (p' := q.more) HBK.out HF23.out HPS2.out.no HPS2.out.ok HQI.out ⟨by have := HC.out; show q.c + 1 ≤ 4097; omega, fun _ => by have := HC.out; show q.c + 1 ≤ 4096; omega⟩ HPS2.out.pe)
          go_wp2_with fail
          rw [← HW3.out]
          refine (HRD.out w3 HPS3.out).mono ?_
          rintro e w4 ⟨v, rfl, hpv, hvo, hp4, hf4⟩
          unfold MV.val
          have HPV := Lib.hid hpv
          have HVO : Hid (VOwn (w.heap.size + 1) w4 v) := Lib.hid (vown_le hvo (by have := HK3.out.lt; omega))
          have HPS4 := Lib.hid hp4
          have HK4 := Lib.hid (HK3.out.fr hf4 (by have := HN.out; omega))
          have HF4 := Lib.hid (HF3.out.trans hf4)
          clear hpv hvo hp4 hf4 ci c3 cc fc hw1 hgt q0 hdz
          obtain ⟨X, hX⟩ : ∃ X, X = w4.heap.size := ⟨_, rfl⟩
          obtain ⟨w5, hw5⟩ : ∃ w5, w5 = w4.alloc (.cells #[.int .i64 v.k, .int .i64 v.n, .string v.s, .slice v.lA v.l.length v.lc, .slice v.mA v.m.length v.mc] 25) := ⟨_, rfl⟩
          have hb5 : Below w4.heap.size w4 w5 := by rw [hw5]; exact (Below.refl _ _).alloc (Nat.le_refl _) _
          have HX5 : Hid (Blk w5 X 25 #[.int .i64 v.k, .int .i64 v.n, .string v.s, .slice v.lA v.l.length v.lc, .slice v.mA v.m.length v.mc]) := Lib.hid (by rw [hw5, hX]; exact Blk.new _ _ _)
          have HVO5 := Lib.hid (HVO.out.below hb5)
          have HPS5 := Lib.hid (HPS4.out.below hb5)
          have HK5 := Lib.hid (HK4.out.below hb5 HK4.out.lt)
          have HF5 := Lib.hid (HF4.out.below hb5)
          have HXN : Hid (w.heap.size < X) := Lib.hid (by rw [hX]; exact HK4.out.lt)
          have HW5 := Lib.hid hw5
          have HX := Lib.hid hX
          clear hb5 hw5 hX
          go_wp2_with fail
          rw [← HW5.out, ← HX.out]
          refine (HSKQ.out w5 _ HPS5.out).mono ?_
          rintro e w6 ⟨rfl, hp6, hf6⟩
          have HPS6 := Lib.hid hp6
          have HK6 := Lib.hid (HK5.out.fr hf6 (by have := HN.out; omega))
          have HF6 := Lib.hid (HF5.out.trans hf6)
          have HX6 := Lib.hid (HX5.out.fr hf6 (by have := HN.out; have := HXN.out; omega))
          have HVO6 := Lib.hid (HVO5.out.frB hf6 (fun b e => by have := HN.out; omega))
          clear hp6 hf6
          have x0 : w6.cell? ⟨X, 0, none⟩ = some (.int .i64 v.k) := HX6.out.cell 0
          have x1 : w6.cell? ⟨X, 1, none⟩ = some (.int .i64 v.n) := HX6.out.cell 1
          have x2 : w6.cell? ⟨X, 2, none⟩ = some (.string v.s) := HX6.out.cell 2
          have x3 : w6.cell? ⟨X, 3, none⟩ = some (.slice v.lA v.l.length v.lc) := HX6.out.cell 3
          have x4 : w6.cell? ⟨X, 4, none⟩ = some (.slice v.mA v.m.length v.mc) := HX6.out.cell 4
          have y0 : w6.cell? ⟨w.heap.size, 0, none⟩ = some (.int .i64 0) := HK6.out.cell 0
          have z0 : w6.frozen? ⟨w.heap.size, 0, none⟩ = false := HK6.out.frozen 0
          have y1 : w6.cell? ⟨w.heap.size, 1, none⟩ = some (.int .i64 0) := HK6.out.cell 1
          have z1 : w6.frozen? ⟨w.heap.size, 1, none⟩ = false := HK6.out.frozen 1
          have y2 : w6.cell? ⟨w.heap.size, 2, none⟩ = some (.string ⟨#[]⟩) := HK6.out.cell 2
          have z2 : w6.frozen? ⟨w.heap.size, 2, none⟩ = false := HK6.out.frozen 2
          have y3 : w6.cell? ⟨w.heap.size, 3, none⟩ = some (.slice none 0 0) := HK6.out.cell 3
          have z3 : w6.frozen? ⟨w.heap.size, 3, none⟩ = false := HK6.out.frozen 3
          have y4 : w6.cell? ⟨w.heap.size, 4, none⟩ = some (.slice none 0 0) := HK6.out.cell 4
          have z4 : w6.frozen? ⟨w.heap.size, 4, none⟩ = false := HK6.out.frozen 4
          have HFK := Lib.hid (((((HK6.out.set_ 0 (.int .i64 v.k)).set_ 1 (.int .i64 v.n)).set_ 2 (.string v.s)).set_ 3 (.slice v.lA v.l.length v.lc)).set_ 4 (.slice v.mA v.m.length v.mc))
          go_wp2
          have k0 := HFK.out.cell 0
          have k1 := HFK.out.cell 1
          have k2 := HFK.out.cell 2
          have k3 := HFK.out.cell 3
          have k4 := HFK.out.cell 4
          simp at k0 k1 k2 k3 k4
          refine bodyPost_ret (v := v.val) (by unfold MV.val; simp [results, Tryz.results17, go_sem, k0, k1, k2, k3, k4]) rfl ?_
          rw [HRES.out]
          exact val_end (R := w.heap.size) (base := w.heap.size + 1) HPS6.out HVO6.out HPV.out fr_put5 HF6.out (by have := HN.out; omega)
  · have HE := Lib.hid he
    have HRES : Hid (RES = (q.fail q.i 50, pv0)) := Lib.hid (by rw [HR.out, valP_no (by rw [← HQ.out]; exact .inl he), ← HQ.out])
    clear hC hF hT hs he
    go_enter Tryz.func17, Tryz.ntmps17
    go_wp2_with fail
    rw [← HW0.out]
    refine HSK.out.mono ?_
    rintro e w1 ⟨rfl, hp1, hf1⟩
    have HPS1 := Lib.hid hp1
    have HK1 := Lib.hid (HK0.out.fr hf1 (by have := HN.out; omega))
    have HF1 : Hid (Fr (· = B) w w1) := Lib.hid ((Fr.of_below HB0.out).trans hf1)
    have HS1 : Hid (W0.heap.size ≤ w1.heap.size) := Lib.hid hf1.size
    clear hp1 hf1
    have ce : w1.cell? ⟨B, 3, none⟩ = some (.int .i64 q.e) := HPS1.out.blk.cell 3
    have q0 : (q.e != 0) = true := by rw [bne_iff_ne]; exact HE.out
    have ci : w1.cell? ⟨B, 1, none⟩ = some (.int .i64 q.i) := HPS1.out.blk.cell 1
    go_wp2_with fail
    refine (HFAIL.out w1 q 50 (by omega) HPS1.out).mono ?_
    rintro e w2 ⟨rfl, hp2, hf2⟩
    have HPS2 := Lib.hid hp2
    have HK2 := Lib.hid (HK1.out.fr hf2 (by have := HN.out; omega))
    have HF2 := Lib.hid (HF1.out.trans hf2)
    clear hp2 hf2 ci
    have y0 : w2.cell? ⟨w.heap.size, 0, none⟩ = some (.int .i64 0) := HK2.out.cell 0
    have z0 : w2.frozen? ⟨w.heap.size, 0, none⟩ = false := HK2.out.frozen 0
    have y1 : w2.cell? ⟨w.heap.size, 1, none⟩ = some (.int .i64 0) := HK2.out.cell 1
    have z1 : w2.frozen? ⟨w.heap.size, 1, none⟩ = false := HK2.out.frozen 1
    have y2 : w2.cell? ⟨w.heap.size, 2, none⟩ = some (.string ⟨#[]⟩) := HK2.out.cell 2
    have z2 : w2.frozen? ⟨w.heap.size, 2, none⟩ = false := HK2.out.frozen 2
    have y3 : w2.cell? ⟨w.heap.size, 3, none⟩ = some (.slice none 0 0) := HK2.out.cell 3
    have z3 : w2.frozen? ⟨w.heap.size, 3, none⟩ = false := HK2.out.frozen 3
    have y4 : w2.cell? ⟨w.heap.size, 4, none⟩ = some (.slice none 0 0) := HK2.out.cell 4
    have z4 : w2.frozen? ⟨w.heap.size, 4, none⟩ = false := HK2.out.frozen 4
    have HFK := Lib.hid (((((HK2.out.set_ 0 (.int .i64 0)).set_ 1 (.int .i64 0)).set_ 2 (.string ⟨#[]⟩)).set_ 3 (.slice none 0 0)).set_ 4 (.slice none 0 0))
    go_wp2
    have k0 := HFK.out.cell 0
    have k1 := HFK.out.cell 1
    have k2 := HFK.out.cell 2
    have k3 := HFK.out.cell 3
    have k4 := HFK.out.cell 4
    simp at k0 k1 k2 k3 k4
    refine bodyPost_ret (v := (fl 0 0 ⟨#[]⟩).val) (by rw [fl_val]; simp [results, Tryz.results17, go_sem, k0, k1, k2, k3, k4]) rfl ?_
    rw [HRES.out]
    exact val_end (R := w.heap.size) (base := w.heap.size + 1) HPS2.out (fl_own _ _ rfl rfl) rfl fr_put5 HF2.out (by have := HN.out; omega)
theorem value_any {W : World} {B : Nat} {s : ByteArray} (hs : s.size ≤ 1000000) (hF : FourOk s) (hT : tabV W) : ∀ D, D ≤ 100 → VC W B s D
  | 0, h => value_step 0 h hs hF hT (fun d e => by omega)
  | D + 1, h => value_step (D + 1) h hs hF hT (fun d e => by have : D = d := by omega
                                                             subst this; exact value_any hs hF hT D (by omega))
end Go.Proofs.YteofdpogjnojnaaGreatDoor
