/-
  The document's Large at a role's metadata.
-/
import Derived.Test.YthidjdjcjjbpbaaGreatDoorSeL1
namespace Go.Proofs.YthidjdjcjjbpbaaGreatDoor
open Go.RowKit Sea
set_option linter.unusedVariables false
set_option linter.unusedSimpArgs false

set_option maxRecDepth 100000 in
set_option maxHeartbeats 4000000 in
theorem large16_any (X : Nat → Prop) (t : PM) (a : MA) (w : World) (h : MOk X w t a) : Calls Tryz.prog 18 #[t.val a] w fun e w' => PF (LrP (PMs t) w) e w' := by
  obtain ⟨n1, hn1⟩ : ∃ n, n = t.ts.length := ⟨_, rfl⟩
  obtain ⟨n2, hn2⟩ : ∃ n, n = t.ks.length := ⟨_, rfl⟩
  obtain ⟨n3, hn3⟩ : ∃ n, n = t.ds.length := ⟨_, rfl⟩
  have HD : Hid (n1 ≤ 200 → n2 ≤ 50 → n3 ≤ 30 → (∀ j (hj : j < t.ds.length), PDs t.ds[j]) → PMs t) := Lib.hid (fun h1 h2 h3 h4 => ⟨by omega, by omega, by omega, fun d hd => by
    obtain ⟨j, hj, e⟩ := List.getElem_of_mem hd
    rw [← e]; exact h4 j hj⟩)
  have HN : Hid (t.ds.length = n3) := Lib.hid hn3.symm
  have HV := Lib.hid h
  have hb1 : Below w.heap.size w (w.alloc (.cells #[.int .i64 t.ver, .int .i64 t.exp, .slice a.tA n1 a.tc, .slice a.kA n2 a.kc, .slice a.dA n3 a.dc] 26)) := (Below.refl _ _).alloc (Nat.le_refl _) _
  have hk1 := Blk.new w 26 #[.int .i64 t.ver, .int .i64 t.exp, .slice a.tA n1 a.tc, .slice a.kA n2 a.kc, .slice a.dA n3 a.dc]
  obtain ⟨W1, hW1⟩ : ∃ W1, W1 = (w.alloc (.cells #[.int .i64 t.ver, .int .i64 t.exp, .slice a.tA n1 a.tc, .slice a.kA n2 a.kc, .slice a.dA n3 a.dc] 26)) := ⟨_, rfl⟩
  rw [← hW1] at hb1 hk1
  have HW1 := Lib.hid hW1
  have HB1 := Lib.hid hb1
  have HK1 := Lib.hid hk1
  unfold Sea.PM.val Sea.PM.cs
  rw [← hn1, ← hn2, ← hn3]
  clear h hn1 hn2 hn3 hb1 hk1 hW1
  by_cases hbig : 200 < n1 ∨ 50 < n2 ∨ 30 < n3
  · have hq : ∃ b1 b2 b3 : Bool, decide (200 < n1) = b1 ∧ decide (50 < n2) = b2 ∧ decide (30 < n3) = b3 ∧ decide ((200 : Int) < (n1 : Int)) = b1 ∧ decide ((50 : Int) < (n2 : Int)) = b2 ∧ decide ((30 : Int) < (n3 : Int)) = b3 ∧ (b1 || b2 || b3) = true := by
      refine ⟨_, _, _, rfl, rfl, rfl, ?_, ?_, ?_, ?_⟩
      · rw [decide_eq_decide]; omega
      · rw [decide_eq_decide]; omega
      · rw [decide_eq_decide]; omega
      · simp only [Bool.or_eq_true, decide_eq_true_eq]; omega
    obtain ⟨b1, b2, b3, q1, q2, q3, q1', q2', q3', q4⟩ := hq
    clear hbig
    cases b1 <;> cases b2 <;> cases b3 <;> first
      | (exfalso; revert q4; decide)
      | (clear q4
         go_enter Tryz.func18, Tryz.ntmps18
         go_wp2
         go_ret
         exact ⟨true, rfl, (fun e => by cases e), by rw [← HW1.out]; exact HB1.out⟩)
  · have q1 : decide (200 < n1) = false := decide_eq_false (by omega)
    have q1' : decide ((200 : Int) < (n1 : Int)) = false := by rw [decide_eq_false_iff_not]; omega
    have q2 : decide (50 < n2) = false := decide_eq_false (by omega)
    have q2' : decide ((50 : Int) < (n2 : Int)) = false := by rw [decide_eq_false_iff_not]; omega
    have q3 : decide (30 < n3) = false := decide_eq_false (by omega)
    have q3' : decide ((30 : Int) < (n3 : Int)) = false := by rw [decide_eq_false_iff_not]; omega
    have H0 : Hid (n1 ≤ 200 ∧ n2 ≤ 50 ∧ n3 ≤ 30) := Lib.hid (by omega)
    have hn30 : n3 ≤ 30 := by omega
    clear hbig
    go_enter Tryz.func18, Tryz.ntmps18
    go_wp2
    rw [← HW1.out]
    go_loopw [3] (fun i wr => ∃ k : Nat, k ≤ n3 ∧ i = .int .i64 k ∧ Hid (∀ j (hj : j < t.ds.length), j < k → PDs t.ds[j]) ∧ Hid (Below W1.heap.size W1 wr)) (fun i _ => n3 - (intOf i).toNat)
    case atStart => exact ⟨0, Nat.zero_le _, rfl, Lib.hid (fun j hj h => by omega), Lib.hid (Below.refl _ _)⟩
    case round =>
      obtain ⟨k, hk, rfl, HB, HW⟩ := hrel
      have e4 : wr.cell? ⟨w.heap.size, 4, none⟩ = some (.slice a.dA n3 a.dc) := (HK1.out.below HW.out HK1.out.lt).cell 4
      rcases (by omega : k < n3 ∨ k = n3) with hlt | heq
      · have q5 : decide ((k : Int) < (n3 : Int)) = true := by rw [decide_eq_true_iff]; omega
        have q5' : decide (k < n3) = true := by rw [decide_eq_true_iff]; omega
        have hkl : k < t.ds.length := by rw [HN.out]; exact hlt
        obtain ⟨b, o, hA, hbl, _, hc⟩ := ((HV.out.bel HB1.out).bel HW.out).rd (by omega)
        obtain ⟨da, hcs, hok⟩ := hc k hkl
        have hcc := largeOne_any X t.ds[k] da wr hok
        obtain ⟨d, hd⟩ : ∃ d, d = t.ds[k] := ⟨_, rfl⟩
        rw [← hd] at hcs hcc
        unfold Sea.PD.val Sea.PD.cs at hcc
        rw [hA] at e4
        have d0 : wr.cell? ⟨b, o + k * 6, none⟩ = some (.string d.name) := hcs 0 (by omega)
        have d1 : wr.cell? ⟨b, o + k * 6 + 1, none⟩ = some (.slice da.kA d.rk.length da.kc) := hcs 1 (by omega)
        have d2 : wr.cell? ⟨b, o + k * 6 + 2, none⟩ = some (.int .i64 d.thr) := hcs 2 (by omega)
        have d3 : wr.cell? ⟨b, o + k * 6 + 3, none⟩ = some (.bool d.term) := hcs 3 (by omega)
        have d4 : wr.cell? ⟨b, o + k * 6 + 4, none⟩ = some (.slice da.pA d.paths.length da.pc) := hcs 4 (by omega)
        have d5 : wr.cell? ⟨b, o + k * 6 + 5, none⟩ = some (.slice da.xA d.prefs.length da.xc) := hcs 5 (by omega)
        have HCC := Lib.hid hcc
        have HDD := Lib.hid hd
        have hki : (k : Int) < (n3 : Int) := by omega
        have hk0 : (0 : Int) ≤ (k : Int) := by omega
        clear hcs hok hcc hd hA hbl hc
        go_wp2_with fail
        refine HCC.out.mono ?_
        rintro e w3 ⟨lb, rfl, hp, hb3⟩
        have HP := Lib.hid hp
        have HW3 := Lib.hid (HW.out.trans (hb3.mono HW.out.size))
        clear hp hb3 e4 d0 d1 d2 d3 d4 d5
        cases lb with
        | true =>
          go_wp2
          go_ret
          exact ⟨true, rfl, (fun e => by cases e), HB1.out.trans (HW3.out.mono HB1.out.size)⟩
        | false =>
          go_wp2
          go_roundw
          case rel => exact ⟨k + 1, by omega, by go_num, Lib.hid (fun j hj h => by
            rcases (by omega : j < k ∨ j = k) with h1 | h1
            · exact HB.out j hj h1
            · subst h1; rw [← HDD.out]; first | exact HP.out rfl | exact HP.out trivial | exact HP.out), HW3⟩
          case measure => simp [intOf]; omega
      · have q5 : decide ((k : Int) < (n3 : Int)) = false := by rw [decide_eq_false_iff_not]; omega
        have q5' : decide (k < n3) = false := by rw [decide_eq_false_iff_not]; omega
        have HI : Hid (PMs t) := Lib.hid (HD.out H0.out.1 H0.out.2.1 H0.out.2.2 (fun j hj => HB.out j hj (by rw [HN.out] at hj; omega)))
        clear heq
        go_wp2
        go_ret
        exact ⟨false, rfl, (fun _ => HI.out), HB1.out.trans (HW.out.mono HB1.out.size)⟩
end Go.Proofs.YthidjdjcjjbpbaaGreatDoor
