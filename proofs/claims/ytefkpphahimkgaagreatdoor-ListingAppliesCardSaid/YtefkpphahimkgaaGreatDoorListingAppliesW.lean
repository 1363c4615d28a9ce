/-
  The law ListingApplies: its walk.
-/
import Derived.Test.YtefkpphahimkgaaGreatDoorApD2
import Derived.Test.YtefkpphahimkgaaGreatDoorLiL2
namespace Go.Proofs.YtefkpphahimkgaaGreatDoor
open Go.RowKit
attribute [local go_sem ↓] Go.wp_at_zero Go.wp_at_succ
set_option linter.unusedVariables false
set_option linter.unusedSimpArgs false

theorem HM.sz {w : World} {M : Nat} {hs : HL} (h : HM w M hs) : ∀ p ∈ hs, p.1.size ≤ maxLen := fun p hp => by
  obtain ⟨⟨es, clock, _, _, he, hf, _⟩, _⟩ := h
  obtain ⟨x, hx, hk⟩ := hf p hp
  obtain ⟨s, n, hs', hk2, _⟩ := he x hx
  rw [hk] at hk2
  injection hk2 with hk2
  rw [hk2]
  exact hs'
theorem HM.len' {w : World} {M : Nat} {hs : HL} (h : HM w M hs) (m : Nat) (hm : m = hs.length) : ∀ ty, (Builtin.len_ #[49] ty #[.map (some M)]).run Tryz.prog w = .ok (.int .i64 (m : Int)) w := fun ty => by
  rw [hm]
  exact h.len ty
set_option maxRecDepth 100000 in
set_option maxHeartbeats 16000000 in
theorem listingApplies_walk (v e0 : Int) (A : Option Addr) (n c : Nat) (l : List ME) (A2 : Option Addr) (n2 c2 : Nat) (L : List CE) (w : World) (ht : tabL w)
    (h : MAt w A c l) (hn : l.length = n) (h2 : CAt w A2 c2 L) (hn2 : L.length = n2) :
    Calls Tryz.prog 6 #[.agg #[.int .i64 v, .int .i64 e0, .slice A n c], .slice A2 n2 c2] w fun e w' => e = .returned (.bool true) ∧ Below w.heap.size w w' := by
  obtain ⟨W1, hW1⟩ : ∃ W1, W1 = w.alloc (.cells #[.int .i64 v, .int .i64 e0, .slice A n c] 24) := ⟨_, rfl⟩
  have hb1 : Below w.heap.size w W1 := by rw [hW1]; exact (Below.refl _ _).alloc (Nat.le_refl _) _
  have hk1 : Blk W1 w.heap.size 24 #[.int .i64 v, .int .i64 e0, .slice A n c] := by rw [hW1]; exact Blk.new _ _ _
  have HCE : Hid (∀ V, Below W1.heap.size W1 V → V.cell? ⟨w.heap.size, 0, none⟩ = some (.int .i64 v) ∧ V.cell? ⟨w.heap.size, 1, none⟩ = some (.int .i64 e0) ∧ V.cell? ⟨w.heap.size, 2, none⟩ = some (.slice A n c)) := Lib.hid (fun V hV => three_cells (hk1.below hV hk1.lt))
  have HTA := Lib.hid (fun V hV => (ht.below hb1).below (w' := V) hV)
  have HM1 := Lib.hid (fun V hV => (h.bel hb1).bel (w' := V) hV)
  have HM2 := Lib.hid (fun V hV => (h2.bel hb1).bel (w' := V) hV)
  have HW1 := Lib.hid hW1
  have HB1 := Lib.hid hb1
  have HN := Lib.hid hn
  have HN2 := Lib.hid hn2
  have HB := Lib.hid (Below.refl W1.heap.size W1)
  obtain ⟨x0, x1, x2⟩ := HCE.out W1 HB.out
  clear ht h h2 hn hn2 hk1 hb1 hW1
  have hc9 := rLarge15_any v e0 (HM1.out _ HB.out)
  rw [HN.out] at hc9
  rcases Nat.lt_or_ge 200 n with hl | hl
  · rw [decide_eq_true hl] at hc9
    have HC9 := Lib.hid hc9
    clear hc9 hl
    go_enter Tryz.func6, Tryz.ntmps6
    go_upto_region 1 with (fail)
    rw [← HW1.out]
    go_wp2_with fail
    refine HC9.out.mono ?_
    rintro e y1 ⟨rfl, hby⟩
    have HBy := Lib.hid (HB.out.trans (hby.mono HB.out.size))
    clear hby x0 x1 x2
    go_wp2_with fail
    refine (llives_any _ (HTA.out _ HBy.out)).mono ?_
    rintro e y2 ⟨rfl, hby⟩
    have HBz := Lib.hid (HB1.out.trans ((HBy.out.trans (hby.mono HBy.out.size)).mono HB1.out.size))
    clear hby
    go_wp2
    refine bodyPost_ret (v := .bool true) (by simp [results, Tryz.results6, go_sem]) rfl ?_
    exact ⟨rfl, HBz.out⟩
  rw [decide_eq_false (Nat.not_lt.2 hl)] at hc9
  have HC9 := Lib.hid hc9
  have HL := Lib.hid hl
  clear hc9 hl
  rcases Nat.lt_or_ge 200 n2 with hl2 | hl2
  · have d1 : decide ((n2 : Int) > 200) = true := by rw [decide_eq_true_iff]; omega
    have d2 : decide (200 < (n2 : Int)) = true := by rw [decide_eq_true_iff]; omega
    have d3 : decide (200 < n2) = true := decide_eq_true hl2
    clear hl2
    go_enter Tryz.func6, Tryz.ntmps6
    go_upto_region 1 with (fail)
    rw [← HW1.out]
    go_wp2_with fail
    refine HC9.out.mono ?_
    rintro e y1 ⟨rfl, hby⟩
    have HBy := Lib.hid (HB.out.trans (hby.mono HB.out.size))
    clear hby x0 x1 x2
    go_wp2_with fail
    refine (llives_any _ (HTA.out _ HBy.out)).mono ?_
    rintro e y2 ⟨rfl, hby⟩
    have HBz := Lib.hid (HB1.out.trans ((HBy.out.trans (hby.mono HBy.out.size)).mono HB1.out.size))
    clear hby
    go_wp2
    refine bodyPost_ret (v := .bool true) (by simp [results, Tryz.results6, go_sem]) rfl ?_
    exact ⟨rfl, HBz.out⟩
  have d1 : decide ((n2 : Int) > 200) = false := by rw [decide_eq_false_iff_not]; omega
  have d2 : decide (200 < (n2 : Int)) = false := by rw [decide_eq_false_iff_not]; omega
  have d3 : decide (200 < n2) = false := decide_eq_false (by omega)
  have HL2 := Lib.hid hl2
  clear hl2
  obtain ⟨o, ho⟩ : ∃ o, o = applyL (versL l) L := ⟨_, rfl⟩
  have HAP : Hid (∀ V, Below W1.heap.size W1 V → Calls Tryz.prog 21 #[.agg #[.int .i64 v, .int .i64 e0, .slice A n c], .slice A2 n2 c2] V fun e w' => PFb (AppP o V) e w') := Lib.hid (fun V hV => by
    have := apply_any v e0 (HM1.out V hV) (by have := HN.out; have := HL.out; omega) (HM2.out V hV) (by have := HN2.out; have := HL2.out; omega)
    rw [HN.out, HN2.out, ← ho] at this
    exact this)
  have HDA : Hid (∀ V, Below W1.heap.size W1 V → Calls Tryz.prog 22 #[.agg #[.int .i64 v, .int .i64 e0, .slice A n c], .slice A2 n2 c2] V fun e w' => PFb (DapP o V) e w') := Lib.hid (fun V hV => by
    have := rapply_any v e0 (HM1.out V hV) (by have := HN.out; have := HL.out; omega) (HM2.out V hV) (by have := HN2.out; have := HL2.out; omega)
    rw [HN.out, HN2.out, ← ho] at this
    exact this)
  clear ho
  go_enter Tryz.func6, Tryz.ntmps6
  go_upto_region 1 with (fail)
  rw [← HW1.out]
  go_wp2_with fail
  refine HC9.out.mono ?_
  rintro e y1 ⟨rfl, hby⟩
  have HBy := Lib.hid (HB.out.trans (hby.mono HB.out.size))
  clear hby x0 x1 x2
  obtain ⟨x0, x1, x2⟩ := HCE.out y1 HBy.out
  cases o with
  | none =>
    go_wp2_with fail
    refine (HAP.out y1 HBy.out).mono ?_
    rintro e y2 ⟨rfl, hb2⟩
    have HB2 := Lib.hid (HBy.out.trans (hb2.mono HBy.out.size))
    clear hb2 x0 x1 x2
    obtain ⟨x0, x1, x2⟩ := HCE.out y2 HB2.out
    go_wp2_with fail
    refine (HDA.out y2 HB2.out).mono ?_
    rintro e y3 ⟨rfl, hb3⟩
    have HB3 := Lib.hid (HB2.out.trans (hb3.mono HB2.out.size))
    clear hb3 x0 x1 x2
    go_wp2_with fail
    refine (llives_any _ (HTA.out _ HB3.out)).mono ?_
    rintro e y4 ⟨rfl, hb4⟩
    have HB4 := Lib.hid (HB1.out.trans ((HB3.out.trans (hb4.mono HB3.out.size)).mono HB1.out.size))
    clear hb4
    go_wp2
    go_loopw [9] (fun y wr => y = .int .i64 0 ∧ wr = y4) (fun _ _ => 0)
    case atStart => exact ⟨rfl, rfl⟩
    case round =>
      obtain ⟨rfl, rfl⟩ := hrel
      go_wp2
      refine bodyPost_ret (v := .bool true) (by simp [results, Tryz.results6, go_sem]) rfl ?_
      exact ⟨rfl, HB4.out⟩
  | some hs =>
    go_wp2_with fail
    refine (HAP.out y1 HBy.out).mono ?_
    rintro e y2 ⟨M, rfl, hM, hm, hb2⟩
    have HB2 := Lib.hid (HBy.out.trans (hb2.mono HBy.out.size))
    have HMM := Lib.hid hm
    clear hb2 x0 x1 x2 hM hm
    obtain ⟨x0, x1, x2⟩ := HCE.out y2 HB2.out
    go_wp2_with fail
    refine (HDA.out y2 HB2.out).mono ?_
    rintro e y3 ⟨rv, rfl, hrv, hb3⟩
    have HB3 := Lib.hid (HB2.out.trans (hb3.mono HB2.out.size))
    have HMM3 := Lib.hid (HMM.out.below hb3)
    obtain ⟨A6, c6, rfl, hle6, hm6, _⟩ := hrv.open_
    obtain ⟨m, hmm⟩ : ∃ m, m = hs.length := ⟨_, rfl⟩
    have hmB : (m : Int) ≤ 9223372036854775807 := by unfold maxLen at hm6; omega
    rw [← hmm] at hrv ⊢
    have HRV := Lib.hid hrv
    have HME := Lib.hid hmm
    clear hb3 x0 x1 x2 hle6 hm6 hrv hmm
    go_wp2_with fail
    refine (llives_any _ (HTA.out _ HB3.out)).mono ?_
    rintro e y4 ⟨rfl, hb4⟩
    have HB4 := Lib.hid (HB1.out.trans ((HB3.out.trans (hb4.mono HB3.out.size)).mono HB1.out.size))
    have HM4 := Lib.hid (HMM3.out.below hb4)
    have HR4 := Lib.hid (HRV.out.below hb4)
    have ml := HM4.out.len' m HME.out
    clear hb4
    go_wp2
    go_loopw [9] (fun y wr => ∃ (i : Nat), i ≤ m ∧ y = .int .i64 (i : Int) ∧ wr = y4) (fun y _ => m - (intOf y).toNat)
    case atStart => exact ⟨0, Nat.zero_le _, rfl, rfl⟩
    case round =>
      obtain ⟨i, hi, rfl, rfl⟩ := hrel
      have hi0 : (0 : Int) ≤ (i : Int) := by omega
      rcases (by omega : i < m ∨ i = m) with hlt | heq
      · have q0 : decide ((i : Int) < (m : Int)) = true := by rw [decide_eq_true_iff]; omega
        have q0' : decide (i < m) = true := by rw [decide_eq_true_iff]; omega
        have hii : (i : Int) < (m : Int) := by omega
        have hil : i < hs.length := by rw [← HME.out]; exact hlt
        obtain ⟨g, hg, -, -, -, hcl⟩ := HR4.out.two hil
        subst hg
        obtain ⟨g0, g1⟩ := hcl i hil
        obtain ⟨nm, hnm⟩ : ∃ nm, nm = hs[i].1 := ⟨_, rfl⟩
        obtain ⟨nv, hnv⟩ : ∃ nv, nv = hs[i].2 := ⟨_, rfl⟩
        rw [← hnm] at g0
        rw [← hnv] at g1
        have hmem : (nm, nv) ∈ hs := by rw [hnm, hnv]; exact List.getElem_mem hil
        have lk := HM4.out.look nm (HM4.out.sz _ hmem)
        rw [getH_mem HM4.out.nd hmem] at lk
        simp only [Option.getD_some, Option.isSome_some] at lk
        have z1 : (nv != nv) = false := by simp
        clear hcl hnm hnv hmem ml
        go_wp2
        go_roundw
        case rel => exact ⟨i + 1, by omega, by go_num, by first | rfl | trivial⟩
        case measure => simp [intOf]; omega
      · have q0 : decide ((i : Int) < (m : Int)) = false := by rw [decide_eq_false_iff_not]; omega
        have q0' : decide (i < m) = false := by rw [decide_eq_false_iff_not]; omega
        clear heq ml
        go_wp2
        refine bodyPost_ret (v := .bool true) (by simp [results, Tryz.results6, go_sem]) rfl ?_
        exact ⟨rfl, HB4.out⟩
end Go.Proofs.YtefkpphahimkgaaGreatDoor
