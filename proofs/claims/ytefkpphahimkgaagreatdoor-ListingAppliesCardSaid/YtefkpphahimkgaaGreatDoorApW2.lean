/-
  listing.fits, listing.Apply.
-/
import Derived.Test.YtefkpphahimkgaaGreatDoorApW1
namespace Go.Proofs.YtefkpphahimkgaaGreatDoor
open Go.RowKit
open Go.ChangeMaps (setBlock heap_setBlock_same heap_setBlock_other)
attribute [local go_sem ↓] Go.wp_at_zero Go.wp_at_succ
set_option linter.unusedVariables false
set_option linter.unusedSimpArgs false

theorem chOk_1 {hs : HL} {c : CE} (h : ¬ 0 ≤ c.fr) : chOk hs c = false := by unfold chOk; rw [decide_eq_false h]; rfl
theorem chOk_2 {hs : HL} {c : CE} (h : ¬ 0 ≤ c.to) : chOk hs c = false := by unfold chOk; rw [decide_eq_false h]; simp
theorem chOk_3 {hs : HL} {c : CE} (h : c.fr = c.to) : chOk hs c = false := by unfold chOk; rw [h]; simp
theorem chOk_4 {hs : HL} {c : CE} (h1 : 0 ≤ c.fr) (h2 : 0 ≤ c.to) (h3 : ¬ c.fr = c.to) : chOk hs c = decide (haveH hs c.name = c.fr) := by
  unfold chOk
  rw [decide_eq_true h1, decide_eq_true h2, decide_eq_true h3]
  rfl
set_option maxRecDepth 100000 in
set_option maxHeartbeats 2000000 in
theorem chfits_any {w : World} {M : Nat} {hs : HL} (h : HM w M hs) (c : CE) (hsz : c.name.size ≤ maxLen) : Calls Tryz.prog 58 #[.map (some M), c.val] w fun e w' => BoP (chOk hs c) w e w' := by
  have hb1 : Below w.heap.size w (w.alloc (.cells #[.string c.name, .int .i64 c.fr, .int .i64 c.to] 94)) := (Below.refl _ _).alloc (Nat.le_refl _) _
  have lk := (h.below hb1).look1 c.name hsz
  have HB1 := Lib.hid hb1
  obtain ⟨r, hr⟩ : ∃ r, r = chOk hs c := ⟨_, rfl⟩
  rw [← hr]
  obtain ⟨y, hy⟩ : ∃ y, y = haveH hs c.name := ⟨_, rfl⟩
  unfold haveH at hy
  rw [← hy] at lk
  clear h hb1
  unfold CE.val
  by_cases h1 : 0 ≤ c.fr
  rotate_left
  · have HR : Hid (r = false) := Lib.hid (by rw [hr, chOk_1 h1])
    have d1 : decide (c.fr ≥ 0) = false := decide_eq_false h1
    have d2 : decide (0 ≤ c.fr) = false := decide_eq_false h1
    clear hr hy h1
    go_enter Tryz.func58, Tryz.ntmps58
    go_wp2
    refine bodyPost_ret (v := .bool false) (by simp [results, Tryz.results58, go_sem]) rfl ?_
    exact ⟨by rw [HR.out], HB1.out⟩
  have d1 : decide (c.fr ≥ 0) = true := decide_eq_true h1
  have d2 : decide (0 ≤ c.fr) = true := decide_eq_true h1
  by_cases h2 : 0 ≤ c.to
  rotate_left
  · have HR : Hid (r = false) := Lib.hid (by rw [hr, chOk_2 h2])
    have d3 : decide (c.to ≥ 0) = false := decide_eq_false h2
    have d4 : decide (0 ≤ c.to) = false := decide_eq_false h2
    clear hr hy h1 h2
    go_enter Tryz.func58, Tryz.ntmps58
    go_wp2
    refine bodyPost_ret (v := .bool false) (by simp [results, Tryz.results58, go_sem]) rfl ?_
    exact ⟨by rw [HR.out], HB1.out⟩
  have d3 : decide (c.to ≥ 0) = true := decide_eq_true h2
  have d4 : decide (0 ≤ c.to) = true := decide_eq_true h2
  by_cases h3 : c.fr = c.to
  · have HR : Hid (r = false) := Lib.hid (by rw [hr, chOk_3 h3])
    have d5 : (c.fr != c.to) = false := by rw [bne_eq_false_iff_eq]; exact h3
    clear hr hy h1 h2 h3
    go_enter Tryz.func58, Tryz.ntmps58
    go_wp2
    refine bodyPost_ret (v := .bool false) (by simp [results, Tryz.results58, go_sem]) rfl ?_
    exact ⟨by rw [HR.out], HB1.out⟩
  have d5 : (c.fr != c.to) = true := bne_iff_ne.2 h3
  cases hd : decide (y = c.fr) with
  | true =>
    have HR : Hid (r = true) := Lib.hid (by rw [hr, chOk_4 h1 h2 h3]; unfold haveH; rw [← hy]; exact hd)
    have d6 : (y == c.fr) = true := beq_iff_eq.2 (of_decide_eq_true hd)
    clear hr hy h1 h2 h3 hd
    go_enter Tryz.func58, Tryz.ntmps58
    go_wp2
    refine bodyPost_ret (v := .bool true) (by simp [results, Tryz.results58, go_sem]) rfl ?_
    exact ⟨by rw [HR.out], HB1.out⟩
  | false =>
    have HR : Hid (r = false) := Lib.hid (by rw [hr, chOk_4 h1 h2 h3]; unfold haveH; rw [← hy]; exact hd)
    have d6 : (y == c.fr) = false := beq_eq_false_iff_ne.2 (of_decide_eq_false hd)
    clear hr hy h1 h2 h3 hd
    go_enter Tryz.func58, Tryz.ntmps58
    go_wp2
    refine bodyPost_ret (v := .bool false) (by simp [results, Tryz.results58, go_sem]) rfl ?_
    exact ⟨by rw [HR.out], HB1.out⟩
/-- a map, or the error -/
def AppP (o : Option HL) (w : World) (e : Ending) (w' : World) : Prop := match o with
  | some hs => ∃ M, e = .returned (.tuple #[.map (some M), .int .i64 0]) ∧ w.heap.size ≤ M ∧ HM w' M hs ∧ Below w.heap.size w w'
  | none => e = .returned (.tuple #[.map none, .int .i64 191]) ∧ Below w.heap.size w w'
set_option maxRecDepth 100000 in
set_option maxHeartbeats 8000000 in
theorem apply_any {w : World} (v e0 : Int) {A : Option Addr} {c : Nat} {l : List ME} (h : MAt w A c l) (hl : l.length ≤ 1000) {A2 : Option Addr} {c2 : Nat} {L : List CE} (h2 : CAt w A2 c2 L) (hL : L.length ≤ 1000) :
    Calls Tryz.prog 21 #[.agg #[.int .i64 v, .int .i64 e0, .slice A l.length c], .slice A2 L.length c2] w fun e w' => PFb (AppP (applyL (versL l) L) w) e w' := by
  obtain ⟨n, hn⟩ : ∃ n, n = L.length := ⟨_, rfl⟩
  obtain ⟨N, hN⟩ : ∃ N, N = l.length := ⟨_, rfl⟩
  obtain ⟨W1, hW1⟩ : ∃ W1, W1 = (w.alloc (.cells #[.int .i64 v, .int .i64 e0, .slice A N c] 24)) := ⟨_, rfl⟩
  have hb1 : Below w.heap.size w W1 := by rw [hW1]; exact (Below.refl _ _).alloc (Nat.le_refl _) _
  have hk1 : Blk W1 w.heap.size 24 #[.int .i64 v, .int .i64 e0, .slice A N c] := by rw [hW1]; exact Blk.new _ _ _
  have hve := versions_any v e0 (h.bel hb1) hl
  rw [← hN] at hve
  have HVE := Lib.hid hve
  have hnI : (n : Int) ≤ 1000 := by omega
  have HK1 := Lib.hid hk1
  have HF := Lib.hid h2
  have HN := Lib.hid hn
  have HW := Lib.hid hW1
  have HB1 := Lib.hid hb1
  obtain ⟨R, hR⟩ : ∃ R, R = applyL (versL l) L := ⟨_, rfl⟩
  have HR := Lib.hid hR
  rw [← hn, ← hN, ← hR]
  have b0 := HK1.out.cell 0
  have b1 := HK1.out.cell 1
  have b2 := HK1.out.cell 2
  simp only [List.getElem?_toArray, List.getElem?_cons_zero, List.getElem?_cons_succ] at b0 b1 b2
  clear hb1 hk1 h hn hW1 hl hve h2 hL hN hR
  go_enter Tryz.func21, Tryz.ntmps21
  go_upto_region 1 with (fail)
  rw [← HW.out]
  go_wp2_with fail
  refine HVE.out.mono ?_
  rintro e W3 ⟨M, rfl, hM, hm, hb3⟩
  have HS0 : Hid (VeS w M (versL l) W3) := Lib.hid ⟨HB1.out.trans (hb3.mono HB1.out.size), hm, Nat.le_trans HB1.out.size hM⟩
  clear hM hm hb3 b0 b1 b2 HVE
  go_wp2
  go_loopw [13] (fun y wr => ∃ (k : Nat) (hs : HL), k ≤ n ∧ y = .int .i64 (k : Int) ∧ Hid (applyL (versL l) (L.take k) = some hs) ∧ Hid (VeS w M hs wr)) (fun y _ => n - (intOf y).toNat)
  case atStart => exact ⟨0, _, Nat.zero_le _, rfl, Lib.hid rfl, HS0⟩
  case round =>
    clear HS0
    obtain ⟨k, hs, hk, rfl, HA, HS⟩ := hrel
    rcases (by omega : k < n ∨ k = n) with hlt | heq
    · have q0 : decide ((k : Int) < (n : Int)) = true := by rw [decide_eq_true_iff]; omega
      have q0' : decide (k < n) = true := by rw [decide_eq_true_iff]; omega
      have hkl : k < L.length := by rw [← HN.out]; exact hlt
      obtain ⟨b, o, hA2, hbl, c0, c1, c2⟩ := (HF.out.bel HS.out.bel).three hkl
      subst hA2
      obtain ⟨m, hmm⟩ : ∃ m, m = L[k] := ⟨_, rfl⟩
      rw [← hmm] at c0 c1 c2
      have hsz : m.name.size ≤ maxLen := by
        have := HF.out.sz m (by rw [hmm]; exact List.getElem_mem hkl)
        unfold maxLen
        omega
      have HSZ := Lib.hid hsz
      have HAN : Hid (applyL (versL l) (L.take (k + 1)) = if chOk hs m then some (chDo hs m) else none) := Lib.hid (by rw [apply_take HA.out hkl, ← hmm])
      obtain ⟨WR, hWR⟩ : ∃ WR, WR = wr.alloc (.cells #[.string m.name, .int .i64 m.fr, .int .i64 m.to] 94) := ⟨_, rfl⟩
      obtain ⟨BC, hBC⟩ : ∃ BC, BC = wr.heap.size := ⟨_, rfl⟩
      have hbr : Below wr.heap.size wr WR := by rw [hWR]; exact (Below.refl _ _).alloc (Nat.le_refl _) _
      have HKC : Hid (Blk WR BC 94 #[.string m.name, .int .i64 m.fr, .int .i64 m.to]) := Lib.hid (by rw [hWR, hBC]; exact Blk.new _ _ _)
      have HSR := Lib.hid (HS.out.below hbr)
      have hft := chfits_any HSR.out.hm m hsz
      unfold CE.val at hft
      have HFT := Lib.hid hft
      have HWR := Lib.hid hWR
      have HBC := Lib.hid hBC
      have e0 := HKC.out.cell 0
      have e1 := HKC.out.cell 1
      have e2 := HKC.out.cell 2
      simp only [List.getElem?_toArray, List.getElem?_cons_zero, List.getElem?_cons_succ] at e0 e1 e2
      have hki : (k : Int) < (n : Int) := by omega
      have hk0 : (0 : Int) ≤ (k : Int) := by omega
      obtain ⟨f, hf⟩ : ∃ f, f = chOk hs m := ⟨_, rfl⟩
      rw [← hf] at HFT HAN
      clear hbl hmm hsz hWR hBC hbr hft HS hf
      go_upto_region 5 with (fail)
      rw [← HBC.out, ← HWR.out]
      clear c0 c1 c2
      go_wp2_with fail
      refine HFT.out.mono ?_
      rintro e w4 ⟨rfl, hb4⟩
      have HS4 := Lib.hid (HSR.out.below hb4)
      have HKC4 := Lib.hid (HKC.out.below hb4 HKC.out.lt)
      clear hb4 e0 e1 e2
      have e0 := HKC4.out.cell 0
      have e1 := HKC4.out.cell 1
      have e2 := HKC4.out.cell 2
      simp only [List.getElem?_toArray, List.getElem?_cons_zero, List.getElem?_cons_succ] at e0 e1 e2
      cases f with
      | false =>
        have HRN : Hid (R = none) := Lib.hid (by rw [HR.out]; exact apply_stop (k := k + 1) (by rw [HAN.out]; rfl))
        go_wp2
        refine bodyPost_ret (v := .tuple #[.map none, .int .i64 191]) (by simp [results, Tryz.results21, go_sem]) rfl ?_
        unfold PFb
        rw [HRN.out]
        exact ⟨rfl, HS4.out.bel⟩
      | true =>
        have HAN2 : Hid (applyL (versL l) (L.take (k + 1)) = some (chDo hs m)) := Lib.hid (by rw [HAN.out]; rfl)
        by_cases hz : m.to = 0
        · have d0 : (m.to == 0) = true := beq_iff_eq.2 hz
          obtain ⟨es', ck', dl, hm'⟩ := HS4.out.hm.del m.name HSZ.out
          have HSX := Lib.hid (HS4.out.set _ hm')
          have HCD : Hid (chDo hs m = dropH hs m.name) := Lib.hid (by unfold chDo; rw [if_pos hz])
          clear hm' hz
          go_wp2
          go_roundw
          case rel => exact ⟨k + 1, _, by omega, by go_num, HAN2, Lib.hid (by rw [HCD.out]; exact HSX.out)⟩
          case measure => simp [intOf]; omega
        · have d0 : (m.to == 0) = false := beq_eq_false_iff_ne.2 hz
          obtain ⟨es', ck', pt, hm'⟩ := HS4.out.hm.put m.name HSZ.out m.to
          have HSX := Lib.hid (HS4.out.set _ hm')
          have HCD : Hid (chDo hs m = dropH hs m.name ++ [(m.name, m.to)]) := Lib.hid (by unfold chDo; rw [if_neg hz])
          clear hm' hz
          go_wp2
          go_roundw
          case rel => exact ⟨k + 1, _, by omega, by go_num, HAN2, Lib.hid (by rw [HCD.out]; exact HSX.out)⟩
          case measure => simp [intOf]; omega
    · have q0 : decide ((k : Int) < (n : Int)) = false := by rw [decide_eq_false_iff_not]; omega
      have q0' : decide (k < n) = false := by rw [decide_eq_false_iff_not]; omega
      have HE : Hid (R = some hs) := Lib.hid (by rw [HR.out, ← HA.out, heq, HN.out, List.take_length])
      clear heq
      go_wp2
      refine bodyPost_ret (v := .tuple #[.map (some M), .int .i64 0]) (by simp [results, Tryz.results21, go_sem]) rfl ?_
      unfold PFb
      rw [HE.out]
      exact ⟨M, rfl, HS.out.hM, HS.out.hm, HS.out.bel⟩
end Go.Proofs.YtefkpphahimkgaaGreatDoor
