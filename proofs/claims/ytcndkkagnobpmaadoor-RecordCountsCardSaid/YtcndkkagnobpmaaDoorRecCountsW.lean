/-
  The walk of the law RecordCounts.
-/
import Derived.Test.YtcndkkagnobpmaaDoorRecLives
namespace Go.Proofs.YtcndkkagnobpmaaDoor
open Go.RowKit
attribute [local go_sem ↓] Go.wp_at_zero Go.wp_at_succ
set_option linter.unusedVariables false

/-- the mark -/
def mkL : List UInt8 := List.replicate 5 0 ++ [7] ++ List.replicate 58 0
/-- the disk while the marks are laid -/
structure MarkAt (w : World) (d s M first n i : Nat) (K : Dk) : Prop where
  disk : DiskAt w d s M i K
  on : K.off = false
  left : K.left < 0
  full : Full K
  len : K.sure.length = n
  mkd : ∀ j, j < i → K.now j = mkL
  zr : ∀ j, i ≤ j → j < n → K.now j = zeros64
theorem mkL_len : mkL.length = 64 := rfl
theorem write_full {K : Dk} {i : Nat} {b : List UInt8} (h : Full K) (hb : b.length = 64) (hon : (K.write i b).off = false) : Full (K.write i b) := by
  intro j hj
  rw [write_len] at hj
  rw [write_now K i b hon]
  split
  · exact hb
  · exact h j hj
theorem write_on_off {K : Dk} (i : Nat) (b : List UInt8) (h : K.off = false) (hl : K.left < 0) : (K.write i b).off = false := by rw [write_off_eq, go_left K hl, h]
theorem MarkAt.next {w w' : World} {d s M first n i : Nat} {K : Dk} (h : MarkAt w d s M first n i K) (hd : DiskAt w' d s M (i + 1) (K.write i mkL)) : MarkAt w' d s M first n (i + 1) (K.write i mkL) := by
  have hon := write_on_off i mkL h.on h.left
  refine ⟨hd, hon, by rw [write_left _ _ _ h.left]; exact h.left, write_full h.full rfl hon, by rw [write_len]; exact h.len, fun j hj => ?_, fun j h1 h2 => ?_⟩
  · rw [write_now K i mkL hon]
    split
    · rfl
    · exact h.mkd j (by omega)
  · rw [write_now K i mkL hon, if_neg (by omega)]
    exact h.zr j (by omega) h2
/-- marks stand around the record -/
def Marks (K : Dk) (first n : Nat) : Prop := ∀ i, (i < first ∨ i = n - 1) → K.now i = mkL
theorem marks_done {w : World} {d s M first half n : Nat} {K : Dk} (hn : n = first + 2 * half + 1) (hh : 2 ≤ half) (h : MarkAt w d s M first n first K) {w' : World} {m : Nat} (hD : DiskAt w' d s M 0 ((K.write (n - 1) mkL).syncK)) :
    RecOn w' d s M first half 0 [] ((K.write (n - 1) mkL).syncK) ∧ ((K.write (n - 1) mkL).syncK).sure.length = n ∧ Marks ((K.write (n - 1) mkL).syncK) first n := by
  have hon := write_on_off (n - 1) mkL h.on h.left
  have hlt : (K.write (n - 1) mkL).left < 0 := by rw [write_left _ _ _ h.left]; exact h.left
  obtain ⟨s1, s2, s3⟩ := syncK_left _ hlt hon
  have hlen : ((K.write (n - 1) mkL).syncK).sure.length = n := by rw [syncK_len, write_len]; exact h.len
  have hnow : ∀ j, j < n → ((K.write (n - 1) mkL).syncK).now j = if j = n - 1 then mkL else K.now j := fun j hj => by
    rw [syncK_now _ (by rw [write_len, h.len]; exact hj), write_now _ _ _ hon]
  have hfull : Full ((K.write (n - 1) mkL).syncK) := by
    intro j hj
    rw [hlen] at hj
    rw [hnow j hj]
    split
    · rfl
    · exact h.full j (by rw [h.len]; exact hj)
  refine ⟨⟨hD, s2, by rw [s1]; exact hlt, hfull, rec_zero (by omega) (fun i hi => ?_), by rw [hlen]; omega, hh⟩, hlen, fun i hi => ?_⟩
  · rw [hnow _ (by omega), if_neg (by omega)]
    exact h.zr _ (by omega) (by omega)
  · rw [hnow i (by omega)]
    split
    · rfl
    · exact h.mkd i (by omega)
set_option maxRecDepth 100000 in
set_option maxHeartbeats 4000000 in
theorem counts_out (A : Option Addr) (n c : Nat) (first half : Int) (W : World) (hK : TabK W) (h : first < 0 ∨ 10 < first ∨ half < 2 ∨ 8 < half) :
    Calls Tryd.prog 4 #[.int .i64 first, .int .i64 half, .slice A n c] W fun e w' => e = .returned (.bool true) ∧ Below W.heap.size W w' := by
  have HL := Lib.hid (rlives_any W hK)
  clear hK
  by_cases h1 : first < 0
  · have e1 : decide (first < 0) = true := by rw [decide_eq_true_iff]; exact h1
    clear h h1
    go_enter Tryd.func4, Tryd.ntmps4
    go_wp2_with fail
    refine HL.out.mono ?_
    rintro e w1 ⟨rfl, hb1⟩
    go_wp2
    go_ret
    exact ⟨rfl, hb1⟩
  have e1 : decide (first < 0) = false := by rw [decide_eq_false_iff_not]; exact h1
  by_cases h2 : 10 < first
  · have e2 : decide (10 < first) = true := by rw [decide_eq_true_iff]; exact h2
    clear h h1 h2
    go_enter Tryd.func4, Tryd.ntmps4
    go_wp2_with fail
    refine HL.out.mono ?_
    rintro e w1 ⟨rfl, hb1⟩
    go_wp2
    go_ret
    exact ⟨rfl, hb1⟩
  have e2 : decide (10 < first) = false := by rw [decide_eq_false_iff_not]; exact h2
  by_cases h3 : half < 2
  · have e3 : decide (half < 2) = true := by rw [decide_eq_true_iff]; exact h3
    clear h h1 h2 h3
    go_enter Tryd.func4, Tryd.ntmps4
    go_wp2_with fail
    refine HL.out.mono ?_
    rintro e w1 ⟨rfl, hb1⟩
    go_wp2
    go_ret
    exact ⟨rfl, hb1⟩
  have e3 : decide (half < 2) = false := by rw [decide_eq_false_iff_not]; exact h3
  have e4 : decide (8 < half) = true := by rw [decide_eq_true_iff]; omega
  clear h h1 h2 h3
  go_enter Tryd.func4, Tryd.ntmps4
  go_wp2_with fail
  refine HL.out.mono ?_
  rintro e w1 ⟨rfl, hb1⟩
  go_wp2
  go_ret
  exact ⟨rfl, hb1⟩
set_option maxRecDepth 100000 in
set_option maxHeartbeats 8000000 in
theorem counts_in (A : Option Addr) (nl c : Nat) (ps : List Pt) (first half : Nat) (W : World) (hK : TabK W) (hps : Pts W A ps) (hpn : ps.length = nl) (hcs : ∀ p ∈ ps, p.l.length ≤ p.c ∧ p.c ≤ maxLen) (h1 : first ≤ 10) (h2 : 2 ≤ half) (h3 : half ≤ 8) (hnl : nl ≤ maxLen) :
    Calls Tryd.prog 4 #[.int .i64 (first : Int), .int .i64 (half : Int), .slice A nl c] W fun e w' => e = .returned (.bool true) ∧ Below W.heap.size W w' := by
  have e1 : decide ((first : Int) < 0) = false := by rw [decide_eq_false_iff_not]; omega
  have e2 : decide (10 < (first : Int)) = false := by rw [decide_eq_false_iff_not]; omega
  have e2' : decide (10 < first) = false := by rw [decide_eq_false_iff_not]; omega
  have e3 : decide ((half : Int) < 2) = false := by rw [decide_eq_false_iff_not]; omega
  have e3' : decide (half < 2) = false := by rw [decide_eq_false_iff_not]; omega
  have e4 : decide (8 < (half : Int)) = false := by rw [decide_eq_false_iff_not]; omega
  have e4' : decide (8 < half) = false := by rw [decide_eq_false_iff_not]; omega
  obtain ⟨n, hn⟩ : ∃ n, n = first + 2 * half + 1 := ⟨_, rfl⟩
  have hni : (first : Int) + 2 * (half : Int) + 1 = (n : Int) := by rw [hn]; simp
  have hnb : n ≤ 27 := by omega
  have HN := Lib.hid (dnew_yes n W (by omega) (by omega))
  have HNN : Hid (n = first + 2 * half + 1) := hn
  have HK := Lib.hid hK
  have HPS := Lib.hid hps
  have HPN := Lib.hid hpn
  have HCS := Lib.hid hcs
  clear hK hps hpn hcs hn
  go_enter Tryd.func4, Tryd.ntmps4
  go_wp2_with fail
  refine HN.out.mono ?_
  rintro e w1 ⟨d, s, M, rfl, g1, g2, g3, hD, hb1⟩
  have HB1 := Lib.hid hb1
  have HD1 := Lib.hid hD
  have HDS : Hid (∀ k, DS d s M k → W.heap.size ≤ k) := Lib.hid (fun k e => by rcases e with rfl | rfl | rfl <;> assumption)
  have HLV := Lib.hid (rlives_any w1 (TabK.below HK.out hb1))
  clear hD hb1 g1 g2 g3
  go_wp2_with fail
  refine HLV.out.mono ?_
  rintro e w2 ⟨rfl, hb2⟩
  have HB2 : Hid (Below W.heap.size W w2) := Lib.hid (HB1.out.trans (hb2.mono HB1.out.size))
  have HD2 := Lib.hid (HD1.out.below hb2)
  clear hb2
  obtain ⟨Q, hQ⟩ : ∃ Q, Q = (Lib.byteCells zeros64).toArray := ⟨_, rfl⟩
  have RM : ∀ w, (Instr.makeSlice 22 (.int .i64 64) (.int .i64 64)).run Tryd.prog w = .ok (.slice (some ⟨w.heap.size, 0, none⟩) 64 64) (w.alloc (.cells Q 5)) := fun w => by
    have := run_make_bytes 64 (by omega) w
    rw [made_zeros] at this
    rw [hQ]
    exact this
  have HQ := Lib.hid hQ
  have q5 := (Blk.new w2 5 Q).cell 5
  have f5 := (Blk.new w2 5 Q).frozen 5
  rw [hQ, show ((Lib.byteCells zeros64).toArray[5]? : Option Value) = some (.int .u8 0) from by rw [List.getElem?_toArray]; rfl, ← hQ] at q5
  clear hQ
  go_wp2
  have hmk : Q.setIfInBounds 5 (.int .u8 7) = (Lib.byteCells mkL).toArray := by rw [HQ.out]; rfl
  have hblk : Blk (w2.alloc (.cells (Q.setIfInBounds 5 (.int .u8 7)) 5)) w2.heap.size 5 (Lib.byteCells mkL).toArray := by
    have := Blk.new w2 5 (Q.setIfInBounds 5 (.int .u8 7))
    rw [hmk] at this ⊢
    exact this
  have hb3 : Below w2.heap.size w2 (w2.alloc (.cells (Q.setIfInBounds 5 (.int .u8 7)) 5)) := (Below.refl _ _).alloc (Nat.le_refl _) _
  have HM0 : Hid (MarkAt (w2.alloc (.cells (Q.setIfInBounds 5 (.int .u8 7)) 5)) d s M first n 0 (Dk.zero n)) := Lib.hid ⟨HD2.out.below hb3, rfl, by show (-1 : Int) < 0; omega, zero_full n, by simp [Dk.zero], fun j hj => by omega, fun j _ hj => zero_now n j hj⟩
  have HBK0 := Lib.hid hblk
  have HB3 : Hid (Below W.heap.size W (w2.alloc (.cells (Q.setIfInBounds 5 (.int .u8 7)) 5))) := Lib.hid (HB2.out.trans (hb3.mono HB2.out.size))
  have HMD : Hid (¬ DS d s M w2.heap.size) := Lib.hid (fun e => by have := HD2.out.lt; rcases e with e | e | e <;> omega)
  have HGE : Hid (W.heap.size ≤ w2.heap.size) := Lib.hid HB2.out.size
  clear hmk hblk hb3 q5 f5
  generalize w2.alloc (.cells (Q.setIfInBounds 5 (.int .u8 7)) 5) = w3 at HM0 HBK0 HB3 ⊢
  clear RM
  go_loopw [11] (fun v wr => ∃ i : Nat, i ≤ first ∧ v = .int .i64 (i : Int) ∧ Hid (∃ K, MarkAt wr d s M first n i K) ∧ Hid (Blk wr w2.heap.size 5 (Lib.byteCells mkL).toArray) ∧ Hid (Below W.heap.size W wr)) (fun v _ => first - (intOf v).toNat)
  case atStart => exact ⟨0, Nat.zero_le _, rfl, Lib.hid ⟨_, HM0.out⟩, HBK0, HB3⟩
  case round =>
    obtain ⟨i, hi, rfl, HM, HBK, HB⟩ := hrel
    clear HM0 HBK0 HB3
    rcases (by omega : i < first ∨ i = first) with hlt | heq
    · have hki : decide ((i : Int) < (first : Int)) = true := by rw [decide_eq_true_iff]; omega
      have hkn : decide (i < first) = true := by rw [decide_eq_true_iff]; omega
      obtain ⟨K, hM⟩ := HM.out
      have HMK := Lib.hid hM
      have HWR := Lib.hid (dwrite_any i (some ⟨w2.heap.size, 0, none⟩) 64 mkL wr hM.disk hM.on (by rw [hM.len]; have := HNN.out; omega) (by omega) (RB.of_blk (t := 5) HBK.out) rfl (by omega) (by omega))
      have HON := Lib.hid (write_on_off i mkL hM.on hM.left)
      clear hM
      go_wp2_with fail
      refine HWR.out.mono ?_
      rintro e w4 ⟨rfl, hd4, hf4⟩
      have HM4 := Lib.hid (HMK.out.next hd4)
      have HBK4 := Lib.hid (HBK.out.fr hf4 HMD.out)
      have HB4 : Hid (Below W.heap.size W w4) := Lib.hid (Fr.below_trans HB.out hf4 HB.out.size HDS.out)
      clear hd4 hf4 HWR
      go_wp2
      go_roundw
      case rel => exact ⟨i + 1, by omega, by go_num, Lib.hid ⟨_, HM4.out⟩, HBK4, HB4⟩
      case measure => simp [intOf]; omega
    · have hki : decide ((i : Int) < (first : Int)) = false := by rw [decide_eq_false_iff_not]; omega
      have hkn : decide (i < first) = false := by rw [decide_eq_false_iff_not]; omega
      obtain ⟨K, hM⟩ := HM.out
      rw [heq] at hM
      have HMK := Lib.hid hM
      have hn1 : (((n - 1 : Nat) : Nat) : Int) = (n : Int) - 1 := by omega
      have HWR := Lib.hid (dwrite_any (n - 1) (some ⟨w2.heap.size, 0, none⟩) 64 mkL wr hM.disk hM.on (by rw [hM.len]; omega) (by omega) (RB.of_blk (t := 5) HBK.out) rfl (by omega) (by omega))
      rw [hn1] at HWR
      have HON := Lib.hid (write_on_off (n - 1) mkL hM.on hM.left)
      clear hM heq hn1
      go_wp2_with fail
      refine HWR.out.mono ?_
      rintro e w4 ⟨rfl, hd4, hf4⟩
      have HBK4 := Lib.hid (HBK.out.fr hf4 HMD.out)
      have HB4 : Hid (Below W.heap.size W w4) := Lib.hid (Fr.below_trans HB.out hf4 HB.out.size HDS.out)
      have HSY := Lib.hid (dsync_any w4 hd4 HON.out)
      clear hd4 hf4 HWR
      go_wp2_with fail
      refine HSY.out.mono ?_
      rintro e w5 ⟨rfl, ⟨m', _, hm', hd5⟩, hf5⟩
      have HBK5 := Lib.hid (HBK4.out.fr hf5 HMD.out)
      have HB5 : Hid (Below W.heap.size W w5) := Lib.hid (Fr.below_trans HB4.out hf5 HB4.out.size HDS.out)
      have hlw : (K.write (n - 1) mkL).left < 0 := by rw [write_left _ _ _ HMK.out.left]; exact HMK.out.left
      have hm0 := hm' (syncK_left _ hlw HON.out).2.1
      subst hm0
      obtain ⟨hro, hlk, hmm⟩ := marks_done (m := 0) HNN.out h2 HMK.out hd5
      generalize (K.write (n - 1) mkL).syncK = K5 at hro hlk hmm
      have HRO := Lib.hid hro
      have HLK := Lib.hid hlk
      have HMM := Lib.hid hmm
      have HTB := Lib.hid (TabK.below HK.out HB5.out)
      have HOP := Lib.hid (open_on (2 * half) w5 HRO.out HTB.out rfl)
      rw [show ((2 * half : Nat) : Int) = 2 * (half : Int) from by simp] at HOP
      clear hro hlk hmm hd5 hf5 hm' hlw HSY HON HMK HM
      go_wp2_with fail
      refine HOP.out.mono ?_
      rintro e w6 ⟨r, rfl, hr, hR, hb6⟩
      have HB6 : Hid (Below W.heap.size W w6) := Lib.hid (HB5.out.trans (hb6.mono HB5.out.size))
      have HBK6 := Lib.hid (HBK5.out.below hb6 HBK5.out.lt)
      have HRO6 := Lib.hid (HRO.out.below hb6)
      have HR6 := Lib.hid hR
      have HRG : Hid (W.heap.size ≤ r) := Lib.hid (Nat.le_trans HB5.out.size hr)
      clear hr hR hb6 HOP HRO HBK5 HBK4 HBK HB HB4 HTB
      go_wp2
      go_loopw [14, 15, 16] (fun a b v wr => ∃ (k num : Nat) (T : List UInt8), k ≤ nl ∧ k ≤ 8 ∧ num ≤ k ∧ T.length ≤ 64 * (half - 1) ∧ a = .int .i64 (num : Int) ∧ b = .string ⟨T.toArray⟩ ∧ v = .int .i64 (k : Int) ∧
        Hid (∃ K, RecOn wr d s M first half num T K ∧ K.sure.length = n ∧ Marks K first n) ∧ Hid (RecAt wr r d first half num T false) ∧ Hid (Blk wr w2.heap.size 5 (Lib.byteCells mkL).toArray) ∧ Hid (Below W.heap.size W wr)) (fun _ _ v _ => 8 - (intOf v).toNat)
      case atStart => exact ⟨0, 0, [], Nat.zero_le _, by omega, by omega, by simp, rfl, rfl, rfl, Lib.hid ⟨_, HRO6.out, HLK.out, HMM.out⟩, HR6, HBK6, HB6⟩
      case round =>
        obtain ⟨k, num, T, hk, hk8, hnk, hT, rfl, rfl, rfl, ⟨K, HROX⟩, HR, HBK, HB⟩ := (by
          obtain ⟨k, num, T, a1, a2, a3, a4, a5, a6, a7, a8, a9⟩ := hrel
          obtain ⟨K, h1⟩ := a8.out
          exact ⟨k, num, T, a1, a2, a3, a4, a5, a6, a7, ⟨K, Lib.hid h1⟩, a9⟩ : ∃ (k num : Nat) (T : List UInt8), k ≤ nl ∧ k ≤ 8 ∧ num ≤ k ∧ T.length ≤ 64 * (half - 1) ∧ u14 = .int .i64 (num : Int) ∧ u15 = .string ⟨T.toArray⟩ ∧ u16 = .int .i64 (k : Int) ∧
            (∃ K, Hid (RecOn wr d s M first half num T K ∧ K.sure.length = n ∧ Marks K first n)) ∧ Hid (RecAt wr r d first half num T false) ∧ Hid (Blk wr w2.heap.size 5 (Lib.byteCells mkL).toArray) ∧ Hid (Below W.heap.size W wr))
        have HRO := Lib.hid HROX.out.1
        have HLK := Lib.hid HROX.out.2.1
        have HMM := Lib.hid HROX.out.2.2
        have HRM : Hid (w2.heap.size ≠ r) := Lib.hid (fun e => by
          obtain ⟨A5, c5, hb5, _⟩ := HR.out
          exact HBK.out.ne_ hb5 (by decide) e)
        clear HROX HRO6 HR6 HBK6 HB6
        rcases (by omega : (k < nl ∧ k < 8) ∨ nl ≤ k ∨ (k < nl ∧ 8 ≤ k)) with ⟨h5, h6⟩ | h5 | ⟨h5, h6⟩
        · have b1 : decide ((k : Int) < (nl : Int)) = true := by rw [decide_eq_true_iff]; omega
          have b1' : decide (k < nl) = true := by rw [decide_eq_true_iff]; omega
          have b2 : decide ((k : Int) < 8) = true := by rw [decide_eq_true_iff]; omega
          have b2' : decide (k < 8) = true := by rw [decide_eq_true_iff]; omega
          have hkp : k < ps.length := by rw [HPN.out]; exact h5
          obtain ⟨ad, rfl, hadb, _, _⟩ := HPS.out.at_ hkp
          obtain ⟨P0, hP0⟩ : ∃ P0, P0 = ps[k].A := ⟨_, rfl⟩
          obtain ⟨c0, hc0⟩ : ∃ c0, c0 = ps[k].c := ⟨_, rfl⟩
          obtain ⟨X, hX⟩ : ∃ X, X = ps[k].l := ⟨_, rfl⟩
          obtain ⟨L, hL⟩ : ∃ L, L = X.length := ⟨_, rfl⟩
          have hXL : X.length = L := hL.symm
          obtain ⟨hXc, hXm⟩ : L ≤ c0 ∧ c0 ≤ maxLen := by
            have := HCS.out _ (List.getElem_mem hkp)
            rw [hL, hX, hc0]
            exact this
          have HPT : Hid (∀ V, Below W.heap.size W V → (True ∧ V.cell? (ad.add k) = some (.slice P0 L c0) ∧ RB V P0 X)) := by
            refine Lib.hid (fun V hb => ?_)
            obtain ⟨ad', e1, _, e3, e4⟩ := (HPS.out.below hb).at_ hkp
            cases e1
            rw [hL, hX, hP0, hc0]
            exact ⟨trivial, e3, e4⟩
          obtain ⟨_, hcell, hX0⟩ := HPT.out wr HB.out
          clear hL hX hP0 hc0 hadb
          have hmi : (64 : Int) * ((half : Int) - 1) = ((64 * (half - 1) : Nat) : Int) := by omega
          rcases Nat.lt_or_ge (64 * (half - 1)) L with hlong | hok
          · clear hmi
            have d1 : decide ((L : Int) ≤ 64 * ((half : Int) - 1)) = false := by rw [decide_eq_false_iff_not]; omega
            have HCO := Lib.hid (rcommit_long P0 L c0 wr HR.out (by omega) (by omega) (by omega) (by unfold maxLen at hXm; omega))
            go_wp2_with fail
            refine HCO.out.mono ?_
            rintro e w7 ⟨rfl, hb7⟩
            have HB7 : Hid (Below W.heap.size W w7) := Lib.hid (HB.out.trans (hb7.mono HB.out.size))
            have HRO7 := Lib.hid (HRO.out.below hb7)
            have HR7 := Lib.hid (HR.out.below hb7)
            have HLK7 := HLK
            have HMM7 := HMM
            have HBK7 := Lib.hid (HBK.out.below hb7 HBK.out.lt)
            obtain ⟨_, hcell7, hrb7⟩ := HPT.out w7 HB7.out
            clear hb7 hrb7 HCO
            have HDT := Lib.hid (TabK.below HK.out HB7.out)
            have HOP := Lib.hid (open_on (2 * half) w7 HRO7.out HDT.out rfl)
            rw [show ((2 * half : Nat) : Int) = 2 * (half : Int) from by simp] at HOP
            go_wp2_with fail
            refine HOP.out.mono ?_
            rintro e w8 ⟨x, rfl, hx, hX, hb8⟩
            have HB8 : Hid (Below W.heap.size W w8) := Lib.hid (HB7.out.trans (hb8.mono HB7.out.size))
            have HRO8 := Lib.hid (HRO7.out.below hb8)
            have HR8 := Lib.hid (HR7.out.below hb8)
            have HX8 := Lib.hid hX
            have HBK8 := Lib.hid (HBK7.out.below hb8 HBK7.out.lt)
            have HNX := Lib.hid (rnumber_any w8 HX8.out)
            have HTX := Lib.hid (rtext_any w8 HX8.out (by omega))
            clear hx hX hb8 HOP HRO7 HR7 HBK7
            go_wp2_with fail
            refine HNX.out.mono ?_
            rintro e w8 ⟨rfl, rfl⟩
            go_wp2_with fail
            refine HTX.out.mono ?_
            rintro e w9 ⟨v, rfl, hv, hb9⟩
            obtain ⟨A9, c9, rfl, _, _, hr9, _⟩ := hv.shape_n rfl
            have RC9 := run_string hr9 _ c9 rfl
            have HB9 : Hid (Below W.heap.size W w9) := Lib.hid (HB8.out.trans (hb9.mono HB8.out.size))
            have HRO9 := Lib.hid (HRO8.out.below hb9)
            have HR9 := Lib.hid (HR8.out.below hb9)
            have HBK9 := Lib.hid (HBK8.out.below hb9 HBK8.out.lt)
            have HNR := Lib.hid (rnumber_any w9 HR9.out)
            have HTR := Lib.hid (rtext_any w9 HR9.out (by omega))
            clear hv hb9 hr9 HRO8 HR8 HBK8 HNX HTX
            go_wp2_with fail
            refine HNR.out.mono ?_
            rintro e w9 ⟨rfl, rfl⟩
            go_wp2_with fail
            refine HTR.out.mono ?_
            rintro e w10 ⟨v, rfl, hv, hb10⟩
            obtain ⟨A10, c10, rfl, _, _, hr10, _⟩ := hv.shape_n rfl
            have RC10 := run_string hr10 _ c10 rfl
            have HB10 : Hid (Below W.heap.size W w10) := Lib.hid (HB9.out.trans (hb10.mono HB9.out.size))
            have HRO10 := Lib.hid (HRO9.out.below hb10)
            have HR10 := Lib.hid (HR9.out.below hb10)
            have HBK10 := Lib.hid (HBK9.out.below hb10 HBK9.out.lt)
            clear hv hb10 hr10 HRO9 HR9 HBK9 HNR HTR
            go_wp2
            go_roundw
            case rel => exact ⟨k + 1, num, T, by omega, by omega, by omega, by omega, by go_num, rfl, by go_num, Lib.hid ⟨_, HRO10.out, HLK7.out, HMM7.out⟩, HR10, HBK10, HB10⟩
            case measure => simp [intOf]; omega
          · clear hmi
            have d1 : decide ((L : Int) ≤ 64 * ((half : Int) - 1)) = true := by rw [decide_eq_true_iff]; omega
            have HCO := Lib.hid (rcommit_on P0 L c0 X wr HRO.out (TabK.below HK.out HB.out) HR.out hX0 hXL hXc (by unfold maxLen at hXm; omega) (by omega) (by omega))
            go_wp2_with fail
            refine HCO.out.mono ?_
            rintro e w7 ⟨rfl, ⟨K7, hO7, hl7, hout⟩, hR7, hf7⟩
            have HB7' : Hid (Below W.heap.size W w7) := Lib.hid (Fr.below_trans HB.out hf7 HB.out.size (fun k e => e.elim (HDS.out k) (fun e => e ▸ HRG.out)))
            have HB7 : Hid (Below W.heap.size W w7.drew) := Lib.hid HB7'.out.drew
            have HRO7 : Hid (RecOn w7.drew d s M first half (num + 1) X K7) := Lib.hid (hO7.below ((Below.refl _ _).drew))
            have HR7 : Hid (RecAt w7.drew r d first half (num + 1) X false) := Lib.hid (hR7.below ((Below.refl _ _).drew))
            have HLK7 : Hid (K7.sure.length = n) := by show _ = _; rw [hl7, HLK.out]
            have HMM7 : Hid (Marks K7 first n) := Lib.hid (fun i hi => by
              have hn' := HNN.out
              rw [hout i (by rw [HLK.out]; omega) (by omega)]
              exact HMM.out i hi)
            have HBK7 : Hid (Blk w7.drew w2.heap.size 5 (Lib.byteCells mkL).toArray) := Lib.hid ((HBK.out.fr hf7 (fun e => e.elim HMD.out HRM.out)).drew)
            obtain ⟨_, hcell7, hrb7⟩ := HPT.out w7 HB7'.out
            have RC7 := run_string (w := w7.drew) hrb7.drew' L c0 hXL
            have HXL2 : X.length ≤ 64 * (half - 1) := by rw [hXL]; omega
            clear hO7 hl7 hout hR7 hf7 hrb7 HCO hXL
            go_wp2
            go_region
            have HDT := Lib.hid (TabK.below HK.out HB7.out)
            have HOP := Lib.hid (open_on (2 * half) w7.drew HRO7.out HDT.out rfl)
            rw [show ((2 * half : Nat) : Int) = 2 * (half : Int) from by simp] at HOP
            go_wp2_with fail
            refine HOP.out.mono ?_
            rintro e w8 ⟨x, rfl, hx, hX, hb8⟩
            have HB8 : Hid (Below W.heap.size W w8) := Lib.hid (HB7.out.trans (hb8.mono HB7.out.size))
            have HRO8 := Lib.hid (HRO7.out.below hb8)
            have HR8 := Lib.hid (HR7.out.below hb8)
            have HX8 := Lib.hid hX
            have HBK8 := Lib.hid (HBK7.out.below hb8 HBK7.out.lt)
            have HNX := Lib.hid (rnumber_any w8 HX8.out)
            have HTX := Lib.hid (rtext_any w8 HX8.out (by omega))
            clear hx hX hb8 HOP HRO7 HR7 HBK7
            go_wp2_with fail
            refine HNX.out.mono ?_
            rintro e w8 ⟨rfl, rfl⟩
            go_wp2_with fail
            refine HTX.out.mono ?_
            rintro e w9 ⟨v, rfl, hv, hb9⟩
            obtain ⟨A9, c9, rfl, _, _, hr9, _⟩ := hv.shape_n rfl
            have RC9 := run_string hr9 _ c9 rfl
            have HB9 : Hid (Below W.heap.size W w9) := Lib.hid (HB8.out.trans (hb9.mono HB8.out.size))
            have HRO9 := Lib.hid (HRO8.out.below hb9)
            have HR9 := Lib.hid (HR8.out.below hb9)
            have HBK9 := Lib.hid (HBK8.out.below hb9 HBK8.out.lt)
            have HNR := Lib.hid (rnumber_any w9 HR9.out)
            have HTR := Lib.hid (rtext_any w9 HR9.out (by omega))
            clear hv hb9 hr9 HRO8 HR8 HBK8 HNX HTX
            go_wp2_with fail
            refine HNR.out.mono ?_
            rintro e w9 ⟨rfl, rfl⟩
            go_wp2_with fail
            refine HTR.out.mono ?_
            rintro e w10 ⟨v, rfl, hv, hb10⟩
            obtain ⟨A10, c10, rfl, _, _, hr10, _⟩ := hv.shape_n rfl
            have RC10 := run_string hr10 _ c10 rfl
            have HB10 : Hid (Below W.heap.size W w10) := Lib.hid (HB9.out.trans (hb10.mono HB9.out.size))
            have HRO10 := Lib.hid (HRO9.out.below hb10)
            have HR10 := Lib.hid (HR9.out.below hb10)
            have HBK10 := Lib.hid (HBK9.out.below hb10 HBK9.out.lt)
            clear hv hb10 hr10 HRO9 HR9 HBK9 HNR HTR
            go_wp2
            go_roundw
            case rel => exact ⟨k + 1, num + 1, X, by omega, by omega, by omega, by omega, by go_num, rfl, by go_num, Lib.hid ⟨_, HRO10.out, HLK7.out, HMM7.out⟩, HR10, HBK10, HB10⟩
            case measure => simp [intOf]; omega
        · have b1 : decide ((k : Int) < (nl : Int)) = false := by rw [decide_eq_false_iff_not]; omega
          have b1' : decide (k < nl) = false := by rw [decide_eq_false_iff_not]; omega
          go_wp2
          obtain ⟨wz, hwz⟩ : ∃ wz, wz = wr := ⟨wr, rfl⟩
          subst hwz
          go_loopw [20] (fun v w11 => ∃ i : Nat, i ≤ n ∧ v = .int .i64 (i : Int) ∧ Hid (Below wz.heap.size wz w11)) (fun v _ => n - (intOf v).toNat)
          case atStart => exact ⟨0, Nat.zero_le _, rfl, Lib.hid (Below.refl _ _)⟩
          case round =>
            obtain ⟨i, hi, rfl, HB11⟩ := hrel
            rcases (by omega : i < n ∨ i = n) with hlt | heq
            · have hki : decide ((i : Int) < (n : Int)) = true := by rw [decide_eq_true_iff]; omega
              have hkn : decide (i < n) = true := by rw [decide_eq_true_iff]; omega
              have HRO11 := Lib.hid (HRO.out.below HB11.out)
              have hn1 := HNN.out
              rcases (by omega : i < first ∨ (first ≤ i ∧ i = n - 1) ∨ (first ≤ i ∧ i ≠ n - 1)) with hc1 | ⟨hc1, hc2⟩ | ⟨hc1, hc2⟩
              · have d1 : decide ((i : Int) < (first : Int)) = true := by rw [decide_eq_true_iff]; omega
                have d1' : decide (i < first) = true := by rw [decide_eq_true_iff]; omega
                have HII : Hid (i < first ∨ i = n - 1) := Lib.hid (.inl hc1)
                clear hn1 hc1
                have HRD := Lib.hid (read_ok i wr (HRO11.out.disk) HRO11.out.on (by rw [HLK.out]; exact hlt))
                clear HRO11
                go_wp2_with fail
                refine HRD.out.mono ?_
                rintro e w12 ⟨A12, c12, rfl, p1, p2, p3, p4, p5⟩
                have HB12 : Hid (Below wz.heap.size wz w12) := Lib.hid (HB11.out.trans (p5.mono HB11.out.size))
                rw [HMM.out i (HII.out)] at p3
                have RC1 := run_string p3 64 c12 rfl
                have RC2 := run_string (RB.of_blk (t := 5) (HBK.out.below HB12.out HBK.out.lt)) 64 64 rfl
                clear p3 p4 p5 HRD
                go_wp2
                go_roundw
                case rel => exact ⟨i + 1, by omega, by go_num, HB12⟩
                case measure => simp [intOf]; omega
              · have d1 : decide ((i : Int) < (first : Int)) = false := by rw [decide_eq_false_iff_not]; omega
                have d1' : decide (i < first) = false := by rw [decide_eq_false_iff_not]; omega
                have d2 : (i : Int) = (n : Int) - 1 := by omega
                have d2' : ((i : Int) == (n : Int) - 1) = true := by rw [beq_iff_eq]; exact d2
                have HII : Hid (i < first ∨ i = n - 1) := Lib.hid (.inr hc2)
                clear hn1 hc1 hc2 d2
                have HRD := Lib.hid (read_ok i wr (HRO11.out.disk) HRO11.out.on (by rw [HLK.out]; exact hlt))
                clear HRO11
                go_wp2_with fail
                refine HRD.out.mono ?_
                rintro e w12 ⟨A12, c12, rfl, p1, p2, p3, p4, p5⟩
                have HB12 : Hid (Below wz.heap.size wz w12) := Lib.hid (HB11.out.trans (p5.mono HB11.out.size))
                rw [HMM.out i (HII.out)] at p3
                have RC1 := run_string p3 64 c12 rfl
                have RC2 := run_string (RB.of_blk (t := 5) (HBK.out.below HB12.out HBK.out.lt)) 64 64 rfl
                clear p3 p4 p5 HRD
                go_wp2
                go_roundw
                case rel => exact ⟨i + 1, by omega, by go_num, HB12⟩
                case measure => simp [intOf]; omega
              · have d1 : decide ((i : Int) < (first : Int)) = false := by rw [decide_eq_false_iff_not]; omega
                have d1' : decide (i < first) = false := by rw [decide_eq_false_iff_not]; omega
                have d2' : ((i : Int) == (n : Int) - 1) = false := by rw [beq_eq_false_iff_ne]; omega
                clear hn1 hc1 hc2
                have HRD := Lib.hid (read_ok i wr (HRO11.out.disk) HRO11.out.on (by rw [HLK.out]; exact hlt))
                clear HRO11
                go_wp2_with fail
                refine HRD.out.mono ?_
                rintro e w12 ⟨A12, c12, rfl, p1, p2, p3, p4, p5⟩
                have HB12 : Hid (Below wz.heap.size wz w12) := Lib.hid (HB11.out.trans (p5.mono HB11.out.size))
                clear p3 p4 p5 HRD
                go_wp2
                go_roundw
                case rel => exact ⟨i + 1, by omega, by go_num, HB12⟩
                case measure => simp [intOf]; omega
            · have hki : decide ((i : Int) < (n : Int)) = false := by rw [decide_eq_false_iff_not]; omega
              have hkn : decide (i < n) = false := by rw [decide_eq_false_iff_not]; omega
              have HBF : Hid (Below W.heap.size W wr) := Lib.hid (HB.out.trans (HB11.out.mono HB.out.size))
              clear heq
              go_wp2
              go_ret
              exact ⟨rfl, HBF.out⟩
        · have b1 : decide ((k : Int) < (nl : Int)) = true := by rw [decide_eq_true_iff]; omega
          have b1' : decide (k < nl) = true := by rw [decide_eq_true_iff]; omega
          have b2 : decide ((k : Int) < 8) = false := by rw [decide_eq_false_iff_not]; omega
          have b2' : decide (k < 8) = false := by rw [decide_eq_false_iff_not]; omega
          go_wp2
          obtain ⟨wz, hwz⟩ : ∃ wz, wz = wr := ⟨wr, rfl⟩
          subst hwz
          go_loopw [20] (fun v w11 => ∃ i : Nat, i ≤ n ∧ v = .int .i64 (i : Int) ∧ Hid (Below wz.heap.size wz w11)) (fun v _ => n - (intOf v).toNat)
          case atStart => exact ⟨0, Nat.zero_le _, rfl, Lib.hid (Below.refl _ _)⟩
          case round =>
            obtain ⟨i, hi, rfl, HB11⟩ := hrel
            rcases (by omega : i < n ∨ i = n) with hlt | heq
            · have hki : decide ((i : Int) < (n : Int)) = true := by rw [decide_eq_true_iff]; omega
              have hkn : decide (i < n) = true := by rw [decide_eq_true_iff]; omega
              have HRO11 := Lib.hid (HRO.out.below HB11.out)
              have hn1 := HNN.out
              rcases (by omega : i < first ∨ (first ≤ i ∧ i = n - 1) ∨ (first ≤ i ∧ i ≠ n - 1)) with hc1 | ⟨hc1, hc2⟩ | ⟨hc1, hc2⟩
              · have d1 : decide ((i : Int) < (first : Int)) = true := by rw [decide_eq_true_iff]; omega
                have d1' : decide (i < first) = true := by rw [decide_eq_true_iff]; omega
                have HII : Hid (i < first ∨ i = n - 1) := Lib.hid (.inl hc1)
                clear hn1 hc1
                have HRD := Lib.hid (read_ok i wr (HRO11.out.disk) HRO11.out.on (by rw [HLK.out]; exact hlt))
                clear HRO11
                go_wp2_with fail
                refine HRD.out.mono ?_
                rintro e w12 ⟨A12, c12, rfl, p1, p2, p3, p4, p5⟩
                have HB12 : Hid (Below wz.heap.size wz w12) := Lib.hid (HB11.out.trans (p5.mono HB11.out.size))
                rw [HMM.out i (HII.out)] at p3
                have RC1 := run_string p3 64 c12 rfl
                have RC2 := run_string (RB.of_blk (t := 5) (HBK.out.below HB12.out HBK.out.lt)) 64 64 rfl
                clear p3 p4 p5 HRD
                go_wp2
                go_roundw
                case rel => exact ⟨i + 1, by omega, by go_num, HB12⟩
                case measure => simp [intOf]; omega
              · have d1 : decide ((i : Int) < (first : Int)) = false := by rw [decide_eq_false_iff_not]; omega
                have d1' : decide (i < first) = false := by rw [decide_eq_false_iff_not]; omega
                have d2 : (i : Int) = (n : Int) - 1 := by omega
                have d2' : ((i : Int) == (n : Int) - 1) = true := by rw [beq_iff_eq]; exact d2
                have HII : Hid (i < first ∨ i = n - 1) := Lib.hid (.inr hc2)
                clear hn1 hc1 hc2 d2
                have HRD := Lib.hid (read_ok i wr (HRO11.out.disk) HRO11.out.on (by rw [HLK.out]; exact hlt))
                clear HRO11
                go_wp2_with fail
                refine HRD.out.mono ?_
                rintro e w12 ⟨A12, c12, rfl, p1, p2, p3, p4, p5⟩
                have HB12 : Hid (Below wz.heap.size wz w12) := Lib.hid (HB11.out.trans (p5.mono HB11.out.size))
                rw [HMM.out i (HII.out)] at p3
                have RC1 := run_string p3 64 c12 rfl
                have RC2 := run_string (RB.of_blk (t := 5) (HBK.out.below HB12.out HBK.out.lt)) 64 64 rfl
                clear p3 p4 p5 HRD
                go_wp2
                go_roundw
                case rel => exact ⟨i + 1, by omega, by go_num, HB12⟩
                case measure => simp [intOf]; omega
              · have d1 : decide ((i : Int) < (first : Int)) = false := by rw [decide_eq_false_iff_not]; omega
                have d1' : decide (i < first) = false := by rw [decide_eq_false_iff_not]; omega
                have d2' : ((i : Int) == (n : Int) - 1) = false := by rw [beq_eq_false_iff_ne]; omega
                clear hn1 hc1 hc2
                have HRD := Lib.hid (read_ok i wr (HRO11.out.disk) HRO11.out.on (by rw [HLK.out]; exact hlt))
                clear HRO11
                go_wp2_with fail
                refine HRD.out.mono ?_
                rintro e w12 ⟨A12, c12, rfl, p1, p2, p3, p4, p5⟩
                have HB12 : Hid (Below wz.heap.size wz w12) := Lib.hid (HB11.out.trans (p5.mono HB11.out.size))
                clear p3 p4 p5 HRD
                go_wp2
                go_roundw
                case rel => exact ⟨i + 1, by omega, by go_num, HB12⟩
                case measure => simp [intOf]; omega
            · have hki : decide ((i : Int) < (n : Int)) = false := by rw [decide_eq_false_iff_not]; omega
              have hkn : decide (i < n) = false := by rw [decide_eq_false_iff_not]; omega
              have HBF : Hid (Below W.heap.size W wr) := Lib.hid (HB.out.trans (HB11.out.mono HB.out.size))
              clear heq
              go_wp2
              go_ret
              exact ⟨rfl, HBF.out⟩
end Go.Proofs.YtcndkkagnobpmaaDoor
