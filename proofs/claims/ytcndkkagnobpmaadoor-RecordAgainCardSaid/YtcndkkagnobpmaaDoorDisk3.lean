/-
  block.Disk: Write, Stop.
-/
import Derived.Test.YtcndkkagnobpmaaDoorDisk2
namespace Go.Proofs.YtcndkkagnobpmaaDoor
open Go.RowKit
attribute [local go_sem ↓] Go.wp_at_zero Go.wp_at_succ
set_option linter.unusedVariables false

def Dk.put (K : Dk) (i : Nat) (b : List UInt8) : Dk := { K with loose := fun j => if j = i then some b else K.loose j }
/-- what a write makes of a disk that is on -/
def Dk.write (K : Dk) (i : Nat) (b : List UInt8) : Dk := if K.go.off then K.go.put i (b.take K.bytes ++ (K.now i).drop K.bytes) else K.go.put i b
theorem go_sure (K : Dk) : K.go.sure = K.sure := by unfold Dk.go; split; rfl; split <;> rfl
theorem go_loose (K : Dk) : K.go.loose = K.loose := by unfold Dk.go; split; rfl; split <;> rfl
theorem go_bytes (K : Dk) : K.go.bytes = K.bytes := by unfold Dk.go; split; rfl; split <;> rfl
theorem go_now (K : Dk) (i : Nat) : K.go.now i = K.now i := by unfold Dk.now; rw [go_sure, go_loose]
theorem DiskAt.mapAt {w : World} {d s M n : Nat} {K : Dk} (h : DiskAt w d s M n K) : w.cell? ⟨d, 1, none⟩ = some (.map (some M)) := by
  obtain ⟨cap, hb, _⟩ := h.blk
  exact hb.cell 1
theorem DiskAt.bytesAt {w : World} {d s M n : Nat} {K : Dk} (h : DiskAt w d s M n K) : w.cell? ⟨d, 3, none⟩ = some (.int .i64 (K.bytes : Int)) := by
  obtain ⟨cap, hb, _⟩ := h.blk
  exact hb.cell 3
theorem disk2At {w : World} {d s M n q : Nat} {K : Dk} (h : DiskAt w d s M n K) (hq : K.bytes = q) : w.cell? ⟨d, 1, none⟩ = some (.map (some M)) ∧ w.cell? ⟨d, 3, none⟩ = some (.int .i64 (q : Int)) := ⟨h.mapAt, by rw [← hq]; exact h.bytesAt⟩
theorem disk2At' {w : World} {d s M n q i : Nat} {K : Dk} {b : List UInt8} (h : DiskAt w d s M n (K.put i b)) (hq : K.bytes = q) : w.cell? ⟨d, 1, none⟩ = some (.map (some M)) ∧ w.cell? ⟨d, 3, none⟩ = some (.int .i64 (q : Int)) := ⟨h.mapAt, by rw [← hq]; exact h.bytesAt⟩
/-- one block is put among the loose ones -/
theorem DiskAt.put {w : World} {d s M n : Nat} {K : Dk} (h : DiskAt w d s M n K) {i : Nat} (hi : i < K.sure.length) (hn : n < 1000000) {v : Value} {b : List UInt8} (hv : SlB w v b) :
    ∃ w', (Instr.mapUpdate 61 (.map (some M)) (.int .i64 (i : Int)) v).run Tryd.prog w = .ok () w' ∧ DiskAt w' d s M (n + 1) (K.put i b) ∧ Fr (· = M) w w' := by
  have hne := h.ne
  have hno := h.noBy
  obtain ⟨⟨cap, hb, hb2⟩, ⟨cs, hr, hr2, hr3⟩, ⟨f, hm, hm2, hm3⟩, h4, h5, h6, h7⟩ := h
  obtain ⟨w', hrun, hl, hf⟩ := hm.put (i := i) (by omega) (by unfold maxLen; omega) v
  have hN : ∀ g, g = M → g < w.heap.size → NoBy w g := fun g e _ => e ▸ hno M (.inr (.inr rfl))
  refine ⟨w', hrun, ⟨⟨cap, hb.fr hf hne.2.1, hb2⟩, ⟨cs, hr.fr hf hne.2.2, fun j hj => ?_, hr3⟩, ⟨_, hl, ?_, ?_⟩, h4, ?_, h6, h7⟩, hf⟩
  · obtain ⟨v, k1, k2⟩ := hr2 j hj
    exact ⟨v, k1, k2.fr2 hf hN⟩
  · intro j hj
    simp only [Dk.put] at hj
    by_cases e : j = i
    · rw [if_pos e] at hj; cases hj
    · rw [if_neg e] at hj; rw [if_neg e]; exact hm2 j hj
  · intro j b' hj
    simp only [Dk.put] at hj
    by_cases e : j = i
    · rw [if_pos e] at hj ⊢; cases hj; exact ⟨v, rfl, hv.fr2 hf hN⟩
    · rw [if_neg e] at hj ⊢
      obtain ⟨v, k1, k2⟩ := hm3 j b' hj
      exact ⟨v, k1, k2.fr2 hf hN⟩
  · intro j b' hj
    simp only [Dk.put] at hj
    by_cases e : j = i
    · subst e; exact hi
    · rw [if_neg e] at hj; exact h5 j b' hj
set_option maxRecDepth 100000 in
set_option maxHeartbeats 1000000 in
theorem write_no {d s M n : Nat} {K : Dk} (i : Int) (v : Value) (r : Int) (w : World) (h : DiskAt w d s M n K) (hr : mayE K i = r) (hne : r ≠ 0) : Calls Tryd.prog 17 #[.pointer (some ⟨d, 0, none⟩), .int .i64 i, v] w fun e w' => e = .returned (.int .i64 r) ∧ w' = w := by
  have HM := Lib.hid (may_as (K := K) i r w h hr)
  have e1 : (r != 0) = true := by rw [bne_iff_ne]; exact hne
  have e2 : (r == 0) = false := by rw [beq_eq_false_iff_ne]; exact hne
  clear h hr hne
  go_enter Tryd.func17, Tryd.ntmps17
  go_wp2_with fail
  refine HM.out.mono ?_
  rintro e w1 ⟨rfl, rfl⟩
  go_wp2
  go_ret
  exact ⟨rfl, rfl⟩
/-- a write that goes well -/
theorem fr_ds {w w' : World} {d s M : Nat} {S : Nat → Prop} (h : Fr S w w') (hS : ∀ k, S k → DS d s M k) : Fr (DS d s M) w w' := h.mono (fun k _ hk => hS k hk)
set_option maxRecDepth 100000 in
set_option maxHeartbeats 2000000 in
theorem write_on {d s M n : Nat} {K : Dk} (i : Nat) (A : Option Addr) (c : Nat) (b : List UInt8) (w : World) (h : DiskAt w d s M n K) (ho : K.off = false) (hi : i < K.sure.length) (hn : n < 1000000) (hb : RB w A b) (hbl : b.length = 64) (hc : 64 ≤ c) (hcm : c ≤ 9223372036854775807) (hgo : K.go.off = false) :
    Calls Tryd.prog 17 #[.pointer (some ⟨d, 0, none⟩), .int .i64 (i : Int), .slice A 64 c] w fun e w' => e = .returned (.int .i64 0) ∧ DiskAt w' d s M (n + 1) (K.write i b) ∧ Fr (DS d s M) w w' := by
  have HM := Lib.hid (may_as (K := K) (d := d) (s := s) (M := M) (n := n) (i : Int) 0 w h (by unfold mayE; rw [ho, if_neg (by simp), if_neg (by omega)]))
  have HG := Lib.hid (goes_any w h ho)
  rw [hgo] at HG
  have HWR : Hid (K.write i b = K.go.put i b) := by show _ = _; unfold Dk.write; rw [hgo]; rfl
  have HI : Hid (i < K.go.sure.length) := by show _ < _; rw [go_sure]; exact hi
  have HBL := Lib.hid hbl
  have HR := Lib.hid hb
  have HNB := Lib.hid h.noBy
  clear h ho hi hgo hbl hb
  go_enter Tryd.func17, Tryd.ntmps17
  go_wp2_with fail
  refine HM.out.mono ?_
  rintro e w1 ⟨rfl, rfl⟩
  go_wp2_with fail
  refine HG.out.mono ?_
  rintro e w2 ⟨rfl, hd2, hf2⟩
  have HD2 := Lib.hid hd2
  have HF2 := Lib.hid hf2
  have HR2 := Lib.hid (HR.out.fr2 hf2 (fun k e _ => e ▸ HNB.out d (.inl rfl)))
  clear hd2 hf2
  go_wp2
  go_region_held3 (fun w' => w'.cell? ⟨d, 1, none⟩ = some (.map (some M)))
    (first | exact HD2.out.drew.mapAt | exact hd5.mapAt | exact hd6.mapAt | go_keep)
    (first | (go_at_call 30; (refine (clone_sl (.slice A 64 c) b _ ⟨A, c, rfl, hc, hcm, HR2.out.drew', HBL.out⟩).mono ?_); rintro e w5 ⟨A5, c5, rfl, k1, k2, k3, k4, k5⟩; have hd5 := HD2.out.drew.below k5; obtain ⟨w6, hput, hd6, hf6⟩ := hd5.put HI.out hn ⟨A5, c5, rfl, k1, k2, k3, k4⟩; have HD6 := Lib.hid hd6; have HF6 := Lib.hid (HF2.out.drew.below k5); have HG6 := Lib.hid hf6; clear k3))
  clear hput hd5 hd6 hf6 k4 k5
  go_wp2
  go_ret
  exact ⟨rfl, by rw [HWR.out]; exact HD6.out, (fr_ds HF6.out (fun k e => .inl e)).trans (fr_ds HG6.out (fun k e => .inr (.inr e)))⟩
theorem concat2 (g : Nat) (A B : Option Addr) (n m c d : Nat) (x y : List UInt8) (W : World) (hB : Blk W g 22 #[.slice A n c, .slice B m d]) (hx : RB W A x) (hy : RB W B y) (hxn : x.length = n) (hym : y.length = m) (hnm : n + m = 64) :
    Calls Tryd.prog 38 #[.slice (some ⟨g, 0, none⟩) 2 2] W fun e w' => ∃ A5 c5, e = .returned (.slice A5 64 c5) ∧ 64 ≤ c5 ∧ c5 ≤ 9223372036854775807 ∧ RB w' A5 (x ++ y) ∧ (x ++ y).length = 64 ∧ Below W.heap.size W w' := by
  have hps : Pts W (some ⟨g, 0, none⟩) [⟨A, c, x⟩, ⟨B, d, y⟩] := by
    refine Pts.of_block (t := 22) ?_ ?_
    · simpa [Pt.v, hxn, hym] using hB
    · intro p hp
      simp only [List.mem_cons, List.not_mem_nil, or_false] at hp
      rcases hp with rfl | rfl
      · exact hx
      · exact hy
  have hcat : catP [⟨A, c, x⟩, ⟨B, d, y⟩] = x ++ y := by simp [catP]
  have hl : (x ++ y).length = 64 := by rw [List.length_append]; omega
  refine (concat_any _ 2 2 _ _ hps rfl (by omega) (by rw [hcat]; omega)).mono ?_
  rintro e w' ⟨v, rfl, hv, hb⟩
  rw [hcat] at hv
  obtain ⟨A5, c5, rfl, k1, k2, k3, _⟩ := hv.shape
  exact ⟨A5, c5, by rw [hl], by omega, by unfold maxLen at k2; omega, k3, hl, hb⟩
set_option maxRecDepth 100000 in
set_option maxHeartbeats 2000000 in
theorem write_off {d s M n : Nat} {K : Dk} (i : Nat) (A : Option Addr) (c : Nat) (b : List UInt8) (w : World) (h : DiskAt w d s M n K) (ho : K.off = false) (hi : i < K.sure.length) (hn : n < 1000000) (hb : RB w A b) (hbl : b.length = 64) (hc : 64 ≤ c) (hcm : c ≤ 9223372036854775807) (hgo : K.go.off = true) :
    Calls Tryd.prog 17 #[.pointer (some ⟨d, 0, none⟩), .int .i64 (i : Int), .slice A 64 c] w fun e w' => e = .returned (.int .i64 210) ∧ DiskAt w' d s M (n + 1) (K.write i b) ∧ Fr (DS d s M) w w' := by
  have HM := Lib.hid (may_as (K := K) (d := d) (s := s) (M := M) (n := n) (i : Int) 0 w h (by unfold mayE; rw [ho, if_neg (by simp), if_neg (by omega)]))
  have HG := Lib.hid (goes_any w h ho)
  rw [hgo] at HG
  have HWR : Hid (K.write i b = K.go.put i (b.take K.bytes ++ (K.now i).drop K.bytes)) := by show _ = _; unfold Dk.write; rw [hgo]; rfl
  have hiG : i < K.go.sure.length := by rw [go_sure]; exact hi
  have HI := Lib.hid hiG
  have HBL := Lib.hid hbl
  have HR := Lib.hid hb
  have HNB := Lib.hid h.noBy
  obtain ⟨q, hq⟩ : ∃ q, q = K.bytes := ⟨_, rfl⟩
  have hq64 : q ≤ 64 := by rw [hq]; exact h.byt
  have HQ : Hid (K.go.bytes = q) := by show _ = _; rw [go_bytes, hq]
  have HNW : Hid (K.go.now i = K.now i) := go_now K i
  rw [← hq] at HWR
  clear h ho hi hgo hbl hb hiG hq
  have q0 : (0 : Int) ≤ (q : Int) := by omega
  have q1 : (q : Int) ≤ 64 := by omega
  have q2 : (q : Int) ≤ (c : Int) := by omega
  go_enter Tryd.func17, Tryd.ntmps17
  go_wp2_with fail
  refine HM.out.mono ?_
  rintro e w1 ⟨rfl, rfl⟩
  go_wp2_with fail
  refine HG.out.mono ?_
  rintro e w2 ⟨rfl, hd2, hf2⟩
  have HD2 := Lib.hid hd2
  have HF2 := Lib.hid hf2
  have HR2 := Lib.hid (HR.out.fr2 hf2 (fun k e _ => e ▸ HNB.out d (.inl rfl)))
  clear hd2 hf2
  go_wp2
  go_region_held3 (fun w' => w'.cell? ⟨d, 1, none⟩ = some (.map (some M)) ∧ w'.cell? ⟨d, 3, none⟩ = some (.int .i64 (q : Int)))
    (first | exact disk2At HD2.out.drew HQ.out | exact disk2At (HD2.out.drew.below ((Below.refl _ _).alloc (Nat.le_refl _) _)) HQ.out | exact disk2At hd5 HQ.out | exact disk2At' hd6 HQ.out | go_keep)
    (first
      | (go_at_call 39; (refine (now_any i _ HD2.out.drew HI.out).mono ?_); rintro e w4 ⟨v, rfl, ⟨A4, c4, rfl, k1, k2, k3, k4⟩, rfl⟩; have HN4 := Lib.hid k3; have HL4 := Lib.hid k4; have q3 : (q : Int) ≤ (c4 : Int) := (by omega); clear k3 k4)
      | (go_at_call 38; (refine (concat2 w2.heap.size _ _ q (64 - q) _ _ (b.take q) ((K.go.now i).drop q) _ (Blk.new w2 22 _).drew (((HR2.out.take (by rw [HBL.out]; exact hq64)).below ((Below.refl _ _).alloc (Nat.le_refl _) _)).drew') (((HN4.out.drew'.cut (k := q) (cap := c4) (by rw [HL4.out]; exact hq64) (by rw [HL4.out]; exact k1)).below (w := w2) ((Below.refl _ _).alloc (Nat.le_refl _) _)).drew') (by rw [List.length_take, HBL.out]; omega) (by rw [List.length_drop, HL4.out]) (by omega)).mono ?_); rintro e w5 ⟨A5, c5, rfl, p1, p2, p3, p4, p5⟩; have hd5 := ((HD2.out.below ((Below.refl _ _).alloc (Nat.le_refl _) _)).drew).below p5; obtain ⟨w6, hput, hd6, hf6⟩ := hd5.put HI.out hn ⟨A5, c5, rfl, p1, p2, p3, p4⟩; have HD6 := Lib.hid hd6; have HF6 := Lib.hid (((HF2.out.alloc _).drew).below p5); have HG6 := Lib.hid hf6; clear p3; dsimp only))
  rw [HNW.out] at HD6
  clear hput hd5 hd6 hf6 p4 p5
  go_wp2
  all_goals
    go_ret
    exact ⟨rfl, by rw [HWR.out]; exact HD6.out, (fr_ds HF6.out (fun k e => .inl e)).trans (fr_ds HG6.out (fun k e => .inr (.inr e)))⟩
end Go.Proofs.YtcndkkagnobpmaaDoor
