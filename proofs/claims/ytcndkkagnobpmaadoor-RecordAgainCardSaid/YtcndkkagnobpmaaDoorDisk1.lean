/-
  block.Disk: what it is in memory; may, now, Read, goes, Len.
-/
import Derived.Test.YtcndkkagnobpmaaDoorLMap
import Derived.Test.YtcndkkagnobpmaaDoorBy
import Derived.Test.YtcndkkagnobpmaaDoorCl
namespace Go.Proofs.YtcndkkagnobpmaaDoor
open Go.RowKit
set_option linter.unusedVariables false

/-- a disk, plainly -/
structure Dk where
  sure : List (List UInt8)
  loose : Nat → Option (List UInt8)
  left : Int
  bytes : Nat
  off : Bool
def Dk.now (K : Dk) (i : Nat) : List UInt8 := (K.loose i).getD (K.sure.getD i [])
/-- a slice value of 64 bytes -/
def SlB (w : World) (v : Value) (b : List UInt8) : Prop := ∃ A c, v = .slice A 64 c ∧ 64 ≤ c ∧ c ≤ 9223372036854775807 ∧ RB w A b ∧ b.length = 64
theorem SlB.fr2 {S : Nat → Prop} {w w' : World} {v : Value} {b : List UInt8} (h : SlB w v b) (hf : Fr S w w') (hS : ∀ g, S g → g < w.heap.size → NoBy w g) : SlB w' v b := by
  obtain ⟨A, c, h1, h2, h3, h4, h5⟩ := h
  exact ⟨A, c, h1, h2, h3, h4.fr2 hf hS, h5⟩
def diskV (s M : Nat) (len cap : Nat) (left : Int) (bytes : Nat) (off : Bool) : Array Value := #[.slice (some ⟨s, 0, none⟩) len cap, .map (some M), .int .i64 left, .int .i64 (bytes : Int), .bool off]
structure DiskAt (w : World) (d s M n : Nat) (K : Dk) : Prop where
  blk : ∃ cap, Blk w d 63 (diskV s M K.sure.length cap K.left K.bytes K.off) ∧ K.sure.length ≤ cap ∧ cap ≤ 9223372036854775807
  row : ∃ cs, Blk w s 22 cs ∧ (∀ i, i < K.sure.length → ∃ v, cs[i]? = some v ∧ SlB w v (K.sure.getD i [])) ∧ ∀ (k : Nat) (x : Int), cs[k]? ≠ some (.int .u8 x)
  map : ∃ f, LMap w M n f ∧ (∀ i, K.loose i = none → f i = none) ∧ ∀ i b, K.loose i = some b → ∃ v, f i = some v ∧ SlB w v b
  few : 1 ≤ K.sure.length ∧ K.sure.length ≤ 16384
  inn : ∀ i b, K.loose i = some b → i < K.sure.length
  lft : -1 ≤ K.left ∧ K.left ≤ 9223372036854775807
  byt : K.bytes ≤ 64
/-- the blocks that are a disk's -/
def DS (d s M : Nat) (k : Nat) : Prop := k = d ∨ k = s ∨ k = M
section
variable {w w' : World} {d s M n : Nat} {K : Dk} {S : Nat → Prop}
theorem diskV_noBy (s M len cap : Nat) (left : Int) (bytes : Nat) (off : Bool) (k : Nat) (x : Int) : (diskV s M len cap left bytes off)[k]? ≠ some (.int .u8 x) := by
  unfold diskV
  rcases (by omega : k = 0 ∨ k = 1 ∨ k = 2 ∨ k = 3 ∨ k = 4 ∨ 5 ≤ k) with rfl | rfl | rfl | rfl | rfl | h
  all_goals first | (intro h; cases h) | (rw [Array.getElem?_eq_none (by simpa using h)]; intro h; cases h)
theorem DiskAt.noBy (h : DiskAt w d s M n K) : ∀ k, DS d s M k → NoBy w k := by
  rintro k (rfl | rfl | rfl)
  · obtain ⟨cap, hb, _⟩ := h.blk
    exact NoBy.of_blk hb (diskV_noBy _ _ _ _ _ _ _)
  · obtain ⟨cs, hb, _, hn⟩ := h.row
    exact NoBy.of_blk hb hn
  · obtain ⟨f, hm, _⟩ := h.map
    intro o x
    rw [hm.noCell]
    intro h; cases h
theorem DiskAt.lt (h : DiskAt w d s M n K) : d < w.heap.size ∧ s < w.heap.size ∧ M < w.heap.size := by
  obtain ⟨cap, hb, _⟩ := h.blk
  obtain ⟨cs, hr, _⟩ := h.row
  obtain ⟨f, hm, _⟩ := h.map
  exact ⟨hb.lt, hr.lt, hm.lt⟩
theorem DiskAt.ne (h : DiskAt w d s M n K) : d ≠ s ∧ d ≠ M ∧ s ≠ M := by
  obtain ⟨cap, hb, _⟩ := h.blk
  obtain ⟨cs, hr, _⟩ := h.row
  obtain ⟨f, hm, _⟩ := h.map
  exact ⟨hb.ne_ hr (by decide), hm.not_blk hb, hm.not_blk hr⟩
theorem DiskAt.fr (h : DiskAt w d s M n K) (hf : Fr S w w') (hS : ∀ k, DS d s M k → ¬ S k) (hN : ∀ g, S g → g < w.heap.size → NoBy w g) : DiskAt w' d s M n K := by
  obtain ⟨⟨cap, hb, hb2⟩, ⟨cs, hr, hr2, hr3⟩, ⟨f, hm, hm2, hm3⟩, h4, h5, h6, h7⟩ := h
  exact ⟨⟨cap, hb.fr hf (hS _ (.inl rfl)), hb2⟩, ⟨cs, hr.fr hf (hS _ (.inr (.inl rfl))), fun i hi => by obtain ⟨v, h1, h2⟩ := hr2 i hi; exact ⟨v, h1, h2.fr2 hf hN⟩, hr3⟩,
    ⟨f, hm.fr hf (hS _ (.inr (.inr rfl))), hm2, fun i b hb => by obtain ⟨v, h1, h2⟩ := hm3 i b hb; exact ⟨v, h1, h2.fr2 hf hN⟩⟩, h4, h5, h6, h7⟩
theorem DiskAt.below (h : DiskAt w d s M n K) (hb : Below w.heap.size w w') : DiskAt w' d s M n K :=
  h.fr (S := fun _ => False) ⟨hb.os, hb.tape, hb.output, hb.size, fun k hk _ => hb.block k hk⟩ (fun _ _ h => h) (fun _ h => h.elim)
theorem DiskAt.drew (h : DiskAt w d s M n K) : DiskAt w.drew d s M n K := h.below ⟨rfl, rfl, rfl, Nat.le_refl _, fun _ _ => rfl⟩
theorem DiskAt.drewN (h : DiskAt w d s M n K) (q : Nat) : DiskAt (w.drewN q) d s M n K := h.below ⟨rfl, rfl, rfl, Nat.le_refl _, fun _ _ => rfl⟩
theorem disk_cells {cap len bytes : Nat} {left : Int} {off : Bool} (h : Blk w d 63 (diskV s M len cap left bytes off)) : w.cell? ⟨d, 0, none⟩ = some (.slice (some ⟨s, 0, none⟩) len cap) ∧ w.cell? ⟨d, 1, none⟩ = some (.map (some M)) ∧ w.cell? ⟨d, 2, none⟩ = some (.int .i64 left) ∧ w.cell? ⟨d, 3, none⟩ = some (.int .i64 (bytes : Int)) ∧ w.cell? ⟨d, 4, none⟩ = some (.bool off) :=
  ⟨h.cell 0, h.cell 1, h.cell 2, h.cell 3, h.cell 4⟩
end

/-- what is wrong with a block's number -/
def mayE (K : Dk) (i : Int) : Int := if K.off then 210 else if i < 0 ∨ (K.sure.length : Int) ≤ i then 4 else 0
set_option maxRecDepth 100000 in
set_option maxHeartbeats 1000000 in
theorem may_any {d s M n : Nat} {K : Dk} (i : Int) (w : World) (h : DiskAt w d s M n K) : Calls Tryd.prog 36 #[.pointer (some ⟨d, 0, none⟩), .int .i64 i] w fun e w' => e = .returned (.int .i64 (mayE K i)) ∧ w' = w := by
  obtain ⟨cap, hb, _⟩ := h.blk
  obtain ⟨c0, c1, c2, c3, c4⟩ := disk_cells hb
  clear hb h
  unfold mayE
  cases ho : K.off with
  | true =>
    rw [ho] at c4
    clear ho
    go_enter Tryd.func36, Tryd.ntmps36
    go_wp2
    go_ret
    exact ⟨rfl, rfl⟩
  | false =>
    rw [ho] at c4
    clear ho
    by_cases h1 : i < 0
    · have e1 : decide (i < 0) = true := by rw [decide_eq_true_iff]; exact h1
      rw [if_neg (by simp), if_pos (.inl h1)]
      clear h1
      go_enter Tryd.func36, Tryd.ntmps36
      go_wp2
      go_ret
      exact ⟨rfl, rfl⟩
    · have e1 : decide (i < 0) = false := by rw [decide_eq_false_iff_not]; exact h1
      obtain ⟨L, hL⟩ : ∃ L, L = K.sure.length := ⟨_, rfl⟩
      rw [← hL] at c0 ⊢
      clear hL
      by_cases h2 : (L : Int) ≤ i
      · have e2 : decide ((L : Int) ≤ i) = true := by rw [decide_eq_true_iff]; exact h2
        rw [if_neg (by simp), if_pos (.inr h2)]
        clear h1 h2
        go_enter Tryd.func36, Tryd.ntmps36
        go_wp2
        go_ret
        exact ⟨rfl, rfl⟩
      · have e2 : decide ((L : Int) ≤ i) = false := by rw [decide_eq_false_iff_not]; exact h2
        rw [if_neg (by simp), if_neg (by omega)]
        clear h1 h2
        go_enter Tryd.func36, Tryd.ntmps36
        go_wp2
        go_ret
        exact ⟨rfl, rfl⟩
theorem may_as {d s M n : Nat} {K : Dk} (i : Int) (r : Int) (w : World) (h : DiskAt w d s M n K) (hr : mayE K i = r) : Calls Tryd.prog 36 #[.pointer (some ⟨d, 0, none⟩), .int .i64 i] w fun e w' => e = .returned (.int .i64 r) ∧ w' = w := by
  rw [← hr]; exact may_any i w h
set_option maxRecDepth 100000 in
set_option maxHeartbeats 1000000 in
theorem now_any {d s M n : Nat} {K : Dk} (i : Nat) (w : World) (h : DiskAt w d s M n K) (hi : i < K.sure.length) : Calls Tryd.prog 39 #[.pointer (some ⟨d, 0, none⟩), .int .i64 (i : Int)] w fun e w' => ∃ v, e = .returned v ∧ SlB w v (K.now i) ∧ w' = w := by
  obtain ⟨cap, hb, _⟩ := h.blk
  obtain ⟨c0, c1, c2, c3, c4⟩ := disk_cells hb
  obtain ⟨cs, hr, hr2, _⟩ := h.row
  obtain ⟨f, hm, hm2, hm3⟩ := h.map
  have hfew := h.few.2
  have RL := hm.look (i := i) (by omega)
  cases hl : K.loose i with
  | some b =>
    obtain ⟨v, hv, hs⟩ := hm3 i b hl
    rw [hv] at RL
    have HS : Hid (SlB w v (K.now i)) := by show SlB _ _ _; unfold Dk.now; rw [hl]; exact hs
    simp only [Option.getD_some, Option.isSome_some] at RL
    clear hb h hr hr2 hm hm2 hm3 hl hv hs
    go_enter Tryd.func39, Tryd.ntmps39
    go_wp2
    go_ret
    exact ⟨v, rfl, HS.out, rfl⟩
  | none =>
    rw [hm2 i hl] at RL
    simp only [Option.getD_none, Option.isSome_none] at RL
    obtain ⟨v, hv, hs⟩ := hr2 i hi
    have hcell := hr.cell i
    rw [hv] at hcell
    have HS : Hid (SlB w v (K.now i)) := by show SlB _ _ _; unfold Dk.now; rw [hl]; exact hs
    obtain ⟨L, hL⟩ : ∃ L, L = K.sure.length := ⟨_, rfl⟩
    rw [← hL] at c0 hi hfew
    have hi1 : (i : Int) < (L : Int) := by omega
    have hi0 : (0 : Int) ≤ (i : Int) := by omega
    clear hb h hr hr2 hm hm2 hm3 hl hv hs hL
    go_enter Tryd.func39, Tryd.ntmps39
    go_wp2
    go_ret
    exact ⟨v, rfl, HS.out, rfl⟩
set_option maxRecDepth 100000 in
set_option maxHeartbeats 1000000 in
theorem dlen_any {d s M n : Nat} {K : Dk} (w : World) (h : DiskAt w d s M n K) : Calls Tryd.prog 28 #[.pointer (some ⟨d, 0, none⟩)] w fun e w' => e = .returned (.int .i64 (K.sure.length : Int)) ∧ w' = w := by
  obtain ⟨cap, hb, _⟩ := h.blk
  obtain ⟨c0, c1, c2, c3, c4⟩ := disk_cells hb
  obtain ⟨L, hL⟩ : ∃ L, L = K.sure.length := ⟨_, rfl⟩
  rw [← hL] at c0 ⊢
  clear hL hb h
  go_enter Tryd.func28, Tryd.ntmps28
  go_wp2
  go_ret
  exact ⟨rfl, rfl⟩
end Go.Proofs.YtcndkkagnobpmaaDoor
