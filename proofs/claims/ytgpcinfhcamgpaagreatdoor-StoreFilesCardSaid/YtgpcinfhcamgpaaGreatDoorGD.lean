/-
  block.Disk: what it is in memory; may, now, Read, goes, Len.
  block.Disk: Read, goes, Write, Stop.
  block.Disk: Write, Stop.
  block.Disk: Sync.
  block.Disk: Stop.
  block.New.
  block.Disk: keeps.
  block.Disk: Crash.
-/
import Derived.Test.YtgpcinfhcamgpaaGreatDoorGA
import Derived.Deep.RegionWith
import Derived.Deep.RegionHeld3
import Derived.Deep.DrawnRows
import Derived.Deep.RegionLaw
import Derived.LoopTactic
namespace Go.Proofs.YtgpcinfhcamgpaaGreatDoor
open Go.RowKit
set_option linter.unusedVariables false

/-- a disk, plainly -/
structure Dk where
  sure : List (List UInt8)
  loose : Nat → Option (List UInt8)
  left : Int
  bytes : Nat
  off : Bool
def Dk.now (K : Dk) (i : Nat) : List UInt8 := (K.loose i).getD (K.sure.getD i [])
/-- a slice value of 64 bytes -/
def SlB (w : World) (v : Value) (b : List UInt8) : Prop := ∃ A c, v = .slice A 64 c ∧ 64 ≤ c ∧ c ≤ 9223372036854775807 ∧ RB w A b ∧ b.length = 64
theorem SlB.fr2 {S : Nat → Prop} {w w' : World} {v : Value} {b : List UInt8} (h : SlB w v b) (hf : Fr S w w') (hS : ∀ g, S g → g < w.heap.size → NoBy w g) : SlB w' v b := by
  obtain ⟨A, c, h1, h2, h3, h4, h5⟩ := h
  exact ⟨A, c, h1, h2, h3, h4.fr2 hf hS, h5⟩
def diskV (s M : Nat) (len cap : Nat) (left : Int) (bytes : Nat) (off : Bool) : Array Value := #[.slice (some ⟨s, 0, none⟩) len cap, .map (some M), .int .i64 left, .int .i64 (bytes : Int), .bool off]
structure DiskAt (w : World) (d s M n : Nat) (K : Dk) : Prop where
  blk : ∃ cap, Blk w d 94 (diskV s M K.sure.length cap K.left K.bytes K.off) ∧ K.sure.length ≤ cap ∧ cap ≤ 9223372036854775807
  row : ∃ cs, Blk w s 22 cs ∧ (∀ i, i < K.sure.length → ∃ v, cs[i]? = some v ∧ SlB w v (K.sure.getD i [])) ∧ ∀ (k : Nat) (x : Int), cs[k]? ≠ some (.int .u8 x)
  map : ∃ f, LMap w M n f ∧ (∀ i, K.loose i = none → f i = none) ∧ ∀ i b, K.loose i = some b → ∃ v, f i = some v ∧ SlB w v b
  few : 1 ≤ K.sure.length ∧ K.sure.length ≤ 16384
  inn : ∀ i b, K.loose i = some b → i < K.sure.length
  lft : -1 ≤ K.left ∧ K.left ≤ 9223372036854775807
  byt : K.bytes ≤ 64
/-- the blocks that are a disk's -/
def DS (d s M : Nat) (k : Nat) : Prop := k = d ∨ k = s ∨ k = M
section
variable {w w' : World} {d s M n : Nat} {K : Dk} {S : Nat → Prop}
theorem diskV_noBy (s M len cap : Nat) (left : Int) (bytes : Nat) (off : Bool) (k : Nat) (x : Int) : (diskV s M len cap left bytes off)[k]? ≠ some (.int .u8 x) := by
  unfold diskV
  rcases (by omega : k = 0 ∨ k = 1 ∨ k = 2 ∨ k = 3 ∨ k = 4 ∨ 5 ≤ k) with rfl | rfl | rfl | rfl | rfl | h
  all_goals first | (intro h; cases h) | (rw [Array.getElem?_eq_none (by simpa using h)]; intro h; cases h)
theorem DiskAt.noBy (h : DiskAt w d s M n K) : ∀ k, DS d s M k → NoBy w k := by
  rintro k (rfl | rfl | rfl)
  · obtain ⟨cap, hb, _⟩ := h.blk
    exact NoBy.of_blk hb (diskV_noBy _ _ _ _ _ _ _)
  · obtain ⟨cs, hb, _, hn⟩ := h.row
    exact NoBy.of_blk hb hn
  · obtain ⟨f, hm, _⟩ := h.map
    intro o x
    rw [hm.noCell]
    intro h; cases h
theorem DiskAt.lt (h : DiskAt w d s M n K) : d < w.heap.size ∧ s < w.heap.size ∧ M < w.heap.size := by
  obtain ⟨cap, hb, _⟩ := h.blk
  obtain ⟨cs, hr, _⟩ := h.row
  obtain ⟨f, hm, _⟩ := h.map
  exact ⟨hb.lt, hr.lt, hm.lt⟩
theorem DiskAt.ne (h : DiskAt w d s M n K) : d ≠ s ∧ d ≠ M ∧ s ≠ M := by
  obtain ⟨cap, hb, _⟩ := h.blk
  obtain ⟨cs, hr, _⟩ := h.row
  obtain ⟨f, hm, _⟩ := h.map
  exact ⟨hb.ne_ hr (by decide), hm.not_blk hb, hm.not_blk hr⟩
theorem DiskAt.fr (h : DiskAt w d s M n K) (hf : Fr S w w') (hS : ∀ k, DS d s M k → ¬ S k) (hN : ∀ g, S g → g < w.heap.size → NoBy w g) : DiskAt w' d s M n K := by
  obtain ⟨⟨cap, hb, hb2⟩, ⟨cs, hr, hr2, hr3⟩, ⟨f, hm, hm2, hm3⟩, h4, h5, h6, h7⟩ := h
  exact ⟨⟨cap, hb.fr hf (hS _ (.inl rfl)), hb2⟩, ⟨cs, hr.fr hf (hS _ (.inr (.inl rfl))), fun i hi => by obtain ⟨v, h1, h2⟩ := hr2 i hi; exact ⟨v, h1, h2.fr2 hf hN⟩, hr3⟩,
    ⟨f, hm.fr hf (hS _ (.inr (.inr rfl))), hm2, fun i b hb => by obtain ⟨v, h1, h2⟩ := hm3 i b hb; exact ⟨v, h1, h2.fr2 hf hN⟩⟩, h4, h5, h6, h7⟩
theorem DiskAt.below (h : DiskAt w d s M n K) (hb : Below w.heap.size w w') : DiskAt w' d s M n K :=
  h.fr (S := fun _ => False) ⟨hb.os, hb.tape, hb.output, hb.size, fun k hk _ => hb.block k hk⟩ (fun _ _ h => h) (fun _ h => h.elim)
theorem DiskAt.drew (h : DiskAt w d s M n K) : DiskAt w.drew d s M n K := h.below ⟨rfl, rfl, rfl, Nat.le_refl _, fun _ _ => rfl⟩
theorem DiskAt.drewN (h : DiskAt w d s M n K) (q : Nat) : DiskAt (w.drewN q) d s M n K := h.below ⟨rfl, rfl, rfl, Nat.le_refl _, fun _ _ => rfl⟩
theorem disk_cells {cap len bytes : Nat} {left : Int} {off : Bool} (h : Blk w d 94 (diskV s M len cap left bytes off)) : w.cell? ⟨d, 0, none⟩ = some (.slice (some ⟨s, 0, none⟩) len cap) ∧ w.cell? ⟨d, 1, none⟩ = some (.map (some M)) ∧ w.cell? ⟨d, 2, none⟩ = some (.int .i64 left) ∧ w.cell? ⟨d, 3, none⟩ = some (.int .i64 (bytes : Int)) ∧ w.cell? ⟨d, 4, none⟩ = some (.bool off) :=
  ⟨h.cell 0, h.cell 1, h.cell 2, h.cell 3, h.cell 4⟩
end

/-- what is wrong with a block's number -/
def mayE (K : Dk) (i : Int) : Int := if K.off then 210 else if i < 0 ∨ (K.sure.length : Int) ≤ i then 4 else 0
set_option maxRecDepth 100000 in
set_option maxHeartbeats 1000000 in
theorem may_any {d s M n : Nat} {K : Dk} (i : Int) (w : World) (h : DiskAt w d s M n K) : Calls Tryz.prog 61 #[.pointer (some ⟨d, 0, none⟩), .int .i64 i] w fun e w' => e = .returned (.int .i64 (mayE K i)) ∧ w' = w := by
  obtain ⟨cap, hb, _⟩ := h.blk
  obtain ⟨c0, c1, c2, c3, c4⟩ := disk_cells hb
  clear hb h
  unfold mayE
  cases ho : K.off with
  | true =>
    rw [ho] at c4
    clear ho
    go_enter Tryz.func61, Tryz.ntmps61
    go_wp2
    go_ret
    exact ⟨rfl, rfl⟩
  | false =>
    rw [ho] at c4
    clear ho
    by_cases h1 : i < 0
    · have e1 : decide (i < 0) = true := by rw [decide_eq_true_iff]; exact h1
      rw [if_neg (by simp), if_pos (.inl h1)]
      clear h1
      go_enter Tryz.func61, Tryz.ntmps61
      go_wp2
      go_ret
      exact ⟨rfl, rfl⟩
    · have e1 : decide (i < 0) = false := by rw [decide_eq_false_iff_not]; exact h1
      obtain ⟨L, hL⟩ : ∃ L, L = K.sure.length := ⟨_, rfl⟩
      rw [← hL] at c0 ⊢
      clear hL
      by_cases h2 : (L : Int) ≤ i
      · have e2 : decide ((L : Int) ≤ i) = true := by rw [decide_eq_true_iff]; exact h2
        rw [if_neg (by simp), if_pos (.inr h2)]
        clear h1 h2
        go_enter Tryz.func61, Tryz.ntmps61
        go_wp2
        go_ret
        exact ⟨rfl, rfl⟩
      · have e2 : decide ((L : Int) ≤ i) = false := by rw [decide_eq_false_iff_not]; exact h2
        rw [if_neg (by simp), if_neg (by omega)]
        clear h1 h2
        go_enter Tryz.func61, Tryz.ntmps61
        go_wp2
        go_ret
        exact ⟨rfl, rfl⟩
theorem may_as {d s M n : Nat} {K : Dk} (i : Int) (r : Int) (w : World) (h : DiskAt w d s M n K) (hr : mayE K i = r) : Calls Tryz.prog 61 #[.pointer (some ⟨d, 0, none⟩), .int .i64 i] w fun e w' => e = .returned (.int .i64 r) ∧ w' = w := by
  rw [← hr]; exact may_any i w h
set_option maxRecDepth 100000 in
set_option maxHeartbeats 1000000 in
theorem now_any {d s M n : Nat} {K : Dk} (i : Nat) (w : World) (h : DiskAt w d s M n K) (hi : i < K.sure.length) : Calls Tryz.prog 118 #[.pointer (some ⟨d, 0, none⟩), .int .i64 (i : Int)] w fun e w' => ∃ v, e = .returned v ∧ SlB w v (K.now i) ∧ w' = w := by
  obtain ⟨cap, hb, _⟩ := h.blk
  obtain ⟨c0, c1, c2, c3, c4⟩ := disk_cells hb
  obtain ⟨cs, hr, hr2, _⟩ := h.row
  obtain ⟨f, hm, hm2, hm3⟩ := h.map
  have hfew := h.few.2
  have RL := hm.look (i := i) (by omega)
  cases hl : K.loose i with
  | some b =>
    obtain ⟨v, hv, hs⟩ := hm3 i b hl
    rw [hv] at RL
    have HS : Hid (SlB w v (K.now i)) := by show SlB _ _ _; unfold Dk.now; rw [hl]; exact hs
    simp only [Option.getD_some, Option.isSome_some] at RL
    clear hb h hr hr2 hm hm2 hm3 hl hv hs
    go_enter Tryz.func118, Tryz.ntmps118
    go_wp2
    go_ret
    exact ⟨v, rfl, HS.out, rfl⟩
  | none =>
    rw [hm2 i hl] at RL
    simp only [Option.getD_none, Option.isSome_none] at RL
    obtain ⟨v, hv, hs⟩ := hr2 i hi
    have hcell := hr.cell i
    rw [hv] at hcell
    have HS : Hid (SlB w v (K.now i)) := by show SlB _ _ _; unfold Dk.now; rw [hl]; exact hs
    obtain ⟨L, hL⟩ : ∃ L, L = K.sure.length := ⟨_, rfl⟩
    rw [← hL] at c0 hi hfew
    have hi1 : (i : Int) < (L : Int) := by omega
    have hi0 : (0 : Int) ≤ (i : Int) := by omega
    clear hb h hr hr2 hm hm2 hm3 hl hv hs hL
    go_enter Tryz.func118, Tryz.ntmps118
    go_wp2
    go_ret
    exact ⟨v, rfl, HS.out, rfl⟩
set_option maxRecDepth 100000 in
set_option maxHeartbeats 1000000 in
theorem dlen_any {d s M n : Nat} {K : Dk} (w : World) (h : DiskAt w d s M n K) : Calls Tryz.prog 53 #[.pointer (some ⟨d, 0, none⟩)] w fun e w' => e = .returned (.int .i64 (K.sure.length : Int)) ∧ w' = w := by
  obtain ⟨cap, hb, _⟩ := h.blk
  obtain ⟨c0, c1, c2, c3, c4⟩ := disk_cells hb
  obtain ⟨L, hL⟩ : ∃ L, L = K.sure.length := ⟨_, rfl⟩
  rw [← hL] at c0 ⊢
  clear hL hb h
  go_enter Tryz.func53, Tryz.ntmps53
  go_wp2
  go_ret
  exact ⟨rfl, rfl⟩
end Go.Proofs.YtgpcinfhcamgpaaGreatDoor

namespace Go.Proofs.YtgpcinfhcamgpaaGreatDoor
open Go.RowKit
set_option linter.unusedVariables false

theorem clone_sl (v : Value) (b : List UInt8) (w : World) (h : SlB w v b) : Calls Tryz.prog 64 #[v] w fun e w' => ∃ A c, e = .returned (.slice A 64 c) ∧ 64 ≤ c ∧ c ≤ 9223372036854775807 ∧ RB w' A b ∧ b.length = 64 ∧ Below w.heap.size w w' := by
  obtain ⟨A, c, rfl, h2, h3, h4, h5⟩ := h
  refine (clone_n A 64 c b w h5 (by omega) h4).mono ?_
  rintro e w' ⟨v, rfl, hv, hb⟩
  obtain ⟨A', c', rfl, k1, k2, k3, _⟩ := hv.shape
  exact ⟨A', c', by rw [h5], by omega, by unfold maxLen at k2; omega, k3, h5, hb⟩
set_option maxRecDepth 100000 in
set_option maxHeartbeats 1000000 in
theorem read_ok {d s M n : Nat} {K : Dk} (i : Nat) (w : World) (h : DiskAt w d s M n K) (ho : K.off = false) (hi : i < K.sure.length) : Calls Tryz.prog 129 #[.pointer (some ⟨d, 0, none⟩), .int .i64 (i : Int)] w fun e w' => ∃ A c, e = .returned (.tuple #[.slice A 64 c, .int .i64 0]) ∧ 64 ≤ c ∧ c ≤ 9223372036854775807 ∧ RB w' A (K.now i) ∧ (K.now i).length = 64 ∧ Below w.heap.size w w' := by
  have HM := fun w h => Lib.hid (may_as (K := K) (d := d) (s := s) (M := M) (n := n) (i : Int) 0 w h (by unfold mayE; rw [ho, if_neg (by simp), if_neg (by omega)]))
  have HW := fun w h => Lib.hid (now_any (K := K) (d := d) (s := s) (M := M) (n := n) i w h hi)
  have HH := Lib.hid h
  clear h ho hi
  go_enter Tryz.func129, Tryz.ntmps129
  go_wp2_with fail
  refine (HM _ HH.out).out.mono ?_
  rintro e w1 ⟨rfl, rfl⟩
  go_wp2_with fail
  refine (HW _ HH.out).out.mono ?_
  rintro e w2 ⟨v, rfl, hs, rfl⟩
  have HS := Lib.hid hs
  clear hs
  go_wp2_with fail
  refine (clone_sl v _ _ HS.out).mono ?_
  rintro e w3 ⟨A, c, rfl, h1, h2, h3, h4, h5⟩
  have H3 := Lib.hid h3
  have H4 := Lib.hid h4
  clear h3 h4
  go_wp2
  go_ret2
  exact ⟨A, c, rfl, h1, h2, H3.out, H4.out, h5⟩
set_option maxRecDepth 100000 in
set_option maxHeartbeats 1000000 in
theorem read_no {d s M n : Nat} {K : Dk} (i : Int) (r : Int) (w : World) (h : DiskAt w d s M n K) (hr : mayE K i = r) (hne : r ≠ 0) : Calls Tryz.prog 129 #[.pointer (some ⟨d, 0, none⟩), .int .i64 i] w fun e w' => e = .returned (.tuple #[.slice none 0 0, .int .i64 r]) ∧ w' = w := by
  have HM := Lib.hid (may_as (K := K) i r w h hr)
  have e1 : (r != 0) = true := by rw [bne_iff_ne]; exact hne
  have e2 : (r == 0) = false := by rw [beq_eq_false_iff_ne]; exact hne
  clear h hr hne
  go_enter Tryz.func129, Tryz.ntmps129
  go_wp2_with fail
  refine HM.out.mono ?_
  rintro e w1 ⟨rfl, rfl⟩
  go_wp2
  go_ret2
  exact ⟨rfl, rfl⟩
/-- the power behind one more write or sync -/
def Dk.go (K : Dk) : Dk := if K.left = 0 then { K with off := true } else if 0 < K.left then { K with left := K.left - 1 } else K
theorem Blk.setDisk2 {w : World} {d s M len cap bytes : Nat} {left left' : Int} {off : Bool} (h : Blk w d 94 (diskV s M len cap left bytes off)) : Blk (w.setCell ⟨d, 2, none⟩ (.int .i64 left')) d 94 (diskV s M len cap left' bytes off) := by
  have := h.set_ 2 (.int .i64 left')
  unfold diskV at this ⊢
  simpa only [List.setIfInBounds_toArray, List.set_cons_zero, List.set_cons_succ] using this
theorem Blk.setDisk3 {w : World} {d s M len cap bytes bytes' : Nat} {left : Int} {off : Bool} (h : Blk w d 94 (diskV s M len cap left bytes off)) : Blk (w.setCell ⟨d, 3, none⟩ (.int .i64 (bytes' : Int))) d 94 (diskV s M len cap left bytes' off) := by
  have := h.set_ 3 (.int .i64 (bytes' : Int))
  unfold diskV at this ⊢
  simpa only [List.setIfInBounds_toArray, List.set_cons_zero, List.set_cons_succ] using this
theorem Blk.setDisk4 {w : World} {d s M len cap bytes : Nat} {left : Int} {off off' : Bool} (h : Blk w d 94 (diskV s M len cap left bytes off)) : Blk (w.setCell ⟨d, 4, none⟩ (.bool off')) d 94 (diskV s M len cap left bytes off') := by
  have := h.set_ 4 (.bool off')
  unfold diskV at this ⊢
  simpa only [List.setIfInBounds_toArray, List.set_cons_zero, List.set_cons_succ] using this
/-- the disk's own block has turned -/
theorem DiskAt.turn {w w' : World} {d s M n : Nat} {K K' : Dk} (h : DiskAt w d s M n K) (hf : Fr (· = d) w w') (cap : Nat) (hb : Blk w' d 94 (diskV s M K.sure.length cap K'.left K'.bytes K'.off)) (hc : K.sure.length ≤ cap ∧ cap ≤ 9223372036854775807)
    (h1 : K'.sure = K.sure) (h2 : K'.loose = K.loose) (h3 : -1 ≤ K'.left ∧ K'.left ≤ 9223372036854775807) (h4 : K'.bytes ≤ 64) : DiskAt w' d s M n K' := by
  have hn := h.ne
  have hN : ∀ g, g = d → g < w.heap.size → NoBy w g := fun g e _ => e ▸ h.noBy d (.inl rfl)
  obtain ⟨_, ⟨cs, hr, hr2, hr3⟩, ⟨f, hm, hm2, hm3⟩, h4', h5, h6, h7⟩ := h
  refine ⟨⟨cap, by rw [h1]; exact hb, by rw [h1]; exact hc⟩, ⟨cs, hr.fr hf (fun e => hn.1 e.symm), fun i hi => ?_, hr3⟩, ⟨f, hm.fr hf (fun e => hn.2.1 e.symm), by rw [h2]; exact hm2, fun i b hb => ?_⟩, by rw [h1]; exact h4', by rw [h1, h2]; exact h5, h3, h4⟩
  · rw [h1] at hi ⊢
    obtain ⟨v, k1, k2⟩ := hr2 i hi
    exact ⟨v, k1, k2.fr2 hf hN⟩
  · rw [h2] at hb
    obtain ⟨v, k1, k2⟩ := hm3 i b hb
    exact ⟨v, k1, k2.fr2 hf hN⟩
set_option maxRecDepth 100000 in
set_option maxHeartbeats 1000000 in
theorem goes_any {d s M n : Nat} {K : Dk} (w : World) (h : DiskAt w d s M n K) (ho : K.off = false) : Calls Tryz.prog 117 #[.pointer (some ⟨d, 0, none⟩)] w fun e w' => e = .returned (.bool K.go.off) ∧ DiskAt w' d s M n K.go ∧ Fr (· = d) w w' := by
  obtain ⟨cap, hb, hc⟩ := h.blk
  rw [ho] at hb
  obtain ⟨c0, c1, c2, c3, c4⟩ := disk_cells hb
  have hl := h.lft
  have f2 := hb.frozen 2
  have f4 := hb.frozen 4
  have HH := Lib.hid h
  have HB := Lib.hid hb
  rcases (by omega : K.left = 0 ∨ 0 < K.left ∨ K.left < 0) with h0 | h0 | h0
  · have HG : Hid (K.go = { K with off := true }) := by show _ = _; unfold Dk.go; rw [if_pos h0]
    have HK : Hid (DiskAt (w.setCell ⟨d, 4, none⟩ (.bool true)) d s M n K.go) := by
      show DiskAt _ _ _ _ _ _
      rw [HG.out]
      exact HH.out.turn (fr_cell _) cap (by have := HB.out.setDisk4 (off' := true); exact this) hc rfl rfl hl h.byt
    have HF : Hid (K.go.off = true) := by show _ = _; rw [HG.out]
    rw [h0] at c2
    clear h h0 hb hl c0 c1 c3 hc ho
    go_enter Tryz.func117, Tryz.ntmps117
    go_wp2
    go_ret
    exact ⟨by rw [HF.out]; rfl, HK.out, fr_cell _⟩
  · have HG : Hid (K.go = { K with left := K.left - 1 }) := by show _ = _; unfold Dk.go; rw [if_neg (by omega), if_pos h0]
    have HK : Hid (DiskAt (w.setCell ⟨d, 2, none⟩ (.int .i64 (K.left - 1))) d s M n K.go) := by
      show DiskAt _ _ _ _ _ _
      rw [HG.out]
      exact HH.out.turn (fr_cell _) cap (by have := HB.out.setDisk2 (left' := K.left - 1); rw [← ho] at this; exact this) hc rfl rfl (by show -1 ≤ K.left - 1 ∧ K.left - 1 ≤ _; omega) h.byt
    have HF : Hid (K.go.off = false) := by show _ = _; rw [HG.out]; exact ho
    obtain ⟨L, hL⟩ : ∃ L, L = K.left := ⟨_, rfl⟩
    rw [← hL] at c2 HK h0 hl
    have e1 : (L == 0) = false := by rw [beq_eq_false_iff_ne]; omega
    have e2 : decide (0 < L) = true := by rw [decide_eq_true_iff]; exact h0
    clear h hb c0 c1 c3 hc ho hL
    go_enter Tryz.func117, Tryz.ntmps117
    go_wp2
    go_ret
    exact ⟨by rw [HF.out]; rfl, HK.out, fr_cell _⟩
  · have HG : Hid (K.go = K) := by show _ = _; unfold Dk.go; rw [if_neg (by omega), if_neg (by omega)]
    have HF : Hid (K.go.off = false) := by show _ = _; rw [HG.out]; exact ho
    obtain ⟨L, hL⟩ : ∃ L, L = K.left := ⟨_, rfl⟩
    rw [← hL] at c2 h0 hl
    have e1 : (L == 0) = false := by rw [beq_eq_false_iff_ne]; omega
    have e2 : decide (0 < L) = false := by rw [decide_eq_false_iff_not]; omega
    clear h hb c0 c1 c3 hc ho hL
    go_enter Tryz.func117, Tryz.ntmps117
    go_wp2
    go_ret
    exact ⟨by rw [HF.out]; rfl, by rw [HG.out]; exact HH.out, Fr.refl _ _⟩
end Go.Proofs.YtgpcinfhcamgpaaGreatDoor

namespace Go.Proofs.YtgpcinfhcamgpaaGreatDoor
open Go.RowKit
attribute [local go_sem ↓] Go.wp_at_zero Go.wp_at_succ
set_option linter.unusedVariables false

def Dk.put (K : Dk) (i : Nat) (b : List UInt8) : Dk := { K with loose := fun j => if j = i then some b else K.loose j }
/-- what a write makes of a disk that is on -/
def Dk.write (K : Dk) (i : Nat) (b : List UInt8) : Dk := if K.go.off then K.go.put i (b.take K.bytes ++ (K.now i).drop K.bytes) else K.go.put i b
theorem go_sure (K : Dk) : K.go.sure = K.sure := by unfold Dk.go; split; rfl; split <;> rfl
theorem go_loose (K : Dk) : K.go.loose = K.loose := by unfold Dk.go; split; rfl; split <;> rfl
theorem go_bytes (K : Dk) : K.go.bytes = K.bytes := by unfold Dk.go; split; rfl; split <;> rfl
theorem go_now (K : Dk) (i : Nat) : K.go.now i = K.now i := by unfold Dk.now; rw [go_sure, go_loose]
theorem DiskAt.mapAt {w : World} {d s M n : Nat} {K : Dk} (h : DiskAt w d s M n K) : w.cell? ⟨d, 1, none⟩ = some (.map (some M)) := by
  obtain ⟨cap, hb, _⟩ := h.blk
  exact hb.cell 1
theorem DiskAt.bytesAt {w : World} {d s M n : Nat} {K : Dk} (h : DiskAt w d s M n K) : w.cell? ⟨d, 3, none⟩ = some (.int .i64 (K.bytes : Int)) := by
  obtain ⟨cap, hb, _⟩ := h.blk
  exact hb.cell 3
theorem disk2At {w : World} {d s M n q : Nat} {K : Dk} (h : DiskAt w d s M n K) (hq : K.bytes = q) : w.cell? ⟨d, 1, none⟩ = some (.map (some M)) ∧ w.cell? ⟨d, 3, none⟩ = some (.int .i64 (q : Int)) := ⟨h.mapAt, by rw [← hq]; exact h.bytesAt⟩
theorem disk2At' {w : World} {d s M n q i : Nat} {K : Dk} {b : List UInt8} (h : DiskAt w d s M n (K.put i b)) (hq : K.bytes = q) : w.cell? ⟨d, 1, none⟩ = some (.map (some M)) ∧ w.cell? ⟨d, 3, none⟩ = some (.int .i64 (q : Int)) := ⟨h.mapAt, by rw [← hq]; exact h.bytesAt⟩
/-- one block is put among the loose ones -/
theorem DiskAt.put {w : World} {d s M n : Nat} {K : Dk} (h : DiskAt w d s M n K) {i : Nat} (hi : i < K.sure.length) (hn : n < 1000000) {v : Value} {b : List UInt8} (hv : SlB w v b) :
    ∃ w', (Instr.mapUpdate 92 (.map (some M)) (.int .i64 (i : Int)) v).run Tryz.prog w = .ok () w' ∧ DiskAt w' d s M (n + 1) (K.put i b) ∧ Fr (· = M) w w' := by
  have hne := h.ne
  have hno := h.noBy
  obtain ⟨⟨cap, hb, hb2⟩, ⟨cs, hr, hr2, hr3⟩, ⟨f, hm, hm2, hm3⟩, h4, h5, h6, h7⟩ := h
  obtain ⟨w', hrun, hl, hf⟩ := hm.put (i := i) (by omega) (by unfold maxLen; omega) v
  have hN : ∀ g, g = M → g < w.heap.size → NoBy w g := fun g e _ => e ▸ hno M (.inr (.inr rfl))
  refine ⟨w', hrun, ⟨⟨cap, hb.fr hf hne.2.1, hb2⟩, ⟨cs, hr.fr hf hne.2.2, fun j hj => ?_, hr3⟩, ⟨_, hl, ?_, ?_⟩, h4, ?_, h6, h7⟩, hf⟩
  · obtain ⟨v, k1, k2⟩ := hr2 j hj
    exact ⟨v, k1, k2.fr2 hf hN⟩
  · intro j hj
    simp only [Dk.put] at hj
    by_cases e : j = i
    · rw [if_pos e] at hj; cases hj
    · rw [if_neg e] at hj; rw [if_neg e]; exact hm2 j hj
  · intro j b' hj
    simp only [Dk.put] at hj
    by_cases e : j = i
    · rw [if_pos e] at hj ⊢; cases hj; exact ⟨v, rfl, hv.fr2 hf hN⟩
    · rw [if_neg e] at hj ⊢
      obtain ⟨v, k1, k2⟩ := hm3 j b' hj
      exact ⟨v, k1, k2.fr2 hf hN⟩
  · intro j b' hj
    simp only [Dk.put] at hj
    by_cases e : j = i
    · subst e; exact hi
    · rw [if_neg e] at hj; exact h5 j b' hj
set_option maxRecDepth 100000 in
set_option maxHeartbeats 1000000 in
theorem write_no {d s M n : Nat} {K : Dk} (i : Int) (v : Value) (r : Int) (w : World) (h : DiskAt w d s M n K) (hr : mayE K i = r) (hne : r ≠ 0) : Calls Tryz.prog 93 #[.pointer (some ⟨d, 0, none⟩), .int .i64 i, v] w fun e w' => e = .returned (.int .i64 r) ∧ w' = w := by
  have HM := Lib.hid (may_as (K := K) i r w h hr)
  have e1 : (r != 0) = true := by rw [bne_iff_ne]; exact hne
  have e2 : (r == 0) = false := by rw [beq_eq_false_iff_ne]; exact hne
  clear h hr hne
  go_enter Tryz.func93, Tryz.ntmps93
  go_wp2_with fail
  refine HM.out.mono ?_
  rintro e w1 ⟨rfl, rfl⟩
  go_wp2
  go_ret
  exact ⟨rfl, rfl⟩
/-- a write that goes well -/
theorem fr_ds {w w' : World} {d s M : Nat} {S : Nat → Prop} (h : Fr S w w') (hS : ∀ k, S k → DS d s M k) : Fr (DS d s M) w w' := h.mono (fun k _ hk => hS k hk)
set_option maxRecDepth 100000 in
set_option maxHeartbeats 2000000 in
theorem write_on {d s M n : Nat} {K : Dk} (i : Nat) (A : Option Addr) (c : Nat) (b : List UInt8) (w : World) (h : DiskAt w d s M n K) (ho : K.off = false) (hi : i < K.sure.length) (hn : n < 1000000) (hb : RB w A b) (hbl : b.length = 64) (hc : 64 ≤ c) (hcm : c ≤ 9223372036854775807) (hgo : K.go.off = false) :
    Calls Tryz.prog 93 #[.pointer (some ⟨d, 0, none⟩), .int .i64 (i : Int), .slice A 64 c] w fun e w' => e = .returned (.int .i64 0) ∧ DiskAt w' d s M (n + 1) (K.write i b) ∧ Fr (DS d s M) w w' := by
  have HM := Lib.hid (may_as (K := K) (d := d) (s := s) (M := M) (n := n) (i : Int) 0 w h (by unfold mayE; rw [ho, if_neg (by simp), if_neg (by omega)]))
  have HG := Lib.hid (goes_any w h ho)
  rw [hgo] at HG
  have HWR : Hid (K.write i b = K.go.put i b) := by show _ = _; unfold Dk.write; rw [hgo]; rfl
  have HI : Hid (i < K.go.sure.length) := by show _ < _; rw [go_sure]; exact hi
  have HBL := Lib.hid hbl
  have HR := Lib.hid hb
  have HNB := Lib.hid h.noBy
  clear h ho hi hgo hbl hb
  go_enter Tryz.func93, Tryz.ntmps93
  go_wp2_with fail
  refine HM.out.mono ?_
  rintro e w1 ⟨rfl, rfl⟩
  go_wp2_with fail
  refine HG.out.mono ?_
  rintro e w2 ⟨rfl, hd2, hf2⟩
  have HD2 := Lib.hid hd2
  have HF2 := Lib.hid hf2
  have HR2 := Lib.hid (HR.out.fr2 hf2 (fun k e _ => e ▸ HNB.out d (.inl rfl)))
  clear hd2 hf2
  go_wp2
  go_region_held3 (fun w' => w'.cell? ⟨d, 1, none⟩ = some (.map (some M)))
    (first | exact HD2.out.drew.mapAt | exact hd5.mapAt | exact hd6.mapAt | go_keep)
    (first | (go_at_call 64; (refine (clone_sl (.slice A 64 c) b _ ⟨A, c, rfl, hc, hcm, HR2.out.drew', HBL.out⟩).mono ?_); rintro e w5 ⟨A5, c5, rfl, k1, k2, k3, k4, k5⟩; have hd5 := HD2.out.drew.below k5; obtain ⟨w6, hput, hd6, hf6⟩ := hd5.put HI.out hn ⟨A5, c5, rfl, k1, k2, k3, k4⟩; have HD6 := Lib.hid hd6; have HF6 := Lib.hid (HF2.out.drew.below k5); have HG6 := Lib.hid hf6; clear k3))
  clear hput hd5 hd6 hf6 k4 k5
  go_wp2
  go_ret
  exact ⟨rfl, by rw [HWR.out]; exact HD6.out, (fr_ds HF6.out (fun k e => .inl e)).trans (fr_ds HG6.out (fun k e => .inr (.inr e)))⟩
theorem concat2 (g : Nat) (A B : Option Addr) (n m c d : Nat) (x y : List UInt8) (W : World) (hB : Blk W g 22 #[.slice A n c, .slice B m d]) (hx : RB W A x) (hy : RB W B y) (hxn : x.length = n) (hym : y.length = m) (hnm : n + m = 64) :
    Calls Tryz.prog 63 #[.slice (some ⟨g, 0, none⟩) 2 2] W fun e w' => ∃ A5 c5, e = .returned (.slice A5 64 c5) ∧ 64 ≤ c5 ∧ c5 ≤ 9223372036854775807 ∧ RB w' A5 (x ++ y) ∧ (x ++ y).length = 64 ∧ Below W.heap.size W w' := by
  have hps : Pts W (some ⟨g, 0, none⟩) [⟨A, c, x⟩, ⟨B, d, y⟩] := by
    refine Pts.of_block (t := 22) ?_ ?_
    · simpa [Pt.v, hxn, hym] using hB
    · intro p hp
      simp only [List.mem_cons, List.not_mem_nil, or_false] at hp
      rcases hp with rfl | rfl
      · exact hx
      · exact hy
  have hcat : catP [⟨A, c, x⟩, ⟨B, d, y⟩] = x ++ y := by simp [catP]
  have hl : (x ++ y).length = 64 := by rw [List.length_append]; omega
  refine (concat_any _ 2 2 _ _ hps rfl (by omega) (by rw [hcat]; omega)).mono ?_
  rintro e w' ⟨v, rfl, hv, hb⟩
  rw [hcat] at hv
  obtain ⟨A5, c5, rfl, k1, k2, k3, _⟩ := hv.shape
  exact ⟨A5, c5, by rw [hl], by omega, by unfold maxLen at k2; omega, k3, hl, hb⟩
set_option maxRecDepth 100000 in
set_option maxHeartbeats 2000000 in
theorem write_off {d s M n : Nat} {K : Dk} (i : Nat) (A : Option Addr) (c : Nat) (b : List UInt8) (w : World) (h : DiskAt w d s M n K) (ho : K.off = false) (hi : i < K.sure.length) (hn : n < 1000000) (hb : RB w A b) (hbl : b.length = 64) (hc : 64 ≤ c) (hcm : c ≤ 9223372036854775807) (hgo : K.go.off = true) :
    Calls Tryz.prog 93 #[.pointer (some ⟨d, 0, none⟩), .int .i64 (i : Int), .slice A 64 c] w fun e w' => e = .returned (.int .i64 210) ∧ DiskAt w' d s M (n + 1) (K.write i b) ∧ Fr (DS d s M) w w' := by
  have HM := Lib.hid (may_as (K := K) (d := d) (s := s) (M := M) (n := n) (i : Int) 0 w h (by unfold mayE; rw [ho, if_neg (by simp), if_neg (by omega)]))
  have HG := Lib.hid (goes_any w h ho)
  rw [hgo] at HG
  have HWR : Hid (K.write i b = K.go.put i (b.take K.bytes ++ (K.now i).drop K.bytes)) := by show _ = _; unfold Dk.write; rw [hgo]; rfl
  have hiG : i < K.go.sure.length := by rw [go_sure]; exact hi
  have HI := Lib.hid hiG
  have HBL := Lib.hid hbl
  have HR := Lib.hid hb
  have HNB := Lib.hid h.noBy
  obtain ⟨q, hq⟩ : ∃ q, q = K.bytes := ⟨_, rfl⟩
  have hq64 : q ≤ 64 := by rw [hq]; exact h.byt
  have HQ : Hid (K.go.bytes = q) := by show _ = _; rw [go_bytes, hq]
  have HNW : Hid (K.go.now i = K.now i) := go_now K i
  rw [← hq] at HWR
  clear h ho hi hgo hbl hb hiG hq
  have q0 : (0 : Int) ≤ (q : Int) := by omega
  have q1 : (q : Int) ≤ 64 := by omega
  have q2 : (q : Int) ≤ (c : Int) := by omega
  go_enter Tryz.func93, Tryz.ntmps93
  go_wp2_with fail
  refine HM.out.mono ?_
  rintro e w1 ⟨rfl, rfl⟩
  go_wp2_with fail
  refine HG.out.mono ?_
  rintro e w2 ⟨rfl, hd2, hf2⟩
  have HD2 := Lib.hid hd2
  have HF2 := Lib.hid hf2
  have HR2 := Lib.hid (HR.out.fr2 hf2 (fun k e _ => e ▸ HNB.out d (.inl rfl)))
  clear hd2 hf2
  go_wp2
  go_region_held3 (fun w' => w'.cell? ⟨d, 1, none⟩ = some (.map (some M)) ∧ w'.cell? ⟨d, 3, none⟩ = some (.int .i64 (q : Int)))
    (first | exact disk2At HD2.out.drew HQ.out | exact disk2At (HD2.out.drew.below ((Below.refl _ _).alloc (Nat.le_refl _) _)) HQ.out | exact disk2At hd5 HQ.out | exact disk2At' hd6 HQ.out | go_keep)
    (first
      | (go_at_call 118; (refine (now_any i _ HD2.out.drew HI.out).mono ?_); rintro e w4 ⟨v, rfl, ⟨A4, c4, rfl, k1, k2, k3, k4⟩, rfl⟩; have HN4 := Lib.hid k3; have HL4 := Lib.hid k4; have q3 : (q : Int) ≤ (c4 : Int) := (by omega); clear k3 k4)
      | (go_at_call 63; (refine (concat2 w2.heap.size _ _ q (64 - q) _ _ (b.take q) ((K.go.now i).drop q) _ (Blk.new w2 22 _).drew (((HR2.out.take (by rw [HBL.out]; exact hq64)).below ((Below.refl _ _).alloc (Nat.le_refl _) _)).drew') (((HN4.out.drew'.cut (k := q) (cap := c4) (by rw [HL4.out]; exact hq64) (by rw [HL4.out]; exact k1)).below (w := w2) ((Below.refl _ _).alloc (Nat.le_refl _) _)).drew') (by rw [List.length_take, HBL.out]; omega) (by rw [List.length_drop, HL4.out]) (by omega)).mono ?_); rintro e w5 ⟨A5, c5, rfl, p1, p2, p3, p4, p5⟩; have hd5 := ((HD2.out.below ((Below.refl _ _).alloc (Nat.le_refl _) _)).drew).below p5; obtain ⟨w6, hput, hd6, hf6⟩ := hd5.put HI.out hn ⟨A5, c5, rfl, p1, p2, p3, p4⟩; have HD6 := Lib.hid hd6; have HF6 := Lib.hid (((HF2.out.alloc _).drew).below p5); have HG6 := Lib.hid hf6; clear p3; dsimp only))
  rw [HNW.out] at HD6
  clear hput hd5 hd6 hf6 p4 p5
  go_wp2
  all_goals
    go_ret
    exact ⟨rfl, by rw [HWR.out]; exact HD6.out, (fr_ds HF6.out (fun k e => .inl e)).trans (fr_ds HG6.out (fun k e => .inr (.inr e)))⟩
end Go.Proofs.YtgpcinfhcamgpaaGreatDoor

namespace Go.Proofs.YtgpcinfhcamgpaaGreatDoor
open Go.RowKit Go.Maps
set_option linter.unusedVariables false

theorem wpList_clear_run {P : Program} (w : World) {ops : Array Oper} {rest : List Oper} {o : Oper} {a : Act} {Q : Exit → Act → World → Prop} (hgd : o.guard = none) (s : Operand) (t : TypeId)
    (ho : o.op = .call { callee := .builtin .clear, args := #[s], argTypes := #[t] }) (vs : Value) (hs : a.eval s = vs)
    (v' : Value) (w' : World) (hr : (Builtin.clear_ #[t] o.type #[vs]).run P w = .ok v' w') (h : wpList P ops Q rest (a.put o.dst v') w') : wpList P ops Q (o :: rest) a w :=
  wpList_plain hgd fun _ hK => by
    unfold Oper.wp execOp
    simp only [ho, resolve, invoke, builtin, Sem.run_bind, Sem.run_pure, Result.andThen_ok, List.map_toArray, List.map_cons, List.map_nil, hs, hr]
    exact hK _ _ h
/-- all that is loose is sure -/
def Dk.sync (K : Dk) : Dk := { K.go with sure := (List.range K.sure.length).map K.now, loose := fun _ => none }
/-- the row of sure blocks on the way -/
def sureNow (K : Dk) (left : Lit → Bool) (i : Nat) : List UInt8 := match K.loose i with
  | some b => if left (keyI i) = true then K.sure.getD i [] else b
  | none => K.sure.getD i []
def RowAt (w : World) (s N : Nat) (g : Nat → List UInt8) : Prop := ∃ cs, Blk w s 22 cs ∧ (∀ i, i < N → ∃ v, cs[i]? = some v ∧ SlB w v (g i)) ∧ ∀ (k : Nat) (x : Int), cs[k]? ≠ some (.int .u8 x)
theorem RowAt.noBy {w : World} {s N : Nat} {g : Nat → List UInt8} (h : RowAt w s N g) : NoBy w s := by
  obtain ⟨cs, h1, _, h3⟩ := h
  exact NoBy.of_blk h1 h3
theorem RowAt.fr {S : Nat → Prop} {w w' : World} {s N : Nat} {g : Nat → List UInt8} (h : RowAt w s N g) (hf : Fr S w w') (hs : ¬ S s) (hN : ∀ k, S k → k < w.heap.size → NoBy w k) : RowAt w' s N g := by
  obtain ⟨cs, h1, h2, h3⟩ := h
  exact ⟨cs, h1.fr hf hs, fun i hi => by obtain ⟨v, k1, k2⟩ := h2 i hi; exact ⟨v, k1, k2.fr2 hf hN⟩, h3⟩
theorem RowAt.put {w : World} {s N : Nat} {g g' : Nat → List UInt8} (h : RowAt w s N g) {i : Nat} (hi : i < N) {v : Value} {b : List UInt8} (hv : SlB w v b) (hg : g' i = b) (ho : ∀ j, j ≠ i → g' j = g j) : RowAt (w.setCell ⟨s, i, none⟩ v) s N g' := by
  have hn := h.noBy
  obtain ⟨cs, h1, h2, h3⟩ := h
  have hf := fr_cell (w := w) (g := s) (k := i) v
  have hN : ∀ k, k = s → k < w.heap.size → NoBy w k := fun k e _ => e ▸ hn
  have hsz : i < cs.size := by
    obtain ⟨u, k1, _⟩ := h2 i hi
    exact (Array.getElem?_eq_some_iff.1 k1).1
  refine ⟨_, h1.set_ i v, fun j hj => ?_, fun k x => ?_⟩
  · by_cases e : j = i
    · subst e
      rw [hg]
      exact ⟨v, Array.getElem?_setIfInBounds_self_of_lt hsz, hv.fr2 hf hN⟩
    · obtain ⟨u, k1, k2⟩ := h2 j hj
      rw [ho j e]
      exact ⟨u, by rw [Array.getElem?_setIfInBounds_ne (fun x => e x.symm)]; exact k1, k2.fr2 hf hN⟩
  · by_cases e : k = i
    · subst e
      rw [Array.getElem?_setIfInBounds_self_of_lt hsz]
      obtain ⟨A, c, rfl, _⟩ := hv
      intro h; cases h
    · rw [Array.getElem?_setIfInBounds_ne (fun x => e x.symm)]
      exact h3 k x
theorem RowAt.cell {w : World} {s N : Nat} {g : Nat → List UInt8} (h : RowAt w s N g) {i : Nat} (hi : i < N) : ∃ v, w.cell? ⟨s, i, none⟩ = some v ∧ SlB w v (g i) := by
  obtain ⟨cs, h1, h2, _⟩ := h
  obtain ⟨v, k1, k2⟩ := h2 i hi
  exact ⟨v, by rw [h1.cell, k1], k2⟩
theorem RowAt.frozen {w : World} {s N : Nat} {g : Nat → List UInt8} (h : RowAt w s N g) (i : Nat) : w.frozen? ⟨s, i, none⟩ = false := by
  obtain ⟨cs, h1, _⟩ := h
  exact h1.frozen i
set_option maxRecDepth 100000 in
set_option maxHeartbeats 1000000 in
theorem sync_no {d s M n : Nat} {K : Dk} (w : World) (h : DiskAt w d s M n K) (ho : K.off = true) : Calls Tryz.prog 96 #[.pointer (some ⟨d, 0, none⟩)] w fun e w' => e = .returned (.int .i64 210) ∧ w' = w := by
  have HM := Lib.hid (may_as (K := K) 0 210 w h (by unfold mayE; rw [ho]; rfl))
  clear h ho
  go_enter Tryz.func96, Tryz.ntmps96
  go_wp2_with fail
  refine HM.out.mono ?_
  rintro e w1 ⟨rfl, rfl⟩
  go_wp2
  go_ret
  exact ⟨rfl, rfl⟩
set_option maxRecDepth 100000 in
set_option maxHeartbeats 1000000 in
theorem sync_off {d s M n : Nat} {K : Dk} (w : World) (h : DiskAt w d s M n K) (ho : K.off = false) (hgo : K.go.off = true) : Calls Tryz.prog 96 #[.pointer (some ⟨d, 0, none⟩)] w fun e w' => e = .returned (.int .i64 210) ∧ DiskAt w' d s M n K.go ∧ Fr (DS d s M) w w' := by
  have h1 := h.few.1
  have HM := Lib.hid (may_as (K := K) 0 0 w h (by unfold mayE; rw [ho, if_neg (by simp), if_neg (by omega)]))
  have HG := Lib.hid (goes_any w h ho)
  rw [hgo] at HG
  clear h ho h1 hgo
  go_enter Tryz.func96, Tryz.ntmps96
  go_wp2_with fail
  refine HM.out.mono ?_
  rintro e w1 ⟨rfl, rfl⟩
  go_wp2_with fail
  refine HG.out.mono ?_
  rintro e w2 ⟨rfl, hd2, hf2⟩
  have HD2 := Lib.hid hd2
  clear hd2
  go_wp2
  go_ret
  exact ⟨rfl, HD2.out, fr_ds hf2 (fun k e => .inl e)⟩
set_option maxRecDepth 100000 in
set_option maxHeartbeats 2000000 in
theorem sync_on {d s M n : Nat} {K : Dk} (w : World) (h : DiskAt w d s M n K) (ho : K.off = false) (hgo : K.go.off = false) : Calls Tryz.prog 96 #[.pointer (some ⟨d, 0, none⟩)] w fun e w' => e = .returned (.int .i64 0) ∧ DiskAt w' d s M 0 K.sync ∧ Fr (DS d s M) w w' := by
  have h1 := h.few.1
  have HM := Lib.hid (may_as (K := K) 0 0 w h (by unfold mayE; rw [ho, if_neg (by simp), if_neg (by omega)]))
  have HG := Lib.hid (goes_any w h ho)
  rw [hgo] at HG
  have HO := Lib.hid ho
  have HGO := Lib.hid hgo
  clear h ho h1 hgo
  go_enter Tryz.func96, Tryz.ntmps96
  go_wp2_with fail
  refine HM.out.mono ?_
  rintro e w1 ⟨rfl, rfl⟩
  go_wp2_with fail
  refine HG.out.mono ?_
  rintro e w2 ⟨rfl, hd2, hf2⟩
  have HD2 := Lib.hid hd2
  have HF2 := Lib.hid hf2
  have hne := hd2.ne
  have hno := hd2.noBy
  have hlt := hd2.lt
  obtain ⟨⟨cap, hb, hcap⟩, ⟨cs, hr, hr2, hr3⟩, ⟨f, hm, hm2, hm3⟩, hfew, hinn, hlft, hbyt⟩ := hd2
  obtain ⟨D, hown, hD2, hD3⟩ := hm
  obtain ⟨c0, c1, c2, c3, c4⟩ := disk_cells hb
  have HOWN := Lib.hid hown
  have HB := Lib.hid hb
  rw [go_sure] at c0 hcap hr2 hfew hinn
  rw [go_loose] at hm2 hm3 hinn
  have HROW : Hid (RowAt w2 s K.sure.length (sureNow K (has D))) := by
    refine ⟨cs, hr, fun i hi => ?_, hr3⟩
    obtain ⟨v, k1, k2⟩ := hr2 i hi
    refine ⟨v, k1, ?_⟩
    unfold sureNow
    cases hl : K.loose i with
    | none => exact k2
    | some b =>
      obtain ⟨v', q1, _⟩ := hm3 i b hl
      have hi1 := hinn i b hl
      have hh : has D (keyI i) = true := has_true_of_atKey (y := .held v') (fun z => by rw [hD2 i (by omega), q1])
      simp only [hh, if_true]
      exact k2
  have H2 := Lib.hid hm2
  have H3 := Lib.hid hm3
  have HI := Lib.hid hinn
  have HDA := Lib.hid hD2
  have HDB := Lib.hid hD3
  have HNB := Lib.hid hno
  obtain ⟨N, hN⟩ : ∃ N, N = K.sure.length := ⟨_, rfl⟩
  rw [← hN] at c0 HROW hcap hfew HI
  have HN := Lib.hid hN
  clear hb hr hr2 hr3 hm2 hm3 hinn hD2 hD3 hown hf2 hno hN hlft hbyt
  go_wp2_with (first
    | (at_range; refine wpList_range_own _ rfl _ 92 rfl 3 22 keyedI Tryz.underlying92 R0 M n D rfl HOWN.out ?_; intro w3 hrg hg3 hs3; have HRG := Lib.hid hrg; have HG3 := Lib.hid hg3; have HS3 := Lib.hid hs3; clear hrg hg3 hs3))
  have HF3 : Hid (Fr (· = s) w2 w3) := Lib.hid (Fr.of_grown (S := (· = s)) HG3.out (fun k e => by cases e))
  have HROW3 := Lib.hid (HROW.out.fr (S := fun _ => False) (Fr.of_grown HG3.out (fun k e => by cases e)) (fun h => h) (fun _ h => h.elim))
  obtain ⟨r, hr⟩ : ∃ r, r = w2.heap.size := ⟨_, rfl⟩
  rw [← hr] at HRG ⊢
  have HR := Lib.hid hr
  clear hr c0 c1 c2 c3 c4 HROW HG3 HS3
  go_frame
  go_loopw [4, 5] (fun _ _ wr => ∃ left cnt, Hid (wr.ranges Tryz.prog 3 R0 M r n D left cnt) ∧ Hid (∀ kl, left kl = true → has D kl = true) ∧ Hid (RowAt wr s N (sureNow K left)) ∧ Hid (Fr (· = s) w2 wr)) (fun _ _ wr => wr.rangeLeft M r)
  case atStart => exact ⟨_, _, HRG, Lib.hid (fun _ h => h), HROW3, HF3⟩
  case round =>
    obtain ⟨left, cnt, HRG, HLD, HROW, HF⟩ := hrel
    clear HROW3 HF3
    have hBw := HB.out.fr HF.out hne.1
    obtain ⟨c0, c1, c2, c3, c4⟩ := disk_cells hBw
    rw [go_sure, ← HN.out] at c0
    have HBW := Lib.hid hBw
    clear hBw
    have tok : True := trivial
    go_wp2_with (at_next; refine wpList_next_ranges _ rfl _ rfl 3 keyedI R0 (Value.int .i64) id (fun key kl hk => by obtain ⟨x, e, _⟩ := keyOf_int_inv Tryz.underlying3 hk; exact ⟨x, e⟩) (fun v y _ => ⟨v, rfl⟩) M r n D left cnt rfl HRG.out ?done ?more)
    case done =>
      intro hc0 hl0
      have HE : Hid (∀ i, sureNow K left i = K.now i) := by
        intro i
        unfold sureNow Dk.now
        cases K.loose i with
        | none => rfl
        | some b => rw [hl0]; rfl
      have hmap : LMap wr M n f := ⟨D, HRG.out.owns, HDA.out, HDB.out⟩
      obtain ⟨w6, hclear, hm6, hf6⟩ := hmap.clear 92
      have hNM : ∀ k, k = M → k < wr.heap.size → NoBy wr k := fun k e _ => by
        subst e
        intro o x
        rw [hmap.noCell]
        intro h; cases h
      have HM6 := Lib.hid hm6
      have HB6 := Lib.hid (HBW.out.fr hf6 hne.2.1)
      have HR6 := Lib.hid (HROW.out.fr hf6 hne.2.2 hNM)
      have HF6 := Lib.hid (((fr_ds (M := M) (s := s) (d := d) HF.out (fun k e => .inr (.inl e))).trans (fr_ds hf6 (fun k e => .inr (.inr e)))))
      have HCL := Lib.hid hclear
      clear hc0 hl0 hmap hclear hm6 hf6 hNM HBW HROW HRG HF
      go_wp2_with (refine wpList_clear_run _ rfl (.tmp 33) 92 rfl (.map (some M)) rfl _ _ HCL.out ?_)
      go_ret
      refine ⟨rfl, ⟨⟨cap, ?_, ?_⟩, ?_, ⟨_, HM6.out, (fun i _ => rfl), (fun i b h => by cases h)⟩, ?_, (fun i b h => by cases h), HD2.out.lft, HD2.out.byt⟩, (fr_ds HF2.out (fun k e => .inl e)).trans HF6.out⟩
      · have := HB6.out
        rw [go_sure] at this
        simp only [Dk.sync, List.length_map, List.length_range]
        exact this
      · simp only [Dk.sync, List.length_map, List.length_range]
        rw [← HN.out]; exact hcap
      · obtain ⟨cs, k1, k2, k3⟩ := HR6.out
        refine ⟨cs, k1, fun i hi => ?_, k3⟩
        simp only [Dk.sync, List.length_map, List.length_range] at hi
        obtain ⟨v, q1, q2⟩ := k2 i (by rw [HN.out]; exact hi)
        refine ⟨v, q1, ?_⟩
        rw [HE.out] at q2
        have e : (K.sync.sure).getD i [] = K.now i := by
          simp [Dk.sync, hi]
        rw [e]; exact q2
      · simp only [Dk.sync, List.length_map, List.length_range]
        rw [← HN.out]; exact hfew
    case more =>
      intro x c kl a b w' cnt' hkey hlk hR0 hat hrg hlt' hgr hsz hen
      obtain ⟨i, hi, rfl, hfi⟩ := HDB.out kl (HLD.out kl hlk)
      obtain ⟨x', e1, e2, _⟩ := keyOf_int_inv Tryz.underlying3 hkey
      have hxi : x = (i : Int) := by
        unfold keyI at e2
        injection e1 with _ e1
        injection e2 with _ e2
        omega
      subst hxi
      cases hl : K.loose i with
      | none => rw [H2.out i hl] at hfi; cases hfi
      | some bb =>
        obtain ⟨v, hv, hsl⟩ := H3.out i bb hl
        have h4 := (hat (.map [])).symm.trans (HDA.out i hi (.map []))
        rw [hv] at h4
        unfold R0 at hR0
        have hcv : c = v := by
          cases hR0
          cases h4
          rfl
        subst hcv
        have hiN := HI.out i bb hl
        obtain ⟨Ac, cc, hcs, t1, t2, t3, t4⟩ := hsl
        subst hcs
        have hsl : SlB w2 (.slice Ac 64 cc) bb := ⟨Ac, cc, rfl, t1, t2, t3, t4⟩
        clear t3
        have hFw : Fr (· = s) w2 w' := HF.out.grown hgr (fun k e h => by cases e; have := HR.out; omega)
        have hFr : Fr (· = r) wr w' := Fr.of_grown hgr (fun k e => by cases e; rfl)
        have hsr : s ≠ r := by have := HR.out; omega
        have hNr : ∀ k, k = r → k < wr.heap.size → NoBy wr k := fun k e _ => by
          subst e
          obtain ⟨_, _, _, _, _, _, _, _, _, hit, _⟩ := HRG.out
          intro o x
          simp [World.cell?, hit]
        have hrow := HROW.out.fr hFr hsr hNr
        have hsl' := hsl.fr2 hFw (fun k e _ => e ▸ HNB.out s (.inr (.inl rfl)))
        obtain ⟨u, hu, _⟩ := hrow.cell hiN
        have hfz := hrow.frozen i
        have HROW2 := Lib.hid (hrow.put (g' := sureNow K (fun z => left z && !z.sameKey (keyI i))) hiN hsl' (by
          unfold sureNow
          rw [hl]
          have : (keyI i).sameKey (keyI i) = true := WideAt.sameKey_self (keyI_lit i)
          simp [this]) (fun j hj => by
          unfold sureNow
          have : (keyI j).sameKey (keyI i) = false := sameKey_ne (fun e => hj (keyI_inj e))
          simp [this]))
        have HF2' := Lib.hid (hFw.setCell (p := ⟨s, i, none⟩) (fun _ => rfl) (.slice Ac 64 cc))
        have hgs : (w'.setCell ⟨s, i, none⟩ (.slice Ac 64 cc)).heap.size = w'.heap.size := by simp [World.setCell]
        have HRG2 : Hid ((w'.setCell ⟨s, i, none⟩ (.slice Ac 64 cc)).ranges Tryz.prog 3 R0 M r n D (fun z => left z && !z.sameKey (keyI i)) cnt') := by
          refine Lib.hid (hrg.kept (row := some s) ⟨rfl, rfl, rfl, by rw [hgs]; exact Nat.le_refl _, fun k _ hk => Below.heap_setCell _ _ _ _ (fun e => hk (by rw [e]))⟩ (by intro e; cases e; exact hne.2.2 rfl) (by intro e; cases e; exact hsr rfl))
        have HLD2 : Hid (∀ kl, (left kl && !kl.sameKey (keyI i)) = true → has D kl = true) := by
          intro kl h
          rw [Bool.and_eq_true] at h
          exact HLD.out kl h.1
        have hBw' := HB.out.fr hFw hne.1
        obtain ⟨d0, d1, d2, d3, d4⟩ := disk_cells hBw'
        rw [go_sure, ← HN.out] at d0
        have HMEAS : Hid (cnt' < cnt) := hlt'
        have HRGo := HRG
        have hi0 : (0 : Int) ≤ (i : Int) := by omega
        have hi1 : (i : Int) < (N : Int) := by omega
        clear hkey hlk hR0 hat hrg hlt' hgr hsz hfi e1 e2 h4 hl hv hsl hiN hFw hFr hsr hNr hrow hsl' hgs hBw' HROW HF HBW HLD c0 c1 c2 c3 c4 HRG
        go_wp2
        go_roundw
        case rel => exact ⟨_, cnt', HRG2, HLD2, HROW2, HF2'⟩
        case measure => rw [HRG2.out.left_eq, HRGo.out.left_eq]; exact HMEAS.out
end Go.Proofs.YtgpcinfhcamgpaaGreatDoor

namespace Go.Proofs.YtgpcinfhcamgpaaGreatDoor
open Go.RowKit
set_option linter.unusedVariables false

def stopBad (n b : Int) : Bool := decide (n < -1) || (decide (b < 0) || decide (64 < b))
def stopE (K : Dk) (n b : Int) : Int := if K.off then 210 else if stopBad n b then 1 else 0
def Dk.stop (K : Dk) (n b : Int) : Dk := if K.off then K else if stopBad n b then K else { K with left := n, bytes := b.toNat }
set_option maxRecDepth 100000 in
set_option maxHeartbeats 1000000 in
theorem stop_any {d s M m : Nat} {K : Dk} (n b : Int) (w : World) (h : DiskAt w d s M m K) (hn : n ≤ 9223372036854775807) : Calls Tryz.prog 25 #[.pointer (some ⟨d, 0, none⟩), .int .i64 n, .int .i64 b] w fun e w' => e = .returned (.int .i64 (stopE K n b)) ∧ DiskAt w' d s M m (K.stop n b) ∧ Fr (· = d) w w' := by
  have h1 := h.few.1
  cases ho : K.off with
  | true =>
    have HM := Lib.hid (may_as (K := K) 0 210 w h (by unfold mayE; rw [ho]; rfl))
    have HE : Hid (stopE K n b = 210) := by show _ = _; unfold stopE; rw [ho]; rfl
    have HK : Hid (K.stop n b = K) := by show _ = _; unfold Dk.stop; rw [ho]; rfl
    have HH := Lib.hid h
    clear h ho h1
    go_enter Tryz.func25, Tryz.ntmps25
    go_wp2_with fail
    refine HM.out.mono ?_
    rintro e w1 ⟨rfl, rfl⟩
    go_wp2
    go_ret
    exact ⟨by rw [HE.out]; rfl, by rw [HK.out]; exact HH.out, Fr.refl _ _⟩
  | false =>
    have HM := Lib.hid (may_as (K := K) 0 0 w h (by unfold mayE; rw [ho, if_neg (by simp), if_neg (by omega)]))
    have HE : Hid (stopE K n b = if stopBad n b then 1 else 0) := by show _ = _; unfold stopE; rw [ho]; rfl
    have HK : Hid (K.stop n b = if stopBad n b then K else { K with left := n, bytes := b.toNat }) := by show _ = _; unfold Dk.stop; rw [ho]; rfl
    have HH := Lib.hid h
    by_cases c1 : n < -1
    · have e1 : decide (n < -1) = true := by rw [decide_eq_true_iff]; exact c1
      have HB : Hid (stopBad n b = true) := by show _ = _; unfold stopBad; rw [e1]; rfl
      clear h ho h1 c1
      go_enter Tryz.func25, Tryz.ntmps25
      go_wp2_with fail
      refine HM.out.mono ?_
      rintro e w1 ⟨rfl, rfl⟩
      go_wp2
      go_ret
      exact ⟨by rw [HE.out, HB.out]; rfl, by rw [HK.out, HB.out]; exact HH.out, Fr.refl _ _⟩
    have e1 : decide (n < -1) = false := by rw [decide_eq_false_iff_not]; exact c1
    by_cases c2 : b < 0
    · have e2 : decide (b < 0) = true := by rw [decide_eq_true_iff]; exact c2
      have HB : Hid (stopBad n b = true) := by show _ = _; unfold stopBad; rw [e1, e2]; rfl
      clear h ho h1 c1 c2
      go_enter Tryz.func25, Tryz.ntmps25
      go_wp2_with fail
      refine HM.out.mono ?_
      rintro e w1 ⟨rfl, rfl⟩
      go_wp2
      go_ret
      exact ⟨by rw [HE.out, HB.out]; rfl, by rw [HK.out, HB.out]; exact HH.out, Fr.refl _ _⟩
    have e2 : decide (b < 0) = false := by rw [decide_eq_false_iff_not]; exact c2
    by_cases c3 : 64 < b
    · have e3 : decide (64 < b) = true := by rw [decide_eq_true_iff]; exact c3
      have HB : Hid (stopBad n b = true) := by show _ = _; unfold stopBad; rw [e1, e2, e3]; rfl
      clear h ho h1 c1 c2 c3
      go_enter Tryz.func25, Tryz.ntmps25
      go_wp2_with fail
      refine HM.out.mono ?_
      rintro e w1 ⟨rfl, rfl⟩
      go_wp2
      go_ret
      exact ⟨by rw [HE.out, HB.out]; rfl, by rw [HK.out, HB.out]; exact HH.out, Fr.refl _ _⟩
    have e3 : decide (64 < b) = false := by rw [decide_eq_false_iff_not]; exact c3
    have HB : Hid (stopBad n b = false) := by show _ = _; unfold stopBad; rw [e1, e2, e3]; rfl
    obtain ⟨k, rfl⟩ := Int.eq_ofNat_of_zero_le (show 0 ≤ b by omega)
    obtain ⟨cap, hb, hc⟩ := h.blk
    have f2 := hb.frozen 2
    have f3 := hb.frozen 3
    obtain ⟨d0, d1, d2, d3, d4⟩ := disk_cells hb
    have hf : Fr (· = d) w ((w.setCell ⟨d, 2, none⟩ (.int .i64 n)).setCell ⟨d, 3, none⟩ (.int .i64 (k : Int))) := (fr_cell _).setCell (p := ⟨d, 3, none⟩) (fun _ => rfl) _
    have HF := Lib.hid hf
    have HD : Hid (DiskAt ((w.setCell ⟨d, 2, none⟩ (.int .i64 n)).setCell ⟨d, 3, none⟩ (.int .i64 (k : Int))) d s M m { K with left := n, bytes := k }) := by
      refine Lib.hid (h.turn hf cap ?_ hc rfl rfl (by show -1 ≤ n ∧ n ≤ _; omega) (by show k ≤ 64; omega))
      exact (Blk.setDisk2 (left' := n) hb).setDisk3
    clear h ho h1 c1 c2 c3 hf hb d0 hc
    go_enter Tryz.func25, Tryz.ntmps25
    go_wp2_with fail
    refine HM.out.mono ?_
    rintro e w1 ⟨rfl, rfl⟩
    go_wp2
    go_ret
    exact ⟨by rw [HE.out, HB.out]; rfl, by rw [HK.out, HB.out]; exact HD.out, HF.out⟩
end Go.Proofs.YtgpcinfhcamgpaaGreatDoor

namespace Go.Proofs.YtgpcinfhcamgpaaGreatDoor
open Go.RowKit
set_option linter.unusedVariables false

theorem infoSl : (Tryz.prog.info? 22).map (fun i => (i.zero, i.size, i.bytes)) = some (some (.slice none 0 0), 1, 24) := by kernel_rfl
def zeros64 : List UInt8 := List.replicate 64 0
/-- a disk of zeros -/
def Dk.zero (N : Nat) : Dk := { sure := List.replicate N zeros64, loose := fun _ => none, left := -1, bytes := 0, off := false }
def newE (N : Int) : Int := if N < 1 ∨ 16384 < N then 1 else 0
set_option maxRecDepth 100000 in
set_option maxHeartbeats 1000000 in
theorem dnew_no (N : Int) (w : World) (h : N < 1 ∨ 16384 < N) : Calls Tryz.prog 24 #[.int .i64 N] w fun e w' => e = .returned (.tuple #[.pointer none, .int .i64 1]) ∧ w' = w := by
  rcases (by omega : N < 1 ∨ (¬ N < 1 ∧ 16384 < N)) with h | ⟨h1, h⟩
  · have e1 : decide (N < 1) = true := by rw [decide_eq_true_iff]; exact h
    clear h
    go_enter Tryz.func24, Tryz.ntmps24
    go_wp2
    go_ret2
    exact ⟨rfl, rfl⟩
  · have e1 : decide (N < 1) = false := by rw [decide_eq_false_iff_not]; exact h1
    have e2 : decide (16384 < N) = true := by rw [decide_eq_true_iff]; exact h
    clear h h1
    go_enter Tryz.func24, Tryz.ntmps24
    go_wp2
    go_ret2
    exact ⟨rfl, rfl⟩
theorem reads_new (W0 : World) (e : TypeId) (x : Value) (g : Nat) (hg : W0.heap.size = g) : Reads (W0.alloc (.cells #[x] e)) (g + 1) 1 (some ⟨g, 0, none⟩) 1 [x] := by
  subst hg
  refine ⟨rfl, fun _ => ⟨_, rfl, Nat.lt_succ_self _, fun j u hu => ?_⟩⟩
  rw [Addr.add_lit, Nat.zero_add, (Blk.new W0 e #[x]).cell j]
  simpa using hu
/-- what New's loop keeps -/
structure NewInv (w wr : World) (k : Nat) (v : Value) (xs : List Value) : Prop where
  len : xs.length = k
  own : OR 22 wr (w.heap.size + 2) v xs
  cln : Clean wr v
  els : ∀ x ∈ xs, SlB wr x zeros64
  blk : Blk wr (w.heap.size + 1) 94 #[v, .map (some w.heap.size), .int .i64 (-1), .int .i64 0, .bool false]
  map : LMap wr w.heap.size 0 (fun _ => none)
  bel : Below w.heap.size w wr
  siz : w.heap.size + 2 ≤ wr.heap.size
theorem OR.noByte {e : TypeId} {w : World} {base : Nat} {v : Value} {xs : List Value} (h : OR e w base v xs) (x : Int) : v ≠ .int .u8 x := by
  obtain ⟨A, c, rfl, _⟩ := h.shape
  intro h; cases h
theorem newV_noBy {v : Value} (hv : ∀ x : Int, v ≠ .int .u8 x) (M : Nat) (k : Nat) (x : Int) : (#[v, .map (some M), .int .i64 (-1), .int .i64 0, .bool false] : Array Value)[k]? ≠ some (.int .u8 x) := by
  rcases (by omega : k = 0 ∨ k = 1 ∨ k = 2 ∨ k = 3 ∨ k = 4 ∨ 5 ≤ k) with rfl | rfl | rfl | rfl | rfl | h
  · intro h
    simp only [List.getElem?_toArray, List.getElem?_cons_zero] at h
    injection h with h
    exact hv x h
  all_goals first | (intro h; cases h) | (rw [Array.getElem?_eq_none (by simpa using h)]; intro h; cases h)
theorem NewInv.step {w wr w' : World} {k : Nat} {v v' : Value} {xs : List Value} (h : NewInv w wr k v xs) {Z : Array Value} (hZ : Z = (Lib.byteCells zeros64).toArray) {o : Obj}
    (hg : (((wr.alloc (.cells Z 5)).alloc o).drew).grownBy w' v.ownBlock) (ho : OR 22 w' (w.heap.size + 2) v' (xs ++ [Value.slice (some ⟨wr.heap.size, 0, none⟩) 64 64])) (hc : Clean w' v') :
    NewInv w (w'.setCell ⟨w.heap.size + 1, 0, none⟩ v') (k + 1) v' (xs ++ [Value.slice (some ⟨wr.heap.size, 0, none⟩) 64 64]) := by
  subst hZ
  have hf : Fr (fun g => v.ownBlock = some g) wr w' := ((((Fr.refl _ wr).alloc _).alloc _).drew).grown hg (fun g e _ => e)
  have hf2 : Fr (fun g => v.ownBlock = some g) (((wr.alloc (.cells (Lib.byteCells zeros64).toArray 5)).alloc o).drew) w' := Fr.of_grown hg (fun g e => e)
  have hlt := fun g (e : v.ownBlock = some g) => h.own.lt g e
  have hge := fun g (e : v.ownBlock = some g) => h.own.ge g e
  have hge' := fun g (e : v'.ownBlock = some g) => ho.ge g e
  have hb' : Blk w' (w.heap.size + 1) 94 #[v, .map (some w.heap.size), .int .i64 (-1), .int .i64 0, .bool false] := h.blk.fr hf (fun e => by have := hge _ e; omega)
  have hnb : NoBy w' (w.heap.size + 1) := NoBy.of_blk hb' (newV_noBy (fun x => h.own.noByte x) _)
  have hfc : Fr (· = w.heap.size + 1) w' (w'.setCell ⟨w.heap.size + 1, 0, none⟩ v') := fr_cell v'
  have hZ' : RB w' (some ⟨wr.heap.size, 0, none⟩) zeros64 := by
    have h1 : RB (((wr.alloc (.cells (Lib.byteCells zeros64).toArray 5)).alloc o).drew) (some ⟨wr.heap.size, 0, none⟩) zeros64 := RB.of_blk (t := 5) ((((Blk.new wr 5 (Lib.byteCells zeros64).toArray)).alloc o).drew)
    refine RB.fr h1 hf2 (fun ad e e2 => ?_)
    cases e
    have := hlt _ e2
    simp at this
  refine ⟨by rw [List.length_append, h.len]; rfl, ho.fr hfc (fun g e e2 => by have := hge' g e; omega), hc.fr hfc (fun g e => ⟨ho.lt g e, fun e2 => by have := hge' g e; omega⟩), ?_, ?_, ?_, ?_, ?_⟩
  · intro x hx
    rcases List.mem_append.1 hx with hx | hx
    · exact ((h.els x hx).fr2 hf (fun g e _ => h.cln g e)).fr2 hfc (fun g e _ => by subst e; exact hnb)
    · rw [List.mem_singleton] at hx
      subst hx
      exact ⟨_, _, rfl, by omega, by omega, hZ'.fr2 hfc (fun g e _ => by subst e; exact hnb), rfl⟩
  · exact hb'.set_ 0 v'
  · exact (h.map.fr hf (fun e => by have := hge _ e; omega)).fr hfc (fun e => by omega)
  · exact Fr.below_trans (Fr.below_trans h.bel hf (by have := h.siz; omega) (fun g e => by have := hge g e; omega)) hfc (by have := h.siz; have := hf.size; omega) (fun g e => by omega)
  · have := hfc.size; have := hf.size; have := h.siz; omega

theorem reads_new2 (W0 : World) (e : TypeId) (x : Value) (g : Nat) (hg : W0.heap.size = g) : Reads ((W0.alloc (.cells #[x] e)).drew) (g + 1) 1 (some ⟨g, 0, none⟩) 1 [x] := reads_new W0 e x g hg
theorem NewInv.done {w wr : World} {N : Nat} {v : Value} {xs : List Value} (h : NewInv w wr N v xs) (h1 : 1 ≤ N) (h2 : N ≤ 16384) : ∃ s, w.heap.size ≤ s ∧ DiskAt wr (w.heap.size + 1) s w.heap.size 0 (Dk.zero N) := by
  rcases h.own.2 with ⟨rfl, h0⟩ | ⟨g, cap, cur, rfl, hg, hh, hn, hm, hs, ht⟩
  · have := h.len; omega
  · have hl := h.len
    refine ⟨g, by omega, ⟨cap, ?_, ?_, ?_⟩, ⟨cur, hh, fun i hi => ?_, fun k x e => ?_⟩, ⟨_, h.map, fun i _ => rfl, fun i b e => (by cases e)⟩, ?_, fun i b e => (by cases e), by simp [Dk.zero], by simp [Dk.zero]⟩
    · have := h.blk
      simp only [diskV, Dk.zero, List.length_replicate]
      rw [hl] at this
      exact this
    · simp [Dk.zero]; omega
    · simpa [maxLen] using hm
    · have hi' : i < xs.length := by simp [Dk.zero] at hi; omega
      refine ⟨xs[i], ?_, ?_⟩
      · have e : cur.toList[i]? = xs[i]? := by
          rw [← ht, List.getElem?_take, if_pos (by omega)]
        rw [List.getElem?_eq_getElem hi'] at e
        simpa using e
      · have : (Dk.zero N).sure.getD i [] = zeros64 := by
          simp only [Dk.zero] at hi ⊢
          rw [List.getD_eq_getElem?_getD, List.getElem?_replicate, if_pos (by simpa using hi)]
          rfl
        rw [this]
        exact h.els _ (List.getElem_mem hi')
    · have := h.cln g rfl k x
      rw [Blk.cell hh] at this
      exact this e
    · simp only [Dk.zero, List.length_replicate]
      exact ⟨h1, h2⟩
set_option maxRecDepth 100000 in
set_option maxHeartbeats 2000000 in
theorem dnew_yes (N : Nat) (w : World) (h1 : 1 ≤ N) (h2 : N ≤ 16384) : Calls Tryz.prog 24 #[.int .i64 (N : Int)] w fun e w' => ∃ d s M, e = .returned (.tuple #[.pointer (some ⟨d, 0, none⟩), .int .i64 0]) ∧ w.heap.size ≤ d ∧ w.heap.size ≤ s ∧ w.heap.size ≤ M ∧ DiskAt w' d s M 0 (Dk.zero N) ∧ Below w.heap.size w w' := by
  have e1 : decide ((N : Int) < 1) = false := by rw [decide_eq_false_iff_not]; omega
  have e2 : decide (16384 < (N : Int)) = false := by rw [decide_eq_false_iff_not]; omega
  have hmm := @run_makeMap Tryz.prog
  obtain ⟨Z, hZ⟩ : ∃ Z, Z = (Lib.byteCells zeros64).toArray := ⟨_, rfl⟩
  have RM : ∀ w, (Instr.makeSlice 22 (.int .i64 64) (.int .i64 64)).run Tryz.prog w = .ok (.slice (some ⟨w.heap.size, 0, none⟩) 64 64) (w.alloc (.cells Z 5)) := fun w => by
    have := run_make_bytes 64 (by omega) w
    rw [made_zeros] at this
    rw [hZ]
    exact this
  have HZ := Lib.hid hZ
  clear hZ
  go_enter Tryz.func24, Tryz.ntmps24
  go_wp2
  have HI0 : Hid (NewInv w ((w.alloc (.map #[] 0)).alloc (.cells #[.slice none 0 0, .map (some w.heap.size), .int .i64 (-1), .int .i64 0, .bool false] 94)) 0 (.slice none 0 0) []) := by
    refine Lib.hid ⟨rfl, OR.nil _ _ _, Clean.nil _, fun x h => (by cases h), ?_, ?_, ?_, ?_⟩
    · simpa using Blk.new (w.alloc (.map #[] 0)) 94 #[.slice none 0 0, .map (some w.heap.size), .int .i64 (-1), .int .i64 0, .bool false]
    · exact (LMap.new w).below ((Below.refl _ _).alloc (Nat.le_refl _) _)
    · exact ((Below.refl _ _).alloc (Nat.le_refl _) _).alloc (by simp) _
    · simp
  clear hmm
  generalize (w.alloc (.map #[] 0)).alloc (.cells #[.slice none 0 0, .map (some w.heap.size), .int .i64 (-1), .int .i64 0, .bool false] 94) = w1 at HI0 ⊢
  go_loopw [15] (fun i wr => ∃ (k : Nat) (v : Value) (xs : List Value), k ≤ N ∧ i = .int .i64 k ∧ Hid (NewInv w wr k v xs)) (fun i _ => N - (intOf i).toNat)
  case atStart => exact ⟨0, _, [], Nat.zero_le _, rfl, HI0⟩
  case round =>
    obtain ⟨k, v, xs, hk, rfl, HI⟩ := hrel
    clear HI0
    rcases (by omega : k < N ∨ k = N) with hlt | heq
    · have hki : decide ((k : Int) < (N : Int)) = true := by rw [decide_eq_true_iff]; omega
      have HL := Lib.hid HI.out.len
      have HS := Lib.hid HI.out.siz
      have c0 := HI.out.blk.cell 0
      have f0 := HI.out.blk.frozen 0
      simp only [List.getElem?_toArray, List.getElem?_cons_zero] at c0
      have ca : ∀ o, (wr.alloc o).cell? ⟨w.heap.size + 1, 0, none⟩ = some v := fun o => (HI.out.blk.alloc o).cell 0
      have cb : ∀ o o', ((wr.alloc o).alloc o').cell? ⟨w.heap.size + 1, 0, none⟩ = some v := fun o o' => ((HI.out.blk.alloc o).alloc o').cell 0
      obtain ⟨i0, hi0, hz0, hz1, hz2⟩ := info_parts infoSl
      go_wp2
      go_region_law ((refine step_append_clean _ (by rfl) (.tmp 21) (.tmp 23) 64 (by rfl) (w.heap.size + 2) 22 i0 _ 24 Tryz.underlying64 hi0 hz0 hz1 hz2 (by rfl) (fun x e => by cases e) v xs.length xs (by rfl) (((HI.out.own.alloc (.cells Z 5)).alloc (.cells #[.slice (some ⟨wr.heap.size, 0, none⟩) 64 64] 22)).drew) (HI.out.cln.fr ((((Fr.refl (fun _ => False) wr).alloc (.cells Z 5)).alloc (.cells #[.slice (some ⟨wr.heap.size, 0, none⟩) 64 64] 22)).drew) (fun g e => ⟨HI.out.own.lt g e, fun h => h⟩)) (wr.heap.size + 2) ⟨wr.heap.size + 1, 0, none⟩ 1 1 [.slice (some ⟨wr.heap.size, 0, none⟩) 64 64] (by rfl) (reads_new2 (wr.alloc (.cells Z 5)) 22 _ (wr.heap.size + 1) (by simp)) (by omega) (by simp [Value.oneCell']) (fun u hu x e => by rw [List.mem_singleton] at hu; rw [hu] at e; cases e) (by have := HL.out; unfold maxLen; omega) (by have := HL.out; omega) (by have := HS.out; simp; omega) ?_; intro v' w' ho hg hat hcl; obtain ⟨A', c', rfl, _⟩ := OR.shape (show OR 22 w' (w.heap.size + 2) v' (xs ++ [Value.slice (some ⟨wr.heap.size, 0, none⟩) 64 64]) from (by simpa [OR] using ho)); have HN := Lib.hid (HI.out.step HZ.out hg (by simpa [OR] using ho) hcl); have hDw := Blk.grown (((HI.out.blk.alloc (.cells Z 5)).alloc (.cells #[.slice (some ⟨wr.heap.size, 0, none⟩) 64 64] 22)).drew) hg (fun e => by have := HI.out.own.ge _ e.symm; omega); have g0 := hDw.cell 0; have g1 := hDw.frozen 0; simp only [List.getElem?_toArray, List.getElem?_cons_zero] at g0; clear hDw ho hg hcl))
      all_goals simp only [List.length_append, List.length_singleton] at HN
      all_goals clear g0 g1 hat c0 f0 ca cb
      all_goals go_wp2
      all_goals go_roundw
      all_goals first | exact ⟨k + 1, _, _, by omega, by go_num, HN⟩ | (simp [intOf]; omega)
    · have hki : decide ((k : Int) < (N : Int)) = false := by rw [decide_eq_false_iff_not]; omega
      have hkn : decide (k < N) = false := by rw [decide_eq_false_iff_not]; omega
      obtain ⟨s, hs, hD⟩ := NewInv.done (heq ▸ HI.out) h1 h2
      have HD := Lib.hid hD
      have HB := Lib.hid HI.out.bel
      clear hD heq
      go_wp2
      go_ret2
      exact ⟨_, s, _, rfl, by omega, hs, by omega, HD.out, HB.out⟩
end Go.Proofs.YtgpcinfhcamgpaaGreatDoor

namespace Go.Proofs.YtgpcinfhcamgpaaGreatDoor
open Go.RowKit
set_option linter.unusedVariables false

/-- what a crash is told to keep: pairs of numbers, below block B -/
def KptAt (w : World) (B : Nat) (A : Option Addr) (l : List (Int × Int)) : Prop :=
  ∀ (i : Nat) (p : Int × Int), l[i]? = some p → ∃ ad : Addr, A = some ad ∧ ad.block < B ∧ w.cell? (ad.add (i * 2)) = some (.int .i64 p.1) ∧ w.cell? ⟨(ad.add (i * 2)).block, (ad.add (i * 2)).off + 1, none⟩ = some (.int .i64 p.2) ∧ (Lit.int .i64 p.1).wf = true ∧ (Lit.int .i64 p.2).wf = true
theorem KptAt.below {w w' : World} {B : Nat} {A : Option Addr} {l : List (Int × Int)} (h : KptAt w B A l) (hb : Below B w w') : KptAt w' B A l := by
  intro i p hp
  obtain ⟨ad, e, hlt, h1, h2, h3⟩ := h i p hp
  exact ⟨ad, e, hlt, (hb.cell (by rw [block_of_add]; exact hlt)).trans h1, (hb.cell (show _ < B from by show (ad.add (i * 2)).block < B; rw [block_of_add]; exact hlt)).trans h2, h3⟩
/-- what keeps asks of each pair -/
def mayKeep (K : Dk) (p : Int × Int) : Prop := 0 ≤ p.1 ∧ (K.loose p.1.toNat).isSome = true ∧ 0 ≤ p.2 ∧ p.2 ≤ 64
def KeepsPost (K : Dk) (l : List (Int × Int)) (w : World) (e : Ending) (w' : World) : Prop := ∃ r : Bool, e = .returned (.bool r) ∧ (l = [] → r = true) ∧ (r = true → ∀ p ∈ l, mayKeep K p) ∧ Below w.heap.size w w'
set_option maxRecDepth 100000 in
set_option maxHeartbeats 1000000 in
theorem keeps_any {d s M n : Nat} {K : Dk} (A : Option Addr) (c : Nat) (l : List (Int × Int)) (w : World) (h : DiskAt w d s M n K) (hl : l.length ≤ 1000) (hA : KptAt w w.heap.size A l) :
    Calls Tryz.prog 62 #[.pointer (some ⟨d, 0, none⟩), .slice A l.length c] w fun e w' => KeepsPost K l w e w' := by
  have HD := Lib.hid h
  have HA := Lib.hid hA
  have hmm := @run_makeMap Tryz.prog
  obtain ⟨N, hN⟩ : ∃ N, N = l.length := ⟨_, rfl⟩
  rw [← hN] at hl ⊢
  have HN := Lib.hid hN
  clear h hA hN
  go_enter Tryz.func62, Tryz.ntmps62
  go_wp2
  have HB0 : Hid (BMap (w.alloc (.map #[] 0)) w.heap.size 0) := Lib.hid (BMap.new w)
  have HL0 : Hid (Below w.heap.size w (w.alloc (.map #[] 0))) := Lib.hid ((Below.refl _ _).alloc (Nat.le_refl _) _)
  clear hmm
  generalize w.alloc (.map #[] 0) = w1 at HB0 HL0 ⊢
  go_loopw [13] (fun i wr => ∃ k : Nat, k ≤ N ∧ i = .int .i64 k ∧ Hid (BMap wr w.heap.size k) ∧ Hid (Below w.heap.size w wr) ∧ Hid (∀ p ∈ l.take k, mayKeep K p)) (fun i _ => N - (intOf i).toNat)
  case atStart => exact ⟨0, Nat.zero_le _, rfl, HB0, HL0, Lib.hid (fun p hp => by simp at hp)⟩
  case round =>
    obtain ⟨k, hk, rfl, HB, HW, HR⟩ := hrel
    clear HB0 HL0
    rcases (by omega : k < N ∨ k = N) with hlt | heq
    · have hki : decide ((k : Int) < (N : Int)) = true := by rw [decide_eq_true_iff]; omega
      have hkn : decide (k < N) = true := by rw [decide_eq_true_iff]; omega
      obtain ⟨p, hp⟩ : ∃ p, l[k]? = some p := ⟨l[k]'(by have := HN.out; omega), List.getElem?_eq_getElem _⟩
      obtain ⟨ad, hA, hB, c1, c2, wf1, wf2⟩ := (HA.out.below HW.out) k p hp
      have HP := Lib.hid hp
      have WF1 := Lib.hid wf1
      have WF2 := Lib.hid wf2
      subst hA
      clear hp wf1 wf2
      go_wp2_with fail
      have hD4 : DiskAt (wr.alloc (.cells #[.int .i64 p.1, .int .i64 p.2] 98)) d s M n K := HD.out.below (HW.out.alloc HW.out.size _)
      have hz := Blk.new wr 98 #[.int .i64 p.1, .int .i64 p.2]
      have cz0 := hz.cell 0
      have cz1 := hz.cell 1
      simp only [List.getElem?_toArray, List.getElem?_cons_zero, List.getElem?_cons_succ] at cz0 cz1
      have HB4 := Lib.hid (HB.out.below ((Below.refl wr.heap.size wr).alloc (Nat.le_refl _) (.cells #[.int .i64 p.1, .int .i64 p.2] 98)))
      have HW4 := Lib.hid (HW.out.alloc HW.out.size (.cells #[.int .i64 p.1, .int .i64 p.2] 98))
      clear hz c1 c2
      generalize wr.heap.size = Z at cz0 cz1 ⊢
      generalize wr.alloc (.cells #[.int .i64 p.1, .int .i64 p.2] 98) = W4 at hD4 cz0 cz1 HB4 HW4 ⊢
      clear HB HW
      obtain ⟨v0, is, RL, his⟩ : ∃ (v0 : Value) (is : Bool), (Instr.lookup 92 (.map (some M)) (.int .i64 p.1) true).run Tryz.prog W4.drew = .ok (.tuple #[v0, .bool is]) W4.drew ∧ (is = true → 0 ≤ p.1 ∧ (K.loose p.1.toNat).isSome = true) := by
        obtain ⟨f, hm, hm2, _⟩ := hD4.drew.map
        by_cases hfar : p.1 < 0 ∨ 1000000 ≤ p.1
        · exact ⟨_, false, hm.look_far WF1.out hfar true, fun e => by cases e⟩
        · obtain ⟨i, hi⟩ : ∃ i : Nat, p.1 = i := ⟨p.1.toNat, by omega⟩
          rw [hi]
          refine ⟨_, _, hm.look (by omega), fun e => ⟨by omega, ?_⟩⟩
          rw [Int.toNat_natCast]
          cases hl : K.loose i with
          | none => rw [hm2 i hl] at e; cases e
          | some b => rfl
      have hwd : Below w.heap.size w W4.drew := ⟨HW4.out.os, HW4.out.tape, HW4.out.output, HW4.out.size, HW4.out.block⟩
      have HWD := Lib.hid hwd
      have hB4d : BMap W4.drew w.heap.size k := HB4.out.of_block rfl
      obtain ⟨b, RB⟩ := hB4d.look WF1.out
      obtain ⟨W5, RP, hB5, hF5⟩ := hB4d.put WF1.out (by unfold maxLen; omega)
      obtain ⟨cap, hb, _⟩ := hD4.blk
      obtain ⟨_, cd1, _, _, _⟩ := disk_cells hb
      have HIS := Lib.hid his
      have HB5 := Lib.hid hB5
      have HW5 := Lib.hid (Fr.below_trans hwd hF5 HW4.out.size (fun k e => by omega))
      have hne : l ≠ [] := fun e => by have := HN.out; rw [e] at this; simp at this; omega
      have HNE := Lib.hid hne
      clear hwd hb his hB5 hF5 hne HB4 hB4d
      go_region
      cases is with
      | false =>
        go_wp2
        go_ret
        exact ⟨false, rfl, fun e => absurd e HNE.out, fun e => (by cases e), HWD.out⟩
      | true =>
        cases b with
        | true =>
          go_wp2
          go_ret
          exact ⟨false, rfl, fun e => absurd e HNE.out, fun e => (by cases e), HWD.out⟩
        | false =>
          by_cases h1 : p.2 < 0
          · have e1 : decide (p.2 < 0) = true := by rw [decide_eq_true_iff]; exact h1
            clear h1
            go_wp2
            go_ret
            exact ⟨false, rfl, fun e => absurd e HNE.out, fun e => (by cases e), HWD.out⟩
          · have e1 : decide (p.2 < 0) = false := by rw [decide_eq_false_iff_not]; exact h1
            by_cases h2 : 64 < p.2
            · have e2 : decide (64 < p.2) = true := by rw [decide_eq_true_iff]; exact h2
              clear h1 h2
              go_wp2
              go_ret
              exact ⟨false, rfl, fun e => absurd e HNE.out, fun e => (by cases e), HWD.out⟩
            · have e2 : decide (64 < p.2) = false := by rw [decide_eq_false_iff_not]; exact h2
              have hmk : mayKeep K p := ⟨(HIS.out rfl).1, (HIS.out rfl).2, by omega, by omega⟩
              have HMK := Lib.hid hmk
              clear h1 h2 hmk
              go_wp2
              go_roundw
              case rel =>
                refine ⟨k + 1, by omega, by go_num, HB5, HW5, Lib.hid (fun q hq => ?_)⟩
                rw [List.take_add_one, HP.out] at hq
                rcases List.mem_append.1 hq with hq | hq
                · exact HR.out q hq
                · have : q = p := by simpa using hq
                  subst this
                  exact HMK.out
              case measure => simp [intOf]; omega
    · subst heq
      have hkn : decide (k < k) = false := by rw [decide_eq_false_iff_not]; omega
      have hki : decide ((k : Int) < (k : Int)) = false := by rw [decide_eq_false_iff_not]; omega
      go_wp2
      go_ret
      refine ⟨true, rfl, fun _ => rfl, fun _ q hq => HR.out q ?_, HW.out⟩
      rw [HN.out, List.take_length]; exact hq
end Go.Proofs.YtgpcinfhcamgpaaGreatDoor

namespace Go.Proofs.YtgpcinfhcamgpaaGreatDoor
open Go.RowKit
set_option linter.unusedVariables false

/-- what may stand at a place behind a crash: what was sure there, or a piece of what was loose and the rest of it -/
def Took (K : Dk) (i : Nat) (b : List UInt8) : Prop := b = K.sure.getD i [] ∨ ∃ (l : List UInt8) (n : Nat), K.loose i = some l ∧ n ≤ 64 ∧ b = l.take n ++ (K.sure.getD i []).drop n
theorem take_twice (l S : List UInt8) (n m : Nat) (hl : l.length = 64) (hn : n ≤ 64) (hm : m ≤ 64) : ∃ q, q ≤ 64 ∧ l.take m ++ (l.take n ++ S.drop n).drop m = l.take q ++ S.drop q := by
  rcases Nat.le_total m n with h | h
  · refine ⟨n, hn, ?_⟩
    rw [List.drop_append, ← List.append_assoc]
    have h1 : m - (l.take n).length = 0 := by rw [List.length_take]; omega
    rw [h1, List.drop_zero]
    congr 1
    have : l.take m = (l.take n).take m := by rw [List.take_take, Nat.min_eq_left h]
    rw [this, List.take_append_drop]
  · refine ⟨m, hm, ?_⟩
    rw [List.drop_append]
    have h1 : (l.take n).drop m = [] := List.drop_eq_nil_of_le (by rw [List.length_take]; omega)
    have h2 : (l.take n).length = n := by rw [List.length_take]; omega
    rw [h1, h2, List.nil_append, List.drop_drop]
    congr 2
    omega
theorem Took.step {K : Dk} {i : Nat} {b l : List UInt8} (h : Took K i b) (hl : K.loose i = some l) (h64 : l.length = 64) {m : Nat} (hm : m ≤ 64) : Took K i (l.take m ++ b.drop m) := by
  rcases h with rfl | ⟨l', n, e, hn, rfl⟩
  · exact .inr ⟨l, m, hl, hm, rfl⟩
  · rw [hl] at e
    cases e
    obtain ⟨q, hq, e⟩ := take_twice l (K.sure.getD i []) n m h64 hn hm
    exact .inr ⟨l, q, hl, hq, e⟩
theorem DiskAt.setSure {w : World} {d s M n : Nat} {K : Dk} (h : DiskAt w d s M n K) {i : Nat} (hi : i < K.sure.length) {v : Value} {b : List UInt8} (hv : SlB w v b) : DiskAt (w.setCell ⟨s, i, none⟩ v) d s M n { K with sure := K.sure.set i b } := by
  have hne := h.ne
  have hn : NoBy w s := h.noBy s (.inr (.inl rfl))
  have hf : Fr (· = s) w (w.setCell ⟨s, i, none⟩ v) := fr_cell v
  obtain ⟨⟨cap, hb, hb2⟩, ⟨cs, hr, hr2, hr3⟩, ⟨f, hm, hm2, hm3⟩, h4, h5, h6, h7⟩ := h
  refine ⟨⟨cap, ?_, by simpa using hb2⟩, ⟨cs.setIfInBounds i v, hr.set_ i v, fun j hj => ?_, fun k x e => ?_⟩, ⟨f, hm.fr hf (fun e => hne.2.2 e.symm), hm2, fun j b hb => ?_⟩, by simpa using h4, fun j b hb => by simpa using h5 j b hb, h6, h7⟩
  · have := hb.fr hf hne.1
    simpa using this
  · have hj' : j < K.sure.length := by simpa using hj
    by_cases e : i = j
    · subst e
      refine ⟨v, ?_, ?_⟩
      · obtain ⟨u, hu, _⟩ := hr2 i hj'
        have : i < cs.size := (Array.getElem?_eq_some_iff.1 hu).1
        simp [this]
      · have : (K.sure.set i b).getD i [] = b := by simp [List.getD_eq_getElem?_getD, hj']
        show SlB _ _ ((K.sure.set i b).getD i [])
        rw [this]
        exact hv.fr2 hf (fun g e _ => by subst e; exact hn)
    · obtain ⟨u, hu, hs⟩ := hr2 j hj'
      refine ⟨u, by rw [Array.getElem?_setIfInBounds_ne e]; exact hu, ?_⟩
      show SlB _ _ ((K.sure.set i b).getD j [])
      have : (K.sure.set i b).getD j [] = K.sure.getD j [] := by simp [List.getD_eq_getElem?_getD, List.getElem?_set_ne e]
      rw [this]
      exact hs.fr2 hf (fun g e _ => by subst e; exact hn)
  · rw [Array.getElem?_setIfInBounds] at e
    split at e
    · split at e
      · obtain ⟨A, c, rfl, _⟩ := hv
        cases e
      · cases e
    · exact hr3 k x e
  · obtain ⟨u, hu, hs⟩ := hm3 j b hb
    exact ⟨u, hu, hs.fr2 hf (fun g e _ => by subst e; exact hn)⟩
/-- a disk behind a crash -/
def Dk.crashed (K : Dk) (sure : List (List UInt8)) : Dk := { sure := sure, loose := fun _ => none, left := -1, bytes := K.bytes, off := false }
def CrashPost (d s M n : Nat) (K : Dk) (l : List (Int × Int)) (w : World) (e : Ending) (w' : World) : Prop :=
  (l ≠ [] ∧ e = .returned (.int .i64 1) ∧ Below w.heap.size w w') ∨
  (∃ (sure : List (List UInt8)) (M' : Nat), e = .returned (.int .i64 0) ∧ sure.length = K.sure.length ∧ (∀ i, i < K.sure.length → Took K i (sure.getD i [])) ∧ w.heap.size ≤ M' ∧ DiskAt w' d s M' 0 (K.crashed sure) ∧ Fr (DS d s M) w w')
theorem KptAt.fr {S : Nat → Prop} {w w' : World} {B : Nat} {A : Option Addr} {l : List (Int × Int)} (h : KptAt w B A l) (hf : Fr S w w') (hB : B ≤ w.heap.size) (hS : ∀ ad, A = some ad → ¬ S ad.block) : KptAt w' B A l := by
  intro i p hp
  obtain ⟨ad, e, hlt, h1, h2, h3⟩ := h i p hp
  have hs := hS ad e
  refine ⟨ad, e, hlt, ?_, ?_, h3⟩
  · rw [hf.cell (by rw [block_of_add]; omega) (by rw [block_of_add]; exact hs)]; exact h1
  · rw [hf.cell (by show (ad.add (i * 2)).block < _; rw [block_of_add]; omega) (by show ¬ S (ad.add (i * 2)).block; rw [block_of_add]; exact hs)]; exact h2
/-- between two rounds of a crash -/
def CrashI (d s M n : Nat) (K : Dk) (w wr : World) : Prop :=
  ∃ sure : List (List UInt8), DiskAt wr d s M n { K with sure := sure } ∧ sure.length = K.sure.length ∧ (∀ i, i < K.sure.length → Took K i (sure.getD i [])) ∧ Fr (DS d s M) w wr
set_option maxRecDepth 100000 in
set_option maxHeartbeats 1000000 in
theorem crash_any {d s M n : Nat} {K : Dk} (A : Option Addr) (c : Nat) (l : List (Int × Int)) (w : World) (h : DiskAt w d s M n K) (hl : l.length ≤ 1000) (hA : KptAt w w.heap.size A l) (hB : ∀ ad, A = some ad → l ≠ [] → ¬ DS d s M ad.block) :
    Calls Tryz.prog 26 #[.pointer (some ⟨d, 0, none⟩), .slice A l.length c] w fun e w' => CrashPost d s M n K l w e w' := by
  have HD := Lib.hid h
  have HA := Lib.hid hA
  have HBl := Lib.hid hB
  obtain ⟨N, hN⟩ : ∃ N, N = l.length := ⟨_, rfl⟩
  have HN := Lib.hid hN
  have HK := Lib.hid (keeps_any A c l w h hl hA)
  rw [← hN] at hl HK ⊢
  clear h hA hN hB
  go_enter Tryz.func26, Tryz.ntmps26
  go_wp2_with fail
  refine HK.out.mono ?_
  rintro e w1 ⟨r, rfl, hr0, hr1, hb⟩
  have HR0 := Lib.hid hr0
  have HR1 := Lib.hid hr1
  have HB := Lib.hid hb
  clear hr0 hr1 hb HK
  cases r with
  | false =>
    go_wp2
    go_ret
    exact .inl ⟨fun e => absurd (HR0.out e) (by simp), rfl, HB.out⟩
  | true =>
    have HI0 : Hid (CrashI d s M n K w w1) := Lib.hid ⟨K.sure, HD.out.below HB.out, rfl, fun i _ => .inl rfl, Fr.of_below HB.out⟩
    go_wp2
    go_loopw [17] (fun v wr => ∃ k : Nat, k ≤ N ∧ v = .int .i64 (k : Int) ∧ Hid (CrashI d s M n K w wr)) (fun v _ => N - (intOf v).toNat)
    case atStart => exact ⟨0, Nat.zero_le _, rfl, HI0⟩
    case round =>
      obtain ⟨k, hk, rfl, HI⟩ := hrel
      clear HI0
      obtain ⟨sure, hD, hlen, htook, hfr⟩ := HI.out
      rcases (by omega : k < N ∨ k = N) with hlt | heq
      · have hki : decide ((k : Int) < (N : Int)) = true := by rw [decide_eq_true_iff]; omega
        have hkn : decide (k < N) = true := by rw [decide_eq_true_iff]; omega
        obtain ⟨p, hp⟩ : ∃ p, l[k]? = some p := ⟨l[k]'(by have := HN.out; omega), List.getElem?_eq_getElem _⟩
        obtain ⟨ad, hA, hB', c1, c2, wf1, wf2⟩ := (HA.out.fr hfr (Nat.le_refl _) (fun ad e => HBl.out ad e (fun e2 => by rw [e2] at hp; simp at hp))) k p hp
        have hmay := HR1.out trivial p (List.mem_of_getElem? hp)
        obtain ⟨y1, y2, y3, y4⟩ := hmay
        obtain ⟨i, hi⟩ : ∃ i : Nat, p.1 = (i : Int) := ⟨p.1.toNat, by omega⟩
        obtain ⟨m, hm⟩ : ∃ m : Nat, p.2 = (m : Int) := ⟨p.2.toNat, by omega⟩
        rw [hi, Int.toNat_natCast] at y2
        obtain ⟨b, hb⟩ := Option.isSome_iff_exists.1 y2
        have hil : i < sure.length := by rw [hlen]; exact HD.out.inn i b hb
        have hm64 : m ≤ 64 := by omega
        rw [hi] at c1
        rw [hm] at c2
        subst hA
        clear hp wf1 wf2 hi hm y1 y2 y3 y4
        go_wp2_with fail
        have hal : Below wr.heap.size wr (wr.alloc (.cells #[.int .i64 (i : Int), .int .i64 (m : Int)] 98)) := (Below.refl _ _).alloc (Nat.le_refl _) _
        have hD4 := hD.below hal
        have hz := Blk.new wr 98 #[.int .i64 (i : Int), .int .i64 (m : Int)]
        obtain ⟨L, hL⟩ : ∃ L, L = sure.length := ⟨_, rfl⟩
        rw [← hL] at hil
        obtain ⟨cap, hdb, hcap, hcapm⟩ := hD4.blk
        have hdb2 : Blk (wr.alloc (.cells #[.int .i64 (i : Int), .int .i64 (m : Int)] 98)) d 94 (diskV s M L cap K.left K.bytes K.off) := by rw [hL]; exact hdb
        obtain ⟨cd0, cd1, _, _, _⟩ := disk_cells hdb2
        have cz0 := hz.cell 0
        have cz1 := hz.cell 1
        simp only [List.getElem?_toArray, List.getElem?_cons_zero, List.getElem?_cons_succ] at cz0 cz1
        obtain ⟨f, hmp, _, hmf⟩ := hD4.map
        obtain ⟨v, hv, Av, cv, rfl, v1, v2, v3, v4⟩ := hmf i b hb
        have hiN : i < 1000000 := by
          have := hD4.few.2
          show i < _
          have h2 : sure.length ≤ 16384 := this
          omega
        have HFI := Lib.hid hv
        have HMP := Lib.hid hmp
        obtain ⟨cs, hrb, hrs, _⟩ := hD4.row
        obtain ⟨u, hu, Au, cu, rfl, u1, u2, u3, u4⟩ := hrs i (by show i < sure.length; omega)
        have cs0 := hrb.cell i
        rw [hu] at cs0
        have fs0 := hrb.frozen i
        have HSC : Hid (∀ V, Below (wr.alloc (.cells #[.int .i64 (i : Int), .int .i64 (m : Int)] 98)).heap.size (wr.alloc (.cells #[.int .i64 (i : Int), .int .i64 (m : Int)] 98)) V → V.cell? ⟨d, 0, none⟩ = some (.slice (some ⟨s, 0, none⟩) L cap) ∧ V.cell? ⟨d, 1, none⟩ = some (.map (some M)) ∧ V.cell? ⟨wr.heap.size, 0, none⟩ = some (.int .i64 (i : Int)) ∧ V.cell? ⟨wr.heap.size, 1, none⟩ = some (.int .i64 (m : Int))) :=
          Lib.hid (fun V hb => ⟨(hb.cell (p := ⟨d, 0, none⟩) hdb2.lt).trans cd0, (hb.cell (p := ⟨d, 1, none⟩) hdb2.lt).trans cd1, (hb.cell (p := ⟨wr.heap.size, 0, none⟩) hz.lt).trans cz0, (hb.cell (p := ⟨wr.heap.size, 1, none⟩) hz.lt).trans cz1⟩)
        have HRW : Hid (∀ V, Below (wr.alloc (.cells #[.int .i64 (i : Int), .int .i64 (m : Int)] 98)).heap.size (wr.alloc (.cells #[.int .i64 (i : Int), .int .i64 (m : Int)] 98)) V → V.cell? ⟨s, i, none⟩ = some (.slice Au 64 cu) ∧ V.frozen? ⟨s, i, none⟩ = false) :=
          Lib.hid (fun V hb => ⟨(hb.cell (p := ⟨s, i, none⟩) hrb.lt).trans cs0, (World.frozen?_of_block (hb.block s hrb.lt)).trans fs0⟩)
        have HD4 := Lib.hid hD4
        have HV := Lib.hid v3
        have HVL := Lib.hid v4
        have HU := Lib.hid u3
        have HUL := Lib.hid u4
        have HFR := Lib.hid hfr
        have HAL := Lib.hid hal
        have HTK := Lib.hid htook
        have HLN := Lib.hid hlen
        have HBB := Lib.hid hb
        have HLL := Lib.hid hL
        have HMS : Hid (M ≠ s) := Lib.hid (fun e => hD4.ne.2.2 e.symm)
        have hsd : s ≠ d := fun e => hD4.ne.1 e.symm
        have hsz : s ≠ wr.heap.size := fun e => by
          have := hD.lt
          omega
        have q1 : (0 : Int) ≤ (m : Int) := by omega
        have q2 : (m : Int) ≤ 64 := by omega
        have q3 : (m : Int) ≤ (cv : Int) := by omega
        have q4 : (m : Int) ≤ (cu : Int) := by omega
        have q5 : (0 : Int) ≤ (i : Int) := by omega
        have q6 : (i : Int) < (L : Int) := by omega
        clear hdb hdb2 hmp hmf hv v3 v4 u3 u4 hrb hrs hu cs0 fs0 hD4 hfr hal htook hlen hb hL hD hz cd0 cd1 cz0 cz1
        generalize hW4 : wr.alloc (.cells #[.int .i64 (i : Int), .int .i64 (m : Int)] 98) = W4 at HMP HSC HRW HD4 HV HU HAL ⊢
        have HALO : Hid (∀ (o : Obj) V, Below ((W4.alloc o).drew).heap.size ((W4.alloc o).drew) V → Below W4.heap.size W4 V) := Lib.hid (fun o V hb => ((((Below.refl W4.heap.size W4).alloc (Nat.le_refl _) o).drew).trans (hb.mono (by show W4.heap.size ≤ (W4.alloc o).heap.size; rw [World.size_alloc]; omega))))
        have HRV : Hid (∀ V : World, V.heap[M]? = W4.heap[M]? → (Instr.lookup 92 (.map (some M)) (.int .i64 (i : Int)) false).run Tryz.prog V = .ok (.slice Av 64 cv) V) := Lib.hid (fun V hV => by
          have := (HMP.out.of_block hV).look1 hiN
          rw [HFI.out, Option.getD_some] at this
          exact this)
        obtain ⟨s0, s1, s2, s3⟩ := HSC.out W4 (Below.refl _ _)
        obtain ⟨r0, r1⟩ := HRW.out W4 (Below.refl _ _)
        clear hW4
        have HSB : Hid (∀ V : World, Below W4.heap.size W4 V → V.cell? ⟨d, 0, none⟩ = some (.slice (some ⟨s, 0, none⟩) L cap) ∧ V.cell? ⟨d, 1, none⟩ = some (.map (some M)) ∧ V.cell? ⟨wr.heap.size, 0, none⟩ = some (.int .i64 (i : Int)) ∧ V.cell? ⟨wr.heap.size, 1, none⟩ = some (.int .i64 (m : Int)) ∧ V.heap[M]? = W4.heap[M]?) := Lib.hid (fun V hb => by
          obtain ⟨t0, t1, t2, t3⟩ := HSC.out V hb
          exact ⟨t0, t1, t2, t3, hb.block M HMP.out.lt⟩)
        have HSS : Hid (∀ (V : World) (v : Value), (V.cell? ⟨d, 0, none⟩ = some (.slice (some ⟨s, 0, none⟩) L cap) ∧ V.cell? ⟨d, 1, none⟩ = some (.map (some M)) ∧ V.cell? ⟨wr.heap.size, 0, none⟩ = some (.int .i64 (i : Int)) ∧ V.cell? ⟨wr.heap.size, 1, none⟩ = some (.int .i64 (m : Int)) ∧ V.heap[M]? = W4.heap[M]?) → (fun V : World => V.cell? ⟨d, 0, none⟩ = some (.slice (some ⟨s, 0, none⟩) L cap) ∧ V.cell? ⟨d, 1, none⟩ = some (.map (some M)) ∧ V.cell? ⟨wr.heap.size, 0, none⟩ = some (.int .i64 (i : Int)) ∧ V.cell? ⟨wr.heap.size, 1, none⟩ = some (.int .i64 (m : Int)) ∧ V.heap[M]? = W4.heap[M]?) (V.setCell ⟨s, i, none⟩ v)) := Lib.hid (fun V v h => by
          obtain ⟨t0, t1, t2, t3, t4⟩ := h
          have hf : Fr (· = s) V (V.setCell ⟨s, i, none⟩ v) := fr_cell v
          refine ⟨?_, ?_, ?_, ?_, ?_⟩
          · rw [World.cell?_setCell_far _ _ _ _ (by exact hsd)]; exact t0
          · rw [World.cell?_setCell_far _ _ _ _ (by exact hsd)]; exact t1
          · rw [World.cell?_setCell_far _ _ _ _ (by exact hsz)]; exact t2
          · rw [World.cell?_setCell_far _ _ _ _ (by exact hsz)]; exact t3
          · rw [hf.block M (Nat.lt_of_not_le (fun hge => by have h1 := HMP.out.lt; have h2 : V.heap[M]? = none := Array.getElem?_eq_none hge; rw [h2] at t4; have h3 := Array.getElem?_eq_none_iff.1 t4.symm; omega)) (fun e => HMS.out e)]; exact t4)
        have HS1 : (fun V : World => V.cell? ⟨d, 0, none⟩ = some (.slice (some ⟨s, 0, none⟩) L cap) ∧ V.cell? ⟨d, 1, none⟩ = some (.map (some M)) ∧ V.cell? ⟨wr.heap.size, 0, none⟩ = some (.int .i64 (i : Int)) ∧ V.cell? ⟨wr.heap.size, 1, none⟩ = some (.int .i64 (m : Int)) ∧ V.heap[M]? = W4.heap[M]?) W4.drew := ⟨s0, s1, s2, s3, rfl⟩
        refine wp_region_held_drew (S := fun V : World => V.cell? ⟨d, 0, none⟩ = some (.slice (some ⟨s, 0, none⟩) L cap) ∧ V.cell? ⟨d, 1, none⟩ = some (.map (some M)) ∧ V.cell? ⟨wr.heap.size, 0, none⟩ = some (.int .i64 (i : Int)) ∧ V.cell? ⟨wr.heap.size, 1, none⟩ = some (.int .i64 (m : Int)) ∧ V.heap[M]? = W4.heap[M]?) (by kernel_rfl) HS1 (fun hS1 => ?_)
        refine wpAnyH_take (i := 0) (v := .pointer (some ⟨d, 0, none⟩)) rfl (by kernel_rfl) (by kernel_rfl) (by kernel_rfl) (fun _ _ _ h => h) (.inl ⟨by rfl, fun V _ => by go_simp⟩) hS1 ?_
        refine wpAnyH_take (i := 1) (v := .pointer (some ⟨d, 0, none⟩)) rfl (by kernel_rfl) (by kernel_rfl) (by kernel_rfl) (fun _ _ _ h => h) (.inl ⟨by rfl, fun V _ => by go_simp⟩) hS1 ?_
        refine wpAnyH_take (i := 2) (v := .pointer (some ⟨d, 0, none⟩)) rfl (by kernel_rfl) (by kernel_rfl) (by kernel_rfl) (fun _ _ _ h => h) (.inl ⟨by rfl, fun V _ => by go_simp⟩) hS1 ?_
        refine wpAnyH_take (i := 3) (v := .slice (some ⟨s, 0, none⟩) L cap) rfl (by kernel_rfl) (by kernel_rfl) (by kernel_rfl) (fun _ _ _ h => h) (.inl ⟨by rfl, fun V hS => by obtain ⟨t0, t1, t2, t3, t4⟩ := hS; go_simp⟩) hS1 ?_
        refine wpAnyH_take (i := 4) (v := .pointer (some ⟨wr.heap.size, 0, none⟩)) rfl (by kernel_rfl) (by kernel_rfl) (by kernel_rfl) (fun _ _ _ h => h) (.inl ⟨by rfl, fun V _ => by go_simp⟩) hS1 ?_
        refine wpAnyH_take (i := 5) (v := .int .i64 (i : Int)) rfl (by kernel_rfl) (by kernel_rfl) (by kernel_rfl) (fun _ _ _ h => h) (.inl ⟨by rfl, fun V hS => by obtain ⟨t0, t1, t2, t3, t4⟩ := hS; go_simp⟩) hS1 ?_
        refine wpAnyH_take (i := 6) (v := .pointer (some ⟨d, 0, none⟩)) rfl (by kernel_rfl) (by kernel_rfl) (by kernel_rfl) (fun _ _ _ h => h) (.inl ⟨by rfl, fun V _ => by go_simp⟩) hS1 ?_
        refine wpAnyH_take (i := 7) (v := .pointer (some ⟨d, 0, none⟩)) rfl (by kernel_rfl) (by kernel_rfl) (by kernel_rfl) (fun _ _ _ h => h) (.inl ⟨by rfl, fun V _ => by go_simp⟩) hS1 ?_
        refine wpAnyH_take (i := 8) (v := .pointer (some ⟨d, 1, none⟩)) rfl (by kernel_rfl) (by kernel_rfl) (by kernel_rfl) (fun _ _ _ h => h) (.inl ⟨by rfl, fun V _ => by go_simp⟩) hS1 ?_
        refine wpAnyH_take (i := 9) (v := .map (some M)) rfl (by kernel_rfl) (by kernel_rfl) (by kernel_rfl) (fun _ _ _ h => h) (.inl ⟨by rfl, fun V hS => by obtain ⟨t0, t1, t2, t3, t4⟩ := hS; go_simp⟩) hS1 ?_
        refine wpAnyH_take (i := 10) (v := .pointer (some ⟨wr.heap.size, 0, none⟩)) rfl (by kernel_rfl) (by kernel_rfl) (by kernel_rfl) (fun _ _ _ h => h) (.inl ⟨by rfl, fun V _ => by go_simp⟩) hS1 ?_
        refine wpAnyH_take (i := 11) (v := .int .i64 (i : Int)) rfl (by kernel_rfl) (by kernel_rfl) (by kernel_rfl) (fun _ _ _ h => h) (.inl ⟨by rfl, fun V hS => by obtain ⟨t0, t1, t2, t3, t4⟩ := hS; go_simp⟩) hS1 ?_
        refine wpAnyH_take (i := 12) (v := .slice Av 64 cv) rfl (by kernel_rfl) (by kernel_rfl) (by kernel_rfl) (fun _ _ _ h => h) (.inl ⟨by rfl, fun V hS => by have RV := HRV.out V hS.2.2.2.2; go_simp⟩) hS1 ?_
        refine wpAnyH_take (i := 13) (v := .pointer (some ⟨wr.heap.size, 1, none⟩)) rfl (by kernel_rfl) (by kernel_rfl) (by kernel_rfl) (fun _ _ _ h => h) (.inl ⟨by rfl, fun V _ => by go_simp⟩) hS1 ?_
        refine wpAnyH_take (i := 14) (v := .int .i64 (m : Int)) rfl (by kernel_rfl) (by kernel_rfl) (by kernel_rfl) (fun _ _ _ h => h) (.inl ⟨by rfl, fun V hS => by obtain ⟨t0, t1, t2, t3, t4⟩ := hS; go_simp⟩) hS1 ?_
        refine wpAnyH_take (i := 15) (v := .slice Av m cv) rfl (by kernel_rfl) (by kernel_rfl) (by kernel_rfl) (fun _ _ _ h => h) (.inl ⟨by rfl, fun V _ => by go_simp⟩) hS1 ?_
        refine wpAnyH_take (i := 16) (v := .pointer (some ⟨d, 0, none⟩)) rfl (by kernel_rfl) (by kernel_rfl) (by kernel_rfl) (fun _ _ _ h => h) (.inl ⟨by rfl, fun V _ => by go_simp⟩) hS1 ?_
        refine wpAnyH_take (i := 17) (v := .pointer (some ⟨d, 0, none⟩)) rfl (by kernel_rfl) (by kernel_rfl) (by kernel_rfl) (fun _ _ _ h => h) (.inl ⟨by rfl, fun V _ => by go_simp⟩) hS1 ?_
        refine wpAnyH_take (i := 18) (v := .pointer (some ⟨d, 0, none⟩)) rfl (by kernel_rfl) (by kernel_rfl) (by kernel_rfl) (fun _ _ _ h => h) (.inl ⟨by rfl, fun V _ => by go_simp⟩) hS1 ?_
        refine wpAnyH_take (i := 19) (v := .slice (some ⟨s, 0, none⟩) L cap) rfl (by kernel_rfl) (by kernel_rfl) (by kernel_rfl) (fun _ _ _ h => h) (.inl ⟨by rfl, fun V hS => by obtain ⟨t0, t1, t2, t3, t4⟩ := hS; go_simp⟩) hS1 ?_
        refine wpAnyH_take (i := 20) (v := .pointer (some ⟨wr.heap.size, 0, none⟩)) rfl (by kernel_rfl) (by kernel_rfl) (by kernel_rfl) (fun _ _ _ h => h) (.inl ⟨by rfl, fun V _ => by go_simp⟩) hS1 ?_
        refine wpAnyH_take (i := 21) (v := .int .i64 (i : Int)) rfl (by kernel_rfl) (by kernel_rfl) (by kernel_rfl) (fun _ _ _ h => h) (.inl ⟨by rfl, fun V hS => by obtain ⟨t0, t1, t2, t3, t4⟩ := hS; go_simp⟩) hS1 ?_
        refine wpAnyH_take (i := 22) (v := .pointer (some ⟨s, i, none⟩)) rfl (by kernel_rfl) (by kernel_rfl) (by kernel_rfl) (fun _ _ _ h => h) (.inl ⟨by rfl, fun V _ => by go_simp⟩) hS1 ?_
        refine wpAnyH_take (i := 24) (v := .pointer (some ⟨wr.heap.size, 1, none⟩)) rfl (by kernel_rfl) (by kernel_rfl) (by kernel_rfl) (fun _ _ _ h => h) (.inl ⟨by rfl, fun V _ => by go_simp⟩) hS1 ?_
        refine wpAnyH_take (i := 25) (v := .int .i64 (m : Int)) rfl (by kernel_rfl) (by kernel_rfl) (by kernel_rfl) (fun _ _ _ h => h) (.inl ⟨by rfl, fun V hS => by obtain ⟨t0, t1, t2, t3, t4⟩ := hS; go_simp⟩) hS1 ?_
        refine wpAnyH_ready (rs := [23]) (by kernel_rfl) (by simp) ?_
        refine AllReadyH.cons rfl (fun K' hK => ?_) AllReadyH.nil
        go_simp
        refine hK.out _ _ (hS1) (fun _ => ?_)
        clear hK K'
        refine wpAnyH_ready (rs := [26]) (by kernel_rfl) (by simp) ?_
        refine AllReadyH.cons rfl (fun K' hK => ?_) AllReadyH.nil
        go_simp
        refine hK.out _ _ (hS1) (fun _ => ?_)
        clear hK K'
        refine wpAnyH_ready (rs := [27]) (by kernel_rfl) (by simp) ?_
        refine AllReadyH.cons rfl (fun K' hK => ?_) AllReadyH.nil
        go_simp
        refine hK.out _ _ (HSB.out _ (HALO.out _ _ (Below.refl _ _))) (fun _ => ?_)
        clear hK K'
        refine wpAnyH_ready (rs := [28]) (by kernel_rfl) (by simp) ?_
        refine AllReadyH.cons rfl (fun K' hK => ?_) AllReadyH.nil
        go_simp
        refine (concat2 W4.heap.size _ _ m (64 - m) _ _ (b.take m) ((sure.getD i []).drop m) _ (Blk.new W4 22 _).drew (((HV.out.take (by rw [HVL.out]; exact hm64)).below ((Below.refl _ _).alloc (Nat.le_refl _) _)).drew') (((HU.out.cut (k := m) (cap := cu) (by rw [HUL.out]; exact hm64) (by rw [HUL.out]; exact u1)).below ((Below.refl _ _).alloc (Nat.le_refl _) _)).drew') (by rw [List.length_take, HVL.out]; omega) (by rw [List.length_drop, HUL.out]) (by omega)).mono ?_
        rintro e w5 ⟨A5, c5, rfl, p1, p2, p3, p4, p5⟩
        have hb5 := Lib.hid (HALO.out _ _ p5)
        obtain ⟨r2, r3⟩ := HRW.out w5 hb5.out
        have HP3 := Lib.hid p3
        have HP4 := Lib.hid p4
        clear p3 p4 p5
        go_simp
        refine hK.out _ _ (HSB.out w5 hb5.out) (fun _ => ?_)
        clear hK K'
        refine wpAnyH_ready (rs := [29]) (by kernel_rfl) (by simp) ?_
        refine AllReadyH.cons rfl (fun K' hK => ?_) AllReadyH.nil
        go_simp
        refine hK.out _ _ (HSB.out w5 hb5.out) (fun _ => ?_)
        clear hK K'
        refine wpAnyH_ready (rs := [30]) (by kernel_rfl) (by simp) ?_
        refine AllReadyH.cons rfl (fun K' hK => ?_) AllReadyH.nil
        go_simp
        refine hK.out _ _ (HSS.out _ _ (HSB.out w5 hb5.out)) (fun _ => ?_)
        clear hK K'
        refine wpAnyH_done (by kernel_rfl) ?_ _
        all_goals
          have HX5 : Hid (CrashI d s M n K w (w5.setCell ⟨s, i, none⟩ (.slice A5 64 c5))) := by
            have hset := (HD4.out.below hb5.out).setSure (i := i) (v := .slice A5 64 c5) (b := b.take m ++ (sure.getD i []).drop m) (by rw [HLL.out] at q6; show i < sure.length; omega) ⟨A5, c5, rfl, p1, p2, HP3.out, HP4.out⟩
            refine Lib.hid ⟨sure.set i (b.take m ++ (sure.getD i []).drop m), hset, by rw [List.length_set, HLN.out], fun j hj => ?_, (((HFR.out.below HAL.out).below hb5.out).setCell (p := ⟨s, i, none⟩) (fun _ => .inr (.inl rfl)) _)⟩
            by_cases e : i = j
            · subst e
              have : (sure.set i (b.take m ++ (sure.getD i []).drop m)).getD i [] = b.take m ++ (sure.getD i []).drop m := by
                have : i < sure.length := by rw [HLN.out]; exact hj
                simp [List.getD_eq_getElem?_getD, this]
              rw [this]
              exact (HTK.out i hj).step HBB.out HVL.out hm64
            · have : (sure.set i (b.take m ++ (sure.getD i []).drop m)).getD j [] = sure.getD j [] := by simp [List.getD_eq_getElem?_getD, List.getElem?_set_ne e]
              rw [this]
              exact HTK.out j hj
          clear HP3 HP4
          go_wp2
        all_goals go_roundw
        all_goals first
          | exact ⟨k + 1, by omega, by go_num, HX5⟩
          | (simp [intOf]; omega)
      · have hki : decide ((k : Int) < (N : Int)) = false := by rw [decide_eq_false_iff_not]; omega
        have hkn : decide (k < N) = false := by rw [decide_eq_false_iff_not]; omega
        have hmm := @run_makeMap Tryz.prog
        have hal : Below wr.heap.size wr (wr.alloc (.map #[] 0)) := (Below.refl _ _).alloc (Nat.le_refl _) _
        have hD2 := hD.below hal
        obtain ⟨cap, hdb, hcap, hcapm⟩ := hD2.blk
        obtain ⟨cd0, cd1, cd2, cd3, cd4⟩ := disk_cells hdb
        have f1 := hdb.frozen 1
        have f2 := hdb.frozen 2
        have f4 := hdb.frozen 4
        have HEND : Hid (DiskAt ((((wr.alloc (.map #[] 0)).setCell ⟨d, 1, none⟩ (.map (some wr.heap.size))).setCell ⟨d, 2, none⟩ (.int .i64 (-1))).setCell ⟨d, 4, none⟩ (.bool false)) d s wr.heap.size 0 (K.crashed sure) ∧ Fr (DS d s M) w ((((wr.alloc (.map #[] 0)).setCell ⟨d, 1, none⟩ (.map (some wr.heap.size))).setCell ⟨d, 2, none⟩ (.int .i64 (-1))).setCell ⟨d, 4, none⟩ (.bool false))) := by
          have hfd : Fr (· = d) (wr.alloc (.map #[] 0)) ((((wr.alloc (.map #[] 0)).setCell ⟨d, 1, none⟩ (.map (some wr.heap.size))).setCell ⟨d, 2, none⟩ (.int .i64 (-1))).setCell ⟨d, 4, none⟩ (.bool false)) := (((Fr.refl (fun x => x = d) _).setCell (p := ⟨d, 1, none⟩) (fun _ => rfl) _).setCell (p := ⟨d, 2, none⟩) (fun _ => rfl) _).setCell (p := ⟨d, 4, none⟩) (fun _ => rfl) _
          have hno : ∀ g, g = d → g < (wr.alloc (.map #[] 0)).heap.size → NoBy (wr.alloc (.map #[] 0)) g := fun g e _ => e ▸ hD2.noBy d (.inl rfl)
          have hblk : Blk ((((wr.alloc (.map #[] 0)).setCell ⟨d, 1, none⟩ (.map (some wr.heap.size))).setCell ⟨d, 2, none⟩ (.int .i64 (-1))).setCell ⟨d, 4, none⟩ (.bool false)) d 94 (diskV s wr.heap.size sure.length cap (-1) K.bytes false) := ((hdb.set_ 1 (.map (some wr.heap.size))).set_ 2 (.int .i64 (-1))).set_ 4 (.bool false)
          obtain ⟨cs, hr, hr2, hr3⟩ := hD2.row
          have hlt := hD.lt
          refine Lib.hid ⟨⟨⟨cap, hblk, hcap, hcapm⟩, ⟨cs, hr.fr hfd (fun e => hD.ne.1 e.symm), fun j hj => ?_, hr3⟩, ⟨_, (LMap.new wr).fr hfd (fun e => by omega), fun _ _ => rfl, fun j b e => by cases e⟩, hD.few, fun j b e => (by cases e), ⟨by show (-1 : Int) ≤ -1; omega, by show (-1 : Int) ≤ _; omega⟩, hD.byt⟩, ((hfr.below hal).trans (hfd.mono (fun k _ e => .inl e)))⟩
          obtain ⟨u, hu, hs⟩ := hr2 j hj
          exact ⟨u, hu, hs.fr2 hfd hno⟩
        have HL2 := Lib.hid hlen
        have HT2 := Lib.hid htook
        have HSZ : Hid (w.heap.size ≤ wr.heap.size) := Lib.hid hfr.size
        clear hD2 hdb hcap hcapm cd0 cd3 hal hlen htook hfr hD heq
        go_wp2
        go_ret
        exact .inr ⟨sure, wr.heap.size, rfl, HL2.out, HT2.out, HSZ.out, HEND.out.1, HEND.out.2⟩
theorem KptAt.mono {w : World} {B B' : Nat} {A : Option Addr} {l : List (Int × Int)} (h : KptAt w B A l) (hB : B ≤ B') : KptAt w B' A l := fun i p hp => by
  obtain ⟨ad, e, hlt, h1⟩ := h i p hp
  exact ⟨ad, e, by omega, h1⟩
/-- a crash that is told what came in -/
theorem crash_in {d s M n : Nat} {K : Dk} (B : Nat) (A : Option Addr) (m c : Nat) (l : List (Int × Int)) (w : World) (h : DiskAt w d s M n K) (hm : l.length = m) (hl : m ≤ 1000) (hA : KptAt w B A l) (hB : B ≤ w.heap.size) (hd : ∀ k, DS d s M k → B ≤ k) :
    Calls Tryz.prog 26 #[.pointer (some ⟨d, 0, none⟩), .slice A m c] w fun e w' => CrashPost d s M n K l w e w' := by
  subst hm
  refine crash_any A c l w h hl (hA.mono hB) (fun ad e hne hs => ?_)
  obtain ⟨p, l', rfl⟩ : ∃ p l', l = p :: l' := by
    cases l with
    | nil => exact absurd rfl hne
    | cons p l' => exact ⟨p, l', rfl⟩
  obtain ⟨ad', e', hlt, _⟩ := hA 0 p rfl
  rw [e] at e'
  cases e'
  have := hd _ hs
  omega
end Go.Proofs.YtgpcinfhcamgpaaGreatDoor
