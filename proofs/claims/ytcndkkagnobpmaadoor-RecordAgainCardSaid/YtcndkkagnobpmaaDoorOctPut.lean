/-
  octet.Put: what it returns.
-/
import Derived.Test.YtcndkkagnobpmaaDoorWords2
import Derived.Test.YtcndkkagnobpmaaDoorBuilder
import Derived.Handy
namespace Go.Proofs.YtcndkkagnobpmaaDoor
open Go.RowKit

def u8v (b : UInt8) : Value := .int .u8 (b.toNat : Int)
def byteAt (n s k : Nat) : UInt8 := UInt8.ofNat (n / 2 ^ (8 * (s - 1 - k)))
def beBytes (n s : Nat) : List UInt8 := (List.range s).map (byteAt n s)
def putCells (n s k : Nat) : Array Value := ((List.range s).map fun i => if i < k then u8v (byteAt n s i) else .int .u8 0).toArray
theorem beBytes_length (n s : Nat) : (beBytes n s).length = s := by simp [beBytes]
theorem putCells_size (n s k : Nat) : (putCells n s k).size = s := by simp [putCells]
theorem putCells_set (n s k : Nat) : (putCells n s k).setIfInBounds k (u8v (byteAt n s k)) = putCells n s (k + 1) := by
  apply Array.ext_getElem?
  intro i
  simp only [Array.getElem?_setIfInBounds, putCells_size]
  by_cases e : k = i
  · subst e
    by_cases h : k < s <;> simp [putCells, h]
  · rw [if_neg e]
    simp only [putCells, List.getElem?_toArray, List.getElem?_map]
    by_cases hi : i < s
    · have : (i < k) = (i < k + 1) := by rw [eq_iff_iff]; omega
      simp [hi, this]
    · simp [hi]
theorem putCells_at (n s k i : Nat) (h : i < s) : ∃ v, (putCells n s k)[i]? = some v := by
  rw [← putCells_size n s k] at h
  exact ⟨_, Array.getElem?_eq_getElem h⟩
theorem putCells_all (n s : Nat) : (putCells n s s).toList = Lib.byteCells (beBytes n s) := by
  simp only [putCells, Lib.byteCells, beBytes, List.map_map]
  apply List.map_congr_left
  intro i hi
  simp at hi
  simp [hi, u8v]
theorem putCells_zero (n s : Nat) : madeCells #[Value.int .u8 0] s = putCells n s 0 := by
  apply Array.ext'
  rw [toList_madeCells_one]
  simp [putCells]
  rw [List.map_const', List.length_range]

theorem run_make_bytes (s : Nat) (hs : s ≤ 70368744177664) (w : World) : (Instr.makeSlice 22 (.int .i64 s) (.int .i64 s)).run Tryd.prog w = .ok (.slice (some ⟨w.heap.size, 0, none⟩) s s) (w.alloc (.cells (madeCells #[Value.int .u8 0] s) 5)) := by
  obtain ⟨i0, hi, hz0, hz1, hz2⟩ := info_parts infoByte
  have hb : (i0.bytes : Int) * (s : Int) ≤ 281474976710656 := by rw [hz2]; omega
  have hr := run_make (P := Tryd.prog) w 22 5 i0 (.int .u8 0) Tryd.underlying22 hi hz0 .i64 .i64 s s (by omega) (by omega) hb (by omega)
  rw [hz1, Nat.mul_one] at hr
  exact hr

theorem byteAt_eq (n s k : Nat) : Value.int .u8 ((n : Int) / 2 ^ (8 * (s - 1 - k)) % 256) = u8v (byteAt n s k) := by
  unfold u8v byteAt
  congr 1

theorem own_of_put {n s k : Nat} {w wr : World} (hks : k = s) (hB : Blk wr w.heap.size 5 (putCells n s k)) (hs : s ≤ 8 := by omega) : OB wr w.heap.size (.slice (some ⟨w.heap.size, 0, none⟩) s s) (beBytes n s) := by
  subst hks
  refine ⟨by simp [Lib.byteCells], .inr ⟨_, k, _, by rw [beBytes_length], Nat.le_refl _, hB, by rw [beBytes_length]; exact Nat.le_refl _, by unfold maxLen; omega, by simp [putCells_size], ?_⟩⟩
  rw [← putCells_all, List.take_of_length_le (by simp [beBytes_length, putCells_size])]

set_option maxRecDepth 100000 in
set_option maxHeartbeats 400000 in
theorem put_ok (n s : Nat) (w : World) (h : 1 ≤ s) (h2 : s ≤ 8) (hn : s < 8 → n / 2 ^ (8 * s) = 0) :
    Calls Tryd.prog 65 #[.int .i64 n, .int .i64 s] w fun e w' => ∃ v, e = .returned (.tuple #[v, .int .i64 0]) ∧ OB w' w.heap.size v (beBytes n s) ∧ Below w.heap.size w w' := by
  have hs8 : s < 8 → ((n : Int) / 2 ^ (8 * s) != 0) = false := by
    intro h8
    have := hn h8
    have e : ((n : Int) / 2 ^ (8 * s)) = ((n / 2 ^ (8 * s) : Nat) : Int) := by simp
    rw [e, this]; rfl
  have hr := run_make_bytes s (by omega) w
  have d1 : decide ((s : Int) < 1) = false := by simp; omega
  have d2 : decide (8 < (s : Int)) = false := by simp; omega
  have d3 : decide ((n : Int) < 0) = false := by simp
  have hB : Blk (w.alloc (.cells (madeCells #[Value.int .u8 0] s) 5)) w.heap.size 5 (putCells n s 0) := by rw [putCells_zero n s]; exact Blk.new _ _ _
  have hb : Below w.heap.size w (w.alloc (.cells (madeCells #[Value.int .u8 0] s) 5)) := (Below.refl _ _).alloc (Nat.le_refl _) _
  generalize w.alloc (.cells (madeCells #[Value.int .u8 0] s) 5) = w1 at *
  rcases Nat.lt_or_ge s 8 with h8 | h8
  · replace hs8 := hs8 h8
    go_enter Tryd.func65, Tryd.ntmps65
    go_wp2
    go_loopw [33] (fun v wr => ∃ k : Nat, k ≤ s ∧ v = .int .i64 k ∧ Blk wr w.heap.size 5 (putCells n s k) ∧ Below w.heap.size w wr) (fun v _ => s - (intOf v).toNat)
    case atStart => exact ⟨0, Nat.zero_le _, rfl, hB, hb⟩
    case round =>
      obtain ⟨k, hk, rfl, hB', hb'⟩ := hrel
      clear hB hb hr
      by_cases hlt : k < s
      · obtain ⟨v0, hv0⟩ := putCells_at n s k k hlt
        have hc := (hB'.cell k).trans hv0
        have hf := hB'.frozen k
        clear hv0
        go_wp2
        go_roundw
        case rel => exact ⟨k + 1, by omega, by go_num, by rw [byteAt_eq, ← putCells_set]; exact hB'.set_ k _, hb'.setCell (Nat.le_refl _) _⟩
        case measure => simp [intOf]; omega
      · go_wp2
        go_ret2
        refine ⟨_, rfl, ?_, hb'⟩
        have hks : k = s := by omega
        exact own_of_put hks hB'
  · clear hs8
    have d4 : decide ((s : Int) < 8) = false := by simp; omega
    go_enter Tryd.func65, Tryd.ntmps65
    go_wp2
    go_loopw [33] (fun v wr => ∃ k : Nat, k ≤ s ∧ v = .int .i64 k ∧ Blk wr w.heap.size 5 (putCells n s k) ∧ Below w.heap.size w wr) (fun v _ => s - (intOf v).toNat)
    case atStart => exact ⟨0, Nat.zero_le _, rfl, hB, hb⟩
    case round =>
      obtain ⟨k, hk, rfl, hB', hb'⟩ := hrel
      clear hB hb hr
      by_cases hlt : k < s
      · obtain ⟨v0, hv0⟩ := putCells_at n s k k hlt
        have hc := (hB'.cell k).trans hv0
        have hf := hB'.frozen k
        clear hv0
        go_wp2
        go_roundw
        case rel => exact ⟨k + 1, by omega, by go_num, by rw [byteAt_eq, ← putCells_set]; exact hB'.set_ k _, hb'.setCell (Nat.le_refl _) _⟩
        case measure => simp [intOf]; omega
      · go_wp2
        go_ret2
        refine ⟨_, rfl, ?_, hb'⟩
        have hks : k = s := by omega
        exact own_of_put hks hB'

set_option maxRecDepth 100000 in
set_option maxHeartbeats 400000 in
theorem put_no1 (n size : Int) (w : World) (h : size < 1 ∨ 8 < size ∨ n < 0) :
    Calls Tryd.prog 65 #[.int .i64 n, .int .i64 size] w fun e w' => e = .returned (.tuple #[.slice none 0 0, .int .i64 1]) ∧ w = w' := by
  rcases (by omega : size < 1 ∨ 1 ≤ size) with h1 | h1
  · have d1 : decide (size < 1) = true := by simpa using h1
    go_enter Tryd.func65, Tryd.ntmps65
    go_wp2
    go_ret2
    exact ⟨rfl, rfl⟩
  · have d1 : decide (size < 1) = false := by simpa using h1
    rcases (by omega : 8 < size ∨ size ≤ 8) with h2 | h2
    · have d2 : decide (8 < size) = true := by simpa using h2
      go_enter Tryd.func65, Tryd.ntmps65
      go_wp2
      go_ret2
      exact ⟨rfl, rfl⟩
    · have d2 : decide (8 < size) = false := by simpa using h2
      have h3 : n < 0 := by omega
      have d3 : decide (n < 0) = true := by simpa using h3
      go_enter Tryd.func65, Tryd.ntmps65
      go_wp2
      go_ret2
      exact ⟨rfl, rfl⟩
set_option maxRecDepth 100000 in
set_option maxHeartbeats 400000 in
theorem put_no2 (n s : Nat) (w : World) (h1 : 1 ≤ s) (h2 : s < 8) (hn : n / 2 ^ (8 * s) ≠ 0) :
    Calls Tryd.prog 65 #[.int .i64 n, .int .i64 s] w fun e w' => e = .returned (.tuple #[.slice none 0 0, .int .i64 1]) ∧ w = w' := by
  have hs8 : ((n : Int) / 2 ^ (8 * s) != 0) = true := by
    have e : ((n : Int) / 2 ^ (8 * s)) = ((n / 2 ^ (8 * s) : Nat) : Int) := by simp
    rw [e]
    simp only [bne_iff_ne, ne_eq]
    omega
  have d1 : decide ((s : Int) < 1) = false := by simp; omega
  have d2 : decide (8 < (s : Int)) = false := by simp; omega
  have d3 : decide ((n : Int) < 0) = false := by simp
  have d4 : decide ((s : Int) < 8) = true := by simp; omega
  clear hn
  go_enter Tryd.func65, Tryd.ntmps65
  go_wp2
  go_ret2
  exact ⟨rfl, rfl⟩

end Go.Proofs.YtcndkkagnobpmaaDoor
