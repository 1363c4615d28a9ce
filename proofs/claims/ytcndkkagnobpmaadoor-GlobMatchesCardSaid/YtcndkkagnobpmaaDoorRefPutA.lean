/-
  pursuivantref01.Put and Text: what they return.
-/
import Derived.Test.YtcndkkagnobpmaaDoorOctPut
import Derived.Test.YtcndkkagnobpmaaDoorAppend
import Derived.Handy
namespace Go.Proofs.YtcndkkagnobpmaaDoor
open Go.RowKit
set_option linter.unusedVariables false

def rputCells (n s k : Nat) : Array Value := ((List.range s).map fun i => if k ≤ i then u8v (byteAt n s i) else .int .u8 0).toArray
theorem rputCells_size (n s k : Nat) : (rputCells n s k).size = s := by simp [rputCells]
theorem rputCells_set (n s k : Nat) : (rputCells n s (k + 1)).setIfInBounds k (u8v (byteAt n s k)) = rputCells n s k := by
  apply Array.ext_getElem?
  intro i
  simp only [Array.getElem?_setIfInBounds, rputCells_size]
  by_cases e : k = i
  · subst e
    by_cases h : k < s <;> simp [rputCells, h]
  · rw [if_neg e]
    simp only [rputCells, List.getElem?_toArray, List.getElem?_map]
    by_cases hi : i < s
    · have : (k + 1 ≤ i) = (k ≤ i) := by rw [eq_iff_iff]; omega
      simp [hi, this]
    · simp [hi]
theorem rputCells_at (n s k i : Nat) (h : i < s) : ∃ v, (rputCells n s k)[i]? = some v := by
  rw [← rputCells_size n s k] at h
  exact ⟨_, Array.getElem?_eq_getElem h⟩
theorem rputCells_zero (n s : Nat) : rputCells n s 0 = putCells n s s := by
  unfold rputCells putCells
  congr 1
  apply List.map_congr_left
  intro i hi
  simp at hi
  simp [hi]
theorem rputCells_all (n s : Nat) : madeCells #[Value.int .u8 0] s = rputCells n s s := by
  rw [putCells_zero n s]
  unfold rputCells putCells
  congr 1
  apply List.map_congr_left
  intro i hi
  simp at hi
  rw [if_neg (by omega), if_neg (by omega)]
theorem byte_div (n s k : Nat) (h : k < s) : Value.int .u8 (((n / 256 ^ (s - 1 - k) : Nat) : Int) % 256) = u8v (byteAt n s k) := by
  unfold u8v byteAt
  have e : (256 : Nat) ^ (s - 1 - k) = 2 ^ (8 * (s - 1 - k)) := by rw [Nat.pow_mul]
  rw [e, UInt8.toNat_ofNat']
  rfl

set_option maxRecDepth 100000 in
set_option maxHeartbeats 400000 in
theorem refPut_no (n size : Int) (w : World) (h : size < 1 ∨ 8 < size ∨ n < 0) :
    Calls Tryd.prog 83 #[.int .i64 n, .int .i64 size] w fun e w' => e = .returned (.tuple #[.slice none 0 0, .bool false]) ∧ w = w' := by
  rcases (by omega : size < 1 ∨ 1 ≤ size) with h1 | h1
  · have d1 : decide (size < 1) = true := by simpa using h1
    go_enter Tryd.func83, Tryd.ntmps83
    go_wp2
    go_ret2
    exact ⟨rfl, rfl⟩
  · have d1 : decide (size < 1) = false := by simpa using h1
    rcases (by omega : 8 < size ∨ size ≤ 8) with h2 | h2
    · have d2 : decide (8 < size) = true := by simpa using h2
      go_enter Tryd.func83, Tryd.ntmps83
      go_wp2
      go_ret2
      exact ⟨rfl, rfl⟩
    · have d2 : decide (8 < size) = false := by simpa using h2
      have h3 : n < 0 := by omega
      have d3 : decide (n < 0) = true := by simpa using h3
      go_enter Tryd.func83, Tryd.ntmps83
      go_wp2
      go_ret2
      exact ⟨rfl, rfl⟩

def PutPost (n s : Nat) (w : World) (e : Ending) (w' : World) : Prop :=
  (n / 256 ^ s = 0 ∧ ∃ v, e = .returned (.tuple #[v, .bool true]) ∧ OB w' w.heap.size v (beBytes n s) ∧ Below w.heap.size w w') ∨ (n / 256 ^ s ≠ 0 ∧ e = .returned (.tuple #[.slice none 0 0, .bool false]) ∧ Below w.heap.size w w')
theorem rput_rel (n s k m : Nat) (w wr : World) (hk : k + 1 ≤ s) (hn : n ≤ 9223372036854775807) (hm : n / 256 ^ (s - (k + 1)) = m) (hB : Blk wr w.heap.size 5 (rputCells n s (k + 1))) (hb : Below w.heap.size w wr) :
    ∃ k_1 : Nat, k_1 ≤ s ∧ Value.int .i64 ((k : Int) - 1) = Value.int .i64 ((k_1 : Int) - 1) ∧ Value.int .i64 (wrap64 ((m : Int) / 256)) = Value.int .i64 ((n / 256 ^ (s - k_1) : Nat) : Int) ∧
      Blk (wr.setCell ⟨w.heap.size, k, none⟩ (.int .u8 ((m : Int) % 256))) w.heap.size 5 (rputCells n s k_1) ∧ Below w.heap.size w (wr.setCell ⟨w.heap.size, k, none⟩ (.int .u8 ((m : Int) % 256))) := by
  have hmn : m ≤ n := by rw [← hm]; exact Nat.div_le_self _ _
  refine ⟨k, by omega, rfl, ?_, ?_, hb.setCell (Nat.le_refl _) _⟩
  · have e : n / 256 ^ (s - k) = m / 256 := by
      rw [← hm, Nat.div_div_eq_div_mul, show s - k = (s - (k + 1)) + 1 from by omega, Nat.pow_succ]
    rw [e, IntWalk.wrap64_in _ (by omega)]
    simp
  · have e := byte_div n s k (by omega)
    rw [show s - 1 - k = s - (k + 1) from by omega, hm] at e
    rw [e, ← rputCells_set]
    exact hB.set_ k _

set_option maxRecDepth 100000 in
set_option maxHeartbeats 400000 in
theorem refPut_any (n s : Nat) (w : World) (h : 1 ≤ s) (h2 : s ≤ 8) (hn : n ≤ 9223372036854775807) :
    Calls Tryd.prog 83 #[.int .i64 n, .int .i64 s] w (PutPost n s w) := by
  have hr := run_make_bytes s (by omega) w
  have HN := Lib.hid hn
  clear hn
  have d1 : decide ((s : Int) < 1) = false := by simp; omega
  have d2 : decide (8 < (s : Int)) = false := by simp; omega
  have d3 : decide ((n : Int) < 0) = false := by simp
  have hB : Blk (w.alloc (.cells (madeCells #[Value.int .u8 0] s) 5)) w.heap.size 5 (rputCells n s s) := by rw [rputCells_all n s]; exact Blk.new _ _ _
  have hb : Below w.heap.size w (w.alloc (.cells (madeCells #[Value.int .u8 0] s) 5)) := (Below.refl _ _).alloc (Nat.le_refl _) _
  generalize w.alloc (.cells (madeCells #[Value.int .u8 0] s) 5) = w1 at *
  go_enter Tryd.func83, Tryd.ntmps83
  go_wp2
  go_loopw [0, 7] (fun m v wr => ∃ k : Nat, k ≤ s ∧ v = .int .i64 ((k : Int) - 1) ∧ m = .int .i64 ((n / 256 ^ (s - k) : Nat) : Int) ∧ Blk wr w.heap.size 5 (rputCells n s k) ∧ Below w.heap.size w wr) (fun _ v _ => ((intOf v) + 1).toNat)
  case atStart => exact ⟨s, Nat.le_refl _, rfl, by simp, hB, hb⟩
  case round =>
    obtain ⟨k, hk, rfl, rfl, hB', hb'⟩ := hrel
    clear hB hb hr
    rcases k with _ | k
    · rw [show (((0 : Nat) : Int) - 1) = -1 from rfl, Nat.sub_zero]
      rw [rputCells_zero] at hB'
      have HO := Lib.hid (own_of_put rfl hB' h2)
      clear hB'
      generalize hm : n / 256 ^ s = m
      have HM := Lib.hid hm
      clear hm
      rcases Nat.eq_zero_or_pos m with h0 | h0
      · subst h0
        rw [show (((0 : Nat) : Int)) = 0 from rfl]
        go_wp2
        go_ret2
        exact .inl ⟨HM.out, _, rfl, HO.out, hb'⟩
      · have d5 : decide (0 < (m : Int)) = true := by rw [decide_eq_true_iff]; omega
        have d6 : decide (0 < m) = true := by rw [decide_eq_true_iff]; omega
        go_wp2
        go_ret2
        exact .inr ⟨by rw [HM.out]; omega, rfl, hb'⟩
    · obtain ⟨v0, hv0⟩ := rputCells_at n s (k + 1) k (by omega)
      have hc := (hB'.cell k).trans hv0
      have hf := hB'.frozen k
      clear hv0
      have e0 : ((k + 1 : Nat) : Int) - 1 = (k : Int) := by omega
      rw [e0]
      generalize hm : n / 256 ^ (s - (k + 1)) = m
      have HREL := Lib.hid (rput_rel n s k m w wr hk HN.out hm hB' hb')
      clear hm e0
      go_wp2
      go_roundw
      case rel => exact HREL.out
      case measure => simp [intOf] <;> omega
end Go.Proofs.YtcndkkagnobpmaaDoor
