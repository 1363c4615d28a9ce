/-
  slices.Equal at []byte, in a seat without octet.Same: what it returns.
-/
import Derived.Test.YtcndkkagnobpmaaDoorOctPut
import Derived.Deep.QuietTactic
import Derived.BigQuiet
import Derived.Handy
namespace Go.Proofs.YtcndkkagnobpmaaDoor
open Go.RowKit

set_option linter.unusedVariables false

theorem equal_len (A B : Option Addr) (n m c d : Nat) (w : World) (h : n ≠ m) (hn : n ≤ maxLen) (hm : m ≤ maxLen) :
    Calls Tryd.prog 63 #[.slice A n c, .slice B m d] w fun e w' => e = .returned (.bool false) ∧ w = w' := by
  unfold maxLen at hn hm
  have h1 : ((n : Int) != m) = true := by simp; omega
  go_enter Tryd.func63, Tryd.ntmps63
  go_wp2
  go_ret
  exact ⟨rfl, rfl⟩

def firstDiff (a b : List UInt8) (k : Nat) : Prop := a.take k = b.take k
set_option maxRecDepth 100000 in
set_option maxHeartbeats 400000 in
theorem equal_any (A B : Option Addr) (n c d : Nat) (a b : List UInt8) (w : World) (hn : n ≤ 140737488355328) (ha : Reads w w.heap.size 1 A n (Lib.byteCells a)) (hb : Reads w w.heap.size 1 B n (Lib.byteCells b)) :
    Calls Tryd.prog 63 #[.slice A n c, .slice B n d] w fun e w' => e = .returned (.bool (decide (a = b))) ∧ ∃ q, w' = w.drewN q := by
  have hal : a.length = n := by have := ha.1; simpa [Lib.byteCells] using this
  have hbl : b.length = n := by have := hb.1; simpa [Lib.byteCells] using this
  have HAL := Lib.hid hal
  have HBL := Lib.hid hbl
  clear hal hbl
  have h1 : ((n : Int) != n) = false := by simp
  go_enter Tryd.func63, Tryd.ntmps63
  go_wp2
  go_loopw [13] (fun v wr => ∃ k : Nat, k ≤ n ∧ v = .int .i64 k ∧ a.take k = b.take k ∧ ∃ q, wr = w.drewN q) (fun v _ => n - (intOf v).toNat)
  case atStart => exact ⟨0, Nat.zero_le _, rfl, rfl, 0, rfl⟩
  case round =>
    obtain ⟨k, hk, rfl, hab, q, rfl⟩ := hrel
    have HAB := Lib.hid hab
    clear hab
    by_cases hlt : k < n
    · obtain ⟨ad, u, rfl, _, hx, hc⟩ := ha.at_ hlt
      obtain ⟨bd, v, rfl, _, hy, hd⟩ := hb.at_ hlt
      have hka : k < a.length := by rw [HAL.out]; exact hlt
      have hkb : k < b.length := by rw [HBL.out]; exact hlt
      obtain rfl : Value.int .u8 (a[k].toNat : Int) = u := by simpa [Lib.byteCells, hka] using hx
      obtain rfl : Value.int .u8 (b[k].toNat : Int) = v := by simpa [Lib.byteCells, hkb] using hy
      clear hx hy ha hb
      by_cases hxy : a[k] = b[k]
      · have hne : ((a[k].toNat : Int) != (b[k].toNat : Int)) = false := by rw [hxy]; simp
        have HXY := Lib.hid hxy
        have hki : (k : Int) < (n : Int) := by omega
        have hki0 : (0 : Int) ≤ (k : Int) := by omega
        clear hxy
        go_wp2
        go_quiet (fail)
        go_wp2
        go_roundw
        case rel => exact ⟨k + 1, by omega, by go_num, by rw [List.take_succ_eq_append_getElem hka, List.take_succ_eq_append_getElem hkb, HAB.out, HXY.out], q + nq, by first | rfl | rw [World.drewN_drewN]⟩
        case measure => simp [intOf]; omega
      · have hne : ((a[k].toNat : Int) != (b[k].toNat : Int)) = true := by
          rw [bne_iff_ne]
          intro e
          exact hxy (UInt8.toNat.inj (by omega))
        have hki : (k : Int) < (n : Int) := by omega
        have hki0 : (0 : Int) ≤ (k : Int) := by omega
        have HXY := Lib.hid hxy
        clear hxy
        go_wp2
        go_quiet (fail)
        go_wp2
        go_ret
        refine ⟨?_, q + nq, by first | rfl | rw [World.drewN_drewN]⟩
        have : a ≠ b := by rintro rfl; exact HXY.out rfl
        simp [this]
    · go_wp2
      go_ret
      refine ⟨?_, q, rfl⟩
      have hkn : k = n := by omega
      have hab := HAB.out
      rw [List.take_of_length_le (by rw [HAL.out]; omega), List.take_of_length_le (by rw [HBL.out]; omega)] at hab
      simp [hab]
theorem take_both (a b : List UInt8) (k : Nat) (h1 : k < a.length) (h2 : k < b.length) : a.take (k + 1) = b.take (k + 1) ↔ (a.take k = b.take k ∧ a[k] = b[k]) := by
  rw [List.take_succ_eq_append_getElem h1, List.take_succ_eq_append_getElem h2]
  constructor
  · intro h
    have := List.append_inj h (by simp; omega)
    exact ⟨this.1, by simpa using this.2⟩
  · rintro ⟨h, e⟩
    rw [h, e]
end Go.Proofs.YtcndkkagnobpmaaDoor
