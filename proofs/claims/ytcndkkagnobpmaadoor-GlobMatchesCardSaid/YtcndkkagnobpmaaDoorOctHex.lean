/-
  octet.Hex: what it returns.
-/
import Derived.Test.YtcndkkagnobpmaaDoorBuilder
import Derived.Test.YtcndkkagnobpmaaDoorShelf
import Derived.Handy
namespace Go.Proofs.YtcndkkagnobpmaaDoor
open Go.RowKit

def hexDigit (n : Nat) : UInt8 := if n < 10 then UInt8.ofNat (48 + n) else UInt8.ofNat (87 + n)
def hexL (l : List UInt8) : List UInt8 := l.flatMap fun c => [hexDigit (c.toNat / 16), hexDigit (c.toNat % 16)]

theorem hexAt (i : Nat) (h : i < 16) : (({ data := #[48, 49, 50, 51, 52, 53, 54, 55, 56, 57, 97, 98, 99, 100, 101, 102] } : ByteArray)[i]'h) = hexDigit i := by
  have : ∀ j : Fin 16, (({ data := #[48, 49, 50, 51, 52, 53, 54, 55, 56, 57, 97, 98, 99, 100, 101, 102] } : ByteArray)[j.1]'j.2) = hexDigit j.1 := by decide
  exact this ⟨i, h⟩
theorem hexL_length (l : List UInt8) : (hexL l).length = 2 * l.length := by
  induction l with
  | nil => rfl
  | cons a l ih => simp only [hexL, List.flatMap_cons, List.length_append, List.length_cons, List.length_nil] at *; omega
theorem hexL_append (a b : List UInt8) : hexL (a ++ b) = hexL a ++ hexL b := by simp [hexL]
theorem hexL_snoc (l : List UInt8) (k : Nat) (x : UInt8) (hkl : k < l.length) (hx : l[k] = x) (h1 : x.toNat / 16 < 16) (h2 : x.toNat % 16 < 16) :
    Lib.byteCells (hexL (l.take k)) ++ [Value.int .u8 ((({ data := #[48, 49, 50, 51, 52, 53, 54, 55, 56, 57, 97, 98, 99, 100, 101, 102] } : ByteArray)[x.toNat / 16]'h1).toNat : Int)] ++ [Value.int .u8 ((({ data := #[48, 49, 50, 51, 52, 53, 54, 55, 56, 57, 97, 98, 99, 100, 101, 102] } : ByteArray)[x.toNat % 16]'h2).toNat : Int)] = Lib.byteCells (hexL (l.take (k + 1))) := by
  rw [List.take_succ_eq_append_getElem hkl, hexL_append, hx, hexAt _ h1, hexAt _ h2]
  simp [Lib.byteCells, hexL]

theorem newBuilder (w : World) (B : Nat) (hB : B ≤ w.heap.size) : Lib.IsBuilder 106 5 B w.heap.size [] (w.alloc (.cells #[.pointer none, .slice none 0 0] 106)) :=
  .inl ⟨hB, .slice none 0 0, heap_alloc_new w _, World.ownsRow_nil _ _ _ _, by simp [Value.ownBlock]⟩

theorem getElem?_take_byteCells {l : List UInt8} {k : Nat} (h : k < l.length) : (Lib.byteCells l)[k]? = some (.int .u8 (l[k].toNat : Int)) := by
  simp [Lib.byteCells, h]

set_option maxRecDepth 100000 in
set_option maxHeartbeats 400000 in
theorem hex_any (A : Option Addr) (n c : Nat) (l : List UInt8) (w : World) (hn : n ≤ 70368744177664) (hr : Reads w w.heap.size 1 A n (Lib.byteCells l)) :
    Calls Tryd.prog 53 #[.slice A n c] w fun e w' => e = .returned (.string ⟨(hexL l).toArray⟩) ∧ Below w.heap.size w w' := by
  have hl : l.length = n := by have := hr.1; simpa [Lib.byteCells] using this
  have HL : Hid (l.length = n) := Lib.hid hl
  clear hl
  go_enter Tryd.func53, Tryd.ntmps53
  go_wp2
  go_loopw [8] (fun v wr => ∃ k : Nat, k ≤ n ∧ v = .int .i64 k ∧ Lib.IsBuilder 106 5 w.heap.size w.heap.size (Lib.byteCells (hexL (l.take k))) wr ∧ Below w.heap.size w wr) (fun v _ => n - (intOf v).toNat)
  case atStart => exact ⟨0, Nat.zero_le _, rfl, newBuilder w _ (Nat.le_refl _), (Below.refl _ _).alloc (Nat.le_refl _) _⟩
  case round =>
    obtain ⟨k, hk, rfl, hB, hb⟩ := hrel
    by_cases hlt : k < n
    · obtain ⟨ad, u, rfl, _, hx, hc⟩ := (hr.below hb).at_ hlt
      have hkl : k < l.length := by rw [HL.out]; exact hlt
      obtain rfl : Value.int .u8 (l[k].toNat : Int) = u := by rw [getElem?_take_byteCells hkl] at hx; exact Option.some.inj hx
      generalize hxv : l[k] = x at *
      have hx256 : (x.toNat : Int) < 256 := by have := x.toNat_lt; omega
      have hx0 : 0 ≤ (x.toNat : Int) := by omega
      clear hx hr
      have hlen : (Lib.byteCells (hexL (l.take k))).length + 2 ≤ 140737488355328 := by rw [Lib.byteCells_length, hexL_length, List.length_take]; omega
      go_wp2_with fail
      refine (writeByte_any w.heap.size w.heap.size _ _ _ hB (by omega) hb.size).mono ?_
      rintro e w1 ⟨rfl, hB1, hb1⟩
      have hb2 := hb.trans hb1
      go_wp2_with fail
      refine (writeByte_any w.heap.size w.heap.size _ _ _ (.inr hB1) (by simp; omega) hb2.size).mono ?_
      rintro e w2 ⟨rfl, hB2, hb3⟩
      go_wp2_with fail
      go_roundw
      case rel => exact ⟨k + 1, by omega, by go_num, .inr (by rw [← hexL_snoc l k x hkl hxv (by omega) (by omega)]; exact hB2), hb2.trans hb3⟩
      case measure => simp [intOf]; omega
    · have hkn : k = n := by omega
      have HK : Hid (k = n) := hkn
      clear hkn
      go_wp2_with fail
      refine (Tryd.Builder_String_any w.heap.size w.heap.size _ _ hB hb.size).mono ?_
      rintro e w1 ⟨rfl, hb1⟩
      go_wp2
      go_ret
      refine ⟨?_, hb.trans hb1⟩
      rw [HK.out, ← HL.out, List.take_length]; rfl

end Go.Proofs.YtcndkkagnobpmaaDoor
