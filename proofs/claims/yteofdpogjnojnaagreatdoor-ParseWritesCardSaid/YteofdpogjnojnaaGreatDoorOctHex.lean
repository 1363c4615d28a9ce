/-
  octet.Hex: what it returns.
-/
import Derived.Test.YteofdpogjnojnaaGreatDoorBuilder
import Derived.Test.YteofdpogjnojnaaGreatDoorShelf
import Derived.Handy
namespace Go.Proofs.YteofdpogjnojnaaGreatDoor
open Go.RowKit

def hexDigit (n : Nat) : UInt8 := if n < 10 then UInt8.ofNat (48 + n) else UInt8.ofNat (87 + n)
def hexL (l : List UInt8) : List UInt8 := l.flatMap fun c => [hexDigit (c.toNat / 16), hexDigit (c.toNat % 16)]

theorem hexAt (i : Nat) (h : i < 16) : (({ data := #[48, 49, 50, 51, 52, 53, 54, 55, 56, 57, 97, 98, 99, 100, 101, 102] } : ByteArray)[i]'h) = hexDigit i := by
  have : ∀ j : Fin 16, (({ data := #[48, 49, 50, 51, 52, 53, 54, 55, 56, 57, 97, 98, 99, 100, 101, 102] } : ByteArray)[j.1]'j.2) = hexDigit j.1 := by decide
  exact this ⟨i, h⟩
theorem hexL_length (l : List UInt8) : (hexL l).length = 2 * l.length := by
  induction l with
  | nil => rfl
  | cons a l ih => simp only [hexL, List.flatMap_cons, List.length_append, List.length_cons, List.length_nil] at *; omega
theorem hexL_append (a b : List UInt8) : hexL (a ++ b) = hexL a ++ hexL b := by simp [hexL]
theorem hexL_snoc (l : List UInt8) (k : Nat) (x : UInt8) (hkl : k < l.length) (hx : l[k] = x) (h1 : x.toNat / 16 < 16) (h2 : x.toNat % 16 < 16) :
    Lib.byteCells (hexL (l.take k)) ++ [Value.int .u8 ((({ data := #[48, 49, 50, 51, 52, 53, 54, 55, 56, 57, 97, 98, 99, 100, 101, 102] } : ByteArray)[x.toNat / 16]'h1).toNat : Int)] ++ [Value.int .u8 ((({ data := #[48, 49, 50, 51, 52, 53, 54, 55, 56, 57, 97, 98, 99, 100, 101, 102] } : ByteArray)[x.toNat % 16]'h2).toNat : Int)] = Lib.byteCells (hexL (l.take (k + 1))) := by
  rw [List.take_succ_eq_append_getElem hkl, hexL_append, hx, hexAt _ h1, hexAt _ h2]
  simp [Lib.byteCells, hexL]

theorem newBuilder (w : World) (B : Nat) (hB : B ≤ w.heap.size) : Lib.IsBuilder 94 5 B w.heap.size [] (w.alloc (.cells #[.pointer none, .slice none 0 0] 94)) :=
  .inl ⟨hB, .slice none 0 0, heap_alloc_new w _, World.ownsRow_nil _ _ _ _, by simp [Value.ownBlock]⟩

theorem getElem?_take_byteCells {l : List UInt8} {k : Nat} (h : k < l.length) : (Lib.byteCells l)[k]? = some (.int .u8 (l[k].toNat : Int)) := by
  simp [Lib.byteCells, h]

end Go.Proofs.YteofdpogjnojnaaGreatDoor
