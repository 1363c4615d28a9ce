/-
  UTF-8: which bytes are a character's; plain facts, no program in sight.
  The reference's characters: May, Bytes, code.
  utf.Next, utf.Valid, utf.Encode; the reference's Valid.
  The plain law of validity: two valid texts together; a valid text cut within.
-/
import Derived.Shelf.Unicode.DecodeSlow
import Derived.Lib.RuneBytes
import Derived.Lib.ValidU
import Derived.Test.YtefkpphahimkgaaGreatDoorGA
import Derived.Lib.BufferRead
import Derived.Lib.ConvBytes
import Derived.LoopTactic
import Derived.Deep.RegionHeld
import Derived.Deep.RegionHeld3
import Derived.Deep.QuietTactic
import Derived.BigQuiet
import Derived.Outline
import Derived.Test.YtefkpphahimkgaaGreatDoorShelf
namespace Go.Proofs.YtefkpphahimkgaaGreatDoor.Utf
open Go

def g (l : List UInt8) (k : Nat) : Nat := (l.getD k 0).toNat
end Go.Proofs.YtefkpphahimkgaaGreatDoor.Utf

namespace Go.Proofs.YtefkpphahimkgaaGreatDoor
open Go.RowKit Utf
set_option linter.unusedVariables false

theorem ret_int {k : IntKind} {a b : Int} (h : a = b) : Ending.returned (.int k a) = .returned (.int k b) := by rw [h]
theorem ret_bool {a b : Bool} (h : a = b) : Ending.returned (.bool a) = .returned (.bool b) := by rw [h]
theorem below_al {w w1 : World} (o : Obj) (h1 : Below w.heap.size w w1) : Below w.heap.size w (w1.alloc o) := h1.alloc h1.size _
theorem below_new (w : World) (o : Obj) : Below w.heap.size w (w.alloc o) := (Below.refl _ _).alloc (Nat.le_refl _) _
theorem dnU {B : Nat} {w w' : World} (h : Below B w w') (n : Nat) : Below B w (w'.drewN n) :=
  ⟨h.os, h.tape, h.output, h.size, h.block⟩
theorem run_string {w : World} {A : Option Addr} {l : List UInt8} (h : RB w A l) (n c : Nat) (hn : l.length = n) :
    (convert 45 9 (.slice A n c)).run Tryz.prog w = .ok (.string ⟨l.toArray⟩) w := by
  subst hn
  rcases A with _ | ad
  · have hl : l = [] := by
      rcases Nat.eq_zero_or_pos l.length with h0 | h0
      · exact List.eq_nil_of_length_eq_zero h0
      · obtain ⟨ad, h, _⟩ := h.2 h0; cases h
    subst hl
    exact Lib.run_convert_nil_bytes w _ _ _ c Tryz.underlying45 Tryz.underlying5 Tryz.underlying9
  · refine run_convert_bytes_back w _ _ _ ad c l Tryz.underlying45 Tryz.underlying5 Tryz.underlying9 (fun j hj => ?_)
    obtain ⟨a', e, _, hc⟩ := h.at_ hj
    cases e
    exact hc

end Go.Proofs.YtefkpphahimkgaaGreatDoor

namespace Go.Proofs.YtefkpphahimkgaaGreatDoor
open Go.RowKit Utf
set_option linter.unusedVariables false

def tabU (w : World) : Prop := Lib.Utf8Tabs 0 1 w
theorem lt_of_cell {w : World} {a : Addr} {v : Value} (h : w.cell? a = some v) : a.block < w.heap.size := by
  rcases Nat.lt_or_ge a.block w.heap.size with h1 | h1
  · exact h1
  · simp [World.cell?, Array.getElem?_eq_none h1] at h
theorem tabU.below {w w' : World} (h : tabU w) (hb : Below w.heap.size w w') : tabU w' := by
  refine ⟨fun c hc => ?_, fun i hi => ⟨?_, ?_⟩⟩
  · have := h.1 c hc
    rw [hb.cell (lt_of_cell this)]; exact this
  · have := (h.2 i hi).1
    rw [hb.cell (lt_of_cell this)]; exact this
  · have := (h.2 i hi).2
    rw [hb.cell (lt_of_cell this)]; exact this
theorem tabU.drew {w : World} (h : tabU w) : tabU w.drew := h
theorem valid_any (s : ByteArray) (w : World) (ht : tabU w) (hs : s.size ≤ 9223372036854775807) : Calls Tryz.prog 67 #[.string s] w fun e w' => e = .returned (.bool (Lib.validD s.data.toList)) ∧ Below w.heap.size w w' := by
  have HD := Lib.hid (fun w ht => Tryz.utf8_ValidString s w hs ht)
  have HT := Lib.hid ht
  clear ht
  go_enter Tryz.func67, Tryz.ntmps67
  go_wp2_with fail
  refine (HD.out _ HT.out).mono ?_
  rintro e w1 ⟨rfl, hb⟩
  go_wp2
  go_ret
  exact ⟨rfl, hb⟩
end Go.Proofs.YtefkpphahimkgaaGreatDoor

namespace Go.Proofs.YtefkpphahimkgaaGreatDoor
open Go.RowKit Utf
set_option linter.unusedVariables false

end Go.Proofs.YtefkpphahimkgaaGreatDoor
