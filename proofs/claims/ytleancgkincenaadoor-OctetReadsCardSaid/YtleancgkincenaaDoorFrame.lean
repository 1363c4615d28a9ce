/-
  What the laws' frames share: opening a slice of bytes that came in; worlds for the witnesses.
-/
import Derived.Test.YtleancgkincenaaDoorWords2
import Derived.Test.YtleancgkincenaaDoorRows
import Derived.ProofKit
import Derived.OpenShut
import Derived.ShutString
import Derived.ChangeOld
import Derived.Deep.DeepHandedRow
import Derived.Lib.LaidTab
set_option linter.unusedVariables false
set_option linter.unusedSimpArgs false
namespace Go.Proofs.YtleancgkincenaaDoor
open Go.ChangeShapes Go.WideShapes Go.ChangeAt Go.RowKit

theorem own : ownKnob Tryd.prog.godebug = none := by kernel_rfl
theorem laidOut : laidOutB Tryd.prog = true := by kernel_rfl
theorem block_lt_of_cell {w : World} {a : Addr} {v : Value} (h : w.cell? a = some v) : a.block < w.heap.size := by
  rcases Nat.lt_or_ge a.block w.heap.size with h1 | h1
  · exact h1
  · simp [World.cell?, Array.getElem?_eq_none h1] at h

/-- A slice of bytes that came in. -/
theorem open_bytes {H : Type} {enc : TypeId × Value → H} {W : World} {a0 : Option Addr} {n c : Nat} {d : DataW H} {p : List MemPlace}
    (h : DataW.Trod enc Tryd.prog W 0 (fun _ => true) true 22 (.slice a0 n c) d p) :
    ∃ l : List UInt8, l.length = n ∧ n ≤ c ∧ c ≤ maxLen ∧ RB W a0 l ∧ (d = .nil ∧ n = 0 ∨ ∃ sp, d = .slice (lits .u8 (l.map fun b => (b.toNat : Int))) sp) := by
  obtain ⟨fuel, hf⟩ := h
  rcases open_ints Tryd.underlying22 Tryd.underlying5 (by kernel_rfl) hf with ⟨hcs, hx⟩ | ⟨x, l, c', zs, hcs, _, hl, hm, hz, hx, hcell, hwz⟩
  · simp [Value.cells] at hcs
    obtain ⟨rfl, rfl, rfl⟩ := hcs
    simp only [Prod.mk.injEq] at hx
    exact ⟨[], rfl, Nat.le_refl _, by simp [maxLen], RB.nil W, .inl ⟨hx.1, rfl⟩⟩
  · simp [Value.cells] at hcs
    obtain ⟨rfl, rfl, rfl⟩ := hcs
    simp only [Prod.mk.injEq] at hx
    have hz' : zs.length = c := by simpa using hz
    have hby : ∀ z ∈ zs, ((UInt8.ofNat z.toNat).toNat : Int) = z := by
      intro z hz2
      have hw := bounds_u8 (hwz z hz2)
      rw [UInt8.toNat_ofNat']
      omega
    have hlen : ((zs.take n).map fun z => UInt8.ofNat z.toNat).length = n := by rw [List.length_map, List.length_take]; omega
    refine ⟨(zs.take n).map fun z => UInt8.ofNat z.toNat, hlen, hl, hm, ?_, .inr ⟨lits .u8 (zs.drop n), ?_⟩⟩
    · refine ⟨by simp [Lib.byteCells], fun hn => ⟨x, rfl, ?_, fun j u hu => ?_⟩⟩
      · have := block_lt_of_cell (hcell 0 (by omega))
        rwa [block_of_add] at this
      · have hj : j < n := by
          rcases Nat.lt_or_ge j n with h1 | h1
          · exact h1
          · rw [List.getElem?_eq_none (by rw [Lib.byteCells_length, hlen]; exact h1)] at hu; cases hu
        rw [hcell j (by omega)]
        rw [← hu]
        have hjz : j < zs.length := by omega
        simp only [Lib.byteCells, List.map_map, List.getElem?_map]
        rw [List.getElem?_take_of_lt hj, List.getElem?_eq_getElem hjz]
        simp only [Option.map_some, Function.comp, List.getD_eq_getElem?_getD, List.getElem?_eq_getElem hjz, Option.getD_some]
        rw [hby _ (List.getElem_mem hjz)]
    · rw [hx.1]
      congr 2
      rw [List.map_map]
      conv => lhs; rw [← List.map_id (zs.take n)]
      apply List.map_congr_left
      intro z hz2
      simp only [Function.comp, id]
      rw [hby z (List.mem_of_mem_take hz2)]

theorem bytesByte : Tryd.prog.bytesOf 5 = 1 := by kernel_rfl

/-- A table's block, filled with its numbers. -/
def setRow (k : IntKind) (cs : List Nat) : Obj → Obj
  | .cells _ t frozen => .cells (cs.map fun (n : Nat) => Value.int k (Int.ofNat n)).toArray t frozen
  | o => o
/-- A start whose tables of package utf8 hold what their initialisers lay. -/
noncomputable def laidWorld_utf (os : Os) : World :=
  { World.holding Tryd.prog os ⟨#[], #[], []⟩ with heap := ((World.holding Tryd.prog os ⟨#[], #[], []⟩).heap.modify 2 (setRow .u8 Pinned.utf8FirstZ)).modify 3 (setRow .u8 [128, 191, 160, 191, 128, 159, 144, 191, 128, 143, 0, 0, 0, 0, 0, 0, 0, 0, 0, 0, 0, 0, 0, 0, 0, 0, 0, 0, 0, 0, 0, 0]) }

end Go.Proofs.YtleancgkincenaaDoor
