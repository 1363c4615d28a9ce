/-
  Bytes that are read survive writes to blocks that hold no bytes.
-/
import Derived.Test.YteofdpogjnojnaaGreatDoorWords2
namespace Go.Proofs.YteofdpogjnojnaaGreatDoor
open Go.RowKit
set_option linter.unusedVariables false

/-- no byte lies in block g -/
def NoBy (w : World) (g : Nat) : Prop := ∀ (o : Nat) (x : Int), w.cell? ⟨g, o, none⟩ ≠ some (.int .u8 x)
theorem cell_spot {w : World} {a : Addr} {v : Value} (h : w.cell? a = some v) : a = ⟨a.block, a.off, none⟩ := by
  obtain ⟨b, o, sp⟩ := a
  unfold World.cell? at h
  cases sp with
  | none => rfl
  | some k =>
    exfalso
    revert h
    simp only
    split
    · simp
    · simp
theorem RB.fr2 {S : Nat → Prop} {w w' : World} {A : Option Addr} {l : List UInt8} (h : RB w A l) (hf : Fr S w w') (hS : ∀ g, S g → g < w.heap.size → NoBy w g) : RB w' A l := by
  rcases Nat.eq_zero_or_pos l.length with h0 | h0
  · exact ⟨h.1, fun hn => by omega⟩
  · obtain ⟨ad, hA, hlt, hc⟩ := RB.at_ h h0
    refine RB.fr h hf ?_
    intro ad' hA' hs
    rw [hA] at hA'
    cases hA'
    have e := cell_spot hc
    rw [e] at hc
    have hb : (ad.add 0).block = ad.block := by unfold Addr.add; split <;> rfl
    rw [hb] at hc
    exact hS _ hs hlt _ _ hc
theorem NoBy.of_blk {w : World} {g : Nat} {t : TypeId} {cs : Array Value} (h : Blk w g t cs) (hno : ∀ (k : Nat) (x : Int), cs[k]? ≠ some (.int .u8 x)) : NoBy w g := fun o x => by rw [h.cell]; exact hno o x
theorem fr_cell {w : World} {g k : Nat} (u : Value) : Fr (· = g) w (w.setCell ⟨g, k, none⟩ u) := (Fr.refl (fun x => x = g) w).setCell (p := ⟨g, k, none⟩) (fun _ => rfl) u
theorem RB.of_blk {w : World} {g : Nat} {t : TypeId} {l : List UInt8} (h : Blk w g t (Lib.byteCells l).toArray) : RB w (some ⟨g, 0, none⟩) l := by
  refine ⟨by simp [Lib.byteCells], fun hn => ⟨_, rfl, h.lt, fun j u hu => ?_⟩⟩
  rw [Addr.add_lit, Nat.zero_add, h.cell j]
  simpa using hu
theorem made_zeros (z : Nat) : madeCells #[Value.int .u8 0] z = (Lib.byteCells (List.replicate z 0)).toArray := by
  simp only [madeCells, Lib.byteCells, List.map_replicate]
  apply Array.ext_getElem?
  intro j
  rcases Nat.lt_or_ge j z with hj | hj
  · simp [hj, Nat.mod_one]
  · rw [Array.getElem?_eq_none (by simp; omega), Array.getElem?_eq_none (by simp; omega)]
end Go.Proofs.YteofdpogjnojnaaGreatDoor
