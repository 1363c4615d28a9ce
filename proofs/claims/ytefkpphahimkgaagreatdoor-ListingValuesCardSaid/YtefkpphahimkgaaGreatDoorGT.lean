/-
 pursuivantref02.Block.
 pursuivantref02.first, Of.
-/
import Derived.Test.YtefkpphahimkgaaGreatDoorGS
import Derived.Deep.RegionHeld3
import Derived.Test.YtefkpphahimkgaaGreatDoorGA
import Derived.Deep.RegionWith
namespace Go.Proofs.YtefkpphahimkgaaGreatDoor
open Go.RowKit
set_option linter.unusedVariables false
def SchR (b : List UInt8) (H t : Nat) (wr : World) : Prop := ∃ cs : Array Value, Blk wr H 175 cs ∧ cs.size = 64 ∧ (∀ i, i < t → cs[i]? = some (.int .u32 ((schedN b t).getD i 0))) ∧ ∀ i, t ≤ i → i < 64 → cs[i]? = some (.int .u32 0)
theorem SchR.start (b : List UInt8) {w : World} {H : Nat} (h : Blk w H 175 zero64) : SchR b H 0 w := by
 have hz : ∀ i, i < 64 → zero64[i]? = some (.int .u32 0) := fun i hi => by
  rw [show zero64 = Array.replicate 64 (.int .u32 0) from rfl]
  simp [hi]
 exact ⟨zero64, h, rfl, fun i hi => by omega, fun i _ hi => hz i hi⟩
theorem SchR.here {b : List UInt8} {H t : Nat} {wr : World} (h : SchR b H t wr) (ht : t < 64) : wr.cell? ⟨H, t, none⟩ = some (.int .u32 0) ∧ wr.frozen? ⟨H, t, none⟩ = false := by
 obtain ⟨cs, h1, h2, h3, h5⟩ := h
 exact ⟨by rw [h1.cell, h5 t (Nat.le_refl _) ht], h1.frozen t⟩
theorem SchR.old {b : List UInt8} {H t i : Nat} {wr : World} (h : SchR b H t wr) (hi : i < t) : wr.cell? ⟨H, i, none⟩ = some (.int .u32 ((schedN b t).getD i 0)) := by
 obtain ⟨cs, h1, h2, h3, h5⟩ := h
 rw [h1.cell, h3 i hi]
theorem SchR.word {b : List UInt8} {H t : Nat} {wr : World} (h : SchR b H t wr) (ht : t < 64) {v : Int} (hv : v = stepW b (schedN b t) t) : SchR b H (t + 1) (wr.setCell ⟨H, t, none⟩ (.int .u32 v)) := by
 obtain ⟨cs, h1, h2, h3, h5⟩ := h
 subst hv
 refine ⟨_, h1.set_ t _, by simpa using h2, fun i hi => ?_, fun i hi hi2 => by rw [Array.getElem?_setIfInBounds_ne (by omega)]; exact h5 i (by omega) hi2⟩
 rcases (by omega : i < t ∨ i = t) with h | h
 ·rw [Array.getElem?_setIfInBounds_ne (by omega), sched_getD h]; exact h3 i h
 ·subst h; rw [sched_last, Array.getElem?_setIfInBounds_self_of_lt (by omega)]
theorem SchR.drew {b : List UInt8} {H t : Nat} {w : World} (h : SchR b H t w) : SchR b H t w.drew := h
theorem SchR.fr {S : Nat → Prop} {b : List UInt8} {H t : Nat} {w w' : World} (h : SchR b H t w) (hf : Fr S w w') (hH : ¬ S H) : SchR b H t w' := by
 obtain ⟨cs, h1, h2⟩ := h
 exact ⟨cs, h1.fr hf hH, h2⟩
theorem SchR.below {b : List UInt8} {H t : Nat} {w w' : World} (h : SchR b H t w) (hb : Below w.heap.size w w') : SchR b H t w' := by
 obtain ⟨cs, h1, h2⟩ := h
 exact ⟨cs, h1.below hb h1.lt, h2⟩
end Go.Proofs.YtefkpphahimkgaaGreatDoor
