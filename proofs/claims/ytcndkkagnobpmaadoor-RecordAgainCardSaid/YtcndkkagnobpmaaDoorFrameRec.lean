/-
  What the frames of record's laws share: sha's constants, a world for the witnesses, bytes that came in.
-/
import Derived.Test.YtcndkkagnobpmaaDoorRecLives
import Derived.Test.YtcndkkagnobpmaaDoorRows
import Derived.ProofKit
import Derived.OpenShut
import Derived.ShutString
import Derived.ChangeOld
import Derived.Deep.DeepHandedRow
import Derived.Deep.DeepWitnessRowRef
import Derived.Lib.LaidTab
import Derived.Stop.LaidErr
import Derived.Lay
import Derived.MakeChecks
set_option linter.unusedVariables false
set_option linter.unusedSimpArgs false
namespace Go.Proofs.YtcndkkagnobpmaaDoor
open Go.ChangeShapes Go.WideShapes Go.ChangeAt Go.RowKit

theorem own : ownKnob Tryd.prog.godebug = none := by kernel_rfl
theorem laidOut : laidOutB Tryd.prog = true := by kernel_rfl
theorem kon_lit {H : Type} : (Rows.laid_pursuivant_sha_constants : DataW H) = Lib.tabData .u32 kL := rfl
theorem kon_glob : Tryd.prog.globalNamed "pursuivant/sha.constants" = some 0 := by kernel_rfl
theorem kon_type : (Tryd.prog.globals[(0 : Nat)]?).map (·.type) = some 133 := by kernel_rfl
theorem tabK_of_laid {W : World} (h2 : laidMetH Tryd.prog [("pursuivant/sha.constants", Rows.laid_pursuivant_sha_constants)] W) : TabK W := by
  have h2 := (show laidMet Tryd.prog [("pursuivant/sha.constants", Rows.laid_pursuivant_sha_constants)] W from h2)
  rw [kon_lit] at h2
  have h3 := Lib.tabIs_of_head kon_glob kon_type Tryd.underlying133 Tryd.underlying113 (by kernel_rfl) (by kernel_rfl) h2
  unfold Lib.TabIs World.var? at h3
  rw [kon_glob] at h3
  simp only [Option.bind_some] at h3
  split at h3
  · rename_i cs t fr heq
    cases h3
    exact ⟨t, fr, heq⟩
  · cases h3
/-- A start whose tables hold what their initialisers lay. -/
noncomputable def laidWorld_r (os : Os) : World := World.laidAll Tryd.prog os Rows.recordNobodyRow.laid
theorem laid_r (os : Os) (args : Array Value) : laidMet Tryd.prog Rows.recordNobodyRow.laid ((laidWorld_r os).forCall (fun _ _ => 0) ⟨#[], args, []⟩).memory :=
  laidMet_laidAll _ (by kernel_rfl) (by kernel_rfl)
theorem block_lt_of_cell {w : World} {a : Addr} {v : Value} (h : w.cell? a = some v) : a.block < w.heap.size := by
  rcases Nat.lt_or_ge a.block w.heap.size with h1 | h1
  · exact h1
  · simp [World.cell?, Array.getElem?_eq_none h1] at h

/-- A slice of bytes that came in. -/
theorem open_bytes {H : Type} {enc : TypeId × Value → H} {W : World} {a0 : Option Addr} {n c : Nat} {d : DataW H} {p : List MemPlace}
    (h : DataW.Trod enc Tryd.prog W 0 (fun _ => true) true 22 (.slice a0 n c) d p) :
    ∃ l : List UInt8, l.length = n ∧ n ≤ c ∧ c ≤ maxLen ∧ RB W a0 l ∧ (d = .nil ∧ n = 0 ∨ ∃ sp, d = .slice (lits .u8 (l.map fun b => (b.toNat : Int))) sp) := by
  obtain ⟨fuel, hf⟩ := h
  rcases open_ints Tryd.underlying22 Tryd.underlying5 (by kernel_rfl) hf with ⟨hcs, hx⟩ | ⟨x, l, c', zs, hcs, _, hl, hm, hz, hx, hcell, hwz⟩
  · simp [Value.cells] at hcs
    obtain ⟨rfl, rfl, rfl⟩ := hcs
    simp only [Prod.mk.injEq] at hx
    exact ⟨[], rfl, Nat.le_refl _, by simp [maxLen], RB.nil W, .inl ⟨hx.1, rfl⟩⟩
  · simp [Value.cells] at hcs
    obtain ⟨rfl, rfl, rfl⟩ := hcs
    simp only [Prod.mk.injEq] at hx
    have hz' : zs.length = c := by simpa using hz
    have hby : ∀ z ∈ zs, ((UInt8.ofNat z.toNat).toNat : Int) = z := by
      intro z hz2
      have hw := bounds_u8 (hwz z hz2)
      rw [UInt8.toNat_ofNat']
      omega
    have hlen : ((zs.take n).map fun z => UInt8.ofNat z.toNat).length = n := by rw [List.length_map, List.length_take]; omega
    refine ⟨(zs.take n).map fun z => UInt8.ofNat z.toNat, hlen, hl, hm, ?_, .inr ⟨lits .u8 (zs.drop n), ?_⟩⟩
    · refine ⟨by simp [Lib.byteCells], fun hn => ⟨x, rfl, ?_, fun j u hu => ?_⟩⟩
      · have := block_lt_of_cell (hcell 0 (by omega))
        rwa [block_of_add] at this
      · have hj : j < n := by
          rcases Nat.lt_or_ge j n with h1 | h1
          · exact h1
          · rw [List.getElem?_eq_none (by rw [Lib.byteCells_length, hlen]; exact h1)] at hu; cases hu
        rw [hcell j (by omega)]
        rw [← hu]
        have hjz : j < zs.length := by omega
        simp only [Lib.byteCells, List.map_map, List.getElem?_map]
        rw [List.getElem?_take_of_lt hj, List.getElem?_eq_getElem hjz]
        simp only [Option.map_some, Function.comp, List.getD_eq_getElem?_getD, List.getElem?_eq_getElem hjz, Option.getD_some]
        rw [hby _ (List.getElem_mem hjz)]
    · rw [hx.1]
      congr 2
      rw [List.map_map]
      conv => lhs; rw [← List.map_id (zs.take n)]
      apply List.map_congr_left
      intro z hz2
      simp only [Function.comp, id]
      rw [hby z (List.mem_of_mem_take hz2)]

theorem bytesByte : Tryd.prog.bytesOf 5 = 1 := by kernel_rfl
end Go.Proofs.YtcndkkagnobpmaaDoor
