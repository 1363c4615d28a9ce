/-
  What the frames of the laws of parse share: the tables of package utf8 as they are laid, a world for the witnesses.
-/
import Derived.Test.YteofdpogjnojnaaDoorWords2
import Derived.Test.YteofdpogjnojnaaDoorPaU
import Derived.Test.YteofdpogjnojnaaDoorRows
import Derived.Test.YteofdpogjnojnaaDoorShelf
import Derived.ProofKit
import Derived.OpenShut
import Derived.ShutString
import Derived.ChangeOld
import Derived.Deep.DeepHandedRow
import Derived.Deep.DeepWitnessRowRef
import Derived.Lib.LaidU8T
import Derived.Lib.LaidCase
import Derived.Lay
import Derived.MakeChecks
set_option linter.unusedVariables false
set_option linter.unusedSimpArgs false
namespace Go.Proofs.YteofdpogjnojnaaDoor
open Go.ChangeShapes Go.WideShapes Go.ChangeAt Go.RowKit

theorem own : ownKnob Tryd.prog.godebug = none := by kernel_rfl
theorem laidOut : laidOutB Tryd.prog = true := by kernel_rfl
theorem first_lit : Rows.laid_unicode_utf8_first = Lib.firstData := by kernel_rfl
theorem accept_lit : (Rows.laid_unicode_utf8_acceptRanges : DataW Unit) = Lib.acceptData := by kernel_rfl
theorem extraU : U8Extra Tryd.prog Tryd.lays260_ren := ⟨by kernel_rfl, by kernel_rfl, by kernel_rfl, by kernel_rfl, by kernel_rfl, by kernel_rfl, by kernel_rfl⟩
theorem case_lit : (Rows.laid_unicode_CaseRanges : DataW Unit) = Lib.caseData := by kernel_rfl
theorem extraC : CaseExtra Tryd.prog Tryd.lays159_ren := ⟨by kernel_rfl, by kernel_rfl, by kernel_rfl, by kernel_rfl, by kernel_rfl, by kernel_rfl⟩
theorem tab_of_laid {W : World} (h : laidMetH Tryd.prog [("unicode/utf8.acceptRanges", Rows.laid_unicode_utf8_acceptRanges), ("unicode.CaseRanges", Rows.laid_unicode_CaseRanges), ("unicode/utf8.first", Rows.laid_unicode_utf8_first)] W) : tabV W := by
  have h2 : laidMet Tryd.prog [("unicode/utf8.acceptRanges", Rows.laid_unicode_utf8_acceptRanges), ("unicode.CaseRanges", Rows.laid_unicode_CaseRanges), ("unicode/utf8.first", Rows.laid_unicode_utf8_first)] W := h
  have a1 := Lib.laidMet.reads h2 (.tail _ (.tail _ (.head _)))
  have a2 := Lib.laidMet.reads h2 (.head _)
  have a3 := Lib.laidMet.reads h2 (.tail _ (.head _))
  rw [first_lit] at a1
  rw [accept_lit] at a2
  rw [case_lit] at a3
  exact ⟨utf8Tabs_of_readsT (U8Types.of260 Tryd.lays260) extraU a1 a2, caseVar_of_reads (ρ := Tryd.lays159_ren) { Tryd.lays159 with } Tryd.lays159.t206 extraC a3⟩
/-- A start whose tables hold what their initialisers lay. -/
noncomputable def laidWorld_pa (os : Os) : World := World.laidAll Tryd.prog os Rows.parsePlacesRow.laid
theorem laid_pa (os : Os) (args : Array Value) : laidMet Tryd.prog Rows.parsePlacesRow.laid ((laidWorld_pa os).forCall (fun _ _ => 0) ⟨#[], args, []⟩).memory :=
  laidMet_laidAll _ (by kernel_rfl) (by kernel_rfl)
theorem block_lt_of_cell {w : World} {a : Addr} {v : Value} (h : w.cell? a = some v) : a.block < w.heap.size := by
  rcases Nat.lt_or_ge a.block w.heap.size with h1 | h1
  · exact h1
  · simp [World.cell?, Array.getElem?_eq_none h1] at h

/-- A slice of bytes that came in. -/
theorem open_bytes {H : Type} {enc : TypeId × Value → H} {W : World} {a0 : Option Addr} {n c : Nat} {d : DataW H} {p : List MemPlace}
    (h : DataW.Trod enc Tryd.prog W 0 (fun _ => true) true 22 (.slice a0 n c) d p) :
    ∃ l : List UInt8, l.length = n ∧ n ≤ c ∧ c ≤ maxLen ∧ RB W a0 l ∧ (a0 = none → c = 0) ∧ (d = .nil ∧ n = 0 ∨ ∃ sp, d = .slice (lits .u8 (l.map fun b => (b.toNat : Int))) sp) := by
  obtain ⟨fuel, hf⟩ := h
  rcases open_ints Tryd.underlying22 Tryd.underlying5 (by kernel_rfl) hf with ⟨hcs, hx⟩ | ⟨x, l, c', zs, hcs, _, hl, hm, hz, hx, hcell, hwz⟩
  · simp [Value.cells] at hcs
    obtain ⟨rfl, rfl, rfl⟩ := hcs
    simp only [Prod.mk.injEq] at hx
    exact ⟨[], rfl, Nat.le_refl _, by simp [maxLen], RB.nil W, fun _ => rfl, .inl ⟨hx.1, rfl⟩⟩
  · simp [Value.cells] at hcs
    obtain ⟨rfl, rfl, rfl⟩ := hcs
    simp only [Prod.mk.injEq] at hx
    have hz' : zs.length = c := by simpa using hz
    have hby : ∀ z ∈ zs, ((UInt8.ofNat z.toNat).toNat : Int) = z := by
      intro z hz2
      have hw := bounds_u8 (hwz z hz2)
      rw [UInt8.toNat_ofNat']
      omega
    have hlen : ((zs.take n).map fun z => UInt8.ofNat z.toNat).length = n := by rw [List.length_map, List.length_take]; omega
    refine ⟨(zs.take n).map fun z => UInt8.ofNat z.toNat, hlen, hl, hm, ?_, (fun q => by cases q), .inr ⟨lits .u8 (zs.drop n), ?_⟩⟩
    · refine ⟨by simp [Lib.byteCells], fun hn => ⟨x, rfl, ?_, fun j u hu => ?_⟩⟩
      · have := block_lt_of_cell (hcell 0 (by omega))
        rwa [block_of_add] at this
      · have hj : j < n := by
          rcases Nat.lt_or_ge j n with h1 | h1
          · exact h1
          · rw [List.getElem?_eq_none (by rw [Lib.byteCells_length, hlen]; exact h1)] at hu; cases hu
        rw [hcell j (by omega)]
        rw [← hu]
        have hjz : j < zs.length := by omega
        simp only [Lib.byteCells, List.map_map, List.getElem?_map]
        rw [List.getElem?_take_of_lt hj, List.getElem?_eq_getElem hjz]
        simp only [Option.map_some, Function.comp, List.getD_eq_getElem?_getD, List.getElem?_eq_getElem hjz, Option.getD_some]
        rw [hby _ (List.getElem_mem hjz)]
    · rw [hx.1]
      congr 2
      rw [List.map_map]
      conv => lhs; rw [← List.map_id (zs.take n)]
      apply List.map_congr_left
      intro z hz2
      simp only [Function.comp, id]
      rw [hby z (List.mem_of_mem_take hz2)]

theorem bytesByte : Tryd.prog.bytesOf 5 = 1 := by kernel_rfl
end Go.Proofs.YteofdpogjnojnaaDoor
