/-
  A slice of texts that came in.
-/
import Derived.Test.YtcndkkagnobpmaaDoorFrameGr
import Derived.SliceStrings
set_option linter.unusedVariables false
namespace Go.Proofs.YtcndkkagnobpmaaDoor
open Go.ChangeShapes Go.WideShapes Go.ChangeAt Go.RowKit

theorem open_strs {H : Type} {enc : TypeId × Value → H} {W : World} {base : Nat} {spare : Nat → Bool} {held : Bool} {A : Option Addr} {n c : Nat} {d : DataW H} {p : List MemPlace}
    (h : DataW.Trod enc Tryd.prog W base spare held 49 (.slice A n c) d p) : ∃ l : List ByteArray, SS W A l ∧ l.length = n ∧ n ≤ c ∧ c ≤ maxLen ∧ ∀ s ∈ l, s.size ≤ maxLen := by
  obtain ⟨m, hm⟩ := h
  rcases open_strings Tryd.underlying49 Tryd.underlying9 (by kernel_rfl) hm with ⟨h1, _⟩ | ⟨a, len, cap, ss, h1, _, h2, h3, h4, _, h5, h6⟩
  · simp [Value.cells] at h1
    obtain ⟨rfl, rfl, rfl⟩ := h1
    exact ⟨[], SS.nil W, rfl, Nat.le_refl _, by simp [maxLen], by simp⟩
  · simp [Value.cells] at h1
    obtain ⟨rfl, rfl, rfl⟩ := h1
    have hlen : n ≤ ss.length := by rw [h4]; split <;> omega
    have htl : (ss.take n).length = n := by rw [List.length_take]; omega
    refine ⟨ss.take n, ⟨by simp, fun hn => ⟨a, rfl, ?_, fun j u hu => ?_⟩⟩, htl, h2, h3, fun s hs => h6 s (List.mem_of_mem_take hs)⟩
    · have h0 := h5 0 (by omega)
      rcases Nat.lt_or_ge a.block W.heap.size with hlt | hge
      · exact hlt
      · unfold World.cell? at h0
        rw [block_of_add, Array.getElem?_eq_none hge] at h0
        cases h0
    · rw [List.getElem?_map] at hu
      rcases Nat.lt_or_ge j n with h7 | h7
      · rw [List.getElem?_take_of_lt h7, List.getElem?_eq_getElem (by omega)] at hu
        have := h5 j (by omega)
        rw [this]
        rw [List.getD_eq_getElem?_getD, List.getElem?_eq_getElem (by omega)]
        simpa using hu
      · rw [List.getElem?_eq_none (by omega)] at hu; cases hu
end Go.Proofs.YtcndkkagnobpmaaDoor
