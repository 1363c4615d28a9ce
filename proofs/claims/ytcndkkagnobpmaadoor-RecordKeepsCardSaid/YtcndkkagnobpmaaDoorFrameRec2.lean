/-
  A slice of slices of bytes that came in.
-/
import Derived.Test.YtcndkkagnobpmaaDoorFrameRec
import Derived.Deep.Slices
import Derived.Deep.Fields
import Derived.ChangeSame
set_option linter.unusedVariables false
set_option linter.unusedSimpArgs false
namespace Go.Proofs.YtcndkkagnobpmaaDoor
open Go.ChangeShapes Go.WideShapes Go.ChangeAt Go.RowKit Go.Deep

theorem pts_of {W : World} {a : Addr} : ∀ (n : Nat), (∀ i, i < n → ∃ (A : Option Addr) (c : Nat) (l : List UInt8), W.cell? (a.add i) = some (.slice A l.length c) ∧ l.length ≤ c ∧ c ≤ maxLen ∧ RB W A l) →
    ∃ ps : List Pt, ps.length = n ∧ (∀ i (hi : i < ps.length), W.cell? (a.add i) = some (ps[i].v) ∧ RB W ps[i].A ps[i].l) ∧ ∀ p ∈ ps, p.l.length ≤ p.c ∧ p.c ≤ maxLen
  | 0, _ => ⟨[], rfl, fun i hi => by simp at hi, fun p hp => by cases hp⟩
  | n + 1, h => by
    obtain ⟨ps, h1, h2, h3⟩ := pts_of n (fun i hi => h i (by omega))
    obtain ⟨A, c, l, k1, k2, k3, k4⟩ := h n (by omega)
    refine ⟨ps ++ [⟨A, c, l⟩], by simp [h1], fun i hi => ?_, fun p hp => ?_⟩
    · rw [List.length_append, List.length_singleton] at hi
      by_cases e : i < ps.length
      · rw [List.getElem_append_left e]
        exact h2 i e
      · have e2 : i = n := by omega
        subst e2
        rw [List.getElem_append_right (by omega)]
        simp only [h1, Nat.sub_self, List.getElem_cons_zero]
        exact ⟨k1, k4⟩
    · rcases List.mem_append.1 hp with hp | hp
      · exact h3 p hp
      · rw [List.mem_singleton] at hp
        subst hp
        exact ⟨k2, k3⟩
theorem open_bss {H : Type} {enc : TypeId × Value → H} {W : World} {a0 : Option Addr} {n c : Nat} {d : DataW H} {p : List MemPlace}
    (h : DataW.Trod enc Tryd.prog W 0 (fun _ => true) true 32 (.slice a0 n c) d p) : ∃ ps : List Pt, Pts W a0 ps ∧ ps.length = n ∧ n ≤ c ∧ c ≤ maxLen ∧ ∀ p ∈ ps, p.l.length ≤ p.c ∧ p.c ≤ maxLen := by
  obtain ⟨fuel, hf⟩ := h
  rcases open_slice1 Tryd.underlying32 (by kernel_rfl) hf with ⟨hcs, _⟩ | ⟨a, len, cap, m, n', V, D, Pl, hcs, _, hl, hm, hmm, _, hi⟩
  · simp [Value.cells] at hcs
    obtain ⟨rfl, rfl, rfl⟩ := hcs
    exact ⟨[], ⟨Reads.none_, fun p hp => by cases hp⟩, rfl, Nat.le_refl _, by simp [maxLen], fun p hp => by cases hp⟩
  · simp [Value.cells] at hcs
    obtain ⟨rfl, rfl, rfl⟩ := hcs
    have hmn : n ≤ m := by rw [hmm]; simp; omega
    obtain ⟨ps, h1, h2, h3⟩ := pts_of (W := W) (a := a) n (fun i hin => by
      obtain ⟨k1, k2⟩ := hi i (by omega)
      obtain ⟨A, ln, cp, e⟩ : ∃ A ln cp, V i = .slice A ln cp := by
        rcases DataW.trod_slice Tryd.underlying22 k2 with ⟨e, _⟩ | ⟨x1, x2, x3, x4, x5, x6, x7, e, _⟩
        · injection e with e
          exact ⟨_, _, _, e⟩
        · injection e with e
          exact ⟨_, _, _, e⟩
      rw [e] at k1 k2
      obtain ⟨l, g1, g2, g3, g4, _⟩ := open_bytes ⟨n', k2⟩
      subst g1
      exact ⟨A, cp, l, k1, g2, g3, g4⟩)
    refine ⟨ps, ⟨⟨by simp, fun hn => ⟨a, rfl, ?_, fun j u hu => ?_⟩⟩, fun p hp => ?_⟩, h1, hl, hm, h3⟩
    · have := (h2 0 (by omega)).1
      have h4 := block_lt_of_cell this
      rwa [block_of_add] at h4
    · rw [List.getElem?_map] at hu
      rcases Nat.lt_or_ge j ps.length with h7 | h7
      · rw [List.getElem?_eq_getElem h7] at hu
        have := (h2 j h7).1
        rw [this]
        simpa using hu
      · rw [List.getElem?_eq_none (by omega)] at hu; cases hu
    · obtain ⟨i, hi', rfl⟩ := List.getElem_of_mem hp
      exact (h2 i hi').2
end Go.Proofs.YtcndkkagnobpmaaDoor
