/-
  Slices of slices of bytes, and what a crash is told to keep, that came in.
-/
import Derived.Test.YtcndkkagnobpmaaDoorFrameRec
import Derived.Test.YtcndkkagnobpmaaDoorDisk8
import Derived.Deep.Slices
import Derived.Deep.Fields
import Derived.ChangeSame
set_option linter.unusedVariables false
set_option linter.unusedSimpArgs false
namespace Go.Proofs.YtcndkkagnobpmaaDoor
open Go.ChangeShapes Go.WideShapes Go.ChangeAt Go.RowKit Go.Deep

theorem pts_of {W : World} {a : Addr} : ∀ (n : Nat), (∀ i, i < n → ∃ (A : Option Addr) (c : Nat) (l : List UInt8), W.cell? (a.add i) = some (.slice A l.length c) ∧ l.length ≤ c ∧ c ≤ maxLen ∧ RB W A l) →
    ∃ ps : List Pt, ps.length = n ∧ (∀ i (hi : i < ps.length), W.cell? (a.add i) = some (ps[i].v) ∧ RB W ps[i].A ps[i].l) ∧ ∀ p ∈ ps, p.l.length ≤ p.c ∧ p.c ≤ maxLen
  | 0, _ => ⟨[], rfl, fun i hi => by simp at hi, fun p hp => by cases hp⟩
  | n + 1, h => by
    obtain ⟨ps, h1, h2, h3⟩ := pts_of n (fun i hi => h i (by omega))
    obtain ⟨A, c, l, k1, k2, k3, k4⟩ := h n (by omega)
    refine ⟨ps ++ [⟨A, c, l⟩], by simp [h1], fun i hi => ?_, fun p hp => ?_⟩
    · rw [List.length_append, List.length_singleton] at hi
      by_cases e : i < ps.length
      · rw [List.getElem_append_left e]
        exact h2 i e
      · have e2 : i = n := by omega
        subst e2
        rw [List.getElem_append_right (by omega)]
        simp only [h1, Nat.sub_self, List.getElem_cons_zero]
        exact ⟨k1, k4⟩
    · rcases List.mem_append.1 hp with hp | hp
      · exact h3 p hp
      · rw [List.mem_singleton] at hp
        subst hp
        exact ⟨k2, k3⟩
theorem open_bss {H : Type} {enc : TypeId × Value → H} {W : World} {a0 : Option Addr} {n c : Nat} {d : DataW H} {p : List MemPlace}
    (h : DataW.Trod enc Tryd.prog W 0 (fun _ => true) true 32 (.slice a0 n c) d p) : ∃ ps : List Pt, Pts W a0 ps ∧ ps.length = n ∧ n ≤ c ∧ c ≤ maxLen ∧ ∀ p ∈ ps, p.l.length ≤ p.c ∧ p.c ≤ maxLen := by
  obtain ⟨fuel, hf⟩ := h
  rcases open_slice1 Tryd.underlying32 (by kernel_rfl) hf with ⟨hcs, _⟩ | ⟨a, len, cap, m, n', V, D, Pl, hcs, _, hl, hm, hmm, _, hi⟩
  · simp [Value.cells] at hcs
    obtain ⟨rfl, rfl, rfl⟩ := hcs
    exact ⟨[], ⟨Reads.none_, fun p hp => by cases hp⟩, rfl, Nat.le_refl _, by simp [maxLen], fun p hp => by cases hp⟩
  · simp [Value.cells] at hcs
    obtain ⟨rfl, rfl, rfl⟩ := hcs
    have hmn : n ≤ m := by rw [hmm]; simp; omega
    obtain ⟨ps, h1, h2, h3⟩ := pts_of (W := W) (a := a) n (fun i hin => by
      obtain ⟨k1, k2⟩ := hi i (by omega)
      obtain ⟨A, ln, cp, e⟩ : ∃ A ln cp, V i = .slice A ln cp := by
        rcases DataW.trod_slice Tryd.underlying22 k2 with ⟨e, _⟩ | ⟨x1, x2, x3, x4, x5, x6, x7, e, _⟩
        · injection e with e
          exact ⟨_, _, _, e⟩
        · injection e with e
          exact ⟨_, _, _, e⟩
      rw [e] at k1 k2
      obtain ⟨l, g1, g2, g3, g4, _⟩ := open_bytes ⟨n', k2⟩
      subst g1
      exact ⟨A, cp, l, k1, g2, g3, g4⟩)
    refine ⟨ps, ⟨⟨by simp, fun hn => ⟨a, rfl, ?_, fun j u hu => ?_⟩⟩, fun p hp => ?_⟩, h1, hl, hm, h3⟩
    · have := (h2 0 (by omega)).1
      have h4 := block_lt_of_cell this
      rwa [block_of_add] at h4
    · rw [List.getElem?_map] at hu
      rcases Nat.lt_or_ge j ps.length with h7 | h7
      · rw [List.getElem?_eq_getElem h7] at hu
        have := (h2 j h7).1
        rw [this]
        simpa using hu
      · rw [List.getElem?_eq_none (by omega)] at hu; cases hu
    · obtain ⟨i, hi', rfl⟩ := List.getElem_of_mem hp
      exact (h2 i hi').2
section
variable {H : Type} {enc : TypeId × Value → H} {P : Program} {w : World} {base : Nat} {spare : Nat → Bool} {held : Bool}
theorem open_slice_fields {t e : TypeId} {fs : Array Field} {fuel : Nat} {cs : List Value} {x : DataW H × List MemPlace} (ht : P.underlying t = some (.slice e)) (he : P.underlying e = some (.struct fs))
    (hone : oneCellFields P fs = true) (hC : P.cellsOf e = fs.size) (h : DataW.trod enc P w base spare held fuel t cs = some x) :
    (cs = [.slice none 0 0]) ∨
    ∃ (a : Addr) (len cap m : Nat), cs = [.slice (some a) len cap] ∧ len ≤ cap ∧ cap ≤ maxLen ∧ m = (if spare a.block then cap else len) ∧
      ∀ i, i < m → ∃ (n : Nat), ∀ (j : Nat) (f : Field), fs[j]? = some f → ∃ (v : Value) (y : DataW H × List MemPlace), w.cell? (a.add (i * fs.size + j)) = some v ∧ DataW.trod enc P w base spare held n f.type [v] = some y := by
  rcases open_slice ht h with h0 | ⟨a, len, cap, m, n, D, Pl, hcs, hb, hl, hm, hmm, hx, hi⟩
  · exact .inl h0.1
  · refine .inr ⟨a, len, cap, m, hcs, hl, hm, hmm, fun i him => ?_⟩
    obtain ⟨cs', hc, ht'⟩ := hi i him
    rw [hC] at hc
    obtain ⟨ys, n', hn', hy, hlen, hyl, hf⟩ := DataW.trod_struct he ht'
    obtain ⟨_, hcl, hat⟩ := World.cells?_some hc
    refine ⟨n', fun j f hj => ?_⟩
    obtain ⟨ho, hk⟩ := hone_of hone j f hj
    have hjl : j < fs.size := (Array.getElem?_eq_some_iff.1 hj).1
    have hcell := hat j hjl
    have hv : cs'[j]? = some (cs'[j]'(by omega)) := List.getElem?_eq_getElem (by omega)
    have h1 := hf j f hj
    rw [ho, hk] at h1
    have hone' : (cs'.drop j).take 1 = [cs'[j]'(by omega)] := by
      rw [List.drop_eq_getElem_cons (by omega)]
      rfl
    rw [hone'] at h1
    have hys : ys[j]? = some (ys[j]'(by omega)) := List.getElem?_eq_getElem (by omega)
    refine ⟨_, _, ?_, h1.trans hys⟩
    rw [← Go.Deep.add_add, hcell, hv]
end
theorem pairs_of {p : Nat → Int → Int → Prop} : ∀ (n : Nat), (∀ i, i < n → ∃ a b, p i a b) → ∃ l : List (Int × Int), l.length = n ∧ ∀ i q, l[i]? = some q → p i q.1 q.2
  | 0, _ => ⟨[], rfl, fun i q h => by simp at h⟩
  | n + 1, h => by
    obtain ⟨l, h1, h2⟩ := pairs_of n (fun i hi => h i (by omega))
    obtain ⟨a, b, hab⟩ := h n (by omega)
    refine ⟨l ++ [(a, b)], by simp [h1], fun i q hq => ?_⟩
    rcases Nat.lt_or_ge i l.length with hi | hi
    · rw [List.getElem?_append_left hi] at hq
      exact h2 i q hq
    · rw [List.getElem?_append_right hi] at hq
      have e : i - l.length = 0 := by
        rcases Nat.eq_zero_or_pos (i - l.length) with h0 | h0
        · exact h0
        · rw [List.getElem?_eq_none (by simp; omega)] at hq; cases hq
      rw [e] at hq
      simp at hq
      subst hq
      have : i = n := by omega
      subst this
      exact hab
theorem open_kept {H : Type} {enc : TypeId × Value → H} {W : World} {a0 : Option Addr} {n c : Nat} {d : DataW H} {p : List MemPlace}
    (h : DataW.Trod enc Tryd.prog W 0 (fun _ => true) true 41 (.slice a0 n c) d p) : ∃ l : List (Int × Int), KptAt W W.heap.size a0 l ∧ l.length = n ∧ n ≤ maxLen := by
  obtain ⟨fuel, hf⟩ := h
  rcases open_slice_fields Tryd.underlying41 Tryd.underlying69 (by kernel_rfl) (by kernel_rfl) hf with hcs | ⟨a, len, cap, m, hcs, hl, hm, hmm, hi⟩
  · simp [Value.cells] at hcs
    obtain ⟨rfl, rfl, rfl⟩ := hcs
    exact ⟨[], fun i p hp => by simp at hp, rfl, by simp [maxLen]⟩
  · simp [Value.cells] at hcs
    obtain ⟨rfl, rfl, rfl⟩ := hcs
    obtain ⟨l, h1, h2⟩ := pairs_of (p := fun i x y => a.block < W.heap.size ∧ W.cell? (a.add (i * 2)) = some (.int .i64 x) ∧ W.cell? (a.add (i * 2 + 1)) = some (.int .i64 y) ∧ (Lit.int .i64 x).wf = true ∧ (Lit.int .i64 y).wf = true) n (fun i hin => by
      obtain ⟨q, hq⟩ := hi i (by rw [hmm]; simp; omega)
      obtain ⟨v0, y0, c0, t0⟩ := hq 0 _ rfl
      obtain ⟨v1, y1, c1, t1⟩ := hq 1 _ rfl
      obtain ⟨z0, hz0, k0⟩ := DataW.trod_int Tryd.underlying3 t0
      obtain ⟨z1, hz1, k1⟩ := DataW.trod_int Tryd.underlying3 t1
      injection hz0 with hz0
      injection hz1 with hz1
      subst hz0
      subst hz1
      refine ⟨z0, z1, ?_, c0, c1, ?_, ?_⟩
      · have := block_lt_of_cell c0
        rwa [block_of_add] at this
      · exact k0.2
      · exact k1.2)
    refine ⟨l, fun i p hp => ?_, h1, Nat.le_trans hl hm⟩
    obtain ⟨g1, g2, g3, g4, g5⟩ := h2 i p hp
    refine ⟨a, rfl, g1, g2, ?_, g4, g5⟩
    have hs := cell_spot g2
    rw [← add_of_add, hs, Addr.add_lit] at g3
    exact g3
end Go.Proofs.YtcndkkagnobpmaaDoor
