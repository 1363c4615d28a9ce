/-
  What the laws' frames share: questions that came in; the witnesses' world.
-/
import Derived.Test.YtdhilhjiccpkkaaDueOL
import Derived.Test.YtdhilhjiccpkkaaRows
import Derived.ProofKit
import Derived.OpenShut
import Derived.ShutString
import Derived.ChangeOld
import Derived.ChangeMaps5
import Derived.ChangeSame
import Derived.Deep.DeepHandedRow
import Derived.Deep.Slices
import Derived.Deep.Fields
import Derived.Lib.LaidTab
import Derived.Lib.SmallJoins
set_option linter.unusedVariables false
set_option linter.unusedSimpArgs false
namespace Go.Proofs.Ytdhilhjiccpkkaa
open Go.ChangeShapes Go.WideShapes Go.ChangeAt Go.RowKit Go.Deep

theorem own : ownKnob Try.prog.godebug = none := by kernel_rfl
theorem laidOut : laidOutB Try.prog = true := by kernel_rfl
theorem block_lt_of_cell {w : World} {a : Addr} {v : Value} (h : w.cell? a = some v) : a.block < w.heap.size := by
  rcases Nat.lt_or_ge a.block w.heap.size with h1 | h1
  · exact h1
  · simp [World.cell?, Array.getElem?_eq_none h1] at h
theorem int_of {H : Type} {enc : TypeId × Value → H} {w : World} {base n : Nat} {spare : Nat → Bool} {held : Bool} {v : Value} {y : DataW H × List MemPlace} (h : DataW.trod enc Try.prog w base spare held n 3 [v] = some y) : ∃ z, v = .int .i64 z := by
  obtain ⟨z, hz, _⟩ := DataW.trod_int Try.underlying3 h
  exact ⟨z, by injection hz⟩
theorem str_of {H : Type} {enc : TypeId × Value → H} {w : World} {base n : Nat} {spare : Nat → Bool} {held : Bool} {v : Value} {y : DataW H × List MemPlace} (h : DataW.trod enc Try.prog w base spare held n 9 [v] = some y) : ∃ s : ByteArray, v = .string s ∧ s.size ≤ maxLen := by
  obtain ⟨s, hs, _, hz⟩ := DataW.trod_string Try.underlying9 h
  exact ⟨s, by injection hs, hz⟩
set_option maxRecDepth 100000 in
/-- A question that came in. -/
theorem open_op {H : Type} {enc : TypeId × Value → H} {W : World} {r : Reach} {b0 base : Nat} {spare : Nat → Bool} {held : Bool} {v : Value} {d : DataW H} {p : List MemPlace}
    (hv : Value.okWide Try.prog W r b0 31 v) (h : DataW.Trod enc Try.prog W base spare held 31 v d p) :
    ∃ (k : Int) (s : ByteArray) (a : Int), v = .agg #[.int .i64 k, .string s, .int .i64 a] ∧ s.size ≤ maxLen := by
  obtain ⟨v0, v1, v2, y0, y1, y2, n, rfl, _, _, t0, t1, t2⟩ := Go.Joins.open_agg3 Try.underlying31 (by kernel_rfl) (by kernel_rfl) hv h
  obtain ⟨z0, rfl⟩ := int_of t0
  obtain ⟨z1, rfl, hz⟩ := str_of t1
  obtain ⟨z2, rfl⟩ := int_of t2
  exact ⟨z0, z1, z2, rfl, hz⟩
section
variable {H : Type} {enc : TypeId × Value → H} {P : Program} {w : World} {base : Nat} {spare : Nat → Bool} {held : Bool}
theorem open_slice_fields {t e : TypeId} {fs : Array Field} {fuel : Nat} {cs : List Value} {x : DataW H × List MemPlace} (ht : P.underlying t = some (.slice e)) (he : P.underlying e = some (.struct fs))
    (hone : oneCellFields P fs = true) (hC : P.cellsOf e = fs.size) (h : DataW.trod enc P w base spare held fuel t cs = some x) :
    (cs = [.slice none 0 0]) ∨
    ∃ (a : Addr) (len cap m : Nat), cs = [.slice (some a) len cap] ∧ len ≤ cap ∧ cap ≤ maxLen ∧ m = (if spare a.block then cap else len) ∧
      ∀ i, i < m → ∃ (n : Nat), ∀ (j : Nat) (f : Field), fs[j]? = some f → ∃ (v : Value) (y : DataW H × List MemPlace), w.cell? (a.add (i * fs.size + j)) = some v ∧ DataW.trod enc P w base spare held n f.type [v] = some y := by
  rcases open_slice ht h with h0 | ⟨a, len, cap, m, n, D, Pl, hcs, hb, hl, hm, hmm, hx, hi⟩
  · exact .inl h0.1
  · refine .inr ⟨a, len, cap, m, hcs, hl, hm, hmm, fun i him => ?_⟩
    obtain ⟨cs', hc, ht'⟩ := hi i him
    rw [hC] at hc
    obtain ⟨ys, n', hn', hy, hlen, hyl, hf⟩ := DataW.trod_struct he ht'
    obtain ⟨_, hcl, hat⟩ := World.cells?_some hc
    refine ⟨n', fun j f hj => ?_⟩
    obtain ⟨ho, hk⟩ := hone_of hone j f hj
    have hjl : j < fs.size := (Array.getElem?_eq_some_iff.1 hj).1
    have hcell := hat j hjl
    have hv : cs'[j]? = some (cs'[j]'(by omega)) := List.getElem?_eq_getElem (by omega)
    have h1 := hf j f hj
    rw [ho, hk] at h1
    have hone' : (cs'.drop j).take 1 = [cs'[j]'(by omega)] := by
      rw [List.drop_eq_getElem_cons (by omega)]
      rfl
    rw [hone'] at h1
    have hys : ys[j]? = some (ys[j]'(by omega)) := List.getElem?_eq_getElem (by omega)
    refine ⟨_, _, ?_, h1.trans hys⟩
    rw [← Go.Deep.add_add, hcell, hv]
end
theorem cell_spot {w : World} {a : Addr} {v : Value} (h : w.cell? a = some v) : a = ⟨a.block, a.off, none⟩ := by
  obtain ⟨b, o, sp⟩ := a
  unfold World.cell? at h
  cases sp with
  | none => rfl
  | some k =>
    exfalso
    revert h
    simp only
    split
    · simp
    · simp
/-- Questions that came in. -/
theorem open_ops11 {H : Type} {enc : TypeId × Value → H} {W : World} {a0 : Option Addr} {n c : Nat} {d : DataW H} {p : List MemPlace}
    (h : DataW.Trod enc Try.prog W 0 (fun _ => true) true 22 (.slice a0 n c) d p) : ∃ K, n ≤ c ∧ c ≤ maxLen ∧ OL W a0 n K := by
  obtain ⟨fuel, hf⟩ := h
  rcases open_slice_fields Try.underlying22 Try.underlying31 (by kernel_rfl) (by kernel_rfl) hf with hcs | ⟨a, len, cap, m, hcs, hl, hm, hmm, hi⟩
  · simp [Value.cells] at hcs
    obtain ⟨rfl, rfl, rfl⟩ := hcs
    exact ⟨fun _ => (0, ⟨#[]⟩, 0), Nat.le_refl _, by simp [maxLen], .inl rfl⟩
  · simp [Value.cells] at hcs
    obtain ⟨rfl, rfl, rfl⟩ := hcs
    have hall : ∀ i, i < n → ∃ (k : Int) (s : ByteArray) (z : Int), W.cell? (a.add (i * 3)) = some (.int .i64 k) ∧ W.cell? (a.add (i * 3 + 1)) = some (.string s) ∧ W.cell? (a.add (i * 3 + 2)) = some (.int .i64 z) ∧ s.size ≤ maxLen := fun i hin => by
      obtain ⟨q, hq⟩ := hi i (by rw [hmm]; simp; omega)
      obtain ⟨v0, y0, c0, t0⟩ := hq 0 _ rfl
      obtain ⟨v1, y1, c1, t1⟩ := hq 1 _ rfl
      obtain ⟨v2, y2, c2, t2⟩ := hq 2 _ rfl
      obtain ⟨z0, rfl⟩ := int_of t0
      obtain ⟨z1, rfl, hz⟩ := str_of t1
      obtain ⟨z2, rfl⟩ := int_of t2
      exact ⟨z0, z1, z2, c0, c1, c2, hz⟩
    rcases Nat.eq_zero_or_pos n with h0 | h0
    · subst h0
      exact ⟨fun _ => (0, ⟨#[]⟩, 0), hl, hm, .inl rfl⟩
    · obtain ⟨_, _, _, hc0, _⟩ := hall 0 h0
      have ha : a = ⟨a.block, a.off, none⟩ := cell_spot (a := a) hc0
      have hlt : a.block < W.heap.size := block_lt_of_cell (a := a.add (0 * 3)) hc0
      refine ⟨fun i => if h : i < n then ((hall i h).choose, (hall i h).choose_spec.choose, (hall i h).choose_spec.choose_spec.choose) else (0, ⟨#[]⟩, 0), hl, hm, .inr ⟨a.block, a.off, by rw [← ha], hlt, fun i hin => ?_⟩⟩
      have hs := (hall i hin).choose_spec.choose_spec.choose_spec
      simp only [dif_pos hin]
      obtain ⟨k0, k1, k2, k3⟩ := hs
      have e : ∀ j, a.add j = ⟨a.block, a.off + j, none⟩ := fun j => by rw [ha, Addr.add_lit]
      refine ⟨?_, ?_, ?_, k3⟩
      · rw [← e]; exact k0
      · rw [Nat.add_assoc, ← e]; exact k1
      · rw [Nat.add_assoc, ← e]; exact k2
/-- A start of the program. -/
noncomputable def laidWorld_due (os : Os) : World := World.holding Try.prog os ⟨#[], #[], []⟩
end Go.Proofs.Ytdhilhjiccpkkaa
