/-
  The document's both: the table of what is to be reached, cell by cell.
-/
import Derived.Test.YtodkjhbnodcbhaaDoorGlobLaw2
import Derived.Laws.MakeOwn
import Derived.Deep.QuietTactic
import Derived.BigQuiet
import Derived.StillTailTactics
namespace Go.Proofs.YtodkjhbnodcbhaaDoor
open Go.RowKit Glob
set_option linter.unusedVariables false

namespace Glob
/-- the end is to be reached from there -/
noncomputable def ovB (p q : List UInt8) (i k : Nat) : Bool := @decide (Ov p q (i, k)) (Classical.propDecidable _)
theorem ov_iff {p q : List UInt8} {v : Nat × Nat} : Ov p q v ↔ v = (p.length, q.length) ∨ ∃ u, Edge p q v u ∧ Ov p q u := by
  constructor
  · intro h
    cases h with
    | fin => exact .inl rfl
    | step e h => exact .inr ⟨_, e, h⟩
  · rintro (rfl | ⟨u, e, h⟩)
    · exact .fin
    · exact .step e h
theorem ovB_true {p q : List UInt8} {i k : Nat} : ovB p q i k = true ↔ Ov p q (i, k) := by unfold ovB; exact @decide_eq_true_iff _ (Classical.propDecidable _)
theorem ovB_end (p q : List UInt8) : ovB p q p.length q.length = true := ovB_true.2 .fin
theorem ovB_cell (p q : List UInt8) (i k : Nat) (hne : ¬ (i = p.length ∧ k = q.length)) : ovB p q i k = (star p i && ovB p q (i + 1) k || (star q k && ovB p q i (k + 1) || (star p i && (!star q k && (decide (k < q.length) && ovB p q i (k + 1))) || (star q k && (!star p i && (decide (i < p.length) && ovB p q (i + 1) k)) || (!star p i && (!star q k && (decide (i < p.length) && (decide (k < q.length) && (signL p q i k && ovB p q (i + 1) (k + 1)))))))))) := by
  rw [Bool.eq_iff_iff, ovB_true, ov_iff]
  simp only [Bool.or_eq_true, Bool.and_eq_true, Bool.not_eq_true', decide_eq_true_eq, ovB_true]
  constructor
  · rintro (h | ⟨u, e, h⟩)
    · exact absurd ⟨congrArg Prod.fst h, congrArg Prod.snd h⟩ hne
    · rcases e with ⟨h1, rfl⟩ | ⟨h1, rfl⟩ | ⟨h1, h2, h3, rfl⟩ | ⟨h1, h2, h3, rfl⟩ | ⟨h1, h2, h3, h4, h5, rfl⟩
      · exact .inl ⟨h1, h⟩
      · exact .inr (.inl ⟨h1, h⟩)
      · exact .inr (.inr (.inl ⟨h1, h2, h3, h⟩))
      · exact .inr (.inr (.inr (.inl ⟨h1, h2, h3, h⟩)))
      · exact .inr (.inr (.inr (.inr ⟨h1, h2, h3, h4, h5, h⟩)))
  · rintro (⟨h1, h⟩ | ⟨h1, h⟩ | ⟨h1, h2, h3, h⟩ | ⟨h1, h2, h3, h⟩ | ⟨h1, h2, h3, h4, h5, h⟩)
    · exact .inr ⟨_, .inl ⟨h1, rfl⟩, h⟩
    · exact .inr ⟨_, .inr (.inl ⟨h1, rfl⟩), h⟩
    · exact .inr ⟨_, .inr (.inr (.inl ⟨h1, h2, h3, rfl⟩)), h⟩
    · exact .inr ⟨_, .inr (.inr (.inr (.inl ⟨h1, h2, h3, rfl⟩))), h⟩
    · exact .inr ⟨_, .inr (.inr (.inr (.inr ⟨h1, h2, h3, h4, h5, rfl⟩))), h⟩
theorem bothL_ovB (p q : List UInt8) : bothL p q = ovB p q 0 0 := by
  rw [Bool.eq_iff_iff, ovB_true]
  unfold bothL
  exact meet_ov p q _ (by omega)
end Glob
/-- a row of the table -/
noncomputable def rowV (p q : List UInt8) (i : Nat) : Array Value := ((List.range (q.length + 1)).map fun k => Value.bool (ovB p q i k)).toArray
theorem rowV_at (p q : List UInt8) (i k : Nat) (h : k ≤ q.length) : (rowV p q i)[k]? = some (.bool (ovB p q i k)) := by
  unfold rowV
  rw [List.getElem?_toArray, List.getElem?_map, List.getElem?_range (by omega)]; rfl
/-- the table while row i is filled: from column u on it stands -/
def InP (p q : List UInt8) (w0 : World) (G R i u B : Nat) (wr : World) : Prop :=
  (∃ rs : Array Value, Blk wr R 4 rs ∧ rs.size = q.length + 1 ∧ (∀ j, u ≤ j → j ≤ q.length → rs[j]? = some (.bool (ovB p q i j))) ∧ ∀ j, j < u → j ≤ q.length → rs[j]? = some (.bool false)) ∧
  (∃ cs : Array Value, Blk wr G 60 cs ∧ cs.size = p.length + 1 ∧ cs[i]? = some (.slice (some ⟨R, 0, none⟩) (q.length + 1) (q.length + 1)) ∧ (i < p.length → cs[i + 1]? = some (.slice (some ⟨B, 0, none⟩) (q.length + 1) (q.length + 1)))) ∧
  (i < p.length → Blk wr B 4 (rowV p q (i + 1)) ∧ B ≠ R) ∧ G ≠ R ∧ w0.heap.size ≤ R ∧ Below w0.heap.size w0 wr
section
variable {p q : List UInt8} {w0 wr : World} {G R i u B : Nat}
theorem InP.drew (h : InP p q w0 G R i u B wr) : InP p q w0 G R i u B wr.drew := by
  obtain ⟨h1, h2, h3, h4, h5, h6⟩ := h
  exact ⟨h1, h2, h3, h4, h5, h6.os, h6.tape, h6.output, h6.size, h6.block⟩
theorem InP.skip {k : Nat} (h : InP p q w0 G R i (k + 1) B wr) (hk : k ≤ q.length) (hv : ovB p q i k = false) : InP p q w0 G R i k B wr := by
  obtain ⟨⟨rs, h1, h2, h3, h4⟩, hr⟩ := h
  refine ⟨⟨rs, h1, h2, fun j hj hj2 => ?_, fun j hj hj2 => h4 j (by omega) hj2⟩, hr⟩
  rcases (by omega : k + 1 ≤ j ∨ j = k) with g | g
  · exact h3 j g hj2
  · subst g; rw [hv]; exact h4 j (by omega) hj2
theorem InP.put {k : Nat} (h : InP p q w0 G R i (k + 1) B wr) (hk : k ≤ q.length) (b : Bool) (hv : ovB p q i k = b) : InP p q w0 G R i k B (wr.setCell ⟨R, k, none⟩ (.bool b)) := by
  obtain ⟨⟨rs, h1, h2, h3, h4⟩, ⟨cs, c1, c2, c3, c4⟩, h5, h6, h7, h8⟩ := h
  refine ⟨⟨_, h1.set_ k (.bool b), by simpa using h2, fun j hj hj2 => ?_, fun j hj hj2 => ?_⟩, ⟨cs, c1.far (by simpa using h6) _, c2, c3, c4⟩, fun hi => ⟨(h5 hi).1.far (by simpa using (h5 hi).2) _, (h5 hi).2⟩, h6, h7, h8.setCell (by simpa using h7) _⟩
  · rcases (by omega : k + 1 ≤ j ∨ j = k) with g | g
    · rw [Array.getElem?_setIfInBounds_ne (by omega)]; exact h3 j g hj2
    · subst g; rw [Array.getElem?_setIfInBounds_self_of_lt (by omega), hv]
  · rw [Array.getElem?_setIfInBounds_ne (by omega)]; exact h4 j (by omega) hj2
theorem InP.row (h : InP p q w0 G R i u B wr) : wr.cell? ⟨G, i, none⟩ = some (.slice (some ⟨R, 0, none⟩) (q.length + 1) (q.length + 1)) := by
  obtain ⟨_, ⟨cs, c1, c2, c3, c4⟩, _⟩ := h
  rw [c1.cell, c3]
theorem InP.next (h : InP p q w0 G R i u B wr) (hi : i < p.length) : wr.cell? ⟨G, i + 1, none⟩ = some (.slice (some ⟨B, 0, none⟩) (q.length + 1) (q.length + 1)) := by
  obtain ⟨_, ⟨cs, c1, c2, c3, c4⟩, _⟩ := h
  rw [c1.cell, c4 hi]
theorem InP.right {k : Nat} (h : InP p q w0 G R i (k + 1) B wr) (hk : k < q.length) : wr.cell? ⟨R, k + 1, none⟩ = some (.bool (ovB p q i (k + 1))) := by
  obtain ⟨⟨rs, h1, h2, h3, h4⟩, _⟩ := h
  rw [h1.cell, h3 (k + 1) (by omega) (by omega)]
theorem InP.here {k : Nat} (h : InP p q w0 G R i (k + 1) B wr) (hk : k ≤ q.length) : wr.cell? ⟨R, k, none⟩ = some (.bool false) ∧ wr.frozen? ⟨R, k, none⟩ = false := by
  obtain ⟨⟨rs, h1, h2, h3, h4⟩, _⟩ := h
  exact ⟨by rw [h1.cell, h4 k (by omega) hk], h1.frozen k⟩
theorem InP.below_ (h : InP p q w0 G R i u B wr) (hi : i < p.length) (k : Nat) (hk : k ≤ q.length) : wr.cell? ⟨B, k, none⟩ = some (.bool (ovB p q (i + 1) k)) := by
  obtain ⟨_, _, h3, _⟩ := h
  rw [(h3 hi).1.cell, rowV_at p q (i + 1) k hk]
end
theorem infoBool : (Tryd.prog.info? 4).map (fun i => (i.zero, i.size, i.bytes)) = some (some (.bool false), 1, 1) := by kernel_rfl
theorem infoBools : (Tryd.prog.info? 60).map (fun i => (i.zero, i.size, i.bytes)) = some (some (.slice none 0 0), 1, 24) := by kernel_rfl
theorem run_make_bools (n : Nat) (hn : n ≤ 100000) (w : World) : (Instr.makeSlice 60 (.int .i64 ((n : Int) + 1)) (.int .i64 ((n : Int) + 1))).run Tryd.prog w = .ok (.slice (some ⟨w.heap.size, 0, none⟩) (n + 1) (n + 1)) (w.alloc (.cells (madeCells #[Value.bool false] (n + 1)) 4)) := by
  obtain ⟨i0, hi, hz0, hz1, hz2⟩ := info_parts infoBool
  have hb : (i0.bytes : Int) * ((n : Int) + 1) ≤ 281474976710656 := by rw [hz2]; omega
  have hr := run_make (P := Tryd.prog) w 60 4 i0 (.bool false) Tryd.underlying60 hi hz0 .i64 .i64 ((n : Int) + 1) ((n : Int) + 1) (by omega) (by omega) hb (by omega)
  rw [hz1, Nat.mul_one, show ((n : Int) + 1).toNat = n + 1 from by omega] at hr
  exact hr
theorem run_make_rows (n : Nat) (hn : n ≤ 100000) (w : World) : (Instr.makeSlice 59 (.int .i64 ((n : Int) + 1)) (.int .i64 ((n : Int) + 1))).run Tryd.prog w = .ok (.slice (some ⟨w.heap.size, 0, none⟩) (n + 1) (n + 1)) (w.alloc (.cells (madeCells #[Value.slice none 0 0] (n + 1)) 60)) := by
  obtain ⟨i0, hi, hz0, hz1, hz2⟩ := info_parts infoBools
  have hb : (i0.bytes : Int) * ((n : Int) + 1) ≤ 281474976710656 := by rw [hz2]; omega
  have hr := run_make (P := Tryd.prog) w 59 60 i0 (.slice none 0 0) Tryd.underlying59 hi hz0 .i64 .i64 ((n : Int) + 1) ((n : Int) + 1) (by omega) (by omega) hb (by omega)
  rw [hz1, Nat.mul_one, show ((n : Int) + 1).toNat = n + 1 from by omega] at hr
  exact hr
theorem made_at (z : Value) (n k : Nat) (h : k < n) : (madeCells #[z] n)[k]? = some z := by
  unfold madeCells
  simp [h, Nat.mod_one]
end Go.Proofs.YtodkjhbnodcbhaaDoor
