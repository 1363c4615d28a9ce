/-
  The document's both: the table's rows, the loops' frames.
-/
import Derived.Test.YtodkjhbnodcbhaaDoorGlobT1
namespace Go.Proofs.YtodkjhbnodcbhaaDoor
open Go.RowKit Glob
set_option linter.unusedVariables false

/-- the table ahead of row t - 1 -/
def OutP (p q : List UInt8) (w0 : World) (G t : Nat) (wr : World) : Prop :=
  (∃ cs : Array Value, Blk wr G 60 cs ∧ cs.size = p.length + 1 ∧ (t ≤ p.length → ∃ B, cs[t]? = some (.slice (some ⟨B, 0, none⟩) (q.length + 1) (q.length + 1)) ∧ Blk wr B 4 (rowV p q t))) ∧ w0.heap.size ≤ G ∧ Below w0.heap.size w0 wr
theorem OutP.begin {p q : List UInt8} {w0 wr : World} {G i : Nat} (h : OutP p q w0 G (i + 1) wr) (hi : i ≤ p.length) :
    ∃ B, InP p q w0 G wr.heap.size i (q.length + 1) B ((wr.alloc (.cells (madeCells #[Value.bool false] (q.length + 1)) 4)).setCell ⟨G, i, none⟩ (.slice (some ⟨wr.heap.size, 0, none⟩) (q.length + 1) (q.length + 1))) := by
  obtain ⟨⟨cs, h1, h2, h3⟩, h4, h5⟩ := h
  have hlt := h1.lt
  have hne : G ≠ wr.heap.size := by omega
  have hcs : ∀ (B : Nat), (i < p.length → cs[i + 1]? = some (.slice (some ⟨B, 0, none⟩) (q.length + 1) (q.length + 1)) ∧ Blk wr B 4 (rowV p q (i + 1))) → InP p q w0 G wr.heap.size i (q.length + 1) B ((wr.alloc (.cells (madeCells #[Value.bool false] (q.length + 1)) 4)).setCell ⟨G, i, none⟩ (.slice (some ⟨wr.heap.size, 0, none⟩) (q.length + 1) (q.length + 1))) := by
    intro B hB
    refine ⟨⟨_, (Blk.new wr 4 (madeCells #[Value.bool false] (q.length + 1))).far (by simpa using hne.symm) _, size_madeCells _ _, fun j hj hj2 => by omega, fun j hj hj2 => made_at _ _ _ (by omega)⟩,
      ⟨_, (h1.alloc _).set_ i _, by simpa using h2, by rw [Array.getElem?_setIfInBounds_self_of_lt (by omega)], fun hlt' => by rw [Array.getElem?_setIfInBounds_ne (by omega)]; exact (hB hlt').1⟩,
      fun hlt' => ⟨((hB hlt').2.alloc _).far (by
        have := Blk.ne_ (hB hlt').2 h1 (by decide)
        simpa using this) _, by have := (hB hlt').2.lt; omega⟩, hne, h5.size, (h5.alloc h5.size _).setCell (by simpa using h4) _⟩
  by_cases hip : i < p.length
  · obtain ⟨B, hB1, hB2⟩ := h3 (by omega)
    exact ⟨B, hcs B (fun _ => ⟨hB1, hB2⟩)⟩
  · exact ⟨0, hcs 0 (fun h => absurd h hip)⟩
theorem InP.done {p q : List UInt8} {w0 wr : World} {G R i B : Nat} (h : InP p q w0 G R i 0 B wr) (hG : w0.heap.size ≤ G) : OutP p q w0 G i wr := by
  obtain ⟨⟨rs, h1, h2, h3, h4⟩, ⟨cs, c1, c2, c3, c4⟩, h5, h6, h7, h8⟩ := h
  have hrs : rs = rowV p q i := by
    apply Array.ext_getElem?
    intro j
    by_cases hj : j ≤ q.length
    · rw [h3 j (Nat.zero_le _) hj, rowV_at p q i j hj]
    · rw [Array.getElem?_eq_none (by omega), Array.getElem?_eq_none (by unfold rowV; simp; omega)]
  subst hrs
  exact ⟨⟨cs, c1, c2, fun _ => ⟨R, c3, h1⟩⟩, hG, h8⟩
theorem OutP.first {p q : List UInt8} {w0 wr : World} {G : Nat} (h : OutP p q w0 G 0 wr) : ∃ B, wr.cell? ⟨G, 0, none⟩ = some (.slice (some ⟨B, 0, none⟩) (q.length + 1) (q.length + 1)) ∧ wr.cell? ⟨B, 0, none⟩ = some (.bool (ovB p q 0 0)) ∧ Below w0.heap.size w0 wr := by
  obtain ⟨⟨cs, h1, h2, h3⟩, h4, h5⟩ := h
  obtain ⟨B, hB1, hB2⟩ := h3 (Nat.zero_le _)
  exact ⟨B, by rw [h1.cell, hB1], by rw [hB2.cell, rowV_at p q 0 0 (Nat.zero_le _)], h5⟩
def intK (v : Value) : Int := intOf v
def firstLoop : Code → Option Code
  | .loop c => some c
  | .seq a b => match firstLoop a with
    | some c => some c
    | none => firstLoop b
  | .block _ c => firstLoop c
  | .scope c => firstLoop c
  | .cond _ a b => match firstLoop a with
    | some c => some c
    | none => firstLoop b
  | _ => none
/-- the inner loop's round -/
noncomputable def body2 : Code := (((Tryd.f34.body.bind firstLoop).bind firstLoop).getD .skip)
def fr2 (p q : ByteArray) (G : Nat) (z k : Int) (u : Nat → Value) : Act := ⟨#[.string p, .string q, u 2, u 3, u 4, .slice (some ⟨G, 0, none⟩) (p.size + 1) (p.size + 1), .int .i64 z, .int .i64 k, u 8, u 9, u 10, u 11, u 12, u 13, u 14, u 15, u 16, u 17, u 18, u 19, u 20, u 21, u 22, u 23, u 24, u 25, u 26, u 27, u 28, u 29, u 30, u 31, u 32, u 33, u 34, u 35, u 36, u 37, u 38, u 39, u 40, u 41, u 42, u 43, u 44, u 45, u 46, u 47, u 48, u 49, u 50, u 51, u 52, u 53, u 54, u 55, u 56, u 57, u 58, u 59, u 60, u 61, u 62, u 63, u 64, u 65, u 66, u 67, u 68, u 69, u 70, u 71, u 72, u 73, u 74, u 75, u 76, u 77, u 78, u 79, u 80, u 81, u 82, u 83, u 84, u 85, u 86, u 87, u 88, u 89, u 90, u 91, u 92, u 93, u 94, u 95, u 96, u 97, u 98, u 99, u 100, u 101, u 102, u 103, u 104, u 105, u 106, u 107, u 108, u 109, u 110, u 111, u 112, u 113, u 114, u 115, u 116, u 117, u 118, u 119, u 120, u 121, u 122, u 123, u 124, u 125, u 126, u 127, u 128, u 129, u 130, u 131, u 132, u 133, u 134, u 135, u 136, u 137, u 138, u 139, u 140, u 141, u 142, u 143, u 144, u 145, u 146, u 147, u 148, u 149, u 150, u 151, u 152, u 153, u 154, u 155, u 156, u 157, u 158, u 159, u 160, u 161, u 162, u 163, u 164, u 165, u 166, u 167, u 168, u 169, u 170, u 171, u 172, u 173, u 174, u 175, u 176, u 177, u 178, u 179, u 180, u 181, u 182, u 183, u 184, u 185, u 186, u 187, u 188, u 189, u 190, u 191, u 192, u 193, u 194, u 195, u 196, u 197, u 198, u 199, u 200, u 201, u 202, u 203, u 204, u 205, u 206, u 207, u 208, u 209, u 210, u 211, u 212, u 213, u 214, u 215, u 216, u 217, u 218, u 219, u 220, u 221, u 222, u 223, u 224, u 225, u 226, u 227, u 228, u 229, u 230, u 231, u 232, u 233, u 234], []⟩
theorem arr_eq (xs : Array Value) (n : Nat) (h : xs.size = n) : xs = ((List.range n).map fun k => xs.getD k undef).toArray := by
  apply Array.ext
  · simp [h]
  · intro j h1 h2
    simp [Array.getD, h1]
set_option maxRecDepth 100000 in
theorem act_lit (a : Act) (hs : a.tmps.size = 235) (hd : a.defers = []) : ∃ u : Nat → Value, (∀ k, a.tmps.getD k undef = u k) ∧ a = ⟨#[u 0, u 1, u 2, u 3, u 4, u 5, u 6, u 7, u 8, u 9, u 10, u 11, u 12, u 13, u 14, u 15, u 16, u 17, u 18, u 19, u 20, u 21, u 22, u 23, u 24, u 25, u 26, u 27, u 28, u 29, u 30, u 31, u 32, u 33, u 34, u 35, u 36, u 37, u 38, u 39, u 40, u 41, u 42, u 43, u 44, u 45, u 46, u 47, u 48, u 49, u 50, u 51, u 52, u 53, u 54, u 55, u 56, u 57, u 58, u 59, u 60, u 61, u 62, u 63, u 64, u 65, u 66, u 67, u 68, u 69, u 70, u 71, u 72, u 73, u 74, u 75, u 76, u 77, u 78, u 79, u 80, u 81, u 82, u 83, u 84, u 85, u 86, u 87, u 88, u 89, u 90, u 91, u 92, u 93, u 94, u 95, u 96, u 97, u 98, u 99, u 100, u 101, u 102, u 103, u 104, u 105, u 106, u 107, u 108, u 109, u 110, u 111, u 112, u 113, u 114, u 115, u 116, u 117, u 118, u 119, u 120, u 121, u 122, u 123, u 124, u 125, u 126, u 127, u 128, u 129, u 130, u 131, u 132, u 133, u 134, u 135, u 136, u 137, u 138, u 139, u 140, u 141, u 142, u 143, u 144, u 145, u 146, u 147, u 148, u 149, u 150, u 151, u 152, u 153, u 154, u 155, u 156, u 157, u 158, u 159, u 160, u 161, u 162, u 163, u 164, u 165, u 166, u 167, u 168, u 169, u 170, u 171, u 172, u 173, u 174, u 175, u 176, u 177, u 178, u 179, u 180, u 181, u 182, u 183, u 184, u 185, u 186, u 187, u 188, u 189, u 190, u 191, u 192, u 193, u 194, u 195, u 196, u 197, u 198, u 199, u 200, u 201, u 202, u 203, u 204, u 205, u 206, u 207, u 208, u 209, u 210, u 211, u 212, u 213, u 214, u 215, u 216, u 217, u 218, u 219, u 220, u 221, u 222, u 223, u 224, u 225, u 226, u 227, u 228, u 229, u 230, u 231, u 232, u 233, u 234], []⟩ := by
  refine ⟨fun k => a.tmps.getD k undef, fun _ => rfl, ?_⟩
  obtain ⟨t, d⟩ := a
  simp only at hs hd
  subst hd
  have h := arr_eq t 235 hs
  congr 1
/-- what the inner loop keeps -/
def WI (p q : ByteArray) (w0 : World) (G R i B : Nat) (f : Nat → Value) (a : Act) (wr : World) : Prop :=
  (∀ n ∈ ([2, 3, 4, 8, 9, 10, 11, 12, 13, 230, 231, 232, 233, 234] : List Nat), a.tmps.getD n undef = f n) ∧
  a.tmps.size = 235 ∧ a.defers = [] ∧ a.tmps.getD 0 undef = .string p ∧ a.tmps.getD 1 undef = .string q ∧ a.tmps.getD 5 undef = .slice (some ⟨G, 0, none⟩) (p.size + 1) (p.size + 1) ∧ a.tmps.getD 6 undef = .int .i64 (i : Int) ∧
    ∃ t : Nat, t ≤ q.size + 1 ∧ a.tmps.getD 7 undef = .int .i64 ((t : Int) - 1) ∧ InP p.data.toList q.data.toList w0 G R i t B wr
def mu2 (a : Act) (_ : World) : Nat := (intOf (a.tmps.getD 7 undef) + 1).toNat
end Go.Proofs.YtodkjhbnodcbhaaDoor

