/-
  What happens to a store, that came in.
-/
import Derived.Test.YtgpcinfhcamgpaaGreatDoorFrameSt
import Derived.Test.YtgpcinfhcamgpaaGreatDoorStK3
set_option linter.unusedVariables false
set_option linter.unusedSimpArgs false
namespace Go.Proofs.YtgpcinfhcamgpaaGreatDoor
open Go.ChangeShapes Go.WideShapes Go.ChangeAt Go.RowKit Go.Deep

section
variable {H : Type} {enc : TypeId × Value → H} {P : Program} {w : World} {base : Nat} {spare : Nat → Bool} {held : Bool}
theorem open_slice_fields {t e : TypeId} {fs : Array Field} {fuel : Nat} {cs : List Value} {x : DataW H × List MemPlace} (ht : P.underlying t = some (.slice e)) (he : P.underlying e = some (.struct fs))
    (hone : oneCellFields P fs = true) (hC : P.cellsOf e = fs.size) (h : DataW.trod enc P w base spare held fuel t cs = some x) :
    (cs = [.slice none 0 0]) ∨
    ∃ (a : Addr) (len cap m : Nat), cs = [.slice (some a) len cap] ∧ len ≤ cap ∧ cap ≤ maxLen ∧ m = (if spare a.block then cap else len) ∧
      ∀ i, i < m → ∃ (n : Nat), ∀ (j : Nat) (f : Field), fs[j]? = some f → ∃ (v : Value) (y : DataW H × List MemPlace), w.cell? (a.add (i * fs.size + j)) = some v ∧ DataW.trod enc P w base spare held n f.type [v] = some y := by
  rcases open_slice ht h with h0 | ⟨a, len, cap, m, n, D, Pl, hcs, hb, hl, hm, hmm, hx, hi⟩
  · exact .inl h0.1
  · refine .inr ⟨a, len, cap, m, hcs, hl, hm, hmm, fun i him => ?_⟩
    obtain ⟨cs', hc, ht'⟩ := hi i him
    rw [hC] at hc
    obtain ⟨ys, n', hn', hy, hlen, hyl, hf⟩ := DataW.trod_struct he ht'
    obtain ⟨_, hcl, hat⟩ := World.cells?_some hc
    refine ⟨n', fun j f hj => ?_⟩
    obtain ⟨ho, hk⟩ := hone_of hone j f hj
    have hjl : j < fs.size := (Array.getElem?_eq_some_iff.1 hj).1
    have hcell := hat j hjl
    have hv : cs'[j]? = some (cs'[j]'(by omega)) := List.getElem?_eq_getElem (by omega)
    have h1 := hf j f hj
    rw [ho, hk] at h1
    have hone' : (cs'.drop j).take 1 = [cs'[j]'(by omega)] := by
      rw [List.drop_eq_getElem_cons (by omega)]
      rfl
    rw [hone'] at h1
    have hys : ys[j]? = some (ys[j]'(by omega)) := List.getElem?_eq_getElem (by omega)
    refine ⟨_, _, ?_, h1.trans hys⟩
    rw [← Go.Deep.add_add, hcell, hv]
end
theorem pairs_of {p : Nat → Int → Int → Prop} : ∀ (n : Nat), (∀ i, i < n → ∃ a b, p i a b) → ∃ l : List (Int × Int), l.length = n ∧ ∀ i q, l[i]? = some q → p i q.1 q.2
  | 0, _ => ⟨[], rfl, fun i q h => by simp at h⟩
  | n + 1, h => by
    obtain ⟨l, h1, h2⟩ := pairs_of n (fun i hi => h i (by omega))
    obtain ⟨a, b, hab⟩ := h n (by omega)
    refine ⟨l ++ [(a, b)], by simp [h1], fun i q hq => ?_⟩
    rcases Nat.lt_or_ge i l.length with hi | hi
    · rw [List.getElem?_append_left hi] at hq
      exact h2 i q hq
    · rw [List.getElem?_append_right hi] at hq
      have e : i - l.length = 0 := by
        rcases Nat.eq_zero_or_pos (i - l.length) with h0 | h0
        · exact h0
        · rw [List.getElem?_eq_none (by simp; omega)] at hq; cases hq
      rw [e] at hq
      simp at hq
      subst hq
      have : i = n := by omega
      subst this
      exact hab
theorem open_kept {H : Type} {enc : TypeId × Value → H} {W : World} {a0 : Option Addr} {n c : Nat} {d : DataW H} {p : List MemPlace}
    (h : DataW.Trod enc Tryz.prog W 0 (fun _ => true) true 48 (.slice a0 n c) d p) : ∃ l : List (Int × Int), KptAt W W.heap.size a0 l ∧ l.length = n ∧ n ≤ maxLen := by
  obtain ⟨fuel, hf⟩ := h
  rcases open_slice_fields Tryz.underlying48 Tryz.underlying98 (by kernel_rfl) (by kernel_rfl) hf with hcs | ⟨a, len, cap, m, hcs, hl, hm, hmm, hi⟩
  · simp [Value.cells] at hcs
    obtain ⟨rfl, rfl, rfl⟩ := hcs
    exact ⟨[], fun i p hp => by simp at hp, rfl, by simp [maxLen]⟩
  · simp [Value.cells] at hcs
    obtain ⟨rfl, rfl, rfl⟩ := hcs
    obtain ⟨l, h1, h2⟩ := pairs_of (p := fun i x y => a.block < W.heap.size ∧ W.cell? (a.add (i * 2)) = some (.int .i64 x) ∧ W.cell? (a.add (i * 2 + 1)) = some (.int .i64 y) ∧ (Lit.int .i64 x).wf = true ∧ (Lit.int .i64 y).wf = true) n (fun i hin => by
      obtain ⟨q, hq⟩ := hi i (by rw [hmm]; simp; omega)
      obtain ⟨v0, y0, c0, t0⟩ := hq 0 _ rfl
      obtain ⟨v1, y1, c1, t1⟩ := hq 1 _ rfl
      obtain ⟨z0, hz0, k0⟩ := DataW.trod_int Tryz.underlying3 t0
      obtain ⟨z1, hz1, k1⟩ := DataW.trod_int Tryz.underlying3 t1
      injection hz0 with hz0
      injection hz1 with hz1
      subst hz0
      subst hz1
      refine ⟨z0, z1, ?_, c0, c1, ?_, ?_⟩
      · have := block_lt_of_cell c0
        rwa [block_of_add] at this
      · exact k0.2
      · exact k1.2)
    refine ⟨l, fun i p hp => ?_, h1, Nat.le_trans hl hm⟩
    obtain ⟨g1, g2, g3, g4, g5⟩ := h2 i p hp
    refine ⟨a, rfl, g1, g2, ?_, g4, g5⟩
    have hs := cell_spot g2
    rw [← add_of_add, hs, Addr.add_lit] at g3
    exact g3
theorem bytesOp23 : Tryz.prog.bytesOf 50 = 160 := by kernel_rfl
set_option maxRecDepth 100000 in
theorem open_ops23 {H : Type} {enc : TypeId × Value → H} {W : World} {a0 : Option Addr} {n c : Nat} {d : DataW H} {p : List MemPlace}
    (h : DataW.Trod enc Tryz.prog W 0 (fun _ => true) true 44 (.slice a0 n c) d p) (hz : Szd 44 d) : n ≤ 140737488351232 ∧ ∀ i, i < n → ∃ b o op, a0 = some ⟨b, o, none⟩ ∧ OpSAt W W.heap.size b (o + i * 8) op := by
  obtain ⟨fuel, hf⟩ := h
  rcases open_slice Tryz.underlying44 hf with ⟨hcs, _⟩ | ⟨a, len, cap, m, n', D, Pl, hcs, hb, hl, hm, hmm, hx, hi⟩
  · simp [Value.cells] at hcs
    obtain ⟨rfl, rfl, rfl⟩ := hcs
    exact ⟨by omega, fun i hi => absurd hi (by omega)⟩
  · simp [Value.cells] at hcs
    obtain ⟨rfl, rfl, rfl⟩ := hcs
    simp only [Prod.mk.injEq] at hx
    rw [hx.1] at hz
    have hn : n ≤ 140737488351232 := by
      have := hz.slice Tryz.underlying44
      rw [bytesOp23] at this
      simp only [List.length_map, List.length_range, reachBytes] at this
      omega
    have hC : Tryz.prog.cellsOf 50 = 8 := by kernel_rfl
    refine ⟨hn, fun i hin => ?_⟩
    obtain ⟨cs0, hc0, _⟩ := hi 0 (by rw [hmm]; simp; omega)
    rw [hC] at hc0
    obtain ⟨_, hcl0, hcat0⟩ := World.cells?_some hc0
    have hz0 := hcat0 0 (by omega)
    rw [List.getElem?_eq_getElem (by omega)] at hz0
    have ha : a = ⟨a.block, a.off, none⟩ := by
      have h9 : W.cell? a = some (cs0[0]'(by omega)) := by simpa [Addr.add] using hz0
      exact cell_spot h9
    have hab : a.block < W.heap.size := by
      have h9 : W.cell? a = some (cs0[0]'(by omega)) := by simpa [Addr.add] using hz0
      exact block_lt_of_cell h9
    obtain ⟨cs', hc, ht'⟩ := hi i (by rw [hmm]; simp; omega)
    rw [hC] at hc
    obtain ⟨ys, n'', hn', hy, hlen, hyl, hfld⟩ := DataW.trod_struct Tryz.underlying50 ht'
    obtain ⟨_, hcl, hcat⟩ := World.cells?_some hc
    have hcat' : ∀ j, j < 8 → W.cell? ⟨a.block, a.off + i * 8 + j, none⟩ = cs'[j]? := fun j hj => by
      have h9 := hcat j hj
      rw [Go.Deep.add_add, ha, Addr.add_lit] at h9
      rw [← h9, Nat.add_assoc]
    match cs', hcl, ys, hyl with
    | [c0, c1, c2, c3, c4, c5, c6, c7], _, [y0, y1, y2, y3], _ =>
      have h0 : DataW.trod enc Tryz.prog W 0 (fun _ => true) true n'' 25 [c0, c1, c2, c3, c4] = some y0 := hfld 0 _ rfl
      have h1 : DataW.trod enc Tryz.prog W 0 (fun _ => true) true n'' 3 [c5] = some y1 := hfld 1 _ rfl
      have h2 : DataW.trod enc Tryz.prog W 0 (fun _ => true) true n'' 3 [c6] = some y2 := hfld 2 _ rfl
      have h3 : DataW.trod enc Tryz.prog W 0 (fun _ => true) true n'' 48 [c7] = some y3 := hfld 3 _ rfl
      have hze : Szd 50 (D i) := hz.elem Tryz.underlying44 (j := i) (by simp [hin])
      have hDi : D i = .agg [y0.1, y1.1, y2.1, y3.1] := by injection hy
      rw [hDi] at hze
      have z0 : Szd 25 y0.1 := hze.field Tryz.underlying50 (j := 0) rfl rfl
      obtain ⟨x, hxc, hxa, hxb⟩ := open_stateC h0 z0
      obtain ⟨z1, hz1, k1⟩ := DataW.trod_int Tryz.underlying3 h1
      obtain ⟨z2, hz2, k2⟩ := DataW.trod_int Tryz.underlying3 h2
      injection hz1 with hz1
      injection hz2 with hz2
      subst hz1
      subst hz2
      obtain ⟨A, ln, cp, rfl⟩ := slice_of Tryz.underlying48 h3
      obtain ⟨lk, g1, g2, g3⟩ := open_kept ⟨n'', h3⟩
      subst g2
      refine ⟨a.block, a.off, ⟨x, z1, z2, A, cp, lk⟩, by rw [← ha], ⟨hab, fun j hj => ?_, hcat' 5 (by omega), hcat' 6 (by omega), hcat' 7 (by omega), hxa, hxb, g1, k1.2⟩⟩
      rw [hcat' j (by omega)]
      have h9 : x.cs[j]? = [c0, c1, c2, c3, c4][j]? := by rw [hxc]; simp
      show _ = x.cs[j]?
      rw [h9]
      rcases (by omega : j = 0 ∨ j = 1 ∨ j = 2 ∨ j = 3 ∨ j = 4) with rfl | rfl | rfl | rfl | rfl <;> rfl
end Go.Proofs.YtgpcinfhcamgpaaGreatDoor
