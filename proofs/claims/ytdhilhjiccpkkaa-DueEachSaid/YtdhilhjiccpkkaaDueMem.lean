/-
  A row of names in memory, its map of places, the queue.
-/
import Derived.Test.YtdhilhjiccpkkaaDueW2
import Derived.Test.YtdhilhjiccpkkaaOwnR
namespace Go.Proofs.Ytdhilhjiccpkkaa
open Go.RowKit
set_option linter.unusedVariables false

/-- the cells hold the names and moments of l -/
def DC (cur : Array Value) (l : List Du) : Prop := ∀ k, k < l.length → cur[k * 2]? = some (.string (gd l k).1) ∧ cur[k * 2 + 1]? = some (.int .i64 (gd l k).2)
def dcells (l : List Du) : List Value := l.flatMap fun d => [.string d.1, .int .i64 d.2]
theorem dcells_length (l : List Du) : (dcells l).length = l.length * 2 := by
  induction l with
  | nil => rfl
  | cons d l ih => simp only [dcells, List.flatMap_cons, List.length_append] at ih ⊢; simp only [List.length_cons, List.length_nil]; omega
theorem dcells_append (l m : List Du) : dcells (l ++ m) = dcells l ++ dcells m := by simp [dcells]
theorem dcells_at (l : List Du) : ∀ k, k < l.length → (dcells l)[k * 2]? = some (.string (gd l k).1) ∧ (dcells l)[k * 2 + 1]? = some (.int .i64 (gd l k).2) := by
  induction l with
  | nil => intro k h; simp at h
  | cons d l ih =>
    intro k h
    cases k with
    | zero => exact ⟨rfl, rfl⟩
    | succ k =>
      have h' : k < l.length := by simpa using h
      have e : gd (d :: l) (k + 1) = gd l k := by simp [gd]
      rw [e]
      have := ih k h'
      have e1 : (k + 1) * 2 = k * 2 + 1 + 1 := by omega
      have e2 : (k + 1) * 2 + 1 = k * 2 + 1 + 1 + 1 := by omega
      rw [e1]
      exact this
theorem dc_of_take {cur : Array Value} {l : List Du} (h : cur.toList.take (l.length * 2) = dcells l) : DC cur l := by
  intro k hk
  have h1 := dcells_at l k hk
  rw [← h] at h1
  rw [List.getElem?_take_of_lt (by omega), List.getElem?_take_of_lt (by omega)] at h1
  simpa using h1
theorem take_of_dc {cur : Array Value} {l : List Du} (hs : l.length * 2 ≤ cur.size) (h : DC cur l) : cur.toList.take (l.length * 2) = dcells l := by
  refine List.ext_getElem? fun j => ?_
  rcases Nat.lt_or_ge j (l.length * 2) with hj | hj
  · rw [List.getElem?_take_of_lt hj]
    have h1 := h (j / 2) (by omega)
    have h2 := dcells_at l (j / 2) (by omega)
    rcases (by omega : j = j / 2 * 2 ∨ j = j / 2 * 2 + 1) with e | e
    · rw [e, h2.1]; simpa using h1.1
    · rw [e, h2.2]; simpa using h1.2
  · rw [List.getElem?_eq_none (by simp; omega), List.getElem?_eq_none (by rw [dcells_length]; omega)]
/-- a slice value that owns a row of names, from block base on -/
def DR (w : World) (base : Nat) (v : Value) (l : List Du) : Prop := w.ownsRow base 44 2 v l.length (dcells l)
section
variable {w w' : World} {base : Nat} {v : Value} {l : List Du} {S : Nat → Prop}
theorem DR.nil (w : World) (base : Nat) : DR w base (.slice none 0 0) [] := World.ownsRow_nil _ _ _ _
theorem DR.shape (h : DR w base v l) : (v = .slice none 0 0 ∧ l = []) ∨ ∃ g cap cur, v = .slice (some ⟨g, 0, none⟩) l.length cap ∧ base ≤ g ∧ Blk w g 44 cur ∧ l.length ≤ cap ∧ cap ≤ maxLen ∧ cur.size = cap * 2 ∧ DC cur l := by
  rcases h.2 with ⟨hv, h0⟩ | ⟨g, cap, cur, hv, hg, hh, hn, hm, hs, ht⟩
  · exact .inl ⟨hv, List.eq_nil_of_length_eq_zero h0⟩
  · exact .inr ⟨g, cap, cur, hv, hg, hh, hn, hm, hs, dc_of_take ht⟩
theorem DR.mk {g cap : Nat} {cur : Array Value} (hg : base ≤ g) (hb : Blk w g 44 cur) (hn : l.length ≤ cap) (hm : cap ≤ maxLen) (hs : cur.size = cap * 2) (hc : DC cur l) : DR w base (.slice (some ⟨g, 0, none⟩) l.length cap) l :=
  ⟨dcells_length l, .inr ⟨g, cap, cur, rfl, hg, hb, hn, hm, hs, take_of_dc (by omega) hc⟩⟩
theorem DR.below (h : DR w base v l) (hb : Below w.heap.size w w') : DR w' base v l := by
  rcases h.shape with ⟨rfl, rfl⟩ | ⟨g, cap, cur, rfl, hg, hh, hn, hm, hs, hc⟩
  · exact DR.nil _ _
  · exact DR.mk hg (hh.below hb hh.lt) hn hm hs hc
theorem DR.lt (h : DR w base v l) : ∀ k, v.ownBlock = some k → k < w.heap.size := fun k hk => (World.ownsRow.lt h k hk).2
theorem DR.ge (h : DR w base v l) : ∀ k, v.ownBlock = some k → base ≤ k := fun k hk => (World.ownsRow.lt h k hk).1
theorem DR.mono (h : DR w base v l) {b' : Nat} (hb : b' ≤ base) : DR w b' v l := by
  rcases h.shape with ⟨rfl, rfl⟩ | ⟨g, cap, cur, rfl, hg, hh, hn, hm, hs, hc⟩
  · exact DR.nil _ _
  · exact DR.mk (by omega) hh hn hm hs hc
theorem DR.fr (h : DR w base v l) (hf : Fr S w w') (hs : ∀ g, v.ownBlock = some g → ¬ S g) : DR w' base v l := by
  rcases h.shape with ⟨rfl, rfl⟩ | ⟨g, cap, cur, rfl, hg, hh, hn, hm, hs', hc⟩
  · exact DR.nil _ _
  · exact DR.mk hg (hh.fr hf (hs g rfl)) hn hm hs' hc
theorem DR.drewN (h : DR w base v l) (n : Nat) : DR (w.drewN n) base v l := h
end
theorem Blk.fr' {w w' : World} {S : Nat → Prop} {g : Nat} {t : TypeId} {cs : Array Value} (h : Blk w g t cs) (hf : Fr S w w') (hg : ¬ S g) : Blk w' g t cs := (hf.block g h.lt hg).trans h
theorem fr_cell' {w : World} (g k : Nat) (u : Value) : Fr (· = g) w (w.setCell ⟨g, k, none⟩ u) := (Fr.refl (fun x => x = g) w).setCell (p := ⟨g, k, none⟩) (fun _ => rfl) u
/-- moments and names that may be -/
def OkDu (d : Du) : Prop := d.1.size ≤ 64 ∧ 0 ≤ d.2 ∧ d.2 ≤ 253402300799
/-- a row in memory -/
structure HR (w : World) (base r M : Nat) (v : Value) (l : List Du) : Prop where
  ge : base ≤ r ∧ base ≤ M
  row : Blk w r 55 #[v, .map (some M)]
  own : DR w base v l
  map : SM w M (idxL l)
  nd : (Nm l).Nodup
  few : l.length ≤ 256
  ok : ∀ d ∈ l, OkDu d
/-- the blocks of a row -/
def RS (r M : Nat) (v : Value) (k : Nat) : Prop := k = r ∨ k = M ∨ v.ownBlock = some k
section
variable {w w' : World} {base r M : Nat} {v : Value} {l : List Du} {S : Nat → Prop}
theorem HR.fr (h : HR w base r M v l) (hf : Fr S w w') (hs : ∀ k, RS r M v k → ¬ S k) : HR w' base r M v l :=
  ⟨h.ge, h.row.fr' hf (hs r (.inl rfl)), h.own.fr hf (fun g e => hs g (.inr (.inr e))), h.map.fr hf (hs M (.inr (.inl rfl))), h.nd, h.few, h.ok⟩
theorem HR.below (h : HR w base r M v l) (hb : Below w.heap.size w w') : HR w' base r M v l :=
  h.fr (S := fun _ => False) (Fr.of_below hb) (fun _ _ x => x)
theorem HR.lt (h : HR w base r M v l) : ∀ k, RS r M v k → k < w.heap.size := by
  rintro k (rfl | rfl | e)
  · exact h.row.lt
  · exact h.map.lt
  · exact h.own.lt k e
theorem HR.geS (h : HR w base r M v l) : ∀ k, RS r M v k → base ≤ k := by
  rintro k (rfl | rfl | e)
  · exact h.ge.1
  · exact h.ge.2
  · exact h.own.ge k e
theorem HR.mono (h : HR w base r M v l) {b' : Nat} (hb : b' ≤ base) : HR w b' r M v l :=
  ⟨⟨Nat.le_trans hb h.ge.1, Nat.le_trans hb h.ge.2⟩, h.row, h.own.mono hb, h.map, h.nd, h.few, h.ok⟩
theorem HR.ne (h : HR w base r M v l) : r ≠ M ∧ ∀ g, v.ownBlock = some g → g ≠ r ∧ g ≠ M := by
  refine ⟨h.map.not_blk h.row, fun g hg => ?_⟩
  rcases h.own.shape with ⟨rfl, rfl⟩ | ⟨g', cap, cur, rfl, _, hh, _⟩
  · cases hg
  · cases hg
    refine ⟨Blk.ne_ hh h.row (by decide), h.map.not_blk hh⟩
theorem gd_mem {l : List Du} {k : Nat} (h : k < l.length) : gd l k ∈ l := by rw [gd_at h]; exact List.getElem_mem h
theorem gd_ok (h : HR w base r M v l) {k : Nat} (hk : k < l.length) : OkDu (gd l k) := h.ok _ (gd_mem hk)
end
end Go.Proofs.Ytdhilhjiccpkkaa
