/-
  The document's Depth and Count.
-/
import Derived.Test.YteofdpogjnojnaaDoorVa5
namespace Go.Proofs.YteofdpogjnojnaaDoor
open Go.RowKit
attribute [local go_sem ↓] Go.wp_at_zero Go.wp_at_succ
set_option linter.unusedVariables false
set_option linter.unusedSimpArgs false

theorem depL_app (a b : List MV) : MV.depL (a ++ b) = max (MV.depL a) (MV.depL b) := by
  induction a with
  | nil => simp [MV.depL]
  | cons v r ih => rw [List.cons_append, MV.depL, MV.depL, ih]; omega
theorem depL_snoc (l : List MV) (i : Nat) (hi : i < l.length) : MV.depL (l.take (i + 1)) = max (MV.depL (l.take i)) l[i].dep := by
  rw [List.take_succ_eq_append_getElem hi, depL_app]
  simp [MV.depL]
theorem cntL_app (a b : List MV) : MV.cntL (a ++ b) = MV.cntL a + MV.cntL b := by
  induction a with
  | nil => simp [MV.cntL]
  | cons v r ih => rw [List.cons_append, MV.cntL, MV.cntL, ih]; omega
theorem cntL_snoc (l : List MV) (i : Nat) (hi : i < l.length) : MV.cntL (l.take (i + 1)) = MV.cntL (l.take i) + l[i].cnt := by
  rw [List.take_succ_eq_append_getElem hi, cntL_app]
  simp [MV.cntL]
theorem depL_mem {l : List MV} {x : MV} (h : x ∈ l) : x.dep ≤ MV.depL l := by
  induction l with
  | nil => cases h
  | cons v r ih =>
    rw [MV.depL]
    rcases List.mem_cons.1 h with h | h
    · subst h; omega
    · have := ih h; omega
theorem cntL_mem {l : List MV} {x : MV} (h : x ∈ l) : x.cnt ≤ MV.cntL l := by
  induction l with
  | nil => cases h
  | cons v r ih =>
    rw [MV.cntL]
    rcases List.mem_cons.1 h with h | h
    · subst h; omega
    · have := ih h; omega
theorem cntL_take_le (l : List MV) (i : Nat) : MV.cntL (l.take i) ≤ MV.cntL l := by
  have h : MV.cntL l = MV.cntL (l.take i) + MV.cntL (l.drop i) := by rw [← cntL_app, List.take_append_drop]
  omega
theorem depL_take_le (l : List MV) (i : Nat) : MV.depL (l.take i) ≤ MV.depL l := by
  have h : MV.depL l = max (MV.depL (l.take i)) (MV.depL (l.drop i)) := by rw [← depL_app, List.take_append_drop]
  omega
theorem dep_eq (v : MV) : v.dep = MV.depL (v.l ++ v.m) + 1 := by
  cases v
  rw [MV.dep, depL_app]
  rfl
theorem cnt_eq (v : MV) : v.cnt = MV.cntL (v.l ++ v.m) + 1 := by
  cases v
  rw [MV.cnt, cntL_app]
  rfl
theorem csL_cells {w : World} {A : Option Addr} {n : Nat} {l : List MV} (h : Reads w w.heap.size 5 A n (l.flatMap MV.cs)) (hn : n = l.length) {i : Nat} (hi : i < l.length) : ∃ b o, A = some ⟨b, o, none⟩ ∧ ∀ j, j < 5 → w.cell? ⟨b, o + i * 5 + j, none⟩ = (l[i]).cs[j]? := by
  obtain ⟨ad, hA, hlt, hc⟩ := h.2 (by omega)
  have h0 : w.cell? (ad.add 0) = some (.int .i64 (l[0]'(by omega)).k) := by
    refine hc 0 _ ?_
    have := csL_at l 0 (by omega) 0 (by omega)
    rw [Nat.zero_mul, Nat.zero_add] at this
    rw [this]
    rfl
  have e1 : ad.add 0 = ad := by simp [Addr.add]
  rw [e1] at h0
  have e2 := cell_spot h0
  refine ⟨ad.block, ad.off, by rw [← e2]; exact hA, fun j hj => ?_⟩
  have h1 := csL_at l i hi j hj
  obtain ⟨u, hu⟩ : ∃ u, (l[i]'hi).cs[j]? = some u := by
    rw [List.getElem?_eq_getElem (show j < (l[i]'hi).cs.length by simp [MV.cs]; omega)]
    exact ⟨_, rfl⟩
  have h2 := hc _ u (h1.trans hu)
  rw [e2, Addr.add_lit, ← Nat.add_assoc] at h2
  exact h2.trans hu.symm
end Go.Proofs.YteofdpogjnojnaaDoor
