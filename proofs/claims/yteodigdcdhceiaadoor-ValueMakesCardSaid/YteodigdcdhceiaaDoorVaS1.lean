/-
  Values in rows: an element is written anew.
-/
import Derived.Test.YteodigdcdhceiaaDoorVa4
namespace Go.Proofs.YteodigdcdhceiaaDoor
open Go.RowKit
set_option linter.unusedVariables false
set_option linter.unusedSimpArgs false

/-- cells written one behind the other -/
def puts (w : World) (g : Nat) : Nat → List Value → World
  | _, [] => w
  | o, v :: r => puts (w.setCell ⟨g, o, none⟩ v) g (o + 1) r
theorem puts_spec {g : Nat} {t : TypeId} : ∀ (vs : List Value) (o : Nat) (w : World) (cs : Array Value), Blk w g t cs → o + vs.length ≤ cs.size →
    ∃ cs', Blk (puts w g o vs) g t cs' ∧ cs'.size = cs.size ∧ cs'.toList = cs.toList.take o ++ (vs ++ cs.toList.drop (o + vs.length)) ∧ Fr (· = g) w (puts w g o vs)
  | [], o, w, cs, h, _ => ⟨cs, h, rfl, by simp, Fr.refl _ _⟩
  | v :: r, o, w, cs, h, hs => by
    rw [List.length_cons] at hs
    obtain ⟨cs', h1, h2, h3, h4⟩ := puts_spec r (o + 1) (w.setCell ⟨g, o, none⟩ v) (cs.setIfInBounds o v) (h.set_ o v) (by simp; omega)
    refine ⟨cs', h1, by simpa using h2, ?_, ((Fr.refl (· = g) w).setCell (p := ⟨g, o, none⟩) (fun _ => rfl) v).trans h4⟩
    have ho : o < cs.toList.length := by simp; omega
    rw [h3, Array.toList_setIfInBounds, List.take_set, List.take_succ_eq_append_getElem ho, List.length_cons, show o + 1 + r.length = o + (r.length + 1) from by omega]
    have hmin : (cs.toList.take o).length = o := by rw [List.length_take]; omega
    rw [List.drop_set_of_lt (by omega), List.set_append_right _ _ (by omega), hmin, Nat.sub_self]
    simp
section
variable {t : TypeId} {size : Nat} {cs : MV → List Value} {base : Nat} {w w' : World} {l1 r : List MV} {x x' : MV}
theorem flat_cs_len {size : Nat} {cs : MV → List Value} (hcl : ∀ x, (cs x).length = size) (l : List MV) : (l.flatMap cs).length = l.length * size := by
  induction l with
  | nil => simp
  | cons v r ih => rw [List.flatMap_cons, List.length_append, ih, hcl, List.length_cons, Nat.succ_mul]; omega
/-- an element, or the end of one, is written anew -/
theorem ROwn.set {g n c d i : Nat} {vs : List Value} (h : ROwn t size cs base w (.slice (some ⟨g, 0, none⟩) n c) (l1 ++ x :: r)) (hcl : ∀ x, (cs x).length = size) (hi : l1.length = i) (hv : cs x' = (cs x).take d ++ vs) (hd : d + vs.length = size) (hx : VAt w x') (hfr : BlkP (base ≤ ·) x') (hav : BlkP (fun b => ¬ b = g) x') :
    ROwn t size cs base (puts w g (i * size + d) vs) (.slice (some ⟨g, 0, none⟩) n c) (l1 ++ x' :: r) ∧ Fr (· = g) w (puts w g (i * size + d) vs) := by
  rcases h.own.2 with ⟨h0, _⟩ | ⟨g', cap, cur, hv', hg, hh, hn, hm, hcs, htk⟩
  · cases h0
  injection hv' with e1 e2 e3
  injection e1 with e1
  injection e1 with e1 _ _
  subst e1
  subst e3
  have hll : (l1 ++ x :: r).length = i + (r.length + 1) := by rw [List.length_append, List.length_cons, hi]
  have hll' : (l1 ++ x' :: r).length = i + (r.length + 1) := by rw [List.length_append, List.length_cons, hi]
  rw [hll] at hn htk e2
  have hbig : (i + (r.length + 1)) * size ≤ cur.size := by rw [hcs]; exact Nat.mul_le_mul_right _ hn
  have hexp : (i + (r.length + 1)) * size = i * size + size + r.length * size := by rw [Nat.add_mul, Nat.succ_mul]; omega
  obtain ⟨cs', k1, k2, k3, k4⟩ := puts_spec vs (i * size + d) w cur hh (by omega)
  have hav' : ∀ y ∈ l1 ++ x :: r, BlkP (fun b => ¬ b = g) y := fun y hy => (h.av y hy).mono (fun b hb e => hb (by rw [e]; rfl))
  have hmem : ∀ y ∈ l1 ++ x' :: r, VAt w y ∧ BlkP (base ≤ ·) y ∧ BlkP (fun b => ¬ b = g) y := fun y hy => by
    rw [List.mem_append, List.mem_cons] at hy
    rcases hy with hy | hy | hy
    · have : y ∈ l1 ++ x :: r := List.mem_append_left _ hy
      exact ⟨h.at_ y this, h.fr y this, hav' y this⟩
    · subst hy; exact ⟨hx, hfr, hav⟩
    · have : y ∈ l1 ++ x :: r := List.mem_append_right _ (List.mem_cons_of_mem _ hy)
      exact ⟨h.at_ y this, h.fr y this, hav' y this⟩
  refine ⟨⟨⟨by rw [flat_cs_len hcl], .inr ⟨g, c, cs', by rw [e2, hll'], hg, k1, by rw [hll']; exact hn, hm, by rw [k2, hcs], ?_⟩⟩, fun y hy => (hmem y hy).1.fr k4 (hmem y hy).2.2, fun y hy => (hmem y hy).2.1, fun y hy => (hmem y hy).2.2.mono (fun b hb e => hb (by injection e with e; exact e.symm))⟩, k4⟩
  rw [hll', k3]
  have hcur : cur.toList = (l1 ++ x :: r).flatMap cs ++ cur.toList.drop ((i + (r.length + 1)) * size) := by
    rw [← htk, List.take_append_drop]
  generalize cur.toList.drop ((i + (r.length + 1)) * size) = tl at hcur
  have hx5 := hcl x
  have hl1 : (l1.flatMap cs).length = i * size := by rw [flat_cs_len hcl, hi]
  have hr1 : (r.flatMap cs).length = r.length * size := flat_cs_len hcl r
  have hc2 : cur.toList = l1.flatMap cs ++ (cs x ++ (r.flatMap cs ++ tl)) := by rw [hcur, List.flatMap_append, List.flatMap_cons]; simp
  have ht : cur.toList.take (i * size + d) = l1.flatMap cs ++ (cs x).take d := by
    rw [hc2, List.take_append, hl1, List.take_of_length_le (by omega), show i * size + d - i * size = d from by omega, List.take_append_of_le_length (by omega)]
  have hdr : cur.toList.drop (i * size + d + vs.length) = r.flatMap cs ++ tl := by
    rw [hc2, List.drop_append, hl1, List.drop_of_length_le (by omega), List.nil_append, show i * size + d + vs.length - i * size = size from by omega, List.drop_append, hx5, List.drop_of_length_le (by omega), List.nil_append, Nat.sub_self, List.drop_zero]
  rw [ht, hdr, List.flatMap_append, List.flatMap_cons, hv, hexp]
  have : l1.flatMap cs ++ (cs x).take d ++ (vs ++ (r.flatMap cs ++ tl)) = (l1.flatMap cs ++ ((cs x).take d ++ vs ++ r.flatMap cs)) ++ tl := by simp
  have hL : (l1.flatMap cs ++ ((cs x).take d ++ vs ++ r.flatMap cs)).length = i * size + size + r.length * size := by
    simp only [List.length_append, List.length_take, hl1, hr1, hx5]
    omega
  rw [this, List.take_append_of_le_length (by rw [hL]; exact Nat.le_refl _), List.take_of_length_le (by rw [hL]; exact Nat.le_refl _)]
end
end Go.Proofs.YteodigdcdhceiaaDoor
