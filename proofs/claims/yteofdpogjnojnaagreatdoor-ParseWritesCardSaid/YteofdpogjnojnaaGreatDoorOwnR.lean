/-
  A row of one-cell elements that the call owns; append of one element onto it.
-/
import Derived.Test.YteofdpogjnojnaaGreatDoorWords2
import Derived.Deep.AppendLies
namespace Go.Proofs.YteofdpogjnojnaaGreatDoor
open Go.RowKit
set_option linter.unusedVariables false

/-- a slice value that owns a row of one-cell elements of type e, from block base on -/
def OR (e : TypeId) (w : World) (base : Nat) (v : Value) (xs : List Value) : Prop := w.ownsRow base e 1 v xs.length xs
section
variable {e : TypeId} {S : Nat → Prop} {w w' : World} {base : Nat} {v : Value} {xs : List Value}
theorem OR.nil (e : TypeId) (w : World) (base : Nat) : OR e w base (.slice none 0 0) [] := World.ownsRow_nil _ _ _ _
theorem OR.shape (h : OR e w base v xs) : ∃ A c, v = .slice A xs.length c ∧ xs.length ≤ c ∧ c ≤ maxLen ∧ Reads w w.heap.size 1 A xs.length xs ∧ (∀ ad, A = some ad → base ≤ ad.block ∧ ad.block < w.heap.size ∧ ad = ⟨ad.block, 0, none⟩) := by
  rcases h.2 with ⟨hv, h0⟩ | ⟨g, cap, cur, hv, hg, hh, hn, hm, _⟩
  · have : xs = [] := List.eq_nil_of_length_eq_zero h0
    subst this
    exact ⟨none, 0, hv, by simp, by simp [maxLen], Reads.none_, by simp⟩
  · subst hv
    refine ⟨_, _, rfl, hn, hm, Reads.of_own h, ?_⟩
    rintro ad ⟨rfl⟩
    exact ⟨hg, Blk.lt (t := e) hh, rfl⟩
theorem OR.below (h : OR e w base v xs) (hb : Below w.heap.size w w') : OR e w' base v xs := by
  refine ⟨h.1, ?_⟩
  rcases h.2 with h0 | ⟨g, cap, cur, hv, hg, hh, hn⟩
  · exact .inl h0
  · exact .inr ⟨g, cap, cur, hv, hg, (hb.block g (Blk.lt (t := e) hh)).trans hh, hn⟩
theorem OR.fr (h : OR e w base v xs) (hf : Fr S w w') (hs : ∀ g, v.ownBlock = some g → ¬ S g) : OR e w' base v xs := by
  refine ⟨h.1, ?_⟩
  rcases h.2 with h0 | ⟨g, cap, cur, hv, hg, hh, hn⟩
  · exact .inl h0
  · exact .inr ⟨g, cap, cur, hv, hg, (hf.block g (Blk.lt (t := e) hh) (hs g (by rw [hv]; rfl))).trans hh, hn⟩
theorem OR.mono (h : OR e w base v xs) {b' : Nat} (hb : b' ≤ base) : OR e w b' v xs := by
  refine ⟨h.1, ?_⟩
  rcases h.2 with h0 | ⟨g, cap, cur, hv, hg, hh⟩
  · exact .inl h0
  · exact .inr ⟨g, cap, cur, hv, by omega, hh⟩
theorem OR.drew (h : OR e w base v xs) : OR e w.drew base v xs := h
theorem OR.drewN (h : OR e w base v xs) (n : Nat) : OR e (w.drewN n) base v xs := h
theorem OR.alloc (h : OR e w base v xs) (o : Obj) : OR e (w.alloc o) base v xs := h.below ((Below.refl _ _).alloc (Nat.le_refl _) _)
theorem OR.ge (h : OR e w base v xs) : ∀ k, v.ownBlock = some k → base ≤ k := fun k hk => (World.ownsRow.lt h k hk).1
theorem OR.lt (h : OR e w base v xs) : ∀ k, v.ownBlock = some k → k < w.heap.size := fun k hk => (World.ownsRow.lt h k hk).2
end

/-- one element, that lies in a block of its own (what 'append(out, x)' makes of x) -/
theorem app_cell (w : World) {ops : Array Oper} {rest : List Oper} {o : Oper} {a : Act} {Q : Exit → Act → World → Prop} (hgd : o.guard = none) (s x : Operand) (t e : TypeId) (z : Value) (bytes : Nat)
    (ht : Tryz.prog.underlying t = some (.slice e)) (hinfo : (Tryz.prog.info? e).map (fun i => (i.zero, i.size, i.bytes)) = some (some z, 1, bytes)) (hzs : z.cells.size = 1)
    (ho : o.op = .call { callee := .builtin .append, args := #[s, x], argTypes := #[t, t] })
    (base : Nat) (v : Value) (xs : List Value) (hs : a.eval s = v) (hown : OR e w base v xs) (y : Value) (hy : y.oneCell' = true) (hx : a.eval x = .slice (some ⟨w.heap.size, 0, none⟩) 1 1)
    (hlen : xs.length + 1 ≤ maxLen) (hby : (xs.length + 1) * bytes ≤ 140737488355328) (hbase : base ≤ w.heap.size)
    (h : ∀ v' w', OR e w' base v' (xs ++ [y]) → (w.alloc (.cells #[y] e)).grownBy w' v.ownBlock → (v'.ownBlock = v.ownBlock ∨ v'.ownBlock = some (w.heap.size + 1)) → wpList Tryz.prog ops Q rest (a.put o.dst v') w') : wpList Tryz.prog ops Q (o :: rest) a (w.alloc (.cells #[y] e)) := by
  obtain ⟨i0, hi0, hz0, hz1, hz2⟩ := info_parts hinfo
  have hr : Reads (w.alloc (.cells #[y] e)) (w.alloc (.cells #[y] e)).heap.size 1 (some ⟨w.heap.size, 0, none⟩) 1 [y] := by
    refine ⟨rfl, fun _ => ⟨_, rfl, by simp, fun j u hu => ?_⟩⟩
    match j, hu with
    | 0, hu =>
      simp at hu
      subst hu
      have := (Blk.new w e #[y]).cell 0
      simp [Addr.add, this]
  refine wpList_append_any _ hgd s x t ho base e i0 z 1 bytes ht hi0 hz0 hz1 hz2 hzs (by omega) v xs.length xs hs (hown.alloc _) _ _ 1 1 [y] hx hr (fun u hu => by simp at hu; subst hu; exact hy) hlen hby (by simp; omega) ?_
  intro v' w' h1 h2 h3
  refine h v' w' ?_ h2 (by simpa using h3)
  unfold OR
  rw [List.length_append]
  exact h1
theorem below_grown {w w1 w' : World} {B : Nat} {v : Value} (hb : Below B w w1) (hg : w1.grownBy w' v.ownBlock) (hB : B ≤ w1.heap.size) (hv : ∀ k, v.ownBlock = some k → B ≤ k) : Below B w w' := hb.grown hg hB hv
end Go.Proofs.YteofdpogjnojnaaGreatDoor
