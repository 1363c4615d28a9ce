/-
  append onto a row of bytes of the call's own: one byte, a slice of bytes, a text.
-/
import Derived.Test.YteofdpogjnojnaaGreatDoorWords2
import Derived.Test.YteofdpogjnojnaaGreatDoorBuilder
import Derived.Deep.RegionHeld3
import Derived.Deep.AppendLies
namespace Go.Proofs.YteofdpogjnojnaaGreatDoor
open Go.RowKit

theorem oneCell_bytes (l : List UInt8) : ∀ u ∈ Lib.byteCells l, u.oneCell' = true := by
  intro u hu
  simp only [Lib.byteCells, List.mem_map] at hu
  obtain ⟨b, _, rfl⟩ := hu
  rfl

theorem app_bytes (w : World) {ops : Array Oper} {rest : List Oper} {o : Oper} {a : Act} {Q : Exit → Act → World → Prop} (hgd : o.guard = none) (s x : Operand)
    (ho : o.op = .call { callee := .builtin .append, args := #[s, x], argTypes := #[33, 33] })
    (base : Nat) (v : Value) (l : List UInt8) (hs : a.eval s = v) (hown : OB w base v l) (A : Option Addr) (n c : Nat) (l2 : List UInt8) (hx : a.eval x = .slice A n c) (hn : l2.length = n) (hr : RB w A l2)
    (hlen : l.length + n ≤ 140737488355328) (hbase : base ≤ w.heap.size)
    (h : ∀ v' w', OB w' base v' (l ++ l2) → w.grownBy w' v.ownBlock → (v'.ownBlock = v.ownBlock ∨ v'.ownBlock = some w.heap.size) → wpList Tryz.prog ops Q rest (a.put o.dst v') w') : wpList Tryz.prog ops Q (o :: rest) a w := by
  obtain ⟨i0, hi0, hz0, hz1, hz2⟩ := info_parts infoByte
  subst hn
  refine wpList_append_any w hgd s x _ ho base 5 i0 _ 1 1 Tryz.underlying33 hi0 hz0 hz1 hz2 rfl (by omega) v l.length (Lib.byteCells l) hs hown w.heap.size A l2.length c (Lib.byteCells l2) hx hr (oneCell_bytes l2) (by simp only [maxLen]; omega) (by omega) hbase ?_
  intro v' w' h1 h2 h3
  refine h v' w' ?_ h2 h3
  unfold OB
  rw [Lib.byteCells_append, List.length_append]
  exact h1

theorem RB.one {w : World} {g : Nat} {b : UInt8} {x : Value} (h : w.cell? ⟨g, 0, none⟩ = some x) (hx : x = .int .u8 (b.toNat : Int)) (hg : g < w.heap.size) : RB w (some ⟨g, 0, none⟩) [b] :=
  ⟨rfl, fun _ => ⟨_, rfl, hg, fun j u hu => by
    match j, hu with
    | 0, hu => simp [Lib.byteCells] at hu; subst hu; rw [← hx]; simpa [Addr.add] using h⟩⟩

/-- one byte, that lies in a block of its own (what 'append(out, x)' makes of x). -/
theorem app_one (w : World) {ops : Array Oper} {rest : List Oper} {o : Oper} {a : Act} {Q : Exit → Act → World → Prop} (hgd : o.guard = none) (s x : Operand)
    (ho : o.op = .call { callee := .builtin .append, args := #[s, x], argTypes := #[33, 33] })
    (base : Nat) (v : Value) (l : List UInt8) (hs : a.eval s = v) (hown : OB w base v l) (b : UInt8) (y : Value) (hy : y = .int .u8 (b.toNat : Int)) (hx : a.eval x = .slice (some ⟨w.heap.size, 0, none⟩) 1 1)
    (hlen : l.length + 1 ≤ 140737488355328) (hbase : base ≤ w.heap.size)
    (h : ∀ v' w', OB w' base v' (l ++ [b]) → (w.alloc (.cells #[y] 5)).grownBy w' v.ownBlock → (v'.ownBlock = v.ownBlock ∨ v'.ownBlock = some (w.heap.size + 1)) → wpList Tryz.prog ops Q rest (a.put o.dst v') w') : wpList Tryz.prog ops Q (o :: rest) a (w.alloc (.cells #[y] 5)) := by
  have h1 : RB (w.alloc (.cells #[y] 5)) (some ⟨w.heap.size, 0, none⟩) [b] := RB.one (x := y) (by rw [World.cell?_alloc_new]; rfl) hy (by simp)
  refine app_bytes _ hgd s x ho base v l hs (hown.below ((Below.refl _ _).alloc (Nat.le_refl _) _)) _ 1 1 [b] hx rfl h1 hlen (by simp; omega) ?_
  intro v' w' g1 g2 g3
  exact h v' w' g1 g2 (by simpa using g3)

/-- a text. -/
theorem app_text (w : World) {ops : Array Oper} {rest : List Oper} {o : Oper} {a : Act} {Q : Exit → Act → World → Prop} (hgd : o.guard = none) (s x : Operand)
    (ho : o.op = .call { callee := .builtin .append, args := #[s, x], argTypes := #[33, 9] })
    (base : Nat) (v : Value) (l : List UInt8) (hs : a.eval s = v) (hown : OB w base v l) (t : ByteArray) (hx : a.eval x = .string t)
    (hlen : l.length + t.size ≤ 140737488355328) (hbase : base ≤ w.heap.size)
    (h : ∀ v' w', OB w' base v' (l ++ t.data.toList) → w.grownBy w' v.ownBlock → wpList Tryz.prog ops Q rest (a.put o.dst v') w') : wpList Tryz.prog ops Q (o :: rest) a w := by
  obtain ⟨i0, hi0, hz0, hz1, hz2⟩ := info_parts infoByte
  refine Lib.wpList_append_own_string w hgd s x _ _ ho base 5 i0 Tryz.underlying33 Tryz.underlying9 hi0 hz0 hz1 hz2 v _ _ hs hown t hx (by simp only [maxLen]; omega) hlen hbase ?_
  intro v' w' h1 h2 _
  refine h v' w' ?_ h2
  unfold OB
  rw [Lib.byteCells_append, List.length_append]
  exact h1

/-- The same inside a region that draws its order. -/
theorem step_app_bytes (w : World) {ops : Array Oper} {o : Oper} {a : Act} {K : Act → World → Prop} {Q : Exit → Act → World → Prop} {E : Prop} (hgd : o.guard = none) (s x : Operand)
    (ho : o.op = .call { callee := .builtin .append, args := #[s, x], argTypes := #[33, 33] })
    (base : Nat) (v : Value) (l : List UInt8) (hs : a.eval s = v) (hown : OB w base v l) (A : Option Addr) (n c : Nat) (l2 : List UInt8) (hx : a.eval x = .slice A n c) (hn : l2.length = n) (hr : RB w A l2)
    (hlen : l.length + n ≤ 140737488355328) (hbase : base ≤ w.heap.size)
    (h : ∀ v' w', OB w' base v' (l ++ l2) → w.grownBy w' v.ownBlock → (v'.ownBlock = v.ownBlock ∨ v'.ownBlock = some w.heap.size) → K (a.put o.dst v') w') :
    if Region.wanted o (yielded ops a.tmps) = true then Oper.wp Tryz.prog o a w K Q else E := by
  obtain ⟨i0, hi0, hz0, hz1, hz2⟩ := info_parts infoByte
  subst hn
  refine step_append_any w hgd s x _ ho base 5 i0 _ 1 1 Tryz.underlying33 hi0 hz0 hz1 hz2 rfl (by omega) v l.length (Lib.byteCells l) hs hown w.heap.size A l2.length c (Lib.byteCells l2) hx hr (oneCell_bytes l2) (by simp only [maxLen]; omega) (by omega) hbase ?_
  intro v' w' h1 h2 h3
  refine h v' w' ?_ h2 h3
  unfold OB
  rw [Lib.byteCells_append, List.length_append]
  exact h1
theorem lit_rb (w : World) (l : List UInt8) (cs : Array Value) (h : cs = (Lib.byteCells l).toArray) : RB (w.alloc (.cells cs 5)) (some ⟨w.heap.size, 0, none⟩) l := by
  subst h
  refine ⟨by simp [Lib.byteCells], fun hn => ⟨_, rfl, by simp, fun j u hu => ?_⟩⟩
  have : ((⟨w.heap.size, 0, none⟩ : Addr).add j) = ⟨w.heap.size, j, none⟩ := by unfold Addr.add; split <;> simp_all
  rw [this, (Blk.new w 5 _).cell j]
  simpa using hu
theorem RB.drew' {w : World} {A : Option Addr} {l : List UInt8} (h : RB w A l) : RB w.drew A l := h
theorem OB.drew {w : World} {b : Nat} {v : Value} {l : List UInt8} (h : OB w b v l) : OB w.drew b v l := h
theorem OB.alloc {w : World} {b : Nat} {v : Value} {l : List UInt8} (h : OB w b v l) (o : Obj) : OB (w.alloc o) b v l := h.below ((Below.refl _ _).alloc (Nat.le_refl _) _)

/-- where the old row lay at base or above, what grew is at base or above -/
theorem OB.grown_ge {w : World} {base : Nat} {v : Value} {l : List UInt8} (h : OB w base v l) : ∀ k, v.ownBlock = some k → base ≤ k := fun k hk => (World.ownsRow.lt h k hk).1

end Go.Proofs.YteofdpogjnojnaaGreatDoor
