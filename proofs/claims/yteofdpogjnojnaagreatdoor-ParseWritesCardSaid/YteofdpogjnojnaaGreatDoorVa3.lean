/-
  Values in rows of their own.
-/
import Derived.Test.YteofdpogjnojnaaGreatDoorVa2
import Derived.Test.YteofdpogjnojnaaGreatDoorAppend
namespace Go.Proofs.YteofdpogjnojnaaGreatDoor
open Go.RowKit
set_option linter.unusedVariables false
set_option linter.unusedSimpArgs false

/-- where a value's rows lie -/
inductive BlkP (P : Nat → Prop) : MV → Prop
  | mk {key : ByteArray} {k n : Int} {s : ByteArray} {lA : Option Addr} {lc : Nat} {l : List MV} {mA : Option Addr} {mc : Nat} {m : List MV} :
    (l ≠ [] → ∀ ad, lA = some ad → P ad.block) → (m ≠ [] → ∀ ad, mA = some ad → P ad.block) → (∀ x ∈ l, BlkP P x) → (∀ x ∈ m, BlkP P x) → BlkP P (.mk key k n s lA lc l mA mc m)
section
variable {w w' : World} {v : MV} {P Q : Nat → Prop} {S : Nat → Prop}
theorem BlkP.mono (h : BlkP P v) (hPQ : ∀ b, P b → Q b) : BlkP Q v := by
  induction h with
  | mk a b c d ih1 ih2 => exact .mk (fun h ad e => hPQ _ (a h ad e)) (fun h ad e => hPQ _ (b h ad e)) ih1 ih2
theorem BlkP.and (h : BlkP P v) (h2 : BlkP Q v) : BlkP (fun b => P b ∧ Q b) v := by
  induction h with
  | mk a b c d ih1 ih2 =>
    cases h2 with
    | mk a' b' c' d' => exact .mk (fun h ad e => ⟨a h ad e, a' h ad e⟩) (fun h ad e => ⟨b h ad e, b' h ad e⟩) (fun x hx => ih1 x hx (c' x hx)) (fun x hx => ih2 x hx (d' x hx))
theorem BlkP.rekey {key : ByteArray} (h : BlkP P v) : BlkP P (.mk key v.k v.n v.s v.lA v.lc v.l v.mA v.mc v.m) := by
  cases h with
  | mk a b c d => exact .mk a b c d
theorem VAt.rekey {key : ByteArray} (h : VAt w v) : VAt w (.mk key v.k v.n v.s v.lA v.lc v.l v.mA v.mc v.m) := by
  cases h with
  | mk a b c d e f g h i j => exact .mk a b c d e f g h i j
theorem VAt.lt (h : VAt w v) : BlkP (· < w.heap.size) v := by
  induction h with
  | mk a b c d e f g h i j ih1 ih2 =>
    refine .mk (fun h0 ad e0 => ?_) (fun h0 ad e0 => ?_) ih1 ih2
    · obtain ⟨ad', e', hlt, _⟩ := c.2 (List.length_pos_iff.2 h0)
      rw [e0] at e'; cases e'; exact hlt
    · obtain ⟨ad', e', hlt, _⟩ := f.2 (List.length_pos_iff.2 h0)
      rw [e0] at e'; cases e'; exact hlt
theorem Reads.frS {B size n : Nat} {A : Option Addr} {xs : List Value} (h : Reads w w.heap.size size A n xs) (hf : Fr S w w') (hs : n ≠ 0 → ∀ ad, A = some ad → ¬ S ad.block) : Reads w' w'.heap.size size A n xs := by
  refine ⟨h.1, fun hn => ?_⟩
  obtain ⟨ad, e, hlt, hc⟩ := h.2 hn
  refine ⟨ad, e, Nat.lt_of_lt_of_le hlt hf.size, fun j u hu => ?_⟩
  rw [hf.cell (by rw [block_of_add]; exact hlt) (by rw [block_of_add]; exact hs (by omega) ad e)]
  exact hc j u hu
theorem VAt.fr (h : VAt w v) (hf : Fr S w w') (hs : BlkP (fun b => ¬ S b) v) : VAt w' v := by
  induction h with
  | mk a b c d e f g h i j ih1 ih2 =>
    cases hs with
    | mk a' b' c' d' =>
      exact .mk a b (Reads.frS (B := 0) c hf (fun h0 => a' (by intro e0; subst e0; exact h0 rfl))) d e (Reads.frS (B := 0) f hf (fun h0 => b' (by intro e0; subst e0; exact h0 rfl))) g h (fun x hx => ih1 x hx (c' x hx)) (fun x hx => ih2 x hx (d' x hx))
end
theorem infoValue : (Tryz.prog.info? 25).map (fun i => (i.zero, i.size, i.bytes)) = some (some (.agg #[.int .i64 0, .int .i64 0, .string ⟨#[]⟩, .slice none 0 0, .slice none 0 0]), 5, 80) := by kernel_rfl
theorem infoPair : (Tryz.prog.info? 40).map (fun i => (i.zero, i.size, i.bytes)) = some (some (.agg #[.string ⟨#[]⟩, .int .i64 0, .int .i64 0, .string ⟨#[]⟩, .slice none 0 0, .slice none 0 0]), 6, 96) := by kernel_rfl
/-- a row of values of one's own -/
structure ROwn (t : TypeId) (size : Nat) (cs : MV → List Value) (base : Nat) (w : World) (v : Value) (l : List MV) : Prop where
  own : w.ownsRow base t size v l.length (l.flatMap cs)
  at_ : ∀ x ∈ l, VAt w x
  fr : ∀ x ∈ l, BlkP (base ≤ ·) x
  av : ∀ x ∈ l, BlkP (fun b => ¬ v.ownBlock = some b) x
section
variable {t : TypeId} {size : Nat} {cs : MV → List Value} {base : Nat} {w w' : World} {v v' : Value} {l : List MV}
theorem ROwn.nil (base : Nat) (w : World) : ROwn t size cs base w (.slice none 0 0) [] :=
  ⟨World.ownsRow_nil _ _ _ _, (fun x hx => by cases hx), (fun x hx => by cases hx), (fun x hx => by cases hx)⟩
theorem ROwn.below (h : ROwn t size cs base w v l) (hb : Below w.heap.size w w') : ROwn t size cs base w' v l := by
  refine ⟨⟨h.own.1, ?_⟩, fun x hx => (h.at_ x hx).bel hb, h.fr, h.av⟩
  rcases h.own.2 with h0 | ⟨g, cap, cur, hv, hg, hh, hn⟩
  · exact .inl h0
  · exact .inr ⟨g, cap, cur, hv, hg, (hb.block g (Blk.lt (t := t) hh)).trans hh, hn⟩
/-- it survives writes to other blocks -/
theorem ROwn.frS {S : Nat → Prop} (h : ROwn t size cs base w v l) (hf : Fr S w w') (hv : ∀ g, v.ownBlock = some g → ¬ S g) (hs : ∀ x ∈ l, BlkP (fun b => ¬ S b) x) : ROwn t size cs base w' v l := by
  refine ⟨⟨h.own.1, ?_⟩, fun x hx => (h.at_ x hx).fr hf (hs x hx), h.fr, h.av⟩
  rcases h.own.2 with h0 | ⟨g, cap, cur, hv', hg, hh, hn⟩
  · exact .inl h0
  · exact .inr ⟨g, cap, cur, hv', hg, (hf.block g (Blk.lt (t := t) hh) (hv g (by rw [hv']; rfl))).trans hh, hn⟩
theorem ROwn.ge (h : ROwn t size cs base w v l) : ∀ k, v.ownBlock = some k → base ≤ k := fun k hk => (World.ownsRow.lt h.own k hk).1
theorem ROwn.ltS (h : ROwn t size cs base w v l) : ∀ k, v.ownBlock = some k → k < w.heap.size := fun k hk => (World.ownsRow.lt h.own k hk).2
/-- one more at its end -/
theorem ROwn.app {x : MV} (h : ROwn t size cs base w v l) (hx : VAt w x) (hfr : BlkP (base ≤ ·) x) (hav : BlkP (fun b => ¬ v.ownBlock = some b) x) (hown : w'.ownsRow base t size v' (l.length + 1) (l.flatMap cs ++ cs x)) (hg : w.grownBy w' v.ownBlock) (hv : v'.ownBlock = v.ownBlock ∨ v'.ownBlock = some w.heap.size) : ROwn t size cs base w' v' (l ++ [x]) := by
  have hall : ∀ y ∈ l ++ [x], VAt w y ∧ BlkP (base ≤ ·) y ∧ BlkP (fun b => ¬ v.ownBlock = some b) y := fun y hy => by
    rcases List.mem_append.1 hy with hy | hy
    · exact ⟨h.at_ y hy, h.fr y hy, h.av y hy⟩
    · rw [List.mem_singleton] at hy
      subst hy
      exact ⟨hx, hfr, hav⟩
  refine ⟨?_, fun y hy => (hall y hy).1.fr (S := fun b => v.ownBlock = some b) (Fr.of_grown hg (fun k e => e)) (hall y hy).2.2, fun y hy => (hall y hy).2.1, fun y hy => ?_⟩
  · rw [List.length_append, List.flatMap_append]
    simpa using hown
  · rcases hv with hv | hv
    · rw [hv]; exact (hall y hy).2.2
    · rw [hv]
      exact (hall y hy).1.lt.mono (fun b hb e => by injection e with e; omega)
end
theorem oneC_cs (v : MV) : ∀ u ∈ v.cs, u.oneCell' = true := fun u hu => by
  simp only [MV.cs, List.mem_cons, List.not_mem_nil, or_false] at hu
  rcases hu with rfl | rfl | rfl | rfl | rfl <;> rfl
theorem oneC_pcs (v : MV) : ∀ u ∈ v.pcs, u.oneCell' = true := fun u hu => by
  rw [MV.pcs, List.mem_cons] at hu
  rcases hu with rfl | hu
  · rfl
  · exact oneC_cs v u hu
theorem step_app_row (w : World) {t tS : TypeId} {size bytes : Nat} {z : Value} {cs : MV → List Value} {ops : Array Oper} {o : Oper} {a : Act} {K : Act → World → Prop} {Q : Exit → Act → World → Prop} {E : Prop} (hinfo : (Tryz.prog.info? t).map (fun i => (i.zero, i.size, i.bytes)) = some (some z, size, bytes)) (ht : Tryz.prog.underlying tS = some (.slice t)) (hzs : z.cells.size = size) (hsz : 0 < size) (hby : bytes ≤ 100) (hcl : ∀ x, (cs x).length = size) (hc1 : ∀ x, ∀ u ∈ cs x, u.oneCell' = true)
    (hgd : o.guard = none) (d : Option Tmp) (hd : o.dst = d) (s x : Operand)
    (ho : o.op = .call { callee := .builtin .append, args := #[s, x], argTypes := #[tS, tS] })
    (base : Nat) (v : Value) (l : List MV) (hs : a.eval s = v) (hown : ROwn t size cs base w v l) (q : Nat) (hx : a.eval x = .slice (some ⟨q, 0, none⟩) 1 1) (x' : MV) (hq : Blk w q t (cs x').toArray) (hxa : VAt w x') (hfr : BlkP (base ≤ ·) x') (hav : BlkP (fun b => ¬ v.ownBlock = some b) x')
    (hlen : l.length ≤ 1000000000) (hbase : base ≤ w.heap.size)
    (h : ∀ v' w', ROwn t size cs base w' v' (l ++ [x']) → w.grownBy w' v.ownBlock → (v'.ownBlock = v.ownBlock ∨ v'.ownBlock = some w.heap.size) → K (a.put d v') w') :
    if Region.wanted o (yielded ops a.tmps) = true then Oper.wp Tryz.prog o a w K Q else E := by
  subst hd
  obtain ⟨i0, hi0, hz0, hz1, hz2⟩ := info_parts hinfo
  have hr : Reads w w.heap.size size (some ⟨q, 0, none⟩) 1 (cs x') := ⟨by rw [hcl, Nat.one_mul], fun _ => ⟨_, rfl, hq.lt, fun j u hu => by
    rw [Addr.add_lit, Nat.zero_add, hq.cell j]
    simpa using hu⟩⟩
  refine step_append_any w hgd s x tS ho base t i0 z size bytes ht hi0 hz0 hz1 hz2 hzs hsz v l.length (l.flatMap cs) hs hown.own _ _ 1 1 (cs x') hx hr (hc1 x') (by simp only [maxLen]; omega) (by
    have : (l.length + 1) * bytes ≤ (l.length + 1) * 100 := Nat.mul_le_mul_left _ hby
    omega) hbase ?_
  intro v' w' h1 h2 h3
  exact h v' w' (hown.app hxa hfr hav h1 h2 h3) h2 h3
end Go.Proofs.YteofdpogjnojnaaGreatDoor
