/-
 listing.Read: what its rounds keep.
-/
import Derived.Test.YtefkpphahimkgaaGreatDoorLiR4
import Derived.Test.YtefkpphahimkgaaGreatDoorLiS3
import Derived.Test.YtefkpphahimkgaaGreatDoorGA
namespace Go.Proofs.YtefkpphahimkgaaGreatDoor
open Go.RowKit
attribute [local go_sem ↓] Go.wp_at_zero Go.wp_at_succ
set_option linter.unusedVariables false
set_option linter.unusedSimpArgs false
def OMe (w : World) (base : Nat) (v : Value) (l : List ME) : Prop := w.ownsRow base 44 4 v l.length (l.flatMap ME.cs)
section
variable {base : Nat} {S : Nat → Prop} {w w' : World} {v : Value} {l : List ME}
theorem OMe.nil (w : World) (base : Nat) : OMe w base (.slice none 0 0) [] := World.ownsRow_nil _ _ _ _
theorem OMe.below (h : OMe w base v l) (hb : Below w.heap.size w w') : OMe w' base v l := by
 refine ⟨h.1, ?_⟩
 rcases h.2 with h0 | ⟨g, cap, cur, hv, hg, hh, hn⟩
 ·exact .inl h0
 ·exact .inr ⟨g, cap, cur, hv, hg, (hb.block g (Blk.lt (t := 44) hh)).trans hh, hn⟩
theorem OMe.fr (h : OMe w base v l) (hf : Fr S w w') (hs : ∀ g, v.ownBlock = some g → ¬ S g) : OMe w' base v l := by
 refine ⟨h.1, ?_⟩
 rcases h.2 with h0 | ⟨g, cap, cur, hv, hg, hh, hn⟩
 ·exact .inl h0
 ·exact .inr ⟨g, cap, cur, hv, hg, (hf.block g (Blk.lt (t := 44) hh) (hs g (by rw [hv]; rfl))).trans hh, hn⟩
theorem OMe.ge (h : OMe w base v l) : ∀ k, v.ownBlock = some k → base ≤ k := fun k hk => (World.ownsRow.lt h k hk).1
theorem OMe.lt (h : OMe w base v l) : ∀ k, v.ownBlock = some k → k < w.heap.size := fun k hk => (World.ownsRow.lt h k hk).2
theorem OMe.mat (h : OMe w base v l) (hwf : ∀ m ∈ l, (Lit.int .i64 m.ver).wf = true ∧ (Lit.int .i64 m.len).wf = true) (hsz : ∀ m ∈ l, m.name.size ≤ 140737488351232 ∧ m.hash.size ≤ 140737488351232) : ∃ A c, v = .slice A l.length c ∧ MAt w A c l := by
 rcases h.2 with ⟨hv, h0⟩ | ⟨g, cap, cur, hv, hg, hh, hn, hm, hcs⟩
 ·have : l = [] := List.eq_nil_of_length_eq_zero h0
  subst this
  exact ⟨none, 0, hv, MAt.nil w⟩
 ·subst hv
  exact ⟨_, _, rfl, ⟨Reads.of_own h, hn, hm, hwf, hsz⟩⟩
end
theorem infoMetaL : (Tryz.prog.info? 44).map (fun i => (i.zero, i.size, i.bytes)) = some (some (.agg #[.string ⟨#[]⟩, .int .i64 0, .int .i64 0, .string ⟨#[]⟩]), 4, 48) := by kernel_rfl
theorem one_cs (m : ME) : ∀ u ∈ m.cs, u.oneCell' = true := fun u hu => by
 simp only [ME.cs, List.mem_cons, List.not_mem_nil, or_false] at hu
 rcases hu with rfl | rfl | rfl | rfl <;> rfl
theorem app_meta (w : World) {ops : Array Oper} {rest : List Oper} {o : Oper} {a : Act} {Q : Exit → Act → World → Prop} (hgd : o.guard = none) (s x : Operand)
  (ho : o.op = .call { callee := .builtin .append, args := #[s, x], argTypes := #[22, 22] })
  (base : Nat) (v : Value) (l : List ME) (hs : a.eval s = v) (hown : OMe w base v l) (m : ME) (hx : a.eval x = .slice (some ⟨w.heap.size, 0, none⟩) 1 1)
  (hlen : l.length ≤ 1000) (hbase : base ≤ w.heap.size)
  (h : ∀ v' w', OMe w' base v' (l ++ [m]) → (w.alloc (.cells #[.string m.name, .int .i64 m.ver, .int .i64 m.len, .string m.hash] 44)).grownBy w' v.ownBlock → (v'.ownBlock = v.ownBlock ∨ v'.ownBlock = some (w.heap.size + 1)) → wpList Tryz.prog ops Q rest (a.put o.dst v') w') :
  wpList Tryz.prog ops Q (o :: rest) a (w.alloc (.cells #[.string m.name, .int .i64 m.ver, .int .i64 m.len, .string m.hash] 44)) := by
 obtain ⟨i0, hi0, hz0, hz1, hz2⟩ := info_parts infoMetaL
 have hr : Reads (w.alloc (.cells #[.string m.name, .int .i64 m.ver, .int .i64 m.len, .string m.hash] 44)) (w.alloc (.cells #[.string m.name, .int .i64 m.ver, .int .i64 m.len, .string m.hash] 44)).heap.size 4 (some ⟨w.heap.size, 0, none⟩) 1 m.cs := by
  refine ⟨rfl, fun _ => ⟨_, rfl, by simp, fun j u hu => ?_⟩⟩
  have h := (Blk.new w 44 #[.string m.name, .int .i64 m.ver, .int .i64 m.len, .string m.hash]).cell j
  rw [Addr.add_lit, Nat.zero_add, h]
  rw [ME.cs] at hu
  simpa using hu
 have hown' : OMe (w.alloc (.cells #[.string m.name, .int .i64 m.ver, .int .i64 m.len, .string m.hash] 44)) base v l := hown.below ((Below.refl _ _).alloc (Nat.le_refl _) _)
 refine wpList_append_any _ hgd s x 22 ho base 44 i0 _ 4 48 Tryz.underlying22 hi0 hz0 hz1 hz2 rfl (by omega) v l.length (l.flatMap ME.cs) hs hown' _ _ 1 1 m.cs hx hr (one_cs m) (by simp only [maxLen]; omega) (by omega) (by simp; omega) ?_
 intro v' w' h1 h2 h3
 refine h v' w' ?_ h2 (by simpa using h3)
 unfold OMe
 rw [List.length_append, List.flatMap_append]
 simpa using h1
structure RdS (w W0 : World) (L : Nat) (n e : Int) (V : World) (rv : Value) (l : List ME) : Prop where
 bel : Below w.heap.size w V
 fr : Fr (· = L) W0 V
 blk : Blk V L 24 #[.int .i64 n, .int .i64 e, rv]
 own : OMe V W0.heap.size rv l
 lt : L < W0.heap.size
 ge : w.heap.size + 2 ≤ L
section
variable {w W0 V V' : World} {L : Nat} {n e : Int} {rv : Value} {l : List ME}
theorem RdS.below (h : RdS w W0 L n e V rv l) (hb : Below V.heap.size V V') : RdS w W0 L n e V' rv l :=
 ⟨h.bel.trans (hb.mono h.bel.size), h.fr.trans (Fr.of_below hb), h.blk.below hb h.blk.lt, h.own.below hb, h.lt, h.ge⟩
theorem RdS.app (h : RdS w W0 L n e V rv l) {m : ME} {v' : Value} {o : Obj} (ho : OMe V' W0.heap.size v' (l ++ [m])) (hg : (V.alloc o).grownBy V' rv.ownBlock) : RdS w W0 L n e (V'.setCell ⟨L, 2, none⟩ v') v' (l ++ [m]) := by
  have hlt := h.lt
  have hge := h.ge
  have hW := h.fr.size
  have hrow : ∀ k, rv.ownBlock = some k → W0.heap.size ≤ k := h.own.ge
  have h1 : Blk V' L 24 #[.int .i64 n, .int .i64 e, rv] := (h.blk.alloc o).grown hg (fun e' => by have := hrow L e'.symm; omega)
  have h2 : Below W0.heap.size (V.alloc o) V' := ⟨hg.os, hg.tape, hg.output, hg.size, fun i hi => hg.block i (by simp; omega) (fun e' => by have := hrow i e'.symm; omega)⟩
  have h3 : Fr (· = L) W0 V' := by
    have h4 := h.fr.alloc o
    exact ⟨h2.os.trans h4.os, h2.tape.trans h4.tape, h2.output.trans h4.output, Nat.le_trans h4.size h2.size, fun i hi hs => (h2.block i hi).trans (h4.block i hi hs)⟩
  have h5 : Fr (· = L) W0 (V'.setCell ⟨L, 2, none⟩ v') := h3.setCell (p := ⟨L, 2, none⟩) (fun _ => rfl) _
  have h6 : Below w.heap.size w V' := by
    have h7 := h.bel.alloc h.bel.size o
    exact below_grown h7 hg (by have := h7.size; omega) (fun k hk => by have := hrow k hk; omega)
  refine ⟨h6.setCell (p := ⟨L, 2, none⟩) (by show w.heap.size ≤ L; omega) _, h5, ?_, ?_, hlt, hge⟩
  · have := h1.set_ 2 v'
    simpa using this
  · exact ho.fr ((Fr.refl (· = L) V').setCell (p := ⟨L, 2, none⟩) (fun _ => rfl) _) (fun g hg e' => by
      have h8 := ho.ge g hg
      have e2 : g = L := e'
      omega)
end
end Go.Proofs.YtefkpphahimkgaaGreatDoor
