/-
  What is to be visited, in memory: todos, the stack; slices.Clone at keys' rows, owned.
-/
import Derived.Test.YthidjdjcjjbpbaaGreatDoorSeW5
import Derived.Test.YthidjdjcjjbpbaaGreatDoorSeA
namespace Go.Proofs.YthidjdjcjjbpbaaGreatDoor
open Go.RowKit Sea
set_option linter.unusedVariables false
set_option linter.unusedSimpArgs false

/-- what is to be visited -/
structure TE where
  d : PD
  a : DA
  ks : List PK
  kv : Value
def TE.cs (e : TE) : List Value := [.string e.d.name, .slice e.a.kA e.d.rk.length e.a.kc, .int .i64 e.d.thr, .bool e.d.term, .slice e.a.pA e.d.paths.length e.a.pc, .slice e.a.xA e.d.prefs.length e.a.xc, e.kv]
def TE.todo (e : TE) : Todo := (e.d, e.ks)
/-- its keys' row is the search's own -/
structure TOk (w : World) (base : Nat) (e : TE) : Prop where
  own : OG 78 35 w base e.kv e.ks.length e.ks.flatten
  k35 : ∀ k ∈ e.ks, k.length = 35
theorem TE.len (e : TE) : e.cs.length = 7 := rfl
section
variable {S : Nat → Prop} {w w' : World} {base : Nat} {e : TE}
theorem TOk.below (h : TOk w base e) (hb : Below w.heap.size w w') : TOk w' base e := ⟨OG.below h.own hb, h.k35⟩
theorem TOk.frT (h : TOk w base e) (hf : Fr S w w') (hs : ∀ g cs, Blk w g 78 cs → ¬ S g) : TOk w' base e := ⟨OG.frT h.own hf hs, h.k35⟩
theorem TOk.mono (h : TOk w base e) {b' : Nat} (hb : b' ≤ base) : TOk w b' e := ⟨OG.mono h.own hb, h.k35⟩
theorem TOk.form (h : TOk w base e) : ∃ A c, e.kv = .slice A e.ks.length c ∧ e.ks.length ≤ c ∧ c ≤ maxLen ∧ Reads w w.heap.size 35 A e.ks.length e.ks.flatten := by
  obtain ⟨A, c, h1, h2, h3, h4, _⟩ := OG.form h.own
  exact ⟨A, c, h1, h2, h3, h4⟩
theorem TOk.one (h : TOk w base e) : ∀ u ∈ e.cs, u.oneCell' = true := fun u hu => by
  obtain ⟨A, c, h1, _⟩ := h.form
  simp only [TE.cs, List.mem_cons, List.not_mem_nil, or_false] at hu
  rcases hu with rfl | rfl | rfl | rfl | rfl | rfl | rfl <;> first | rfl | (rw [h1]; rfl)
end
/-- the stack: what is to be visited, and what was -/
structure StkAt (w : World) (m base : Nat) (vis : List ByteArray) (s : List TE) : Prop where
  blk : ∃ A c vv, Blk w m 67 #[.slice A s.length c, vv] ∧ s.length ≤ c ∧ c ≤ maxLen ∧ Reads w w.heap.size 7 A s.length (s.flatMap TE.cs) ∧ (∀ ad, A = some ad → base ≤ ad.block ∧ ad.spot = none ∧ ∃ cs, Blk w ad.block 70 cs) ∧ OG 9 1 w base vv vis.length (vis.map Value.string)
  ok : ∀ e ∈ s, TOk w base e
theorem StkAt.frT {S : Nat → Prop} {w w' : World} {m base : Nat} {vis : List ByteArray} {s : List TE} (h : StkAt w m base vis s) (hf : Fr S w w') (hm : ¬ S m) (hs : ∀ g cs, Blk w g 78 cs → ¬ S g) (ht : ∀ g cs, Blk w g 70 cs → ¬ S g)
    (hv : ∀ x vv, Blk w m 67 #[x, vv] → ∀ g, vv.ownBlock = some g → ¬ S g) : StkAt w' m base vis s := by
  obtain ⟨A, c, vv, h1, h2, h3, h4, h5, h6⟩ := h.blk
  refine ⟨⟨A, c, vv, h1.fr hf hm, h2, h3, (Reads.fr h4 hf (Nat.le_refl _) (fun ad e => by obtain ⟨_, _, cs, hc⟩ := h5 ad e; exact ht _ _ hc)).more hf.size, fun ad e => ?_, OG.fr h6 hf (hv _ _ h1)⟩, fun e he => (h.ok e he).frT hf hs⟩
  obtain ⟨g1, g2, cs, hc⟩ := h5 ad e
  exact ⟨g1, g2, cs, hc.fr hf (ht _ _ hc)⟩
theorem StkAt.below {w w' : World} {m base : Nat} {vis : List ByteArray} {s : List TE} (h : StkAt w m base vis s) (hb : Below w.heap.size w w') : StkAt w' m base vis s := by
  have hf : Fr (fun _ => False) w w' := Fr.of_below hb
  exact h.frT hf (fun e => e) (fun _ _ _ e => e) (fun _ _ _ e => e) (fun _ _ _ _ _ e => e)
/-- a clone of keys' rows is the call's own -/
def ClkP (xs : List Value) (n : Nat) (w : World) (e : Ending) (w' : World) : Prop := ∃ v, e = .returned v ∧ OG 78 35 w' w.heap.size v n xs ∧ Below w.heap.size w w'
set_option maxRecDepth 100000 in
set_option maxHeartbeats 400000 in
theorem cloneK_own (A : Option Addr) (n c : Nat) (xs : List Value) (w : World) (hn : n ≤ 1000000000) (hr : Reads w w.heap.size 35 A n xs) (h1 : ∀ u ∈ xs, u.oneCell' = true) :
    Calls Tryz.prog 38 #[.slice A n c] w fun e w' => PF (ClkP xs n w) e w' := by
  have hne := fun W => Lib.run_eql_slice_nil (P := Tryz.prog) W 23 78 A n c 0 0 Tryz.underlying23
  rcases A with _ | ad
  · have hl : n = 0 := by
      rcases Nat.eq_zero_or_pos n with h0 | h0
      · exact h0
      · obtain ⟨ad, h, _⟩ := hr.2 h0; cases h
    subst hl
    have hx : xs = [] := List.eq_nil_of_length_eq_zero (by simpa using hr.1)
    subst hx
    clear hr h1 hn
    go_enter Tryz.func38, Tryz.ntmps38
    go_wp2
    go_ret
    exact ⟨_, rfl, OG.nil _ _ _ _, Below.refl _ _⟩
  · have hr1 : Reads (w.alloc (.cells #[] 78)) (w.alloc (.cells #[] 78)).heap.size 35 (some ad) n xs := (Reads.alloc hr (Nat.le_refl _) _).more (by simp)
    have hown := emptyRowT w 78 35 w.heap.size (Nat.le_refl _)
    have hszz : w.heap.size ≤ (w.alloc (.cells #[] 78)).heap.size := by simp
    go_enter Tryz.func38, Tryz.ntmps38
    go_wp2_with (at_builtin; refine app_raw _ infoKeyG Tryz.underlying23 (by omega) (by omega) rfl _ _ rfl w.heap.size _ 0 [] rfl hown (some ad) n c xs rfl hr1 h1 (by omega) hszz ?_; intro v1 w1 hown1 hg1 hat1)
    go_ret
    rw [Nat.zero_add, List.nil_append] at hown1
    exact ⟨_, rfl, hown1, ((Below.refl _ _).alloc (Nat.le_refl _) _).grown hg1 (by simp) (by intro k hk; cases hk; exact Nat.le_refl _)⟩
end Go.Proofs.YthidjdjcjjbpbaaGreatDoor
