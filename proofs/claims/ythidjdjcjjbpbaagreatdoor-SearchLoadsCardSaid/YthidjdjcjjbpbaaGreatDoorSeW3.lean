/-
  slices.Clone at strings, at keys' rows.
-/
import Derived.Test.YthidjdjcjjbpbaaGreatDoorSeW2
import Derived.Test.YthidjdjcjjbpbaaGreatDoorGA
import Derived.WalkSmall
namespace Go.Proofs.YthidjdjcjjbpbaaGreatDoor
open Go.RowKit Sea
set_option linter.unusedVariables false
set_option linter.unusedSimpArgs false

theorem emptyRowT (w : World) (t : TypeId) (size B : Nat) (hB : B ≤ w.heap.size) : (w.alloc (.cells #[] t)).ownsRow B t size (.slice (some ⟨w.heap.size, 0, none⟩) 0 0) 0 [] :=
  ⟨by simp, .inr ⟨w.heap.size, 0, #[], rfl, hB, heap_alloc_new w _, Nat.le_refl _, by simp [maxLen], by simp, by simp⟩⟩
theorem infoKey : (Tryz.prog.info? 78).map (fun i => (i.zero.map (fun z => z.cells.size), i.size, i.bytes)) = some (some 35, 35, 64) := by kernel_rfl
/-- a row of the call's own: its form -/
theorem own_form {w : World} {base : Nat} {e : TypeId} {size n : Nat} {v : Value} {xs : List Value} (h : w.ownsRow base e size v n xs) :
    ∃ A c, v = .slice A n c ∧ n ≤ c ∧ c ≤ maxLen ∧ Reads w w.heap.size size A n xs ∧ (A = none ∨ ∃ g, A = some ⟨g, 0, none⟩ ∧ base ≤ g ∧ g < w.heap.size) := by
  have h' := h
  rcases h.2 with ⟨rfl, rfl⟩ | ⟨g, cap, cur, rfl, hg, hh, hnc, hcm, _⟩
  · exact ⟨none, 0, rfl, Nat.le_refl _, by simp [maxLen], Reads.of_own h', .inl rfl⟩
  · exact ⟨_, cap, rfl, hnc, hcm, Reads.of_own h', .inr ⟨g, rfl, hg, Blk.lt (t := e) hh⟩⟩
/-- what a clone of a row is -/
def ClnP (size : Nat) (xs : List Value) (n : Nat) (w : World) (e : Ending) (w' : World) : Prop :=
  ∃ A c, e = .returned (.slice A n c) ∧ n ≤ c ∧ c ≤ maxLen ∧ Reads w' w'.heap.size size A n xs ∧ (A = none ∨ ∃ g, A = some ⟨g, 0, none⟩ ∧ w.heap.size ≤ g ∧ g < w'.heap.size) ∧ Below w.heap.size w w'
set_option maxRecDepth 100000 in
set_option maxHeartbeats 400000 in
theorem cloneS_any (A : Option Addr) (n c : Nat) (xs : List Value) (w : World) (hn : n ≤ 1000000000) (hr : Reads w w.heap.size 1 A n xs) (h1 : ∀ u ∈ xs, u.oneCell' = true) :
    Calls Tryz.prog 62 #[.slice A n c] w fun e w' => PF (ClnP 1 xs n w) e w' := by
  have hne := fun W => Lib.run_eql_slice_nil (P := Tryz.prog) W 32 9 A n c 0 0 Tryz.underlying32
  rcases A with _ | ad
  · have hl : n = 0 := by
      rcases Nat.eq_zero_or_pos n with h0 | h0
      · exact h0
      · obtain ⟨ad, h, _⟩ := hr.2 h0; cases h
    subst hl
    have hx : xs = [] := List.eq_nil_of_length_eq_zero (by simpa using hr.1)
    subst hx
    clear hr h1 hn
    go_enter Tryz.func62, Tryz.ntmps62
    go_wp2
    go_ret
    exact ⟨none, 0, rfl, Nat.le_refl _, by simp [maxLen], Reads.none_, .inl rfl, Below.refl _ _⟩
  · obtain ⟨i0, hi0, hz0, hz1, hz2⟩ := info_parts infoStr
    have hr1 : Reads (w.alloc (.cells #[] 9)) w.heap.size 1 (some ad) n xs := Reads.alloc hr (Nat.le_refl _) _
    have hown := emptyRowT w 9 1 w.heap.size (Nat.le_refl _)
    go_enter Tryz.func62, Tryz.ntmps62
    go_wp2_with (at_builtin; refine wpList_append_any _ rfl _ _ _ rfl w.heap.size 9 i0 _ 1 16 Tryz.underlying32 hi0 hz0 hz1 hz2 rfl (by omega) _ 0 [] rfl hown w.heap.size (some ad) n c _ rfl hr1 h1 (by simp only [maxLen]; omega) (by omega) (by simp) ?_; intro v1 w1 hown1 hg1 hat1)
    go_ret
    rw [Nat.zero_add, List.nil_append] at hown1
    obtain ⟨A', c', e1, e2, e3, e4, e5⟩ := own_form hown1
    refine ⟨A', c', by simp [e1], e2, e3, e4, e5, ?_⟩
    exact ((Below.refl _ _).alloc (Nat.le_refl _) _).grown hg1 (by simp) (by intro k hk; cases hk; exact Nat.le_refl _)
theorem info_partsK : ∃ i0 z0, Tryz.prog.info? 78 = some i0 ∧ i0.zero = some z0 ∧ z0.cells.size = 35 ∧ i0.size = 35 ∧ i0.bytes = 64 := by
  have h := infoKey
  cases hi : Tryz.prog.info? 78 with
  | none => rw [hi] at h; cases h
  | some i =>
    rw [hi] at h
    simp only [Option.map_some, Option.some.injEq, Prod.mk.injEq] at h
    obtain ⟨h1, h2, h3⟩ := h
    cases hz : i.zero with
    | none => rw [hz] at h1; cases h1
    | some z => rw [hz] at h1; injection h1 with h1; exact ⟨i, z, rfl, hz, h1, h2, h3⟩
set_option maxRecDepth 100000 in
set_option maxHeartbeats 400000 in
theorem cloneK_any (A : Option Addr) (n c : Nat) (xs : List Value) (w : World) (hn : n ≤ 1000000000) (hr : Reads w w.heap.size 35 A n xs) (h1 : ∀ u ∈ xs, u.oneCell' = true) :
    Calls Tryz.prog 38 #[.slice A n c] w fun e w' => PF (ClnP 35 xs n w) e w' := by
  have hne := fun W => Lib.run_eql_slice_nil (P := Tryz.prog) W 23 78 A n c 0 0 Tryz.underlying23
  rcases A with _ | ad
  · have hl : n = 0 := by
      rcases Nat.eq_zero_or_pos n with h0 | h0
      · exact h0
      · obtain ⟨ad, h, _⟩ := hr.2 h0; cases h
    subst hl
    have hx : xs = [] := List.eq_nil_of_length_eq_zero (by simpa using hr.1)
    subst hx
    clear hr h1 hn
    go_enter Tryz.func38, Tryz.ntmps38
    go_wp2
    go_ret
    exact ⟨none, 0, rfl, Nat.le_refl _, by simp [maxLen], Reads.none_, .inl rfl, Below.refl _ _⟩
  · obtain ⟨i0, z0, hi0, hz0, hzs, hz1, hz2⟩ := info_partsK
    have hr1 : Reads (w.alloc (.cells #[] 78)) w.heap.size 35 (some ad) n xs := Reads.alloc hr (Nat.le_refl _) _
    have hown := emptyRowT w 78 35 w.heap.size (Nat.le_refl _)
    go_enter Tryz.func38, Tryz.ntmps38
    go_wp2_with (at_builtin; refine wpList_append_any _ rfl _ _ _ rfl w.heap.size 78 i0 _ 35 64 Tryz.underlying23 hi0 hz0 hz1 hz2 hzs (by omega) _ 0 [] rfl hown w.heap.size (some ad) n c _ rfl hr1 h1 (by simp only [maxLen]; omega) (by omega) (by simp) ?_; intro v1 w1 hown1 hg1 hat1)
    go_ret
    rw [Nat.zero_add, List.nil_append] at hown1
    obtain ⟨A', c', e1, e2, e3, e4, e5⟩ := own_form hown1
    refine ⟨A', c', by simp [e1], e2, e3, e4, e5, ?_⟩
    exact ((Below.refl _ _).alloc (Nat.le_refl _) _).grown hg1 (by simp) (by intro k hk; cases hk; exact Nat.le_refl _)
end Go.Proofs.YthidjdjcjjbpbaaGreatDoor
