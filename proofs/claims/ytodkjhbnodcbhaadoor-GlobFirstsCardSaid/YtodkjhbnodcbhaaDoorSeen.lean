/-
  A map from pairs of numbers to true: the places seen.
-/
import Derived.Test.YtodkjhbnodcbhaaDoorWords2
import Derived.WideKeyPair
import Derived.Maps.Own
import Derived.Maps.Views
import Derived.ChangeKeys
namespace Go.Proofs.YtodkjhbnodcbhaaDoor
open Go.RowKit Go.WideMaps Go.Maps
set_option linter.unusedVariables false

theorem arrKey : ArrKey Tryd.prog 67 3 2 := ⟨Tryd.underlying67, by kernel_rfl, by kernel_rfl, by kernel_rfl⟩
theorem keyed2 : Keyed Tryd.prog 67 := Keyed.of_law arrKey.law
theorem zeroBool (w : World) : (zeroValue 4).run Tryd.prog w = .ok (.bool false) w := by kernel_rfl
def pairL (i k : Nat) : Lit := .string (keyBytes [.int .i64 (i : Int), .int .i64 (k : Int)])
theorem wf_nat (i : Nat) (h : i ≤ 1000000) : (Lit.int .i64 (i : Int)).wf = true := by
  simp only [Lit.wf, IntKind.min, IntKind.max, IntKind.signed, IntKind.bits, Bool.and_eq_true, decide_eq_true_eq, if_true]
  omega
theorem key_pair (i k : Nat) (hi : i ≤ 1000000) (hk : k ≤ 1000000) : keyOf Tryd.prog 67 (.agg #[.int .i64 (i : Int), .int .i64 (k : Int)]) = some (pairL i k) :=
  keyOf_pair arrKey Tryd.underlying3 ⟨Tryd.prog.types.size - 1, by kernel_rfl⟩ (wf_nat i hi) (wf_nat k hk)
theorem pairL_inj {i k i' k' : Nat} (hi : i ≤ 1000000) (hk : k ≤ 1000000) (hi' : i' ≤ 1000000) (hk' : k' ≤ 1000000) (h : pairL i k = pairL i' k') : (i, k) = (i', k') := by
  have h1 := key_pair i k hi hk
  have h2 := key_pair i' k' hi' hk'
  rw [← h] at h2
  have := keyed2.inj h1 h2
  simp only [Value.agg.injEq, Array.mk.injEq, List.cons.injEq, Value.int.injEq, true_and, and_true] at this
  rw [Int.ofNat_inj.1 this.1, Int.ofNat_inj.1 this.2]
/-- block M is a map that holds true at the pairs of S, and at no other -/
def Seen (w : World) (M : Nat) (S : List (Nat × Nat)) : Prop :=
  S.Nodup ∧ (∀ x ∈ S, x.1 ≤ 1000000 ∧ x.2 ≤ 1000000) ∧ ∃ D : DataW Unit, w.ownsMap Tryd.prog 67 (plainElem Tryd.prog 4) M S.length D ∧ IsMap D ∧ ∀ i k, i ≤ 1000000 → k ≤ 1000000 → D.atKey (pairL i k) (.lit (.bool false)) = .lit (.bool (decide ((i, k) ∈ S)))
theorem Seen.new (w : World) : Seen (w.alloc (.map #[] 0)) w.heap.size [] :=
  ⟨List.nodup_nil, by simp, _, World.ownsMap_made _ _ _ _, isMap_empty, fun i k _ _ => by simp; rfl⟩
theorem Seen.lt {w : World} {M : Nat} {S : List (Nat × Nat)} (h : Seen w M S) : M < w.heap.size := by obtain ⟨_, _, D, h, _⟩ := h; exact h.lt
theorem Seen.drewN {w : World} {M : Nat} {S : List (Nat × Nat)} (h : Seen w M S) (n : Nat) : Seen (w.drewN n) M S := h
theorem Seen.kept {w w' : World} {M : Nat} {S : List (Nat × Nat)} {row : Option Nat} (h : Seen w M S) (hg : w.grownBy w' row) (hne : some M ≠ row) : Seen w' M S := by
  obtain ⟨h1, h2, D, h3, h4, h5⟩ := h
  exact ⟨h1, h2, D, h3.kept hg hne, h4, h5⟩
theorem Seen.alloc {w : World} {M : Nat} {S : List (Nat × Nat)} (h : Seen w M S) (o : Obj) : Seen (w.alloc o) M S := by
  obtain ⟨h1, h2, D, h3, h4, h5⟩ := h
  exact ⟨h1, h2, D, h3.alloc o, h4, h5⟩
theorem Seen.not_blk {w : World} {M : Nat} {S : List (Nat × Nat)} (h : Seen w M S) {t : TypeId} {cs : Array Value} {g : Nat} (hb : Blk w g t cs) : g ≠ M := by
  rintro rfl
  obtain ⟨_, _, D, ⟨es, clock, h, _⟩, _⟩ := h
  unfold Blk at hb
  rw [h] at hb
  cases hb
theorem Seen.look {w : World} {M : Nat} {S : List (Nat × Nat)} (h : Seen w M S) {i k : Nat} (hi : i ≤ 1000000) (hk : k ≤ 1000000) :
    (Instr.lookup 55 (.map (some M)) (.agg #[.int .i64 (i : Int), .int .i64 (k : Int)]) false).run Tryd.prog w = .ok (.bool (decide ((i, k) ∈ S))) w := by
  obtain ⟨_, _, D, h3, _, h5⟩ := h
  obtain ⟨v, ps, hrun, hv⟩ := h3.lookup keyed2 Tryd.underlying55 (zeroBool w) (plainElem_bool (H := Unit) Tryd.underlying4 false) (key_pair i k hi hk)
  rw [h5 i k hi hk] at hv
  unfold plainElem at hv
  rw [Tryd.underlying4] at hv
  cases v <;> simp at hv
  rw [hrun, hv.1]
theorem Seen.put {w : World} {M : Nat} {S : List (Nat × Nat)} (h : Seen w M S) {i k : Nat} (hi : i ≤ 1000000) (hk : k ≤ 1000000) (hl : S.length < maxLen) (hn : (i, k) ∉ S) :
    ∃ w', (Instr.mapUpdate 55 (.map (some M)) (.agg #[.int .i64 (i : Int), .int .i64 (k : Int)]) (.bool true)).run Tryd.prog w = .ok () w' ∧ Seen w' M ((i, k) :: S) ∧ w.grownBy w' (some M) := by
  obtain ⟨h1, h2, D, h3, h4, h5⟩ := h
  obtain ⟨w', hrun, hown, hg⟩ := h3.update keyed2 Tryd.underlying55 hl (key_pair i k hi hk) (plainElem_bool (H := Unit) Tryd.underlying4 true)
  refine ⟨w', hrun, ⟨List.nodup_cons.2 ⟨hn, h1⟩, fun x hx => ?_, _, hown, h4.put _ _, fun i' k' hi' hk' => ?_⟩, hg⟩
  · rcases List.mem_cons.1 hx with rfl | hx
    · exact ⟨hi, hk⟩
    · exact h2 x hx
  · by_cases e : (i', k') = (i, k)
    · obtain ⟨rfl, rfl⟩ := Prod.mk.inj e
      rw [atKey_put_same h4 (keyed2.key (key_pair i' k' hi' hk'))]
      simp
    · rw [atKey_put_other (fun x => e (pairL_inj hi' hk' hi hk x)), h5 i' k' hi' hk']
      simp [List.mem_cons, e]
theorem length_le_of_subset {α : Type} [BEq α] [LawfulBEq α] : ∀ (S T : List α), S.Nodup → (∀ x ∈ S, x ∈ T) → S.length ≤ T.length
  | [], T, _, _ => by simp
  | x :: S, T, hn, hs => by
    have hx := hs x (.head _)
    have hn' := List.nodup_cons.1 hn
    have := length_le_of_subset S (T.erase x) hn'.2 (fun y hy => (List.mem_erase_of_ne (by rintro rfl; exact hn'.1 hy)).2 (hs y (.tail _ hy)))
    rw [List.length_erase_of_mem hx] at this
    have : 0 < T.length := List.length_pos_of_mem hx
    simp; omega
def grid (P Q : Nat) : List (Nat × Nat) := (List.range (P + 1)).flatMap fun i => (List.range (Q + 1)).map fun k => (i, k)
theorem grid_length (P Q : Nat) : (grid P Q).length = (P + 1) * (Q + 1) := by
  unfold grid
  rw [List.length_flatMap]
  simp [List.map_const', List.sum_replicate_nat]
theorem grid_le {P Q : Nat} {S : List (Nat × Nat)} (hn : S.Nodup) (hs : ∀ x ∈ S, x.1 ≤ P ∧ x.2 ≤ Q) : S.length ≤ (P + 1) * (Q + 1) := by
  rw [← grid_length]
  refine length_le_of_subset S _ hn (fun x hx => ?_)
  unfold grid
  rw [List.mem_flatMap]
  exact ⟨x.1, List.mem_range.2 (by have := (hs x hx).1; omega), List.mem_map.2 ⟨x.2, List.mem_range.2 (by have := (hs x hx).2; omega), rfl⟩⟩
end Go.Proofs.YtodkjhbnodcbhaaDoor
