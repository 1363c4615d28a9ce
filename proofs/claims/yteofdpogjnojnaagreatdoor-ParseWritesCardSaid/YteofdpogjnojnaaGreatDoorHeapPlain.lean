/-
  A binary heap, plainly: what one step up, and one step down, keep.
-/
import Derived.Test.YteofdpogjnojnaaGreatDoorWords2
namespace Go.Proofs.YteofdpogjnojnaaGreatDoor
set_option linter.unusedVariables false

section
variable {α : Type} {lt : α → α → Bool}
/-- two places changed about -/
def sw (f : Nat → α) (i j : Nat) : Nat → α := fun k => if k = i then f j else if k = j then f i else f k
theorem sw_l (f : Nat → α) (i j : Nat) : sw f i j i = f j := if_pos rfl
theorem sw_r (f : Nat → α) (i j : Nat) : sw f i j j = f i := by
  unfold sw
  by_cases h : j = i
  · rw [if_pos h, h]
  · rw [if_neg h, if_pos rfl]
theorem sw_o (f : Nat → α) {i j k : Nat} (h1 : k ≠ i) (h2 : k ≠ j) : sw f i j k = f k := by
  unfold sw
  rw [if_neg h1, if_neg h2]
/-- an order: not both ways, and 'not less' goes on -/
structure Ord (lt : α → α → Bool) : Prop where
  asym : ∀ a b, lt a b = true → lt b a = false
  ntr : ∀ a b c, lt a b = false → lt b c = false → lt a c = false
def IsHeap (lt : α → α → Bool) (f : Nat → α) (n : Nat) : Prop := ∀ k, 0 < k → k < n → lt (f k) (f ((k - 1) / 2)) = false
/-- a heap but between j and its parent -/
def UpAt (lt : α → α → Bool) (f : Nat → α) (n j : Nat) : Prop :=
  (∀ k, 0 < k → k < n → k ≠ j → lt (f k) (f ((k - 1) / 2)) = false) ∧ ∀ k, 0 < k → k < n → (k - 1) / 2 = j → 0 < j → lt (f k) (f ((j - 1) / 2)) = false
/-- a heap but between i and its children -/
def DownAt (lt : α → α → Bool) (f : Nat → α) (n i : Nat) : Prop :=
  (∀ k, 0 < k → k < n → (k - 1) / 2 ≠ i → lt (f k) (f ((k - 1) / 2)) = false) ∧ ∀ k, 0 < k → k < n → (k - 1) / 2 = i → 0 < i → lt (f k) (f ((i - 1) / 2)) = false
theorem Ord.lt_of (h : Ord lt) {a b c : α} (h1 : lt b c = true) (h2 : lt a c = false) : lt a b = false := by
  cases e : lt a b with
  | false => rfl
  | true =>
    have h3 := h.asym _ _ h1
    -- c is not less than b, and a is not less than c: a is not less than b
    exact (h.ntr a c b h2 h3).symm.trans e |>.symm ▸ e ▸ rfl
theorem up_step (h : Ord lt) {f : Nat → α} {n j : Nat} (hu : UpAt lt f n j) (h0 : 0 < j) (hl : lt (f j) (f ((j - 1) / 2)) = true) : UpAt lt (sw f ((j - 1) / 2) j) n ((j - 1) / 2) := by
  obtain ⟨h1, h2⟩ := hu
  have hij : (j - 1) / 2 ≠ j := by omega
  refine ⟨fun k k0 kn ki => ?_, fun k k0 kn kp i0 => ?_⟩
  · by_cases kj : k = j
    · subst kj
      rw [sw_r, sw_l]
      exact h.asym _ _ hl
    · rw [sw_o f ki kj]
      by_cases p1 : (k - 1) / 2 = (j - 1) / 2
      · rw [p1, sw_l]
        refine h.lt_of hl ?_
        rw [← p1]
        exact h1 k k0 kn kj
      · by_cases p2 : (k - 1) / 2 = j
        · rw [p2, sw_r]
          exact h2 k k0 kn p2 h0
        · rw [sw_o f p1 p2]
          exact h1 k k0 kn kj
  · rw [sw_o f (i := (j - 1) / 2) (j := j) (k := ((j - 1) / 2 - 1) / 2) (by omega) (by omega)]
    by_cases kj : k = j
    · subst kj
      rw [sw_r]
      exact h1 _ i0 (by omega) hij
    · rw [sw_o f (by omega) kj]
      exact h.ntr _ _ _ (by have := h1 k k0 kn kj; rw [kp] at this; exact this) (h1 _ i0 (by omega) hij)
theorem up_stop {f : Nat → α} {n j : Nat} (hu : UpAt lt f n j) (hl : j = 0 ∨ lt (f j) (f ((j - 1) / 2)) = false) : IsHeap lt f n := by
  intro k k0 kn
  by_cases kj : k = j
  · subst kj
    rcases hl with h | h
    · omega
    · exact h
  · exact hu.1 k k0 kn kj
/-- c is the child of i that goes up: none of i's children is less -/
theorem down_step (h : Ord lt) {f : Nat → α} {n i c : Nat} (hd : DownAt lt f n i) (hc : (c - 1) / 2 = i) (c0 : 0 < c) (cn : c < n) (hm : ∀ k, 0 < k → k < n → (k - 1) / 2 = i → lt (f k) (f c) = false) (hl : lt (f c) (f i) = true) : DownAt lt (sw f i c) n c := by
  obtain ⟨h1, h2⟩ := hd
  have hic : i ≠ c := by omega
  refine ⟨fun k k0 kn kp => ?_, fun k k0 kn kp _ => ?_⟩
  · by_cases p1 : (k - 1) / 2 = i
    · rw [p1, sw_l]
      by_cases kc : k = c
      · subst kc
        rw [sw_r]
        exact h.asym _ _ hl
      · rw [sw_o f (by omega) kc]
        exact hm k k0 kn p1
    · rw [sw_o f p1 kp]
      by_cases ki : k = i
      · subst ki
        rw [sw_l]
        exact h2 c c0 cn hc k0
      · rw [sw_o f ki (by omega)]
        exact h1 k k0 kn p1
  · rw [hc, sw_l, sw_o f (by omega) (by omega)]
    have := h1 k k0 kn (by omega)
    rw [kp] at this
    exact this
theorem down_stop (h : Ord lt) {f : Nat → α} {n i : Nat} (hd : DownAt lt f n i) (hm : ∀ k, 0 < k → k < n → (k - 1) / 2 = i → lt (f k) (f i) = false) : IsHeap lt f n := by
  intro k k0 kn
  by_cases p : (k - 1) / 2 = i
  · rw [p]; exact hm k k0 kn p
  · exact hd.1 k k0 kn p
/-- the first is the least -/
theorem heap_least (h : Ord lt) {f : Nat → α} {n : Nat} (hh : IsHeap lt f n) (hr : ∀ a, lt a a = false) : ∀ k, k < n → lt (f k) (f 0) = false := by
  intro k
  induction k using Nat.strongRecOn with
  | _ k ih =>
    intro hk
    rcases Nat.eq_zero_or_pos k with h0 | h0
    · subst h0; exact hr _
    · exact h.ntr _ _ _ (hh k h0 hk) (ih ((k - 1) / 2) (by omega) (by omega))
end
end Go.Proofs.YteofdpogjnojnaaGreatDoor
