/-
  The document's table of beginnings: one more sign of the pattern, the plain law.
-/
import Derived.Test.YtcndkkagnobpmaaDoorGlobOne
namespace Go.Proofs.YtcndkkagnobpmaaDoor.Glob

theorem mt_other (c : UInt8) (p : List UInt8) (h : c ≠ 42) (s : List UInt8) : mt (c :: p) s = true ↔ ∃ x t, s = x :: t ∧ (c == 63 || c == x) = true ∧ mt p t = true := by
  have h1 : (c == 42) = false := beq_eq_false_iff_ne.2 h
  cases s with
  | nil => rw [mt, h1]; simp
  | cons x t =>
    rw [mt, h1]
    simp only [Bool.false_eq_true, if_false, Bool.and_eq_true]
    constructor
    · intro hh; exact ⟨x, t, rfl, hh.1, hh.2⟩
    · rintro ⟨y, u, e, h2, h3⟩
      simp only [List.cons.injEq] at e
      rw [e.1, e.2]; exact ⟨h2, h3⟩
theorem mt_app : ∀ (p r s : List UInt8), mt (p ++ r) s = true ↔ ∃ m, m ≤ s.length ∧ mt p (s.take m) = true ∧ mt r (s.drop m) = true
  | [], r, s => by
    constructor
    · intro h; exact ⟨0, Nat.zero_le _, by rw [List.take_zero]; exact (mt_nil []).2 rfl, h⟩
    · rintro ⟨m, hm, h1, h2⟩
      have h3 := (mt_nil _).1 h1
      have : m = 0 := by
        have := congrArg List.length h3
        rw [List.length_take, List.length_nil] at this
        omega
      subst this
      exact h2
  | c :: p, r, s => by
    by_cases hc : c = 42
    · subst hc
      show mt (42 :: (p ++ r)) s = true ↔ _
      rw [mt_star]
      constructor
      · rintro ⟨j, hj, h⟩
        obtain ⟨k, hk, h1, h2⟩ := (mt_app p r _).1 h
        rw [List.length_drop] at hk
        refine ⟨j + k, by omega, (mt_star _ _).2 ⟨j, by rw [List.length_take]; omega, ?_⟩, ?_⟩
        · rw [List.drop_take, show j + k - j = k from by omega]; exact h1
        · rw [← List.drop_drop]; exact h2
      · rintro ⟨m, hm, h1, h2⟩
        obtain ⟨j, hj, h3⟩ := (mt_star _ _).1 h1
        rw [List.length_take] at hj
        rw [List.drop_take] at h3
        refine ⟨j, by omega, (mt_app p r _).2 ⟨m - j, by rw [List.length_drop]; omega, h3, ?_⟩⟩
        rw [List.drop_drop, show j + (m - j) = m from by omega]; exact h2
    · show mt (c :: (p ++ r)) s = true ↔ _
      rw [mt_other c _ hc]
      constructor
      · rintro ⟨x, t, rfl, hx, h⟩
        obtain ⟨k, hk, h1, h2⟩ := (mt_app p r _).1 h
        exact ⟨k + 1, by simp; omega, (mt_other c _ hc _).2 ⟨x, t.take k, rfl, hx, h1⟩, h2⟩
      · rintro ⟨m, hm, h1, h2⟩
        obtain ⟨x, t, e, hx, h⟩ := (mt_other c _ hc _).1 h1
        cases s with
        | nil => simp at e
        | cons y s =>
          cases m with
          | zero => simp at e
          | succ m =>
            simp only [List.take_succ_cons, List.cons.injEq] at e
            rw [← e.2] at h
            rw [← e.1] at hx
            exact ⟨y, s, rfl, hx, (mt_app p r _).2 ⟨m, by simp at hm; omega, h, h2⟩⟩
theorem mt_one_star (s : List UInt8) : mt [42] s = true := (mt_star [] s).2 ⟨s.length, Nat.le_refl _, by rw [List.drop_length]; exact (mt_nil []).2 rfl⟩
/-- a star behind a pattern -/
theorem mt_snoc_star (p s : List UInt8) : mt (p ++ [42]) s = true ↔ ∃ m, m ≤ s.length ∧ mt p (s.take m) = true := by
  rw [mt_app]
  constructor
  · rintro ⟨m, h1, h2, _⟩; exact ⟨m, h1, h2⟩
  · rintro ⟨m, h1, h2⟩; exact ⟨m, h1, h2, mt_one_star _⟩
theorem table_star (p s : List UInt8) (k : Nat) (hk : k ≤ s.length) : mt (p ++ [42]) (s.take k) = (mt p (s.take k) || (decide (0 < k) && mt (p ++ [42]) (s.take (k - 1)))) := by
  rw [Bool.eq_iff_iff, Bool.or_eq_true, Bool.and_eq_true, decide_eq_true_iff, mt_snoc_star, mt_snoc_star]
  simp only [List.length_take, List.take_take]
  constructor
  · rintro ⟨m, h1, h2⟩
    by_cases hm : m = k
    · subst hm; rw [Nat.min_self] at h2; exact .inl h2
    · refine .inr ⟨by omega, m, by omega, ?_⟩
      rw [show min m (k - 1) = min m k from by omega]; exact h2
  · rintro (h | ⟨h0, m, h1, h2⟩)
    · exact ⟨k, by omega, by rw [Nat.min_self]; exact h⟩
    · exact ⟨m, by omega, by rw [show min m k = min m (k - 1) from by omega]; exact h2⟩
theorem table_sign (p s : List UInt8) (c : UInt8) (hc : c ≠ 42) (k : Nat) (hk : k < s.length) : mt (p ++ [c]) (s.take (k + 1)) = ((c == 63 || c == s[k]) && mt p (s.take k)) := by
  rw [Bool.eq_iff_iff, Bool.and_eq_true, mt_app]
  constructor
  · rintro ⟨m, h1, h2, h3⟩
    obtain ⟨x, t, e, hx, ht⟩ := (mt_other c _ hc _).1 h3
    have := (mt_nil _).1 ht
    subst this
    have hlen := congrArg List.length e
    rw [List.length_drop, List.length_take] at hlen
    simp only [List.length_cons, List.length_nil] at hlen
    have hm : m = k := by omega
    subst hm
    rw [List.take_succ_eq_append_getElem hk, List.drop_append_of_le_length (by rw [List.length_take]; omega), List.drop_of_length_le (by rw [List.length_take]; omega)] at e
    simp only [List.nil_append, List.cons.injEq, and_true] at e
    rw [List.take_take, show min m (m + 1) = m from by omega] at h2
    rw [e]
    exact ⟨hx, h2⟩
  · rintro ⟨h1, h2⟩
    refine ⟨k, by rw [List.length_take]; omega, by rw [List.take_take, show min k (k + 1) = k from by omega]; exact h2, (mt_other c _ hc _).2 ⟨s[k], [], ?_, h1, (mt_nil []).2 rfl⟩⟩
    rw [List.take_succ_eq_append_getElem hk, List.drop_append_of_le_length (by rw [List.length_take]; omega), List.drop_of_length_le (by rw [List.length_take]; omega)]
    rfl
theorem table_sign0 (p s : List UInt8) (c : UInt8) (hc : c ≠ 42) : mt (p ++ [c]) (s.take 0) = false := by
  rw [← Bool.not_eq_true, List.take_zero, mt_app]
  rintro ⟨m, h1, h2, h3⟩
  obtain ⟨x, t, e, _⟩ := (mt_other c _ hc _).1 h3
  simp at e
end Go.Proofs.YtcndkkagnobpmaaDoor.Glob
